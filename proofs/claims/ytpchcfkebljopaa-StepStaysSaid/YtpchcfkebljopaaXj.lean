import Derived.Test.YtpchcfkebljopaaXi
set_option linter.unusedSimpArgs false
set_option linter.unusedVariables false
set_option linter.constructorNameAsVariable false
section
-- @nole
namespace Go.Proofs.Ytpchcfkebljopaa
open Go.Cl Go Go.RowKit
set_option maxRecDepth 100000
set_option linter.constructorNameAsVariable false
def J44 (c : V0a) (s : X0a) (p : Hp) (n : Nat) (ρ : Env) (q : Hp) : Prop :=
  ∃ (k : Nat), n = 16 - k ∧ k ≤ 16 ∧ ρ 2 = .ptr p.n [] ∧ ρ 3 = .ptr (p.n + 1) [] ∧ ρ 10 = .agg (s.Bodies.map Q0a.cv) ∧ ρ 11 = I k ∧ q.t.get p.n = some (.var sh61 c.cv) ∧ q.t.get (p.n + 1) = some (.var sh66 s.cv) ∧ allFrom (rightAt c.Players) (s.Bodies.drop k) k = allFrom (rightAt c.Players) s.Bodies 0 ∧ p.n + 1 < q.n ∧ HpLe p q
def L44 (c : V0a) (s : X0a) (p : Hp) (n : Nat) (ρ : Env) (q : Hp) : Prop :=
  ∃ (k : Nat), n = 8 - k ∧ k ≤ 8 ∧ ρ 2 = .ptr p.n [] ∧ ρ 3 = .ptr (p.n + 1) [] ∧ ρ 22 = .agg (s.Score.map I) ∧ ρ 23 = I k ∧ q.t.get p.n = some (.var sh61 c.cv) ∧ q.t.get (p.n + 1) = some (.var sh66 s.cv) ∧ allFrom (scoreAt c.Players) (s.Score.drop k) k = allFrom (scoreAt c.Players) s.Score 0 ∧ p.n + 1 < q.n ∧ HpLe p q
def R44 : Rel := fun args p r => ∃ (c : V0a) (s : X0a), args = [c.cv, s.cv] ∧ (c.Tokens.l.length ≤ 1000000) ∧ (c.Rules.l.length ≤ 1000000) ∧ r = .ret (Bo (stateRight c s)) p
theorem t44 {T : XCall} (h : Has T 44 R44) (c : V0a) (s : X0a) {p : Hp} (hl : c.Tokens.l.length ≤ 1000000) (hr : c.Rules.l.length ≤ 1000000) : T 44 [c.cv, s.cv] p = .ret (Bo (stateRight c s)) p := h _ _ _ ⟨c, s, rfl, hl, hr, rfl⟩
theorem zq44 {A B : Prop} (h : A = B := by ((try simp -dsimp (disch := first | exact zdis | fail) only [zcore, zall, zopm, zop, zcallOp, qop, qbuiltin, ofOpt, List.map, reduceCtorEq, if_true, if_false, ↓reduceIte, zbin, eqRes, qassert, qnum, qshift, qun, kindOf, allocV, List.nil_append, List.append_nil, List.cons_append, List.length_cons, List.length_nil, Nat.reduceAdd, Nat.reduceEqDiff, Nat.reduceLT, Nat.reduceSub, Nat.reduceMul, Int.reduceToNat, Int.reduceLE, Int.reduceLT, Int.reduceEq, Int.reduceNeg, Int.reduceAdd, Int.reduceSub, beq_self_eq_true, cond_true, cond_false, isConstOpd, xpanic, xconv, isBytes, qconv, List.length_map, List.map_nil, List.map_cons, concrete, Option.some.injEq, exists_eq', Option.map_some, Option.map_none, List.getElem?_cons_zero, List.getElem?_cons_succ, zw44, rs44, tt3, tt34, tt61, tt63, tt64, tt66, ti3, ti34, ti61, ti63, ti64, ti66, t_60, t_105, t_106, Q0h, Y0i, Z0f, zsl63, zsl64, hl, hr, zx, hc]); rfl)) (k : B) : A := h ▸ k
theorem zno44 {P : Prop} (h : P := by intro jj; simp [CV.has, CV.hasL, fault, V0c.nohas, X0a.nohas, Q0a.nohas]) : P := h
theorem zge44 {P : Prop} (h : P := by simp (disch := first | exact zdl | fail) only [zheap]; first | done | rfl) : P := h
set_option maxHeartbeats 8000000 in
theorem c44 : Con C 44 R44 := by
  refine Q0g C ?_ ?_ ?_
  · rintro args p r r' ⟨c, s, h, hl, hr, e⟩ ⟨c', s', h', hl', hr', e'⟩
    subst e; subst e'; simp_all [V0a.inj_iff, X0a.inj_iff, Q0a.inj_iff]
  · rintro args p r ⟨c, s, h, hl, hr, rfl⟩; first | (split <;> simp; done) | (simp; done) | (simp only [resM]; split <;> simp; done) | (simp only [resD]; split <;> simp; done) 
  · rintro args p r ⟨c, s, rfl, hl, hr, rfl⟩
    refine K0f C false noExt (tabL C [(60, R60), (105, R105), (106, R106)]) xf44 (Q0f C) (V0f C _) zc44_ok (Nat.le_of_ble_eq_true (by kernel_rfl)) fun hF => ?_
    have t_60 := @t60 (tabL C [(60, R60), (105, R105), (106, R106)]) (Q0e C c60 [(105, R105), (106, R106)])
    have t_105 := @t105 (tabL C [(60, R60), (105, R105), (106, R106)]) (Z0c C _ rfl (Q0e C c105 [(106, R106)]))
    have t_106 := @t106 (tabL C [(60, R60), (105, R105), (106, R106)]) (Z0c C _ rfl (Z0c C _ rfl (Q0e C c106 [])))
    generalize tabL C [(60, R60), (105, R105), (106, R106)] = call at t_60 t_105 t_106 ⊢
    show W C false noExt call zc44 (argE [c.cv, s.cv]) p (endQ C _ _)
    have hb := s.hBodies
    have hsc := s.hScore
    (have zx := True.intro; have hc := True.intro; refine zq44 (k := ?_); clear hc; try exact True.intro)
    repeat' ((first | refine X0d ?_ ?_ | refine Q0d ?_ ?_ | refine K0d _ _ _ _ ?_ ?_ | refine Y0d ?_ ?_ | refine V0d _ _ _ _ ?_ ?_) <;> intro hc <;> (try simp only [zhd] at hc) <;> (try have hw := Z0b hc) <;> (refine zq44 (k := ?_); try exact True.intro))
    all_goals (try clear zx)
    (show W C false noExt call (ZC.loop zn44_7) _ _ _); refine Z0o C false noExt call zn44_7 _ _ _ (J44 c s p) 16 ⟨0, rfl, by omega, (by simp [put_at, X0b, Y0f]), (by simp [put_at, X0b, Y0f]), (by simp [put_at, X0b, Y0f]), (by simp [put_at, X0b, Y0f]), zge44, zge44, rfl, (by simp only [Hp.bump_n, Hp.znew_n, Hp.zset_n]; omega), zle⟩ ?_
    rintro n ρ q ⟨k, rfl, hk, e2, e3, e10, e11, g1, g2, hj, hn, hle⟩
    by_cases hlt : (k : Int) < 16
    · rw [X07 _ (l := s.Bodies) (k := k) (by omega)] at hj
      cases hw : rightAt c.Players k (nth s.Bodies k) with
      | false =>
        rw [hw] at hj
        (have zx := And.intro e2 (And.intro e3 (And.intro e10 (And.intro e11 (And.intro g1 (And.intro g2 (And.intro hlt hw)))))); have hc := True.intro; refine zq44 (k := ?_); clear hc; try exact True.intro)
        repeat' ((first | refine X0d ?_ ?_ | refine Q0d ?_ ?_ | refine K0d _ _ _ _ ?_ ?_ | refine Y0d ?_ ?_ | refine V0d _ _ _ _ ?_ ?_) <;> intro hc <;> (try simp only [zhd] at hc) <;> (try have hw := Z0b hc) <;> (refine zq44 (k := ?_); try exact True.intro))
        all_goals (try clear zx)
        refine X0e hF zlq (K0e ?_ (Z0d zno44))
        simp [stateRight, ← hj]
      | true =>
        rw [hw, Bool.true_and] at hj
        (have zx := And.intro e2 (And.intro e3 (And.intro e10 (And.intro e11 (And.intro g1 (And.intro g2 (And.intro hlt hw)))))); have hc := True.intro; refine zq44 (k := ?_); clear hc; try exact True.intro)
        repeat' ((first | refine X0d ?_ ?_ | refine Q0d ?_ ?_ | refine K0d _ _ _ _ ?_ ?_ | refine Y0d ?_ ?_ | refine V0d _ _ _ _ ?_ ?_) <;> intro hc <;> (try simp only [zhd] at hc) <;> (try have hw := Z0b hc) <;> (refine zq44 (k := ?_); try exact True.intro))
        all_goals (try clear zx)
        exact ⟨16 - (k + 1), by omega, k + 1, rfl, by omega, by simp [put_at, X0b, e2], by simp [put_at, X0b, e3], by simp [put_at, X0b, e10], by simp [put_at, X0b], by simp (disch := first | exact zdl | fail) only [zheap, g1], by simp (disch := first | exact zdl | fail) only [zheap, g2], hj, by simp only [Hp.bump_n, Hp.znew_n, Hp.zset_n]; omega, zlq⟩
    · have hk16 : k = 16 := by omega
      subst hk16
      rw [List.drop_eq_nil_of_le (by omega)] at hj
      have hA : allFrom (rightAt c.Players) s.Bodies 0 = true := hj.symm
      (have zx := And.intro e2 (And.intro e3 (And.intro e10 (And.intro e11 (And.intro g1 (And.intro g2 hlt))))); have hc := True.intro; refine zq44 (k := ?_); clear hc; try exact True.intro)
      repeat' ((first | refine X0d ?_ ?_ | refine Q0d ?_ ?_ | refine K0d _ _ _ _ ?_ ?_ | refine Y0d ?_ ?_ | refine V0d _ _ _ _ ?_ ?_) <;> intro hc <;> (try simp only [zhd] at hc) <;> (try have hw := Z0b hc) <;> (refine zq44 (k := ?_); try exact True.intro))
      all_goals (try clear zx)
      (show W C false noExt call (ZC.loop zn44_26) _ _ _); refine Z0o C false noExt call zn44_26 _ _ _ (L44 c s p) 8 ⟨0, rfl, by omega, by simp [put_at, X0b, e2], by simp [put_at, X0b, e3], by simp [put_at, X0b], by simp [put_at, X0b], g1, g2, rfl, hn, hle⟩ ?_
      clear e2 e3 e10 e11 g1 g2 hn hle hj hlt
      rintro n ρ q ⟨k, rfl, hk, e2, e3, e22, e23, g1, g2, hj, hn, hle⟩
      by_cases hlt : (k : Int) < 8
      · rw [X07 _ (l := s.Score) (k := k) (by omega)] at hj
        cases hw : scoreAt c.Players k (nth s.Score k) with
        | false =>
          rw [hw] at hj
          simp only [scoreAt] at hw
          (have zx := And.intro e2 (And.intro e3 (And.intro e22 (And.intro e23 (And.intro g1 (And.intro g2 hlt))))); have hc := True.intro; refine zq44 (k := ?_); clear hc; try exact True.intro)
          repeat' ((first | refine X0d ?_ ?_ | refine Q0d ?_ ?_ | refine K0d _ _ _ _ ?_ ?_ | refine Y0d ?_ ?_ | refine V0d _ _ _ _ ?_ ?_) <;> intro hc <;> (try simp only [zhd] at hc) <;> (try have hw := Z0b hc) <;> (refine zq44 (k := ?_); try exact True.intro))
          all_goals (try clear zx)
          all_goals first
            | (exfalso; simp_all; done)
            | (exfalso; simp_all; omega)
            | (refine X0e hF zlq (K0e ?_ (Z0d zno44)); simp [stateRight, ← hj]; done)
        | true =>
          rw [hw, Bool.true_and] at hj
          simp only [scoreAt] at hw
          (have zx := And.intro e2 (And.intro e3 (And.intro e22 (And.intro e23 (And.intro g1 (And.intro g2 hlt))))); have hc := True.intro; refine zq44 (k := ?_); clear hc; try exact True.intro)
          repeat' ((first | refine X0d ?_ ?_ | refine Q0d ?_ ?_ | refine K0d _ _ _ _ ?_ ?_ | refine Y0d ?_ ?_ | refine V0d _ _ _ _ ?_ ?_) <;> intro hc <;> (try simp only [zhd] at hc) <;> (try have hw := Z0b hc) <;> (refine zq44 (k := ?_); try exact True.intro))
          all_goals (try clear zx)
          all_goals first
            | exact ⟨8 - (k + 1), by omega, k + 1, rfl, by omega, by simp [put_at, X0b, e2], by simp [put_at, X0b, e3], by simp [put_at, X0b, e22], by simp [put_at, X0b], by simp (disch := first | exact zdl | fail) only [zheap, g1], by simp (disch := first | exact zdl | fail) only [zheap, g2], hj, by simp only [Hp.bump_n, Hp.znew_n, Hp.zset_n]; omega, zlq⟩
            | exact ⟨8 - (k + 1), by omega, k + 1, rfl, by omega, by simp [put_at, X0b, e2], by simp [put_at, X0b, e3], by simp [put_at, X0b, e22], by simp [put_at, X0b], g1, g2, hj, hn, hle⟩
            | (exfalso; simp_all; done)
            | (exfalso; simp_all; omega)
      · have hk8 : k = 8 := by omega
        subst hk8
        rw [List.drop_eq_nil_of_le (by omega)] at hj
        have hB : allFrom (scoreAt c.Players) s.Score 0 = true := hj.symm
        (have zx := And.intro e2 (And.intro e3 (And.intro e22 (And.intro e23 (And.intro g1 (And.intro g2 hlt))))); have hc := True.intro; refine zq44 (k := ?_); clear hc; try exact True.intro)
        repeat' ((first | refine X0d ?_ ?_ | refine Q0d ?_ ?_ | refine K0d _ _ _ _ ?_ ?_ | refine Y0d ?_ ?_ | refine V0d _ _ _ _ ?_ ?_) <;> intro hc <;> (try simp only [zhd] at hc) <;> (try have hw := Z0b hc) <;> (refine zq44 (k := ?_); try exact True.intro))
        all_goals (try clear zx)
        all_goals refine X0e hF zlq (K0e ?_ (Z0d zno44))
        all_goals simp [stateRight, hA, hB, *]
end Go.Proofs.Ytpchcfkebljopaa
end
section
-- @nole
namespace Go.Proofs.Ytpchcfkebljopaa
open Go.Cl Go Go.RowKit
set_option maxRecDepth 100000
set_option linter.constructorNameAsVariable false
def J58 (c : V0a) (p : Hp) (n : Nat) (ρ : Env) (q : Hp) : Prop :=
  ∃ (k : Nat), n = c.Players.toNat - k ∧ k ≤ c.Players.toNat ∧ ρ 1 = .ptr p.n [] ∧ ρ 2 = .ptr (p.n + 1) [] ∧ ρ 3 = .ptr (p.n + 2) [] ∧ ρ 14 = I c.Players ∧ ρ 15 = I k ∧ q.t.get p.n = some (.var sh61 c.cv) ∧ q.t.get (p.n + 1) = some (.var sh66 X0a.zero.cv) ∧ q.t.get (p.n + 2) = some (.var sh66 (firstK c k).cv) ∧ p.n + 2 < q.n ∧ HpLe p q
def R58 : Rel := fun args p r => ∃ (c : V0a), args = [c.cv] ∧ (c.Tokens.l.length ≤ 1000000) ∧ (c.Rules.l.length ≤ 1000000) ∧ r = .ret (firstS c).cv p
theorem t58 {T : XCall} (h : Has T 58 R58) (c : V0a) {p : Hp} (hl : c.Tokens.l.length ≤ 1000000) (hr : c.Rules.l.length ≤ 1000000) : T 58 [c.cv] p = .ret (firstS c).cv p := h _ _ _ ⟨c, rfl, hl, hr, rfl⟩
theorem zq58 {A B : Prop} (h : A = B := by ((try simp -dsimp (disch := first | exact zdis | fail) only [zcore, zall, zopm, zop, zcallOp, qop, qbuiltin, ofOpt, List.map, reduceCtorEq, if_true, if_false, ↓reduceIte, zbin, eqRes, qassert, qnum, qshift, qun, kindOf, allocV, List.nil_append, List.append_nil, List.cons_append, List.length_cons, List.length_nil, Nat.reduceAdd, Nat.reduceEqDiff, Nat.reduceLT, Nat.reduceSub, Nat.reduceMul, Int.reduceToNat, Int.reduceLE, Int.reduceLT, Int.reduceEq, Int.reduceNeg, Int.reduceAdd, Int.reduceSub, beq_self_eq_true, cond_true, cond_false, isConstOpd, xpanic, xconv, isBytes, qconv, List.length_map, List.map_nil, List.map_cons, concrete, Option.some.injEq, exists_eq', Option.map_some, Option.map_none, List.getElem?_cons_zero, List.getElem?_cons_succ, zw58, rs58, tt3, tt34, tt61, tt63, tt66, ti3, ti34, ti61, ti63, ti66, t_60, t_64, t_133, Q0h, Y0i, Z0f, zsl63, hl, hr, zx, hc]); rfl)) (k : B) : A := h ▸ k
theorem zno58 {P : Prop} (h : P := by intro jj; simp [CV.has, CV.hasL, fault, V0c.nohas, X0a.nohas, Q0a.nohas]) : P := h
theorem zge58 {P : Prop} (h : P := by simp (disch := first | exact zdl | fail) only [zheap]; first | done | rfl) : P := h
set_option maxHeartbeats 8000000 in
theorem c58 : Con C 58 R58 := by
  refine Q0g C ?_ ?_ ?_
  · rintro args p r r' ⟨c, h, hl, hr, e⟩ ⟨c', h', hl', hr', e'⟩
    subst e; subst e'; simp_all [V0a.inj_iff, X0a.inj_iff, Q0a.inj_iff]
  · rintro args p r ⟨c, h, hl, hr, rfl⟩; first | (split <;> simp; done) | (simp; done) | (simp only [resM]; split <;> simp; done) | (simp only [resD]; split <;> simp; done) 
  · rintro args p r ⟨c, rfl, hl, hr, rfl⟩
    refine K0f C false noExt (tabL C [(60, R60), (64, R64), (133, R133)]) xf58 (Q0f C) (V0f C _) zc58_ok (Nat.le_of_ble_eq_true (by kernel_rfl)) fun hF => ?_
    have t_60 := @t60 (tabL C [(60, R60), (64, R64), (133, R133)]) (Q0e C c60 [(64, R64), (133, R133)])
    have t_64 := @t64 (tabL C [(60, R60), (64, R64), (133, R133)]) (Z0c C _ rfl (Q0e C c64 [(133, R133)]))
    have t_133 := @t133 (tabL C [(60, R60), (64, R64), (133, R133)]) (Z0c C _ rfl (Z0c C _ rfl (Q0e C c133 [])))
    generalize tabL C [(60, R60), (64, R64), (133, R133)] = call at t_60 t_64 t_133 ⊢
    show W C false noExt call zc58 (argE [c.cv]) p (endQ C _ _)
    cases hL : legalC c with
    | false =>
      (have zx := hL; have hc := True.intro; refine zq58 (k := ?_); clear hc; try exact True.intro)
      repeat' ((first | refine X0d ?_ ?_ | refine Q0d ?_ ?_ | refine K0d _ _ _ _ ?_ ?_ | refine Y0d ?_ ?_ | refine V0d _ _ _ _ ?_ ?_) <;> intro hc <;> (try simp only [zhd] at hc) <;> (try have hw := Z0b hc) <;> (refine zq58 (k := ?_); try exact True.intro))
      all_goals (try clear zx)
      refine X0e hF zle (K0e ?_ (Z0d zno58))
      simp [firstS, hL]; rfl
    | true =>
      have hP := (Y0m hL).1
      have hPn : ((c.Players.toNat : Nat) : Int) = c.Players := by omega
      (have zx := hL; have hc := True.intro; refine zq58 (k := ?_); clear hc; try exact True.intro)
      repeat' ((first | refine X0d ?_ ?_ | refine Q0d ?_ ?_ | refine K0d _ _ _ _ ?_ ?_ | refine Y0d ?_ ?_ | refine V0d _ _ _ _ ?_ ?_) <;> intro hc <;> (try simp only [zhd] at hc) <;> (try have hw := Z0b hc) <;> (refine zq58 (k := ?_); try exact True.intro))
      all_goals (try clear zx)
      (show W C false noExt call (ZC.loop zn58_15) _ _ _); refine Z0o C false noExt call zn58_15 _ _ _ (J58 c p) c.Players.toNat ⟨0, rfl, by omega, (by simp [put_at, X0b, Y0f]), (by simp [put_at, X0b, Y0f]), (by simp [put_at, X0b, Y0f]), (by simp [put_at, X0b, Y0f]), (by simp [put_at, X0b, Y0f]), zge58, zge58, zge58, (by simp only [Hp.bump_n, Hp.znew_n, Hp.zset_n]; omega), zle⟩ ?_
      rintro n ρ q ⟨k, rfl, hk, e1, e2, e3, e14, e15, g1, g2, g3, hn, hle⟩
      by_cases hlt : (k : Int) < c.Players
      · have hbk := (firstK c k).hBodies
        have hk8 : k < 8 := by omega
        (have zx := And.intro e1 (And.intro e2 (And.intro e3 (And.intro e14 (And.intro e15 (And.intro g1 (And.intro g2 (And.intro g3 hlt))))))); have hc := True.intro; refine zq58 (k := ?_); clear hc; try exact True.intro)
        repeat' ((first | refine X0d ?_ ?_ | refine Q0d ?_ ?_ | refine K0d _ _ _ _ ?_ ?_ | refine Y0d ?_ ?_ | refine V0d _ _ _ _ ?_ ?_) <;> intro hc <;> (try simp only [zhd] at hc) <;> (try have hw := Z0b hc) <;> (refine zq58 (k := ?_); try exact True.intro))
        all_goals (try clear zx)
        exact ⟨c.Players.toNat - (k + 1), by omega, k + 1, rfl, by omega, by simp [put_at, X0b, e1], by simp [put_at, X0b, e2], by simp [put_at, X0b, e3], by simp [put_at, X0b, e14], by simp [put_at, X0b], by simp (disch := first | exact zdl | fail) only [zheap, g1], by simp (disch := first | exact zdl | fail) only [zheap, g2], by simp (disch := first | exact zdl | fail) only [zheap]; first | done | rfl, by simp only [Hp.bump_n, Hp.znew_n, Hp.zset_n]; omega, zlq⟩
      · have hk8 : k = c.Players.toNat := by omega
        subst hk8
        (have zx := And.intro e1 (And.intro e2 (And.intro e3 (And.intro e14 (And.intro e15 (And.intro g1 (And.intro g2 (And.intro g3 hlt))))))); have hc := True.intro; refine zq58 (k := ?_); clear hc; try exact True.intro)
        repeat' ((first | refine X0d ?_ ?_ | refine Q0d ?_ ?_ | refine K0d _ _ _ _ ?_ ?_ | refine Y0d ?_ ?_ | refine V0d _ _ _ _ ?_ ?_) <;> intro hc <;> (try simp only [zhd] at hc) <;> (try have hw := Z0b hc) <;> (refine zq58 (k := ?_); try exact True.intro))
        all_goals (try clear zx)
        refine X0e hF zlq (K0e ?_ (Z0d zno58))
        simp [firstS, hL]
def R62 : Rel := fun args p r => ∃ (c : V0a) (s : X0a) (row : Lst V0b), args = [c.cv, s.cv, row.cv V0b.cv] ∧ (c.Tokens.l.length ≤ 1000000) ∧ (c.Rules.l.length ≤ 1000000) ∧ r = .ret (stepS c row.l s).cv p
theorem t62 {T : XCall} (h : Has T 62 R62) (c : V0a) (s : X0a) (row : Lst V0b) {p : Hp} (hl : c.Tokens.l.length ≤ 1000000) (hr : c.Rules.l.length ≤ 1000000) : T 62 [c.cv, s.cv, row.cv V0b.cv] p = .ret (stepS c row.l s).cv p := h _ _ _ ⟨c, s, row, rfl, hl, hr, rfl⟩
theorem zq62 {A B : Prop} (h : A = B := by ((try simp -dsimp (disch := first | exact zdis | fail) only [zcore, zall, zopm, zop, zcallOp, qop, qbuiltin, ofOpt, List.map, reduceCtorEq, if_true, if_false, ↓reduceIte, zbin, eqRes, qassert, qnum, qshift, qun, kindOf, allocV, List.nil_append, List.append_nil, List.cons_append, List.length_cons, List.length_nil, Nat.reduceAdd, Nat.reduceEqDiff, Nat.reduceLT, Nat.reduceSub, Nat.reduceMul, Int.reduceToNat, Int.reduceLE, Int.reduceLT, Int.reduceEq, Int.reduceNeg, Int.reduceAdd, Int.reduceSub, beq_self_eq_true, cond_true, cond_false, isConstOpd, xpanic, xconv, isBytes, qconv, List.length_map, List.map_nil, List.map_cons, concrete, Option.some.injEq, exists_eq', Option.map_some, Option.map_none, List.getElem?_cons_zero, List.getElem?_cons_succ, zw62, rs62, tt3, tt61, tt66, tt186, ti3, ti61, ti66, ti186, t_44, t_137, t_138, t_139, Q0h, Y0i, Z0j, hl, hr, zx, hc]); rfl)) (k : B) : A := h ▸ k
theorem zno62 {P : Prop} (h : P := by intro jj; simp [CV.has, CV.hasL, fault, V0c.nohas, X0a.nohas]) : P := h
set_option maxHeartbeats 8000000 in
theorem c62 : Con C 62 R62 := by
  refine Q0g C ?_ ?_ ?_
  · rintro args p r r' ⟨c, s, row, h, hl, hr, e⟩ ⟨c', s', row', h', hl', hr', e'⟩
    subst e; subst e'; simp_all [V0a.inj_iff, X0a.inj_iff, K0b.inj_iff, Q0x]
  · rintro args p r ⟨c, s, row, h, hl, hr, rfl⟩; first | (split <;> simp; done) | (simp; done) | (simp only [resM]; split <;> simp; done) | (simp only [resD]; split <;> simp; done) 
  · rintro args p r ⟨c, s, row, rfl, hl, hr, rfl⟩
    refine K0f C false noExt (tabL C [(44, R44), (137, R137), (138, R138), (139, R139)]) xf62 (Q0f C) (V0f C _) zc62_ok (Nat.le_of_ble_eq_true (by kernel_rfl)) fun hF => ?_
    have t_44 := @t44 (tabL C [(44, R44), (137, R137), (138, R138), (139, R139)]) (Q0e C c44 [(137, R137), (138, R138), (139, R139)])
    have t_137 := @t137 (tabL C [(44, R44), (137, R137), (138, R138), (139, R139)]) (Z0c C _ rfl (Q0e C c137 [(138, R138), (139, R139)]))
    have t_138 := @t138 (tabL C [(44, R44), (137, R137), (138, R138), (139, R139)]) (Z0c C _ rfl (Z0c C _ rfl (Q0e C c138 [(139, R139)])))
    have t_139 := @t139 (tabL C [(44, R44), (137, R137), (138, R138), (139, R139)]) (Z0c C _ rfl (Z0c C _ rfl (Z0c C _ rfl (Q0e C c139 []))))
    generalize tabL C [(44, R44), (137, R137), (138, R138), (139, R139)] = call at t_44 t_137 t_138 t_139 ⊢
    show W C false noExt call zc62 (argE [c.cv, s.cv, row.cv V0b.cv]) p (endQ C _ _)
    cases hR : stateRight c s with
    | false =>
      (have zx := hR; have hc := True.intro; refine zq62 (k := ?_); clear hc; try exact True.intro)
      repeat' ((first | refine X0d ?_ ?_ | refine Q0d ?_ ?_ | refine K0d _ _ _ _ ?_ ?_ | refine Y0d ?_ ?_ | refine V0d _ _ _ _ ?_ ?_) <;> intro hc <;> (try simp only [zhd] at hc) <;> (try have hw := Z0b hc) <;> (refine zq62 (k := ?_); try exact True.intro))
      all_goals (try clear zx)
      refine X0e hF zle (K0e ?_ (Z0d zno62))
      simp [stepS, hR]; rfl
    | true =>
      have hrl := (Y0m (V0j hR).2.2.1).2
      have h4 := right_all hR
      have hfr := V0j hR
      have hst := stepS_of row hR
      have hF1 : (frOf c s row) = K0b.mk c s row ⟨.nil, [], fun _ => rfl⟩ := rfl
      have k1 : (frOf c s row).shots.tl = .nil := rfl
      have k2 : (frOf c s row).c_.Rules.l.length ≤ 100000 := by show c.Rules.l.length ≤ _; omega
      have k3 : ∀ b ∈ (frOf c s row).s_.Bodies, Body.right b = true := h4
      have k4 := frTurns_tl (frOf c s row)
      have k5 : HitOk (frSets (frTurns (frOf c s row))).s_ := by rw [frSets_s]; exact step_hit hR row.l
      have k6 := frHits_frame c s row
      generalize frOf c s row = f0 at hF1 k1 k2 k3 k4 k5 k6 hst
      replace hF1 := hF1.symm
      generalize hG : frHits (frSets (frTurns f0)) = f3 at k6 hst
      (have zx := And.intro hR (And.intro hF1 (And.intro hG k6)); have hc := True.intro; refine zq62 (k := ?_); clear hc; try exact True.intro)
      repeat' ((first | refine X0d ?_ ?_ | refine Q0d ?_ ?_ | refine K0d _ _ _ _ ?_ ?_ | refine Y0d ?_ ?_ | refine V0d _ _ _ _ ?_ ?_) <;> intro hc <;> (try simp only [zhd] at hc) <;> (try have hw := Z0b hc) <;> (refine zq62 (k := ?_); try exact True.intro))
      all_goals (try clear zx)
      refine X0e hF zle (K0e ?_ (Z0d zno62))
      rw [hst, k6]
end Go.Proofs.Ytpchcfkebljopaa
end
section
namespace Go.Cl
open Go.RowKit
section
variable (C : Ctx)
def St.frz (S : St) (rb : Nat) (cs : List Value) : St := { S with K := fun b o => if b = rb then (match cs[o]? with | some v => some v | none => S.K b o) else S.K b o }
theorem St.frz_le {S : St} {rb : Nat} {cs : List Value} (h : ∀ o, S.K rb o = none) : S.le (S.frz rb cs) where
  K b o v hk := by
    show (if b = rb then _ else S.K b o) = some v
    by_cases e : b = rb
    · subst e; rw [h o] at hk; cases hk
    · rw [if_neg e]; exact hk
  μ _ _ h := h
  n := Nat.le_refl _
theorem R.frz {w0 : World} {B : Nat} {S : St} {h : Heap} {w : World} (r : R w0 B S h w) {j : Nat} {v : CV} {rb : Nat} {sh : Shape} {tot : Nat} (hj : h j = some (.var v)) (hμ : S.μ j = some (.var rb sh tot)) :
    ∃ cs, FR S v cs ∧ S.le (S.frz rb cs) ∧ R w0 B (S.frz rb cs) (upd h j none) w ∧ (S.frz rb cs).lies rb 0 cs := by
  obtain ⟨hl, hB⟩ := r.live j _ _ hj hμ
  obtain ⟨hs, ⟨arr, e, cs, junk, hw, ha, hz, hf⟩, hk⟩ := hl
  have hle := St.frz_le (cs := cs) hk
  have hcell : ∀ o, w.cell? ⟨rb, o, none⟩ = arr[o]? := X0m hw
  have hlies : (S.frz rb cs).lies rb 0 cs := by
    intro o u hu
    show (if rb = rb then _ else _) = some u
    rw [if_pos rfl, Nat.zero_add, hu]
  refine ⟨cs, hf, hle, ⟨r.below, r.size, ?_, ?_, ?_, ?_⟩, hlies⟩
  · intro b o u hu
    by_cases eb : b = rb
    · subst eb
      have hu : (match cs[o]? with | some v => some v | none => S.K b o) = some u := by
        have hu : (if b = b then _ else _) = some u := hu
        rw [if_pos rfl] at hu; exact hu
      cases hc : cs[o]? with
      | none => rw [hc, hk o] at hu; cases hu
      | some x =>
        rw [hc] at hu
        have hxu : x = u := by simpa using hu
        subst hxu
        rw [hcell o, ← Array.getElem?_toList, ha, List.getElem?_append_left (List.getElem?_eq_some_iff.1 hc).1]
        exact hc
    · have hu : (if b = rb then _ else S.K b o) = some u := hu
      rw [if_neg eb] at hu
      exact r.kcell b o u hu
  · intro i hi
    refine ⟨(r.fresh i hi).1, ?_⟩
    unfold upd
    split
    · rfl
    · exact (r.fresh i hi).2
  · intro i obj loc h1 h2
    have hij : i ≠ j := by intro e; subst e; rw [Q0j] at h1; cases h1
    rw [Q0i _ _ hij] at h1
    obtain ⟨l1, l2⟩ := r.live i obj loc h1 h2
    refine ⟨l1.mono hle rfl fun o ho => ?_, l2⟩
    have hb : loc.block ≠ rb := r.inj i j _ _ _ _ hij h1 hj h2 hμ
    show (if loc.block = rb then _ else S.K loc.block o) = none
    rw [if_neg hb]; exact ho
  · intro i k oi ok li lk hik h1 h2 h3 h4
    have hi : i ≠ j := by intro e; subst e; rw [Q0j] at h1; cases h1
    have hk' : k ≠ j := by intro e; subst e; rw [Q0j] at h2; cases h2
    rw [Q0i _ _ hi] at h1
    rw [Q0i _ _ hk'] at h2
    exact r.inj i k oi ok li lk hik h1 h2 h3 h4
theorem ans_freeze {f : FuncId} {args : List CV} {p : Hp} {sh : Shape} {l : List CV} {sz : Nat} (hsz : ∀ x ∈ l, x.size = sz) (hno : ∀ j, ¬ CV.hasL j l) (h : AnsAt C f args p (.ret (.slc p.n [] 0 l.length) (p.new (.var sh (.agg l))))) : AnsAt C f args p (.ret (.lst .part l) p) := by
  refine ⟨h.1, fun w0 B S w vals r0 hV => ?_⟩
  have ha := h.2 w0 B S w vals r0 hV
  have hF := fine_of r0 hV
  have hmid : Ans C w0 B S f vals w (.ret (.lst .part l) (p.bump 1)) := by
    refine Calls.mono ha fun en w' ⟨S', x, k1, k2, k3, k4⟩ => ?_
    have hg : (p.new (.var sh (.agg l))).h p.n = some (.var (.agg l)) := by simp only [Hp.h, Hp.get_new_self]; rfl
    obtain ⟨k3a, k3b⟩ := k3
    simp only [FR] at k3a
    obtain ⟨rb, sh', l', o, cap, e1, ⟨tot, hμ, _⟩, e2, e3, e4, e5⟩ := k3a
    obtain ⟨cs, hf, hle, hr, hli⟩ := R.frz k2.r hg hμ
    have ho : o = 0 := by simp only [Shape.off, Option.some.injEq] at e3; exact e3.symm
    subst ho
    refine ⟨S'.frz rb cs, x, k1.trans ⟨hle, fun _ _ h => h⟩, ⟨?_, ?_, ?_⟩, ⟨?_, ?_⟩, k4⟩
    · refine hr.drop fun i => ?_
      by_cases hi : i = p.n
      · left; subst hi
        exact (r0.r.fresh p.n (by rw [r0.n]; exact Nat.le_refl _)).2
      · right
        rw [Q0i _ _ hi]
        simp only [Hp.h, Hp.bump_get, Hp.get_new_ne _ _ hi]
    · show S'.n = p.n + 1
      rw [k2.n, Hp.znew_n]
    · intro i sh0 v0 hi
      exact r0.good i sh0 v0 hi
    · simp only [FR]
      refine .inr ⟨rb, 0, cap, sz, cs, ?_, e4, ?_, hli, hsz, trivial⟩
      · rw [e1]; simp [Shape.sizes]
      · simp only [FR] at hf
        exact FRs.mono hle _ _ hf
    · simpa [CV.isAgg] using k3b
  refine Ans.shr C r0 hmid ?_
  refine X0e hF (fun k o h => h) (Z0e fun j hj => ?_)
  simp only [CV.has] at hj
  rcases hj with hj | hj
  · cases hj
  · exact (hno j hj).elim
end
end Go.Cl
end
section
namespace Go.Proofs.Ytpchcfkebljopaa
open Go.Cl Go Go.RowKit
def cellOf (n : Int) : V0b := ⟨true, handInput (w64 (n.tdiv 4)) (w64 (n.tdiv 7))⟩
def rowK (players : Int) (l : List Int) : Nat → List V0b
  | 0 => List.replicate players.toNat V0b.zero
  | k + 1 => if 0 < (nth l k).tmod 4 then (rowK players l k).set k (cellOf (nth l k)) else rowK players l k
theorem Z1o (players : Int) (l : List Int) : ∀ k, (rowK players l k).length = players.toNat
  | 0 => by simp [rowK]
  | k + 1 => by
    have ih := Z1o players l k
    simp only [rowK]
    split
    · simpa using ih
    · exact ih
def rowOf (players : Int) (l : List Int) : List V0b := rowK players l (min players.toNat l.length)
theorem rowOf_len (players : Int) (l : List Int) : (rowOf players l).length = players.toNat := Z1o ..
theorem mk108 (p : Hp) (n : Int) (h : 1 ≤ n ∧ n ≤ 100) : xmake C p 108 (I n) (I n) = .ret (.slc p.n [] 0 n.toNat) (p.new (.var (.n (List.replicate n.toNat sh110)) (.agg ((List.replicate n.toNat V0b.zero).map V0b.cv)))) := by
  have hz : ti110.zero = V0b.zero.cv := V0b.zcv
  have hb : (ti110.bytes * n.toNat) ≤ 281474976710656 := by show 32 * n.toNat ≤ _; omega
  simp only [xmake, tt108, ti108, tt110, List.map_replicate]
  rw [show (decide True && decide (0 < n) && decide (n ≤ 9223372036854775807) && Nat.blt 0 ti110.sh.size && Nat.ble (ti110.bytes * n.toNat) 281474976710656) = true by
    simp only [decide_true, Bool.true_and, Bool.and_eq_true, decide_eq_true_eq]
    exact ⟨⟨⟨by omega, by omega⟩, rfl⟩, Nat.ble_eq_true_of_le hb⟩]
  rw [hz]; rfl
theorem ix108 (p : Hp) (j n : Nat) (L : List V0b) (k : Int) (hg : p.t.get j = some (.var (.n (List.replicate n sh110)) (.agg (L.map V0b.cv)))) (hL : L.length = n) (hk : 0 ≤ k ∧ k < n) : qindexAddr C p.h 108 (.slc j [] 0 n) (I k) = some (.ptr j [k.toNat]) := by
  have ht : tgt p.h (.ptr j []) = some (.agg (L.map V0b.cv)) := by
    simp only [tgt, Hp.h, hg, Option.map_some, XObj.obj, CV.at]
  have hs : CV.shape (.agg (L.map V0b.cv)) = .n (List.replicate (L.map V0b.cv).length sh110) := by
    simp only [CV.shape, V0k (f := V0b.cv) (s := sh110) V0b.shape, List.length_map]
  simp only [qindexAddr, tt108, ti108, tt110, ht]
  rw [if_pos ⟨hs, hk⟩]
  simp
theorem sa108 (L : List V0b) (k : Nat) (c : V0b) (h : k < L.length) : CV.set (.agg (L.map V0b.cv)) [k] c.cv = .agg ((L.set k c).map V0b.cv) := by
  rw [V1s V0b.cv h, List.map_set]; rfl
theorem take_nx {α : Type} [Inhabited α] {l : List α} {k : Nat} (h : k < l.length) : l.take (k + 1) = l.take k ++ [nth l k] := by
  rw [List.take_add_one, K0w h]; rfl
def rowL (players : Int) (r : Lst Int) : Lst V0b := ⟨.part, rowOf players r.l, nofun⟩
def rowsOf (players : Int) (l : List (Lst Int)) : List (Lst V0b) := (l.take 40).map (rowL players)
def ownL {α : Type} (l : List α) (n : Nat) : Lst α := if h : l = [] then ⟨.nil, [], fun _ => rfl⟩ else ⟨.own n, l, nofun⟩
theorem ownL_nil {α : Type} (n : Nat) : ownL ([] : List α) n = ⟨.nil, [], fun _ => rfl⟩ := by simp [ownL]
theorem ownL_cons {α : Type} (x : α) (m : List α) (n : Nat) : ownL (x :: m) n = ⟨.own n, x :: m, nofun⟩ := by simp [ownL]
noncomputable def ownH {α : Type} (l : List α) (p : Hp) : Hp := if l = [] then p else p.new (.tail l.length)
theorem ownH_nil {α : Type} (p : Hp) : ownH ([] : List α) p = p := by simp [ownH]
theorem ownH_cons {α : Type} (x : α) (m : List α) (p : Hp) : ownH (x :: m) p = p.new (.tail (m.length + 1)) := by simp [ownH]
theorem weakL_mem {α : Type} {f : α → CV} {σ : Nat → Nat} {n : Nat} : ∀ l : List α, (∀ x ∈ l, ∀ j, ¬ (f x).has j) → CV.weakL σ n (l.map f) (l.map f)
  | [], _ => trivial
  | x :: l, h => ⟨CV.weak_refl _ fun j hj => (h x (by simp) j hj).elim, weakL_mem l fun y hy => h y (by simp [hy])⟩
theorem shr_ownL {α : Type} {f : α → CV} {args : List CV} {p q : Hp} (hF : Fine args p) (acc : Lst α) (hle : HpLe p q) (happ : acc.tl = .nil ∨ ∃ j, acc.tl = .own j ∧ p.n ≤ j ∧ q.t.get j = some (.tail acc.l.length) ∧ 0 < acc.l.length) (hf : ∀ x ∈ acc.l, ∀ j, ¬ (f x).has j) : ShrR p (.ret (Lst.cv f acc) q) (.ret (Lst.cv f (ownL acc.l p.n)) (ownH acc.l p)) := by
  obtain ⟨tl, l, o⟩ := acc
  simp only at happ hf
  rcases happ with h | ⟨j, h, hj, hg, h0⟩
  · subst h
    have := o rfl; subst this
    simp only [ownL_nil, ownH_nil]
    exact X0e hF hle (Z0e fun j hj => by simp [Lst.cv, CV.has, CV.hasL] at hj)
  · subst h
    have hne : l ≠ [] := by intro e; subst e; simp at h0
    simp only [ownL, ownH, dif_neg hne, if_neg hne]
    refine V1t hF (J := j) rfl (fun k o h => ?_) ⟨_, hg, rfl⟩ ?_
    · have hd := hF.dom k o h
      exact ⟨hd, by omega, .inl ⟨h, hle k o h⟩⟩
    · simp only [Lst.cv, CV.weak, Tail.weak]
      exact ⟨⟨(if_pos rfl).symm, Nat.lt_succ_self _⟩, weakL_mem l hf⟩
def fixOp (x : Y0b) : Y0c := if opRight (handOp x) = true then handOp x else ⟨13, 0, 0⟩
def rulesOf (l : List Y0b) : List Y0c := (l.take 16).map fixOp
theorem fixOp_right (x : Y0b) : opRight (fixOp x) = true := by
  unfold fixOp
  split
  · assumption
  · decide
theorem X1q (l : List Y0b) : ruleRight (rulesOf l) = true := by
  simp only [ruleRight, Bool.and_eq_true, decide_eq_true_eq]
  refine ⟨by simp [rulesOf]; omega, ?_⟩
  rw [List.all_eq_true]
  intro o ho
  obtain ⟨x, _, rfl⟩ := List.mem_map.1 ho
  exact fixOp_right x
def rateF (n : Int) : Nat := (f64.div (FloatKind.f64.nearest n) 4616189618054758400).getD 0
def halfF (n : Int) : Nat := (f64.div (FloatKind.f64.nearest n) 4611686018427387904).getD 0
def deptF (n : Int) : Nat := (f64.add 4607182418800017408 (halfF n)).getD 0
def rOk (r : Nat) : Bool := !(oddF r || (f64.order r 0 == some .lt))
def dOk (d : Nat) : Bool := !(oddF d || (f64.order d 4607182418800017408 == some .lt) || (f64.order d 4652007308841189376 == some .gt))
theorem K1b {r d : Nat} (h1 : rOk r = true) (h2 : dOk d = true) : bucketOk r d = true := by
  simp only [rOk, dOk, Bool.not_eq_true', Bool.or_eq_false_iff] at h1 h2
  simp [bucketOk, h1.1, h1.2, h2.1.1, h2.1.2, h2.2]
theorem rate_all : (List.range 9).all (fun k => (f64.div (FloatKind.f64.nearest (Int.ofNat k)) 4616189618054758400).isSome && rOk (rateF (Int.ofNat k))) = true := by kernel_rfl
theorem dept_all : (List.range 40).all (fun k => (f64.div (FloatKind.f64.nearest (Int.ofNat k)) 4611686018427387904).isSome && (f64.add 4607182418800017408 (halfF (Int.ofNat k))).isSome && dOk (deptF (Int.ofNat k))) = true := by kernel_rfl
theorem Y09 {o : Option Nat} (h : o.isSome = true) : o = some (o.getD 0) := by cases o <;> simp at h ⊢
theorem rate_ok {n : Int} (h : 0 ≤ n ∧ n < 9) : f64.div (FloatKind.f64.nearest n) 4616189618054758400 = some (rateF n) ∧ rOk (rateF n) = true := by
  have := List.all_eq_true.1 rate_all n.toNat (by simp; omega)
  rw [show Int.ofNat n.toNat = n by simp; omega, Bool.and_eq_true] at this
  exact ⟨Y09 this.1, this.2⟩
theorem dept_ok {n : Int} (h : 0 ≤ n ∧ n < 40) : f64.div (FloatKind.f64.nearest n) 4611686018427387904 = some (halfF n) ∧ f64.add 4607182418800017408 (halfF n) = some (deptF n) ∧ dOk (deptF n) = true := by
  have := List.all_eq_true.1 dept_all n.toNat (by simp; omega)
  rw [show Int.ofNat n.toNat = n by simp; omega, Bool.and_eq_true, Bool.and_eq_true] at this
  exact ⟨Y09 this.1.1, Y09 this.1.2, this.2⟩
def cfgP (x : K0a) : Int := if x.Players.tmod 11 = 10 then 1 + pick (w64 (x.Players.tdiv 11)) 8 else 1 + pick x.Players 4
def cfgRate (x : K0a) : Nat := if 0 < x.Rate.tmod 3 then 4613937818241073152 else rateF (pick x.Rate 9)
def cfgDepth (x : K0a) : Nat := if 0 < x.Rate.tmod 3 then 4632233691727265792 else deptF (pick (w64 (x.Rate.tdiv 9)) 40)
def tokAt (x : K0a) (i : Nat) : Int := pick (w64 (x.Seed.tdiv 3)) 1000000 * 10 + i
def cfgTok (x : K0a) (k : Nat) : List Int := (List.range k).map (tokAt x)
def cfgWith (x : K0a) (tk : Lst Int) : V0a :=
  ⟨cfgP x, 1 + pick x.Period 3, pick x.Grace 8, pick x.Start 6, 5 + pick x.Frames 90, pick x.Seed 2147483648, cfgRate x, cfgDepth x, partL (rulesOf x.Rules.l), tk⟩
def cfgOf (x : K0a) : V0a := cfgWith x (partL (cfgTok x (cfgP x).toNat))
theorem Q04 (x : K0a) : 1 ≤ cfgP x ∧ cfgP x ≤ 8 := by
  unfold cfgP
  split
  · have := K0h (n := w64 (x.Players.tdiv 11)) (m := 8) (by omega); omega
  · have := K0h (n := x.Players) (m := 4) (by omega); omega
theorem X1a (x : K0a) (k : Nat) : cfgTok x (k + 1) = cfgTok x k ++ [tokAt x k] := by simp [cfgTok, List.range_succ]
theorem Z03 (x : K0a) (k : Nat) : (cfgTok x k).length = k := by simp [cfgTok]
theorem weak_cfg (x : K0a) (tk : Lst Int) (n : Nat) (h : tk.tl = .nil ∨ (∃ j, tk.tl = .own j) ∧ 0 < tk.l.length) : CV.weak (fun k => k) n (cfgWith x tk).cv (cfgWith x (partL tk.l)).cv := by
  have h1 : CV.weak (fun k => k) n (Lst.cv Y0c.cv (partL (rulesOf x.Rules.l))) (Lst.cv Y0c.cv (partL (rulesOf x.Rules.l))) := Z0e fun j hj => by
    have hj := (Lst.has _ Y0c.nohas _ j).1 hj
    unfold partL at hj
    split at hj <;> simp at hj
  have h2 := Q0y (f := I) I_has tk n h
  simp only [cfgWith, V0a.cv, CV.weak, CV.weakL]
  exact ⟨trivial, trivial, trivial, trivial, trivial, trivial, trivial, trivial, h1, h2, trivial⟩
def oneTok (k : Nat) : List Int := (List.range k).map Int.ofNat
theorem V1g (k : Nat) : oneTok (k + 1) = oneTok k ++ [(k : Int)] := by simp [oneTok, List.range_succ]
theorem oneTok_len (k : Nat) : (oneTok k).length = k := by simp [oneTok]
def oneWith (players : Int) (rules : Lst Y0c) (tk : Lst Int) : V0a := ⟨players, 1, 0, 0, 50, 0, 4607182418800017408, 4617315517961601024, rules, tk⟩
def oneC (players : Int) (rules : Lst Y0c) : V0a := oneWith players rules (partL (oneTok players.toNat))
theorem weak_one (players : Int) (rules : Lst Y0c) (tk : Lst Int) (n : Nat) (hr : ∀ j, rules.tl = .own j → j < n) (h : tk.tl = .nil ∨ (∃ j, tk.tl = .own j) ∧ 0 < tk.l.length) : CV.weak (fun k => k) n (oneWith players rules tk).cv (oneWith players rules (partL tk.l)).cv := by
  have h1 : CV.weak (fun k => k) n (Lst.cv Y0c.cv rules) (Lst.cv Y0c.cv rules) := Z0e fun j hj => hr j ((Lst.has _ Y0c.nohas _ j).1 hj)
  have h2 := Q0y (f := I) I_has tk n h
  simp only [oneWith, V0a.cv, CV.weak, CV.weakL]
  exact ⟨trivial, trivial, trivial, trivial, trivial, trivial, trivial, trivial, h1, h2, trivial⟩
def cellV (b x y : Int) : V0b := ⟨true, ⟨b, x, y⟩⟩
def kC : V0a := oneC 1 ⟨.nil, [], fun _ => rfl⟩
def kS : X0a := stepS kC [cellV 0 64 0] (firstS kC)
theorem kC_legal : legalC kC = true := by kernel_rfl
theorem kS_x : (nth kS.Bodies 0).X = 2052 := by kernel_rfl
theorem kS_f : kS.Frame = 1 := by kernel_rfl
theorem kS_k : (nth kS.Bodies 0).Kind = 1 := by kernel_rfl
end Go.Proofs.Ytpchcfkebljopaa
end
section
-- @nole
namespace Go.Proofs.Ytpchcfkebljopaa
open Go.Cl Go Go.RowKit
set_option maxRecDepth 100000
set_option linter.constructorNameAsVariable false
def R134 : Rel := fun args p r => ∃ (b x y : Int), args = [I b, I x, I y] ∧ r = .ret (cellV b x y).cv p
theorem t134 {T : XCall} (h : Has T 134 R134) (b x y : Int) {p : Hp}  : T 134 [I b, I x, I y] p = .ret (cellV b x y).cv p := h _ _ _ ⟨b, x, y, rfl, rfl⟩
theorem zq134 {A B : Prop} (h : A = B := by ((try simp -dsimp (disch := first | exact zdis | fail) only [zcore, zall, zopm, zop, zcallOp, qop, qbuiltin, ofOpt, List.map, reduceCtorEq, if_true, if_false, ↓reduceIte, zbin, eqRes, qassert, qnum, qshift, qun, kindOf, allocV, List.nil_append, List.append_nil, List.cons_append, List.length_cons, List.length_nil, Nat.reduceAdd, Nat.reduceEqDiff, Nat.reduceLT, Nat.reduceSub, Nat.reduceMul, Int.reduceToNat, Int.reduceLE, Int.reduceLT, Int.reduceEq, Int.reduceNeg, Int.reduceAdd, Int.reduceSub, beq_self_eq_true, cond_true, cond_false, isConstOpd, xpanic, xconv, isBytes, qconv, List.length_map, List.map_nil, List.map_cons, concrete, Option.some.injEq, exists_eq', Option.map_some, Option.map_none, List.getElem?_cons_zero, List.getElem?_cons_succ, zw134, rs134, tt36, tt110, ti36, ti110, Z0r, Z0l, zx, hc]); rfl)) (k : B) : A := h ▸ k
theorem zno134 {P : Prop} (h : P := by intro jj; simp [CV.has, CV.hasL, fault, V0c.nohas, V0b.nohas, Q0c.nohas]) : P := h
set_option maxHeartbeats 8000000 in
theorem c134 : Con C 134 R134 := by
  refine Q0g C ?_ ?_ ?_
  · rintro args p r r' ⟨b, x, y, h, e⟩ ⟨b', x', y', h', e'⟩
    subst e; subst e'; simp_all [V0b.inj_iff, Q0c.inj_iff]
  · rintro args p r ⟨b, x, y, h, rfl⟩; first | (split <;> simp; done) | (simp; done) | (simp only [resM]; split <;> simp; done) | (simp only [resD]; split <;> simp; done) 
  · rintro args p r ⟨b, x, y, rfl, rfl⟩
    refine K0f C false noExt (tabL C []) xf134 (Q0f C) (V0f C _) zc134_ok (Nat.le_of_ble_eq_true (by kernel_rfl)) fun hF => ?_
    generalize tabL C [] = call
    show W C false noExt call zc134 (argE [I b, I x, I y]) p (endQ C _ _)
    (have zx := True.intro; have hc := True.intro; refine zq134 (k := ?_); clear hc; try exact True.intro)
    repeat' ((first | refine X0d ?_ ?_ | refine Q0d ?_ ?_ | refine K0d _ _ _ _ ?_ ?_ | refine Y0d ?_ ?_ | refine V0d _ _ _ _ ?_ ?_) <;> intro hc <;> (try simp only [zhd] at hc) <;> (try have hw := Z0b hc) <;> (refine zq134 (k := ?_); try exact True.intro))
    all_goals (try clear zx)
    exact X0e hF zle (K0e rfl (Z0d zno134))
theorem bld61 (a b c : Int) (r d : Nat) (l : Lst Y0c) : qbuild C 61 [(0, I a), (1, I b), (4, I c), (6, Fl r), (7, Fl d), (8, Lst.cv Y0c.cv l)] = some (V0a.mk a b 0 0 c 0 r d l ⟨.nil, [], fun _ => rfl⟩).cv := K0g C tt61 (by simp only [partsOk, setAll, CV.shape, sh61, List.all_cons, List.all_nil, List.getElem?_cons_zero, List.getElem?_cons_succ, Bool.and_true, decide_true, Lst.cv]) rfl
theorem nilOp : CV.lst Tail.nil [] = Lst.cv Y0c.cv ⟨.nil, [], fun _ => rfl⟩ := rfl
def J63 (players : Int) (rules : Lst Y0c) (p : Hp) (n : Nat) (ρ : Env) (q : Hp) : Prop :=
  ∃ (k : Nat) (tk : Lst Int), n = players.toNat - k ∧ k ≤ players.toNat ∧ ρ 0 = I players ∧ ρ 4 = .ptr p.n [] ∧ ρ 5 = .ptr (p.n + 1) [] ∧ ρ 6 = I k ∧ q.t.get p.n = some (.var sh61 V0a.zero.cv) ∧ q.t.get (p.n + 1) = some (.var sh61 (oneWith players rules tk).cv) ∧ tk.l = oneTok k ∧ (tk.tl = .nil ∨ ∃ j, tk.tl = .own j ∧ p.n + 1 < j ∧ j < q.n ∧ q.t.get j = some (.tail tk.l.length) ∧ 0 < tk.l.length) ∧ p.n + 1 < q.n ∧ HpLe p q
def R63 : Rel := fun args p r => ∃ (players : Int) (rules : Lst Y0c), args = [I players, Lst.cv Y0c.cv rules] ∧ (1 ≤ players ∧ players ≤ 1000) ∧ r = .ret (oneC players rules).cv p
theorem t63 {T : XCall} (h : Has T 63 R63) (players : Int) (rules : Lst Y0c) {p : Hp} (h1 : 1 ≤ players ∧ players ≤ 1000) : T 63 [I players, Lst.cv Y0c.cv rules] p = .ret (oneC players rules).cv p := h _ _ _ ⟨players, rules, rfl, h1, rfl⟩
theorem zq63 {A B : Prop} (h : A = B := by ((try simp -dsimp (disch := first | exact zdis | fail) only [zcore, zall, zopm, zop, zcallOp, qop, qbuiltin, ofOpt, List.map, reduceCtorEq, if_true, if_false, ↓reduceIte, zbin, eqRes, qassert, qnum, qshift, qun, kindOf, allocV, List.nil_append, List.append_nil, List.cons_append, List.length_cons, List.length_nil, Nat.reduceAdd, Nat.reduceEqDiff, Nat.reduceLT, Nat.reduceSub, Nat.reduceMul, Int.reduceToNat, Int.reduceLE, Int.reduceLT, Int.reduceEq, Int.reduceNeg, Int.reduceAdd, Int.reduceSub, beq_self_eq_true, cond_true, cond_false, isConstOpd, xpanic, xconv, isBytes, qconv, List.length_map, List.map_nil, List.map_cons, concrete, Option.some.injEq, exists_eq', Option.map_some, Option.map_none, List.getElem?_cons_zero, List.getElem?_cons_succ, zw63, rs63, tt3, tt24, tt61, ti3, ti24, ti61, Q0h, zsl24, bld61, h1, zx, hc]); rfl)) (k : B) : A := h ▸ k
theorem zge63 {P : Prop} (h : P := by simp (disch := first | exact zdl | fail) only [zheap]; first | done | rfl) : P := h
set_option maxHeartbeats 8000000 in
theorem c63 : Con C 63 R63 := by
  refine Q0g C ?_ ?_ ?_
  · rintro args p r r' ⟨players, rules, h, h1, e⟩ ⟨players', rules', h', h1', e'⟩
    subst e; subst e'; simp_all [V0a.inj_iff, Y0u, Q0n]
  · rintro args p r ⟨players, rules, h, h1, rfl⟩; first | (split <;> simp; done) | (simp; done) | (simp only [resM]; split <;> simp; done) | (simp only [resD]; split <;> simp; done) 
  · rintro args p r ⟨players, rules, rfl, h1, rfl⟩
    refine K0f C false noExt (tabL C []) xf63 (Q0f C) (V0f C _) zc63_ok (Nat.le_of_ble_eq_true (by kernel_rfl)) fun hF => ?_
    generalize tabL C [] = call
    show W C false noExt call zc63 (argE [I players, Lst.cv Y0c.cv rules]) p (endQ C _ _)
    have hPn : ((players.toNat : Nat) : Int) = players := by omega
    have hre : ∀ j, rules.tl = .own j → j < p.n := fun j hj => hF.lt_arg (a := Lst.cv Y0c.cv rules) (by simp) j ((Lst.has _ Y0c.nohas _ j).2 hj)
    (have zx := True.intro; have hc := True.intro; refine zq63 (k := ?_); clear hc; try exact True.intro)
    repeat' ((first | refine X0d ?_ ?_ | refine Q0d ?_ ?_ | refine K0d _ _ _ _ ?_ ?_ | refine Y0d ?_ ?_ | refine V0d _ _ _ _ ?_ ?_) <;> intro hc <;> (try simp only [zhd] at hc) <;> (try have hw := Z0b hc) <;> (refine zq63 (k := ?_); try exact True.intro))
    all_goals (try clear zx)
    (show W C false noExt call (ZC.loop zn63_9) _ _ _); refine Z0o C false noExt call zn63_9 _ _ _ (J63 players rules p) players.toNat ⟨0, ⟨.nil, [], fun _ => rfl⟩, rfl, by omega, (by simp [put_at, X0b, Y0f]), (by simp [put_at, X0b, Y0f]), (by simp [put_at, X0b, Y0f]), (by simp [put_at, X0b, Y0f]), zge63, zge63, rfl, .inl rfl, by simp only [Hp.bump_n, Hp.znew_n, Hp.zset_n]; omega, zle⟩ ?_
    rintro n ρ q ⟨k, ⟨tl, al, ao⟩, rfl, hk, e0, e4, e5, e6, g1, g2, hal, happ, hn, hle⟩
    have hln : al.length = k := by simp only at hal; rw [hal, oneTok_len]
    by_cases hlt : (k : Int) < players
    · have htk : (oneWith players rules ⟨tl, al, ao⟩).Tokens = ⟨tl, al, ao⟩ := rfl
      rcases happ with ht | ⟨j, ht, hj1, hj2, g4, hj4⟩
      · simp only at ht
        subst ht
        (have zx := And.intro e0 (And.intro e4 (And.intro e5 (And.intro e6 (And.intro g1 (And.intro g2 (And.intro hlt htk)))))); have hc := True.intro; refine zq63 (k := ?_); clear hc; try exact True.intro)
        repeat' ((first | refine X0d ?_ ?_ | refine Q0d ?_ ?_ | refine K0d _ _ _ _ ?_ ?_ | refine Y0d ?_ ?_ | refine V0d _ _ _ _ ?_ ?_) <;> intro hc <;> (try simp only [zhd] at hc) <;> (try have hw := Z0b hc) <;> (refine zq63 (k := ?_); try exact True.intro))
        all_goals (try clear zx)
        exact ⟨players.toNat - (k + 1), by omega, k + 1, ⟨.own q.n, al ++ [(k : Int)], nofun⟩, rfl, by omega, by simp [put_at, X0b, e0], by simp [put_at, X0b, e4], by simp [put_at, X0b, e5], by simp [put_at, X0b], by simp (disch := first | exact zdl | fail) only [zheap, g1], by simp (disch := first | exact zdl | fail) only [zheap]; first | done | rfl, by simp only at hal; rw [hal, V1g], .inr ⟨q.n, rfl, by omega, by simp only [Hp.bump_n, Hp.znew_n, Hp.zset_n]; omega, by simp (disch := first | exact zdl | fail) only [zheap, List.length_append, List.length_cons, List.length_nil], by simp⟩, by simp only [Hp.bump_n, Hp.znew_n, Hp.zset_n]; omega, zlq⟩
      · simp only at ht g4 hj4
        subst ht
        (have zx := And.intro e0 (And.intro e4 (And.intro e5 (And.intro e6 (And.intro g1 (And.intro g2 (And.intro hlt (And.intro g4 htk))))))); have hc := True.intro; refine zq63 (k := ?_); clear hc; try exact True.intro)
        repeat' ((first | refine X0d ?_ ?_ | refine Q0d ?_ ?_ | refine K0d _ _ _ _ ?_ ?_ | refine Y0d ?_ ?_ | refine V0d _ _ _ _ ?_ ?_) <;> intro hc <;> (try simp only [zhd] at hc) <;> (try have hw := Z0b hc) <;> (refine zq63 (k := ?_); try exact True.intro))
        all_goals (try clear zx)
        exact ⟨players.toNat - (k + 1), by omega, k + 1, ⟨.own q.n, al ++ [(k : Int)], nofun⟩, rfl, by omega, by simp [put_at, X0b, e0], by simp [put_at, X0b, e4], by simp [put_at, X0b, e5], by simp [put_at, X0b], by simp (disch := first | exact zdl | fail) only [zheap, g1], by simp (disch := first | exact zdl | fail) only [zheap]; first | done | rfl, by simp only at hal; rw [hal, V1g], .inr ⟨q.n, rfl, by omega, by simp only [Hp.bump_n, Hp.znew_n, Hp.zset_n]; omega, by simp (disch := first | exact zdl | fail) only [zheap, List.length_append, List.length_cons, List.length_nil], by simp⟩, by simp only [Hp.bump_n, Hp.znew_n, Hp.zset_n]; omega, zlq⟩
    · have hk2 : k = players.toNat := by omega
      (have zx := And.intro e0 (And.intro e4 (And.intro e5 (And.intro e6 (And.intro g1 (And.intro g2 hlt))))); have hc := True.intro; refine zq63 (k := ?_); clear hc; try exact True.intro)
      repeat' ((first | refine X0d ?_ ?_ | refine Q0d ?_ ?_ | refine K0d _ _ _ _ ?_ ?_ | refine Y0d ?_ ?_ | refine V0d _ _ _ _ ?_ ?_) <;> intro hc <;> (try simp only [zhd] at hc) <;> (try have hw := Z0b hc) <;> (refine zq63 (k := ?_); try exact True.intro))
      all_goals (try clear zx)
      refine X0e hF zlq ?_
      have hw := weak_one players rules ⟨tl, al, ao⟩ p.n hre (happ.imp id fun ⟨j, h1, _, _, _, h5⟩ => ⟨⟨j, h1⟩, h5⟩)
      simp only at hal
      subst hk2
      subst hal
      exact hw
def R59 : Rel := fun args p r => args = [] ∧ r = .ret (Bo true) p
theorem t59 {T : XCall} (h : Has T 59 R59)  {p : Hp}  : T 59 [] p = .ret (Bo true) p := h _ _ _ ⟨rfl, rfl⟩
theorem zq59 {A B : Prop} (h : A = B := by ((try simp -dsimp (disch := first | exact zdis | fail) only [zcore, zall, zopm, zop, zcallOp, qop, qbuiltin, ofOpt, List.map, reduceCtorEq, if_true, if_false, ↓reduceIte, zbin, eqRes, qassert, qnum, qshift, qun, kindOf, allocV, List.nil_append, List.append_nil, List.cons_append, List.length_cons, List.length_nil, Nat.reduceAdd, Nat.reduceEqDiff, Nat.reduceLT, Nat.reduceSub, Nat.reduceMul, Int.reduceToNat, Int.reduceLE, Int.reduceLT, Int.reduceEq, Int.reduceNeg, Int.reduceAdd, Int.reduceSub, beq_self_eq_true, cond_true, cond_false, isConstOpd, xpanic, xconv, isBytes, qconv, List.length_map, List.map_nil, List.map_cons, concrete, Option.some.injEq, exists_eq', Option.map_some, Option.map_none, List.getElem?_cons_zero, List.getElem?_cons_succ, zw59, rs59, tt3, tt34, tt61, tt63, tt66, tt108, ti3, ti34, ti61, ti63, ti66, ti108, t_58, t_60, t_62, t_63, t_134, Q0h, Y0i, Z0f, Z0r, zsl63, zsl108, nilOp, zx, hc]); rfl)) (k : B) : A := h ▸ k
theorem zno59 {P : Prop} (h : P := by intro jj; simp [CV.has, CV.hasL, fault, V0c.nohas, X0a.nohas, Q0a.nohas, V0b.nohas]) : P := h
set_option maxHeartbeats 8000000 in
theorem c59 : Con C 59 R59 := by
  refine Q0g C ?_ ?_ ?_
  · rintro args p r r' ⟨h, e⟩ ⟨h', e'⟩
    subst e; subst e'; simp_all [V0a.inj_iff, X0a.inj_iff, Q0a.inj_iff, V0b.inj_iff, Q0x]
  · rintro args p r ⟨h, rfl⟩; first | (split <;> simp; done) | (simp; done) | (simp only [resM]; split <;> simp; done) | (simp only [resD]; split <;> simp; done) 
  · rintro args p r ⟨rfl, rfl⟩
    refine K0f C false noExt (tabL C [(58, R58), (60, R60), (62, R62), (63, R63), (134, R134)]) xf59 (Q0f C) (V0f C _) zc59_ok (Nat.le_of_ble_eq_true (by kernel_rfl)) fun hF => ?_
    have t_58 := @t58 (tabL C [(58, R58), (60, R60), (62, R62), (63, R63), (134, R134)]) (Q0e C c58 [(60, R60), (62, R62), (63, R63), (134, R134)])
    have t_60 := @t60 (tabL C [(58, R58), (60, R60), (62, R62), (63, R63), (134, R134)]) (Z0c C _ rfl (Q0e C c60 [(62, R62), (63, R63), (134, R134)]))
    have t_62 := @t62 (tabL C [(58, R58), (60, R60), (62, R62), (63, R63), (134, R134)]) (Z0c C _ rfl (Z0c C _ rfl (Q0e C c62 [(63, R63), (134, R134)])))
    have t_63 := @t63 (tabL C [(58, R58), (60, R60), (62, R62), (63, R63), (134, R134)]) (Z0c C _ rfl (Z0c C _ rfl (Z0c C _ rfl (Q0e C c63 [(134, R134)]))))
    have t_134 := @t134 (tabL C [(58, R58), (60, R60), (62, R62), (63, R63), (134, R134)]) (Z0c C _ rfl (Z0c C _ rfl (Z0c C _ rfl (Z0c C _ rfl (Q0e C c134 [])))))
    generalize tabL C [(58, R58), (60, R60), (62, R62), (63, R63), (134, R134)] = call at t_58 t_60 t_62 t_63 t_134 ⊢
    show W C false noExt call zc59 (argE []) p (endQ C _ _)
    have k1 := kC_legal
    have k2 := kS_x
    have k3 := kS_f
    have k4 := kS_k
    have hC : oneC 1 ⟨.nil, [], fun _ => rfl⟩ = kC := rfl
    have hS : stepS kC [cellV 0 64 0] (firstS kC) = kS := rfl
    have hl : kC.Tokens.l.length ≤ 1000000 := by decide
    have hr : kC.Rules.l.length ≤ 1000000 := by decide
    have hb := kS.hBodies
    generalize hC0 : kC = C0 at k1 hC hS hl hr
    generalize hS0 : kS = S0 at k2 k3 k4 hS hb
    clear hC0 hS0
    (have zx := And.intro hC (And.intro hS (And.intro k1 (And.intro k2 (And.intro k3 k4)))); have hc := True.intro; refine zq59 (k := ?_); clear hc; try exact True.intro)
    repeat' ((first | refine X0d ?_ ?_ | refine Q0d ?_ ?_ | refine K0d _ _ _ _ ?_ ?_ | refine Y0d ?_ ?_ | refine V0d _ _ _ _ ?_ ?_) <;> intro hc <;> (try simp only [zhd] at hc) <;> (try have hw := Z0b hc) <;> (refine zq59 (k := ?_); try exact True.intro))
    all_goals (try clear zx)
    exact X0e hF zle (K0e rfl (Z0d zno59))
end Go.Proofs.Ytpchcfkebljopaa
end
section
-- @nole
namespace Go.Proofs.Ytpchcfkebljopaa
open Go.Cl Go Go.RowKit
set_option maxRecDepth 100000
set_option linter.constructorNameAsVariable false
def J65 (players : Int) (l : Lst Int) (p : Hp) (n : Nat) (ρ : Env) (q : Hp) : Prop :=
  ∃ (k : Nat), n = min players.toNat l.l.length - k ∧ k ≤ min players.toNat l.l.length ∧ ρ 0 = I players ∧ ρ 1 = Lst.cv I l ∧ ρ 5 = .slc p.n [] 0 players.toNat ∧ ρ 6 = I k ∧ q.t.get p.n = some (.var (.n (List.replicate players.toNat sh110)) (.agg ((rowK players l.l k).map V0b.cv))) ∧ p.n < q.n ∧ HpLe p q
def R65 : Rel := fun args p r => ∃ (players : Int) (l : Lst Int), args = [I players, Lst.cv I l] ∧ (1 ≤ players ∧ players ≤ 100) ∧ r = .ret (Lst.cv V0b.cv ⟨.part, rowOf players l.l, nofun⟩) p
theorem t65 {T : XCall} (h : Has T 65 R65) (players : Int) (l : Lst Int) {p : Hp} (h1 : 1 ≤ players ∧ players ≤ 100) : T 65 [I players, Lst.cv I l] p = .ret (Lst.cv V0b.cv ⟨.part, rowOf players l.l, nofun⟩) p := h _ _ _ ⟨players, l, rfl, h1, rfl⟩
theorem zq65 {A B : Prop} (h : A = B := by ((try simp -dsimp (disch := first | exact zdis | fail) only [zcore, zall, zopm, zop, zcallOp, qop, qbuiltin, ofOpt, List.map, reduceCtorEq, if_true, if_false, ↓reduceIte, zbin, eqRes, qassert, qnum, qshift, qun, kindOf, allocV, List.nil_append, List.append_nil, List.cons_append, List.length_cons, List.length_nil, Nat.reduceAdd, Nat.reduceEqDiff, Nat.reduceLT, Nat.reduceSub, Nat.reduceMul, Int.reduceToNat, Int.reduceLE, Int.reduceLT, Int.reduceEq, Int.reduceNeg, Int.reduceAdd, Int.reduceSub, beq_self_eq_true, cond_true, cond_false, isConstOpd, xpanic, xconv, isBytes, qconv, List.length_map, List.map_nil, List.map_cons, concrete, Option.some.injEq, exists_eq', Option.map_some, Option.map_none, List.getElem?_cons_zero, List.getElem?_cons_succ, zw65, rs65, tt3, tt24, tt108, tt110, ti3, ti24, ti108, ti110, t_69, Z0r, Z0l, zsl24, zsl108, mk108, ix108, sa108, Z1n, h1, zx, hc]); rfl)) (k : B) : A := h ▸ k
theorem zge65 {P : Prop} (h : P := by simp (disch := first | exact zdl | fail) only [zheap]; first | done | rfl) : P := h
set_option maxHeartbeats 8000000 in
theorem c65 : Con C 65 R65 := by
  refine Q0g C ?_ ?_ ?_
  · rintro args p r r' ⟨players, l, h, h1, e⟩ ⟨players', l', h', h1', e'⟩
    subst e; subst e'; simp_all [V0b.inj_iff, Q0c.inj_iff, Y0u, Q0x, Y0u]
  · rintro args p r ⟨players, l, h, h1, rfl⟩; first | (split <;> simp; done) | (simp; done) | (simp only [resM]; split <;> simp; done) | (simp only [resD]; split <;> simp; done) 
  · rintro args p r ⟨players, l, rfl, h1, rfl⟩
    show AnsAt C 65 [I players, Lst.cv I l] p (.ret (.lst .part ((rowOf players l.l).map V0b.cv)) p)
    refine ans_freeze C (sh := .n (List.replicate players.toNat sh110)) (l := (rowOf players l.l).map V0b.cv) (sz := 4) (fun x hx => by obtain ⟨y, _, rfl⟩ := List.mem_map.1 hx; rfl) (fun j hj => (Z0p V0b.nohas _ j hj).elim) ?_
    refine K0f C false noExt (tabL C [(69, R69)]) xf65 (Q0f C) (V0f C _) zc65_ok (Nat.le_of_ble_eq_true (by kernel_rfl)) fun hF => ?_
    have t_69 := @t69 (tabL C [(69, R69)]) (Q0e C c69 [])
    generalize tabL C [(69, R69)] = call at t_69 ⊢
    show W C false noExt call zc65 (argE [I players, Lst.cv I l]) p (endQ C _ _)
    have hp : ((players.toNat : Nat) : Int) = players := by omega
    have hfin : ∀ q : Hp, q.t.get p.n = some (.var (.n (List.replicate players.toNat sh110)) (.agg ((rowOf players l.l).map V0b.cv))) → HpLe p q → ShrR p (.ret (.slc p.n [] 0 players.toNat) q) (.ret (.slc p.n [] 0 (rowOf players l.l).length) (p.new (.var (.n (List.replicate players.toNat sh110)) (.agg ((rowOf players l.l).map V0b.cv))))) := by
      intro q g1 hle
      rw [rowOf_len]
      refine K1m (by show p.n ≤ p.n + 1; omega) (fun j o h => ?_) ⟨rfl, Nat.lt_succ_self _, rfl, rfl, rfl⟩
      by_cases hj : j = p.n
      · subst hj
        rw [Hp.get_new_self] at h; cases h
        exact ⟨Nat.lt_succ_self _, .inr ⟨_, g1, X0p fun i hi => by simp only [XObj.has, CV.has] at hi; exact (Z0p V0b.nohas _ i hi).elim⟩⟩
      · rw [Hp.get_new_ne _ _ hj] at h
        have hd := hF.dom _ _ h
        exact ⟨Nat.lt_succ_of_lt hd, .inl ⟨hd, h, hle j o h⟩⟩
    (have zx := True.intro; have hc := True.intro; refine zq65 (k := ?_); clear hc; try exact True.intro)
    repeat' ((first | refine X0d ?_ ?_ | refine Q0d ?_ ?_ | refine K0d _ _ _ _ ?_ ?_ | refine Y0d ?_ ?_ | refine V0d _ _ _ _ ?_ ?_) <;> intro hc <;> (try simp only [zhd] at hc) <;> (try have hw := Z0b hc) <;> (refine zq65 (k := ?_); try exact True.intro))
    all_goals (try clear zx)
    (show W C false noExt call (ZC.loop zn65_9) _ _ _); refine Z0o C false noExt call zn65_9 _ _ _ (J65 players l p) (min players.toNat l.l.length) ⟨0, rfl, by omega, (by simp [put_at, X0b, Y0f]), (by simp [put_at, X0b]; rfl), (by simp [put_at, X0b, Y0f]), (by simp [put_at, X0b, Y0f]), zge65, (by simp only [Hp.bump_n, Hp.znew_n, Hp.zset_n]; omega), zle⟩ ?_
    rintro n ρ q ⟨k, rfl, hk, e0, e1, e5, e6, g1, hn, hle⟩
    have hlen := Z1o players l.l k
    by_cases hlt : (k : Int) < players
    · by_cases hll : (k : Int) < l.l.length
      · have hw := wrap_range ((nth l.l k).tdiv 7)
        by_cases h4 : 0 < (nth l.l k).tmod 4
        · have hst : rowK players l.l (k + 1) = (rowK players l.l k).set k (cellOf (nth l.l k)) := by simp [rowK, h4]
          (have zx := And.intro e0 (And.intro e1 (And.intro e5 (And.intro e6 (And.intro g1 (And.intro hlt (And.intro hll h4)))))); have hc := True.intro; refine zq65 (k := ?_); clear hc; try exact True.intro)
          repeat' ((first | refine X0d ?_ ?_ | refine Q0d ?_ ?_ | refine K0d _ _ _ _ ?_ ?_ | refine Y0d ?_ ?_ | refine V0d _ _ _ _ ?_ ?_) <;> intro hc <;> (try simp only [zhd] at hc) <;> (try have hw := Z0b hc) <;> (refine zq65 (k := ?_); try exact True.intro))
          all_goals (try clear zx)
          exact ⟨min players.toNat l.l.length - (k + 1), by omega, k + 1, rfl, by omega, by simp [put_at, X0b, e0], by simp [put_at, X0b, e1], by simp [put_at, X0b, e5], by simp [put_at, X0b], by rw [hst]; simp (disch := first | exact zdl | fail) only [zheap]; first | done | rfl, by simp only [Hp.bump_n, Hp.znew_n, Hp.zset_n]; omega, zlq⟩
        · have hst : rowK players l.l (k + 1) = rowK players l.l k := by simp [rowK, h4]
          (have zx := And.intro e0 (And.intro e1 (And.intro e5 (And.intro e6 (And.intro g1 (And.intro hlt (And.intro hll h4)))))); have hc := True.intro; refine zq65 (k := ?_); clear hc; try exact True.intro)
          repeat' ((first | refine X0d ?_ ?_ | refine Q0d ?_ ?_ | refine K0d _ _ _ _ ?_ ?_ | refine Y0d ?_ ?_ | refine V0d _ _ _ _ ?_ ?_) <;> intro hc <;> (try simp only [zhd] at hc) <;> (try have hw := Z0b hc) <;> (refine zq65 (k := ?_); try exact True.intro))
          all_goals (try clear zx)
          exact ⟨min players.toNat l.l.length - (k + 1), by omega, k + 1, rfl, by omega, by simp [put_at, X0b, e0], by simp [put_at, X0b, e1], by simp [put_at, X0b, e5], by simp [put_at, X0b], by rw [hst]; exact g1, hn, hle⟩
      · have hk2 : k = min players.toNat l.l.length := by omega
        (have zx := And.intro e0 (And.intro e1 (And.intro e5 (And.intro e6 (And.intro g1 (And.intro hlt hll))))); have hc := True.intro; refine zq65 (k := ?_); clear hc; try exact True.intro)
        repeat' ((first | refine X0d ?_ ?_ | refine Q0d ?_ ?_ | refine K0d _ _ _ _ ?_ ?_ | refine Y0d ?_ ?_ | refine V0d _ _ _ _ ?_ ?_) <;> intro hc <;> (try simp only [zhd] at hc) <;> (try have hw := Z0b hc) <;> (refine zq65 (k := ?_); try exact True.intro))
        all_goals (try clear zx)
        exact hfin q (by rw [g1, hk2]; rfl) hle
    · have hk2 : k = min players.toNat l.l.length := by omega
      (have zx := And.intro e0 (And.intro e1 (And.intro e5 (And.intro e6 (And.intro g1 hlt)))); have hc := True.intro; refine zq65 (k := ?_); clear hc; try exact True.intro)
      repeat' ((first | refine X0d ?_ ?_ | refine Q0d ?_ ?_ | refine K0d _ _ _ _ ?_ ?_ | refine Y0d ?_ ?_ | refine V0d _ _ _ _ ?_ ?_) <;> intro hc <;> (try simp only [zhd] at hc) <;> (try have hw := Z0b hc) <;> (refine zq65 (k := ?_); try exact True.intro))
      all_goals (try clear zx)
      exact hfin q (by rw [g1, hk2]; rfl) hle
def J61 (players : Int) (l : Lst (Lst Int)) (p : Hp) (n : Nat) (ρ : Env) (q : Hp) : Prop :=
  ∃ (k : Nat) (acc : Lst (Lst V0b)), n = 40 - k ∧ k ≤ 40 ∧ k ≤ l.l.length ∧ ρ 0 = I players ∧ ρ 1 = Lst.cv (Lst.cv I) l ∧ ρ 5 = acc.cv (Lst.cv V0b.cv) ∧ ρ 6 = I k ∧ acc.l = (l.l.take k).map (rowL players) ∧ (acc.tl = .nil ∨ ∃ j, acc.tl = .own j ∧ p.n ≤ j ∧ j < q.n ∧ q.t.get j = some (.tail acc.l.length) ∧ 0 < acc.l.length) ∧ p.n ≤ q.n ∧ HpLe p q
def R61 : Rel := fun args p r => ∃ (players : Int) (l : Lst (Lst Int)), args = [I players, Lst.cv (Lst.cv I) l] ∧ (1 ≤ players ∧ players ≤ 100) ∧ r = .ret (Lst.cv (Lst.cv V0b.cv) (ownL (rowsOf players l.l) p.n)) (ownH (rowsOf players l.l) p)
theorem t61 {T : XCall} (h : Has T 61 R61) (players : Int) (l : Lst (Lst Int)) {p : Hp} (h1 : 1 ≤ players ∧ players ≤ 100) : T 61 [I players, Lst.cv (Lst.cv I) l] p = .ret (Lst.cv (Lst.cv V0b.cv) (ownL (rowsOf players l.l) p.n)) (ownH (rowsOf players l.l) p) := h _ _ _ ⟨players, l, rfl, h1, rfl⟩
theorem zq61 {A B : Prop} (h : A = B := by ((try simp -dsimp (disch := first | exact zdis | fail) only [zcore, zall, zopm, zop, zcallOp, qop, qbuiltin, ofOpt, List.map, reduceCtorEq, if_true, if_false, ↓reduceIte, zbin, eqRes, qassert, qnum, qshift, qun, kindOf, allocV, List.nil_append, List.append_nil, List.cons_append, List.length_cons, List.length_nil, Nat.reduceAdd, Nat.reduceEqDiff, Nat.reduceLT, Nat.reduceSub, Nat.reduceMul, Int.reduceToNat, Int.reduceLE, Int.reduceLT, Int.reduceEq, Int.reduceNeg, Int.reduceAdd, Int.reduceSub, beq_self_eq_true, cond_true, cond_false, isConstOpd, xpanic, xconv, isBytes, qconv, List.length_map, List.map_nil, List.map_cons, concrete, Option.some.injEq, exists_eq', Option.map_some, Option.map_none, List.getElem?_cons_zero, List.getElem?_cons_succ, zw61, rs61, tt3, tt24, tt58, tt92, ti3, ti24, ti58, ti92, t_65, Z0r, zsl24, zsl58, zsl92, h1, zx, hc]); rfl)) (k : B) : A := h ▸ k
set_option maxHeartbeats 8000000 in
theorem c61 : Con C 61 R61 := by
  refine Q0g C ?_ ?_ ?_
  · rintro args p r r' ⟨players, l, h, h1, e⟩ ⟨players', l', h', h1', e'⟩
    subst e; subst e'; simp_all [V0b.inj_iff, Y0u, Z1t, X1r, Z1t]
  · rintro args p r ⟨players, l, h, h1, rfl⟩; first | (split <;> simp; done) | (simp; done) | (simp only [resM]; split <;> simp; done) | (simp only [resD]; split <;> simp; done) 
  · rintro args p r ⟨players, l, rfl, h1, rfl⟩
    refine K0f C false noExt (tabL C [(65, R65)]) xf61 (Q0f C) (V0f C _) zc61_ok (Nat.le_of_ble_eq_true (by kernel_rfl)) fun hF => ?_
    have t_65 := @t65 (tabL C [(65, R65)]) (Q0e C c65 [])
    generalize tabL C [(65, R65)] = call at t_65 ⊢
    show W C false noExt call zc61 (argE [I players, Lst.cv (Lst.cv I) l]) p (endQ C _ _)
    (have zx := True.intro; have hc := True.intro; refine zq61 (k := ?_); clear hc; try exact True.intro)
    repeat' ((first | refine X0d ?_ ?_ | refine Q0d ?_ ?_ | refine K0d _ _ _ _ ?_ ?_ | refine Y0d ?_ ?_ | refine V0d _ _ _ _ ?_ ?_) <;> intro hc <;> (try simp only [zhd] at hc) <;> (try have hw := Z0b hc) <;> (refine zq61 (k := ?_); try exact True.intro))
    all_goals (try clear zx)
    show W C false noExt call (ZC.block 0 (ZC.loop zn61_9)) _ _ (seqQ _ _)
    refine W_cut C false noExt call _ _ _ _ (fun ρ q => ∃ acc : Lst (Lst V0b), ρ 5 = acc.cv (Lst.cv V0b.cv) ∧ acc.l = rowsOf players l.l ∧ (acc.tl = .nil ∨ ∃ j, acc.tl = .own j ∧ p.n ≤ j ∧ q.t.get j = some (.tail acc.l.length) ∧ 0 < acc.l.length) ∧ HpLe p q) ?_ ?_
    · (show W C false noExt call (ZC.loop zn61_9) _ _ _); refine Z0o C false noExt call zn61_9 _ _ _ (J61 players l p) 40 ⟨0, ⟨.nil, [], fun _ => rfl⟩, rfl, by omega, by omega, (by simp [put_at, X0b, Y0f]), (by simp [put_at, X0b]; rfl), by simp [put_at, X0b, Y0f, Lst.cv], (by simp [put_at, X0b, Y0f]), by simp, .inl rfl, by omega, zle⟩ ?_
      rintro n ρ q ⟨k, ⟨tl, al, ao⟩, rfl, hk, hkl, e0, e1, e5, e6, hacc, happ, hn, hle⟩
      have hal : al.length = k := by simp only at hacc; rw [hacc]; simp; omega
      by_cases hlt : (k : Int) < l.l.length
      · by_cases h40 : (k : Int) < 40
        · have htk := take_nx (l := l.l) (k := k) (by omega)
          have hrow : (⟨.part, rowOf players (nth l.l k).l, nofun⟩ : Lst V0b) = rowL players (nth l.l k) := rfl
          rcases happ with ht | ⟨j, ht, hj1, hj2, g1, hj4⟩
          · simp only at ht
            subst ht
            (have zx := And.intro e0 (And.intro e1 (And.intro e5 (And.intro e6 (And.intro hlt (And.intro h40 hrow))))); have hc := True.intro; refine zq61 (k := ?_); clear hc; try exact True.intro)
            repeat' ((first | refine X0d ?_ ?_ | refine Q0d ?_ ?_ | refine K0d _ _ _ _ ?_ ?_ | refine Y0d ?_ ?_ | refine V0d _ _ _ _ ?_ ?_) <;> intro hc <;> (try simp only [zhd] at hc) <;> (try have hw := Z0b hc) <;> (refine zq61 (k := ?_); try exact True.intro))
            all_goals (try clear zx)
            exact ⟨40 - (k + 1), by omega, k + 1, ⟨.own q.n, al ++ [rowL players (nth l.l k)], nofun⟩, rfl, by omega, by omega, by simp [put_at, X0b, e0], by simp [put_at, X0b, e1], by simp [put_at, X0b], by simp [put_at, X0b], by simp only at hacc; rw [htk, List.map_append, hacc]; rfl, .inr ⟨q.n, rfl, hn, by simp only [Hp.bump_n, Hp.znew_n, Hp.zset_n]; omega, by simp (disch := first | exact zdl | fail) only [zheap, List.length_append, List.length_cons, List.length_nil], by simp⟩, by simp only [Hp.bump_n, Hp.znew_n, Hp.zset_n]; omega, zlq⟩
          · simp only at ht g1 hj4
            subst ht
            (have zx := And.intro e0 (And.intro e1 (And.intro e5 (And.intro e6 (And.intro hlt (And.intro h40 (And.intro g1 hrow)))))); have hc := True.intro; refine zq61 (k := ?_); clear hc; try exact True.intro)
            repeat' ((first | refine X0d ?_ ?_ | refine Q0d ?_ ?_ | refine K0d _ _ _ _ ?_ ?_ | refine Y0d ?_ ?_ | refine V0d _ _ _ _ ?_ ?_) <;> intro hc <;> (try simp only [zhd] at hc) <;> (try have hw := Z0b hc) <;> (refine zq61 (k := ?_); try exact True.intro))
            all_goals (try clear zx)
            exact ⟨40 - (k + 1), by omega, k + 1, ⟨.own q.n, al ++ [rowL players (nth l.l k)], nofun⟩, rfl, by omega, by omega, by simp [put_at, X0b, e0], by simp [put_at, X0b, e1], by simp [put_at, X0b], by simp [put_at, X0b], by simp only at hacc; rw [htk, List.map_append, hacc]; rfl, .inr ⟨q.n, rfl, hn, by simp only [Hp.bump_n, Hp.znew_n, Hp.zset_n]; omega, by simp (disch := first | exact zdl | fail) only [zheap, List.length_append, List.length_cons, List.length_nil], by simp⟩, by simp only [Hp.bump_n, Hp.znew_n, Hp.zset_n]; omega, zlq⟩
        · (have zx := And.intro e0 (And.intro e1 (And.intro e5 (And.intro e6 (And.intro hlt h40)))); have hc := True.intro; refine zq61 (k := ?_); clear hc; try exact True.intro)
          repeat' ((first | refine X0d ?_ ?_ | refine Q0d ?_ ?_ | refine K0d _ _ _ _ ?_ ?_ | refine Y0d ?_ ?_ | refine V0d _ _ _ _ ?_ ?_) <;> intro hc <;> (try simp only [zhd] at hc) <;> (try have hw := Z0b hc) <;> (refine zq61 (k := ?_); try exact True.intro))
          all_goals (try clear zx)
          have hk40 : k = 40 := by omega
          subst hk40
          exact ⟨⟨tl, al, ao⟩, by simp [put_at, X0b, e5], hacc, happ.imp id fun ⟨j, h1, h2, _, h4, h5⟩ => ⟨j, h1, h2, h4, h5⟩, hle⟩
      · (have zx := And.intro e0 (And.intro e1 (And.intro e5 (And.intro e6 hlt))); have hc := True.intro; refine zq61 (k := ?_); clear hc; try exact True.intro)
        repeat' ((first | refine X0d ?_ ?_ | refine Q0d ?_ ?_ | refine K0d _ _ _ _ ?_ ?_ | refine Y0d ?_ ?_ | refine V0d _ _ _ _ ?_ ?_) <;> intro hc <;> (try simp only [zhd] at hc) <;> (try have hw := Z0b hc) <;> (refine zq61 (k := ?_); try exact True.intro))
        all_goals (try clear zx)
        have ht : l.l.take k = l.l.take 40 := by rw [List.take_of_length_le (by omega), List.take_of_length_le (by omega)]
        exact ⟨⟨tl, al, ao⟩, by simp [put_at, X0b, e5], by rw [hacc, ht]; rfl, happ.imp id fun ⟨j, h1, h2, _, h4, h5⟩ => ⟨j, h1, h2, h4, h5⟩, hle⟩
    rintro ρ q ⟨acc, e5, hacc, happ, hle⟩
    (have zx := e5; have hc := True.intro; refine zq61 (k := ?_); clear hc; try exact True.intro)
    repeat' ((first | refine X0d ?_ ?_ | refine Q0d ?_ ?_ | refine K0d _ _ _ _ ?_ ?_ | refine Y0d ?_ ?_ | refine V0d _ _ _ _ ?_ ?_) <;> intro hc <;> (try simp only [zhd] at hc) <;> (try have hw := Z0b hc) <;> (refine zq61 (k := ?_); try exact True.intro))
    all_goals (try clear zx)
    rw [← hacc]
    exact shr_ownL hF acc hle happ (fun x hx j => by
      rw [hacc] at hx
      obtain ⟨y, _, rfl⟩ := List.mem_map.1 hx
      intro h; cases ((Lst.has _ V0b.nohas _ j).1 h))
end Go.Proofs.Ytpchcfkebljopaa
end
section
-- @nole
namespace Go.Proofs.Ytpchcfkebljopaa
open Go.Cl Go Go.RowKit
set_option maxRecDepth 100000
set_option linter.constructorNameAsVariable false
def J86 (l : Lst Y0b) (p : Hp) (n : Nat) (ρ : Env) (q : Hp) : Prop :=
  ∃ (k : Nat) (acc : Lst Y0c), n = 16 - k ∧ k ≤ 16 ∧ k ≤ l.l.length ∧ ρ 0 = l.cv Y0b.cv ∧ ρ 3 = acc.cv Y0c.cv ∧ ρ 4 = I k ∧ acc.l = (l.l.take k).map fixOp ∧ (acc.tl = .nil ∨ ∃ j, acc.tl = .own j ∧ p.n ≤ j ∧ j < q.n ∧ q.t.get j = some (.tail acc.l.length) ∧ 0 < acc.l.length) ∧ p.n ≤ q.n ∧ HpLe p q
def R86 : Rel := fun args p r => ∃ (l : Lst Y0b), args = [l.cv Y0b.cv] ∧ r = .ret (Lst.cv Y0c.cv (partL (rulesOf l.l))) p
theorem t86 {T : XCall} (h : Has T 86 R86) (l : Lst Y0b) {p : Hp}  : T 86 [l.cv Y0b.cv] p = .ret (Lst.cv Y0c.cv (partL (rulesOf l.l))) p := h _ _ _ ⟨l, rfl, rfl⟩
theorem zq86 {A B : Prop} (h : A = B := by ((try simp -dsimp (disch := first | exact zdis | fail) only [zcore, zall, zopm, zop, zcallOp, qop, qbuiltin, ofOpt, List.map, reduceCtorEq, if_true, if_false, ↓reduceIte, zbin, eqRes, qassert, qnum, qshift, qun, kindOf, allocV, List.nil_append, List.append_nil, List.cons_append, List.length_cons, List.length_nil, Nat.reduceAdd, Nat.reduceEqDiff, Nat.reduceLT, Nat.reduceSub, Nat.reduceMul, Int.reduceToNat, Int.reduceLE, Int.reduceLT, Int.reduceEq, Int.reduceNeg, Int.reduceAdd, Int.reduceSub, beq_self_eq_true, cond_true, cond_false, isConstOpd, xpanic, xconv, isBytes, qconv, List.length_map, List.map_nil, List.map_cons, concrete, Option.some.injEq, exists_eq', Option.map_some, Option.map_none, List.getElem?_cons_zero, List.getElem?_cons_succ, zw86, rs86, tt3, tt22, tt23, tt29, tt31, ti3, ti22, ti23, ti29, ti31, t_21, X02, X0o, zsl22, zsl23, zx, hc]); rfl)) (k : B) : A := h ▸ k
set_option maxHeartbeats 8000000 in
theorem c86 : Con C 86 R86 := by
  refine Q0g C ?_ ?_ ?_
  · rintro args p r r' ⟨l, h, e⟩ ⟨l', h', e'⟩
    subst e; subst e'; simp_all [Y0b.inj_iff, Y0c.inj_iff, Q1q, Q0n]
  · rintro args p r ⟨l, h, rfl⟩; first | (split <;> simp; done) | (simp; done) | (simp only [resM]; split <;> simp; done) | (simp only [resD]; split <;> simp; done) 
  · rintro args p r ⟨l, rfl, rfl⟩
    refine K0f C false noExt (tabL C [(21, R21)]) xf86 (Q0f C) (V0f C _) zc86_ok (Nat.le_of_ble_eq_true (by kernel_rfl)) fun hF => ?_
    have t_21 := @t21 (tabL C [(21, R21)]) (Q0e C c21 [])
    generalize tabL C [(21, R21)] = call at t_21 ⊢
    show W C false noExt call zc86 (argE [l.cv Y0b.cv]) p (endQ C _ _)
    (have zx := True.intro; have hc := True.intro; refine zq86 (k := ?_); clear hc; try exact True.intro)
    repeat' ((first | refine X0d ?_ ?_ | refine Q0d ?_ ?_ | refine K0d _ _ _ _ ?_ ?_ | refine Y0d ?_ ?_ | refine V0d _ _ _ _ ?_ ?_) <;> intro hc <;> (try simp only [zhd] at hc) <;> (try have hw := Z0b hc) <;> (refine zq86 (k := ?_); try exact True.intro))
    all_goals (try clear zx)
    show W C false noExt call (ZC.block 0 (ZC.loop zn86_9)) _ _ (seqQ _ _)
    refine W_cut C false noExt call _ _ _ _ (fun ρ q => ∃ acc : Lst Y0c, ρ 3 = acc.cv Y0c.cv ∧ acc.l = rulesOf l.l ∧ (acc.tl = .nil ∨ (∃ j, acc.tl = .own j) ∧ 0 < acc.l.length) ∧ HpLe p q) ?_ ?_
    · (show W C false noExt call (ZC.loop zn86_9) _ _ _); refine Z0o C false noExt call zn86_9 _ _ _ (J86 l p) 16 ⟨0, ⟨.nil, [], fun _ => rfl⟩, rfl, by omega, by omega, (by simp [put_at, X0b, Y0f]), by simp [put_at, X0b, Y0f, Lst.cv], (by simp [put_at, X0b, Y0f]), by simp, .inl rfl, by omega, zle⟩ ?_
      rintro n ρ q ⟨k, ⟨tl, al, ao⟩, rfl, hk, hkl, e0, e3, e4, hacc, happ, hn, hle⟩
      have hal : al.length = k := by simp only at hacc; rw [hacc]; simp; omega
      by_cases hlt : (k : Int) < l.l.length
      · by_cases h16 : (k : Int) < 16
        · have htk := take_nx (l := l.l) (k := k) (by omega)
          generalize hx : nth l.l k = x at htk
          cases hR : opRight (handOp x) with
          | true =>
            have hfx : fixOp x = handOp x := by simp [fixOp, hR]
            have hR2 := hR
            simp only [opRight, Bool.and_eq_true] at hR2
            have w1 := Z0b hR2.1.1
            have w2 := Z0b hR2.1.2
            have w3 := Z0b hR2.2
            have n1 : ¬ (handOp x).Code < 1 := by omega
            have n2 : ¬ (13 : Int) < (handOp x).Code := by omega
            have n3 : ¬ (handOp x).A < -1000000 := by omega
            have n4 : ¬ (1000000 : Int) < (handOp x).A := by omega
            have n5 : ¬ (handOp x).B < -1000000 := by omega
            have n6 : ¬ (1000000 : Int) < (handOp x).B := by omega
            rcases happ with ht | ⟨j, ht, hj1, hj2, g1, hj4⟩
            · simp only at ht
              subst ht
              (have zx := And.intro e0 (And.intro e3 (And.intro e4 (And.intro hlt (And.intro h16 (And.intro hx (And.intro n1 (And.intro n2 (And.intro n3 (And.intro n4 (And.intro n5 n6)))))))))); have hc := True.intro; refine zq86 (k := ?_); clear hc; try exact True.intro)
              repeat' ((first | refine X0d ?_ ?_ | refine Q0d ?_ ?_ | refine K0d _ _ _ _ ?_ ?_ | refine Y0d ?_ ?_ | refine V0d _ _ _ _ ?_ ?_) <;> intro hc <;> (try simp only [zhd] at hc) <;> (try have hw := Z0b hc) <;> (refine zq86 (k := ?_); try exact True.intro))
              all_goals (try clear zx)
              exact ⟨16 - (k + 1), by omega, k + 1, ⟨.own (q.n + 1), al ++ [fixOp x], nofun⟩, rfl, by omega, by omega, by simp [put_at, X0b, e0], by simp [put_at, X0b, hfx], by simp [put_at, X0b], by simp only at hacc; rw [htk, List.map_append, hacc]; rfl, .inr ⟨q.n + 1, rfl, by omega, by simp only [Hp.bump_n, Hp.znew_n, Hp.zset_n]; omega, by simp (disch := first | exact zdl | fail) only [zheap, List.length_append, List.length_cons, List.length_nil], by simp⟩, by simp only [Hp.bump_n, Hp.znew_n, Hp.zset_n]; omega, zlq⟩
            · simp only at ht g1 hj4
              subst ht
              (have zx := And.intro e0 (And.intro e3 (And.intro e4 (And.intro hlt (And.intro h16 (And.intro hx (And.intro n1 (And.intro n2 (And.intro n3 (And.intro n4 (And.intro n5 (And.intro n6 g1))))))))))); have hc := True.intro; refine zq86 (k := ?_); clear hc; try exact True.intro)
              repeat' ((first | refine X0d ?_ ?_ | refine Q0d ?_ ?_ | refine K0d _ _ _ _ ?_ ?_ | refine Y0d ?_ ?_ | refine V0d _ _ _ _ ?_ ?_) <;> intro hc <;> (try simp only [zhd] at hc) <;> (try have hw := Z0b hc) <;> (refine zq86 (k := ?_); try exact True.intro))
              all_goals (try clear zx)
              exact ⟨16 - (k + 1), by omega, k + 1, ⟨.own (q.n + 1), al ++ [fixOp x], nofun⟩, rfl, by omega, by omega, by simp [put_at, X0b, e0], by simp [put_at, X0b, hfx], by simp [put_at, X0b], by simp only at hacc; rw [htk, List.map_append, hacc]; rfl, .inr ⟨q.n + 1, rfl, by omega, by simp only [Hp.bump_n, Hp.znew_n, Hp.zset_n]; omega, by simp (disch := first | exact zdl | fail) only [zheap, List.length_append, List.length_cons, List.length_nil], by simp⟩, by simp only [Hp.bump_n, Hp.znew_n, Hp.zset_n]; omega, zlq⟩
          | false =>
            have hfx : fixOp x = ⟨13, 0, 0⟩ := by simp [fixOp, hR]
            have hkill : ¬ ((handOp x).Code < 1) → ¬ ((13 : Int) < (handOp x).Code) → ¬ ((handOp x).A < -1000000) → ¬ ((1000000 : Int) < (handOp x).A) → ¬ ((handOp x).B < -1000000) → ¬ ((1000000 : Int) < (handOp x).B) → False := by
              intro a b c d e f
              have : opRight (handOp x) = true := by simp [opRight, within]; omega
              rw [hR] at this; cases this
            rcases happ with ht | ⟨j, ht, hj1, hj2, g1, hj4⟩
            · simp only at ht
              subst ht
              (have zx := And.intro e0 (And.intro e3 (And.intro e4 (And.intro hlt (And.intro h16 hx)))); have hc := True.intro; refine zq86 (k := ?_); clear hc; try exact True.intro)
              repeat' ((first | refine X0d ?_ ?_ | refine Q0d ?_ ?_ | refine K0d _ _ _ _ ?_ ?_ | refine Y0d ?_ ?_ | refine V0d _ _ _ _ ?_ ?_) <;> intro hc <;> (try simp only [zhd] at hc) <;> (try have hw := Z0b hc) <;> (refine zq86 (k := ?_); try exact True.intro))
              all_goals (try clear zx)
              all_goals first | exact (hkill (by assumption) (by assumption) (by assumption) (by assumption) (by assumption) (by assumption)).elim | exact ⟨16 - (k + 1), by omega, k + 1, ⟨.own (q.n + 1), al ++ [fixOp x], nofun⟩, rfl, by omega, by omega, by simp [put_at, X0b, e0], by simp [put_at, X0b, hfx], by simp [put_at, X0b], by simp only at hacc; rw [htk, List.map_append, hacc]; rfl, .inr ⟨q.n + 1, rfl, by omega, by simp only [Hp.bump_n, Hp.znew_n, Hp.zset_n]; omega, by simp (disch := first | exact zdl | fail) only [zheap, List.length_append, List.length_cons, List.length_nil], by simp⟩, by simp only [Hp.bump_n, Hp.znew_n, Hp.zset_n]; omega, zlq⟩
            · simp only at ht g1 hj4
              subst ht
              (have zx := And.intro e0 (And.intro e3 (And.intro e4 (And.intro hlt (And.intro h16 (And.intro hx g1))))); have hc := True.intro; refine zq86 (k := ?_); clear hc; try exact True.intro)
              repeat' ((first | refine X0d ?_ ?_ | refine Q0d ?_ ?_ | refine K0d _ _ _ _ ?_ ?_ | refine Y0d ?_ ?_ | refine V0d _ _ _ _ ?_ ?_) <;> intro hc <;> (try simp only [zhd] at hc) <;> (try have hw := Z0b hc) <;> (refine zq86 (k := ?_); try exact True.intro))
              all_goals (try clear zx)
              all_goals first | exact (hkill (by assumption) (by assumption) (by assumption) (by assumption) (by assumption) (by assumption)).elim | exact ⟨16 - (k + 1), by omega, k + 1, ⟨.own (q.n + 1), al ++ [fixOp x], nofun⟩, rfl, by omega, by omega, by simp [put_at, X0b, e0], by simp [put_at, X0b, hfx], by simp [put_at, X0b], by simp only at hacc; rw [htk, List.map_append, hacc]; rfl, .inr ⟨q.n + 1, rfl, by omega, by simp only [Hp.bump_n, Hp.znew_n, Hp.zset_n]; omega, by simp (disch := first | exact zdl | fail) only [zheap, List.length_append, List.length_cons, List.length_nil], by simp⟩, by simp only [Hp.bump_n, Hp.znew_n, Hp.zset_n]; omega, zlq⟩
        · (have zx := And.intro e0 (And.intro e3 (And.intro e4 (And.intro hlt h16))); have hc := True.intro; refine zq86 (k := ?_); clear hc; try exact True.intro)
          repeat' ((first | refine X0d ?_ ?_ | refine Q0d ?_ ?_ | refine K0d _ _ _ _ ?_ ?_ | refine Y0d ?_ ?_ | refine V0d _ _ _ _ ?_ ?_) <;> intro hc <;> (try simp only [zhd] at hc) <;> (try have hw := Z0b hc) <;> (refine zq86 (k := ?_); try exact True.intro))
          all_goals (try clear zx)
          have hk16 : k = 16 := by omega
          subst hk16
          exact ⟨⟨tl, al, ao⟩, by simp [put_at, X0b, e3], hacc, happ.imp id fun ⟨j, h1, _, _, _, h5⟩ => ⟨⟨j, h1⟩, h5⟩, hle⟩
      · (have zx := And.intro e0 (And.intro e3 (And.intro e4 hlt)); have hc := True.intro; refine zq86 (k := ?_); clear hc; try exact True.intro)
        repeat' ((first | refine X0d ?_ ?_ | refine Q0d ?_ ?_ | refine K0d _ _ _ _ ?_ ?_ | refine Y0d ?_ ?_ | refine V0d _ _ _ _ ?_ ?_) <;> intro hc <;> (try simp only [zhd] at hc) <;> (try have hw := Z0b hc) <;> (refine zq86 (k := ?_); try exact True.intro))
        all_goals (try clear zx)
        have ht : l.l.take k = l.l.take 16 := by rw [List.take_of_length_le (by omega), List.take_of_length_le (by omega)]
        exact ⟨⟨tl, al, ao⟩, by simp [put_at, X0b, e3], by rw [hacc, ht]; rfl, happ.imp id fun ⟨j, h1, _, _, _, h5⟩ => ⟨⟨j, h1⟩, h5⟩, hle⟩
    rintro ρ q ⟨acc, e3, hacc, happ, hle⟩
    (have zx := e3; have hc := True.intro; refine zq86 (k := ?_); clear hc; try exact True.intro)
    repeat' ((first | refine X0d ?_ ?_ | refine Q0d ?_ ?_ | refine K0d _ _ _ _ ?_ ?_ | refine Y0d ?_ ?_ | refine V0d _ _ _ _ ?_ ?_) <;> intro hc <;> (try simp only [zhd] at hc) <;> (try have hw := Z0b hc) <;> (refine zq86 (k := ?_); try exact True.intro))
    all_goals (try clear zx)
    refine X0e hF zlq ?_
    rw [← hacc]
    exact Q0y Y0c.nohas acc _ happ
end Go.Proofs.Ytpchcfkebljopaa
end
section
-- @nole
namespace Go.Proofs.Ytpchcfkebljopaa
open Go.Cl Go Go.RowKit
set_option maxRecDepth 100000
set_option linter.constructorNameAsVariable false
def J31 (x : K0a) (p : Hp) (n : Nat) (ρ : Env) (q : Hp) : Prop :=
  ∃ (k : Nat) (tk : Lst Int), n = (cfgP x).toNat - k ∧ k ≤ (cfgP x).toNat ∧ ρ 1 = .ptr p.n [] ∧ ρ 2 = .ptr (p.n + 1) [] ∧ ρ 3 = .ptr (p.n + 1 + 1 + 22) [] ∧ ρ 4 = I k ∧ q.t.get p.n = some (.var sh57 x.cv) ∧ q.t.get (p.n + 1) = some (.var sh61 V0a.zero.cv) ∧ q.t.get (p.n + 1 + 1 + 22) = some (.var sh61 (cfgWith x tk).cv) ∧ tk.l = cfgTok x k ∧ (tk.tl = .nil ∨ ∃ j, tk.tl = .own j ∧ p.n + 1 + 1 + 22 < j ∧ j < q.n ∧ q.t.get j = some (.tail tk.l.length) ∧ 0 < tk.l.length) ∧ p.n + 1 + 1 + 22 < q.n ∧ HpLe p q
def R31 : Rel := fun args p r => ∃ (x : K0a), args = [x.cv] ∧ r = .ret (cfgOf x).cv p
theorem t31 {T : XCall} (h : Has T 31 R31) (x : K0a) {p : Hp}  : T 31 [x.cv] p = .ret (cfgOf x).cv p := h _ _ _ ⟨x, rfl, rfl⟩
theorem zq31 {A B : Prop} (h : A = B := by ((try simp -dsimp (disch := first | exact zdis | fail) only [zcore, zall, zopm, zop, zcallOp, qop, qbuiltin, ofOpt, List.map, reduceCtorEq, if_true, if_false, ↓reduceIte, zbin, eqRes, qassert, qnum, qshift, qun, kindOf, allocV, List.nil_append, List.append_nil, List.cons_append, List.length_cons, List.length_nil, Nat.reduceAdd, Nat.reduceEqDiff, Nat.reduceLT, Nat.reduceSub, Nat.reduceMul, Int.reduceToNat, Int.reduceLE, Int.reduceLT, Int.reduceEq, Int.reduceNeg, Int.reduceAdd, Int.reduceSub, beq_self_eq_true, cond_true, cond_false, isConstOpd, xpanic, xconv, isBytes, qconv, List.length_map, List.map_nil, List.map_cons, concrete, Option.some.injEq, exists_eq', Option.map_some, Option.map_none, List.getElem?_cons_zero, List.getElem?_cons_succ, zw31, rs31, tt3, tt22, tt23, tt24, tt57, tt59, tt61, ti3, ti22, ti23, ti24, ti57, ti59, ti61, t_37, t_86, V0t, Q0h, zsl22, zsl23, zsl24, qfloat, zx, hc]); rfl)) (k : B) : A := h ▸ k
theorem zge31 {P : Prop} (h : P := by simp (disch := first | exact zdl | fail) only [zheap]; first | done | rfl) : P := h
set_option maxHeartbeats 8000000 in
theorem c31 : Con C 31 R31 := by
  refine Q0g C ?_ ?_ ?_
  · rintro args p r r' ⟨x, h, e⟩ ⟨x', h', e'⟩
    subst e; subst e'; simp_all [K0a.inj_iff, V0a.inj_iff, Q1q, Q0n, Y0u, Q1q]
  · rintro args p r ⟨x, h, rfl⟩; first | (split <;> simp; done) | (simp; done) | (simp only [resM]; split <;> simp; done) | (simp only [resD]; split <;> simp; done) 
  · rintro args p r ⟨x, rfl, rfl⟩
    refine K0f C false noExt (tabL C [(37, R37), (86, R86)]) xf31 (Q0f C) (V0f C _) zc31_ok (Nat.le_of_ble_eq_true (by kernel_rfl)) fun hF => ?_
    have t_37 := @t37 (tabL C [(37, R37), (86, R86)]) (Q0e C c37 [(86, R86)])
    have t_86 := @t86 (tabL C [(37, R37), (86, R86)]) (Z0c C _ rfl (Q0e C c86 []))
    generalize tabL C [(37, R37), (86, R86)] = call at t_37 t_86 ⊢
    show W C false noExt call zc31 (argE [x.cv]) p (endQ C _ _)
    have p1 := K0h (n := x.Period) (m := 3) (by omega)
    have p2 := K0h (n := x.Frames) (m := 90) (by omega)
    have p3 := K0h (n := x.Players) (m := 4) (by omega)
    have p4 := K0h (n := w64 (x.Players.tdiv 11)) (m := 8) (by omega)
    have p5 := K0h (n := x.Rate) (m := 9) (by omega)
    have p6 := K0h (n := w64 (x.Rate.tdiv 9)) (m := 40) (by omega)
    have p7 := K0h (n := w64 (x.Seed.tdiv 3)) (m := 1000000) (by omega)
    have r1 := (rate_ok p5).1
    have r2 := (dept_ok p6).1
    have r3 := (dept_ok p6).2.1
    simp only [w64] at p4 p6 p7 r2 r3
    have hP := Q04 x
    have hPn : (((cfgP x).toNat : Nat) : Int) = cfgP x := by omega
    suffices hloop : ∀ (ρ : Env) (q : Hp), ρ 1 = .ptr p.n [] → ρ 2 = .ptr (p.n + 1) [] → ρ 3 = .ptr (p.n + 1 + 1 + 22) [] → ρ 4 = I 0 → q.t.get p.n = some (.var sh57 x.cv) → q.t.get (p.n + 1) = some (.var sh61 V0a.zero.cv) → q.t.get (p.n + 1 + 1 + 22) = some (.var sh61 (cfgWith x ⟨.nil, [], fun _ => rfl⟩).cv) → p.n + 1 + 1 + 22 < q.n → HpLe p q → W C false noExt call (ZC.loop zn31_27) ρ q (blkQ 0 (seqQ (W C false noExt call zn31_35) (endQ C [ResultVar.cell 2 61] fun r' => ShrR p r' (XRes.ret (cfgOf x).cv p)))) by
      by_cases h11 : x.Players.tmod 11 = 10
      · have hcp : cfgP x = 1 + pick (w64 (x.Players.tdiv 11)) 8 := by simp [cfgP, h11]
        by_cases h3 : 0 < x.Rate.tmod 3
        · have hcr : cfgRate x = 4613937818241073152 := by simp [cfgRate, h3]
          have hcd : cfgDepth x = 4632233691727265792 := by simp [cfgDepth, h3]
          (have zx := And.intro h11 (And.intro h3 (And.intro r1 (And.intro r2 r3))); have hc := True.intro; refine zq31 (k := ?_); clear hc; try exact True.intro)
          repeat' ((first | refine X0d ?_ ?_ | refine Q0d ?_ ?_ | refine K0d _ _ _ _ ?_ ?_ | refine Y0d ?_ ?_ | refine V0d _ _ _ _ ?_ ?_) <;> intro hc <;> (try simp only [zhd] at hc) <;> (try have hw := Z0b hc) <;> (refine zq31 (k := ?_); try exact True.intro))
          all_goals (try clear zx)
          refine hloop _ _ (by simp [put_at, X0b, Y0f]) (by simp [put_at, X0b, Y0f]) (by simp [put_at, X0b, Y0f]) (by simp [put_at, X0b, Y0f]) zge31 zge31 ?_ (by simp only [Hp.bump_n, Hp.znew_n, Hp.zset_n]; omega) zle
          simp (disch := first | exact zdl | fail) only [zheap]
          simp only [cfgWith, hcp, hcr, hcd]
        · have hcr : cfgRate x = rateF (pick x.Rate 9) := by simp [cfgRate, h3]
          have hcd : cfgDepth x = deptF (pick (w64 (x.Rate.tdiv 9)) 40) := by simp [cfgDepth, h3]
          (have zx := And.intro h11 (And.intro h3 (And.intro r1 (And.intro r2 r3))); have hc := True.intro; refine zq31 (k := ?_); clear hc; try exact True.intro)
          repeat' ((first | refine X0d ?_ ?_ | refine Q0d ?_ ?_ | refine K0d _ _ _ _ ?_ ?_ | refine Y0d ?_ ?_ | refine V0d _ _ _ _ ?_ ?_) <;> intro hc <;> (try simp only [zhd] at hc) <;> (try have hw := Z0b hc) <;> (refine zq31 (k := ?_); try exact True.intro))
          all_goals (try clear zx)
          refine hloop _ _ (by simp [put_at, X0b, Y0f]) (by simp [put_at, X0b, Y0f]) (by simp [put_at, X0b, Y0f]) (by simp [put_at, X0b, Y0f]) zge31 zge31 ?_ (by simp only [Hp.bump_n, Hp.znew_n, Hp.zset_n]; omega) zle
          simp (disch := first | exact zdl | fail) only [zheap]
          simp only [cfgWith, hcp, hcr, hcd]
      · have hcp : cfgP x = 1 + pick x.Players 4 := by simp [cfgP, h11]
        by_cases h3 : 0 < x.Rate.tmod 3
        · have hcr : cfgRate x = 4613937818241073152 := by simp [cfgRate, h3]
          have hcd : cfgDepth x = 4632233691727265792 := by simp [cfgDepth, h3]
          (have zx := And.intro h11 (And.intro h3 (And.intro r1 (And.intro r2 r3))); have hc := True.intro; refine zq31 (k := ?_); clear hc; try exact True.intro)
          repeat' ((first | refine X0d ?_ ?_ | refine Q0d ?_ ?_ | refine K0d _ _ _ _ ?_ ?_ | refine Y0d ?_ ?_ | refine V0d _ _ _ _ ?_ ?_) <;> intro hc <;> (try simp only [zhd] at hc) <;> (try have hw := Z0b hc) <;> (refine zq31 (k := ?_); try exact True.intro))
          all_goals (try clear zx)
          refine hloop _ _ (by simp [put_at, X0b, Y0f]) (by simp [put_at, X0b, Y0f]) (by simp [put_at, X0b, Y0f]) (by simp [put_at, X0b, Y0f]) zge31 zge31 ?_ (by simp only [Hp.bump_n, Hp.znew_n, Hp.zset_n]; omega) zle
          simp (disch := first | exact zdl | fail) only [zheap]
          simp only [cfgWith, hcp, hcr, hcd]
        · have hcr : cfgRate x = rateF (pick x.Rate 9) := by simp [cfgRate, h3]
          have hcd : cfgDepth x = deptF (pick (w64 (x.Rate.tdiv 9)) 40) := by simp [cfgDepth, h3]
          (have zx := And.intro h11 (And.intro h3 (And.intro r1 (And.intro r2 r3))); have hc := True.intro; refine zq31 (k := ?_); clear hc; try exact True.intro)
          repeat' ((first | refine X0d ?_ ?_ | refine Q0d ?_ ?_ | refine K0d _ _ _ _ ?_ ?_ | refine Y0d ?_ ?_ | refine V0d _ _ _ _ ?_ ?_) <;> intro hc <;> (try simp only [zhd] at hc) <;> (try have hw := Z0b hc) <;> (refine zq31 (k := ?_); try exact True.intro))
          all_goals (try clear zx)
          refine hloop _ _ (by simp [put_at, X0b, Y0f]) (by simp [put_at, X0b, Y0f]) (by simp [put_at, X0b, Y0f]) (by simp [put_at, X0b, Y0f]) zge31 zge31 ?_ (by simp only [Hp.bump_n, Hp.znew_n, Hp.zset_n]; omega) zle
          simp (disch := first | exact zdl | fail) only [zheap]
          simp only [cfgWith, hcp, hcr, hcd]
    intro ρ q e1 e2 e3 e4 g1 g2 g3 hn hle
    (show W C false noExt call (ZC.loop zn31_27) _ _ _); refine Z0o C false noExt call zn31_27 _ _ _ (J31 x p) (cfgP x).toNat ⟨0, ⟨.nil, [], fun _ => rfl⟩, rfl, by omega, e1, e2, e3, e4, g1, g2, g3, rfl, .inl rfl, hn, hle⟩ ?_
    clear e1 e2 e3 e4 g1 g2 g3 hn hle
    rintro n ρ q ⟨k, ⟨tl, al, ao⟩, rfl, hk, e1, e2, e3, e4, g1, g2, g3, hal, happ, hn, hle⟩
    have hln : al.length = k := by simp only at hal; rw [hal, Z03]
    by_cases hlt : (k : Int) < cfgP x
    · have hpl : (cfgWith x ⟨tl, al, ao⟩).Players = cfgP x := rfl
      have htk : (cfgWith x ⟨tl, al, ao⟩).Tokens = ⟨tl, al, ao⟩ := rfl
      rcases happ with ht | ⟨j, ht, hj1, hj2, g4, hj4⟩
      · simp only at ht
        subst ht
        (have zx := And.intro e1 (And.intro e2 (And.intro e3 (And.intro e4 (And.intro g1 (And.intro g2 (And.intro g3 (And.intro hlt (And.intro hpl htk)))))))); have hc := True.intro; refine zq31 (k := ?_); clear hc; try exact True.intro)
        repeat' ((first | refine X0d ?_ ?_ | refine Q0d ?_ ?_ | refine K0d _ _ _ _ ?_ ?_ | refine Y0d ?_ ?_ | refine V0d _ _ _ _ ?_ ?_) <;> intro hc <;> (try simp only [zhd] at hc) <;> (try have hw := Z0b hc) <;> (refine zq31 (k := ?_); try exact True.intro))
        all_goals (try clear zx)
        exact ⟨(cfgP x).toNat - (k + 1), by omega, k + 1, ⟨.own (q.n + 13), al ++ [tokAt x k], nofun⟩, rfl, by omega, by simp [put_at, X0b, e1], by simp [put_at, X0b, e2], by simp [put_at, X0b, e3], by simp [put_at, X0b], by simp (disch := first | exact zdl | fail) only [zheap, g1], by simp (disch := first | exact zdl | fail) only [zheap, g2], by simp (disch := first | exact zdl | fail) only [zheap]; first | done | rfl, by simp only at hal; rw [hal, X1a], .inr ⟨q.n + 13, rfl, by omega, by simp only [Hp.bump_n, Hp.znew_n, Hp.zset_n]; omega, by simp (disch := first | exact zdl | fail) only [zheap, List.length_append, List.length_cons, List.length_nil], by simp⟩, by simp only [Hp.bump_n, Hp.znew_n, Hp.zset_n]; omega, zlq⟩
      · simp only at ht g4 hj4
        subst ht
        (have zx := And.intro e1 (And.intro e2 (And.intro e3 (And.intro e4 (And.intro g1 (And.intro g2 (And.intro g3 (And.intro hlt (And.intro g4 (And.intro hpl htk))))))))); have hc := True.intro; refine zq31 (k := ?_); clear hc; try exact True.intro)
        repeat' ((first | refine X0d ?_ ?_ | refine Q0d ?_ ?_ | refine K0d _ _ _ _ ?_ ?_ | refine Y0d ?_ ?_ | refine V0d _ _ _ _ ?_ ?_) <;> intro hc <;> (try simp only [zhd] at hc) <;> (try have hw := Z0b hc) <;> (refine zq31 (k := ?_); try exact True.intro))
        all_goals (try clear zx)
        exact ⟨(cfgP x).toNat - (k + 1), by omega, k + 1, ⟨.own (q.n + 13), al ++ [tokAt x k], nofun⟩, rfl, by omega, by simp [put_at, X0b, e1], by simp [put_at, X0b, e2], by simp [put_at, X0b, e3], by simp [put_at, X0b], by simp (disch := first | exact zdl | fail) only [zheap, g1], by simp (disch := first | exact zdl | fail) only [zheap, g2], by simp (disch := first | exact zdl | fail) only [zheap]; first | done | rfl, by simp only at hal; rw [hal, X1a], .inr ⟨q.n + 13, rfl, by omega, by simp only [Hp.bump_n, Hp.znew_n, Hp.zset_n]; omega, by simp (disch := first | exact zdl | fail) only [zheap, List.length_append, List.length_cons, List.length_nil], by simp⟩, by simp only [Hp.bump_n, Hp.znew_n, Hp.zset_n]; omega, zlq⟩
    · have hpl : (cfgWith x ⟨tl, al, ao⟩).Players = cfgP x := rfl
      have hk2 : k = (cfgP x).toNat := by omega
      (have zx := And.intro e1 (And.intro e2 (And.intro e3 (And.intro e4 (And.intro g1 (And.intro g2 (And.intro g3 (And.intro hlt hpl))))))); have hc := True.intro; refine zq31 (k := ?_); clear hc; try exact True.intro)
      repeat' ((first | refine X0d ?_ ?_ | refine Q0d ?_ ?_ | refine K0d _ _ _ _ ?_ ?_ | refine Y0d ?_ ?_ | refine V0d _ _ _ _ ?_ ?_) <;> intro hc <;> (try simp only [zhd] at hc) <;> (try have hw := Z0b hc) <;> (refine zq31 (k := ?_); try exact True.intro))
      all_goals (try clear zx)
      refine X0e hF zlq ?_
      have hw := weak_cfg x ⟨tl, al, ao⟩ p.n (happ.imp id fun ⟨j, h1, _, _, _, h5⟩ => ⟨⟨j, h1⟩, h5⟩)
      simp only at hal
      subst hk2
      subst hal
      exact hw
end Go.Proofs.Ytpchcfkebljopaa
end
section
namespace Go.Proofs.Ytpchcfkebljopaa
open Go.Cl Go Go.RowKit
set_option maxRecDepth 100000
def zn15_1 : ZC := ZC.reg [zu 3 (.box 57 (Tm 0)), zv 6 (.assign (.const (.bool false)))]
def zn15_3 : ZC := ZC.reg [zu 13 (zld 57 3), zu 14 (zcf 31 [Tm 13] [57]), zu 7 (.alloc 61), zv0 (.store 61 (Tm 7) (Tm 14))]
def zn15_5 : ZC := ZC.reg [zu 15 (zld 61 7), zu 16 (zcf 58 [Tm 15] [61]), zu 8 (.alloc 66), zv0 (.store 66 (Tm 8) (Tm 16))]
def zn15_8 : ZC := ZC.reg [zu 17 (zcf 59 [] []), zu 18 (.unOp .not 4 (Tm 17)), zu 19 (zmv 18), zug 20 (zld 61 7) 19 false false, zug 21 (zcf 60 [Tm 20] [61]) 19 false false, zug 22 (.unOp .not 4 (Tm 21)) 19 false false, zu 23 (.pick (Tm 19) (.const (.bool true)) (Tm 22)), zu 24 (zmv 23), zug 25 (zld 61 7) 24 false false, zug 26 (zld 66 8) 24 false false, zug 27 (zcf 44 [Tm 25, Tm 26] [61, 66]) 24 false false, zug 28 (.unOp .not 4 (Tm 27)) 24 false false, zv 29 (.pick (Tm 24) (.const (.bool true)) (Tm 28))]
def zn15_11 : ZC := ZC.reg [zv 6 (.assign (.const (.bool false)))]
def zn15_10 : ZC := ZC.seq zn15_11 ZC.ret
def zn15_9 : ZC := ZC.cond (Tm 29) zn15_10 ZC.skip
def zn15_7 : ZC := ZC.seq zn15_8 zn15_9
def zn15_13 : ZC := ZC.draw 11 [] [zdd 0 30 (zfa 61 7 0) false [] [] false, zdd 1 31 (zld 3 30) false [] [] false, zdd 2 32 (zmv 1) false [] [] false, zdd 3 33 (zcf 61 [Tm 31, Tm 32] [3, 58]) false [] [] true, zdd 4 34 (zmv 2) false [] [] false, zdd 5 35 (zmv 2) true [] [] false, zdd 6 36 (zcb .len [Tm 35] [92]) true [3] [] false, zdd 7 37 (zcb .min [Tm 36, Kn 10] [3, 3]) true [3] [] false, zdd 8 38 (.slice 92 (Tm 34) none (some (Tm 37)) none) true [3] [] false, zdd 9 39 (zcb .append [Tm 33, Tm 38] [92, 92]) true [] [] false, zdd 10 9 (zas 39) true [] [] false]
def zn15_16 : ZC := ZC.reg [zu 40 (zmv 9), zu 41 (zcb .len [Tm 40] [92]), zv 42 (.move (Kn 0))]
def zn15_20 : ZC := ZC.reg [zv 43 (.binOp .lss 3 (Tm 42) (Tm 41) 3)]
def zn15_22 : ZC := ZC.cond (Tm 43) ZC.skip (ZC.exit 0)
def zn15_26 : ZC := ZC.reg [zu 44 (zmv 42), zv 10 (zas 44)]
def zn15_28 : ZC := ZC.draw 9 [(7, .alloc 66)] [zdd 0 45 (zld 61 7) false [] [] false, zdd 1 46 (zld 66 8) false [] [] false, zdd 2 47 (zmv 9) false [] [] false, zdd 3 48 (zmv 10) false [] [] false, zdd 4 49 (zia 92 47 48) false [] [] false, zdd 5 50 (zld 108 49) false [] [] false, zdd 6 51 (zcf 62 [Tm 45, Tm 46, Tm 50] [61, 66, 108]) false [] [] true, zdd 7 11 (.alloc 66) true [6] [] false, zd0 8 (.store 66 (Tm 11) (Tm 51)) true [] [] false]
def zn15_31 : ZC := ZC.reg [zu 52 (zld 61 7), zu 53 (zld 66 11), zu 54 (zcf 44 [Tm 52, Tm 53] [61, 66]), zu 55 (.unOp .not 4 (Tm 54)), zu 56 (zmv 55), zug 57 (zfa 66 11 0) 56 false false, zug 58 (zld 3 57) 56 false false, zug 59 (zfa 66 8 0) 56 false false, zug 60 (zld 3 59) 56 false false, zug 61 (.binOp .add 3 (Tm 60) (Kn 1) 3) 56 false false, zug 62 (.binOp .neq 3 (Tm 58) (Tm 61) 3) 56 false false, zv 63 (.pick (Tm 56) (.const (.bool true)) (Tm 62))]
def zn15_34 : ZC := ZC.reg [zv 6 (.assign (.const (.bool false)))]
def zn15_33 : ZC := ZC.seq zn15_34 ZC.ret
def zn15_32 : ZC := ZC.cond (Tm 63) zn15_33 ZC.skip
def zn15_30 : ZC := ZC.seq zn15_31 zn15_32
def zn15_37 : ZC := ZC.reg [zv 12 (.assign (Kn 0))]
def zn15_42 : ZC := ZC.reg [zu 64 (zmv 12), zu 65 (zfa 61 7 0), zu 66 (zld 3 65), zv 67 (.binOp .lss 3 (Tm 64) (Tm 66) 3)]
def zn15_43 : ZC := ZC.cond (Tm 67) ZC.skip (ZC.exit 2)
def zn15_41 : ZC := ZC.seq zn15_42 zn15_43
def zn15_47 : ZC := ZC.draw 30 [] [zdd 0 70 (zmv 12) false [] [] false, zdd 1 71 (zfa 66 11 3) false [] [] false, zdd 2 72 (zia 64 71 70) false [] [] false, zdd 3 73 (zld 3 72) false [] [] false, zdd 4 74 (zmv 12) false [] [] false, zdd 5 75 (zfa 66 8 3) true [] [] false, zdd 6 76 (zia 64 75 74) true [] [] false, zdd 7 77 (zld 3 76) true [] [] false, zdd 8 78 (.binOp .lss 3 (Tm 73) (Tm 77) 3) true [] [] false, zdd 9 79 (zmv 78) true [] [] false, ⟨10, some 80, zmv 12, some (79, false), false, [], [], false⟩, ⟨11, some 81, zfa 66 11 2, some (79, false), false, [], [], false⟩, ⟨12, some 82, zia 63 81 80, some (79, false), false, [], [], false⟩, ⟨13, some 83, zfa 34 82 8, some (79, false), false, [], [], false⟩, ⟨14, some 84, zld 3 83, some (79, false), false, [], [], false⟩, ⟨15, some 85, zmv 12, some (79, false), false, [], [], false⟩, ⟨16, some 86, zfa 66 8 2, some (79, false), true, [], [], false⟩, ⟨17, some 87, zia 63 86 85, some (79, false), true, [], [], false⟩, ⟨18, some 88, zfa 34 87 8, some (79, false), true, [], [], false⟩, ⟨19, some 89, zld 3 88, some (79, false), true, [], [], false⟩, ⟨20, some 90, .binOp .lss 3 (Tm 84) (Tm 89) 3, some (79, false), true, [], [], false⟩, zdd 21 91 (.pick (Tm 79) (.const (.bool true)) (Tm 90)) true [] [] false, zdd 22 92 (zmv 91) true [] [] false, ⟨23, some 93, zmv 12, some (92, false), false, [], [], false⟩, ⟨24, some 94, zfa 66 11 2, some (92, false), true, [], [], false⟩, ⟨25, some 95, zia 63 94 93, some (92, false), true, [], [], false⟩, ⟨26, some 96, zld 34 95, some (92, false), true, [], [], false⟩, ⟨27, some 97, zcf 24 [Tm 96] [34], some (92, false), true, [], [], false⟩, ⟨28, some 98, .unOp .not 4 (Tm 97), some (92, false), true, [], [], false⟩, zdd 29 99 (.pick (Tm 92) (.const (.bool true)) (Tm 98)) true [] [] false]
def zn15_50 : ZC := ZC.reg [zv 6 (.assign (.const (.bool false)))]
def zn15_49 : ZC := ZC.seq zn15_50 ZC.ret
def zn15_48 : ZC := ZC.cond (Tm 99) zn15_49 ZC.skip
def zn15_46 : ZC := ZC.seq zn15_47 zn15_48
def zn15_45 : ZC := ZC.block 3 zn15_46
def zn15_51 : ZC := ZC.reg [zu 68 (zmv 12), zu 69 (.binOp .add 3 (Tm 68) (Kn 1) 3), zv 12 (zas 69)]
def zn15_44 : ZC := ZC.seq zn15_45 zn15_51
def zn15_40 : ZC := ZC.seq zn15_41 zn15_44
def zn15_39 : ZC := ZC.loop zn15_40
def zn15_38 : ZC := ZC.block 2 zn15_39
def zn15_36 : ZC := ZC.seq zn15_37 zn15_38
def zn15_52 : ZC := ZC.reg [zu 100 (zld 66 11), zv0 (.store 66 (Tm 8) (Tm 100))]
def zn15_35 : ZC := ZC.seq zn15_36 zn15_52
def zn15_29 : ZC := ZC.seq zn15_30 zn15_35
def zn15_27 : ZC := ZC.seq zn15_28 zn15_29
def zn15_25 : ZC := ZC.seq zn15_26 zn15_27
def zn15_24 : ZC := ZC.block 1 zn15_25
def zn15_53 : ZC := ZC.reg [zu 101 (.binOp .add 3 (Tm 42) (Kn 1) 3), zv 42 (zmv 101)]
def zn15_23 : ZC := ZC.seq zn15_24 zn15_53
def zn15_21 : ZC := ZC.seq zn15_22 zn15_23
def zn15_19 : ZC := ZC.seq zn15_20 zn15_21
def zn15_18 : ZC := ZC.loop zn15_19
def zn15_17 : ZC := ZC.block 0 zn15_18
def zn15_15 : ZC := ZC.seq zn15_16 zn15_17
def zn15_55 : ZC := ZC.reg [zv 6 (.assign (.const (.bool true)))]
def zn15_54 : ZC := ZC.seq zn15_55 ZC.ret
def zn15_14 : ZC := ZC.seq zn15_15 zn15_54
def zn15_12 : ZC := ZC.seq zn15_13 zn15_14
def zn15_6 : ZC := ZC.seq zn15_7 zn15_12
def zn15_4 : ZC := ZC.seq zn15_5 zn15_6
def zn15_2 : ZC := ZC.seq zn15_3 zn15_4
def zn15_0 : ZC := ZC.seq zn15_1 zn15_2
def zc15 : ZC := zn15_0
theorem zc15_ok : zcode (xfOf Try.f15).code = some zc15 := by kernel_rfl
set_option linter.defProp false in
def zw15 := And.intro (zunf C zc15.eq_1) <| And.intro (zunf C zn15_1.eq_1) <| And.intro (zunf C zn15_3.eq_1) <| And.intro (zunf C zn15_5.eq_1) <| And.intro (zunf C zn15_8.eq_1) <| And.intro (zunf C zn15_11.eq_1) <| And.intro (zunf C zn15_10.eq_1) <| And.intro (zunf C zn15_9.eq_1) <| And.intro (zunf C zn15_7.eq_1) <| And.intro (zunf C zn15_13.eq_1) <| And.intro (zunf C zn15_16.eq_1) <| And.intro (zunf C zn15_20.eq_1) <| And.intro (zunf C zn15_22.eq_1) <| And.intro (zunf C zn15_26.eq_1) <| And.intro (zunf C zn15_28.eq_1) <| And.intro (zunf C zn15_31.eq_1) <| And.intro (zunf C zn15_34.eq_1) <| And.intro (zunf C zn15_33.eq_1) <| And.intro (zunf C zn15_32.eq_1) <| And.intro (zunf C zn15_30.eq_1) <| And.intro (zunf C zn15_37.eq_1) <| And.intro (zunf C zn15_42.eq_1) <| And.intro (zunf C zn15_43.eq_1) <| And.intro (zunf C zn15_41.eq_1) <| And.intro (zunf C zn15_47.eq_1) <| And.intro (zunf C zn15_50.eq_1) <| And.intro (zunf C zn15_49.eq_1) <| And.intro (zunf C zn15_48.eq_1) <| And.intro (zunf C zn15_46.eq_1) <| And.intro (zunf C zn15_45.eq_1) <| And.intro (zunf C zn15_51.eq_1) <| And.intro (zunf C zn15_44.eq_1) <| And.intro (zunf C zn15_40.eq_1) <| And.intro (zunf C zn15_38.eq_1) <| And.intro (zunf C zn15_36.eq_1) <| And.intro (zunf C zn15_52.eq_1) <| And.intro (zunf C zn15_35.eq_1) <| And.intro (zunf C zn15_29.eq_1) <| And.intro (zunf C zn15_27.eq_1) <| And.intro (zunf C zn15_25.eq_1) <| And.intro (zunf C zn15_24.eq_1) <| And.intro (zunf C zn15_53.eq_1) <| And.intro (zunf C zn15_23.eq_1) <| And.intro (zunf C zn15_21.eq_1) <| And.intro (zunf C zn15_19.eq_1) <| And.intro (zunf C zn15_17.eq_1) <| And.intro (zunf C zn15_15.eq_1) <| And.intro (zunf C zn15_55.eq_1) <| And.intro (zunf C zn15_54.eq_1) <| And.intro (zunf C zn15_14.eq_1) <| And.intro (zunf C zn15_12.eq_1) <| And.intro (zunf C zn15_6.eq_1) <| And.intro (zunf C zn15_4.eq_1) <| And.intro (zunf C zn15_2.eq_1) <| (zunf C zn15_0.eq_1)
theorem rs15 : (xfOf Try.f15).rs = [.tmp 6] := by kernel_rfl
theorem xf15 : XFok C 15 (xfOf Try.f15) := by refine ⟨Try.f15, ?_, ?_, ?_, ?_, ?_, ?_, ?_⟩ <;> kernel_rfl
end Go.Proofs.Ytpchcfkebljopaa
end
section
namespace Go.Proofs.Ytpchcfkebljopaa
open Go.Cl Go Go.RowKit
theorem nth_rep {α : Type} [Inhabited α] {n j : Nat} (x : α) (h : j < n) : nth (List.replicate n x) j = x := by
  unfold nth; rw [List.getElem?_replicate, if_pos h]; rfl
theorem born_facts {P o : Int} (hP : 1 ≤ P ∧ P ≤ 8) (ho : 0 ≤ o ∧ o < P) : (bodyBorn o P).Kind = 1 ∧ (bodyBorn o P).Owner = o ∧ (0 ≤ (bodyBorn o P).X ∧ (bodyBorn o P).X ≤ 4095) := by
  have h1 : brought P 1 8 = P := by unfold brought; omega
  have h2 : brought o 0 (P - 1) = o := by unfold brought; omega
  have hx : (bodyBorn o P).X = w64 (((2 * o + 1) * 4096).tdiv (2 * P)) := by simp only [bodyBorn, h1, h2]
  refine ⟨rfl, by simp only [bodyBorn, h1, h2], ?_⟩
  rw [hx, Int.tdiv_eq_ediv_of_nonneg (by omega)]
  have hb : 0 ≤ ((2 * o + 1) * 4096) / (2 * P) ∧ ((2 * o + 1) * 4096) / (2 * P) ≤ 4095 := by
    have : P = 1 ∨ P = 2 ∨ P = 3 ∨ P = 4 ∨ P = 5 ∨ P = 6 ∨ P = 7 ∨ P = 8 := by omega
    rcases this with h | h | h | h | h | h | h | h <;> subst h <;> omega
  rw [show w64 (((2 * o + 1) * 4096) / (2 * P)) = ((2 * o + 1) * 4096) / (2 * P) from Z1r (by omega) (by omega)]
  exact hb
theorem V1a {P : Int} (hP : 1 ≤ P ∧ P ≤ 8) {v : Q0a} (ho : 0 ≤ v.Owner ∧ v.Owner < P) (hf : 0 ≤ v.Faults ∧ v.Faults ≤ 65535) : Body.right (again P v) = true ∧ (again P v).Kind = 1 ∧ (again P v).Owner = v.Owner := by
  obtain ⟨b1, b2, b3⟩ := born_facts hP ho
  refine ⟨(K0i (by show (bodyBorn v.Owner P).Kind ≠ 0; omega)).2 ⟨?_, .inl b1, by show 0 ≤ (bodyBorn v.Owner P).Owner ∧ (bodyBorn v.Owner P).Owner ≤ 7; omega, b3, by simp [again, bodyBorn], by simp [again, bodyBorn, Q0a.zero], by simp [again, bodyBorn, Q0a.zero], by simp [again, bodyBorn, Q0a.zero], hf⟩, b1, b2⟩
  intro n hn
  have : n = 0 := by simpa [again, bodyBorn, Q0a.zero] using hn
  omega
structure GameOk (P : Int) (s : X0a) : Prop where
  placed : Placed P s.Bodies
  score : ∀ j, j < 8 → scoreAt P j (nth s.Score j) = true
theorem Q1m {P : Int} {l : List Q0a} (h : Placed P l) (hl : l.length = 16) {k : Nat} {x : Q0a} (hx : k < 16 → rightAt P k x = true) : Placed P (l.set k x) := by
  intro j hj
  by_cases e : j = k
  · subst e; rw [X0j (by omega)]; exact hx hj
  · rw [V0i e]; exact h j hj
structure HitTurns (P : Int) (s t : X0a) : Prop where
  ok : GameOk P t
  score : ∀ j, j < 8 → nth s.Score j ≤ nth t.Score j
  faults : ∀ j : Nat, (j : Int) < P → (nth t.Bodies j).Faults = (nth s.Bodies j).Faults
theorem X1t {P : Int} (hP : 1 ≤ P ∧ P ≤ 8) {s : X0a} (h : GameOk P s) {k : Nat} (hk : k < 16) : HitTurns P s (hitStep P s k) := by
  have same : HitTurns P s s := ⟨h, fun _ _ => Int.le_refl _, fun _ _ => rfl⟩
  have hb := s.hBodies
  have hsc := s.hScore
  unfold hitStep
  simp only
  split
  · exact same
  · rename_i hK
    have hK : (nth s.Bodies k).Kind = 2 := by simpa using hK
    split
    · exact same
    · rename_i hneg
      rcases X1d s.Bodies (nth s.Bodies k) with ha | ⟨i, hi, ha, hi1, _⟩
      · rw [ha] at hneg; omega
      · have hik : i ≠ k := by intro e; subst e; omega
        rw [ha]
        simp only [Int.toNat_natCast]
        have hpk := h.placed k hk
        have hrk := Z0i (Q0m hpk) (by omega)
        unfold rightAt at hpk
        simp only [Bool.and_eq_true] at hpk
        have hpk2 := hpk.2
        have hkP : ¬ (k : Int) < P := by
          intro hlt; rw [if_pos hlt] at hpk2; simp only [Bool.and_eq_true, decide_eq_true_eq] at hpk2; omega
        rw [if_neg hkP] at hpk2
        simp only [Bool.or_eq_true, Bool.and_eq_true, decide_eq_true_eq] at hpk2
        have hoP : (nth s.Bodies k).Owner < P := by omega
        have hpi := h.placed i (by omega)
        have hri := Z0i (Q0m hpi) (by omega)
        unfold rightAt at hpi
        simp only [Bool.and_eq_true] at hpi
        have hpi2 := hpi.2
        have hiP : (i : Int) < P := by
          apply Classical.byContradiction; intro hlt; rw [if_neg hlt] at hpi2; simp only [Bool.or_eq_true, Bool.and_eq_true, decide_eq_true_eq] at hpi2; omega
        rw [if_pos hiP] at hpi2
        simp only [Bool.and_eq_true, decide_eq_true_eq] at hpi2
        have hvi : nth ((s.put_3k (nth s.Bodies k).Owner.toNat (min (nth s.Score (nth s.Bodies k).Owner.toNat + 1) 2147483647)).put_2k k Q0a.zero).Bodies i = nth s.Bodies i := by
          show nth (s.Bodies.set k Q0a.zero) i = _
          exact V0i hik
        rw [hvi]
        have hag := V1a hP (v := nth s.Bodies i) (by omega) hri.2.2.2.2.2.2.1
        have hso := h.score (nth s.Bodies k).Owner.toNat (by omega)
        have hsr := Y1e hso
        refine ⟨⟨?_, ?_⟩, ?_, ?_⟩
        · show Placed P ((s.Bodies.set k Q0a.zero).set i (again P (nth s.Bodies i)))
          refine Q1m (Q1m h.placed hb fun _ => ?_) (by rw [List.length_set]; exact hb) fun _ => ?_
          · unfold rightAt; rw [if_neg hkP, K0y]; rfl
          · unfold rightAt; rw [if_pos hiP, hag.1, hag.2.1, hag.2.2, hpi2.2]; simp
        · intro j hj
          show scoreAt P j (nth (s.Score.set _ _) j) = true
          by_cases e : j = (nth s.Bodies k).Owner.toNat
          · subst e
            rw [X0j (by omega)]
            have hjP : ¬ P ≤ ((nth s.Bodies k).Owner.toNat : Int) := by omega
            simp only [scoreAt, within, hjP, decide_false, Bool.false_and, Bool.not_false, Bool.and_true, Bool.and_eq_true, decide_eq_true_eq]
            omega
          · rw [V0i e]; exact h.score j hj
        · intro j hj
          show _ ≤ nth (s.Score.set _ _) j
          by_cases e : j = (nth s.Bodies k).Owner.toNat
          · subst e; rw [X0j (by omega)]; omega
          · rw [V0i e]; exact Int.le_refl _
        · intro j hj
          show (nth ((s.Bodies.set k Q0a.zero).set i (again P (nth s.Bodies i))) j).Faults = _
          by_cases e : j = i
          · subst e; rw [X0j (by rw [List.length_set]; omega)]; rfl
          · rw [V0i e, V0i (by intro e2; subst e2; exact hkP hj)]
theorem K0z {P : Int} (hP : 1 ≤ P ∧ P ≤ 8) {s : X0a} (h : GameOk P s) : ∀ k, k ≤ 16 → HitTurns P s (hitsS P s k)
  | 0, _ => ⟨h, fun _ _ => Int.le_refl _, fun _ _ => rfl⟩
  | k + 1, hk => by
    have ih := K0z hP h k (by omega)
    have st := X1t hP ih.ok (k := k) (by omega)
    exact ⟨st.ok, fun j hj => Int.le_trans (ih.score j hj) (st.score j hj), fun j hj => by rw [← ih.faults j hj]; exact st.faults j hj⟩
theorem right_of {c : V0a} {s : X0a} (h : GameOk c.Players s) (hl : legalC c = true) (hf : 0 ≤ s.Frame ∧ s.Frame ≤ 600) : stateRight c s = true := by
  simp only [stateRight, Bool.and_eq_true]
  refine ⟨⟨⟨(Q0s _ _ _).2 fun j hj => ?_, (Q0s _ _ _).2 fun j hj => ?_⟩, hl⟩, by simp [within, hf.1, hf.2]⟩
  · rw [Nat.zero_add]; exact h.placed j (by rw [← s.hBodies]; exact hj)
  · rw [Nat.zero_add]; exact h.score j (by rw [← s.hScore]; exact hj)
theorem sets_game {c : V0a} {s : X0a} (h : stateRight c s = true) (row : List V0b) : GameOk c.Players (setsS (turnsS c.Rules.l row s 16) 16).1 := by
  have ht := X0v c.Rules.l row (V0j h).1 16 (Nat.le_refl _)
  have hs := X1n (st := turnsS c.Rules.l row s 16) ⟨ht.placed, ht.shots⟩ 16 (Nat.le_refl _)
  exact ⟨hs.placed, fun j hj => by rw [(V0p _ 16).1, (X0n _ _ _ 16).1]; exact (V0j h).2.1 j hj⟩
theorem stepS_eq {c : V0a} {s : X0a} (h : stateRight c s = true) (row : List V0b) : stepS c row s = { hitsS c.Players (setsS (turnsS c.Rules.l row s 16) 16).1 16 with Frame := min (s.Frame + 1) 600 } := by
  unfold stepS
  rw [h]
  simp only [Bool.true_eq_false, if_false]
  have hf : (hitsS c.Players (setsS (turnsS c.Rules.l row s 16) 16).1 16).Frame = s.Frame := by
    rw [X04, (V0p _ 16).2.1, (X0n _ _ _ 16).2]
  rw [hf]
theorem stepS_right {c : V0a} {s : X0a} (h : stateRight c s = true) (row : List V0b) : stateRight c (stepS c row s) = true ∧ (stepS c row s).Frame = min (s.Frame + 1) 600 := by
  have hl := (V0j h).2.2.1
  have hf := (V0j h).2.2.2
  have hh := K0z (Y0m hl).1 (sets_game h row) 16 (Nat.le_refl _)
  rw [stepS_eq h row]
  generalize hitsS c.Players (setsS (turnsS c.Rules.l row s 16) 16).1 16 = t at hh ⊢
  refine ⟨right_of ⟨hh.ok.placed, hh.ok.score⟩ hl ?_, by simp only⟩
  show 0 ≤ min (s.Frame + 1) 600 ∧ min (s.Frame + 1) 600 ≤ 600
  omega
theorem firstK_at (c : V0a) : ∀ k, k ≤ 16 → ∀ j, j < 16 → nth (firstK c k).Bodies j = if j < k then bodyBorn j c.Players else Q0a.zero
  | 0, _, j, hj => by
    rw [if_neg (by omega)]
    exact nth_rep Q0a.zero hj
  | k + 1, hk, j, hj => by
    have ih := firstK_at c k (by omega) j hj
    show nth ((firstK c k).Bodies.set k (bodyBorn k c.Players)) j = _
    by_cases e : j = k
    · subst e; rw [X0j (by rw [(firstK c j).hBodies]; omega), if_pos (by omega)]
    · rw [V0i e, ih]
      by_cases hlt : j < k
      · rw [if_pos hlt, if_pos (by omega)]
      · rw [if_neg hlt, if_neg (by omega)]
theorem Z06 (c : V0a) : ∀ k, (firstK c k).Score = List.replicate 8 0 ∧ (firstK c k).Frame = 0
  | 0 => ⟨rfl, rfl⟩
  | k + 1 => Z06 c k
theorem firstS_right {c : V0a} (h : legalC c = true) : stateRight c (firstS c) = true ∧ (firstS c).Frame = 0 := by
  have hP := (Y0m h).1
  have he : firstS c = firstK c c.Players.toNat := by simp [firstS, h]
  rw [he]
  have hs := Z06 c c.Players.toNat
  refine ⟨right_of ⟨fun j hj => ?_, fun j hj => ?_⟩ h (by rw [hs.2]; omega), hs.2⟩
  · rw [firstK_at c _ (by omega) j hj]
    unfold rightAt
    by_cases hlt : j < c.Players.toNat
    · have hjP : (j : Int) < c.Players := by omega
      rw [if_pos hlt, if_pos hjP]
      obtain ⟨b1, b2, b3⟩ := born_facts hP (o := (j : Int)) (by omega)
      have hr : Body.right (bodyBorn j c.Players) = true := by
        have := V1a hP (v := { Q0a.zero with Owner := (j : Int) }) ⟨by simp only; omega, hjP⟩ (by simp [Q0a.zero])
        exact this.1
      simp [hr, b1, b2]
    · have hjP : ¬ (j : Int) < c.Players := by omega
      rw [if_neg hlt, if_neg hjP, K0y]; rfl
  · rw [hs.1]
    have : nth (List.replicate 8 (0 : Int)) j = 0 := nth_rep 0 hj
    rw [this]
    simp [scoreAt, within]
theorem Y0r {n lo hi : Int} (h : lo ≤ n ∧ n ≤ hi) : within n lo hi = true := by simp [within, h.1, h.2]
theorem tokGo_map (f : Nat → Int) (hf : ∀ i j, f i = f j → i = j) (hw : ∀ i, i < 9 → within (f i) 0 2147483646 = true) : ∀ (m k : Nat), k + m ≤ 9 → tokGo ((List.range k).map f) ((List.range' k m).map f) = true
  | 0, k, _ => rfl
  | m + 1, k, h => by
    simp only [List.range'_succ, List.map_cons, tokGo, Bool.and_eq_true]
    refine ⟨⟨hw k (by omega), ?_⟩, ?_⟩
    · simp only [Bool.not_eq_true', List.contains_eq_mem, decide_eq_false_iff_not, List.mem_map, List.mem_range, not_exists, not_and]
      intro i hi e
      have := hf _ _ e
      omega
    · have := tokGo_map f hf hw m (k + 1) (by omega)
      rwa [List.range_succ, List.map_append] at this
theorem cfg_legal (x : K0a) : legalC (cfgOf x) = true := by
  have hP := Q04 x
  have p1 := K0h (n := x.Period) (m := 3) (by omega)
  have p2 := K0h (n := x.Grace) (m := 8) (by omega)
  have p3 := K0h (n := x.Start) (m := 6) (by omega)
  have p4 := K0h (n := x.Frames) (m := 90) (by omega)
  have p5 := K0h (n := x.Seed) (m := 2147483648) (by omega)
  have p6 := K0h (n := x.Rate) (m := 9) (by omega)
  have p7 := K0h (n := w64 (x.Rate.tdiv 9)) (m := 40) (by omega)
  have p8 := K0h (n := w64 (x.Seed.tdiv 3)) (m := 1000000) (by omega)
  have hb : bucketOk (cfgRate x) (cfgDepth x) = true := by
    unfold cfgRate cfgDepth
    by_cases h : 0 < x.Rate.tmod 3
    · rw [if_pos h, if_pos h]; exact K1b (by kernel_rfl) (by kernel_rfl)
    · rw [if_neg h, if_neg h]; exact K1b (rate_ok p6).2 (dept_ok p7).2.2
  have ht : tokGo [] (cfgTok x (cfgP x).toNat) = true := by
    have := tokGo_map (tokAt x) (fun i j h => by simp only [tokAt] at h; omega) (fun i hi => Y0r (by simp only [tokAt]; omega)) (cfgP x).toNat 0 (by omega)
    simpa [cfgTok, List.range_eq_range'] using this
  have hr := X1q x.Rules.l
  have hlen : decide (((cfgTok x (cfgP x).toNat).length : Int) = cfgP x) = true := by rw [Z03]; simp; omega
  simp only [legalC, cfgOf, cfgWith, Bool.and_eq_true, partL_l]
  exact ⟨⟨⟨⟨⟨Y0r hP, ⟨⟨⟨Y0r (by omega), Y0r (by omega)⟩, Y0r (by omega)⟩, Y0r (by omega)⟩⟩, Y0r (by omega)⟩, hb⟩, hr⟩, ht, hlen⟩
theorem cfg_len (x : K0a) : (cfgOf x).Tokens.l.length ≤ 1000000 ∧ (cfgOf x).Rules.l.length ≤ 1000000 := by
  have hP := Q04 x
  simp only [cfgOf, cfgWith, partL_l, Z03]
  refine ⟨by omega, ?_⟩
  simp [rulesOf]; omega
theorem rowsOf_len (players : Int) (l : List (Lst Int)) : (rowsOf players l).length ≤ 40 := by simp [rowsOf]; omega
theorem shapes_s {α : Type} {f : α → CV} {sh : Shape} (h : ∀ x, (f x).shape = sh) (l : List α) : (l.map f).all (fun v => decide (v.shape = sh)) = true := by
  simp [h]
theorem move_faults {b : Q0a} (h : Body.right b = true) (hk : b.Kind = 1) : (bodyMove b).1.Faults = b.Faults := by
  unfold bodyMove
  rw [if_pos ⟨h, by omega⟩, if_pos hk]
theorem turn_faults (rules : List Y0c) (row : List V0b) (dice room : Int) {b : Q0a} (h : Body.right b = true) (hk : b.Kind = 1) (hr : 0 ≤ room) :
    b.Faults ≤ (playerTurn rules row dice room b).body.Faults := by
  have hp := Z1l h (by omega) ((rowInput row b.Owner).X.tdiv 16) ((rowInput row b.Owner).Y.tdiv 16)
  have hek : (playerEnv row dice room b).Body.Kind ≠ 0 := by show (bodyPush _ _ _).Kind ≠ 0; rw [hp.2.1]; omega
  have hi : InvE (playerEnv row dice room b) (copiedE (playerEnv row dice room b)) := by
    refine ⟨hp.1, rfl, rfl, rfl, rfl, rfl, rfl, ?_, ?_⟩
    · simpa [copiedE, V0s, playerEnv] using hr
    · intro s hs; simp [copiedE, V0s, playerEnv] at hs
  have iv := run_inv hek 64 ⟨copiedE (playerEnv row dice room b), ⟨.view, rules, nofun⟩, 0⟩ hi (by simp)
  have hf : (playerEnv row dice room b).Body.Faults = b.Faults := by show (bodyPush _ _ _).Faults = _; unfold bodyPush; rw [if_pos ⟨h, by omega⟩]
  unfold playerTurn
  by_cases ho : (runL rules (playerEnv row dice room b)).2.2 = true
  · simp only [ho, if_true]
    have hq : ∃ m, Mach.run 64 ⟨copiedE (playerEnv row dice room b), ⟨.view, rules, nofun⟩, 0⟩ = .ok m ∧ (runL rules (playerEnv row dice room b)).1 = m.e_ := by
      unfold runL ruleRun at ho ⊢
      split at ho
      · cases ho
      · rename_i hn
        rw [if_neg hn]
        cases hm : Mach.run 64 ⟨copiedE (playerEnv row dice room b), ⟨.view, rules, nofun⟩, 0⟩ with
        | error c => rw [hm] at ho; cases ho
        | ok m => exact ⟨m, rfl, rfl⟩
    obtain ⟨m, hm, he⟩ := hq
    rw [hm] at iv
    rw [he, iv.faults, hf]
    exact Int.le_refl _
  · simp only [ho, Bool.false_eq_true, if_false]
    have := (Z0i h (by omega)).2.2.2.2.2.2.1
    omega
theorem X1b {P : Int} {l : List Q0a} (h : Placed P l) {j : Nat} (hj : (j : Int) < P) (hP : P ≤ 8) : (nth l j).Kind = 1 := by
  have := h j (by omega)
  unfold rightAt at this
  simp only [Bool.and_eq_true] at this
  have h2 := this.2
  rw [if_pos hj] at h2
  simp only [Bool.and_eq_true, decide_eq_true_eq] at h2
  exact h2.1
theorem Z02 {P : Int} (hP : P ≤ 8) (rules : List Y0c) (row : List V0b) {s : X0a} (h : Placed P s.Bodies) : ∀ k, k ≤ 16 → ∀ j : Nat, (j : Int) < P → (nth s.Bodies j).Faults ≤ (nth (turnsS rules row s k).1.Bodies j).Faults
  | 0, _, _, _ => Int.le_refl _
  | k + 1, hk, j, hj => by
    have ih := Z02 hP rules row h k (by omega) j hj
    have ok := X0v rules row h k (by omega)
    have hb := (turnsS rules row s k).1.hBodies
    show _ ≤ (nth ((turnsS rules row s k).1.Bodies.set k (bodyMove (bodyTurn rules row (turnsS rules row s k).1.Dice (freeN (turnsS rules row s k).1.Bodies - (turnsS rules row s k).2.length) (nth s.Bodies k)).body).1) j).Faults
    by_cases e : j = k
    · subst e
      rw [X0j (by omega)]
      have hkd := X1b h hj hP
      have hrt := Q0m (h j (by omega))
      have hroom : (0 : Int) ≤ (freeN (turnsS rules row s j).1.Bodies : Int) - (turnsS rules row s j).2.length := by have := ok.room; omega
      have hp := Z0u rules row (turnsS rules row s j).1.Dice _ hrt hkd hroom
      have hf := turn_faults rules row (turnsS rules row s j).1.Dice _ hrt hkd hroom
      unfold bodyTurn
      rw [if_pos hkd, move_faults hp.1 hp.2.1]
      exact hf
    · rw [V0i e]; exact ih
theorem K07 (st : X0a × List Q0a) (j : Nat) (hj : (nth st.1.Bodies j).Kind ≠ 0) : ∀ k, nth (setsS st k).1.Bodies j = nth st.1.Bodies j
  | 0 => rfl
  | k + 1 => by
    have ih := K07 st j hj k
    show nth (setStep (setsS st k) k).1.Bodies j = _
    unfold setStep
    split
    · exact ih
    · split
      · rename_i h0
        show nth ((setsS st k).1.Bodies.set k _) j = _
        by_cases e : j = k
        · subst e; rw [ih] at h0; exact absurd h0 hj
        · rw [V0i e]; exact ih
      · exact ih
theorem step_grows {c : V0a} {s : X0a} (h : stateRight c s = true) (row : List V0b) :
    (∀ j, j < 8 → nth s.Score j ≤ nth (stepS c row s).Score j) ∧ ∀ j : Nat, (j : Int) < c.Players → (nth s.Bodies j).Faults ≤ (nth (stepS c row s).Bodies j).Faults := by
  have hl := (V0j h).2.2.1
  have hP := (Y0m hl).1
  have hg := sets_game h row
  have ht := K0z hP hg 16 (Nat.le_refl _)
  have hpl := (V0j h).1
  have hok := X0v c.Rules.l row hpl 16 (Nat.le_refl _)
  have hsc := (V0p (turnsS c.Rules.l row s 16) 16).1.trans (X0n c.Rules.l row s 16).1
  have hfa := fun (j : Nat) (hj : (j : Int) < c.Players) => K07 (turnsS c.Rules.l row s 16) j (by rw [X1b hok.placed hj hP.2]; omega) 16
  have htf := Z02 hP.2 c.Rules.l row hpl 16 (Nat.le_refl _)
  rw [stepS_eq h]
  generalize (setsS (turnsS c.Rules.l row s 16) 16).1 = S at ht hsc hfa ⊢
  generalize (turnsS c.Rules.l row s 16).1 = T at hfa htf
  generalize hitsS c.Players S 16 = H at ht ⊢
  refine ⟨fun j hj => ?_, fun j hj => ?_⟩
  · have := ht.score j hj
    rw [hsc] at this
    exact this
  · show _ ≤ (nth H.Bodies j).Faults
    rw [ht.faults j hj, hfa j hj]
    exact htf j hj
end Go.Proofs.Ytpchcfkebljopaa
end
section
-- @nole
namespace Go.Proofs.Ytpchcfkebljopaa
open Go.Cl Go Go.RowKit
set_option maxRecDepth 100000
set_option linter.constructorNameAsVariable false
def viewTake {α : Type} (m : Lst α) (k : Nat) : Lst α := ⟨m.tl, m.l.take k, fun h => by have := m.3 h; simp [this]⟩
theorem qslice_view (C : Ctx) {α : Type} (f : α → CV) {t e : TypeId} {sh : Shape} {b0 : Nat} {z : CV} {te : TI} (ht : C.tt t = some ⟨.base (.slice e), sh, b0, z⟩) (hte : C.tt e = some te) (hsh : ∀ x, (f x).shape = te.sh) (h : Heap) (m : Lst α) (b : Int) (hb : 0 ≤ b ∧ b ≤ m.l.length) (htl : m.tl = .view ∨ m.tl = .nil) :
    qslice C h t (Lst.cv f m) none (some (I b)) none = some (Lst.cv f (viewTake m b.toNat)) := by
  simp only [qslice, ht, hte, Lst.cv]
  rw [if_pos (shapes_s hsh m.l)]
  have hq : qbnd (some (I b)) (m.l.map f).length (m.l.map f).length = some b.toNat := by
    simp only [qbnd, List.length_map]
    rw [if_pos ⟨hb.1, hb.2⟩]
  have hl : qbnd none 0 b.toNat = some 0 := rfl
  simp only [hq, hl, viewTake]
  rcases htl with h | h <;> simp [h, List.map_take]
def J15 (c : V0a) (RL : Lst (Lst V0b)) (a7 a8 : Nat) (p : Hp) (n : Nat) (ρ : Env) (q : Hp) : Prop :=
  ∃ (k : Nat) (st : X0a), n = RL.l.length - k ∧ k ≤ RL.l.length ∧ ρ 7 = .ptr a7 [] ∧ ρ 8 = .ptr a8 [] ∧ ρ 9 = RL.cv (Lst.cv V0b.cv) ∧ ρ 41 = I RL.l.length ∧ ρ 42 = I k ∧ a7 < q.n ∧ a8 < q.n ∧ q.t.get a7 = some (.var sh61 c.cv) ∧ q.t.get a8 = some (.var sh66 st.cv) ∧ stateRight c st = true ∧ st.Frame = k ∧ HpLe p q
def J15i (c : V0a) (RL : Lst (Lst V0b)) (k : Nat) (st tt : X0a) (a7 a8 a11 : Nat) (p : Hp) (n : Nat) (ρ : Env) (q : Hp) : Prop :=
  ∃ i : Nat, n = c.Players.toNat - i ∧ i ≤ c.Players.toNat ∧ ρ 7 = .ptr a7 [] ∧ ρ 8 = .ptr a8 [] ∧ ρ 9 = RL.cv (Lst.cv V0b.cv) ∧ ρ 11 = .ptr a11 [] ∧ ρ 12 = I i ∧ ρ 41 = I RL.l.length ∧ ρ 42 = I k ∧ a7 < q.n ∧ a8 < q.n ∧ q.t.get a7 = some (.var sh61 c.cv) ∧ q.t.get a8 = some (.var sh66 st.cv) ∧ q.t.get a11 = some (.var sh66 tt.cv) ∧ HpLe p q
def R15 : Rel := fun args p r => ∃ (x : K0a) (l : Lst (Lst Int)) (m : Lst (Lst V0b)), args = [x.cv, Lst.cv (Lst.cv I) l, Lst.cv (Lst.cv V0b.cv) m] ∧ (m.tl = .view ∨ m.tl = .nil) ∧ r = .ret (Bo true) p
theorem zq15 {A B : Prop} (h : A = B := by ((try simp -dsimp (disch := first | exact zdis | fail) only [zcore, zall, zopm, zop, zcallOp, qop, qbuiltin, ofOpt, List.map, reduceCtorEq, if_true, if_false, ↓reduceIte, zbin, eqRes, qassert, qnum, qshift, qun, kindOf, allocV, List.nil_append, List.append_nil, List.cons_append, List.length_cons, List.length_nil, Nat.reduceAdd, Nat.reduceEqDiff, Nat.reduceLT, Nat.reduceSub, Nat.reduceMul, Int.reduceToNat, Int.reduceLE, Int.reduceLT, Int.reduceEq, Int.reduceNeg, Int.reduceAdd, Int.reduceSub, beq_self_eq_true, cond_true, cond_false, isConstOpd, xpanic, xconv, isBytes, qconv, List.length_map, List.map_nil, List.map_cons, concrete, Option.some.injEq, exists_eq', Option.map_some, Option.map_none, List.getElem?_cons_zero, List.getElem?_cons_succ, zw15, rs15, tt3, tt34, tt57, tt61, tt63, tt64, tt66, tt92, tt108, ti3, ti34, ti57, ti61, ti63, ti64, ti66, ti92, ti108, t_31, t_58, t_59, t_60, t_44, t_61, t_62, t_24, V0t, Q0h, Y0i, Z0f, zsl63, zsl64, zsl92, zsl108, ownL_nil, ownL_cons, ownH_nil, ownH_cons, h1, zx, hc]); rfl)) (k : B) : A := h ▸ k
theorem zno15 {P : Prop} (h : P := by intro jj; simp [CV.has, CV.hasL, fault, V0c.nohas, X0a.nohas, Q0a.nohas]) : P := h
theorem zge15 {P : Prop} (h : P := by simp (disch := first | exact zdl | fail) only [zheap]; first | done | rfl) : P := h
set_option maxHeartbeats 8000000 in
theorem c15 : Con C 15 R15 := by
  refine Q0g C ?_ ?_ ?_
  · rintro args p r r' ⟨x, l, m, h, h1, e⟩ ⟨x', l', m', h', h1', e'⟩
    subst e; subst e'; simp_all [K0a.inj_iff, V0a.inj_iff, X0a.inj_iff, Q0a.inj_iff, X1r, Q0x, Z1t, X1r]
  · rintro args p r ⟨x, l, m, h, h1, rfl⟩; first | (split <;> simp; done) | (simp; done) | (simp only [resM]; split <;> simp; done) | (simp only [resD]; split <;> simp; done) 
  · rintro args p r ⟨x, l, m, rfl, h1, rfl⟩
    refine K0f C false noExt (tabL C [(31, R31), (58, R58), (59, R59), (60, R60), (44, R44), (61, R61), (62, R62), (24, R24)]) xf15 (Q0f C) (V0f C _) zc15_ok (Nat.le_of_ble_eq_true (by kernel_rfl)) fun hF => ?_
    have t_31 := @t31 (tabL C [(31, R31), (58, R58), (59, R59), (60, R60), (44, R44), (61, R61), (62, R62), (24, R24)]) (Q0e C c31 [(58, R58), (59, R59), (60, R60), (44, R44), (61, R61), (62, R62), (24, R24)])
    have t_58 := @t58 (tabL C [(31, R31), (58, R58), (59, R59), (60, R60), (44, R44), (61, R61), (62, R62), (24, R24)]) (Z0c C _ rfl (Q0e C c58 [(59, R59), (60, R60), (44, R44), (61, R61), (62, R62), (24, R24)]))
    have t_59 := @t59 (tabL C [(31, R31), (58, R58), (59, R59), (60, R60), (44, R44), (61, R61), (62, R62), (24, R24)]) (Z0c C _ rfl (Z0c C _ rfl (Q0e C c59 [(60, R60), (44, R44), (61, R61), (62, R62), (24, R24)])))
    have t_60 := @t60 (tabL C [(31, R31), (58, R58), (59, R59), (60, R60), (44, R44), (61, R61), (62, R62), (24, R24)]) (Z0c C _ rfl (Z0c C _ rfl (Z0c C _ rfl (Q0e C c60 [(44, R44), (61, R61), (62, R62), (24, R24)]))))
    have t_44 := @t44 (tabL C [(31, R31), (58, R58), (59, R59), (60, R60), (44, R44), (61, R61), (62, R62), (24, R24)]) (Z0c C _ rfl (Z0c C _ rfl (Z0c C _ rfl (Z0c C _ rfl (Q0e C c44 [(61, R61), (62, R62), (24, R24)])))))
    have t_61 := @t61 (tabL C [(31, R31), (58, R58), (59, R59), (60, R60), (44, R44), (61, R61), (62, R62), (24, R24)]) (Z0c C _ rfl (Z0c C _ rfl (Z0c C _ rfl (Z0c C _ rfl (Z0c C _ rfl (Q0e C c61 [(62, R62), (24, R24)]))))))
    have t_62 := @t62 (tabL C [(31, R31), (58, R58), (59, R59), (60, R60), (44, R44), (61, R61), (62, R62), (24, R24)]) (Z0c C _ rfl (Z0c C _ rfl (Z0c C _ rfl (Z0c C _ rfl (Z0c C _ rfl (Z0c C _ rfl (Q0e C c62 [(24, R24)])))))))
    have t_24 := @t24 (tabL C [(31, R31), (58, R58), (59, R59), (60, R60), (44, R44), (61, R61), (62, R62), (24, R24)]) (Z0c C _ rfl (Z0c C _ rfl (Z0c C _ rfl (Z0c C _ rfl (Z0c C _ rfl (Z0c C _ rfl (Z0c C _ rfl (Q0e C c24 []))))))))
    generalize tabL C [(31, R31), (58, R58), (59, R59), (60, R60), (44, R44), (61, R61), (62, R62), (24, R24)] = call at t_31 t_58 t_59 t_60 t_44 t_61 t_62 t_24 ⊢
    show W C false noExt call zc15 (argE [x.cv, Lst.cv (Lst.cv I) l, Lst.cv (Lst.cv V0b.cv) m]) p (endQ C _ _)
    have hl := cfg_len x
    have hL := cfg_legal x
    have hP := (Y0m hL).1
    have hPx : (cfgOf x).Players = cfgP x := rfl
    have hf := firstS_right hL
    generalize hC : cfgOf x = c at hl hL hP hPx hf
    obtain ⟨hl1, hl2⟩ := hl
    have hrl := rowsOf_len c.Players l.l
    generalize hR : rowsOf c.Players l.l = R at hrl
    have hsl : ∀ h, qslice C h 92 (Lst.cv (Lst.cv V0b.cv) m) none (some (I (min (m.l.length : Int) 10))) none = some (Lst.cv (Lst.cv V0b.cv) (viewTake m (min (m.l.length : Int) 10).toNat)) := fun h => qslice_view C _ tt92 tt108 (fun x => by cases x; rfl) h m _ (by omega) h1
    have hT : (viewTake m (min (m.l.length : Int) 10).toNat).l.length ≤ 10 := by simp [viewTake]; omega
    have hTt : (viewTake m (min (m.l.length : Int) 10).toNat).tl = .view ∨ (viewTake m (min (m.l.length : Int) 10).toNat).tl = .nil := h1
    generalize hTg : viewTake m (min (m.l.length : Int) 10).toNat = T at hsl hT hTt
    suffices hloop : ∀ (RL : Lst (Lst V0b)) (a7 a8 : Nat) (ρ : Env) (q : Hp), RL.l.length ≤ 50 → p.n ≤ a8 → a7 < q.n → a8 < q.n → a7 ≠ a8 → ρ 7 = .ptr a7 [] → ρ 8 = .ptr a8 [] → ρ 9 = RL.cv (Lst.cv V0b.cv) → ρ 41 = I RL.l.length → ρ 42 = I 0 → q.t.get a7 = some (.var sh61 c.cv) → q.t.get a8 = some (.var sh66 (firstS c).cv) → HpLe p q → W C false noExt call (ZC.loop zn15_19) ρ q (blkQ 0 (seqQ (W C false noExt call zn15_54) (endQ C [ResultVar.tmp 6] fun r' => ShrR p r' (XRes.ret (Bo true) p)))) by
      have hl0 := hf.1
      cases R with
      | nil =>
        obtain ⟨tl, T, hT0⟩ := T
        cases T with
        | nil =>
          (have zx := And.intro hC (And.intro hR (And.intro hsl (And.intro hl0 hL))); have hc := True.intro; refine zq15 (k := ?_); clear hc; try exact True.intro)
          repeat' ((first | refine X0d ?_ ?_ | refine Q0d ?_ ?_ | refine K0d _ _ _ _ ?_ ?_ | refine Y0d ?_ ?_ | refine V0d _ _ _ _ ?_ ?_) <;> intro hc <;> (try simp only [zhd] at hc) <;> (try have hw := Z0b hc) <;> (refine zq15 (k := ?_); try exact True.intro))
          all_goals (try clear zx)
          exact hloop ⟨.nil, [], fun _ => rfl⟩ (p.n + 1) (p.n + 1 + 1) _ _ (by simp) (by omega) (by simp only [Hp.bump_n, Hp.znew_n, Hp.zset_n]; omega) (by simp only [Hp.bump_n, Hp.znew_n, Hp.zset_n]; omega) (by omega) (by simp [put_at, X0b, Y0f]) (by simp [put_at, X0b, Y0f]) (by simp [put_at, X0b, Y0f]) (by simp [put_at, X0b, Y0f]) (by simp [put_at, X0b, Y0f]) zge15 zge15 zle
        | cons y ys =>
          have hys : ys.length ≤ 9 := by simpa using hT
          (have zx := And.intro hC (And.intro hR (And.intro hsl (And.intro hl0 hL))); have hc := True.intro; refine zq15 (k := ?_); clear hc; try exact True.intro)
          repeat' ((first | refine X0d ?_ ?_ | refine Q0d ?_ ?_ | refine K0d _ _ _ _ ?_ ?_ | refine Y0d ?_ ?_ | refine V0d _ _ _ _ ?_ ?_) <;> intro hc <;> (try simp only [zhd] at hc) <;> (try have hw := Z0b hc) <;> (refine zq15 (k := ?_); try exact True.intro))
          all_goals (try clear zx)
          exact hloop ⟨.own (p.n + 1 + 1 + 1 + 11), y :: ys, nofun⟩ (p.n + 1) (p.n + 1 + 1) _ _ (by simp; omega) (by omega) (by simp only [Hp.bump_n, Hp.znew_n, Hp.zset_n]; omega) (by simp only [Hp.bump_n, Hp.znew_n, Hp.zset_n]; omega) (by omega) (by simp [put_at, X0b, Y0f]) (by simp [put_at, X0b, Y0f]) (by simp [put_at, X0b, Y0f]) (by simp [put_at, X0b, Y0f]) (by simp [put_at, X0b, Y0f]) zge15 zge15 zle
      | cons r R =>
        have hrr : R.length ≤ 39 := by simpa using hrl
        obtain ⟨tl, T, hT0⟩ := T
        cases T with
        | nil =>
          (have zx := And.intro hC (And.intro hR (And.intro hsl (And.intro hl0 hL))); have hc := True.intro; refine zq15 (k := ?_); clear hc; try exact True.intro)
          repeat' ((first | refine X0d ?_ ?_ | refine Q0d ?_ ?_ | refine K0d _ _ _ _ ?_ ?_ | refine Y0d ?_ ?_ | refine V0d _ _ _ _ ?_ ?_) <;> intro hc <;> (try simp only [zhd] at hc) <;> (try have hw := Z0b hc) <;> (refine zq15 (k := ?_); try exact True.intro))
          all_goals (try clear zx)
          exact hloop ⟨.own (p.n + 1 + 1 + 1 + 11), r :: R, nofun⟩ (p.n + 1) (p.n + 1 + 1) _ _ (by simp; omega) (by omega) (by simp only [Hp.bump_n, Hp.znew_n, Hp.zset_n]; omega) (by simp only [Hp.bump_n, Hp.znew_n, Hp.zset_n]; omega) (by omega) (by simp [put_at, X0b, Y0f]) (by simp [put_at, X0b, Y0f]) (by simp [put_at, X0b, Y0f]) (by simp [put_at, X0b, Y0f]) (by simp [put_at, X0b, Y0f]) zge15 zge15 zle
        | cons y ys =>
          have hys : ys.length ≤ 9 := by simpa using hT
          (have zx := And.intro hC (And.intro hR (And.intro hsl (And.intro hl0 hL))); have hc := True.intro; refine zq15 (k := ?_); clear hc; try exact True.intro)
          repeat' ((first | refine X0d ?_ ?_ | refine Q0d ?_ ?_ | refine K0d _ _ _ _ ?_ ?_ | refine Y0d ?_ ?_ | refine V0d _ _ _ _ ?_ ?_) <;> intro hc <;> (try simp only [zhd] at hc) <;> (try have hw := Z0b hc) <;> (refine zq15 (k := ?_); try exact True.intro))
          all_goals (try clear zx)
          exact hloop ⟨.own (p.n + 1 + 1 + 1 + 11 + 1), (r :: R) ++ (y :: ys), nofun⟩ (p.n + 1) (p.n + 1 + 1) _ _ (by simp; omega) (by omega) (by simp only [Hp.bump_n, Hp.znew_n, Hp.zset_n]; omega) (by simp only [Hp.bump_n, Hp.znew_n, Hp.zset_n]; omega) (by omega) (by simp [put_at, X0b, Y0f]) (by simp [put_at, X0b, Y0f]) (by simp [put_at, X0b, Y0f]) (by simp [put_at, X0b, Y0f]) (by simp [put_at, X0b, Y0f]) zge15 zge15 zle
    intro RL a7 a8 ρ q hRL d1 d2 d3 d4 e7 e8 e9 e41 e42 g1 g2 hle
    (show W C false noExt call (ZC.loop zn15_19) _ _ _); refine Z0o C false noExt call zn15_19 _ _ _ (J15 c RL a7 a8 p) RL.l.length ⟨0, firstS c, rfl, by omega, e7, e8, e9, e41, e42, d2, d3, g1, g2, hf.1, hf.2, hle⟩ ?_
    clear e7 e8 e9 e41 e42 d2 d3 g1 g2 hle
    rintro n ρ q ⟨k, st, rfl, hk, e7, e8, e9, e41, e42, d2, d3, g1, g2, hst, hfr, hle⟩
    by_cases hlt : (k : Int) < RL.l.length
    · have hgr := step_grows hst (nth RL.l k).l
      have hsr := stepS_right hst (nth RL.l k).l
      have hsr2 : (stepS c (nth RL.l k).l st).Frame = (k : Int) + 1 := by rw [hsr.2, hfr]; omega
      have hbr := right_all hsr.1
      generalize hG : stepS c (nth RL.l k).l st = tt at hgr hsr hsr2 hbr
      have hsr1 := hsr.1
      have hb := tt.hBodies
      have hsc := tt.hScore
      have hb0 := st.hBodies
      have hsc0 := st.hScore
      (have zx := And.intro e7 (And.intro e8 (And.intro e9 (And.intro e41 (And.intro e42 (And.intro g1 (And.intro g2 (And.intro hlt (And.intro hG (And.intro hsr1 (And.intro hsr2 hfr)))))))))); have hc := True.intro; refine zq15 (k := ?_); clear hc; try exact True.intro)
      repeat' ((first | refine X0d ?_ ?_ | refine Q0d ?_ ?_ | refine K0d _ _ _ _ ?_ ?_ | refine Y0d ?_ ?_ | refine V0d _ _ _ _ ?_ ?_) <;> intro hc <;> (try simp only [zhd] at hc) <;> (try have hw := Z0b hc) <;> (refine zq15 (k := ?_); try exact True.intro))
      all_goals (try clear zx)
      (show W C false noExt call (ZC.loop zn15_40) _ _ _); refine Z0o C false noExt call zn15_40 _ _ _ (J15i c RL k st tt a7 a8 (q.n + 7) p) c.Players.toNat ⟨0, by omega, by omega, by simp [put_at, X0b, e7], by simp [put_at, X0b, e8], by simp [put_at, X0b, e9], by simp [put_at, X0b], by simp [put_at, X0b], by simp [put_at, X0b, e41], by simp [put_at, X0b, e42], by simp only [Hp.bump_n, Hp.znew_n, Hp.zset_n]; omega, by simp only [Hp.bump_n, Hp.znew_n, Hp.zset_n]; omega, by simp (disch := first | exact zdl | fail) only [zheap, g1], by simp (disch := first | exact zdl | fail) only [zheap, g2], by simp (disch := first | exact zdl | fail) only [zheap], zlq⟩ ?_
      clear e7 e8 e9 e41 e42 d2 d3 g1 g2 hle
      generalize q.n + 7 = a11
      rintro n ρ q ⟨i, rfl, hi, e7, e8, e9, e11, e12, e41, e42, d2, d3, g1, g2, g3, hle⟩
      by_cases hli : (i : Int) < c.Players
      · have hs1 : ¬ nth tt.Score i < nth st.Score i := by have := hgr.1 i (by omega); omega
        have hs2 : ¬ (nth tt.Bodies i).Faults < (nth st.Bodies i).Faults := by have := hgr.2 i hli; omega
        have hs3 : Body.right (nth tt.Bodies i) = true := hbr _ (by rw [Q05 (by omega)]; exact List.getElem_mem _)
        (have zx := And.intro e7 (And.intro e8 (And.intro e9 (And.intro e11 (And.intro e12 (And.intro e41 (And.intro e42 (And.intro g1 (And.intro g2 (And.intro g3 (And.intro hli (And.intro hs1 (And.intro hs2 hs3)))))))))))); have hc := True.intro; refine zq15 (k := ?_); clear hc; try exact True.intro)
        repeat' ((first | refine X0d ?_ ?_ | refine Q0d ?_ ?_ | refine K0d _ _ _ _ ?_ ?_ | refine Y0d ?_ ?_ | refine V0d _ _ _ _ ?_ ?_) <;> intro hc <;> (try simp only [zhd] at hc) <;> (try have hw := Z0b hc) <;> (refine zq15 (k := ?_); try exact True.intro))
        all_goals (try clear zx)
        exact ⟨c.Players.toNat - (i + 1), by omega, i + 1, rfl, by omega, by simp [put_at, X0b, e7], by simp [put_at, X0b, e8], by simp [put_at, X0b, e9], by simp [put_at, X0b, e11], by simp [put_at, X0b], by simp [put_at, X0b, e41], by simp [put_at, X0b, e42], by simp only [Hp.bump_n, Hp.znew_n, Hp.zset_n]; omega, by simp only [Hp.bump_n, Hp.znew_n, Hp.zset_n]; omega, by simp (disch := first | exact zdl | fail) only [zheap, g1], by simp (disch := first | exact zdl | fail) only [zheap, g2], by simp (disch := first | exact zdl | fail) only [zheap, g3], zlq⟩
      · (have zx := And.intro e7 (And.intro e8 (And.intro e9 (And.intro e11 (And.intro e12 (And.intro e41 (And.intro e42 (And.intro g1 (And.intro g2 (And.intro g3 hli))))))))); have hc := True.intro; refine zq15 (k := ?_); clear hc; try exact True.intro)
        repeat' ((first | refine X0d ?_ ?_ | refine Q0d ?_ ?_ | refine K0d _ _ _ _ ?_ ?_ | refine Y0d ?_ ?_ | refine V0d _ _ _ _ ?_ ?_) <;> intro hc <;> (try simp only [zhd] at hc) <;> (try have hw := Z0b hc) <;> (refine zq15 (k := ?_); try exact True.intro))
        all_goals (try clear zx)
        exact ⟨RL.l.length - (k + 1), by omega, k + 1, tt, rfl, by omega, by simp [put_at, X0b, e7], by simp [put_at, X0b, e8], by simp [put_at, X0b, e9], by simp [put_at, X0b, e41], by simp [put_at, X0b], by simp only [Hp.bump_n, Hp.znew_n, Hp.zset_n]; omega, by simp only [Hp.bump_n, Hp.znew_n, Hp.zset_n]; omega, by simp (disch := first | exact zdl | fail) only [zheap, g1], by simp (disch := first | exact zdl | fail) only [zheap], hsr1, by rw [hsr2]; simp, zlq⟩
    · have hkk : k = RL.l.length := by omega
      (have zx := And.intro e7 (And.intro e8 (And.intro e9 (And.intro e41 (And.intro e42 (And.intro g1 (And.intro g2 hlt)))))); have hc := True.intro; refine zq15 (k := ?_); clear hc; try exact True.intro)
      repeat' ((first | refine X0d ?_ ?_ | refine Q0d ?_ ?_ | refine K0d _ _ _ _ ?_ ?_ | refine Y0d ?_ ?_ | refine V0d _ _ _ _ ?_ ?_) <;> intro hc <;> (try simp only [zhd] at hc) <;> (try have hw := Z0b hc) <;> (refine zq15 (k := ?_); try exact True.intro))
      all_goals (try clear zx)
      exact X0e hF zlq (K0e rfl (Z0d zno15))
end Go.Proofs.Ytpchcfkebljopaa
end
section
namespace Go.Proofs.Ytpchcfkebljopaa
open Go.Cl Go Go.ChangeShapes Go.WideShapes Go.ChangeAt Go.RowKit
set_option maxRecDepth 100000
set_option linter.constructorNameAsVariable false
theorem a58 {n : Nat} {v : CV} (h : Ty2 Try.prog (n + 3) 58 v) : ∃ s : Lst (Lst Int), v = s.cv (Lst.cv I) ∧ (s.tl = .view ∨ s.tl = .nil) := Q02 Try.underlying58 (fun _ h => let ⟨i, e, _⟩ := a24 h; ⟨i, e⟩) h
theorem a57 {n : Nat} {v : CV} (h : Ty2 Try.prog (n + 4) 57 v) : ∃ x : K0a, v = x.cv ∧ inI x.Players := by
  obtain ⟨l, rfl, hs⟩ := V01 Try.underlying57 h
  replace h := hs
  obtain ⟨v0, l0, rfl, h0, h⟩ := K0j h
  obtain ⟨v1, l1, rfl, h1, h⟩ := K0j h
  obtain ⟨v2, l2, rfl, h2, h⟩ := K0j h
  obtain ⟨v3, l3, rfl, h3, h⟩ := K0j h
  obtain ⟨v4, l4, rfl, h4, h⟩ := K0j h
  obtain ⟨v5, l5, rfl, h5, h⟩ := K0j h
  obtain ⟨v6, l6, rfl, h6, h⟩ := K0j h
  obtain ⟨v7, l7, rfl, h7, h⟩ := K0j h
  obtain rfl := X08 h
  obtain ⟨x0, rfl, w0⟩ := a3 (n := n + 2) h0
  obtain ⟨x1, rfl, _⟩ := a3 (n := n + 2) h1
  obtain ⟨x2, rfl, _⟩ := a3 (n := n + 2) h2
  obtain ⟨x3, rfl, _⟩ := a3 (n := n + 2) h3
  obtain ⟨x4, rfl, _⟩ := a3 (n := n + 2) h4
  obtain ⟨x5, rfl, _⟩ := a3 (n := n + 2) h5
  obtain ⟨x6, rfl, _⟩ := a3 (n := n + 2) h6
  obtain ⟨x7, rfl, _⟩ := a22 (n := n) h7
  exact ⟨⟨x0, x1, x2, x3, x4, x5, x6, x7⟩, rfl, w0⟩
theorem of_bool {P : Program} {n : Nat} {t : TypeId} {v : CV} (hu : P.underlying t = some .bool) (h : Ty2 P (n + 1) t v) : ∃ b, v = Bo b := by
  simp only [Ty2, hu] at h
  exact h
theorem a36 {n : Nat} {v : CV} (h : Ty2 Try.prog (n + 2) 36 v) : ∃ x : Q0c, v = x.cv := by
  obtain ⟨l, rfl, hs⟩ := V01 Try.underlying36 h
  replace h := hs
  obtain ⟨v0, l0, rfl, h0, h⟩ := K0j h
  obtain ⟨v1, l1, rfl, h1, h⟩ := K0j h
  obtain ⟨v2, l2, rfl, h2, h⟩ := K0j h
  obtain rfl := X08 h
  obtain ⟨x0, rfl, _⟩ := a3 (n := n) h0
  obtain ⟨x1, rfl, _⟩ := a3 (n := n) h1
  obtain ⟨x2, rfl, _⟩ := a3 (n := n) h2
  exact ⟨⟨x0, x1, x2⟩, rfl⟩
theorem a110 {n : Nat} {v : CV} (h : Ty2 Try.prog (n + 3) 110 v) : ∃ x : V0b, v = x.cv := by
  obtain ⟨l, rfl, hs⟩ := V01 Try.underlying110 h
  replace h := hs
  obtain ⟨v0, l0, rfl, h0, h⟩ := K0j h
  obtain ⟨v1, l1, rfl, h1, h⟩ := K0j h
  obtain rfl := X08 h
  obtain ⟨x0, rfl⟩ := of_bool (n := n + 1) Try.underlying4 h0
  obtain ⟨x1, rfl⟩ := a36 (n := n) h1
  exact ⟨⟨x0, x1⟩, rfl⟩
theorem a108 {n : Nat} {v : CV} (h : Ty2 Try.prog (n + 4) 108 v) : ∃ s : Lst V0b, v = s.cv V0b.cv ∧ (s.tl = .view ∨ s.tl = .nil) := Q02 Try.underlying108 (fun _ h => a110 h) h
theorem a92 {n : Nat} {v : CV} (h : Ty2 Try.prog (n + 5) 92 v) : ∃ s : Lst (Lst V0b), v = s.cv (Lst.cv V0b.cv) ∧ (s.tl = .view ∨ s.tl = .nil) := Q02 Try.underlying92 (fun _ h => let ⟨s, e, _⟩ := a108 h; ⟨s, e⟩) h
end Go.Proofs.Ytpchcfkebljopaa
end
