import Derived.Test.YtpchcfkebljopaaRows
import Derived.Test.YtpchcfkebljopaaXi
set_option linter.unusedSimpArgs false
set_option linter.unusedVariables false
set_option linter.constructorNameAsVariable false
section
namespace Go.Proofs.Ytpchcfkebljopaa
open Go.Cl Go Go.RowKit
set_option maxRecDepth 100000
set_option linter.constructorNameAsVariable false
def envB (x : Law12_RawEnv) : Api_Body := { bodyBorn (pick x.X 4) 4 with X := pick x.X 4096, Y := pick x.Y 4096, VX := w64 (pick x.VX 129 - 64) }
def envK (x : Law12_RawEnv) (k : Nat) : Rule_Env := { Rule_Env.zero with Body := memN x.Mem.l k (envB x), In := handInput x.Buttons x.StickX, Dice := x.Dice, Room := pick x.Room 8 }
def J22 (x : Law12_RawEnv) (p : Hp) (n : Nat) (ρ : Env) (q : Hp) : Prop :=
  ∃ (k a : Nat), n = 4 - k ∧ k ≤ 4 ∧ k ≤ x.Mem.l.length ∧ ρ 1 = .ptr p.n [] ∧ ρ 2 = .ptr (p.n + 1) [] ∧ ρ 3 = .ptr a [] ∧ ρ 4 = I k ∧ p.n + 1 < a ∧ q.t.get p.n = some (.var sh27 x.cv) ∧ q.t.get (p.n + 1) = some (.var sh39 Rule_Env.zero.cv) ∧ q.t.get a = some (.var sh39 (envK x k).cv) ∧ HpLe p q
def R22 : Rel := fun args p r => ∃ (x : Law12_RawEnv), args = [x.cv] ∧ (-9223372036854775808 ≤ x.StickX ∧ x.StickX ≤ 9223372036854775807) ∧ r = .ret (envOf x).cv p
theorem t22 {T : XCall} (h : Has T 22 R22) (x : Law12_RawEnv) {p : Hp} (h1 : -9223372036854775808 ≤ x.StickX ∧ x.StickX ≤ 9223372036854775807) : T 22 [x.cv] p = .ret (envOf x).cv p := h _ _ _ ⟨x, rfl, h1, rfl⟩
theorem zq22 {A B : Prop} (h : A = B := by ((try simp -dsimp (disch := first | exact zdis | fail) only [zcore, zall, zopm, zop, zcallOp, qop, qbuiltin, ofOpt, List.map, reduceCtorEq, if_true, if_false, ↓reduceIte, zbin, eqRes, qassert, qnum, qshift, qun, kindOf, allocV, List.nil_append, List.append_nil, List.cons_append, List.length_cons, List.length_nil, Nat.reduceAdd, Nat.reduceEqDiff, Nat.reduceLT, Nat.reduceSub, Nat.reduceMul, Int.reduceToNat, Int.reduceLE, Int.reduceLT, Int.reduceEq, Int.reduceNeg, Int.reduceAdd, Int.reduceSub, beq_self_eq_true, cond_true, cond_false, isConstOpd, xpanic, xconv, isBytes, qconv, List.length_map, List.map_nil, List.map_cons, concrete, Option.some.injEq, exists_eq', Option.map_some, Option.map_none, List.getElem?_cons_zero, List.getElem?_cons_succ, zw22, rs22, tt3, tt24, tt25, tt27, tt32, tt34, tt39, ti3, ti24, ti25, ti27, ti32, ti34, ti39, t_37, t_64, t_69, zs_Law12_RawEnv, zs_Rule_Env, zs_Api_Body, zs_Api_Input, zsl24, zsl32, h1, zx, hc]); rfl)) (k : B) : A := h ▸ k
theorem zge22 {P : Prop} (h : P := by simp (disch := first | exact zdl | fail) only [zheap]; first | done | rfl) : P := h
set_option maxHeartbeats 8000000 in
theorem c22 : Con C 22 R22 := by
  refine con_of C ?_ ?_ ?_
  · rintro args p r r' ⟨x, h, h1, e⟩ ⟨x', h', h1', e'⟩
    subst e; subst e'; simp_all [Law12_RawEnv.inj_iff, Rule_Env.inj_iff, Api_Body.inj_iff, Api_Input.inj_iff, sl_inj24]
  · rintro args p r ⟨x, h, h1, rfl⟩; first | (split <;> simp; done) | (simp; done) | (simp only [resM]; split <;> simp; done) | (simp only [resD]; split <;> simp; done) 
  · rintro args p r ⟨x, rfl, h1, rfl⟩
    refine ans_walk C false noExt (tabL C [(37, R37), (64, R64), (69, R69)]) xf22 (noExt_ok C) (tabL_ok C _) zc22_ok (Nat.le_of_ble_eq_true (by kernel_rfl)) fun hF => ?_
    have t_37 := @t37 (tabL C [(37, R37), (64, R64), (69, R69)]) (has_head C c37 [(64, R64), (69, R69)])
    have t_64 := @t64 (tabL C [(37, R37), (64, R64), (69, R69)]) (has_tail C _ rfl (has_head C c64 [(69, R69)]))
    have t_69 := @t69 (tabL C [(37, R37), (64, R64), (69, R69)]) (has_tail C _ rfl (has_tail C _ rfl (has_head C c69 [])))
    generalize tabL C [(37, R37), (64, R64), (69, R69)] = call at t_37 t_64 t_69 ⊢
    show W C false noExt call zc22 (argE [x.cv]) p (endQ C _ _)
    (have zx := True.intro; have hc := True.intro; refine zq22 (k := ?_); clear hc; try exact True.intro)
    repeat' ((first | refine condW_b ?_ ?_ | refine wantO_s ?_ ?_ | refine wantD_s _ _ _ _ ?_ ?_ | refine bindO_i ?_ ?_ | refine bindE_i _ _ _ _ ?_ ?_) <;> intro hc <;> (try simp only [zhd, zhn] at hc) <;> (try have hw := within_spec hc) <;> (refine zq22 (k := ?_); try exact True.intro))
    all_goals (try clear zx)
    show W C false noExt call (ZC.loop zn22_15) _ _ _
    refine W_loop C false noExt call zn22_15 _ _ _ (J22 x p) 4 ⟨0, p.n + 1 + 1 + 15, rfl, by omega, by omega, (by simp [put_at, zput_none, argE_0]), (by simp [put_at, zput_none, argE_0]), (by simp [put_at, zput_none, argE_0]), (by simp [put_at, zput_none, argE_0]), by omega, zge22, zge22, zge22, zle⟩ ?_
    rintro n ρ q ⟨k, a, rfl, hk, hkl, e1, e2, e3, e4, ha, g1, g2, g3, hle⟩
    have hap : a ≠ p.n := by omega
    have hap1 : a ≠ p.n + 1 := by omega
    by_cases hlt : (k : Int) < x.Mem.l.length
    · by_cases h4 : (k : Int) < 4
      · have hk4 : k < 4 := by omega
        by_cases h8 : (nth x.Mem.l k).tmod 9 = 8
        · (have zx := And.intro e1 (And.intro e2 (And.intro e3 (And.intro e4 (And.intro g1 (And.intro g2 (And.intro g3 (And.intro hlt (And.intro h4 h8)))))))); have hc := True.intro; refine zq22 (k := ?_); clear hc; try exact True.intro)
          repeat' ((first | refine condW_b ?_ ?_ | refine wantO_s ?_ ?_ | refine wantD_s _ _ _ _ ?_ ?_ | refine bindO_i ?_ ?_ | refine bindE_i _ _ _ _ ?_ ?_) <;> intro hc <;> (try simp only [zhd, zhn] at hc) <;> (try have hw := within_spec hc) <;> (refine zq22 (k := ?_); try exact True.intro))
          all_goals (try clear zx)
          refine ⟨4 - (k + 1), by omega, k + 1, a, rfl, by omega, by omega, by simp [put_at, zput_none, e1], by simp [put_at, zput_none, e2], by simp [put_at, zput_none, e3], by simp [put_at, zput_none], ha, ?_, ?_, ?_, ?_⟩
          · simp (disch := omega) only [Hp.bump_get, Hp.get_set_ne, g1]
          · simp (disch := omega) only [Hp.bump_get, Hp.get_set_ne, g2]
          · simp only [Hp.bump_get, Hp.get_set_self]
            simp [envK, memN, memVal, h8, Api_Body.put_7k]
          · exact zlq
        · (have zx := And.intro e1 (And.intro e2 (And.intro e3 (And.intro e4 (And.intro g1 (And.intro g2 (And.intro g3 (And.intro hlt (And.intro h4 h8)))))))); have hc := True.intro; refine zq22 (k := ?_); clear hc; try exact True.intro)
          repeat' ((first | refine condW_b ?_ ?_ | refine wantO_s ?_ ?_ | refine wantD_s _ _ _ _ ?_ ?_ | refine bindO_i ?_ ?_ | refine bindE_i _ _ _ _ ?_ ?_) <;> intro hc <;> (try simp only [zhd, zhn] at hc) <;> (try have hw := within_spec hc) <;> (refine zq22 (k := ?_); try exact True.intro))
          all_goals (try clear zx)
          refine ⟨4 - (k + 1), by omega, k + 1, a, rfl, by omega, by omega, by simp [put_at, zput_none, e1], by simp [put_at, zput_none, e2], by simp [put_at, zput_none, e3], by simp [put_at, zput_none], ha, ?_, ?_, ?_, ?_⟩
          · simp (disch := omega) only [Hp.bump_get, Hp.get_set_ne, g1]
          · simp (disch := omega) only [Hp.bump_get, Hp.get_set_ne, g2]
          · simp only [Hp.bump_get, Hp.get_set_self]
            simp [envK, memN, memVal, h8, Api_Body.put_7k]
          · exact zlq
      · (have zx := And.intro e1 (And.intro e2 (And.intro e3 (And.intro e4 (And.intro g1 (And.intro g2 (And.intro g3 (And.intro hlt h4))))))); have hc := True.intro; refine zq22 (k := ?_); clear hc; try exact True.intro)
        repeat' ((first | refine condW_b ?_ ?_ | refine wantO_s ?_ ?_ | refine wantD_s _ _ _ _ ?_ ?_ | refine bindO_i ?_ ?_ | refine bindE_i _ _ _ _ ?_ ?_) <;> intro hc <;> (try simp only [zhd, zhn] at hc) <;> (try have hw := within_spec hc) <;> (refine zq22 (k := ?_); try exact True.intro))
        all_goals (try clear zx)
        all_goals
          have hk' : min x.Mem.l.length 4 = k := by omega
          refine shr_keep hF zlq (weak_of_eq ?_ (lt_of_no fun j hj => by simp [Rule_Env.has, envOf, Rule_Env.zero] at hj))
          simp [envOf, envK, envB, hk', hc]
    · (have zx := And.intro e1 (And.intro e2 (And.intro e3 (And.intro e4 (And.intro g1 (And.intro g2 (And.intro g3 hlt)))))); have hc := True.intro; refine zq22 (k := ?_); clear hc; try exact True.intro)
      repeat' ((first | refine condW_b ?_ ?_ | refine wantO_s ?_ ?_ | refine wantD_s _ _ _ _ ?_ ?_ | refine bindO_i ?_ ?_ | refine bindE_i _ _ _ _ ?_ ?_) <;> intro hc <;> (try simp only [zhd, zhn] at hc) <;> (try have hw := within_spec hc) <;> (refine zq22 (k := ?_); try exact True.intro))
      all_goals (try clear zx)
      all_goals
        have hk' : min x.Mem.l.length 4 = k := by omega
        refine shr_keep hF zlq (weak_of_eq ?_ (lt_of_no fun j hj => by simp [Rule_Env.has, envOf, Rule_Env.zero] at hj))
        simp [envOf, envK, envB, hk', hc]
def J26 (a b : Rule_Env) (p : Hp) (n : Nat) (ρ : Env) (q : Hp) : Prop :=
  ∃ k, n = a.Shots.l.length - k ∧ k ≤ a.Shots.l.length ∧ ρ 2 = .ptr p.n [] ∧ ρ 3 = .ptr (p.n + 1) [] ∧ ρ 43 = I a.Shots.l.length ∧ ρ 44 = I k ∧ q.t.get p.n = some (.var sh39 a.cv) ∧ q.t.get (p.n + 1) = some (.var sh39 b.cv) ∧ HpLe p q ∧ (∀ j, j < k → nth a.Shots.l j = nth b.Shots.l j)
def R26 : Rel := fun args p r => ∃ (a b : Rule_Env), args = [a.cv, b.cv] ∧ (a.Shots.l.length ≤ 1000000) ∧ r = .ret (Bo (sameE a b)) p
theorem t26 {T : XCall} (h : Has T 26 R26) (a b : Rule_Env) {p : Hp} (h1 : a.Shots.l.length ≤ 1000000) : T 26 [a.cv, b.cv] p = .ret (Bo (sameE a b)) p := h _ _ _ ⟨a, b, rfl, h1, rfl⟩
theorem zq26 {A B : Prop} (h : A = B := by ((try simp -dsimp (disch := first | exact zdis | fail) only [zcore, zall, zopm, zop, zcallOp, qop, qbuiltin, ofOpt, List.map, reduceCtorEq, if_true, if_false, ↓reduceIte, zbin, eqRes, qassert, qnum, qshift, qun, kindOf, allocV, List.nil_append, List.append_nil, List.cons_append, List.length_cons, List.length_nil, Nat.reduceAdd, Nat.reduceEqDiff, Nat.reduceLT, Nat.reduceSub, Nat.reduceMul, Int.reduceToNat, Int.reduceLE, Int.reduceLT, Int.reduceEq, Int.reduceNeg, Int.reduceAdd, Int.reduceSub, beq_self_eq_true, cond_true, cond_false, isConstOpd, xpanic, xconv, isBytes, qconv, List.length_map, List.map_nil, List.map_cons, concrete, Option.some.injEq, exists_eq', Option.map_some, Option.map_none, List.getElem?_cons_zero, List.getElem?_cons_succ, zw26, rs26, tt3, tt25, tt34, tt36, tt37, tt39, ti3, ti25, ti34, ti36, ti37, ti39, zs_Rule_Env, zs_Api_Body, zs_Api_Input, zsl37, h1, zx, hc]); rfl)) (k : B) : A := h ▸ k
theorem zno26 {P : Prop} (h : P := by intro jj; simp [CV.has, CV.hasL, fault, Trap_thrown.nohas, Api_Body.nohas, Api_Input.nohas]) : P := h
theorem zge26 {P : Prop} (h : P := by simp (disch := first | exact zdl | fail) only [zheap]; first | done | rfl) : P := h
set_option maxHeartbeats 8000000 in
theorem c26 : Con C 26 R26 := by
  refine con_of C ?_ ?_ ?_
  · rintro args p r r' ⟨a, b, h, h1, e⟩ ⟨a', b', h', h1', e'⟩
    subst e; subst e'; simp_all [Rule_Env.inj_iff, Api_Body.inj_iff, Api_Input.inj_iff, sl_inj37]
  · rintro args p r ⟨a, b, h, h1, rfl⟩; first | (split <;> simp; done) | (simp; done) | (simp only [resM]; split <;> simp; done) | (simp only [resD]; split <;> simp; done) 
  · rintro args p r ⟨a, b, rfl, h1, rfl⟩
    refine ans_walk C false noExt (tabL C []) xf26 (noExt_ok C) (tabL_ok C _) zc26_ok (Nat.le_of_ble_eq_true (by kernel_rfl)) fun hF => ?_
    generalize tabL C [] = call
    show W C false noExt call zc26 (argE [a.cv, b.cv]) p (endQ C _ _)
    (have zx := True.intro; have hc := True.intro; refine zq26 (k := ?_); clear hc; try exact True.intro)
    repeat' ((first | refine condW_b ?_ ?_ | refine wantO_s ?_ ?_ | refine wantD_s _ _ _ _ ?_ ?_ | refine bindO_i ?_ ?_ | refine bindE_i _ _ _ _ ?_ ?_) <;> intro hc <;> (try simp only [zhd, zhn] at hc) <;> (try have hw := within_spec hc) <;> (refine zq26 (k := ?_); try exact True.intro))
    all_goals (try clear zx)
    · have hlen : a.Shots.l.length = b.Shots.l.length := by omega
      show W C false noExt call (ZC.loop zn26_13) _ _ _
      refine W_loop C false noExt call zn26_13 _ _ _ (J26 a b p) a.Shots.l.length ⟨0, rfl, by omega, (by simp [put_at, zput_none, argE_0]), (by simp [put_at, zput_none, argE_0]), by simp [put_at, zput_none, hlen], (by simp [put_at, zput_none, argE_0]), ?_, ?_, ?_, fun j hj => by omega⟩ ?_
      · exact zge26
      · exact zge26
      · exact zle
      rintro n ρ q ⟨k, rfl, hk, e2, e3, e43, e44, g1, g2, hle, hj⟩
      by_cases hlt : (k : Int) < a.Shots.l.length
      · have hlt2 : (k : Int) < b.Shots.l.length := by omega
        by_cases hne : nth a.Shots.l k = nth b.Shots.l k
        · (have zx := And.intro e2 (And.intro e3 (And.intro e43 (And.intro e44 (And.intro g1 (And.intro g2 (And.intro hlt hne)))))); have hc := True.intro; refine zq26 (k := ?_); clear hc; try exact True.intro)
          repeat' ((first | refine condW_b ?_ ?_ | refine wantO_s ?_ ?_ | refine wantD_s _ _ _ _ ?_ ?_ | refine bindO_i ?_ ?_ | refine bindE_i _ _ _ _ ?_ ?_) <;> intro hc <;> (try simp only [zhd, zhn] at hc) <;> (try have hw := within_spec hc) <;> (refine zq26 (k := ?_); try exact True.intro))
          all_goals (try clear zx)
          refine ⟨a.Shots.l.length - (k + 1), by omega, k + 1, rfl, by omega, by simp [put_at, zput_none, e2], by simp [put_at, zput_none, e3], by simp [put_at, zput_none, e43], by simp [put_at, zput_none], by simp only [Hp.bump_get, g1], by simp only [Hp.bump_get, g2], zlq, fun j hjk => ?_⟩
          by_cases h : j = k
          · rw [h]; exact hne
          · exact hj j (by omega)
        · (have zx := And.intro e2 (And.intro e3 (And.intro e43 (And.intro e44 (And.intro g1 (And.intro g2 (And.intro hlt hne)))))); have hc := True.intro; refine zq26 (k := ?_); clear hc; try exact True.intro)
          repeat' ((first | refine condW_b ?_ ?_ | refine wantO_s ?_ ?_ | refine wantD_s _ _ _ _ ?_ ?_ | refine bindO_i ?_ ?_ | refine bindE_i _ _ _ _ ?_ ?_) <;> intro hc <;> (try simp only [zhd, zhn] at hc) <;> (try have hw := within_spec hc) <;> (refine zq26 (k := ?_); try exact True.intro))
          all_goals (try clear zx)
          have hl : ¬ a.Shots.l = b.Shots.l := fun h => hne (by rw [h])
          refine shr_keep hF zlq (weak_of_eq ?_ (lt_of_no zno26))
          simp [sameE, hl]
      · (have zx := And.intro e2 (And.intro e3 (And.intro e43 (And.intro e44 (And.intro g1 (And.intro g2 hlt))))); have hc := True.intro; refine zq26 (k := ?_); clear hc; try exact True.intro)
        repeat' ((first | refine condW_b ?_ ?_ | refine wantO_s ?_ ?_ | refine wantD_s _ _ _ _ ?_ ?_ | refine bindO_i ?_ ?_ | refine bindE_i _ _ _ _ ?_ ?_) <;> intro hc <;> (try simp only [zhd, zhn] at hc) <;> (try have hw := within_spec hc) <;> (refine zq26 (k := ?_); try exact True.intro))
        all_goals (try clear zx)
        have hl : a.Shots.l = b.Shots.l := nth_ext hlen fun j h => hj j (by omega)
        refine shr_keep hF zlq (weak_of_eq ?_ (lt_of_no zno26))
        simp [sameE, *]
    all_goals refine shr_keep hF zle (weak_of_eq ?_ (lt_of_no zno26))
    all_goals simp [sameE, *]
    intro h
    rw [h] at hc
    exact hc rfl
def R23 : Rel := fun args p r => args = [] ∧ r = .ret (Bo true) p
theorem t23 {T : XCall} (h : Has T 23 R23)  {p : Hp}  : T 23 [] p = .ret (Bo true) p := h _ _ _ ⟨rfl, rfl⟩
theorem zq23 {A B : Prop} (h : A = B := by ((try simp -dsimp (disch := first | exact zdis | fail) only [zcore, zall, zopm, zop, zcallOp, qop, qbuiltin, ofOpt, List.map, reduceCtorEq, if_true, if_false, ↓reduceIte, zbin, eqRes, qassert, qnum, qshift, qun, kindOf, allocV, List.nil_append, List.append_nil, List.cons_append, List.length_cons, List.length_nil, Nat.reduceAdd, Nat.reduceEqDiff, Nat.reduceLT, Nat.reduceSub, Nat.reduceMul, Int.reduceToNat, Int.reduceLE, Int.reduceLT, Int.reduceEq, Int.reduceNeg, Int.reduceAdd, Int.reduceSub, beq_self_eq_true, cond_true, cond_false, isConstOpd, xpanic, xconv, isBytes, qconv, List.length_map, List.map_nil, List.map_cons, concrete, Option.some.injEq, exists_eq', Option.map_some, Option.map_none, List.getElem?_cons_zero, List.getElem?_cons_succ, zw23, rs23, tt3, tt23, tt29, tt32, tt34, tt39, tt44, ti3, ti23, ti29, ti32, ti34, ti39, ti44, t_70, t_25, zs_Rule_Env, zs_Api_Body, zs_Api_Input, zs_Trap_Fault, zs_Api_Op, zsl23, zsl32, zx, hc]); rfl)) (k : B) : A := h ▸ k
theorem zno23 {P : Prop} (h : P := by intro jj; simp [CV.has, CV.hasL, fault, Trap_thrown.nohas, Api_Body.nohas, Api_Input.nohas, Trap_Fault.nohas, Api_Op.nohas]) : P := h
set_option maxHeartbeats 8000000 in
theorem c23 : Con C 23 R23 := by
  refine con_of C ?_ ?_ ?_
  · rintro args p r r' ⟨h, e⟩ ⟨h', e'⟩
    subst e; subst e'; simp_all [Rule_Env.inj_iff, Api_Body.inj_iff, Api_Input.inj_iff, Trap_Fault.inj_iff, Api_Op.inj_iff, sl_inj23]
  · rintro args p r ⟨h, rfl⟩; first | (split <;> simp; done) | (simp; done) | (simp only [resM]; split <;> simp; done) | (simp only [resD]; split <;> simp; done) 
  · rintro args p r ⟨rfl, rfl⟩
    refine ans_walk C false noExt (tabL C [(70, R70), (25, R25)]) xf23 (noExt_ok C) (tabL_ok C _) zc23_ok (Nat.le_of_ble_eq_true (by kernel_rfl)) fun hF => ?_
    have t_70 := @t70 (tabL C [(70, R70), (25, R25)]) (has_head C c70 [(25, R25)])
    have t_25 := @t25 (tabL C [(70, R70), (25, R25)]) (has_tail C _ rfl (has_head C c25 []))
    generalize tabL C [(70, R70), (25, R25)] = call at t_70 t_25 ⊢
    show W C false noExt call zc23 (argE []) p (endQ C _ _)
    have r1 : ruleRun ⟨.exact, [⟨6, 0, 0⟩], nofun⟩ env0 = ((copiedE env0), ⟨1, 0⟩, false) := by rfl
    have r2 : (ruleRun ⟨.exact, [⟨1, 1, 5⟩, ⟨3, 1, 1⟩], nofun⟩ env0).2.2 = true ∧ nth (ruleRun ⟨.exact, [⟨1, 1, 5⟩, ⟨3, 1, 1⟩], nofun⟩ env0).1.Body.Mem 1 = 10 := by constructor <;> rfl
    have hv : env0.Shots.tl ≠ .view := by simp [env0, Rule_Env.zero]
    have hv2 : env0.Shots.l.length ≤ 100000 := by simp [env0, Rule_Env.zero]
    (have zx := And.intro r1 (And.intro r2.1 r2.2); have hc := True.intro; refine zq23 (k := ?_); clear hc; try exact True.intro)
    repeat' ((first | refine condW_b ?_ ?_ | refine wantO_s ?_ ?_ | refine wantD_s _ _ _ _ ?_ ?_ | refine bindO_i ?_ ?_ | refine bindE_i _ _ _ _ ?_ ?_) <;> intro hc <;> (try simp only [zhd, zhn] at hc) <;> (try have hw := within_spec hc) <;> (refine zq23 (k := ?_); try exact True.intro))
    all_goals (try clear zx)
    exact shr_keep hF zle (weak_self (lt_of_no zno23))
end Go.Proofs.Ytpchcfkebljopaa
end
section
namespace Go.Proofs.Ytpchcfkebljopaa
open Go.Cl Go Go.RowKit
theorem brought_range {n lo hi : Int} (h : lo ≤ hi) : lo ≤ brought n lo hi ∧ brought n lo hi ≤ hi := by unfold brought; omega
theorem right_iff {b : Api_Body} (h : b.Kind ≠ 0) : Body.right b = true ↔ (∀ n ∈ b.Mem, -1000000 ≤ n ∧ n ≤ 1000000) ∧ (b.Kind = 1 ∨ b.Kind = 2) ∧ (0 ≤ b.Owner ∧ b.Owner ≤ 7) ∧ (0 ≤ b.X ∧ b.X ≤ 4095) ∧ (0 ≤ b.Y ∧ b.Y ≤ 4095) ∧ (-64 ≤ b.VX ∧ b.VX ≤ 64) ∧ (-64 ≤ b.VY ∧ b.VY ≤ 64) ∧ (0 ≤ b.Age ∧ b.Age ≤ 600) ∧ (0 ≤ b.Faults ∧ b.Faults ≤ 65535) := by
  unfold Body.right
  rw [if_neg h]
  simp [within, and_assoc]
theorem right_shoot {b : Api_Body} (h : Body.right b = true) (hk : b.Kind ≠ 0) (vx vy : Int) : Body.right (bodyShoot b vx vy) = true ∧ (bodyShoot b vx vy).Kind = 2 ∧ (bodyShoot b vx vy).Owner = b.Owner := by
  have r := (right_iff hk).1 h
  have h1 := brought_range (n := vx) (lo := -64) (hi := 64) (by omega)
  have h2 := brought_range (n := vy) (lo := -64) (hi := 64) (by omega)
  unfold bodyShoot
  rw [if_pos ⟨h, hk⟩]
  refine ⟨(right_iff (by simp)).2 ⟨?_, .inr rfl, r.2.2.1, r.2.2.2.1, r.2.2.2.2.1, h1, h2, by simp [Api_Body.zero], by simp [Api_Body.zero]⟩, rfl, rfl⟩
  intro n hn
  have : n = 0 := by simpa [Api_Body.zero] using hn
  omega
theorem right_put7 {b : Api_Body} (h : Body.right b = true) (hk : b.Kind ≠ 0) (k : Nat) (n : Int) (hn : -1000000 ≤ n ∧ n ≤ 1000000) : Body.right (b.put_7k k n) = true := by
  have r := (right_iff hk).1 h
  refine (right_iff (b := b.put_7k k n) hk).2 ⟨?_, r.2⟩
  intro x hx
  rcases List.mem_or_eq_of_mem_set hx with h | h
  · exact r.1 x h
  · rw [h]; exact hn
structure InvE (e g : Rule_Env) : Prop where
  right : Body.right g.Body = true
  kind : g.Body.Kind = e.Body.Kind
  owner : g.Body.Owner = e.Body.Owner
  age : g.Body.Age = e.Body.Age
  faults : g.Body.Faults = e.Body.Faults
  inp : g.In = e.In
  room : g.Room = e.Room
  len : (g.Shots.l.length : Int) ≤ e.Room
  shots : ∀ s ∈ g.Shots.l, Body.right s = true ∧ s.Kind = 2 ∧ s.Owner = e.Body.Owner
theorem InvE.set {e : Rule_Env} {m : Rule_machine} (h : InvE e m.e_) (hk : e.Body.Kind ≠ 0) (k : Nat) (n : Int) : InvE e (Mach.set m k n).e_ :=
  ⟨right_put7 h.right (by rw [h.kind]; exact hk) k _ (brought_range (by omega)), h.kind, h.owner, h.age, h.faults, h.inp, h.room, h.len, h.shots⟩
theorem InvE.put {e : Rule_Env} {m : Rule_machine} (h : InvE e m.e_) (hk : e.Body.Kind ≠ 0) (k n : Int) : InvE e (Mach.put m k n).e_ := by
  have hk' : m.e_.Body.Kind ≠ 0 := by rw [h.kind]; exact hk
  have r := (right_iff hk').1 h.right
  have h1 := brought_range (n := n) (lo := 0) (hi := 4095) (by omega)
  have h2 := brought_range (n := n) (lo := -64) (hi := 64) (by omega)
  obtain ⟨r1, r2, r3, r4, r5, r6, r7, r8, r9⟩ := r
  unfold Mach.put Mach.body
  simp only
  split
  · exact ⟨(right_iff (by exact hk')).2 ⟨r1, r2, r3, h1, r5, r6, r7, r8, r9⟩, h.kind, h.owner, h.age, h.faults, h.inp, h.room, h.len, h.shots⟩
  split
  · exact ⟨(right_iff (by exact hk')).2 ⟨r1, r2, r3, r4, h1, r6, r7, r8, r9⟩, h.kind, h.owner, h.age, h.faults, h.inp, h.room, h.len, h.shots⟩
  split
  · exact ⟨(right_iff (by exact hk')).2 ⟨r1, r2, r3, r4, r5, h2, r7, r8, r9⟩, h.kind, h.owner, h.age, h.faults, h.inp, h.room, h.len, h.shots⟩
  · exact ⟨(right_iff (by exact hk')).2 ⟨r1, r2, r3, r4, r5, r6, h2, r8, r9⟩, h.kind, h.owner, h.age, h.faults, h.inp, h.room, h.len, h.shots⟩
theorem InvE.shoot {e : Rule_Env} {m : Rule_machine} (h : InvE e m.e_) (hk : e.Body.Kind ≠ 0) (a b : Int) (hlt : (m.e_.Shots.l.length : Int) < m.e_.Room) : InvE e { m.e_ with Shots := ⟨.part, m.e_.Shots.l ++ [bodyShoot m.e_.Body a b], nofun⟩ } := by
  have hs := right_shoot h.right (by rw [h.kind]; exact hk) a b
  refine ⟨h.right, h.kind, h.owner, h.age, h.faults, h.inp, h.room, ?_, ?_⟩
  · have := h.room
    simp only [List.length_append, List.length_cons, List.length_nil]
    omega
  · intro s hs'
    rcases List.mem_append.1 hs' with h' | h'
    · exact h.shots s h'
    · have : s = bodyShoot m.e_.Body a b := by simpa using h'
      rw [this]
      exact ⟨hs.1, hs.2.1, by rw [hs.2.2]; exact h.owner⟩
theorem InvE.dice {e : Rule_Env} {m : Rule_machine} (h : InvE e m.e_) (d : Int) : InvE e ({ m with e_ := { m.e_ with Dice := d } } : Rule_machine).e_ := ⟨h.right, h.kind, h.owner, h.age, h.faults, h.inp, h.room, h.len, h.shots⟩
theorem reckon_inv {e : Rule_Env} {m m' : Rule_machine} (h : InvE e m.e_) (hk : e.Body.Kind ≠ 0) {o : Api_Op} (hr : Mach.reckon m o = .ok m') : InvE e m'.e_ := by
  unfold Mach.reckon at hr
  simp only at hr
  repeat' (split at hr)
  all_goals first
    | (cases hr; done)
    | (cases hr; exact h.set hk _ _)
    | (cases hr; exact InvE.set (h.dice _) hk _ _)
    | (rename_i hlt; cases hr; exact h.shoot hk _ _ hlt)
theorem reckon_err {m : Rule_machine} {o : Api_Op} {c : Int} (hr : Mach.reckon m o = .error c) : 1 ≤ c ∧ c ≤ 7 := by
  unfold Mach.reckon at hr
  simp only at hr
  repeat' (split at hr)
  all_goals first
    | (cases hr; done)
    | (cases hr; omega)
theorem doOp_inv {e : Rule_Env} {m : Rule_machine} {r : Rule_machine × Int} (h : InvE e m.e_) (hk : e.Body.Kind ≠ 0) {o : Api_Op} (hr : Mach.doOp m o = .ok r) : InvE e r.1.e_ := by
  unfold Mach.doOp at hr
  repeat' (split at hr)
  all_goals first
    | (cases hr; done)
    | (cases hr; exact h.set hk _ _)
    | (cases hr; exact h.put hk _ _)
    | (cases hr; exact h)
    | (rename_i hq; cases hr; exact reckon_inv h hk hq)
theorem doOp_err {m : Rule_machine} {o : Api_Op} {c : Int} (hr : Mach.doOp m o = .error c) : 1 ≤ c ∧ c ≤ 7 := by
  unfold Mach.doOp at hr
  repeat' (split at hr)
  all_goals first
    | (cases hr; done)
    | (cases hr; omega)
    | (rename_i hq; cases hr; exact reckon_err hq)
theorem run_inv {e : Rule_Env} (hk : e.Body.Kind ≠ 0) : ∀ (k : Nat) (m : Rule_machine), InvE e m.e_ → 0 ≤ m.at_ → match Mach.run k m with | .ok m' => InvE e m'.e_ | .error c => 1 ≤ c.1 ∧ c.1 ≤ 7 ∧ 0 ≤ c.2 ∧ c.2 < m.l_.l.length
  | k, m, h, ha => by
    unfold Mach.run
    by_cases hlt : m.at_ < m.l_.l.length
    · rw [if_pos hlt]
      cases k with
      | zero => exact ⟨by omega, by omega, ha, hlt⟩
      | succ k =>
        simp only
        cases hq : Mach.doOp m (nth m.l_.l m.at_.toNat) with
        | error c => exact ⟨(doOp_err hq).1, (doOp_err hq).2, ha, hlt⟩
        | ok r =>
          obtain ⟨m2, n⟩ := r
          have hd := doOp_inv h hk hq
          have kk := Mach.doOp_keeps hq ha hlt
          have ih := run_inv hk k { m2 with at_ := n } hd kk.2.2.2.2.1
          have hl2 : m2.l_ = m.l_ := kk.2.1
          simp only [hl2] at ih ⊢
          exact ih
    · rw [if_neg hlt]; exact h
theorem envOf_kind (x : Law12_RawEnv) : (envOf x).Body.Kind = 1 := by
  have : ∀ (l : List Int) (n : Nat) (b : Api_Body), (memN l n b).Kind = b.Kind := by
    intro l n; induction n with
    | zero => intro b; rfl
    | succ n ih => intro b; exact ih b
  unfold envOf
  simp only
  split
  · simp [this, bodyBorn]
  · simp [this, bodyBorn]
theorem rule_total (x : Law12_RawEnv) (l : Lst Api_Op) (hr : Body.right (envOf x).Body = true) :
    ((ruleRun l (envOf x)).2.2 = true → (ruleRun l (envOf x)).2.1 = ⟨0, 0⟩ ∧ InvE (envOf x) (ruleRun l (envOf x)).1) ∧
    ((ruleRun l (envOf x)).2.2 = false → (1 ≤ (ruleRun l (envOf x)).2.1.Code ∧ (ruleRun l (envOf x)).2.1.Code ≤ 7 ∧ 0 ≤ (ruleRun l (envOf x)).2.1.At ∧ (ruleRun l (envOf x)).2.1.At < l.l.length) ∧ sameE (ruleRun l (envOf x)).1 (envOf x) = true) := by
  have hk := envOf_kind x
  have hi : InvE (envOf x) (copiedE (envOf x)) := by
    have hp := pick_range (n := x.Room) (m := 8) (by omega)
    refine ⟨hr, rfl, rfl, rfl, rfl, rfl, rfl, ?_, ?_⟩
    · simp [copiedE, cloneP, envOf, Rule_Env.zero]; exact hp.1
    · intro s hs; simp [copiedE, cloneP, envOf, Rule_Env.zero] at hs
  have hrun := run_inv (by omega) 64 ⟨copiedE (envOf x), l, 0⟩ hi (by simp)
  have hsame : sameE (copiedE (envOf x)) (envOf x) = true := by simp [sameE, copiedE, cloneP_l]
  unfold ruleRun
  rw [if_neg (by rw [hr, hk]; simp)]
  cases hq : Mach.run 64 ⟨copiedE (envOf x), l, 0⟩ with
  | ok m => rw [hq] at hrun; exact ⟨fun _ => ⟨rfl, hrun⟩, fun h => (by cases h)⟩
  | error c => rw [hq] at hrun; exact ⟨fun h => (by cases h), fun _ => ⟨hrun, hsame⟩⟩
end Go.Proofs.Ytpchcfkebljopaa
end
section
namespace Go.Proofs.Ytpchcfkebljopaa
open Go.Cl Go Go.RowKit
set_option maxRecDepth 100000
set_option linter.constructorNameAsVariable false
def App {α : Type} (n0 : Nat) (s : Lst α) (q : Hp) : Prop :=
  s.tl = .nil ∨ ∃ j, s.tl = .own j ∧ n0 < j ∧ j < q.n ∧ q.t.get j = some (.tail s.l.length) ∧ 0 < s.l.length
theorem App.nw {α : Type} {n0 m : Nat} {l : List α} {q : Hp} {ok : Tail.own q.n = .nil → l = []} (h : n0 < q.n) (hm : l.length = m) (h0 : 0 < m) : App n0 (⟨.own q.n, l, ok⟩ : Lst α) (q.new (.tail m)) :=
  .inr ⟨q.n, rfl, h, by rw [Hp.znew_n]; omega, by rw [Hp.get_new_self, ← hm], by simp only; omega⟩
theorem App.sw {α : Type} {n0 m j : Nat} {l : List α} {q : Hp} {ok : Tail.own q.n = .nil → l = []} (h : n0 < q.n) (hm : l.length = m) (h0 : 0 < m) : App n0 (⟨.own q.n, l, ok⟩ : Lst α) ((q.set j none).new (.tail m)) :=
  .inr ⟨q.n, rfl, h, by rw [Hp.znew_n, Hp.zset_n]; omega, by rw [← hm]; exact Hp.get_new_self (q.set j none) _, by simp only; omega⟩
end Go.Proofs.Ytpchcfkebljopaa
end
section
namespace Go.Cl
open Go.RowKit Go.ChangeShapes Go.WideShapes Go.ChangeAt
def consB (P : Program) : Nat → List Field → Nat → Bool
  | off, [], tot => off == tot
  | off, f :: l, tot => f.offset == off && consB P (off + P.cellsOf f.type) l tot
def sup (P : Program) : Nat → TypeId → Bool
  | 0, _ => false
  | n + 1, t => match P.underlying t with
    | some (.int _) | some .bool | some (.float _) | some .string => true
    | some (.struct fs) => consB P 0 fs.toList (P.cellsOf t) && fs.toList.all fun f => sup P n f.type
    | some (.array c e) => (P.cellsOf t == c * P.cellsOf e) && sup P n e
    | _ => false
def All2 (r : TypeId → CV → Prop) : List TypeId → List CV → Prop
  | [], [] => True
  | t :: ts, v :: l => r t v ∧ All2 r ts l
  | _, _ => False
def Ty (P : Program) : Nat → TypeId → CV → Prop
  | 0, _, _ => False
  | n + 1, t, v => match P.underlying t with
    | some (.int k) => ∃ i, v = .sc (.int k i) ∧ (Lit.int k i).wf = true
    | some .bool => ∃ b, v = .sc (.bool b)
    | some (.float k) => ∃ b, v = .sc (.float k b) ∧ (Lit.float k b).wf = true
    | some .string => ∃ s, v = .sc (.string s) ∧ s.size ≤ maxLen
    | some (.struct fs) => ∃ l, v = .agg l ∧ All2 (Ty P n) (fs.toList.map (·.type)) l
    | some (.array c e) => ∃ l, v = .agg l ∧ l.length = c ∧ ∀ x ∈ l, Ty P n e x
    | _ => False
variable {H : Type} {enc : TypeId × Value → H} {P : Program} {w : World} {base : Nat} {spare : Nat → Bool} {held : Bool}
theorem read_fields {n fuel : Nat} (S : St) (ih : ∀ t cs x, sup P n t = true → DataW.trod enc P w base spare held fuel t cs = some x → ∃ v, FR S v cs ∧ Ty P n t v) (cs : List Value) :
    ∀ (fl : List Field) (off tot : Nat) (xs : List (DataW H × List MemPlace)), consB P off fl tot = true → cs.length = tot → (fl.all fun f => sup P n f.type) = true →
      (fl.mapM fun f => DataW.trod enc P w base spare held fuel f.type ((cs.drop f.offset).take (P.cellsOf f.type))) = some xs → ∃ l, FRs S l (cs.drop off) ∧ All2 (Ty P n) (fl.map (·.type)) l
  | [], off, tot, xs, hc, hl, _, _ => by
    simp only [consB, beq_iff_eq] at hc
    subst hc
    exact ⟨[], by simp [FRs, hl], trivial⟩
  | f :: fl, off, tot, xs, hc, hl, ha, hm => by
    simp only [consB, Bool.and_eq_true, beq_iff_eq] at hc
    simp only [List.all_cons, Bool.and_eq_true] at ha
    simp only [List.mapM_cons, Option.pure_def, Option.bind_eq_bind, Option.bind_eq_some_iff] at hm
    obtain ⟨y, hy, ys, hys, _⟩ := hm
    obtain ⟨v, hv, tv⟩ := ih _ _ _ ha.1 hy
    obtain ⟨l, hl', tl⟩ := read_fields S ih cs fl _ tot ys hc.2 hl ha.2 hys
    refine ⟨v :: l, ?_, tv, tl⟩
    simp only [FRs]
    refine ⟨_, _, ?_, hv, hl'⟩
    rw [hc.1, ← List.drop_drop, List.take_append_drop]
theorem read_elems {n fuel sz : Nat} {e : TypeId} (S : St) (ih : ∀ t cs x, sup P n t = true → DataW.trod enc P w base spare held fuel t cs = some x → ∃ v, FR S v cs ∧ Ty P n t v) (he : sup P n e = true) (cs : List Value) :
    ∀ (c k : Nat) (xs : List (DataW H × List MemPlace)), cs.length = (k + c) * sz →
      ((List.range' k c).mapM fun i => DataW.trod enc P w base spare held fuel e ((cs.drop (i * sz)).take sz)) = some xs → ∃ l, FRs S l (cs.drop (k * sz)) ∧ l.length = c ∧ ∀ x ∈ l, Ty P n e x
  | 0, k, xs, hl, _ => ⟨[], by simp [FRs, hl], rfl, by simp⟩
  | c + 1, k, xs, hl, hm => by
    rw [List.range'_succ] at hm
    simp only [List.mapM_cons, Option.pure_def, Option.bind_eq_bind, Option.bind_eq_some_iff] at hm
    obtain ⟨y, hy, ys, hys, _⟩ := hm
    obtain ⟨v, hv, tv⟩ := ih _ _ _ he hy
    obtain ⟨l, hl', hn, tl⟩ := read_elems S ih he cs c (k + 1) ys (by rw [hl]; congr 1; omega) hys
    refine ⟨v :: l, ?_, by simp [hn], by simpa using ⟨tv, tl⟩⟩
    simp only [FRs]
    refine ⟨_, _, ?_, hv, hl'⟩
    rw [Nat.succ_mul, ← List.drop_drop, List.take_append_drop]
theorem read (S : St) : ∀ (n : Nat) (t : TypeId) (fuel : Nat) (cs : List Value) (x : DataW H × List MemPlace), sup P n t = true → DataW.trod enc P w base spare held fuel t cs = some x → ∃ v, FR S v cs ∧ Ty P n t v
  | 0, t, _, _, _, hs, _ => by simp [sup] at hs
  | n + 1, t, 0, _, _, _, h => by simp [DataW.trod] at h
  | n + 1, t, fuel + 1, cs, x, hs, h => by
    have h0 := h
    unfold DataW.trod at h
    simp only [sup] at hs
    cases hu : P.underlying t with
    | none => rw [hu] at hs; simp at hs
    | some u =>
      rw [hu] at hs h
      cases u with
      | int k =>
        obtain ⟨i, rfl, _, hw⟩ := DataW.trod_int hu h0
        exact ⟨.sc (.int k i), by simp [FR, plain], by simp only [Ty, hu]; exact ⟨i, rfl, hw⟩⟩
      | bool =>
        obtain ⟨b, rfl, _⟩ := DataW.trod_bool hu h0
        exact ⟨.sc (.bool b), by simp [FR, plain], by simp only [Ty, hu]; exact ⟨b, rfl⟩⟩
      | string =>
        obtain ⟨s, rfl, _, hw⟩ := DataW.trod_string hu h0
        exact ⟨.sc (.string s), by simp [FR, plain], by simp only [Ty, hu]; exact ⟨s, rfl, hw⟩⟩
      | float k =>
        simp only at h
        have hc : ∃ b, cs = [.float k b] ∧ (Lit.float k b).wf = true := by
          clear hs h0
          split at h <;> try (rename_i e; cases e; done)
          all_goals first | (cases h; done) | skip
          · rename_i k1 k2 b e
            split at h
            · rename_i hk
              cases e
              obtain ⟨rfl, hw⟩ := hk
              exact ⟨b, rfl, hw⟩
            · cases h
        obtain ⟨b, rfl, hw⟩ := hc
        exact ⟨.sc (.float k b), by simp [FR, plain], by simp only [Ty, hu]; exact ⟨b, rfl, hw⟩⟩
      | struct fs =>
        simp only [Bool.and_eq_true] at hs
        simp only at h
        split at h
        · rename_i hlen
          simp only [Option.map_eq_some_iff] at h
          obtain ⟨xs, hx, _⟩ := h
          obtain ⟨l, hl, tl⟩ := read_fields S (fun t cs x => read S n t fuel cs x) cs fs.toList 0 _ xs hs.1 hlen hs.2 hx
          exact ⟨.agg l, by simpa [FR] using hl, by simp only [Ty, hu]; exact ⟨l, rfl, tl⟩⟩
        · cases h
      | array c e =>
        simp only [Bool.and_eq_true, beq_iff_eq] at hs
        simp only at h
        split at h
        · rename_i hlen
          simp only [Option.map_eq_some_iff] at h
          obtain ⟨xs, hx, _⟩ := h
          rw [List.range_eq_range'] at hx
          obtain ⟨l, hl, hn, tl⟩ := read_elems S (fun t cs x => read S n t fuel cs x) hs.2 cs c 0 xs (by rw [hlen, hs.1]; simp) hx
          exact ⟨.agg l, by simpa [FR] using hl, by simp only [Ty, hu]; exact ⟨l, rfl, hn, tl⟩⟩
        · cases h
      | _ => simp at hs
theorem add_none {a : Addr} (ha : a.spot = none) (n : Nat) : a.add n = ⟨a.block, a.off + n, none⟩ := by
  cases a; simp only at ha; subst ha; unfold Addr.add; split <;> simp_all
theorem lies_cells {a : Addr} (ha : a.spot = none) {m : Nat} {cs : List Value} (h : w.cells? base a m = some cs) : (S0 w).lies a.block a.off cs ∧ cs.length = m := by
  unfold World.cells? at h
  split at h
  · refine ⟨fun j u hu => ?_, by simpa using mapM_some_length h⟩
    have hj : j < cs.length := by
      rcases Nat.lt_or_ge j cs.length with q | q
      · exact q
      · rw [List.getElem?_eq_none q] at hu; cases hu
    have hl : cs.length = m := by simpa using mapM_some_length h
    have := mapM_some_get h j j (List.getElem?_range (by omega))
    rw [hu] at this
    simp only [S0]
    rw [← this]
    rw [add_none ha]
  · cases h
theorem read_slice {n fuel sz : Nat} {e : TypeId} {a : Addr} (he : sup P n e = true) (hsz : P.cellsOf e = sz) (ha : a.spot = none) :
    ∀ (c k : Nat) (xs : List (DataW H × List MemPlace)),
      ((List.range' k c).mapM fun i => (w.cells? base (a.add (i * sz)) sz).bind (DataW.trod enc P w base spare held fuel e)) = some xs →
        ∃ l es, FRs (S0 w) l es ∧ l.length = c ∧ (∀ x ∈ l, Ty P n e x) ∧ (S0 w).lies a.block (a.off + k * sz) es ∧ es.length = c * sz ∧ ∀ x ∈ l, x.size = sz
  | 0, k, xs, _ => ⟨[], [], by simp [FRs], rfl, by simp, fun j u hu => by simp at hu, by simp, by simp⟩
  | c + 1, k, xs, hm => by
    rw [List.range'_succ] at hm
    simp only [List.mapM_cons, Option.pure_def, Option.bind_eq_bind, Option.bind_eq_some_iff] at hm
    obtain ⟨y, ⟨cs, hcs, hy⟩, ys, hys, _⟩ := hm
    obtain ⟨v, hv, tv⟩ := read (S0 w) n e fuel cs y he hy
    obtain ⟨l, es, h1, h2, h3, h4, h5, h6⟩ := read_slice he hsz ha c (k + 1) ys hys
    obtain ⟨hl, hn⟩ := lies_cells (a := a.add (k * sz)) (by rw [add_none ha]) hcs
    rw [add_none ha] at hl
    refine ⟨v :: l, cs ++ es, by simp only [FRs]; exact ⟨_, _, rfl, hv, h1⟩, by simp [h2], by simpa using ⟨tv, h3⟩, fun j u hu => ?_, by simp [hn, h5, Nat.succ_mul]; omega, ?_⟩
    · rw [List.getElem?_append] at hu
      split at hu
      · have := hl j u hu
        simpa [Nat.add_assoc] using this
      · rename_i hj
        have := h4 _ u hu
        rw [hn] at this hj
        rw [← this]
        congr 1
        rw [Nat.succ_mul]; omega
    · intro x hx
      rcases List.mem_cons.1 hx with rfl | hx
      · rw [← FR.length _ _ hv, hn]
      · exact h6 x hx
end Go.Cl
end
section
namespace Go.Cl
open Go.RowKit Go.ChangeShapes Go.WideShapes Go.ChangeAt
def sup2 (P : Program) : Nat → TypeId → Bool
  | 0, _ => false
  | n + 1, t => match P.underlying t with
    | some (.int _) | some .bool | some (.float _) | some .string => true
    | some (.slice e) => sup P n e
    | some (.struct fs) => consB P 0 fs.toList (P.cellsOf t) && fs.toList.all fun f => sup2 P n f.type
    | some (.array c e) => (P.cellsOf t == c * P.cellsOf e) && sup2 P n e
    | _ => false
def Ty2 (P : Program) : Nat → TypeId → CV → Prop
  | 0, _, _ => False
  | n + 1, t, v => match P.underlying t with
    | some (.int k) => ∃ i, v = .sc (.int k i) ∧ (Lit.int k i).wf = true
    | some .bool => ∃ b, v = .sc (.bool b)
    | some (.float k) => ∃ b, v = .sc (.float k b) ∧ (Lit.float k b).wf = true
    | some .string => ∃ s, v = .sc (.string s) ∧ s.size ≤ maxLen
    | some (.slice e) => ∃ tl l, v = .lst tl l ∧ (∀ x ∈ l, Ty2 P n e x) ∧ (tl = .view ∨ tl = .nil ∧ l = [])
    | some (.struct fs) => ∃ l, v = .agg l ∧ All2 (Ty2 P n) (fs.toList.map (·.type)) l
    | some (.array c e) => ∃ l, v = .agg l ∧ l.length = c ∧ ∀ x ∈ l, Ty2 P n e x
    | _ => False
theorem All2.mono {r r' : TypeId → CV → Prop} (h : ∀ t v, r t v → r' t v) : ∀ ts l, All2 r ts l → All2 r' ts l
  | [], [], _ => trivial
  | _ :: ts, _ :: l, ⟨a, b⟩ => ⟨h _ _ a, All2.mono h ts l b⟩
  | [], _ :: _, k => k.elim
  | _ :: _, [], k => k.elim
theorem Ty.up {P : Program} : ∀ (n : Nat) (t : TypeId) (v : CV), Ty P n t v → Ty2 P n t v
  | 0, _, _, h => h.elim
  | n + 1, t, v, h => by
    simp only [Ty] at h
    simp only [Ty2]
    cases hu : P.underlying t with
    | none => rw [hu] at h; exact h.elim
    | some u =>
      rw [hu] at h
      cases u with
      | struct fs =>
        obtain ⟨l, hl, ha⟩ := h
        exact ⟨l, hl, All2.mono (fun t v => Ty.up n t v) _ _ ha⟩
      | array c e =>
        obtain ⟨l, hl, hn, ha⟩ := h
        exact ⟨l, hl, hn, fun x hx => Ty.up n _ x (ha x hx)⟩
      | int k => exact h
      | bool => exact h
      | float k => exact h
      | string => exact h
      | _ => exact h.elim
variable {H : Type} {enc : TypeId × Value → H} {P : Program} {w : World} {base : Nat} {spare : Nat → Bool} {held : Bool}
def SlOk (cs : List Value) : Prop := ∀ x ∈ cs, ∀ a len cap, x = .slice (some a) len cap → a.spot = none ∧ len ≤ cap
theorem read2_fields {n fuel : Nat} (S : St) (ih : ∀ t cs x, SlOk cs → sup2 P n t = true → DataW.trod enc P w base spare held fuel t cs = some x → ∃ v, FR S v cs ∧ Ty2 P n t v) (cs : List Value) (hk : SlOk cs) :
    ∀ (fl : List Field) (off tot : Nat) (xs : List (DataW H × List MemPlace)), consB P off fl tot = true → cs.length = tot → (fl.all fun f => sup2 P n f.type) = true →
      (fl.mapM fun f => DataW.trod enc P w base spare held fuel f.type ((cs.drop f.offset).take (P.cellsOf f.type))) = some xs → ∃ l, FRs S l (cs.drop off) ∧ All2 (Ty2 P n) (fl.map (·.type)) l
  | [], off, tot, xs, hc, hl, _, _ => by
    simp only [consB, beq_iff_eq] at hc
    subst hc
    exact ⟨[], by simp [FRs, hl], trivial⟩
  | f :: fl, off, tot, xs, hc, hl, ha, hm => by
    simp only [consB, Bool.and_eq_true, beq_iff_eq] at hc
    simp only [List.all_cons, Bool.and_eq_true] at ha
    simp only [List.mapM_cons, Option.pure_def, Option.bind_eq_bind, Option.bind_eq_some_iff] at hm
    obtain ⟨y, hy, ys, hys, _⟩ := hm
    obtain ⟨v, hv, tv⟩ := ih _ _ _ (fun x hx => hk x (List.mem_of_mem_drop (List.mem_of_mem_take hx))) ha.1 hy
    obtain ⟨l, hl', tl⟩ := read2_fields S ih cs hk fl _ tot ys hc.2 hl ha.2 hys
    refine ⟨v :: l, ?_, tv, tl⟩
    simp only [FRs]
    refine ⟨_, _, ?_, hv, hl'⟩
    rw [hc.1, ← List.drop_drop, List.take_append_drop]
theorem read2_elems {n fuel sz : Nat} {e : TypeId} (S : St) (ih : ∀ t cs x, SlOk cs → sup2 P n t = true → DataW.trod enc P w base spare held fuel t cs = some x → ∃ v, FR S v cs ∧ Ty2 P n t v) (he : sup2 P n e = true) (cs : List Value) (hk : SlOk cs) :
    ∀ (c k : Nat) (xs : List (DataW H × List MemPlace)), cs.length = (k + c) * sz →
      ((List.range' k c).mapM fun i => DataW.trod enc P w base spare held fuel e ((cs.drop (i * sz)).take sz)) = some xs → ∃ l, FRs S l (cs.drop (k * sz)) ∧ l.length = c ∧ ∀ x ∈ l, Ty2 P n e x
  | 0, k, xs, hl, _ => ⟨[], by simp [FRs, hl], rfl, by simp⟩
  | c + 1, k, xs, hl, hm => by
    rw [List.range'_succ] at hm
    simp only [List.mapM_cons, Option.pure_def, Option.bind_eq_bind, Option.bind_eq_some_iff] at hm
    obtain ⟨y, hy, ys, hys, _⟩ := hm
    obtain ⟨v, hv, tv⟩ := ih _ _ _ (fun x hx => hk x (List.mem_of_mem_drop (List.mem_of_mem_take hx))) he hy
    obtain ⟨l, hl', hn, tl⟩ := read2_elems S ih he cs hk c (k + 1) ys (by rw [hl]; congr 1; omega) hys
    refine ⟨v :: l, ?_, by simp [hn], by simpa using ⟨tv, tl⟩⟩
    simp only [FRs]
    refine ⟨_, _, ?_, hv, hl'⟩
    rw [Nat.succ_mul, ← List.drop_drop, List.take_append_drop]
theorem read2 : ∀ (n : Nat) (t : TypeId) (fuel : Nat) (cs : List Value) (x : DataW H × List MemPlace), SlOk cs → sup2 P n t = true → DataW.trod enc P w base spare held fuel t cs = some x → ∃ v, FR (S0 w) v cs ∧ Ty2 P n t v
  | 0, t, _, _, _, _, hs, _ => by simp [sup2] at hs
  | n + 1, t, 0, _, _, _, _, h => by simp [DataW.trod] at h
  | n + 1, t, fuel + 1, cs, x, hk, hs, h => by
    have h0 := h
    simp only [sup2] at hs
    cases hu : P.underlying t with
    | none => rw [hu] at hs; simp at hs
    | some u =>
      rw [hu] at hs
      cases u with
      | int k =>
        obtain ⟨v, h1, h2⟩ := read (S0 w) (n + 1) t (fuel + 1) cs x (by simp only [sup, hu]) h0
        exact ⟨v, h1, Ty.up _ _ _ h2⟩
      | bool =>
        obtain ⟨v, h1, h2⟩ := read (S0 w) (n + 1) t (fuel + 1) cs x (by simp only [sup, hu]) h0
        exact ⟨v, h1, Ty.up _ _ _ h2⟩
      | string =>
        obtain ⟨v, h1, h2⟩ := read (S0 w) (n + 1) t (fuel + 1) cs x (by simp only [sup, hu]) h0
        exact ⟨v, h1, Ty.up _ _ _ h2⟩
      | float k =>
        obtain ⟨v, h1, h2⟩ := read (S0 w) (n + 1) t (fuel + 1) cs x (by simp only [sup, hu]) h0
        exact ⟨v, h1, Ty.up _ _ _ h2⟩
      | slice e =>
        simp only at hs
        simp only [DataW.trod, hu] at h
        split at h <;> try (rename_i e1 _; cases e1; done)
        all_goals try (cases h; done)
        all_goals try (rename_i e1; cases e1; done)
        · exact ⟨.lst .nil [], by simp [FR, Tail.mayNil], by simp only [Ty2, hu]; exact ⟨.nil, [], rfl, by simp, .inr ⟨rfl, rfl⟩⟩⟩
        · rename_i e' a len cap e1
          cases e1
          obtain ⟨ha, hlc⟩ := hk _ (.head _) a len cap rfl
          split at h
          · rw [Option.bind_eq_some_iff] at h
            obtain ⟨xs, hx, _⟩ := h
            rw [List.range_eq_range'] at hx
            obtain ⟨l, es, h1, h2, h3, h4, h5, h6⟩ := read_slice hs rfl ha len 0 xs hx
            subst h2
            refine ⟨.lst .view l, ?_, by simp only [Ty2, hu]; exact ⟨.view, l, rfl, fun x hx => Ty.up _ _ _ (h3 x hx), .inl rfl⟩⟩
            simp only [FR]
            refine .inr ⟨a.block, a.off, cap, P.cellsOf e, es, ?_, hlc, h1, by simpa using h4, h6, trivial⟩
            cases a; simp only at ha; subst ha; rfl
          · cases h
      | struct fs =>
        simp only [Bool.and_eq_true] at hs
        unfold DataW.trod at h
        rw [hu] at h
        simp only at h
        split at h
        · rename_i hlen
          simp only [Option.map_eq_some_iff] at h
          obtain ⟨xs, hx, _⟩ := h
          obtain ⟨l, hl, tl⟩ := read2_fields (S0 w) (fun t cs x => read2 n t fuel cs x) cs hk fs.toList 0 _ xs hs.1 hlen hs.2 hx
          exact ⟨.agg l, by simpa [FR] using hl, by simp only [Ty2, hu]; exact ⟨l, rfl, tl⟩⟩
        · cases h
      | array c e =>
        simp only [Bool.and_eq_true, beq_iff_eq] at hs
        unfold DataW.trod at h
        rw [hu] at h
        simp only at h
        split at h
        · rename_i hlen
          simp only [Option.map_eq_some_iff] at h
          obtain ⟨xs, hx, _⟩ := h
          rw [List.range_eq_range'] at hx
          obtain ⟨l, hl, hn, tl⟩ := read2_elems (S0 w) (fun t cs x => read2 n t fuel cs x) hs.2 cs hk c 0 xs (by rw [hlen, hs.1]; simp) hx
          exact ⟨.agg l, by simpa [FR] using hl, by simp only [Ty2, hu]; exact ⟨l, rfl, hn, tl⟩⟩
        · cases h
      | _ => simp at hs
theorem slOk_cell {r : Reach} {b0 : Nat} {t : TypeId} {v : Value} (h : Cell.okWide P w r b0 t v) : ∀ a len cap, v = .slice (some a) len cap → a.spot = none ∧ len ≤ cap := by
  rintro a len cap rfl
  unfold Cell.okWide at h
  split at h <;> try (rename_i e1; cases e1; done)
  all_goals try (rename_i e1 _; cases e1; done)
  unfold Cell.ok at h
  split at h <;> try (rename_i e1; cases e1; done)
  all_goals try (rename_i e1 _; cases e1; done)
  all_goals try (exact h.elim)
  rename_i e1
  cases e1
  exact ⟨h.2.2.2.1, h.1⟩
theorem slOk_of {r : Reach} {b0 : Nat} {t : TypeId} {v : Value} (hv : Value.okWide P w r b0 t v) : SlOk v.cells.toList := by
  unfold Value.okWide at hv
  split at hv
  · obtain ⟨cs, rfl, _, ts, _, _, hc⟩ := hv
    intro x hx
    obtain ⟨i, hi, e⟩ := List.getElem_of_mem hx
    simp only [Value.cells] at hi e
    obtain ⟨u, _, hu⟩ := hc i x (by simp at hi e; simp [hi, e])
    exact slOk_cell hu
  · obtain ⟨cs, rfl, _, ts, _, _, hc⟩ := hv
    intro x hx
    obtain ⟨i, hi, e⟩ := List.getElem_of_mem hx
    simp only [Value.cells] at hi e
    obtain ⟨u, _, hu⟩ := hc i x (by simp at hi e; simp [hi, e])
    exact slOk_cell hu
  · intro x hx a len cap e
    subst e
    cases v with
    | agg cs => exfalso; unfold Cell.okWide Cell.ok at hv; split at hv <;> simp_all
    | _ => simp [Value.cells] at hx <;> (obtain ⟨rfl, rfl, rfl⟩ := hx; exact slOk_cell hv _ _ _ rfl)
theorem arg_any {n : Nat} {t : TypeId} {v : Value} {d : DataW H} {ps : List MemPlace} {r : Reach} {b0 : Nat} (hs : sup2 P n t = true) (hv : Value.okWide P w r b0 t v) (h : DataW.Trod enc P w base spare held t v d ps) : ∃ c, VR (S0 w) c v ∧ Ty2 P n t c := by
  obtain ⟨fuel, hf⟩ := h
  obtain ⟨c, hc, ht⟩ := read2 n t fuel _ _ (slOk_of hv) hs hf
  refine ⟨c, ⟨hc, ?_⟩, ht⟩
  cases n with
  | zero => simp [sup2] at hs
  | succ n =>
    simp only [sup2] at hs
    simp only [Ty2] at ht
    unfold Value.okWide at hv
    cases hu : P.underlying t with
    | none => rw [hu] at hs; simp at hs
    | some u =>
      rw [hu] at hs ht hv
      cases u with
      | int k => obtain ⟨i, rfl, _⟩ := ht; simp only [Cell.okWide, Cell.ok, hu] at hv; cases v <;> simp_all [CV.isAgg]
      | bool => obtain ⟨i, rfl⟩ := ht; simp only [Cell.okWide, Cell.ok, hu] at hv; cases v <;> simp_all [CV.isAgg]
      | float k => obtain ⟨i, rfl, _⟩ := ht; simp only [Cell.okWide, Cell.ok, hu] at hv; cases v <;> simp_all [CV.isAgg]
      | string => obtain ⟨i, rfl, _⟩ := ht; simp only [Cell.okWide, Cell.ok, hu] at hv; cases v <;> simp_all [CV.isAgg]
      | slice e => obtain ⟨tl, l, rfl, _⟩ := ht; simp only [Cell.okWide, Cell.ok, hu] at hv; cases v <;> simp_all [CV.isAgg]
      | struct fs => obtain ⟨l, rfl, _⟩ := ht; obtain ⟨cs, rfl, _⟩ := hv; simp [CV.isAgg]
      | array c e => obtain ⟨l, rfl, _⟩ := ht; obtain ⟨cs, rfl, _⟩ := hv; simp [CV.isAgg]
      | _ => simp at hs
end Go.Cl
end
section
namespace Go.Proofs.Ytpchcfkebljopaa
open Go.Cl Go Go.ChangeShapes Go.WideShapes Go.ChangeAt Go.RowKit
set_option maxRecDepth 100000
set_option linter.constructorNameAsVariable false
theorem all2_cons {r : TypeId → CV → Prop} {t : TypeId} {ts : List TypeId} {l : List CV} (h : All2 r (t :: ts) l) : ∃ v l', l = v :: l' ∧ r t v ∧ All2 r ts l' := by
  cases l with
  | nil => exact h.elim
  | cons v l' => exact ⟨v, l', rfl, h⟩
theorem all2_nil {r : TypeId → CV → Prop} {l : List CV} (h : All2 r [] l) : l = [] := by
  cases l with
  | nil => rfl
  | cons v l' => exact h.elim
theorem of_list {α : Type} {f : α → CV} : ∀ {l : List CV}, (∀ x ∈ l, ∃ y, x = f y) → ∃ ys : List α, l = ys.map f
  | [], _ => ⟨[], rfl⟩
  | v :: l, h => by
    obtain ⟨x, rfl⟩ := h v (.head _)
    obtain ⟨xs, rfl⟩ := of_list (l := l) (fun y hy => h y (.tail _ hy))
    exact ⟨x :: xs, rfl⟩
theorem of_slice {α : Type} {f : α → CV} {P : Program} {n : Nat} {t e : TypeId} {v : CV} (hu : P.underlying t = some (.slice e)) (he : ∀ x, Ty2 P n e x → ∃ y : α, x = f y) (h : Ty2 P (n + 1) t v) : ∃ s : Lst α, v = s.cv f ∧ (s.tl = .view ∨ s.tl = .nil) := by
  simp only [Ty2, hu] at h
  obtain ⟨tl, l, rfl, hl, ht⟩ := h
  obtain ⟨ys, rfl⟩ := of_list (fun x hx => he x (hl x hx))
  rcases ht with rfl | ⟨rfl, h0⟩
  · exact ⟨⟨.view, ys, nofun⟩, rfl, .inl rfl⟩
  · exact ⟨⟨.nil, ys, fun _ => by simpa using h0⟩, rfl, .inr rfl⟩
def inI (i : Int) : Prop := -9223372036854775808 ≤ i ∧ i ≤ 9223372036854775807
theorem of_int {P : Program} {n : Nat} {t : TypeId} {v : CV} (hu : P.underlying t = some (.int .i64)) (h : Ty2 P (n + 1) t v) : ∃ i, v = I i ∧ inI i := by
  simp only [Ty2, hu] at h
  obtain ⟨i, rfl, hw⟩ := h
  simp only [Lit.wf, Bool.and_eq_true, decide_eq_true_eq] at hw
  exact ⟨i, rfl, hw⟩
theorem of_u64 {P : Program} {n : Nat} {t : TypeId} {v : CV} (hu : P.underlying t = some (.int .u64)) (h : Ty2 P (n + 1) t v) : ∃ i, v = U i ∧ 0 ≤ i ∧ i ≤ 18446744073709551615 := by
  simp only [Ty2, hu] at h
  obtain ⟨i, rfl, hw⟩ := h
  simp only [Lit.wf, Bool.and_eq_true, decide_eq_true_eq] at hw
  exact ⟨i, rfl, hw⟩
theorem of_struct {P : Program} {n : Nat} {t : TypeId} {v : CV} {fs : Array Field} (hu : P.underlying t = some (.struct fs)) (h : Ty2 P (n + 1) t v) : ∃ l, v = .agg l ∧ All2 (Ty2 P n) (fs.toList.map (·.type)) l := by
  simp only [Ty2, hu] at h
  exact h
theorem a3 {n : Nat} {v : CV} (h : Ty2 Try.prog (n + 1) 3 v) : ∃ i, v = I i ∧ inI i := of_int Try.underlying3 h
theorem a25 {n : Nat} {v : CV} (h : Ty2 Try.prog (n + 1) 25 v) : ∃ i, v = U i ∧ 0 ≤ i ∧ i ≤ 18446744073709551615 := of_u64 Try.underlying25 h
theorem a24 {n : Nat} {v : CV} (h : Ty2 Try.prog (n + 2) 24 v) : ∃ s : Lst Int, v = s.cv I ∧ (s.tl = .view ∨ s.tl = .nil) := of_slice Try.underlying24 (fun _ h => let ⟨i, e, _⟩ := a3 h; ⟨i, e⟩) h
theorem a31 {n : Nat} {v : CV} (h : Ty2 Try.prog (n + 2) 31 v) : ∃ x : Hand_RawOp, v = x.cv := by
  obtain ⟨l, rfl, hs⟩ := of_struct Try.underlying31 h
  replace h := hs
  obtain ⟨v0, l0, rfl, h0, h⟩ := all2_cons h
  obtain ⟨v1, l1, rfl, h1, h⟩ := all2_cons h
  obtain ⟨v2, l2, rfl, h2, h⟩ := all2_cons h
  obtain rfl := all2_nil h
  obtain ⟨x0, rfl, _⟩ := a3 (n := n) h0
  obtain ⟨x1, rfl, _⟩ := a3 (n := n) h1
  obtain ⟨x2, rfl, _⟩ := a3 (n := n) h2
  exact ⟨⟨x0, x1, x2⟩, rfl⟩
theorem a22 {n : Nat} {v : CV} (h : Ty2 Try.prog (n + 3) 22 v) : ∃ s : Lst Hand_RawOp, v = s.cv Hand_RawOp.cv ∧ (s.tl = .view ∨ s.tl = .nil) := of_slice Try.underlying22 (fun _ h => a31 h) h
theorem a27 {n : Nat} {v : CV} (h : Ty2 Try.prog (n + 3) 27 v) : ∃ x : Law12_RawEnv, v = x.cv ∧ inI x.StickX := by
  obtain ⟨l, rfl, hs⟩ := of_struct Try.underlying27 h
  replace h := hs
  obtain ⟨v0, l0, rfl, h0, h⟩ := all2_cons h
  obtain ⟨v1, l1, rfl, h1, h⟩ := all2_cons h
  obtain ⟨v2, l2, rfl, h2, h⟩ := all2_cons h
  obtain ⟨v3, l3, rfl, h3, h⟩ := all2_cons h
  obtain ⟨v4, l4, rfl, h4, h⟩ := all2_cons h
  obtain ⟨v5, l5, rfl, h5, h⟩ := all2_cons h
  obtain ⟨v6, l6, rfl, h6, h⟩ := all2_cons h
  obtain ⟨v7, l7, rfl, h7, h⟩ := all2_cons h
  obtain ⟨v8, l8, rfl, h8, h⟩ := all2_cons h
  obtain rfl := all2_nil h
  obtain ⟨x0, rfl, _⟩ := a3 (n := n + 1) h0
  obtain ⟨x1, rfl, _⟩ := a3 (n := n + 1) h1
  obtain ⟨x2, rfl, _⟩ := a3 (n := n + 1) h2
  obtain ⟨x3, rfl, _⟩ := a3 (n := n + 1) h3
  obtain ⟨x4, rfl, w4⟩ := a3 (n := n + 1) h4
  obtain ⟨x5, rfl, _⟩ := a3 (n := n + 1) h5
  obtain ⟨x6, rfl, _⟩ := a24 (n := n) h6
  obtain ⟨x7, rfl, _⟩ := a25 (n := n + 1) h7
  obtain ⟨x8, rfl, _⟩ := a3 (n := n + 1) h8
  exact ⟨⟨x0, x1, x2, x3, x4, x5, x6, x7, x8⟩, rfl, w4⟩
end Go.Proofs.Ytpchcfkebljopaa
end
section
namespace Go.Proofs.Ytpchcfkebljopaa
open Go.Cl Go Go.ChangeShapes Go.WideShapes Go.ChangeAt Go.RowKit
theorem Try.own : ownKnob Try.prog.godebug = none := by kernel_rfl
theorem Try.laidOut : laidOutB Try.prog = true := by kernel_rfl
theorem con_true {f : FuncId} {R : Rel} (h : Con C f R) {args : List CV} {vals : List Value} {w : World} (hR : R args ⟨0, .e⟩ (.ret (Bo true) ⟨0, .e⟩)) (hV : VRs (S0 w) args vals) :
    Calls C.P f vals.toArray w fun e w' => e = .returned (.bool true) ∧ Below w.heap.size w w' := by
  have r0 : XRel w w.heap.size (S0 w) ⟨0, .e⟩ w := ⟨R_init w, rfl, fun i sh v h => by simp [Cl.T.get_e] at h⟩
  have hc := (h.ok _ _ _ hR).2.2 w w.heap.size (S0 w) w vals r0 hV
  refine Calls.mono hc ?_
  rintro e w' ⟨S', x, _, r, hx, rfl⟩
  exact ⟨by rw [(VR_sc.1 hx).1], r.r.below⟩
end Go.Proofs.Ytpchcfkebljopaa
end
section
namespace Go.Proofs.Ytpchcfkebljopaa
open Go.Cl Go Go.RowKit
end Go.Proofs.Ytpchcfkebljopaa
end
section
namespace Go.Proofs.Ytpchcfkebljopaa
open Go.Cl Go Go.RowKit
def eff (e : Rule_Env) (o : Api_Op) : Except Int Rule_Env :=
  match Mach.doOp ⟨e, ⟨.nil, [], fun _ => rfl⟩, 0⟩ o with
  | .error c => .error c
  | .ok r => .ok r.1.e_
end Go.Proofs.Ytpchcfkebljopaa
end
section
namespace Go.Proofs.Ytpchcfkebljopaa
open Go.Cl Go Go.RowKit
end Go.Proofs.Ytpchcfkebljopaa
end
section
namespace Go.Proofs.Ytpchcfkebljopaa
open Go.Cl Go Go.RowKit
def Mach.withL (m : Rule_machine) (s : Lst Api_Op) : Rule_machine := { m with l_ := s }
theorem reckon_withL (m : Rule_machine) (s : Lst Api_Op) (o : Api_Op) : Mach.reckon (Mach.withL m s) o = match Mach.reckon m o with | .ok r => .ok (Mach.withL r s) | .error c => .error c := by
  have h1 : ∀ k, Mach.reg (Mach.withL m s) k = Mach.reg m k := fun _ => rfl
  unfold Mach.reckon
  simp only [h1]
  by_cases c2 : o.Code = 2
  · simp only [if_pos c2]; rfl
  by_cases c3 : o.Code = 3
  · simp only [if_neg c2, if_pos c3]; rfl
  by_cases c4 : o.Code = 4
  · simp only [if_neg c2, if_neg c3, if_pos c4]; rfl
  by_cases c5 : o.Code = 5
  · simp only [if_neg c2, if_neg c3, if_neg c4, if_pos c5]; rfl
  by_cases c6 : o.Code = 6
  · simp only [if_neg c2, if_neg c3, if_neg c4, if_neg c5, if_pos c6]
    by_cases z : Mach.reg m o.B.toNat = 0
    · simp only [if_pos z]
    · simp only [if_neg z]; rfl
  by_cases c11 : o.Code = 11
  · simp only [if_neg c2, if_neg c3, if_neg c4, if_neg c5, if_neg c6, if_pos c11]
    by_cases z : Mach.reg m o.B.toNat < 1
    · simp only [if_pos z]
    · simp only [if_neg z]; rfl
  simp only [if_neg c2, if_neg c3, if_neg c4, if_neg c5, if_neg c6, if_neg c11]
  by_cases z : (m.e_.Shots.l.length : Int) < m.e_.Room
  · rw [if_pos z, if_pos (show ((Mach.withL m s).e_.Shots.l.length : Int) < (Mach.withL m s).e_.Room from z)]; rfl
  · rw [if_neg z, if_neg (show ¬ ((Mach.withL m s).e_.Shots.l.length : Int) < (Mach.withL m s).e_.Room from z)]
theorem doOp_withL (m : Rule_machine) (s : Lst Api_Op) (o : Api_Op) (h : s.l = m.l_.l) : Mach.doOp (Mach.withL m s) o = match Mach.doOp m o with | .ok r => .ok (Mach.withL r.1 s, r.2) | .error c => .error c := by
  have h1 : ∀ k, Mach.reg (Mach.withL m s) k = Mach.reg m k := fun _ => rfl
  have h2 : ∀ k, Mach.field (Mach.withL m s) k = Mach.field m k := fun _ => rfl
  have h3 : (Mach.withL m s).l_.l = m.l_.l := h
  unfold Mach.doOp
  simp only [h1, h2, h3, reckon_withL]
  by_cases c1 : within o.Code 1 13 = false
  · simp only [if_pos c1]
  by_cases c2 : namedOk o = false
  · simp only [if_neg c1, if_pos c2]
  by_cases c3 : o.Code = 1
  · simp only [if_neg c1, if_neg c2, if_pos c3]; rfl
  by_cases c4 : o.Code = 7
  · simp only [if_neg c1, if_neg c2, if_neg c3, if_pos c4]
    by_cases z : within o.B 0 7 = false
    · simp only [if_pos z]
    · simp only [if_neg z]; rfl
  by_cases c5 : o.Code = 8
  · simp only [if_neg c1, if_neg c2, if_neg c3, if_neg c4, if_pos c5]
    by_cases z : within o.A 0 3 = false
    · simp only [if_pos z]
    · simp only [if_neg z]; rfl
  by_cases c6 : o.Code = 9
  · simp only [if_neg c1, if_neg c2, if_neg c3, if_neg c4, if_neg c5, if_pos c6]
    by_cases z : Mach.reg m o.A.toNat = 0
    · simp only [if_pos z]
      by_cases y : within o.B 0 m.l_.l.length = false
      · simp only [if_pos y]
      · simp only [if_neg y]
    · simp only [if_neg z]; rfl
  by_cases c7 : o.Code = 10
  · simp only [if_neg c1, if_neg c2, if_neg c3, if_neg c4, if_neg c5, if_neg c6, if_pos c7]
    by_cases y : within o.B 0 m.l_.l.length = false
    · simp only [if_pos y]
    · simp only [if_neg y]
  by_cases c8 : o.Code = 13
  · simp only [if_neg c1, if_neg c2, if_neg c3, if_neg c4, if_neg c5, if_neg c6, if_neg c7, if_pos c8]
  simp only [if_neg c1, if_neg c2, if_neg c3, if_neg c4, if_neg c5, if_neg c6, if_neg c7, if_neg c8]
  cases Mach.reckon m o <;> rfl
theorem run_withL (s : Lst Api_Op) : ∀ (k : Nat) (m : Rule_machine), s.l = m.l_.l → 0 ≤ m.at_ → Mach.run k (Mach.withL m s) = match Mach.run k m with | .ok r => .ok (Mach.withL r s) | .error c => .error c
  | k, m, h, ha => by
    have h3 : (Mach.withL m s).l_.l = m.l_.l := h
    have h4 : (Mach.withL m s).at_ = m.at_ := rfl
    unfold Mach.run
    rw [h3, h4]
    by_cases hlt : m.at_ < m.l_.l.length
    · rw [if_pos hlt, if_pos hlt]
      cases k with
      | zero => rfl
      | succ k =>
        simp only [doOp_withL m s _ h]
        cases hd : Mach.doOp m (nth m.l_.l m.at_.toNat) with
        | error c => rfl
        | ok r =>
          obtain ⟨m2, n⟩ := r
          simp only
          have kk := Mach.doOp_keeps hd ha hlt
          exact run_withL s k { m2 with at_ := n } (by simp only; rw [kk.2.1]; exact h) kk.2.2.2.2.1
    · rw [if_neg hlt, if_neg hlt]
theorem ruleRun_l {l s : Lst Api_Op} (h : s.l = l.l) (e : Rule_Env) : ruleRun s e = ruleRun l e := by
  have := run_withL s 64 ⟨copiedE e, l, 0⟩ h (by simp)
  unfold ruleRun
  rw [show (⟨copiedE e, s, 0⟩ : Rule_machine) = Mach.withL ⟨copiedE e, l, 0⟩ s from rfl, this]
  cases Mach.run 64 ⟨copiedE e, l, 0⟩ <;> rfl
def runL (L : List Api_Op) (e : Rule_Env) : Rule_Env × Trap_Fault × Bool := ruleRun ⟨.view, L, nofun⟩ e
theorem runL_len (x : Law12_RawEnv) (L : List Api_Op) : (runL L (envOf x)).1.Shots.l.length ≤ 7 := by
  by_cases hr : Body.right (envOf x).Body = true
  · have hT := rule_total x ⟨.view, L, nofun⟩ hr
    cases ho : (runL L (envOf x)).2.2 with
    | true =>
      have := (hT.1 ho).2.len
      have hp := pick_range (n := x.Room) (m := 8) (by omega)
      have : (envOf x).Room = pick x.Room 8 := rfl
      unfold runL
      omega
    | false =>
      have := (hT.2 ho).2
      simp only [sameE, Bool.and_eq_true, decide_eq_true_eq] at this
      unfold runL
      rw [this.2]; simp [envOf, Rule_Env.zero]
  · unfold runL ruleRun
    rw [if_pos (.inl (by simpa using hr))]
    simp [copiedE, cloneP_l, envOf, Rule_Env.zero]
end Go.Proofs.Ytpchcfkebljopaa
end
section
namespace Go.Proofs.Ytpchcfkebljopaa
open Go.Cl Go Go.RowKit
def namesA (c : Int) : Bool := decide (c = 1) || decide (c = 7) || decide (c = 9) || decide (c = 2) || decide (c = 3) || decide (c = 4) || decide (c = 5) || decide (c = 6) || decide (c = 11) || decide (c = 12)
def namesB (c : Int) : Bool := decide (c = 2) || decide (c = 3) || decide (c = 4) || decide (c = 5) || decide (c = 6) || decide (c = 11) || decide (c = 12) || decide (c = 8)
def rfault (o : Api_Op) (e : Ref11_Env) (n : Int) : Int :=
  if within o.Code 1 13 = false then 4
  else if (namesA o.Code && !within o.A 0 3 || namesB o.Code && !within o.B 0 3) = true then 2
  else if (decide (o.Code = 7) && !within o.B 0 7 || decide (o.Code = 8) && !within o.A 0 3) = true then 3
  else if (decide (o.Code = 6) && decide (nth e.Body.Mem o.B.toNat = 0)) = true then 1
  else if (decide (o.Code = 11) && decide (nth e.Body.Mem o.B.toNat < 1)) = true then 6
  else if (decide (o.Code = 12) && decide (e.Room ≤ e.Shots.l.length)) = true then 7
  else if (decide (o.Code = 10) && !within o.B 0 n) = true then 4
  else if (decide (o.Code = 9) && decide (nth e.Body.Mem o.A.toNat = 0) && !within o.B 0 n) = true then 4
  else 0
def partS {α : Type} (s : Lst α) : Lst α :=
  match s.tl with
  | .own _ => ⟨.part, s.l, nofun⟩
  | _ => s
theorem partS_l {α : Type} (s : Lst α) : (partS s).l = s.l := by
  obtain ⟨tl, l, o⟩ := s; cases tl <;> rfl
def partE (e : Ref11_Env) : Rule_Env := ⟨e.Body, e.In, e.Dice, e.Room, partS e.Shots⟩
def ruleOf (e : Ref11_Env) : Rule_Env := ⟨e.Body, e.In, e.Dice, e.Room, e.Shots⟩
def envR (e : Rule_Env) : Ref11_Env := ⟨e.Body, e.In, e.Dice, e.Room, e.Shots⟩
theorem weak_partS {α : Type} {f : α → CV} (hf : ∀ x j, ¬ (f x).has j) (s : Lst α) (n : Nat) (h : s.tl = .nil ∨ ∃ j, s.tl = .own j) : CV.weak (fun k => k) n (Lst.cv f s) (Lst.cv f (partS s)) := by
  have hl : ∀ l : List α, CV.weakL (fun k => k) n (l.map f) (l.map f) := fun l => CV.weakL_refl _ fun j hj => (hasL_map hf l j hj).elim
  obtain ⟨tl, l, o⟩ := s
  rcases h with h | ⟨j, h⟩ <;> simp only at h <;> subst h <;> simp only [partS, Lst.cv, CV.weak, Tail.weak, true_and] <;> exact hl _
theorem weak_envR (e : Ref11_Env) (n : Nat) (h : e.Shots.tl = .nil ∨ ∃ j, e.Shots.tl = .own j) : CV.weak (fun k => k) n e.cv (envR (partE e)).cv := by
  have h1 : CV.weak (fun k => k) n e.Body.cv e.Body.cv := weak_self (lt_of_no (Api_Body.nohas _))
  have h2 : CV.weak (fun k => k) n e.In.cv e.In.cv := weak_self (lt_of_no (Api_Input.nohas _))
  have h3 := weak_partS Api_Body.nohas e.Shots n h
  simp only [Ref11_Env.cv, envR, partE, CV.weak, CV.weakL]
  exact ⟨h1, h2, trivial, trivial, h3, trivial⟩
theorem copiedE_nil {e : Ref11_Env} (h : e.Shots.tl = .nil) : copiedE (ruleOf e) = ruleOf e := by
  obtain ⟨b, i, d, r, tl, l, o⟩ := e
  simp only at h; subst h
  have := o rfl; subst this
  rfl
theorem partE_nil {e : Ref11_Env} (h : e.Shots.tl = .nil) : partE e = ruleOf e := by
  obtain ⟨b, i, d, r, tl, l, o⟩ := e
  simp only at h; subst h
  rfl
theorem code_cases {c : Int} (h : within c 1 13 = true) : c = 1 ∨ c = 2 ∨ c = 3 ∨ c = 4 ∨ c = 5 ∨ c = 6 ∨ c = 7 ∨ c = 8 ∨ c = 9 ∨ c = 10 ∨ c = 11 ∨ c = 12 ∨ c = 13 := by
  have := within_spec h; omega
theorem rfault_eq (o : Api_Op) (e : Ref11_Env) (l : Lst Api_Op) (a : Int) : rfault o e l.l.length = match Mach.doOp ⟨partE e, l, a⟩ o with | .error c => c | .ok _ => 0 := by
  have hr : ∀ k, Mach.reg ⟨partE e, l, a⟩ k = nth e.Body.Mem k := fun _ => rfl
  have hs : ((⟨partE e, l, a⟩ : Rule_machine).e_.Shots.l.length : Int) = e.Shots.l.length := by simp [partE, partS_l]
  have hm : (⟨partE e, l, a⟩ : Rule_machine).e_.Room = e.Room := rfl
  unfold rfault Mach.doOp
  cases hw : within o.Code 1 13 with
  | false => simp
  | true =>
    simp only [Bool.true_eq_false, if_false, hr, Mach.reckon, hs, hm]
    rcases code_cases hw with h | h | h | h | h | h | h | h | h | h | h | h | h
    all_goals simp only [h, namesA, namesB, namedOk, needA, needB]
    all_goals cases hA : within o.A 0 3 <;> cases hB : within o.B 0 3
    all_goals simp
    all_goals (repeat' split)
    all_goals first
      | rfl
      | (simp_all; done)
      | (rename_i hx _ _ hq; rw [show (partE e).Room = e.Room from rfl, if_neg (by omega)] at hq; cases hq; done)
      | (rename_i hx _ _ hq; rw [show (partE e).Room = e.Room from rfl, if_neg (by omega)] at hq; cases hq; rfl)
      | (rename_i hx _ _ hq; rw [show (partE e).Room = e.Room from rfl, if_pos (by omega)] at hq; cases hq; done)
      | (rename_i hx _ _ hq; rw [show (partE e).Room = e.Room from rfl, if_pos (by omega)] at hq; cases hq; rfl)
      | (rename_i hx _ _ hq; split at hq <;> first | (cases hq; done) | (split at hq <;> first | (cases hq; done) | (cases hq; simp_all)) | (cases hq; simp_all))
      | omega
      | trace_state
theorem doOp_code {o : Api_Op} {m : Rule_machine} {c : Int} (h : Mach.doOp m o = .error c) : c ≠ 0 := by
  have hr : ∀ c', Mach.reckon m o = .error c' → c' ≠ 0 := by
    intro c' h'
    unfold Mach.reckon at h'
    simp only at h'
    repeat' (split at h')
    all_goals first | (cases h'; done) | (cases h'; decide)
  unfold Mach.doOp at h
  repeat' (split at h)
  all_goals first | (cases h; done) | (cases h; decide) | (rename_i hq; cases h; exact hr _ hq)
theorem doOp_1 {o : Api_Op} {m m2 : Rule_machine} {n : Int} (h : Mach.doOp m o = .ok (m2, n)) (hC : o.Code = 1) : m2 = Mach.set m o.A.toNat o.B ∧ n = m.at_ + 1 := by
  have hw : within o.Code 1 13 = true := by rw [hC]; rfl
  have hw2 : within 1 1 13 = true := rfl
  unfold Mach.doOp Mach.reckon at h
  cases hn : namedOk o with
  | false => simp only [hw, hn, Bool.true_eq_false, if_true, if_false] at h; cases h
  | true =>
    simp only [hw2, hn, hC, Int.reduceEq, Bool.true_eq_false, if_true, if_false] at h
    cases h; exact ⟨rfl, rfl⟩
theorem doOp_2 {o : Api_Op} {m m2 : Rule_machine} {n : Int} (h : Mach.doOp m o = .ok (m2, n)) (hC : o.Code = 2) : m2 = Mach.set m o.A.toNat (Mach.reg m o.B.toNat) ∧ n = m.at_ + 1 := by
  have hw : within o.Code 1 13 = true := by rw [hC]; rfl
  have hw2 : within 2 1 13 = true := rfl
  unfold Mach.doOp Mach.reckon at h
  cases hn : namedOk o with
  | false => simp only [hw, hn, Bool.true_eq_false, if_true, if_false] at h; cases h
  | true =>
    simp only [hw2, hn, hC, Int.reduceEq, Bool.true_eq_false, if_true, if_false] at h
    cases h; exact ⟨rfl, rfl⟩
theorem doOp_3 {o : Api_Op} {m m2 : Rule_machine} {n : Int} (h : Mach.doOp m o = .ok (m2, n)) (hC : o.Code = 3) : m2 = Mach.set m o.A.toNat (w64 (Mach.reg m o.A.toNat + Mach.reg m o.B.toNat)) ∧ n = m.at_ + 1 := by
  have hw : within o.Code 1 13 = true := by rw [hC]; rfl
  have hw2 : within 3 1 13 = true := rfl
  unfold Mach.doOp Mach.reckon at h
  cases hn : namedOk o with
  | false => simp only [hw, hn, Bool.true_eq_false, if_true, if_false] at h; cases h
  | true =>
    simp only [hw2, hn, hC, Int.reduceEq, Bool.true_eq_false, if_true, if_false] at h
    cases h; exact ⟨rfl, rfl⟩
theorem doOp_4 {o : Api_Op} {m m2 : Rule_machine} {n : Int} (h : Mach.doOp m o = .ok (m2, n)) (hC : o.Code = 4) : m2 = Mach.set m o.A.toNat (w64 (Mach.reg m o.A.toNat - Mach.reg m o.B.toNat)) ∧ n = m.at_ + 1 := by
  have hw : within o.Code 1 13 = true := by rw [hC]; rfl
  have hw2 : within 4 1 13 = true := rfl
  unfold Mach.doOp Mach.reckon at h
  cases hn : namedOk o with
  | false => simp only [hw, hn, Bool.true_eq_false, if_true, if_false] at h; cases h
  | true =>
    simp only [hw2, hn, hC, Int.reduceEq, Bool.true_eq_false, if_true, if_false] at h
    cases h; exact ⟨rfl, rfl⟩
theorem doOp_5 {o : Api_Op} {m m2 : Rule_machine} {n : Int} (h : Mach.doOp m o = .ok (m2, n)) (hC : o.Code = 5) : m2 = Mach.set m o.A.toNat (w64 (Mach.reg m o.A.toNat * Mach.reg m o.B.toNat)) ∧ n = m.at_ + 1 := by
  have hw : within o.Code 1 13 = true := by rw [hC]; rfl
  have hw2 : within 5 1 13 = true := rfl
  unfold Mach.doOp Mach.reckon at h
  cases hn : namedOk o with
  | false => simp only [hw, hn, Bool.true_eq_false, if_true, if_false] at h; cases h
  | true =>
    simp only [hw2, hn, hC, Int.reduceEq, Bool.true_eq_false, if_true, if_false] at h
    cases h; exact ⟨rfl, rfl⟩
theorem doOp_6 {o : Api_Op} {m m2 : Rule_machine} {n : Int} (h : Mach.doOp m o = .ok (m2, n)) (hC : o.Code = 6) : Mach.reg m o.B.toNat ≠ 0 ∧ m2 = Mach.set m o.A.toNat (w64 ((Mach.reg m o.A.toNat).tdiv (Mach.reg m o.B.toNat))) ∧ n = m.at_ + 1 := by
  have hw : within o.Code 1 13 = true := by rw [hC]; rfl
  have hw2 : within 6 1 13 = true := rfl
  unfold Mach.doOp Mach.reckon at h
  cases hn : namedOk o with
  | false => simp only [hw, hn, Bool.true_eq_false, if_true, if_false] at h; cases h
  | true =>
    by_cases hz : Mach.reg m o.B.toNat = 0
    · simp only [hw2, hn, hC, hz, Int.reduceEq, Bool.true_eq_false, if_true, if_false] at h
      cases h
    · simp only [hw2, hn, hC, hz, Int.reduceEq, Bool.true_eq_false, if_true, if_false] at h
      cases h; exact ⟨hz, rfl, rfl⟩
theorem doOp_7 {o : Api_Op} {m m2 : Rule_machine} {n : Int} (h : Mach.doOp m o = .ok (m2, n)) (hC : o.Code = 7) : within o.B 0 7 = true ∧ m2 = Mach.set m o.A.toNat (Mach.field m o.B.toNat) ∧ n = m.at_ + 1 := by
  have hw : within o.Code 1 13 = true := by rw [hC]; rfl
  have hw2 : within 7 1 13 = true := rfl
  unfold Mach.doOp Mach.reckon at h
  cases hn : namedOk o with
  | false => simp only [hw, hn, Bool.true_eq_false, if_true, if_false] at h; cases h
  | true =>
    simp only [hw2, hn, hC, Int.reduceEq, Bool.true_eq_false, if_true, if_false] at h
    split at h
    · cases h
    · rename_i hq; cases h; exact ⟨by simpa using hq, rfl, rfl⟩
theorem doOp_8 {o : Api_Op} {m m2 : Rule_machine} {n : Int} (h : Mach.doOp m o = .ok (m2, n)) (hC : o.Code = 8) : within o.A 0 3 = true ∧ m2 = Mach.put m o.A (Mach.reg m o.B.toNat) ∧ n = m.at_ + 1 := by
  have hw : within o.Code 1 13 = true := by rw [hC]; rfl
  have hw2 : within 8 1 13 = true := rfl
  unfold Mach.doOp Mach.reckon at h
  cases hn : namedOk o with
  | false => simp only [hw, hn, Bool.true_eq_false, if_true, if_false] at h; cases h
  | true =>
    simp only [hw2, hn, hC, Int.reduceEq, Bool.true_eq_false, if_true, if_false] at h
    split at h
    · cases h
    · rename_i hq; cases h; exact ⟨by simpa using hq, rfl, rfl⟩
theorem doOp_9 {o : Api_Op} {m m2 : Rule_machine} {n : Int} (h : Mach.doOp m o = .ok (m2, n)) (hC : o.Code = 9) : m2 = m ∧ n = (if Mach.reg m o.A.toNat = 0 then o.B else m.at_ + 1) := by
  have hw : within o.Code 1 13 = true := by rw [hC]; rfl
  have hw2 : within 9 1 13 = true := rfl
  unfold Mach.doOp Mach.reckon at h
  cases hn : namedOk o with
  | false => simp only [hw, hn, Bool.true_eq_false, if_true, if_false] at h; cases h
  | true =>
    simp only [hw2, hn, hC, Int.reduceEq, Bool.true_eq_false, if_true, if_false] at h
    split at h
    · rename_i hz
      split at h
      · cases h
      · cases h; exact ⟨rfl, by rw [if_pos hz]⟩
    · rename_i hz; cases h; exact ⟨rfl, by rw [if_neg hz]⟩
theorem doOp_10 {o : Api_Op} {m m2 : Rule_machine} {n : Int} (h : Mach.doOp m o = .ok (m2, n)) (hC : o.Code = 10) : m2 = m ∧ n = o.B := by
  have hw : within o.Code 1 13 = true := by rw [hC]; rfl
  have hw2 : within 10 1 13 = true := rfl
  unfold Mach.doOp Mach.reckon at h
  cases hn : namedOk o with
  | false => simp only [hw, hn, Bool.true_eq_false, if_true, if_false] at h; cases h
  | true =>
    simp only [hw2, hn, hC, Int.reduceEq, Bool.true_eq_false, if_true, if_false] at h
    split at h
    · cases h
    · cases h; exact ⟨rfl, rfl⟩
theorem doOp_11 {o : Api_Op} {m m2 : Rule_machine} {n : Int} (h : Mach.doOp m o = .ok (m2, n)) (hC : o.Code = 11) : ¬ Mach.reg m o.B.toNat < 1 ∧ m2 = Mach.set { m with e_ := { m.e_ with Dice := (diceRoll m.e_.Dice (Mach.reg m o.B.toNat)).1 } } o.A.toNat (diceRoll m.e_.Dice (Mach.reg m o.B.toNat)).2 ∧ n = m.at_ + 1 := by
  have hw : within o.Code 1 13 = true := by rw [hC]; rfl
  have hw2 : within 11 1 13 = true := rfl
  unfold Mach.doOp Mach.reckon at h
  cases hn : namedOk o with
  | false => simp only [hw, hn, Bool.true_eq_false, if_true, if_false] at h; cases h
  | true =>
    by_cases hz : Mach.reg m o.B.toNat < 1
    · simp only [hw2, hn, hC, hz, Int.reduceEq, Bool.true_eq_false, if_true, if_false] at h
      cases h
    · simp only [hw2, hn, hC, hz, Int.reduceEq, Bool.true_eq_false, if_true, if_false] at h
      cases h; exact ⟨hz, rfl, rfl⟩
theorem doOp_12 {o : Api_Op} {m m2 : Rule_machine} {n : Int} (h : Mach.doOp m o = .ok (m2, n)) (hC : o.Code = 12) : m2 = { m with e_ := { m.e_ with Shots := ⟨.part, m.e_.Shots.l ++ [bodyShoot m.e_.Body (Mach.reg m o.A.toNat) (Mach.reg m o.B.toNat)], nofun⟩ } } ∧ n = m.at_ + 1 := by
  have hw : within o.Code 1 13 = true := by rw [hC]; rfl
  have hw2 : within 12 1 13 = true := rfl
  unfold Mach.doOp Mach.reckon at h
  cases hn : namedOk o with
  | false => simp only [hw, hn, Bool.true_eq_false, if_true, if_false] at h; cases h
  | true =>
    by_cases hz : (m.e_.Shots.l.length : Int) < m.e_.Room
    · simp only [hw2, hn, hC, hz, Int.reduceEq, Bool.true_eq_false, if_true, if_false] at h
      cases h; exact ⟨rfl, rfl⟩
    · simp only [hw2, hn, hC, hz, Int.reduceEq, Bool.true_eq_false, if_true, if_false] at h
      cases h
theorem doOp_13 {o : Api_Op} {m m2 : Rule_machine} {n : Int} (h : Mach.doOp m o = .ok (m2, n)) (hC : o.Code = 13) : m2 = m ∧ n = m.l_.l.length := by
  have hw : within o.Code 1 13 = true := by rw [hC]; rfl
  have hw2 : within 13 1 13 = true := rfl
  unfold Mach.doOp Mach.reckon at h
  cases hn : namedOk o with
  | false => simp only [hw, hn, Bool.true_eq_false, if_true, if_false] at h; cases h
  | true =>
    simp only [hw2, hn, hC, Int.reduceEq, Bool.true_eq_false, if_true, if_false] at h
    cases h; exact ⟨rfl, rfl⟩
theorem doOp_n {o : Api_Op} {m m2 : Rule_machine} {n : Int} (h : Mach.doOp m o = .ok (m2, n)) : namedOk o = true ∧ within o.Code 1 13 = true := by
  unfold Mach.doOp at h
  constructor
  · cases hn : namedOk o with
    | true => rfl
    | false => rw [hn] at h; simp at h; split at h <;> cases h
  · cases hn : within o.Code 1 13 with
    | true => rfl
    | false => rw [hn] at h; simp at h
def firstW {α : Type} (f : α → Bool) : List α → Nat → Int
  | [], _ => -1
  | x :: l, k => if f x = true then k else firstW f l (k + 1)
theorem firstW_any {α : Type} (f : α → Bool) : ∀ (l : List α) (k : Nat), decide (0 ≤ firstW f l k) = l.any f
  | [], k => rfl
  | x :: l, k => by
    simp only [firstW, List.any_cons]
    by_cases h : f x = true
    · simp [h]
    · have := firstW_any f l (k + 1); simp [h, ← this]
theorem drop_nth {α : Type} [Inhabited α] {l : List α} {k : Nat} (h : k < l.length) : l.drop k = nth l k :: l.drop (k + 1) := by
  rw [nth_get h]; exact List.drop_eq_getElem_cons h
def opRight (o : Api_Op) : Bool := within o.Code 1 13 && within o.A (-1000000) 1000000 && within o.B (-1000000) 1000000
def ruleRight (l : List Api_Op) : Bool := decide (l.length ≤ 16) && l.all opRight
theorem any_opRight (l : List Api_Op) : (l.any fun o => !opRight o) = !l.all opRight := by
  induction l with
  | nil => rfl
  | cons x l ih => simp [ih]
end Go.Proofs.Ytpchcfkebljopaa
end
section
-- @nole
namespace Go.Proofs.Ytpchcfkebljopaa
open Go.Cl Go Go.RowKit
set_option maxRecDepth 100000
set_option linter.constructorNameAsVariable false
def R75 : Rel := fun args p r => ∃ (b : Api_Body), args = [b.cv] ∧ r = .ret (Bo (Body.right b)) p
theorem t75 {T : XCall} (h : Has T 75 R75) (b : Api_Body) {p : Hp}  : T 75 [b.cv] p = .ret (Bo (Body.right b)) p := h _ _ _ ⟨b, rfl, rfl⟩
theorem zq75 {A B : Prop} (h : A = B := by ((try simp -dsimp (disch := first | exact zdis | fail) only [zcore, zall, zopm, zop, zcallOp, qop, qbuiltin, ofOpt, List.map, reduceCtorEq, if_true, if_false, ↓reduceIte, zbin, eqRes, qassert, qnum, qshift, qun, kindOf, allocV, List.nil_append, List.append_nil, List.cons_append, List.length_cons, List.length_nil, Nat.reduceAdd, Nat.reduceEqDiff, Nat.reduceLT, Nat.reduceSub, Nat.reduceMul, Int.reduceToNat, Int.reduceLE, Int.reduceLT, Int.reduceEq, Int.reduceNeg, Int.reduceAdd, Int.reduceSub, beq_self_eq_true, cond_true, cond_false, isConstOpd, xpanic, xconv, isBytes, qconv, List.length_map, List.map_nil, List.map_cons, concrete, Option.some.injEq, exists_eq', Option.map_some, Option.map_none, List.getElem?_cons_zero, List.getElem?_cons_succ, zw75, rs75, tt3, tt32, tt34, ti3, ti32, ti34, t_85, zs_Api_Body, zsl32, zx, hc]); rfl)) (k : B) : A := h ▸ k
theorem zno75 {P : Prop} (h : P := by intro jj; simp [CV.has, CV.hasL, fault, Trap_thrown.nohas, Api_Body.nohas]) : P := h
set_option maxHeartbeats 8000000 in
theorem c75 : Con C 75 R75 := by
  refine con_of C ?_ ?_ ?_
  · rintro args p r r' ⟨b, h, e⟩ ⟨b', h', e'⟩
    subst e; subst e'; simp_all [Api_Body.inj_iff]
  · rintro args p r ⟨b, h, rfl⟩; first | (split <;> simp; done) | (simp; done) | (simp only [resM]; split <;> simp; done) | (simp only [resD]; split <;> simp; done) 
  · rintro args p r ⟨b, rfl, rfl⟩
    refine ans_walk C false noExt (tabL C [(85, R85)]) xf75 (noExt_ok C) (tabL_ok C _) zc75_ok (Nat.le_of_ble_eq_true (by kernel_rfl)) fun hF => ?_
    have t_85 := @t85 (tabL C [(85, R85)]) (has_head C c85 [])
    generalize tabL C [(85, R85)] = call at t_85 ⊢
    show W C false noExt call zc75 (argE [b.cv]) p (endQ C _ _)
    have hm := b.hMem
    (have zx := True.intro; have hc := True.intro; refine zq75 (k := ?_); clear hc; try exact True.intro)
    repeat' ((first | refine condW_b ?_ ?_ | refine wantO_s ?_ ?_ | refine wantD_s _ _ _ _ ?_ ?_ | refine bindO_i ?_ ?_ | refine bindE_i _ _ _ _ ?_ ?_) <;> intro hc <;> (try simp only [zhd] at hc) <;> (try have hw := within_spec hc) <;> (refine zq75 (k := ?_); try exact True.intro))
    all_goals (try clear zx)
    · refine shr_keep hF zle (weak_of_eq ?_ (lt_of_no zno75))
      simp only [Body.right, hc, if_true]
      rfl
    refine ⟨5, ?_⟩
    simp only [Wn_succ]
    (have zx := True.intro; have hc := True.intro; refine zq75 (k := ?_); clear hc; try exact True.intro)
    repeat' ((first | refine condW_b ?_ ?_ | refine wantO_s ?_ ?_ | refine wantD_s _ _ _ _ ?_ ?_ | refine bindO_i ?_ ?_ | refine bindE_i _ _ _ _ ?_ ?_) <;> intro hc <;> (try simp only [zhd] at hc) <;> (try have hw := within_spec hc) <;> (refine zq75 (k := ?_); try exact True.intro))
    all_goals (try clear zx)
    all_goals (refine shr_keep hF zle (weak_of_eq ?_ (lt_of_no zno75)))
    all_goals simp [Body.right, all_nth4 hm, *]
def R152 : Rel := fun args p r => ∃ (c : Int), args = [I c] ∧ r = .ret (.tup [Bo (namesA c), Bo (namesB c)]) p
theorem t152 {T : XCall} (h : Has T 152 R152) (c : Int) {p : Hp}  : T 152 [I c] p = .ret (.tup [Bo (namesA c), Bo (namesB c)]) p := h _ _ _ ⟨c, rfl, rfl⟩
theorem zq152 {A B : Prop} (h : A = B := by ((try simp -dsimp (disch := first | exact zdis | fail) only [zcore, zall, zopm, zop, zcallOp, qop, qbuiltin, ofOpt, List.map, reduceCtorEq, if_true, if_false, ↓reduceIte, zbin, eqRes, qassert, qnum, qshift, qun, kindOf, allocV, List.nil_append, List.append_nil, List.cons_append, List.length_cons, List.length_nil, Nat.reduceAdd, Nat.reduceEqDiff, Nat.reduceLT, Nat.reduceSub, Nat.reduceMul, Int.reduceToNat, Int.reduceLE, Int.reduceLT, Int.reduceEq, Int.reduceNeg, Int.reduceAdd, Int.reduceSub, beq_self_eq_true, cond_true, cond_false, isConstOpd, xpanic, xconv, isBytes, qconv, List.length_map, List.map_nil, List.map_cons, concrete, Option.some.injEq, exists_eq', Option.map_some, Option.map_none, List.getElem?_cons_zero, List.getElem?_cons_succ, zw152, rs152, tt3, ti3, zx, hc]); rfl)) (k : B) : A := h ▸ k
theorem zno152 {P : Prop} (h : P := by intro jj; simp [CV.has, CV.hasL, fault, Trap_thrown.nohas]) : P := h
set_option maxHeartbeats 8000000 in
theorem c152 : Con C 152 R152 := by
  refine con_of C ?_ ?_ ?_
  · rintro args p r r' ⟨c, h, e⟩ ⟨c', h', e'⟩
    subst e; subst e'; simp_all
  · rintro args p r ⟨c, h, rfl⟩; first | (split <;> simp; done) | (simp; done) | (simp only [resM]; split <;> simp; done) | (simp only [resD]; split <;> simp; done) 
  · rintro args p r ⟨c, rfl, rfl⟩
    refine ans_walk C false noExt (tabL C []) xf152 (noExt_ok C) (tabL_ok C _) zc152_ok (Nat.le_of_ble_eq_true (by kernel_rfl)) fun hF => ?_
    generalize tabL C [] = call
    show W C false noExt call zc152 (argE [I c]) p (endQ C _ _)
    (have zx := True.intro; have hc := True.intro; refine zq152 (k := ?_); clear hc; try exact True.intro)
    repeat' ((first | refine condW_b ?_ ?_ | refine wantO_s ?_ ?_ | refine wantD_s _ _ _ _ ?_ ?_ | refine bindO_i ?_ ?_ | refine bindE_i _ _ _ _ ?_ ?_) <;> intro hc <;> (try simp only [zhd] at hc) <;> (try have hw := within_spec hc) <;> (refine zq152 (k := ?_); try exact True.intro))
    all_goals (try clear zx)
    all_goals (refine shr_keep hF zle (weak_of_eq ?_ (lt_of_no zno152)))
    all_goals simp [namesA, namesB, *]
def R153 : Rel := fun args p r => ∃ (n : Int), args = [I n] ∧ r = .ret (Bo (within n 0 3)) p
theorem t153 {T : XCall} (h : Has T 153 R153) (n : Int) {p : Hp}  : T 153 [I n] p = .ret (Bo (within n 0 3)) p := h _ _ _ ⟨n, rfl, rfl⟩
theorem zq153 {A B : Prop} (h : A = B := by ((try simp -dsimp (disch := first | exact zdis | fail) only [zcore, zall, zopm, zop, zcallOp, qop, qbuiltin, ofOpt, List.map, reduceCtorEq, if_true, if_false, ↓reduceIte, zbin, eqRes, qassert, qnum, qshift, qun, kindOf, allocV, List.nil_append, List.append_nil, List.cons_append, List.length_cons, List.length_nil, Nat.reduceAdd, Nat.reduceEqDiff, Nat.reduceLT, Nat.reduceSub, Nat.reduceMul, Int.reduceToNat, Int.reduceLE, Int.reduceLT, Int.reduceEq, Int.reduceNeg, Int.reduceAdd, Int.reduceSub, beq_self_eq_true, cond_true, cond_false, isConstOpd, xpanic, xconv, isBytes, qconv, List.length_map, List.map_nil, List.map_cons, concrete, Option.some.injEq, exists_eq', Option.map_some, Option.map_none, List.getElem?_cons_zero, List.getElem?_cons_succ, zw153, rs153, t_85, zx, hc]); rfl)) (k : B) : A := h ▸ k
theorem zno153 {P : Prop} (h : P := by intro jj; simp [CV.has, CV.hasL, fault, Trap_thrown.nohas]) : P := h
set_option maxHeartbeats 8000000 in
theorem c153 : Con C 153 R153 := by
  refine con_of C ?_ ?_ ?_
  · rintro args p r r' ⟨n, h, e⟩ ⟨n', h', e'⟩
    subst e; subst e'; simp_all
  · rintro args p r ⟨n, h, rfl⟩; first | (split <;> simp; done) | (simp; done) | (simp only [resM]; split <;> simp; done) | (simp only [resD]; split <;> simp; done) 
  · rintro args p r ⟨n, rfl, rfl⟩
    refine ans_walk C false noExt (tabL C [(85, R85)]) xf153 (noExt_ok C) (tabL_ok C _) zc153_ok (Nat.le_of_ble_eq_true (by kernel_rfl)) fun hF => ?_
    have t_85 := @t85 (tabL C [(85, R85)]) (has_head C c85 [])
    generalize tabL C [(85, R85)] = call at t_85 ⊢
    show W C false noExt call zc153 (argE [I n]) p (endQ C _ _)
    (have zx := True.intro; have hc := True.intro; refine zq153 (k := ?_); clear hc; try exact True.intro)
    repeat' ((first | refine condW_b ?_ ?_ | refine wantO_s ?_ ?_ | refine wantD_s _ _ _ _ ?_ ?_ | refine bindO_i ?_ ?_ | refine bindE_i _ _ _ _ ?_ ?_) <;> intro hc <;> (try simp only [zhd] at hc) <;> (try have hw := within_spec hc) <;> (refine zq153 (k := ?_); try exact True.intro))
    all_goals (try clear zx)
    exact shr_keep hF zle (weak_of_eq rfl (lt_of_no zno153))
def R154 : Rel := fun args p r => ∃ (d : Int), args = [U d] ∧ r = .ret (.tup [U (diceNext d), I (diceNum (diceNext d))]) p
theorem t154 {T : XCall} (h : Has T 154 R154) (d : Int) {p : Hp}  : T 154 [U d] p = .ret (.tup [U (diceNext d), I (diceNum (diceNext d))]) p := h _ _ _ ⟨d, rfl, rfl⟩
theorem zq154 {A B : Prop} (h : A = B := by ((try simp -dsimp (disch := first | exact zdis | fail) only [zcore, zall, zopm, zop, zcallOp, qop, qbuiltin, ofOpt, List.map, reduceCtorEq, if_true, if_false, ↓reduceIte, zbin, eqRes, qassert, qnum, qshift, qun, kindOf, allocV, List.nil_append, List.append_nil, List.cons_append, List.length_cons, List.length_nil, Nat.reduceAdd, Nat.reduceEqDiff, Nat.reduceLT, Nat.reduceSub, Nat.reduceMul, Int.reduceToNat, Int.reduceLE, Int.reduceLT, Int.reduceEq, Int.reduceNeg, Int.reduceAdd, Int.reduceSub, beq_self_eq_true, cond_true, cond_false, isConstOpd, xpanic, xconv, isBytes, qconv, List.length_map, List.map_nil, List.map_cons, concrete, Option.some.injEq, exists_eq', Option.map_some, Option.map_none, List.getElem?_cons_zero, List.getElem?_cons_succ, zw154, rs154, tt3, tt25, tt178, ti3, ti25, ti178, zx, hc]); rfl)) (k : B) : A := h ▸ k
theorem zno154 {P : Prop} (h : P := by intro jj; simp [CV.has, CV.hasL, fault, Trap_thrown.nohas]) : P := h
set_option maxHeartbeats 8000000 in
theorem c154 : Con C 154 R154 := by
  refine con_of C ?_ ?_ ?_
  · rintro args p r r' ⟨d, h, e⟩ ⟨d', h', e'⟩
    subst e; subst e'; simp_all
  · rintro args p r ⟨d, h, rfl⟩; first | (split <;> simp; done) | (simp; done) | (simp only [resM]; split <;> simp; done) | (simp only [resD]; split <;> simp; done) 
  · rintro args p r ⟨d, rfl, rfl⟩
    refine ans_walk C false noExt (tabL C []) xf154 (noExt_ok C) (tabL_ok C _) zc154_ok (Nat.le_of_ble_eq_true (by kernel_rfl)) fun hF => ?_
    generalize tabL C [] = call
    show W C false noExt call zc154 (argE [U d]) p (endQ C _ _)
    (have zx := True.intro; have hc := True.intro; refine zq154 (k := ?_); clear hc; try exact True.intro)
    repeat' ((first | refine condW_b ?_ ?_ | refine wantO_s ?_ ?_ | refine wantD_s _ _ _ _ ?_ ?_ | refine bindO_i ?_ ?_ | refine bindE_i _ _ _ _ ?_ ?_) <;> intro hc <;> (try simp only [zhd] at hc) <;> (try have hw := within_spec hc) <;> (refine zq154 (k := ?_); try exact True.intro))
    all_goals (try clear zx)
    exact shr_keep hF zle (weak_of_eq rfl (lt_of_no zno154))
def R78 : Rel := fun args p r => ∃ (d n : Int), args = [U d, I n] ∧ r = .ret (.tup [U (diceRoll d n).1, I (diceRoll d n).2]) p
theorem t78 {T : XCall} (h : Has T 78 R78) (d n : Int) {p : Hp}  : T 78 [U d, I n] p = .ret (.tup [U (diceRoll d n).1, I (diceRoll d n).2]) p := h _ _ _ ⟨d, n, rfl, rfl⟩
theorem zq78 {A B : Prop} (h : A = B := by ((try simp -dsimp (disch := first | exact zdis | fail) only [zcore, zall, zopm, zop, zcallOp, qop, qbuiltin, ofOpt, List.map, reduceCtorEq, if_true, if_false, ↓reduceIte, zbin, eqRes, qassert, qnum, qshift, qun, kindOf, allocV, List.nil_append, List.append_nil, List.cons_append, List.length_cons, List.length_nil, Nat.reduceAdd, Nat.reduceEqDiff, Nat.reduceLT, Nat.reduceSub, Nat.reduceMul, Int.reduceToNat, Int.reduceLE, Int.reduceLT, Int.reduceEq, Int.reduceNeg, Int.reduceAdd, Int.reduceSub, beq_self_eq_true, cond_true, cond_false, isConstOpd, xpanic, xconv, isBytes, qconv, List.length_map, List.map_nil, List.map_cons, concrete, Option.some.injEq, exists_eq', Option.map_some, Option.map_none, List.getElem?_cons_zero, List.getElem?_cons_succ, zw78, rs78, tt3, ti3, t_154, zx, hc]); rfl)) (k : B) : A := h ▸ k
theorem zno78 {P : Prop} (h : P := by intro jj; simp [CV.has, CV.hasL, fault, Trap_thrown.nohas]) : P := h
set_option maxHeartbeats 8000000 in
theorem c78 : Con C 78 R78 := by
  refine con_of C ?_ ?_ ?_
  · rintro args p r r' ⟨d, n, h, e⟩ ⟨d', n', h', e'⟩
    subst e; subst e'; simp_all
  · rintro args p r ⟨d, n, h, rfl⟩; first | (split <;> simp; done) | (simp; done) | (simp only [resM]; split <;> simp; done) | (simp only [resD]; split <;> simp; done) 
  · rintro args p r ⟨d, n, rfl, rfl⟩
    refine ans_walk C false noExt (tabL C [(154, R154)]) xf78 (noExt_ok C) (tabL_ok C _) zc78_ok (Nat.le_of_ble_eq_true (by kernel_rfl)) fun hF => ?_
    have t_154 := @t154 (tabL C [(154, R154)]) (has_head C c154 [])
    generalize tabL C [(154, R154)] = call at t_154 ⊢
    show W C false noExt call zc78 (argE [U d, I n]) p (endQ C _ _)
    (have zx := True.intro; have hc := True.intro; refine zq78 (k := ?_); clear hc; try exact True.intro)
    repeat' ((first | refine condW_b ?_ ?_ | refine wantO_s ?_ ?_ | refine wantD_s _ _ _ _ ?_ ?_ | refine bindO_i ?_ ?_ | refine bindE_i _ _ _ _ ?_ ?_) <;> intro hc <;> (try simp only [zhd] at hc) <;> (try have hw := within_spec hc) <;> (refine zq78 (k := ?_); try exact True.intro))
    all_goals (try clear zx)
    all_goals refine shr_keep hF zle (weak_of_eq ?_ (lt_of_no zno78))
    all_goals simp [diceRoll, hc]
def R79 : Rel := fun args p r => ∃ (o : Api_Op) (e : Ref11_Env), args = [o.cv, e.cv] ∧ (0 ≤ o.B ∧ o.B < 4) ∧ r = .ret (I (nth e.Body.Mem o.B.toNat)) p
theorem t79 {T : XCall} (h : Has T 79 R79) (o : Api_Op) (e : Ref11_Env) {p : Hp} (h1 : 0 ≤ o.B ∧ o.B < 4) : T 79 [o.cv, e.cv] p = .ret (I (nth e.Body.Mem o.B.toNat)) p := h _ _ _ ⟨o, e, rfl, h1, rfl⟩
theorem zq79 {A B : Prop} (h : A = B := by ((try simp -dsimp (disch := first | exact zdis | fail) only [zcore, zall, zopm, zop, zcallOp, qop, qbuiltin, ofOpt, List.map, reduceCtorEq, if_true, if_false, ↓reduceIte, zbin, eqRes, qassert, qnum, qshift, qun, kindOf, allocV, List.nil_append, List.append_nil, List.cons_append, List.length_cons, List.length_nil, Nat.reduceAdd, Nat.reduceEqDiff, Nat.reduceLT, Nat.reduceSub, Nat.reduceMul, Int.reduceToNat, Int.reduceLE, Int.reduceLT, Int.reduceEq, Int.reduceNeg, Int.reduceAdd, Int.reduceSub, beq_self_eq_true, cond_true, cond_false, isConstOpd, xpanic, xconv, isBytes, qconv, List.length_map, List.map_nil, List.map_cons, concrete, Option.some.injEq, exists_eq', Option.map_some, Option.map_none, List.getElem?_cons_zero, List.getElem?_cons_succ, zw79, rs79, tt3, tt29, tt32, tt34, tt51, ti3, ti29, ti32, ti34, ti51, zs_Api_Op, zs_Ref11_Env, zs_Api_Body, zsl32, h1, zx, hc]); rfl)) (k : B) : A := h ▸ k
theorem zno79 {P : Prop} (h : P := by intro jj; simp [CV.has, CV.hasL, fault, Trap_thrown.nohas, Api_Op.nohas, Api_Body.nohas]) : P := h
set_option maxHeartbeats 8000000 in
theorem c79 : Con C 79 R79 := by
  refine con_of C ?_ ?_ ?_
  · rintro args p r r' ⟨o, e, h, h1, e⟩ ⟨o', e', h', h1', e'⟩
    subst e; subst e'; simp_all [Api_Op.inj_iff, Ref11_Env.inj_iff, Api_Body.inj_iff]
  · rintro args p r ⟨o, e, h, h1, rfl⟩; first | (split <;> simp; done) | (simp; done) | (simp only [resM]; split <;> simp; done) | (simp only [resD]; split <;> simp; done) 
  · rintro args p r ⟨o, e, rfl, h1, rfl⟩
    refine ans_walk C false noExt (tabL C []) xf79 (noExt_ok C) (tabL_ok C _) zc79_ok (Nat.le_of_ble_eq_true (by kernel_rfl)) fun hF => ?_
    generalize tabL C [] = call
    show W C false noExt call zc79 (argE [o.cv, e.cv]) p (endQ C _ _)
    have hm := e.Body.hMem
    (have zx := True.intro; have hc := True.intro; refine zq79 (k := ?_); clear hc; try exact True.intro)
    repeat' ((first | refine condW_b ?_ ?_ | refine wantO_s ?_ ?_ | refine wantD_s _ _ _ _ ?_ ?_ | refine bindO_i ?_ ?_ | refine bindE_i _ _ _ _ ?_ ?_) <;> intro hc <;> (try simp only [zhd] at hc) <;> (try have hw := within_spec hc) <;> (refine zq79 (k := ?_); try exact True.intro))
    all_goals (try clear zx)
    exact shr_keep hF zle (weak_of_eq rfl (lt_of_no zno79))
theorem qbuild_ar (C : Ctx) {t n w : Nat} {e : TypeId} {shs : List Shape} {b : Nat} {z : List CV} {parts : List (Nat × CV)} {v : CV} (ht : C.tt t = some ⟨.ar n e w, .n shs, b, .agg z⟩) (hp : partsOk shs parts = true) (hv : .agg (setAll z parts) = v) : qbuild C t parts = some v := by
  simp only [qbuild, ht, hp, if_true, hv]
theorem bld64 (a0 a1 a2 a3 a4 a5 a6 a7 : Int) : qbuild C 64 [(0, I a0), (1, I a1), (2, I a2), (3, I a3), (4, I a4), (5, I a5), (6, I a6), (7, I a7)] = some (.agg ([a0, a1, a2, a3, a4, a5, a6, a7].map I)) := qbuild_ar C tt64 (by simp [partsOk, CV.shape, sh3, List.replicate]) rfl
theorem idx64 (a0 a1 a2 a3 a4 a5 a6 a7 n : Int) (hn : 0 ≤ n ∧ n < 8) : qindex C 64 (.agg [I a0, I a1, I a2, I a3, I a4, I a5, I a6, I a7]) (I n) = some (I (nth [a0, a1, a2, a3, a4, a5, a6, a7] n.toNat)) := zsl64 [a0, a1, a2, a3, a4, a5, a6, a7] n rfl hn
def R77 : Rel := fun args p r => ∃ (e : Ref11_Env) (n : Int), args = [e.cv, I n] ∧ (0 ≤ n ∧ n < 8) ∧ r = .ret (I (nth [e.Body.X, e.Body.Y, e.Body.VX, e.Body.VY, e.Body.Age, e.In.Buttons, e.In.X, e.In.Y] n.toNat)) p
theorem t77 {T : XCall} (h : Has T 77 R77) (e : Ref11_Env) (n : Int) {p : Hp} (h1 : 0 ≤ n ∧ n < 8) : T 77 [e.cv, I n] p = .ret (I (nth [e.Body.X, e.Body.Y, e.Body.VX, e.Body.VY, e.Body.Age, e.In.Buttons, e.In.X, e.In.Y] n.toNat)) p := h _ _ _ ⟨e, n, rfl, h1, rfl⟩
theorem zq77 {A B : Prop} (h : A = B := by ((try simp -dsimp (disch := first | exact zdis | fail) only [zcore, zall, zopm, zop, zcallOp, qop, qbuiltin, ofOpt, List.map, reduceCtorEq, if_true, if_false, ↓reduceIte, zbin, eqRes, qassert, qnum, qshift, qun, kindOf, allocV, List.nil_append, List.append_nil, List.cons_append, List.length_cons, List.length_nil, Nat.reduceAdd, Nat.reduceEqDiff, Nat.reduceLT, Nat.reduceSub, Nat.reduceMul, Int.reduceToNat, Int.reduceLE, Int.reduceLT, Int.reduceEq, Int.reduceNeg, Int.reduceAdd, Int.reduceSub, beq_self_eq_true, cond_true, cond_false, isConstOpd, xpanic, xconv, isBytes, qconv, List.length_map, List.map_nil, List.map_cons, concrete, Option.some.injEq, exists_eq', Option.map_some, Option.map_none, List.getElem?_cons_zero, List.getElem?_cons_succ, zw77, rs77, tt3, tt34, tt36, tt51, tt64, ti3, ti34, ti36, ti51, ti64, zs_Api_Input, zs_Ref11_Env, zs_Api_Body, zsl64, bld64, idx64, h1, zx, hc]); rfl)) (k : B) : A := h ▸ k
theorem zno77 {P : Prop} (h : P := by intro jj; simp [CV.has, CV.hasL, fault, Trap_thrown.nohas, Api_Input.nohas, Api_Body.nohas]) : P := h
set_option maxHeartbeats 8000000 in
theorem c77 : Con C 77 R77 := by
  refine con_of C ?_ ?_ ?_
  · rintro args p r r' ⟨e, n, h, h1, e⟩ ⟨e', n', h', h1', e'⟩
    subst e; subst e'; simp_all [Api_Input.inj_iff, Ref11_Env.inj_iff, Api_Body.inj_iff]
  · rintro args p r ⟨e, n, h, h1, rfl⟩; first | (split <;> simp; done) | (simp; done) | (simp only [resM]; split <;> simp; done) | (simp only [resD]; split <;> simp; done) 
  · rintro args p r ⟨e, n, rfl, h1, rfl⟩
    refine ans_walk C false noExt (tabL C []) xf77 (noExt_ok C) (tabL_ok C _) zc77_ok (Nat.le_of_ble_eq_true (by kernel_rfl)) fun hF => ?_
    generalize tabL C [] = call
    show W C false noExt call zc77 (argE [e.cv, I n]) p (endQ C _ _)
    (have zx := True.intro; have hc := True.intro; refine zq77 (k := ?_); clear hc; try exact True.intro)
    repeat' ((first | refine condW_b ?_ ?_ | refine wantO_s ?_ ?_ | refine wantD_s _ _ _ _ ?_ ?_ | refine bindO_i ?_ ?_ | refine bindE_i _ _ _ _ ?_ ?_) <;> intro hc <;> (try simp only [zhd] at hc) <;> (try have hw := within_spec hc) <;> (refine zq77 (k := ?_); try exact True.intro))
    all_goals (try clear zx)
    exact shr_keep hF zle (weak_of_eq rfl (lt_of_no zno77))
def R81 : Rel := fun args p r => ∃ (b : Api_Body) (x y : Int), args = [b.cv, I x, I y] ∧ r = .ret (bodyShoot b x y).cv p
theorem t81 {T : XCall} (h : Has T 81 R81) (b : Api_Body) (x y : Int) {p : Hp}  : T 81 [b.cv, I x, I y] p = .ret (bodyShoot b x y).cv p := h _ _ _ ⟨b, x, y, rfl, rfl⟩
theorem zq81 {A B : Prop} (h : A = B := by ((try simp -dsimp (disch := first | exact zdis | fail) only [zcore, zall, zopm, zop, zcallOp, qop, qbuiltin, ofOpt, List.map, reduceCtorEq, if_true, if_false, ↓reduceIte, zbin, eqRes, qassert, qnum, qshift, qun, kindOf, allocV, List.nil_append, List.append_nil, List.cons_append, List.length_cons, List.length_nil, Nat.reduceAdd, Nat.reduceEqDiff, Nat.reduceLT, Nat.reduceSub, Nat.reduceMul, Int.reduceToNat, Int.reduceLE, Int.reduceLT, Int.reduceEq, Int.reduceNeg, Int.reduceAdd, Int.reduceSub, beq_self_eq_true, cond_true, cond_false, isConstOpd, xpanic, xconv, isBytes, qconv, List.length_map, List.map_nil, List.map_cons, concrete, Option.some.injEq, exists_eq', Option.map_some, Option.map_none, List.getElem?_cons_zero, List.getElem?_cons_succ, zw81, rs81, tt3, tt34, ti3, ti34, t_75, t_80, zs_Api_Body, zx, hc]); rfl)) (k : B) : A := h ▸ k
theorem zno81 {P : Prop} (h : P := by intro jj; simp [CV.has, CV.hasL, fault, Trap_thrown.nohas, Api_Body.nohas]) : P := h
set_option maxHeartbeats 8000000 in
theorem c81 : Con C 81 R81 := by
  refine con_of C ?_ ?_ ?_
  · rintro args p r r' ⟨b, x, y, h, e⟩ ⟨b', x', y', h', e'⟩
    subst e; subst e'; simp_all [Api_Body.inj_iff]
  · rintro args p r ⟨b, x, y, h, rfl⟩; first | (split <;> simp; done) | (simp; done) | (simp only [resM]; split <;> simp; done) | (simp only [resD]; split <;> simp; done) 
  · rintro args p r ⟨b, x, y, rfl, rfl⟩
    refine ans_walk C false noExt (tabL C [(75, R75), (80, R80)]) xf81 (noExt_ok C) (tabL_ok C _) zc81_ok (Nat.le_of_ble_eq_true (by kernel_rfl)) fun hF => ?_
    have t_75 := @t75 (tabL C [(75, R75), (80, R80)]) (has_head C c75 [(80, R80)])
    have t_80 := @t80 (tabL C [(75, R75), (80, R80)]) (has_tail C _ rfl (has_head C c80 []))
    generalize tabL C [(75, R75), (80, R80)] = call at t_75 t_80 ⊢
    show W C false noExt call zc81 (argE [b.cv, I x, I y]) p (endQ C _ _)
    (have zx := True.intro; have hc := True.intro; refine zq81 (k := ?_); clear hc; try exact True.intro)
    repeat' ((first | refine condW_b ?_ ?_ | refine wantO_s ?_ ?_ | refine wantD_s _ _ _ _ ?_ ?_ | refine bindO_i ?_ ?_ | refine bindE_i _ _ _ _ ?_ ?_) <;> intro hc <;> (try simp only [zhd] at hc) <;> (try have hw := within_spec hc) <;> (refine zq81 (k := ?_); try exact True.intro))
    all_goals (try clear zx)
    all_goals refine shr_keep hF zle (weak_of_eq ?_ (lt_of_no zno81))
    all_goals simp [bodyShoot, Api_Body.zero, *]
def R76 : Rel := fun args p r => ∃ (o : Api_Op) (e : Ref11_Env) (n : Int), args = [o.cv, e.cv, I n] ∧ r = .ret (I (rfault o e n)) p
theorem t76 {T : XCall} (h : Has T 76 R76) (o : Api_Op) (e : Ref11_Env) (n : Int) {p : Hp}  : T 76 [o.cv, e.cv, I n] p = .ret (I (rfault o e n)) p := h _ _ _ ⟨o, e, n, rfl, rfl⟩
theorem zq76 {A B : Prop} (h : A = B := by ((try simp -dsimp (disch := first | exact zdis | fail) only [zcore, zall, zopm, zop, zcallOp, qop, qbuiltin, ofOpt, List.map, reduceCtorEq, if_true, if_false, ↓reduceIte, zbin, eqRes, qassert, qnum, qshift, qun, kindOf, allocV, List.nil_append, List.append_nil, List.cons_append, List.length_cons, List.length_nil, Nat.reduceAdd, Nat.reduceEqDiff, Nat.reduceLT, Nat.reduceSub, Nat.reduceMul, Int.reduceToNat, Int.reduceLE, Int.reduceLT, Int.reduceEq, Int.reduceNeg, Int.reduceAdd, Int.reduceSub, beq_self_eq_true, cond_true, cond_false, isConstOpd, xpanic, xconv, isBytes, qconv, List.length_map, List.map_nil, List.map_cons, concrete, Option.some.injEq, exists_eq', Option.map_some, Option.map_none, List.getElem?_cons_zero, List.getElem?_cons_succ, zw76, rs76, tt3, tt29, tt32, tt34, tt37, tt51, ti3, ti29, ti32, ti34, ti37, ti51, t_152, t_153, t_85, t_79, zs_Api_Op, zs_Ref11_Env, zs_Api_Body, zsl32, zsl37, namesA, namesB, Bool.or_false, Bool.false_or, Bool.or_true, Bool.true_or, zx, hc]); rfl)) (k : B) : A := h ▸ k
theorem zno76 {P : Prop} (h : P := by intro jj; simp [CV.has, CV.hasL, fault, Trap_thrown.nohas, Api_Op.nohas, Api_Body.nohas]) : P := h
set_option maxHeartbeats 8000000 in
theorem c76 : Con C 76 R76 := by
  refine con_of C ?_ ?_ ?_
  · rintro args p r r' ⟨o, e, n, h, e⟩ ⟨o', e', n', h', e'⟩
    subst e; subst e'; simp_all [Api_Op.inj_iff, Ref11_Env.inj_iff, Api_Body.inj_iff, sl_inj37]
  · rintro args p r ⟨o, e, n, h, rfl⟩; first | (split <;> simp; done) | (simp; done) | (simp only [resM]; split <;> simp; done) | (simp only [resD]; split <;> simp; done) 
  · rintro args p r ⟨o, e, n, rfl, rfl⟩
    refine ans_walk C false noExt (tabL C [(152, R152), (153, R153), (85, R85), (79, R79)]) xf76 (noExt_ok C) (tabL_ok C _) zc76_ok (Nat.le_of_ble_eq_true (by kernel_rfl)) fun hF => ?_
    have t_152 := @t152 (tabL C [(152, R152), (153, R153), (85, R85), (79, R79)]) (has_head C c152 [(153, R153), (85, R85), (79, R79)])
    have t_153 := @t153 (tabL C [(152, R152), (153, R153), (85, R85), (79, R79)]) (has_tail C _ rfl (has_head C c153 [(85, R85), (79, R79)]))
    have t_85 := @t85 (tabL C [(152, R152), (153, R153), (85, R85), (79, R79)]) (has_tail C _ rfl (has_tail C _ rfl (has_head C c85 [(79, R79)])))
    have t_79 := @t79 (tabL C [(152, R152), (153, R153), (85, R85), (79, R79)]) (has_tail C _ rfl (has_tail C _ rfl (has_tail C _ rfl (has_head C c79 []))))
    generalize tabL C [(152, R152), (153, R153), (85, R85), (79, R79)] = call at t_152 t_153 t_85 t_79 ⊢
    show W C false noExt call zc76 (argE [o.cv, e.cv, I n]) p (endQ C _ _)
    have hm := e.Body.hMem
    cases hw : within o.Code 1 13 with
    | false =>
      (have zx := hw; have hc := True.intro; refine zq76 (k := ?_); clear hc; try exact True.intro)
      repeat' ((first | refine condW_b ?_ ?_ | refine wantO_s ?_ ?_ | refine wantD_s _ _ _ _ ?_ ?_ | refine bindO_i ?_ ?_ | refine bindE_i _ _ _ _ ?_ ?_) <;> intro hc <;> (try simp only [zhd] at hc) <;> (try have hw := within_spec hc) <;> (refine zq76 (k := ?_); try exact True.intro))
      all_goals (try clear zx)
      all_goals refine shr_keep hF zle (weak_of_eq ?_ (lt_of_no zno76))
      all_goals simp [rfault, hw]
    | true =>
      rcases code_cases hw with hC | hC | hC | hC | hC | hC | hC | hC | hC | hC | hC | hC | hC
      all_goals have hw2 := hw
      all_goals rw [hC] at hw2
      all_goals cases hA : within o.A 0 3 <;> cases hB : within o.B 0 3
      all_goals (try have hA' := within_spec hA)
      all_goals (try have hB' := within_spec hB)
      all_goals (have zx := And.intro hC (And.intro hw2 (And.intro hA hB)); have hc := True.intro; refine zq76 (k := ?_); clear hc; try exact True.intro)
      repeat' ((first | refine condW_b ?_ ?_ | refine wantO_s ?_ ?_ | refine wantD_s _ _ _ _ ?_ ?_ | refine bindO_i ?_ ?_ | refine bindE_i _ _ _ _ ?_ ?_) <;> intro hc <;> (try simp only [zhd] at hc) <;> (try have hw := within_spec hc) <;> (refine zq76 (k := ?_); try exact True.intro))
      all_goals (try clear zx)
      all_goals refine shr_keep hF zle (weak_of_eq ?_ (lt_of_no zno76))
      all_goals simp [rfault, namesA, namesB, *]
end Go.Proofs.Ytpchcfkebljopaa
end
section
namespace Go.Proofs.Ytpchcfkebljopaa
open Go.Cl Go Go.RowKit
theorem x32_alloc (p : Hp) : xalloc C p 32 = .ret (.ptr p.n []) (p.new (.var sh32 (.agg ((List.replicate 4 (0 : Int)).map I)))) := by simp only [Cl.xalloc, tt32, ti32, z32, z3, List.map_replicate]
theorem s32_sub : subEq sh32 [] sh32 = true := by simp [subEq, Shape.sub]
theorem s32_subk (k : Nat) (q : List Nat) (z : Shape) : subEq sh32 (k :: q) z = (decide (k < 4) && subEq sh3 q z) := sub_rep 4 k q sh3 z
theorem s32_ok (l : List Int) (h : l.length = 4) : shOk (.agg (l.map I)) sh32 = true := shOk_n (sh := sh32) (by simp only [CV.shape, shapes_map (f := I) (s := Shape.s) (fun _ => rfl), h, sh32]) rfl
theorem s32_at (l : List Int) (h : l.length = 4) (k : Nat) (q : List Nat) (hk : k < 4) : (CV.agg (l.map I)).at (k :: q) = (I (nth l k)).at q := arr_at _ (by rw [h]; exact hk) q
end Go.Proofs.Ytpchcfkebljopaa
end
section
-- @nole
namespace Go.Proofs.Ytpchcfkebljopaa
open Go.Cl Go Go.RowKit
set_option maxRecDepth 100000
set_option linter.constructorNameAsVariable false
def J28 (l : Lst Api_Op) (e : Ref11_Env) (p : Hp) (k : Nat) (ρ : Env) (q : Hp) : Prop :=
  ∃ (er : Ref11_Env) (a : Int), ρ 0 = l.cv Api_Op.cv ∧ ρ 3 = .ptr p.n [] ∧ ρ 4 = .ptr (p.n + 1) [] ∧ ρ 8 = .ptr (p.n + 2) [] ∧ ρ 9 = I a ∧ ρ 10 = I (64 - k) ∧ k ≤ 64 ∧ q.t.get p.n = some (.var sh51 er.cv) ∧ q.t.get (p.n + 1) = some (.var sh51 Ref11_Env.zero.cv) ∧ q.t.get (p.n + 2) = some (.var sh51 e.cv) ∧ Mach.run k ⟨partE er, l, a⟩ = Mach.run 64 ⟨ruleOf e, l, 0⟩ ∧ 0 ≤ a ∧ a ≤ l.l.length ∧ er.Shots.l.length ≤ 64 - k ∧ (er.Shots.tl = .nil ∨ ∃ j, er.Shots.tl = .own j) ∧ p.n + 2 < q.n ∧ HpLe p q
theorem own_nil {α : Type} {s : Lst α} (h : s.tl = .nil) : s.l = [] := s.ok h
def R28 : Rel := fun args p r => ∃ (l : Lst Api_Op) (e : Ref11_Env), args = [l.cv Api_Op.cv, e.cv] ∧ (l.l.length ≤ 100000) ∧ (e.Shots.tl = .nil) ∧ r = .ret (.tup [(envR (ruleRun l (ruleOf e)).1).cv, I (ruleRun l (ruleOf e)).2.1.Code, I (ruleRun l (ruleOf e)).2.1.At, Bo (ruleRun l (ruleOf e)).2.2]) p
theorem t28 {T : XCall} (h : Has T 28 R28) (l : Lst Api_Op) (e : Ref11_Env) {p : Hp} (hl : l.l.length ≤ 100000) (h1 : e.Shots.tl = .nil) : T 28 [l.cv Api_Op.cv, e.cv] p = .ret (.tup [(envR (ruleRun l (ruleOf e)).1).cv, I (ruleRun l (ruleOf e)).2.1.Code, I (ruleRun l (ruleOf e)).2.1.At, Bo (ruleRun l (ruleOf e)).2.2]) p := h _ _ _ ⟨l, e, rfl, hl, h1, rfl⟩
theorem zq28 {A B : Prop} (h : A = B := by ((try simp -dsimp (disch := first | exact zdis | fail) only [zcore, zall, zopm, zop, zcallOp, qop, qbuiltin, ofOpt, List.map, reduceCtorEq, if_true, if_false, ↓reduceIte, zbin, eqRes, qassert, qnum, qshift, qun, kindOf, allocV, List.nil_append, List.append_nil, List.cons_append, List.length_cons, List.length_nil, Nat.reduceAdd, Nat.reduceEqDiff, Nat.reduceLT, Nat.reduceSub, Nat.reduceMul, Int.reduceToNat, Int.reduceLE, Int.reduceLT, Int.reduceEq, Int.reduceNeg, Int.reduceAdd, Int.reduceSub, beq_self_eq_true, cond_true, cond_false, isConstOpd, xpanic, xconv, isBytes, qconv, List.length_map, List.map_nil, List.map_cons, concrete, Option.some.injEq, exists_eq', Option.map_some, Option.map_none, List.getElem?_cons_zero, List.getElem?_cons_succ, zw28, rs28, tt3, tt23, tt25, tt29, tt32, tt34, tt37, tt51, ti3, ti23, ti25, ti29, ti32, ti34, ti37, ti51, t_75, t_76, t_77, t_78, t_79, t_80, t_81, zs_Ref11_Env, zs_Api_Body, zs_Api_Input, zs_Api_Op, zsl23, zsl32, zsl37, x32_alloc, s32_sub, s32_subk, s32_ok, s32_at, hl, h1, zx, hc]); rfl)) (k : B) : A := h ▸ k
theorem zge28 {P : Prop} (h : P := by simp (disch := first | exact zdl | fail) only [zheap]; first | done | rfl) : P := h
set_option maxHeartbeats 8000000 in
theorem c28 : Con C 28 R28 := by
  refine con_of C ?_ ?_ ?_
  · rintro args p r r' ⟨l, e, h, hl, h1, e⟩ ⟨l', e', h', hl', h1', e'⟩
    subst e; subst e'; simp_all [Ref11_Env.inj_iff, Api_Body.inj_iff, Api_Input.inj_iff, Api_Op.inj_iff, sl_inj23, sl_inj37]
  · rintro args p r ⟨l, e, h, hl, h1, rfl⟩; first | (split <;> simp; done) | (simp; done) | (simp only [resM]; split <;> simp; done) | (simp only [resD]; split <;> simp; done) 
  · rintro args p r ⟨l, e, rfl, hl, h1, rfl⟩
    refine ans_walk C false noExt (tabL C [(75, R75), (76, R76), (77, R77), (78, R78), (79, R79), (80, R80), (81, R81)]) xf28 (noExt_ok C) (tabL_ok C _) zc28_ok (Nat.le_of_ble_eq_true (by kernel_rfl)) fun hF => ?_
    have t_75 := @t75 (tabL C [(75, R75), (76, R76), (77, R77), (78, R78), (79, R79), (80, R80), (81, R81)]) (has_head C c75 [(76, R76), (77, R77), (78, R78), (79, R79), (80, R80), (81, R81)])
    have t_76 := @t76 (tabL C [(75, R75), (76, R76), (77, R77), (78, R78), (79, R79), (80, R80), (81, R81)]) (has_tail C _ rfl (has_head C c76 [(77, R77), (78, R78), (79, R79), (80, R80), (81, R81)]))
    have t_77 := @t77 (tabL C [(75, R75), (76, R76), (77, R77), (78, R78), (79, R79), (80, R80), (81, R81)]) (has_tail C _ rfl (has_tail C _ rfl (has_head C c77 [(78, R78), (79, R79), (80, R80), (81, R81)])))
    have t_78 := @t78 (tabL C [(75, R75), (76, R76), (77, R77), (78, R78), (79, R79), (80, R80), (81, R81)]) (has_tail C _ rfl (has_tail C _ rfl (has_tail C _ rfl (has_head C c78 [(79, R79), (80, R80), (81, R81)]))))
    have t_79 := @t79 (tabL C [(75, R75), (76, R76), (77, R77), (78, R78), (79, R79), (80, R80), (81, R81)]) (has_tail C _ rfl (has_tail C _ rfl (has_tail C _ rfl (has_tail C _ rfl (has_head C c79 [(80, R80), (81, R81)])))))
    have t_80 := @t80 (tabL C [(75, R75), (76, R76), (77, R77), (78, R78), (79, R79), (80, R80), (81, R81)]) (has_tail C _ rfl (has_tail C _ rfl (has_tail C _ rfl (has_tail C _ rfl (has_tail C _ rfl (has_head C c80 [(81, R81)]))))))
    have t_81 := @t81 (tabL C [(75, R75), (76, R76), (77, R77), (78, R78), (79, R79), (80, R80), (81, R81)]) (has_tail C _ rfl (has_tail C _ rfl (has_tail C _ rfl (has_tail C _ rfl (has_tail C _ rfl (has_tail C _ rfl (has_head C c81 [])))))))
    generalize tabL C [(75, R75), (76, R76), (77, R77), (78, R78), (79, R79), (80, R80), (81, R81)] = call at t_75 t_76 t_77 t_78 t_79 t_80 t_81 ⊢
    show W C false noExt call zc28 (argE [l.cv Api_Op.cv, e.cv]) p (endQ C _ _)
    have hcp : copiedE (ruleOf e) = ruleOf e := copiedE_nil h1
    have hno : ∀ j, ¬ e.cv.has j := fun j hj => by rw [Ref11_Env.has, h1] at hj; cases hj
    have hnt : ∀ (a b : Int) (c : Bool) j, ¬ (CV.tup [e.cv, I a, I b, Bo c]).has j := fun a b c j hj => by simp [CV.has, CV.hasL, hno] at hj
    by_cases hb : Body.right e.Body = true
    · by_cases hk : e.Body.Kind = 0
      · have hR : ruleRun l (ruleOf e) = (ruleOf e, ⟨0, 0⟩, false) := by unfold ruleRun; rw [if_pos (.inr hk), hcp]
        (have zx := And.intro hb hk; have hc := True.intro; refine zq28 (k := ?_); clear hc; try exact True.intro)
        repeat' ((first | refine condW_b ?_ ?_ | refine wantO_s ?_ ?_ | refine wantD_s _ _ _ _ ?_ ?_ | refine bindO_i ?_ ?_ | refine bindE_i _ _ _ _ ?_ ?_) <;> intro hc <;> (try simp only [zhd] at hc) <;> (try have hw := within_spec hc) <;> (refine zq28 (k := ?_); try exact True.intro))
        all_goals (try clear zx)
        rw [hR]
        exact shr_keep hF zle (weak_of_eq rfl (lt_of_no (hnt _ _ _)))
      · have hR : ruleRun l (ruleOf e) = match Mach.run 64 ⟨ruleOf e, l, 0⟩ with | .ok m => (m.e_, ⟨0, 0⟩, true) | .error c => (ruleOf e, ⟨c.1, c.2⟩, false) := by
          have hnn : ¬ (Body.right (ruleOf e).Body = false ∨ (ruleOf e).Body.Kind = 0) := by
            rw [show (ruleOf e).Body = e.Body from rfl, hb]; simp [hk]
          unfold ruleRun; rw [if_neg hnn, hcp]; cases Mach.run 64 ⟨ruleOf e, l, 0⟩ <;> rfl
        (have zx := And.intro hb hk; have hc := True.intro; refine zq28 (k := ?_); clear hc; try exact True.intro)
        repeat' ((first | refine condW_b ?_ ?_ | refine wantO_s ?_ ?_ | refine wantD_s _ _ _ _ ?_ ?_ | refine bindO_i ?_ ?_ | refine bindE_i _ _ _ _ ?_ ?_) <;> intro hc <;> (try simp only [zhd] at hc) <;> (try have hw := within_spec hc) <;> (refine zq28 (k := ?_); try exact True.intro))
        all_goals (try clear zx)
        show W C false noExt call (ZC.block 0 (ZC.loop zn28_17)) _ _ (seqQ _ _)
        show W C false noExt call (ZC.loop zn28_17) _ _ _
        refine W_loop C false noExt call zn28_17 _ _ _ (J28 l e p) 64 ⟨e, 0, (by simp [put_at, zput_none, argE_0]), (by simp [put_at, zput_none, argE_0]), (by simp [put_at, zput_none, argE_0]), (by simp [put_at, zput_none, argE_0]), (by simp [put_at, zput_none, argE_0]), (by simp [put_at, zput_none, argE_0]), by omega, zge28, zge28, zge28, by rw [partE_nil h1], by omega, by omega, by rw [own_nil h1]; simp, .inl h1, (by simp only [Hp.bump_n, Hp.znew_n, Hp.zset_n]; omega), zle⟩ ?_
        rintro k ρ q ⟨er, a, e0, e3, e4, e8, e9, e10, hk6, g1, g2, g3, hrun, ha, ha', hsl, htl, hn, hle⟩
        by_cases hlt : a < l.l.length
        · cases k with
          | zero =>
            have hs : ¬ (64 - ((0 : Nat) : Int) < 64) := by omega
            have hs2 : 64 ≤ 64 - ((0 : Nat) : Int) := by omega
            (have zx := And.intro e0 (And.intro e3 (And.intro e4 (And.intro e8 (And.intro e9 (And.intro e10 (And.intro g1 (And.intro g2 (And.intro g3 (And.intro hlt (And.intro hs hs2)))))))))); have hc := True.intro; refine zq28 (k := ?_); clear hc; try exact True.intro)
            repeat' ((first | refine condW_b ?_ ?_ | refine wantO_s ?_ ?_ | refine wantD_s _ _ _ _ ?_ ?_ | refine bindO_i ?_ ?_ | refine bindE_i _ _ _ _ ?_ ?_) <;> intro hc <;> (try simp only [zhd] at hc) <;> (try have hw := within_spec hc) <;> (refine zq28 (k := ?_); try exact True.intro))
            all_goals (try clear zx)
            have hr : Mach.run 0 ⟨partE er, l, a⟩ = .error (5, a) := by simp [Mach.run, hlt]
            rw [hR, ← hrun, hr]
            exact shr_keep hF zlq (weak_of_eq rfl (lt_of_no (hnt _ _ _)))
          | succ k =>
            have hs : ¬ 64 ≤ 64 - ((k + 1 : Nat) : Int) := by omega
            have hf := rfault_eq (nth l.l a.toNat) er l a
            have hmem := er.Body.hMem
            cases hdo : Mach.doOp ⟨partE er, l, a⟩ (nth l.l a.toNat) with
            | error c =>
              have hc0 := doOp_code hdo
              rw [hdo] at hf
              simp only at hf
              (have zx := And.intro e0 (And.intro e3 (And.intro e4 (And.intro e8 (And.intro e9 (And.intro e10 (And.intro g1 (And.intro g2 (And.intro g3 (And.intro hlt (And.intro hs (And.intro hf hc0))))))))))); have hc := True.intro; refine zq28 (k := ?_); clear hc; try exact True.intro)
              repeat' ((first | refine condW_b ?_ ?_ | refine wantO_s ?_ ?_ | refine wantD_s _ _ _ _ ?_ ?_ | refine bindO_i ?_ ?_ | refine bindE_i _ _ _ _ ?_ ?_) <;> intro hc <;> (try simp only [zhd] at hc) <;> (try have hw := within_spec hc) <;> (refine zq28 (k := ?_); try exact True.intro))
              all_goals (try clear zx)
              have hr : Mach.run (k + 1) ⟨partE er, l, a⟩ = .error (c, a) := by simp [Mach.run, hlt, hdo]
              rw [hR, ← hrun, hr]
              exact shr_keep hF zlq (weak_of_eq rfl (lt_of_no (hnt _ _ _)))
            | ok r =>
              obtain ⟨m2, n⟩ := r
              rw [hdo] at hf
              simp only at hf
              have hst : Mach.run k { m2 with at_ := n } = Mach.run 64 ⟨ruleOf e, l, 0⟩ := by rw [← hrun, Mach.run]; simp [hlt, hdo]
              have hkp := Mach.doOp_keeps hdo ha hlt
              have hn0 := hkp.2.2.2.2.1
              have hn1 := hkp.2.2.2.2.2
              simp only at hn1
              have hnm := doOp_n hdo
              have hA := namedOk_A hnm.1
              have hB := namedOk_B hnm.1
              have hco := code_cases hnm.2
              generalize ho : nth l.l a.toNat = o at hf hdo hnm hA hB hco
              rcases hco with hC | hC | hC | hC | hC | hC | hC | hC | hC | hC | hC | hC | hC
              · have hd := doOp_1 hdo hC
                obtain ⟨rfl, rfl⟩ := hd
                (have zx := And.intro e0 (And.intro e3 (And.intro e4 (And.intro e8 (And.intro e9 (And.intro e10 (And.intro g1 (And.intro g2 (And.intro g3 (And.intro hlt (And.intro hs (And.intro ho (And.intro hf hC)))))))))))); have hc := True.intro; refine zq28 (k := ?_); clear hc; try exact True.intro)
                repeat' ((first | refine condW_b ?_ ?_ | refine wantO_s ?_ ?_ | refine wantD_s _ _ _ _ ?_ ?_ | refine bindO_i ?_ ?_ | refine bindE_i _ _ _ _ ?_ ?_) <;> intro hc <;> (try simp only [zhd] at hc) <;> (try have hw := within_spec hc) <;> (refine zq28 (k := ?_); try exact True.intro))
                all_goals (try clear zx)
                exact ⟨k, Nat.lt_succ_self k, { er with Body := er.Body.put_7k o.A.toNat (brought (o.B) (-1000000) 1000000) }, a + 1, by simp [put_at, zput_none, e0], by simp [put_at, zput_none, e3], by simp [put_at, zput_none, e4], by simp [put_at, zput_none, e8], by simp [put_at, zput_none], by simp [put_at, zput_none]; omega, by omega, by simp (disch := (first | omega | (simp only [Hp.bump_n, Hp.znew_n, Hp.zset_n]; omega))) only [Hp.bump_get, Hp.get_set_self, Hp.get_set_ne, Hp.get_new_ne, Hp.get_new_self, g1, g2, g3]; first | done | rfl, by simp (disch := (first | omega | (simp only [Hp.bump_n, Hp.znew_n, Hp.zset_n]; omega))) only [Hp.bump_get, Hp.get_set_self, Hp.get_set_ne, Hp.get_new_ne, Hp.get_new_self, g1, g2, g3]; first | done | rfl, by simp (disch := (first | omega | (simp only [Hp.bump_n, Hp.znew_n, Hp.zset_n]; omega))) only [Hp.bump_get, Hp.get_set_self, Hp.get_set_ne, Hp.get_new_ne, Hp.get_new_self, g1, g2, g3]; first | done | rfl, hst, by omega, by omega, by (try simp only); omega, htl, (by simp only [Hp.bump_n, Hp.znew_n, Hp.zset_n]; omega), zlq⟩
              · have hd := doOp_2 hdo hC
                obtain ⟨rfl, rfl⟩ := hd
                (have zx := And.intro e0 (And.intro e3 (And.intro e4 (And.intro e8 (And.intro e9 (And.intro e10 (And.intro g1 (And.intro g2 (And.intro g3 (And.intro hlt (And.intro hs (And.intro ho (And.intro hf hC)))))))))))); have hc := True.intro; refine zq28 (k := ?_); clear hc; try exact True.intro)
                repeat' ((first | refine condW_b ?_ ?_ | refine wantO_s ?_ ?_ | refine wantD_s _ _ _ _ ?_ ?_ | refine bindO_i ?_ ?_ | refine bindE_i _ _ _ _ ?_ ?_) <;> intro hc <;> (try simp only [zhd] at hc) <;> (try have hw := within_spec hc) <;> (refine zq28 (k := ?_); try exact True.intro))
                all_goals (try clear zx)
                exact ⟨k, Nat.lt_succ_self k, { er with Body := er.Body.put_7k o.A.toNat (brought (nth er.Body.Mem o.B.toNat) (-1000000) 1000000) }, a + 1, by simp [put_at, zput_none, e0], by simp [put_at, zput_none, e3], by simp [put_at, zput_none, e4], by simp [put_at, zput_none, e8], by simp [put_at, zput_none], by simp [put_at, zput_none]; omega, by omega, by simp (disch := (first | omega | (simp only [Hp.bump_n, Hp.znew_n, Hp.zset_n]; omega))) only [Hp.bump_get, Hp.get_set_self, Hp.get_set_ne, Hp.get_new_ne, Hp.get_new_self, g1, g2, g3]; first | done | rfl, by simp (disch := (first | omega | (simp only [Hp.bump_n, Hp.znew_n, Hp.zset_n]; omega))) only [Hp.bump_get, Hp.get_set_self, Hp.get_set_ne, Hp.get_new_ne, Hp.get_new_self, g1, g2, g3]; first | done | rfl, by simp (disch := (first | omega | (simp only [Hp.bump_n, Hp.znew_n, Hp.zset_n]; omega))) only [Hp.bump_get, Hp.get_set_self, Hp.get_set_ne, Hp.get_new_ne, Hp.get_new_self, g1, g2, g3]; first | done | rfl, hst, by omega, by omega, by (try simp only); omega, htl, (by simp only [Hp.bump_n, Hp.znew_n, Hp.zset_n]; omega), zlq⟩
              · have hd := doOp_3 hdo hC
                obtain ⟨rfl, rfl⟩ := hd
                (have zx := And.intro e0 (And.intro e3 (And.intro e4 (And.intro e8 (And.intro e9 (And.intro e10 (And.intro g1 (And.intro g2 (And.intro g3 (And.intro hlt (And.intro hs (And.intro ho (And.intro hf hC)))))))))))); have hc := True.intro; refine zq28 (k := ?_); clear hc; try exact True.intro)
                repeat' ((first | refine condW_b ?_ ?_ | refine wantO_s ?_ ?_ | refine wantD_s _ _ _ _ ?_ ?_ | refine bindO_i ?_ ?_ | refine bindE_i _ _ _ _ ?_ ?_) <;> intro hc <;> (try simp only [zhd] at hc) <;> (try have hw := within_spec hc) <;> (refine zq28 (k := ?_); try exact True.intro))
                all_goals (try clear zx)
                exact ⟨k, Nat.lt_succ_self k, { er with Body := er.Body.put_7k o.A.toNat (brought (w64 (nth er.Body.Mem o.A.toNat + nth er.Body.Mem o.B.toNat)) (-1000000) 1000000) }, a + 1, by simp [put_at, zput_none, e0], by simp [put_at, zput_none, e3], by simp [put_at, zput_none, e4], by simp [put_at, zput_none, e8], by simp [put_at, zput_none], by simp [put_at, zput_none]; omega, by omega, by simp (disch := (first | omega | (simp only [Hp.bump_n, Hp.znew_n, Hp.zset_n]; omega))) only [Hp.bump_get, Hp.get_set_self, Hp.get_set_ne, Hp.get_new_ne, Hp.get_new_self, g1, g2, g3]; first | done | rfl, by simp (disch := (first | omega | (simp only [Hp.bump_n, Hp.znew_n, Hp.zset_n]; omega))) only [Hp.bump_get, Hp.get_set_self, Hp.get_set_ne, Hp.get_new_ne, Hp.get_new_self, g1, g2, g3]; first | done | rfl, by simp (disch := (first | omega | (simp only [Hp.bump_n, Hp.znew_n, Hp.zset_n]; omega))) only [Hp.bump_get, Hp.get_set_self, Hp.get_set_ne, Hp.get_new_ne, Hp.get_new_self, g1, g2, g3]; first | done | rfl, hst, by omega, by omega, by (try simp only); omega, htl, (by simp only [Hp.bump_n, Hp.znew_n, Hp.zset_n]; omega), zlq⟩
              · have hd := doOp_4 hdo hC
                obtain ⟨rfl, rfl⟩ := hd
                (have zx := And.intro e0 (And.intro e3 (And.intro e4 (And.intro e8 (And.intro e9 (And.intro e10 (And.intro g1 (And.intro g2 (And.intro g3 (And.intro hlt (And.intro hs (And.intro ho (And.intro hf hC)))))))))))); have hc := True.intro; refine zq28 (k := ?_); clear hc; try exact True.intro)
                repeat' ((first | refine condW_b ?_ ?_ | refine wantO_s ?_ ?_ | refine wantD_s _ _ _ _ ?_ ?_ | refine bindO_i ?_ ?_ | refine bindE_i _ _ _ _ ?_ ?_) <;> intro hc <;> (try simp only [zhd] at hc) <;> (try have hw := within_spec hc) <;> (refine zq28 (k := ?_); try exact True.intro))
                all_goals (try clear zx)
                exact ⟨k, Nat.lt_succ_self k, { er with Body := er.Body.put_7k o.A.toNat (brought (w64 (nth er.Body.Mem o.A.toNat - nth er.Body.Mem o.B.toNat)) (-1000000) 1000000) }, a + 1, by simp [put_at, zput_none, e0], by simp [put_at, zput_none, e3], by simp [put_at, zput_none, e4], by simp [put_at, zput_none, e8], by simp [put_at, zput_none], by simp [put_at, zput_none]; omega, by omega, by simp (disch := (first | omega | (simp only [Hp.bump_n, Hp.znew_n, Hp.zset_n]; omega))) only [Hp.bump_get, Hp.get_set_self, Hp.get_set_ne, Hp.get_new_ne, Hp.get_new_self, g1, g2, g3]; first | done | rfl, by simp (disch := (first | omega | (simp only [Hp.bump_n, Hp.znew_n, Hp.zset_n]; omega))) only [Hp.bump_get, Hp.get_set_self, Hp.get_set_ne, Hp.get_new_ne, Hp.get_new_self, g1, g2, g3]; first | done | rfl, by simp (disch := (first | omega | (simp only [Hp.bump_n, Hp.znew_n, Hp.zset_n]; omega))) only [Hp.bump_get, Hp.get_set_self, Hp.get_set_ne, Hp.get_new_ne, Hp.get_new_self, g1, g2, g3]; first | done | rfl, hst, by omega, by omega, by (try simp only); omega, htl, (by simp only [Hp.bump_n, Hp.znew_n, Hp.zset_n]; omega), zlq⟩
              · have hd := doOp_5 hdo hC
                obtain ⟨rfl, rfl⟩ := hd
                (have zx := And.intro e0 (And.intro e3 (And.intro e4 (And.intro e8 (And.intro e9 (And.intro e10 (And.intro g1 (And.intro g2 (And.intro g3 (And.intro hlt (And.intro hs (And.intro ho (And.intro hf hC)))))))))))); have hc := True.intro; refine zq28 (k := ?_); clear hc; try exact True.intro)
                repeat' ((first | refine condW_b ?_ ?_ | refine wantO_s ?_ ?_ | refine wantD_s _ _ _ _ ?_ ?_ | refine bindO_i ?_ ?_ | refine bindE_i _ _ _ _ ?_ ?_) <;> intro hc <;> (try simp only [zhd] at hc) <;> (try have hw := within_spec hc) <;> (refine zq28 (k := ?_); try exact True.intro))
                all_goals (try clear zx)
                exact ⟨k, Nat.lt_succ_self k, { er with Body := er.Body.put_7k o.A.toNat (brought (w64 (nth er.Body.Mem o.A.toNat * nth er.Body.Mem o.B.toNat)) (-1000000) 1000000) }, a + 1, by simp [put_at, zput_none, e0], by simp [put_at, zput_none, e3], by simp [put_at, zput_none, e4], by simp [put_at, zput_none, e8], by simp [put_at, zput_none], by simp [put_at, zput_none]; omega, by omega, by simp (disch := (first | omega | (simp only [Hp.bump_n, Hp.znew_n, Hp.zset_n]; omega))) only [Hp.bump_get, Hp.get_set_self, Hp.get_set_ne, Hp.get_new_ne, Hp.get_new_self, g1, g2, g3]; first | done | rfl, by simp (disch := (first | omega | (simp only [Hp.bump_n, Hp.znew_n, Hp.zset_n]; omega))) only [Hp.bump_get, Hp.get_set_self, Hp.get_set_ne, Hp.get_new_ne, Hp.get_new_self, g1, g2, g3]; first | done | rfl, by simp (disch := (first | omega | (simp only [Hp.bump_n, Hp.znew_n, Hp.zset_n]; omega))) only [Hp.bump_get, Hp.get_set_self, Hp.get_set_ne, Hp.get_new_ne, Hp.get_new_self, g1, g2, g3]; first | done | rfl, hst, by omega, by omega, by (try simp only); omega, htl, (by simp only [Hp.bump_n, Hp.znew_n, Hp.zset_n]; omega), zlq⟩
              · have hd := doOp_6 hdo hC
                obtain ⟨hz, rfl, rfl⟩ := hd
                have hz : ¬ nth er.Body.Mem o.B.toNat = 0 := hz
                (have zx := And.intro e0 (And.intro e3 (And.intro e4 (And.intro e8 (And.intro e9 (And.intro e10 (And.intro g1 (And.intro g2 (And.intro g3 (And.intro hlt (And.intro hs (And.intro ho (And.intro hf (And.intro hC hz))))))))))))); have hc := True.intro; refine zq28 (k := ?_); clear hc; try exact True.intro)
                repeat' ((first | refine condW_b ?_ ?_ | refine wantO_s ?_ ?_ | refine wantD_s _ _ _ _ ?_ ?_ | refine bindO_i ?_ ?_ | refine bindE_i _ _ _ _ ?_ ?_) <;> intro hc <;> (try simp only [zhd] at hc) <;> (try have hw := within_spec hc) <;> (refine zq28 (k := ?_); try exact True.intro))
                all_goals (try clear zx)
                exact ⟨k, Nat.lt_succ_self k, { er with Body := er.Body.put_7k o.A.toNat (brought (w64 ((nth er.Body.Mem o.A.toNat).tdiv (nth er.Body.Mem o.B.toNat))) (-1000000) 1000000) }, a + 1, by simp [put_at, zput_none, e0], by simp [put_at, zput_none, e3], by simp [put_at, zput_none, e4], by simp [put_at, zput_none, e8], by simp [put_at, zput_none], by simp [put_at, zput_none]; omega, by omega, by simp (disch := (first | omega | (simp only [Hp.bump_n, Hp.znew_n, Hp.zset_n]; omega))) only [Hp.bump_get, Hp.get_set_self, Hp.get_set_ne, Hp.get_new_ne, Hp.get_new_self, g1, g2, g3]; first | done | rfl, by simp (disch := (first | omega | (simp only [Hp.bump_n, Hp.znew_n, Hp.zset_n]; omega))) only [Hp.bump_get, Hp.get_set_self, Hp.get_set_ne, Hp.get_new_ne, Hp.get_new_self, g1, g2, g3]; first | done | rfl, by simp (disch := (first | omega | (simp only [Hp.bump_n, Hp.znew_n, Hp.zset_n]; omega))) only [Hp.bump_get, Hp.get_set_self, Hp.get_set_ne, Hp.get_new_ne, Hp.get_new_self, g1, g2, g3]; first | done | rfl, hst, by omega, by omega, by (try simp only); omega, htl, (by simp only [Hp.bump_n, Hp.znew_n, Hp.zset_n]; omega), zlq⟩
              · have hd := doOp_7 hdo hC
                obtain ⟨hw, rfl, rfl⟩ := hd
                have hw := within_spec hw
                (have zx := And.intro e0 (And.intro e3 (And.intro e4 (And.intro e8 (And.intro e9 (And.intro e10 (And.intro g1 (And.intro g2 (And.intro g3 (And.intro hlt (And.intro hs (And.intro ho (And.intro hf hC)))))))))))); have hc := True.intro; refine zq28 (k := ?_); clear hc; try exact True.intro)
                repeat' ((first | refine condW_b ?_ ?_ | refine wantO_s ?_ ?_ | refine wantD_s _ _ _ _ ?_ ?_ | refine bindO_i ?_ ?_ | refine bindE_i _ _ _ _ ?_ ?_) <;> intro hc <;> (try simp only [zhd] at hc) <;> (try have hw := within_spec hc) <;> (refine zq28 (k := ?_); try exact True.intro))
                all_goals (try clear zx)
                exact ⟨k, Nat.lt_succ_self k, { er with Body := er.Body.put_7k o.A.toNat (brought (nth [er.Body.X, er.Body.Y, er.Body.VX, er.Body.VY, er.Body.Age, er.In.Buttons, er.In.X, er.In.Y] o.B.toNat) (-1000000) 1000000) }, a + 1, by simp [put_at, zput_none, e0], by simp [put_at, zput_none, e3], by simp [put_at, zput_none, e4], by simp [put_at, zput_none, e8], by simp [put_at, zput_none], by simp [put_at, zput_none]; omega, by omega, by simp (disch := (first | omega | (simp only [Hp.bump_n, Hp.znew_n, Hp.zset_n]; omega))) only [Hp.bump_get, Hp.get_set_self, Hp.get_set_ne, Hp.get_new_ne, Hp.get_new_self, g1, g2, g3]; first | done | rfl, by simp (disch := (first | omega | (simp only [Hp.bump_n, Hp.znew_n, Hp.zset_n]; omega))) only [Hp.bump_get, Hp.get_set_self, Hp.get_set_ne, Hp.get_new_ne, Hp.get_new_self, g1, g2, g3]; first | done | rfl, by simp (disch := (first | omega | (simp only [Hp.bump_n, Hp.znew_n, Hp.zset_n]; omega))) only [Hp.bump_get, Hp.get_set_self, Hp.get_set_ne, Hp.get_new_ne, Hp.get_new_self, g1, g2, g3]; first | done | rfl, hst, by omega, by omega, by (try simp only); omega, htl, (by simp only [Hp.bump_n, Hp.znew_n, Hp.zset_n]; omega), zlq⟩
              · have hd := doOp_8 hdo hC
                obtain ⟨hw, rfl, rfl⟩ := hd
                have hw := within_spec hw
                have hq : o.A = 0 ∨ o.A = 1 ∨ o.A = 2 ∨ o.A = 3 := by omega
                rcases hq with hq | hq | hq | hq
                · (have zx := And.intro e0 (And.intro e3 (And.intro e4 (And.intro e8 (And.intro e9 (And.intro e10 (And.intro g1 (And.intro g2 (And.intro g3 (And.intro hlt (And.intro hs (And.intro ho (And.intro hf (And.intro hC hq))))))))))))); have hc := True.intro; refine zq28 (k := ?_); clear hc; try exact True.intro)
                  repeat' ((first | refine condW_b ?_ ?_ | refine wantO_s ?_ ?_ | refine wantD_s _ _ _ _ ?_ ?_ | refine bindO_i ?_ ?_ | refine bindE_i _ _ _ _ ?_ ?_) <;> intro hc <;> (try simp only [zhd] at hc) <;> (try have hw := within_spec hc) <;> (refine zq28 (k := ?_); try exact True.intro))
                  all_goals (try clear zx)
                  exact ⟨k, Nat.lt_succ_self k, { er with Body := { er.Body with X := brought (nth er.Body.Mem o.B.toNat) (0) 4095 } }, a + 1, by simp [put_at, zput_none, e0], by simp [put_at, zput_none, e3], by simp [put_at, zput_none, e4], by simp [put_at, zput_none, e8], by simp [put_at, zput_none], by simp [put_at, zput_none]; omega, by omega, by simp (disch := (first | omega | (simp only [Hp.bump_n, Hp.znew_n, Hp.zset_n]; omega))) only [Hp.bump_get, Hp.get_set_self, Hp.get_set_ne, Hp.get_new_ne, Hp.get_new_self, g1, g2, g3]; first | done | rfl, by simp (disch := (first | omega | (simp only [Hp.bump_n, Hp.znew_n, Hp.zset_n]; omega))) only [Hp.bump_get, Hp.get_set_self, Hp.get_set_ne, Hp.get_new_ne, Hp.get_new_self, g1, g2, g3]; first | done | rfl, by simp (disch := (first | omega | (simp only [Hp.bump_n, Hp.znew_n, Hp.zset_n]; omega))) only [Hp.bump_get, Hp.get_set_self, Hp.get_set_ne, Hp.get_new_ne, Hp.get_new_self, g1, g2, g3]; first | done | rfl, by rw [← hst]; simp only [Mach.put, Mach.body, hq, Int.reduceEq, if_true, if_false]; rfl, by omega, by omega, by (try simp only); omega, htl, (by simp only [Hp.bump_n, Hp.znew_n, Hp.zset_n]; omega), zlq⟩
                · (have zx := And.intro e0 (And.intro e3 (And.intro e4 (And.intro e8 (And.intro e9 (And.intro e10 (And.intro g1 (And.intro g2 (And.intro g3 (And.intro hlt (And.intro hs (And.intro ho (And.intro hf (And.intro hC hq))))))))))))); have hc := True.intro; refine zq28 (k := ?_); clear hc; try exact True.intro)
                  repeat' ((first | refine condW_b ?_ ?_ | refine wantO_s ?_ ?_ | refine wantD_s _ _ _ _ ?_ ?_ | refine bindO_i ?_ ?_ | refine bindE_i _ _ _ _ ?_ ?_) <;> intro hc <;> (try simp only [zhd] at hc) <;> (try have hw := within_spec hc) <;> (refine zq28 (k := ?_); try exact True.intro))
                  all_goals (try clear zx)
                  exact ⟨k, Nat.lt_succ_self k, { er with Body := { er.Body with Y := brought (nth er.Body.Mem o.B.toNat) (0) 4095 } }, a + 1, by simp [put_at, zput_none, e0], by simp [put_at, zput_none, e3], by simp [put_at, zput_none, e4], by simp [put_at, zput_none, e8], by simp [put_at, zput_none], by simp [put_at, zput_none]; omega, by omega, by simp (disch := (first | omega | (simp only [Hp.bump_n, Hp.znew_n, Hp.zset_n]; omega))) only [Hp.bump_get, Hp.get_set_self, Hp.get_set_ne, Hp.get_new_ne, Hp.get_new_self, g1, g2, g3]; first | done | rfl, by simp (disch := (first | omega | (simp only [Hp.bump_n, Hp.znew_n, Hp.zset_n]; omega))) only [Hp.bump_get, Hp.get_set_self, Hp.get_set_ne, Hp.get_new_ne, Hp.get_new_self, g1, g2, g3]; first | done | rfl, by simp (disch := (first | omega | (simp only [Hp.bump_n, Hp.znew_n, Hp.zset_n]; omega))) only [Hp.bump_get, Hp.get_set_self, Hp.get_set_ne, Hp.get_new_ne, Hp.get_new_self, g1, g2, g3]; first | done | rfl, by rw [← hst]; simp only [Mach.put, Mach.body, hq, Int.reduceEq, if_true, if_false]; rfl, by omega, by omega, by (try simp only); omega, htl, (by simp only [Hp.bump_n, Hp.znew_n, Hp.zset_n]; omega), zlq⟩
                · (have zx := And.intro e0 (And.intro e3 (And.intro e4 (And.intro e8 (And.intro e9 (And.intro e10 (And.intro g1 (And.intro g2 (And.intro g3 (And.intro hlt (And.intro hs (And.intro ho (And.intro hf (And.intro hC hq))))))))))))); have hc := True.intro; refine zq28 (k := ?_); clear hc; try exact True.intro)
                  repeat' ((first | refine condW_b ?_ ?_ | refine wantO_s ?_ ?_ | refine wantD_s _ _ _ _ ?_ ?_ | refine bindO_i ?_ ?_ | refine bindE_i _ _ _ _ ?_ ?_) <;> intro hc <;> (try simp only [zhd] at hc) <;> (try have hw := within_spec hc) <;> (refine zq28 (k := ?_); try exact True.intro))
                  all_goals (try clear zx)
                  exact ⟨k, Nat.lt_succ_self k, { er with Body := { er.Body with VX := brought (nth er.Body.Mem o.B.toNat) (-64) 64 } }, a + 1, by simp [put_at, zput_none, e0], by simp [put_at, zput_none, e3], by simp [put_at, zput_none, e4], by simp [put_at, zput_none, e8], by simp [put_at, zput_none], by simp [put_at, zput_none]; omega, by omega, by simp (disch := (first | omega | (simp only [Hp.bump_n, Hp.znew_n, Hp.zset_n]; omega))) only [Hp.bump_get, Hp.get_set_self, Hp.get_set_ne, Hp.get_new_ne, Hp.get_new_self, g1, g2, g3]; first | done | rfl, by simp (disch := (first | omega | (simp only [Hp.bump_n, Hp.znew_n, Hp.zset_n]; omega))) only [Hp.bump_get, Hp.get_set_self, Hp.get_set_ne, Hp.get_new_ne, Hp.get_new_self, g1, g2, g3]; first | done | rfl, by simp (disch := (first | omega | (simp only [Hp.bump_n, Hp.znew_n, Hp.zset_n]; omega))) only [Hp.bump_get, Hp.get_set_self, Hp.get_set_ne, Hp.get_new_ne, Hp.get_new_self, g1, g2, g3]; first | done | rfl, by rw [← hst]; simp only [Mach.put, Mach.body, hq, Int.reduceEq, if_true, if_false]; rfl, by omega, by omega, by (try simp only); omega, htl, (by simp only [Hp.bump_n, Hp.znew_n, Hp.zset_n]; omega), zlq⟩
                · (have zx := And.intro e0 (And.intro e3 (And.intro e4 (And.intro e8 (And.intro e9 (And.intro e10 (And.intro g1 (And.intro g2 (And.intro g3 (And.intro hlt (And.intro hs (And.intro ho (And.intro hf (And.intro hC hq))))))))))))); have hc := True.intro; refine zq28 (k := ?_); clear hc; try exact True.intro)
                  repeat' ((first | refine condW_b ?_ ?_ | refine wantO_s ?_ ?_ | refine wantD_s _ _ _ _ ?_ ?_ | refine bindO_i ?_ ?_ | refine bindE_i _ _ _ _ ?_ ?_) <;> intro hc <;> (try simp only [zhd] at hc) <;> (try have hw := within_spec hc) <;> (refine zq28 (k := ?_); try exact True.intro))
                  all_goals (try clear zx)
                  exact ⟨k, Nat.lt_succ_self k, { er with Body := { er.Body with VY := brought (nth er.Body.Mem o.B.toNat) (-64) 64 } }, a + 1, by simp [put_at, zput_none, e0], by simp [put_at, zput_none, e3], by simp [put_at, zput_none, e4], by simp [put_at, zput_none, e8], by simp [put_at, zput_none], by simp [put_at, zput_none]; omega, by omega, by simp (disch := (first | omega | (simp only [Hp.bump_n, Hp.znew_n, Hp.zset_n]; omega))) only [Hp.bump_get, Hp.get_set_self, Hp.get_set_ne, Hp.get_new_ne, Hp.get_new_self, g1, g2, g3]; first | done | rfl, by simp (disch := (first | omega | (simp only [Hp.bump_n, Hp.znew_n, Hp.zset_n]; omega))) only [Hp.bump_get, Hp.get_set_self, Hp.get_set_ne, Hp.get_new_ne, Hp.get_new_self, g1, g2, g3]; first | done | rfl, by simp (disch := (first | omega | (simp only [Hp.bump_n, Hp.znew_n, Hp.zset_n]; omega))) only [Hp.bump_get, Hp.get_set_self, Hp.get_set_ne, Hp.get_new_ne, Hp.get_new_self, g1, g2, g3]; first | done | rfl, by rw [← hst]; simp only [Mach.put, Mach.body, hq, Int.reduceEq, if_true, if_false]; rfl, by omega, by omega, by (try simp only); omega, htl, (by simp only [Hp.bump_n, Hp.znew_n, Hp.zset_n]; omega), zlq⟩
              · have hd := doOp_9 hdo hC
                obtain ⟨rfl, rfl⟩ := hd
                have hre : Mach.reg ⟨partE er, l, a⟩ o.A.toNat = nth er.Body.Mem o.A.toNat := rfl
                rw [hre] at hn0 hn1 hst
                by_cases hz : nth er.Body.Mem o.A.toNat = 0
                · rw [if_pos hz] at hn0 hn1 hst
                  (have zx := And.intro e0 (And.intro e3 (And.intro e4 (And.intro e8 (And.intro e9 (And.intro e10 (And.intro g1 (And.intro g2 (And.intro g3 (And.intro hlt (And.intro hs (And.intro ho (And.intro hf (And.intro hC hz))))))))))))); have hc := True.intro; refine zq28 (k := ?_); clear hc; try exact True.intro)
                  repeat' ((first | refine condW_b ?_ ?_ | refine wantO_s ?_ ?_ | refine wantD_s _ _ _ _ ?_ ?_ | refine bindO_i ?_ ?_ | refine bindE_i _ _ _ _ ?_ ?_) <;> intro hc <;> (try simp only [zhd] at hc) <;> (try have hw := within_spec hc) <;> (refine zq28 (k := ?_); try exact True.intro))
                  all_goals (try clear zx)
                  exact ⟨k, Nat.lt_succ_self k, er, o.B, by simp [put_at, zput_none, e0], by simp [put_at, zput_none, e3], by simp [put_at, zput_none, e4], by simp [put_at, zput_none, e8], by simp [put_at, zput_none], by simp [put_at, zput_none]; omega, by omega, by simp (disch := (first | omega | (simp only [Hp.bump_n, Hp.znew_n, Hp.zset_n]; omega))) only [Hp.bump_get, Hp.get_set_self, Hp.get_set_ne, Hp.get_new_ne, Hp.get_new_self, g1, g2, g3]; first | done | rfl, by simp (disch := (first | omega | (simp only [Hp.bump_n, Hp.znew_n, Hp.zset_n]; omega))) only [Hp.bump_get, Hp.get_set_self, Hp.get_set_ne, Hp.get_new_ne, Hp.get_new_self, g1, g2, g3]; first | done | rfl, by simp (disch := (first | omega | (simp only [Hp.bump_n, Hp.znew_n, Hp.zset_n]; omega))) only [Hp.bump_get, Hp.get_set_self, Hp.get_set_ne, Hp.get_new_ne, Hp.get_new_self, g1, g2, g3]; first | done | rfl, hst, by omega, by omega, by (try simp only); omega, htl, (by simp only [Hp.bump_n, Hp.znew_n, Hp.zset_n]; omega), zlq⟩
                · rw [if_neg hz] at hn0 hn1 hst
                  (have zx := And.intro e0 (And.intro e3 (And.intro e4 (And.intro e8 (And.intro e9 (And.intro e10 (And.intro g1 (And.intro g2 (And.intro g3 (And.intro hlt (And.intro hs (And.intro ho (And.intro hf (And.intro hC hz))))))))))))); have hc := True.intro; refine zq28 (k := ?_); clear hc; try exact True.intro)
                  repeat' ((first | refine condW_b ?_ ?_ | refine wantO_s ?_ ?_ | refine wantD_s _ _ _ _ ?_ ?_ | refine bindO_i ?_ ?_ | refine bindE_i _ _ _ _ ?_ ?_) <;> intro hc <;> (try simp only [zhd] at hc) <;> (try have hw := within_spec hc) <;> (refine zq28 (k := ?_); try exact True.intro))
                  all_goals (try clear zx)
                  exact ⟨k, Nat.lt_succ_self k, er, a + 1, by simp [put_at, zput_none, e0], by simp [put_at, zput_none, e3], by simp [put_at, zput_none, e4], by simp [put_at, zput_none, e8], by simp [put_at, zput_none], by simp [put_at, zput_none]; omega, by omega, by simp (disch := (first | omega | (simp only [Hp.bump_n, Hp.znew_n, Hp.zset_n]; omega))) only [Hp.bump_get, Hp.get_set_self, Hp.get_set_ne, Hp.get_new_ne, Hp.get_new_self, g1, g2, g3]; first | done | rfl, by simp (disch := (first | omega | (simp only [Hp.bump_n, Hp.znew_n, Hp.zset_n]; omega))) only [Hp.bump_get, Hp.get_set_self, Hp.get_set_ne, Hp.get_new_ne, Hp.get_new_self, g1, g2, g3]; first | done | rfl, by simp (disch := (first | omega | (simp only [Hp.bump_n, Hp.znew_n, Hp.zset_n]; omega))) only [Hp.bump_get, Hp.get_set_self, Hp.get_set_ne, Hp.get_new_ne, Hp.get_new_self, g1, g2, g3]; first | done | rfl, hst, by omega, by omega, by (try simp only); omega, htl, (by simp only [Hp.bump_n, Hp.znew_n, Hp.zset_n]; omega), zlq⟩
              · have hd := doOp_10 hdo hC
                obtain ⟨rfl, rfl⟩ := hd
                (have zx := And.intro e0 (And.intro e3 (And.intro e4 (And.intro e8 (And.intro e9 (And.intro e10 (And.intro g1 (And.intro g2 (And.intro g3 (And.intro hlt (And.intro hs (And.intro ho (And.intro hf hC)))))))))))); have hc := True.intro; refine zq28 (k := ?_); clear hc; try exact True.intro)
                repeat' ((first | refine condW_b ?_ ?_ | refine wantO_s ?_ ?_ | refine wantD_s _ _ _ _ ?_ ?_ | refine bindO_i ?_ ?_ | refine bindE_i _ _ _ _ ?_ ?_) <;> intro hc <;> (try simp only [zhd] at hc) <;> (try have hw := within_spec hc) <;> (refine zq28 (k := ?_); try exact True.intro))
                all_goals (try clear zx)
                exact ⟨k, Nat.lt_succ_self k, er, o.B, by simp [put_at, zput_none, e0], by simp [put_at, zput_none, e3], by simp [put_at, zput_none, e4], by simp [put_at, zput_none, e8], by simp [put_at, zput_none], by simp [put_at, zput_none]; omega, by omega, by simp (disch := (first | omega | (simp only [Hp.bump_n, Hp.znew_n, Hp.zset_n]; omega))) only [Hp.bump_get, Hp.get_set_self, Hp.get_set_ne, Hp.get_new_ne, Hp.get_new_self, g1, g2, g3]; first | done | rfl, by simp (disch := (first | omega | (simp only [Hp.bump_n, Hp.znew_n, Hp.zset_n]; omega))) only [Hp.bump_get, Hp.get_set_self, Hp.get_set_ne, Hp.get_new_ne, Hp.get_new_self, g1, g2, g3]; first | done | rfl, by simp (disch := (first | omega | (simp only [Hp.bump_n, Hp.znew_n, Hp.zset_n]; omega))) only [Hp.bump_get, Hp.get_set_self, Hp.get_set_ne, Hp.get_new_ne, Hp.get_new_self, g1, g2, g3]; first | done | rfl, hst, by omega, by omega, by (try simp only); omega, htl, (by simp only [Hp.bump_n, Hp.znew_n, Hp.zset_n]; omega), zlq⟩
              · have hd := doOp_11 hdo hC
                obtain ⟨hz, rfl, rfl⟩ := hd
                have hz : ¬ nth er.Body.Mem o.B.toNat < 1 := hz
                (have zx := And.intro e0 (And.intro e3 (And.intro e4 (And.intro e8 (And.intro e9 (And.intro e10 (And.intro g1 (And.intro g2 (And.intro g3 (And.intro hlt (And.intro hs (And.intro ho (And.intro hf (And.intro hC hz))))))))))))); have hc := True.intro; refine zq28 (k := ?_); clear hc; try exact True.intro)
                repeat' ((first | refine condW_b ?_ ?_ | refine wantO_s ?_ ?_ | refine wantD_s _ _ _ _ ?_ ?_ | refine bindO_i ?_ ?_ | refine bindE_i _ _ _ _ ?_ ?_) <;> intro hc <;> (try simp only [zhd] at hc) <;> (try have hw := within_spec hc) <;> (refine zq28 (k := ?_); try exact True.intro))
                all_goals (try clear zx)
                exact ⟨k, Nat.lt_succ_self k, { er with Body := er.Body.put_7k o.A.toNat (brought ((diceRoll er.Dice (nth er.Body.Mem o.B.toNat)).2) (-1000000) 1000000), Dice := (diceRoll er.Dice (nth er.Body.Mem o.B.toNat)).1 }, a + 1, by simp [put_at, zput_none, e0], by simp [put_at, zput_none, e3], by simp [put_at, zput_none, e4], by simp [put_at, zput_none, e8], by simp [put_at, zput_none], by simp [put_at, zput_none]; omega, by omega, by simp (disch := (first | omega | (simp only [Hp.bump_n, Hp.znew_n, Hp.zset_n]; omega))) only [Hp.bump_get, Hp.get_set_self, Hp.get_set_ne, Hp.get_new_ne, Hp.get_new_self, g1, g2, g3]; first | done | rfl, by simp (disch := (first | omega | (simp only [Hp.bump_n, Hp.znew_n, Hp.zset_n]; omega))) only [Hp.bump_get, Hp.get_set_self, Hp.get_set_ne, Hp.get_new_ne, Hp.get_new_self, g1, g2, g3]; first | done | rfl, by simp (disch := (first | omega | (simp only [Hp.bump_n, Hp.znew_n, Hp.zset_n]; omega))) only [Hp.bump_get, Hp.get_set_self, Hp.get_set_ne, Hp.get_new_ne, Hp.get_new_self, g1, g2, g3]; first | done | rfl, hst, by omega, by omega, by (try simp only); omega, htl, (by simp only [Hp.bump_n, Hp.znew_n, Hp.zset_n]; omega), zlq⟩
              · have hd := doOp_12 hdo hC
                obtain ⟨rfl, rfl⟩ := hd
                have hsx : Mach.run k ⟨⟨er.Body, er.In, er.Dice, er.Room, ⟨.part, er.Shots.l ++ [bodyShoot er.Body (nth er.Body.Mem o.A.toNat) (nth er.Body.Mem o.B.toNat)], nofun⟩⟩, l, a + 1⟩ = Mach.run 64 ⟨ruleOf e, l, 0⟩ := by rw [← hst]; simp only [partE, partS_l]; rfl
                by_cases hs0 : er.Shots.l = []
                · rw [hs0] at hsx
                  (have zx := And.intro e0 (And.intro e3 (And.intro e4 (And.intro e8 (And.intro e9 (And.intro e10 (And.intro g1 (And.intro g2 (And.intro g3 (And.intro hlt (And.intro hs (And.intro ho (And.intro hf (And.intro hC hs0))))))))))))); have hc := True.intro; refine zq28 (k := ?_); clear hc; try exact True.intro)
                  repeat' ((first | refine condW_b ?_ ?_ | refine wantO_s ?_ ?_ | refine wantD_s _ _ _ _ ?_ ?_ | refine bindO_i ?_ ?_ | refine bindE_i _ _ _ _ ?_ ?_) <;> intro hc <;> (try simp only [zhd] at hc) <;> (try have hw := within_spec hc) <;> (refine zq28 (k := ?_); try exact True.intro))
                  all_goals (try clear zx)
                  all_goals first | (exfalso; cases hc; done) | (exfalso; omega) | skip
                  exact ⟨k, Nat.lt_succ_self k, { er with Shots := ⟨.own (q.n + 1 + 1 + 19), [bodyShoot er.Body (nth er.Body.Mem o.A.toNat) (nth er.Body.Mem o.B.toNat)], nofun⟩ }, a + 1, by simp [put_at, zput_none, e0], by simp [put_at, zput_none, e3], by simp [put_at, zput_none, e4], by simp [put_at, zput_none, e8], by simp [put_at, zput_none], by simp [put_at, zput_none]; omega, by omega, by simp (disch := (first | omega | (simp only [Hp.bump_n, Hp.znew_n, Hp.zset_n]; omega))) only [Hp.bump_get, Hp.get_set_self, Hp.get_set_ne, Hp.get_new_ne, Hp.get_new_self, g1, g2, g3]; first | done | rfl, by simp (disch := (first | omega | (simp only [Hp.bump_n, Hp.znew_n, Hp.zset_n]; omega))) only [Hp.bump_get, Hp.get_set_self, Hp.get_set_ne, Hp.get_new_ne, Hp.get_new_self, g1, g2, g3]; first | done | rfl, by simp (disch := (first | omega | (simp only [Hp.bump_n, Hp.znew_n, Hp.zset_n]; omega))) only [Hp.bump_get, Hp.get_set_self, Hp.get_set_ne, Hp.get_new_ne, Hp.get_new_self, g1, g2, g3]; first | done | rfl, hsx, by omega, by omega, by simp; omega, .inr ⟨_, rfl⟩, (by simp only [Hp.bump_n, Hp.znew_n, Hp.zset_n]; omega), zlq⟩
                · have hs1 : 0 < er.Shots.l.length := List.length_pos_iff.2 hs0
                  (have zx := And.intro e0 (And.intro e3 (And.intro e4 (And.intro e8 (And.intro e9 (And.intro e10 (And.intro g1 (And.intro g2 (And.intro g3 (And.intro hlt (And.intro hs (And.intro ho (And.intro hf (And.intro hC hs0))))))))))))); have hc := True.intro; refine zq28 (k := ?_); clear hc; try exact True.intro)
                  repeat' ((first | refine condW_b ?_ ?_ | refine wantO_s ?_ ?_ | refine wantD_s _ _ _ _ ?_ ?_ | refine bindO_i ?_ ?_ | refine bindE_i _ _ _ _ ?_ ?_) <;> intro hc <;> (try simp only [zhd] at hc) <;> (try have hw := within_spec hc) <;> (refine zq28 (k := ?_); try exact True.intro))
                  all_goals (try clear zx)
                  all_goals first | (exfalso; cases hc; done) | (exfalso; omega) | skip
                  exact ⟨k, Nat.lt_succ_self k, { er with Shots := ⟨.own (q.n + 1 + 1 + 19 + 1), er.Shots.l ++ [bodyShoot er.Body (nth er.Body.Mem o.A.toNat) (nth er.Body.Mem o.B.toNat)], nofun⟩ }, a + 1, by simp [put_at, zput_none, e0], by simp [put_at, zput_none, e3], by simp [put_at, zput_none, e4], by simp [put_at, zput_none, e8], by simp [put_at, zput_none], by simp [put_at, zput_none]; omega, by omega, by simp (disch := (first | omega | (simp only [Hp.bump_n, Hp.znew_n, Hp.zset_n]; omega))) only [Hp.bump_get, Hp.get_set_self, Hp.get_set_ne, Hp.get_new_ne, Hp.get_new_self, g1, g2, g3]; first | done | rfl, by simp (disch := (first | omega | (simp only [Hp.bump_n, Hp.znew_n, Hp.zset_n]; omega))) only [Hp.bump_get, Hp.get_set_self, Hp.get_set_ne, Hp.get_new_ne, Hp.get_new_self, g1, g2, g3]; first | done | rfl, by simp (disch := (first | omega | (simp only [Hp.bump_n, Hp.znew_n, Hp.zset_n]; omega))) only [Hp.bump_get, Hp.get_set_self, Hp.get_set_ne, Hp.get_new_ne, Hp.get_new_self, g1, g2, g3]; first | done | rfl, hsx, by omega, by omega, by simp; omega, .inr ⟨_, rfl⟩, (by simp only [Hp.bump_n, Hp.znew_n, Hp.zset_n]; omega), zlq⟩
              · have hd := doOp_13 hdo hC
                obtain ⟨rfl, rfl⟩ := hd
                (have zx := And.intro e0 (And.intro e3 (And.intro e4 (And.intro e8 (And.intro e9 (And.intro e10 (And.intro g1 (And.intro g2 (And.intro g3 (And.intro hlt (And.intro hs (And.intro ho (And.intro hf hC)))))))))))); have hc := True.intro; refine zq28 (k := ?_); clear hc; try exact True.intro)
                repeat' ((first | refine condW_b ?_ ?_ | refine wantO_s ?_ ?_ | refine wantD_s _ _ _ _ ?_ ?_ | refine bindO_i ?_ ?_ | refine bindE_i _ _ _ _ ?_ ?_) <;> intro hc <;> (try simp only [zhd] at hc) <;> (try have hw := within_spec hc) <;> (refine zq28 (k := ?_); try exact True.intro))
                all_goals (try clear zx)
                exact ⟨k, Nat.lt_succ_self k, er, (l.l.length : Int), by simp [put_at, zput_none, e0], by simp [put_at, zput_none, e3], by simp [put_at, zput_none, e4], by simp [put_at, zput_none, e8], by simp [put_at, zput_none], by simp [put_at, zput_none]; omega, by omega, by simp (disch := (first | omega | (simp only [Hp.bump_n, Hp.znew_n, Hp.zset_n]; omega))) only [Hp.bump_get, Hp.get_set_self, Hp.get_set_ne, Hp.get_new_ne, Hp.get_new_self, g1, g2, g3]; first | done | rfl, by simp (disch := (first | omega | (simp only [Hp.bump_n, Hp.znew_n, Hp.zset_n]; omega))) only [Hp.bump_get, Hp.get_set_self, Hp.get_set_ne, Hp.get_new_ne, Hp.get_new_self, g1, g2, g3]; first | done | rfl, by simp (disch := (first | omega | (simp only [Hp.bump_n, Hp.znew_n, Hp.zset_n]; omega))) only [Hp.bump_get, Hp.get_set_self, Hp.get_set_ne, Hp.get_new_ne, Hp.get_new_self, g1, g2, g3]; first | done | rfl, hst, by omega, by omega, by (try simp only); omega, htl, (by simp only [Hp.bump_n, Hp.znew_n, Hp.zset_n]; omega), zlq⟩
        · (have zx := And.intro e0 (And.intro e3 (And.intro e4 (And.intro e8 (And.intro e9 (And.intro e10 (And.intro g1 (And.intro g2 (And.intro g3 hlt)))))))); have hc := True.intro; refine zq28 (k := ?_); clear hc; try exact True.intro)
          repeat' ((first | refine condW_b ?_ ?_ | refine wantO_s ?_ ?_ | refine wantD_s _ _ _ _ ?_ ?_ | refine bindO_i ?_ ?_ | refine bindE_i _ _ _ _ ?_ ?_) <;> intro hc <;> (try simp only [zhd] at hc) <;> (try have hw := within_spec hc) <;> (refine zq28 (k := ?_); try exact True.intro))
          all_goals (try clear zx)
          have hr : Mach.run k ⟨partE er, l, a⟩ = .ok ⟨partE er, l, a⟩ := by cases k <;> simp [Mach.run, hlt]
          rw [hR, ← hrun, hr]
          refine shr_keep hF zlq ?_
          have hw := weak_envR er p.n htl
          simp only [CV.weak, CV.weakL]
          exact ⟨hw, trivial, trivial, trivial, trivial⟩
    · have hR : ruleRun l (ruleOf e) = (ruleOf e, ⟨0, 0⟩, false) := by unfold ruleRun; rw [if_pos (.inl (by rw [show (ruleOf e).Body = e.Body from rfl]; simpa using hb)), hcp]
      (have zx := hb; have hc := True.intro; refine zq28 (k := ?_); clear hc; try exact True.intro)
      repeat' ((first | refine condW_b ?_ ?_ | refine wantO_s ?_ ?_ | refine wantD_s _ _ _ _ ?_ ?_ | refine bindO_i ?_ ?_ | refine bindE_i _ _ _ _ ?_ ?_) <;> intro hc <;> (try simp only [zhd] at hc) <;> (try have hw := within_spec hc) <;> (refine zq28 (k := ?_); try exact True.intro))
      all_goals (try clear zx)
      rw [hR]
      exact shr_keep hF zle (weak_of_eq rfl (lt_of_no (hnt _ _ _)))
end Go.Proofs.Ytpchcfkebljopaa
end
section
namespace Go.Proofs.Ytpchcfkebljopaa
open Go.Cl Go Go.RowKit
set_option maxRecDepth 100000
set_option linter.constructorNameAsVariable false
def R83 : Rel := fun args p r => ∃ (o : Api_Op), args = [o.cv] ∧ r = .ret (Bo (!opRight o)) p
theorem t83 {T : XCall} (h : Has T 83 R83) (o : Api_Op) {p : Hp}  : T 83 [o.cv] p = .ret (Bo (!opRight o)) p := h _ _ _ ⟨o, rfl, rfl⟩
theorem zq83 {A B : Prop} (h : A = B := by ((try simp -dsimp (disch := first | exact zdis | fail) only [zcore, zall, zopm, zop, zcallOp, qop, qbuiltin, ofOpt, List.map, reduceCtorEq, if_true, if_false, ↓reduceIte, zbin, eqRes, qassert, qnum, qshift, qun, kindOf, allocV, List.nil_append, List.append_nil, List.cons_append, List.length_cons, List.length_nil, Nat.reduceAdd, Nat.reduceEqDiff, Nat.reduceLT, Nat.reduceSub, Nat.reduceMul, Int.reduceToNat, Int.reduceLE, Int.reduceLT, Int.reduceEq, Int.reduceNeg, Int.reduceAdd, Int.reduceSub, beq_self_eq_true, cond_true, cond_false, isConstOpd, xpanic, xconv, isBytes, qconv, List.length_map, List.map_nil, List.map_cons, concrete, Option.some.injEq, exists_eq', Option.map_some, Option.map_none, List.getElem?_cons_zero, List.getElem?_cons_succ, zw83, rs83, tt3, tt29, ti3, ti29, t_84, zs_Api_Op, zx, hc]); rfl)) (k : B) : A := h ▸ k
theorem zno83 {P : Prop} (h : P := by intro jj; simp [CV.has, CV.hasL, fault, Trap_thrown.nohas, Api_Op.nohas]) : P := h
set_option maxHeartbeats 8000000 in
theorem c83 : Con C 83 R83 := by
  refine con_of C ?_ ?_ ?_
  · rintro args p r r' ⟨o, h, e⟩ ⟨o', h', e'⟩
    subst e; subst e'; simp_all [Api_Op.inj_iff]
  · rintro args p r ⟨o, h, rfl⟩; first | (split <;> simp; done) | (simp; done) | (simp only [resM]; split <;> simp; done) | (simp only [resD]; split <;> simp; done) 
  · rintro args p r ⟨o, rfl, rfl⟩
    refine ans_walk C false noExt (tabL C [(84, R84)]) xf83 (noExt_ok C) (tabL_ok C _) zc83_ok (Nat.le_of_ble_eq_true (by kernel_rfl)) fun hF => ?_
    have t_84 := @t84 (tabL C [(84, R84)]) (has_head C c84 [])
    generalize tabL C [(84, R84)] = call at t_84 ⊢
    show W C false noExt call zc83 (argE [o.cv]) p (endQ C _ _)
    (have zx := True.intro; have hc := True.intro; refine zq83 (k := ?_); clear hc; try exact True.intro)
    repeat' ((first | refine condW_b ?_ ?_ | refine wantO_s ?_ ?_ | refine wantD_s _ _ _ _ ?_ ?_ | refine bindO_i ?_ ?_ | refine bindE_i _ _ _ _ ?_ ?_) <;> intro hc <;> (try simp only [zhd, zhn] at hc) <;> (try have hw := within_spec hc) <;> (refine zq83 (k := ?_); try exact True.intro))
    all_goals (try clear zx)
    all_goals refine shr_keep hF zle (weak_of_eq ?_ (lt_of_no zno83))
    all_goals simp_all [opRight]
def J155 (l : Lst Api_Op) (p : Hp) (n : Nat) (ρ : Env) (q : Hp) : Prop :=
  ∃ (k : Nat), n = l.l.length - k ∧ k ≤ l.l.length ∧ ρ 0 = l.cv Api_Op.cv ∧ ρ 1 = .fn 83 [] [] ∧ ρ 7 = I l.l.length ∧ ρ 8 = I k ∧ firstW (fun o => !opRight o) (l.l.drop k) k = firstW (fun o => !opRight o) l.l 0 ∧ HpLe p q
def R155 : Rel := fun args p r => ∃ (l : Lst Api_Op), args = [l.cv Api_Op.cv, .fn 83 [] []] ∧ (l.l.length ≤ 1000000) ∧ r = .ret (I (firstW (fun o => !opRight o) l.l 0)) p
theorem t155 {T : XCall} (h : Has T 155 R155) (l : Lst Api_Op) {p : Hp} (hl : l.l.length ≤ 1000000) : T 155 [l.cv Api_Op.cv, .fn 83 [] []] p = .ret (I (firstW (fun o => !opRight o) l.l 0)) p := h _ _ _ ⟨l, rfl, hl, rfl⟩
theorem zq155 {A B : Prop} (h : A = B := by ((try simp -dsimp (disch := first | exact zdis | fail) only [zcore, zall, zopm, zop, zcallOp, qop, qbuiltin, ofOpt, List.map, reduceCtorEq, if_true, if_false, ↓reduceIte, zbin, eqRes, qassert, qnum, qshift, qun, kindOf, allocV, List.nil_append, List.append_nil, List.cons_append, List.length_cons, List.length_nil, Nat.reduceAdd, Nat.reduceEqDiff, Nat.reduceLT, Nat.reduceSub, Nat.reduceMul, Int.reduceToNat, Int.reduceLE, Int.reduceLT, Int.reduceEq, Int.reduceNeg, Int.reduceAdd, Int.reduceSub, beq_self_eq_true, cond_true, cond_false, isConstOpd, xpanic, xconv, isBytes, qconv, List.length_map, List.map_nil, List.map_cons, concrete, Option.some.injEq, exists_eq', Option.map_some, Option.map_none, List.getElem?_cons_zero, List.getElem?_cons_succ, zw155, rs155, tt3, tt23, tt29, ti3, ti23, ti29, t_83, zs_Api_Op, zsl23, hl, zx, hc]); rfl)) (k : B) : A := h ▸ k
theorem zno155 {P : Prop} (h : P := by intro jj; simp [CV.has, CV.hasL, fault, Trap_thrown.nohas, Api_Op.nohas]) : P := h
set_option maxHeartbeats 8000000 in
theorem c155 : Con C 155 R155 := by
  refine con_of C ?_ ?_ ?_
  · rintro args p r r' ⟨l, h, hl, e⟩ ⟨l', h', hl', e'⟩
    subst e; subst e'; simp_all [Api_Op.inj_iff, sl_inj23]
  · rintro args p r ⟨l, h, hl, rfl⟩; first | (split <;> simp; done) | (simp; done) | (simp only [resM]; split <;> simp; done) | (simp only [resD]; split <;> simp; done) 
  · rintro args p r ⟨l, rfl, hl, rfl⟩
    refine ans_walk C false noExt (tabL C [(83, R83)]) xf155 (noExt_ok C) (tabL_ok C _) zc155_ok (Nat.le_of_ble_eq_true (by kernel_rfl)) fun hF => ?_
    have t_83 := @t83 (tabL C [(83, R83)]) (has_head C c83 [])
    generalize tabL C [(83, R83)] = call at t_83 ⊢
    show W C false noExt call zc155 (argE [l.cv Api_Op.cv, .fn 83 [] []]) p (endQ C _ _)
    (have zx := True.intro; have hc := True.intro; refine zq155 (k := ?_); clear hc; try exact True.intro)
    repeat' ((first | refine condW_b ?_ ?_ | refine wantO_s ?_ ?_ | refine wantD_s _ _ _ _ ?_ ?_ | refine bindO_i ?_ ?_ | refine bindE_i _ _ _ _ ?_ ?_) <;> intro hc <;> (try simp only [zhd, zhn] at hc) <;> (try have hw := within_spec hc) <;> (refine zq155 (k := ?_); try exact True.intro))
    all_goals (try clear zx)
    show W C false noExt call (ZC.block 0 (ZC.loop zn155_7)) _ _ (seqQ _ _)
    show W C false noExt call (ZC.loop zn155_7) _ _ _
    refine W_loop C false noExt call zn155_7 _ _ _ (J155 l p) l.l.length ⟨0, rfl, by omega, (by simp [put_at, zput_none, argE_0]), (by simp [put_at, zput_none]; rfl), (by simp [put_at, zput_none, argE_0]), (by simp [put_at, zput_none, argE_0]), by simp, zle⟩ ?_
    rintro n ρ q ⟨k, rfl, hk, e0, e1, e7, e8, hj, hle⟩
    by_cases hlt : (k : Int) < l.l.length
    · have hd := drop_nth (l := l.l) (k := k) (by omega)
      rw [hd] at hj
      simp only [firstW] at hj
      cases hr : opRight (nth l.l k) with
      | true =>
        rw [if_neg (by simp [hr])] at hj
        (have zx := And.intro e0 (And.intro e1 (And.intro e7 (And.intro e8 (And.intro hlt hr)))); have hc := True.intro; refine zq155 (k := ?_); clear hc; try exact True.intro)
        repeat' ((first | refine condW_b ?_ ?_ | refine wantO_s ?_ ?_ | refine wantD_s _ _ _ _ ?_ ?_ | refine bindO_i ?_ ?_ | refine bindE_i _ _ _ _ ?_ ?_) <;> intro hc <;> (try simp only [zhd, zhn] at hc) <;> (try have hw := within_spec hc) <;> (refine zq155 (k := ?_); try exact True.intro))
        all_goals (try clear zx)
        exact ⟨l.l.length - (k + 1), by omega, k + 1, rfl, by omega, by simp [put_at, zput_none, e0], by simp [put_at, zput_none, e1], by simp [put_at, zput_none, e7], by simp [put_at, zput_none], by simpa using hj, zlq⟩
      | false =>
        rw [if_pos (by simp [hr])] at hj
        (have zx := And.intro e0 (And.intro e1 (And.intro e7 (And.intro e8 (And.intro hlt hr)))); have hc := True.intro; refine zq155 (k := ?_); clear hc; try exact True.intro)
        repeat' ((first | refine condW_b ?_ ?_ | refine wantO_s ?_ ?_ | refine wantD_s _ _ _ _ ?_ ?_ | refine bindO_i ?_ ?_ | refine bindE_i _ _ _ _ ?_ ?_) <;> intro hc <;> (try simp only [zhd, zhn] at hc) <;> (try have hw := within_spec hc) <;> (refine zq155 (k := ?_); try exact True.intro))
        all_goals (try clear zx)
        refine shr_keep hF zlq (weak_of_eq ?_ (lt_of_no zno155))
        rw [← hj]
    · (have zx := And.intro e0 (And.intro e1 (And.intro e7 (And.intro e8 hlt))); have hc := True.intro; refine zq155 (k := ?_); clear hc; try exact True.intro)
      repeat' ((first | refine condW_b ?_ ?_ | refine wantO_s ?_ ?_ | refine wantD_s _ _ _ _ ?_ ?_ | refine bindO_i ?_ ?_ | refine bindE_i _ _ _ _ ?_ ?_) <;> intro hc <;> (try simp only [zhd, zhn] at hc) <;> (try have hw := within_spec hc) <;> (refine zq155 (k := ?_); try exact True.intro))
      all_goals (try clear zx)
      refine shr_keep hF zlq (weak_of_eq ?_ (lt_of_no zno155))
      rw [← hj, List.drop_eq_nil_of_le (by omega)]; rfl
def R82 : Rel := fun args p r => ∃ (l : Lst Api_Op), args = [l.cv Api_Op.cv, .fn 83 [] []] ∧ (l.l.length ≤ 1000000) ∧ r = .ret (Bo (!l.l.all opRight)) p
theorem t82 {T : XCall} (h : Has T 82 R82) (l : Lst Api_Op) {p : Hp} (hl : l.l.length ≤ 1000000) : T 82 [l.cv Api_Op.cv, .fn 83 [] []] p = .ret (Bo (!l.l.all opRight)) p := h _ _ _ ⟨l, rfl, hl, rfl⟩
theorem zq82 {A B : Prop} (h : A = B := by ((try simp -dsimp (disch := first | exact zdis | fail) only [zcore, zall, zopm, zop, zcallOp, qop, qbuiltin, ofOpt, List.map, reduceCtorEq, if_true, if_false, ↓reduceIte, zbin, eqRes, qassert, qnum, qshift, qun, kindOf, allocV, List.nil_append, List.append_nil, List.cons_append, List.length_cons, List.length_nil, Nat.reduceAdd, Nat.reduceEqDiff, Nat.reduceLT, Nat.reduceSub, Nat.reduceMul, Int.reduceToNat, Int.reduceLE, Int.reduceLT, Int.reduceEq, Int.reduceNeg, Int.reduceAdd, Int.reduceSub, beq_self_eq_true, cond_true, cond_false, isConstOpd, xpanic, xconv, isBytes, qconv, List.length_map, List.map_nil, List.map_cons, concrete, Option.some.injEq, exists_eq', Option.map_some, Option.map_none, List.getElem?_cons_zero, List.getElem?_cons_succ, zw82, rs82, tt3, ti3, t_155, hl, zx, hc]); rfl)) (k : B) : A := h ▸ k
theorem zno82 {P : Prop} (h : P := by intro jj; simp [CV.has, CV.hasL, fault, Trap_thrown.nohas]) : P := h
set_option maxHeartbeats 8000000 in
theorem c82 : Con C 82 R82 := by
  refine con_of C ?_ ?_ ?_
  · rintro args p r r' ⟨l, h, hl, e⟩ ⟨l', h', hl', e'⟩
    subst e; subst e'; simp_all [sl_inj23]
  · rintro args p r ⟨l, h, hl, rfl⟩; first | (split <;> simp; done) | (simp; done) | (simp only [resM]; split <;> simp; done) | (simp only [resD]; split <;> simp; done) 
  · rintro args p r ⟨l, rfl, hl, rfl⟩
    refine ans_walk C false noExt (tabL C [(155, R155)]) xf82 (noExt_ok C) (tabL_ok C _) zc82_ok (Nat.le_of_ble_eq_true (by kernel_rfl)) fun hF => ?_
    have t_155 := @t155 (tabL C [(155, R155)]) (has_head C c155 [])
    generalize tabL C [(155, R155)] = call at t_155 ⊢
    show W C false noExt call zc82 (argE [l.cv Api_Op.cv, .fn 83 [] []]) p (endQ C _ _)
    (have zx := True.intro; have hc := True.intro; refine zq82 (k := ?_); clear hc; try exact True.intro)
    repeat' ((first | refine condW_b ?_ ?_ | refine wantO_s ?_ ?_ | refine wantD_s _ _ _ _ ?_ ?_ | refine bindO_i ?_ ?_ | refine bindE_i _ _ _ _ ?_ ?_) <;> intro hc <;> (try simp only [zhd, zhn] at hc) <;> (try have hw := within_spec hc) <;> (refine zq82 (k := ?_); try exact True.intro))
    all_goals (try clear zx)
    refine shr_keep hF zle (weak_of_eq ?_ (lt_of_no zno82))
    rw [← any_opRight, ← firstW_any _ _ 0]
def R29 : Rel := fun args p r => ∃ (l : Lst Api_Op), args = [l.cv Api_Op.cv] ∧ (l.l.length ≤ 1000000) ∧ r = .ret (Bo (ruleRight l.l)) p
theorem t29 {T : XCall} (h : Has T 29 R29) (l : Lst Api_Op) {p : Hp} (hl : l.l.length ≤ 1000000) : T 29 [l.cv Api_Op.cv] p = .ret (Bo (ruleRight l.l)) p := h _ _ _ ⟨l, rfl, hl, rfl⟩
theorem zq29 {A B : Prop} (h : A = B := by ((try simp -dsimp (disch := first | exact zdis | fail) only [zcore, zall, zopm, zop, zcallOp, qop, qbuiltin, ofOpt, List.map, reduceCtorEq, if_true, if_false, ↓reduceIte, zbin, eqRes, qassert, qnum, qshift, qun, kindOf, allocV, List.nil_append, List.append_nil, List.cons_append, List.length_cons, List.length_nil, Nat.reduceAdd, Nat.reduceEqDiff, Nat.reduceLT, Nat.reduceSub, Nat.reduceMul, Int.reduceToNat, Int.reduceLE, Int.reduceLT, Int.reduceEq, Int.reduceNeg, Int.reduceAdd, Int.reduceSub, beq_self_eq_true, cond_true, cond_false, isConstOpd, xpanic, xconv, isBytes, qconv, List.length_map, List.map_nil, List.map_cons, concrete, Option.some.injEq, exists_eq', Option.map_some, Option.map_none, List.getElem?_cons_zero, List.getElem?_cons_succ, zw29, rs29, tt3, tt23, ti3, ti23, t_82, zs_Api_Op, zsl23, hl, zx, hc]); rfl)) (k : B) : A := h ▸ k
theorem zno29 {P : Prop} (h : P := by intro jj; simp [CV.has, CV.hasL, fault, Trap_thrown.nohas, Api_Op.nohas]) : P := h
set_option maxHeartbeats 8000000 in
theorem c29 : Con C 29 R29 := by
  refine con_of C ?_ ?_ ?_
  · rintro args p r r' ⟨l, h, hl, e⟩ ⟨l', h', hl', e'⟩
    subst e; subst e'; simp_all [Api_Op.inj_iff, sl_inj23]
  · rintro args p r ⟨l, h, hl, rfl⟩; first | (split <;> simp; done) | (simp; done) | (simp only [resM]; split <;> simp; done) | (simp only [resD]; split <;> simp; done) 
  · rintro args p r ⟨l, rfl, hl, rfl⟩
    refine ans_walk C false noExt (tabL C [(82, R82)]) xf29 (noExt_ok C) (tabL_ok C _) zc29_ok (Nat.le_of_ble_eq_true (by kernel_rfl)) fun hF => ?_
    have t_82 := @t82 (tabL C [(82, R82)]) (has_head C c82 [])
    generalize tabL C [(82, R82)] = call at t_82 ⊢
    show W C false noExt call zc29 (argE [l.cv Api_Op.cv]) p (endQ C _ _)
    by_cases h16 : (l.l.length : Int) ≤ 16
    · (have zx := h16; have hc := True.intro; refine zq29 (k := ?_); clear hc; try exact True.intro)
      repeat' ((first | refine condW_b ?_ ?_ | refine wantO_s ?_ ?_ | refine wantD_s _ _ _ _ ?_ ?_ | refine bindO_i ?_ ?_ | refine bindE_i _ _ _ _ ?_ ?_) <;> intro hc <;> (try simp only [zhd, zhn] at hc) <;> (try have hw := within_spec hc) <;> (refine zq29 (k := ?_); try exact True.intro))
      all_goals (try clear zx)
      refine shr_keep hF zle (weak_of_eq ?_ (lt_of_no zno29))
      have h' : l.l.length ≤ 16 := by omega
      simp [ruleRight, h']
    · (have zx := h16; have hc := True.intro; refine zq29 (k := ?_); clear hc; try exact True.intro)
      repeat' ((first | refine condW_b ?_ ?_ | refine wantO_s ?_ ?_ | refine wantD_s _ _ _ _ ?_ ?_ | refine bindO_i ?_ ?_ | refine bindE_i _ _ _ _ ?_ ?_) <;> intro hc <;> (try simp only [zhd, zhn] at hc) <;> (try have hw := within_spec hc) <;> (refine zq29 (k := ?_); try exact True.intro))
      all_goals (try clear zx)
      refine shr_keep hF zle (weak_of_eq ?_ (lt_of_no zno29))
      have h' : ¬ l.l.length ≤ 16 := by omega
      simp [ruleRight, h']
def J30 (l : Lst Api_Op) (p : Hp) (n : Nat) (ρ : Env) (q : Hp) : Prop :=
  ∃ (k : Nat), n = l.l.length - k ∧ k ≤ l.l.length ∧ ρ 0 = l.cv Api_Op.cv ∧ ρ 3 = I k ∧ (l.l.drop k).all opRight = l.l.all opRight ∧ HpLe p q
def R30 : Rel := fun args p r => ∃ (l : Lst Api_Op), args = [l.cv Api_Op.cv] ∧ (l.l.length ≤ 1000000) ∧ r = .ret (Bo (ruleRight l.l)) p
theorem t30 {T : XCall} (h : Has T 30 R30) (l : Lst Api_Op) {p : Hp} (hl : l.l.length ≤ 1000000) : T 30 [l.cv Api_Op.cv] p = .ret (Bo (ruleRight l.l)) p := h _ _ _ ⟨l, rfl, hl, rfl⟩
theorem zq30 {A B : Prop} (h : A = B := by ((try simp -dsimp (disch := first | exact zdis | fail) only [zcore, zall, zopm, zop, zcallOp, qop, qbuiltin, ofOpt, List.map, reduceCtorEq, if_true, if_false, ↓reduceIte, zbin, eqRes, qassert, qnum, qshift, qun, kindOf, allocV, List.nil_append, List.append_nil, List.cons_append, List.length_cons, List.length_nil, Nat.reduceAdd, Nat.reduceEqDiff, Nat.reduceLT, Nat.reduceSub, Nat.reduceMul, Int.reduceToNat, Int.reduceLE, Int.reduceLT, Int.reduceEq, Int.reduceNeg, Int.reduceAdd, Int.reduceSub, beq_self_eq_true, cond_true, cond_false, isConstOpd, xpanic, xconv, isBytes, qconv, List.length_map, List.map_nil, List.map_cons, concrete, Option.some.injEq, exists_eq', Option.map_some, Option.map_none, List.getElem?_cons_zero, List.getElem?_cons_succ, zw30, rs30, tt3, tt23, tt29, ti3, ti23, ti29, t_85, zs_Api_Op, zsl23, hl, zx, hc]); rfl)) (k : B) : A := h ▸ k
theorem zno30 {P : Prop} (h : P := by intro jj; simp [CV.has, CV.hasL, fault, Trap_thrown.nohas, Api_Op.nohas]) : P := h
set_option maxHeartbeats 8000000 in
theorem c30 : Con C 30 R30 := by
  refine con_of C ?_ ?_ ?_
  · rintro args p r r' ⟨l, h, hl, e⟩ ⟨l', h', hl', e'⟩
    subst e; subst e'; simp_all [Api_Op.inj_iff, sl_inj23]
  · rintro args p r ⟨l, h, hl, rfl⟩; first | (split <;> simp; done) | (simp; done) | (simp only [resM]; split <;> simp; done) | (simp only [resD]; split <;> simp; done) 
  · rintro args p r ⟨l, rfl, hl, rfl⟩
    refine ans_walk C false noExt (tabL C [(85, R85)]) xf30 (noExt_ok C) (tabL_ok C _) zc30_ok (Nat.le_of_ble_eq_true (by kernel_rfl)) fun hF => ?_
    have t_85 := @t85 (tabL C [(85, R85)]) (has_head C c85 [])
    generalize tabL C [(85, R85)] = call at t_85 ⊢
    show W C false noExt call zc30 (argE [l.cv Api_Op.cv]) p (endQ C _ _)
    (have zx := True.intro; have hc := True.intro; refine zq30 (k := ?_); clear hc; try exact True.intro)
    repeat' ((first | refine condW_b ?_ ?_ | refine wantO_s ?_ ?_ | refine wantD_s _ _ _ _ ?_ ?_ | refine bindO_i ?_ ?_ | refine bindE_i _ _ _ _ ?_ ?_) <;> intro hc <;> (try simp only [zhd, zhn] at hc) <;> (try have hw := within_spec hc) <;> (refine zq30 (k := ?_); try exact True.intro))
    all_goals (try clear zx)
    show W C false noExt call (ZC.block 0 (ZC.loop zn30_7)) _ _ (seqQ _ _)
    show W C false noExt call (ZC.loop zn30_7) _ _ _
    refine W_loop C false noExt call zn30_7 _ _ _ (J30 l p) l.l.length ⟨0, rfl, by omega, (by simp [put_at, zput_none, argE_0]), (by simp [put_at, zput_none, argE_0]), by simp, zle⟩ ?_
    rintro n ρ q ⟨k, rfl, hk, e0, e3, hj, hle⟩
    by_cases hlt : (k : Int) < l.l.length
    · have hd := drop_nth (l := l.l) (k := k) (by omega)
      rw [hd] at hj
      simp only [List.all_cons] at hj
      cases hw : opRight (nth l.l k) with
      | true =>
        have hw' := hw
        simp only [opRight, Bool.and_eq_true] at hw'
        obtain ⟨⟨w1, w2⟩, w3⟩ := hw'
        rw [hw] at hj
        (have zx := And.intro e0 (And.intro e3 (And.intro hlt (And.intro w1 (And.intro w2 w3)))); have hc := True.intro; refine zq30 (k := ?_); clear hc; try exact True.intro)
        repeat' ((first | refine condW_b ?_ ?_ | refine wantO_s ?_ ?_ | refine wantD_s _ _ _ _ ?_ ?_ | refine bindO_i ?_ ?_ | refine bindE_i _ _ _ _ ?_ ?_) <;> intro hc <;> (try simp only [zhd, zhn] at hc) <;> (try have hw := within_spec hc) <;> (refine zq30 (k := ?_); try exact True.intro))
        all_goals (try clear zx)
        exact ⟨l.l.length - (k + 1), by omega, k + 1, rfl, by omega, by simp [put_at, zput_none, e0], by simp [put_at, zput_none], by simpa using hj, zlq⟩
      | false =>
        rw [hw] at hj
        (have zx := And.intro e0 (And.intro e3 hlt); have hc := True.intro; refine zq30 (k := ?_); clear hc; try exact True.intro)
        repeat' ((first | refine condW_b ?_ ?_ | refine wantO_s ?_ ?_ | refine wantD_s _ _ _ _ ?_ ?_ | refine bindO_i ?_ ?_ | refine bindE_i _ _ _ _ ?_ ?_) <;> intro hc <;> (try simp only [zhd, zhn] at hc) <;> (try have hw := within_spec hc) <;> (refine zq30 (k := ?_); try exact True.intro))
        all_goals (try clear zx)
        all_goals first
          | (exfalso; simp_all [opRight]; done)
          | (refine shr_keep hF zlq (weak_of_eq ?_ (lt_of_no zno30)); simp [ruleRight, ← hj]; done)
    · (have zx := And.intro e0 (And.intro e3 hlt); have hc := True.intro; refine zq30 (k := ?_); clear hc; try exact True.intro)
      repeat' ((first | refine condW_b ?_ ?_ | refine wantO_s ?_ ?_ | refine wantD_s _ _ _ _ ?_ ?_ | refine bindO_i ?_ ?_ | refine bindE_i _ _ _ _ ?_ ?_) <;> intro hc <;> (try simp only [zhd, zhn] at hc) <;> (try have hw := within_spec hc) <;> (refine zq30 (k := ?_); try exact True.intro))
      all_goals (try clear zx)
      refine shr_keep hF zlq (weak_of_eq ?_ (lt_of_no zno30))
      rw [List.drop_eq_nil_of_le (by omega)] at hj
      simp [ruleRight, ← hj] <;> omega
theorem sameE_envR (g : Rule_Env) : sameE g ⟨(envR g).Body, (envR g).In, (envR g).Dice, (envR g).Room, (envR g).Shots⟩ = true := by
  have : (⟨(envR g).Body, (envR g).In, (envR g).Dice, (envR g).Room, (envR g).Shots⟩ : Rule_Env) = g := rfl
  rw [this]; simp [sameE]
theorem ruleOf_envOf (x : Law12_RawEnv) : ruleOf ⟨(envOf x).Body, (envOf x).In, (envOf x).Dice, (envOf x).Room, ⟨.nil, [], fun _ => rfl⟩⟩ = envOf x := by
  simp [envOf, ruleOf, Rule_Env.zero]
def J5 (l : Lst Hand_RawOp) (x : Law12_RawEnv) (p : Hp) (n : Nat) (ρ : Env) (q : Hp) : Prop :=
  ∃ (k : Nat) (acc : Lst Api_Op), n = 20 - k ∧ k ≤ 20 ∧ k ≤ l.l.length ∧ ρ 0 = l.cv Hand_RawOp.cv ∧ ρ 3 = .ptr p.n [] ∧ ρ 5 = acc.cv Api_Op.cv ∧ ρ 6 = I k ∧ acc.l.length ≤ k ∧ App p.n acc q ∧ q.t.get p.n = some (.var sh27 x.cv) ∧ p.n < q.n ∧ HpLe p q
def K5 (x : Law12_RawEnv) (p : Hp) (ρ : Env) (q : Hp) : Prop :=
  ∃ (acc : Lst Api_Op), ρ 3 = .ptr p.n [] ∧ ρ 5 = acc.cv Api_Op.cv ∧ acc.l.length ≤ 20 ∧ q.t.get p.n = some (.var sh27 x.cv) ∧ p.n < q.n ∧ HpLe p q
def R5 : Rel := fun args p r => ∃ (l : Lst Hand_RawOp) (x : Law12_RawEnv), args = [l.cv Hand_RawOp.cv, x.cv] ∧ (-9223372036854775808 ≤ x.StickX ∧ x.StickX ≤ 9223372036854775807) ∧ r = .ret (Bo true) p
theorem zq5 {A B : Prop} (h : A = B := by ((try simp -dsimp (disch := first | exact zdis | fail) only [zcore, zall, zopm, zop, zcallOp, qop, qbuiltin, ofOpt, List.map, reduceCtorEq, if_true, if_false, ↓reduceIte, zbin, eqRes, qassert, qnum, qshift, qun, kindOf, allocV, List.nil_append, List.append_nil, List.cons_append, List.length_cons, List.length_nil, Nat.reduceAdd, Nat.reduceEqDiff, Nat.reduceLT, Nat.reduceSub, Nat.reduceMul, Int.reduceToNat, Int.reduceLE, Int.reduceLT, Int.reduceEq, Int.reduceNeg, Int.reduceAdd, Int.reduceSub, beq_self_eq_true, cond_true, cond_false, isConstOpd, xpanic, xconv, isBytes, qconv, List.length_map, List.map_nil, List.map_cons, concrete, Option.some.injEq, exists_eq', Option.map_some, Option.map_none, List.getElem?_cons_zero, List.getElem?_cons_succ, zw5, rs5, tt3, tt4, tt22, tt23, tt25, tt27, tt31, tt34, tt36, tt37, tt39, tt44, tt51, ti3, ti4, ti22, ti23, ti25, ti27, ti31, ti34, ti36, ti37, ti39, ti44, ti51, t_21, t_22, t_23, t_25, t_26, t_28, t_29, t_30, zs_Law12_RawEnv, zs_Rule_Env, zs_Api_Body, zs_Api_Input, zs_Hand_RawOp, zs_Api_Op, zs_Trap_Fault, zs_Ref11_Env, zsl22, zsl23, zsl37, ruleOf_envOf, sameE_envR, h1, zx, hc]); rfl)) (k : B) : A := h ▸ k
theorem zno5 {P : Prop} (h : P := by intro jj; simp [CV.has, CV.hasL, fault, Trap_thrown.nohas, Api_Body.nohas, Api_Input.nohas, Hand_RawOp.nohas, Api_Op.nohas, Trap_Fault.nohas]) : P := h
theorem zge5 {P : Prop} (h : P := by simp (disch := first | exact zdl | fail) only [zheap]; first | done | rfl) : P := h
set_option maxHeartbeats 8000000 in
theorem c5 : Con C 5 R5 := by
  refine con_of C ?_ ?_ ?_
  · rintro args p r r' ⟨l, x, h, h1, e⟩ ⟨l', x', h', h1', e'⟩
    subst e; subst e'; simp_all [Law12_RawEnv.inj_iff, Rule_Env.inj_iff, Api_Body.inj_iff, Api_Input.inj_iff, Hand_RawOp.inj_iff, Api_Op.inj_iff, Trap_Fault.inj_iff, Ref11_Env.inj_iff, sl_inj22, sl_inj23, sl_inj37]
  · rintro args p r ⟨l, x, h, h1, rfl⟩; first | (split <;> simp; done) | (simp; done) | (simp only [resM]; split <;> simp; done) | (simp only [resD]; split <;> simp; done) 
  · rintro args p r ⟨l, x, rfl, h1, rfl⟩
    refine ans_walk C false noExt (tabL C [(21, R21), (22, R22), (23, R23), (25, R25), (26, R26), (28, R28), (29, R29), (30, R30)]) xf5 (noExt_ok C) (tabL_ok C _) zc5_ok (Nat.le_of_ble_eq_true (by kernel_rfl)) fun hF => ?_
    have t_21 := @t21 (tabL C [(21, R21), (22, R22), (23, R23), (25, R25), (26, R26), (28, R28), (29, R29), (30, R30)]) (has_head C c21 [(22, R22), (23, R23), (25, R25), (26, R26), (28, R28), (29, R29), (30, R30)])
    have t_22 := @t22 (tabL C [(21, R21), (22, R22), (23, R23), (25, R25), (26, R26), (28, R28), (29, R29), (30, R30)]) (has_tail C _ rfl (has_head C c22 [(23, R23), (25, R25), (26, R26), (28, R28), (29, R29), (30, R30)]))
    have t_23 := @t23 (tabL C [(21, R21), (22, R22), (23, R23), (25, R25), (26, R26), (28, R28), (29, R29), (30, R30)]) (has_tail C _ rfl (has_tail C _ rfl (has_head C c23 [(25, R25), (26, R26), (28, R28), (29, R29), (30, R30)])))
    have t_25 := @t25 (tabL C [(21, R21), (22, R22), (23, R23), (25, R25), (26, R26), (28, R28), (29, R29), (30, R30)]) (has_tail C _ rfl (has_tail C _ rfl (has_tail C _ rfl (has_head C c25 [(26, R26), (28, R28), (29, R29), (30, R30)]))))
    have t_26 := @t26 (tabL C [(21, R21), (22, R22), (23, R23), (25, R25), (26, R26), (28, R28), (29, R29), (30, R30)]) (has_tail C _ rfl (has_tail C _ rfl (has_tail C _ rfl (has_tail C _ rfl (has_head C c26 [(28, R28), (29, R29), (30, R30)])))))
    have t_28 := @t28 (tabL C [(21, R21), (22, R22), (23, R23), (25, R25), (26, R26), (28, R28), (29, R29), (30, R30)]) (has_tail C _ rfl (has_tail C _ rfl (has_tail C _ rfl (has_tail C _ rfl (has_tail C _ rfl (has_head C c28 [(29, R29), (30, R30)]))))))
    have t_29 := @t29 (tabL C [(21, R21), (22, R22), (23, R23), (25, R25), (26, R26), (28, R28), (29, R29), (30, R30)]) (has_tail C _ rfl (has_tail C _ rfl (has_tail C _ rfl (has_tail C _ rfl (has_tail C _ rfl (has_tail C _ rfl (has_head C c29 [(30, R30)])))))))
    have t_30 := @t30 (tabL C [(21, R21), (22, R22), (23, R23), (25, R25), (26, R26), (28, R28), (29, R29), (30, R30)]) (has_tail C _ rfl (has_tail C _ rfl (has_tail C _ rfl (has_tail C _ rfl (has_tail C _ rfl (has_tail C _ rfl (has_tail C _ rfl (has_head C c30 []))))))))
    generalize tabL C [(21, R21), (22, R22), (23, R23), (25, R25), (26, R26), (28, R28), (29, R29), (30, R30)] = call at t_21 t_22 t_23 t_25 t_26 t_28 t_29 t_30 ⊢
    show W C false noExt call zc5 (argE [l.cv Hand_RawOp.cv, x.cv]) p (endQ C _ _)
    (have zx := True.intro; have hc := True.intro; refine zq5 (k := ?_); clear hc; try exact True.intro)
    repeat' ((first | refine condW_b ?_ ?_ | refine wantO_s ?_ ?_ | refine wantD_s _ _ _ _ ?_ ?_ | refine bindO_i ?_ ?_ | refine bindE_i _ _ _ _ ?_ ?_) <;> intro hc <;> (try simp only [zhd, zhn] at hc) <;> (try have hw := within_spec hc) <;> (refine zq5 (k := ?_); try exact True.intro))
    all_goals (try clear zx)
    show W C false noExt call (ZC.block 0 (ZC.loop zn5_9)) _ _ (seqQ _ _)
    refine W_cut C false noExt call _ _ _ _ (K5 x p) ?_ ?_
    · show W C false noExt call (ZC.loop zn5_9) _ _ _
      refine W_loop C false noExt call zn5_9 _ _ _ (J5 l x p) 20 ⟨0, ⟨.nil, [], fun _ => rfl⟩, rfl, by omega, by omega, (by simp [put_at, zput_none, argE_0]), (by simp [put_at, zput_none, argE_0]), by simp [put_at, zput_none, argE_0, Lst.cv], (by simp [put_at, zput_none, argE_0]), by simp, .inl rfl, zge5, (by simp only [Hp.bump_n, Hp.znew_n, Hp.zset_n]; omega), zle⟩ ?_
      rintro n ρ q ⟨k, acc, rfl, hk, hkl, e0, e3, e5, e6, hal, happ, g1, hn, hle⟩
      by_cases hlt : (k : Int) < l.l.length
      · by_cases h20 : (k : Int) < 20
        · obtain ⟨tl, al, ok⟩ := acc
          simp only at hal
          rcases happ with ht | ⟨j, ht, hj1, hj2, hj3, hj4⟩
          · simp only at ht
            subst ht
            (have zx := And.intro e0 (And.intro e3 (And.intro e5 (And.intro e6 (And.intro g1 (And.intro hlt h20))))); have hc := True.intro; refine zq5 (k := ?_); clear hc; try exact True.intro)
            repeat' ((first | refine condW_b ?_ ?_ | refine wantO_s ?_ ?_ | refine wantD_s _ _ _ _ ?_ ?_ | refine bindO_i ?_ ?_ | refine bindE_i _ _ _ _ ?_ ?_) <;> intro hc <;> (try simp only [zhd, zhn] at hc) <;> (try have hw := within_spec hc) <;> (refine zq5 (k := ?_); try exact True.intro))
            all_goals (try clear zx)
            refine ⟨20 - (k + 1), by omega, k + 1, ⟨.own q.n, al ++ [handOp (nth l.l k)], nofun⟩, rfl, by omega, by omega, by simp [put_at, zput_none, e0], by simp [put_at, zput_none, e3], by simp [put_at, zput_none], by simp [put_at, zput_none], by simp; omega, App.nw hn (by simp) (by omega), (by simp (disch := omega) only [Hp.get_new_ne, g1]), (by simp only [Hp.bump_n, Hp.znew_n, Hp.zset_n]; omega), zlq⟩
          · simp only at ht hj3 hj4
            subst ht
            (have zx := And.intro e0 (And.intro e3 (And.intro e5 (And.intro e6 (And.intro g1 (And.intro hlt h20))))); have hc := True.intro; refine zq5 (k := ?_); clear hc; try exact True.intro)
            repeat' ((first | refine condW_b ?_ ?_ | refine wantO_s ?_ ?_ | refine wantD_s _ _ _ _ ?_ ?_ | refine bindO_i ?_ ?_ | refine bindE_i _ _ _ _ ?_ ?_) <;> intro hc <;> (try simp only [zhd, zhn] at hc) <;> (try have hw := within_spec hc) <;> (refine zq5 (k := ?_); try exact True.intro))
            all_goals (try clear zx)
            refine ⟨20 - (k + 1), by omega, k + 1, ⟨.own q.n, al ++ [handOp (nth l.l k)], nofun⟩, rfl, by omega, by omega, by simp [put_at, zput_none, e0], by simp [put_at, zput_none, e3], by simp [put_at, zput_none], by simp [put_at, zput_none], by simp; omega, App.sw hn (by simp) (by omega), (by simp (disch := (first | omega | (simp only [Hp.zset_n]; omega))) only [Hp.get_new_ne, Hp.get_set_ne, g1]), (by simp only [Hp.bump_n, Hp.znew_n, Hp.zset_n]; omega), zlq⟩
        · (have zx := And.intro e0 (And.intro e3 (And.intro e5 (And.intro e6 (And.intro g1 (And.intro hlt h20))))); have hc := True.intro; refine zq5 (k := ?_); clear hc; try exact True.intro)
          repeat' ((first | refine condW_b ?_ ?_ | refine wantO_s ?_ ?_ | refine wantD_s _ _ _ _ ?_ ?_ | refine bindO_i ?_ ?_ | refine bindE_i _ _ _ _ ?_ ?_) <;> intro hc <;> (try simp only [zhd, zhn] at hc) <;> (try have hw := within_spec hc) <;> (refine zq5 (k := ?_); try exact True.intro))
          all_goals (try clear zx)
          exact ⟨acc, by simp [put_at, zput_none, e3], by simp [put_at, zput_none, e5], by omega, g1, hn, hle⟩
      · (have zx := And.intro e0 (And.intro e3 (And.intro e5 (And.intro e6 (And.intro g1 hlt)))); have hc := True.intro; refine zq5 (k := ?_); clear hc; try exact True.intro)
        repeat' ((first | refine condW_b ?_ ?_ | refine wantO_s ?_ ?_ | refine wantD_s _ _ _ _ ?_ ?_ | refine bindO_i ?_ ?_ | refine bindE_i _ _ _ _ ?_ ?_) <;> intro hc <;> (try simp only [zhd, zhn] at hc) <;> (try have hw := within_spec hc) <;> (refine zq5 (k := ?_); try exact True.intro))
        all_goals (try clear zx)
        exact ⟨acc, by simp [put_at, zput_none, e3], by simp [put_at, zput_none, e5], by omega, g1, hn, hle⟩
    rintro ρ q ⟨acc, e3, e5, hal, g1, hn, hle⟩
    have hv : (envOf x).Shots.tl ≠ .view := by simp [envOf, Rule_Env.zero]
    have hv2 : (envOf x).Shots.l.length ≤ 100000 := by simp [envOf, Rule_Env.zero]
    have hR : (ruleRun acc (envOf x)).1.Shots.l.length ≤ 7 := by have := runL_len x acc.l; rwa [show runL acc.l (envOf x) = ruleRun acc (envOf x) from ruleRun_l (l := acc) (s := ⟨.view, acc.l, nofun⟩) rfl _] at this
    (have zx := And.intro e3 (And.intro e5 g1); have hc := True.intro; refine zq5 (k := ?_); clear hc; try exact True.intro)
    repeat' ((first | refine condW_b ?_ ?_ | refine wantO_s ?_ ?_ | refine wantD_s _ _ _ _ ?_ ?_ | refine bindO_i ?_ ?_ | refine bindE_i _ _ _ _ ?_ ?_) <;> intro hc <;> (try simp only [zhd, zhn] at hc) <;> (try have hw := within_spec hc) <;> (refine zq5 (k := ?_); try exact True.intro))
    all_goals (try clear zx)
    all_goals exact shr_keep hF zlq (weak_self (lt_of_no zno5))
end Go.Proofs.Ytpchcfkebljopaa
end
