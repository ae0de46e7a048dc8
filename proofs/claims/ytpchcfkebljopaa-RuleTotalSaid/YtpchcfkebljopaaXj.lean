import Derived.Test.YtpchcfkebljopaaXi
set_option linter.unusedSimpArgs false
set_option linter.unusedVariables false
set_option linter.constructorNameAsVariable false
section
namespace Go.Proofs.Ytpchcfkebljopaa
open Go.Cl Go Go.RowKit
set_option maxRecDepth 100000
set_option linter.constructorNameAsVariable false
def envB (x : Law12_RawEnv) : Api_Body := { bodyBorn (pick x.X 4) 4 with X := pick x.X 4096, Y := pick x.Y 4096, VX := w64 (pick x.VX 129 - 64) }
def envK (x : Law12_RawEnv) (k : Nat) : Rule_Env := { Rule_Env.zero with Body := memN x.Mem.l k (envB x), In := handInput x.Buttons x.StickX, Dice := x.Dice, Room := pick x.Room 8 }
def J22 (x : Law12_RawEnv) (p : Hp) (n : Nat) (ρ : Env) (q : Hp) : Prop :=
  ∃ (k a : Nat), n = 4 - k ∧ k ≤ 4 ∧ k ≤ x.Mem.l.length ∧ ρ 1 = .ptr p.n [] ∧ ρ 2 = .ptr (p.n + 1) [] ∧ ρ 3 = .ptr a [] ∧ ρ 4 = I k ∧ p.n + 1 < a ∧ q.t.get p.n = some (.var sh27 x.cv) ∧ q.t.get (p.n + 1) = some (.var sh39 Rule_Env.zero.cv) ∧ q.t.get a = some (.var sh39 (envK x k).cv) ∧ HpLe p q
def R22 : Rel := fun args p r => ∃ (x : Law12_RawEnv), args = [x.cv] ∧ (-9223372036854775808 ≤ x.StickX ∧ x.StickX ≤ 9223372036854775807) ∧ r = .ret (envOf x).cv p
theorem t22 {T : XCall} (h : Has T 22 R22) (x : Law12_RawEnv) {p : Hp} (h1 : -9223372036854775808 ≤ x.StickX ∧ x.StickX ≤ 9223372036854775807) : T 22 [x.cv] p = .ret (envOf x).cv p := h _ _ _ ⟨x, rfl, h1, rfl⟩
set_option maxHeartbeats 8000000 in
theorem c22 : Con C 22 R22 := by
  refine con_of C ?_ ?_ ?_
  · rintro args p r r' ⟨x, h, h1, e⟩ ⟨x', h', h1', e'⟩
    subst e; subst e'; simp_all [Law12_RawEnv.inj_iff, Rule_Env.inj_iff, Api_Body.inj_iff, Api_Input.inj_iff, sl_inj24]
  · rintro args p r ⟨x, h, h1, rfl⟩; first | (split <;> simp; done) | (simp; done) | (simp only [resM]; split <;> simp; done) | (simp only [resD]; split <;> simp; done) 
  · rintro args p r ⟨x, rfl, h1, rfl⟩
    refine ans_walk C false noExt (tabL C [(37, R37), (64, R64), (69, R69)]) xf22 (noExt_ok C) (tabL_ok C _) zc22_ok (Nat.le_of_ble_eq_true (by kernel_rfl)) fun hF => ?_
    have t_37 := @t37 (tabL C [(37, R37), (64, R64), (69, R69)]) (has_head C c37 [(64, R64), (69, R69)])
    have t_64 := @t64 (tabL C [(37, R37), (64, R64), (69, R69)]) (has_tail C _ rfl (has_head C c64 [(69, R69)]))
    have t_69 := @t69 (tabL C [(37, R37), (64, R64), (69, R69)]) (has_tail C _ rfl (has_tail C _ rfl (has_head C c69 [])))
    generalize tabL C [(37, R37), (64, R64), (69, R69)] = call at t_37 t_64 t_69 ⊢
    show W C false noExt call zc22 (argE [x.cv]) p (endQ C _ _)
    simp -dsimp (disch := first | assumption | omega | (simp only [Hp.bump_n, Hp.znew_n, Hp.zset_n, List.length_nil, List.length_cons, List.length_append, List.length_map]; (first | done | omega)) | (simp (disch := first | omega | (simp only [Hp.bump_n, Hp.znew_n, Hp.zset_n, List.length_nil, List.length_cons, List.length_append, List.length_map]; (first | done | omega))) only [zheap]; done) | (simp (disch := first | omega | (simp only [Hp.bump_n, Hp.znew_n, Hp.zset_n, List.length_nil, List.length_cons, List.length_append, List.length_map]; (first | done | omega))) only [zheap]; rfl)) only [zall, zopm, zop, zcallOp, qop, qbuiltin, ofOpt, List.map, reduceCtorEq, if_true, if_false, ↓reduceIte, zbin, eqRes, qassert, qnum, qshift, qun, kindOf, allocV, true_and, and_true, and_self, List.nil_append, List.append_nil, List.cons_append, List.length_cons, List.length_nil, Nat.reduceAdd, Nat.reduceEqDiff, Nat.reduceLT, Nat.reduceSub, Nat.reduceMul, Int.reduceToNat, Int.reduceLE, Int.reduceLT, Int.reduceEq, Int.reduceNeg, Int.reduceAdd, Int.reduceSub, Bool.true_and, Bool.and_true, Bool.and_self, Bool.false_and, Bool.and_false, Bool.not_true, Bool.not_false, beq_self_eq_true, cond_true, cond_false, decide_true, decide_false, isConstOpd, xpanic, xconv, isBytes, qconv, List.length_map, List.map_nil, List.map_cons, concrete, Option.some.injEq, exists_eq', Int.toNat_natCast, Option.map_some, Option.map_none, List.getElem?_cons_zero, List.getElem?_cons_succ, zw22, rs22, tt3, tt24, tt25, tt27, tt32, tt34, tt39, ti3, ti24, ti25, ti27, ti32, ti34, ti39, t_37, t_64, t_69, zs_Law12_RawEnv, zs_Rule_Env, zs_Api_Body, zs_Api_Input, zsl24, zsl32, h1]
    repeat' ((first | (refine condW_b ?_ ?_ <;> intro hc) | (refine wantO_s ?_ ?_ <;> intro hc) | (refine wantD_s _ _ _ _ ?_ ?_ <;> intro hc) | (refine bindO_i ?_ ?_ <;> intro hc) | (refine bindE_i _ _ _ _ ?_ ?_ <;> intro hc)) <;> (try simp only [decide_eq_true_eq, decide_eq_false_iff_not, Bool.or_eq_true, Bool.and_eq_true, Bool.not_eq_true, Bool.not_eq_false, Bool.not_not, Classical.not_not, Int.not_le, Int.not_lt, Bool.not_eq_true', Bool.not_eq_false'] at hc) <;> (try have hw := within_spec hc) <;> (try simp -dsimp (disch := first | assumption | omega | (simp only [Hp.bump_n, Hp.znew_n, Hp.zset_n, List.length_nil, List.length_cons, List.length_append, List.length_map]; (first | done | omega)) | (simp (disch := first | omega | (simp only [Hp.bump_n, Hp.znew_n, Hp.zset_n, List.length_nil, List.length_cons, List.length_append, List.length_map]; (first | done | omega))) only [zheap]; done) | (simp (disch := first | omega | (simp only [Hp.bump_n, Hp.znew_n, Hp.zset_n, List.length_nil, List.length_cons, List.length_append, List.length_map]; (first | done | omega))) only [zheap]; rfl)) only [zall, zopm, zop, zcallOp, qop, qbuiltin, ofOpt, List.map, reduceCtorEq, if_true, if_false, ↓reduceIte, zbin, eqRes, qassert, qnum, qshift, qun, kindOf, allocV, true_and, and_true, and_self, List.nil_append, List.append_nil, List.cons_append, List.length_cons, List.length_nil, Nat.reduceAdd, Nat.reduceEqDiff, Nat.reduceLT, Nat.reduceSub, Nat.reduceMul, Int.reduceToNat, Int.reduceLE, Int.reduceLT, Int.reduceEq, Int.reduceNeg, Int.reduceAdd, Int.reduceSub, Bool.true_and, Bool.and_true, Bool.and_self, Bool.false_and, Bool.and_false, Bool.not_true, Bool.not_false, beq_self_eq_true, cond_true, cond_false, decide_true, decide_false, isConstOpd, xpanic, xconv, isBytes, qconv, List.length_map, List.map_nil, List.map_cons, concrete, Option.some.injEq, exists_eq', Int.toNat_natCast, Option.map_some, Option.map_none, List.getElem?_cons_zero, List.getElem?_cons_succ, zw22, rs22, tt3, tt24, tt25, tt27, tt32, tt34, tt39, ti3, ti24, ti25, ti27, ti32, ti34, ti39, t_37, t_64, t_69, zs_Law12_RawEnv, zs_Rule_Env, zs_Api_Body, zs_Api_Input, zsl24, zsl32, h1, hc]))
    show W C false noExt call (ZC.loop zn22_15) _ _ _
    refine W_loop C false noExt call zn22_15 _ _ _ (J22 x p) 4 ⟨0, p.n + 1 + 1 + 15, rfl, by omega, by omega, (by simp [put_at, zput_none, argE_0]), (by simp [put_at, zput_none, argE_0]), (by simp [put_at, zput_none, argE_0]), (by simp [put_at, zput_none, argE_0]), by omega, (by simp (disch := first | assumption | omega | (simp only [Hp.bump_n, Hp.znew_n, Hp.zset_n]; (first | done | omega))) only [zheap]; first | done | rfl), (by simp (disch := first | assumption | omega | (simp only [Hp.bump_n, Hp.znew_n, Hp.zset_n]; (first | done | omega))) only [zheap]; first | done | rfl), (by simp (disch := first | assumption | omega | (simp only [Hp.bump_n, Hp.znew_n, Hp.zset_n]; (first | done | omega))) only [zheap]; first | done | rfl), (fun k o h => by have hd := hF.dom k o h; (try simp (disch := first | assumption | omega | (simp only [Hp.bump_n, Hp.znew_n, Hp.zset_n, List.length_nil, List.length_cons, List.length_append, List.length_map]; (first | done | omega))) only [Hp.bump_get, Hp.get_set_ne, Hp.get_new_ne, Hp.bump_n, Hp.znew_n, Hp.zset_n]); exact h)⟩ ?_
    rintro n ρ q ⟨k, a, rfl, hk, hkl, e1, e2, e3, e4, ha, g1, g2, g3, hle⟩
    have hap : a ≠ p.n := by omega
    have hap1 : a ≠ p.n + 1 := by omega
    by_cases hlt : (k : Int) < x.Mem.l.length
    · by_cases h4 : (k : Int) < 4
      · have hk4 : k < 4 := by omega
        by_cases h8 : (nth x.Mem.l k).tmod 9 = 8
        · simp -dsimp (disch := first | assumption | omega | (simp only [Hp.bump_n, Hp.znew_n, Hp.zset_n, List.length_nil, List.length_cons, List.length_append, List.length_map]; (first | done | omega)) | (simp (disch := first | omega | (simp only [Hp.bump_n, Hp.znew_n, Hp.zset_n, List.length_nil, List.length_cons, List.length_append, List.length_map]; (first | done | omega))) only [zheap]; done) | (simp (disch := first | omega | (simp only [Hp.bump_n, Hp.znew_n, Hp.zset_n, List.length_nil, List.length_cons, List.length_append, List.length_map]; (first | done | omega))) only [zheap]; rfl) | (simp (disch := first | omega | (simp only [Hp.bump_n, Hp.znew_n, Hp.zset_n]; (first | done | omega))) only [zheap, g1, g2, g3]; done) | (simp (disch := first | omega | (simp only [Hp.bump_n, Hp.znew_n, Hp.zset_n]; (first | done | omega))) only [zheap, g1, g2, g3]; rfl)) only [zall, zopm, zop, zcallOp, qop, qbuiltin, ofOpt, List.map, reduceCtorEq, if_true, if_false, ↓reduceIte, zbin, eqRes, qassert, qnum, qshift, qun, kindOf, allocV, true_and, and_true, and_self, List.nil_append, List.append_nil, List.cons_append, List.length_cons, List.length_nil, Nat.reduceAdd, Nat.reduceEqDiff, Nat.reduceLT, Nat.reduceSub, Nat.reduceMul, Int.reduceToNat, Int.reduceLE, Int.reduceLT, Int.reduceEq, Int.reduceNeg, Int.reduceAdd, Int.reduceSub, Bool.true_and, Bool.and_true, Bool.and_self, Bool.false_and, Bool.and_false, Bool.not_true, Bool.not_false, beq_self_eq_true, cond_true, cond_false, decide_true, decide_false, isConstOpd, xpanic, xconv, isBytes, qconv, List.length_map, List.map_nil, List.map_cons, concrete, Option.some.injEq, exists_eq', Int.toNat_natCast, Option.map_some, Option.map_none, List.getElem?_cons_zero, List.getElem?_cons_succ, zw22, rs22, tt3, tt24, tt25, tt27, tt32, tt34, tt39, ti3, ti24, ti25, ti27, ti32, ti34, ti39, t_37, t_64, t_69, zs_Law12_RawEnv, zs_Rule_Env, zs_Api_Body, zs_Api_Input, zsl24, zsl32, h1, e1, e2, e3, e4, g1, g2, g3, hlt, h4, h8]
          repeat' ((first | (refine condW_b ?_ ?_ <;> intro hc) | (refine wantO_s ?_ ?_ <;> intro hc) | (refine wantD_s _ _ _ _ ?_ ?_ <;> intro hc) | (refine bindO_i ?_ ?_ <;> intro hc) | (refine bindE_i _ _ _ _ ?_ ?_ <;> intro hc)) <;> (try simp only [decide_eq_true_eq, decide_eq_false_iff_not, Bool.or_eq_true, Bool.and_eq_true, Bool.not_eq_true, Bool.not_eq_false, Bool.not_not, Classical.not_not, Int.not_le, Int.not_lt, Bool.not_eq_true', Bool.not_eq_false'] at hc) <;> (try have hw := within_spec hc) <;> (try simp -dsimp (disch := first | assumption | omega | (simp only [Hp.bump_n, Hp.znew_n, Hp.zset_n, List.length_nil, List.length_cons, List.length_append, List.length_map]; (first | done | omega)) | (simp (disch := first | omega | (simp only [Hp.bump_n, Hp.znew_n, Hp.zset_n, List.length_nil, List.length_cons, List.length_append, List.length_map]; (first | done | omega))) only [zheap]; done) | (simp (disch := first | omega | (simp only [Hp.bump_n, Hp.znew_n, Hp.zset_n, List.length_nil, List.length_cons, List.length_append, List.length_map]; (first | done | omega))) only [zheap]; rfl) | (simp (disch := first | omega | (simp only [Hp.bump_n, Hp.znew_n, Hp.zset_n]; (first | done | omega))) only [zheap, g1, g2, g3]; done) | (simp (disch := first | omega | (simp only [Hp.bump_n, Hp.znew_n, Hp.zset_n]; (first | done | omega))) only [zheap, g1, g2, g3]; rfl)) only [zall, zopm, zop, zcallOp, qop, qbuiltin, ofOpt, List.map, reduceCtorEq, if_true, if_false, ↓reduceIte, zbin, eqRes, qassert, qnum, qshift, qun, kindOf, allocV, true_and, and_true, and_self, List.nil_append, List.append_nil, List.cons_append, List.length_cons, List.length_nil, Nat.reduceAdd, Nat.reduceEqDiff, Nat.reduceLT, Nat.reduceSub, Nat.reduceMul, Int.reduceToNat, Int.reduceLE, Int.reduceLT, Int.reduceEq, Int.reduceNeg, Int.reduceAdd, Int.reduceSub, Bool.true_and, Bool.and_true, Bool.and_self, Bool.false_and, Bool.and_false, Bool.not_true, Bool.not_false, beq_self_eq_true, cond_true, cond_false, decide_true, decide_false, isConstOpd, xpanic, xconv, isBytes, qconv, List.length_map, List.map_nil, List.map_cons, concrete, Option.some.injEq, exists_eq', Int.toNat_natCast, Option.map_some, Option.map_none, List.getElem?_cons_zero, List.getElem?_cons_succ, zw22, rs22, tt3, tt24, tt25, tt27, tt32, tt34, tt39, ti3, ti24, ti25, ti27, ti32, ti34, ti39, t_37, t_64, t_69, zs_Law12_RawEnv, zs_Rule_Env, zs_Api_Body, zs_Api_Input, zsl24, zsl32, h1, e1, e2, e3, e4, g1, g2, g3, hlt, h4, h8, hc]))
          refine ⟨4 - (k + 1), by omega, k + 1, a, rfl, by omega, by omega, by simp [put_at, zput_none, e1], by simp [put_at, zput_none, e2], by simp [put_at, zput_none, e3], by simp [put_at, zput_none], ha, ?_, ?_, ?_, ?_⟩
          · simp (disch := omega) only [Hp.bump_get, Hp.get_set_ne, g1]
          · simp (disch := omega) only [Hp.bump_get, Hp.get_set_ne, g2]
          · simp only [Hp.bump_get, Hp.get_set_self]
            simp [envK, memN, memVal, h8, Api_Body.put_7k]
          · exact (fun k o h => by have hd := hF.dom k o h; (try simp (disch := first | assumption | omega | (simp only [Hp.bump_n, Hp.znew_n, Hp.zset_n]; (first | done | omega))) only [Hp.bump_get, Hp.get_set_ne, Hp.get_new_ne, Hp.bump_n, Hp.znew_n, Hp.zset_n]); exact hle k o h)
        · simp -dsimp (disch := first | assumption | omega | (simp only [Hp.bump_n, Hp.znew_n, Hp.zset_n, List.length_nil, List.length_cons, List.length_append, List.length_map]; (first | done | omega)) | (simp (disch := first | omega | (simp only [Hp.bump_n, Hp.znew_n, Hp.zset_n, List.length_nil, List.length_cons, List.length_append, List.length_map]; (first | done | omega))) only [zheap]; done) | (simp (disch := first | omega | (simp only [Hp.bump_n, Hp.znew_n, Hp.zset_n, List.length_nil, List.length_cons, List.length_append, List.length_map]; (first | done | omega))) only [zheap]; rfl) | (simp (disch := first | omega | (simp only [Hp.bump_n, Hp.znew_n, Hp.zset_n]; (first | done | omega))) only [zheap, g1, g2, g3]; done) | (simp (disch := first | omega | (simp only [Hp.bump_n, Hp.znew_n, Hp.zset_n]; (first | done | omega))) only [zheap, g1, g2, g3]; rfl)) only [zall, zopm, zop, zcallOp, qop, qbuiltin, ofOpt, List.map, reduceCtorEq, if_true, if_false, ↓reduceIte, zbin, eqRes, qassert, qnum, qshift, qun, kindOf, allocV, true_and, and_true, and_self, List.nil_append, List.append_nil, List.cons_append, List.length_cons, List.length_nil, Nat.reduceAdd, Nat.reduceEqDiff, Nat.reduceLT, Nat.reduceSub, Nat.reduceMul, Int.reduceToNat, Int.reduceLE, Int.reduceLT, Int.reduceEq, Int.reduceNeg, Int.reduceAdd, Int.reduceSub, Bool.true_and, Bool.and_true, Bool.and_self, Bool.false_and, Bool.and_false, Bool.not_true, Bool.not_false, beq_self_eq_true, cond_true, cond_false, decide_true, decide_false, isConstOpd, xpanic, xconv, isBytes, qconv, List.length_map, List.map_nil, List.map_cons, concrete, Option.some.injEq, exists_eq', Int.toNat_natCast, Option.map_some, Option.map_none, List.getElem?_cons_zero, List.getElem?_cons_succ, zw22, rs22, tt3, tt24, tt25, tt27, tt32, tt34, tt39, ti3, ti24, ti25, ti27, ti32, ti34, ti39, t_37, t_64, t_69, zs_Law12_RawEnv, zs_Rule_Env, zs_Api_Body, zs_Api_Input, zsl24, zsl32, h1, e1, e2, e3, e4, g1, g2, g3, hlt, h4, h8]
          repeat' ((first | (refine condW_b ?_ ?_ <;> intro hc) | (refine wantO_s ?_ ?_ <;> intro hc) | (refine wantD_s _ _ _ _ ?_ ?_ <;> intro hc) | (refine bindO_i ?_ ?_ <;> intro hc) | (refine bindE_i _ _ _ _ ?_ ?_ <;> intro hc)) <;> (try simp only [decide_eq_true_eq, decide_eq_false_iff_not, Bool.or_eq_true, Bool.and_eq_true, Bool.not_eq_true, Bool.not_eq_false, Bool.not_not, Classical.not_not, Int.not_le, Int.not_lt, Bool.not_eq_true', Bool.not_eq_false'] at hc) <;> (try have hw := within_spec hc) <;> (try simp -dsimp (disch := first | assumption | omega | (simp only [Hp.bump_n, Hp.znew_n, Hp.zset_n, List.length_nil, List.length_cons, List.length_append, List.length_map]; (first | done | omega)) | (simp (disch := first | omega | (simp only [Hp.bump_n, Hp.znew_n, Hp.zset_n, List.length_nil, List.length_cons, List.length_append, List.length_map]; (first | done | omega))) only [zheap]; done) | (simp (disch := first | omega | (simp only [Hp.bump_n, Hp.znew_n, Hp.zset_n, List.length_nil, List.length_cons, List.length_append, List.length_map]; (first | done | omega))) only [zheap]; rfl) | (simp (disch := first | omega | (simp only [Hp.bump_n, Hp.znew_n, Hp.zset_n]; (first | done | omega))) only [zheap, g1, g2, g3]; done) | (simp (disch := first | omega | (simp only [Hp.bump_n, Hp.znew_n, Hp.zset_n]; (first | done | omega))) only [zheap, g1, g2, g3]; rfl)) only [zall, zopm, zop, zcallOp, qop, qbuiltin, ofOpt, List.map, reduceCtorEq, if_true, if_false, ↓reduceIte, zbin, eqRes, qassert, qnum, qshift, qun, kindOf, allocV, true_and, and_true, and_self, List.nil_append, List.append_nil, List.cons_append, List.length_cons, List.length_nil, Nat.reduceAdd, Nat.reduceEqDiff, Nat.reduceLT, Nat.reduceSub, Nat.reduceMul, Int.reduceToNat, Int.reduceLE, Int.reduceLT, Int.reduceEq, Int.reduceNeg, Int.reduceAdd, Int.reduceSub, Bool.true_and, Bool.and_true, Bool.and_self, Bool.false_and, Bool.and_false, Bool.not_true, Bool.not_false, beq_self_eq_true, cond_true, cond_false, decide_true, decide_false, isConstOpd, xpanic, xconv, isBytes, qconv, List.length_map, List.map_nil, List.map_cons, concrete, Option.some.injEq, exists_eq', Int.toNat_natCast, Option.map_some, Option.map_none, List.getElem?_cons_zero, List.getElem?_cons_succ, zw22, rs22, tt3, tt24, tt25, tt27, tt32, tt34, tt39, ti3, ti24, ti25, ti27, ti32, ti34, ti39, t_37, t_64, t_69, zs_Law12_RawEnv, zs_Rule_Env, zs_Api_Body, zs_Api_Input, zsl24, zsl32, h1, e1, e2, e3, e4, g1, g2, g3, hlt, h4, h8, hc]))
          refine ⟨4 - (k + 1), by omega, k + 1, a, rfl, by omega, by omega, by simp [put_at, zput_none, e1], by simp [put_at, zput_none, e2], by simp [put_at, zput_none, e3], by simp [put_at, zput_none], ha, ?_, ?_, ?_, ?_⟩
          · simp (disch := omega) only [Hp.bump_get, Hp.get_set_ne, g1]
          · simp (disch := omega) only [Hp.bump_get, Hp.get_set_ne, g2]
          · simp only [Hp.bump_get, Hp.get_set_self]
            simp [envK, memN, memVal, h8, Api_Body.put_7k]
          · exact (fun k o h => by have hd := hF.dom k o h; (try simp (disch := first | assumption | omega | (simp only [Hp.bump_n, Hp.znew_n, Hp.zset_n]; (first | done | omega))) only [Hp.bump_get, Hp.get_set_ne, Hp.get_new_ne, Hp.bump_n, Hp.znew_n, Hp.zset_n]); exact hle k o h)
      · simp -dsimp (disch := first | assumption | omega | (simp only [Hp.bump_n, Hp.znew_n, Hp.zset_n, List.length_nil, List.length_cons, List.length_append, List.length_map]; (first | done | omega)) | (simp (disch := first | omega | (simp only [Hp.bump_n, Hp.znew_n, Hp.zset_n, List.length_nil, List.length_cons, List.length_append, List.length_map]; (first | done | omega))) only [zheap]; done) | (simp (disch := first | omega | (simp only [Hp.bump_n, Hp.znew_n, Hp.zset_n, List.length_nil, List.length_cons, List.length_append, List.length_map]; (first | done | omega))) only [zheap]; rfl) | (simp (disch := first | omega | (simp only [Hp.bump_n, Hp.znew_n, Hp.zset_n]; (first | done | omega))) only [zheap, g1, g2, g3]; done) | (simp (disch := first | omega | (simp only [Hp.bump_n, Hp.znew_n, Hp.zset_n]; (first | done | omega))) only [zheap, g1, g2, g3]; rfl)) only [zall, zopm, zop, zcallOp, qop, qbuiltin, ofOpt, List.map, reduceCtorEq, if_true, if_false, ↓reduceIte, zbin, eqRes, qassert, qnum, qshift, qun, kindOf, allocV, true_and, and_true, and_self, List.nil_append, List.append_nil, List.cons_append, List.length_cons, List.length_nil, Nat.reduceAdd, Nat.reduceEqDiff, Nat.reduceLT, Nat.reduceSub, Nat.reduceMul, Int.reduceToNat, Int.reduceLE, Int.reduceLT, Int.reduceEq, Int.reduceNeg, Int.reduceAdd, Int.reduceSub, Bool.true_and, Bool.and_true, Bool.and_self, Bool.false_and, Bool.and_false, Bool.not_true, Bool.not_false, beq_self_eq_true, cond_true, cond_false, decide_true, decide_false, isConstOpd, xpanic, xconv, isBytes, qconv, List.length_map, List.map_nil, List.map_cons, concrete, Option.some.injEq, exists_eq', Int.toNat_natCast, Option.map_some, Option.map_none, List.getElem?_cons_zero, List.getElem?_cons_succ, zw22, rs22, tt3, tt24, tt25, tt27, tt32, tt34, tt39, ti3, ti24, ti25, ti27, ti32, ti34, ti39, t_37, t_64, t_69, zs_Law12_RawEnv, zs_Rule_Env, zs_Api_Body, zs_Api_Input, zsl24, zsl32, h1, e1, e2, e3, e4, g1, g2, g3, hlt, h4]
        repeat' ((first | (refine condW_b ?_ ?_ <;> intro hc) | (refine wantO_s ?_ ?_ <;> intro hc) | (refine wantD_s _ _ _ _ ?_ ?_ <;> intro hc) | (refine bindO_i ?_ ?_ <;> intro hc) | (refine bindE_i _ _ _ _ ?_ ?_ <;> intro hc)) <;> (try simp only [decide_eq_true_eq, decide_eq_false_iff_not, Bool.or_eq_true, Bool.and_eq_true, Bool.not_eq_true, Bool.not_eq_false, Bool.not_not, Classical.not_not, Int.not_le, Int.not_lt, Bool.not_eq_true', Bool.not_eq_false'] at hc) <;> (try have hw := within_spec hc) <;> (try simp -dsimp (disch := first | assumption | omega | (simp only [Hp.bump_n, Hp.znew_n, Hp.zset_n, List.length_nil, List.length_cons, List.length_append, List.length_map]; (first | done | omega)) | (simp (disch := first | omega | (simp only [Hp.bump_n, Hp.znew_n, Hp.zset_n, List.length_nil, List.length_cons, List.length_append, List.length_map]; (first | done | omega))) only [zheap]; done) | (simp (disch := first | omega | (simp only [Hp.bump_n, Hp.znew_n, Hp.zset_n, List.length_nil, List.length_cons, List.length_append, List.length_map]; (first | done | omega))) only [zheap]; rfl) | (simp (disch := first | omega | (simp only [Hp.bump_n, Hp.znew_n, Hp.zset_n]; (first | done | omega))) only [zheap, g1, g2, g3]; done) | (simp (disch := first | omega | (simp only [Hp.bump_n, Hp.znew_n, Hp.zset_n]; (first | done | omega))) only [zheap, g1, g2, g3]; rfl)) only [zall, zopm, zop, zcallOp, qop, qbuiltin, ofOpt, List.map, reduceCtorEq, if_true, if_false, ↓reduceIte, zbin, eqRes, qassert, qnum, qshift, qun, kindOf, allocV, true_and, and_true, and_self, List.nil_append, List.append_nil, List.cons_append, List.length_cons, List.length_nil, Nat.reduceAdd, Nat.reduceEqDiff, Nat.reduceLT, Nat.reduceSub, Nat.reduceMul, Int.reduceToNat, Int.reduceLE, Int.reduceLT, Int.reduceEq, Int.reduceNeg, Int.reduceAdd, Int.reduceSub, Bool.true_and, Bool.and_true, Bool.and_self, Bool.false_and, Bool.and_false, Bool.not_true, Bool.not_false, beq_self_eq_true, cond_true, cond_false, decide_true, decide_false, isConstOpd, xpanic, xconv, isBytes, qconv, List.length_map, List.map_nil, List.map_cons, concrete, Option.some.injEq, exists_eq', Int.toNat_natCast, Option.map_some, Option.map_none, List.getElem?_cons_zero, List.getElem?_cons_succ, zw22, rs22, tt3, tt24, tt25, tt27, tt32, tt34, tt39, ti3, ti24, ti25, ti27, ti32, ti34, ti39, t_37, t_64, t_69, zs_Law12_RawEnv, zs_Rule_Env, zs_Api_Body, zs_Api_Input, zsl24, zsl32, h1, e1, e2, e3, e4, g1, g2, g3, hlt, h4, hc]))
        all_goals
          have hk' : min x.Mem.l.length 4 = k := by omega
          refine shr_keep hF (fun k o h => by have hd := hF.dom k o h; (try simp (disch := first | assumption | omega | (simp only [Hp.bump_n, Hp.znew_n, Hp.zset_n]; (first | done | omega))) only [Hp.bump_get, Hp.get_set_ne, Hp.get_new_ne, Hp.bump_n, Hp.znew_n, Hp.zset_n]); exact hle k o h) (weak_of_eq ?_ (lt_of_no fun j hj => by simp [Rule_Env.has, envOf, Rule_Env.zero] at hj))
          simp [envOf, envK, envB, hk', hc]
    · simp -dsimp (disch := first | assumption | omega | (simp only [Hp.bump_n, Hp.znew_n, Hp.zset_n, List.length_nil, List.length_cons, List.length_append, List.length_map]; (first | done | omega)) | (simp (disch := first | omega | (simp only [Hp.bump_n, Hp.znew_n, Hp.zset_n, List.length_nil, List.length_cons, List.length_append, List.length_map]; (first | done | omega))) only [zheap]; done) | (simp (disch := first | omega | (simp only [Hp.bump_n, Hp.znew_n, Hp.zset_n, List.length_nil, List.length_cons, List.length_append, List.length_map]; (first | done | omega))) only [zheap]; rfl) | (simp (disch := first | omega | (simp only [Hp.bump_n, Hp.znew_n, Hp.zset_n]; (first | done | omega))) only [zheap, g1, g2, g3]; done) | (simp (disch := first | omega | (simp only [Hp.bump_n, Hp.znew_n, Hp.zset_n]; (first | done | omega))) only [zheap, g1, g2, g3]; rfl)) only [zall, zopm, zop, zcallOp, qop, qbuiltin, ofOpt, List.map, reduceCtorEq, if_true, if_false, ↓reduceIte, zbin, eqRes, qassert, qnum, qshift, qun, kindOf, allocV, true_and, and_true, and_self, List.nil_append, List.append_nil, List.cons_append, List.length_cons, List.length_nil, Nat.reduceAdd, Nat.reduceEqDiff, Nat.reduceLT, Nat.reduceSub, Nat.reduceMul, Int.reduceToNat, Int.reduceLE, Int.reduceLT, Int.reduceEq, Int.reduceNeg, Int.reduceAdd, Int.reduceSub, Bool.true_and, Bool.and_true, Bool.and_self, Bool.false_and, Bool.and_false, Bool.not_true, Bool.not_false, beq_self_eq_true, cond_true, cond_false, decide_true, decide_false, isConstOpd, xpanic, xconv, isBytes, qconv, List.length_map, List.map_nil, List.map_cons, concrete, Option.some.injEq, exists_eq', Int.toNat_natCast, Option.map_some, Option.map_none, List.getElem?_cons_zero, List.getElem?_cons_succ, zw22, rs22, tt3, tt24, tt25, tt27, tt32, tt34, tt39, ti3, ti24, ti25, ti27, ti32, ti34, ti39, t_37, t_64, t_69, zs_Law12_RawEnv, zs_Rule_Env, zs_Api_Body, zs_Api_Input, zsl24, zsl32, h1, e1, e2, e3, e4, g1, g2, g3, hlt]
      repeat' ((first | (refine condW_b ?_ ?_ <;> intro hc) | (refine wantO_s ?_ ?_ <;> intro hc) | (refine wantD_s _ _ _ _ ?_ ?_ <;> intro hc) | (refine bindO_i ?_ ?_ <;> intro hc) | (refine bindE_i _ _ _ _ ?_ ?_ <;> intro hc)) <;> (try simp only [decide_eq_true_eq, decide_eq_false_iff_not, Bool.or_eq_true, Bool.and_eq_true, Bool.not_eq_true, Bool.not_eq_false, Bool.not_not, Classical.not_not, Int.not_le, Int.not_lt, Bool.not_eq_true', Bool.not_eq_false'] at hc) <;> (try have hw := within_spec hc) <;> (try simp -dsimp (disch := first | assumption | omega | (simp only [Hp.bump_n, Hp.znew_n, Hp.zset_n, List.length_nil, List.length_cons, List.length_append, List.length_map]; (first | done | omega)) | (simp (disch := first | omega | (simp only [Hp.bump_n, Hp.znew_n, Hp.zset_n, List.length_nil, List.length_cons, List.length_append, List.length_map]; (first | done | omega))) only [zheap]; done) | (simp (disch := first | omega | (simp only [Hp.bump_n, Hp.znew_n, Hp.zset_n, List.length_nil, List.length_cons, List.length_append, List.length_map]; (first | done | omega))) only [zheap]; rfl) | (simp (disch := first | omega | (simp only [Hp.bump_n, Hp.znew_n, Hp.zset_n]; (first | done | omega))) only [zheap, g1, g2, g3]; done) | (simp (disch := first | omega | (simp only [Hp.bump_n, Hp.znew_n, Hp.zset_n]; (first | done | omega))) only [zheap, g1, g2, g3]; rfl)) only [zall, zopm, zop, zcallOp, qop, qbuiltin, ofOpt, List.map, reduceCtorEq, if_true, if_false, ↓reduceIte, zbin, eqRes, qassert, qnum, qshift, qun, kindOf, allocV, true_and, and_true, and_self, List.nil_append, List.append_nil, List.cons_append, List.length_cons, List.length_nil, Nat.reduceAdd, Nat.reduceEqDiff, Nat.reduceLT, Nat.reduceSub, Nat.reduceMul, Int.reduceToNat, Int.reduceLE, Int.reduceLT, Int.reduceEq, Int.reduceNeg, Int.reduceAdd, Int.reduceSub, Bool.true_and, Bool.and_true, Bool.and_self, Bool.false_and, Bool.and_false, Bool.not_true, Bool.not_false, beq_self_eq_true, cond_true, cond_false, decide_true, decide_false, isConstOpd, xpanic, xconv, isBytes, qconv, List.length_map, List.map_nil, List.map_cons, concrete, Option.some.injEq, exists_eq', Int.toNat_natCast, Option.map_some, Option.map_none, List.getElem?_cons_zero, List.getElem?_cons_succ, zw22, rs22, tt3, tt24, tt25, tt27, tt32, tt34, tt39, ti3, ti24, ti25, ti27, ti32, ti34, ti39, t_37, t_64, t_69, zs_Law12_RawEnv, zs_Rule_Env, zs_Api_Body, zs_Api_Input, zsl24, zsl32, h1, e1, e2, e3, e4, g1, g2, g3, hlt, hc]))
      all_goals
        have hk' : min x.Mem.l.length 4 = k := by omega
        refine shr_keep hF (fun k o h => by have hd := hF.dom k o h; (try simp (disch := first | assumption | omega | (simp only [Hp.bump_n, Hp.znew_n, Hp.zset_n]; (first | done | omega))) only [Hp.bump_get, Hp.get_set_ne, Hp.get_new_ne, Hp.bump_n, Hp.znew_n, Hp.zset_n]); exact hle k o h) (weak_of_eq ?_ (lt_of_no fun j hj => by simp [Rule_Env.has, envOf, Rule_Env.zero] at hj))
        simp [envOf, envK, envB, hk', hc]
def J26 (a b : Rule_Env) (p : Hp) (n : Nat) (ρ : Env) (q : Hp) : Prop :=
  ∃ k, n = a.Shots.l.length - k ∧ k ≤ a.Shots.l.length ∧ ρ 2 = .ptr p.n [] ∧ ρ 3 = .ptr (p.n + 1) [] ∧ ρ 43 = I a.Shots.l.length ∧ ρ 44 = I k ∧ q.t.get p.n = some (.var sh39 a.cv) ∧ q.t.get (p.n + 1) = some (.var sh39 b.cv) ∧ HpLe p q ∧ (∀ j, j < k → nth a.Shots.l j = nth b.Shots.l j)
def R26 : Rel := fun args p r => ∃ (a b : Rule_Env), args = [a.cv, b.cv] ∧ (a.Shots.l.length ≤ 1000000) ∧ r = .ret (Bo (sameE a b)) p
theorem t26 {T : XCall} (h : Has T 26 R26) (a b : Rule_Env) {p : Hp} (h1 : a.Shots.l.length ≤ 1000000) : T 26 [a.cv, b.cv] p = .ret (Bo (sameE a b)) p := h _ _ _ ⟨a, b, rfl, h1, rfl⟩
set_option maxHeartbeats 8000000 in
theorem c26 : Con C 26 R26 := by
  refine con_of C ?_ ?_ ?_
  · rintro args p r r' ⟨a, b, h, h1, e⟩ ⟨a', b', h', h1', e'⟩
    subst e; subst e'; simp_all [Rule_Env.inj_iff, Api_Body.inj_iff, Api_Input.inj_iff, sl_inj37]
  · rintro args p r ⟨a, b, h, h1, rfl⟩; first | (split <;> simp; done) | (simp; done) | (simp only [resM]; split <;> simp; done) | (simp only [resD]; split <;> simp; done) 
  · rintro args p r ⟨a, b, rfl, h1, rfl⟩
    refine ans_walk C false noExt (tabL C []) xf26 (noExt_ok C) (tabL_ok C _) zc26_ok (Nat.le_of_ble_eq_true (by kernel_rfl)) fun hF => ?_
    generalize tabL C [] = call
    show W C false noExt call zc26 (argE [a.cv, b.cv]) p (endQ C _ _)
    simp -dsimp (disch := first | assumption | omega | (simp only [Hp.bump_n, Hp.znew_n, Hp.zset_n, List.length_nil, List.length_cons, List.length_append, List.length_map]; (first | done | omega)) | (simp (disch := first | omega | (simp only [Hp.bump_n, Hp.znew_n, Hp.zset_n, List.length_nil, List.length_cons, List.length_append, List.length_map]; (first | done | omega))) only [zheap]; done) | (simp (disch := first | omega | (simp only [Hp.bump_n, Hp.znew_n, Hp.zset_n, List.length_nil, List.length_cons, List.length_append, List.length_map]; (first | done | omega))) only [zheap]; rfl)) only [zall, zopm, zop, zcallOp, qop, qbuiltin, ofOpt, List.map, reduceCtorEq, if_true, if_false, ↓reduceIte, zbin, eqRes, qassert, qnum, qshift, qun, kindOf, allocV, true_and, and_true, and_self, List.nil_append, List.append_nil, List.cons_append, List.length_cons, List.length_nil, Nat.reduceAdd, Nat.reduceEqDiff, Nat.reduceLT, Nat.reduceSub, Nat.reduceMul, Int.reduceToNat, Int.reduceLE, Int.reduceLT, Int.reduceEq, Int.reduceNeg, Int.reduceAdd, Int.reduceSub, Bool.true_and, Bool.and_true, Bool.and_self, Bool.false_and, Bool.and_false, Bool.not_true, Bool.not_false, beq_self_eq_true, cond_true, cond_false, decide_true, decide_false, isConstOpd, xpanic, xconv, isBytes, qconv, List.length_map, List.map_nil, List.map_cons, concrete, Option.some.injEq, exists_eq', Int.toNat_natCast, Option.map_some, Option.map_none, List.getElem?_cons_zero, List.getElem?_cons_succ, zw26, rs26, tt3, tt25, tt34, tt36, tt37, tt39, ti3, ti25, ti34, ti36, ti37, ti39, zs_Rule_Env, zs_Api_Body, zs_Api_Input, zsl37, h1]
    repeat' ((first | (refine condW_b ?_ ?_ <;> intro hc) | (refine wantO_s ?_ ?_ <;> intro hc) | (refine wantD_s _ _ _ _ ?_ ?_ <;> intro hc) | (refine bindO_i ?_ ?_ <;> intro hc) | (refine bindE_i _ _ _ _ ?_ ?_ <;> intro hc)) <;> (try simp only [decide_eq_true_eq, decide_eq_false_iff_not, Bool.or_eq_true, Bool.and_eq_true, Bool.not_eq_true, Bool.not_eq_false, Bool.not_not, Classical.not_not, Int.not_le, Int.not_lt, Bool.not_eq_true', Bool.not_eq_false'] at hc) <;> (try have hw := within_spec hc) <;> (try simp -dsimp (disch := first | assumption | omega | (simp only [Hp.bump_n, Hp.znew_n, Hp.zset_n, List.length_nil, List.length_cons, List.length_append, List.length_map]; (first | done | omega)) | (simp (disch := first | omega | (simp only [Hp.bump_n, Hp.znew_n, Hp.zset_n, List.length_nil, List.length_cons, List.length_append, List.length_map]; (first | done | omega))) only [zheap]; done) | (simp (disch := first | omega | (simp only [Hp.bump_n, Hp.znew_n, Hp.zset_n, List.length_nil, List.length_cons, List.length_append, List.length_map]; (first | done | omega))) only [zheap]; rfl)) only [zall, zopm, zop, zcallOp, qop, qbuiltin, ofOpt, List.map, reduceCtorEq, if_true, if_false, ↓reduceIte, zbin, eqRes, qassert, qnum, qshift, qun, kindOf, allocV, true_and, and_true, and_self, List.nil_append, List.append_nil, List.cons_append, List.length_cons, List.length_nil, Nat.reduceAdd, Nat.reduceEqDiff, Nat.reduceLT, Nat.reduceSub, Nat.reduceMul, Int.reduceToNat, Int.reduceLE, Int.reduceLT, Int.reduceEq, Int.reduceNeg, Int.reduceAdd, Int.reduceSub, Bool.true_and, Bool.and_true, Bool.and_self, Bool.false_and, Bool.and_false, Bool.not_true, Bool.not_false, beq_self_eq_true, cond_true, cond_false, decide_true, decide_false, isConstOpd, xpanic, xconv, isBytes, qconv, List.length_map, List.map_nil, List.map_cons, concrete, Option.some.injEq, exists_eq', Int.toNat_natCast, Option.map_some, Option.map_none, List.getElem?_cons_zero, List.getElem?_cons_succ, zw26, rs26, tt3, tt25, tt34, tt36, tt37, tt39, ti3, ti25, ti34, ti36, ti37, ti39, zs_Rule_Env, zs_Api_Body, zs_Api_Input, zsl37, h1, hc]))
    · have hlen : a.Shots.l.length = b.Shots.l.length := by omega
      show W C false noExt call (ZC.loop zn26_13) _ _ _
      refine W_loop C false noExt call zn26_13 _ _ _ (J26 a b p) a.Shots.l.length ⟨0, rfl, by omega, (by simp [put_at, zput_none, argE_0]), (by simp [put_at, zput_none, argE_0]), by simp [put_at, zput_none, hlen], (by simp [put_at, zput_none, argE_0]), ?_, ?_, ?_, fun j hj => by omega⟩ ?_
      · exact (by simp (disch := first | assumption | omega | (simp only [Hp.bump_n, Hp.znew_n, Hp.zset_n]; (first | done | omega))) only [zheap]; first | done | rfl)
      · exact (by simp (disch := first | assumption | omega | (simp only [Hp.bump_n, Hp.znew_n, Hp.zset_n]; (first | done | omega))) only [zheap]; first | done | rfl)
      · exact (fun k o h => by have hd := hF.dom k o h; (try simp (disch := first | assumption | omega | (simp only [Hp.bump_n, Hp.znew_n, Hp.zset_n, List.length_nil, List.length_cons, List.length_append, List.length_map]; (first | done | omega))) only [Hp.bump_get, Hp.get_set_ne, Hp.get_new_ne, Hp.bump_n, Hp.znew_n, Hp.zset_n]); exact h)
      rintro n ρ q ⟨k, rfl, hk, e2, e3, e43, e44, g1, g2, hle, hj⟩
      by_cases hlt : (k : Int) < a.Shots.l.length
      · have hlt2 : (k : Int) < b.Shots.l.length := by omega
        by_cases hne : nth a.Shots.l k = nth b.Shots.l k
        · simp -dsimp (disch := first | assumption | omega | (simp only [Hp.bump_n, Hp.znew_n, Hp.zset_n, List.length_nil, List.length_cons, List.length_append, List.length_map]; (first | done | omega)) | (simp (disch := first | omega | (simp only [Hp.bump_n, Hp.znew_n, Hp.zset_n, List.length_nil, List.length_cons, List.length_append, List.length_map]; (first | done | omega))) only [zheap]; done) | (simp (disch := first | omega | (simp only [Hp.bump_n, Hp.znew_n, Hp.zset_n, List.length_nil, List.length_cons, List.length_append, List.length_map]; (first | done | omega))) only [zheap]; rfl) | (simp (disch := first | omega | (simp only [Hp.bump_n, Hp.znew_n, Hp.zset_n]; (first | done | omega))) only [zheap, g1, g2]; done) | (simp (disch := first | omega | (simp only [Hp.bump_n, Hp.znew_n, Hp.zset_n]; (first | done | omega))) only [zheap, g1, g2]; rfl)) only [zall, zopm, zop, zcallOp, qop, qbuiltin, ofOpt, List.map, reduceCtorEq, if_true, if_false, ↓reduceIte, zbin, eqRes, qassert, qnum, qshift, qun, kindOf, allocV, true_and, and_true, and_self, List.nil_append, List.append_nil, List.cons_append, List.length_cons, List.length_nil, Nat.reduceAdd, Nat.reduceEqDiff, Nat.reduceLT, Nat.reduceSub, Nat.reduceMul, Int.reduceToNat, Int.reduceLE, Int.reduceLT, Int.reduceEq, Int.reduceNeg, Int.reduceAdd, Int.reduceSub, Bool.true_and, Bool.and_true, Bool.and_self, Bool.false_and, Bool.and_false, Bool.not_true, Bool.not_false, beq_self_eq_true, cond_true, cond_false, decide_true, decide_false, isConstOpd, xpanic, xconv, isBytes, qconv, List.length_map, List.map_nil, List.map_cons, concrete, Option.some.injEq, exists_eq', Int.toNat_natCast, Option.map_some, Option.map_none, List.getElem?_cons_zero, List.getElem?_cons_succ, zw26, rs26, tt3, tt25, tt34, tt36, tt37, tt39, ti3, ti25, ti34, ti36, ti37, ti39, zs_Rule_Env, zs_Api_Body, zs_Api_Input, zsl37, h1, e2, e3, e43, e44, g1, g2, hlt, hne]
          repeat' ((first | (refine condW_b ?_ ?_ <;> intro hc) | (refine wantO_s ?_ ?_ <;> intro hc) | (refine wantD_s _ _ _ _ ?_ ?_ <;> intro hc) | (refine bindO_i ?_ ?_ <;> intro hc) | (refine bindE_i _ _ _ _ ?_ ?_ <;> intro hc)) <;> (try simp only [decide_eq_true_eq, decide_eq_false_iff_not, Bool.or_eq_true, Bool.and_eq_true, Bool.not_eq_true, Bool.not_eq_false, Bool.not_not, Classical.not_not, Int.not_le, Int.not_lt, Bool.not_eq_true', Bool.not_eq_false'] at hc) <;> (try have hw := within_spec hc) <;> (try simp -dsimp (disch := first | assumption | omega | (simp only [Hp.bump_n, Hp.znew_n, Hp.zset_n, List.length_nil, List.length_cons, List.length_append, List.length_map]; (first | done | omega)) | (simp (disch := first | omega | (simp only [Hp.bump_n, Hp.znew_n, Hp.zset_n, List.length_nil, List.length_cons, List.length_append, List.length_map]; (first | done | omega))) only [zheap]; done) | (simp (disch := first | omega | (simp only [Hp.bump_n, Hp.znew_n, Hp.zset_n, List.length_nil, List.length_cons, List.length_append, List.length_map]; (first | done | omega))) only [zheap]; rfl) | (simp (disch := first | omega | (simp only [Hp.bump_n, Hp.znew_n, Hp.zset_n]; (first | done | omega))) only [zheap, g1, g2]; done) | (simp (disch := first | omega | (simp only [Hp.bump_n, Hp.znew_n, Hp.zset_n]; (first | done | omega))) only [zheap, g1, g2]; rfl)) only [zall, zopm, zop, zcallOp, qop, qbuiltin, ofOpt, List.map, reduceCtorEq, if_true, if_false, ↓reduceIte, zbin, eqRes, qassert, qnum, qshift, qun, kindOf, allocV, true_and, and_true, and_self, List.nil_append, List.append_nil, List.cons_append, List.length_cons, List.length_nil, Nat.reduceAdd, Nat.reduceEqDiff, Nat.reduceLT, Nat.reduceSub, Nat.reduceMul, Int.reduceToNat, Int.reduceLE, Int.reduceLT, Int.reduceEq, Int.reduceNeg, Int.reduceAdd, Int.reduceSub, Bool.true_and, Bool.and_true, Bool.and_self, Bool.false_and, Bool.and_false, Bool.not_true, Bool.not_false, beq_self_eq_true, cond_true, cond_false, decide_true, decide_false, isConstOpd, xpanic, xconv, isBytes, qconv, List.length_map, List.map_nil, List.map_cons, concrete, Option.some.injEq, exists_eq', Int.toNat_natCast, Option.map_some, Option.map_none, List.getElem?_cons_zero, List.getElem?_cons_succ, zw26, rs26, tt3, tt25, tt34, tt36, tt37, tt39, ti3, ti25, ti34, ti36, ti37, ti39, zs_Rule_Env, zs_Api_Body, zs_Api_Input, zsl37, h1, e2, e3, e43, e44, g1, g2, hlt, hne, hc]))
          refine ⟨a.Shots.l.length - (k + 1), by omega, k + 1, rfl, by omega, by simp [put_at, zput_none, e2], by simp [put_at, zput_none, e3], by simp [put_at, zput_none, e43], by simp [put_at, zput_none], by simp only [Hp.bump_get, g1], by simp only [Hp.bump_get, g2], (fun k o h => by have hd := hF.dom k o h; (try simp (disch := first | assumption | omega | (simp only [Hp.bump_n, Hp.znew_n, Hp.zset_n]; (first | done | omega))) only [Hp.bump_get, Hp.get_set_ne, Hp.get_new_ne, Hp.bump_n, Hp.znew_n, Hp.zset_n]); exact hle k o h), fun j hjk => ?_⟩
          by_cases h : j = k
          · rw [h]; exact hne
          · exact hj j (by omega)
        · simp -dsimp (disch := first | assumption | omega | (simp only [Hp.bump_n, Hp.znew_n, Hp.zset_n, List.length_nil, List.length_cons, List.length_append, List.length_map]; (first | done | omega)) | (simp (disch := first | omega | (simp only [Hp.bump_n, Hp.znew_n, Hp.zset_n, List.length_nil, List.length_cons, List.length_append, List.length_map]; (first | done | omega))) only [zheap]; done) | (simp (disch := first | omega | (simp only [Hp.bump_n, Hp.znew_n, Hp.zset_n, List.length_nil, List.length_cons, List.length_append, List.length_map]; (first | done | omega))) only [zheap]; rfl) | (simp (disch := first | omega | (simp only [Hp.bump_n, Hp.znew_n, Hp.zset_n]; (first | done | omega))) only [zheap, g1, g2]; done) | (simp (disch := first | omega | (simp only [Hp.bump_n, Hp.znew_n, Hp.zset_n]; (first | done | omega))) only [zheap, g1, g2]; rfl)) only [zall, zopm, zop, zcallOp, qop, qbuiltin, ofOpt, List.map, reduceCtorEq, if_true, if_false, ↓reduceIte, zbin, eqRes, qassert, qnum, qshift, qun, kindOf, allocV, true_and, and_true, and_self, List.nil_append, List.append_nil, List.cons_append, List.length_cons, List.length_nil, Nat.reduceAdd, Nat.reduceEqDiff, Nat.reduceLT, Nat.reduceSub, Nat.reduceMul, Int.reduceToNat, Int.reduceLE, Int.reduceLT, Int.reduceEq, Int.reduceNeg, Int.reduceAdd, Int.reduceSub, Bool.true_and, Bool.and_true, Bool.and_self, Bool.false_and, Bool.and_false, Bool.not_true, Bool.not_false, beq_self_eq_true, cond_true, cond_false, decide_true, decide_false, isConstOpd, xpanic, xconv, isBytes, qconv, List.length_map, List.map_nil, List.map_cons, concrete, Option.some.injEq, exists_eq', Int.toNat_natCast, Option.map_some, Option.map_none, List.getElem?_cons_zero, List.getElem?_cons_succ, zw26, rs26, tt3, tt25, tt34, tt36, tt37, tt39, ti3, ti25, ti34, ti36, ti37, ti39, zs_Rule_Env, zs_Api_Body, zs_Api_Input, zsl37, h1, e2, e3, e43, e44, g1, g2, hlt, hne]
          repeat' ((first | (refine condW_b ?_ ?_ <;> intro hc) | (refine wantO_s ?_ ?_ <;> intro hc) | (refine wantD_s _ _ _ _ ?_ ?_ <;> intro hc) | (refine bindO_i ?_ ?_ <;> intro hc) | (refine bindE_i _ _ _ _ ?_ ?_ <;> intro hc)) <;> (try simp only [decide_eq_true_eq, decide_eq_false_iff_not, Bool.or_eq_true, Bool.and_eq_true, Bool.not_eq_true, Bool.not_eq_false, Bool.not_not, Classical.not_not, Int.not_le, Int.not_lt, Bool.not_eq_true', Bool.not_eq_false'] at hc) <;> (try have hw := within_spec hc) <;> (try simp -dsimp (disch := first | assumption | omega | (simp only [Hp.bump_n, Hp.znew_n, Hp.zset_n, List.length_nil, List.length_cons, List.length_append, List.length_map]; (first | done | omega)) | (simp (disch := first | omega | (simp only [Hp.bump_n, Hp.znew_n, Hp.zset_n, List.length_nil, List.length_cons, List.length_append, List.length_map]; (first | done | omega))) only [zheap]; done) | (simp (disch := first | omega | (simp only [Hp.bump_n, Hp.znew_n, Hp.zset_n, List.length_nil, List.length_cons, List.length_append, List.length_map]; (first | done | omega))) only [zheap]; rfl) | (simp (disch := first | omega | (simp only [Hp.bump_n, Hp.znew_n, Hp.zset_n]; (first | done | omega))) only [zheap, g1, g2]; done) | (simp (disch := first | omega | (simp only [Hp.bump_n, Hp.znew_n, Hp.zset_n]; (first | done | omega))) only [zheap, g1, g2]; rfl)) only [zall, zopm, zop, zcallOp, qop, qbuiltin, ofOpt, List.map, reduceCtorEq, if_true, if_false, ↓reduceIte, zbin, eqRes, qassert, qnum, qshift, qun, kindOf, allocV, true_and, and_true, and_self, List.nil_append, List.append_nil, List.cons_append, List.length_cons, List.length_nil, Nat.reduceAdd, Nat.reduceEqDiff, Nat.reduceLT, Nat.reduceSub, Nat.reduceMul, Int.reduceToNat, Int.reduceLE, Int.reduceLT, Int.reduceEq, Int.reduceNeg, Int.reduceAdd, Int.reduceSub, Bool.true_and, Bool.and_true, Bool.and_self, Bool.false_and, Bool.and_false, Bool.not_true, Bool.not_false, beq_self_eq_true, cond_true, cond_false, decide_true, decide_false, isConstOpd, xpanic, xconv, isBytes, qconv, List.length_map, List.map_nil, List.map_cons, concrete, Option.some.injEq, exists_eq', Int.toNat_natCast, Option.map_some, Option.map_none, List.getElem?_cons_zero, List.getElem?_cons_succ, zw26, rs26, tt3, tt25, tt34, tt36, tt37, tt39, ti3, ti25, ti34, ti36, ti37, ti39, zs_Rule_Env, zs_Api_Body, zs_Api_Input, zsl37, h1, e2, e3, e43, e44, g1, g2, hlt, hne, hc]))
          have hl : ¬ a.Shots.l = b.Shots.l := fun h => hne (by rw [h])
          refine shr_keep hF (fun k o h => by have hd := hF.dom k o h; (try simp (disch := first | assumption | omega | (simp only [Hp.bump_n, Hp.znew_n, Hp.zset_n]; (first | done | omega))) only [Hp.bump_get, Hp.get_set_ne, Hp.get_new_ne, Hp.bump_n, Hp.znew_n, Hp.zset_n]); exact hle k o h) (weak_of_eq ?_ (lt_of_no (by intro jj; simp [CV.has, CV.hasL, fault, Trap_thrown.nohas, Api_Body.nohas, Api_Input.nohas])))
          simp [sameE, hl]
      · simp -dsimp (disch := first | assumption | omega | (simp only [Hp.bump_n, Hp.znew_n, Hp.zset_n, List.length_nil, List.length_cons, List.length_append, List.length_map]; (first | done | omega)) | (simp (disch := first | omega | (simp only [Hp.bump_n, Hp.znew_n, Hp.zset_n, List.length_nil, List.length_cons, List.length_append, List.length_map]; (first | done | omega))) only [zheap]; done) | (simp (disch := first | omega | (simp only [Hp.bump_n, Hp.znew_n, Hp.zset_n, List.length_nil, List.length_cons, List.length_append, List.length_map]; (first | done | omega))) only [zheap]; rfl) | (simp (disch := first | omega | (simp only [Hp.bump_n, Hp.znew_n, Hp.zset_n]; (first | done | omega))) only [zheap, g1, g2]; done) | (simp (disch := first | omega | (simp only [Hp.bump_n, Hp.znew_n, Hp.zset_n]; (first | done | omega))) only [zheap, g1, g2]; rfl)) only [zall, zopm, zop, zcallOp, qop, qbuiltin, ofOpt, List.map, reduceCtorEq, if_true, if_false, ↓reduceIte, zbin, eqRes, qassert, qnum, qshift, qun, kindOf, allocV, true_and, and_true, and_self, List.nil_append, List.append_nil, List.cons_append, List.length_cons, List.length_nil, Nat.reduceAdd, Nat.reduceEqDiff, Nat.reduceLT, Nat.reduceSub, Nat.reduceMul, Int.reduceToNat, Int.reduceLE, Int.reduceLT, Int.reduceEq, Int.reduceNeg, Int.reduceAdd, Int.reduceSub, Bool.true_and, Bool.and_true, Bool.and_self, Bool.false_and, Bool.and_false, Bool.not_true, Bool.not_false, beq_self_eq_true, cond_true, cond_false, decide_true, decide_false, isConstOpd, xpanic, xconv, isBytes, qconv, List.length_map, List.map_nil, List.map_cons, concrete, Option.some.injEq, exists_eq', Int.toNat_natCast, Option.map_some, Option.map_none, List.getElem?_cons_zero, List.getElem?_cons_succ, zw26, rs26, tt3, tt25, tt34, tt36, tt37, tt39, ti3, ti25, ti34, ti36, ti37, ti39, zs_Rule_Env, zs_Api_Body, zs_Api_Input, zsl37, h1, e2, e3, e43, e44, g1, g2, hlt]
        repeat' ((first | (refine condW_b ?_ ?_ <;> intro hc) | (refine wantO_s ?_ ?_ <;> intro hc) | (refine wantD_s _ _ _ _ ?_ ?_ <;> intro hc) | (refine bindO_i ?_ ?_ <;> intro hc) | (refine bindE_i _ _ _ _ ?_ ?_ <;> intro hc)) <;> (try simp only [decide_eq_true_eq, decide_eq_false_iff_not, Bool.or_eq_true, Bool.and_eq_true, Bool.not_eq_true, Bool.not_eq_false, Bool.not_not, Classical.not_not, Int.not_le, Int.not_lt, Bool.not_eq_true', Bool.not_eq_false'] at hc) <;> (try have hw := within_spec hc) <;> (try simp -dsimp (disch := first | assumption | omega | (simp only [Hp.bump_n, Hp.znew_n, Hp.zset_n, List.length_nil, List.length_cons, List.length_append, List.length_map]; (first | done | omega)) | (simp (disch := first | omega | (simp only [Hp.bump_n, Hp.znew_n, Hp.zset_n, List.length_nil, List.length_cons, List.length_append, List.length_map]; (first | done | omega))) only [zheap]; done) | (simp (disch := first | omega | (simp only [Hp.bump_n, Hp.znew_n, Hp.zset_n, List.length_nil, List.length_cons, List.length_append, List.length_map]; (first | done | omega))) only [zheap]; rfl) | (simp (disch := first | omega | (simp only [Hp.bump_n, Hp.znew_n, Hp.zset_n]; (first | done | omega))) only [zheap, g1, g2]; done) | (simp (disch := first | omega | (simp only [Hp.bump_n, Hp.znew_n, Hp.zset_n]; (first | done | omega))) only [zheap, g1, g2]; rfl)) only [zall, zopm, zop, zcallOp, qop, qbuiltin, ofOpt, List.map, reduceCtorEq, if_true, if_false, ↓reduceIte, zbin, eqRes, qassert, qnum, qshift, qun, kindOf, allocV, true_and, and_true, and_self, List.nil_append, List.append_nil, List.cons_append, List.length_cons, List.length_nil, Nat.reduceAdd, Nat.reduceEqDiff, Nat.reduceLT, Nat.reduceSub, Nat.reduceMul, Int.reduceToNat, Int.reduceLE, Int.reduceLT, Int.reduceEq, Int.reduceNeg, Int.reduceAdd, Int.reduceSub, Bool.true_and, Bool.and_true, Bool.and_self, Bool.false_and, Bool.and_false, Bool.not_true, Bool.not_false, beq_self_eq_true, cond_true, cond_false, decide_true, decide_false, isConstOpd, xpanic, xconv, isBytes, qconv, List.length_map, List.map_nil, List.map_cons, concrete, Option.some.injEq, exists_eq', Int.toNat_natCast, Option.map_some, Option.map_none, List.getElem?_cons_zero, List.getElem?_cons_succ, zw26, rs26, tt3, tt25, tt34, tt36, tt37, tt39, ti3, ti25, ti34, ti36, ti37, ti39, zs_Rule_Env, zs_Api_Body, zs_Api_Input, zsl37, h1, e2, e3, e43, e44, g1, g2, hlt, hc]))
        have hl : a.Shots.l = b.Shots.l := nth_ext hlen fun j h => hj j (by omega)
        refine shr_keep hF (fun k o h => by have hd := hF.dom k o h; (try simp (disch := first | assumption | omega | (simp only [Hp.bump_n, Hp.znew_n, Hp.zset_n]; (first | done | omega))) only [Hp.bump_get, Hp.get_set_ne, Hp.get_new_ne, Hp.bump_n, Hp.znew_n, Hp.zset_n]); exact hle k o h) (weak_of_eq ?_ (lt_of_no (by intro jj; simp [CV.has, CV.hasL, fault, Trap_thrown.nohas, Api_Body.nohas, Api_Input.nohas])))
        simp [sameE, *]
    all_goals refine shr_keep hF (fun k o h => by have hd := hF.dom k o h; (try simp (disch := first | assumption | omega | (simp only [Hp.bump_n, Hp.znew_n, Hp.zset_n, List.length_nil, List.length_cons, List.length_append, List.length_map]; (first | done | omega))) only [Hp.bump_get, Hp.get_set_ne, Hp.get_new_ne, Hp.bump_n, Hp.znew_n, Hp.zset_n]); exact h) (weak_of_eq ?_ (lt_of_no (by intro jj; simp [CV.has, CV.hasL, fault, Trap_thrown.nohas, Api_Body.nohas, Api_Input.nohas])))
    all_goals simp [sameE, *]
    intro h
    rw [h] at hc
    exact hc rfl
def R23 : Rel := fun args p r => args = [] ∧ r = .ret (Bo true) p
theorem t23 {T : XCall} (h : Has T 23 R23)  {p : Hp}  : T 23 [] p = .ret (Bo true) p := h _ _ _ ⟨rfl, rfl⟩
set_option maxHeartbeats 8000000 in
theorem c23 : Con C 23 R23 := by
  refine con_of C ?_ ?_ ?_
  · rintro args p r r' ⟨h, e⟩ ⟨h', e'⟩
    subst e; subst e'; simp_all [Rule_Env.inj_iff, Api_Body.inj_iff, Api_Input.inj_iff, Trap_Fault.inj_iff, Api_Op.inj_iff, sl_inj23]
  · rintro args p r ⟨h, rfl⟩; first | (split <;> simp; done) | (simp; done) | (simp only [resM]; split <;> simp; done) | (simp only [resD]; split <;> simp; done) 
  · rintro args p r ⟨rfl, rfl⟩
    refine ans_walk C false noExt (tabL C [(70, R70), (25, R25)]) xf23 (noExt_ok C) (tabL_ok C _) zc23_ok (Nat.le_of_ble_eq_true (by kernel_rfl)) fun hF => ?_
    have t_70 := @t70 (tabL C [(70, R70), (25, R25)]) (has_head C c70 [(25, R25)])
    have t_25 := @t25 (tabL C [(70, R70), (25, R25)]) (has_tail C _ rfl (has_head C c25 []))
    generalize tabL C [(70, R70), (25, R25)] = call at t_70 t_25 ⊢
    show W C false noExt call zc23 (argE []) p (endQ C _ _)
    have r1 : ruleRun ⟨.exact, [⟨6, 0, 0⟩], nofun⟩ env0 = ((copiedE env0), ⟨1, 0⟩, false) := by rfl
    have r2 : (ruleRun ⟨.exact, [⟨1, 1, 5⟩, ⟨3, 1, 1⟩], nofun⟩ env0).2.2 = true ∧ nth (ruleRun ⟨.exact, [⟨1, 1, 5⟩, ⟨3, 1, 1⟩], nofun⟩ env0).1.Body.Mem 1 = 10 := by constructor <;> rfl
    have hv : env0.Shots.tl ≠ .view := by simp [env0, Rule_Env.zero]
    have hv2 : env0.Shots.l.length ≤ 100000 := by simp [env0, Rule_Env.zero]
    simp -dsimp (disch := first | assumption | omega | (simp only [Hp.bump_n, Hp.znew_n, Hp.zset_n, List.length_nil, List.length_cons, List.length_append, List.length_map]; (first | done | omega)) | (simp (disch := first | omega | (simp only [Hp.bump_n, Hp.znew_n, Hp.zset_n, List.length_nil, List.length_cons, List.length_append, List.length_map]; (first | done | omega))) only [zheap]; done) | (simp (disch := first | omega | (simp only [Hp.bump_n, Hp.znew_n, Hp.zset_n, List.length_nil, List.length_cons, List.length_append, List.length_map]; (first | done | omega))) only [zheap]; rfl)) only [zall, zopm, zop, zcallOp, qop, qbuiltin, ofOpt, List.map, reduceCtorEq, if_true, if_false, ↓reduceIte, zbin, eqRes, qassert, qnum, qshift, qun, kindOf, allocV, true_and, and_true, and_self, List.nil_append, List.append_nil, List.cons_append, List.length_cons, List.length_nil, Nat.reduceAdd, Nat.reduceEqDiff, Nat.reduceLT, Nat.reduceSub, Nat.reduceMul, Int.reduceToNat, Int.reduceLE, Int.reduceLT, Int.reduceEq, Int.reduceNeg, Int.reduceAdd, Int.reduceSub, Bool.true_and, Bool.and_true, Bool.and_self, Bool.false_and, Bool.and_false, Bool.not_true, Bool.not_false, beq_self_eq_true, cond_true, cond_false, decide_true, decide_false, isConstOpd, xpanic, xconv, isBytes, qconv, List.length_map, List.map_nil, List.map_cons, concrete, Option.some.injEq, exists_eq', Int.toNat_natCast, Option.map_some, Option.map_none, List.getElem?_cons_zero, List.getElem?_cons_succ, zw23, rs23, tt3, tt23, tt29, tt32, tt34, tt39, tt44, ti3, ti23, ti29, ti32, ti34, ti39, ti44, t_70, t_25, zs_Rule_Env, zs_Api_Body, zs_Api_Input, zs_Trap_Fault, zs_Api_Op, zsl23, zsl32, r1, r2.1, r2.2]
    repeat' ((first | (refine condW_b ?_ ?_ <;> intro hc) | (refine wantO_s ?_ ?_ <;> intro hc) | (refine wantD_s _ _ _ _ ?_ ?_ <;> intro hc) | (refine bindO_i ?_ ?_ <;> intro hc) | (refine bindE_i _ _ _ _ ?_ ?_ <;> intro hc)) <;> (try simp only [decide_eq_true_eq, decide_eq_false_iff_not, Bool.or_eq_true, Bool.and_eq_true, Bool.not_eq_true, Bool.not_eq_false, Bool.not_not, Classical.not_not, Int.not_le, Int.not_lt, Bool.not_eq_true', Bool.not_eq_false'] at hc) <;> (try have hw := within_spec hc) <;> (try simp -dsimp (disch := first | assumption | omega | (simp only [Hp.bump_n, Hp.znew_n, Hp.zset_n, List.length_nil, List.length_cons, List.length_append, List.length_map]; (first | done | omega)) | (simp (disch := first | omega | (simp only [Hp.bump_n, Hp.znew_n, Hp.zset_n, List.length_nil, List.length_cons, List.length_append, List.length_map]; (first | done | omega))) only [zheap]; done) | (simp (disch := first | omega | (simp only [Hp.bump_n, Hp.znew_n, Hp.zset_n, List.length_nil, List.length_cons, List.length_append, List.length_map]; (first | done | omega))) only [zheap]; rfl)) only [zall, zopm, zop, zcallOp, qop, qbuiltin, ofOpt, List.map, reduceCtorEq, if_true, if_false, ↓reduceIte, zbin, eqRes, qassert, qnum, qshift, qun, kindOf, allocV, true_and, and_true, and_self, List.nil_append, List.append_nil, List.cons_append, List.length_cons, List.length_nil, Nat.reduceAdd, Nat.reduceEqDiff, Nat.reduceLT, Nat.reduceSub, Nat.reduceMul, Int.reduceToNat, Int.reduceLE, Int.reduceLT, Int.reduceEq, Int.reduceNeg, Int.reduceAdd, Int.reduceSub, Bool.true_and, Bool.and_true, Bool.and_self, Bool.false_and, Bool.and_false, Bool.not_true, Bool.not_false, beq_self_eq_true, cond_true, cond_false, decide_true, decide_false, isConstOpd, xpanic, xconv, isBytes, qconv, List.length_map, List.map_nil, List.map_cons, concrete, Option.some.injEq, exists_eq', Int.toNat_natCast, Option.map_some, Option.map_none, List.getElem?_cons_zero, List.getElem?_cons_succ, zw23, rs23, tt3, tt23, tt29, tt32, tt34, tt39, tt44, ti3, ti23, ti29, ti32, ti34, ti39, ti44, t_70, t_25, zs_Rule_Env, zs_Api_Body, zs_Api_Input, zs_Trap_Fault, zs_Api_Op, zsl23, zsl32, r1, r2.1, r2.2, hc]))
    exact shr_keep hF (fun k o h => by have hd := hF.dom k o h; (try simp (disch := first | assumption | omega | (simp only [Hp.bump_n, Hp.znew_n, Hp.zset_n, List.length_nil, List.length_cons, List.length_append, List.length_map]; (first | done | omega))) only [Hp.bump_get, Hp.get_set_ne, Hp.get_new_ne, Hp.bump_n, Hp.znew_n, Hp.zset_n]); exact h) (weak_self (lt_of_no (by intro jj; simp [CV.has, CV.hasL, fault, Trap_thrown.nohas, Api_Body.nohas, Api_Input.nohas, Trap_Fault.nohas, Api_Op.nohas])))
end Go.Proofs.Ytpchcfkebljopaa
end
section
namespace Go.Proofs.Ytpchcfkebljopaa
open Go.Cl Go Go.RowKit
theorem brought_range {n lo hi : Int} (h : lo ≤ hi) : lo ≤ brought n lo hi ∧ brought n lo hi ≤ hi := by unfold brought; omega
theorem right_iff {b : Api_Body} (h : b.Kind ≠ 0) : Body.right b = true ↔ (∀ n ∈ b.Mem, -1000000 ≤ n ∧ n ≤ 1000000) ∧ (b.Kind = 1 ∨ b.Kind = 2) ∧ (0 ≤ b.Owner ∧ b.Owner ≤ 7) ∧ (0 ≤ b.X ∧ b.X ≤ 4095) ∧ (0 ≤ b.Y ∧ b.Y ≤ 4095) ∧ (-64 ≤ b.VX ∧ b.VX ≤ 64) ∧ (-64 ≤ b.VY ∧ b.VY ≤ 64) ∧ (0 ≤ b.Age ∧ b.Age ≤ 600) ∧ (0 ≤ b.Faults ∧ b.Faults ≤ 65535) := by
  unfold Body.right
  rw [if_neg h]
  simp [within, and_assoc]
theorem right_shoot {b : Api_Body} (h : Body.right b = true) (hk : b.Kind ≠ 0) (vx vy : Int) : Body.right (bodyShoot b vx vy) = true ∧ (bodyShoot b vx vy).Kind = 2 ∧ (bodyShoot b vx vy).Owner = b.Owner := by
  have r := (right_iff hk).1 h
  have h1 := brought_range (n := vx) (lo := -64) (hi := 64) (by omega)
  have h2 := brought_range (n := vy) (lo := -64) (hi := 64) (by omega)
  unfold bodyShoot
  rw [if_pos ⟨h, hk⟩]
  refine ⟨(right_iff (by simp)).2 ⟨?_, .inr rfl, r.2.2.1, r.2.2.2.1, r.2.2.2.2.1, h1, h2, by simp [Api_Body.zero], by simp [Api_Body.zero]⟩, rfl, rfl⟩
  intro n hn
  have : n = 0 := by simpa [Api_Body.zero] using hn
  omega
theorem right_put7 {b : Api_Body} (h : Body.right b = true) (hk : b.Kind ≠ 0) (k : Nat) (n : Int) (hn : -1000000 ≤ n ∧ n ≤ 1000000) : Body.right (b.put_7k k n) = true := by
  have r := (right_iff hk).1 h
  refine (right_iff (b := b.put_7k k n) hk).2 ⟨?_, r.2⟩
  intro x hx
  rcases List.mem_or_eq_of_mem_set hx with h | h
  · exact r.1 x h
  · rw [h]; exact hn
structure InvE (e g : Rule_Env) : Prop where
  right : Body.right g.Body = true
  kind : g.Body.Kind = e.Body.Kind
  owner : g.Body.Owner = e.Body.Owner
  age : g.Body.Age = e.Body.Age
  faults : g.Body.Faults = e.Body.Faults
  inp : g.In = e.In
  room : g.Room = e.Room
  len : (g.Shots.l.length : Int) ≤ e.Room
  shots : ∀ s ∈ g.Shots.l, Body.right s = true ∧ s.Kind = 2 ∧ s.Owner = e.Body.Owner
theorem InvE.set {e : Rule_Env} {m : Rule_machine} (h : InvE e m.e_) (hk : e.Body.Kind ≠ 0) (k : Nat) (n : Int) : InvE e (Mach.set m k n).e_ :=
  ⟨right_put7 h.right (by rw [h.kind]; exact hk) k _ (brought_range (by omega)), h.kind, h.owner, h.age, h.faults, h.inp, h.room, h.len, h.shots⟩
theorem InvE.put {e : Rule_Env} {m : Rule_machine} (h : InvE e m.e_) (hk : e.Body.Kind ≠ 0) (k n : Int) : InvE e (Mach.put m k n).e_ := by
  have hk' : m.e_.Body.Kind ≠ 0 := by rw [h.kind]; exact hk
  have r := (right_iff hk').1 h.right
  have h1 := brought_range (n := n) (lo := 0) (hi := 4095) (by omega)
  have h2 := brought_range (n := n) (lo := -64) (hi := 64) (by omega)
  obtain ⟨r1, r2, r3, r4, r5, r6, r7, r8, r9⟩ := r
  unfold Mach.put Mach.body
  simp only
  split
  · exact ⟨(right_iff (by exact hk')).2 ⟨r1, r2, r3, h1, r5, r6, r7, r8, r9⟩, h.kind, h.owner, h.age, h.faults, h.inp, h.room, h.len, h.shots⟩
  split
  · exact ⟨(right_iff (by exact hk')).2 ⟨r1, r2, r3, r4, h1, r6, r7, r8, r9⟩, h.kind, h.owner, h.age, h.faults, h.inp, h.room, h.len, h.shots⟩
  split
  · exact ⟨(right_iff (by exact hk')).2 ⟨r1, r2, r3, r4, r5, h2, r7, r8, r9⟩, h.kind, h.owner, h.age, h.faults, h.inp, h.room, h.len, h.shots⟩
  · exact ⟨(right_iff (by exact hk')).2 ⟨r1, r2, r3, r4, r5, r6, h2, r8, r9⟩, h.kind, h.owner, h.age, h.faults, h.inp, h.room, h.len, h.shots⟩
theorem InvE.shoot {e : Rule_Env} {m : Rule_machine} (h : InvE e m.e_) (hk : e.Body.Kind ≠ 0) (a b : Int) (hlt : (m.e_.Shots.l.length : Int) < m.e_.Room) : InvE e { m.e_ with Shots := ⟨.part, m.e_.Shots.l ++ [bodyShoot m.e_.Body a b], nofun⟩ } := by
  have hs := right_shoot h.right (by rw [h.kind]; exact hk) a b
  refine ⟨h.right, h.kind, h.owner, h.age, h.faults, h.inp, h.room, ?_, ?_⟩
  · have := h.room
    simp only [List.length_append, List.length_cons, List.length_nil]
    omega
  · intro s hs'
    rcases List.mem_append.1 hs' with h' | h'
    · exact h.shots s h'
    · have : s = bodyShoot m.e_.Body a b := by simpa using h'
      rw [this]
      exact ⟨hs.1, hs.2.1, by rw [hs.2.2]; exact h.owner⟩
theorem InvE.dice {e : Rule_Env} {m : Rule_machine} (h : InvE e m.e_) (d : Int) : InvE e ({ m with e_ := { m.e_ with Dice := d } } : Rule_machine).e_ := ⟨h.right, h.kind, h.owner, h.age, h.faults, h.inp, h.room, h.len, h.shots⟩
theorem reckon_inv {e : Rule_Env} {m m' : Rule_machine} (h : InvE e m.e_) (hk : e.Body.Kind ≠ 0) {o : Api_Op} (hr : Mach.reckon m o = .ok m') : InvE e m'.e_ := by
  unfold Mach.reckon at hr
  simp only at hr
  repeat' (split at hr)
  all_goals first
    | (cases hr; done)
    | (cases hr; exact h.set hk _ _)
    | (cases hr; exact InvE.set (h.dice _) hk _ _)
    | (rename_i hlt; cases hr; exact h.shoot hk _ _ hlt)
theorem reckon_err {m : Rule_machine} {o : Api_Op} {c : Int} (hr : Mach.reckon m o = .error c) : 1 ≤ c ∧ c ≤ 7 := by
  unfold Mach.reckon at hr
  simp only at hr
  repeat' (split at hr)
  all_goals first
    | (cases hr; done)
    | (cases hr; omega)
theorem doOp_inv {e : Rule_Env} {m : Rule_machine} {r : Rule_machine × Int} (h : InvE e m.e_) (hk : e.Body.Kind ≠ 0) {o : Api_Op} (hr : Mach.doOp m o = .ok r) : InvE e r.1.e_ := by
  unfold Mach.doOp at hr
  repeat' (split at hr)
  all_goals first
    | (cases hr; done)
    | (cases hr; exact h.set hk _ _)
    | (cases hr; exact h.put hk _ _)
    | (cases hr; exact h)
    | (rename_i hq; cases hr; exact reckon_inv h hk hq)
theorem doOp_err {m : Rule_machine} {o : Api_Op} {c : Int} (hr : Mach.doOp m o = .error c) : 1 ≤ c ∧ c ≤ 7 := by
  unfold Mach.doOp at hr
  repeat' (split at hr)
  all_goals first
    | (cases hr; done)
    | (cases hr; omega)
    | (rename_i hq; cases hr; exact reckon_err hq)
theorem run_inv {e : Rule_Env} (hk : e.Body.Kind ≠ 0) : ∀ (k : Nat) (m : Rule_machine), InvE e m.e_ → 0 ≤ m.at_ → match Mach.run k m with | .ok m' => InvE e m'.e_ | .error c => 1 ≤ c.1 ∧ c.1 ≤ 7 ∧ 0 ≤ c.2 ∧ c.2 < m.l_.l.length
  | k, m, h, ha => by
    unfold Mach.run
    by_cases hlt : m.at_ < m.l_.l.length
    · rw [if_pos hlt]
      cases k with
      | zero => exact ⟨by omega, by omega, ha, hlt⟩
      | succ k =>
        simp only
        cases hq : Mach.doOp m (nth m.l_.l m.at_.toNat) with
        | error c => exact ⟨(doOp_err hq).1, (doOp_err hq).2, ha, hlt⟩
        | ok r =>
          obtain ⟨m2, n⟩ := r
          have hd := doOp_inv h hk hq
          have kk := Mach.doOp_keeps hq ha hlt
          have ih := run_inv hk k { m2 with at_ := n } hd kk.2.2.2.2.1
          have hl2 : m2.l_ = m.l_ := kk.2.1
          simp only [hl2] at ih ⊢
          exact ih
    · rw [if_neg hlt]; exact h
theorem envOf_kind (x : Law12_RawEnv) : (envOf x).Body.Kind = 1 := by
  have : ∀ (l : List Int) (n : Nat) (b : Api_Body), (memN l n b).Kind = b.Kind := by
    intro l n; induction n with
    | zero => intro b; rfl
    | succ n ih => intro b; exact ih b
  unfold envOf
  simp only
  split
  · simp [this, bodyBorn]
  · simp [this, bodyBorn]
theorem rule_total (x : Law12_RawEnv) (l : Lst Api_Op) (hr : Body.right (envOf x).Body = true) :
    ((ruleRun l (envOf x)).2.2 = true → (ruleRun l (envOf x)).2.1 = ⟨0, 0⟩ ∧ InvE (envOf x) (ruleRun l (envOf x)).1) ∧
    ((ruleRun l (envOf x)).2.2 = false → (1 ≤ (ruleRun l (envOf x)).2.1.Code ∧ (ruleRun l (envOf x)).2.1.Code ≤ 7 ∧ 0 ≤ (ruleRun l (envOf x)).2.1.At ∧ (ruleRun l (envOf x)).2.1.At < l.l.length) ∧ sameE (ruleRun l (envOf x)).1 (envOf x) = true) := by
  have hk := envOf_kind x
  have hi : InvE (envOf x) (copiedE (envOf x)) := by
    have hp := pick_range (n := x.Room) (m := 8) (by omega)
    refine ⟨hr, rfl, rfl, rfl, rfl, rfl, rfl, ?_, ?_⟩
    · simp [copiedE, cloneP, envOf, Rule_Env.zero]; exact hp.1
    · intro s hs; simp [copiedE, cloneP, envOf, Rule_Env.zero] at hs
  have hrun := run_inv (by omega) 64 ⟨copiedE (envOf x), l, 0⟩ hi (by simp)
  have hsame : sameE (copiedE (envOf x)) (envOf x) = true := by simp [sameE, copiedE, cloneP_l]
  unfold ruleRun
  rw [if_neg (by rw [hr, hk]; simp)]
  cases hq : Mach.run 64 ⟨copiedE (envOf x), l, 0⟩ with
  | ok m => rw [hq] at hrun; exact ⟨fun _ => ⟨rfl, hrun⟩, fun h => (by cases h)⟩
  | error c => rw [hq] at hrun; exact ⟨fun h => (by cases h), fun _ => ⟨hrun, hsame⟩⟩
end Go.Proofs.Ytpchcfkebljopaa
end
section
namespace Go.Proofs.Ytpchcfkebljopaa
open Go.Cl Go Go.RowKit
set_option maxRecDepth 100000
set_option linter.constructorNameAsVariable false
def App {α : Type} (n0 : Nat) (s : Lst α) (q : Hp) : Prop :=
  s.tl = .nil ∨ ∃ j, s.tl = .own j ∧ n0 < j ∧ j < q.n ∧ q.t.get j = some (.tail s.l.length) ∧ 0 < s.l.length
theorem App.nw {α : Type} {n0 m : Nat} {l : List α} {q : Hp} {ok : Tail.own q.n = .nil → l = []} (h : n0 < q.n) (hm : l.length = m) (h0 : 0 < m) : App n0 (⟨.own q.n, l, ok⟩ : Lst α) (q.new (.tail m)) :=
  .inr ⟨q.n, rfl, h, by rw [Hp.znew_n]; omega, by rw [Hp.get_new_self, ← hm], by simp only; omega⟩
theorem App.sw {α : Type} {n0 m j : Nat} {l : List α} {q : Hp} {ok : Tail.own q.n = .nil → l = []} (h : n0 < q.n) (hm : l.length = m) (h0 : 0 < m) : App n0 (⟨.own q.n, l, ok⟩ : Lst α) ((q.set j none).new (.tail m)) :=
  .inr ⟨q.n, rfl, h, by rw [Hp.znew_n, Hp.zset_n]; omega, by rw [← hm]; exact Hp.get_new_self (q.set j none) _, by simp only; omega⟩
theorem take_nth {α : Type} [Inhabited α] {l : List α} {k : Nat} (h : k < l.length) : l.take (k + 1) = l.take k ++ [nth l k] := by
  rw [List.take_add_one, nth_lt h]; rfl
def J3a (l : Lst Hand_RawOp) (raw : Lst Api_Op) (x : Law12_RawEnv) (p : Hp) (n : Nat) (ρ : Env) (q : Hp) : Prop :=
  ∃ (k : Nat) (acc : Lst Api_Op), n = 16 - k ∧ k ≤ 16 ∧ k ≤ l.l.length ∧ ρ 0 = l.cv Hand_RawOp.cv ∧ ρ 1 = raw.cv Api_Op.cv ∧ ρ 5 = .ptr p.n [] ∧ ρ 7 = acc.cv Api_Op.cv ∧ ρ 8 = I k ∧ acc.l = (l.l.take k).map handOp ∧ App p.n acc q ∧ q.t.get p.n = some (.var sh27 x.cv) ∧ p.n < q.n ∧ HpLe p q
def K3a (l : Lst Hand_RawOp) (raw : Lst Api_Op) (x : Law12_RawEnv) (p : Hp) (ρ : Env) (q : Hp) : Prop :=
  ∃ (acc : Lst Api_Op), ρ 1 = raw.cv Api_Op.cv ∧ ρ 5 = .ptr p.n [] ∧ ρ 7 = acc.cv Api_Op.cv ∧ acc.l = (l.l.take 16).map handOp ∧ App p.n acc q ∧ q.t.get p.n = some (.var sh27 x.cv) ∧ p.n < q.n ∧ HpLe p q
def J3b (l : Lst Hand_RawOp) (raw : Lst Api_Op) (x : Law12_RawEnv) (p : Hp) (n : Nat) (ρ : Env) (q : Hp) : Prop :=
  ∃ (k : Nat) (acc : Lst Api_Op), n = 4 - k ∧ k ≤ 4 ∧ k ≤ raw.l.length ∧ ρ 1 = raw.cv Api_Op.cv ∧ ρ 5 = .ptr p.n [] ∧ ρ 7 = acc.cv Api_Op.cv ∧ ρ 9 = I k ∧ acc.l = (l.l.take 16).map handOp ++ raw.l.take k ∧ App p.n acc q ∧ q.t.get p.n = some (.var sh27 x.cv) ∧ p.n < q.n ∧ HpLe p q
def K3b (l : Lst Hand_RawOp) (raw : Lst Api_Op) (x : Law12_RawEnv) (p : Hp) (ρ : Env) (q : Hp) : Prop :=
  ∃ (acc : Lst Api_Op), ρ 5 = .ptr p.n [] ∧ ρ 7 = acc.cv Api_Op.cv ∧ acc.l = (l.l.take 16).map handOp ++ raw.l.take 4 ∧ q.t.get p.n = some (.var sh27 x.cv) ∧ p.n < q.n ∧ HpLe p q
def J3c (e g : Rule_Env) (p : Hp) (a b : Nat) (n : Nat) (ρ : Env) (q : Hp) : Prop :=
  ∃ (k : Nat), n = g.Shots.l.length - k ∧ k ≤ g.Shots.l.length ∧ ρ 10 = .ptr a [] ∧ ρ 11 = .ptr b [] ∧ ρ 164 = I g.Shots.l.length ∧ ρ 165 = I k ∧ q.t.get a = some (.var sh39 e.cv) ∧ q.t.get b = some (.var sh39 g.cv) ∧ HpLe p q
def R3 : Rel := fun args p r => ∃ (l : Lst Hand_RawOp) (raw : Lst Api_Op) (x : Law12_RawEnv), args = [l.cv Hand_RawOp.cv, raw.cv Api_Op.cv, x.cv] ∧ (-9223372036854775808 ≤ x.StickX ∧ x.StickX ≤ 9223372036854775807) ∧ r = .ret (Bo true) p
set_option maxHeartbeats 8000000 in
theorem c3 : Con C 3 R3 := by
  refine con_of C ?_ ?_ ?_
  · rintro args p r r' ⟨l, raw, x, h, h1, e⟩ ⟨l', raw', x', h', h1', e'⟩
    subst e; subst e'; simp_all [Law12_RawEnv.inj_iff, Rule_Env.inj_iff, Api_Body.inj_iff, Api_Input.inj_iff, Hand_RawOp.inj_iff, Api_Op.inj_iff, Trap_Fault.inj_iff, sl_inj22, sl_inj23, sl_inj37]
  · rintro args p r ⟨l, raw, x, h, h1, rfl⟩; first | (split <;> simp; done) | (simp; done) | (simp only [resM]; split <;> simp; done) | (simp only [resD]; split <;> simp; done) 
  · rintro args p r ⟨l, raw, x, rfl, h1, rfl⟩
    refine ans_walk C false noExt (tabL C [(21, R21), (22, R22), (23, R23), (24, R24), (25, R25), (26, R26)]) xf3 (noExt_ok C) (tabL_ok C _) zc3_ok (Nat.le_of_ble_eq_true (by kernel_rfl)) fun hF => ?_
    have t_21 := @t21 (tabL C [(21, R21), (22, R22), (23, R23), (24, R24), (25, R25), (26, R26)]) (has_head C c21 [(22, R22), (23, R23), (24, R24), (25, R25), (26, R26)])
    have t_22 := @t22 (tabL C [(21, R21), (22, R22), (23, R23), (24, R24), (25, R25), (26, R26)]) (has_tail C _ rfl (has_head C c22 [(23, R23), (24, R24), (25, R25), (26, R26)]))
    have t_23 := @t23 (tabL C [(21, R21), (22, R22), (23, R23), (24, R24), (25, R25), (26, R26)]) (has_tail C _ rfl (has_tail C _ rfl (has_head C c23 [(24, R24), (25, R25), (26, R26)])))
    have t_24 := @t24 (tabL C [(21, R21), (22, R22), (23, R23), (24, R24), (25, R25), (26, R26)]) (has_tail C _ rfl (has_tail C _ rfl (has_tail C _ rfl (has_head C c24 [(25, R25), (26, R26)]))))
    have t_25 := @t25 (tabL C [(21, R21), (22, R22), (23, R23), (24, R24), (25, R25), (26, R26)]) (has_tail C _ rfl (has_tail C _ rfl (has_tail C _ rfl (has_tail C _ rfl (has_head C c25 [(26, R26)])))))
    have t_26 := @t26 (tabL C [(21, R21), (22, R22), (23, R23), (24, R24), (25, R25), (26, R26)]) (has_tail C _ rfl (has_tail C _ rfl (has_tail C _ rfl (has_tail C _ rfl (has_tail C _ rfl (has_head C c26 []))))))
    generalize tabL C [(21, R21), (22, R22), (23, R23), (24, R24), (25, R25), (26, R26)] = call at t_21 t_22 t_23 t_24 t_25 t_26 ⊢
    show W C false noExt call zc3 (argE [l.cv Hand_RawOp.cv, raw.cv Api_Op.cv, x.cv]) p (endQ C _ _)
    simp -dsimp (disch := first | assumption | omega | (simp only [Hp.bump_n, Hp.znew_n, Hp.zset_n, List.length_nil, List.length_cons, List.length_append, List.length_map]; (first | done | omega)) | (simp (disch := first | omega | (simp only [Hp.bump_n, Hp.znew_n, Hp.zset_n, List.length_nil, List.length_cons, List.length_append, List.length_map]; (first | done | omega))) only [zheap]; done) | (simp (disch := first | omega | (simp only [Hp.bump_n, Hp.znew_n, Hp.zset_n, List.length_nil, List.length_cons, List.length_append, List.length_map]; (first | done | omega))) only [zheap]; rfl)) only [zall, zopm, zop, zcallOp, qop, qbuiltin, ofOpt, List.map, reduceCtorEq, if_true, if_false, ↓reduceIte, zbin, eqRes, qassert, qnum, qshift, qun, kindOf, allocV, true_and, and_true, and_self, List.nil_append, List.append_nil, List.cons_append, List.length_cons, List.length_nil, Nat.reduceAdd, Nat.reduceEqDiff, Nat.reduceLT, Nat.reduceSub, Nat.reduceMul, Int.reduceToNat, Int.reduceLE, Int.reduceLT, Int.reduceEq, Int.reduceNeg, Int.reduceAdd, Int.reduceSub, Bool.true_and, Bool.and_true, Bool.and_self, Bool.false_and, Bool.and_false, Bool.not_true, Bool.not_false, beq_self_eq_true, cond_true, cond_false, decide_true, decide_false, isConstOpd, xpanic, xconv, isBytes, qconv, List.length_map, List.map_nil, List.map_cons, concrete, Option.some.injEq, exists_eq', Int.toNat_natCast, Option.map_some, Option.map_none, List.getElem?_cons_zero, List.getElem?_cons_succ, zw3, rs3, tt3, tt22, tt23, tt27, tt29, tt31, tt34, tt36, tt37, tt39, tt44, ti3, ti22, ti23, ti27, ti29, ti31, ti34, ti36, ti37, ti39, ti44, t_21, t_22, t_23, t_24, t_25, t_26, zs_Law12_RawEnv, zs_Rule_Env, zs_Api_Body, zs_Api_Input, zs_Hand_RawOp, zs_Api_Op, zs_Trap_Fault, zsl22, zsl23, zsl37, h1]
    repeat' ((first | (refine condW_b ?_ ?_ <;> intro hc) | (refine wantO_s ?_ ?_ <;> intro hc) | (refine wantD_s _ _ _ _ ?_ ?_ <;> intro hc) | (refine bindO_i ?_ ?_ <;> intro hc) | (refine bindE_i _ _ _ _ ?_ ?_ <;> intro hc)) <;> (try simp only [decide_eq_true_eq, decide_eq_false_iff_not, Bool.or_eq_true, Bool.and_eq_true, Bool.not_eq_true, Bool.not_eq_false, Bool.not_not, Classical.not_not, Int.not_le, Int.not_lt, Bool.not_eq_true', Bool.not_eq_false'] at hc) <;> (try have hw := within_spec hc) <;> (try simp -dsimp (disch := first | assumption | omega | (simp only [Hp.bump_n, Hp.znew_n, Hp.zset_n, List.length_nil, List.length_cons, List.length_append, List.length_map]; (first | done | omega)) | (simp (disch := first | omega | (simp only [Hp.bump_n, Hp.znew_n, Hp.zset_n, List.length_nil, List.length_cons, List.length_append, List.length_map]; (first | done | omega))) only [zheap]; done) | (simp (disch := first | omega | (simp only [Hp.bump_n, Hp.znew_n, Hp.zset_n, List.length_nil, List.length_cons, List.length_append, List.length_map]; (first | done | omega))) only [zheap]; rfl)) only [zall, zopm, zop, zcallOp, qop, qbuiltin, ofOpt, List.map, reduceCtorEq, if_true, if_false, ↓reduceIte, zbin, eqRes, qassert, qnum, qshift, qun, kindOf, allocV, true_and, and_true, and_self, List.nil_append, List.append_nil, List.cons_append, List.length_cons, List.length_nil, Nat.reduceAdd, Nat.reduceEqDiff, Nat.reduceLT, Nat.reduceSub, Nat.reduceMul, Int.reduceToNat, Int.reduceLE, Int.reduceLT, Int.reduceEq, Int.reduceNeg, Int.reduceAdd, Int.reduceSub, Bool.true_and, Bool.and_true, Bool.and_self, Bool.false_and, Bool.and_false, Bool.not_true, Bool.not_false, beq_self_eq_true, cond_true, cond_false, decide_true, decide_false, isConstOpd, xpanic, xconv, isBytes, qconv, List.length_map, List.map_nil, List.map_cons, concrete, Option.some.injEq, exists_eq', Int.toNat_natCast, Option.map_some, Option.map_none, List.getElem?_cons_zero, List.getElem?_cons_succ, zw3, rs3, tt3, tt22, tt23, tt27, tt29, tt31, tt34, tt36, tt37, tt39, tt44, ti3, ti22, ti23, ti27, ti29, ti31, ti34, ti36, ti37, ti39, ti44, t_21, t_22, t_23, t_24, t_25, t_26, zs_Law12_RawEnv, zs_Rule_Env, zs_Api_Body, zs_Api_Input, zs_Hand_RawOp, zs_Api_Op, zs_Trap_Fault, zsl22, zsl23, zsl37, h1, hc]))
    show W C false noExt call (ZC.block 0 (ZC.loop zn3_9)) _ _ (seqQ _ _)
    refine W_cut C false noExt call _ _ _ _ (K3a l raw x p) ?_ ?_
    · show W C false noExt call (ZC.loop zn3_9) _ _ _
      refine W_loop C false noExt call zn3_9 _ _ _ (J3a l raw x p) 16 ⟨0, ⟨.nil, [], fun _ => rfl⟩, rfl, by omega, by omega, (by simp [put_at, zput_none, argE_0]), (by simp [put_at, zput_none]; rfl), (by simp [put_at, zput_none, argE_0]), by simp [put_at, zput_none, argE_0, Lst.cv], (by simp [put_at, zput_none, argE_0]), by simp, .inl rfl, (by simp (disch := first | assumption | omega | (simp only [Hp.bump_n, Hp.znew_n, Hp.zset_n]; (first | done | omega))) only [zheap]; first | done | rfl), (by simp only [Hp.bump_n, Hp.znew_n, Hp.zset_n]; omega), (fun k o h => by have hd := hF.dom k o h; (try simp (disch := first | assumption | omega | (simp only [Hp.bump_n, Hp.znew_n, Hp.zset_n, List.length_nil, List.length_cons, List.length_append, List.length_map]; (first | done | omega))) only [Hp.bump_get, Hp.get_set_ne, Hp.get_new_ne, Hp.bump_n, Hp.znew_n, Hp.zset_n]); exact h)⟩ ?_
      rintro n ρ q ⟨k, acc, rfl, hk, hkl, e0, e1, e5, e7, e8, hacc, happ, g1, hn, hle⟩
      have hal : acc.l.length = k := by rw [hacc]; simp; omega
      by_cases hlt : (k : Int) < l.l.length
      · by_cases h16 : (k : Int) < 16
        · have htk := take_nth (l := l.l) (k := k) (by omega)
          obtain ⟨tl, al, ok⟩ := acc
          simp only at hal hacc
          rcases happ with ht | ⟨j, ht, hj1, hj2, hj3, hj4⟩
          · simp only at ht
            subst ht
            simp -dsimp (disch := first | assumption | omega | (simp only [Hp.bump_n, Hp.znew_n, Hp.zset_n, List.length_nil, List.length_cons, List.length_append, List.length_map]; (first | done | omega)) | (simp (disch := first | omega | (simp only [Hp.bump_n, Hp.znew_n, Hp.zset_n, List.length_nil, List.length_cons, List.length_append, List.length_map]; (first | done | omega))) only [zheap]; done) | (simp (disch := first | omega | (simp only [Hp.bump_n, Hp.znew_n, Hp.zset_n, List.length_nil, List.length_cons, List.length_append, List.length_map]; (first | done | omega))) only [zheap]; rfl) | (simp (disch := first | omega | (simp only [Hp.bump_n, Hp.znew_n, Hp.zset_n]; (first | done | omega))) only [zheap, g1]; done) | (simp (disch := first | omega | (simp only [Hp.bump_n, Hp.znew_n, Hp.zset_n]; (first | done | omega))) only [zheap, g1]; rfl)) only [zall, zopm, zop, zcallOp, qop, qbuiltin, ofOpt, List.map, reduceCtorEq, if_true, if_false, ↓reduceIte, zbin, eqRes, qassert, qnum, qshift, qun, kindOf, allocV, true_and, and_true, and_self, List.nil_append, List.append_nil, List.cons_append, List.length_cons, List.length_nil, Nat.reduceAdd, Nat.reduceEqDiff, Nat.reduceLT, Nat.reduceSub, Nat.reduceMul, Int.reduceToNat, Int.reduceLE, Int.reduceLT, Int.reduceEq, Int.reduceNeg, Int.reduceAdd, Int.reduceSub, Bool.true_and, Bool.and_true, Bool.and_self, Bool.false_and, Bool.and_false, Bool.not_true, Bool.not_false, beq_self_eq_true, cond_true, cond_false, decide_true, decide_false, isConstOpd, xpanic, xconv, isBytes, qconv, List.length_map, List.map_nil, List.map_cons, concrete, Option.some.injEq, exists_eq', Int.toNat_natCast, Option.map_some, Option.map_none, List.getElem?_cons_zero, List.getElem?_cons_succ, zw3, rs3, tt3, tt22, tt23, tt27, tt29, tt31, tt34, tt36, tt37, tt39, tt44, ti3, ti22, ti23, ti27, ti29, ti31, ti34, ti36, ti37, ti39, ti44, t_21, t_22, t_23, t_24, t_25, t_26, zs_Law12_RawEnv, zs_Rule_Env, zs_Api_Body, zs_Api_Input, zs_Hand_RawOp, zs_Api_Op, zs_Trap_Fault, zsl22, zsl23, zsl37, h1, e0, e1, e5, e7, e8, g1, hlt, h16]
            repeat' ((first | (refine condW_b ?_ ?_ <;> intro hc) | (refine wantO_s ?_ ?_ <;> intro hc) | (refine wantD_s _ _ _ _ ?_ ?_ <;> intro hc) | (refine bindO_i ?_ ?_ <;> intro hc) | (refine bindE_i _ _ _ _ ?_ ?_ <;> intro hc)) <;> (try simp only [decide_eq_true_eq, decide_eq_false_iff_not, Bool.or_eq_true, Bool.and_eq_true, Bool.not_eq_true, Bool.not_eq_false, Bool.not_not, Classical.not_not, Int.not_le, Int.not_lt, Bool.not_eq_true', Bool.not_eq_false'] at hc) <;> (try have hw := within_spec hc) <;> (try simp -dsimp (disch := first | assumption | omega | (simp only [Hp.bump_n, Hp.znew_n, Hp.zset_n, List.length_nil, List.length_cons, List.length_append, List.length_map]; (first | done | omega)) | (simp (disch := first | omega | (simp only [Hp.bump_n, Hp.znew_n, Hp.zset_n, List.length_nil, List.length_cons, List.length_append, List.length_map]; (first | done | omega))) only [zheap]; done) | (simp (disch := first | omega | (simp only [Hp.bump_n, Hp.znew_n, Hp.zset_n, List.length_nil, List.length_cons, List.length_append, List.length_map]; (first | done | omega))) only [zheap]; rfl) | (simp (disch := first | omega | (simp only [Hp.bump_n, Hp.znew_n, Hp.zset_n]; (first | done | omega))) only [zheap, g1]; done) | (simp (disch := first | omega | (simp only [Hp.bump_n, Hp.znew_n, Hp.zset_n]; (first | done | omega))) only [zheap, g1]; rfl)) only [zall, zopm, zop, zcallOp, qop, qbuiltin, ofOpt, List.map, reduceCtorEq, if_true, if_false, ↓reduceIte, zbin, eqRes, qassert, qnum, qshift, qun, kindOf, allocV, true_and, and_true, and_self, List.nil_append, List.append_nil, List.cons_append, List.length_cons, List.length_nil, Nat.reduceAdd, Nat.reduceEqDiff, Nat.reduceLT, Nat.reduceSub, Nat.reduceMul, Int.reduceToNat, Int.reduceLE, Int.reduceLT, Int.reduceEq, Int.reduceNeg, Int.reduceAdd, Int.reduceSub, Bool.true_and, Bool.and_true, Bool.and_self, Bool.false_and, Bool.and_false, Bool.not_true, Bool.not_false, beq_self_eq_true, cond_true, cond_false, decide_true, decide_false, isConstOpd, xpanic, xconv, isBytes, qconv, List.length_map, List.map_nil, List.map_cons, concrete, Option.some.injEq, exists_eq', Int.toNat_natCast, Option.map_some, Option.map_none, List.getElem?_cons_zero, List.getElem?_cons_succ, zw3, rs3, tt3, tt22, tt23, tt27, tt29, tt31, tt34, tt36, tt37, tt39, tt44, ti3, ti22, ti23, ti27, ti29, ti31, ti34, ti36, ti37, ti39, ti44, t_21, t_22, t_23, t_24, t_25, t_26, zs_Law12_RawEnv, zs_Rule_Env, zs_Api_Body, zs_Api_Input, zs_Hand_RawOp, zs_Api_Op, zs_Trap_Fault, zsl22, zsl23, zsl37, h1, e0, e1, e5, e7, e8, g1, hlt, h16, hc]))
            refine ⟨16 - (k + 1), by omega, k + 1, ⟨.own q.n, al ++ [handOp (nth l.l k)], nofun⟩, rfl, by omega, by omega, by simp [put_at, zput_none, e0], by simp [put_at, zput_none, e1], by simp [put_at, zput_none, e5], by simp [put_at, zput_none], by simp [put_at, zput_none], by simp [htk, hacc], App.nw hn (by simp) (by omega), (by simp (disch := omega) only [Hp.get_new_ne, g1]), (by simp only [Hp.bump_n, Hp.znew_n, Hp.zset_n]; omega), (fun k o h => by have hd := hF.dom k o h; (try simp (disch := first | assumption | omega | (simp only [Hp.bump_n, Hp.znew_n, Hp.zset_n]; (first | done | omega))) only [Hp.bump_get, Hp.get_set_ne, Hp.get_new_ne, Hp.bump_n, Hp.znew_n, Hp.zset_n]); exact hle k o h)⟩
          · simp only at ht hj3 hj4
            subst ht
            simp -dsimp (disch := first | assumption | omega | (simp only [Hp.bump_n, Hp.znew_n, Hp.zset_n, List.length_nil, List.length_cons, List.length_append, List.length_map]; (first | done | omega)) | (simp (disch := first | omega | (simp only [Hp.bump_n, Hp.znew_n, Hp.zset_n, List.length_nil, List.length_cons, List.length_append, List.length_map]; (first | done | omega))) only [zheap]; done) | (simp (disch := first | omega | (simp only [Hp.bump_n, Hp.znew_n, Hp.zset_n, List.length_nil, List.length_cons, List.length_append, List.length_map]; (first | done | omega))) only [zheap]; rfl) | (simp (disch := first | omega | (simp only [Hp.bump_n, Hp.znew_n, Hp.zset_n]; (first | done | omega))) only [zheap, g1]; done) | (simp (disch := first | omega | (simp only [Hp.bump_n, Hp.znew_n, Hp.zset_n]; (first | done | omega))) only [zheap, g1]; rfl)) only [zall, zopm, zop, zcallOp, qop, qbuiltin, ofOpt, List.map, reduceCtorEq, if_true, if_false, ↓reduceIte, zbin, eqRes, qassert, qnum, qshift, qun, kindOf, allocV, true_and, and_true, and_self, List.nil_append, List.append_nil, List.cons_append, List.length_cons, List.length_nil, Nat.reduceAdd, Nat.reduceEqDiff, Nat.reduceLT, Nat.reduceSub, Nat.reduceMul, Int.reduceToNat, Int.reduceLE, Int.reduceLT, Int.reduceEq, Int.reduceNeg, Int.reduceAdd, Int.reduceSub, Bool.true_and, Bool.and_true, Bool.and_self, Bool.false_and, Bool.and_false, Bool.not_true, Bool.not_false, beq_self_eq_true, cond_true, cond_false, decide_true, decide_false, isConstOpd, xpanic, xconv, isBytes, qconv, List.length_map, List.map_nil, List.map_cons, concrete, Option.some.injEq, exists_eq', Int.toNat_natCast, Option.map_some, Option.map_none, List.getElem?_cons_zero, List.getElem?_cons_succ, zw3, rs3, tt3, tt22, tt23, tt27, tt29, tt31, tt34, tt36, tt37, tt39, tt44, ti3, ti22, ti23, ti27, ti29, ti31, ti34, ti36, ti37, ti39, ti44, t_21, t_22, t_23, t_24, t_25, t_26, zs_Law12_RawEnv, zs_Rule_Env, zs_Api_Body, zs_Api_Input, zs_Hand_RawOp, zs_Api_Op, zs_Trap_Fault, zsl22, zsl23, zsl37, h1, e0, e1, e5, e7, e8, g1, hlt, h16]
            repeat' ((first | (refine condW_b ?_ ?_ <;> intro hc) | (refine wantO_s ?_ ?_ <;> intro hc) | (refine wantD_s _ _ _ _ ?_ ?_ <;> intro hc) | (refine bindO_i ?_ ?_ <;> intro hc) | (refine bindE_i _ _ _ _ ?_ ?_ <;> intro hc)) <;> (try simp only [decide_eq_true_eq, decide_eq_false_iff_not, Bool.or_eq_true, Bool.and_eq_true, Bool.not_eq_true, Bool.not_eq_false, Bool.not_not, Classical.not_not, Int.not_le, Int.not_lt, Bool.not_eq_true', Bool.not_eq_false'] at hc) <;> (try have hw := within_spec hc) <;> (try simp -dsimp (disch := first | assumption | omega | (simp only [Hp.bump_n, Hp.znew_n, Hp.zset_n, List.length_nil, List.length_cons, List.length_append, List.length_map]; (first | done | omega)) | (simp (disch := first | omega | (simp only [Hp.bump_n, Hp.znew_n, Hp.zset_n, List.length_nil, List.length_cons, List.length_append, List.length_map]; (first | done | omega))) only [zheap]; done) | (simp (disch := first | omega | (simp only [Hp.bump_n, Hp.znew_n, Hp.zset_n, List.length_nil, List.length_cons, List.length_append, List.length_map]; (first | done | omega))) only [zheap]; rfl) | (simp (disch := first | omega | (simp only [Hp.bump_n, Hp.znew_n, Hp.zset_n]; (first | done | omega))) only [zheap, g1]; done) | (simp (disch := first | omega | (simp only [Hp.bump_n, Hp.znew_n, Hp.zset_n]; (first | done | omega))) only [zheap, g1]; rfl)) only [zall, zopm, zop, zcallOp, qop, qbuiltin, ofOpt, List.map, reduceCtorEq, if_true, if_false, ↓reduceIte, zbin, eqRes, qassert, qnum, qshift, qun, kindOf, allocV, true_and, and_true, and_self, List.nil_append, List.append_nil, List.cons_append, List.length_cons, List.length_nil, Nat.reduceAdd, Nat.reduceEqDiff, Nat.reduceLT, Nat.reduceSub, Nat.reduceMul, Int.reduceToNat, Int.reduceLE, Int.reduceLT, Int.reduceEq, Int.reduceNeg, Int.reduceAdd, Int.reduceSub, Bool.true_and, Bool.and_true, Bool.and_self, Bool.false_and, Bool.and_false, Bool.not_true, Bool.not_false, beq_self_eq_true, cond_true, cond_false, decide_true, decide_false, isConstOpd, xpanic, xconv, isBytes, qconv, List.length_map, List.map_nil, List.map_cons, concrete, Option.some.injEq, exists_eq', Int.toNat_natCast, Option.map_some, Option.map_none, List.getElem?_cons_zero, List.getElem?_cons_succ, zw3, rs3, tt3, tt22, tt23, tt27, tt29, tt31, tt34, tt36, tt37, tt39, tt44, ti3, ti22, ti23, ti27, ti29, ti31, ti34, ti36, ti37, ti39, ti44, t_21, t_22, t_23, t_24, t_25, t_26, zs_Law12_RawEnv, zs_Rule_Env, zs_Api_Body, zs_Api_Input, zs_Hand_RawOp, zs_Api_Op, zs_Trap_Fault, zsl22, zsl23, zsl37, h1, e0, e1, e5, e7, e8, g1, hlt, h16, hc]))
            refine ⟨16 - (k + 1), by omega, k + 1, ⟨.own q.n, al ++ [handOp (nth l.l k)], nofun⟩, rfl, by omega, by omega, by simp [put_at, zput_none, e0], by simp [put_at, zput_none, e1], by simp [put_at, zput_none, e5], by simp [put_at, zput_none], by simp [put_at, zput_none], by simp [htk, hacc], App.sw hn (by simp) (by omega), (by simp (disch := (first | omega | (simp only [Hp.zset_n]; omega))) only [Hp.get_new_ne, Hp.get_set_ne, g1]), (by simp only [Hp.bump_n, Hp.znew_n, Hp.zset_n]; omega), (fun k o h => by have hd := hF.dom k o h; (try simp (disch := first | assumption | omega | (simp only [Hp.bump_n, Hp.znew_n, Hp.zset_n]; (first | done | omega))) only [Hp.bump_get, Hp.get_set_ne, Hp.get_new_ne, Hp.bump_n, Hp.znew_n, Hp.zset_n]); exact hle k o h)⟩
        · simp -dsimp (disch := first | assumption | omega | (simp only [Hp.bump_n, Hp.znew_n, Hp.zset_n, List.length_nil, List.length_cons, List.length_append, List.length_map]; (first | done | omega)) | (simp (disch := first | omega | (simp only [Hp.bump_n, Hp.znew_n, Hp.zset_n, List.length_nil, List.length_cons, List.length_append, List.length_map]; (first | done | omega))) only [zheap]; done) | (simp (disch := first | omega | (simp only [Hp.bump_n, Hp.znew_n, Hp.zset_n, List.length_nil, List.length_cons, List.length_append, List.length_map]; (first | done | omega))) only [zheap]; rfl) | (simp (disch := first | omega | (simp only [Hp.bump_n, Hp.znew_n, Hp.zset_n]; (first | done | omega))) only [zheap, g1]; done) | (simp (disch := first | omega | (simp only [Hp.bump_n, Hp.znew_n, Hp.zset_n]; (first | done | omega))) only [zheap, g1]; rfl)) only [zall, zopm, zop, zcallOp, qop, qbuiltin, ofOpt, List.map, reduceCtorEq, if_true, if_false, ↓reduceIte, zbin, eqRes, qassert, qnum, qshift, qun, kindOf, allocV, true_and, and_true, and_self, List.nil_append, List.append_nil, List.cons_append, List.length_cons, List.length_nil, Nat.reduceAdd, Nat.reduceEqDiff, Nat.reduceLT, Nat.reduceSub, Nat.reduceMul, Int.reduceToNat, Int.reduceLE, Int.reduceLT, Int.reduceEq, Int.reduceNeg, Int.reduceAdd, Int.reduceSub, Bool.true_and, Bool.and_true, Bool.and_self, Bool.false_and, Bool.and_false, Bool.not_true, Bool.not_false, beq_self_eq_true, cond_true, cond_false, decide_true, decide_false, isConstOpd, xpanic, xconv, isBytes, qconv, List.length_map, List.map_nil, List.map_cons, concrete, Option.some.injEq, exists_eq', Int.toNat_natCast, Option.map_some, Option.map_none, List.getElem?_cons_zero, List.getElem?_cons_succ, zw3, rs3, tt3, tt22, tt23, tt27, tt29, tt31, tt34, tt36, tt37, tt39, tt44, ti3, ti22, ti23, ti27, ti29, ti31, ti34, ti36, ti37, ti39, ti44, t_21, t_22, t_23, t_24, t_25, t_26, zs_Law12_RawEnv, zs_Rule_Env, zs_Api_Body, zs_Api_Input, zs_Hand_RawOp, zs_Api_Op, zs_Trap_Fault, zsl22, zsl23, zsl37, h1, e0, e1, e5, e7, e8, g1, hlt, h16]
          repeat' ((first | (refine condW_b ?_ ?_ <;> intro hc) | (refine wantO_s ?_ ?_ <;> intro hc) | (refine wantD_s _ _ _ _ ?_ ?_ <;> intro hc) | (refine bindO_i ?_ ?_ <;> intro hc) | (refine bindE_i _ _ _ _ ?_ ?_ <;> intro hc)) <;> (try simp only [decide_eq_true_eq, decide_eq_false_iff_not, Bool.or_eq_true, Bool.and_eq_true, Bool.not_eq_true, Bool.not_eq_false, Bool.not_not, Classical.not_not, Int.not_le, Int.not_lt, Bool.not_eq_true', Bool.not_eq_false'] at hc) <;> (try have hw := within_spec hc) <;> (try simp -dsimp (disch := first | assumption | omega | (simp only [Hp.bump_n, Hp.znew_n, Hp.zset_n, List.length_nil, List.length_cons, List.length_append, List.length_map]; (first | done | omega)) | (simp (disch := first | omega | (simp only [Hp.bump_n, Hp.znew_n, Hp.zset_n, List.length_nil, List.length_cons, List.length_append, List.length_map]; (first | done | omega))) only [zheap]; done) | (simp (disch := first | omega | (simp only [Hp.bump_n, Hp.znew_n, Hp.zset_n, List.length_nil, List.length_cons, List.length_append, List.length_map]; (first | done | omega))) only [zheap]; rfl) | (simp (disch := first | omega | (simp only [Hp.bump_n, Hp.znew_n, Hp.zset_n]; (first | done | omega))) only [zheap, g1]; done) | (simp (disch := first | omega | (simp only [Hp.bump_n, Hp.znew_n, Hp.zset_n]; (first | done | omega))) only [zheap, g1]; rfl)) only [zall, zopm, zop, zcallOp, qop, qbuiltin, ofOpt, List.map, reduceCtorEq, if_true, if_false, ↓reduceIte, zbin, eqRes, qassert, qnum, qshift, qun, kindOf, allocV, true_and, and_true, and_self, List.nil_append, List.append_nil, List.cons_append, List.length_cons, List.length_nil, Nat.reduceAdd, Nat.reduceEqDiff, Nat.reduceLT, Nat.reduceSub, Nat.reduceMul, Int.reduceToNat, Int.reduceLE, Int.reduceLT, Int.reduceEq, Int.reduceNeg, Int.reduceAdd, Int.reduceSub, Bool.true_and, Bool.and_true, Bool.and_self, Bool.false_and, Bool.and_false, Bool.not_true, Bool.not_false, beq_self_eq_true, cond_true, cond_false, decide_true, decide_false, isConstOpd, xpanic, xconv, isBytes, qconv, List.length_map, List.map_nil, List.map_cons, concrete, Option.some.injEq, exists_eq', Int.toNat_natCast, Option.map_some, Option.map_none, List.getElem?_cons_zero, List.getElem?_cons_succ, zw3, rs3, tt3, tt22, tt23, tt27, tt29, tt31, tt34, tt36, tt37, tt39, tt44, ti3, ti22, ti23, ti27, ti29, ti31, ti34, ti36, ti37, ti39, ti44, t_21, t_22, t_23, t_24, t_25, t_26, zs_Law12_RawEnv, zs_Rule_Env, zs_Api_Body, zs_Api_Input, zs_Hand_RawOp, zs_Api_Op, zs_Trap_Fault, zsl22, zsl23, zsl37, h1, e0, e1, e5, e7, e8, g1, hlt, h16, hc]))
          have hk16 : k = 16 := by omega
          subst hk16
          exact ⟨acc, by simp [put_at, zput_none, e1], by simp [put_at, zput_none, e5], by simp [put_at, zput_none, e7], hacc, happ, g1, hn, hle⟩
      · simp -dsimp (disch := first | assumption | omega | (simp only [Hp.bump_n, Hp.znew_n, Hp.zset_n, List.length_nil, List.length_cons, List.length_append, List.length_map]; (first | done | omega)) | (simp (disch := first | omega | (simp only [Hp.bump_n, Hp.znew_n, Hp.zset_n, List.length_nil, List.length_cons, List.length_append, List.length_map]; (first | done | omega))) only [zheap]; done) | (simp (disch := first | omega | (simp only [Hp.bump_n, Hp.znew_n, Hp.zset_n, List.length_nil, List.length_cons, List.length_append, List.length_map]; (first | done | omega))) only [zheap]; rfl) | (simp (disch := first | omega | (simp only [Hp.bump_n, Hp.znew_n, Hp.zset_n]; (first | done | omega))) only [zheap, g1]; done) | (simp (disch := first | omega | (simp only [Hp.bump_n, Hp.znew_n, Hp.zset_n]; (first | done | omega))) only [zheap, g1]; rfl)) only [zall, zopm, zop, zcallOp, qop, qbuiltin, ofOpt, List.map, reduceCtorEq, if_true, if_false, ↓reduceIte, zbin, eqRes, qassert, qnum, qshift, qun, kindOf, allocV, true_and, and_true, and_self, List.nil_append, List.append_nil, List.cons_append, List.length_cons, List.length_nil, Nat.reduceAdd, Nat.reduceEqDiff, Nat.reduceLT, Nat.reduceSub, Nat.reduceMul, Int.reduceToNat, Int.reduceLE, Int.reduceLT, Int.reduceEq, Int.reduceNeg, Int.reduceAdd, Int.reduceSub, Bool.true_and, Bool.and_true, Bool.and_self, Bool.false_and, Bool.and_false, Bool.not_true, Bool.not_false, beq_self_eq_true, cond_true, cond_false, decide_true, decide_false, isConstOpd, xpanic, xconv, isBytes, qconv, List.length_map, List.map_nil, List.map_cons, concrete, Option.some.injEq, exists_eq', Int.toNat_natCast, Option.map_some, Option.map_none, List.getElem?_cons_zero, List.getElem?_cons_succ, zw3, rs3, tt3, tt22, tt23, tt27, tt29, tt31, tt34, tt36, tt37, tt39, tt44, ti3, ti22, ti23, ti27, ti29, ti31, ti34, ti36, ti37, ti39, ti44, t_21, t_22, t_23, t_24, t_25, t_26, zs_Law12_RawEnv, zs_Rule_Env, zs_Api_Body, zs_Api_Input, zs_Hand_RawOp, zs_Api_Op, zs_Trap_Fault, zsl22, zsl23, zsl37, h1, e0, e1, e5, e7, e8, g1, hlt]
        repeat' ((first | (refine condW_b ?_ ?_ <;> intro hc) | (refine wantO_s ?_ ?_ <;> intro hc) | (refine wantD_s _ _ _ _ ?_ ?_ <;> intro hc) | (refine bindO_i ?_ ?_ <;> intro hc) | (refine bindE_i _ _ _ _ ?_ ?_ <;> intro hc)) <;> (try simp only [decide_eq_true_eq, decide_eq_false_iff_not, Bool.or_eq_true, Bool.and_eq_true, Bool.not_eq_true, Bool.not_eq_false, Bool.not_not, Classical.not_not, Int.not_le, Int.not_lt, Bool.not_eq_true', Bool.not_eq_false'] at hc) <;> (try have hw := within_spec hc) <;> (try simp -dsimp (disch := first | assumption | omega | (simp only [Hp.bump_n, Hp.znew_n, Hp.zset_n, List.length_nil, List.length_cons, List.length_append, List.length_map]; (first | done | omega)) | (simp (disch := first | omega | (simp only [Hp.bump_n, Hp.znew_n, Hp.zset_n, List.length_nil, List.length_cons, List.length_append, List.length_map]; (first | done | omega))) only [zheap]; done) | (simp (disch := first | omega | (simp only [Hp.bump_n, Hp.znew_n, Hp.zset_n, List.length_nil, List.length_cons, List.length_append, List.length_map]; (first | done | omega))) only [zheap]; rfl) | (simp (disch := first | omega | (simp only [Hp.bump_n, Hp.znew_n, Hp.zset_n]; (first | done | omega))) only [zheap, g1]; done) | (simp (disch := first | omega | (simp only [Hp.bump_n, Hp.znew_n, Hp.zset_n]; (first | done | omega))) only [zheap, g1]; rfl)) only [zall, zopm, zop, zcallOp, qop, qbuiltin, ofOpt, List.map, reduceCtorEq, if_true, if_false, ↓reduceIte, zbin, eqRes, qassert, qnum, qshift, qun, kindOf, allocV, true_and, and_true, and_self, List.nil_append, List.append_nil, List.cons_append, List.length_cons, List.length_nil, Nat.reduceAdd, Nat.reduceEqDiff, Nat.reduceLT, Nat.reduceSub, Nat.reduceMul, Int.reduceToNat, Int.reduceLE, Int.reduceLT, Int.reduceEq, Int.reduceNeg, Int.reduceAdd, Int.reduceSub, Bool.true_and, Bool.and_true, Bool.and_self, Bool.false_and, Bool.and_false, Bool.not_true, Bool.not_false, beq_self_eq_true, cond_true, cond_false, decide_true, decide_false, isConstOpd, xpanic, xconv, isBytes, qconv, List.length_map, List.map_nil, List.map_cons, concrete, Option.some.injEq, exists_eq', Int.toNat_natCast, Option.map_some, Option.map_none, List.getElem?_cons_zero, List.getElem?_cons_succ, zw3, rs3, tt3, tt22, tt23, tt27, tt29, tt31, tt34, tt36, tt37, tt39, tt44, ti3, ti22, ti23, ti27, ti29, ti31, ti34, ti36, ti37, ti39, ti44, t_21, t_22, t_23, t_24, t_25, t_26, zs_Law12_RawEnv, zs_Rule_Env, zs_Api_Body, zs_Api_Input, zs_Hand_RawOp, zs_Api_Op, zs_Trap_Fault, zsl22, zsl23, zsl37, h1, e0, e1, e5, e7, e8, g1, hlt, hc]))
        have ht : l.l.take k = l.l.take 16 := by rw [List.take_of_length_le (by omega), List.take_of_length_le (by omega)]
        exact ⟨acc, by simp [put_at, zput_none, e1], by simp [put_at, zput_none, e5], by simp [put_at, zput_none, e7], by rw [hacc, ht], happ, g1, hn, hle⟩
    rintro ρ q ⟨acc, e1, e5, e7, hacc0, happ, g1, hn, hle⟩
    simp -dsimp (disch := first | assumption | omega | (simp only [Hp.bump_n, Hp.znew_n, Hp.zset_n, List.length_nil, List.length_cons, List.length_append, List.length_map]; (first | done | omega)) | (simp (disch := first | omega | (simp only [Hp.bump_n, Hp.znew_n, Hp.zset_n, List.length_nil, List.length_cons, List.length_append, List.length_map]; (first | done | omega))) only [zheap]; done) | (simp (disch := first | omega | (simp only [Hp.bump_n, Hp.znew_n, Hp.zset_n, List.length_nil, List.length_cons, List.length_append, List.length_map]; (first | done | omega))) only [zheap]; rfl) | (simp (disch := first | omega | (simp only [Hp.bump_n, Hp.znew_n, Hp.zset_n]; (first | done | omega))) only [zheap, g1]; done) | (simp (disch := first | omega | (simp only [Hp.bump_n, Hp.znew_n, Hp.zset_n]; (first | done | omega))) only [zheap, g1]; rfl)) only [zall, zopm, zop, zcallOp, qop, qbuiltin, ofOpt, List.map, reduceCtorEq, if_true, if_false, ↓reduceIte, zbin, eqRes, qassert, qnum, qshift, qun, kindOf, allocV, true_and, and_true, and_self, List.nil_append, List.append_nil, List.cons_append, List.length_cons, List.length_nil, Nat.reduceAdd, Nat.reduceEqDiff, Nat.reduceLT, Nat.reduceSub, Nat.reduceMul, Int.reduceToNat, Int.reduceLE, Int.reduceLT, Int.reduceEq, Int.reduceNeg, Int.reduceAdd, Int.reduceSub, Bool.true_and, Bool.and_true, Bool.and_self, Bool.false_and, Bool.and_false, Bool.not_true, Bool.not_false, beq_self_eq_true, cond_true, cond_false, decide_true, decide_false, isConstOpd, xpanic, xconv, isBytes, qconv, List.length_map, List.map_nil, List.map_cons, concrete, Option.some.injEq, exists_eq', Int.toNat_natCast, Option.map_some, Option.map_none, List.getElem?_cons_zero, List.getElem?_cons_succ, zw3, rs3, tt3, tt22, tt23, tt27, tt29, tt31, tt34, tt36, tt37, tt39, tt44, ti3, ti22, ti23, ti27, ti29, ti31, ti34, ti36, ti37, ti39, ti44, t_21, t_22, t_23, t_24, t_25, t_26, zs_Law12_RawEnv, zs_Rule_Env, zs_Api_Body, zs_Api_Input, zs_Hand_RawOp, zs_Api_Op, zs_Trap_Fault, zsl22, zsl23, zsl37, h1, e1, e5, e7, g1]
    repeat' ((first | (refine condW_b ?_ ?_ <;> intro hc) | (refine wantO_s ?_ ?_ <;> intro hc) | (refine wantD_s _ _ _ _ ?_ ?_ <;> intro hc) | (refine bindO_i ?_ ?_ <;> intro hc) | (refine bindE_i _ _ _ _ ?_ ?_ <;> intro hc)) <;> (try simp only [decide_eq_true_eq, decide_eq_false_iff_not, Bool.or_eq_true, Bool.and_eq_true, Bool.not_eq_true, Bool.not_eq_false, Bool.not_not, Classical.not_not, Int.not_le, Int.not_lt, Bool.not_eq_true', Bool.not_eq_false'] at hc) <;> (try have hw := within_spec hc) <;> (try simp -dsimp (disch := first | assumption | omega | (simp only [Hp.bump_n, Hp.znew_n, Hp.zset_n, List.length_nil, List.length_cons, List.length_append, List.length_map]; (first | done | omega)) | (simp (disch := first | omega | (simp only [Hp.bump_n, Hp.znew_n, Hp.zset_n, List.length_nil, List.length_cons, List.length_append, List.length_map]; (first | done | omega))) only [zheap]; done) | (simp (disch := first | omega | (simp only [Hp.bump_n, Hp.znew_n, Hp.zset_n, List.length_nil, List.length_cons, List.length_append, List.length_map]; (first | done | omega))) only [zheap]; rfl) | (simp (disch := first | omega | (simp only [Hp.bump_n, Hp.znew_n, Hp.zset_n]; (first | done | omega))) only [zheap, g1]; done) | (simp (disch := first | omega | (simp only [Hp.bump_n, Hp.znew_n, Hp.zset_n]; (first | done | omega))) only [zheap, g1]; rfl)) only [zall, zopm, zop, zcallOp, qop, qbuiltin, ofOpt, List.map, reduceCtorEq, if_true, if_false, ↓reduceIte, zbin, eqRes, qassert, qnum, qshift, qun, kindOf, allocV, true_and, and_true, and_self, List.nil_append, List.append_nil, List.cons_append, List.length_cons, List.length_nil, Nat.reduceAdd, Nat.reduceEqDiff, Nat.reduceLT, Nat.reduceSub, Nat.reduceMul, Int.reduceToNat, Int.reduceLE, Int.reduceLT, Int.reduceEq, Int.reduceNeg, Int.reduceAdd, Int.reduceSub, Bool.true_and, Bool.and_true, Bool.and_self, Bool.false_and, Bool.and_false, Bool.not_true, Bool.not_false, beq_self_eq_true, cond_true, cond_false, decide_true, decide_false, isConstOpd, xpanic, xconv, isBytes, qconv, List.length_map, List.map_nil, List.map_cons, concrete, Option.some.injEq, exists_eq', Int.toNat_natCast, Option.map_some, Option.map_none, List.getElem?_cons_zero, List.getElem?_cons_succ, zw3, rs3, tt3, tt22, tt23, tt27, tt29, tt31, tt34, tt36, tt37, tt39, tt44, ti3, ti22, ti23, ti27, ti29, ti31, ti34, ti36, ti37, ti39, ti44, t_21, t_22, t_23, t_24, t_25, t_26, zs_Law12_RawEnv, zs_Rule_Env, zs_Api_Body, zs_Api_Input, zs_Hand_RawOp, zs_Api_Op, zs_Trap_Fault, zsl22, zsl23, zsl37, h1, e1, e5, e7, g1, hc]))
    show W C false noExt call (ZC.block 2 (ZC.loop zn3_22)) _ _ (seqQ _ _)
    refine W_cut C false noExt call _ _ _ _ (K3b l raw x p) ?_ ?_
    · show W C false noExt call (ZC.loop zn3_22) _ _ _
      refine W_loop C false noExt call zn3_22 _ _ _ (J3b l raw x p) 4 ⟨0, acc, rfl, by omega, by omega, by simp [put_at, zput_none, e1], by simp [put_at, zput_none, e5], by simp [put_at, zput_none, e7], (by simp [put_at, zput_none, argE_0]), by simp [hacc0], happ, g1, hn, hle⟩ ?_
      clear e1 e5 e7 g1 hn hle happ hacc0
      rintro n ρ q ⟨k, acc, rfl, hk, hkl, e1, e5, e7, e9, hacc, happ, g1, hn, hle⟩
      by_cases hlt : (k : Int) < raw.l.length
      · by_cases h4 : (k : Int) < 4
        · have htk := take_nth (l := raw.l) (k := k) (by omega)
          have hal : acc.l.length ≤ 20 := by rw [hacc]; simp; omega
          obtain ⟨tl, al, ok⟩ := acc
          simp only at hacc hal
          rcases happ with ht | ⟨j, ht, hj1, hj2, hj3, hj4⟩
          · simp only at ht
            subst ht
            simp -dsimp (disch := first | assumption | omega | (simp only [Hp.bump_n, Hp.znew_n, Hp.zset_n, List.length_nil, List.length_cons, List.length_append, List.length_map]; (first | done | omega)) | (simp (disch := first | omega | (simp only [Hp.bump_n, Hp.znew_n, Hp.zset_n, List.length_nil, List.length_cons, List.length_append, List.length_map]; (first | done | omega))) only [zheap]; done) | (simp (disch := first | omega | (simp only [Hp.bump_n, Hp.znew_n, Hp.zset_n, List.length_nil, List.length_cons, List.length_append, List.length_map]; (first | done | omega))) only [zheap]; rfl) | (simp (disch := first | omega | (simp only [Hp.bump_n, Hp.znew_n, Hp.zset_n]; (first | done | omega))) only [zheap, g1]; done) | (simp (disch := first | omega | (simp only [Hp.bump_n, Hp.znew_n, Hp.zset_n]; (first | done | omega))) only [zheap, g1]; rfl)) only [zall, zopm, zop, zcallOp, qop, qbuiltin, ofOpt, List.map, reduceCtorEq, if_true, if_false, ↓reduceIte, zbin, eqRes, qassert, qnum, qshift, qun, kindOf, allocV, true_and, and_true, and_self, List.nil_append, List.append_nil, List.cons_append, List.length_cons, List.length_nil, Nat.reduceAdd, Nat.reduceEqDiff, Nat.reduceLT, Nat.reduceSub, Nat.reduceMul, Int.reduceToNat, Int.reduceLE, Int.reduceLT, Int.reduceEq, Int.reduceNeg, Int.reduceAdd, Int.reduceSub, Bool.true_and, Bool.and_true, Bool.and_self, Bool.false_and, Bool.and_false, Bool.not_true, Bool.not_false, beq_self_eq_true, cond_true, cond_false, decide_true, decide_false, isConstOpd, xpanic, xconv, isBytes, qconv, List.length_map, List.map_nil, List.map_cons, concrete, Option.some.injEq, exists_eq', Int.toNat_natCast, Option.map_some, Option.map_none, List.getElem?_cons_zero, List.getElem?_cons_succ, zw3, rs3, tt3, tt22, tt23, tt27, tt29, tt31, tt34, tt36, tt37, tt39, tt44, ti3, ti22, ti23, ti27, ti29, ti31, ti34, ti36, ti37, ti39, ti44, t_21, t_22, t_23, t_24, t_25, t_26, zs_Law12_RawEnv, zs_Rule_Env, zs_Api_Body, zs_Api_Input, zs_Hand_RawOp, zs_Api_Op, zs_Trap_Fault, zsl22, zsl23, zsl37, h1, e1, e5, e7, e9, g1, hlt, h4]
            repeat' ((first | (refine condW_b ?_ ?_ <;> intro hc) | (refine wantO_s ?_ ?_ <;> intro hc) | (refine wantD_s _ _ _ _ ?_ ?_ <;> intro hc) | (refine bindO_i ?_ ?_ <;> intro hc) | (refine bindE_i _ _ _ _ ?_ ?_ <;> intro hc)) <;> (try simp only [decide_eq_true_eq, decide_eq_false_iff_not, Bool.or_eq_true, Bool.and_eq_true, Bool.not_eq_true, Bool.not_eq_false, Bool.not_not, Classical.not_not, Int.not_le, Int.not_lt, Bool.not_eq_true', Bool.not_eq_false'] at hc) <;> (try have hw := within_spec hc) <;> (try simp -dsimp (disch := first | assumption | omega | (simp only [Hp.bump_n, Hp.znew_n, Hp.zset_n, List.length_nil, List.length_cons, List.length_append, List.length_map]; (first | done | omega)) | (simp (disch := first | omega | (simp only [Hp.bump_n, Hp.znew_n, Hp.zset_n, List.length_nil, List.length_cons, List.length_append, List.length_map]; (first | done | omega))) only [zheap]; done) | (simp (disch := first | omega | (simp only [Hp.bump_n, Hp.znew_n, Hp.zset_n, List.length_nil, List.length_cons, List.length_append, List.length_map]; (first | done | omega))) only [zheap]; rfl) | (simp (disch := first | omega | (simp only [Hp.bump_n, Hp.znew_n, Hp.zset_n]; (first | done | omega))) only [zheap, g1]; done) | (simp (disch := first | omega | (simp only [Hp.bump_n, Hp.znew_n, Hp.zset_n]; (first | done | omega))) only [zheap, g1]; rfl)) only [zall, zopm, zop, zcallOp, qop, qbuiltin, ofOpt, List.map, reduceCtorEq, if_true, if_false, ↓reduceIte, zbin, eqRes, qassert, qnum, qshift, qun, kindOf, allocV, true_and, and_true, and_self, List.nil_append, List.append_nil, List.cons_append, List.length_cons, List.length_nil, Nat.reduceAdd, Nat.reduceEqDiff, Nat.reduceLT, Nat.reduceSub, Nat.reduceMul, Int.reduceToNat, Int.reduceLE, Int.reduceLT, Int.reduceEq, Int.reduceNeg, Int.reduceAdd, Int.reduceSub, Bool.true_and, Bool.and_true, Bool.and_self, Bool.false_and, Bool.and_false, Bool.not_true, Bool.not_false, beq_self_eq_true, cond_true, cond_false, decide_true, decide_false, isConstOpd, xpanic, xconv, isBytes, qconv, List.length_map, List.map_nil, List.map_cons, concrete, Option.some.injEq, exists_eq', Int.toNat_natCast, Option.map_some, Option.map_none, List.getElem?_cons_zero, List.getElem?_cons_succ, zw3, rs3, tt3, tt22, tt23, tt27, tt29, tt31, tt34, tt36, tt37, tt39, tt44, ti3, ti22, ti23, ti27, ti29, ti31, ti34, ti36, ti37, ti39, ti44, t_21, t_22, t_23, t_24, t_25, t_26, zs_Law12_RawEnv, zs_Rule_Env, zs_Api_Body, zs_Api_Input, zs_Hand_RawOp, zs_Api_Op, zs_Trap_Fault, zsl22, zsl23, zsl37, h1, e1, e5, e7, e9, g1, hlt, h4, hc]))
            refine ⟨4 - (k + 1), by omega, k + 1, ⟨.own q.n, al ++ [nth raw.l k], nofun⟩, rfl, by omega, by omega, by simp [put_at, zput_none, e1], by simp [put_at, zput_none, e5], by simp [put_at, zput_none], by simp [put_at, zput_none], by simp [htk, hacc], App.nw hn (by simp) (by omega), (by simp (disch := omega) only [Hp.get_new_ne, g1]), (by simp only [Hp.bump_n, Hp.znew_n, Hp.zset_n]; omega), (fun k o h => by have hd := hF.dom k o h; (try simp (disch := first | assumption | omega | (simp only [Hp.bump_n, Hp.znew_n, Hp.zset_n]; (first | done | omega))) only [Hp.bump_get, Hp.get_set_ne, Hp.get_new_ne, Hp.bump_n, Hp.znew_n, Hp.zset_n]); exact hle k o h)⟩
          · simp only at ht hj3 hj4
            subst ht
            simp -dsimp (disch := first | assumption | omega | (simp only [Hp.bump_n, Hp.znew_n, Hp.zset_n, List.length_nil, List.length_cons, List.length_append, List.length_map]; (first | done | omega)) | (simp (disch := first | omega | (simp only [Hp.bump_n, Hp.znew_n, Hp.zset_n, List.length_nil, List.length_cons, List.length_append, List.length_map]; (first | done | omega))) only [zheap]; done) | (simp (disch := first | omega | (simp only [Hp.bump_n, Hp.znew_n, Hp.zset_n, List.length_nil, List.length_cons, List.length_append, List.length_map]; (first | done | omega))) only [zheap]; rfl) | (simp (disch := first | omega | (simp only [Hp.bump_n, Hp.znew_n, Hp.zset_n]; (first | done | omega))) only [zheap, g1]; done) | (simp (disch := first | omega | (simp only [Hp.bump_n, Hp.znew_n, Hp.zset_n]; (first | done | omega))) only [zheap, g1]; rfl)) only [zall, zopm, zop, zcallOp, qop, qbuiltin, ofOpt, List.map, reduceCtorEq, if_true, if_false, ↓reduceIte, zbin, eqRes, qassert, qnum, qshift, qun, kindOf, allocV, true_and, and_true, and_self, List.nil_append, List.append_nil, List.cons_append, List.length_cons, List.length_nil, Nat.reduceAdd, Nat.reduceEqDiff, Nat.reduceLT, Nat.reduceSub, Nat.reduceMul, Int.reduceToNat, Int.reduceLE, Int.reduceLT, Int.reduceEq, Int.reduceNeg, Int.reduceAdd, Int.reduceSub, Bool.true_and, Bool.and_true, Bool.and_self, Bool.false_and, Bool.and_false, Bool.not_true, Bool.not_false, beq_self_eq_true, cond_true, cond_false, decide_true, decide_false, isConstOpd, xpanic, xconv, isBytes, qconv, List.length_map, List.map_nil, List.map_cons, concrete, Option.some.injEq, exists_eq', Int.toNat_natCast, Option.map_some, Option.map_none, List.getElem?_cons_zero, List.getElem?_cons_succ, zw3, rs3, tt3, tt22, tt23, tt27, tt29, tt31, tt34, tt36, tt37, tt39, tt44, ti3, ti22, ti23, ti27, ti29, ti31, ti34, ti36, ti37, ti39, ti44, t_21, t_22, t_23, t_24, t_25, t_26, zs_Law12_RawEnv, zs_Rule_Env, zs_Api_Body, zs_Api_Input, zs_Hand_RawOp, zs_Api_Op, zs_Trap_Fault, zsl22, zsl23, zsl37, h1, e1, e5, e7, e9, g1, hlt, h4]
            repeat' ((first | (refine condW_b ?_ ?_ <;> intro hc) | (refine wantO_s ?_ ?_ <;> intro hc) | (refine wantD_s _ _ _ _ ?_ ?_ <;> intro hc) | (refine bindO_i ?_ ?_ <;> intro hc) | (refine bindE_i _ _ _ _ ?_ ?_ <;> intro hc)) <;> (try simp only [decide_eq_true_eq, decide_eq_false_iff_not, Bool.or_eq_true, Bool.and_eq_true, Bool.not_eq_true, Bool.not_eq_false, Bool.not_not, Classical.not_not, Int.not_le, Int.not_lt, Bool.not_eq_true', Bool.not_eq_false'] at hc) <;> (try have hw := within_spec hc) <;> (try simp -dsimp (disch := first | assumption | omega | (simp only [Hp.bump_n, Hp.znew_n, Hp.zset_n, List.length_nil, List.length_cons, List.length_append, List.length_map]; (first | done | omega)) | (simp (disch := first | omega | (simp only [Hp.bump_n, Hp.znew_n, Hp.zset_n, List.length_nil, List.length_cons, List.length_append, List.length_map]; (first | done | omega))) only [zheap]; done) | (simp (disch := first | omega | (simp only [Hp.bump_n, Hp.znew_n, Hp.zset_n, List.length_nil, List.length_cons, List.length_append, List.length_map]; (first | done | omega))) only [zheap]; rfl) | (simp (disch := first | omega | (simp only [Hp.bump_n, Hp.znew_n, Hp.zset_n]; (first | done | omega))) only [zheap, g1]; done) | (simp (disch := first | omega | (simp only [Hp.bump_n, Hp.znew_n, Hp.zset_n]; (first | done | omega))) only [zheap, g1]; rfl)) only [zall, zopm, zop, zcallOp, qop, qbuiltin, ofOpt, List.map, reduceCtorEq, if_true, if_false, ↓reduceIte, zbin, eqRes, qassert, qnum, qshift, qun, kindOf, allocV, true_and, and_true, and_self, List.nil_append, List.append_nil, List.cons_append, List.length_cons, List.length_nil, Nat.reduceAdd, Nat.reduceEqDiff, Nat.reduceLT, Nat.reduceSub, Nat.reduceMul, Int.reduceToNat, Int.reduceLE, Int.reduceLT, Int.reduceEq, Int.reduceNeg, Int.reduceAdd, Int.reduceSub, Bool.true_and, Bool.and_true, Bool.and_self, Bool.false_and, Bool.and_false, Bool.not_true, Bool.not_false, beq_self_eq_true, cond_true, cond_false, decide_true, decide_false, isConstOpd, xpanic, xconv, isBytes, qconv, List.length_map, List.map_nil, List.map_cons, concrete, Option.some.injEq, exists_eq', Int.toNat_natCast, Option.map_some, Option.map_none, List.getElem?_cons_zero, List.getElem?_cons_succ, zw3, rs3, tt3, tt22, tt23, tt27, tt29, tt31, tt34, tt36, tt37, tt39, tt44, ti3, ti22, ti23, ti27, ti29, ti31, ti34, ti36, ti37, ti39, ti44, t_21, t_22, t_23, t_24, t_25, t_26, zs_Law12_RawEnv, zs_Rule_Env, zs_Api_Body, zs_Api_Input, zs_Hand_RawOp, zs_Api_Op, zs_Trap_Fault, zsl22, zsl23, zsl37, h1, e1, e5, e7, e9, g1, hlt, h4, hc]))
            refine ⟨4 - (k + 1), by omega, k + 1, ⟨.own q.n, al ++ [nth raw.l k], nofun⟩, rfl, by omega, by omega, by simp [put_at, zput_none, e1], by simp [put_at, zput_none, e5], by simp [put_at, zput_none], by simp [put_at, zput_none], by simp [htk, hacc], App.sw hn (by simp) (by omega), (by simp (disch := (first | omega | (simp only [Hp.zset_n]; omega))) only [Hp.get_new_ne, Hp.get_set_ne, g1]), (by simp only [Hp.bump_n, Hp.znew_n, Hp.zset_n]; omega), (fun k o h => by have hd := hF.dom k o h; (try simp (disch := first | assumption | omega | (simp only [Hp.bump_n, Hp.znew_n, Hp.zset_n]; (first | done | omega))) only [Hp.bump_get, Hp.get_set_ne, Hp.get_new_ne, Hp.bump_n, Hp.znew_n, Hp.zset_n]); exact hle k o h)⟩
        · simp -dsimp (disch := first | assumption | omega | (simp only [Hp.bump_n, Hp.znew_n, Hp.zset_n, List.length_nil, List.length_cons, List.length_append, List.length_map]; (first | done | omega)) | (simp (disch := first | omega | (simp only [Hp.bump_n, Hp.znew_n, Hp.zset_n, List.length_nil, List.length_cons, List.length_append, List.length_map]; (first | done | omega))) only [zheap]; done) | (simp (disch := first | omega | (simp only [Hp.bump_n, Hp.znew_n, Hp.zset_n, List.length_nil, List.length_cons, List.length_append, List.length_map]; (first | done | omega))) only [zheap]; rfl) | (simp (disch := first | omega | (simp only [Hp.bump_n, Hp.znew_n, Hp.zset_n]; (first | done | omega))) only [zheap, g1]; done) | (simp (disch := first | omega | (simp only [Hp.bump_n, Hp.znew_n, Hp.zset_n]; (first | done | omega))) only [zheap, g1]; rfl)) only [zall, zopm, zop, zcallOp, qop, qbuiltin, ofOpt, List.map, reduceCtorEq, if_true, if_false, ↓reduceIte, zbin, eqRes, qassert, qnum, qshift, qun, kindOf, allocV, true_and, and_true, and_self, List.nil_append, List.append_nil, List.cons_append, List.length_cons, List.length_nil, Nat.reduceAdd, Nat.reduceEqDiff, Nat.reduceLT, Nat.reduceSub, Nat.reduceMul, Int.reduceToNat, Int.reduceLE, Int.reduceLT, Int.reduceEq, Int.reduceNeg, Int.reduceAdd, Int.reduceSub, Bool.true_and, Bool.and_true, Bool.and_self, Bool.false_and, Bool.and_false, Bool.not_true, Bool.not_false, beq_self_eq_true, cond_true, cond_false, decide_true, decide_false, isConstOpd, xpanic, xconv, isBytes, qconv, List.length_map, List.map_nil, List.map_cons, concrete, Option.some.injEq, exists_eq', Int.toNat_natCast, Option.map_some, Option.map_none, List.getElem?_cons_zero, List.getElem?_cons_succ, zw3, rs3, tt3, tt22, tt23, tt27, tt29, tt31, tt34, tt36, tt37, tt39, tt44, ti3, ti22, ti23, ti27, ti29, ti31, ti34, ti36, ti37, ti39, ti44, t_21, t_22, t_23, t_24, t_25, t_26, zs_Law12_RawEnv, zs_Rule_Env, zs_Api_Body, zs_Api_Input, zs_Hand_RawOp, zs_Api_Op, zs_Trap_Fault, zsl22, zsl23, zsl37, h1, e1, e5, e7, e9, g1, hlt, h4]
          repeat' ((first | (refine condW_b ?_ ?_ <;> intro hc) | (refine wantO_s ?_ ?_ <;> intro hc) | (refine wantD_s _ _ _ _ ?_ ?_ <;> intro hc) | (refine bindO_i ?_ ?_ <;> intro hc) | (refine bindE_i _ _ _ _ ?_ ?_ <;> intro hc)) <;> (try simp only [decide_eq_true_eq, decide_eq_false_iff_not, Bool.or_eq_true, Bool.and_eq_true, Bool.not_eq_true, Bool.not_eq_false, Bool.not_not, Classical.not_not, Int.not_le, Int.not_lt, Bool.not_eq_true', Bool.not_eq_false'] at hc) <;> (try have hw := within_spec hc) <;> (try simp -dsimp (disch := first | assumption | omega | (simp only [Hp.bump_n, Hp.znew_n, Hp.zset_n, List.length_nil, List.length_cons, List.length_append, List.length_map]; (first | done | omega)) | (simp (disch := first | omega | (simp only [Hp.bump_n, Hp.znew_n, Hp.zset_n, List.length_nil, List.length_cons, List.length_append, List.length_map]; (first | done | omega))) only [zheap]; done) | (simp (disch := first | omega | (simp only [Hp.bump_n, Hp.znew_n, Hp.zset_n, List.length_nil, List.length_cons, List.length_append, List.length_map]; (first | done | omega))) only [zheap]; rfl) | (simp (disch := first | omega | (simp only [Hp.bump_n, Hp.znew_n, Hp.zset_n]; (first | done | omega))) only [zheap, g1]; done) | (simp (disch := first | omega | (simp only [Hp.bump_n, Hp.znew_n, Hp.zset_n]; (first | done | omega))) only [zheap, g1]; rfl)) only [zall, zopm, zop, zcallOp, qop, qbuiltin, ofOpt, List.map, reduceCtorEq, if_true, if_false, ↓reduceIte, zbin, eqRes, qassert, qnum, qshift, qun, kindOf, allocV, true_and, and_true, and_self, List.nil_append, List.append_nil, List.cons_append, List.length_cons, List.length_nil, Nat.reduceAdd, Nat.reduceEqDiff, Nat.reduceLT, Nat.reduceSub, Nat.reduceMul, Int.reduceToNat, Int.reduceLE, Int.reduceLT, Int.reduceEq, Int.reduceNeg, Int.reduceAdd, Int.reduceSub, Bool.true_and, Bool.and_true, Bool.and_self, Bool.false_and, Bool.and_false, Bool.not_true, Bool.not_false, beq_self_eq_true, cond_true, cond_false, decide_true, decide_false, isConstOpd, xpanic, xconv, isBytes, qconv, List.length_map, List.map_nil, List.map_cons, concrete, Option.some.injEq, exists_eq', Int.toNat_natCast, Option.map_some, Option.map_none, List.getElem?_cons_zero, List.getElem?_cons_succ, zw3, rs3, tt3, tt22, tt23, tt27, tt29, tt31, tt34, tt36, tt37, tt39, tt44, ti3, ti22, ti23, ti27, ti29, ti31, ti34, ti36, ti37, ti39, ti44, t_21, t_22, t_23, t_24, t_25, t_26, zs_Law12_RawEnv, zs_Rule_Env, zs_Api_Body, zs_Api_Input, zs_Hand_RawOp, zs_Api_Op, zs_Trap_Fault, zsl22, zsl23, zsl37, h1, e1, e5, e7, e9, g1, hlt, h4, hc]))
          have hk4 : k = 4 := by omega
          subst hk4
          exact ⟨acc, by simp [put_at, zput_none, e5], by simp [put_at, zput_none, e7], hacc, g1, hn, hle⟩
      · simp -dsimp (disch := first | assumption | omega | (simp only [Hp.bump_n, Hp.znew_n, Hp.zset_n, List.length_nil, List.length_cons, List.length_append, List.length_map]; (first | done | omega)) | (simp (disch := first | omega | (simp only [Hp.bump_n, Hp.znew_n, Hp.zset_n, List.length_nil, List.length_cons, List.length_append, List.length_map]; (first | done | omega))) only [zheap]; done) | (simp (disch := first | omega | (simp only [Hp.bump_n, Hp.znew_n, Hp.zset_n, List.length_nil, List.length_cons, List.length_append, List.length_map]; (first | done | omega))) only [zheap]; rfl) | (simp (disch := first | omega | (simp only [Hp.bump_n, Hp.znew_n, Hp.zset_n]; (first | done | omega))) only [zheap, g1]; done) | (simp (disch := first | omega | (simp only [Hp.bump_n, Hp.znew_n, Hp.zset_n]; (first | done | omega))) only [zheap, g1]; rfl)) only [zall, zopm, zop, zcallOp, qop, qbuiltin, ofOpt, List.map, reduceCtorEq, if_true, if_false, ↓reduceIte, zbin, eqRes, qassert, qnum, qshift, qun, kindOf, allocV, true_and, and_true, and_self, List.nil_append, List.append_nil, List.cons_append, List.length_cons, List.length_nil, Nat.reduceAdd, Nat.reduceEqDiff, Nat.reduceLT, Nat.reduceSub, Nat.reduceMul, Int.reduceToNat, Int.reduceLE, Int.reduceLT, Int.reduceEq, Int.reduceNeg, Int.reduceAdd, Int.reduceSub, Bool.true_and, Bool.and_true, Bool.and_self, Bool.false_and, Bool.and_false, Bool.not_true, Bool.not_false, beq_self_eq_true, cond_true, cond_false, decide_true, decide_false, isConstOpd, xpanic, xconv, isBytes, qconv, List.length_map, List.map_nil, List.map_cons, concrete, Option.some.injEq, exists_eq', Int.toNat_natCast, Option.map_some, Option.map_none, List.getElem?_cons_zero, List.getElem?_cons_succ, zw3, rs3, tt3, tt22, tt23, tt27, tt29, tt31, tt34, tt36, tt37, tt39, tt44, ti3, ti22, ti23, ti27, ti29, ti31, ti34, ti36, ti37, ti39, ti44, t_21, t_22, t_23, t_24, t_25, t_26, zs_Law12_RawEnv, zs_Rule_Env, zs_Api_Body, zs_Api_Input, zs_Hand_RawOp, zs_Api_Op, zs_Trap_Fault, zsl22, zsl23, zsl37, h1, e1, e5, e7, e9, g1, hlt]
        repeat' ((first | (refine condW_b ?_ ?_ <;> intro hc) | (refine wantO_s ?_ ?_ <;> intro hc) | (refine wantD_s _ _ _ _ ?_ ?_ <;> intro hc) | (refine bindO_i ?_ ?_ <;> intro hc) | (refine bindE_i _ _ _ _ ?_ ?_ <;> intro hc)) <;> (try simp only [decide_eq_true_eq, decide_eq_false_iff_not, Bool.or_eq_true, Bool.and_eq_true, Bool.not_eq_true, Bool.not_eq_false, Bool.not_not, Classical.not_not, Int.not_le, Int.not_lt, Bool.not_eq_true', Bool.not_eq_false'] at hc) <;> (try have hw := within_spec hc) <;> (try simp -dsimp (disch := first | assumption | omega | (simp only [Hp.bump_n, Hp.znew_n, Hp.zset_n, List.length_nil, List.length_cons, List.length_append, List.length_map]; (first | done | omega)) | (simp (disch := first | omega | (simp only [Hp.bump_n, Hp.znew_n, Hp.zset_n, List.length_nil, List.length_cons, List.length_append, List.length_map]; (first | done | omega))) only [zheap]; done) | (simp (disch := first | omega | (simp only [Hp.bump_n, Hp.znew_n, Hp.zset_n, List.length_nil, List.length_cons, List.length_append, List.length_map]; (first | done | omega))) only [zheap]; rfl) | (simp (disch := first | omega | (simp only [Hp.bump_n, Hp.znew_n, Hp.zset_n]; (first | done | omega))) only [zheap, g1]; done) | (simp (disch := first | omega | (simp only [Hp.bump_n, Hp.znew_n, Hp.zset_n]; (first | done | omega))) only [zheap, g1]; rfl)) only [zall, zopm, zop, zcallOp, qop, qbuiltin, ofOpt, List.map, reduceCtorEq, if_true, if_false, ↓reduceIte, zbin, eqRes, qassert, qnum, qshift, qun, kindOf, allocV, true_and, and_true, and_self, List.nil_append, List.append_nil, List.cons_append, List.length_cons, List.length_nil, Nat.reduceAdd, Nat.reduceEqDiff, Nat.reduceLT, Nat.reduceSub, Nat.reduceMul, Int.reduceToNat, Int.reduceLE, Int.reduceLT, Int.reduceEq, Int.reduceNeg, Int.reduceAdd, Int.reduceSub, Bool.true_and, Bool.and_true, Bool.and_self, Bool.false_and, Bool.and_false, Bool.not_true, Bool.not_false, beq_self_eq_true, cond_true, cond_false, decide_true, decide_false, isConstOpd, xpanic, xconv, isBytes, qconv, List.length_map, List.map_nil, List.map_cons, concrete, Option.some.injEq, exists_eq', Int.toNat_natCast, Option.map_some, Option.map_none, List.getElem?_cons_zero, List.getElem?_cons_succ, zw3, rs3, tt3, tt22, tt23, tt27, tt29, tt31, tt34, tt36, tt37, tt39, tt44, ti3, ti22, ti23, ti27, ti29, ti31, ti34, ti36, ti37, ti39, ti44, t_21, t_22, t_23, t_24, t_25, t_26, zs_Law12_RawEnv, zs_Rule_Env, zs_Api_Body, zs_Api_Input, zs_Hand_RawOp, zs_Api_Op, zs_Trap_Fault, zsl22, zsl23, zsl37, h1, e1, e5, e7, e9, g1, hlt, hc]))
        have ht : raw.l.take k = raw.l.take 4 := by rw [List.take_of_length_le (by omega), List.take_of_length_le (by omega)]
        exact ⟨acc, by simp [put_at, zput_none, e5], by simp [put_at, zput_none, e7], by rw [hacc, ht], g1, hn, hle⟩
    clear e1 e5 e7 g1 hn hle happ hacc0
    rintro ρ q ⟨acc, e5, e7, hacc, g1, hn, hle⟩
    have hal : acc.l.length ≤ 100000 := by rw [hacc]; simp; omega
    have hv : (envOf x).Shots.tl ≠ .view := by simp [envOf, Rule_Env.zero]
    have hv2 : (envOf x).Shots.l.length ≤ 100000 := by simp [envOf, Rule_Env.zero]
    have hz : Trap_Fault.zero = ⟨0, 0⟩ := rfl
    by_cases hr : Body.right (envOf x).Body = true
    · have hT := rule_total x acc hr
      have hR : (ruleRun acc (envOf x)).1.Shots.l.length ≤ 1000000 := by
        cases ho : (ruleRun acc (envOf x)).2.2 with
        | true =>
          have := (hT.1 ho).2.len
          have hp := pick_range (n := x.Room) (m := 8) (by omega)
          have : (envOf x).Room = pick x.Room 8 := rfl
          omega
        | false =>
          have := (hT.2 ho).2
          simp only [sameE, Bool.and_eq_true, decide_eq_true_eq] at this
          rw [this.2]; omega
      generalize hgen : ruleRun acc (envOf x) = R at hT hR
      obtain ⟨g, f, ok⟩ := R
      cases ok with
      | false =>
        have h2 := (hT.2 rfl).1
        have h3 := (hT.2 rfl).2
        simp only at h2 h3
        have a1 := h2.1
        have a2 := h2.2.1
        have a3 := h2.2.2.1
        have a4 := h2.2.2.2
        simp -dsimp (disch := first | assumption | omega | (simp only [Hp.bump_n, Hp.znew_n, Hp.zset_n, List.length_nil, List.length_cons, List.length_append, List.length_map]; (first | done | omega)) | (simp (disch := first | omega | (simp only [Hp.bump_n, Hp.znew_n, Hp.zset_n, List.length_nil, List.length_cons, List.length_append, List.length_map]; (first | done | omega))) only [zheap]; done) | (simp (disch := first | omega | (simp only [Hp.bump_n, Hp.znew_n, Hp.zset_n, List.length_nil, List.length_cons, List.length_append, List.length_map]; (first | done | omega))) only [zheap]; rfl) | (simp (disch := first | omega | (simp only [Hp.bump_n, Hp.znew_n, Hp.zset_n]; (first | done | omega))) only [zheap, g1]; done) | (simp (disch := first | omega | (simp only [Hp.bump_n, Hp.znew_n, Hp.zset_n]; (first | done | omega))) only [zheap, g1]; rfl)) only [zall, zopm, zop, zcallOp, qop, qbuiltin, ofOpt, List.map, reduceCtorEq, if_true, if_false, ↓reduceIte, zbin, eqRes, qassert, qnum, qshift, qun, kindOf, allocV, true_and, and_true, and_self, List.nil_append, List.append_nil, List.cons_append, List.length_cons, List.length_nil, Nat.reduceAdd, Nat.reduceEqDiff, Nat.reduceLT, Nat.reduceSub, Nat.reduceMul, Int.reduceToNat, Int.reduceLE, Int.reduceLT, Int.reduceEq, Int.reduceNeg, Int.reduceAdd, Int.reduceSub, Bool.true_and, Bool.and_true, Bool.and_self, Bool.false_and, Bool.and_false, Bool.not_true, Bool.not_false, beq_self_eq_true, cond_true, cond_false, decide_true, decide_false, isConstOpd, xpanic, xconv, isBytes, qconv, List.length_map, List.map_nil, List.map_cons, concrete, Option.some.injEq, exists_eq', Int.toNat_natCast, Option.map_some, Option.map_none, List.getElem?_cons_zero, List.getElem?_cons_succ, zw3, rs3, tt3, tt22, tt23, tt27, tt29, tt31, tt34, tt36, tt37, tt39, tt44, ti3, ti22, ti23, ti27, ti29, ti31, ti34, ti36, ti37, ti39, ti44, t_21, t_22, t_23, t_24, t_25, t_26, zs_Law12_RawEnv, zs_Rule_Env, zs_Api_Body, zs_Api_Input, zs_Hand_RawOp, zs_Api_Op, zs_Trap_Fault, zsl22, zsl23, zsl37, h1, e5, e7, g1, hr, hgen, a1, a2, a3, a4, h3]
        repeat' ((first | (refine condW_b ?_ ?_ <;> intro hc) | (refine wantO_s ?_ ?_ <;> intro hc) | (refine wantD_s _ _ _ _ ?_ ?_ <;> intro hc) | (refine bindO_i ?_ ?_ <;> intro hc) | (refine bindE_i _ _ _ _ ?_ ?_ <;> intro hc)) <;> (try simp only [decide_eq_true_eq, decide_eq_false_iff_not, Bool.or_eq_true, Bool.and_eq_true, Bool.not_eq_true, Bool.not_eq_false, Bool.not_not, Classical.not_not, Int.not_le, Int.not_lt, Bool.not_eq_true', Bool.not_eq_false'] at hc) <;> (try have hw := within_spec hc) <;> (try simp -dsimp (disch := first | assumption | omega | (simp only [Hp.bump_n, Hp.znew_n, Hp.zset_n, List.length_nil, List.length_cons, List.length_append, List.length_map]; (first | done | omega)) | (simp (disch := first | omega | (simp only [Hp.bump_n, Hp.znew_n, Hp.zset_n, List.length_nil, List.length_cons, List.length_append, List.length_map]; (first | done | omega))) only [zheap]; done) | (simp (disch := first | omega | (simp only [Hp.bump_n, Hp.znew_n, Hp.zset_n, List.length_nil, List.length_cons, List.length_append, List.length_map]; (first | done | omega))) only [zheap]; rfl) | (simp (disch := first | omega | (simp only [Hp.bump_n, Hp.znew_n, Hp.zset_n]; (first | done | omega))) only [zheap, g1]; done) | (simp (disch := first | omega | (simp only [Hp.bump_n, Hp.znew_n, Hp.zset_n]; (first | done | omega))) only [zheap, g1]; rfl)) only [zall, zopm, zop, zcallOp, qop, qbuiltin, ofOpt, List.map, reduceCtorEq, if_true, if_false, ↓reduceIte, zbin, eqRes, qassert, qnum, qshift, qun, kindOf, allocV, true_and, and_true, and_self, List.nil_append, List.append_nil, List.cons_append, List.length_cons, List.length_nil, Nat.reduceAdd, Nat.reduceEqDiff, Nat.reduceLT, Nat.reduceSub, Nat.reduceMul, Int.reduceToNat, Int.reduceLE, Int.reduceLT, Int.reduceEq, Int.reduceNeg, Int.reduceAdd, Int.reduceSub, Bool.true_and, Bool.and_true, Bool.and_self, Bool.false_and, Bool.and_false, Bool.not_true, Bool.not_false, beq_self_eq_true, cond_true, cond_false, decide_true, decide_false, isConstOpd, xpanic, xconv, isBytes, qconv, List.length_map, List.map_nil, List.map_cons, concrete, Option.some.injEq, exists_eq', Int.toNat_natCast, Option.map_some, Option.map_none, List.getElem?_cons_zero, List.getElem?_cons_succ, zw3, rs3, tt3, tt22, tt23, tt27, tt29, tt31, tt34, tt36, tt37, tt39, tt44, ti3, ti22, ti23, ti27, ti29, ti31, ti34, ti36, ti37, ti39, ti44, t_21, t_22, t_23, t_24, t_25, t_26, zs_Law12_RawEnv, zs_Rule_Env, zs_Api_Body, zs_Api_Input, zs_Hand_RawOp, zs_Api_Op, zs_Trap_Fault, zsl22, zsl23, zsl37, h1, e5, e7, g1, hr, hgen, a1, a2, a3, a4, h3, hc]))
        all_goals exact shr_keep hF (fun k o h => by have hd := hF.dom k o h; (try simp (disch := first | assumption | omega | (simp only [Hp.bump_n, Hp.znew_n, Hp.zset_n]; (first | done | omega))) only [Hp.bump_get, Hp.get_set_ne, Hp.get_new_ne, Hp.bump_n, Hp.znew_n, Hp.zset_n]); exact hle k o h) (weak_self (lt_of_no (by intro jj; simp [CV.has, CV.hasL, fault, Trap_thrown.nohas, Api_Body.nohas, Api_Input.nohas, Hand_RawOp.nohas, Api_Op.nohas, Trap_Fault.nohas])))
      | true =>
        have h2 := (hT.1 rfl).1
        have h3 := (hT.1 rfl).2
        simp only at h2 h3
        subst h2
        have a1 := h3.right
        have a2 := h3.kind
        have a3 := h3.owner
        have a4 := h3.age
        have a5 := h3.faults
        have a6 := h3.inp
        have a7 := h3.room
        simp only at hR
        have a8 : ¬ (envOf x).Room < g.Shots.l.length := by have := h3.len; omega
        simp -dsimp (disch := first | assumption | omega | (simp only [Hp.bump_n, Hp.znew_n, Hp.zset_n, List.length_nil, List.length_cons, List.length_append, List.length_map]; (first | done | omega)) | (simp (disch := first | omega | (simp only [Hp.bump_n, Hp.znew_n, Hp.zset_n, List.length_nil, List.length_cons, List.length_append, List.length_map]; (first | done | omega))) only [zheap]; done) | (simp (disch := first | omega | (simp only [Hp.bump_n, Hp.znew_n, Hp.zset_n, List.length_nil, List.length_cons, List.length_append, List.length_map]; (first | done | omega))) only [zheap]; rfl) | (simp (disch := first | omega | (simp only [Hp.bump_n, Hp.znew_n, Hp.zset_n]; (first | done | omega))) only [zheap, g1]; done) | (simp (disch := first | omega | (simp only [Hp.bump_n, Hp.znew_n, Hp.zset_n]; (first | done | omega))) only [zheap, g1]; rfl)) only [zall, zopm, zop, zcallOp, qop, qbuiltin, ofOpt, List.map, reduceCtorEq, if_true, if_false, ↓reduceIte, zbin, eqRes, qassert, qnum, qshift, qun, kindOf, allocV, true_and, and_true, and_self, List.nil_append, List.append_nil, List.cons_append, List.length_cons, List.length_nil, Nat.reduceAdd, Nat.reduceEqDiff, Nat.reduceLT, Nat.reduceSub, Nat.reduceMul, Int.reduceToNat, Int.reduceLE, Int.reduceLT, Int.reduceEq, Int.reduceNeg, Int.reduceAdd, Int.reduceSub, Bool.true_and, Bool.and_true, Bool.and_self, Bool.false_and, Bool.and_false, Bool.not_true, Bool.not_false, beq_self_eq_true, cond_true, cond_false, decide_true, decide_false, isConstOpd, xpanic, xconv, isBytes, qconv, List.length_map, List.map_nil, List.map_cons, concrete, Option.some.injEq, exists_eq', Int.toNat_natCast, Option.map_some, Option.map_none, List.getElem?_cons_zero, List.getElem?_cons_succ, zw3, rs3, tt3, tt22, tt23, tt27, tt29, tt31, tt34, tt36, tt37, tt39, tt44, ti3, ti22, ti23, ti27, ti29, ti31, ti34, ti36, ti37, ti39, ti44, t_21, t_22, t_23, t_24, t_25, t_26, zs_Law12_RawEnv, zs_Rule_Env, zs_Api_Body, zs_Api_Input, zs_Hand_RawOp, zs_Api_Op, zs_Trap_Fault, zsl22, zsl23, zsl37, h1, e5, e7, g1, hr, hgen, a1, a2, a3, a4, a5, a6, a7, a8, hz]
        repeat' ((first | (refine condW_b ?_ ?_ <;> intro hc) | (refine wantO_s ?_ ?_ <;> intro hc) | (refine wantD_s _ _ _ _ ?_ ?_ <;> intro hc) | (refine bindO_i ?_ ?_ <;> intro hc) | (refine bindE_i _ _ _ _ ?_ ?_ <;> intro hc)) <;> (try simp only [decide_eq_true_eq, decide_eq_false_iff_not, Bool.or_eq_true, Bool.and_eq_true, Bool.not_eq_true, Bool.not_eq_false, Bool.not_not, Classical.not_not, Int.not_le, Int.not_lt, Bool.not_eq_true', Bool.not_eq_false'] at hc) <;> (try have hw := within_spec hc) <;> (try simp -dsimp (disch := first | assumption | omega | (simp only [Hp.bump_n, Hp.znew_n, Hp.zset_n, List.length_nil, List.length_cons, List.length_append, List.length_map]; (first | done | omega)) | (simp (disch := first | omega | (simp only [Hp.bump_n, Hp.znew_n, Hp.zset_n, List.length_nil, List.length_cons, List.length_append, List.length_map]; (first | done | omega))) only [zheap]; done) | (simp (disch := first | omega | (simp only [Hp.bump_n, Hp.znew_n, Hp.zset_n, List.length_nil, List.length_cons, List.length_append, List.length_map]; (first | done | omega))) only [zheap]; rfl) | (simp (disch := first | omega | (simp only [Hp.bump_n, Hp.znew_n, Hp.zset_n]; (first | done | omega))) only [zheap, g1]; done) | (simp (disch := first | omega | (simp only [Hp.bump_n, Hp.znew_n, Hp.zset_n]; (first | done | omega))) only [zheap, g1]; rfl)) only [zall, zopm, zop, zcallOp, qop, qbuiltin, ofOpt, List.map, reduceCtorEq, if_true, if_false, ↓reduceIte, zbin, eqRes, qassert, qnum, qshift, qun, kindOf, allocV, true_and, and_true, and_self, List.nil_append, List.append_nil, List.cons_append, List.length_cons, List.length_nil, Nat.reduceAdd, Nat.reduceEqDiff, Nat.reduceLT, Nat.reduceSub, Nat.reduceMul, Int.reduceToNat, Int.reduceLE, Int.reduceLT, Int.reduceEq, Int.reduceNeg, Int.reduceAdd, Int.reduceSub, Bool.true_and, Bool.and_true, Bool.and_self, Bool.false_and, Bool.and_false, Bool.not_true, Bool.not_false, beq_self_eq_true, cond_true, cond_false, decide_true, decide_false, isConstOpd, xpanic, xconv, isBytes, qconv, List.length_map, List.map_nil, List.map_cons, concrete, Option.some.injEq, exists_eq', Int.toNat_natCast, Option.map_some, Option.map_none, List.getElem?_cons_zero, List.getElem?_cons_succ, zw3, rs3, tt3, tt22, tt23, tt27, tt29, tt31, tt34, tt36, tt37, tt39, tt44, ti3, ti22, ti23, ti27, ti29, ti31, ti34, ti36, ti37, ti39, ti44, t_21, t_22, t_23, t_24, t_25, t_26, zs_Law12_RawEnv, zs_Rule_Env, zs_Api_Body, zs_Api_Input, zs_Hand_RawOp, zs_Api_Op, zs_Trap_Fault, zsl22, zsl23, zsl37, h1, e5, e7, g1, hr, hgen, a1, a2, a3, a4, a5, a6, a7, a8, hz, hc]))
        show W C false noExt call (ZC.loop zn3_57) _ _ _
        refine W_loop C false noExt call zn3_57 _ _ _ (J3c (envOf x) g p q.n (q.n + 1)) g.Shots.l.length ⟨0, rfl, by omega, (by simp [put_at, zput_none, argE_0]), (by simp [put_at, zput_none, argE_0]), (by simp [put_at, zput_none, argE_0]), (by simp [put_at, zput_none, argE_0]), (by simp (disch := first | assumption | omega | (simp only [Hp.bump_n, Hp.znew_n, Hp.zset_n]; (first | done | omega))) only [zheap]; first | done | rfl), (by simp (disch := first | assumption | omega | (simp only [Hp.bump_n, Hp.znew_n, Hp.zset_n]; (first | done | omega))) only [zheap]; first | done | rfl), (fun k o h => by have hd := hF.dom k o h; (try simp (disch := first | assumption | omega | (simp only [Hp.bump_n, Hp.znew_n, Hp.zset_n]; (first | done | omega))) only [Hp.bump_get, Hp.get_set_ne, Hp.get_new_ne, Hp.bump_n, Hp.znew_n, Hp.zset_n]); exact hle k o h)⟩ ?_
        clear e5 e7 g1 hle
        generalize q.n = i0 at hn
        rintro n ρ q ⟨k, rfl, hk, e10, e11, e164, e165, g2, g3, hle⟩
        by_cases hlt : (k : Int) < g.Shots.l.length
        · have hs := h3.shots (nth g.Shots.l k) (by rw [nth_get (by omega)]; exact List.getElem_mem _)
          have b1 := hs.1
          have b2 := hs.2.1
          have b3 := hs.2.2
          simp -dsimp (disch := first | assumption | omega | (simp only [Hp.bump_n, Hp.znew_n, Hp.zset_n, List.length_nil, List.length_cons, List.length_append, List.length_map]; (first | done | omega)) | (simp (disch := first | omega | (simp only [Hp.bump_n, Hp.znew_n, Hp.zset_n, List.length_nil, List.length_cons, List.length_append, List.length_map]; (first | done | omega))) only [zheap]; done) | (simp (disch := first | omega | (simp only [Hp.bump_n, Hp.znew_n, Hp.zset_n, List.length_nil, List.length_cons, List.length_append, List.length_map]; (first | done | omega))) only [zheap]; rfl) | (simp (disch := first | omega | (simp only [Hp.bump_n, Hp.znew_n, Hp.zset_n]; (first | done | omega))) only [zheap, g2, g3]; done) | (simp (disch := first | omega | (simp only [Hp.bump_n, Hp.znew_n, Hp.zset_n]; (first | done | omega))) only [zheap, g2, g3]; rfl)) only [zall, zopm, zop, zcallOp, qop, qbuiltin, ofOpt, List.map, reduceCtorEq, if_true, if_false, ↓reduceIte, zbin, eqRes, qassert, qnum, qshift, qun, kindOf, allocV, true_and, and_true, and_self, List.nil_append, List.append_nil, List.cons_append, List.length_cons, List.length_nil, Nat.reduceAdd, Nat.reduceEqDiff, Nat.reduceLT, Nat.reduceSub, Nat.reduceMul, Int.reduceToNat, Int.reduceLE, Int.reduceLT, Int.reduceEq, Int.reduceNeg, Int.reduceAdd, Int.reduceSub, Bool.true_and, Bool.and_true, Bool.and_self, Bool.false_and, Bool.and_false, Bool.not_true, Bool.not_false, beq_self_eq_true, cond_true, cond_false, decide_true, decide_false, isConstOpd, xpanic, xconv, isBytes, qconv, List.length_map, List.map_nil, List.map_cons, concrete, Option.some.injEq, exists_eq', Int.toNat_natCast, Option.map_some, Option.map_none, List.getElem?_cons_zero, List.getElem?_cons_succ, zw3, rs3, tt3, tt22, tt23, tt27, tt29, tt31, tt34, tt36, tt37, tt39, tt44, ti3, ti22, ti23, ti27, ti29, ti31, ti34, ti36, ti37, ti39, ti44, t_21, t_22, t_23, t_24, t_25, t_26, zs_Law12_RawEnv, zs_Rule_Env, zs_Api_Body, zs_Api_Input, zs_Hand_RawOp, zs_Api_Op, zs_Trap_Fault, zsl22, zsl23, zsl37, h1, e10, e11, e164, e165, g2, g3, hlt, b1, b2, b3]
          repeat' ((first | (refine condW_b ?_ ?_ <;> intro hc) | (refine wantO_s ?_ ?_ <;> intro hc) | (refine wantD_s _ _ _ _ ?_ ?_ <;> intro hc) | (refine bindO_i ?_ ?_ <;> intro hc) | (refine bindE_i _ _ _ _ ?_ ?_ <;> intro hc)) <;> (try simp only [decide_eq_true_eq, decide_eq_false_iff_not, Bool.or_eq_true, Bool.and_eq_true, Bool.not_eq_true, Bool.not_eq_false, Bool.not_not, Classical.not_not, Int.not_le, Int.not_lt, Bool.not_eq_true', Bool.not_eq_false'] at hc) <;> (try have hw := within_spec hc) <;> (try simp -dsimp (disch := first | assumption | omega | (simp only [Hp.bump_n, Hp.znew_n, Hp.zset_n, List.length_nil, List.length_cons, List.length_append, List.length_map]; (first | done | omega)) | (simp (disch := first | omega | (simp only [Hp.bump_n, Hp.znew_n, Hp.zset_n, List.length_nil, List.length_cons, List.length_append, List.length_map]; (first | done | omega))) only [zheap]; done) | (simp (disch := first | omega | (simp only [Hp.bump_n, Hp.znew_n, Hp.zset_n, List.length_nil, List.length_cons, List.length_append, List.length_map]; (first | done | omega))) only [zheap]; rfl) | (simp (disch := first | omega | (simp only [Hp.bump_n, Hp.znew_n, Hp.zset_n]; (first | done | omega))) only [zheap, g2, g3]; done) | (simp (disch := first | omega | (simp only [Hp.bump_n, Hp.znew_n, Hp.zset_n]; (first | done | omega))) only [zheap, g2, g3]; rfl)) only [zall, zopm, zop, zcallOp, qop, qbuiltin, ofOpt, List.map, reduceCtorEq, if_true, if_false, ↓reduceIte, zbin, eqRes, qassert, qnum, qshift, qun, kindOf, allocV, true_and, and_true, and_self, List.nil_append, List.append_nil, List.cons_append, List.length_cons, List.length_nil, Nat.reduceAdd, Nat.reduceEqDiff, Nat.reduceLT, Nat.reduceSub, Nat.reduceMul, Int.reduceToNat, Int.reduceLE, Int.reduceLT, Int.reduceEq, Int.reduceNeg, Int.reduceAdd, Int.reduceSub, Bool.true_and, Bool.and_true, Bool.and_self, Bool.false_and, Bool.and_false, Bool.not_true, Bool.not_false, beq_self_eq_true, cond_true, cond_false, decide_true, decide_false, isConstOpd, xpanic, xconv, isBytes, qconv, List.length_map, List.map_nil, List.map_cons, concrete, Option.some.injEq, exists_eq', Int.toNat_natCast, Option.map_some, Option.map_none, List.getElem?_cons_zero, List.getElem?_cons_succ, zw3, rs3, tt3, tt22, tt23, tt27, tt29, tt31, tt34, tt36, tt37, tt39, tt44, ti3, ti22, ti23, ti27, ti29, ti31, ti34, ti36, ti37, ti39, ti44, t_21, t_22, t_23, t_24, t_25, t_26, zs_Law12_RawEnv, zs_Rule_Env, zs_Api_Body, zs_Api_Input, zs_Hand_RawOp, zs_Api_Op, zs_Trap_Fault, zsl22, zsl23, zsl37, h1, e10, e11, e164, e165, g2, g3, hlt, b1, b2, b3, hc]))
          refine ⟨g.Shots.l.length - (k + 1), by omega, k + 1, rfl, by omega, by simp [put_at, zput_none, e10], by simp [put_at, zput_none, e11], by simp [put_at, zput_none, e164], by simp [put_at, zput_none], g2, g3, hle⟩
        · simp -dsimp (disch := first | assumption | omega | (simp only [Hp.bump_n, Hp.znew_n, Hp.zset_n, List.length_nil, List.length_cons, List.length_append, List.length_map]; (first | done | omega)) | (simp (disch := first | omega | (simp only [Hp.bump_n, Hp.znew_n, Hp.zset_n, List.length_nil, List.length_cons, List.length_append, List.length_map]; (first | done | omega))) only [zheap]; done) | (simp (disch := first | omega | (simp only [Hp.bump_n, Hp.znew_n, Hp.zset_n, List.length_nil, List.length_cons, List.length_append, List.length_map]; (first | done | omega))) only [zheap]; rfl) | (simp (disch := first | omega | (simp only [Hp.bump_n, Hp.znew_n, Hp.zset_n]; (first | done | omega))) only [zheap, g2, g3]; done) | (simp (disch := first | omega | (simp only [Hp.bump_n, Hp.znew_n, Hp.zset_n]; (first | done | omega))) only [zheap, g2, g3]; rfl)) only [zall, zopm, zop, zcallOp, qop, qbuiltin, ofOpt, List.map, reduceCtorEq, if_true, if_false, ↓reduceIte, zbin, eqRes, qassert, qnum, qshift, qun, kindOf, allocV, true_and, and_true, and_self, List.nil_append, List.append_nil, List.cons_append, List.length_cons, List.length_nil, Nat.reduceAdd, Nat.reduceEqDiff, Nat.reduceLT, Nat.reduceSub, Nat.reduceMul, Int.reduceToNat, Int.reduceLE, Int.reduceLT, Int.reduceEq, Int.reduceNeg, Int.reduceAdd, Int.reduceSub, Bool.true_and, Bool.and_true, Bool.and_self, Bool.false_and, Bool.and_false, Bool.not_true, Bool.not_false, beq_self_eq_true, cond_true, cond_false, decide_true, decide_false, isConstOpd, xpanic, xconv, isBytes, qconv, List.length_map, List.map_nil, List.map_cons, concrete, Option.some.injEq, exists_eq', Int.toNat_natCast, Option.map_some, Option.map_none, List.getElem?_cons_zero, List.getElem?_cons_succ, zw3, rs3, tt3, tt22, tt23, tt27, tt29, tt31, tt34, tt36, tt37, tt39, tt44, ti3, ti22, ti23, ti27, ti29, ti31, ti34, ti36, ti37, ti39, ti44, t_21, t_22, t_23, t_24, t_25, t_26, zs_Law12_RawEnv, zs_Rule_Env, zs_Api_Body, zs_Api_Input, zs_Hand_RawOp, zs_Api_Op, zs_Trap_Fault, zsl22, zsl23, zsl37, h1, e10, e11, e164, e165, g2, g3, hlt]
          repeat' ((first | (refine condW_b ?_ ?_ <;> intro hc) | (refine wantO_s ?_ ?_ <;> intro hc) | (refine wantD_s _ _ _ _ ?_ ?_ <;> intro hc) | (refine bindO_i ?_ ?_ <;> intro hc) | (refine bindE_i _ _ _ _ ?_ ?_ <;> intro hc)) <;> (try simp only [decide_eq_true_eq, decide_eq_false_iff_not, Bool.or_eq_true, Bool.and_eq_true, Bool.not_eq_true, Bool.not_eq_false, Bool.not_not, Classical.not_not, Int.not_le, Int.not_lt, Bool.not_eq_true', Bool.not_eq_false'] at hc) <;> (try have hw := within_spec hc) <;> (try simp -dsimp (disch := first | assumption | omega | (simp only [Hp.bump_n, Hp.znew_n, Hp.zset_n, List.length_nil, List.length_cons, List.length_append, List.length_map]; (first | done | omega)) | (simp (disch := first | omega | (simp only [Hp.bump_n, Hp.znew_n, Hp.zset_n, List.length_nil, List.length_cons, List.length_append, List.length_map]; (first | done | omega))) only [zheap]; done) | (simp (disch := first | omega | (simp only [Hp.bump_n, Hp.znew_n, Hp.zset_n, List.length_nil, List.length_cons, List.length_append, List.length_map]; (first | done | omega))) only [zheap]; rfl) | (simp (disch := first | omega | (simp only [Hp.bump_n, Hp.znew_n, Hp.zset_n]; (first | done | omega))) only [zheap, g2, g3]; done) | (simp (disch := first | omega | (simp only [Hp.bump_n, Hp.znew_n, Hp.zset_n]; (first | done | omega))) only [zheap, g2, g3]; rfl)) only [zall, zopm, zop, zcallOp, qop, qbuiltin, ofOpt, List.map, reduceCtorEq, if_true, if_false, ↓reduceIte, zbin, eqRes, qassert, qnum, qshift, qun, kindOf, allocV, true_and, and_true, and_self, List.nil_append, List.append_nil, List.cons_append, List.length_cons, List.length_nil, Nat.reduceAdd, Nat.reduceEqDiff, Nat.reduceLT, Nat.reduceSub, Nat.reduceMul, Int.reduceToNat, Int.reduceLE, Int.reduceLT, Int.reduceEq, Int.reduceNeg, Int.reduceAdd, Int.reduceSub, Bool.true_and, Bool.and_true, Bool.and_self, Bool.false_and, Bool.and_false, Bool.not_true, Bool.not_false, beq_self_eq_true, cond_true, cond_false, decide_true, decide_false, isConstOpd, xpanic, xconv, isBytes, qconv, List.length_map, List.map_nil, List.map_cons, concrete, Option.some.injEq, exists_eq', Int.toNat_natCast, Option.map_some, Option.map_none, List.getElem?_cons_zero, List.getElem?_cons_succ, zw3, rs3, tt3, tt22, tt23, tt27, tt29, tt31, tt34, tt36, tt37, tt39, tt44, ti3, ti22, ti23, ti27, ti29, ti31, ti34, ti36, ti37, ti39, ti44, t_21, t_22, t_23, t_24, t_25, t_26, zs_Law12_RawEnv, zs_Rule_Env, zs_Api_Body, zs_Api_Input, zs_Hand_RawOp, zs_Api_Op, zs_Trap_Fault, zsl22, zsl23, zsl37, h1, e10, e11, e164, e165, g2, g3, hlt, hc]))
          exact shr_keep hF (fun k o h => by have hd := hF.dom k o h; (try simp (disch := first | assumption | omega | (simp only [Hp.bump_n, Hp.znew_n, Hp.zset_n]; (first | done | omega))) only [Hp.bump_get, Hp.get_set_ne, Hp.get_new_ne, Hp.bump_n, Hp.znew_n, Hp.zset_n]); exact hle k o h) (weak_self (lt_of_no (by intro jj; simp [CV.has, CV.hasL, fault, Trap_thrown.nohas, Api_Body.nohas, Api_Input.nohas, Hand_RawOp.nohas, Api_Op.nohas, Trap_Fault.nohas])))
    · simp -dsimp (disch := first | assumption | omega | (simp only [Hp.bump_n, Hp.znew_n, Hp.zset_n, List.length_nil, List.length_cons, List.length_append, List.length_map]; (first | done | omega)) | (simp (disch := first | omega | (simp only [Hp.bump_n, Hp.znew_n, Hp.zset_n, List.length_nil, List.length_cons, List.length_append, List.length_map]; (first | done | omega))) only [zheap]; done) | (simp (disch := first | omega | (simp only [Hp.bump_n, Hp.znew_n, Hp.zset_n, List.length_nil, List.length_cons, List.length_append, List.length_map]; (first | done | omega))) only [zheap]; rfl) | (simp (disch := first | omega | (simp only [Hp.bump_n, Hp.znew_n, Hp.zset_n]; (first | done | omega))) only [zheap, g1]; done) | (simp (disch := first | omega | (simp only [Hp.bump_n, Hp.znew_n, Hp.zset_n]; (first | done | omega))) only [zheap, g1]; rfl)) only [zall, zopm, zop, zcallOp, qop, qbuiltin, ofOpt, List.map, reduceCtorEq, if_true, if_false, ↓reduceIte, zbin, eqRes, qassert, qnum, qshift, qun, kindOf, allocV, true_and, and_true, and_self, List.nil_append, List.append_nil, List.cons_append, List.length_cons, List.length_nil, Nat.reduceAdd, Nat.reduceEqDiff, Nat.reduceLT, Nat.reduceSub, Nat.reduceMul, Int.reduceToNat, Int.reduceLE, Int.reduceLT, Int.reduceEq, Int.reduceNeg, Int.reduceAdd, Int.reduceSub, Bool.true_and, Bool.and_true, Bool.and_self, Bool.false_and, Bool.and_false, Bool.not_true, Bool.not_false, beq_self_eq_true, cond_true, cond_false, decide_true, decide_false, isConstOpd, xpanic, xconv, isBytes, qconv, List.length_map, List.map_nil, List.map_cons, concrete, Option.some.injEq, exists_eq', Int.toNat_natCast, Option.map_some, Option.map_none, List.getElem?_cons_zero, List.getElem?_cons_succ, zw3, rs3, tt3, tt22, tt23, tt27, tt29, tt31, tt34, tt36, tt37, tt39, tt44, ti3, ti22, ti23, ti27, ti29, ti31, ti34, ti36, ti37, ti39, ti44, t_21, t_22, t_23, t_24, t_25, t_26, zs_Law12_RawEnv, zs_Rule_Env, zs_Api_Body, zs_Api_Input, zs_Hand_RawOp, zs_Api_Op, zs_Trap_Fault, zsl22, zsl23, zsl37, h1, e5, e7, g1, hr]
      repeat' ((first | (refine condW_b ?_ ?_ <;> intro hc) | (refine wantO_s ?_ ?_ <;> intro hc) | (refine wantD_s _ _ _ _ ?_ ?_ <;> intro hc) | (refine bindO_i ?_ ?_ <;> intro hc) | (refine bindE_i _ _ _ _ ?_ ?_ <;> intro hc)) <;> (try simp only [decide_eq_true_eq, decide_eq_false_iff_not, Bool.or_eq_true, Bool.and_eq_true, Bool.not_eq_true, Bool.not_eq_false, Bool.not_not, Classical.not_not, Int.not_le, Int.not_lt, Bool.not_eq_true', Bool.not_eq_false'] at hc) <;> (try have hw := within_spec hc) <;> (try simp -dsimp (disch := first | assumption | omega | (simp only [Hp.bump_n, Hp.znew_n, Hp.zset_n, List.length_nil, List.length_cons, List.length_append, List.length_map]; (first | done | omega)) | (simp (disch := first | omega | (simp only [Hp.bump_n, Hp.znew_n, Hp.zset_n, List.length_nil, List.length_cons, List.length_append, List.length_map]; (first | done | omega))) only [zheap]; done) | (simp (disch := first | omega | (simp only [Hp.bump_n, Hp.znew_n, Hp.zset_n, List.length_nil, List.length_cons, List.length_append, List.length_map]; (first | done | omega))) only [zheap]; rfl) | (simp (disch := first | omega | (simp only [Hp.bump_n, Hp.znew_n, Hp.zset_n]; (first | done | omega))) only [zheap, g1]; done) | (simp (disch := first | omega | (simp only [Hp.bump_n, Hp.znew_n, Hp.zset_n]; (first | done | omega))) only [zheap, g1]; rfl)) only [zall, zopm, zop, zcallOp, qop, qbuiltin, ofOpt, List.map, reduceCtorEq, if_true, if_false, ↓reduceIte, zbin, eqRes, qassert, qnum, qshift, qun, kindOf, allocV, true_and, and_true, and_self, List.nil_append, List.append_nil, List.cons_append, List.length_cons, List.length_nil, Nat.reduceAdd, Nat.reduceEqDiff, Nat.reduceLT, Nat.reduceSub, Nat.reduceMul, Int.reduceToNat, Int.reduceLE, Int.reduceLT, Int.reduceEq, Int.reduceNeg, Int.reduceAdd, Int.reduceSub, Bool.true_and, Bool.and_true, Bool.and_self, Bool.false_and, Bool.and_false, Bool.not_true, Bool.not_false, beq_self_eq_true, cond_true, cond_false, decide_true, decide_false, isConstOpd, xpanic, xconv, isBytes, qconv, List.length_map, List.map_nil, List.map_cons, concrete, Option.some.injEq, exists_eq', Int.toNat_natCast, Option.map_some, Option.map_none, List.getElem?_cons_zero, List.getElem?_cons_succ, zw3, rs3, tt3, tt22, tt23, tt27, tt29, tt31, tt34, tt36, tt37, tt39, tt44, ti3, ti22, ti23, ti27, ti29, ti31, ti34, ti36, ti37, ti39, ti44, t_21, t_22, t_23, t_24, t_25, t_26, zs_Law12_RawEnv, zs_Rule_Env, zs_Api_Body, zs_Api_Input, zs_Hand_RawOp, zs_Api_Op, zs_Trap_Fault, zsl22, zsl23, zsl37, h1, e5, e7, g1, hr, hc]))
      all_goals exact shr_keep hF (fun k o h => by have hd := hF.dom k o h; (try simp (disch := first | assumption | omega | (simp only [Hp.bump_n, Hp.znew_n, Hp.zset_n]; (first | done | omega))) only [Hp.bump_get, Hp.get_set_ne, Hp.get_new_ne, Hp.bump_n, Hp.znew_n, Hp.zset_n]); exact hle k o h) (weak_self (lt_of_no (by intro jj; simp [CV.has, CV.hasL, fault, Trap_thrown.nohas, Api_Body.nohas, Api_Input.nohas, Hand_RawOp.nohas, Api_Op.nohas, Trap_Fault.nohas])))
end Go.Proofs.Ytpchcfkebljopaa
end
section
namespace Go.Cl
open Go.RowKit Go.ChangeShapes Go.WideShapes Go.ChangeAt
def consB (P : Program) : Nat → List Field → Nat → Bool
  | off, [], tot => off == tot
  | off, f :: l, tot => f.offset == off && consB P (off + P.cellsOf f.type) l tot
def sup (P : Program) : Nat → TypeId → Bool
  | 0, _ => false
  | n + 1, t => match P.underlying t with
    | some (.int _) | some .bool | some (.float _) | some .string => true
    | some (.struct fs) => consB P 0 fs.toList (P.cellsOf t) && fs.toList.all fun f => sup P n f.type
    | some (.array c e) => (P.cellsOf t == c * P.cellsOf e) && sup P n e
    | _ => false
def All2 (r : TypeId → CV → Prop) : List TypeId → List CV → Prop
  | [], [] => True
  | t :: ts, v :: l => r t v ∧ All2 r ts l
  | _, _ => False
def Ty (P : Program) : Nat → TypeId → CV → Prop
  | 0, _, _ => False
  | n + 1, t, v => match P.underlying t with
    | some (.int k) => ∃ i, v = .sc (.int k i) ∧ (Lit.int k i).wf = true
    | some .bool => ∃ b, v = .sc (.bool b)
    | some (.float k) => ∃ b, v = .sc (.float k b) ∧ (Lit.float k b).wf = true
    | some .string => ∃ s, v = .sc (.string s) ∧ s.size ≤ maxLen
    | some (.struct fs) => ∃ l, v = .agg l ∧ All2 (Ty P n) (fs.toList.map (·.type)) l
    | some (.array c e) => ∃ l, v = .agg l ∧ l.length = c ∧ ∀ x ∈ l, Ty P n e x
    | _ => False
variable {H : Type} {enc : TypeId × Value → H} {P : Program} {w : World} {base : Nat} {spare : Nat → Bool} {held : Bool}
theorem read_fields {n fuel : Nat} (S : St) (ih : ∀ t cs x, sup P n t = true → DataW.trod enc P w base spare held fuel t cs = some x → ∃ v, FR S v cs ∧ Ty P n t v) (cs : List Value) :
    ∀ (fl : List Field) (off tot : Nat) (xs : List (DataW H × List MemPlace)), consB P off fl tot = true → cs.length = tot → (fl.all fun f => sup P n f.type) = true →
      (fl.mapM fun f => DataW.trod enc P w base spare held fuel f.type ((cs.drop f.offset).take (P.cellsOf f.type))) = some xs → ∃ l, FRs S l (cs.drop off) ∧ All2 (Ty P n) (fl.map (·.type)) l
  | [], off, tot, xs, hc, hl, _, _ => by
    simp only [consB, beq_iff_eq] at hc
    subst hc
    exact ⟨[], by simp [FRs, hl], trivial⟩
  | f :: fl, off, tot, xs, hc, hl, ha, hm => by
    simp only [consB, Bool.and_eq_true, beq_iff_eq] at hc
    simp only [List.all_cons, Bool.and_eq_true] at ha
    simp only [List.mapM_cons, Option.pure_def, Option.bind_eq_bind, Option.bind_eq_some_iff] at hm
    obtain ⟨y, hy, ys, hys, _⟩ := hm
    obtain ⟨v, hv, tv⟩ := ih _ _ _ ha.1 hy
    obtain ⟨l, hl', tl⟩ := read_fields S ih cs fl _ tot ys hc.2 hl ha.2 hys
    refine ⟨v :: l, ?_, tv, tl⟩
    simp only [FRs]
    refine ⟨_, _, ?_, hv, hl'⟩
    rw [hc.1, ← List.drop_drop, List.take_append_drop]
theorem read_elems {n fuel sz : Nat} {e : TypeId} (S : St) (ih : ∀ t cs x, sup P n t = true → DataW.trod enc P w base spare held fuel t cs = some x → ∃ v, FR S v cs ∧ Ty P n t v) (he : sup P n e = true) (cs : List Value) :
    ∀ (c k : Nat) (xs : List (DataW H × List MemPlace)), cs.length = (k + c) * sz →
      ((List.range' k c).mapM fun i => DataW.trod enc P w base spare held fuel e ((cs.drop (i * sz)).take sz)) = some xs → ∃ l, FRs S l (cs.drop (k * sz)) ∧ l.length = c ∧ ∀ x ∈ l, Ty P n e x
  | 0, k, xs, hl, _ => ⟨[], by simp [FRs, hl], rfl, by simp⟩
  | c + 1, k, xs, hl, hm => by
    rw [List.range'_succ] at hm
    simp only [List.mapM_cons, Option.pure_def, Option.bind_eq_bind, Option.bind_eq_some_iff] at hm
    obtain ⟨y, hy, ys, hys, _⟩ := hm
    obtain ⟨v, hv, tv⟩ := ih _ _ _ he hy
    obtain ⟨l, hl', hn, tl⟩ := read_elems S ih he cs c (k + 1) ys (by rw [hl]; congr 1; omega) hys
    refine ⟨v :: l, ?_, by simp [hn], by simpa using ⟨tv, tl⟩⟩
    simp only [FRs]
    refine ⟨_, _, ?_, hv, hl'⟩
    rw [Nat.succ_mul, ← List.drop_drop, List.take_append_drop]
theorem read (S : St) : ∀ (n : Nat) (t : TypeId) (fuel : Nat) (cs : List Value) (x : DataW H × List MemPlace), sup P n t = true → DataW.trod enc P w base spare held fuel t cs = some x → ∃ v, FR S v cs ∧ Ty P n t v
  | 0, t, _, _, _, hs, _ => by simp [sup] at hs
  | n + 1, t, 0, _, _, _, h => by simp [DataW.trod] at h
  | n + 1, t, fuel + 1, cs, x, hs, h => by
    have h0 := h
    unfold DataW.trod at h
    simp only [sup] at hs
    cases hu : P.underlying t with
    | none => rw [hu] at hs; simp at hs
    | some u =>
      rw [hu] at hs h
      cases u with
      | int k =>
        obtain ⟨i, rfl, _, hw⟩ := DataW.trod_int hu h0
        exact ⟨.sc (.int k i), by simp [FR, plain], by simp only [Ty, hu]; exact ⟨i, rfl, hw⟩⟩
      | bool =>
        obtain ⟨b, rfl, _⟩ := DataW.trod_bool hu h0
        exact ⟨.sc (.bool b), by simp [FR, plain], by simp only [Ty, hu]; exact ⟨b, rfl⟩⟩
      | string =>
        obtain ⟨s, rfl, _, hw⟩ := DataW.trod_string hu h0
        exact ⟨.sc (.string s), by simp [FR, plain], by simp only [Ty, hu]; exact ⟨s, rfl, hw⟩⟩
      | float k =>
        simp only at h
        have hc : ∃ b, cs = [.float k b] ∧ (Lit.float k b).wf = true := by
          clear hs h0
          split at h <;> try (rename_i e; cases e; done)
          all_goals first | (cases h; done) | skip
          · rename_i k1 k2 b e
            split at h
            · rename_i hk
              cases e
              obtain ⟨rfl, hw⟩ := hk
              exact ⟨b, rfl, hw⟩
            · cases h
        obtain ⟨b, rfl, hw⟩ := hc
        exact ⟨.sc (.float k b), by simp [FR, plain], by simp only [Ty, hu]; exact ⟨b, rfl, hw⟩⟩
      | struct fs =>
        simp only [Bool.and_eq_true] at hs
        simp only at h
        split at h
        · rename_i hlen
          simp only [Option.map_eq_some_iff] at h
          obtain ⟨xs, hx, _⟩ := h
          obtain ⟨l, hl, tl⟩ := read_fields S (fun t cs x => read S n t fuel cs x) cs fs.toList 0 _ xs hs.1 hlen hs.2 hx
          exact ⟨.agg l, by simpa [FR] using hl, by simp only [Ty, hu]; exact ⟨l, rfl, tl⟩⟩
        · cases h
      | array c e =>
        simp only [Bool.and_eq_true, beq_iff_eq] at hs
        simp only at h
        split at h
        · rename_i hlen
          simp only [Option.map_eq_some_iff] at h
          obtain ⟨xs, hx, _⟩ := h
          rw [List.range_eq_range'] at hx
          obtain ⟨l, hl, hn, tl⟩ := read_elems S (fun t cs x => read S n t fuel cs x) hs.2 cs c 0 xs (by rw [hlen, hs.1]; simp) hx
          exact ⟨.agg l, by simpa [FR] using hl, by simp only [Ty, hu]; exact ⟨l, rfl, hn, tl⟩⟩
        · cases h
      | _ => simp at hs
theorem add_none {a : Addr} (ha : a.spot = none) (n : Nat) : a.add n = ⟨a.block, a.off + n, none⟩ := by
  cases a; simp only at ha; subst ha; unfold Addr.add; split <;> simp_all
theorem lies_cells {a : Addr} (ha : a.spot = none) {m : Nat} {cs : List Value} (h : w.cells? base a m = some cs) : (S0 w).lies a.block a.off cs ∧ cs.length = m := by
  unfold World.cells? at h
  split at h
  · refine ⟨fun j u hu => ?_, by simpa using mapM_some_length h⟩
    have hj : j < cs.length := by
      rcases Nat.lt_or_ge j cs.length with q | q
      · exact q
      · rw [List.getElem?_eq_none q] at hu; cases hu
    have hl : cs.length = m := by simpa using mapM_some_length h
    have := mapM_some_get h j j (List.getElem?_range (by omega))
    rw [hu] at this
    simp only [S0]
    rw [← this]
    rw [add_none ha]
  · cases h
theorem read_slice {n fuel sz : Nat} {e : TypeId} {a : Addr} (he : sup P n e = true) (hsz : P.cellsOf e = sz) (ha : a.spot = none) :
    ∀ (c k : Nat) (xs : List (DataW H × List MemPlace)),
      ((List.range' k c).mapM fun i => (w.cells? base (a.add (i * sz)) sz).bind (DataW.trod enc P w base spare held fuel e)) = some xs →
        ∃ l es, FRs (S0 w) l es ∧ l.length = c ∧ (∀ x ∈ l, Ty P n e x) ∧ (S0 w).lies a.block (a.off + k * sz) es ∧ es.length = c * sz ∧ ∀ x ∈ l, x.size = sz
  | 0, k, xs, _ => ⟨[], [], by simp [FRs], rfl, by simp, fun j u hu => by simp at hu, by simp, by simp⟩
  | c + 1, k, xs, hm => by
    rw [List.range'_succ] at hm
    simp only [List.mapM_cons, Option.pure_def, Option.bind_eq_bind, Option.bind_eq_some_iff] at hm
    obtain ⟨y, ⟨cs, hcs, hy⟩, ys, hys, _⟩ := hm
    obtain ⟨v, hv, tv⟩ := read (S0 w) n e fuel cs y he hy
    obtain ⟨l, es, h1, h2, h3, h4, h5, h6⟩ := read_slice he hsz ha c (k + 1) ys hys
    obtain ⟨hl, hn⟩ := lies_cells (a := a.add (k * sz)) (by rw [add_none ha]) hcs
    rw [add_none ha] at hl
    refine ⟨v :: l, cs ++ es, by simp only [FRs]; exact ⟨_, _, rfl, hv, h1⟩, by simp [h2], by simpa using ⟨tv, h3⟩, fun j u hu => ?_, by simp [hn, h5, Nat.succ_mul]; omega, ?_⟩
    · rw [List.getElem?_append] at hu
      split at hu
      · have := hl j u hu
        simpa [Nat.add_assoc] using this
      · rename_i hj
        have := h4 _ u hu
        rw [hn] at this hj
        rw [← this]
        congr 1
        rw [Nat.succ_mul]; omega
    · intro x hx
      rcases List.mem_cons.1 hx with rfl | hx
      · rw [← FR.length _ _ hv, hn]
      · exact h6 x hx
end Go.Cl
end
section
namespace Go.Cl
open Go.RowKit Go.ChangeShapes Go.WideShapes Go.ChangeAt
def sup2 (P : Program) : Nat → TypeId → Bool
  | 0, _ => false
  | n + 1, t => match P.underlying t with
    | some (.int _) | some .bool | some (.float _) | some .string => true
    | some (.slice e) => sup P n e
    | some (.struct fs) => consB P 0 fs.toList (P.cellsOf t) && fs.toList.all fun f => sup2 P n f.type
    | some (.array c e) => (P.cellsOf t == c * P.cellsOf e) && sup2 P n e
    | _ => false
def Ty2 (P : Program) : Nat → TypeId → CV → Prop
  | 0, _, _ => False
  | n + 1, t, v => match P.underlying t with
    | some (.int k) => ∃ i, v = .sc (.int k i) ∧ (Lit.int k i).wf = true
    | some .bool => ∃ b, v = .sc (.bool b)
    | some (.float k) => ∃ b, v = .sc (.float k b) ∧ (Lit.float k b).wf = true
    | some .string => ∃ s, v = .sc (.string s) ∧ s.size ≤ maxLen
    | some (.slice e) => ∃ tl l, v = .lst tl l ∧ (∀ x ∈ l, Ty2 P n e x) ∧ (tl = .view ∨ tl = .nil ∧ l = [])
    | some (.struct fs) => ∃ l, v = .agg l ∧ All2 (Ty2 P n) (fs.toList.map (·.type)) l
    | some (.array c e) => ∃ l, v = .agg l ∧ l.length = c ∧ ∀ x ∈ l, Ty2 P n e x
    | _ => False
theorem All2.mono {r r' : TypeId → CV → Prop} (h : ∀ t v, r t v → r' t v) : ∀ ts l, All2 r ts l → All2 r' ts l
  | [], [], _ => trivial
  | _ :: ts, _ :: l, ⟨a, b⟩ => ⟨h _ _ a, All2.mono h ts l b⟩
  | [], _ :: _, k => k.elim
  | _ :: _, [], k => k.elim
theorem Ty.up {P : Program} : ∀ (n : Nat) (t : TypeId) (v : CV), Ty P n t v → Ty2 P n t v
  | 0, _, _, h => h.elim
  | n + 1, t, v, h => by
    simp only [Ty] at h
    simp only [Ty2]
    cases hu : P.underlying t with
    | none => rw [hu] at h; exact h.elim
    | some u =>
      rw [hu] at h
      cases u with
      | struct fs =>
        obtain ⟨l, hl, ha⟩ := h
        exact ⟨l, hl, All2.mono (fun t v => Ty.up n t v) _ _ ha⟩
      | array c e =>
        obtain ⟨l, hl, hn, ha⟩ := h
        exact ⟨l, hl, hn, fun x hx => Ty.up n _ x (ha x hx)⟩
      | int k => exact h
      | bool => exact h
      | float k => exact h
      | string => exact h
      | _ => exact h.elim
variable {H : Type} {enc : TypeId × Value → H} {P : Program} {w : World} {base : Nat} {spare : Nat → Bool} {held : Bool}
def SlOk (cs : List Value) : Prop := ∀ x ∈ cs, ∀ a len cap, x = .slice (some a) len cap → a.spot = none ∧ len ≤ cap
theorem read2_fields {n fuel : Nat} (S : St) (ih : ∀ t cs x, SlOk cs → sup2 P n t = true → DataW.trod enc P w base spare held fuel t cs = some x → ∃ v, FR S v cs ∧ Ty2 P n t v) (cs : List Value) (hk : SlOk cs) :
    ∀ (fl : List Field) (off tot : Nat) (xs : List (DataW H × List MemPlace)), consB P off fl tot = true → cs.length = tot → (fl.all fun f => sup2 P n f.type) = true →
      (fl.mapM fun f => DataW.trod enc P w base spare held fuel f.type ((cs.drop f.offset).take (P.cellsOf f.type))) = some xs → ∃ l, FRs S l (cs.drop off) ∧ All2 (Ty2 P n) (fl.map (·.type)) l
  | [], off, tot, xs, hc, hl, _, _ => by
    simp only [consB, beq_iff_eq] at hc
    subst hc
    exact ⟨[], by simp [FRs, hl], trivial⟩
  | f :: fl, off, tot, xs, hc, hl, ha, hm => by
    simp only [consB, Bool.and_eq_true, beq_iff_eq] at hc
    simp only [List.all_cons, Bool.and_eq_true] at ha
    simp only [List.mapM_cons, Option.pure_def, Option.bind_eq_bind, Option.bind_eq_some_iff] at hm
    obtain ⟨y, hy, ys, hys, _⟩ := hm
    obtain ⟨v, hv, tv⟩ := ih _ _ _ (fun x hx => hk x (List.mem_of_mem_drop (List.mem_of_mem_take hx))) ha.1 hy
    obtain ⟨l, hl', tl⟩ := read2_fields S ih cs hk fl _ tot ys hc.2 hl ha.2 hys
    refine ⟨v :: l, ?_, tv, tl⟩
    simp only [FRs]
    refine ⟨_, _, ?_, hv, hl'⟩
    rw [hc.1, ← List.drop_drop, List.take_append_drop]
theorem read2_elems {n fuel sz : Nat} {e : TypeId} (S : St) (ih : ∀ t cs x, SlOk cs → sup2 P n t = true → DataW.trod enc P w base spare held fuel t cs = some x → ∃ v, FR S v cs ∧ Ty2 P n t v) (he : sup2 P n e = true) (cs : List Value) (hk : SlOk cs) :
    ∀ (c k : Nat) (xs : List (DataW H × List MemPlace)), cs.length = (k + c) * sz →
      ((List.range' k c).mapM fun i => DataW.trod enc P w base spare held fuel e ((cs.drop (i * sz)).take sz)) = some xs → ∃ l, FRs S l (cs.drop (k * sz)) ∧ l.length = c ∧ ∀ x ∈ l, Ty2 P n e x
  | 0, k, xs, hl, _ => ⟨[], by simp [FRs, hl], rfl, by simp⟩
  | c + 1, k, xs, hl, hm => by
    rw [List.range'_succ] at hm
    simp only [List.mapM_cons, Option.pure_def, Option.bind_eq_bind, Option.bind_eq_some_iff] at hm
    obtain ⟨y, hy, ys, hys, _⟩ := hm
    obtain ⟨v, hv, tv⟩ := ih _ _ _ (fun x hx => hk x (List.mem_of_mem_drop (List.mem_of_mem_take hx))) he hy
    obtain ⟨l, hl', hn, tl⟩ := read2_elems S ih he cs hk c (k + 1) ys (by rw [hl]; congr 1; omega) hys
    refine ⟨v :: l, ?_, by simp [hn], by simpa using ⟨tv, tl⟩⟩
    simp only [FRs]
    refine ⟨_, _, ?_, hv, hl'⟩
    rw [Nat.succ_mul, ← List.drop_drop, List.take_append_drop]
theorem read2 : ∀ (n : Nat) (t : TypeId) (fuel : Nat) (cs : List Value) (x : DataW H × List MemPlace), SlOk cs → sup2 P n t = true → DataW.trod enc P w base spare held fuel t cs = some x → ∃ v, FR (S0 w) v cs ∧ Ty2 P n t v
  | 0, t, _, _, _, _, hs, _ => by simp [sup2] at hs
  | n + 1, t, 0, _, _, _, _, h => by simp [DataW.trod] at h
  | n + 1, t, fuel + 1, cs, x, hk, hs, h => by
    have h0 := h
    simp only [sup2] at hs
    cases hu : P.underlying t with
    | none => rw [hu] at hs; simp at hs
    | some u =>
      rw [hu] at hs
      cases u with
      | int k =>
        obtain ⟨v, h1, h2⟩ := read (S0 w) (n + 1) t (fuel + 1) cs x (by simp only [sup, hu]) h0
        exact ⟨v, h1, Ty.up _ _ _ h2⟩
      | bool =>
        obtain ⟨v, h1, h2⟩ := read (S0 w) (n + 1) t (fuel + 1) cs x (by simp only [sup, hu]) h0
        exact ⟨v, h1, Ty.up _ _ _ h2⟩
      | string =>
        obtain ⟨v, h1, h2⟩ := read (S0 w) (n + 1) t (fuel + 1) cs x (by simp only [sup, hu]) h0
        exact ⟨v, h1, Ty.up _ _ _ h2⟩
      | float k =>
        obtain ⟨v, h1, h2⟩ := read (S0 w) (n + 1) t (fuel + 1) cs x (by simp only [sup, hu]) h0
        exact ⟨v, h1, Ty.up _ _ _ h2⟩
      | slice e =>
        simp only at hs
        simp only [DataW.trod, hu] at h
        split at h <;> try (rename_i e1 _; cases e1; done)
        all_goals try (cases h; done)
        all_goals try (rename_i e1; cases e1; done)
        · exact ⟨.lst .nil [], by simp [FR, Tail.mayNil], by simp only [Ty2, hu]; exact ⟨.nil, [], rfl, by simp, .inr ⟨rfl, rfl⟩⟩⟩
        · rename_i e' a len cap e1
          cases e1
          obtain ⟨ha, hlc⟩ := hk _ (.head _) a len cap rfl
          split at h
          · rw [Option.bind_eq_some_iff] at h
            obtain ⟨xs, hx, _⟩ := h
            rw [List.range_eq_range'] at hx
            obtain ⟨l, es, h1, h2, h3, h4, h5, h6⟩ := read_slice hs rfl ha len 0 xs hx
            subst h2
            refine ⟨.lst .view l, ?_, by simp only [Ty2, hu]; exact ⟨.view, l, rfl, fun x hx => Ty.up _ _ _ (h3 x hx), .inl rfl⟩⟩
            simp only [FR]
            refine .inr ⟨a.block, a.off, cap, P.cellsOf e, es, ?_, hlc, h1, by simpa using h4, h6, trivial⟩
            cases a; simp only at ha; subst ha; rfl
          · cases h
      | struct fs =>
        simp only [Bool.and_eq_true] at hs
        unfold DataW.trod at h
        rw [hu] at h
        simp only at h
        split at h
        · rename_i hlen
          simp only [Option.map_eq_some_iff] at h
          obtain ⟨xs, hx, _⟩ := h
          obtain ⟨l, hl, tl⟩ := read2_fields (S0 w) (fun t cs x => read2 n t fuel cs x) cs hk fs.toList 0 _ xs hs.1 hlen hs.2 hx
          exact ⟨.agg l, by simpa [FR] using hl, by simp only [Ty2, hu]; exact ⟨l, rfl, tl⟩⟩
        · cases h
      | array c e =>
        simp only [Bool.and_eq_true, beq_iff_eq] at hs
        unfold DataW.trod at h
        rw [hu] at h
        simp only at h
        split at h
        · rename_i hlen
          simp only [Option.map_eq_some_iff] at h
          obtain ⟨xs, hx, _⟩ := h
          rw [List.range_eq_range'] at hx
          obtain ⟨l, hl, hn, tl⟩ := read2_elems (S0 w) (fun t cs x => read2 n t fuel cs x) hs.2 cs hk c 0 xs (by rw [hlen, hs.1]; simp) hx
          exact ⟨.agg l, by simpa [FR] using hl, by simp only [Ty2, hu]; exact ⟨l, rfl, hn, tl⟩⟩
        · cases h
      | _ => simp at hs
theorem slOk_cell {r : Reach} {b0 : Nat} {t : TypeId} {v : Value} (h : Cell.okWide P w r b0 t v) : ∀ a len cap, v = .slice (some a) len cap → a.spot = none ∧ len ≤ cap := by
  rintro a len cap rfl
  unfold Cell.okWide at h
  split at h <;> try (rename_i e1; cases e1; done)
  all_goals try (rename_i e1 _; cases e1; done)
  unfold Cell.ok at h
  split at h <;> try (rename_i e1; cases e1; done)
  all_goals try (rename_i e1 _; cases e1; done)
  all_goals try (exact h.elim)
  rename_i e1
  cases e1
  exact ⟨h.2.2.2.1, h.1⟩
theorem slOk_of {r : Reach} {b0 : Nat} {t : TypeId} {v : Value} (hv : Value.okWide P w r b0 t v) : SlOk v.cells.toList := by
  unfold Value.okWide at hv
  split at hv
  · obtain ⟨cs, rfl, _, ts, _, _, hc⟩ := hv
    intro x hx
    obtain ⟨i, hi, e⟩ := List.getElem_of_mem hx
    simp only [Value.cells] at hi e
    obtain ⟨u, _, hu⟩ := hc i x (by simp at hi e; simp [hi, e])
    exact slOk_cell hu
  · obtain ⟨cs, rfl, _, ts, _, _, hc⟩ := hv
    intro x hx
    obtain ⟨i, hi, e⟩ := List.getElem_of_mem hx
    simp only [Value.cells] at hi e
    obtain ⟨u, _, hu⟩ := hc i x (by simp at hi e; simp [hi, e])
    exact slOk_cell hu
  · intro x hx a len cap e
    subst e
    cases v with
    | agg cs => exfalso; unfold Cell.okWide Cell.ok at hv; split at hv <;> simp_all
    | _ => simp [Value.cells] at hx <;> (obtain ⟨rfl, rfl, rfl⟩ := hx; exact slOk_cell hv _ _ _ rfl)
theorem arg_any {n : Nat} {t : TypeId} {v : Value} {d : DataW H} {ps : List MemPlace} {r : Reach} {b0 : Nat} (hs : sup2 P n t = true) (hv : Value.okWide P w r b0 t v) (h : DataW.Trod enc P w base spare held t v d ps) : ∃ c, VR (S0 w) c v ∧ Ty2 P n t c := by
  obtain ⟨fuel, hf⟩ := h
  obtain ⟨c, hc, ht⟩ := read2 n t fuel _ _ (slOk_of hv) hs hf
  refine ⟨c, ⟨hc, ?_⟩, ht⟩
  cases n with
  | zero => simp [sup2] at hs
  | succ n =>
    simp only [sup2] at hs
    simp only [Ty2] at ht
    unfold Value.okWide at hv
    cases hu : P.underlying t with
    | none => rw [hu] at hs; simp at hs
    | some u =>
      rw [hu] at hs ht hv
      cases u with
      | int k => obtain ⟨i, rfl, _⟩ := ht; simp only [Cell.okWide, Cell.ok, hu] at hv; cases v <;> simp_all [CV.isAgg]
      | bool => obtain ⟨i, rfl⟩ := ht; simp only [Cell.okWide, Cell.ok, hu] at hv; cases v <;> simp_all [CV.isAgg]
      | float k => obtain ⟨i, rfl, _⟩ := ht; simp only [Cell.okWide, Cell.ok, hu] at hv; cases v <;> simp_all [CV.isAgg]
      | string => obtain ⟨i, rfl, _⟩ := ht; simp only [Cell.okWide, Cell.ok, hu] at hv; cases v <;> simp_all [CV.isAgg]
      | slice e => obtain ⟨tl, l, rfl, _⟩ := ht; simp only [Cell.okWide, Cell.ok, hu] at hv; cases v <;> simp_all [CV.isAgg]
      | struct fs => obtain ⟨l, rfl, _⟩ := ht; obtain ⟨cs, rfl, _⟩ := hv; simp [CV.isAgg]
      | array c e => obtain ⟨l, rfl, _⟩ := ht; obtain ⟨cs, rfl, _⟩ := hv; simp [CV.isAgg]
      | _ => simp at hs
end Go.Cl
end
section
namespace Go.Proofs.Ytpchcfkebljopaa
open Go.Cl Go Go.ChangeShapes Go.WideShapes Go.ChangeAt Go.RowKit
set_option maxRecDepth 100000
set_option linter.constructorNameAsVariable false
theorem all2_cons {r : TypeId → CV → Prop} {t : TypeId} {ts : List TypeId} {l : List CV} (h : All2 r (t :: ts) l) : ∃ v l', l = v :: l' ∧ r t v ∧ All2 r ts l' := by
  cases l with
  | nil => exact h.elim
  | cons v l' => exact ⟨v, l', rfl, h⟩
theorem all2_nil {r : TypeId → CV → Prop} {l : List CV} (h : All2 r [] l) : l = [] := by
  cases l with
  | nil => rfl
  | cons v l' => exact h.elim
theorem of_list {α : Type} {f : α → CV} : ∀ {l : List CV}, (∀ x ∈ l, ∃ y, x = f y) → ∃ ys : List α, l = ys.map f
  | [], _ => ⟨[], rfl⟩
  | v :: l, h => by
    obtain ⟨x, rfl⟩ := h v (.head _)
    obtain ⟨xs, rfl⟩ := of_list (l := l) (fun y hy => h y (.tail _ hy))
    exact ⟨x :: xs, rfl⟩
theorem of_slice {α : Type} {f : α → CV} {P : Program} {n : Nat} {t e : TypeId} {v : CV} (hu : P.underlying t = some (.slice e)) (he : ∀ x, Ty2 P n e x → ∃ y : α, x = f y) (h : Ty2 P (n + 1) t v) : ∃ s : Lst α, v = s.cv f ∧ (s.tl = .view ∨ s.tl = .nil) := by
  simp only [Ty2, hu] at h
  obtain ⟨tl, l, rfl, hl, ht⟩ := h
  obtain ⟨ys, rfl⟩ := of_list (fun x hx => he x (hl x hx))
  rcases ht with rfl | ⟨rfl, h0⟩
  · exact ⟨⟨.view, ys, nofun⟩, rfl, .inl rfl⟩
  · exact ⟨⟨.nil, ys, fun _ => by simpa using h0⟩, rfl, .inr rfl⟩
def inI (i : Int) : Prop := -9223372036854775808 ≤ i ∧ i ≤ 9223372036854775807
theorem of_int {P : Program} {n : Nat} {t : TypeId} {v : CV} (hu : P.underlying t = some (.int .i64)) (h : Ty2 P (n + 1) t v) : ∃ i, v = I i ∧ inI i := by
  simp only [Ty2, hu] at h
  obtain ⟨i, rfl, hw⟩ := h
  simp only [Lit.wf, Bool.and_eq_true, decide_eq_true_eq] at hw
  exact ⟨i, rfl, hw⟩
theorem of_u64 {P : Program} {n : Nat} {t : TypeId} {v : CV} (hu : P.underlying t = some (.int .u64)) (h : Ty2 P (n + 1) t v) : ∃ i, v = U i ∧ 0 ≤ i ∧ i ≤ 18446744073709551615 := by
  simp only [Ty2, hu] at h
  obtain ⟨i, rfl, hw⟩ := h
  simp only [Lit.wf, Bool.and_eq_true, decide_eq_true_eq] at hw
  exact ⟨i, rfl, hw⟩
theorem of_struct {P : Program} {n : Nat} {t : TypeId} {v : CV} {fs : Array Field} (hu : P.underlying t = some (.struct fs)) (h : Ty2 P (n + 1) t v) : ∃ l, v = .agg l ∧ All2 (Ty2 P n) (fs.toList.map (·.type)) l := by
  simp only [Ty2, hu] at h
  exact h
theorem a3 {n : Nat} {v : CV} (h : Ty2 Try.prog (n + 1) 3 v) : ∃ i, v = I i ∧ inI i := of_int Try.underlying3 h
theorem a25 {n : Nat} {v : CV} (h : Ty2 Try.prog (n + 1) 25 v) : ∃ i, v = U i ∧ 0 ≤ i ∧ i ≤ 18446744073709551615 := of_u64 Try.underlying25 h
theorem a24 {n : Nat} {v : CV} (h : Ty2 Try.prog (n + 2) 24 v) : ∃ s : Lst Int, v = s.cv I ∧ (s.tl = .view ∨ s.tl = .nil) := of_slice Try.underlying24 (fun _ h => let ⟨i, e, _⟩ := a3 h; ⟨i, e⟩) h
theorem a31 {n : Nat} {v : CV} (h : Ty2 Try.prog (n + 2) 31 v) : ∃ x : Hand_RawOp, v = x.cv := by
  obtain ⟨l, rfl, hs⟩ := of_struct Try.underlying31 h
  replace h := hs
  obtain ⟨v0, l0, rfl, h0, h⟩ := all2_cons h
  obtain ⟨v1, l1, rfl, h1, h⟩ := all2_cons h
  obtain ⟨v2, l2, rfl, h2, h⟩ := all2_cons h
  obtain rfl := all2_nil h
  obtain ⟨x0, rfl, _⟩ := a3 (n := n) h0
  obtain ⟨x1, rfl, _⟩ := a3 (n := n) h1
  obtain ⟨x2, rfl, _⟩ := a3 (n := n) h2
  exact ⟨⟨x0, x1, x2⟩, rfl⟩
theorem a29 {n : Nat} {v : CV} (h : Ty2 Try.prog (n + 2) 29 v) : ∃ x : Api_Op, v = x.cv := by
  obtain ⟨l, rfl, hs⟩ := of_struct Try.underlying29 h
  replace h := hs
  obtain ⟨v0, l0, rfl, h0, h⟩ := all2_cons h
  obtain ⟨v1, l1, rfl, h1, h⟩ := all2_cons h
  obtain ⟨v2, l2, rfl, h2, h⟩ := all2_cons h
  obtain rfl := all2_nil h
  obtain ⟨x0, rfl, _⟩ := a3 (n := n) h0
  obtain ⟨x1, rfl, _⟩ := a3 (n := n) h1
  obtain ⟨x2, rfl, _⟩ := a3 (n := n) h2
  exact ⟨⟨x0, x1, x2⟩, rfl⟩
theorem a22 {n : Nat} {v : CV} (h : Ty2 Try.prog (n + 3) 22 v) : ∃ s : Lst Hand_RawOp, v = s.cv Hand_RawOp.cv ∧ (s.tl = .view ∨ s.tl = .nil) := of_slice Try.underlying22 (fun _ h => a31 h) h
theorem a23 {n : Nat} {v : CV} (h : Ty2 Try.prog (n + 3) 23 v) : ∃ s : Lst Api_Op, v = s.cv Api_Op.cv ∧ (s.tl = .view ∨ s.tl = .nil) := of_slice Try.underlying23 (fun _ h => a29 h) h
theorem a27 {n : Nat} {v : CV} (h : Ty2 Try.prog (n + 3) 27 v) : ∃ x : Law12_RawEnv, v = x.cv ∧ inI x.StickX := by
  obtain ⟨l, rfl, hs⟩ := of_struct Try.underlying27 h
  replace h := hs
  obtain ⟨v0, l0, rfl, h0, h⟩ := all2_cons h
  obtain ⟨v1, l1, rfl, h1, h⟩ := all2_cons h
  obtain ⟨v2, l2, rfl, h2, h⟩ := all2_cons h
  obtain ⟨v3, l3, rfl, h3, h⟩ := all2_cons h
  obtain ⟨v4, l4, rfl, h4, h⟩ := all2_cons h
  obtain ⟨v5, l5, rfl, h5, h⟩ := all2_cons h
  obtain ⟨v6, l6, rfl, h6, h⟩ := all2_cons h
  obtain ⟨v7, l7, rfl, h7, h⟩ := all2_cons h
  obtain ⟨v8, l8, rfl, h8, h⟩ := all2_cons h
  obtain rfl := all2_nil h
  obtain ⟨x0, rfl, _⟩ := a3 (n := n + 1) h0
  obtain ⟨x1, rfl, _⟩ := a3 (n := n + 1) h1
  obtain ⟨x2, rfl, _⟩ := a3 (n := n + 1) h2
  obtain ⟨x3, rfl, _⟩ := a3 (n := n + 1) h3
  obtain ⟨x4, rfl, w4⟩ := a3 (n := n + 1) h4
  obtain ⟨x5, rfl, _⟩ := a3 (n := n + 1) h5
  obtain ⟨x6, rfl, _⟩ := a24 (n := n) h6
  obtain ⟨x7, rfl, _⟩ := a25 (n := n + 1) h7
  obtain ⟨x8, rfl, _⟩ := a3 (n := n + 1) h8
  exact ⟨⟨x0, x1, x2, x3, x4, x5, x6, x7, x8⟩, rfl, w4⟩
end Go.Proofs.Ytpchcfkebljopaa
end
