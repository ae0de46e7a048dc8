import Derived.Test.YtpchcfkebljopaaRows
import Derived.Test.YtpchcfkebljopaaXh
set_option linter.unusedSimpArgs false
set_option linter.unusedVariables false
set_option linter.constructorNameAsVariable false
section
-- @nole
namespace Go.Proofs.Ytpchcfkebljopaa
open Go.Cl Go Go.RowKit
set_option maxRecDepth 100000
set_option linter.constructorNameAsVariable false
noncomputable def resR (i : Nat) (p : Hp) (r : Except (Int × Int) Rule_machine) : XRes :=
  match r with
  | .ok m' => .ret (.tup []) (p.set i (some (.var sh131 m'.cv)))
  | .error c => .pan (fault c.1 c.2) (p.set i none)
def J74 (i : Nat) (p0 : Hp) (m0 : Rule_machine) (k : Nat) (ρ : Env) (p : Hp) : Prop :=
  ∃ (m : Rule_machine), ρ 0 = .ptr i [] ∧ ρ 2 = I (64 - k) ∧ k ≤ 64 ∧ p.t.get i = some (.var sh131 m.cv) ∧ p0.n ≤ p.n ∧ (∀ j o, j ≠ i → p0.t.get j = some o → p.t.get j = some o) ∧ Mach.run k m = Mach.run 64 m0 ∧ 0 ≤ m.at_ ∧ m.at_ ≤ m.l_.l.length ∧ m.l_ = m0.l_ ∧ (m.e_.Shots.tl = m0.e_.Shots.tl ∨ m.e_.Shots.tl = .part) ∧ m.e_.Shots.l.length ≤ m0.e_.Shots.l.length + (64 - k)
def R74 : Rel := fun args p r => ∃ (i : Nat) (m : Rule_machine), args = [.ptr i []] ∧ (p.t.get i = some (.var sh131 m.cv)) ∧ (0 ≤ m.at_ ∧ m.at_ ≤ m.l_.l.length) ∧ (m.l_.l.length ≤ 100000) ∧ (m.e_.Shots.tl ≠ .view) ∧ (m.e_.Shots.l.length ≤ 100000) ∧ r = resR i p (Mach.run 64 m)
theorem t74 {T : XCall} (h : Has T 74 R74) (i : Nat) (m : Rule_machine) {p : Hp} (h1 : p.t.get i = some (.var sh131 m.cv)) (h2 : 0 ≤ m.at_ ∧ m.at_ ≤ m.l_.l.length) (hl : m.l_.l.length ≤ 100000) (h3 : m.e_.Shots.tl ≠ .view) (h4 : m.e_.Shots.l.length ≤ 100000) : T 74 [.ptr i []] p = resR i p (Mach.run 64 m) := h _ _ _ ⟨i, m, rfl, h1, h2, hl, h3, h4, rfl⟩
set_option maxHeartbeats 8000000 in
theorem c74 : Con C 74 R74 := by
  refine con_of C ?_ ?_ ?_
  · rintro args p r r' ⟨i, m, h, h1, h2, hl, h3, h4, e⟩ ⟨i', m', h', h1', h2', hl', h3', h4', e'⟩
    subst e; subst e'; simp_all [Rule_machine.inj_iff, Api_Op.inj_iff, sl_inj23]
  · rintro args p r ⟨i, m, h, h1, h2, hl, h3, h4, rfl⟩; first | (split <;> simp; done) | (simp; done) | (simp only [resM]; split <;> simp; done) | (simp only [resD]; split <;> simp; done)  | (unfold resR; split <;> simp; done)
  · rintro args p r ⟨i, m, rfl, h1, h2, hl, h3, h4, rfl⟩
    refine ans_walk C false noExt (tabL C [(150, R150), (151, R151)]) xf74 (noExt_ok C) (tabL_ok C _) zc74_ok (Nat.le_of_ble_eq_true (by kernel_rfl)) fun hF => ?_
    have t_150 := @t150 (tabL C [(150, R150), (151, R151)]) (has_head C c150 [(151, R151)])
    have t_151 := @t151 (tabL C [(150, R150), (151, R151)]) (has_tail C _ rfl (has_head C c151 []))
    generalize tabL C [(150, R150), (151, R151)] = call at t_150 t_151 ⊢
    have hd_h1 := hF.dom _ _ h1
    show W C false noExt call zc74 (argE [.ptr i []]) p (endQ C _ _)
    simp -dsimp (disch := first | assumption | omega | (simp only [Hp.bump_n, Hp.znew_n, Hp.zset_n, List.length_nil, List.length_cons, List.length_append, List.length_map]; (first | done | omega)) | (simp (disch := first | omega | (simp only [Hp.bump_n, Hp.znew_n, Hp.zset_n, List.length_nil, List.length_cons, List.length_append, List.length_map]; (first | done | omega))) only [zheap, h1]; done) | (simp (disch := first | omega | (simp only [Hp.bump_n, Hp.znew_n, Hp.zset_n, List.length_nil, List.length_cons, List.length_append, List.length_map]; (first | done | omega))) only [zheap, h1]; rfl)) only [zall, zopm, zop, zcallOp, qop, qbuiltin, ofOpt, List.map, reduceCtorEq, if_true, if_false, ↓reduceIte, zbin, eqRes, qassert, qnum, qshift, qun, kindOf, allocV, true_and, and_true, and_self, List.nil_append, List.append_nil, List.cons_append, List.length_cons, List.length_nil, Nat.reduceAdd, Nat.reduceEqDiff, Nat.reduceLT, Nat.reduceSub, Nat.reduceMul, Int.reduceToNat, Int.reduceLE, Int.reduceLT, Int.reduceEq, Int.reduceNeg, Int.reduceAdd, Int.reduceSub, Bool.true_and, Bool.and_true, Bool.and_self, Bool.false_and, Bool.and_false, Bool.not_true, Bool.not_false, beq_self_eq_true, cond_true, cond_false, decide_true, decide_false, isConstOpd, xpanic, xconv, isBytes, qconv, List.length_map, List.map_nil, List.map_cons, concrete, Option.some.injEq, exists_eq', Int.toNat_natCast, Option.map_some, Option.map_none, List.getElem?_cons_zero, List.getElem?_cons_succ, zw74, rs74, tt3, tt23, tt29, tt131, ti3, ti23, ti29, ti131, t_150, t_151, zs_Rule_machine, zs_Api_Op, zsl23, h1, h2, hl, h3, h4]
    repeat' ((first | (refine condW_b ?_ ?_ <;> intro hc) | (refine wantO_s ?_ ?_ <;> intro hc) | (refine wantD_s _ _ _ _ ?_ ?_ <;> intro hc) | (refine bindO_i ?_ ?_ <;> intro hc) | (refine bindE_i _ _ _ _ ?_ ?_ <;> intro hc)) <;> (try simp only [decide_eq_true_eq, decide_eq_false_iff_not, Bool.or_eq_true, Bool.and_eq_true, Bool.not_eq_true, Bool.not_eq_false, Bool.not_not, Bool.not_eq_true', Bool.not_eq_false'] at hc) <;> (try have hw := within_spec hc) <;> (try simp -dsimp (disch := first | assumption | omega | (simp only [Hp.bump_n, Hp.znew_n, Hp.zset_n, List.length_nil, List.length_cons, List.length_append, List.length_map]; (first | done | omega)) | (simp (disch := first | omega | (simp only [Hp.bump_n, Hp.znew_n, Hp.zset_n, List.length_nil, List.length_cons, List.length_append, List.length_map]; (first | done | omega))) only [zheap, h1]; done) | (simp (disch := first | omega | (simp only [Hp.bump_n, Hp.znew_n, Hp.zset_n, List.length_nil, List.length_cons, List.length_append, List.length_map]; (first | done | omega))) only [zheap, h1]; rfl)) only [zall, zopm, zop, zcallOp, qop, qbuiltin, ofOpt, List.map, reduceCtorEq, if_true, if_false, ↓reduceIte, zbin, eqRes, qassert, qnum, qshift, qun, kindOf, allocV, true_and, and_true, and_self, List.nil_append, List.append_nil, List.cons_append, List.length_cons, List.length_nil, Nat.reduceAdd, Nat.reduceEqDiff, Nat.reduceLT, Nat.reduceSub, Nat.reduceMul, Int.reduceToNat, Int.reduceLE, Int.reduceLT, Int.reduceEq, Int.reduceNeg, Int.reduceAdd, Int.reduceSub, Bool.true_and, Bool.and_true, Bool.and_self, Bool.false_and, Bool.and_false, Bool.not_true, Bool.not_false, beq_self_eq_true, cond_true, cond_false, decide_true, decide_false, isConstOpd, xpanic, xconv, isBytes, qconv, List.length_map, List.map_nil, List.map_cons, concrete, Option.some.injEq, exists_eq', Int.toNat_natCast, Option.map_some, Option.map_none, List.getElem?_cons_zero, List.getElem?_cons_succ, zw74, rs74, tt3, tt23, tt29, tt131, ti3, ti23, ti29, ti131, t_150, t_151, zs_Rule_machine, zs_Api_Op, zsl23, h1, h2, hl, h3, h4, hc]))
    show W C false noExt call (ZC.loop zn74_4) _ _ _
    refine W_loop C false noExt call zn74_4 _ _ _ (J74 i p m) 64 ⟨m, rfl, rfl, by omega, h1, Nat.le_refl _, fun _ _ _ h => h, rfl, h2.1, h2.2, rfl, .inl rfl, by omega⟩ ?_
    rintro k ρ q ⟨m', e0, e2, hk, hg, hn, hle, hrun, ha, ha', hml, htl, hsl⟩
    have hi : i < q.n := Nat.lt_of_lt_of_le hd_h1 hn
    have htv : m'.e_.Shots.tl ≠ .view := by rcases htl with h | h <;> rw [h] <;> first | exact h3 | simp
    by_cases hlt : m'.at_ < m'.l_.l.length
    all_goals rw [hml] at hlt ha'
    · cases k with
      | zero =>
        have hs : ¬ (64 - ((0 : Nat) : Int) < 64) := by omega
        simp -dsimp (disch := first | assumption | omega | (simp only [Hp.bump_n, Hp.znew_n, Hp.zset_n, List.length_nil, List.length_cons, List.length_append, List.length_map]; (first | done | omega)) | (simp (disch := first | omega | (simp only [Hp.bump_n, Hp.znew_n, Hp.zset_n, List.length_nil, List.length_cons, List.length_append, List.length_map]; (first | done | omega))) only [zheap, h1]; done) | (simp (disch := first | omega | (simp only [Hp.bump_n, Hp.znew_n, Hp.zset_n, List.length_nil, List.length_cons, List.length_append, List.length_map]; (first | done | omega))) only [zheap, h1]; rfl) | (simp (disch := first | omega | (simp only [Hp.bump_n, Hp.znew_n, Hp.zset_n]; (first | done | omega))) only [zheap, h1, hg]; done) | (simp (disch := first | omega | (simp only [Hp.bump_n, Hp.znew_n, Hp.zset_n]; (first | done | omega))) only [zheap, h1, hg]; rfl)) only [zall, zopm, zop, zcallOp, qop, qbuiltin, ofOpt, List.map, reduceCtorEq, if_true, if_false, ↓reduceIte, zbin, eqRes, qassert, qnum, qshift, qun, kindOf, allocV, true_and, and_true, and_self, List.nil_append, List.append_nil, List.cons_append, List.length_cons, List.length_nil, Nat.reduceAdd, Nat.reduceEqDiff, Nat.reduceLT, Nat.reduceSub, Nat.reduceMul, Int.reduceToNat, Int.reduceLE, Int.reduceLT, Int.reduceEq, Int.reduceNeg, Int.reduceAdd, Int.reduceSub, Bool.true_and, Bool.and_true, Bool.and_self, Bool.false_and, Bool.and_false, Bool.not_true, Bool.not_false, beq_self_eq_true, cond_true, cond_false, decide_true, decide_false, isConstOpd, xpanic, xconv, isBytes, qconv, List.length_map, List.map_nil, List.map_cons, concrete, Option.some.injEq, exists_eq', Int.toNat_natCast, Option.map_some, Option.map_none, List.getElem?_cons_zero, List.getElem?_cons_succ, zw74, rs74, tt3, tt23, tt29, tt131, ti3, ti23, ti29, ti131, t_150, t_151, zs_Rule_machine, zs_Api_Op, zsl23, h1, h2, hl, h3, h4, e0, e2, hg, hml, hlt, hs]
        repeat' ((first | (refine condW_b ?_ ?_ <;> intro hc) | (refine wantO_s ?_ ?_ <;> intro hc) | (refine wantD_s _ _ _ _ ?_ ?_ <;> intro hc) | (refine bindO_i ?_ ?_ <;> intro hc) | (refine bindE_i _ _ _ _ ?_ ?_ <;> intro hc)) <;> (try simp only [decide_eq_true_eq, decide_eq_false_iff_not, Bool.or_eq_true, Bool.and_eq_true, Bool.not_eq_true, Bool.not_eq_false, Bool.not_not, Bool.not_eq_true', Bool.not_eq_false'] at hc) <;> (try have hw := within_spec hc) <;> (try simp -dsimp (disch := first | assumption | omega | (simp only [Hp.bump_n, Hp.znew_n, Hp.zset_n, List.length_nil, List.length_cons, List.length_append, List.length_map]; (first | done | omega)) | (simp (disch := first | omega | (simp only [Hp.bump_n, Hp.znew_n, Hp.zset_n, List.length_nil, List.length_cons, List.length_append, List.length_map]; (first | done | omega))) only [zheap, h1]; done) | (simp (disch := first | omega | (simp only [Hp.bump_n, Hp.znew_n, Hp.zset_n, List.length_nil, List.length_cons, List.length_append, List.length_map]; (first | done | omega))) only [zheap, h1]; rfl) | (simp (disch := first | omega | (simp only [Hp.bump_n, Hp.znew_n, Hp.zset_n]; (first | done | omega))) only [zheap, h1, hg]; done) | (simp (disch := first | omega | (simp only [Hp.bump_n, Hp.znew_n, Hp.zset_n]; (first | done | omega))) only [zheap, h1, hg]; rfl)) only [zall, zopm, zop, zcallOp, qop, qbuiltin, ofOpt, List.map, reduceCtorEq, if_true, if_false, ↓reduceIte, zbin, eqRes, qassert, qnum, qshift, qun, kindOf, allocV, true_and, and_true, and_self, List.nil_append, List.append_nil, List.cons_append, List.length_cons, List.length_nil, Nat.reduceAdd, Nat.reduceEqDiff, Nat.reduceLT, Nat.reduceSub, Nat.reduceMul, Int.reduceToNat, Int.reduceLE, Int.reduceLT, Int.reduceEq, Int.reduceNeg, Int.reduceAdd, Int.reduceSub, Bool.true_and, Bool.and_true, Bool.and_self, Bool.false_and, Bool.and_false, Bool.not_true, Bool.not_false, beq_self_eq_true, cond_true, cond_false, decide_true, decide_false, isConstOpd, xpanic, xconv, isBytes, qconv, List.length_map, List.map_nil, List.map_cons, concrete, Option.some.injEq, exists_eq', Int.toNat_natCast, Option.map_some, Option.map_none, List.getElem?_cons_zero, List.getElem?_cons_succ, zw74, rs74, tt3, tt23, tt29, tt131, ti3, ti23, ti29, ti131, t_150, t_151, zs_Rule_machine, zs_Api_Op, zsl23, h1, h2, hl, h3, h4, e0, e2, hg, hml, hlt, hs, hc]))
        have hr : Mach.run 0 m' = .error (5, m'.at_) := by simp [Mach.run, hml, hlt]
        rw [← hrun, hr]
        exact shr_dropP hF (fun j o hj h => hle j o hj h) (weak_self (lt_of_no (by intro jj; simp [CV.has, CV.hasL, fault, Trap_thrown.nohas, Api_Op.nohas])))
      | succ k =>
        have hs : 64 - ((k + 1 : Nat) : Int) < 64 := by omega
        cases hdo : Mach.doOp m' (nth m.l_.l m'.at_.toNat) with
        | error c =>
          simp -dsimp (disch := first | assumption | omega | (simp only [Hp.bump_n, Hp.znew_n, Hp.zset_n, List.length_nil, List.length_cons, List.length_append, List.length_map]; (first | done | omega)) | (simp (disch := first | omega | (simp only [Hp.bump_n, Hp.znew_n, Hp.zset_n, List.length_nil, List.length_cons, List.length_append, List.length_map]; (first | done | omega))) only [zheap, h1]; done) | (simp (disch := first | omega | (simp only [Hp.bump_n, Hp.znew_n, Hp.zset_n, List.length_nil, List.length_cons, List.length_append, List.length_map]; (first | done | omega))) only [zheap, h1]; rfl) | (simp (disch := first | omega | (simp only [Hp.bump_n, Hp.znew_n, Hp.zset_n]; (first | done | omega))) only [zheap, h1, hg]; done) | (simp (disch := first | omega | (simp only [Hp.bump_n, Hp.znew_n, Hp.zset_n]; (first | done | omega))) only [zheap, h1, hg]; rfl)) only [zall, zopm, zop, zcallOp, qop, qbuiltin, ofOpt, List.map, reduceCtorEq, if_true, if_false, ↓reduceIte, zbin, eqRes, qassert, qnum, qshift, qun, kindOf, allocV, true_and, and_true, and_self, List.nil_append, List.append_nil, List.cons_append, List.length_cons, List.length_nil, Nat.reduceAdd, Nat.reduceEqDiff, Nat.reduceLT, Nat.reduceSub, Nat.reduceMul, Int.reduceToNat, Int.reduceLE, Int.reduceLT, Int.reduceEq, Int.reduceNeg, Int.reduceAdd, Int.reduceSub, Bool.true_and, Bool.and_true, Bool.and_self, Bool.false_and, Bool.and_false, Bool.not_true, Bool.not_false, beq_self_eq_true, cond_true, cond_false, decide_true, decide_false, isConstOpd, xpanic, xconv, isBytes, qconv, List.length_map, List.map_nil, List.map_cons, concrete, Option.some.injEq, exists_eq', Int.toNat_natCast, Option.map_some, Option.map_none, List.getElem?_cons_zero, List.getElem?_cons_succ, zw74, rs74, tt3, tt23, tt29, tt131, ti3, ti23, ti29, ti131, t_150, t_151, zs_Rule_machine, zs_Api_Op, zsl23, h1, h2, hl, h3, h4, e0, e2, hg, hml, hlt, hs, hdo, resD]
          repeat' ((first | (refine condW_b ?_ ?_ <;> intro hc) | (refine wantO_s ?_ ?_ <;> intro hc) | (refine wantD_s _ _ _ _ ?_ ?_ <;> intro hc) | (refine bindO_i ?_ ?_ <;> intro hc) | (refine bindE_i _ _ _ _ ?_ ?_ <;> intro hc)) <;> (try simp only [decide_eq_true_eq, decide_eq_false_iff_not, Bool.or_eq_true, Bool.and_eq_true, Bool.not_eq_true, Bool.not_eq_false, Bool.not_not, Bool.not_eq_true', Bool.not_eq_false'] at hc) <;> (try have hw := within_spec hc) <;> (try simp -dsimp (disch := first | assumption | omega | (simp only [Hp.bump_n, Hp.znew_n, Hp.zset_n, List.length_nil, List.length_cons, List.length_append, List.length_map]; (first | done | omega)) | (simp (disch := first | omega | (simp only [Hp.bump_n, Hp.znew_n, Hp.zset_n, List.length_nil, List.length_cons, List.length_append, List.length_map]; (first | done | omega))) only [zheap, h1]; done) | (simp (disch := first | omega | (simp only [Hp.bump_n, Hp.znew_n, Hp.zset_n, List.length_nil, List.length_cons, List.length_append, List.length_map]; (first | done | omega))) only [zheap, h1]; rfl) | (simp (disch := first | omega | (simp only [Hp.bump_n, Hp.znew_n, Hp.zset_n]; (first | done | omega))) only [zheap, h1, hg]; done) | (simp (disch := first | omega | (simp only [Hp.bump_n, Hp.znew_n, Hp.zset_n]; (first | done | omega))) only [zheap, h1, hg]; rfl)) only [zall, zopm, zop, zcallOp, qop, qbuiltin, ofOpt, List.map, reduceCtorEq, if_true, if_false, ↓reduceIte, zbin, eqRes, qassert, qnum, qshift, qun, kindOf, allocV, true_and, and_true, and_self, List.nil_append, List.append_nil, List.cons_append, List.length_cons, List.length_nil, Nat.reduceAdd, Nat.reduceEqDiff, Nat.reduceLT, Nat.reduceSub, Nat.reduceMul, Int.reduceToNat, Int.reduceLE, Int.reduceLT, Int.reduceEq, Int.reduceNeg, Int.reduceAdd, Int.reduceSub, Bool.true_and, Bool.and_true, Bool.and_self, Bool.false_and, Bool.and_false, Bool.not_true, Bool.not_false, beq_self_eq_true, cond_true, cond_false, decide_true, decide_false, isConstOpd, xpanic, xconv, isBytes, qconv, List.length_map, List.map_nil, List.map_cons, concrete, Option.some.injEq, exists_eq', Int.toNat_natCast, Option.map_some, Option.map_none, List.getElem?_cons_zero, List.getElem?_cons_succ, zw74, rs74, tt3, tt23, tt29, tt131, ti3, ti23, ti29, ti131, t_150, t_151, zs_Rule_machine, zs_Api_Op, zsl23, h1, h2, hl, h3, h4, e0, e2, hg, hml, hlt, hs, hdo, resD, hc]))
          have hr : Mach.run (k + 1) m' = .error (c, m'.at_) := by simp [Mach.run, hml, hlt, hdo]
          rw [← hrun, hr]
          exact shr_dropP hF (fun j o hj h => hle j o hj h) (weak_self (lt_of_no (by intro jj; simp [CV.has, CV.hasL, fault, Trap_thrown.nohas, Api_Op.nohas])))
        | ok r =>
          obtain ⟨m2, n⟩ := r
          have hk2 := Mach.doOp_keeps hdo ha (by rw [hml]; exact hlt)
          simp -dsimp (disch := first | assumption | omega | (simp only [Hp.bump_n, Hp.znew_n, Hp.zset_n, List.length_nil, List.length_cons, List.length_append, List.length_map]; (first | done | omega)) | (simp (disch := first | omega | (simp only [Hp.bump_n, Hp.znew_n, Hp.zset_n, List.length_nil, List.length_cons, List.length_append, List.length_map]; (first | done | omega))) only [zheap, h1]; done) | (simp (disch := first | omega | (simp only [Hp.bump_n, Hp.znew_n, Hp.zset_n, List.length_nil, List.length_cons, List.length_append, List.length_map]; (first | done | omega))) only [zheap, h1]; rfl) | (simp (disch := first | omega | (simp only [Hp.bump_n, Hp.znew_n, Hp.zset_n]; (first | done | omega))) only [zheap, h1, hg]; done) | (simp (disch := first | omega | (simp only [Hp.bump_n, Hp.znew_n, Hp.zset_n]; (first | done | omega))) only [zheap, h1, hg]; rfl)) only [zall, zopm, zop, zcallOp, qop, qbuiltin, ofOpt, List.map, reduceCtorEq, if_true, if_false, ↓reduceIte, zbin, eqRes, qassert, qnum, qshift, qun, kindOf, allocV, true_and, and_true, and_self, List.nil_append, List.append_nil, List.cons_append, List.length_cons, List.length_nil, Nat.reduceAdd, Nat.reduceEqDiff, Nat.reduceLT, Nat.reduceSub, Nat.reduceMul, Int.reduceToNat, Int.reduceLE, Int.reduceLT, Int.reduceEq, Int.reduceNeg, Int.reduceAdd, Int.reduceSub, Bool.true_and, Bool.and_true, Bool.and_self, Bool.false_and, Bool.and_false, Bool.not_true, Bool.not_false, beq_self_eq_true, cond_true, cond_false, decide_true, decide_false, isConstOpd, xpanic, xconv, isBytes, qconv, List.length_map, List.map_nil, List.map_cons, concrete, Option.some.injEq, exists_eq', Int.toNat_natCast, Option.map_some, Option.map_none, List.getElem?_cons_zero, List.getElem?_cons_succ, zw74, rs74, tt3, tt23, tt29, tt131, ti3, ti23, ti29, ti131, t_150, t_151, zs_Rule_machine, zs_Api_Op, zsl23, h1, h2, hl, h3, h4, e0, e2, hg, hml, hlt, hs, hdo, resD]
          repeat' ((first | (refine condW_b ?_ ?_ <;> intro hc) | (refine wantO_s ?_ ?_ <;> intro hc) | (refine wantD_s _ _ _ _ ?_ ?_ <;> intro hc) | (refine bindO_i ?_ ?_ <;> intro hc) | (refine bindE_i _ _ _ _ ?_ ?_ <;> intro hc)) <;> (try simp only [decide_eq_true_eq, decide_eq_false_iff_not, Bool.or_eq_true, Bool.and_eq_true, Bool.not_eq_true, Bool.not_eq_false, Bool.not_not, Bool.not_eq_true', Bool.not_eq_false'] at hc) <;> (try have hw := within_spec hc) <;> (try simp -dsimp (disch := first | assumption | omega | (simp only [Hp.bump_n, Hp.znew_n, Hp.zset_n, List.length_nil, List.length_cons, List.length_append, List.length_map]; (first | done | omega)) | (simp (disch := first | omega | (simp only [Hp.bump_n, Hp.znew_n, Hp.zset_n, List.length_nil, List.length_cons, List.length_append, List.length_map]; (first | done | omega))) only [zheap, h1]; done) | (simp (disch := first | omega | (simp only [Hp.bump_n, Hp.znew_n, Hp.zset_n, List.length_nil, List.length_cons, List.length_append, List.length_map]; (first | done | omega))) only [zheap, h1]; rfl) | (simp (disch := first | omega | (simp only [Hp.bump_n, Hp.znew_n, Hp.zset_n]; (first | done | omega))) only [zheap, h1, hg]; done) | (simp (disch := first | omega | (simp only [Hp.bump_n, Hp.znew_n, Hp.zset_n]; (first | done | omega))) only [zheap, h1, hg]; rfl)) only [zall, zopm, zop, zcallOp, qop, qbuiltin, ofOpt, List.map, reduceCtorEq, if_true, if_false, ↓reduceIte, zbin, eqRes, qassert, qnum, qshift, qun, kindOf, allocV, true_and, and_true, and_self, List.nil_append, List.append_nil, List.cons_append, List.length_cons, List.length_nil, Nat.reduceAdd, Nat.reduceEqDiff, Nat.reduceLT, Nat.reduceSub, Nat.reduceMul, Int.reduceToNat, Int.reduceLE, Int.reduceLT, Int.reduceEq, Int.reduceNeg, Int.reduceAdd, Int.reduceSub, Bool.true_and, Bool.and_true, Bool.and_self, Bool.false_and, Bool.and_false, Bool.not_true, Bool.not_false, beq_self_eq_true, cond_true, cond_false, decide_true, decide_false, isConstOpd, xpanic, xconv, isBytes, qconv, List.length_map, List.map_nil, List.map_cons, concrete, Option.some.injEq, exists_eq', Int.toNat_natCast, Option.map_some, Option.map_none, List.getElem?_cons_zero, List.getElem?_cons_succ, zw74, rs74, tt3, tt23, tt29, tt131, ti3, ti23, ti29, ti131, t_150, t_151, zs_Rule_machine, zs_Api_Op, zsl23, h1, h2, hl, h3, h4, e0, e2, hg, hml, hlt, hs, hdo, resD, hc]))
          have hr : Mach.run (k + 1) m' = Mach.run k { m2 with at_ := n } := by
            rw [Mach.run]; simp [hml, hlt, hdo]
          obtain ⟨k1, k2, k3, k4, k5, k6⟩ := hk2
          refine ⟨k, Nat.lt_succ_self k, { m2 with at_ := n }, by simp [put_at, zput_none, e0], by simp [put_at, zput_none]; omega, by omega, by simp only [Hp.bump_get, Hp.get_set_self], by simp only [Hp.bump_n, Hp.zset_n]; omega, fun j o hj h => ?_, by rw [← hr, hrun], k5, by rw [k2]; exact k6, by rw [k2, hml], ?_, by show m2.e_.Shots.l.length ≤ _; omega⟩
          · simp (disch := assumption) only [Hp.bump_get, Hp.get_set_ne]
            exact hle j o hj h
          · show m2.e_.Shots.tl = _ ∨ m2.e_.Shots.tl = _
            rcases k1 with h | h
            · rw [h]; exact htl
            · exact .inr h
    · simp -dsimp (disch := first | assumption | omega | (simp only [Hp.bump_n, Hp.znew_n, Hp.zset_n, List.length_nil, List.length_cons, List.length_append, List.length_map]; (first | done | omega)) | (simp (disch := first | omega | (simp only [Hp.bump_n, Hp.znew_n, Hp.zset_n, List.length_nil, List.length_cons, List.length_append, List.length_map]; (first | done | omega))) only [zheap, h1]; done) | (simp (disch := first | omega | (simp only [Hp.bump_n, Hp.znew_n, Hp.zset_n, List.length_nil, List.length_cons, List.length_append, List.length_map]; (first | done | omega))) only [zheap, h1]; rfl) | (simp (disch := first | omega | (simp only [Hp.bump_n, Hp.znew_n, Hp.zset_n]; (first | done | omega))) only [zheap, h1, hg]; done) | (simp (disch := first | omega | (simp only [Hp.bump_n, Hp.znew_n, Hp.zset_n]; (first | done | omega))) only [zheap, h1, hg]; rfl)) only [zall, zopm, zop, zcallOp, qop, qbuiltin, ofOpt, List.map, reduceCtorEq, if_true, if_false, ↓reduceIte, zbin, eqRes, qassert, qnum, qshift, qun, kindOf, allocV, true_and, and_true, and_self, List.nil_append, List.append_nil, List.cons_append, List.length_cons, List.length_nil, Nat.reduceAdd, Nat.reduceEqDiff, Nat.reduceLT, Nat.reduceSub, Nat.reduceMul, Int.reduceToNat, Int.reduceLE, Int.reduceLT, Int.reduceEq, Int.reduceNeg, Int.reduceAdd, Int.reduceSub, Bool.true_and, Bool.and_true, Bool.and_self, Bool.false_and, Bool.and_false, Bool.not_true, Bool.not_false, beq_self_eq_true, cond_true, cond_false, decide_true, decide_false, isConstOpd, xpanic, xconv, isBytes, qconv, List.length_map, List.map_nil, List.map_cons, concrete, Option.some.injEq, exists_eq', Int.toNat_natCast, Option.map_some, Option.map_none, List.getElem?_cons_zero, List.getElem?_cons_succ, zw74, rs74, tt3, tt23, tt29, tt131, ti3, ti23, ti29, ti131, t_150, t_151, zs_Rule_machine, zs_Api_Op, zsl23, h1, h2, hl, h3, h4, e0, e2, hg, hml, hlt]
      repeat' ((first | (refine condW_b ?_ ?_ <;> intro hc) | (refine wantO_s ?_ ?_ <;> intro hc) | (refine wantD_s _ _ _ _ ?_ ?_ <;> intro hc) | (refine bindO_i ?_ ?_ <;> intro hc) | (refine bindE_i _ _ _ _ ?_ ?_ <;> intro hc)) <;> (try simp only [decide_eq_true_eq, decide_eq_false_iff_not, Bool.or_eq_true, Bool.and_eq_true, Bool.not_eq_true, Bool.not_eq_false, Bool.not_not, Bool.not_eq_true', Bool.not_eq_false'] at hc) <;> (try have hw := within_spec hc) <;> (try simp -dsimp (disch := first | assumption | omega | (simp only [Hp.bump_n, Hp.znew_n, Hp.zset_n, List.length_nil, List.length_cons, List.length_append, List.length_map]; (first | done | omega)) | (simp (disch := first | omega | (simp only [Hp.bump_n, Hp.znew_n, Hp.zset_n, List.length_nil, List.length_cons, List.length_append, List.length_map]; (first | done | omega))) only [zheap, h1]; done) | (simp (disch := first | omega | (simp only [Hp.bump_n, Hp.znew_n, Hp.zset_n, List.length_nil, List.length_cons, List.length_append, List.length_map]; (first | done | omega))) only [zheap, h1]; rfl) | (simp (disch := first | omega | (simp only [Hp.bump_n, Hp.znew_n, Hp.zset_n]; (first | done | omega))) only [zheap, h1, hg]; done) | (simp (disch := first | omega | (simp only [Hp.bump_n, Hp.znew_n, Hp.zset_n]; (first | done | omega))) only [zheap, h1, hg]; rfl)) only [zall, zopm, zop, zcallOp, qop, qbuiltin, ofOpt, List.map, reduceCtorEq, if_true, if_false, ↓reduceIte, zbin, eqRes, qassert, qnum, qshift, qun, kindOf, allocV, true_and, and_true, and_self, List.nil_append, List.append_nil, List.cons_append, List.length_cons, List.length_nil, Nat.reduceAdd, Nat.reduceEqDiff, Nat.reduceLT, Nat.reduceSub, Nat.reduceMul, Int.reduceToNat, Int.reduceLE, Int.reduceLT, Int.reduceEq, Int.reduceNeg, Int.reduceAdd, Int.reduceSub, Bool.true_and, Bool.and_true, Bool.and_self, Bool.false_and, Bool.and_false, Bool.not_true, Bool.not_false, beq_self_eq_true, cond_true, cond_false, decide_true, decide_false, isConstOpd, xpanic, xconv, isBytes, qconv, List.length_map, List.map_nil, List.map_cons, concrete, Option.some.injEq, exists_eq', Int.toNat_natCast, Option.map_some, Option.map_none, List.getElem?_cons_zero, List.getElem?_cons_succ, zw74, rs74, tt3, tt23, tt29, tt131, ti3, ti23, ti29, ti131, t_150, t_151, zs_Rule_machine, zs_Api_Op, zsl23, h1, h2, hl, h3, h4, e0, e2, hg, hml, hlt, hc]))
      have hr : Mach.run k m' = .ok m' := by cases k <;> simp [Mach.run, hml, hlt]
      rw [← hrun, hr]
      refine shr_set hF hd_h1 (fun j o hj h => hle j o hj h) ⟨_, hg, oweak_self fun j hj => hF.lt_obj (.arg (a := CV.ptr i []) (by simp) rfl) h1 j ?_⟩ (weak_self (lt_of_no (by intro jj; simp [CV.has, CV.hasL, fault, Trap_thrown.nohas, Api_Op.nohas])))
      simp only [XObj.has, Rule_machine.has, Rule_Env.has] at hj ⊢
      rw [hml] at hj
      rcases htl with e | e <;> simp_all
end Go.Proofs.Ytpchcfkebljopaa
end
section
namespace Go.Proofs.Ytpchcfkebljopaa
open Go.Cl Go Go.RowKit
set_option maxRecDepth 100000
noncomputable def zn73_1 : ZC := ZC.reg [⟨some 2, .alloc 44, none, false⟩, ⟨some 3, .alloc 4, none, true⟩]
noncomputable def zn73_4 : ZC := ZC.reg [⟨some 4, .move (.tmp 0), none, false⟩, ⟨some 5, .binOp .eql 1 (.tmp 4) (.const .nilFunc) 1, none, true⟩]
noncomputable def zn73_7 : ZC := ZC.reg [⟨some 6, .build 44 ⟨[]⟩, none, false⟩, ⟨none, .store 44 (.tmp 2) (.tmp 6), none, false⟩, ⟨none, .store 4 (.tmp 3) (.const (.bool false)), none, true⟩]
noncomputable def zn73_6 : ZC := ZC.seq zn73_7 ZC.ret
noncomputable def zn73_5 : ZC := ZC.cond (.tmp 5) zn73_6 ZC.skip
noncomputable def zn73_3 : ZC := ZC.seq zn73_4 zn73_5
noncomputable def zn73_9 : ZC := ZC.reg [⟨some 7, .makeFunc (.func 149) ⟨[]⟩ ⟨[.tmp 2, .tmp 3]⟩, none, false⟩, ⟨none, .defer ⟨.value (.tmp 7), ⟨[]⟩, ⟨[]⟩⟩, none, true⟩]
noncomputable def zn73_11 : ZC := ZC.reg [⟨some 8, .move (.tmp 0), none, false⟩, ⟨some 9, .call ⟨.value (.tmp 8), ⟨[]⟩, ⟨[]⟩⟩, none, true⟩]
noncomputable def zn73_13 : ZC := ZC.reg [⟨some 10, .build 44 ⟨[]⟩, none, false⟩, ⟨none, .store 44 (.tmp 2) (.tmp 10), none, false⟩, ⟨none, .store 4 (.tmp 3) (.const (.bool false)), none, true⟩]
noncomputable def zn73_12 : ZC := ZC.seq zn73_13 ZC.ret
noncomputable def zn73_10 : ZC := ZC.seq zn73_11 zn73_12
noncomputable def zn73_8 : ZC := ZC.seq zn73_9 zn73_10
noncomputable def zn73_2 : ZC := ZC.seq zn73_3 zn73_8
noncomputable def zn73_0 : ZC := ZC.seq zn73_1 zn73_2
noncomputable def zc73 : ZC := zn73_0
set_option linter.defProp false in
def zw73 := And.intro (zunf C zc73.eq_1) <| And.intro (zunf C zn73_1.eq_1) <| And.intro (zunf C zn73_4.eq_1) <| And.intro (zunf C zn73_7.eq_1) <| And.intro (zunf C zn73_6.eq_1) <| And.intro (zunf C zn73_5.eq_1) <| And.intro (zunf C zn73_3.eq_1) <| And.intro (zunf C zn73_9.eq_1) <| And.intro (zunf C zn73_11.eq_1) <| And.intro (zunf C zn73_13.eq_1) <| And.intro (zunf C zn73_12.eq_1) <| And.intro (zunf C zn73_10.eq_1) <| And.intro (zunf C zn73_8.eq_1) <| And.intro (zunf C zn73_2.eq_1) <| (zunf C zn73_0.eq_1)
theorem rs73 : (xfOf Try.f73).rs = [.cell 2 44, .cell 3 4] := by kernel_rfl
noncomputable def zn149_1 : ZC := ZC.reg [⟨some 5, .call ⟨.builtin .recover, ⟨[]⟩, ⟨[]⟩⟩, none, true⟩]
noncomputable def zn149_4 : ZC := ZC.reg [⟨some 7, .binOp .eql 20 (.tmp 5) (.const .nilIface) 20, none, true⟩]
noncomputable def zn149_6 : ZC := ZC.reg [⟨some 2, .assign (.tmp 5), none, true⟩]
noncomputable def zn149_8 : ZC := ZC.reg [⟨some 8, .typeAssert (.tmp 5) 20 194 true, none, false⟩, ⟨some 9, .extract (.tmp 8) 1, none, false⟩, ⟨some 10, .extract (.tmp 8) 0, none, true⟩]
noncomputable def zn149_11 : ZC := ZC.reg [⟨some 3, .alloc 194, none, false⟩, ⟨none, .store 194 (.tmp 3) (.tmp 10), none, true⟩]
noncomputable def zn149_12 : ZC := ZC.reg [⟨some 11, .fieldAddr 194 (.tmp 3) 0, none, false⟩, ⟨some 12, .load 44 (.tmp 11), none, false⟩, ⟨none, .store 44 (.tmp 0) (.tmp 12), none, false⟩, ⟨none, .store 4 (.tmp 1) (.const (.bool true)), none, true⟩]
noncomputable def zn149_10 : ZC := ZC.seq zn149_11 zn149_12
noncomputable def zn149_14 : ZC := ZC.reg [⟨some 4, .assign (.tmp 5), none, true⟩]
noncomputable def zn149_15 : ZC := ZC.reg [⟨some 6, .move (.tmp 4), none, false⟩, ⟨none, .panic (.tmp 6), none, true⟩]
noncomputable def zn149_13 : ZC := ZC.seq zn149_14 zn149_15
noncomputable def zn149_9 : ZC := ZC.cond (.tmp 9) zn149_10 zn149_13
noncomputable def zn149_7 : ZC := ZC.seq zn149_8 zn149_9
noncomputable def zn149_5 : ZC := ZC.cond (.tmp 7) zn149_6 zn149_7
noncomputable def zn149_3 : ZC := ZC.seq zn149_4 zn149_5
noncomputable def zn149_2 : ZC := ZC.block 0 zn149_3
noncomputable def zn149_0 : ZC := ZC.seq zn149_1 zn149_2
noncomputable def zc149 : ZC := zn149_0
set_option linter.defProp false in
def zw149 := And.intro (zunf C zc149.eq_1) <| And.intro (zunf C zn149_1.eq_1) <| And.intro (zunf C zn149_4.eq_1) <| And.intro (zunf C zn149_6.eq_1) <| And.intro (zunf C zn149_8.eq_1) <| And.intro (zunf C zn149_11.eq_1) <| And.intro (zunf C zn149_12.eq_1) <| And.intro (zunf C zn149_10.eq_1) <| And.intro (zunf C zn149_14.eq_1) <| And.intro (zunf C zn149_15.eq_1) <| And.intro (zunf C zn149_13.eq_1) <| And.intro (zunf C zn149_9.eq_1) <| And.intro (zunf C zn149_7.eq_1) <| And.intro (zunf C zn149_5.eq_1) <| And.intro (zunf C zn149_3.eq_1) <| And.intro (zunf C zn149_2.eq_1) <| (zunf C zn149_0.eq_1)
end Go.Proofs.Ytpchcfkebljopaa
end
section
namespace Go.Proofs.Ytpchcfkebljopaa
open Go.Cl Go Go.RowKit
noncomputable def xc73 : XC := ⟨catA (Try.f73.body.getD .skip), catB (Try.f73.body.getD .skip), catP (Try.f73.body.getD .skip), Try.f73.results.toList, Try.f73.ntmps, 7, 149, [2, 3], 5, catR (Try.f149.body.getD .skip), Try.f149.ntmps⟩
theorem xc73_ok : XCok C 73 xc73 where
  fn := ⟨Try.f73, _, _, _, _, _, _, _, _, by kernel_rfl, rfl, rfl, rfl⟩
  cl := ⟨Try.f149, _, _, _, _, _, by kernel_rfl, rfl, rfl, rfl, by kernel_rfl⟩
  ok := ⟨by kernel_rfl, by kernel_rfl, by kernel_rfl, by kernel_rfl, by kernel_rfl⟩
  lt := ⟨of_decide_eq_true (by kernel_rfl), of_decide_eq_true (by kernel_rfl), fun t ht => of_decide_eq_true (List.all_eq_true.1 (show xc73.caps.all (fun t => decide (t < xc73.n)) = true by kernel_rfl) t ht), of_decide_eq_true (by kernel_rfl), of_decide_eq_true (by kernel_rfl)⟩
theorem xc73_n : ∃ fn, C.P.funcs[73]? = some fn ∧ fn.body.isNone = false ∧ (fn.name == "runtime.NumGoroutine") = false := ⟨Try.f73, by kernel_rfl, by kernel_rfl, by kernel_rfl⟩
theorem xc73_a : zcode xc73.a = some zn73_1 := by kernel_rfl
theorem xc73_b : zcode xc73.b = some zn73_3 := by kernel_rfl
theorem xc73_p : zcode xc73.post = some zn73_10 := by kernel_rfl
theorem xc73_r : zcode xc73.rest = some zn149_2 := by kernel_rfl
theorem xc73_rs : xc73.rs = [.cell 2 44, .cell 3 4] := by kernel_rfl
theorem xc73_z : xc73.k = 7 ∧ xc73.g = 149 ∧ xc73.caps = [2, 3] ∧ xc73.gd = 5 ∧ xc73.rs = [.cell 2 44, .cell 3 4] ∧ (∀ p : Hp, Cl.xalloc C p 4 = .ret (.ptr p.n []) (p.new (.var .s (Bo false)))) := ⟨rfl, rfl, rfl, rfl, xc73_rs, fun p => by simp only [Cl.xalloc, tt4, ti4]⟩
end Go.Proofs.Ytpchcfkebljopaa
end
section
-- @nole
namespace Go.Proofs.Ytpchcfkebljopaa
open Go.Cl Go Go.RowKit
set_option maxRecDepth 100000
set_option linter.constructorNameAsVariable false
noncomputable def resC (i : Nat) (p : Hp) (r : Except (Int × Int) Rule_machine) : XRes :=
  match r with
  | .ok m' => .ret (.tup [(Trap_Fault.mk 0 0).cv, Bo false]) (p.set i (some (.var sh131 m'.cv)))
  | .error c => .ret (.tup [(Trap_Fault.mk c.1 c.2).cv, Bo true]) (p.set i none)
def R73 : Rel := fun args p r => ∃ (i : Nat) (m : Rule_machine), args = [.fn 74 [.ptr i []] []] ∧ (p.t.get i = some (.var sh131 m.cv)) ∧ (0 ≤ m.at_ ∧ m.at_ ≤ m.l_.l.length) ∧ (m.l_.l.length ≤ 100000) ∧ (m.e_.Shots.tl ≠ .view) ∧ (m.e_.Shots.l.length ≤ 100000) ∧ r = resC i p (Mach.run 64 m)
theorem t73 {T : XCall} (h : Has T 73 R73) (i : Nat) (m : Rule_machine) {p : Hp} (h1 : p.t.get i = some (.var sh131 m.cv)) (h2 : 0 ≤ m.at_ ∧ m.at_ ≤ m.l_.l.length) (hl : m.l_.l.length ≤ 100000) (h3 : m.e_.Shots.tl ≠ .view) (h4 : m.e_.Shots.l.length ≤ 100000) : T 73 [.fn 74 [.ptr i []] []] p = resC i p (Mach.run 64 m) := h _ _ _ ⟨i, m, rfl, h1, h2, hl, h3, h4, rfl⟩
set_option maxHeartbeats 8000000 in
theorem c73 : Con C 73 R73 := by
  refine con_of C ?_ ?_ ?_
  · rintro args p r r' ⟨i, m, h, h1, h2, hl, h3, h4, e⟩ ⟨i', m', h', h1', h2', hl', h3', h4', e'⟩
    subst e; subst e'; simp_all [Trap_Fault.inj_iff, Trap_thrown.inj_iff, Rule_machine.inj_iff]
  · rintro args p r ⟨i, m, h, h1, h2, hl, h3, h4, rfl⟩; first | (split <;> simp; done) | (simp; done) | (simp only [resM]; split <;> simp; done) | (simp only [resD]; split <;> simp; done)  | (unfold resC; split <;> simp; done)
  · rintro args p r ⟨i, m, rfl, h1, h2, hl, h3, h4, rfl⟩
    refine ans_catch C false noExt (tabL C [(74, R74)]) xc73_ok (noExt_ok C) (tabL_ok C _) xc73_a xc73_b xc73_p xc73_r (by kernel_rfl) (Nat.le_of_ble_eq_true (by kernel_rfl)) xc73_n fun hF => ?_
    have t_74 := @t74 (tabL C [(74, R74)]) (has_head C c74 [])
    generalize tabL C [(74, R74)] = call at t_74 ⊢
    have hd_h1 := hF.dom _ _ h1
    show W C false noExt call zn73_1 (argE [.fn 74 [.ptr i []] []]) p (qcA C false noExt call zn73_3 zn73_10 zn149_2 xc73 _)
    cases hr : Mach.run 64 m with
    | ok m' =>
      simp -dsimp (disch := first | assumption | omega | (simp only [Hp.bump_n, Hp.znew_n, Hp.zset_n, List.length_nil, List.length_cons, List.length_append, List.length_map]; (first | done | omega)) | (simp (disch := first | omega | (simp only [Hp.bump_n, Hp.znew_n, Hp.zset_n, List.length_nil, List.length_cons, List.length_append, List.length_map]; (first | done | omega))) only [zheap, h1]; done) | (simp (disch := first | omega | (simp only [Hp.bump_n, Hp.znew_n, Hp.zset_n, List.length_nil, List.length_cons, List.length_append, List.length_map]; (first | done | omega))) only [zheap, h1]; rfl)) only [zall, zopm, zop, zcallOp, qop, qbuiltin, ofOpt, List.map, reduceCtorEq, if_true, if_false, ↓reduceIte, zbin, eqRes, qassert, qnum, qshift, qun, kindOf, allocV, true_and, and_true, and_self, List.nil_append, List.append_nil, List.cons_append, List.length_cons, List.length_nil, Nat.reduceAdd, Nat.reduceEqDiff, Nat.reduceLT, Nat.reduceSub, Nat.reduceMul, Int.reduceToNat, Int.reduceLE, Int.reduceLT, Int.reduceEq, Int.reduceNeg, Int.reduceAdd, Int.reduceSub, Bool.true_and, Bool.and_true, Bool.and_self, Bool.false_and, Bool.and_false, Bool.not_true, Bool.not_false, beq_self_eq_true, cond_true, cond_false, decide_true, decide_false, isConstOpd, xpanic, xconv, isBytes, qconv, List.length_map, List.map_nil, List.map_cons, concrete, Option.some.injEq, exists_eq', Int.toNat_natCast, Option.map_some, Option.map_none, List.getElem?_cons_zero, List.getElem?_cons_succ, zw73, rs73, xc73_z, zw149, qcA_n, qcB_n, qcP_n, qcP_r, qcP_p, qcE_n, qcE_r, tt1, tt4, tt5, tt20, tt44, tt194, ti1, ti4, ti5, ti20, ti44, ti194, t_74, zs_Trap_Fault, zs_Trap_thrown, zs_Rule_machine, h1, h2, hl, h3, h4, hr, resR]
      repeat' ((first | (refine condW_b ?_ ?_ <;> intro hc) | (refine wantO_s ?_ ?_ <;> intro hc) | (refine wantD_s _ _ _ _ ?_ ?_ <;> intro hc) | (refine bindO_i ?_ ?_ <;> intro hc) | (refine bindE_i _ _ _ _ ?_ ?_ <;> intro hc)) <;> (try simp only [decide_eq_true_eq, decide_eq_false_iff_not, Bool.or_eq_true, Bool.and_eq_true, Bool.not_eq_true, Bool.not_eq_false, Bool.not_not, Bool.not_eq_true', Bool.not_eq_false'] at hc) <;> (try have hw := within_spec hc) <;> (try simp -dsimp (disch := first | assumption | omega | (simp only [Hp.bump_n, Hp.znew_n, Hp.zset_n, List.length_nil, List.length_cons, List.length_append, List.length_map]; (first | done | omega)) | (simp (disch := first | omega | (simp only [Hp.bump_n, Hp.znew_n, Hp.zset_n, List.length_nil, List.length_cons, List.length_append, List.length_map]; (first | done | omega))) only [zheap, h1]; done) | (simp (disch := first | omega | (simp only [Hp.bump_n, Hp.znew_n, Hp.zset_n, List.length_nil, List.length_cons, List.length_append, List.length_map]; (first | done | omega))) only [zheap, h1]; rfl)) only [zall, zopm, zop, zcallOp, qop, qbuiltin, ofOpt, List.map, reduceCtorEq, if_true, if_false, ↓reduceIte, zbin, eqRes, qassert, qnum, qshift, qun, kindOf, allocV, true_and, and_true, and_self, List.nil_append, List.append_nil, List.cons_append, List.length_cons, List.length_nil, Nat.reduceAdd, Nat.reduceEqDiff, Nat.reduceLT, Nat.reduceSub, Nat.reduceMul, Int.reduceToNat, Int.reduceLE, Int.reduceLT, Int.reduceEq, Int.reduceNeg, Int.reduceAdd, Int.reduceSub, Bool.true_and, Bool.and_true, Bool.and_self, Bool.false_and, Bool.and_false, Bool.not_true, Bool.not_false, beq_self_eq_true, cond_true, cond_false, decide_true, decide_false, isConstOpd, xpanic, xconv, isBytes, qconv, List.length_map, List.map_nil, List.map_cons, concrete, Option.some.injEq, exists_eq', Int.toNat_natCast, Option.map_some, Option.map_none, List.getElem?_cons_zero, List.getElem?_cons_succ, zw73, rs73, xc73_z, zw149, qcA_n, qcB_n, qcP_n, qcP_r, qcP_p, qcE_n, qcE_r, tt1, tt4, tt5, tt20, tt44, tt194, ti1, ti4, ti5, ti20, ti44, ti194, t_74, zs_Trap_Fault, zs_Trap_thrown, zs_Rule_machine, h1, h2, hl, h3, h4, hr, resR, hc]))
      obtain ⟨k1, k2⟩ := Mach.run_keeps 64 m m' hr h2.1
      refine shr_set hF hd_h1 (fun k o hk h => by have hd := hF.dom k o h; (try simp (disch := first | assumption | omega | (simp only [Hp.bump_n, Hp.znew_n, Hp.zset_n, List.length_nil, List.length_cons, List.length_append, List.length_map]; (first | done | omega))) only [Hp.bump_get, Hp.get_set_ne, Hp.get_new_ne, Hp.bump_n, Hp.znew_n, Hp.zset_n]); exact h) ⟨_, (by simp (disch := first | assumption | omega | (simp only [Hp.bump_n, Hp.znew_n, Hp.zset_n]; (first | done | omega))) only [zheap, h1]; first | done | rfl), oweak_self fun j hj => hF.lt_obj (.arg (a := CV.fn 74 [CV.ptr i []] []) (by simp) (by simp [CV.has, CV.hasL])) h1 j ?_⟩ (weak_self (lt_of_no (by intro jj; simp [CV.has, CV.hasL, fault, Trap_thrown.nohas, Trap_Fault.nohas, Trap_thrown.nohas])))
      simp only [XObj.has, Rule_machine.has, Rule_Env.has] at hj ⊢
      rw [k2] at hj
      rcases k1 with e | e <;> simp_all
    | error c =>
      simp -dsimp (disch := first | assumption | omega | (simp only [Hp.bump_n, Hp.znew_n, Hp.zset_n, List.length_nil, List.length_cons, List.length_append, List.length_map]; (first | done | omega)) | (simp (disch := first | omega | (simp only [Hp.bump_n, Hp.znew_n, Hp.zset_n, List.length_nil, List.length_cons, List.length_append, List.length_map]; (first | done | omega))) only [zheap, h1]; done) | (simp (disch := first | omega | (simp only [Hp.bump_n, Hp.znew_n, Hp.zset_n, List.length_nil, List.length_cons, List.length_append, List.length_map]; (first | done | omega))) only [zheap, h1]; rfl)) only [zall, zopm, zop, zcallOp, qop, qbuiltin, ofOpt, List.map, reduceCtorEq, if_true, if_false, ↓reduceIte, zbin, eqRes, qassert, qnum, qshift, qun, kindOf, allocV, true_and, and_true, and_self, List.nil_append, List.append_nil, List.cons_append, List.length_cons, List.length_nil, Nat.reduceAdd, Nat.reduceEqDiff, Nat.reduceLT, Nat.reduceSub, Nat.reduceMul, Int.reduceToNat, Int.reduceLE, Int.reduceLT, Int.reduceEq, Int.reduceNeg, Int.reduceAdd, Int.reduceSub, Bool.true_and, Bool.and_true, Bool.and_self, Bool.false_and, Bool.and_false, Bool.not_true, Bool.not_false, beq_self_eq_true, cond_true, cond_false, decide_true, decide_false, isConstOpd, xpanic, xconv, isBytes, qconv, List.length_map, List.map_nil, List.map_cons, concrete, Option.some.injEq, exists_eq', Int.toNat_natCast, Option.map_some, Option.map_none, List.getElem?_cons_zero, List.getElem?_cons_succ, zw73, rs73, xc73_z, zw149, qcA_n, qcB_n, qcP_n, qcP_r, qcP_p, qcE_n, qcE_r, tt1, tt4, tt5, tt20, tt44, tt194, ti1, ti4, ti5, ti20, ti44, ti194, t_74, zs_Trap_Fault, zs_Trap_thrown, zs_Rule_machine, h1, h2, hl, h3, h4, hr, resR, fault]
      repeat' ((first | (refine condW_b ?_ ?_ <;> intro hc) | (refine wantO_s ?_ ?_ <;> intro hc) | (refine wantD_s _ _ _ _ ?_ ?_ <;> intro hc) | (refine bindO_i ?_ ?_ <;> intro hc) | (refine bindE_i _ _ _ _ ?_ ?_ <;> intro hc)) <;> (try simp only [decide_eq_true_eq, decide_eq_false_iff_not, Bool.or_eq_true, Bool.and_eq_true, Bool.not_eq_true, Bool.not_eq_false, Bool.not_not, Bool.not_eq_true', Bool.not_eq_false'] at hc) <;> (try have hw := within_spec hc) <;> (try simp -dsimp (disch := first | assumption | omega | (simp only [Hp.bump_n, Hp.znew_n, Hp.zset_n, List.length_nil, List.length_cons, List.length_append, List.length_map]; (first | done | omega)) | (simp (disch := first | omega | (simp only [Hp.bump_n, Hp.znew_n, Hp.zset_n, List.length_nil, List.length_cons, List.length_append, List.length_map]; (first | done | omega))) only [zheap, h1]; done) | (simp (disch := first | omega | (simp only [Hp.bump_n, Hp.znew_n, Hp.zset_n, List.length_nil, List.length_cons, List.length_append, List.length_map]; (first | done | omega))) only [zheap, h1]; rfl)) only [zall, zopm, zop, zcallOp, qop, qbuiltin, ofOpt, List.map, reduceCtorEq, if_true, if_false, ↓reduceIte, zbin, eqRes, qassert, qnum, qshift, qun, kindOf, allocV, true_and, and_true, and_self, List.nil_append, List.append_nil, List.cons_append, List.length_cons, List.length_nil, Nat.reduceAdd, Nat.reduceEqDiff, Nat.reduceLT, Nat.reduceSub, Nat.reduceMul, Int.reduceToNat, Int.reduceLE, Int.reduceLT, Int.reduceEq, Int.reduceNeg, Int.reduceAdd, Int.reduceSub, Bool.true_and, Bool.and_true, Bool.and_self, Bool.false_and, Bool.and_false, Bool.not_true, Bool.not_false, beq_self_eq_true, cond_true, cond_false, decide_true, decide_false, isConstOpd, xpanic, xconv, isBytes, qconv, List.length_map, List.map_nil, List.map_cons, concrete, Option.some.injEq, exists_eq', Int.toNat_natCast, Option.map_some, Option.map_none, List.getElem?_cons_zero, List.getElem?_cons_succ, zw73, rs73, xc73_z, zw149, qcA_n, qcB_n, qcP_n, qcP_r, qcP_p, qcE_n, qcE_r, tt1, tt4, tt5, tt20, tt44, tt194, ti1, ti4, ti5, ti20, ti44, ti194, t_74, zs_Trap_Fault, zs_Trap_thrown, zs_Rule_machine, h1, h2, hl, h3, h4, hr, resR, fault, hc]))
      exact shr_drop hF (fun k o hk h => by have hd := hF.dom k o h; (try simp (disch := first | assumption | omega | (simp only [Hp.bump_n, Hp.znew_n, Hp.zset_n, List.length_nil, List.length_cons, List.length_append, List.length_map]; (first | done | omega))) only [Hp.bump_get, Hp.get_set_ne, Hp.get_new_ne, Hp.bump_n, Hp.znew_n, Hp.zset_n]); exact h) (weak_self (lt_of_no (by intro jj; simp [CV.has, CV.hasL, fault, Trap_thrown.nohas, Trap_Fault.nohas, Trap_thrown.nohas])))
def R72 : Rel := fun args p r => ∃ (e : Rule_Env), args = [e.cv] ∧ (e.Shots.tl ≠ .view) ∧ (e.Shots.l.length ≤ 1000000) ∧ r = .ret (copiedE e).cv p
theorem t72 {T : XCall} (h : Has T 72 R72) (e : Rule_Env) {p : Hp} (h1 : e.Shots.tl ≠ .view) (h2 : e.Shots.l.length ≤ 1000000) : T 72 [e.cv] p = .ret (copiedE e).cv p := h _ _ _ ⟨e, rfl, h1, h2, rfl⟩
set_option maxHeartbeats 8000000 in
theorem c72 : Con C 72 R72 := by
  refine con_of C ?_ ?_ ?_
  · rintro args p r r' ⟨e, h, h1, h2, e⟩ ⟨e', h', h1', h2', e'⟩
    subst e; subst e'; simp_all [Rule_Env.inj_iff, Api_Body.inj_iff, sl_inj37]
  · rintro args p r ⟨e, h, h1, h2, rfl⟩; first | (split <;> simp; done) | (simp; done) | (simp only [resM]; split <;> simp; done) | (simp only [resD]; split <;> simp; done) 
  · rintro args p r ⟨e, rfl, h1, h2, rfl⟩
    refine ans_walk C false noExt (tabL C [(148, R148)]) xf72 (noExt_ok C) (tabL_ok C _) zc72_ok (Nat.le_of_ble_eq_true (by kernel_rfl)) fun hF => ?_
    have t_148 := @t148 (tabL C [(148, R148)]) (has_head C c148 [])
    generalize tabL C [(148, R148)] = call at t_148 ⊢
    show W C false noExt call zc72 (argE [e.cv]) p (endQ C _ _)
    cases hco : cloneOwn e.Shots
    all_goals simp -dsimp (disch := first | assumption | omega | (simp only [Hp.bump_n, Hp.znew_n, Hp.zset_n, List.length_nil, List.length_cons, List.length_append, List.length_map]; (first | done | omega)) | (simp (disch := first | omega | (simp only [Hp.bump_n, Hp.znew_n, Hp.zset_n, List.length_nil, List.length_cons, List.length_append, List.length_map]; (first | done | omega))) only [zheap]; done) | (simp (disch := first | omega | (simp only [Hp.bump_n, Hp.znew_n, Hp.zset_n, List.length_nil, List.length_cons, List.length_append, List.length_map]; (first | done | omega))) only [zheap]; rfl)) only [zall, zopm, zop, zcallOp, qop, qbuiltin, ofOpt, List.map, reduceCtorEq, if_true, if_false, ↓reduceIte, zbin, eqRes, qassert, qnum, qshift, qun, kindOf, allocV, true_and, and_true, and_self, List.nil_append, List.append_nil, List.cons_append, List.length_cons, List.length_nil, Nat.reduceAdd, Nat.reduceEqDiff, Nat.reduceLT, Nat.reduceSub, Nat.reduceMul, Int.reduceToNat, Int.reduceLE, Int.reduceLT, Int.reduceEq, Int.reduceNeg, Int.reduceAdd, Int.reduceSub, Bool.true_and, Bool.and_true, Bool.and_self, Bool.false_and, Bool.and_false, Bool.not_true, Bool.not_false, beq_self_eq_true, cond_true, cond_false, decide_true, decide_false, isConstOpd, xpanic, xconv, isBytes, qconv, List.length_map, List.map_nil, List.map_cons, concrete, Option.some.injEq, exists_eq', Int.toNat_natCast, Option.map_some, Option.map_none, List.getElem?_cons_zero, List.getElem?_cons_succ, zw72, rs72, tt37, tt39, ti37, ti39, t_148, zs_Rule_Env, zs_Api_Body, zsl37, h1, h2, hco]
    repeat' ((first | (refine condW_b ?_ ?_ <;> intro hc) | (refine wantO_s ?_ ?_ <;> intro hc) | (refine wantD_s _ _ _ _ ?_ ?_ <;> intro hc) | (refine bindO_i ?_ ?_ <;> intro hc) | (refine bindE_i _ _ _ _ ?_ ?_ <;> intro hc)) <;> (try simp only [decide_eq_true_eq, decide_eq_false_iff_not, Bool.or_eq_true, Bool.and_eq_true, Bool.not_eq_true, Bool.not_eq_false, Bool.not_not, Bool.not_eq_true', Bool.not_eq_false'] at hc) <;> (try have hw := within_spec hc) <;> (try simp -dsimp (disch := first | assumption | omega | (simp only [Hp.bump_n, Hp.znew_n, Hp.zset_n, List.length_nil, List.length_cons, List.length_append, List.length_map]; (first | done | omega)) | (simp (disch := first | omega | (simp only [Hp.bump_n, Hp.znew_n, Hp.zset_n, List.length_nil, List.length_cons, List.length_append, List.length_map]; (first | done | omega))) only [zheap]; done) | (simp (disch := first | omega | (simp only [Hp.bump_n, Hp.znew_n, Hp.zset_n, List.length_nil, List.length_cons, List.length_append, List.length_map]; (first | done | omega))) only [zheap]; rfl)) only [zall, zopm, zop, zcallOp, qop, qbuiltin, ofOpt, List.map, reduceCtorEq, if_true, if_false, ↓reduceIte, zbin, eqRes, qassert, qnum, qshift, qun, kindOf, allocV, true_and, and_true, and_self, List.nil_append, List.append_nil, List.cons_append, List.length_cons, List.length_nil, Nat.reduceAdd, Nat.reduceEqDiff, Nat.reduceLT, Nat.reduceSub, Nat.reduceMul, Int.reduceToNat, Int.reduceLE, Int.reduceLT, Int.reduceEq, Int.reduceNeg, Int.reduceAdd, Int.reduceSub, Bool.true_and, Bool.and_true, Bool.and_self, Bool.false_and, Bool.and_false, Bool.not_true, Bool.not_false, beq_self_eq_true, cond_true, cond_false, decide_true, decide_false, isConstOpd, xpanic, xconv, isBytes, qconv, List.length_map, List.map_nil, List.map_cons, concrete, Option.some.injEq, exists_eq', Int.toNat_natCast, Option.map_some, Option.map_none, List.getElem?_cons_zero, List.getElem?_cons_succ, zw72, rs72, tt37, tt39, ti37, ti39, t_148, zs_Rule_Env, zs_Api_Body, zsl37, h1, h2, hco, hc]))
    all_goals
      refine shr_keep hF (fun k o h => by have hd := hF.dom k o h; (try simp (disch := first | assumption | omega | (simp only [Hp.bump_n, Hp.znew_n, Hp.zset_n, List.length_nil, List.length_cons, List.length_append, List.length_map]; (first | done | omega))) only [Hp.bump_get, Hp.get_set_ne, Hp.get_new_ne, Hp.bump_n, Hp.znew_n, Hp.zset_n]); exact h) ?_
      have h1 : CV.weak (fun k => k) p.n e.Body.cv e.Body.cv := weak_self (lt_of_no (Api_Body.nohas _))
      have h2 : CV.weak (fun k => k) p.n e.In.cv e.In.cv := weak_self (lt_of_no (Api_Input.nohas _))
      have h5 := weak_clone Api_Body.nohas e.Shots (p.n + 1 + 1) p.n
      simp only [copiedE, Rule_Env.cv, CV.weak, CV.weakL]
      exact ⟨h1, h2, trivial, trivial, h5, trivial⟩
def R25 : Rel := fun args p r => ∃ (l : Lst Api_Op) (e : Rule_Env), args = [l.cv Api_Op.cv, e.cv] ∧ (l.l.length ≤ 100000) ∧ (e.Shots.tl ≠ .view) ∧ (e.Shots.l.length ≤ 100000) ∧ r = .ret (.tup [(ruleRun l e).1.cv, (ruleRun l e).2.1.cv, Bo (ruleRun l e).2.2]) p
theorem t25 {T : XCall} (h : Has T 25 R25) (l : Lst Api_Op) (e : Rule_Env) {p : Hp} (hl : l.l.length ≤ 100000) (h1 : e.Shots.tl ≠ .view) (h2 : e.Shots.l.length ≤ 100000) : T 25 [l.cv Api_Op.cv, e.cv] p = .ret (.tup [(ruleRun l e).1.cv, (ruleRun l e).2.1.cv, Bo (ruleRun l e).2.2]) p := h _ _ _ ⟨l, e, rfl, hl, h1, h2, rfl⟩
set_option maxHeartbeats 8000000 in
theorem c25 : Con C 25 R25 := by
  refine con_of C ?_ ?_ ?_
  · rintro args p r r' ⟨l, e, h, hl, h1, h2, e⟩ ⟨l', e', h', hl', h1', h2', e'⟩
    subst e; subst e'; simp_all [Rule_machine.inj_iff, Rule_Env.inj_iff, Api_Body.inj_iff, Trap_Fault.inj_iff, sl_inj23]
  · rintro args p r ⟨l, e, h, hl, h1, h2, rfl⟩; first | (split <;> simp; done) | (simp; done) | (simp only [resM]; split <;> simp; done) | (simp only [resD]; split <;> simp; done) 
  · rintro args p r ⟨l, e, rfl, hl, h1, h2, rfl⟩
    refine ans_walk C false noExt (tabL C [(24, R24), (72, R72), (73, R73)]) xf25 (noExt_ok C) (tabL_ok C _) zc25_ok (Nat.le_of_ble_eq_true (by kernel_rfl)) fun hF => ?_
    have t_24 := @t24 (tabL C [(24, R24), (72, R72), (73, R73)]) (has_head C c24 [(72, R72), (73, R73)])
    have t_72 := @t72 (tabL C [(24, R24), (72, R72), (73, R73)]) (has_tail C _ rfl (has_head C c72 [(73, R73)]))
    have t_73 := @t73 (tabL C [(24, R24), (72, R72), (73, R73)]) (has_tail C _ rfl (has_tail C _ rfl (has_head C c73 [])))
    generalize tabL C [(24, R24), (72, R72), (73, R73)] = call at t_24 t_72 t_73 ⊢
    show W C false noExt call zc25 (argE [l.cv Api_Op.cv, e.cv]) p (endQ C _ _)
    have hv : (copiedE e).Shots.tl ≠ .view := cloneP_nv e.Shots
    have hv2 : (copiedE e).Shots.l.length ≤ 100000 := by show (cloneP e.Shots).l.length ≤ _; rw [cloneP_l]; exact h2
    have hn : ∀ j, ¬ (copiedE e).cv.has j := fun j h => cloneP_no e.Shots j ((Rule_Env.has _ j).1 h)
    cases hr : Mach.run 64 ⟨copiedE e, l, 0⟩ with
    | error c =>
      simp -dsimp (disch := first | assumption | omega | (simp only [Hp.bump_n, Hp.znew_n, Hp.zset_n, List.length_nil, List.length_cons, List.length_append, List.length_map, cloneP_l]; (first | done | omega)) | (simp (disch := first | omega | (simp only [Hp.bump_n, Hp.znew_n, Hp.zset_n, List.length_nil, List.length_cons, List.length_append, List.length_map, cloneP_l]; (first | done | omega))) only [zheap]; done) | (simp (disch := first | omega | (simp only [Hp.bump_n, Hp.znew_n, Hp.zset_n, List.length_nil, List.length_cons, List.length_append, List.length_map, cloneP_l]; (first | done | omega))) only [zheap]; rfl)) only [zall, zopm, zop, zcallOp, qop, qbuiltin, ofOpt, List.map, reduceCtorEq, if_true, if_false, ↓reduceIte, zbin, eqRes, qassert, qnum, qshift, qun, kindOf, allocV, true_and, and_true, and_self, List.nil_append, List.append_nil, List.cons_append, List.length_cons, List.length_nil, Nat.reduceAdd, Nat.reduceEqDiff, Nat.reduceLT, Nat.reduceSub, Nat.reduceMul, Int.reduceToNat, Int.reduceLE, Int.reduceLT, Int.reduceEq, Int.reduceNeg, Int.reduceAdd, Int.reduceSub, Bool.true_and, Bool.and_true, Bool.and_self, Bool.false_and, Bool.and_false, Bool.not_true, Bool.not_false, beq_self_eq_true, cond_true, cond_false, decide_true, decide_false, isConstOpd, xpanic, xconv, isBytes, qconv, List.length_map, List.map_nil, List.map_cons, concrete, Option.some.injEq, exists_eq', Int.toNat_natCast, Option.map_some, Option.map_none, List.getElem?_cons_zero, List.getElem?_cons_succ, zw25, rs25, tt3, tt34, tt39, tt44, tt131, ti3, ti34, ti39, ti44, ti131, t_24, t_72, t_73, zs_Rule_machine, zs_Rule_Env, zs_Api_Body, zs_Trap_Fault, hl, h1, h2, hr, resC]
      repeat' ((first | (refine condW_b ?_ ?_ <;> intro hc) | (refine wantO_s ?_ ?_ <;> intro hc) | (refine wantD_s _ _ _ _ ?_ ?_ <;> intro hc) | (refine bindO_i ?_ ?_ <;> intro hc) | (refine bindE_i _ _ _ _ ?_ ?_ <;> intro hc)) <;> (try simp only [decide_eq_true_eq, decide_eq_false_iff_not, Bool.or_eq_true, Bool.and_eq_true, Bool.not_eq_true, Bool.not_eq_false, Bool.not_not, Bool.not_eq_true', Bool.not_eq_false'] at hc) <;> (try have hw := within_spec hc) <;> (try simp -dsimp (disch := first | assumption | omega | (simp only [Hp.bump_n, Hp.znew_n, Hp.zset_n, List.length_nil, List.length_cons, List.length_append, List.length_map, cloneP_l]; (first | done | omega)) | (simp (disch := first | omega | (simp only [Hp.bump_n, Hp.znew_n, Hp.zset_n, List.length_nil, List.length_cons, List.length_append, List.length_map, cloneP_l]; (first | done | omega))) only [zheap]; done) | (simp (disch := first | omega | (simp only [Hp.bump_n, Hp.znew_n, Hp.zset_n, List.length_nil, List.length_cons, List.length_append, List.length_map, cloneP_l]; (first | done | omega))) only [zheap]; rfl)) only [zall, zopm, zop, zcallOp, qop, qbuiltin, ofOpt, List.map, reduceCtorEq, if_true, if_false, ↓reduceIte, zbin, eqRes, qassert, qnum, qshift, qun, kindOf, allocV, true_and, and_true, and_self, List.nil_append, List.append_nil, List.cons_append, List.length_cons, List.length_nil, Nat.reduceAdd, Nat.reduceEqDiff, Nat.reduceLT, Nat.reduceSub, Nat.reduceMul, Int.reduceToNat, Int.reduceLE, Int.reduceLT, Int.reduceEq, Int.reduceNeg, Int.reduceAdd, Int.reduceSub, Bool.true_and, Bool.and_true, Bool.and_self, Bool.false_and, Bool.and_false, Bool.not_true, Bool.not_false, beq_self_eq_true, cond_true, cond_false, decide_true, decide_false, isConstOpd, xpanic, xconv, isBytes, qconv, List.length_map, List.map_nil, List.map_cons, concrete, Option.some.injEq, exists_eq', Int.toNat_natCast, Option.map_some, Option.map_none, List.getElem?_cons_zero, List.getElem?_cons_succ, zw25, rs25, tt3, tt34, tt39, tt44, tt131, ti3, ti34, ti39, ti44, ti131, t_24, t_72, t_73, zs_Rule_machine, zs_Rule_Env, zs_Api_Body, zs_Trap_Fault, hl, h1, h2, hr, resC, hc]))
      all_goals
        simp [ruleRun, *]
        refine shr_keep hF (fun k o h => by have hd := hF.dom k o h; (try simp (disch := first | assumption | omega | (simp only [Hp.bump_n, Hp.znew_n, Hp.zset_n, List.length_nil, List.length_cons, List.length_append, List.length_map]; (first | done | omega))) only [Hp.bump_get, Hp.get_set_ne, Hp.get_new_ne, Hp.bump_n, Hp.znew_n, Hp.zset_n]); exact h) (weak_self (lt_of_no fun j hj => ?_))
        simp [CV.has, CV.hasL, Trap_Fault.nohas] at hj
        exact hn j hj
    | ok m' =>
      have hn' : ∀ j, ¬ m'.e_.cv.has j := fun j h => by
        have h := (Rule_Env.has _ j).1 h
        rcases (Mach.run_keeps 64 _ m' hr (Int.le_refl _)).1 with k | k
        · rw [k] at h; exact cloneP_no e.Shots j h
        · rw [k] at h; cases h
      simp -dsimp (disch := first | assumption | omega | (simp only [Hp.bump_n, Hp.znew_n, Hp.zset_n, List.length_nil, List.length_cons, List.length_append, List.length_map, cloneP_l]; (first | done | omega)) | (simp (disch := first | omega | (simp only [Hp.bump_n, Hp.znew_n, Hp.zset_n, List.length_nil, List.length_cons, List.length_append, List.length_map, cloneP_l]; (first | done | omega))) only [zheap]; done) | (simp (disch := first | omega | (simp only [Hp.bump_n, Hp.znew_n, Hp.zset_n, List.length_nil, List.length_cons, List.length_append, List.length_map, cloneP_l]; (first | done | omega))) only [zheap]; rfl)) only [zall, zopm, zop, zcallOp, qop, qbuiltin, ofOpt, List.map, reduceCtorEq, if_true, if_false, ↓reduceIte, zbin, eqRes, qassert, qnum, qshift, qun, kindOf, allocV, true_and, and_true, and_self, List.nil_append, List.append_nil, List.cons_append, List.length_cons, List.length_nil, Nat.reduceAdd, Nat.reduceEqDiff, Nat.reduceLT, Nat.reduceSub, Nat.reduceMul, Int.reduceToNat, Int.reduceLE, Int.reduceLT, Int.reduceEq, Int.reduceNeg, Int.reduceAdd, Int.reduceSub, Bool.true_and, Bool.and_true, Bool.and_self, Bool.false_and, Bool.and_false, Bool.not_true, Bool.not_false, beq_self_eq_true, cond_true, cond_false, decide_true, decide_false, isConstOpd, xpanic, xconv, isBytes, qconv, List.length_map, List.map_nil, List.map_cons, concrete, Option.some.injEq, exists_eq', Int.toNat_natCast, Option.map_some, Option.map_none, List.getElem?_cons_zero, List.getElem?_cons_succ, zw25, rs25, tt3, tt34, tt39, tt44, tt131, ti3, ti34, ti39, ti44, ti131, t_24, t_72, t_73, zs_Rule_machine, zs_Rule_Env, zs_Api_Body, zs_Trap_Fault, hl, h1, h2, hr, resC]
      repeat' ((first | (refine condW_b ?_ ?_ <;> intro hc) | (refine wantO_s ?_ ?_ <;> intro hc) | (refine wantD_s _ _ _ _ ?_ ?_ <;> intro hc) | (refine bindO_i ?_ ?_ <;> intro hc) | (refine bindE_i _ _ _ _ ?_ ?_ <;> intro hc)) <;> (try simp only [decide_eq_true_eq, decide_eq_false_iff_not, Bool.or_eq_true, Bool.and_eq_true, Bool.not_eq_true, Bool.not_eq_false, Bool.not_not, Bool.not_eq_true', Bool.not_eq_false'] at hc) <;> (try have hw := within_spec hc) <;> (try simp -dsimp (disch := first | assumption | omega | (simp only [Hp.bump_n, Hp.znew_n, Hp.zset_n, List.length_nil, List.length_cons, List.length_append, List.length_map, cloneP_l]; (first | done | omega)) | (simp (disch := first | omega | (simp only [Hp.bump_n, Hp.znew_n, Hp.zset_n, List.length_nil, List.length_cons, List.length_append, List.length_map, cloneP_l]; (first | done | omega))) only [zheap]; done) | (simp (disch := first | omega | (simp only [Hp.bump_n, Hp.znew_n, Hp.zset_n, List.length_nil, List.length_cons, List.length_append, List.length_map, cloneP_l]; (first | done | omega))) only [zheap]; rfl)) only [zall, zopm, zop, zcallOp, qop, qbuiltin, ofOpt, List.map, reduceCtorEq, if_true, if_false, ↓reduceIte, zbin, eqRes, qassert, qnum, qshift, qun, kindOf, allocV, true_and, and_true, and_self, List.nil_append, List.append_nil, List.cons_append, List.length_cons, List.length_nil, Nat.reduceAdd, Nat.reduceEqDiff, Nat.reduceLT, Nat.reduceSub, Nat.reduceMul, Int.reduceToNat, Int.reduceLE, Int.reduceLT, Int.reduceEq, Int.reduceNeg, Int.reduceAdd, Int.reduceSub, Bool.true_and, Bool.and_true, Bool.and_self, Bool.false_and, Bool.and_false, Bool.not_true, Bool.not_false, beq_self_eq_true, cond_true, cond_false, decide_true, decide_false, isConstOpd, xpanic, xconv, isBytes, qconv, List.length_map, List.map_nil, List.map_cons, concrete, Option.some.injEq, exists_eq', Int.toNat_natCast, Option.map_some, Option.map_none, List.getElem?_cons_zero, List.getElem?_cons_succ, zw25, rs25, tt3, tt34, tt39, tt44, tt131, ti3, ti34, ti39, ti44, ti131, t_24, t_72, t_73, zs_Rule_machine, zs_Rule_Env, zs_Api_Body, zs_Trap_Fault, hl, h1, h2, hr, resC, hc]))
      all_goals
        simp [ruleRun, *]
        refine shr_keep hF (fun k o h => by have hd := hF.dom k o h; (try simp (disch := first | assumption | omega | (simp only [Hp.bump_n, Hp.znew_n, Hp.zset_n, List.length_nil, List.length_cons, List.length_append, List.length_map]; (first | done | omega))) only [Hp.bump_get, Hp.get_set_ne, Hp.get_new_ne, Hp.bump_n, Hp.znew_n, Hp.zset_n]); exact h) (weak_self (lt_of_no fun j hj => ?_))
        simp [CV.has, CV.hasL, Trap_Fault.nohas] at hj
        first | exact hn j hj | exact hn' j hj
end Go.Proofs.Ytpchcfkebljopaa
end
section
namespace Go.Proofs.Ytpchcfkebljopaa
open Go.Cl Go Go.RowKit
set_option maxRecDepth 100000
noncomputable def zn70_1 : ZC := ZC.reg [⟨some 0, .alloc 39, none, true⟩]
noncomputable def zn70_3 : ZC := ZC.reg [⟨some 1, .call ⟨.value (.func 64), ⟨[.const (.int .i64 0), .const (.int .i64 1)]⟩, ⟨[3, 3]⟩⟩, none, false⟩, ⟨some 2, .build 36 ⟨[(0, .const (.int .i64 3)), (1, .const (.int .i64 (-64))), (2, .const (.int .i64 7))]⟩, none, false⟩, ⟨some 3, .build 39 ⟨[(0, .tmp 1), (1, .tmp 2), (2, .const (.int .u64 5)), (3, .const (.int .i64 2))]⟩, none, false⟩, ⟨none, .store 39 (.tmp 0) (.tmp 3), none, true⟩]
noncomputable def zn70_2 : ZC := ZC.seq zn70_3 ZC.ret
noncomputable def zn70_0 : ZC := ZC.seq zn70_1 zn70_2
noncomputable def zc70 : ZC := zn70_0
theorem zc70_ok : zcode (xfOf Try.f70).code = some zc70 := by kernel_rfl
set_option linter.defProp false in
def zw70 := And.intro (zunf C zc70.eq_1) <| And.intro (zunf C zn70_1.eq_1) <| And.intro (zunf C zn70_3.eq_1) <| And.intro (zunf C zn70_2.eq_1) <| (zunf C zn70_0.eq_1)
theorem rs70 : (xfOf Try.f70).rs = [.cell 0 39] := by kernel_rfl
theorem xf70 : XFok C 70 (xfOf Try.f70) := ⟨Try.f70, by kernel_rfl, by kernel_rfl, by kernel_rfl, by kernel_rfl, by kernel_rfl, by kernel_rfl, by kernel_rfl⟩
noncomputable def zn23_1 : ZC := ZC.reg [⟨some 0, .assign (.const (.bool false)), none, true⟩]
noncomputable def zn23_3 : ZC := ZC.reg [⟨some 8, .build 29 ⟨[(0, .const (.int .i64 6))]⟩, none, false⟩, ⟨some 9, .buildSlice 23 1 ⟨[(0, .tmp 8)]⟩, none, false⟩, ⟨some 10, .call ⟨.value (.func 70), ⟨[]⟩, ⟨[]⟩⟩, none, false⟩, ⟨some 11, .call ⟨.value (.func 25), ⟨[.tmp 9, .tmp 10]⟩, ⟨[23, 39]⟩⟩, none, false⟩, ⟨some 7, .move (.tmp 11), none, false⟩, ⟨some 12, .extract (.tmp 7) 0, none, false⟩, ⟨some 13, .extract (.tmp 7) 1, none, false⟩, ⟨some 14, .extract (.tmp 7) 2, none, false⟩, ⟨some 1, .alloc 39, none, false⟩, ⟨some 2, .alloc 44, none, false⟩, ⟨none, .store 39 (.tmp 1) (.tmp 12), none, false⟩, ⟨none, .store 44 (.tmp 2) (.tmp 13), none, false⟩, ⟨some 3, .assign (.tmp 14), none, true⟩]
noncomputable def zn23_5 : ZC := ZC.reg [⟨some 16, .build 29 ⟨[(0, .const (.int .i64 1)), (1, .const (.int .i64 1)), (2, .const (.int .i64 5))]⟩, none, false⟩, ⟨some 17, .build 29 ⟨[(0, .const (.int .i64 3)), (1, .const (.int .i64 1)), (2, .const (.int .i64 1))]⟩, none, false⟩, ⟨some 18, .buildSlice 23 2 ⟨[(0, .tmp 16), (1, .tmp 17)]⟩, none, false⟩, ⟨some 19, .call ⟨.value (.func 70), ⟨[]⟩, ⟨[]⟩⟩, none, false⟩, ⟨some 20, .call ⟨.value (.func 25), ⟨[.tmp 18, .tmp 19]⟩, ⟨[23, 39]⟩⟩, none, false⟩, ⟨some 15, .move (.tmp 20), none, false⟩, ⟨some 21, .extract (.tmp 15) 0, none, false⟩, ⟨some 22, .extract (.tmp 15) 1, none, false⟩, ⟨some 23, .extract (.tmp 15) 2, none, false⟩, ⟨some 4, .alloc 39, none, false⟩, ⟨some 5, .alloc 44, none, false⟩, ⟨none, .store 39 (.tmp 4) (.tmp 21), none, false⟩, ⟨none, .store 44 (.tmp 5) (.tmp 22), none, false⟩, ⟨some 6, .assign (.tmp 23), none, true⟩]
noncomputable def zn23_7 : ZC := ZC.reg [⟨some 24, .move (.tmp 3), none, false⟩, ⟨some 25, .unOp .not 4 (.tmp 24), none, false⟩, ⟨some 26, .move (.tmp 25), none, false⟩, ⟨some 27, .load 44 (.tmp 2), some (26, true), false⟩, ⟨some 28, .build 44 ⟨[(0, .const (.int .i64 1))]⟩, some (26, true), false⟩, ⟨some 29, .binOp .eql 44 (.tmp 27) (.tmp 28) 44, some (26, true), false⟩, ⟨some 30, .pick (.tmp 26) (.tmp 29) (.const (.bool false)), none, false⟩, ⟨some 31, .move (.tmp 30), none, false⟩, ⟨some 32, .move (.tmp 6), some (31, true), false⟩, ⟨some 33, .pick (.tmp 31) (.tmp 32) (.const (.bool false)), none, false⟩, ⟨some 34, .move (.tmp 33), none, false⟩, ⟨some 35, .fieldAddr 39 (.tmp 4) 0, some (34, true), false⟩, ⟨some 36, .fieldAddr 34 (.tmp 35) 7, some (34, true), false⟩, ⟨some 37, .indexAddr 32 (.tmp 36) (.const (.int .i64 1)), some (34, true), false⟩, ⟨some 38, .load 3 (.tmp 37), some (34, true), false⟩, ⟨some 39, .binOp .eql 3 (.tmp 38) (.const (.int .i64 10)) 3, some (34, true), false⟩, ⟨some 40, .pick (.tmp 34) (.tmp 39) (.const (.bool false)), none, false⟩, ⟨some 0, .assign (.tmp 40), none, true⟩]
noncomputable def zn23_6 : ZC := ZC.seq zn23_7 ZC.ret
noncomputable def zn23_4 : ZC := ZC.seq zn23_5 zn23_6
noncomputable def zn23_2 : ZC := ZC.seq zn23_3 zn23_4
noncomputable def zn23_0 : ZC := ZC.seq zn23_1 zn23_2
noncomputable def zc23 : ZC := zn23_0
theorem zc23_ok : zcode (xfOf Try.f23).code = some zc23 := by kernel_rfl
set_option linter.defProp false in
def zw23 := And.intro (zunf C zc23.eq_1) <| And.intro (zunf C zn23_1.eq_1) <| And.intro (zunf C zn23_3.eq_1) <| And.intro (zunf C zn23_5.eq_1) <| And.intro (zunf C zn23_7.eq_1) <| And.intro (zunf C zn23_6.eq_1) <| And.intro (zunf C zn23_4.eq_1) <| And.intro (zunf C zn23_2.eq_1) <| (zunf C zn23_0.eq_1)
theorem rs23 : (xfOf Try.f23).rs = [.tmp 0] := by kernel_rfl
theorem xf23 : XFok C 23 (xfOf Try.f23) := ⟨Try.f23, by kernel_rfl, by kernel_rfl, by kernel_rfl, by kernel_rfl, by kernel_rfl, by kernel_rfl, by kernel_rfl⟩
end Go.Proofs.Ytpchcfkebljopaa
end
section
namespace Go.Proofs.Ytpchcfkebljopaa
open Go.Cl Go Go.RowKit
def pick (n m : Int) : Int := if n.tmod m < 0 then n.tmod m + m else n.tmod m
theorem pick_range {n m : Int} (h : 0 < m) : 0 ≤ pick n m ∧ pick n m < m := by
  unfold pick
  have h1 := Int.tmod_lt_of_pos n h
  have h2 : -m < n.tmod m := by
    have := Int.lt_tmod_of_pos n h
    omega
  split <;> omega
def bodyBorn (owner players : Int) : Api_Body :=
  { Api_Body.zero with Kind := 1, Owner := brought owner 0 (brought players 1 8 - 1), X := w64 (((2 * brought owner 0 (brought players 1 8 - 1) + 1) * 4096).tdiv (2 * brought players 1 8)), Y := 2048 }
def handInput (n m : Int) : Api_Input := ⟨pick n 256, w64 (pick m 129 - 64), w64 (pick (w64 (m.tdiv 129)) 129 - 64)⟩
def handOp (x : Hand_RawOp) : Api_Op :=
  let c := w64 (1 + pick x.Code 13)
  let b := if c = 1 then w64 (pick x.B 90 - 30) else if c = 7 then pick x.B 8 else if c = 9 ∨ c = 10 then pick x.B 9 else pick x.B 4
  let k := pick x.Code 101
  if k = 97 then ⟨c, x.A, b⟩ else if k = 98 then ⟨c, pick x.A 4, x.B⟩ else if k = 99 then ⟨x.B, pick x.A 4, b⟩ else if k = 100 then ⟨c, pick x.A 9, b⟩ else ⟨c, pick x.A 4, b⟩
def memVal (v : Int) : Int := if v.tmod 9 = 8 then w64 (pick v 2000001 - 1000000) else w64 (pick v 41 - 20)
def memN (l : List Int) : Nat → Api_Body → Api_Body
  | 0, b => b
  | k + 1, b => (memN l k b).put_7k k (memVal (nth l k))
def envOf (x : Law12_RawEnv) : Rule_Env :=
  let b := bodyBorn (pick x.X 4) 4
  let b := { b with X := pick x.X 4096, Y := pick x.Y 4096, VX := w64 (pick x.VX 129 - 64) }
  let b := memN x.Mem.l (min x.Mem.l.length 4) b
  { Rule_Env.zero with Body := if x.Bend.tmod 23 = 22 then { b with Y := x.Y } else b, In := handInput x.Buttons x.StickX, Dice := x.Dice, Room := pick x.Room 8 }
def env0 : Rule_Env := { Rule_Env.zero with Body := bodyBorn 0 1, In := ⟨3, -64, 7⟩, Dice := 5, Room := 2 }
def sameE (a b : Rule_Env) : Bool := decide (a.Body = b.Body) && decide (a.In = b.In) && decide (a.Dice = b.Dice) && decide (a.Room = b.Room) && decide (a.Shots.l = b.Shots.l)
end Go.Proofs.Ytpchcfkebljopaa
end
section
namespace Go.Proofs.Ytpchcfkebljopaa
open Go.Cl Go Go.RowKit
set_option maxRecDepth 100000
set_option linter.constructorNameAsVariable false
def R37 : Rel := fun args p r => ∃ (n m : Int), args = [I n, I m] ∧ (0 < m) ∧ (m ≤ 9223372036854775807) ∧ r = .ret (I (pick n m)) p
theorem t37 {T : XCall} (h : Has T 37 R37) (n m : Int) {p : Hp} (h1 : 0 < m) (h2 : m ≤ 9223372036854775807) : T 37 [I n, I m] p = .ret (I (pick n m)) p := h _ _ _ ⟨n, m, rfl, h1, h2, rfl⟩
set_option maxHeartbeats 8000000 in
theorem c37 : Con C 37 R37 := by
  refine con_of C ?_ ?_ ?_
  · rintro args p r r' ⟨n, m, h, h1, h2, e⟩ ⟨n', m', h', h1', h2', e'⟩
    subst e; subst e'; simp_all
  · rintro args p r ⟨n, m, h, h1, h2, rfl⟩; first | (split <;> simp; done) | (simp; done) | (simp only [resM]; split <;> simp; done) | (simp only [resD]; split <;> simp; done) 
  · rintro args p r ⟨n, m, rfl, h1, h2, rfl⟩
    refine ans_walk C false noExt (tabL C []) xf37 (noExt_ok C) (tabL_ok C _) zc37_ok (Nat.le_of_ble_eq_true (by kernel_rfl)) fun hF => ?_
    generalize tabL C [] = call
    show W C false noExt call zc37 (argE [I n, I m]) p (endQ C _ _)
    have hm := Int.tmod_lt_of_pos n h1
    have hm2 := Int.lt_tmod_of_pos n h1
    simp -dsimp (disch := first | assumption | omega | (simp only [Hp.bump_n, Hp.znew_n, Hp.zset_n, List.length_nil, List.length_cons, List.length_append, List.length_map]; (first | done | omega)) | (simp (disch := first | omega | (simp only [Hp.bump_n, Hp.znew_n, Hp.zset_n, List.length_nil, List.length_cons, List.length_append, List.length_map]; (first | done | omega))) only [zheap]; done) | (simp (disch := first | omega | (simp only [Hp.bump_n, Hp.znew_n, Hp.zset_n, List.length_nil, List.length_cons, List.length_append, List.length_map]; (first | done | omega))) only [zheap]; rfl)) only [zall, zopm, zop, zcallOp, qop, qbuiltin, ofOpt, List.map, reduceCtorEq, if_true, if_false, ↓reduceIte, zbin, eqRes, qassert, qnum, qshift, qun, kindOf, allocV, true_and, and_true, and_self, List.nil_append, List.append_nil, List.cons_append, List.length_cons, List.length_nil, Nat.reduceAdd, Nat.reduceEqDiff, Nat.reduceLT, Nat.reduceSub, Nat.reduceMul, Int.reduceToNat, Int.reduceLE, Int.reduceLT, Int.reduceEq, Int.reduceNeg, Int.reduceAdd, Int.reduceSub, Bool.true_and, Bool.and_true, Bool.and_self, Bool.false_and, Bool.and_false, Bool.not_true, Bool.not_false, beq_self_eq_true, cond_true, cond_false, decide_true, decide_false, isConstOpd, xpanic, xconv, isBytes, qconv, List.length_map, List.map_nil, List.map_cons, concrete, Option.some.injEq, exists_eq', Int.toNat_natCast, Option.map_some, Option.map_none, List.getElem?_cons_zero, List.getElem?_cons_succ, zw37, rs37, tt3, ti3, h1, h2]
    repeat' ((first | (refine condW_b ?_ ?_ <;> intro hc) | (refine wantO_s ?_ ?_ <;> intro hc) | (refine wantD_s _ _ _ _ ?_ ?_ <;> intro hc) | (refine bindO_i ?_ ?_ <;> intro hc) | (refine bindE_i _ _ _ _ ?_ ?_ <;> intro hc)) <;> (try simp only [decide_eq_true_eq, decide_eq_false_iff_not, Bool.or_eq_true, Bool.and_eq_true, Bool.not_eq_true, Bool.not_eq_false, Bool.not_not, Classical.not_not, Int.not_le, Int.not_lt, Bool.not_eq_true', Bool.not_eq_false'] at hc) <;> (try have hw := within_spec hc) <;> (try simp -dsimp (disch := first | assumption | omega | (simp only [Hp.bump_n, Hp.znew_n, Hp.zset_n, List.length_nil, List.length_cons, List.length_append, List.length_map]; (first | done | omega)) | (simp (disch := first | omega | (simp only [Hp.bump_n, Hp.znew_n, Hp.zset_n, List.length_nil, List.length_cons, List.length_append, List.length_map]; (first | done | omega))) only [zheap]; done) | (simp (disch := first | omega | (simp only [Hp.bump_n, Hp.znew_n, Hp.zset_n, List.length_nil, List.length_cons, List.length_append, List.length_map]; (first | done | omega))) only [zheap]; rfl)) only [zall, zopm, zop, zcallOp, qop, qbuiltin, ofOpt, List.map, reduceCtorEq, if_true, if_false, ↓reduceIte, zbin, eqRes, qassert, qnum, qshift, qun, kindOf, allocV, true_and, and_true, and_self, List.nil_append, List.append_nil, List.cons_append, List.length_cons, List.length_nil, Nat.reduceAdd, Nat.reduceEqDiff, Nat.reduceLT, Nat.reduceSub, Nat.reduceMul, Int.reduceToNat, Int.reduceLE, Int.reduceLT, Int.reduceEq, Int.reduceNeg, Int.reduceAdd, Int.reduceSub, Bool.true_and, Bool.and_true, Bool.and_self, Bool.false_and, Bool.and_false, Bool.not_true, Bool.not_false, beq_self_eq_true, cond_true, cond_false, decide_true, decide_false, isConstOpd, xpanic, xconv, isBytes, qconv, List.length_map, List.map_nil, List.map_cons, concrete, Option.some.injEq, exists_eq', Int.toNat_natCast, Option.map_some, Option.map_none, List.getElem?_cons_zero, List.getElem?_cons_succ, zw37, rs37, tt3, ti3, h1, h2, hc]))
    all_goals refine shr_keep hF (fun k o h => by have hd := hF.dom k o h; (try simp (disch := first | assumption | omega | (simp only [Hp.bump_n, Hp.znew_n, Hp.zset_n, List.length_nil, List.length_cons, List.length_append, List.length_map]; (first | done | omega))) only [Hp.bump_get, Hp.get_set_ne, Hp.get_new_ne, Hp.bump_n, Hp.znew_n, Hp.zset_n]); exact h) (weak_of_eq ?_ (lt_of_no (by intro jj; simp [CV.has, CV.hasL, fault, Trap_thrown.nohas])))
    all_goals (simp [pick, hc] <;> omega)
def R64 : Rel := fun args p r => ∃ (o k : Int), args = [I o, I k] ∧ r = .ret (bodyBorn o k).cv p
theorem t64 {T : XCall} (h : Has T 64 R64) (o k : Int) {p : Hp}  : T 64 [I o, I k] p = .ret (bodyBorn o k).cv p := h _ _ _ ⟨o, k, rfl, rfl⟩
set_option maxHeartbeats 8000000 in
theorem c64 : Con C 64 R64 := by
  refine con_of C ?_ ?_ ?_
  · rintro args p r r' ⟨o, k, h, e⟩ ⟨o', k', h', e'⟩
    subst e; subst e'; simp_all [Api_Body.inj_iff]
  · rintro args p r ⟨o, k, h, rfl⟩; first | (split <;> simp; done) | (simp; done) | (simp only [resM]; split <;> simp; done) | (simp only [resD]; split <;> simp; done) 
  · rintro args p r ⟨o, k, rfl, rfl⟩
    refine ans_walk C false noExt (tabL C [(140, R140)]) xf64 (noExt_ok C) (tabL_ok C _) zc64_ok (Nat.le_of_ble_eq_true (by kernel_rfl)) fun hF => ?_
    have t_140 := @t140 (tabL C [(140, R140)]) (has_head C c140 [])
    generalize tabL C [(140, R140)] = call at t_140 ⊢
    show W C false noExt call zc64 (argE [I o, I k]) p (endQ C _ _)
    have h1 : 1 ≤ brought k 1 8 ∧ brought k 1 8 ≤ 8 := by unfold brought; omega
    have h2 : 0 ≤ brought o 0 (brought k 1 8 - 1) ∧ brought o 0 (brought k 1 8 - 1) ≤ 7 := by
      have : ∀ a b : Int, 0 ≤ b → b ≤ 7 → 0 ≤ brought a 0 b ∧ brought a 0 b ≤ 7 := by intro a b _ _; unfold brought; omega
      exact this _ _ (by omega) (by omega)
    simp -dsimp (disch := first | assumption | omega | (simp only [Hp.bump_n, Hp.znew_n, Hp.zset_n, List.length_nil, List.length_cons, List.length_append, List.length_map]; (first | done | omega)) | (simp (disch := first | omega | (simp only [Hp.bump_n, Hp.znew_n, Hp.zset_n, List.length_nil, List.length_cons, List.length_append, List.length_map]; (first | done | omega))) only [zheap]; done) | (simp (disch := first | omega | (simp only [Hp.bump_n, Hp.znew_n, Hp.zset_n, List.length_nil, List.length_cons, List.length_append, List.length_map]; (first | done | omega))) only [zheap]; rfl)) only [zall, zopm, zop, zcallOp, qop, qbuiltin, ofOpt, List.map, reduceCtorEq, if_true, if_false, ↓reduceIte, zbin, eqRes, qassert, qnum, qshift, qun, kindOf, allocV, true_and, and_true, and_self, List.nil_append, List.append_nil, List.cons_append, List.length_cons, List.length_nil, Nat.reduceAdd, Nat.reduceEqDiff, Nat.reduceLT, Nat.reduceSub, Nat.reduceMul, Int.reduceToNat, Int.reduceLE, Int.reduceLT, Int.reduceEq, Int.reduceNeg, Int.reduceAdd, Int.reduceSub, Bool.true_and, Bool.and_true, Bool.and_self, Bool.false_and, Bool.and_false, Bool.not_true, Bool.not_false, beq_self_eq_true, cond_true, cond_false, decide_true, decide_false, isConstOpd, xpanic, xconv, isBytes, qconv, List.length_map, List.map_nil, List.map_cons, concrete, Option.some.injEq, exists_eq', Int.toNat_natCast, Option.map_some, Option.map_none, List.getElem?_cons_zero, List.getElem?_cons_succ, zw64, rs64, tt3, tt34, ti3, ti34, t_140, zs_Api_Body]
    repeat' ((first | (refine condW_b ?_ ?_ <;> intro hc) | (refine wantO_s ?_ ?_ <;> intro hc) | (refine wantD_s _ _ _ _ ?_ ?_ <;> intro hc) | (refine bindO_i ?_ ?_ <;> intro hc) | (refine bindE_i _ _ _ _ ?_ ?_ <;> intro hc)) <;> (try simp only [decide_eq_true_eq, decide_eq_false_iff_not, Bool.or_eq_true, Bool.and_eq_true, Bool.not_eq_true, Bool.not_eq_false, Bool.not_not, Classical.not_not, Int.not_le, Int.not_lt, Bool.not_eq_true', Bool.not_eq_false'] at hc) <;> (try have hw := within_spec hc) <;> (try simp -dsimp (disch := first | assumption | omega | (simp only [Hp.bump_n, Hp.znew_n, Hp.zset_n, List.length_nil, List.length_cons, List.length_append, List.length_map]; (first | done | omega)) | (simp (disch := first | omega | (simp only [Hp.bump_n, Hp.znew_n, Hp.zset_n, List.length_nil, List.length_cons, List.length_append, List.length_map]; (first | done | omega))) only [zheap]; done) | (simp (disch := first | omega | (simp only [Hp.bump_n, Hp.znew_n, Hp.zset_n, List.length_nil, List.length_cons, List.length_append, List.length_map]; (first | done | omega))) only [zheap]; rfl)) only [zall, zopm, zop, zcallOp, qop, qbuiltin, ofOpt, List.map, reduceCtorEq, if_true, if_false, ↓reduceIte, zbin, eqRes, qassert, qnum, qshift, qun, kindOf, allocV, true_and, and_true, and_self, List.nil_append, List.append_nil, List.cons_append, List.length_cons, List.length_nil, Nat.reduceAdd, Nat.reduceEqDiff, Nat.reduceLT, Nat.reduceSub, Nat.reduceMul, Int.reduceToNat, Int.reduceLE, Int.reduceLT, Int.reduceEq, Int.reduceNeg, Int.reduceAdd, Int.reduceSub, Bool.true_and, Bool.and_true, Bool.and_self, Bool.false_and, Bool.and_false, Bool.not_true, Bool.not_false, beq_self_eq_true, cond_true, cond_false, decide_true, decide_false, isConstOpd, xpanic, xconv, isBytes, qconv, List.length_map, List.map_nil, List.map_cons, concrete, Option.some.injEq, exists_eq', Int.toNat_natCast, Option.map_some, Option.map_none, List.getElem?_cons_zero, List.getElem?_cons_succ, zw64, rs64, tt3, tt34, ti3, ti34, t_140, zs_Api_Body, hc]))
    exact shr_keep hF (fun k o h => by have hd := hF.dom k o h; (try simp (disch := first | assumption | omega | (simp only [Hp.bump_n, Hp.znew_n, Hp.zset_n, List.length_nil, List.length_cons, List.length_append, List.length_map]; (first | done | omega))) only [Hp.bump_get, Hp.get_set_ne, Hp.get_new_ne, Hp.bump_n, Hp.znew_n, Hp.zset_n]); exact h) (weak_of_eq rfl (lt_of_no (by intro jj; simp [CV.has, CV.hasL, fault, Trap_thrown.nohas, Api_Body.nohas])))
def R69 : Rel := fun args p r => ∃ (n k : Int), args = [I n, I k] ∧ (-9223372036854775808 ≤ k ∧ k ≤ 9223372036854775807) ∧ r = .ret (handInput n k).cv p
theorem t69 {T : XCall} (h : Has T 69 R69) (n k : Int) {p : Hp} (h1 : -9223372036854775808 ≤ k ∧ k ≤ 9223372036854775807) : T 69 [I n, I k] p = .ret (handInput n k).cv p := h _ _ _ ⟨n, k, rfl, h1, rfl⟩
set_option maxHeartbeats 8000000 in
theorem c69 : Con C 69 R69 := by
  refine con_of C ?_ ?_ ?_
  · rintro args p r r' ⟨n, k, h, h1, e⟩ ⟨n', k', h', h1', e'⟩
    subst e; subst e'; simp_all [Api_Input.inj_iff]
  · rintro args p r ⟨n, k, h, h1, rfl⟩; first | (split <;> simp; done) | (simp; done) | (simp only [resM]; split <;> simp; done) | (simp only [resD]; split <;> simp; done) 
  · rintro args p r ⟨n, k, rfl, h1, rfl⟩
    refine ans_walk C false noExt (tabL C [(37, R37)]) xf69 (noExt_ok C) (tabL_ok C _) zc69_ok (Nat.le_of_ble_eq_true (by kernel_rfl)) fun hF => ?_
    have t_37 := @t37 (tabL C [(37, R37)]) (has_head C c37 [])
    generalize tabL C [(37, R37)] = call at t_37 ⊢
    show W C false noExt call zc69 (argE [I n, I k]) p (endQ C _ _)
    simp -dsimp (disch := first | assumption | omega | (simp only [Hp.bump_n, Hp.znew_n, Hp.zset_n, List.length_nil, List.length_cons, List.length_append, List.length_map]; (first | done | omega)) | (simp (disch := first | omega | (simp only [Hp.bump_n, Hp.znew_n, Hp.zset_n, List.length_nil, List.length_cons, List.length_append, List.length_map]; (first | done | omega))) only [zheap]; done) | (simp (disch := first | omega | (simp only [Hp.bump_n, Hp.znew_n, Hp.zset_n, List.length_nil, List.length_cons, List.length_append, List.length_map]; (first | done | omega))) only [zheap]; rfl)) only [zall, zopm, zop, zcallOp, qop, qbuiltin, ofOpt, List.map, reduceCtorEq, if_true, if_false, ↓reduceIte, zbin, eqRes, qassert, qnum, qshift, qun, kindOf, allocV, true_and, and_true, and_self, List.nil_append, List.append_nil, List.cons_append, List.length_cons, List.length_nil, Nat.reduceAdd, Nat.reduceEqDiff, Nat.reduceLT, Nat.reduceSub, Nat.reduceMul, Int.reduceToNat, Int.reduceLE, Int.reduceLT, Int.reduceEq, Int.reduceNeg, Int.reduceAdd, Int.reduceSub, Bool.true_and, Bool.and_true, Bool.and_self, Bool.false_and, Bool.and_false, Bool.not_true, Bool.not_false, beq_self_eq_true, cond_true, cond_false, decide_true, decide_false, isConstOpd, xpanic, xconv, isBytes, qconv, List.length_map, List.map_nil, List.map_cons, concrete, Option.some.injEq, exists_eq', Int.toNat_natCast, Option.map_some, Option.map_none, List.getElem?_cons_zero, List.getElem?_cons_succ, zw69, rs69, tt3, tt36, ti3, ti36, t_37, zs_Api_Input, h1]
    repeat' ((first | (refine condW_b ?_ ?_ <;> intro hc) | (refine wantO_s ?_ ?_ <;> intro hc) | (refine wantD_s _ _ _ _ ?_ ?_ <;> intro hc) | (refine bindO_i ?_ ?_ <;> intro hc) | (refine bindE_i _ _ _ _ ?_ ?_ <;> intro hc)) <;> (try simp only [decide_eq_true_eq, decide_eq_false_iff_not, Bool.or_eq_true, Bool.and_eq_true, Bool.not_eq_true, Bool.not_eq_false, Bool.not_not, Classical.not_not, Int.not_le, Int.not_lt, Bool.not_eq_true', Bool.not_eq_false'] at hc) <;> (try have hw := within_spec hc) <;> (try simp -dsimp (disch := first | assumption | omega | (simp only [Hp.bump_n, Hp.znew_n, Hp.zset_n, List.length_nil, List.length_cons, List.length_append, List.length_map]; (first | done | omega)) | (simp (disch := first | omega | (simp only [Hp.bump_n, Hp.znew_n, Hp.zset_n, List.length_nil, List.length_cons, List.length_append, List.length_map]; (first | done | omega))) only [zheap]; done) | (simp (disch := first | omega | (simp only [Hp.bump_n, Hp.znew_n, Hp.zset_n, List.length_nil, List.length_cons, List.length_append, List.length_map]; (first | done | omega))) only [zheap]; rfl)) only [zall, zopm, zop, zcallOp, qop, qbuiltin, ofOpt, List.map, reduceCtorEq, if_true, if_false, ↓reduceIte, zbin, eqRes, qassert, qnum, qshift, qun, kindOf, allocV, true_and, and_true, and_self, List.nil_append, List.append_nil, List.cons_append, List.length_cons, List.length_nil, Nat.reduceAdd, Nat.reduceEqDiff, Nat.reduceLT, Nat.reduceSub, Nat.reduceMul, Int.reduceToNat, Int.reduceLE, Int.reduceLT, Int.reduceEq, Int.reduceNeg, Int.reduceAdd, Int.reduceSub, Bool.true_and, Bool.and_true, Bool.and_self, Bool.false_and, Bool.and_false, Bool.not_true, Bool.not_false, beq_self_eq_true, cond_true, cond_false, decide_true, decide_false, isConstOpd, xpanic, xconv, isBytes, qconv, List.length_map, List.map_nil, List.map_cons, concrete, Option.some.injEq, exists_eq', Int.toNat_natCast, Option.map_some, Option.map_none, List.getElem?_cons_zero, List.getElem?_cons_succ, zw69, rs69, tt3, tt36, ti3, ti36, t_37, zs_Api_Input, h1, hc]))
    exact shr_keep hF (fun k o h => by have hd := hF.dom k o h; (try simp (disch := first | assumption | omega | (simp only [Hp.bump_n, Hp.znew_n, Hp.zset_n, List.length_nil, List.length_cons, List.length_append, List.length_map]; (first | done | omega))) only [Hp.bump_get, Hp.get_set_ne, Hp.get_new_ne, Hp.bump_n, Hp.znew_n, Hp.zset_n]); exact h) (weak_of_eq rfl (lt_of_no (by intro jj; simp [CV.has, CV.hasL, fault, Trap_thrown.nohas, Api_Input.nohas])))
def R70 : Rel := fun args p r => args = [] ∧ r = .ret env0.cv p
theorem t70 {T : XCall} (h : Has T 70 R70)  {p : Hp}  : T 70 [] p = .ret env0.cv p := h _ _ _ ⟨rfl, rfl⟩
set_option maxHeartbeats 8000000 in
theorem c70 : Con C 70 R70 := by
  refine con_of C ?_ ?_ ?_
  · rintro args p r r' ⟨h, e⟩ ⟨h', e'⟩
    subst e; subst e'; simp_all [Rule_Env.inj_iff, Api_Body.inj_iff, Api_Input.inj_iff]
  · rintro args p r ⟨h, rfl⟩; first | (split <;> simp; done) | (simp; done) | (simp only [resM]; split <;> simp; done) | (simp only [resD]; split <;> simp; done) 
  · rintro args p r ⟨rfl, rfl⟩
    refine ans_walk C false noExt (tabL C [(64, R64)]) xf70 (noExt_ok C) (tabL_ok C _) zc70_ok (Nat.le_of_ble_eq_true (by kernel_rfl)) fun hF => ?_
    have t_64 := @t64 (tabL C [(64, R64)]) (has_head C c64 [])
    generalize tabL C [(64, R64)] = call at t_64 ⊢
    show W C false noExt call zc70 (argE []) p (endQ C _ _)
    simp -dsimp (disch := first | assumption | omega | (simp only [Hp.bump_n, Hp.znew_n, Hp.zset_n, List.length_nil, List.length_cons, List.length_append, List.length_map]; (first | done | omega)) | (simp (disch := first | omega | (simp only [Hp.bump_n, Hp.znew_n, Hp.zset_n, List.length_nil, List.length_cons, List.length_append, List.length_map]; (first | done | omega))) only [zheap]; done) | (simp (disch := first | omega | (simp only [Hp.bump_n, Hp.znew_n, Hp.zset_n, List.length_nil, List.length_cons, List.length_append, List.length_map]; (first | done | omega))) only [zheap]; rfl)) only [zall, zopm, zop, zcallOp, qop, qbuiltin, ofOpt, List.map, reduceCtorEq, if_true, if_false, ↓reduceIte, zbin, eqRes, qassert, qnum, qshift, qun, kindOf, allocV, true_and, and_true, and_self, List.nil_append, List.append_nil, List.cons_append, List.length_cons, List.length_nil, Nat.reduceAdd, Nat.reduceEqDiff, Nat.reduceLT, Nat.reduceSub, Nat.reduceMul, Int.reduceToNat, Int.reduceLE, Int.reduceLT, Int.reduceEq, Int.reduceNeg, Int.reduceAdd, Int.reduceSub, Bool.true_and, Bool.and_true, Bool.and_self, Bool.false_and, Bool.and_false, Bool.not_true, Bool.not_false, beq_self_eq_true, cond_true, cond_false, decide_true, decide_false, isConstOpd, xpanic, xconv, isBytes, qconv, List.length_map, List.map_nil, List.map_cons, concrete, Option.some.injEq, exists_eq', Int.toNat_natCast, Option.map_some, Option.map_none, List.getElem?_cons_zero, List.getElem?_cons_succ, zw70, rs70, tt36, tt39, ti36, ti39, t_64, zs_Rule_Env, zs_Api_Body, zs_Api_Input]
    repeat' ((first | (refine condW_b ?_ ?_ <;> intro hc) | (refine wantO_s ?_ ?_ <;> intro hc) | (refine wantD_s _ _ _ _ ?_ ?_ <;> intro hc) | (refine bindO_i ?_ ?_ <;> intro hc) | (refine bindE_i _ _ _ _ ?_ ?_ <;> intro hc)) <;> (try simp only [decide_eq_true_eq, decide_eq_false_iff_not, Bool.or_eq_true, Bool.and_eq_true, Bool.not_eq_true, Bool.not_eq_false, Bool.not_not, Classical.not_not, Int.not_le, Int.not_lt, Bool.not_eq_true', Bool.not_eq_false'] at hc) <;> (try have hw := within_spec hc) <;> (try simp -dsimp (disch := first | assumption | omega | (simp only [Hp.bump_n, Hp.znew_n, Hp.zset_n, List.length_nil, List.length_cons, List.length_append, List.length_map]; (first | done | omega)) | (simp (disch := first | omega | (simp only [Hp.bump_n, Hp.znew_n, Hp.zset_n, List.length_nil, List.length_cons, List.length_append, List.length_map]; (first | done | omega))) only [zheap]; done) | (simp (disch := first | omega | (simp only [Hp.bump_n, Hp.znew_n, Hp.zset_n, List.length_nil, List.length_cons, List.length_append, List.length_map]; (first | done | omega))) only [zheap]; rfl)) only [zall, zopm, zop, zcallOp, qop, qbuiltin, ofOpt, List.map, reduceCtorEq, if_true, if_false, ↓reduceIte, zbin, eqRes, qassert, qnum, qshift, qun, kindOf, allocV, true_and, and_true, and_self, List.nil_append, List.append_nil, List.cons_append, List.length_cons, List.length_nil, Nat.reduceAdd, Nat.reduceEqDiff, Nat.reduceLT, Nat.reduceSub, Nat.reduceMul, Int.reduceToNat, Int.reduceLE, Int.reduceLT, Int.reduceEq, Int.reduceNeg, Int.reduceAdd, Int.reduceSub, Bool.true_and, Bool.and_true, Bool.and_self, Bool.false_and, Bool.and_false, Bool.not_true, Bool.not_false, beq_self_eq_true, cond_true, cond_false, decide_true, decide_false, isConstOpd, xpanic, xconv, isBytes, qconv, List.length_map, List.map_nil, List.map_cons, concrete, Option.some.injEq, exists_eq', Int.toNat_natCast, Option.map_some, Option.map_none, List.getElem?_cons_zero, List.getElem?_cons_succ, zw70, rs70, tt36, tt39, ti36, ti39, t_64, zs_Rule_Env, zs_Api_Body, zs_Api_Input, hc]))
    exact shr_keep hF (fun k o h => by have hd := hF.dom k o h; (try simp (disch := first | assumption | omega | (simp only [Hp.bump_n, Hp.znew_n, Hp.zset_n, List.length_nil, List.length_cons, List.length_append, List.length_map]; (first | done | omega))) only [Hp.bump_get, Hp.get_set_ne, Hp.get_new_ne, Hp.bump_n, Hp.znew_n, Hp.zset_n]); exact h) (weak_of_eq rfl (lt_of_no fun j hj => by simp [Rule_Env.has, env0, Rule_Env.zero] at hj))
def R21 : Rel := fun args p r => ∃ (x : Hand_RawOp), args = [x.cv] ∧ r = .ret (handOp x).cv p
theorem t21 {T : XCall} (h : Has T 21 R21) (x : Hand_RawOp) {p : Hp}  : T 21 [x.cv] p = .ret (handOp x).cv p := h _ _ _ ⟨x, rfl, rfl⟩
set_option maxHeartbeats 8000000 in
theorem c21 : Con C 21 R21 := by
  refine con_of C ?_ ?_ ?_
  · rintro args p r r' ⟨x, h, e⟩ ⟨x', h', e'⟩
    subst e; subst e'; simp_all [Hand_RawOp.inj_iff, Api_Op.inj_iff]
  · rintro args p r ⟨x, h, rfl⟩; first | (split <;> simp; done) | (simp; done) | (simp only [resM]; split <;> simp; done) | (simp only [resD]; split <;> simp; done) 
  · rintro args p r ⟨x, rfl, rfl⟩
    refine ans_walk C false noExt (tabL C [(37, R37)]) xf21 (noExt_ok C) (tabL_ok C _) zc21_ok (Nat.le_of_ble_eq_true (by kernel_rfl)) fun hF => ?_
    have t_37 := @t37 (tabL C [(37, R37)]) (has_head C c37 [])
    generalize tabL C [(37, R37)] = call at t_37 ⊢
    show W C false noExt call zc21 (argE [x.cv]) p (endQ C _ _)
    simp -dsimp (disch := first | assumption | omega | (simp only [Hp.bump_n, Hp.znew_n, Hp.zset_n, List.length_nil, List.length_cons, List.length_append, List.length_map]; (first | done | omega)) | (simp (disch := first | omega | (simp only [Hp.bump_n, Hp.znew_n, Hp.zset_n, List.length_nil, List.length_cons, List.length_append, List.length_map]; (first | done | omega))) only [zheap]; done) | (simp (disch := first | omega | (simp only [Hp.bump_n, Hp.znew_n, Hp.zset_n, List.length_nil, List.length_cons, List.length_append, List.length_map]; (first | done | omega))) only [zheap]; rfl)) only [zall, zopm, zop, zcallOp, qop, qbuiltin, ofOpt, List.map, reduceCtorEq, if_true, if_false, ↓reduceIte, zbin, eqRes, qassert, qnum, qshift, qun, kindOf, allocV, true_and, and_true, and_self, List.nil_append, List.append_nil, List.cons_append, List.length_cons, List.length_nil, Nat.reduceAdd, Nat.reduceEqDiff, Nat.reduceLT, Nat.reduceSub, Nat.reduceMul, Int.reduceToNat, Int.reduceLE, Int.reduceLT, Int.reduceEq, Int.reduceNeg, Int.reduceAdd, Int.reduceSub, Bool.true_and, Bool.and_true, Bool.and_self, Bool.false_and, Bool.and_false, Bool.not_true, Bool.not_false, beq_self_eq_true, cond_true, cond_false, decide_true, decide_false, isConstOpd, xpanic, xconv, isBytes, qconv, List.length_map, List.map_nil, List.map_cons, concrete, Option.some.injEq, exists_eq', Int.toNat_natCast, Option.map_some, Option.map_none, List.getElem?_cons_zero, List.getElem?_cons_succ, zw21, rs21, tt3, tt29, tt31, ti3, ti29, ti31, t_37, zs_Hand_RawOp, zs_Api_Op]
    repeat' ((first | (refine condW_b ?_ ?_ <;> intro hc) | (refine wantO_s ?_ ?_ <;> intro hc) | (refine wantD_s _ _ _ _ ?_ ?_ <;> intro hc) | (refine bindO_i ?_ ?_ <;> intro hc) | (refine bindE_i _ _ _ _ ?_ ?_ <;> intro hc)) <;> (try simp only [decide_eq_true_eq, decide_eq_false_iff_not, Bool.or_eq_true, Bool.and_eq_true, Bool.not_eq_true, Bool.not_eq_false, Bool.not_not, Classical.not_not, Int.not_le, Int.not_lt, Bool.not_eq_true', Bool.not_eq_false'] at hc) <;> (try have hw := within_spec hc) <;> (try simp -dsimp (disch := first | assumption | omega | (simp only [Hp.bump_n, Hp.znew_n, Hp.zset_n, List.length_nil, List.length_cons, List.length_append, List.length_map]; (first | done | omega)) | (simp (disch := first | omega | (simp only [Hp.bump_n, Hp.znew_n, Hp.zset_n, List.length_nil, List.length_cons, List.length_append, List.length_map]; (first | done | omega))) only [zheap]; done) | (simp (disch := first | omega | (simp only [Hp.bump_n, Hp.znew_n, Hp.zset_n, List.length_nil, List.length_cons, List.length_append, List.length_map]; (first | done | omega))) only [zheap]; rfl)) only [zall, zopm, zop, zcallOp, qop, qbuiltin, ofOpt, List.map, reduceCtorEq, if_true, if_false, ↓reduceIte, zbin, eqRes, qassert, qnum, qshift, qun, kindOf, allocV, true_and, and_true, and_self, List.nil_append, List.append_nil, List.cons_append, List.length_cons, List.length_nil, Nat.reduceAdd, Nat.reduceEqDiff, Nat.reduceLT, Nat.reduceSub, Nat.reduceMul, Int.reduceToNat, Int.reduceLE, Int.reduceLT, Int.reduceEq, Int.reduceNeg, Int.reduceAdd, Int.reduceSub, Bool.true_and, Bool.and_true, Bool.and_self, Bool.false_and, Bool.and_false, Bool.not_true, Bool.not_false, beq_self_eq_true, cond_true, cond_false, decide_true, decide_false, isConstOpd, xpanic, xconv, isBytes, qconv, List.length_map, List.map_nil, List.map_cons, concrete, Option.some.injEq, exists_eq', Int.toNat_natCast, Option.map_some, Option.map_none, List.getElem?_cons_zero, List.getElem?_cons_succ, zw21, rs21, tt3, tt29, tt31, ti3, ti29, ti31, t_37, zs_Hand_RawOp, zs_Api_Op, hc]))
    all_goals refine shr_keep hF (fun k o h => by have hd := hF.dom k o h; (try simp (disch := first | assumption | omega | (simp only [Hp.bump_n, Hp.znew_n, Hp.zset_n, List.length_nil, List.length_cons, List.length_append, List.length_map]; (first | done | omega))) only [Hp.bump_get, Hp.get_set_ne, Hp.get_new_ne, Hp.bump_n, Hp.znew_n, Hp.zset_n]); exact h) (weak_of_eq ?_ (lt_of_no (by intro jj; simp [CV.has, CV.hasL, fault, Trap_thrown.nohas, Hand_RawOp.nohas, Api_Op.nohas])))
    all_goals simp [handOp, *]
end Go.Proofs.Ytpchcfkebljopaa
end
section
namespace Go.Proofs.Ytpchcfkebljopaa
open Go.Cl Go Go.RowKit
set_option maxRecDepth 100000
set_option linter.constructorNameAsVariable false
def envB (x : Law12_RawEnv) : Api_Body := { bodyBorn (pick x.X 4) 4 with X := pick x.X 4096, Y := pick x.Y 4096, VX := w64 (pick x.VX 129 - 64) }
def envK (x : Law12_RawEnv) (k : Nat) : Rule_Env := { Rule_Env.zero with Body := memN x.Mem.l k (envB x), In := handInput x.Buttons x.StickX, Dice := x.Dice, Room := pick x.Room 8 }
def J22 (x : Law12_RawEnv) (p : Hp) (n : Nat) (ρ : Env) (q : Hp) : Prop :=
  ∃ (k a : Nat), n = 4 - k ∧ k ≤ 4 ∧ k ≤ x.Mem.l.length ∧ ρ 1 = .ptr p.n [] ∧ ρ 2 = .ptr (p.n + 1) [] ∧ ρ 3 = .ptr a [] ∧ ρ 4 = I k ∧ p.n + 1 < a ∧ q.t.get p.n = some (.var sh27 x.cv) ∧ q.t.get (p.n + 1) = some (.var sh39 Rule_Env.zero.cv) ∧ q.t.get a = some (.var sh39 (envK x k).cv) ∧ HpLe p q
def R22 : Rel := fun args p r => ∃ (x : Law12_RawEnv), args = [x.cv] ∧ (-9223372036854775808 ≤ x.StickX ∧ x.StickX ≤ 9223372036854775807) ∧ r = .ret (envOf x).cv p
theorem t22 {T : XCall} (h : Has T 22 R22) (x : Law12_RawEnv) {p : Hp} (h1 : -9223372036854775808 ≤ x.StickX ∧ x.StickX ≤ 9223372036854775807) : T 22 [x.cv] p = .ret (envOf x).cv p := h _ _ _ ⟨x, rfl, h1, rfl⟩
set_option maxHeartbeats 8000000 in
theorem c22 : Con C 22 R22 := by
  refine con_of C ?_ ?_ ?_
  · rintro args p r r' ⟨x, h, h1, e⟩ ⟨x', h', h1', e'⟩
    subst e; subst e'; simp_all [Law12_RawEnv.inj_iff, Rule_Env.inj_iff, Api_Body.inj_iff, Api_Input.inj_iff, sl_inj24]
  · rintro args p r ⟨x, h, h1, rfl⟩; first | (split <;> simp; done) | (simp; done) | (simp only [resM]; split <;> simp; done) | (simp only [resD]; split <;> simp; done) 
  · rintro args p r ⟨x, rfl, h1, rfl⟩
    refine ans_walk C false noExt (tabL C [(37, R37), (64, R64), (69, R69)]) xf22 (noExt_ok C) (tabL_ok C _) zc22_ok (Nat.le_of_ble_eq_true (by kernel_rfl)) fun hF => ?_
    have t_37 := @t37 (tabL C [(37, R37), (64, R64), (69, R69)]) (has_head C c37 [(64, R64), (69, R69)])
    have t_64 := @t64 (tabL C [(37, R37), (64, R64), (69, R69)]) (has_tail C _ rfl (has_head C c64 [(69, R69)]))
    have t_69 := @t69 (tabL C [(37, R37), (64, R64), (69, R69)]) (has_tail C _ rfl (has_tail C _ rfl (has_head C c69 [])))
    generalize tabL C [(37, R37), (64, R64), (69, R69)] = call at t_37 t_64 t_69 ⊢
    show W C false noExt call zc22 (argE [x.cv]) p (endQ C _ _)
    simp -dsimp (disch := first | assumption | omega | (simp only [Hp.bump_n, Hp.znew_n, Hp.zset_n, List.length_nil, List.length_cons, List.length_append, List.length_map]; (first | done | omega)) | (simp (disch := first | omega | (simp only [Hp.bump_n, Hp.znew_n, Hp.zset_n, List.length_nil, List.length_cons, List.length_append, List.length_map]; (first | done | omega))) only [zheap]; done) | (simp (disch := first | omega | (simp only [Hp.bump_n, Hp.znew_n, Hp.zset_n, List.length_nil, List.length_cons, List.length_append, List.length_map]; (first | done | omega))) only [zheap]; rfl)) only [zall, zopm, zop, zcallOp, qop, qbuiltin, ofOpt, List.map, reduceCtorEq, if_true, if_false, ↓reduceIte, zbin, eqRes, qassert, qnum, qshift, qun, kindOf, allocV, true_and, and_true, and_self, List.nil_append, List.append_nil, List.cons_append, List.length_cons, List.length_nil, Nat.reduceAdd, Nat.reduceEqDiff, Nat.reduceLT, Nat.reduceSub, Nat.reduceMul, Int.reduceToNat, Int.reduceLE, Int.reduceLT, Int.reduceEq, Int.reduceNeg, Int.reduceAdd, Int.reduceSub, Bool.true_and, Bool.and_true, Bool.and_self, Bool.false_and, Bool.and_false, Bool.not_true, Bool.not_false, beq_self_eq_true, cond_true, cond_false, decide_true, decide_false, isConstOpd, xpanic, xconv, isBytes, qconv, List.length_map, List.map_nil, List.map_cons, concrete, Option.some.injEq, exists_eq', Int.toNat_natCast, Option.map_some, Option.map_none, List.getElem?_cons_zero, List.getElem?_cons_succ, zw22, rs22, tt3, tt24, tt25, tt27, tt32, tt34, tt39, ti3, ti24, ti25, ti27, ti32, ti34, ti39, t_37, t_64, t_69, zs_Law12_RawEnv, zs_Rule_Env, zs_Api_Body, zs_Api_Input, zsl24, zsl32, h1]
    repeat' ((first | (refine condW_b ?_ ?_ <;> intro hc) | (refine wantO_s ?_ ?_ <;> intro hc) | (refine wantD_s _ _ _ _ ?_ ?_ <;> intro hc) | (refine bindO_i ?_ ?_ <;> intro hc) | (refine bindE_i _ _ _ _ ?_ ?_ <;> intro hc)) <;> (try simp only [decide_eq_true_eq, decide_eq_false_iff_not, Bool.or_eq_true, Bool.and_eq_true, Bool.not_eq_true, Bool.not_eq_false, Bool.not_not, Classical.not_not, Int.not_le, Int.not_lt, Bool.not_eq_true', Bool.not_eq_false'] at hc) <;> (try have hw := within_spec hc) <;> (try simp -dsimp (disch := first | assumption | omega | (simp only [Hp.bump_n, Hp.znew_n, Hp.zset_n, List.length_nil, List.length_cons, List.length_append, List.length_map]; (first | done | omega)) | (simp (disch := first | omega | (simp only [Hp.bump_n, Hp.znew_n, Hp.zset_n, List.length_nil, List.length_cons, List.length_append, List.length_map]; (first | done | omega))) only [zheap]; done) | (simp (disch := first | omega | (simp only [Hp.bump_n, Hp.znew_n, Hp.zset_n, List.length_nil, List.length_cons, List.length_append, List.length_map]; (first | done | omega))) only [zheap]; rfl)) only [zall, zopm, zop, zcallOp, qop, qbuiltin, ofOpt, List.map, reduceCtorEq, if_true, if_false, ↓reduceIte, zbin, eqRes, qassert, qnum, qshift, qun, kindOf, allocV, true_and, and_true, and_self, List.nil_append, List.append_nil, List.cons_append, List.length_cons, List.length_nil, Nat.reduceAdd, Nat.reduceEqDiff, Nat.reduceLT, Nat.reduceSub, Nat.reduceMul, Int.reduceToNat, Int.reduceLE, Int.reduceLT, Int.reduceEq, Int.reduceNeg, Int.reduceAdd, Int.reduceSub, Bool.true_and, Bool.and_true, Bool.and_self, Bool.false_and, Bool.and_false, Bool.not_true, Bool.not_false, beq_self_eq_true, cond_true, cond_false, decide_true, decide_false, isConstOpd, xpanic, xconv, isBytes, qconv, List.length_map, List.map_nil, List.map_cons, concrete, Option.some.injEq, exists_eq', Int.toNat_natCast, Option.map_some, Option.map_none, List.getElem?_cons_zero, List.getElem?_cons_succ, zw22, rs22, tt3, tt24, tt25, tt27, tt32, tt34, tt39, ti3, ti24, ti25, ti27, ti32, ti34, ti39, t_37, t_64, t_69, zs_Law12_RawEnv, zs_Rule_Env, zs_Api_Body, zs_Api_Input, zsl24, zsl32, h1, hc]))
    show W C false noExt call (ZC.loop zn22_15) _ _ _
    refine W_loop C false noExt call zn22_15 _ _ _ (J22 x p) 4 ⟨0, p.n + 1 + 1 + 15, rfl, by omega, by omega, (by simp [put_at, zput_none, argE_0]), (by simp [put_at, zput_none, argE_0]), (by simp [put_at, zput_none, argE_0]), (by simp [put_at, zput_none, argE_0]), by omega, (by simp (disch := first | assumption | omega | (simp only [Hp.bump_n, Hp.znew_n, Hp.zset_n]; (first | done | omega))) only [zheap]; first | done | rfl), (by simp (disch := first | assumption | omega | (simp only [Hp.bump_n, Hp.znew_n, Hp.zset_n]; (first | done | omega))) only [zheap]; first | done | rfl), (by simp (disch := first | assumption | omega | (simp only [Hp.bump_n, Hp.znew_n, Hp.zset_n]; (first | done | omega))) only [zheap]; first | done | rfl), (fun k o h => by have hd := hF.dom k o h; (try simp (disch := first | assumption | omega | (simp only [Hp.bump_n, Hp.znew_n, Hp.zset_n, List.length_nil, List.length_cons, List.length_append, List.length_map]; (first | done | omega))) only [Hp.bump_get, Hp.get_set_ne, Hp.get_new_ne, Hp.bump_n, Hp.znew_n, Hp.zset_n]); exact h)⟩ ?_
    rintro n ρ q ⟨k, a, rfl, hk, hkl, e1, e2, e3, e4, ha, g1, g2, g3, hle⟩
    have hap : a ≠ p.n := by omega
    have hap1 : a ≠ p.n + 1 := by omega
    by_cases hlt : (k : Int) < x.Mem.l.length
    · by_cases h4 : (k : Int) < 4
      · have hk4 : k < 4 := by omega
        by_cases h8 : (nth x.Mem.l k).tmod 9 = 8
        · simp -dsimp (disch := first | assumption | omega | (simp only [Hp.bump_n, Hp.znew_n, Hp.zset_n, List.length_nil, List.length_cons, List.length_append, List.length_map]; (first | done | omega)) | (simp (disch := first | omega | (simp only [Hp.bump_n, Hp.znew_n, Hp.zset_n, List.length_nil, List.length_cons, List.length_append, List.length_map]; (first | done | omega))) only [zheap]; done) | (simp (disch := first | omega | (simp only [Hp.bump_n, Hp.znew_n, Hp.zset_n, List.length_nil, List.length_cons, List.length_append, List.length_map]; (first | done | omega))) only [zheap]; rfl) | (simp (disch := first | omega | (simp only [Hp.bump_n, Hp.znew_n, Hp.zset_n]; (first | done | omega))) only [zheap, g1, g2, g3]; done) | (simp (disch := first | omega | (simp only [Hp.bump_n, Hp.znew_n, Hp.zset_n]; (first | done | omega))) only [zheap, g1, g2, g3]; rfl)) only [zall, zopm, zop, zcallOp, qop, qbuiltin, ofOpt, List.map, reduceCtorEq, if_true, if_false, ↓reduceIte, zbin, eqRes, qassert, qnum, qshift, qun, kindOf, allocV, true_and, and_true, and_self, List.nil_append, List.append_nil, List.cons_append, List.length_cons, List.length_nil, Nat.reduceAdd, Nat.reduceEqDiff, Nat.reduceLT, Nat.reduceSub, Nat.reduceMul, Int.reduceToNat, Int.reduceLE, Int.reduceLT, Int.reduceEq, Int.reduceNeg, Int.reduceAdd, Int.reduceSub, Bool.true_and, Bool.and_true, Bool.and_self, Bool.false_and, Bool.and_false, Bool.not_true, Bool.not_false, beq_self_eq_true, cond_true, cond_false, decide_true, decide_false, isConstOpd, xpanic, xconv, isBytes, qconv, List.length_map, List.map_nil, List.map_cons, concrete, Option.some.injEq, exists_eq', Int.toNat_natCast, Option.map_some, Option.map_none, List.getElem?_cons_zero, List.getElem?_cons_succ, zw22, rs22, tt3, tt24, tt25, tt27, tt32, tt34, tt39, ti3, ti24, ti25, ti27, ti32, ti34, ti39, t_37, t_64, t_69, zs_Law12_RawEnv, zs_Rule_Env, zs_Api_Body, zs_Api_Input, zsl24, zsl32, h1, e1, e2, e3, e4, g1, g2, g3, hlt, h4, h8]
          repeat' ((first | (refine condW_b ?_ ?_ <;> intro hc) | (refine wantO_s ?_ ?_ <;> intro hc) | (refine wantD_s _ _ _ _ ?_ ?_ <;> intro hc) | (refine bindO_i ?_ ?_ <;> intro hc) | (refine bindE_i _ _ _ _ ?_ ?_ <;> intro hc)) <;> (try simp only [decide_eq_true_eq, decide_eq_false_iff_not, Bool.or_eq_true, Bool.and_eq_true, Bool.not_eq_true, Bool.not_eq_false, Bool.not_not, Classical.not_not, Int.not_le, Int.not_lt, Bool.not_eq_true', Bool.not_eq_false'] at hc) <;> (try have hw := within_spec hc) <;> (try simp -dsimp (disch := first | assumption | omega | (simp only [Hp.bump_n, Hp.znew_n, Hp.zset_n, List.length_nil, List.length_cons, List.length_append, List.length_map]; (first | done | omega)) | (simp (disch := first | omega | (simp only [Hp.bump_n, Hp.znew_n, Hp.zset_n, List.length_nil, List.length_cons, List.length_append, List.length_map]; (first | done | omega))) only [zheap]; done) | (simp (disch := first | omega | (simp only [Hp.bump_n, Hp.znew_n, Hp.zset_n, List.length_nil, List.length_cons, List.length_append, List.length_map]; (first | done | omega))) only [zheap]; rfl) | (simp (disch := first | omega | (simp only [Hp.bump_n, Hp.znew_n, Hp.zset_n]; (first | done | omega))) only [zheap, g1, g2, g3]; done) | (simp (disch := first | omega | (simp only [Hp.bump_n, Hp.znew_n, Hp.zset_n]; (first | done | omega))) only [zheap, g1, g2, g3]; rfl)) only [zall, zopm, zop, zcallOp, qop, qbuiltin, ofOpt, List.map, reduceCtorEq, if_true, if_false, ↓reduceIte, zbin, eqRes, qassert, qnum, qshift, qun, kindOf, allocV, true_and, and_true, and_self, List.nil_append, List.append_nil, List.cons_append, List.length_cons, List.length_nil, Nat.reduceAdd, Nat.reduceEqDiff, Nat.reduceLT, Nat.reduceSub, Nat.reduceMul, Int.reduceToNat, Int.reduceLE, Int.reduceLT, Int.reduceEq, Int.reduceNeg, Int.reduceAdd, Int.reduceSub, Bool.true_and, Bool.and_true, Bool.and_self, Bool.false_and, Bool.and_false, Bool.not_true, Bool.not_false, beq_self_eq_true, cond_true, cond_false, decide_true, decide_false, isConstOpd, xpanic, xconv, isBytes, qconv, List.length_map, List.map_nil, List.map_cons, concrete, Option.some.injEq, exists_eq', Int.toNat_natCast, Option.map_some, Option.map_none, List.getElem?_cons_zero, List.getElem?_cons_succ, zw22, rs22, tt3, tt24, tt25, tt27, tt32, tt34, tt39, ti3, ti24, ti25, ti27, ti32, ti34, ti39, t_37, t_64, t_69, zs_Law12_RawEnv, zs_Rule_Env, zs_Api_Body, zs_Api_Input, zsl24, zsl32, h1, e1, e2, e3, e4, g1, g2, g3, hlt, h4, h8, hc]))
          refine ⟨4 - (k + 1), by omega, k + 1, a, rfl, by omega, by omega, by simp [put_at, zput_none, e1], by simp [put_at, zput_none, e2], by simp [put_at, zput_none, e3], by simp [put_at, zput_none], ha, ?_, ?_, ?_, ?_⟩
          · simp (disch := omega) only [Hp.bump_get, Hp.get_set_ne, g1]
          · simp (disch := omega) only [Hp.bump_get, Hp.get_set_ne, g2]
          · simp only [Hp.bump_get, Hp.get_set_self]
            simp [envK, memN, memVal, h8, Api_Body.put_7k]
          · exact (fun k o h => by have hd := hF.dom k o h; (try simp (disch := first | assumption | omega | (simp only [Hp.bump_n, Hp.znew_n, Hp.zset_n]; (first | done | omega))) only [Hp.bump_get, Hp.get_set_ne, Hp.get_new_ne, Hp.bump_n, Hp.znew_n, Hp.zset_n]); exact hle k o h)
        · simp -dsimp (disch := first | assumption | omega | (simp only [Hp.bump_n, Hp.znew_n, Hp.zset_n, List.length_nil, List.length_cons, List.length_append, List.length_map]; (first | done | omega)) | (simp (disch := first | omega | (simp only [Hp.bump_n, Hp.znew_n, Hp.zset_n, List.length_nil, List.length_cons, List.length_append, List.length_map]; (first | done | omega))) only [zheap]; done) | (simp (disch := first | omega | (simp only [Hp.bump_n, Hp.znew_n, Hp.zset_n, List.length_nil, List.length_cons, List.length_append, List.length_map]; (first | done | omega))) only [zheap]; rfl) | (simp (disch := first | omega | (simp only [Hp.bump_n, Hp.znew_n, Hp.zset_n]; (first | done | omega))) only [zheap, g1, g2, g3]; done) | (simp (disch := first | omega | (simp only [Hp.bump_n, Hp.znew_n, Hp.zset_n]; (first | done | omega))) only [zheap, g1, g2, g3]; rfl)) only [zall, zopm, zop, zcallOp, qop, qbuiltin, ofOpt, List.map, reduceCtorEq, if_true, if_false, ↓reduceIte, zbin, eqRes, qassert, qnum, qshift, qun, kindOf, allocV, true_and, and_true, and_self, List.nil_append, List.append_nil, List.cons_append, List.length_cons, List.length_nil, Nat.reduceAdd, Nat.reduceEqDiff, Nat.reduceLT, Nat.reduceSub, Nat.reduceMul, Int.reduceToNat, Int.reduceLE, Int.reduceLT, Int.reduceEq, Int.reduceNeg, Int.reduceAdd, Int.reduceSub, Bool.true_and, Bool.and_true, Bool.and_self, Bool.false_and, Bool.and_false, Bool.not_true, Bool.not_false, beq_self_eq_true, cond_true, cond_false, decide_true, decide_false, isConstOpd, xpanic, xconv, isBytes, qconv, List.length_map, List.map_nil, List.map_cons, concrete, Option.some.injEq, exists_eq', Int.toNat_natCast, Option.map_some, Option.map_none, List.getElem?_cons_zero, List.getElem?_cons_succ, zw22, rs22, tt3, tt24, tt25, tt27, tt32, tt34, tt39, ti3, ti24, ti25, ti27, ti32, ti34, ti39, t_37, t_64, t_69, zs_Law12_RawEnv, zs_Rule_Env, zs_Api_Body, zs_Api_Input, zsl24, zsl32, h1, e1, e2, e3, e4, g1, g2, g3, hlt, h4, h8]
          repeat' ((first | (refine condW_b ?_ ?_ <;> intro hc) | (refine wantO_s ?_ ?_ <;> intro hc) | (refine wantD_s _ _ _ _ ?_ ?_ <;> intro hc) | (refine bindO_i ?_ ?_ <;> intro hc) | (refine bindE_i _ _ _ _ ?_ ?_ <;> intro hc)) <;> (try simp only [decide_eq_true_eq, decide_eq_false_iff_not, Bool.or_eq_true, Bool.and_eq_true, Bool.not_eq_true, Bool.not_eq_false, Bool.not_not, Classical.not_not, Int.not_le, Int.not_lt, Bool.not_eq_true', Bool.not_eq_false'] at hc) <;> (try have hw := within_spec hc) <;> (try simp -dsimp (disch := first | assumption | omega | (simp only [Hp.bump_n, Hp.znew_n, Hp.zset_n, List.length_nil, List.length_cons, List.length_append, List.length_map]; (first | done | omega)) | (simp (disch := first | omega | (simp only [Hp.bump_n, Hp.znew_n, Hp.zset_n, List.length_nil, List.length_cons, List.length_append, List.length_map]; (first | done | omega))) only [zheap]; done) | (simp (disch := first | omega | (simp only [Hp.bump_n, Hp.znew_n, Hp.zset_n, List.length_nil, List.length_cons, List.length_append, List.length_map]; (first | done | omega))) only [zheap]; rfl) | (simp (disch := first | omega | (simp only [Hp.bump_n, Hp.znew_n, Hp.zset_n]; (first | done | omega))) only [zheap, g1, g2, g3]; done) | (simp (disch := first | omega | (simp only [Hp.bump_n, Hp.znew_n, Hp.zset_n]; (first | done | omega))) only [zheap, g1, g2, g3]; rfl)) only [zall, zopm, zop, zcallOp, qop, qbuiltin, ofOpt, List.map, reduceCtorEq, if_true, if_false, ↓reduceIte, zbin, eqRes, qassert, qnum, qshift, qun, kindOf, allocV, true_and, and_true, and_self, List.nil_append, List.append_nil, List.cons_append, List.length_cons, List.length_nil, Nat.reduceAdd, Nat.reduceEqDiff, Nat.reduceLT, Nat.reduceSub, Nat.reduceMul, Int.reduceToNat, Int.reduceLE, Int.reduceLT, Int.reduceEq, Int.reduceNeg, Int.reduceAdd, Int.reduceSub, Bool.true_and, Bool.and_true, Bool.and_self, Bool.false_and, Bool.and_false, Bool.not_true, Bool.not_false, beq_self_eq_true, cond_true, cond_false, decide_true, decide_false, isConstOpd, xpanic, xconv, isBytes, qconv, List.length_map, List.map_nil, List.map_cons, concrete, Option.some.injEq, exists_eq', Int.toNat_natCast, Option.map_some, Option.map_none, List.getElem?_cons_zero, List.getElem?_cons_succ, zw22, rs22, tt3, tt24, tt25, tt27, tt32, tt34, tt39, ti3, ti24, ti25, ti27, ti32, ti34, ti39, t_37, t_64, t_69, zs_Law12_RawEnv, zs_Rule_Env, zs_Api_Body, zs_Api_Input, zsl24, zsl32, h1, e1, e2, e3, e4, g1, g2, g3, hlt, h4, h8, hc]))
          refine ⟨4 - (k + 1), by omega, k + 1, a, rfl, by omega, by omega, by simp [put_at, zput_none, e1], by simp [put_at, zput_none, e2], by simp [put_at, zput_none, e3], by simp [put_at, zput_none], ha, ?_, ?_, ?_, ?_⟩
          · simp (disch := omega) only [Hp.bump_get, Hp.get_set_ne, g1]
          · simp (disch := omega) only [Hp.bump_get, Hp.get_set_ne, g2]
          · simp only [Hp.bump_get, Hp.get_set_self]
            simp [envK, memN, memVal, h8, Api_Body.put_7k]
          · exact (fun k o h => by have hd := hF.dom k o h; (try simp (disch := first | assumption | omega | (simp only [Hp.bump_n, Hp.znew_n, Hp.zset_n]; (first | done | omega))) only [Hp.bump_get, Hp.get_set_ne, Hp.get_new_ne, Hp.bump_n, Hp.znew_n, Hp.zset_n]); exact hle k o h)
      · simp -dsimp (disch := first | assumption | omega | (simp only [Hp.bump_n, Hp.znew_n, Hp.zset_n, List.length_nil, List.length_cons, List.length_append, List.length_map]; (first | done | omega)) | (simp (disch := first | omega | (simp only [Hp.bump_n, Hp.znew_n, Hp.zset_n, List.length_nil, List.length_cons, List.length_append, List.length_map]; (first | done | omega))) only [zheap]; done) | (simp (disch := first | omega | (simp only [Hp.bump_n, Hp.znew_n, Hp.zset_n, List.length_nil, List.length_cons, List.length_append, List.length_map]; (first | done | omega))) only [zheap]; rfl) | (simp (disch := first | omega | (simp only [Hp.bump_n, Hp.znew_n, Hp.zset_n]; (first | done | omega))) only [zheap, g1, g2, g3]; done) | (simp (disch := first | omega | (simp only [Hp.bump_n, Hp.znew_n, Hp.zset_n]; (first | done | omega))) only [zheap, g1, g2, g3]; rfl)) only [zall, zopm, zop, zcallOp, qop, qbuiltin, ofOpt, List.map, reduceCtorEq, if_true, if_false, ↓reduceIte, zbin, eqRes, qassert, qnum, qshift, qun, kindOf, allocV, true_and, and_true, and_self, List.nil_append, List.append_nil, List.cons_append, List.length_cons, List.length_nil, Nat.reduceAdd, Nat.reduceEqDiff, Nat.reduceLT, Nat.reduceSub, Nat.reduceMul, Int.reduceToNat, Int.reduceLE, Int.reduceLT, Int.reduceEq, Int.reduceNeg, Int.reduceAdd, Int.reduceSub, Bool.true_and, Bool.and_true, Bool.and_self, Bool.false_and, Bool.and_false, Bool.not_true, Bool.not_false, beq_self_eq_true, cond_true, cond_false, decide_true, decide_false, isConstOpd, xpanic, xconv, isBytes, qconv, List.length_map, List.map_nil, List.map_cons, concrete, Option.some.injEq, exists_eq', Int.toNat_natCast, Option.map_some, Option.map_none, List.getElem?_cons_zero, List.getElem?_cons_succ, zw22, rs22, tt3, tt24, tt25, tt27, tt32, tt34, tt39, ti3, ti24, ti25, ti27, ti32, ti34, ti39, t_37, t_64, t_69, zs_Law12_RawEnv, zs_Rule_Env, zs_Api_Body, zs_Api_Input, zsl24, zsl32, h1, e1, e2, e3, e4, g1, g2, g3, hlt, h4]
        repeat' ((first | (refine condW_b ?_ ?_ <;> intro hc) | (refine wantO_s ?_ ?_ <;> intro hc) | (refine wantD_s _ _ _ _ ?_ ?_ <;> intro hc) | (refine bindO_i ?_ ?_ <;> intro hc) | (refine bindE_i _ _ _ _ ?_ ?_ <;> intro hc)) <;> (try simp only [decide_eq_true_eq, decide_eq_false_iff_not, Bool.or_eq_true, Bool.and_eq_true, Bool.not_eq_true, Bool.not_eq_false, Bool.not_not, Classical.not_not, Int.not_le, Int.not_lt, Bool.not_eq_true', Bool.not_eq_false'] at hc) <;> (try have hw := within_spec hc) <;> (try simp -dsimp (disch := first | assumption | omega | (simp only [Hp.bump_n, Hp.znew_n, Hp.zset_n, List.length_nil, List.length_cons, List.length_append, List.length_map]; (first | done | omega)) | (simp (disch := first | omega | (simp only [Hp.bump_n, Hp.znew_n, Hp.zset_n, List.length_nil, List.length_cons, List.length_append, List.length_map]; (first | done | omega))) only [zheap]; done) | (simp (disch := first | omega | (simp only [Hp.bump_n, Hp.znew_n, Hp.zset_n, List.length_nil, List.length_cons, List.length_append, List.length_map]; (first | done | omega))) only [zheap]; rfl) | (simp (disch := first | omega | (simp only [Hp.bump_n, Hp.znew_n, Hp.zset_n]; (first | done | omega))) only [zheap, g1, g2, g3]; done) | (simp (disch := first | omega | (simp only [Hp.bump_n, Hp.znew_n, Hp.zset_n]; (first | done | omega))) only [zheap, g1, g2, g3]; rfl)) only [zall, zopm, zop, zcallOp, qop, qbuiltin, ofOpt, List.map, reduceCtorEq, if_true, if_false, ↓reduceIte, zbin, eqRes, qassert, qnum, qshift, qun, kindOf, allocV, true_and, and_true, and_self, List.nil_append, List.append_nil, List.cons_append, List.length_cons, List.length_nil, Nat.reduceAdd, Nat.reduceEqDiff, Nat.reduceLT, Nat.reduceSub, Nat.reduceMul, Int.reduceToNat, Int.reduceLE, Int.reduceLT, Int.reduceEq, Int.reduceNeg, Int.reduceAdd, Int.reduceSub, Bool.true_and, Bool.and_true, Bool.and_self, Bool.false_and, Bool.and_false, Bool.not_true, Bool.not_false, beq_self_eq_true, cond_true, cond_false, decide_true, decide_false, isConstOpd, xpanic, xconv, isBytes, qconv, List.length_map, List.map_nil, List.map_cons, concrete, Option.some.injEq, exists_eq', Int.toNat_natCast, Option.map_some, Option.map_none, List.getElem?_cons_zero, List.getElem?_cons_succ, zw22, rs22, tt3, tt24, tt25, tt27, tt32, tt34, tt39, ti3, ti24, ti25, ti27, ti32, ti34, ti39, t_37, t_64, t_69, zs_Law12_RawEnv, zs_Rule_Env, zs_Api_Body, zs_Api_Input, zsl24, zsl32, h1, e1, e2, e3, e4, g1, g2, g3, hlt, h4, hc]))
        all_goals
          have hk' : min x.Mem.l.length 4 = k := by omega
          refine shr_keep hF (fun k o h => by have hd := hF.dom k o h; (try simp (disch := first | assumption | omega | (simp only [Hp.bump_n, Hp.znew_n, Hp.zset_n]; (first | done | omega))) only [Hp.bump_get, Hp.get_set_ne, Hp.get_new_ne, Hp.bump_n, Hp.znew_n, Hp.zset_n]); exact hle k o h) (weak_of_eq ?_ (lt_of_no fun j hj => by simp [Rule_Env.has, envOf, Rule_Env.zero] at hj))
          simp [envOf, envK, envB, hk', hc]
    · simp -dsimp (disch := first | assumption | omega | (simp only [Hp.bump_n, Hp.znew_n, Hp.zset_n, List.length_nil, List.length_cons, List.length_append, List.length_map]; (first | done | omega)) | (simp (disch := first | omega | (simp only [Hp.bump_n, Hp.znew_n, Hp.zset_n, List.length_nil, List.length_cons, List.length_append, List.length_map]; (first | done | omega))) only [zheap]; done) | (simp (disch := first | omega | (simp only [Hp.bump_n, Hp.znew_n, Hp.zset_n, List.length_nil, List.length_cons, List.length_append, List.length_map]; (first | done | omega))) only [zheap]; rfl) | (simp (disch := first | omega | (simp only [Hp.bump_n, Hp.znew_n, Hp.zset_n]; (first | done | omega))) only [zheap, g1, g2, g3]; done) | (simp (disch := first | omega | (simp only [Hp.bump_n, Hp.znew_n, Hp.zset_n]; (first | done | omega))) only [zheap, g1, g2, g3]; rfl)) only [zall, zopm, zop, zcallOp, qop, qbuiltin, ofOpt, List.map, reduceCtorEq, if_true, if_false, ↓reduceIte, zbin, eqRes, qassert, qnum, qshift, qun, kindOf, allocV, true_and, and_true, and_self, List.nil_append, List.append_nil, List.cons_append, List.length_cons, List.length_nil, Nat.reduceAdd, Nat.reduceEqDiff, Nat.reduceLT, Nat.reduceSub, Nat.reduceMul, Int.reduceToNat, Int.reduceLE, Int.reduceLT, Int.reduceEq, Int.reduceNeg, Int.reduceAdd, Int.reduceSub, Bool.true_and, Bool.and_true, Bool.and_self, Bool.false_and, Bool.and_false, Bool.not_true, Bool.not_false, beq_self_eq_true, cond_true, cond_false, decide_true, decide_false, isConstOpd, xpanic, xconv, isBytes, qconv, List.length_map, List.map_nil, List.map_cons, concrete, Option.some.injEq, exists_eq', Int.toNat_natCast, Option.map_some, Option.map_none, List.getElem?_cons_zero, List.getElem?_cons_succ, zw22, rs22, tt3, tt24, tt25, tt27, tt32, tt34, tt39, ti3, ti24, ti25, ti27, ti32, ti34, ti39, t_37, t_64, t_69, zs_Law12_RawEnv, zs_Rule_Env, zs_Api_Body, zs_Api_Input, zsl24, zsl32, h1, e1, e2, e3, e4, g1, g2, g3, hlt]
      repeat' ((first | (refine condW_b ?_ ?_ <;> intro hc) | (refine wantO_s ?_ ?_ <;> intro hc) | (refine wantD_s _ _ _ _ ?_ ?_ <;> intro hc) | (refine bindO_i ?_ ?_ <;> intro hc) | (refine bindE_i _ _ _ _ ?_ ?_ <;> intro hc)) <;> (try simp only [decide_eq_true_eq, decide_eq_false_iff_not, Bool.or_eq_true, Bool.and_eq_true, Bool.not_eq_true, Bool.not_eq_false, Bool.not_not, Classical.not_not, Int.not_le, Int.not_lt, Bool.not_eq_true', Bool.not_eq_false'] at hc) <;> (try have hw := within_spec hc) <;> (try simp -dsimp (disch := first | assumption | omega | (simp only [Hp.bump_n, Hp.znew_n, Hp.zset_n, List.length_nil, List.length_cons, List.length_append, List.length_map]; (first | done | omega)) | (simp (disch := first | omega | (simp only [Hp.bump_n, Hp.znew_n, Hp.zset_n, List.length_nil, List.length_cons, List.length_append, List.length_map]; (first | done | omega))) only [zheap]; done) | (simp (disch := first | omega | (simp only [Hp.bump_n, Hp.znew_n, Hp.zset_n, List.length_nil, List.length_cons, List.length_append, List.length_map]; (first | done | omega))) only [zheap]; rfl) | (simp (disch := first | omega | (simp only [Hp.bump_n, Hp.znew_n, Hp.zset_n]; (first | done | omega))) only [zheap, g1, g2, g3]; done) | (simp (disch := first | omega | (simp only [Hp.bump_n, Hp.znew_n, Hp.zset_n]; (first | done | omega))) only [zheap, g1, g2, g3]; rfl)) only [zall, zopm, zop, zcallOp, qop, qbuiltin, ofOpt, List.map, reduceCtorEq, if_true, if_false, ↓reduceIte, zbin, eqRes, qassert, qnum, qshift, qun, kindOf, allocV, true_and, and_true, and_self, List.nil_append, List.append_nil, List.cons_append, List.length_cons, List.length_nil, Nat.reduceAdd, Nat.reduceEqDiff, Nat.reduceLT, Nat.reduceSub, Nat.reduceMul, Int.reduceToNat, Int.reduceLE, Int.reduceLT, Int.reduceEq, Int.reduceNeg, Int.reduceAdd, Int.reduceSub, Bool.true_and, Bool.and_true, Bool.and_self, Bool.false_and, Bool.and_false, Bool.not_true, Bool.not_false, beq_self_eq_true, cond_true, cond_false, decide_true, decide_false, isConstOpd, xpanic, xconv, isBytes, qconv, List.length_map, List.map_nil, List.map_cons, concrete, Option.some.injEq, exists_eq', Int.toNat_natCast, Option.map_some, Option.map_none, List.getElem?_cons_zero, List.getElem?_cons_succ, zw22, rs22, tt3, tt24, tt25, tt27, tt32, tt34, tt39, ti3, ti24, ti25, ti27, ti32, ti34, ti39, t_37, t_64, t_69, zs_Law12_RawEnv, zs_Rule_Env, zs_Api_Body, zs_Api_Input, zsl24, zsl32, h1, e1, e2, e3, e4, g1, g2, g3, hlt, hc]))
      all_goals
        have hk' : min x.Mem.l.length 4 = k := by omega
        refine shr_keep hF (fun k o h => by have hd := hF.dom k o h; (try simp (disch := first | assumption | omega | (simp only [Hp.bump_n, Hp.znew_n, Hp.zset_n]; (first | done | omega))) only [Hp.bump_get, Hp.get_set_ne, Hp.get_new_ne, Hp.bump_n, Hp.znew_n, Hp.zset_n]); exact hle k o h) (weak_of_eq ?_ (lt_of_no fun j hj => by simp [Rule_Env.has, envOf, Rule_Env.zero] at hj))
        simp [envOf, envK, envB, hk', hc]
def J26 (a b : Rule_Env) (p : Hp) (n : Nat) (ρ : Env) (q : Hp) : Prop :=
  ∃ k, n = a.Shots.l.length - k ∧ k ≤ a.Shots.l.length ∧ ρ 2 = .ptr p.n [] ∧ ρ 3 = .ptr (p.n + 1) [] ∧ ρ 43 = I a.Shots.l.length ∧ ρ 44 = I k ∧ q.t.get p.n = some (.var sh39 a.cv) ∧ q.t.get (p.n + 1) = some (.var sh39 b.cv) ∧ HpLe p q ∧ (∀ j, j < k → nth a.Shots.l j = nth b.Shots.l j)
def R26 : Rel := fun args p r => ∃ (a b : Rule_Env), args = [a.cv, b.cv] ∧ (a.Shots.l.length ≤ 1000000) ∧ r = .ret (Bo (sameE a b)) p
theorem t26 {T : XCall} (h : Has T 26 R26) (a b : Rule_Env) {p : Hp} (h1 : a.Shots.l.length ≤ 1000000) : T 26 [a.cv, b.cv] p = .ret (Bo (sameE a b)) p := h _ _ _ ⟨a, b, rfl, h1, rfl⟩
set_option maxHeartbeats 8000000 in
theorem c26 : Con C 26 R26 := by
  refine con_of C ?_ ?_ ?_
  · rintro args p r r' ⟨a, b, h, h1, e⟩ ⟨a', b', h', h1', e'⟩
    subst e; subst e'; simp_all [Rule_Env.inj_iff, Api_Body.inj_iff, Api_Input.inj_iff, sl_inj37]
  · rintro args p r ⟨a, b, h, h1, rfl⟩; first | (split <;> simp; done) | (simp; done) | (simp only [resM]; split <;> simp; done) | (simp only [resD]; split <;> simp; done) 
  · rintro args p r ⟨a, b, rfl, h1, rfl⟩
    refine ans_walk C false noExt (tabL C []) xf26 (noExt_ok C) (tabL_ok C _) zc26_ok (Nat.le_of_ble_eq_true (by kernel_rfl)) fun hF => ?_
    generalize tabL C [] = call
    show W C false noExt call zc26 (argE [a.cv, b.cv]) p (endQ C _ _)
    simp -dsimp (disch := first | assumption | omega | (simp only [Hp.bump_n, Hp.znew_n, Hp.zset_n, List.length_nil, List.length_cons, List.length_append, List.length_map]; (first | done | omega)) | (simp (disch := first | omega | (simp only [Hp.bump_n, Hp.znew_n, Hp.zset_n, List.length_nil, List.length_cons, List.length_append, List.length_map]; (first | done | omega))) only [zheap]; done) | (simp (disch := first | omega | (simp only [Hp.bump_n, Hp.znew_n, Hp.zset_n, List.length_nil, List.length_cons, List.length_append, List.length_map]; (first | done | omega))) only [zheap]; rfl)) only [zall, zopm, zop, zcallOp, qop, qbuiltin, ofOpt, List.map, reduceCtorEq, if_true, if_false, ↓reduceIte, zbin, eqRes, qassert, qnum, qshift, qun, kindOf, allocV, true_and, and_true, and_self, List.nil_append, List.append_nil, List.cons_append, List.length_cons, List.length_nil, Nat.reduceAdd, Nat.reduceEqDiff, Nat.reduceLT, Nat.reduceSub, Nat.reduceMul, Int.reduceToNat, Int.reduceLE, Int.reduceLT, Int.reduceEq, Int.reduceNeg, Int.reduceAdd, Int.reduceSub, Bool.true_and, Bool.and_true, Bool.and_self, Bool.false_and, Bool.and_false, Bool.not_true, Bool.not_false, beq_self_eq_true, cond_true, cond_false, decide_true, decide_false, isConstOpd, xpanic, xconv, isBytes, qconv, List.length_map, List.map_nil, List.map_cons, concrete, Option.some.injEq, exists_eq', Int.toNat_natCast, Option.map_some, Option.map_none, List.getElem?_cons_zero, List.getElem?_cons_succ, zw26, rs26, tt3, tt25, tt34, tt36, tt37, tt39, ti3, ti25, ti34, ti36, ti37, ti39, zs_Rule_Env, zs_Api_Body, zs_Api_Input, zsl37, h1]
    repeat' ((first | (refine condW_b ?_ ?_ <;> intro hc) | (refine wantO_s ?_ ?_ <;> intro hc) | (refine wantD_s _ _ _ _ ?_ ?_ <;> intro hc) | (refine bindO_i ?_ ?_ <;> intro hc) | (refine bindE_i _ _ _ _ ?_ ?_ <;> intro hc)) <;> (try simp only [decide_eq_true_eq, decide_eq_false_iff_not, Bool.or_eq_true, Bool.and_eq_true, Bool.not_eq_true, Bool.not_eq_false, Bool.not_not, Classical.not_not, Int.not_le, Int.not_lt, Bool.not_eq_true', Bool.not_eq_false'] at hc) <;> (try have hw := within_spec hc) <;> (try simp -dsimp (disch := first | assumption | omega | (simp only [Hp.bump_n, Hp.znew_n, Hp.zset_n, List.length_nil, List.length_cons, List.length_append, List.length_map]; (first | done | omega)) | (simp (disch := first | omega | (simp only [Hp.bump_n, Hp.znew_n, Hp.zset_n, List.length_nil, List.length_cons, List.length_append, List.length_map]; (first | done | omega))) only [zheap]; done) | (simp (disch := first | omega | (simp only [Hp.bump_n, Hp.znew_n, Hp.zset_n, List.length_nil, List.length_cons, List.length_append, List.length_map]; (first | done | omega))) only [zheap]; rfl)) only [zall, zopm, zop, zcallOp, qop, qbuiltin, ofOpt, List.map, reduceCtorEq, if_true, if_false, ↓reduceIte, zbin, eqRes, qassert, qnum, qshift, qun, kindOf, allocV, true_and, and_true, and_self, List.nil_append, List.append_nil, List.cons_append, List.length_cons, List.length_nil, Nat.reduceAdd, Nat.reduceEqDiff, Nat.reduceLT, Nat.reduceSub, Nat.reduceMul, Int.reduceToNat, Int.reduceLE, Int.reduceLT, Int.reduceEq, Int.reduceNeg, Int.reduceAdd, Int.reduceSub, Bool.true_and, Bool.and_true, Bool.and_self, Bool.false_and, Bool.and_false, Bool.not_true, Bool.not_false, beq_self_eq_true, cond_true, cond_false, decide_true, decide_false, isConstOpd, xpanic, xconv, isBytes, qconv, List.length_map, List.map_nil, List.map_cons, concrete, Option.some.injEq, exists_eq', Int.toNat_natCast, Option.map_some, Option.map_none, List.getElem?_cons_zero, List.getElem?_cons_succ, zw26, rs26, tt3, tt25, tt34, tt36, tt37, tt39, ti3, ti25, ti34, ti36, ti37, ti39, zs_Rule_Env, zs_Api_Body, zs_Api_Input, zsl37, h1, hc]))
    · have hlen : a.Shots.l.length = b.Shots.l.length := by omega
      show W C false noExt call (ZC.loop zn26_13) _ _ _
      refine W_loop C false noExt call zn26_13 _ _ _ (J26 a b p) a.Shots.l.length ⟨0, rfl, by omega, (by simp [put_at, zput_none, argE_0]), (by simp [put_at, zput_none, argE_0]), by simp [put_at, zput_none, hlen], (by simp [put_at, zput_none, argE_0]), ?_, ?_, ?_, fun j hj => by omega⟩ ?_
      · exact (by simp (disch := first | assumption | omega | (simp only [Hp.bump_n, Hp.znew_n, Hp.zset_n]; (first | done | omega))) only [zheap]; first | done | rfl)
      · exact (by simp (disch := first | assumption | omega | (simp only [Hp.bump_n, Hp.znew_n, Hp.zset_n]; (first | done | omega))) only [zheap]; first | done | rfl)
      · exact (fun k o h => by have hd := hF.dom k o h; (try simp (disch := first | assumption | omega | (simp only [Hp.bump_n, Hp.znew_n, Hp.zset_n, List.length_nil, List.length_cons, List.length_append, List.length_map]; (first | done | omega))) only [Hp.bump_get, Hp.get_set_ne, Hp.get_new_ne, Hp.bump_n, Hp.znew_n, Hp.zset_n]); exact h)
      rintro n ρ q ⟨k, rfl, hk, e2, e3, e43, e44, g1, g2, hle, hj⟩
      by_cases hlt : (k : Int) < a.Shots.l.length
      · have hlt2 : (k : Int) < b.Shots.l.length := by omega
        by_cases hne : nth a.Shots.l k = nth b.Shots.l k
        · simp -dsimp (disch := first | assumption | omega | (simp only [Hp.bump_n, Hp.znew_n, Hp.zset_n, List.length_nil, List.length_cons, List.length_append, List.length_map]; (first | done | omega)) | (simp (disch := first | omega | (simp only [Hp.bump_n, Hp.znew_n, Hp.zset_n, List.length_nil, List.length_cons, List.length_append, List.length_map]; (first | done | omega))) only [zheap]; done) | (simp (disch := first | omega | (simp only [Hp.bump_n, Hp.znew_n, Hp.zset_n, List.length_nil, List.length_cons, List.length_append, List.length_map]; (first | done | omega))) only [zheap]; rfl) | (simp (disch := first | omega | (simp only [Hp.bump_n, Hp.znew_n, Hp.zset_n]; (first | done | omega))) only [zheap, g1, g2]; done) | (simp (disch := first | omega | (simp only [Hp.bump_n, Hp.znew_n, Hp.zset_n]; (first | done | omega))) only [zheap, g1, g2]; rfl)) only [zall, zopm, zop, zcallOp, qop, qbuiltin, ofOpt, List.map, reduceCtorEq, if_true, if_false, ↓reduceIte, zbin, eqRes, qassert, qnum, qshift, qun, kindOf, allocV, true_and, and_true, and_self, List.nil_append, List.append_nil, List.cons_append, List.length_cons, List.length_nil, Nat.reduceAdd, Nat.reduceEqDiff, Nat.reduceLT, Nat.reduceSub, Nat.reduceMul, Int.reduceToNat, Int.reduceLE, Int.reduceLT, Int.reduceEq, Int.reduceNeg, Int.reduceAdd, Int.reduceSub, Bool.true_and, Bool.and_true, Bool.and_self, Bool.false_and, Bool.and_false, Bool.not_true, Bool.not_false, beq_self_eq_true, cond_true, cond_false, decide_true, decide_false, isConstOpd, xpanic, xconv, isBytes, qconv, List.length_map, List.map_nil, List.map_cons, concrete, Option.some.injEq, exists_eq', Int.toNat_natCast, Option.map_some, Option.map_none, List.getElem?_cons_zero, List.getElem?_cons_succ, zw26, rs26, tt3, tt25, tt34, tt36, tt37, tt39, ti3, ti25, ti34, ti36, ti37, ti39, zs_Rule_Env, zs_Api_Body, zs_Api_Input, zsl37, h1, e2, e3, e43, e44, g1, g2, hlt, hne]
          repeat' ((first | (refine condW_b ?_ ?_ <;> intro hc) | (refine wantO_s ?_ ?_ <;> intro hc) | (refine wantD_s _ _ _ _ ?_ ?_ <;> intro hc) | (refine bindO_i ?_ ?_ <;> intro hc) | (refine bindE_i _ _ _ _ ?_ ?_ <;> intro hc)) <;> (try simp only [decide_eq_true_eq, decide_eq_false_iff_not, Bool.or_eq_true, Bool.and_eq_true, Bool.not_eq_true, Bool.not_eq_false, Bool.not_not, Classical.not_not, Int.not_le, Int.not_lt, Bool.not_eq_true', Bool.not_eq_false'] at hc) <;> (try have hw := within_spec hc) <;> (try simp -dsimp (disch := first | assumption | omega | (simp only [Hp.bump_n, Hp.znew_n, Hp.zset_n, List.length_nil, List.length_cons, List.length_append, List.length_map]; (first | done | omega)) | (simp (disch := first | omega | (simp only [Hp.bump_n, Hp.znew_n, Hp.zset_n, List.length_nil, List.length_cons, List.length_append, List.length_map]; (first | done | omega))) only [zheap]; done) | (simp (disch := first | omega | (simp only [Hp.bump_n, Hp.znew_n, Hp.zset_n, List.length_nil, List.length_cons, List.length_append, List.length_map]; (first | done | omega))) only [zheap]; rfl) | (simp (disch := first | omega | (simp only [Hp.bump_n, Hp.znew_n, Hp.zset_n]; (first | done | omega))) only [zheap, g1, g2]; done) | (simp (disch := first | omega | (simp only [Hp.bump_n, Hp.znew_n, Hp.zset_n]; (first | done | omega))) only [zheap, g1, g2]; rfl)) only [zall, zopm, zop, zcallOp, qop, qbuiltin, ofOpt, List.map, reduceCtorEq, if_true, if_false, ↓reduceIte, zbin, eqRes, qassert, qnum, qshift, qun, kindOf, allocV, true_and, and_true, and_self, List.nil_append, List.append_nil, List.cons_append, List.length_cons, List.length_nil, Nat.reduceAdd, Nat.reduceEqDiff, Nat.reduceLT, Nat.reduceSub, Nat.reduceMul, Int.reduceToNat, Int.reduceLE, Int.reduceLT, Int.reduceEq, Int.reduceNeg, Int.reduceAdd, Int.reduceSub, Bool.true_and, Bool.and_true, Bool.and_self, Bool.false_and, Bool.and_false, Bool.not_true, Bool.not_false, beq_self_eq_true, cond_true, cond_false, decide_true, decide_false, isConstOpd, xpanic, xconv, isBytes, qconv, List.length_map, List.map_nil, List.map_cons, concrete, Option.some.injEq, exists_eq', Int.toNat_natCast, Option.map_some, Option.map_none, List.getElem?_cons_zero, List.getElem?_cons_succ, zw26, rs26, tt3, tt25, tt34, tt36, tt37, tt39, ti3, ti25, ti34, ti36, ti37, ti39, zs_Rule_Env, zs_Api_Body, zs_Api_Input, zsl37, h1, e2, e3, e43, e44, g1, g2, hlt, hne, hc]))
          refine ⟨a.Shots.l.length - (k + 1), by omega, k + 1, rfl, by omega, by simp [put_at, zput_none, e2], by simp [put_at, zput_none, e3], by simp [put_at, zput_none, e43], by simp [put_at, zput_none], by simp only [Hp.bump_get, g1], by simp only [Hp.bump_get, g2], (fun k o h => by have hd := hF.dom k o h; (try simp (disch := first | assumption | omega | (simp only [Hp.bump_n, Hp.znew_n, Hp.zset_n]; (first | done | omega))) only [Hp.bump_get, Hp.get_set_ne, Hp.get_new_ne, Hp.bump_n, Hp.znew_n, Hp.zset_n]); exact hle k o h), fun j hjk => ?_⟩
          by_cases h : j = k
          · rw [h]; exact hne
          · exact hj j (by omega)
        · simp -dsimp (disch := first | assumption | omega | (simp only [Hp.bump_n, Hp.znew_n, Hp.zset_n, List.length_nil, List.length_cons, List.length_append, List.length_map]; (first | done | omega)) | (simp (disch := first | omega | (simp only [Hp.bump_n, Hp.znew_n, Hp.zset_n, List.length_nil, List.length_cons, List.length_append, List.length_map]; (first | done | omega))) only [zheap]; done) | (simp (disch := first | omega | (simp only [Hp.bump_n, Hp.znew_n, Hp.zset_n, List.length_nil, List.length_cons, List.length_append, List.length_map]; (first | done | omega))) only [zheap]; rfl) | (simp (disch := first | omega | (simp only [Hp.bump_n, Hp.znew_n, Hp.zset_n]; (first | done | omega))) only [zheap, g1, g2]; done) | (simp (disch := first | omega | (simp only [Hp.bump_n, Hp.znew_n, Hp.zset_n]; (first | done | omega))) only [zheap, g1, g2]; rfl)) only [zall, zopm, zop, zcallOp, qop, qbuiltin, ofOpt, List.map, reduceCtorEq, if_true, if_false, ↓reduceIte, zbin, eqRes, qassert, qnum, qshift, qun, kindOf, allocV, true_and, and_true, and_self, List.nil_append, List.append_nil, List.cons_append, List.length_cons, List.length_nil, Nat.reduceAdd, Nat.reduceEqDiff, Nat.reduceLT, Nat.reduceSub, Nat.reduceMul, Int.reduceToNat, Int.reduceLE, Int.reduceLT, Int.reduceEq, Int.reduceNeg, Int.reduceAdd, Int.reduceSub, Bool.true_and, Bool.and_true, Bool.and_self, Bool.false_and, Bool.and_false, Bool.not_true, Bool.not_false, beq_self_eq_true, cond_true, cond_false, decide_true, decide_false, isConstOpd, xpanic, xconv, isBytes, qconv, List.length_map, List.map_nil, List.map_cons, concrete, Option.some.injEq, exists_eq', Int.toNat_natCast, Option.map_some, Option.map_none, List.getElem?_cons_zero, List.getElem?_cons_succ, zw26, rs26, tt3, tt25, tt34, tt36, tt37, tt39, ti3, ti25, ti34, ti36, ti37, ti39, zs_Rule_Env, zs_Api_Body, zs_Api_Input, zsl37, h1, e2, e3, e43, e44, g1, g2, hlt, hne]
          repeat' ((first | (refine condW_b ?_ ?_ <;> intro hc) | (refine wantO_s ?_ ?_ <;> intro hc) | (refine wantD_s _ _ _ _ ?_ ?_ <;> intro hc) | (refine bindO_i ?_ ?_ <;> intro hc) | (refine bindE_i _ _ _ _ ?_ ?_ <;> intro hc)) <;> (try simp only [decide_eq_true_eq, decide_eq_false_iff_not, Bool.or_eq_true, Bool.and_eq_true, Bool.not_eq_true, Bool.not_eq_false, Bool.not_not, Classical.not_not, Int.not_le, Int.not_lt, Bool.not_eq_true', Bool.not_eq_false'] at hc) <;> (try have hw := within_spec hc) <;> (try simp -dsimp (disch := first | assumption | omega | (simp only [Hp.bump_n, Hp.znew_n, Hp.zset_n, List.length_nil, List.length_cons, List.length_append, List.length_map]; (first | done | omega)) | (simp (disch := first | omega | (simp only [Hp.bump_n, Hp.znew_n, Hp.zset_n, List.length_nil, List.length_cons, List.length_append, List.length_map]; (first | done | omega))) only [zheap]; done) | (simp (disch := first | omega | (simp only [Hp.bump_n, Hp.znew_n, Hp.zset_n, List.length_nil, List.length_cons, List.length_append, List.length_map]; (first | done | omega))) only [zheap]; rfl) | (simp (disch := first | omega | (simp only [Hp.bump_n, Hp.znew_n, Hp.zset_n]; (first | done | omega))) only [zheap, g1, g2]; done) | (simp (disch := first | omega | (simp only [Hp.bump_n, Hp.znew_n, Hp.zset_n]; (first | done | omega))) only [zheap, g1, g2]; rfl)) only [zall, zopm, zop, zcallOp, qop, qbuiltin, ofOpt, List.map, reduceCtorEq, if_true, if_false, ↓reduceIte, zbin, eqRes, qassert, qnum, qshift, qun, kindOf, allocV, true_and, and_true, and_self, List.nil_append, List.append_nil, List.cons_append, List.length_cons, List.length_nil, Nat.reduceAdd, Nat.reduceEqDiff, Nat.reduceLT, Nat.reduceSub, Nat.reduceMul, Int.reduceToNat, Int.reduceLE, Int.reduceLT, Int.reduceEq, Int.reduceNeg, Int.reduceAdd, Int.reduceSub, Bool.true_and, Bool.and_true, Bool.and_self, Bool.false_and, Bool.and_false, Bool.not_true, Bool.not_false, beq_self_eq_true, cond_true, cond_false, decide_true, decide_false, isConstOpd, xpanic, xconv, isBytes, qconv, List.length_map, List.map_nil, List.map_cons, concrete, Option.some.injEq, exists_eq', Int.toNat_natCast, Option.map_some, Option.map_none, List.getElem?_cons_zero, List.getElem?_cons_succ, zw26, rs26, tt3, tt25, tt34, tt36, tt37, tt39, ti3, ti25, ti34, ti36, ti37, ti39, zs_Rule_Env, zs_Api_Body, zs_Api_Input, zsl37, h1, e2, e3, e43, e44, g1, g2, hlt, hne, hc]))
          have hl : ¬ a.Shots.l = b.Shots.l := fun h => hne (by rw [h])
          refine shr_keep hF (fun k o h => by have hd := hF.dom k o h; (try simp (disch := first | assumption | omega | (simp only [Hp.bump_n, Hp.znew_n, Hp.zset_n]; (first | done | omega))) only [Hp.bump_get, Hp.get_set_ne, Hp.get_new_ne, Hp.bump_n, Hp.znew_n, Hp.zset_n]); exact hle k o h) (weak_of_eq ?_ (lt_of_no (by intro jj; simp [CV.has, CV.hasL, fault, Trap_thrown.nohas, Api_Body.nohas, Api_Input.nohas])))
          simp [sameE, hl]
      · simp -dsimp (disch := first | assumption | omega | (simp only [Hp.bump_n, Hp.znew_n, Hp.zset_n, List.length_nil, List.length_cons, List.length_append, List.length_map]; (first | done | omega)) | (simp (disch := first | omega | (simp only [Hp.bump_n, Hp.znew_n, Hp.zset_n, List.length_nil, List.length_cons, List.length_append, List.length_map]; (first | done | omega))) only [zheap]; done) | (simp (disch := first | omega | (simp only [Hp.bump_n, Hp.znew_n, Hp.zset_n, List.length_nil, List.length_cons, List.length_append, List.length_map]; (first | done | omega))) only [zheap]; rfl) | (simp (disch := first | omega | (simp only [Hp.bump_n, Hp.znew_n, Hp.zset_n]; (first | done | omega))) only [zheap, g1, g2]; done) | (simp (disch := first | omega | (simp only [Hp.bump_n, Hp.znew_n, Hp.zset_n]; (first | done | omega))) only [zheap, g1, g2]; rfl)) only [zall, zopm, zop, zcallOp, qop, qbuiltin, ofOpt, List.map, reduceCtorEq, if_true, if_false, ↓reduceIte, zbin, eqRes, qassert, qnum, qshift, qun, kindOf, allocV, true_and, and_true, and_self, List.nil_append, List.append_nil, List.cons_append, List.length_cons, List.length_nil, Nat.reduceAdd, Nat.reduceEqDiff, Nat.reduceLT, Nat.reduceSub, Nat.reduceMul, Int.reduceToNat, Int.reduceLE, Int.reduceLT, Int.reduceEq, Int.reduceNeg, Int.reduceAdd, Int.reduceSub, Bool.true_and, Bool.and_true, Bool.and_self, Bool.false_and, Bool.and_false, Bool.not_true, Bool.not_false, beq_self_eq_true, cond_true, cond_false, decide_true, decide_false, isConstOpd, xpanic, xconv, isBytes, qconv, List.length_map, List.map_nil, List.map_cons, concrete, Option.some.injEq, exists_eq', Int.toNat_natCast, Option.map_some, Option.map_none, List.getElem?_cons_zero, List.getElem?_cons_succ, zw26, rs26, tt3, tt25, tt34, tt36, tt37, tt39, ti3, ti25, ti34, ti36, ti37, ti39, zs_Rule_Env, zs_Api_Body, zs_Api_Input, zsl37, h1, e2, e3, e43, e44, g1, g2, hlt]
        repeat' ((first | (refine condW_b ?_ ?_ <;> intro hc) | (refine wantO_s ?_ ?_ <;> intro hc) | (refine wantD_s _ _ _ _ ?_ ?_ <;> intro hc) | (refine bindO_i ?_ ?_ <;> intro hc) | (refine bindE_i _ _ _ _ ?_ ?_ <;> intro hc)) <;> (try simp only [decide_eq_true_eq, decide_eq_false_iff_not, Bool.or_eq_true, Bool.and_eq_true, Bool.not_eq_true, Bool.not_eq_false, Bool.not_not, Classical.not_not, Int.not_le, Int.not_lt, Bool.not_eq_true', Bool.not_eq_false'] at hc) <;> (try have hw := within_spec hc) <;> (try simp -dsimp (disch := first | assumption | omega | (simp only [Hp.bump_n, Hp.znew_n, Hp.zset_n, List.length_nil, List.length_cons, List.length_append, List.length_map]; (first | done | omega)) | (simp (disch := first | omega | (simp only [Hp.bump_n, Hp.znew_n, Hp.zset_n, List.length_nil, List.length_cons, List.length_append, List.length_map]; (first | done | omega))) only [zheap]; done) | (simp (disch := first | omega | (simp only [Hp.bump_n, Hp.znew_n, Hp.zset_n, List.length_nil, List.length_cons, List.length_append, List.length_map]; (first | done | omega))) only [zheap]; rfl) | (simp (disch := first | omega | (simp only [Hp.bump_n, Hp.znew_n, Hp.zset_n]; (first | done | omega))) only [zheap, g1, g2]; done) | (simp (disch := first | omega | (simp only [Hp.bump_n, Hp.znew_n, Hp.zset_n]; (first | done | omega))) only [zheap, g1, g2]; rfl)) only [zall, zopm, zop, zcallOp, qop, qbuiltin, ofOpt, List.map, reduceCtorEq, if_true, if_false, ↓reduceIte, zbin, eqRes, qassert, qnum, qshift, qun, kindOf, allocV, true_and, and_true, and_self, List.nil_append, List.append_nil, List.cons_append, List.length_cons, List.length_nil, Nat.reduceAdd, Nat.reduceEqDiff, Nat.reduceLT, Nat.reduceSub, Nat.reduceMul, Int.reduceToNat, Int.reduceLE, Int.reduceLT, Int.reduceEq, Int.reduceNeg, Int.reduceAdd, Int.reduceSub, Bool.true_and, Bool.and_true, Bool.and_self, Bool.false_and, Bool.and_false, Bool.not_true, Bool.not_false, beq_self_eq_true, cond_true, cond_false, decide_true, decide_false, isConstOpd, xpanic, xconv, isBytes, qconv, List.length_map, List.map_nil, List.map_cons, concrete, Option.some.injEq, exists_eq', Int.toNat_natCast, Option.map_some, Option.map_none, List.getElem?_cons_zero, List.getElem?_cons_succ, zw26, rs26, tt3, tt25, tt34, tt36, tt37, tt39, ti3, ti25, ti34, ti36, ti37, ti39, zs_Rule_Env, zs_Api_Body, zs_Api_Input, zsl37, h1, e2, e3, e43, e44, g1, g2, hlt, hc]))
        have hl : a.Shots.l = b.Shots.l := nth_ext hlen fun j h => hj j (by omega)
        refine shr_keep hF (fun k o h => by have hd := hF.dom k o h; (try simp (disch := first | assumption | omega | (simp only [Hp.bump_n, Hp.znew_n, Hp.zset_n]; (first | done | omega))) only [Hp.bump_get, Hp.get_set_ne, Hp.get_new_ne, Hp.bump_n, Hp.znew_n, Hp.zset_n]); exact hle k o h) (weak_of_eq ?_ (lt_of_no (by intro jj; simp [CV.has, CV.hasL, fault, Trap_thrown.nohas, Api_Body.nohas, Api_Input.nohas])))
        simp [sameE, *]
    all_goals refine shr_keep hF (fun k o h => by have hd := hF.dom k o h; (try simp (disch := first | assumption | omega | (simp only [Hp.bump_n, Hp.znew_n, Hp.zset_n, List.length_nil, List.length_cons, List.length_append, List.length_map]; (first | done | omega))) only [Hp.bump_get, Hp.get_set_ne, Hp.get_new_ne, Hp.bump_n, Hp.znew_n, Hp.zset_n]); exact h) (weak_of_eq ?_ (lt_of_no (by intro jj; simp [CV.has, CV.hasL, fault, Trap_thrown.nohas, Api_Body.nohas, Api_Input.nohas])))
    all_goals simp [sameE, *]
    intro h
    rw [h] at hc
    exact hc rfl
def R23 : Rel := fun args p r => args = [] ∧ r = .ret (Bo true) p
theorem t23 {T : XCall} (h : Has T 23 R23)  {p : Hp}  : T 23 [] p = .ret (Bo true) p := h _ _ _ ⟨rfl, rfl⟩
set_option maxHeartbeats 8000000 in
theorem c23 : Con C 23 R23 := by
  refine con_of C ?_ ?_ ?_
  · rintro args p r r' ⟨h, e⟩ ⟨h', e'⟩
    subst e; subst e'; simp_all [Rule_Env.inj_iff, Api_Body.inj_iff, Api_Input.inj_iff, Trap_Fault.inj_iff, Api_Op.inj_iff, sl_inj23]
  · rintro args p r ⟨h, rfl⟩; first | (split <;> simp; done) | (simp; done) | (simp only [resM]; split <;> simp; done) | (simp only [resD]; split <;> simp; done) 
  · rintro args p r ⟨rfl, rfl⟩
    refine ans_walk C false noExt (tabL C [(70, R70), (25, R25)]) xf23 (noExt_ok C) (tabL_ok C _) zc23_ok (Nat.le_of_ble_eq_true (by kernel_rfl)) fun hF => ?_
    have t_70 := @t70 (tabL C [(70, R70), (25, R25)]) (has_head C c70 [(25, R25)])
    have t_25 := @t25 (tabL C [(70, R70), (25, R25)]) (has_tail C _ rfl (has_head C c25 []))
    generalize tabL C [(70, R70), (25, R25)] = call at t_70 t_25 ⊢
    show W C false noExt call zc23 (argE []) p (endQ C _ _)
    have r1 : ruleRun ⟨.exact, [⟨6, 0, 0⟩], nofun⟩ env0 = ((copiedE env0), ⟨1, 0⟩, false) := by rfl
    have r2 : (ruleRun ⟨.exact, [⟨1, 1, 5⟩, ⟨3, 1, 1⟩], nofun⟩ env0).2.2 = true ∧ nth (ruleRun ⟨.exact, [⟨1, 1, 5⟩, ⟨3, 1, 1⟩], nofun⟩ env0).1.Body.Mem 1 = 10 := by constructor <;> rfl
    have hv : env0.Shots.tl ≠ .view := by simp [env0, Rule_Env.zero]
    have hv2 : env0.Shots.l.length ≤ 100000 := by simp [env0, Rule_Env.zero]
    simp -dsimp (disch := first | assumption | omega | (simp only [Hp.bump_n, Hp.znew_n, Hp.zset_n, List.length_nil, List.length_cons, List.length_append, List.length_map]; (first | done | omega)) | (simp (disch := first | omega | (simp only [Hp.bump_n, Hp.znew_n, Hp.zset_n, List.length_nil, List.length_cons, List.length_append, List.length_map]; (first | done | omega))) only [zheap]; done) | (simp (disch := first | omega | (simp only [Hp.bump_n, Hp.znew_n, Hp.zset_n, List.length_nil, List.length_cons, List.length_append, List.length_map]; (first | done | omega))) only [zheap]; rfl)) only [zall, zopm, zop, zcallOp, qop, qbuiltin, ofOpt, List.map, reduceCtorEq, if_true, if_false, ↓reduceIte, zbin, eqRes, qassert, qnum, qshift, qun, kindOf, allocV, true_and, and_true, and_self, List.nil_append, List.append_nil, List.cons_append, List.length_cons, List.length_nil, Nat.reduceAdd, Nat.reduceEqDiff, Nat.reduceLT, Nat.reduceSub, Nat.reduceMul, Int.reduceToNat, Int.reduceLE, Int.reduceLT, Int.reduceEq, Int.reduceNeg, Int.reduceAdd, Int.reduceSub, Bool.true_and, Bool.and_true, Bool.and_self, Bool.false_and, Bool.and_false, Bool.not_true, Bool.not_false, beq_self_eq_true, cond_true, cond_false, decide_true, decide_false, isConstOpd, xpanic, xconv, isBytes, qconv, List.length_map, List.map_nil, List.map_cons, concrete, Option.some.injEq, exists_eq', Int.toNat_natCast, Option.map_some, Option.map_none, List.getElem?_cons_zero, List.getElem?_cons_succ, zw23, rs23, tt3, tt23, tt29, tt32, tt34, tt39, tt44, ti3, ti23, ti29, ti32, ti34, ti39, ti44, t_70, t_25, zs_Rule_Env, zs_Api_Body, zs_Api_Input, zs_Trap_Fault, zs_Api_Op, zsl23, zsl32, r1, r2.1, r2.2]
    repeat' ((first | (refine condW_b ?_ ?_ <;> intro hc) | (refine wantO_s ?_ ?_ <;> intro hc) | (refine wantD_s _ _ _ _ ?_ ?_ <;> intro hc) | (refine bindO_i ?_ ?_ <;> intro hc) | (refine bindE_i _ _ _ _ ?_ ?_ <;> intro hc)) <;> (try simp only [decide_eq_true_eq, decide_eq_false_iff_not, Bool.or_eq_true, Bool.and_eq_true, Bool.not_eq_true, Bool.not_eq_false, Bool.not_not, Classical.not_not, Int.not_le, Int.not_lt, Bool.not_eq_true', Bool.not_eq_false'] at hc) <;> (try have hw := within_spec hc) <;> (try simp -dsimp (disch := first | assumption | omega | (simp only [Hp.bump_n, Hp.znew_n, Hp.zset_n, List.length_nil, List.length_cons, List.length_append, List.length_map]; (first | done | omega)) | (simp (disch := first | omega | (simp only [Hp.bump_n, Hp.znew_n, Hp.zset_n, List.length_nil, List.length_cons, List.length_append, List.length_map]; (first | done | omega))) only [zheap]; done) | (simp (disch := first | omega | (simp only [Hp.bump_n, Hp.znew_n, Hp.zset_n, List.length_nil, List.length_cons, List.length_append, List.length_map]; (first | done | omega))) only [zheap]; rfl)) only [zall, zopm, zop, zcallOp, qop, qbuiltin, ofOpt, List.map, reduceCtorEq, if_true, if_false, ↓reduceIte, zbin, eqRes, qassert, qnum, qshift, qun, kindOf, allocV, true_and, and_true, and_self, List.nil_append, List.append_nil, List.cons_append, List.length_cons, List.length_nil, Nat.reduceAdd, Nat.reduceEqDiff, Nat.reduceLT, Nat.reduceSub, Nat.reduceMul, Int.reduceToNat, Int.reduceLE, Int.reduceLT, Int.reduceEq, Int.reduceNeg, Int.reduceAdd, Int.reduceSub, Bool.true_and, Bool.and_true, Bool.and_self, Bool.false_and, Bool.and_false, Bool.not_true, Bool.not_false, beq_self_eq_true, cond_true, cond_false, decide_true, decide_false, isConstOpd, xpanic, xconv, isBytes, qconv, List.length_map, List.map_nil, List.map_cons, concrete, Option.some.injEq, exists_eq', Int.toNat_natCast, Option.map_some, Option.map_none, List.getElem?_cons_zero, List.getElem?_cons_succ, zw23, rs23, tt3, tt23, tt29, tt32, tt34, tt39, tt44, ti3, ti23, ti29, ti32, ti34, ti39, ti44, t_70, t_25, zs_Rule_Env, zs_Api_Body, zs_Api_Input, zs_Trap_Fault, zs_Api_Op, zsl23, zsl32, r1, r2.1, r2.2, hc]))
    exact shr_keep hF (fun k o h => by have hd := hF.dom k o h; (try simp (disch := first | assumption | omega | (simp only [Hp.bump_n, Hp.znew_n, Hp.zset_n, List.length_nil, List.length_cons, List.length_append, List.length_map]; (first | done | omega))) only [Hp.bump_get, Hp.get_set_ne, Hp.get_new_ne, Hp.bump_n, Hp.znew_n, Hp.zset_n]); exact h) (weak_self (lt_of_no (by intro jj; simp [CV.has, CV.hasL, fault, Trap_thrown.nohas, Api_Body.nohas, Api_Input.nohas, Trap_Fault.nohas, Api_Op.nohas])))
end Go.Proofs.Ytpchcfkebljopaa
end
section
namespace Go.Proofs.Ytpchcfkebljopaa
open Go.Cl Go Go.RowKit
theorem brought_range {n lo hi : Int} (h : lo ≤ hi) : lo ≤ brought n lo hi ∧ brought n lo hi ≤ hi := by unfold brought; omega
theorem right_iff {b : Api_Body} (h : b.Kind ≠ 0) : Body.right b = true ↔ (∀ n ∈ b.Mem, -1000000 ≤ n ∧ n ≤ 1000000) ∧ (b.Kind = 1 ∨ b.Kind = 2) ∧ (0 ≤ b.Owner ∧ b.Owner ≤ 7) ∧ (0 ≤ b.X ∧ b.X ≤ 4095) ∧ (0 ≤ b.Y ∧ b.Y ≤ 4095) ∧ (-64 ≤ b.VX ∧ b.VX ≤ 64) ∧ (-64 ≤ b.VY ∧ b.VY ≤ 64) ∧ (0 ≤ b.Age ∧ b.Age ≤ 600) ∧ (0 ≤ b.Faults ∧ b.Faults ≤ 65535) := by
  unfold Body.right
  rw [if_neg h]
  simp [within, and_assoc]
theorem right_shoot {b : Api_Body} (h : Body.right b = true) (hk : b.Kind ≠ 0) (vx vy : Int) : Body.right (bodyShoot b vx vy) = true ∧ (bodyShoot b vx vy).Kind = 2 ∧ (bodyShoot b vx vy).Owner = b.Owner := by
  have r := (right_iff hk).1 h
  have h1 := brought_range (n := vx) (lo := -64) (hi := 64) (by omega)
  have h2 := brought_range (n := vy) (lo := -64) (hi := 64) (by omega)
  unfold bodyShoot
  rw [if_pos ⟨h, hk⟩]
  refine ⟨(right_iff (by simp)).2 ⟨?_, .inr rfl, r.2.2.1, r.2.2.2.1, r.2.2.2.2.1, h1, h2, by simp [Api_Body.zero], by simp [Api_Body.zero]⟩, rfl, rfl⟩
  intro n hn
  have : n = 0 := by simpa [Api_Body.zero] using hn
  omega
theorem right_put7 {b : Api_Body} (h : Body.right b = true) (hk : b.Kind ≠ 0) (k : Nat) (n : Int) (hn : -1000000 ≤ n ∧ n ≤ 1000000) : Body.right (b.put_7k k n) = true := by
  have r := (right_iff hk).1 h
  refine (right_iff (b := b.put_7k k n) hk).2 ⟨?_, r.2⟩
  intro x hx
  rcases List.mem_or_eq_of_mem_set hx with h | h
  · exact r.1 x h
  · rw [h]; exact hn
structure InvE (e g : Rule_Env) : Prop where
  right : Body.right g.Body = true
  kind : g.Body.Kind = e.Body.Kind
  owner : g.Body.Owner = e.Body.Owner
  age : g.Body.Age = e.Body.Age
  faults : g.Body.Faults = e.Body.Faults
  inp : g.In = e.In
  room : g.Room = e.Room
  len : (g.Shots.l.length : Int) ≤ e.Room
  shots : ∀ s ∈ g.Shots.l, Body.right s = true ∧ s.Kind = 2 ∧ s.Owner = e.Body.Owner
theorem InvE.set {e : Rule_Env} {m : Rule_machine} (h : InvE e m.e_) (hk : e.Body.Kind ≠ 0) (k : Nat) (n : Int) : InvE e (Mach.set m k n).e_ :=
  ⟨right_put7 h.right (by rw [h.kind]; exact hk) k _ (brought_range (by omega)), h.kind, h.owner, h.age, h.faults, h.inp, h.room, h.len, h.shots⟩
theorem InvE.put {e : Rule_Env} {m : Rule_machine} (h : InvE e m.e_) (hk : e.Body.Kind ≠ 0) (k n : Int) : InvE e (Mach.put m k n).e_ := by
  have hk' : m.e_.Body.Kind ≠ 0 := by rw [h.kind]; exact hk
  have r := (right_iff hk').1 h.right
  have h1 := brought_range (n := n) (lo := 0) (hi := 4095) (by omega)
  have h2 := brought_range (n := n) (lo := -64) (hi := 64) (by omega)
  obtain ⟨r1, r2, r3, r4, r5, r6, r7, r8, r9⟩ := r
  unfold Mach.put Mach.body
  simp only
  split
  · exact ⟨(right_iff (by exact hk')).2 ⟨r1, r2, r3, h1, r5, r6, r7, r8, r9⟩, h.kind, h.owner, h.age, h.faults, h.inp, h.room, h.len, h.shots⟩
  split
  · exact ⟨(right_iff (by exact hk')).2 ⟨r1, r2, r3, r4, h1, r6, r7, r8, r9⟩, h.kind, h.owner, h.age, h.faults, h.inp, h.room, h.len, h.shots⟩
  split
  · exact ⟨(right_iff (by exact hk')).2 ⟨r1, r2, r3, r4, r5, h2, r7, r8, r9⟩, h.kind, h.owner, h.age, h.faults, h.inp, h.room, h.len, h.shots⟩
  · exact ⟨(right_iff (by exact hk')).2 ⟨r1, r2, r3, r4, r5, r6, h2, r8, r9⟩, h.kind, h.owner, h.age, h.faults, h.inp, h.room, h.len, h.shots⟩
theorem InvE.shoot {e : Rule_Env} {m : Rule_machine} (h : InvE e m.e_) (hk : e.Body.Kind ≠ 0) (a b : Int) (hlt : (m.e_.Shots.l.length : Int) < m.e_.Room) : InvE e { m.e_ with Shots := ⟨.part, m.e_.Shots.l ++ [bodyShoot m.e_.Body a b], nofun⟩ } := by
  have hs := right_shoot h.right (by rw [h.kind]; exact hk) a b
  refine ⟨h.right, h.kind, h.owner, h.age, h.faults, h.inp, h.room, ?_, ?_⟩
  · have := h.room
    simp only [List.length_append, List.length_cons, List.length_nil]
    omega
  · intro s hs'
    rcases List.mem_append.1 hs' with h' | h'
    · exact h.shots s h'
    · have : s = bodyShoot m.e_.Body a b := by simpa using h'
      rw [this]
      exact ⟨hs.1, hs.2.1, by rw [hs.2.2]; exact h.owner⟩
theorem InvE.dice {e : Rule_Env} {m : Rule_machine} (h : InvE e m.e_) (d : Int) : InvE e ({ m with e_ := { m.e_ with Dice := d } } : Rule_machine).e_ := ⟨h.right, h.kind, h.owner, h.age, h.faults, h.inp, h.room, h.len, h.shots⟩
theorem reckon_inv {e : Rule_Env} {m m' : Rule_machine} (h : InvE e m.e_) (hk : e.Body.Kind ≠ 0) {o : Api_Op} (hr : Mach.reckon m o = .ok m') : InvE e m'.e_ := by
  unfold Mach.reckon at hr
  simp only at hr
  repeat' (split at hr)
  all_goals first
    | (cases hr; done)
    | (cases hr; exact h.set hk _ _)
    | (cases hr; exact InvE.set (h.dice _) hk _ _)
    | (rename_i hlt; cases hr; exact h.shoot hk _ _ hlt)
theorem reckon_err {m : Rule_machine} {o : Api_Op} {c : Int} (hr : Mach.reckon m o = .error c) : 1 ≤ c ∧ c ≤ 7 := by
  unfold Mach.reckon at hr
  simp only at hr
  repeat' (split at hr)
  all_goals first
    | (cases hr; done)
    | (cases hr; omega)
theorem doOp_inv {e : Rule_Env} {m : Rule_machine} {r : Rule_machine × Int} (h : InvE e m.e_) (hk : e.Body.Kind ≠ 0) {o : Api_Op} (hr : Mach.doOp m o = .ok r) : InvE e r.1.e_ := by
  unfold Mach.doOp at hr
  repeat' (split at hr)
  all_goals first
    | (cases hr; done)
    | (cases hr; exact h.set hk _ _)
    | (cases hr; exact h.put hk _ _)
    | (cases hr; exact h)
    | (rename_i hq; cases hr; exact reckon_inv h hk hq)
theorem doOp_err {m : Rule_machine} {o : Api_Op} {c : Int} (hr : Mach.doOp m o = .error c) : 1 ≤ c ∧ c ≤ 7 := by
  unfold Mach.doOp at hr
  repeat' (split at hr)
  all_goals first
    | (cases hr; done)
    | (cases hr; omega)
    | (rename_i hq; cases hr; exact reckon_err hq)
theorem run_inv {e : Rule_Env} (hk : e.Body.Kind ≠ 0) : ∀ (k : Nat) (m : Rule_machine), InvE e m.e_ → 0 ≤ m.at_ → match Mach.run k m with | .ok m' => InvE e m'.e_ | .error c => 1 ≤ c.1 ∧ c.1 ≤ 7 ∧ 0 ≤ c.2 ∧ c.2 < m.l_.l.length
  | k, m, h, ha => by
    unfold Mach.run
    by_cases hlt : m.at_ < m.l_.l.length
    · rw [if_pos hlt]
      cases k with
      | zero => exact ⟨by omega, by omega, ha, hlt⟩
      | succ k =>
        simp only
        cases hq : Mach.doOp m (nth m.l_.l m.at_.toNat) with
        | error c => exact ⟨(doOp_err hq).1, (doOp_err hq).2, ha, hlt⟩
        | ok r =>
          obtain ⟨m2, n⟩ := r
          have hd := doOp_inv h hk hq
          have kk := Mach.doOp_keeps hq ha hlt
          have ih := run_inv hk k { m2 with at_ := n } hd kk.2.2.2.2.1
          have hl2 : m2.l_ = m.l_ := kk.2.1
          simp only [hl2] at ih ⊢
          exact ih
    · rw [if_neg hlt]; exact h
theorem envOf_kind (x : Law12_RawEnv) : (envOf x).Body.Kind = 1 := by
  have : ∀ (l : List Int) (n : Nat) (b : Api_Body), (memN l n b).Kind = b.Kind := by
    intro l n; induction n with
    | zero => intro b; rfl
    | succ n ih => intro b; exact ih b
  unfold envOf
  simp only
  split
  · simp [this, bodyBorn]
  · simp [this, bodyBorn]
theorem rule_total (x : Law12_RawEnv) (l : Lst Api_Op) (hr : Body.right (envOf x).Body = true) :
    ((ruleRun l (envOf x)).2.2 = true → (ruleRun l (envOf x)).2.1 = ⟨0, 0⟩ ∧ InvE (envOf x) (ruleRun l (envOf x)).1) ∧
    ((ruleRun l (envOf x)).2.2 = false → (1 ≤ (ruleRun l (envOf x)).2.1.Code ∧ (ruleRun l (envOf x)).2.1.Code ≤ 7 ∧ 0 ≤ (ruleRun l (envOf x)).2.1.At ∧ (ruleRun l (envOf x)).2.1.At < l.l.length) ∧ sameE (ruleRun l (envOf x)).1 (envOf x) = true) := by
  have hk := envOf_kind x
  have hi : InvE (envOf x) (copiedE (envOf x)) := by
    have hp := pick_range (n := x.Room) (m := 8) (by omega)
    refine ⟨hr, rfl, rfl, rfl, rfl, rfl, rfl, ?_, ?_⟩
    · simp [copiedE, cloneP, envOf, Rule_Env.zero]; exact hp.1
    · intro s hs; simp [copiedE, cloneP, envOf, Rule_Env.zero] at hs
  have hrun := run_inv (by omega) 64 ⟨copiedE (envOf x), l, 0⟩ hi (by simp)
  have hsame : sameE (copiedE (envOf x)) (envOf x) = true := by simp [sameE, copiedE, cloneP_l]
  unfold ruleRun
  rw [if_neg (by rw [hr, hk]; simp)]
  cases hq : Mach.run 64 ⟨copiedE (envOf x), l, 0⟩ with
  | ok m => rw [hq] at hrun; exact ⟨fun _ => ⟨rfl, hrun⟩, fun h => (by cases h)⟩
  | error c => rw [hq] at hrun; exact ⟨fun h => (by cases h), fun _ => ⟨hrun, hsame⟩⟩
end Go.Proofs.Ytpchcfkebljopaa
end
section
namespace Go.Proofs.Ytpchcfkebljopaa
open Go.Cl Go Go.RowKit
set_option maxRecDepth 100000
set_option linter.constructorNameAsVariable false
end Go.Proofs.Ytpchcfkebljopaa
end
section
namespace Go.Cl
open Go.RowKit Go.ChangeShapes Go.WideShapes Go.ChangeAt
def consB (P : Program) : Nat → List Field → Nat → Bool
  | off, [], tot => off == tot
  | off, f :: l, tot => f.offset == off && consB P (off + P.cellsOf f.type) l tot
def sup (P : Program) : Nat → TypeId → Bool
  | 0, _ => false
  | n + 1, t => match P.underlying t with
    | some (.int _) | some .bool | some (.float _) | some .string => true
    | some (.struct fs) => consB P 0 fs.toList (P.cellsOf t) && fs.toList.all fun f => sup P n f.type
    | some (.array c e) => (P.cellsOf t == c * P.cellsOf e) && sup P n e
    | _ => false
def All2 (r : TypeId → CV → Prop) : List TypeId → List CV → Prop
  | [], [] => True
  | t :: ts, v :: l => r t v ∧ All2 r ts l
  | _, _ => False
def Ty (P : Program) : Nat → TypeId → CV → Prop
  | 0, _, _ => False
  | n + 1, t, v => match P.underlying t with
    | some (.int k) => ∃ i, v = .sc (.int k i) ∧ (Lit.int k i).wf = true
    | some .bool => ∃ b, v = .sc (.bool b)
    | some (.float k) => ∃ b, v = .sc (.float k b) ∧ (Lit.float k b).wf = true
    | some .string => ∃ s, v = .sc (.string s) ∧ s.size ≤ maxLen
    | some (.struct fs) => ∃ l, v = .agg l ∧ All2 (Ty P n) (fs.toList.map (·.type)) l
    | some (.array c e) => ∃ l, v = .agg l ∧ l.length = c ∧ ∀ x ∈ l, Ty P n e x
    | _ => False
variable {H : Type} {enc : TypeId × Value → H} {P : Program} {w : World} {base : Nat} {spare : Nat → Bool} {held : Bool}
theorem read_fields {n fuel : Nat} (S : St) (ih : ∀ t cs x, sup P n t = true → DataW.trod enc P w base spare held fuel t cs = some x → ∃ v, FR S v cs ∧ Ty P n t v) (cs : List Value) :
    ∀ (fl : List Field) (off tot : Nat) (xs : List (DataW H × List MemPlace)), consB P off fl tot = true → cs.length = tot → (fl.all fun f => sup P n f.type) = true →
      (fl.mapM fun f => DataW.trod enc P w base spare held fuel f.type ((cs.drop f.offset).take (P.cellsOf f.type))) = some xs → ∃ l, FRs S l (cs.drop off) ∧ All2 (Ty P n) (fl.map (·.type)) l
  | [], off, tot, xs, hc, hl, _, _ => by
    simp only [consB, beq_iff_eq] at hc
    subst hc
    exact ⟨[], by simp [FRs, hl], trivial⟩
  | f :: fl, off, tot, xs, hc, hl, ha, hm => by
    simp only [consB, Bool.and_eq_true, beq_iff_eq] at hc
    simp only [List.all_cons, Bool.and_eq_true] at ha
    simp only [List.mapM_cons, Option.pure_def, Option.bind_eq_bind, Option.bind_eq_some_iff] at hm
    obtain ⟨y, hy, ys, hys, _⟩ := hm
    obtain ⟨v, hv, tv⟩ := ih _ _ _ ha.1 hy
    obtain ⟨l, hl', tl⟩ := read_fields S ih cs fl _ tot ys hc.2 hl ha.2 hys
    refine ⟨v :: l, ?_, tv, tl⟩
    simp only [FRs]
    refine ⟨_, _, ?_, hv, hl'⟩
    rw [hc.1, ← List.drop_drop, List.take_append_drop]
theorem read_elems {n fuel sz : Nat} {e : TypeId} (S : St) (ih : ∀ t cs x, sup P n t = true → DataW.trod enc P w base spare held fuel t cs = some x → ∃ v, FR S v cs ∧ Ty P n t v) (he : sup P n e = true) (cs : List Value) :
    ∀ (c k : Nat) (xs : List (DataW H × List MemPlace)), cs.length = (k + c) * sz →
      ((List.range' k c).mapM fun i => DataW.trod enc P w base spare held fuel e ((cs.drop (i * sz)).take sz)) = some xs → ∃ l, FRs S l (cs.drop (k * sz)) ∧ l.length = c ∧ ∀ x ∈ l, Ty P n e x
  | 0, k, xs, hl, _ => ⟨[], by simp [FRs, hl], rfl, by simp⟩
  | c + 1, k, xs, hl, hm => by
    rw [List.range'_succ] at hm
    simp only [List.mapM_cons, Option.pure_def, Option.bind_eq_bind, Option.bind_eq_some_iff] at hm
    obtain ⟨y, hy, ys, hys, _⟩ := hm
    obtain ⟨v, hv, tv⟩ := ih _ _ _ he hy
    obtain ⟨l, hl', hn, tl⟩ := read_elems S ih he cs c (k + 1) ys (by rw [hl]; congr 1; omega) hys
    refine ⟨v :: l, ?_, by simp [hn], by simpa using ⟨tv, tl⟩⟩
    simp only [FRs]
    refine ⟨_, _, ?_, hv, hl'⟩
    rw [Nat.succ_mul, ← List.drop_drop, List.take_append_drop]
theorem read (S : St) : ∀ (n : Nat) (t : TypeId) (fuel : Nat) (cs : List Value) (x : DataW H × List MemPlace), sup P n t = true → DataW.trod enc P w base spare held fuel t cs = some x → ∃ v, FR S v cs ∧ Ty P n t v
  | 0, t, _, _, _, hs, _ => by simp [sup] at hs
  | n + 1, t, 0, _, _, _, h => by simp [DataW.trod] at h
  | n + 1, t, fuel + 1, cs, x, hs, h => by
    have h0 := h
    unfold DataW.trod at h
    simp only [sup] at hs
    cases hu : P.underlying t with
    | none => rw [hu] at hs; simp at hs
    | some u =>
      rw [hu] at hs h
      cases u with
      | int k =>
        obtain ⟨i, rfl, _, hw⟩ := DataW.trod_int hu h0
        exact ⟨.sc (.int k i), by simp [FR, plain], by simp only [Ty, hu]; exact ⟨i, rfl, hw⟩⟩
      | bool =>
        obtain ⟨b, rfl, _⟩ := DataW.trod_bool hu h0
        exact ⟨.sc (.bool b), by simp [FR, plain], by simp only [Ty, hu]; exact ⟨b, rfl⟩⟩
      | string =>
        obtain ⟨s, rfl, _, hw⟩ := DataW.trod_string hu h0
        exact ⟨.sc (.string s), by simp [FR, plain], by simp only [Ty, hu]; exact ⟨s, rfl, hw⟩⟩
      | float k =>
        simp only at h
        have hc : ∃ b, cs = [.float k b] ∧ (Lit.float k b).wf = true := by
          clear hs h0
          split at h <;> try (rename_i e; cases e; done)
          all_goals first | (cases h; done) | skip
          · rename_i k1 k2 b e
            split at h
            · rename_i hk
              cases e
              obtain ⟨rfl, hw⟩ := hk
              exact ⟨b, rfl, hw⟩
            · cases h
        obtain ⟨b, rfl, hw⟩ := hc
        exact ⟨.sc (.float k b), by simp [FR, plain], by simp only [Ty, hu]; exact ⟨b, rfl, hw⟩⟩
      | struct fs =>
        simp only [Bool.and_eq_true] at hs
        simp only at h
        split at h
        · rename_i hlen
          simp only [Option.map_eq_some_iff] at h
          obtain ⟨xs, hx, _⟩ := h
          obtain ⟨l, hl, tl⟩ := read_fields S (fun t cs x => read S n t fuel cs x) cs fs.toList 0 _ xs hs.1 hlen hs.2 hx
          exact ⟨.agg l, by simpa [FR] using hl, by simp only [Ty, hu]; exact ⟨l, rfl, tl⟩⟩
        · cases h
      | array c e =>
        simp only [Bool.and_eq_true, beq_iff_eq] at hs
        simp only at h
        split at h
        · rename_i hlen
          simp only [Option.map_eq_some_iff] at h
          obtain ⟨xs, hx, _⟩ := h
          rw [List.range_eq_range'] at hx
          obtain ⟨l, hl, hn, tl⟩ := read_elems S (fun t cs x => read S n t fuel cs x) hs.2 cs c 0 xs (by rw [hlen, hs.1]; simp) hx
          exact ⟨.agg l, by simpa [FR] using hl, by simp only [Ty, hu]; exact ⟨l, rfl, hn, tl⟩⟩
        · cases h
      | _ => simp at hs
theorem add_none {a : Addr} (ha : a.spot = none) (n : Nat) : a.add n = ⟨a.block, a.off + n, none⟩ := by
  cases a; simp only at ha; subst ha; unfold Addr.add; split <;> simp_all
theorem lies_cells {a : Addr} (ha : a.spot = none) {m : Nat} {cs : List Value} (h : w.cells? base a m = some cs) : (S0 w).lies a.block a.off cs ∧ cs.length = m := by
  unfold World.cells? at h
  split at h
  · refine ⟨fun j u hu => ?_, by simpa using mapM_some_length h⟩
    have hj : j < cs.length := by
      rcases Nat.lt_or_ge j cs.length with q | q
      · exact q
      · rw [List.getElem?_eq_none q] at hu; cases hu
    have hl : cs.length = m := by simpa using mapM_some_length h
    have := mapM_some_get h j j (List.getElem?_range (by omega))
    rw [hu] at this
    simp only [S0]
    rw [← this]
    rw [add_none ha]
  · cases h
theorem read_slice {n fuel sz : Nat} {e : TypeId} {a : Addr} (he : sup P n e = true) (hsz : P.cellsOf e = sz) (ha : a.spot = none) :
    ∀ (c k : Nat) (xs : List (DataW H × List MemPlace)),
      ((List.range' k c).mapM fun i => (w.cells? base (a.add (i * sz)) sz).bind (DataW.trod enc P w base spare held fuel e)) = some xs →
        ∃ l es, FRs (S0 w) l es ∧ l.length = c ∧ (∀ x ∈ l, Ty P n e x) ∧ (S0 w).lies a.block (a.off + k * sz) es ∧ es.length = c * sz ∧ ∀ x ∈ l, x.size = sz
  | 0, k, xs, _ => ⟨[], [], by simp [FRs], rfl, by simp, fun j u hu => by simp at hu, by simp, by simp⟩
  | c + 1, k, xs, hm => by
    rw [List.range'_succ] at hm
    simp only [List.mapM_cons, Option.pure_def, Option.bind_eq_bind, Option.bind_eq_some_iff] at hm
    obtain ⟨y, ⟨cs, hcs, hy⟩, ys, hys, _⟩ := hm
    obtain ⟨v, hv, tv⟩ := read (S0 w) n e fuel cs y he hy
    obtain ⟨l, es, h1, h2, h3, h4, h5, h6⟩ := read_slice he hsz ha c (k + 1) ys hys
    obtain ⟨hl, hn⟩ := lies_cells (a := a.add (k * sz)) (by rw [add_none ha]) hcs
    rw [add_none ha] at hl
    refine ⟨v :: l, cs ++ es, by simp only [FRs]; exact ⟨_, _, rfl, hv, h1⟩, by simp [h2], by simpa using ⟨tv, h3⟩, fun j u hu => ?_, by simp [hn, h5, Nat.succ_mul]; omega, ?_⟩
    · rw [List.getElem?_append] at hu
      split at hu
      · have := hl j u hu
        simpa [Nat.add_assoc] using this
      · rename_i hj
        have := h4 _ u hu
        rw [hn] at this hj
        rw [← this]
        congr 1
        rw [Nat.succ_mul]; omega
    · intro x hx
      rcases List.mem_cons.1 hx with rfl | hx
      · rw [← FR.length _ _ hv, hn]
      · exact h6 x hx
end Go.Cl
end
section
namespace Go.Cl
open Go.RowKit Go.ChangeShapes Go.WideShapes Go.ChangeAt
def sup2 (P : Program) : Nat → TypeId → Bool
  | 0, _ => false
  | n + 1, t => match P.underlying t with
    | some (.int _) | some .bool | some (.float _) | some .string => true
    | some (.slice e) => sup P n e
    | some (.struct fs) => consB P 0 fs.toList (P.cellsOf t) && fs.toList.all fun f => sup2 P n f.type
    | some (.array c e) => (P.cellsOf t == c * P.cellsOf e) && sup2 P n e
    | _ => false
def Ty2 (P : Program) : Nat → TypeId → CV → Prop
  | 0, _, _ => False
  | n + 1, t, v => match P.underlying t with
    | some (.int k) => ∃ i, v = .sc (.int k i) ∧ (Lit.int k i).wf = true
    | some .bool => ∃ b, v = .sc (.bool b)
    | some (.float k) => ∃ b, v = .sc (.float k b) ∧ (Lit.float k b).wf = true
    | some .string => ∃ s, v = .sc (.string s) ∧ s.size ≤ maxLen
    | some (.slice e) => ∃ tl l, v = .lst tl l ∧ (∀ x ∈ l, Ty2 P n e x) ∧ (tl = .view ∨ tl = .nil ∧ l = [])
    | some (.struct fs) => ∃ l, v = .agg l ∧ All2 (Ty2 P n) (fs.toList.map (·.type)) l
    | some (.array c e) => ∃ l, v = .agg l ∧ l.length = c ∧ ∀ x ∈ l, Ty2 P n e x
    | _ => False
theorem All2.mono {r r' : TypeId → CV → Prop} (h : ∀ t v, r t v → r' t v) : ∀ ts l, All2 r ts l → All2 r' ts l
  | [], [], _ => trivial
  | _ :: ts, _ :: l, ⟨a, b⟩ => ⟨h _ _ a, All2.mono h ts l b⟩
  | [], _ :: _, k => k.elim
  | _ :: _, [], k => k.elim
theorem Ty.up {P : Program} : ∀ (n : Nat) (t : TypeId) (v : CV), Ty P n t v → Ty2 P n t v
  | 0, _, _, h => h.elim
  | n + 1, t, v, h => by
    simp only [Ty] at h
    simp only [Ty2]
    cases hu : P.underlying t with
    | none => rw [hu] at h; exact h.elim
    | some u =>
      rw [hu] at h
      cases u with
      | struct fs =>
        obtain ⟨l, hl, ha⟩ := h
        exact ⟨l, hl, All2.mono (fun t v => Ty.up n t v) _ _ ha⟩
      | array c e =>
        obtain ⟨l, hl, hn, ha⟩ := h
        exact ⟨l, hl, hn, fun x hx => Ty.up n _ x (ha x hx)⟩
      | int k => exact h
      | bool => exact h
      | float k => exact h
      | string => exact h
      | _ => exact h.elim
variable {H : Type} {enc : TypeId × Value → H} {P : Program} {w : World} {base : Nat} {spare : Nat → Bool} {held : Bool}
def SlOk (cs : List Value) : Prop := ∀ x ∈ cs, ∀ a len cap, x = .slice (some a) len cap → a.spot = none ∧ len ≤ cap
theorem read2_fields {n fuel : Nat} (S : St) (ih : ∀ t cs x, SlOk cs → sup2 P n t = true → DataW.trod enc P w base spare held fuel t cs = some x → ∃ v, FR S v cs ∧ Ty2 P n t v) (cs : List Value) (hk : SlOk cs) :
    ∀ (fl : List Field) (off tot : Nat) (xs : List (DataW H × List MemPlace)), consB P off fl tot = true → cs.length = tot → (fl.all fun f => sup2 P n f.type) = true →
      (fl.mapM fun f => DataW.trod enc P w base spare held fuel f.type ((cs.drop f.offset).take (P.cellsOf f.type))) = some xs → ∃ l, FRs S l (cs.drop off) ∧ All2 (Ty2 P n) (fl.map (·.type)) l
  | [], off, tot, xs, hc, hl, _, _ => by
    simp only [consB, beq_iff_eq] at hc
    subst hc
    exact ⟨[], by simp [FRs, hl], trivial⟩
  | f :: fl, off, tot, xs, hc, hl, ha, hm => by
    simp only [consB, Bool.and_eq_true, beq_iff_eq] at hc
    simp only [List.all_cons, Bool.and_eq_true] at ha
    simp only [List.mapM_cons, Option.pure_def, Option.bind_eq_bind, Option.bind_eq_some_iff] at hm
    obtain ⟨y, hy, ys, hys, _⟩ := hm
    obtain ⟨v, hv, tv⟩ := ih _ _ _ (fun x hx => hk x (List.mem_of_mem_drop (List.mem_of_mem_take hx))) ha.1 hy
    obtain ⟨l, hl', tl⟩ := read2_fields S ih cs hk fl _ tot ys hc.2 hl ha.2 hys
    refine ⟨v :: l, ?_, tv, tl⟩
    simp only [FRs]
    refine ⟨_, _, ?_, hv, hl'⟩
    rw [hc.1, ← List.drop_drop, List.take_append_drop]
theorem read2_elems {n fuel sz : Nat} {e : TypeId} (S : St) (ih : ∀ t cs x, SlOk cs → sup2 P n t = true → DataW.trod enc P w base spare held fuel t cs = some x → ∃ v, FR S v cs ∧ Ty2 P n t v) (he : sup2 P n e = true) (cs : List Value) (hk : SlOk cs) :
    ∀ (c k : Nat) (xs : List (DataW H × List MemPlace)), cs.length = (k + c) * sz →
      ((List.range' k c).mapM fun i => DataW.trod enc P w base spare held fuel e ((cs.drop (i * sz)).take sz)) = some xs → ∃ l, FRs S l (cs.drop (k * sz)) ∧ l.length = c ∧ ∀ x ∈ l, Ty2 P n e x
  | 0, k, xs, hl, _ => ⟨[], by simp [FRs, hl], rfl, by simp⟩
  | c + 1, k, xs, hl, hm => by
    rw [List.range'_succ] at hm
    simp only [List.mapM_cons, Option.pure_def, Option.bind_eq_bind, Option.bind_eq_some_iff] at hm
    obtain ⟨y, hy, ys, hys, _⟩ := hm
    obtain ⟨v, hv, tv⟩ := ih _ _ _ (fun x hx => hk x (List.mem_of_mem_drop (List.mem_of_mem_take hx))) he hy
    obtain ⟨l, hl', hn, tl⟩ := read2_elems S ih he cs hk c (k + 1) ys (by rw [hl]; congr 1; omega) hys
    refine ⟨v :: l, ?_, by simp [hn], by simpa using ⟨tv, tl⟩⟩
    simp only [FRs]
    refine ⟨_, _, ?_, hv, hl'⟩
    rw [Nat.succ_mul, ← List.drop_drop, List.take_append_drop]
theorem read2 : ∀ (n : Nat) (t : TypeId) (fuel : Nat) (cs : List Value) (x : DataW H × List MemPlace), SlOk cs → sup2 P n t = true → DataW.trod enc P w base spare held fuel t cs = some x → ∃ v, FR (S0 w) v cs ∧ Ty2 P n t v
  | 0, t, _, _, _, _, hs, _ => by simp [sup2] at hs
  | n + 1, t, 0, _, _, _, _, h => by simp [DataW.trod] at h
  | n + 1, t, fuel + 1, cs, x, hk, hs, h => by
    have h0 := h
    simp only [sup2] at hs
    cases hu : P.underlying t with
    | none => rw [hu] at hs; simp at hs
    | some u =>
      rw [hu] at hs
      cases u with
      | int k =>
        obtain ⟨v, h1, h2⟩ := read (S0 w) (n + 1) t (fuel + 1) cs x (by simp only [sup, hu]) h0
        exact ⟨v, h1, Ty.up _ _ _ h2⟩
      | bool =>
        obtain ⟨v, h1, h2⟩ := read (S0 w) (n + 1) t (fuel + 1) cs x (by simp only [sup, hu]) h0
        exact ⟨v, h1, Ty.up _ _ _ h2⟩
      | string =>
        obtain ⟨v, h1, h2⟩ := read (S0 w) (n + 1) t (fuel + 1) cs x (by simp only [sup, hu]) h0
        exact ⟨v, h1, Ty.up _ _ _ h2⟩
      | float k =>
        obtain ⟨v, h1, h2⟩ := read (S0 w) (n + 1) t (fuel + 1) cs x (by simp only [sup, hu]) h0
        exact ⟨v, h1, Ty.up _ _ _ h2⟩
      | slice e =>
        simp only at hs
        simp only [DataW.trod, hu] at h
        split at h <;> try (rename_i e1 _; cases e1; done)
        all_goals try (cases h; done)
        all_goals try (rename_i e1; cases e1; done)
        · exact ⟨.lst .nil [], by simp [FR, Tail.mayNil], by simp only [Ty2, hu]; exact ⟨.nil, [], rfl, by simp, .inr ⟨rfl, rfl⟩⟩⟩
        · rename_i e' a len cap e1
          cases e1
          obtain ⟨ha, hlc⟩ := hk _ (.head _) a len cap rfl
          split at h
          · rw [Option.bind_eq_some_iff] at h
            obtain ⟨xs, hx, _⟩ := h
            rw [List.range_eq_range'] at hx
            obtain ⟨l, es, h1, h2, h3, h4, h5, h6⟩ := read_slice hs rfl ha len 0 xs hx
            subst h2
            refine ⟨.lst .view l, ?_, by simp only [Ty2, hu]; exact ⟨.view, l, rfl, fun x hx => Ty.up _ _ _ (h3 x hx), .inl rfl⟩⟩
            simp only [FR]
            refine .inr ⟨a.block, a.off, cap, P.cellsOf e, es, ?_, hlc, h1, by simpa using h4, h6, trivial⟩
            cases a; simp only at ha; subst ha; rfl
          · cases h
      | struct fs =>
        simp only [Bool.and_eq_true] at hs
        unfold DataW.trod at h
        rw [hu] at h
        simp only at h
        split at h
        · rename_i hlen
          simp only [Option.map_eq_some_iff] at h
          obtain ⟨xs, hx, _⟩ := h
          obtain ⟨l, hl, tl⟩ := read2_fields (S0 w) (fun t cs x => read2 n t fuel cs x) cs hk fs.toList 0 _ xs hs.1 hlen hs.2 hx
          exact ⟨.agg l, by simpa [FR] using hl, by simp only [Ty2, hu]; exact ⟨l, rfl, tl⟩⟩
        · cases h
      | array c e =>
        simp only [Bool.and_eq_true, beq_iff_eq] at hs
        unfold DataW.trod at h
        rw [hu] at h
        simp only at h
        split at h
        · rename_i hlen
          simp only [Option.map_eq_some_iff] at h
          obtain ⟨xs, hx, _⟩ := h
          rw [List.range_eq_range'] at hx
          obtain ⟨l, hl, hn, tl⟩ := read2_elems (S0 w) (fun t cs x => read2 n t fuel cs x) hs.2 cs hk c 0 xs (by rw [hlen, hs.1]; simp) hx
          exact ⟨.agg l, by simpa [FR] using hl, by simp only [Ty2, hu]; exact ⟨l, rfl, hn, tl⟩⟩
        · cases h
      | _ => simp at hs
theorem slOk_cell {r : Reach} {b0 : Nat} {t : TypeId} {v : Value} (h : Cell.okWide P w r b0 t v) : ∀ a len cap, v = .slice (some a) len cap → a.spot = none ∧ len ≤ cap := by
  rintro a len cap rfl
  unfold Cell.okWide at h
  split at h <;> try (rename_i e1; cases e1; done)
  all_goals try (rename_i e1 _; cases e1; done)
  unfold Cell.ok at h
  split at h <;> try (rename_i e1; cases e1; done)
  all_goals try (rename_i e1 _; cases e1; done)
  all_goals try (exact h.elim)
  rename_i e1
  cases e1
  exact ⟨h.2.2.2.1, h.1⟩
theorem slOk_of {r : Reach} {b0 : Nat} {t : TypeId} {v : Value} (hv : Value.okWide P w r b0 t v) : SlOk v.cells.toList := by
  unfold Value.okWide at hv
  split at hv
  · obtain ⟨cs, rfl, _, ts, _, _, hc⟩ := hv
    intro x hx
    obtain ⟨i, hi, e⟩ := List.getElem_of_mem hx
    simp only [Value.cells] at hi e
    obtain ⟨u, _, hu⟩ := hc i x (by simp at hi e; simp [hi, e])
    exact slOk_cell hu
  · obtain ⟨cs, rfl, _, ts, _, _, hc⟩ := hv
    intro x hx
    obtain ⟨i, hi, e⟩ := List.getElem_of_mem hx
    simp only [Value.cells] at hi e
    obtain ⟨u, _, hu⟩ := hc i x (by simp at hi e; simp [hi, e])
    exact slOk_cell hu
  · intro x hx a len cap e
    subst e
    cases v with
    | agg cs => exfalso; unfold Cell.okWide Cell.ok at hv; split at hv <;> simp_all
    | _ => simp [Value.cells] at hx <;> (obtain ⟨rfl, rfl, rfl⟩ := hx; exact slOk_cell hv _ _ _ rfl)
theorem arg_any {n : Nat} {t : TypeId} {v : Value} {d : DataW H} {ps : List MemPlace} {r : Reach} {b0 : Nat} (hs : sup2 P n t = true) (hv : Value.okWide P w r b0 t v) (h : DataW.Trod enc P w base spare held t v d ps) : ∃ c, VR (S0 w) c v ∧ Ty2 P n t c := by
  obtain ⟨fuel, hf⟩ := h
  obtain ⟨c, hc, ht⟩ := read2 n t fuel _ _ (slOk_of hv) hs hf
  refine ⟨c, ⟨hc, ?_⟩, ht⟩
  cases n with
  | zero => simp [sup2] at hs
  | succ n =>
    simp only [sup2] at hs
    simp only [Ty2] at ht
    unfold Value.okWide at hv
    cases hu : P.underlying t with
    | none => rw [hu] at hs; simp at hs
    | some u =>
      rw [hu] at hs ht hv
      cases u with
      | int k => obtain ⟨i, rfl, _⟩ := ht; simp only [Cell.okWide, Cell.ok, hu] at hv; cases v <;> simp_all [CV.isAgg]
      | bool => obtain ⟨i, rfl⟩ := ht; simp only [Cell.okWide, Cell.ok, hu] at hv; cases v <;> simp_all [CV.isAgg]
      | float k => obtain ⟨i, rfl, _⟩ := ht; simp only [Cell.okWide, Cell.ok, hu] at hv; cases v <;> simp_all [CV.isAgg]
      | string => obtain ⟨i, rfl, _⟩ := ht; simp only [Cell.okWide, Cell.ok, hu] at hv; cases v <;> simp_all [CV.isAgg]
      | slice e => obtain ⟨tl, l, rfl, _⟩ := ht; simp only [Cell.okWide, Cell.ok, hu] at hv; cases v <;> simp_all [CV.isAgg]
      | struct fs => obtain ⟨l, rfl, _⟩ := ht; obtain ⟨cs, rfl, _⟩ := hv; simp [CV.isAgg]
      | array c e => obtain ⟨l, rfl, _⟩ := ht; obtain ⟨cs, rfl, _⟩ := hv; simp [CV.isAgg]
      | _ => simp at hs
end Go.Cl
end
section
namespace Go.Proofs.Ytpchcfkebljopaa
open Go.Cl Go Go.ChangeShapes Go.WideShapes Go.ChangeAt Go.RowKit
set_option maxRecDepth 100000
set_option linter.constructorNameAsVariable false
theorem all2_cons {r : TypeId → CV → Prop} {t : TypeId} {ts : List TypeId} {l : List CV} (h : All2 r (t :: ts) l) : ∃ v l', l = v :: l' ∧ r t v ∧ All2 r ts l' := by
  cases l with
  | nil => exact h.elim
  | cons v l' => exact ⟨v, l', rfl, h⟩
theorem all2_nil {r : TypeId → CV → Prop} {l : List CV} (h : All2 r [] l) : l = [] := by
  cases l with
  | nil => rfl
  | cons v l' => exact h.elim
theorem of_list {α : Type} {f : α → CV} : ∀ {l : List CV}, (∀ x ∈ l, ∃ y, x = f y) → ∃ ys : List α, l = ys.map f
  | [], _ => ⟨[], rfl⟩
  | v :: l, h => by
    obtain ⟨x, rfl⟩ := h v (.head _)
    obtain ⟨xs, rfl⟩ := of_list (l := l) (fun y hy => h y (.tail _ hy))
    exact ⟨x :: xs, rfl⟩
theorem of_slice {α : Type} {f : α → CV} {P : Program} {n : Nat} {t e : TypeId} {v : CV} (hu : P.underlying t = some (.slice e)) (he : ∀ x, Ty2 P n e x → ∃ y : α, x = f y) (h : Ty2 P (n + 1) t v) : ∃ s : Lst α, v = s.cv f ∧ (s.tl = .view ∨ s.tl = .nil) := by
  simp only [Ty2, hu] at h
  obtain ⟨tl, l, rfl, hl, ht⟩ := h
  obtain ⟨ys, rfl⟩ := of_list (fun x hx => he x (hl x hx))
  rcases ht with rfl | ⟨rfl, h0⟩
  · exact ⟨⟨.view, ys, nofun⟩, rfl, .inl rfl⟩
  · exact ⟨⟨.nil, ys, fun _ => by simpa using h0⟩, rfl, .inr rfl⟩
def inI (i : Int) : Prop := -9223372036854775808 ≤ i ∧ i ≤ 9223372036854775807
theorem of_int {P : Program} {n : Nat} {t : TypeId} {v : CV} (hu : P.underlying t = some (.int .i64)) (h : Ty2 P (n + 1) t v) : ∃ i, v = I i ∧ inI i := by
  simp only [Ty2, hu] at h
  obtain ⟨i, rfl, hw⟩ := h
  simp only [Lit.wf, Bool.and_eq_true, decide_eq_true_eq] at hw
  exact ⟨i, rfl, hw⟩
theorem of_u64 {P : Program} {n : Nat} {t : TypeId} {v : CV} (hu : P.underlying t = some (.int .u64)) (h : Ty2 P (n + 1) t v) : ∃ i, v = U i ∧ 0 ≤ i ∧ i ≤ 18446744073709551615 := by
  simp only [Ty2, hu] at h
  obtain ⟨i, rfl, hw⟩ := h
  simp only [Lit.wf, Bool.and_eq_true, decide_eq_true_eq] at hw
  exact ⟨i, rfl, hw⟩
theorem of_struct {P : Program} {n : Nat} {t : TypeId} {v : CV} {fs : Array Field} (hu : P.underlying t = some (.struct fs)) (h : Ty2 P (n + 1) t v) : ∃ l, v = .agg l ∧ All2 (Ty2 P n) (fs.toList.map (·.type)) l := by
  simp only [Ty2, hu] at h
  exact h
theorem a3 {n : Nat} {v : CV} (h : Ty2 Try.prog (n + 1) 3 v) : ∃ i, v = I i ∧ inI i := of_int Try.underlying3 h
theorem a25 {n : Nat} {v : CV} (h : Ty2 Try.prog (n + 1) 25 v) : ∃ i, v = U i ∧ 0 ≤ i ∧ i ≤ 18446744073709551615 := of_u64 Try.underlying25 h
theorem a24 {n : Nat} {v : CV} (h : Ty2 Try.prog (n + 2) 24 v) : ∃ s : Lst Int, v = s.cv I ∧ (s.tl = .view ∨ s.tl = .nil) := of_slice Try.underlying24 (fun _ h => let ⟨i, e, _⟩ := a3 h; ⟨i, e⟩) h
theorem a31 {n : Nat} {v : CV} (h : Ty2 Try.prog (n + 2) 31 v) : ∃ x : Hand_RawOp, v = x.cv := by
  obtain ⟨l, rfl, hs⟩ := of_struct Try.underlying31 h
  replace h := hs
  obtain ⟨v0, l0, rfl, h0, h⟩ := all2_cons h
  obtain ⟨v1, l1, rfl, h1, h⟩ := all2_cons h
  obtain ⟨v2, l2, rfl, h2, h⟩ := all2_cons h
  obtain rfl := all2_nil h
  obtain ⟨x0, rfl, _⟩ := a3 (n := n) h0
  obtain ⟨x1, rfl, _⟩ := a3 (n := n) h1
  obtain ⟨x2, rfl, _⟩ := a3 (n := n) h2
  exact ⟨⟨x0, x1, x2⟩, rfl⟩
theorem a22 {n : Nat} {v : CV} (h : Ty2 Try.prog (n + 3) 22 v) : ∃ s : Lst Hand_RawOp, v = s.cv Hand_RawOp.cv ∧ (s.tl = .view ∨ s.tl = .nil) := of_slice Try.underlying22 (fun _ h => a31 h) h
theorem a27 {n : Nat} {v : CV} (h : Ty2 Try.prog (n + 3) 27 v) : ∃ x : Law12_RawEnv, v = x.cv ∧ inI x.StickX := by
  obtain ⟨l, rfl, hs⟩ := of_struct Try.underlying27 h
  replace h := hs
  obtain ⟨v0, l0, rfl, h0, h⟩ := all2_cons h
  obtain ⟨v1, l1, rfl, h1, h⟩ := all2_cons h
  obtain ⟨v2, l2, rfl, h2, h⟩ := all2_cons h
  obtain ⟨v3, l3, rfl, h3, h⟩ := all2_cons h
  obtain ⟨v4, l4, rfl, h4, h⟩ := all2_cons h
  obtain ⟨v5, l5, rfl, h5, h⟩ := all2_cons h
  obtain ⟨v6, l6, rfl, h6, h⟩ := all2_cons h
  obtain ⟨v7, l7, rfl, h7, h⟩ := all2_cons h
  obtain ⟨v8, l8, rfl, h8, h⟩ := all2_cons h
  obtain rfl := all2_nil h
  obtain ⟨x0, rfl, _⟩ := a3 (n := n + 1) h0
  obtain ⟨x1, rfl, _⟩ := a3 (n := n + 1) h1
  obtain ⟨x2, rfl, _⟩ := a3 (n := n + 1) h2
  obtain ⟨x3, rfl, _⟩ := a3 (n := n + 1) h3
  obtain ⟨x4, rfl, w4⟩ := a3 (n := n + 1) h4
  obtain ⟨x5, rfl, _⟩ := a3 (n := n + 1) h5
  obtain ⟨x6, rfl, _⟩ := a24 (n := n) h6
  obtain ⟨x7, rfl, _⟩ := a25 (n := n + 1) h7
  obtain ⟨x8, rfl, _⟩ := a3 (n := n + 1) h8
  exact ⟨⟨x0, x1, x2, x3, x4, x5, x6, x7, x8⟩, rfl, w4⟩
end Go.Proofs.Ytpchcfkebljopaa
end
section
namespace Go.Proofs.Ytpchcfkebljopaa
open Go.Cl Go Go.ChangeShapes Go.WideShapes Go.ChangeAt Go.RowKit
theorem Try.own : ownKnob Try.prog.godebug = none := by kernel_rfl
theorem Try.laidOut : laidOutB Try.prog = true := by kernel_rfl
theorem con_true {f : FuncId} {R : Rel} (h : Con C f R) {args : List CV} {vals : List Value} {w : World} (hR : R args ⟨0, .e⟩ (.ret (Bo true) ⟨0, .e⟩)) (hV : VRs (S0 w) args vals) :
    Calls C.P f vals.toArray w fun e w' => e = .returned (.bool true) ∧ Below w.heap.size w w' := by
  have r0 : XRel w w.heap.size (S0 w) ⟨0, .e⟩ w := ⟨R_init w, rfl, fun i sh v h => by simp [Cl.T.get_e] at h⟩
  have hc := (h.ok _ _ _ hR).2.2 w w.heap.size (S0 w) w vals r0 hV
  refine Calls.mono hc ?_
  rintro e w' ⟨S', x, _, r, hx, rfl⟩
  exact ⟨by rw [(VR_sc.1 hx).1], r.r.below⟩
end Go.Proofs.Ytpchcfkebljopaa
end
section
namespace Go.Proofs.Ytpchcfkebljopaa
open Go.Cl Go Go.RowKit
def opStays (o : Api_Op) : Bool := !decide (o.Code = 10) && !decide (o.Code = 9) && !decide (o.Code = 13)
def straightL (l : List Hand_RawOp) (k : Nat) : List Api_Op := ((l.take k).map handOp).filter opStays
def partL {α : Type} (l : List α) : Lst α := if h : l = [] then ⟨.nil, [], fun _ => rfl⟩ else ⟨.part, l, nofun⟩
theorem straightL_succ {l : List Hand_RawOp} {k : Nat} (h : k < l.length) : straightL l (k + 1) = straightL l k ++ (if opStays (handOp (nth l k)) then [handOp (nth l k)] else []) := by
  unfold straightL
  rw [List.take_add_one, nth_lt h]
  simp only [Option.toList, List.map_append, List.filter_append, List.map_cons, List.map_nil]
  cases hh : opStays (handOp (nth l k)) <;> simp [hh]
theorem straightL_len (l : List Hand_RawOp) (k : Nat) : (straightL l k).length ≤ k := by
  unfold straightL
  refine Nat.le_trans (List.length_filter_le _ _) ?_
  simp; omega
theorem weak_partL {α : Type} {f : α → CV} (hf : ∀ x j, ¬ (f x).has j) (s : Lst α) (k : Nat) (h : s.tl = .nil ∨ (∃ j, s.tl = .own j) ∧ 0 < s.l.length) : CV.weak (fun k => k) k (Lst.cv f s) (Lst.cv f (partL s.l)) := by
  have hl : ∀ l : List α, CV.weakL (fun k => k) k (l.map f) (l.map f) := fun l => CV.weakL_refl _ fun j hj => (hasL_map hf l j hj).elim
  obtain ⟨tl, l, o⟩ := s
  rcases h with h | ⟨⟨j, h⟩, h0⟩
  · simp only at h
    subst h
    have : l = [] := o rfl
    subst this
    simp [partL, Lst.cv, CV.weak, Tail.weak, CV.weakL]
  · simp only at h
    subst h
    have hne : l ≠ [] := by intro e; subst e; simp at h0
    simp only [partL, dif_neg hne, Lst.cv, CV.weak, Tail.weak, true_and]
    exact hl _
end Go.Proofs.Ytpchcfkebljopaa
end
section
namespace Go.Proofs.Ytpchcfkebljopaa
open Go.Cl Go Go.RowKit
set_option maxRecDepth 100000
set_option linter.constructorNameAsVariable false
def J27 (l : Lst Hand_RawOp) (p : Hp) (n : Nat) (ρ : Env) (q : Hp) : Prop :=
  ∃ (k : Nat) (acc : Lst Api_Op), n = 7 - k ∧ k ≤ 7 ∧ k ≤ l.l.length ∧ ρ 0 = l.cv Hand_RawOp.cv ∧ ρ 3 = acc.cv Api_Op.cv ∧ ρ 4 = I k ∧ acc.l = straightL l.l k ∧ (acc.tl = .nil ∨ ∃ j, acc.tl = .own j ∧ p.n ≤ j ∧ j < q.n ∧ q.t.get j = some (.tail acc.l.length) ∧ 0 < acc.l.length) ∧ p.n ≤ q.n ∧ HpLe p q
def R27 : Rel := fun args p r => ∃ (l : Lst Hand_RawOp), args = [l.cv Hand_RawOp.cv] ∧ r = .ret (Lst.cv Api_Op.cv (partL (straightL l.l 7))) p
theorem t27 {T : XCall} (h : Has T 27 R27) (l : Lst Hand_RawOp) {p : Hp}  : T 27 [l.cv Hand_RawOp.cv] p = .ret (Lst.cv Api_Op.cv (partL (straightL l.l 7))) p := h _ _ _ ⟨l, rfl, rfl⟩
set_option maxHeartbeats 8000000 in
theorem c27 : Con C 27 R27 := by
  refine con_of C ?_ ?_ ?_
  · rintro args p r r' ⟨l, h, e⟩ ⟨l', h', e'⟩
    subst e; subst e'; simp_all [Hand_RawOp.inj_iff, Api_Op.inj_iff, sl_inj22, sl_inj23]
  · rintro args p r ⟨l, h, rfl⟩; first | (split <;> simp; done) | (simp; done) | (simp only [resM]; split <;> simp; done) | (simp only [resD]; split <;> simp; done) 
  · rintro args p r ⟨l, rfl, rfl⟩
    refine ans_walk C false noExt (tabL C [(21, R21)]) xf27 (noExt_ok C) (tabL_ok C _) zc27_ok (Nat.le_of_ble_eq_true (by kernel_rfl)) fun hF => ?_
    have t_21 := @t21 (tabL C [(21, R21)]) (has_head C c21 [])
    generalize tabL C [(21, R21)] = call at t_21 ⊢
    show W C false noExt call zc27 (argE [l.cv Hand_RawOp.cv]) p (endQ C _ _)
    simp -dsimp (disch := first | assumption | omega | (simp only [Hp.bump_n, Hp.znew_n, Hp.zset_n, List.length_nil, List.length_cons, List.length_append, List.length_map]; (first | done | omega)) | (simp (disch := first | omega | (simp only [Hp.bump_n, Hp.znew_n, Hp.zset_n, List.length_nil, List.length_cons, List.length_append, List.length_map]; (first | done | omega))) only [zheap]; done) | (simp (disch := first | omega | (simp only [Hp.bump_n, Hp.znew_n, Hp.zset_n, List.length_nil, List.length_cons, List.length_append, List.length_map]; (first | done | omega))) only [zheap]; rfl)) only [zall, zopm, zop, zcallOp, qop, qbuiltin, ofOpt, List.map, reduceCtorEq, if_true, if_false, ↓reduceIte, zbin, eqRes, qassert, qnum, qshift, qun, kindOf, allocV, true_and, and_true, and_self, List.nil_append, List.append_nil, List.cons_append, List.length_cons, List.length_nil, Nat.reduceAdd, Nat.reduceEqDiff, Nat.reduceLT, Nat.reduceSub, Nat.reduceMul, Int.reduceToNat, Int.reduceLE, Int.reduceLT, Int.reduceEq, Int.reduceNeg, Int.reduceAdd, Int.reduceSub, Bool.true_and, Bool.and_true, Bool.and_self, Bool.false_and, Bool.and_false, Bool.not_true, Bool.not_false, beq_self_eq_true, cond_true, cond_false, decide_true, decide_false, isConstOpd, xpanic, xconv, isBytes, qconv, List.length_map, List.map_nil, List.map_cons, concrete, Option.some.injEq, exists_eq', Int.toNat_natCast, Option.map_some, Option.map_none, List.getElem?_cons_zero, List.getElem?_cons_succ, zw27, rs27, tt3, tt22, tt23, tt29, tt31, ti3, ti22, ti23, ti29, ti31, t_21, zs_Hand_RawOp, zs_Api_Op, zsl22, zsl23]
    repeat' ((first | (refine condW_b ?_ ?_ <;> intro hc) | (refine wantO_s ?_ ?_ <;> intro hc) | (refine wantD_s _ _ _ _ ?_ ?_ <;> intro hc) | (refine bindO_i ?_ ?_ <;> intro hc) | (refine bindE_i _ _ _ _ ?_ ?_ <;> intro hc)) <;> (try simp only [decide_eq_true_eq, decide_eq_false_iff_not, Bool.or_eq_true, Bool.and_eq_true, Bool.not_eq_true, Bool.not_eq_false, Bool.not_not, Classical.not_not, Int.not_le, Int.not_lt, Bool.not_eq_true', Bool.not_eq_false'] at hc) <;> (try have hw := within_spec hc) <;> (try simp -dsimp (disch := first | assumption | omega | (simp only [Hp.bump_n, Hp.znew_n, Hp.zset_n, List.length_nil, List.length_cons, List.length_append, List.length_map]; (first | done | omega)) | (simp (disch := first | omega | (simp only [Hp.bump_n, Hp.znew_n, Hp.zset_n, List.length_nil, List.length_cons, List.length_append, List.length_map]; (first | done | omega))) only [zheap]; done) | (simp (disch := first | omega | (simp only [Hp.bump_n, Hp.znew_n, Hp.zset_n, List.length_nil, List.length_cons, List.length_append, List.length_map]; (first | done | omega))) only [zheap]; rfl)) only [zall, zopm, zop, zcallOp, qop, qbuiltin, ofOpt, List.map, reduceCtorEq, if_true, if_false, ↓reduceIte, zbin, eqRes, qassert, qnum, qshift, qun, kindOf, allocV, true_and, and_true, and_self, List.nil_append, List.append_nil, List.cons_append, List.length_cons, List.length_nil, Nat.reduceAdd, Nat.reduceEqDiff, Nat.reduceLT, Nat.reduceSub, Nat.reduceMul, Int.reduceToNat, Int.reduceLE, Int.reduceLT, Int.reduceEq, Int.reduceNeg, Int.reduceAdd, Int.reduceSub, Bool.true_and, Bool.and_true, Bool.and_self, Bool.false_and, Bool.and_false, Bool.not_true, Bool.not_false, beq_self_eq_true, cond_true, cond_false, decide_true, decide_false, isConstOpd, xpanic, xconv, isBytes, qconv, List.length_map, List.map_nil, List.map_cons, concrete, Option.some.injEq, exists_eq', Int.toNat_natCast, Option.map_some, Option.map_none, List.getElem?_cons_zero, List.getElem?_cons_succ, zw27, rs27, tt3, tt22, tt23, tt29, tt31, ti3, ti22, ti23, ti29, ti31, t_21, zs_Hand_RawOp, zs_Api_Op, zsl22, zsl23, hc]))
    show W C false noExt call (ZC.block 0 (ZC.loop zn27_9)) _ _ (seqQ _ _)
    refine W_cut C false noExt call _ _ _ _ (fun ρ q => ∃ acc : Lst Api_Op, ρ 3 = acc.cv Api_Op.cv ∧ acc.l = straightL l.l 7 ∧ (acc.tl = .nil ∨ (∃ j, acc.tl = .own j) ∧ 0 < acc.l.length) ∧ HpLe p q) ?_ ?_
    · show W C false noExt call (ZC.loop zn27_9) _ _ _
      refine W_loop C false noExt call zn27_9 _ _ _ (J27 l p) 7 ⟨0, ⟨.nil, [], fun _ => rfl⟩, rfl, by omega, by omega, (by simp [put_at, zput_none, argE_0]), by simp [put_at, zput_none, argE_0, Lst.cv], (by simp [put_at, zput_none, argE_0]), by simp [straightL], .inl rfl, by omega, (fun k o h => by have hd := hF.dom k o h; (try simp (disch := first | assumption | omega | (simp only [Hp.bump_n, Hp.znew_n, Hp.zset_n, List.length_nil, List.length_cons, List.length_append, List.length_map]; (first | done | omega))) only [Hp.bump_get, Hp.get_set_ne, Hp.get_new_ne, Hp.bump_n, Hp.znew_n, Hp.zset_n]); exact h)⟩ ?_
      rintro n ρ q ⟨k, acc, rfl, hk, hkl, e0, e3, e4, hacc, happ, hn, hle⟩
      have hal : acc.l.length ≤ k := by rw [hacc]; exact straightL_len _ _
      by_cases hlt : (k : Int) < l.l.length
      · by_cases h7 : (k : Int) < 7
        · have hs := straightL_succ (l := l.l) (k := k) (by omega)
          by_cases h10 : (handOp (nth l.l k)).Code = 10
          · simp -dsimp (disch := first | assumption | omega | (simp only [Hp.bump_n, Hp.znew_n, Hp.zset_n, List.length_nil, List.length_cons, List.length_append, List.length_map]; (first | done | omega)) | (simp (disch := first | omega | (simp only [Hp.bump_n, Hp.znew_n, Hp.zset_n, List.length_nil, List.length_cons, List.length_append, List.length_map]; (first | done | omega))) only [zheap]; done) | (simp (disch := first | omega | (simp only [Hp.bump_n, Hp.znew_n, Hp.zset_n, List.length_nil, List.length_cons, List.length_append, List.length_map]; (first | done | omega))) only [zheap]; rfl)) only [zall, zopm, zop, zcallOp, qop, qbuiltin, ofOpt, List.map, reduceCtorEq, if_true, if_false, ↓reduceIte, zbin, eqRes, qassert, qnum, qshift, qun, kindOf, allocV, true_and, and_true, and_self, List.nil_append, List.append_nil, List.cons_append, List.length_cons, List.length_nil, Nat.reduceAdd, Nat.reduceEqDiff, Nat.reduceLT, Nat.reduceSub, Nat.reduceMul, Int.reduceToNat, Int.reduceLE, Int.reduceLT, Int.reduceEq, Int.reduceNeg, Int.reduceAdd, Int.reduceSub, Bool.true_and, Bool.and_true, Bool.and_self, Bool.false_and, Bool.and_false, Bool.not_true, Bool.not_false, beq_self_eq_true, cond_true, cond_false, decide_true, decide_false, isConstOpd, xpanic, xconv, isBytes, qconv, List.length_map, List.map_nil, List.map_cons, concrete, Option.some.injEq, exists_eq', Int.toNat_natCast, Option.map_some, Option.map_none, List.getElem?_cons_zero, List.getElem?_cons_succ, zw27, rs27, tt3, tt22, tt23, tt29, tt31, ti3, ti22, ti23, ti29, ti31, t_21, zs_Hand_RawOp, zs_Api_Op, zsl22, zsl23, e0, e3, e4, hlt, h7, h10]
            repeat' ((first | (refine condW_b ?_ ?_ <;> intro hc) | (refine wantO_s ?_ ?_ <;> intro hc) | (refine wantD_s _ _ _ _ ?_ ?_ <;> intro hc) | (refine bindO_i ?_ ?_ <;> intro hc) | (refine bindE_i _ _ _ _ ?_ ?_ <;> intro hc)) <;> (try simp only [decide_eq_true_eq, decide_eq_false_iff_not, Bool.or_eq_true, Bool.and_eq_true, Bool.not_eq_true, Bool.not_eq_false, Bool.not_not, Classical.not_not, Int.not_le, Int.not_lt, Bool.not_eq_true', Bool.not_eq_false'] at hc) <;> (try have hw := within_spec hc) <;> (try simp -dsimp (disch := first | assumption | omega | (simp only [Hp.bump_n, Hp.znew_n, Hp.zset_n, List.length_nil, List.length_cons, List.length_append, List.length_map]; (first | done | omega)) | (simp (disch := first | omega | (simp only [Hp.bump_n, Hp.znew_n, Hp.zset_n, List.length_nil, List.length_cons, List.length_append, List.length_map]; (first | done | omega))) only [zheap]; done) | (simp (disch := first | omega | (simp only [Hp.bump_n, Hp.znew_n, Hp.zset_n, List.length_nil, List.length_cons, List.length_append, List.length_map]; (first | done | omega))) only [zheap]; rfl)) only [zall, zopm, zop, zcallOp, qop, qbuiltin, ofOpt, List.map, reduceCtorEq, if_true, if_false, ↓reduceIte, zbin, eqRes, qassert, qnum, qshift, qun, kindOf, allocV, true_and, and_true, and_self, List.nil_append, List.append_nil, List.cons_append, List.length_cons, List.length_nil, Nat.reduceAdd, Nat.reduceEqDiff, Nat.reduceLT, Nat.reduceSub, Nat.reduceMul, Int.reduceToNat, Int.reduceLE, Int.reduceLT, Int.reduceEq, Int.reduceNeg, Int.reduceAdd, Int.reduceSub, Bool.true_and, Bool.and_true, Bool.and_self, Bool.false_and, Bool.and_false, Bool.not_true, Bool.not_false, beq_self_eq_true, cond_true, cond_false, decide_true, decide_false, isConstOpd, xpanic, xconv, isBytes, qconv, List.length_map, List.map_nil, List.map_cons, concrete, Option.some.injEq, exists_eq', Int.toNat_natCast, Option.map_some, Option.map_none, List.getElem?_cons_zero, List.getElem?_cons_succ, zw27, rs27, tt3, tt22, tt23, tt29, tt31, ti3, ti22, ti23, ti29, ti31, t_21, zs_Hand_RawOp, zs_Api_Op, zsl22, zsl23, e0, e3, e4, hlt, h7, h10, hc]))
            refine ⟨7 - (k + 1), by omega, k + 1, acc, rfl, by omega, by omega, by simp [put_at, zput_none, e0], by simp [put_at, zput_none, e3], by simp [put_at, zput_none], by simp [hs, hacc, opStays, h10], happ.imp id fun ⟨j, h1, h2, h3, h4, h5⟩ => ⟨j, h1, h2, by simp only [Hp.bump_n, Hp.znew_n, Hp.zset_n]; omega, by simp (disch := omega) only [Hp.bump_get, Hp.get_set_ne, Hp.get_new_ne, h4], h5⟩, by simp only [Hp.bump_n, Hp.znew_n, Hp.zset_n]; omega, (fun k o h => by have hd := hF.dom k o h; (try simp (disch := first | assumption | omega | (simp only [Hp.bump_n, Hp.znew_n, Hp.zset_n]; (first | done | omega))) only [Hp.bump_get, Hp.get_set_ne, Hp.get_new_ne, Hp.bump_n, Hp.znew_n, Hp.zset_n]); exact hle k o h)⟩
          · by_cases h9 : (handOp (nth l.l k)).Code = 9
            · simp -dsimp (disch := first | assumption | omega | (simp only [Hp.bump_n, Hp.znew_n, Hp.zset_n, List.length_nil, List.length_cons, List.length_append, List.length_map]; (first | done | omega)) | (simp (disch := first | omega | (simp only [Hp.bump_n, Hp.znew_n, Hp.zset_n, List.length_nil, List.length_cons, List.length_append, List.length_map]; (first | done | omega))) only [zheap]; done) | (simp (disch := first | omega | (simp only [Hp.bump_n, Hp.znew_n, Hp.zset_n, List.length_nil, List.length_cons, List.length_append, List.length_map]; (first | done | omega))) only [zheap]; rfl)) only [zall, zopm, zop, zcallOp, qop, qbuiltin, ofOpt, List.map, reduceCtorEq, if_true, if_false, ↓reduceIte, zbin, eqRes, qassert, qnum, qshift, qun, kindOf, allocV, true_and, and_true, and_self, List.nil_append, List.append_nil, List.cons_append, List.length_cons, List.length_nil, Nat.reduceAdd, Nat.reduceEqDiff, Nat.reduceLT, Nat.reduceSub, Nat.reduceMul, Int.reduceToNat, Int.reduceLE, Int.reduceLT, Int.reduceEq, Int.reduceNeg, Int.reduceAdd, Int.reduceSub, Bool.true_and, Bool.and_true, Bool.and_self, Bool.false_and, Bool.and_false, Bool.not_true, Bool.not_false, beq_self_eq_true, cond_true, cond_false, decide_true, decide_false, isConstOpd, xpanic, xconv, isBytes, qconv, List.length_map, List.map_nil, List.map_cons, concrete, Option.some.injEq, exists_eq', Int.toNat_natCast, Option.map_some, Option.map_none, List.getElem?_cons_zero, List.getElem?_cons_succ, zw27, rs27, tt3, tt22, tt23, tt29, tt31, ti3, ti22, ti23, ti29, ti31, t_21, zs_Hand_RawOp, zs_Api_Op, zsl22, zsl23, e0, e3, e4, hlt, h7, h10, h9]
              repeat' ((first | (refine condW_b ?_ ?_ <;> intro hc) | (refine wantO_s ?_ ?_ <;> intro hc) | (refine wantD_s _ _ _ _ ?_ ?_ <;> intro hc) | (refine bindO_i ?_ ?_ <;> intro hc) | (refine bindE_i _ _ _ _ ?_ ?_ <;> intro hc)) <;> (try simp only [decide_eq_true_eq, decide_eq_false_iff_not, Bool.or_eq_true, Bool.and_eq_true, Bool.not_eq_true, Bool.not_eq_false, Bool.not_not, Classical.not_not, Int.not_le, Int.not_lt, Bool.not_eq_true', Bool.not_eq_false'] at hc) <;> (try have hw := within_spec hc) <;> (try simp -dsimp (disch := first | assumption | omega | (simp only [Hp.bump_n, Hp.znew_n, Hp.zset_n, List.length_nil, List.length_cons, List.length_append, List.length_map]; (first | done | omega)) | (simp (disch := first | omega | (simp only [Hp.bump_n, Hp.znew_n, Hp.zset_n, List.length_nil, List.length_cons, List.length_append, List.length_map]; (first | done | omega))) only [zheap]; done) | (simp (disch := first | omega | (simp only [Hp.bump_n, Hp.znew_n, Hp.zset_n, List.length_nil, List.length_cons, List.length_append, List.length_map]; (first | done | omega))) only [zheap]; rfl)) only [zall, zopm, zop, zcallOp, qop, qbuiltin, ofOpt, List.map, reduceCtorEq, if_true, if_false, ↓reduceIte, zbin, eqRes, qassert, qnum, qshift, qun, kindOf, allocV, true_and, and_true, and_self, List.nil_append, List.append_nil, List.cons_append, List.length_cons, List.length_nil, Nat.reduceAdd, Nat.reduceEqDiff, Nat.reduceLT, Nat.reduceSub, Nat.reduceMul, Int.reduceToNat, Int.reduceLE, Int.reduceLT, Int.reduceEq, Int.reduceNeg, Int.reduceAdd, Int.reduceSub, Bool.true_and, Bool.and_true, Bool.and_self, Bool.false_and, Bool.and_false, Bool.not_true, Bool.not_false, beq_self_eq_true, cond_true, cond_false, decide_true, decide_false, isConstOpd, xpanic, xconv, isBytes, qconv, List.length_map, List.map_nil, List.map_cons, concrete, Option.some.injEq, exists_eq', Int.toNat_natCast, Option.map_some, Option.map_none, List.getElem?_cons_zero, List.getElem?_cons_succ, zw27, rs27, tt3, tt22, tt23, tt29, tt31, ti3, ti22, ti23, ti29, ti31, t_21, zs_Hand_RawOp, zs_Api_Op, zsl22, zsl23, e0, e3, e4, hlt, h7, h10, h9, hc]))
              refine ⟨7 - (k + 1), by omega, k + 1, acc, rfl, by omega, by omega, by simp [put_at, zput_none, e0], by simp [put_at, zput_none, e3], by simp [put_at, zput_none], by simp [hs, hacc, opStays, h10, h9], happ.imp id fun ⟨j, h1, h2, h3, h4, h5⟩ => ⟨j, h1, h2, by simp only [Hp.bump_n, Hp.znew_n, Hp.zset_n]; omega, by simp (disch := omega) only [Hp.bump_get, Hp.get_set_ne, Hp.get_new_ne, h4], h5⟩, by simp only [Hp.bump_n, Hp.znew_n, Hp.zset_n]; omega, (fun k o h => by have hd := hF.dom k o h; (try simp (disch := first | assumption | omega | (simp only [Hp.bump_n, Hp.znew_n, Hp.zset_n]; (first | done | omega))) only [Hp.bump_get, Hp.get_set_ne, Hp.get_new_ne, Hp.bump_n, Hp.znew_n, Hp.zset_n]); exact hle k o h)⟩
            · by_cases h13 : (handOp (nth l.l k)).Code = 13
              · simp -dsimp (disch := first | assumption | omega | (simp only [Hp.bump_n, Hp.znew_n, Hp.zset_n, List.length_nil, List.length_cons, List.length_append, List.length_map]; (first | done | omega)) | (simp (disch := first | omega | (simp only [Hp.bump_n, Hp.znew_n, Hp.zset_n, List.length_nil, List.length_cons, List.length_append, List.length_map]; (first | done | omega))) only [zheap]; done) | (simp (disch := first | omega | (simp only [Hp.bump_n, Hp.znew_n, Hp.zset_n, List.length_nil, List.length_cons, List.length_append, List.length_map]; (first | done | omega))) only [zheap]; rfl)) only [zall, zopm, zop, zcallOp, qop, qbuiltin, ofOpt, List.map, reduceCtorEq, if_true, if_false, ↓reduceIte, zbin, eqRes, qassert, qnum, qshift, qun, kindOf, allocV, true_and, and_true, and_self, List.nil_append, List.append_nil, List.cons_append, List.length_cons, List.length_nil, Nat.reduceAdd, Nat.reduceEqDiff, Nat.reduceLT, Nat.reduceSub, Nat.reduceMul, Int.reduceToNat, Int.reduceLE, Int.reduceLT, Int.reduceEq, Int.reduceNeg, Int.reduceAdd, Int.reduceSub, Bool.true_and, Bool.and_true, Bool.and_self, Bool.false_and, Bool.and_false, Bool.not_true, Bool.not_false, beq_self_eq_true, cond_true, cond_false, decide_true, decide_false, isConstOpd, xpanic, xconv, isBytes, qconv, List.length_map, List.map_nil, List.map_cons, concrete, Option.some.injEq, exists_eq', Int.toNat_natCast, Option.map_some, Option.map_none, List.getElem?_cons_zero, List.getElem?_cons_succ, zw27, rs27, tt3, tt22, tt23, tt29, tt31, ti3, ti22, ti23, ti29, ti31, t_21, zs_Hand_RawOp, zs_Api_Op, zsl22, zsl23, e0, e3, e4, hlt, h7, h10, h9, h13]
                repeat' ((first | (refine condW_b ?_ ?_ <;> intro hc) | (refine wantO_s ?_ ?_ <;> intro hc) | (refine wantD_s _ _ _ _ ?_ ?_ <;> intro hc) | (refine bindO_i ?_ ?_ <;> intro hc) | (refine bindE_i _ _ _ _ ?_ ?_ <;> intro hc)) <;> (try simp only [decide_eq_true_eq, decide_eq_false_iff_not, Bool.or_eq_true, Bool.and_eq_true, Bool.not_eq_true, Bool.not_eq_false, Bool.not_not, Classical.not_not, Int.not_le, Int.not_lt, Bool.not_eq_true', Bool.not_eq_false'] at hc) <;> (try have hw := within_spec hc) <;> (try simp -dsimp (disch := first | assumption | omega | (simp only [Hp.bump_n, Hp.znew_n, Hp.zset_n, List.length_nil, List.length_cons, List.length_append, List.length_map]; (first | done | omega)) | (simp (disch := first | omega | (simp only [Hp.bump_n, Hp.znew_n, Hp.zset_n, List.length_nil, List.length_cons, List.length_append, List.length_map]; (first | done | omega))) only [zheap]; done) | (simp (disch := first | omega | (simp only [Hp.bump_n, Hp.znew_n, Hp.zset_n, List.length_nil, List.length_cons, List.length_append, List.length_map]; (first | done | omega))) only [zheap]; rfl)) only [zall, zopm, zop, zcallOp, qop, qbuiltin, ofOpt, List.map, reduceCtorEq, if_true, if_false, ↓reduceIte, zbin, eqRes, qassert, qnum, qshift, qun, kindOf, allocV, true_and, and_true, and_self, List.nil_append, List.append_nil, List.cons_append, List.length_cons, List.length_nil, Nat.reduceAdd, Nat.reduceEqDiff, Nat.reduceLT, Nat.reduceSub, Nat.reduceMul, Int.reduceToNat, Int.reduceLE, Int.reduceLT, Int.reduceEq, Int.reduceNeg, Int.reduceAdd, Int.reduceSub, Bool.true_and, Bool.and_true, Bool.and_self, Bool.false_and, Bool.and_false, Bool.not_true, Bool.not_false, beq_self_eq_true, cond_true, cond_false, decide_true, decide_false, isConstOpd, xpanic, xconv, isBytes, qconv, List.length_map, List.map_nil, List.map_cons, concrete, Option.some.injEq, exists_eq', Int.toNat_natCast, Option.map_some, Option.map_none, List.getElem?_cons_zero, List.getElem?_cons_succ, zw27, rs27, tt3, tt22, tt23, tt29, tt31, ti3, ti22, ti23, ti29, ti31, t_21, zs_Hand_RawOp, zs_Api_Op, zsl22, zsl23, e0, e3, e4, hlt, h7, h10, h9, h13, hc]))
                refine ⟨7 - (k + 1), by omega, k + 1, acc, rfl, by omega, by omega, by simp [put_at, zput_none, e0], by simp [put_at, zput_none, e3], by simp [put_at, zput_none], by simp [hs, hacc, opStays, h10, h9, h13], happ.imp id fun ⟨j, h1, h2, h3, h4, h5⟩ => ⟨j, h1, h2, by simp only [Hp.bump_n, Hp.znew_n, Hp.zset_n]; omega, by simp (disch := omega) only [Hp.bump_get, Hp.get_set_ne, Hp.get_new_ne, h4], h5⟩, by simp only [Hp.bump_n, Hp.znew_n, Hp.zset_n]; omega, (fun k o h => by have hd := hF.dom k o h; (try simp (disch := first | assumption | omega | (simp only [Hp.bump_n, Hp.znew_n, Hp.zset_n]; (first | done | omega))) only [Hp.bump_get, Hp.get_set_ne, Hp.get_new_ne, Hp.bump_n, Hp.znew_n, Hp.zset_n]); exact hle k o h)⟩
              · obtain ⟨tl, al, ok⟩ := acc
                simp only at hal hacc
                rcases happ with ht | ⟨j, ht, hj1, hj2, g1, hj4⟩
                · simp only at ht
                  subst ht
                  simp -dsimp (disch := first | assumption | omega | (simp only [Hp.bump_n, Hp.znew_n, Hp.zset_n, List.length_nil, List.length_cons, List.length_append, List.length_map]; (first | done | omega)) | (simp (disch := first | omega | (simp only [Hp.bump_n, Hp.znew_n, Hp.zset_n, List.length_nil, List.length_cons, List.length_append, List.length_map]; (first | done | omega))) only [zheap]; done) | (simp (disch := first | omega | (simp only [Hp.bump_n, Hp.znew_n, Hp.zset_n, List.length_nil, List.length_cons, List.length_append, List.length_map]; (first | done | omega))) only [zheap]; rfl)) only [zall, zopm, zop, zcallOp, qop, qbuiltin, ofOpt, List.map, reduceCtorEq, if_true, if_false, ↓reduceIte, zbin, eqRes, qassert, qnum, qshift, qun, kindOf, allocV, true_and, and_true, and_self, List.nil_append, List.append_nil, List.cons_append, List.length_cons, List.length_nil, Nat.reduceAdd, Nat.reduceEqDiff, Nat.reduceLT, Nat.reduceSub, Nat.reduceMul, Int.reduceToNat, Int.reduceLE, Int.reduceLT, Int.reduceEq, Int.reduceNeg, Int.reduceAdd, Int.reduceSub, Bool.true_and, Bool.and_true, Bool.and_self, Bool.false_and, Bool.and_false, Bool.not_true, Bool.not_false, beq_self_eq_true, cond_true, cond_false, decide_true, decide_false, isConstOpd, xpanic, xconv, isBytes, qconv, List.length_map, List.map_nil, List.map_cons, concrete, Option.some.injEq, exists_eq', Int.toNat_natCast, Option.map_some, Option.map_none, List.getElem?_cons_zero, List.getElem?_cons_succ, zw27, rs27, tt3, tt22, tt23, tt29, tt31, ti3, ti22, ti23, ti29, ti31, t_21, zs_Hand_RawOp, zs_Api_Op, zsl22, zsl23, e0, e3, e4, hlt, h7, h10, h9, h13]
                  repeat' ((first | (refine condW_b ?_ ?_ <;> intro hc) | (refine wantO_s ?_ ?_ <;> intro hc) | (refine wantD_s _ _ _ _ ?_ ?_ <;> intro hc) | (refine bindO_i ?_ ?_ <;> intro hc) | (refine bindE_i _ _ _ _ ?_ ?_ <;> intro hc)) <;> (try simp only [decide_eq_true_eq, decide_eq_false_iff_not, Bool.or_eq_true, Bool.and_eq_true, Bool.not_eq_true, Bool.not_eq_false, Bool.not_not, Classical.not_not, Int.not_le, Int.not_lt, Bool.not_eq_true', Bool.not_eq_false'] at hc) <;> (try have hw := within_spec hc) <;> (try simp -dsimp (disch := first | assumption | omega | (simp only [Hp.bump_n, Hp.znew_n, Hp.zset_n, List.length_nil, List.length_cons, List.length_append, List.length_map]; (first | done | omega)) | (simp (disch := first | omega | (simp only [Hp.bump_n, Hp.znew_n, Hp.zset_n, List.length_nil, List.length_cons, List.length_append, List.length_map]; (first | done | omega))) only [zheap]; done) | (simp (disch := first | omega | (simp only [Hp.bump_n, Hp.znew_n, Hp.zset_n, List.length_nil, List.length_cons, List.length_append, List.length_map]; (first | done | omega))) only [zheap]; rfl)) only [zall, zopm, zop, zcallOp, qop, qbuiltin, ofOpt, List.map, reduceCtorEq, if_true, if_false, ↓reduceIte, zbin, eqRes, qassert, qnum, qshift, qun, kindOf, allocV, true_and, and_true, and_self, List.nil_append, List.append_nil, List.cons_append, List.length_cons, List.length_nil, Nat.reduceAdd, Nat.reduceEqDiff, Nat.reduceLT, Nat.reduceSub, Nat.reduceMul, Int.reduceToNat, Int.reduceLE, Int.reduceLT, Int.reduceEq, Int.reduceNeg, Int.reduceAdd, Int.reduceSub, Bool.true_and, Bool.and_true, Bool.and_self, Bool.false_and, Bool.and_false, Bool.not_true, Bool.not_false, beq_self_eq_true, cond_true, cond_false, decide_true, decide_false, isConstOpd, xpanic, xconv, isBytes, qconv, List.length_map, List.map_nil, List.map_cons, concrete, Option.some.injEq, exists_eq', Int.toNat_natCast, Option.map_some, Option.map_none, List.getElem?_cons_zero, List.getElem?_cons_succ, zw27, rs27, tt3, tt22, tt23, tt29, tt31, ti3, ti22, ti23, ti29, ti31, t_21, zs_Hand_RawOp, zs_Api_Op, zsl22, zsl23, e0, e3, e4, hlt, h7, h10, h9, h13, hc]))
                  refine ⟨7 - (k + 1), by omega, k + 1, ⟨.own (q.n + 1), al ++ [handOp (nth l.l k)], nofun⟩, rfl, by omega, by omega, by simp [put_at, zput_none, e0], by simp [put_at, zput_none], by simp [put_at, zput_none], by simp [hs, hacc, opStays, h10, h9, h13], .inr ⟨q.n + 1, rfl, by omega, by simp only [Hp.bump_n, Hp.znew_n, Hp.zset_n]; omega, ?_, by simp⟩, by simp only [Hp.bump_n, Hp.znew_n, Hp.zset_n]; omega, (fun k o h => by have hd := hF.dom k o h; (try simp (disch := first | assumption | omega | (simp only [Hp.bump_n, Hp.znew_n, Hp.zset_n]; (first | done | omega))) only [Hp.bump_get, Hp.get_set_ne, Hp.get_new_ne, Hp.bump_n, Hp.znew_n, Hp.zset_n]); exact hle k o h)⟩
                  rw [Hp.get_new_eq _ _ (by simp only [Hp.znew_n, Hp.zset_n])]; simp
                · simp only at ht g1 hj4
                  subst ht
                  have hne : j ≠ q.n := by omega
                  simp -dsimp (disch := first | assumption | omega | (simp only [Hp.bump_n, Hp.znew_n, Hp.zset_n, List.length_nil, List.length_cons, List.length_append, List.length_map]; (first | done | omega)) | (simp (disch := first | omega | (simp only [Hp.bump_n, Hp.znew_n, Hp.zset_n, List.length_nil, List.length_cons, List.length_append, List.length_map]; (first | done | omega))) only [zheap]; done) | (simp (disch := first | omega | (simp only [Hp.bump_n, Hp.znew_n, Hp.zset_n, List.length_nil, List.length_cons, List.length_append, List.length_map]; (first | done | omega))) only [zheap]; rfl) | (simp (disch := first | omega | (simp only [Hp.bump_n, Hp.znew_n, Hp.zset_n]; (first | done | omega))) only [zheap, g1]; done) | (simp (disch := first | omega | (simp only [Hp.bump_n, Hp.znew_n, Hp.zset_n]; (first | done | omega))) only [zheap, g1]; rfl)) only [zall, zopm, zop, zcallOp, qop, qbuiltin, ofOpt, List.map, reduceCtorEq, if_true, if_false, ↓reduceIte, zbin, eqRes, qassert, qnum, qshift, qun, kindOf, allocV, true_and, and_true, and_self, List.nil_append, List.append_nil, List.cons_append, List.length_cons, List.length_nil, Nat.reduceAdd, Nat.reduceEqDiff, Nat.reduceLT, Nat.reduceSub, Nat.reduceMul, Int.reduceToNat, Int.reduceLE, Int.reduceLT, Int.reduceEq, Int.reduceNeg, Int.reduceAdd, Int.reduceSub, Bool.true_and, Bool.and_true, Bool.and_self, Bool.false_and, Bool.and_false, Bool.not_true, Bool.not_false, beq_self_eq_true, cond_true, cond_false, decide_true, decide_false, isConstOpd, xpanic, xconv, isBytes, qconv, List.length_map, List.map_nil, List.map_cons, concrete, Option.some.injEq, exists_eq', Int.toNat_natCast, Option.map_some, Option.map_none, List.getElem?_cons_zero, List.getElem?_cons_succ, zw27, rs27, tt3, tt22, tt23, tt29, tt31, ti3, ti22, ti23, ti29, ti31, t_21, zs_Hand_RawOp, zs_Api_Op, zsl22, zsl23, e0, e3, e4, hlt, h7, h10, h9, h13, g1]
                  repeat' ((first | (refine condW_b ?_ ?_ <;> intro hc) | (refine wantO_s ?_ ?_ <;> intro hc) | (refine wantD_s _ _ _ _ ?_ ?_ <;> intro hc) | (refine bindO_i ?_ ?_ <;> intro hc) | (refine bindE_i _ _ _ _ ?_ ?_ <;> intro hc)) <;> (try simp only [decide_eq_true_eq, decide_eq_false_iff_not, Bool.or_eq_true, Bool.and_eq_true, Bool.not_eq_true, Bool.not_eq_false, Bool.not_not, Classical.not_not, Int.not_le, Int.not_lt, Bool.not_eq_true', Bool.not_eq_false'] at hc) <;> (try have hw := within_spec hc) <;> (try simp -dsimp (disch := first | assumption | omega | (simp only [Hp.bump_n, Hp.znew_n, Hp.zset_n, List.length_nil, List.length_cons, List.length_append, List.length_map]; (first | done | omega)) | (simp (disch := first | omega | (simp only [Hp.bump_n, Hp.znew_n, Hp.zset_n, List.length_nil, List.length_cons, List.length_append, List.length_map]; (first | done | omega))) only [zheap]; done) | (simp (disch := first | omega | (simp only [Hp.bump_n, Hp.znew_n, Hp.zset_n, List.length_nil, List.length_cons, List.length_append, List.length_map]; (first | done | omega))) only [zheap]; rfl) | (simp (disch := first | omega | (simp only [Hp.bump_n, Hp.znew_n, Hp.zset_n]; (first | done | omega))) only [zheap, g1]; done) | (simp (disch := first | omega | (simp only [Hp.bump_n, Hp.znew_n, Hp.zset_n]; (first | done | omega))) only [zheap, g1]; rfl)) only [zall, zopm, zop, zcallOp, qop, qbuiltin, ofOpt, List.map, reduceCtorEq, if_true, if_false, ↓reduceIte, zbin, eqRes, qassert, qnum, qshift, qun, kindOf, allocV, true_and, and_true, and_self, List.nil_append, List.append_nil, List.cons_append, List.length_cons, List.length_nil, Nat.reduceAdd, Nat.reduceEqDiff, Nat.reduceLT, Nat.reduceSub, Nat.reduceMul, Int.reduceToNat, Int.reduceLE, Int.reduceLT, Int.reduceEq, Int.reduceNeg, Int.reduceAdd, Int.reduceSub, Bool.true_and, Bool.and_true, Bool.and_self, Bool.false_and, Bool.and_false, Bool.not_true, Bool.not_false, beq_self_eq_true, cond_true, cond_false, decide_true, decide_false, isConstOpd, xpanic, xconv, isBytes, qconv, List.length_map, List.map_nil, List.map_cons, concrete, Option.some.injEq, exists_eq', Int.toNat_natCast, Option.map_some, Option.map_none, List.getElem?_cons_zero, List.getElem?_cons_succ, zw27, rs27, tt3, tt22, tt23, tt29, tt31, ti3, ti22, ti23, ti29, ti31, t_21, zs_Hand_RawOp, zs_Api_Op, zsl22, zsl23, e0, e3, e4, hlt, h7, h10, h9, h13, g1, hc]))
                  refine ⟨7 - (k + 1), by omega, k + 1, ⟨.own (q.n + 1), al ++ [handOp (nth l.l k)], nofun⟩, rfl, by omega, by omega, by simp [put_at, zput_none, e0], by simp [put_at, zput_none], by simp [put_at, zput_none], by simp [hs, hacc, opStays, h10, h9, h13], .inr ⟨q.n + 1, rfl, by omega, by simp only [Hp.bump_n, Hp.znew_n, Hp.zset_n]; omega, ?_, by simp⟩, by simp only [Hp.bump_n, Hp.znew_n, Hp.zset_n]; omega, (fun k o h => by have hd := hF.dom k o h; (try simp (disch := first | assumption | omega | (simp only [Hp.bump_n, Hp.znew_n, Hp.zset_n]; (first | done | omega))) only [Hp.bump_get, Hp.get_set_ne, Hp.get_new_ne, Hp.bump_n, Hp.znew_n, Hp.zset_n]); exact hle k o h)⟩
                  rw [Hp.get_new_eq _ _ (by simp only [Hp.znew_n, Hp.zset_n])]; simp
        · simp -dsimp (disch := first | assumption | omega | (simp only [Hp.bump_n, Hp.znew_n, Hp.zset_n, List.length_nil, List.length_cons, List.length_append, List.length_map]; (first | done | omega)) | (simp (disch := first | omega | (simp only [Hp.bump_n, Hp.znew_n, Hp.zset_n, List.length_nil, List.length_cons, List.length_append, List.length_map]; (first | done | omega))) only [zheap]; done) | (simp (disch := first | omega | (simp only [Hp.bump_n, Hp.znew_n, Hp.zset_n, List.length_nil, List.length_cons, List.length_append, List.length_map]; (first | done | omega))) only [zheap]; rfl)) only [zall, zopm, zop, zcallOp, qop, qbuiltin, ofOpt, List.map, reduceCtorEq, if_true, if_false, ↓reduceIte, zbin, eqRes, qassert, qnum, qshift, qun, kindOf, allocV, true_and, and_true, and_self, List.nil_append, List.append_nil, List.cons_append, List.length_cons, List.length_nil, Nat.reduceAdd, Nat.reduceEqDiff, Nat.reduceLT, Nat.reduceSub, Nat.reduceMul, Int.reduceToNat, Int.reduceLE, Int.reduceLT, Int.reduceEq, Int.reduceNeg, Int.reduceAdd, Int.reduceSub, Bool.true_and, Bool.and_true, Bool.and_self, Bool.false_and, Bool.and_false, Bool.not_true, Bool.not_false, beq_self_eq_true, cond_true, cond_false, decide_true, decide_false, isConstOpd, xpanic, xconv, isBytes, qconv, List.length_map, List.map_nil, List.map_cons, concrete, Option.some.injEq, exists_eq', Int.toNat_natCast, Option.map_some, Option.map_none, List.getElem?_cons_zero, List.getElem?_cons_succ, zw27, rs27, tt3, tt22, tt23, tt29, tt31, ti3, ti22, ti23, ti29, ti31, t_21, zs_Hand_RawOp, zs_Api_Op, zsl22, zsl23, e0, e3, e4, hlt, h7]
          repeat' ((first | (refine condW_b ?_ ?_ <;> intro hc) | (refine wantO_s ?_ ?_ <;> intro hc) | (refine wantD_s _ _ _ _ ?_ ?_ <;> intro hc) | (refine bindO_i ?_ ?_ <;> intro hc) | (refine bindE_i _ _ _ _ ?_ ?_ <;> intro hc)) <;> (try simp only [decide_eq_true_eq, decide_eq_false_iff_not, Bool.or_eq_true, Bool.and_eq_true, Bool.not_eq_true, Bool.not_eq_false, Bool.not_not, Classical.not_not, Int.not_le, Int.not_lt, Bool.not_eq_true', Bool.not_eq_false'] at hc) <;> (try have hw := within_spec hc) <;> (try simp -dsimp (disch := first | assumption | omega | (simp only [Hp.bump_n, Hp.znew_n, Hp.zset_n, List.length_nil, List.length_cons, List.length_append, List.length_map]; (first | done | omega)) | (simp (disch := first | omega | (simp only [Hp.bump_n, Hp.znew_n, Hp.zset_n, List.length_nil, List.length_cons, List.length_append, List.length_map]; (first | done | omega))) only [zheap]; done) | (simp (disch := first | omega | (simp only [Hp.bump_n, Hp.znew_n, Hp.zset_n, List.length_nil, List.length_cons, List.length_append, List.length_map]; (first | done | omega))) only [zheap]; rfl)) only [zall, zopm, zop, zcallOp, qop, qbuiltin, ofOpt, List.map, reduceCtorEq, if_true, if_false, ↓reduceIte, zbin, eqRes, qassert, qnum, qshift, qun, kindOf, allocV, true_and, and_true, and_self, List.nil_append, List.append_nil, List.cons_append, List.length_cons, List.length_nil, Nat.reduceAdd, Nat.reduceEqDiff, Nat.reduceLT, Nat.reduceSub, Nat.reduceMul, Int.reduceToNat, Int.reduceLE, Int.reduceLT, Int.reduceEq, Int.reduceNeg, Int.reduceAdd, Int.reduceSub, Bool.true_and, Bool.and_true, Bool.and_self, Bool.false_and, Bool.and_false, Bool.not_true, Bool.not_false, beq_self_eq_true, cond_true, cond_false, decide_true, decide_false, isConstOpd, xpanic, xconv, isBytes, qconv, List.length_map, List.map_nil, List.map_cons, concrete, Option.some.injEq, exists_eq', Int.toNat_natCast, Option.map_some, Option.map_none, List.getElem?_cons_zero, List.getElem?_cons_succ, zw27, rs27, tt3, tt22, tt23, tt29, tt31, ti3, ti22, ti23, ti29, ti31, t_21, zs_Hand_RawOp, zs_Api_Op, zsl22, zsl23, e0, e3, e4, hlt, h7, hc]))
          have hk7 : k = 7 := by omega
          subst hk7
          exact ⟨acc, by simp [put_at, zput_none, e3], hacc, happ.imp id fun ⟨j, h1, _, _, _, h5⟩ => ⟨⟨j, h1⟩, h5⟩, hle⟩
      · simp -dsimp (disch := first | assumption | omega | (simp only [Hp.bump_n, Hp.znew_n, Hp.zset_n, List.length_nil, List.length_cons, List.length_append, List.length_map]; (first | done | omega)) | (simp (disch := first | omega | (simp only [Hp.bump_n, Hp.znew_n, Hp.zset_n, List.length_nil, List.length_cons, List.length_append, List.length_map]; (first | done | omega))) only [zheap]; done) | (simp (disch := first | omega | (simp only [Hp.bump_n, Hp.znew_n, Hp.zset_n, List.length_nil, List.length_cons, List.length_append, List.length_map]; (first | done | omega))) only [zheap]; rfl)) only [zall, zopm, zop, zcallOp, qop, qbuiltin, ofOpt, List.map, reduceCtorEq, if_true, if_false, ↓reduceIte, zbin, eqRes, qassert, qnum, qshift, qun, kindOf, allocV, true_and, and_true, and_self, List.nil_append, List.append_nil, List.cons_append, List.length_cons, List.length_nil, Nat.reduceAdd, Nat.reduceEqDiff, Nat.reduceLT, Nat.reduceSub, Nat.reduceMul, Int.reduceToNat, Int.reduceLE, Int.reduceLT, Int.reduceEq, Int.reduceNeg, Int.reduceAdd, Int.reduceSub, Bool.true_and, Bool.and_true, Bool.and_self, Bool.false_and, Bool.and_false, Bool.not_true, Bool.not_false, beq_self_eq_true, cond_true, cond_false, decide_true, decide_false, isConstOpd, xpanic, xconv, isBytes, qconv, List.length_map, List.map_nil, List.map_cons, concrete, Option.some.injEq, exists_eq', Int.toNat_natCast, Option.map_some, Option.map_none, List.getElem?_cons_zero, List.getElem?_cons_succ, zw27, rs27, tt3, tt22, tt23, tt29, tt31, ti3, ti22, ti23, ti29, ti31, t_21, zs_Hand_RawOp, zs_Api_Op, zsl22, zsl23, e0, e3, e4, hlt]
        repeat' ((first | (refine condW_b ?_ ?_ <;> intro hc) | (refine wantO_s ?_ ?_ <;> intro hc) | (refine wantD_s _ _ _ _ ?_ ?_ <;> intro hc) | (refine bindO_i ?_ ?_ <;> intro hc) | (refine bindE_i _ _ _ _ ?_ ?_ <;> intro hc)) <;> (try simp only [decide_eq_true_eq, decide_eq_false_iff_not, Bool.or_eq_true, Bool.and_eq_true, Bool.not_eq_true, Bool.not_eq_false, Bool.not_not, Classical.not_not, Int.not_le, Int.not_lt, Bool.not_eq_true', Bool.not_eq_false'] at hc) <;> (try have hw := within_spec hc) <;> (try simp -dsimp (disch := first | assumption | omega | (simp only [Hp.bump_n, Hp.znew_n, Hp.zset_n, List.length_nil, List.length_cons, List.length_append, List.length_map]; (first | done | omega)) | (simp (disch := first | omega | (simp only [Hp.bump_n, Hp.znew_n, Hp.zset_n, List.length_nil, List.length_cons, List.length_append, List.length_map]; (first | done | omega))) only [zheap]; done) | (simp (disch := first | omega | (simp only [Hp.bump_n, Hp.znew_n, Hp.zset_n, List.length_nil, List.length_cons, List.length_append, List.length_map]; (first | done | omega))) only [zheap]; rfl)) only [zall, zopm, zop, zcallOp, qop, qbuiltin, ofOpt, List.map, reduceCtorEq, if_true, if_false, ↓reduceIte, zbin, eqRes, qassert, qnum, qshift, qun, kindOf, allocV, true_and, and_true, and_self, List.nil_append, List.append_nil, List.cons_append, List.length_cons, List.length_nil, Nat.reduceAdd, Nat.reduceEqDiff, Nat.reduceLT, Nat.reduceSub, Nat.reduceMul, Int.reduceToNat, Int.reduceLE, Int.reduceLT, Int.reduceEq, Int.reduceNeg, Int.reduceAdd, Int.reduceSub, Bool.true_and, Bool.and_true, Bool.and_self, Bool.false_and, Bool.and_false, Bool.not_true, Bool.not_false, beq_self_eq_true, cond_true, cond_false, decide_true, decide_false, isConstOpd, xpanic, xconv, isBytes, qconv, List.length_map, List.map_nil, List.map_cons, concrete, Option.some.injEq, exists_eq', Int.toNat_natCast, Option.map_some, Option.map_none, List.getElem?_cons_zero, List.getElem?_cons_succ, zw27, rs27, tt3, tt22, tt23, tt29, tt31, ti3, ti22, ti23, ti29, ti31, t_21, zs_Hand_RawOp, zs_Api_Op, zsl22, zsl23, e0, e3, e4, hlt, hc]))
        have ht : straightL l.l k = straightL l.l 7 := by unfold straightL; rw [List.take_of_length_le (by omega), List.take_of_length_le (by omega)]
        exact ⟨acc, by simp [put_at, zput_none, e3], by rw [hacc, ht], happ.imp id fun ⟨j, h1, _, _, _, h5⟩ => ⟨⟨j, h1⟩, h5⟩, hle⟩
    rintro ρ q ⟨acc, e3, hacc, happ, hle⟩
    simp -dsimp (disch := first | assumption | omega | (simp only [Hp.bump_n, Hp.znew_n, Hp.zset_n, List.length_nil, List.length_cons, List.length_append, List.length_map]; (first | done | omega)) | (simp (disch := first | omega | (simp only [Hp.bump_n, Hp.znew_n, Hp.zset_n, List.length_nil, List.length_cons, List.length_append, List.length_map]; (first | done | omega))) only [zheap]; done) | (simp (disch := first | omega | (simp only [Hp.bump_n, Hp.znew_n, Hp.zset_n, List.length_nil, List.length_cons, List.length_append, List.length_map]; (first | done | omega))) only [zheap]; rfl)) only [zall, zopm, zop, zcallOp, qop, qbuiltin, ofOpt, List.map, reduceCtorEq, if_true, if_false, ↓reduceIte, zbin, eqRes, qassert, qnum, qshift, qun, kindOf, allocV, true_and, and_true, and_self, List.nil_append, List.append_nil, List.cons_append, List.length_cons, List.length_nil, Nat.reduceAdd, Nat.reduceEqDiff, Nat.reduceLT, Nat.reduceSub, Nat.reduceMul, Int.reduceToNat, Int.reduceLE, Int.reduceLT, Int.reduceEq, Int.reduceNeg, Int.reduceAdd, Int.reduceSub, Bool.true_and, Bool.and_true, Bool.and_self, Bool.false_and, Bool.and_false, Bool.not_true, Bool.not_false, beq_self_eq_true, cond_true, cond_false, decide_true, decide_false, isConstOpd, xpanic, xconv, isBytes, qconv, List.length_map, List.map_nil, List.map_cons, concrete, Option.some.injEq, exists_eq', Int.toNat_natCast, Option.map_some, Option.map_none, List.getElem?_cons_zero, List.getElem?_cons_succ, zw27, rs27, tt3, tt22, tt23, tt29, tt31, ti3, ti22, ti23, ti29, ti31, t_21, zs_Hand_RawOp, zs_Api_Op, zsl22, zsl23, e3]
    repeat' ((first | (refine condW_b ?_ ?_ <;> intro hc) | (refine wantO_s ?_ ?_ <;> intro hc) | (refine wantD_s _ _ _ _ ?_ ?_ <;> intro hc) | (refine bindO_i ?_ ?_ <;> intro hc) | (refine bindE_i _ _ _ _ ?_ ?_ <;> intro hc)) <;> (try simp only [decide_eq_true_eq, decide_eq_false_iff_not, Bool.or_eq_true, Bool.and_eq_true, Bool.not_eq_true, Bool.not_eq_false, Bool.not_not, Classical.not_not, Int.not_le, Int.not_lt, Bool.not_eq_true', Bool.not_eq_false'] at hc) <;> (try have hw := within_spec hc) <;> (try simp -dsimp (disch := first | assumption | omega | (simp only [Hp.bump_n, Hp.znew_n, Hp.zset_n, List.length_nil, List.length_cons, List.length_append, List.length_map]; (first | done | omega)) | (simp (disch := first | omega | (simp only [Hp.bump_n, Hp.znew_n, Hp.zset_n, List.length_nil, List.length_cons, List.length_append, List.length_map]; (first | done | omega))) only [zheap]; done) | (simp (disch := first | omega | (simp only [Hp.bump_n, Hp.znew_n, Hp.zset_n, List.length_nil, List.length_cons, List.length_append, List.length_map]; (first | done | omega))) only [zheap]; rfl)) only [zall, zopm, zop, zcallOp, qop, qbuiltin, ofOpt, List.map, reduceCtorEq, if_true, if_false, ↓reduceIte, zbin, eqRes, qassert, qnum, qshift, qun, kindOf, allocV, true_and, and_true, and_self, List.nil_append, List.append_nil, List.cons_append, List.length_cons, List.length_nil, Nat.reduceAdd, Nat.reduceEqDiff, Nat.reduceLT, Nat.reduceSub, Nat.reduceMul, Int.reduceToNat, Int.reduceLE, Int.reduceLT, Int.reduceEq, Int.reduceNeg, Int.reduceAdd, Int.reduceSub, Bool.true_and, Bool.and_true, Bool.and_self, Bool.false_and, Bool.and_false, Bool.not_true, Bool.not_false, beq_self_eq_true, cond_true, cond_false, decide_true, decide_false, isConstOpd, xpanic, xconv, isBytes, qconv, List.length_map, List.map_nil, List.map_cons, concrete, Option.some.injEq, exists_eq', Int.toNat_natCast, Option.map_some, Option.map_none, List.getElem?_cons_zero, List.getElem?_cons_succ, zw27, rs27, tt3, tt22, tt23, tt29, tt31, ti3, ti22, ti23, ti29, ti31, t_21, zs_Hand_RawOp, zs_Api_Op, zsl22, zsl23, e3, hc]))
    have hw := fun k => weak_partL (f := Api_Op.cv) (fun x j => by simp [Api_Op.nohas]) acc k happ
    rw [hacc] at hw
    refine shr_keep hF (fun k o h => by have hd := hF.dom k o h; (try simp (disch := first | assumption | omega | (simp only [Hp.bump_n, Hp.znew_n, Hp.zset_n]; (first | done | omega))) only [Hp.bump_get, Hp.get_set_ne, Hp.get_new_ne, Hp.bump_n, Hp.znew_n, Hp.zset_n]); exact hle k o h) ?_
    exact hw _
end Go.Proofs.Ytpchcfkebljopaa
end
section
namespace Go.Proofs.Ytpchcfkebljopaa
open Go.Cl Go Go.RowKit
def SameE (a b : Rule_Env) : Prop := a.Body = b.Body ∧ a.In = b.In ∧ a.Dice = b.Dice ∧ a.Room = b.Room ∧ a.Shots.l = b.Shots.l
theorem sameE_iff {a b : Rule_Env} : sameE a b = true ↔ SameE a b := by simp [sameE, SameE, and_assoc]
theorem SameE.refl (a : Rule_Env) : SameE a a := ⟨rfl, rfl, rfl, rfl, rfl⟩
theorem SameE.symm {a b : Rule_Env} (h : SameE a b) : SameE b a := ⟨h.1.symm, h.2.1.symm, h.2.2.1.symm, h.2.2.2.1.symm, h.2.2.2.2.symm⟩
def SameR (m m2 : Rule_machine) : Except Int (Rule_machine × Int) → Except Int (Rule_machine × Int) → Prop
  | .error c, .error d => c = d
  | .ok r, .ok s => SameE r.1.e_ s.1.e_ ∧ r.2 = m.at_ + 1 ∧ s.2 = m2.at_ + 1
  | _, _ => False
theorem SameE.set {m m2 : Rule_machine} (h : SameE m.e_ m2.e_) (k : Nat) (n : Int) : SameE (Mach.set m k n).e_ (Mach.set m2 k n).e_ := ⟨by simp only [Mach.set, Mach.body, h.1], h.2⟩
theorem SameE.put {m m2 : Rule_machine} (h : SameE m.e_ m2.e_) (k n : Int) : SameE (Mach.put m k n).e_ (Mach.put m2 k n).e_ := ⟨by simp only [Mach.put, Mach.body, h.1], h.2⟩
theorem SameE.reg {m m2 : Rule_machine} (h : SameE m.e_ m2.e_) (k : Nat) : Mach.reg m2 k = Mach.reg m k := by simp only [Mach.reg, h.1]
theorem SameE.field {m m2 : Rule_machine} (h : SameE m.e_ m2.e_) (k : Nat) : Mach.field m2 k = Mach.field m k := by simp only [Mach.field, h.1, h.2.1]
def SameK : Except Int Rule_machine → Except Int Rule_machine → Prop
  | .error c, .error d => c = d
  | .ok r, .ok s => SameE r.e_ s.e_
  | _, _ => False
theorem reckon_same {m m2 : Rule_machine} {o : Api_Op} (h : SameE m.e_ m2.e_) : SameK (Mach.reckon m o) (Mach.reckon m2 o) := by
  unfold Mach.reckon
  simp only [h.reg]
  by_cases c2 : o.Code = 2
  · rw [if_pos c2, if_pos c2]; exact h.set _ _
  rw [if_neg c2, if_neg c2]
  by_cases c3 : o.Code = 3
  · rw [if_pos c3, if_pos c3]; exact h.set _ _
  rw [if_neg c3, if_neg c3]
  by_cases c4 : o.Code = 4
  · rw [if_pos c4, if_pos c4]; exact h.set _ _
  rw [if_neg c4, if_neg c4]
  by_cases c5 : o.Code = 5
  · rw [if_pos c5, if_pos c5]; exact h.set _ _
  rw [if_neg c5, if_neg c5]
  by_cases c6 : o.Code = 6
  · rw [if_pos c6, if_pos c6]
    by_cases z : Mach.reg m o.B.toNat = 0
    · rw [if_pos z, if_pos z]; rfl
    · rw [if_neg z, if_neg z]; exact h.set _ _
  rw [if_neg c6, if_neg c6]
  by_cases c11 : o.Code = 11
  · rw [if_pos c11, if_pos c11]
    by_cases z : Mach.reg m o.B.toNat < 1
    · rw [if_pos z, if_pos z]; rfl
    · rw [if_neg z, if_neg z]
      rw [← h.2.2.1]
      exact SameE.set (m := { m with e_ := { m.e_ with Dice := (diceRoll m.e_.Dice (Mach.reg m o.B.toNat)).1 } }) (m2 := { m2 with e_ := { m2.e_ with Dice := (diceRoll m.e_.Dice (Mach.reg m o.B.toNat)).1 } }) ⟨h.1, h.2.1, rfl, h.2.2.2⟩ _ _
  rw [if_neg c11, if_neg c11]
  by_cases z : (m.e_.Shots.l.length : Int) < m.e_.Room
  · have z2 : (m2.e_.Shots.l.length : Int) < m2.e_.Room := by rw [← h.2.2.2.2, ← h.2.2.2.1]; exact z
    rw [if_pos z, if_pos z2]; exact ⟨h.1, h.2.1, h.2.2.1, h.2.2.2.1, by simp only [h.1, h.2.2.2.2]⟩
  · have z2 : ¬ (m2.e_.Shots.l.length : Int) < m2.e_.Room := by rw [← h.2.2.2.2, ← h.2.2.2.1]; exact z
    rw [if_neg z, if_neg z2]; rfl
theorem doOp_same {m m2 : Rule_machine} {o : Api_Op} (ho : opStays o = true) (h : SameE m.e_ m2.e_) : SameR m m2 (Mach.doOp m o) (Mach.doOp m2 o) := by
  have n10 : o.Code ≠ 10 := by intro e; simp [opStays, e] at ho
  have n9 : o.Code ≠ 9 := by intro e; simp [opStays, e] at ho
  have n13 : o.Code ≠ 13 := by intro e; simp [opStays, e] at ho
  unfold Mach.doOp
  rw [h.reg, h.field]
  by_cases c1 : within o.Code 1 13 = false
  · rw [if_pos c1, if_pos c1]; rfl
  rw [if_neg c1, if_neg c1]
  by_cases c2 : namedOk o = false
  · rw [if_pos c2, if_pos c2]; rfl
  rw [if_neg c2, if_neg c2]
  by_cases c3 : o.Code = 1
  · rw [if_pos c3, if_pos c3]; exact ⟨h.set _ _, rfl, rfl⟩
  rw [if_neg c3, if_neg c3]
  by_cases c4 : o.Code = 7
  · rw [if_pos c4, if_pos c4]
    by_cases z : within o.B 0 7 = false
    · rw [if_pos z, if_pos z]; rfl
    · rw [if_neg z, if_neg z]; exact ⟨h.set _ _, rfl, rfl⟩
  rw [if_neg c4, if_neg c4]
  by_cases c5 : o.Code = 8
  · rw [if_pos c5, if_pos c5]
    by_cases z : within o.A 0 3 = false
    · rw [if_pos z, if_pos z]; rfl
    · rw [if_neg z, if_neg z]; exact ⟨h.put _ _, rfl, rfl⟩
  rw [if_neg c5, if_neg c5, if_neg n9, if_neg n9, if_neg n10, if_neg n10, if_neg n13, if_neg n13]
  have hk := reckon_same (o := o) h
  cases h1 : Mach.reckon m o <;> cases h2 : Mach.reckon m2 o <;> rw [h1, h2] at hk <;> first | exact hk.elim | exact hk | exact ⟨hk, rfl, rfl⟩
def eff (e : Rule_Env) (o : Api_Op) : Except Int Rule_Env :=
  match Mach.doOp ⟨e, ⟨.nil, [], fun _ => rfl⟩, 0⟩ o with
  | .error c => .error c
  | .ok r => .ok r.1.e_
def foldS : List Api_Op → Rule_Env → Int → Except (Int × Int) Rule_Env
  | [], e, _ => .ok e
  | o :: l, e, a => match eff e o with
    | .error c => .error (c, a)
    | .ok e' => foldS l e' (a + 1)
def SameF (d : Int) : Except (Int × Int) Rule_Env → Except (Int × Int) Rule_Env → Prop
  | .error c, .error d' => c.1 = d'.1 ∧ d'.2 = c.2 + d
  | .ok r, .ok s => SameE r s
  | _, _ => False
theorem eff_same {e e2 : Rule_Env} {o : Api_Op} (ho : opStays o = true) (h : SameE e e2) : match eff e o, eff e2 o with
    | .error c, .error d => c = d
    | .ok r, .ok s => SameE r s
    | _, _ => False := by
  have k := doOp_same (m := ⟨e, ⟨.nil, [], fun _ => rfl⟩, 0⟩) (m2 := ⟨e2, ⟨.nil, [], fun _ => rfl⟩, 0⟩) ho h
  unfold eff
  cases h1 : Mach.doOp ⟨e, ⟨.nil, [], fun _ => rfl⟩, 0⟩ o <;> cases h2 : Mach.doOp ⟨e2, ⟨.nil, [], fun _ => rfl⟩, 0⟩ o <;> rw [h1, h2] at k <;> first | exact k.elim | exact k | exact k.1
theorem foldS_same : ∀ (l : List Api_Op) (e e2 : Rule_Env) (a d : Int), (∀ o ∈ l, opStays o = true) → SameE e e2 → SameF d (foldS l e a) (foldS l e2 (a + d))
  | [], _, _, _, _, _, h => h
  | o :: l, e, e2, a, d, ho, h => by
    have k := eff_same (ho o (.head _)) h
    unfold foldS
    cases h1 : eff e o <;> cases h2 : eff e2 o <;> rw [h1, h2] at k
    · exact ⟨k, rfl⟩
    · exact k.elim
    · exact k.elim
    · have := foldS_same l _ _ (a + 1) d (fun o ho' => ho o (.tail _ ho')) k
      have e1 : a + d + 1 = a + 1 + d := by omega
      simp only [e1]
      exact this
theorem run_stays : ∀ (A : List Api_Op) (k : Nat) (m : Rule_machine) (e : Rule_Env) (pre post : List Api_Op), m.l_.l = pre ++ (A ++ post) → m.at_ = pre.length → SameE m.e_ e → (∀ o ∈ A, opStays o = true) → A.length ≤ k →
    match foldS A e m.at_ with
    | .error c => Mach.run k m = .error c
    | .ok e' => ∃ m', Mach.run k m = Mach.run (k - A.length) m' ∧ SameE m'.e_ e' ∧ m'.l_ = m.l_ ∧ m'.at_ = m.at_ + A.length
  | [], k, m, e, pre, post, hl, ha, h, _, _ => ⟨m, by simp, h, rfl, by simp⟩
  | o :: A, 0, m, e, pre, post, hl, ha, h, ho, hk => by simp at hk
  | o :: A, k + 1, m, e, pre, post, hl, ha, h, ho, hk => by
    have hlt : m.at_ < m.l_.l.length := by rw [hl, ha]; simp; omega
    have hn : nth m.l_.l m.at_.toNat = o := by rw [hl, ha]; simp [nth]
    have hd := doOp_same (m := m) (m2 := ⟨e, ⟨.nil, [], fun _ => rfl⟩, 0⟩) (ho o (.head _)) h
    unfold foldS eff
    conv => congr <;> (unfold Mach.run; rw [if_pos hlt])
    simp only [hn]
    cases h1 : Mach.doOp m o with
    | error c =>
      cases h2 : Mach.doOp ⟨e, ⟨.nil, [], fun _ => rfl⟩, 0⟩ o with
      | error d => rw [h1, h2] at hd; simp only; rw [show c = d from hd]
      | ok s => rw [h1, h2] at hd; exact hd.elim
    | ok r =>
      cases h2 : Mach.doOp ⟨e, ⟨.nil, [], fun _ => rfl⟩, 0⟩ o with
      | error d => rw [h1, h2] at hd; exact hd.elim
      | ok s =>
        rw [h1, h2] at hd
        obtain ⟨d1, d2, _⟩ := hd
        obtain ⟨m2, n⟩ := r
        simp only at d1 d2 ⊢
        have hkeep := Mach.doOp_keeps h1 (by omega) hlt
        have ih := run_stays A k { m2 with at_ := n } s.1.e_ (pre ++ [o]) post (by simp only; rw [hkeep.2.1, hl]; simp) (by simp only; rw [d2, ha]; simp) d1 (fun x hx => ho x (.tail _ hx)) (by simpa using hk)
        simp only [d2] at ih ⊢
        cases hf : foldS A s.1.e_ (m.at_ + 1) with
        | error c => rw [hf] at ih; exact ih
        | ok e' =>
          rw [hf] at ih
          obtain ⟨m', i1, i2, i3, i4⟩ := ih
          refine ⟨m', by rw [i1]; simp only [List.length_cons, Nat.add_sub_add_right]; (conv => lhs; unfold Mach.run), i2, by rw [i3]; exact hkeep.2.1, by rw [i4]; simp; omega⟩
end Go.Proofs.Ytpchcfkebljopaa
end
section
namespace Go.Proofs.Ytpchcfkebljopaa
open Go.Cl Go Go.RowKit
theorem run_end {m : Rule_machine} (k : Nat) (h : ¬ m.at_ < m.l_.l.length) : Mach.run k m = .ok m := by
  unfold Mach.run; rw [if_neg h]
theorem run_whole {A : List Api_Op} {k : Nat} {m : Rule_machine} {e : Rule_Env} (hl : m.l_.l = A) (ha : m.at_ = 0) (h : SameE m.e_ e) (ho : ∀ o ∈ A, opStays o = true) (hk : A.length ≤ k) :
    match foldS A e 0 with
    | .error c => Mach.run k m = .error c
    | .ok e' => ∃ m', Mach.run k m = .ok m' ∧ SameE m'.e_ e' := by
  have := run_stays A k m e [] [] (by simp [hl]) (by simp [ha]) h ho hk
  rw [ha] at this
  cases hf : foldS A e 0 with
  | error c => rw [hf] at this; exact this
  | ok e' =>
    rw [hf] at this
    obtain ⟨m', h1, h2, h3, h4⟩ := this
    refine ⟨m', ?_, h2⟩
    rw [h1, run_end _ (by rw [h4, h3, hl]; omega)]
theorem run_halt {A B : List Api_Op} {k : Nat} {m : Rule_machine} {e : Rule_Env} (hl : m.l_.l = A ++ ⟨13, 0, 0⟩ :: B) (ha : m.at_ = 0) (h : SameE m.e_ e) (ho : ∀ o ∈ A, opStays o = true) (hk : A.length + 1 ≤ k) :
    match foldS A e 0 with
    | .error c => Mach.run k m = .error c
    | .ok e' => ∃ m', Mach.run k m = .ok m' ∧ SameE m'.e_ e' := by
  have := run_stays A k m e [] (⟨13, 0, 0⟩ :: B) (by simp [hl]) (by simp [ha]) h ho (by omega)
  rw [ha] at this
  cases hf : foldS A e 0 with
  | error c => rw [hf] at this; exact this
  | ok e' =>
    rw [hf] at this
    obtain ⟨m', h1, h2, h3, h4⟩ := this
    obtain ⟨j, hj⟩ : ∃ j, k - A.length = j + 1 := ⟨k - A.length - 1, by omega⟩
    have hlt : m'.at_ < m'.l_.l.length := by rw [h3, h4, hl]; simp; omega
    have hn : nth m'.l_.l m'.at_.toNat = ⟨13, 0, 0⟩ := by rw [h3, h4, hl]; simp [nth]
    have hd : Mach.doOp m' ⟨13, 0, 0⟩ = .ok (m', m'.l_.l.length) := by simp [Mach.doOp, within, namedOk, needA, needB]
    refine ⟨{ m' with at_ := m'.l_.l.length }, ?_, h2⟩
    rw [h1, hj]
    conv => lhs; unfold Mach.run
    rw [if_pos hlt]
    simp only [hn, hd]
    exact run_end _ (by simp)
theorem run_two {A B : List Api_Op} {k : Nat} {m : Rule_machine} {e : Rule_Env} (hl : m.l_.l = A ++ B) (ha : m.at_ = 0) (h : SameE m.e_ e) (ho : ∀ o ∈ A, opStays o = true) (hp : ∀ o ∈ B, opStays o = true) (hk : A.length + B.length ≤ k) :
    match foldS A e 0 with
    | .error c => Mach.run k m = .error c
    | .ok e' => match foldS B e' A.length with
      | .error c => Mach.run k m = .error c
      | .ok e2 => ∃ m', Mach.run k m = .ok m' ∧ SameE m'.e_ e2 := by
  have := run_stays A k m e [] B (by simp [hl]) (by simp [ha]) h ho (by omega)
  rw [ha] at this
  cases hf : foldS A e 0 with
  | error c => rw [hf] at this; exact this
  | ok e' =>
    rw [hf] at this
    obtain ⟨m', h1, h2, h3, h4⟩ := this
    have := run_stays B (k - A.length) m' e' A [] (by rw [h3, hl]; simp) (by rw [h4]; simp) h2 hp (by omega)
    rw [show m'.at_ = (A.length : Int) by rw [h4]; simp] at this
    cases hg : foldS B e' A.length with
    | error c => rw [hg] at this; simp only [hg]; rw [h1]; exact this
    | ok e2 =>
      rw [hg] at this
      obtain ⟨m2, i1, i2, i3, i4⟩ := this
      simp only [hg]
      refine ⟨m2, ?_, i2⟩
      rw [h1, i1, run_end _ (by rw [i4, i3, h3, hl]; simp)]
theorem inv_envOf (x : Law12_RawEnv) (hr : Body.right (envOf x).Body = true) : InvE (envOf x) (copiedE (envOf x)) := by
  have hp := pick_range (n := x.Room) (m := 8) (by omega)
  refine ⟨hr, rfl, rfl, rfl, rfl, rfl, rfl, ?_, ?_⟩
  · simp [copiedE, cloneP, envOf, Rule_Env.zero]; exact hp.1
  · intro s hs; simp [copiedE, cloneP, envOf, Rule_Env.zero] at hs
theorem same_copied (e : Rule_Env) : SameE (copiedE e) e := ⟨rfl, rfl, rfl, rfl, by simp [copiedE, cloneP_l]⟩
theorem SameE.trans {a b c : Rule_Env} (h : SameE a b) (k : SameE b c) : SameE a c := ⟨h.1.trans k.1, h.2.1.trans k.2.1, h.2.2.1.trans k.2.2.1, h.2.2.2.1.trans k.2.2.2.1, h.2.2.2.2.trans k.2.2.2.2⟩
theorem rule_stops (x : Law12_RawEnv) {lA lH lT lB : Lst Api_Op} {A B : List Api_Op} (hA : lA.l = A) (hH : lH.l = A ++ ⟨13, 0, 0⟩ :: B) (hT : lT.l = A ++ B) (hB : lB.l = B)
    (sA : ∀ o ∈ A, opStays o = true) (sB : ∀ o ∈ B, opStays o = true) (nA : A.length ≤ 7) (nB : B.length ≤ 7) :
    (ruleRun lA (envOf x)).2.2 = (ruleRun lH (envOf x)).2.2 ∧ (ruleRun lA (envOf x)).2.1 = (ruleRun lH (envOf x)).2.1 ∧ sameE (ruleRun lA (envOf x)).1 (ruleRun lH (envOf x)).1 = true ∧
    ((ruleRun lA (envOf x)).2.2 = false → (ruleRun lT (envOf x)).2.2 = false) ∧
    ((ruleRun lA (envOf x)).2.2 = true → (ruleRun lT (envOf x)).2.2 = (ruleRun lB (ruleRun lA (envOf x)).1).2.2 ∧ ((ruleRun lT (envOf x)).2.2 = true → sameE (ruleRun lT (envOf x)).1 (ruleRun lB (ruleRun lA (envOf x)).1).1 = true)) := by
  have hk := envOf_kind x
  by_cases hr : Body.right (envOf x).Body = true
  · have hi := inv_envOf x hr
    have hn : ¬ (Body.right (envOf x).Body = false ∨ (envOf x).Body.Kind = 0) := by rw [hr, hk]; simp
    have u : ∀ l, ruleRun l (envOf x) = match Mach.run 64 ⟨copiedE (envOf x), l, 0⟩ with
      | .ok m => (m.e_, ⟨0, 0⟩, true)
      | .error c => (copiedE (envOf x), ⟨c.1, c.2⟩, false) := fun l => by unfold ruleRun; rw [if_neg hn]; cases Mach.run 64 ⟨copiedE (envOf x), l, 0⟩ <;> rfl
    have r1 := run_whole (k := 64) (m := ⟨copiedE (envOf x), lA, 0⟩) hA rfl (SameE.refl _) sA (by omega)
    have r2 := run_halt (k := 64) (m := ⟨copiedE (envOf x), lH, 0⟩) hH rfl (SameE.refl _) sA (by omega)
    have r3 := run_two (k := 64) (m := ⟨copiedE (envOf x), lT, 0⟩) hT rfl (SameE.refl _) sA sB (by omega)
    have iv := run_inv (e := envOf x) (by omega) 64 ⟨copiedE (envOf x), lA, 0⟩ hi (by simp)
    simp only at r1 r2 r3
    cases hf : foldS A (copiedE (envOf x)) 0 with
    | error c =>
      rw [hf] at r1 r2 r3
      simp only at r1 r2 r3
      simp only [u, r1, r2, r3]
      exact ⟨trivial, trivial, sameE_iff.2 (SameE.refl _), fun _ => trivial, fun h => (by cases h)⟩
    | ok e' =>
      rw [hf] at r1 r2 r3
      simp only at r1 r2 r3
      obtain ⟨m1, q1, s1⟩ := r1
      obtain ⟨m2, q2, s2⟩ := r2
      rw [q1] at iv
      have hn4 : ¬ (Body.right m1.e_.Body = false ∨ m1.e_.Body.Kind = 0) := by rw [iv.right, iv.kind, hk]; simp
      have u4 : ruleRun lB m1.e_ = match Mach.run 64 ⟨copiedE m1.e_, lB, 0⟩ with
        | .ok m => (m.e_, ⟨0, 0⟩, true)
        | .error c => (copiedE m1.e_, ⟨c.1, c.2⟩, false) := by unfold ruleRun; rw [if_neg hn4]; cases Mach.run 64 ⟨copiedE m1.e_, lB, 0⟩ <;> rfl
      have r4 := run_whole (k := 64) (m := ⟨copiedE m1.e_, lB, 0⟩) (e := e') hB rfl ((same_copied _).trans s1) sB (by omega)
      have ff := foldS_same B e' e' 0 A.length sB (SameE.refl _)
      rw [Int.zero_add] at ff
      cases h0 : foldS B e' 0 with
      | error c =>
        cases h1 : foldS B e' A.length with
        | error d =>
          rw [h0] at r4; rw [h1] at r3
          simp only at r3 r4
          simp only [u, u4, q1, q2, r3, r4]
          exact ⟨trivial, trivial, sameE_iff.2 (s1.trans s2.symm), fun h => (by cases h), fun _ => ⟨trivial, fun h => (by cases h)⟩⟩
        | ok d => rw [h0, h1] at ff; exact ff.elim
      | ok c =>
        cases h1 : foldS B e' A.length with
        | error d => rw [h0, h1] at ff; exact ff.elim
        | ok d =>
          rw [h0, h1] at ff
          rw [h0] at r4; rw [h1] at r3
          simp only at r3 r4
          obtain ⟨m3, q3, s3⟩ := r3
          obtain ⟨m4, q4, s4⟩ := r4
          simp only [u, u4, q1, q2, q3, q4]
          exact ⟨trivial, trivial, sameE_iff.2 (s1.trans s2.symm), fun h => (by cases h), fun _ => ⟨trivial, fun _ => sameE_iff.2 (s3.trans (SameE.symm (s4.trans ff)))⟩⟩
  · have hn : Body.right (envOf x).Body = false ∨ (envOf x).Body.Kind = 0 := .inl (by simpa using hr)
    have u : ∀ l, ruleRun l (envOf x) = (copiedE (envOf x), ⟨0, 0⟩, false) := fun l => by unfold ruleRun; rw [if_pos hn]
    simp only [u]
    exact ⟨trivial, trivial, sameE_iff.2 (SameE.refl _), fun _ => trivial, fun h => (by cases h)⟩
end Go.Proofs.Ytpchcfkebljopaa
end
section
namespace Go.Proofs.Ytpchcfkebljopaa
open Go.Cl Go Go.RowKit
def Mach.withL (m : Rule_machine) (s : Lst Api_Op) : Rule_machine := { m with l_ := s }
theorem reckon_withL (m : Rule_machine) (s : Lst Api_Op) (o : Api_Op) : Mach.reckon (Mach.withL m s) o = match Mach.reckon m o with | .ok r => .ok (Mach.withL r s) | .error c => .error c := by
  have h1 : ∀ k, Mach.reg (Mach.withL m s) k = Mach.reg m k := fun _ => rfl
  unfold Mach.reckon
  simp only [h1]
  by_cases c2 : o.Code = 2
  · simp only [if_pos c2]; rfl
  by_cases c3 : o.Code = 3
  · simp only [if_neg c2, if_pos c3]; rfl
  by_cases c4 : o.Code = 4
  · simp only [if_neg c2, if_neg c3, if_pos c4]; rfl
  by_cases c5 : o.Code = 5
  · simp only [if_neg c2, if_neg c3, if_neg c4, if_pos c5]; rfl
  by_cases c6 : o.Code = 6
  · simp only [if_neg c2, if_neg c3, if_neg c4, if_neg c5, if_pos c6]
    by_cases z : Mach.reg m o.B.toNat = 0
    · simp only [if_pos z]
    · simp only [if_neg z]; rfl
  by_cases c11 : o.Code = 11
  · simp only [if_neg c2, if_neg c3, if_neg c4, if_neg c5, if_neg c6, if_pos c11]
    by_cases z : Mach.reg m o.B.toNat < 1
    · simp only [if_pos z]
    · simp only [if_neg z]; rfl
  simp only [if_neg c2, if_neg c3, if_neg c4, if_neg c5, if_neg c6, if_neg c11]
  by_cases z : (m.e_.Shots.l.length : Int) < m.e_.Room
  · rw [if_pos z, if_pos (show ((Mach.withL m s).e_.Shots.l.length : Int) < (Mach.withL m s).e_.Room from z)]; rfl
  · rw [if_neg z, if_neg (show ¬ ((Mach.withL m s).e_.Shots.l.length : Int) < (Mach.withL m s).e_.Room from z)]
theorem doOp_withL (m : Rule_machine) (s : Lst Api_Op) (o : Api_Op) (h : s.l = m.l_.l) : Mach.doOp (Mach.withL m s) o = match Mach.doOp m o with | .ok r => .ok (Mach.withL r.1 s, r.2) | .error c => .error c := by
  have h1 : ∀ k, Mach.reg (Mach.withL m s) k = Mach.reg m k := fun _ => rfl
  have h2 : ∀ k, Mach.field (Mach.withL m s) k = Mach.field m k := fun _ => rfl
  have h3 : (Mach.withL m s).l_.l = m.l_.l := h
  unfold Mach.doOp
  simp only [h1, h2, h3, reckon_withL]
  by_cases c1 : within o.Code 1 13 = false
  · simp only [if_pos c1]
  by_cases c2 : namedOk o = false
  · simp only [if_neg c1, if_pos c2]
  by_cases c3 : o.Code = 1
  · simp only [if_neg c1, if_neg c2, if_pos c3]; rfl
  by_cases c4 : o.Code = 7
  · simp only [if_neg c1, if_neg c2, if_neg c3, if_pos c4]
    by_cases z : within o.B 0 7 = false
    · simp only [if_pos z]
    · simp only [if_neg z]; rfl
  by_cases c5 : o.Code = 8
  · simp only [if_neg c1, if_neg c2, if_neg c3, if_neg c4, if_pos c5]
    by_cases z : within o.A 0 3 = false
    · simp only [if_pos z]
    · simp only [if_neg z]; rfl
  by_cases c6 : o.Code = 9
  · simp only [if_neg c1, if_neg c2, if_neg c3, if_neg c4, if_neg c5, if_pos c6]
    by_cases z : Mach.reg m o.A.toNat = 0
    · simp only [if_pos z]
      by_cases y : within o.B 0 m.l_.l.length = false
      · simp only [if_pos y]
      · simp only [if_neg y]
    · simp only [if_neg z]; rfl
  by_cases c7 : o.Code = 10
  · simp only [if_neg c1, if_neg c2, if_neg c3, if_neg c4, if_neg c5, if_neg c6, if_pos c7]
    by_cases y : within o.B 0 m.l_.l.length = false
    · simp only [if_pos y]
    · simp only [if_neg y]
  by_cases c8 : o.Code = 13
  · simp only [if_neg c1, if_neg c2, if_neg c3, if_neg c4, if_neg c5, if_neg c6, if_neg c7, if_pos c8]
  simp only [if_neg c1, if_neg c2, if_neg c3, if_neg c4, if_neg c5, if_neg c6, if_neg c7, if_neg c8]
  cases Mach.reckon m o <;> rfl
theorem run_withL (s : Lst Api_Op) : ∀ (k : Nat) (m : Rule_machine), s.l = m.l_.l → 0 ≤ m.at_ → Mach.run k (Mach.withL m s) = match Mach.run k m with | .ok r => .ok (Mach.withL r s) | .error c => .error c
  | k, m, h, ha => by
    have h3 : (Mach.withL m s).l_.l = m.l_.l := h
    have h4 : (Mach.withL m s).at_ = m.at_ := rfl
    unfold Mach.run
    rw [h3, h4]
    by_cases hlt : m.at_ < m.l_.l.length
    · rw [if_pos hlt, if_pos hlt]
      cases k with
      | zero => rfl
      | succ k =>
        simp only [doOp_withL m s _ h]
        cases hd : Mach.doOp m (nth m.l_.l m.at_.toNat) with
        | error c => rfl
        | ok r =>
          obtain ⟨m2, n⟩ := r
          simp only
          have kk := Mach.doOp_keeps hd ha hlt
          exact run_withL s k { m2 with at_ := n } (by simp only; rw [kk.2.1]; exact h) kk.2.2.2.2.1
    · rw [if_neg hlt, if_neg hlt]
theorem ruleRun_l {l s : Lst Api_Op} (h : s.l = l.l) (e : Rule_Env) : ruleRun s e = ruleRun l e := by
  have := run_withL s 64 ⟨copiedE e, l, 0⟩ h (by simp)
  unfold ruleRun
  rw [show (⟨copiedE e, s, 0⟩ : Rule_machine) = Mach.withL ⟨copiedE e, l, 0⟩ s from rfl, this]
  cases Mach.run 64 ⟨copiedE e, l, 0⟩ <;> rfl
def runL (L : List Api_Op) (e : Rule_Env) : Rule_Env × Trap_Fault × Bool := ruleRun ⟨.view, L, nofun⟩ e
theorem ruleRun_L (t : Tail) (L : List Api_Op) (o : _) (e : Rule_Env) : ruleRun ⟨t, L, o⟩ e = runL L e := ruleRun_l (l := ⟨.view, L, nofun⟩) (s := ⟨t, L, o⟩) rfl e
theorem rule_stopsL (x : Law12_RawEnv) {A B : List Api_Op} (sA : ∀ o ∈ A, opStays o = true) (sB : ∀ o ∈ B, opStays o = true) (nA : A.length ≤ 7) (nB : B.length ≤ 7) :
    (runL A (envOf x)).2.2 = (runL (A ++ ⟨13, 0, 0⟩ :: B) (envOf x)).2.2 ∧ (runL A (envOf x)).2.1 = (runL (A ++ ⟨13, 0, 0⟩ :: B) (envOf x)).2.1 ∧ sameE (runL A (envOf x)).1 (runL (A ++ ⟨13, 0, 0⟩ :: B) (envOf x)).1 = true ∧
    ((runL A (envOf x)).2.2 = false → (runL (A ++ B) (envOf x)).2.2 = false) ∧
    ((runL A (envOf x)).2.2 = true → (runL (A ++ B) (envOf x)).2.2 = (runL B (runL A (envOf x)).1).2.2 ∧ ((runL (A ++ B) (envOf x)).2.2 = true → sameE (runL (A ++ B) (envOf x)).1 (runL B (runL A (envOf x)).1).1 = true)) :=
  rule_stops x (lA := ⟨.view, A, nofun⟩) (lH := ⟨.view, A ++ ⟨13, 0, 0⟩ :: B, nofun⟩) (lT := ⟨.view, A ++ B, nofun⟩) (lB := ⟨.view, B, nofun⟩) rfl rfl rfl rfl sA sB nA nB
theorem runL_len (x : Law12_RawEnv) (L : List Api_Op) : (runL L (envOf x)).1.Shots.l.length ≤ 7 := by
  by_cases hr : Body.right (envOf x).Body = true
  · have hT := rule_total x ⟨.view, L, nofun⟩ hr
    cases ho : (runL L (envOf x)).2.2 with
    | true =>
      have := (hT.1 ho).2.len
      have hp := pick_range (n := x.Room) (m := 8) (by omega)
      have : (envOf x).Room = pick x.Room 8 := rfl
      unfold runL
      omega
    | false =>
      have := (hT.2 ho).2
      simp only [sameE, Bool.and_eq_true, decide_eq_true_eq] at this
      unfold runL
      rw [this.2]; simp [envOf, Rule_Env.zero]
  · unfold runL ruleRun
    rw [if_pos (.inl (by simpa using hr))]
    simp [copiedE, cloneP_l, envOf, Rule_Env.zero]
theorem runL_tl (L : List Api_Op) (e : Rule_Env) : (runL L e).1.Shots.tl ≠ .view := by
  unfold runL ruleRun
  split
  · exact cloneP_nv _
  · cases h : Mach.run 64 ⟨copiedE e, ⟨.view, L, nofun⟩, 0⟩ with
    | error c => exact cloneP_nv _
    | ok m =>
      rcases (Mach.run_keeps 64 _ m h (by simp)).1 with k | k
      · simp only [k]; exact cloneP_nv _
      · simp only [k]; simp
end Go.Proofs.Ytpchcfkebljopaa
end
