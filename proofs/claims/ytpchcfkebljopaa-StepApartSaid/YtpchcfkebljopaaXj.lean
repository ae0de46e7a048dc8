import Derived.Test.YtpchcfkebljopaaXi
set_option linter.unusedSimpArgs false
set_option linter.unusedVariables false
set_option linter.constructorNameAsVariable false
section
-- @nole
namespace Go.Proofs.Ytpchcfkebljopaa
open Go.Cl Go Go.RowKit
set_option maxRecDepth 100000
set_option linter.constructorNameAsVariable false
def mapE (seen : List Int) : List (CV × CV) := seen.map fun n => (I n, Bo true)
theorem V04 (n : Int) : ∀ (seen : List Int) (k : Nat), (seen.contains n = false ∧ findK .i64 n k (mapE seen) = some none) ∨ (seen.contains n = true ∧ ∃ j, findK .i64 n k (mapE seen) = some (some (j, Bo true)))
  | [], k => .inl ⟨rfl, rfl⟩
  | x :: l, k => by
    have hf : findK .i64 n k (mapE (x :: l)) = bif decide (n = x) then some (some (k, Bo true)) else findK .i64 n (k + 1) (mapE l) := by
      simp only [mapE, List.map_cons, findK, if_true]
    by_cases h : n = x
    · right; rw [hf]; simp [h]
    · rcases V04 n l (k + 1) with ⟨h1, h2⟩ | ⟨h1, j, h2⟩
      · left; rw [hf]; simp only [h, decide_false, cond_false]; exact ⟨by simp only [List.contains_cons, h1, Bool.or_false]; simp [h], h2⟩
      · right; rw [hf]; simp only [h, decide_false, cond_false]; exact ⟨by simp only [List.contains_cons, h1, Bool.or_true], j, h2⟩
theorem look224 (p : Hp) (i : Nat) (n : Int) (seen : List Int) (h : p.t.get i = some (.map (mapE seen))) : xlookup C p 224 (.mapr i) (I n) false = .ret (Bo (seen.contains n)) p := by
  have hm : mapKV C 224 = some (4, ti4) := by simp only [mapKV, tt224, ti224, tt3, ti3, tt4]
  simp only [xlookup, hm, entriesOf, h]
  rcases V04 n seen 0 with ⟨h1, h2⟩ | ⟨h1, j, h2⟩
  · rw [h2, h1]; rfl
  · rw [h2, h1]; rfl
theorem upd224 (p : Hp) (i : Nat) (n : Int) (seen : List Int) (h : p.t.get i = some (.map (mapE seen))) (hn : seen.contains n = false) : xupdate C p 224 (.mapr i) (I n) (Bo true) = .ret (.tup []) (p.set i (some (.map (mapE (seen ++ [n]))))) := by
  have hm : mapKV C 224 = some (4, ti4) := by simp only [mapKV, tt224, ti224, tt3, ti3, tt4]
  simp only [xupdate, hm, h]
  rcases V04 n seen 0 with ⟨h1, h2⟩ | ⟨h1, j, h2⟩
  · rw [h2]; simp [mapE]
  · rw [hn] at h1; cases h1
theorem mkmap (p : Hp) : xmakeMap p = .ret (.mapr p.n) (p.new (.map (mapE []))) := rfl
def J136 (c : K0a) (p : Hp) (n : Nat) (ρ : Env) (q : Hp) : Prop :=
  ∃ (k : Nat), n = c.Tokens.l.length - k ∧ k ≤ c.Tokens.l.length ∧ ρ 1 = .ptr p.n [] ∧ ρ 3 = .mapr (p.n + 1) ∧ ρ 8 = Lst.cv I c.Tokens ∧ ρ 9 = I c.Tokens.l.length ∧ ρ 10 = I k ∧ q.t.get p.n = some (.var sh61 c.cv) ∧ q.t.get (p.n + 1) = some (.map (mapE (c.Tokens.l.take k))) ∧ tokGo (c.Tokens.l.take k) (c.Tokens.l.drop k) = tokGo [] c.Tokens.l ∧ p.n + 1 < q.n ∧ HpLe p q
def R136 : Rel := fun args p r => ∃ (c : K0a), args = [c.cv] ∧ (c.Tokens.l.length ≤ 1000000) ∧ r = .ret (Bo (tokGo [] c.Tokens.l && decide ((c.Tokens.l.length : Int) = c.Players))) p
theorem t136 {T : XCall} (h : Has T 136 R136) (c : K0a) {p : Hp} (hl : c.Tokens.l.length ≤ 1000000) : T 136 [c.cv] p = .ret (Bo (tokGo [] c.Tokens.l && decide ((c.Tokens.l.length : Int) = c.Players))) p := h _ _ _ ⟨c, rfl, hl, rfl⟩
theorem zq136 {A B : Prop} (h : A = B := by ((try simp -dsimp (disch := first | exact zdis | fail) only [zcore, zall, zopm, zop, zcallOp, qop, qbuiltin, ofOpt, List.map, reduceCtorEq, if_true, if_false, ↓reduceIte, zbin, eqRes, qassert, qnum, qshift, qun, kindOf, allocV, List.nil_append, List.append_nil, List.cons_append, List.length_cons, List.length_nil, Nat.reduceAdd, Nat.reduceEqDiff, Nat.reduceLT, Nat.reduceSub, Nat.reduceMul, Int.reduceToNat, Int.reduceLE, Int.reduceLT, Int.reduceEq, Int.reduceNeg, Int.reduceAdd, Int.reduceSub, beq_self_eq_true, cond_true, cond_false, isConstOpd, xpanic, xconv, isBytes, qconv, List.length_map, List.map_nil, List.map_cons, concrete, Option.some.injEq, exists_eq', Option.map_some, Option.map_none, List.getElem?_cons_zero, List.getElem?_cons_succ, zw136, rs136, tt3, tt24, tt61, tt224, ti3, ti24, ti61, ti224, t_106, X0h, zsl24, look224, upd224, mkmap, hl, zx, hc]); rfl)) (k : B) : A := h ▸ k
theorem zno136 {P : Prop} (h : P := by intro jj; simp [CV.has, CV.hasL, fault, K0c.nohas]) : P := h
theorem zge136 {P : Prop} (h : P := by simp (disch := first | exact zdl | fail) only [zheap]; first | done | rfl) : P := h
set_option maxHeartbeats 8000000 in
theorem c136 : Con C 136 R136 := by
  refine Z0f C ?_ ?_ ?_
  · rintro args p r r' ⟨c, h, hl, e⟩ ⟨c', h', hl', e'⟩
    subst e; subst e'; simp_all [K0a.inj_iff, X0t]
  · rintro args p r ⟨c, h, hl, rfl⟩; first | (split <;> simp; done) | (simp; done) | (simp only [resM]; split <;> simp; done) | (simp only [resD]; split <;> simp; done) 
  · rintro args p r ⟨c, rfl, hl, rfl⟩
    refine Z0e C false noExt (tabL C [(106, R106)]) xf136 (Q0f C) (K0f C _) zc136_ok (Nat.le_of_ble_eq_true (by kernel_rfl)) fun hF => ?_
    have t_106 := @t106 (tabL C [(106, R106)]) (Z0d C c106 [])
    generalize tabL C [(106, R106)] = call at t_106 ⊢
    show W C false noExt call zc136 (argE [c.cv]) p (endQ C _ _)
    (have zx := True.intro; have hc := True.intro; refine zq136 (k := ?_); clear hc; try exact True.intro)
    repeat' ((first | refine K0d ?_ ?_ | refine Z0c ?_ ?_ | refine X0d _ _ _ _ ?_ ?_ | refine Q0d ?_ ?_ | refine V0d _ _ _ _ ?_ ?_) <;> intro hc <;> (try simp only [zhd] at hc) <;> (try have hw := X0b hc) <;> (refine zq136 (k := ?_); try exact True.intro))
    all_goals (try clear zx)
    (show W C false noExt call (ZC.loop zn136_9) _ _ _); refine V0n C false noExt call zn136_9 _ _ _ (J136 c p) c.Tokens.l.length ⟨0, rfl, by omega, (by simp [put_at, Z0a, V0f]), (by simp [put_at, Z0a, V0f]), (by simp [put_at, Z0a, V0f]), (by simp [put_at, Z0a, V0f]), (by simp [put_at, Z0a, V0f]), zge136, zge136, rfl, (by simp only [Hp.bump_n, Hp.znew_n, Hp.zset_n]; omega), zle⟩ ?_
    rintro n ρ q ⟨k, rfl, hk, e1, e3, e8, e9, e10, g1, g2, hj, hn, hle⟩
    by_cases hlt : (k : Int) < c.Tokens.l.length
    · have htk := X1p (l := c.Tokens.l) (k := k) (by omega)
      rw [Z06 (l := c.Tokens.l) (k := k) (by omega)] at hj
      simp only [tokGo] at hj
      cases hw : within (nth c.Tokens.l k) 0 2147483646 with
      | false =>
        rw [hw] at hj
        (have zx := And.intro e1 (And.intro e3 (And.intro e8 (And.intro e9 (And.intro e10 (And.intro g1 (And.intro g2 (And.intro hlt hw))))))); have hc := True.intro; refine zq136 (k := ?_); clear hc; try exact True.intro)
        repeat' ((first | refine K0d ?_ ?_ | refine Z0c ?_ ?_ | refine X0d _ _ _ _ ?_ ?_ | refine Q0d ?_ ?_ | refine V0d _ _ _ _ ?_ ?_) <;> intro hc <;> (try simp only [zhd] at hc) <;> (try have hw := X0b hc) <;> (refine zq136 (k := ?_); try exact True.intro))
        all_goals (try clear zx)
        refine K0e hF zlq (Q0e ?_ (Y0d zno136))
        rw [← hj]; simp
      | true =>
        rw [hw] at hj
        cases hc2 : (c.Tokens.l.take k).contains (nth c.Tokens.l k) with
        | true =>
          rw [hc2] at hj
          (have zx := And.intro e1 (And.intro e3 (And.intro e8 (And.intro e9 (And.intro e10 (And.intro g1 (And.intro g2 (And.intro hlt (And.intro hw hc2)))))))); have hc := True.intro; refine zq136 (k := ?_); clear hc; try exact True.intro)
          repeat' ((first | refine K0d ?_ ?_ | refine Z0c ?_ ?_ | refine X0d _ _ _ _ ?_ ?_ | refine Q0d ?_ ?_ | refine V0d _ _ _ _ ?_ ?_) <;> intro hc <;> (try simp only [zhd] at hc) <;> (try have hw := X0b hc) <;> (refine zq136 (k := ?_); try exact True.intro))
          all_goals (try clear zx)
          refine K0e hF zlq (Q0e ?_ (Y0d zno136))
          rw [← hj]; simp
        | false =>
          rw [hc2] at hj
          simp only [Bool.true_and, Bool.not_false] at hj
          (have zx := And.intro e1 (And.intro e3 (And.intro e8 (And.intro e9 (And.intro e10 (And.intro g1 (And.intro g2 (And.intro hlt (And.intro hw hc2)))))))); have hc := True.intro; refine zq136 (k := ?_); clear hc; try exact True.intro)
          repeat' ((first | refine K0d ?_ ?_ | refine Z0c ?_ ?_ | refine X0d _ _ _ _ ?_ ?_ | refine Q0d ?_ ?_ | refine V0d _ _ _ _ ?_ ?_) <;> intro hc <;> (try simp only [zhd] at hc) <;> (try have hw := X0b hc) <;> (refine zq136 (k := ?_); try exact True.intro))
          all_goals (try clear zx)
          exact ⟨c.Tokens.l.length - (k + 1), by omega, k + 1, rfl, by omega, by simp [put_at, Z0a, e1], by simp [put_at, Z0a, e3], by simp [put_at, Z0a, e8], by simp [put_at, Z0a, e9], by simp [put_at, Z0a], by simp (disch := first | exact zdl | fail) only [zheap, g1], by rw [htk]; simp (disch := first | exact zdl | fail) only [zheap], by rw [htk]; exact hj, by simp only [Hp.bump_n, Hp.znew_n, Hp.zset_n]; omega, zlq⟩
    · have hk2 : k = c.Tokens.l.length := by omega
      rw [hk2, List.drop_eq_nil_of_le (Nat.le_refl _)] at hj
      (have zx := And.intro e1 (And.intro e3 (And.intro e8 (And.intro e9 (And.intro e10 (And.intro g1 (And.intro g2 hlt)))))); have hc := True.intro; refine zq136 (k := ?_); clear hc; try exact True.intro)
      repeat' ((first | refine K0d ?_ ?_ | refine Z0c ?_ ?_ | refine X0d _ _ _ _ ?_ ?_ | refine Q0d ?_ ?_ | refine V0d _ _ _ _ ?_ ?_) <;> intro hc <;> (try simp only [zhd] at hc) <;> (try have hw := X0b hc) <;> (refine zq136 (k := ?_); try exact True.intro))
      all_goals (try clear zx)
      all_goals refine K0e hF zlq (Q0e ?_ (Y0d zno136))
      all_goals (rw [← hj]; simp [tokGo, *])
def R60 : Rel := fun args p r => ∃ (c : K0a), args = [c.cv] ∧ (c.Tokens.l.length ≤ 1000000) ∧ (c.Rules.l.length ≤ 1000000) ∧ r = .ret (Bo (legalC c)) p
theorem t60 {T : XCall} (h : Has T 60 R60) (c : K0a) {p : Hp} (hl : c.Tokens.l.length ≤ 1000000) (hr : c.Rules.l.length ≤ 1000000) : T 60 [c.cv] p = .ret (Bo (legalC c)) p := h _ _ _ ⟨c, rfl, hl, hr, rfl⟩
theorem zq60 {A B : Prop} (h : A = B := by ((try simp -dsimp (disch := first | exact zdis | fail) only [zcore, zall, zopm, zop, zcallOp, qop, qbuiltin, ofOpt, List.map, reduceCtorEq, if_true, if_false, ↓reduceIte, zbin, eqRes, qassert, qnum, qshift, qun, kindOf, allocV, List.nil_append, List.append_nil, List.cons_append, List.length_cons, List.length_nil, Nat.reduceAdd, Nat.reduceEqDiff, Nat.reduceLT, Nat.reduceSub, Nat.reduceMul, Int.reduceToNat, Int.reduceLE, Int.reduceLT, Int.reduceEq, Int.reduceNeg, Int.reduceAdd, Int.reduceSub, beq_self_eq_true, cond_true, cond_false, isConstOpd, xpanic, xconv, isBytes, qconv, List.length_map, List.map_nil, List.map_cons, concrete, Option.some.injEq, exists_eq', Option.map_some, Option.map_none, List.getElem?_cons_zero, List.getElem?_cons_succ, zw60, rs60, tt3, tt23, tt59, tt61, tt69, ti3, ti23, ti59, ti61, ti69, t_29, t_106, t_135, t_136, X0h, zsl23, hl, hr, zx, hc]); rfl)) (k : B) : A := h ▸ k
theorem zno60 {P : Prop} (h : P := by intro jj; simp [CV.has, CV.hasL, fault, K0c.nohas]) : P := h
set_option maxHeartbeats 8000000 in
theorem c60 : Con C 60 R60 := by
  refine Z0f C ?_ ?_ ?_
  · rintro args p r r' ⟨c, h, hl, hr, e⟩ ⟨c', h', hl', hr', e'⟩
    subst e; subst e'; simp_all [K0a.inj_iff, K0m]
  · rintro args p r ⟨c, h, hl, hr, rfl⟩; first | (split <;> simp; done) | (simp; done) | (simp only [resM]; split <;> simp; done) | (simp only [resD]; split <;> simp; done) 
  · rintro args p r ⟨c, rfl, hl, hr, rfl⟩
    refine Z0e C false noExt (tabL C [(29, R29), (106, R106), (135, R135), (136, R136)]) xf60 (Q0f C) (K0f C _) zc60_ok (Nat.le_of_ble_eq_true (by kernel_rfl)) fun hF => ?_
    have t_29 := @t29 (tabL C [(29, R29), (106, R106), (135, R135), (136, R136)]) (Z0d C c29 [(106, R106), (135, R135), (136, R136)])
    have t_106 := @t106 (tabL C [(29, R29), (106, R106), (135, R135), (136, R136)]) (Y0c C _ rfl (Z0d C c106 [(135, R135), (136, R136)]))
    have t_135 := @t135 (tabL C [(29, R29), (106, R106), (135, R135), (136, R136)]) (Y0c C _ rfl (Y0c C _ rfl (Z0d C c135 [(136, R136)])))
    have t_136 := @t136 (tabL C [(29, R29), (106, R106), (135, R135), (136, R136)]) (Y0c C _ rfl (Y0c C _ rfl (Y0c C _ rfl (Z0d C c136 []))))
    generalize tabL C [(29, R29), (106, R106), (135, R135), (136, R136)] = call at t_29 t_106 t_135 t_136 ⊢
    show W C false noExt call zc60 (argE [c.cv]) p (endQ C _ _)
    (have zx := True.intro; have hc := True.intro; refine zq60 (k := ?_); clear hc; try exact True.intro)
    repeat' ((first | refine K0d ?_ ?_ | refine Z0c ?_ ?_ | refine X0d _ _ _ _ ?_ ?_ | refine Q0d ?_ ?_ | refine V0d _ _ _ _ ?_ ?_) <;> intro hc <;> (try simp only [zhd] at hc) <;> (try have hw := X0b hc) <;> (refine zq60 (k := ?_); try exact True.intro))
    all_goals (try clear zx)
    all_goals refine K0e hF zle (Q0e ?_ (Y0d zno60))
    all_goals simp [legalC, *]
end Go.Proofs.Ytpchcfkebljopaa
end
section
namespace Go.Proofs.Ytpchcfkebljopaa
open Go.Cl Go Go.RowKit
theorem Y0x : Body.right Q0a.zero = true := by decide
theorem X04 {a v : Int} (hv : -64 ≤ v ∧ v ≤ 64) : (0 ≤ (bounce a v).1 ∧ (bounce a v).1 ≤ 4095) ∧ (-64 ≤ (bounce a v).2 ∧ (bounce a v).2 ≤ 64) := by
  have hb := Z0g (n := a) (lo := 0) (hi := 4095) (by omega)
  unfold bounce
  split
  · rename_i h; rw [h] at hb; exact ⟨hb, hv⟩
  · have : w64 (-v) = -v := Q1t (by omega) (by omega)
    simp only [this]; exact ⟨hb, by omega⟩
theorem X0x {b : Q0a} (h : Body.right b = true) : Body.right (bodyMove b).1 = true ∧ ((bodyMove b).1 = Q0a.zero ∧ b.Kind ≠ 1 ∨ (bodyMove b).1.Kind = b.Kind ∧ (bodyMove b).1.Owner = b.Owner) := by
  by_cases hk : b.Kind = 0
  · have : bodyMove b = (Q0a.zero, false) := by simp [bodyMove, hk]
    rw [this]; exact ⟨Y0x, .inl ⟨rfl, by omega⟩⟩
  · have r := (K0i hk).1 h
    obtain ⟨r1, r2, r3, r4, r5, r6, r7, r8, r9⟩ := r
    unfold bodyMove
    rw [if_pos ⟨h, hk⟩]
    have hx := X04 (a := b.X + b.VX) r6
    have hy := X04 (a := b.Y + b.VY) r7
    split
    · rename_i h1
      exact ⟨(K0i (by simpa using hk)).2 ⟨r1, r2, r3, hx.1, hy.1, hx.2, hy.2, by simp only; omega, r9⟩, .inr ⟨rfl, rfl⟩⟩
    · rename_i h1
      split
      · exact ⟨Y0x, .inl ⟨rfl, h1⟩⟩
      · rename_i h2
        simp only [not_or, Bool.not_eq_false] at h2
        have w1 := X0b h2.2.1
        have w2 := X0b h2.2.2
        exact ⟨(K0i (by simpa using hk)).2 ⟨r1, r2, r3, w1, w2, r6, r7, by simp only; omega, r9⟩, .inr ⟨rfl, rfl⟩⟩
theorem Q1k {b : Q0a} (h : Body.right b = true) (hk : b.Kind ≠ 0) (x y : Int) : Body.right (bodyPush b x y) = true ∧ (bodyPush b x y).Kind = b.Kind ∧ (bodyPush b x y).Owner = b.Owner := by
  obtain ⟨r1, r2, r3, r4, r5, r6, r7, r8, r9⟩ := (K0i hk).1 h
  unfold bodyPush
  rw [if_pos ⟨h, hk⟩]
  exact ⟨(K0i (by simpa using hk)).2 ⟨r1, r2, r3, r4, r5, Z0g (by omega), Z0g (by omega), r8, r9⟩, rfl, rfl⟩
theorem Y0u (rules : List X0c) (row : List V0b) (dice room : Int) {b : Q0a} (h : Body.right b = true) (hk : b.Kind = 1) (hr : 0 ≤ room) :
    Body.right (playerTurn rules row dice room b).body = true ∧ (playerTurn rules row dice room b).body.Kind = 1 ∧ (playerTurn rules row dice room b).body.Owner = b.Owner ∧
    ((playerTurn rules row dice room b).shots.length : Int) ≤ room ∧ ∀ s ∈ (playerTurn rules row dice room b).shots, Body.right s = true ∧ s.Kind = 2 ∧ s.Owner = b.Owner := by
  have hp := Q1k h (by omega) ((rowInput row b.Owner).X.tdiv 16) ((rowInput row b.Owner).Y.tdiv 16)
  have hek : (playerEnv row dice room b).Body.Kind ≠ 0 := by show (bodyPush _ _ _).Kind ≠ 0; rw [hp.2.1]; omega
  have hi : InvE (playerEnv row dice room b) (copiedE (playerEnv row dice room b)) := by
    refine ⟨hp.1, rfl, rfl, rfl, rfl, rfl, rfl, ?_, ?_⟩
    · simpa [copiedE, V0t, playerEnv] using hr
    · intro s hs; simp [copiedE, V0t, playerEnv] at hs
  have iv := run_inv hek 64 ⟨copiedE (playerEnv row dice room b), ⟨.view, rules, nofun⟩, 0⟩ hi (by simp)
  unfold playerTurn
  by_cases ho : (runL rules (playerEnv row dice room b)).2.2 = true
  · simp only [ho, if_true]
    have hq : ∃ m, Mach.run 64 ⟨copiedE (playerEnv row dice room b), ⟨.view, rules, nofun⟩, 0⟩ = .ok m ∧ (runL rules (playerEnv row dice room b)).1 = m.e_ := by
      unfold runL ruleRun at ho ⊢
      split at ho
      · cases ho
      · rename_i hn
        rw [if_neg hn]
        cases hm : Mach.run 64 ⟨copiedE (playerEnv row dice room b), ⟨.view, rules, nofun⟩, 0⟩ with
        | error c => rw [hm] at ho; cases ho
        | ok m => exact ⟨m, rfl, rfl⟩
    obtain ⟨m, hm, he⟩ := hq
    rw [hm] at iv
    rw [he]
    have hb1 : (playerEnv row dice room b).Body.Kind = 1 := by show (bodyPush _ _ _).Kind = 1; rw [hp.2.1, hk]
    have hb2 : (playerEnv row dice room b).Body.Owner = b.Owner := hp.2.2
    exact ⟨iv.right, by rw [iv.kind, hb1], by rw [iv.owner, hb2], iv.len, fun s hs => ⟨(iv.shots s hs).1, (iv.shots s hs).2.1, by rw [(iv.shots s hs).2.2, hb2]⟩⟩
  · simp only [ho, Bool.false_eq_true, if_false]
    obtain ⟨r1, r2, r3, r4, r5, r6, r7, r8, r9⟩ := (K0i (by omega)).1 h
    refine ⟨(K0i (by simp only; omega)).2 ⟨r1, r2, r3, r4, r5, r6, r7, r8, by simp only; omega⟩, hk, trivial, by simpa using hr, by simp⟩
theorem freeN_set {l : List Q0a} {k : Nat} {x : Q0a} (hk : k < l.length) (h : (nth l k).Kind = 0 → x.Kind = 0) : freeN l ≤ freeN (l.set k x) := by
  induction l generalizing k with
  | nil => simp at hk
  | cons a l ih =>
    cases k with
    | zero =>
      have h : a.Kind = 0 → x.Kind = 0 := h
      simp only [List.set_cons_zero, freeN, List.filter_cons]
      by_cases ha : a.Kind = 0
      · simp [ha, h ha]
      · simp only [ha, decide_false, Bool.false_eq_true, if_false]
        by_cases hx : x.Kind = 0
        · simp only [hx, decide_true, if_true, List.length_cons]; omega
        · simp [hx]
    | succ k =>
      have := ih (k := k) (by simpa using hk) h
      simp only [List.set_cons_succ, freeN, List.filter_cons] at this ⊢
      by_cases ha : a.Kind = 0
      · simp only [ha, decide_true, if_true, List.length_cons]; omega
      · simpa [ha] using this
def Placed (players : Int) (l : List Q0a) : Prop := ∀ k, k < 16 → rightAt players k (nth l k) = true
theorem X0i {players : Int} {k : Nat} {b : Q0a} (h : rightAt players k b = true) : Body.right b = true := by
  simp only [rightAt, Bool.and_eq_true] at h; exact h.1
structure TurnOk (players : Int) (was : List Q0a) (k : Nat) (st : X0a × List Q0a) : Prop where
  placed : Placed players st.1.Bodies
  rest : ∀ j, k ≤ j → nth st.1.Bodies j = nth was j
  shots : ∀ s ∈ st.2, Body.right s = true ∧ s.Kind = 2 ∧ s.Owner < players
  room : st.2.length ≤ freeN st.1.Bodies
theorem rightAt_move {players : Int} {k : Nat} {b b' : Q0a} (h : rightAt players k b = true) (hr : Body.right b' = true) (hk : b'.Kind = b.Kind) (ho : b'.Owner = b.Owner) : rightAt players k (bodyMove b').1 = true := by
  have hm := X0x hr
  unfold rightAt at h ⊢
  simp only [Bool.and_eq_true] at h ⊢
  refine ⟨hm.1, ?_⟩
  by_cases hp : (k : Int) < players
  · rw [if_pos hp] at h ⊢
    simp only [Bool.and_eq_true, decide_eq_true_eq] at h ⊢
    rcases hm.2 with ⟨_, h2⟩ | ⟨h1, h2⟩
    · omega
    · rw [h1, h2, hk, ho]; exact h.2
  · rw [if_neg hp] at h ⊢
    simp only [Bool.or_eq_true, Bool.and_eq_true, decide_eq_true_eq] at h ⊢
    rcases hm.2 with ⟨h1, _⟩ | ⟨h1, h2⟩
    · left; rw [h1]; rfl
    · rw [h1, h2, hk, ho]; exact h.2
theorem K1g (rules : List X0c) (row : List V0b) (dice room : Int) {b : Q0a} (h : Body.right b = true) (hr : 0 ≤ room) :
    Body.right (bodyTurn rules row dice room b).body = true ∧ (bodyTurn rules row dice room b).body.Kind = b.Kind ∧ (bodyTurn rules row dice room b).body.Owner = b.Owner ∧
    ((bodyTurn rules row dice room b).shots.length : Int) ≤ room ∧ ∀ s ∈ (bodyTurn rules row dice room b).shots, Body.right s = true ∧ s.Kind = 2 ∧ s.Owner = b.Owner ∧ b.Kind = 1 := by
  unfold bodyTurn
  split
  · rename_i hk
    obtain ⟨h1, h2, h3, h4, h5⟩ := Y0u rules row dice room h hk hr
    exact ⟨h1, by rw [h2, hk], h3, h4, fun s hs => ⟨(h5 s hs).1, (h5 s hs).2.1, (h5 s hs).2.2, hk⟩⟩
  · exact ⟨h, rfl, rfl, by simpa using hr, by simp⟩
theorem turnStep_ok {players : Int} (rules : List X0c) (row : List V0b) {was : List Q0a} {k : Nat} (hk : k < 16) {st : X0a × List Q0a} (h : TurnOk players was k st) : TurnOk players was (k + 1) (turnStep rules row was st k) := by
  have hb := st.1.hBodies
  have hw := h.rest k (Nat.le_refl _)
  have hpl := h.placed k hk
  rw [hw] at hpl
  have hroom : (0 : Int) ≤ (freeN st.1.Bodies : Int) - st.2.length := by have := h.room; omega
  obtain ⟨t1, t2, t3, t4, t5⟩ := K1g rules row st.1.Dice (freeN st.1.Bodies - st.2.length) (X0i hpl) hroom
  have hmv := rightAt_move hpl t1 t2 t3
  have hm := X0x t1
  refine ⟨fun j hj => ?_, fun j hj => ?_, fun s hs => ?_, ?_⟩
  · show rightAt players j (nth (st.1.Bodies.set k _) j) = true
    by_cases e : j = k
    · subst e; rw [Y0i (by omega)]; exact hmv
    · rw [Q0j e]; exact h.placed j hj
  · show nth (st.1.Bodies.set k _) j = _
    rw [Q0j (by omega)]; exact h.rest j (by omega)
  · rcases List.mem_append.1 hs with h1 | h1
    · exact h.shots s h1
    · obtain ⟨a1, a2, a3, a4⟩ := t5 s h1
      refine ⟨a1, a2, ?_⟩
      rw [a3]
      unfold rightAt at hpl
      simp only [Bool.and_eq_true] at hpl
      have := hpl.2
      by_cases hp : (k : Int) < players
      · rw [if_pos hp] at this; simp only [Bool.and_eq_true, decide_eq_true_eq] at this; omega
      · rw [if_neg hp] at this; simp only [Bool.or_eq_true, Bool.and_eq_true, decide_eq_true_eq] at this; omega
  · show (st.2 ++ _).length ≤ freeN (st.1.Bodies.set k _)
    rw [List.length_append]
    have hf := freeN_set (l := st.1.Bodies) (k := k) (x := (bodyMove (bodyTurn rules row st.1.Dice (freeN st.1.Bodies - st.2.length) (nth was k)).body).1) (by omega) (fun h0 => by
      rw [hw] at h0
      rcases hm.2 with ⟨e, _⟩ | ⟨e, _⟩
      · rw [e]; rfl
      · rw [e, t2]; exact h0)
    omega
theorem V1b {players : Int} (rules : List X0c) (row : List V0b) {s : X0a} (h : Placed players s.Bodies) : ∀ k, k ≤ 16 → TurnOk players s.Bodies k (turnsS rules row s k)
  | 0, _ => ⟨h, fun _ _ => rfl, by simp [turnsS], by simp [turnsS]⟩
  | k + 1, hk => turnStep_ok rules row (by omega) (V1b rules row h k (by omega))
structure SetOk (players : Int) (st : X0a × List Q0a) : Prop where
  placed : Placed players st.1.Bodies
  shots : ∀ s ∈ st.2, Body.right s = true ∧ s.Kind = 2 ∧ s.Owner < players
theorem setStep_ok {players : Int} {st : X0a × List Q0a} (h : SetOk players st) {k : Nat} (hk : k < 16) : SetOk players (setStep st k) := by
  have hb := st.1.hBodies
  unfold setStep
  split
  · exact h
  · rename_i x sh he
    split
    · rename_i h0
      have hx := h.shots x (by rw [he]; simp)
      refine ⟨fun j hj => ?_, fun s hs => h.shots s (by rw [he]; simp [hs])⟩
      show rightAt players j (nth (st.1.Bodies.set k x) j) = true
      by_cases e : j = k
      · subst e
        rw [Y0i (by omega)]
        have hp := h.placed j hj
        unfold rightAt at hp ⊢
        simp only [Bool.and_eq_true] at hp ⊢
        refine ⟨hx.1, ?_⟩
        have hp := hp.2
        by_cases hpl : (j : Int) < players
        · rw [if_pos hpl] at hp; simp only [Bool.and_eq_true, decide_eq_true_eq] at hp; omega
        · rw [if_neg hpl]; simp [hx.2.1, hx.2.2]
      · rw [Q0j e]; exact h.placed j hj
    · exact h
theorem X1t {players : Int} {st : X0a × List Q0a} (h : SetOk players st) : ∀ k, k ≤ 16 → SetOk players (setsS st k)
  | 0, _ => h
  | k + 1, hk => setStep_ok (X1t h k (by omega)) (by omega)
theorem X0n (rules : List X0c) (row : List V0b) (s : X0a) : ∀ k, (turnsS rules row s k).1.Score = s.Score ∧ (turnsS rules row s k).1.Frame = s.Frame
  | 0 => ⟨rfl, rfl⟩
  | k + 1 => X0n rules row s k
theorem Q0r (st : X0a × List Q0a) : ∀ k, (setsS st k).1.Score = st.1.Score ∧ (setsS st k).1.Frame = st.1.Frame ∧ (setsS st k).1.Dice = st.1.Dice
  | 0 => ⟨rfl, rfl, rfl⟩
  | k + 1 => by
    have ih := Q0r st k
    simp only [setsS, setStep]
    split
    · exact ih
    · split
      · exact ih
      · exact ih
theorem placed_hit {players : Int} {s : X0a} (h : Placed players s.Bodies) (hs : ∀ j, j < 8 → 0 ≤ nth s.Score j ∧ nth s.Score j ≤ 2147483647) : HitOk s := by
  refine ⟨fun j hj hk => ?_, hs⟩
  have hr := X0i (h j hj)
  have := X0j hr (by omega)
  exact this.1
theorem V0j {c : K0a} {s : X0a} (h : stateRight c s = true) : Placed c.Players s.Bodies ∧ (∀ j, j < 8 → scoreAt c.Players j (nth s.Score j) = true) ∧ legalC c = true ∧ 0 ≤ s.Frame ∧ s.Frame ≤ 600 := by
  simp only [stateRight, Bool.and_eq_true] at h
  obtain ⟨⟨⟨h1, h2⟩, h3⟩, h4⟩ := h
  rw [Y0r] at h1 h2
  refine ⟨fun k hk => ?_, fun j hj => ?_, h3, X0b h4⟩
  · have := h1 k (by rw [s.hBodies]; exact hk); simpa using this
  · have := h2 j (by rw [s.hScore]; exact hj); simpa using this
theorem X09 {players : Int} {j : Nat} {n : Int} (h : scoreAt players j n = true) : 0 ≤ n ∧ n ≤ 2147483647 := by
  simp only [scoreAt, Bool.and_eq_true] at h; exact X0b h.1
theorem step_hit {c : K0a} {s : X0a} (h : stateRight c s = true) (row : List V0b) : HitOk (setsS (turnsS c.Rules.l row s 16) 16).1 := by
  obtain ⟨h1, h2, _, _⟩ := V0j h
  have ht := V1b c.Rules.l row h1 16 (Nat.le_refl _)
  have hs := X1t (st := turnsS c.Rules.l row s 16) ⟨ht.placed, ht.shots⟩ 16 (Nat.le_refl _)
  refine placed_hit hs.placed fun j hj => ?_
  rw [(Q0r _ 16).1, (X0n _ _ _ 16).1]
  exact X09 (h2 j hj)
def firstK (c : K0a) : Nat → X0a
  | 0 => { X0a.zero with Dice := seedOf c.Seed }
  | k + 1 => (firstK c k).put_2k k (bodyBorn k c.Players)
def firstS (c : K0a) : X0a := if legalC c = true then firstK c c.Players.toNat else X0a.zero
theorem Z0j {c : K0a} (h : legalC c = true) : (1 ≤ c.Players ∧ c.Players ≤ 8) ∧ c.Rules.l.length ≤ 16 := by
  simp only [legalC, Bool.and_eq_true] at h
  refine ⟨X0b h.1.1.1.1.1, ?_⟩
  have := h.1.2
  simp only [ruleRight, Bool.and_eq_true, decide_eq_true_eq] at this
  exact this.1
theorem partL_tl {α : Type} (l : List α) : (partL l).tl = .nil ∨ (partL l).tl = .part := by
  unfold partL
  split <;> simp
theorem partL_l {α : Type} (l : List α) : (partL l).l = l := by
  unfold partL
  split
  · rename_i h; rw [h]
  · rfl
theorem frTurns_tl (f : K0b) : (frTurns f).shots.tl = .nil ∨ (frTurns f).shots.tl = .part := by
  simp only [frTurns]; exact partL_tl _
theorem frTurns_l (f : K0b) : (frTurns f).shots.l = (turnsS f.c_.Rules.l f.row.l f.s_ 16).2 := by
  simp only [frTurns]; exact partL_l _
theorem right_all {c : K0a} {s : X0a} (h : stateRight c s = true) : ∀ b ∈ s.Bodies, Body.right b = true := by
  intro b hb
  obtain ⟨i, hi, rfl⟩ := List.getElem_of_mem hb
  have := (V0j h).1 i (by rw [← s.hBodies]; exact hi)
  rw [Y0y hi] at this
  exact X0i this
def frOf (c : K0a) (s : X0a) (row : Lst V0b) : K0b := ⟨c, s, row, ⟨.nil, [], fun _ => rfl⟩⟩
theorem frSets_s (c : K0a) (s : X0a) (row : Lst V0b) : (frSets (frTurns (frOf c s row))).s_ = (setsS (turnsS c.Rules.l row.l s 16) 16).1 := by
  simp only [frSets, frTurns_l]
  simp only [frTurns, frOf]
theorem K03 (p : Int) (t : X0a) : ∀ k, (hitsS p t k).Frame = t.Frame
  | 0 => rfl
  | k + 1 => by
    have ih := K03 p t k
    simp only [hitsS, hitStep]
    split
    · exact ih
    · split
      · exact ih
      · exact ih
theorem frHits_s (c : K0a) (s : X0a) (row : Lst V0b) : (frHits (frSets (frTurns (frOf c s row)))).s_ = hitsS c.Players (setsS (turnsS c.Rules.l row.l s 16) 16).1 16 := by
  simp only [frHits, frSets_s]
  simp only [frSets, frTurns, frOf]
theorem frHits_frame (c : K0a) (s : X0a) (row : Lst V0b) : (frHits (frSets (frTurns (frOf c s row)))).s_.Frame = s.Frame := by
  rw [frHits_s, K03, (Q0r _ 16).2.1, (X0n _ _ _ 16).2]
theorem stepS_of {c : K0a} {s : X0a} (row : Lst V0b) (h : stateRight c s = true) : stepS c row.l s = { (frHits (frSets (frTurns (frOf c s row)))).s_ with Frame := min ((frHits (frSets (frTurns (frOf c s row)))).s_.Frame + 1) 600 } := by
  rw [frHits_s]
  unfold stepS
  rw [h]
  simp only [Bool.true_eq_false, if_false]
end Go.Proofs.Ytpchcfkebljopaa
end
section
-- @nole
namespace Go.Proofs.Ytpchcfkebljopaa
open Go.Cl Go Go.RowKit
set_option maxRecDepth 100000
set_option linter.constructorNameAsVariable false
def J44 (c : K0a) (s : X0a) (p : Hp) (n : Nat) (ρ : Env) (q : Hp) : Prop :=
  ∃ (k : Nat), n = 16 - k ∧ k ≤ 16 ∧ ρ 2 = .ptr p.n [] ∧ ρ 3 = .ptr (p.n + 1) [] ∧ ρ 10 = .agg (s.Bodies.map Q0a.cv) ∧ ρ 11 = I k ∧ q.t.get p.n = some (.var sh61 c.cv) ∧ q.t.get (p.n + 1) = some (.var sh66 s.cv) ∧ allFrom (rightAt c.Players) (s.Bodies.drop k) k = allFrom (rightAt c.Players) s.Bodies 0 ∧ p.n + 1 < q.n ∧ HpLe p q
def L44 (c : K0a) (s : X0a) (p : Hp) (n : Nat) (ρ : Env) (q : Hp) : Prop :=
  ∃ (k : Nat), n = 8 - k ∧ k ≤ 8 ∧ ρ 2 = .ptr p.n [] ∧ ρ 3 = .ptr (p.n + 1) [] ∧ ρ 22 = .agg (s.Score.map I) ∧ ρ 23 = I k ∧ q.t.get p.n = some (.var sh61 c.cv) ∧ q.t.get (p.n + 1) = some (.var sh66 s.cv) ∧ allFrom (scoreAt c.Players) (s.Score.drop k) k = allFrom (scoreAt c.Players) s.Score 0 ∧ p.n + 1 < q.n ∧ HpLe p q
def R44 : Rel := fun args p r => ∃ (c : K0a) (s : X0a), args = [c.cv, s.cv] ∧ (c.Tokens.l.length ≤ 1000000) ∧ (c.Rules.l.length ≤ 1000000) ∧ r = .ret (Bo (stateRight c s)) p
theorem t44 {T : XCall} (h : Has T 44 R44) (c : K0a) (s : X0a) {p : Hp} (hl : c.Tokens.l.length ≤ 1000000) (hr : c.Rules.l.length ≤ 1000000) : T 44 [c.cv, s.cv] p = .ret (Bo (stateRight c s)) p := h _ _ _ ⟨c, s, rfl, hl, hr, rfl⟩
theorem zq44 {A B : Prop} (h : A = B := by ((try simp -dsimp (disch := first | exact zdis | fail) only [zcore, zall, zopm, zop, zcallOp, qop, qbuiltin, ofOpt, List.map, reduceCtorEq, if_true, if_false, ↓reduceIte, zbin, eqRes, qassert, qnum, qshift, qun, kindOf, allocV, List.nil_append, List.append_nil, List.cons_append, List.length_cons, List.length_nil, Nat.reduceAdd, Nat.reduceEqDiff, Nat.reduceLT, Nat.reduceSub, Nat.reduceMul, Int.reduceToNat, Int.reduceLE, Int.reduceLT, Int.reduceEq, Int.reduceNeg, Int.reduceAdd, Int.reduceSub, beq_self_eq_true, cond_true, cond_false, isConstOpd, xpanic, xconv, isBytes, qconv, List.length_map, List.map_nil, List.map_cons, concrete, Option.some.injEq, exists_eq', Option.map_some, Option.map_none, List.getElem?_cons_zero, List.getElem?_cons_succ, zw44, rs44, tt3, tt34, tt61, tt63, tt64, tt66, ti3, ti34, ti61, ti63, ti64, ti66, t_60, t_105, t_106, X0h, Z0i, Y0f, zsl63, zsl64, hl, hr, zx, hc]); rfl)) (k : B) : A := h ▸ k
theorem zno44 {P : Prop} (h : P := by intro jj; simp [CV.has, CV.hasL, fault, K0c.nohas, X0a.nohas, Q0a.nohas]) : P := h
theorem zge44 {P : Prop} (h : P := by simp (disch := first | exact zdl | fail) only [zheap]; first | done | rfl) : P := h
set_option maxHeartbeats 8000000 in
theorem c44 : Con C 44 R44 := by
  refine Z0f C ?_ ?_ ?_
  · rintro args p r r' ⟨c, s, h, hl, hr, e⟩ ⟨c', s', h', hl', hr', e'⟩
    subst e; subst e'; simp_all [K0a.inj_iff, X0a.inj_iff, Q0a.inj_iff]
  · rintro args p r ⟨c, s, h, hl, hr, rfl⟩; first | (split <;> simp; done) | (simp; done) | (simp only [resM]; split <;> simp; done) | (simp only [resD]; split <;> simp; done) 
  · rintro args p r ⟨c, s, rfl, hl, hr, rfl⟩
    refine Z0e C false noExt (tabL C [(60, R60), (105, R105), (106, R106)]) xf44 (Q0f C) (K0f C _) zc44_ok (Nat.le_of_ble_eq_true (by kernel_rfl)) fun hF => ?_
    have t_60 := @t60 (tabL C [(60, R60), (105, R105), (106, R106)]) (Z0d C c60 [(105, R105), (106, R106)])
    have t_105 := @t105 (tabL C [(60, R60), (105, R105), (106, R106)]) (Y0c C _ rfl (Z0d C c105 [(106, R106)]))
    have t_106 := @t106 (tabL C [(60, R60), (105, R105), (106, R106)]) (Y0c C _ rfl (Y0c C _ rfl (Z0d C c106 [])))
    generalize tabL C [(60, R60), (105, R105), (106, R106)] = call at t_60 t_105 t_106 ⊢
    show W C false noExt call zc44 (argE [c.cv, s.cv]) p (endQ C _ _)
    have hb := s.hBodies
    have hsc := s.hScore
    (have zx := True.intro; have hc := True.intro; refine zq44 (k := ?_); clear hc; try exact True.intro)
    repeat' ((first | refine K0d ?_ ?_ | refine Z0c ?_ ?_ | refine X0d _ _ _ _ ?_ ?_ | refine Q0d ?_ ?_ | refine V0d _ _ _ _ ?_ ?_) <;> intro hc <;> (try simp only [zhd] at hc) <;> (try have hw := X0b hc) <;> (refine zq44 (k := ?_); try exact True.intro))
    all_goals (try clear zx)
    (show W C false noExt call (ZC.loop zn44_7) _ _ _); refine V0n C false noExt call zn44_7 _ _ _ (J44 c s p) 16 ⟨0, rfl, by omega, (by simp [put_at, Z0a, V0f]), (by simp [put_at, Z0a, V0f]), (by simp [put_at, Z0a, V0f]), (by simp [put_at, Z0a, V0f]), zge44, zge44, rfl, (by simp only [Hp.bump_n, Hp.znew_n, Hp.zset_n]; omega), zle⟩ ?_
    rintro n ρ q ⟨k, rfl, hk, e2, e3, e10, e11, g1, g2, hj, hn, hle⟩
    by_cases hlt : (k : Int) < 16
    · rw [Y04 _ (l := s.Bodies) (k := k) (by omega)] at hj
      cases hw : rightAt c.Players k (nth s.Bodies k) with
      | false =>
        rw [hw] at hj
        (have zx := And.intro e2 (And.intro e3 (And.intro e10 (And.intro e11 (And.intro g1 (And.intro g2 (And.intro hlt hw)))))); have hc := True.intro; refine zq44 (k := ?_); clear hc; try exact True.intro)
        repeat' ((first | refine K0d ?_ ?_ | refine Z0c ?_ ?_ | refine X0d _ _ _ _ ?_ ?_ | refine Q0d ?_ ?_ | refine V0d _ _ _ _ ?_ ?_) <;> intro hc <;> (try simp only [zhd] at hc) <;> (try have hw := X0b hc) <;> (refine zq44 (k := ?_); try exact True.intro))
        all_goals (try clear zx)
        refine K0e hF zlq (Q0e ?_ (Y0d zno44))
        simp [stateRight, ← hj]
      | true =>
        rw [hw, Bool.true_and] at hj
        (have zx := And.intro e2 (And.intro e3 (And.intro e10 (And.intro e11 (And.intro g1 (And.intro g2 (And.intro hlt hw)))))); have hc := True.intro; refine zq44 (k := ?_); clear hc; try exact True.intro)
        repeat' ((first | refine K0d ?_ ?_ | refine Z0c ?_ ?_ | refine X0d _ _ _ _ ?_ ?_ | refine Q0d ?_ ?_ | refine V0d _ _ _ _ ?_ ?_) <;> intro hc <;> (try simp only [zhd] at hc) <;> (try have hw := X0b hc) <;> (refine zq44 (k := ?_); try exact True.intro))
        all_goals (try clear zx)
        exact ⟨16 - (k + 1), by omega, k + 1, rfl, by omega, by simp [put_at, Z0a, e2], by simp [put_at, Z0a, e3], by simp [put_at, Z0a, e10], by simp [put_at, Z0a], by simp (disch := first | exact zdl | fail) only [zheap, g1], by simp (disch := first | exact zdl | fail) only [zheap, g2], hj, by simp only [Hp.bump_n, Hp.znew_n, Hp.zset_n]; omega, zlq⟩
    · have hk16 : k = 16 := by omega
      subst hk16
      rw [List.drop_eq_nil_of_le (by omega)] at hj
      have hA : allFrom (rightAt c.Players) s.Bodies 0 = true := hj.symm
      (have zx := And.intro e2 (And.intro e3 (And.intro e10 (And.intro e11 (And.intro g1 (And.intro g2 hlt))))); have hc := True.intro; refine zq44 (k := ?_); clear hc; try exact True.intro)
      repeat' ((first | refine K0d ?_ ?_ | refine Z0c ?_ ?_ | refine X0d _ _ _ _ ?_ ?_ | refine Q0d ?_ ?_ | refine V0d _ _ _ _ ?_ ?_) <;> intro hc <;> (try simp only [zhd] at hc) <;> (try have hw := X0b hc) <;> (refine zq44 (k := ?_); try exact True.intro))
      all_goals (try clear zx)
      (show W C false noExt call (ZC.loop zn44_26) _ _ _); refine V0n C false noExt call zn44_26 _ _ _ (L44 c s p) 8 ⟨0, rfl, by omega, by simp [put_at, Z0a, e2], by simp [put_at, Z0a, e3], by simp [put_at, Z0a], by simp [put_at, Z0a], g1, g2, rfl, hn, hle⟩ ?_
      clear e2 e3 e10 e11 g1 g2 hn hle hj hlt
      rintro n ρ q ⟨k, rfl, hk, e2, e3, e22, e23, g1, g2, hj, hn, hle⟩
      by_cases hlt : (k : Int) < 8
      · rw [Y04 _ (l := s.Score) (k := k) (by omega)] at hj
        cases hw : scoreAt c.Players k (nth s.Score k) with
        | false =>
          rw [hw] at hj
          simp only [scoreAt] at hw
          (have zx := And.intro e2 (And.intro e3 (And.intro e22 (And.intro e23 (And.intro g1 (And.intro g2 hlt))))); have hc := True.intro; refine zq44 (k := ?_); clear hc; try exact True.intro)
          repeat' ((first | refine K0d ?_ ?_ | refine Z0c ?_ ?_ | refine X0d _ _ _ _ ?_ ?_ | refine Q0d ?_ ?_ | refine V0d _ _ _ _ ?_ ?_) <;> intro hc <;> (try simp only [zhd] at hc) <;> (try have hw := X0b hc) <;> (refine zq44 (k := ?_); try exact True.intro))
          all_goals (try clear zx)
          all_goals first
            | (exfalso; simp_all; done)
            | (exfalso; simp_all; omega)
            | (refine K0e hF zlq (Q0e ?_ (Y0d zno44)); simp [stateRight, ← hj]; done)
        | true =>
          rw [hw, Bool.true_and] at hj
          simp only [scoreAt] at hw
          (have zx := And.intro e2 (And.intro e3 (And.intro e22 (And.intro e23 (And.intro g1 (And.intro g2 hlt))))); have hc := True.intro; refine zq44 (k := ?_); clear hc; try exact True.intro)
          repeat' ((first | refine K0d ?_ ?_ | refine Z0c ?_ ?_ | refine X0d _ _ _ _ ?_ ?_ | refine Q0d ?_ ?_ | refine V0d _ _ _ _ ?_ ?_) <;> intro hc <;> (try simp only [zhd] at hc) <;> (try have hw := X0b hc) <;> (refine zq44 (k := ?_); try exact True.intro))
          all_goals (try clear zx)
          all_goals first
            | exact ⟨8 - (k + 1), by omega, k + 1, rfl, by omega, by simp [put_at, Z0a, e2], by simp [put_at, Z0a, e3], by simp [put_at, Z0a, e22], by simp [put_at, Z0a], by simp (disch := first | exact zdl | fail) only [zheap, g1], by simp (disch := first | exact zdl | fail) only [zheap, g2], hj, by simp only [Hp.bump_n, Hp.znew_n, Hp.zset_n]; omega, zlq⟩
            | exact ⟨8 - (k + 1), by omega, k + 1, rfl, by omega, by simp [put_at, Z0a, e2], by simp [put_at, Z0a, e3], by simp [put_at, Z0a, e22], by simp [put_at, Z0a], g1, g2, hj, hn, hle⟩
            | (exfalso; simp_all; done)
            | (exfalso; simp_all; omega)
      · have hk8 : k = 8 := by omega
        subst hk8
        rw [List.drop_eq_nil_of_le (by omega)] at hj
        have hB : allFrom (scoreAt c.Players) s.Score 0 = true := hj.symm
        (have zx := And.intro e2 (And.intro e3 (And.intro e22 (And.intro e23 (And.intro g1 (And.intro g2 hlt))))); have hc := True.intro; refine zq44 (k := ?_); clear hc; try exact True.intro)
        repeat' ((first | refine K0d ?_ ?_ | refine Z0c ?_ ?_ | refine X0d _ _ _ _ ?_ ?_ | refine Q0d ?_ ?_ | refine V0d _ _ _ _ ?_ ?_) <;> intro hc <;> (try simp only [zhd] at hc) <;> (try have hw := X0b hc) <;> (refine zq44 (k := ?_); try exact True.intro))
        all_goals (try clear zx)
        all_goals refine K0e hF zlq (Q0e ?_ (Y0d zno44))
        all_goals simp [stateRight, hA, hB, *]
end Go.Proofs.Ytpchcfkebljopaa
end
section
-- @nole
namespace Go.Proofs.Ytpchcfkebljopaa
open Go.Cl Go Go.RowKit
set_option maxRecDepth 100000
set_option linter.constructorNameAsVariable false
def J58 (c : K0a) (p : Hp) (n : Nat) (ρ : Env) (q : Hp) : Prop :=
  ∃ (k : Nat), n = c.Players.toNat - k ∧ k ≤ c.Players.toNat ∧ ρ 1 = .ptr p.n [] ∧ ρ 2 = .ptr (p.n + 1) [] ∧ ρ 3 = .ptr (p.n + 2) [] ∧ ρ 14 = I c.Players ∧ ρ 15 = I k ∧ q.t.get p.n = some (.var sh61 c.cv) ∧ q.t.get (p.n + 1) = some (.var sh66 X0a.zero.cv) ∧ q.t.get (p.n + 2) = some (.var sh66 (firstK c k).cv) ∧ p.n + 2 < q.n ∧ HpLe p q
def R58 : Rel := fun args p r => ∃ (c : K0a), args = [c.cv] ∧ (c.Tokens.l.length ≤ 1000000) ∧ (c.Rules.l.length ≤ 1000000) ∧ r = .ret (firstS c).cv p
theorem t58 {T : XCall} (h : Has T 58 R58) (c : K0a) {p : Hp} (hl : c.Tokens.l.length ≤ 1000000) (hr : c.Rules.l.length ≤ 1000000) : T 58 [c.cv] p = .ret (firstS c).cv p := h _ _ _ ⟨c, rfl, hl, hr, rfl⟩
theorem zq58 {A B : Prop} (h : A = B := by ((try simp -dsimp (disch := first | exact zdis | fail) only [zcore, zall, zopm, zop, zcallOp, qop, qbuiltin, ofOpt, List.map, reduceCtorEq, if_true, if_false, ↓reduceIte, zbin, eqRes, qassert, qnum, qshift, qun, kindOf, allocV, List.nil_append, List.append_nil, List.cons_append, List.length_cons, List.length_nil, Nat.reduceAdd, Nat.reduceEqDiff, Nat.reduceLT, Nat.reduceSub, Nat.reduceMul, Int.reduceToNat, Int.reduceLE, Int.reduceLT, Int.reduceEq, Int.reduceNeg, Int.reduceAdd, Int.reduceSub, beq_self_eq_true, cond_true, cond_false, isConstOpd, xpanic, xconv, isBytes, qconv, List.length_map, List.map_nil, List.map_cons, concrete, Option.some.injEq, exists_eq', Option.map_some, Option.map_none, List.getElem?_cons_zero, List.getElem?_cons_succ, zw58, rs58, tt3, tt34, tt61, tt63, tt66, ti3, ti34, ti61, ti63, ti66, t_60, t_64, t_133, X0h, Z0i, Y0f, zsl63, hl, hr, zx, hc]); rfl)) (k : B) : A := h ▸ k
theorem zno58 {P : Prop} (h : P := by intro jj; simp [CV.has, CV.hasL, fault, K0c.nohas, X0a.nohas, Q0a.nohas]) : P := h
theorem zge58 {P : Prop} (h : P := by simp (disch := first | exact zdl | fail) only [zheap]; first | done | rfl) : P := h
set_option maxHeartbeats 8000000 in
theorem c58 : Con C 58 R58 := by
  refine Z0f C ?_ ?_ ?_
  · rintro args p r r' ⟨c, h, hl, hr, e⟩ ⟨c', h', hl', hr', e'⟩
    subst e; subst e'; simp_all [K0a.inj_iff, X0a.inj_iff, Q0a.inj_iff]
  · rintro args p r ⟨c, h, hl, hr, rfl⟩; first | (split <;> simp; done) | (simp; done) | (simp only [resM]; split <;> simp; done) | (simp only [resD]; split <;> simp; done) 
  · rintro args p r ⟨c, rfl, hl, hr, rfl⟩
    refine Z0e C false noExt (tabL C [(60, R60), (64, R64), (133, R133)]) xf58 (Q0f C) (K0f C _) zc58_ok (Nat.le_of_ble_eq_true (by kernel_rfl)) fun hF => ?_
    have t_60 := @t60 (tabL C [(60, R60), (64, R64), (133, R133)]) (Z0d C c60 [(64, R64), (133, R133)])
    have t_64 := @t64 (tabL C [(60, R60), (64, R64), (133, R133)]) (Y0c C _ rfl (Z0d C c64 [(133, R133)]))
    have t_133 := @t133 (tabL C [(60, R60), (64, R64), (133, R133)]) (Y0c C _ rfl (Y0c C _ rfl (Z0d C c133 [])))
    generalize tabL C [(60, R60), (64, R64), (133, R133)] = call at t_60 t_64 t_133 ⊢
    show W C false noExt call zc58 (argE [c.cv]) p (endQ C _ _)
    cases hL : legalC c with
    | false =>
      (have zx := hL; have hc := True.intro; refine zq58 (k := ?_); clear hc; try exact True.intro)
      repeat' ((first | refine K0d ?_ ?_ | refine Z0c ?_ ?_ | refine X0d _ _ _ _ ?_ ?_ | refine Q0d ?_ ?_ | refine V0d _ _ _ _ ?_ ?_) <;> intro hc <;> (try simp only [zhd] at hc) <;> (try have hw := X0b hc) <;> (refine zq58 (k := ?_); try exact True.intro))
      all_goals (try clear zx)
      refine K0e hF zle (Q0e ?_ (Y0d zno58))
      simp [firstS, hL]; rfl
    | true =>
      have hP := (Z0j hL).1
      have hPn : ((c.Players.toNat : Nat) : Int) = c.Players := by omega
      (have zx := hL; have hc := True.intro; refine zq58 (k := ?_); clear hc; try exact True.intro)
      repeat' ((first | refine K0d ?_ ?_ | refine Z0c ?_ ?_ | refine X0d _ _ _ _ ?_ ?_ | refine Q0d ?_ ?_ | refine V0d _ _ _ _ ?_ ?_) <;> intro hc <;> (try simp only [zhd] at hc) <;> (try have hw := X0b hc) <;> (refine zq58 (k := ?_); try exact True.intro))
      all_goals (try clear zx)
      (show W C false noExt call (ZC.loop zn58_15) _ _ _); refine V0n C false noExt call zn58_15 _ _ _ (J58 c p) c.Players.toNat ⟨0, rfl, by omega, (by simp [put_at, Z0a, V0f]), (by simp [put_at, Z0a, V0f]), (by simp [put_at, Z0a, V0f]), (by simp [put_at, Z0a, V0f]), (by simp [put_at, Z0a, V0f]), zge58, zge58, zge58, (by simp only [Hp.bump_n, Hp.znew_n, Hp.zset_n]; omega), zle⟩ ?_
      rintro n ρ q ⟨k, rfl, hk, e1, e2, e3, e14, e15, g1, g2, g3, hn, hle⟩
      by_cases hlt : (k : Int) < c.Players
      · have hbk := (firstK c k).hBodies
        have hk8 : k < 8 := by omega
        (have zx := And.intro e1 (And.intro e2 (And.intro e3 (And.intro e14 (And.intro e15 (And.intro g1 (And.intro g2 (And.intro g3 hlt))))))); have hc := True.intro; refine zq58 (k := ?_); clear hc; try exact True.intro)
        repeat' ((first | refine K0d ?_ ?_ | refine Z0c ?_ ?_ | refine X0d _ _ _ _ ?_ ?_ | refine Q0d ?_ ?_ | refine V0d _ _ _ _ ?_ ?_) <;> intro hc <;> (try simp only [zhd] at hc) <;> (try have hw := X0b hc) <;> (refine zq58 (k := ?_); try exact True.intro))
        all_goals (try clear zx)
        exact ⟨c.Players.toNat - (k + 1), by omega, k + 1, rfl, by omega, by simp [put_at, Z0a, e1], by simp [put_at, Z0a, e2], by simp [put_at, Z0a, e3], by simp [put_at, Z0a, e14], by simp [put_at, Z0a], by simp (disch := first | exact zdl | fail) only [zheap, g1], by simp (disch := first | exact zdl | fail) only [zheap, g2], by simp (disch := first | exact zdl | fail) only [zheap]; first | done | rfl, by simp only [Hp.bump_n, Hp.znew_n, Hp.zset_n]; omega, zlq⟩
      · have hk8 : k = c.Players.toNat := by omega
        subst hk8
        (have zx := And.intro e1 (And.intro e2 (And.intro e3 (And.intro e14 (And.intro e15 (And.intro g1 (And.intro g2 (And.intro g3 hlt))))))); have hc := True.intro; refine zq58 (k := ?_); clear hc; try exact True.intro)
        repeat' ((first | refine K0d ?_ ?_ | refine Z0c ?_ ?_ | refine X0d _ _ _ _ ?_ ?_ | refine Q0d ?_ ?_ | refine V0d _ _ _ _ ?_ ?_) <;> intro hc <;> (try simp only [zhd] at hc) <;> (try have hw := X0b hc) <;> (refine zq58 (k := ?_); try exact True.intro))
        all_goals (try clear zx)
        refine K0e hF zlq (Q0e ?_ (Y0d zno58))
        simp [firstS, hL]
def R62 : Rel := fun args p r => ∃ (c : K0a) (s : X0a) (row : Lst V0b), args = [c.cv, s.cv, row.cv V0b.cv] ∧ (c.Tokens.l.length ≤ 1000000) ∧ (c.Rules.l.length ≤ 1000000) ∧ r = .ret (stepS c row.l s).cv p
theorem t62 {T : XCall} (h : Has T 62 R62) (c : K0a) (s : X0a) (row : Lst V0b) {p : Hp} (hl : c.Tokens.l.length ≤ 1000000) (hr : c.Rules.l.length ≤ 1000000) : T 62 [c.cv, s.cv, row.cv V0b.cv] p = .ret (stepS c row.l s).cv p := h _ _ _ ⟨c, s, row, rfl, hl, hr, rfl⟩
theorem zq62 {A B : Prop} (h : A = B := by ((try simp -dsimp (disch := first | exact zdis | fail) only [zcore, zall, zopm, zop, zcallOp, qop, qbuiltin, ofOpt, List.map, reduceCtorEq, if_true, if_false, ↓reduceIte, zbin, eqRes, qassert, qnum, qshift, qun, kindOf, allocV, List.nil_append, List.append_nil, List.cons_append, List.length_cons, List.length_nil, Nat.reduceAdd, Nat.reduceEqDiff, Nat.reduceLT, Nat.reduceSub, Nat.reduceMul, Int.reduceToNat, Int.reduceLE, Int.reduceLT, Int.reduceEq, Int.reduceNeg, Int.reduceAdd, Int.reduceSub, beq_self_eq_true, cond_true, cond_false, isConstOpd, xpanic, xconv, isBytes, qconv, List.length_map, List.map_nil, List.map_cons, concrete, Option.some.injEq, exists_eq', Option.map_some, Option.map_none, List.getElem?_cons_zero, List.getElem?_cons_succ, zw62, rs62, tt3, tt61, tt66, tt186, ti3, ti61, ti66, ti186, t_44, t_137, t_138, t_139, X0h, Z0i, Q0k, hl, hr, zx, hc]); rfl)) (k : B) : A := h ▸ k
theorem zno62 {P : Prop} (h : P := by intro jj; simp [CV.has, CV.hasL, fault, K0c.nohas, X0a.nohas]) : P := h
set_option maxHeartbeats 8000000 in
theorem c62 : Con C 62 R62 := by
  refine Z0f C ?_ ?_ ?_
  · rintro args p r r' ⟨c, s, row, h, hl, hr, e⟩ ⟨c', s', row', h', hl', hr', e'⟩
    subst e; subst e'; simp_all [K0a.inj_iff, X0a.inj_iff, K0b.inj_iff, Q0w]
  · rintro args p r ⟨c, s, row, h, hl, hr, rfl⟩; first | (split <;> simp; done) | (simp; done) | (simp only [resM]; split <;> simp; done) | (simp only [resD]; split <;> simp; done) 
  · rintro args p r ⟨c, s, row, rfl, hl, hr, rfl⟩
    refine Z0e C false noExt (tabL C [(44, R44), (137, R137), (138, R138), (139, R139)]) xf62 (Q0f C) (K0f C _) zc62_ok (Nat.le_of_ble_eq_true (by kernel_rfl)) fun hF => ?_
    have t_44 := @t44 (tabL C [(44, R44), (137, R137), (138, R138), (139, R139)]) (Z0d C c44 [(137, R137), (138, R138), (139, R139)])
    have t_137 := @t137 (tabL C [(44, R44), (137, R137), (138, R138), (139, R139)]) (Y0c C _ rfl (Z0d C c137 [(138, R138), (139, R139)]))
    have t_138 := @t138 (tabL C [(44, R44), (137, R137), (138, R138), (139, R139)]) (Y0c C _ rfl (Y0c C _ rfl (Z0d C c138 [(139, R139)])))
    have t_139 := @t139 (tabL C [(44, R44), (137, R137), (138, R138), (139, R139)]) (Y0c C _ rfl (Y0c C _ rfl (Y0c C _ rfl (Z0d C c139 []))))
    generalize tabL C [(44, R44), (137, R137), (138, R138), (139, R139)] = call at t_44 t_137 t_138 t_139 ⊢
    show W C false noExt call zc62 (argE [c.cv, s.cv, row.cv V0b.cv]) p (endQ C _ _)
    cases hR : stateRight c s with
    | false =>
      (have zx := hR; have hc := True.intro; refine zq62 (k := ?_); clear hc; try exact True.intro)
      repeat' ((first | refine K0d ?_ ?_ | refine Z0c ?_ ?_ | refine X0d _ _ _ _ ?_ ?_ | refine Q0d ?_ ?_ | refine V0d _ _ _ _ ?_ ?_) <;> intro hc <;> (try simp only [zhd] at hc) <;> (try have hw := X0b hc) <;> (refine zq62 (k := ?_); try exact True.intro))
      all_goals (try clear zx)
      refine K0e hF zle (Q0e ?_ (Y0d zno62))
      simp [stepS, hR]; rfl
    | true =>
      have hrl := (Z0j (V0j hR).2.2.1).2
      have h4 := right_all hR
      have hfr := V0j hR
      have hst := stepS_of row hR
      have hF1 : (frOf c s row) = K0b.mk c s row ⟨.nil, [], fun _ => rfl⟩ := rfl
      have k1 : (frOf c s row).shots.tl = .nil := rfl
      have k2 : (frOf c s row).c_.Rules.l.length ≤ 100000 := by show c.Rules.l.length ≤ _; omega
      have k3 : ∀ b ∈ (frOf c s row).s_.Bodies, Body.right b = true := h4
      have k4 := frTurns_tl (frOf c s row)
      have k5 : HitOk (frSets (frTurns (frOf c s row))).s_ := by rw [frSets_s]; exact step_hit hR row.l
      have k6 := frHits_frame c s row
      generalize frOf c s row = f0 at hF1 k1 k2 k3 k4 k5 k6 hst
      replace hF1 := hF1.symm
      generalize hG : frHits (frSets (frTurns f0)) = f3 at k6 hst
      (have zx := And.intro hR (And.intro hF1 (And.intro hG k6)); have hc := True.intro; refine zq62 (k := ?_); clear hc; try exact True.intro)
      repeat' ((first | refine K0d ?_ ?_ | refine Z0c ?_ ?_ | refine X0d _ _ _ _ ?_ ?_ | refine Q0d ?_ ?_ | refine V0d _ _ _ _ ?_ ?_) <;> intro hc <;> (try simp only [zhd] at hc) <;> (try have hw := X0b hc) <;> (refine zq62 (k := ?_); try exact True.intro))
      all_goals (try clear zx)
      refine K0e hF zle (Q0e ?_ (Y0d zno62))
      rw [hst, k6]
end Go.Proofs.Ytpchcfkebljopaa
end
section
namespace Go.Cl
open Go.RowKit
section
variable (C : Ctx)
def St.frz (S : St) (rb : Nat) (cs : List Value) : St := { S with K := fun b o => if b = rb then (match cs[o]? with | some v => some v | none => S.K b o) else S.K b o }
theorem St.frz_le {S : St} {rb : Nat} {cs : List Value} (h : ∀ o, S.K rb o = none) : S.le (S.frz rb cs) where
  K b o v hk := by
    show (if b = rb then _ else S.K b o) = some v
    by_cases e : b = rb
    · subst e; rw [h o] at hk; cases hk
    · rw [if_neg e]; exact hk
  μ _ _ h := h
  n := Nat.le_refl _
theorem R.frz {w0 : World} {B : Nat} {S : St} {h : Heap} {w : World} (r : R w0 B S h w) {j : Nat} {v : CV} {rb : Nat} {sh : Shape} {tot : Nat} (hj : h j = some (.var v)) (hμ : S.μ j = some (.var rb sh tot)) :
    ∃ cs, FR S v cs ∧ S.le (S.frz rb cs) ∧ R w0 B (S.frz rb cs) (upd h j none) w ∧ (S.frz rb cs).lies rb 0 cs := by
  obtain ⟨hl, hB⟩ := r.live j _ _ hj hμ
  obtain ⟨hs, ⟨arr, e, cs, junk, hw, ha, hz, hf⟩, hk⟩ := hl
  have hle := St.frz_le (cs := cs) hk
  have hcell : ∀ o, w.cell? ⟨rb, o, none⟩ = arr[o]? := Q0m hw
  have hlies : (S.frz rb cs).lies rb 0 cs := by
    intro o u hu
    show (if rb = rb then _ else _) = some u
    rw [if_pos rfl, Nat.zero_add, hu]
  refine ⟨cs, hf, hle, ⟨r.below, r.size, ?_, ?_, ?_, ?_⟩, hlies⟩
  · intro b o u hu
    by_cases eb : b = rb
    · subst eb
      have hu : (match cs[o]? with | some v => some v | none => S.K b o) = some u := by
        have hu : (if b = b then _ else _) = some u := hu
        rw [if_pos rfl] at hu; exact hu
      cases hc : cs[o]? with
      | none => rw [hc, hk o] at hu; cases hu
      | some x =>
        rw [hc] at hu
        have hxu : x = u := by simpa using hu
        subst hxu
        rw [hcell o, ← Array.getElem?_toList, ha, List.getElem?_append_left (List.getElem?_eq_some_iff.1 hc).1]
        exact hc
    · have hu : (if b = rb then _ else S.K b o) = some u := hu
      rw [if_neg eb] at hu
      exact r.kcell b o u hu
  · intro i hi
    refine ⟨(r.fresh i hi).1, ?_⟩
    unfold upd
    split
    · rfl
    · exact (r.fresh i hi).2
  · intro i obj loc h1 h2
    have hij : i ≠ j := by intro e; subst e; rw [K0j] at h1; cases h1
    rw [K0h _ _ hij] at h1
    obtain ⟨l1, l2⟩ := r.live i obj loc h1 h2
    refine ⟨l1.mono hle rfl fun o ho => ?_, l2⟩
    have hb : loc.block ≠ rb := r.inj i j _ _ _ _ hij h1 hj h2 hμ
    show (if loc.block = rb then _ else S.K loc.block o) = none
    rw [if_neg hb]; exact ho
  · intro i k oi ok li lk hik h1 h2 h3 h4
    have hi : i ≠ j := by intro e; subst e; rw [K0j] at h1; cases h1
    have hk' : k ≠ j := by intro e; subst e; rw [K0j] at h2; cases h2
    rw [K0h _ _ hi] at h1
    rw [K0h _ _ hk'] at h2
    exact r.inj i k oi ok li lk hik h1 h2 h3 h4
theorem ans_freeze {f : FuncId} {args : List CV} {p : Hp} {sh : Shape} {l : List CV} {sz : Nat} (hsz : ∀ x ∈ l, x.size = sz) (hno : ∀ j, ¬ CV.hasL j l) (h : AnsAt C f args p (.ret (.slc p.n [] 0 l.length) (p.new (.var sh (.agg l))))) : AnsAt C f args p (.ret (.lst .part l) p) := by
  refine ⟨h.1, fun w0 B S w vals r0 hV => ?_⟩
  have ha := h.2 w0 B S w vals r0 hV
  have hF := fine_of r0 hV
  have hmid : Ans C w0 B S f vals w (.ret (.lst .part l) (p.bump 1)) := by
    refine Calls.mono ha fun en w' ⟨S', x, k1, k2, k3, k4⟩ => ?_
    have hg : (p.new (.var sh (.agg l))).h p.n = some (.var (.agg l)) := by simp only [Hp.h, Hp.get_new_self]; rfl
    obtain ⟨k3a, k3b⟩ := k3
    simp only [FR] at k3a
    obtain ⟨rb, sh', l', o, cap, e1, ⟨tot, hμ, _⟩, e2, e3, e4, e5⟩ := k3a
    obtain ⟨cs, hf, hle, hr, hli⟩ := R.frz k2.r hg hμ
    have ho : o = 0 := by simp only [Shape.off, Option.some.injEq] at e3; exact e3.symm
    subst ho
    refine ⟨S'.frz rb cs, x, k1.trans ⟨hle, fun _ _ h => h⟩, ⟨?_, ?_, ?_⟩, ⟨?_, ?_⟩, k4⟩
    · refine hr.drop fun i => ?_
      by_cases hi : i = p.n
      · left; subst hi
        exact (r0.r.fresh p.n (by rw [r0.n]; exact Nat.le_refl _)).2
      · right
        rw [K0h _ _ hi]
        simp only [Hp.h, Hp.bump_get, Hp.get_new_ne _ _ hi]
    · show S'.n = p.n + 1
      rw [k2.n, Hp.znew_n]
    · intro i sh0 v0 hi
      exact r0.good i sh0 v0 hi
    · simp only [FR]
      refine .inr ⟨rb, 0, cap, sz, cs, ?_, e4, ?_, hli, hsz, trivial⟩
      · rw [e1]; simp [Shape.sizes]
      · simp only [FR] at hf
        exact FRs.mono hle _ _ hf
    · simpa [CV.isAgg] using k3b
  refine Ans.shr C r0 hmid ?_
  refine K0e hF (fun k o h => h) (X0e fun j hj => ?_)
  simp only [CV.has] at hj
  rcases hj with hj | hj
  · cases hj
  · exact (hno j hj).elim
end
end Go.Cl
end
section
namespace Go.Proofs.Ytpchcfkebljopaa
open Go.Cl Go Go.RowKit
def cellOf (n : Int) : V0b := ⟨true, handInput (w64 (n.tdiv 4)) (w64 (n.tdiv 7))⟩
def rowK (players : Int) (l : List Int) : Nat → List V0b
  | 0 => List.replicate players.toNat V0b.zero
  | k + 1 => if 0 < (nth l k).tmod 4 then (rowK players l k).set k (cellOf (nth l k)) else rowK players l k
theorem V1r (players : Int) (l : List Int) : ∀ k, (rowK players l k).length = players.toNat
  | 0 => by simp [rowK]
  | k + 1 => by
    have ih := V1r players l k
    simp only [rowK]
    split
    · simpa using ih
    · exact ih
def rowOf (players : Int) (l : List Int) : List V0b := rowK players l (min players.toNat l.length)
theorem rowOf_len (players : Int) (l : List Int) : (rowOf players l).length = players.toNat := V1r ..
theorem mk108 (p : Hp) (n : Int) (h : 1 ≤ n ∧ n ≤ 100) : xmake C p 108 (I n) (I n) = .ret (.slc p.n [] 0 n.toNat) (p.new (.var (.n (List.replicate n.toNat sh110)) (.agg ((List.replicate n.toNat V0b.zero).map V0b.cv)))) := by
  have hz : ti110.zero = V0b.zero.cv := V0b.zcv
  have hb : (ti110.bytes * n.toNat) ≤ 281474976710656 := by show 32 * n.toNat ≤ _; omega
  simp only [xmake, tt108, ti108, tt110, List.map_replicate]
  rw [show (decide True && decide (0 < n) && decide (n ≤ 9223372036854775807) && Nat.blt 0 ti110.sh.size && Nat.ble (ti110.bytes * n.toNat) 281474976710656) = true by
    simp only [decide_true, Bool.true_and, Bool.and_eq_true, decide_eq_true_eq]
    exact ⟨⟨⟨by omega, by omega⟩, rfl⟩, Nat.ble_eq_true_of_le hb⟩]
  rw [hz]; rfl
theorem ix108 (p : Hp) (j n : Nat) (L : List V0b) (k : Int) (hg : p.t.get j = some (.var (.n (List.replicate n sh110)) (.agg (L.map V0b.cv)))) (hL : L.length = n) (hk : 0 ≤ k ∧ k < n) : qindexAddr C p.h 108 (.slc j [] 0 n) (I k) = some (.ptr j [k.toNat]) := by
  have ht : tgt p.h (.ptr j []) = some (.agg (L.map V0b.cv)) := by
    simp only [tgt, Hp.h, hg, Option.map_some, XObj.obj, CV.at]
  have hs : CV.shape (.agg (L.map V0b.cv)) = .n (List.replicate (L.map V0b.cv).length sh110) := by
    simp only [CV.shape, V0k (f := V0b.cv) (s := sh110) V0b.shape, List.length_map]
  simp only [qindexAddr, tt108, ti108, tt110, ht]
  rw [if_pos ⟨hs, hk⟩]
  simp
theorem sa108 (L : List V0b) (k : Nat) (c : V0b) (h : k < L.length) : CV.set (.agg (L.map V0b.cv)) [k] c.cv = .agg ((L.set k c).map V0b.cv) := by
  rw [K1n V0b.cv h, List.map_set]; rfl
theorem take_nx {α : Type} [Inhabited α] {l : List α} {k : Nat} (h : k < l.length) : l.take (k + 1) = l.take k ++ [nth l k] := by
  rw [List.take_add_one, Q0s h]; rfl
def rowL (players : Int) (r : Lst Int) : Lst V0b := ⟨.part, rowOf players r.l, nofun⟩
def rowsOf (players : Int) (l : List (Lst Int)) : List (Lst V0b) := (l.take 40).map (rowL players)
def ownL {α : Type} (l : List α) (n : Nat) : Lst α := if h : l = [] then ⟨.nil, [], fun _ => rfl⟩ else ⟨.own n, l, nofun⟩
theorem ownL_nil {α : Type} (n : Nat) : ownL ([] : List α) n = ⟨.nil, [], fun _ => rfl⟩ := by simp [ownL]
theorem ownL_cons {α : Type} (x : α) (m : List α) (n : Nat) : ownL (x :: m) n = ⟨.own n, x :: m, nofun⟩ := by simp [ownL]
noncomputable def ownH {α : Type} (l : List α) (p : Hp) : Hp := if l = [] then p else p.new (.tail l.length)
theorem ownH_nil {α : Type} (p : Hp) : ownH ([] : List α) p = p := by simp [ownH]
theorem ownH_cons {α : Type} (x : α) (m : List α) (p : Hp) : ownH (x :: m) p = p.new (.tail (m.length + 1)) := by simp [ownH]
theorem weakL_mem {α : Type} {f : α → CV} {σ : Nat → Nat} {n : Nat} : ∀ l : List α, (∀ x ∈ l, ∀ j, ¬ (f x).has j) → CV.weakL σ n (l.map f) (l.map f)
  | [], _ => trivial
  | x :: l, h => ⟨CV.weak_refl _ fun j hj => (h x (by simp) j hj).elim, weakL_mem l fun y hy => h y (by simp [hy])⟩
theorem shr_ownL {α : Type} {f : α → CV} {args : List CV} {p q : Hp} (hF : Fine args p) (acc : Lst α) (hle : HpLe p q) (happ : acc.tl = .nil ∨ ∃ j, acc.tl = .own j ∧ p.n ≤ j ∧ q.t.get j = some (.tail acc.l.length) ∧ 0 < acc.l.length) (hf : ∀ x ∈ acc.l, ∀ j, ¬ (f x).has j) : ShrR p (.ret (Lst.cv f acc) q) (.ret (Lst.cv f (ownL acc.l p.n)) (ownH acc.l p)) := by
  obtain ⟨tl, l, o⟩ := acc
  simp only at happ hf
  rcases happ with h | ⟨j, h, hj, hg, h0⟩
  · subst h
    have := o rfl; subst this
    simp only [ownL_nil, ownH_nil]
    exact K0e hF hle (X0e fun j hj => by simp [Lst.cv, CV.has, CV.hasL] at hj)
  · subst h
    have hne : l ≠ [] := by intro e; subst e; simp at h0
    simp only [ownL, ownH, dif_neg hne, if_neg hne]
    refine X1q hF (J := j) rfl (fun k o h => ?_) ⟨_, hg, rfl⟩ ?_
    · have hd := hF.dom k o h
      exact ⟨hd, by omega, .inl ⟨h, hle k o h⟩⟩
    · simp only [Lst.cv, CV.weak, Tail.weak]
      exact ⟨⟨(if_pos rfl).symm, Nat.lt_succ_self _⟩, weakL_mem l hf⟩
def oneTok (k : Nat) : List Int := (List.range k).map Int.ofNat
theorem Z1b (k : Nat) : oneTok (k + 1) = oneTok k ++ [(k : Int)] := by simp [oneTok, List.range_succ]
theorem Y1i (k : Nat) : (oneTok k).length = k := by simp [oneTok]
def oneWith (players : Int) (rules : Lst X0c) (tk : Lst Int) : K0a := ⟨players, 1, 0, 0, 50, 0, 4607182418800017408, 4617315517961601024, rules, tk⟩
def oneC (players : Int) (rules : Lst X0c) : K0a := oneWith players rules (partL (oneTok players.toNat))
theorem weak_one (players : Int) (rules : Lst X0c) (tk : Lst Int) (n : Nat) (hr : ∀ j, rules.tl = .own j → j < n) (h : tk.tl = .nil ∨ (∃ j, tk.tl = .own j) ∧ 0 < tk.l.length) : CV.weak (fun k => k) n (oneWith players rules tk).cv (oneWith players rules (partL tk.l)).cv := by
  have h1 : CV.weak (fun k => k) n (Lst.cv X0c.cv rules) (Lst.cv X0c.cv rules) := X0e fun j hj => hr j ((Lst.has _ X0c.nohas _ j).1 hj)
  have h2 := K1m (f := I) I_has tk n h
  simp only [oneWith, K0a.cv, CV.weak, CV.weakL]
  exact ⟨trivial, trivial, trivial, trivial, trivial, trivial, trivial, trivial, h1, h2, trivial⟩
def cellV (b x y : Int) : V0b := ⟨true, ⟨b, x, y⟩⟩
def kC : K0a := oneC 1 ⟨.nil, [], fun _ => rfl⟩
def kS : X0a := stepS kC [cellV 0 64 0] (firstS kC)
theorem kC_legal : legalC kC = true := by kernel_rfl
theorem kS_x : (nth kS.Bodies 0).X = 2052 := by kernel_rfl
theorem kS_f : kS.Frame = 1 := by kernel_rfl
theorem kS_k : (nth kS.Bodies 0).Kind = 1 := by kernel_rfl
end Go.Proofs.Ytpchcfkebljopaa
end
section
-- @nole
namespace Go.Proofs.Ytpchcfkebljopaa
open Go.Cl Go Go.RowKit
set_option maxRecDepth 100000
set_option linter.constructorNameAsVariable false
def R134 : Rel := fun args p r => ∃ (b x y : Int), args = [I b, I x, I y] ∧ r = .ret (cellV b x y).cv p
theorem t134 {T : XCall} (h : Has T 134 R134) (b x y : Int) {p : Hp}  : T 134 [I b, I x, I y] p = .ret (cellV b x y).cv p := h _ _ _ ⟨b, x, y, rfl, rfl⟩
theorem zq134 {A B : Prop} (h : A = B := by ((try simp -dsimp (disch := first | exact zdis | fail) only [zcore, zall, zopm, zop, zcallOp, qop, qbuiltin, ofOpt, List.map, reduceCtorEq, if_true, if_false, ↓reduceIte, zbin, eqRes, qassert, qnum, qshift, qun, kindOf, allocV, List.nil_append, List.append_nil, List.cons_append, List.length_cons, List.length_nil, Nat.reduceAdd, Nat.reduceEqDiff, Nat.reduceLT, Nat.reduceSub, Nat.reduceMul, Int.reduceToNat, Int.reduceLE, Int.reduceLT, Int.reduceEq, Int.reduceNeg, Int.reduceAdd, Int.reduceSub, beq_self_eq_true, cond_true, cond_false, isConstOpd, xpanic, xconv, isBytes, qconv, List.length_map, List.map_nil, List.map_cons, concrete, Option.some.injEq, exists_eq', Option.map_some, Option.map_none, List.getElem?_cons_zero, List.getElem?_cons_succ, zw134, rs134, tt36, tt110, ti36, ti110, K0p, Q0i, zx, hc]); rfl)) (k : B) : A := h ▸ k
theorem zno134 {P : Prop} (h : P := by intro jj; simp [CV.has, CV.hasL, fault, K0c.nohas, V0b.nohas, Y0b.nohas]) : P := h
set_option maxHeartbeats 8000000 in
theorem c134 : Con C 134 R134 := by
  refine Z0f C ?_ ?_ ?_
  · rintro args p r r' ⟨b, x, y, h, e⟩ ⟨b', x', y', h', e'⟩
    subst e; subst e'; simp_all [V0b.inj_iff, Y0b.inj_iff]
  · rintro args p r ⟨b, x, y, h, rfl⟩; first | (split <;> simp; done) | (simp; done) | (simp only [resM]; split <;> simp; done) | (simp only [resD]; split <;> simp; done) 
  · rintro args p r ⟨b, x, y, rfl, rfl⟩
    refine Z0e C false noExt (tabL C []) xf134 (Q0f C) (K0f C _) zc134_ok (Nat.le_of_ble_eq_true (by kernel_rfl)) fun hF => ?_
    generalize tabL C [] = call
    show W C false noExt call zc134 (argE [I b, I x, I y]) p (endQ C _ _)
    (have zx := True.intro; have hc := True.intro; refine zq134 (k := ?_); clear hc; try exact True.intro)
    repeat' ((first | refine K0d ?_ ?_ | refine Z0c ?_ ?_ | refine X0d _ _ _ _ ?_ ?_ | refine Q0d ?_ ?_ | refine V0d _ _ _ _ ?_ ?_) <;> intro hc <;> (try simp only [zhd] at hc) <;> (try have hw := X0b hc) <;> (refine zq134 (k := ?_); try exact True.intro))
    all_goals (try clear zx)
    exact K0e hF zle (Q0e rfl (Y0d zno134))
theorem bld61 (a b c : Int) (r d : Nat) (l : Lst X0c) : qbuild C 61 [(0, I a), (1, I b), (4, I c), (6, Fl r), (7, Fl d), (8, Lst.cv X0c.cv l)] = some (K0a.mk a b 0 0 c 0 r d l ⟨.nil, [], fun _ => rfl⟩).cv := Q0g C tt61 (by simp only [partsOk, setAll, CV.shape, sh61, List.all_cons, List.all_nil, List.getElem?_cons_zero, List.getElem?_cons_succ, Bool.and_true, decide_true, Lst.cv]) rfl
theorem nilOp : CV.lst Tail.nil [] = Lst.cv X0c.cv ⟨.nil, [], fun _ => rfl⟩ := rfl
def J63 (players : Int) (rules : Lst X0c) (p : Hp) (n : Nat) (ρ : Env) (q : Hp) : Prop :=
  ∃ (k : Nat) (tk : Lst Int), n = players.toNat - k ∧ k ≤ players.toNat ∧ ρ 0 = I players ∧ ρ 4 = .ptr p.n [] ∧ ρ 5 = .ptr (p.n + 1) [] ∧ ρ 6 = I k ∧ q.t.get p.n = some (.var sh61 K0a.zero.cv) ∧ q.t.get (p.n + 1) = some (.var sh61 (oneWith players rules tk).cv) ∧ tk.l = oneTok k ∧ (tk.tl = .nil ∨ ∃ j, tk.tl = .own j ∧ p.n + 1 < j ∧ j < q.n ∧ q.t.get j = some (.tail tk.l.length) ∧ 0 < tk.l.length) ∧ p.n + 1 < q.n ∧ HpLe p q
def R63 : Rel := fun args p r => ∃ (players : Int) (rules : Lst X0c), args = [I players, Lst.cv X0c.cv rules] ∧ (1 ≤ players ∧ players ≤ 1000) ∧ r = .ret (oneC players rules).cv p
theorem t63 {T : XCall} (h : Has T 63 R63) (players : Int) (rules : Lst X0c) {p : Hp} (h1 : 1 ≤ players ∧ players ≤ 1000) : T 63 [I players, Lst.cv X0c.cv rules] p = .ret (oneC players rules).cv p := h _ _ _ ⟨players, rules, rfl, h1, rfl⟩
theorem zq63 {A B : Prop} (h : A = B := by ((try simp -dsimp (disch := first | exact zdis | fail) only [zcore, zall, zopm, zop, zcallOp, qop, qbuiltin, ofOpt, List.map, reduceCtorEq, if_true, if_false, ↓reduceIte, zbin, eqRes, qassert, qnum, qshift, qun, kindOf, allocV, List.nil_append, List.append_nil, List.cons_append, List.length_cons, List.length_nil, Nat.reduceAdd, Nat.reduceEqDiff, Nat.reduceLT, Nat.reduceSub, Nat.reduceMul, Int.reduceToNat, Int.reduceLE, Int.reduceLT, Int.reduceEq, Int.reduceNeg, Int.reduceAdd, Int.reduceSub, beq_self_eq_true, cond_true, cond_false, isConstOpd, xpanic, xconv, isBytes, qconv, List.length_map, List.map_nil, List.map_cons, concrete, Option.some.injEq, exists_eq', Option.map_some, Option.map_none, List.getElem?_cons_zero, List.getElem?_cons_succ, zw63, rs63, tt3, tt24, tt61, ti3, ti24, ti61, X0h, zsl24, bld61, h1, zx, hc]); rfl)) (k : B) : A := h ▸ k
theorem zge63 {P : Prop} (h : P := by simp (disch := first | exact zdl | fail) only [zheap]; first | done | rfl) : P := h
set_option maxHeartbeats 8000000 in
theorem c63 : Con C 63 R63 := by
  refine Z0f C ?_ ?_ ?_
  · rintro args p r r' ⟨players, rules, h, h1, e⟩ ⟨players', rules', h', h1', e'⟩
    subst e; subst e'; simp_all [K0a.inj_iff, X0t, K0m]
  · rintro args p r ⟨players, rules, h, h1, rfl⟩; first | (split <;> simp; done) | (simp; done) | (simp only [resM]; split <;> simp; done) | (simp only [resD]; split <;> simp; done) 
  · rintro args p r ⟨players, rules, rfl, h1, rfl⟩
    refine Z0e C false noExt (tabL C []) xf63 (Q0f C) (K0f C _) zc63_ok (Nat.le_of_ble_eq_true (by kernel_rfl)) fun hF => ?_
    generalize tabL C [] = call
    show W C false noExt call zc63 (argE [I players, Lst.cv X0c.cv rules]) p (endQ C _ _)
    have hPn : ((players.toNat : Nat) : Int) = players := by omega
    have hre : ∀ j, rules.tl = .own j → j < p.n := fun j hj => hF.lt_arg (a := Lst.cv X0c.cv rules) (by simp) j ((Lst.has _ X0c.nohas _ j).2 hj)
    (have zx := True.intro; have hc := True.intro; refine zq63 (k := ?_); clear hc; try exact True.intro)
    repeat' ((first | refine K0d ?_ ?_ | refine Z0c ?_ ?_ | refine X0d _ _ _ _ ?_ ?_ | refine Q0d ?_ ?_ | refine V0d _ _ _ _ ?_ ?_) <;> intro hc <;> (try simp only [zhd] at hc) <;> (try have hw := X0b hc) <;> (refine zq63 (k := ?_); try exact True.intro))
    all_goals (try clear zx)
    (show W C false noExt call (ZC.loop zn63_9) _ _ _); refine V0n C false noExt call zn63_9 _ _ _ (J63 players rules p) players.toNat ⟨0, ⟨.nil, [], fun _ => rfl⟩, rfl, by omega, (by simp [put_at, Z0a, V0f]), (by simp [put_at, Z0a, V0f]), (by simp [put_at, Z0a, V0f]), (by simp [put_at, Z0a, V0f]), zge63, zge63, rfl, .inl rfl, by simp only [Hp.bump_n, Hp.znew_n, Hp.zset_n]; omega, zle⟩ ?_
    rintro n ρ q ⟨k, ⟨tl, al, ao⟩, rfl, hk, e0, e4, e5, e6, g1, g2, hal, happ, hn, hle⟩
    have hln : al.length = k := by simp only at hal; rw [hal, Y1i]
    by_cases hlt : (k : Int) < players
    · have htk : (oneWith players rules ⟨tl, al, ao⟩).Tokens = ⟨tl, al, ao⟩ := rfl
      rcases happ with ht | ⟨j, ht, hj1, hj2, g4, hj4⟩
      · simp only at ht
        subst ht
        (have zx := And.intro e0 (And.intro e4 (And.intro e5 (And.intro e6 (And.intro g1 (And.intro g2 (And.intro hlt htk)))))); have hc := True.intro; refine zq63 (k := ?_); clear hc; try exact True.intro)
        repeat' ((first | refine K0d ?_ ?_ | refine Z0c ?_ ?_ | refine X0d _ _ _ _ ?_ ?_ | refine Q0d ?_ ?_ | refine V0d _ _ _ _ ?_ ?_) <;> intro hc <;> (try simp only [zhd] at hc) <;> (try have hw := X0b hc) <;> (refine zq63 (k := ?_); try exact True.intro))
        all_goals (try clear zx)
        exact ⟨players.toNat - (k + 1), by omega, k + 1, ⟨.own q.n, al ++ [(k : Int)], nofun⟩, rfl, by omega, by simp [put_at, Z0a, e0], by simp [put_at, Z0a, e4], by simp [put_at, Z0a, e5], by simp [put_at, Z0a], by simp (disch := first | exact zdl | fail) only [zheap, g1], by simp (disch := first | exact zdl | fail) only [zheap]; first | done | rfl, by simp only at hal; rw [hal, Z1b], .inr ⟨q.n, rfl, by omega, by simp only [Hp.bump_n, Hp.znew_n, Hp.zset_n]; omega, by simp (disch := first | exact zdl | fail) only [zheap, List.length_append, List.length_cons, List.length_nil], by simp⟩, by simp only [Hp.bump_n, Hp.znew_n, Hp.zset_n]; omega, zlq⟩
      · simp only at ht g4 hj4
        subst ht
        (have zx := And.intro e0 (And.intro e4 (And.intro e5 (And.intro e6 (And.intro g1 (And.intro g2 (And.intro hlt (And.intro g4 htk))))))); have hc := True.intro; refine zq63 (k := ?_); clear hc; try exact True.intro)
        repeat' ((first | refine K0d ?_ ?_ | refine Z0c ?_ ?_ | refine X0d _ _ _ _ ?_ ?_ | refine Q0d ?_ ?_ | refine V0d _ _ _ _ ?_ ?_) <;> intro hc <;> (try simp only [zhd] at hc) <;> (try have hw := X0b hc) <;> (refine zq63 (k := ?_); try exact True.intro))
        all_goals (try clear zx)
        exact ⟨players.toNat - (k + 1), by omega, k + 1, ⟨.own q.n, al ++ [(k : Int)], nofun⟩, rfl, by omega, by simp [put_at, Z0a, e0], by simp [put_at, Z0a, e4], by simp [put_at, Z0a, e5], by simp [put_at, Z0a], by simp (disch := first | exact zdl | fail) only [zheap, g1], by simp (disch := first | exact zdl | fail) only [zheap]; first | done | rfl, by simp only at hal; rw [hal, Z1b], .inr ⟨q.n, rfl, by omega, by simp only [Hp.bump_n, Hp.znew_n, Hp.zset_n]; omega, by simp (disch := first | exact zdl | fail) only [zheap, List.length_append, List.length_cons, List.length_nil], by simp⟩, by simp only [Hp.bump_n, Hp.znew_n, Hp.zset_n]; omega, zlq⟩
    · have hk2 : k = players.toNat := by omega
      (have zx := And.intro e0 (And.intro e4 (And.intro e5 (And.intro e6 (And.intro g1 (And.intro g2 hlt))))); have hc := True.intro; refine zq63 (k := ?_); clear hc; try exact True.intro)
      repeat' ((first | refine K0d ?_ ?_ | refine Z0c ?_ ?_ | refine X0d _ _ _ _ ?_ ?_ | refine Q0d ?_ ?_ | refine V0d _ _ _ _ ?_ ?_) <;> intro hc <;> (try simp only [zhd] at hc) <;> (try have hw := X0b hc) <;> (refine zq63 (k := ?_); try exact True.intro))
      all_goals (try clear zx)
      refine K0e hF zlq ?_
      have hw := weak_one players rules ⟨tl, al, ao⟩ p.n hre (happ.imp id fun ⟨j, h1, _, _, _, h5⟩ => ⟨⟨j, h1⟩, h5⟩)
      simp only at hal
      subst hk2
      subst hal
      exact hw
def R59 : Rel := fun args p r => args = [] ∧ r = .ret (Bo true) p
theorem t59 {T : XCall} (h : Has T 59 R59)  {p : Hp}  : T 59 [] p = .ret (Bo true) p := h _ _ _ ⟨rfl, rfl⟩
theorem zq59 {A B : Prop} (h : A = B := by ((try simp -dsimp (disch := first | exact zdis | fail) only [zcore, zall, zopm, zop, zcallOp, qop, qbuiltin, ofOpt, List.map, reduceCtorEq, if_true, if_false, ↓reduceIte, zbin, eqRes, qassert, qnum, qshift, qun, kindOf, allocV, List.nil_append, List.append_nil, List.cons_append, List.length_cons, List.length_nil, Nat.reduceAdd, Nat.reduceEqDiff, Nat.reduceLT, Nat.reduceSub, Nat.reduceMul, Int.reduceToNat, Int.reduceLE, Int.reduceLT, Int.reduceEq, Int.reduceNeg, Int.reduceAdd, Int.reduceSub, beq_self_eq_true, cond_true, cond_false, isConstOpd, xpanic, xconv, isBytes, qconv, List.length_map, List.map_nil, List.map_cons, concrete, Option.some.injEq, exists_eq', Option.map_some, Option.map_none, List.getElem?_cons_zero, List.getElem?_cons_succ, zw59, rs59, tt3, tt34, tt61, tt63, tt66, tt108, ti3, ti34, ti61, ti63, ti66, ti108, t_58, t_60, t_62, t_63, t_134, X0h, Z0i, Y0f, K0p, zsl63, zsl108, nilOp, zx, hc]); rfl)) (k : B) : A := h ▸ k
theorem zno59 {P : Prop} (h : P := by intro jj; simp [CV.has, CV.hasL, fault, K0c.nohas, X0a.nohas, Q0a.nohas, V0b.nohas]) : P := h
set_option maxHeartbeats 8000000 in
theorem c59 : Con C 59 R59 := by
  refine Z0f C ?_ ?_ ?_
  · rintro args p r r' ⟨h, e⟩ ⟨h', e'⟩
    subst e; subst e'; simp_all [K0a.inj_iff, X0a.inj_iff, Q0a.inj_iff, V0b.inj_iff, Q0w]
  · rintro args p r ⟨h, rfl⟩; first | (split <;> simp; done) | (simp; done) | (simp only [resM]; split <;> simp; done) | (simp only [resD]; split <;> simp; done) 
  · rintro args p r ⟨rfl, rfl⟩
    refine Z0e C false noExt (tabL C [(58, R58), (60, R60), (62, R62), (63, R63), (134, R134)]) xf59 (Q0f C) (K0f C _) zc59_ok (Nat.le_of_ble_eq_true (by kernel_rfl)) fun hF => ?_
    have t_58 := @t58 (tabL C [(58, R58), (60, R60), (62, R62), (63, R63), (134, R134)]) (Z0d C c58 [(60, R60), (62, R62), (63, R63), (134, R134)])
    have t_60 := @t60 (tabL C [(58, R58), (60, R60), (62, R62), (63, R63), (134, R134)]) (Y0c C _ rfl (Z0d C c60 [(62, R62), (63, R63), (134, R134)]))
    have t_62 := @t62 (tabL C [(58, R58), (60, R60), (62, R62), (63, R63), (134, R134)]) (Y0c C _ rfl (Y0c C _ rfl (Z0d C c62 [(63, R63), (134, R134)])))
    have t_63 := @t63 (tabL C [(58, R58), (60, R60), (62, R62), (63, R63), (134, R134)]) (Y0c C _ rfl (Y0c C _ rfl (Y0c C _ rfl (Z0d C c63 [(134, R134)]))))
    have t_134 := @t134 (tabL C [(58, R58), (60, R60), (62, R62), (63, R63), (134, R134)]) (Y0c C _ rfl (Y0c C _ rfl (Y0c C _ rfl (Y0c C _ rfl (Z0d C c134 [])))))
    generalize tabL C [(58, R58), (60, R60), (62, R62), (63, R63), (134, R134)] = call at t_58 t_60 t_62 t_63 t_134 ⊢
    show W C false noExt call zc59 (argE []) p (endQ C _ _)
    have k1 := kC_legal
    have k2 := kS_x
    have k3 := kS_f
    have k4 := kS_k
    have hC : oneC 1 ⟨.nil, [], fun _ => rfl⟩ = kC := rfl
    have hS : stepS kC [cellV 0 64 0] (firstS kC) = kS := rfl
    have hl : kC.Tokens.l.length ≤ 1000000 := by decide
    have hr : kC.Rules.l.length ≤ 1000000 := by decide
    have hb := kS.hBodies
    generalize hC0 : kC = C0 at k1 hC hS hl hr
    generalize hS0 : kS = S0 at k2 k3 k4 hS hb
    clear hC0 hS0
    (have zx := And.intro hC (And.intro hS (And.intro k1 (And.intro k2 (And.intro k3 k4)))); have hc := True.intro; refine zq59 (k := ?_); clear hc; try exact True.intro)
    repeat' ((first | refine K0d ?_ ?_ | refine Z0c ?_ ?_ | refine X0d _ _ _ _ ?_ ?_ | refine Q0d ?_ ?_ | refine V0d _ _ _ _ ?_ ?_) <;> intro hc <;> (try simp only [zhd] at hc) <;> (try have hw := X0b hc) <;> (refine zq59 (k := ?_); try exact True.intro))
    all_goals (try clear zx)
    exact K0e hF zle (Q0e rfl (Y0d zno59))
end Go.Proofs.Ytpchcfkebljopaa
end
section
-- @nole
namespace Go.Proofs.Ytpchcfkebljopaa
open Go.Cl Go Go.RowKit
set_option maxRecDepth 100000
set_option linter.constructorNameAsVariable false
def J65 (players : Int) (l : Lst Int) (p : Hp) (n : Nat) (ρ : Env) (q : Hp) : Prop :=
  ∃ (k : Nat), n = min players.toNat l.l.length - k ∧ k ≤ min players.toNat l.l.length ∧ ρ 0 = I players ∧ ρ 1 = Lst.cv I l ∧ ρ 5 = .slc p.n [] 0 players.toNat ∧ ρ 6 = I k ∧ q.t.get p.n = some (.var (.n (List.replicate players.toNat sh110)) (.agg ((rowK players l.l k).map V0b.cv))) ∧ p.n < q.n ∧ HpLe p q
def R65 : Rel := fun args p r => ∃ (players : Int) (l : Lst Int), args = [I players, Lst.cv I l] ∧ (1 ≤ players ∧ players ≤ 100) ∧ r = .ret (Lst.cv V0b.cv ⟨.part, rowOf players l.l, nofun⟩) p
theorem t65 {T : XCall} (h : Has T 65 R65) (players : Int) (l : Lst Int) {p : Hp} (h1 : 1 ≤ players ∧ players ≤ 100) : T 65 [I players, Lst.cv I l] p = .ret (Lst.cv V0b.cv ⟨.part, rowOf players l.l, nofun⟩) p := h _ _ _ ⟨players, l, rfl, h1, rfl⟩
theorem zq65 {A B : Prop} (h : A = B := by ((try simp -dsimp (disch := first | exact zdis | fail) only [zcore, zall, zopm, zop, zcallOp, qop, qbuiltin, ofOpt, List.map, reduceCtorEq, if_true, if_false, ↓reduceIte, zbin, eqRes, qassert, qnum, qshift, qun, kindOf, allocV, List.nil_append, List.append_nil, List.cons_append, List.length_cons, List.length_nil, Nat.reduceAdd, Nat.reduceEqDiff, Nat.reduceLT, Nat.reduceSub, Nat.reduceMul, Int.reduceToNat, Int.reduceLE, Int.reduceLT, Int.reduceEq, Int.reduceNeg, Int.reduceAdd, Int.reduceSub, beq_self_eq_true, cond_true, cond_false, isConstOpd, xpanic, xconv, isBytes, qconv, List.length_map, List.map_nil, List.map_cons, concrete, Option.some.injEq, exists_eq', Option.map_some, Option.map_none, List.getElem?_cons_zero, List.getElem?_cons_succ, zw65, rs65, tt3, tt24, tt108, tt110, ti3, ti24, ti108, ti110, t_69, K0p, Q0i, zsl24, zsl108, mk108, ix108, sa108, X07, h1, zx, hc]); rfl)) (k : B) : A := h ▸ k
theorem zge65 {P : Prop} (h : P := by simp (disch := first | exact zdl | fail) only [zheap]; first | done | rfl) : P := h
set_option maxHeartbeats 8000000 in
theorem c65 : Con C 65 R65 := by
  refine Z0f C ?_ ?_ ?_
  · rintro args p r r' ⟨players, l, h, h1, e⟩ ⟨players', l', h', h1', e'⟩
    subst e; subst e'; simp_all [V0b.inj_iff, Y0b.inj_iff, X0t, Q0w, X0t]
  · rintro args p r ⟨players, l, h, h1, rfl⟩; first | (split <;> simp; done) | (simp; done) | (simp only [resM]; split <;> simp; done) | (simp only [resD]; split <;> simp; done) 
  · rintro args p r ⟨players, l, rfl, h1, rfl⟩
    show AnsAt C 65 [I players, Lst.cv I l] p (.ret (.lst .part ((rowOf players l.l).map V0b.cv)) p)
    refine ans_freeze C (sh := .n (List.replicate players.toNat sh110)) (l := (rowOf players l.l).map V0b.cv) (sz := 4) (fun x hx => by obtain ⟨y, _, rfl⟩ := List.mem_map.1 hx; rfl) (fun j hj => (V0p V0b.nohas _ j hj).elim) ?_
    refine Z0e C false noExt (tabL C [(69, R69)]) xf65 (Q0f C) (K0f C _) zc65_ok (Nat.le_of_ble_eq_true (by kernel_rfl)) fun hF => ?_
    have t_69 := @t69 (tabL C [(69, R69)]) (Z0d C c69 [])
    generalize tabL C [(69, R69)] = call at t_69 ⊢
    show W C false noExt call zc65 (argE [I players, Lst.cv I l]) p (endQ C _ _)
    have hp : ((players.toNat : Nat) : Int) = players := by omega
    have hfin : ∀ q : Hp, q.t.get p.n = some (.var (.n (List.replicate players.toNat sh110)) (.agg ((rowOf players l.l).map V0b.cv))) → HpLe p q → ShrR p (.ret (.slc p.n [] 0 players.toNat) q) (.ret (.slc p.n [] 0 (rowOf players l.l).length) (p.new (.var (.n (List.replicate players.toNat sh110)) (.agg ((rowOf players l.l).map V0b.cv))))) := by
      intro q g1 hle
      rw [rowOf_len]
      refine V1m (by show p.n ≤ p.n + 1; omega) (fun j o h => ?_) ⟨rfl, Nat.lt_succ_self _, rfl, rfl, rfl⟩
      by_cases hj : j = p.n
      · subst hj
        rw [Hp.get_new_self] at h; cases h
        exact ⟨Nat.lt_succ_self _, .inr ⟨_, g1, Z0o fun i hi => by simp only [XObj.has, CV.has] at hi; exact (V0p V0b.nohas _ i hi).elim⟩⟩
      · rw [Hp.get_new_ne _ _ hj] at h
        have hd := hF.dom _ _ h
        exact ⟨Nat.lt_succ_of_lt hd, .inl ⟨hd, h, hle j o h⟩⟩
    (have zx := True.intro; have hc := True.intro; refine zq65 (k := ?_); clear hc; try exact True.intro)
    repeat' ((first | refine K0d ?_ ?_ | refine Z0c ?_ ?_ | refine X0d _ _ _ _ ?_ ?_ | refine Q0d ?_ ?_ | refine V0d _ _ _ _ ?_ ?_) <;> intro hc <;> (try simp only [zhd] at hc) <;> (try have hw := X0b hc) <;> (refine zq65 (k := ?_); try exact True.intro))
    all_goals (try clear zx)
    (show W C false noExt call (ZC.loop zn65_9) _ _ _); refine V0n C false noExt call zn65_9 _ _ _ (J65 players l p) (min players.toNat l.l.length) ⟨0, rfl, by omega, (by simp [put_at, Z0a, V0f]), (by simp [put_at, Z0a]; rfl), (by simp [put_at, Z0a, V0f]), (by simp [put_at, Z0a, V0f]), zge65, (by simp only [Hp.bump_n, Hp.znew_n, Hp.zset_n]; omega), zle⟩ ?_
    rintro n ρ q ⟨k, rfl, hk, e0, e1, e5, e6, g1, hn, hle⟩
    have hlen := V1r players l.l k
    by_cases hlt : (k : Int) < players
    · by_cases hll : (k : Int) < l.l.length
      · have hw := wrap_range ((nth l.l k).tdiv 7)
        by_cases h4 : 0 < (nth l.l k).tmod 4
        · have hst : rowK players l.l (k + 1) = (rowK players l.l k).set k (cellOf (nth l.l k)) := by simp [rowK, h4]
          (have zx := And.intro e0 (And.intro e1 (And.intro e5 (And.intro e6 (And.intro g1 (And.intro hlt (And.intro hll h4)))))); have hc := True.intro; refine zq65 (k := ?_); clear hc; try exact True.intro)
          repeat' ((first | refine K0d ?_ ?_ | refine Z0c ?_ ?_ | refine X0d _ _ _ _ ?_ ?_ | refine Q0d ?_ ?_ | refine V0d _ _ _ _ ?_ ?_) <;> intro hc <;> (try simp only [zhd] at hc) <;> (try have hw := X0b hc) <;> (refine zq65 (k := ?_); try exact True.intro))
          all_goals (try clear zx)
          exact ⟨min players.toNat l.l.length - (k + 1), by omega, k + 1, rfl, by omega, by simp [put_at, Z0a, e0], by simp [put_at, Z0a, e1], by simp [put_at, Z0a, e5], by simp [put_at, Z0a], by rw [hst]; simp (disch := first | exact zdl | fail) only [zheap]; first | done | rfl, by simp only [Hp.bump_n, Hp.znew_n, Hp.zset_n]; omega, zlq⟩
        · have hst : rowK players l.l (k + 1) = rowK players l.l k := by simp [rowK, h4]
          (have zx := And.intro e0 (And.intro e1 (And.intro e5 (And.intro e6 (And.intro g1 (And.intro hlt (And.intro hll h4)))))); have hc := True.intro; refine zq65 (k := ?_); clear hc; try exact True.intro)
          repeat' ((first | refine K0d ?_ ?_ | refine Z0c ?_ ?_ | refine X0d _ _ _ _ ?_ ?_ | refine Q0d ?_ ?_ | refine V0d _ _ _ _ ?_ ?_) <;> intro hc <;> (try simp only [zhd] at hc) <;> (try have hw := X0b hc) <;> (refine zq65 (k := ?_); try exact True.intro))
          all_goals (try clear zx)
          exact ⟨min players.toNat l.l.length - (k + 1), by omega, k + 1, rfl, by omega, by simp [put_at, Z0a, e0], by simp [put_at, Z0a, e1], by simp [put_at, Z0a, e5], by simp [put_at, Z0a], by rw [hst]; exact g1, hn, hle⟩
      · have hk2 : k = min players.toNat l.l.length := by omega
        (have zx := And.intro e0 (And.intro e1 (And.intro e5 (And.intro e6 (And.intro g1 (And.intro hlt hll))))); have hc := True.intro; refine zq65 (k := ?_); clear hc; try exact True.intro)
        repeat' ((first | refine K0d ?_ ?_ | refine Z0c ?_ ?_ | refine X0d _ _ _ _ ?_ ?_ | refine Q0d ?_ ?_ | refine V0d _ _ _ _ ?_ ?_) <;> intro hc <;> (try simp only [zhd] at hc) <;> (try have hw := X0b hc) <;> (refine zq65 (k := ?_); try exact True.intro))
        all_goals (try clear zx)
        exact hfin q (by rw [g1, hk2]; rfl) hle
    · have hk2 : k = min players.toNat l.l.length := by omega
      (have zx := And.intro e0 (And.intro e1 (And.intro e5 (And.intro e6 (And.intro g1 hlt)))); have hc := True.intro; refine zq65 (k := ?_); clear hc; try exact True.intro)
      repeat' ((first | refine K0d ?_ ?_ | refine Z0c ?_ ?_ | refine X0d _ _ _ _ ?_ ?_ | refine Q0d ?_ ?_ | refine V0d _ _ _ _ ?_ ?_) <;> intro hc <;> (try simp only [zhd] at hc) <;> (try have hw := X0b hc) <;> (refine zq65 (k := ?_); try exact True.intro))
      all_goals (try clear zx)
      exact hfin q (by rw [g1, hk2]; rfl) hle
def J61 (players : Int) (l : Lst (Lst Int)) (p : Hp) (n : Nat) (ρ : Env) (q : Hp) : Prop :=
  ∃ (k : Nat) (acc : Lst (Lst V0b)), n = 40 - k ∧ k ≤ 40 ∧ k ≤ l.l.length ∧ ρ 0 = I players ∧ ρ 1 = Lst.cv (Lst.cv I) l ∧ ρ 5 = acc.cv (Lst.cv V0b.cv) ∧ ρ 6 = I k ∧ acc.l = (l.l.take k).map (rowL players) ∧ (acc.tl = .nil ∨ ∃ j, acc.tl = .own j ∧ p.n ≤ j ∧ j < q.n ∧ q.t.get j = some (.tail acc.l.length) ∧ 0 < acc.l.length) ∧ p.n ≤ q.n ∧ HpLe p q
def R61 : Rel := fun args p r => ∃ (players : Int) (l : Lst (Lst Int)), args = [I players, Lst.cv (Lst.cv I) l] ∧ (1 ≤ players ∧ players ≤ 100) ∧ r = .ret (Lst.cv (Lst.cv V0b.cv) (ownL (rowsOf players l.l) p.n)) (ownH (rowsOf players l.l) p)
theorem t61 {T : XCall} (h : Has T 61 R61) (players : Int) (l : Lst (Lst Int)) {p : Hp} (h1 : 1 ≤ players ∧ players ≤ 100) : T 61 [I players, Lst.cv (Lst.cv I) l] p = .ret (Lst.cv (Lst.cv V0b.cv) (ownL (rowsOf players l.l) p.n)) (ownH (rowsOf players l.l) p) := h _ _ _ ⟨players, l, rfl, h1, rfl⟩
theorem zq61 {A B : Prop} (h : A = B := by ((try simp -dsimp (disch := first | exact zdis | fail) only [zcore, zall, zopm, zop, zcallOp, qop, qbuiltin, ofOpt, List.map, reduceCtorEq, if_true, if_false, ↓reduceIte, zbin, eqRes, qassert, qnum, qshift, qun, kindOf, allocV, List.nil_append, List.append_nil, List.cons_append, List.length_cons, List.length_nil, Nat.reduceAdd, Nat.reduceEqDiff, Nat.reduceLT, Nat.reduceSub, Nat.reduceMul, Int.reduceToNat, Int.reduceLE, Int.reduceLT, Int.reduceEq, Int.reduceNeg, Int.reduceAdd, Int.reduceSub, beq_self_eq_true, cond_true, cond_false, isConstOpd, xpanic, xconv, isBytes, qconv, List.length_map, List.map_nil, List.map_cons, concrete, Option.some.injEq, exists_eq', Option.map_some, Option.map_none, List.getElem?_cons_zero, List.getElem?_cons_succ, zw61, rs61, tt3, tt24, tt58, tt92, ti3, ti24, ti58, ti92, t_65, K0p, zsl24, zsl58, zsl92, h1, zx, hc]); rfl)) (k : B) : A := h ▸ k
set_option maxHeartbeats 8000000 in
theorem c61 : Con C 61 R61 := by
  refine Z0f C ?_ ?_ ?_
  · rintro args p r r' ⟨players, l, h, h1, e⟩ ⟨players', l', h', h1', e'⟩
    subst e; subst e'; simp_all [V0b.inj_iff, X0t, Z1p, sl_inj92, Z1p]
  · rintro args p r ⟨players, l, h, h1, rfl⟩; first | (split <;> simp; done) | (simp; done) | (simp only [resM]; split <;> simp; done) | (simp only [resD]; split <;> simp; done) 
  · rintro args p r ⟨players, l, rfl, h1, rfl⟩
    refine Z0e C false noExt (tabL C [(65, R65)]) xf61 (Q0f C) (K0f C _) zc61_ok (Nat.le_of_ble_eq_true (by kernel_rfl)) fun hF => ?_
    have t_65 := @t65 (tabL C [(65, R65)]) (Z0d C c65 [])
    generalize tabL C [(65, R65)] = call at t_65 ⊢
    show W C false noExt call zc61 (argE [I players, Lst.cv (Lst.cv I) l]) p (endQ C _ _)
    (have zx := True.intro; have hc := True.intro; refine zq61 (k := ?_); clear hc; try exact True.intro)
    repeat' ((first | refine K0d ?_ ?_ | refine Z0c ?_ ?_ | refine X0d _ _ _ _ ?_ ?_ | refine Q0d ?_ ?_ | refine V0d _ _ _ _ ?_ ?_) <;> intro hc <;> (try simp only [zhd] at hc) <;> (try have hw := X0b hc) <;> (refine zq61 (k := ?_); try exact True.intro))
    all_goals (try clear zx)
    show W C false noExt call (ZC.block 0 (ZC.loop zn61_9)) _ _ (seqQ _ _)
    refine W_cut C false noExt call _ _ _ _ (fun ρ q => ∃ acc : Lst (Lst V0b), ρ 5 = acc.cv (Lst.cv V0b.cv) ∧ acc.l = rowsOf players l.l ∧ (acc.tl = .nil ∨ ∃ j, acc.tl = .own j ∧ p.n ≤ j ∧ q.t.get j = some (.tail acc.l.length) ∧ 0 < acc.l.length) ∧ HpLe p q) ?_ ?_
    · (show W C false noExt call (ZC.loop zn61_9) _ _ _); refine V0n C false noExt call zn61_9 _ _ _ (J61 players l p) 40 ⟨0, ⟨.nil, [], fun _ => rfl⟩, rfl, by omega, by omega, (by simp [put_at, Z0a, V0f]), (by simp [put_at, Z0a]; rfl), by simp [put_at, Z0a, V0f, Lst.cv], (by simp [put_at, Z0a, V0f]), by simp, .inl rfl, by omega, zle⟩ ?_
      rintro n ρ q ⟨k, ⟨tl, al, ao⟩, rfl, hk, hkl, e0, e1, e5, e6, hacc, happ, hn, hle⟩
      have hal : al.length = k := by simp only at hacc; rw [hacc]; simp; omega
      by_cases hlt : (k : Int) < l.l.length
      · by_cases h40 : (k : Int) < 40
        · have htk := take_nx (l := l.l) (k := k) (by omega)
          have hrow : (⟨.part, rowOf players (nth l.l k).l, nofun⟩ : Lst V0b) = rowL players (nth l.l k) := rfl
          rcases happ with ht | ⟨j, ht, hj1, hj2, g1, hj4⟩
          · simp only at ht
            subst ht
            (have zx := And.intro e0 (And.intro e1 (And.intro e5 (And.intro e6 (And.intro hlt (And.intro h40 hrow))))); have hc := True.intro; refine zq61 (k := ?_); clear hc; try exact True.intro)
            repeat' ((first | refine K0d ?_ ?_ | refine Z0c ?_ ?_ | refine X0d _ _ _ _ ?_ ?_ | refine Q0d ?_ ?_ | refine V0d _ _ _ _ ?_ ?_) <;> intro hc <;> (try simp only [zhd] at hc) <;> (try have hw := X0b hc) <;> (refine zq61 (k := ?_); try exact True.intro))
            all_goals (try clear zx)
            exact ⟨40 - (k + 1), by omega, k + 1, ⟨.own q.n, al ++ [rowL players (nth l.l k)], nofun⟩, rfl, by omega, by omega, by simp [put_at, Z0a, e0], by simp [put_at, Z0a, e1], by simp [put_at, Z0a], by simp [put_at, Z0a], by simp only at hacc; rw [htk, List.map_append, hacc]; rfl, .inr ⟨q.n, rfl, hn, by simp only [Hp.bump_n, Hp.znew_n, Hp.zset_n]; omega, by simp (disch := first | exact zdl | fail) only [zheap, List.length_append, List.length_cons, List.length_nil], by simp⟩, by simp only [Hp.bump_n, Hp.znew_n, Hp.zset_n]; omega, zlq⟩
          · simp only at ht g1 hj4
            subst ht
            (have zx := And.intro e0 (And.intro e1 (And.intro e5 (And.intro e6 (And.intro hlt (And.intro h40 (And.intro g1 hrow)))))); have hc := True.intro; refine zq61 (k := ?_); clear hc; try exact True.intro)
            repeat' ((first | refine K0d ?_ ?_ | refine Z0c ?_ ?_ | refine X0d _ _ _ _ ?_ ?_ | refine Q0d ?_ ?_ | refine V0d _ _ _ _ ?_ ?_) <;> intro hc <;> (try simp only [zhd] at hc) <;> (try have hw := X0b hc) <;> (refine zq61 (k := ?_); try exact True.intro))
            all_goals (try clear zx)
            exact ⟨40 - (k + 1), by omega, k + 1, ⟨.own q.n, al ++ [rowL players (nth l.l k)], nofun⟩, rfl, by omega, by omega, by simp [put_at, Z0a, e0], by simp [put_at, Z0a, e1], by simp [put_at, Z0a], by simp [put_at, Z0a], by simp only at hacc; rw [htk, List.map_append, hacc]; rfl, .inr ⟨q.n, rfl, hn, by simp only [Hp.bump_n, Hp.znew_n, Hp.zset_n]; omega, by simp (disch := first | exact zdl | fail) only [zheap, List.length_append, List.length_cons, List.length_nil], by simp⟩, by simp only [Hp.bump_n, Hp.znew_n, Hp.zset_n]; omega, zlq⟩
        · (have zx := And.intro e0 (And.intro e1 (And.intro e5 (And.intro e6 (And.intro hlt h40)))); have hc := True.intro; refine zq61 (k := ?_); clear hc; try exact True.intro)
          repeat' ((first | refine K0d ?_ ?_ | refine Z0c ?_ ?_ | refine X0d _ _ _ _ ?_ ?_ | refine Q0d ?_ ?_ | refine V0d _ _ _ _ ?_ ?_) <;> intro hc <;> (try simp only [zhd] at hc) <;> (try have hw := X0b hc) <;> (refine zq61 (k := ?_); try exact True.intro))
          all_goals (try clear zx)
          have hk40 : k = 40 := by omega
          subst hk40
          exact ⟨⟨tl, al, ao⟩, by simp [put_at, Z0a, e5], hacc, happ.imp id fun ⟨j, h1, h2, _, h4, h5⟩ => ⟨j, h1, h2, h4, h5⟩, hle⟩
      · (have zx := And.intro e0 (And.intro e1 (And.intro e5 (And.intro e6 hlt))); have hc := True.intro; refine zq61 (k := ?_); clear hc; try exact True.intro)
        repeat' ((first | refine K0d ?_ ?_ | refine Z0c ?_ ?_ | refine X0d _ _ _ _ ?_ ?_ | refine Q0d ?_ ?_ | refine V0d _ _ _ _ ?_ ?_) <;> intro hc <;> (try simp only [zhd] at hc) <;> (try have hw := X0b hc) <;> (refine zq61 (k := ?_); try exact True.intro))
        all_goals (try clear zx)
        have ht : l.l.take k = l.l.take 40 := by rw [List.take_of_length_le (by omega), List.take_of_length_le (by omega)]
        exact ⟨⟨tl, al, ao⟩, by simp [put_at, Z0a, e5], by rw [hacc, ht]; rfl, happ.imp id fun ⟨j, h1, h2, _, h4, h5⟩ => ⟨j, h1, h2, h4, h5⟩, hle⟩
    rintro ρ q ⟨acc, e5, hacc, happ, hle⟩
    (have zx := e5; have hc := True.intro; refine zq61 (k := ?_); clear hc; try exact True.intro)
    repeat' ((first | refine K0d ?_ ?_ | refine Z0c ?_ ?_ | refine X0d _ _ _ _ ?_ ?_ | refine Q0d ?_ ?_ | refine V0d _ _ _ _ ?_ ?_) <;> intro hc <;> (try simp only [zhd] at hc) <;> (try have hw := X0b hc) <;> (refine zq61 (k := ?_); try exact True.intro))
    all_goals (try clear zx)
    rw [← hacc]
    exact shr_ownL hF acc hle happ (fun x hx j => by
      rw [hacc] at hx
      obtain ⟨y, _, rfl⟩ := List.mem_map.1 hx
      intro h; cases ((Lst.has _ V0b.nohas _ j).1 h))
end Go.Proofs.Ytpchcfkebljopaa
end
section
-- @nole
namespace Go.Proofs.Ytpchcfkebljopaa
open Go.Cl Go Go.RowKit
set_option maxRecDepth 100000
set_option linter.constructorNameAsVariable false
end Go.Proofs.Ytpchcfkebljopaa
end
section
-- @nole
namespace Go.Proofs.Ytpchcfkebljopaa
open Go.Cl Go Go.RowKit
set_option maxRecDepth 100000
set_option linter.constructorNameAsVariable false
end Go.Proofs.Ytpchcfkebljopaa
end
section
namespace Go.Proofs.Ytpchcfkebljopaa
open Go.Cl Go Go.RowKit
set_option maxRecDepth 100000
def zn16_1 : ZC := ZC.reg [zv 8 (.assign (.const (.bool false)))]
def zn16_3 : ZC := ZC.reg [⟨some 16, .build 29 ⟨[(0, .const (.int .i64 7)), (1, .const (.int .i64 0)), (2, .const (.int .i64 5))]⟩, none, false⟩, ⟨some 17, .build 29 ⟨[(0, .const (.int .i64 3)), (1, .const (.int .i64 1)), (2, .const (.int .i64 0))]⟩, none, false⟩, ⟨some 18, .build 29 ⟨[(0, .const (.int .i64 8)), (1, .const (.int .i64 3)), (2, .const (.int .i64 1))]⟩, none, false⟩, ⟨some 19, .buildSlice 23 3 ⟨[(0, .tmp 16), (1, .tmp 17), (2, .tmp 18)]⟩, none, false⟩, zu 20 (zcf 63 [Kn 4, Tm 19] [3, 23]), zu 9 (.alloc 61), zv0 (.store 61 (Tm 9) (Tm 20))]
def zn16_5 : ZC := ZC.reg [zu 21 (zmv 0), zu 22 (zcf 37 [Tm 21, Kn 1000] [3, 3]), zu 23 (zfa 61 9 5), zv0 (.store 3 (Tm 23) (Tm 22))]
def zn16_7 : ZC := ZC.reg [zu 24 (zmv 3), zu 25 (zcf 37 [Tm 24, Kn 4] [3, 3]), zv 3 (zas 25)]
def zn16_9 : ZC := ZC.reg [zu 26 (zld 61 9), zu 27 (zcf 58 [Tm 26] [61]), zu 10 (.alloc 66), zv0 (.store 66 (Tm 10) (Tm 27))]
def zn16_11 : ZC := ZC.reg [zu 28 (zld 61 9), zu 29 (zcf 58 [Tm 28] [61]), zu 11 (.alloc 66), zv0 (.store 66 (Tm 11) (Tm 29))]
def zn16_13 : ZC := ZC.reg [zu 30 (zmv 1), zu 31 (zcf 61 [Kn 4, Tm 30] [3, 58]), zv 12 (zas 31)]
def zn16_15 : ZC := ZC.reg [zu 32 (zmv 2), zu 33 (zcf 61 [Kn 4, Tm 32] [3, 58]), zv 13 (zas 33)]
def zn16_18 : ZC := ZC.reg [zu 34 (zmv 12), zu 35 (zcb .len [Tm 34] [92]), zv 36 (.move (Kn 0))]
def zn16_22 : ZC := ZC.reg [zv 37 (.binOp .lss 3 (Tm 36) (Tm 35) 3)]
def zn16_24 : ZC := ZC.cond (Tm 37) ZC.skip (ZC.exit 0)
def zn16_28 : ZC := ZC.reg [zu 38 (zmv 36), zv 14 (zas 38)]
def zn16_30 : ZC := ZC.draw 8 [] [zdd 0 39 (zld 61 9) false [] [] false, zdd 1 40 (zld 66 10) false [] [] false, zdd 2 41 (zmv 12) false [] [] false, zdd 3 42 (zmv 14) true [] [] false, zdd 4 43 (zia 92 41 42) true [] [] false, zdd 5 44 (zld 108 43) true [] [] false, zdd 6 45 (zcf 62 [Tm 39, Tm 40, Tm 44] [61, 66, 108]) true [] [] false, zd0 7 (.store 66 (Tm 10) (Tm 45)) true [] [] false]
def zn16_32 : ZC := ZC.reg [⟨some 46, .buildSlice 108 0 ⟨[]⟩, none, false⟩, zu 47 (zmv 12), zu 48 (zmv 14), zu 49 (zia 92 47 48), zu 50 (zld 108 49), zu 51 (zcb .append [Tm 46, Tm 50] [108, 108]), zv 15 (zas 51)]
def zn16_35 : ZC := ZC.reg [zu 52 (zmv 14), zu 53 (zmv 13), zu 54 (zcb .len [Tm 53] [92]), zv 55 (.binOp .lss 3 (Tm 52) (Tm 54) 3)]
def zn16_38 : ZC := ZC.reg [⟨some 56, .buildSlice 108 0 ⟨[]⟩, none, false⟩, zu 57 (zmv 13), zu 58 (zmv 14), zu 59 (zia 92 57 58), zu 60 (zld 108 59), zu 61 (zcb .append [Tm 56, Tm 60] [108, 108]), zv 15 (zas 61)]
def zn16_39 : ZC := ZC.reg [zu 62 (zmv 15), zu 63 (zmv 3), zu 64 (zmv 12), zu 65 (zmv 14), zu 66 (zia 92 64 65), zu 67 (zld 108 66), zu 68 (zmv 3), zu 69 (zia 108 67 68), zu 70 (zld 110 69), zu 71 (zia 108 62 63), zv0 (.store 110 (Tm 71) (Tm 70))]
def zn16_37 : ZC := ZC.seq zn16_38 zn16_39
def zn16_36 : ZC := ZC.cond (Tm 55) zn16_37 ZC.skip
def zn16_34 : ZC := ZC.seq zn16_35 zn16_36
def zn16_41 : ZC := ZC.reg [zu 72 (zld 61 9), zu 73 (zld 66 11), zu 74 (zmv 15), zu 75 (zcf 62 [Tm 72, Tm 73, Tm 74] [61, 66, 108]), zv0 (.store 66 (Tm 11) (Tm 75))]
def zn16_43 : ZC := ZC.draw 24 [] [zdd 0 76 (zmv 3) false [] [] false, zdd 1 77 (zfa 66 10 2) false [] [] false, zdd 2 78 (zia 63 77 76) false [] [] false, zdd 3 79 (zld 34 78) false [] [] false, zdd 4 80 (zmv 3) false [] [] false, zdd 5 81 (zfa 66 11 2) true [] [] false, zdd 6 82 (zia 63 81 80) true [] [] false, zdd 7 83 (zld 34 82) true [] [] false, zdd 8 84 (.binOp .neq 34 (Tm 79) (Tm 83) 34) true [] [] false, zdd 9 85 (zmv 84) true [] [] false, ⟨10, some 86, zmv 3, some (85, false), false, [], [], false⟩, ⟨11, some 87, zfa 66 10 2, some (85, false), true, [], [], false⟩, ⟨12, some 88, zia 63 87 86, some (85, false), true, [], [], false⟩, ⟨13, some 89, zfa 34 88 8, some (85, false), true, [], [], false⟩, ⟨14, some 90, zld 3 89, some (85, false), true, [], [], false⟩, ⟨15, some 91, .binOp .neq 3 (Tm 90) (Kn 0) 3, some (85, false), true, [], [], false⟩, zdd 16 92 (.pick (Tm 85) (.const (.bool true)) (Tm 91)) true [] [] false, zdd 17 93 (zmv 92) true [] [] false, ⟨18, some 94, zfa 66 10 1, some (93, false), false, [], [], false⟩, ⟨19, some 95, zld 25 94, some (93, false), false, [], [], false⟩, ⟨20, some 96, zfa 66 11 1, some (93, false), true, [], [], false⟩, ⟨21, some 97, zld 25 96, some (93, false), true, [], [], false⟩, ⟨22, some 98, .binOp .neq 25 (Tm 95) (Tm 97) 25, some (93, false), true, [], [], false⟩, zdd 23 99 (.pick (Tm 93) (.const (.bool true)) (Tm 98)) true [] [] false]
def zn16_46 : ZC := ZC.reg [zv 8 (.assign (.const (.bool false)))]
def zn16_45 : ZC := ZC.seq zn16_46 ZC.ret
def zn16_44 : ZC := ZC.cond (Tm 99) zn16_45 ZC.skip
def zn16_42 : ZC := ZC.seq zn16_43 zn16_44
def zn16_40 : ZC := ZC.seq zn16_41 zn16_42
def zn16_33 : ZC := ZC.seq zn16_34 zn16_40
def zn16_31 : ZC := ZC.seq zn16_32 zn16_33
def zn16_29 : ZC := ZC.seq zn16_30 zn16_31
def zn16_27 : ZC := ZC.seq zn16_28 zn16_29
def zn16_26 : ZC := ZC.block 1 zn16_27
def zn16_47 : ZC := ZC.reg [zu 100 (.binOp .add 3 (Tm 36) (Kn 1) 3), zv 36 (zmv 100)]
def zn16_25 : ZC := ZC.seq zn16_26 zn16_47
def zn16_23 : ZC := ZC.seq zn16_24 zn16_25
def zn16_21 : ZC := ZC.seq zn16_22 zn16_23
def zn16_20 : ZC := ZC.loop zn16_21
def zn16_19 : ZC := ZC.block 0 zn16_20
def zn16_17 : ZC := ZC.seq zn16_18 zn16_19
def zn16_49 : ZC := ZC.reg [zu 101 (zcf 59 [] []), zv 8 (zas 101)]
def zn16_48 : ZC := ZC.seq zn16_49 ZC.ret
def zn16_16 : ZC := ZC.seq zn16_17 zn16_48
def zn16_14 : ZC := ZC.seq zn16_15 zn16_16
def zn16_12 : ZC := ZC.seq zn16_13 zn16_14
def zn16_10 : ZC := ZC.seq zn16_11 zn16_12
def zn16_8 : ZC := ZC.seq zn16_9 zn16_10
def zn16_6 : ZC := ZC.seq zn16_7 zn16_8
def zn16_4 : ZC := ZC.seq zn16_5 zn16_6
def zn16_2 : ZC := ZC.seq zn16_3 zn16_4
def zn16_0 : ZC := ZC.seq zn16_1 zn16_2
def zc16 : ZC := zn16_0
theorem zc16_ok : zcode (xfOf Try.f16).code = some zc16 := by kernel_rfl
set_option linter.defProp false in
def zw16 := And.intro (zunf C zc16.eq_1) <| And.intro (zunf C zn16_1.eq_1) <| And.intro (zunf C zn16_3.eq_1) <| And.intro (zunf C zn16_5.eq_1) <| And.intro (zunf C zn16_7.eq_1) <| And.intro (zunf C zn16_9.eq_1) <| And.intro (zunf C zn16_11.eq_1) <| And.intro (zunf C zn16_13.eq_1) <| And.intro (zunf C zn16_15.eq_1) <| And.intro (zunf C zn16_18.eq_1) <| And.intro (zunf C zn16_22.eq_1) <| And.intro (zunf C zn16_24.eq_1) <| And.intro (zunf C zn16_28.eq_1) <| And.intro (zunf C zn16_30.eq_1) <| And.intro (zunf C zn16_32.eq_1) <| And.intro (zunf C zn16_35.eq_1) <| And.intro (zunf C zn16_38.eq_1) <| And.intro (zunf C zn16_39.eq_1) <| And.intro (zunf C zn16_37.eq_1) <| And.intro (zunf C zn16_36.eq_1) <| And.intro (zunf C zn16_34.eq_1) <| And.intro (zunf C zn16_41.eq_1) <| And.intro (zunf C zn16_43.eq_1) <| And.intro (zunf C zn16_46.eq_1) <| And.intro (zunf C zn16_45.eq_1) <| And.intro (zunf C zn16_44.eq_1) <| And.intro (zunf C zn16_42.eq_1) <| And.intro (zunf C zn16_40.eq_1) <| And.intro (zunf C zn16_33.eq_1) <| And.intro (zunf C zn16_31.eq_1) <| And.intro (zunf C zn16_29.eq_1) <| And.intro (zunf C zn16_27.eq_1) <| And.intro (zunf C zn16_26.eq_1) <| And.intro (zunf C zn16_47.eq_1) <| And.intro (zunf C zn16_25.eq_1) <| And.intro (zunf C zn16_23.eq_1) <| And.intro (zunf C zn16_21.eq_1) <| And.intro (zunf C zn16_19.eq_1) <| And.intro (zunf C zn16_17.eq_1) <| And.intro (zunf C zn16_49.eq_1) <| And.intro (zunf C zn16_48.eq_1) <| And.intro (zunf C zn16_16.eq_1) <| And.intro (zunf C zn16_14.eq_1) <| And.intro (zunf C zn16_12.eq_1) <| And.intro (zunf C zn16_10.eq_1) <| And.intro (zunf C zn16_8.eq_1) <| And.intro (zunf C zn16_6.eq_1) <| And.intro (zunf C zn16_4.eq_1) <| And.intro (zunf C zn16_2.eq_1) <| (zunf C zn16_0.eq_1)
theorem rs16 : (xfOf Try.f16).rs = [.tmp 8] := by kernel_rfl
theorem xf16 : XFok C 16 (xfOf Try.f16) := by refine ⟨Try.f16, ?_, ?_, ?_, ?_, ?_, ?_, ?_⟩ <;> kernel_rfl
end Go.Proofs.Ytpchcfkebljopaa
end
section
namespace Go.Proofs.Ytpchcfkebljopaa
open Go.Cl Go Go.RowKit
theorem nth_rep {α : Type} [Inhabited α] {n j : Nat} (x : α) (h : j < n) : nth (List.replicate n x) j = x := by
  unfold nth; rw [List.getElem?_replicate, if_pos h]; rfl
theorem born_facts {P o : Int} (hP : 1 ≤ P ∧ P ≤ 8) (ho : 0 ≤ o ∧ o < P) : (bodyBorn o P).Kind = 1 ∧ (bodyBorn o P).Owner = o ∧ (0 ≤ (bodyBorn o P).X ∧ (bodyBorn o P).X ≤ 4095) := by
  have h1 : brought P 1 8 = P := by unfold brought; omega
  have h2 : brought o 0 (P - 1) = o := by unfold brought; omega
  have hx : (bodyBorn o P).X = w64 (((2 * o + 1) * 4096).tdiv (2 * P)) := by simp only [bodyBorn, h1, h2]
  refine ⟨rfl, by simp only [bodyBorn, h1, h2], ?_⟩
  rw [hx, Int.tdiv_eq_ediv_of_nonneg (by omega)]
  have hb : 0 ≤ ((2 * o + 1) * 4096) / (2 * P) ∧ ((2 * o + 1) * 4096) / (2 * P) ≤ 4095 := by
    have : P = 1 ∨ P = 2 ∨ P = 3 ∨ P = 4 ∨ P = 5 ∨ P = 6 ∨ P = 7 ∨ P = 8 := by omega
    rcases this with h | h | h | h | h | h | h | h <;> subst h <;> omega
  rw [show w64 (((2 * o + 1) * 4096) / (2 * P)) = ((2 * o + 1) * 4096) / (2 * P) from Q1t (by omega) (by omega)]
  exact hb
theorem Q1f {P : Int} (hP : 1 ≤ P ∧ P ≤ 8) {v : Q0a} (ho : 0 ≤ v.Owner ∧ v.Owner < P) (hf : 0 ≤ v.Faults ∧ v.Faults ≤ 65535) : Body.right (again P v) = true ∧ (again P v).Kind = 1 ∧ (again P v).Owner = v.Owner := by
  obtain ⟨b1, b2, b3⟩ := born_facts hP ho
  refine ⟨(K0i (by show (bodyBorn v.Owner P).Kind ≠ 0; omega)).2 ⟨?_, .inl b1, by show 0 ≤ (bodyBorn v.Owner P).Owner ∧ (bodyBorn v.Owner P).Owner ≤ 7; omega, b3, by simp [again, bodyBorn], by simp [again, bodyBorn, Q0a.zero], by simp [again, bodyBorn, Q0a.zero], by simp [again, bodyBorn, Q0a.zero], hf⟩, b1, b2⟩
  intro n hn
  have : n = 0 := by simpa [again, bodyBorn, Q0a.zero] using hn
  omega
structure GameOk (P : Int) (s : X0a) : Prop where
  placed : Placed P s.Bodies
  score : ∀ j, j < 8 → scoreAt P j (nth s.Score j) = true
theorem Z1m {P : Int} {l : List Q0a} (h : Placed P l) (hl : l.length = 16) {k : Nat} {x : Q0a} (hx : k < 16 → rightAt P k x = true) : Placed P (l.set k x) := by
  intro j hj
  by_cases e : j = k
  · subst e; rw [Y0i (by omega)]; exact hx hj
  · rw [Q0j e]; exact h j hj
structure HitTurns (P : Int) (s t : X0a) : Prop where
  ok : GameOk P t
  score : ∀ j, j < 8 → nth s.Score j ≤ nth t.Score j
  faults : ∀ j : Nat, (j : Int) < P → (nth t.Bodies j).Faults = (nth s.Bodies j).Faults
theorem Q1p {P : Int} (hP : 1 ≤ P ∧ P ≤ 8) {s : X0a} (h : GameOk P s) {k : Nat} (hk : k < 16) : HitTurns P s (hitStep P s k) := by
  have same : HitTurns P s s := ⟨h, fun _ _ => Int.le_refl _, fun _ _ => rfl⟩
  have hb := s.hBodies
  have hsc := s.hScore
  unfold hitStep
  simp only
  split
  · exact same
  · rename_i hK
    have hK : (nth s.Bodies k).Kind = 2 := by simpa using hK
    split
    · exact same
    · rename_i hneg
      rcases Z08 s.Bodies (nth s.Bodies k) with ha | ⟨i, hi, ha, hi1, _⟩
      · rw [ha] at hneg; omega
      · have hik : i ≠ k := by intro e; subst e; omega
        rw [ha]
        simp only [Int.toNat_natCast]
        have hpk := h.placed k hk
        have hrk := X0j (X0i hpk) (by omega)
        unfold rightAt at hpk
        simp only [Bool.and_eq_true] at hpk
        have hpk2 := hpk.2
        have hkP : ¬ (k : Int) < P := by
          intro hlt; rw [if_pos hlt] at hpk2; simp only [Bool.and_eq_true, decide_eq_true_eq] at hpk2; omega
        rw [if_neg hkP] at hpk2
        simp only [Bool.or_eq_true, Bool.and_eq_true, decide_eq_true_eq] at hpk2
        have hoP : (nth s.Bodies k).Owner < P := by omega
        have hpi := h.placed i (by omega)
        have hri := X0j (X0i hpi) (by omega)
        unfold rightAt at hpi
        simp only [Bool.and_eq_true] at hpi
        have hpi2 := hpi.2
        have hiP : (i : Int) < P := by
          apply Classical.byContradiction; intro hlt; rw [if_neg hlt] at hpi2; simp only [Bool.or_eq_true, Bool.and_eq_true, decide_eq_true_eq] at hpi2; omega
        rw [if_pos hiP] at hpi2
        simp only [Bool.and_eq_true, decide_eq_true_eq] at hpi2
        have hvi : nth ((s.put_3k (nth s.Bodies k).Owner.toNat (min (nth s.Score (nth s.Bodies k).Owner.toNat + 1) 2147483647)).put_2k k Q0a.zero).Bodies i = nth s.Bodies i := by
          show nth (s.Bodies.set k Q0a.zero) i = _
          exact Q0j hik
        rw [hvi]
        have hag := Q1f hP (v := nth s.Bodies i) (by omega) hri.2.2.2.2.2.2.1
        have hso := h.score (nth s.Bodies k).Owner.toNat (by omega)
        have hsr := X09 hso
        refine ⟨⟨?_, ?_⟩, ?_, ?_⟩
        · show Placed P ((s.Bodies.set k Q0a.zero).set i (again P (nth s.Bodies i)))
          refine Z1m (Z1m h.placed hb fun _ => ?_) (by rw [List.length_set]; exact hb) fun _ => ?_
          · unfold rightAt; rw [if_neg hkP, Y0x]; rfl
          · unfold rightAt; rw [if_pos hiP, hag.1, hag.2.1, hag.2.2, hpi2.2]; simp
        · intro j hj
          show scoreAt P j (nth (s.Score.set _ _) j) = true
          by_cases e : j = (nth s.Bodies k).Owner.toNat
          · subst e
            rw [Y0i (by omega)]
            have hjP : ¬ P ≤ ((nth s.Bodies k).Owner.toNat : Int) := by omega
            simp only [scoreAt, within, hjP, decide_false, Bool.false_and, Bool.not_false, Bool.and_true, Bool.and_eq_true, decide_eq_true_eq]
            omega
          · rw [Q0j e]; exact h.score j hj
        · intro j hj
          show _ ≤ nth (s.Score.set _ _) j
          by_cases e : j = (nth s.Bodies k).Owner.toNat
          · subst e; rw [Y0i (by omega)]; omega
          · rw [Q0j e]; exact Int.le_refl _
        · intro j hj
          show (nth ((s.Bodies.set k Q0a.zero).set i (again P (nth s.Bodies i))) j).Faults = _
          by_cases e : j = i
          · subst e; rw [Y0i (by rw [List.length_set]; omega)]; rfl
          · rw [Q0j e, Q0j (by intro e2; subst e2; exact hkP hj)]
theorem K1f {P : Int} (hP : 1 ≤ P ∧ P ≤ 8) {s : X0a} (h : GameOk P s) : ∀ k, k ≤ 16 → HitTurns P s (hitsS P s k)
  | 0, _ => ⟨h, fun _ _ => Int.le_refl _, fun _ _ => rfl⟩
  | k + 1, hk => by
    have ih := K1f hP h k (by omega)
    have st := Q1p hP ih.ok (k := k) (by omega)
    exact ⟨st.ok, fun j hj => Int.le_trans (ih.score j hj) (st.score j hj), fun j hj => by rw [← ih.faults j hj]; exact st.faults j hj⟩
theorem right_of {c : K0a} {s : X0a} (h : GameOk c.Players s) (hl : legalC c = true) (hf : 0 ≤ s.Frame ∧ s.Frame ≤ 600) : stateRight c s = true := by
  simp only [stateRight, Bool.and_eq_true]
  refine ⟨⟨⟨(Y0r _ _ _).2 fun j hj => ?_, (Y0r _ _ _).2 fun j hj => ?_⟩, hl⟩, by simp [within, hf.1, hf.2]⟩
  · rw [Nat.zero_add]; exact h.placed j (by rw [← s.hBodies]; exact hj)
  · rw [Nat.zero_add]; exact h.score j (by rw [← s.hScore]; exact hj)
theorem sets_game {c : K0a} {s : X0a} (h : stateRight c s = true) (row : List V0b) : GameOk c.Players (setsS (turnsS c.Rules.l row s 16) 16).1 := by
  have ht := V1b c.Rules.l row (V0j h).1 16 (Nat.le_refl _)
  have hs := X1t (st := turnsS c.Rules.l row s 16) ⟨ht.placed, ht.shots⟩ 16 (Nat.le_refl _)
  exact ⟨hs.placed, fun j hj => by rw [(Q0r _ 16).1, (X0n _ _ _ 16).1]; exact (V0j h).2.1 j hj⟩
theorem stepS_eq {c : K0a} {s : X0a} (h : stateRight c s = true) (row : List V0b) : stepS c row s = { hitsS c.Players (setsS (turnsS c.Rules.l row s 16) 16).1 16 with Frame := min (s.Frame + 1) 600 } := by
  unfold stepS
  rw [h]
  simp only [Bool.true_eq_false, if_false]
  have hf : (hitsS c.Players (setsS (turnsS c.Rules.l row s 16) 16).1 16).Frame = s.Frame := by
    rw [K03, (Q0r _ 16).2.1, (X0n _ _ _ 16).2]
  rw [hf]
theorem Y09 {c : K0a} {s : X0a} (h : stateRight c s = true) (row : List V0b) : stateRight c (stepS c row s) = true ∧ (stepS c row s).Frame = min (s.Frame + 1) 600 := by
  have hl := (V0j h).2.2.1
  have hf := (V0j h).2.2.2
  have hh := K1f (Z0j hl).1 (sets_game h row) 16 (Nat.le_refl _)
  rw [stepS_eq h row]
  generalize hitsS c.Players (setsS (turnsS c.Rules.l row s 16) 16).1 16 = t at hh ⊢
  refine ⟨right_of ⟨hh.ok.placed, hh.ok.score⟩ hl ?_, by simp only⟩
  show 0 ≤ min (s.Frame + 1) 600 ∧ min (s.Frame + 1) 600 ≤ 600
  omega
theorem Z07 (c : K0a) : ∀ k, k ≤ 16 → ∀ j, j < 16 → nth (firstK c k).Bodies j = if j < k then bodyBorn j c.Players else Q0a.zero
  | 0, _, j, hj => by
    rw [if_neg (by omega)]
    exact nth_rep Q0a.zero hj
  | k + 1, hk, j, hj => by
    have ih := Z07 c k (by omega) j hj
    show nth ((firstK c k).Bodies.set k (bodyBorn k c.Players)) j = _
    by_cases e : j = k
    · subst e; rw [Y0i (by rw [(firstK c j).hBodies]; omega), if_pos (by omega)]
    · rw [Q0j e, ih]
      by_cases hlt : j < k
      · rw [if_pos hlt, if_pos (by omega)]
      · rw [if_neg hlt, if_neg (by omega)]
theorem V0v (c : K0a) : ∀ k, (firstK c k).Score = List.replicate 8 0 ∧ (firstK c k).Frame = 0
  | 0 => ⟨rfl, rfl⟩
  | k + 1 => V0v c k
theorem firstS_right {c : K0a} (h : legalC c = true) : stateRight c (firstS c) = true ∧ (firstS c).Frame = 0 := by
  have hP := (Z0j h).1
  have he : firstS c = firstK c c.Players.toNat := by simp [firstS, h]
  rw [he]
  have hs := V0v c c.Players.toNat
  refine ⟨right_of ⟨fun j hj => ?_, fun j hj => ?_⟩ h (by rw [hs.2]; omega), hs.2⟩
  · rw [Z07 c _ (by omega) j hj]
    unfold rightAt
    by_cases hlt : j < c.Players.toNat
    · have hjP : (j : Int) < c.Players := by omega
      rw [if_pos hlt, if_pos hjP]
      obtain ⟨b1, b2, b3⟩ := born_facts hP (o := (j : Int)) (by omega)
      have hr : Body.right (bodyBorn j c.Players) = true := by
        have := Q1f hP (v := { Q0a.zero with Owner := (j : Int) }) ⟨by simp only; omega, hjP⟩ (by simp [Q0a.zero])
        exact this.1
      simp [hr, b1, b2]
    · have hjP : ¬ (j : Int) < c.Players := by omega
      rw [if_neg hlt, if_neg hjP, Y0x]; rfl
  · rw [hs.1]
    have : nth (List.replicate 8 (0 : Int)) j = 0 := nth_rep 0 hj
    rw [this]
    simp [scoreAt, within]
theorem K0r {n lo hi : Int} (h : lo ≤ n ∧ n ≤ hi) : within n lo hi = true := by simp [within, h.1, h.2]
theorem tokGo_map (f : Nat → Int) (hf : ∀ i j, f i = f j → i = j) (hw : ∀ i, i < 9 → within (f i) 0 2147483646 = true) : ∀ (m k : Nat), k + m ≤ 9 → tokGo ((List.range k).map f) ((List.range' k m).map f) = true
  | 0, k, _ => rfl
  | m + 1, k, h => by
    simp only [List.range'_succ, List.map_cons, tokGo, Bool.and_eq_true]
    refine ⟨⟨hw k (by omega), ?_⟩, ?_⟩
    · simp only [Bool.not_eq_true', List.contains_eq_mem, decide_eq_false_iff_not, List.mem_map, List.mem_range, not_exists, not_and]
      intro i hi e
      have := hf _ _ e
      omega
    · have := tokGo_map f hf hw m (k + 1) (by omega)
      rwa [List.range_succ, List.map_append] at this
theorem Z1l (players : Int) (l : List (Lst Int)) : (rowsOf players l).length ≤ 40 := by simp [rowsOf]; omega
theorem move_faults {b : Q0a} (h : Body.right b = true) (hk : b.Kind = 1) : (bodyMove b).1.Faults = b.Faults := by
  unfold bodyMove
  rw [if_pos ⟨h, by omega⟩, if_pos hk]
theorem placed_kind {P : Int} {l : List Q0a} (h : Placed P l) {j : Nat} (hj : (j : Int) < P) (hP : P ≤ 8) : (nth l j).Kind = 1 := by
  have := h j (by omega)
  unfold rightAt at this
  simp only [Bool.and_eq_true] at this
  have h2 := this.2
  rw [if_pos hj] at h2
  simp only [Bool.and_eq_true, decide_eq_true_eq] at h2
  exact h2.1
end Go.Proofs.Ytpchcfkebljopaa
end
section
namespace Go.Proofs.Ytpchcfkebljopaa
open Go.Cl Go Go.RowKit
set_option linter.constructorNameAsVariable false
theorem setsS_nil (s : X0a) : ∀ k, setsS (s, []) k = (s, [])
  | 0 => rfl
  | k + 1 => by
    show setStep (setsS (s, []) k) k = _
    rw [setsS_nil s k]; rfl
theorem Y1l (P : Int) (s : X0a) (h : ∀ j, j < 16 → (nth s.Bodies j).Kind ≠ 2) : ∀ k, k ≤ 16 → hitsS P s k = s
  | 0, _ => rfl
  | k + 1, hk => by
    show hitStep P (hitsS P s k) k = _
    rw [Y1l P s h k (by omega)]
    unfold hitStep
    simp only
    rw [if_pos (h k (by omega))]
theorem V1c (rules : List X0c) (row : List V0b) (s : X0a) (g : Nat → Q0a)
    (hq : ∀ j, j < 16 → ∀ room : Int, 0 ≤ room → bodyTurn rules row s.Dice room (nth s.Bodies j) = ⟨s.Dice, [], g j⟩) : ∀ k, k ≤ 16 →
      (turnsS rules row s k).2 = [] ∧ (turnsS rules row s k).1.Dice = s.Dice ∧ ∀ j, j < 16 → nth (turnsS rules row s k).1.Bodies j = if j < k then (bodyMove (g j)).1 else nth s.Bodies j
  | 0, _ => ⟨rfl, rfl, fun j _ => by rw [if_neg (by omega)]; rfl⟩
  | k + 1, hk => by
    obtain ⟨h1, h2, h3⟩ := V1c rules row s g hq k (by omega)
    have hb := (turnsS rules row s k).1.hBodies
    have hkq := hq k (by omega) ((freeN (turnsS rules row s k).1.Bodies : Int) - (turnsS rules row s k).2.length) (by rw [h1]; simp)
    have e : turnsS rules row s (k + 1) = (({ (turnsS rules row s k).1 with Dice := s.Dice } : X0a).put_2k k (bodyMove (g k)).1, []) := by
      show turnStep rules row s.Bodies (turnsS rules row s k) k = _
      simp only [turnStep, h2, hkq]
      rw [h1]; rfl
    rw [e]
    refine ⟨rfl, rfl, fun j hj => ?_⟩
    show nth ((turnsS rules row s k).1.Bodies.set k _) j = _
    by_cases ej : j = k
    · subst ej; rw [Y0i (by omega), if_pos (by omega)]
    · rw [Q0j ej, h3 j hj]
      by_cases hjk : j < k
      · rw [if_pos hjk, if_pos (by omega)]
      · rw [if_neg hjk, if_neg (by omega)]
theorem quiet_step {c : K0a} {s : X0a} (h : stateRight c s = true) (row : List V0b) (g : Nat → Q0a)
    (hq : ∀ j, j < 16 → ∀ room : Int, 0 ≤ room → bodyTurn c.Rules.l row s.Dice room (nth s.Bodies j) = ⟨s.Dice, [], g j⟩)
    (hk : ∀ j, j < 16 → (bodyMove (g j)).1.Kind ≠ 2) :
    (stepS c row s).Dice = s.Dice ∧ (stepS c row s).Score = s.Score ∧ ∀ j, j < 16 → nth (stepS c row s).Bodies j = (bodyMove (g j)).1 := by
  obtain ⟨h1, h2, h3⟩ := V1c c.Rules.l row s g hq 16 (Nat.le_refl _)
  have hsc := (X0n c.Rules.l row s 16).1
  rw [stepS_eq h]
  generalize turnsS c.Rules.l row s 16 = T at h1 h2 h3 hsc
  obtain ⟨S, l⟩ := T
  simp only at h1 h2 h3 hsc
  subst h1
  rw [setsS_nil]
  simp only
  rw [Y1l c.Players S (fun j hj => by rw [h3 j hj, if_pos hj]; exact hk j hj) 16 (Nat.le_refl _)]
  exact ⟨h2, hsc, fun j hj => by show nth S.Bodies j = _; rw [h3 j hj, if_pos hj]⟩
theorem run_ok {k : Nat} {m m' : Y0a} {n : Int} (h : m.at_ < m.l_.l.length) (hd : Mach.doOp m (nth m.l_.l m.at_.toNat) = .ok (m', n)) : Mach.run (k + 1) m = Mach.run k { m' with at_ := n } := by
  conv => lhs; unfold Mach.run
  rw [if_pos h]; simp only [hd]
theorem one_legal {P : Int} (hP : 1 ≤ P ∧ P ≤ 8) (rules : Lst X0c) (hr : ruleRight rules.l = true) {seed : Int} (hs : 0 ≤ seed ∧ seed ≤ 2147483647) : legalC { oneC P rules with Seed := seed } = true := by
  have ht : tokGo [] (oneTok P.toNat) = true := by
    have := tokGo_map Int.ofNat (fun i j h => Int.ofNat.inj h) (fun i hi => K0r (by simp only [Int.ofNat_eq_natCast]; omega)) P.toNat 0 (by omega)
    simpa [oneTok, List.range_eq_range'] using this
  have hb : bucketOk 4607182418800017408 4617315517961601024 = true := by kernel_rfl
  have hlen : decide (((oneTok P.toNat).length : Int) = P) = true := by rw [Y1i]; simp; omega
  simp only [legalC, oneC, oneWith, Bool.and_eq_true, partL_l]
  exact ⟨⟨⟨⟨⟨K0r hP, ⟨⟨⟨K0r (by omega), K0r (by omega)⟩, K0r (by omega)⟩, K0r (by omega)⟩⟩, K0r (by omega)⟩, hb⟩, hr⟩, ht, hlen⟩
theorem Q08 (c : K0a) : ∀ k, (firstK c k).Dice = seedOf c.Seed
  | 0 => rfl
  | k + 1 => Q08 c k
def faultB (P : Int) (j k : Nat) : Q0a := if (j : Int) < P then { bodyBorn j P with Age := k, Faults := k } else Q0a.zero
structure StF (c : K0a) (k : Nat) (s : X0a) : Prop where
  right : stateRight c s = true
  frame : s.Frame = k
  dice : s.Dice = seedOf c.Seed
  score : s.Score = List.replicate 8 0
  bodies : ∀ j, j < 16 → nth s.Bodies j = faultB c.Players j k
theorem fault_first {c : K0a} (h : legalC c = true) : StF c 0 (firstS c) := by
  have hr := firstS_right h
  have hP := (Z0j h).1
  have e : firstS c = firstK c c.Players.toNat := by unfold firstS; rw [if_pos h]
  refine ⟨hr.1, hr.2, ?_, ?_, fun j hj => ?_⟩
  · rw [e, Q08]
  · rw [e]; exact (V0v c _).1
  · rw [e, Z07 c _ (by omega) j hj]
    unfold faultB
    by_cases hjP : (j : Int) < c.Players
    · rw [if_pos (by omega), if_pos hjP]; rfl
    · rw [if_neg (by omega), if_neg hjP]
theorem legal_len {c : K0a} (h : legalC c = true) : c.Tokens.l.length ≤ 1000000 ∧ c.Rules.l.length ≤ 1000000 := by
  have hP := Z0j h
  simp only [legalC, Bool.and_eq_true, decide_eq_true_eq] at h
  have := h.2.2
  omega
def stickL : List X0c := [⟨7, 0, 5⟩, ⟨3, 1, 0⟩, ⟨8, 3, 1⟩]
def stickB (b : Q0a) (n : Int) : Q0a :=
  let b1 := b.put_7k 0 (brought n (-1000000) 1000000)
  let b2 := b1.put_7k 1 (brought (w64 (nth b1.Mem 1 + nth b1.Mem 0)) (-1000000) 1000000)
  { b2 with VY := brought (nth b2.Mem 1) (-64) 64 }
theorem stick_run (E : Z0b) : Mach.run 64 ⟨E, ⟨.view, stickL, nofun⟩, 0⟩ = .ok ⟨{ E with Body := stickB E.Body E.In.Buttons }, ⟨.view, stickL, nofun⟩, 3⟩ := by
  generalize hL : (⟨.view, stickL, nofun⟩ : Lst X0c) = L
  have hl : L.l = [⟨7, 0, 5⟩, ⟨3, 1, 0⟩, ⟨8, 3, 1⟩] := by rw [← hL]; rfl
  rw [run_ok (m' := Mach.set ⟨E, L, 0⟩ 0 E.In.Buttons) (n := 1) (by simp [hl]) (by rw [hl]; show Mach.doOp _ ⟨7, 0, 5⟩ = _; simp [Mach.doOp, namedOk, needA, needB, within, Mach.field, nth])]
  generalize hm1 : ({ Mach.set ⟨E, L, 0⟩ 0 E.In.Buttons with at_ := 1 } : Y0a) = m1
  have h1l : m1.l_ = L := by rw [← hm1]; rfl
  have h1a : m1.at_ = 1 := by rw [← hm1]
  rw [run_ok (m' := Mach.set m1 1 (w64 (Mach.reg m1 1 + Mach.reg m1 0))) (n := 2) (by simp [h1l, h1a, hl]) (by rw [h1l, h1a, hl]; show Mach.doOp _ ⟨3, 1, 0⟩ = _; simp [Mach.doOp, namedOk, needA, needB, within, Mach.reckon, h1a])]
  generalize hm2 : ({ Mach.set m1 1 (w64 (Mach.reg m1 1 + Mach.reg m1 0)) with at_ := 2 } : Y0a) = m2
  have h2l : m2.l_ = L := by rw [← hm2]; exact h1l
  have h2a : m2.at_ = 2 := by rw [← hm2]
  rw [run_ok (m' := Mach.put m2 3 (Mach.reg m2 1)) (n := 3) (by simp [h2l, h2a, hl]) (by rw [h2l, h2a, hl]; show Mach.doOp _ ⟨8, 3, 1⟩ = _; simp [Mach.doOp, namedOk, needA, needB, within, h2a])]
  rw [run_end _ (by show ¬ ((3 : Int) < (Mach.put m2 3 (Mach.reg m2 1)).l_.l.length); have : (Mach.put m2 3 (Mach.reg m2 1)).l_ = L := h2l; rw [this, hl]; simp)]
  rw [← hm2, ← hm1]
  rfl
theorem X1l {row : List V0b} {dice room : Int} {b : Q0a} (hk : b.Kind = 1) (hr : Body.right b = true) :
    playerTurn stickL row dice room b = ⟨dice, [], stickB (bodyPush b ((rowInput row b.Owner).X.tdiv 16) ((rowInput row b.Owner).Y.tdiv 16)) (rowInput row b.Owner).Buttons⟩ := by
  have hp := Q1k hr (by omega) ((rowInput row b.Owner).X.tdiv 16) ((rowInput row b.Owner).Y.tdiv 16)
  have hrun : runL stickL (playerEnv row dice room b) = ({ copiedE (playerEnv row dice room b) with Body := stickB (playerEnv row dice room b).Body (playerEnv row dice room b).In.Buttons }, ⟨0, 0⟩, true) := by
    unfold runL ruleRun
    rw [if_neg (by rintro (h | h); · have := hp.1; rw [show (playerEnv row dice room b).Body = bodyPush b _ _ from rfl] at h; rw [this] at h; cases h
                   · rw [show (playerEnv row dice room b).Body = bodyPush b _ _ from rfl, hp.2.1] at h; omega)]
    rw [stick_run]
    rfl
  unfold playerTurn
  rw [hrun]
  simp only [if_true]
  congr 1
theorem Z1q (b : Q0a) (n : Int) : (stickB b n).Faults = b.Faults := rfl
structure PairS (c : K0a) (p : Nat) (s t : X0a) : Prop where
  rs : stateRight c s = true
  rt : stateRight c t = true
  ks : ∀ j, j < 16 → (nth s.Bodies j).Kind ≠ 2
  kt : ∀ j, j < 16 → (nth t.Bodies j).Kind ≠ 2
  dice : s.Dice = t.Dice
  body : nth s.Bodies p = nth t.Bodies p
  faults : (nth s.Bodies p).Faults = 0
theorem Z1i {c : K0a} (hL : c.Rules.l = stickL) {s : X0a} (h : stateRight c s = true) (hk : ∀ j, j < 16 → (nth s.Bodies j).Kind ≠ 2) (row : List V0b) :
    (stepS c row s).Dice = s.Dice ∧ (∀ j, j < 16 → (nth (stepS c row s).Bodies j).Kind ≠ 2) ∧
    ∀ j : Nat, (j : Int) < c.Players → nth (stepS c row s).Bodies j = (bodyMove (stickB (bodyPush (nth s.Bodies j) ((rowInput row j).X.tdiv 16) ((rowInput row j).Y.tdiv 16)) (rowInput row j).Buttons)).1 ∧ (nth (stepS c row s).Bodies j).Faults = (nth s.Bodies j).Faults := by
  have hpl := (V0j h).1
  have hP := (Z0j (V0j h).2.2.1).1
  have hturn : ∀ j : Nat, j < 16 → ∀ room : Int, 0 ≤ room → bodyTurn c.Rules.l row s.Dice room (nth s.Bodies j) = ⟨s.Dice, [], if (nth s.Bodies j).Kind = 1 then stickB (bodyPush (nth s.Bodies j) ((rowInput row (nth s.Bodies j).Owner).X.tdiv 16) ((rowInput row (nth s.Bodies j).Owner).Y.tdiv 16)) (rowInput row (nth s.Bodies j).Owner).Buttons else nth s.Bodies j⟩ := by
    intro j hj room hro
    unfold bodyTurn
    by_cases hk1 : (nth s.Bodies j).Kind = 1
    · rw [if_pos hk1, if_pos hk1, hL]; exact X1l hk1 (X0i (hpl j hj))
    · rw [if_neg hk1, if_neg hk1]
  have hright : ∀ j : Nat, j < 16 → (nth s.Bodies j).Kind = 1 → Body.right (stickB (bodyPush (nth s.Bodies j) ((rowInput row (nth s.Bodies j).Owner).X.tdiv 16) ((rowInput row (nth s.Bodies j).Owner).Y.tdiv 16)) (rowInput row (nth s.Bodies j).Owner).Buttons) = true ∧ (stickB (bodyPush (nth s.Bodies j) ((rowInput row (nth s.Bodies j).Owner).X.tdiv 16) ((rowInput row (nth s.Bodies j).Owner).Y.tdiv 16)) (rowInput row (nth s.Bodies j).Owner).Buttons).Kind = 1 := by
    intro j hj hk1
    have ht := Y0u stickL row s.Dice 0 (X0i (hpl j hj)) hk1 (Int.le_refl _)
    rw [X1l hk1 (X0i (hpl j hj))] at ht
    exact ⟨ht.1, ht.2.1⟩
  have hkind : ∀ j : Nat, j < 16 → (bodyMove (if (nth s.Bodies j).Kind = 1 then stickB (bodyPush (nth s.Bodies j) ((rowInput row (nth s.Bodies j).Owner).X.tdiv 16) ((rowInput row (nth s.Bodies j).Owner).Y.tdiv 16)) (rowInput row (nth s.Bodies j).Owner).Buttons else nth s.Bodies j)).1.Kind ≠ 2 := by
    intro j hj
    by_cases hk1 : (nth s.Bodies j).Kind = 1
    · rw [if_pos hk1]
      have hr := hright j hj hk1
      rcases (X0x hr.1).2 with ⟨_, h2⟩ | ⟨h1, _⟩
      · exact absurd hr.2 h2
      · rw [h1, hr.2]; omega
    · rw [if_neg hk1]
      rcases (X0x (X0i (hpl j hj))).2 with ⟨h1, _⟩ | ⟨h1, _⟩
      · rw [h1]; simp [Q0a.zero]
      · rw [h1]; exact hk j hj
  have hq := quiet_step h row _ hturn hkind
  refine ⟨hq.1, fun j hj => by rw [hq.2.2 j hj]; exact hkind j hj, fun j hjP => ?_⟩
  have hj : j < 16 := by omega
  have hk1 := placed_kind hpl hjP hP.2
  have ho : (nth s.Bodies j).Owner = j := by
    have := hpl j hj
    unfold rightAt at this
    simp only [Bool.and_eq_true] at this
    have h2 := this.2
    rw [if_pos hjP] at h2
    simp only [Bool.and_eq_true, decide_eq_true_eq] at h2
    exact h2.2
  have e := hq.2.2 j hj
  have hr := hright j hj hk1
  simp only [if_pos hk1] at e
  refine ⟨by rw [e, ho], ?_⟩
  rw [e, move_faults hr.1 hr.2, Z1q]
  show (bodyPush _ _ _).Faults = _
  unfold bodyPush
  rw [if_pos ⟨X0i (hpl j hj), by omega⟩]
theorem pair_step {c : K0a} (hL : c.Rules.l = stickL) {p : Nat} (hp : (p : Int) < c.Players) {s t : X0a} (h : PairS c p s t) {row row' : List V0b} (hrow : rowInput row p = rowInput row' p) :
    PairS c p (stepS c row s) (stepS c row' t) := by
  have h1 := Z1i hL h.rs h.ks row
  have h2 := Z1i hL h.rt h.kt row'
  refine ⟨(Y09 h.rs row).1, (Y09 h.rt row').1, h1.2.1, h2.2.1, by rw [h1.1, h2.1, h.dice], ?_, ?_⟩
  · rw [(h1.2.2 p hp).1, (h2.2.2 p hp).1, h.body, hrow]
  · rw [(h1.2.2 p hp).2]; exact h.faults
theorem pair_first {c : K0a} (h : legalC c = true) {p : Nat} (hp : (p : Int) < c.Players) : PairS c p (firstS c) (firstS c) := by
  have hf := fault_first h
  have hP := (Z0j h).1
  have hk : ∀ j, j < 16 → (nth (firstS c).Bodies j).Kind ≠ 2 := fun j hj => by
    rw [hf.bodies j hj]
    unfold faultB
    by_cases hjP : (j : Int) < c.Players
    · rw [if_pos hjP]
      have hbf := born_facts (P := c.Players) (o := j) hP ⟨by omega, hjP⟩
      show (bodyBorn j c.Players).Kind ≠ 2
      omega
    · rw [if_neg hjP]; simp [Q0a.zero]
  refine ⟨hf.right, hf.right, hk, hk, rfl, rfl, ?_⟩
  rw [hf.bodies p (by omega)]
  unfold faultB
  rw [if_pos hp]; rfl
theorem X1o {row row' : List V0b} {p : Nat} (h1 : row.length = row'.length) (h2 : nth row p = nth row' p) : rowInput row p = rowInput row' p := by
  unfold rowInput
  rw [h1]
  simp only [Int.toNat_natCast, h2]
end Go.Proofs.Ytpchcfkebljopaa
end
section
namespace Go.Cl
open Go.RowKit
section
variable (C : Ctx)
theorem VRs_snoc {S : St} {v : CV} : ∀ {a : List CV} {vals : List Value}, VRs S (a ++ [v]) vals → ∃ va x, vals = va ++ [x] ∧ VRs S a va ∧ VR S v x
  | [], vals, h => by
    simp only [List.nil_append, VRs] at h
    obtain ⟨x, xs, rfl, h1, h2⟩ := h
    subst h2
    exact ⟨[], x, rfl, by simp [VRs], h1⟩
  | u :: a, vals, h => by
    simp only [List.cons_append, VRs] at h
    obtain ⟨y, ys, rfl, h1, h2⟩ := h
    obtain ⟨va, x, rfl, h3, h4⟩ := VRs_snoc h2
    exact ⟨y :: va, x, rfl, X0g.2 ⟨h1, h3⟩, h4⟩
theorem VRs_snoc' {S : St} {v : CV} {x : Value} : ∀ {a : List CV} {va : List Value}, VRs S a va → VR S v x → VRs S (a ++ [v]) (va ++ [x])
  | [], va, h, k => by
    simp only [VRs] at h
    subst h
    exact X0g.2 ⟨k, by simp [VRs]⟩
  | u :: a, va, h, k => by
    simp only [VRs] at h
    obtain ⟨y, ys, rfl, h1, h2⟩ := h
    exact X0g.2 ⟨h1, VRs_snoc' h2 k⟩
def RFrz (R : Rel) : Rel := fun args p r => ∃ (a : List CV) (j : Nat) (sh : Shape) (l : List CV) (sz : Nat), args = a ++ [.slc j [] 0 l.length] ∧ p.t.get j = some (.var sh (.agg l)) ∧ (∀ x ∈ l, x.size = sz) ∧ R (a ++ [.lst .part l]) (p.set j none) r
theorem con_frz {f : FuncId} {R : Rel} (h : Con C f R) : Con C f (RFrz R) where
  un := by
    rintro args p r r' ⟨a, j, sh, l, sz, rfl, h2, _, h4⟩ ⟨a', j', sh', l', sz', e, h2', _, h4'⟩
    obtain ⟨rfl, e2⟩ := List.append_inj' e rfl
    simp only [List.cons.injEq, CV.slc.injEq, and_true, true_and] at e2
    obtain ⟨rfl, _⟩ := e2
    rw [h2] at h2'
    simp only [Option.some.injEq, XObj.var.injEq, CV.agg.injEq] at h2'
    obtain ⟨_, rfl⟩ := h2'
    exact h.un _ _ _ _ h4 h4'
  ok := by
    rintro args p r ⟨a, j, sh, l, sz, rfl, hg, hsz, hR⟩
    obtain ⟨hne, hfn, ha⟩ := h.ok _ _ _ hR
    refine ⟨hne, hfn, fun w0 B S w vals r0 hV => ?_⟩
    obtain ⟨va, x, rfl, hVa, hx⟩ := VRs_snoc hV
    obtain ⟨hx1, hx2⟩ := hx
    simp only [FR] at hx1
    obtain ⟨rb, sh', l', o, cap, e1, ⟨tot, hμ, _⟩, e2, e3, e4, e5⟩ := hx1
    have hgh : p.h j = some (.var (.agg l)) := by simp only [Hp.h, hg]; rfl
    obtain ⟨cs, hf, hle, hr, hli⟩ := Go.Cl.R.frz r0.r hgh hμ
    have ho : o = 0 := by simp only [Shape.off, Option.some.injEq] at e3; exact e3.symm
    subst ho
    have hX : XRel w0 B (S.frz rb cs) (p.set j none) w := by
      refine ⟨?_, r0.n, ?_⟩
      · refine hr.drop fun i => ?_
        by_cases hi : i = j
        · left; subst hi; simp only [Hp.h, Hp.get_set_self]; rfl
        · right; rw [K0h _ _ hi]; simp only [Hp.h, Hp.get_set_ne _ _ _ hi]
      · intro i sh0 v0 hi
        by_cases e : i = j
        · subst e; rw [Hp.get_set_self] at hi; cases hi
        · rw [Hp.get_set_ne _ _ _ e] at hi; exact r0.good i sh0 v0 hi
    have hv : VR (S.frz rb cs) (.lst .part l) x := by
      refine ⟨?_, by simpa [CV.isAgg] using hx2⟩
      simp only [FR]
      refine .inr ⟨rb, 0, cap, sz, cs, ?_, e4, ?_, hli, hsz, trivial⟩
      · rw [e1]; simp [Shape.sizes]
      · simp only [FR] at hf
        exact FRs.mono hle _ _ hf
    have hfin := ha w0 B (S.frz rb cs) w (va ++ [x]) hX (VRs_snoc' (VRs.mono hle _ _ hVa) hv)
    have hext : S.ext (S.frz rb cs) := ⟨hle, fun _ _ h => h⟩
    cases r with
    | ret v p' => exact Calls.mono hfin fun en w' ⟨S', y, k1, k2, k3, k4⟩ => ⟨S', y, hext.trans k1, k2, k3, k4⟩
    | pan v p' => exact Calls.mono hfin fun en w' ⟨S', y, k1, k2, k3, k4⟩ => ⟨S', y, hext.trans k1, k2, k3, k4⟩
    | stuck => trivial
theorem con_or {f : FuncId} {R Q : Rel} (h : Con C f R) (k : Con C f Q) (hd : ∀ args p r r', R args p r → Q args p r' → r = r') : Con C f (fun args p r => R args p r ∨ Q args p r) where
  un := by
    rintro args p r r' (h1 | h1) (h2 | h2)
    · exact h.un _ _ _ _ h1 h2
    · exact hd _ _ _ _ h1 h2
    · exact (hd _ _ _ _ h2 h1).symm
    · exact k.un _ _ _ _ h1 h2
  ok := by
    rintro args p r (h1 | h1)
    · exact h.ok _ _ _ h1
    · exact k.ok _ _ _ h1
end
end Go.Cl
end
section
-- @nole
namespace Go.Proofs.Ytpchcfkebljopaa
open Go.Cl Go Go.RowKit
set_option maxRecDepth 100000
set_option linter.constructorNameAsVariable false
def R62x : Rel := fun args p r => R62 args p r ∨ RFrz R62 args p r
theorem c62x : Con C 62 R62x := con_or C c62 (con_frz C c62) (by
  rintro args p r r' ⟨c, s, row, rfl, _⟩ ⟨a, j, sh, l, sz, e, _⟩
  have := congrArg List.getLast? e
  simp [Lst.cv] at this)
theorem t62x {T : XCall} (h : Has T 62 R62x) : (∀ (c : K0a) (s : X0a) (row : Lst V0b) {p : Hp}, c.Tokens.l.length ≤ 1000000 → c.Rules.l.length ≤ 1000000 → T 62 [c.cv, s.cv, row.cv V0b.cv] p = .ret (stepS c row.l s).cv p) ∧
    ∀ (L : List V0b) (_ : L.length = 4) (c : K0a) (s : X0a) (j : Nat) {p : Hp}, c.Tokens.l.length ≤ 1000000 → c.Rules.l.length ≤ 1000000 → p.t.get j = some (.var (.n (List.replicate 4 sh110)) (.agg (L.map V0b.cv))) → T 62 [c.cv, s.cv, .slc j [] 0 4] p = .ret (stepS c L s).cv (p.set j none) := by
  refine ⟨fun c s row p h1 h2 => h _ _ _ (.inl ⟨c, s, row, rfl, h1, h2, rfl⟩), fun L hL c s j p h1 h2 hg => h _ _ _ (.inr ⟨[c.cv, s.cv], j, _, L.map V0b.cv, 4, ?_, hg, fun x hx => ?_, ⟨c, s, ⟨.part, L, nofun⟩, rfl, h1, h2, rfl⟩⟩)⟩
  · rw [List.length_map, hL]; rfl
  · obtain ⟨y, _, rfl⟩ := List.mem_map.1 hx; rfl
def R63x : Rel := RFrz R63
theorem c63x : Con C 63 R63x := con_frz C c63
theorem t63x {T : XCall} (h : Has T 63 R63x) (a b c : X0c) (n : Int) (j : Nat) {p : Hp} (h1 : 1 ≤ n ∧ n ≤ 1000) (hg : p.t.get j = some (.var (.n (List.replicate 3 sh29)) (.agg [a.cv, b.cv, c.cv]))) : T 63 [I n, .slc j [] 0 3] p = .ret (oneC n ⟨.part, [a, b, c], nofun⟩).cv (p.set j none) :=
  h _ _ _ ⟨[I n], j, _, [a.cv, b.cv, c.cv], 3, rfl, hg, fun x hx => by simp only [List.mem_cons, List.not_mem_nil, or_false] at hx; rcases hx with rfl | rfl | rfl <;> rfl, ⟨n, ⟨.part, [a, b, c], nofun⟩, rfl, h1, rfl⟩⟩
theorem bs23 (p : Hp) (a b c : X0c) : xbuildS C p 23 3 [(0, a.cv), (1, b.cv), (2, c.cv)] = .ret (.slc p.n [] 0 3) (p.new (.var (.n (List.replicate 3 sh29)) (.agg [a.cv, b.cv, c.cv]))) := by
  simp only [xbuildS, tt23, ti23, tt29, ti29]; rfl
theorem app108m (p : Hp) (s : Lst V0b) (h4 : s.l.length = 4) : xappend C true p 108 108 (Lst.cv V0b.cv ⟨.exact, [], nofun⟩) (Lst.cv V0b.cv s) = .ret (.slc p.n [] 0 4) (p.new (.var (.n (List.replicate 4 sh110)) (.agg (s.l.map V0b.cv)))) := by
  obtain ⟨tl, l, o⟩ := s
  simp only at h4 ⊢
  rcases l with _ | ⟨a, _ | ⟨b, _ | ⟨c, _ | ⟨d, _ | ⟨e, l⟩⟩⟩⟩⟩ <;> simp at h4
  simp only [xappend, tt108, ti108, tt110, ti110, Lst.cv, cond_true]; rfl
theorem rows4 (l : List (Lst Int)) : ∀ k, k < (rowsOf 4 l).length → (nth (rowsOf 4 l) k).l.length = 4 := by
  intro k hk
  rw [Y0y hk]
  simp only [rowsOf, List.getElem_map, rowL]
  exact rowOf_len 4 _
def J16 (c : K0a) (pl : Int) (R1 R2 : Lst (Lst V0b)) (a9 a10 a11 : Nat) (p : Hp) (n : Nat) (ρ : Env) (q : Hp) : Prop :=
  ∃ (k : Nat) (s t : X0a), n = R1.l.length - k ∧ k ≤ R1.l.length ∧ ρ 3 = I pl ∧ ρ 9 = .ptr a9 [] ∧ ρ 10 = .ptr a10 [] ∧ ρ 11 = .ptr a11 [] ∧ ρ 12 = R1.cv (Lst.cv V0b.cv) ∧ ρ 13 = R2.cv (Lst.cv V0b.cv) ∧ ρ 35 = I R1.l.length ∧ ρ 36 = I k ∧ a9 < q.n ∧ a10 < q.n ∧ a11 < q.n ∧ q.t.get a9 = some (.var sh61 c.cv) ∧ q.t.get a10 = some (.var sh66 s.cv) ∧ q.t.get a11 = some (.var sh66 t.cv) ∧ PairS c pl.toNat s t ∧ HpLe p q
def R16 : Rel := fun args p r => ∃ (x : Int) (l m : Lst (Lst Int)) (z : Int), args = [I x, Lst.cv (Lst.cv I) l, Lst.cv (Lst.cv I) m, I z] ∧ r = .ret (Bo true) p
theorem zq16 {A B : Prop} (h : A = B := by ((try simp -dsimp (disch := first | exact zdis | fail) only [zcore, zall, zopm, zop, zcallOp, qop, qbuiltin, ofOpt, List.map, reduceCtorEq, if_true, if_false, ↓reduceIte, zbin, eqRes, qassert, qnum, qshift, qun, kindOf, allocV, List.nil_append, List.append_nil, List.cons_append, List.length_cons, List.length_nil, Nat.reduceAdd, Nat.reduceEqDiff, Nat.reduceLT, Nat.reduceSub, Nat.reduceMul, Int.reduceToNat, Int.reduceLE, Int.reduceLT, Int.reduceEq, Int.reduceNeg, Int.reduceAdd, Int.reduceSub, beq_self_eq_true, cond_true, cond_false, isConstOpd, xpanic, xconv, isBytes, qconv, List.length_map, List.map_nil, List.map_cons, concrete, Option.some.injEq, exists_eq', Option.map_some, Option.map_none, List.getElem?_cons_zero, List.getElem?_cons_succ, zw16, rs16, tt3, tt23, tt25, tt29, tt34, tt61, tt63, tt66, tt92, tt108, tt110, ti3, ti23, ti25, ti29, ti34, ti61, ti63, ti66, ti92, ti108, ti110, t_37, t_58, t_59, t_61, t_62x, t_63x, X0h, Z0i, Y0f, Y0l, K0p, zsl23, zsl63, zsl92, zsl108, ownL_nil, ownL_cons, ownH_nil, ownH_cons, bs23, app108m, ix108, sa108, X07, zx, hc]); rfl)) (k : B) : A := h ▸ k
theorem zno16 {P : Prop} (h : P := by intro jj; simp [CV.has, CV.hasL, fault, K0c.nohas, X0a.nohas, Q0a.nohas, X0c.nohas, V0b.nohas]) : P := h
theorem zge16 {P : Prop} (h : P := by simp (disch := first | exact zdl | fail) only [zheap]; first | done | rfl) : P := h
set_option maxHeartbeats 8000000 in
theorem c16 : Con C 16 R16 := by
  refine Z0f C ?_ ?_ ?_
  · rintro args p r r' ⟨x, l, m, z, h, e⟩ ⟨x', l', m', z', h', e'⟩
    subst e; subst e'; simp_all [K0a.inj_iff, X0a.inj_iff, Q0a.inj_iff, X0c.inj_iff, V0b.inj_iff, K0m, sl_inj92, Q0w, Z1p]
  · rintro args p r ⟨x, l, m, z, h, rfl⟩; first | (split <;> simp; done) | (simp; done) | (simp only [resM]; split <;> simp; done) | (simp only [resD]; split <;> simp; done) 
  · rintro args p r ⟨x, l, m, z, rfl, rfl⟩
    refine Z0e C true noExt (tabL C [(37, R37), (58, R58), (59, R59), (61, R61), (62, R62x), (63, R63x)]) xf16 (Q0f C) (K0f C _) zc16_ok (Nat.le_of_ble_eq_true (by kernel_rfl)) fun hF => ?_
    have t_37 := @t37 (tabL C [(37, R37), (58, R58), (59, R59), (61, R61), (62, R62x), (63, R63x)]) (Z0d C c37 [(58, R58), (59, R59), (61, R61), (62, R62x), (63, R63x)])
    have t_58 := @t58 (tabL C [(37, R37), (58, R58), (59, R59), (61, R61), (62, R62x), (63, R63x)]) (Y0c C _ rfl (Z0d C c58 [(59, R59), (61, R61), (62, R62x), (63, R63x)]))
    have t_59 := @t59 (tabL C [(37, R37), (58, R58), (59, R59), (61, R61), (62, R62x), (63, R63x)]) (Y0c C _ rfl (Y0c C _ rfl (Z0d C c59 [(61, R61), (62, R62x), (63, R63x)])))
    have t_61 := @t61 (tabL C [(37, R37), (58, R58), (59, R59), (61, R61), (62, R62x), (63, R63x)]) (Y0c C _ rfl (Y0c C _ rfl (Y0c C _ rfl (Z0d C c61 [(62, R62x), (63, R63x)]))))
    have t_62x := @t62x (tabL C [(37, R37), (58, R58), (59, R59), (61, R61), (62, R62x), (63, R63x)]) (Y0c C _ rfl (Y0c C _ rfl (Y0c C _ rfl (Y0c C _ rfl (Z0d C c62x [(63, R63x)])))))
    have t_63x := @t63x (tabL C [(37, R37), (58, R58), (59, R59), (61, R61), (62, R62x), (63, R63x)]) (Y0c C _ rfl (Y0c C _ rfl (Y0c C _ rfl (Y0c C _ rfl (Y0c C _ rfl (Z0d C c63x []))))))
    generalize tabL C [(37, R37), (58, R58), (59, R59), (61, R61), (62, R62x), (63, R63x)] = call at t_37 t_58 t_59 t_61 t_62x t_63x ⊢
    show W C true noExt call zc16 (argE [I x, Lst.cv (Lst.cv I) l, Lst.cv (Lst.cv I) m, I z]) p (endQ C _ _)
    have hx := K0x (n := x) (m := 1000) (by omega)
    have hz := K0x (n := z) (m := 4) (by omega)
    generalize hS : pick x 1000 = S at hx
    generalize hb : pick z 4 = b at hz
    have hrl := Z1l 4 l.l
    have hr4 := rows4 l.l
    generalize hR : rowsOf 4 l.l = R at hrl hr4
    have hql := Z1l 4 m.l
    have hq4 := rows4 m.l
    generalize hQ : rowsOf 4 m.l = Q at hql hq4
    have t63s := @t_63x ⟨7, 0, 5⟩ ⟨3, 1, 0⟩ ⟨8, 3, 1⟩
    obtain ⟨O, c2, hO, hOr, hc2, w1, w3, w4, w5, w6⟩ : ∃ O c2, oneC 4 ⟨.part, [⟨7, 0, 5⟩, ⟨3, 1, 0⟩, ⟨8, 3, 1⟩], nofun⟩ = O ∧ O.Rules = ⟨.part, [⟨7, 0, 5⟩, ⟨3, 1, 0⟩, ⟨8, 3, 1⟩], nofun⟩ ∧ K0a.mk O.Players O.Period O.Grace O.Start O.Frames S O.Rate O.Depth ⟨.part, [⟨7, 0, 5⟩, ⟨3, 1, 0⟩, ⟨8, 3, 1⟩], nofun⟩ O.Tokens = c2 ∧ legalC c2 = true ∧ c2.Rules.l = stickL ∧ c2.Tokens.l.length ≤ 1000000 ∧ c2.Rules.l.length ≤ 1000000 ∧ c2.Players = 4 := by
      have hl : legalC { oneC 4 ⟨.part, [⟨7, 0, 5⟩, ⟨3, 1, 0⟩, ⟨8, 3, 1⟩], nofun⟩ with Seed := S } = true := one_legal (P := 4) (by omega) _ (by decide) (seed := S) (by omega)
      exact ⟨_, _, rfl, rfl, rfl, hl, rfl, (legal_len hl).1, (legal_len hl).2, rfl⟩
    suffices hloop : ∀ (RL QL : Lst (Lst V0b)) (a9 a10 a11 : Nat) (ρ : Env) (q : Hp), RL.l = R → QL.l = Q → p.n ≤ a9 → p.n ≤ a10 → p.n ≤ a11 → a9 < q.n → a10 < q.n → a11 < q.n → a9 ≠ a10 → a9 ≠ a11 → a10 ≠ a11 → ρ 3 = I b → ρ 9 = .ptr a9 [] → ρ 10 = .ptr a10 [] → ρ 11 = .ptr a11 [] → ρ 12 = RL.cv (Lst.cv V0b.cv) → ρ 13 = QL.cv (Lst.cv V0b.cv) → ρ 35 = I RL.l.length → ρ 36 = I 0 → q.t.get a9 = some (.var sh61 c2.cv) → q.t.get a10 = some (.var sh66 (firstS c2).cv) → q.t.get a11 = some (.var sh66 (firstS c2).cv) → HpLe p q → W C true noExt call (ZC.loop zn16_21) ρ q (blkQ 0 (seqQ (W C true noExt call zn16_48) (endQ C [ResultVar.tmp 8] fun r' => ShrR p r' (XRes.ret (Bo true) p)))) by
      cases R with
      | nil =>
        cases Q with
        | nil =>
          (have zx := And.intro hS (And.intro hb (And.intro hR (And.intro hQ (And.intro hO (And.intro hOr (And.intro hc2 (And.intro w6 t63s))))))); have hc := True.intro; refine zq16 (k := ?_); clear hc; try exact True.intro)
          repeat' ((first | refine K0d ?_ ?_ | refine Z0c ?_ ?_ | refine X0d _ _ _ _ ?_ ?_ | refine Q0d ?_ ?_ | refine V0d _ _ _ _ ?_ ?_) <;> intro hc <;> (try simp only [zhd] at hc) <;> (try have hw := X0b hc) <;> (refine zq16 (k := ?_); try exact True.intro))
          all_goals (try clear zx)
          exact hloop ⟨.nil, [], fun _ => rfl⟩ ⟨.nil, [], fun _ => rfl⟩ (p.n + 1) (p.n + 1 + 1) (p.n + 1 + 1 + 1) _ _ rfl rfl (by omega) (by omega) (by omega) (by first | omega | (simp only [Hp.bump_n, Hp.znew_n, Hp.zset_n]; omega)) (by first | omega | (simp only [Hp.bump_n, Hp.znew_n, Hp.zset_n]; omega)) (by first | omega | (simp only [Hp.bump_n, Hp.znew_n, Hp.zset_n]; omega)) (by omega) (by omega) (by omega) (by simp [put_at, Z0a, V0f]) (by simp [put_at, Z0a, V0f]) (by simp [put_at, Z0a, V0f]) (by simp [put_at, Z0a, V0f]) (by simp [put_at, Z0a, V0f]) (by simp [put_at, Z0a, V0f]) (by simp [put_at, Z0a, V0f]) (by simp [put_at, Z0a, V0f]) zge16 zge16 zge16 zle
        | cons q1 Q =>
          (have zx := And.intro hS (And.intro hb (And.intro hR (And.intro hQ (And.intro hO (And.intro hOr (And.intro hc2 (And.intro w6 t63s))))))); have hc := True.intro; refine zq16 (k := ?_); clear hc; try exact True.intro)
          repeat' ((first | refine K0d ?_ ?_ | refine Z0c ?_ ?_ | refine X0d _ _ _ _ ?_ ?_ | refine Q0d ?_ ?_ | refine V0d _ _ _ _ ?_ ?_) <;> intro hc <;> (try simp only [zhd] at hc) <;> (try have hw := X0b hc) <;> (refine zq16 (k := ?_); try exact True.intro))
          all_goals (try clear zx)
          exact hloop ⟨.nil, [], fun _ => rfl⟩ ⟨.own (p.n + 1 + 1 + 1 + 1), q1 :: Q, nofun⟩ (p.n + 1) (p.n + 1 + 1) (p.n + 1 + 1 + 1) _ _ rfl rfl (by omega) (by omega) (by omega) (by first | omega | (simp only [Hp.bump_n, Hp.znew_n, Hp.zset_n]; omega)) (by first | omega | (simp only [Hp.bump_n, Hp.znew_n, Hp.zset_n]; omega)) (by first | omega | (simp only [Hp.bump_n, Hp.znew_n, Hp.zset_n]; omega)) (by omega) (by omega) (by omega) (by simp [put_at, Z0a, V0f]) (by simp [put_at, Z0a, V0f]) (by simp [put_at, Z0a, V0f]) (by simp [put_at, Z0a, V0f]) (by simp [put_at, Z0a, V0f]) (by simp [put_at, Z0a, V0f]) (by simp [put_at, Z0a, V0f]) (by simp [put_at, Z0a, V0f]) zge16 zge16 zge16 zle
      | cons r R =>
        cases Q with
        | nil =>
          (have zx := And.intro hS (And.intro hb (And.intro hR (And.intro hQ (And.intro hO (And.intro hOr (And.intro hc2 (And.intro w6 t63s))))))); have hc := True.intro; refine zq16 (k := ?_); clear hc; try exact True.intro)
          repeat' ((first | refine K0d ?_ ?_ | refine Z0c ?_ ?_ | refine X0d _ _ _ _ ?_ ?_ | refine Q0d ?_ ?_ | refine V0d _ _ _ _ ?_ ?_) <;> intro hc <;> (try simp only [zhd] at hc) <;> (try have hw := X0b hc) <;> (refine zq16 (k := ?_); try exact True.intro))
          all_goals (try clear zx)
          exact hloop ⟨.own (p.n + 1 + 1 + 1 + 1), r :: R, nofun⟩ ⟨.nil, [], fun _ => rfl⟩ (p.n + 1) (p.n + 1 + 1) (p.n + 1 + 1 + 1) _ _ rfl rfl (by omega) (by omega) (by omega) (by first | omega | (simp only [Hp.bump_n, Hp.znew_n, Hp.zset_n]; omega)) (by first | omega | (simp only [Hp.bump_n, Hp.znew_n, Hp.zset_n]; omega)) (by first | omega | (simp only [Hp.bump_n, Hp.znew_n, Hp.zset_n]; omega)) (by omega) (by omega) (by omega) (by simp [put_at, Z0a, V0f]) (by simp [put_at, Z0a, V0f]) (by simp [put_at, Z0a, V0f]) (by simp [put_at, Z0a, V0f]) (by simp [put_at, Z0a, V0f]) (by simp [put_at, Z0a, V0f]) (by simp [put_at, Z0a, V0f]) (by simp [put_at, Z0a, V0f]) zge16 zge16 zge16 zle
        | cons q1 Q =>
          (have zx := And.intro hS (And.intro hb (And.intro hR (And.intro hQ (And.intro hO (And.intro hOr (And.intro hc2 (And.intro w6 t63s))))))); have hc := True.intro; refine zq16 (k := ?_); clear hc; try exact True.intro)
          repeat' ((first | refine K0d ?_ ?_ | refine Z0c ?_ ?_ | refine X0d _ _ _ _ ?_ ?_ | refine Q0d ?_ ?_ | refine V0d _ _ _ _ ?_ ?_) <;> intro hc <;> (try simp only [zhd] at hc) <;> (try have hw := X0b hc) <;> (refine zq16 (k := ?_); try exact True.intro))
          all_goals (try clear zx)
          exact hloop ⟨.own (p.n + 1 + 1 + 1 + 1), r :: R, nofun⟩ ⟨.own (p.n + 1 + 1 + 1 + 1 + 1), q1 :: Q, nofun⟩ (p.n + 1) (p.n + 1 + 1) (p.n + 1 + 1 + 1) _ _ rfl rfl (by omega) (by omega) (by omega) (by first | omega | (simp only [Hp.bump_n, Hp.znew_n, Hp.zset_n]; omega)) (by first | omega | (simp only [Hp.bump_n, Hp.znew_n, Hp.zset_n]; omega)) (by first | omega | (simp only [Hp.bump_n, Hp.znew_n, Hp.zset_n]; omega)) (by omega) (by omega) (by omega) (by simp [put_at, Z0a, V0f]) (by simp [put_at, Z0a, V0f]) (by simp [put_at, Z0a, V0f]) (by simp [put_at, Z0a, V0f]) (by simp [put_at, Z0a, V0f]) (by simp [put_at, Z0a, V0f]) (by simp [put_at, Z0a, V0f]) (by simp [put_at, Z0a, V0f]) zge16 zge16 zge16 zle
    intro RL QL a9 a10 a11 ρ q eR eQ b1 b2 b3 d1 d2 d3 d4 d5 d6 e3 e9 e10 e11 e12 e13 e35 e36 g1 g2 g3 hle
    subst eR
    subst eQ
    have hpl : ((b.toNat : Nat) : Int) < c2.Players := by omega
    (show W C true noExt call (ZC.loop zn16_21) _ _ _); refine V0n C true noExt call zn16_21 _ _ _ (J16 c2 b RL QL a9 a10 a11 p) RL.l.length ⟨0, firstS c2, firstS c2, rfl, by omega, e3, e9, e10, e11, e12, e13, e35, e36, d1, d2, d3, g1, g2, g3, pair_first w1 hpl, hle⟩ ?_
    clear e3 e9 e10 e11 e12 e13 e35 e36 d1 d2 d3 g1 g2 g3 hle
    rintro n ρ q ⟨k, s, t, rfl, hk, e3, e9, e10, e11, e12, e13, e35, e36, d1, d2, d3, g1, g2, g3, hpr, hle⟩
    have hb4 : b.toNat < 4 := by omega
    by_cases hlt : (k : Int) < RL.l.length
    · have hr4k := hr4 k (by omega)
      by_cases hlq : (k : Int) < QL.l.length
      · have hq4k := hq4 k (by omega)
        have hp2 := pair_step w3 hpl hpr (row := (nth RL.l k).l) (row' := (nth QL.l k).l.set b.toNat (nth (nth RL.l k).l b.toNat)) (X1o (by rw [List.length_set]; omega) (by rw [Y0i (by omega)]))
        have hL4 : ((nth QL.l k).l.set b.toNat (nth (nth RL.l k).l b.toNat)).length = 4 := by rw [List.length_set]; exact hq4k
        have t62s := @(t_62x.2 _ hL4)
        generalize hs2 : stepS c2 (nth RL.l k).l s = s2 at hp2
        generalize ht2 : stepS c2 ((nth QL.l k).l.set b.toNat (nth (nth RL.l k).l b.toNat)) t = t2 at hp2
        have hbo := hp2.body
        have hfa := hp2.faults
        have hdi := hp2.dice
        rw [hbo] at hfa
        have hb1 := s2.hBodies
        have hb2 := t2.hBodies
        (have zx := And.intro e3 (And.intro e9 (And.intro e10 (And.intro e11 (And.intro e12 (And.intro e13 (And.intro e35 (And.intro e36 (And.intro g1 (And.intro g2 (And.intro g3 (And.intro hlt (And.intro hlq (And.intro hs2 (And.intro ht2 (And.intro t62s (And.intro hbo (And.intro hfa (And.intro hdi (And.intro hr4k hq4k))))))))))))))))))); have hc := True.intro; refine zq16 (k := ?_); clear hc; try exact True.intro)
        repeat' ((first | refine K0d ?_ ?_ | refine Z0c ?_ ?_ | refine X0d _ _ _ _ ?_ ?_ | refine Q0d ?_ ?_ | refine V0d _ _ _ _ ?_ ?_) <;> intro hc <;> (try simp only [zhd] at hc) <;> (try have hw := X0b hc) <;> (refine zq16 (k := ?_); try exact True.intro))
        all_goals (try clear zx)
        exact ⟨RL.l.length - (k + 1), by omega, k + 1, s2, t2, rfl, by omega, by simp [put_at, Z0a, e3], by simp [put_at, Z0a, e9], by simp [put_at, Z0a, e10], by simp [put_at, Z0a, e11], by simp [put_at, Z0a, e12], by simp [put_at, Z0a, e13], by simp [put_at, Z0a, e35], by simp [put_at, Z0a], by first | omega | (simp only [Hp.bump_n, Hp.znew_n, Hp.zset_n]; omega), by first | omega | (simp only [Hp.bump_n, Hp.znew_n, Hp.zset_n]; omega), by first | omega | (simp only [Hp.bump_n, Hp.znew_n, Hp.zset_n]; omega), by simp (disch := first | exact zdl | fail) only [zheap, g1], by simp (disch := first | exact zdl | fail) only [zheap], by simp (disch := first | exact zdl | fail) only [zheap], hp2, zlq⟩
      · have hp2 := pair_step w3 hpl hpr (row := (nth RL.l k).l) (row' := (nth RL.l k).l) rfl
        have t62s := @(t_62x.2 _ hr4k)
        generalize hs2 : stepS c2 (nth RL.l k).l s = s2 at hp2
        generalize ht2 : stepS c2 (nth RL.l k).l t = t2 at hp2
        have hbo := hp2.body
        have hfa := hp2.faults
        have hdi := hp2.dice
        rw [hbo] at hfa
        have hb1 := s2.hBodies
        have hb2 := t2.hBodies
        (have zx := And.intro e3 (And.intro e9 (And.intro e10 (And.intro e11 (And.intro e12 (And.intro e13 (And.intro e35 (And.intro e36 (And.intro g1 (And.intro g2 (And.intro g3 (And.intro hlt (And.intro hlq (And.intro hs2 (And.intro ht2 (And.intro t62s (And.intro hbo (And.intro hfa (And.intro hdi hr4k)))))))))))))))))); have hc := True.intro; refine zq16 (k := ?_); clear hc; try exact True.intro)
        repeat' ((first | refine K0d ?_ ?_ | refine Z0c ?_ ?_ | refine X0d _ _ _ _ ?_ ?_ | refine Q0d ?_ ?_ | refine V0d _ _ _ _ ?_ ?_) <;> intro hc <;> (try simp only [zhd] at hc) <;> (try have hw := X0b hc) <;> (refine zq16 (k := ?_); try exact True.intro))
        all_goals (try clear zx)
        exact ⟨RL.l.length - (k + 1), by omega, k + 1, s2, t2, rfl, by omega, by simp [put_at, Z0a, e3], by simp [put_at, Z0a, e9], by simp [put_at, Z0a, e10], by simp [put_at, Z0a, e11], by simp [put_at, Z0a, e12], by simp [put_at, Z0a, e13], by simp [put_at, Z0a, e35], by simp [put_at, Z0a], by first | omega | (simp only [Hp.bump_n, Hp.znew_n, Hp.zset_n]; omega), by first | omega | (simp only [Hp.bump_n, Hp.znew_n, Hp.zset_n]; omega), by first | omega | (simp only [Hp.bump_n, Hp.znew_n, Hp.zset_n]; omega), by simp (disch := first | exact zdl | fail) only [zheap, g1], by simp (disch := first | exact zdl | fail) only [zheap], by simp (disch := first | exact zdl | fail) only [zheap], hp2, zlq⟩
    · (have zx := And.intro e3 (And.intro e9 (And.intro e10 (And.intro e11 (And.intro e12 (And.intro e13 (And.intro e35 (And.intro e36 (And.intro g1 (And.intro g2 (And.intro g3 hlt)))))))))); have hc := True.intro; refine zq16 (k := ?_); clear hc; try exact True.intro)
      repeat' ((first | refine K0d ?_ ?_ | refine Z0c ?_ ?_ | refine X0d _ _ _ _ ?_ ?_ | refine Q0d ?_ ?_ | refine V0d _ _ _ _ ?_ ?_) <;> intro hc <;> (try simp only [zhd] at hc) <;> (try have hw := X0b hc) <;> (refine zq16 (k := ?_); try exact True.intro))
      all_goals (try clear zx)
      exact K0e hF zlq (Q0e rfl (Y0d zno16))
end Go.Proofs.Ytpchcfkebljopaa
end
section
namespace Go.Proofs.Ytpchcfkebljopaa
open Go.Cl Go Go.ChangeShapes Go.WideShapes Go.ChangeAt Go.RowKit
set_option maxRecDepth 100000
set_option linter.constructorNameAsVariable false
theorem a58 {n : Nat} {v : CV} (h : Ty2 Try.prog (n + 3) 58 v) : ∃ s : Lst (Lst Int), v = s.cv (Lst.cv I) ∧ (s.tl = .view ∨ s.tl = .nil) := of_slice Try.underlying58 (fun _ h => let ⟨i, e, _⟩ := a24 h; ⟨i, e⟩) h
end Go.Proofs.Ytpchcfkebljopaa
end
