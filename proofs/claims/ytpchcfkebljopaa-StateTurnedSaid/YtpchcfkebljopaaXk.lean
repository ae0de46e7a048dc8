import Derived.Test.YtpchcfkebljopaaXj
set_option linter.unusedSimpArgs false
set_option linter.unusedVariables false
set_option linter.constructorNameAsVariable false
set_option linter.defProp false
set_option maxHeartbeats 8000000
section
namespace Go.Proofs.Ytpchcfkebljopaa
open Go.Cl Go Go.RowKit
set_option maxRecDepth 100000
set_option linter.constructorNameAsVariable false
theorem app68m (p : Hp) (s : Lst Int) (h0 : s.l ≠ []) (hl : s.l.length <= 140737488355328) : xappend C true p 68 68 (Lst.cv Y8 ⟨.exact, [], nofun⟩) (Lst.cv Y8 s) = .ret (.slc p.n [] 0 s.l.length) (p.new (Wrow s.l)) := by
 obtain ⟨tl, l, o⟩ := s
 simp only at h0 hl ⊢
 cases l with
 | nil => exact absurd rfl h0
 | cons x l =>
  have ha : allSh ((x :: l).map Y8) sh5 = true := K1n (fun x => rfl) (x :: l)
  simp only [List.map_cons] at ha
  simp only [List.length_cons] at hl
  have h3 : Nat.ble ((0 + (l.length + 1)) * 1) 140737488355328 = true := Nat.ble_eq_true_of_le (by omega)
  have h4 : Nat.ble (0 + (l.length + 1)) 9223372036854775807 = true := Nat.ble_eq_true_of_le (by omega)
  simp only [xappend, tt68, ti68, tt5, ti5, cond_true, Lst.cv, xsrc, srcOf, List.map_cons, List.map_nil, ha, xappmut, List.length_cons, List.length_nil, List.length_map, h3, h4, Wrow]
  simp [allSh, Tail.full]
theorem shr_row {args : List CV} {p p' q0 : Hp} {v u : CV} {J : Nat} {B : List Int} (hF : Fine args p) (hn : q0.n = p.n) (hq : ∀ k o, q0.t.get k = some o -> p.t.get k = some o /\ k ≠ J /\ p'.t.get k = some o) (hT : p'.t.get J = some (Wrow B)) (hv : CV.weak (ren p.n J) (p.n + 1) v u) : ShrR p (.ret v p') (.ret u (q0.new (Wrow B))) :=
 Q1e hF (J := J) hn (fun k o h => ⟨hF.dom k o (hq k o h).1, (hq k o h).2.1, .inl ⟨(hq k o h).1, (hq k o h).2.2⟩⟩) ⟨_, hT, V1m _ _ _⟩ hv
theorem row_weak (p J m : Nat) : CV.weak (ren p J) (p + 1) (.slc J [] 0 m) (.slc p [] 0 m) := by simp [CV.weak, ren]
theorem row_weakT (p J m : Nat) (n : Int) : CV.weak (ren p J) (p + 1) (.tup [.slc J [] 0 m, I n]) (.tup [.slc p [] 0 m, I n]) := by simp [CV.weak, CV.weakL, ren]
def R159m : Rel := fun args p r => ∃ (s : Lst Int), args = [s.cv Y8] /\ (s.tl = .part) /\ (s.l.length <= 1000000) /\ (s.l ≠ []) /\ r = .ret (.slc p.n [] 0 s.l.length) (p.new (Wrow s.l))
theorem zq159m {A B : Prop} (k : B) (h : A = B := by have zy := zA @zw159 <| zA @rs159 <| zA @tt68 <| zA ti68.eq_1 <| zA @zsl68 <| zA @app68m <| zA @h1 <| zA @h2 <| @h3; exact zQ) : A := h ▸ k
theorem c159m : Con C 159 R159m := by
 refine Q0e C ?_ ?_ ?_
 ·rintro args p r r' ⟨s, h, h1, h2, h3, e⟩ ⟨s', h', h1', h2', h3', e'⟩
  subst e; subst e'; simp_all [X0n]
 ·rintro args p r ⟨s, h, h1, h2, h3, rfl⟩; exact zr1
 rintro args p r ⟨s, rfl, h1, h2, h3, rfl⟩
 refine zW C true [] zT rfl xf159 zc159_ok fun call zh hF => ?_
 clear zh
 obtain ⟨tl, l, o⟩ := s
 simp only at h2 h1 h3
 subst h1
 have h1 : True := trivial
 (have zx := h3; refine zq159m ?_; try exact zT)
 repeat' (apply zK.s <;> intro hc <;> (try simp only [zhd] at hc) <;> (try have hw := V0a hc) <;> (refine zq159m ?_; try exact zT))
 all_goals (try clear zx)
 exact shr_row hF (J := p.n) rfl (fun k o h => by have hd := hF.dom k o h; exact ⟨h, by omega, by rw [Hp.get_new_ne _ _ (by omega)]; exact h⟩) (Hp.get_new_self _ _) (row_weak _ _ _)
def R159y : Rel := RFrz R159m
theorem c159y : Con C 159 R159y := con_frz C c159m
theorem t159y {T : XCall} (h : Has T 159 R159y) (B : List Int) (j : Nat) {p : Hp} (h1 : B ≠ []) (h2 : B.length <= 1000000) (hg : p.t.get j = some (.var (.n (List.replicate B.length .s)) (.agg (B.map Y8)))) : T 159 [.slc j [] 0 B.length] p = .ret (.slc p.n [] 0 B.length) ((p.set j none).new (Wrow B)) :=
 h _ _ _ ⟨[], j, _, B.map Y8, 1, by rw [List.length_map]; rfl, hg, fun x hx => by obtain ⟨y, _, rfl⟩ := List.mem_map.1 hx; rfl, ⟨partB B, rfl, rfl, h2, h1, rfl⟩⟩
def R91m : Rel := fun args p r => ∃ (i j : Nat) (l : List Bool), args = [.ptr i []] /\ (p.t.get i = some (W1 j l)) /\ (W2 i j l p) /\ (l.length <= 1000000) /\ (l ≠ []) /\ r = .ret (.slc p.n [] 0 (packB l).length) ((p.set j none).new (Wrow (packB l)))
theorem t91m {T : XCall} (h : Has T 91 R91m) (i j : Nat) (l : List Bool) {p : Hp} (h1 : p.t.get i = some (W1 j l)) (h2 : W2 i j l p) (h3 : l.length <= 1000000) (h4 : l ≠ []) : T 91 [.ptr i []] p = .ret (.slc p.n [] 0 (packB l).length) ((p.set j none).new (Wrow (packB l))) := h _ _ _ ⟨i, j, l, rfl, h1, h2, h3, h4, rfl⟩
theorem zq91m {A B : Prop} (k : B) (h : A = B := by have zy := zA @zw91 <| zA @rs91 <| zA @tt68 <| zA @tt203 <| zA ti68.eq_1 <| zA ti203.eq_1 <| zA @t_159y <| zA @K0m <| zA @zsl68 <| zA @h1 <| zA @h2 <| zA @h3 <| @h4; exact zQ) : A := h ▸ k
theorem c91m : Con C 91 R91m := by
 refine Q0e C ?_ ?_ ?_
 ·rintro args p r r' ⟨i, j, l, h, h1, h2, h3, h4, e⟩ ⟨i', j', l', h', h1', h2', h3', h4', e'⟩
  subst e; subst e'; (subst h; simp only [List.cons.injEq, CV.ptr.injEq, and_true, true_and] at h'; subst h'; have hu := X1r h1 h2 h1' h2'; obtain ⟨e1, e2⟩ := hu; subst e1; rw [e2 h4])
 ·rintro args p r ⟨i, j, l, h, h1, h2, h3, h4, rfl⟩; exact zr1
 rintro args p r ⟨i, j, l, rfl, h1, h2, h3, h4, rfl⟩
 refine zW C true [(159, R159y)] ⟨c159y, zT⟩ rfl xf91 zc91_ok fun call zh hF => ?_
 have t_159y := @t159y _ zh.1
 clear zh
 have hd_h1 := hF.dom _ _ h1
 have k1 := h1
 have hi := hF.dom _ _ h1
 have g2 := (h2.resolve_left h4).2
 have hji := (h2.resolve_left h4).1
 have hpk := Q0i l
 have hpl : packB l ≠ [] := fun e => h4 (packB_nil.1 e)
 have g2' := g2
 unfold Wrow at g2
 have hWv : Wv j l = .slc j [] 0 (packB l).length := if_neg h4
 replace h1 : p.t.get i = some (.var sh203 (Q0d.mk (.slc j [] 0 (packB l).length) (K1u _ _ _ _) l.length).cv) := by rw [h1]; simp only [W1, hWv]
 have t2 := @t_159y (packB l) j (p := p) hpl (by omega) g2
 (have zx := zA t2 h1; refine zq91m ?_; try exact zT)
 repeat' (apply zK.s <;> intro hc <;> (try simp only [zhd] at hc) <;> (try have hw := V0a hc) <;> (refine zq91m ?_; try exact zT))
 all_goals (try clear zx)
 refine shr_row hF (J := p.n) (q0 := p.set j none) rfl (fun k o h => ?_) (Hp.get_new_self (p.set j none) _) (row_weak _ _ _)
 by_cases hk : k = j
 ·subst hk; rw [Hp.get_set_self] at h; cases h
 ·have h' := h
  rw [Hp.get_set_ne _ _ _ hk] at h'
  have hd := hF.dom _ _ h'
  exact ⟨h', by omega, by rw [Hp.get_new_ne _ _ (show k ≠ (p.set j none).n by rw [Hp.zset_n]; omega)]; exact h⟩
def R33m : Rel := fun args p r => ∃ (c : X0a) (s : K0a), args = [c.cv, s.cv] /\ (c.Tokens.l.length <= 1000000) /\ (c.Rules.l.length <= 1000000) /\ r = if stateRight c s = true then .ret (.tup [.slc p.n [] 0 (layS c s).length, I 0]) (p.new (Wrow (layS c s))) else .ret (.tup [Lst.cv Y8 nilB, I 1]) p
theorem t33m {T : XCall} (h : Has T 33 R33m) (c : X0a) (s : K0a) {p : Hp} (hl : c.Tokens.l.length <= 1000000) (hr : c.Rules.l.length <= 1000000) : T 33 [c.cv, s.cv] p = if stateRight c s = true then .ret (.tup [.slc p.n [] 0 (layS c s).length, I 0]) (p.new (Wrow (layS c s))) else .ret (.tup [Lst.cv Y8 nilB, I 1]) p := h _ _ _ ⟨c, s, rfl, hl, hr, rfl⟩
theorem zdis33m {P : Prop} (h : P := by first | exact zdis | (exact zdw1) | (exact zdw) | (exact W2_nil _ _ _) | (refine W2_in ?_ ?_ <;> exact zdw) | (simp only [Hp.bump_n, Hp.znew_n, Hp.zset_n, List.length_nil, List.length_cons, List.length_append, List.length_map, V0e]; (first | done | omega)) | (simp (disch := first | exact zd1 | (simp only [Hp.bump_n, Hp.znew_n, Hp.zset_n, List.length_nil, List.length_cons, List.length_append, List.length_map, V0e]; (first | done | omega))) only [zheap, zx]; (first | done | rfl)) | fail) : P := h
theorem zq33m {A B : Prop} (k : B) (h : A = B := by have zy := zA @zw33 <| zA @rs33 <| zA @tt3 <| zA @tt24 <| zA @tt25 <| zA @tt34 <| zA @tt61 <| zA @tt63 <| zA @tt64 <| zA @tt66 <| zA ti3.eq_1 <| zA ti24.eq_1 <| zA ti25.eq_1 <| zA ti34.eq_1 <| zA ti61.eq_1 <| zA ti63.eq_1 <| zA ti64.eq_1 <| zA ti66.eq_1 <| zA @t_44 <| zA @t_88 <| zA @t_89 <| zA @t_90 <| zA @t_91m <| zA @Y0e <| zA @Y0f <| zA @Z0e <| zA @zsl24 <| zA @zsl63 <| zA @zsl64 <| zA @K05 <| zA @wHp_i <| zA @Q01 <| zA @Z09 <| zA @Q0m <| zA @wHp_n <| zA @sl64 <| zA @ix24 <| zA @hl <| @hr; have zd := @zdis33m; exact zQd) : A := h ▸ k
theorem c33m : Con C 33 R33m := by
 refine Q0e C ?_ ?_ ?_
 ·rintro args p r r' ⟨c, s, h, hl, hr, e⟩ ⟨c', s', h', hl', hr', e'⟩
  subst e; subst e'; simp_all [X0a.inj_iff, K0a.inj_iff, Q0a.inj_iff, Y0r]
 ·rintro args p r ⟨c, s, h, hl, hr, rfl⟩; exact zr1
 rintro args p r ⟨c, s, rfl, hl, hr, rfl⟩
 refine zW C true [(44, R44), (88, R88), (89, R89), (90, R90), (91, R91m)] ⟨c44, c88, c89, c90, c91m, zT⟩ rfl xf33 zc33_ok fun call zh hF => ?_
 have t_44 := @t44 _ zh.1
 have t_88 := @t88 _ zh.2.1
 have t_89 := @t89 _ zh.2.2.1
 have t_90 := @t90 _ zh.2.2.2.1
 have t_91m := @t91m _ zh.2.2.2.2.1
 clear zh
 have hb := s.hBodies
 have hsc := s.hScore
 cases hR : stateRight c s with
 | false =>
  (have zx := hR; refine zq33m ?_; try exact zT)
  repeat' (apply zK.s <;> intro hc <;> (try simp only [zhd] at hc) <;> (try have hw := V0a hc) <;> (refine zq33m ?_; try exact zT))
  all_goals (try clear zx)
  exact V0d hF zle (X0g (K0d (by intro jj; simp [CV.has, CV.hasL, Lst.cv, nilB])))
 | true =>
  have hP := (Q0h (X0f hR).2.2.1).1
  have hPn : ((c.Players.toNat : Nat) : Int) = c.Players := by omega
  rw [if_pos rfl]
  have hn0 : readersN c = c.Players.toNat := by unfold readersN; omega
  have hlb : ∀ k, ((s.Bodies.take k).flatMap bodyBits).length <= 2480 := fun k => by
   rw [X0z]
   have := Y0z (s.Bodies.take k)
   rw [List.length_take] at this; omega
  have hls : ∀ k, (((s.Score.take c.Players.toNat).take k).flatMap (bitsOf · 31)).length <= 248 := fun k => by
   rw [Z0y _ 31 _ fun x _ => V0e x 31, List.length_take, List.length_take]; omega
  (have zx := hR; refine zq33m ?_; try exact zT)
  repeat' (apply zK.s <;> intro hc <;> (try simp only [zhd] at hc) <;> (try have hw := V0a hc) <;> (refine zq33m ?_; try exact zT))
  all_goals (try clear zx)
  (show W C true noExt call (ZC.loop K07) _ _ _); refine V0i C true noExt call K07 _ _ _ (J33 c s (p.n + 1 + 1) p) 16 ⟨0, p.n + 1 + 1 + 1 + 1, rfl, by omega, zev, zev, zev, zev, zev, by simp (disch := first | exact zdw1 | fail) only [zheap, Z09, Q0m], by simp (disch := first | exact zdw1 | fail) only [zheap, Z09, Q0m], by rw [List.take_zero, List.flatMap_nil, List.append_nil]; simp (disch := first | exact zdw1 | fail) only [zheap, wHp_i, wHp_n], by rw [List.take_zero, List.flatMap_nil, List.append_nil]; simp (disch := first | exact zdw1 | fail) only [zheap, Q01, wHp_n], by omega, by omega, zdw1, fun k o h => by have hd := hF.dom k o h; simp (disch := first | exact zdw1 | fail) only [zheap, Z09, Q0m]; exact h⟩ ?_
  rintro n ρ q ⟨k, J, rfl, hk, e2, e3, e6, e26, e27, g1, g2, g3, g4, hia, hiJ, hJq, hle⟩
  have hlk := hlb k
  by_cases hlt : (k : Int) < 16
  ·have hft := Z0k bodyBits s.Bodies (k := k) (by omega)
   (have zx := zA e2 (zA e3 (zA e6 (zA e26 (zA e27 (zA g1 (zA g2 (zA g3 (zA g4 hlt)))))))); refine zq33m ?_; try exact zT)
   repeat' (apply zK.s <;> intro hc <;> (try simp only [zhd] at hc) <;> (try have hw := V0a hc) <;> (refine zq33m ?_; try exact zT))
   all_goals (try clear zx)
   refine ⟨16 - (k + 1), by omega, k + 1, q.n + 1, rfl, by omega, zev, zev, zev, zev, zev, by simp (disch := first | exact zdw1 | fail) only [zheap, Q0m, g1], by simp (disch := first | exact zdw1 | fail) only [zheap, Q0m, g2], ?_, ?_, by omega, by omega, zdw1, fun a o h => by have hd := hF.dom a o h; simp (disch := first | exact zdw1 | fail) only [zheap, Q0m]; exact hle a o h⟩
   ·rw [hft, <- List.append_assoc]; simp (disch := first | exact zdw1 | fail) only [zheap, wHp_i, wHp_n]
   ·rw [hft, <- List.append_assoc]; simp (disch := first | exact zdw1 | fail) only [zheap, Q01, wHp_n]
  ·have hk16 : k = 16 := by omega
   subst hk16
   rw [List.take_of_length_le (by omega)] at g3 g4 hlk
   (have zx := zA e2 (zA e3 (zA e6 (zA e26 (zA e27 (zA g1 (zA g2 (zA g3 (zA g4 hlt)))))))); refine zq33m ?_; try exact zT)
   repeat' (apply zK.s <;> intro hc <;> (try simp only [zhd] at hc) <;> (try have hw := V0a hc) <;> (refine zq33m ?_; try exact zT))
   all_goals (try clear zx)
   (show W C true noExt call (ZC.loop K06) _ _ _); refine V0i C true noExt call K06 _ _ _ (L33 c s (p.n + 1 + 1) p) c.Players.toNat ⟨0, J, rfl, by omega, zev, zev, zev, zev, zev, g2, by rw [List.take_zero, List.flatMap_nil, List.append_nil]; exact g3, by rw [List.take_zero, List.flatMap_nil, List.append_nil]; exact g4, hia, hiJ, hJq, hle⟩ ?_
   clear e2 e3 e6 e26 e27 g1 g2 g3 g4 hia hiJ hJq hle hlt
   rintro n ρ q ⟨k, J, rfl, hk, e3, e6, e37, e38, e39, g2, g3, g4, hia, hiJ, hJq, hle⟩
   have htl : (s.Score.take c.Players.toNat).length = c.Players.toNat := by rw [List.length_take]; omega
   have hlk2 := hls k
   by_cases hlt : k < c.Players.toNat
   ·have hft := Z0k (bitsOf · 31) (s.Score.take c.Players.toNat) (k := k) (by omega)
    have hnt : nth (s.Score.take c.Players.toNat) k = nth s.Score k := by rw [X0j (by omega), X0j (by omega), List.getElem_take]
    rw [hnt] at hft
    have hlt2 : (k : Int) < (c.Players.toNat : Int) := by omega
    (have zx := zA e3 (zA e6 (zA e37 (zA e38 (zA e39 (zA g2 (zA g3 (zA g4 hlt2))))))); refine zq33m ?_; try exact zT)
    repeat' (apply zK.s <;> intro hc <;> (try simp only [zhd] at hc) <;> (try have hw := V0a hc) <;> (refine zq33m ?_; try exact zT))
    all_goals (try clear zx)
    refine ⟨c.Players.toNat - (k + 1), by omega, k + 1, q.n, rfl, by omega, zev, zev, zev, zev, zev, by simp (disch := first | exact zdw1 | fail) only [zheap, Q0m, g2], ?_, ?_, by omega, by omega, zdw1, fun a o h => by have hd := hF.dom a o h; simp (disch := first | exact zdw1 | fail) only [zheap, Q0m]; exact hle a o h⟩
    ·rw [hft, <- List.append_assoc]; simp (disch := first | exact zdw1 | fail) only [zheap, wHp_i, wHp_n]
    ·rw [hft, <- List.append_assoc]; simp (disch := first | exact zdw1 | fail) only [zheap, Q01, wHp_n]
   ·have hkP : k = c.Players.toNat := by omega
    rw [hkP, List.take_of_length_le (by omega)] at g3 g4 hlk2
    have hlt2 : ¬ (k : Int) < (c.Players.toNat : Int) := by omega
    have hne : bitsOf s.Frame 10 ++ bitsOf s.Dice 64 ++ s.Bodies.flatMap bodyBits ++ (s.Score.take c.Players.toNat).flatMap (bitsOf · 31) ≠ [] := by
     intro e
     have := congrArg List.length e
     rw [List.length_append, List.length_append, List.length_append, V0e, List.length_nil] at this
     omega
    have hst : stateBits c s = bitsOf s.Frame 10 ++ bitsOf s.Dice 64 ++ s.Bodies.flatMap bodyBits ++ (s.Score.take c.Players.toNat).flatMap (bitsOf · 31) := by simp only [stateBits, List.append_assoc]
    (have zx := zA e3 (zA e6 (zA e37 (zA e38 (zA e39 (zA g2 (zA g3 (zA g4 hlt2))))))); refine zq33m ?_; try exact zT)
    repeat' (apply zK.s <;> intro hc <;> (try simp only [zhd] at hc) <;> (try have hw := V0a hc) <;> (refine zq33m ?_; try exact zT))
    all_goals (try clear zx)
    unfold layS
    rw [hst]
    refine shr_row hF (J := q.n) (q0 := p) rfl (fun a o h => ?_) (Hp.get_new_self (q.set J none) _) (row_weakT _ _ _ _)
    have hd := hF.dom a o h
    have hqa := hle a o h
    exact ⟨h, by omega, by rw [Hp.get_new_ne _ _ (show a ≠ (q.set J none).n by rw [Hp.zset_n]; omega), Hp.get_set_ne _ _ _ (by omega)]; exact hqa⟩
def R36x : Rel := RFrz R36
theorem c36x : Con C 36 R36x := con_frz C c36
theorem t36x {T : XCall} (h : Has T 36 R36x) (B : List Int) (c : X0a) (j m : Nat) {p : Hp} (hl : c.Tokens.l.length <= 1000000) (hr : c.Rules.l.length <= 1000000) (hm : B.length = m) (h2 : B.length <= 1000000) (h6 : ∀ x ∈ B, 0 <= x /\ x <= 255) (hg : p.t.get j = some (.var (.n (List.replicate m .s)) (.agg (B.map Y8)))) : T 36 [c.cv, .slc j [] 0 m] p = .ret (.tup [(readState c B).1.cv, I (readState c B).2]) (p.set j none) := by
 subst hm
 exact h _ _ _ ⟨[c.cv], j, _, B.map Y8, 1, by rw [List.length_map]; rfl, hg, fun x hx => by obtain ⟨y, _, rfl⟩ := List.mem_map.1 hx; rfl, ⟨c, partB B, rfl, hl, hr, nofun, Nat.le_trans h2 (by decide), h6, rfl⟩⟩
theorem Wrow_e (B : List Int) : Wrow B = .var (.n (List.replicate B.length .s)) (.agg (B.map Y8)) := rfl
theorem sub68 (n k : Nat) (q : List Nat) : subEq (.n (List.replicate n .s)) (k :: q) sh5 = (decide (k < n) && subEq sh5 q sh5) := K0y n k q sh5 sh5
theorem xor8_e (a b : Int) : IntKind.u8.wrap ((BitVec.ofInt IntKind.u8.bits a ^^^ BitVec.ofInt IntKind.u8.bits b).toNat : Int) = xor8 a b := rfl
def R7 : Rel := fun args p r => ∃ (x : Y0a) (l : Lst (Lst Int)) (at_ by_ : Int), args = [x.cv, Lst.cv (Lst.cv I) l, I at_, Y8 by_] /\ (0 <= by_ /\ by_ <= 255) /\ r = .ret (Bo true) p
theorem zq7 {A B : Prop} (k : B) (h : A = B := by have zy := zA @zw7 <| zA @rs7 <| zA @tt3 <| zA @tt5 <| zA @tt57 <| zA @tt61 <| zA @tt66 <| zA @tt68 <| zA @tt69 <| zA ti3.eq_1 <| zA ti5.eq_1 <| zA ti57.eq_1 <| zA ti61.eq_1 <| zA ti66.eq_1 <| zA ti68.eq_1 <| zA ti69.eq_1 <| zA @t_31 <| zA @t_32 <| zA @t_33m <| zA @t_34 <| zA @t_35 <| zA @t_36x <| zA @t_37 <| zA @t_38 <| zA @Y0u <| zA @Y0e <| zA @Y0f <| zA @zsl68 <| zA @ix68 <| zA @a68 <| zA @sa68 <| zA @xor8_e <| zA @Wrow_e <| zA @sub68 <| @hb; exact zQ) : A := h ▸ k
theorem c7 : Con C 7 R7 := by
 refine Q0e C ?_ ?_ ?_
 ·rintro args p r r' ⟨x, l, at_, by_, h, hb, e⟩ ⟨x', l', at_', by_', h', hb', e'⟩
  subst e; subst e'; simp_all [Y0a.inj_iff, X0a.inj_iff, K0a.inj_iff, X0n, K1e]
 ·rintro args p r ⟨x, l, at_, by_, h, hb, rfl⟩; exact zr1
 rintro args p r ⟨x, l, at_, by_, rfl, hb, rfl⟩
 refine zW C true [(31, R31), (32, R32), (33, R33m), (34, R34), (35, R35), (36, R36x), (37, R37), (38, R38)] ⟨c31, c32, c33m, c34, c35, c36x, c37, c38, zT⟩ rfl xf7 zc7_ok fun call zh hF => ?_
 have t_31 := @t31 _ zh.1
 have t_32 := @t32 _ zh.2.1
 have t_33m := @t33m _ zh.2.2.1
 have t_34 := @t34 _ zh.2.2.2.1
 have t_35 := @t35 _ zh.2.2.2.2.1
 have t_36x := @t36x _ zh.2.2.2.2.2.1
 have t_37 := @t37 _ zh.2.2.2.2.2.2.1
 have t_38 := @t38 _ zh.2.2.2.2.2.2.2.1
 clear zh
 have hl := cfg_len x
 have hL := cfg_legal x
 have hP := (Q0h hL).1
 generalize hC : cfgOf x = c at hl hL hP
 obtain ⟨hl1, hl2⟩ := hl
 have hS := Z11 hL l.l
 have dS := stateOf_dice c l.l
 generalize hSS : stateOf c l.l = S at hS dS
 have lS := lay_len hS
 have hsl := K1l hS
 have b0 := lay_byte c S
 have hrl := read_lay hS dS
 have hpl : (layS c S).length = ((stateBits c S).length + 7) / 8 := by unfold layS; rw [Q0i]
 have hpk := Y0g (n := at_) (m := ((layS c S).length : Int)) (by omega)
 have htn := fun h0 => turned_read (c := c) (s := S) (k := (pick at_ ((layS c S).length : Int)).toNat) (by omega) b0 hb h0
 have htz := turned_zero b0 (k := (pick at_ ((layS c S).length : Int)).toNat) (by omega)
 have htb := turned_byte b0 (pick at_ ((layS c S).length : Int)).toNat by_
 have htl : (turned (layS c S) (pick at_ ((layS c S).length : Int)).toNat by_).length = (layS c S).length := by simp [turned]
 have t3 := @t_36x (turned (layS c S) (pick at_ ((layS c S).length : Int)).toNat by_) c
 have hne : ¬ ((layS c S).length : Int) = 0 := by omega
 have hkn : (pick at_ ((layS c S).length : Int)).toNat < (layS c S).length := by omega
 have hde : decide (S = S) = true := decide_eq_true rfl
 by_cases h0 : by_ = 0
 ·subst h0
  have r1 : (readState c (turned (layS c S) (pick at_ ((layS c S).length : Int)).toNat 0)).1 = S := by rw [htz, hrl]
  have r2 : (readState c (turned (layS c S) (pick at_ ((layS c S).length : Int)).toNat 0)).2 = 0 := by rw [htz, hrl]
  (have zx := zA hC (zA hSS (zA hS (zA t3 (zA hne (zA hkn (zA r1 (zA r2 hde))))))); refine zq7 ?_; try exact zT)
  repeat' (apply zK.s <;> intro hc <;> (try simp only [zhd] at hc) <;> (try have hw := V0a hc) <;> (refine zq7 ?_; try exact zT))
  all_goals (try clear zx)
  exact V0d hF zle (X0c rfl (K0d (by intro jj; simp [CV.has])))
 ·rcases htn h0 with ⟨r1, r2⟩ | ⟨t, r1, r2, rt, hd⟩
  ·(have zx := zA hC (zA hSS (zA hS (zA t3 (zA hne (zA hkn (zA h0 (zA r1 r2))))))); refine zq7 ?_; try exact zT)
   repeat' (apply zK.s <;> intro hc <;> (try simp only [zhd] at hc) <;> (try have hw := V0a hc) <;> (refine zq7 ?_; try exact zT))
   all_goals (try clear zx)
   ·exact absurd rfl hc
   ·exact V0d hF zle (X0c rfl (K0d (by intro jj; simp [CV.has])))
  ·(have zx := zA hC (zA hSS (zA hS (zA t3 (zA hne (zA hkn (zA h0 (zA r1 (zA r2 (zA rt hd))))))))); refine zq7 ?_; try exact zT)
   repeat' (apply zK.s <;> intro hc <;> (try simp only [zhd] at hc) <;> (try have hw := V0a hc) <;> (refine zq7 ?_; try exact zT))
   all_goals (try clear zx)
   exact V0d hF zle (X0c rfl (K0d (by intro jj; simp [CV.has])))
end Go.Proofs.Ytpchcfkebljopaa
end
section
namespace Go.Proofs.Ytpchcfkebljopaa
open Go.Cl Go Go.ChangeShapes Go.WideShapes Go.ChangeAt Go.RowKit
set_option maxRecDepth 100000
set_option linter.constructorNameAsVariable false
theorem a58 {n : Nat} {v : CV} (h : Ty2 Try.prog (n + 3) 58 v) : ∃ s : Lst (Lst Int), v = s.cv (Lst.cv I) /\ (s.tl = .view \/ s.tl = .nil) := Z1w Try.underlying58 (fun _ h => let ⟨i, e, _⟩ := a24 h; ⟨i, e⟩) h
theorem a57 {n : Nat} {v : CV} (h : Ty2 Try.prog (n + 4) 57 v) : ∃ x : Y0a, v = x.cv /\ inI x.Players := by
 obtain ⟨l, rfl, hs⟩ := of_struct Try.underlying57 h
 replace h := hs
 obtain ⟨v0, l0, rfl, h0, h⟩ := V0l h
 obtain ⟨v1, l1, rfl, h1, h⟩ := V0l h
 obtain ⟨v2, l2, rfl, h2, h⟩ := V0l h
 obtain ⟨v3, l3, rfl, h3, h⟩ := V0l h
 obtain ⟨v4, l4, rfl, h4, h⟩ := V0l h
 obtain ⟨v5, l5, rfl, h5, h⟩ := V0l h
 obtain ⟨v6, l6, rfl, h6, h⟩ := V0l h
 obtain ⟨v7, l7, rfl, h7, h⟩ := V0l h
 obtain rfl := all2_nil h
 obtain ⟨x0, rfl, w0⟩ := a3 (n := n + 2) h0
 obtain ⟨x1, rfl, _⟩ := a3 (n := n + 2) h1
 obtain ⟨x2, rfl, _⟩ := a3 (n := n + 2) h2
 obtain ⟨x3, rfl, _⟩ := a3 (n := n + 2) h3
 obtain ⟨x4, rfl, _⟩ := a3 (n := n + 2) h4
 obtain ⟨x5, rfl, _⟩ := a3 (n := n + 2) h5
 obtain ⟨x6, rfl, _⟩ := a3 (n := n + 2) h6
 obtain ⟨x7, rfl, _⟩ := a22 (n := n) h7
 exact ⟨⟨x0, x1, x2, x3, x4, x5, x6, x7⟩, rfl, w0⟩
end Go.Proofs.Ytpchcfkebljopaa
end
section
namespace Go.Proofs.Ytpchcfkebljopaa
open Go.Cl Go Go.RowKit
set_option maxRecDepth 100000
set_option linter.constructorNameAsVariable false
theorem of_u8 {P : Program} {n : Nat} {t : TypeId} {v : CV} (hu : P.underlying t = some (.int .u8)) (h : Ty2 P (n + 1) t v) : ∃ i, v = Y8 i /\ (0 <= i /\ i <= 255) := by
 simp only [Ty2, hu] at h
 obtain ⟨i, rfl, hw⟩ := h
 simp only [Lit.wf, Bool.and_eq_true, decide_eq_true_eq] at hw
 exact ⟨i, rfl, hw⟩
theorem a5 {n : Nat} {v : CV} (h : Ty2 Try.prog (n + 1) 5 v) : ∃ i, v = Y8 i /\ (0 <= i /\ i <= 255) := of_u8 Try.underlying5 h
end Go.Proofs.Ytpchcfkebljopaa
end
