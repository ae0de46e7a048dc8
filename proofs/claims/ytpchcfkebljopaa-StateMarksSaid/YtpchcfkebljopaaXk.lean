import Derived.Test.YtpchcfkebljopaaXj
set_option linter.unusedSimpArgs false
set_option linter.unusedVariables false
set_option linter.constructorNameAsVariable false
set_option linter.defProp false
set_option maxHeartbeats 8000000
section
namespace Go.Proofs.Ytpchcfkebljopaa
open Go.Cl Go Go.RowKit
set_option maxRecDepth 100000
set_option linter.constructorNameAsVariable false
def J58 (c : X0a) (p : Hp) (n : Nat) (ρ : Env) (q : Hp) : Prop :=
 ∃ (k : Nat), n = c.Players.toNat - k /\ k <= c.Players.toNat /\ ρ 1 = .ptr p.n [] /\ ρ 2 = .ptr (p.n + 1) [] /\ ρ 3 = .ptr (p.n + 2) [] /\ ρ 14 = I c.Players /\ ρ 15 = I k /\ q.t.get p.n = some (.var sh61 c.cv) /\ q.t.get (p.n + 1) = some (.var sh66 K0a.zero.cv) /\ q.t.get (p.n + 2) = some (.var sh66 (firstK c k).cv) /\ p.n + 2 < q.n /\ HpLe p q
def R58 : Rel := fun args p r => ∃ (c : X0a), args = [c.cv] /\ (c.Tokens.l.length <= 1000000) /\ (c.Rules.l.length <= 1000000) /\ r = .ret (firstS c).cv p
theorem t58 {T : XCall} (h : Has T 58 R58) (c : X0a) {p : Hp} (hl : c.Tokens.l.length <= 1000000) (hr : c.Rules.l.length <= 1000000) : T 58 [c.cv] p = .ret (firstS c).cv p := h _ _ _ ⟨c, rfl, hl, hr, rfl⟩
theorem zq58 {A B : Prop} (k : B) (h : A = B := by have zy := zA @zw58 <| zA @rs58 <| zA @tt3 <| zA @tt34 <| zA @tt61 <| zA @tt63 <| zA @tt66 <| zA ti3.eq_1 <| zA ti34.eq_1 <| zA ti61.eq_1 <| zA ti63.eq_1 <| zA ti66.eq_1 <| zA @t_60 <| zA @t_64 <| zA @t_133 <| zA @V0e <| zA @Y0f <| zA @Y0e <| zA @zsl63 <| zA @hl <| @hr; exact zQ) : A := h ▸ k
theorem zno58 {P : Prop} (h : P := by intro jj; simp [CV.has, CV.hasL, fault, X0b.nohas, K0a.nohas, Q0a.nohas]) : P := h
theorem zge58 {P : Prop} (h : P := by simp (disch := first | exact zdl | fail) only [zheap]; first | done | rfl) : P := h
theorem c58 : Con C 58 R58 := by
 refine Q0e C ?_ ?_ ?_
 ·rintro args p r r' ⟨c, h, hl, hr, e⟩ ⟨c', h', hl', hr', e'⟩
  subst e; subst e'; simp_all [X0a.inj_iff, K0a.inj_iff, Q0a.inj_iff]
 ·rintro args p r ⟨c, h, hl, hr, rfl⟩; exact zr1
 rintro args p r ⟨c, rfl, hl, hr, rfl⟩
 refine zW C false [(60, R60), (64, R64), (133, R133)] ⟨c60, c64, c133, zT⟩ rfl xf58 zc58_ok fun call zh hF => ?_
 have t_60 := @t60 _ zh.1
 have t_64 := @t64 _ zh.2.1
 have t_133 := @t133 _ zh.2.2.1
 clear zh
 cases hL : legalC c with
 | false =>
  (have zx := hL; refine zq58 ?_; try exact zT)
  repeat' (apply zK.s <;> intro hc <;> (try simp only [zhd] at hc) <;> (try have hw := V0a hc) <;> (refine zq58 ?_; try exact zT))
  all_goals (try clear zx)
  refine K0d hF zle (K0c ?_ (Z0c zno58))
  simp [firstS, hL]; rfl
 | true =>
  have hP := (Y0g hL).1
  have hPn : ((c.Players.toNat : Nat) : Int) = c.Players := by omega
  (have zx := hL; refine zq58 ?_; try exact zT)
  repeat' (apply zK.s <;> intro hc <;> (try simp only [zhd] at hc) <;> (try have hw := V0a hc) <;> (refine zq58 ?_; try exact zT))
  all_goals (try clear zx)
  (show W C false noExt call (ZC.loop Y16) _ _ _); refine Y0i C false noExt call Y16 _ _ _ (J58 c p) c.Players.toNat ⟨0, rfl, by omega, (by simp [put_at, Y0c, K0e]), (by simp [put_at, Y0c, K0e]), (by simp [put_at, Y0c, K0e]), (by simp [put_at, Y0c, K0e]), (by simp [put_at, Y0c, K0e]), zge58, zge58, zge58, (zb9), zle⟩ ?_
  rintro n ρ q ⟨k, rfl, hk, e1, e2, e3, e14, e15, g1, g2, g3, hn, hle⟩
  by_cases hlt : (k : Int) < c.Players
  ·have hbk := (firstK c k).hBodies
   have hk8 : k < 8 := by omega
   (have zx := zA e1 (zA e2 (zA e3 (zA e14 (zA e15 (zA g1 (zA g2 (zA g3 hlt))))))); refine zq58 ?_; try exact zT)
   repeat' (apply zK.s <;> intro hc <;> (try simp only [zhd] at hc) <;> (try have hw := V0a hc) <;> (refine zq58 ?_; try exact zT))
   all_goals (try clear zx)
   exact ⟨c.Players.toNat - (k + 1), by omega, k + 1, rfl, by omega, zev, zev, zev, zev, zev, zg9, zg9, zg9, zb9, zlq⟩
  ·have hk8 : k = c.Players.toNat := by omega
   subst hk8
   (have zx := zA e1 (zA e2 (zA e3 (zA e14 (zA e15 (zA g1 (zA g2 (zA g3 hlt))))))); refine zq58 ?_; try exact zT)
   repeat' (apply zK.s <;> intro hc <;> (try simp only [zhd] at hc) <;> (try have hw := V0a hc) <;> (refine zq58 ?_; try exact zT))
   all_goals (try clear zx)
   refine K0d hF zlq (K0c ?_ (Z0c zno58))
   simp [firstS, hL]
end Go.Proofs.Ytpchcfkebljopaa
end
section
namespace Go.Proofs.Ytpchcfkebljopaa
open Go.Cl Go Go.RowKit
def stateOf (c : X0a) (l : List (Lst Int)) : K0a := gameFold c ((rowsOf c.Players l).map Lst.l) (firstS c)
theorem V0p {c : X0a} (h : legalC c = true) (l : List (Lst Int)) : stateRight c (stateOf c l) = true := by
 have hf := Z1d h
 have hr := Z07 c.Players l
 exact (X1u _ _ hf.1 (by rw [hf.2, List.length_map]; omega)).1
theorem Z0u (c : X0a) (l : List (Lst Int)) : diceOk (stateOf c l) := fold_dice _ (Q1y c)
theorem lay_eq {c : X0a} {s t : K0a} (hs : stateRight c s = true) (hd : diceOk s) (ht : stateRight c t = true) (hd2 : diceOk t) : decide (layS c s = layS c t) = decide (s = t) := by
 by_cases h : s = t
 ·subst h; simp
 ·rw [decide_eq_false h, decide_eq_false]
  exact fun e => h (lay_inj hs hd ht hd2 e)
end Go.Proofs.Ytpchcfkebljopaa
end
section
namespace Go.Proofs.Ytpchcfkebljopaa
open Go.Cl Go Go.RowKit
set_option maxRecDepth 100000
set_option linter.constructorNameAsVariable false
def J87 (c : X0a) (s : K0a) (rows : Lst (Lst Q0b)) (p : Hp) (n : Nat) (ρ : Env) (q : Hp) : Prop :=
 ∃ (k : Nat) (st : K0a), n = rows.l.length - k /\ k <= rows.l.length /\ ρ 2 = rows.cv (Lst.cv Q0b.cv) /\ ρ 3 = .ptr p.n [] /\ ρ 4 = .ptr (p.n + 1) [] /\ ρ 6 = .ptr (p.n + 2) [] /\ ρ 7 = I k /\ q.t.get p.n = some (.var sh61 c.cv) /\ q.t.get (p.n + 1) = some (.var sh66 st.cv) /\ q.t.get (p.n + 2) = some (.var sh66 K0a.zero.cv) /\ gameFold c ((rows.l.drop k).map Lst.l) st = gameFold c (rows.l.map Lst.l) s /\ p.n + 2 < q.n /\ HpLe p q
def R87 : Rel := fun args p r => ∃ (c : X0a) (s : K0a) (rows : Lst (Lst Q0b)), args = [c.cv, s.cv, rows.cv (Lst.cv Q0b.cv)] /\ (c.Tokens.l.length <= 1000000) /\ (c.Rules.l.length <= 1000000) /\ (rows.l.length <= 1000000) /\ r = .ret (gameFold c (rows.l.map Lst.l) s).cv p
theorem t87 {T : XCall} (h : Has T 87 R87) (c : X0a) (s : K0a) (rows : Lst (Lst Q0b)) {p : Hp} (hl : c.Tokens.l.length <= 1000000) (hr : c.Rules.l.length <= 1000000) (hn0 : rows.l.length <= 1000000) : T 87 [c.cv, s.cv, rows.cv (Lst.cv Q0b.cv)] p = .ret (gameFold c (rows.l.map Lst.l) s).cv p := h _ _ _ ⟨c, s, rows, rfl, hl, hr, hn0, rfl⟩
theorem zq87 {A B : Prop} (k : B) (h : A = B := by have zy := zA @zw87 <| zA @rs87 <| zA @tt3 <| zA @tt61 <| zA @tt66 <| zA @tt92 <| zA @tt108 <| zA ti3.eq_1 <| zA ti61.eq_1 <| zA ti66.eq_1 <| zA ti92.eq_1 <| zA ti108.eq_1 <| zA @t_67 <| zA @V0e <| zA @Y0f <| zA @zsl92 <| zA @zsl108 <| zA @hl <| zA @hr <| @hn0; exact zQ) : A := h ▸ k
theorem zno87 {P : Prop} (h : P := by intro jj; simp [CV.has, CV.hasL, fault, X0b.nohas, K0a.nohas]) : P := h
theorem zge87 {P : Prop} (h : P := by simp (disch := first | exact zdl | fail) only [zheap]; first | done | rfl) : P := h
theorem c87 : Con C 87 R87 := by
 refine Q0e C ?_ ?_ ?_
 ·rintro args p r r' ⟨c, s, rows, h, hl, hr, hn0, e⟩ ⟨c', s', rows', h', hl', hr', hn0', e'⟩
  subst e; subst e'; simp_all [X0a.inj_iff, K0a.inj_iff, Q16, Z03, Q16]
 ·rintro args p r ⟨c, s, rows, h, hl, hr, hn0, rfl⟩; exact zr1
 rintro args p r ⟨c, s, rows, rfl, hl, hr, hn0, rfl⟩
 refine zW C false [(67, R67)] ⟨c67, zT⟩ rfl xf87 zc87_ok fun call zh hF => ?_
 have t_67 := @t67 _ zh.1
 clear zh
 (have zx := zT; refine zq87 ?_; try exact zT)
 repeat' (apply zK.s <;> intro hc <;> (try simp only [zhd] at hc) <;> (try have hw := V0a hc) <;> (refine zq87 ?_; try exact zT))
 all_goals (try clear zx)
 (show W C false noExt call (ZC.loop zn87_7) _ _ _); refine Y0i C false noExt call zn87_7 _ _ _ (J87 c s rows p) rows.l.length ⟨0, s, rfl, by omega, by simp [put_at, Y0c, K0e, Y1c], (by simp [put_at, Y0c, K0e]), (by simp [put_at, Y0c, K0e]), (by simp [put_at, Y0c, K0e]), (by simp [put_at, Y0c, K0e]), zge87, zge87, zge87, rfl, (zb9), zle⟩ ?_
 rintro n ρ q ⟨k, st, rfl, hk, e2, e3, e4, e6, e7, g1, g2, g3, hj, hn, hle⟩
 by_cases hlt : (k : Int) < rows.l.length
 ·rw [Y0x (l := rows.l) (k := k) (by omega)] at hj
  (have zx := zA e2 (zA e3 (zA e4 (zA e6 (zA e7 (zA g1 (zA g2 (zA g3 hlt))))))); refine zq87 ?_; try exact zT)
  repeat' (apply zK.s <;> intro hc <;> (try simp only [zhd] at hc) <;> (try have hw := V0a hc) <;> (refine zq87 ?_; try exact zT))
  all_goals (try clear zx)
  exact ⟨rows.l.length - (k + 1), by omega, k + 1, stepS c (nth rows.l k).l st, rfl, by omega, zev, zev, zev, zev, zev, zg9, zg9, zg9, hj, zb9, zlq⟩
 ·have hk8 : k = rows.l.length := by omega
  subst hk8
  rw [List.drop_eq_nil_of_le (Nat.le_refl _)] at hj
  have hj : st = gameFold c (rows.l.map Lst.l) s := hj
  (have zx := zA e2 (zA e3 (zA e4 (zA e6 (zA e7 (zA g1 (zA g2 (zA g3 hlt))))))); refine zq87 ?_; try exact zT)
  repeat' (apply zK.s <;> intro hc <;> (try simp only [zhd] at hc) <;> (try have hw := V0a hc) <;> (refine zq87 ?_; try exact zT))
  all_goals (try clear zx)
  refine K0d hF zlq (K0c ?_ (Z0c zno87))
  rw [hj]
def R32 : Rel := fun args p r => ∃ (c : X0a) (l : Lst (Lst Int)), args = [c.cv, Lst.cv (Lst.cv I) l] /\ (c.Tokens.l.length <= 1000000) /\ (c.Rules.l.length <= 1000000) /\ (1 <= c.Players /\ c.Players <= 100) /\ r = .ret (stateOf c l.l).cv p
theorem t32 {T : XCall} (h : Has T 32 R32) (c : X0a) (l : Lst (Lst Int)) {p : Hp} (hl : c.Tokens.l.length <= 1000000) (hr : c.Rules.l.length <= 1000000) (hp : 1 <= c.Players /\ c.Players <= 100) : T 32 [c.cv, Lst.cv (Lst.cv I) l] p = .ret (stateOf c l.l).cv p := h _ _ _ ⟨c, l, rfl, hl, hr, hp, rfl⟩
theorem zq32 {A B : Prop} (k : B) (h : A = B := by have zy := zA @zw32 <| zA @rs32 <| zA @tt3 <| zA @tt61 <| zA @tt66 <| zA ti3.eq_1 <| zA ti61.eq_1 <| zA ti66.eq_1 <| zA @t_61 <| zA @t_66 <| zA @t_87 <| zA @V0e <| zA @Y0f <| zA @ownL_nil <| zA @ownL_cons <| zA @ownH_nil <| zA @ownH_cons <| zA @hl <| zA @hr <| @hp; exact zQ) : A := h ▸ k
theorem zno32 {P : Prop} (h : P := by intro jj; simp [CV.has, CV.hasL, fault, X0b.nohas, K0a.nohas]) : P := h
theorem c32 : Con C 32 R32 := by
 refine Q0e C ?_ ?_ ?_
 ·rintro args p r r' ⟨c, l, h, hl, hr, hp, e⟩ ⟨c', l', h', hl', hr', hp', e'⟩
  subst e; subst e'; simp_all [X0a.inj_iff, K0a.inj_iff, X01]
 ·rintro args p r ⟨c, l, h, hl, hr, hp, rfl⟩; exact zr1
 rintro args p r ⟨c, l, rfl, hl, hr, hp, rfl⟩
 refine zW C false [(61, R61), (66, R66), (87, R87)] ⟨c61, c66, c87, zT⟩ rfl xf32 zc32_ok fun call zh hF => ?_
 have t_61 := @t61 _ zh.1
 have t_66 := @t66 _ zh.2.1
 have t_87 := @t87 _ zh.2.2.1
 clear zh
 have hrl := Z07 c.Players l.l
 have hst : stateOf c l.l = gameFold c ((rowsOf c.Players l.l).map Lst.l) (firstS c) := rfl
 generalize hR : rowsOf c.Players l.l = R at hrl hst
 cases R with
 | nil =>
  (have zx := hR; refine zq32 ?_; try exact zT)
  repeat' (apply zK.s <;> intro hc <;> (try simp only [zhd] at hc) <;> (try have hw := V0a hc) <;> (refine zq32 ?_; try exact zT))
  all_goals (try clear zx)
  rw [hst]
  exact K0d hF zle (K0c rfl (Z0c zno32))
 | cons r R =>
  have hrr : R.length <= 39 := by simpa using hrl
  (have zx := hR; refine zq32 ?_; try exact zT)
  repeat' (apply zK.s <;> intro hc <;> (try simp only [zhd] at hc) <;> (try have hw := V0a hc) <;> (refine zq32 ?_; try exact zT))
  all_goals (try clear zx)
  rw [hst]
  exact K0d hF zle (K0c rfl (Z0c zno32))
theorem Y17 (l : List Int) : (partB l).tl ≠ .view := nofun
def oneS : X0a := { Players := 1, Period := 1, Grace := 0, Start := 0, Frames := 50, Seed := 0, Rate := 4607182418800017408, Depth := 4617315517961601024, Rules := ⟨.nil, [], fun _ => rfl⟩, Tokens := ⟨.exact, [3], nofun⟩ }
def R92 : Rel := fun args p r => args = [] /\ r = .ret oneS.cv p
theorem t92 {T : XCall} (h : Has T 92 R92)  {p : Hp}  : T 92 [] p = .ret oneS.cv p := h _ _ _ ⟨rfl, rfl⟩
theorem zq92 {A B : Prop} (k : B) (h : A = B := by have zy := zA @zw92 <| zA @rs92 <| zA @tt24 <| zA @tt61 <| zA ti24.eq_1 <| zA ti61.eq_1 <| zA @V0e <| @zsl24; exact zQ) : A := h ▸ k
theorem c92 : Con C 92 R92 := by
 refine Q0e C ?_ ?_ ?_
 ·rintro args p r r' ⟨h, e⟩ ⟨h', e'⟩
  subst e; subst e'; simp_all [X0a.inj_iff, Y0u]
 ·rintro args p r ⟨h, rfl⟩; exact zr1
 rintro args p r ⟨rfl, rfl⟩
 refine zW C false [] zT rfl xf92 zc92_ok fun call zh hF => ?_
 clear zh
 (have zx := zT; refine zq92 ?_; try exact zT)
 repeat' (apply zK.s <;> intro hc <;> (try simp only [zhd] at hc) <;> (try have hw := V0a hc) <;> (refine zq92 ?_; try exact zT))
 all_goals (try clear zx)
 exact K0d hF zle (K0c rfl (Z0c (by intro jj hj; rcases (X0a.has oneS jj).1 hj with h | h <;> cases h)))
theorem Q09 : legalC oneS = true := by decide +kernel
theorem oneS_bits : bodiesN (firstS oneS).Bodies = 185 := by
 have h : firstS oneS = firstK oneS 1 := by unfold firstS; rw [if_pos Q09]; rfl
 rw [h]; decide +kernel
theorem oneS_x : (nth (firstS oneS).Bodies 0).X = 2048 := by
 have h : firstS oneS = firstK oneS 1 := by unfold firstS; rw [if_pos Q09]; rfl
 rw [h]; decide +kernel
def R34 : Rel := fun args p r => args = [] /\ r = .ret (Bo true) p
theorem t34 {T : XCall} (h : Has T 34 R34)  {p : Hp}  : T 34 [] p = .ret (Bo true) p := h _ _ _ ⟨rfl, rfl⟩
theorem zdis34 {P : Prop} (h : P := by first | exact zdis | (simp only [Hp.bump_n, Hp.znew_n, Hp.zset_n, List.length_nil, List.length_cons, List.length_append, List.length_map, Q0l]; (first | done | omega)) | (simp (disch := first | exact zd1 | (simp only [Hp.bump_n, Hp.znew_n, Hp.zset_n, List.length_nil, List.length_cons, List.length_append, List.length_map, Q0l]; (first | done | omega))) only [zheap, zx]; (first | done | rfl)) | fail) : P := h
theorem zq34 {A B : Prop} (k : B) (h : A = B := by have zy := zA @zw34 <| zA @rs34 <| zA @tt3 <| zA @tt34 <| zA @tt61 <| zA @tt63 <| zA @tt66 <| zA @tt68 <| zA @tt69 <| zA ti3.eq_1 <| zA ti34.eq_1 <| zA ti61.eq_1 <| zA ti63.eq_1 <| zA ti66.eq_1 <| zA ti68.eq_1 <| zA ti69.eq_1 <| zA @t_92 <| zA @t_58 <| zA @t_33 <| zA @t_36 <| zA @t_35 <| zA @V0e <| zA @Y0f <| zA @Y0e <| zA @zsl63 <| zA @zsl68 <| @Q0l; have zd := @zdis34; exact zQd) : A := h ▸ k
theorem zno34 {P : Prop} (h : P := by intro jj; simp [CV.has, CV.hasL, fault, X0b.nohas, K0a.nohas, Q0a.nohas]) : P := h
theorem c34 : Con C 34 R34 := by
 refine Q0e C ?_ ?_ ?_
 ·rintro args p r r' ⟨h, e⟩ ⟨h', e'⟩
  subst e; subst e'; simp_all [X0a.inj_iff, K0a.inj_iff, Q0a.inj_iff, K0l]
 ·rintro args p r ⟨h, rfl⟩; exact zr1
 rintro args p r ⟨rfl, rfl⟩
 refine zW C false [(92, R92), (58, R58), (33, R33), (36, R36), (35, R35)] ⟨c92, c58, c33, c36, c35, zT⟩ rfl xf34 zc34_ok fun call zh hF => ?_
 have t_92 := @t92 _ zh.1
 have t_58 := @t58 _ zh.2.1
 have t_33 := @t33 _ zh.2.2.1
 have t_36 := @t36 _ zh.2.2.2.1
 have t_35 := @t35 _ zh.2.2.2.2.1
 clear zh
 have hL := Q09
 have hf := Z1d hL
 have hR := hf.1
 have hd := Q1y oneS
 have hrl := K1g hR hd
 have hlen : (layS oneS (firstS oneS)).length = 37 := by
  unfold layS; rw [V0i, Y1p hR, oneS_bits]; rfl
 have hby := K0s oneS (firstS oneS)
 have hx := oneS_x
 have ht : oneS.Tokens.l.length <= 1000000 := by decide
 have hrr : oneS.Rules.l.length <= 1000000 := by decide
 have hb := (firstS oneS).hBodies
 generalize hS : firstS oneS = S at hR hrl hlen hby hx hb
 have hl2 : ((layS oneS S).length : Int) = 37 := by omega
 have hr1 : (readState oneS (layS oneS S)).1 = S := by rw [hrl]
 have hr2 : (readState oneS (layS oneS S)).2 = 0 := by rw [hrl]
 have hde : decide (S = S) = true := by simp
 have hv : (partB (layS oneS S)).tl ≠ .view := Y17 _
 have hb2 : ∀ x ∈ (partB (layS oneS S)).l, 0 <= x /\ x <= 255 := hby
 (have zx := zA hS (zA hR (zA hl2 (zA hr1 (zA hr2 (zA hde hx))))); refine zq34 ?_; try exact zT)
 repeat' (apply zK.s <;> intro hc <;> (try simp only [zhd] at hc) <;> (try have hw := V0a hc) <;> (refine zq34 ?_; try exact zT))
 all_goals (try clear zx)
 exact K0d hF zle (K0c rfl (Z0c zno34))
def J86 (l : Lst V0b) (p : Hp) (n : Nat) (ρ : Env) (q : Hp) : Prop :=
 ∃ (k : Nat) (acc : Lst Y0b), n = 16 - k /\ k <= 16 /\ k <= l.l.length /\ ρ 0 = l.cv V0b.cv /\ ρ 3 = acc.cv Y0b.cv /\ ρ 4 = I k /\ acc.l = (l.l.take k).map fixOp /\ (acc.tl = .nil \/ ∃ j, acc.tl = .own j /\ p.n <= j /\ j < q.n /\ q.t.get j = some (.tail acc.l.length) /\ 0 < acc.l.length) /\ p.n <= q.n /\ HpLe p q
def R86 : Rel := fun args p r => ∃ (l : Lst V0b), args = [l.cv V0b.cv] /\ r = .ret (Lst.cv Y0b.cv (partL (rulesOf l.l))) p
theorem t86 {T : XCall} (h : Has T 86 R86) (l : Lst V0b) {p : Hp}  : T 86 [l.cv V0b.cv] p = .ret (Lst.cv Y0b.cv (partL (rulesOf l.l))) p := h _ _ _ ⟨l, rfl, rfl⟩
theorem zq86 {A B : Prop} (k : B) (h : A = B := by have zy := zA @zw86 <| zA @rs86 <| zA @tt3 <| zA @tt22 <| zA @tt23 <| zA @tt29 <| zA @tt31 <| zA ti3.eq_1 <| zA ti22.eq_1 <| zA ti23.eq_1 <| zA ti29.eq_1 <| zA ti31.eq_1 <| zA @t_21 <| zA @V04 <| zA @K0p <| zA @zsl22 <| @zsl23; exact zQ) : A := h ▸ k
theorem c86 : Con C 86 R86 := by
 refine Q0e C ?_ ?_ ?_
 ·rintro args p r r' ⟨l, h, e⟩ ⟨l', h', e'⟩
  subst e; subst e'; simp_all [V0b.inj_iff, Y0b.inj_iff, Z17, V0q]
 ·rintro args p r ⟨l, h, rfl⟩; exact zr1
 rintro args p r ⟨l, rfl, rfl⟩
 refine zW C false [(21, R21)] ⟨c21, zT⟩ rfl xf86 zc86_ok fun call zh hF => ?_
 have t_21 := @t21 _ zh.1
 clear zh
 (have zx := zT; refine zq86 ?_; try exact zT)
 repeat' (apply zK.s <;> intro hc <;> (try simp only [zhd] at hc) <;> (try have hw := V0a hc) <;> (refine zq86 ?_; try exact zT))
 all_goals (try clear zx)
 show W C false noExt call (ZC.block 0 (ZC.loop zn86_9)) _ _ (seqQ _ _)
 refine W_cut C false noExt call _ _ _ _ (fun ρ q => ∃ acc : Lst Y0b, ρ 3 = acc.cv Y0b.cv /\ acc.l = rulesOf l.l /\ (acc.tl = .nil \/ (∃ j, acc.tl = .own j) /\ 0 < acc.l.length) /\ HpLe p q) ?_ ?_
 ·(show W C false noExt call (ZC.loop zn86_9) _ _ _); refine Y0i C false noExt call zn86_9 _ _ _ (J86 l p) 16 ⟨0, ⟨.nil, [], fun _ => rfl⟩, rfl, by omega, by omega, (by simp [put_at, Y0c, K0e]), by simp [put_at, Y0c, K0e, Lst.cv], (by simp [put_at, Y0c, K0e]), by simp, .inl rfl, by omega, zle⟩ ?_
  rintro n ρ q ⟨k, ⟨tl, al, ao⟩, rfl, hk, hkl, e0, e3, e4, hacc, happ, hn, hle⟩
  have hal : al.length = k := by simp only at hacc; rw [hacc]; simp; omega
  by_cases hlt : (k : Int) < l.l.length
  ·by_cases h16 : (k : Int) < 16
   ·have htk := take_nx (l := l.l) (k := k) (by omega)
    generalize hx : nth l.l k = x at htk
    cases hR : opRight (handOp x) with
    | true =>
     have hfx : fixOp x = handOp x := by simp [fixOp, hR]
     have hR2 := hR
     simp only [opRight, Bool.and_eq_true] at hR2
     have w1 := V0a hR2.1.1
     have w2 := V0a hR2.1.2
     have w3 := V0a hR2.2
     have n1 : ¬ (handOp x).Code < 1 := by omega
     have n2 : ¬ (13 : Int) < (handOp x).Code := by omega
     have n3 : ¬ (handOp x).A < -1000000 := by omega
     have n4 : ¬ (1000000 : Int) < (handOp x).A := by omega
     have n5 : ¬ (handOp x).B < -1000000 := by omega
     have n6 : ¬ (1000000 : Int) < (handOp x).B := by omega
     rcases happ with ht | ⟨j, ht, hj1, hj2, g1, hj4⟩
     ·simp only at ht
      subst ht
      (have zx := zA e0 (zA e3 (zA e4 (zA hlt (zA h16 (zA hx (zA n1 (zA n2 (zA n3 (zA n4 (zA n5 n6)))))))))); refine zq86 ?_; try exact zT)
      repeat' (apply zK.s <;> intro hc <;> (try simp only [zhd] at hc) <;> (try have hw := V0a hc) <;> (refine zq86 ?_; try exact zT))
      all_goals (try clear zx)
      exact ⟨16 - (k + 1), by omega, k + 1, ⟨.own (q.n + 1), al ++ [fixOp x], nofun⟩, rfl, by omega, by omega, zev, by simp [put_at, Y0c, hfx], zev, by simp only at hacc; rw [htk, List.map_append, hacc]; rfl, .inr ⟨q.n + 1, rfl, by omega, zb9, by simp (disch := first | exact zdl | fail) only [zheap, List.length_append, List.length_cons, List.length_nil], by simp⟩, zb9, zlq⟩
     ·simp only at ht g1 hj4
      subst ht
      (have zx := zA e0 (zA e3 (zA e4 (zA hlt (zA h16 (zA hx (zA n1 (zA n2 (zA n3 (zA n4 (zA n5 (zA n6 g1))))))))))); refine zq86 ?_; try exact zT)
      repeat' (apply zK.s <;> intro hc <;> (try simp only [zhd] at hc) <;> (try have hw := V0a hc) <;> (refine zq86 ?_; try exact zT))
      all_goals (try clear zx)
      exact ⟨16 - (k + 1), by omega, k + 1, ⟨.own (q.n + 1), al ++ [fixOp x], nofun⟩, rfl, by omega, by omega, zev, by simp [put_at, Y0c, hfx], zev, by simp only at hacc; rw [htk, List.map_append, hacc]; rfl, .inr ⟨q.n + 1, rfl, by omega, zb9, by simp (disch := first | exact zdl | fail) only [zheap, List.length_append, List.length_cons, List.length_nil], by simp⟩, zb9, zlq⟩
    | false =>
     have hfx : fixOp x = ⟨13, 0, 0⟩ := by simp [fixOp, hR]
     have hkill : ¬ ((handOp x).Code < 1) -> ¬ ((13 : Int) < (handOp x).Code) -> ¬ ((handOp x).A < -1000000) -> ¬ ((1000000 : Int) < (handOp x).A) -> ¬ ((handOp x).B < -1000000) -> ¬ ((1000000 : Int) < (handOp x).B) -> False := by
      intro a b c d e f
      have : opRight (handOp x) = true := by simp [opRight, within]; omega
      rw [hR] at this; cases this
     rcases happ with ht | ⟨j, ht, hj1, hj2, g1, hj4⟩
     ·simp only at ht
      subst ht
      (have zx := zA e0 (zA e3 (zA e4 (zA hlt (zA h16 hx)))); refine zq86 ?_; try exact zT)
      repeat' (apply zK.s <;> intro hc <;> (try simp only [zhd] at hc) <;> (try have hw := V0a hc) <;> (refine zq86 ?_; try exact zT))
      all_goals (try clear zx)
      all_goals first | exact (hkill (by assumption) (by assumption) (by assumption) (by assumption) (by assumption) (by assumption)).elim | exact ⟨16 - (k + 1), by omega, k + 1, ⟨.own (q.n + 1), al ++ [fixOp x], nofun⟩, rfl, by omega, by omega, zev, by simp [put_at, Y0c, hfx], zev, by simp only at hacc; rw [htk, List.map_append, hacc]; rfl, .inr ⟨q.n + 1, rfl, by omega, zb9, by simp (disch := first | exact zdl | fail) only [zheap, List.length_append, List.length_cons, List.length_nil], by simp⟩, zb9, zlq⟩
     ·simp only at ht g1 hj4
      subst ht
      (have zx := zA e0 (zA e3 (zA e4 (zA hlt (zA h16 (zA hx g1))))); refine zq86 ?_; try exact zT)
      repeat' (apply zK.s <;> intro hc <;> (try simp only [zhd] at hc) <;> (try have hw := V0a hc) <;> (refine zq86 ?_; try exact zT))
      all_goals (try clear zx)
      all_goals first | exact (hkill (by assumption) (by assumption) (by assumption) (by assumption) (by assumption) (by assumption)).elim | exact ⟨16 - (k + 1), by omega, k + 1, ⟨.own (q.n + 1), al ++ [fixOp x], nofun⟩, rfl, by omega, by omega, zev, by simp [put_at, Y0c, hfx], zev, by simp only at hacc; rw [htk, List.map_append, hacc]; rfl, .inr ⟨q.n + 1, rfl, by omega, zb9, by simp (disch := first | exact zdl | fail) only [zheap, List.length_append, List.length_cons, List.length_nil], by simp⟩, zb9, zlq⟩
   ·(have zx := zA e0 (zA e3 (zA e4 (zA hlt h16))); refine zq86 ?_; try exact zT)
    repeat' (apply zK.s <;> intro hc <;> (try simp only [zhd] at hc) <;> (try have hw := V0a hc) <;> (refine zq86 ?_; try exact zT))
    all_goals (try clear zx)
    have hk16 : k = 16 := by omega
    subst hk16
    exact ⟨⟨tl, al, ao⟩, zev, hacc, happ.imp id fun ⟨j, h1, _, _, _, h5⟩ => ⟨⟨j, h1⟩, h5⟩, hle⟩
  ·(have zx := zA e0 (zA e3 (zA e4 hlt)); refine zq86 ?_; try exact zT)
   repeat' (apply zK.s <;> intro hc <;> (try simp only [zhd] at hc) <;> (try have hw := V0a hc) <;> (refine zq86 ?_; try exact zT))
   all_goals (try clear zx)
   have ht : l.l.take k = l.l.take 16 := by rw [List.take_of_length_le (by omega), List.take_of_length_le (by omega)]
   exact ⟨⟨tl, al, ao⟩, zev, by rw [hacc, ht]; rfl, happ.imp id fun ⟨j, h1, _, _, _, h5⟩ => ⟨⟨j, h1⟩, h5⟩, hle⟩
 rintro ρ q ⟨acc, e3, hacc, happ, hle⟩
 (have zx := e3; refine zq86 ?_; try exact zT)
 repeat' (apply zK.s <;> intro hc <;> (try simp only [zhd] at hc) <;> (try have hw := V0a hc) <;> (refine zq86 ?_; try exact zT))
 all_goals (try clear zx)
 refine K0d hF zlq ?_
 rw [<- hacc]
 exact Y1u Y0b.nohas acc _ happ
def J31 (x : Y0a) (p : Hp) (n : Nat) (ρ : Env) (q : Hp) : Prop :=
 ∃ (k : Nat) (tk : Lst Int), n = (cfgP x).toNat - k /\ k <= (cfgP x).toNat /\ ρ 1 = .ptr p.n [] /\ ρ 2 = .ptr (p.n + 1) [] /\ ρ 3 = .ptr (p.n + 1 + 1 + 22) [] /\ ρ 4 = I k /\ q.t.get p.n = some (.var sh57 x.cv) /\ q.t.get (p.n + 1) = some (.var sh61 X0a.zero.cv) /\ q.t.get (p.n + 1 + 1 + 22) = some (.var sh61 (cfgWith x tk).cv) /\ tk.l = cfgTok x k /\ (tk.tl = .nil \/ ∃ j, tk.tl = .own j /\ p.n + 1 + 1 + 22 < j /\ j < q.n /\ q.t.get j = some (.tail tk.l.length) /\ 0 < tk.l.length) /\ p.n + 1 + 1 + 22 < q.n /\ HpLe p q
def R31 : Rel := fun args p r => ∃ (x : Y0a), args = [x.cv] /\ r = .ret (cfgOf x).cv p
theorem t31 {T : XCall} (h : Has T 31 R31) (x : Y0a) {p : Hp}  : T 31 [x.cv] p = .ret (cfgOf x).cv p := h _ _ _ ⟨x, rfl, rfl⟩
theorem zq31 {A B : Prop} (k : B) (h : A = B := by have zy := zA @zw31 <| zA @rs31 <| zA @tt3 <| zA @tt22 <| zA @tt23 <| zA @tt24 <| zA @tt57 <| zA @tt59 <| zA @tt61 <| zA ti3.eq_1 <| zA ti22.eq_1 <| zA ti23.eq_1 <| zA ti24.eq_1 <| zA ti57.eq_1 <| zA ti59.eq_1 <| zA ti61.eq_1 <| zA @t_37 <| zA @t_86 <| zA @Q0m <| zA @V0e <| zA @zsl22 <| zA @zsl23 <| @zsl24; exact zQf) : A := h ▸ k
theorem zge31 {P : Prop} (h : P := by simp (disch := first | exact zdl | fail) only [zheap]; first | done | rfl) : P := h
theorem c31 : Con C 31 R31 := by
 refine Q0e C ?_ ?_ ?_
 ·rintro args p r r' ⟨x, h, e⟩ ⟨x', h', e'⟩
  subst e; subst e'; simp_all [Y0a.inj_iff, X0a.inj_iff, Z17, V0q, Y0u, Z17]
 ·rintro args p r ⟨x, h, rfl⟩; exact zr1
 rintro args p r ⟨x, rfl, rfl⟩
 refine zW C false [(37, R37), (86, R86)] ⟨c37, c86, zT⟩ rfl xf31 zc31_ok fun call zh hF => ?_
 have t_37 := @t37 _ zh.1
 have t_86 := @t86 _ zh.2.1
 clear zh
 have p1 := V0g (n := x.Period) (m := 3) (by omega)
 have p2 := V0g (n := x.Frames) (m := 90) (by omega)
 have p3 := V0g (n := x.Players) (m := 4) (by omega)
 have p4 := V0g (n := w64 (x.Players.tdiv 11)) (m := 8) (by omega)
 have p5 := V0g (n := x.Rate) (m := 9) (by omega)
 have p6 := V0g (n := w64 (x.Rate.tdiv 9)) (m := 40) (by omega)
 have p7 := V0g (n := w64 (x.Seed.tdiv 3)) (m := 1000000) (by omega)
 have r1 := (rate_ok p5).1
 have r2 := (dept_ok p6).1
 have r3 := (dept_ok p6).2.1
 simp only [w64] at p4 p6 p7 r2 r3
 have hP := V08 x
 have hPn : (((cfgP x).toNat : Nat) : Int) = cfgP x := by omega
 suffices hloop : ∀ (ρ : Env) (q : Hp), ρ 1 = .ptr p.n [] -> ρ 2 = .ptr (p.n + 1) [] -> ρ 3 = .ptr (p.n + 1 + 1 + 22) [] -> ρ 4 = I 0 -> q.t.get p.n = some (.var sh57 x.cv) -> q.t.get (p.n + 1) = some (.var sh61 X0a.zero.cv) -> q.t.get (p.n + 1 + 1 + 22) = some (.var sh61 (cfgWith x ⟨.nil, [], fun _ => rfl⟩).cv) -> p.n + 1 + 1 + 22 < q.n -> HpLe p q -> W C false noExt call (ZC.loop X1o) ρ q (blkQ 0 (seqQ (W C false noExt call (ZC.seq zn31_36 ZC.ret)) (endQ C [ResultVar.cell 2 61] fun r' => ShrR p r' (XRes.ret (cfgOf x).cv p)))) by
  by_cases h11 : x.Players.tmod 11 = 10
  ·have hcp : cfgP x = 1 + pick (w64 (x.Players.tdiv 11)) 8 := by simp [cfgP, h11]
   by_cases h3 : 0 < x.Rate.tmod 3
   ·have hcr : cfgRate x = 4613937818241073152 := by simp [cfgRate, h3]
    have hcd : cfgDepth x = 4632233691727265792 := by simp [cfgDepth, h3]
    (have zx := zA h11 (zA h3 (zA r1 (zA r2 r3))); refine zq31 ?_; try exact zT)
    repeat' (apply zK.s <;> intro hc <;> (try simp only [zhd] at hc) <;> (try have hw := V0a hc) <;> (refine zq31 ?_; try exact zT))
    all_goals (try clear zx)
    refine hloop _ _ (by simp [put_at, Y0c, K0e]) (by simp [put_at, Y0c, K0e]) (by simp [put_at, Y0c, K0e]) (by simp [put_at, Y0c, K0e]) zge31 zge31 ?_ (zb9) zle
    simp (disch := first | exact zdl | fail) only [zheap]
    simp only [cfgWith, hcp, hcr, hcd]
   ·have hcr : cfgRate x = rateF (pick x.Rate 9) := by simp [cfgRate, h3]
    have hcd : cfgDepth x = deptF (pick (w64 (x.Rate.tdiv 9)) 40) := by simp [cfgDepth, h3]
    (have zx := zA h11 (zA h3 (zA r1 (zA r2 r3))); refine zq31 ?_; try exact zT)
    repeat' (apply zK.s <;> intro hc <;> (try simp only [zhd] at hc) <;> (try have hw := V0a hc) <;> (refine zq31 ?_; try exact zT))
    all_goals (try clear zx)
    refine hloop _ _ (by simp [put_at, Y0c, K0e]) (by simp [put_at, Y0c, K0e]) (by simp [put_at, Y0c, K0e]) (by simp [put_at, Y0c, K0e]) zge31 zge31 ?_ (zb9) zle
    simp (disch := first | exact zdl | fail) only [zheap]
    simp only [cfgWith, hcp, hcr, hcd]
  ·have hcp : cfgP x = 1 + pick x.Players 4 := by simp [cfgP, h11]
   by_cases h3 : 0 < x.Rate.tmod 3
   ·have hcr : cfgRate x = 4613937818241073152 := by simp [cfgRate, h3]
    have hcd : cfgDepth x = 4632233691727265792 := by simp [cfgDepth, h3]
    (have zx := zA h11 (zA h3 (zA r1 (zA r2 r3))); refine zq31 ?_; try exact zT)
    repeat' (apply zK.s <;> intro hc <;> (try simp only [zhd] at hc) <;> (try have hw := V0a hc) <;> (refine zq31 ?_; try exact zT))
    all_goals (try clear zx)
    refine hloop _ _ (by simp [put_at, Y0c, K0e]) (by simp [put_at, Y0c, K0e]) (by simp [put_at, Y0c, K0e]) (by simp [put_at, Y0c, K0e]) zge31 zge31 ?_ (zb9) zle
    simp (disch := first | exact zdl | fail) only [zheap]
    simp only [cfgWith, hcp, hcr, hcd]
   ·have hcr : cfgRate x = rateF (pick x.Rate 9) := by simp [cfgRate, h3]
    have hcd : cfgDepth x = deptF (pick (w64 (x.Rate.tdiv 9)) 40) := by simp [cfgDepth, h3]
    (have zx := zA h11 (zA h3 (zA r1 (zA r2 r3))); refine zq31 ?_; try exact zT)
    repeat' (apply zK.s <;> intro hc <;> (try simp only [zhd] at hc) <;> (try have hw := V0a hc) <;> (refine zq31 ?_; try exact zT))
    all_goals (try clear zx)
    refine hloop _ _ (by simp [put_at, Y0c, K0e]) (by simp [put_at, Y0c, K0e]) (by simp [put_at, Y0c, K0e]) (by simp [put_at, Y0c, K0e]) zge31 zge31 ?_ (zb9) zle
    simp (disch := first | exact zdl | fail) only [zheap]
    simp only [cfgWith, hcp, hcr, hcd]
 intro ρ q e1 e2 e3 e4 g1 g2 g3 hn hle
 (show W C false noExt call (ZC.loop X1o) _ _ _); refine Y0i C false noExt call X1o _ _ _ (J31 x p) (cfgP x).toNat ⟨0, ⟨.nil, [], fun _ => rfl⟩, rfl, by omega, e1, e2, e3, e4, g1, g2, g3, rfl, .inl rfl, hn, hle⟩ ?_
 clear e1 e2 e3 e4 g1 g2 g3 hn hle
 rintro n ρ q ⟨k, ⟨tl, al, ao⟩, rfl, hk, e1, e2, e3, e4, g1, g2, g3, hal, happ, hn, hle⟩
 have hln : al.length = k := by simp only at hal; rw [hal, Y1a]
 by_cases hlt : (k : Int) < cfgP x
 ·have hpl : (cfgWith x ⟨tl, al, ao⟩).Players = cfgP x := rfl
  have htk : (cfgWith x ⟨tl, al, ao⟩).Tokens = ⟨tl, al, ao⟩ := rfl
  rcases happ with ht | ⟨j, ht, hj1, hj2, g4, hj4⟩
  ·simp only at ht
   subst ht
   (have zx := zA e1 (zA e2 (zA e3 (zA e4 (zA g1 (zA g2 (zA g3 (zA hlt (zA hpl htk)))))))); refine zq31 ?_; try exact zT)
   repeat' (apply zK.s <;> intro hc <;> (try simp only [zhd] at hc) <;> (try have hw := V0a hc) <;> (refine zq31 ?_; try exact zT))
   all_goals (try clear zx)
   exact ⟨(cfgP x).toNat - (k + 1), by omega, k + 1, ⟨.own (q.n + 13), al ++ [tokAt x k], nofun⟩, rfl, by omega, zev, zev, zev, zev, zg9, zg9, zg9, by simp only at hal; rw [hal, K1r], .inr ⟨q.n + 13, rfl, by omega, zb9, by simp (disch := first | exact zdl | fail) only [zheap, List.length_append, List.length_cons, List.length_nil], by simp⟩, zb9, zlq⟩
  ·simp only at ht g4 hj4
   subst ht
   (have zx := zA e1 (zA e2 (zA e3 (zA e4 (zA g1 (zA g2 (zA g3 (zA hlt (zA g4 (zA hpl htk))))))))); refine zq31 ?_; try exact zT)
   repeat' (apply zK.s <;> intro hc <;> (try simp only [zhd] at hc) <;> (try have hw := V0a hc) <;> (refine zq31 ?_; try exact zT))
   all_goals (try clear zx)
   exact ⟨(cfgP x).toNat - (k + 1), by omega, k + 1, ⟨.own (q.n + 13), al ++ [tokAt x k], nofun⟩, rfl, by omega, zev, zev, zev, zev, zg9, zg9, zg9, by simp only at hal; rw [hal, K1r], .inr ⟨q.n + 13, rfl, by omega, zb9, by simp (disch := first | exact zdl | fail) only [zheap, List.length_append, List.length_cons, List.length_nil], by simp⟩, zb9, zlq⟩
 ·have hpl : (cfgWith x ⟨tl, al, ao⟩).Players = cfgP x := rfl
  have hk2 : k = (cfgP x).toNat := by omega
  (have zx := zA e1 (zA e2 (zA e3 (zA e4 (zA g1 (zA g2 (zA g3 (zA hlt hpl))))))); refine zq31 ?_; try exact zT)
  repeat' (apply zK.s <;> intro hc <;> (try simp only [zhd] at hc) <;> (try have hw := V0a hc) <;> (refine zq31 ?_; try exact zT))
  all_goals (try clear zx)
  refine K0d hF zlq ?_
  have hw := weak_cfg x ⟨tl, al, ao⟩ p.n (happ.imp id fun ⟨j, h1, _, _, _, h5⟩ => ⟨⟨j, h1⟩, h5⟩)
  simp only at hal
  subst hk2
  subst hal
  exact hw
end Go.Proofs.Ytpchcfkebljopaa
end
section
namespace Go.Proofs.Ytpchcfkebljopaa
open Go.Cl Go Go.RowKit
theorem ba_loop (bs : ByteArray) : ∀ (n i : Nat) (r : List UInt8), bs.size - i = n -> ByteArray.toList.loop bs i r = r.reverse ++ bs.data.toList.drop i
 | 0, i, r, h => by
  unfold ByteArray.toList.loop
  have hs : bs.data.toList.length = bs.size := Array.length_toList
  rw [if_neg (by omega), List.drop_eq_nil_of_le (by omega), List.append_nil]
 | n + 1, i, r, h => by
  unfold ByteArray.toList.loop
  have hs : bs.data.toList.length = bs.size := Array.length_toList
  have hi : i < bs.data.toList.length := by omega
  rw [if_pos (by omega), ba_loop bs n (i + 1) _ (by omega), List.reverse_cons, List.append_assoc, List.drop_eq_getElem_cons hi]
  have hi2 : i < bs.data.size := by simpa using hi
  have e : bs.get! i = bs.data.toList[i] := by
   show bs.data[i]! = _
   rw [getElem!_pos bs.data i hi2, Array.getElem_toList]
  rw [e]; rfl
theorem ba_toList (bs : ByteArray) : bs.toList = bs.data.toList := by
 unfold ByteArray.toList
 rw [ba_loop bs _ 0 [] rfl]; simp
def inB (l : List Int) : Prop := ∀ x ∈ l, 0 <= x /\ x <= 255
theorem u8_inj {x y : Int} (hx : 0 <= x /\ x <= 255) (hy : 0 <= y /\ y <= 255) (h : UInt8.ofNat x.toNat = UInt8.ofNat y.toNat) : x = y := by
 have h2 := congrArg UInt8.toNat h
 simp only [UInt8.toNat_ofNat'] at h2
 omega
theorem Y1h : ∀ {a b : List Int}, inB a -> inB b -> (a.map fun n => UInt8.ofNat n.toNat) = (b.map fun n => UInt8.ofNat n.toNat) -> a = b
 | [], [], _, _, _ => rfl
 | [], _ :: _, _, _, h => by simp at h
 | _ :: _, [], _, _, h => by simp at h
 | x :: a, y :: b, ha, hb, h => by
  simp only [List.map_cons, List.cons.injEq] at h
  rw [u8_inj (ha x (by simp)) (hb y (by simp)) h.1, Y1h (fun z hz => ha z (by simp [hz])) (fun z hz => hb z (by simp [hz])) h.2]
theorem str_eq {a b : List Int} (ha : inB a) (hb : inB b) : ((bytesOf a).toList == (bytesOf b).toList) = decide (a = b) := by
 rw [ba_toList, ba_toList]
 show ((a.map fun n => UInt8.ofNat n.toNat).toArray.toList == (b.map fun n => UInt8.ofNat n.toNat).toArray.toList) = _
 by_cases h : a = b
 ·subst h; simp
 ·rw [decide_eq_false h]
  rw [beq_eq_false_iff_ne]
  intro e
  exact h (Y1h ha hb (by simpa using e))
theorem K0z : ∀ l : List Int, byteNums (l.map Y8) = some l
 | [] => rfl
 | x :: l => by simp only [List.map_cons, byteNums, K0z l, Option.map_some]
end Go.Proofs.Ytpchcfkebljopaa
end
section
namespace Go.Proofs.Ytpchcfkebljopaa
open Go.Cl Go Go.RowKit
set_option maxRecDepth 100000
set_option linter.constructorNameAsVariable false
def R6 : Rel := fun args p r => ∃ (x : Y0a) (l m : Lst (Lst Int)), args = [x.cv, Lst.cv (Lst.cv I) l, Lst.cv (Lst.cv I) m] /\ r = .ret (Bo true) p
theorem zdis6 {P : Prop} (h : P := by first | exact zdis | (simp only [Hp.bump_n, Hp.znew_n, Hp.zset_n, List.length_nil, List.length_cons, List.length_append, List.length_map, Q0l]; (first | done | omega)) | (simp (disch := first | exact zd1 | (simp only [Hp.bump_n, Hp.znew_n, Hp.zset_n, List.length_nil, List.length_cons, List.length_append, List.length_map, Q0l]; (first | done | omega))) only [zheap, zx]; (first | done | rfl)) | fail) : P := h
theorem zq6 {A B : Prop} (k : B) (h : A = B := by have zy := zA @zw6 <| zA @rs6 <| zA @tt4 <| zA @tt9 <| zA @tt57 <| zA @tt61 <| zA @tt66 <| zA @tt68 <| zA @tt69 <| zA ti4.eq_1 <| zA ti9.eq_1 <| zA ti57.eq_1 <| zA ti61.eq_1 <| zA ti66.eq_1 <| zA ti68.eq_1 <| zA ti69.eq_1 <| zA @t_31 <| zA @t_32 <| zA @t_33 <| zA @t_34 <| zA @t_35 <| zA @t_36 <| zA @Q0m <| zA @V0e <| zA @Y0f <| zA @zsl68 <| zA @tt5 <| zA ti5.eq_1 <| zA @K0z <| zA @str_eq <| @Q0l; have zd := @zdis6; exact zQd) : A := h ▸ k
theorem c6 : Con C 6 R6 := by
 refine Q0e C ?_ ?_ ?_
 ·rintro args p r r' ⟨x, l, m, h, e⟩ ⟨x', l', m', h', e'⟩
  subst e; subst e'; simp_all [Y0a.inj_iff, X0a.inj_iff, K0a.inj_iff, K0l, X01]
 ·rintro args p r ⟨x, l, m, h, rfl⟩; exact zr1
 rintro args p r ⟨x, l, m, rfl, rfl⟩
 refine zW C false [(31, R31), (32, R32), (33, R33), (34, R34), (35, R35), (36, R36)] ⟨c31, c32, c33, c34, c35, c36, zT⟩ rfl xf6 zc6_ok fun call zh hF => ?_
 have t_31 := @t31 _ zh.1
 have t_32 := @t32 _ zh.2.1
 have t_33 := @t33 _ zh.2.2.1
 have t_34 := @t34 _ zh.2.2.2.1
 have t_35 := @t35 _ zh.2.2.2.2.1
 have t_36 := @t36 _ zh.2.2.2.2.2.1
 clear zh
 have hl := cfg_len x
 have hL := Y1g x
 have hP := (Y0g hL).1
 generalize hC : cfgOf x = c at hl hL hP
 obtain ⟨hl1, hl2⟩ := hl
 have hS := V0p hL l.l
 have hT := V0p hL m.l
 have dS := Z0u c l.l
 have dT := Z0u c m.l
 generalize hSS : stateOf c l.l = S at hS dS
 generalize hTT : stateOf c m.l = T at hT dT
 have heq := lay_eq hS dS hT dT
 have hrl := K1g hS dS
 have b1 : inB (layS c S) := K0s c S
 have b2 : inB (layS c T) := K0s c T
 have lS := X07 hS
 have hr1 : (readState c (layS c S)).1 = S := by rw [hrl]
 have hr2 : (readState c (layS c S)).2 = 0 := by rw [hrl]
 have hv : (partB (layS c S)).tl ≠ .view := Y17 _
 have hb2 : ∀ x ∈ (partB (layS c S)).l, 0 <= x /\ x <= 255 := K0s c S
 have hde : decide (S = S) = true := by simp
 cases hd : decide (S = T) with
 | false =>
  rw [hd] at heq
  (have zx := zA hC (zA hSS (zA hTT (zA hS (zA hT (zA heq (zA hd (zA hr1 (zA hr2 hde)))))))); refine zq6 ?_; try exact zT)
  repeat' (apply zK.s <;> intro hc <;> (try simp only [zhd] at hc) <;> (try have hw := V0a hc) <;> (refine zq6 ?_; try exact zT))
  all_goals (try clear zx)
  exact K0d hF zle (K0c rfl (Z0c (by intro jj; simp [CV.has])))
 | true =>
  rw [hd] at heq
  (have zx := zA hC (zA hSS (zA hTT (zA hS (zA hT (zA heq (zA hd (zA hr1 (zA hr2 hde)))))))); refine zq6 ?_; try exact zT)
  repeat' (apply zK.s <;> intro hc <;> (try simp only [zhd] at hc) <;> (try have hw := V0a hc) <;> (refine zq6 ?_; try exact zT))
  all_goals (try clear zx)
  exact K0d hF zle (K0c rfl (Z0c (by intro jj; simp [CV.has])))
end Go.Proofs.Ytpchcfkebljopaa
end
section
namespace Go.Proofs.Ytpchcfkebljopaa
open Go.Cl Go Go.ChangeShapes Go.WideShapes Go.ChangeAt Go.RowKit
set_option maxRecDepth 100000
set_option linter.constructorNameAsVariable false
theorem a58 {n : Nat} {v : CV} (h : Ty2 Try.prog (n + 3) 58 v) : ∃ s : Lst (Lst Int), v = s.cv (Lst.cv I) /\ (s.tl = .view \/ s.tl = .nil) := Z15 Try.underlying58 (fun _ h => let ⟨i, e, _⟩ := a24 h; ⟨i, e⟩) h
theorem a57 {n : Nat} {v : CV} (h : Ty2 Try.prog (n + 4) 57 v) : ∃ x : Y0a, v = x.cv /\ inI x.Players := by
 obtain ⟨l, rfl, hs⟩ := of_struct Try.underlying57 h
 replace h := hs
 obtain ⟨v0, l0, rfl, h0, h⟩ := Y0l h
 obtain ⟨v1, l1, rfl, h1, h⟩ := Y0l h
 obtain ⟨v2, l2, rfl, h2, h⟩ := Y0l h
 obtain ⟨v3, l3, rfl, h3, h⟩ := Y0l h
 obtain ⟨v4, l4, rfl, h4, h⟩ := Y0l h
 obtain ⟨v5, l5, rfl, h5, h⟩ := Y0l h
 obtain ⟨v6, l6, rfl, h6, h⟩ := Y0l h
 obtain ⟨v7, l7, rfl, h7, h⟩ := Y0l h
 obtain rfl := all2_nil h
 obtain ⟨x0, rfl, w0⟩ := a3 (n := n + 2) h0
 obtain ⟨x1, rfl, _⟩ := a3 (n := n + 2) h1
 obtain ⟨x2, rfl, _⟩ := a3 (n := n + 2) h2
 obtain ⟨x3, rfl, _⟩ := a3 (n := n + 2) h3
 obtain ⟨x4, rfl, _⟩ := a3 (n := n + 2) h4
 obtain ⟨x5, rfl, _⟩ := a3 (n := n + 2) h5
 obtain ⟨x6, rfl, _⟩ := a3 (n := n + 2) h6
 obtain ⟨x7, rfl, _⟩ := a22 (n := n) h7
 exact ⟨⟨x0, x1, x2, x3, x4, x5, x6, x7⟩, rfl, w0⟩
end Go.Proofs.Ytpchcfkebljopaa
end
section
namespace Go.Proofs.Ytpchcfkebljopaa
open Go.Cl Go Go.RowKit
set_option maxRecDepth 100000
set_option linter.constructorNameAsVariable false
theorem sl68h (h : Heap) (L : List Int) (b : Int) (hb : 0 <= b /\ b <= L.length) : qslice C h 68 (Lst.cv Y8 (partB L)) none (some (I b)) none = some (Lst.cv Y8 (partB (L.take b.toNat))) := qslice_hi C Y8 tt68 tt5 Y8_shape h .part L _ b hb (.inr rfl)
theorem wrap8 (n : Int) : 0 <= IntKind.u8.wrap n /\ IntKind.u8.wrap n <= 255 := by
 show 0 <= n % 2 ^ 8 /\ n % 2 ^ 8 <= 255
 omega
theorem zdec (a : Int) : decide (a = a) = true := decide_eq_true rfl
theorem own_nv (k : Nat) (l : List Int) (o : _) : (Lst.mk (.own k) l o).tl ≠ .view := nofun
theorem ownB_l (t : Tail) (l : List Int) (o : _) : (Lst.mk t l o).l = l := nd rfl
def J9 (c : X0a) (s : K0a) (cut : Int) (x : Y0a) (p : Hp) (n : Nat) (ρ : Env) (q : Hp) : Prop :=
 ∃ k : Nat, n = 16 - k /\ k <= 16 /\ ρ 2 = I cut /\ ρ 7 = .ptr (p.n + 1) [] /\ ρ 8 = .ptr (p.n + 2) [] /\ ρ 9 = I ((74 + 31 * c.Players.toNat + bodiesN (s.Bodies.take k) : Nat) : Int) /\ ρ 28 = I k /\ q.t.get (p.n + 1) = some (.var sh61 c.cv) /\ q.t.get (p.n + 2) = some (.var sh66 s.cv) /\ p.n + 2 < q.n /\ HpLe p q
def R9 : Rel := fun args p r => ∃ (x : Y0a) (l : Lst (Lst Int)) (cut : Int), args = [x.cv, Lst.cv (Lst.cv I) l, I cut] /\ r = .ret (Bo true) p
theorem zdis9 {P : Prop} (h : P := by first | exact zdis | exact own_nv _ _ _ | (simp only [Hp.bump_n, Hp.znew_n, Hp.zset_n, List.length_nil, List.length_cons, List.length_append, List.length_map, Q0l, ownB_l]; (first | done | omega)) | (simp (disch := first | exact zd1 | (simp only [Hp.bump_n, Hp.znew_n, Hp.zset_n, List.length_nil, List.length_cons, List.length_append, List.length_map, Q0l, ownB_l]; (first | done | omega))) only [zheap, zx]; (first | done | rfl)) | fail) : P := h
theorem zq9 {A B : Prop} (k : B) (h : A = B := by have zy := zA @zw9 <| zA @rs9 <| zA @tt3 <| zA @tt5 <| zA @tt34 <| zA @tt57 <| zA @tt61 <| zA @tt63 <| zA @tt66 <| zA @tt68 <| zA @tt69 <| zA ti3.eq_1 <| zA ti5.eq_1 <| zA ti34.eq_1 <| zA ti57.eq_1 <| zA ti61.eq_1 <| zA ti63.eq_1 <| zA ti66.eq_1 <| zA ti68.eq_1 <| zA ti69.eq_1 <| zA @t_31 <| zA @t_32 <| zA @t_33 <| zA @t_34 <| zA @t_36 <| zA @t_37 <| zA @t_40 <| zA @t_44 <| zA @Q0m <| zA @V0e <| zA @Y0f <| zA @Y0e <| zA @zsl63 <| zA @zsl68 <| zA @sl68h <| zA @Q0l <| @ownB_l; have zd := @zdis9; exact zQd) : A := h ▸ k
theorem c9 : Con C 9 R9 := by
 refine Q0e C ?_ ?_ ?_
 ·rintro args p r r' ⟨x, l, cut, h, e⟩ ⟨x', l', cut', h', e'⟩
  subst e; subst e'; simp_all [Y0a.inj_iff, X0a.inj_iff, K0a.inj_iff, Q0a.inj_iff, K0l, X01]
 ·rintro args p r ⟨x, l, cut, h, rfl⟩; exact zr1
 rintro args p r ⟨x, l, cut, rfl, rfl⟩
 refine zW C false [(31, R31), (32, R32), (33, R33), (34, R34), (36, R36), (37, R37), (40, R40), (44, R44)] ⟨c31, c32, c33, c34, c36, c37, c40, c44, zT⟩ rfl xf9 zc9_ok fun call zh hF => ?_
 have t_31 := @t31 _ zh.1
 have t_32 := @t32 _ zh.2.1
 have t_33 := @t33 _ zh.2.2.1
 have t_34 := @t34 _ zh.2.2.2.1
 have t_36 := @t36 _ zh.2.2.2.2.1
 have t_37 := @t37 _ zh.2.2.2.2.2.1
 have t_40 := @t40 _ zh.2.2.2.2.2.2.1
 have t_44 := @t44 _ zh.2.2.2.2.2.2.2.1
 clear zh
 have hl := cfg_len x
 have hL := Y1g x
 have hP := (Y0g hL).1
 generalize hC : cfgOf x = c at hl hL hP
 obtain ⟨hl1, hl2⟩ := hl
 have hS := V0p hL l.l
 have dS := Z0u c l.l
 generalize hSS : stateOf c l.l = S at hS dS
 have hb := S.hBodies
 have lS := X07 hS
 have hsl := Y1p hS
 have hpl : (layS c S).length = ((stateBits c S).length + 7) / 8 := by unfold layS; rw [V0i]
 have hN := Y0w S.Bodies
 rw [hb] at hN
 have hkn : ∀ k, bodiesN (S.Bodies.take k) <= 2480 := fun k => by
  have := Y0w (S.Bodies.take k)
  rw [List.length_take] at this; omega
 (have zx := zA hC hSS; refine zq9 ?_; try exact zT)
 repeat' (apply zK.s <;> intro hc <;> (try simp only [zhd] at hc) <;> (try have hw := V0a hc) <;> (refine zq9 ?_; try exact zT))
 all_goals (try clear zx)
 (show W C false noExt call (ZC.loop zn9_19) _ _ _); refine Y0i C false noExt call zn9_19 _ _ _ (J9 c S cut x p) 16 ⟨0, rfl, by omega, by simp [put_at, Y0c, K0e, Y1c], zev, zev, by rw [List.take_zero]; simp [put_at, Y0c, bodiesN]; omega, zev, zg9, zg9, zb9, zle⟩ ?_
 rintro n ρ q ⟨k, rfl, hk, e2, e7, e8, e9, e28, g1, g2, hn, hle⟩
 have hkn2 := hkn k
 by_cases hlt : (k : Int) < 16
 ·have hbt := bodiesN_take (l := S.Bodies) (k := k) (by omega)
  by_cases h0 : (nth S.Bodies k).Kind = 0
  ·have hbn : bodyN (nth S.Bodies k) = 2 := by unfold bodyN; rw [if_pos h0]
   (have zx := zA e2 (zA e7 (zA e8 (zA e9 (zA e28 (zA g1 (zA g2 (zA hlt h0))))))); refine zq9 ?_; try exact zT)
   repeat' (apply zK.s <;> intro hc <;> (try simp only [zhd] at hc) <;> (try have hw := V0a hc) <;> (refine zq9 ?_; try exact zT))
   all_goals (try clear zx)
   exact ⟨16 - (k + 1), by omega, k + 1, rfl, by omega, zev, zev, zev, by rw [hbt, hbn]; simp [put_at, Y0c]; omega, zev, g1, g2, hn, hle⟩
  ·have hbn : bodyN (nth S.Bodies k) = 155 := by unfold bodyN; rw [if_neg h0]
   (have zx := zA e2 (zA e7 (zA e8 (zA e9 (zA e28 (zA g1 (zA g2 (zA hlt h0))))))); refine zq9 ?_; try exact zT)
   repeat' (apply zK.s <;> intro hc <;> (try simp only [zhd] at hc) <;> (try have hw := V0a hc) <;> (refine zq9 ?_; try exact zT))
   all_goals (try clear zx)
   exact ⟨16 - (k + 1), by omega, k + 1, rfl, by omega, zev, zev, zev, by rw [hbt, hbn]; simp [put_at, Y0c]; omega, zev, g1, g2, hn, hle⟩
 ·have hk16 : k = 16 := by omega
  subst hk16
  rw [List.take_of_length_le (by omega)] at e9 hkn2
  have hlen : (((74 + 31 * c.Players.toNat + bodiesN S.Bodies : Nat) : Int) + 7).tdiv 8 = ((layS c S).length : Int) := by rw [Int.tdiv_eq_ediv_of_nonneg (by omega), hpl, hsl]; omega
  have hpk := V0g (n := cut) (m := ((layS c S).length : Int)) (by omega)
  have hrs := read_short hS dS (k := (pick cut ((layS c S).length : Int)).toNat) (by omega)
  have hrg := read_long hS dS (IntKind.u8.wrap cut)
  have s1 : (readState c ((layS c S).take (pick cut ((layS c S).length : Int)).toNat)).1 = K0a.zero := by rw [hrs]
  have s2 : (readState c ((layS c S).take (pick cut ((layS c S).length : Int)).toNat)).2 = 2 := by rw [hrs]
  have s3 : (readState c (layS c S ++ [IntKind.u8.wrap cut])).1 = K0a.zero := by rw [hrg]
  have s4 : (readState c (layS c S ++ [IntKind.u8.wrap cut])).2 = 2 := by rw [hrg]
  have hm : 0 <= markB (layS c S) := markB_range _
  have hv : (partB ((layS c S).take (pick cut ((layS c S).length : Int)).toNat)).tl ≠ .view := Y17 _
  have hb2 : ∀ x ∈ (partB ((layS c S).take (pick cut ((layS c S).length : Int)).toNat)).l, 0 <= x /\ x <= 255 := fun x hx => K0s c S x (List.mem_of_mem_take hx)
  have hl3 : (partB ((layS c S).take (pick cut ((layS c S).length : Int)).toNat)).l.length <= 1000000 := by rw [Q0l, List.length_take]; omega
  have hb3 : ∀ x ∈ layS c S ++ [IntKind.u8.wrap cut], 0 <= x /\ x <= 255 := fun x hx => by
   rcases List.mem_append.1 hx with h | h
   ·exact K0s c S x h
   ·rw [List.mem_singleton.1 h]; exact wrap8 cut
  have hne : layS c S ≠ [] := fun e => by rw [e] at hpl; simp at hpl; omega
  have hwr : IntKind.i64.wrap ((layS c S).length : Int) = (layS c S).length := Q0r (by omega) (by omega)
  generalize hLL : layS c S = L at hlen hpk s1 s2 s3 s4 hm hv hb2 hl3 hb3 hne hwr lS
  obtain ⟨b0, B, rfl⟩ : ∃ b B, L = b :: B := by cases L with | nil => exact absurd rfl hne | cons b B => exact ⟨b, B, rfl⟩
  rw [List.length_cons] at hwr s1 s2 hpk hv hb2 hl3 hlen lS
  rw [List.cons_append] at s3 s4 hb3
  have hpos : (0 : Int) < ((B.length + 1 : Nat) : Int) := by omega
  (have zx := zA e2 (zA e7 (zA e8 (zA e9 (zA e28 (zA g1 (zA g2 (zA hlt (zA hS (zA hlen (zA zdec (zA s1 (zA s2 (zA s3 (zA s4 (zA hm (zA hLL (zA hwr hpos))))))))))))))))); refine zq9 ?_; try exact zT)
  repeat' (apply zK.s <;> intro hc <;> (try simp only [zhd] at hc) <;> (try have hw := V0a hc) <;> (refine zq9 ?_; try exact zT))
  all_goals (try clear zx)
  exact K0d hF zlq (K0c rfl (Z0c (by intro jj; simp [CV.has])))
end Go.Proofs.Ytpchcfkebljopaa
end
section
namespace Go.Proofs.Ytpchcfkebljopaa
open Go.Cl Go Go.RowKit
def bodyT (h : Int) (b : Q0a) : Q0a :=
 if h = 0 then { b with X := (b.X + 1).tmod 4096 } else if h = 1 then { b with VY := 0 - b.VY } else b.put_7k 3 (0 - nth b.Mem 3)
def turnB (d : Int) : Int := IntKind.u64.wrap ((BitVec.ofInt IntKind.u64.bits d ^^^ BitVec.ofInt IntKind.u64.bits 1).toNat : Int)
def markT (a : Nat) (h : Int) (s : K0a) : K0a :=
 if h < 3 then s.put_2k a (bodyT h (nth s.Bodies a)) else if h = 3 then { s with Dice := turnB s.Dice } else s.put_3k 0 (nth s.Score 0 + 1)
theorem bodyT_right {P : Int} {k : Nat} {h : Int} {b : Q0a} (hb : rightAt P k b = true) (hk : (k : Int) < P) : rightAt P k (bodyT h b) = true := by
 unfold rightAt at hb ⊢
 rw [if_pos hk] at hb ⊢
 simp only [Bool.and_eq_true, decide_eq_true_eq] at hb
 obtain ⟨hr, h1, h2⟩ := hb
 unfold Body.right at hr
 rw [if_neg (by omega)] at hr
 simp only [Bool.and_eq_true, within, decide_eq_true_eq, List.all_eq_true] at hr
 obtain ⟨⟨⟨⟨⟨⟨⟨⟨hm, hk2⟩, ho⟩, hx⟩, hy⟩, hvx⟩, hvy⟩, ha⟩, hf⟩ := hr
 have key : ∀ b' : Q0a, b'.Kind = b.Kind -> b'.Owner = b.Owner -> b'.Y = b.Y -> b'.VX = b.VX -> b'.Age = b.Age -> b'.Faults = b.Faults -> (0 <= b'.X /\ b'.X <= 4095) -> (-64 <= b'.VY /\ b'.VY <= 64) -> (∀ x ∈ b'.Mem, -1000000 <= x /\ x <= 1000000) -> (Body.right b' && (decide (b'.Kind = 1) && decide (b'.Owner = k))) = true := by
  intro b' e1 e2 e3 e4 e5 e6 e7 e8 e9
  unfold Body.right
  rw [if_neg (by omega)]
  simp only [Bool.and_eq_true, within, decide_eq_true_eq, List.all_eq_true, e1, e2, e3, e4, e5, e6]
  exact ⟨⟨⟨⟨⟨⟨⟨⟨⟨e9, hk2⟩, ho⟩, e7⟩, hy⟩, hvx⟩, e8⟩, ha⟩, hf⟩, h1, h2⟩
 unfold bodyT
 split
 ·have := Int.tmod_lt_of_pos (b.X + 1) (b := 4096) (by omega)
  have := Int.tmod_nonneg 4096 (a := b.X + 1) (by omega)
  exact key _ rfl rfl rfl rfl rfl rfl (by simp only; omega) hvy hm
 ·split
  ·exact key _ rfl rfl rfl rfl rfl rfl hx (by simp only; omega) hm
  ·refine key _ rfl rfl rfl rfl rfl rfl hx hvy fun x hx => ?_
   rcases List.mem_or_eq_of_mem_set hx with h' | h'
   ·exact hm x h'
   ·have := hm (nth b.Mem 3) ((by rw [Y0j (by rw [b.hMem]; omega)]; exact List.getElem_mem _))
    rw [h']; omega
theorem turnB_ok (d : Int) : 0 <= turnB d /\ turnB d < 18446744073709551616 := by
 unfold turnB
 generalize (((BitVec.ofInt IntKind.u64.bits d ^^^ BitVec.ofInt IntKind.u64.bits 1).toNat : Nat) : Int) = n
 show 0 <= n % 2 ^ 64 /\ n % 2 ^ 64 < _
 omega
theorem markT_right {c : X0a} {s : K0a} {a : Nat} {h n : Int} (hs : stateRight c s = true) (ha : (a : Int) < c.Players) (hsc : scoreLe n s) (hn : n < 2147483647) : stateRight c (markT a h s) = true := by
 have hg := game_of hs
 obtain ⟨hpl, hsc1, hL, hf⟩ := Q0f hs
 have hP := (Y0g hL)
 refine V17 ?_ hL (by unfold markT; split ; exact hf; split <;> exact hf)
 unfold markT
 split
 ·exact ⟨K08 hpl s.hBodies fun hk => bodyT_right (hpl a hk) ha, hsc1⟩
 ·split
  ·exact ⟨hpl, hsc1⟩
  ·refine ⟨hpl, fun j hj => ?_⟩
   show scoreAt c.Players j (nth (s.Score.set 0 (nth s.Score 0 + 1)) j) = true
   by_cases e : j = 0
   ·subst e
    rw [K0g (by rw [s.hScore]; omega)]
    have h0 := hsc1 0 (by omega)
    have h1 := hsc 0
    unfold scoreAt within at h0 ⊢
    simp only [Bool.and_eq_true, decide_eq_true_eq, Bool.not_eq_true', Bool.and_eq_false_iff, decide_eq_false_iff_not] at h0 ⊢
    refine ⟨by omega, ?_⟩
    left
    have : (1 : Int) <= c.Players := hP.1.1
    omega
   ·rw [Q0g (by omega)]; exact hsc1 j hj
theorem markT_dice {s : K0a} {a : Nat} {h : Int} (hd : diceOk s) : diceOk (markT a h s) := by
 unfold markT
 split
 ·exact hd
 ·split
  ·exact turnB_ok _
  ·exact hd
theorem Y1x (c : X0a) (l : List (Lst Int)) : scoreLe 9600 (stateOf c l) := by
 have h := fold_le (c := c) ((rowsOf c.Players l).map Lst.l) (n := 0) (by omega) (first_le c)
 have hn : (rowsOf c.Players l).length <= 40 := Z07 c.Players l
 intro j
 have := h j
 rw [List.length_map] at this
 unfold stateOf
 omega
theorem placed_kind {P : Int} {l : List Q0a} (h : Placed P l) {j : Nat} (hj : (j : Int) < P) (hP : P <= 8) : (nth l j).Kind = 1 := by
 have := h j (by omega)
 unfold rightAt at this
 simp only [Bool.and_eq_true] at this
 have h2 := this.2
 rw [if_pos hj] at h2
 simp only [Bool.and_eq_true, decide_eq_true_eq] at h2
 exact h2.1
end Go.Proofs.Ytpchcfkebljopaa
end
section
namespace Go.Proofs.Ytpchcfkebljopaa
open Go.Cl Go Go.RowKit
set_option maxRecDepth 100000
set_option linter.constructorNameAsVariable false
theorem markT_all {c : X0a} (hL : legalC c = true) (l : List (Lst Int)) {a : Nat} (h : Int) (ha : (a : Int) < c.Players) {T : K0a} (e : markT a h (stateOf c l) = T) :
  stateRight c T = true /\ decide (layS c (stateOf c l) = layS c T) = decide (stateOf c l = T) /\ inB (layS c T) /\ (layS c T).length <= 400 /\ (decide (stateOf c l = T) = true -> decide ((if stateRight c (stateOf c l) = true then markB (layS c (stateOf c l)) else 0) = (if stateRight c T = true then markB (layS c T) else 0)) = true) := by
 have hS := V0p hL l
 have dS := Z0u c l
 have hsc : scoreLe 9600 (stateOf c l) := Y1x c l
 have hT := markT_right (h := h) hS ha hsc (by omega)
 have dT : diceOk (markT a h (stateOf c l)) := markT_dice dS
 rw [e] at hT dT
 refine ⟨hT, lay_eq hS dS hT dT, K0s c T, X07 hT, fun hd => ?_⟩
 rw [<- of_decide_eq_true hd]
 exact decide_eq_true rfl
def R10 : Rel := fun args p r => ∃ (x : Y0a) (l : Lst (Lst Int)) (at_ how : Int), args = [x.cv, Lst.cv (Lst.cv I) l, I at_, I how] /\ r = .ret (Bo true) p
theorem zdis10 {P : Prop} (h : P := by first | exact zdis | (simp only [Hp.bump_n, Hp.znew_n, Hp.zset_n, List.length_nil, List.length_cons, List.length_append, List.length_map, Q0l]; (first | done | omega)) | (simp (disch := first | exact zd1 | (simp only [Hp.bump_n, Hp.znew_n, Hp.zset_n, List.length_nil, List.length_cons, List.length_append, List.length_map, Q0l]; (first | done | omega))) only [zheap, zx]; (first | done | rfl)) | fail) : P := h
theorem zq10 {A B : Prop} (k : B) (h : A = B := by have zy := zA @zw10 <| zA @rs10 <| zA @tt3 <| zA @tt4 <| zA @tt9 <| zA @tt25 <| zA @tt32 <| zA @tt34 <| zA @tt57 <| zA @tt61 <| zA @tt63 <| zA @tt64 <| zA @tt66 <| zA @tt68 <| zA @tt69 <| zA ti3.eq_1 <| zA ti4.eq_1 <| zA ti9.eq_1 <| zA ti25.eq_1 <| zA ti32.eq_1 <| zA ti34.eq_1 <| zA ti57.eq_1 <| zA ti61.eq_1 <| zA ti63.eq_1 <| zA ti64.eq_1 <| zA ti66.eq_1 <| zA ti68.eq_1 <| zA ti69.eq_1 <| zA @t_31 <| zA @t_32 <| zA @t_33 <| zA @t_34 <| zA @t_35 <| zA @t_37 <| zA @t_40 <| zA @Q0m <| zA @V0e <| zA @Y0f <| zA @Y0e <| zA @zsl32 <| zA @zsl63 <| zA @zsl64 <| zA @zsl68 <| zA @tt5 <| zA ti5.eq_1 <| zA @K0z <| zA @str_eq <| @Q0l; have zd := @zdis10; exact zQd) : A := h ▸ k
theorem c10 : Con C 10 R10 := by
 refine Q0e C ?_ ?_ ?_
 ·rintro args p r r' ⟨x, l, at_, how, h, e⟩ ⟨x', l', at_', how', h', e'⟩
  subst e; subst e'; simp_all [Y0a.inj_iff, X0a.inj_iff, K0a.inj_iff, Q0a.inj_iff, K0l, X01]
 ·rintro args p r ⟨x, l, at_, how, h, rfl⟩; exact zr1
 rintro args p r ⟨x, l, at_, how, rfl, rfl⟩
 refine zW C false [(31, R31), (32, R32), (33, R33), (34, R34), (35, R35), (37, R37), (40, R40)] ⟨c31, c32, c33, c34, c35, c37, c40, zT⟩ rfl xf10 zc10_ok fun call zh hF => ?_
 have t_31 := @t31 _ zh.1
 have t_32 := @t32 _ zh.2.1
 have t_33 := @t33 _ zh.2.2.1
 have t_34 := @t34 _ zh.2.2.2.1
 have t_35 := @t35 _ zh.2.2.2.2.1
 have t_37 := @t37 _ zh.2.2.2.2.2.1
 have t_40 := @t40 _ zh.2.2.2.2.2.2.1
 clear zh
 have hl := cfg_len x
 have hL := Y1g x
 have hP := (Y0g hL).1
 generalize hC : cfgOf x = c at hl hL hP
 obtain ⟨hl1, hl2⟩ := hl
 have hS := V0p hL l.l
 have b1 : inB (layS c (stateOf c l.l)) := K0s c _
 have lS := X07 hS
 have hpk := V0g (n := at_) (m := c.Players) (by omega)
 have hk5 := V0g (n := how) (m := 5) (by omega)
 have ha : (((pick at_ c.Players).toNat : Nat) : Int) < c.Players := by omega
 have hk16 : (pick at_ c.Players).toNat < 16 := by omega
 have hbr := (Q0f hS).1 _ hk16
 have hkd := placed_kind (Q0f hS).1 ha hP.2
 have hbo := K0i (Y0k hbr) (by omega)
 have hmm := ((Q0h (b := nth (stateOf c l.l).Bodies (pick at_ c.Players).toNat) (by omega)).1 (Y0k hbr)).1 (nth (nth (stateOf c l.l).Bodies (pick at_ c.Players).toNat).Mem 3) (by rw [Y0j (by rw [Q0a.hMem]; omega : 3 < (nth (stateOf c l.l).Bodies (pick at_ c.Players).toNat).Mem.length)]; exact List.getElem_mem _)
 have hsl := Y1x c l.l 0
 have hsg := (Q0u ((Q0f hS).2.1 0 (by omega)))
 generalize hSS : stateOf c l.l = S at hS b1 lS hbr hkd hbo hmm hsl hsg
 generalize hkk : (pick at_ c.Players).toNat = k at ha hk16 hbr hkd hbo hmm
 generalize hBB : nth S.Bodies k = B at hbr hkd hbo hmm
 have hka : pick at_ c.Players = (k : Int) := by omega
 have main := fun T (e : markT k (pick how 5) S = T) => markT_all hL l.l (pick how 5) ha (T := T) (by rw [hSS]; exact e)
 rw [hSS] at main
 have hh : pick how 5 = 0 \/ pick how 5 = 1 \/ pick how 5 = 2 \/ pick how 5 = 3 \/ pick how 5 = 4 := by omega
 have htb : ∀ d : Int, IntKind.u64.wrap ((BitVec.ofInt IntKind.u64.bits d ^^^ BitVec.ofInt IntKind.u64.bits 1).toNat : Int) = turnB d := fun _ => rfl
 rcases hh with h0 | h0 | h0 | h0 | h0
 ·obtain ⟨hT, heq, b2, lT, hm⟩ := main (S.put_2k k { B with X := (B.X + 1).tmod 4096 }) (by rw [h0, <- hBB]; rfl)
  cases hd : decide (S = S.put_2k k { B with X := (B.X + 1).tmod 4096 }) with
  | false =>
   rw [hd] at heq
   (have zx := zA hC (zA hSS (zA hka (zA hBB (zA h0 (zA hS (zA hT (zA heq hd))))))); refine zq10 ?_; try exact zT)
   repeat' (apply zK.s <;> intro hc <;> (try simp only [zhd] at hc) <;> (try have hw := V0a hc) <;> (refine zq10 ?_; try exact zT))
   all_goals (try clear zx)
   exact K0d hF zle (K0c rfl (Z0c (by intro jj; simp [CV.has])))
  | true =>
   rw [hd] at heq
   have hm := hm hd
   rw [if_pos hS, if_pos hT] at hm
   (have zx := zA hC (zA hSS (zA hka (zA hBB (zA h0 (zA hS (zA hT (zA heq (zA hd hm)))))))); refine zq10 ?_; try exact zT)
   repeat' (apply zK.s <;> intro hc <;> (try simp only [zhd] at hc) <;> (try have hw := V0a hc) <;> (refine zq10 ?_; try exact zT))
   all_goals (try clear zx)
   exact K0d hF zle (K0c rfl (Z0c (by intro jj; simp [CV.has])))
 ·obtain ⟨hT, heq, b2, lT, hm⟩ := main (S.put_2k k { B with VY := 0 - B.VY }) (by rw [h0, <- hBB]; rfl)
  cases hd : decide (S = S.put_2k k { B with VY := 0 - B.VY }) with
  | false =>
   rw [hd] at heq
   (have zx := zA hC (zA hSS (zA hka (zA hBB (zA h0 (zA hS (zA hT (zA heq hd))))))); refine zq10 ?_; try exact zT)
   repeat' (apply zK.s <;> intro hc <;> (try simp only [zhd] at hc) <;> (try have hw := V0a hc) <;> (refine zq10 ?_; try exact zT))
   all_goals (try clear zx)
   exact K0d hF zle (K0c rfl (Z0c (by intro jj; simp [CV.has])))
  | true =>
   rw [hd] at heq
   have hm := hm hd
   rw [if_pos hS, if_pos hT] at hm
   (have zx := zA hC (zA hSS (zA hka (zA hBB (zA h0 (zA hS (zA hT (zA heq (zA hd hm)))))))); refine zq10 ?_; try exact zT)
   repeat' (apply zK.s <;> intro hc <;> (try simp only [zhd] at hc) <;> (try have hw := V0a hc) <;> (refine zq10 ?_; try exact zT))
   all_goals (try clear zx)
   exact K0d hF zle (K0c rfl (Z0c (by intro jj; simp [CV.has])))
 ·obtain ⟨hT, heq, b2, lT, hm⟩ := main (S.put_2k k (B.put_7k 3 (0 - nth B.Mem 3))) (by rw [h0, <- hBB]; rfl)
  cases hd : decide (S = S.put_2k k (B.put_7k 3 (0 - nth B.Mem 3))) with
  | false =>
   rw [hd] at heq
   (have zx := zA hC (zA hSS (zA hka (zA hBB (zA h0 (zA hS (zA hT (zA heq hd))))))); refine zq10 ?_; try exact zT)
   repeat' (apply zK.s <;> intro hc <;> (try simp only [zhd] at hc) <;> (try have hw := V0a hc) <;> (refine zq10 ?_; try exact zT))
   all_goals (try clear zx)
   exact K0d hF zle (K0c rfl (Z0c (by intro jj; simp [CV.has])))
  | true =>
   rw [hd] at heq
   have hm := hm hd
   rw [if_pos hS, if_pos hT] at hm
   (have zx := zA hC (zA hSS (zA hka (zA hBB (zA h0 (zA hS (zA hT (zA heq (zA hd hm)))))))); refine zq10 ?_; try exact zT)
   repeat' (apply zK.s <;> intro hc <;> (try simp only [zhd] at hc) <;> (try have hw := V0a hc) <;> (refine zq10 ?_; try exact zT))
   all_goals (try clear zx)
   exact K0d hF zle (K0c rfl (Z0c (by intro jj; simp [CV.has])))
 ·obtain ⟨hT, heq, b2, lT, hm⟩ := main ({ S with Dice := turnB S.Dice }) (by rw [h0]; rfl)
  cases hd : decide (S = { S with Dice := turnB S.Dice }) with
  | false =>
   rw [hd] at heq
   (have zx := zA hC (zA hSS (zA hka (zA hBB (zA h0 (zA hS (zA hT (zA heq (zA hd htb)))))))); refine zq10 ?_; try exact zT)
   repeat' (apply zK.s <;> intro hc <;> (try simp only [zhd] at hc) <;> (try have hw := V0a hc) <;> (refine zq10 ?_; try exact zT))
   all_goals (try clear zx)
   exact K0d hF zle (K0c rfl (Z0c (by intro jj; simp [CV.has])))
  | true =>
   rw [hd] at heq
   have hm := hm hd
   rw [if_pos hS, if_pos hT] at hm
   (have zx := zA hC (zA hSS (zA hka (zA hBB (zA h0 (zA hS (zA hT (zA heq (zA hd (zA hm htb))))))))); refine zq10 ?_; try exact zT)
   repeat' (apply zK.s <;> intro hc <;> (try simp only [zhd] at hc) <;> (try have hw := V0a hc) <;> (refine zq10 ?_; try exact zT))
   all_goals (try clear zx)
   exact K0d hF zle (K0c rfl (Z0c (by intro jj; simp [CV.has])))
 ·obtain ⟨hT, heq, b2, lT, hm⟩ := main (S.put_3k 0 (nth S.Score 0 + 1)) (by rw [h0]; rfl)
  cases hd : decide (S = S.put_3k 0 (nth S.Score 0 + 1)) with
  | false =>
   rw [hd] at heq
   (have zx := zA hC (zA hSS (zA hka (zA hBB (zA h0 (zA hS (zA hT (zA heq hd))))))); refine zq10 ?_; try exact zT)
   repeat' (apply zK.s <;> intro hc <;> (try simp only [zhd] at hc) <;> (try have hw := V0a hc) <;> (refine zq10 ?_; try exact zT))
   all_goals (try clear zx)
   exact K0d hF zle (K0c rfl (Z0c (by intro jj; simp [CV.has])))
  | true =>
   rw [hd] at heq
   have hm := hm hd
   rw [if_pos hS, if_pos hT] at hm
   (have zx := zA hC (zA hSS (zA hka (zA hBB (zA h0 (zA hS (zA hT (zA heq (zA hd hm)))))))); refine zq10 ?_; try exact zT)
   repeat' (apply zK.s <;> intro hc <;> (try simp only [zhd] at hc) <;> (try have hw := V0a hc) <;> (refine zq10 ?_; try exact zT))
   all_goals (try clear zx)
   exact K0d hF zle (K0c rfl (Z0c (by intro jj; simp [CV.has])))
end Go.Proofs.Ytpchcfkebljopaa
end
