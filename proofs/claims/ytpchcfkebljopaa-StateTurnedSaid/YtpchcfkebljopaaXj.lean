import Derived.Test.YtpchcfkebljopaaXi
set_option linter.unusedSimpArgs false
set_option linter.unusedVariables false
set_option linter.constructorNameAsVariable false
set_option linter.defProp false
set_option maxHeartbeats 8000000
section
namespace Go.Proofs.Ytpchcfkebljopaa
open Go.Cl Go Go.RowKit
set_option maxRecDepth 100000
set_option linter.constructorNameAsVariable false
def R83 : Rel := fun args p r => ∃ (o : Y0b), args = [o.cv] /\ r = .ret (Bo (!opRight o)) p
theorem t83 {T : XCall} (h : Has T 83 R83) (o : Y0b) {p : Hp}  : T 83 [o.cv] p = .ret (Bo (!opRight o)) p := h _ _ _ ⟨o, rfl, rfl⟩
theorem zq83 {A B : Prop} (k : B) (h : A = B := by have zy := zA @zw83 <| zA @rs83 <| zA @tt3 <| zA @tt29 <| zA ti3.eq_1 <| zA ti29.eq_1 <| zA @t_84 <| @Y0o; exact zQ) : A := h ▸ k
theorem zno83 {P : Prop} (h : P := by intro jj; simp [CV.has, CV.hasL, fault, X0b.nohas, Y0b.nohas]) : P := h
theorem c83 : Con C 83 R83 := by
 refine Q0e C ?_ ?_ ?_
 ·rintro args p r r' ⟨o, h, e⟩ ⟨o', h', e'⟩
  subst e; subst e'; simp_all [Y0b.inj_iff]
 ·rintro args p r ⟨o, h, rfl⟩; exact zr1
 rintro args p r ⟨o, rfl, rfl⟩
 refine zW C false [(84, R84)] ⟨c84, zT⟩ rfl xf83 zc83_ok fun call zh hF => ?_
 have t_84 := @t84 _ zh.1
 clear zh
 (have zx := zT; refine zq83 ?_; try exact zT)
 repeat' (apply zK.s <;> intro hc <;> (try simp only [zhd, zhn] at hc) <;> (try have hw := V0a hc) <;> (refine zq83 ?_; try exact zT))
 all_goals (try clear zx)
 all_goals refine V0d hF zle (X0c ?_ (K0d zno83))
 all_goals simp_all [opRight]
def J155 (l : Lst Y0b) (p : Hp) (n : Nat) (ρ : Env) (q : Hp) : Prop :=
 ∃ (k : Nat), n = l.l.length - k /\ k <= l.l.length /\ ρ 0 = l.cv Y0b.cv /\ ρ 1 = .fn 83 [] [] /\ ρ 7 = I l.l.length /\ ρ 8 = I k /\ firstW (fun o => !opRight o) (l.l.drop k) k = firstW (fun o => !opRight o) l.l 0 /\ HpLe p q
def R155 : Rel := fun args p r => ∃ (l : Lst Y0b), args = [l.cv Y0b.cv, .fn 83 [] []] /\ (l.l.length <= 1000000) /\ r = .ret (I (firstW (fun o => !opRight o) l.l 0)) p
theorem t155 {T : XCall} (h : Has T 155 R155) (l : Lst Y0b) {p : Hp} (hl : l.l.length <= 1000000) : T 155 [l.cv Y0b.cv, .fn 83 [] []] p = .ret (I (firstW (fun o => !opRight o) l.l 0)) p := h _ _ _ ⟨l, rfl, hl, rfl⟩
theorem zq155 {A B : Prop} (k : B) (h : A = B := by have zy := zA @zw155 <| zA @rs155 <| zA @tt3 <| zA @tt23 <| zA @tt29 <| zA ti3.eq_1 <| zA ti23.eq_1 <| zA ti29.eq_1 <| zA @t_83 <| zA @Y0o <| zA @zsl23 <| @hl; exact zQ) : A := h ▸ k
theorem zno155 {P : Prop} (h : P := by intro jj; simp [CV.has, CV.hasL, fault, X0b.nohas, Y0b.nohas]) : P := h
theorem c155 : Con C 155 R155 := by
 refine Q0e C ?_ ?_ ?_
 ·rintro args p r r' ⟨l, h, hl, e⟩ ⟨l', h', hl', e'⟩
  subst e; subst e'; simp_all [Y0b.inj_iff, Z0p]
 ·rintro args p r ⟨l, h, hl, rfl⟩; exact zr1
 rintro args p r ⟨l, rfl, hl, rfl⟩
 refine zW C false [(83, R83)] ⟨c83, zT⟩ rfl xf155 zc155_ok fun call zh hF => ?_
 have t_83 := @t83 _ zh.1
 clear zh
 (have zx := zT; refine zq155 ?_; try exact zT)
 repeat' (apply zK.s <;> intro hc <;> (try simp only [zhd, zhn] at hc) <;> (try have hw := V0a hc) <;> (refine zq155 ?_; try exact zT))
 all_goals (try clear zx)
 show W C false noExt call (ZC.block 0 (ZC.loop Y1k)) _ _ (seqQ _ _)
 show W C false noExt call (ZC.loop Y1k) _ _ _
 refine V0i C false noExt call Y1k _ _ _ (J155 l p) l.l.length ⟨0, rfl, by omega, (by simp [put_at, Y0c, K0e]), (by simp [put_at, Y0c]; rfl), (by simp [put_at, Y0c, K0e]), (by simp [put_at, Y0c, K0e]), by simp, zle⟩ ?_
 rintro n ρ q ⟨k, rfl, hk, e0, e1, e7, e8, hj, hle⟩
 by_cases hlt : (k : Int) < l.l.length
 ·have hd := Z0u (l := l.l) (k := k) (by omega)
  rw [hd] at hj
  simp only [firstW] at hj
  cases hr : opRight (nth l.l k) with
  | true =>
   rw [if_neg (by simp [hr])] at hj
   (have zx := zA e0 (zA e1 (zA e7 (zA e8 (zA hlt hr)))); refine zq155 ?_; try exact zT)
   repeat' (apply zK.s <;> intro hc <;> (try simp only [zhd, zhn] at hc) <;> (try have hw := V0a hc) <;> (refine zq155 ?_; try exact zT))
   all_goals (try clear zx)
   exact ⟨l.l.length - (k + 1), by omega, k + 1, rfl, by omega, zev, zev, zev, zev, by simpa using hj, zlq⟩
  | false =>
   rw [if_pos (by simp [hr])] at hj
   (have zx := zA e0 (zA e1 (zA e7 (zA e8 (zA hlt hr)))); refine zq155 ?_; try exact zT)
   repeat' (apply zK.s <;> intro hc <;> (try simp only [zhd, zhn] at hc) <;> (try have hw := V0a hc) <;> (refine zq155 ?_; try exact zT))
   all_goals (try clear zx)
   refine V0d hF zlq (X0c ?_ (K0d zno155))
   rw [<- hj]
 ·(have zx := zA e0 (zA e1 (zA e7 (zA e8 hlt))); refine zq155 ?_; try exact zT)
  repeat' (apply zK.s <;> intro hc <;> (try simp only [zhd, zhn] at hc) <;> (try have hw := V0a hc) <;> (refine zq155 ?_; try exact zT))
  all_goals (try clear zx)
  refine V0d hF zlq (X0c ?_ (K0d zno155))
  rw [<- hj, List.drop_eq_nil_of_le (by omega)]; rfl
def R82 : Rel := fun args p r => ∃ (l : Lst Y0b), args = [l.cv Y0b.cv, .fn 83 [] []] /\ (l.l.length <= 1000000) /\ r = .ret (Bo (!l.l.all opRight)) p
theorem t82 {T : XCall} (h : Has T 82 R82) (l : Lst Y0b) {p : Hp} (hl : l.l.length <= 1000000) : T 82 [l.cv Y0b.cv, .fn 83 [] []] p = .ret (Bo (!l.l.all opRight)) p := h _ _ _ ⟨l, rfl, hl, rfl⟩
theorem zq82 {A B : Prop} (k : B) (h : A = B := by have zy := zA @zw82 <| zA @rs82 <| zA @tt3 <| zA ti3.eq_1 <| zA @t_155 <| @hl; exact zQ) : A := h ▸ k
theorem zno82 {P : Prop} (h : P := by intro jj; simp [CV.has, CV.hasL, fault, X0b.nohas]) : P := h
theorem c82 : Con C 82 R82 := by
 refine Q0e C ?_ ?_ ?_
 ·rintro args p r r' ⟨l, h, hl, e⟩ ⟨l', h', hl', e'⟩
  subst e; subst e'; simp_all [Z0p]
 ·rintro args p r ⟨l, h, hl, rfl⟩; exact zr1
 rintro args p r ⟨l, rfl, hl, rfl⟩
 refine zW C false [(155, R155)] ⟨c155, zT⟩ rfl xf82 zc82_ok fun call zh hF => ?_
 have t_155 := @t155 _ zh.1
 clear zh
 (have zx := zT; refine zq82 ?_; try exact zT)
 repeat' (apply zK.s <;> intro hc <;> (try simp only [zhd, zhn] at hc) <;> (try have hw := V0a hc) <;> (refine zq82 ?_; try exact zT))
 all_goals (try clear zx)
 refine V0d hF zle (X0c ?_ (K0d zno82))
 rw [<- any_opRight, <- X1v _ _ 0]
def R29 : Rel := fun args p r => ∃ (l : Lst Y0b), args = [l.cv Y0b.cv] /\ (l.l.length <= 1000000) /\ r = .ret (Bo (ruleRight l.l)) p
theorem t29 {T : XCall} (h : Has T 29 R29) (l : Lst Y0b) {p : Hp} (hl : l.l.length <= 1000000) : T 29 [l.cv Y0b.cv] p = .ret (Bo (ruleRight l.l)) p := h _ _ _ ⟨l, rfl, hl, rfl⟩
theorem zq29 {A B : Prop} (k : B) (h : A = B := by have zy := zA @zw29 <| zA @rs29 <| zA @tt3 <| zA @tt23 <| zA ti3.eq_1 <| zA ti23.eq_1 <| zA @t_82 <| zA @Y0o <| zA @zsl23 <| @hl; exact zQ) : A := h ▸ k
theorem zno29 {P : Prop} (h : P := by intro jj; simp [CV.has, CV.hasL, fault, X0b.nohas, Y0b.nohas]) : P := h
theorem c29 : Con C 29 R29 := by
 refine Q0e C ?_ ?_ ?_
 ·rintro args p r r' ⟨l, h, hl, e⟩ ⟨l', h', hl', e'⟩
  subst e; subst e'; simp_all [Y0b.inj_iff, Z0p]
 ·rintro args p r ⟨l, h, hl, rfl⟩; exact zr1
 rintro args p r ⟨l, rfl, hl, rfl⟩
 refine zW C false [(82, R82)] ⟨c82, zT⟩ rfl xf29 zc29_ok fun call zh hF => ?_
 have t_82 := @t82 _ zh.1
 clear zh
 by_cases h16 : (l.l.length : Int) <= 16
 ·(have zx := h16; refine zq29 ?_; try exact zT)
  repeat' (apply zK.s <;> intro hc <;> (try simp only [zhd, zhn] at hc) <;> (try have hw := V0a hc) <;> (refine zq29 ?_; try exact zT))
  all_goals (try clear zx)
  refine V0d hF zle (X0c ?_ (K0d zno29))
  have h' : l.l.length <= 16 := by omega
  simp [ruleRight, h']
 ·(have zx := h16; refine zq29 ?_; try exact zT)
  repeat' (apply zK.s <;> intro hc <;> (try simp only [zhd, zhn] at hc) <;> (try have hw := V0a hc) <;> (refine zq29 ?_; try exact zT))
  all_goals (try clear zx)
  refine V0d hF zle (X0c ?_ (K0d zno29))
  have h' : ¬ l.l.length <= 16 := by omega
  simp [ruleRight, h']
def J30 (l : Lst Y0b) (p : Hp) (n : Nat) (ρ : Env) (q : Hp) : Prop :=
 ∃ (k : Nat), n = l.l.length - k /\ k <= l.l.length /\ ρ 0 = l.cv Y0b.cv /\ ρ 3 = I k /\ (l.l.drop k).all opRight = l.l.all opRight /\ HpLe p q
def R30 : Rel := fun args p r => ∃ (l : Lst Y0b), args = [l.cv Y0b.cv] /\ (l.l.length <= 1000000) /\ r = .ret (Bo (ruleRight l.l)) p
theorem t30 {T : XCall} (h : Has T 30 R30) (l : Lst Y0b) {p : Hp} (hl : l.l.length <= 1000000) : T 30 [l.cv Y0b.cv] p = .ret (Bo (ruleRight l.l)) p := h _ _ _ ⟨l, rfl, hl, rfl⟩
theorem zq30 {A B : Prop} (k : B) (h : A = B := by have zy := zA @zw30 <| zA @rs30 <| zA @tt3 <| zA @tt23 <| zA @tt29 <| zA ti3.eq_1 <| zA ti23.eq_1 <| zA ti29.eq_1 <| zA @t_85 <| zA @Y0o <| zA @zsl23 <| @hl; exact zQ) : A := h ▸ k
theorem zno30 {P : Prop} (h : P := by intro jj; simp [CV.has, CV.hasL, fault, X0b.nohas, Y0b.nohas]) : P := h
theorem c30 : Con C 30 R30 := by
 refine Q0e C ?_ ?_ ?_
 ·rintro args p r r' ⟨l, h, hl, e⟩ ⟨l', h', hl', e'⟩
  subst e; subst e'; simp_all [Y0b.inj_iff, Z0p]
 ·rintro args p r ⟨l, h, hl, rfl⟩; exact zr1
 rintro args p r ⟨l, rfl, hl, rfl⟩
 refine zW C false [(85, R85)] ⟨c85, zT⟩ rfl xf30 zc30_ok fun call zh hF => ?_
 have t_85 := @t85 _ zh.1
 clear zh
 (have zx := zT; refine zq30 ?_; try exact zT)
 repeat' (apply zK.s <;> intro hc <;> (try simp only [zhd, zhn] at hc) <;> (try have hw := V0a hc) <;> (refine zq30 ?_; try exact zT))
 all_goals (try clear zx)
 show W C false noExt call (ZC.block 0 (ZC.loop zn30_7)) _ _ (seqQ _ _)
 show W C false noExt call (ZC.loop zn30_7) _ _ _
 refine V0i C false noExt call zn30_7 _ _ _ (J30 l p) l.l.length ⟨0, rfl, by omega, (by simp [put_at, Y0c, K0e]), (by simp [put_at, Y0c, K0e]), by simp, zle⟩ ?_
 rintro n ρ q ⟨k, rfl, hk, e0, e3, hj, hle⟩
 by_cases hlt : (k : Int) < l.l.length
 ·have hd := Z0u (l := l.l) (k := k) (by omega)
  rw [hd] at hj
  simp only [List.all_cons] at hj
  cases hw : opRight (nth l.l k) with
  | true =>
   have hw' := hw
   simp only [opRight, Bool.and_eq_true] at hw'
   obtain ⟨⟨w1, w2⟩, w3⟩ := hw'
   rw [hw] at hj
   (have zx := zA e0 (zA e3 (zA hlt (zA w1 (zA w2 w3)))); refine zq30 ?_; try exact zT)
   repeat' (apply zK.s <;> intro hc <;> (try simp only [zhd, zhn] at hc) <;> (try have hw := V0a hc) <;> (refine zq30 ?_; try exact zT))
   all_goals (try clear zx)
   exact ⟨l.l.length - (k + 1), by omega, k + 1, rfl, by omega, zev, zev, by simpa using hj, zlq⟩
  | false =>
   rw [hw] at hj
   (have zx := zA e0 (zA e3 hlt); refine zq30 ?_; try exact zT)
   repeat' (apply zK.s <;> intro hc <;> (try simp only [zhd, zhn] at hc) <;> (try have hw := V0a hc) <;> (refine zq30 ?_; try exact zT))
   all_goals (try clear zx)
   all_goals first
    | (exfalso; simp_all [opRight]; done)
    | (refine V0d hF zlq (X0c ?_ (K0d zno30)); simp [ruleRight, <- hj]; done)
 ·(have zx := zA e0 (zA e3 hlt); refine zq30 ?_; try exact zT)
  repeat' (apply zK.s <;> intro hc <;> (try simp only [zhd, zhn] at hc) <;> (try have hw := V0a hc) <;> (refine zq30 ?_; try exact zT))
  all_goals (try clear zx)
  refine V0d hF zlq (X0c ?_ (K0d zno30))
  rw [List.drop_eq_nil_of_le (by omega)] at hj
  simp [ruleRight, <- hj] <;> omega
def mapE (seen : List Int) : List (CV × CV) := seen.map fun n => (I n, Bo true)
theorem V08 (n : Int) : ∀ (seen : List Int) (k : Nat), (seen.contains n = false /\ findK .i64 n k (mapE seen) = some none) \/ (seen.contains n = true /\ ∃ j, findK .i64 n k (mapE seen) = some (some (j, Bo true)))
 | [], k => .inl ⟨rfl, rfl⟩
 | x :: l, k => by
  have hf : findK .i64 n k (mapE (x :: l)) = bif decide (n = x) then some (some (k, Bo true)) else findK .i64 n (k + 1) (mapE l) := by
   simp only [mapE, List.map_cons, findK, if_true]
  by_cases h : n = x
  ·right; rw [hf]; simp [h]
  ·rcases V08 n l (k + 1) with ⟨h1, h2⟩ | ⟨h1, j, h2⟩
   ·left; rw [hf]; simp only [h, decide_false, cond_false]; exact ⟨by simp only [List.contains_cons, h1, Bool.or_false]; simp [h], h2⟩
   ·right; rw [hf]; simp only [h, decide_false, cond_false]; exact ⟨by simp only [List.contains_cons, h1, Bool.or_true], j, h2⟩
theorem look224 (p : Hp) (i : Nat) (n : Int) (seen : List Int) (h : p.t.get i = some (.map (mapE seen))) : xlookup C p 224 (.mapr i) (I n) false = .ret (Bo (seen.contains n)) p := by
 have hm : mapKV C 224 = some (4, ti4) := by simp only [mapKV, tt224, ti224, tt3, ti3, tt4]
 simp only [xlookup, hm, entriesOf, h]
 rcases V08 n seen 0 with ⟨h1, h2⟩ | ⟨h1, j, h2⟩
 ·rw [h2, h1]; rfl
 ·rw [h2, h1]; rfl
theorem upd224 (p : Hp) (i : Nat) (n : Int) (seen : List Int) (h : p.t.get i = some (.map (mapE seen))) (hn : seen.contains n = false) : xupdate C p 224 (.mapr i) (I n) (Bo true) = .ret (.tup []) (p.set i (some (.map (mapE (seen ++ [n]))))) := by
 have hm : mapKV C 224 = some (4, ti4) := by simp only [mapKV, tt224, ti224, tt3, ti3, tt4]
 simp only [xupdate, hm, h]
 rcases V08 n seen 0 with ⟨h1, h2⟩ | ⟨h1, j, h2⟩
 ·rw [h2]; simp [mapE]
 ·rw [hn] at h1; cases h1
theorem mkmap (p : Hp) : xmakeMap p = .ret (.mapr p.n) (p.new (.map (mapE []))) := rfl
def J136 (c : X0a) (p : Hp) (n : Nat) (ρ : Env) (q : Hp) : Prop :=
 ∃ (k : Nat), n = c.Tokens.l.length - k /\ k <= c.Tokens.l.length /\ ρ 1 = .ptr p.n [] /\ ρ 3 = .mapr (p.n + 1) /\ ρ 8 = Lst.cv I c.Tokens /\ ρ 9 = I c.Tokens.l.length /\ ρ 10 = I k /\ q.t.get p.n = some (.var sh61 c.cv) /\ q.t.get (p.n + 1) = some (.map (mapE (c.Tokens.l.take k))) /\ tokGo (c.Tokens.l.take k) (c.Tokens.l.drop k) = tokGo [] c.Tokens.l /\ p.n + 1 < q.n /\ HpLe p q
def R136 : Rel := fun args p r => ∃ (c : X0a), args = [c.cv] /\ (c.Tokens.l.length <= 1000000) /\ r = .ret (Bo (tokGo [] c.Tokens.l && decide ((c.Tokens.l.length : Int) = c.Players))) p
theorem t136 {T : XCall} (h : Has T 136 R136) (c : X0a) {p : Hp} (hl : c.Tokens.l.length <= 1000000) : T 136 [c.cv] p = .ret (Bo (tokGo [] c.Tokens.l && decide ((c.Tokens.l.length : Int) = c.Players))) p := h _ _ _ ⟨c, rfl, hl, rfl⟩
theorem zq136 {A B : Prop} (k : B) (h : A = B := by have zy := zA @zw136 <| zA @rs136 <| zA @tt3 <| zA @tt24 <| zA @tt61 <| zA @tt224 <| zA ti3.eq_1 <| zA ti24.eq_1 <| zA ti61.eq_1 <| zA ti224.eq_1 <| zA @t_106 <| zA @Y0e <| zA @zsl24 <| zA @look224 <| zA @upd224 <| zA @mkmap <| @hl; exact zQ) : A := h ▸ k
theorem zno136 {P : Prop} (h : P := by intro jj; simp [CV.has, CV.hasL, fault, X0b.nohas]) : P := h
theorem zge136 {P : Prop} (h : P := by simp (disch := first | exact zdl | fail) only [zheap]; first | done | rfl) : P := h
theorem c136 : Con C 136 R136 := by
 refine Q0e C ?_ ?_ ?_
 ·rintro args p r r' ⟨c, h, hl, e⟩ ⟨c', h', hl', e'⟩
  subst e; subst e'; simp_all [X0a.inj_iff, Y0r]
 ·rintro args p r ⟨c, h, hl, rfl⟩; exact zr1
 rintro args p r ⟨c, rfl, hl, rfl⟩
 refine zW C false [(106, R106)] ⟨c106, zT⟩ rfl xf136 zc136_ok fun call zh hF => ?_
 have t_106 := @t106 _ zh.1
 clear zh
 (have zx := zT; refine zq136 ?_; try exact zT)
 repeat' (apply zK.s <;> intro hc <;> (try simp only [zhd] at hc) <;> (try have hw := V0a hc) <;> (refine zq136 ?_; try exact zT))
 all_goals (try clear zx)
 (show W C false noExt call (ZC.loop Z12) _ _ _); refine V0i C false noExt call Z12 _ _ _ (J136 c p) c.Tokens.l.length ⟨0, rfl, by omega, (by simp [put_at, Y0c, K0e]), (by simp [put_at, Y0c, K0e]), (by simp [put_at, Y0c, K0e]), (by simp [put_at, Y0c, K0e]), (by simp [put_at, Y0c, K0e]), zge136, zge136, rfl, (zb9), zle⟩ ?_
 rintro n ρ q ⟨k, rfl, hk, e1, e3, e8, e9, e10, g1, g2, hj, hn, hle⟩
 by_cases hlt : (k : Int) < c.Tokens.l.length
 ·have htk := take_nth (l := c.Tokens.l) (k := k) (by omega)
  rw [Z0u (l := c.Tokens.l) (k := k) (by omega)] at hj
  simp only [tokGo] at hj
  cases hw : within (nth c.Tokens.l k) 0 2147483646 with
  | false =>
   rw [hw] at hj
   (have zx := zA e1 (zA e3 (zA e8 (zA e9 (zA e10 (zA g1 (zA g2 (zA hlt hw))))))); refine zq136 ?_; try exact zT)
   repeat' (apply zK.s <;> intro hc <;> (try simp only [zhd] at hc) <;> (try have hw := V0a hc) <;> (refine zq136 ?_; try exact zT))
   all_goals (try clear zx)
   refine V0d hF zlq (X0c ?_ (K0d zno136))
   rw [<- hj]; simp
  | true =>
   rw [hw] at hj
   cases hc2 : (c.Tokens.l.take k).contains (nth c.Tokens.l k) with
   | true =>
    rw [hc2] at hj
    (have zx := zA e1 (zA e3 (zA e8 (zA e9 (zA e10 (zA g1 (zA g2 (zA hlt (zA hw hc2)))))))); refine zq136 ?_; try exact zT)
    repeat' (apply zK.s <;> intro hc <;> (try simp only [zhd] at hc) <;> (try have hw := V0a hc) <;> (refine zq136 ?_; try exact zT))
    all_goals (try clear zx)
    refine V0d hF zlq (X0c ?_ (K0d zno136))
    rw [<- hj]; simp
   | false =>
    rw [hc2] at hj
    simp only [Bool.true_and, Bool.not_false] at hj
    (have zx := zA e1 (zA e3 (zA e8 (zA e9 (zA e10 (zA g1 (zA g2 (zA hlt (zA hw hc2)))))))); refine zq136 ?_; try exact zT)
    repeat' (apply zK.s <;> intro hc <;> (try simp only [zhd] at hc) <;> (try have hw := V0a hc) <;> (refine zq136 ?_; try exact zT))
    all_goals (try clear zx)
    exact ⟨c.Tokens.l.length - (k + 1), by omega, k + 1, rfl, by omega, zev, zev, zev, zev, zev, zg9, by rw [htk]; simp (disch := first | exact zdl | fail) only [zheap], by rw [htk]; exact hj, zb9, zlq⟩
 ·have hk2 : k = c.Tokens.l.length := by omega
  rw [hk2, List.drop_eq_nil_of_le (Nat.le_refl _)] at hj
  (have zx := zA e1 (zA e3 (zA e8 (zA e9 (zA e10 (zA g1 (zA g2 hlt)))))); refine zq136 ?_; try exact zT)
  repeat' (apply zK.s <;> intro hc <;> (try simp only [zhd] at hc) <;> (try have hw := V0a hc) <;> (refine zq136 ?_; try exact zT))
  all_goals (try clear zx)
  all_goals refine V0d hF zlq (X0c ?_ (K0d zno136))
  all_goals (rw [<- hj]; simp [tokGo, *])
def R60 : Rel := fun args p r => ∃ (c : X0a), args = [c.cv] /\ (c.Tokens.l.length <= 1000000) /\ (c.Rules.l.length <= 1000000) /\ r = .ret (Bo (legalC c)) p
theorem t60 {T : XCall} (h : Has T 60 R60) (c : X0a) {p : Hp} (hl : c.Tokens.l.length <= 1000000) (hr : c.Rules.l.length <= 1000000) : T 60 [c.cv] p = .ret (Bo (legalC c)) p := h _ _ _ ⟨c, rfl, hl, hr, rfl⟩
theorem zq60 {A B : Prop} (k : B) (h : A = B := by have zy := zA @zw60 <| zA @rs60 <| zA @tt3 <| zA @tt23 <| zA @tt59 <| zA @tt61 <| zA @tt69 <| zA ti3.eq_1 <| zA ti23.eq_1 <| zA ti59.eq_1 <| zA ti61.eq_1 <| zA ti69.eq_1 <| zA @t_29 <| zA @t_106 <| zA @t_135 <| zA @t_136 <| zA @Y0e <| zA @zsl23 <| zA @hl <| @hr; exact zQ) : A := h ▸ k
theorem zno60 {P : Prop} (h : P := by intro jj; simp [CV.has, CV.hasL, fault, X0b.nohas]) : P := h
theorem c60 : Con C 60 R60 := by
 refine Q0e C ?_ ?_ ?_
 ·rintro args p r r' ⟨c, h, hl, hr, e⟩ ⟨c', h', hl', hr', e'⟩
  subst e; subst e'; simp_all [X0a.inj_iff, Z0p]
 ·rintro args p r ⟨c, h, hl, hr, rfl⟩; exact zr1
 rintro args p r ⟨c, rfl, hl, hr, rfl⟩
 refine zW C false [(29, R29), (106, R106), (135, R135), (136, R136)] ⟨c29, c106, c135, c136, zT⟩ rfl xf60 zc60_ok fun call zh hF => ?_
 have t_29 := @t29 _ zh.1
 have t_106 := @t106 _ zh.2.1
 have t_135 := @t135 _ zh.2.2.1
 have t_136 := @t136 _ zh.2.2.2.1
 clear zh
 (have zx := zT; refine zq60 ?_; try exact zT)
 repeat' (apply zK.s <;> intro hc <;> (try simp only [zhd] at hc) <;> (try have hw := V0a hc) <;> (refine zq60 ?_; try exact zT))
 all_goals (try clear zx)
 all_goals refine V0d hF zle (X0c ?_ (K0d zno60))
 all_goals simp [legalC, *]
def J44 (c : X0a) (s : K0a) (p : Hp) (n : Nat) (ρ : Env) (q : Hp) : Prop :=
 ∃ (k : Nat), n = 16 - k /\ k <= 16 /\ ρ 2 = .ptr p.n [] /\ ρ 3 = .ptr (p.n + 1) [] /\ ρ 10 = .agg (s.Bodies.map Q0a.cv) /\ ρ 11 = I k /\ q.t.get p.n = some (.var sh61 c.cv) /\ q.t.get (p.n + 1) = some (.var sh66 s.cv) /\ allFrom (rightAt c.Players) (s.Bodies.drop k) k = allFrom (rightAt c.Players) s.Bodies 0 /\ p.n + 1 < q.n /\ HpLe p q
def L44 (c : X0a) (s : K0a) (p : Hp) (n : Nat) (ρ : Env) (q : Hp) : Prop :=
 ∃ (k : Nat), n = 8 - k /\ k <= 8 /\ ρ 2 = .ptr p.n [] /\ ρ 3 = .ptr (p.n + 1) [] /\ ρ 22 = .agg (s.Score.map I) /\ ρ 23 = I k /\ q.t.get p.n = some (.var sh61 c.cv) /\ q.t.get (p.n + 1) = some (.var sh66 s.cv) /\ allFrom (scoreAt c.Players) (s.Score.drop k) k = allFrom (scoreAt c.Players) s.Score 0 /\ p.n + 1 < q.n /\ HpLe p q
def R44 : Rel := fun args p r => ∃ (c : X0a) (s : K0a), args = [c.cv, s.cv] /\ (c.Tokens.l.length <= 1000000) /\ (c.Rules.l.length <= 1000000) /\ r = .ret (Bo (stateRight c s)) p
theorem t44 {T : XCall} (h : Has T 44 R44) (c : X0a) (s : K0a) {p : Hp} (hl : c.Tokens.l.length <= 1000000) (hr : c.Rules.l.length <= 1000000) : T 44 [c.cv, s.cv] p = .ret (Bo (stateRight c s)) p := h _ _ _ ⟨c, s, rfl, hl, hr, rfl⟩
theorem zq44 {A B : Prop} (k : B) (h : A = B := by have zy := zA @zw44 <| zA @rs44 <| zA @tt3 <| zA @tt34 <| zA @tt61 <| zA @tt63 <| zA @tt64 <| zA @tt66 <| zA ti3.eq_1 <| zA ti34.eq_1 <| zA ti61.eq_1 <| zA ti63.eq_1 <| zA ti64.eq_1 <| zA ti66.eq_1 <| zA @t_60 <| zA @t_105 <| zA @t_106 <| zA @Y0e <| zA @Y0f <| zA @Z0e <| zA @zsl63 <| zA @zsl64 <| zA @hl <| @hr; exact zQ) : A := h ▸ k
theorem zno44 {P : Prop} (h : P := by intro jj; simp [CV.has, CV.hasL, fault, X0b.nohas, K0a.nohas, Q0a.nohas]) : P := h
theorem zge44 {P : Prop} (h : P := by simp (disch := first | exact zdl | fail) only [zheap]; first | done | rfl) : P := h
theorem c44 : Con C 44 R44 := by
 refine Q0e C ?_ ?_ ?_
 ·rintro args p r r' ⟨c, s, h, hl, hr, e⟩ ⟨c', s', h', hl', hr', e'⟩
  subst e; subst e'; simp_all [X0a.inj_iff, K0a.inj_iff, Q0a.inj_iff]
 ·rintro args p r ⟨c, s, h, hl, hr, rfl⟩; exact zr1
 rintro args p r ⟨c, s, rfl, hl, hr, rfl⟩
 refine zW C false [(60, R60), (105, R105), (106, R106)] ⟨c60, c105, c106, zT⟩ rfl xf44 zc44_ok fun call zh hF => ?_
 have t_60 := @t60 _ zh.1
 have t_105 := @t105 _ zh.2.1
 have t_106 := @t106 _ zh.2.2.1
 clear zh
 have hb := s.hBodies
 have hsc := s.hScore
 (have zx := zT; refine zq44 ?_; try exact zT)
 repeat' (apply zK.s <;> intro hc <;> (try simp only [zhd] at hc) <;> (try have hw := V0a hc) <;> (refine zq44 ?_; try exact zT))
 all_goals (try clear zx)
 (show W C false noExt call (ZC.loop zn44_7) _ _ _); refine V0i C false noExt call zn44_7 _ _ _ (J44 c s p) 16 ⟨0, rfl, by omega, (by simp [put_at, Y0c, K0e]), (by simp [put_at, Y0c, K0e]), (by simp [put_at, Y0c, K0e]), (by simp [put_at, Y0c, K0e]), zge44, zge44, rfl, (zb9), zle⟩ ?_
 rintro n ρ q ⟨k, rfl, hk, e2, e3, e10, e11, g1, g2, hj, hn, hle⟩
 by_cases hlt : (k : Int) < 16
 ·rw [X0t _ (l := s.Bodies) (k := k) (by omega)] at hj
  cases hw : rightAt c.Players k (nth s.Bodies k) with
  | false =>
   rw [hw] at hj
   (have zx := zA e2 (zA e3 (zA e10 (zA e11 (zA g1 (zA g2 (zA hlt hw)))))); refine zq44 ?_; try exact zT)
   repeat' (apply zK.s <;> intro hc <;> (try simp only [zhd] at hc) <;> (try have hw := V0a hc) <;> (refine zq44 ?_; try exact zT))
   all_goals (try clear zx)
   refine V0d hF zlq (X0c ?_ (K0d zno44))
   simp [stateRight, <- hj]
  | true =>
   rw [hw, Bool.true_and] at hj
   (have zx := zA e2 (zA e3 (zA e10 (zA e11 (zA g1 (zA g2 (zA hlt hw)))))); refine zq44 ?_; try exact zT)
   repeat' (apply zK.s <;> intro hc <;> (try simp only [zhd] at hc) <;> (try have hw := V0a hc) <;> (refine zq44 ?_; try exact zT))
   all_goals (try clear zx)
   exact ⟨16 - (k + 1), by omega, k + 1, rfl, by omega, zev, zev, zev, zev, zg9, zg9, hj, zb9, zlq⟩
 ·have hk16 : k = 16 := by omega
  subst hk16
  rw [List.drop_eq_nil_of_le (by omega)] at hj
  have hA : allFrom (rightAt c.Players) s.Bodies 0 = true := hj.symm
  (have zx := zA e2 (zA e3 (zA e10 (zA e11 (zA g1 (zA g2 hlt))))); refine zq44 ?_; try exact zT)
  repeat' (apply zK.s <;> intro hc <;> (try simp only [zhd] at hc) <;> (try have hw := V0a hc) <;> (refine zq44 ?_; try exact zT))
  all_goals (try clear zx)
  (show W C false noExt call (ZC.loop V10) _ _ _); refine V0i C false noExt call V10 _ _ _ (L44 c s p) 8 ⟨0, rfl, by omega, zev, zev, zev, zev, g1, g2, rfl, hn, hle⟩ ?_
  clear e2 e3 e10 e11 g1 g2 hn hle hj hlt
  rintro n ρ q ⟨k, rfl, hk, e2, e3, e22, e23, g1, g2, hj, hn, hle⟩
  by_cases hlt : (k : Int) < 8
  ·rw [X0t _ (l := s.Score) (k := k) (by omega)] at hj
   cases hw : scoreAt c.Players k (nth s.Score k) with
   | false =>
    rw [hw] at hj
    simp only [scoreAt] at hw
    (have zx := zA e2 (zA e3 (zA e22 (zA e23 (zA g1 (zA g2 hlt))))); refine zq44 ?_; try exact zT)
    repeat' (apply zK.s <;> intro hc <;> (try simp only [zhd] at hc) <;> (try have hw := V0a hc) <;> (refine zq44 ?_; try exact zT))
    all_goals (try clear zx)
    all_goals first
     | (exfalso; simp_all; done)
     | (exfalso; simp_all; omega)
     | (refine V0d hF zlq (X0c ?_ (K0d zno44)); simp [stateRight, <- hj]; done)
   | true =>
    rw [hw, Bool.true_and] at hj
    simp only [scoreAt] at hw
    (have zx := zA e2 (zA e3 (zA e22 (zA e23 (zA g1 (zA g2 hlt))))); refine zq44 ?_; try exact zT)
    repeat' (apply zK.s <;> intro hc <;> (try simp only [zhd] at hc) <;> (try have hw := V0a hc) <;> (refine zq44 ?_; try exact zT))
    all_goals (try clear zx)
    all_goals first
     | exact ⟨8 - (k + 1), by omega, k + 1, rfl, by omega, zev, zev, zev, zev, zg9, zg9, hj, zb9, zlq⟩
     | exact ⟨8 - (k + 1), by omega, k + 1, rfl, by omega, zev, zev, zev, zev, g1, g2, hj, hn, hle⟩
     | (exfalso; simp_all; done)
     | (exfalso; simp_all; omega)
  ·have hk8 : k = 8 := by omega
   subst hk8
   rw [List.drop_eq_nil_of_le (by omega)] at hj
   have hB : allFrom (scoreAt c.Players) s.Score 0 = true := hj.symm
   (have zx := zA e2 (zA e3 (zA e22 (zA e23 (zA g1 (zA g2 hlt))))); refine zq44 ?_; try exact zT)
   repeat' (apply zK.s <;> intro hc <;> (try simp only [zhd] at hc) <;> (try have hw := V0a hc) <;> (refine zq44 ?_; try exact zT))
   all_goals (try clear zx)
   all_goals refine V0d hF zlq (X0c ?_ (K0d zno44))
   all_goals simp [stateRight, hA, hB, *]
def nilB : Lst Int := ⟨.nil, [], fun _ => rfl⟩
def partB (l : List Int) : Lst Int := ⟨.part, l, nofun⟩
theorem bld203 : qbuild C 203 [] = some (Q0d.mk (.lst .nil []) (lst_sh .nil []) 0).cv := by
 simp only [qbuild, tt203, ti203, partsOk, setAll]; rfl
def R88 : Rel := fun args p r => args = [] /\ r = .ret (.ptr p.n []) (p.new (W1 0 []))
theorem t88 {T : XCall} (h : Has T 88 R88)  {p : Hp}  : T 88 [] p = .ret (.ptr p.n []) (p.new (W1 0 [])) := h _ _ _ ⟨rfl, rfl⟩
theorem zq88 {A B : Prop} (k : B) (h : A = B := by have zy := zA @zw88 <| zA @rs88 <| zA @tt203 <| zA ti203.eq_1 <| zA @K0m <| @bld203; exact zQ) : A := h ▸ k
theorem c88 : Con C 88 R88 := by
 refine Q0e C ?_ ?_ ?_
 ·rintro args p r r' ⟨h, e⟩ ⟨h', e'⟩
  subst e; subst e'; simp_all [Q0d.inj_iff]
 ·rintro args p r ⟨h, rfl⟩; exact zr1
 rintro args p r ⟨rfl, rfl⟩
 refine zW C false [] zT rfl xf88 zc88_ok fun call zh hF => ?_
 clear zh
 (have zx := zT; refine zq88 ?_; try exact zT)
 repeat' (apply zK.s <;> intro hc <;> (try simp only [zhd] at hc) <;> (try have hw := V0a hc) <;> (refine zq88 ?_; try exact zT))
 all_goals (try clear zx)
 refine V1e (by rw [Hp.znew_n]; omega) (fun k o h => ?_) (by simp [CV.weak, Hp.znew_n])
 by_cases hk : k = p.n
 ·subst hk
  rw [Hp.get_new_self] at h; cases h
  exact ⟨by rw [Hp.znew_n]; omega, .inr ⟨W1 0 [], by rw [Hp.get_new_self]; rfl, K0p fun j hj => by simp [W1, Wv, Q0d.cv, XObj.has, CV.has, CV.hasL] at hj⟩⟩
 ·rw [Hp.get_new_ne _ _ hk] at h
  have hd := hF.dom _ _ h
  exact ⟨by rw [Hp.znew_n]; omega, .inl ⟨hd, h, by rw [Hp.get_new_ne _ _ hk]; exact h⟩⟩
def R159 : Rel := fun args p r => ∃ (s : Lst Int), args = [s.cv Y8] /\ (s.tl ≠ .view) /\ (s.l.length <= 140737488355328) /\ r = .ret (Lst.cv Y8 (cloneP s)) p
theorem t159 {T : XCall} (h : Has T 159 R159) (s : Lst Int) {p : Hp} (h1 : s.tl ≠ .view) (h2 : s.l.length <= 140737488355328) : T 159 [s.cv Y8] p = .ret (Lst.cv Y8 (cloneP s)) p := h _ _ _ ⟨s, rfl, h1, h2, rfl⟩
theorem zq159 {A B : Prop} (k : B) (h : A = B := by have zy := zA @zw159 <| zA @rs159 <| zA @tt68 <| zA ti68.eq_1 <| zA @zsl68 <| zA @h1 <| @h2; exact zQ) : A := h ▸ k
theorem c159 : Con C 159 R159 := by
 refine Q0e C ?_ ?_ ?_
 ·rintro args p r r' ⟨s, h, h1, h2, e⟩ ⟨s', h', h1', h2', e'⟩
  subst e; subst e'; simp_all [X0n]
 ·rintro args p r ⟨s, h, h1, h2, rfl⟩; exact zr1
 rintro args p r ⟨s, rfl, h1, h2, rfl⟩
 refine zW C false [] zT rfl xf159 zc159_ok fun call zh hF => ?_
 clear zh
 obtain ⟨tl, l, o⟩ := s
 simp only at h2 h1
 cases tl with
 | view => exact absurd rfl h1
 | nil =>
  have := o rfl
  subst this
  (have zx := zT; refine zq159 ?_; try exact zT)
  repeat' (apply zK.s <;> intro hc <;> (try simp only [zhd] at hc) <;> (try have hw := V0a hc) <;> (refine zq159 ?_; try exact zT))
  all_goals (try clear zx)
  exact V0d hF zle (Z1q X1q ⟨.nil, [], o⟩ 0 _)
 | _ =>
  cases l with
  | nil =>
   (have zx := zT; refine zq159 ?_; try exact zT)
   repeat' (apply zK.s <;> intro hc <;> (try simp only [zhd] at hc) <;> (try have hw := V0a hc) <;> (refine zq159 ?_; try exact zT))
   all_goals (try clear zx)
   exact V0d hF zle (X0g (K0d (by intro jj; simp [Lst.cv, cloneP, CV.has, CV.hasL])))
  | cons x l =>
   simp only [List.length_cons] at h2
   (have zx := zT; refine zq159 ?_; try exact zT)
   repeat' (apply zK.s <;> intro hc <;> (try simp only [zhd] at hc) <;> (try have hw := V0a hc) <;> (refine zq159 ?_; try exact zT))
   all_goals (try clear zx)
   exact V0d hF zle (Z1q X1q ⟨.exact, x :: l, nofun⟩ _ _)
def R159x : Rel := fun args p r => R159 args p r \/ RFrz R159 args p r
theorem c159x : Con C 159 R159x := con_or C c159 (con_frz C c159) (by
 rintro args p r r' ⟨s, rfl, _⟩ ⟨a, j, sh, l, sz, e, _⟩
 have := congrArg List.getLast? e
 simp [Lst.cv] at this)
theorem t159x {T : XCall} (h : Has T 159 R159x) : (∀ (s : Lst Int) {p : Hp}, s.tl ≠ .view -> s.l.length <= 140737488355328 -> T 159 [s.cv Y8] p = .ret (Lst.cv Y8 (cloneP s)) p) /\
  ∀ (B : List Int) (j : Nat) {p : Hp}, B ≠ [] -> B.length <= 140737488355328 -> p.t.get j = some (.var (.n (List.replicate B.length .s)) (.agg (B.map Y8))) -> T 159 [.slc j [] 0 B.length] p = .ret (Lst.cv Y8 (partB B)) (p.set j none) := by
 refine ⟨fun s p h1 h2 => h _ _ _ (.inl ⟨s, rfl, h1, h2, rfl⟩), fun B j p hne h1 hg => h _ _ _ (.inr ⟨[], j, _, B.map Y8, 1, ?_, hg, fun x hx => ?_, ⟨⟨.part, B, nofun⟩, rfl, by simp, h1, ?_⟩⟩)⟩
 ·rw [List.length_map]; rfl
 ·obtain ⟨y, _, rfl⟩ := List.mem_map.1 hx; rfl
 ·cases B with
  | nil => exact absurd rfl hne
  | cons b B => rfl
def R91 : Rel := fun args p r => ∃ (i j : Nat) (l : List Bool), args = [.ptr i []] /\ (p.t.get i = some (W1 j l)) /\ (W2 i j l p) /\ (l.length <= 1000000) /\ (l ≠ []) /\ r = .ret (Lst.cv Y8 (partB (packB l))) (p.set j none)
theorem t91 {T : XCall} (h : Has T 91 R91) (i j : Nat) (l : List Bool) {p : Hp} (h1 : p.t.get i = some (W1 j l)) (h2 : W2 i j l p) (h3 : l.length <= 1000000) (h4 : l ≠ []) : T 91 [.ptr i []] p = .ret (Lst.cv Y8 (partB (packB l))) (p.set j none) := h _ _ _ ⟨i, j, l, rfl, h1, h2, h3, h4, rfl⟩
theorem zq91 {A B : Prop} (k : B) (h : A = B := by have zy := zA @zw91 <| zA @rs91 <| zA @tt68 <| zA @tt203 <| zA ti68.eq_1 <| zA ti203.eq_1 <| zA @t_159x <| zA @K0m <| zA @zsl68 <| zA @h1 <| zA @h2 <| zA @h3 <| @h4; exact zQ) : A := h ▸ k
theorem c91 : Con C 91 R91 := by
 refine Q0e C ?_ ?_ ?_
 ·rintro args p r r' ⟨i, j, l, h, h1, h2, h3, h4, e⟩ ⟨i', j', l', h', h1', h2', h3', h4', e'⟩
  subst e; subst e'; (subst h; simp only [List.cons.injEq, CV.ptr.injEq, and_true, true_and] at h'; subst h'; have hu := X1r h1 h2 h1' h2'; obtain ⟨e1, e2⟩ := hu; subst e1; rw [e2 h4])
 ·rintro args p r ⟨i, j, l, h, h1, h2, h3, h4, rfl⟩; exact zr1
 rintro args p r ⟨i, j, l, rfl, h1, h2, h3, h4, rfl⟩
 refine zW C false [(159, R159x)] ⟨c159x, zT⟩ rfl xf91 zc91_ok fun call zh hF => ?_
 have t_159x := @t159x _ zh.1
 clear zh
 have hd_h1 := hF.dom _ _ h1
 have k1 := h1
 have hi := hF.dom _ _ h1
 have g2 := (h2.resolve_left h4).2
 have hji := (h2.resolve_left h4).1
 have hpk := Q0i l
 have hpl : packB l ≠ [] := fun e => h4 (packB_nil.1 e)
 unfold Wrow at g2
 have hWv : Wv j l = .slc j [] 0 (packB l).length := if_neg h4
 replace h1 : p.t.get i = some (.var sh203 (Q0d.mk (.slc j [] 0 (packB l).length) (K1u _ _ _ _) l.length).cv) := by rw [h1]; simp only [W1, hWv]
 have t2 := t_159x.2 (packB l) j (p := p) hpl (by omega) g2
 (have zx := zA t2 h1; refine zq91 ?_; try exact zT)
 repeat' (apply zK.s <;> intro hc <;> (try simp only [zhd] at hc) <;> (try have hw := V0a hc) <;> (refine zq91 ?_; try exact zT))
 all_goals (try clear zx)
 refine V1e (Nat.le_refl _) (fun k o h => ?_) (X0g (K0d (fun jj hj => by have := (Lst.has _ X1q (partB (packB l)) jj).1 hj; cases this)))
 by_cases hk : k = j
 ·subst hk; rw [Hp.get_set_self] at h; cases h
 ·have h' := h
  rw [Hp.get_set_ne _ _ _ hk] at h'
  exact ⟨hF.dom _ _ h', .inl ⟨hF.dom _ _ h', h', h⟩⟩
theorem Z09 {i j : Nat} {m : List Bool} {p : Hp} {k : Nat} (h1 : k ≠ i) (h3 : k ≠ p.n) : (wHp i j [] m p).t.get k = p.t.get k := wHp_ne h1 (.inl rfl) h3
theorem sl64 (p : Hp) (a : Nat) (s : K0a) (n : Int) (hg : p.t.get a = some (.var sh66 s.cv)) (hn : 0 <= n /\ n <= 8) : qslice C p.h 64 (.ptr a [3]) none (some (I n)) none = some (.slc a [3] 0 n.toNat) := by
 have ht : tgt p.h (.ptr a [3]) = some (.agg (s.Score.map I)) := by
  simp only [tgt, Hp.h, hg, Option.map_some, XObj.obj]; rfl
 have hs : CV.shape (.agg (s.Score.map I)) = .n (List.replicate 8 sh3) := by
  simp only [CV.shape, Z0h (f := I) (s := sh3) (fun _ => rfl), s.hScore]
 have hq : qbnd (some (I n)) 8 8 = some n.toNat := by simp only [qbnd]; rw [if_pos (show 0 <= n /\ n <= ((8 : Nat) : Int) by omega)]
 simp only [qslice, tt64, ti64, ht, hq, sh64]
 rw [if_pos hs]
theorem ix24 (p : Hp) (a : Nat) (s : K0a) (n : Nat) (k : Int) (hg : p.t.get a = some (.var sh66 s.cv)) (hn : n <= 8) (hk : 0 <= k /\ k < n) : qindexAddr C p.h 24 (.slc a [3] 0 n) (I k) = some (.ptr a [3, k.toNat]) := by
 have ht : tgt p.h (.ptr a [3]) = some (.agg (s.Score.map I)) := by
  simp only [tgt, Hp.h, hg, Option.map_some, XObj.obj]; rfl
 have hs : CV.shape (.agg (s.Score.map I)) = .n (List.replicate (s.Score.map I).length sh3) := by
  simp only [CV.shape, Z0h (f := I) (s := sh3) (fun _ => rfl), List.length_map]
 simp only [qindexAddr, tt24, ti24, tt3, ti3, ht]
 rw [if_pos ⟨hs, hk⟩]
 simp
def J33 (c : X0a) (s : K0a) (i : Nat) (p : Hp) (n : Nat) (ρ : Env) (q : Hp) : Prop :=
 ∃ (k J : Nat), n = 16 - k /\ k <= 16 /\ ρ 2 = .ptr p.n [] /\ ρ 3 = .ptr (p.n + 1) [] /\ ρ 6 = .ptr i [] /\ ρ 26 = .agg (s.Bodies.map Q0a.cv) /\ ρ 27 = I k /\ q.t.get p.n = some (.var sh61 c.cv) /\ q.t.get (p.n + 1) = some (.var sh66 s.cv) /\ q.t.get i = some (W1 J (bitsOf s.Frame 10 ++ bitsOf s.Dice 64 ++ (s.Bodies.take k).flatMap bodyBits)) /\ q.t.get J = some (Wrow (packB (bitsOf s.Frame 10 ++ bitsOf s.Dice 64 ++ (s.Bodies.take k).flatMap bodyBits))) /\ p.n + 1 < i /\ i < J /\ J < q.n /\ HpLe p q
def L33 (c : X0a) (s : K0a) (i : Nat) (p : Hp) (n : Nat) (ρ : Env) (q : Hp) : Prop :=
 ∃ (k J : Nat), n = c.Players.toNat - k /\ k <= c.Players.toNat /\ ρ 3 = .ptr (p.n + 1) [] /\ ρ 6 = .ptr i [] /\ ρ 37 = .slc (p.n + 1) [3] 0 c.Players.toNat /\ ρ 38 = I c.Players.toNat /\ ρ 39 = I k /\ q.t.get (p.n + 1) = some (.var sh66 s.cv) /\ q.t.get i = some (W1 J (bitsOf s.Frame 10 ++ bitsOf s.Dice 64 ++ s.Bodies.flatMap bodyBits ++ ((s.Score.take c.Players.toNat).take k).flatMap (bitsOf · 31))) /\ q.t.get J = some (Wrow (packB (bitsOf s.Frame 10 ++ bitsOf s.Dice 64 ++ s.Bodies.flatMap bodyBits ++ ((s.Score.take c.Players.toNat).take k).flatMap (bitsOf · 31)))) /\ p.n + 1 < i /\ i < J /\ J < q.n /\ HpLe p q
def R33 : Rel := fun args p r => ∃ (c : X0a) (s : K0a), args = [c.cv, s.cv] /\ (c.Tokens.l.length <= 1000000) /\ (c.Rules.l.length <= 1000000) /\ r = if stateRight c s = true then .ret (.tup [Lst.cv Y8 (partB (layS c s)), I 0]) p else .ret (.tup [Lst.cv Y8 nilB, I 1]) p
theorem t33 {T : XCall} (h : Has T 33 R33) (c : X0a) (s : K0a) {p : Hp} (hl : c.Tokens.l.length <= 1000000) (hr : c.Rules.l.length <= 1000000) : T 33 [c.cv, s.cv] p = if stateRight c s = true then .ret (.tup [Lst.cv Y8 (partB (layS c s)), I 0]) p else .ret (.tup [Lst.cv Y8 nilB, I 1]) p := h _ _ _ ⟨c, s, rfl, hl, hr, rfl⟩
theorem zdis33 {P : Prop} (h : P := by first | exact zdis | (exact zdw1) | (exact zdw) | (exact W2_nil _ _ _) | (refine W2_in ?_ ?_ <;> exact zdw) | (simp only [Hp.bump_n, Hp.znew_n, Hp.zset_n, List.length_nil, List.length_cons, List.length_append, List.length_map, V0e]; (first | done | omega)) | (simp (disch := first | exact zd1 | (simp only [Hp.bump_n, Hp.znew_n, Hp.zset_n, List.length_nil, List.length_cons, List.length_append, List.length_map, V0e]; (first | done | omega))) only [zheap, zx]; (first | done | rfl)) | fail) : P := h
theorem zq33 {A B : Prop} (k : B) (h : A = B := by have zy := zA @zw33 <| zA @rs33 <| zA @tt3 <| zA @tt24 <| zA @tt25 <| zA @tt34 <| zA @tt61 <| zA @tt63 <| zA @tt64 <| zA @tt66 <| zA ti3.eq_1 <| zA ti24.eq_1 <| zA ti25.eq_1 <| zA ti34.eq_1 <| zA ti61.eq_1 <| zA ti63.eq_1 <| zA ti64.eq_1 <| zA ti66.eq_1 <| zA @t_44 <| zA @t_88 <| zA @t_89 <| zA @t_90 <| zA @t_91 <| zA @Y0e <| zA @Y0f <| zA @Z0e <| zA @zsl24 <| zA @zsl63 <| zA @zsl64 <| zA @K05 <| zA @wHp_i <| zA @Q01 <| zA @Z09 <| zA @Q0m <| zA @wHp_n <| zA @sl64 <| zA @ix24 <| zA @hl <| @hr; have zd := @zdis33; exact zQd) : A := h ▸ k
theorem c33 : Con C 33 R33 := by
 refine Q0e C ?_ ?_ ?_
 ·rintro args p r r' ⟨c, s, h, hl, hr, e⟩ ⟨c', s', h', hl', hr', e'⟩
  subst e; subst e'; simp_all [X0a.inj_iff, K0a.inj_iff, Q0a.inj_iff, Y0r]
 ·rintro args p r ⟨c, s, h, hl, hr, rfl⟩; exact zr1
 rintro args p r ⟨c, s, rfl, hl, hr, rfl⟩
 refine zW C false [(44, R44), (88, R88), (89, R89), (90, R90), (91, R91)] ⟨c44, c88, c89, c90, c91, zT⟩ rfl xf33 zc33_ok fun call zh hF => ?_
 have t_44 := @t44 _ zh.1
 have t_88 := @t88 _ zh.2.1
 have t_89 := @t89 _ zh.2.2.1
 have t_90 := @t90 _ zh.2.2.2.1
 have t_91 := @t91 _ zh.2.2.2.2.1
 clear zh
 have hb := s.hBodies
 have hsc := s.hScore
 cases hR : stateRight c s with
 | false =>
  (have zx := hR; refine zq33 ?_; try exact zT)
  repeat' (apply zK.s <;> intro hc <;> (try simp only [zhd] at hc) <;> (try have hw := V0a hc) <;> (refine zq33 ?_; try exact zT))
  all_goals (try clear zx)
  exact V0d hF zle (X0g (K0d (by intro jj; simp [CV.has, CV.hasL, Lst.cv, nilB])))
 | true =>
  have hP := (Q0h (X0f hR).2.2.1).1
  have hPn : ((c.Players.toNat : Nat) : Int) = c.Players := by omega
  rw [if_pos rfl]
  have hn0 : readersN c = c.Players.toNat := by unfold readersN; omega
  have hlb : ∀ k, ((s.Bodies.take k).flatMap bodyBits).length <= 2480 := fun k => by
   rw [X0z]
   have := Y0z (s.Bodies.take k)
   rw [List.length_take] at this; omega
  have hls : ∀ k, (((s.Score.take c.Players.toNat).take k).flatMap (bitsOf · 31)).length <= 248 := fun k => by
   rw [Z0y _ 31 _ fun x _ => V0e x 31, List.length_take, List.length_take]; omega
  (have zx := hR; refine zq33 ?_; try exact zT)
  repeat' (apply zK.s <;> intro hc <;> (try simp only [zhd] at hc) <;> (try have hw := V0a hc) <;> (refine zq33 ?_; try exact zT))
  all_goals (try clear zx)
  (show W C false noExt call (ZC.loop K07) _ _ _); refine V0i C false noExt call K07 _ _ _ (J33 c s (p.n + 1 + 1) p) 16 ⟨0, p.n + 1 + 1 + 1 + 1, rfl, by omega, zev, zev, zev, zev, zev, by simp (disch := first | exact zdw1 | fail) only [zheap, Z09, Q0m], by simp (disch := first | exact zdw1 | fail) only [zheap, Z09, Q0m], by rw [List.take_zero, List.flatMap_nil, List.append_nil]; simp (disch := first | exact zdw1 | fail) only [zheap, wHp_i, wHp_n], by rw [List.take_zero, List.flatMap_nil, List.append_nil]; simp (disch := first | exact zdw1 | fail) only [zheap, Q01, wHp_n], by omega, by omega, zdw1, fun k o h => by have hd := hF.dom k o h; simp (disch := first | exact zdw1 | fail) only [zheap, Z09, Q0m]; exact h⟩ ?_
  rintro n ρ q ⟨k, J, rfl, hk, e2, e3, e6, e26, e27, g1, g2, g3, g4, hia, hiJ, hJq, hle⟩
  have hlk := hlb k
  by_cases hlt : (k : Int) < 16
  ·have hft := Z0k bodyBits s.Bodies (k := k) (by omega)
   (have zx := zA e2 (zA e3 (zA e6 (zA e26 (zA e27 (zA g1 (zA g2 (zA g3 (zA g4 hlt)))))))); refine zq33 ?_; try exact zT)
   repeat' (apply zK.s <;> intro hc <;> (try simp only [zhd] at hc) <;> (try have hw := V0a hc) <;> (refine zq33 ?_; try exact zT))
   all_goals (try clear zx)
   refine ⟨16 - (k + 1), by omega, k + 1, q.n + 1, rfl, by omega, zev, zev, zev, zev, zev, by simp (disch := first | exact zdw1 | fail) only [zheap, Q0m, g1], by simp (disch := first | exact zdw1 | fail) only [zheap, Q0m, g2], ?_, ?_, by omega, by omega, zdw1, fun a o h => by have hd := hF.dom a o h; simp (disch := first | exact zdw1 | fail) only [zheap, Q0m]; exact hle a o h⟩
   ·rw [hft, <- List.append_assoc]; simp (disch := first | exact zdw1 | fail) only [zheap, wHp_i, wHp_n]
   ·rw [hft, <- List.append_assoc]; simp (disch := first | exact zdw1 | fail) only [zheap, Q01, wHp_n]
  ·have hk16 : k = 16 := by omega
   subst hk16
   rw [List.take_of_length_le (by omega)] at g3 g4 hlk
   (have zx := zA e2 (zA e3 (zA e6 (zA e26 (zA e27 (zA g1 (zA g2 (zA g3 (zA g4 hlt)))))))); refine zq33 ?_; try exact zT)
   repeat' (apply zK.s <;> intro hc <;> (try simp only [zhd] at hc) <;> (try have hw := V0a hc) <;> (refine zq33 ?_; try exact zT))
   all_goals (try clear zx)
   (show W C false noExt call (ZC.loop K06) _ _ _); refine V0i C false noExt call K06 _ _ _ (L33 c s (p.n + 1 + 1) p) c.Players.toNat ⟨0, J, rfl, by omega, zev, zev, zev, zev, zev, g2, by rw [List.take_zero, List.flatMap_nil, List.append_nil]; exact g3, by rw [List.take_zero, List.flatMap_nil, List.append_nil]; exact g4, hia, hiJ, hJq, hle⟩ ?_
   clear e2 e3 e6 e26 e27 g1 g2 g3 g4 hia hiJ hJq hle hlt
   rintro n ρ q ⟨k, J, rfl, hk, e3, e6, e37, e38, e39, g2, g3, g4, hia, hiJ, hJq, hle⟩
   have htl : (s.Score.take c.Players.toNat).length = c.Players.toNat := by rw [List.length_take]; omega
   have hlk2 := hls k
   by_cases hlt : k < c.Players.toNat
   ·have hft := Z0k (bitsOf · 31) (s.Score.take c.Players.toNat) (k := k) (by omega)
    have hnt : nth (s.Score.take c.Players.toNat) k = nth s.Score k := by rw [X0j (by omega), X0j (by omega), List.getElem_take]
    rw [hnt] at hft
    have hlt2 : (k : Int) < (c.Players.toNat : Int) := by omega
    (have zx := zA e3 (zA e6 (zA e37 (zA e38 (zA e39 (zA g2 (zA g3 (zA g4 hlt2))))))); refine zq33 ?_; try exact zT)
    repeat' (apply zK.s <;> intro hc <;> (try simp only [zhd] at hc) <;> (try have hw := V0a hc) <;> (refine zq33 ?_; try exact zT))
    all_goals (try clear zx)
    refine ⟨c.Players.toNat - (k + 1), by omega, k + 1, q.n, rfl, by omega, zev, zev, zev, zev, zev, by simp (disch := first | exact zdw1 | fail) only [zheap, Q0m, g2], ?_, ?_, by omega, by omega, zdw1, fun a o h => by have hd := hF.dom a o h; simp (disch := first | exact zdw1 | fail) only [zheap, Q0m]; exact hle a o h⟩
    ·rw [hft, <- List.append_assoc]; simp (disch := first | exact zdw1 | fail) only [zheap, wHp_i, wHp_n]
    ·rw [hft, <- List.append_assoc]; simp (disch := first | exact zdw1 | fail) only [zheap, Q01, wHp_n]
   ·have hkP : k = c.Players.toNat := by omega
    rw [hkP, List.take_of_length_le (by omega)] at g3 g4 hlk2
    have hlt2 : ¬ (k : Int) < (c.Players.toNat : Int) := by omega
    have hne : bitsOf s.Frame 10 ++ bitsOf s.Dice 64 ++ s.Bodies.flatMap bodyBits ++ (s.Score.take c.Players.toNat).flatMap (bitsOf · 31) ≠ [] := by
     intro e
     have := congrArg List.length e
     rw [List.length_append, List.length_append, List.length_append, V0e, List.length_nil] at this
     omega
    have hst : stateBits c s = bitsOf s.Frame 10 ++ bitsOf s.Dice 64 ++ s.Bodies.flatMap bodyBits ++ (s.Score.take c.Players.toNat).flatMap (bitsOf · 31) := by simp only [stateBits, List.append_assoc]
    (have zx := zA e3 (zA e6 (zA e37 (zA e38 (zA e39 (zA g2 (zA g3 (zA g4 hlt2))))))); refine zq33 ?_; try exact zT)
    repeat' (apply zK.s <;> intro hc <;> (try simp only [zhd] at hc) <;> (try have hw := V0a hc) <;> (refine zq33 ?_; try exact zT))
    all_goals (try clear zx)
    unfold layS
    rw [hst]
    refine V0d hF (fun a o h => ?_) (X0g (K0d (by intro jj; simp [CV.has, CV.hasL, Lst.cv, partB, Q0q X1q])))
    have hd := hF.dom a o h
    rw [Hp.get_set_ne _ _ _ (by omega)]
    exact hle a o h
def rdr (B : Lst Int) (a : Nat) : XObj := .var sh208 (V0c.mk B a).cv
theorem rdr_inj {B B' : Lst Int} {a a' : Nat} (h : rdr B a = rdr B' a') : B = B' /\ a = a' := by
 simp only [rdr, XObj.var.injEq, V0c.inj_iff, V0c.mk.injEq, true_and] at h
 exact ⟨h.1, by omega⟩
theorem Q1g {p : Hp} {i : Nat} {B B' : Lst Int} {a a' : Nat} (h : p.t.get i = some (rdr B a)) (h' : p.t.get i = some (rdr B' a')) : B = B' /\ a = a' := rdr_inj (by rw [h] at h'; exact Option.some.inj h')
theorem wrap_b2i (b : Bool) : IntKind.u64.wrap (b2i b) = b2i b := by cases b <;> rfl
theorem shr_newo {args : List CV} {p : Hp} (hF : Fine args p) (o : XObj) (ho : ∀ j, ¬ o.has j) : ShrR p (.ret (.ptr p.n []) (p.new o)) (.ret (.ptr p.n []) (p.new o)) := by
 refine V1e (by rw [Hp.znew_n]; omega) (fun k o' h => ?_) (by simp [CV.weak, Hp.znew_n])
 by_cases hk : k = p.n
 ·subst hk
  rw [Hp.get_new_self] at h; cases h
  exact ⟨by rw [Hp.znew_n]; omega, .inr ⟨o, Hp.get_new_self _ _, K0p fun j hj => (ho j hj).elim⟩⟩
 ·rw [Hp.get_new_ne _ _ hk] at h
  have hd := hF.dom _ _ h
  exact ⟨by rw [Hp.znew_n]; omega, .inl ⟨hd, h, by rw [Hp.get_new_ne _ _ hk]; exact h⟩⟩
theorem rdr_has {s : Lst Int} (h : ∀ j, s.tl ≠ .own j) (a j : Nat) : ¬ (rdr s a).has j := fun hj => by
 simp only [rdr, XObj.has, V0c.has] at hj
 exact h j hj
def R95 : Rel := fun args p r => ∃ (s : Lst Int), args = [s.cv Y8] /\ (s.tl ≠ .view) /\ (s.l.length <= 140737488355328) /\ r = .ret (.ptr p.n []) (p.new (rdr (cloneP s) 0))
theorem t95 {T : XCall} (h : Has T 95 R95) (s : Lst Int) {p : Hp} (h1 : s.tl ≠ .view) (h2 : s.l.length <= 140737488355328) : T 95 [s.cv Y8] p = .ret (.ptr p.n []) (p.new (rdr (cloneP s) 0)) := h _ _ _ ⟨s, rfl, h1, h2, rfl⟩
theorem zq95 {A B : Prop} (k : B) (h : A = B := by have zy := zA @zw95 <| zA @rs95 <| zA @tt208 <| zA ti208.eq_1 <| zA @t_159 <| zA @K0q <| zA @h1 <| @h2; exact zQ) : A := h ▸ k
theorem c95 : Con C 95 R95 := by
 refine Q0e C ?_ ?_ ?_
 ·rintro args p r r' ⟨s, h, h1, h2, e⟩ ⟨s', h', h1', h2', e'⟩
  subst e; subst e'; simp_all [V0c.inj_iff, X0n]
 ·rintro args p r ⟨s, h, h1, h2, rfl⟩; exact zr1
 rintro args p r ⟨s, rfl, h1, h2, rfl⟩
 refine zW C false [(159, R159)] ⟨c159, zT⟩ rfl xf95 zc95_ok fun call zh hF => ?_
 have t_159 := @t159 _ zh.1
 clear zh
 (have zx := zT; refine zq95 ?_; try exact zT)
 repeat' (apply zK.s <;> intro hc <;> (try simp only [zhd] at hc) <;> (try have hw := V0a hc) <;> (refine zq95 ?_; try exact zT))
 all_goals (try clear zx)
 exact shr_newo hF (rdr (cloneP s) 0) (rdr_has (cloneP_no s) 0)
def R189 : Rel := fun args p r => ∃ (i : Nat) (B : Lst Int) (a : Nat), args = [.ptr i []] /\ (p.t.get i = some (rdr B a)) /\ (B.l.length <= 140737488355328) /\ (a <= 8 * B.l.length) /\ r = .ret (I (8 * B.l.length - a)) p
theorem t189 {T : XCall} (h : Has T 189 R189) (i : Nat) (B : Lst Int) (a : Nat) {p : Hp} (h1 : p.t.get i = some (rdr B a)) (h2 : B.l.length <= 140737488355328) (h3 : a <= 8 * B.l.length) : T 189 [.ptr i []] p = .ret (I (8 * B.l.length - a)) p := h _ _ _ ⟨i, B, a, rfl, h1, h2, h3, rfl⟩
theorem zq189 {A B : Prop} (k : B) (h : A = B := by have zy := zA @zw189 <| zA @rs189 <| zA @tt3 <| zA @tt68 <| zA @tt208 <| zA ti3.eq_1 <| zA ti68.eq_1 <| zA ti208.eq_1 <| zA @K0q <| zA @zsl68 <| zA @h1 <| zA @h2 <| @h3; exact zQ) : A := h ▸ k
theorem zno189 {P : Prop} (h : P := by intro jj; simp [CV.has, CV.hasL, fault, X0b.nohas]) : P := h
theorem c189 : Con C 189 R189 := by
 refine Q0e C ?_ ?_ ?_
 ·rintro args p r r' ⟨i, B, a, h, h1, h2, h3, e⟩ ⟨i', B', a', h', h1', h2', h3', e'⟩
  subst e; subst e'; (subst h; simp only [List.cons.injEq, CV.ptr.injEq, and_true, true_and] at h'; subst h'; obtain ⟨e1, e2⟩ := Q1g h1 h1'; rw [e1, e2])
 ·rintro args p r ⟨i, B, a, h, h1, h2, h3, rfl⟩; exact zr1
 rintro args p r ⟨i, B, a, rfl, h1, h2, h3, rfl⟩
 refine zW C false [] zT rfl xf189 zc189_ok fun call zh hF => ?_
 clear zh
 have hd_h1 := hF.dom _ _ h1
 have hi := hF.dom _ _ h1
 replace h1 : p.t.get i = some (.var sh208 (V0c.mk B a).cv) := h1
 (have zx := h1; refine zq189 ?_; try exact zT)
 repeat' (apply zK.s <;> intro hc <;> (try simp only [zhd] at hc) <;> (try have hw := V0a hc) <;> (refine zq189 ?_; try exact zT))
 all_goals (try clear zx)
 exact V0d hF zle (X0c rfl (K0d zno189))
theorem valB_63 (g : Nat -> Bool) (a : Nat) {k : Nat} (h : k <= 63) : 0 <= valB g a k /\ valB g a k < 2 ^ 63 := by
 have hr := V0z g a k
 have h2 : (2 : Nat) ^ k <= 2 ^ 63 := Nat.pow_le_pow_right (by omega) h
 have h3 : (2 : Int) ^ k <= 2 ^ 63 := by exact_mod_cast h2
 omega
def J160 (i : Nat) (B : Lst Int) (a : Nat) (N : Nat) (p : Hp) (n : Nat) (ρ : Env) (q : Hp) : Prop :=
 ∃ k : Nat, n = N - k /\ k <= N /\ ρ 0 = .ptr i [] /\ ρ 5 = U (valB (bitB B.l) a k) /\ ρ 18 = I N /\ ρ 19 = I k /\ q.t.get i = some (.var sh208 (V0c.mk B (a + k : Nat)).cv) /\ p.n <= q.n /\ ∀ j o, j ≠ i -> p.t.get j = some o -> q.t.get j = some o
def R160 : Rel := fun args p r => ∃ (i : Nat) (B : Lst Int) (a : Nat) (n : Int), args = [.ptr i [], I n] /\ (p.t.get i = some (rdr B a)) /\ (B.l.length <= 140737488355328) /\ (a <= 8 * B.l.length) /\ (1 <= n /\ n <= 64) /\ (∀ x ∈ B.l, 0 <= x /\ x <= 255) /\ r = if a + n.toNat <= 8 * B.l.length then .ret (U (valB (bitB B.l) a n.toNat)) (p.set i (some (rdr B (a + n.toNat)))) else .pan (fault 100 a) (p.set i none)
theorem t160 {T : XCall} (h : Has T 160 R160) (i : Nat) (B : Lst Int) (a : Nat) (n : Int) {p : Hp} (h1 : p.t.get i = some (rdr B a)) (h2 : B.l.length <= 140737488355328) (h3 : a <= 8 * B.l.length) (h4 : 1 <= n /\ n <= 64) (h5 : ∀ x ∈ B.l, 0 <= x /\ x <= 255) : T 160 [.ptr i [], I n] p = if a + n.toNat <= 8 * B.l.length then .ret (U (valB (bitB B.l) a n.toNat)) (p.set i (some (rdr B (a + n.toNat)))) else .pan (fault 100 a) (p.set i none) := h _ _ _ ⟨i, B, a, n, rfl, h1, h2, h3, h4, h5, rfl⟩
theorem zq160 {A B : Prop} (k : B) (h : A = B := by have zy := zA @zw160 <| zA @rs160 <| zA @tt3 <| zA @tt5 <| zA @tt25 <| zA @tt68 <| zA @tt178 <| zA @tt208 <| zA ti3.eq_1 <| zA ti5.eq_1 <| zA ti25.eq_1 <| zA ti68.eq_1 <| zA ti178.eq_1 <| zA ti208.eq_1 <| zA @t_156 <| zA @t_181 <| zA @t_189 <| zA @K0q <| zA @zsl68 <| zA @wrap_b2i <| zA @h1 <| zA @h2 <| zA @h3 <| zA @h4 <| @h5; exact zQ) : A := h ▸ k
theorem c160 : Con C 160 R160 := by
 refine Q0e C ?_ ?_ ?_
 ·rintro args p r r' ⟨i, B, a, n, h, h1, h2, h3, h4, h5, e⟩ ⟨i', B', a', n', h', h1', h2', h3', h4', h5', e'⟩
  subst e; subst e'; (subst h; simp only [List.cons.injEq, CV.ptr.injEq, CV.sc.injEq, Value.int.injEq, and_true, true_and] at h'; obtain ⟨e0, e3⟩ := h'; subst e0; subst e3; obtain ⟨e1, e2⟩ := Q1g h1 h1'; rw [e1, e2])
 ·rintro args p r ⟨i, B, a, n, h, h1, h2, h3, h4, h5, rfl⟩; exact zr1
 rintro args p r ⟨i, B, a, n, rfl, h1, h2, h3, h4, h5, rfl⟩
 refine zW C false [(156, R156), (181, R181), (189, R189)] ⟨c156, c181, c189, zT⟩ rfl xf160 zc160_ok fun call zh hF => ?_
 have t_156 := @t156 _ zh.1
 have t_181 := @t181 _ zh.2.1
 have t_189 := @t189 _ zh.2.2.1
 clear zh
 have hd_h1 := hF.dom _ _ h1
 have hi := hF.dom _ _ h1
 have k1 := h1
 obtain ⟨N, rfl⟩ := Int.eq_ofNat_of_zero_le (show 0 <= n by omega)
 have hmm : max 0 (min (N : Int) 64) = N := by omega
 replace h1 : p.t.get i = some (.var sh208 (V0c.mk B a).cv) := h1
 by_cases hroom : a + N <= 8 * B.l.length
 ·have hr2 : (N : Int) <= 8 * B.l.length - a := by omega
  (have zx := zA hmm (zA hr2 h1); refine zq160 ?_; try exact zT)
  repeat' (apply zK.s <;> intro hc <;> (try simp only [zhd] at hc) <;> (try have hw := V0a hc) <;> (refine zq160 ?_; try exact zT))
  all_goals (try clear zx)
  (show W C false noExt call (ZC.loop Z1d) _ _ _); refine V0i C false noExt call Z1d _ _ _ (J160 i B a N p) N ⟨0, rfl, by omega, by simp [put_at, Y0c, K0e], by simp [put_at, Y0c, valB], zev, zev, by rw [Hp.bump_get]; exact h1, by rw [Hp.bump_n]; omega, fun j o _ h => by rw [Hp.bump_get]; exact h⟩ ?_
  rintro n ρ q ⟨k, rfl, hk, e0, e5, e18, e19, g1, hn, hle⟩
  by_cases hlt : (k : Int) < N
  ·have ht : (((a + k : Nat)) : Int).tmod 8 = (((a + k) % 8 : Nat) : Int) := by rw [Int.tmod_eq_emod_of_nonneg (by omega)]; omega
   have hd : (((a + k : Nat)) : Int).tdiv 8 = (((a + k) / 8 : Nat) : Int) := by rw [Int.tdiv_eq_ediv_of_nonneg (by omega)]; omega
   have hix : (a + k) / 8 < B.l.length := by omega
   have hy := h5 (nth B.l ((a + k) / 8)) (by rw [X0j hix]; exact List.getElem_mem _)
   have hb8 := bit8_eq hy (show (a + k) % 8 < 8 by omega)
   unfold bit8 at hb8
   rw [show bitAt (nth B.l ((a + k) / 8)) (7 - (a + k) % 8) = bitB B.l (a + k) from rfl] at hb8
   have hsh := shl1_eq (valB_63 (bitB B.l) a (k := k) (by omega)) (bitB B.l (a + k))
   unfold shl1 at hsh
   replace hsh : IntKind.u64.wrap (BitVec.ofInt IntKind.u64.bits (IntKind.u64.wrap (valB (bitB B.l) a k * 2 ^ min 1 IntKind.u64.bits)) ||| BitVec.ofInt IntKind.u64.bits (b2i (bitB B.l (a + k)))).toNat = 2 * valB (bitB B.l) a k + b2i (bitB B.l (a + k)) := hsh
   have hv : valB (bitB B.l) a (k + 1) = 2 * valB (bitB B.l) a k + b2i (bitB B.l (a + k)) := rfl
   (have zx := zA e0 (zA e5 (zA e18 (zA e19 (zA g1 (zA hlt (zA ht (zA hd (zA hb8 (zA hsh h1))))))))); refine zq160 ?_; try exact zT)
   repeat' (apply zK.s <;> intro hc <;> (try simp only [zhd] at hc) <;> (try have hw := V0a hc) <;> (refine zq160 ?_; try exact zT))
   all_goals (try clear zx)
   refine ⟨N - (k + 1), by omega, k + 1, rfl, by omega, zev, by rw [hv]; simp [put_at, Y0c], zev, zev, ?_, by simp only [Hp.bump_n, Hp.zset_n]; omega, fun j o hj h => ?_⟩
   ·rw [Hp.get_set_self, show ((a + (k + 1) : Nat) : Int) = ((a + k : Nat) : Int) + 1 by omega]
   ·rw [Hp.get_set_ne _ _ _ hj, Hp.bump_get]; exact hle j o hj h
  ·have hkN : k = N := by omega
   (have zx := zA e0 (zA e5 (zA e18 (zA e19 (zA g1 (zA hlt h1))))); refine zq160 ?_; try exact zT)
   repeat' (apply zK.s <;> intro hc <;> (try simp only [zhd] at hc) <;> (try have hw := V0a hc) <;> (refine zq160 ?_; try exact zT))
   all_goals (try clear zx)
   rw [if_pos hroom]
   subst hkN
   exact K16 hF hi hle ⟨_, g1, K0p fun j hj => hF.lt_obj (.arg (a := CV.ptr i []) (by simp) rfl) k1 j hj⟩ (X0g (K0d (fun j hj => by simp [CV.has] at hj)))
 ·have hr2 : ¬ (N : Int) <= 8 * B.l.length - a := by omega
  (have zx := zA hmm (zA hr2 h1); refine zq160 ?_; try exact zT)
  repeat' (apply zK.s <;> intro hc <;> (try simp only [zhd] at hc) <;> (try have hw := V0a hc) <;> (refine zq160 ?_; try exact zT))
  all_goals (try clear zx)
  rw [if_neg hroom]
  exact shr_dropP hF (fun j o hj h => by rw [Hp.bump_get]; exact h) (X0g (K0d (by intro jj; simp [CV.has, fault, X0b.nohas])))
theorem fault_no (c a : Int) (j : Nat) : ¬ (fault c a).has j := by simp [CV.has, fault, X0b.nohas]
theorem shr_rd {args : List CV} {p : Hp} {i a a' : Nat} {B : Lst Int} (hF : Fine args p) (h1 : p.t.get i = some (rdr B a)) (ha : ∀ j, (CV.ptr i []).has j -> ∃ x ∈ args, x.has j) {q : Hp} (hg : q.t.get i = some (rdr B a')) (hle : ∀ k o, k ≠ i -> p.t.get k = some o -> q.t.get k = some o) {v u : CV} (e : v = u) (hv : ∀ j, ¬ u.has j) : ShrR p (.ret v q) (.ret u (p.set i (some (rdr B a')))) := by
 subst e
 have hi := hF.dom _ _ h1
 obtain ⟨x, hx, hj⟩ := ha i rfl
 refine K16 hF hi hle ⟨_, hg, K0p fun j hj' => ?_⟩ (X0g fun j hj => absurd hj (hv j))
 exact hF.lt_obj (.arg hx hj) h1 j hj'
theorem V0o {args : List CV} {p : Hp} {i : Nat} (hF : Fine args p) {q : Hp} (hle : ∀ k o, k ≠ i -> p.t.get k = some o -> q.t.get k = some o) (c a : Int) : ShrR p (.pan (fault c a) q) (.pan (fault c a) (p.set i none)) :=
 shr_dropP hF (fun j o hj h => hle j o hj h) (X0g (K0d (fault_no c a)))
def R190 : Rel := fun args p r => ∃ (i : Nat) (B : Lst Int) (a : Nat) (n : Int), args = [.ptr i [], I n] /\ (p.t.get i = some (rdr B a)) /\ (B.l.length <= 140737488355328) /\ (a <= 8 * B.l.length) /\ (1 <= n /\ n <= 64) /\ (∀ x ∈ B.l, 0 <= x /\ x <= 255) /\ r = if a + n.toNat <= 8 * B.l.length then .ret (I (sgnB (valB (bitB B.l) a n.toNat) n.toNat)) (p.set i (some (rdr B (a + n.toNat)))) else .pan (fault 100 a) (p.set i none)
theorem t190 {T : XCall} (h : Has T 190 R190) (i : Nat) (B : Lst Int) (a : Nat) (n : Int) {p : Hp} (h1 : p.t.get i = some (rdr B a)) (h2 : B.l.length <= 140737488355328) (h3 : a <= 8 * B.l.length) (h4 : 1 <= n /\ n <= 64) (h5 : ∀ x ∈ B.l, 0 <= x /\ x <= 255) : T 190 [.ptr i [], I n] p = if a + n.toNat <= 8 * B.l.length then .ret (I (sgnB (valB (bitB B.l) a n.toNat) n.toNat)) (p.set i (some (rdr B (a + n.toNat)))) else .pan (fault 100 a) (p.set i none) := h _ _ _ ⟨i, B, a, n, rfl, h1, h2, h3, h4, h5, rfl⟩
theorem zq190 {A B : Prop} (k : B) (h : A = B := by have zy := zA @zw190 <| zA @rs190 <| zA @tt3 <| zA @tt25 <| zA ti3.eq_1 <| zA ti25.eq_1 <| zA @t_156 <| zA @t_160 <| zA @K0q <| zA @h1 <| zA @h2 <| zA @h3 <| zA @h4 <| @h5; exact zQ) : A := h ▸ k
theorem c190 : Con C 190 R190 := by
 refine Q0e C ?_ ?_ ?_
 ·rintro args p r r' ⟨i, B, a, n, h, h1, h2, h3, h4, h5, e⟩ ⟨i', B', a', n', h', h1', h2', h3', h4', h5', e'⟩
  subst e; subst e'; (subst h; simp only [List.cons.injEq, CV.ptr.injEq, CV.sc.injEq, Value.int.injEq, and_true, true_and] at h'; obtain ⟨e0, e3⟩ := h'; subst e0; subst e3; obtain ⟨e1, e2⟩ := Q1g h1 h1'; rw [e1, e2])
 ·rintro args p r ⟨i, B, a, n, h, h1, h2, h3, h4, h5, rfl⟩; exact zr1
 rintro args p r ⟨i, B, a, n, rfl, h1, h2, h3, h4, h5, rfl⟩
 refine zW C false [(156, R156), (160, R160)] ⟨c156, c160, zT⟩ rfl xf190 zc190_ok fun call zh hF => ?_
 have t_156 := @t156 _ zh.1
 have t_160 := @t160 _ zh.2.1
 clear zh
 have hd_h1 := hF.dom _ _ h1
 have hi := hF.dom _ _ h1
 obtain ⟨N, rfl⟩ := Int.eq_ofNat_of_zero_le (show 0 <= n by omega)
 have hmm : max 0 (min (N : Int) 64) = N := by omega
 have hN : 1 <= N /\ N <= 64 := by omega
 have hn0 : ¬ (N : Int) = 0 := by omega
 have h64 : (64 : Int) - N = ((64 - N : Nat) : Int) := by omega
 have hsg := sgn_of hN (V0z (bitB B.l) a N)
 by_cases hroom : a + N <= 8 * B.l.length
 ·(have zx := zA hmm (zA hn0 (zA h64 (zA hroom h1))); refine zq190 ?_; try exact zT)
  repeat' (apply zK.s <;> intro hc <;> (try simp only [zhd] at hc) <;> (try have hw := V0a hc) <;> (refine zq190 ?_; try exact zT))
  all_goals (try clear zx)
  rw [show min (64 - N) IntKind.u64.bits = 64 - N from Nat.min_eq_left (by show 64 - N <= 64; omega), show min (64 - N) IntKind.i64.bits = 64 - N from Nat.min_eq_left (by show 64 - N <= 64; omega), hsg]
  exact shr_rd hF h1 (fun j hj => ⟨_, by simp, hj⟩) (Hp.get_set_self _ _ _) (fun k o hk h => by rw [Hp.get_set_ne _ _ _ hk]; exact h) rfl (by intro jj; simp [CV.has])
 ·(have zx := zA hmm (zA hn0 (zA h64 (zA hroom h1))); refine zq190 ?_; try exact zT)
  repeat' (apply zK.s <;> intro hc <;> (try simp only [zhd] at hc) <;> (try have hw := V0a hc) <;> (refine zq190 ?_; try exact zT))
  all_goals (try clear zx)
  exact V0o hF (fun k o hk h => by rw [Hp.get_set_ne _ _ _ hk]; exact h) _ _
noncomputable def resRB (i : Nat) (B : Lst Int) (p : Hp) (r : Except Int (Q0a × Nat)) : XRes :=
 match r with
 | .ok (x, a) => .ret x.cv (p.set i (some (rdr B a)))
 | .error e => .pan (fault 100 e) (p.set i none)
theorem V1b (g : Nat -> Bool) (a n : Nat) (M : Int) (h : (2 : Int) ^ n = M) : 0 <= valB g a n /\ valB g a n < M := by subst h; exact V0z g a n
theorem memB_err {b : List Int} {x : Q0a} {a k : Nat} {e : Int} (h : memB b x a k = .error e) : ∀ m, memB b x a (k + m) = .error e
 | 0 => h
 | m + 1 => by
  show bindE (memB b x a (k + m)) _ = _
  rw [memB_err h m]; rfl
def J161 (i : Nat) (B : Lst Int) (a0 : Nat) (x0 : Q0a) (v : Nat) (p : Hp) (n : Nat) (ρ : Env) (q : Hp) : Prop :=
 ∃ (k a : Nat) (x : Q0a), n = 4 - k /\ k <= 4 /\ ρ 0 = .ptr i [] /\ ρ 2 = .ptr p.n [] /\ ρ 3 = .ptr v [] /\ ρ 35 = I k /\ memB B.l x0 a0 k = .ok (x, a) /\ a <= 8 * B.l.length /\ q.t.get i = some (rdr B a) /\ q.t.get p.n = some (.var sh34 Q0a.zero.cv) /\ q.t.get v = some (.var sh34 x.cv) /\ p.n < v /\ v < q.n /\ ∀ j o, j ≠ i -> p.t.get j = some o -> q.t.get j = some o
def R161 : Rel := fun args p r => ∃ (i : Nat) (B : Lst Int) (a : Nat), args = [.ptr i []] /\ (p.t.get i = some (rdr B a)) /\ (B.l.length <= 140737488355328) /\ (a <= 8 * B.l.length) /\ (∀ x ∈ B.l, 0 <= x /\ x <= 255) /\ r = resRB i B p (readBody B.l a)
theorem t161 {T : XCall} (h : Has T 161 R161) (i : Nat) (B : Lst Int) (a : Nat) {p : Hp} (h1 : p.t.get i = some (rdr B a)) (h2 : B.l.length <= 140737488355328) (h3 : a <= 8 * B.l.length) (h5 : ∀ x ∈ B.l, 0 <= x /\ x <= 255) : T 161 [.ptr i []] p = resRB i B p (readBody B.l a) := h _ _ _ ⟨i, B, a, rfl, h1, h2, h3, h5, rfl⟩
theorem zq161 {A B : Prop} (k : B) (h : A = B := by have zy := zA @zw161 <| zA @rs161 <| zA @tt3 <| zA @tt25 <| zA @tt32 <| zA @tt34 <| zA ti3.eq_1 <| zA ti25.eq_1 <| zA ti32.eq_1 <| zA ti34.eq_1 <| zA @t_160 <| zA @t_190 <| zA @Z0e <| zA @zsl32 <| zA @h1 <| zA @h2 <| zA @h3 <| @h5; exact zQ) : A := h ▸ k
theorem c161 : Con C 161 R161 := by
 refine Q0e C ?_ ?_ ?_
 ·rintro args p r r' ⟨i, B, a, h, h1, h2, h3, h5, e⟩ ⟨i', B', a', h', h1', h2', h3', h5', e'⟩
  subst e; subst e'; (subst h; simp only [List.cons.injEq, CV.ptr.injEq, and_true, true_and] at h'; subst h'; obtain ⟨e1, e2⟩ := Q1g h1 h1'; rw [e1, e2])
 ·rintro args p r ⟨i, B, a, h, h1, h2, h3, h5, rfl⟩; first | (split <;> simp; done) | (simp; done) | (simp only [resM]; split <;> simp; done) | (simp only [resD]; split <;> simp; done)  | (unfold resRB; split <;> simp; done)
 rintro args p r ⟨i, B, a, rfl, h1, h2, h3, h5, rfl⟩
 refine zW C false [(160, R160), (190, R190)] ⟨c160, c190, zT⟩ rfl xf161 zc161_ok fun call zh hF => ?_
 have t_160 := @t160 _ zh.1
 have t_190 := @t190 _ zh.2.1
 clear zh
 have hd_h1 := hF.dom _ _ h1
 have hi := hF.dom _ _ h1
 have hB : Q0a.zero.Mem.length = 4 := rfl
 have v1 := V1b (bitB B.l) a 2 4 rfl
 have v2 := V1b (bitB B.l) (a + 2) 3 8 rfl
 have v3 := V1b (bitB B.l) (a + 2 + 3) 12 4096 rfl
 have v4 := V1b (bitB B.l) (a + 2 + 3 + 12) 12 4096 rfl
 have v5 := V1b (bitB B.l) (a + 2 + 3 + 12 + 12 + 8 + 8) 10 1024 rfl
 by_cases c1 : a + 2 <= 8 * B.l.length
 ·by_cases hK : valB (bitB B.l) a 2 = 0
  ·(have zx := zA c1 (zA hK h1); refine zq161 ?_; try exact zT)
   repeat' (apply zK.s <;> intro hc <;> (try simp only [zhd] at hc) <;> (try have hw := V0a hc) <;> (refine zq161 ?_; try exact zT))
   all_goals (try clear zx)
   have hrb : readBody B.l a = .ok ({ Q0a.zero with Kind := 0 }, a + 2) := by unfold readBody; simp only [getB, c1, hK, if_true, X0e]
   rw [hrb]
   exact shr_rd hF h1 (fun j hj => ⟨_, by simp, hj⟩) (zg9) (fun k o hk h => by have hd := hF.dom _ _ h; simp (disch := first | exact zdl | fail) only [Hp.bump_get, Hp.get_set_ne, Hp.get_new_ne]; exact h) rfl (by intro jj; exact Q0a.nohas _ jj)
  ·by_cases c2 : a + 2 + 3 <= 8 * B.l.length
   ·by_cases c3 : a + 2 + 3 + 12 <= 8 * B.l.length
    ·by_cases c4 : a + 2 + 3 + 12 + 12 <= 8 * B.l.length
     ·by_cases c5 : a + 2 + 3 + 12 + 12 + 8 <= 8 * B.l.length
      ·by_cases c6 : a + 2 + 3 + 12 + 12 + 8 + 8 <= 8 * B.l.length
       ·by_cases c7 : a + 2 + 3 + 12 + 12 + 8 + 8 + 10 <= 8 * B.l.length
        ·obtain ⟨x0, hx0⟩ : ∃ x : Q0a, x = { Q0a.zero with Kind := valB (bitB B.l) a 2, Owner := valB (bitB B.l) (a + 2) 3, X := valB (bitB B.l) (a + 2 + 3) 12, Y := valB (bitB B.l) (a + 2 + 3 + 12) 12, VX := sgnB (valB (bitB B.l) (a + 2 + 3 + 12 + 12) 8) 8, VY := sgnB (valB (bitB B.l) (a + 2 + 3 + 12 + 12 + 8) 8) 8, Age := valB (bitB B.l) (a + 2 + 3 + 12 + 12 + 8 + 8) 10 } := ⟨_, rfl⟩
         have hmem : readBody B.l a = bindE (memB B.l x0 (a + 2 + 3 + 12 + 12 + 8 + 8 + 10) 4) fun z a => bindE (getB B.l 16 a) fun f a => .ok ({ z with Faults := f }, a) := by unfold readBody; rw [hx0]; simp only [sgetB, getB, c1, hK, c2, c3, c4, c5, c6, c7, if_true, if_false, X0e]
         (have zx := zA c1 (zA hK (zA c2 (zA c3 (zA c4 (zA c5 (zA c6 (zA c7 h1))))))); refine zq161 ?_; try exact zT)
         repeat' (apply zK.s <;> intro hc <;> (try simp only [zhd] at hc) <;> (try have hw := V0a hc) <;> (refine zq161 ?_; try exact zT))
         all_goals (try clear zx)
         (show W C false noExt call (ZC.loop K1d) _ _ _); refine V0i C false noExt call K1d _ _ _ (J161 i B (a + 2 + 3 + 12 + 12 + 8 + 8 + 10) x0 (p.n + 1) p) 4 ⟨0, a + 2 + 3 + 12 + 12 + 8 + 8 + 10, x0, rfl, by omega, by simp [put_at, Y0c, K0e], zev, zev, zev, rfl, by omega, zg9, zg9, by rw [hx0]; simp (disch := first | exact zdl | fail) only [zheap]; first | done | rfl, by omega, zb9, fun k o hk h => by have hd := hF.dom _ _ h; simp (disch := first | exact zdl | fail) only [Hp.bump_get, Hp.get_set_ne, Hp.get_new_ne]; exact h⟩ ?_
         clear hx0
         rintro n ρ q ⟨k, a', x, rfl, hk, e0, e2, e3, e35, hm, ha', g1, g2, g3, hpv, hvq, hle⟩
         have hxm := x.hMem
         by_cases hlt : (k : Int) < 4
         ·by_cases c8 : a' + 21 <= 8 * B.l.length
          ·(have zx := zA e0 (zA e2 (zA e3 (zA e35 (zA g1 (zA g2 (zA g3 (zA hlt (zA c8 h1)))))))); refine zq161 ?_; try exact zT)
           repeat' (apply zK.s <;> intro hc <;> (try simp only [zhd] at hc) <;> (try have hw := V0a hc) <;> (refine zq161 ?_; try exact zT))
           all_goals (try clear zx)
           refine ⟨4 - (k + 1), by omega, k + 1, a' + 21, x.put_7k k (sgnB (valB (bitB B.l) a' 21) 21), rfl, by omega, zev, zev, zev, zev, ?_, c8, zg9, zg9, zg9, hpv, zb9, fun j o hj h => by have hd := hF.dom _ _ h; simp (disch := first | exact zdl | fail) only [Hp.bump_get, Hp.get_set_ne, Hp.get_new_ne]; exact hle j o hj h⟩
           show bindE (memB B.l x0 _ k) _ = _
           rw [hm]; simp only [X0e, sgetB, getB, if_pos c8]
          ·(have zx := zA e0 (zA e2 (zA e3 (zA e35 (zA g1 (zA g2 (zA g3 (zA hlt (zA c8 h1)))))))); refine zq161 ?_; try exact zT)
           repeat' (apply zK.s <;> intro hc <;> (try simp only [zhd] at hc) <;> (try have hw := V0a hc) <;> (refine zq161 ?_; try exact zT))
           all_goals (try clear zx)
           have hme : memB B.l x0 (a + 2 + 3 + 12 + 12 + 8 + 8 + 10) (k + 1) = .error (a' : Int) := by
            show bindE (memB B.l x0 _ k) _ = _
            rw [hm]; simp only [X0e, sgetB, getB, if_neg c8, Q0k]
           have hrb : readBody B.l a = .error (a' : Int) := by
            have h4 := memB_err hme (4 - (k + 1))
            rw [show k + 1 + (4 - (k + 1)) = 4 by omega] at h4
            rw [hmem, h4, Q0k]
           rw [hrb]
           exact V0o hF (fun j o hj h => by rw [Hp.get_set_ne _ _ _ hj]; exact hle j o hj h) _ _
         ·have hk4 : k = 4 := by omega
          subst hk4
          have v6 := V1b (bitB B.l) a' 16 65536 rfl
          by_cases c8 : a' + 16 <= 8 * B.l.length
          ·(have zx := zA e0 (zA e2 (zA e3 (zA e35 (zA g1 (zA g2 (zA g3 (zA hlt (zA c8 h1)))))))); refine zq161 ?_; try exact zT)
           repeat' (apply zK.s <;> intro hc <;> (try simp only [zhd] at hc) <;> (try have hw := V0a hc) <;> (refine zq161 ?_; try exact zT))
           all_goals (try clear zx)
           have hrb : readBody B.l a = .ok ({ x with Faults := valB (bitB B.l) a' 16 }, a' + 16) := by rw [hmem, hm, X0e]; simp only [getB, if_pos c8, X0e]
           rw [hrb]
           exact shr_rd hF h1 (fun j hj => ⟨_, by simp, hj⟩) (zg9) (fun j o hj h => by have hd := hF.dom _ _ h; simp (disch := first | exact zdl | fail) only [Hp.bump_get, Hp.get_set_ne, Hp.get_new_ne]; exact hle j o hj h) rfl (by intro jj; exact Q0a.nohas _ jj)
          ·(have zx := zA e0 (zA e2 (zA e3 (zA e35 (zA g1 (zA g2 (zA g3 (zA hlt (zA c8 h1)))))))); refine zq161 ?_; try exact zT)
           repeat' (apply zK.s <;> intro hc <;> (try simp only [zhd] at hc) <;> (try have hw := V0a hc) <;> (refine zq161 ?_; try exact zT))
           all_goals (try clear zx)
           have hrb : readBody B.l a = .error (a' : Int) := by rw [hmem, hm, X0e]; simp only [getB, if_neg c8, Q0k]
           rw [hrb]
           exact V0o hF (fun j o hj h => by rw [Hp.get_set_ne _ _ _ hj]; exact hle j o hj h) _ _
        ·(have zx := zA c1 (zA hK (zA c2 (zA c3 (zA c4 (zA c5 (zA c6 (zA c7 h1))))))); refine zq161 ?_; try exact zT)
         repeat' (apply zK.s <;> intro hc <;> (try simp only [zhd] at hc) <;> (try have hw := V0a hc) <;> (refine zq161 ?_; try exact zT))
         all_goals (try clear zx)
         have hrb : readBody B.l a = .error (a + 2 + 3 + 12 + 12 + 8 + 8 : Nat) := by unfold readBody; simp only [sgetB, getB, c1, hK, c2, c3, c4, c5, c6, c7, if_true, if_false, X0e, Q0k]
         rw [hrb]
         exact V0o hF (fun k o hk h => by have hd := hF.dom _ _ h; simp (disch := first | exact zdl | fail) only [Hp.bump_get, Hp.get_set_ne, Hp.get_new_ne]; exact h) _ _
       ·(have zx := zA c1 (zA hK (zA c2 (zA c3 (zA c4 (zA c5 (zA c6 h1)))))); refine zq161 ?_; try exact zT)
        repeat' (apply zK.s <;> intro hc <;> (try simp only [zhd] at hc) <;> (try have hw := V0a hc) <;> (refine zq161 ?_; try exact zT))
        all_goals (try clear zx)
        have hrb : readBody B.l a = .error (a + 2 + 3 + 12 + 12 + 8 : Nat) := by unfold readBody; simp only [sgetB, getB, c1, hK, c2, c3, c4, c5, c6, if_true, if_false, X0e, Q0k]
        rw [hrb]
        exact V0o hF (fun k o hk h => by have hd := hF.dom _ _ h; simp (disch := first | exact zdl | fail) only [Hp.bump_get, Hp.get_set_ne, Hp.get_new_ne]; exact h) _ _
      ·(have zx := zA c1 (zA hK (zA c2 (zA c3 (zA c4 (zA c5 h1))))); refine zq161 ?_; try exact zT)
       repeat' (apply zK.s <;> intro hc <;> (try simp only [zhd] at hc) <;> (try have hw := V0a hc) <;> (refine zq161 ?_; try exact zT))
       all_goals (try clear zx)
       have hrb : readBody B.l a = .error (a + 2 + 3 + 12 + 12 : Nat) := by unfold readBody; simp only [sgetB, getB, c1, hK, c2, c3, c4, c5, if_true, if_false, X0e, Q0k]
       rw [hrb]
       exact V0o hF (fun k o hk h => by have hd := hF.dom _ _ h; simp (disch := first | exact zdl | fail) only [Hp.bump_get, Hp.get_set_ne, Hp.get_new_ne]; exact h) _ _
     ·(have zx := zA c1 (zA hK (zA c2 (zA c3 (zA c4 h1)))); refine zq161 ?_; try exact zT)
      repeat' (apply zK.s <;> intro hc <;> (try simp only [zhd] at hc) <;> (try have hw := V0a hc) <;> (refine zq161 ?_; try exact zT))
      all_goals (try clear zx)
      have hrb : readBody B.l a = .error (a + 2 + 3 + 12 : Nat) := by unfold readBody; simp only [sgetB, getB, c1, hK, c2, c3, c4, if_true, if_false, X0e, Q0k]
      rw [hrb]
      exact V0o hF (fun k o hk h => by have hd := hF.dom _ _ h; simp (disch := first | exact zdl | fail) only [Hp.bump_get, Hp.get_set_ne, Hp.get_new_ne]; exact h) _ _
    ·(have zx := zA c1 (zA hK (zA c2 (zA c3 h1))); refine zq161 ?_; try exact zT)
     repeat' (apply zK.s <;> intro hc <;> (try simp only [zhd] at hc) <;> (try have hw := V0a hc) <;> (refine zq161 ?_; try exact zT))
     all_goals (try clear zx)
     have hrb : readBody B.l a = .error (a + 2 + 3 : Nat) := by unfold readBody; simp only [sgetB, getB, c1, hK, c2, c3, if_true, if_false, X0e, Q0k]
     rw [hrb]
     exact V0o hF (fun k o hk h => by have hd := hF.dom _ _ h; simp (disch := first | exact zdl | fail) only [Hp.bump_get, Hp.get_set_ne, Hp.get_new_ne]; exact h) _ _
   ·(have zx := zA c1 (zA hK (zA c2 h1)); refine zq161 ?_; try exact zT)
    repeat' (apply zK.s <;> intro hc <;> (try simp only [zhd] at hc) <;> (try have hw := V0a hc) <;> (refine zq161 ?_; try exact zT))
    all_goals (try clear zx)
    have hrb : readBody B.l a = .error (a + 2 : Nat) := by unfold readBody; simp only [sgetB, getB, c1, hK, c2, if_true, if_false, X0e, Q0k]
    rw [hrb]
    exact V0o hF (fun k o hk h => by have hd := hF.dom _ _ h; simp (disch := first | exact zdl | fail) only [Hp.bump_get, Hp.get_set_ne, Hp.get_new_ne]; exact h) _ _
 ·(have zx := zA c1 h1; refine zq161 ?_; try exact zT)
  repeat' (apply zK.s <;> intro hc <;> (try simp only [zhd] at hc) <;> (try have hw := V0a hc) <;> (refine zq161 ?_; try exact zT))
  all_goals (try clear zx)
  have hrb : readBody B.l a = .error (a : Nat) := by unfold readBody; simp only [sgetB, getB, c1, if_true, if_false, X0e, Q0k]
  rw [hrb]
  exact V0o hF (fun k o hk h => by have hd := hF.dom _ _ h; simp (disch := first | exact zdl | fail) only [Hp.bump_get, Hp.get_set_ne, Hp.get_new_ne]; exact h) _ _
def Bnd {α : Type} (b : List Int) (r : Except Int (α × Nat)) : Prop := ∀ x a, r = .ok (x, a) -> a <= 8 * b.length
theorem Bnd.get (b : List Int) (n a : Nat) : Bnd b (getB b n a) := by
 intro x a' h
 unfold getB at h
 split at h
 ·cases h; assumption
 ·cases h
theorem Bnd.bind {α β : Type} {b : List Int} {r : Except Int (α × Nat)} {f : α -> Nat -> Except Int (β × Nat)} (h : Bnd b r) (k : ∀ x a, a <= 8 * b.length -> Bnd b (f x a)) : Bnd b (bindE r f) := by
 intro x a' e
 cases r with
 | error e' => cases e
 | ok y => obtain ⟨y, a⟩ := y; exact k y a (h y a rfl) x a' e
theorem Bnd.pure {α : Type} {b : List Int} (x : α) {a : Nat} (h : a <= 8 * b.length) : Bnd b (.ok (x, a)) := by
 intro y a' e; cases e; exact h
theorem Bnd.sget (b : List Int) (n a : Nat) : Bnd b (sgetB b n a) := (Bnd.get b n a).bind fun _ _ h => Bnd.pure _ h
theorem Bnd.mem (b : List Int) (x : Q0a) {a : Nat} (ha : a <= 8 * b.length) : ∀ k, Bnd b (memB b x a k)
 | 0 => Bnd.pure _ ha
 | k + 1 => (Bnd.mem b x ha k).bind fun _ _ _ => (Bnd.sget b _ _).bind fun _ _ h => Bnd.pure _ h
theorem Bnd.body (b : List Int) (a : Nat) : Bnd b (readBody b a) := by
 unfold readBody
 refine (Bnd.get b _ _).bind fun k a h => ?_
 split
 ·exact Bnd.pure _ h
 ·exact (Bnd.get b _ _).bind fun _ _ _ => (Bnd.get b _ _).bind fun _ _ _ => (Bnd.get b _ _).bind fun _ _ _ => (Bnd.sget b _ _).bind fun _ _ _ => (Bnd.sget b _ _).bind fun _ _ _ => (Bnd.get b _ _).bind fun _ _ h => (Bnd.mem b _ h _).bind fun _ _ _ => (Bnd.get b _ _).bind fun _ _ h => Bnd.pure _ h
theorem X1l {b : List Int} {s : K0a} {a k : Nat} {e : Int} (h : bodiesB b s a k = .error e) : ∀ m, bodiesB b s a (k + m) = .error e
 | 0 => h
 | m + 1 => by
  show bindE (bodiesB b s a (k + m)) _ = _
  rw [X1l h m]; rfl
theorem Q1n {b : List Int} {s : K0a} {a k : Nat} {e : Int} (h : scoresB b s a k = .error e) : ∀ m, scoresB b s a (k + m) = .error e
 | 0 => h
 | m + 1 => by
  show bindE (scoresB b s a (k + m)) _ = _
  rw [Q1n h m]; rfl
noncomputable def resRS (i : Nat) (B : Lst Int) (p : Hp) (r : Except Int (K0a × Nat)) : XRes :=
 match r with
 | .ok (x, a) => .ret x.cv (p.set i (some (rdr B a)))
 | .error e => .pan (fault 100 e) (p.set i none)
def J94 (c : X0a) (i : Nat) (B : Lst Int) (s0 : K0a) (a0 : Nat) (p : Hp) (n : Nat) (ρ : Env) (q : Hp) : Prop :=
 ∃ (k a : Nat) (t : K0a), n = 16 - k /\ k <= 16 /\ ρ 1 = .ptr i [] /\ ρ 2 = .ptr p.n [] /\ ρ 4 = .ptr (p.n + 1) [] /\ ρ 5 = .ptr (p.n + 2) [] /\ ρ 14 = I k /\ bodiesB B.l s0 a0 k = .ok (t, a) /\ a <= 8 * B.l.length /\ q.t.get i = some (rdr B a) /\ q.t.get p.n = some (.var sh61 c.cv) /\ q.t.get (p.n + 1) = some (.var sh66 K0a.zero.cv) /\ q.t.get (p.n + 2) = some (.var sh66 t.cv) /\ p.n + 2 < q.n /\ ∀ j o, j ≠ i -> p.t.get j = some o -> q.t.get j = some o
def L94 (i : Nat) (B : Lst Int) (s0 : K0a) (a0 N : Nat) (p : Hp) (n : Nat) (ρ : Env) (q : Hp) : Prop :=
 ∃ (k a : Nat) (t : K0a), n = N - k /\ k <= N /\ ρ 1 = .ptr i [] /\ ρ 4 = .ptr (p.n + 1) [] /\ ρ 5 = .ptr (p.n + 2) [] /\ ρ 26 = I N /\ ρ 27 = I k /\ scoresB B.l s0 a0 k = .ok (t, a) /\ a <= 8 * B.l.length /\ q.t.get i = some (rdr B a) /\ q.t.get (p.n + 1) = some (.var sh66 K0a.zero.cv) /\ q.t.get (p.n + 2) = some (.var sh66 t.cv) /\ p.n + 2 < q.n /\ ∀ j o, j ≠ i -> p.t.get j = some o -> q.t.get j = some o
def R94 : Rel := fun args p r => ∃ (c : X0a) (i : Nat) (B : Lst Int) (a : Nat), args = [c.cv, .ptr i []] /\ (p.t.get i = some (rdr B a)) /\ (B.l.length <= 140737488355328) /\ (a <= 8 * B.l.length) /\ (∀ x ∈ B.l, 0 <= x /\ x <= 255) /\ r = resRS i B p (readAllB c B.l a)
theorem t94 {T : XCall} (h : Has T 94 R94) (c : X0a) (i : Nat) (B : Lst Int) (a : Nat) {p : Hp} (h1 : p.t.get i = some (rdr B a)) (h2 : B.l.length <= 140737488355328) (h3 : a <= 8 * B.l.length) (h5 : ∀ x ∈ B.l, 0 <= x /\ x <= 255) : T 94 [c.cv, .ptr i []] p = resRS i B p (readAllB c B.l a) := h _ _ _ ⟨c, i, B, a, rfl, h1, h2, h3, h5, rfl⟩
theorem zq94 {A B : Prop} (k : B) (h : A = B := by ((try simp -dsimp (disch := first | exact zdis | fail) only [zcore, zall, zopm, zop, zcallOp, qop, qbuiltin, ofOpt, List.map, reduceCtorEq, if_true, if_false, ↓reduceIte, zbin, eqRes, qassert, qnum, qshift, qun, kindOf, allocV, List.nil_append, List.append_nil, List.cons_append, List.length_cons, List.length_nil, Nat.reduceAdd, Nat.reduceEqDiff, Nat.reduceLT, Nat.reduceSub, Nat.reduceMul, Int.reduceToNat, Int.reduceLE, Int.reduceLT, Int.reduceEq, Int.reduceNeg, Int.reduceAdd, Int.reduceSub, beq_self_eq_true, cond_true, cond_false, isConstOpd, xpanic, xconv, isBytes, qconv, List.length_map, List.map_nil, List.map_cons, concrete, Option.some.injEq, exists_eq', Option.map_some, Option.map_none, List.getElem?_cons_zero, List.getElem?_cons_succ, zw94, rs94, tt3, tt25, tt34, tt61, tt63, tt64, tt66, ti3, ti25, ti34, ti61, ti63, ti64, ti66, t_160, t_161, Y0e, Y0f, Z0e, zsl63, zsl64, resRB, h1, h2, h3, h5, zx, hc]); rfl)) : A := h ▸ k
theorem c94 : Con C 94 R94 := by
 refine Q0e C ?_ ?_ ?_
 ·rintro args p r r' ⟨c, i, B, a, h, h1, h2, h3, h5, e⟩ ⟨c', i', B', a', h', h1', h2', h3', h5', e'⟩
  subst e; subst e'; (subst h; simp only [List.cons.injEq, CV.ptr.injEq, X0a.inj_iff, and_true, true_and] at h'; obtain ⟨e0, e3⟩ := h'; subst e0; subst e3; obtain ⟨e1, e2⟩ := Q1g h1 h1'; rw [e1, e2])
 ·rintro args p r ⟨c, i, B, a, h, h1, h2, h3, h5, rfl⟩; first | (split <;> simp; done) | (simp; done) | (simp only [resM]; split <;> simp; done) | (simp only [resD]; split <;> simp; done)  | (unfold resRS; split <;> simp; done)
 rintro args p r ⟨c, i, B, a, rfl, h1, h2, h3, h5, rfl⟩
 refine zW C false [(160, R160), (161, R161)] ⟨c160, c161, zT⟩ rfl xf94 zc94_ok fun call zh hF => ?_
 have t_160 := @t160 _ zh.1
 have t_161 := @t161 _ zh.2.1
 clear zh
 have hd_h1 := hF.dom _ _ h1
 have hi := hF.dom _ _ h1
 have hN : ((readersN c : Nat) : Int) = max 0 (min c.Players 8) := by unfold readersN; omega
 have v1 := V1b (bitB B.l) a 10 1024 rfl
 by_cases c1 : a + 10 <= 8 * B.l.length
 ·by_cases c2 : a + 10 + 64 <= 8 * B.l.length
  ·obtain ⟨s0, hs0⟩ : ∃ x : K0a, x = { K0a.zero with Frame := valB (bitB B.l) a 10, Dice := valB (bitB B.l) (a + 10) 64 } := ⟨_, rfl⟩
   have hall : readAllB c B.l a = bindE (bodiesB B.l s0 (a + 10 + 64) 16) fun t a => scoresB B.l t a (readersN c) := by unfold readAllB; rw [hs0]; simp only [getB, c1, c2, if_true, X0e]
   (have zx := zA c1 (zA c2 h1); refine zq94 ?_; try exact zT)
   repeat' (apply zK.s <;> intro hc <;> (try simp only [zhd] at hc) <;> (try have hw := V0a hc) <;> (refine zq94 ?_; try exact zT))
   all_goals (try clear zx)
   (show W C false noExt call (ZC.loop zn94_9) _ _ _); refine V0i C false noExt call zn94_9 _ _ _ (J94 c i B s0 (a + 10 + 64) p) 16 ⟨0, a + 10 + 64, s0, rfl, by omega, by simp [put_at, Y0c, K0e, V1s], zev, zev, zev, zev, rfl, c2, zg9, zg9, zg9, by rw [hs0]; simp (disch := first | exact zdl | fail) only [zheap]; first | done | rfl, zb9, fun k o hk h => by have hd := hF.dom _ _ h; simp (disch := first | exact zdl | fail) only [Hp.bump_get, Hp.get_set_ne, Hp.get_new_ne]; exact h⟩ ?_
   clear hs0
   rintro n ρ q ⟨k, a', t, rfl, hk, e1, e2, e4, e5, e14, hm, ha', g1, g2, g3, g4, hvq, hle⟩
   have htb := t.hBodies
   have hts := t.hScore
   by_cases hlt : (k : Int) < 16
   ·cases hrb : readBody B.l a' with
    | error e =>
     (have zx := zA e1 (zA e2 (zA e4 (zA e5 (zA e14 (zA g1 (zA g2 (zA g3 (zA g4 (zA hlt (zA hrb h1)))))))))); refine zq94 ?_; try exact zT)
     repeat' (apply zK.s <;> intro hc <;> (try simp only [zhd] at hc) <;> (try have hw := V0a hc) <;> (refine zq94 ?_; try exact zT))
     all_goals (try clear zx)
     have hme : bodiesB B.l s0 (a + 10 + 64) (k + 1) = .error e := by
      show bindE (bodiesB B.l s0 _ k) _ = _
      rw [hm, X0e, hrb, Q0k]
     have hra : readAllB c B.l a = .error e := by
      have h4 := X1l hme (16 - (k + 1))
      rw [show k + 1 + (16 - (k + 1)) = 16 by omega] at h4
      rw [hall, h4, Q0k]
     rw [hra]
     exact V0o hF (fun j o hj h => by rw [Hp.get_set_ne _ _ _ hj]; exact hle j o hj h) _ _
    | ok r =>
     obtain ⟨x, a2⟩ := r
     (have zx := zA e1 (zA e2 (zA e4 (zA e5 (zA e14 (zA g1 (zA g2 (zA g3 (zA g4 (zA hlt (zA hrb h1)))))))))); refine zq94 ?_; try exact zT)
     repeat' (apply zK.s <;> intro hc <;> (try simp only [zhd] at hc) <;> (try have hw := V0a hc) <;> (refine zq94 ?_; try exact zT))
     all_goals (try clear zx)
     refine ⟨16 - (k + 1), by omega, k + 1, a2, t.put_2k k x, rfl, by omega, zev, zev, zev, zev, zev, ?_, Bnd.body _ _ _ _ hrb, zg9, zg9, zg9, zg9, zb9, fun j o hj h => by have hd := hF.dom _ _ h; simp (disch := first | exact zdl | fail) only [Hp.bump_get, Hp.get_set_ne, Hp.get_new_ne]; exact hle j o hj h⟩
     show bindE (bodiesB B.l s0 _ k) _ = _
     rw [hm, X0e, hrb, X0e]
   ·have hk16 : k = 16 := by omega
    subst hk16
    (have zx := zA e1 (zA e2 (zA e4 (zA e5 (zA e14 (zA g1 (zA g2 (zA g3 (zA g4 (zA hlt h1))))))))); refine zq94 ?_; try exact zT)
    repeat' (apply zK.s <;> intro hc <;> (try simp only [zhd] at hc) <;> (try have hw := V0a hc) <;> (refine zq94 ?_; try exact zT))
    all_goals (try clear zx)
    rw [hm, X0e] at hall
    (show W C false noExt call (ZC.loop X1x) _ _ _); refine V0i C false noExt call X1x _ _ _ (L94 i B t a' (readersN c) p) (readersN c) ⟨0, a', t, rfl, by omega, zev, zev, zev, by simp [put_at, Y0c, hN], zev, rfl, ha', g1, g3, g4, hvq, hle⟩ ?_
    clear e1 e2 e4 e5 e14 g1 g2 g3 g4 hvq hle hlt hm ha'
    have hN8 : readersN c <= 8 := by unfold readersN; omega
    rintro n ρ q ⟨k, a3, u, rfl, hk, e1, e4, e5, e26, e27, hm, ha3, g1, g3, g4, hvq, hle⟩
    have htb := u.hBodies
    have hts := u.hScore
    have v3 := V1b (bitB B.l) a3 31 2147483648 rfl
    by_cases hlt : k < readersN c
    ·have hlt2 : (k : Int) < (readersN c : Int) := by omega
     by_cases c3 : a3 + 31 <= 8 * B.l.length
     ·(have zx := zA e1 (zA e4 (zA e5 (zA e26 (zA e27 (zA g1 (zA g3 (zA g4 (zA hlt2 (zA c3 h1))))))))); refine zq94 ?_; try exact zT)
      repeat' (apply zK.s <;> intro hc <;> (try simp only [zhd] at hc) <;> (try have hw := V0a hc) <;> (refine zq94 ?_; try exact zT))
      all_goals (try clear zx)
      refine ⟨readersN c - (k + 1), by omega, k + 1, a3 + 31, u.put_3k k (valB (bitB B.l) a3 31), rfl, by omega, zev, zev, zev, zev, zev, ?_, c3, zg9, zg9, zg9, zb9, fun j o hj h => by have hd := hF.dom _ _ h; simp (disch := first | exact zdl | fail) only [Hp.bump_get, Hp.get_set_ne, Hp.get_new_ne]; exact hle j o hj h⟩
      show bindE (scoresB B.l t _ k) _ = _
      rw [hm, X0e]; simp only [getB, if_pos c3, X0e]
     ·(have zx := zA e1 (zA e4 (zA e5 (zA e26 (zA e27 (zA g1 (zA g3 (zA g4 (zA hlt2 (zA c3 h1))))))))); refine zq94 ?_; try exact zT)
      repeat' (apply zK.s <;> intro hc <;> (try simp only [zhd] at hc) <;> (try have hw := V0a hc) <;> (refine zq94 ?_; try exact zT))
      all_goals (try clear zx)
      have hme : scoresB B.l t a' (k + 1) = .error (a3 : Int) := by
       show bindE (scoresB B.l t _ k) _ = _
       rw [hm, X0e]; simp only [getB, if_neg c3, Q0k]
      have hra : readAllB c B.l a = .error (a3 : Int) := by
       have h4 := Q1n hme (readersN c - (k + 1))
       rw [show k + 1 + (readersN c - (k + 1)) = readersN c by omega] at h4
       rw [hall, h4]
      rw [hra]
      exact V0o hF (fun j o hj h => by rw [Hp.get_set_ne _ _ _ hj]; exact hle j o hj h) _ _
    ·have hkN : k = readersN c := by omega
     have hlt2 : ¬ (k : Int) < (readersN c : Int) := by omega
     (have zx := zA e1 (zA e4 (zA e5 (zA e26 (zA e27 (zA g1 (zA g3 (zA g4 (zA hlt2 h1)))))))); refine zq94 ?_; try exact zT)
     repeat' (apply zK.s <;> intro hc <;> (try simp only [zhd] at hc) <;> (try have hw := V0a hc) <;> (refine zq94 ?_; try exact zT))
     all_goals (try clear zx)
     rw [hkN] at hm
     rw [hall, hm]
     exact shr_rd hF h1 (fun j hj => ⟨_, by simp, hj⟩) (zg9) (fun j o hj h => by have hd := hF.dom _ _ h; simp (disch := first | exact zdl | fail) only [Hp.bump_get, Hp.get_set_ne, Hp.get_new_ne]; exact hle j o hj h) rfl (by intro jj; exact K0a.nohas _ jj)
  ·(have zx := zA c1 (zA c2 h1); refine zq94 ?_; try exact zT)
   repeat' (apply zK.s <;> intro hc <;> (try simp only [zhd] at hc) <;> (try have hw := V0a hc) <;> (refine zq94 ?_; try exact zT))
   all_goals (try clear zx)
   have hrb : readAllB c B.l a = .error ((a + 10 : Nat) : Int) := by unfold readAllB; simp only [getB, c1, c2, if_true, if_false, X0e, Q0k]
   rw [hrb]
   exact V0o hF (fun k o hk h => by have hd := hF.dom _ _ h; simp (disch := first | exact zdl | fail) only [Hp.bump_get, Hp.get_set_ne, Hp.get_new_ne]; exact h) _ _
 ·(have zx := zA c1 h1; refine zq94 ?_; try exact zT)
  repeat' (apply zK.s <;> intro hc <;> (try simp only [zhd] at hc) <;> (try have hw := V0a hc) <;> (refine zq94 ?_; try exact zT))
  all_goals (try clear zx)
  have hrb : readAllB c B.l a = .error (a : Int) := by unfold readAllB; simp only [getB, c1, if_false, Q0k]
  rw [hrb]
  exact V0o hF (fun k o hk h => by have hd := hF.dom _ _ h; simp (disch := first | exact zdl | fail) only [Hp.bump_get, Hp.get_set_ne, Hp.get_new_ne]; exact h) _ _
end Go.Proofs.Ytpchcfkebljopaa
end
section
namespace Go.Proofs.Ytpchcfkebljopaa
open Go.Cl Go Go.RowKit
end Go.Proofs.Ytpchcfkebljopaa
end
section
namespace Go.Proofs.Ytpchcfkebljopaa
open Go.Cl Go Go.RowKit
set_option maxRecDepth 100000
set_option linter.constructorNameAsVariable false
def J96 (s t : Lst Int) (p : Hp) (n : Nat) (ρ : Env) (q : Hp) : Prop :=
 ∃ k : Nat, n = s.l.length - k /\ k <= s.l.length /\ ρ 0 = s.cv Y8 /\ ρ 1 = t.cv Y8 /\ ρ 12 = I s.l.length /\ ρ 13 = I k /\ (∀ j, j < k -> nth s.l j = nth t.l j) /\ HpLe p q
def R96 : Rel := fun args p r => ∃ (s t : Lst Int), args = [s.cv Y8, t.cv Y8] /\ (s.l.length <= 140737488355328) /\ (t.l.length <= 140737488355328) /\ r = .ret (Bo (decide (s.l = t.l))) p
theorem t96 {T : XCall} (h : Has T 96 R96) (s t : Lst Int) {p : Hp} (h1 : s.l.length <= 140737488355328) (h2 : t.l.length <= 140737488355328) : T 96 [s.cv Y8, t.cv Y8] p = .ret (Bo (decide (s.l = t.l))) p := h _ _ _ ⟨s, t, rfl, h1, h2, rfl⟩
theorem zq96 {A B : Prop} (k : B) (h : A = B := by have zy := zA @zw96 <| zA @rs96 <| zA @tt3 <| zA @tt5 <| zA @tt68 <| zA ti3.eq_1 <| zA ti5.eq_1 <| zA ti68.eq_1 <| zA @zsl68 <| zA @h1 <| @h2; exact zQ) : A := h ▸ k
theorem zno96 {P : Prop} (h : P := by intro jj; simp [CV.has, CV.hasL, fault, X0b.nohas]) : P := h
theorem c96 : Con C 96 R96 := by
 refine Q0e C ?_ ?_ ?_
 ·rintro args p r r' ⟨s, t, h, h1, h2, e⟩ ⟨s', t', h', h1', h2', e'⟩
  subst e; subst e'; simp_all [X0n, X0n]
 ·rintro args p r ⟨s, t, h, h1, h2, rfl⟩; exact zr1
 rintro args p r ⟨s, t, rfl, h1, h2, rfl⟩
 refine zW C false [] zT rfl xf96 zc96_ok fun call zh hF => ?_
 clear zh
 by_cases hlen : s.l.length = t.l.length
 ·have hl2 : (s.l.length : Int) = t.l.length := by omega
  (have zx := hl2; refine zq96 ?_; try exact zT)
  repeat' (apply zK.s <;> intro hc <;> (try simp only [zhd] at hc) <;> (try have hw := V0a hc) <;> (refine zq96 ?_; try exact zT))
  all_goals (try clear zx)
  (show W C false noExt call (ZC.loop X11) _ _ _); refine V0i C false noExt call X11 _ _ _ (J96 s t p) s.l.length ⟨0, rfl, by omega, by simp [put_at, Y0c, K0e], by simp [put_at, Y0c, K0e, V1s], by simp [put_at, Y0c, hl2], zev, fun j hj => by omega, zle⟩ ?_
  rintro n ρ q ⟨k, rfl, hk2, e0, e1, e12, e13, hj, hle⟩
  by_cases hlt : (k : Int) < s.l.length
  ·have hlt2 : (k : Int) < t.l.length := by omega
   by_cases hne : nth s.l k = nth t.l k
   ·(have zx := zA e0 (zA e1 (zA e12 (zA e13 (zA hlt (zA hlt2 hne))))); refine zq96 ?_; try exact zT)
    repeat' (apply zK.s <;> intro hc <;> (try simp only [zhd] at hc) <;> (try have hw := V0a hc) <;> (refine zq96 ?_; try exact zT))
    all_goals (try clear zx)
    exact ⟨s.l.length - (k + 1), by omega, k + 1, rfl, by omega, zev, zev, zev, zev, fun j hjk => by
     by_cases h : j = k
     ·rw [h]; exact hne
     ·exact hj j (by omega), zlq⟩
   ·(have zx := zA e0 (zA e1 (zA e12 (zA e13 (zA hlt (zA hlt2 hne))))); refine zq96 ?_; try exact zT)
    repeat' (apply zK.s <;> intro hc <;> (try simp only [zhd] at hc) <;> (try have hw := V0a hc) <;> (refine zq96 ?_; try exact zT))
    all_goals (try clear zx)
    have hl : ¬ s.l = t.l := fun h => hne (by rw [h])
    exact V0d hF zlq (X0c (by simp [hl]) (K0d (by intro jj; simp [CV.has])))
  ·have hl : s.l = t.l := Y1z hlen fun j h => hj j (by omega)
   (have zx := zA e0 (zA e1 (zA e12 (zA e13 hlt))); refine zq96 ?_; try exact zT)
   repeat' (apply zK.s <;> intro hc <;> (try simp only [zhd] at hc) <;> (try have hw := V0a hc) <;> (refine zq96 ?_; try exact zT))
   all_goals (try clear zx)
   exact V0d hF zlq (X0c (by simp [hl]) (K0d (by intro jj; simp [CV.has])))
 ·have hl2 : ¬ (s.l.length : Int) = t.l.length := by omega
  have hne : ¬ s.l = t.l := fun e => hlen (by rw [e])
  (have zx := hl2; refine zq96 ?_; try exact zT)
  repeat' (apply zK.s <;> intro hc <;> (try simp only [zhd] at hc) <;> (try have hw := V0a hc) <;> (refine zq96 ?_; try exact zT))
  all_goals (try clear zx)
  exact V0d hF zle (X0c (by simp [hne]) (K0d zno96))
def R35 : Rel := fun args p r => ∃ (s t : K0a), args = [s.cv, t.cv] /\ r = .ret (Bo (decide (s = t))) p
theorem t35 {T : XCall} (h : Has T 35 R35) (s t : K0a) {p : Hp}  : T 35 [s.cv, t.cv] p = .ret (Bo (decide (s = t))) p := h _ _ _ ⟨s, t, rfl, rfl⟩
theorem zq35 {A B : Prop} (k : B) (h : A = B := by have zy := zA @zw35 <| zA @rs35 <| zA @tt66 <| zA ti66.eq_1 <| @Y0f; exact zQ) : A := h ▸ k
theorem zno35 {P : Prop} (h : P := by intro jj; simp [CV.has, CV.hasL, fault, X0b.nohas, K0a.nohas]) : P := h
theorem c35 : Con C 35 R35 := by
 refine Q0e C ?_ ?_ ?_
 ·rintro args p r r' ⟨s, t, h, e⟩ ⟨s', t', h', e'⟩
  subst e; subst e'; simp_all [K0a.inj_iff]
 ·rintro args p r ⟨s, t, h, rfl⟩; exact zr1
 rintro args p r ⟨s, t, rfl, rfl⟩
 refine zW C false [] zT rfl xf35 zc35_ok fun call zh hF => ?_
 clear zh
 (have zx := zT; refine zq35 ?_; try exact zT)
 repeat' (apply zK.s <;> intro hc <;> (try simp only [zhd] at hc) <;> (try have hw := V0a hc) <;> (refine zq35 ?_; try exact zT))
 all_goals (try clear zx)
 exact V0d hF zle (X0c rfl (K0d zno35))
noncomputable def resRC (i : Nat) (p : Hp) (r : Except Int (K0a × Nat)) : XRes :=
 match r with
 | .ok (t, _) => .ret (.tup []) (p.set i (some (.var sh66 t.cv)))
 | .error e => .pan (fault 100 e) p
def R93 : Rel := fun args p r => ∃ (a b i : Nat) (c : X0a) (s : Lst Int) (t : K0a), args = [.ptr a [], .ptr b [], .ptr i []] /\ (p.t.get a = some (.var sh61 c.cv)) /\ (p.t.get b = some (.var sh68 (s.cv Y8))) /\ (p.t.get i = some (.var sh66 t.cv)) /\ (s.tl ≠ .view) /\ (s.l.length <= 140737488355328) /\ (∀ x ∈ s.l, 0 <= x /\ x <= 255) /\ r = resRC i p (readAllB c s.l 0)
theorem t93 {T : XCall} (h : Has T 93 R93) (a b i : Nat) (c : X0a) (s : Lst Int) (t : K0a) {p : Hp} (h1 : p.t.get a = some (.var sh61 c.cv)) (h2 : p.t.get b = some (.var sh68 (s.cv Y8))) (h3 : p.t.get i = some (.var sh66 t.cv)) (h4 : s.tl ≠ .view) (h5 : s.l.length <= 140737488355328) (h6 : ∀ x ∈ s.l, 0 <= x /\ x <= 255) : T 93 [.ptr a [], .ptr b [], .ptr i []] p = resRC i p (readAllB c s.l 0) := h _ _ _ ⟨a, b, i, c, s, t, rfl, h1, h2, h3, h4, h5, h6, rfl⟩
theorem zdis93 {P : Prop} (h : P := by first | exact zdis | (simp only [Hp.bump_n, Hp.znew_n, Hp.zset_n, List.length_nil, List.length_cons, List.length_append, List.length_map, Y0v]; (first | done | omega)) | (simp (disch := first | exact zd1 | (simp only [Hp.bump_n, Hp.znew_n, Hp.zset_n, List.length_nil, List.length_cons, List.length_append, List.length_map, Y0v]; (first | done | omega))) only [zheap, zx]; (first | done | rfl)) | fail) : P := h
theorem zq93 {A B : Prop} (k : B) (h : A = B := by ((try simp -dsimp (disch := first | exact zdis93 | fail) only [zcore, zall, zopm, zop, zcallOp, qop, qbuiltin, ofOpt, List.map, reduceCtorEq, if_true, if_false, ↓reduceIte, zbin, eqRes, qassert, qnum, qshift, qun, kindOf, allocV, List.nil_append, List.append_nil, List.cons_append, List.length_cons, List.length_nil, Nat.reduceAdd, Nat.reduceEqDiff, Nat.reduceLT, Nat.reduceSub, Nat.reduceMul, Int.reduceToNat, Int.reduceLE, Int.reduceLT, Int.reduceEq, Int.reduceNeg, Int.reduceAdd, Int.reduceSub, beq_self_eq_true, cond_true, cond_false, isConstOpd, xpanic, xconv, isBytes, qconv, List.length_map, List.map_nil, List.map_cons, concrete, Option.some.injEq, exists_eq', Option.map_some, Option.map_none, List.getElem?_cons_zero, List.getElem?_cons_succ, zw93, rs93, tt61, tt66, tt68, ti61, ti66, ti68, t_95, t_94, Y0e, Y0f, zsl68, resRS, Y0v, h1, h2, h3, h4, h5, h6, zx, hc]); rfl)) : A := h ▸ k
theorem c93 : Con C 93 R93 := by
 refine Q0e C ?_ ?_ ?_
 ·rintro args p r r' ⟨a, b, i, c, s, t, h, h1, h2, h3, h4, h5, h6, e⟩ ⟨a', b', i', c', s', t', h', h1', h2', h3', h4', h5', h6', e'⟩
  subst e; subst e'; (subst h; simp only [List.cons.injEq, CV.ptr.injEq, and_true, true_and] at h'; obtain ⟨e0, e1, e2⟩ := h'; subst e0; subst e1; subst e2; rw [h1] at h1'; rw [h2] at h2'; simp only [Option.some.injEq, XObj.var.injEq, true_and, X0a.inj_iff, X0n] at h1' h2'; rw [h1', h2'])
 ·rintro args p r ⟨a, b, i, c, s, t, h, h1, h2, h3, h4, h5, h6, rfl⟩; first | (split <;> simp; done) | (simp; done) | (simp only [resM]; split <;> simp; done) | (simp only [resD]; split <;> simp; done)  | (unfold resRC; split <;> simp; done)
 rintro args p r ⟨a, b, i, c, s, t, rfl, h1, h2, h3, h4, h5, h6, rfl⟩
 refine zW C false [(95, R95), (94, R94)] ⟨c95, c94, zT⟩ rfl xf93 zc93_ok fun call zh hF => ?_
 have t_95 := @t95 _ zh.1
 have t_94 := @t94 _ zh.2.1
 clear zh
 have hd_h1 := hF.dom _ _ h1
 have hd_h2 := hF.dom _ _ h2
 have hd_h3 := hF.dom _ _ h3
 have hi := hF.dom _ _ h3
 have hr : ∀ x ∈ (cloneP s).l, 0 <= x /\ x <= 255 := by rw [Y0v]; exact h6
 cases hra : readAllB c s.l 0 with
 | error e =>
  (have zx := zA hra (zA h1 (zA h2 h3)); refine zq93 ?_; try exact zT)
  repeat' (apply zK.s <;> intro hc <;> (try simp only [zhd] at hc) <;> (try have hw := V0a hc) <;> (refine zq93 ?_; try exact zT))
  all_goals (try clear zx)
  exact Q1f hF (fun k o h => by have hd := hF.dom _ _ h; simp (disch := first | exact zdl | fail) only [Hp.bump_get, Hp.get_set_ne, Hp.get_new_ne]; exact h) (X0g (K0d (fault_no 100 e)))
 | ok r =>
  obtain ⟨u, a'⟩ := r
  (have zx := zA hra (zA h1 (zA h2 h3)); refine zq93 ?_; try exact zT)
  repeat' (apply zK.s <;> intro hc <;> (try simp only [zhd] at hc) <;> (try have hw := V0a hc) <;> (refine zq93 ?_; try exact zT))
  all_goals (try clear zx)
  exact K16 hF hi (fun k o hk h => by have hd := hF.dom _ _ h; simp (disch := first | exact zdl | fail) only [Hp.bump_get, Hp.get_set_ne, Hp.get_new_ne]; exact h) ⟨_, Hp.get_set_self _ _ _, K0p fun j hj => (K0a.nohas u j hj).elim⟩ (X0g (K0d tup0_no))
noncomputable def resCS (i : Nat) (p : Hp) (r : Except Int (K0a × Nat)) : XRes :=
 match r with
 | .ok (t, _) => .ret (.tup [(Q0c.mk 0 0).cv, Bo false]) (p.set i (some (.var sh66 t.cv)))
 | .error e => .ret (.tup [(Q0c.mk 100 e).cv, Bo true]) p
def R73s : Rel := fun args p r => ∃ (a b i : Nat) (c : X0a) (s : Lst Int) (t : K0a), args = [.fn 93 [] [.ptr a [], .ptr b [], .ptr i []]] /\ (p.t.get a = some (.var sh61 c.cv)) /\ (p.t.get b = some (.var sh68 (s.cv Y8))) /\ (p.t.get i = some (.var sh66 t.cv)) /\ (s.tl ≠ .view) /\ (s.l.length <= 140737488355328) /\ (∀ x ∈ s.l, 0 <= x /\ x <= 255) /\ r = resCS i p (readAllB c s.l 0)
theorem t73s {T : XCall} (h : Has T 73 R73s) (a b i : Nat) (c : X0a) (s : Lst Int) (t : K0a) {p : Hp} (h1 : p.t.get a = some (.var sh61 c.cv)) (h2 : p.t.get b = some (.var sh68 (s.cv Y8))) (h3 : p.t.get i = some (.var sh66 t.cv)) (h4 : s.tl ≠ .view) (h5 : s.l.length <= 140737488355328) (h6 : ∀ x ∈ s.l, 0 <= x /\ x <= 255) : T 73 [.fn 93 [] [.ptr a [], .ptr b [], .ptr i []]] p = resCS i p (readAllB c s.l 0) := h _ _ _ ⟨a, b, i, c, s, t, rfl, h1, h2, h3, h4, h5, h6, rfl⟩
theorem zq73s {A B : Prop} (k : B) (h : A = B := by ((try simp -dsimp (disch := first | exact zdis | fail) only [zcore, zall, zopm, zop, zcallOp, qop, qbuiltin, ofOpt, List.map, reduceCtorEq, if_true, if_false, ↓reduceIte, zbin, eqRes, qassert, qnum, qshift, qun, kindOf, allocV, List.nil_append, List.append_nil, List.cons_append, List.length_cons, List.length_nil, Nat.reduceAdd, Nat.reduceEqDiff, Nat.reduceLT, Nat.reduceSub, Nat.reduceMul, Int.reduceToNat, Int.reduceLE, Int.reduceLT, Int.reduceEq, Int.reduceNeg, Int.reduceAdd, Int.reduceSub, beq_self_eq_true, cond_true, cond_false, isConstOpd, xpanic, xconv, isBytes, qconv, List.length_map, List.map_nil, List.map_cons, concrete, Option.some.injEq, exists_eq', Option.map_some, Option.map_none, List.getElem?_cons_zero, List.getElem?_cons_succ, zw73, rs73, xc73_z, zw149, qcA_n, qcB_n, qcP_n, qcP_r, qcP_p, qcE_n, qcE_r, tt1, tt4, tt5, tt20, tt44, tt194, ti1, ti4, ti5, ti20, ti44, ti194, t_93, X0v, Z00, resRC, fault, h1, h2, h3, h4, h5, h6, zx, hc]); rfl)) : A := h ▸ k
theorem c73s : Con C 73 R73s := by
 refine Q0e C ?_ ?_ ?_
 ·rintro args p r r' ⟨a, b, i, c, s, t, h, h1, h2, h3, h4, h5, h6, e⟩ ⟨a', b', i', c', s', t', h', h1', h2', h3', h4', h5', h6', e'⟩
  subst e; subst e'; (subst h; simp only [List.cons.injEq, CV.fn.injEq, CV.ptr.injEq, and_true, true_and] at h'; obtain ⟨e0, e1, e2⟩ := h'; subst e0; subst e1; subst e2; rw [h1] at h1'; rw [h2] at h2'; simp only [Option.some.injEq, XObj.var.injEq, true_and, X0a.inj_iff, X0n] at h1' h2'; rw [h1', h2'])
 ·rintro args p r ⟨a, b, i, c, s, t, h, h1, h2, h3, h4, h5, h6, rfl⟩; first | (split <;> simp; done) | (simp; done) | (simp only [resM]; split <;> simp; done) | (simp only [resD]; split <;> simp; done)  | (unfold resCS; split <;> simp; done)
 rintro args p r ⟨a, b, i, c, s, t, rfl, h1, h2, h3, h4, h5, h6, rfl⟩
 refine ans_catch C false noExt (tabL C [(93, R93)]) xc73_ok (noExt_ok C) (Y08 C _) xc73_a xc73_b xc73_p xc73_r (by kernel_rfl) (Nat.le_of_ble_eq_true (by kernel_rfl)) xc73_n fun hF => ?_
 have t_93 := @t93 (tabL C [(93, R93)]) (has_head C c93 [])
 generalize tabL C [(93, R93)] = call at t_93 ⊢
 have hd_h1 := hF.dom _ _ h1
 have hd_h2 := hF.dom _ _ h2
 have hd_h3 := hF.dom _ _ h3
 show W C false noExt call zn73_1 (argE [.fn 93 [] [.ptr a [], .ptr b [], .ptr i []]]) p (qcA C false noExt call zn73_3 Z10 Y1w xc73 _)
 have hi := hF.dom _ _ h3
 cases hra : readAllB c s.l 0 with
 | error e =>
  (have zx := zA hra (zA h1 (zA h2 h3)); refine zq73s ?_; try exact zT)
  repeat' (apply zK.s <;> intro hc <;> (try simp only [zhd] at hc) <;> (try have hw := V0a hc) <;> (refine zq73s ?_; try exact zT))
  all_goals (try clear zx)
  exact V0d hF (fun k o h => by have hd := hF.dom _ _ h; simp (disch := first | exact zdl | fail) only [Hp.bump_get, Hp.get_set_ne, Hp.get_new_ne]; exact h) (X0g (K0d (by intro jj; simp [CV.has, CV.hasL, Q0c.nohas])))
 | ok r =>
  obtain ⟨u, a'⟩ := r
  (have zx := zA hra (zA h1 (zA h2 h3)); refine zq73s ?_; try exact zT)
  repeat' (apply zK.s <;> intro hc <;> (try simp only [zhd] at hc) <;> (try have hw := V0a hc) <;> (refine zq73s ?_; try exact zT))
  all_goals (try clear zx)
  exact K16 hF hi (fun k o hk h => by have hd := hF.dom _ _ h; simp (disch := first | exact zdl | fail) only [Hp.bump_get, Hp.get_set_ne, Hp.get_new_ne]; exact h) ⟨_, zg9, K0p fun j hj => (K0a.nohas u j hj).elim⟩ (X0g (K0d (by intro jj; simp [CV.has, CV.hasL, Q0c.nohas])))
theorem lay_len {c : X0a} {s : K0a} (h : stateRight c s = true) : (layS c s).length <= 400 := by
 have hP := (Q0h (X0f h).2.2.1).1
 have hb := Y0z s.Bodies
 rw [s.hBodies] at hb
 unfold layS
 rw [Q0i, K1l h]
 omega
theorem lay_byte (c : X0a) (s : K0a) : ∀ x ∈ layS c s, 0 <= x /\ x <= 255 := by
 intro x hx
 unfold layS packB at hx
 obtain ⟨i, _, rfl⟩ := List.mem_map.1 hx
 exact Y1a _ _
theorem Q07 (l : List Int) : (partB l).l = l := nd rfl
theorem bx68 (p : Hp) (s : Lst Int) : xbox C p 68 (Lst.cv Y8 s) = .ret (.ptr p.n []) (p.new (.var sh68 (Lst.cv Y8 s))) := by
 simp only [xbox, tt68]; rfl
def R36 : Rel := fun args p r => ∃ (c : X0a) (s : Lst Int), args = [c.cv, s.cv Y8] /\ (c.Tokens.l.length <= 1000000) /\ (c.Rules.l.length <= 1000000) /\ (s.tl ≠ .view) /\ (s.l.length <= 140737488355328) /\ (∀ x ∈ s.l, 0 <= x /\ x <= 255) /\ r = .ret (.tup [(readState c s.l).1.cv, I (readState c s.l).2]) p
theorem t36 {T : XCall} (h : Has T 36 R36) (c : X0a) (s : Lst Int) {p : Hp} (hl : c.Tokens.l.length <= 1000000) (hr : c.Rules.l.length <= 1000000) (h4 : s.tl ≠ .view) (h5 : s.l.length <= 140737488355328) (h6 : ∀ x ∈ s.l, 0 <= x /\ x <= 255) : T 36 [c.cv, s.cv Y8] p = .ret (.tup [(readState c s.l).1.cv, I (readState c s.l).2]) p := h _ _ _ ⟨c, s, rfl, hl, hr, h4, h5, h6, rfl⟩
theorem zdis36 {P : Prop} (h : P := by first | exact zdis | (simp only [Hp.bump_n, Hp.znew_n, Hp.zset_n, List.length_nil, List.length_cons, List.length_append, List.length_map, Q07]; (first | done | omega)) | (simp (disch := first | exact zd1 | (simp only [Hp.bump_n, Hp.znew_n, Hp.zset_n, List.length_nil, List.length_cons, List.length_append, List.length_map, Q07]; (first | done | omega))) only [zheap, zx]; (first | done | rfl)) | fail) : P := h
theorem zq36 {A B : Prop} (k : B) (h : A = B := by ((try simp -dsimp (disch := first | exact zdis36 | fail) only [zcore, zall, zopm, zop, zcallOp, qop, qbuiltin, ofOpt, List.map, reduceCtorEq, if_true, if_false, ↓reduceIte, zbin, eqRes, qassert, qnum, qshift, qun, kindOf, allocV, List.nil_append, List.append_nil, List.cons_append, List.length_cons, List.length_nil, Nat.reduceAdd, Nat.reduceEqDiff, Nat.reduceLT, Nat.reduceSub, Nat.reduceMul, Int.reduceToNat, Int.reduceLE, Int.reduceLT, Int.reduceEq, Int.reduceNeg, Int.reduceAdd, Int.reduceSub, beq_self_eq_true, cond_true, cond_false, isConstOpd, xpanic, xconv, isBytes, qconv, List.length_map, List.map_nil, List.map_cons, concrete, Option.some.injEq, exists_eq', Option.map_some, Option.map_none, List.getElem?_cons_zero, List.getElem?_cons_succ, zw36, rs36, tt44, tt61, tt66, tt68, tt69, ti44, ti61, ti66, ti68, ti69, t_73s, t_33, t_96, Y0e, Y0f, X0v, zsl68, resCS, bx68, Q07, hl, hr, h4, h5, h6, zx, hc]); rfl)) : A := h ▸ k
theorem c36 : Con C 36 R36 := by
 refine Q0e C ?_ ?_ ?_
 ·rintro args p r r' ⟨c, s, h, hl, hr, h4, h5, h6, e⟩ ⟨c', s', h', hl', hr', h4', h5', h6', e'⟩
  subst e; subst e'; simp_all [X0a.inj_iff, K0a.inj_iff, Q0c.inj_iff, X0n, X0n]
 ·rintro args p r ⟨c, s, h, hl, hr, h4, h5, h6, rfl⟩; exact zr1
 rintro args p r ⟨c, s, rfl, hl, hr, h4, h5, h6, rfl⟩
 refine zW C false [(73, R73s), (33, R33), (96, R96)] ⟨c73s, c33, c96, zT⟩ rfl xf36 zc36_ok fun call zh hF => ?_
 have t_73s := @t73s _ zh.1
 have t_33 := @t33 _ zh.2.1
 have t_96 := @t96 _ zh.2.2.1
 clear zh
 cases hra : readAllB c s.l 0 with
 | error e =>
  have hrs : readState c s.l = (K0a.zero, 2) := by unfold readState; rw [hra]
  rw [hrs]
  (have zx := hra; refine zq36 ?_; try exact zT)
  repeat' (apply zK.s <;> intro hc <;> (try simp only [zhd] at hc) <;> (try have hw := V0a hc) <;> (refine zq36 ?_; try exact zT))
  all_goals (try clear zx)
  all_goals exact V0d hF zle (X0c rfl (K0d (by intro jj; simp [CV.has, CV.hasL, K0a.nohas])))
 | ok r =>
  obtain ⟨u, a'⟩ := r
  cases hR : stateRight c u with
  | false =>
   have hrs : readState c s.l = (K0a.zero, 2) := by unfold readState; rw [hra]; simp [hR]
   rw [hrs]
   (have zx := zA hra hR; refine zq36 ?_; try exact zT)
   repeat' (apply zK.s <;> intro hc <;> (try simp only [zhd] at hc) <;> (try have hw := V0a hc) <;> (refine zq36 ?_; try exact zT))
   all_goals (try clear zx)
   all_goals exact V0d hF zle (X0c rfl (K0d (by intro jj; simp [CV.has, CV.hasL, K0a.nohas])))
  | true =>
   have hlen := lay_len hR
   by_cases he : layS c u = s.l
   ·have hrs : readState c s.l = (u, 0) := by unfold readState; rw [hra]; simp [hR, he]
    rw [hrs]
    have hde : decide (s.l = s.l) = true := by simp
    (have zx := zA hra (zA hR (zA he hde)); refine zq36 ?_; try exact zT)
    repeat' (apply zK.s <;> intro hc <;> (try simp only [zhd] at hc) <;> (try have hw := V0a hc) <;> (refine zq36 ?_; try exact zT))
    all_goals (try clear zx)
    all_goals exact V0d hF zle (X0c rfl (K0d (by intro jj; simp [CV.has, CV.hasL, K0a.nohas])))
   ·have hrs : readState c s.l = (K0a.zero, 2) := by unfold readState; rw [hra]; simp [hR, he]
    rw [hrs]
    (have zx := zA hra (zA hR he); refine zq36 ?_; try exact zT)
    repeat' (apply zK.s <;> intro hc <;> (try simp only [zhd] at hc) <;> (try have hw := V0a hc) <;> (refine zq36 ?_; try exact zT))
    all_goals (try clear zx)
    all_goals exact V0d hF zle (X0c rfl (K0d (by intro jj; simp [CV.has, CV.hasL, K0a.nohas])))
end Go.Proofs.Ytpchcfkebljopaa
end
section
namespace Go.Proofs.Ytpchcfkebljopaa
open Go.Cl Go Go.RowKit
set_option maxRecDepth 100000
def zn32_1 := ZC.reg [zu 2 (.box 61 (Tm 0)), zv 4 (.alloc 66)]
def zn32_3 := ZC.draw 9 [] [zdd 0 5 (zld 61 2) false [] [2, 6] false, zdd 1 6 (zld 61 2) false [] [] false, zdd 2 7 (zcf 66 [Tm 6] [61]) false [] [] true, zdd 3 8 (zfa 61 2 0) false [2] [] false, zdd 4 9 (zld 3 8) false [2] [] false, zdd 5 10 (zmv 1) true [] [] false, zdd 6 11 (zcf 61 [Tm 9, Tm 10] [3, 58]) true [] [] false, zdd 7 12 (zcf 87 [Tm 5, Tm 7, Tm 11] [61, 66, 92]) true [] [] false, zd0 8 (.store 66 (Tm 4) (Tm 12)) true [] [] false]
def zn32_0 := ZC.seq zn32_1 (ZC.seq zn32_3 ZC.ret)
def zc32 : ZC := zn32_0
theorem zc32_ok : zcode (xfOf Try.f32).code = some zc32 := by kernel_rfl
def zw32 := zU C zc32.eq_1 <| zU C zn32_1.eq_1 <| zU C zn32_3.eq_1 <| (zunf C zn32_0.eq_1)
theorem rs32 : (xfOf Try.f32).rs = [.cell 4 66] := by kernel_rfl
def xf32 := zF C 32 Try.f32
def zn92_1 := ZC.reg [zv 0 (.alloc 61)]
def zn92_3 := ZC.reg [⟨some 1, .buildSlice 24 1 ⟨[(0, .const (.int .i64 3))]⟩, none, false⟩, ⟨some 2, .build 61 ⟨[(0, .const (.int .i64 1)), (1, .const (.int .i64 1)), (4, .const (.int .i64 50)), (6, .const (.float .f64 4607182418800017408)), (7, .const (.float .f64 4617315517961601024)), (9, .tmp 1)]⟩, none, false⟩, zv0 (.store 61 (Tm 0) (Tm 2))]
def zn92_0 := ZC.seq zn92_1 (ZC.seq zn92_3 ZC.ret)
def zc92 : ZC := zn92_0
theorem zc92_ok : zcode (xfOf Try.f92).code = some zc92 := by kernel_rfl
def zw92 := zU C zc92.eq_1 <| zU C zn92_1.eq_1 <| zU C zn92_3.eq_1 <| (zunf C zn92_0.eq_1)
theorem rs92 : (xfOf Try.f92).rs = [.cell 0 61] := by kernel_rfl
def xf92 := zF C 92 Try.f92
def zn34_1 := ZC.reg [zv 0 (.assign (.const (.bool false)))]
def zn34_3 := ZC.reg [zu 6 (zcf 92 [] []), zu 1 (.alloc 61), zv0 (.store 61 (Tm 1) (Tm 6))]
def zn34_5 := ZC.draw 9 [] [zdd 0 8 (zld 61 1) false [] [2] false, zdd 1 9 (zld 61 1) true [] [] false, zdd 2 10 (zcf 58 [Tm 9] [61]) true [] [] false, zdd 3 11 (zcf 33 [Tm 8, Tm 10] [61, 66]) true [] [] false, zdd 4 7 (zmv 11) true [] [] false, zdd 5 12 (.extract (Tm 7) 0) false [] [] false, zdd 6 13 (.extract (Tm 7) 1) false [] [] false, zdd 7 2 (zas 12) true [] [] false, zdd 8 3 (zas 13) true [] [] false]
def zn34_7 := ZC.reg [zu 15 (zld 61 1), zu 16 (zmv 2), zu 17 (zcf 36 [Tm 15, Tm 16] [61, 68]), zu 14 (zmv 17), zu 18 (.extract (Tm 14) 0), zu 19 (.extract (Tm 14) 1), zu 4 (.alloc 66), zu0 (.store 66 (Tm 4) (Tm 18)), zv 5 (zas 19)]
def zn34_9 := ZC.draw 25 [] [zdd 0 20 (zmv 3) true [] [] false, zdd 1 21 (.binOp .eql 69 (Tm 20) (Kn 0) 69) true [] [] false, zdd 2 22 (zmv 21) true [] [] false, ⟨3, some 23, zmv 2, some (22, true), true, [], [], false⟩, ⟨4, some 24, zcb .len [Tm 23] [68], some (22, true), true, [], [], false⟩, ⟨5, some 25, .binOp .eql 3 (Tm 24) (Kn 37) 3, some (22, true), true, [], [], false⟩, zdd 6 26 (.pick (Tm 22) (Tm 25) (.const (.bool false))) true [] [] false, zdd 7 27 (zmv 26) true [] [] false, ⟨8, some 28, zmv 5, some (27, true), true, [], [], false⟩, ⟨9, some 29, .binOp .eql 69 (Tm 28) (Kn 0) 69, some (27, true), true, [], [], false⟩, zdd 10 30 (.pick (Tm 27) (Tm 29) (.const (.bool false))) true [] [] false, zdd 11 31 (zmv 30) true [] [] false, ⟨12, some 32, zld 66 4, some (31, true), false, [], [14], false⟩, ⟨13, some 33, zld 61 1, some (31, true), true, [], [], false⟩, ⟨14, some 34, zcf 58 [Tm 33] [61], some (31, true), true, [], [], false⟩, ⟨15, some 35, zcf 35 [Tm 32, Tm 34] [66, 66], some (31, true), true, [], [], false⟩, zdd 16 36 (.pick (Tm 31) (Tm 35) (.const (.bool false))) true [] [] false, zdd 17 37 (zmv 36) true [] [] false, ⟨18, some 38, zfa 66 4 2, some (37, true), true, [], [], false⟩, ⟨19, some 39, .indexAddr 63 (Tm 38) (Kn 0), some (37, true), true, [], [], false⟩, ⟨20, some 40, zfa 34 39 2, some (37, true), true, [], [], false⟩, ⟨21, some 41, zld 3 40, some (37, true), true, [], [], false⟩, ⟨22, some 42, .binOp .eql 3 (Tm 41) (Kn 2048) 3, some (37, true), true, [], [], false⟩, zdd 23 43 (.pick (Tm 37) (Tm 42) (.const (.bool false))) true [] [] false, zdd 24 0 (zas 43) true [] [] false]
def zn34_0 := ZC.seq zn34_1 (ZC.seq zn34_3 (ZC.seq zn34_5 (ZC.seq zn34_7 (ZC.seq zn34_9 ZC.ret))))
def zc34 : ZC := zn34_0
theorem zc34_ok : zcode (xfOf Try.f34).code = some zc34 := by kernel_rfl
def zw34 := zU C zc34.eq_1 <| zU C zn34_1.eq_1 <| zU C zn34_3.eq_1 <| zU C zn34_5.eq_1 <| zU C zn34_7.eq_1 <| zU C zn34_9.eq_1 <| (zunf C zn34_0.eq_1)
theorem rs34 : (xfOf Try.f34).rs = [.tmp 0] := by kernel_rfl
def xf34 := zF C 34 Try.f34
def zn7_1 := ZC.reg [zu 4 (.box 57 (Tm 0)), zv 8 (.assign (.const (.bool false)))]
def zn7_4 := ZC.reg [zu 15 (zcf 34 [] []), zv 16 (.unOp .not 4 (Tm 15))]
def zn7_7 := ZC.reg [zv 8 (.assign (.const (.bool false)))]
def zn7_9 := ZC.reg [zu 17 (zld 57 4), zu 18 (zcf 31 [Tm 17] [57]), zu 9 (.alloc 61), zv0 (.store 61 (Tm 9) (Tm 18))]
def zn7_11 := ZC.reg [zu 19 (zld 61 9), zu 20 (zmv 1), zu 21 (zcf 32 [Tm 19, Tm 20] [61, 58]), zu 10 (.alloc 66), zv0 (.store 66 (Tm 10) (Tm 21))]
def zn7_13 := ZC.reg [zu 23 (zld 61 9), zu 24 (zld 66 10), zu 25 (zcf 33 [Tm 23, Tm 24] [61, 66]), zu 22 (zmv 25), zu 26 (.extract (Tm 22) 0), zu 27 (.extract (Tm 22) 1), zu 11 (zas 26), zv 12 (zas 27)]
def zn7_16 := ZC.reg [zu 28 (zmv 12), zu 29 (.binOp .neq 69 (Tm 28) (Kn 0) 69), zu 30 (zmv 29), zug 31 (zmv 11) 30 false false, zug 32 (zcb .len [Tm 31] [68]) 30 false false, zug 33 (.binOp .eql 3 (Tm 32) (Kn 0) 3) 30 false false, zv 34 (.pick (Tm 30) (.const (.bool true)) (Tm 33))]
def zn7_19 := ZC.reg [zv 8 (.assign (.const (.bool false)))]
def zn7_21 := ZC.reg [zu 35 (zmv 11), zu 36 (zmv 2), zu 37 (zmv 11), zu 38 (zcb .len [Tm 37] [68]), zu 39 (zcf 37 [Tm 36, Tm 38] [3, 3]), zu 40 (zia 68 35 39), zu 41 (zld 5 40), zu 42 (zmv 3), zu 43 (.binOp .xor 5 (Tm 41) (Tm 42) 5), zu 44 (zia 68 35 39), zv0 (.store 5 (Tm 44) (Tm 43))]
def zn7_23 := ZC.reg [zu 46 (zld 61 9), zu 47 (zmv 11), zu 48 (zcf 36 [Tm 46, Tm 47] [61, 68]), zu 45 (zmv 48), zu 49 (.extract (Tm 45) 0), zu 50 (.extract (Tm 45) 1), zu 13 (.alloc 66), zu0 (.store 66 (Tm 13) (Tm 49)), zv 14 (zas 50)]
def zn7_26 := ZC.reg [zu 51 (zmv 3), zv 52 (.binOp .eql 5 (Tm 51) (.const (.int .u8 0)) 5)]
def zn7_29 := ZC.reg [zu 53 (zmv 14), zu 54 (.binOp .eql 69 (Tm 53) (Kn 0) 69), zu 55 (zmv 54), zug 56 (zld 66 10) 55 true false, zug 57 (zld 66 13) 55 true false, zug 58 (zcf 35 [Tm 56, Tm 57] [66, 66]) 55 true false, zu 59 (.pick (Tm 55) (Tm 58) (.const (.bool false))), zv 8 (zas 59)]
def zn7_31 := ZC.reg [zu 60 (zmv 14), zu 61 (.binOp .eql 69 (Tm 60) (Kn 2) 69), zu 62 (zmv 61), zug 63 (zld 66 13) 62 true false, ⟨some 64, .build 66 ⟨[]⟩, some (62, true), false⟩, zug 65 (.binOp .eql 66 (Tm 63) (Tm 64) 66) 62 true false, zu 66 (.pick (Tm 62) (Tm 65) (.const (.bool false))), zu 67 (zmv 66), zug 68 (zmv 14) 67 false false, zug 69 (.binOp .eql 69 (Tm 68) (Kn 0) 69) 67 false false, zug 70 (zmv 69) 67 false false, zug 71 (zld 66 10) 70 true false, zug 72 (zld 66 13) 70 true false, zug 73 (zcf 35 [Tm 71, Tm 72] [66, 66]) 70 true false, zug 74 (.unOp .not 4 (Tm 73)) 70 true false, zug 75 (.pick (Tm 70) (Tm 74) (.const (.bool false))) 67 false false, zug 76 (zmv 75) 67 false false, zug 77 (zld 61 9) 76 true false, zug 78 (zld 66 13) 76 true false, zug 79 (zcf 38 [Tm 77, Tm 78] [61, 66]) 76 true false, zug 80 (.pick (Tm 76) (Tm 79) (.const (.bool false))) 67 false false, zu 81 (.pick (Tm 67) (.const (.bool true)) (Tm 80)), zv 8 (zas 81)]
def zn7_0 := ZC.seq zn7_1 (ZC.seq (ZC.seq zn7_4 (ZC.cond (Tm 16) (ZC.seq zn7_7 ZC.ret) ZC.skip)) (ZC.seq zn7_9 (ZC.seq zn7_11 (ZC.seq zn7_13 (ZC.seq (ZC.seq zn7_16 (ZC.cond (Tm 34) (ZC.seq zn7_19 ZC.ret) ZC.skip)) (ZC.seq zn7_21 (ZC.seq zn7_23 (ZC.seq (ZC.seq zn7_26 (ZC.cond (Tm 52) (ZC.seq zn7_29 ZC.ret) ZC.skip)) (ZC.seq zn7_31 ZC.ret)))))))))
def zc7 : ZC := zn7_0
theorem zc7_ok : zcode (xfOf Try.f7).code = some zc7 := by kernel_rfl
def zw7 := zU C zc7.eq_1 <| zU C zn7_1.eq_1 <| zU C zn7_4.eq_1 <| zU C zn7_7.eq_1 <| zU C zn7_9.eq_1 <| zU C zn7_11.eq_1 <| zU C zn7_13.eq_1 <| zU C zn7_16.eq_1 <| zU C zn7_19.eq_1 <| zU C zn7_21.eq_1 <| zU C zn7_23.eq_1 <| zU C zn7_26.eq_1 <| zU C zn7_29.eq_1 <| zU C zn7_31.eq_1 <| (zunf C zn7_0.eq_1)
theorem rs7 : (xfOf Try.f7).rs = [.tmp 8] := by kernel_rfl
def xf7 := zF C 7 Try.f7
def zn67_1 := ZC.reg [zu 3 (.box 61 (Tm 0)), zu 4 (.box 66 (Tm 1)), zv 6 (.alloc 66)]
def zn67_4 := ZC.reg [zu 24 (zld 61 3), zu 25 (zld 66 4), zu 26 (zcf 38 [Tm 24, Tm 25] [61, 66]), zv 27 (.unOp .not 4 (Tm 26))]
def zn67_7 := ZC.reg [⟨some 28, .build 66 ⟨[]⟩, none, false⟩, zv0 (.store 66 (Tm 6) (Tm 28))]
def zn67_9 := ZC.reg [zu 29 (zfa 66 4 2), zu 30 (zld 63 29), zu 7 (.alloc 63), zv0 (.store 63 (Tm 7) (Tm 30))]
def zn67_11 := ZC.reg [zv 8 (.assign (.const (.slice none 0 0)))]
def zn67_14 := ZC.reg [zv 9 (.assign (Kn 0))]
def zn67_19 := ZC.reg [zu 31 (zmv 9), zv 32 (.binOp .lss 3 (Tm 31) (Kn 16) 3)]
def zn67_24 := ZC.reg [zu 35 (zmv 9), zu 36 (zia 63 7 35), zu 37 (zld 34 36), zu 10 (.alloc 34), zv0 (.store 34 (Tm 10) (Tm 37))]
def zn67_27 := ZC.reg [zu 38 (zfa 34 10 0), zu 39 (zld 3 38), zv 40 (.binOp .eql 3 (Tm 39) (Kn 1) 3)]
def zn67_30 := ZC.reg [zu 41 (zmv 2), zu 42 (zfa 34 10 1), zu 43 (zld 3 42), zu 44 (zcf 143 [Tm 41, Tm 43] [108, 3]), zu 11 (.alloc 36), zv0 (.store 36 (Tm 11) (Tm 44))]
def zn67_32 := ZC.draw 30 [(25, .alloc 51)] [zdd 0 46 (zfa 61 3 8) false [] [9, 14] false, zdd 1 47 (zld 23 46) false [] [9, 14] false, zdd 2 48 (zld 34 10) false [] [] false, zdd 3 49 (zfa 36 11 1) false [] [] false, zdd 4 50 (zld 3 49) false [] [] false, zdd 5 51 (.binOp .quo 3 (Tm 50) (Kn 16) 3) false [] [] false, zdd 6 52 (zfa 36 11 2) false [] [] false, zdd 7 53 (zld 3 52) false [] [] false, zdd 8 54 (.binOp .quo 3 (Tm 53) (Kn 16) 3) false [] [] false, zdd 9 55 (zcf 144 [Tm 48, Tm 51, Tm 54] [34, 3, 3]) false [] [] true, zdd 10 56 (zld 36 11) false [9] [14] false, zdd 11 57 (zfa 66 4 1) false [9] [14] false, zdd 12 58 (zld 25 57) false [9] [14] false, zdd 13 59 (zld 66 4) false [9] [] false, zdd 14 60 (zcf 145 [Tm 59] [66]) false [] [] true, zdd 15 61 (zmv 8) false [] [] false, zdd 16 62 (zcb .len [Tm 61] [37]) false [9, 14] [] false, zdd 17 63 (.binOp .sub 3 (Tm 60) (Tm 62) 3) false [] [] false, ⟨18, some 64, .build 51 ⟨[(0, .tmp 55), (1, .tmp 56), (2, .tmp 58), (3, .tmp 63)]⟩, none, false, [], [], false⟩, zdd 19 65 (zcf 28 [Tm 47, Tm 64] [23, 51]) false [] [] true, zdd 20 45 (zmv 65) false [] [] false, zdd 21 66 (.extract (Tm 45) 0) false [] [] false, zdd 22 67 (.extract (Tm 45) 1) false [] [] false, zdd 23 68 (.extract (Tm 45) 2) false [] [] false, zdd 24 69 (.extract (Tm 45) 3) false [] [] false, zdd 25 12 (.alloc 51) true [9, 14, 19] [] false, zd0 26 (.store 51 (Tm 12) (Tm 66)) true [] [] false, zdd 27 13 (zas 67) true [] [] false, zdd 28 14 (zas 68) true [] [] false, zdd 29 15 (zas 69) true [] [] false]
def zn67_34 := ZC.reg [zv 70 (zmv 15)]
def zn67_37 := ZC.reg [zu 71 (zfa 51 12 0), zu 72 (zld 34 71), zv0 (.store 34 (Tm 10) (Tm 72))]
def zn67_39 := ZC.reg [zu 73 (zfa 51 12 2), zu 74 (zld 25 73), zu 75 (zfa 66 4 1), zv0 (.store 25 (Tm 75) (Tm 74))]
def zn67_40 := ZC.reg [zu 76 (zmv 8), zu 77 (zfa 51 12 4), zu 78 (zld 37 77), zu 79 (zcb .append [Tm 76, Tm 78] [37, 37]), zv 8 (zas 79)]
def zn67_41 := ZC.reg [zu 80 (zfa 34 10 8), zu 81 (zld 3 80), zu 82 (.binOp .add 3 (Tm 81) (Kn 1) 3), zu 83 (zcb .min [Kn 65535, Tm 82] [3, 3]), zu 84 (zfa 34 10 8), zv0 (.store 3 (Tm 84) (Tm 83))]
def zn67_42 := ZC.reg [zu 86 (zmv 9), zu 87 (zld 34 10), zu 88 (zcf 146 [Tm 87] [34]), zu 85 (zmv 88), zu 89 (.extract (Tm 85) 0), zu 90 (.extract (Tm 85) 1), zu 91 (zfa 66 4 2), zu 92 (zia 63 91 86), zv0 (.store 34 (Tm 92) (Tm 89))]
def zn67_43 := ZC.reg [zu 33 (zmv 9), zu 34 (.binOp .add 3 (Tm 33) (Kn 1) 3), zv 9 (zas 34)]
def V12 := ZC.seq (ZC.seq zn67_19 (ZC.cond (Tm 32) ZC.skip (ZC.exit 0))) (ZC.seq (ZC.block 1 (ZC.seq zn67_24 (ZC.seq (ZC.seq zn67_27 (ZC.cond (Tm 40) (ZC.seq zn67_30 (ZC.seq zn67_32 (ZC.seq zn67_34 (ZC.cond (Tm 70) (ZC.seq zn67_37 (ZC.seq zn67_39 zn67_40)) zn67_41)))) ZC.skip)) zn67_42))) zn67_43)
def zn67_46 := ZC.reg [zv 16 (.assign (Kn 0))]
def zn67_51 := ZC.reg [zu 93 (zmv 16), zu 94 (zmv 8), zu 95 (zcb .len [Tm 94] [37]), zv 96 (.binOp .lss 3 (Tm 93) (Tm 95) 3)]
def zn67_56 := ZC.reg [zv 17 (.assign (.const (.bool false)))]
def zn67_58 := ZC.reg [zv 18 (.assign (Kn 0))]
def zn67_63 := ZC.reg [zu 99 (zmv 18), zu 100 (.binOp .lss 3 (Tm 99) (Kn 16) 3), zu 101 (zmv 100), zug 102 (zmv 17) 101 true false, zug 103 (.unOp .not 4 (Tm 102)) 101 true false, zv 104 (.pick (Tm 101) (Tm 103) (.const (.bool false)))]
def zn67_68 := ZC.reg [zu 107 (zmv 18), zu 108 (zfa 66 4 2), zu 109 (zia 63 108 107), zu 110 (zfa 34 109 0), zu 111 (zld 3 110), zv 112 (.binOp .eql 3 (Tm 111) (Kn 0) 3)]
def zn67_71 := ZC.reg [zu 113 (zmv 18), zu 114 (zmv 8), zu 115 (zmv 16), zu 116 (zia 37 114 115), zu 117 (zld 34 116), zu 118 (zfa 66 4 2), zu 119 (zia 63 118 113), zv0 (.store 34 (Tm 119) (Tm 117))]
def zn67_72 := ZC.reg [zv 17 (.assign (.const (.bool true)))]
def zn67_73 := ZC.reg [zu 105 (zmv 18), zu 106 (.binOp .add 3 (Tm 105) (Kn 1) 3), zv 18 (zas 106)]
def K13 := ZC.seq (ZC.seq zn67_63 (ZC.cond (Tm 104) ZC.skip (ZC.exit 4))) (ZC.seq (ZC.block 5 (ZC.seq zn67_68 (ZC.cond (Tm 112) (ZC.seq zn67_71 zn67_72) ZC.skip))) zn67_73)
def zn67_74 := ZC.reg [zu 97 (zmv 16), zu 98 (.binOp .add 3 (Tm 97) (Kn 1) 3), zv 16 (zas 98)]
def K1z := ZC.seq (ZC.seq zn67_51 (ZC.cond (Tm 96) ZC.skip (ZC.exit 2))) (ZC.seq (ZC.block 3 (ZC.seq zn67_56 (ZC.seq zn67_58 (ZC.block 4 (ZC.loop K13))))) zn67_74)
def zn67_77 := ZC.reg [zv 19 (.assign (Kn 0))]
def zn67_82 := ZC.reg [zu 120 (zmv 19), zv 121 (.binOp .lss 3 (Tm 120) (Kn 16) 3)]
def zn67_87 := ZC.reg [zv 20 (.assign (Kn 0))]
def zn67_92 := ZC.reg [zu 124 (zmv 20), zu 125 (.binOp .lss 3 (Tm 124) (Kn 16) 3), zu 126 (zmv 125), zug 127 (zmv 19) 126 true false, zug 128 (zfa 66 4 2) 126 true false, zug 129 (zia 63 128 127) 126 true false, zug 130 (zfa 34 129 0) 126 true false, zug 131 (zld 3 130) 126 true false, zug 132 (.binOp .eql 3 (Tm 131) (Kn 2) 3) 126 true false, zv 133 (.pick (Tm 126) (Tm 132) (.const (.bool false)))]
def zn67_97 := ZC.reg [zu 136 (zmv 20), zu 137 (zfa 66 4 2), zu 138 (zia 63 137 136), zu 139 (zld 34 138), zu 21 (.alloc 34), zv0 (.store 34 (Tm 21) (Tm 139))]
def zn67_99 := ZC.draw 11 [] [zdd 0 140 (zfa 34 21 0) true [] [] false, zdd 1 141 (zld 3 140) true [] [] false, zdd 2 142 (.binOp .eql 3 (Tm 141) (Kn 1) 3) true [] [] false, zdd 3 143 (zmv 142) true [] [] false, ⟨4, some 144, zmv 19, some (143, true), false, [], [], false⟩, ⟨5, some 145, zfa 66 4 2, some (143, true), false, [], [], false⟩, ⟨6, some 146, zia 63 145 144, some (143, true), false, [], [], false⟩, ⟨7, some 147, zld 34 146, some (143, true), false, [], [], false⟩, ⟨8, some 148, zld 34 21, some (143, true), true, [], [], false⟩, ⟨9, some 149, zcf 147 [Tm 147, Tm 148] [34, 34], some (143, true), true, [], [], false⟩, zdd 10 150 (.pick (Tm 143) (Tm 149) (.const (.bool false))) true [] [] false]
def zn67_102 := ZC.reg [zu 151 (zmv 19), zu 152 (zfa 66 4 2), zu 153 (zia 63 152 151), zu 154 (zfa 34 153 1), zu 155 (zld 3 154), zv 22 (zas 155)]
def zn67_104 := ZC.reg [zu 156 (zmv 22), zu 157 (zmv 22), zu 158 (zfa 66 4 3), zu 159 (zia 64 158 157), zu 160 (zld 3 159), zu 161 (.binOp .add 3 (Tm 160) (Kn 1) 3), zu 162 (zcb .min [Kn 2147483647, Tm 161] [3, 3]), zu 163 (zfa 66 4 3), zu 164 (zia 64 163 156), zv0 (.store 3 (Tm 164) (Tm 162))]
def zn67_106 := ZC.reg [zu 165 (zmv 19), ⟨some 166, .build 34 ⟨[]⟩, none, false⟩, zu 167 (zfa 66 4 2), zu 168 (zia 63 167 165), zv0 (.store 34 (Tm 168) (Tm 166))]
def zn67_108 := ZC.reg [zu 169 (zfa 34 21 1), zu 170 (zld 3 169), zu 171 (zfa 61 3 0), zu 172 (zld 3 171), zu 173 (zcf 142 [Tm 170, Tm 172] [3, 3]), zu 23 (.alloc 34), zv0 (.store 34 (Tm 23) (Tm 173))]
def zn67_110 := ZC.reg [zu 174 (zfa 34 21 8), zu 175 (zld 3 174), zu 176 (zfa 34 23 8), zv0 (.store 3 (Tm 176) (Tm 175))]
def zn67_111 := ZC.reg [zu 177 (zmv 20), zu 178 (zld 34 23), zu 179 (zfa 66 4 2), zu 180 (zia 63 179 177), zv0 (.store 34 (Tm 180) (Tm 178))]
def zn67_112 := ZC.reg [zu 134 (zmv 20), zu 135 (.binOp .add 3 (Tm 134) (Kn 1) 3), zv 20 (zas 135)]
def V14 := ZC.seq (ZC.seq zn67_92 (ZC.cond (Tm 133) ZC.skip (ZC.exit 8))) (ZC.seq (ZC.block 9 (ZC.seq zn67_97 (ZC.seq zn67_99 (ZC.cond (Tm 150) (ZC.seq zn67_102 (ZC.seq zn67_104 (ZC.seq zn67_106 (ZC.seq zn67_108 (ZC.seq zn67_110 zn67_111))))) ZC.skip)))) zn67_112)
def zn67_113 := ZC.reg [zu 122 (zmv 19), zu 123 (.binOp .add 3 (Tm 122) (Kn 1) 3), zv 19 (zas 123)]
def K1x := ZC.seq (ZC.seq zn67_82 (ZC.cond (Tm 121) ZC.skip (ZC.exit 6))) (ZC.seq (ZC.block 7 (ZC.seq zn67_87 (ZC.block 8 (ZC.loop V14)))) zn67_113)
def zn67_115 := ZC.reg [zu 181 (zfa 66 4 0), zu 182 (zld 3 181), zu 183 (.binOp .add 3 (Tm 182) (Kn 1) 3), zu 184 (zcb .min [Kn 600, Tm 183] [3, 3]), zu 185 (zfa 66 4 0), zv0 (.store 3 (Tm 185) (Tm 184))]
def zn67_117 := ZC.reg [zu 186 (zld 66 4), zv0 (.store 66 (Tm 6) (Tm 186))]
def zn67_0 := ZC.seq zn67_1 (ZC.seq (ZC.seq zn67_4 (ZC.cond (Tm 27) (ZC.seq zn67_7 ZC.ret) ZC.skip)) (ZC.seq zn67_9 (ZC.seq zn67_11 (ZC.seq (ZC.seq zn67_14 (ZC.block 0 (ZC.loop V12))) (ZC.seq (ZC.seq zn67_46 (ZC.block 2 (ZC.loop K1z))) (ZC.seq (ZC.seq zn67_77 (ZC.block 6 (ZC.loop K1x))) (ZC.seq zn67_115 (ZC.seq zn67_117 ZC.ret))))))))
def zc67 : ZC := zn67_0
theorem zc67_ok : zcode (xfOf Try.f67).code = some zc67 := by kernel_rfl
def zw67 := zU C zc67.eq_1 <| zU C zn67_1.eq_1 <| zU C zn67_4.eq_1 <| zU C zn67_7.eq_1 <| zU C zn67_9.eq_1 <| zU C zn67_11.eq_1 <| zU C zn67_14.eq_1 <| zU C zn67_19.eq_1 <| zU C zn67_24.eq_1 <| zU C zn67_27.eq_1 <| zU C zn67_30.eq_1 <| zU C zn67_32.eq_1 <| zU C zn67_34.eq_1 <| zU C zn67_37.eq_1 <| zU C zn67_39.eq_1 <| zU C zn67_40.eq_1 <| zU C zn67_41.eq_1 <| zU C zn67_42.eq_1 <| zU C zn67_43.eq_1 <| zU C V12.eq_1 <| zU C zn67_46.eq_1 <| zU C zn67_51.eq_1 <| zU C zn67_56.eq_1 <| zU C zn67_58.eq_1 <| zU C zn67_63.eq_1 <| zU C zn67_68.eq_1 <| zU C zn67_71.eq_1 <| zU C zn67_72.eq_1 <| zU C zn67_73.eq_1 <| zU C K13.eq_1 <| zU C zn67_74.eq_1 <| zU C K1z.eq_1 <| zU C zn67_77.eq_1 <| zU C zn67_82.eq_1 <| zU C zn67_87.eq_1 <| zU C zn67_92.eq_1 <| zU C zn67_97.eq_1 <| zU C zn67_99.eq_1 <| zU C zn67_102.eq_1 <| zU C zn67_104.eq_1 <| zU C zn67_106.eq_1 <| zU C zn67_108.eq_1 <| zU C zn67_110.eq_1 <| zU C zn67_111.eq_1 <| zU C zn67_112.eq_1 <| zU C V14.eq_1 <| zU C zn67_113.eq_1 <| zU C K1x.eq_1 <| zU C zn67_115.eq_1 <| zU C zn67_117.eq_1 <| (zunf C zn67_0.eq_1)
theorem rs67 : (xfOf Try.f67).rs = [.cell 6 66] := by kernel_rfl
def xf67 := zF C 67 Try.f67
def zn87_1 := ZC.reg [zu 3 (.box 61 (Tm 0)), zu 4 (.box 66 (Tm 1)), zv 6 (.alloc 66)]
def zn87_4 := ZC.reg [zv 7 (.assign (Kn 0))]
def zn87_9 := ZC.reg [zu 8 (zmv 7), zu 9 (zmv 2), zu 10 (zcb .len [Tm 9] [92]), zv 11 (.binOp .lss 3 (Tm 8) (Tm 10) 3)]
def zn87_13 := ZC.draw 8 [] [zdd 0 14 (zld 61 3) false [] [] false, zdd 1 15 (zld 66 4) false [] [] false, zdd 2 16 (zmv 2) false [] [] false, zdd 3 17 (zmv 7) true [] [] false, zdd 4 18 (zia 92 16 17) true [] [] false, zdd 5 19 (zld 108 18) true [] [] false, zdd 6 20 (zcf 67 [Tm 14, Tm 15, Tm 19] [61, 66, 108]) true [] [] false, zd0 7 (.store 66 (Tm 4) (Tm 20)) true [] [] false]
def zn87_14 := ZC.reg [zu 12 (zmv 7), zu 13 (.binOp .add 3 (Tm 12) (Kn 1) 3), zv 7 (zas 13)]
def zn87_7 := ZC.seq (ZC.seq zn87_9 (ZC.cond (Tm 11) ZC.skip (ZC.exit 0))) (ZC.seq (ZC.block 1 zn87_13) zn87_14)
def zn87_16 := ZC.reg [zu 21 (zld 66 4), zv0 (.store 66 (Tm 6) (Tm 21))]
def zn87_0 := ZC.seq zn87_1 (ZC.seq (ZC.seq zn87_4 (ZC.block 0 (ZC.loop zn87_7))) (ZC.seq zn87_16 ZC.ret))
def zc87 : ZC := zn87_0
theorem zc87_ok : zcode (xfOf Try.f87).code = some zc87 := by kernel_rfl
def zw87 := zU C zc87.eq_1 <| zU C zn87_1.eq_1 <| zU C zn87_4.eq_1 <| zU C zn87_9.eq_1 <| zU C zn87_13.eq_1 <| zU C zn87_14.eq_1 <| zU C zn87_7.eq_1 <| zU C zn87_16.eq_1 <| (zunf C zn87_0.eq_1)
theorem rs87 : (xfOf Try.f87).rs = [.cell 6 66] := by kernel_rfl
def xf87 := zF C 87 Try.f87
def zn141_1 := ZC.reg [zv 2 (.assign (.const (.int .u64 0)))]
def zn141_3 := ZC.reg [zu 3 (zmv 0), zu 4 (.convert 3 25 (Tm 3)), zu 5 (.binOp .mul 25 (Tm 4) (.const (.int .u64 2)) 25), zu 6 (.binOp .add 25 (Tm 5) (.const (.int .u64 1)) 25), zv 2 (zas 6)]
def zn141_0 := ZC.seq zn141_1 (ZC.seq zn141_3 ZC.ret)
def zc141 : ZC := zn141_0
theorem zc141_ok : zcode (xfOf Try.f141).code = some zc141 := by kernel_rfl
def zw141 := zU C zc141.eq_1 <| zU C zn141_1.eq_1 <| zU C zn141_3.eq_1 <| (zunf C zn141_0.eq_1)
theorem rs141 : (xfOf Try.f141).rs = [.tmp 2] := by kernel_rfl
def xf141 := zF C 141 Try.f141
def zn162_1 := ZC.reg [zv 4 (.assign (.const (.bool false)))]
def zn162_3 := ZC.reg [zu 5 (zmv 0), zu 6 (.binOp .geq 59 (Tm 5) (.const (.float .f64 0)) 59), zu 7 (zmv 6), zug 8 (zmv 0) 7 true false, zug 9 (.binOp .leq 59 (Tm 8) (.const (.float .f64 9218868437227405311)) 59) 7 true false, zu 10 (.pick (Tm 7) (Tm 9) (.const (.bool false))), zu 11 (zmv 10), zug 12 (zmv 1) 11 true false, zug 13 (.binOp .geq 59 (Tm 12) (.const (.float .f64 4607182418800017408)) 59) 11 true false, zu 14 (.pick (Tm 11) (Tm 13) (.const (.bool false))), zu 15 (zmv 14), zug 16 (zmv 1) 15 true false, zug 17 (.binOp .leq 59 (Tm 16) (.const (.float .f64 4652007308841189376)) 59) 15 true false, zu 18 (.pick (Tm 15) (Tm 17) (.const (.bool false))), zv 4 (zas 18)]
def zn162_0 := ZC.seq zn162_1 (ZC.seq zn162_3 ZC.ret)
def zc162 : ZC := zn162_0
theorem zc162_ok : zcode (xfOf Try.f162).code = some zc162 := by kernel_rfl
def zw162 := zU C zc162.eq_1 <| zU C zn162_1.eq_1 <| zU C zn162_3.eq_1 <| (zunf C zn162_0.eq_1)
theorem rs162 : (xfOf Try.f162).rs = [.tmp 4] := by kernel_rfl
def xf162 := zF C 162 Try.f162
def zn180_1 := ZC.reg [zv 4 (.assign (.const (.bool false)))]
def zn180_3 := ZC.reg [zu 5 (zmv 0), zu 6 (zmv 1), zu 7 (.binOp .sub 3 (Tm 5) (Tm 6) 3), zu 8 (.binOp .leq 3 (Tm 7) (Kn 32) 3), zu 9 (zmv 8), zug 10 (zmv 1) 9 true false, zug 11 (zmv 0) 9 true false, zug 12 (.binOp .sub 3 (Tm 10) (Tm 11) 3) 9 true false, zug 13 (.binOp .leq 3 (Tm 12) (Kn 32) 3) 9 true false, zu 14 (.pick (Tm 9) (Tm 13) (.const (.bool false))), zv 4 (zas 14)]
def zn180_0 := ZC.seq zn180_1 (ZC.seq zn180_3 ZC.ret)
def zc180 : ZC := zn180_0
theorem zc180_ok : zcode (xfOf Try.f180).code = some zc180 := by kernel_rfl
def zw180 := zU C zc180.eq_1 <| zU C zn180_1.eq_1 <| zU C zn180_3.eq_1 <| (zunf C zn180_0.eq_1)
theorem rs180 : (xfOf Try.f180).rs = [.tmp 4] := by kernel_rfl
def xf180 := zF C 180 Try.f180
def zn142_1 := ZC.reg [zv 4 (.alloc 34)]
def zn142_3 := ZC.reg [zu 5 (zmv 1), zu 6 (zcf 80 [Tm 5, Kn 1, Kn 8] [3, 3, 3]), zv 1 (zas 6)]
def zn142_5 := ZC.reg [zu 7 (zmv 0), zu 8 (zmv 1), zu 9 (.binOp .sub 3 (Tm 8) (Kn 1) 3), zu 10 (zcf 80 [Tm 7, Kn 0, Tm 9] [3, 3, 3]), zv 0 (zas 10)]
def zn142_7 := ZC.reg [zu 11 (zmv 0), zu 12 (zmv 0), zu 13 (.binOp .mul 3 (Kn 2) (Tm 12) 3), zu 14 (.binOp .add 3 (Tm 13) (Kn 1) 3), zu 15 (.binOp .mul 3 (Tm 14) (Kn 4096) 3), zu 16 (zmv 1), zu 17 (.binOp .mul 3 (Kn 2) (Tm 16) 3), zu 18 (.binOp .quo 3 (Tm 15) (Tm 17) 3), ⟨some 19, .build 34 ⟨[(0, .const (.int .i64 1)), (1, .tmp 11), (2, .tmp 18), (3, .const (.int .i64 2048))]⟩, none, false⟩, zv0 (.store 34 (Tm 4) (Tm 19))]
def zn142_0 := ZC.seq zn142_1 (ZC.seq zn142_3 (ZC.seq zn142_5 (ZC.seq zn142_7 ZC.ret)))
def zc142 : ZC := zn142_0
theorem zc142_ok : zcode (xfOf Try.f142).code = some zc142 := by kernel_rfl
def zw142 := zU C zc142.eq_1 <| zU C zn142_1.eq_1 <| zU C zn142_3.eq_1 <| zU C zn142_5.eq_1 <| zU C zn142_7.eq_1 <| (zunf C zn142_0.eq_1)
theorem rs142 : (xfOf Try.f142).rs = [.cell 4 34] := by kernel_rfl
def xf142 := zF C 142 Try.f142
def zn143_1 := ZC.reg [zv 4 (.alloc 36)]
def zn143_4 := ZC.reg [zu 6 (zmv 1), zu 7 (zmv 0), zu 8 (zcb .len [Tm 7] [108]), zv 9 (.binOp .geq 3 (Tm 6) (Tm 8) 3)]
def zn143_7 := ZC.reg [⟨some 10, .build 36 ⟨[]⟩, none, false⟩, zv0 (.store 36 (Tm 4) (Tm 10))]
def zn143_9 := ZC.reg [zu 11 (zmv 0), zu 12 (zmv 1), zu 13 (zia 108 11 12), zu 14 (zfa 110 13 1), zu 15 (zld 36 14), zu 5 (.alloc 36), zv0 (.store 36 (Tm 5) (Tm 15))]
def zn143_11 := ZC.draw 11 [] [zdd 0 16 (zfa 36 5 0) false [] [] false, zdd 1 17 (zld 3 16) false [] [] false, zdd 2 18 (zcf 80 [Tm 17, Kn 0, Kn 255] [3, 3, 3]) false [] [] true, zdd 3 19 (zfa 36 5 1) false [2] [] false, zdd 4 20 (zld 3 19) false [2] [] false, zdd 5 21 (zcf 80 [Tm 20, Kn (-64), Kn 64] [3, 3, 3]) false [] [] true, zdd 6 22 (zfa 36 5 2) true [2, 5] [] false, zdd 7 23 (zld 3 22) true [2, 5] [] false, zdd 8 24 (zcf 80 [Tm 23, Kn (-64), Kn 64] [3, 3, 3]) true [] [] false, ⟨9, some 25, .build 36 ⟨[(0, .tmp 18), (1, .tmp 21), (2, .tmp 24)]⟩, none, true, [], [], false⟩, zd0 10 (.store 36 (Tm 4) (Tm 25)) true [] [] false]
def zn143_0 := ZC.seq zn143_1 (ZC.seq (ZC.seq zn143_4 (ZC.cond (Tm 9) (ZC.seq zn143_7 ZC.ret) ZC.skip)) (ZC.seq zn143_9 (ZC.seq zn143_11 ZC.ret)))
def zc143 : ZC := zn143_0
theorem zc143_ok : zcode (xfOf Try.f143).code = some zc143 := by kernel_rfl
def zw143 := zU C zc143.eq_1 <| zU C zn143_1.eq_1 <| zU C zn143_4.eq_1 <| zU C zn143_7.eq_1 <| zU C zn143_9.eq_1 <| zU C zn143_11.eq_1 <| (zunf C zn143_0.eq_1)
theorem rs143 : (xfOf Try.f143).rs = [.cell 4 36] := by kernel_rfl
def xf143 := zF C 143 Try.f143
def zn145_1 := ZC.reg [zu 1 (.box 66 (Tm 0)), zv 2 (.assign (Kn 0))]
def zn145_3 := ZC.reg [zv 3 (.assign (Kn 0))]
def zn145_6 := ZC.reg [zv 4 (.assign (Kn 0))]
def zn145_11 := ZC.reg [zu 5 (zmv 4), zv 6 (.binOp .lss 3 (Tm 5) (Kn 16) 3)]
def zn145_16 := ZC.reg [zu 9 (zmv 4), zu 10 (zfa 66 1 2), zu 11 (zia 63 10 9), zu 12 (zfa 34 11 0), zu 13 (zld 3 12), zv 14 (.binOp .eql 3 (Tm 13) (Kn 0) 3)]
def zn145_18 := ZC.reg [zu 15 (zmv 3), zu 16 (.binOp .add 3 (Tm 15) (Kn 1) 3), zv 3 (zas 16)]
def zn145_19 := ZC.reg [zu 7 (zmv 4), zu 8 (.binOp .add 3 (Tm 7) (Kn 1) 3), zv 4 (zas 8)]
def Z1y := ZC.seq (ZC.seq zn145_11 (ZC.cond (Tm 6) ZC.skip (ZC.exit 0))) (ZC.seq (ZC.block 1 (ZC.seq zn145_16 (ZC.cond (Tm 14) zn145_18 ZC.skip))) zn145_19)
def zn145_21 := ZC.reg [zu 17 (zmv 3), zv 2 (zas 17)]
def zn145_0 := ZC.seq zn145_1 (ZC.seq zn145_3 (ZC.seq (ZC.seq zn145_6 (ZC.block 0 (ZC.loop Z1y))) (ZC.seq zn145_21 ZC.ret)))
def zc145 : ZC := zn145_0
theorem zc145_ok : zcode (xfOf Try.f145).code = some zc145 := by kernel_rfl
def zw145 := zU C zc145.eq_1 <| zU C zn145_1.eq_1 <| zU C zn145_3.eq_1 <| zU C zn145_6.eq_1 <| zU C zn145_11.eq_1 <| zU C zn145_16.eq_1 <| zU C zn145_18.eq_1 <| zU C zn145_19.eq_1 <| zU C Z1y.eq_1 <| zU C zn145_21.eq_1 <| (zunf C zn145_0.eq_1)
theorem rs145 : (xfOf Try.f145).rs = [.tmp 2] := by kernel_rfl
def xf145 := zF C 145 Try.f145
def zn144_1 := ZC.reg [zu 3 (.box 34 (Tm 0)), zv 6 (.alloc 34)]
def zn144_4 := ZC.reg [zu 7 (zld 34 3), zu 8 (zcf 75 [Tm 7] [34]), zu 9 (.unOp .not 4 (Tm 8)), zu 10 (zmv 9), zug 11 (zfa 34 3 0) 10 false false, zug 12 (zld 3 11) 10 false false, zug 13 (.binOp .eql 3 (Tm 12) (Kn 0) 3) 10 false false, zv 14 (.pick (Tm 10) (.const (.bool true)) (Tm 13))]
def zn144_7 := ZC.reg [⟨some 15, .build 34 ⟨[]⟩, none, false⟩, zv0 (.store 34 (Tm 6) (Tm 15))]
def zn144_9 := ZC.draw 8 [] [zdd 0 16 (zfa 34 3 4) false [] [3] false, zdd 1 17 (zld 3 16) false [] [3] false, zdd 2 18 (zmv 1) true [] [] false, zdd 3 19 (zcf 80 [Tm 18, Kn (-1000), Kn 1000] [3, 3, 3]) true [] [] false, zdd 4 20 (.binOp .add 3 (Tm 17) (Tm 19) 3) true [] [] false, zdd 5 21 (zcf 80 [Tm 20, Kn (-64), Kn 64] [3, 3, 3]) true [] [] false, zdd 6 22 (zfa 34 3 4) true [] [] false, zd0 7 (.store 3 (Tm 22) (Tm 21)) true [] [] false]
def zn144_11 := ZC.draw 8 [] [zdd 0 23 (zfa 34 3 5) false [] [3] false, zdd 1 24 (zld 3 23) false [] [3] false, zdd 2 25 (zmv 2) true [] [] false, zdd 3 26 (zcf 80 [Tm 25, Kn (-1000), Kn 1000] [3, 3, 3]) true [] [] false, zdd 4 27 (.binOp .add 3 (Tm 24) (Tm 26) 3) true [] [] false, zdd 5 28 (zcf 80 [Tm 27, Kn (-64), Kn 64] [3, 3, 3]) true [] [] false, zdd 6 29 (zfa 34 3 5) true [] [] false, zd0 7 (.store 3 (Tm 29) (Tm 28)) true [] [] false]
def zn144_13 := ZC.reg [zu 30 (zld 34 3), zv0 (.store 34 (Tm 6) (Tm 30))]
def zn144_0 := ZC.seq zn144_1 (ZC.seq (ZC.seq zn144_4 (ZC.cond (Tm 14) (ZC.seq zn144_7 ZC.ret) ZC.skip)) (ZC.seq zn144_9 (ZC.seq zn144_11 (ZC.seq zn144_13 ZC.ret))))
def zc144 : ZC := zn144_0
theorem zc144_ok : zcode (xfOf Try.f144).code = some zc144 := by kernel_rfl
def zw144 := zU C zc144.eq_1 <| zU C zn144_1.eq_1 <| zU C zn144_4.eq_1 <| zU C zn144_7.eq_1 <| zU C zn144_9.eq_1 <| zU C zn144_11.eq_1 <| zU C zn144_13.eq_1 <| (zunf C zn144_0.eq_1)
theorem rs144 : (xfOf Try.f144).rs = [.cell 6 34] := by kernel_rfl
def xf144 := zF C 144 Try.f144
def zn146_1 := ZC.reg [zu 1 (.box 34 (Tm 0)), zu 2 (.alloc 34), zv 3 (.assign (.const (.bool false)))]
def zn146_4 := ZC.reg [zu 6 (zld 34 1), zu 7 (zcf 75 [Tm 6] [34]), zu 8 (.unOp .not 4 (Tm 7)), zu 9 (zmv 8), zug 10 (zfa 34 1 0) 9 false false, zug 11 (zld 3 10) 9 false false, zug 12 (.binOp .eql 3 (Tm 11) (Kn 0) 3) 9 false false, zv 13 (.pick (Tm 9) (.const (.bool true)) (Tm 12))]
def zn146_7 := ZC.reg [⟨some 14, .build 34 ⟨[]⟩, none, false⟩, zu0 (.store 34 (Tm 2) (Tm 14)), zv 3 (.assign (.const (.bool false)))]
def zn146_9 := ZC.reg [zu 15 (zfa 34 1 6), zu 16 (zld 3 15), zu 17 (.binOp .add 3 (Tm 16) (Kn 1) 3), zu 18 (zcb .min [Kn 600, Tm 17] [3, 3]), zu 19 (zfa 34 1 6), zv0 (.store 3 (Tm 19) (Tm 18))]
def zn146_11 := ZC.reg [zu 20 (zfa 34 1 2), zu 21 (zld 3 20), zu 22 (zfa 34 1 4), zu 23 (zld 3 22), zu 24 (.binOp .add 3 (Tm 21) (Tm 23) 3), zv 4 (zas 24)]
def zn146_13 := ZC.reg [zu 25 (zfa 34 1 3), zu 26 (zld 3 25), zu 27 (zfa 34 1 5), zu 28 (zld 3 27), zu 29 (.binOp .add 3 (Tm 26) (Tm 28) 3), zv 5 (zas 29)]
def zn146_15 := ZC.reg [zu 30 (zmv 4), zu 31 (zcf 80 [Tm 30, Kn 0, Kn 4095] [3, 3, 3]), zu 32 (zfa 34 1 2), zv0 (.store 3 (Tm 32) (Tm 31))]
def zn146_17 := ZC.reg [zu 33 (zmv 5), zu 34 (zcf 80 [Tm 33, Kn 0, Kn 4095] [3, 3, 3]), zu 35 (zfa 34 1 3), zv0 (.store 3 (Tm 35) (Tm 34))]
def zn146_20 := ZC.reg [zu 36 (zfa 34 1 0), zu 37 (zld 3 36), zv 38 (.binOp .eql 3 (Tm 37) (Kn 2) 3)]
def zn146_24 := ZC.reg [zu 39 (zfa 34 1 2), zu 40 (zld 3 39), zu 41 (zmv 4), zu 42 (.binOp .neq 3 (Tm 40) (Tm 41) 3), zu 43 (zmv 42), zug 44 (zfa 34 1 3) 43 false false, zug 45 (zld 3 44) 43 false false, zug 46 (zmv 5) 43 false false, zug 47 (.binOp .neq 3 (Tm 45) (Tm 46) 3) 43 false false, zu 48 (.pick (Tm 43) (.const (.bool true)) (Tm 47)), zu 49 (zmv 48), zug 50 (zfa 34 1 6) 49 false false, zug 51 (zld 3 50) 49 false false, zug 52 (.binOp .gtr 3 (Tm 51) (Kn 40) 3) 49 false false, zv 53 (.pick (Tm 49) (.const (.bool true)) (Tm 52))]
def zn146_27 := ZC.reg [⟨some 54, .build 34 ⟨[]⟩, none, false⟩, zu0 (.store 34 (Tm 2) (Tm 54)), zv 3 (.assign (.const (.bool false)))]
def zn146_29 := ZC.reg [zu 55 (zld 34 1), zu0 (.store 34 (Tm 2) (Tm 55)), zv 3 (.assign (.const (.bool true)))]
def zn146_32 := ZC.reg [zu 56 (zfa 34 1 2), zu 57 (zld 3 56), zu 58 (zmv 4), zv 59 (.binOp .neq 3 (Tm 57) (Tm 58) 3)]
def zn146_34 := ZC.reg [zu 60 (zfa 34 1 4), zu 61 (zld 3 60), zu 62 (.unOp .neg 3 (Tm 61)), zu 63 (zfa 34 1 4), zv0 (.store 3 (Tm 63) (Tm 62))]
def zn146_37 := ZC.reg [zu 64 (zfa 34 1 3), zu 65 (zld 3 64), zu 66 (zmv 5), zv 67 (.binOp .neq 3 (Tm 65) (Tm 66) 3)]
def zn146_39 := ZC.reg [zu 68 (zfa 34 1 5), zu 69 (zld 3 68), zu 70 (.unOp .neg 3 (Tm 69)), zu 71 (zfa 34 1 5), zv0 (.store 3 (Tm 71) (Tm 70))]
def zn146_41 := ZC.reg [zu 72 (zld 34 1), zu0 (.store 34 (Tm 2) (Tm 72)), zv 3 (.assign (.const (.bool true)))]
def zn146_0 := ZC.seq zn146_1 (ZC.seq (ZC.seq zn146_4 (ZC.cond (Tm 13) (ZC.seq zn146_7 ZC.ret) ZC.skip)) (ZC.seq zn146_9 (ZC.seq zn146_11 (ZC.seq zn146_13 (ZC.seq zn146_15 (ZC.seq zn146_17 (ZC.seq (ZC.seq zn146_20 (ZC.cond (Tm 38) (ZC.seq (ZC.seq zn146_24 (ZC.cond (Tm 53) (ZC.seq zn146_27 ZC.ret) ZC.skip)) (ZC.seq zn146_29 ZC.ret)) ZC.skip)) (ZC.seq (ZC.seq zn146_32 (ZC.cond (Tm 59) zn146_34 ZC.skip)) (ZC.seq (ZC.seq zn146_37 (ZC.cond (Tm 67) zn146_39 ZC.skip)) (ZC.seq zn146_41 ZC.ret))))))))))
def zc146 : ZC := zn146_0
theorem zc146_ok : zcode (xfOf Try.f146).code = some zc146 := by kernel_rfl
def zw146 := zU C zc146.eq_1 <| zU C zn146_1.eq_1 <| zU C zn146_4.eq_1 <| zU C zn146_7.eq_1 <| zU C zn146_9.eq_1 <| zU C zn146_11.eq_1 <| zU C zn146_13.eq_1 <| zU C zn146_15.eq_1 <| zU C zn146_17.eq_1 <| zU C zn146_20.eq_1 <| zU C zn146_24.eq_1 <| zU C zn146_27.eq_1 <| zU C zn146_29.eq_1 <| zU C zn146_32.eq_1 <| zU C zn146_34.eq_1 <| zU C zn146_37.eq_1 <| zU C zn146_39.eq_1 <| zU C zn146_41.eq_1 <| (zunf C zn146_0.eq_1)
theorem rs146 : (xfOf Try.f146).rs = [.cell 2 34, .tmp 3] := by kernel_rfl
def xf146 := zF C 146 Try.f146
def zn147_1 := ZC.reg [zu 2 (.box 34 (Tm 0)), zu 3 (.box 34 (Tm 1)), zv 4 (.assign (.const (.bool false)))]
def zn147_3 := ZC.reg [zu 6 (zfa 34 2 0), zu 7 (zld 3 6), zu 8 (.binOp .eql 3 (Tm 7) (Kn 1) 3), zu 9 (zmv 8), zug 10 (zfa 34 3 0) 9 true false, zug 11 (zld 3 10) 9 true false, zug 12 (.binOp .eql 3 (Tm 11) (Kn 2) 3) 9 true false, zu 13 (.pick (Tm 9) (Tm 12) (.const (.bool false))), zu 14 (zmv 13), zug 15 (zfa 34 2 0) 14 false false, zug 16 (zld 3 15) 14 false false, zug 17 (.binOp .eql 3 (Tm 16) (Kn 2) 3) 14 false false, zug 18 (zmv 17) 14 false false, zug 19 (zfa 34 3 0) 18 true false, zug 20 (zld 3 19) 18 true false, zug 21 (.binOp .eql 3 (Tm 20) (Kn 1) 3) 18 true false, zug 22 (.pick (Tm 18) (Tm 21) (.const (.bool false))) 14 false false, zu 23 (.pick (Tm 14) (.const (.bool true)) (Tm 22)), zv 5 (zas 23)]
def zn147_5 := ZC.reg [zu 24 (zld 34 2), zu 25 (zcf 75 [Tm 24] [34]), zu 26 (zmv 25), zug 27 (zld 34 3) 26 true false, zug 28 (zcf 75 [Tm 27] [34]) 26 true false, zu 29 (.pick (Tm 26) (Tm 28) (.const (.bool false))), zu 30 (zmv 29), zug 31 (zmv 5) 30 true false, zu 32 (.pick (Tm 30) (Tm 31) (.const (.bool false))), zu 33 (zmv 32), zug 34 (zfa 34 2 1) 33 true false, zug 35 (zld 3 34) 33 true false, zug 36 (zfa 34 3 1) 33 true false, zug 37 (zld 3 36) 33 true false, zug 38 (.binOp .neq 3 (Tm 35) (Tm 37) 3) 33 true false, zu 39 (.pick (Tm 33) (Tm 38) (.const (.bool false))), zu 40 (zmv 39), zug 41 (zfa 34 2 2) 40 true false, zug 42 (zld 3 41) 40 true false, zug 43 (zfa 34 3 2) 40 true false, zug 44 (zld 3 43) 40 true false, zug 45 (zcf 180 [Tm 42, Tm 44] [3, 3]) 40 true false, zu 46 (.pick (Tm 40) (Tm 45) (.const (.bool false))), zu 47 (zmv 46), zug 48 (zfa 34 2 3) 47 true false, zug 49 (zld 3 48) 47 true false, zug 50 (zfa 34 3 3) 47 true false, zug 51 (zld 3 50) 47 true false, zug 52 (zcf 180 [Tm 49, Tm 51] [3, 3]) 47 true false, zu 53 (.pick (Tm 47) (Tm 52) (.const (.bool false))), zv 4 (zas 53)]
def zn147_0 := ZC.seq zn147_1 (ZC.seq zn147_3 (ZC.seq zn147_5 ZC.ret))
def zc147 : ZC := zn147_0
theorem zc147_ok : zcode (xfOf Try.f147).code = some zc147 := by kernel_rfl
def zw147 := zU C zc147.eq_1 <| zU C zn147_1.eq_1 <| zU C zn147_3.eq_1 <| zU C zn147_5.eq_1 <| (zunf C zn147_0.eq_1)
theorem rs147 : (xfOf Try.f147).rs = [.tmp 4] := by kernel_rfl
def xf147 := zF C 147 Try.f147
def zn97_1 := ZC.reg [zu 1 (.box 61 (Tm 0)), zv 2 (.assign (.const (.bool false)))]
def zn97_4 := ZC.reg [zv 3 (.assign (Kn 0))]
def zn97_9 := ZC.reg [zu 5 (zmv 3), zu 6 (zfa 61 1 9), zu 7 (zld 24 6), zu 8 (zcb .len [Tm 7] [24]), zv 9 (.binOp .lss 3 (Tm 5) (Tm 8) 3)]
def zn97_15 := ZC.reg [zv 4 (.assign (Kn 0))]
def zn97_20 := ZC.reg [zu 12 (zmv 4), zu 13 (zmv 3), zv 14 (.binOp .lss 3 (Tm 12) (Tm 13) 3)]
def zn97_25 := ZC.draw 11 [] [zdd 0 17 (zfa 61 1 9) false [] [] false, zdd 1 18 (zld 24 17) false [] [] false, zdd 2 19 (zmv 4) false [] [] false, zdd 3 20 (zia 24 18 19) false [] [] false, zdd 4 21 (zld 3 20) false [] [] false, zdd 5 22 (zfa 61 1 9) false [] [] false, zdd 6 23 (zld 24 22) false [] [] false, zdd 7 24 (zmv 3) true [] [] false, zdd 8 25 (zia 24 23 24) true [] [] false, zdd 9 26 (zld 3 25) true [] [] false, zdd 10 27 (.binOp .eql 3 (Tm 21) (Tm 26) 3) true [] [] false]
def zn97_28 := ZC.reg [zv 2 (.assign (.const (.bool false)))]
def zn97_29 := ZC.reg [zu 15 (zmv 4), zu 16 (.binOp .add 3 (Tm 15) (Kn 1) 3), zv 4 (zas 16)]
def V1w := ZC.seq (ZC.seq zn97_20 (ZC.cond (Tm 14) ZC.skip (ZC.exit 2))) (ZC.seq (ZC.block 3 (ZC.seq zn97_25 (ZC.cond (Tm 27) (ZC.seq zn97_28 ZC.ret) ZC.skip))) zn97_29)
def zn97_31 := ZC.reg [zu 28 (zfa 61 1 9), zu 29 (zld 24 28), zu 30 (zmv 3), zu 31 (zia 24 29 30), zu 32 (zld 3 31), zu 33 (zcf 85 [Tm 32, Kn 0, Kn 2147483646] [3, 3, 3]), zv 34 (.unOp .not 4 (Tm 33))]
def zn97_34 := ZC.reg [zv 2 (.assign (.const (.bool false)))]
def zn97_35 := ZC.reg [zu 10 (zmv 3), zu 11 (.binOp .add 3 (Tm 10) (Kn 1) 3), zv 3 (zas 11)]
def zn97_7 := ZC.seq (ZC.seq zn97_9 (ZC.cond (Tm 9) ZC.skip (ZC.exit 0))) (ZC.seq (ZC.block 1 (ZC.seq (ZC.seq zn97_15 (ZC.block 2 (ZC.loop V1w))) (ZC.seq zn97_31 (ZC.cond (Tm 34) (ZC.seq zn97_34 ZC.ret) ZC.skip)))) zn97_35)
def zn97_37 := ZC.reg [zu 35 (zfa 61 1 0), zu 36 (zld 3 35), zu 37 (zcf 85 [Tm 36, Kn 1, Kn 8] [3, 3, 3]), zu 38 (zmv 37), zug 39 (zfa 61 1 9) 38 true false, zug 40 (zld 24 39) 38 true false, zug 41 (zcb .len [Tm 40] [24]) 38 true false, zug 42 (zfa 61 1 0) 38 true false, zug 43 (zld 3 42) 38 true false, zug 44 (.binOp .eql 3 (Tm 41) (Tm 43) 3) 38 true false, zu 45 (.pick (Tm 38) (Tm 44) (.const (.bool false))), zu 46 (zmv 45), zug 47 (zfa 61 1 1) 46 true false, zug 48 (zld 3 47) 46 true false, zug 49 (zcf 85 [Tm 48, Kn 1, Kn 8] [3, 3, 3]) 46 true false, zu 50 (.pick (Tm 46) (Tm 49) (.const (.bool false))), zu 51 (zmv 50), zug 52 (zfa 61 1 2) 51 true false, zug 53 (zld 3 52) 51 true false, zug 54 (zcf 85 [Tm 53, Kn 0, Kn 60] [3, 3, 3]) 51 true false, zu 55 (.pick (Tm 51) (Tm 54) (.const (.bool false))), zu 56 (zmv 55), zug 57 (zfa 61 1 3) 56 true false, zug 58 (zld 3 57) 56 true false, zug 59 (zcf 85 [Tm 58, Kn 0, Kn 100] [3, 3, 3]) 56 true false, zu 60 (.pick (Tm 56) (Tm 59) (.const (.bool false))), zu 61 (zmv 60), zug 62 (zfa 61 1 4) 61 true false, zug 63 (zld 3 62) 61 true false, zug 64 (zcf 85 [Tm 63, Kn 1, Kn 600] [3, 3, 3]) 61 true false, zu 65 (.pick (Tm 61) (Tm 64) (.const (.bool false))), zu 66 (zmv 65), zug 67 (zfa 61 1 5) 66 true false, zug 68 (zld 3 67) 66 true false, zug 69 (zcf 85 [Tm 68, Kn 0, Kn 2147483647] [3, 3, 3]) 66 true false, zu 70 (.pick (Tm 66) (Tm 69) (.const (.bool false))), zu 71 (zmv 70), zug 72 (zfa 61 1 6) 71 true false, zug 73 (zld 59 72) 71 true false, zug 74 (zfa 61 1 7) 71 true false, zug 75 (zld 59 74) 71 true false, zug 76 (zcf 162 [Tm 73, Tm 75] [59, 59]) 71 true false, zu 77 (.pick (Tm 71) (Tm 76) (.const (.bool false))), zu 78 (zmv 77), zug 79 (zfa 61 1 8) 78 true false, zug 80 (zld 23 79) 78 true false, zug 81 (zcf 30 [Tm 80] [23]) 78 true false, zu 82 (.pick (Tm 78) (Tm 81) (.const (.bool false))), zv 2 (zas 82)]
def zn97_0 := ZC.seq zn97_1 (ZC.seq (ZC.seq zn97_4 (ZC.block 0 (ZC.loop zn97_7))) (ZC.seq zn97_37 ZC.ret))
def zc97 : ZC := zn97_0
theorem zc97_ok : zcode (xfOf Try.f97).code = some zc97 := by kernel_rfl
def zw97 := zU C zc97.eq_1 <| zU C zn97_1.eq_1 <| zU C zn97_4.eq_1 <| zU C zn97_9.eq_1 <| zU C zn97_15.eq_1 <| zU C zn97_20.eq_1 <| zU C zn97_25.eq_1 <| zU C zn97_28.eq_1 <| zU C zn97_29.eq_1 <| zU C V1w.eq_1 <| zU C zn97_31.eq_1 <| zU C zn97_34.eq_1 <| zU C zn97_35.eq_1 <| zU C zn97_7.eq_1 <| zU C zn97_37.eq_1 <| (zunf C zn97_0.eq_1)
theorem rs97 : (xfOf Try.f97).rs = [.tmp 2] := by kernel_rfl
def xf97 := zF C 97 Try.f97
def zn66_1 := ZC.reg [zu 1 (.box 61 (Tm 0)), zv 2 (.alloc 66)]
def zn66_3 := ZC.reg [zv 3 (.alloc 66)]
def zn66_6 := ZC.reg [zu 5 (zld 61 1), zu 6 (zcf 97 [Tm 5] [61]), zv 7 (.unOp .not 4 (Tm 6))]
def zn66_9 := ZC.reg [zu 8 (zld 66 3), zv0 (.store 66 (Tm 2) (Tm 8))]
def zn66_11 := ZC.reg [zu 9 (zfa 61 1 5), zu 10 (zld 3 9), zu 11 (zcf 141 [Tm 10] [3]), zu 12 (zfa 66 3 1), zv0 (.store 25 (Tm 12) (Tm 11))]
def zn66_14 := ZC.reg [zv 4 (.assign (Kn 0))]
def zn66_19 := ZC.reg [zu 13 (zmv 4), zu 14 (zfa 61 1 0), zu 15 (zld 3 14), zv 16 (.binOp .lss 3 (Tm 13) (Tm 15) 3)]
def zn66_23 := ZC.reg [zu 19 (zmv 4), zu 20 (zmv 4), zu 21 (zfa 61 1 0), zu 22 (zld 3 21), zu 23 (zcf 142 [Tm 20, Tm 22] [3, 3]), zu 24 (zfa 66 3 2), zu 25 (zia 63 24 19), zv0 (.store 34 (Tm 25) (Tm 23))]
def zn66_24 := ZC.reg [zu 17 (zmv 4), zu 18 (.binOp .add 3 (Tm 17) (Kn 1) 3), zv 4 (zas 18)]
def Q16 := ZC.seq (ZC.seq zn66_19 (ZC.cond (Tm 16) ZC.skip (ZC.exit 0))) (ZC.seq (ZC.block 1 zn66_23) zn66_24)
def zn66_26 := ZC.reg [zu 26 (zld 66 3), zv0 (.store 66 (Tm 2) (Tm 26))]
def zn66_0 := ZC.seq zn66_1 (ZC.seq zn66_3 (ZC.seq (ZC.seq zn66_6 (ZC.cond (Tm 7) (ZC.seq zn66_9 ZC.ret) ZC.skip)) (ZC.seq zn66_11 (ZC.seq (ZC.seq zn66_14 (ZC.block 0 (ZC.loop Q16))) (ZC.seq zn66_26 ZC.ret)))))
def zc66 : ZC := zn66_0
theorem zc66_ok : zcode (xfOf Try.f66).code = some zc66 := by kernel_rfl
def zw66 := zU C zc66.eq_1 <| zU C zn66_1.eq_1 <| zU C zn66_3.eq_1 <| zU C zn66_6.eq_1 <| zU C zn66_9.eq_1 <| zU C zn66_11.eq_1 <| zU C zn66_14.eq_1 <| zU C zn66_19.eq_1 <| zU C zn66_23.eq_1 <| zU C zn66_24.eq_1 <| zU C Q16.eq_1 <| zU C zn66_26.eq_1 <| (zunf C zn66_0.eq_1)
theorem rs66 : (xfOf Try.f66).rs = [.cell 2 66] := by kernel_rfl
def xf66 := zF C 66 Try.f66
def zn38_1 := ZC.reg [zu 2 (.box 61 (Tm 0)), zu 3 (.box 66 (Tm 1)), zv 4 (.assign (.const (.bool false)))]
def zn38_4 := ZC.reg [zu 8 (zld 61 2), zu 9 (zcf 97 [Tm 8] [61]), zu 10 (.unOp .not 4 (Tm 9)), zu 11 (zmv 10), zug 12 (zfa 66 3 0) 11 false false, zug 13 (zld 3 12) 11 false false, zug 14 (zcf 85 [Tm 13, Kn 0, Kn 600] [3, 3, 3]) 11 false false, zug 15 (.unOp .not 4 (Tm 14)) 11 false false, zv 16 (.pick (Tm 11) (.const (.bool true)) (Tm 15))]
def zn38_7 := ZC.reg [zv 4 (.assign (.const (.bool false)))]
def zn38_10 := ZC.reg [zv 5 (.assign (Kn 0))]
def zn38_15 := ZC.reg [zu 17 (zmv 5), zv 18 (.binOp .lss 3 (Tm 17) (Kn 16) 3)]
def zn38_20 := ZC.reg [zu 21 (zmv 5), zu 22 (zfa 66 3 2), zu 23 (zia 63 22 21), zu 24 (zld 34 23), zu 6 (.alloc 34), zv0 (.store 34 (Tm 6) (Tm 24))]
def zn38_22 := ZC.reg [zu 25 (zld 34 6), zu 26 (zcf 75 [Tm 25] [34]), zu 27 (.unOp .not 4 (Tm 26)), zu 28 (zmv 27), zug 29 (zfa 34 6 0) 28 false false, zug 30 (zld 3 29) 28 false false, zug 31 (.binOp .neq 3 (Tm 30) (Kn 0) 3) 28 false false, zug 32 (zmv 31) 28 false false, zug 33 (zfa 34 6 1) 32 true false, zug 34 (zld 3 33) 32 true false, zug 35 (zfa 61 2 0) 32 true false, zug 36 (zld 3 35) 32 true false, zug 37 (.binOp .geq 3 (Tm 34) (Tm 36) 3) 32 true false, zug 38 (.pick (Tm 32) (Tm 37) (.const (.bool false))) 28 false false, zu 39 (.pick (Tm 28) (.const (.bool true)) (Tm 38)), zu 40 (zmv 39), zug 41 (zfa 34 6 0) 40 false false, zug 42 (zld 3 41) 40 false false, zug 43 (.binOp .eql 3 (Tm 42) (Kn 1) 3) 40 false false, zug 44 (zmv 5) 40 false false, zug 45 (zfa 61 2 0) 40 false false, zug 46 (zld 3 45) 40 false false, zug 47 (.binOp .lss 3 (Tm 44) (Tm 46) 3) 40 false false, zug 48 (.binOp .neq 4 (Tm 43) (Tm 47) 4) 40 false false, zu 49 (.pick (Tm 40) (.const (.bool true)) (Tm 48)), zu 50 (zmv 49), zug 51 (zmv 5) 50 false false, zug 52 (zfa 61 2 0) 50 false false, zug 53 (zld 3 52) 50 false false, zug 54 (.binOp .lss 3 (Tm 51) (Tm 53) 3) 50 false false, zug 55 (zmv 54) 50 false false, zug 56 (zfa 34 6 1) 55 true false, zug 57 (zld 3 56) 55 true false, zug 58 (zmv 5) 55 true false, zug 59 (.binOp .neq 3 (Tm 57) (Tm 58) 3) 55 true false, zug 60 (.pick (Tm 55) (Tm 59) (.const (.bool false))) 50 false false, zv 61 (.pick (Tm 50) (.const (.bool true)) (Tm 60))]
def zn38_25 := ZC.reg [zv 4 (.assign (.const (.bool false)))]
def zn38_26 := ZC.reg [zu 19 (zmv 5), zu 20 (.binOp .add 3 (Tm 19) (Kn 1) 3), zv 5 (zas 20)]
def Y15 := ZC.seq (ZC.seq zn38_15 (ZC.cond (Tm 18) ZC.skip (ZC.exit 0))) (ZC.seq (ZC.block 1 (ZC.seq zn38_20 (ZC.seq zn38_22 (ZC.cond (Tm 61) (ZC.seq zn38_25 ZC.ret) ZC.skip)))) zn38_26)
def zn38_29 := ZC.reg [zv 7 (.assign (Kn 0))]
def zn38_34 := ZC.reg [zu 62 (zmv 7), zv 63 (.binOp .lss 3 (Tm 62) (Kn 8) 3)]
def zn38_39 := ZC.reg [zu 66 (zmv 7), zu 67 (zfa 66 3 3), zu 68 (zia 64 67 66), zu 69 (zld 3 68), zu 70 (zcf 85 [Tm 69, Kn 0, Kn 2147483647] [3, 3, 3]), zu 71 (.unOp .not 4 (Tm 70)), zu 72 (zmv 71), zug 73 (zmv 7) 72 false false, zug 74 (zfa 61 2 0) 72 false false, zug 75 (zld 3 74) 72 false false, zug 76 (.binOp .geq 3 (Tm 73) (Tm 75) 3) 72 false false, zug 77 (zmv 76) 72 false false, zug 78 (zmv 7) 77 true false, zug 79 (zfa 66 3 3) 77 true false, zug 80 (zia 64 79 78) 77 true false, zug 81 (zld 3 80) 77 true false, zug 82 (.binOp .neq 3 (Tm 81) (Kn 0) 3) 77 true false, zug 83 (.pick (Tm 77) (Tm 82) (.const (.bool false))) 72 false false, zv 84 (.pick (Tm 72) (.const (.bool true)) (Tm 83))]
def zn38_42 := ZC.reg [zv 4 (.assign (.const (.bool false)))]
def zn38_43 := ZC.reg [zu 64 (zmv 7), zu 65 (.binOp .add 3 (Tm 64) (Kn 1) 3), zv 7 (zas 65)]
def Q11 := ZC.seq (ZC.seq zn38_34 (ZC.cond (Tm 63) ZC.skip (ZC.exit 2))) (ZC.seq (ZC.block 3 (ZC.seq zn38_39 (ZC.cond (Tm 84) (ZC.seq zn38_42 ZC.ret) ZC.skip))) zn38_43)
def zn38_45 := ZC.reg [zv 4 (.assign (.const (.bool true)))]
def zn38_0 := ZC.seq zn38_1 (ZC.seq (ZC.seq zn38_4 (ZC.cond (Tm 16) (ZC.seq zn38_7 ZC.ret) ZC.skip)) (ZC.seq (ZC.seq zn38_10 (ZC.block 0 (ZC.loop Y15))) (ZC.seq (ZC.seq zn38_29 (ZC.block 2 (ZC.loop Q11))) (ZC.seq zn38_45 ZC.ret))))
def zc38 : ZC := zn38_0
theorem zc38_ok : zcode (xfOf Try.f38).code = some zc38 := by kernel_rfl
def zw38 := zU C zc38.eq_1 <| zU C zn38_1.eq_1 <| zU C zn38_4.eq_1 <| zU C zn38_7.eq_1 <| zU C zn38_10.eq_1 <| zU C zn38_15.eq_1 <| zU C zn38_20.eq_1 <| zU C zn38_22.eq_1 <| zU C zn38_25.eq_1 <| zU C zn38_26.eq_1 <| zU C Y15.eq_1 <| zU C zn38_29.eq_1 <| zU C zn38_34.eq_1 <| zU C zn38_39.eq_1 <| zU C zn38_42.eq_1 <| zU C zn38_43.eq_1 <| zU C Q11.eq_1 <| zU C zn38_45.eq_1 <| (zunf C zn38_0.eq_1)
theorem rs38 : (xfOf Try.f38).rs = [.tmp 4] := by kernel_rfl
def xf38 := zF C 38 Try.f38
end Go.Proofs.Ytpchcfkebljopaa
end
section
namespace Go.Proofs.Ytpchcfkebljopaa
open Go.Cl Go Go.RowKit
set_option linter.constructorNameAsVariable false
def bucketR (r d : Nat) : Bool := (f64.order r 0 == some .gt || f64.order r 0 == some .eq) && (f64.order r 9218868437227405311 == some .lt || f64.order r 9218868437227405311 == some .eq) && (f64.order d 4607182418800017408 == some .gt || f64.order d 4607182418800017408 == some .eq) && (f64.order d 4652007308841189376 == some .lt || f64.order d 4652007308841189376 == some .eq)
theorem absF_mod (n : Nat) : absF n = n % 2 ^ 63 := by
 unfold absF
 have h : (BitVec.ofInt IntKind.u64.bits (n : Int) &&& ~~~BitVec.ofInt IntKind.u64.bits (9223372036854775808 : Int)).toNat = n % 2 ^ 63 := by
  show (BitVec.ofInt 64 (n : Int) &&& ~~~BitVec.ofInt 64 (9223372036854775808 : Int)).toNat = n % 2 ^ 63
  have e : (~~~BitVec.ofInt 64 (9223372036854775808 : Int)) = BitVec.ofNat 64 (2 ^ 63 - 1) := by decide
  rw [e, BitVec.toNat_and]
  have e1 : (BitVec.ofInt 64 (n : Int)).toNat = n % 2 ^ 64 := by simp
  rw [e1]
  have e2 : (BitVec.ofNat 64 (2 ^ 63 - 1)).toNat = 2 ^ 63 - 1 := by decide
  rw [e2, Nat.and_two_pow_sub_one_eq_mod]
  omega
 rw [h]
 have h2 : n % 2 ^ 63 < 2 ^ 63 := Nat.mod_lt _ (by decide)
 have e3 : IntKind.u64.wrap ((n % 2 ^ 63 : Nat) : Int) = ((n % 2 ^ 63 : Nat) : Int) := by
  generalize n % 2 ^ 63 = m at h2
  show ((m : Int) % 2 ^ 64 : Int) = m
  omega
 rw [e3, Int.toNat_natCast]
theorem X00 {x : Nat} {s : Bool} {m : Nat} {i : Int} (h : f64.read x = .number s m i) : m < 2 ^ 53 /\ -1074 <= i /\ i <= 971 := by
 have e1 : f64.binade = 2 ^ 52 := rfl
 have e2 : f64.infRung = 2047 * 2 ^ 52 := rfl
 have e3 : f64.leastPlace = -1074 := rfl
 unfold Ieee.Format.read at h
 simp only [e1, e2, e3] at h
 generalize x % f64.signWeight = r at h
 split at h
 ·simp only [Ieee.Datum.number.injEq] at h; omega
 ·split at h
  ·simp only [Ieee.Datum.number.injEq] at h; omega
  ·split at h <;> cases h
theorem read_max : f64.read 9218868437227405311 = .number false (2 ^ 53 - 1) 971 := by decide
theorem Y1y {s : Bool} {m : Nat} {i : Int} (hm : m < 2 ^ 53) (hi : i <= 971) : Ieee.Datum.order (.number s m i) (.number false (2 ^ 53 - 1) 971) ≠ some .gt := by
 have e : min i 971 = i := by omega
 simp only [Ieee.Datum.order, e, ne_eq, Option.some.injEq]
 have hle : Ieee.signed s m (i - i).toNat <= Ieee.signed false (2 ^ 53 - 1) (971 - i).toNat := by
  have e0 : (i - i).toNat = 0 := by omega
  rw [e0]
  unfold Ieee.signed
  simp only [Nat.shiftLeft_eq, Nat.pow_zero, Nat.mul_one, Bool.false_eq_true, if_false]
  have hp : 1 <= 2 ^ (971 - i).toNat := Nat.one_le_two_pow
  have hk : 2 ^ 53 - 1 <= (2 ^ 53 - 1) * 2 ^ (971 - i).toNat := Nat.le_mul_of_pos_right _ hp
  split <;> omega
 intro hc
 have := Int.compare_eq_gt.1 hc
 omega
theorem read_abs (n : Nat) : f64.read (absF n) = match f64.read n with | .number _ m i => .number false m i | .infinity _ => .infinity false | .nan _ t => .nan false t := by
 rw [absF_mod]
 have e1 : f64.signWeight = 2 ^ 63 := rfl
 unfold Ieee.Format.read
 simp only [e1, Nat.mod_mod]
 have e4 : ((n % 2 ^ 63) / 2 ^ 63 % 2 == 1) = false := by
  rw [Nat.div_eq_of_lt (Nat.mod_lt _ (by decide))]; rfl
 rw [e4]
 generalize n % 2 ^ 63 = r
 by_cases h1 : r < f64.binade
 ·rw [if_pos h1, if_pos h1]
 ·rw [if_neg h1, if_neg h1]
  by_cases h2 : r < f64.infRung
  ·rw [if_pos h2, if_pos h2]
  ·rw [if_neg h2, if_neg h2]
   by_cases h3 : r = f64.infRung
   ·rw [if_pos h3, if_pos h3]
   ·rw [if_neg h3, if_neg h3]
theorem order_self (s : Bool) (m : Nat) (i : Int) : Ieee.Datum.order (.number s m i) (.number s m i) = some .eq := by
 simp only [Ieee.Datum.order, Option.some.injEq]
 exact Int.compare_eq_eq.2 rfl
theorem K0s (s : Bool) (m : Nat) (i : Int) (t : Bool) (n : Nat) (j : Int) : ∃ o, Ieee.Datum.order (.number s m i) (.number t n j) = some o := ⟨_, rfl⟩
theorem bucketR_eq (r d : Nat) : bucketR r d = bucketOk r d := by
 have c0 : f64.read 0 = .number false 0 (-1074) := by decide
 have c1 : f64.read 4607182418800017408 = .number false (2 ^ 52) (-52) := by decide
 have c2 : ∃ m i, f64.read 4652007308841189376 = .number false m i := ⟨_, _, rfl⟩
 obtain ⟨m2, i2, c2⟩ := c2
 have cm := read_max
 have ha := read_abs r
 have hb := read_abs d
 have hr := @Y1y
 unfold bucketR bucketOk oddF nanF infF
 simp only [Ieee.Format.order, c0, c1, c2, cm, ha, hb]
 cases hR : f64.read r with
 | nan s t => simp [Ieee.Datum.order]
 | infinity s => cases s <;> simp [Ieee.Datum.order]
 | number s m i =>
  have nr := Y1y (s := s) (X00 hR).1 (X00 hR).2.2
  have nr2 := Y1y (s := false) (X00 hR).1 (X00 hR).2.2
  cases hD : f64.read d with
  | nan s t => simp [Ieee.Datum.order]
  | infinity s => cases s <;> simp [Ieee.Datum.order]
  | number s' m' i' =>
   have nd := Y1y (s := false) (X00 hD).1 (X00 hD).2.2
   simp only [order_self]
   obtain ⟨o1, h1⟩ := K0s s m i false 0 (-1074)
   obtain ⟨o2, h2⟩ := K0s s m i false (2 ^ 53 - 1) 971
   obtain ⟨o3, h3⟩ := K0s false m i false (2 ^ 53 - 1) 971
   obtain ⟨o4, h4⟩ := K0s s' m' i' false (2 ^ 52) (-52)
   obtain ⟨o5, h5⟩ := K0s s' m' i' false m2 i2
   obtain ⟨o6, h6⟩ := K0s false m' i' false (2 ^ 53 - 1) 971
   rw [h2] at nr
   rw [h3] at nr2
   rw [h6] at nd
   rw [h1, h2, h3, h4, h5, h6]
   clear h1 h2 h3 h4 h5 h6
   cases o1 <;> cases o2 <;> first | (exact absurd rfl nr) | (cases o3 <;> first | (exact absurd rfl nr2) | (cases o6 <;> first | (exact absurd rfl nd) | (cases o4 <;> cases o5 <;> rfl)))
end Go.Proofs.Ytpchcfkebljopaa
end
section
namespace Go.Proofs.Ytpchcfkebljopaa
open Go.Cl Go Go.RowKit
set_option maxRecDepth 100000
set_option linter.constructorNameAsVariable false
theorem K1f (x y : Int) : within (y - x) (-32) 32 = within (x - y) (-32) 32 := by
 unfold within
 have h1 : (-32 <= y - x) = (x - y <= 32) := by apply propext; omega
 have h2 : (y - x <= 32) = (-32 <= x - y) := by apply propext; omega
 simp only [h1, h2, Bool.and_comm]
theorem within_b (n : Int) : within n 0 4095 = decide (brought n 0 4095 = n) := by
 unfold within brought
 by_cases h : 0 <= n /\ n <= 4095
 ·rw [decide_eq_true h.1, decide_eq_true h.2, decide_eq_true (by omega)]; rfl
 ·rw [decide_eq_false (show ¬ (_ = n) by omega)]
  by_cases h0 : 0 <= n
  ·rw [decide_eq_true h0, decide_eq_false (show ¬ n <= 4095 by omega)]; rfl
  ·rw [decide_eq_false h0]; rfl
def J145 (s : K0a) (p : Hp) (n : Nat) (ρ : Env) (q : Hp) : Prop :=
 ∃ (k : Nat), n = 16 - k /\ k <= 16 /\ ρ 1 = .ptr p.n [] /\ ρ 3 = I (freeN (s.Bodies.take k)) /\ ρ 4 = I k /\ q.t.get p.n = some (.var sh66 s.cv) /\ freeN (s.Bodies.take k) <= k /\ p.n < q.n /\ HpLe p q
def R141 : Rel := fun args p r => ∃ (n : Int), args = [I n] /\ r = .ret (U (seedOf n)) p
theorem t141 {T : XCall} (h : Has T 141 R141) (n : Int) {p : Hp}  : T 141 [I n] p = .ret (U (seedOf n)) p := h _ _ _ ⟨n, rfl, rfl⟩
theorem zq141 {A B : Prop} (k : B) (h : A = B := by have zy := zA @zw141 <| zA @rs141 <| zA @tt3 <| zA @tt25 <| zA ti3.eq_1 <| ti25.eq_1; exact zQ) : A := h ▸ k
theorem zno141 {P : Prop} (h : P := by intro jj; simp [CV.has, CV.hasL, fault, X0b.nohas]) : P := h
theorem c141 : Con C 141 R141 := by
 refine Q0e C ?_ ?_ ?_
 ·rintro args p r r' ⟨n, h, e⟩ ⟨n', h', e'⟩
  subst e; subst e'; simp_all
 ·rintro args p r ⟨n, h, rfl⟩; exact zr1
 rintro args p r ⟨n, rfl, rfl⟩
 refine zW C false [] zT rfl xf141 zc141_ok fun call zh hF => ?_
 clear zh
 (have zx := zT; refine zq141 ?_; try exact zT)
 repeat' (apply zK.s <;> intro hc <;> (try simp only [zhd] at hc) <;> (try have hw := V0a hc) <;> (refine zq141 ?_; try exact zT))
 all_goals (try clear zx)
 exact V0d hF zle (X0c rfl (K0d zno141))
def R142 : Rel := fun args p r => ∃ (o k : Int), args = [I o, I k] /\ r = .ret (bodyBorn o k).cv p
theorem t142 {T : XCall} (h : Has T 142 R142) (o k : Int) {p : Hp}  : T 142 [I o, I k] p = .ret (bodyBorn o k).cv p := h _ _ _ ⟨o, k, rfl, rfl⟩
theorem zq142 {A B : Prop} (k : B) (h : A = B := by have zy := zA @zw142 <| zA @rs142 <| zA @tt3 <| zA @tt34 <| zA ti3.eq_1 <| zA ti34.eq_1 <| zA @t_80 <| @Z0e; exact zQ) : A := h ▸ k
theorem zno142 {P : Prop} (h : P := by intro jj; simp [CV.has, CV.hasL, fault, X0b.nohas, Q0a.nohas]) : P := h
theorem c142 : Con C 142 R142 := by
 refine Q0e C ?_ ?_ ?_
 ·rintro args p r r' ⟨o, k, h, e⟩ ⟨o', k', h', e'⟩
  subst e; subst e'; simp_all [Q0a.inj_iff]
 ·rintro args p r ⟨o, k, h, rfl⟩; exact zr1
 rintro args p r ⟨o, k, rfl, rfl⟩
 refine zW C false [(80, R80)] ⟨c80, zT⟩ rfl xf142 zc142_ok fun call zh hF => ?_
 have t_80 := @t80 _ zh.1
 clear zh
 have k1 := V0f (n := k) (lo := 1) (hi := 8) (by omega)
 have k2 := V0f (n := o) (lo := 0) (hi := brought k 1 8 - 1) (by omega)
 (have zx := zT; refine zq142 ?_; try exact zT)
 repeat' (apply zK.s <;> intro hc <;> (try simp only [zhd] at hc) <;> (try have hw := V0a hc) <;> (refine zq142 ?_; try exact zT))
 all_goals (try clear zx)
 refine V0d hF zle (X0c ?_ (K0d zno142))
 rfl
def R144 : Rel := fun args p r => ∃ (b : Q0a) (x y : Int), args = [b.cv, I x, I y] /\ r = .ret (bodyPush b x y).cv p
theorem t144 {T : XCall} (h : Has T 144 R144) (b : Q0a) (x y : Int) {p : Hp}  : T 144 [b.cv, I x, I y] p = .ret (bodyPush b x y).cv p := h _ _ _ ⟨b, x, y, rfl, rfl⟩
theorem zq144 {A B : Prop} (k : B) (h : A = B := by have zy := zA @zw144 <| zA @rs144 <| zA @tt3 <| zA @tt34 <| zA ti3.eq_1 <| zA ti34.eq_1 <| zA @t_75 <| zA @t_80 <| @Z0e; exact zQ) : A := h ▸ k
theorem zno144 {P : Prop} (h : P := by intro jj; simp [CV.has, CV.hasL, fault, X0b.nohas, Q0a.nohas]) : P := h
theorem c144 : Con C 144 R144 := by
 refine Q0e C ?_ ?_ ?_
 ·rintro args p r r' ⟨b, x, y, h, e⟩ ⟨b', x', y', h', e'⟩
  subst e; subst e'; simp_all [Q0a.inj_iff]
 ·rintro args p r ⟨b, x, y, h, rfl⟩; exact zr1
 rintro args p r ⟨b, x, y, rfl, rfl⟩
 refine zW C false [(75, R75), (80, R80)] ⟨c75, c80, zT⟩ rfl xf144 zc144_ok fun call zh hF => ?_
 have t_75 := @t75 _ zh.1
 have t_80 := @t80 _ zh.2.1
 clear zh
 have k1 := V0f (n := x) (lo := -1000) (hi := 1000) (by omega)
 have k2 := V0f (n := y) (lo := -1000) (hi := 1000) (by omega)
 by_cases hb : Body.right b = true
 ·by_cases hk : b.Kind = 0
  ·(have zx := zA hb hk; refine zq144 ?_; try exact zT)
   repeat' (apply zK.s <;> intro hc <;> (try simp only [zhd] at hc) <;> (try have hw := V0a hc) <;> (refine zq144 ?_; try exact zT))
   all_goals (try clear zx)
   refine V0d hF zle (X0c ?_ (K0d zno144))
   simp [bodyPush, hb, hk]; rfl
  ·have hr := Y0j hb hk
   (have zx := zA hb hk; refine zq144 ?_; try exact zT)
   repeat' (apply zK.s <;> intro hc <;> (try simp only [zhd] at hc) <;> (try have hw := V0a hc) <;> (refine zq144 ?_; try exact zT))
   all_goals (try clear zx)
   refine V0d hF zle (X0c ?_ (K0d zno144))
   simp [bodyPush, hb, hk]
 ·(have zx := hb; refine zq144 ?_; try exact zT)
  repeat' (apply zK.s <;> intro hc <;> (try simp only [zhd] at hc) <;> (try have hw := V0a hc) <;> (refine zq144 ?_; try exact zT))
  all_goals (try clear zx)
  refine V0d hF zle (X0c ?_ (K0d zno144))
  simp [bodyPush, hb]; rfl
def R146 : Rel := fun args p r => ∃ (b : Q0a), args = [b.cv] /\ r = .ret (.tup [(bodyMove b).1.cv, Bo (bodyMove b).2]) p
theorem t146 {T : XCall} (h : Has T 146 R146) (b : Q0a) {p : Hp}  : T 146 [b.cv] p = .ret (.tup [(bodyMove b).1.cv, Bo (bodyMove b).2]) p := h _ _ _ ⟨b, rfl, rfl⟩
theorem zq146 {A B : Prop} (k : B) (h : A = B := by have zy := zA @zw146 <| zA @rs146 <| zA @tt3 <| zA @tt34 <| zA ti3.eq_1 <| zA ti34.eq_1 <| zA @t_75 <| zA @t_80 <| @Z0e; exact zQ) : A := h ▸ k
theorem zno146 {P : Prop} (h : P := by intro jj; simp [CV.has, CV.hasL, fault, X0b.nohas, Q0a.nohas]) : P := h
theorem c146 : Con C 146 R146 := by
 refine Q0e C ?_ ?_ ?_
 ·rintro args p r r' ⟨b, h, e⟩ ⟨b', h', e'⟩
  subst e; subst e'; simp_all [Q0a.inj_iff]
 ·rintro args p r ⟨b, h, rfl⟩; exact zr1
 rintro args p r ⟨b, rfl, rfl⟩
 refine zW C false [(75, R75), (80, R80)] ⟨c75, c80, zT⟩ rfl xf146 zc146_ok fun call zh hF => ?_
 have t_75 := @t75 _ zh.1
 have t_80 := @t80 _ zh.2.1
 clear zh
 by_cases hb : Body.right b = true
 ·by_cases hk : b.Kind = 0
  ·(have zx := zA hb hk; refine zq146 ?_; try exact zT)
   repeat' (apply zK.s <;> intro hc <;> (try simp only [zhd] at hc) <;> (try have hw := V0a hc) <;> (refine zq146 ?_; try exact zT))
   all_goals (try clear zx)
   refine V0d hF zle (X0c ?_ (K0d zno146))
   simp [bodyMove, hb, hk]; rfl
  ·have hr := Y0j hb hk
   have hmm : min 600 (b.Age + 1) = min (b.Age + 1) 600 := by omega
   have wX := within_b (b.X + b.VX)
   have wY := within_b (b.Y + b.VY)
   by_cases hk2 : b.Kind = 2
   ·have hk1 : ¬ b.Kind = 1 := by omega
    (have zx := zA hb (zA hk (zA hk2 hmm)); refine zq146 ?_; try exact zT)
    repeat' (apply zK.s <;> intro hc <;> (try simp only [zhd] at hc) <;> (try have hw := V0a hc) <;> (refine zq146 ?_; try exact zT))
    all_goals (try clear zx)
    all_goals refine V0d hF zle (X0c ?_ (K0d zno146))
    all_goals first | (simp [bodyMove, bounce, hb, hk, *]; done) | (simp [bodyMove, bounce, hb, hk, *]; rfl)
   ·have hk1 : b.Kind = 1 := by omega
    have nX : w64 (-b.VX) = -b.VX := K0w (by omega) (by omega)
    have nY : w64 (-b.VY) = -b.VY := K0w (by omega) (by omega)
    (have zx := zA hb (zA hk (zA hk2 (zA hk1 hmm))); refine zq146 ?_; try exact zT)
    repeat' (apply zK.s <;> intro hc <;> (try simp only [zhd] at hc) <;> (try have hw := V0a hc) <;> (refine zq146 ?_; try exact zT))
    all_goals (try clear zx)
    all_goals refine V0d hF zle (X0c ?_ (K0d zno146))
    all_goals first | (simp [bodyMove, bounce, hb, hk, *]; done) | (simp [bodyMove, bounce, hb, hk, *]; rfl)
 ·(have zx := hb; refine zq146 ?_; try exact zT)
  repeat' (apply zK.s <;> intro hc <;> (try simp only [zhd] at hc) <;> (try have hw := V0a hc) <;> (refine zq146 ?_; try exact zT))
  all_goals (try clear zx)
  refine V0d hF zle (X0c ?_ (K0d zno146))
  simp [bodyMove, hb]; rfl
def R180 : Rel := fun args p r => ∃ (a b : Int), args = [I a, I b] /\ (0 <= a /\ a <= 4095) /\ (0 <= b /\ b <= 4095) /\ r = .ret (Bo (within (a - b) (-32) 32)) p
theorem t180 {T : XCall} (h : Has T 180 R180) (a b : Int) {p : Hp} (h1 : 0 <= a /\ a <= 4095) (h2 : 0 <= b /\ b <= 4095) : T 180 [I a, I b] p = .ret (Bo (within (a - b) (-32) 32)) p := h _ _ _ ⟨a, b, rfl, h1, h2, rfl⟩
theorem zq180 {A B : Prop} (k : B) (h : A = B := by have zy := zA @zw180 <| zA @rs180 <| zA @tt3 <| zA ti3.eq_1 <| zA @h1 <| @h2; exact zQ) : A := h ▸ k
theorem zno180 {P : Prop} (h : P := by intro jj; simp [CV.has, CV.hasL, fault, X0b.nohas]) : P := h
theorem c180 : Con C 180 R180 := by
 refine Q0e C ?_ ?_ ?_
 ·rintro args p r r' ⟨a, b, h, h1, h2, e⟩ ⟨a', b', h', h1', h2', e'⟩
  subst e; subst e'; simp_all
 ·rintro args p r ⟨a, b, h, h1, h2, rfl⟩; exact zr1
 rintro args p r ⟨a, b, rfl, h1, h2, rfl⟩
 refine zW C false [] zT rfl xf180 zc180_ok fun call zh hF => ?_
 clear zh
 by_cases g1 : a - b <= 32
 ·by_cases g2 : b - a <= 32
  ·have hw : within (a - b) (-32) 32 = true := by simp [within]; omega
   (have zx := zA g1 g2; refine zq180 ?_; try exact zT)
   repeat' (apply zK.s <;> intro hc <;> (try simp only [zhd] at hc) <;> (try have hw := V0a hc) <;> (refine zq180 ?_; try exact zT))
   all_goals (try clear zx)
   exact V0d hF zle (X0c (by rw [hw]) (K0d zno180))
  ·have hw : within (a - b) (-32) 32 = false := by simp [within]; omega
   (have zx := zA g1 g2; refine zq180 ?_; try exact zT)
   repeat' (apply zK.s <;> intro hc <;> (try simp only [zhd] at hc) <;> (try have hw := V0a hc) <;> (refine zq180 ?_; try exact zT))
   all_goals (try clear zx)
   exact V0d hF zle (X0c (by rw [hw]) (K0d zno180))
 ·have hw : within (a - b) (-32) 32 = false := by simp [within]; omega
  (have zx := g1; refine zq180 ?_; try exact zT)
  repeat' (apply zK.s <;> intro hc <;> (try simp only [zhd] at hc) <;> (try have hw := V0a hc) <;> (refine zq180 ?_; try exact zT))
  all_goals (try clear zx)
  exact V0d hF zle (X0c (by rw [hw]) (K0d zno180))
def R147 : Rel := fun args p r => ∃ (a b : Q0a), args = [a.cv, b.cv] /\ r = .ret (Bo (bodyHit a b)) p
theorem t147 {T : XCall} (h : Has T 147 R147) (a b : Q0a) {p : Hp}  : T 147 [a.cv, b.cv] p = .ret (Bo (bodyHit a b)) p := h _ _ _ ⟨a, b, rfl, rfl⟩
theorem zq147 {A B : Prop} (k : B) (h : A = B := by have zy := zA @zw147 <| zA @rs147 <| zA @tt3 <| zA @tt34 <| zA ti3.eq_1 <| zA ti34.eq_1 <| zA @t_75 <| zA @t_180 <| @Z0e; exact zQ) : A := h ▸ k
theorem zno147 {P : Prop} (h : P := by intro jj; simp [CV.has, CV.hasL, fault, X0b.nohas, Q0a.nohas]) : P := h
theorem c147 : Con C 147 R147 := by
 refine Q0e C ?_ ?_ ?_
 ·rintro args p r r' ⟨a, b, h, e⟩ ⟨a', b', h', e'⟩
  subst e; subst e'; simp_all [Q0a.inj_iff]
 ·rintro args p r ⟨a, b, h, rfl⟩; exact zr1
 rintro args p r ⟨a, b, rfl, rfl⟩
 refine zW C false [(75, R75), (180, R180)] ⟨c75, c180, zT⟩ rfl xf147 zc147_ok fun call zh hF => ?_
 have t_75 := @t75 _ zh.1
 have t_180 := @t180 _ zh.2.1
 clear zh
 by_cases h1 : Body.right a = true
 ·by_cases h2 : Body.right b = true
  ·by_cases h3 : a.Kind = 0
   ·(have zx := zA h1 (zA h2 h3); refine zq147 ?_; try exact zT)
    repeat' (apply zK.s <;> intro hc <;> (try simp only [zhd] at hc) <;> (try have hw := V0a hc) <;> (refine zq147 ?_; try exact zT))
    all_goals (try clear zx)
    all_goals refine V0d hF zle (X0c ?_ (K0d zno147))
    all_goals simp [bodyHit, bodyStrikes, *]
   ·by_cases h4 : b.Kind = 0
    ·(have zx := zA h1 (zA h2 (zA h3 h4)); refine zq147 ?_; try exact zT)
     repeat' (apply zK.s <;> intro hc <;> (try simp only [zhd] at hc) <;> (try have hw := V0a hc) <;> (refine zq147 ?_; try exact zT))
     all_goals (try clear zx)
     all_goals refine V0d hF zle (X0c ?_ (K0d zno147))
     all_goals (try split) <;> simp [bodyHit, bodyStrikes, *]
    ·have r1 := Y0j h1 h3
     have r2 := Y0j h2 h4
     have sx := K1f a.X b.X
     have sy := K1f a.Y b.Y
     have so : (b.Owner = a.Owner) = (a.Owner = b.Owner) := propext eq_comm
     (have zx := zA h1 h2; refine zq147 ?_; try exact zT)
     repeat' (apply zK.s <;> intro hc <;> (try simp only [zhd] at hc) <;> (try have hw := V0a hc) <;> (refine zq147 ?_; try exact zT))
     all_goals (try clear zx)
     all_goals refine V0d hF zle (X0c ?_ (K0d zno147))
     all_goals (try split) <;> simp [bodyHit, bodyStrikes, *]
  ·(have zx := zA h1 h2; refine zq147 ?_; try exact zT)
   repeat' (apply zK.s <;> intro hc <;> (try simp only [zhd] at hc) <;> (try have hw := V0a hc) <;> (refine zq147 ?_; try exact zT))
   all_goals (try clear zx)
   all_goals refine V0d hF zle (X0c ?_ (K0d zno147))
   all_goals simp [bodyHit, bodyStrikes, *]
 ·(have zx := h1; refine zq147 ?_; try exact zT)
  repeat' (apply zK.s <;> intro hc <;> (try simp only [zhd] at hc) <;> (try have hw := V0a hc) <;> (refine zq147 ?_; try exact zT))
  all_goals (try clear zx)
  all_goals refine V0d hF zle (X0c ?_ (K0d zno147))
  all_goals simp [bodyHit, bodyStrikes, *]
def R143 : Rel := fun args p r => ∃ (row : Lst Q0b) (o : Int), args = [row.cv Q0b.cv, I o] /\ (0 <= o) /\ r = .ret (rowInput row.l o).cv p
theorem t143 {T : XCall} (h : Has T 143 R143) (row : Lst Q0b) (o : Int) {p : Hp} (h2 : 0 <= o) : T 143 [row.cv Q0b.cv, I o] p = .ret (rowInput row.l o).cv p := h _ _ _ ⟨row, o, rfl, h2, rfl⟩
theorem zq143 {A B : Prop} (k : B) (h : A = B := by have zy := zA @zw143 <| zA @rs143 <| zA @tt3 <| zA @tt36 <| zA @tt108 <| zA @tt110 <| zA ti3.eq_1 <| zA ti36.eq_1 <| zA ti108.eq_1 <| zA ti110.eq_1 <| zA @t_80 <| zA @K0n <| zA @V01 <| zA @zsl108 <| @h2; exact zQ) : A := h ▸ k
theorem zno143 {P : Prop} (h : P := by intro jj; simp [CV.has, CV.hasL, fault, X0b.nohas, K0b.nohas, Q0b.nohas]) : P := h
theorem c143 : Con C 143 R143 := by
 refine Q0e C ?_ ?_ ?_
 ·rintro args p r r' ⟨row, o, h, h2, e⟩ ⟨row', o', h', h2', e'⟩
  subst e; subst e'; simp_all [K0b.inj_iff, Q0b.inj_iff, Z02]
 ·rintro args p r ⟨row, o, h, h2, rfl⟩; exact zr1
 rintro args p r ⟨row, o, rfl, h2, rfl⟩
 refine zW C false [(80, R80)] ⟨c80, zT⟩ rfl xf143 zc143_ok fun call zh hF => ?_
 have t_80 := @t80 _ zh.1
 clear zh
 by_cases h : (row.l.length : Int) <= o
 ·(have zx := h; refine zq143 ?_; try exact zT)
  repeat' (apply zK.s <;> intro hc <;> (try simp only [zhd] at hc) <;> (try have hw := V0a hc) <;> (refine zq143 ?_; try exact zT))
  all_goals (try clear zx)
  refine V0d hF zle (X0c ?_ (K0d zno143))
  simp [rowInput, h]; rfl
 ·(have zx := h; refine zq143 ?_; try exact zT)
  repeat' (apply zK.s <;> intro hc <;> (try simp only [zhd] at hc) <;> (try have hw := V0a hc) <;> (refine zq143 ?_; try exact zT))
  all_goals (try clear zx)
  refine V0d hF zle (X0c ?_ (K0d zno143))
  simp [rowInput, h]; rfl
def R145 : Rel := fun args p r => ∃ (s : K0a), args = [s.cv] /\ r = .ret (I (freeN s.Bodies)) p
theorem t145 {T : XCall} (h : Has T 145 R145) (s : K0a) {p : Hp}  : T 145 [s.cv] p = .ret (I (freeN s.Bodies)) p := h _ _ _ ⟨s, rfl, rfl⟩
theorem zq145 {A B : Prop} (k : B) (h : A = B := by have zy := zA @zw145 <| zA @rs145 <| zA @tt3 <| zA @tt34 <| zA @tt63 <| zA @tt66 <| zA ti3.eq_1 <| zA ti34.eq_1 <| zA ti63.eq_1 <| zA ti66.eq_1 <| zA @Y0f <| zA @Z0e <| @zsl63; exact zQ) : A := h ▸ k
theorem zno145 {P : Prop} (h : P := by intro jj; simp [CV.has, CV.hasL, fault, X0b.nohas, K0a.nohas, Q0a.nohas]) : P := h
theorem zge145 {P : Prop} (h : P := by simp (disch := first | exact zdl | fail) only [zheap]; first | done | rfl) : P := h
theorem c145 : Con C 145 R145 := by
 refine Q0e C ?_ ?_ ?_
 ·rintro args p r r' ⟨s, h, e⟩ ⟨s', h', e'⟩
  subst e; subst e'; simp_all [K0a.inj_iff, Q0a.inj_iff]
 ·rintro args p r ⟨s, h, rfl⟩; exact zr1
 rintro args p r ⟨s, rfl, rfl⟩
 refine zW C false [] zT rfl xf145 zc145_ok fun call zh hF => ?_
 clear zh
 have hb := s.hBodies
 (have zx := zT; refine zq145 ?_; try exact zT)
 repeat' (apply zK.s <;> intro hc <;> (try simp only [zhd] at hc) <;> (try have hw := V0a hc) <;> (refine zq145 ?_; try exact zT))
 all_goals (try clear zx)
 (show W C false noExt call (ZC.loop Z1y) _ _ _); refine V0i C false noExt call Z1y _ _ _ (J145 s p) 16 ⟨0, rfl, by omega, (by simp [put_at, Y0c, K0e]), by simp [put_at, Y0c, freeN], (by simp [put_at, Y0c, K0e]), zge145, by simp [freeN], zb9, zle⟩ ?_
 rintro n ρ q ⟨k, rfl, hk, e1, e3, e4, g1, hfr, hn, hle⟩
 by_cases hlt : (k : Int) < 16
 ·have hs := freeN_take (l := s.Bodies) (k := k) (by omega)
  by_cases h0 : (nth s.Bodies k).Kind = 0
  ·rw [if_pos h0] at hs
   (have zx := zA e1 (zA e3 (zA e4 (zA g1 (zA hlt h0)))); refine zq145 ?_; try exact zT)
   repeat' (apply zK.s <;> intro hc <;> (try simp only [zhd] at hc) <;> (try have hw := V0a hc) <;> (refine zq145 ?_; try exact zT))
   all_goals (try clear zx)
   exact ⟨16 - (k + 1), by omega, k + 1, rfl, by omega, zev, by simp [put_at, Y0c, hs], zev, g1, by omega, hn, hle⟩
  ·rw [if_neg h0] at hs
   (have zx := zA e1 (zA e3 (zA e4 (zA g1 (zA hlt h0)))); refine zq145 ?_; try exact zT)
   repeat' (apply zK.s <;> intro hc <;> (try simp only [zhd] at hc) <;> (try have hw := V0a hc) <;> (refine zq145 ?_; try exact zT))
   all_goals (try clear zx)
   exact ⟨16 - (k + 1), by omega, k + 1, rfl, by omega, zev, by simp [put_at, Y0c, e3, hs], zev, g1, by omega, hn, hle⟩
 ·have hk16 : k = 16 := by omega
  subst hk16
  have ht : s.Bodies.take 16 = s.Bodies := List.take_of_length_le (by omega)
  rw [ht] at e3 hfr
  (have zx := zA e1 (zA e3 (zA e4 (zA g1 hlt))); refine zq145 ?_; try exact zT)
  repeat' (apply zK.s <;> intro hc <;> (try simp only [zhd] at hc) <;> (try have hw := V0a hc) <;> (refine zq145 ?_; try exact zT))
  all_goals (try clear zx)
  exact V0d hF zlq (X0c rfl (K0d zno145))
def R162 : Rel := fun args p r => ∃ (ra de : Nat), args = [Fl ra, Fl de] /\ r = .ret (Bo (bucketOk ra de)) p
theorem t162 {T : XCall} (h : Has T 162 R162) (ra de : Nat) {p : Hp}  : T 162 [Fl ra, Fl de] p = .ret (Bo (bucketOk ra de)) p := h _ _ _ ⟨ra, de, rfl, rfl⟩
theorem zq162 {A B : Prop} (k : B) (h : A = B := by have zy := zA @zw162 <| zA @rs162 <| zA @tt59 <| ti59.eq_1; exact zQf) : A := h ▸ k
theorem zno162 {P : Prop} (h : P := by intro jj; simp [CV.has, CV.hasL, fault, X0b.nohas]) : P := h
theorem c162 : Con C 162 R162 := by
 refine Q0e C ?_ ?_ ?_
 ·rintro args p r r' ⟨ra, de, h, e⟩ ⟨ra', de', h', e'⟩
  subst e; subst e'; simp_all
 ·rintro args p r ⟨ra, de, h, rfl⟩; exact zr1
 rintro args p r ⟨ra, de, rfl, rfl⟩
 refine zW C false [] zT rfl xf162 zc162_ok fun call zh hF => ?_
 clear zh
 rw [<- bucketR_eq]
 cases e1 : (FloatKind.f64.format.order ra 0 == some Ordering.gt || FloatKind.f64.format.order ra 0 == some Ordering.eq) with
 | false =>
  (have zx := e1; refine zq162 ?_; try exact zT)
  repeat' (apply zK.s <;> intro hc <;> (try simp only [zhd] at hc) <;> (try have hw := V0a hc) <;> (refine zq162 ?_; try exact zT))
  all_goals (try clear zx)
  exact V0d hF zle (X0c (by unfold bucketR; rw [e1]; rfl) (K0d zno162))
 | true =>
  cases e2 : (FloatKind.f64.format.order ra 9218868437227405311 == some Ordering.lt || FloatKind.f64.format.order ra 9218868437227405311 == some Ordering.eq) with
  | false =>
   (have zx := zA e1 e2; refine zq162 ?_; try exact zT)
   repeat' (apply zK.s <;> intro hc <;> (try simp only [zhd] at hc) <;> (try have hw := V0a hc) <;> (refine zq162 ?_; try exact zT))
   all_goals (try clear zx)
   exact V0d hF zle (X0c (by unfold bucketR; rw [e1, e2]; rfl) (K0d zno162))
  | true =>
   cases e3 : (FloatKind.f64.format.order de 4607182418800017408 == some Ordering.gt || FloatKind.f64.format.order de 4607182418800017408 == some Ordering.eq) with
   | false =>
    (have zx := zA e1 (zA e2 e3); refine zq162 ?_; try exact zT)
    repeat' (apply zK.s <;> intro hc <;> (try simp only [zhd] at hc) <;> (try have hw := V0a hc) <;> (refine zq162 ?_; try exact zT))
    all_goals (try clear zx)
    exact V0d hF zle (X0c (by unfold bucketR; rw [e1, e2, e3]; rfl) (K0d zno162))
   | true =>
    cases e4 : (FloatKind.f64.format.order de 4652007308841189376 == some Ordering.lt || FloatKind.f64.format.order de 4652007308841189376 == some Ordering.eq) with
    | false =>
     (have zx := zA e1 (zA e2 (zA e3 e4)); refine zq162 ?_; try exact zT)
     repeat' (apply zK.s <;> intro hc <;> (try simp only [zhd] at hc) <;> (try have hw := V0a hc) <;> (refine zq162 ?_; try exact zT))
     all_goals (try clear zx)
     exact V0d hF zle (X0c (by unfold bucketR; rw [e1, e2, e3, e4]; rfl) (K0d zno162))
    | true =>
     (have zx := zA e1 (zA e2 (zA e3 e4)); refine zq162 ?_; try exact zT)
     repeat' (apply zK.s <;> intro hc <;> (try simp only [zhd] at hc) <;> (try have hw := V0a hc) <;> (refine zq162 ?_; try exact zT))
     all_goals (try clear zx)
     exact V0d hF zle (X0c (by unfold bucketR; rw [e1, e2, e3, e4]; rfl) (K0d zno162))
def J97 (c : X0a) (p : Hp) (n : Nat) (ρ : Env) (q : Hp) : Prop :=
 ∃ (i : Nat), n = c.Tokens.l.length - i /\ i <= c.Tokens.l.length /\ ρ 1 = .ptr p.n [] /\ ρ 3 = I i /\ q.t.get p.n = some (.var sh61 c.cv) /\ tokGo (c.Tokens.l.take i) (c.Tokens.l.drop i) = tokGo [] c.Tokens.l /\ p.n < q.n /\ HpLe p q
def L97 (c : X0a) (p : Hp) (i : Nat) (n : Nat) (ρ : Env) (q : Hp) : Prop :=
 ∃ (k : Nat), n = i - k /\ k <= i /\ ρ 1 = .ptr p.n [] /\ ρ 3 = I i /\ ρ 4 = I k /\ q.t.get p.n = some (.var sh61 c.cv) /\ (∀ j, j < k -> nth c.Tokens.l j ≠ nth c.Tokens.l i) /\ p.n < q.n /\ HpLe p q
def R97 : Rel := fun args p r => ∃ (c : X0a), args = [c.cv] /\ (c.Tokens.l.length <= 1000000) /\ (c.Rules.l.length <= 1000000) /\ r = .ret (Bo (legalC c)) p
theorem t97 {T : XCall} (h : Has T 97 R97) (c : X0a) {p : Hp} (hl : c.Tokens.l.length <= 1000000) (hr : c.Rules.l.length <= 1000000) : T 97 [c.cv] p = .ret (Bo (legalC c)) p := h _ _ _ ⟨c, rfl, hl, hr, rfl⟩
theorem zq97 {A B : Prop} (k : B) (h : A = B := by have zy := zA @zw97 <| zA @rs97 <| zA @tt3 <| zA @tt23 <| zA @tt24 <| zA @tt59 <| zA @tt61 <| zA ti3.eq_1 <| zA ti23.eq_1 <| zA ti24.eq_1 <| zA ti59.eq_1 <| zA ti61.eq_1 <| zA @t_85 <| zA @t_162 <| zA @t_30 <| zA @Y0e <| zA @zsl23 <| zA @zsl24 <| zA @hl <| @hr; exact zQ) : A := h ▸ k
theorem zno97 {P : Prop} (h : P := by intro jj; simp [CV.has, CV.hasL, fault, X0b.nohas]) : P := h
theorem zge97 {P : Prop} (h : P := by simp (disch := first | exact zdl | fail) only [zheap]; first | done | rfl) : P := h
theorem c97 : Con C 97 R97 := by
 refine Q0e C ?_ ?_ ?_
 ·rintro args p r r' ⟨c, h, hl, hr, e⟩ ⟨c', h', hl', hr', e'⟩
  subst e; subst e'; simp_all [X0a.inj_iff, Z0p, Y0r]
 ·rintro args p r ⟨c, h, hl, hr, rfl⟩; exact zr1
 rintro args p r ⟨c, rfl, hl, hr, rfl⟩
 refine zW C false [(85, R85), (162, R162), (30, R30)] ⟨c85, c162, c30, zT⟩ rfl xf97 zc97_ok fun call zh hF => ?_
 have t_85 := @t85 _ zh.1
 have t_162 := @t162 _ zh.2.1
 have t_30 := @t30 _ zh.2.2.1
 clear zh
 (have zx := zT; refine zq97 ?_; try exact zT)
 repeat' (apply zK.s <;> intro hc <;> (try simp only [zhd] at hc) <;> (try have hw := V0a hc) <;> (refine zq97 ?_; try exact zT))
 all_goals (try clear zx)
 (show W C false noExt call (ZC.loop zn97_7) _ _ _); refine V0i C false noExt call zn97_7 _ _ _ (J97 c p) c.Tokens.l.length ⟨0, rfl, by omega, (by simp [put_at, Y0c, K0e]), (by simp [put_at, Y0c, K0e]), zge97, rfl, (zb9), zle⟩ ?_
 rintro n ρ q ⟨i, rfl, hi, e1, e3, g1, hj, hn, hle⟩
 by_cases hlt : (i : Int) < c.Tokens.l.length
 ·(have zx := zA e1 (zA e3 (zA g1 hlt)); refine zq97 ?_; try exact zT)
  repeat' (apply zK.s <;> intro hc <;> (try simp only [zhd] at hc) <;> (try have hw := V0a hc) <;> (refine zq97 ?_; try exact zT))
  all_goals (try clear zx)
  (show W C false noExt call (ZC.loop V1w) _ _ _); refine V0i C false noExt call V1w _ _ _ (L97 c p i) i ⟨0, rfl, by omega, zev, zev, zev, g1, by omega, hn, hle⟩ ?_
  clear e1 e3 g1 hn hle
  rintro n ρ q ⟨k, rfl, hk, e1, e3, e4, g1, hne, hn, hle⟩
  by_cases hlk : (k : Int) < i
  ·by_cases he : nth c.Tokens.l k = nth c.Tokens.l i
   ·have hf := tok_in (l := c.Tokens.l) (i := i) (k := k) (by omega) (by omega) he
    rw [hf] at hj
    (have zx := zA e1 (zA e3 (zA e4 (zA g1 (zA hlk he)))); refine zq97 ?_; try exact zT)
    repeat' (apply zK.s <;> intro hc <;> (try simp only [zhd] at hc) <;> (try have hw := V0a hc) <;> (refine zq97 ?_; try exact zT))
    all_goals (try clear zx)
    refine V0d hF zlq (X0c ?_ (K0d zno97))
    simp [legalC, <- hj]
   ·(have zx := zA e1 (zA e3 (zA e4 (zA g1 (zA hlk he)))); refine zq97 ?_; try exact zT)
    repeat' (apply zK.s <;> intro hc <;> (try simp only [zhd] at hc) <;> (try have hw := V0a hc) <;> (refine zq97 ?_; try exact zT))
    all_goals (try clear zx)
    refine ⟨i - (k + 1), by omega, k + 1, rfl, by omega, zev, zev, zev, by simp only [Hp.bump_get]; exact g1, fun j hj => ?_, by simp only [Hp.bump_n]; omega, zlq⟩
    by_cases ej : j = k
    ·rw [ej]; exact he
    ·exact hne j (by omega)
  ·have hk2 : k = i := by omega
   subst hk2
   have ho := tok_out (l := c.Tokens.l) (i := k) (by omega) hne
   rw [tok_step (by omega), ho] at hj
   cases hw : within (nth c.Tokens.l k) 0 2147483646 with
   | false =>
    rw [hw] at hj
    (have zx := zA e1 (zA e3 (zA e4 (zA g1 (zA hlk hw)))); refine zq97 ?_; try exact zT)
    repeat' (apply zK.s <;> intro hc <;> (try simp only [zhd] at hc) <;> (try have hw := V0a hc) <;> (refine zq97 ?_; try exact zT))
    all_goals (try clear zx)
    refine V0d hF zlq (X0c ?_ (K0d zno97))
    simp [legalC, <- hj]
   | true =>
    rw [hw] at hj
    simp only [Bool.true_and, Bool.not_false] at hj
    (have zx := zA e1 (zA e3 (zA e4 (zA g1 (zA hlk hw)))); refine zq97 ?_; try exact zT)
    repeat' (apply zK.s <;> intro hc <;> (try simp only [zhd] at hc) <;> (try have hw := V0a hc) <;> (refine zq97 ?_; try exact zT))
    all_goals (try clear zx)
    exact ⟨c.Tokens.l.length - (k + 1), by omega, k + 1, rfl, by omega, zev, zev, g1, hj, hn, hle⟩
 ·have hk2 : i = c.Tokens.l.length := by omega
  rw [hk2, List.drop_eq_nil_of_le (Nat.le_refl _)] at hj
  have hj : tokGo [] c.Tokens.l = true := hj.symm
  (have zx := zA e1 (zA e3 (zA g1 hlt)); refine zq97 ?_; try exact zT)
  repeat' (apply zK.s <;> intro hc <;> (try simp only [zhd] at hc) <;> (try have hw := V0a hc) <;> (refine zq97 ?_; try exact zT))
  all_goals (try clear zx)
  all_goals refine V0d hF zlq (X0c ?_ (K0d zno97))
  all_goals simp [legalC, *]
def J66 (c : X0a) (p : Hp) (n : Nat) (ρ : Env) (q : Hp) : Prop :=
 ∃ (k : Nat), n = c.Players.toNat - k /\ k <= c.Players.toNat /\ ρ 1 = .ptr p.n [] /\ ρ 2 = .ptr (p.n + 1) [] /\ ρ 3 = .ptr (p.n + 2) [] /\ ρ 4 = I k /\ q.t.get p.n = some (.var sh61 c.cv) /\ q.t.get (p.n + 1) = some (.var sh66 K0a.zero.cv) /\ q.t.get (p.n + 2) = some (.var sh66 (firstK c k).cv) /\ p.n + 2 < q.n /\ HpLe p q
def R66 : Rel := fun args p r => ∃ (c : X0a), args = [c.cv] /\ (c.Tokens.l.length <= 1000000) /\ (c.Rules.l.length <= 1000000) /\ r = .ret (firstS c).cv p
theorem t66 {T : XCall} (h : Has T 66 R66) (c : X0a) {p : Hp} (hl : c.Tokens.l.length <= 1000000) (hr : c.Rules.l.length <= 1000000) : T 66 [c.cv] p = .ret (firstS c).cv p := h _ _ _ ⟨c, rfl, hl, hr, rfl⟩
theorem zq66 {A B : Prop} (k : B) (h : A = B := by have zy := zA @zw66 <| zA @rs66 <| zA @tt3 <| zA @tt25 <| zA @tt34 <| zA @tt61 <| zA @tt63 <| zA @tt66 <| zA ti3.eq_1 <| zA ti25.eq_1 <| zA ti34.eq_1 <| zA ti61.eq_1 <| zA ti63.eq_1 <| zA ti66.eq_1 <| zA @t_97 <| zA @t_141 <| zA @t_142 <| zA @Y0e <| zA @Y0f <| zA @Z0e <| zA @zsl63 <| zA @hl <| @hr; exact zQ) : A := h ▸ k
theorem zno66 {P : Prop} (h : P := by intro jj; simp [CV.has, CV.hasL, fault, X0b.nohas, K0a.nohas, Q0a.nohas]) : P := h
theorem zge66 {P : Prop} (h : P := by simp (disch := first | exact zdl | fail) only [zheap]; first | done | rfl) : P := h
theorem c66 : Con C 66 R66 := by
 refine Q0e C ?_ ?_ ?_
 ·rintro args p r r' ⟨c, h, hl, hr, e⟩ ⟨c', h', hl', hr', e'⟩
  subst e; subst e'; simp_all [X0a.inj_iff, K0a.inj_iff, Q0a.inj_iff]
 ·rintro args p r ⟨c, h, hl, hr, rfl⟩; exact zr1
 rintro args p r ⟨c, rfl, hl, hr, rfl⟩
 refine zW C false [(97, R97), (141, R141), (142, R142)] ⟨c97, c141, c142, zT⟩ rfl xf66 zc66_ok fun call zh hF => ?_
 have t_97 := @t97 _ zh.1
 have t_141 := @t141 _ zh.2.1
 have t_142 := @t142 _ zh.2.2.1
 clear zh
 cases hL : legalC c with
 | false =>
  (have zx := hL; refine zq66 ?_; try exact zT)
  repeat' (apply zK.s <;> intro hc <;> (try simp only [zhd] at hc) <;> (try have hw := V0a hc) <;> (refine zq66 ?_; try exact zT))
  all_goals (try clear zx)
  refine V0d hF zle (X0c ?_ (K0d zno66))
  simp [firstS, hL]
 | true =>
  have hP := (Q0h hL).1
  have hPn : ((c.Players.toNat : Nat) : Int) = c.Players := by omega
  (have zx := hL; refine zq66 ?_; try exact zT)
  repeat' (apply zK.s <;> intro hc <;> (try simp only [zhd] at hc) <;> (try have hw := V0a hc) <;> (refine zq66 ?_; try exact zT))
  all_goals (try clear zx)
  (show W C false noExt call (ZC.loop Q16) _ _ _); refine V0i C false noExt call Q16 _ _ _ (J66 c p) c.Players.toNat ⟨0, rfl, by omega, (by simp [put_at, Y0c, K0e]), (by simp [put_at, Y0c, K0e]), (by simp [put_at, Y0c, K0e]), (by simp [put_at, Y0c, K0e]), zge66, zge66, zge66, (zb9), zle⟩ ?_
  rintro n ρ q ⟨k, rfl, hk, e1, e2, e3, e4, g1, g2, g3, hn, hle⟩
  by_cases hlt : (k : Int) < c.Players
  ·have hbk := (firstK c k).hBodies
   have hk8 : k < 8 := by omega
   (have zx := zA e1 (zA e2 (zA e3 (zA e4 (zA g1 (zA g2 (zA g3 hlt)))))); refine zq66 ?_; try exact zT)
   repeat' (apply zK.s <;> intro hc <;> (try simp only [zhd] at hc) <;> (try have hw := V0a hc) <;> (refine zq66 ?_; try exact zT))
   all_goals (try clear zx)
   exact ⟨c.Players.toNat - (k + 1), by omega, k + 1, rfl, by omega, zev, zev, zev, zev, zg9, zg9, zg9, zb9, zlq⟩
  ·have hk8 : k = c.Players.toNat := by omega
   subst hk8
   (have zx := zA e1 (zA e2 (zA e3 (zA e4 (zA g1 (zA g2 (zA g3 hlt)))))); refine zq66 ?_; try exact zT)
   repeat' (apply zK.s <;> intro hc <;> (try simp only [zhd] at hc) <;> (try have hw := V0a hc) <;> (refine zq66 ?_; try exact zT))
   all_goals (try clear zx)
   refine V0d hF zlq (X0c ?_ (K0d zno66))
   simp [firstS, hL]
def J38 (c : X0a) (s : K0a) (p : Hp) (n : Nat) (ρ : Env) (q : Hp) : Prop :=
 ∃ (k : Nat), n = 16 - k /\ k <= 16 /\ ρ 2 = .ptr p.n [] /\ ρ 3 = .ptr (p.n + 1) [] /\ ρ 5 = I k /\ q.t.get p.n = some (.var sh61 c.cv) /\ q.t.get (p.n + 1) = some (.var sh66 s.cv) /\ allFrom (rightAt c.Players) (s.Bodies.drop k) k = allFrom (rightAt c.Players) s.Bodies 0 /\ p.n + 1 < q.n /\ HpLe p q
def L38 (c : X0a) (s : K0a) (p : Hp) (n : Nat) (ρ : Env) (q : Hp) : Prop :=
 ∃ (k : Nat), n = 8 - k /\ k <= 8 /\ ρ 2 = .ptr p.n [] /\ ρ 3 = .ptr (p.n + 1) [] /\ ρ 7 = I k /\ q.t.get p.n = some (.var sh61 c.cv) /\ q.t.get (p.n + 1) = some (.var sh66 s.cv) /\ allFrom (scoreAt c.Players) (s.Score.drop k) k = allFrom (scoreAt c.Players) s.Score 0 /\ p.n + 1 < q.n /\ HpLe p q
def R38 : Rel := fun args p r => ∃ (c : X0a) (s : K0a), args = [c.cv, s.cv] /\ (c.Tokens.l.length <= 1000000) /\ (c.Rules.l.length <= 1000000) /\ r = .ret (Bo (stateRight c s)) p
theorem t38 {T : XCall} (h : Has T 38 R38) (c : X0a) (s : K0a) {p : Hp} (hl : c.Tokens.l.length <= 1000000) (hr : c.Rules.l.length <= 1000000) : T 38 [c.cv, s.cv] p = .ret (Bo (stateRight c s)) p := h _ _ _ ⟨c, s, rfl, hl, hr, rfl⟩
theorem zq38 {A B : Prop} (k : B) (h : A = B := by have zy := zA @zw38 <| zA @rs38 <| zA @tt3 <| zA @tt4 <| zA @tt34 <| zA @tt61 <| zA @tt63 <| zA @tt64 <| zA @tt66 <| zA ti3.eq_1 <| zA ti4.eq_1 <| zA ti34.eq_1 <| zA ti61.eq_1 <| zA ti63.eq_1 <| zA ti64.eq_1 <| zA ti66.eq_1 <| zA @t_97 <| zA @t_85 <| zA @t_75 <| zA @Y0e <| zA @Y0f <| zA @Z0e <| zA @zsl63 <| zA @zsl64 <| zA @hl <| @hr; exact zQ) : A := h ▸ k
theorem zno38 {P : Prop} (h : P := by intro jj; simp [CV.has, CV.hasL, fault, X0b.nohas, K0a.nohas, Q0a.nohas]) : P := h
theorem zge38 {P : Prop} (h : P := by simp (disch := first | exact zdl | fail) only [zheap]; first | done | rfl) : P := h
theorem c38 : Con C 38 R38 := by
 refine Q0e C ?_ ?_ ?_
 ·rintro args p r r' ⟨c, s, h, hl, hr, e⟩ ⟨c', s', h', hl', hr', e'⟩
  subst e; subst e'; simp_all [X0a.inj_iff, K0a.inj_iff, Q0a.inj_iff]
 ·rintro args p r ⟨c, s, h, hl, hr, rfl⟩; exact zr1
 rintro args p r ⟨c, s, rfl, hl, hr, rfl⟩
 refine zW C false [(97, R97), (85, R85), (75, R75)] ⟨c97, c85, c75, zT⟩ rfl xf38 zc38_ok fun call zh hF => ?_
 have t_97 := @t97 _ zh.1
 have t_85 := @t85 _ zh.2.1
 have t_75 := @t75 _ zh.2.2.1
 clear zh
 have hb := s.hBodies
 have hsc := s.hScore
 by_cases hok : legalC c = true /\ within s.Frame 0 600 = true
 ·obtain ⟨hL, hfw⟩ := hok
  (have zx := zA hL hfw; refine zq38 ?_; try exact zT)
  repeat' (apply zK.s <;> intro hc <;> (try simp only [zhd] at hc) <;> (try have hw := V0a hc) <;> (refine zq38 ?_; try exact zT))
  all_goals (try clear zx)
  (show W C false noExt call (ZC.loop Y15) _ _ _); refine V0i C false noExt call Y15 _ _ _ (J38 c s p) 16 ⟨0, rfl, by omega, (by simp [put_at, Y0c, K0e]), (by simp [put_at, Y0c, K0e]), (by simp [put_at, Y0c, K0e]), zge38, zge38, rfl, (zb9), zle⟩ ?_
  rintro n ρ q ⟨k, rfl, hk, e2, e3, e5, g1, g2, hj, hn, hle⟩
  by_cases hlt : (k : Int) < 16
  ·rw [X0t _ (l := s.Bodies) (k := k) (by omega)] at hj
   generalize hbb : nth s.Bodies k = b at hj
   cases hw : rightAt c.Players k b with
   | false =>
    rw [hw] at hj
    have hne : ¬ rightAt c.Players k b = true := by rw [hw]; simp
    rw [Q1k] at hne
    by_cases hK : b.Kind = 0
    ·have hn2 : ¬ (Body.right b = true /\ ¬ (k : Int) < c.Players) := fun h => hne ⟨h.1, .inl hK, by simp [hK, h.2], .inl h.2⟩
     (have zx := zA e2 (zA e3 (zA e5 (zA g1 (zA g2 (zA hlt (zA hbb hK)))))); refine zq38 ?_; try exact zT)
     repeat' (apply zK.s <;> intro hc <;> (try simp only [zhd] at hc) <;> (try have hw := V0a hc) <;> (refine zq38 ?_; try exact zT))
     all_goals (try clear zx)
     all_goals first
      | (refine V0d hF zlq (X0c ?_ (K0d zno38)); simp [stateRight, <- hj]; done)
      | exact absurd ⟨by assumption, by assumption⟩ hn2
    ·(have zx := zA e2 (zA e3 (zA e5 (zA g1 (zA g2 (zA hlt (zA hbb hK)))))); refine zq38 ?_; try exact zT)
     repeat' (apply zK.s <;> intro hc <;> (try simp only [zhd] at hc) <;> (try have hw := V0a hc) <;> (refine zq38 ?_; try exact zT))
     all_goals (try clear zx)
     all_goals first
      | (refine V0d hF zlq (X0c ?_ (K0d zno38)); simp [stateRight, <- hj]; done)
      | exact absurd ⟨by assumption, .inr (by assumption), by assumption, by first | exact .inl (by assumption) | exact .inr (by assumption)⟩ hne
   | true =>
    rw [hw, Bool.true_and] at hj
    obtain ⟨y1, y2, y3, y4⟩ := (Q1k _ _ _).1 hw
    by_cases hK : b.Kind = 0
    ·have hp : ¬ (k : Int) < c.Players := by simpa [hK] using y3
     (have zx := zA e2 (zA e3 (zA e5 (zA g1 (zA g2 (zA hlt (zA hbb (zA y1 (zA hK hp)))))))); refine zq38 ?_; try exact zT)
     repeat' (apply zK.s <;> intro hc <;> (try simp only [zhd] at hc) <;> (try have hw := V0a hc) <;> (refine zq38 ?_; try exact zT))
     all_goals (try clear zx)
     exact ⟨16 - (k + 1), by omega, k + 1, rfl, by omega, zev, zev, zev, zg9, zg9, hj, zb9, zlq⟩
    ·have hp := y2.resolve_left hK
     (have zx := zA e2 (zA e3 (zA e5 (zA g1 (zA g2 (zA hlt (zA hbb (zA y1 (zA y3 (zA hK hp))))))))); refine zq38 ?_; try exact zT)
     repeat' (apply zK.s <;> intro hc <;> (try simp only [zhd] at hc) <;> (try have hw := V0a hc) <;> (refine zq38 ?_; try exact zT))
     all_goals (try clear zx)
     all_goals first
      | exact ⟨16 - (k + 1), by omega, k + 1, rfl, by omega, zev, zev, zev, zg9, zg9, hj, zb9, zlq⟩
      | (exfalso; rcases y4 with y4 | y4 <;> contradiction)
  ·have hk16 : k = 16 := by omega
   subst hk16
   rw [List.drop_eq_nil_of_le (by omega)] at hj
   have hA : allFrom (rightAt c.Players) s.Bodies 0 = true := hj.symm
   (have zx := zA e2 (zA e3 (zA e5 (zA g1 (zA g2 hlt)))); refine zq38 ?_; try exact zT)
   repeat' (apply zK.s <;> intro hc <;> (try simp only [zhd] at hc) <;> (try have hw := V0a hc) <;> (refine zq38 ?_; try exact zT))
   all_goals (try clear zx)
   (show W C false noExt call (ZC.loop Q11) _ _ _); refine V0i C false noExt call Q11 _ _ _ (L38 c s p) 8 ⟨0, rfl, by omega, zev, zev, zev, g1, g2, rfl, hn, hle⟩ ?_
   clear e2 e3 e5 g1 g2 hn hle hj hlt
   rintro n ρ q ⟨k, rfl, hk, e2, e3, e7, g1, g2, hj, hn, hle⟩
   by_cases hlt : (k : Int) < 8
   ·rw [X0t _ (l := s.Score) (k := k) (by omega)] at hj
    cases hw : scoreAt c.Players k (nth s.Score k) with
    | false =>
     rw [hw] at hj
     simp only [scoreAt] at hw
     (have zx := zA e2 (zA e3 (zA e7 (zA g1 (zA g2 hlt)))); refine zq38 ?_; try exact zT)
     repeat' (apply zK.s <;> intro hc <;> (try simp only [zhd] at hc) <;> (try have hw := V0a hc) <;> (refine zq38 ?_; try exact zT))
     all_goals (try clear zx)
     all_goals first
      | (refine V0d hF zlq (X0c ?_ (K0d zno38)); simp [stateRight, <- hj]; done)
      | (exfalso; simp_all; done)
      | (exfalso; simp_all; omega)
    | true =>
     rw [hw, Bool.true_and] at hj
     simp only [scoreAt] at hw
     (have zx := zA e2 (zA e3 (zA e7 (zA g1 (zA g2 hlt)))); refine zq38 ?_; try exact zT)
     repeat' (apply zK.s <;> intro hc <;> (try simp only [zhd] at hc) <;> (try have hw := V0a hc) <;> (refine zq38 ?_; try exact zT))
     all_goals (try clear zx)
     all_goals first
      | exact ⟨8 - (k + 1), by omega, k + 1, rfl, by omega, zev, zev, zev, zg9, zg9, hj, zb9, zlq⟩
      | exact ⟨8 - (k + 1), by omega, k + 1, rfl, by omega, zev, zev, zev, g1, g2, hj, hn, hle⟩
      | (exfalso; simp_all; done)
      | (exfalso; simp_all; omega)
   ·have hk8 : k = 8 := by omega
    subst hk8
    rw [List.drop_eq_nil_of_le (by omega)] at hj
    have hB : allFrom (scoreAt c.Players) s.Score 0 = true := hj.symm
    (have zx := zA e2 (zA e3 (zA e7 (zA g1 (zA g2 hlt)))); refine zq38 ?_; try exact zT)
    repeat' (apply zK.s <;> intro hc <;> (try simp only [zhd] at hc) <;> (try have hw := V0a hc) <;> (refine zq38 ?_; try exact zT))
    all_goals (try clear zx)
    all_goals refine V0d hF zlq (X0c ?_ (K0d zno38))
    all_goals simp [stateRight, hA, hB, *]
 ·have hno : stateRight c s = false := by
   cases h : stateRight c s with
   | false => rfl
   | true => have := X0f h; simp only [stateRight, Bool.and_eq_true] at h; exact absurd ⟨h.1.2, h.2⟩ hok
  cases hL : legalC c with
  | false =>
   (have zx := hL; refine zq38 ?_; try exact zT)
   repeat' (apply zK.s <;> intro hc <;> (try simp only [zhd] at hc) <;> (try have hw := V0a hc) <;> (refine zq38 ?_; try exact zT))
   all_goals (try clear zx)
   exact V0d hF zle (X0c (by rw [hno]) (K0d zno38))
  | true =>
   have hfw : within s.Frame 0 600 = false := by
    cases h : within s.Frame 0 600 with
    | false => rfl
    | true => exact absurd ⟨hL, h⟩ hok
   (have zx := zA hL hfw; refine zq38 ?_; try exact zT)
   repeat' (apply zK.s <;> intro hc <;> (try simp only [zhd] at hc) <;> (try have hw := V0a hc) <;> (refine zq38 ?_; try exact zT))
   all_goals (try clear zx)
   exact V0d hF zle (X0c (by rw [hno]) (K0d zno38))
end Go.Proofs.Ytpchcfkebljopaa
end
section
namespace Go.Proofs.Ytpchcfkebljopaa
open Go.Cl Go Go.RowKit
theorem x63_alloc (p : Hp) : xalloc C p 63 = .ret (.ptr p.n []) (p.new (.var sh63 (.agg ((List.replicate 16 Q0a.zero).map Q0a.cv)))) := by simp only [Cl.xalloc, tt63, ti63, z63, Q0a.zcv, List.map_replicate]
theorem s63_sub : subEq sh63 [] sh63 = true := by simp [subEq, Shape.sub]
theorem s63_subk (k : Nat) (q : List Nat) (z : Shape) : subEq sh63 (k :: q) z = (decide (k < 16) && subEq sh34 q z) := K0y 16 k q sh34 z
theorem s63_ok (l : List Q0a) (h : l.length = 16) : shOk (.agg (l.map Q0a.cv)) sh63 = true := Y0m (sh := sh63) (by simp only [CV.shape, Z0h (f := Q0a.cv) Q0a.shape, h, sh63]) rfl
theorem s63_at (l : List Q0a) (h : l.length = 16) (k : Nat) (q : List Nat) (hk : k < 16) : (CV.agg (l.map Q0a.cv)).at (k :: q) = (Q0a.cv (nth l k)).at q := K1t _ (by rw [h]; exact hk) q
end Go.Proofs.Ytpchcfkebljopaa
end
section
namespace Go.Proofs.Ytpchcfkebljopaa
open Go.Cl Go Go.RowKit
set_option maxRecDepth 100000
set_option linter.constructorNameAsVariable false
theorem envR_mk (a : Q0a) (b : K0b) (c d : Int) (s : Lst Q0a) : envR ⟨a, b, c, d, s⟩ = ⟨a, b, c, d, s⟩ := rfl
def J67 (c : X0a) (s : K0a) (row : Lst Q0b) (p : Hp) (n : Nat) (ρ : Env) (q : Hp) : Prop :=
 ∃ (k : Nat) (sh : Lst Q0a), n = 16 - k /\ k <= 16 /\ ρ 2 = row.cv Q0b.cv /\ ρ 3 = .ptr p.n [] /\ ρ 4 = .ptr (p.n + 1) [] /\ ρ 6 = .ptr (p.n + 2) [] /\ ρ 7 = .ptr (p.n + 3) [] /\ ρ 8 = sh.cv Q0a.cv /\ ρ 9 = I k /\ sh.l = (turnsS c.Rules.l row.l s k).2 /\ q.t.get p.n = some (.var sh61 c.cv) /\ q.t.get (p.n + 1) = some (.var sh66 (turnsS c.Rules.l row.l s k).1.cv) /\ q.t.get (p.n + 2) = some (.var sh66 K0a.zero.cv) /\ q.t.get (p.n + 3) = some (.var sh63 (.agg (s.Bodies.map Q0a.cv))) /\ (sh.tl = .nil \/ ∃ j, sh.tl = .own j /\ p.n + 3 < j /\ j < q.n /\ q.t.get j = some (.tail sh.l.length) /\ 0 < sh.l.length) /\ p.n + 3 < q.n /\ HpLe p q
def K67 (c : X0a) (s : K0a) (sh : Lst Q0a) (p : Hp) (n : Nat) (ρ : Env) (q : Hp) : Prop :=
 ∃ (m : Nat), n = sh.l.length - m /\ m <= sh.l.length /\ ρ 3 = .ptr p.n [] /\ ρ 4 = .ptr (p.n + 1) [] /\ ρ 6 = .ptr (p.n + 2) [] /\ ρ 8 = sh.cv Q0a.cv /\ ρ 16 = I m /\ q.t.get p.n = some (.var sh61 c.cv) /\ q.t.get (p.n + 1) = some (.var sh66 (placeAll s (sh.l.take m)).cv) /\ q.t.get (p.n + 2) = some (.var sh66 K0a.zero.cv) /\ p.n + 3 < q.n /\ HpLe p q
def L67 (c : X0a) (s : K0a) (sh : Lst Q0a) (m : Nat) (p : Hp) (n : Nat) (ρ : Env) (q : Hp) : Prop :=
 ∃ (k : Nat) (d : Bool) (t : K0a), n = 16 - k /\ k <= 16 /\ ρ 3 = .ptr p.n [] /\ ρ 4 = .ptr (p.n + 1) [] /\ ρ 6 = .ptr (p.n + 2) [] /\ ρ 8 = sh.cv Q0a.cv /\ ρ 16 = I m /\ ρ 17 = Bo d /\ ρ 18 = I k /\ q.t.get p.n = some (.var sh61 c.cv) /\ q.t.get (p.n + 1) = some (.var sh66 t.cv) /\ q.t.get (p.n + 2) = some (.var sh66 K0a.zero.cv) /\ PlaceAt s (nth sh.l m) k d t /\ p.n + 3 < q.n /\ HpLe p q
def M67 (c : X0a) (s : K0a) (p : Hp) (n : Nat) (ρ : Env) (q : Hp) : Prop :=
 ∃ (i : Nat), n = 16 - i /\ i <= 16 /\ ρ 3 = .ptr p.n [] /\ ρ 4 = .ptr (p.n + 1) [] /\ ρ 6 = .ptr (p.n + 2) [] /\ ρ 19 = I i /\ q.t.get p.n = some (.var sh61 c.cv) /\ q.t.get (p.n + 1) = some (.var sh66 (hitsS c.Players s i).cv) /\ q.t.get (p.n + 2) = some (.var sh66 K0a.zero.cv) /\ p.n + 3 < q.n /\ HpLe p q
def N67 (c : X0a) (s : K0a) (i : Nat) (p : Hp) (n : Nat) (ρ : Env) (q : Hp) : Prop :=
 ∃ (k : Nat) (t : K0a), n = 16 - k /\ k <= 16 /\ ρ 3 = .ptr p.n [] /\ ρ 4 = .ptr (p.n + 1) [] /\ ρ 6 = .ptr (p.n + 2) [] /\ ρ 19 = I i /\ ρ 20 = I k /\ q.t.get p.n = some (.var sh61 c.cv) /\ q.t.get (p.n + 1) = some (.var sh66 t.cv) /\ q.t.get (p.n + 2) = some (.var sh66 K0a.zero.cv) /\ HitAt c.Players s i k t /\ p.n + 3 < q.n /\ HpLe p q
def R67 : Rel := fun args p r => ∃ (c : X0a) (s : K0a) (row : Lst Q0b), args = [c.cv, s.cv, row.cv Q0b.cv] /\ (c.Tokens.l.length <= 1000000) /\ (c.Rules.l.length <= 1000000) /\ r = .ret (stepS c row.l s).cv p
theorem t67 {T : XCall} (h : Has T 67 R67) (c : X0a) (s : K0a) (row : Lst Q0b) {p : Hp} (hl : c.Tokens.l.length <= 1000000) (hr : c.Rules.l.length <= 1000000) : T 67 [c.cv, s.cv, row.cv Q0b.cv] p = .ret (stepS c row.l s).cv p := h _ _ _ ⟨c, s, row, rfl, hl, hr, rfl⟩
theorem zq67 {A B : Prop} (k : B) (h : A = B := by have zy := zA @zw67 <| zA @rs67 <| zA @tt3 <| zA @tt23 <| zA @tt25 <| zA @tt34 <| zA @tt36 <| zA @tt37 <| zA @tt51 <| zA @tt61 <| zA @tt63 <| zA @tt64 <| zA @tt66 <| zA ti3.eq_1 <| zA ti23.eq_1 <| zA ti25.eq_1 <| zA ti34.eq_1 <| zA ti36.eq_1 <| zA ti37.eq_1 <| zA ti51.eq_1 <| zA ti61.eq_1 <| zA ti63.eq_1 <| zA ti64.eq_1 <| zA ti66.eq_1 <| zA @t_38 <| zA @t_143 <| zA @t_144 <| zA @t_145 <| zA @t_28 <| zA @t_146 <| zA @t_147 <| zA @t_142 <| zA @Y0e <| zA @Y0f <| zA @Z0e <| zA @K0n <| zA @Y0q <| zA @zsl23 <| zA @zsl37 <| zA @zsl63 <| zA @zsl64 <| zA @envR_mk <| zA @x63_alloc <| zA @s63_sub <| zA @s63_subk <| zA @s63_ok <| zA @s63_at <| zA @hl <| @hr; exact zQ) : A := h ▸ k
theorem zno67 {P : Prop} (h : P := by intro jj; simp [CV.has, CV.hasL, fault, X0b.nohas, K0a.nohas, Q0a.nohas, K0b.nohas]) : P := h
theorem zge67 {P : Prop} (h : P := by simp (disch := first | exact zdl | fail) only [zheap]; first | done | rfl) : P := h
theorem c67 : Con C 67 R67 := by
 refine Q0e C ?_ ?_ ?_
 ·rintro args p r r' ⟨c, s, row, h, hl, hr, e⟩ ⟨c', s', row', h', hl', hr', e'⟩
  subst e; subst e'; simp_all [X0a.inj_iff, K0a.inj_iff, Q0a.inj_iff, K0b.inj_iff, K0c.inj_iff, Z0p, V15, Z02]
 ·rintro args p r ⟨c, s, row, h, hl, hr, rfl⟩; exact zr1
 rintro args p r ⟨c, s, row, rfl, hl, hr, rfl⟩
 refine zW C false [(38, R38), (143, R143), (144, R144), (145, R145), (28, R28), (146, R146), (147, R147), (142, R142)] ⟨c38, c143, c144, c145, c28, c146, c147, c142, zT⟩ rfl xf67 zc67_ok fun call zh hF => ?_
 have t_38 := @t38 _ zh.1
 have t_143 := @t143 _ zh.2.1
 have t_144 := @t144 _ zh.2.2.1
 have t_145 := @t145 _ zh.2.2.2.1
 have t_28 := @t28 _ zh.2.2.2.2.1
 have t_146 := @t146 _ zh.2.2.2.2.2.1
 have t_147 := @t147 _ zh.2.2.2.2.2.2.1
 have t_142 := @t142 _ zh.2.2.2.2.2.2.2.1
 clear zh
 cases hR : stateRight c s with
 | false =>
  (have zx := hR; refine zq67 ?_; try exact zT)
  repeat' (apply zK.s <;> intro hc <;> (try simp only [zhd] at hc) <;> (try have hw := V0a hc) <;> (refine zq67 ?_; try exact zT))
  all_goals (try clear zx)
  refine V0d hF zle (X0c ?_ (K0d zno67))
  simp [stepS, hR]; rfl
 | true =>
  have hrl := (Q0h (X0f hR).2.2.1).2
  have hrl2 : c.Rules.l.length <= 100000 := by omega
  have h4 := right_all hR
  have hb := s.hBodies
  (have zx := hR; refine zq67 ?_; try exact zT)
  repeat' (apply zK.s <;> intro hc <;> (try simp only [zhd] at hc) <;> (try have hw := V0a hc) <;> (refine zq67 ?_; try exact zT))
  all_goals (try clear zx)
  (show W C false noExt call (ZC.loop V12) _ _ _); refine V0i C false noExt call V12 _ _ _ (J67 c s row p) 16 ⟨0, ⟨.nil, [], fun _ => rfl⟩, rfl, by omega, by simp [put_at, Y0c, K0e, V1s], (by simp [put_at, Y0c, K0e]), (by simp [put_at, Y0c, K0e]), (by simp [put_at, Y0c, K0e]), (by simp [put_at, Y0c, K0e]), by simp [put_at, Y0c, K0e, Lst.cv], (by simp [put_at, Y0c, K0e]), rfl, zge67, zge67, zge67, zge67, .inl rfl, (zb9), zle⟩ ?_
  rintro n ρ q ⟨k, ⟨tl, al, ao⟩, rfl, hk, e2, e3, e4, e6, e7, e8, e9, hal, g1, g2, g3, g4, happ, hn, hle⟩
  have hlen := V1r c.Rules.l row.l s k
  by_cases hlt : (k : Int) < 16
  ·have hr : Body.right (nth s.Bodies k) = true := h4 _ (by rw [X0j (by omega)]; exact List.getElem_mem _)
   have hst : turnsS c.Rules.l row.l s (k + 1) = turnStep c.Rules.l row.l s.Bodies (turnsS c.Rules.l row.l s k) k := rfl
   generalize hTk : turnsS c.Rules.l row.l s k = T at hst hal g2 hlen
   obtain ⟨sk, lk⟩ := T
   simp only at hal g2 hlen
   subst hal
   have hbk := sk.hBodies
   have hfr := freeN_le sk
   generalize hbb : nth s.Bodies k = b at hr hst
   by_cases hK : b.Kind = 1
   ·have hrb := Y0j hr (by omega)
    have hx := Q1q row.l b.Owner
    have hX := tdiv16 hx.2.1
    have hY := tdiv16 hx.2.2
    have hRl : ∀ E, ruleRun c.Rules E = runL c.Rules.l E := fun E => ruleRun_l (l := ⟨.view, c.Rules.l, nofun⟩) (s := c.Rules) rfl E
    have hlen2 := X1u c.Rules.l (playerEnv row.l sk.Dice (freeN sk.Bodies - al.length) b)
    have hlen2 : (runL c.Rules.l (playerEnv row.l sk.Dice (freeN sk.Bodies - al.length) b)).1.Shots.l.length <= 64 := by simpa [playerEnv] using hlen2
    have hRR : ruleRun c.Rules (ruleOf ⟨bodyPush b ((rowInput row.l b.Owner).X.tdiv 16) ((rowInput row.l b.Owner).Y.tdiv 16), rowInput row.l b.Owner, sk.Dice, freeN sk.Bodies - al.length, ⟨.nil, [], fun _ => rfl⟩⟩) = runL c.Rules.l (playerEnv row.l sk.Dice (freeN sk.Bodies - al.length) b) := hRl _
    simp only [turnStep, hbb, bodyTurn, hK, if_true, playerTurn] at hst
    generalize runL c.Rules.l (playerEnv row.l sk.Dice (freeN sk.Bodies - al.length) b) = R at hst hlen2 hRR
    obtain ⟨⟨gb, gi, gd, gr, gt, gl, go⟩, ft, ok⟩ := R
    simp only at hlen2 hst
    cases ok with
    | false =>
     simp only [Bool.false_eq_true, if_false, List.append_nil] at hst
     have hm : min 65535 (b.Faults + 1) = min (b.Faults + 1) 65535 := by omega
     have happ2 : tl = .nil \/ ∃ j, tl = .own j /\ p.n + 3 < j /\ j < q.n /\ q.t.get j = some (.tail al.length) /\ 0 < al.length := happ
     (have zx := zA e2 (zA e3 (zA e4 (zA e6 (zA e7 (zA e8 (zA e9 (zA g1 (zA g2 (zA g3 (zA g4 (zA hlt (zA hbb (zA hK (zA hRR hm)))))))))))))); refine zq67 ?_; try exact zT)
     repeat' (apply zK.s <;> intro hc <;> (try simp only [zhd] at hc) <;> (try have hw := V0a hc) <;> (refine zq67 ?_; try exact zT))
     all_goals (try clear zx)
     refine ⟨16 - (k + 1), by omega, k + 1, ⟨tl, al, ao⟩, rfl, by omega, zev, zev, zev, zev, zev, zev, zev, by rw [hst], zg9, by rw [hst]; simp (disch := first | exact zdl | fail) only [zheap]; first | done | rfl, zg9, zg9, ?_, zb9, zlq⟩
     rcases happ2 with a1 | ⟨j, a1, a2, a3, a4, a5⟩
     ·exact .inl a1
     ·exact .inr ⟨j, a1, a2, zb9, by simp (disch := first | exact zdl | fail) only [zheap, a4], a5⟩
    | true =>
     simp only [if_true] at hst
     cases gl with
     | nil =>
      have happ2 : tl = .nil \/ ∃ j, tl = .own j /\ p.n + 3 < j /\ j < q.n /\ q.t.get j = some (.tail al.length) /\ 0 < al.length := happ
      simp only [List.append_nil] at hst
      rcases happ2 with a1 | ⟨j, a1, a2, a3, g5, a5⟩
      ·subst a1
       (have zx := zA e2 (zA e3 (zA e4 (zA e6 (zA e7 (zA e8 (zA e9 (zA g1 (zA g2 (zA g3 (zA g4 (zA hlt (zA hbb (zA hK hRR))))))))))))); refine zq67 ?_; try exact zT)
       repeat' (apply zK.s <;> intro hc <;> (try simp only [zhd] at hc) <;> (try have hw := V0a hc) <;> (refine zq67 ?_; try exact zT))
       all_goals (try clear zx)
       exact ⟨16 - (k + 1), by omega, k + 1, ⟨.nil, al, ao⟩, rfl, by omega, zev, zev, zev, zev, zev, zev, zev, by rw [hst], zg9, by rw [hst]; simp (disch := first | exact zdl | fail) only [zheap]; first | done | rfl, zg9, zg9, .inl rfl, zb9, zlq⟩
      ·subst a1
       (have zx := zA e2 (zA e3 (zA e4 (zA e6 (zA e7 (zA e8 (zA e9 (zA g1 (zA g2 (zA g3 (zA g4 (zA g5 (zA hlt (zA hbb (zA hK hRR)))))))))))))); refine zq67 ?_; try exact zT)
       repeat' (apply zK.s <;> intro hc <;> (try simp only [zhd] at hc) <;> (try have hw := V0a hc) <;> (refine zq67 ?_; try exact zT))
       all_goals (try clear zx)
       exact ⟨16 - (k + 1), by omega, k + 1, ⟨.own j, al, ao⟩, rfl, by omega, zev, zev, zev, zev, zev, zev, zev, by rw [hst], zg9, by rw [hst]; simp (disch := first | exact zdl | fail) only [zheap]; first | done | rfl, zg9, zg9, .inr ⟨j, rfl, a2, zb9, zg9, a5⟩, zb9, zlq⟩
     | cons x m =>
      simp only [List.length_cons] at hlen2
      rcases happ with a1 | ⟨j, a1, a2, a3, g5, a5⟩
      ·simp only at a1
       subst a1
       (have zx := zA e2 (zA e3 (zA e4 (zA e6 (zA e7 (zA e8 (zA e9 (zA g1 (zA g2 (zA g3 (zA g4 (zA hlt (zA hbb (zA hK hRR))))))))))))); refine zq67 ?_; try exact zT)
       repeat' (apply zK.s <;> intro hc <;> (try simp only [zhd] at hc) <;> (try have hw := V0a hc) <;> (refine zq67 ?_; try exact zT))
       all_goals (try clear zx)
       exact ⟨16 - (k + 1), by omega, k + 1, ⟨.own (q.n + 1 + 1 + 30), al ++ x :: m, nofun⟩, rfl, by omega, zev, zev, zev, zev, zev, zev, zev, by rw [hst], zg9, by rw [hst]; simp (disch := first | exact zdl | fail) only [zheap]; first | done | rfl, zg9, zg9, .inr ⟨q.n + 1 + 1 + 30, rfl, by omega, zb9, by simp (disch := first | exact zdl | fail) only [zheap, List.length_append, List.length_cons], by simp; omega⟩, zb9, zlq⟩
      ·simp only at a1 g5 a5
       subst a1
       (have zx := zA e2 (zA e3 (zA e4 (zA e6 (zA e7 (zA e8 (zA e9 (zA g1 (zA g2 (zA g3 (zA g4 (zA g5 (zA hlt (zA hbb (zA hK hRR)))))))))))))); refine zq67 ?_; try exact zT)
       repeat' (apply zK.s <;> intro hc <;> (try simp only [zhd] at hc) <;> (try have hw := V0a hc) <;> (refine zq67 ?_; try exact zT))
       all_goals (try clear zx)
       exact ⟨16 - (k + 1), by omega, k + 1, ⟨.own (q.n + 1 + 1 + 30), al ++ x :: m, nofun⟩, rfl, by omega, zev, zev, zev, zev, zev, zev, zev, by rw [hst], zg9, by rw [hst]; simp (disch := first | exact zdl | fail) only [zheap]; first | done | rfl, zg9, zg9, .inr ⟨q.n + 1 + 1 + 30, rfl, by omega, zb9, by simp (disch := first | exact zdl | fail) only [zheap, List.length_append, List.length_cons], by simp; omega⟩, zb9, zlq⟩
   ·simp only [turnStep, hbb, bodyTurn, hK, if_false, List.append_nil] at hst
    have happ2 : tl = .nil \/ ∃ j, tl = .own j /\ p.n + 3 < j /\ j < q.n /\ q.t.get j = some (.tail al.length) /\ 0 < al.length := happ
    (have zx := zA e2 (zA e3 (zA e4 (zA e6 (zA e7 (zA e8 (zA e9 (zA g1 (zA g2 (zA g3 (zA g4 (zA hlt (zA hbb hK)))))))))))); refine zq67 ?_; try exact zT)
    repeat' (apply zK.s <;> intro hc <;> (try simp only [zhd] at hc) <;> (try have hw := V0a hc) <;> (refine zq67 ?_; try exact zT))
    all_goals (try clear zx)
    refine ⟨16 - (k + 1), by omega, k + 1, ⟨tl, al, ao⟩, rfl, by omega, zev, zev, zev, zev, zev, zev, zev, by rw [hst], zg9, by rw [hst]; simp (disch := first | exact zdl | fail) only [zheap]; first | done | rfl, zg9, zg9, ?_, zb9, zlq⟩
    rcases happ2 with a1 | ⟨j, a1, a2, a3, a4, a5⟩
    ·exact .inl a1
    ·exact .inr ⟨j, a1, a2, zb9, by simp (disch := first | exact zdl | fail) only [zheap, a4], a5⟩
  ·have hk16 : k = 16 := by omega
   subst hk16
   have hpl := step_place hR row.l
   have hok0 := step_hit hR row.l
   have hfr0 : (setsS (turnsS c.Rules.l row.l s 16) 16).1.Frame = s.Frame := by rw [(V0p _ 16).2.1, (Z0q _ _ _ 16).2]
   have hsf := (X0f hR).2.2.2
   have hstep : stepS c row.l s = { hitsS c.Players (setsS (turnsS c.Rules.l row.l s 16) 16).1 16 with Frame := min ((hitsS c.Players (setsS (turnsS c.Rules.l row.l s 16) 16).1 16).Frame + 1) 600 } := by unfold stepS; rw [hR]; simp only [Bool.true_eq_false, if_false]
   generalize hTk : turnsS c.Rules.l row.l s 16 = T at hal g2 hlen hpl hok0 hfr0 hstep
   obtain ⟨sk, lk⟩ := T
   simp only at hal g2 hlen hpl
   subst hal
   generalize hs2 : (setsS (sk, al) 16).1 = s2 at hpl hok0 hfr0 hstep
   (have zx := zA e2 (zA e3 (zA e4 (zA e6 (zA e7 (zA e8 (zA e9 (zA g1 (zA g2 (zA g3 (zA g4 hlt)))))))))); refine zq67 ?_; try exact zT)
   repeat' (apply zK.s <;> intro hc <;> (try simp only [zhd] at hc) <;> (try have hw := V0a hc) <;> (refine zq67 ?_; try exact zT))
   all_goals (try clear zx)
   (show W C false noExt call (ZC.loop K1z) _ _ _); refine V0i C false noExt call K1z _ _ _ (K67 c sk ⟨tl, al, ao⟩ p) al.length ⟨0, rfl, by omega, zev, zev, zev, zev, zev, g1, g2, g3, hn, hle⟩ ?_
   clear e2 e3 e4 e6 e7 e8 e9 g1 g2 g3 g4 happ hn hle hlt
   rintro n ρ q ⟨m, rfl, hm, e3, e4, e6, e8, e16, g1, g2, g3, hn, hle⟩
   simp only at hm g2 hlen
   by_cases hlt : (m : Int) < al.length
   ·(have zx := zA e3 (zA e4 (zA e6 (zA e8 (zA e16 (zA g1 (zA g2 (zA g3 hlt))))))); refine zq67 ?_; try exact zT)
    repeat' (apply zK.s <;> intro hc <;> (try simp only [zhd] at hc) <;> (try have hw := V0a hc) <;> (refine zq67 ?_; try exact zT))
    all_goals (try clear zx)
    (show W C false noExt call (ZC.loop K13) _ _ _); refine V0i C false noExt call K13 _ _ _ (L67 c (placeAll sk (al.take m)) ⟨tl, al, ao⟩ m p) 16 ⟨0, false, placeAll sk (al.take m), rfl, by omega, zev, zev, zev, zev, zev, zev, zev, g1, g2, g3, PlaceAt.start _ _, hn, hle⟩ ?_
    clear e3 e4 e6 e8 e16 g1 g2 g3 hn hle
    rintro n ρ q ⟨k, d, t, rfl, hk, e3, e4, e6, e8, e16, e17, e18, g1, g2, g3, hP, hn, hle⟩
    have hbt := t.hBodies
    simp only at hP
    by_cases hlk : (k : Int) < 16
    ·cases d with
     | true =>
      have hend := hP.ended (.inl rfl)
      (have zx := zA e3 (zA e4 (zA e6 (zA e8 (zA e16 (zA e17 (zA e18 (zA g1 (zA g2 (zA g3 hlk))))))))); refine zq67 ?_; try exact zT)
      repeat' (apply zK.s <;> intro hc <;> (try simp only [zhd] at hc) <;> (try have hw := V0a hc) <;> (refine zq67 ?_; try exact zT))
      all_goals (try clear zx)
      exact ⟨al.length - (m + 1), by first | omega | (simp only; omega), m + 1, rfl, by first | omega | (simp only; omega), zev, zev, zev, zev, zev, g1, by rw [g2, hend]; simp only [Q05 (show m < al.length by omega), Y03], g3, hn, hle⟩
     | false =>
      by_cases h0 : (nth t.Bodies k).Kind = 0
      ·have hh := hP.hit (by omega) h0
       (have zx := zA e3 (zA e4 (zA e6 (zA e8 (zA e16 (zA e17 (zA e18 (zA g1 (zA g2 (zA g3 (zA hlk h0)))))))))); refine zq67 ?_; try exact zT)
       repeat' (apply zK.s <;> intro hc <;> (try simp only [zhd] at hc) <;> (try have hw := V0a hc) <;> (refine zq67 ?_; try exact zT))
       all_goals (try clear zx)
       exact ⟨16 - (k + 1), by omega, k + 1, true, _, rfl, by omega, zev, zev, zev, zev, zev, zev, zev, zg9, zg9, zg9, hh, zb9, zlq⟩
      ·have hh := hP.miss (by omega) h0
       (have zx := zA e3 (zA e4 (zA e6 (zA e8 (zA e16 (zA e17 (zA e18 (zA g1 (zA g2 (zA g3 (zA hlk h0)))))))))); refine zq67 ?_; try exact zT)
       repeat' (apply zK.s <;> intro hc <;> (try simp only [zhd] at hc) <;> (try have hw := V0a hc) <;> (refine zq67 ?_; try exact zT))
       all_goals (try clear zx)
       exact ⟨16 - (k + 1), by omega, k + 1, false, t, rfl, by omega, zev, zev, zev, zev, zev, zev, zev, g1, g2, g3, hh, hn, hle⟩
    ·have hend := hP.ended (.inr (by omega))
     (have zx := zA e3 (zA e4 (zA e6 (zA e8 (zA e16 (zA e17 (zA e18 (zA g1 (zA g2 (zA g3 hlk))))))))); refine zq67 ?_; try exact zT)
     repeat' (apply zK.s <;> intro hc <;> (try simp only [zhd] at hc) <;> (try have hw := V0a hc) <;> (refine zq67 ?_; try exact zT))
     all_goals (try clear zx)
     exact ⟨al.length - (m + 1), by first | omega | (simp only; omega), m + 1, rfl, by first | omega | (simp only; omega), zev, zev, zev, zev, zev, g1, by rw [g2, hend]; simp only [Q05 (show m < al.length by omega), Y03], g3, hn, hle⟩
   ·have hm2 : m = al.length := by omega
    rw [hm2, List.take_of_length_le (Nat.le_refl _), <- hpl] at g2
    (have zx := zA e3 (zA e4 (zA e6 (zA e8 (zA e16 (zA g1 (zA g2 (zA g3 hlt))))))); refine zq67 ?_; try exact zT)
    repeat' (apply zK.s <;> intro hc <;> (try simp only [zhd] at hc) <;> (try have hw := V0a hc) <;> (refine zq67 ?_; try exact zT))
    all_goals (try clear zx)
    (show W C false noExt call (ZC.loop K1x) _ _ _); refine V0i C false noExt call K1x _ _ _ (M67 c s2 p) 16 ⟨0, rfl, by omega, zev, zev, zev, zev, g1, g2, g3, hn, hle⟩ ?_
    clear e3 e4 e6 e8 e16 g1 g2 g3 hn hle hlt hm hm2
    rintro n ρ q ⟨i, rfl, hi, e3, e4, e6, e19, g1, g2, g3, hn, hle⟩
    by_cases hlt : (i : Int) < 16
    ·have hok := hitsS_ok c.Players hok0 i hi
     have hst : hitsS c.Players s2 (i + 1) = hitStep c.Players (hitsS c.Players s2 i) i := rfl
     generalize hTi : hitsS c.Players s2 i = si at hst g2 hok
     (have zx := zA e3 (zA e4 (zA e6 (zA e19 (zA g1 (zA g2 (zA g3 hlt)))))); refine zq67 ?_; try exact zT)
     repeat' (apply zK.s <;> intro hc <;> (try simp only [zhd] at hc) <;> (try have hw := V0a hc) <;> (refine zq67 ?_; try exact zT))
     all_goals (try clear zx)
     (show W C false noExt call (ZC.loop V14) _ _ _); refine V0i C false noExt call V14 _ _ _ (N67 c si i p) 16 ⟨0, si, rfl, by omega, zev, zev, zev, zev, zev, g1, g2, g3, HitAt.start _ _ _, hn, hle⟩ ?_
     clear e3 e4 e6 e19 g1 g2 g3 hn hle
     rintro n ρ q ⟨k, t, rfl, hk, e3, e4, e6, e19, e20, g1, g2, g3, hH, hn, hle⟩
     have hbt := t.hBodies
     have hsc := t.hScore
     by_cases hlk : (k : Int) < 16
     ·by_cases hK : (nth t.Bodies i).Kind = 2
      ·cases hx : strikeF (nth t.Bodies i) (nth t.Bodies k) with
       | false =>
        have hh := hH.miss (by omega) hK hx
        by_cases hx1 : (nth t.Bodies k).Kind = 1
        ·have hx2 : bodyHit (nth t.Bodies i) (nth t.Bodies k) = false := by rw [hit_swap hx1 hK]; simpa [strikeF, hx1] using hx
         (have zx := zA e3 (zA e4 (zA e6 (zA e19 (zA e20 (zA g1 (zA g2 (zA g3 (zA hlk (zA hK (zA hx1 hx2)))))))))); refine zq67 ?_; try exact zT)
         repeat' (apply zK.s <;> intro hc <;> (try simp only [zhd] at hc) <;> (try have hw := V0a hc) <;> (refine zq67 ?_; try exact zT))
         all_goals (try clear zx)
         exact ⟨16 - (k + 1), by omega, k + 1, t, rfl, by omega, zev, zev, zev, zev, zev, zg9, zg9, zg9, hh, zb9, zlq⟩
        ·(have zx := zA e3 (zA e4 (zA e6 (zA e19 (zA e20 (zA g1 (zA g2 (zA g3 (zA hlk (zA hK hx1))))))))); refine zq67 ?_; try exact zT)
         repeat' (apply zK.s <;> intro hc <;> (try simp only [zhd] at hc) <;> (try have hw := V0a hc) <;> (refine zq67 ?_; try exact zT))
         all_goals (try clear zx)
         exact ⟨16 - (k + 1), by omega, k + 1, t, rfl, by omega, zev, zev, zev, zev, zev, zg9, zg9, zg9, hh, zb9, zlq⟩
       | true =>
        obtain ⟨hts, hh⟩ := hH.hit (by omega) (by omega) hK hx
        subst hts
        have hx1 : (nth t.Bodies k).Kind = 1 := by simp only [strikeF, Bool.and_eq_true, decide_eq_true_eq] at hx; exact hx.1
        have hx2 : bodyHit (nth t.Bodies i) (nth t.Bodies k) = true := by rw [hit_swap hx1 hK]; simpa [strikeF, hx1] using hx
        have ho := hok.own i (by omega) hK
        have hsv := hok.score (nth t.Bodies i).Owner.toNat (by omega)
        have hmm : min 2147483647 (nth t.Score (nth t.Bodies i).Owner.toNat + 1) = min (nth t.Score (nth t.Bodies i).Owner.toNat + 1) 2147483647 := by omega
        (have zx := zA e3 (zA e4 (zA e6 (zA e19 (zA e20 (zA g1 (zA g2 (zA g3 (zA hlk (zA hK (zA hx1 (zA hx2 hmm))))))))))); refine zq67 ?_; try exact zT)
        repeat' (apply zK.s <;> intro hc <;> (try simp only [zhd] at hc) <;> (try have hw := V0a hc) <;> (refine zq67 ?_; try exact zT))
        all_goals (try clear zx)
        exact ⟨16 - (k + 1), by omega, k + 1, _, rfl, by omega, zev, zev, zev, zev, zev, zg9, zg9, zg9, hh, zb9, zlq⟩
      ·have hend := hH.ended (.inl hK)
       (have zx := zA e3 (zA e4 (zA e6 (zA e19 (zA e20 (zA g1 (zA g2 (zA g3 (zA hlk hK)))))))); refine zq67 ?_; try exact zT)
       repeat' (apply zK.s <;> intro hc <;> (try simp only [zhd] at hc) <;> (try have hw := V0a hc) <;> (refine zq67 ?_; try exact zT))
       all_goals (try clear zx)
       exact ⟨16 - (i + 1), by omega, i + 1, rfl, by omega, zev, zev, zev, zev, g1, by rw [g2, hst, hend], g3, hn, hle⟩
     ·have hend := hH.ended (.inr (by omega))
      (have zx := zA e3 (zA e4 (zA e6 (zA e19 (zA e20 (zA g1 (zA g2 (zA g3 hlk))))))); refine zq67 ?_; try exact zT)
      repeat' (apply zK.s <;> intro hc <;> (try simp only [zhd] at hc) <;> (try have hw := V0a hc) <;> (refine zq67 ?_; try exact zT))
      all_goals (try clear zx)
      exact ⟨16 - (i + 1), by omega, i + 1, rfl, by omega, zev, zev, zev, zev, g1, by rw [g2, hst, hend], g3, hn, hle⟩
    ·have hi16 : i = 16 := by omega
     subst hi16
     have hfr1 : (hitsS c.Players s2 16).Frame = s.Frame := by rw [X08, hfr0]
     rw [hfr1] at hstep
     have hmm : min 600 ((hitsS c.Players s2 16).Frame + 1) = min (s.Frame + 1) 600 := by rw [hfr1]; omega
     (have zx := zA e3 (zA e4 (zA e6 (zA e19 (zA g1 (zA g2 (zA g3 (zA hlt (zA hfr1 hmm)))))))); refine zq67 ?_; try exact zT)
     repeat' (apply zK.s <;> intro hc <;> (try simp only [zhd] at hc) <;> (try have hw := V0a hc) <;> (refine zq67 ?_; try exact zT))
     all_goals (try clear zx)
     refine V0d hF zlq (X0c ?_ (K0d zno67))
     rw [hstep, show min (s.Frame + 1) 600 = min 600 (s.Frame + 1) by omega]
def J65 (players : Int) (l : Lst Int) (p : Hp) (n : Nat) (ρ : Env) (q : Hp) : Prop :=
 ∃ (k : Nat), n = min players.toNat l.l.length - k /\ k <= min players.toNat l.l.length /\ ρ 0 = I players /\ ρ 1 = Lst.cv I l /\ ρ 5 = .slc p.n [] 0 players.toNat /\ ρ 6 = I k /\ q.t.get p.n = some (.var (.n (List.replicate players.toNat sh110)) (.agg ((rowK players l.l k).map Q0b.cv))) /\ p.n < q.n /\ HpLe p q
def R65 : Rel := fun args p r => ∃ (players : Int) (l : Lst Int), args = [I players, Lst.cv I l] /\ (1 <= players /\ players <= 100) /\ r = .ret (Lst.cv Q0b.cv ⟨.part, rowOf players l.l, nofun⟩) p
theorem t65 {T : XCall} (h : Has T 65 R65) (players : Int) (l : Lst Int) {p : Hp} (h1 : 1 <= players /\ players <= 100) : T 65 [I players, Lst.cv I l] p = .ret (Lst.cv Q0b.cv ⟨.part, rowOf players l.l, nofun⟩) p := h _ _ _ ⟨players, l, rfl, h1, rfl⟩
theorem zq65 {A B : Prop} (k : B) (h : A = B := by have zy := zA @zw65 <| zA @rs65 <| zA @tt3 <| zA @tt24 <| zA @tt108 <| zA @tt110 <| zA ti3.eq_1 <| zA ti24.eq_1 <| zA ti108.eq_1 <| zA ti110.eq_1 <| zA @t_69 <| zA @V01 <| zA @K0n <| zA @zsl24 <| zA @zsl108 <| zA @mk108 <| zA @ix108 <| zA @sa108 <| zA @K0y <| @h1; exact zQ) : A := h ▸ k
theorem zge65 {P : Prop} (h : P := by simp (disch := first | exact zdl | fail) only [zheap]; first | done | rfl) : P := h
theorem c65 : Con C 65 R65 := by
 refine Q0e C ?_ ?_ ?_
 ·rintro args p r r' ⟨players, l, h, h1, e⟩ ⟨players', l', h', h1', e'⟩
  subst e; subst e'; simp_all [Q0b.inj_iff, K0b.inj_iff, Y0r, Z02, Y0r]
 ·rintro args p r ⟨players, l, h, h1, rfl⟩; exact zr1
 rintro args p r ⟨players, l, rfl, h1, rfl⟩
 show AnsAt C 65 [I players, Lst.cv I l] p (.ret (.lst .part ((rowOf players l.l).map Q0b.cv)) p)
 refine ans_freeze C (sh := .n (List.replicate players.toNat sh110)) (l := (rowOf players l.l).map Q0b.cv) (sz := 4) (fun x hx => by obtain ⟨y, _, rfl⟩ := List.mem_map.1 hx; rfl) (fun j hj => (Q0q Q0b.nohas _ j hj).elim) ?_
 refine zW C false [(69, R69)] ⟨c69, zT⟩ rfl xf65 zc65_ok fun call zh hF => ?_
 have t_69 := @t69 _ zh.1
 clear zh
 have hp : ((players.toNat : Nat) : Int) = players := by omega
 have hfin : ∀ q : Hp, q.t.get p.n = some (.var (.n (List.replicate players.toNat sh110)) (.agg ((rowOf players l.l).map Q0b.cv))) -> HpLe p q -> ShrR p (.ret (.slc p.n [] 0 players.toNat) q) (.ret (.slc p.n [] 0 (rowOf players l.l).length) (p.new (.var (.n (List.replicate players.toNat sh110)) (.agg ((rowOf players l.l).map Q0b.cv))))) := by
  intro q g1 hle
  rw [rowOf_len]
  refine V1e (by show p.n <= p.n + 1; omega) (fun j o h => ?_) ⟨rfl, Nat.lt_succ_self _, rfl, rfl, rfl⟩
  by_cases hj : j = p.n
  ·subst hj
   rw [Hp.get_new_self] at h; cases h
   exact ⟨Nat.lt_succ_self _, .inr ⟨_, g1, K0p fun i hi => by simp only [XObj.has, CV.has] at hi; exact (Q0q Q0b.nohas _ i hi).elim⟩⟩
  ·rw [Hp.get_new_ne _ _ hj] at h
   have hd := hF.dom _ _ h
   exact ⟨Nat.lt_succ_of_lt hd, .inl ⟨hd, h, hle j o h⟩⟩
 (have zx := zT; refine zq65 ?_; try exact zT)
 repeat' (apply zK.s <;> intro hc <;> (try simp only [zhd] at hc) <;> (try have hw := V0a hc) <;> (refine zq65 ?_; try exact zT))
 all_goals (try clear zx)
 (show W C false noExt call (ZC.loop zn65_9) _ _ _); refine V0i C false noExt call zn65_9 _ _ _ (J65 players l p) (min players.toNat l.l.length) ⟨0, rfl, by omega, (by simp [put_at, Y0c, K0e]), (by simp [put_at, Y0c]; rfl), (by simp [put_at, Y0c, K0e]), (by simp [put_at, Y0c, K0e]), zge65, (zb9), zle⟩ ?_
 rintro n ρ q ⟨k, rfl, hk, e0, e1, e5, e6, g1, hn, hle⟩
 have hlen := Y11 players l.l k
 by_cases hlt : (k : Int) < players
 ·by_cases hll : (k : Int) < l.l.length
  ·have hw := wrap_range ((nth l.l k).tdiv 7)
   by_cases h4 : 0 < (nth l.l k).tmod 4
   ·have hst : rowK players l.l (k + 1) = (rowK players l.l k).set k (cellOf (nth l.l k)) := by simp [rowK, h4]
    (have zx := zA e0 (zA e1 (zA e5 (zA e6 (zA g1 (zA hlt (zA hll h4)))))); refine zq65 ?_; try exact zT)
    repeat' (apply zK.s <;> intro hc <;> (try simp only [zhd] at hc) <;> (try have hw := V0a hc) <;> (refine zq65 ?_; try exact zT))
    all_goals (try clear zx)
    exact ⟨min players.toNat l.l.length - (k + 1), by omega, k + 1, rfl, by omega, zev, zev, zev, zev, by rw [hst]; simp (disch := first | exact zdl | fail) only [zheap]; first | done | rfl, zb9, zlq⟩
   ·have hst : rowK players l.l (k + 1) = rowK players l.l k := by simp [rowK, h4]
    (have zx := zA e0 (zA e1 (zA e5 (zA e6 (zA g1 (zA hlt (zA hll h4)))))); refine zq65 ?_; try exact zT)
    repeat' (apply zK.s <;> intro hc <;> (try simp only [zhd] at hc) <;> (try have hw := V0a hc) <;> (refine zq65 ?_; try exact zT))
    all_goals (try clear zx)
    exact ⟨min players.toNat l.l.length - (k + 1), by omega, k + 1, rfl, by omega, zev, zev, zev, zev, by rw [hst]; exact g1, hn, hle⟩
  ·have hk2 : k = min players.toNat l.l.length := by omega
   (have zx := zA e0 (zA e1 (zA e5 (zA e6 (zA g1 (zA hlt hll))))); refine zq65 ?_; try exact zT)
   repeat' (apply zK.s <;> intro hc <;> (try simp only [zhd] at hc) <;> (try have hw := V0a hc) <;> (refine zq65 ?_; try exact zT))
   all_goals (try clear zx)
   exact hfin q (by rw [g1, hk2]; rfl) hle
 ·have hk2 : k = min players.toNat l.l.length := by omega
  (have zx := zA e0 (zA e1 (zA e5 (zA e6 (zA g1 hlt)))); refine zq65 ?_; try exact zT)
  repeat' (apply zK.s <;> intro hc <;> (try simp only [zhd] at hc) <;> (try have hw := V0a hc) <;> (refine zq65 ?_; try exact zT))
  all_goals (try clear zx)
  exact hfin q (by rw [g1, hk2]; rfl) hle
def J61 (players : Int) (l : Lst (Lst Int)) (p : Hp) (n : Nat) (ρ : Env) (q : Hp) : Prop :=
 ∃ (k : Nat) (acc : Lst (Lst Q0b)), n = 40 - k /\ k <= 40 /\ k <= l.l.length /\ ρ 0 = I players /\ ρ 1 = Lst.cv (Lst.cv I) l /\ ρ 5 = acc.cv (Lst.cv Q0b.cv) /\ ρ 6 = I k /\ acc.l = (l.l.take k).map (rowL players) /\ (acc.tl = .nil \/ ∃ j, acc.tl = .own j /\ p.n <= j /\ j < q.n /\ q.t.get j = some (.tail acc.l.length) /\ 0 < acc.l.length) /\ p.n <= q.n /\ HpLe p q
def R61 : Rel := fun args p r => ∃ (players : Int) (l : Lst (Lst Int)), args = [I players, Lst.cv (Lst.cv I) l] /\ (1 <= players /\ players <= 100) /\ r = .ret (Lst.cv (Lst.cv Q0b.cv) (ownL (rowsOf players l.l) p.n)) (ownH (rowsOf players l.l) p)
theorem t61 {T : XCall} (h : Has T 61 R61) (players : Int) (l : Lst (Lst Int)) {p : Hp} (h1 : 1 <= players /\ players <= 100) : T 61 [I players, Lst.cv (Lst.cv I) l] p = .ret (Lst.cv (Lst.cv Q0b.cv) (ownL (rowsOf players l.l) p.n)) (ownH (rowsOf players l.l) p) := h _ _ _ ⟨players, l, rfl, h1, rfl⟩
theorem zq61 {A B : Prop} (k : B) (h : A = B := by have zy := zA @zw61 <| zA @rs61 <| zA @tt3 <| zA @tt24 <| zA @tt58 <| zA @tt92 <| zA ti3.eq_1 <| zA ti24.eq_1 <| zA ti58.eq_1 <| zA ti92.eq_1 <| zA @t_65 <| zA @V01 <| zA @zsl24 <| zA @zsl58 <| zA @zsl92 <| @h1; exact zQ) : A := h ▸ k
theorem c61 : Con C 61 R61 := by
 refine Q0e C ?_ ?_ ?_
 ·rintro args p r r' ⟨players, l, h, h1, e⟩ ⟨players', l', h', h1', e'⟩
  subst e; subst e'; simp_all [Q0b.inj_iff, Y0r, K1e, Q13, K1e]
 ·rintro args p r ⟨players, l, h, h1, rfl⟩; exact zr1
 rintro args p r ⟨players, l, rfl, h1, rfl⟩
 refine zW C false [(65, R65)] ⟨c65, zT⟩ rfl xf61 zc61_ok fun call zh hF => ?_
 have t_65 := @t65 _ zh.1
 clear zh
 (have zx := zT; refine zq61 ?_; try exact zT)
 repeat' (apply zK.s <;> intro hc <;> (try simp only [zhd] at hc) <;> (try have hw := V0a hc) <;> (refine zq61 ?_; try exact zT))
 all_goals (try clear zx)
 show W C false noExt call (ZC.block 0 (ZC.loop zn61_9)) _ _ (seqQ _ _)
 refine W_cut C false noExt call _ _ _ _ (fun ρ q => ∃ acc : Lst (Lst Q0b), ρ 5 = acc.cv (Lst.cv Q0b.cv) /\ acc.l = rowsOf players l.l /\ (acc.tl = .nil \/ ∃ j, acc.tl = .own j /\ p.n <= j /\ q.t.get j = some (.tail acc.l.length) /\ 0 < acc.l.length) /\ HpLe p q) ?_ ?_
 ·(show W C false noExt call (ZC.loop zn61_9) _ _ _); refine V0i C false noExt call zn61_9 _ _ _ (J61 players l p) 40 ⟨0, ⟨.nil, [], fun _ => rfl⟩, rfl, by omega, by omega, (by simp [put_at, Y0c, K0e]), (by simp [put_at, Y0c]; rfl), by simp [put_at, Y0c, K0e, Lst.cv], (by simp [put_at, Y0c, K0e]), by simp, .inl rfl, by omega, zle⟩ ?_
  rintro n ρ q ⟨k, ⟨tl, al, ao⟩, rfl, hk, hkl, e0, e1, e5, e6, hacc, happ, hn, hle⟩
  have hal : al.length = k := by simp only at hacc; rw [hacc]; simp; omega
  by_cases hlt : (k : Int) < l.l.length
  ·by_cases h40 : (k : Int) < 40
   ·have htk := take_nx (l := l.l) (k := k) (by omega)
    have hrow : (⟨.part, rowOf players (nth l.l k).l, nofun⟩ : Lst Q0b) = rowL players (nth l.l k) := rfl
    rcases happ with ht | ⟨j, ht, hj1, hj2, g1, hj4⟩
    ·simp only at ht
     subst ht
     (have zx := zA e0 (zA e1 (zA e5 (zA e6 (zA hlt (zA h40 hrow))))); refine zq61 ?_; try exact zT)
     repeat' (apply zK.s <;> intro hc <;> (try simp only [zhd] at hc) <;> (try have hw := V0a hc) <;> (refine zq61 ?_; try exact zT))
     all_goals (try clear zx)
     exact ⟨40 - (k + 1), by omega, k + 1, ⟨.own q.n, al ++ [rowL players (nth l.l k)], nofun⟩, rfl, by omega, by omega, zev, zev, zev, zev, by simp only at hacc; rw [htk, List.map_append, hacc]; rfl, .inr ⟨q.n, rfl, hn, zb9, by simp (disch := first | exact zdl | fail) only [zheap, List.length_append, List.length_cons, List.length_nil], by simp⟩, zb9, zlq⟩
    ·simp only at ht g1 hj4
     subst ht
     (have zx := zA e0 (zA e1 (zA e5 (zA e6 (zA hlt (zA h40 (zA g1 hrow)))))); refine zq61 ?_; try exact zT)
     repeat' (apply zK.s <;> intro hc <;> (try simp only [zhd] at hc) <;> (try have hw := V0a hc) <;> (refine zq61 ?_; try exact zT))
     all_goals (try clear zx)
     exact ⟨40 - (k + 1), by omega, k + 1, ⟨.own q.n, al ++ [rowL players (nth l.l k)], nofun⟩, rfl, by omega, by omega, zev, zev, zev, zev, by simp only at hacc; rw [htk, List.map_append, hacc]; rfl, .inr ⟨q.n, rfl, hn, zb9, by simp (disch := first | exact zdl | fail) only [zheap, List.length_append, List.length_cons, List.length_nil], by simp⟩, zb9, zlq⟩
   ·(have zx := zA e0 (zA e1 (zA e5 (zA e6 (zA hlt h40)))); refine zq61 ?_; try exact zT)
    repeat' (apply zK.s <;> intro hc <;> (try simp only [zhd] at hc) <;> (try have hw := V0a hc) <;> (refine zq61 ?_; try exact zT))
    all_goals (try clear zx)
    have hk40 : k = 40 := by omega
    subst hk40
    exact ⟨⟨tl, al, ao⟩, zev, hacc, happ.imp id fun ⟨j, h1, h2, _, h4, h5⟩ => ⟨j, h1, h2, h4, h5⟩, hle⟩
  ·(have zx := zA e0 (zA e1 (zA e5 (zA e6 hlt))); refine zq61 ?_; try exact zT)
   repeat' (apply zK.s <;> intro hc <;> (try simp only [zhd] at hc) <;> (try have hw := V0a hc) <;> (refine zq61 ?_; try exact zT))
   all_goals (try clear zx)
   have ht : l.l.take k = l.l.take 40 := by rw [List.take_of_length_le (by omega), List.take_of_length_le (by omega)]
   exact ⟨⟨tl, al, ao⟩, zev, by rw [hacc, ht]; rfl, happ.imp id fun ⟨j, h1, h2, _, h4, h5⟩ => ⟨j, h1, h2, h4, h5⟩, hle⟩
 rintro ρ q ⟨acc, e5, hacc, happ, hle⟩
 (have zx := e5; refine zq61 ?_; try exact zT)
 repeat' (apply zK.s <;> intro hc <;> (try simp only [zhd] at hc) <;> (try have hw := V0a hc) <;> (refine zq61 ?_; try exact zT))
 all_goals (try clear zx)
 rw [<- hacc]
 exact shr_ownL hF acc hle happ (fun x hx j => by
  rw [hacc] at hx
  obtain ⟨y, _, rfl⟩ := List.mem_map.1 hx
  intro h; cases ((Lst.has _ Q0b.nohas _ j).1 h))
def J58 (c : X0a) (p : Hp) (n : Nat) (ρ : Env) (q : Hp) : Prop :=
 ∃ (k : Nat), n = c.Players.toNat - k /\ k <= c.Players.toNat /\ ρ 1 = .ptr p.n [] /\ ρ 2 = .ptr (p.n + 1) [] /\ ρ 3 = .ptr (p.n + 2) [] /\ ρ 14 = I c.Players /\ ρ 15 = I k /\ q.t.get p.n = some (.var sh61 c.cv) /\ q.t.get (p.n + 1) = some (.var sh66 K0a.zero.cv) /\ q.t.get (p.n + 2) = some (.var sh66 (firstK c k).cv) /\ p.n + 2 < q.n /\ HpLe p q
def R58 : Rel := fun args p r => ∃ (c : X0a), args = [c.cv] /\ (c.Tokens.l.length <= 1000000) /\ (c.Rules.l.length <= 1000000) /\ r = .ret (firstS c).cv p
theorem t58 {T : XCall} (h : Has T 58 R58) (c : X0a) {p : Hp} (hl : c.Tokens.l.length <= 1000000) (hr : c.Rules.l.length <= 1000000) : T 58 [c.cv] p = .ret (firstS c).cv p := h _ _ _ ⟨c, rfl, hl, hr, rfl⟩
theorem zq58 {A B : Prop} (k : B) (h : A = B := by have zy := zA @zw58 <| zA @rs58 <| zA @tt3 <| zA @tt34 <| zA @tt61 <| zA @tt63 <| zA @tt66 <| zA ti3.eq_1 <| zA ti34.eq_1 <| zA ti61.eq_1 <| zA ti63.eq_1 <| zA ti66.eq_1 <| zA @t_60 <| zA @t_64 <| zA @t_133 <| zA @Y0e <| zA @Y0f <| zA @Z0e <| zA @zsl63 <| zA @hl <| @hr; exact zQ) : A := h ▸ k
theorem zno58 {P : Prop} (h : P := by intro jj; simp [CV.has, CV.hasL, fault, X0b.nohas, K0a.nohas, Q0a.nohas]) : P := h
theorem zge58 {P : Prop} (h : P := by simp (disch := first | exact zdl | fail) only [zheap]; first | done | rfl) : P := h
theorem c58 : Con C 58 R58 := by
 refine Q0e C ?_ ?_ ?_
 ·rintro args p r r' ⟨c, h, hl, hr, e⟩ ⟨c', h', hl', hr', e'⟩
  subst e; subst e'; simp_all [X0a.inj_iff, K0a.inj_iff, Q0a.inj_iff]
 ·rintro args p r ⟨c, h, hl, hr, rfl⟩; exact zr1
 rintro args p r ⟨c, rfl, hl, hr, rfl⟩
 refine zW C false [(60, R60), (64, R64), (133, R133)] ⟨c60, c64, c133, zT⟩ rfl xf58 zc58_ok fun call zh hF => ?_
 have t_60 := @t60 _ zh.1
 have t_64 := @t64 _ zh.2.1
 have t_133 := @t133 _ zh.2.2.1
 clear zh
 cases hL : legalC c with
 | false =>
  (have zx := hL; refine zq58 ?_; try exact zT)
  repeat' (apply zK.s <;> intro hc <;> (try simp only [zhd] at hc) <;> (try have hw := V0a hc) <;> (refine zq58 ?_; try exact zT))
  all_goals (try clear zx)
  refine V0d hF zle (X0c ?_ (K0d zno58))
  simp [firstS, hL]; rfl
 | true =>
  have hP := (Q0h hL).1
  have hPn : ((c.Players.toNat : Nat) : Int) = c.Players := by omega
  (have zx := hL; refine zq58 ?_; try exact zT)
  repeat' (apply zK.s <;> intro hc <;> (try simp only [zhd] at hc) <;> (try have hw := V0a hc) <;> (refine zq58 ?_; try exact zT))
  all_goals (try clear zx)
  (show W C false noExt call (ZC.loop X15) _ _ _); refine V0i C false noExt call X15 _ _ _ (J58 c p) c.Players.toNat ⟨0, rfl, by omega, (by simp [put_at, Y0c, K0e]), (by simp [put_at, Y0c, K0e]), (by simp [put_at, Y0c, K0e]), (by simp [put_at, Y0c, K0e]), (by simp [put_at, Y0c, K0e]), zge58, zge58, zge58, (zb9), zle⟩ ?_
  rintro n ρ q ⟨k, rfl, hk, e1, e2, e3, e14, e15, g1, g2, g3, hn, hle⟩
  by_cases hlt : (k : Int) < c.Players
  ·have hbk := (firstK c k).hBodies
   have hk8 : k < 8 := by omega
   (have zx := zA e1 (zA e2 (zA e3 (zA e14 (zA e15 (zA g1 (zA g2 (zA g3 hlt))))))); refine zq58 ?_; try exact zT)
   repeat' (apply zK.s <;> intro hc <;> (try simp only [zhd] at hc) <;> (try have hw := V0a hc) <;> (refine zq58 ?_; try exact zT))
   all_goals (try clear zx)
   exact ⟨c.Players.toNat - (k + 1), by omega, k + 1, rfl, by omega, zev, zev, zev, zev, zev, zg9, zg9, zg9, zb9, zlq⟩
  ·have hk8 : k = c.Players.toNat := by omega
   subst hk8
   (have zx := zA e1 (zA e2 (zA e3 (zA e14 (zA e15 (zA g1 (zA g2 (zA g3 hlt))))))); refine zq58 ?_; try exact zT)
   repeat' (apply zK.s <;> intro hc <;> (try simp only [zhd] at hc) <;> (try have hw := V0a hc) <;> (refine zq58 ?_; try exact zT))
   all_goals (try clear zx)
   refine V0d hF zlq (X0c ?_ (K0d zno58))
   simp [firstS, hL]
end Go.Proofs.Ytpchcfkebljopaa
end
section
namespace Go.Proofs.Ytpchcfkebljopaa
open Go.Cl Go Go.RowKit
def stateOf (c : X0a) (l : List (Lst Int)) : K0a := gameFold c ((rowsOf c.Players l).map Lst.l) (firstS c)
theorem Z11 {c : X0a} (h : legalC c = true) (l : List (Lst Int)) : stateRight c (stateOf c l) = true := by
 have hf := K1a h
 have hr := K1v c.Players l
 exact (Y1q _ _ hf.1 (by rw [hf.2, List.length_map]; omega)).1
theorem stateOf_dice (c : X0a) (l : List (Lst Int)) : diceOk (stateOf c l) := fold_dice _ (Y1u c)
end Go.Proofs.Ytpchcfkebljopaa
end
section
namespace Go.Proofs.Ytpchcfkebljopaa
open Go.Cl Go Go.RowKit
set_option maxRecDepth 100000
set_option linter.constructorNameAsVariable false
def J87 (c : X0a) (s : K0a) (rows : Lst (Lst Q0b)) (p : Hp) (n : Nat) (ρ : Env) (q : Hp) : Prop :=
 ∃ (k : Nat) (st : K0a), n = rows.l.length - k /\ k <= rows.l.length /\ ρ 2 = rows.cv (Lst.cv Q0b.cv) /\ ρ 3 = .ptr p.n [] /\ ρ 4 = .ptr (p.n + 1) [] /\ ρ 6 = .ptr (p.n + 2) [] /\ ρ 7 = I k /\ q.t.get p.n = some (.var sh61 c.cv) /\ q.t.get (p.n + 1) = some (.var sh66 st.cv) /\ q.t.get (p.n + 2) = some (.var sh66 K0a.zero.cv) /\ gameFold c ((rows.l.drop k).map Lst.l) st = gameFold c (rows.l.map Lst.l) s /\ p.n + 2 < q.n /\ HpLe p q
def R87 : Rel := fun args p r => ∃ (c : X0a) (s : K0a) (rows : Lst (Lst Q0b)), args = [c.cv, s.cv, rows.cv (Lst.cv Q0b.cv)] /\ (c.Tokens.l.length <= 1000000) /\ (c.Rules.l.length <= 1000000) /\ (rows.l.length <= 1000000) /\ r = .ret (gameFold c (rows.l.map Lst.l) s).cv p
theorem t87 {T : XCall} (h : Has T 87 R87) (c : X0a) (s : K0a) (rows : Lst (Lst Q0b)) {p : Hp} (hl : c.Tokens.l.length <= 1000000) (hr : c.Rules.l.length <= 1000000) (hn0 : rows.l.length <= 1000000) : T 87 [c.cv, s.cv, rows.cv (Lst.cv Q0b.cv)] p = .ret (gameFold c (rows.l.map Lst.l) s).cv p := h _ _ _ ⟨c, s, rows, rfl, hl, hr, hn0, rfl⟩
theorem zq87 {A B : Prop} (k : B) (h : A = B := by have zy := zA @zw87 <| zA @rs87 <| zA @tt3 <| zA @tt61 <| zA @tt66 <| zA @tt92 <| zA @tt108 <| zA ti3.eq_1 <| zA ti61.eq_1 <| zA ti66.eq_1 <| zA ti92.eq_1 <| zA ti108.eq_1 <| zA @t_67 <| zA @Y0e <| zA @Y0f <| zA @zsl92 <| zA @zsl108 <| zA @hl <| zA @hr <| @hn0; exact zQ) : A := h ▸ k
theorem zno87 {P : Prop} (h : P := by intro jj; simp [CV.has, CV.hasL, fault, X0b.nohas, K0a.nohas]) : P := h
theorem zge87 {P : Prop} (h : P := by simp (disch := first | exact zdl | fail) only [zheap]; first | done | rfl) : P := h
theorem c87 : Con C 87 R87 := by
 refine Q0e C ?_ ?_ ?_
 ·rintro args p r r' ⟨c, s, rows, h, hl, hr, hn0, e⟩ ⟨c', s', rows', h', hl', hr', hn0', e'⟩
  subst e; subst e'; simp_all [X0a.inj_iff, K0a.inj_iff, Q13, Z02, Q13]
 ·rintro args p r ⟨c, s, rows, h, hl, hr, hn0, rfl⟩; exact zr1
 rintro args p r ⟨c, s, rows, rfl, hl, hr, hn0, rfl⟩
 refine zW C false [(67, R67)] ⟨c67, zT⟩ rfl xf87 zc87_ok fun call zh hF => ?_
 have t_67 := @t67 _ zh.1
 clear zh
 (have zx := zT; refine zq87 ?_; try exact zT)
 repeat' (apply zK.s <;> intro hc <;> (try simp only [zhd] at hc) <;> (try have hw := V0a hc) <;> (refine zq87 ?_; try exact zT))
 all_goals (try clear zx)
 (show W C false noExt call (ZC.loop zn87_7) _ _ _); refine V0i C false noExt call zn87_7 _ _ _ (J87 c s rows p) rows.l.length ⟨0, s, rfl, by omega, by simp [put_at, Y0c, K0e, V1s], (by simp [put_at, Y0c, K0e]), (by simp [put_at, Y0c, K0e]), (by simp [put_at, Y0c, K0e]), (by simp [put_at, Y0c, K0e]), zge87, zge87, zge87, rfl, (zb9), zle⟩ ?_
 rintro n ρ q ⟨k, st, rfl, hk, e2, e3, e4, e6, e7, g1, g2, g3, hj, hn, hle⟩
 by_cases hlt : (k : Int) < rows.l.length
 ·rw [Z0u (l := rows.l) (k := k) (by omega)] at hj
  (have zx := zA e2 (zA e3 (zA e4 (zA e6 (zA e7 (zA g1 (zA g2 (zA g3 hlt))))))); refine zq87 ?_; try exact zT)
  repeat' (apply zK.s <;> intro hc <;> (try simp only [zhd] at hc) <;> (try have hw := V0a hc) <;> (refine zq87 ?_; try exact zT))
  all_goals (try clear zx)
  exact ⟨rows.l.length - (k + 1), by omega, k + 1, stepS c (nth rows.l k).l st, rfl, by omega, zev, zev, zev, zev, zev, zg9, zg9, zg9, hj, zb9, zlq⟩
 ·have hk8 : k = rows.l.length := by omega
  subst hk8
  rw [List.drop_eq_nil_of_le (Nat.le_refl _)] at hj
  have hj : st = gameFold c (rows.l.map Lst.l) s := hj
  (have zx := zA e2 (zA e3 (zA e4 (zA e6 (zA e7 (zA g1 (zA g2 (zA g3 hlt))))))); refine zq87 ?_; try exact zT)
  repeat' (apply zK.s <;> intro hc <;> (try simp only [zhd] at hc) <;> (try have hw := V0a hc) <;> (refine zq87 ?_; try exact zT))
  all_goals (try clear zx)
  refine V0d hF zlq (X0c ?_ (K0d zno87))
  rw [hj]
def R32 : Rel := fun args p r => ∃ (c : X0a) (l : Lst (Lst Int)), args = [c.cv, Lst.cv (Lst.cv I) l] /\ (c.Tokens.l.length <= 1000000) /\ (c.Rules.l.length <= 1000000) /\ (1 <= c.Players /\ c.Players <= 100) /\ r = .ret (stateOf c l.l).cv p
theorem t32 {T : XCall} (h : Has T 32 R32) (c : X0a) (l : Lst (Lst Int)) {p : Hp} (hl : c.Tokens.l.length <= 1000000) (hr : c.Rules.l.length <= 1000000) (hp : 1 <= c.Players /\ c.Players <= 100) : T 32 [c.cv, Lst.cv (Lst.cv I) l] p = .ret (stateOf c l.l).cv p := h _ _ _ ⟨c, l, rfl, hl, hr, hp, rfl⟩
theorem zq32 {A B : Prop} (k : B) (h : A = B := by have zy := zA @zw32 <| zA @rs32 <| zA @tt3 <| zA @tt61 <| zA @tt66 <| zA ti3.eq_1 <| zA ti61.eq_1 <| zA ti66.eq_1 <| zA @t_61 <| zA @t_66 <| zA @t_87 <| zA @Y0e <| zA @Y0f <| zA @ownL_nil <| zA @ownL_cons <| zA @ownH_nil <| zA @ownH_cons <| zA @hl <| zA @hr <| @hp; exact zQ) : A := h ▸ k
theorem zno32 {P : Prop} (h : P := by intro jj; simp [CV.has, CV.hasL, fault, X0b.nohas, K0a.nohas]) : P := h
theorem c32 : Con C 32 R32 := by
 refine Q0e C ?_ ?_ ?_
 ·rintro args p r r' ⟨c, l, h, hl, hr, hp, e⟩ ⟨c', l', h', hl', hr', hp', e'⟩
  subst e; subst e'; simp_all [X0a.inj_iff, K0a.inj_iff, K1e]
 ·rintro args p r ⟨c, l, h, hl, hr, hp, rfl⟩; exact zr1
 rintro args p r ⟨c, l, rfl, hl, hr, hp, rfl⟩
 refine zW C false [(61, R61), (66, R66), (87, R87)] ⟨c61, c66, c87, zT⟩ rfl xf32 zc32_ok fun call zh hF => ?_
 have t_61 := @t61 _ zh.1
 have t_66 := @t66 _ zh.2.1
 have t_87 := @t87 _ zh.2.2.1
 clear zh
 have hrl := K1v c.Players l.l
 have hst : stateOf c l.l = gameFold c ((rowsOf c.Players l.l).map Lst.l) (firstS c) := rfl
 generalize hR : rowsOf c.Players l.l = R at hrl hst
 cases R with
 | nil =>
  (have zx := hR; refine zq32 ?_; try exact zT)
  repeat' (apply zK.s <;> intro hc <;> (try simp only [zhd] at hc) <;> (try have hw := V0a hc) <;> (refine zq32 ?_; try exact zT))
  all_goals (try clear zx)
  rw [hst]
  exact V0d hF zle (X0c rfl (K0d zno32))
 | cons r R =>
  have hrr : R.length <= 39 := by simpa using hrl
  (have zx := hR; refine zq32 ?_; try exact zT)
  repeat' (apply zK.s <;> intro hc <;> (try simp only [zhd] at hc) <;> (try have hw := V0a hc) <;> (refine zq32 ?_; try exact zT))
  all_goals (try clear zx)
  rw [hst]
  exact V0d hF zle (X0c rfl (K0d zno32))
theorem partB_nv (l : List Int) : (partB l).tl ≠ .view := nofun
def oneS : X0a := { Players := 1, Period := 1, Grace := 0, Start := 0, Frames := 50, Seed := 0, Rate := 4607182418800017408, Depth := 4617315517961601024, Rules := ⟨.nil, [], fun _ => rfl⟩, Tokens := ⟨.exact, [3], nofun⟩ }
def R92 : Rel := fun args p r => args = [] /\ r = .ret oneS.cv p
theorem t92 {T : XCall} (h : Has T 92 R92)  {p : Hp}  : T 92 [] p = .ret oneS.cv p := h _ _ _ ⟨rfl, rfl⟩
theorem zq92 {A B : Prop} (k : B) (h : A = B := by have zy := zA @zw92 <| zA @rs92 <| zA @tt24 <| zA @tt61 <| zA ti24.eq_1 <| zA ti61.eq_1 <| zA @Y0e <| @zsl24; exact zQ) : A := h ▸ k
theorem c92 : Con C 92 R92 := by
 refine Q0e C ?_ ?_ ?_
 ·rintro args p r r' ⟨h, e⟩ ⟨h', e'⟩
  subst e; subst e'; simp_all [X0a.inj_iff, Y0r]
 ·rintro args p r ⟨h, rfl⟩; exact zr1
 rintro args p r ⟨rfl, rfl⟩
 refine zW C false [] zT rfl xf92 zc92_ok fun call zh hF => ?_
 clear zh
 (have zx := zT; refine zq92 ?_; try exact zT)
 repeat' (apply zK.s <;> intro hc <;> (try simp only [zhd] at hc) <;> (try have hw := V0a hc) <;> (refine zq92 ?_; try exact zT))
 all_goals (try clear zx)
 exact V0d hF zle (X0c rfl (K0d (by intro jj hj; rcases (X0a.has oneS jj).1 hj with h | h <;> cases h)))
theorem Z05 : legalC oneS = true := by decide +kernel
theorem oneS_bits : bodiesN (firstS oneS).Bodies = 185 := by
 have h : firstS oneS = firstK oneS 1 := by unfold firstS; rw [if_pos Z05]; rfl
 rw [h]; decide +kernel
theorem oneS_x : (nth (firstS oneS).Bodies 0).X = 2048 := by
 have h : firstS oneS = firstK oneS 1 := by unfold firstS; rw [if_pos Z05]; rfl
 rw [h]; decide +kernel
def R34 : Rel := fun args p r => args = [] /\ r = .ret (Bo true) p
theorem t34 {T : XCall} (h : Has T 34 R34)  {p : Hp}  : T 34 [] p = .ret (Bo true) p := h _ _ _ ⟨rfl, rfl⟩
theorem zdis34 {P : Prop} (h : P := by first | exact zdis | (simp only [Hp.bump_n, Hp.znew_n, Hp.zset_n, List.length_nil, List.length_cons, List.length_append, List.length_map, Q07]; (first | done | omega)) | (simp (disch := first | exact zd1 | (simp only [Hp.bump_n, Hp.znew_n, Hp.zset_n, List.length_nil, List.length_cons, List.length_append, List.length_map, Q07]; (first | done | omega))) only [zheap, zx]; (first | done | rfl)) | fail) : P := h
theorem zq34 {A B : Prop} (k : B) (h : A = B := by have zy := zA @zw34 <| zA @rs34 <| zA @tt3 <| zA @tt34 <| zA @tt61 <| zA @tt63 <| zA @tt66 <| zA @tt68 <| zA @tt69 <| zA ti3.eq_1 <| zA ti34.eq_1 <| zA ti61.eq_1 <| zA ti63.eq_1 <| zA ti66.eq_1 <| zA ti68.eq_1 <| zA ti69.eq_1 <| zA @t_92 <| zA @t_58 <| zA @t_33 <| zA @t_36 <| zA @t_35 <| zA @Y0e <| zA @Y0f <| zA @Z0e <| zA @zsl63 <| zA @zsl68 <| @Q07; have zd := @zdis34; exact zQd) : A := h ▸ k
theorem zno34 {P : Prop} (h : P := by intro jj; simp [CV.has, CV.hasL, fault, X0b.nohas, K0a.nohas, Q0a.nohas]) : P := h
theorem c34 : Con C 34 R34 := by
 refine Q0e C ?_ ?_ ?_
 ·rintro args p r r' ⟨h, e⟩ ⟨h', e'⟩
  subst e; subst e'; simp_all [X0a.inj_iff, K0a.inj_iff, Q0a.inj_iff, X0n]
 ·rintro args p r ⟨h, rfl⟩; exact zr1
 rintro args p r ⟨rfl, rfl⟩
 refine zW C false [(92, R92), (58, R58), (33, R33), (36, R36), (35, R35)] ⟨c92, c58, c33, c36, c35, zT⟩ rfl xf34 zc34_ok fun call zh hF => ?_
 have t_92 := @t92 _ zh.1
 have t_58 := @t58 _ zh.2.1
 have t_33 := @t33 _ zh.2.2.1
 have t_36 := @t36 _ zh.2.2.2.1
 have t_35 := @t35 _ zh.2.2.2.2.1
 clear zh
 have hL := Z05
 have hf := K1a hL
 have hR := hf.1
 have hd := Y1u oneS
 have hrl := read_lay hR hd
 have hlen : (layS oneS (firstS oneS)).length = 37 := by
  unfold layS; rw [Q0i, K1l hR, oneS_bits]; rfl
 have hby := lay_byte oneS (firstS oneS)
 have hx := oneS_x
 have ht : oneS.Tokens.l.length <= 1000000 := by decide
 have hrr : oneS.Rules.l.length <= 1000000 := by decide
 have hb := (firstS oneS).hBodies
 generalize hS : firstS oneS = S at hR hrl hlen hby hx hb
 have hl2 : ((layS oneS S).length : Int) = 37 := by omega
 have hr1 : (readState oneS (layS oneS S)).1 = S := by rw [hrl]
 have hr2 : (readState oneS (layS oneS S)).2 = 0 := by rw [hrl]
 have hde : decide (S = S) = true := by simp
 have hv : (partB (layS oneS S)).tl ≠ .view := partB_nv _
 have hb2 : ∀ x ∈ (partB (layS oneS S)).l, 0 <= x /\ x <= 255 := hby
 (have zx := zA hS (zA hR (zA hl2 (zA hr1 (zA hr2 (zA hde hx))))); refine zq34 ?_; try exact zT)
 repeat' (apply zK.s <;> intro hc <;> (try simp only [zhd] at hc) <;> (try have hw := V0a hc) <;> (refine zq34 ?_; try exact zT))
 all_goals (try clear zx)
 exact V0d hF zle (X0c rfl (K0d zno34))
def J86 (l : Lst V0b) (p : Hp) (n : Nat) (ρ : Env) (q : Hp) : Prop :=
 ∃ (k : Nat) (acc : Lst Y0b), n = 16 - k /\ k <= 16 /\ k <= l.l.length /\ ρ 0 = l.cv V0b.cv /\ ρ 3 = acc.cv Y0b.cv /\ ρ 4 = I k /\ acc.l = (l.l.take k).map fixOp /\ (acc.tl = .nil \/ ∃ j, acc.tl = .own j /\ p.n <= j /\ j < q.n /\ q.t.get j = some (.tail acc.l.length) /\ 0 < acc.l.length) /\ p.n <= q.n /\ HpLe p q
def R86 : Rel := fun args p r => ∃ (l : Lst V0b), args = [l.cv V0b.cv] /\ r = .ret (Lst.cv Y0b.cv (partL (rulesOf l.l))) p
theorem t86 {T : XCall} (h : Has T 86 R86) (l : Lst V0b) {p : Hp}  : T 86 [l.cv V0b.cv] p = .ret (Lst.cv Y0b.cv (partL (rulesOf l.l))) p := h _ _ _ ⟨l, rfl, rfl⟩
theorem zq86 {A B : Prop} (k : B) (h : A = B := by have zy := zA @zw86 <| zA @rs86 <| zA @tt3 <| zA @tt22 <| zA @tt23 <| zA @tt29 <| zA @tt31 <| zA ti3.eq_1 <| zA ti22.eq_1 <| zA ti23.eq_1 <| zA ti29.eq_1 <| zA ti31.eq_1 <| zA @t_21 <| zA @K04 <| zA @Y0o <| zA @zsl22 <| @zsl23; exact zQ) : A := h ▸ k
theorem c86 : Con C 86 R86 := by
 refine Q0e C ?_ ?_ ?_
 ·rintro args p r r' ⟨l, h, e⟩ ⟨l', h', e'⟩
  subst e; subst e'; simp_all [V0b.inj_iff, Y0b.inj_iff, K15, Z0p]
 ·rintro args p r ⟨l, h, rfl⟩; exact zr1
 rintro args p r ⟨l, rfl, rfl⟩
 refine zW C false [(21, R21)] ⟨c21, zT⟩ rfl xf86 zc86_ok fun call zh hF => ?_
 have t_21 := @t21 _ zh.1
 clear zh
 (have zx := zT; refine zq86 ?_; try exact zT)
 repeat' (apply zK.s <;> intro hc <;> (try simp only [zhd] at hc) <;> (try have hw := V0a hc) <;> (refine zq86 ?_; try exact zT))
 all_goals (try clear zx)
 show W C false noExt call (ZC.block 0 (ZC.loop zn86_9)) _ _ (seqQ _ _)
 refine W_cut C false noExt call _ _ _ _ (fun ρ q => ∃ acc : Lst Y0b, ρ 3 = acc.cv Y0b.cv /\ acc.l = rulesOf l.l /\ (acc.tl = .nil \/ (∃ j, acc.tl = .own j) /\ 0 < acc.l.length) /\ HpLe p q) ?_ ?_
 ·(show W C false noExt call (ZC.loop zn86_9) _ _ _); refine V0i C false noExt call zn86_9 _ _ _ (J86 l p) 16 ⟨0, ⟨.nil, [], fun _ => rfl⟩, rfl, by omega, by omega, (by simp [put_at, Y0c, K0e]), by simp [put_at, Y0c, K0e, Lst.cv], (by simp [put_at, Y0c, K0e]), by simp, .inl rfl, by omega, zle⟩ ?_
  rintro n ρ q ⟨k, ⟨tl, al, ao⟩, rfl, hk, hkl, e0, e3, e4, hacc, happ, hn, hle⟩
  have hal : al.length = k := by simp only at hacc; rw [hacc]; simp; omega
  by_cases hlt : (k : Int) < l.l.length
  ·by_cases h16 : (k : Int) < 16
   ·have htk := take_nx (l := l.l) (k := k) (by omega)
    generalize hx : nth l.l k = x at htk
    cases hR : opRight (handOp x) with
    | true =>
     have hfx : fixOp x = handOp x := by simp [fixOp, hR]
     have hR2 := hR
     simp only [opRight, Bool.and_eq_true] at hR2
     have w1 := V0a hR2.1.1
     have w2 := V0a hR2.1.2
     have w3 := V0a hR2.2
     have n1 : ¬ (handOp x).Code < 1 := by omega
     have n2 : ¬ (13 : Int) < (handOp x).Code := by omega
     have n3 : ¬ (handOp x).A < -1000000 := by omega
     have n4 : ¬ (1000000 : Int) < (handOp x).A := by omega
     have n5 : ¬ (handOp x).B < -1000000 := by omega
     have n6 : ¬ (1000000 : Int) < (handOp x).B := by omega
     rcases happ with ht | ⟨j, ht, hj1, hj2, g1, hj4⟩
     ·simp only at ht
      subst ht
      (have zx := zA e0 (zA e3 (zA e4 (zA hlt (zA h16 (zA hx (zA n1 (zA n2 (zA n3 (zA n4 (zA n5 n6)))))))))); refine zq86 ?_; try exact zT)
      repeat' (apply zK.s <;> intro hc <;> (try simp only [zhd] at hc) <;> (try have hw := V0a hc) <;> (refine zq86 ?_; try exact zT))
      all_goals (try clear zx)
      exact ⟨16 - (k + 1), by omega, k + 1, ⟨.own (q.n + 1), al ++ [fixOp x], nofun⟩, rfl, by omega, by omega, zev, by simp [put_at, Y0c, hfx], zev, by simp only at hacc; rw [htk, List.map_append, hacc]; rfl, .inr ⟨q.n + 1, rfl, by omega, zb9, by simp (disch := first | exact zdl | fail) only [zheap, List.length_append, List.length_cons, List.length_nil], by simp⟩, zb9, zlq⟩
     ·simp only at ht g1 hj4
      subst ht
      (have zx := zA e0 (zA e3 (zA e4 (zA hlt (zA h16 (zA hx (zA n1 (zA n2 (zA n3 (zA n4 (zA n5 (zA n6 g1))))))))))); refine zq86 ?_; try exact zT)
      repeat' (apply zK.s <;> intro hc <;> (try simp only [zhd] at hc) <;> (try have hw := V0a hc) <;> (refine zq86 ?_; try exact zT))
      all_goals (try clear zx)
      exact ⟨16 - (k + 1), by omega, k + 1, ⟨.own (q.n + 1), al ++ [fixOp x], nofun⟩, rfl, by omega, by omega, zev, by simp [put_at, Y0c, hfx], zev, by simp only at hacc; rw [htk, List.map_append, hacc]; rfl, .inr ⟨q.n + 1, rfl, by omega, zb9, by simp (disch := first | exact zdl | fail) only [zheap, List.length_append, List.length_cons, List.length_nil], by simp⟩, zb9, zlq⟩
    | false =>
     have hfx : fixOp x = ⟨13, 0, 0⟩ := by simp [fixOp, hR]
     have hkill : ¬ ((handOp x).Code < 1) -> ¬ ((13 : Int) < (handOp x).Code) -> ¬ ((handOp x).A < -1000000) -> ¬ ((1000000 : Int) < (handOp x).A) -> ¬ ((handOp x).B < -1000000) -> ¬ ((1000000 : Int) < (handOp x).B) -> False := by
      intro a b c d e f
      have : opRight (handOp x) = true := by simp [opRight, within]; omega
      rw [hR] at this; cases this
     rcases happ with ht | ⟨j, ht, hj1, hj2, g1, hj4⟩
     ·simp only at ht
      subst ht
      (have zx := zA e0 (zA e3 (zA e4 (zA hlt (zA h16 hx)))); refine zq86 ?_; try exact zT)
      repeat' (apply zK.s <;> intro hc <;> (try simp only [zhd] at hc) <;> (try have hw := V0a hc) <;> (refine zq86 ?_; try exact zT))
      all_goals (try clear zx)
      all_goals first | exact (hkill (by assumption) (by assumption) (by assumption) (by assumption) (by assumption) (by assumption)).elim | exact ⟨16 - (k + 1), by omega, k + 1, ⟨.own (q.n + 1), al ++ [fixOp x], nofun⟩, rfl, by omega, by omega, zev, by simp [put_at, Y0c, hfx], zev, by simp only at hacc; rw [htk, List.map_append, hacc]; rfl, .inr ⟨q.n + 1, rfl, by omega, zb9, by simp (disch := first | exact zdl | fail) only [zheap, List.length_append, List.length_cons, List.length_nil], by simp⟩, zb9, zlq⟩
     ·simp only at ht g1 hj4
      subst ht
      (have zx := zA e0 (zA e3 (zA e4 (zA hlt (zA h16 (zA hx g1))))); refine zq86 ?_; try exact zT)
      repeat' (apply zK.s <;> intro hc <;> (try simp only [zhd] at hc) <;> (try have hw := V0a hc) <;> (refine zq86 ?_; try exact zT))
      all_goals (try clear zx)
      all_goals first | exact (hkill (by assumption) (by assumption) (by assumption) (by assumption) (by assumption) (by assumption)).elim | exact ⟨16 - (k + 1), by omega, k + 1, ⟨.own (q.n + 1), al ++ [fixOp x], nofun⟩, rfl, by omega, by omega, zev, by simp [put_at, Y0c, hfx], zev, by simp only at hacc; rw [htk, List.map_append, hacc]; rfl, .inr ⟨q.n + 1, rfl, by omega, zb9, by simp (disch := first | exact zdl | fail) only [zheap, List.length_append, List.length_cons, List.length_nil], by simp⟩, zb9, zlq⟩
   ·(have zx := zA e0 (zA e3 (zA e4 (zA hlt h16))); refine zq86 ?_; try exact zT)
    repeat' (apply zK.s <;> intro hc <;> (try simp only [zhd] at hc) <;> (try have hw := V0a hc) <;> (refine zq86 ?_; try exact zT))
    all_goals (try clear zx)
    have hk16 : k = 16 := by omega
    subst hk16
    exact ⟨⟨tl, al, ao⟩, zev, hacc, happ.imp id fun ⟨j, h1, _, _, _, h5⟩ => ⟨⟨j, h1⟩, h5⟩, hle⟩
  ·(have zx := zA e0 (zA e3 (zA e4 hlt)); refine zq86 ?_; try exact zT)
   repeat' (apply zK.s <;> intro hc <;> (try simp only [zhd] at hc) <;> (try have hw := V0a hc) <;> (refine zq86 ?_; try exact zT))
   all_goals (try clear zx)
   have ht : l.l.take k = l.l.take 16 := by rw [List.take_of_length_le (by omega), List.take_of_length_le (by omega)]
   exact ⟨⟨tl, al, ao⟩, zev, by rw [hacc, ht]; rfl, happ.imp id fun ⟨j, h1, _, _, _, h5⟩ => ⟨⟨j, h1⟩, h5⟩, hle⟩
 rintro ρ q ⟨acc, e3, hacc, happ, hle⟩
 (have zx := e3; refine zq86 ?_; try exact zT)
 repeat' (apply zK.s <;> intro hc <;> (try simp only [zhd] at hc) <;> (try have hw := V0a hc) <;> (refine zq86 ?_; try exact zT))
 all_goals (try clear zx)
 refine V0d hF zlq ?_
 rw [<- hacc]
 exact Z1r Y0b.nohas acc _ happ
def J31 (x : Y0a) (p : Hp) (n : Nat) (ρ : Env) (q : Hp) : Prop :=
 ∃ (k : Nat) (tk : Lst Int), n = (cfgP x).toNat - k /\ k <= (cfgP x).toNat /\ ρ 1 = .ptr p.n [] /\ ρ 2 = .ptr (p.n + 1) [] /\ ρ 3 = .ptr (p.n + 1 + 1 + 22) [] /\ ρ 4 = I k /\ q.t.get p.n = some (.var sh57 x.cv) /\ q.t.get (p.n + 1) = some (.var sh61 X0a.zero.cv) /\ q.t.get (p.n + 1 + 1 + 22) = some (.var sh61 (cfgWith x tk).cv) /\ tk.l = cfgTok x k /\ (tk.tl = .nil \/ ∃ j, tk.tl = .own j /\ p.n + 1 + 1 + 22 < j /\ j < q.n /\ q.t.get j = some (.tail tk.l.length) /\ 0 < tk.l.length) /\ p.n + 1 + 1 + 22 < q.n /\ HpLe p q
def R31 : Rel := fun args p r => ∃ (x : Y0a), args = [x.cv] /\ r = .ret (cfgOf x).cv p
theorem t31 {T : XCall} (h : Has T 31 R31) (x : Y0a) {p : Hp}  : T 31 [x.cv] p = .ret (cfgOf x).cv p := h _ _ _ ⟨x, rfl, rfl⟩
theorem zq31 {A B : Prop} (k : B) (h : A = B := by have zy := zA @zw31 <| zA @rs31 <| zA @tt3 <| zA @tt22 <| zA @tt23 <| zA @tt24 <| zA @tt57 <| zA @tt59 <| zA @tt61 <| zA ti3.eq_1 <| zA ti22.eq_1 <| zA ti23.eq_1 <| zA ti24.eq_1 <| zA ti57.eq_1 <| zA ti59.eq_1 <| zA ti61.eq_1 <| zA @t_37 <| zA @t_86 <| zA @Y0u <| zA @Y0e <| zA @zsl22 <| zA @zsl23 <| @zsl24; exact zQf) : A := h ▸ k
theorem zge31 {P : Prop} (h : P := by simp (disch := first | exact zdl | fail) only [zheap]; first | done | rfl) : P := h
theorem c31 : Con C 31 R31 := by
 refine Q0e C ?_ ?_ ?_
 ·rintro args p r r' ⟨x, h, e⟩ ⟨x', h', e'⟩
  subst e; subst e'; simp_all [Y0a.inj_iff, X0a.inj_iff, K15, Z0p, Y0r, K15]
 ·rintro args p r ⟨x, h, rfl⟩; exact zr1
 rintro args p r ⟨x, rfl, rfl⟩
 refine zW C false [(37, R37), (86, R86)] ⟨c37, c86, zT⟩ rfl xf31 zc31_ok fun call zh hF => ?_
 have t_37 := @t37 _ zh.1
 have t_86 := @t86 _ zh.2.1
 clear zh
 have p1 := Y0g (n := x.Period) (m := 3) (by omega)
 have p2 := Y0g (n := x.Frames) (m := 90) (by omega)
 have p3 := Y0g (n := x.Players) (m := 4) (by omega)
 have p4 := Y0g (n := w64 (x.Players.tdiv 11)) (m := 8) (by omega)
 have p5 := Y0g (n := x.Rate) (m := 9) (by omega)
 have p6 := Y0g (n := w64 (x.Rate.tdiv 9)) (m := 40) (by omega)
 have p7 := Y0g (n := w64 (x.Seed.tdiv 3)) (m := 1000000) (by omega)
 have r1 := (rate_ok p5).1
 have r2 := (dept_ok p6).1
 have r3 := (dept_ok p6).2.1
 simp only [w64] at p4 p6 p7 r2 r3
 have hP := X07 x
 have hPn : (((cfgP x).toNat : Nat) : Int) = cfgP x := by omega
 suffices hloop : ∀ (ρ : Env) (q : Hp), ρ 1 = .ptr p.n [] -> ρ 2 = .ptr (p.n + 1) [] -> ρ 3 = .ptr (p.n + 1 + 1 + 22) [] -> ρ 4 = I 0 -> q.t.get p.n = some (.var sh57 x.cv) -> q.t.get (p.n + 1) = some (.var sh61 X0a.zero.cv) -> q.t.get (p.n + 1 + 1 + 22) = some (.var sh61 (cfgWith x ⟨.nil, [], fun _ => rfl⟩).cv) -> p.n + 1 + 1 + 22 < q.n -> HpLe p q -> W C false noExt call (ZC.loop Q1i) ρ q (blkQ 0 (seqQ (W C false noExt call (ZC.seq zn31_36 ZC.ret)) (endQ C [ResultVar.cell 2 61] fun r' => ShrR p r' (XRes.ret (cfgOf x).cv p)))) by
  by_cases h11 : x.Players.tmod 11 = 10
  ·have hcp : cfgP x = 1 + pick (w64 (x.Players.tdiv 11)) 8 := by simp [cfgP, h11]
   by_cases h3 : 0 < x.Rate.tmod 3
   ·have hcr : cfgRate x = 4613937818241073152 := by simp [cfgRate, h3]
    have hcd : cfgDepth x = 4632233691727265792 := by simp [cfgDepth, h3]
    (have zx := zA h11 (zA h3 (zA r1 (zA r2 r3))); refine zq31 ?_; try exact zT)
    repeat' (apply zK.s <;> intro hc <;> (try simp only [zhd] at hc) <;> (try have hw := V0a hc) <;> (refine zq31 ?_; try exact zT))
    all_goals (try clear zx)
    refine hloop _ _ (by simp [put_at, Y0c, K0e]) (by simp [put_at, Y0c, K0e]) (by simp [put_at, Y0c, K0e]) (by simp [put_at, Y0c, K0e]) zge31 zge31 ?_ (zb9) zle
    simp (disch := first | exact zdl | fail) only [zheap]
    simp only [cfgWith, hcp, hcr, hcd]
   ·have hcr : cfgRate x = rateF (pick x.Rate 9) := by simp [cfgRate, h3]
    have hcd : cfgDepth x = deptF (pick (w64 (x.Rate.tdiv 9)) 40) := by simp [cfgDepth, h3]
    (have zx := zA h11 (zA h3 (zA r1 (zA r2 r3))); refine zq31 ?_; try exact zT)
    repeat' (apply zK.s <;> intro hc <;> (try simp only [zhd] at hc) <;> (try have hw := V0a hc) <;> (refine zq31 ?_; try exact zT))
    all_goals (try clear zx)
    refine hloop _ _ (by simp [put_at, Y0c, K0e]) (by simp [put_at, Y0c, K0e]) (by simp [put_at, Y0c, K0e]) (by simp [put_at, Y0c, K0e]) zge31 zge31 ?_ (zb9) zle
    simp (disch := first | exact zdl | fail) only [zheap]
    simp only [cfgWith, hcp, hcr, hcd]
  ·have hcp : cfgP x = 1 + pick x.Players 4 := by simp [cfgP, h11]
   by_cases h3 : 0 < x.Rate.tmod 3
   ·have hcr : cfgRate x = 4613937818241073152 := by simp [cfgRate, h3]
    have hcd : cfgDepth x = 4632233691727265792 := by simp [cfgDepth, h3]
    (have zx := zA h11 (zA h3 (zA r1 (zA r2 r3))); refine zq31 ?_; try exact zT)
    repeat' (apply zK.s <;> intro hc <;> (try simp only [zhd] at hc) <;> (try have hw := V0a hc) <;> (refine zq31 ?_; try exact zT))
    all_goals (try clear zx)
    refine hloop _ _ (by simp [put_at, Y0c, K0e]) (by simp [put_at, Y0c, K0e]) (by simp [put_at, Y0c, K0e]) (by simp [put_at, Y0c, K0e]) zge31 zge31 ?_ (zb9) zle
    simp (disch := first | exact zdl | fail) only [zheap]
    simp only [cfgWith, hcp, hcr, hcd]
   ·have hcr : cfgRate x = rateF (pick x.Rate 9) := by simp [cfgRate, h3]
    have hcd : cfgDepth x = deptF (pick (w64 (x.Rate.tdiv 9)) 40) := by simp [cfgDepth, h3]
    (have zx := zA h11 (zA h3 (zA r1 (zA r2 r3))); refine zq31 ?_; try exact zT)
    repeat' (apply zK.s <;> intro hc <;> (try simp only [zhd] at hc) <;> (try have hw := V0a hc) <;> (refine zq31 ?_; try exact zT))
    all_goals (try clear zx)
    refine hloop _ _ (by simp [put_at, Y0c, K0e]) (by simp [put_at, Y0c, K0e]) (by simp [put_at, Y0c, K0e]) (by simp [put_at, Y0c, K0e]) zge31 zge31 ?_ (zb9) zle
    simp (disch := first | exact zdl | fail) only [zheap]
    simp only [cfgWith, hcp, hcr, hcd]
 intro ρ q e1 e2 e3 e4 g1 g2 g3 hn hle
 (show W C false noExt call (ZC.loop Q1i) _ _ _); refine V0i C false noExt call Q1i _ _ _ (J31 x p) (cfgP x).toNat ⟨0, ⟨.nil, [], fun _ => rfl⟩, rfl, by omega, e1, e2, e3, e4, g1, g2, g3, rfl, .inl rfl, hn, hle⟩ ?_
 clear e1 e2 e3 e4 g1 g2 g3 hn hle
 rintro n ρ q ⟨k, ⟨tl, al, ao⟩, rfl, hk, e1, e2, e3, e4, g1, g2, g3, hal, happ, hn, hle⟩
 have hln : al.length = k := by simp only at hal; rw [hal, V07]
 by_cases hlt : (k : Int) < cfgP x
 ·have hpl : (cfgWith x ⟨tl, al, ao⟩).Players = cfgP x := rfl
  have htk : (cfgWith x ⟨tl, al, ao⟩).Tokens = ⟨tl, al, ao⟩ := rfl
  rcases happ with ht | ⟨j, ht, hj1, hj2, g4, hj4⟩
  ·simp only at ht
   subst ht
   (have zx := zA e1 (zA e2 (zA e3 (zA e4 (zA g1 (zA g2 (zA g3 (zA hlt (zA hpl htk)))))))); refine zq31 ?_; try exact zT)
   repeat' (apply zK.s <;> intro hc <;> (try simp only [zhd] at hc) <;> (try have hw := V0a hc) <;> (refine zq31 ?_; try exact zT))
   all_goals (try clear zx)
   exact ⟨(cfgP x).toNat - (k + 1), by omega, k + 1, ⟨.own (q.n + 13), al ++ [tokAt x k], nofun⟩, rfl, by omega, zev, zev, zev, zev, zg9, zg9, zg9, by simp only at hal; rw [hal, Q1h], .inr ⟨q.n + 13, rfl, by omega, zb9, by simp (disch := first | exact zdl | fail) only [zheap, List.length_append, List.length_cons, List.length_nil], by simp⟩, zb9, zlq⟩
  ·simp only at ht g4 hj4
   subst ht
   (have zx := zA e1 (zA e2 (zA e3 (zA e4 (zA g1 (zA g2 (zA g3 (zA hlt (zA g4 (zA hpl htk))))))))); refine zq31 ?_; try exact zT)
   repeat' (apply zK.s <;> intro hc <;> (try simp only [zhd] at hc) <;> (try have hw := V0a hc) <;> (refine zq31 ?_; try exact zT))
   all_goals (try clear zx)
   exact ⟨(cfgP x).toNat - (k + 1), by omega, k + 1, ⟨.own (q.n + 13), al ++ [tokAt x k], nofun⟩, rfl, by omega, zev, zev, zev, zev, zg9, zg9, zg9, by simp only at hal; rw [hal, Q1h], .inr ⟨q.n + 13, rfl, by omega, zb9, by simp (disch := first | exact zdl | fail) only [zheap, List.length_append, List.length_cons, List.length_nil], by simp⟩, zb9, zlq⟩
 ·have hpl : (cfgWith x ⟨tl, al, ao⟩).Players = cfgP x := rfl
  have hk2 : k = (cfgP x).toNat := by omega
  (have zx := zA e1 (zA e2 (zA e3 (zA e4 (zA g1 (zA g2 (zA g3 (zA hlt hpl))))))); refine zq31 ?_; try exact zT)
  repeat' (apply zK.s <;> intro hc <;> (try simp only [zhd] at hc) <;> (try have hw := V0a hc) <;> (refine zq31 ?_; try exact zT))
  all_goals (try clear zx)
  refine V0d hF zlq ?_
  have hw := weak_cfg x ⟨tl, al, ao⟩ p.n (happ.imp id fun ⟨j, h1, _, _, _, h5⟩ => ⟨⟨j, h1⟩, h5⟩)
  simp only at hal
  subst hk2
  subst hal
  exact hw
end Go.Proofs.Ytpchcfkebljopaa
end
section
namespace Go.Proofs.Ytpchcfkebljopaa
open Go.Cl Go Go.RowKit
def xor8 (a b : Int) : Int := IntKind.u8.wrap ((BitVec.ofInt IntKind.u8.bits a ^^^ BitVec.ofInt IntKind.u8.bits b).toNat : Int)
theorem xor8_n (a b : Int) : xor8 a b = ((BitVec.ofInt 8 a ^^^ BitVec.ofInt 8 b).toNat : Int) := by
 have h := (BitVec.ofInt 8 a ^^^ BitVec.ofInt 8 b).isLt
 show ((BitVec.ofInt 8 a ^^^ BitVec.ofInt 8 b).toNat : Int) % 2 ^ 8 = _
 omega
theorem xor8_rng (a b : Int) : 0 <= xor8 a b /\ xor8 a b <= 255 := by
 have h := (BitVec.ofInt 8 a ^^^ BitVec.ofInt 8 b).isLt
 rw [xor8_n]; omega
theorem of8 {a : Int} (h : 0 <= a /\ a <= 255) : ((BitVec.ofInt 8 a).toNat : Int) = a := by
 rw [BitVec.toNat_ofInt]; omega
theorem xor8_zero {a : Int} (h : 0 <= a /\ a <= 255) : xor8 a 0 = a := by
 rw [xor8_n, show BitVec.ofInt 8 0 = 0#8 from rfl, BitVec.xor_zero, of8 h]
theorem xor8_ne {a b : Int} (h : 0 <= a /\ a <= 255) (hb : 0 <= b /\ b <= 255) (h0 : b ≠ 0) : xor8 a b ≠ a := by
 intro e
 rw [xor8_n] at e
 have e2 : (BitVec.ofInt 8 a ^^^ BitVec.ofInt 8 b).toNat = (BitVec.ofInt 8 a).toNat := by have := of8 h; omega
 have e3 := BitVec.eq_of_toNat_eq e2
 have e4 : BitVec.ofInt 8 b = 0#8 := by
  have := congrArg (fun x => BitVec.ofInt 8 a ^^^ x) e3
  simpa [<- BitVec.xor_assoc] using this
 have := of8 hb
 rw [e4] at this
 simp at this
 omega
def turned (B : List Int) (k : Nat) (b : Int) : List Int := B.set k (xor8 (nth B k) b)
theorem turned_byte {B : List Int} (h : ∀ x ∈ B, 0 <= x /\ x <= 255) (k : Nat) (b : Int) : ∀ x ∈ turned B k b, 0 <= x /\ x <= 255 := by
 intro x hx
 rcases List.mem_or_eq_of_mem_set hx with h' | h'
 ·exact h x h'
 ·rw [h']; exact xor8_rng _ _
theorem turned_zero {B : List Int} (h : ∀ x ∈ B, 0 <= x /\ x <= 255) {k : Nat} (hk : k < B.length) : turned B k 0 = B := by
 unfold turned
 rw [xor8_zero (h _ (by rw [X0j hk]; exact List.getElem_mem _)), X0j hk, List.set_getElem_self]
theorem turned_ne {B : List Int} (h : ∀ x ∈ B, 0 <= x /\ x <= 255) {k : Nat} (hk : k < B.length) {b : Int} (hb : 0 <= b /\ b <= 255) (h0 : b ≠ 0) : turned B k b ≠ B := by
 intro e
 refine xor8_ne (h (nth B k) (by rw [X0j hk]; exact List.getElem_mem _)) hb h0 ?_
 have := congrArg (fun l => nth l k) e
 simp only [turned] at this
 rw [K0g hk] at this
 exact this
theorem turned_read {c : X0a} {s : K0a} {k : Nat} (hk : k < (layS c s).length) (hb0 : ∀ x ∈ layS c s, 0 <= x /\ x <= 255) {b : Int} (hb : 0 <= b /\ b <= 255) (h0 : b ≠ 0) :
  ((readState c (turned (layS c s) k b)).1 = K0a.zero /\ (readState c (turned (layS c s) k b)).2 = 2) \/ ∃ t, (readState c (turned (layS c s) k b)).1 = t /\ (readState c (turned (layS c s) k b)).2 = 0 /\ stateRight c t = true /\ decide (s = t) = false := by
 rcases read_cases c (turned (layS c s) k b) with h | ⟨t, h, hr, hl⟩
 ·rw [h]; exact .inl ⟨rfl, rfl⟩
 ·rw [h]
  refine .inr ⟨t, rfl, rfl, hr, decide_eq_false fun e => ?_⟩
  subst e
  exact turned_ne hb0 hk hb h0 hl.symm
end Go.Proofs.Ytpchcfkebljopaa
end
