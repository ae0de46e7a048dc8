import Derived.Test.YtpchcfkebljopaaXh
set_option linter.unusedSimpArgs false
set_option linter.unusedVariables false
set_option linter.constructorNameAsVariable false
set_option linter.defProp false
set_option maxHeartbeats 8000000
section
namespace Go.Proofs.Ytpchcfkebljopaa
open Go.Cl Go Go.RowKit
set_option maxRecDepth 100000
set_option linter.constructorNameAsVariable false
def K45(x:K0a)(F:Q0a)(p:Hp)(ρ:Env)(q:Hp): Prop:=
 ρ 1=.ptr p.n []/\ρ 2=.ptr (p.n+1) []/\ρ 3=.ptr (p.n+15) []/\∃(A:Lst X0a) (R:Lst (Lst V0a)),q.t.get p.n=some (.var sh90 x.cv)/\q.t.get (p.n+1)=some (.var sh94 Q0a.zero.cv)/\q.t.get (p.n+15)=some (.var sh94 (Q0a.cv {F with Inputs:=A,Rows:=R}))/\F.Inputs=lstP A.l/\A.l.length<=16/\App (p.n+15) A q/\CV.weak (fun k=>k) p.n (R.cv (Lst.cv V0a.cv)) (F.Rows.cv (Lst.cv V0a.cv))/\p.n+15<q.n/\HpLe p q
theorem App.weakI{n0 n:Nat}{A:Lst X0a}{q:Hp}(h:App n0 A q): CV.weak (fun k=>k) n (A.cv X0a.cv) ((lstP A.l).cv X0a.cv):=h.T.weak _ (CV.weakL_refl _ fun j hj=>(Q0i (f:=X0a.cv) X0a.nohas _ j hj).elim)
def K45b(x:K0a)(p:Hp)(ρ:Env)(q:Hp): Prop:=
 ρ 1=.ptr p.n []/\ρ 2=.ptr (p.n+1) []/\ρ 3=.ptr (p.n+15) []/\q.t.get p.n=some (.var sh90 x.cv)/\q.t.get (p.n+1)=some (.var sh94 Q0a.zero.cv)/\q.t.get (p.n+15)=some (.var sh94 (baseP x).cv)/\p.n+15<q.n/\HpLe p q
def J45(x:K0a)(F0:Q0a)(p:Hp)(n:Nat)(ρ:Env)(q:Hp): Prop:=
 ∃(m:Nat) (A:Lst X0a),n=16-m/\m<=16/\m<=x.Inputs.l.length/\ρ 1=.ptr p.n []/\ρ 2=.ptr (p.n+1) []/\ρ 3=.ptr (p.n+15) []/\ρ 4=I m/\A.l=(x.Inputs.l.take m).map (fun n=>handInput n (w64 (n.tdiv 3)))/\A.l.length=m/\App (p.n+15) A q/\q.t.get p.n=some (.var sh90 x.cv)/\q.t.get (p.n+1)=some (.var sh94 Q0a.zero.cv)/\q.t.get (p.n+15)=some (.var sh94 (Q0a.cv {F0 with Inputs:=A}))/\p.n+15<q.n/\HpLe p q
def L45(x:K0a)(F0:Q0a)(N:Int)(p:Hp)(n:Nat)(ρ:Env)(q:Hp): Prop:=
 ∃(m:Nat) (A:Lst (Lst V0a)),n=8-m/\m<=8/\m<=x.Rows.l.length/\ρ 1=.ptr p.n []/\ρ 2=.ptr (p.n+1) []/\ρ 3=.ptr (p.n+15) []/\ρ 5=I m/\A.l=(x.Rows.l.take m).map (rowL N)/\A.l.length=m/\App (p.n+15) A q/\q.t.get p.n=some (.var sh90 x.cv)/\q.t.get (p.n+1)=some (.var sh94 Q0a.zero.cv)/\q.t.get (p.n+15)=some (.var sh94 (Q0a.cv {F0 with Rows:=A}))/\p.n+15<q.n/\HpLe p q
theorem rowL_no(N:Int)(l:List (Lst Int))(j:Nat): ¬CV.hasL j ((l.map (rowL N)).map (Lst.cv V0a.cv)):=by
 induction l with
 |nil=>simp[CV.hasL]
 |cons x l ih=>
  simp only[List.map_cons,CV.hasL]
  rintro(h|h)
  ·have:=(Lst.has _ V0a.nohas (rowL N x) j).1 h
   cases this
  ·exact ih h
def R45: Rel:=fun args p r=>∃(x:K0a),args=[x.cv]/\r=.ret (packetOf x).cv p
theorem t45{T:XCall}(h:Has T 45 R45)(x:K0a){p:Hp}:T 45 [x.cv] p=.ret (packetOf x).cv p:=h _ _ _ ⟨x,rfl,rfl⟩
theorem zq45{A B:Prop}(k:B)(h:A=B:=by have zy:=zA @zw45<|zA @rs45<|zA @tt3<|zA @tt4<|zA @tt24<|zA @tt25<|zA @tt36<|zA @tt58<|zA @tt90<|zA @tt91<|zA @tt92<|zA @tt94<|zA ti3.eq_1<|zA ti4.eq_1<|zA ti24.eq_1<|zA ti25.eq_1<|zA ti36.eq_1<|zA ti58.eq_1<|zA ti90.eq_1<|zA ti91.eq_1<|zA ti92.eq_1<|zA ti94.eq_1<|zA @t_37<|zA @t_65<|zA @t_69<|zA @Q0o<|zA @Z0d<|zA @V0e<|zA @zsl24<|zA @zsl58<|zA @zsl91<|@zsl92;exact zQ): A:=h▸k
theorem c45: Con C 45 R45:=by
 refine K0e C ?_ ?_ ?_
 ·rintro args p r r' ⟨x,h,e⟩ ⟨x',h',e'⟩
  subst e;subst e';simp_all[K0a.inj_iff,Q0a.inj_iff,X0a.inj_iff,V14,sl_inj58,Z0n,K0j]
 ·rintro args p r ⟨x,h,rfl⟩;exact zr1
 rintro args p r ⟨x,rfl,rfl⟩
 refine zW C false [(37,R37),(65,R65),(69,R69)] ⟨c37,c65,c69,zT⟩ rfl xf45 zc45_ok fun call zh hF=>?_
 have t_37:=@t37 _ zh.1
 have t_65:=@t65 _ zh.2.1
 have t_69:=@t69 _ zh.2.2.1
 clear zh
 obtain⟨F,hFe⟩:∃F,F=filledP x:=⟨_,rfl⟩
 have hpo:packetOf x=bendP x F:=by rw[packetOf,hFe]
 have hw:=V08 (x.Bend.tdiv 40)
 have hwe:w64 (x.Bend.tdiv 40)=IntKind.i64.wrap (x.Bend.tdiv 40):=rfl
 have hk40:=K0m (n:=x.Bend) (m:=40) (by omega)
 have hk10:=K0m (n:=w64 (x.Bend.tdiv 40)) (m:=10) (by omega)
 rw[hwe]at hk10
 have main:∀ρ q,K45 x F p ρ q->W C false noExt call (ZC.seq (ZC.seq Y03 (ZC.block 5 (ZC.seq X00 (ZC.cond (Tm 116) K01 (ZC.seq Z0z (ZC.cond (Tm 124) K03 (ZC.seq X01 (ZC.cond (Tm 129) Q02 (ZC.seq Z02 (ZC.cond (Tm 134) V00 (ZC.seq Q00 (ZC.cond (Tm 139) Q01 (ZC.seq Y0z (ZC.cond (Tm 144) K02 (ZC.seq Z01 (ZC.cond (Tm 149) Z00 (ZC.seq V01 (ZC.cond (Tm 156) Q03 (ZC.seq X02 (ZC.cond (Tm 168) Y00 (ZC.seq V0t (ZC.cond (Tm 173) V0u ZC.skip)))))))))))))))))))))) (ZC.seq K0u ZC.ret)) ρ q (endQ C (xfOf Try.f45).rs fun r'=>ShrR p r' (.ret (packetOf x).cv p)):=by
  rintro ρ q ⟨e1,e2,e3,A,R,g1,g2,g3,hA,hA16,happ,hR,hn,hle⟩
  have hfin:∀y:Q0a,y.Inputs=F.Inputs->y.Rows=F.Rows->CV.weak (fun k=>k) p.n (Q0a.cv {y with Inputs:=A,Rows:=R}) y.cv:=fun y h1 h2=>by
   have:=Z0w (n:=p.n) (x:=y) (I1:=A) (I2:=lstP A.l) (R1:=R) (R2:=F.Rows) happ.weakI hR
   rw[<- hA,<- h1,<- h2]at this
   exact this
  rw[hpo]
  by_cases b0:pick x.Bend 40=30
  ·have hb:bendP x F={F with Kind:=pick (w64 (x.Bend.tdiv 40)) 10-1}:=by simp only[bendP,b0,if_true,if_false]
   rw[hb,hwe]
   (have zx:=zA e1 (zA e2 (zA e3 (zA g1 (zA g2 (zA g3 b0)))));refine zq45 ?_;try exact zT)
   repeat'(apply zK.s<;>intro hc<;>(try simp only[zhd]at hc)<;>(try have hw:=Y0a hc)<;>(refine zq45 ?_;try exact zT))
   all_goals(try clear zx)
   exact Q0c hF (fun k o h=>by have hd:=hF.dom _ _ h;have hq:=hle k o h;simp (disch:=first|exact zdl|fail) only[zheap];exact hq) (hfin {F with Kind:=pick (w64 (x.Bend.tdiv 40)) 10-1} rfl rfl)
  ·skip
   by_cases b1:pick x.Bend 40=31
   ·have hb:bendP x F={F with Seq:=x.Seq}:=by simp only[bendP,b0,b1,if_true,if_false,Int.reduceEq]
    rw[hb]
    (have zx:=zA e1 (zA e2 (zA e3 (zA g1 (zA g2 (zA g3 (zA b0 b1))))));refine zq45 ?_;try exact zT)
    repeat'(apply zK.s<;>intro hc<;>(try simp only[zhd]at hc)<;>(try have hw:=Y0a hc)<;>(refine zq45 ?_;try exact zT))
    all_goals(try clear zx)
    exact Q0c hF (fun k o h=>by have hd:=hF.dom _ _ h;have hq:=hle k o h;simp (disch:=first|exact zdl|fail) only[zheap];exact hq) (hfin {F with Seq:=x.Seq} rfl rfl)
   ·skip
    by_cases b2:pick x.Bend 40=32
    ·have hb:bendP x F={F with Got:=x.Got}:=by simp only[bendP,b0,b1,b2,if_true,if_false,Int.reduceEq]
     rw[hb]
     (have zx:=zA e1 (zA e2 (zA e3 (zA g1 (zA g2 (zA g3 (zA b0 (zA b1 b2)))))));refine zq45 ?_;try exact zT)
     repeat'(apply zK.s<;>intro hc<;>(try simp only[zhd]at hc)<;>(try have hw:=Y0a hc)<;>(refine zq45 ?_;try exact zT))
     all_goals(try clear zx)
     exact Q0c hF (fun k o h=>by have hd:=hF.dom _ _ h;have hq:=hle k o h;simp (disch:=first|exact zdl|fail) only[zheap];exact hq) (hfin {F with Got:=x.Got} rfl rfl)
    ·skip
     by_cases b3:pick x.Bend 40=33
     ·have hb:bendP x F={F with First:=x.First}:=by simp only[bendP,b0,b1,b2,b3,if_true,if_false,Int.reduceEq]
      rw[hb]
      (have zx:=zA e1 (zA e2 (zA e3 (zA g1 (zA g2 (zA g3 (zA b0 (zA b1 (zA b2 b3))))))));refine zq45 ?_;try exact zT)
      repeat'(apply zK.s<;>intro hc<;>(try simp only[zhd]at hc)<;>(try have hw:=Y0a hc)<;>(refine zq45 ?_;try exact zT))
      all_goals(try clear zx)
      exact Q0c hF (fun k o h=>by have hd:=hF.dom _ _ h;have hq:=hle k o h;simp (disch:=first|exact zdl|fail) only[zheap];exact hq) (hfin {F with First:=x.First} rfl rfl)
     ·skip
      by_cases b4:pick x.Bend 40=34
      ·have hb:bendP x F={F with Frame:=x.Frame}:=by simp only[bendP,b0,b1,b2,b3,b4,if_true,if_false,Int.reduceEq]
       rw[hb]
       (have zx:=zA e1 (zA e2 (zA e3 (zA g1 (zA g2 (zA g3 (zA b0 (zA b1 (zA b2 (zA b3 b4)))))))));refine zq45 ?_;try exact zT)
       repeat'(apply zK.s<;>intro hc<;>(try simp only[zhd]at hc)<;>(try have hw:=Y0a hc)<;>(refine zq45 ?_;try exact zT))
       all_goals(try clear zx)
       exact Q0c hF (fun k o h=>by have hd:=hF.dom _ _ h;have hq:=hle k o h;simp (disch:=first|exact zdl|fail) only[zheap];exact hq) (hfin {F with Frame:=x.Frame} rfl rfl)
      ·skip
       by_cases b5:pick x.Bend 40=35
       ·have hb:bendP x F={F with Mark:=x.Mark}:=by simp only[bendP,b0,b1,b2,b3,b4,b5,if_true,if_false,Int.reduceEq]
        rw[hb]
        (have zx:=zA e1 (zA e2 (zA e3 (zA g1 (zA g2 (zA g3 (zA b0 (zA b1 (zA b2 (zA b3 (zA b4 b5))))))))));refine zq45 ?_;try exact zT)
        repeat'(apply zK.s<;>intro hc<;>(try simp only[zhd]at hc)<;>(try have hw:=Y0a hc)<;>(refine zq45 ?_;try exact zT))
        all_goals(try clear zx)
        exact Q0c hF (fun k o h=>by have hd:=hF.dom _ _ h;have hq:=hle k o h;simp (disch:=first|exact zdl|fail) only[zheap];exact hq) (hfin {F with Mark:=x.Mark} rfl rfl)
       ·skip
        by_cases b6:pick x.Bend 40=36
        ·have hb:bendP x F={F with Players:=pick (w64 (x.Bend.tdiv 40)) 12}:=by simp only[bendP,b0,b1,b2,b3,b4,b5,b6,if_true,if_false,Int.reduceEq]
         rw[hb,hwe]
         (have zx:=zA e1 (zA e2 (zA e3 (zA g1 (zA g2 (zA g3 (zA b0 (zA b1 (zA b2 (zA b3 (zA b4 (zA b5 b6)))))))))));refine zq45 ?_;try exact zT)
         repeat'(apply zK.s<;>intro hc<;>(try simp only[zhd]at hc)<;>(try have hw:=Y0a hc)<;>(refine zq45 ?_;try exact zT))
         all_goals(try clear zx)
         exact Q0c hF (fun k o h=>by have hd:=hF.dom _ _ h;have hq:=hle k o h;simp (disch:=first|exact zdl|fail) only[zheap];exact hq) (hfin {F with Players:=pick (w64 (x.Bend.tdiv 40)) 12} rfl rfl)
        ·skip
         by_cases b7:pick x.Bend 40=37
         ·have hb:bendP x F={F with Inputs:=lstP (F.Inputs.l++[⟨x.Got,x.First,0⟩])}:=by simp only[bendP,b0,b1,b2,b3,b4,b5,b6,b7,if_true,if_false,Int.reduceEq]
          rw[hb]
          have hAl:F.Inputs.l=A.l:=by rw[hA,Q0r]
          rw[hAl]
          obtain⟨tl,al,ok⟩:=A
          simp only at hA16
          rcases happ with ht|⟨j1,ht,hj1,hj2,hj3,hj4⟩
          ·simp only at ht
           subst ht
           (have zx:=zA e1 (zA e2 (zA e3 (zA g1 (zA g2 (zA g3 (zA b0 (zA b1 (zA b2 (zA b3 (zA b4 (zA b5 (zA b6 b7))))))))))));refine zq45 ?_;try exact zT)
           repeat'(apply zK.s<;>intro hc<;>(try simp only[zhd]at hc)<;>(try have hw:=Y0a hc)<;>(refine zq45 ?_;try exact zT))
           all_goals(try clear zx)
           refine Q0c hF (fun k o h=>by have hd:=hF.dom _ _ h;have hq:=hle k o h;simp (disch:=first|exact zdl|fail) only[zheap];exact hq) ?_
           exact Z0w (x:={F with Inputs:=⟨.nil,[],fun _=>rfl⟩}) (AppT.weak (.inr ⟨⟨_,rfl⟩,by simp⟩) _ (CV.weakL_refl _ fun j hj=>(Q0i (f:=X0a.cv) X0a.nohas _ j hj).elim)) hR
          ·simp only at ht hj3 hj4
           subst ht
           (have zx:=zA e1 (zA e2 (zA e3 (zA g1 (zA g2 (zA g3 (zA b0 (zA b1 (zA b2 (zA b3 (zA b4 (zA b5 (zA b6 (zA b7 (zA hj3 hj4))))))))))))));refine zq45 ?_;try exact zT)
           repeat'(apply zK.s<;>intro hc<;>(try simp only[zhd]at hc)<;>(try have hw:=Y0a hc)<;>(refine zq45 ?_;try exact zT))
           all_goals(try clear zx)
           refine Q0c hF (fun k o h=>by have hd:=hF.dom _ _ h;have hq:=hle k o h;simp (disch:=first|exact zdl|fail) only[zheap];exact hq) ?_
           exact Z0w (x:={F with Inputs:=⟨.nil,[],fun _=>rfl⟩}) (AppT.weak (.inr ⟨⟨_,rfl⟩,by simp⟩) _ (CV.weakL_refl _ fun j hj=>(Q0i (f:=X0a.cv) X0a.nohas _ j hj).elim)) hR
         ·skip
          by_cases b8:pick x.Bend 40=38
          ·have hb:bendP x F={F with Last:=x.Last}:=by simp only[bendP,b0,b1,b2,b3,b4,b5,b6,b7,b8,if_true,if_false,Int.reduceEq]
           rw[hb]
           (have zx:=zA e1 (zA e2 (zA e3 (zA g1 (zA g2 (zA g3 (zA b0 (zA b1 (zA b2 (zA b3 (zA b4 (zA b5 (zA b6 (zA b7 b8)))))))))))));refine zq45 ?_;try exact zT)
           repeat'(apply zK.s<;>intro hc<;>(try simp only[zhd]at hc)<;>(try have hw:=Y0a hc)<;>(refine zq45 ?_;try exact zT))
           all_goals(try clear zx)
           exact Q0c hF (fun k o h=>by have hd:=hF.dom _ _ h;have hq:=hle k o h;simp (disch:=first|exact zdl|fail) only[zheap];exact hq) (hfin {F with Last:=x.Last} rfl rfl)
          ·skip
           by_cases b9:pick x.Bend 40=39
           ·have hb:bendP x F={F with Slot:=x.Slot}:=by simp only[bendP,b0,b1,b2,b3,b4,b5,b6,b7,b8,b9,if_true,if_false,Int.reduceEq]
            rw[hb]
            (have zx:=zA e1 (zA e2 (zA e3 (zA g1 (zA g2 (zA g3 (zA b0 (zA b1 (zA b2 (zA b3 (zA b4 (zA b5 (zA b6 (zA b7 (zA b8 b9))))))))))))));refine zq45 ?_;try exact zT)
            repeat'(apply zK.s<;>intro hc<;>(try simp only[zhd]at hc)<;>(try have hw:=Y0a hc)<;>(refine zq45 ?_;try exact zT))
            all_goals(try clear zx)
            exact Q0c hF (fun k o h=>by have hd:=hF.dom _ _ h;have hq:=hle k o h;simp (disch:=first|exact zdl|fail) only[zheap];exact hq) (hfin {F with Slot:=x.Slot} rfl rfl)
           ·skip
            have hb:bendP x F=F:=by simp only[bendP,b0,b1,b2,b3,b4,b5,b6,b7,b8,b9,if_false]
            rw[hb]
            (have zx:=zA e1 (zA e2 (zA e3 (zA g1 (zA g2 (zA g3 (zA b0 (zA b1 (zA b2 (zA b3 (zA b4 (zA b5 (zA b6 (zA b7 (zA b8 b9))))))))))))));refine zq45 ?_;try exact zT)
            repeat'(apply zK.s<;>intro hc<;>(try simp only[zhd]at hc)<;>(try have hw:=Y0a hc)<;>(refine zq45 ?_;try exact zT))
            all_goals(try clear zx)
            exact Q0c hF (fun k o h=>by have hd:=hF.dom _ _ h;have hq:=hle k o h;simp (disch:=first|exact zdl|fail) only[zheap];exact hq) (hfin F rfl rfl)
 have main2:∀ρ q,K45b x p ρ q->W C false noExt call (ZC.seq (ZC.seq Z1h (ZC.block 0 (ZC.seq K1m (ZC.cond (Tm 30) (ZC.seq Y1p (ZC.seq Y1k (ZC.seq Y1j (ZC.block 1 (ZC.loop Y02))))) (ZC.seq X1h (ZC.cond (Tm 68) (ZC.seq Z1o (ZC.seq Y1g (ZC.seq K1h (ZC.block 3 (ZC.loop V02))))) (ZC.seq Y1l (ZC.cond (Tm 103) (ZC.seq X1q Q1k) ZC.skip)))))))) (ZC.seq (ZC.seq Y03 (ZC.block 5 (ZC.seq X00 (ZC.cond (Tm 116) K01 (ZC.seq Z0z (ZC.cond (Tm 124) K03 (ZC.seq X01 (ZC.cond (Tm 129) Q02 (ZC.seq Z02 (ZC.cond (Tm 134) V00 (ZC.seq Q00 (ZC.cond (Tm 139) Q01 (ZC.seq Y0z (ZC.cond (Tm 144) K02 (ZC.seq Z01 (ZC.cond (Tm 149) Z00 (ZC.seq V01 (ZC.cond (Tm 156) Q03 (ZC.seq X02 (ZC.cond (Tm 168) Y00 (ZC.seq V0t (ZC.cond (Tm 173) V0u ZC.skip)))))))))))))))))))))) (ZC.seq K0u ZC.ret))) ρ q (endQ C (xfOf Try.f45).rs fun r'=>ShrR p r' (.ret (packetOf x).cv p)):=by
  rintro ρ q ⟨e1,e2,e3,g1,g2,g3,hn,hle⟩
  obtain⟨R,hRR⟩:∃R,R=(ZC.seq (ZC.seq Y03 (ZC.block 5 (ZC.seq X00 (ZC.cond (Tm 116) K01 (ZC.seq Z0z (ZC.cond (Tm 124) K03 (ZC.seq X01 (ZC.cond (Tm 129) Q02 (ZC.seq Z02 (ZC.cond (Tm 134) V00 (ZC.seq Q00 (ZC.cond (Tm 139) Q01 (ZC.seq Y0z (ZC.cond (Tm 144) K02 (ZC.seq Z01 (ZC.cond (Tm 149) Z00 (ZC.seq V01 (ZC.cond (Tm 156) Q03 (ZC.seq X02 (ZC.cond (Tm 168) Y00 (ZC.seq V0t (ZC.cond (Tm 173) V0u ZC.skip)))))))))))))))))))))) (ZC.seq K0u ZC.ret)):=⟨_,rfl⟩
  rw[<- hRR]at main ⊢
  clear hRR
  have hk6:=K0m (n:=x.Kind) (m:=6) (by omega)
  have hp8:=K0m (n:=x.Players) (m:=8) (by omega)
  have hbk:(baseP x).Kind=1+pick x.Kind 6:=rfl
  by_cases k2:1+pick x.Kind 6=2
  ·obtain⟨F0,hF0⟩:∃F0,F0=({baseP x with Kind:=2,Got:=pick x.Got 40,First:=pick x.First 40}:Q0a):=⟨_,rfl⟩
   have hFf:F={F0 with Inputs:=lstP (insOf x.Inputs.l)}:=by
    rw[hFe,filledP,if_pos k2,hF0]
    apply Q0a.ext'<;>first|rfl|exact k2
   (have zx:=zA e1 (zA e2 (zA e3 (zA g1 (zA g2 (zA g3 (zA hbk k2))))));refine zq45 ?_;try exact zT)
   repeat'(apply zK.s<;>intro hc<;>(try simp only[zhd]at hc)<;>(try have hw:=Y0a hc)<;>(refine zq45 ?_;try exact zT))
   all_goals(try clear zx)
   (show W C false noExt call (ZC.loop Y02) _ _ _);refine Z0j C false noExt call Y02 _ _ _ (J45 x F0 p) 16 ⟨0,⟨.nil,[],fun _=>rfl⟩,rfl,by omega,by omega,zev,zev,zev,zev,rfl,rfl,.inl rfl,zg9,zg9,?_,zdl,(fun k o h=>by have hd:=hF.dom _ _ h;have hq:=hle k o h;simp (disch:=first|exact zdl|fail) only[zheap];exact hq)⟩ ?_
   ·rw[hF0];simp (disch:=first|exact zdl|fail) only[zheap]<;>rfl
   clear e1 e2 e3 g1 g2 g3 hn hle
   rintro n ρ q ⟨m,A,rfl,hm16,hml,e1,e2,e3,e4,hAl,hAn,happ,g1,g2,g3,hn,hle⟩
   have hend:m=min 16 x.Inputs.l.length->∀ρ',ρ' 1=.ptr p.n []->ρ' 2=.ptr (p.n+1) []->ρ' 3=.ptr (p.n+15) []->K45 x F p ρ' q:=fun hm ρ' e1 e2 e3=>by
    have hins:insOf x.Inputs.l=A.l:=by
     rw[hAl,insOf]
     congr 1
     rcases Nat.le_total 16 x.Inputs.l.length with h|h
     ·congr 1;omega
     ·rw[List.take_of_length_le h,List.take_of_length_le (by omega)]
    refine⟨e1,e2,e3,A,F0.Rows,g1,g2,?_,by rw[hFf,hins],by omega,happ,?_,hn,hle⟩
    ·rw[g3,hFf]
    ·rw[hFf,hF0];exact Y0d (K0c (nilHas _))
   by_cases hlt:(m:Int)<x.Inputs.l.length
   ·by_cases h16:(m:Int)<16
    ·have hw3:=V08 ((nth x.Inputs.l m).tdiv 3)
     have hw4:w64 ((nth x.Inputs.l m).tdiv 3)=IntKind.i64.wrap ((nth x.Inputs.l m).tdiv 3):=rfl
     obtain⟨tl,al,ok⟩:=A
     simp only at hAl hAn
     rcases happ with ht|⟨j1,ht,hj1,hj2,hj3,hj4⟩
     ·simp only at ht
      subst ht
      (have zx:=zA e1 (zA e2 (zA e3 (zA e4 (zA g1 (zA g2 (zA g3 (zA hlt h16)))))));refine zq45 ?_;try exact zT)
      repeat'(apply zK.s<;>intro hc<;>(try simp only[zhd]at hc)<;>(try have hw:=Y0a hc)<;>(refine zq45 ?_;try exact zT))
      all_goals(try clear zx)
      refine⟨16-(m+1),by omega,m+1,⟨.own (q.n+18),al++[handInput (nth x.Inputs.l m) (w64 ((nth x.Inputs.l m).tdiv 3))],nofun⟩,rfl,by omega,by omega,zev,zev,zev,zev,by rw[K0l (by omega),List.map_append,<- hAl];rfl,by simp[hAn],.inr ⟨(q.n+18),rfl,zdl,zdl,by simp (disch:=first|exact zdl|fail) only[zheap];simp[hAn],by simp⟩,zg9,zg9,by simp (disch:=first|exact zdl|fail) only[zheap]<;>rfl,zdl,(fun k o h=>by have hd:=hF.dom _ _ h;have hq:=hle k o h;simp (disch:=first|exact zdl|fail) only[zheap];exact hq)⟩
     ·simp only at ht hj3 hj4
      subst ht
      (have zx:=zA e1 (zA e2 (zA e3 (zA e4 (zA g1 (zA g2 (zA g3 (zA hlt (zA h16 (zA hj3 hj4)))))))));refine zq45 ?_;try exact zT)
      repeat'(apply zK.s<;>intro hc<;>(try simp only[zhd]at hc)<;>(try have hw:=Y0a hc)<;>(refine zq45 ?_;try exact zT))
      all_goals(try clear zx)
      refine⟨16-(m+1),by omega,m+1,⟨.own (q.n+18),al++[handInput (nth x.Inputs.l m) (w64 ((nth x.Inputs.l m).tdiv 3))],nofun⟩,rfl,by omega,by omega,zev,zev,zev,zev,by rw[K0l (by omega),List.map_append,<- hAl];rfl,by simp[hAn],.inr ⟨(q.n+18),rfl,zdl,zdl,by simp (disch:=first|exact zdl|fail) only[zheap];simp[hAn],by simp⟩,zg9,zg9,by simp (disch:=first|exact zdl|fail) only[zheap]<;>rfl,zdl,(fun k o h=>by have hd:=hF.dom _ _ h;have hq:=hle k o h;simp (disch:=first|exact zdl|fail) only[zheap];exact hq)⟩
    ·(have zx:=zA e1 (zA e2 (zA e3 (zA e4 (zA g1 (zA g2 (zA g3 (zA hlt h16)))))));refine zq45 ?_;try exact zT)
     repeat'(apply zK.s<;>intro hc<;>(try simp only[zhd]at hc)<;>(try have hw:=Y0a hc)<;>(refine zq45 ?_;try exact zT))
     all_goals(try clear zx)
     exact main _ _ (hend (by omega) _ (zev) (zev) (zev))
   ·(have zx:=zA e1 (zA e2 (zA e3 (zA e4 (zA g1 (zA g2 (zA g3 hlt))))));refine zq45 ?_;try exact zT)
    repeat'(apply zK.s<;>intro hc<;>(try simp only[zhd]at hc)<;>(try have hw:=Y0a hc)<;>(refine zq45 ?_;try exact zT))
    all_goals(try clear zx)
    exact main _ _ (hend (by omega) _ (zev) (zev) (zev))
  ·by_cases k3:1+pick x.Kind 6=3
   ·obtain⟨F0,hF0⟩:∃F0,F0=({baseP x with Kind:=3,Players:=1+pick x.Players 8,First:=pick x.First 40}:Q0a):=⟨_,rfl⟩
    have hFf:F={F0 with Rows:=lstP (rows8 (1+pick x.Players 8) x.Rows.l)}:=by
     rw[hFe,filledP,if_neg k2,if_pos k3,hF0]
     apply Q0a.ext'<;>first|rfl|exact k3
    have hpl:F0.Players=1+pick x.Players 8:=by rw[hF0]
    (have zx:=zA e1 (zA e2 (zA e3 (zA g1 (zA g2 (zA g3 (zA hbk (zA k2 k3)))))));refine zq45 ?_;try exact zT)
    repeat'(apply zK.s<;>intro hc<;>(try simp only[zhd]at hc)<;>(try have hw:=Y0a hc)<;>(refine zq45 ?_;try exact zT))
    all_goals(try clear zx)
    (show W C false noExt call (ZC.loop V02) _ _ _);refine Z0j C false noExt call V02 _ _ _ (L45 x F0 (1+pick x.Players 8) p) 8 ⟨0,⟨.nil,[],fun _=>rfl⟩,rfl,by omega,by omega,zev,zev,zev,zev,rfl,rfl,.inl rfl,zg9,zg9,?_,zdl,(fun k o h=>by have hd:=hF.dom _ _ h;have hq:=hle k o h;simp (disch:=first|exact zdl|fail) only[zheap];exact hq)⟩ ?_
    ·rw[hF0];simp (disch:=first|exact zdl|fail) only[zheap]<;>rfl
    clear e1 e2 e3 g1 g2 g3 hn hle
    rintro n ρ q ⟨m,A,rfl,hm8,hml,e1,e2,e3,e5,hAl,hAn,happ,g1,g2,g3,hn,hle⟩
    have hend:m=min 8 x.Rows.l.length->∀ρ',ρ' 1=.ptr p.n []->ρ' 2=.ptr (p.n+1) []->ρ' 3=.ptr (p.n+15) []->K45 x F p ρ' q:=fun hm ρ' e1 e2 e3=>by
     have hins:rows8 (1+pick x.Players 8) x.Rows.l=A.l:=by
      rw[hAl,rows8]
      congr 1
      rcases Nat.le_total 8 x.Rows.l.length with h|h
      ·congr 1;omega
      ·rw[List.take_of_length_le h,List.take_of_length_le (by omega)]
     refine⟨e1,e2,e3,⟨.nil,[],fun _=>rfl⟩,A,g1,g2,?_,by rw[hFf,hF0];rfl,by simp,.inl rfl,?_,hn,hle⟩
     ·rw[g3,hFf,hF0];rfl
     ·rw[hFf,hins]
      exact happ.T.weak _ (CV.weakL_refl _ fun j hj=>by rw[hAl]at hj;exact(rowL_no _ _ j hj).elim)
    by_cases hlt:(m:Int)<x.Rows.l.length
    ·by_cases h8:(m:Int)<8
     ·have hrl:Lst.cv V0a.cv ⟨.part,rowOf (1+pick x.Players 8) (nth x.Rows.l m).l,nofun⟩=Lst.cv V0a.cv (rowL (1+pick x.Players 8) (nth x.Rows.l m)):=rfl
      obtain⟨tl,al,ok⟩:=A
      simp only at hAl hAn
      rcases happ with ht|⟨j1,ht,hj1,hj2,hj3,hj4⟩
      ·simp only at ht
       subst ht
       (have zx:=zA e1 (zA e2 (zA e3 (zA e5 (zA g1 (zA g2 (zA g3 (zA hlt (zA h8 hpl))))))));refine zq45 ?_;try exact zT)
       repeat'(apply zK.s<;>intro hc<;>(try simp only[zhd]at hc)<;>(try have hw:=Y0a hc)<;>(refine zq45 ?_;try exact zT))
       all_goals(try clear zx)
       refine⟨8-(m+1),by omega,m+1,⟨.own (q.n+14),al++[rowL (1+pick x.Players 8) (nth x.Rows.l m)],nofun⟩,rfl,by omega,by omega,zev,zev,zev,zev,by rw[K0l (by omega),List.map_append,<- hAl];rfl,by simp[hAn],.inr ⟨(q.n+14),rfl,zdl,zdl,by simp (disch:=first|exact zdl|fail) only[zheap];simp[hAn],by simp⟩,zg9,zg9,by simp (disch:=first|exact zdl|fail) only[zheap,hpl]<;>rfl,zdl,(fun k o h=>by have hd:=hF.dom _ _ h;have hq:=hle k o h;simp (disch:=first|exact zdl|fail) only[zheap];exact hq)⟩
      ·simp only at ht hj3 hj4
       subst ht
       (have zx:=zA e1 (zA e2 (zA e3 (zA e5 (zA g1 (zA g2 (zA g3 (zA hlt (zA h8 (zA hpl (zA hj3 hj4))))))))));refine zq45 ?_;try exact zT)
       repeat'(apply zK.s<;>intro hc<;>(try simp only[zhd]at hc)<;>(try have hw:=Y0a hc)<;>(refine zq45 ?_;try exact zT))
       all_goals(try clear zx)
       refine⟨8-(m+1),by omega,m+1,⟨.own (q.n+14),al++[rowL (1+pick x.Players 8) (nth x.Rows.l m)],nofun⟩,rfl,by omega,by omega,zev,zev,zev,zev,by rw[K0l (by omega),List.map_append,<- hAl];rfl,by simp[hAn],.inr ⟨(q.n+14),rfl,zdl,zdl,by simp (disch:=first|exact zdl|fail) only[zheap];simp[hAn],by simp⟩,zg9,zg9,by simp (disch:=first|exact zdl|fail) only[zheap,hpl]<;>rfl,zdl,(fun k o h=>by have hd:=hF.dom _ _ h;have hq:=hle k o h;simp (disch:=first|exact zdl|fail) only[zheap];exact hq)⟩
     ·(have zx:=zA e1 (zA e2 (zA e3 (zA e5 (zA g1 (zA g2 (zA g3 (zA hlt h8)))))));refine zq45 ?_;try exact zT)
      repeat'(apply zK.s<;>intro hc<;>(try simp only[zhd]at hc)<;>(try have hw:=Y0a hc)<;>(refine zq45 ?_;try exact zT))
      all_goals(try clear zx)
      exact main _ _ (hend (by omega) _ (zev) (zev) (zev))
    ·(have zx:=zA e1 (zA e2 (zA e3 (zA e5 (zA g1 (zA g2 (zA g3 hlt))))));refine zq45 ?_;try exact zT)
     repeat'(apply zK.s<;>intro hc<;>(try simp only[zhd]at hc)<;>(try have hw:=Y0a hc)<;>(refine zq45 ?_;try exact zT))
     all_goals(try clear zx)
     exact main _ _ (hend (by omega) _ (zev) (zev) (zev))
   ·by_cases k4:1+pick x.Kind 6=4
    ·have hFf:F={baseP x with Frame:=pick x.Frame 60,Mark:=pick x.Mark 4611686018427387904}:=by rw[hFe,filledP,if_neg k2,if_neg k3,if_pos k4]
     (have zx:=zA e1 (zA e2 (zA e3 (zA g1 (zA g2 (zA g3 (zA hbk (zA k2 (zA k3 k4))))))));refine zq45 ?_;try exact zT)
     repeat'(apply zK.s<;>intro hc<;>(try simp only[zhd]at hc)<;>(try have hw:=Y0a hc)<;>(refine zq45 ?_;try exact zT))
     all_goals(try clear zx)
     refine main _ _ ⟨zev,zev,zev,⟨.nil,[],fun _=>rfl⟩,⟨.nil,[],fun _=>rfl⟩,zg9,zg9,?_,by rw[hFf];rfl,by simp,.inl rfl,by rw[hFf];exact Y0d (K0c (nilHas _)),zdl,(fun k o h=>by have hd:=hF.dom _ _ h;have hq:=hle k o h;simp (disch:=first|exact zdl|fail) only[zheap];exact hq)⟩
     rw[hFf]
     simp (disch:=first|exact zdl|fail) only[zheap,hbk,k4]<;>rfl
    ·have hFf:F=baseP x:=by rw[hFe,filledP,if_neg k2,if_neg k3,if_neg k4]
     (have zx:=zA e1 (zA e2 (zA e3 (zA g1 (zA g2 (zA g3 (zA hbk (zA k2 (zA k3 k4))))))));refine zq45 ?_;try exact zT)
     repeat'(apply zK.s<;>intro hc<;>(try simp only[zhd]at hc)<;>(try have hw:=Y0a hc)<;>(refine zq45 ?_;try exact zT))
     all_goals(try clear zx)
     exact main _ _ ⟨zev,zev,zev,⟨.nil,[],fun _=>rfl⟩,⟨.nil,[],fun _=>rfl⟩,g1,g2,by rw[g3,hFf];rfl,by rw[hFf];rfl,by simp,.inl rfl,by rw[hFf];exact Y0d (K0c (nilHas _)),hn,hle⟩
 clear main
 show W C false noExt call (ZC.seq zn45_1 (ZC.seq zn45_3 (ZC.seq (ZC.seq zn45_6 (ZC.cond (Tm 20) (ZC.seq zn45_9 zn45_10) ZC.skip)) (ZC.seq (ZC.seq Z1h (ZC.block 0 (ZC.seq K1m (ZC.cond (Tm 30) (ZC.seq Y1p (ZC.seq Y1k (ZC.seq Y1j (ZC.block 1 (ZC.loop Y02))))) (ZC.seq X1h (ZC.cond (Tm 68) (ZC.seq Z1o (ZC.seq Y1g (ZC.seq K1h (ZC.block 3 (ZC.loop V02))))) (ZC.seq Y1l (ZC.cond (Tm 103) (ZC.seq X1q Q1k) ZC.skip)))))))) (ZC.seq (ZC.seq Y03 (ZC.block 5 (ZC.seq X00 (ZC.cond (Tm 116) K01 (ZC.seq Z0z (ZC.cond (Tm 124) K03 (ZC.seq X01 (ZC.cond (Tm 129) Q02 (ZC.seq Z02 (ZC.cond (Tm 134) V00 (ZC.seq Q00 (ZC.cond (Tm 139) Q01 (ZC.seq Y0z (ZC.cond (Tm 144) K02 (ZC.seq Z01 (ZC.cond (Tm 149) Z00 (ZC.seq V01 (ZC.cond (Tm 156) Q03 (ZC.seq X02 (ZC.cond (Tm 168) Y00 (ZC.seq V0t (ZC.cond (Tm 173) V0u ZC.skip)))))))))))))))))))))) (ZC.seq K0u ZC.ret)))))) _ _ _
 obtain⟨R,hRR⟩:∃R,R=ZC.seq (ZC.seq Z1h (ZC.block 0 (ZC.seq K1m (ZC.cond (Tm 30) (ZC.seq Y1p (ZC.seq Y1k (ZC.seq Y1j (ZC.block 1 (ZC.loop Y02))))) (ZC.seq X1h (ZC.cond (Tm 68) (ZC.seq Z1o (ZC.seq Y1g (ZC.seq K1h (ZC.block 3 (ZC.loop V02))))) (ZC.seq Y1l (ZC.cond (Tm 103) (ZC.seq X1q Q1k) ZC.skip)))))))) (ZC.seq (ZC.seq Y03 (ZC.block 5 (ZC.seq X00 (ZC.cond (Tm 116) K01 (ZC.seq Z0z (ZC.cond (Tm 124) K03 (ZC.seq X01 (ZC.cond (Tm 129) Q02 (ZC.seq Z02 (ZC.cond (Tm 134) V00 (ZC.seq Q00 (ZC.cond (Tm 139) Q01 (ZC.seq Y0z (ZC.cond (Tm 144) K02 (ZC.seq Z01 (ZC.cond (Tm 149) Z00 (ZC.seq V01 (ZC.cond (Tm 156) Q03 (ZC.seq X02 (ZC.cond (Tm 168) Y00 (ZC.seq V0t (ZC.cond (Tm 173) V0u ZC.skip)))))))))))))))))))))) (ZC.seq K0u ZC.ret)):=⟨_,rfl⟩
 rw[<- hRR]at main2 ⊢
 clear hRR
 have hk6:=K0m (n:=x.Kind) (m:=6) (by omega)
 cases hA:x.Any with
 |true=>
  (have zx:=hA;refine zq45 ?_;try exact zT)
  repeat'(apply zK.s<;>intro hc<;>(try simp only[zhd]at hc)<;>(try have hw:=Y0a hc)<;>(refine zq45 ?_;try exact zT))
  all_goals(try clear zx)
  refine main2 _ _ ⟨zev,zev,zev,zg9,zg9,?_,zdl,(fun k o h=>by have hd:=hF.dom _ _ h;simp (disch:=first|exact zdl|fail) only[zheap];exact h)⟩
  simp (disch:=first|exact zdl|fail) only[zheap,baseP,hA,if_true]<;>rfl
 |false=>
  (have zx:=hA;refine zq45 ?_;try exact zT)
  repeat'(apply zK.s<;>intro hc<;>(try simp only[zhd]at hc)<;>(try have hw:=Y0a hc)<;>(refine zq45 ?_;try exact zT))
  all_goals(try clear zx)
  refine main2 _ _ ⟨zev,zev,zev,zg9,zg9,?_,zdl,(fun k o h=>by have hd:=hF.dom _ _ h;simp (disch:=first|exact zdl|fail) only[zheap];exact h)⟩
  simp (disch:=first|exact zdl|fail) only[zheap,baseP,hA,Bool.false_eq_true,if_false]<;>rfl
end Go.Proofs.Ytpchcfkebljopaa
end
section
namespace Go.Proofs.Ytpchcfkebljopaa
open Go.Cl Go Go.RowKit
theorem bend_small(x:K0a)(b:Q0a): (bendP x b).Rows=b.Rows/\(bendP x b).Acks=b.Acks/\(bendP x b).Inputs.l.length<=b.Inputs.l.length+1:=by
 unfold bendP
 generalize pick x.Bend 40=k
 by_cases h:k=30
 ·rw[if_pos h];exact⟨rfl,rfl,Nat.le_succ _⟩
 rw[if_neg h];clear h
 by_cases h:k=31
 ·rw[if_pos h];exact⟨rfl,rfl,Nat.le_succ _⟩
 rw[if_neg h];clear h
 by_cases h:k=32
 ·rw[if_pos h];exact⟨rfl,rfl,Nat.le_succ _⟩
 rw[if_neg h];clear h
 by_cases h:k=33
 ·rw[if_pos h];exact⟨rfl,rfl,Nat.le_succ _⟩
 rw[if_neg h];clear h
 by_cases h:k=34
 ·rw[if_pos h];exact⟨rfl,rfl,Nat.le_succ _⟩
 rw[if_neg h];clear h
 by_cases h:k=35
 ·rw[if_pos h];exact⟨rfl,rfl,Nat.le_succ _⟩
 rw[if_neg h];clear h
 by_cases h:k=36
 ·rw[if_pos h];exact⟨rfl,rfl,Nat.le_succ _⟩
 rw[if_neg h];clear h
 by_cases h:k=37
 ·rw[if_pos h];exact⟨rfl,rfl,by simp only[Q0r,List.length_append,List.length_singleton];omega⟩
 rw[if_neg h];clear h
 by_cases h:k=38
 ·rw[if_pos h];exact⟨rfl,rfl,Nat.le_succ _⟩
 rw[if_neg h];clear h
 by_cases h:k=39
 ·rw[if_pos h];exact⟨rfl,rfl,Nat.le_succ _⟩
 rw[if_neg h];clear h
 exact⟨rfl,rfl,Nat.le_succ _⟩
theorem V0r(x:K0a): (packetOf x).Inputs.l.length<=17/\(packetOf x).Rows.l.length<=8/\∀r∈(packetOf x).Rows.l,r.l.length<=8:=by
 have hp8:=K0m (n:=x.Players) (m:=8) (by omega)
 have h1:(filledP x).Inputs.l.length<=16/\(filledP x).Rows.l.length<=8/\∀r∈(filledP x).Rows.l,r.l.length<=8:=by
  unfold filledP
  split
  ·refine⟨by simp only[Q0r,insOf,List.length_map,List.length_take];omega,Nat.zero_le _,nofun⟩
  ·split
   ·refine⟨Nat.zero_le _,by simp only[Q0r,rows8,List.length_map,List.length_take];omega,fun r hr=>?_⟩
    simp only[Q0r,rows8]at hr
    obtain⟨y,_,rfl⟩:=List.mem_map.1 hr
    rw[rowL,rowOf_len];omega
   ·split<;>exact⟨Nat.zero_le _,Nat.zero_le _,nofun⟩
 obtain⟨i1,i2,i3⟩:=h1
 rw[packetOf]
 obtain⟨e1,_,e3⟩:=bend_small x (filledP x)
 exact⟨by omega,by rw[e1];exact i2,by rw[e1];exact i3⟩
theorem lay_size{key:Int}{a:Q0a}: (layP key a).length=((packBits a).length+7)/8+4:=by rw[layP,Y0y,V0f]
theorem b2i_at(u:Int)(i:Nat): b2i (bitAt u i)=u/2^i % 2:=by
 have:u/2^i % 2=0\/u/2^i % 2=1:=by omega
 unfold bitAt b2i
 rcases this with h|h<;>simp[h]
theorem slot_val(b:List Int): valB (bitB b) 3 3=nth b 0/4 % 8:=by
 simp only[valB,bitB,b2i_at]
 show 2*(2*(2*0+nth b 0/2^4 % 2)+nth b 0/2^3 % 2)+nth b 0/2^2 % 2=nth b 0/4 % 8
 generalize nth b 0=u
 omega
theorem slot_lay{key:Int}{a:Q0a}(hR:packRight a=true): slotB (layP key a)=a.Slot/\layP key a≠[]:=by
 have hm:=Q0x hR
 obtain⟨hh,_⟩:=V0h hR
 simp only[headRight,within,Bool.and_eq_true,decide_eq_true_eq]at hh
 have hsl:=hh.1.1.1.2
 have hpl:=V0f (packBits a)
 have hne:layP key a≠[]:=fun e=>by
  have:=congrArg List.length e
  rw[lay_size,List.length_nil]at this;omega
 obtain⟨rest,hr⟩:∃rest,packBits a=packHead a++rest:=⟨_,rfl⟩
 have hat:At (packB (packBits a)) 0 (packHead a++rest):=by rw[<- hr];exact pack_at _
 have k0:=hat.left
 unfold packHead at k0
 have j2:=k0.left.left.left.left.right
 simp only[X0d,Nat.zero_add]at j2
 have hg:=X0h j2 (by omega)
 rw[getB,if_pos (by omega)]at hg
 simp only[Except.ok.injEq,Prod.mk.injEq]at hg
 refine⟨?_,hne⟩
 rw[slotB,if_neg hne,<- hg.1,slot_val]
 congr 2
 rw[layP,closeB]
 have h0:0<(packB (packBits a)).length:=by omega
 rw[Z0i (by rw[List.length_append];omega),Z0i h0,List.getElem_append_left h0]
def cellsN(l:List V0a): Nat:=(l.flatMap cellBits).length
theorem cellsN_step{l:List V0a}{k:Nat}(h:k<l.length): cellsN (l.take (k+1))=cellsN (l.take k)+(1+if(nth l k).Real then 24 else 0):=by
 unfold cellsN
 rw[Y0n _ _ h,List.length_append]
 congr 1
 unfold cellBits
 split<;>simp[X0d,V0m]
theorem cellsN_app(l m:List V0a): cellsN (l++m)=cellsN l+cellsN m:=by simp[cellsN]
theorem cellsN_le(l:List V0a): cellsN l<=25*l.length:=Z06 l
end Go.Proofs.Ytpchcfkebljopaa
end
section
namespace Go.Proofs.Ytpchcfkebljopaa
open Go.Cl Go Go.RowKit
set_option maxRecDepth 100000
set_option linter.constructorNameAsVariable false
theorem Z1g(x:K0a): packOk (packetOf x):=by
 obtain⟨h1,h2,h3⟩:=V0r x
 exact⟨by omega,by omega,fun r hr=>by have:=h3 r hr;omega⟩
def K14(key:Int)(a:Q0a)(p:Hp)(ρ:Env)(q:Hp): Prop:=
 ρ 6=Lst.cv Y8 (partB (layP key a))/\ρ 8=I (packBits a).length/\ρ 5=.ptr (p.n+1) []/\q.t.get (p.n+1)=some (.var sh94 a.cv)/\p.n+1<q.n/\HpLe p q
def J14(key:Int)(a:Q0a)(p:Hp)(n:Nat)(ρ:Env)(q:Hp): Prop:=
 ∃i:Nat,n=a.Rows.l.length-i/\i<=a.Rows.l.length/\ρ 6=Lst.cv Y8 (partB (layP key a))/\ρ 8=I ((121+cellsN (flat (a.Rows.l.take i)):Nat):Int)/\ρ 5=.ptr (p.n+1) []/\ρ 51=I a.Rows.l.length/\ρ 52=I i/\q.t.get (p.n+1)=some (.var sh94 a.cv)/\p.n+1<q.n/\HpLe p q
def L14(key:Int)(a:Q0a)(i:Nat)(p:Hp)(n:Nat)(ρ:Env)(q:Hp): Prop:=
 ∃k:Nat,n=(nth a.Rows.l i).l.length-k/\k<=(nth a.Rows.l i).l.length/\ρ 6=Lst.cv Y8 (partB (layP key a))/\ρ 8=I ((121+cellsN (flat (a.Rows.l.take i))+cellsN ((nth a.Rows.l i).l.take k):Nat):Int)/\ρ 5=.ptr (p.n+1) []/\ρ 51=I a.Rows.l.length/\ρ 52=I i/\ρ 9=I i/\ρ 60=I (nth a.Rows.l i).l.length/\ρ 61=I k/\q.t.get (p.n+1)=some (.var sh94 a.cv)/\p.n+1<q.n/\HpLe p q
def R14: Rel:=fun args p r=>∃(x:K0a) (tok:Int),args=[x.cv,I tok]/\r=.ret (Bo true) p
theorem zdis14{P:Prop}(h:P:=by first|exact zdis|(simp only[Hp.bump_n,Hp.znew_n,Hp.zset_n,List.length_nil,List.length_cons,List.length_append,List.length_map,K0h];(first|done|omega))|(simp (disch:=first|exact zd1|(simp only[Hp.bump_n,Hp.znew_n,Hp.zset_n,List.length_nil,List.length_cons,List.length_append,List.length_map,K0h];(first|done|omega))) only[zheap,zx];(first|done|rfl))|fail): P:=h
theorem zq14{A B:Prop}(k:B)(h:A=B:=by have zy:=zA @zw14<|zA @rs14<|zA @tt3<|zA @tt4<|zA @tt68<|zA @tt69<|zA @tt90<|zA @tt91<|zA @tt92<|zA @tt94<|zA @tt108<|zA @tt110<|zA ti3.eq_1<|zA ti4.eq_1<|zA ti68.eq_1<|zA ti69.eq_1<|zA ti90.eq_1<|zA ti91.eq_1<|zA ti92.eq_1<|zA ti94.eq_1<|zA ti108.eq_1<|zA ti110.eq_1<|zA @t_37<|zA @t_45<|zA @t_46<|zA @t_47<|zA @t_50<|zA @t_55<|zA @Q0o<|zA @Z0d<|zA @Z0e<|zA @zsl68<|zA @zsl91<|zA @zsl92<|zA @zsl108<|@K0h;have zd:=@zdis14;exact zQd): A:=h▸k
theorem c14: Con C 14 R14:=by
 refine K0e C ?_ ?_ ?_
 ·rintro args p r r' ⟨x,tok,h,e⟩ ⟨x',tok',h',e'⟩
  subst e;subst e';simp_all[K0a.inj_iff,Q0a.inj_iff,V0a.inj_iff,V0g,Z0n,K0j,K0i]
 ·rintro args p r ⟨x,tok,h,rfl⟩;exact zr1
 rintro args p r ⟨x,tok,rfl,rfl⟩
 refine zW C false [(37,R37),(45,R45),(46,R46),(47,R47),(50,R50),(55,R55)] ⟨c37,c45,c46,c47,c50,c55,zT⟩ rfl xf14 zc14_ok fun call zh hF=>?_
 have t_37:=@t37 _ zh.1
 have t_45:=@t45 _ zh.2.1
 have t_46:=@t46 _ zh.2.2.1
 have t_47:=@t47 _ zh.2.2.2.1
 have t_50:=@t50 _ zh.2.2.2.2.1
 have t_55:=@t55 _ zh.2.2.2.2.2.1
 clear zh
 have hok:=Z1g x
 obtain⟨hs1,hs2,hs3⟩:=V0r x
 generalize hA:packetOf x=a at hok hs1 hs2 hs3
 have hpk:=K0m (n:=tok) (m:=1000) (by omega)
 generalize hK:pick tok 1000=key at hpk
 cases hR:packRight a with
 |false=>
  have hn0:(nilB.l.length:Int)=0:=rfl
  (have zx:=zA hA (zA hK (zA hok (zA hR hn0)));refine zq14 ?_;try exact zT)
  repeat'(apply zK.s<;>intro hc<;>(try simp only[zhd]at hc)<;>(try have hw:=Y0a hc)<;>(refine zq14 ?_;try exact zT))
  all_goals(try clear zx)
  exact Q0c hF zle (X0c rfl (K0c (by intro jj;simp[CV.has])))
 |true=>
  have hm:=Q0x hR
  have hsz:=lay_size (key:=key) (a:=a)
  obtain⟨hsl,hne⟩:=slot_lay (key:=key) hR
  have hb:=lay_byteP key a
  have main:∀ρ q,K14 key a p ρ q->W C false noExt call (ZC.seq V1q (ZC.seq Z1n ZC.ret)) ρ q (endQ C (xfOf Try.f14).rs fun r'=>ShrR p r' (.ret (Bo true) p)):=by
   rintro ρ q ⟨e6,e8,e5,g1,hn,hle⟩
   have hl1:(((packBits a).length:Int)+7).tdiv 8=((((packBits a).length+7)/8:Nat):Int):=by rw[Int.tdiv_eq_ediv_of_nonneg (by omega)];omega
   have hl2:((layP key a).length:Int)=((((packBits a).length+7)/8:Nat):Int)+4:=by omega
   have ts5:=fun q=>t_55 (partB (layP key a)) (p:=q) hb
   rw[K0h,hsl]at ts5
   have hd:decide (layP key a≠[])=true:=decide_eq_true hne
   have h400:((((packBits a).length+7)/8:Nat):Int)+4<=400:=by omega
   have hds:decide (a.Slot=a.Slot)=true:=decide_eq_true rfl
   (have zx:=zA e6 (zA e8 (zA e5 (zA g1 (zA hl1 (zA hl2 (zA ts5 (zA hd (zA h400 (zA hsl hds)))))))));refine zq14 ?_;try exact zT)
   repeat'(apply zK.s<;>intro hc<;>(try simp only[zhd]at hc)<;>(try have hw:=Y0a hc)<;>(refine zq14 ?_;try exact zT))
   all_goals(try clear zx)
   exact Q0c hF zlq (X0c rfl (K0c (by intro jj;simp[CV.has])))
  show W C false noExt call (ZC.seq zn14_1 (ZC.seq (ZC.seq zn14_4 (ZC.cond (Tm 14) (ZC.seq zn14_7 ZC.ret) ZC.skip)) (ZC.seq zn14_9 (ZC.seq zn14_11 (ZC.seq (ZC.seq zn14_14 (ZC.cond (Tm 25) (ZC.seq zn14_17 ZC.ret) ZC.skip)) (ZC.seq zn14_19 (ZC.seq (ZC.seq zn14_22 (ZC.block 0 (ZC.seq zn14_25 (ZC.cond (Tm 36) zn14_27 (ZC.seq zn14_29 (ZC.cond (Tm 45) (ZC.seq zn14_32 (ZC.seq zn14_34 (ZC.block 1 (ZC.loop Y1o)))) (ZC.seq zn14_66 (ZC.cond (Tm 79) zn14_68 ZC.skip)))))))) (ZC.seq V1q (ZC.seq Z1n ZC.ret))))))))) _ _ _
  obtain⟨R,hRR⟩:∃R,R=(ZC.seq V1q (ZC.seq Z1n ZC.ret)):=⟨_,rfl⟩
  rw[<- hRR]at main ⊢
  clear hRR
  by_cases k2:a.Kind=2
  ·have hpb:(packBits a).length=103+25+24*a.Inputs.l.length:=by rw[packBits,if_pos k2,List.length_append,K0f,List.length_append,V0l,K1f inBits 24 _ fun x _=>V0m x];omega
   (have zx:=zA hA (zA hK (zA hok (zA hR k2)));refine zq14 ?_;try exact zT)
   repeat'(apply zK.s<;>intro hc<;>(try simp only[zhd]at hc)<;>(try have hw:=Y0a hc)<;>(refine zq14 ?_;try exact zT))
   all_goals(try clear zx)
   exact main _ _ ⟨zev,by rw[hpb];simp[put_at,Y0c],zev,zg9,zdl,(fun k o h=>by have hd:=hF.dom _ _ h;simp (disch:=first|exact zdl|fail) only[zheap];exact h)⟩
  ·by_cases k3:a.Kind=3
   ·have hpb:(packBits a).length=121+cellsN (flat a.Rows.l):=by rw[packBits,if_neg k2,if_pos k3,List.length_append,K0f,rowsBits,List.length_append,K0p,cellsN];omega
    have h8:=Z1d hs3
    (have zx:=zA hA (zA hK (zA hok (zA hR (zA k2 k3))));refine zq14 ?_;try exact zT)
    repeat'(apply zK.s<;>intro hc<;>(try simp only[zhd]at hc)<;>(try have hw:=Y0a hc)<;>(refine zq14 ?_;try exact zT))
    all_goals(try clear zx)
    (show W C false noExt call (ZC.loop Y1o) _ _ _);refine Z0j C false noExt call Y1o _ _ _ (J14 key a p) a.Rows.l.length ⟨0,rfl,by omega,zev,by simp[put_at,Y0c,cellsN,flat],zev,zev,zev,zg9,zdl,(fun k o h=>by have hd:=hF.dom _ _ h;simp (disch:=first|exact zdl|fail) only[zheap];exact h)⟩ ?_
    rintro n ρ q ⟨i,rfl,hi,e6,e8,e5,e51,e52,g1,hn,hle⟩
    have hf1:=Q0m a.Rows.l i
    have hc1:=cellsN_le (flat (a.Rows.l.take i))
    by_cases hlt:(i:Int)<a.Rows.l.length
    ·have hst:=Z03 (l:=a.Rows.l) (k:=i) (by omega)
     have hrl:=hs3 (nth a.Rows.l i) (by rw[Z0i (by omega)];exact List.getElem_mem _)
     (have zx:=zA e6 (zA e8 (zA e5 (zA e51 (zA e52 (zA g1 hlt)))));refine zq14 ?_;try exact zT)
     repeat'(apply zK.s<;>intro hc<;>(try simp only[zhd]at hc)<;>(try have hw:=Y0a hc)<;>(refine zq14 ?_;try exact zT))
     all_goals(try clear zx)
     (show W C false noExt call (ZC.loop X12) _ _ _);refine Z0j C false noExt call X12 _ _ _ (L14 key a i p) (nth a.Rows.l i).l.length ⟨0,rfl,by omega,zev,by simp[put_at,Y0c,e8,cellsN],zev,zev,zev,zev,zev,zev,g1,hn,hle⟩ ?_
     clear e6 e8 e5 e51 e52 g1 hn hle
     rintro n ρ q ⟨k,rfl,hk,e6,e8,e5,e51,e52,e9,e60,e61,g1,hn,hle⟩
     have hc2:=cellsN_le ((nth a.Rows.l i).l.take k)
     rw[List.length_take]at hc2
     by_cases hlt2:(k:Int)<(nth a.Rows.l i).l.length
     ·have hcs:=cellsN_step (l:=(nth a.Rows.l i).l) (k:=k) (by omega)
      cases hre:(nth (nth a.Rows.l i).l k).Real with
      |true=>
       rw[hre,if_pos rfl]at hcs
       (have zx:=zA e6 (zA e8 (zA e5 (zA e51 (zA e52 (zA e9 (zA e60 (zA e61 (zA g1 (zA hlt (zA hlt2 hre))))))))));refine zq14 ?_;try exact zT)
       repeat'(apply zK.s<;>intro hc<;>(try simp only[zhd]at hc)<;>(try have hw:=Y0a hc)<;>(refine zq14 ?_;try exact zT))
       all_goals(try clear zx)
       exact⟨(nth a.Rows.l i).l.length-(k+1),by omega,k+1,rfl,by omega,zev,by rw[hcs];simp[put_at,Y0c];omega,zev,zev,zev,zev,zev,zev,g1,hn,hle⟩
      |false=>
       rw[hre,if_neg Bool.false_ne_true]at hcs
       (have zx:=zA e6 (zA e8 (zA e5 (zA e51 (zA e52 (zA e9 (zA e60 (zA e61 (zA g1 (zA hlt (zA hlt2 hre))))))))));refine zq14 ?_;try exact zT)
       repeat'(apply zK.s<;>intro hc<;>(try simp only[zhd]at hc)<;>(try have hw:=Y0a hc)<;>(refine zq14 ?_;try exact zT))
       all_goals(try clear zx)
       exact⟨(nth a.Rows.l i).l.length-(k+1),by omega,k+1,rfl,by omega,zev,by rw[hcs];simp[put_at,Y0c];omega,zev,zev,zev,zev,zev,zev,g1,hn,hle⟩
     ·rw[List.take_of_length_le (l:=(nth a.Rows.l i).l) (i:=k) (by omega)]at e8
      (have zx:=zA e6 (zA e8 (zA e5 (zA e51 (zA e52 (zA e9 (zA e60 (zA e61 (zA g1 (zA hlt hlt2)))))))));refine zq14 ?_;try exact zT)
      repeat'(apply zK.s<;>intro hc<;>(try simp only[zhd]at hc)<;>(try have hw:=Y0a hc)<;>(refine zq14 ?_;try exact zT))
      all_goals(try clear zx)
      exact⟨a.Rows.l.length-(i+1),by omega,i+1,rfl,by omega,zev,by rw[hst,cellsN_app];simp[put_at,Y0c,e8];omega,zev,zev,zev,g1,hn,hle⟩
    ·have hie:i=a.Rows.l.length:=by omega
     rw[hie,List.take_length]at e8
     (have zx:=zA e6 (zA e8 (zA e5 (zA e51 (zA e52 (zA g1 hlt)))));refine zq14 ?_;try exact zT)
     repeat'(apply zK.s<;>intro hc<;>(try simp only[zhd]at hc)<;>(try have hw:=Y0a hc)<;>(refine zq14 ?_;try exact zT))
     all_goals(try clear zx)
     exact main _ _ ⟨zev,by rw[hpb];simp[put_at,Y0c,e8],zev,g1,hn,hle⟩
   ·by_cases k4:a.Kind=4
    ·have hpb:(packBits a).length=103+72:=by rw[packBits,if_neg k2,if_neg k3,if_pos k4,List.length_append,K0f,List.length_append,X0d,X0d]
     (have zx:=zA hA (zA hK (zA hok (zA hR (zA k2 (zA k3 k4)))));refine zq14 ?_;try exact zT)
     repeat'(apply zK.s<;>intro hc<;>(try simp only[zhd]at hc)<;>(try have hw:=Y0a hc)<;>(refine zq14 ?_;try exact zT))
     all_goals(try clear zx)
     exact main _ _ ⟨zev,by rw[hpb];simp[put_at,Y0c],zev,zg9,zdl,(fun k o h=>by have hd:=hF.dom _ _ h;simp (disch:=first|exact zdl|fail) only[zheap];exact h)⟩
    ·have hpb:(packBits a).length=103:=by rw[packBits,if_neg k2,if_neg k3,if_neg k4,List.append_nil,K0f]
     (have zx:=zA hA (zA hK (zA hok (zA hR (zA k2 (zA k3 k4)))));refine zq14 ?_;try exact zT)
     repeat'(apply zK.s<;>intro hc<;>(try simp only[zhd]at hc)<;>(try have hw:=Y0a hc)<;>(refine zq14 ?_;try exact zT))
     all_goals(try clear zx)
     exact main _ _ ⟨zev,by rw[hpb];simp[put_at,Y0c],zev,zg9,zdl,(fun k o h=>by have hd:=hF.dom _ _ h;simp (disch:=first|exact zdl|fail) only[zheap];exact h)⟩
end Go.Proofs.Ytpchcfkebljopaa
end
section
namespace Go.Proofs.Ytpchcfkebljopaa
open Go.Cl Go Go.ChangeShapes Go.WideShapes Go.ChangeAt Go.RowKit
set_option maxRecDepth 100000
set_option linter.constructorNameAsVariable false
theorem a58{n:Nat}{v:CV}(h:Ty2 Try.prog (n+3) 58 v): ∃s:Lst (Lst Int),v=s.cv (Lst.cv I)/\(s.tl=.view\/s.tl=.nil):=of_slice Try.underlying58 (fun _ h=>let⟨i,e,_⟩:=a24 h;⟨i,e⟩) h
theorem of_bool{P:Program}{n:Nat}{t:TypeId}{v:CV}(hu:P.underlying t=some .bool)(h:Ty2 P (n+1) t v): ∃b,v=Bo b:=by
 simp only[Ty2,hu]at h
 exact h
end Go.Proofs.Ytpchcfkebljopaa
end
section
namespace Go.Proofs.Ytpchcfkebljopaa
open Go.Cl Go Go.RowKit
set_option maxRecDepth 100000
set_option linter.constructorNameAsVariable false
theorem a90{n:Nat}{v:CV}(h:Ty2 Try.prog (n+4) 90 v): ∃x:K0a,v=x.cv/\(0<=x.Acks/\x.Acks<18446744073709551616):=by
 obtain⟨l,rfl,hs⟩:=of_struct Try.underlying90 h
 replace h:=hs
 obtain⟨v0,l0,rfl,h0,h⟩:=Z0h h
 obtain⟨v1,l1,rfl,h1,h⟩:=Z0h h
 obtain⟨v2,l2,rfl,h2,h⟩:=Z0h h
 obtain⟨v3,l3,rfl,h3,h⟩:=Z0h h
 obtain⟨v4,l4,rfl,h4,h⟩:=Z0h h
 obtain⟨v5,l5,rfl,h5,h⟩:=Z0h h
 obtain⟨v6,l6,rfl,h6,h⟩:=Z0h h
 obtain⟨v7,l7,rfl,h7,h⟩:=Z0h h
 obtain⟨v8,l8,rfl,h8,h⟩:=Z0h h
 obtain⟨v9,l9,rfl,h9,h⟩:=Z0h h
 obtain⟨v10,l10,rfl,h10,h⟩:=Z0h h
 obtain⟨v11,l11,rfl,h11,h⟩:=Z0h h
 obtain⟨v12,l12,rfl,h12,h⟩:=Z0h h
 obtain⟨v13,l13,rfl,h13,h⟩:=Z0h h
 obtain rfl:=all2_nil h
 obtain⟨x0,rfl,_⟩:=a3 (n:=n+2) h0
 obtain⟨x1,rfl,_⟩:=a3 (n:=n+2) h1
 obtain⟨x2,rfl,_⟩:=a3 (n:=n+2) h2
 obtain⟨x3,rfl,_⟩:=a3 (n:=n+2) h3
 obtain⟨x4,rfl,_⟩:=a3 (n:=n+2) h4
 obtain⟨x5,rfl,_⟩:=a3 (n:=n+2) h5
 obtain⟨x6,rfl,_⟩:=a3 (n:=n+2) h6
 obtain⟨x7,rfl,_⟩:=a3 (n:=n+2) h7
 obtain⟨x8,rfl,_⟩:=a3 (n:=n+2) h8
 obtain⟨x9,rfl,_⟩:=a3 (n:=n+2) h9
 obtain⟨x10,rfl⟩:=of_bool (n:=n+2) Try.underlying4 h10
 obtain⟨x11,rfl,w1,w2⟩:=a25 (n:=n+2) h11
 obtain⟨x12,rfl,_⟩:=a24 (n:=n+1) h12
 obtain⟨x13,rfl,_⟩:=a58 (n:=n) h13
 exact⟨⟨x0,x1,x2,x3,x4,x5,x6,x7,x8,x9,x10,x11,x12,x13⟩,rfl,w1,by show x11<_;omega⟩
end Go.Proofs.Ytpchcfkebljopaa
end
section
namespace Go.Proofs.Ytpchcfkebljopaa
open Go.Cl Go Go.RowKit
theorem rowsL_e{r:Lst (Lst V0a)}: rowsL r=[] ↔ r.l=[]:=⟨rowsL_nil,fun h=>by rw[rowsL,h];rfl⟩
theorem same_own(a:Q0a): sameP (ownP a) a=true ↔ (a.Kind=2\/(a.Got=0/\a.Inputs.l=[]))/\(a.Kind=2\/a.Kind=3\/a.First=0)/\(a.Kind=3\/(a.Players=0/\a.Rows.l=[]))/\(a.Kind=4\/(a.Frame=0/\a.Mark=0)):=by
 have hz:rowsL Q0a.zero.Rows=[]:=rfl
 have hz2:Q0a.zero.Inputs.l=[]:=rfl
 have z1:Q0a.zero.Got=0:=rfl
 have z2:Q0a.zero.First=0:=rfl
 have z3:Q0a.zero.Players=0:=rfl
 have z4:Q0a.zero.Frame=0:=rfl
 have z5:Q0a.zero.Mark=0:=rfl
 have er:([]=rowsL a.Rows) ↔ a.Rows.l=[]:=eq_comm.trans rowsL_e
 have ei:([]=a.Inputs.l) ↔ a.Inputs.l=[]:=eq_comm
 have e0:∀n:Int,(0=n) ↔ n=0:=fun n=>eq_comm
 by_cases h2:a.Kind=2
 ·have h3:¬a.Kind=3:=by omega
  have h4:¬a.Kind=4:=by omega
  simp only[sameP,ownP,if_pos h2,Bool.and_eq_true,decide_eq_true_eq,hz,hz2,z1,z2,z3,z4,z5,er,ei,e0,true_and,and_true]
  constructor
  ·rintro⟨⟨⟨h,i⟩,j⟩,k⟩;exact⟨.inl h2,.inl h2,.inr ⟨h,i⟩,.inr ⟨j,k⟩⟩
  ·rintro⟨_,_,r,k⟩;exact⟨⟨⟨(r.resolve_left h3).1,(r.resolve_left h3).2⟩,(k.resolve_left h4).1⟩,(k.resolve_left h4).2⟩
 ·by_cases h3:a.Kind=3
  ·have h4:¬a.Kind=4:=by omega
   simp only[sameP,ownP,if_neg h2,if_pos h3,Bool.and_eq_true,decide_eq_true_eq,hz,hz2,z1,z2,z3,z4,z5,er,ei,e0,true_and,and_true]
   constructor
   ·rintro⟨⟨⟨h,i⟩,j⟩,k⟩;exact⟨.inr ⟨h,i⟩,.inr (.inl h3),.inl h3,.inr ⟨j,k⟩⟩
   ·rintro⟨h,_,_,k⟩;exact⟨⟨⟨(h.resolve_left h2).1,(h.resolve_left h2).2⟩,(k.resolve_left h4).1⟩,(k.resolve_left h4).2⟩
  ·by_cases h4:a.Kind=4
   ·simp only[sameP,ownP,if_neg h2,if_neg h3,if_pos h4,Bool.and_eq_true,decide_eq_true_eq,hz,hz2,z1,z2,z3,z4,z5,er,ei,e0,true_and,and_true]
    constructor
    ·rintro⟨⟨⟨⟨h,i⟩,j⟩,k⟩,l⟩;exact⟨.inr ⟨h,j⟩,.inr (.inr i),.inr ⟨k,l⟩,.inl h4⟩
    ·rintro⟨h,f,r,_⟩;exact⟨⟨⟨⟨(h.resolve_left h2).1,(f.resolve_left h2).resolve_left h3⟩,(h.resolve_left h2).2⟩,(r.resolve_left h3).1⟩,(r.resolve_left h3).2⟩
   ·simp only[sameP,ownP,if_neg h2,if_neg h3,if_neg h4,Bool.and_eq_true,decide_eq_true_eq,hz,hz2,z1,z2,z3,z4,z5,er,ei,e0,true_and,and_true]
    constructor
    ·rintro⟨⟨⟨⟨⟨⟨h,i⟩,j⟩,k⟩,l⟩,m⟩,n⟩;exact⟨.inr ⟨h,j⟩,.inr (.inr i),.inr ⟨k,l⟩,.inr ⟨m,n⟩⟩
    ·rintro⟨h,f,r,k⟩;exact⟨⟨⟨⟨⟨⟨(h.resolve_left h2).1,(f.resolve_left h2).resolve_left h3⟩,(h.resolve_left h2).2⟩,(r.resolve_left h3).1⟩,(r.resolve_left h3).2⟩,(k.resolve_left h4).1⟩,(k.resolve_left h4).2⟩
structure RightP(a:Q0a): Prop where
 hd:headRight a=true
 ins:a.Kind=2\/(a.Got=0/\a.Inputs.l=[])
 first:a.Kind=2\/a.Kind=3\/a.First=0
 rows:a.Kind=3\/(a.Players=0/\a.Rows.l=[])
 frame:a.Kind=4\/(a.Frame=0/\a.Mark=0)
 wGot:within a.Got 0 600=true
 wFirst:within a.First 0 600=true
 wFrame:within a.Frame 0 600=true
 wMark:within a.Mark 0 4611686018427387903=true
 two:a.Kind=2->a.Inputs.l.length<=16/\a.Inputs.l.all inRight=true
 three:a.Kind=3->rowsRight a.Rows.l a.Players=true
theorem Y0j(a:Q0a): packRight a=true ↔ RightP a:=by
 constructor
 ·intro h
  obtain⟨hh,hs,hg,hf,hfr,hm⟩:=V0h h
  obtain⟨i,f,r,k⟩:=(same_own a).1 hs
  exact⟨hh,i,f,r,k,hg,hf,hfr,hm,Q1z h,V1y h⟩
 ·intro h
  have hs:=(same_own a).2 ⟨h.ins,h.first,h.rows,h.frame⟩
  simp only[packRight,h.hd,hs,h.wGot,h.wFirst,h.wFrame,h.wMark,Bool.true_and]
  by_cases h2:a.Kind=2
  ·rw[if_pos h2,(h.two h2).2,decide_eq_true (h.two h2).1];rfl
  ·rw[if_neg h2]
   by_cases h3:a.Kind=3
   ·rw[if_pos h3,h.three h3]
   ·rw[if_neg h3]
theorem form0{a:Q0a}(h:packRight a=true): packRight {a with Frame:=1}=decide (a.Kind=4):=by
 rw[Bool.eq_iff_iff,Y0j,decide_eq_true_iff]
 have k:=(Y0j a).1 h
 exact⟨fun r=>r.frame.resolve_right (fun e=>by have:=e.1;simp at this),fun e=>⟨k.hd,k.ins,k.first,k.rows,.inl e,k.wGot,k.wFirst,rfl,k.wMark,k.two,k.three⟩⟩
theorem form1{a:Q0a}(h:packRight a=true): packRight {a with Players:=3}=(decide (a.Kind=3)&&(decide (a.Rows.l=[]) || decide (a.Players=3))):=by
 rw[Bool.eq_iff_iff,Y0j]
 simp only[Bool.and_eq_true,Bool.or_eq_true,decide_eq_true_eq]
 have k:=(Y0j a).1 h
 constructor
 ·intro r
  have h3:a.Kind=3:=r.rows.resolve_right (fun e=>by have:=e.1;simp at this)
  refine⟨h3,?_⟩
  have r1:=Q0k (r.three h3)
  have r2:=Q0k (k.three h3)
  cases hl:a.Rows.l with
  |nil=>exact .inl rfl
  |cons y l=>
   right
   have m1:=(r1.2.2 y (by show y∈a.Rows.l;rw[hl];exact .head _)).1
   have m2:=(r2.2.2 y (by rw[hl];exact .head _)).1
   show a.Players=3
   simp only at m1
   omega
 ·rintro⟨h3,e⟩
  refine⟨k.hd,k.ins,k.first,.inl h3,k.frame,k.wGot,k.wFirst,k.wFrame,k.wMark,k.two,fun _=>?_⟩
  rcases e with e|e
  ·show rowsRight a.Rows.l 3=true
   rw[e];rfl
  ·show rowsRight a.Rows.l 3=true
   rw[<- e];exact k.three h3
theorem form2{a:Q0a}(h:packRight a=true): packRight {a with Got:=2}=decide (a.Kind=2):=by
 rw[Bool.eq_iff_iff,Y0j,decide_eq_true_iff]
 have k:=(Y0j a).1 h
 exact⟨fun r=>r.ins.resolve_right (fun e=>by have:=e.1;simp at this),fun e=>⟨k.hd,.inl e,k.first,k.rows,k.frame,rfl,k.wFirst,k.wFrame,k.wMark,k.two,k.three⟩⟩
theorem form3{a:Q0a}{s:Lst X0a}(hs:s.l=a.Inputs.l++[⟨0,65,0⟩]): packRight {a with Inputs:=s}=false:=by
 rw[Bool.eq_false_iff,ne_eq,Y0j]
 intro r
 rcases r.ins with h2|⟨_,h⟩
 ·have:=(r.two h2).2
  simp only[hs,List.all_append,Bool.and_eq_true]at this
  exact absurd this.2 (by decide)
 ·simp only[hs]at h
  simp at h
theorem form4(a:Q0a): packRight {a with Seq:=-1}=false:=by
 rw[Bool.eq_false_iff,ne_eq,Y0j]
 intro r
 have:=r.hd
 simp only[headRight,within,Bool.and_eq_true,decide_eq_true_eq]at this
 omega
theorem form5{a:Q0a}(h:packRight a=true): packRight {a with Last:=0,Any:=false,Acks:=0}=true:=by
 rw[Y0j]
 have k:=(Y0j a).1 h
 refine⟨?_,k.ins,k.first,k.rows,k.frame,k.wGot,k.wFirst,k.wFrame,k.wMark,k.two,k.three⟩
 have:=k.hd
 simp only[headRight,within,Bool.and_eq_true,decide_eq_true_eq]at this ⊢
 simp
 omega
end Go.Proofs.Ytpchcfkebljopaa
end
section
namespace Go.Proofs.Ytpchcfkebljopaa
open Go.Cl Go Go.RowKit
set_option maxRecDepth 100000
set_option linter.constructorNameAsVariable false
def R12: Rel:=fun args p r=>∃(x:K0a) (how:Int),args=[x.cv,I how]/\r=.ret (Bo true) p
theorem zq12{A B:Prop}(k:B)(h:A=B:=by have zy:=zA @zw12<|zA @rs12<|zA @tt3<|zA @tt4<|zA @tt25<|zA @tt36<|zA @tt69<|zA @tt90<|zA @tt91<|zA @tt92<|zA @tt94<|zA ti3.eq_1<|zA ti4.eq_1<|zA ti25.eq_1<|zA ti36.eq_1<|zA ti69.eq_1<|zA ti90.eq_1<|zA ti91.eq_1<|zA ti92.eq_1<|zA ti94.eq_1<|zA @t_37<|zA @t_45<|zA @t_46<|zA @t_47<|zA @t_50<|zA @Q0o<|zA @Z0d<|zA @V0e<|zA @zsl91<|@zsl92;exact zQ): A:=h▸k
theorem c12: Con C 12 R12:=by
 refine K0e C ?_ ?_ ?_
 ·rintro args p r r' ⟨x,how,h,e⟩ ⟨x',how',h',e'⟩
  subst e;subst e';simp_all[K0a.inj_iff,Q0a.inj_iff,X0a.inj_iff,Z0n,K0j]
 ·rintro args p r ⟨x,how,h,rfl⟩;exact zr1
 rintro args p r ⟨x,how,rfl,rfl⟩
 refine zW C false [(37,R37),(45,R45),(46,R46),(47,R47),(50,R50)] ⟨c37,c45,c46,c47,c50,zT⟩ rfl xf12 zc12_ok fun call zh hF=>?_
 have t_37:=@t37 _ zh.1
 have t_45:=@t45 _ zh.2.1
 have t_46:=@t46 _ zh.2.2.1
 have t_47:=@t47 _ zh.2.2.2.1
 have t_50:=@t50 _ zh.2.2.2.2.1
 clear zh
 have hok:=Z1g x
 obtain⟨hs1,hs2,hs3⟩:=V0r x
 generalize hA:packetOf x=a at hok hs1 hs2 hs3
 have hpk:=K0m (n:=how) (m:=6) (by omega)
 cases hR:packRight a with
 |false=>
  (have zx:=zA hA (zA hok hR);refine zq12 ?_;try exact zT)
  repeat'(apply zK.s<;>intro hc<;>(try simp only[zhd]at hc)<;>(try have hw:=Y0a hc)<;>(refine zq12 ?_;try exact zT))
  all_goals(try clear zx)
  exact Q0c hF zle (X0c rfl (K0c (by intro jj;simp[CV.has])))
 |true=>
  have hh:pick how 6=0\/pick how 6=1\/pick how 6=2\/pick how 6=3\/pick how 6=4\/pick how 6=5:=by omega
  rcases hh with h0|h0|h0|h0|h0|h0
  ·have f0:=form0 hR
   have ok0:packOk {a with Frame:=1}:=hok
   by_cases k4:a.Kind=4
   ·rw[decide_eq_true k4]at f0
    simp only[k4]at f0 ok0
    (have zx:=zA hA (zA hok (zA hR (zA h0 (zA f0 (zA ok0 k4)))));refine zq12 ?_;try exact zT)
    repeat'(apply zK.s<;>intro hc<;>(try simp only[zhd]at hc)<;>(try have hw:=Y0a hc)<;>(refine zq12 ?_;try exact zT))
    all_goals(try clear zx)
    exact Q0c hF zle (X0c rfl (K0c (by intro jj;simp[CV.has])))
   ·rw[decide_eq_false k4]at f0
    (have zx:=zA hA (zA hok (zA hR (zA h0 (zA f0 (zA ok0 k4)))));refine zq12 ?_;try exact zT)
    repeat'(apply zK.s<;>intro hc<;>(try simp only[zhd]at hc)<;>(try have hw:=Y0a hc)<;>(refine zq12 ?_;try exact zT))
    all_goals(try clear zx)
    exact Q0c hF zle (X0c rfl (K0c (by intro jj;simp[CV.has])))
  ·have f0:=form1 hR
   have ok0:packOk {a with Players:=3}:=hok
   have hrl:a.Rows.l=[] ↔ (a.Rows.l.length:Int)=0:=by rw[<- List.length_eq_zero_iff];omega
   by_cases k3:a.Kind=3
   ·by_cases hr:(a.Rows.l.length:Int)=0
    ·rw[decide_eq_true k3,decide_eq_true (hrl.2 hr)]at f0
     simp only[k3]at f0 ok0
     (have zx:=zA hA (zA hok (zA hR (zA h0 (zA f0 (zA ok0 (zA k3 hr))))));refine zq12 ?_;try exact zT)
     repeat'(apply zK.s<;>intro hc<;>(try simp only[zhd]at hc)<;>(try have hw:=Y0a hc)<;>(refine zq12 ?_;try exact zT))
     all_goals(try clear zx)
     exact Q0c hF zle (X0c rfl (K0c (by intro jj;simp[CV.has])))
    ·have hr2:¬a.Rows.l=[]:=fun e=>hr (hrl.1 e)
     by_cases hp:a.Players=3
     ·rw[decide_eq_true k3,decide_eq_false hr2,decide_eq_true hp]at f0
      simp only[k3]at f0 ok0
      (have zx:=zA hA (zA hok (zA hR (zA h0 (zA f0 (zA ok0 (zA k3 (zA hr hp)))))));refine zq12 ?_;try exact zT)
      repeat'(apply zK.s<;>intro hc<;>(try simp only[zhd]at hc)<;>(try have hw:=Y0a hc)<;>(refine zq12 ?_;try exact zT))
      all_goals(try clear zx)
      exact Q0c hF zle (X0c rfl (K0c (by intro jj;simp[CV.has])))
     ·rw[decide_eq_true k3,decide_eq_false hr2,decide_eq_false hp]at f0
      simp only[k3]at f0 ok0
      (have zx:=zA hA (zA hok (zA hR (zA h0 (zA f0 (zA ok0 (zA k3 (zA hr hp)))))));refine zq12 ?_;try exact zT)
      repeat'(apply zK.s<;>intro hc<;>(try simp only[zhd]at hc)<;>(try have hw:=Y0a hc)<;>(refine zq12 ?_;try exact zT))
      all_goals(try clear zx)
      exact Q0c hF zle (X0c rfl (K0c (by intro jj;simp[CV.has])))
   ·rw[decide_eq_false k3]at f0
    (have zx:=zA hA (zA hok (zA hR (zA h0 (zA f0 (zA ok0 k3)))));refine zq12 ?_;try exact zT)
    repeat'(apply zK.s<;>intro hc<;>(try simp only[zhd]at hc)<;>(try have hw:=Y0a hc)<;>(refine zq12 ?_;try exact zT))
    all_goals(try clear zx)
    exact Q0c hF zle (X0c rfl (K0c (by intro jj;simp[CV.has])))
  ·have f0:=form2 hR
   have ok0:packOk {a with Got:=2}:=hok
   by_cases k2:a.Kind=2
   ·rw[decide_eq_true k2]at f0
    simp only[k2]at f0 ok0
    (have zx:=zA hA (zA hok (zA hR (zA h0 (zA f0 (zA ok0 k2)))));refine zq12 ?_;try exact zT)
    repeat'(apply zK.s<;>intro hc<;>(try simp only[zhd]at hc)<;>(try have hw:=Y0a hc)<;>(refine zq12 ?_;try exact zT))
    all_goals(try clear zx)
    exact Q0c hF zle (X0c rfl (K0c (by intro jj;simp[CV.has])))
   ·rw[decide_eq_false k2]at f0
    (have zx:=zA hA (zA hok (zA hR (zA h0 (zA f0 (zA ok0 k2)))));refine zq12 ?_;try exact zT)
    repeat'(apply zK.s<;>intro hc<;>(try simp only[zhd]at hc)<;>(try have hw:=Y0a hc)<;>(refine zq12 ?_;try exact zT))
    all_goals(try clear zx)
    exact Q0c hF zle (X0c rfl (K0c (by intro jj;simp[CV.has])))
  ·by_cases hi:a.Inputs.l=[]
   ·have f0:∀n o,packRight {a with Inputs:=⟨.own n,[⟨0,65,0⟩],o⟩}=false:=fun n o=>form3 (by rw[hi];rfl)
    have ok0:∀n o,packOk {a with Inputs:=⟨.own n,[⟨0,65,0⟩],o⟩}:=fun n o=>⟨by simp,hok.2⟩
    (have zx:=zA hA (zA hok (zA hR (zA h0 (zA hi (zA f0 ok0)))));refine zq12 ?_;try exact zT)
    repeat'(apply zK.s<;>intro hc<;>(try simp only[zhd]at hc)<;>(try have hw:=Y0a hc)<;>(refine zq12 ?_;try exact zT))
    all_goals(try clear zx)
    exact Q0c hF zle (X0c rfl (K0c (by intro jj;simp[CV.has])))
   ·have f0:∀n o,packRight {a with Inputs:=⟨.own n,a.Inputs.l++[⟨0,65,0⟩],o⟩}=false:=fun n o=>form3 rfl
    have ok0:∀n o,packOk {a with Inputs:=⟨.own n,a.Inputs.l++[⟨0,65,0⟩],o⟩}:=fun n o=>⟨by rw[List.length_append,List.length_singleton];omega,hok.2⟩
    have hi0:0<a.Inputs.l.length:=List.length_pos_iff.2 hi
    have hz:=Nat.zero_add a.Inputs.l.length
    (have zx:=zA hA (zA hok (zA hR (zA h0 (zA hi (zA f0 (zA ok0 (zA hi0 hz)))))));refine zq12 ?_;try exact zT)
    repeat'(apply zK.s<;>intro hc<;>(try simp only[zhd]at hc)<;>(try have hw:=Y0a hc)<;>(refine zq12 ?_;try exact zT))
    all_goals(try clear zx)
    exact Q0c hF zle (X0c rfl (K0c (by intro jj;simp[CV.has])))
  ·have f0:=form4 a
   have ok0:packOk {a with Seq:=-1}:=hok
   (have zx:=zA hA (zA hok (zA hR (zA h0 (zA f0 ok0))));refine zq12 ?_;try exact zT)
   repeat'(apply zK.s<;>intro hc<;>(try simp only[zhd]at hc)<;>(try have hw:=Y0a hc)<;>(refine zq12 ?_;try exact zT))
   all_goals(try clear zx)
   exact Q0c hF zle (X0c rfl (K0c (by intro jj;simp[CV.has])))
  ·have f0:=form5 hR
   have ok0:packOk {a with Last:=0,Any:=false,Acks:=0}:=hok
   (have zx:=zA hA (zA hok (zA hR (zA h0 (zA f0 ok0))));refine zq12 ?_;try exact zT)
   repeat'(apply zK.s<;>intro hc<;>(try simp only[zhd]at hc)<;>(try have hw:=Y0a hc)<;>(refine zq12 ?_;try exact zT))
   all_goals(try clear zx)
   exact Q0c hF zle (X0c rfl (K0c (by intro jj;simp[CV.has])))
end Go.Proofs.Ytpchcfkebljopaa
end
