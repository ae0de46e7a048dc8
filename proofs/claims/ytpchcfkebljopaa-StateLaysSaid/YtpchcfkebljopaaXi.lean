import Derived.Test.YtpchcfkebljopaaXh
set_option linter.unusedSimpArgs false
set_option linter.unusedVariables false
set_option linter.constructorNameAsVariable false
set_option linter.defProp false
set_option maxHeartbeats 8000000
section
namespace Go.Proofs.Ytpchcfkebljopaa
open Go.Cl Go Go.RowKit
set_option maxRecDepth 100000
set_option linter.constructorNameAsVariable false
def Bnd{α:Type}(b:List Int)(r:Except Int (α×Nat)): Prop:=∀x a,r=.ok (x,a)->a<=8*b.length
theorem Bnd.get(b:List Int)(n a:Nat): Bnd b (getB b n a):=by
 intro x a' h
 unfold getB at h
 split at h
 ·cases h;assumption
 ·cases h
theorem Bnd.bind{α β:Type}{b:List Int}{r:Except Int (α×Nat)}{f:α->Nat->Except Int (β×Nat)}(h:Bnd b r)(k:∀x a,a<=8*b.length->Bnd b (f x a)): Bnd b (bindE r f):=by
 intro x a' e
 cases r with
 |error e'=>cases e
 |ok y=>obtain⟨y,a⟩:=y;exact k y a (h y a rfl) x a' e
theorem Bnd.pure{α:Type}{b:List Int}(x:α){a:Nat}(h:a<=8*b.length): Bnd b (.ok (x,a)):=by
 intro y a' e;cases e;exact h
theorem Bnd.sget(b:List Int)(n a:Nat): Bnd b (sgetB b n a):=(Bnd.get b n a).bind fun _ _ h=>Bnd.pure _ h
theorem Bnd.mem(b:List Int)(x:Q0a){a:Nat}(ha:a<=8*b.length): ∀k,Bnd b (memB b x a k)
 |0=>Bnd.pure _ ha
 |k+1=>(Bnd.mem b x ha k).bind fun _ _ _=>(Bnd.sget b _ _).bind fun _ _ h=>Bnd.pure _ h
theorem Bnd.body(b:List Int)(a:Nat): Bnd b (readBody b a):=by
 unfold readBody
 refine(Bnd.get b _ _).bind fun k a h=>?_
 split
 ·exact Bnd.pure _ h
 ·exact(Bnd.get b _ _).bind fun _ _ _=>(Bnd.get b _ _).bind fun _ _ _=>(Bnd.get b _ _).bind fun _ _ _=>(Bnd.sget b _ _).bind fun _ _ _=>(Bnd.sget b _ _).bind fun _ _ _=>(Bnd.get b _ _).bind fun _ _ h=>(Bnd.mem b _ h _).bind fun _ _ _=>(Bnd.get b _ _).bind fun _ _ h=>Bnd.pure _ h
theorem Q1p{b:List Int}{s:V0a}{a k:Nat}{e:Int}(h:bodiesB b s a k=.error e): ∀m,bodiesB b s a (k+m)=.error e
 |0=>h
 |m+1=>by
  show bindE (bodiesB b s a (k+m)) _=_
  rw[Q1p h m];rfl
theorem X1l{b:List Int}{s:V0a}{a k:Nat}{e:Int}(h:scoresB b s a k=.error e): ∀m,scoresB b s a (k+m)=.error e
 |0=>h
 |m+1=>by
  show bindE (scoresB b s a (k+m)) _=_
  rw[X1l h m];rfl
noncomputable def resRS(i:Nat)(B:Lst Int)(p:Hp)(r:Except Int (V0a×Nat)): XRes:=
 match r with
 |.ok (x,a)=>.ret x.cv (p.set i (some (rdr B a)))
 |.error e=>.pan (fault 100 e) (p.set i none)
def J94(c:X0a)(i:Nat)(B:Lst Int)(s0:V0a)(a0:Nat)(p:Hp)(n:Nat)(ρ:Env)(q:Hp): Prop:=
 ∃(k a:Nat) (t:V0a),n=16-k/\k<=16/\ρ 1=.ptr i []/\ρ 2=.ptr p.n []/\ρ 4=.ptr (p.n+1) []/\ρ 5=.ptr (p.n+2) []/\ρ 14=I k/\bodiesB B.l s0 a0 k=.ok (t,a)/\a<=8*B.l.length/\q.t.get i=some (rdr B a)/\q.t.get p.n=some (.var sh61 c.cv)/\q.t.get (p.n+1)=some (.var sh66 V0a.zero.cv)/\q.t.get (p.n+2)=some (.var sh66 t.cv)/\p.n+2<q.n/\∀j o,j≠i->p.t.get j=some o->q.t.get j=some o
def L94(i:Nat)(B:Lst Int)(s0:V0a)(a0 N:Nat)(p:Hp)(n:Nat)(ρ:Env)(q:Hp): Prop:=
 ∃(k a:Nat) (t:V0a),n=N-k/\k<=N/\ρ 1=.ptr i []/\ρ 4=.ptr (p.n+1) []/\ρ 5=.ptr (p.n+2) []/\ρ 26=I N/\ρ 27=I k/\scoresB B.l s0 a0 k=.ok (t,a)/\a<=8*B.l.length/\q.t.get i=some (rdr B a)/\q.t.get (p.n+1)=some (.var sh66 V0a.zero.cv)/\q.t.get (p.n+2)=some (.var sh66 t.cv)/\p.n+2<q.n/\∀j o,j≠i->p.t.get j=some o->q.t.get j=some o
def R94: Rel:=fun args p r=>∃(c:X0a) (i:Nat) (B:Lst Int) (a:Nat),args=[c.cv,.ptr i []]/\(p.t.get i=some (rdr B a))/\(B.l.length<=140737488355328)/\(a<=8*B.l.length)/\(∀x∈B.l,0<=x/\x<=255)/\r=resRS i B p (readAllB c B.l a)
theorem t94{T:XCall}(h:Has T 94 R94)(c:X0a)(i:Nat)(B:Lst Int)(a:Nat){p:Hp}(h1:p.t.get i=some (rdr B a))(h2:B.l.length<=140737488355328)(h3:a<=8*B.l.length)(h5:∀x∈B.l,0<=x/\x<=255): T 94 [c.cv,.ptr i []] p=resRS i B p (readAllB c B.l a):=h _ _ _ ⟨c,i,B,a,rfl,h1,h2,h3,h5,rfl⟩
theorem zq94{A B:Prop}(k:B)(h:A=B:=by((try simp -dsimp (disch:=first|exact zdis|fail) only[zcore,zall,zopm,zop,zcallOp,qop,qbuiltin,ofOpt,List.map,reduceCtorEq,if_true,if_false,↓reduceIte,zbin,eqRes,qassert,qnum,qshift,qun,kindOf,allocV,List.nil_append,List.append_nil,List.cons_append,List.length_cons,List.length_nil,Nat.reduceAdd,Nat.reduceEqDiff,Nat.reduceLT,Nat.reduceSub,Nat.reduceMul,Int.reduceToNat,Int.reduceLE,Int.reduceLT,Int.reduceEq,Int.reduceNeg,Int.reduceAdd,Int.reduceSub,beq_self_eq_true,cond_true,cond_false,isConstOpd,xpanic,xconv,isBytes,qconv,List.length_map,List.map_nil,List.map_cons,concrete,Option.some.injEq,exists_eq',Option.map_some,Option.map_none,List.getElem?_cons_zero,List.getElem?_cons_succ,zw94,rs94,tt3,tt25,tt34,tt61,tt63,tt64,tt66,ti3,ti25,ti34,ti61,ti63,ti64,ti66,t_160,t_161,Z0e,X0f,Q0f,zsl63,zsl64,resRB,h1,h2,h3,h5,zx,hc]);rfl)): A:=h▸k
theorem c94: Con C 94 R94:=by
 refine V0e C ?_ ?_ ?_
 ·rintro args p r r' ⟨c,i,B,a,h,h1,h2,h3,h5,e⟩ ⟨c',i',B',a',h',h1',h2',h3',h5',e'⟩
  subst e;subst e';(subst h;simp only[List.cons.injEq,CV.ptr.injEq,X0a.inj_iff,and_true,true_and]at h';obtain⟨e0,e3⟩:=h';subst e0;subst e3;obtain⟨e1,e2⟩:=V1q h1 h1';rw[e1,e2])
 ·rintro args p r ⟨c,i,B,a,h,h1,h2,h3,h5,rfl⟩;first|(split<;>simp;done)|(simp;done)|(simp only[resM];split<;>simp;done)|(simp only[resD];split<;>simp;done)  | (unfold resRS;split<;>simp;done)
 rintro args p r ⟨c,i,B,a,rfl,h1,h2,h3,h5,rfl⟩
 refine zW C false [(160,R160),(161,R161)] ⟨c160,c161,zT⟩ rfl xf94 zc94_ok fun call zh hF=>?_
 have t_160:=@t160 _ zh.1
 have t_161:=@t161 _ zh.2.1
 clear zh
 have hd_h1:=hF.dom _ _ h1
 have hi:=hF.dom _ _ h1
 have hN:((readersN c:Nat):Int)=max 0 (min c.Players 8):=by unfold readersN;omega
 have v1:=K1f (bitB B.l) a 10 1024 rfl
 by_cases c1:a+10<=8*B.l.length
 ·by_cases c2:a+10+64<=8*B.l.length
  ·obtain⟨s0,hs0⟩:∃x:V0a,x={V0a.zero with Frame:=valB (bitB B.l) a 10,Dice:=valB (bitB B.l) (a+10) 64}:=⟨_,rfl⟩
   have hall:readAllB c B.l a=bindE (bodiesB B.l s0 (a+10+64) 16) fun t a=>scoresB B.l t a (readersN c):=by unfold readAllB;rw[hs0];simp only[getB,c1,c2,if_true,K0f]
   (have zx:=zA c1 (zA c2 h1);refine zq94 ?_;try exact zT)
   repeat'(apply zK.s<;>intro hc<;>(try simp only[zhd]at hc)<;>(try have hw:=K0a hc)<;>(refine zq94 ?_;try exact zT))
   all_goals(try clear zx)
   (show W C false noExt call (ZC.loop zn94_9) _ _ _);refine Y0g C false noExt call zn94_9 _ _ _ (J94 c i B s0 (a+10+64) p) 16 ⟨0,a+10+64,s0,rfl,by omega,by simp[put_at,K0c,K0e,Z0k],zev,zev,zev,zev,rfl,c2,zg9,zg9,zg9,by rw[hs0];simp (disch:=first|exact zdl|fail) only[zheap];first|done|rfl,zb9,fun k o hk h=>by have hd:=hF.dom _ _ h;simp (disch:=first|exact zdl|fail) only[Hp.bump_get,Hp.get_set_ne,Hp.get_new_ne];exact h⟩ ?_
   clear hs0
   rintro n ρ q ⟨k,a',t,rfl,hk,e1,e2,e4,e5,e14,hm,ha',g1,g2,g3,g4,hvq,hle⟩
   have htb:=t.hBodies
   have hts:=t.hScore
   by_cases hlt:(k:Int)<16
   ·cases hrb:readBody B.l a' with
    |error e=>
     (have zx:=zA e1 (zA e2 (zA e4 (zA e5 (zA e14 (zA g1 (zA g2 (zA g3 (zA g4 (zA hlt (zA hrb h1))))))))));refine zq94 ?_;try exact zT)
     repeat'(apply zK.s<;>intro hc<;>(try simp only[zhd]at hc)<;>(try have hw:=K0a hc)<;>(refine zq94 ?_;try exact zT))
     all_goals(try clear zx)
     have hme:bodiesB B.l s0 (a+10+64) (k+1)=.error e:=by
      show bindE (bodiesB B.l s0 _ k) _=_
      rw[hm,K0f,hrb,Y0k]
     have hra:readAllB c B.l a=.error e:=by
      have h4:=Q1p hme (16-(k+1))
      rw[show k+1+(16-(k+1))=16 by omega]at h4
      rw[hall,h4,Y0k]
     rw[hra]
     exact Q0q hF (fun j o hj h=>by rw[Hp.get_set_ne _ _ _ hj];exact hle j o hj h) _ _
    |ok r=>
     obtain⟨x,a2⟩:=r
     (have zx:=zA e1 (zA e2 (zA e4 (zA e5 (zA e14 (zA g1 (zA g2 (zA g3 (zA g4 (zA hlt (zA hrb h1))))))))));refine zq94 ?_;try exact zT)
     repeat'(apply zK.s<;>intro hc<;>(try simp only[zhd]at hc)<;>(try have hw:=K0a hc)<;>(refine zq94 ?_;try exact zT))
     all_goals(try clear zx)
     refine⟨16-(k+1),by omega,k+1,a2,t.put_2k k x,rfl,by omega,zev,zev,zev,zev,zev,?_,Bnd.body _ _ _ _ hrb,zg9,zg9,zg9,zg9,zb9,fun j o hj h=>by have hd:=hF.dom _ _ h;simp (disch:=first|exact zdl|fail) only[Hp.bump_get,Hp.get_set_ne,Hp.get_new_ne];exact hle j o hj h⟩
     show bindE (bodiesB B.l s0 _ k) _=_
     rw[hm,K0f,hrb,K0f]
   ·have hk16:k=16:=by omega
    subst hk16
    (have zx:=zA e1 (zA e2 (zA e4 (zA e5 (zA e14 (zA g1 (zA g2 (zA g3 (zA g4 (zA hlt h1)))))))));refine zq94 ?_;try exact zT)
    repeat'(apply zK.s<;>intro hc<;>(try simp only[zhd]at hc)<;>(try have hw:=K0a hc)<;>(refine zq94 ?_;try exact zT))
    all_goals(try clear zx)
    rw[hm,K0f]at hall
    (show W C false noExt call (ZC.loop X17) _ _ _);refine Y0g C false noExt call X17 _ _ _ (L94 i B t a' (readersN c) p) (readersN c) ⟨0,a',t,rfl,by omega,zev,zev,zev,by simp[put_at,K0c,hN],zev,rfl,ha',g1,g3,g4,hvq,hle⟩ ?_
    clear e1 e2 e4 e5 e14 g1 g2 g3 g4 hvq hle hlt hm ha'
    have hN8:readersN c<=8:=by unfold readersN;omega
    rintro n ρ q ⟨k,a3,u,rfl,hk,e1,e4,e5,e26,e27,hm,ha3,g1,g3,g4,hvq,hle⟩
    have htb:=u.hBodies
    have hts:=u.hScore
    have v3:=K1f (bitB B.l) a3 31 2147483648 rfl
    by_cases hlt:k<readersN c
    ·have hlt2:(k:Int)<(readersN c:Int):=by omega
     by_cases c3:a3+31<=8*B.l.length
     ·(have zx:=zA e1 (zA e4 (zA e5 (zA e26 (zA e27 (zA g1 (zA g3 (zA g4 (zA hlt2 (zA c3 h1)))))))));refine zq94 ?_;try exact zT)
      repeat'(apply zK.s<;>intro hc<;>(try simp only[zhd]at hc)<;>(try have hw:=K0a hc)<;>(refine zq94 ?_;try exact zT))
      all_goals(try clear zx)
      refine⟨readersN c-(k+1),by omega,k+1,a3+31,u.put_3k k (valB (bitB B.l) a3 31),rfl,by omega,zev,zev,zev,zev,zev,?_,c3,zg9,zg9,zg9,zb9,fun j o hj h=>by have hd:=hF.dom _ _ h;simp (disch:=first|exact zdl|fail) only[Hp.bump_get,Hp.get_set_ne,Hp.get_new_ne];exact hle j o hj h⟩
      show bindE (scoresB B.l t _ k) _=_
      rw[hm,K0f];simp only[getB,if_pos c3,K0f]
     ·(have zx:=zA e1 (zA e4 (zA e5 (zA e26 (zA e27 (zA g1 (zA g3 (zA g4 (zA hlt2 (zA c3 h1)))))))));refine zq94 ?_;try exact zT)
      repeat'(apply zK.s<;>intro hc<;>(try simp only[zhd]at hc)<;>(try have hw:=K0a hc)<;>(refine zq94 ?_;try exact zT))
      all_goals(try clear zx)
      have hme:scoresB B.l t a' (k+1)=.error (a3:Int):=by
       show bindE (scoresB B.l t _ k) _=_
       rw[hm,K0f];simp only[getB,if_neg c3,Y0k]
      have hra:readAllB c B.l a=.error (a3:Int):=by
       have h4:=X1l hme (readersN c-(k+1))
       rw[show k+1+(readersN c-(k+1))=readersN c by omega]at h4
       rw[hall,h4]
      rw[hra]
      exact Q0q hF (fun j o hj h=>by rw[Hp.get_set_ne _ _ _ hj];exact hle j o hj h) _ _
    ·have hkN:k=readersN c:=by omega
     have hlt2:¬(k:Int)<(readersN c:Int):=by omega
     (have zx:=zA e1 (zA e4 (zA e5 (zA e26 (zA e27 (zA g1 (zA g3 (zA g4 (zA hlt2 h1))))))));refine zq94 ?_;try exact zT)
     repeat'(apply zK.s<;>intro hc<;>(try simp only[zhd]at hc)<;>(try have hw:=K0a hc)<;>(refine zq94 ?_;try exact zT))
     all_goals(try clear zx)
     rw[hkN]at hm
     rw[hall,hm]
     exact shr_rd hF h1 (fun j hj=>⟨_,by simp,hj⟩) (zg9) (fun j o hj h=>by have hd:=hF.dom _ _ h;simp (disch:=first|exact zdl|fail) only[Hp.bump_get,Hp.get_set_ne,Hp.get_new_ne];exact hle j o hj h) rfl (by intro jj;exact V0a.nohas _ jj)
  ·(have zx:=zA c1 (zA c2 h1);refine zq94 ?_;try exact zT)
   repeat'(apply zK.s<;>intro hc<;>(try simp only[zhd]at hc)<;>(try have hw:=K0a hc)<;>(refine zq94 ?_;try exact zT))
   all_goals(try clear zx)
   have hrb:readAllB c B.l a=.error ((a+10:Nat):Int):=by unfold readAllB;simp only[getB,c1,c2,if_true,if_false,K0f,Y0k]
   rw[hrb]
   exact Q0q hF (fun k o hk h=>by have hd:=hF.dom _ _ h;simp (disch:=first|exact zdl|fail) only[Hp.bump_get,Hp.get_set_ne,Hp.get_new_ne];exact h) _ _
 ·(have zx:=zA c1 h1;refine zq94 ?_;try exact zT)
  repeat'(apply zK.s<;>intro hc<;>(try simp only[zhd]at hc)<;>(try have hw:=K0a hc)<;>(refine zq94 ?_;try exact zT))
  all_goals(try clear zx)
  have hrb:readAllB c B.l a=.error (a:Int):=by unfold readAllB;simp only[getB,c1,if_false,Y0k]
  rw[hrb]
  exact Q0q hF (fun k o hk h=>by have hd:=hF.dom _ _ h;simp (disch:=first|exact zdl|fail) only[Hp.bump_get,Hp.get_set_ne,Hp.get_new_ne];exact h) _ _
end Go.Proofs.Ytpchcfkebljopaa
end
section
namespace Go.Proofs.Ytpchcfkebljopaa
open Go.Cl Go Go.RowKit
def sumStep(h x:Int): Int:=(h*257+x+1) % 2147483647
def sumB(key:Int)(l:List Int): Int:=((l.foldl sumStep (key % 2147483647+1))+l.length) % 2147483647
theorem Z01(key:Int)(l:List Int): 0<=sumB key l/\sumB key l<2147483647:=by unfold sumB;omega
def markB(l:List Int): Int:=sumB 7 l*2147483648+sumB 11 l
theorem X1w{l:List Int}{k:Nat}(f:Int->Int->Int)(h0:Int)(h:k<l.length): (l.take (k+1)).foldl f h0=f ((l.take k).foldl f h0) (nth l k):=by
 rw[Y0v h,List.foldl_append];rfl
theorem Z1v(key:Int): ∀(l:List Int),0<=l.foldl sumStep (key % 2147483647+1)/\l.foldl sumStep (key % 2147483647+1)<=2147483647:=by
 intro l
 have h0:0<=key % 2147483647+1/\key % 2147483647+1<=2147483647:=by omega
 generalize key % 2147483647+1=h at h0
 induction l generalizing h with
 |nil=>exact h0
 |cons x l ih=>exact ih (sumStep h x) (by unfold sumStep;omega)
theorem key_mod(key:Int): (key.tmod 2147483647+2147483647).tmod 2147483647=key % 2147483647:=by
 have h1:-2147483647<key.tmod 2147483647:=by
  have:=Int.lt_tmod_of_pos key (b:=2147483647) (by omega);exact this
 have h2:=Int.tmod_lt_of_pos key (b:=2147483647) (by omega)
 rw[Int.tmod_eq_emod_of_nonneg (by omega)]
 have h3:=Int.mul_tdiv_add_tmod key 2147483647
 generalize key.tdiv 2147483647=q at h3
 generalize key.tmod 2147483647=r at *
 omega
end Go.Proofs.Ytpchcfkebljopaa
end
section
namespace Go.Proofs.Ytpchcfkebljopaa
open Go.Cl Go Go.RowKit
set_option maxRecDepth 100000
set_option linter.constructorNameAsVariable false
def J163(key:Int)(s:Lst Int)(p:Hp)(n:Nat)(ρ:Env)(q:Hp): Prop:=
 ∃k:Nat,n=s.l.length-k/\k<=s.l.length/\ρ 1=s.cv Y8/\ρ 5=I ((s.l.take k).foldl sumStep (key % 2147483647+1))/\ρ 13=s.cv Y8/\ρ 14=I s.l.length/\ρ 15=I k/\HpLe p q
def R163: Rel:=fun args p r=>∃(key:Int) (s:Lst Int),args=[I key,s.cv Y8]/\(-9223372036854775808<=key/\key<=9223372036854775807)/\(s.l.length<=140737488355328)/\(∀x∈s.l,0<=x/\x<=255)/\r=.ret (I (sumB key s.l)) p
theorem t163{T:XCall}(h:Has T 163 R163)(key:Int)(s:Lst Int){p:Hp}(h1:-9223372036854775808<=key/\key<=9223372036854775807)(h2:s.l.length<=140737488355328)(h5:∀x∈s.l,0<=x/\x<=255): T 163 [I key,s.cv Y8] p=.ret (I (sumB key s.l)) p:=h _ _ _ ⟨key,s,rfl,h1,h2,h5,rfl⟩
theorem zq163{A B:Prop}(k:B)(h:A=B:=by have zy:=zA @zw163<|zA @rs163<|zA @tt3<|zA @tt5<|zA @tt68<|zA ti3.eq_1<|zA ti5.eq_1<|zA ti68.eq_1<|zA @zsl68<|zA @h1<|zA @h2<|@h5;exact zQ): A:=h▸k
theorem c163: Con C 163 R163:=by
 refine V0e C ?_ ?_ ?_
 ·rintro args p r r' ⟨key,s,h,h1,h2,h5,e⟩ ⟨key',s',h',h1',h2',h5',e'⟩
  subst e;subst e';simp_all[X0h,X0h]
 ·rintro args p r ⟨key,s,h,h1,h2,h5,rfl⟩;exact zr1
 rintro args p r ⟨key,s,rfl,h1,h2,h5,rfl⟩
 refine zW C false [] zT rfl xf163 zc163_ok fun call zh hF=>?_
 clear zh
 have hk:=key_mod key
 have hr0:-2147483647<key.tmod 2147483647:=by have:=Int.lt_tmod_of_pos key (b:=2147483647) (by omega);exact this
 have hr1:=Int.tmod_lt_of_pos key (b:=2147483647) (by omega)
 have hr2:0<=key % 2147483647/\key % 2147483647<2147483647:=by omega
 (have zx:=hk;refine zq163 ?_;try exact zT)
 repeat'(apply zK.s<;>intro hc<;>(try simp only[zhd]at hc)<;>(try have hw:=K0a hc)<;>(refine zq163 ?_;try exact zT))
 all_goals(try clear zx)
 (show W C false noExt call (ZC.loop Y13) _ _ _);refine Y0g C false noExt call Y13 _ _ _ (J163 key s p) s.l.length ⟨0,rfl,by omega,by simp[put_at,K0c,K0e,Z0k],zev,zev,zev,zev,zle⟩ ?_
 rintro n ρ q ⟨k,rfl,hk2,e1,e5,e13,e14,e15,hle⟩
 have hf:=Z1v key (s.l.take k)
 by_cases hlt:(k:Int)<s.l.length
 ·have hst:=X1w sumStep (key % 2147483647+1) (l:=s.l) (k:=k) (by omega)
  have hy:=h5 (nth s.l k) (by rw[X0i (by omega)];exact List.getElem_mem _)
  generalize (s.l.take k).foldl sumStep (key % 2147483647+1)=h at hf hst e5
  generalize hyy:nth s.l k=y at hy hst
  have ht:(h*257+y+1).tmod 2147483647=sumStep h y:=by rw[Int.tmod_eq_emod_of_nonneg (by omega)];rfl
  (have zx:=zA e1 (zA e5 (zA e13 (zA e14 (zA e15 (zA hlt (zA hyy ht))))));refine zq163 ?_;try exact zT)
  repeat'(apply zK.s<;>intro hc<;>(try simp only[zhd]at hc)<;>(try have hw:=K0a hc)<;>(refine zq163 ?_;try exact zT))
  all_goals(try clear zx)
  exact⟨s.l.length-(k+1),by omega,k+1,rfl,by omega,zev,by rw[hst];simp[put_at,K0c],zev,zev,zev,hle⟩
 ·have hkl:k=s.l.length:=by omega
  rw[hkl,List.take_of_length_le (Nat.le_refl _)]at e5 hf
  have ht:(s.l.foldl sumStep (key % 2147483647+1)+s.l.length).tmod 2147483647=sumB key s.l:=by rw[Int.tmod_eq_emod_of_nonneg (by omega)];rfl
  (have zx:=zA e1 (zA e5 (zA e13 (zA e14 (zA e15 (zA hlt ht)))));refine zq163 ?_;try exact zT)
  repeat'(apply zK.s<;>intro hc<;>(try simp only[zhd]at hc)<;>(try have hw:=K0a hc)<;>(refine zq163 ?_;try exact zT))
  all_goals(try clear zx)
  exact K0d hF hle (Q0c rfl (Z0c (by intro jj;simp[CV.has])))
def R101: Rel:=fun args p r=>∃(s:Lst Int),args=[s.cv Y8]/\(s.l.length<=140737488355328)/\(∀x∈s.l,0<=x/\x<=255)/\r=.ret (I (markB s.l)) p
theorem t101{T:XCall}(h:Has T 101 R101)(s:Lst Int){p:Hp}(h2:s.l.length<=140737488355328)(h5:∀x∈s.l,0<=x/\x<=255): T 101 [s.cv Y8] p=.ret (I (markB s.l)) p:=h _ _ _ ⟨s,rfl,h2,h5,rfl⟩
theorem zq101{A B:Prop}(k:B)(h:A=B:=by have zy:=zA @zw101<|zA @rs101<|zA @tt3<|zA @tt178<|zA ti3.eq_1<|zA ti178.eq_1<|zA @t_163<|zA @h2<|@h5;exact zQ): A:=h▸k
theorem c101: Con C 101 R101:=by
 refine V0e C ?_ ?_ ?_
 ·rintro args p r r' ⟨s,h,h2,h5,e⟩ ⟨s',h',h2',h5',e'⟩
  subst e;subst e';simp_all[X0h]
 ·rintro args p r ⟨s,h,h2,h5,rfl⟩;exact zr1
 rintro args p r ⟨s,rfl,h2,h5,rfl⟩
 refine zW C false [(163,R163)] ⟨c163,zT⟩ rfl xf101 zc101_ok fun call zh hF=>?_
 have t_163:=@t163 _ zh.1
 clear zh
 have h1:=Z01 7 s.l
 have h3:=Z01 11 s.l
 (have zx:=zT;refine zq101 ?_;try exact zT)
 repeat'(apply zK.s<;>intro hc<;>(try simp only[zhd]at hc)<;>(try have hw:=K0a hc)<;>(refine zq101 ?_;try exact zT))
 all_goals(try clear zx)
 have e0:(2:Int)^min 31 IntKind.i64.bits=2147483648:=rfl
 have e1:IntKind.i64.wrap (sumB 7 s.l*2147483648)=sumB 7 s.l*2147483648:=Z0l (by omega) (by omega)
 have e2:IntKind.i64.wrap (sumB 7 s.l*2147483648+sumB 11 s.l)=markB s.l:=Z0l (by omega) (by omega)
 rw[e0,e1,e2]
 exact K0d hF zle (Q0c rfl (Z0c (by intro jj;simp[CV.has])))
def J96(s t:Lst Int)(p:Hp)(n:Nat)(ρ:Env)(q:Hp): Prop:=
 ∃k:Nat,n=s.l.length-k/\k<=s.l.length/\ρ 0=s.cv Y8/\ρ 1=t.cv Y8/\ρ 12=I s.l.length/\ρ 13=I k/\(∀j,j<k->nth s.l j=nth t.l j)/\HpLe p q
def R96: Rel:=fun args p r=>∃(s t:Lst Int),args=[s.cv Y8,t.cv Y8]/\(s.l.length<=140737488355328)/\(t.l.length<=140737488355328)/\r=.ret (Bo (decide (s.l=t.l))) p
theorem t96{T:XCall}(h:Has T 96 R96)(s t:Lst Int){p:Hp}(h1:s.l.length<=140737488355328)(h2:t.l.length<=140737488355328): T 96 [s.cv Y8,t.cv Y8] p=.ret (Bo (decide (s.l=t.l))) p:=h _ _ _ ⟨s,t,rfl,h1,h2,rfl⟩
theorem zq96{A B:Prop}(k:B)(h:A=B:=by have zy:=zA @zw96<|zA @rs96<|zA @tt3<|zA @tt5<|zA @tt68<|zA ti3.eq_1<|zA ti5.eq_1<|zA ti68.eq_1<|zA @zsl68<|zA @h1<|@h2;exact zQ): A:=h▸k
theorem zno96{P:Prop}(h:P:=by intro jj;simp[CV.has,CV.hasL,fault,K0b.nohas]): P:=h
theorem c96: Con C 96 R96:=by
 refine V0e C ?_ ?_ ?_
 ·rintro args p r r' ⟨s,t,h,h1,h2,e⟩ ⟨s',t',h',h1',h2',e'⟩
  subst e;subst e';simp_all[X0h,X0h]
 ·rintro args p r ⟨s,t,h,h1,h2,rfl⟩;exact zr1
 rintro args p r ⟨s,t,rfl,h1,h2,rfl⟩
 refine zW C false [] zT rfl xf96 zc96_ok fun call zh hF=>?_
 clear zh
 by_cases hlen:s.l.length=t.l.length
 ·have hl2:(s.l.length:Int)=t.l.length:=by omega
  (have zx:=hl2;refine zq96 ?_;try exact zT)
  repeat'(apply zK.s<;>intro hc<;>(try simp only[zhd]at hc)<;>(try have hw:=K0a hc)<;>(refine zq96 ?_;try exact zT))
  all_goals(try clear zx)
  (show W C false noExt call (ZC.loop K1b) _ _ _);refine Y0g C false noExt call K1b _ _ _ (J96 s t p) s.l.length ⟨0,rfl,by omega,by simp[put_at,K0c,K0e],by simp[put_at,K0c,K0e,Z0k],by simp[put_at,K0c,hl2],zev,fun j hj=>by omega,zle⟩ ?_
  rintro n ρ q ⟨k,rfl,hk2,e0,e1,e12,e13,hj,hle⟩
  by_cases hlt:(k:Int)<s.l.length
  ·have hlt2:(k:Int)<t.l.length:=by omega
   by_cases hne:nth s.l k=nth t.l k
   ·(have zx:=zA e0 (zA e1 (zA e12 (zA e13 (zA hlt (zA hlt2 hne)))));refine zq96 ?_;try exact zT)
    repeat'(apply zK.s<;>intro hc<;>(try simp only[zhd]at hc)<;>(try have hw:=K0a hc)<;>(refine zq96 ?_;try exact zT))
    all_goals(try clear zx)
    exact⟨s.l.length-(k+1),by omega,k+1,rfl,by omega,zev,zev,zev,zev,fun j hjk=>by
     by_cases h:j=k
     ·rw[h];exact hne
     ·exact hj j (by omega),zlq⟩
   ·(have zx:=zA e0 (zA e1 (zA e12 (zA e13 (zA hlt (zA hlt2 hne)))));refine zq96 ?_;try exact zT)
    repeat'(apply zK.s<;>intro hc<;>(try simp only[zhd]at hc)<;>(try have hw:=K0a hc)<;>(refine zq96 ?_;try exact zT))
    all_goals(try clear zx)
    have hl:¬s.l=t.l:=fun h=>hne (by rw[h])
    exact K0d hF zlq (Q0c (by simp[hl]) (Z0c (by intro jj;simp[CV.has])))
  ·have hl:s.l=t.l:=X04 hlen fun j h=>hj j (by omega)
   (have zx:=zA e0 (zA e1 (zA e12 (zA e13 hlt)));refine zq96 ?_;try exact zT)
   repeat'(apply zK.s<;>intro hc<;>(try simp only[zhd]at hc)<;>(try have hw:=K0a hc)<;>(refine zq96 ?_;try exact zT))
   all_goals(try clear zx)
   exact K0d hF zlq (Q0c (by simp[hl]) (Z0c (by intro jj;simp[CV.has])))
 ·have hl2:¬(s.l.length:Int)=t.l.length:=by omega
  have hne:¬s.l=t.l:=fun e=>hlen (by rw[e])
  (have zx:=hl2;refine zq96 ?_;try exact zT)
  repeat'(apply zK.s<;>intro hc<;>(try simp only[zhd]at hc)<;>(try have hw:=K0a hc)<;>(refine zq96 ?_;try exact zT))
  all_goals(try clear zx)
  exact K0d hF zle (Q0c (by simp[hne]) (Z0c zno96))
def R35: Rel:=fun args p r=>∃(s t:V0a),args=[s.cv,t.cv]/\r=.ret (Bo (decide (s=t))) p
theorem t35{T:XCall}(h:Has T 35 R35)(s t:V0a){p:Hp}:T 35 [s.cv,t.cv] p=.ret (Bo (decide (s=t))) p:=h _ _ _ ⟨s,t,rfl,rfl⟩
theorem zq35{A B:Prop}(k:B)(h:A=B:=by have zy:=zA @zw35<|zA @rs35<|zA @tt66<|zA ti66.eq_1<|@X0f;exact zQ): A:=h▸k
theorem zno35{P:Prop}(h:P:=by intro jj;simp[CV.has,CV.hasL,fault,K0b.nohas,V0a.nohas]): P:=h
theorem c35: Con C 35 R35:=by
 refine V0e C ?_ ?_ ?_
 ·rintro args p r r' ⟨s,t,h,e⟩ ⟨s',t',h',e'⟩
  subst e;subst e';simp_all[V0a.inj_iff]
 ·rintro args p r ⟨s,t,h,rfl⟩;exact zr1
 rintro args p r ⟨s,t,rfl,rfl⟩
 refine zW C false [] zT rfl xf35 zc35_ok fun call zh hF=>?_
 clear zh
 (have zx:=zT;refine zq35 ?_;try exact zT)
 repeat'(apply zK.s<;>intro hc<;>(try simp only[zhd]at hc)<;>(try have hw:=K0a hc)<;>(refine zq35 ?_;try exact zT))
 all_goals(try clear zx)
 exact K0d hF zle (Q0c rfl (Z0c zno35))
noncomputable def resRC(i:Nat)(p:Hp)(r:Except Int (V0a×Nat)): XRes:=
 match r with
 |.ok (t,_)=>.ret (.tup []) (p.set i (some (.var sh66 t.cv)))
 |.error e=>.pan (fault 100 e) p
def R93: Rel:=fun args p r=>∃(a b i:Nat) (c:X0a) (s:Lst Int) (t:V0a),args=[.ptr a [],.ptr b [],.ptr i []]/\(p.t.get a=some (.var sh61 c.cv))/\(p.t.get b=some (.var sh68 (s.cv Y8)))/\(p.t.get i=some (.var sh66 t.cv))/\(s.tl≠.view)/\(s.l.length<=140737488355328)/\(∀x∈s.l,0<=x/\x<=255)/\r=resRC i p (readAllB c s.l 0)
theorem t93{T:XCall}(h:Has T 93 R93)(a b i:Nat)(c:X0a)(s:Lst Int)(t:V0a){p:Hp}(h1:p.t.get a=some (.var sh61 c.cv))(h2:p.t.get b=some (.var sh68 (s.cv Y8)))(h3:p.t.get i=some (.var sh66 t.cv))(h4:s.tl≠.view)(h5:s.l.length<=140737488355328)(h6:∀x∈s.l,0<=x/\x<=255): T 93 [.ptr a [],.ptr b [],.ptr i []] p=resRC i p (readAllB c s.l 0):=h _ _ _ ⟨a,b,i,c,s,t,rfl,h1,h2,h3,h4,h5,h6,rfl⟩
theorem zdis93{P:Prop}(h:P:=by first|exact zdis|(simp only[Hp.bump_n,Hp.znew_n,Hp.zset_n,List.length_nil,List.length_cons,List.length_append,List.length_map,Y0w];(first|done|omega))|(simp (disch:=first|exact zd1|(simp only[Hp.bump_n,Hp.znew_n,Hp.zset_n,List.length_nil,List.length_cons,List.length_append,List.length_map,Y0w];(first|done|omega))) only[zheap,zx];(first|done|rfl))|fail): P:=h
theorem zq93{A B:Prop}(k:B)(h:A=B:=by((try simp -dsimp (disch:=first|exact zdis93|fail) only[zcore,zall,zopm,zop,zcallOp,qop,qbuiltin,ofOpt,List.map,reduceCtorEq,if_true,if_false,↓reduceIte,zbin,eqRes,qassert,qnum,qshift,qun,kindOf,allocV,List.nil_append,List.append_nil,List.cons_append,List.length_cons,List.length_nil,Nat.reduceAdd,Nat.reduceEqDiff,Nat.reduceLT,Nat.reduceSub,Nat.reduceMul,Int.reduceToNat,Int.reduceLE,Int.reduceLT,Int.reduceEq,Int.reduceNeg,Int.reduceAdd,Int.reduceSub,beq_self_eq_true,cond_true,cond_false,isConstOpd,xpanic,xconv,isBytes,qconv,List.length_map,List.map_nil,List.map_cons,concrete,Option.some.injEq,exists_eq',Option.map_some,Option.map_none,List.getElem?_cons_zero,List.getElem?_cons_succ,zw93,rs93,tt61,tt66,tt68,ti61,ti66,ti68,t_95,t_94,Z0e,X0f,zsl68,resRS,Y0w,h1,h2,h3,h4,h5,h6,zx,hc]);rfl)): A:=h▸k
theorem c93: Con C 93 R93:=by
 refine V0e C ?_ ?_ ?_
 ·rintro args p r r' ⟨a,b,i,c,s,t,h,h1,h2,h3,h4,h5,h6,e⟩ ⟨a',b',i',c',s',t',h',h1',h2',h3',h4',h5',h6',e'⟩
  subst e;subst e';(subst h;simp only[List.cons.injEq,CV.ptr.injEq,and_true,true_and]at h';obtain⟨e0,e1,e2⟩:=h';subst e0;subst e1;subst e2;rw[h1]at h1';rw[h2]at h2';simp only[Option.some.injEq,XObj.var.injEq,true_and,X0a.inj_iff,X0h]at h1' h2';rw[h1',h2'])
 ·rintro args p r ⟨a,b,i,c,s,t,h,h1,h2,h3,h4,h5,h6,rfl⟩;first|(split<;>simp;done)|(simp;done)|(simp only[resM];split<;>simp;done)|(simp only[resD];split<;>simp;done)  | (unfold resRC;split<;>simp;done)
 rintro args p r ⟨a,b,i,c,s,t,rfl,h1,h2,h3,h4,h5,h6,rfl⟩
 refine zW C false [(95,R95),(94,R94)] ⟨c95,c94,zT⟩ rfl xf93 zc93_ok fun call zh hF=>?_
 have t_95:=@t95 _ zh.1
 have t_94:=@t94 _ zh.2.1
 clear zh
 have hd_h1:=hF.dom _ _ h1
 have hd_h2:=hF.dom _ _ h2
 have hd_h3:=hF.dom _ _ h3
 have hi:=hF.dom _ _ h3
 have hr:∀x∈(cloneP s).l,0<=x/\x<=255:=by rw[Y0w];exact h6
 cases hra:readAllB c s.l 0 with
 |error e=>
  (have zx:=zA hra (zA h1 (zA h2 h3));refine zq93 ?_;try exact zT)
  repeat'(apply zK.s<;>intro hc<;>(try simp only[zhd]at hc)<;>(try have hw:=K0a hc)<;>(refine zq93 ?_;try exact zT))
  all_goals(try clear zx)
  exact V06 hF (fun k o h=>by have hd:=hF.dom _ _ h;simp (disch:=first|exact zdl|fail) only[Hp.bump_get,Hp.get_set_ne,Hp.get_new_ne];exact h) (V0f (Z0c (Q15 100 e)))
 |ok r=>
  obtain⟨u,a'⟩:=r
  (have zx:=zA hra (zA h1 (zA h2 h3));refine zq93 ?_;try exact zT)
  repeat'(apply zK.s<;>intro hc<;>(try simp only[zhd]at hc)<;>(try have hw:=K0a hc)<;>(refine zq93 ?_;try exact zT))
  all_goals(try clear zx)
  exact Q0u hF hi (fun k o hk h=>by have hd:=hF.dom _ _ h;simp (disch:=first|exact zdl|fail) only[Hp.bump_get,Hp.get_set_ne,Hp.get_new_ne];exact h) ⟨_,Hp.get_set_self _ _ _,Y0i fun j hj=>(V0a.nohas u j hj).elim⟩ (V0f (Z0c tup0_no))
noncomputable def resCS(i:Nat)(p:Hp)(r:Except Int (V0a×Nat)): XRes:=
 match r with
 |.ok (t,_)=>.ret (.tup [(X0c.mk 0 0).cv,Bo false]) (p.set i (some (.var sh66 t.cv)))
 |.error e=>.ret (.tup [(X0c.mk 100 e).cv,Bo true]) p
def R73s: Rel:=fun args p r=>∃(a b i:Nat) (c:X0a) (s:Lst Int) (t:V0a),args=[.fn 93 [] [.ptr a [],.ptr b [],.ptr i []]]/\(p.t.get a=some (.var sh61 c.cv))/\(p.t.get b=some (.var sh68 (s.cv Y8)))/\(p.t.get i=some (.var sh66 t.cv))/\(s.tl≠.view)/\(s.l.length<=140737488355328)/\(∀x∈s.l,0<=x/\x<=255)/\r=resCS i p (readAllB c s.l 0)
theorem t73s{T:XCall}(h:Has T 73 R73s)(a b i:Nat)(c:X0a)(s:Lst Int)(t:V0a){p:Hp}(h1:p.t.get a=some (.var sh61 c.cv))(h2:p.t.get b=some (.var sh68 (s.cv Y8)))(h3:p.t.get i=some (.var sh66 t.cv))(h4:s.tl≠.view)(h5:s.l.length<=140737488355328)(h6:∀x∈s.l,0<=x/\x<=255): T 73 [.fn 93 [] [.ptr a [],.ptr b [],.ptr i []]] p=resCS i p (readAllB c s.l 0):=h _ _ _ ⟨a,b,i,c,s,t,rfl,h1,h2,h3,h4,h5,h6,rfl⟩
theorem zq73s{A B:Prop}(k:B)(h:A=B:=by((try simp -dsimp (disch:=first|exact zdis|fail) only[zcore,zall,zopm,zop,zcallOp,qop,qbuiltin,ofOpt,List.map,reduceCtorEq,if_true,if_false,↓reduceIte,zbin,eqRes,qassert,qnum,qshift,qun,kindOf,allocV,List.nil_append,List.append_nil,List.cons_append,List.length_cons,List.length_nil,Nat.reduceAdd,Nat.reduceEqDiff,Nat.reduceLT,Nat.reduceSub,Nat.reduceMul,Int.reduceToNat,Int.reduceLE,Int.reduceLT,Int.reduceEq,Int.reduceNeg,Int.reduceAdd,Int.reduceSub,beq_self_eq_true,cond_true,cond_false,isConstOpd,xpanic,xconv,isBytes,qconv,List.length_map,List.map_nil,List.map_cons,concrete,Option.some.injEq,exists_eq',Option.map_some,Option.map_none,List.getElem?_cons_zero,List.getElem?_cons_succ,zw73,rs73,xc73_z,zw149,qcA_n,qcB_n,qcP_n,qcP_r,qcP_p,qcE_n,qcE_r,tt1,tt4,tt5,tt20,tt44,tt194,ti1,ti4,ti5,ti20,ti44,ti194,t_93,X0p,Y0u,resRC,fault,h1,h2,h3,h4,h5,h6,zx,hc]);rfl)): A:=h▸k
theorem c73s: Con C 73 R73s:=by
 refine V0e C ?_ ?_ ?_
 ·rintro args p r r' ⟨a,b,i,c,s,t,h,h1,h2,h3,h4,h5,h6,e⟩ ⟨a',b',i',c',s',t',h',h1',h2',h3',h4',h5',h6',e'⟩
  subst e;subst e';(subst h;simp only[List.cons.injEq,CV.fn.injEq,CV.ptr.injEq,and_true,true_and]at h';obtain⟨e0,e1,e2⟩:=h';subst e0;subst e1;subst e2;rw[h1]at h1';rw[h2]at h2';simp only[Option.some.injEq,XObj.var.injEq,true_and,X0a.inj_iff,X0h]at h1' h2';rw[h1',h2'])
 ·rintro args p r ⟨a,b,i,c,s,t,h,h1,h2,h3,h4,h5,h6,rfl⟩;first|(split<;>simp;done)|(simp;done)|(simp only[resM];split<;>simp;done)|(simp only[resD];split<;>simp;done)  | (unfold resCS;split<;>simp;done)
 rintro args p r ⟨a,b,i,c,s,t,rfl,h1,h2,h3,h4,h5,h6,rfl⟩
 refine ans_catch C false noExt (tabL C [(93,R93)]) xc73_ok (K12 C) (K04 C _) xc73_a xc73_b xc73_p xc73_r (by kernel_rfl) (Nat.le_of_ble_eq_true (by kernel_rfl)) xc73_n fun hF=>?_
 have t_93:=@t93 (tabL C [(93,R93)]) (X15 C c93 [])
 generalize tabL C [(93,R93)]=call at t_93 ⊢
 have hd_h1:=hF.dom _ _ h1
 have hd_h2:=hF.dom _ _ h2
 have hd_h3:=hF.dom _ _ h3
 show W C false noExt call zn73_1 (argE [.fn 93 [] [.ptr a [],.ptr b [],.ptr i []]]) p (qcA C false noExt call zn73_3 Q1m V1m xc73 _)
 have hi:=hF.dom _ _ h3
 cases hra:readAllB c s.l 0 with
 |error e=>
  (have zx:=zA hra (zA h1 (zA h2 h3));refine zq73s ?_;try exact zT)
  repeat'(apply zK.s<;>intro hc<;>(try simp only[zhd]at hc)<;>(try have hw:=K0a hc)<;>(refine zq73s ?_;try exact zT))
  all_goals(try clear zx)
  exact K0d hF (fun k o h=>by have hd:=hF.dom _ _ h;simp (disch:=first|exact zdl|fail) only[Hp.bump_get,Hp.get_set_ne,Hp.get_new_ne];exact h) (V0f (Z0c (by intro jj;simp[CV.has,CV.hasL,X0c.nohas])))
 |ok r=>
  obtain⟨u,a'⟩:=r
  (have zx:=zA hra (zA h1 (zA h2 h3));refine zq73s ?_;try exact zT)
  repeat'(apply zK.s<;>intro hc<;>(try simp only[zhd]at hc)<;>(try have hw:=K0a hc)<;>(refine zq73s ?_;try exact zT))
  all_goals(try clear zx)
  exact Q0u hF hi (fun k o hk h=>by have hd:=hF.dom _ _ h;simp (disch:=first|exact zdl|fail) only[Hp.bump_get,Hp.get_set_ne,Hp.get_new_ne];exact h) ⟨_,zg9,Y0i fun j hj=>(V0a.nohas u j hj).elim⟩ (V0f (Z0c (by intro jj;simp[CV.has,CV.hasL,X0c.nohas])))
theorem V1o{c:X0a}{s:V0a}(h:stateRight c s=true): (layS c s).length<=400:=by
 have hP:=(Z0i (Q0i h).2.2.1).1
 have hb:=Z02 s.Bodies
 rw[s.hBodies]at hb
 unfold layS
 rw[V0i,Z1m h]
 omega
theorem X05(c:X0a)(s:V0a): ∀x∈layS c s,0<=x/\x<=255:=by
 intro x hx
 unfold layS packB at hx
 obtain⟨i,_,rfl⟩:=List.mem_map.1 hx
 exact Y00 _ _
theorem V0k(l:List Int): (partB l).l=l:=nd rfl
theorem bx68(p:Hp)(s:Lst Int): xbox C p 68 (Lst.cv Y8 s)=.ret (.ptr p.n []) (p.new (.var sh68 (Lst.cv Y8 s))):=by
 simp only[xbox,tt68];rfl
def R36: Rel:=fun args p r=>∃(c:X0a) (s:Lst Int),args=[c.cv,s.cv Y8]/\(c.Tokens.l.length<=1000000)/\(c.Rules.l.length<=1000000)/\(s.tl≠.view)/\(s.l.length<=140737488355328)/\(∀x∈s.l,0<=x/\x<=255)/\r=.ret (.tup [(readState c s.l).1.cv,I (readState c s.l).2]) p
theorem t36{T:XCall}(h:Has T 36 R36)(c:X0a)(s:Lst Int){p:Hp}(hl:c.Tokens.l.length<=1000000)(hr:c.Rules.l.length<=1000000)(h4:s.tl≠.view)(h5:s.l.length<=140737488355328)(h6:∀x∈s.l,0<=x/\x<=255): T 36 [c.cv,s.cv Y8] p=.ret (.tup [(readState c s.l).1.cv,I (readState c s.l).2]) p:=h _ _ _ ⟨c,s,rfl,hl,hr,h4,h5,h6,rfl⟩
theorem zdis36{P:Prop}(h:P:=by first|exact zdis|(simp only[Hp.bump_n,Hp.znew_n,Hp.zset_n,List.length_nil,List.length_cons,List.length_append,List.length_map,V0k];(first|done|omega))|(simp (disch:=first|exact zd1|(simp only[Hp.bump_n,Hp.znew_n,Hp.zset_n,List.length_nil,List.length_cons,List.length_append,List.length_map,V0k];(first|done|omega))) only[zheap,zx];(first|done|rfl))|fail): P:=h
theorem zq36{A B:Prop}(k:B)(h:A=B:=by((try simp -dsimp (disch:=first|exact zdis36|fail) only[zcore,zall,zopm,zop,zcallOp,qop,qbuiltin,ofOpt,List.map,reduceCtorEq,if_true,if_false,↓reduceIte,zbin,eqRes,qassert,qnum,qshift,qun,kindOf,allocV,List.nil_append,List.append_nil,List.cons_append,List.length_cons,List.length_nil,Nat.reduceAdd,Nat.reduceEqDiff,Nat.reduceLT,Nat.reduceSub,Nat.reduceMul,Int.reduceToNat,Int.reduceLE,Int.reduceLT,Int.reduceEq,Int.reduceNeg,Int.reduceAdd,Int.reduceSub,beq_self_eq_true,cond_true,cond_false,isConstOpd,xpanic,xconv,isBytes,qconv,List.length_map,List.map_nil,List.map_cons,concrete,Option.some.injEq,exists_eq',Option.map_some,Option.map_none,List.getElem?_cons_zero,List.getElem?_cons_succ,zw36,rs36,tt44,tt61,tt66,tt68,tt69,ti44,ti61,ti66,ti68,ti69,t_73s,t_33,t_96,Z0e,X0f,X0p,zsl68,resCS,bx68,V0k,hl,hr,h4,h5,h6,zx,hc]);rfl)): A:=h▸k
theorem c36: Con C 36 R36:=by
 refine V0e C ?_ ?_ ?_
 ·rintro args p r r' ⟨c,s,h,hl,hr,h4,h5,h6,e⟩ ⟨c',s',h',hl',hr',h4',h5',h6',e'⟩
  subst e;subst e';simp_all[X0a.inj_iff,V0a.inj_iff,X0c.inj_iff,X0h,X0h]
 ·rintro args p r ⟨c,s,h,hl,hr,h4,h5,h6,rfl⟩;exact zr1
 rintro args p r ⟨c,s,rfl,hl,hr,h4,h5,h6,rfl⟩
 refine zW C false [(73,R73s),(33,R33),(96,R96)] ⟨c73s,c33,c96,zT⟩ rfl xf36 zc36_ok fun call zh hF=>?_
 have t_73s:=@t73s _ zh.1
 have t_33:=@t33 _ zh.2.1
 have t_96:=@t96 _ zh.2.2.1
 clear zh
 cases hra:readAllB c s.l 0 with
 |error e=>
  have hrs:readState c s.l=(V0a.zero,2):=by unfold readState;rw[hra]
  rw[hrs]
  (have zx:=hra;refine zq36 ?_;try exact zT)
  repeat'(apply zK.s<;>intro hc<;>(try simp only[zhd]at hc)<;>(try have hw:=K0a hc)<;>(refine zq36 ?_;try exact zT))
  all_goals(try clear zx)
  all_goals exact K0d hF zle (Q0c rfl (Z0c (by intro jj;simp[CV.has,CV.hasL,V0a.nohas])))
 |ok r=>
  obtain⟨u,a'⟩:=r
  cases hR:stateRight c u with
  |false=>
   have hrs:readState c s.l=(V0a.zero,2):=by unfold readState;rw[hra];simp[hR]
   rw[hrs]
   (have zx:=zA hra hR;refine zq36 ?_;try exact zT)
   repeat'(apply zK.s<;>intro hc<;>(try simp only[zhd]at hc)<;>(try have hw:=K0a hc)<;>(refine zq36 ?_;try exact zT))
   all_goals(try clear zx)
   all_goals exact K0d hF zle (Q0c rfl (Z0c (by intro jj;simp[CV.has,CV.hasL,V0a.nohas])))
  |true=>
   have hlen:=V1o hR
   by_cases he:layS c u=s.l
   ·have hrs:readState c s.l=(u,0):=by unfold readState;rw[hra];simp[hR,he]
    rw[hrs]
    have hde:decide (s.l=s.l)=true:=by simp
    (have zx:=zA hra (zA hR (zA he hde));refine zq36 ?_;try exact zT)
    repeat'(apply zK.s<;>intro hc<;>(try simp only[zhd]at hc)<;>(try have hw:=K0a hc)<;>(refine zq36 ?_;try exact zT))
    all_goals(try clear zx)
    all_goals exact K0d hF zle (Q0c rfl (Z0c (by intro jj;simp[CV.has,CV.hasL,V0a.nohas])))
   ·have hrs:readState c s.l=(V0a.zero,2):=by unfold readState;rw[hra];simp[hR,he]
    rw[hrs]
    (have zx:=zA hra (zA hR he);refine zq36 ?_;try exact zT)
    repeat'(apply zK.s<;>intro hc<;>(try simp only[zhd]at hc)<;>(try have hw:=K0a hc)<;>(refine zq36 ?_;try exact zT))
    all_goals(try clear zx)
    all_goals exact K0d hF zle (Q0c rfl (Z0c (by intro jj;simp[CV.has,CV.hasL,V0a.nohas])))
def R40: Rel:=fun args p r=>∃(c:X0a) (s:V0a),args=[c.cv,s.cv]/\(c.Tokens.l.length<=1000000)/\(c.Rules.l.length<=1000000)/\r=.ret (I (if stateRight c s=true then markB (layS c s)else 0)) p
theorem t40{T:XCall}(h:Has T 40 R40)(c:X0a)(s:V0a){p:Hp}(hl:c.Tokens.l.length<=1000000)(hr:c.Rules.l.length<=1000000): T 40 [c.cv,s.cv] p=.ret (I (if stateRight c s=true then markB (layS c s)else 0)) p:=h _ _ _ ⟨c,s,rfl,hl,hr,rfl⟩
theorem zdis40{P:Prop}(h:P:=by first|exact zdis|(simp only[Hp.bump_n,Hp.znew_n,Hp.zset_n,List.length_nil,List.length_cons,List.length_append,List.length_map,V0k];(first|done|omega))|(simp (disch:=first|exact zd1|(simp only[Hp.bump_n,Hp.znew_n,Hp.zset_n,List.length_nil,List.length_cons,List.length_append,List.length_map,V0k];(first|done|omega))) only[zheap,zx];(first|done|rfl))|fail): P:=h
theorem zq40{A B:Prop}(k:B)(h:A=B:=by have zy:=zA @zw40<|zA @rs40<|zA @tt61<|zA @tt66<|zA @tt69<|zA ti61.eq_1<|zA ti66.eq_1<|zA ti69.eq_1<|zA @t_33<|zA @t_101<|zA @Z0e<|zA @X0f<|zA @V0k<|zA @hl<|@hr;have zd:=@zdis40;exact zQd): A:=h▸k
theorem zno40{P:Prop}(h:P:=by intro jj;simp[CV.has,CV.hasL,fault,K0b.nohas,V0a.nohas]): P:=h
theorem c40: Con C 40 R40:=by
 refine V0e C ?_ ?_ ?_
 ·rintro args p r r' ⟨c,s,h,hl,hr,e⟩ ⟨c',s',h',hl',hr',e'⟩
  subst e;subst e';simp_all[X0a.inj_iff,V0a.inj_iff]
 ·rintro args p r ⟨c,s,h,hl,hr,rfl⟩;exact zr1
 rintro args p r ⟨c,s,rfl,hl,hr,rfl⟩
 refine zW C false [(33,R33),(101,R101)] ⟨c33,c101,zT⟩ rfl xf40 zc40_ok fun call zh hF=>?_
 have t_33:=@t33 _ zh.1
 have t_101:=@t101 _ zh.2.1
 clear zh
 have hby:=X05 c s
 cases hR:stateRight c s with
 |false=>
  (have zx:=hR;refine zq40 ?_;try exact zT)
  repeat'(apply zK.s<;>intro hc<;>(try simp only[zhd]at hc)<;>(try have hw:=K0a hc)<;>(refine zq40 ?_;try exact zT))
  all_goals(try clear zx)
  exact K0d hF zle (Q0c rfl (Z0c zno40))
 |true=>
  have hlen:=V1o hR
  (have zx:=hR;refine zq40 ?_;try exact zT)
  repeat'(apply zK.s<;>intro hc<;>(try simp only[zhd]at hc)<;>(try have hw:=K0a hc)<;>(refine zq40 ?_;try exact zT))
  all_goals(try clear zx)
  exact K0d hF zle (Q0c rfl (Z0c zno40))
end Go.Proofs.Ytpchcfkebljopaa
end
section
namespace Go.Proofs.Ytpchcfkebljopaa
open Go.Cl Go Go.RowKit
set_option maxRecDepth 100000
def zn32_1:=ZC.reg [zu 2 (.box 61 (Tm 0)),zv 4 (.alloc 66)]
def zn32_3:=ZC.draw 9 [] [zdd 0 5 (zld 61 2) false [] [2,6] false,zdd 1 6 (zld 61 2) false [] [] false,zdd 2 7 (zcf 66 [Tm 6] [61]) false [] [] true,zdd 3 8 (zfa 61 2 0) false [2] [] false,zdd 4 9 (zld 3 8) false [2] [] false,zdd 5 10 (zmv 1) true [] [] false,zdd 6 11 (zcf 61 [Tm 9,Tm 10] [3,58]) true [] [] false,zdd 7 12 (zcf 87 [Tm 5,Tm 7,Tm 11] [61,66,92]) true [] [] false,zd0 8 (.store 66 (Tm 4) (Tm 12)) true [] [] false]
def zn32_0:=ZC.seq zn32_1 (ZC.seq zn32_3 ZC.ret)
def zc32: ZC:=zn32_0
theorem zc32_ok: zcode (xfOf Try.f32).code=some zc32:=by kernel_rfl
def zw32:=zU C zc32.eq_1<|zU C zn32_1.eq_1<|zU C zn32_3.eq_1<|(zunf C zn32_0.eq_1)
theorem rs32: (xfOf Try.f32).rs=[.cell 4 66]:=by kernel_rfl
def xf32:=zF C 32 Try.f32
def zn92_1:=ZC.reg [zv 0 (.alloc 61)]
def zn92_3:=ZC.reg [⟨some 1,.buildSlice 24 1 ⟨[(0,.const (.int .i64 3))]⟩,none,false⟩,⟨some 2,.build 61 ⟨[(0,.const (.int .i64 1)),(1,.const (.int .i64 1)),(4,.const (.int .i64 50)),(6,.const (.float .f64 4607182418800017408)),(7,.const (.float .f64 4617315517961601024)),(9,.tmp 1)]⟩,none,false⟩,zv0 (.store 61 (Tm 0) (Tm 2))]
def zn92_0:=ZC.seq zn92_1 (ZC.seq zn92_3 ZC.ret)
def zc92: ZC:=zn92_0
theorem zc92_ok: zcode (xfOf Try.f92).code=some zc92:=by kernel_rfl
def zw92:=zU C zc92.eq_1<|zU C zn92_1.eq_1<|zU C zn92_3.eq_1<|(zunf C zn92_0.eq_1)
theorem rs92: (xfOf Try.f92).rs=[.cell 0 61]:=by kernel_rfl
def xf92:=zF C 92 Try.f92
def zn34_1:=ZC.reg [zv 0 (.assign (.const (.bool false)))]
def zn34_3:=ZC.reg [zu 6 (zcf 92 [] []),zu 1 (.alloc 61),zv0 (.store 61 (Tm 1) (Tm 6))]
def zn34_5:=ZC.draw 9 [] [zdd 0 8 (zld 61 1) false [] [2] false,zdd 1 9 (zld 61 1) true [] [] false,zdd 2 10 (zcf 58 [Tm 9] [61]) true [] [] false,zdd 3 11 (zcf 33 [Tm 8,Tm 10] [61,66]) true [] [] false,zdd 4 7 (zmv 11) true [] [] false,zdd 5 12 (.extract (Tm 7) 0) false [] [] false,zdd 6 13 (.extract (Tm 7) 1) false [] [] false,zdd 7 2 (zas 12) true [] [] false,zdd 8 3 (zas 13) true [] [] false]
def zn34_7:=ZC.reg [zu 15 (zld 61 1),zu 16 (zmv 2),zu 17 (zcf 36 [Tm 15,Tm 16] [61,68]),zu 14 (zmv 17),zu 18 (.extract (Tm 14) 0),zu 19 (.extract (Tm 14) 1),zu 4 (.alloc 66),zu0 (.store 66 (Tm 4) (Tm 18)),zv 5 (zas 19)]
def zn34_9:=ZC.draw 25 [] [zdd 0 20 (zmv 3) true [] [] false,zdd 1 21 (.binOp .eql 69 (Tm 20) (Kn 0) 69) true [] [] false,zdd 2 22 (zmv 21) true [] [] false,⟨3,some 23,zmv 2,some (22,true),true,[],[],false⟩,⟨4,some 24,zcb .len [Tm 23] [68],some (22,true),true,[],[],false⟩,⟨5,some 25,.binOp .eql 3 (Tm 24) (Kn 37) 3,some (22,true),true,[],[],false⟩,zdd 6 26 (.pick (Tm 22) (Tm 25) (.const (.bool false))) true [] [] false,zdd 7 27 (zmv 26) true [] [] false,⟨8,some 28,zmv 5,some (27,true),true,[],[],false⟩,⟨9,some 29,.binOp .eql 69 (Tm 28) (Kn 0) 69,some (27,true),true,[],[],false⟩,zdd 10 30 (.pick (Tm 27) (Tm 29) (.const (.bool false))) true [] [] false,zdd 11 31 (zmv 30) true [] [] false,⟨12,some 32,zld 66 4,some (31,true),false,[],[14],false⟩,⟨13,some 33,zld 61 1,some (31,true),true,[],[],false⟩,⟨14,some 34,zcf 58 [Tm 33] [61],some (31,true),true,[],[],false⟩,⟨15,some 35,zcf 35 [Tm 32,Tm 34] [66,66],some (31,true),true,[],[],false⟩,zdd 16 36 (.pick (Tm 31) (Tm 35) (.const (.bool false))) true [] [] false,zdd 17 37 (zmv 36) true [] [] false,⟨18,some 38,zfa 66 4 2,some (37,true),true,[],[],false⟩,⟨19,some 39,.indexAddr 63 (Tm 38) (Kn 0),some (37,true),true,[],[],false⟩,⟨20,some 40,zfa 34 39 2,some (37,true),true,[],[],false⟩,⟨21,some 41,zld 3 40,some (37,true),true,[],[],false⟩,⟨22,some 42,.binOp .eql 3 (Tm 41) (Kn 2048) 3,some (37,true),true,[],[],false⟩,zdd 23 43 (.pick (Tm 37) (Tm 42) (.const (.bool false))) true [] [] false,zdd 24 0 (zas 43) true [] [] false]
def zn34_0:=ZC.seq zn34_1 (ZC.seq zn34_3 (ZC.seq zn34_5 (ZC.seq zn34_7 (ZC.seq zn34_9 ZC.ret))))
def zc34: ZC:=zn34_0
theorem zc34_ok: zcode (xfOf Try.f34).code=some zc34:=by kernel_rfl
def zw34:=zU C zc34.eq_1<|zU C zn34_1.eq_1<|zU C zn34_3.eq_1<|zU C zn34_5.eq_1<|zU C zn34_7.eq_1<|zU C zn34_9.eq_1<|(zunf C zn34_0.eq_1)
theorem rs34: (xfOf Try.f34).rs=[.tmp 0]:=by kernel_rfl
def xf34:=zF C 34 Try.f34
def zn42_1:=ZC.reg [zv 4 (.assign (.const (.slice none 0 0)))]
def zn42_3:=ZC.reg [⟨some 5,.buildSlice 68 0 ⟨[]⟩,none,false⟩,zu 6 (zmv 0),zu 7 (zmv 0),zu 8 (zcb .len [Tm 7] [68]),zu 9 (zmv 1),zu 10 (zcb .min [Tm 8,Tm 9] [3,3]),zu 11 (.slice 68 (Tm 6) none (some (Tm 10)) none),zu 12 (zcb .append [Tm 5,Tm 11] [68,68]),zv 4 (zas 12)]
def zn42_0:=ZC.seq zn42_1 (ZC.seq zn42_3 ZC.ret)
def zc42: ZC:=zn42_0
theorem zc42_ok: zcode (xfOf Try.f42).code=some zc42:=by kernel_rfl
def zw42:=zU C zc42.eq_1<|zU C zn42_1.eq_1<|zU C zn42_3.eq_1<|(zunf C zn42_0.eq_1)
theorem rs42: (xfOf Try.f42).rs=[.tmp 4]:=by kernel_rfl
def xf42:=zF C 42 Try.f42
def zn98_0:=ZC.reg [zu 6 (zmv 0),zu 7 (zmv 1),zu 8 (.convert 3 25 (Tm 7)),zu 9 (zmv 2),zv 10 (zcf 99 [Tm 6,Tm 8,Tm 9] [153,25,3])]
def zc98: ZC:=zn98_0
theorem zc98_ok: zcode (xfOf Try.f98).code=some zc98:=by kernel_rfl
def zw98:=zU C zc98.eq_1<|(zunf C zn98_0.eq_1)
theorem rs98: (xfOf Try.f98).rs=[]:=by kernel_rfl
def xf98:=zF C 98 Try.f98
def zn99_1:=ZC.reg [zu 7 (zmv 2),zu 8 (zcb .min [Kn 64,Tm 7] [3,3]),zu 9 (zcb .max [Kn 0,Tm 8] [3,3]),zu 10 (.binOp .sub 3 (Tm 9) (Kn 1) 3),zv 6 (zas 10)]
def zn99_6:=ZC.reg [zu 11 (zmv 6),zv 12 (.binOp .geq 3 (Tm 11) (Kn 0) 3)]
def zn99_10:=ZC.reg [zu 15 (zmv 0),zu 16 (zmv 0),zu 17 (.nilCheck (Tm 16)),zu 18 (zfa 156 17 0),zu 19 (zld 154 18),zu 20 (zmv 1),zu 21 (zmv 6),zu 22 (.convert 3 178 (Tm 21)),zu 23 (.binOp .shr 25 (Tm 20) (Tm 22) 178),zu 24 (.binOp .and 25 (Tm 23) (.const (.int .u64 1)) 25),zu 25 (.binOp .eql 25 (Tm 24) (.const (.int .u64 1)) 25),⟨some 26,.buildSlice 154 1 ⟨[(0,.tmp 25)]⟩,none,false⟩,zu 27 (zcb .append [Tm 19,Tm 26] [154,154]),zu 28 (.nilCheck (Tm 15)),zu 29 (zfa 156 28 0),zv0 (.store 154 (Tm 29) (Tm 27))]
def zn99_11:=ZC.reg [zu 13 (zmv 6),zu 14 (.binOp .sub 3 (Tm 13) (Kn 1) 3),zv 6 (zas 14)]
def zn99_4:=ZC.seq (ZC.seq zn99_6 (ZC.cond (Tm 12) ZC.skip (ZC.exit 0))) (ZC.seq (ZC.block 1 zn99_10) zn99_11)
def zn99_0:=ZC.seq zn99_1 (ZC.block 0 (ZC.loop zn99_4))
def zc99: ZC:=zn99_0
theorem zc99_ok: zcode (xfOf Try.f99).code=some zc99:=by kernel_rfl
def zw99:=zU C zc99.eq_1<|zU C zn99_1.eq_1<|zU C zn99_6.eq_1<|zU C zn99_10.eq_1<|zU C zn99_11.eq_1<|zU C zn99_4.eq_1<|(zunf C zn99_0.eq_1)
theorem rs99: (xfOf Try.f99).rs=[]:=by kernel_rfl
def xf99:=zF C 99 Try.f99
def zn100_1:=ZC.reg [zv 2 (.assign (.const (.slice none 0 0)))]
def zn100_3:=ZC.reg [zu 5 (zmv 0),zu 6 (.nilCheck (Tm 5)),zu 7 (zfa 156 6 0),zu 8 (zld 154 7),zu 9 (zcb .len [Tm 8] [154]),zu 10 (.binOp .add 3 (Tm 9) (Kn 7) 3),zu 11 (.binOp .quo 3 (Tm 10) (Kn 8) 3),zu 12 (.makeSlice 68 (Tm 11) (Tm 11)),zv 3 (zas 12)]
def zn100_6:=ZC.reg [zv 4 (.assign (Kn 0))]
def zn100_11:=ZC.reg [zu 13 (zmv 4),zu 14 (zmv 0),zu 15 (.nilCheck (Tm 14)),zu 16 (zfa 156 15 0),zu 17 (zld 154 16),zu 18 (zcb .len [Tm 17] [154]),zv 19 (.binOp .lss 3 (Tm 13) (Tm 18) 3)]
def zn100_16:=ZC.reg [zu 22 (zmv 0),zu 23 (.nilCheck (Tm 22)),zu 24 (zfa 156 23 0),zu 25 (zld 154 24),zu 26 (zmv 4),zu 27 (zia 154 25 26),zv 28 (zld 4 27)]
def zn100_18:=ZC.reg [zu 29 (zmv 3),zu 30 (zmv 4),zu 31 (.binOp .quo 3 (Tm 30) (Kn 8) 3),zu 32 (zmv 3),zu 33 (zmv 4),zu 34 (.binOp .quo 3 (Tm 33) (Kn 8) 3),zu 35 (zia 68 32 34),zu 36 (zld 5 35),zu 37 (zmv 4),zu 38 (.binOp .rem 3 (Tm 37) (Kn 8) 3),zu 39 (.binOp .sub 3 (Kn 7) (Tm 38) 3),zu 40 (.convert 3 178 (Tm 39)),zu 41 (.binOp .shl 5 (.const (.int .u8 1)) (Tm 40) 178),zu 42 (.binOp .add 5 (Tm 36) (Tm 41) 5),zu 43 (zia 68 29 31),zv0 (.store 5 (Tm 43) (Tm 42))]
def zn100_19:=ZC.reg [zu 20 (zmv 4),zu 21 (.binOp .add 3 (Tm 20) (Kn 1) 3),zv 4 (zas 21)]
def Z11:=ZC.seq (ZC.seq zn100_11 (ZC.cond (Tm 19) ZC.skip (ZC.exit 0))) (ZC.seq (ZC.block 1 (ZC.seq zn100_16 (ZC.cond (Tm 28) zn100_18 ZC.skip))) zn100_19)
def zn100_21:=ZC.reg [zu 44 (zmv 3),zv 2 (zas 44)]
def zn100_0:=ZC.seq zn100_1 (ZC.seq zn100_3 (ZC.seq (ZC.seq zn100_6 (ZC.block 0 (ZC.loop Z11))) (ZC.seq zn100_21 ZC.ret)))
def zc100: ZC:=zn100_0
theorem zc100_ok: zcode (xfOf Try.f100).code=some zc100:=by kernel_rfl
def zw100:=zU C zc100.eq_1<|zU C zn100_1.eq_1<|zU C zn100_3.eq_1<|zU C zn100_6.eq_1<|zU C zn100_11.eq_1<|zU C zn100_16.eq_1<|zU C zn100_18.eq_1<|zU C zn100_19.eq_1<|zU C Z11.eq_1<|zU C zn100_21.eq_1<|(zunf C zn100_0.eq_1)
theorem rs100: (xfOf Try.f100).rs=[.tmp 2]:=by kernel_rfl
def xf100:=zF C 100 Try.f100
def zn103_1:=ZC.reg [zv 4 (.assign (.const (.int .u64 0)))]
def zn103_3:=ZC.reg [zu 7 (zmv 1),zu 8 (zcb .min [Kn 64,Tm 7] [3,3]),zu 9 (zcb .max [Kn 0,Tm 8] [3,3]),zv 1 (zas 9)]
def zn103_6:=ZC.draw 19 [] [zdd 0 10 (zmv 0) true [] [] false,zdd 1 11 (.nilCheck (Tm 10)) true [] [] false,zdd 2 12 (zfa 161 11 2) true [] [] false,zdd 3 13 (zld 4 12) true [] [] false,zdd 4 14 (zmv 13) true [] [] false,⟨5,some 15,zmv 1,some (14,false),false,[],[],false⟩,⟨6,some 16,zmv 0,some (14,false),false,[],[],false⟩,⟨7,some 17,.nilCheck (Tm 16),some (14,false),false,[],[],false⟩,⟨8,some 18,zfa 161 17 0,some (14,false),false,[],[],false⟩,⟨9,some 19,zld 68 18,some (14,false),false,[],[],false⟩,⟨10,some 20,zcb .len [Tm 19] [68],some (14,false),false,[],[],false⟩,⟨11,some 21,.binOp .mul 3 (Kn 8) (Tm 20) 3,some (14,false),false,[],[],false⟩,⟨12,some 22,zmv 0,some (14,false),true,[],[],false⟩,⟨13,some 23,.nilCheck (Tm 22),some (14,false),true,[],[],false⟩,⟨14,some 24,zfa 161 23 1,some (14,false),true,[],[],false⟩,⟨15,some 25,zld 3 24,some (14,false),true,[],[],false⟩,⟨16,some 26,.binOp .sub 3 (Tm 21) (Tm 25) 3,some (14,false),true,[],[],false⟩,⟨17,some 27,.binOp .gtr 3 (Tm 15) (Tm 26) 3,some (14,false),true,[],[],false⟩,zdd 18 28 (.pick (Tm 14) (.const (.bool true)) (Tm 27)) true [] [] false]
def zn103_9:=ZC.reg [zu 29 (zmv 0),zu 30 (.nilCheck (Tm 29)),zu 31 (zfa 161 30 2),zv0 (.store 4 (Tm 31) (.const (.bool true)))]
def zn103_11:=ZC.reg [zv 4 (.assign (.const (.int .u64 0)))]
def zn103_13:=ZC.reg [zv 5 (.assign (.const (.int .u64 0)))]
def zn103_16:=ZC.reg [zv 6 (.assign (Kn 0))]
def zn103_21:=ZC.reg [zu 32 (zmv 6),zu 33 (zmv 1),zv 34 (.binOp .lss 3 (Tm 32) (Tm 33) 3)]
def zn103_26:=ZC.draw 25 [] [zdd 0 37 (zmv 5) false [] [] false,zdd 1 38 (.binOp .shl 25 (Tm 37) (.const (.int .u64 1)) 178) false [] [] false,zdd 2 39 (zmv 0) false [] [] false,zdd 3 40 (.nilCheck (Tm 39)) false [] [] false,zdd 4 41 (zfa 161 40 0) false [] [] false,zdd 5 42 (zld 68 41) false [] [] false,zdd 6 43 (zmv 0) false [] [] false,zdd 7 44 (.nilCheck (Tm 43)) false [] [] false,zdd 8 45 (zfa 161 44 1) false [] [] false,zdd 9 46 (zld 3 45) false [] [] false,zdd 10 47 (.binOp .quo 3 (Tm 46) (Kn 8) 3) false [] [] false,zdd 11 48 (zia 68 42 47) false [] [] false,zdd 12 49 (zld 5 48) false [] [] false,zdd 13 50 (zmv 0) true [] [] false,zdd 14 51 (.nilCheck (Tm 50)) true [] [] false,zdd 15 52 (zfa 161 51 1) true [] [] false,zdd 16 53 (zld 3 52) true [] [] false,zdd 17 54 (.binOp .rem 3 (Tm 53) (Kn 8) 3) true [] [] false,zdd 18 55 (.binOp .sub 3 (Kn 7) (Tm 54) 3) true [] [] false,zdd 19 56 (.convert 3 178 (Tm 55)) true [] [] false,zdd 20 57 (.binOp .shr 5 (Tm 49) (Tm 56) 178) true [] [] false,zdd 21 58 (.binOp .and 5 (Tm 57) (.const (.int .u8 1)) 5) true [] [] false,zdd 22 59 (.convert 5 25 (Tm 58)) true [] [] false,zdd 23 60 (.binOp .or 25 (Tm 38) (Tm 59) 25) true [] [] false,zdd 24 5 (zas 60) true [] [] false]
def zn103_27:=ZC.reg [zu 61 (zmv 0),zu 62 (.nilCheck (Tm 61)),zu 63 (zfa 161 62 1),zu 64 (zld 3 63),zu 65 (.binOp .add 3 (Tm 64) (Kn 1) 3),zu 66 (.nilCheck (Tm 61)),zu 67 (zfa 161 66 1),zv0 (.store 3 (Tm 67) (Tm 65))]
def zn103_28:=ZC.reg [zu 35 (zmv 6),zu 36 (.binOp .add 3 (Tm 35) (Kn 1) 3),zv 6 (zas 36)]
def V1h:=ZC.seq (ZC.seq zn103_21 (ZC.cond (Tm 34) ZC.skip (ZC.exit 0))) (ZC.seq (ZC.block 1 (ZC.seq zn103_26 zn103_27)) zn103_28)
def zn103_30:=ZC.reg [zu 68 (zmv 5),zv 4 (zas 68)]
def zn103_0:=ZC.seq zn103_1 (ZC.seq zn103_3 (ZC.seq (ZC.seq zn103_6 (ZC.cond (Tm 28) (ZC.seq zn103_9 (ZC.seq zn103_11 ZC.ret)) ZC.skip)) (ZC.seq zn103_13 (ZC.seq (ZC.seq zn103_16 (ZC.block 0 (ZC.loop V1h))) (ZC.seq zn103_30 ZC.ret)))))
def zc103: ZC:=zn103_0
theorem zc103_ok: zcode (xfOf Try.f103).code=some zc103:=by kernel_rfl
def zw103:=zU C zc103.eq_1<|zU C zn103_1.eq_1<|zU C zn103_3.eq_1<|zU C zn103_6.eq_1<|zU C zn103_9.eq_1<|zU C zn103_11.eq_1<|zU C zn103_13.eq_1<|zU C zn103_16.eq_1<|zU C zn103_21.eq_1<|zU C zn103_26.eq_1<|zU C zn103_27.eq_1<|zU C zn103_28.eq_1<|zU C V1h.eq_1<|zU C zn103_30.eq_1<|(zunf C zn103_0.eq_1)
theorem rs103: (xfOf Try.f103).rs=[.tmp 4]:=by kernel_rfl
def xf103:=zF C 103 Try.f103
def zn104_1:=ZC.reg [zv 4 (.assign (Kn 0))]
def zn104_3:=ZC.reg [zu 6 (zmv 0),zu 7 (zmv 1),zu 8 (zcf 103 [Tm 6,Tm 7] [159,3]),zv 5 (zas 8)]
def zn104_5:=ZC.reg [zu 9 (zmv 1),zu 10 (zcb .min [Kn 64,Tm 9] [3,3]),zu 11 (zcb .max [Kn 0,Tm 10] [3,3]),zv 1 (zas 11)]
def zn104_8:=ZC.reg [zu 12 (zmv 1),zv 13 (.binOp .eql 3 (Tm 12) (Kn 0) 3)]
def zn104_11:=ZC.reg [zv 4 (.assign (Kn 0))]
def zn104_14:=ZC.reg [zu 14 (zmv 5),zu 15 (zmv 1),zu 16 (.binOp .sub 3 (Tm 15) (Kn 1) 3),zu 17 (.convert 3 178 (Tm 16)),zu 18 (.binOp .shr 25 (Tm 14) (Tm 17) 178),zu 19 (.binOp .and 25 (Tm 18) (.const (.int .u64 1)) 25),zu 20 (.binOp .eql 25 (Tm 19) (.const (.int .u64 1)) 25),zu 21 (zmv 20),zug 22 (zmv 1) 21 true false,zug 23 (.binOp .lss 3 (Tm 22) (Kn 64) 3) 21 true false,zv 24 (.pick (Tm 21) (Tm 23) (.const (.bool false)))]
def zn104_17:=ZC.reg [zu 25 (zmv 5),zu 26 (.convert 25 3 (Tm 25)),zu 27 (zmv 1),zu 28 (.convert 3 178 (Tm 27)),zu 29 (.binOp .shl 3 (Kn 1) (Tm 28) 178),zu 30 (.binOp .sub 3 (Tm 26) (Tm 29) 3),zv 4 (zas 30)]
def zn104_19:=ZC.reg [zu 31 (zmv 5),zu 32 (.convert 25 3 (Tm 31)),zv 4 (zas 32)]
def zn104_0:=ZC.seq zn104_1 (ZC.seq zn104_3 (ZC.seq zn104_5 (ZC.seq (ZC.seq zn104_8 (ZC.cond (Tm 13) (ZC.seq zn104_11 ZC.ret) ZC.skip)) (ZC.seq (ZC.seq zn104_14 (ZC.cond (Tm 24) (ZC.seq zn104_17 ZC.ret) ZC.skip)) (ZC.seq zn104_19 ZC.ret)))))
def zc104: ZC:=zn104_0
theorem zc104_ok: zcode (xfOf Try.f104).code=some zc104:=by kernel_rfl
def zw104:=zU C zc104.eq_1<|zU C zn104_1.eq_1<|zU C zn104_3.eq_1<|zU C zn104_5.eq_1<|zU C zn104_8.eq_1<|zU C zn104_11.eq_1<|zU C zn104_14.eq_1<|zU C zn104_17.eq_1<|zU C zn104_19.eq_1<|(zunf C zn104_0.eq_1)
theorem rs104: (xfOf Try.f104).rs=[.tmp 4]:=by kernel_rfl
def xf104:=zF C 104 Try.f104
def zn39_1:=ZC.reg [zu 2 (.box 61 (Tm 0)),zu 3 (.box 66 (Tm 1)),zu 4 (.assign (.const (.slice none 0 0))),zv 5 (.assign (.const (.bool false)))]
def zn39_4:=ZC.reg [zu 11 (zld 61 2),zu 12 (zld 66 3),zu 13 (zcf 38 [Tm 11,Tm 12] [61,66]),zv 14 (.unOp .not 4 (Tm 13))]
def zn39_7:=ZC.reg [zu 4 (.assign (.const (.slice none 0 0))),zv 5 (.assign (.const (.bool false)))]
def zn39_9:=ZC.reg [⟨some 15,.build 156 ⟨[]⟩,none,false⟩,zu 16 (.box 156 (Tm 15)),zv 6 (zas 16)]
def zn39_11:=ZC.reg [zu 17 (zmv 6),zu 18 (zfa 66 3 0),zu 19 (zld 3 18),zv 20 (zcf 98 [Tm 17,Tm 19,Kn 10] [153,3,3])]
def zn39_13:=ZC.reg [zu 21 (zmv 6),zu 22 (zfa 66 3 1),zu 23 (zld 25 22),zv 24 (zcf 99 [Tm 21,Tm 23,Kn 64] [153,25,3])]
def zn39_16:=ZC.reg [zv 7 (.assign (Kn 0))]
def zn39_21:=ZC.reg [zu 25 (zmv 7),zv 26 (.binOp .lss 3 (Tm 25) (Kn 16) 3)]
def zn39_26:=ZC.reg [zu 29 (zmv 7),zu 30 (zfa 66 3 2),zu 31 (zia 63 30 29),zu 32 (zld 34 31),zu 8 (.alloc 34),zv0 (.store 34 (Tm 8) (Tm 32))]
def zn39_28:=ZC.reg [zu 33 (zmv 6),zu 34 (zfa 34 8 0),zu 35 (zld 3 34),zv 36 (zcf 98 [Tm 33,Tm 35,Kn 2] [153,3,3])]
def zn39_31:=ZC.reg [zu 37 (zfa 34 8 0),zu 38 (zld 3 37),zv 39 (.binOp .eql 3 (Tm 38) (Kn 0) 3)]
def zn39_34:=ZC.reg [zu 40 (zmv 6),zu 41 (zfa 34 8 1),zu 42 (zld 3 41),zv 43 (zcf 98 [Tm 40,Tm 42,Kn 3] [153,3,3])]
def zn39_36:=ZC.reg [zu 44 (zmv 6),zu 45 (zfa 34 8 2),zu 46 (zld 3 45),zv 47 (zcf 98 [Tm 44,Tm 46,Kn 12] [153,3,3])]
def zn39_38:=ZC.reg [zu 48 (zmv 6),zu 49 (zfa 34 8 3),zu 50 (zld 3 49),zv 51 (zcf 98 [Tm 48,Tm 50,Kn 12] [153,3,3])]
def zn39_40:=ZC.reg [zu 52 (zmv 6),zu 53 (zfa 34 8 4),zu 54 (zld 3 53),zv 55 (zcf 98 [Tm 52,Tm 54,Kn 8] [153,3,3])]
def zn39_42:=ZC.reg [zu 56 (zmv 6),zu 57 (zfa 34 8 5),zu 58 (zld 3 57),zv 59 (zcf 98 [Tm 56,Tm 58,Kn 8] [153,3,3])]
def zn39_44:=ZC.reg [zu 60 (zmv 6),zu 61 (zfa 34 8 6),zu 62 (zld 3 61),zv 63 (zcf 98 [Tm 60,Tm 62,Kn 10] [153,3,3])]
def zn39_47:=ZC.reg [zv 9 (.assign (Kn 0))]
def zn39_52:=ZC.reg [zu 64 (zmv 9),zv 65 (.binOp .lss 3 (Tm 64) (Kn 4) 3)]
def zn39_56:=ZC.reg [zu 68 (zmv 6),zu 69 (zmv 9),zu 70 (zfa 34 8 7),zu 71 (zia 32 70 69),zu 72 (zld 3 71),zv 73 (zcf 98 [Tm 68,Tm 72,Kn 21] [153,3,3])]
def zn39_57:=ZC.reg [zu 66 (zmv 9),zu 67 (.binOp .add 3 (Tm 66) (Kn 1) 3),zv 9 (zas 67)]
def Y2c:=ZC.seq (ZC.seq zn39_52 (ZC.cond (Tm 65) ZC.skip (ZC.exit 2))) (ZC.seq (ZC.block 3 zn39_56) zn39_57)
def zn39_58:=ZC.reg [zu 74 (zmv 6),zu 75 (zfa 34 8 8),zu 76 (zld 3 75),zv 77 (zcf 98 [Tm 74,Tm 76,Kn 16] [153,3,3])]
def zn39_59:=ZC.reg [zu 27 (zmv 7),zu 28 (.binOp .add 3 (Tm 27) (Kn 1) 3),zv 7 (zas 28)]
def V14:=ZC.seq (ZC.seq zn39_21 (ZC.cond (Tm 26) ZC.skip (ZC.exit 0))) (ZC.seq (ZC.block 1 (ZC.seq zn39_26 (ZC.seq zn39_28 (ZC.seq (ZC.seq zn39_31 (ZC.cond (Tm 39) (ZC.exit 1) ZC.skip)) (ZC.seq zn39_34 (ZC.seq zn39_36 (ZC.seq zn39_38 (ZC.seq zn39_40 (ZC.seq zn39_42 (ZC.seq zn39_44 (ZC.seq (ZC.seq zn39_47 (ZC.block 2 (ZC.loop Y2c))) zn39_58))))))))))) zn39_59)
def zn39_62:=ZC.reg [zv 10 (.assign (Kn 0))]
def zn39_67:=ZC.reg [zu 78 (zmv 10),zu 79 (zfa 61 2 0),zu 80 (zld 3 79),zv 81 (.binOp .lss 3 (Tm 78) (Tm 80) 3)]
def zn39_71:=ZC.reg [zu 84 (zmv 6),zu 85 (zmv 10),zu 86 (zfa 66 3 3),zu 87 (zia 64 86 85),zu 88 (zld 3 87),zv 89 (zcf 98 [Tm 84,Tm 88,Kn 31] [153,3,3])]
def zn39_72:=ZC.reg [zu 82 (zmv 10),zu 83 (.binOp .add 3 (Tm 82) (Kn 1) 3),zv 10 (zas 83)]
def Y18:=ZC.seq (ZC.seq zn39_67 (ZC.cond (Tm 81) ZC.skip (ZC.exit 4))) (ZC.seq (ZC.block 5 zn39_71) zn39_72)
def zn39_74:=ZC.reg [zu 90 (zmv 6),zu 91 (zcf 100 [Tm 90] [153]),zu 4 (zas 91),zv 5 (.assign (.const (.bool true)))]
def zn39_0:=ZC.seq zn39_1 (ZC.seq (ZC.seq zn39_4 (ZC.cond (Tm 14) (ZC.seq zn39_7 ZC.ret) ZC.skip)) (ZC.seq zn39_9 (ZC.seq zn39_11 (ZC.seq zn39_13 (ZC.seq (ZC.seq zn39_16 (ZC.block 0 (ZC.loop V14))) (ZC.seq (ZC.seq zn39_62 (ZC.block 4 (ZC.loop Y18))) (ZC.seq zn39_74 ZC.ret)))))))
def zc39: ZC:=zn39_0
theorem zc39_ok: zcode (xfOf Try.f39).code=some zc39:=by kernel_rfl
def zw39:=zU C zc39.eq_1<|zU C zn39_1.eq_1<|zU C zn39_4.eq_1<|zU C zn39_7.eq_1<|zU C zn39_9.eq_1<|zU C zn39_11.eq_1<|zU C zn39_13.eq_1<|zU C zn39_16.eq_1<|zU C zn39_21.eq_1<|zU C zn39_26.eq_1<|zU C zn39_28.eq_1<|zU C zn39_31.eq_1<|zU C zn39_34.eq_1<|zU C zn39_36.eq_1<|zU C zn39_38.eq_1<|zU C zn39_40.eq_1<|zU C zn39_42.eq_1<|zU C zn39_44.eq_1<|zU C zn39_47.eq_1<|zU C zn39_52.eq_1<|zU C zn39_56.eq_1<|zU C zn39_57.eq_1<|zU C Y2c.eq_1<|zU C zn39_58.eq_1<|zU C zn39_59.eq_1<|zU C V14.eq_1<|zU C zn39_62.eq_1<|zU C zn39_67.eq_1<|zU C zn39_71.eq_1<|zU C zn39_72.eq_1<|zU C Y18.eq_1<|zU C zn39_74.eq_1<|(zunf C zn39_0.eq_1)
theorem rs39: (xfOf Try.f39).rs=[.tmp 4,.tmp 5]:=by kernel_rfl
def xf39:=zF C 39 Try.f39
def zn43_1:=ZC.reg [zu 2 (.box 61 (Tm 0)),zu 4 (.alloc 66),zv 5 (.assign (.const (.bool false)))]
def zn43_3:=ZC.reg [zu 14 (zmv 1),⟨some 15,.build 161 ⟨[(0,.tmp 14)]⟩,none,false⟩,zu 16 (.box 161 (Tm 15)),zv 6 (zas 16)]
def zn43_5:=ZC.reg [zv 7 (.alloc 66)]
def zn43_7:=ZC.reg [zu 17 (zmv 6),zu 18 (zcf 103 [Tm 17,Kn 10] [159,3]),zu 19 (.convert 25 3 (Tm 18)),zu 20 (zfa 66 7 0),zv0 (.store 3 (Tm 20) (Tm 19))]
def zn43_9:=ZC.reg [zu 21 (zmv 6),zu 22 (zcf 103 [Tm 21,Kn 64] [159,3]),zu 23 (zfa 66 7 1),zv0 (.store 25 (Tm 23) (Tm 22))]
def zn43_12:=ZC.reg [zv 8 (.assign (Kn 0))]
def zn43_17:=ZC.reg [zu 24 (zmv 8),zv 25 (.binOp .lss 3 (Tm 24) (Kn 16) 3)]
def zn43_22:=ZC.reg [zu 28 (zmv 6),zu 29 (zcf 103 [Tm 28,Kn 2] [159,3]),zu 30 (.convert 25 3 (Tm 29)),⟨some 31,.build 34 ⟨[(0,.tmp 30)]⟩,none,false⟩,zu 9 (.alloc 34),zv0 (.store 34 (Tm 9) (Tm 31))]
def zn43_25:=ZC.reg [zu 32 (zfa 34 9 0),zu 33 (zld 3 32),zv 34 (.binOp .neq 3 (Tm 33) (Kn 0) 3)]
def zn43_28:=ZC.reg [zu 35 (zmv 6),zu 36 (zcf 103 [Tm 35,Kn 3] [159,3]),zu 37 (.convert 25 3 (Tm 36)),zu 38 (zfa 34 9 1),zv0 (.store 3 (Tm 38) (Tm 37))]
def zn43_30:=ZC.reg [zu 39 (zmv 6),zu 40 (zcf 103 [Tm 39,Kn 12] [159,3]),zu 41 (.convert 25 3 (Tm 40)),zu 42 (zfa 34 9 2),zv0 (.store 3 (Tm 42) (Tm 41))]
def zn43_32:=ZC.reg [zu 43 (zmv 6),zu 44 (zcf 103 [Tm 43,Kn 12] [159,3]),zu 45 (.convert 25 3 (Tm 44)),zu 46 (zfa 34 9 3),zv0 (.store 3 (Tm 46) (Tm 45))]
def zn43_34:=ZC.reg [zu 47 (zmv 6),zu 48 (zcf 104 [Tm 47,Kn 8] [159,3]),zu 49 (zfa 34 9 4),zv0 (.store 3 (Tm 49) (Tm 48))]
def zn43_36:=ZC.reg [zu 50 (zmv 6),zu 51 (zcf 104 [Tm 50,Kn 8] [159,3]),zu 52 (zfa 34 9 5),zv0 (.store 3 (Tm 52) (Tm 51))]
def zn43_38:=ZC.reg [zu 53 (zmv 6),zu 54 (zcf 103 [Tm 53,Kn 10] [159,3]),zu 55 (.convert 25 3 (Tm 54)),zu 56 (zfa 34 9 6),zv0 (.store 3 (Tm 56) (Tm 55))]
def zn43_41:=ZC.reg [zv 10 (.assign (Kn 0))]
def zn43_46:=ZC.reg [zu 57 (zmv 10),zv 58 (.binOp .lss 3 (Tm 57) (Kn 4) 3)]
def zn43_50:=ZC.reg [zu 61 (zmv 10),zu 62 (zmv 6),zu 63 (zcf 104 [Tm 62,Kn 21] [159,3]),zu 64 (zfa 34 9 7),zu 65 (zia 32 64 61),zv0 (.store 3 (Tm 65) (Tm 63))]
def zn43_51:=ZC.reg [zu 59 (zmv 10),zu 60 (.binOp .add 3 (Tm 59) (Kn 1) 3),zv 10 (zas 60)]
def Q2c:=ZC.seq (ZC.seq zn43_46 (ZC.cond (Tm 58) ZC.skip (ZC.exit 2))) (ZC.seq (ZC.block 3 zn43_50) zn43_51)
def zn43_52:=ZC.reg [zu 66 (zmv 6),zu 67 (zcf 103 [Tm 66,Kn 16] [159,3]),zu 68 (.convert 25 3 (Tm 67)),zu 69 (zfa 34 9 8),zv0 (.store 3 (Tm 69) (Tm 68))]
def zn43_53:=ZC.reg [zu 70 (zmv 8),zu 71 (zld 34 9),zu 72 (zfa 66 7 2),zu 73 (zia 63 72 70),zv0 (.store 34 (Tm 73) (Tm 71))]
def zn43_54:=ZC.reg [zu 26 (zmv 8),zu 27 (.binOp .add 3 (Tm 26) (Kn 1) 3),zv 8 (zas 27)]
def K2c:=ZC.seq (ZC.seq zn43_17 (ZC.cond (Tm 25) ZC.skip (ZC.exit 0))) (ZC.seq (ZC.block 1 (ZC.seq zn43_22 (ZC.seq (ZC.seq zn43_25 (ZC.cond (Tm 34) (ZC.seq zn43_28 (ZC.seq zn43_30 (ZC.seq zn43_32 (ZC.seq zn43_34 (ZC.seq zn43_36 (ZC.seq zn43_38 (ZC.seq (ZC.seq zn43_41 (ZC.block 2 (ZC.loop Q2c))) zn43_52))))))) ZC.skip)) zn43_53))) zn43_54)
def zn43_57:=ZC.reg [zv 11 (.assign (Kn 0))]
def zn43_62:=ZC.reg [zu 74 (zmv 11),zu 75 (zfa 61 2 0),zu 76 (zld 3 75),zu 77 (.binOp .lss 3 (Tm 74) (Tm 76) 3),zu 78 (zmv 77),zug 79 (zmv 11) 78 true false,zug 80 (.binOp .lss 3 (Tm 79) (Kn 8) 3) 78 true false,zv 81 (.pick (Tm 78) (Tm 80) (.const (.bool false)))]
def zn43_66:=ZC.reg [zu 84 (zmv 11),zu 85 (zmv 6),zu 86 (zcf 103 [Tm 85,Kn 31] [159,3]),zu 87 (.convert 25 3 (Tm 86)),zu 88 (zfa 66 7 3),zu 89 (zia 64 88 84),zv0 (.store 3 (Tm 89) (Tm 87))]
def zn43_67:=ZC.reg [zu 82 (zmv 11),zu 83 (.binOp .add 3 (Tm 82) (Kn 1) 3),zv 11 (zas 83)]
def Y19:=ZC.seq (ZC.seq zn43_62 (ZC.cond (Tm 81) ZC.skip (ZC.exit 4))) (ZC.seq (ZC.block 5 zn43_66) zn43_67)
def zn43_69:=ZC.reg [zu 91 (zld 61 2),zu 92 (zld 66 7),zu 93 (zcf 39 [Tm 91,Tm 92] [61,66]),zu 90 (zmv 93),zu 94 (.extract (Tm 90) 0),zu 95 (.extract (Tm 90) 1),zu 12 (zas 94),zv 13 (zas 95)]
def zn43_72:=ZC.reg [zu 96 (zmv 6),zu 97 (.nilCheck (Tm 96)),zu 98 (zfa 161 97 2),zu 99 (zld 4 98),zu 100 (zmv 99),zug 101 (zmv 13) 100 false false,zug 102 (.unOp .not 4 (Tm 101)) 100 false false,zu 103 (.pick (Tm 100) (.const (.bool true)) (Tm 102)),zu 104 (zmv 103),zug 105 (zmv 12) 104 false false,zug 106 (.convert 68 9 (Tm 105)) 104 false false,zug 107 (zmv 1) 104 false false,zug 108 (.convert 68 9 (Tm 107)) 104 false false,zug 109 (.binOp .neq 9 (Tm 106) (Tm 108) 9) 104 false false,zv 110 (.pick (Tm 104) (.const (.bool true)) (Tm 109))]
def zn43_75:=ZC.reg [⟨some 111,.build 66 ⟨[]⟩,none,false⟩,zu0 (.store 66 (Tm 4) (Tm 111)),zv 5 (.assign (.const (.bool false)))]
def zn43_77:=ZC.reg [zu 112 (zld 66 7),zu0 (.store 66 (Tm 4) (Tm 112)),zv 5 (.assign (.const (.bool true)))]
def zn43_0:=ZC.seq zn43_1 (ZC.seq zn43_3 (ZC.seq zn43_5 (ZC.seq zn43_7 (ZC.seq zn43_9 (ZC.seq (ZC.seq zn43_12 (ZC.block 0 (ZC.loop K2c))) (ZC.seq (ZC.seq zn43_57 (ZC.block 4 (ZC.loop Y19))) (ZC.seq zn43_69 (ZC.seq (ZC.seq zn43_72 (ZC.cond (Tm 110) (ZC.seq zn43_75 ZC.ret) ZC.skip)) (ZC.seq zn43_77 ZC.ret)))))))))
def zc43: ZC:=zn43_0
theorem zc43_ok: zcode (xfOf Try.f43).code=some zc43:=by kernel_rfl
def zw43:=zU C zc43.eq_1<|zU C zn43_1.eq_1<|zU C zn43_3.eq_1<|zU C zn43_5.eq_1<|zU C zn43_7.eq_1<|zU C zn43_9.eq_1<|zU C zn43_12.eq_1<|zU C zn43_17.eq_1<|zU C zn43_22.eq_1<|zU C zn43_25.eq_1<|zU C zn43_28.eq_1<|zU C zn43_30.eq_1<|zU C zn43_32.eq_1<|zU C zn43_34.eq_1<|zU C zn43_36.eq_1<|zU C zn43_38.eq_1<|zU C zn43_41.eq_1<|zU C zn43_46.eq_1<|zU C zn43_50.eq_1<|zU C zn43_51.eq_1<|zU C Q2c.eq_1<|zU C zn43_52.eq_1<|zU C zn43_53.eq_1<|zU C zn43_54.eq_1<|zU C K2c.eq_1<|zU C zn43_57.eq_1<|zU C zn43_62.eq_1<|zU C zn43_66.eq_1<|zU C zn43_67.eq_1<|zU C Y19.eq_1<|zU C zn43_69.eq_1<|zU C zn43_72.eq_1<|zU C zn43_75.eq_1<|zU C zn43_77.eq_1<|(zunf C zn43_0.eq_1)
theorem rs43: (xfOf Try.f43).rs=[.cell 4 66,.tmp 5]:=by kernel_rfl
def xf43:=zF C 43 Try.f43
def zn41_1:=ZC.reg [zu 2 (.box 61 (Tm 0)),zu 3 (.box 66 (Tm 1)),zv 4 (.assign (Kn 0))]
def zn41_3:=ZC.reg [zu 8 (zld 61 2),zu 9 (zld 66 3),zu 10 (zcf 39 [Tm 8,Tm 9] [61,66]),zu 7 (zmv 10),zu 11 (.extract (Tm 7) 0),zu 12 (.extract (Tm 7) 1),zu 5 (zas 11),zv 6 (zas 12)]
def zn41_6:=ZC.reg [zu 13 (zmv 6),zv 14 (.unOp .not 4 (Tm 13))]
def zn41_9:=ZC.reg [zv 4 (.assign (Kn 0))]
def zn41_11:=ZC.reg [zu 15 (zmv 5),zu 16 (zcf 102 [Tm 15] [68]),zv 4 (zas 16)]
def zn41_0:=ZC.seq zn41_1 (ZC.seq zn41_3 (ZC.seq (ZC.seq zn41_6 (ZC.cond (Tm 14) (ZC.seq zn41_9 ZC.ret) ZC.skip)) (ZC.seq zn41_11 ZC.ret)))
def zc41: ZC:=zn41_0
theorem zc41_ok: zcode (xfOf Try.f41).code=some zc41:=by kernel_rfl
def zw41:=zU C zc41.eq_1<|zU C zn41_1.eq_1<|zU C zn41_3.eq_1<|zU C zn41_6.eq_1<|zU C zn41_9.eq_1<|zU C zn41_11.eq_1<|(zunf C zn41_0.eq_1)
theorem rs41: (xfOf Try.f41).rs=[.tmp 4]:=by kernel_rfl
def xf41:=zF C 41 Try.f41
def zn102_1:=ZC.reg [zv 2 (.assign (Kn 0))]
def zn102_3:=ZC.reg [zu 3 (zmv 0),zu 4 (zcf 128 [Kn 7,Tm 3] [3,68]),zu 5 (.binOp .shl 3 (Tm 4) (.const (.int .u64 31)) 178),zu 6 (zmv 0),zu 7 (zcf 128 [Kn 11,Tm 6] [3,68]),zu 8 (.binOp .add 3 (Tm 5) (Tm 7) 3),zv 2 (zas 8)]
def zn102_0:=ZC.seq zn102_1 (ZC.seq zn102_3 ZC.ret)
def zc102: ZC:=zn102_0
theorem zc102_ok: zcode (xfOf Try.f102).code=some zc102:=by kernel_rfl
def zw102:=zU C zc102.eq_1<|zU C zn102_1.eq_1<|zU C zn102_3.eq_1<|(zunf C zn102_0.eq_1)
theorem rs102: (xfOf Try.f102).rs=[.tmp 2]:=by kernel_rfl
def xf102:=zF C 102 Try.f102
def zn128_1:=ZC.reg [zv 4 (.assign (Kn 0))]
def zn128_3:=ZC.reg [zu 7 (zmv 0),zu 8 (.binOp .rem 3 (Tm 7) (Kn 2147483647) 3),zv 5 (zas 8)]
def zn128_6:=ZC.reg [zu 9 (zmv 5),zv 10 (.binOp .lss 3 (Tm 9) (Kn 0) 3)]
def zn128_8:=ZC.reg [zu 11 (zmv 5),zu 12 (.binOp .add 3 (Tm 11) (Kn 2147483647) 3),zv 5 (zas 12)]
def zn128_10:=ZC.reg [zu 13 (zmv 5),zu 14 (.binOp .add 3 (Tm 13) (Kn 1) 3),zv 5 (zas 14)]
def zn128_13:=ZC.reg [zv 6 (.assign (Kn 0))]
def zn128_18:=ZC.reg [zu 15 (zmv 6),zu 16 (zmv 1),zu 17 (zcb .len [Tm 16] [68]),zv 18 (.binOp .lss 3 (Tm 15) (Tm 17) 3)]
def zn128_22:=ZC.reg [zu 21 (zmv 5),zu 22 (.binOp .mul 3 (Tm 21) (Kn 257) 3),zu 23 (zmv 1),zu 24 (zmv 6),zu 25 (zia 68 23 24),zu 26 (zld 5 25),zu 27 (.convert 5 3 (Tm 26)),zu 28 (.binOp .add 3 (Tm 22) (Tm 27) 3),zu 29 (.binOp .add 3 (Tm 28) (Kn 1) 3),zu 30 (.binOp .rem 3 (Tm 29) (Kn 2147483647) 3),zv 5 (zas 30)]
def zn128_23:=ZC.reg [zu 19 (zmv 6),zu 20 (.binOp .add 3 (Tm 19) (Kn 1) 3),zv 6 (zas 20)]
def X08:=ZC.seq (ZC.seq zn128_18 (ZC.cond (Tm 18) ZC.skip (ZC.exit 0))) (ZC.seq (ZC.block 1 zn128_22) zn128_23)
def Q14:=ZC.reg [zu 31 (zmv 5),zu 32 (zmv 1),zu 33 (zcb .len [Tm 32] [68]),zu 34 (.binOp .add 3 (Tm 31) (Tm 33) 3),zu 35 (.binOp .rem 3 (Tm 34) (Kn 2147483647) 3),zv 4 (zas 35)]
def zn128_0:=ZC.seq zn128_1 (ZC.seq zn128_3 (ZC.seq (ZC.seq zn128_6 (ZC.cond (Tm 10) zn128_8 ZC.skip)) (ZC.seq zn128_10 (ZC.seq (ZC.seq zn128_13 (ZC.block 0 (ZC.loop X08))) (ZC.seq Q14 ZC.ret)))))
def zc128: ZC:=zn128_0
theorem zc128_ok: zcode (xfOf Try.f128).code=some zc128:=by kernel_rfl
def zw128:=zU C zc128.eq_1<|zU C zn128_1.eq_1<|zU C zn128_3.eq_1<|zU C zn128_6.eq_1<|zU C zn128_8.eq_1<|zU C zn128_10.eq_1<|zU C zn128_13.eq_1<|zU C zn128_18.eq_1<|zU C zn128_22.eq_1<|zU C zn128_23.eq_1<|zU C X08.eq_1<|zU C Q14.eq_1<|(zunf C zn128_0.eq_1)
theorem rs128: (xfOf Try.f128).rs=[.tmp 4]:=by kernel_rfl
def xf128:=zF C 128 Try.f128
def zn8_1:=ZC.reg [zu 9 (.box 57 (Tm 0)),zv 18 (.assign (.const (.bool false)))]
def zn8_3:=ZC.reg [zu 31 (zld 57 9),zu 32 (zcf 31 [Tm 31] [57]),zu 19 (.alloc 61),zv0 (.store 61 (Tm 19) (Tm 32))]
def zn8_5:=ZC.reg [zu 33 (zld 61 19),zu 34 (zmv 1),zu 35 (zcf 32 [Tm 33,Tm 34] [61,58]),zu 20 (.alloc 66),zv0 (.store 66 (Tm 20) (Tm 35))]
def zn8_8:=ZC.reg [zu 36 (zmv 2),zv 37 (zcf 37 [Tm 36,Kn 12] [3,3])]
def zn8_11:=ZC.reg [zu 39 (.binOp .eql 3 (Tm 37) (Kn 0) 3),zv 38 (zas 39)]
def zn8_13:=ZC.reg [zu 40 (zmv 3),zu 41 (zcf 37 [Tm 40,Kn 16] [3,3]),zu 42 (zmv 4),zu 43 (zfa 66 20 2),zu 44 (zia 63 43 41),zu 45 (zfa 34 44 4),zv0 (.store 3 (Tm 45) (Tm 42))]
def zn8_15:=ZC.reg [zu 47 (.binOp .eql 3 (Tm 37) (Kn 1) 3),zv 46 (zas 47)]
def zn8_17:=ZC.reg [zu 48 (zmv 3),zu 49 (zcf 37 [Tm 48,Kn 8] [3,3]),zu 50 (zmv 4),zu 51 (zfa 66 20 3),zu 52 (zia 64 51 49),zv0 (.store 3 (Tm 52) (Tm 50))]
def zn8_19:=ZC.reg [zu 54 (.binOp .eql 3 (Tm 37) (Kn 2) 3),zv 53 (zas 54)]
def zn8_21:=ZC.reg [zu 55 (zmv 4),zu 56 (zfa 66 20 0),zv0 (.store 3 (Tm 56) (Tm 55))]
def K1v:=ZC.reg [zu 58 (zld 61 19),zu 59 (zld 66 20),zu 60 (zcf 33 [Tm 58,Tm 59] [61,66]),zu 57 (zmv 60),zu 61 (.extract (Tm 57) 0),zu 62 (.extract (Tm 57) 1),zu 21 (zas 61),zv 22 (zas 62)]
def V1y:=ZC.reg [zu 64 (zld 61 19),zu 65 (zld 66 20),zu 66 (zcf 39 [Tm 64,Tm 65] [61,66]),zu 63 (zmv 66),zu 67 (.extract (Tm 63) 0),zu 68 (.extract (Tm 63) 1),zu 23 (zas 67),zv 24 (zas 68)]
def Y1v:=ZC.draw 28 [] [zdd 0 69 (zmv 21) false [] [] false,zdd 1 70 (.convert 68 9 (Tm 69)) false [] [] false,zdd 2 71 (zmv 23) true [] [] false,zdd 3 72 (.convert 68 9 (Tm 71)) true [] [] false,zdd 4 73 (.binOp .neq 9 (Tm 70) (Tm 72) 9) true [] [] false,zdd 5 74 (zmv 73) true [] [] false,⟨6,some 75,zmv 22,some (74,false),false,[],[],false⟩,⟨7,some 76,.binOp .eql 69 (Tm 75) (Kn 0) 69,some (74,false),false,[],[],false⟩,⟨8,some 77,zmv 24,some (74,false),true,[],[],false⟩,⟨9,some 78,.binOp .neq 4 (Tm 76) (Tm 77) 4,some (74,false),true,[],[],false⟩,zdd 10 79 (.pick (Tm 74) (.const (.bool true)) (Tm 78)) true [] [] false,zdd 11 80 (zmv 79) true [] [] false,⟨12,some 81,zmv 24,some (80,false),true,[],[],false⟩,⟨13,some 82,.unOp .not 4 (Tm 81),some (80,false),true,[],[],false⟩,⟨14,some 83,zmv 82,some (80,false),true,[],[],false⟩,⟨15,some 84,zmv 22,some (83,true),true,[],[],false⟩,⟨16,some 85,.binOp .neq 69 (Tm 84) (Kn 1) 69,some (83,true),true,[],[],false⟩,⟨17,some 86,.pick (Tm 83) (Tm 85) (.const (.bool false)),some (80,false),true,[],[],false⟩,zdd 18 87 (.pick (Tm 80) (.const (.bool true)) (Tm 86)) true [] [] false,zdd 19 88 (zmv 87) true [] [] false,⟨20,some 89,zld 61 19,some (88,false),false,[],[],false⟩,⟨21,some 90,zld 66 20,some (88,false),false,[],[],false⟩,⟨22,some 91,zcf 40 [Tm 89,Tm 90] [61,66],some (88,false),false,[],[],true⟩,⟨23,some 92,zld 61 19,some (88,false),false,[22],[],false⟩,⟨24,some 93,zld 66 20,some (88,false),true,[22],[],false⟩,⟨25,some 94,zcf 41 [Tm 92,Tm 93] [61,66],some (88,false),true,[],[],false⟩,⟨26,some 95,.binOp .neq 3 (Tm 91) (Tm 94) 3,some (88,false),true,[],[],false⟩,zdd 27 96 (.pick (Tm 88) (.const (.bool true)) (Tm 95)) true [] [] false]
def X1y:=ZC.reg [zv 18 (.assign (.const (.bool false)))]
def X1x:=ZC.reg [zu 97 (zmv 5),zu 98 (zmv 5),zu 99 (zcb .len [Tm 98] [68]),zu 100 (zcf 42 [Tm 97,Tm 99] [68,3]),zv 25 (zas 100)]
def Z1u:=ZC.reg [zu 101 (zmv 6),zu 102 (zmv 101),zug 103 (zmv 24) 102 true false,zv 104 (.pick (Tm 102) (Tm 103) (.const (.bool false)))]
def Q1z:=ZC.reg [zu 105 (zmv 23),zu 106 (zmv 23),zu 107 (zcb .len [Tm 106] [68]),zu 108 (zcf 42 [Tm 105,Tm 107] [68,3]),zv 25 (zas 108)]
def V1x:=ZC.reg [zv 26 (.assign (Kn 0))]
def zn8_46:=ZC.reg [zu 109 (zmv 26),zu 110 (zmv 7),zu 111 (zcb .len [Tm 110] [24]),zu 112 (.binOp .lss 3 (Tm 109) (Tm 111) 3),zu 113 (zmv 112),zug 114 (zmv 26) 113 true false,zug 115 (.binOp .lss 3 (Tm 114) (Kn 2) 3) 113 true false,zv 116 (.pick (Tm 113) (Tm 115) (.const (.bool false)))]
def zn8_50:=ZC.reg [zu 119 (zmv 25),zu 120 (zmv 7),zu 121 (zmv 26),zu 122 (zia 24 120 121),zu 123 (zld 3 122),zu 124 (zmv 25),zu 125 (zcb .len [Tm 124] [68]),zu 126 (zcf 37 [Tm 123,Tm 125] [3,3]),zu 127 (zia 68 119 126),zu 128 (zld 5 127),zu 129 (zmv 8),zu 130 (.binOp .xor 5 (Tm 128) (Tm 129) 5),zu 131 (zia 68 119 126),zv0 (.store 5 (Tm 131) (Tm 130))]
def zn8_51:=ZC.reg [zu 117 (zmv 26),zu 118 (.binOp .add 3 (Tm 117) (Kn 1) 3),zv 26 (zas 118)]
def Z1d:=ZC.seq (ZC.seq zn8_46 (ZC.cond (Tm 116) ZC.skip (ZC.exit 1))) (ZC.seq (ZC.block 2 zn8_50) zn8_51)
def Y1d:=ZC.reg [zu 133 (zld 61 19),zu 134 (zmv 25),zu 135 (zcf 36 [Tm 133,Tm 134] [61,68]),zu 132 (zmv 135),zu 136 (.extract (Tm 132) 0),zu 137 (.extract (Tm 132) 1),zu 27 (.alloc 66),zu0 (.store 66 (Tm 27) (Tm 136)),zv 28 (zas 137)]
def V1e:=ZC.reg [zu 139 (zld 61 19),zu 140 (zmv 25),zu 141 (zcf 43 [Tm 139,Tm 140] [61,68]),zu 138 (zmv 141),zu 142 (.extract (Tm 138) 0),zu 143 (.extract (Tm 138) 1),zu 29 (.alloc 66),zu0 (.store 66 (Tm 29) (Tm 142)),zv 30 (zas 143)]
def V1f:=ZC.reg [zu 144 (zcf 34 [] []),zu 145 (zmv 144),zug 146 (zld 66 27) 145 true false,zug 147 (zld 66 29) 145 true false,zug 148 (.binOp .eql 66 (Tm 146) (Tm 147) 66) 145 true false,zu 149 (.pick (Tm 145) (Tm 148) (.const (.bool false))),zu 150 (zmv 149),zug 151 (zmv 28) 150 true false,zug 152 (.binOp .eql 69 (Tm 151) (Kn 0) 69) 150 true false,zug 153 (zmv 30) 150 true false,zug 154 (.binOp .eql 4 (Tm 152) (Tm 153) 4) 150 true false,zu 155 (.pick (Tm 150) (Tm 154) (.const (.bool false))),zu 156 (zmv 155),zug 157 (zmv 30) 156 true false,zug 158 (zmv 157) 156 true false,zug 159 (zmv 28) 158 false false,zug 160 (.binOp .eql 69 (Tm 159) (Kn 2) 69) 158 false false,zug 161 (.pick (Tm 158) (.const (.bool true)) (Tm 160)) 156 true false,zu 162 (.pick (Tm 156) (Tm 161) (.const (.bool false))),zv 18 (zas 162)]
def zn8_0:=ZC.seq zn8_1 (ZC.seq zn8_3 (ZC.seq zn8_5 (ZC.seq (ZC.seq zn8_8 (ZC.block 0 (ZC.seq zn8_11 (ZC.cond (Tm 38) zn8_13 (ZC.seq zn8_15 (ZC.cond (Tm 46) zn8_17 (ZC.seq zn8_19 (ZC.cond (Tm 53) zn8_21 ZC.skip)))))))) (ZC.seq K1v (ZC.seq V1y (ZC.seq (ZC.seq Y1v (ZC.cond (Tm 96) (ZC.seq X1y ZC.ret) ZC.skip)) (ZC.seq X1x (ZC.seq (ZC.seq Z1u (ZC.cond (Tm 104) (ZC.seq Q1z (ZC.seq V1x (ZC.block 1 (ZC.loop Z1d)))) ZC.skip)) (ZC.seq Y1d (ZC.seq V1e (ZC.seq V1f ZC.ret)))))))))))
def zc8: ZC:=zn8_0
theorem zc8_ok: zcode (xfOf Try.f8).code=some zc8:=by kernel_rfl
def zw8:=zU C zc8.eq_1<|zU C zn8_1.eq_1<|zU C zn8_3.eq_1<|zU C zn8_5.eq_1<|zU C zn8_8.eq_1<|zU C zn8_11.eq_1<|zU C zn8_13.eq_1<|zU C zn8_15.eq_1<|zU C zn8_17.eq_1<|zU C zn8_19.eq_1<|zU C zn8_21.eq_1<|zU C K1v.eq_1<|zU C V1y.eq_1<|zU C Y1v.eq_1<|zU C X1y.eq_1<|zU C X1x.eq_1<|zU C Z1u.eq_1<|zU C Q1z.eq_1<|zU C V1x.eq_1<|zU C zn8_46.eq_1<|zU C zn8_50.eq_1<|zU C zn8_51.eq_1<|zU C Z1d.eq_1<|zU C Y1d.eq_1<|zU C V1e.eq_1<|zU C V1f.eq_1<|(zunf C zn8_0.eq_1)
theorem rs8: (xfOf Try.f8).rs=[.tmp 18]:=by kernel_rfl
def xf8:=zF C 8 Try.f8
def zn67_1:=ZC.reg [zu 3 (.box 61 (Tm 0)),zu 4 (.box 66 (Tm 1)),zv 6 (.alloc 66)]
def zn67_4:=ZC.reg [zu 24 (zld 61 3),zu 25 (zld 66 4),zu 26 (zcf 38 [Tm 24,Tm 25] [61,66]),zv 27 (.unOp .not 4 (Tm 26))]
def zn67_7:=ZC.reg [⟨some 28,.build 66 ⟨[]⟩,none,false⟩,zv0 (.store 66 (Tm 6) (Tm 28))]
def zn67_9:=ZC.reg [zu 29 (zfa 66 4 2),zu 30 (zld 63 29),zu 7 (.alloc 63),zv0 (.store 63 (Tm 7) (Tm 30))]
def zn67_11:=ZC.reg [zv 8 (.assign (.const (.slice none 0 0)))]
def zn67_14:=ZC.reg [zv 9 (.assign (Kn 0))]
def zn67_19:=ZC.reg [zu 31 (zmv 9),zv 32 (.binOp .lss 3 (Tm 31) (Kn 16) 3)]
def zn67_24:=ZC.reg [zu 35 (zmv 9),zu 36 (zia 63 7 35),zu 37 (zld 34 36),zu 10 (.alloc 34),zv0 (.store 34 (Tm 10) (Tm 37))]
def zn67_27:=ZC.reg [zu 38 (zfa 34 10 0),zu 39 (zld 3 38),zv 40 (.binOp .eql 3 (Tm 39) (Kn 1) 3)]
def zn67_30:=ZC.reg [zu 41 (zmv 2),zu 42 (zfa 34 10 1),zu 43 (zld 3 42),zu 44 (zcf 143 [Tm 41,Tm 43] [108,3]),zu 11 (.alloc 36),zv0 (.store 36 (Tm 11) (Tm 44))]
def zn67_32:=ZC.draw 30 [(25,.alloc 51)] [zdd 0 46 (zfa 61 3 8) false [] [9,14] false,zdd 1 47 (zld 23 46) false [] [9,14] false,zdd 2 48 (zld 34 10) false [] [] false,zdd 3 49 (zfa 36 11 1) false [] [] false,zdd 4 50 (zld 3 49) false [] [] false,zdd 5 51 (.binOp .quo 3 (Tm 50) (Kn 16) 3) false [] [] false,zdd 6 52 (zfa 36 11 2) false [] [] false,zdd 7 53 (zld 3 52) false [] [] false,zdd 8 54 (.binOp .quo 3 (Tm 53) (Kn 16) 3) false [] [] false,zdd 9 55 (zcf 144 [Tm 48,Tm 51,Tm 54] [34,3,3]) false [] [] true,zdd 10 56 (zld 36 11) false [9] [14] false,zdd 11 57 (zfa 66 4 1) false [9] [14] false,zdd 12 58 (zld 25 57) false [9] [14] false,zdd 13 59 (zld 66 4) false [9] [] false,zdd 14 60 (zcf 145 [Tm 59] [66]) false [] [] true,zdd 15 61 (zmv 8) false [] [] false,zdd 16 62 (zcb .len [Tm 61] [37]) false [9,14] [] false,zdd 17 63 (.binOp .sub 3 (Tm 60) (Tm 62) 3) false [] [] false,⟨18,some 64,.build 51 ⟨[(0,.tmp 55),(1,.tmp 56),(2,.tmp 58),(3,.tmp 63)]⟩,none,false,[],[],false⟩,zdd 19 65 (zcf 28 [Tm 47,Tm 64] [23,51]) false [] [] true,zdd 20 45 (zmv 65) false [] [] false,zdd 21 66 (.extract (Tm 45) 0) false [] [] false,zdd 22 67 (.extract (Tm 45) 1) false [] [] false,zdd 23 68 (.extract (Tm 45) 2) false [] [] false,zdd 24 69 (.extract (Tm 45) 3) false [] [] false,zdd 25 12 (.alloc 51) true [9,14,19] [] false,zd0 26 (.store 51 (Tm 12) (Tm 66)) true [] [] false,zdd 27 13 (zas 67) true [] [] false,zdd 28 14 (zas 68) true [] [] false,zdd 29 15 (zas 69) true [] [] false]
def zn67_34:=ZC.reg [zv 70 (zmv 15)]
def zn67_37:=ZC.reg [zu 71 (zfa 51 12 0),zu 72 (zld 34 71),zv0 (.store 34 (Tm 10) (Tm 72))]
def zn67_39:=ZC.reg [zu 73 (zfa 51 12 2),zu 74 (zld 25 73),zu 75 (zfa 66 4 1),zv0 (.store 25 (Tm 75) (Tm 74))]
def zn67_40:=ZC.reg [zu 76 (zmv 8),zu 77 (zfa 51 12 4),zu 78 (zld 37 77),zu 79 (zcb .append [Tm 76,Tm 78] [37,37]),zv 8 (zas 79)]
def zn67_41:=ZC.reg [zu 80 (zfa 34 10 8),zu 81 (zld 3 80),zu 82 (.binOp .add 3 (Tm 81) (Kn 1) 3),zu 83 (zcb .min [Kn 65535,Tm 82] [3,3]),zu 84 (zfa 34 10 8),zv0 (.store 3 (Tm 84) (Tm 83))]
def zn67_42:=ZC.reg [zu 86 (zmv 9),zu 87 (zld 34 10),zu 88 (zcf 146 [Tm 87] [34]),zu 85 (zmv 88),zu 89 (.extract (Tm 85) 0),zu 90 (.extract (Tm 85) 1),zu 91 (zfa 66 4 2),zu 92 (zia 63 91 86),zv0 (.store 34 (Tm 92) (Tm 89))]
def zn67_43:=ZC.reg [zu 33 (zmv 9),zu 34 (.binOp .add 3 (Tm 33) (Kn 1) 3),zv 9 (zas 34)]
def Y14:=ZC.seq (ZC.seq zn67_19 (ZC.cond (Tm 32) ZC.skip (ZC.exit 0))) (ZC.seq (ZC.block 1 (ZC.seq zn67_24 (ZC.seq (ZC.seq zn67_27 (ZC.cond (Tm 40) (ZC.seq zn67_30 (ZC.seq zn67_32 (ZC.seq zn67_34 (ZC.cond (Tm 70) (ZC.seq zn67_37 (ZC.seq zn67_39 zn67_40)) zn67_41)))) ZC.skip)) zn67_42))) zn67_43)
def zn67_46:=ZC.reg [zv 16 (.assign (Kn 0))]
def zn67_51:=ZC.reg [zu 93 (zmv 16),zu 94 (zmv 8),zu 95 (zcb .len [Tm 94] [37]),zv 96 (.binOp .lss 3 (Tm 93) (Tm 95) 3)]
def zn67_56:=ZC.reg [zv 17 (.assign (.const (.bool false)))]
def zn67_58:=ZC.reg [zv 18 (.assign (Kn 0))]
def zn67_63:=ZC.reg [zu 99 (zmv 18),zu 100 (.binOp .lss 3 (Tm 99) (Kn 16) 3),zu 101 (zmv 100),zug 102 (zmv 17) 101 true false,zug 103 (.unOp .not 4 (Tm 102)) 101 true false,zv 104 (.pick (Tm 101) (Tm 103) (.const (.bool false)))]
def zn67_68:=ZC.reg [zu 107 (zmv 18),zu 108 (zfa 66 4 2),zu 109 (zia 63 108 107),zu 110 (zfa 34 109 0),zu 111 (zld 3 110),zv 112 (.binOp .eql 3 (Tm 111) (Kn 0) 3)]
def zn67_71:=ZC.reg [zu 113 (zmv 18),zu 114 (zmv 8),zu 115 (zmv 16),zu 116 (zia 37 114 115),zu 117 (zld 34 116),zu 118 (zfa 66 4 2),zu 119 (zia 63 118 113),zv0 (.store 34 (Tm 119) (Tm 117))]
def zn67_72:=ZC.reg [zv 17 (.assign (.const (.bool true)))]
def zn67_73:=ZC.reg [zu 105 (zmv 18),zu 106 (.binOp .add 3 (Tm 105) (Kn 1) 3),zv 18 (zas 106)]
def Q19:=ZC.seq (ZC.seq zn67_63 (ZC.cond (Tm 104) ZC.skip (ZC.exit 4))) (ZC.seq (ZC.block 5 (ZC.seq zn67_68 (ZC.cond (Tm 112) (ZC.seq zn67_71 zn67_72) ZC.skip))) zn67_73)
def zn67_74:=ZC.reg [zu 97 (zmv 16),zu 98 (.binOp .add 3 (Tm 97) (Kn 1) 3),zv 16 (zas 98)]
def X12:=ZC.seq (ZC.seq zn67_51 (ZC.cond (Tm 96) ZC.skip (ZC.exit 2))) (ZC.seq (ZC.block 3 (ZC.seq zn67_56 (ZC.seq zn67_58 (ZC.block 4 (ZC.loop Q19))))) zn67_74)
def zn67_77:=ZC.reg [zv 19 (.assign (Kn 0))]
def zn67_82:=ZC.reg [zu 120 (zmv 19),zv 121 (.binOp .lss 3 (Tm 120) (Kn 16) 3)]
def zn67_87:=ZC.reg [zv 20 (.assign (Kn 0))]
def zn67_92:=ZC.reg [zu 124 (zmv 20),zu 125 (.binOp .lss 3 (Tm 124) (Kn 16) 3),zu 126 (zmv 125),zug 127 (zmv 19) 126 true false,zug 128 (zfa 66 4 2) 126 true false,zug 129 (zia 63 128 127) 126 true false,zug 130 (zfa 34 129 0) 126 true false,zug 131 (zld 3 130) 126 true false,zug 132 (.binOp .eql 3 (Tm 131) (Kn 2) 3) 126 true false,zv 133 (.pick (Tm 126) (Tm 132) (.const (.bool false)))]
def zn67_97:=ZC.reg [zu 136 (zmv 20),zu 137 (zfa 66 4 2),zu 138 (zia 63 137 136),zu 139 (zld 34 138),zu 21 (.alloc 34),zv0 (.store 34 (Tm 21) (Tm 139))]
def zn67_99:=ZC.draw 11 [] [zdd 0 140 (zfa 34 21 0) true [] [] false,zdd 1 141 (zld 3 140) true [] [] false,zdd 2 142 (.binOp .eql 3 (Tm 141) (Kn 1) 3) true [] [] false,zdd 3 143 (zmv 142) true [] [] false,⟨4,some 144,zmv 19,some (143,true),false,[],[],false⟩,⟨5,some 145,zfa 66 4 2,some (143,true),false,[],[],false⟩,⟨6,some 146,zia 63 145 144,some (143,true),false,[],[],false⟩,⟨7,some 147,zld 34 146,some (143,true),false,[],[],false⟩,⟨8,some 148,zld 34 21,some (143,true),true,[],[],false⟩,⟨9,some 149,zcf 147 [Tm 147,Tm 148] [34,34],some (143,true),true,[],[],false⟩,zdd 10 150 (.pick (Tm 143) (Tm 149) (.const (.bool false))) true [] [] false]
def zn67_102:=ZC.reg [zu 151 (zmv 19),zu 152 (zfa 66 4 2),zu 153 (zia 63 152 151),zu 154 (zfa 34 153 1),zu 155 (zld 3 154),zv 22 (zas 155)]
def zn67_104:=ZC.reg [zu 156 (zmv 22),zu 157 (zmv 22),zu 158 (zfa 66 4 3),zu 159 (zia 64 158 157),zu 160 (zld 3 159),zu 161 (.binOp .add 3 (Tm 160) (Kn 1) 3),zu 162 (zcb .min [Kn 2147483647,Tm 161] [3,3]),zu 163 (zfa 66 4 3),zu 164 (zia 64 163 156),zv0 (.store 3 (Tm 164) (Tm 162))]
def zn67_106:=ZC.reg [zu 165 (zmv 19),⟨some 166,.build 34 ⟨[]⟩,none,false⟩,zu 167 (zfa 66 4 2),zu 168 (zia 63 167 165),zv0 (.store 34 (Tm 168) (Tm 166))]
def zn67_108:=ZC.reg [zu 169 (zfa 34 21 1),zu 170 (zld 3 169),zu 171 (zfa 61 3 0),zu 172 (zld 3 171),zu 173 (zcf 142 [Tm 170,Tm 172] [3,3]),zu 23 (.alloc 34),zv0 (.store 34 (Tm 23) (Tm 173))]
def zn67_110:=ZC.reg [zu 174 (zfa 34 21 8),zu 175 (zld 3 174),zu 176 (zfa 34 23 8),zv0 (.store 3 (Tm 176) (Tm 175))]
def zn67_111:=ZC.reg [zu 177 (zmv 20),zu 178 (zld 34 23),zu 179 (zfa 66 4 2),zu 180 (zia 63 179 177),zv0 (.store 34 (Tm 180) (Tm 178))]
def zn67_112:=ZC.reg [zu 134 (zmv 20),zu 135 (.binOp .add 3 (Tm 134) (Kn 1) 3),zv 20 (zas 135)]
def Y12:=ZC.seq (ZC.seq zn67_92 (ZC.cond (Tm 133) ZC.skip (ZC.exit 8))) (ZC.seq (ZC.block 9 (ZC.seq zn67_97 (ZC.seq zn67_99 (ZC.cond (Tm 150) (ZC.seq zn67_102 (ZC.seq zn67_104 (ZC.seq zn67_106 (ZC.seq zn67_108 (ZC.seq zn67_110 zn67_111))))) ZC.skip)))) zn67_112)
def zn67_113:=ZC.reg [zu 122 (zmv 19),zu 123 (.binOp .add 3 (Tm 122) (Kn 1) 3),zv 19 (zas 123)]
def X2b:=ZC.seq (ZC.seq zn67_82 (ZC.cond (Tm 121) ZC.skip (ZC.exit 6))) (ZC.seq (ZC.block 7 (ZC.seq zn67_87 (ZC.block 8 (ZC.loop Y12)))) zn67_113)
def zn67_115:=ZC.reg [zu 181 (zfa 66 4 0),zu 182 (zld 3 181),zu 183 (.binOp .add 3 (Tm 182) (Kn 1) 3),zu 184 (zcb .min [Kn 600,Tm 183] [3,3]),zu 185 (zfa 66 4 0),zv0 (.store 3 (Tm 185) (Tm 184))]
def zn67_117:=ZC.reg [zu 186 (zld 66 4),zv0 (.store 66 (Tm 6) (Tm 186))]
def zn67_0:=ZC.seq zn67_1 (ZC.seq (ZC.seq zn67_4 (ZC.cond (Tm 27) (ZC.seq zn67_7 ZC.ret) ZC.skip)) (ZC.seq zn67_9 (ZC.seq zn67_11 (ZC.seq (ZC.seq zn67_14 (ZC.block 0 (ZC.loop Y14))) (ZC.seq (ZC.seq zn67_46 (ZC.block 2 (ZC.loop X12))) (ZC.seq (ZC.seq zn67_77 (ZC.block 6 (ZC.loop X2b))) (ZC.seq zn67_115 (ZC.seq zn67_117 ZC.ret))))))))
def zc67: ZC:=zn67_0
theorem zc67_ok: zcode (xfOf Try.f67).code=some zc67:=by kernel_rfl
def zw67:=zU C zc67.eq_1<|zU C zn67_1.eq_1<|zU C zn67_4.eq_1<|zU C zn67_7.eq_1<|zU C zn67_9.eq_1<|zU C zn67_11.eq_1<|zU C zn67_14.eq_1<|zU C zn67_19.eq_1<|zU C zn67_24.eq_1<|zU C zn67_27.eq_1<|zU C zn67_30.eq_1<|zU C zn67_32.eq_1<|zU C zn67_34.eq_1<|zU C zn67_37.eq_1<|zU C zn67_39.eq_1<|zU C zn67_40.eq_1<|zU C zn67_41.eq_1<|zU C zn67_42.eq_1<|zU C zn67_43.eq_1<|zU C Y14.eq_1<|zU C zn67_46.eq_1<|zU C zn67_51.eq_1<|zU C zn67_56.eq_1<|zU C zn67_58.eq_1<|zU C zn67_63.eq_1<|zU C zn67_68.eq_1<|zU C zn67_71.eq_1<|zU C zn67_72.eq_1<|zU C zn67_73.eq_1<|zU C Q19.eq_1<|zU C zn67_74.eq_1<|zU C X12.eq_1<|zU C zn67_77.eq_1<|zU C zn67_82.eq_1<|zU C zn67_87.eq_1<|zU C zn67_92.eq_1<|zU C zn67_97.eq_1<|zU C zn67_99.eq_1<|zU C zn67_102.eq_1<|zU C zn67_104.eq_1<|zU C zn67_106.eq_1<|zU C zn67_108.eq_1<|zU C zn67_110.eq_1<|zU C zn67_111.eq_1<|zU C zn67_112.eq_1<|zU C Y12.eq_1<|zU C zn67_113.eq_1<|zU C X2b.eq_1<|zU C zn67_115.eq_1<|zU C zn67_117.eq_1<|(zunf C zn67_0.eq_1)
theorem rs67: (xfOf Try.f67).rs=[.cell 6 66]:=by kernel_rfl
def xf67:=zF C 67 Try.f67
def zn87_1:=ZC.reg [zu 3 (.box 61 (Tm 0)),zu 4 (.box 66 (Tm 1)),zv 6 (.alloc 66)]
def zn87_4:=ZC.reg [zv 7 (.assign (Kn 0))]
def zn87_9:=ZC.reg [zu 8 (zmv 7),zu 9 (zmv 2),zu 10 (zcb .len [Tm 9] [92]),zv 11 (.binOp .lss 3 (Tm 8) (Tm 10) 3)]
def zn87_13:=ZC.draw 8 [] [zdd 0 14 (zld 61 3) false [] [] false,zdd 1 15 (zld 66 4) false [] [] false,zdd 2 16 (zmv 2) false [] [] false,zdd 3 17 (zmv 7) true [] [] false,zdd 4 18 (zia 92 16 17) true [] [] false,zdd 5 19 (zld 108 18) true [] [] false,zdd 6 20 (zcf 67 [Tm 14,Tm 15,Tm 19] [61,66,108]) true [] [] false,zd0 7 (.store 66 (Tm 4) (Tm 20)) true [] [] false]
def zn87_14:=ZC.reg [zu 12 (zmv 7),zu 13 (.binOp .add 3 (Tm 12) (Kn 1) 3),zv 7 (zas 13)]
def zn87_7:=ZC.seq (ZC.seq zn87_9 (ZC.cond (Tm 11) ZC.skip (ZC.exit 0))) (ZC.seq (ZC.block 1 zn87_13) zn87_14)
def zn87_16:=ZC.reg [zu 21 (zld 66 4),zv0 (.store 66 (Tm 6) (Tm 21))]
def zn87_0:=ZC.seq zn87_1 (ZC.seq (ZC.seq zn87_4 (ZC.block 0 (ZC.loop zn87_7))) (ZC.seq zn87_16 ZC.ret))
def zc87: ZC:=zn87_0
theorem zc87_ok: zcode (xfOf Try.f87).code=some zc87:=by kernel_rfl
def zw87:=zU C zc87.eq_1<|zU C zn87_1.eq_1<|zU C zn87_4.eq_1<|zU C zn87_9.eq_1<|zU C zn87_13.eq_1<|zU C zn87_14.eq_1<|zU C zn87_7.eq_1<|zU C zn87_16.eq_1<|(zunf C zn87_0.eq_1)
theorem rs87: (xfOf Try.f87).rs=[.cell 6 66]:=by kernel_rfl
def xf87:=zF C 87 Try.f87
def zn141_1:=ZC.reg [zv 2 (.assign (.const (.int .u64 0)))]
def zn141_3:=ZC.reg [zu 3 (zmv 0),zu 4 (.convert 3 25 (Tm 3)),zu 5 (.binOp .mul 25 (Tm 4) (.const (.int .u64 2)) 25),zu 6 (.binOp .add 25 (Tm 5) (.const (.int .u64 1)) 25),zv 2 (zas 6)]
def zn141_0:=ZC.seq zn141_1 (ZC.seq zn141_3 ZC.ret)
def zc141: ZC:=zn141_0
theorem zc141_ok: zcode (xfOf Try.f141).code=some zc141:=by kernel_rfl
def zw141:=zU C zc141.eq_1<|zU C zn141_1.eq_1<|zU C zn141_3.eq_1<|(zunf C zn141_0.eq_1)
theorem rs141: (xfOf Try.f141).rs=[.tmp 2]:=by kernel_rfl
def xf141:=zF C 141 Try.f141
def zn162_1:=ZC.reg [zv 4 (.assign (.const (.bool false)))]
def zn162_3:=ZC.reg [zu 5 (zmv 0),zu 6 (.binOp .geq 59 (Tm 5) (.const (.float .f64 0)) 59),zu 7 (zmv 6),zug 8 (zmv 0) 7 true false,zug 9 (.binOp .leq 59 (Tm 8) (.const (.float .f64 9218868437227405311)) 59) 7 true false,zu 10 (.pick (Tm 7) (Tm 9) (.const (.bool false))),zu 11 (zmv 10),zug 12 (zmv 1) 11 true false,zug 13 (.binOp .geq 59 (Tm 12) (.const (.float .f64 4607182418800017408)) 59) 11 true false,zu 14 (.pick (Tm 11) (Tm 13) (.const (.bool false))),zu 15 (zmv 14),zug 16 (zmv 1) 15 true false,zug 17 (.binOp .leq 59 (Tm 16) (.const (.float .f64 4652007308841189376)) 59) 15 true false,zu 18 (.pick (Tm 15) (Tm 17) (.const (.bool false))),zv 4 (zas 18)]
def zn162_0:=ZC.seq zn162_1 (ZC.seq zn162_3 ZC.ret)
def zc162: ZC:=zn162_0
theorem zc162_ok: zcode (xfOf Try.f162).code=some zc162:=by kernel_rfl
def zw162:=zU C zc162.eq_1<|zU C zn162_1.eq_1<|zU C zn162_3.eq_1<|(zunf C zn162_0.eq_1)
theorem rs162: (xfOf Try.f162).rs=[.tmp 4]:=by kernel_rfl
def xf162:=zF C 162 Try.f162
def zn180_1:=ZC.reg [zv 4 (.assign (.const (.bool false)))]
def zn180_3:=ZC.reg [zu 5 (zmv 0),zu 6 (zmv 1),zu 7 (.binOp .sub 3 (Tm 5) (Tm 6) 3),zu 8 (.binOp .leq 3 (Tm 7) (Kn 32) 3),zu 9 (zmv 8),zug 10 (zmv 1) 9 true false,zug 11 (zmv 0) 9 true false,zug 12 (.binOp .sub 3 (Tm 10) (Tm 11) 3) 9 true false,zug 13 (.binOp .leq 3 (Tm 12) (Kn 32) 3) 9 true false,zu 14 (.pick (Tm 9) (Tm 13) (.const (.bool false))),zv 4 (zas 14)]
def zn180_0:=ZC.seq zn180_1 (ZC.seq zn180_3 ZC.ret)
def zc180: ZC:=zn180_0
theorem zc180_ok: zcode (xfOf Try.f180).code=some zc180:=by kernel_rfl
def zw180:=zU C zc180.eq_1<|zU C zn180_1.eq_1<|zU C zn180_3.eq_1<|(zunf C zn180_0.eq_1)
theorem rs180: (xfOf Try.f180).rs=[.tmp 4]:=by kernel_rfl
def xf180:=zF C 180 Try.f180
def zn142_1:=ZC.reg [zv 4 (.alloc 34)]
def zn142_3:=ZC.reg [zu 5 (zmv 1),zu 6 (zcf 80 [Tm 5,Kn 1,Kn 8] [3,3,3]),zv 1 (zas 6)]
def zn142_5:=ZC.reg [zu 7 (zmv 0),zu 8 (zmv 1),zu 9 (.binOp .sub 3 (Tm 8) (Kn 1) 3),zu 10 (zcf 80 [Tm 7,Kn 0,Tm 9] [3,3,3]),zv 0 (zas 10)]
def zn142_7:=ZC.reg [zu 11 (zmv 0),zu 12 (zmv 0),zu 13 (.binOp .mul 3 (Kn 2) (Tm 12) 3),zu 14 (.binOp .add 3 (Tm 13) (Kn 1) 3),zu 15 (.binOp .mul 3 (Tm 14) (Kn 4096) 3),zu 16 (zmv 1),zu 17 (.binOp .mul 3 (Kn 2) (Tm 16) 3),zu 18 (.binOp .quo 3 (Tm 15) (Tm 17) 3),⟨some 19,.build 34 ⟨[(0,.const (.int .i64 1)),(1,.tmp 11),(2,.tmp 18),(3,.const (.int .i64 2048))]⟩,none,false⟩,zv0 (.store 34 (Tm 4) (Tm 19))]
def zn142_0:=ZC.seq zn142_1 (ZC.seq zn142_3 (ZC.seq zn142_5 (ZC.seq zn142_7 ZC.ret)))
def zc142: ZC:=zn142_0
theorem zc142_ok: zcode (xfOf Try.f142).code=some zc142:=by kernel_rfl
def zw142:=zU C zc142.eq_1<|zU C zn142_1.eq_1<|zU C zn142_3.eq_1<|zU C zn142_5.eq_1<|zU C zn142_7.eq_1<|(zunf C zn142_0.eq_1)
theorem rs142: (xfOf Try.f142).rs=[.cell 4 34]:=by kernel_rfl
def xf142:=zF C 142 Try.f142
def zn143_1:=ZC.reg [zv 4 (.alloc 36)]
def zn143_4:=ZC.reg [zu 6 (zmv 1),zu 7 (zmv 0),zu 8 (zcb .len [Tm 7] [108]),zv 9 (.binOp .geq 3 (Tm 6) (Tm 8) 3)]
def zn143_7:=ZC.reg [⟨some 10,.build 36 ⟨[]⟩,none,false⟩,zv0 (.store 36 (Tm 4) (Tm 10))]
def zn143_9:=ZC.reg [zu 11 (zmv 0),zu 12 (zmv 1),zu 13 (zia 108 11 12),zu 14 (zfa 110 13 1),zu 15 (zld 36 14),zu 5 (.alloc 36),zv0 (.store 36 (Tm 5) (Tm 15))]
def zn143_11:=ZC.draw 11 [] [zdd 0 16 (zfa 36 5 0) false [] [] false,zdd 1 17 (zld 3 16) false [] [] false,zdd 2 18 (zcf 80 [Tm 17,Kn 0,Kn 255] [3,3,3]) false [] [] true,zdd 3 19 (zfa 36 5 1) false [2] [] false,zdd 4 20 (zld 3 19) false [2] [] false,zdd 5 21 (zcf 80 [Tm 20,Kn (-64),Kn 64] [3,3,3]) false [] [] true,zdd 6 22 (zfa 36 5 2) true [2,5] [] false,zdd 7 23 (zld 3 22) true [2,5] [] false,zdd 8 24 (zcf 80 [Tm 23,Kn (-64),Kn 64] [3,3,3]) true [] [] false,⟨9,some 25,.build 36 ⟨[(0,.tmp 18),(1,.tmp 21),(2,.tmp 24)]⟩,none,true,[],[],false⟩,zd0 10 (.store 36 (Tm 4) (Tm 25)) true [] [] false]
def zn143_0:=ZC.seq zn143_1 (ZC.seq (ZC.seq zn143_4 (ZC.cond (Tm 9) (ZC.seq zn143_7 ZC.ret) ZC.skip)) (ZC.seq zn143_9 (ZC.seq zn143_11 ZC.ret)))
def zc143: ZC:=zn143_0
theorem zc143_ok: zcode (xfOf Try.f143).code=some zc143:=by kernel_rfl
def zw143:=zU C zc143.eq_1<|zU C zn143_1.eq_1<|zU C zn143_4.eq_1<|zU C zn143_7.eq_1<|zU C zn143_9.eq_1<|zU C zn143_11.eq_1<|(zunf C zn143_0.eq_1)
theorem rs143: (xfOf Try.f143).rs=[.cell 4 36]:=by kernel_rfl
def xf143:=zF C 143 Try.f143
def zn145_1:=ZC.reg [zu 1 (.box 66 (Tm 0)),zv 2 (.assign (Kn 0))]
def zn145_3:=ZC.reg [zv 3 (.assign (Kn 0))]
def zn145_6:=ZC.reg [zv 4 (.assign (Kn 0))]
def zn145_11:=ZC.reg [zu 5 (zmv 4),zv 6 (.binOp .lss 3 (Tm 5) (Kn 16) 3)]
def zn145_16:=ZC.reg [zu 9 (zmv 4),zu 10 (zfa 66 1 2),zu 11 (zia 63 10 9),zu 12 (zfa 34 11 0),zu 13 (zld 3 12),zv 14 (.binOp .eql 3 (Tm 13) (Kn 0) 3)]
def zn145_18:=ZC.reg [zu 15 (zmv 3),zu 16 (.binOp .add 3 (Tm 15) (Kn 1) 3),zv 3 (zas 16)]
def zn145_19:=ZC.reg [zu 7 (zmv 4),zu 8 (.binOp .add 3 (Tm 7) (Kn 1) 3),zv 4 (zas 8)]
def X16:=ZC.seq (ZC.seq zn145_11 (ZC.cond (Tm 6) ZC.skip (ZC.exit 0))) (ZC.seq (ZC.block 1 (ZC.seq zn145_16 (ZC.cond (Tm 14) zn145_18 ZC.skip))) zn145_19)
def zn145_21:=ZC.reg [zu 17 (zmv 3),zv 2 (zas 17)]
def zn145_0:=ZC.seq zn145_1 (ZC.seq zn145_3 (ZC.seq (ZC.seq zn145_6 (ZC.block 0 (ZC.loop X16))) (ZC.seq zn145_21 ZC.ret)))
def zc145: ZC:=zn145_0
theorem zc145_ok: zcode (xfOf Try.f145).code=some zc145:=by kernel_rfl
def zw145:=zU C zc145.eq_1<|zU C zn145_1.eq_1<|zU C zn145_3.eq_1<|zU C zn145_6.eq_1<|zU C zn145_11.eq_1<|zU C zn145_16.eq_1<|zU C zn145_18.eq_1<|zU C zn145_19.eq_1<|zU C X16.eq_1<|zU C zn145_21.eq_1<|(zunf C zn145_0.eq_1)
theorem rs145: (xfOf Try.f145).rs=[.tmp 2]:=by kernel_rfl
def xf145:=zF C 145 Try.f145
def zn144_1:=ZC.reg [zu 3 (.box 34 (Tm 0)),zv 6 (.alloc 34)]
def zn144_4:=ZC.reg [zu 7 (zld 34 3),zu 8 (zcf 75 [Tm 7] [34]),zu 9 (.unOp .not 4 (Tm 8)),zu 10 (zmv 9),zug 11 (zfa 34 3 0) 10 false false,zug 12 (zld 3 11) 10 false false,zug 13 (.binOp .eql 3 (Tm 12) (Kn 0) 3) 10 false false,zv 14 (.pick (Tm 10) (.const (.bool true)) (Tm 13))]
def zn144_7:=ZC.reg [⟨some 15,.build 34 ⟨[]⟩,none,false⟩,zv0 (.store 34 (Tm 6) (Tm 15))]
def zn144_9:=ZC.draw 8 [] [zdd 0 16 (zfa 34 3 4) false [] [3] false,zdd 1 17 (zld 3 16) false [] [3] false,zdd 2 18 (zmv 1) true [] [] false,zdd 3 19 (zcf 80 [Tm 18,Kn (-1000),Kn 1000] [3,3,3]) true [] [] false,zdd 4 20 (.binOp .add 3 (Tm 17) (Tm 19) 3) true [] [] false,zdd 5 21 (zcf 80 [Tm 20,Kn (-64),Kn 64] [3,3,3]) true [] [] false,zdd 6 22 (zfa 34 3 4) true [] [] false,zd0 7 (.store 3 (Tm 22) (Tm 21)) true [] [] false]
def zn144_11:=ZC.draw 8 [] [zdd 0 23 (zfa 34 3 5) false [] [3] false,zdd 1 24 (zld 3 23) false [] [3] false,zdd 2 25 (zmv 2) true [] [] false,zdd 3 26 (zcf 80 [Tm 25,Kn (-1000),Kn 1000] [3,3,3]) true [] [] false,zdd 4 27 (.binOp .add 3 (Tm 24) (Tm 26) 3) true [] [] false,zdd 5 28 (zcf 80 [Tm 27,Kn (-64),Kn 64] [3,3,3]) true [] [] false,zdd 6 29 (zfa 34 3 5) true [] [] false,zd0 7 (.store 3 (Tm 29) (Tm 28)) true [] [] false]
def zn144_13:=ZC.reg [zu 30 (zld 34 3),zv0 (.store 34 (Tm 6) (Tm 30))]
def zn144_0:=ZC.seq zn144_1 (ZC.seq (ZC.seq zn144_4 (ZC.cond (Tm 14) (ZC.seq zn144_7 ZC.ret) ZC.skip)) (ZC.seq zn144_9 (ZC.seq zn144_11 (ZC.seq zn144_13 ZC.ret))))
def zc144: ZC:=zn144_0
theorem zc144_ok: zcode (xfOf Try.f144).code=some zc144:=by kernel_rfl
def zw144:=zU C zc144.eq_1<|zU C zn144_1.eq_1<|zU C zn144_4.eq_1<|zU C zn144_7.eq_1<|zU C zn144_9.eq_1<|zU C zn144_11.eq_1<|zU C zn144_13.eq_1<|(zunf C zn144_0.eq_1)
theorem rs144: (xfOf Try.f144).rs=[.cell 6 34]:=by kernel_rfl
def xf144:=zF C 144 Try.f144
def zn146_1:=ZC.reg [zu 1 (.box 34 (Tm 0)),zu 2 (.alloc 34),zv 3 (.assign (.const (.bool false)))]
def zn146_4:=ZC.reg [zu 6 (zld 34 1),zu 7 (zcf 75 [Tm 6] [34]),zu 8 (.unOp .not 4 (Tm 7)),zu 9 (zmv 8),zug 10 (zfa 34 1 0) 9 false false,zug 11 (zld 3 10) 9 false false,zug 12 (.binOp .eql 3 (Tm 11) (Kn 0) 3) 9 false false,zv 13 (.pick (Tm 9) (.const (.bool true)) (Tm 12))]
def zn146_7:=ZC.reg [⟨some 14,.build 34 ⟨[]⟩,none,false⟩,zu0 (.store 34 (Tm 2) (Tm 14)),zv 3 (.assign (.const (.bool false)))]
def zn146_9:=ZC.reg [zu 15 (zfa 34 1 6),zu 16 (zld 3 15),zu 17 (.binOp .add 3 (Tm 16) (Kn 1) 3),zu 18 (zcb .min [Kn 600,Tm 17] [3,3]),zu 19 (zfa 34 1 6),zv0 (.store 3 (Tm 19) (Tm 18))]
def zn146_11:=ZC.reg [zu 20 (zfa 34 1 2),zu 21 (zld 3 20),zu 22 (zfa 34 1 4),zu 23 (zld 3 22),zu 24 (.binOp .add 3 (Tm 21) (Tm 23) 3),zv 4 (zas 24)]
def zn146_13:=ZC.reg [zu 25 (zfa 34 1 3),zu 26 (zld 3 25),zu 27 (zfa 34 1 5),zu 28 (zld 3 27),zu 29 (.binOp .add 3 (Tm 26) (Tm 28) 3),zv 5 (zas 29)]
def zn146_15:=ZC.reg [zu 30 (zmv 4),zu 31 (zcf 80 [Tm 30,Kn 0,Kn 4095] [3,3,3]),zu 32 (zfa 34 1 2),zv0 (.store 3 (Tm 32) (Tm 31))]
def zn146_17:=ZC.reg [zu 33 (zmv 5),zu 34 (zcf 80 [Tm 33,Kn 0,Kn 4095] [3,3,3]),zu 35 (zfa 34 1 3),zv0 (.store 3 (Tm 35) (Tm 34))]
def zn146_20:=ZC.reg [zu 36 (zfa 34 1 0),zu 37 (zld 3 36),zv 38 (.binOp .eql 3 (Tm 37) (Kn 2) 3)]
def zn146_24:=ZC.reg [zu 39 (zfa 34 1 2),zu 40 (zld 3 39),zu 41 (zmv 4),zu 42 (.binOp .neq 3 (Tm 40) (Tm 41) 3),zu 43 (zmv 42),zug 44 (zfa 34 1 3) 43 false false,zug 45 (zld 3 44) 43 false false,zug 46 (zmv 5) 43 false false,zug 47 (.binOp .neq 3 (Tm 45) (Tm 46) 3) 43 false false,zu 48 (.pick (Tm 43) (.const (.bool true)) (Tm 47)),zu 49 (zmv 48),zug 50 (zfa 34 1 6) 49 false false,zug 51 (zld 3 50) 49 false false,zug 52 (.binOp .gtr 3 (Tm 51) (Kn 40) 3) 49 false false,zv 53 (.pick (Tm 49) (.const (.bool true)) (Tm 52))]
def zn146_27:=ZC.reg [⟨some 54,.build 34 ⟨[]⟩,none,false⟩,zu0 (.store 34 (Tm 2) (Tm 54)),zv 3 (.assign (.const (.bool false)))]
def zn146_29:=ZC.reg [zu 55 (zld 34 1),zu0 (.store 34 (Tm 2) (Tm 55)),zv 3 (.assign (.const (.bool true)))]
def zn146_32:=ZC.reg [zu 56 (zfa 34 1 2),zu 57 (zld 3 56),zu 58 (zmv 4),zv 59 (.binOp .neq 3 (Tm 57) (Tm 58) 3)]
def zn146_34:=ZC.reg [zu 60 (zfa 34 1 4),zu 61 (zld 3 60),zu 62 (.unOp .neg 3 (Tm 61)),zu 63 (zfa 34 1 4),zv0 (.store 3 (Tm 63) (Tm 62))]
def zn146_37:=ZC.reg [zu 64 (zfa 34 1 3),zu 65 (zld 3 64),zu 66 (zmv 5),zv 67 (.binOp .neq 3 (Tm 65) (Tm 66) 3)]
def zn146_39:=ZC.reg [zu 68 (zfa 34 1 5),zu 69 (zld 3 68),zu 70 (.unOp .neg 3 (Tm 69)),zu 71 (zfa 34 1 5),zv0 (.store 3 (Tm 71) (Tm 70))]
def zn146_41:=ZC.reg [zu 72 (zld 34 1),zu0 (.store 34 (Tm 2) (Tm 72)),zv 3 (.assign (.const (.bool true)))]
def zn146_0:=ZC.seq zn146_1 (ZC.seq (ZC.seq zn146_4 (ZC.cond (Tm 13) (ZC.seq zn146_7 ZC.ret) ZC.skip)) (ZC.seq zn146_9 (ZC.seq zn146_11 (ZC.seq zn146_13 (ZC.seq zn146_15 (ZC.seq zn146_17 (ZC.seq (ZC.seq zn146_20 (ZC.cond (Tm 38) (ZC.seq (ZC.seq zn146_24 (ZC.cond (Tm 53) (ZC.seq zn146_27 ZC.ret) ZC.skip)) (ZC.seq zn146_29 ZC.ret)) ZC.skip)) (ZC.seq (ZC.seq zn146_32 (ZC.cond (Tm 59) zn146_34 ZC.skip)) (ZC.seq (ZC.seq zn146_37 (ZC.cond (Tm 67) zn146_39 ZC.skip)) (ZC.seq zn146_41 ZC.ret))))))))))
def zc146: ZC:=zn146_0
theorem zc146_ok: zcode (xfOf Try.f146).code=some zc146:=by kernel_rfl
def zw146:=zU C zc146.eq_1<|zU C zn146_1.eq_1<|zU C zn146_4.eq_1<|zU C zn146_7.eq_1<|zU C zn146_9.eq_1<|zU C zn146_11.eq_1<|zU C zn146_13.eq_1<|zU C zn146_15.eq_1<|zU C zn146_17.eq_1<|zU C zn146_20.eq_1<|zU C zn146_24.eq_1<|zU C zn146_27.eq_1<|zU C zn146_29.eq_1<|zU C zn146_32.eq_1<|zU C zn146_34.eq_1<|zU C zn146_37.eq_1<|zU C zn146_39.eq_1<|zU C zn146_41.eq_1<|(zunf C zn146_0.eq_1)
theorem rs146: (xfOf Try.f146).rs=[.cell 2 34,.tmp 3]:=by kernel_rfl
def xf146:=zF C 146 Try.f146
def zn147_1:=ZC.reg [zu 2 (.box 34 (Tm 0)),zu 3 (.box 34 (Tm 1)),zv 4 (.assign (.const (.bool false)))]
def zn147_3:=ZC.reg [zu 6 (zfa 34 2 0),zu 7 (zld 3 6),zu 8 (.binOp .eql 3 (Tm 7) (Kn 1) 3),zu 9 (zmv 8),zug 10 (zfa 34 3 0) 9 true false,zug 11 (zld 3 10) 9 true false,zug 12 (.binOp .eql 3 (Tm 11) (Kn 2) 3) 9 true false,zu 13 (.pick (Tm 9) (Tm 12) (.const (.bool false))),zu 14 (zmv 13),zug 15 (zfa 34 2 0) 14 false false,zug 16 (zld 3 15) 14 false false,zug 17 (.binOp .eql 3 (Tm 16) (Kn 2) 3) 14 false false,zug 18 (zmv 17) 14 false false,zug 19 (zfa 34 3 0) 18 true false,zug 20 (zld 3 19) 18 true false,zug 21 (.binOp .eql 3 (Tm 20) (Kn 1) 3) 18 true false,zug 22 (.pick (Tm 18) (Tm 21) (.const (.bool false))) 14 false false,zu 23 (.pick (Tm 14) (.const (.bool true)) (Tm 22)),zv 5 (zas 23)]
def zn147_5:=ZC.reg [zu 24 (zld 34 2),zu 25 (zcf 75 [Tm 24] [34]),zu 26 (zmv 25),zug 27 (zld 34 3) 26 true false,zug 28 (zcf 75 [Tm 27] [34]) 26 true false,zu 29 (.pick (Tm 26) (Tm 28) (.const (.bool false))),zu 30 (zmv 29),zug 31 (zmv 5) 30 true false,zu 32 (.pick (Tm 30) (Tm 31) (.const (.bool false))),zu 33 (zmv 32),zug 34 (zfa 34 2 1) 33 true false,zug 35 (zld 3 34) 33 true false,zug 36 (zfa 34 3 1) 33 true false,zug 37 (zld 3 36) 33 true false,zug 38 (.binOp .neq 3 (Tm 35) (Tm 37) 3) 33 true false,zu 39 (.pick (Tm 33) (Tm 38) (.const (.bool false))),zu 40 (zmv 39),zug 41 (zfa 34 2 2) 40 true false,zug 42 (zld 3 41) 40 true false,zug 43 (zfa 34 3 2) 40 true false,zug 44 (zld 3 43) 40 true false,zug 45 (zcf 180 [Tm 42,Tm 44] [3,3]) 40 true false,zu 46 (.pick (Tm 40) (Tm 45) (.const (.bool false))),zu 47 (zmv 46),zug 48 (zfa 34 2 3) 47 true false,zug 49 (zld 3 48) 47 true false,zug 50 (zfa 34 3 3) 47 true false,zug 51 (zld 3 50) 47 true false,zug 52 (zcf 180 [Tm 49,Tm 51] [3,3]) 47 true false,zu 53 (.pick (Tm 47) (Tm 52) (.const (.bool false))),zv 4 (zas 53)]
def zn147_0:=ZC.seq zn147_1 (ZC.seq zn147_3 (ZC.seq zn147_5 ZC.ret))
def zc147: ZC:=zn147_0
theorem zc147_ok: zcode (xfOf Try.f147).code=some zc147:=by kernel_rfl
def zw147:=zU C zc147.eq_1<|zU C zn147_1.eq_1<|zU C zn147_3.eq_1<|zU C zn147_5.eq_1<|(zunf C zn147_0.eq_1)
theorem rs147: (xfOf Try.f147).rs=[.tmp 4]:=by kernel_rfl
def xf147:=zF C 147 Try.f147
def zn97_1:=ZC.reg [zu 1 (.box 61 (Tm 0)),zv 2 (.assign (.const (.bool false)))]
def zn97_4:=ZC.reg [zv 3 (.assign (Kn 0))]
def zn97_9:=ZC.reg [zu 5 (zmv 3),zu 6 (zfa 61 1 9),zu 7 (zld 24 6),zu 8 (zcb .len [Tm 7] [24]),zv 9 (.binOp .lss 3 (Tm 5) (Tm 8) 3)]
def zn97_15:=ZC.reg [zv 4 (.assign (Kn 0))]
def zn97_20:=ZC.reg [zu 12 (zmv 4),zu 13 (zmv 3),zv 14 (.binOp .lss 3 (Tm 12) (Tm 13) 3)]
def zn97_25:=ZC.draw 11 [] [zdd 0 17 (zfa 61 1 9) false [] [] false,zdd 1 18 (zld 24 17) false [] [] false,zdd 2 19 (zmv 4) false [] [] false,zdd 3 20 (zia 24 18 19) false [] [] false,zdd 4 21 (zld 3 20) false [] [] false,zdd 5 22 (zfa 61 1 9) false [] [] false,zdd 6 23 (zld 24 22) false [] [] false,zdd 7 24 (zmv 3) true [] [] false,zdd 8 25 (zia 24 23 24) true [] [] false,zdd 9 26 (zld 3 25) true [] [] false,zdd 10 27 (.binOp .eql 3 (Tm 21) (Tm 26) 3) true [] [] false]
def zn97_28:=ZC.reg [zv 2 (.assign (.const (.bool false)))]
def zn97_29:=ZC.reg [zu 15 (zmv 4),zu 16 (.binOp .add 3 (Tm 15) (Kn 1) 3),zv 4 (zas 16)]
def Z19:=ZC.seq (ZC.seq zn97_20 (ZC.cond (Tm 14) ZC.skip (ZC.exit 2))) (ZC.seq (ZC.block 3 (ZC.seq zn97_25 (ZC.cond (Tm 27) (ZC.seq zn97_28 ZC.ret) ZC.skip))) zn97_29)
def zn97_31:=ZC.reg [zu 28 (zfa 61 1 9),zu 29 (zld 24 28),zu 30 (zmv 3),zu 31 (zia 24 29 30),zu 32 (zld 3 31),zu 33 (zcf 85 [Tm 32,Kn 0,Kn 2147483646] [3,3,3]),zv 34 (.unOp .not 4 (Tm 33))]
def zn97_34:=ZC.reg [zv 2 (.assign (.const (.bool false)))]
def zn97_35:=ZC.reg [zu 10 (zmv 3),zu 11 (.binOp .add 3 (Tm 10) (Kn 1) 3),zv 3 (zas 11)]
def zn97_7:=ZC.seq (ZC.seq zn97_9 (ZC.cond (Tm 9) ZC.skip (ZC.exit 0))) (ZC.seq (ZC.block 1 (ZC.seq (ZC.seq zn97_15 (ZC.block 2 (ZC.loop Z19))) (ZC.seq zn97_31 (ZC.cond (Tm 34) (ZC.seq zn97_34 ZC.ret) ZC.skip)))) zn97_35)
def zn97_37:=ZC.reg [zu 35 (zfa 61 1 0),zu 36 (zld 3 35),zu 37 (zcf 85 [Tm 36,Kn 1,Kn 8] [3,3,3]),zu 38 (zmv 37),zug 39 (zfa 61 1 9) 38 true false,zug 40 (zld 24 39) 38 true false,zug 41 (zcb .len [Tm 40] [24]) 38 true false,zug 42 (zfa 61 1 0) 38 true false,zug 43 (zld 3 42) 38 true false,zug 44 (.binOp .eql 3 (Tm 41) (Tm 43) 3) 38 true false,zu 45 (.pick (Tm 38) (Tm 44) (.const (.bool false))),zu 46 (zmv 45),zug 47 (zfa 61 1 1) 46 true false,zug 48 (zld 3 47) 46 true false,zug 49 (zcf 85 [Tm 48,Kn 1,Kn 8] [3,3,3]) 46 true false,zu 50 (.pick (Tm 46) (Tm 49) (.const (.bool false))),zu 51 (zmv 50),zug 52 (zfa 61 1 2) 51 true false,zug 53 (zld 3 52) 51 true false,zug 54 (zcf 85 [Tm 53,Kn 0,Kn 60] [3,3,3]) 51 true false,zu 55 (.pick (Tm 51) (Tm 54) (.const (.bool false))),zu 56 (zmv 55),zug 57 (zfa 61 1 3) 56 true false,zug 58 (zld 3 57) 56 true false,zug 59 (zcf 85 [Tm 58,Kn 0,Kn 100] [3,3,3]) 56 true false,zu 60 (.pick (Tm 56) (Tm 59) (.const (.bool false))),zu 61 (zmv 60),zug 62 (zfa 61 1 4) 61 true false,zug 63 (zld 3 62) 61 true false,zug 64 (zcf 85 [Tm 63,Kn 1,Kn 600] [3,3,3]) 61 true false,zu 65 (.pick (Tm 61) (Tm 64) (.const (.bool false))),zu 66 (zmv 65),zug 67 (zfa 61 1 5) 66 true false,zug 68 (zld 3 67) 66 true false,zug 69 (zcf 85 [Tm 68,Kn 0,Kn 2147483647] [3,3,3]) 66 true false,zu 70 (.pick (Tm 66) (Tm 69) (.const (.bool false))),zu 71 (zmv 70),zug 72 (zfa 61 1 6) 71 true false,zug 73 (zld 59 72) 71 true false,zug 74 (zfa 61 1 7) 71 true false,zug 75 (zld 59 74) 71 true false,zug 76 (zcf 162 [Tm 73,Tm 75] [59,59]) 71 true false,zu 77 (.pick (Tm 71) (Tm 76) (.const (.bool false))),zu 78 (zmv 77),zug 79 (zfa 61 1 8) 78 true false,zug 80 (zld 23 79) 78 true false,zug 81 (zcf 30 [Tm 80] [23]) 78 true false,zu 82 (.pick (Tm 78) (Tm 81) (.const (.bool false))),zv 2 (zas 82)]
def zn97_0:=ZC.seq zn97_1 (ZC.seq (ZC.seq zn97_4 (ZC.block 0 (ZC.loop zn97_7))) (ZC.seq zn97_37 ZC.ret))
def zc97: ZC:=zn97_0
theorem zc97_ok: zcode (xfOf Try.f97).code=some zc97:=by kernel_rfl
def zw97:=zU C zc97.eq_1<|zU C zn97_1.eq_1<|zU C zn97_4.eq_1<|zU C zn97_9.eq_1<|zU C zn97_15.eq_1<|zU C zn97_20.eq_1<|zU C zn97_25.eq_1<|zU C zn97_28.eq_1<|zU C zn97_29.eq_1<|zU C Z19.eq_1<|zU C zn97_31.eq_1<|zU C zn97_34.eq_1<|zU C zn97_35.eq_1<|zU C zn97_7.eq_1<|zU C zn97_37.eq_1<|(zunf C zn97_0.eq_1)
theorem rs97: (xfOf Try.f97).rs=[.tmp 2]:=by kernel_rfl
def xf97:=zF C 97 Try.f97
def zn66_1:=ZC.reg [zu 1 (.box 61 (Tm 0)),zv 2 (.alloc 66)]
def zn66_3:=ZC.reg [zv 3 (.alloc 66)]
def zn66_6:=ZC.reg [zu 5 (zld 61 1),zu 6 (zcf 97 [Tm 5] [61]),zv 7 (.unOp .not 4 (Tm 6))]
def zn66_9:=ZC.reg [zu 8 (zld 66 3),zv0 (.store 66 (Tm 2) (Tm 8))]
def zn66_11:=ZC.reg [zu 9 (zfa 61 1 5),zu 10 (zld 3 9),zu 11 (zcf 141 [Tm 10] [3]),zu 12 (zfa 66 3 1),zv0 (.store 25 (Tm 12) (Tm 11))]
def zn66_14:=ZC.reg [zv 4 (.assign (Kn 0))]
def zn66_19:=ZC.reg [zu 13 (zmv 4),zu 14 (zfa 61 1 0),zu 15 (zld 3 14),zv 16 (.binOp .lss 3 (Tm 13) (Tm 15) 3)]
def zn66_23:=ZC.reg [zu 19 (zmv 4),zu 20 (zmv 4),zu 21 (zfa 61 1 0),zu 22 (zld 3 21),zu 23 (zcf 142 [Tm 20,Tm 22] [3,3]),zu 24 (zfa 66 3 2),zu 25 (zia 63 24 19),zv0 (.store 34 (Tm 25) (Tm 23))]
def zn66_24:=ZC.reg [zu 17 (zmv 4),zu 18 (.binOp .add 3 (Tm 17) (Kn 1) 3),zv 4 (zas 18)]
def Y2b:=ZC.seq (ZC.seq zn66_19 (ZC.cond (Tm 16) ZC.skip (ZC.exit 0))) (ZC.seq (ZC.block 1 zn66_23) zn66_24)
def zn66_26:=ZC.reg [zu 26 (zld 66 3),zv0 (.store 66 (Tm 2) (Tm 26))]
def zn66_0:=ZC.seq zn66_1 (ZC.seq zn66_3 (ZC.seq (ZC.seq zn66_6 (ZC.cond (Tm 7) (ZC.seq zn66_9 ZC.ret) ZC.skip)) (ZC.seq zn66_11 (ZC.seq (ZC.seq zn66_14 (ZC.block 0 (ZC.loop Y2b))) (ZC.seq zn66_26 ZC.ret)))))
def zc66: ZC:=zn66_0
theorem zc66_ok: zcode (xfOf Try.f66).code=some zc66:=by kernel_rfl
def zw66:=zU C zc66.eq_1<|zU C zn66_1.eq_1<|zU C zn66_3.eq_1<|zU C zn66_6.eq_1<|zU C zn66_9.eq_1<|zU C zn66_11.eq_1<|zU C zn66_14.eq_1<|zU C zn66_19.eq_1<|zU C zn66_23.eq_1<|zU C zn66_24.eq_1<|zU C Y2b.eq_1<|zU C zn66_26.eq_1<|(zunf C zn66_0.eq_1)
theorem rs66: (xfOf Try.f66).rs=[.cell 2 66]:=by kernel_rfl
def xf66:=zF C 66 Try.f66
def zn38_1:=ZC.reg [zu 2 (.box 61 (Tm 0)),zu 3 (.box 66 (Tm 1)),zv 4 (.assign (.const (.bool false)))]
def zn38_4:=ZC.reg [zu 8 (zld 61 2),zu 9 (zcf 97 [Tm 8] [61]),zu 10 (.unOp .not 4 (Tm 9)),zu 11 (zmv 10),zug 12 (zfa 66 3 0) 11 false false,zug 13 (zld 3 12) 11 false false,zug 14 (zcf 85 [Tm 13,Kn 0,Kn 600] [3,3,3]) 11 false false,zug 15 (.unOp .not 4 (Tm 14)) 11 false false,zv 16 (.pick (Tm 11) (.const (.bool true)) (Tm 15))]
def zn38_7:=ZC.reg [zv 4 (.assign (.const (.bool false)))]
def zn38_10:=ZC.reg [zv 5 (.assign (Kn 0))]
def zn38_15:=ZC.reg [zu 17 (zmv 5),zv 18 (.binOp .lss 3 (Tm 17) (Kn 16) 3)]
def zn38_20:=ZC.reg [zu 21 (zmv 5),zu 22 (zfa 66 3 2),zu 23 (zia 63 22 21),zu 24 (zld 34 23),zu 6 (.alloc 34),zv0 (.store 34 (Tm 6) (Tm 24))]
def zn38_22:=ZC.reg [zu 25 (zld 34 6),zu 26 (zcf 75 [Tm 25] [34]),zu 27 (.unOp .not 4 (Tm 26)),zu 28 (zmv 27),zug 29 (zfa 34 6 0) 28 false false,zug 30 (zld 3 29) 28 false false,zug 31 (.binOp .neq 3 (Tm 30) (Kn 0) 3) 28 false false,zug 32 (zmv 31) 28 false false,zug 33 (zfa 34 6 1) 32 true false,zug 34 (zld 3 33) 32 true false,zug 35 (zfa 61 2 0) 32 true false,zug 36 (zld 3 35) 32 true false,zug 37 (.binOp .geq 3 (Tm 34) (Tm 36) 3) 32 true false,zug 38 (.pick (Tm 32) (Tm 37) (.const (.bool false))) 28 false false,zu 39 (.pick (Tm 28) (.const (.bool true)) (Tm 38)),zu 40 (zmv 39),zug 41 (zfa 34 6 0) 40 false false,zug 42 (zld 3 41) 40 false false,zug 43 (.binOp .eql 3 (Tm 42) (Kn 1) 3) 40 false false,zug 44 (zmv 5) 40 false false,zug 45 (zfa 61 2 0) 40 false false,zug 46 (zld 3 45) 40 false false,zug 47 (.binOp .lss 3 (Tm 44) (Tm 46) 3) 40 false false,zug 48 (.binOp .neq 4 (Tm 43) (Tm 47) 4) 40 false false,zu 49 (.pick (Tm 40) (.const (.bool true)) (Tm 48)),zu 50 (zmv 49),zug 51 (zmv 5) 50 false false,zug 52 (zfa 61 2 0) 50 false false,zug 53 (zld 3 52) 50 false false,zug 54 (.binOp .lss 3 (Tm 51) (Tm 53) 3) 50 false false,zug 55 (zmv 54) 50 false false,zug 56 (zfa 34 6 1) 55 true false,zug 57 (zld 3 56) 55 true false,zug 58 (zmv 5) 55 true false,zug 59 (.binOp .neq 3 (Tm 57) (Tm 58) 3) 55 true false,zug 60 (.pick (Tm 55) (Tm 59) (.const (.bool false))) 50 false false,zv 61 (.pick (Tm 50) (.const (.bool true)) (Tm 60))]
def zn38_25:=ZC.reg [zv 4 (.assign (.const (.bool false)))]
def zn38_26:=ZC.reg [zu 19 (zmv 5),zu 20 (.binOp .add 3 (Tm 19) (Kn 1) 3),zv 5 (zas 20)]
def Z12:=ZC.seq (ZC.seq zn38_15 (ZC.cond (Tm 18) ZC.skip (ZC.exit 0))) (ZC.seq (ZC.block 1 (ZC.seq zn38_20 (ZC.seq zn38_22 (ZC.cond (Tm 61) (ZC.seq zn38_25 ZC.ret) ZC.skip)))) zn38_26)
def zn38_29:=ZC.reg [zv 7 (.assign (Kn 0))]
def zn38_34:=ZC.reg [zu 62 (zmv 7),zv 63 (.binOp .lss 3 (Tm 62) (Kn 8) 3)]
def zn38_39:=ZC.reg [zu 66 (zmv 7),zu 67 (zfa 66 3 3),zu 68 (zia 64 67 66),zu 69 (zld 3 68),zu 70 (zcf 85 [Tm 69,Kn 0,Kn 2147483647] [3,3,3]),zu 71 (.unOp .not 4 (Tm 70)),zu 72 (zmv 71),zug 73 (zmv 7) 72 false false,zug 74 (zfa 61 2 0) 72 false false,zug 75 (zld 3 74) 72 false false,zug 76 (.binOp .geq 3 (Tm 73) (Tm 75) 3) 72 false false,zug 77 (zmv 76) 72 false false,zug 78 (zmv 7) 77 true false,zug 79 (zfa 66 3 3) 77 true false,zug 80 (zia 64 79 78) 77 true false,zug 81 (zld 3 80) 77 true false,zug 82 (.binOp .neq 3 (Tm 81) (Kn 0) 3) 77 true false,zug 83 (.pick (Tm 77) (Tm 82) (.const (.bool false))) 72 false false,zv 84 (.pick (Tm 72) (.const (.bool true)) (Tm 83))]
def zn38_42:=ZC.reg [zv 4 (.assign (.const (.bool false)))]
def zn38_43:=ZC.reg [zu 64 (zmv 7),zu 65 (.binOp .add 3 (Tm 64) (Kn 1) 3),zv 7 (zas 65)]
def K18:=ZC.seq (ZC.seq zn38_34 (ZC.cond (Tm 63) ZC.skip (ZC.exit 2))) (ZC.seq (ZC.block 3 (ZC.seq zn38_39 (ZC.cond (Tm 84) (ZC.seq zn38_42 ZC.ret) ZC.skip))) zn38_43)
def zn38_45:=ZC.reg [zv 4 (.assign (.const (.bool true)))]
def zn38_0:=ZC.seq zn38_1 (ZC.seq (ZC.seq zn38_4 (ZC.cond (Tm 16) (ZC.seq zn38_7 ZC.ret) ZC.skip)) (ZC.seq (ZC.seq zn38_10 (ZC.block 0 (ZC.loop Z12))) (ZC.seq (ZC.seq zn38_29 (ZC.block 2 (ZC.loop K18))) (ZC.seq zn38_45 ZC.ret))))
def zc38: ZC:=zn38_0
theorem zc38_ok: zcode (xfOf Try.f38).code=some zc38:=by kernel_rfl
def zw38:=zU C zc38.eq_1<|zU C zn38_1.eq_1<|zU C zn38_4.eq_1<|zU C zn38_7.eq_1<|zU C zn38_10.eq_1<|zU C zn38_15.eq_1<|zU C zn38_20.eq_1<|zU C zn38_22.eq_1<|zU C zn38_25.eq_1<|zU C zn38_26.eq_1<|zU C Z12.eq_1<|zU C zn38_29.eq_1<|zU C zn38_34.eq_1<|zU C zn38_39.eq_1<|zU C zn38_42.eq_1<|zU C zn38_43.eq_1<|zU C K18.eq_1<|zU C zn38_45.eq_1<|(zunf C zn38_0.eq_1)
theorem rs38: (xfOf Try.f38).rs=[.tmp 4]:=by kernel_rfl
def xf38:=zF C 38 Try.f38
end Go.Proofs.Ytpchcfkebljopaa
end
section
namespace Go.Proofs.Ytpchcfkebljopaa
open Go.Cl Go Go.RowKit
set_option linter.constructorNameAsVariable false
def bucketR(r d:Nat): Bool:=(f64.order r 0==some .gt || f64.order r 0==some .eq)&&(f64.order r 9218868437227405311==some .lt || f64.order r 9218868437227405311==some .eq)&&(f64.order d 4607182418800017408==some .gt || f64.order d 4607182418800017408==some .eq)&&(f64.order d 4652007308841189376==some .lt || f64.order d 4652007308841189376==some .eq)
theorem absF_mod(n:Nat): absF n=n % 2^63:=by
 unfold absF
 have h:(BitVec.ofInt IntKind.u64.bits (n:Int) &&&~~~BitVec.ofInt IntKind.u64.bits (9223372036854775808:Int)).toNat=n % 2^63:=by
  show(BitVec.ofInt 64 (n:Int) &&&~~~BitVec.ofInt 64 (9223372036854775808:Int)).toNat=n % 2^63
  have e:(~~~BitVec.ofInt 64 (9223372036854775808:Int))=BitVec.ofNat 64 (2^63-1):=by decide
  rw[e,BitVec.toNat_and]
  have e1:(BitVec.ofInt 64 (n:Int)).toNat=n % 2^64:=by simp
  rw[e1]
  have e2:(BitVec.ofNat 64 (2^63-1)).toNat=2^63-1:=by decide
  rw[e2,Nat.and_two_pow_sub_one_eq_mod]
  omega
 rw[h]
 have h2:n % 2^63<2^63:=Nat.mod_lt _ (by decide)
 have e3:IntKind.u64.wrap ((n % 2^63:Nat):Int)=((n % 2^63:Nat):Int):=by
  generalize n % 2^63=m at h2
  show((m:Int) % 2^64:Int)=m
  omega
 rw[e3,Int.toNat_natCast]
theorem X02{x:Nat}{s:Bool}{m:Nat}{i:Int}(h:f64.read x=.number s m i): m<2^53/\-1074<=i/\i<=971:=by
 have e1:f64.binade=2^52:=rfl
 have e2:f64.infRung=2047*2^52:=rfl
 have e3:f64.leastPlace=-1074:=rfl
 unfold Ieee.Format.read at h
 simp only[e1,e2,e3]at h
 generalize x % f64.signWeight=r at h
 split at h
 ·simp only[Ieee.Datum.number.injEq]at h;omega
 ·split at h
  ·simp only[Ieee.Datum.number.injEq]at h;omega
  ·split at h<;>cases h
theorem read_max: f64.read 9218868437227405311=.number false (2^53-1) 971:=by decide
theorem V19{s:Bool}{m:Nat}{i:Int}(hm:m<2^53)(hi:i<=971): Ieee.Datum.order (.number s m i) (.number false (2^53-1) 971)≠some .gt:=by
 have e:min i 971=i:=by omega
 simp only[Ieee.Datum.order,e,ne_eq,Option.some.injEq]
 have hle:Ieee.signed s m (i-i).toNat<=Ieee.signed false (2^53-1) (971-i).toNat:=by
  have e0:(i-i).toNat=0:=by omega
  rw[e0]
  unfold Ieee.signed
  simp only[Nat.shiftLeft_eq,Nat.pow_zero,Nat.mul_one,Bool.false_eq_true,if_false]
  have hp:1<=2^(971-i).toNat:=Nat.one_le_two_pow
  have hk:2^53-1<=(2^53-1)*2^(971-i).toNat:=Nat.le_mul_of_pos_right _ hp
  split<;>omega
 intro hc
 have:=Int.compare_eq_gt.1 hc
 omega
theorem read_abs(n:Nat): f64.read (absF n)=match f64.read n with|.number _ m i=>.number false m i|.infinity _=>.infinity false|.nan _ t=>.nan false t:=by
 rw[absF_mod]
 have e1:f64.signWeight=2^63:=rfl
 unfold Ieee.Format.read
 simp only[e1,Nat.mod_mod]
 have e4:((n % 2^63)/2^63 % 2==1)=false:=by
  rw[Nat.div_eq_of_lt (Nat.mod_lt _ (by decide))];rfl
 rw[e4]
 generalize n % 2^63=r
 by_cases h1:r<f64.binade
 ·rw[if_pos h1,if_pos h1]
 ·rw[if_neg h1,if_neg h1]
  by_cases h2:r<f64.infRung
  ·rw[if_pos h2,if_pos h2]
  ·rw[if_neg h2,if_neg h2]
   by_cases h3:r=f64.infRung
   ·rw[if_pos h3,if_pos h3]
   ·rw[if_neg h3,if_neg h3]
theorem order_self(s:Bool)(m:Nat)(i:Int): Ieee.Datum.order (.number s m i) (.number s m i)=some .eq:=by
 simp only[Ieee.Datum.order,Option.some.injEq]
 exact Int.compare_eq_eq.2 rfl
theorem X0t(s:Bool)(m:Nat)(i:Int)(t:Bool)(n:Nat)(j:Int): ∃o,Ieee.Datum.order (.number s m i) (.number t n j)=some o:=⟨_,rfl⟩
theorem bucketR_eq(r d:Nat): bucketR r d=bucketOk r d:=by
 have c0:f64.read 0=.number false 0 (-1074):=by decide
 have c1:f64.read 4607182418800017408=.number false (2^52) (-52):=by decide
 have c2:∃m i,f64.read 4652007308841189376=.number false m i:=⟨_,_,rfl⟩
 obtain⟨m2,i2,c2⟩:=c2
 have cm:=read_max
 have ha:=read_abs r
 have hb:=read_abs d
 have hr:=@V19
 unfold bucketR bucketOk oddF nanF infF
 simp only[Ieee.Format.order,c0,c1,c2,cm,ha,hb]
 cases hR:f64.read r with
 |nan s t=>simp[Ieee.Datum.order]
 |infinity s=>cases s<;>simp[Ieee.Datum.order]
 |number s m i=>
  have nr:=V19 (s:=s) (X02 hR).1 (X02 hR).2.2
  have nr2:=V19 (s:=false) (X02 hR).1 (X02 hR).2.2
  cases hD:f64.read d with
  |nan s t=>simp[Ieee.Datum.order]
  |infinity s=>cases s<;>simp[Ieee.Datum.order]
  |number s' m' i'=>
   have nd:=V19 (s:=false) (X02 hD).1 (X02 hD).2.2
   simp only[order_self]
   obtain⟨o1,h1⟩:=X0t s m i false 0 (-1074)
   obtain⟨o2,h2⟩:=X0t s m i false (2^53-1) 971
   obtain⟨o3,h3⟩:=X0t false m i false (2^53-1) 971
   obtain⟨o4,h4⟩:=X0t s' m' i' false (2^52) (-52)
   obtain⟨o5,h5⟩:=X0t s' m' i' false m2 i2
   obtain⟨o6,h6⟩:=X0t false m' i' false (2^53-1) 971
   rw[h2]at nr
   rw[h3]at nr2
   rw[h6]at nd
   rw[h1,h2,h3,h4,h5,h6]
   clear h1 h2 h3 h4 h5 h6
   cases o1<;>cases o2<;>first|(exact absurd rfl nr)|(cases o3<;>first|(exact absurd rfl nr2)|(cases o6<;>first|(exact absurd rfl nd)|(cases o4<;>cases o5<;>rfl)))
end Go.Proofs.Ytpchcfkebljopaa
end
section
namespace Go.Proofs.Ytpchcfkebljopaa
open Go.Cl Go Go.RowKit
set_option maxRecDepth 100000
set_option linter.constructorNameAsVariable false
theorem V1p(x y:Int): within (y-x) (-32) 32=within (x-y) (-32) 32:=by
 unfold within
 have h1:(-32<=y-x)=(x-y<=32):=by apply propext;omega
 have h2:(y-x<=32)=(-32<=x-y):=by apply propext;omega
 simp only[h1,h2,Bool.and_comm]
theorem within_b(n:Int): within n 0 4095=decide (brought n 0 4095=n):=by
 unfold within brought
 by_cases h:0<=n/\n<=4095
 ·rw[decide_eq_true h.1,decide_eq_true h.2,decide_eq_true (by omega)];rfl
 ·rw[decide_eq_false (show ¬(_=n) by omega)]
  by_cases h0:0<=n
  ·rw[decide_eq_true h0,decide_eq_false (show ¬n<=4095 by omega)];rfl
  ·rw[decide_eq_false h0];rfl
def J145(s:V0a)(p:Hp)(n:Nat)(ρ:Env)(q:Hp): Prop:=
 ∃(k:Nat),n=16-k/\k<=16/\ρ 1=.ptr p.n []/\ρ 3=I (freeN (s.Bodies.take k))/\ρ 4=I k/\q.t.get p.n=some (.var sh66 s.cv)/\freeN (s.Bodies.take k)<=k/\p.n<q.n/\HpLe p q
def R141: Rel:=fun args p r=>∃(n:Int),args=[I n]/\r=.ret (U (seedOf n)) p
theorem t141{T:XCall}(h:Has T 141 R141)(n:Int){p:Hp}:T 141 [I n] p=.ret (U (seedOf n)) p:=h _ _ _ ⟨n,rfl,rfl⟩
theorem zq141{A B:Prop}(k:B)(h:A=B:=by have zy:=zA @zw141<|zA @rs141<|zA @tt3<|zA @tt25<|zA ti3.eq_1<|ti25.eq_1;exact zQ): A:=h▸k
theorem zno141{P:Prop}(h:P:=by intro jj;simp[CV.has,CV.hasL,fault,K0b.nohas]): P:=h
theorem c141: Con C 141 R141:=by
 refine V0e C ?_ ?_ ?_
 ·rintro args p r r' ⟨n,h,e⟩ ⟨n',h',e'⟩
  subst e;subst e';simp_all
 ·rintro args p r ⟨n,h,rfl⟩;exact zr1
 rintro args p r ⟨n,rfl,rfl⟩
 refine zW C false [] zT rfl xf141 zc141_ok fun call zh hF=>?_
 clear zh
 (have zx:=zT;refine zq141 ?_;try exact zT)
 repeat'(apply zK.s<;>intro hc<;>(try simp only[zhd]at hc)<;>(try have hw:=K0a hc)<;>(refine zq141 ?_;try exact zT))
 all_goals(try clear zx)
 exact K0d hF zle (Q0c rfl (Z0c zno141))
def R142: Rel:=fun args p r=>∃(o k:Int),args=[I o,I k]/\r=.ret (bodyBorn o k).cv p
theorem t142{T:XCall}(h:Has T 142 R142)(o k:Int){p:Hp}:T 142 [I o,I k] p=.ret (bodyBorn o k).cv p:=h _ _ _ ⟨o,k,rfl,rfl⟩
theorem zq142{A B:Prop}(k:B)(h:A=B:=by have zy:=zA @zw142<|zA @rs142<|zA @tt3<|zA @tt34<|zA ti3.eq_1<|zA ti34.eq_1<|zA @t_80<|@Q0f;exact zQ): A:=h▸k
theorem zno142{P:Prop}(h:P:=by intro jj;simp[CV.has,CV.hasL,fault,K0b.nohas,Q0a.nohas]): P:=h
theorem c142: Con C 142 R142:=by
 refine V0e C ?_ ?_ ?_
 ·rintro args p r r' ⟨o,k,h,e⟩ ⟨o',k',h',e'⟩
  subst e;subst e';simp_all[Q0a.inj_iff]
 ·rintro args p r ⟨o,k,h,rfl⟩;exact zr1
 rintro args p r ⟨o,k,rfl,rfl⟩
 refine zW C false [(80,R80)] ⟨c80,zT⟩ rfl xf142 zc142_ok fun call zh hF=>?_
 have t_80:=@t80 _ zh.1
 clear zh
 have k1:=K0g (n:=k) (lo:=1) (hi:=8) (by omega)
 have k2:=K0g (n:=o) (lo:=0) (hi:=brought k 1 8-1) (by omega)
 (have zx:=zT;refine zq142 ?_;try exact zT)
 repeat'(apply zK.s<;>intro hc<;>(try simp only[zhd]at hc)<;>(try have hw:=K0a hc)<;>(refine zq142 ?_;try exact zT))
 all_goals(try clear zx)
 refine K0d hF zle (Q0c ?_ (Z0c zno142))
 rfl
def R144: Rel:=fun args p r=>∃(b:Q0a) (x y:Int),args=[b.cv,I x,I y]/\r=.ret (bodyPush b x y).cv p
theorem t144{T:XCall}(h:Has T 144 R144)(b:Q0a)(x y:Int){p:Hp}:T 144 [b.cv,I x,I y] p=.ret (bodyPush b x y).cv p:=h _ _ _ ⟨b,x,y,rfl,rfl⟩
theorem zq144{A B:Prop}(k:B)(h:A=B:=by have zy:=zA @zw144<|zA @rs144<|zA @tt3<|zA @tt34<|zA ti3.eq_1<|zA ti34.eq_1<|zA @t_75<|zA @t_80<|@Q0f;exact zQ): A:=h▸k
theorem zno144{P:Prop}(h:P:=by intro jj;simp[CV.has,CV.hasL,fault,K0b.nohas,Q0a.nohas]): P:=h
theorem c144: Con C 144 R144:=by
 refine V0e C ?_ ?_ ?_
 ·rintro args p r r' ⟨b,x,y,h,e⟩ ⟨b',x',y',h',e'⟩
  subst e;subst e';simp_all[Q0a.inj_iff]
 ·rintro args p r ⟨b,x,y,h,rfl⟩;exact zr1
 rintro args p r ⟨b,x,y,rfl,rfl⟩
 refine zW C false [(75,R75),(80,R80)] ⟨c75,c80,zT⟩ rfl xf144 zc144_ok fun call zh hF=>?_
 have t_75:=@t75 _ zh.1
 have t_80:=@t80 _ zh.2.1
 clear zh
 have k1:=K0g (n:=x) (lo:=-1000) (hi:=1000) (by omega)
 have k2:=K0g (n:=y) (lo:=-1000) (hi:=1000) (by omega)
 by_cases hb:Body.right b=true
 ·by_cases hk:b.Kind=0
  ·(have zx:=zA hb hk;refine zq144 ?_;try exact zT)
   repeat'(apply zK.s<;>intro hc<;>(try simp only[zhd]at hc)<;>(try have hw:=K0a hc)<;>(refine zq144 ?_;try exact zT))
   all_goals(try clear zx)
   refine K0d hF zle (Q0c ?_ (Z0c zno144))
   simp[bodyPush,hb,hk];rfl
  ·have hr:=X0l hb hk
   (have zx:=zA hb hk;refine zq144 ?_;try exact zT)
   repeat'(apply zK.s<;>intro hc<;>(try simp only[zhd]at hc)<;>(try have hw:=K0a hc)<;>(refine zq144 ?_;try exact zT))
   all_goals(try clear zx)
   refine K0d hF zle (Q0c ?_ (Z0c zno144))
   simp[bodyPush,hb,hk]
 ·(have zx:=hb;refine zq144 ?_;try exact zT)
  repeat'(apply zK.s<;>intro hc<;>(try simp only[zhd]at hc)<;>(try have hw:=K0a hc)<;>(refine zq144 ?_;try exact zT))
  all_goals(try clear zx)
  refine K0d hF zle (Q0c ?_ (Z0c zno144))
  simp[bodyPush,hb];rfl
def R146: Rel:=fun args p r=>∃(b:Q0a),args=[b.cv]/\r=.ret (.tup [(bodyMove b).1.cv,Bo (bodyMove b).2]) p
theorem t146{T:XCall}(h:Has T 146 R146)(b:Q0a){p:Hp}:T 146 [b.cv] p=.ret (.tup [(bodyMove b).1.cv,Bo (bodyMove b).2]) p:=h _ _ _ ⟨b,rfl,rfl⟩
theorem zq146{A B:Prop}(k:B)(h:A=B:=by have zy:=zA @zw146<|zA @rs146<|zA @tt3<|zA @tt34<|zA ti3.eq_1<|zA ti34.eq_1<|zA @t_75<|zA @t_80<|@Q0f;exact zQ): A:=h▸k
theorem zno146{P:Prop}(h:P:=by intro jj;simp[CV.has,CV.hasL,fault,K0b.nohas,Q0a.nohas]): P:=h
theorem c146: Con C 146 R146:=by
 refine V0e C ?_ ?_ ?_
 ·rintro args p r r' ⟨b,h,e⟩ ⟨b',h',e'⟩
  subst e;subst e';simp_all[Q0a.inj_iff]
 ·rintro args p r ⟨b,h,rfl⟩;exact zr1
 rintro args p r ⟨b,rfl,rfl⟩
 refine zW C false [(75,R75),(80,R80)] ⟨c75,c80,zT⟩ rfl xf146 zc146_ok fun call zh hF=>?_
 have t_75:=@t75 _ zh.1
 have t_80:=@t80 _ zh.2.1
 clear zh
 by_cases hb:Body.right b=true
 ·by_cases hk:b.Kind=0
  ·(have zx:=zA hb hk;refine zq146 ?_;try exact zT)
   repeat'(apply zK.s<;>intro hc<;>(try simp only[zhd]at hc)<;>(try have hw:=K0a hc)<;>(refine zq146 ?_;try exact zT))
   all_goals(try clear zx)
   refine K0d hF zle (Q0c ?_ (Z0c zno146))
   simp[bodyMove,hb,hk];rfl
  ·have hr:=X0l hb hk
   have hmm:min 600 (b.Age+1)=min (b.Age+1) 600:=by omega
   have wX:=within_b (b.X+b.VX)
   have wY:=within_b (b.Y+b.VY)
   by_cases hk2:b.Kind=2
   ·have hk1:¬b.Kind=1:=by omega
    (have zx:=zA hb (zA hk (zA hk2 hmm));refine zq146 ?_;try exact zT)
    repeat'(apply zK.s<;>intro hc<;>(try simp only[zhd]at hc)<;>(try have hw:=K0a hc)<;>(refine zq146 ?_;try exact zT))
    all_goals(try clear zx)
    all_goals refine K0d hF zle (Q0c ?_ (Z0c zno146))
    all_goals first|(simp[bodyMove,bounce,hb,hk, *];done)|(simp[bodyMove,bounce,hb,hk, *];rfl)
   ·have hk1:b.Kind=1:=by omega
    have nX:w64 (-b.VX)=-b.VX:=Z0l (by omega) (by omega)
    have nY:w64 (-b.VY)=-b.VY:=Z0l (by omega) (by omega)
    (have zx:=zA hb (zA hk (zA hk2 (zA hk1 hmm)));refine zq146 ?_;try exact zT)
    repeat'(apply zK.s<;>intro hc<;>(try simp only[zhd]at hc)<;>(try have hw:=K0a hc)<;>(refine zq146 ?_;try exact zT))
    all_goals(try clear zx)
    all_goals refine K0d hF zle (Q0c ?_ (Z0c zno146))
    all_goals first|(simp[bodyMove,bounce,hb,hk, *];done)|(simp[bodyMove,bounce,hb,hk, *];rfl)
 ·(have zx:=hb;refine zq146 ?_;try exact zT)
  repeat'(apply zK.s<;>intro hc<;>(try simp only[zhd]at hc)<;>(try have hw:=K0a hc)<;>(refine zq146 ?_;try exact zT))
  all_goals(try clear zx)
  refine K0d hF zle (Q0c ?_ (Z0c zno146))
  simp[bodyMove,hb];rfl
def R180: Rel:=fun args p r=>∃(a b:Int),args=[I a,I b]/\(0<=a/\a<=4095)/\(0<=b/\b<=4095)/\r=.ret (Bo (within (a-b) (-32) 32)) p
theorem t180{T:XCall}(h:Has T 180 R180)(a b:Int){p:Hp}(h1:0<=a/\a<=4095)(h2:0<=b/\b<=4095): T 180 [I a,I b] p=.ret (Bo (within (a-b) (-32) 32)) p:=h _ _ _ ⟨a,b,rfl,h1,h2,rfl⟩
theorem zq180{A B:Prop}(k:B)(h:A=B:=by have zy:=zA @zw180<|zA @rs180<|zA @tt3<|zA ti3.eq_1<|zA @h1<|@h2;exact zQ): A:=h▸k
theorem zno180{P:Prop}(h:P:=by intro jj;simp[CV.has,CV.hasL,fault,K0b.nohas]): P:=h
theorem c180: Con C 180 R180:=by
 refine V0e C ?_ ?_ ?_
 ·rintro args p r r' ⟨a,b,h,h1,h2,e⟩ ⟨a',b',h',h1',h2',e'⟩
  subst e;subst e';simp_all
 ·rintro args p r ⟨a,b,h,h1,h2,rfl⟩;exact zr1
 rintro args p r ⟨a,b,rfl,h1,h2,rfl⟩
 refine zW C false [] zT rfl xf180 zc180_ok fun call zh hF=>?_
 clear zh
 by_cases g1:a-b<=32
 ·by_cases g2:b-a<=32
  ·have hw:within (a-b) (-32) 32=true:=by simp[within];omega
   (have zx:=zA g1 g2;refine zq180 ?_;try exact zT)
   repeat'(apply zK.s<;>intro hc<;>(try simp only[zhd]at hc)<;>(try have hw:=K0a hc)<;>(refine zq180 ?_;try exact zT))
   all_goals(try clear zx)
   exact K0d hF zle (Q0c (by rw[hw]) (Z0c zno180))
  ·have hw:within (a-b) (-32) 32=false:=by simp[within];omega
   (have zx:=zA g1 g2;refine zq180 ?_;try exact zT)
   repeat'(apply zK.s<;>intro hc<;>(try simp only[zhd]at hc)<;>(try have hw:=K0a hc)<;>(refine zq180 ?_;try exact zT))
   all_goals(try clear zx)
   exact K0d hF zle (Q0c (by rw[hw]) (Z0c zno180))
 ·have hw:within (a-b) (-32) 32=false:=by simp[within];omega
  (have zx:=g1;refine zq180 ?_;try exact zT)
  repeat'(apply zK.s<;>intro hc<;>(try simp only[zhd]at hc)<;>(try have hw:=K0a hc)<;>(refine zq180 ?_;try exact zT))
  all_goals(try clear zx)
  exact K0d hF zle (Q0c (by rw[hw]) (Z0c zno180))
def R147: Rel:=fun args p r=>∃(a b:Q0a),args=[a.cv,b.cv]/\r=.ret (Bo (bodyHit a b)) p
theorem t147{T:XCall}(h:Has T 147 R147)(a b:Q0a){p:Hp}:T 147 [a.cv,b.cv] p=.ret (Bo (bodyHit a b)) p:=h _ _ _ ⟨a,b,rfl,rfl⟩
theorem zq147{A B:Prop}(k:B)(h:A=B:=by have zy:=zA @zw147<|zA @rs147<|zA @tt3<|zA @tt34<|zA ti3.eq_1<|zA ti34.eq_1<|zA @t_75<|zA @t_180<|@Q0f;exact zQ): A:=h▸k
theorem zno147{P:Prop}(h:P:=by intro jj;simp[CV.has,CV.hasL,fault,K0b.nohas,Q0a.nohas]): P:=h
theorem c147: Con C 147 R147:=by
 refine V0e C ?_ ?_ ?_
 ·rintro args p r r' ⟨a,b,h,e⟩ ⟨a',b',h',e'⟩
  subst e;subst e';simp_all[Q0a.inj_iff]
 ·rintro args p r ⟨a,b,h,rfl⟩;exact zr1
 rintro args p r ⟨a,b,rfl,rfl⟩
 refine zW C false [(75,R75),(180,R180)] ⟨c75,c180,zT⟩ rfl xf147 zc147_ok fun call zh hF=>?_
 have t_75:=@t75 _ zh.1
 have t_180:=@t180 _ zh.2.1
 clear zh
 by_cases h1:Body.right a=true
 ·by_cases h2:Body.right b=true
  ·by_cases h3:a.Kind=0
   ·(have zx:=zA h1 (zA h2 h3);refine zq147 ?_;try exact zT)
    repeat'(apply zK.s<;>intro hc<;>(try simp only[zhd]at hc)<;>(try have hw:=K0a hc)<;>(refine zq147 ?_;try exact zT))
    all_goals(try clear zx)
    all_goals refine K0d hF zle (Q0c ?_ (Z0c zno147))
    all_goals simp[bodyHit,bodyStrikes, *]
   ·by_cases h4:b.Kind=0
    ·(have zx:=zA h1 (zA h2 (zA h3 h4));refine zq147 ?_;try exact zT)
     repeat'(apply zK.s<;>intro hc<;>(try simp only[zhd]at hc)<;>(try have hw:=K0a hc)<;>(refine zq147 ?_;try exact zT))
     all_goals(try clear zx)
     all_goals refine K0d hF zle (Q0c ?_ (Z0c zno147))
     all_goals(try split)<;>simp[bodyHit,bodyStrikes, *]
    ·have r1:=X0l h1 h3
     have r2:=X0l h2 h4
     have sx:=V1p a.X b.X
     have sy:=V1p a.Y b.Y
     have so:(b.Owner=a.Owner)=(a.Owner=b.Owner):=propext eq_comm
     (have zx:=zA h1 h2;refine zq147 ?_;try exact zT)
     repeat'(apply zK.s<;>intro hc<;>(try simp only[zhd]at hc)<;>(try have hw:=K0a hc)<;>(refine zq147 ?_;try exact zT))
     all_goals(try clear zx)
     all_goals refine K0d hF zle (Q0c ?_ (Z0c zno147))
     all_goals(try split)<;>simp[bodyHit,bodyStrikes, *]
  ·(have zx:=zA h1 h2;refine zq147 ?_;try exact zT)
   repeat'(apply zK.s<;>intro hc<;>(try simp only[zhd]at hc)<;>(try have hw:=K0a hc)<;>(refine zq147 ?_;try exact zT))
   all_goals(try clear zx)
   all_goals refine K0d hF zle (Q0c ?_ (Z0c zno147))
   all_goals simp[bodyHit,bodyStrikes, *]
 ·(have zx:=h1;refine zq147 ?_;try exact zT)
  repeat'(apply zK.s<;>intro hc<;>(try simp only[zhd]at hc)<;>(try have hw:=K0a hc)<;>(refine zq147 ?_;try exact zT))
  all_goals(try clear zx)
  all_goals refine K0d hF zle (Q0c ?_ (Z0c zno147))
  all_goals simp[bodyHit,bodyStrikes, *]
def R143: Rel:=fun args p r=>∃(row:Lst V0b) (o:Int),args=[row.cv V0b.cv,I o]/\(0<=o)/\r=.ret (rowInput row.l o).cv p
theorem t143{T:XCall}(h:Has T 143 R143)(row:Lst V0b)(o:Int){p:Hp}(h2:0<=o): T 143 [row.cv V0b.cv,I o] p=.ret (rowInput row.l o).cv p:=h _ _ _ ⟨row,o,rfl,h2,rfl⟩
theorem zq143{A B:Prop}(k:B)(h:A=B:=by have zy:=zA @zw143<|zA @rs143<|zA @tt3<|zA @tt36<|zA @tt108<|zA @tt110<|zA ti3.eq_1<|zA ti36.eq_1<|zA ti108.eq_1<|zA ti110.eq_1<|zA @t_80<|zA @Z0o<|zA @Y04<|zA @zsl108<|@h2;exact zQ): A:=h▸k
theorem zno143{P:Prop}(h:P:=by intro jj;simp[CV.has,CV.hasL,fault,K0b.nohas,Z0a.nohas,V0b.nohas]): P:=h
theorem c143: Con C 143 R143:=by
 refine V0e C ?_ ?_ ?_
 ·rintro args p r r' ⟨row,o,h,h2,e⟩ ⟨row',o',h',h2',e'⟩
  subst e;subst e';simp_all[Z0a.inj_iff,V0b.inj_iff,Z05]
 ·rintro args p r ⟨row,o,h,h2,rfl⟩;exact zr1
 rintro args p r ⟨row,o,rfl,h2,rfl⟩
 refine zW C false [(80,R80)] ⟨c80,zT⟩ rfl xf143 zc143_ok fun call zh hF=>?_
 have t_80:=@t80 _ zh.1
 clear zh
 by_cases h:(row.l.length:Int)<=o
 ·(have zx:=h;refine zq143 ?_;try exact zT)
  repeat'(apply zK.s<;>intro hc<;>(try simp only[zhd]at hc)<;>(try have hw:=K0a hc)<;>(refine zq143 ?_;try exact zT))
  all_goals(try clear zx)
  refine K0d hF zle (Q0c ?_ (Z0c zno143))
  simp[rowInput,h];rfl
 ·(have zx:=h;refine zq143 ?_;try exact zT)
  repeat'(apply zK.s<;>intro hc<;>(try simp only[zhd]at hc)<;>(try have hw:=K0a hc)<;>(refine zq143 ?_;try exact zT))
  all_goals(try clear zx)
  refine K0d hF zle (Q0c ?_ (Z0c zno143))
  simp[rowInput,h];rfl
def R145: Rel:=fun args p r=>∃(s:V0a),args=[s.cv]/\r=.ret (I (freeN s.Bodies)) p
theorem t145{T:XCall}(h:Has T 145 R145)(s:V0a){p:Hp}:T 145 [s.cv] p=.ret (I (freeN s.Bodies)) p:=h _ _ _ ⟨s,rfl,rfl⟩
theorem zq145{A B:Prop}(k:B)(h:A=B:=by have zy:=zA @zw145<|zA @rs145<|zA @tt3<|zA @tt34<|zA @tt63<|zA @tt66<|zA ti3.eq_1<|zA ti34.eq_1<|zA ti63.eq_1<|zA ti66.eq_1<|zA @X0f<|zA @Q0f<|@zsl63;exact zQ): A:=h▸k
theorem zno145{P:Prop}(h:P:=by intro jj;simp[CV.has,CV.hasL,fault,K0b.nohas,V0a.nohas,Q0a.nohas]): P:=h
theorem zge145{P:Prop}(h:P:=by simp (disch:=first|exact zdl|fail) only[zheap];first|done|rfl): P:=h
theorem c145: Con C 145 R145:=by
 refine V0e C ?_ ?_ ?_
 ·rintro args p r r' ⟨s,h,e⟩ ⟨s',h',e'⟩
  subst e;subst e';simp_all[V0a.inj_iff,Q0a.inj_iff]
 ·rintro args p r ⟨s,h,rfl⟩;exact zr1
 rintro args p r ⟨s,rfl,rfl⟩
 refine zW C false [] zT rfl xf145 zc145_ok fun call zh hF=>?_
 clear zh
 have hb:=s.hBodies
 (have zx:=zT;refine zq145 ?_;try exact zT)
 repeat'(apply zK.s<;>intro hc<;>(try simp only[zhd]at hc)<;>(try have hw:=K0a hc)<;>(refine zq145 ?_;try exact zT))
 all_goals(try clear zx)
 (show W C false noExt call (ZC.loop X16) _ _ _);refine Y0g C false noExt call X16 _ _ _ (J145 s p) 16 ⟨0,rfl,by omega,(by simp[put_at,K0c,K0e]),by simp[put_at,K0c,freeN],(by simp[put_at,K0c,K0e]),zge145,by simp[freeN],zb9,zle⟩ ?_
 rintro n ρ q ⟨k,rfl,hk,e1,e3,e4,g1,hfr,hn,hle⟩
 by_cases hlt:(k:Int)<16
 ·have hs:=freeN_take (l:=s.Bodies) (k:=k) (by omega)
  by_cases h0:(nth s.Bodies k).Kind=0
  ·rw[if_pos h0]at hs
   (have zx:=zA e1 (zA e3 (zA e4 (zA g1 (zA hlt h0))));refine zq145 ?_;try exact zT)
   repeat'(apply zK.s<;>intro hc<;>(try simp only[zhd]at hc)<;>(try have hw:=K0a hc)<;>(refine zq145 ?_;try exact zT))
   all_goals(try clear zx)
   exact⟨16-(k+1),by omega,k+1,rfl,by omega,zev,by simp[put_at,K0c,hs],zev,g1,by omega,hn,hle⟩
  ·rw[if_neg h0]at hs
   (have zx:=zA e1 (zA e3 (zA e4 (zA g1 (zA hlt h0))));refine zq145 ?_;try exact zT)
   repeat'(apply zK.s<;>intro hc<;>(try simp only[zhd]at hc)<;>(try have hw:=K0a hc)<;>(refine zq145 ?_;try exact zT))
   all_goals(try clear zx)
   exact⟨16-(k+1),by omega,k+1,rfl,by omega,zev,by simp[put_at,K0c,e3,hs],zev,g1,by omega,hn,hle⟩
 ·have hk16:k=16:=by omega
  subst hk16
  have ht:s.Bodies.take 16=s.Bodies:=List.take_of_length_le (by omega)
  rw[ht]at e3 hfr
  (have zx:=zA e1 (zA e3 (zA e4 (zA g1 hlt)));refine zq145 ?_;try exact zT)
  repeat'(apply zK.s<;>intro hc<;>(try simp only[zhd]at hc)<;>(try have hw:=K0a hc)<;>(refine zq145 ?_;try exact zT))
  all_goals(try clear zx)
  exact K0d hF zlq (Q0c rfl (Z0c zno145))
def R162: Rel:=fun args p r=>∃(ra de:Nat),args=[Fl ra,Fl de]/\r=.ret (Bo (bucketOk ra de)) p
theorem t162{T:XCall}(h:Has T 162 R162)(ra de:Nat){p:Hp}:T 162 [Fl ra,Fl de] p=.ret (Bo (bucketOk ra de)) p:=h _ _ _ ⟨ra,de,rfl,rfl⟩
theorem zq162{A B:Prop}(k:B)(h:A=B:=by have zy:=zA @zw162<|zA @rs162<|zA @tt59<|ti59.eq_1;exact zQf): A:=h▸k
theorem zno162{P:Prop}(h:P:=by intro jj;simp[CV.has,CV.hasL,fault,K0b.nohas]): P:=h
theorem c162: Con C 162 R162:=by
 refine V0e C ?_ ?_ ?_
 ·rintro args p r r' ⟨ra,de,h,e⟩ ⟨ra',de',h',e'⟩
  subst e;subst e';simp_all
 ·rintro args p r ⟨ra,de,h,rfl⟩;exact zr1
 rintro args p r ⟨ra,de,rfl,rfl⟩
 refine zW C false [] zT rfl xf162 zc162_ok fun call zh hF=>?_
 clear zh
 rw[<- bucketR_eq]
 cases e1:(FloatKind.f64.format.order ra 0==some Ordering.gt || FloatKind.f64.format.order ra 0==some Ordering.eq) with
 |false=>
  (have zx:=e1;refine zq162 ?_;try exact zT)
  repeat'(apply zK.s<;>intro hc<;>(try simp only[zhd]at hc)<;>(try have hw:=K0a hc)<;>(refine zq162 ?_;try exact zT))
  all_goals(try clear zx)
  exact K0d hF zle (Q0c (by unfold bucketR;rw[e1];rfl) (Z0c zno162))
 |true=>
  cases e2:(FloatKind.f64.format.order ra 9218868437227405311==some Ordering.lt || FloatKind.f64.format.order ra 9218868437227405311==some Ordering.eq) with
  |false=>
   (have zx:=zA e1 e2;refine zq162 ?_;try exact zT)
   repeat'(apply zK.s<;>intro hc<;>(try simp only[zhd]at hc)<;>(try have hw:=K0a hc)<;>(refine zq162 ?_;try exact zT))
   all_goals(try clear zx)
   exact K0d hF zle (Q0c (by unfold bucketR;rw[e1,e2];rfl) (Z0c zno162))
  |true=>
   cases e3:(FloatKind.f64.format.order de 4607182418800017408==some Ordering.gt || FloatKind.f64.format.order de 4607182418800017408==some Ordering.eq) with
   |false=>
    (have zx:=zA e1 (zA e2 e3);refine zq162 ?_;try exact zT)
    repeat'(apply zK.s<;>intro hc<;>(try simp only[zhd]at hc)<;>(try have hw:=K0a hc)<;>(refine zq162 ?_;try exact zT))
    all_goals(try clear zx)
    exact K0d hF zle (Q0c (by unfold bucketR;rw[e1,e2,e3];rfl) (Z0c zno162))
   |true=>
    cases e4:(FloatKind.f64.format.order de 4652007308841189376==some Ordering.lt || FloatKind.f64.format.order de 4652007308841189376==some Ordering.eq) with
    |false=>
     (have zx:=zA e1 (zA e2 (zA e3 e4));refine zq162 ?_;try exact zT)
     repeat'(apply zK.s<;>intro hc<;>(try simp only[zhd]at hc)<;>(try have hw:=K0a hc)<;>(refine zq162 ?_;try exact zT))
     all_goals(try clear zx)
     exact K0d hF zle (Q0c (by unfold bucketR;rw[e1,e2,e3,e4];rfl) (Z0c zno162))
    |true=>
     (have zx:=zA e1 (zA e2 (zA e3 e4));refine zq162 ?_;try exact zT)
     repeat'(apply zK.s<;>intro hc<;>(try simp only[zhd]at hc)<;>(try have hw:=K0a hc)<;>(refine zq162 ?_;try exact zT))
     all_goals(try clear zx)
     exact K0d hF zle (Q0c (by unfold bucketR;rw[e1,e2,e3,e4];rfl) (Z0c zno162))
def J97(c:X0a)(p:Hp)(n:Nat)(ρ:Env)(q:Hp): Prop:=
 ∃(i:Nat),n=c.Tokens.l.length-i/\i<=c.Tokens.l.length/\ρ 1=.ptr p.n []/\ρ 3=I i/\q.t.get p.n=some (.var sh61 c.cv)/\tokGo (c.Tokens.l.take i) (c.Tokens.l.drop i)=tokGo [] c.Tokens.l/\p.n<q.n/\HpLe p q
def L97(c:X0a)(p:Hp)(i:Nat)(n:Nat)(ρ:Env)(q:Hp): Prop:=
 ∃(k:Nat),n=i-k/\k<=i/\ρ 1=.ptr p.n []/\ρ 3=I i/\ρ 4=I k/\q.t.get p.n=some (.var sh61 c.cv)/\(∀j,j<k->nth c.Tokens.l j≠nth c.Tokens.l i)/\p.n<q.n/\HpLe p q
def R97: Rel:=fun args p r=>∃(c:X0a),args=[c.cv]/\(c.Tokens.l.length<=1000000)/\(c.Rules.l.length<=1000000)/\r=.ret (Bo (legalC c)) p
theorem t97{T:XCall}(h:Has T 97 R97)(c:X0a){p:Hp}(hl:c.Tokens.l.length<=1000000)(hr:c.Rules.l.length<=1000000): T 97 [c.cv] p=.ret (Bo (legalC c)) p:=h _ _ _ ⟨c,rfl,hl,hr,rfl⟩
theorem zq97{A B:Prop}(k:B)(h:A=B:=by have zy:=zA @zw97<|zA @rs97<|zA @tt3<|zA @tt23<|zA @tt24<|zA @tt59<|zA @tt61<|zA ti3.eq_1<|zA ti23.eq_1<|zA ti24.eq_1<|zA ti59.eq_1<|zA ti61.eq_1<|zA @t_85<|zA @t_162<|zA @t_30<|zA @Z0e<|zA @zsl23<|zA @zsl24<|zA @hl<|@hr;exact zQ): A:=h▸k
theorem zno97{P:Prop}(h:P:=by intro jj;simp[CV.has,CV.hasL,fault,K0b.nohas]): P:=h
theorem zge97{P:Prop}(h:P:=by simp (disch:=first|exact zdl|fail) only[zheap];first|done|rfl): P:=h
theorem c97: Con C 97 R97:=by
 refine V0e C ?_ ?_ ?_
 ·rintro args p r r' ⟨c,h,hl,hr,e⟩ ⟨c',h',hl',hr',e'⟩
  subst e;subst e';simp_all[X0a.inj_iff,V0r,K0s]
 ·rintro args p r ⟨c,h,hl,hr,rfl⟩;exact zr1
 rintro args p r ⟨c,rfl,hl,hr,rfl⟩
 refine zW C false [(85,R85),(162,R162),(30,R30)] ⟨c85,c162,c30,zT⟩ rfl xf97 zc97_ok fun call zh hF=>?_
 have t_85:=@t85 _ zh.1
 have t_162:=@t162 _ zh.2.1
 have t_30:=@t30 _ zh.2.2.1
 clear zh
 (have zx:=zT;refine zq97 ?_;try exact zT)
 repeat'(apply zK.s<;>intro hc<;>(try simp only[zhd]at hc)<;>(try have hw:=K0a hc)<;>(refine zq97 ?_;try exact zT))
 all_goals(try clear zx)
 (show W C false noExt call (ZC.loop zn97_7) _ _ _);refine Y0g C false noExt call zn97_7 _ _ _ (J97 c p) c.Tokens.l.length ⟨0,rfl,by omega,(by simp[put_at,K0c,K0e]),(by simp[put_at,K0c,K0e]),zge97,rfl,(zb9),zle⟩ ?_
 rintro n ρ q ⟨i,rfl,hi,e1,e3,g1,hj,hn,hle⟩
 by_cases hlt:(i:Int)<c.Tokens.l.length
 ·(have zx:=zA e1 (zA e3 (zA g1 hlt));refine zq97 ?_;try exact zT)
  repeat'(apply zK.s<;>intro hc<;>(try simp only[zhd]at hc)<;>(try have hw:=K0a hc)<;>(refine zq97 ?_;try exact zT))
  all_goals(try clear zx)
  (show W C false noExt call (ZC.loop Z19) _ _ _);refine Y0g C false noExt call Z19 _ _ _ (L97 c p i) i ⟨0,rfl,by omega,zev,zev,zev,g1,by omega,hn,hle⟩ ?_
  clear e1 e3 g1 hn hle
  rintro n ρ q ⟨k,rfl,hk,e1,e3,e4,g1,hne,hn,hle⟩
  by_cases hlk:(k:Int)<i
  ·by_cases he:nth c.Tokens.l k=nth c.Tokens.l i
   ·have hf:=tok_in (l:=c.Tokens.l) (i:=i) (k:=k) (by omega) (by omega) he
    rw[hf]at hj
    (have zx:=zA e1 (zA e3 (zA e4 (zA g1 (zA hlk he))));refine zq97 ?_;try exact zT)
    repeat'(apply zK.s<;>intro hc<;>(try simp only[zhd]at hc)<;>(try have hw:=K0a hc)<;>(refine zq97 ?_;try exact zT))
    all_goals(try clear zx)
    refine K0d hF zlq (Q0c ?_ (Z0c zno97))
    simp[legalC,<- hj]
   ·(have zx:=zA e1 (zA e3 (zA e4 (zA g1 (zA hlk he))));refine zq97 ?_;try exact zT)
    repeat'(apply zK.s<;>intro hc<;>(try simp only[zhd]at hc)<;>(try have hw:=K0a hc)<;>(refine zq97 ?_;try exact zT))
    all_goals(try clear zx)
    refine⟨i-(k+1),by omega,k+1,rfl,by omega,zev,zev,zev,by simp only[Hp.bump_get];exact g1,fun j hj=>?_,by simp only[Hp.bump_n];omega,zlq⟩
    by_cases ej:j=k
    ·rw[ej];exact he
    ·exact hne j (by omega)
  ·have hk2:k=i:=by omega
   subst hk2
   have ho:=tok_out (l:=c.Tokens.l) (i:=k) (by omega) hne
   rw[tok_step (by omega),ho]at hj
   cases hw:within (nth c.Tokens.l k) 0 2147483646 with
   |false=>
    rw[hw]at hj
    (have zx:=zA e1 (zA e3 (zA e4 (zA g1 (zA hlk hw))));refine zq97 ?_;try exact zT)
    repeat'(apply zK.s<;>intro hc<;>(try simp only[zhd]at hc)<;>(try have hw:=K0a hc)<;>(refine zq97 ?_;try exact zT))
    all_goals(try clear zx)
    refine K0d hF zlq (Q0c ?_ (Z0c zno97))
    simp[legalC,<- hj]
   |true=>
    rw[hw]at hj
    simp only[Bool.true_and,Bool.not_false]at hj
    (have zx:=zA e1 (zA e3 (zA e4 (zA g1 (zA hlk hw))));refine zq97 ?_;try exact zT)
    repeat'(apply zK.s<;>intro hc<;>(try simp only[zhd]at hc)<;>(try have hw:=K0a hc)<;>(refine zq97 ?_;try exact zT))
    all_goals(try clear zx)
    exact⟨c.Tokens.l.length-(k+1),by omega,k+1,rfl,by omega,zev,zev,g1,hj,hn,hle⟩
 ·have hk2:i=c.Tokens.l.length:=by omega
  rw[hk2,List.drop_eq_nil_of_le (Nat.le_refl _)]at hj
  have hj:tokGo [] c.Tokens.l=true:=hj.symm
  (have zx:=zA e1 (zA e3 (zA g1 hlt));refine zq97 ?_;try exact zT)
  repeat'(apply zK.s<;>intro hc<;>(try simp only[zhd]at hc)<;>(try have hw:=K0a hc)<;>(refine zq97 ?_;try exact zT))
  all_goals(try clear zx)
  all_goals refine K0d hF zlq (Q0c ?_ (Z0c zno97))
  all_goals simp[legalC, *]
def J66(c:X0a)(p:Hp)(n:Nat)(ρ:Env)(q:Hp): Prop:=
 ∃(k:Nat),n=c.Players.toNat-k/\k<=c.Players.toNat/\ρ 1=.ptr p.n []/\ρ 2=.ptr (p.n+1) []/\ρ 3=.ptr (p.n+2) []/\ρ 4=I k/\q.t.get p.n=some (.var sh61 c.cv)/\q.t.get (p.n+1)=some (.var sh66 V0a.zero.cv)/\q.t.get (p.n+2)=some (.var sh66 (firstK c k).cv)/\p.n+2<q.n/\HpLe p q
def R66: Rel:=fun args p r=>∃(c:X0a),args=[c.cv]/\(c.Tokens.l.length<=1000000)/\(c.Rules.l.length<=1000000)/\r=.ret (firstS c).cv p
theorem t66{T:XCall}(h:Has T 66 R66)(c:X0a){p:Hp}(hl:c.Tokens.l.length<=1000000)(hr:c.Rules.l.length<=1000000): T 66 [c.cv] p=.ret (firstS c).cv p:=h _ _ _ ⟨c,rfl,hl,hr,rfl⟩
theorem zq66{A B:Prop}(k:B)(h:A=B:=by have zy:=zA @zw66<|zA @rs66<|zA @tt3<|zA @tt25<|zA @tt34<|zA @tt61<|zA @tt63<|zA @tt66<|zA ti3.eq_1<|zA ti25.eq_1<|zA ti34.eq_1<|zA ti61.eq_1<|zA ti63.eq_1<|zA ti66.eq_1<|zA @t_97<|zA @t_141<|zA @t_142<|zA @Z0e<|zA @X0f<|zA @Q0f<|zA @zsl63<|zA @hl<|@hr;exact zQ): A:=h▸k
theorem zno66{P:Prop}(h:P:=by intro jj;simp[CV.has,CV.hasL,fault,K0b.nohas,V0a.nohas,Q0a.nohas]): P:=h
theorem zge66{P:Prop}(h:P:=by simp (disch:=first|exact zdl|fail) only[zheap];first|done|rfl): P:=h
theorem c66: Con C 66 R66:=by
 refine V0e C ?_ ?_ ?_
 ·rintro args p r r' ⟨c,h,hl,hr,e⟩ ⟨c',h',hl',hr',e'⟩
  subst e;subst e';simp_all[X0a.inj_iff,V0a.inj_iff,Q0a.inj_iff]
 ·rintro args p r ⟨c,h,hl,hr,rfl⟩;exact zr1
 rintro args p r ⟨c,rfl,hl,hr,rfl⟩
 refine zW C false [(97,R97),(141,R141),(142,R142)] ⟨c97,c141,c142,zT⟩ rfl xf66 zc66_ok fun call zh hF=>?_
 have t_97:=@t97 _ zh.1
 have t_141:=@t141 _ zh.2.1
 have t_142:=@t142 _ zh.2.2.1
 clear zh
 cases hL:legalC c with
 |false=>
  (have zx:=hL;refine zq66 ?_;try exact zT)
  repeat'(apply zK.s<;>intro hc<;>(try simp only[zhd]at hc)<;>(try have hw:=K0a hc)<;>(refine zq66 ?_;try exact zT))
  all_goals(try clear zx)
  refine K0d hF zle (Q0c ?_ (Z0c zno66))
  simp[firstS,hL]
 |true=>
  have hP:=(Z0i hL).1
  have hPn:((c.Players.toNat:Nat):Int)=c.Players:=by omega
  (have zx:=hL;refine zq66 ?_;try exact zT)
  repeat'(apply zK.s<;>intro hc<;>(try simp only[zhd]at hc)<;>(try have hw:=K0a hc)<;>(refine zq66 ?_;try exact zT))
  all_goals(try clear zx)
  (show W C false noExt call (ZC.loop Y2b) _ _ _);refine Y0g C false noExt call Y2b _ _ _ (J66 c p) c.Players.toNat ⟨0,rfl,by omega,(by simp[put_at,K0c,K0e]),(by simp[put_at,K0c,K0e]),(by simp[put_at,K0c,K0e]),(by simp[put_at,K0c,K0e]),zge66,zge66,zge66,(zb9),zle⟩ ?_
  rintro n ρ q ⟨k,rfl,hk,e1,e2,e3,e4,g1,g2,g3,hn,hle⟩
  by_cases hlt:(k:Int)<c.Players
  ·have hbk:=(firstK c k).hBodies
   have hk8:k<8:=by omega
   (have zx:=zA e1 (zA e2 (zA e3 (zA e4 (zA g1 (zA g2 (zA g3 hlt))))));refine zq66 ?_;try exact zT)
   repeat'(apply zK.s<;>intro hc<;>(try simp only[zhd]at hc)<;>(try have hw:=K0a hc)<;>(refine zq66 ?_;try exact zT))
   all_goals(try clear zx)
   exact⟨c.Players.toNat-(k+1),by omega,k+1,rfl,by omega,zev,zev,zev,zev,zg9,zg9,zg9,zb9,zlq⟩
  ·have hk8:k=c.Players.toNat:=by omega
   subst hk8
   (have zx:=zA e1 (zA e2 (zA e3 (zA e4 (zA g1 (zA g2 (zA g3 hlt))))));refine zq66 ?_;try exact zT)
   repeat'(apply zK.s<;>intro hc<;>(try simp only[zhd]at hc)<;>(try have hw:=K0a hc)<;>(refine zq66 ?_;try exact zT))
   all_goals(try clear zx)
   refine K0d hF zlq (Q0c ?_ (Z0c zno66))
   simp[firstS,hL]
def J38(c:X0a)(s:V0a)(p:Hp)(n:Nat)(ρ:Env)(q:Hp): Prop:=
 ∃(k:Nat),n=16-k/\k<=16/\ρ 2=.ptr p.n []/\ρ 3=.ptr (p.n+1) []/\ρ 5=I k/\q.t.get p.n=some (.var sh61 c.cv)/\q.t.get (p.n+1)=some (.var sh66 s.cv)/\allFrom (rightAt c.Players) (s.Bodies.drop k) k=allFrom (rightAt c.Players) s.Bodies 0/\p.n+1<q.n/\HpLe p q
def L38(c:X0a)(s:V0a)(p:Hp)(n:Nat)(ρ:Env)(q:Hp): Prop:=
 ∃(k:Nat),n=8-k/\k<=8/\ρ 2=.ptr p.n []/\ρ 3=.ptr (p.n+1) []/\ρ 7=I k/\q.t.get p.n=some (.var sh61 c.cv)/\q.t.get (p.n+1)=some (.var sh66 s.cv)/\allFrom (scoreAt c.Players) (s.Score.drop k) k=allFrom (scoreAt c.Players) s.Score 0/\p.n+1<q.n/\HpLe p q
def R38: Rel:=fun args p r=>∃(c:X0a) (s:V0a),args=[c.cv,s.cv]/\(c.Tokens.l.length<=1000000)/\(c.Rules.l.length<=1000000)/\r=.ret (Bo (stateRight c s)) p
theorem t38{T:XCall}(h:Has T 38 R38)(c:X0a)(s:V0a){p:Hp}(hl:c.Tokens.l.length<=1000000)(hr:c.Rules.l.length<=1000000): T 38 [c.cv,s.cv] p=.ret (Bo (stateRight c s)) p:=h _ _ _ ⟨c,s,rfl,hl,hr,rfl⟩
theorem zq38{A B:Prop}(k:B)(h:A=B:=by have zy:=zA @zw38<|zA @rs38<|zA @tt3<|zA @tt4<|zA @tt34<|zA @tt61<|zA @tt63<|zA @tt64<|zA @tt66<|zA ti3.eq_1<|zA ti4.eq_1<|zA ti34.eq_1<|zA ti61.eq_1<|zA ti63.eq_1<|zA ti64.eq_1<|zA ti66.eq_1<|zA @t_97<|zA @t_85<|zA @t_75<|zA @Z0e<|zA @X0f<|zA @Q0f<|zA @zsl63<|zA @zsl64<|zA @hl<|@hr;exact zQ): A:=h▸k
theorem zno38{P:Prop}(h:P:=by intro jj;simp[CV.has,CV.hasL,fault,K0b.nohas,V0a.nohas,Q0a.nohas]): P:=h
theorem zge38{P:Prop}(h:P:=by simp (disch:=first|exact zdl|fail) only[zheap];first|done|rfl): P:=h
theorem c38: Con C 38 R38:=by
 refine V0e C ?_ ?_ ?_
 ·rintro args p r r' ⟨c,s,h,hl,hr,e⟩ ⟨c',s',h',hl',hr',e'⟩
  subst e;subst e';simp_all[X0a.inj_iff,V0a.inj_iff,Q0a.inj_iff]
 ·rintro args p r ⟨c,s,h,hl,hr,rfl⟩;exact zr1
 rintro args p r ⟨c,s,rfl,hl,hr,rfl⟩
 refine zW C false [(97,R97),(85,R85),(75,R75)] ⟨c97,c85,c75,zT⟩ rfl xf38 zc38_ok fun call zh hF=>?_
 have t_97:=@t97 _ zh.1
 have t_85:=@t85 _ zh.2.1
 have t_75:=@t75 _ zh.2.2.1
 clear zh
 have hb:=s.hBodies
 have hsc:=s.hScore
 by_cases hok:legalC c=true/\within s.Frame 0 600=true
 ·obtain⟨hL,hfw⟩:=hok
  (have zx:=zA hL hfw;refine zq38 ?_;try exact zT)
  repeat'(apply zK.s<;>intro hc<;>(try simp only[zhd]at hc)<;>(try have hw:=K0a hc)<;>(refine zq38 ?_;try exact zT))
  all_goals(try clear zx)
  (show W C false noExt call (ZC.loop Z12) _ _ _);refine Y0g C false noExt call Z12 _ _ _ (J38 c s p) 16 ⟨0,rfl,by omega,(by simp[put_at,K0c,K0e]),(by simp[put_at,K0c,K0e]),(by simp[put_at,K0c,K0e]),zge38,zge38,rfl,(zb9),zle⟩ ?_
  rintro n ρ q ⟨k,rfl,hk,e2,e3,e5,g1,g2,hj,hn,hle⟩
  by_cases hlt:(k:Int)<16
  ·rw[K0u _ (l:=s.Bodies) (k:=k) (by omega)]at hj
   generalize hbb:nth s.Bodies k=b at hj
   cases hw:rightAt c.Players k b with
   |false=>
    rw[hw]at hj
    have hne:¬rightAt c.Players k b=true:=by rw[hw];simp
    rw[K1p]at hne
    by_cases hK:b.Kind=0
    ·have hn2:¬(Body.right b=true/\¬(k:Int)<c.Players):=fun h=>hne ⟨h.1,.inl hK,by simp[hK,h.2],.inl h.2⟩
     (have zx:=zA e2 (zA e3 (zA e5 (zA g1 (zA g2 (zA hlt (zA hbb hK))))));refine zq38 ?_;try exact zT)
     repeat'(apply zK.s<;>intro hc<;>(try simp only[zhd]at hc)<;>(try have hw:=K0a hc)<;>(refine zq38 ?_;try exact zT))
     all_goals(try clear zx)
     all_goals first
      |(refine K0d hF zlq (Q0c ?_ (Z0c zno38));simp[stateRight,<- hj];done)
      |exact absurd ⟨by assumption,by assumption⟩ hn2
    ·(have zx:=zA e2 (zA e3 (zA e5 (zA g1 (zA g2 (zA hlt (zA hbb hK))))));refine zq38 ?_;try exact zT)
     repeat'(apply zK.s<;>intro hc<;>(try simp only[zhd]at hc)<;>(try have hw:=K0a hc)<;>(refine zq38 ?_;try exact zT))
     all_goals(try clear zx)
     all_goals first
      |(refine K0d hF zlq (Q0c ?_ (Z0c zno38));simp[stateRight,<- hj];done)
      |exact absurd ⟨by assumption,.inr (by assumption),by assumption,by first|exact .inl (by assumption)|exact .inr (by assumption)⟩ hne
   |true=>
    rw[hw,Bool.true_and]at hj
    obtain⟨y1,y2,y3,y4⟩:=(K1p _ _ _).1 hw
    by_cases hK:b.Kind=0
    ·have hp:¬(k:Int)<c.Players:=by simpa[hK]using y3
     (have zx:=zA e2 (zA e3 (zA e5 (zA g1 (zA g2 (zA hlt (zA hbb (zA y1 (zA hK hp))))))));refine zq38 ?_;try exact zT)
     repeat'(apply zK.s<;>intro hc<;>(try simp only[zhd]at hc)<;>(try have hw:=K0a hc)<;>(refine zq38 ?_;try exact zT))
     all_goals(try clear zx)
     exact⟨16-(k+1),by omega,k+1,rfl,by omega,zev,zev,zev,zg9,zg9,hj,zb9,zlq⟩
    ·have hp:=y2.resolve_left hK
     (have zx:=zA e2 (zA e3 (zA e5 (zA g1 (zA g2 (zA hlt (zA hbb (zA y1 (zA y3 (zA hK hp)))))))));refine zq38 ?_;try exact zT)
     repeat'(apply zK.s<;>intro hc<;>(try simp only[zhd]at hc)<;>(try have hw:=K0a hc)<;>(refine zq38 ?_;try exact zT))
     all_goals(try clear zx)
     all_goals first
      |exact⟨16-(k+1),by omega,k+1,rfl,by omega,zev,zev,zev,zg9,zg9,hj,zb9,zlq⟩
      |(exfalso;rcases y4 with y4|y4<;>contradiction)
  ·have hk16:k=16:=by omega
   subst hk16
   rw[List.drop_eq_nil_of_le (by omega)]at hj
   have hA:allFrom (rightAt c.Players) s.Bodies 0=true:=hj.symm
   (have zx:=zA e2 (zA e3 (zA e5 (zA g1 (zA g2 hlt))));refine zq38 ?_;try exact zT)
   repeat'(apply zK.s<;>intro hc<;>(try simp only[zhd]at hc)<;>(try have hw:=K0a hc)<;>(refine zq38 ?_;try exact zT))
   all_goals(try clear zx)
   (show W C false noExt call (ZC.loop K18) _ _ _);refine Y0g C false noExt call K18 _ _ _ (L38 c s p) 8 ⟨0,rfl,by omega,zev,zev,zev,g1,g2,rfl,hn,hle⟩ ?_
   clear e2 e3 e5 g1 g2 hn hle hj hlt
   rintro n ρ q ⟨k,rfl,hk,e2,e3,e7,g1,g2,hj,hn,hle⟩
   by_cases hlt:(k:Int)<8
   ·rw[K0u _ (l:=s.Score) (k:=k) (by omega)]at hj
    cases hw:scoreAt c.Players k (nth s.Score k) with
    |false=>
     rw[hw]at hj
     simp only[scoreAt]at hw
     (have zx:=zA e2 (zA e3 (zA e7 (zA g1 (zA g2 hlt))));refine zq38 ?_;try exact zT)
     repeat'(apply zK.s<;>intro hc<;>(try simp only[zhd]at hc)<;>(try have hw:=K0a hc)<;>(refine zq38 ?_;try exact zT))
     all_goals(try clear zx)
     all_goals first
      |(refine K0d hF zlq (Q0c ?_ (Z0c zno38));simp[stateRight,<- hj];done)
      |(exfalso;simp_all;done)
      |(exfalso;simp_all;omega)
    |true=>
     rw[hw,Bool.true_and]at hj
     simp only[scoreAt]at hw
     (have zx:=zA e2 (zA e3 (zA e7 (zA g1 (zA g2 hlt))));refine zq38 ?_;try exact zT)
     repeat'(apply zK.s<;>intro hc<;>(try simp only[zhd]at hc)<;>(try have hw:=K0a hc)<;>(refine zq38 ?_;try exact zT))
     all_goals(try clear zx)
     all_goals first
      |exact⟨8-(k+1),by omega,k+1,rfl,by omega,zev,zev,zev,zg9,zg9,hj,zb9,zlq⟩
      |exact⟨8-(k+1),by omega,k+1,rfl,by omega,zev,zev,zev,g1,g2,hj,hn,hle⟩
      |(exfalso;simp_all;done)
      |(exfalso;simp_all;omega)
   ·have hk8:k=8:=by omega
    subst hk8
    rw[List.drop_eq_nil_of_le (by omega)]at hj
    have hB:allFrom (scoreAt c.Players) s.Score 0=true:=hj.symm
    (have zx:=zA e2 (zA e3 (zA e7 (zA g1 (zA g2 hlt))));refine zq38 ?_;try exact zT)
    repeat'(apply zK.s<;>intro hc<;>(try simp only[zhd]at hc)<;>(try have hw:=K0a hc)<;>(refine zq38 ?_;try exact zT))
    all_goals(try clear zx)
    all_goals refine K0d hF zlq (Q0c ?_ (Z0c zno38))
    all_goals simp[stateRight,hA,hB, *]
 ·have hno:stateRight c s=false:=by
   cases h:stateRight c s with
   |false=>rfl
   |true=>have:=Q0i h;simp only[stateRight,Bool.and_eq_true]at h;exact absurd ⟨h.1.2,h.2⟩ hok
  cases hL:legalC c with
  |false=>
   (have zx:=hL;refine zq38 ?_;try exact zT)
   repeat'(apply zK.s<;>intro hc<;>(try simp only[zhd]at hc)<;>(try have hw:=K0a hc)<;>(refine zq38 ?_;try exact zT))
   all_goals(try clear zx)
   exact K0d hF zle (Q0c (by rw[hno]) (Z0c zno38))
  |true=>
   have hfw:within s.Frame 0 600=false:=by
    cases h:within s.Frame 0 600 with
    |false=>rfl
    |true=>exact absurd ⟨hL,h⟩ hok
   (have zx:=zA hL hfw;refine zq38 ?_;try exact zT)
   repeat'(apply zK.s<;>intro hc<;>(try simp only[zhd]at hc)<;>(try have hw:=K0a hc)<;>(refine zq38 ?_;try exact zT))
   all_goals(try clear zx)
   exact K0d hF zle (Q0c (by rw[hno]) (Z0c zno38))
end Go.Proofs.Ytpchcfkebljopaa
end
section
namespace Go.Proofs.Ytpchcfkebljopaa
open Go.Cl Go Go.RowKit
theorem x63_alloc(p:Hp): xalloc C p 63=.ret (.ptr p.n []) (p.new (.var sh63 (.agg ((List.replicate 16 Q0a.zero).map Q0a.cv)))):=by simp only[Cl.xalloc,tt63,ti63,z63,Q0a.zcv,List.map_replicate]
theorem s63_sub: subEq sh63 [] sh63=true:=by simp[subEq,Shape.sub]
theorem s63_subk(k:Nat)(q:List Nat)(z:Shape): subEq sh63 (k::q) z=(decide (k<16)&&subEq sh34 q z):=Z0y 16 k q sh34 z
theorem s63_ok(l:List Q0a)(h:l.length=16): shOk (.agg (l.map Q0a.cv)) sh63=true:=Z0m (sh:=sh63) (by simp only[CV.shape,Z0h (f:=Q0a.cv) Q0a.shape,h,sh63]) rfl
theorem s63_at(l:List Q0a)(h:l.length=16)(k:Nat)(q:List Nat)(hk:k<16): (CV.agg (l.map Q0a.cv)).at (k::q)=(Q0a.cv (nth l k)).at q:=Z1w _ (by rw[h];exact hk) q
end Go.Proofs.Ytpchcfkebljopaa
end
section
namespace Go.Proofs.Ytpchcfkebljopaa
open Go.Cl Go Go.RowKit
set_option maxRecDepth 100000
set_option linter.constructorNameAsVariable false
theorem envR_mk(a:Q0a)(b:Z0a)(c d:Int)(s:Lst Q0a): envR ⟨a,b,c,d,s⟩=⟨a,b,c,d,s⟩:=rfl
def J67(c:X0a)(s:V0a)(row:Lst V0b)(p:Hp)(n:Nat)(ρ:Env)(q:Hp): Prop:=
 ∃(k:Nat) (sh:Lst Q0a),n=16-k/\k<=16/\ρ 2=row.cv V0b.cv/\ρ 3=.ptr p.n []/\ρ 4=.ptr (p.n+1) []/\ρ 6=.ptr (p.n+2) []/\ρ 7=.ptr (p.n+3) []/\ρ 8=sh.cv Q0a.cv/\ρ 9=I k/\sh.l=(turnsS c.Rules.l row.l s k).2/\q.t.get p.n=some (.var sh61 c.cv)/\q.t.get (p.n+1)=some (.var sh66 (turnsS c.Rules.l row.l s k).1.cv)/\q.t.get (p.n+2)=some (.var sh66 V0a.zero.cv)/\q.t.get (p.n+3)=some (.var sh63 (.agg (s.Bodies.map Q0a.cv)))/\(sh.tl=.nil\/∃j,sh.tl=.own j/\p.n+3<j/\j<q.n/\q.t.get j=some (.tail sh.l.length)/\0<sh.l.length)/\p.n+3<q.n/\HpLe p q
def K67(c:X0a)(s:V0a)(sh:Lst Q0a)(p:Hp)(n:Nat)(ρ:Env)(q:Hp): Prop:=
 ∃(m:Nat),n=sh.l.length-m/\m<=sh.l.length/\ρ 3=.ptr p.n []/\ρ 4=.ptr (p.n+1) []/\ρ 6=.ptr (p.n+2) []/\ρ 8=sh.cv Q0a.cv/\ρ 16=I m/\q.t.get p.n=some (.var sh61 c.cv)/\q.t.get (p.n+1)=some (.var sh66 (placeAll s (sh.l.take m)).cv)/\q.t.get (p.n+2)=some (.var sh66 V0a.zero.cv)/\p.n+3<q.n/\HpLe p q
def L67(c:X0a)(s:V0a)(sh:Lst Q0a)(m:Nat)(p:Hp)(n:Nat)(ρ:Env)(q:Hp): Prop:=
 ∃(k:Nat) (d:Bool) (t:V0a),n=16-k/\k<=16/\ρ 3=.ptr p.n []/\ρ 4=.ptr (p.n+1) []/\ρ 6=.ptr (p.n+2) []/\ρ 8=sh.cv Q0a.cv/\ρ 16=I m/\ρ 17=Bo d/\ρ 18=I k/\q.t.get p.n=some (.var sh61 c.cv)/\q.t.get (p.n+1)=some (.var sh66 t.cv)/\q.t.get (p.n+2)=some (.var sh66 V0a.zero.cv)/\PlaceAt s (nth sh.l m) k d t/\p.n+3<q.n/\HpLe p q
def M67(c:X0a)(s:V0a)(p:Hp)(n:Nat)(ρ:Env)(q:Hp): Prop:=
 ∃(i:Nat),n=16-i/\i<=16/\ρ 3=.ptr p.n []/\ρ 4=.ptr (p.n+1) []/\ρ 6=.ptr (p.n+2) []/\ρ 19=I i/\q.t.get p.n=some (.var sh61 c.cv)/\q.t.get (p.n+1)=some (.var sh66 (hitsS c.Players s i).cv)/\q.t.get (p.n+2)=some (.var sh66 V0a.zero.cv)/\p.n+3<q.n/\HpLe p q
def N67(c:X0a)(s:V0a)(i:Nat)(p:Hp)(n:Nat)(ρ:Env)(q:Hp): Prop:=
 ∃(k:Nat) (t:V0a),n=16-k/\k<=16/\ρ 3=.ptr p.n []/\ρ 4=.ptr (p.n+1) []/\ρ 6=.ptr (p.n+2) []/\ρ 19=I i/\ρ 20=I k/\q.t.get p.n=some (.var sh61 c.cv)/\q.t.get (p.n+1)=some (.var sh66 t.cv)/\q.t.get (p.n+2)=some (.var sh66 V0a.zero.cv)/\HitAt c.Players s i k t/\p.n+3<q.n/\HpLe p q
def R67: Rel:=fun args p r=>∃(c:X0a) (s:V0a) (row:Lst V0b),args=[c.cv,s.cv,row.cv V0b.cv]/\(c.Tokens.l.length<=1000000)/\(c.Rules.l.length<=1000000)/\r=.ret (stepS c row.l s).cv p
theorem t67{T:XCall}(h:Has T 67 R67)(c:X0a)(s:V0a)(row:Lst V0b){p:Hp}(hl:c.Tokens.l.length<=1000000)(hr:c.Rules.l.length<=1000000): T 67 [c.cv,s.cv,row.cv V0b.cv] p=.ret (stepS c row.l s).cv p:=h _ _ _ ⟨c,s,row,rfl,hl,hr,rfl⟩
theorem zq67{A B:Prop}(k:B)(h:A=B:=by have zy:=zA @zw67<|zA @rs67<|zA @tt3<|zA @tt23<|zA @tt25<|zA @tt34<|zA @tt36<|zA @tt37<|zA @tt51<|zA @tt61<|zA @tt63<|zA @tt64<|zA @tt66<|zA ti3.eq_1<|zA ti23.eq_1<|zA ti25.eq_1<|zA ti34.eq_1<|zA ti36.eq_1<|zA ti37.eq_1<|zA ti51.eq_1<|zA ti61.eq_1<|zA ti63.eq_1<|zA ti64.eq_1<|zA ti66.eq_1<|zA @t_38<|zA @t_143<|zA @t_144<|zA @t_145<|zA @t_28<|zA @t_146<|zA @t_147<|zA @t_142<|zA @Z0e<|zA @X0f<|zA @Q0f<|zA @Z0o<|zA @Y0r<|zA @zsl23<|zA @zsl37<|zA @zsl63<|zA @zsl64<|zA @envR_mk<|zA @x63_alloc<|zA @s63_sub<|zA @s63_subk<|zA @s63_ok<|zA @s63_at<|zA @hl<|@hr;exact zQ): A:=h▸k
theorem zno67{P:Prop}(h:P:=by intro jj;simp[CV.has,CV.hasL,fault,K0b.nohas,V0a.nohas,Q0a.nohas,Z0a.nohas]): P:=h
theorem zge67{P:Prop}(h:P:=by simp (disch:=first|exact zdl|fail) only[zheap];first|done|rfl): P:=h
theorem c67: Con C 67 R67:=by
 refine V0e C ?_ ?_ ?_
 ·rintro args p r r' ⟨c,s,row,h,hl,hr,e⟩ ⟨c',s',row',h',hl',hr',e'⟩
  subst e;subst e';simp_all[X0a.inj_iff,V0a.inj_iff,Q0a.inj_iff,Z0a.inj_iff,Y0c.inj_iff,V0r,Y17,Z05]
 ·rintro args p r ⟨c,s,row,h,hl,hr,rfl⟩;exact zr1
 rintro args p r ⟨c,s,row,rfl,hl,hr,rfl⟩
 refine zW C false [(38,R38),(143,R143),(144,R144),(145,R145),(28,R28),(146,R146),(147,R147),(142,R142)] ⟨c38,c143,c144,c145,c28,c146,c147,c142,zT⟩ rfl xf67 zc67_ok fun call zh hF=>?_
 have t_38:=@t38 _ zh.1
 have t_143:=@t143 _ zh.2.1
 have t_144:=@t144 _ zh.2.2.1
 have t_145:=@t145 _ zh.2.2.2.1
 have t_28:=@t28 _ zh.2.2.2.2.1
 have t_146:=@t146 _ zh.2.2.2.2.2.1
 have t_147:=@t147 _ zh.2.2.2.2.2.2.1
 have t_142:=@t142 _ zh.2.2.2.2.2.2.2.1
 clear zh
 cases hR:stateRight c s with
 |false=>
  (have zx:=hR;refine zq67 ?_;try exact zT)
  repeat'(apply zK.s<;>intro hc<;>(try simp only[zhd]at hc)<;>(try have hw:=K0a hc)<;>(refine zq67 ?_;try exact zT))
  all_goals(try clear zx)
  refine K0d hF zle (Q0c ?_ (Z0c zno67))
  simp[stepS,hR];rfl
 |true=>
  have hrl:=(Z0i (Q0i hR).2.2.1).2
  have hrl2:c.Rules.l.length<=100000:=by omega
  have h4:=right_all hR
  have hb:=s.hBodies
  (have zx:=hR;refine zq67 ?_;try exact zT)
  repeat'(apply zK.s<;>intro hc<;>(try simp only[zhd]at hc)<;>(try have hw:=K0a hc)<;>(refine zq67 ?_;try exact zT))
  all_goals(try clear zx)
  (show W C false noExt call (ZC.loop Y14) _ _ _);refine Y0g C false noExt call Y14 _ _ _ (J67 c s row p) 16 ⟨0,⟨.nil,[],fun _=>rfl⟩,rfl,by omega,by simp[put_at,K0c,K0e,Z0k],(by simp[put_at,K0c,K0e]),(by simp[put_at,K0c,K0e]),(by simp[put_at,K0c,K0e]),(by simp[put_at,K0c,K0e]),by simp[put_at,K0c,K0e,Lst.cv],(by simp[put_at,K0c,K0e]),rfl,zge67,zge67,zge67,zge67,.inl rfl,(zb9),zle⟩ ?_
  rintro n ρ q ⟨k,⟨tl,al,ao⟩,rfl,hk,e2,e3,e4,e6,e7,e8,e9,hal,g1,g2,g3,g4,happ,hn,hle⟩
  have hlen:=X10 c.Rules.l row.l s k
  by_cases hlt:(k:Int)<16
  ·have hr:Body.right (nth s.Bodies k)=true:=h4 _ (by rw[X0i (by omega)];exact List.getElem_mem _)
   have hst:turnsS c.Rules.l row.l s (k+1)=turnStep c.Rules.l row.l s.Bodies (turnsS c.Rules.l row.l s k) k:=rfl
   generalize hTk:turnsS c.Rules.l row.l s k=T at hst hal g2 hlen
   obtain⟨sk,lk⟩:=T
   simp only at hal g2 hlen
   subst hal
   have hbk:=sk.hBodies
   have hfr:=freeN_le sk
   generalize hbb:nth s.Bodies k=b at hr hst
   by_cases hK:b.Kind=1
   ·have hrb:=X0l hr (by omega)
    have hx:=Q1t row.l b.Owner
    have hX:=tdiv16 hx.2.1
    have hY:=tdiv16 hx.2.2
    have hRl:∀E,ruleRun c.Rules E=runL c.Rules.l E:=fun E=>ruleRun_l (l:=⟨.view,c.Rules.l,nofun⟩) (s:=c.Rules) rfl E
    have hlen2:=Y1y c.Rules.l (playerEnv row.l sk.Dice (freeN sk.Bodies-al.length) b)
    have hlen2:(runL c.Rules.l (playerEnv row.l sk.Dice (freeN sk.Bodies-al.length) b)).1.Shots.l.length<=64:=by simpa[playerEnv]using hlen2
    have hRR:ruleRun c.Rules (ruleOf ⟨bodyPush b ((rowInput row.l b.Owner).X.tdiv 16) ((rowInput row.l b.Owner).Y.tdiv 16),rowInput row.l b.Owner,sk.Dice,freeN sk.Bodies-al.length,⟨.nil,[],fun _=>rfl⟩⟩)=runL c.Rules.l (playerEnv row.l sk.Dice (freeN sk.Bodies-al.length) b):=hRl _
    simp only[turnStep,hbb,bodyTurn,hK,if_true,playerTurn]at hst
    generalize runL c.Rules.l (playerEnv row.l sk.Dice (freeN sk.Bodies-al.length) b)=R at hst hlen2 hRR
    obtain⟨⟨gb,gi,gd,gr,gt,gl,go⟩,ft,ok⟩:=R
    simp only at hlen2 hst
    cases ok with
    |false=>
     simp only[Bool.false_eq_true,if_false,List.append_nil]at hst
     have hm:min 65535 (b.Faults+1)=min (b.Faults+1) 65535:=by omega
     have happ2:tl=.nil\/∃j,tl=.own j/\p.n+3<j/\j<q.n/\q.t.get j=some (.tail al.length)/\0<al.length:=happ
     (have zx:=zA e2 (zA e3 (zA e4 (zA e6 (zA e7 (zA e8 (zA e9 (zA g1 (zA g2 (zA g3 (zA g4 (zA hlt (zA hbb (zA hK (zA hRR hm))))))))))))));refine zq67 ?_;try exact zT)
     repeat'(apply zK.s<;>intro hc<;>(try simp only[zhd]at hc)<;>(try have hw:=K0a hc)<;>(refine zq67 ?_;try exact zT))
     all_goals(try clear zx)
     refine⟨16-(k+1),by omega,k+1,⟨tl,al,ao⟩,rfl,by omega,zev,zev,zev,zev,zev,zev,zev,by rw[hst],zg9,by rw[hst];simp (disch:=first|exact zdl|fail) only[zheap];first|done|rfl,zg9,zg9,?_,zb9,zlq⟩
     rcases happ2 with a1|⟨j,a1,a2,a3,a4,a5⟩
     ·exact .inl a1
     ·exact .inr ⟨j,a1,a2,zb9,by simp (disch:=first|exact zdl|fail) only[zheap,a4],a5⟩
    |true=>
     simp only[if_true]at hst
     cases gl with
     |nil=>
      have happ2:tl=.nil\/∃j,tl=.own j/\p.n+3<j/\j<q.n/\q.t.get j=some (.tail al.length)/\0<al.length:=happ
      simp only[List.append_nil]at hst
      rcases happ2 with a1|⟨j,a1,a2,a3,g5,a5⟩
      ·subst a1
       (have zx:=zA e2 (zA e3 (zA e4 (zA e6 (zA e7 (zA e8 (zA e9 (zA g1 (zA g2 (zA g3 (zA g4 (zA hlt (zA hbb (zA hK hRR)))))))))))));refine zq67 ?_;try exact zT)
       repeat'(apply zK.s<;>intro hc<;>(try simp only[zhd]at hc)<;>(try have hw:=K0a hc)<;>(refine zq67 ?_;try exact zT))
       all_goals(try clear zx)
       exact⟨16-(k+1),by omega,k+1,⟨.nil,al,ao⟩,rfl,by omega,zev,zev,zev,zev,zev,zev,zev,by rw[hst],zg9,by rw[hst];simp (disch:=first|exact zdl|fail) only[zheap];first|done|rfl,zg9,zg9,.inl rfl,zb9,zlq⟩
      ·subst a1
       (have zx:=zA e2 (zA e3 (zA e4 (zA e6 (zA e7 (zA e8 (zA e9 (zA g1 (zA g2 (zA g3 (zA g4 (zA g5 (zA hlt (zA hbb (zA hK hRR))))))))))))));refine zq67 ?_;try exact zT)
       repeat'(apply zK.s<;>intro hc<;>(try simp only[zhd]at hc)<;>(try have hw:=K0a hc)<;>(refine zq67 ?_;try exact zT))
       all_goals(try clear zx)
       exact⟨16-(k+1),by omega,k+1,⟨.own j,al,ao⟩,rfl,by omega,zev,zev,zev,zev,zev,zev,zev,by rw[hst],zg9,by rw[hst];simp (disch:=first|exact zdl|fail) only[zheap];first|done|rfl,zg9,zg9,.inr ⟨j,rfl,a2,zb9,zg9,a5⟩,zb9,zlq⟩
     |cons x m=>
      simp only[List.length_cons]at hlen2
      rcases happ with a1|⟨j,a1,a2,a3,g5,a5⟩
      ·simp only at a1
       subst a1
       (have zx:=zA e2 (zA e3 (zA e4 (zA e6 (zA e7 (zA e8 (zA e9 (zA g1 (zA g2 (zA g3 (zA g4 (zA hlt (zA hbb (zA hK hRR)))))))))))));refine zq67 ?_;try exact zT)
       repeat'(apply zK.s<;>intro hc<;>(try simp only[zhd]at hc)<;>(try have hw:=K0a hc)<;>(refine zq67 ?_;try exact zT))
       all_goals(try clear zx)
       exact⟨16-(k+1),by omega,k+1,⟨.own (q.n+1+1+30),al++x::m,nofun⟩,rfl,by omega,zev,zev,zev,zev,zev,zev,zev,by rw[hst],zg9,by rw[hst];simp (disch:=first|exact zdl|fail) only[zheap];first|done|rfl,zg9,zg9,.inr ⟨q.n+1+1+30,rfl,by omega,zb9,by simp (disch:=first|exact zdl|fail) only[zheap,List.length_append,List.length_cons],by simp;omega⟩,zb9,zlq⟩
      ·simp only at a1 g5 a5
       subst a1
       (have zx:=zA e2 (zA e3 (zA e4 (zA e6 (zA e7 (zA e8 (zA e9 (zA g1 (zA g2 (zA g3 (zA g4 (zA g5 (zA hlt (zA hbb (zA hK hRR))))))))))))));refine zq67 ?_;try exact zT)
       repeat'(apply zK.s<;>intro hc<;>(try simp only[zhd]at hc)<;>(try have hw:=K0a hc)<;>(refine zq67 ?_;try exact zT))
       all_goals(try clear zx)
       exact⟨16-(k+1),by omega,k+1,⟨.own (q.n+1+1+30),al++x::m,nofun⟩,rfl,by omega,zev,zev,zev,zev,zev,zev,zev,by rw[hst],zg9,by rw[hst];simp (disch:=first|exact zdl|fail) only[zheap];first|done|rfl,zg9,zg9,.inr ⟨q.n+1+1+30,rfl,by omega,zb9,by simp (disch:=first|exact zdl|fail) only[zheap,List.length_append,List.length_cons],by simp;omega⟩,zb9,zlq⟩
   ·simp only[turnStep,hbb,bodyTurn,hK,if_false,List.append_nil]at hst
    have happ2:tl=.nil\/∃j,tl=.own j/\p.n+3<j/\j<q.n/\q.t.get j=some (.tail al.length)/\0<al.length:=happ
    (have zx:=zA e2 (zA e3 (zA e4 (zA e6 (zA e7 (zA e8 (zA e9 (zA g1 (zA g2 (zA g3 (zA g4 (zA hlt (zA hbb hK))))))))))));refine zq67 ?_;try exact zT)
    repeat'(apply zK.s<;>intro hc<;>(try simp only[zhd]at hc)<;>(try have hw:=K0a hc)<;>(refine zq67 ?_;try exact zT))
    all_goals(try clear zx)
    refine⟨16-(k+1),by omega,k+1,⟨tl,al,ao⟩,rfl,by omega,zev,zev,zev,zev,zev,zev,zev,by rw[hst],zg9,by rw[hst];simp (disch:=first|exact zdl|fail) only[zheap];first|done|rfl,zg9,zg9,?_,zb9,zlq⟩
    rcases happ2 with a1|⟨j,a1,a2,a3,a4,a5⟩
    ·exact .inl a1
    ·exact .inr ⟨j,a1,a2,zb9,by simp (disch:=first|exact zdl|fail) only[zheap,a4],a5⟩
  ·have hk16:k=16:=by omega
   subst hk16
   have hpl:=step_place hR row.l
   have hok0:=step_hit hR row.l
   have hfr0:(setsS (turnsS c.Rules.l row.l s 16) 16).1.Frame=s.Frame:=by rw[(Y03 _ 16).2.1,(Q00 _ _ _ 16).2]
   have hsf:=(Q0i hR).2.2.2
   have hstep:stepS c row.l s={hitsS c.Players (setsS (turnsS c.Rules.l row.l s 16) 16).1 16 with Frame:=min ((hitsS c.Players (setsS (turnsS c.Rules.l row.l s 16) 16).1 16).Frame+1) 600}:=by unfold stepS;rw[hR];simp only[Bool.true_eq_false,if_false]
   generalize hTk:turnsS c.Rules.l row.l s 16=T at hal g2 hlen hpl hok0 hfr0 hstep
   obtain⟨sk,lk⟩:=T
   simp only at hal g2 hlen hpl
   subst hal
   generalize hs2:(setsS (sk,al) 16).1=s2 at hpl hok0 hfr0 hstep
   (have zx:=zA e2 (zA e3 (zA e4 (zA e6 (zA e7 (zA e8 (zA e9 (zA g1 (zA g2 (zA g3 (zA g4 hlt))))))))));refine zq67 ?_;try exact zT)
   repeat'(apply zK.s<;>intro hc<;>(try simp only[zhd]at hc)<;>(try have hw:=K0a hc)<;>(refine zq67 ?_;try exact zT))
   all_goals(try clear zx)
   (show W C false noExt call (ZC.loop X12) _ _ _);refine Y0g C false noExt call X12 _ _ _ (K67 c sk ⟨tl,al,ao⟩ p) al.length ⟨0,rfl,by omega,zev,zev,zev,zev,zev,g1,g2,g3,hn,hle⟩ ?_
   clear e2 e3 e4 e6 e7 e8 e9 g1 g2 g3 g4 happ hn hle hlt
   rintro n ρ q ⟨m,rfl,hm,e3,e4,e6,e8,e16,g1,g2,g3,hn,hle⟩
   simp only at hm g2 hlen
   by_cases hlt:(m:Int)<al.length
   ·(have zx:=zA e3 (zA e4 (zA e6 (zA e8 (zA e16 (zA g1 (zA g2 (zA g3 hlt)))))));refine zq67 ?_;try exact zT)
    repeat'(apply zK.s<;>intro hc<;>(try simp only[zhd]at hc)<;>(try have hw:=K0a hc)<;>(refine zq67 ?_;try exact zT))
    all_goals(try clear zx)
    (show W C false noExt call (ZC.loop Q19) _ _ _);refine Y0g C false noExt call Q19 _ _ _ (L67 c (placeAll sk (al.take m)) ⟨tl,al,ao⟩ m p) 16 ⟨0,false,placeAll sk (al.take m),rfl,by omega,zev,zev,zev,zev,zev,zev,zev,g1,g2,g3,PlaceAt.start _ _,hn,hle⟩ ?_
    clear e3 e4 e6 e8 e16 g1 g2 g3 hn hle
    rintro n ρ q ⟨k,d,t,rfl,hk,e3,e4,e6,e8,e16,e17,e18,g1,g2,g3,hP,hn,hle⟩
    have hbt:=t.hBodies
    simp only at hP
    by_cases hlk:(k:Int)<16
    ·cases d with
     |true=>
      have hend:=hP.ended (.inl rfl)
      (have zx:=zA e3 (zA e4 (zA e6 (zA e8 (zA e16 (zA e17 (zA e18 (zA g1 (zA g2 (zA g3 hlk)))))))));refine zq67 ?_;try exact zT)
      repeat'(apply zK.s<;>intro hc<;>(try simp only[zhd]at hc)<;>(try have hw:=K0a hc)<;>(refine zq67 ?_;try exact zT))
      all_goals(try clear zx)
      exact⟨al.length-(m+1),by first|omega|(simp only;omega),m+1,rfl,by first|omega|(simp only;omega),zev,zev,zev,zev,zev,g1,by rw[g2,hend];simp only[Y0v (show m<al.length by omega),X07],g3,hn,hle⟩
     |false=>
      by_cases h0:(nth t.Bodies k).Kind=0
      ·have hh:=hP.hit (by omega) h0
       (have zx:=zA e3 (zA e4 (zA e6 (zA e8 (zA e16 (zA e17 (zA e18 (zA g1 (zA g2 (zA g3 (zA hlk h0))))))))));refine zq67 ?_;try exact zT)
       repeat'(apply zK.s<;>intro hc<;>(try simp only[zhd]at hc)<;>(try have hw:=K0a hc)<;>(refine zq67 ?_;try exact zT))
       all_goals(try clear zx)
       exact⟨16-(k+1),by omega,k+1,true,_,rfl,by omega,zev,zev,zev,zev,zev,zev,zev,zg9,zg9,zg9,hh,zb9,zlq⟩
      ·have hh:=hP.miss (by omega) h0
       (have zx:=zA e3 (zA e4 (zA e6 (zA e8 (zA e16 (zA e17 (zA e18 (zA g1 (zA g2 (zA g3 (zA hlk h0))))))))));refine zq67 ?_;try exact zT)
       repeat'(apply zK.s<;>intro hc<;>(try simp only[zhd]at hc)<;>(try have hw:=K0a hc)<;>(refine zq67 ?_;try exact zT))
       all_goals(try clear zx)
       exact⟨16-(k+1),by omega,k+1,false,t,rfl,by omega,zev,zev,zev,zev,zev,zev,zev,g1,g2,g3,hh,hn,hle⟩
    ·have hend:=hP.ended (.inr (by omega))
     (have zx:=zA e3 (zA e4 (zA e6 (zA e8 (zA e16 (zA e17 (zA e18 (zA g1 (zA g2 (zA g3 hlk)))))))));refine zq67 ?_;try exact zT)
     repeat'(apply zK.s<;>intro hc<;>(try simp only[zhd]at hc)<;>(try have hw:=K0a hc)<;>(refine zq67 ?_;try exact zT))
     all_goals(try clear zx)
     exact⟨al.length-(m+1),by first|omega|(simp only;omega),m+1,rfl,by first|omega|(simp only;omega),zev,zev,zev,zev,zev,g1,by rw[g2,hend];simp only[Y0v (show m<al.length by omega),X07],g3,hn,hle⟩
   ·have hm2:m=al.length:=by omega
    rw[hm2,List.take_of_length_le (Nat.le_refl _),<- hpl]at g2
    (have zx:=zA e3 (zA e4 (zA e6 (zA e8 (zA e16 (zA g1 (zA g2 (zA g3 hlt)))))));refine zq67 ?_;try exact zT)
    repeat'(apply zK.s<;>intro hc<;>(try simp only[zhd]at hc)<;>(try have hw:=K0a hc)<;>(refine zq67 ?_;try exact zT))
    all_goals(try clear zx)
    (show W C false noExt call (ZC.loop X2b) _ _ _);refine Y0g C false noExt call X2b _ _ _ (M67 c s2 p) 16 ⟨0,rfl,by omega,zev,zev,zev,zev,g1,g2,g3,hn,hle⟩ ?_
    clear e3 e4 e6 e8 e16 g1 g2 g3 hn hle hlt hm hm2
    rintro n ρ q ⟨i,rfl,hi,e3,e4,e6,e19,g1,g2,g3,hn,hle⟩
    by_cases hlt:(i:Int)<16
    ·have hok:=hitsS_ok c.Players hok0 i hi
     have hst:hitsS c.Players s2 (i+1)=hitStep c.Players (hitsS c.Players s2 i) i:=rfl
     generalize hTi:hitsS c.Players s2 i=si at hst g2 hok
     (have zx:=zA e3 (zA e4 (zA e6 (zA e19 (zA g1 (zA g2 (zA g3 hlt))))));refine zq67 ?_;try exact zT)
     repeat'(apply zK.s<;>intro hc<;>(try simp only[zhd]at hc)<;>(try have hw:=K0a hc)<;>(refine zq67 ?_;try exact zT))
     all_goals(try clear zx)
     (show W C false noExt call (ZC.loop Y12) _ _ _);refine Y0g C false noExt call Y12 _ _ _ (N67 c si i p) 16 ⟨0,si,rfl,by omega,zev,zev,zev,zev,zev,g1,g2,g3,HitAt.start _ _ _,hn,hle⟩ ?_
     clear e3 e4 e6 e19 g1 g2 g3 hn hle
     rintro n ρ q ⟨k,t,rfl,hk,e3,e4,e6,e19,e20,g1,g2,g3,hH,hn,hle⟩
     have hbt:=t.hBodies
     have hsc:=t.hScore
     by_cases hlk:(k:Int)<16
     ·by_cases hK:(nth t.Bodies i).Kind=2
      ·cases hx:strikeF (nth t.Bodies i) (nth t.Bodies k) with
       |false=>
        have hh:=hH.miss (by omega) hK hx
        by_cases hx1:(nth t.Bodies k).Kind=1
        ·have hx2:bodyHit (nth t.Bodies i) (nth t.Bodies k)=false:=by rw[hit_swap hx1 hK];simpa[strikeF,hx1]using hx
         (have zx:=zA e3 (zA e4 (zA e6 (zA e19 (zA e20 (zA g1 (zA g2 (zA g3 (zA hlk (zA hK (zA hx1 hx2))))))))));refine zq67 ?_;try exact zT)
         repeat'(apply zK.s<;>intro hc<;>(try simp only[zhd]at hc)<;>(try have hw:=K0a hc)<;>(refine zq67 ?_;try exact zT))
         all_goals(try clear zx)
         exact⟨16-(k+1),by omega,k+1,t,rfl,by omega,zev,zev,zev,zev,zev,zg9,zg9,zg9,hh,zb9,zlq⟩
        ·(have zx:=zA e3 (zA e4 (zA e6 (zA e19 (zA e20 (zA g1 (zA g2 (zA g3 (zA hlk (zA hK hx1)))))))));refine zq67 ?_;try exact zT)
         repeat'(apply zK.s<;>intro hc<;>(try simp only[zhd]at hc)<;>(try have hw:=K0a hc)<;>(refine zq67 ?_;try exact zT))
         all_goals(try clear zx)
         exact⟨16-(k+1),by omega,k+1,t,rfl,by omega,zev,zev,zev,zev,zev,zg9,zg9,zg9,hh,zb9,zlq⟩
       |true=>
        obtain⟨hts,hh⟩:=hH.hit (by omega) (by omega) hK hx
        subst hts
        have hx1:(nth t.Bodies k).Kind=1:=by simp only[strikeF,Bool.and_eq_true,decide_eq_true_eq]at hx;exact hx.1
        have hx2:bodyHit (nth t.Bodies i) (nth t.Bodies k)=true:=by rw[hit_swap hx1 hK];simpa[strikeF,hx1]using hx
        have ho:=hok.own i (by omega) hK
        have hsv:=hok.score (nth t.Bodies i).Owner.toNat (by omega)
        have hmm:min 2147483647 (nth t.Score (nth t.Bodies i).Owner.toNat+1)=min (nth t.Score (nth t.Bodies i).Owner.toNat+1) 2147483647:=by omega
        (have zx:=zA e3 (zA e4 (zA e6 (zA e19 (zA e20 (zA g1 (zA g2 (zA g3 (zA hlk (zA hK (zA hx1 (zA hx2 hmm)))))))))));refine zq67 ?_;try exact zT)
        repeat'(apply zK.s<;>intro hc<;>(try simp only[zhd]at hc)<;>(try have hw:=K0a hc)<;>(refine zq67 ?_;try exact zT))
        all_goals(try clear zx)
        exact⟨16-(k+1),by omega,k+1,_,rfl,by omega,zev,zev,zev,zev,zev,zg9,zg9,zg9,hh,zb9,zlq⟩
      ·have hend:=hH.ended (.inl hK)
       (have zx:=zA e3 (zA e4 (zA e6 (zA e19 (zA e20 (zA g1 (zA g2 (zA g3 (zA hlk hK))))))));refine zq67 ?_;try exact zT)
       repeat'(apply zK.s<;>intro hc<;>(try simp only[zhd]at hc)<;>(try have hw:=K0a hc)<;>(refine zq67 ?_;try exact zT))
       all_goals(try clear zx)
       exact⟨16-(i+1),by omega,i+1,rfl,by omega,zev,zev,zev,zev,g1,by rw[g2,hst,hend],g3,hn,hle⟩
     ·have hend:=hH.ended (.inr (by omega))
      (have zx:=zA e3 (zA e4 (zA e6 (zA e19 (zA e20 (zA g1 (zA g2 (zA g3 hlk)))))));refine zq67 ?_;try exact zT)
      repeat'(apply zK.s<;>intro hc<;>(try simp only[zhd]at hc)<;>(try have hw:=K0a hc)<;>(refine zq67 ?_;try exact zT))
      all_goals(try clear zx)
      exact⟨16-(i+1),by omega,i+1,rfl,by omega,zev,zev,zev,zev,g1,by rw[g2,hst,hend],g3,hn,hle⟩
    ·have hi16:i=16:=by omega
     subst hi16
     have hfr1:(hitsS c.Players s2 16).Frame=s.Frame:=by rw[Z10,hfr0]
     rw[hfr1]at hstep
     have hmm:min 600 ((hitsS c.Players s2 16).Frame+1)=min (s.Frame+1) 600:=by rw[hfr1];omega
     (have zx:=zA e3 (zA e4 (zA e6 (zA e19 (zA g1 (zA g2 (zA g3 (zA hlt (zA hfr1 hmm))))))));refine zq67 ?_;try exact zT)
     repeat'(apply zK.s<;>intro hc<;>(try simp only[zhd]at hc)<;>(try have hw:=K0a hc)<;>(refine zq67 ?_;try exact zT))
     all_goals(try clear zx)
     refine K0d hF zlq (Q0c ?_ (Z0c zno67))
     rw[hstep,show min (s.Frame+1) 600=min 600 (s.Frame+1) by omega]
def J65(players:Int)(l:Lst Int)(p:Hp)(n:Nat)(ρ:Env)(q:Hp): Prop:=
 ∃(k:Nat),n=min players.toNat l.l.length-k/\k<=min players.toNat l.l.length/\ρ 0=I players/\ρ 1=Lst.cv I l/\ρ 5=.slc p.n [] 0 players.toNat/\ρ 6=I k/\q.t.get p.n=some (.var (.n (List.replicate players.toNat sh110)) (.agg ((rowK players l.l k).map V0b.cv)))/\p.n<q.n/\HpLe p q
def R65: Rel:=fun args p r=>∃(players:Int) (l:Lst Int),args=[I players,Lst.cv I l]/\(1<=players/\players<=100)/\r=.ret (Lst.cv V0b.cv ⟨.part,rowOf players l.l,nofun⟩) p
theorem t65{T:XCall}(h:Has T 65 R65)(players:Int)(l:Lst Int){p:Hp}(h1:1<=players/\players<=100): T 65 [I players,Lst.cv I l] p=.ret (Lst.cv V0b.cv ⟨.part,rowOf players l.l,nofun⟩) p:=h _ _ _ ⟨players,l,rfl,h1,rfl⟩
theorem zq65{A B:Prop}(k:B)(h:A=B:=by have zy:=zA @zw65<|zA @rs65<|zA @tt3<|zA @tt24<|zA @tt108<|zA @tt110<|zA ti3.eq_1<|zA ti24.eq_1<|zA ti108.eq_1<|zA ti110.eq_1<|zA @t_69<|zA @Y04<|zA @Z0o<|zA @zsl24<|zA @zsl108<|zA @mk108<|zA @ix108<|zA @sa108<|zA @Z0y<|@h1;exact zQ): A:=h▸k
theorem zge65{P:Prop}(h:P:=by simp (disch:=first|exact zdl|fail) only[zheap];first|done|rfl): P:=h
theorem c65: Con C 65 R65:=by
 refine V0e C ?_ ?_ ?_
 ·rintro args p r r' ⟨players,l,h,h1,e⟩ ⟨players',l',h',h1',e'⟩
  subst e;subst e';simp_all[V0b.inj_iff,Z0a.inj_iff,K0s,Z05,K0s]
 ·rintro args p r ⟨players,l,h,h1,rfl⟩;exact zr1
 rintro args p r ⟨players,l,rfl,h1,rfl⟩
 show AnsAt C 65 [I players,Lst.cv I l] p (.ret (.lst .part ((rowOf players l.l).map V0b.cv)) p)
 refine Q11 C (sh:=.n (List.replicate players.toNat sh110)) (l:=(rowOf players l.l).map V0b.cv) (sz:=4) (fun x hx=>by obtain⟨y,_,rfl⟩:=List.mem_map.1 hx;rfl) (fun j hj=>(X0m V0b.nohas _ j hj).elim) ?_
 refine zW C false [(69,R69)] ⟨c69,zT⟩ rfl xf65 zc65_ok fun call zh hF=>?_
 have t_69:=@t69 _ zh.1
 clear zh
 have hp:((players.toNat:Nat):Int)=players:=by omega
 have hfin:∀q:Hp,q.t.get p.n=some (.var (.n (List.replicate players.toNat sh110)) (.agg ((rowOf players l.l).map V0b.cv)))->HpLe p q->ShrR p (.ret (.slc p.n [] 0 players.toNat) q) (.ret (.slc p.n [] 0 (rowOf players l.l).length) (p.new (.var (.n (List.replicate players.toNat sh110)) (.agg ((rowOf players l.l).map V0b.cv))))):=by
  intro q g1 hle
  rw[rowOf_len]
  refine K1d (by show p.n<=p.n+1;omega) (fun j o h=>?_) ⟨rfl,Nat.lt_succ_self _,rfl,rfl,rfl⟩
  by_cases hj:j=p.n
  ·subst hj
   rw[Hp.get_new_self]at h;cases h
   exact⟨Nat.lt_succ_self _,.inr ⟨_,g1,Y0i fun i hi=>by simp only[XObj.has,CV.has]at hi;exact(X0m V0b.nohas _ i hi).elim⟩⟩
  ·rw[Hp.get_new_ne _ _ hj]at h
   have hd:=hF.dom _ _ h
   exact⟨Nat.lt_succ_of_lt hd,.inl ⟨hd,h,hle j o h⟩⟩
 (have zx:=zT;refine zq65 ?_;try exact zT)
 repeat'(apply zK.s<;>intro hc<;>(try simp only[zhd]at hc)<;>(try have hw:=K0a hc)<;>(refine zq65 ?_;try exact zT))
 all_goals(try clear zx)
 (show W C false noExt call (ZC.loop zn65_9) _ _ _);refine Y0g C false noExt call zn65_9 _ _ _ (J65 players l p) (min players.toNat l.l.length) ⟨0,rfl,by omega,(by simp[put_at,K0c,K0e]),(by simp[put_at,K0c];rfl),(by simp[put_at,K0c,K0e]),(by simp[put_at,K0c,K0e]),zge65,(zb9),zle⟩ ?_
 rintro n ρ q ⟨k,rfl,hk,e0,e1,e5,e6,g1,hn,hle⟩
 have hlen:=X2c players l.l k
 by_cases hlt:(k:Int)<players
 ·by_cases hll:(k:Int)<l.l.length
  ·have hw:=wrap_range ((nth l.l k).tdiv 7)
   by_cases h4:0<(nth l.l k).tmod 4
   ·have hst:rowK players l.l (k+1)=(rowK players l.l k).set k (cellOf (nth l.l k)):=by simp[rowK,h4]
    (have zx:=zA e0 (zA e1 (zA e5 (zA e6 (zA g1 (zA hlt (zA hll h4))))));refine zq65 ?_;try exact zT)
    repeat'(apply zK.s<;>intro hc<;>(try simp only[zhd]at hc)<;>(try have hw:=K0a hc)<;>(refine zq65 ?_;try exact zT))
    all_goals(try clear zx)
    exact⟨min players.toNat l.l.length-(k+1),by omega,k+1,rfl,by omega,zev,zev,zev,zev,by rw[hst];simp (disch:=first|exact zdl|fail) only[zheap];first|done|rfl,zb9,zlq⟩
   ·have hst:rowK players l.l (k+1)=rowK players l.l k:=by simp[rowK,h4]
    (have zx:=zA e0 (zA e1 (zA e5 (zA e6 (zA g1 (zA hlt (zA hll h4))))));refine zq65 ?_;try exact zT)
    repeat'(apply zK.s<;>intro hc<;>(try simp only[zhd]at hc)<;>(try have hw:=K0a hc)<;>(refine zq65 ?_;try exact zT))
    all_goals(try clear zx)
    exact⟨min players.toNat l.l.length-(k+1),by omega,k+1,rfl,by omega,zev,zev,zev,zev,by rw[hst];exact g1,hn,hle⟩
  ·have hk2:k=min players.toNat l.l.length:=by omega
   (have zx:=zA e0 (zA e1 (zA e5 (zA e6 (zA g1 (zA hlt hll)))));refine zq65 ?_;try exact zT)
   repeat'(apply zK.s<;>intro hc<;>(try simp only[zhd]at hc)<;>(try have hw:=K0a hc)<;>(refine zq65 ?_;try exact zT))
   all_goals(try clear zx)
   exact hfin q (by rw[g1,hk2];rfl) hle
 ·have hk2:k=min players.toNat l.l.length:=by omega
  (have zx:=zA e0 (zA e1 (zA e5 (zA e6 (zA g1 hlt))));refine zq65 ?_;try exact zT)
  repeat'(apply zK.s<;>intro hc<;>(try simp only[zhd]at hc)<;>(try have hw:=K0a hc)<;>(refine zq65 ?_;try exact zT))
  all_goals(try clear zx)
  exact hfin q (by rw[g1,hk2];rfl) hle
def J61(players:Int)(l:Lst (Lst Int))(p:Hp)(n:Nat)(ρ:Env)(q:Hp): Prop:=
 ∃(k:Nat) (acc:Lst (Lst V0b)),n=40-k/\k<=40/\k<=l.l.length/\ρ 0=I players/\ρ 1=Lst.cv (Lst.cv I) l/\ρ 5=acc.cv (Lst.cv V0b.cv)/\ρ 6=I k/\acc.l=(l.l.take k).map (rowL players)/\(acc.tl=.nil\/∃j,acc.tl=.own j/\p.n<=j/\j<q.n/\q.t.get j=some (.tail acc.l.length)/\0<acc.l.length)/\p.n<=q.n/\HpLe p q
def R61: Rel:=fun args p r=>∃(players:Int) (l:Lst (Lst Int)),args=[I players,Lst.cv (Lst.cv I) l]/\(1<=players/\players<=100)/\r=.ret (Lst.cv (Lst.cv V0b.cv) (ownL (rowsOf players l.l) p.n)) (ownH (rowsOf players l.l) p)
theorem t61{T:XCall}(h:Has T 61 R61)(players:Int)(l:Lst (Lst Int)){p:Hp}(h1:1<=players/\players<=100): T 61 [I players,Lst.cv (Lst.cv I) l] p=.ret (Lst.cv (Lst.cv V0b.cv) (ownL (rowsOf players l.l) p.n)) (ownH (rowsOf players l.l) p):=h _ _ _ ⟨players,l,rfl,h1,rfl⟩
theorem zq61{A B:Prop}(k:B)(h:A=B:=by have zy:=zA @zw61<|zA @rs61<|zA @tt3<|zA @tt24<|zA @tt58<|zA @tt92<|zA ti3.eq_1<|zA ti24.eq_1<|zA ti58.eq_1<|zA ti92.eq_1<|zA @t_65<|zA @Y04<|zA @zsl24<|zA @zsl58<|zA @zsl92<|@h1;exact zQ): A:=h▸k
theorem c61: Con C 61 R61:=by
 refine V0e C ?_ ?_ ?_
 ·rintro args p r r' ⟨players,l,h,h1,e⟩ ⟨players',l',h',h1',e'⟩
  subst e;subst e';simp_all[V0b.inj_iff,K0s,Y1g,Z18,Y1g]
 ·rintro args p r ⟨players,l,h,h1,rfl⟩;exact zr1
 rintro args p r ⟨players,l,rfl,h1,rfl⟩
 refine zW C false [(65,R65)] ⟨c65,zT⟩ rfl xf61 zc61_ok fun call zh hF=>?_
 have t_65:=@t65 _ zh.1
 clear zh
 (have zx:=zT;refine zq61 ?_;try exact zT)
 repeat'(apply zK.s<;>intro hc<;>(try simp only[zhd]at hc)<;>(try have hw:=K0a hc)<;>(refine zq61 ?_;try exact zT))
 all_goals(try clear zx)
 show W C false noExt call (ZC.block 0 (ZC.loop zn61_9)) _ _ (seqQ _ _)
 refine W_cut C false noExt call _ _ _ _ (fun ρ q=>∃acc:Lst (Lst V0b),ρ 5=acc.cv (Lst.cv V0b.cv)/\acc.l=rowsOf players l.l/\(acc.tl=.nil\/∃j,acc.tl=.own j/\p.n<=j/\q.t.get j=some (.tail acc.l.length)/\0<acc.l.length)/\HpLe p q) ?_ ?_
 ·(show W C false noExt call (ZC.loop zn61_9) _ _ _);refine Y0g C false noExt call zn61_9 _ _ _ (J61 players l p) 40 ⟨0,⟨.nil,[],fun _=>rfl⟩,rfl,by omega,by omega,(by simp[put_at,K0c,K0e]),(by simp[put_at,K0c];rfl),by simp[put_at,K0c,K0e,Lst.cv],(by simp[put_at,K0c,K0e]),by simp,.inl rfl,by omega,zle⟩ ?_
  rintro n ρ q ⟨k,⟨tl,al,ao⟩,rfl,hk,hkl,e0,e1,e5,e6,hacc,happ,hn,hle⟩
  have hal:al.length=k:=by simp only at hacc;rw[hacc];simp;omega
  by_cases hlt:(k:Int)<l.l.length
  ·by_cases h40:(k:Int)<40
   ·have htk:=take_nx (l:=l.l) (k:=k) (by omega)
    have hrow:(⟨.part,rowOf players (nth l.l k).l,nofun⟩:Lst V0b)=rowL players (nth l.l k):=rfl
    rcases happ with ht|⟨j,ht,hj1,hj2,g1,hj4⟩
    ·simp only at ht
     subst ht
     (have zx:=zA e0 (zA e1 (zA e5 (zA e6 (zA hlt (zA h40 hrow)))));refine zq61 ?_;try exact zT)
     repeat'(apply zK.s<;>intro hc<;>(try simp only[zhd]at hc)<;>(try have hw:=K0a hc)<;>(refine zq61 ?_;try exact zT))
     all_goals(try clear zx)
     exact⟨40-(k+1),by omega,k+1,⟨.own q.n,al++[rowL players (nth l.l k)],nofun⟩,rfl,by omega,by omega,zev,zev,zev,zev,by simp only at hacc;rw[htk,List.map_append,hacc];rfl,.inr ⟨q.n,rfl,hn,zb9,by simp (disch:=first|exact zdl|fail) only[zheap,List.length_append,List.length_cons,List.length_nil],by simp⟩,zb9,zlq⟩
    ·simp only at ht g1 hj4
     subst ht
     (have zx:=zA e0 (zA e1 (zA e5 (zA e6 (zA hlt (zA h40 (zA g1 hrow))))));refine zq61 ?_;try exact zT)
     repeat'(apply zK.s<;>intro hc<;>(try simp only[zhd]at hc)<;>(try have hw:=K0a hc)<;>(refine zq61 ?_;try exact zT))
     all_goals(try clear zx)
     exact⟨40-(k+1),by omega,k+1,⟨.own q.n,al++[rowL players (nth l.l k)],nofun⟩,rfl,by omega,by omega,zev,zev,zev,zev,by simp only at hacc;rw[htk,List.map_append,hacc];rfl,.inr ⟨q.n,rfl,hn,zb9,by simp (disch:=first|exact zdl|fail) only[zheap,List.length_append,List.length_cons,List.length_nil],by simp⟩,zb9,zlq⟩
   ·(have zx:=zA e0 (zA e1 (zA e5 (zA e6 (zA hlt h40))));refine zq61 ?_;try exact zT)
    repeat'(apply zK.s<;>intro hc<;>(try simp only[zhd]at hc)<;>(try have hw:=K0a hc)<;>(refine zq61 ?_;try exact zT))
    all_goals(try clear zx)
    have hk40:k=40:=by omega
    subst hk40
    exact⟨⟨tl,al,ao⟩,zev,hacc,happ.imp id fun⟨j,h1,h2,_,h4,h5⟩=>⟨j,h1,h2,h4,h5⟩,hle⟩
  ·(have zx:=zA e0 (zA e1 (zA e5 (zA e6 hlt)));refine zq61 ?_;try exact zT)
   repeat'(apply zK.s<;>intro hc<;>(try simp only[zhd]at hc)<;>(try have hw:=K0a hc)<;>(refine zq61 ?_;try exact zT))
   all_goals(try clear zx)
   have ht:l.l.take k=l.l.take 40:=by rw[List.take_of_length_le (by omega),List.take_of_length_le (by omega)]
   exact⟨⟨tl,al,ao⟩,zev,by rw[hacc,ht];rfl,happ.imp id fun⟨j,h1,h2,_,h4,h5⟩=>⟨j,h1,h2,h4,h5⟩,hle⟩
 rintro ρ q ⟨acc,e5,hacc,happ,hle⟩
 (have zx:=e5;refine zq61 ?_;try exact zT)
 repeat'(apply zK.s<;>intro hc<;>(try simp only[zhd]at hc)<;>(try have hw:=K0a hc)<;>(refine zq61 ?_;try exact zT))
 all_goals(try clear zx)
 rw[<- hacc]
 exact shr_ownL hF acc hle happ (fun x hx j=>by
  rw[hacc]at hx
  obtain⟨y,_,rfl⟩:=List.mem_map.1 hx
  intro h;cases((Lst.has _ V0b.nohas _ j).1 h))
def J58(c:X0a)(p:Hp)(n:Nat)(ρ:Env)(q:Hp): Prop:=
 ∃(k:Nat),n=c.Players.toNat-k/\k<=c.Players.toNat/\ρ 1=.ptr p.n []/\ρ 2=.ptr (p.n+1) []/\ρ 3=.ptr (p.n+2) []/\ρ 14=I c.Players/\ρ 15=I k/\q.t.get p.n=some (.var sh61 c.cv)/\q.t.get (p.n+1)=some (.var sh66 V0a.zero.cv)/\q.t.get (p.n+2)=some (.var sh66 (firstK c k).cv)/\p.n+2<q.n/\HpLe p q
def R58: Rel:=fun args p r=>∃(c:X0a),args=[c.cv]/\(c.Tokens.l.length<=1000000)/\(c.Rules.l.length<=1000000)/\r=.ret (firstS c).cv p
theorem t58{T:XCall}(h:Has T 58 R58)(c:X0a){p:Hp}(hl:c.Tokens.l.length<=1000000)(hr:c.Rules.l.length<=1000000): T 58 [c.cv] p=.ret (firstS c).cv p:=h _ _ _ ⟨c,rfl,hl,hr,rfl⟩
theorem zq58{A B:Prop}(k:B)(h:A=B:=by have zy:=zA @zw58<|zA @rs58<|zA @tt3<|zA @tt34<|zA @tt61<|zA @tt63<|zA @tt66<|zA ti3.eq_1<|zA ti34.eq_1<|zA ti61.eq_1<|zA ti63.eq_1<|zA ti66.eq_1<|zA @t_60<|zA @t_64<|zA @t_133<|zA @Z0e<|zA @X0f<|zA @Q0f<|zA @zsl63<|zA @hl<|@hr;exact zQ): A:=h▸k
theorem zno58{P:Prop}(h:P:=by intro jj;simp[CV.has,CV.hasL,fault,K0b.nohas,V0a.nohas,Q0a.nohas]): P:=h
theorem zge58{P:Prop}(h:P:=by simp (disch:=first|exact zdl|fail) only[zheap];first|done|rfl): P:=h
theorem c58: Con C 58 R58:=by
 refine V0e C ?_ ?_ ?_
 ·rintro args p r r' ⟨c,h,hl,hr,e⟩ ⟨c',h',hl',hr',e'⟩
  subst e;subst e';simp_all[X0a.inj_iff,V0a.inj_iff,Q0a.inj_iff]
 ·rintro args p r ⟨c,h,hl,hr,rfl⟩;exact zr1
 rintro args p r ⟨c,rfl,hl,hr,rfl⟩
 refine zW C false [(60,R60),(64,R64),(133,R133)] ⟨c60,c64,c133,zT⟩ rfl xf58 zc58_ok fun call zh hF=>?_
 have t_60:=@t60 _ zh.1
 have t_64:=@t64 _ zh.2.1
 have t_133:=@t133 _ zh.2.2.1
 clear zh
 cases hL:legalC c with
 |false=>
  (have zx:=hL;refine zq58 ?_;try exact zT)
  repeat'(apply zK.s<;>intro hc<;>(try simp only[zhd]at hc)<;>(try have hw:=K0a hc)<;>(refine zq58 ?_;try exact zT))
  all_goals(try clear zx)
  refine K0d hF zle (Q0c ?_ (Z0c zno58))
  simp[firstS,hL];rfl
 |true=>
  have hP:=(Z0i hL).1
  have hPn:((c.Players.toNat:Nat):Int)=c.Players:=by omega
  (have zx:=hL;refine zq58 ?_;try exact zT)
  repeat'(apply zK.s<;>intro hc<;>(try simp only[zhd]at hc)<;>(try have hw:=K0a hc)<;>(refine zq58 ?_;try exact zT))
  all_goals(try clear zx)
  (show W C false noExt call (ZC.loop Z16) _ _ _);refine Y0g C false noExt call Z16 _ _ _ (J58 c p) c.Players.toNat ⟨0,rfl,by omega,(by simp[put_at,K0c,K0e]),(by simp[put_at,K0c,K0e]),(by simp[put_at,K0c,K0e]),(by simp[put_at,K0c,K0e]),(by simp[put_at,K0c,K0e]),zge58,zge58,zge58,(zb9),zle⟩ ?_
  rintro n ρ q ⟨k,rfl,hk,e1,e2,e3,e14,e15,g1,g2,g3,hn,hle⟩
  by_cases hlt:(k:Int)<c.Players
  ·have hbk:=(firstK c k).hBodies
   have hk8:k<8:=by omega
   (have zx:=zA e1 (zA e2 (zA e3 (zA e14 (zA e15 (zA g1 (zA g2 (zA g3 hlt)))))));refine zq58 ?_;try exact zT)
   repeat'(apply zK.s<;>intro hc<;>(try simp only[zhd]at hc)<;>(try have hw:=K0a hc)<;>(refine zq58 ?_;try exact zT))
   all_goals(try clear zx)
   exact⟨c.Players.toNat-(k+1),by omega,k+1,rfl,by omega,zev,zev,zev,zev,zev,zg9,zg9,zg9,zb9,zlq⟩
  ·have hk8:k=c.Players.toNat:=by omega
   subst hk8
   (have zx:=zA e1 (zA e2 (zA e3 (zA e14 (zA e15 (zA g1 (zA g2 (zA g3 hlt)))))));refine zq58 ?_;try exact zT)
   repeat'(apply zK.s<;>intro hc<;>(try simp only[zhd]at hc)<;>(try have hw:=K0a hc)<;>(refine zq58 ?_;try exact zT))
   all_goals(try clear zx)
   refine K0d hF zlq (Q0c ?_ (Z0c zno58))
   simp[firstS,hL]
end Go.Proofs.Ytpchcfkebljopaa
end
section
namespace Go.Proofs.Ytpchcfkebljopaa
open Go.Cl Go Go.RowKit
def stateOf(c:X0a)(l:List (Lst Int)): V0a:=gameFold c ((rowsOf c.Players l).map Lst.l) (firstS c)
end Go.Proofs.Ytpchcfkebljopaa
end
section
namespace Go.Proofs.Ytpchcfkebljopaa
open Go.Cl Go Go.RowKit
set_option maxRecDepth 100000
set_option linter.constructorNameAsVariable false
def J87(c:X0a)(s:V0a)(rows:Lst (Lst V0b))(p:Hp)(n:Nat)(ρ:Env)(q:Hp): Prop:=
 ∃(k:Nat) (st:V0a),n=rows.l.length-k/\k<=rows.l.length/\ρ 2=rows.cv (Lst.cv V0b.cv)/\ρ 3=.ptr p.n []/\ρ 4=.ptr (p.n+1) []/\ρ 6=.ptr (p.n+2) []/\ρ 7=I k/\q.t.get p.n=some (.var sh61 c.cv)/\q.t.get (p.n+1)=some (.var sh66 st.cv)/\q.t.get (p.n+2)=some (.var sh66 V0a.zero.cv)/\gameFold c ((rows.l.drop k).map Lst.l) st=gameFold c (rows.l.map Lst.l) s/\p.n+2<q.n/\HpLe p q
def R87: Rel:=fun args p r=>∃(c:X0a) (s:V0a) (rows:Lst (Lst V0b)),args=[c.cv,s.cv,rows.cv (Lst.cv V0b.cv)]/\(c.Tokens.l.length<=1000000)/\(c.Rules.l.length<=1000000)/\(rows.l.length<=1000000)/\r=.ret (gameFold c (rows.l.map Lst.l) s).cv p
theorem t87{T:XCall}(h:Has T 87 R87)(c:X0a)(s:V0a)(rows:Lst (Lst V0b)){p:Hp}(hl:c.Tokens.l.length<=1000000)(hr:c.Rules.l.length<=1000000)(hn0:rows.l.length<=1000000): T 87 [c.cv,s.cv,rows.cv (Lst.cv V0b.cv)] p=.ret (gameFold c (rows.l.map Lst.l) s).cv p:=h _ _ _ ⟨c,s,rows,rfl,hl,hr,hn0,rfl⟩
theorem zq87{A B:Prop}(k:B)(h:A=B:=by have zy:=zA @zw87<|zA @rs87<|zA @tt3<|zA @tt61<|zA @tt66<|zA @tt92<|zA @tt108<|zA ti3.eq_1<|zA ti61.eq_1<|zA ti66.eq_1<|zA ti92.eq_1<|zA ti108.eq_1<|zA @t_67<|zA @Z0e<|zA @X0f<|zA @zsl92<|zA @zsl108<|zA @hl<|zA @hr<|@hn0;exact zQ): A:=h▸k
theorem zno87{P:Prop}(h:P:=by intro jj;simp[CV.has,CV.hasL,fault,K0b.nohas,V0a.nohas]): P:=h
theorem zge87{P:Prop}(h:P:=by simp (disch:=first|exact zdl|fail) only[zheap];first|done|rfl): P:=h
theorem c87: Con C 87 R87:=by
 refine V0e C ?_ ?_ ?_
 ·rintro args p r r' ⟨c,s,rows,h,hl,hr,hn0,e⟩ ⟨c',s',rows',h',hl',hr',hn0',e'⟩
  subst e;subst e';simp_all[X0a.inj_iff,V0a.inj_iff,Z18,Z05,Z18]
 ·rintro args p r ⟨c,s,rows,h,hl,hr,hn0,rfl⟩;exact zr1
 rintro args p r ⟨c,s,rows,rfl,hl,hr,hn0,rfl⟩
 refine zW C false [(67,R67)] ⟨c67,zT⟩ rfl xf87 zc87_ok fun call zh hF=>?_
 have t_67:=@t67 _ zh.1
 clear zh
 (have zx:=zT;refine zq87 ?_;try exact zT)
 repeat'(apply zK.s<;>intro hc<;>(try simp only[zhd]at hc)<;>(try have hw:=K0a hc)<;>(refine zq87 ?_;try exact zT))
 all_goals(try clear zx)
 (show W C false noExt call (ZC.loop zn87_7) _ _ _);refine Y0g C false noExt call zn87_7 _ _ _ (J87 c s rows p) rows.l.length ⟨0,s,rfl,by omega,by simp[put_at,K0c,K0e,Z0k],(by simp[put_at,K0c,K0e]),(by simp[put_at,K0c,K0e]),(by simp[put_at,K0c,K0e]),(by simp[put_at,K0c,K0e]),zge87,zge87,zge87,rfl,(zb9),zle⟩ ?_
 rintro n ρ q ⟨k,st,rfl,hk,e2,e3,e4,e6,e7,g1,g2,g3,hj,hn,hle⟩
 by_cases hlt:(k:Int)<rows.l.length
 ·rw[X0y (l:=rows.l) (k:=k) (by omega)]at hj
  (have zx:=zA e2 (zA e3 (zA e4 (zA e6 (zA e7 (zA g1 (zA g2 (zA g3 hlt)))))));refine zq87 ?_;try exact zT)
  repeat'(apply zK.s<;>intro hc<;>(try simp only[zhd]at hc)<;>(try have hw:=K0a hc)<;>(refine zq87 ?_;try exact zT))
  all_goals(try clear zx)
  exact⟨rows.l.length-(k+1),by omega,k+1,stepS c (nth rows.l k).l st,rfl,by omega,zev,zev,zev,zev,zev,zg9,zg9,zg9,hj,zb9,zlq⟩
 ·have hk8:k=rows.l.length:=by omega
  subst hk8
  rw[List.drop_eq_nil_of_le (Nat.le_refl _)]at hj
  have hj:st=gameFold c (rows.l.map Lst.l) s:=hj
  (have zx:=zA e2 (zA e3 (zA e4 (zA e6 (zA e7 (zA g1 (zA g2 (zA g3 hlt)))))));refine zq87 ?_;try exact zT)
  repeat'(apply zK.s<;>intro hc<;>(try simp only[zhd]at hc)<;>(try have hw:=K0a hc)<;>(refine zq87 ?_;try exact zT))
  all_goals(try clear zx)
  refine K0d hF zlq (Q0c ?_ (Z0c zno87))
  rw[hj]
def R32: Rel:=fun args p r=>∃(c:X0a) (l:Lst (Lst Int)),args=[c.cv,Lst.cv (Lst.cv I) l]/\(c.Tokens.l.length<=1000000)/\(c.Rules.l.length<=1000000)/\(1<=c.Players/\c.Players<=100)/\r=.ret (stateOf c l.l).cv p
theorem t32{T:XCall}(h:Has T 32 R32)(c:X0a)(l:Lst (Lst Int)){p:Hp}(hl:c.Tokens.l.length<=1000000)(hr:c.Rules.l.length<=1000000)(hp:1<=c.Players/\c.Players<=100): T 32 [c.cv,Lst.cv (Lst.cv I) l] p=.ret (stateOf c l.l).cv p:=h _ _ _ ⟨c,l,rfl,hl,hr,hp,rfl⟩
theorem zq32{A B:Prop}(k:B)(h:A=B:=by have zy:=zA @zw32<|zA @rs32<|zA @tt3<|zA @tt61<|zA @tt66<|zA ti3.eq_1<|zA ti61.eq_1<|zA ti66.eq_1<|zA @t_61<|zA @t_66<|zA @t_87<|zA @Z0e<|zA @X0f<|zA @ownL_nil<|zA @ownL_cons<|zA @ownH_nil<|zA @ownH_cons<|zA @hl<|zA @hr<|@hp;exact zQ): A:=h▸k
theorem zno32{P:Prop}(h:P:=by intro jj;simp[CV.has,CV.hasL,fault,K0b.nohas,V0a.nohas]): P:=h
theorem c32: Con C 32 R32:=by
 refine V0e C ?_ ?_ ?_
 ·rintro args p r r' ⟨c,l,h,hl,hr,hp,e⟩ ⟨c',l',h',hl',hr',hp',e'⟩
  subst e;subst e';simp_all[X0a.inj_iff,V0a.inj_iff,Y1g]
 ·rintro args p r ⟨c,l,h,hl,hr,hp,rfl⟩;exact zr1
 rintro args p r ⟨c,l,rfl,hl,hr,hp,rfl⟩
 refine zW C false [(61,R61),(66,R66),(87,R87)] ⟨c61,c66,c87,zT⟩ rfl xf32 zc32_ok fun call zh hF=>?_
 have t_61:=@t61 _ zh.1
 have t_66:=@t66 _ zh.2.1
 have t_87:=@t87 _ zh.2.2.1
 clear zh
 have hrl:=rowsOf_len c.Players l.l
 have hst:stateOf c l.l=gameFold c ((rowsOf c.Players l.l).map Lst.l) (firstS c):=rfl
 generalize hR:rowsOf c.Players l.l=R at hrl hst
 cases R with
 |nil=>
  (have zx:=hR;refine zq32 ?_;try exact zT)
  repeat'(apply zK.s<;>intro hc<;>(try simp only[zhd]at hc)<;>(try have hw:=K0a hc)<;>(refine zq32 ?_;try exact zT))
  all_goals(try clear zx)
  rw[hst]
  exact K0d hF zle (Q0c rfl (Z0c zno32))
 |cons r R=>
  have hrr:R.length<=39:=by simpa using hrl
  (have zx:=hR;refine zq32 ?_;try exact zT)
  repeat'(apply zK.s<;>intro hc<;>(try simp only[zhd]at hc)<;>(try have hw:=K0a hc)<;>(refine zq32 ?_;try exact zT))
  all_goals(try clear zx)
  rw[hst]
  exact K0d hF zle (Q0c rfl (Z0c zno32))
theorem partB_nv(l:List Int): (partB l).tl≠.view:=nofun
def oneS: X0a:={Players:=1,Period:=1,Grace:=0,Start:=0,Frames:=50,Seed:=0,Rate:=4607182418800017408,Depth:=4617315517961601024,Rules:=⟨.nil,[],fun _=>rfl⟩,Tokens:=⟨.exact,[3],nofun⟩}
def R92: Rel:=fun args p r=>args=[]/\r=.ret oneS.cv p
theorem t92{T:XCall}(h:Has T 92 R92) {p:Hp}:T 92 [] p=.ret oneS.cv p:=h _ _ _ ⟨rfl,rfl⟩
theorem zq92{A B:Prop}(k:B)(h:A=B:=by have zy:=zA @zw92<|zA @rs92<|zA @tt24<|zA @tt61<|zA ti24.eq_1<|zA ti61.eq_1<|zA @Z0e<|@zsl24;exact zQ): A:=h▸k
theorem c92: Con C 92 R92:=by
 refine V0e C ?_ ?_ ?_
 ·rintro args p r r' ⟨h,e⟩ ⟨h',e'⟩
  subst e;subst e';simp_all[X0a.inj_iff,K0s]
 ·rintro args p r ⟨h,rfl⟩;exact zr1
 rintro args p r ⟨rfl,rfl⟩
 refine zW C false [] zT rfl xf92 zc92_ok fun call zh hF=>?_
 clear zh
 (have zx:=zT;refine zq92 ?_;try exact zT)
 repeat'(apply zK.s<;>intro hc<;>(try simp only[zhd]at hc)<;>(try have hw:=K0a hc)<;>(refine zq92 ?_;try exact zT))
 all_goals(try clear zx)
 exact K0d hF zle (Q0c rfl (Z0c (by intro jj hj;rcases(X0a.has oneS jj).1 hj with h|h<;>cases h)))
theorem Q1b: legalC oneS=true:=by decide +kernel
theorem oneS_bits: bodiesN (firstS oneS).Bodies=185:=by
 have h:firstS oneS=firstK oneS 1:=by unfold firstS;rw[if_pos Q1b];rfl
 rw[h];decide +kernel
theorem oneS_x: (nth (firstS oneS).Bodies 0).X=2048:=by
 have h:firstS oneS=firstK oneS 1:=by unfold firstS;rw[if_pos Q1b];rfl
 rw[h];decide +kernel
def R34: Rel:=fun args p r=>args=[]/\r=.ret (Bo true) p
theorem t34{T:XCall}(h:Has T 34 R34) {p:Hp}:T 34 [] p=.ret (Bo true) p:=h _ _ _ ⟨rfl,rfl⟩
theorem zdis34{P:Prop}(h:P:=by first|exact zdis|(simp only[Hp.bump_n,Hp.znew_n,Hp.zset_n,List.length_nil,List.length_cons,List.length_append,List.length_map,V0k];(first|done|omega))|(simp (disch:=first|exact zd1|(simp only[Hp.bump_n,Hp.znew_n,Hp.zset_n,List.length_nil,List.length_cons,List.length_append,List.length_map,V0k];(first|done|omega))) only[zheap,zx];(first|done|rfl))|fail): P:=h
theorem zq34{A B:Prop}(k:B)(h:A=B:=by have zy:=zA @zw34<|zA @rs34<|zA @tt3<|zA @tt34<|zA @tt61<|zA @tt63<|zA @tt66<|zA @tt68<|zA @tt69<|zA ti3.eq_1<|zA ti34.eq_1<|zA ti61.eq_1<|zA ti63.eq_1<|zA ti66.eq_1<|zA ti68.eq_1<|zA ti69.eq_1<|zA @t_92<|zA @t_58<|zA @t_33<|zA @t_36<|zA @t_35<|zA @Z0e<|zA @X0f<|zA @Q0f<|zA @zsl63<|zA @zsl68<|@V0k;have zd:=@zdis34;exact zQd): A:=h▸k
theorem zno34{P:Prop}(h:P:=by intro jj;simp[CV.has,CV.hasL,fault,K0b.nohas,V0a.nohas,Q0a.nohas]): P:=h
theorem c34: Con C 34 R34:=by
 refine V0e C ?_ ?_ ?_
 ·rintro args p r r' ⟨h,e⟩ ⟨h',e'⟩
  subst e;subst e';simp_all[X0a.inj_iff,V0a.inj_iff,Q0a.inj_iff,X0h]
 ·rintro args p r ⟨h,rfl⟩;exact zr1
 rintro args p r ⟨rfl,rfl⟩
 refine zW C false [(92,R92),(58,R58),(33,R33),(36,R36),(35,R35)] ⟨c92,c58,c33,c36,c35,zT⟩ rfl xf34 zc34_ok fun call zh hF=>?_
 have t_92:=@t92 _ zh.1
 have t_58:=@t58 _ zh.2.1
 have t_33:=@t33 _ zh.2.2.1
 have t_36:=@t36 _ zh.2.2.2.1
 have t_35:=@t35 _ zh.2.2.2.2.1
 clear zh
 have hL:=Q1b
 have hf:=firstS_right hL
 have hR:=hf.1
 have hd:=first_dice oneS
 have hrl:=read_lay hR hd
 have hlen:(layS oneS (firstS oneS)).length=37:=by
  unfold layS;rw[V0i,Z1m hR,oneS_bits];rfl
 have hby:=X05 oneS (firstS oneS)
 have hx:=oneS_x
 have ht:oneS.Tokens.l.length<=1000000:=by decide
 have hrr:oneS.Rules.l.length<=1000000:=by decide
 have hb:=(firstS oneS).hBodies
 generalize hS:firstS oneS=S at hR hrl hlen hby hx hb
 have hl2:((layS oneS S).length:Int)=37:=by omega
 have hr1:(readState oneS (layS oneS S)).1=S:=by rw[hrl]
 have hr2:(readState oneS (layS oneS S)).2=0:=by rw[hrl]
 have hde:decide (S=S)=true:=by simp
 have hv:(partB (layS oneS S)).tl≠.view:=partB_nv _
 have hb2:∀x∈(partB (layS oneS S)).l,0<=x/\x<=255:=hby
 (have zx:=zA hS (zA hR (zA hl2 (zA hr1 (zA hr2 (zA hde hx)))));refine zq34 ?_;try exact zT)
 repeat'(apply zK.s<;>intro hc<;>(try simp only[zhd]at hc)<;>(try have hw:=K0a hc)<;>(refine zq34 ?_;try exact zT))
 all_goals(try clear zx)
 exact K0d hF zle (Q0c rfl (Z0c zno34))
def J86(l:Lst X0b)(p:Hp)(n:Nat)(ρ:Env)(q:Hp): Prop:=
 ∃(k:Nat) (acc:Lst Z0b),n=16-k/\k<=16/\k<=l.l.length/\ρ 0=l.cv X0b.cv/\ρ 3=acc.cv Z0b.cv/\ρ 4=I k/\acc.l=(l.l.take k).map fixOp/\(acc.tl=.nil\/∃j,acc.tl=.own j/\p.n<=j/\j<q.n/\q.t.get j=some (.tail acc.l.length)/\0<acc.l.length)/\p.n<=q.n/\HpLe p q
def R86: Rel:=fun args p r=>∃(l:Lst X0b),args=[l.cv X0b.cv]/\r=.ret (Lst.cv Z0b.cv (partL (rulesOf l.l))) p
theorem t86{T:XCall}(h:Has T 86 R86)(l:Lst X0b){p:Hp}:T 86 [l.cv X0b.cv] p=.ret (Lst.cv Z0b.cv (partL (rulesOf l.l))) p:=h _ _ _ ⟨l,rfl,rfl⟩
theorem zq86{A B:Prop}(k:B)(h:A=B:=by have zy:=zA @zw86<|zA @rs86<|zA @tt3<|zA @tt22<|zA @tt23<|zA @tt29<|zA @tt31<|zA ti3.eq_1<|zA ti22.eq_1<|zA ti23.eq_1<|zA ti29.eq_1<|zA ti31.eq_1<|zA @t_21<|zA @V08<|zA @K0q<|zA @zsl22<|@zsl23;exact zQ): A:=h▸k
theorem c86: Con C 86 R86:=by
 refine V0e C ?_ ?_ ?_
 ·rintro args p r r' ⟨l,h,e⟩ ⟨l',h',e'⟩
  subst e;subst e';simp_all[X0b.inj_iff,Z0b.inj_iff,Q17,V0r]
 ·rintro args p r ⟨l,h,rfl⟩;exact zr1
 rintro args p r ⟨l,rfl,rfl⟩
 refine zW C false [(21,R21)] ⟨c21,zT⟩ rfl xf86 zc86_ok fun call zh hF=>?_
 have t_21:=@t21 _ zh.1
 clear zh
 (have zx:=zT;refine zq86 ?_;try exact zT)
 repeat'(apply zK.s<;>intro hc<;>(try simp only[zhd]at hc)<;>(try have hw:=K0a hc)<;>(refine zq86 ?_;try exact zT))
 all_goals(try clear zx)
 show W C false noExt call (ZC.block 0 (ZC.loop zn86_9)) _ _ (seqQ _ _)
 refine W_cut C false noExt call _ _ _ _ (fun ρ q=>∃acc:Lst Z0b,ρ 3=acc.cv Z0b.cv/\acc.l=rulesOf l.l/\(acc.tl=.nil\/(∃j,acc.tl=.own j)/\0<acc.l.length)/\HpLe p q) ?_ ?_
 ·(show W C false noExt call (ZC.loop zn86_9) _ _ _);refine Y0g C false noExt call zn86_9 _ _ _ (J86 l p) 16 ⟨0,⟨.nil,[],fun _=>rfl⟩,rfl,by omega,by omega,(by simp[put_at,K0c,K0e]),by simp[put_at,K0c,K0e,Lst.cv],(by simp[put_at,K0c,K0e]),by simp,.inl rfl,by omega,zle⟩ ?_
  rintro n ρ q ⟨k,⟨tl,al,ao⟩,rfl,hk,hkl,e0,e3,e4,hacc,happ,hn,hle⟩
  have hal:al.length=k:=by simp only at hacc;rw[hacc];simp;omega
  by_cases hlt:(k:Int)<l.l.length
  ·by_cases h16:(k:Int)<16
   ·have htk:=take_nx (l:=l.l) (k:=k) (by omega)
    generalize hx:nth l.l k=x at htk
    cases hR:opRight (handOp x) with
    |true=>
     have hfx:fixOp x=handOp x:=by simp[fixOp,hR]
     have hR2:=hR
     simp only[opRight,Bool.and_eq_true]at hR2
     have w1:=K0a hR2.1.1
     have w2:=K0a hR2.1.2
     have w3:=K0a hR2.2
     have n1:¬(handOp x).Code<1:=by omega
     have n2:¬(13:Int)<(handOp x).Code:=by omega
     have n3:¬(handOp x).A < -1000000:=by omega
     have n4:¬(1000000:Int)<(handOp x).A:=by omega
     have n5:¬(handOp x).B < -1000000:=by omega
     have n6:¬(1000000:Int)<(handOp x).B:=by omega
     rcases happ with ht|⟨j,ht,hj1,hj2,g1,hj4⟩
     ·simp only at ht
      subst ht
      (have zx:=zA e0 (zA e3 (zA e4 (zA hlt (zA h16 (zA hx (zA n1 (zA n2 (zA n3 (zA n4 (zA n5 n6))))))))));refine zq86 ?_;try exact zT)
      repeat'(apply zK.s<;>intro hc<;>(try simp only[zhd]at hc)<;>(try have hw:=K0a hc)<;>(refine zq86 ?_;try exact zT))
      all_goals(try clear zx)
      exact⟨16-(k+1),by omega,k+1,⟨.own (q.n+1),al++[fixOp x],nofun⟩,rfl,by omega,by omega,zev,by simp[put_at,K0c,hfx],zev,by simp only at hacc;rw[htk,List.map_append,hacc];rfl,.inr ⟨q.n+1,rfl,by omega,zb9,by simp (disch:=first|exact zdl|fail) only[zheap,List.length_append,List.length_cons,List.length_nil],by simp⟩,zb9,zlq⟩
     ·simp only at ht g1 hj4
      subst ht
      (have zx:=zA e0 (zA e3 (zA e4 (zA hlt (zA h16 (zA hx (zA n1 (zA n2 (zA n3 (zA n4 (zA n5 (zA n6 g1)))))))))));refine zq86 ?_;try exact zT)
      repeat'(apply zK.s<;>intro hc<;>(try simp only[zhd]at hc)<;>(try have hw:=K0a hc)<;>(refine zq86 ?_;try exact zT))
      all_goals(try clear zx)
      exact⟨16-(k+1),by omega,k+1,⟨.own (q.n+1),al++[fixOp x],nofun⟩,rfl,by omega,by omega,zev,by simp[put_at,K0c,hfx],zev,by simp only at hacc;rw[htk,List.map_append,hacc];rfl,.inr ⟨q.n+1,rfl,by omega,zb9,by simp (disch:=first|exact zdl|fail) only[zheap,List.length_append,List.length_cons,List.length_nil],by simp⟩,zb9,zlq⟩
    |false=>
     have hfx:fixOp x=⟨13,0,0⟩:=by simp[fixOp,hR]
     have hkill:¬((handOp x).Code<1)->¬((13:Int)<(handOp x).Code)->¬((handOp x).A < -1000000)->¬((1000000:Int)<(handOp x).A)->¬((handOp x).B < -1000000)->¬((1000000:Int)<(handOp x).B)->False:=by
      intro a b c d e f
      have:opRight (handOp x)=true:=by simp[opRight,within];omega
      rw[hR]at this;cases this
     rcases happ with ht|⟨j,ht,hj1,hj2,g1,hj4⟩
     ·simp only at ht
      subst ht
      (have zx:=zA e0 (zA e3 (zA e4 (zA hlt (zA h16 hx))));refine zq86 ?_;try exact zT)
      repeat'(apply zK.s<;>intro hc<;>(try simp only[zhd]at hc)<;>(try have hw:=K0a hc)<;>(refine zq86 ?_;try exact zT))
      all_goals(try clear zx)
      all_goals first|exact(hkill (by assumption) (by assumption) (by assumption) (by assumption) (by assumption) (by assumption)).elim|exact⟨16-(k+1),by omega,k+1,⟨.own (q.n+1),al++[fixOp x],nofun⟩,rfl,by omega,by omega,zev,by simp[put_at,K0c,hfx],zev,by simp only at hacc;rw[htk,List.map_append,hacc];rfl,.inr ⟨q.n+1,rfl,by omega,zb9,by simp (disch:=first|exact zdl|fail) only[zheap,List.length_append,List.length_cons,List.length_nil],by simp⟩,zb9,zlq⟩
     ·simp only at ht g1 hj4
      subst ht
      (have zx:=zA e0 (zA e3 (zA e4 (zA hlt (zA h16 (zA hx g1)))));refine zq86 ?_;try exact zT)
      repeat'(apply zK.s<;>intro hc<;>(try simp only[zhd]at hc)<;>(try have hw:=K0a hc)<;>(refine zq86 ?_;try exact zT))
      all_goals(try clear zx)
      all_goals first|exact(hkill (by assumption) (by assumption) (by assumption) (by assumption) (by assumption) (by assumption)).elim|exact⟨16-(k+1),by omega,k+1,⟨.own (q.n+1),al++[fixOp x],nofun⟩,rfl,by omega,by omega,zev,by simp[put_at,K0c,hfx],zev,by simp only at hacc;rw[htk,List.map_append,hacc];rfl,.inr ⟨q.n+1,rfl,by omega,zb9,by simp (disch:=first|exact zdl|fail) only[zheap,List.length_append,List.length_cons,List.length_nil],by simp⟩,zb9,zlq⟩
   ·(have zx:=zA e0 (zA e3 (zA e4 (zA hlt h16)));refine zq86 ?_;try exact zT)
    repeat'(apply zK.s<;>intro hc<;>(try simp only[zhd]at hc)<;>(try have hw:=K0a hc)<;>(refine zq86 ?_;try exact zT))
    all_goals(try clear zx)
    have hk16:k=16:=by omega
    subst hk16
    exact⟨⟨tl,al,ao⟩,zev,hacc,happ.imp id fun⟨j,h1,_,_,_,h5⟩=>⟨⟨j,h1⟩,h5⟩,hle⟩
  ·(have zx:=zA e0 (zA e3 (zA e4 hlt));refine zq86 ?_;try exact zT)
   repeat'(apply zK.s<;>intro hc<;>(try simp only[zhd]at hc)<;>(try have hw:=K0a hc)<;>(refine zq86 ?_;try exact zT))
   all_goals(try clear zx)
   have ht:l.l.take k=l.l.take 16:=by rw[List.take_of_length_le (by omega),List.take_of_length_le (by omega)]
   exact⟨⟨tl,al,ao⟩,zev,by rw[hacc,ht];rfl,happ.imp id fun⟨j,h1,_,_,_,h5⟩=>⟨⟨j,h1⟩,h5⟩,hle⟩
 rintro ρ q ⟨acc,e3,hacc,happ,hle⟩
 (have zx:=e3;refine zq86 ?_;try exact zT)
 repeat'(apply zK.s<;>intro hc<;>(try simp only[zhd]at hc)<;>(try have hw:=K0a hc)<;>(refine zq86 ?_;try exact zT))
 all_goals(try clear zx)
 refine K0d hF zlq ?_
 rw[<- hacc]
 exact Q1v Z0b.nohas acc _ happ
def J31(x:Y0a)(p:Hp)(n:Nat)(ρ:Env)(q:Hp): Prop:=
 ∃(k:Nat) (tk:Lst Int),n=(cfgP x).toNat-k/\k<=(cfgP x).toNat/\ρ 1=.ptr p.n []/\ρ 2=.ptr (p.n+1) []/\ρ 3=.ptr (p.n+1+1+22) []/\ρ 4=I k/\q.t.get p.n=some (.var sh57 x.cv)/\q.t.get (p.n+1)=some (.var sh61 X0a.zero.cv)/\q.t.get (p.n+1+1+22)=some (.var sh61 (cfgWith x tk).cv)/\tk.l=cfgTok x k/\(tk.tl=.nil\/∃j,tk.tl=.own j/\p.n+1+1+22<j/\j<q.n/\q.t.get j=some (.tail tk.l.length)/\0<tk.l.length)/\p.n+1+1+22<q.n/\HpLe p q
def R31: Rel:=fun args p r=>∃(x:Y0a),args=[x.cv]/\r=.ret (cfgOf x).cv p
theorem t31{T:XCall}(h:Has T 31 R31)(x:Y0a){p:Hp}:T 31 [x.cv] p=.ret (cfgOf x).cv p:=h _ _ _ ⟨x,rfl,rfl⟩
theorem zq31{A B:Prop}(k:B)(h:A=B:=by have zy:=zA @zw31<|zA @rs31<|zA @tt3<|zA @tt22<|zA @tt23<|zA @tt24<|zA @tt57<|zA @tt59<|zA @tt61<|zA ti3.eq_1<|zA ti22.eq_1<|zA ti23.eq_1<|zA ti24.eq_1<|zA ti57.eq_1<|zA ti59.eq_1<|zA ti61.eq_1<|zA @t_37<|zA @t_86<|zA @Q0v<|zA @Z0e<|zA @zsl22<|zA @zsl23<|@zsl24;exact zQf): A:=h▸k
theorem zge31{P:Prop}(h:P:=by simp (disch:=first|exact zdl|fail) only[zheap];first|done|rfl): P:=h
theorem c31: Con C 31 R31:=by
 refine V0e C ?_ ?_ ?_
 ·rintro args p r r' ⟨x,h,e⟩ ⟨x',h',e'⟩
  subst e;subst e';simp_all[Y0a.inj_iff,X0a.inj_iff,Q17,V0r,K0s,Q17]
 ·rintro args p r ⟨x,h,rfl⟩;exact zr1
 rintro args p r ⟨x,rfl,rfl⟩
 refine zW C false [(37,R37),(86,R86)] ⟨c37,c86,zT⟩ rfl xf31 zc31_ok fun call zh hF=>?_
 have t_37:=@t37 _ zh.1
 have t_86:=@t86 _ zh.2.1
 clear zh
 have p1:=V0g (n:=x.Period) (m:=3) (by omega)
 have p2:=V0g (n:=x.Frames) (m:=90) (by omega)
 have p3:=V0g (n:=x.Players) (m:=4) (by omega)
 have p4:=V0g (n:=w64 (x.Players.tdiv 11)) (m:=8) (by omega)
 have p5:=V0g (n:=x.Rate) (m:=9) (by omega)
 have p6:=V0g (n:=w64 (x.Rate.tdiv 9)) (m:=40) (by omega)
 have p7:=V0g (n:=w64 (x.Seed.tdiv 3)) (m:=1000000) (by omega)
 have r1:=(rate_ok p5).1
 have r2:=(dept_ok p6).1
 have r3:=(dept_ok p6).2.1
 simp only[w64]at p4 p6 p7 r2 r3
 have hP:=Y1b x
 have hPn:(((cfgP x).toNat:Nat):Int)=cfgP x:=by omega
 suffices hloop:∀(ρ:Env) (q:Hp),ρ 1=.ptr p.n []->ρ 2=.ptr (p.n+1) []->ρ 3=.ptr (p.n+1+1+22) []->ρ 4=I 0->q.t.get p.n=some (.var sh57 x.cv)->q.t.get (p.n+1)=some (.var sh61 X0a.zero.cv)->q.t.get (p.n+1+1+22)=some (.var sh61 (cfgWith x ⟨.nil,[],fun _=>rfl⟩).cv)->p.n+1+1+22<q.n->HpLe p q->W C false noExt call (ZC.loop V1i) ρ q (blkQ 0 (seqQ (W C false noExt call (ZC.seq zn31_36 ZC.ret)) (endQ C [ResultVar.cell 2 61] fun r'=>ShrR p r' (XRes.ret (cfgOf x).cv p)))) by
  by_cases h11:x.Players.tmod 11=10
  ·have hcp:cfgP x=1+pick (w64 (x.Players.tdiv 11)) 8:=by simp[cfgP,h11]
   by_cases h3:0<x.Rate.tmod 3
   ·have hcr:cfgRate x=4613937818241073152:=by simp[cfgRate,h3]
    have hcd:cfgDepth x=4632233691727265792:=by simp[cfgDepth,h3]
    (have zx:=zA h11 (zA h3 (zA r1 (zA r2 r3)));refine zq31 ?_;try exact zT)
    repeat'(apply zK.s<;>intro hc<;>(try simp only[zhd]at hc)<;>(try have hw:=K0a hc)<;>(refine zq31 ?_;try exact zT))
    all_goals(try clear zx)
    refine hloop _ _ (by simp[put_at,K0c,K0e]) (by simp[put_at,K0c,K0e]) (by simp[put_at,K0c,K0e]) (by simp[put_at,K0c,K0e]) zge31 zge31 ?_ (zb9) zle
    simp (disch:=first|exact zdl|fail) only[zheap]
    simp only[cfgWith,hcp,hcr,hcd]
   ·have hcr:cfgRate x=rateF (pick x.Rate 9):=by simp[cfgRate,h3]
    have hcd:cfgDepth x=deptF (pick (w64 (x.Rate.tdiv 9)) 40):=by simp[cfgDepth,h3]
    (have zx:=zA h11 (zA h3 (zA r1 (zA r2 r3)));refine zq31 ?_;try exact zT)
    repeat'(apply zK.s<;>intro hc<;>(try simp only[zhd]at hc)<;>(try have hw:=K0a hc)<;>(refine zq31 ?_;try exact zT))
    all_goals(try clear zx)
    refine hloop _ _ (by simp[put_at,K0c,K0e]) (by simp[put_at,K0c,K0e]) (by simp[put_at,K0c,K0e]) (by simp[put_at,K0c,K0e]) zge31 zge31 ?_ (zb9) zle
    simp (disch:=first|exact zdl|fail) only[zheap]
    simp only[cfgWith,hcp,hcr,hcd]
  ·have hcp:cfgP x=1+pick x.Players 4:=by simp[cfgP,h11]
   by_cases h3:0<x.Rate.tmod 3
   ·have hcr:cfgRate x=4613937818241073152:=by simp[cfgRate,h3]
    have hcd:cfgDepth x=4632233691727265792:=by simp[cfgDepth,h3]
    (have zx:=zA h11 (zA h3 (zA r1 (zA r2 r3)));refine zq31 ?_;try exact zT)
    repeat'(apply zK.s<;>intro hc<;>(try simp only[zhd]at hc)<;>(try have hw:=K0a hc)<;>(refine zq31 ?_;try exact zT))
    all_goals(try clear zx)
    refine hloop _ _ (by simp[put_at,K0c,K0e]) (by simp[put_at,K0c,K0e]) (by simp[put_at,K0c,K0e]) (by simp[put_at,K0c,K0e]) zge31 zge31 ?_ (zb9) zle
    simp (disch:=first|exact zdl|fail) only[zheap]
    simp only[cfgWith,hcp,hcr,hcd]
   ·have hcr:cfgRate x=rateF (pick x.Rate 9):=by simp[cfgRate,h3]
    have hcd:cfgDepth x=deptF (pick (w64 (x.Rate.tdiv 9)) 40):=by simp[cfgDepth,h3]
    (have zx:=zA h11 (zA h3 (zA r1 (zA r2 r3)));refine zq31 ?_;try exact zT)
    repeat'(apply zK.s<;>intro hc<;>(try simp only[zhd]at hc)<;>(try have hw:=K0a hc)<;>(refine zq31 ?_;try exact zT))
    all_goals(try clear zx)
    refine hloop _ _ (by simp[put_at,K0c,K0e]) (by simp[put_at,K0c,K0e]) (by simp[put_at,K0c,K0e]) (by simp[put_at,K0c,K0e]) zge31 zge31 ?_ (zb9) zle
    simp (disch:=first|exact zdl|fail) only[zheap]
    simp only[cfgWith,hcp,hcr,hcd]
 intro ρ q e1 e2 e3 e4 g1 g2 g3 hn hle
 (show W C false noExt call (ZC.loop V1i) _ _ _);refine Y0g C false noExt call V1i _ _ _ (J31 x p) (cfgP x).toNat ⟨0,⟨.nil,[],fun _=>rfl⟩,rfl,by omega,e1,e2,e3,e4,g1,g2,g3,rfl,.inl rfl,hn,hle⟩ ?_
 clear e1 e2 e3 e4 g1 g2 g3 hn hle
 rintro n ρ q ⟨k,⟨tl,al,ao⟩,rfl,hk,e1,e2,e3,e4,g1,g2,g3,hal,happ,hn,hle⟩
 have hln:al.length=k:=by simp only at hal;rw[hal,V1b]
 by_cases hlt:(k:Int)<cfgP x
 ·have hpl:(cfgWith x ⟨tl,al,ao⟩).Players=cfgP x:=rfl
  have htk:(cfgWith x ⟨tl,al,ao⟩).Tokens=⟨tl,al,ao⟩:=rfl
  rcases happ with ht|⟨j,ht,hj1,hj2,g4,hj4⟩
  ·simp only at ht
   subst ht
   (have zx:=zA e1 (zA e2 (zA e3 (zA e4 (zA g1 (zA g2 (zA g3 (zA hlt (zA hpl htk))))))));refine zq31 ?_;try exact zT)
   repeat'(apply zK.s<;>intro hc<;>(try simp only[zhd]at hc)<;>(try have hw:=K0a hc)<;>(refine zq31 ?_;try exact zT))
   all_goals(try clear zx)
   exact⟨(cfgP x).toNat-(k+1),by omega,k+1,⟨.own (q.n+13),al++[tokAt x k],nofun⟩,rfl,by omega,zev,zev,zev,zev,zg9,zg9,zg9,by simp only at hal;rw[hal,K1o],.inr ⟨q.n+13,rfl,by omega,zb9,by simp (disch:=first|exact zdl|fail) only[zheap,List.length_append,List.length_cons,List.length_nil],by simp⟩,zb9,zlq⟩
  ·simp only at ht g4 hj4
   subst ht
   (have zx:=zA e1 (zA e2 (zA e3 (zA e4 (zA g1 (zA g2 (zA g3 (zA hlt (zA g4 (zA hpl htk)))))))));refine zq31 ?_;try exact zT)
   repeat'(apply zK.s<;>intro hc<;>(try simp only[zhd]at hc)<;>(try have hw:=K0a hc)<;>(refine zq31 ?_;try exact zT))
   all_goals(try clear zx)
   exact⟨(cfgP x).toNat-(k+1),by omega,k+1,⟨.own (q.n+13),al++[tokAt x k],nofun⟩,rfl,by omega,zev,zev,zev,zev,zg9,zg9,zg9,by simp only at hal;rw[hal,K1o],.inr ⟨q.n+13,rfl,by omega,zb9,by simp (disch:=first|exact zdl|fail) only[zheap,List.length_append,List.length_cons,List.length_nil],by simp⟩,zb9,zlq⟩
 ·have hpl:(cfgWith x ⟨tl,al,ao⟩).Players=cfgP x:=rfl
  have hk2:k=(cfgP x).toNat:=by omega
  (have zx:=zA e1 (zA e2 (zA e3 (zA e4 (zA g1 (zA g2 (zA g3 (zA hlt hpl)))))));refine zq31 ?_;try exact zT)
  repeat'(apply zK.s<;>intro hc<;>(try simp only[zhd]at hc)<;>(try have hw:=K0a hc)<;>(refine zq31 ?_;try exact zT))
  all_goals(try clear zx)
  refine K0d hF zlq ?_
  have hw:=weak_cfg x ⟨tl,al,ao⟩ p.n (happ.imp id fun⟨j,h1,_,_,_,h5⟩=>⟨⟨j,h1⟩,h5⟩)
  simp only at hal
  subst hk2
  subst hal
  exact hw
end Go.Proofs.Ytpchcfkebljopaa
end
section
namespace Go.Proofs.Ytpchcfkebljopaa
open Go.Cl Go Go.RowKit
def xor8(a b:Int): Int:=IntKind.u8.wrap ((BitVec.ofInt IntKind.u8.bits a ^^^ BitVec.ofInt IntKind.u8.bits b).toNat:Int)
theorem xor8_n(a b:Int): xor8 a b=((BitVec.ofInt 8 a ^^^ BitVec.ofInt 8 b).toNat:Int):=by
 have h:=(BitVec.ofInt 8 a ^^^ BitVec.ofInt 8 b).isLt
 show((BitVec.ofInt 8 a ^^^ BitVec.ofInt 8 b).toNat:Int) % 2^8=_
 omega
theorem xor8_rng(a b:Int): 0<=xor8 a b/\xor8 a b<=255:=by
 have h:=(BitVec.ofInt 8 a ^^^ BitVec.ofInt 8 b).isLt
 rw[xor8_n];omega
def turned(B:List Int)(k:Nat)(b:Int): List Int:=B.set k (xor8 (nth B k) b)
theorem turned_byte{B:List Int}(h:∀x∈B,0<=x/\x<=255)(k:Nat)(b:Int): ∀x∈turned B k b,0<=x/\x<=255:=by
 intro x hx
 rcases List.mem_or_eq_of_mem_set hx with h'|h'
 ·exact h x h'
 ·rw[h'];exact xor8_rng _ _
end Go.Proofs.Ytpchcfkebljopaa
end
section
namespace Go.Proofs.Ytpchcfkebljopaa
open Go.Cl Go Go.RowKit
set_option maxRecDepth 100000
set_option linter.constructorNameAsVariable false
theorem app68m(p:Hp)(s:Lst Int)(h0:s.l≠[])(hl:s.l.length<=140737488355328): xappend C true p 68 68 (Lst.cv Y8 ⟨.exact,[],nofun⟩) (Lst.cv Y8 s)=.ret (.slc p.n [] 0 s.l.length) (p.new (Wrow s.l)):=by
 obtain⟨tl,l,o⟩:=s
 simp only at h0 hl ⊢
 cases l with
 |nil=>exact absurd rfl h0
 |cons x l=>
  have ha:allSh ((x::l).map Y8) sh5=true:=Z1j (fun x=>rfl) (x::l)
  simp only[List.map_cons]at ha
  simp only[List.length_cons]at hl
  have h3:Nat.ble ((0+(l.length+1))*1) 140737488355328=true:=Nat.ble_eq_true_of_le (by omega)
  have h4:Nat.ble (0+(l.length+1)) 9223372036854775807=true:=Nat.ble_eq_true_of_le (by omega)
  simp only[xappend,tt68,ti68,tt5,ti5,cond_true,Lst.cv,xsrc,srcOf,List.map_cons,List.map_nil,ha,xappmut,List.length_cons,List.length_nil,List.length_map,h3,h4,Wrow]
  simp[allSh,Tail.full]
theorem shr_row{args:List CV}{p p' q0:Hp}{v u:CV}{J:Nat}{B:List Int}(hF:Fine args p)(hn:q0.n=p.n)(hq:∀k o,q0.t.get k=some o->p.t.get k=some o/\k≠J/\p'.t.get k=some o)(hT:p'.t.get J=some (Wrow B))(hv:CV.weak (ren p.n J) (p.n+1) v u): ShrR p (.ret v p') (.ret u (q0.new (Wrow B))):=
 Y01 hF (J:=J) hn (fun k o h=>⟨hF.dom k o (hq k o h).1,(hq k o h).2.1,.inl ⟨(hq k o h).1,(hq k o h).2.2⟩⟩) ⟨_,hT,Q1n _ _ _⟩ hv
theorem row_weak(p J m:Nat): CV.weak (ren p J) (p+1) (.slc J [] 0 m) (.slc p [] 0 m):=by simp[CV.weak,ren]
theorem Wrow_e(B:List Int): Wrow B=.var (.n (List.replicate B.length .s)) (.agg (B.map Y8)):=rfl
theorem sub68(n k:Nat)(q:List Nat): subEq (.n (List.replicate n .s)) (k::q) sh5=(decide (k<n)&&subEq sh5 q sh5):=Z0y n k q sh5 sh5
theorem xor8_e(a b:Int): IntKind.u8.wrap ((BitVec.ofInt IntKind.u8.bits a ^^^ BitVec.ofInt IntKind.u8.bits b).toNat:Int)=xor8 a b:=rfl
theorem src68(p:Hp)(j:Nat)(B:List Int)(hg:p.t.get j=some (Wrow B)): srcOf C p.h 68 (.slc j [] 0 B.length)=some (B.map Y8):=by
 have ht:tgt p.h (.ptr j [])=some (.agg (B.map Y8)):=by
  simp only[tgt,Hp.h,hg,Wrow,Option.map_some,XObj.obj,CV.at]
 have hk:List.take B.length (B.map Y8)=B.map Y8:=List.take_of_length_le (by simp)
 simp only[srcOf,tt68,ti68,ht]
 simp[hk]
theorem app68r(p:Hp)(j:Nat)(B:List Int)(h0:B≠[])(hl:B.length<=140737488355328)(hg:p.t.get j=some (Wrow B)): xappend C false p 68 68 (Lst.cv Y8 ⟨.exact,[],nofun⟩) (.slc j [] 0 B.length)=.ret (Lst.cv Y8 ⟨.own p.n,B,nofun⟩) (p.new (.tail B.length)):=by
 have h:=sl_app68 p ⟨.exact,[],nofun⟩ ⟨.part,B,nofun⟩ (by simp;omega)
 cases B with
 |nil=>exact absurd rfl h0
 |cons x B=>
  rw[appT_c _ _ _ _ _ _ _ _ _ (.inr rfl)]at h
  simp only[xappend,tt68,ti68,tt5,ti5,cond_false]at h ⊢
  rw[src68 p j _ hg]
  have hs:srcOf C p.h 68 (Lst.cv Y8 ⟨.part,x::B,nofun⟩)=some ((x::B).map Y8):=by simp only[srcOf,tt68,ti68,Lst.cv]
  rw[hs,show([]:List Int).length+(B.length+1)=(x::B).length by simp]at h
  exact h
theorem nil_slc(j n:Nat): nilness (.slc j [] 0 n)=some false:=nd rfl
def R159r: Rel:=fun args p r=>∃(j:Nat) (B:List Int),args=[.slc j [] 0 B.length]/\(p.t.get j=some (Wrow B))/\(B.length<=140737488355328)/\(B≠[])/\r=.ret (Lst.cv Y8 (partB B)) p
theorem t159r{T:XCall}(h:Has T 159 R159r)(j:Nat)(B:List Int){p:Hp}(h1:p.t.get j=some (Wrow B))(h2:B.length<=140737488355328)(h3:B≠[]): T 159 [.slc j [] 0 B.length] p=.ret (Lst.cv Y8 (partB B)) p:=h _ _ _ ⟨j,B,rfl,h1,h2,h3,rfl⟩
theorem zq159r{A B:Prop}(k:B)(h:A=B:=by have zy:=zA @zw159<|zA @rs159<|zA @tt68<|zA ti68.eq_1<|zA @zsl68<|zA @app68r<|zA @nil_slc<|zA @h1<|zA @h2<|@h3;exact zQ): A:=h▸k
theorem c159r: Con C 159 R159r:=by
 refine V0e C ?_ ?_ ?_
 ·rintro args p r r' ⟨j,B,h,h1,h2,h3,e⟩ ⟨j',B',h',h1',h2',h3',e'⟩
  subst e;subst e';(subst h;simp only[List.cons.injEq,CV.slc.injEq,and_true,true_and]at h';obtain⟨e0,_⟩:=h';subst e0;rw[h1]at h1';rw[Y0x (Option.some.inj h1')])
 ·rintro args p r ⟨j,B,h,h1,h2,h3,rfl⟩;exact zr1
 rintro args p r ⟨j,B,rfl,h1,h2,h3,rfl⟩
 refine zW C false [] zT rfl xf159 zc159_ok fun call zh hF=>?_
 clear zh
 have hd_h1:=hF.dom _ _ h1
 (have zx:=h1;refine zq159r ?_;try exact zT)
 repeat'(apply zK.s<;>intro hc<;>(try simp only[zhd]at hc)<;>(try have hw:=K0a hc)<;>(refine zq159r ?_;try exact zT))
 all_goals(try clear zx)
 cases B with
 |nil=>exact absurd rfl h3
 |cons x l=>exact K0d hF zle (X09 Z00 ⟨.exact,x::l,nofun⟩ _ _)
def R95r: Rel:=fun args p r=>∃(j:Nat) (B:List Int),args=[.slc j [] 0 B.length]/\(p.t.get j=some (Wrow B))/\(B.length<=140737488355328)/\(B≠[])/\r=.ret (.ptr p.n []) (p.new (rdr (partB B) 0))
theorem t95r{T:XCall}(h:Has T 95 R95r)(j:Nat)(B:List Int){p:Hp}(h1:p.t.get j=some (Wrow B))(h2:B.length<=140737488355328)(h3:B≠[]): T 95 [.slc j [] 0 B.length] p=.ret (.ptr p.n []) (p.new (rdr (partB B) 0)):=h _ _ _ ⟨j,B,rfl,h1,h2,h3,rfl⟩
theorem zq95r{A B:Prop}(k:B)(h:A=B:=by have zy:=zA @zw95<|zA @rs95<|zA @tt208<|zA ti208.eq_1<|zA @t_159r<|zA @Q0o<|zA @h1<|zA @h2<|@h3;exact zQ): A:=h▸k
theorem c95r: Con C 95 R95r:=by
 refine V0e C ?_ ?_ ?_
 ·rintro args p r r' ⟨j,B,h,h1,h2,h3,e⟩ ⟨j',B',h',h1',h2',h3',e'⟩
  subst e;subst e';(subst h;simp only[List.cons.injEq,CV.slc.injEq,and_true,true_and]at h';obtain⟨e0,_⟩:=h';subst e0;rw[h1]at h1';rw[Y0x (Option.some.inj h1')])
 ·rintro args p r ⟨j,B,h,h1,h2,h3,rfl⟩;exact zr1
 rintro args p r ⟨j,B,rfl,h1,h2,h3,rfl⟩
 refine zW C false [(159,R159r)] ⟨c159r,zT⟩ rfl xf95 zc95_ok fun call zh hF=>?_
 have t_159r:=@t159r _ zh.1
 clear zh
 have hd_h1:=hF.dom _ _ h1
 (have zx:=h1;refine zq95r ?_;try exact zT)
 repeat'(apply zK.s<;>intro hc<;>(try simp only[zhd]at hc)<;>(try have hw:=K0a hc)<;>(refine zq95r ?_;try exact zT))
 all_goals(try clear zx)
 exact shr_newo hF (rdr (partB B) 0) (rdr_has (fun j h=>by cases h) 0)
def R93r: Rel:=fun args p r=>∃(a b i j:Nat) (c:X0a) (B:List Int) (t:V0a),args=[.ptr a [],.ptr b [],.ptr i []]/\(p.t.get a=some (.var sh61 c.cv))/\(p.t.get b=some (.var sh68 (.slc j [] 0 B.length)))/\(p.t.get i=some (.var sh66 t.cv))/\(B≠[])/\(B.length<=140737488355328)/\(∀x∈B,0<=x/\x<=255)/\(p.t.get j=some (Wrow B))/\r=resRC i p (readAllB c B 0)
theorem t93r{T:XCall}(h:Has T 93 R93r)(a b i j:Nat)(c:X0a)(B:List Int)(t:V0a){p:Hp}(h1:p.t.get a=some (.var sh61 c.cv))(h2:p.t.get b=some (.var sh68 (.slc j [] 0 B.length)))(h3:p.t.get i=some (.var sh66 t.cv))(h4:B≠[])(h5:B.length<=140737488355328)(h6:∀x∈B,0<=x/\x<=255)(h7:p.t.get j=some (Wrow B)): T 93 [.ptr a [],.ptr b [],.ptr i []] p=resRC i p (readAllB c B 0):=h _ _ _ ⟨a,b,i,j,c,B,t,rfl,h1,h2,h3,h4,h5,h6,h7,rfl⟩
theorem zdis93r{P:Prop}(h:P:=by first|exact zdis|(simp only[Hp.bump_n,Hp.znew_n,Hp.zset_n,List.length_nil,List.length_cons,List.length_append,List.length_map,V0k];(first|done|omega))|(simp (disch:=first|exact zd1|(simp only[Hp.bump_n,Hp.znew_n,Hp.zset_n,List.length_nil,List.length_cons,List.length_append,List.length_map,V0k];(first|done|omega))) only[zheap,zx];(first|done|rfl))|fail): P:=h
theorem zq93r{A B:Prop}(k:B)(h:A=B:=by((try simp -dsimp (disch:=first|exact zdis93r|fail) only[zcore,zall,zopm,zop,zcallOp,qop,qbuiltin,ofOpt,List.map,reduceCtorEq,if_true,if_false,↓reduceIte,zbin,eqRes,qassert,qnum,qshift,qun,kindOf,allocV,List.nil_append,List.append_nil,List.cons_append,List.length_cons,List.length_nil,Nat.reduceAdd,Nat.reduceEqDiff,Nat.reduceLT,Nat.reduceSub,Nat.reduceMul,Int.reduceToNat,Int.reduceLE,Int.reduceLT,Int.reduceEq,Int.reduceNeg,Int.reduceAdd,Int.reduceSub,beq_self_eq_true,cond_true,cond_false,isConstOpd,xpanic,xconv,isBytes,qconv,List.length_map,List.map_nil,List.map_cons,concrete,Option.some.injEq,exists_eq',Option.map_some,Option.map_none,List.getElem?_cons_zero,List.getElem?_cons_succ,zw93,rs93,tt61,tt66,tt68,ti61,ti66,ti68,t_95r,t_94,Z0e,X0f,zsl68,resRS,V0k,h1,h2,h3,h4,h5,h6,h7,zx,hc]);rfl)): A:=h▸k
theorem c93r: Con C 93 R93r:=by
 refine V0e C ?_ ?_ ?_
 ·rintro args p r r' ⟨a,b,i,j,c,B,t,h,h1,h2,h3,h4,h5,h6,h7,e⟩ ⟨a',b',i',j',c',B',t',h',h1',h2',h3',h4',h5',h6',h7',e'⟩
  subst e;subst e';(subst h;simp only[List.cons.injEq,CV.ptr.injEq,and_true,true_and]at h';obtain⟨e0,e1,e2⟩:=h';subst e0;subst e1;subst e2;rw[h1]at h1';rw[h2]at h2';simp only[Option.some.injEq,XObj.var.injEq,true_and,X0a.inj_iff,CV.slc.injEq,and_true]at h1' h2';obtain⟨e3,_⟩:=h2';subst e3;rw[h7]at h7';rw[h1',Y0x (Option.some.inj h7')])
 ·rintro args p r ⟨a,b,i,j,c,B,t,h,h1,h2,h3,h4,h5,h6,h7,rfl⟩;first|(split<;>simp;done)|(simp;done)|(simp only[resM];split<;>simp;done)|(simp only[resD];split<;>simp;done)  | (unfold resRC;split<;>simp;done)
 rintro args p r ⟨a,b,i,j,c,B,t,rfl,h1,h2,h3,h4,h5,h6,h7,rfl⟩
 refine zW C false [(95,R95r),(94,R94)] ⟨c95r,c94,zT⟩ rfl xf93 zc93_ok fun call zh hF=>?_
 have t_95r:=@t95r _ zh.1
 have t_94:=@t94 _ zh.2.1
 clear zh
 have hd_h1:=hF.dom _ _ h1
 have hd_h2:=hF.dom _ _ h2
 have hd_h3:=hF.dom _ _ h3
 have hd_h7:=hF.dom _ _ h7
 have hi:=hF.dom _ _ h3
 cases hra:readAllB c B 0 with
 |error e=>
  (have zx:=zA hra (zA h1 (zA h2 (zA h3 h7)));refine zq93r ?_;try exact zT)
  repeat'(apply zK.s<;>intro hc<;>(try simp only[zhd]at hc)<;>(try have hw:=K0a hc)<;>(refine zq93r ?_;try exact zT))
  all_goals(try clear zx)
  exact V06 hF (fun k o h=>by have hd:=hF.dom _ _ h;simp (disch:=first|exact zdl|fail) only[Hp.bump_get,Hp.get_set_ne,Hp.get_new_ne];exact h) (V0f (Z0c (Q15 100 e)))
 |ok r=>
  obtain⟨u,a'⟩:=r
  (have zx:=zA hra (zA h1 (zA h2 (zA h3 h7)));refine zq93r ?_;try exact zT)
  repeat'(apply zK.s<;>intro hc<;>(try simp only[zhd]at hc)<;>(try have hw:=K0a hc)<;>(refine zq93r ?_;try exact zT))
  all_goals(try clear zx)
  exact Q0u hF hi (fun k o hk h=>by have hd:=hF.dom _ _ h;simp (disch:=first|exact zdl|fail) only[Hp.bump_get,Hp.get_set_ne,Hp.get_new_ne];exact h) ⟨_,Hp.get_set_self _ _ _,Y0i fun j hj=>(V0a.nohas u j hj).elim⟩ (V0f (Z0c tup0_no))
def R73r: Rel:=fun args p r=>∃(a b i j:Nat) (c:X0a) (B:List Int) (t:V0a),args=[.fn 93 [] [.ptr a [],.ptr b [],.ptr i []]]/\(p.t.get a=some (.var sh61 c.cv))/\(p.t.get b=some (.var sh68 (.slc j [] 0 B.length)))/\(p.t.get i=some (.var sh66 t.cv))/\(B≠[])/\(B.length<=140737488355328)/\(∀x∈B,0<=x/\x<=255)/\(p.t.get j=some (Wrow B))/\r=resCS i p (readAllB c B 0)
theorem t73r{T:XCall}(h:Has T 73 R73r)(a b i j:Nat)(c:X0a)(B:List Int)(t:V0a){p:Hp}(h1:p.t.get a=some (.var sh61 c.cv))(h2:p.t.get b=some (.var sh68 (.slc j [] 0 B.length)))(h3:p.t.get i=some (.var sh66 t.cv))(h4:B≠[])(h5:B.length<=140737488355328)(h6:∀x∈B,0<=x/\x<=255)(h7:p.t.get j=some (Wrow B)): T 73 [.fn 93 [] [.ptr a [],.ptr b [],.ptr i []]] p=resCS i p (readAllB c B 0):=h _ _ _ ⟨a,b,i,j,c,B,t,rfl,h1,h2,h3,h4,h5,h6,h7,rfl⟩
theorem zq73r{A B:Prop}(k:B)(h:A=B:=by((try simp -dsimp (disch:=first|exact zdis|fail) only[zcore,zall,zopm,zop,zcallOp,qop,qbuiltin,ofOpt,List.map,reduceCtorEq,if_true,if_false,↓reduceIte,zbin,eqRes,qassert,qnum,qshift,qun,kindOf,allocV,List.nil_append,List.append_nil,List.cons_append,List.length_cons,List.length_nil,Nat.reduceAdd,Nat.reduceEqDiff,Nat.reduceLT,Nat.reduceSub,Nat.reduceMul,Int.reduceToNat,Int.reduceLE,Int.reduceLT,Int.reduceEq,Int.reduceNeg,Int.reduceAdd,Int.reduceSub,beq_self_eq_true,cond_true,cond_false,isConstOpd,xpanic,xconv,isBytes,qconv,List.length_map,List.map_nil,List.map_cons,concrete,Option.some.injEq,exists_eq',Option.map_some,Option.map_none,List.getElem?_cons_zero,List.getElem?_cons_succ,zw73,rs73,xc73_z,zw149,qcA_n,qcB_n,qcP_n,qcP_r,qcP_p,qcE_n,qcE_r,tt1,tt4,tt5,tt20,tt44,tt194,ti1,ti4,ti5,ti20,ti44,ti194,t_93r,X0p,Y0u,resRC,fault,h1,h2,h3,h4,h5,h6,h7,zx,hc]);rfl)): A:=h▸k
theorem c73r: Con C 73 R73r:=by
 refine V0e C ?_ ?_ ?_
 ·rintro args p r r' ⟨a,b,i,j,c,B,t,h,h1,h2,h3,h4,h5,h6,h7,e⟩ ⟨a',b',i',j',c',B',t',h',h1',h2',h3',h4',h5',h6',h7',e'⟩
  subst e;subst e';(subst h;simp only[List.cons.injEq,CV.fn.injEq,CV.ptr.injEq,and_true,true_and]at h';obtain⟨e0,e1,e2⟩:=h';subst e0;subst e1;subst e2;rw[h1]at h1';rw[h2]at h2';simp only[Option.some.injEq,XObj.var.injEq,true_and,X0a.inj_iff,CV.slc.injEq,and_true]at h1' h2';obtain⟨e3,_⟩:=h2';subst e3;rw[h7]at h7';rw[h1',Y0x (Option.some.inj h7')])
 ·rintro args p r ⟨a,b,i,j,c,B,t,h,h1,h2,h3,h4,h5,h6,h7,rfl⟩;first|(split<;>simp;done)|(simp;done)|(simp only[resM];split<;>simp;done)|(simp only[resD];split<;>simp;done)  | (unfold resCS;split<;>simp;done)
 rintro args p r ⟨a,b,i,j,c,B,t,rfl,h1,h2,h3,h4,h5,h6,h7,rfl⟩
 refine ans_catch C false noExt (tabL C [(93,R93r)]) xc73_ok (K12 C) (K04 C _) xc73_a xc73_b xc73_p xc73_r (by kernel_rfl) (Nat.le_of_ble_eq_true (by kernel_rfl)) xc73_n fun hF=>?_
 have t_93r:=@t93r (tabL C [(93,R93r)]) (X15 C c93r [])
 generalize tabL C [(93,R93r)]=call at t_93r ⊢
 have hd_h1:=hF.dom _ _ h1
 have hd_h2:=hF.dom _ _ h2
 have hd_h3:=hF.dom _ _ h3
 have hd_h7:=hF.dom _ _ h7
 show W C false noExt call zn73_1 (argE [.fn 93 [] [.ptr a [],.ptr b [],.ptr i []]]) p (qcA C false noExt call zn73_3 Q1m V1m xc73 _)
 have hi:=hF.dom _ _ h3
 cases hra:readAllB c B 0 with
 |error e=>
  (have zx:=zA hra (zA h1 (zA h2 (zA h3 h7)));refine zq73r ?_;try exact zT)
  repeat'(apply zK.s<;>intro hc<;>(try simp only[zhd]at hc)<;>(try have hw:=K0a hc)<;>(refine zq73r ?_;try exact zT))
  all_goals(try clear zx)
  exact K0d hF (fun k o h=>by have hd:=hF.dom _ _ h;simp (disch:=first|exact zdl|fail) only[Hp.bump_get,Hp.get_set_ne,Hp.get_new_ne];exact h) (V0f (Z0c (by intro jj;simp[CV.has,CV.hasL,X0c.nohas])))
 |ok r=>
  obtain⟨u,a'⟩:=r
  (have zx:=zA hra (zA h1 (zA h2 (zA h3 h7)));refine zq73r ?_;try exact zT)
  repeat'(apply zK.s<;>intro hc<;>(try simp only[zhd]at hc)<;>(try have hw:=K0a hc)<;>(refine zq73r ?_;try exact zT))
  all_goals(try clear zx)
  exact Q0u hF hi (fun k o hk h=>by have hd:=hF.dom _ _ h;simp (disch:=first|exact zdl|fail) only[Hp.bump_get,Hp.get_set_ne,Hp.get_new_ne];exact h) ⟨_,zg9,Y0i fun j hj=>(V0a.nohas u j hj).elim⟩ (V0f (Z0c (by intro jj;simp[CV.has,CV.hasL,X0c.nohas])))
def J96r(s:Lst Int)(j:Nat)(B:List Int)(p:Hp)(n:Nat)(ρ:Env)(q:Hp): Prop:=
 ∃k:Nat,n=s.l.length-k/\k<=s.l.length/\ρ 0=s.cv Y8/\ρ 1=.slc j [] 0 B.length/\ρ 12=I s.l.length/\ρ 13=I k/\(∀j,j<k->nth s.l j=nth B j)/\HpLe p q
def R96r: Rel:=fun args p r=>∃(s:Lst Int) (j:Nat) (B:List Int),args=[s.cv Y8,.slc j [] 0 B.length]/\(s.l.length<=140737488355328)/\(B.length<=140737488355328)/\(p.t.get j=some (Wrow B))/\r=.ret (Bo (decide (s.l=B))) p
theorem t96r{T:XCall}(h:Has T 96 R96r)(s:Lst Int)(j:Nat)(B:List Int){p:Hp}(h1:s.l.length<=140737488355328)(h2:B.length<=140737488355328)(h3:p.t.get j=some (Wrow B)): T 96 [s.cv Y8,.slc j [] 0 B.length] p=.ret (Bo (decide (s.l=B))) p:=h _ _ _ ⟨s,j,B,rfl,h1,h2,h3,rfl⟩
theorem zq96r{A B:Prop}(k:B)(h:A=B:=by have zy:=zA @zw96<|zA @rs96<|zA @tt3<|zA @tt5<|zA @tt68<|zA ti3.eq_1<|zA ti5.eq_1<|zA ti68.eq_1<|zA @zsl68<|zA @ix68<|zA @a68<|zA @Wrow_e<|zA @sub68<|zA @h1<|zA @h2<|@h3;exact zQ): A:=h▸k
theorem zno96r{P:Prop}(h:P:=by intro jj;simp[CV.has,CV.hasL,fault,K0b.nohas]): P:=h
theorem c96r: Con C 96 R96r:=by
 refine V0e C ?_ ?_ ?_
 ·rintro args p r r' ⟨s,j,B,h,h1,h2,h3,e⟩ ⟨s',j',B',h',h1',h2',h3',e'⟩
  subst e;subst e';(subst h;simp only[List.cons.injEq,X0h,CV.slc.injEq,and_true,true_and]at h';obtain⟨e0,e1,_⟩:=h';subst e0;subst e1;rw[h3]at h3';rw[Y0x (Option.some.inj h3')])
 ·rintro args p r ⟨s,j,B,h,h1,h2,h3,rfl⟩;exact zr1
 rintro args p r ⟨s,j,B,rfl,h1,h2,h3,rfl⟩
 refine zW C false [] zT rfl xf96 zc96_ok fun call zh hF=>?_
 clear zh
 have hd_h3:=hF.dom _ _ h3
 by_cases hlen:s.l.length=B.length
 ·have hl2:(s.l.length:Int)=B.length:=by omega
  (have zx:=zA hl2 h3;refine zq96r ?_;try exact zT)
  repeat'(apply zK.s<;>intro hc<;>(try simp only[zhd]at hc)<;>(try have hw:=K0a hc)<;>(refine zq96r ?_;try exact zT))
  all_goals(try clear zx)
  (show W C false noExt call (ZC.loop K1b) _ _ _);refine Y0g C false noExt call K1b _ _ _ (J96r s j B p) s.l.length ⟨0,rfl,by omega,by simp[put_at,K0c,K0e],by simp[put_at,K0c,K0e,Z0k],by simp[put_at,K0c,hl2],zev,fun j hj=>by omega,zle⟩ ?_
  rintro n ρ q ⟨k,rfl,hk2,e0,e1,e12,e13,hj,hle⟩
  have g1:=hle _ _ h3
  by_cases hlt:(k:Int)<s.l.length
  ·have hlt2:(k:Int)<B.length:=by omega
   have hlt3:k<B.length:=by omega
   by_cases hne:nth s.l k=nth B k
   ·(have zx:=zA e0 (zA e1 (zA e12 (zA e13 (zA g1 (zA hlt (zA hlt2 (zA hlt3 (zA hne h3))))))));refine zq96r ?_;try exact zT)
    repeat'(apply zK.s<;>intro hc<;>(try simp only[zhd]at hc)<;>(try have hw:=K0a hc)<;>(refine zq96r ?_;try exact zT))
    all_goals(try clear zx)
    exact⟨s.l.length-(k+1),by omega,k+1,rfl,by omega,zev,zev,zev,zev,fun j hjk=>by
     by_cases h:j=k
     ·rw[h];exact hne
     ·exact hj j (by omega),zlq⟩
   ·(have zx:=zA e0 (zA e1 (zA e12 (zA e13 (zA g1 (zA hlt (zA hlt2 (zA hlt3 (zA hne h3))))))));refine zq96r ?_;try exact zT)
    repeat'(apply zK.s<;>intro hc<;>(try simp only[zhd]at hc)<;>(try have hw:=K0a hc)<;>(refine zq96r ?_;try exact zT))
    all_goals(try clear zx)
    have hl:¬s.l=B:=fun h=>hne (by rw[h])
    exact K0d hF zlq (Q0c (by simp[hl]) (Z0c (by intro jj;simp[CV.has])))
  ·have hl:s.l=B:=X04 hlen fun j h=>hj j (by omega)
   (have zx:=zA e0 (zA e1 (zA e12 (zA e13 (zA g1 (zA hlt h3)))));refine zq96r ?_;try exact zT)
   repeat'(apply zK.s<;>intro hc<;>(try simp only[zhd]at hc)<;>(try have hw:=K0a hc)<;>(refine zq96r ?_;try exact zT))
   all_goals(try clear zx)
   exact K0d hF zlq (Q0c (by simp[hl]) (Z0c (by intro jj;simp[CV.has])))
 ·have hl2:¬(s.l.length:Int)=B.length:=by omega
  have hne:¬s.l=B:=fun e=>hlen (by rw[e])
  (have zx:=zA hl2 h3;refine zq96r ?_;try exact zT)
  repeat'(apply zK.s<;>intro hc<;>(try simp only[zhd]at hc)<;>(try have hw:=K0a hc)<;>(refine zq96r ?_;try exact zT))
  all_goals(try clear zx)
  exact K0d hF zle (Q0c (by simp[hne]) (Z0c zno96r))
theorem bx68r(p:Hp)(j n:Nat): xbox C p 68 (.slc j [] 0 n)=.ret (.ptr p.n []) (p.new (.var sh68 (.slc j [] 0 n))):=by
 simp only[xbox,tt68];rfl
def R36r: Rel:=fun args p r=>∃(c:X0a) (j:Nat) (B:List Int),args=[c.cv,.slc j [] 0 B.length]/\(c.Tokens.l.length<=1000000)/\(c.Rules.l.length<=1000000)/\(B≠[])/\(B.length<=140737488355328)/\(∀x∈B,0<=x/\x<=255)/\(p.t.get j=some (Wrow B))/\r=.ret (.tup [(readState c B).1.cv,I (readState c B).2]) p
theorem zdis36r{P:Prop}(h:P:=by first|exact zdis|(simp only[Hp.bump_n,Hp.znew_n,Hp.zset_n,List.length_nil,List.length_cons,List.length_append,List.length_map,V0k];(first|done|omega))|(simp (disch:=first|exact zd1|(simp only[Hp.bump_n,Hp.znew_n,Hp.zset_n,List.length_nil,List.length_cons,List.length_append,List.length_map,V0k];(first|done|omega))) only[zheap,zx];(first|done|rfl))|fail): P:=h
theorem zq36r{A B:Prop}(k:B)(h:A=B:=by((try simp -dsimp (disch:=first|exact zdis36r|fail) only[zcore,zall,zopm,zop,zcallOp,qop,qbuiltin,ofOpt,List.map,reduceCtorEq,if_true,if_false,↓reduceIte,zbin,eqRes,qassert,qnum,qshift,qun,kindOf,allocV,List.nil_append,List.append_nil,List.cons_append,List.length_cons,List.length_nil,Nat.reduceAdd,Nat.reduceEqDiff,Nat.reduceLT,Nat.reduceSub,Nat.reduceMul,Int.reduceToNat,Int.reduceLE,Int.reduceLT,Int.reduceEq,Int.reduceNeg,Int.reduceAdd,Int.reduceSub,beq_self_eq_true,cond_true,cond_false,isConstOpd,xpanic,xconv,isBytes,qconv,List.length_map,List.map_nil,List.map_cons,concrete,Option.some.injEq,exists_eq',Option.map_some,Option.map_none,List.getElem?_cons_zero,List.getElem?_cons_succ,zw36,rs36,tt44,tt61,tt66,tt68,tt69,ti44,ti61,ti66,ti68,ti69,t_73r,t_33,t_96r,Z0e,X0f,X0p,zsl68,resCS,bx68r,V0k,hl,hr,h4,h5,h6,h7,zx,hc]);rfl)): A:=h▸k
theorem c36r: Con C 36 R36r:=by
 refine V0e C ?_ ?_ ?_
 ·rintro args p r r' ⟨c,j,B,h,hl,hr,h4,h5,h6,h7,e⟩ ⟨c',j',B',h',hl',hr',h4',h5',h6',h7',e'⟩
  subst e;subst e';(subst h;simp only[List.cons.injEq,X0a.inj_iff,CV.slc.injEq,and_true,true_and]at h';obtain⟨e0,e1,_⟩:=h';subst e0;subst e1;rw[h7]at h7';rw[Y0x (Option.some.inj h7')])
 ·rintro args p r ⟨c,j,B,h,hl,hr,h4,h5,h6,h7,rfl⟩;exact zr1
 rintro args p r ⟨c,j,B,rfl,hl,hr,h4,h5,h6,h7,rfl⟩
 refine zW C false [(73,R73r),(33,R33),(96,R96r)] ⟨c73r,c33,c96r,zT⟩ rfl xf36 zc36_ok fun call zh hF=>?_
 have t_73r:=@t73r _ zh.1
 have t_33:=@t33 _ zh.2.1
 have t_96r:=@t96r _ zh.2.2.1
 clear zh
 have hd_h7:=hF.dom _ _ h7
 cases hra:readAllB c B 0 with
 |error e=>
  have hrs:readState c B=(V0a.zero,2):=by unfold readState;rw[hra]
  rw[hrs]
  (have zx:=zA hra h7;refine zq36r ?_;try exact zT)
  repeat'(apply zK.s<;>intro hc<;>(try simp only[zhd]at hc)<;>(try have hw:=K0a hc)<;>(refine zq36r ?_;try exact zT))
  all_goals(try clear zx)
  all_goals exact K0d hF zle (Q0c rfl (Z0c (by intro jj;simp[CV.has,CV.hasL,V0a.nohas])))
 |ok r=>
  obtain⟨u,a'⟩:=r
  cases hR:stateRight c u with
  |false=>
   have hrs:readState c B=(V0a.zero,2):=by unfold readState;rw[hra];simp[hR]
   rw[hrs]
   (have zx:=zA hra (zA hR h7);refine zq36r ?_;try exact zT)
   repeat'(apply zK.s<;>intro hc<;>(try simp only[zhd]at hc)<;>(try have hw:=K0a hc)<;>(refine zq36r ?_;try exact zT))
   all_goals(try clear zx)
   all_goals exact K0d hF zle (Q0c rfl (Z0c (by intro jj;simp[CV.has,CV.hasL,V0a.nohas])))
  |true=>
   have hlen:=V1o hR
   by_cases he:layS c u=B
   ·have hrs:readState c B=(u,0):=by unfold readState;rw[hra];simp[hR,he]
    rw[hrs]
    have hde:decide (B=B)=true:=by simp
    (have zx:=zA hra (zA hR (zA he (zA hde h7)));refine zq36r ?_;try exact zT)
    repeat'(apply zK.s<;>intro hc<;>(try simp only[zhd]at hc)<;>(try have hw:=K0a hc)<;>(refine zq36r ?_;try exact zT))
    all_goals(try clear zx)
    all_goals exact K0d hF zle (Q0c rfl (Z0c (by intro jj;simp[CV.has,CV.hasL,V0a.nohas])))
   ·have hrs:readState c B=(V0a.zero,2):=by unfold readState;rw[hra];simp[hR,he]
    rw[hrs]
    (have zx:=zA hra (zA hR (zA he h7));refine zq36r ?_;try exact zT)
    repeat'(apply zK.s<;>intro hc<;>(try simp only[zhd]at hc)<;>(try have hw:=K0a hc)<;>(refine zq36r ?_;try exact zT))
    all_goals(try clear zx)
    all_goals exact K0d hF zle (Q0c rfl (Z0c (by intro jj;simp[CV.has,CV.hasL,V0a.nohas])))
def fullT(s:Lst Int): Lst Int:=⟨match s.tl with|.own _=>.part|t=>t,s.l,fun h=>s.ok (by revert h;cases s.tl<;>simp)⟩
theorem Y1r(s:Lst Int): (fullT s).l=s.l:=nd rfl
theorem sl68f(h:Heap)(s:Lst Int): qslice C h 68 (Lst.cv Y8 s) none (some (I s.l.length)) none=some (Lst.cv Y8 (fullT s)):=by
 obtain⟨tl,l,o⟩:=s
 simp only[qslice,tt68,ti68,tt5,Lst.cv]
 rw[if_pos (show((l.map Y8).all fun v=>decide (v.shape=ti5.sh))=true from shapes_s Y8_shape l)]
 have hq:qbnd (some (I (l.length:Int))) (l.map Y8).length (l.map Y8).length=some l.length:=by
  simp only[qbnd,List.length_map]
  rw[if_pos (by omega)];simp
 have hl:qbnd none 0 l.length=some 0:=rfl
 have ht:(l.map Y8).take l.length=l.map Y8:=List.take_of_length_le (by simp)
 simp only[hq,hl]
 cases tl<;>simp[fullT,ht]
theorem app68e(p:Hp)(s:Lst Int)(h0:s.l=[]): xappend C true p 68 68 (Lst.cv Y8 ⟨.exact,[],nofun⟩) (Lst.cv Y8 s)=.ret (Lst.cv Y8 ⟨.exact,[],nofun⟩) p:=by
 obtain⟨tl,l,o⟩:=s
 simp only at h0
 subst h0
 simp only[xappend,tt68,ti68,tt5,ti5,cond_true,Lst.cv,xsrc,srcOf,List.map_nil]
 rfl
def R42m: Rel:=fun args p r=>∃(s:Lst Int) (n:Int),args=[s.cv Y8,I n]/\(s.l.length<=140737488355328)/\(n=s.l.length)/\(s.l≠[])/\r=.ret (.slc p.n [] 0 s.l.length) (p.new (Wrow s.l))
theorem zdis42m{P:Prop}(h:P:=by first|exact zdis|(simp only[Hp.bump_n,Hp.znew_n,Hp.zset_n,List.length_nil,List.length_cons,List.length_append,List.length_map,Y1r];(first|done|omega))|(simp (disch:=first|exact zd1|(simp only[Hp.bump_n,Hp.znew_n,Hp.zset_n,List.length_nil,List.length_cons,List.length_append,List.length_map,Y1r];(first|done|omega))) only[zheap,zx];(first|done|rfl))|fail): P:=h
theorem zq42m{A B:Prop}(k:B)(h:A=B:=by have zy:=zA @zw42<|zA @rs42<|zA @tt3<|zA @tt68<|zA ti3.eq_1<|zA ti68.eq_1<|zA @zsl68<|zA @sl68f<|zA @app68m<|zA @Y1r<|zA @h1<|zA @h2<|@h3;have zd:=@zdis42m;exact zQd): A:=h▸k
theorem c42m: Con C 42 R42m:=by
 refine V0e C ?_ ?_ ?_
 ·rintro args p r r' ⟨s,n,h,h1,h2,h3,e⟩ ⟨s',n',h',h1',h2',h3',e'⟩
  subst e;subst e';simp_all[X0h,X0h]
 ·rintro args p r ⟨s,n,h,h1,h2,h3,rfl⟩;exact zr1
 rintro args p r ⟨s,n,rfl,h1,h2,h3,rfl⟩
 refine zW C true [] zT rfl xf42 zc42_ok fun call zh hF=>?_
 clear zh
 subst h2
 have h2:True:=trivial
 have hmn:min (s.l.length:Int) s.l.length=s.l.length:=by omega
 have hap:=fun(p:Hp)=>app68m p (fullT s) h3 h1
 rw[Y1r]at hap
 (have zx:=zA hmn hap;refine zq42m ?_;try exact zT)
 repeat'(apply zK.s<;>intro hc<;>(try simp only[zhd]at hc)<;>(try have hw:=K0a hc)<;>(refine zq42m ?_;try exact zT))
 all_goals(try clear zx)
 exact shr_row hF (J:=p.n) rfl (fun k o h=>by have hd:=hF.dom k o h;exact⟨h,by omega,by rw[Hp.get_new_ne _ _ (by omega)];exact h⟩) (Hp.get_new_self _ _) (row_weak _ _ _)
def R42e: Rel:=fun args p r=>∃(s:Lst Int) (n:Int),args=[s.cv Y8,I n]/\(n=s.l.length)/\(s.l=[])/\r=.ret (Lst.cv Y8 ⟨.exact,[],nofun⟩) p
theorem zq42e{A B:Prop}(k:B)(h:A=B:=by have zy:=zA @zw42<|zA @rs42<|zA @tt3<|zA @tt68<|zA ti3.eq_1<|zA ti68.eq_1<|zA @zsl68<|zA @sl68f<|zA @app68e<|zA @h2<|@h3;exact zQ): A:=h▸k
theorem c42e: Con C 42 R42e:=by
 refine V0e C ?_ ?_ ?_
 ·rintro args p r r' ⟨s,n,h,h2,h3,e⟩ ⟨s',n',h',h2',h3',e'⟩
  subst e;subst e';simp_all[X0h,X0h]
 ·rintro args p r ⟨s,n,h,h2,h3,rfl⟩;exact zr1
 rintro args p r ⟨s,n,rfl,h2,h3,rfl⟩
 refine zW C true [] zT rfl xf42 zc42_ok fun call zh hF=>?_
 clear zh
 subst h2
 have h2:True:=trivial
 have h4:(fullT s).l=[]:=by rw[Y1r];exact h3
 have hmn:min (0:Int) 0=0:=rfl
 have hsl:∀h:Heap,qslice C h 68 (Lst.cv Y8 s) none (some (I 0)) none=some (Lst.cv Y8 (fullT s)):=fun h=>by
  have:=sl68f h s
  rw[h3]at this
  exact this
 (have zx:=zA hmn (zA hsl h4);refine zq42e ?_;try exact zT)
 repeat'(apply zK.s<;>intro hc<;>(try simp only[zhd]at hc)<;>(try have hw:=K0a hc)<;>(refine zq42e ?_;try exact zT))
 all_goals(try clear zx)
 exact K0d hF zle (V0f (Z0c (by intro jj;simp[CV.has,CV.hasL,Lst.cv])))
def R42x: Rel:=fun args p r=>R42m args p r\/R42e args p r
theorem c42x: Con C 42 R42x:=con_or C c42m c42e (by
 rintro args p r r' ⟨s,n,e,_,_,h3,_⟩ ⟨s',n',e',_,h3',_⟩
 rw[e]at e'
 simp only[List.cons.injEq,X0h]at e'
 rw[e'.1]at h3
 exact absurd h3' h3)
theorem t42x{T:XCall}(h:Has T 42 R42x): (∀(s:Lst Int) (n:Int) {p:Hp},s.l.length<=140737488355328->n=s.l.length->s.l≠[]->T 42 [s.cv Y8,I n] p=.ret (.slc p.n [] 0 s.l.length) (p.new (Wrow s.l))) /\
  ∀(s:Lst Int) (n:Int) {p:Hp},n=s.l.length->s.l=[]->T 42 [s.cv Y8,I n] p=.ret (Lst.cv Y8 ⟨.exact,[],nofun⟩) p:=
 ⟨fun s n p h1 h2 h3=>h _ _ _ (.inl ⟨s,n,rfl,h1,h2,h3,rfl⟩),fun s n p h2 h3=>h _ _ _ (.inr ⟨s,n,rfl,h2,h3,rfl⟩)⟩
theorem tmod_low{key:Int}(h:key.tmod 2147483647<0): key.tmod 2147483647+2147483647=key % 2147483647:=by
 have h1:-2147483647<key.tmod 2147483647:=by
  have:=Int.lt_tmod_of_pos key (b:=2147483647) (by omega);exact this
 have h3:=Int.mul_tdiv_add_tmod key 2147483647
 generalize key.tdiv 2147483647=q at h3
 generalize key.tmod 2147483647=r at *
 omega
theorem tmod_high{key:Int}(h:¬key.tmod 2147483647<0): key.tmod 2147483647=key % 2147483647:=by
 have h2:=Int.tmod_lt_of_pos key (b:=2147483647) (by omega)
 have h3:=Int.mul_tdiv_add_tmod key 2147483647
 generalize key.tdiv 2147483647=q at h3
 generalize key.tmod 2147483647=r at *
 omega
def J128(key:Int)(s:Lst Int)(p:Hp)(n:Nat)(ρ:Env)(q:Hp): Prop:=
 ∃k:Nat,n=s.l.length-k/\k<=s.l.length/\ρ 1=s.cv Y8/\ρ 5=I ((s.l.take k).foldl sumStep (key % 2147483647+1))/\ρ 6=I k/\HpLe p q
def R128: Rel:=fun args p r=>∃(key:Int) (s:Lst Int),args=[I key,s.cv Y8]/\(-9223372036854775808<=key/\key<=9223372036854775807)/\(s.l.length<=1000000)/\(∀x∈s.l,0<=x/\x<=255)/\r=.ret (I (sumB key s.l)) p
theorem t128{T:XCall}(h:Has T 128 R128)(key:Int)(s:Lst Int){p:Hp}(h1:-9223372036854775808<=key/\key<=9223372036854775807)(h2:s.l.length<=1000000)(h5:∀x∈s.l,0<=x/\x<=255): T 128 [I key,s.cv Y8] p=.ret (I (sumB key s.l)) p:=h _ _ _ ⟨key,s,rfl,h1,h2,h5,rfl⟩
theorem zq128{A B:Prop}(k:B)(h:A=B:=by have zy:=zA @zw128<|zA @rs128<|zA @tt3<|zA @tt5<|zA @tt68<|zA ti3.eq_1<|zA ti5.eq_1<|zA ti68.eq_1<|zA @zsl68<|zA @h1<|zA @h2<|@h5;exact zQ): A:=h▸k
theorem c128: Con C 128 R128:=by
 refine V0e C ?_ ?_ ?_
 ·rintro args p r r' ⟨key,s,h,h1,h2,h5,e⟩ ⟨key',s',h',h1',h2',h5',e'⟩
  subst e;subst e';simp_all[X0h,X0h]
 ·rintro args p r ⟨key,s,h,h1,h2,h5,rfl⟩;exact zr1
 rintro args p r ⟨key,s,rfl,h1,h2,h5,rfl⟩
 refine zW C false [] zT rfl xf128 zc128_ok fun call zh hF=>?_
 clear zh
 have hr2:0<=key % 2147483647/\key % 2147483647<2147483647:=by omega
 suffices hloop:∀(ρ:Env) (q:Hp),ρ 1=s.cv Y8->ρ 5=I (key % 2147483647+1)->ρ 6=I 0->HpLe p q->W C false noExt call (ZC.loop X08) ρ q (blkQ 0 (seqQ (W C false noExt call (ZC.seq Q14 ZC.ret)) (endQ C [ResultVar.tmp 4] fun r'=>ShrR p r' (XRes.ret (I (sumB key s.l)) p)))) by
  by_cases hlo:key.tmod 2147483647<0
  ·have hk:=tmod_low hlo
   (have zx:=zA hlo hk;refine zq128 ?_;try exact zT)
   repeat'(apply zK.s<;>intro hc<;>(try simp only[zhd]at hc)<;>(try have hw:=K0a hc)<;>(refine zq128 ?_;try exact zT))
   all_goals(try clear zx)
   exact hloop _ _ (by simp[put_at,K0c,K0e,Z0k]) (by simp[put_at,K0c,K0e]) (by simp[put_at,K0c,K0e]) zle
  ·have hk:=tmod_high hlo
   have hlo2:¬key % 2147483647<0:=by omega
   (have zx:=zA hk hlo2;refine zq128 ?_;try exact zT)
   repeat'(apply zK.s<;>intro hc<;>(try simp only[zhd]at hc)<;>(try have hw:=K0a hc)<;>(refine zq128 ?_;try exact zT))
   all_goals(try clear zx)
   exact hloop _ _ (by simp[put_at,K0c,K0e,Z0k]) (by simp[put_at,K0c,K0e]) (by simp[put_at,K0c,K0e]) zle
 intro ρ q e1 e5 e6 hle
 (show W C false noExt call (ZC.loop X08) _ _ _);refine Y0g C false noExt call X08 _ _ _ (J128 key s p) s.l.length ⟨0,rfl,by omega,e1,e5,e6,hle⟩ ?_
 clear e1 e5 e6 hle
 rintro n ρ q ⟨k,rfl,hk2,e1,e5,e6,hle⟩
 have hf:=Z1v key (s.l.take k)
 by_cases hlt:(k:Int)<s.l.length
 ·have hst:=X1w sumStep (key % 2147483647+1) (l:=s.l) (k:=k) (by omega)
  have hy:=h5 (nth s.l k) (by rw[X0i (by omega)];exact List.getElem_mem _)
  generalize (s.l.take k).foldl sumStep (key % 2147483647+1)=h at hf hst e5
  generalize hyy:nth s.l k=y at hy hst
  have ht:(h*257+y+1).tmod 2147483647=sumStep h y:=by rw[Int.tmod_eq_emod_of_nonneg (by omega)];rfl
  (have zx:=zA e1 (zA e5 (zA e6 (zA hlt (zA hyy ht))));refine zq128 ?_;try exact zT)
  repeat'(apply zK.s<;>intro hc<;>(try simp only[zhd]at hc)<;>(try have hw:=K0a hc)<;>(refine zq128 ?_;try exact zT))
  all_goals(try clear zx)
  exact⟨s.l.length-(k+1),by omega,k+1,rfl,by omega,zev,by rw[hst];simp[put_at,K0c],zev,hle⟩
 ·have hkl:k=s.l.length:=by omega
  rw[hkl,List.take_of_length_le (Nat.le_refl _)]at e5 hf
  have ht:(s.l.foldl sumStep (key % 2147483647+1)+s.l.length).tmod 2147483647=sumB key s.l:=by rw[Int.tmod_eq_emod_of_nonneg (by omega)];rfl
  (have zx:=zA e1 (zA e5 (zA e6 (zA hlt ht)));refine zq128 ?_;try exact zT)
  repeat'(apply zK.s<;>intro hc<;>(try simp only[zhd]at hc)<;>(try have hw:=K0a hc)<;>(refine zq128 ?_;try exact zT))
  all_goals(try clear zx)
  exact K0d hF hle (Q0c rfl (Z0c (by intro jj;simp[CV.has])))
def R102: Rel:=fun args p r=>∃(s:Lst Int),args=[s.cv Y8]/\(s.l.length<=1000000)/\(∀x∈s.l,0<=x/\x<=255)/\r=.ret (I (markB s.l)) p
theorem t102{T:XCall}(h:Has T 102 R102)(s:Lst Int){p:Hp}(h2:s.l.length<=1000000)(h5:∀x∈s.l,0<=x/\x<=255): T 102 [s.cv Y8] p=.ret (I (markB s.l)) p:=h _ _ _ ⟨s,rfl,h2,h5,rfl⟩
theorem zq102{A B:Prop}(k:B)(h:A=B:=by have zy:=zA @zw102<|zA @rs102<|zA @tt3<|zA @tt178<|zA ti3.eq_1<|zA ti178.eq_1<|zA @t_128<|zA @h2<|@h5;exact zQ): A:=h▸k
theorem c102: Con C 102 R102:=by
 refine V0e C ?_ ?_ ?_
 ·rintro args p r r' ⟨s,h,h2,h5,e⟩ ⟨s',h',h2',h5',e'⟩
  subst e;subst e';simp_all[X0h]
 ·rintro args p r ⟨s,h,h2,h5,rfl⟩;exact zr1
 rintro args p r ⟨s,rfl,h2,h5,rfl⟩
 refine zW C false [(128,R128)] ⟨c128,zT⟩ rfl xf102 zc102_ok fun call zh hF=>?_
 have t_128:=@t128 _ zh.1
 clear zh
 have h1:=Z01 7 s.l
 have h3:=Z01 11 s.l
 (have zx:=zT;refine zq102 ?_;try exact zT)
 repeat'(apply zK.s<;>intro hc<;>(try simp only[zhd]at hc)<;>(try have hw:=K0a hc)<;>(refine zq102 ?_;try exact zT))
 all_goals(try clear zx)
 have e0:(2:Int)^min 31 IntKind.i64.bits=2147483648:=rfl
 have e1:IntKind.i64.wrap (sumB 7 s.l*2147483648)=sumB 7 s.l*2147483648:=Z0l (by omega) (by omega)
 have e2:IntKind.i64.wrap (sumB 7 s.l*2147483648+sumB 11 s.l)=markB s.l:=Z0l (by omega) (by omega)
 rw[e0,e1,e2]
 exact K0d hF zle (Q0c rfl (Z0c (by intro jj;simp[CV.has])))
theorem Bo_has(b:Bool)(j:Nat): ¬(Bo b).has j:=by simp[CV.has]
def bv(J:Nat)(l:List Bool): CV:=if l=[]then .lst .nil []else Lst.cv Bo ⟨.own J,l,nofun⟩
theorem bv_sh(J:Nat)(l:List Bool): (bv J l).shape=.s:=by unfold bv;split<;>rfl
def B1(J:Nat)(l:List Bool): XObj:=.var sh156 (Q0e.mk (bv J l) (bv_sh J l)).cv
def B2(i J:Nat)(l:List Bool)(p:Hp): Prop:=l=[]\/J≠i/\p.t.get J=some (.tail l.length)
theorem Bo_inj(a b:Bool)(h:Bo a=Bo b): a=b:=by simpa using h
theorem bv_inj{J K:Nat}{l m:List Bool}(h:bv J l=bv K m): l=m/\(l≠[]->J=K):=by
 unfold bv at h
 by_cases hl:l=[]
 ·subst hl
  by_cases hm:m=[]
  ·exact⟨hm.symm,fun h=>absurd rfl h⟩
  ·rw[if_pos rfl,if_neg hm]at h
   simp[Lst.cv]at h
 ·by_cases hm:m=[]
  ·rw[if_neg hl,if_pos hm]at h
   simp[Lst.cv]at h
  ·rw[if_neg hl,if_neg hm]at h
   simp only[Lst.cv,CV.lst.injEq,Tail.own.injEq]at h
   exact⟨(List.map_inj_right (f:=Bo) (fun a b=>Bo_inj a b)).1 h.2,fun _=>h.1⟩
theorem B_uniq{p:Hp}{i j j':Nat}{l l':List Bool}(h:p.t.get i=some (B1 j l))(k:p.t.get i=some (B1 j' l')): l=l'/\(l≠[]->j=j'):=by
 rw[h]at k
 simp only[Option.some.injEq,B1,Q0e.cv,XObj.var.injEq,CV.agg.injEq,List.cons.injEq,and_true,true_and]at k
 exact bv_inj k
noncomputable def bDrop(j:Nat)(l:List Bool)(p:Hp): Hp:=if l=[]then p else p.set j none
noncomputable def bHp(i j:Nat)(l l':List Bool)(p:Hp): Hp:=((bDrop j l p).set i (some (B1 p.n l'))).new (.tail l'.length)
theorem bHp_uniq{p:Hp}{i j j':Nat}{l l':List Bool}(m:List Bool)(h:l=l'/\(l≠[]->j=j')): bHp i j l m p=bHp i j' l' m p:=by
 obtain⟨rfl,h⟩:=h
 unfold bHp bDrop
 by_cases hl:l=[]
 ·rw[if_pos hl,if_pos hl]
 ·rw[if_neg hl,if_neg hl,h hl]
theorem bHp_n(i j:Nat)(l m:List Bool)(p:Hp): (bHp i j l m p).n=p.n+1:=by
 unfold bHp bDrop
 split<;>simp[Hp.znew_n,Hp.zset_n]
theorem bHp_i{i j:Nat}(l m:List Bool){p:Hp}(h:i<p.n): (bHp i j l m p).t.get i=some (B1 p.n m):=by
 unfold bHp bDrop
 split
 ·rw[Hp.get_new_ne _ _ (by rw[Hp.zset_n];omega),Hp.get_set_self]
 ·rw[Hp.get_new_ne _ _ (by rw[Hp.zset_n,Hp.zset_n];omega),Hp.get_set_self]
theorem bHp_new{i j:Nat}(l m:List Bool){p:Hp}: (bHp i j l m p).t.get p.n=some (.tail m.length):=by
 unfold bHp bDrop
 split
 ·exact Hp.get_new_self (p.set i (some (B1 p.n m))) _
 ·exact Hp.get_new_self ((p.set j none).set i (some (B1 p.n m))) _
theorem bHp_ne{i j:Nat}{l m:List Bool}{p:Hp}{k:Nat}(h1:k≠i)(h2:l=[]\/k≠j)(h3:k≠p.n): (bHp i j l m p).t.get k=p.t.get k:=by
 unfold bHp bDrop
 split
 ·rw[Hp.get_new_ne _ _ (show k≠(p.set i (some (B1 p.n m))).n from h3),Hp.get_set_ne _ _ _ h1]
 ·rename_i hl
  rw[Hp.get_new_ne _ _ (show k≠((p.set j none).set i (some (B1 p.n m))).n from h3),Hp.get_set_ne _ _ _ h1,Hp.get_set_ne _ _ _ (h2.resolve_left hl)]
theorem B2_nil(i j:Nat)(p:Hp): B2 i j [] p:=.inl rfl
theorem B2_in{i j:Nat}{l:List Bool}{p:Hp}(h1:j≠i)(h2:p.t.get j=some (.tail l.length)): B2 i j l p:=.inr ⟨h1,h2⟩
theorem shr_b{args:List CV}{p q:Hp}{i j J:Nat}{l m:List Bool}(hF:Fine args p)(hm:m≠[])(h1:p.t.get i=some (B1 j l))(h2:B2 i j l p)(g1:q.t.get i=some (B1 J m))(g2:q.t.get J=some (.tail m.length))(hJi:J≠i)(hJ:(l≠[]/\J=j)\/p.n<=J)
  (hle:∀k o,k≠i->(l=[]\/k≠j)->p.t.get k=some o->q.t.get k=some o) {v u:CV} (hv:CV.weak (ren p.n J) (p.n+1) v u):ShrR p (.ret v q) (.ret u (bHp i j l m p)):=by
 have hi:=hF.dom _ _ h1
 have hw:XObj.weak (ren p.n J) (p.n+1) (B1 J m) (B1 p.n m):=by
  refine⟨rfl,?_⟩
  simp only[Q0e.cv,bv,if_neg hm,CV.weak,CV.weakL,and_true,Lst.cv,Tail.weak]
  exact⟨⟨by simp[ren],by omega⟩,CV.weakL_refl _ fun j hj=>(X0m (f:=Bo) (fun x j=>Bo_has x j) m j hj).elim⟩
 unfold bHp bDrop
 split
 ·rename_i hl
  refine Y01 hF (J:=J) rfl (fun k o h=>?_) ⟨_,g2,rfl⟩ hv
  by_cases hk:k=i
  ·subst hk
   rw[Hp.get_set_self]at h;cases h
   exact⟨hi,Ne.symm hJi,.inr ⟨_,g1,hw⟩⟩
  ·rw[Hp.get_set_ne _ _ _ hk]at h
   have hd:=hF.dom _ _ h
   exact⟨hd,by rcases hJ with hJ|hJ;exact absurd hl hJ.1;omega,.inl ⟨h,hle k o hk (.inl hl) h⟩⟩
 ·rename_i hl
  have hj:=(h2.resolve_left hl)
  have hjd:=hF.dom _ _ hj.2
  refine Y01 hF (J:=J) rfl (fun k o h=>?_) ⟨_,g2,rfl⟩ hv
  by_cases hk:k=i
  ·subst hk
   rw[Hp.get_set_self]at h;cases h
   exact⟨hi,Ne.symm hJi,.inr ⟨_,g1,hw⟩⟩
  ·rw[Hp.get_set_ne _ _ _ hk]at h
   by_cases hkj:k=j
   ·subst hkj;rw[Hp.get_set_self]at h;cases h
   ·rw[Hp.get_set_ne _ _ _ hkj]at h
    have hd:=hF.dom _ _ h
    exact⟨hd,by rcases hJ with hJ|hJ;rw[hJ.2];exact hkj;omega,.inl ⟨h,hle k o hk (.inr hkj) h⟩⟩
structure BSt(i j:Nat)(l:List Bool)(p:Hp)(J:Nat)(m:List Bool)(q:Hp): Prop where
 g:q.t.get i=some (B1 J m)
 w:B2 i J m q
 hJ:(m=l/\J=j)\/(p.n<=J/\J<q.n)
 hi:i<p.n
 hn:p.n<=q.n
 hle:∀k o,k≠i->(l=[]\/k≠j)->p.t.get k=some o->q.t.get k=some o
theorem BSt.start{i j:Nat}{l:List Bool}{p:Hp}(h1:p.t.get i=some (B1 j l))(h2:B2 i j l p)(hi:i<p.n): BSt i j l p j l p:=⟨h1,h2,.inl ⟨rfl,rfl⟩,hi,Nat.le_refl _,fun _ _ _ _ h=>h⟩
theorem BSt.step{i j J:Nat}{l m:List Bool}{p q:Hp}(hd:∀k o,p.t.get k=some o->k<p.n)(h:BSt i j l p J m q)(m':List Bool): BSt i j l p q.n m' (bHp i J m m' q):=by
 have hi:i<q.n:=Nat.lt_of_lt_of_le h.hi h.hn
 refine⟨bHp_i _ _ hi,.inr ⟨by omega,bHp_new _ _⟩,.inr ⟨h.hn,by rw[bHp_n];omega⟩,h.hi,by rw[bHp_n];have:=h.hn;omega,fun k o a b c=>?_⟩
 have hk:=hd k o c
 have hn:=h.hn
 rw[bHp_ne a ?_ (by omega)]
 ·exact h.hle k o a b c
 ·rcases h.hJ with⟨e1,e2⟩|e
  ·subst e1;subst e2;exact b
  ·exact .inr (by omega)
theorem BSt.fin{args:List CV}{i j J:Nat}{l m:List Bool}{p q:Hp}(hF:Fine args p)(h1:p.t.get i=some (B1 j l))(h2:B2 i j l p)(h:BSt i j l p J m q)(hm:m≠[]){v u:CV}(hv:CV.weak (ren p.n J) (p.n+1) v u): ShrR p (.ret v q) (.ret u (bHp i j l m p)):=by
 have w:=h.w.resolve_left hm
 refine shr_b hF hm h1 h2 h.g w.2 w.1 ?_ h.hle hv
 rcases h.hJ with⟨e1,e2⟩|e
 ·exact .inl ⟨by rw[<- e1];exact hm,e2⟩
 ·exact .inr e.1
theorem BSt.new0{i j:Nat}{l:List Bool}{p:Hp}(hd:∀k o,p.t.get k=some o->k<p.n)(h1:p.t.get i=some (B1 j l))(h2:B2 i j l p)(hi:i<p.n)(o:XObj): BSt i j l p j l (p.new o):=by
 refine⟨by rw[Hp.get_new_ne _ _ (by omega)];exact h1,?_,.inl ⟨rfl,rfl⟩,hi,by rw[Hp.znew_n];omega,fun k o' a b c=>by rw[Hp.get_new_ne _ _ (by have:=hd k o' c;omega)];exact c⟩
 rcases h2 with w|⟨w1,w2⟩
 ·exact .inl w
 ·exact .inr ⟨w1,by rw[Hp.get_new_ne _ _ (by have:=hd _ _ w2;omega)];exact w2⟩
theorem Y0n{i j:Nat}{l m:List Bool}{p:Hp}{k:Nat}(h1:k≠i)(h2:k≠j)(h3:k≠p.n): (bHp i j l m p).t.get k=p.t.get k:=bHp_ne h1 (.inr h2) h3
theorem Q1f{i j:Nat}{l m:List Bool}{p:Hp}{k:Nat}(h:k=p.n): (bHp i j l m p).t.get k=some (.tail m.length):=by subst h;exact bHp_new _ _
theorem zdb1{P:Prop}(h:P:=by first|omega|(simp only[bHp_n,Hp.bump_n,Hp.znew_n,Hp.zset_n];(first|done|omega))): P:=h
theorem zdb{P:Prop}(h:P:=by first|exact zdis|(simp (disch:=first|exact zdb1|fail) only[zheap,bHp_i,Q1f,Y0n,bHp_n,zx];(first|done|rfl))): P:=h
theorem B1_eq{J:Nat}{m:List Bool}(h:m≠[])(o:_): B1 J m=.var sh156 (Q0e.mk (Lst.cv Bo ⟨.own J,m,o⟩) rfl).cv:=by simp only[B1,bv,if_neg h]
theorem BSt.app{i j J:Nat}{l m:List Bool}{p q q':Hp}(hd:∀k o,p.t.get k=some o->k<p.n)(h:BSt i j l p J m q)(b:Bool)(g1:q'.t.get i=some (B1 q.n (m++[b])))(g2:q'.t.get q.n=some (.tail (m++[b]).length))(hn:q'.n=q.n+1)(hk:∀k o,k≠i->(m=[]\/k≠J)->k<q.n->q.t.get k=some o->q'.t.get k=some o): BSt i j l p q.n (m++[b]) q':=by
 have hi:i<q.n:=Nat.lt_of_lt_of_le h.hi h.hn
 refine⟨g1,.inr ⟨by omega,g2⟩,.inr ⟨h.hn,by omega⟩,h.hi,by have:=h.hn;omega,fun k o a b c=>?_⟩
 have hkp:=hd k o c
 have hn:=h.hn
 refine hk k o a ?_ (by omega) (h.hle k o a b c)
 rcases h.hJ with⟨e1,e2⟩|e
 ·subst e1;subst e2;exact b
 ·exact .inr (by omega)
theorem Q1k(s:Lst Bool): (Lst.cv Bo s).shape=.s:=rfl
theorem bt_fold(v:CV)(hv:v.shape=.s)(s:Lst Bool): Q0e.upd_0 ⟨v,hv⟩ (Lst.cv Bo s)=(Q0e.mk (Lst.cv Bo s) (Q1k s)).cv:=rfl
theorem b2i_dec(b:Bool): decide (b2i b=1)=b:=by cases b<;>rfl
theorem bv_own{J:Nat}{l:List Bool}(h:l≠[]): bv J l=Lst.cv Bo ⟨.own J,l,nofun⟩:=if_neg h
def J99(i j:Nat)(l:List Bool)(v:Int)(N:Nat)(p:Hp)(n:Nat)(ρ:Env)(q:Hp): Prop:=
 ∃(k J:Nat),n=N-k/\k<=N/\ρ 0=.ptr i []/\ρ 1=U v/\ρ 6=I ((N:Int)-1-k)/\BSt i j l p J (l++(bitsOf v N).take k) q
def R99: Rel:=fun args p r=>∃(i j:Nat) (l:List Bool) (v n:Int),args=[.ptr i [],U v,I n]/\(p.t.get i=some (B1 j l))/\(B2 i j l p)/\(l.length<=900000)/\(1<=n/\n<=64)/\r=.ret (.tup []) (bHp i j l (l++bitsOf v n.toNat) p)
theorem t99{T:XCall}(h:Has T 99 R99)(i j:Nat)(l:List Bool)(v n:Int){p:Hp}(h1:p.t.get i=some (B1 j l))(h2:B2 i j l p)(h3:l.length<=900000)(h4:1<=n/\n<=64): T 99 [.ptr i [],U v,I n] p=.ret (.tup []) (bHp i j l (l++bitsOf v n.toNat) p):=h _ _ _ ⟨i,j,l,v,n,rfl,h1,h2,h3,h4,rfl⟩
theorem zq99{A B:Prop}(k:B)(h:A=B:=by have zy:=zA @zw99<|zA @rs99<|zA @tt3<|zA @tt25<|zA @tt154<|zA @tt156<|zA @tt178<|zA ti3.eq_1<|zA ti25.eq_1<|zA ti154.eq_1<|zA ti156.eq_1<|zA ti178.eq_1<|zA @Q1d<|zA @zsl154<|zA @bt_fold<|zA @b2i_dec<|zA @h1<|zA @h2<|zA @h3<|@h4;exact zQ): A:=h▸k
theorem c99: Con C 99 R99:=by
 refine V0e C ?_ ?_ ?_
 ·rintro args p r r' ⟨i,j,l,v,n,h,h1,h2,h3,h4,e⟩ ⟨i',j',l',v',n',h',h1',h2',h3',h4',e'⟩
  subst e;subst e';(subst h;simp only[List.cons.injEq,CV.ptr.injEq,CV.sc.injEq,Value.int.injEq,and_true,true_and]at h';obtain⟨e1,e2,e3⟩:=h';subst e1;subst e2;subst e3;have hu:=B_uniq h1 h1';rw[bHp_uniq _ hu,hu.1])
 ·rintro args p r ⟨i,j,l,v,n,h,h1,h2,h3,h4,rfl⟩;exact zr1
 rintro args p r ⟨i,j,l,v,n,rfl,h1,h2,h3,h4,rfl⟩
 refine zW C false [] zT rfl xf99 zc99_ok fun call zh hF=>?_
 clear zh
 have hd_h1:=hF.dom _ _ h1
 have hi:=hF.dom _ _ h1
 have k1:=h1
 have k2:=h2
 obtain⟨N,rfl⟩:=Int.eq_ofNat_of_zero_le (show 0<=n by omega)
 have hmm:max 0 (min 64 (N:Int))=N:=by omega
 have hw:=hF.dom
 (have zx:=zA hmm h1;refine zq99 ?_;try exact zT)
 repeat'(apply zK.s<;>intro hc<;>(try simp only[zhd]at hc)<;>(try have hw:=K0a hc)<;>(refine zq99 ?_;try exact zT))
 all_goals(try clear zx)
 (show W C false noExt call (ZC.loop zn99_4) _ _ _);refine Y0g C false noExt call zn99_4 _ _ _ (J99 i j l v N p) N ⟨0,j,rfl,by omega,by simp[put_at,K0c,K0e],by simp[put_at,K0c,K0e,Z0k],zev,by simpa using BSt.start k1 k2 hi⟩ ?_
 rintro n ρ q ⟨k,J,rfl,hk,e0,e1,e6,hS⟩
 by_cases hlt:k<N
 ·have hb:=bit_of v (N-1-k) (by omega)
  unfold andB at hb
  have e6:ρ 6=I ((N-1-k:Nat):Int):=by rw[e6];congr 2;omega
  have hlen:(l++(bitsOf v N).take k).length<=1000000:=by rw[List.length_append,List.length_take,Y0e];omega
  have g1:=hS.g
  have g2:=hS.w
  have hbt:=X06 v N k hlt
  have hge:¬((N-1-k:Nat):Int)<0:=by omega
  have hwu:IntKind.u64.wrap ((N-1-k:Nat):Int)=((N-1-k:Nat):Int):=by
   show((N-1-k:Nat):Int) % 2^64=_
   omega
  have htn:(((N-1-k:Nat):Int)).toNat=N-1-k:=Int.toNat_natCast _
  have hge0:0<=((N-1-k:Nat):Int):=by omega
  have hiq:i<q.n:=Nat.lt_of_lt_of_le hS.hi hS.hn
  have hbt2:l++(bitsOf v N).take (k+1)=(l++(bitsOf v N).take k)++[bitAt v (N-1-k)]:=by rw[hbt,List.append_assoc]
  generalize hm:l++(bitsOf v N).take k=m at hS g1 g2 hlen hbt2
  by_cases hm0:m=[]
  ·subst hm0
   replace g1:q.t.get i=some (.var sh156 (Q0e.mk (Lst.cv Bo ⟨.nil,[],fun _=>rfl⟩) (Q1k _)).cv):=g1
   (have zx:=zA e0 (zA e1 (zA e6 (zA hb (zA g1 (zA hge (zA hge0 (zA hwu (zA htn h1))))))));refine zq99 ?_;try exact zT)
   repeat'(apply zK.s<;>intro hc<;>(try simp only[zhd]at hc)<;>(try have hw:=K0a hc)<;>(refine zq99 ?_;try exact zT))
   all_goals(try clear zx)
   refine⟨N-(k+1),by omega,k+1,q.n,rfl,by omega,zev,zev,by simp[put_at,K0c];omega,?_⟩
   rw[hbt2]
   refine hS.app hw _ ?_ ?_ ?_ (fun a o h1 h2 h3 h=>?_)
   ·rw[B1_eq (by simp) (nofun)];simp (disch:=first|exact zdl|fail) only[zheap]<;>rfl
   ·simp (disch:=first|exact zdl|fail) only[zheap];simp
   ·simp only[Hp.bump_n,Hp.znew_n,Hp.zset_n]
   ·simp (disch:=first|exact zdl|fail) only[Hp.bump_get,Hp.get_set_ne,Hp.get_new_ne];exact h
  ·have g2:=(g2.resolve_left hm0).2
   rw[B1,show Q0e.mk (bv J m) (bv_sh J m)=Q0e.mk (Lst.cv Bo ⟨.own J,m,nofun⟩) (Q1k _) from by simp only[bv_own hm0]]at g1
   have hJi:=(hS.w.resolve_left hm0).1
   have hmp:0<m.length:=List.length_pos_iff.2 hm0
   have hJq:J<q.n:=by
    rcases hS.hJ with⟨e3,e4⟩|e3
    ·subst e4
     have:=hw _ _ (k2.resolve_left (by rw[<- e3];exact hm0)).2
     have:=hS.hn
     omega
    ·exact e3.2
   (have zx:=zA e0 (zA e1 (zA e6 (zA hb (zA g1 (zA g2 (zA hge (zA hge0 (zA hwu (zA htn h1)))))))));refine zq99 ?_;try exact zT)
   repeat'(apply zK.s<;>intro hc<;>(try simp only[zhd]at hc)<;>(try have hw:=K0a hc)<;>(refine zq99 ?_;try exact zT))
   all_goals(try clear zx)
   refine⟨N-(k+1),by omega,k+1,q.n,rfl,by omega,zev,zev,by simp[put_at,K0c];omega,?_⟩
   rw[hbt2]
   refine hS.app hw _ ?_ ?_ ?_ (fun a o h1 h2 h3 h=>?_)
   ·rw[B1_eq (by simp) (nofun)];simp (disch:=first|exact zdl|fail) only[zheap]<;>rfl
   ·simp (disch:=first|exact zdl|fail) only[zheap];simp
   ·simp only[Hp.bump_n,Hp.znew_n,Hp.zset_n]
   ·have hkj:=h2.resolve_left hm0;simp (disch:=first|exact zdl|fail) only[Hp.bump_get,Hp.get_set_ne,Hp.get_new_ne];exact h
 ·have hkN:k=N:=by omega
  have e6:ρ 6=I (-1):=by rw[e6,hkN];congr 2;omega
  rw[hkN,List.take_of_length_le (by rw[Y0e];exact Nat.le_refl _)]at hS
  (have zx:=zA e0 (zA e1 (zA e6 h1));refine zq99 ?_;try exact zT)
  repeat'(apply zK.s<;>intro hc<;>(try simp only[zhd]at hc)<;>(try have hw:=K0a hc)<;>(refine zq99 ?_;try exact zT))
  all_goals(try clear zx)
  refine hS.fin hF k1 k2 ?_ (Z0p _ _)
  intro e
  have:=congrArg List.length e
  rw[List.length_append,Y0e,List.length_nil]at this
  omega
def R98: Rel:=fun args p r=>∃(i j:Nat) (l:List Bool) (v n:Int),args=[.ptr i [],I v,I n]/\(p.t.get i=some (B1 j l))/\(B2 i j l p)/\(l.length<=900000)/\(1<=n/\n<=64)/\r=.ret (.tup []) (bHp i j l (l++bitsOf v n.toNat) p)
theorem t98{T:XCall}(h:Has T 98 R98)(i j:Nat)(l:List Bool)(v n:Int){p:Hp}(h1:p.t.get i=some (B1 j l))(h2:B2 i j l p)(h3:l.length<=900000)(h4:1<=n/\n<=64): T 98 [.ptr i [],I v,I n] p=.ret (.tup []) (bHp i j l (l++bitsOf v n.toNat) p):=h _ _ _ ⟨i,j,l,v,n,rfl,h1,h2,h3,h4,rfl⟩
theorem zq98{A B:Prop}(k:B)(h:A=B:=by have zy:=zA @zw98<|zA @rs98<|zA @tt3<|zA @tt25<|zA ti3.eq_1<|zA ti25.eq_1<|zA @t_99<|zA @h1<|zA @h2<|zA @h3<|@h4;exact zQ): A:=h▸k
theorem c98: Con C 98 R98:=by
 refine V0e C ?_ ?_ ?_
 ·rintro args p r r' ⟨i,j,l,v,n,h,h1,h2,h3,h4,e⟩ ⟨i',j',l',v',n',h',h1',h2',h3',h4',e'⟩
  subst e;subst e';(subst h;simp only[List.cons.injEq,CV.ptr.injEq,CV.sc.injEq,Value.int.injEq,and_true,true_and]at h';obtain⟨e1,e2,e3⟩:=h';subst e1;subst e2;subst e3;have hu:=B_uniq h1 h1';rw[bHp_uniq _ hu,hu.1])
 ·rintro args p r ⟨i,j,l,v,n,h,h1,h2,h3,h4,rfl⟩;exact zr1
 rintro args p r ⟨i,j,l,v,n,rfl,h1,h2,h3,h4,rfl⟩
 refine zW C false [(99,R99)] ⟨c99,zT⟩ rfl xf98 zc98_ok fun call zh hF=>?_
 have t_99:=@t99 _ zh.1
 clear zh
 have hd_h1:=hF.dom _ _ h1
 have hi:=hF.dom _ _ h1
 (have zx:=h1;refine zq98 ?_;try exact zT)
 repeat'(apply zK.s<;>intro hc<;>(try simp only[zhd]at hc)<;>(try have hw:=K0a hc)<;>(refine zq98 ?_;try exact zT))
 all_goals(try clear zx)
 rw[V01 _ (by omega)]
 refine((BSt.start h1 h2 hi).step hF.dom _).fin hF h1 h2 ?_ (Z0p _ _)
 intro e
 have:=congrArg List.length e
 rw[List.length_append,Y0e,List.length_nil]at this
 omega
end Go.Proofs.Ytpchcfkebljopaa
end
section
namespace Go.Proofs.Ytpchcfkebljopaa
open Go.Cl Go Go.RowKit
theorem X1r(l:List Bool)(b:Bool){i:Nat}(h:i≠l.length/8): byteAt (l++[b]) i=byteAt l i:=by
 simp only[byteAt,gb_snoc]
 repeat rw[if_neg (by omega)]
def outK(l:List Bool)(k:Nat): List Int:=(List.range ((l.length+7)/8)).map (byteAt (l.take k))
theorem V0s(l:List Bool)(k:Nat): (outK l k).length=(l.length+7)/8:=by simp[outK]
theorem Q1l(l:List Bool)(k j:Nat)(h:j<(l.length+7)/8): nth (outK l k) j=byteAt (l.take k) j:=by
 rw[X0i (by rw[V0s];exact h)]
 simp only[outK,List.getElem_map,List.getElem_range]
theorem outK_zero(l:List Bool): outK l 0=List.replicate ((l.length+7)/8) 0:=by
 refine X04 (by rw[V0s,List.length_replicate]) fun j hj=>?_
 rw[V0s]at hj
 rw[Q1l _ _ _ hj,X0i (by rw[List.length_replicate];exact hj),List.getElem_replicate]
 rfl
theorem outK_all(l:List Bool): outK l l.length=packB l:=by
 unfold outK packB
 rw[List.take_length]
theorem outK_step{l:List Bool}{k:Nat}(h:k<l.length): outK l (k+1)=(outK l k).set (k/8) (nth (outK l k) (k/8)+b2i (nth l k)*2^(7-k % 8)):=by
 have ht:(l.take k).length=k:=by rw[List.length_take];omega
 refine X04 (by rw[V0s,List.length_set,V0s]) fun j hj=>?_
 rw[V0s]at hj
 rw[Q1l _ _ _ hj,Y0v h]
 by_cases e:j=k/8
 ·subst e
  rw[K0i (by rw[V0s];exact hj),Q1l _ _ _ hj]
  have:=byte_snoc (l.take k) (nth l k)
  rw[ht]at this
  exact this
 ·rw[V0j (by omega),Q1l _ _ _ hj,X1r _ _ (by rw[ht];exact e)]
theorem outK_same{l:List Bool}{k:Nat}(h:k<l.length)(hb:nth l k=false): outK l (k+1)=outK l k:=by
 rw[outK_step h,hb]
 simp only[b2i,Bool.false_eq_true,if_false,Int.zero_mul,Int.add_zero]
 rw[X0i (by rw[V0s];omega),List.set_getElem_self]
theorem outK_byte(l:List Bool)(k:Nat){j:Nat}(h:j<(l.length+7)/8): 0<=nth (outK l k) j/\nth (outK l k) j<=255:=by
 rw[Q1l _ _ _ h];exact Y00 _ _
end Go.Proofs.Ytpchcfkebljopaa
end
section
namespace Go.Proofs.Ytpchcfkebljopaa
open Go.Cl Go Go.RowKit
set_option maxRecDepth 100000
set_option linter.constructorNameAsVariable false
theorem mk68(p:Hp)(n:Nat)(h:1<=n/\n<=1000000): xmake C p 68 (I n) (I n)=.ret (.slc p.n [] 0 n) (p.new (.var (.n (List.replicate n .s)) (.agg ((List.replicate n 0).map Y8)))):=by
 have hb:(ti5.bytes*((n:Nat):Int).toNat)<=281474976710656:=by show 1*_<=_;omega
 simp only[xmake,tt68,ti68,tt5,List.map_replicate]
 rw[show(decide True&&decide (0<(n:Int))&&decide ((n:Int)<=9223372036854775807)&&Nat.blt 0 ti5.sh.size&&Nat.ble (ti5.bytes*((n:Nat):Int).toNat) 281474976710656)=true by
  simp only[decide_true,Bool.true_and,Bool.and_eq_true,decide_eq_true_eq]
  exact⟨⟨⟨by omega,by omega⟩,rfl⟩,Nat.ble_eq_true_of_le hb⟩]
 rfl
theorem sub68b(n k:Nat)(q:List Nat): subEq (.n (List.replicate n .s)) (k::q) sh5=(decide (k<n)&&subEq sh5 q sh5):=Z0y n k q sh5 sh5
theorem p7_all: ∀m:Fin 8,IntKind.u8.wrap (1*2^min m.val IntKind.u8.bits)=2^m.val/\(0:Int)<=2^m.val:=by decide +kernel
def J100(i J:Nat)(l:List Bool)(p:Hp)(n:Nat)(ρ:Env)(q:Hp): Prop:=
 ∃(k:Nat),n=l.length-k/\k<=l.length/\ρ 0=.ptr i []/\ρ 3=.slc p.n [] 0 ((l.length+7)/8)/\ρ 4=I k/\q.t.get p.n=some (.var (.n (List.replicate ((l.length+7)/8) .s)) (.agg ((outK l k).map Y8)))/\p.n<q.n/\HpLe p q
def R100: Rel:=fun args p r=>∃(i J:Nat) (l:List Bool),args=[.ptr i []]/\(p.t.get i=some (B1 J l))/\(B2 i J l p)/\(l.length<=1000000)/\(l≠[])/\r=.ret (Lst.cv Y8 (partB (packB l))) p
theorem t100{T:XCall}(h:Has T 100 R100)(i J:Nat)(l:List Bool){p:Hp}(h1:p.t.get i=some (B1 J l))(h2:B2 i J l p)(h3:l.length<=1000000)(h4:l≠[]): T 100 [.ptr i []] p=.ret (Lst.cv Y8 (partB (packB l))) p:=h _ _ _ ⟨i,J,l,rfl,h1,h2,h3,h4,rfl⟩
theorem zq100{A B:Prop}(k:B)(h:A=B:=by have zy:=zA @zw100<|zA @rs100<|zA @tt3<|zA @tt4<|zA @tt5<|zA @tt68<|zA @tt154<|zA @tt156<|zA @tt178<|zA ti3.eq_1<|zA ti4.eq_1<|zA ti5.eq_1<|zA ti68.eq_1<|zA ti154.eq_1<|zA ti156.eq_1<|zA ti178.eq_1<|zA @Q1d<|zA @zsl68<|zA @zsl154<|zA @mk68<|zA @ix68<|zA @a68<|zA @sa68<|zA @sub68b<|zA @h1<|zA @h2<|zA @h3<|@h4;exact zQ): A:=h▸k
theorem c100: Con C 100 R100:=by
 refine V0e C ?_ ?_ ?_
 ·rintro args p r r' ⟨i,J,l,h,h1,h2,h3,h4,e⟩ ⟨i',J',l',h',h1',h2',h3',h4',e'⟩
  subst e;subst e';(subst h;simp only[List.cons.injEq,CV.ptr.injEq,and_true,true_and]at h';subst h';have hu:=B_uniq h1 h1';rw[hu.1])
 ·rintro args p r ⟨i,J,l,h,h1,h2,h3,h4,rfl⟩;exact zr1
 rintro args p r ⟨i,J,l,rfl,h1,h2,h3,h4,rfl⟩
 show AnsAt C 100 [.ptr i []] p (.ret (.lst .part ((packB l).map Y8)) p)
 refine Q11 C (sh:=.n (List.replicate ((l.length+7)/8) .s)) (l:=(packB l).map Y8) (sz:=1) (fun x hx=>by obtain⟨y,_,rfl⟩:=List.mem_map.1 hx;rfl) (fun j hj=>(X0m Z00 _ j hj).elim) ?_
 refine zW C false [] zT rfl xf100 zc100_ok fun call zh hF=>?_
 clear zh
 have hd_h1:=hF.dom _ _ h1
 have hi:=hF.dom _ _ h1
 have k1:=h1
 rw[B1_eq h4 (nofun)]at h1
 have hne:0<l.length:=List.length_pos_iff.2 h4
 have ht:((l.length:Int)+7).tdiv 8=(((l.length+7)/8:Nat):Int):=by rw[Int.tdiv_eq_ediv_of_nonneg (by omega)];omega
 have hN:1<=(l.length+7)/8/\(l.length+7)/8<=1000000:=by omega
 have hz:=outK_zero l
 have hfin:∀q:Hp,q.t.get p.n=some (.var (.n (List.replicate ((l.length+7)/8) .s)) (.agg ((packB l).map Y8)))->HpLe p q->ShrR p (.ret (.slc p.n [] 0 ((l.length+7)/8)) q) (.ret (.slc p.n [] 0 (packB l).length) (p.new (.var (.n (List.replicate ((l.length+7)/8) .s)) (.agg ((packB l).map Y8))))):=by
  intro q g1 hle
  rw[V0i]
  refine K1d (by show p.n<=p.n+1;omega) (fun j o h=>?_) ⟨rfl,Nat.lt_succ_self _,rfl,rfl,rfl⟩
  by_cases hj:j=p.n
  ·subst hj
   rw[Hp.get_new_self]at h;cases h
   exact⟨Nat.lt_succ_self _,.inr ⟨_,g1,Y0i fun i hi=>by simp only[XObj.has,CV.has]at hi;exact(X0m Z00 _ i hi).elim⟩⟩
  ·rw[Hp.get_new_ne _ _ hj]at h
   have hd:=hF.dom _ _ h
   exact⟨Nat.lt_succ_of_lt hd,.inl ⟨hd,h,hle j o h⟩⟩
 (have zx:=zA ht h1;refine zq100 ?_;try exact zT)
 repeat'(apply zK.s<;>intro hc<;>(try simp only[zhd]at hc)<;>(try have hw:=K0a hc)<;>(refine zq100 ?_;try exact zT))
 all_goals(try clear zx)
 (show W C false noExt call (ZC.loop Z11) _ _ _);refine Y0g C false noExt call Z11 _ _ _ (J100 i J l p) l.length ⟨0,rfl,by omega,by simp[put_at,K0c,K0e],zev,(by simp[put_at,K0c,K0e]),by rw[hz];simp (disch:=first|exact zdl|fail) only[zheap],(zb9),zle⟩ ?_
 rintro n ρ q ⟨k,rfl,hk,e0,e3,e4,g1,hn,hle⟩
 have hlen:=V0s l k
 have h1:=hle _ _ h1
 by_cases hlt:(k:Int)<l.length
 ·have hkd:((k:Nat):Int).tdiv 8=((k/8:Nat):Int):=by rw[Int.tdiv_eq_ediv_of_nonneg (by omega)];omega
  have hkm:((k:Nat):Int).tmod 8=((k % 8:Nat):Int):=by rw[Int.tmod_eq_emod_of_nonneg (by omega)];omega
  have hk8:k/8<(l.length+7)/8:=by omega
  have hby:=outK_byte l k hk8
  have hby2:=outK_byte l (k+1) hk8
  cases hb:nth l k with
  |false=>
   have hst:=outK_same (l:=l) (k:=k) (by omega) hb
   (have zx:=zA e0 (zA e3 (zA e4 (zA g1 (zA h1 (zA hlt (zA hb h1))))));refine zq100 ?_;try exact zT)
   repeat'(apply zK.s<;>intro hc<;>(try simp only[zhd]at hc)<;>(try have hw:=K0a hc)<;>(refine zq100 ?_;try exact zT))
   all_goals(try clear zx)
   exact⟨l.length-(k+1),by omega,k+1,rfl,by omega,zev,zev,zev,by rw[hst];exact g1,hn,hle⟩
  |true=>
   have hst:=outK_step (l:=l) (k:=k) (by omega)
   rw[hb,show b2i true=1 from rfl,Int.one_mul]at hst
   have hm7:7-k % 8<8:=by omega
   obtain⟨hp,hp0⟩:=p7_all ⟨7-k % 8,hm7⟩
   simp only at hp hp0
   have hs:IntKind.u64.wrap (7-((k % 8:Nat):Int))=((7-k % 8:Nat):Int):=by
    show(7-((k % 8:Nat):Int)) % 2^64=_
    omega
   have hs0:¬((7-k % 8:Nat):Int)<0:=by omega
   have htn:(((7-k % 8:Nat):Int)).toNat=7-k % 8:=Int.toNat_natCast _
   have hsum:nth (outK l (k+1)) (k/8)=nth (outK l k) (k/8)+2^(7-k % 8):=by rw[hst,K0i (by rw[hlen];exact hk8)]
   have hadd:IntKind.u8.wrap (nth (outK l k) (k/8)+2^(7-k % 8))=nth (outK l k) (k/8)+2^(7-k % 8):=by
    rw[<- hsum]
    generalize nth (outK l (k+1)) (k/8)=y at hby2
    show y % 2^8=y
    omega
   (have zx:=zA e0 (zA e3 (zA e4 (zA g1 (zA h1 (zA hlt (zA hb (zA hkd (zA hkm (zA hk8 (zA hs (zA hs0 (zA htn (zA hp (zA hadd h1))))))))))))));refine zq100 ?_;try exact zT)
   repeat'(apply zK.s<;>intro hc<;>(try simp only[zhd]at hc)<;>(try have hw:=K0a hc)<;>(refine zq100 ?_;try exact zT))
   all_goals(try clear zx)
   exact⟨l.length-(k+1),by omega,k+1,rfl,by omega,zev,zev,zev,by rw[hst];simp (disch:=first|exact zdl|fail) only[zheap]<;>rfl,zb9,zlq⟩
 ·have hk2:k=l.length:=by omega
  (have zx:=zA e0 (zA e3 (zA e4 (zA g1 (zA h1 (zA hlt h1)))));refine zq100 ?_;try exact zT)
  repeat'(apply zK.s<;>intro hc<;>(try simp only[zhd]at hc)<;>(try have hw:=K0a hc)<;>(refine zq100 ?_;try exact zT))
  all_goals(try clear zx)
  exact hfin q (by rw[g1,hk2,outK_all]) hle
end Go.Proofs.Ytpchcfkebljopaa
end
