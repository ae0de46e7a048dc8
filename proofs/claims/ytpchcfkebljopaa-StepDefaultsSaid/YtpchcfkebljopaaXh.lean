import Derived.Test.YtpchcfkebljopaaRows
import Derived.Test.YtpchcfkebljopaaXg
set_option linter.unusedSimpArgs false
set_option linter.unusedVariables false
set_option linter.constructorNameAsVariable false
set_option linter.defProp false
set_option maxHeartbeats 8000000
section
namespace Go.Proofs.Ytpchcfkebljopaa
open Go.Cl Go Go.RowKit
set_option maxRecDepth 100000
set_option linter.constructorNameAsVariable false
noncomputable def resC(i:Nat)(p:Hp)(r:Except (Int×Int) Z0a): XRes:=
 match r with
 |.ok m'=>.ret (.tup [(X0c.mk 0 0).cv,Bo false]) (p.set i (some (.var sh131 m'.cv)))
 |.error c=>.ret (.tup [(X0c.mk c.1 c.2).cv,Bo true]) (p.set i none)
def R73: Rel:=fun args p r=>∃(i:Nat) (m:Z0a),args=[.fn 74 [.ptr i []] []]/\(p.t.get i=some (.var sh131 m.cv))/\(0<=m.at_/\m.at_<=m.l_.l.length)/\(m.l_.l.length<=100000)/\(m.e_.Shots.tl≠.view)/\(m.e_.Shots.l.length<=100000)/\r=resC i p (Mach.run 64 m)
theorem t73{T:XCall}(h:Has T 73 R73)(i:Nat)(m:Z0a){p:Hp}(h1:p.t.get i=some (.var sh131 m.cv))(h2:0<=m.at_/\m.at_<=m.l_.l.length)(hl:m.l_.l.length<=100000)(h3:m.e_.Shots.tl≠.view)(h4:m.e_.Shots.l.length<=100000): T 73 [.fn 74 [.ptr i []] []] p=resC i p (Mach.run 64 m):=h _ _ _ ⟨i,m,rfl,h1,h2,hl,h3,h4,rfl⟩
theorem zq73{A B:Prop}(k:B)(h:A=B:=by((try simp -dsimp (disch:=first|exact zdis|fail) only[zcore,zall,zopm,zop,zcallOp,qop,qbuiltin,ofOpt,List.map,reduceCtorEq,if_true,if_false,↓reduceIte,zbin,eqRes,qassert,qnum,qshift,qun,kindOf,allocV,List.nil_append,List.append_nil,List.cons_append,List.length_cons,List.length_nil,Nat.reduceAdd,Nat.reduceEqDiff,Nat.reduceLT,Nat.reduceSub,Nat.reduceMul,Int.reduceToNat,Int.reduceLE,Int.reduceLT,Int.reduceEq,Int.reduceNeg,Int.reduceAdd,Int.reduceSub,beq_self_eq_true,cond_true,cond_false,isConstOpd,xpanic,xconv,isBytes,qconv,List.length_map,List.map_nil,List.map_cons,concrete,Option.some.injEq,exists_eq',Option.map_some,Option.map_none,List.getElem?_cons_zero,List.getElem?_cons_succ,zw73,rs73,xc73_z,zw149,qcA_n,qcB_n,qcP_n,qcP_r,qcP_p,qcE_n,qcE_r,tt1,tt4,tt5,tt20,tt44,tt194,ti1,ti4,ti5,ti20,ti44,ti194,t_74,K0r,Q0z,K0f,resR,fault,h1,h2,hl,h3,h4,zx,hc]);rfl)): A:=h▸k
theorem zno73{P:Prop}(h:P:=by intro jj;simp[CV.has,CV.hasL,fault,Z0b.nohas,X0c.nohas,Z0b.nohas]): P:=h
theorem zge73{P:Prop}(h:P:=by simp (disch:=first|exact zdl|fail) only[zheap,h1];first|done|rfl): P:=h
theorem c73: Con C 73 R73:=by
 refine Q0e C ?_ ?_ ?_
 ·rintro args p r r' ⟨i,m,h,h1,h2,hl,h3,h4,e⟩ ⟨i',m',h',h1',h2',hl',h3',h4',e'⟩
  subst e;subst e';simp_all[X0c.inj_iff,Z0b.inj_iff,Z0a.inj_iff]
 ·rintro args p r ⟨i,m,h,h1,h2,hl,h3,h4,rfl⟩;first|(split<;>simp;done)|(simp;done)|(simp only[resM];split<;>simp;done)|(simp only[resD];split<;>simp;done)  | (unfold resC;split<;>simp;done)
 rintro args p r ⟨i,m,rfl,h1,h2,hl,h3,h4,rfl⟩
 refine ans_catch C false noExt (tabL C [(74,R74)]) xc73_ok (noExt_ok C) (Y03 C _) xc73_a xc73_b xc73_p xc73_r (by kernel_rfl) (Nat.le_of_ble_eq_true (by kernel_rfl)) xc73_n fun hF=>?_
 have t_74:=@t74 (tabL C [(74,R74)]) (has_head C c74 [])
 generalize tabL C [(74,R74)]=call at t_74 ⊢
 have hd_h1:=hF.dom _ _ h1
 show W C false noExt call zn73_1 (argE [.fn 74 [.ptr i []] []]) p (qcA C false noExt call zn73_3 X1z Q1t xc73 _)
 cases hr:Mach.run 64 m with
 |ok m'=>
  (have zx:=zA hr h1;refine zq73 ?_;try exact zT)
  repeat'(apply zK.s<;>intro hc<;>(try simp only[zhd]at hc)<;>(try have hw:=X0a hc)<;>(refine zq73 ?_;try exact zT))
  all_goals(try clear zx)
  obtain⟨k1,k2⟩:=Mach.run_keeps 64 m m' hr h2.1
  refine X0l hF hd_h1 zlm ⟨_,zge73,V0p fun j hj=>hF.lt_obj (.arg (a:=CV.fn 74 [CV.ptr i []] []) (by simp) (by simp[CV.has,CV.hasL])) h1 j ?_⟩ (Y0d (Z0c zno73))
  simp only[XObj.has,Z0a.has,K0c.has]at hj ⊢
  rw[k2]at hj
  rcases k1 with e|e<;>simp_all
 |error c=>
  (have zx:=zA hr h1;refine zq73 ?_;try exact zT)
  repeat'(apply zK.s<;>intro hc<;>(try simp only[zhd]at hc)<;>(try have hw:=X0a hc)<;>(refine zq73 ?_;try exact zT))
  all_goals(try clear zx)
  exact shr_drop hF zlm (Y0d (Z0c zno73))
def R72: Rel:=fun args p r=>∃(e:K0c),args=[e.cv]/\(e.Shots.tl≠.view)/\(e.Shots.l.length<=1000000)/\r=.ret (copiedE e).cv p
theorem t72{T:XCall}(h:Has T 72 R72)(e:K0c){p:Hp}(h1:e.Shots.tl≠.view)(h2:e.Shots.l.length<=1000000): T 72 [e.cv] p=.ret (copiedE e).cv p:=h _ _ _ ⟨e,rfl,h1,h2,rfl⟩
theorem zq72{A B:Prop}(k:B)(h:A=B:=by have zy:=zA @zw72<|zA @rs72<|zA @tt37<|zA @tt39<|zA ti37.eq_1<|zA ti39.eq_1<|zA @t_148<|zA @X0k<|zA @Z0d<|zA @zsl37<|zA @h1<|@h2;exact zQ): A:=h▸k
theorem c72: Con C 72 R72:=by
 refine Q0e C ?_ ?_ ?_
 ·rintro args p r r' ⟨e,h,h1,h2,e⟩ ⟨e',h',h1',h2',e'⟩
  subst e;subst e';simp_all[K0c.inj_iff,Q0a.inj_iff,X0q]
 ·rintro args p r ⟨e,h,h1,h2,rfl⟩;exact zr1
 rintro args p r ⟨e,rfl,h1,h2,rfl⟩
 refine zW C false [(148,R148)] ⟨c148,zT⟩ rfl xf72 zc72_ok fun call zh hF=>?_
 have t_148:=@t148 _ zh.1
 clear zh
 cases hco:cloneOwn e.Shots
 all_goals(have zx:=hco;refine zq72 ?_;try exact zT)
 repeat'(apply zK.s<;>intro hc<;>(try simp only[zhd]at hc)<;>(try have hw:=X0a hc)<;>(refine zq72 ?_;try exact zT))
 all_goals(try clear zx)
 all_goals
  refine K0d hF zle ?_
  have h1:CV.weak (fun k=>k) p.n e.Body.cv e.Body.cv:=Y0d (Z0c (Q0a.nohas _))
  have h2:CV.weak (fun k=>k) p.n e.In.cv e.In.cv:=Y0d (Z0c (K0b.nohas _))
  have h5:=weak_clone Q0a.nohas e.Shots (p.n+1+1) p.n
  simp only[copiedE,K0c.cv,CV.weak,CV.weakL]
  exact⟨h1,h2,trivial,trivial,h5,trivial⟩
def R25: Rel:=fun args p r=>∃(l:Lst Q0c) (e:K0c),args=[l.cv Q0c.cv,e.cv]/\(l.l.length<=100000)/\(e.Shots.tl≠.view)/\(e.Shots.l.length<=100000)/\r=.ret (.tup [(ruleRun l e).1.cv,(ruleRun l e).2.1.cv,Bo (ruleRun l e).2.2]) p
theorem t25{T:XCall}(h:Has T 25 R25)(l:Lst Q0c)(e:K0c){p:Hp}(hl:l.l.length<=100000)(h1:e.Shots.tl≠.view)(h2:e.Shots.l.length<=100000): T 25 [l.cv Q0c.cv,e.cv] p=.ret (.tup [(ruleRun l e).1.cv,(ruleRun l e).2.1.cv,Bo (ruleRun l e).2.2]) p:=h _ _ _ ⟨l,e,rfl,hl,h1,h2,rfl⟩
theorem zdis25{P:Prop}(h:P:=by first|exact zdis|(simp only[Hp.bump_n,Hp.znew_n,Hp.zset_n,List.length_nil,List.length_cons,List.length_append,List.length_map,Z0x];(first|done|omega))|(simp (disch:=first|exact zd1|(simp only[Hp.bump_n,Hp.znew_n,Hp.zset_n,List.length_nil,List.length_cons,List.length_append,List.length_map,Z0x];(first|done|omega))) only[zheap,zx];(first|done|rfl))|fail): P:=h
theorem zq25{A B:Prop}(k:B)(h:A=B:=by((try simp -dsimp (disch:=first|exact zdis25|fail) only[zcore,zall,zopm,zop,zcallOp,qop,qbuiltin,ofOpt,List.map,reduceCtorEq,if_true,if_false,↓reduceIte,zbin,eqRes,qassert,qnum,qshift,qun,kindOf,allocV,List.nil_append,List.append_nil,List.cons_append,List.length_cons,List.length_nil,Nat.reduceAdd,Nat.reduceEqDiff,Nat.reduceLT,Nat.reduceSub,Nat.reduceMul,Int.reduceToNat,Int.reduceLE,Int.reduceLT,Int.reduceEq,Int.reduceNeg,Int.reduceAdd,Int.reduceSub,beq_self_eq_true,cond_true,cond_false,isConstOpd,xpanic,xconv,isBytes,qconv,List.length_map,List.map_nil,List.map_cons,concrete,Option.some.injEq,exists_eq',Option.map_some,Option.map_none,List.getElem?_cons_zero,List.getElem?_cons_succ,zw25,rs25,tt3,tt34,tt39,tt44,tt131,ti3,ti34,ti39,ti44,ti131,t_24,t_72,t_73,K0f,X0k,Z0d,K0r,resC,hl,h1,h2,zx,hc]);rfl)): A:=h▸k
theorem c25: Con C 25 R25:=by
 refine Q0e C ?_ ?_ ?_
 ·rintro args p r r' ⟨l,e,h,hl,h1,h2,e⟩ ⟨l',e',h',hl',h1',h2',e'⟩
  subst e;subst e';simp_all[Z0a.inj_iff,K0c.inj_iff,Q0a.inj_iff,X0c.inj_iff,K0j]
 ·rintro args p r ⟨l,e,h,hl,h1,h2,rfl⟩;exact zr1
 rintro args p r ⟨l,e,rfl,hl,h1,h2,rfl⟩
 refine zW C false [(24,R24),(72,R72),(73,R73)] ⟨c24,c72,c73,zT⟩ rfl xf25 zc25_ok fun call zh hF=>?_
 have t_24:=@t24 _ zh.1
 have t_72:=@t72 _ zh.2.1
 have t_73:=@t73 _ zh.2.2.1
 clear zh
 have hv:(copiedE e).Shots.tl≠.view:=cloneP_nv e.Shots
 have hv2:(copiedE e).Shots.l.length<=100000:=by show(cloneP e.Shots).l.length<=_;rw[Z0x];exact h2
 have hn:∀j,¬(copiedE e).cv.has j:=fun j h=>cloneP_no e.Shots j ((K0c.has _ j).1 h)
 cases hr:Mach.run 64 ⟨copiedE e,l,0⟩ with
 |error c=>
  (have zx:=hr;refine zq25 ?_;try exact zT)
  repeat'(apply zK.s<;>intro hc<;>(try simp only[zhd]at hc)<;>(try have hw:=X0a hc)<;>(refine zq25 ?_;try exact zT))
  all_goals(try clear zx)
  all_goals
   simp[ruleRun, *]
   refine K0d hF zle (Y0d (Z0c fun j hj=>?_))
   simp[CV.has,CV.hasL,X0c.nohas]at hj
   exact hn j hj
 |ok m'=>
  have hn':∀j,¬m'.e_.cv.has j:=fun j h=>by
   have h:=(K0c.has _ j).1 h
   rcases(Mach.run_keeps 64 _ m' hr (Int.le_refl _)).1 with k|k
   ·rw[k]at h;exact cloneP_no e.Shots j h
   ·rw[k]at h;cases h
  (have zx:=hr;refine zq25 ?_;try exact zT)
  repeat'(apply zK.s<;>intro hc<;>(try simp only[zhd]at hc)<;>(try have hw:=X0a hc)<;>(refine zq25 ?_;try exact zT))
  all_goals(try clear zx)
  all_goals
   simp[ruleRun, *]
   refine K0d hF zle (Y0d (Z0c fun j hj=>?_))
   simp[CV.has,CV.hasL,X0c.nohas]at hj
   first|exact hn j hj|exact hn' j hj
end Go.Proofs.Ytpchcfkebljopaa
end
section
namespace Go.Proofs.Ytpchcfkebljopaa
open Go.Cl Go Go.RowKit
set_option maxRecDepth 100000
end Go.Proofs.Ytpchcfkebljopaa
end
section
namespace Go.Proofs.Ytpchcfkebljopaa
open Go.Cl Go Go.RowKit
def pick(n m:Int): Int:=if n.tmod m<0 then n.tmod m+m else n.tmod m
theorem Q0g{n m:Int}(h:0<m): 0<=pick n m/\pick n m<m:=by
 unfold pick
 have h1:=Int.tmod_lt_of_pos n h
 have h2:-m<n.tmod m:=by
  have:=Int.lt_tmod_of_pos n h
  omega
 split<;>omega
def bodyBorn(owner players:Int): Q0a:=
 {Q0a.zero with Kind:=1,Owner:=brought owner 0 (brought players 1 8-1),X:=w64 (((2*brought owner 0 (brought players 1 8-1)+1)*4096).tdiv (2*brought players 1 8)),Y:=2048}
def handInput(n m:Int): K0b:=⟨pick n 256,w64 (pick m 129-64),w64 (pick (w64 (m.tdiv 129)) 129-64)⟩
def handOp(x:V0b): Q0c:=
 let c:=w64 (1+pick x.Code 13)
 let b:=if c=1 then w64 (pick x.B 90-30)else if c=7 then pick x.B 8 else if c=9\/c=10 then pick x.B 9 else pick x.B 4
 let k:=pick x.Code 101
 if k=97 then⟨c,x.A,b⟩else if k=98 then⟨c,pick x.A 4,x.B⟩else if k=99 then⟨x.B,pick x.A 4,b⟩else if k=100 then⟨c,pick x.A 9,b⟩ else⟨c,pick x.A 4,b⟩
def memVal(v:Int): Int:=if v.tmod 9=8 then w64 (pick v 2000001-1000000)else w64 (pick v 41-20)
def memN(l:List Int): Nat->Q0a->Q0a
 |0,b=>b
 |k+1,b=>(memN l k b).put_7k k (memVal (nth l k))
def env0: K0c:={K0c.zero with Body:=bodyBorn 0 1,In:=⟨3,-64,7⟩,Dice:=5,Room:=2}
end Go.Proofs.Ytpchcfkebljopaa
end
section
namespace Go.Proofs.Ytpchcfkebljopaa
open Go.Cl Go Go.RowKit
set_option maxRecDepth 100000
set_option linter.constructorNameAsVariable false
def R37: Rel:=fun args p r=>∃(n m:Int),args=[I n,I m]/\(0<m)/\(m<=9223372036854775807)/\r=.ret (I (pick n m)) p
theorem t37{T:XCall}(h:Has T 37 R37)(n m:Int){p:Hp}(h1:0<m)(h2:m<=9223372036854775807): T 37 [I n,I m] p=.ret (I (pick n m)) p:=h _ _ _ ⟨n,m,rfl,h1,h2,rfl⟩
theorem zq37{A B:Prop}(k:B)(h:A=B:=by have zy:=zA @zw37<|zA @rs37<|zA @tt3<|zA ti3.eq_1<|zA @h1<|@h2;exact zQ): A:=h▸k
theorem zno37{P:Prop}(h:P:=by intro jj;simp[CV.has,CV.hasL,fault,Z0b.nohas]): P:=h
theorem c37: Con C 37 R37:=by
 refine Q0e C ?_ ?_ ?_
 ·rintro args p r r' ⟨n,m,h,h1,h2,e⟩ ⟨n',m',h',h1',h2',e'⟩
  subst e;subst e';simp_all
 ·rintro args p r ⟨n,m,h,h1,h2,rfl⟩;exact zr1
 rintro args p r ⟨n,m,rfl,h1,h2,rfl⟩
 refine zW C false [] zT rfl xf37 zc37_ok fun call zh hF=>?_
 clear zh
 have hm:=Int.tmod_lt_of_pos n h1
 have hm2:=Int.lt_tmod_of_pos n h1
 (have zx:=zT;refine zq37 ?_;try exact zT)
 repeat'(apply zK.s<;>intro hc<;>(try simp only[zhd,zhn]at hc)<;>(try have hw:=X0a hc)<;>(refine zq37 ?_;try exact zT))
 all_goals(try clear zx)
 all_goals refine K0d hF zle (Y0c ?_ (Z0c zno37))
 all_goals(simp[pick,hc]<;>omega)
def R64: Rel:=fun args p r=>∃(o k:Int),args=[I o,I k]/\r=.ret (bodyBorn o k).cv p
theorem t64{T:XCall}(h:Has T 64 R64)(o k:Int){p:Hp}:T 64 [I o,I k] p=.ret (bodyBorn o k).cv p:=h _ _ _ ⟨o,k,rfl,rfl⟩
theorem zq64{A B:Prop}(k:B)(h:A=B:=by have zy:=zA @zw64<|zA @rs64<|zA @tt3<|zA @tt34<|zA ti3.eq_1<|zA ti34.eq_1<|zA @t_140<|@Z0d;exact zQ): A:=h▸k
theorem zno64{P:Prop}(h:P:=by intro jj;simp[CV.has,CV.hasL,fault,Z0b.nohas,Q0a.nohas]): P:=h
theorem c64: Con C 64 R64:=by
 refine Q0e C ?_ ?_ ?_
 ·rintro args p r r' ⟨o,k,h,e⟩ ⟨o',k',h',e'⟩
  subst e;subst e';simp_all[Q0a.inj_iff]
 ·rintro args p r ⟨o,k,h,rfl⟩;exact zr1
 rintro args p r ⟨o,k,rfl,rfl⟩
 refine zW C false [(140,R140)] ⟨c140,zT⟩ rfl xf64 zc64_ok fun call zh hF=>?_
 have t_140:=@t140 _ zh.1
 clear zh
 have h1:1<=brought k 1 8/\brought k 1 8<=8:=by unfold brought;omega
 have h2:0<=brought o 0 (brought k 1 8-1)/\brought o 0 (brought k 1 8-1)<=7:=by
  have:∀a b:Int,0<=b->b<=7->0<=brought a 0 b/\brought a 0 b<=7:=by intro a b _ _;unfold brought;omega
  exact this _ _ (by omega) (by omega)
 (have zx:=zT;refine zq64 ?_;try exact zT)
 repeat'(apply zK.s<;>intro hc<;>(try simp only[zhd,zhn]at hc)<;>(try have hw:=X0a hc)<;>(refine zq64 ?_;try exact zT))
 all_goals(try clear zx)
 exact K0d hF zle (Y0c rfl (Z0c zno64))
def R69: Rel:=fun args p r=>∃(n k:Int),args=[I n,I k]/\(-9223372036854775808<=k/\k<=9223372036854775807)/\r=.ret (handInput n k).cv p
theorem t69{T:XCall}(h:Has T 69 R69)(n k:Int){p:Hp}(h1:-9223372036854775808<=k/\k<=9223372036854775807): T 69 [I n,I k] p=.ret (handInput n k).cv p:=h _ _ _ ⟨n,k,rfl,h1,rfl⟩
theorem zq69{A B:Prop}(k:B)(h:A=B:=by have zy:=zA @zw69<|zA @rs69<|zA @tt3<|zA @tt36<|zA ti3.eq_1<|zA ti36.eq_1<|zA @t_37<|zA @Q0h<|@h1;exact zQ): A:=h▸k
theorem zno69{P:Prop}(h:P:=by intro jj;simp[CV.has,CV.hasL,fault,Z0b.nohas,K0b.nohas]): P:=h
theorem c69: Con C 69 R69:=by
 refine Q0e C ?_ ?_ ?_
 ·rintro args p r r' ⟨n,k,h,h1,e⟩ ⟨n',k',h',h1',e'⟩
  subst e;subst e';simp_all[K0b.inj_iff]
 ·rintro args p r ⟨n,k,h,h1,rfl⟩;exact zr1
 rintro args p r ⟨n,k,rfl,h1,rfl⟩
 refine zW C false [(37,R37)] ⟨c37,zT⟩ rfl xf69 zc69_ok fun call zh hF=>?_
 have t_37:=@t37 _ zh.1
 clear zh
 (have zx:=zT;refine zq69 ?_;try exact zT)
 repeat'(apply zK.s<;>intro hc<;>(try simp only[zhd,zhn]at hc)<;>(try have hw:=X0a hc)<;>(refine zq69 ?_;try exact zT))
 all_goals(try clear zx)
 exact K0d hF zle (Y0c rfl (Z0c zno69))
def R21: Rel:=fun args p r=>∃(x:V0b),args=[x.cv]/\r=.ret (handOp x).cv p
theorem t21{T:XCall}(h:Has T 21 R21)(x:V0b){p:Hp}:T 21 [x.cv] p=.ret (handOp x).cv p:=h _ _ _ ⟨x,rfl,rfl⟩
theorem zq21{A B:Prop}(k:B)(h:A=B:=by have zy:=zA @zw21<|zA @rs21<|zA @tt3<|zA @tt29<|zA @tt31<|zA ti3.eq_1<|zA ti29.eq_1<|zA ti31.eq_1<|zA @t_37<|zA @K02<|@Y0j;exact zQ): A:=h▸k
theorem zno21{P:Prop}(h:P:=by intro jj;simp[CV.has,CV.hasL,fault,Z0b.nohas,V0b.nohas,Q0c.nohas]): P:=h
theorem c21: Con C 21 R21:=by
 refine Q0e C ?_ ?_ ?_
 ·rintro args p r r' ⟨x,h,e⟩ ⟨x',h',e'⟩
  subst e;subst e';simp_all[V0b.inj_iff,Q0c.inj_iff]
 ·rintro args p r ⟨x,h,rfl⟩;exact zr1
 rintro args p r ⟨x,rfl,rfl⟩
 refine zW C false [(37,R37)] ⟨c37,zT⟩ rfl xf21 zc21_ok fun call zh hF=>?_
 have t_37:=@t37 _ zh.1
 clear zh
 (have zx:=zT;refine zq21 ?_;try exact zT)
 repeat'(apply zK.s<;>intro hc<;>(try simp only[zhd,zhn]at hc)<;>(try have hw:=X0a hc)<;>(refine zq21 ?_;try exact zT))
 all_goals(try clear zx)
 all_goals refine K0d hF zle (Y0c ?_ (Z0c zno21))
 all_goals simp[handOp, *]
end Go.Proofs.Ytpchcfkebljopaa
end
section
namespace Go.Proofs.Ytpchcfkebljopaa
open Go.Cl Go Go.RowKit
theorem Z0e{n lo hi:Int}(h:lo<=hi): lo<=brought n lo hi/\brought n lo hi<=hi:=by unfold brought;omega
theorem K0h{b:Q0a}(h:b.Kind≠0): Body.right b=true ↔ (∀n∈b.Mem,-1000000<=n/\n<=1000000)/\(b.Kind=1\/b.Kind=2)/\(0<=b.Owner/\b.Owner<=7)/\(0<=b.X/\b.X<=4095)/\(0<=b.Y/\b.Y<=4095)/\(-64<=b.VX/\b.VX<=64)/\(-64<=b.VY/\b.VY<=64)/\(0<=b.Age/\b.Age<=600)/\(0<=b.Faults/\b.Faults<=65535):=by
 unfold Body.right
 rw[if_neg h]
 simp[within,and_assoc]
theorem right_shoot{b:Q0a}(h:Body.right b=true)(hk:b.Kind≠0)(vx vy:Int): Body.right (bodyShoot b vx vy)=true/\(bodyShoot b vx vy).Kind=2/\(bodyShoot b vx vy).Owner=b.Owner:=by
 have r:=(K0h hk).1 h
 have h1:=Z0e (n:=vx) (lo:=-64) (hi:=64) (by omega)
 have h2:=Z0e (n:=vy) (lo:=-64) (hi:=64) (by omega)
 unfold bodyShoot
 rw[if_pos ⟨h,hk⟩]
 refine⟨(K0h (by simp)).2 ⟨?_,.inr rfl,r.2.2.1,r.2.2.2.1,r.2.2.2.2.1,h1,h2,by simp[Q0a.zero],by simp[Q0a.zero]⟩,rfl,rfl⟩
 intro n hn
 have:n=0:=by simpa[Q0a.zero]using hn
 omega
theorem right_put7{b:Q0a}(h:Body.right b=true)(hk:b.Kind≠0)(k:Nat)(n:Int)(hn:-1000000<=n/\n<=1000000): Body.right (b.put_7k k n)=true:=by
 have r:=(K0h hk).1 h
 refine(K0h (b:=b.put_7k k n) hk).2 ⟨?_,r.2⟩
 intro x hx
 rcases List.mem_or_eq_of_mem_set hx with h|h
 ·exact r.1 x h
 ·rw[h];exact hn
structure InvE(e g:K0c): Prop where
 right:Body.right g.Body=true
 kind:g.Body.Kind=e.Body.Kind
 owner:g.Body.Owner=e.Body.Owner
 age:g.Body.Age=e.Body.Age
 faults:g.Body.Faults=e.Body.Faults
 inp:g.In=e.In
 room:g.Room=e.Room
 len:(g.Shots.l.length:Int)<=e.Room
 shots:∀s∈g.Shots.l,Body.right s=true/\s.Kind=2/\s.Owner=e.Body.Owner
theorem InvE.set{e:K0c}{m:Z0a}(h:InvE e m.e_)(hk:e.Body.Kind≠0)(k:Nat)(n:Int): InvE e (Mach.set m k n).e_:=
 ⟨right_put7 h.right (by rw[h.kind];exact hk) k _ (Z0e (by omega)),h.kind,h.owner,h.age,h.faults,h.inp,h.room,h.len,h.shots⟩
theorem InvE.put{e:K0c}{m:Z0a}(h:InvE e m.e_)(hk:e.Body.Kind≠0)(k n:Int): InvE e (Mach.put m k n).e_:=by
 have hk':m.e_.Body.Kind≠0:=by rw[h.kind];exact hk
 have r:=(K0h hk').1 h.right
 have h1:=Z0e (n:=n) (lo:=0) (hi:=4095) (by omega)
 have h2:=Z0e (n:=n) (lo:=-64) (hi:=64) (by omega)
 obtain⟨r1,r2,r3,r4,r5,r6,r7,r8,r9⟩:=r
 unfold Mach.put Mach.body
 simp only
 split
 ·exact⟨(K0h (by exact hk')).2 ⟨r1,r2,r3,h1,r5,r6,r7,r8,r9⟩,h.kind,h.owner,h.age,h.faults,h.inp,h.room,h.len,h.shots⟩
 split
 ·exact⟨(K0h (by exact hk')).2 ⟨r1,r2,r3,r4,h1,r6,r7,r8,r9⟩,h.kind,h.owner,h.age,h.faults,h.inp,h.room,h.len,h.shots⟩
 split
 ·exact⟨(K0h (by exact hk')).2 ⟨r1,r2,r3,r4,r5,h2,r7,r8,r9⟩,h.kind,h.owner,h.age,h.faults,h.inp,h.room,h.len,h.shots⟩
 ·exact⟨(K0h (by exact hk')).2 ⟨r1,r2,r3,r4,r5,r6,h2,r8,r9⟩,h.kind,h.owner,h.age,h.faults,h.inp,h.room,h.len,h.shots⟩
theorem InvE.shoot{e:K0c}{m:Z0a}(h:InvE e m.e_)(hk:e.Body.Kind≠0)(a b:Int)(hlt:(m.e_.Shots.l.length:Int)<m.e_.Room): InvE e {m.e_ with Shots:=⟨.part,m.e_.Shots.l++[bodyShoot m.e_.Body a b],nofun⟩}:=by
 have hs:=right_shoot h.right (by rw[h.kind];exact hk) a b
 refine⟨h.right,h.kind,h.owner,h.age,h.faults,h.inp,h.room,?_,?_⟩
 ·have:=h.room
  simp only[List.length_append,List.length_cons,List.length_nil]
  omega
 ·intro s hs'
  rcases List.mem_append.1 hs' with h'|h'
  ·exact h.shots s h'
  ·have:s=bodyShoot m.e_.Body a b:=by simpa using h'
   rw[this]
   exact⟨hs.1,hs.2.1,by rw[hs.2.2];exact h.owner⟩
theorem InvE.dice{e:K0c}{m:Z0a}(h:InvE e m.e_)(d:Int): InvE e ({m with e_:={m.e_ with Dice:=d}}:Z0a).e_:=⟨h.right,h.kind,h.owner,h.age,h.faults,h.inp,h.room,h.len,h.shots⟩
theorem reckon_inv{e:K0c}{m m':Z0a}(h:InvE e m.e_)(hk:e.Body.Kind≠0){o:Q0c}(hr:Mach.reckon m o=.ok m'): InvE e m'.e_:=by
 unfold Mach.reckon at hr
 simp only at hr
 repeat'(split at hr)
 all_goals first
  |(cases hr;done)
  |(cases hr;exact h.set hk _ _)
  |(cases hr;exact InvE.set (h.dice _) hk _ _)
  |(rename_i hlt;cases hr;exact h.shoot hk _ _ hlt)
theorem reckon_err{m:Z0a}{o:Q0c}{c:Int}(hr:Mach.reckon m o=.error c): 1<=c/\c<=7:=by
 unfold Mach.reckon at hr
 simp only at hr
 repeat'(split at hr)
 all_goals first
  |(cases hr;done)
  |(cases hr;omega)
theorem doOp_inv{e:K0c}{m:Z0a}{r:Z0a×Int}(h:InvE e m.e_)(hk:e.Body.Kind≠0){o:Q0c}(hr:Mach.doOp m o=.ok r): InvE e r.1.e_:=by
 unfold Mach.doOp at hr
 repeat'(split at hr)
 all_goals first
  |(cases hr;done)
  |(cases hr;exact h.set hk _ _)
  |(cases hr;exact h.put hk _ _)
  |(cases hr;exact h)
  |(rename_i hq;cases hr;exact reckon_inv h hk hq)
theorem doOp_err{m:Z0a}{o:Q0c}{c:Int}(hr:Mach.doOp m o=.error c): 1<=c/\c<=7:=by
 unfold Mach.doOp at hr
 repeat'(split at hr)
 all_goals first
  |(cases hr;done)
  |(cases hr;omega)
  |(rename_i hq;cases hr;exact reckon_err hq)
theorem run_inv{e:K0c}(hk:e.Body.Kind≠0): ∀(k:Nat) (m:Z0a),InvE e m.e_->0<=m.at_->match Mach.run k m with|.ok m'=>InvE e m'.e_|.error c=>1<=c.1/\c.1<=7/\0<=c.2/\c.2<m.l_.l.length
 |k,m,h,ha=>by
  unfold Mach.run
  by_cases hlt:m.at_<m.l_.l.length
  ·rw[if_pos hlt]
   cases k with
   |zero=>exact⟨by omega,by omega,ha,hlt⟩
   |succ k=>
    simp only
    cases hq:Mach.doOp m (nth m.l_.l m.at_.toNat) with
    |error c=>exact⟨(doOp_err hq).1,(doOp_err hq).2,ha,hlt⟩
    |ok r=>
     obtain⟨m2,n⟩:=r
     have hd:=doOp_inv h hk hq
     have kk:=Mach.doOp_keeps hq ha hlt
     have ih:=run_inv hk k {m2 with at_:=n} hd kk.2.2.2.2.1
     have hl2:m2.l_=m.l_:=kk.2.1
     simp only[hl2]at ih ⊢
     exact ih
  ·rw[if_neg hlt];exact h
end Go.Proofs.Ytpchcfkebljopaa
end
section
namespace Go.Proofs.Ytpchcfkebljopaa
open Go.Cl Go Go.RowKit
set_option maxRecDepth 100000
set_option linter.constructorNameAsVariable false
theorem take_nth{α:Type}[Inhabited α]{l:List α}{k:Nat}(h:k<l.length): l.take (k+1)=l.take k++[nth l k]:=by
 rw[List.take_add_one,Q0w h];rfl
end Go.Proofs.Ytpchcfkebljopaa
end
section
namespace Go.Cl
open Go.RowKit Go.ChangeShapes Go.WideShapes Go.ChangeAt
def consB(P:Program): Nat->List Field->Nat->Bool
 |off,[],tot=>off==tot
 |off,f::l,tot=>f.offset==off&&consB P (off+P.cellsOf f.type) l tot
def sup(P:Program): Nat->TypeId->Bool
 |0,_=>false
 |n+1,t=>match P.underlying t with
  |some (.int _)|some .bool|some (.float _)|some .string=>true
  |some (.struct fs)=>consB P 0 fs.toList (P.cellsOf t)&&fs.toList.all fun f=>sup P n f.type
  |some (.array c e)=>(P.cellsOf t==c*P.cellsOf e)&&sup P n e
  |_=>false
def All2(r:TypeId->CV->Prop): List TypeId->List CV->Prop
 |[],[]=>True
 |t::ts,v::l=>r t v/\All2 r ts l
 |_,_=>False
def Ty(P:Program): Nat->TypeId->CV->Prop
 |0,_,_=>False
 |n+1,t,v=>match P.underlying t with
  |some (.int k)=>∃i,v=.sc (.int k i)/\(Lit.int k i).wf=true
  |some .bool=>∃b,v=.sc (.bool b)
  |some (.float k)=>∃b,v=.sc (.float k b)/\(Lit.float k b).wf=true
  |some .string=>∃s,v=.sc (.string s)/\s.size<=maxLen
  |some (.struct fs)=>∃l,v=.agg l/\All2 (Ty P n) (fs.toList.map (·.type)) l
  |some (.array c e)=>∃l,v=.agg l/\l.length=c/\∀x∈l,Ty P n e x
  |_=>False
variable {H:Type} {enc:TypeId×Value->H} {P:Program} {w:World} {base:Nat} {spare:Nat->Bool} {held:Bool}
theorem Q1i{n fuel:Nat}(S:St)(ih:∀t cs x,sup P n t=true->DataW.trod enc P w base spare held fuel t cs=some x->∃v,FR S v cs/\Ty P n t v)(cs:List Value):
  ∀(fl:List Field) (off tot:Nat) (xs:List (DataW H×List MemPlace)),consB P off fl tot=true->cs.length=tot->(fl.all fun f=>sup P n f.type)=true->
   (fl.mapM fun f=>DataW.trod enc P w base spare held fuel f.type ((cs.drop f.offset).take (P.cellsOf f.type)))=some xs->∃l,FRs S l (cs.drop off)/\All2 (Ty P n) (fl.map (·.type)) l
 |[],off,tot,xs,hc,hl,_,_=>by
  simp only[consB,beq_iff_eq]at hc
  subst hc
  exact⟨[],by simp[FRs,hl],trivial⟩
 |f::fl,off,tot,xs,hc,hl,ha,hm=>by
  simp only[consB,Bool.and_eq_true,beq_iff_eq]at hc
  simp only[List.all_cons,Bool.and_eq_true]at ha
  simp only[List.mapM_cons,Option.pure_def,Option.bind_eq_bind,Option.bind_eq_some_iff]at hm
  obtain⟨y,hy,ys,hys,_⟩:=hm
  obtain⟨v,hv,tv⟩:=ih _ _ _ ha.1 hy
  obtain⟨l,hl',tl⟩:=Q1i S ih cs fl _ tot ys hc.2 hl ha.2 hys
  refine⟨v::l,?_,tv,tl⟩
  simp only[FRs]
  refine⟨_,_,?_,hv,hl'⟩
  rw[hc.1,<- List.drop_drop,List.take_append_drop]
theorem X1p{n fuel sz:Nat}{e:TypeId}(S:St)(ih:∀t cs x,sup P n t=true->DataW.trod enc P w base spare held fuel t cs=some x->∃v,FR S v cs/\Ty P n t v)(he:sup P n e=true)(cs:List Value):
  ∀(c k:Nat) (xs:List (DataW H×List MemPlace)),cs.length=(k+c)*sz->
   ((List.range' k c).mapM fun i=>DataW.trod enc P w base spare held fuel e ((cs.drop (i*sz)).take sz))=some xs->∃l,FRs S l (cs.drop (k*sz))/\l.length=c/\∀x∈l,Ty P n e x
 |0,k,xs,hl,_=>⟨[],by simp[FRs,hl],rfl,by simp⟩
 |c+1,k,xs,hl,hm=>by
  rw[List.range'_succ]at hm
  simp only[List.mapM_cons,Option.pure_def,Option.bind_eq_bind,Option.bind_eq_some_iff]at hm
  obtain⟨y,hy,ys,hys,_⟩:=hm
  obtain⟨v,hv,tv⟩:=ih _ _ _ he hy
  obtain⟨l,hl',hn,tl⟩:=X1p S ih he cs c (k+1) ys (by rw[hl];congr 1;omega) hys
  refine⟨v::l,?_,by simp[hn],by simpa using⟨tv,tl⟩⟩
  simp only[FRs]
  refine⟨_,_,?_,hv,hl'⟩
  rw[Nat.succ_mul,<- List.drop_drop,List.take_append_drop]
theorem read(S:St): ∀(n:Nat) (t:TypeId) (fuel:Nat) (cs:List Value) (x:DataW H×List MemPlace),sup P n t=true->DataW.trod enc P w base spare held fuel t cs=some x->∃v,FR S v cs/\Ty P n t v
 |0,t,_,_,_,hs,_=>by simp[sup]at hs
 |n+1,t,0,_,_,_,h=>by simp[DataW.trod]at h
 |n+1,t,fuel+1,cs,x,hs,h=>by
  have h0:=h
  unfold DataW.trod at h
  simp only[sup]at hs
  cases hu:P.underlying t with
  |none=>rw[hu]at hs;simp at hs
  |some u=>
   rw[hu]at hs h
   cases u with
   |int k=>
    obtain⟨i,rfl,_,hw⟩:=DataW.trod_int hu h0
    exact⟨.sc (.int k i),by simp[FR,plain],by simp only[Ty,hu];exact⟨i,rfl,hw⟩⟩
   |bool=>
    obtain⟨b,rfl,_⟩:=DataW.trod_bool hu h0
    exact⟨.sc (.bool b),by simp[FR,plain],by simp only[Ty,hu];exact⟨b,rfl⟩⟩
   |string=>
    obtain⟨s,rfl,_,hw⟩:=DataW.trod_string hu h0
    exact⟨.sc (.string s),by simp[FR,plain],by simp only[Ty,hu];exact⟨s,rfl,hw⟩⟩
   |float k=>
    simp only at h
    have hc:∃b,cs=[.float k b]/\(Lit.float k b).wf=true:=by
     clear hs h0
     split at h<;>try(rename_i e;cases e;done)
     all_goals first|(cases h;done)|skip
     ·rename_i k1 k2 b e
      split at h
      ·rename_i hk
       cases e
       obtain⟨rfl,hw⟩:=hk
       exact⟨b,rfl,hw⟩
      ·cases h
    obtain⟨b,rfl,hw⟩:=hc
    exact⟨.sc (.float k b),by simp[FR,plain],by simp only[Ty,hu];exact⟨b,rfl,hw⟩⟩
   |struct fs=>
    simp only[Bool.and_eq_true]at hs
    simp only at h
    split at h
    ·rename_i hlen
     simp only[Option.map_eq_some_iff]at h
     obtain⟨xs,hx,_⟩:=h
     obtain⟨l,hl,tl⟩:=Q1i S (fun t cs x=>read S n t fuel cs x) cs fs.toList 0 _ xs hs.1 hlen hs.2 hx
     exact⟨.agg l,by simpa[FR]using hl,by simp only[Ty,hu];exact⟨l,rfl,tl⟩⟩
    ·cases h
   |array c e=>
    simp only[Bool.and_eq_true,beq_iff_eq]at hs
    simp only at h
    split at h
    ·rename_i hlen
     simp only[Option.map_eq_some_iff]at h
     obtain⟨xs,hx,_⟩:=h
     rw[List.range_eq_range']at hx
     obtain⟨l,hl,hn,tl⟩:=X1p S (fun t cs x=>read S n t fuel cs x) hs.2 cs c 0 xs (by rw[hlen,hs.1];simp) hx
     exact⟨.agg l,by simpa[FR]using hl,by simp only[Ty,hu];exact⟨l,rfl,hn,tl⟩⟩
    ·cases h
   |_=>simp at hs
theorem V1u{a:Addr}(ha:a.spot=none)(n:Nat): a.add n=⟨a.block,a.off+n,none⟩:=by
 cases a;simp only at ha;subst ha;unfold Addr.add;split<;>simp_all
theorem lies_cells{a:Addr}(ha:a.spot=none){m:Nat}{cs:List Value}(h:w.cells? base a m=some cs): (S0 w).lies a.block a.off cs/\cs.length=m:=by
 unfold World.cells? at h
 split at h
 ·refine⟨fun j u hu=>?_,by simpa using mapM_some_length h⟩
  have hj:j<cs.length:=by
   rcases Nat.lt_or_ge j cs.length with q|q
   ·exact q
   ·rw[List.getElem?_eq_none q]at hu;cases hu
  have hl:cs.length=m:=by simpa using mapM_some_length h
  have:=mapM_some_get h j j (List.getElem?_range (by omega))
  rw[hu]at this
  simp only[S0]
  rw[<- this]
  rw[V1u ha]
 ·cases h
end Go.Cl
end
section
namespace Go.Cl
open Go.RowKit Go.ChangeShapes Go.WideShapes Go.ChangeAt
def sup2(P:Program): Nat->TypeId->Bool
 |0,_=>false
 |n+1,t=>match P.underlying t with
  |some (.int _)|some .bool|some (.float _)|some .string=>true
  |some (.slice e)=>Nat.blt 0 (P.cellsOf e)&&sup2 P n e
  |some (.struct fs)=>consB P 0 fs.toList (P.cellsOf t)&&fs.toList.all fun f=>sup2 P n f.type
  |some (.array c e)=>(P.cellsOf t==c*P.cellsOf e)&&sup2 P n e
  |_=>false
def Ty2(P:Program): Nat->TypeId->CV->Prop
 |0,_,_=>False
 |n+1,t,v=>match P.underlying t with
  |some (.int k)=>∃i,v=.sc (.int k i)/\(Lit.int k i).wf=true
  |some .bool=>∃b,v=.sc (.bool b)
  |some (.float k)=>∃b,v=.sc (.float k b)/\(Lit.float k b).wf=true
  |some .string=>∃s,v=.sc (.string s)/\s.size<=maxLen
  |some (.slice e)=>∃tl l,v=.lst tl l/\(∀x∈l,Ty2 P n e x)/\(tl=.view\/tl=.nil/\l=[])
  |some (.struct fs)=>∃l,v=.agg l/\All2 (Ty2 P n) (fs.toList.map (·.type)) l
  |some (.array c e)=>∃l,v=.agg l/\l.length=c/\∀x∈l,Ty2 P n e x
  |_=>False
theorem All2.mono{r r':TypeId->CV->Prop}(h:∀t v,r t v->r' t v): ∀ts l,All2 r ts l->All2 r' ts l
 |[],[],_=>trivial
 |_::ts,_::l,⟨a,b⟩=>⟨h _ _ a,All2.mono h ts l b⟩
 |[],_::_,k=>k.elim
 |_::_,[],k=>k.elim
theorem Ty.up{P:Program}: ∀(n:Nat) (t:TypeId) (v:CV),Ty P n t v->Ty2 P n t v
 |0,_,_,h=>h.elim
 |n+1,t,v,h=>by
  simp only[Ty]at h
  simp only[Ty2]
  cases hu:P.underlying t with
  |none=>rw[hu]at h;exact h.elim
  |some u=>
   rw[hu]at h
   cases u with
   |struct fs=>
    obtain⟨l,hl,ha⟩:=h
    exact⟨l,hl,All2.mono (fun t v=>Ty.up n t v) _ _ ha⟩
   |array c e=>
    obtain⟨l,hl,hn,ha⟩:=h
    exact⟨l,hl,hn,fun x hx=>Ty.up n _ x (ha x hx)⟩
   |int k=>exact h
   |bool=>exact h
   |float k=>exact h
   |string=>exact h
   |_=>exact h.elim
variable {H:Type} {enc:TypeId×Value->H} {P:Program} {w:World} {base:Nat} {spare:Nat->Bool} {held:Bool}
theorem Z1b{α β:Type}{f:α->Option β}{x:α}{l:List α}{ys:List β}(h:(x::l).mapM f=some ys): ∃y,f x=some y:=by
 simp only[List.mapM_cons,Option.pure_def,Option.bind_eq_bind,Option.bind_eq_some_iff]at h
 obtain⟨y,hy,_⟩:=h
 exact⟨y,hy⟩
theorem spot_of{a:Addr}{m k:Nat}{cs:List Value}(hm:0<m)(h:w.cells? base (a.add k) m=some cs)(hk:k=0): a.spot=none:=by
 subst hk
 obtain⟨m,rfl⟩:∃j,m=j+1:=⟨m-1,by omega⟩
 unfold World.cells? at h
 split at h
 ·rw[List.range_eq_range',List.range'_succ]at h
  obtain⟨y,hy⟩:=Z1b h
  simp only[Addr.add,if_true,World.cell?]at hy
  split at hy
  ·split at hy
   ·cases hy
   ·rename_i q;cases hs:a.spot<;>simp_all
  ·cases hy
 ·cases h
theorem V1f{n fuel sz:Nat}{e:TypeId}{a:Addr}(ih:∀cs x,DataW.trod enc P w base spare held fuel e cs=some x->∃v,FR (S0 w) v cs/\Ty2 P n e v)(hsz:P.cellsOf e=sz)(ha:a.spot=none):
  ∀(c k:Nat) (xs:List (DataW H×List MemPlace)),
   ((List.range' k c).mapM fun i=>(w.cells? base (a.add (i*sz)) sz).bind (DataW.trod enc P w base spare held fuel e))=some xs->
    ∃l es,FRs (S0 w) l es/\l.length=c/\(∀x∈l,Ty2 P n e x)/\(S0 w).lies a.block (a.off+k*sz) es/\es.length=c*sz/\∀x∈l,x.size=sz
 |0,k,xs,_=>⟨[],[],by simp[FRs],rfl,by simp,fun j u hu=>by simp at hu,by simp,by simp⟩
 |c+1,k,xs,hm=>by
  rw[List.range'_succ]at hm
  simp only[List.mapM_cons,Option.pure_def,Option.bind_eq_bind,Option.bind_eq_some_iff]at hm
  obtain⟨y,⟨cs,hcs,hy⟩,ys,hys,_⟩:=hm
  obtain⟨v,hv,tv⟩:=ih cs y hy
  obtain⟨l,es,h1,h2,h3,h4,h5,h6⟩:=V1f ih hsz ha c (k+1) ys hys
  obtain⟨hl,hn⟩:=lies_cells (a:=a.add (k*sz)) (by rw[V1u ha]) hcs
  rw[V1u ha]at hl
  refine⟨v::l,cs++es,by simp only[FRs];exact⟨_,_,rfl,hv,h1⟩,by simp[h2],by simpa using⟨tv,h3⟩,fun j u hu=>?_,by simp[hn,h5,Nat.succ_mul];omega,?_⟩
  ·rw[List.getElem?_append]at hu
   split at hu
   ·have:=hl j u hu
    simpa[Nat.add_assoc]using this
   ·rename_i hj
    have:=h4 _ u hu
    rw[hn]at this hj
    rw[<- this]
    congr 1
    rw[Nat.succ_mul];omega
  ·intro x hx
   rcases List.mem_cons.1 hx with rfl|hx
   ·rw[<- FR.length _ _ hv,hn]
   ·exact h6 x hx
theorem V08{n fuel:Nat}(S:St)(ih:∀t cs x,sup2 P n t=true->DataW.trod enc P w base spare held fuel t cs=some x->∃v,FR S v cs/\Ty2 P n t v)(cs:List Value):
  ∀(fl:List Field) (off tot:Nat) (xs:List (DataW H×List MemPlace)),consB P off fl tot=true->cs.length=tot->(fl.all fun f=>sup2 P n f.type)=true->
   (fl.mapM fun f=>DataW.trod enc P w base spare held fuel f.type ((cs.drop f.offset).take (P.cellsOf f.type)))=some xs->∃l,FRs S l (cs.drop off)/\All2 (Ty2 P n) (fl.map (·.type)) l
 |[],off,tot,xs,hc,hl,_,_=>by
  simp only[consB,beq_iff_eq]at hc
  subst hc
  exact⟨[],by simp[FRs,hl],trivial⟩
 |f::fl,off,tot,xs,hc,hl,ha,hm=>by
  simp only[consB,Bool.and_eq_true,beq_iff_eq]at hc
  simp only[List.all_cons,Bool.and_eq_true]at ha
  simp only[List.mapM_cons,Option.pure_def,Option.bind_eq_bind,Option.bind_eq_some_iff]at hm
  obtain⟨y,hy,ys,hys,_⟩:=hm
  obtain⟨v,hv,tv⟩:=ih _ _ _ ha.1 hy
  obtain⟨l,hl',tl⟩:=V08 S ih cs fl _ tot ys hc.2 hl ha.2 hys
  refine⟨v::l,?_,tv,tl⟩
  simp only[FRs]
  refine⟨_,_,?_,hv,hl'⟩
  rw[hc.1,<- List.drop_drop,List.take_append_drop]
theorem Y1c{n fuel sz:Nat}{e:TypeId}(S:St)(ih:∀t cs x,sup2 P n t=true->DataW.trod enc P w base spare held fuel t cs=some x->∃v,FR S v cs/\Ty2 P n t v)(he:sup2 P n e=true)(cs:List Value):
  ∀(c k:Nat) (xs:List (DataW H×List MemPlace)),cs.length=(k+c)*sz->
   ((List.range' k c).mapM fun i=>DataW.trod enc P w base spare held fuel e ((cs.drop (i*sz)).take sz))=some xs->∃l,FRs S l (cs.drop (k*sz))/\l.length=c/\∀x∈l,Ty2 P n e x
 |0,k,xs,hl,_=>⟨[],by simp[FRs,hl],rfl,by simp⟩
 |c+1,k,xs,hl,hm=>by
  rw[List.range'_succ]at hm
  simp only[List.mapM_cons,Option.pure_def,Option.bind_eq_bind,Option.bind_eq_some_iff]at hm
  obtain⟨y,hy,ys,hys,_⟩:=hm
  obtain⟨v,hv,tv⟩:=ih _ _ _ he hy
  obtain⟨l,hl',hn,tl⟩:=Y1c S ih he cs c (k+1) ys (by rw[hl];congr 1;omega) hys
  refine⟨v::l,?_,by simp[hn],by simpa using⟨tv,tl⟩⟩
  simp only[FRs]
  refine⟨_,_,?_,hv,hl'⟩
  rw[Nat.succ_mul,<- List.drop_drop,List.take_append_drop]
theorem read2: ∀(n:Nat) (t:TypeId) (fuel:Nat) (cs:List Value) (x:DataW H×List MemPlace),sup2 P n t=true->DataW.trod enc P w base (fun _=>true) held fuel t cs=some x->∃v,FR (S0 w) v cs/\Ty2 P n t v
 |0,t,_,_,_,hs,_=>by simp[sup2]at hs
 |n+1,t,0,_,_,_,h=>by simp[DataW.trod]at h
 |n+1,t,fuel+1,cs,x,hs,h=>by
  have h0:=h
  simp only[sup2]at hs
  cases hu:P.underlying t with
  |none=>rw[hu]at hs;simp at hs
  |some u=>
   rw[hu]at hs
   cases u with
   |int k=>
    obtain⟨v,h1,h2⟩:=read (S0 w) (n+1) t (fuel+1) cs x (by simp only[sup,hu]) h0
    exact⟨v,h1,Ty.up _ _ _ h2⟩
   |bool=>
    obtain⟨v,h1,h2⟩:=read (S0 w) (n+1) t (fuel+1) cs x (by simp only[sup,hu]) h0
    exact⟨v,h1,Ty.up _ _ _ h2⟩
   |string=>
    obtain⟨v,h1,h2⟩:=read (S0 w) (n+1) t (fuel+1) cs x (by simp only[sup,hu]) h0
    exact⟨v,h1,Ty.up _ _ _ h2⟩
   |float k=>
    obtain⟨v,h1,h2⟩:=read (S0 w) (n+1) t (fuel+1) cs x (by simp only[sup,hu]) h0
    exact⟨v,h1,Ty.up _ _ _ h2⟩
   |slice e=>
    simp only[Bool.and_eq_true,Nat.blt_eq]at hs
    obtain⟨hpos,hs⟩:=hs
    simp only[DataW.trod,hu]at h
    split at h<;>try(rename_i e1 _;cases e1;done)
    all_goals try(cases h;done)
    all_goals try(rename_i e1;cases e1;done)
    ·exact⟨.lst .nil [],by simp[FR,Tail.may],by simp only[Ty2,hu];exact⟨.nil,[],rfl,by simp,.inr ⟨rfl,rfl⟩⟩⟩
    ·rename_i e' a len cap e1
     cases e1
     split at h
     ·rename_i hc
      obtain⟨_,hlc,_⟩:=hc
      rw[Option.bind_eq_some_iff]at h
      obtain⟨xs,hx,hr⟩:=h
      simp only[if_true,Option.map_eq_some_iff]at hr
      obtain⟨rs,hr,_⟩:=hr
      by_cases h0:cap=0
      ·subst h0
       obtain rfl:len=0:=by omega
       exact⟨.lst .view [],by simp[FR,Tail.may],by simp only[Ty2,hu];exact⟨.view,[],rfl,by simp,.inl rfl⟩⟩
      have ha:a.spot=none:=by
       rcases Nat.eq_zero_or_pos len with h1|h1
       ·subst h1
        obtain⟨c,hc⟩:∃c,cap-0=c+1:=⟨cap-1,by omega⟩
        rw[hc,List.range_eq_range',List.range'_succ]at hr
        obtain⟨y,hy⟩:=Z1b hr
        simp only[Option.bind_eq_some_iff]at hy
        obtain⟨cs',hcs,_⟩:=hy
        exact spot_of hpos hcs (by simp)
       ·obtain⟨c,hc⟩:∃c,len=c+1:=⟨len-1,by omega⟩
        rw[hc,List.range_eq_range',List.range'_succ]at hx
        obtain⟨y,hy⟩:=Z1b hx
        simp only[Option.bind_eq_some_iff]at hy
        obtain⟨cs',hcs,_⟩:=hy
        exact spot_of hpos hcs (by simp)
      rw[List.range_eq_range']at hx
      obtain⟨l,es,h1,h2,h3,h4,h5,h6⟩:=V1f (fun cs x=>read2 n e fuel cs x hs) rfl ha len 0 xs hx
      subst h2
      refine⟨.lst .view l,?_,by simp only[Ty2,hu];exact⟨.view,l,rfl,h3,.inl rfl⟩⟩
      simp only[FR]
      refine .inr ⟨a.block,a.off,cap,P.cellsOf e,es,?_,hlc,h1,by simpa using h4,h6,trivial⟩
      cases a;simp only at ha;subst ha;rfl
     ·cases h
   |struct fs=>
    simp only[Bool.and_eq_true]at hs
    unfold DataW.trod at h
    rw[hu]at h
    simp only at h
    split at h
    ·rename_i hlen
     simp only[Option.map_eq_some_iff]at h
     obtain⟨xs,hx,_⟩:=h
     obtain⟨l,hl,tl⟩:=V08 (S0 w) (fun t cs x=>read2 n t fuel cs x) cs fs.toList 0 _ xs hs.1 hlen hs.2 hx
     exact⟨.agg l,by simpa[FR]using hl,by simp only[Ty2,hu];exact⟨l,rfl,tl⟩⟩
    ·cases h
   |array c e=>
    simp only[Bool.and_eq_true,beq_iff_eq]at hs
    unfold DataW.trod at h
    rw[hu]at h
    simp only at h
    split at h
    ·rename_i hlen
     simp only[Option.map_eq_some_iff]at h
     obtain⟨xs,hx,_⟩:=h
     rw[List.range_eq_range']at hx
     obtain⟨l,hl,hn,tl⟩:=Y1c (S0 w) (fun t cs x=>read2 n t fuel cs x) hs.2 cs c 0 xs (by rw[hlen,hs.1];simp) hx
     exact⟨.agg l,by simpa[FR]using hl,by simp only[Ty2,hu];exact⟨l,rfl,hn,tl⟩⟩
    ·cases h
   |_=>simp at hs
theorem X1w{n:Nat}{t:TypeId}{v:Value}{d:DataW H}{ps:List MemPlace}{r:Reach}{b0:Nat}(hs:sup2 P n t=true)(hv:Value.okWide P w r b0 t v)(h:DataW.Trod enc P w base (fun _=>true) held t v d ps): ∃c,VR (S0 w) c v/\Ty2 P n t c:=by
 obtain⟨fuel,hf⟩:=h
 obtain⟨c,hc,ht⟩:=read2 n t fuel _ _ hs hf
 refine⟨c,⟨hc,?_⟩,ht⟩
 cases n with
 |zero=>simp[sup2]at hs
 |succ n=>
  simp only[sup2]at hs
  simp only[Ty2]at ht
  unfold Value.okWide at hv
  cases hu:P.underlying t with
  |none=>rw[hu]at hs;simp at hs
  |some u=>
   rw[hu]at hs ht hv
   cases u with
   |int k=>obtain⟨i,rfl,_⟩:=ht;simp only[Cell.okWide,Cell.ok,hu]at hv;cases v<;>simp_all[CV.isAgg]
   |bool=>obtain⟨i,rfl⟩:=ht;simp only[Cell.okWide,Cell.ok,hu]at hv;cases v<;>simp_all[CV.isAgg]
   |float k=>obtain⟨i,rfl,_⟩:=ht;simp only[Cell.okWide,Cell.ok,hu]at hv;cases v<;>simp_all[CV.isAgg]
   |string=>obtain⟨i,rfl,_⟩:=ht;simp only[Cell.okWide,Cell.ok,hu]at hv;cases v<;>simp_all[CV.isAgg]
   |slice e=>obtain⟨tl,l,rfl,_⟩:=ht;simp only[Cell.okWide,Cell.ok,hu]at hv;cases v<;>simp_all[CV.isAgg]
   |struct fs=>obtain⟨l,rfl,_⟩:=ht;obtain⟨cs,rfl,_⟩:=hv;simp[CV.isAgg]
   |array c e=>obtain⟨l,rfl,_⟩:=ht;obtain⟨cs,rfl,_⟩:=hv;simp[CV.isAgg]
   |_=>simp at hs
end Go.Cl
end
section
namespace Go.Proofs.Ytpchcfkebljopaa
open Go.Cl Go Go.ChangeShapes Go.WideShapes Go.ChangeAt Go.RowKit
set_option maxRecDepth 100000
set_option linter.constructorNameAsVariable false
theorem Z0l{r:TypeId->CV->Prop}{t:TypeId}{ts:List TypeId}{l:List CV}(h:All2 r (t::ts) l): ∃v l',l=v::l'/\r t v/\All2 r ts l':=by
 cases l with
 |nil=>exact h.elim
 |cons v l'=>exact⟨v,l',rfl,h⟩
theorem all2_nil{r:TypeId->CV->Prop}{l:List CV}(h:All2 r [] l): l=[]:=by
 cases l with
 |nil=>rfl
 |cons v l'=>exact h.elim
theorem of_list{α:Type}{f:α->CV}: ∀{l:List CV},(∀x∈l,∃y,x=f y)->∃ys:List α,l=ys.map f
 |[],_=>⟨[],rfl⟩
 |v::l,h=>by
  obtain⟨x,rfl⟩:=h v (.head _)
  obtain⟨xs,rfl⟩:=of_list (l:=l) (fun y hy=>h y (.tail _ hy))
  exact⟨x::xs,rfl⟩
theorem X1s{α:Type}{f:α->CV}{P:Program}{n:Nat}{t e:TypeId}{v:CV}(hu:P.underlying t=some (.slice e))(he:∀x,Ty2 P n e x->∃y:α,x=f y)(h:Ty2 P (n+1) t v): ∃s:Lst α,v=s.cv f/\(s.tl=.view\/s.tl=.nil):=by
 simp only[Ty2,hu]at h
 obtain⟨tl,l,rfl,hl,ht⟩:=h
 obtain⟨ys,rfl⟩:=of_list (fun x hx=>he x (hl x hx))
 rcases ht with rfl|⟨rfl,h0⟩
 ·exact⟨⟨.view,ys,nofun⟩,rfl,.inl rfl⟩
 ·exact⟨⟨.nil,ys,fun _=>by simpa using h0⟩,rfl,.inr rfl⟩
def inI(i:Int): Prop:=-9223372036854775808<=i/\i<=9223372036854775807
theorem of_int{P:Program}{n:Nat}{t:TypeId}{v:CV}(hu:P.underlying t=some (.int .i64))(h:Ty2 P (n+1) t v): ∃i,v=I i/\inI i:=by
 simp only[Ty2,hu]at h
 obtain⟨i,rfl,hw⟩:=h
 simp only[Lit.wf,Bool.and_eq_true,decide_eq_true_eq]at hw
 exact⟨i,rfl,hw⟩
theorem of_struct{P:Program}{n:Nat}{t:TypeId}{v:CV}{fs:Array Field}(hu:P.underlying t=some (.struct fs))(h:Ty2 P (n+1) t v): ∃l,v=.agg l/\All2 (Ty2 P n) (fs.toList.map (·.type)) l:=by
 simp only[Ty2,hu]at h
 exact h
theorem a3{n:Nat}{v:CV}(h:Ty2 Try.prog (n+1) 3 v): ∃i,v=I i/\inI i:=of_int Try.underlying3 h
theorem a24{n:Nat}{v:CV}(h:Ty2 Try.prog (n+2) 24 v): ∃s:Lst Int,v=s.cv I/\(s.tl=.view\/s.tl=.nil):=X1s Try.underlying24 (fun _ h=>let⟨i,e,_⟩:=a3 h;⟨i,e⟩) h
theorem a31{n:Nat}{v:CV}(h:Ty2 Try.prog (n+2) 31 v): ∃x:V0b,v=x.cv:=by
 obtain⟨l,rfl,hs⟩:=of_struct Try.underlying31 h
 replace h:=hs
 obtain⟨v0,l0,rfl,h0,h⟩:=Z0l h
 obtain⟨v1,l1,rfl,h1,h⟩:=Z0l h
 obtain⟨v2,l2,rfl,h2,h⟩:=Z0l h
 obtain rfl:=all2_nil h
 obtain⟨x0,rfl,_⟩:=a3 (n:=n) h0
 obtain⟨x1,rfl,_⟩:=a3 (n:=n) h1
 obtain⟨x2,rfl,_⟩:=a3 (n:=n) h2
 exact⟨⟨x0,x1,x2⟩,rfl⟩
theorem a22{n:Nat}{v:CV}(h:Ty2 Try.prog (n+3) 22 v): ∃s:Lst V0b,v=s.cv V0b.cv/\(s.tl=.view\/s.tl=.nil):=X1s Try.underlying22 (fun _ h=>a31 h) h
end Go.Proofs.Ytpchcfkebljopaa
end
section
namespace Go.Proofs.Ytpchcfkebljopaa
open Go.Cl Go Go.ChangeShapes Go.WideShapes Go.ChangeAt Go.RowKit
theorem Try.own: ownKnob Try.prog.godebug=none:=by kernel_rfl
theorem Try.laidOut: laidOutB Try.prog=true:=by kernel_rfl
theorem con_true{f:FuncId}{R:Rel}(h:Con C f R){args:List CV}{vals:List Value}{w:World}(hR:R args ⟨0,.e⟩ (.ret (Bo true) ⟨0,.e⟩))(hV:VRs (S0 w) args vals):
  Calls C.P f vals.toArray w fun e w'=>e=.returned (.bool true)/\Below w.heap.size w w':=by
 have r0:XRel w w.heap.size (S0 w) ⟨0,.e⟩ w:=⟨R_init w,rfl,fun i sh v h=>by simp[Cl.T.get_e]at h⟩
 have hc:=(h.ok _ _ _ hR).2.2 w w.heap.size (S0 w) w vals r0 hV
 refine Calls.mono hc ?_
 rintro e w' ⟨S',x,_,r,hx,rfl⟩
 exact⟨by rw[(VR_sc.1 hx).1],r.r.below⟩
end Go.Proofs.Ytpchcfkebljopaa
end
section
namespace Go.Proofs.Ytpchcfkebljopaa
open Go.Cl Go Go.RowKit
set_option maxRecDepth 100000
def zn106_1:=ZC.reg [zv 6 (.assign (.const (.bool false)))]
def zn106_3:=ZC.reg [zu 7 (zmv 0),zu 8 (zmv 1),zu 9 (.binOp .geq 3 (Tm 7) (Tm 8) 3),zu 10 (zmv 9),zug 11 (zmv 0) 10 true false,zug 12 (zmv 2) 10 true false,zug 13 (.binOp .leq 3 (Tm 11) (Tm 12) 3) 10 true false,zu 14 (.pick (Tm 10) (Tm 13) (.const (.bool false))),zv 6 (zas 14)]
def zn106_0:=ZC.seq zn106_1 (ZC.seq zn106_3 ZC.ret)
def zc106: ZC:=zn106_0
theorem zc106_ok: zcode (xfOf Try.f106).code=some zc106:=by kernel_rfl
def zw106:=zU C zc106.eq_1<|zU C zn106_1.eq_1<|zU C zn106_3.eq_1<|(zunf C zn106_0.eq_1)
theorem rs106: (xfOf Try.f106).rs=[.tmp 6]:=by kernel_rfl
def xf106:=zF C 106 Try.f106
def zn206_1:=ZC.reg [zv 6 (.assign (Kn 0))]
def zn206_3:=ZC.reg [zu 7 (zmv 1),zu 8 (zmv 0),zu 9 (zmv 2),zu 10 (zcb .min [Tm 8,Tm 9] [3,3]),zu 11 (zcb .max [Tm 7,Tm 10] [3,3]),zv 6 (zas 11)]
def zn206_0:=ZC.seq zn206_1 (ZC.seq zn206_3 ZC.ret)
def zc206: ZC:=zn206_0
theorem zc206_ok: zcode (xfOf Try.f206).code=some zc206:=by kernel_rfl
def zw206:=zU C zc206.eq_1<|zU C zn206_1.eq_1<|zU C zn206_3.eq_1<|(zunf C zn206_0.eq_1)
theorem rs206: (xfOf Try.f206).rs=[.tmp 6]:=by kernel_rfl
def xf206:=zF C 206 Try.f206
def zn198_1:=ZC.reg [zu 4 (.assign (Kn 0)),zv 5 (.assign (Kn 0))]
def zn198_4:=ZC.reg [zu 7 (zmv 0),zu 8 (zcf 140 [Tm 7,Kn 0,Kn 4095] [3,3,3]),zv 6 (zas 8)]
def zn198_6:=ZC.reg [zu 9 (zmv 6),zu 10 (zmv 0),zv 11 (.binOp .neq 3 (Tm 9) (Tm 10) 3)]
def zn198_9:=ZC.reg [zu 12 (zmv 6),zu 13 (zmv 1),zu 14 (.unOp .neg 3 (Tm 13)),zu 4 (zas 12),zv 5 (zas 14)]
def zn198_11:=ZC.reg [zu 15 (zmv 0),zu 16 (zmv 1),zu 4 (zas 15),zv 5 (zas 16)]
def zn198_0:=ZC.seq zn198_1 (ZC.seq (ZC.seq zn198_4 (ZC.seq zn198_6 (ZC.cond (Tm 11) (ZC.seq zn198_9 ZC.ret) ZC.skip))) (ZC.seq zn198_11 ZC.ret))
def zc198: ZC:=zn198_0
theorem zc198_ok: zcode (xfOf Try.f198).code=some zc198:=by kernel_rfl
def zw198:=zU C zc198.eq_1<|zU C zn198_1.eq_1<|zU C zn198_4.eq_1<|zU C zn198_6.eq_1<|zU C zn198_9.eq_1<|zU C zn198_11.eq_1<|(zunf C zn198_0.eq_1)
theorem rs198: (xfOf Try.f198).rs=[.tmp 4,.tmp 5]:=by kernel_rfl
def xf198:=zF C 198 Try.f198
def zn178_1:=ZC.reg [zu 1 (.box 34 (Tm 0)),zu 2 (.alloc 34),zv 3 (.assign (.const (.bool false)))]
def zn178_4:=ZC.reg [zu 4 (zld 34 1),zu 5 (zcf 24 [Tm 4] [34]),zu 6 (.unOp .not 4 (Tm 5)),zu 7 (zmv 6),zug 8 (zfa 34 1 0) 7 false false,zug 9 (zld 3 8) 7 false false,zug 10 (.binOp .eql 3 (Tm 9) (Kn 0) 3) 7 false false,zv 11 (.pick (Tm 7) (.const (.bool true)) (Tm 10))]
def zn178_7:=ZC.reg [⟨some 12,.build 34 ⟨[]⟩,none,false⟩,zu0 (.store 34 (Tm 2) (Tm 12)),zv 3 (.assign (.const (.bool false)))]
def zn178_9:=ZC.reg [zu 13 (zfa 34 1 6),zu 14 (zld 3 13),zu 15 (.binOp .add 3 (Tm 14) (Kn 1) 3),zu 16 (zcb .min [Tm 15,Kn 600] [3,3]),zu 17 (zfa 34 1 6),zv0 (.store 3 (Tm 17) (Tm 16))]
def zn178_11:=ZC.reg [zu 18 (zfa 34 1 2),zu 19 (zld 3 18),zu 20 (zfa 34 1 4),zu 21 (zld 3 20),zu 22 (.binOp .add 3 (Tm 19) (Tm 21) 3),zu 23 (zfa 34 1 3),zu 24 (zld 3 23),zu 25 (zfa 34 1 5),zu 26 (zld 3 25),zu 27 (.binOp .add 3 (Tm 24) (Tm 26) 3),zu 28 (zfa 34 1 2),zu0 (.store 3 (Tm 28) (Tm 22)),zu 29 (zfa 34 1 3),zv0 (.store 3 (Tm 29) (Tm 27))]
def zn178_14:=ZC.reg [zu 30 (zfa 34 1 0),zu 31 (zld 3 30),zv 32 (.binOp .eql 3 (Tm 31) (Kn 1) 3)]
def zn178_17:=ZC.reg [zu 34 (zfa 34 1 2),zu 35 (zld 3 34),zu 36 (zfa 34 1 4),zu 37 (zld 3 36),zu 38 (zcf 198 [Tm 35,Tm 37] [3,3]),zu 33 (zmv 38),zu 39 (.extract (Tm 33) 0),zu 40 (.extract (Tm 33) 1),zu 41 (zfa 34 1 2),zu0 (.store 3 (Tm 41) (Tm 39)),zu 42 (zfa 34 1 4),zv0 (.store 3 (Tm 42) (Tm 40))]
def zn178_19:=ZC.reg [zu 44 (zfa 34 1 3),zu 45 (zld 3 44),zu 46 (zfa 34 1 5),zu 47 (zld 3 46),zu 48 (zcf 198 [Tm 45,Tm 47] [3,3]),zu 43 (zmv 48),zu 49 (.extract (Tm 43) 0),zu 50 (.extract (Tm 43) 1),zu 51 (zfa 34 1 3),zu0 (.store 3 (Tm 51) (Tm 49)),zu 52 (zfa 34 1 5),zv0 (.store 3 (Tm 52) (Tm 50))]
def zn178_21:=ZC.reg [zu 53 (zld 34 1),zu0 (.store 34 (Tm 2) (Tm 53)),zv 3 (.assign (.const (.bool true)))]
def zn178_24:=ZC.reg [zu 54 (zfa 34 1 6),zu 55 (zld 3 54),zu 56 (.binOp .gtr 3 (Tm 55) (Kn 40) 3),zu 57 (zmv 56),zug 58 (zfa 34 1 2) 57 false false,zug 59 (zld 3 58) 57 false false,zug 60 (zcf 71 [Tm 59,Kn 0,Kn 4095] [3,3,3]) 57 false false,zug 61 (.unOp .not 4 (Tm 60)) 57 false false,zu 62 (.pick (Tm 57) (.const (.bool true)) (Tm 61)),zu 63 (zmv 62),zug 64 (zfa 34 1 3) 63 false false,zug 65 (zld 3 64) 63 false false,zug 66 (zcf 71 [Tm 65,Kn 0,Kn 4095] [3,3,3]) 63 false false,zug 67 (.unOp .not 4 (Tm 66)) 63 false false,zv 68 (.pick (Tm 63) (.const (.bool true)) (Tm 67))]
def zn178_27:=ZC.reg [⟨some 69,.build 34 ⟨[]⟩,none,false⟩,zu0 (.store 34 (Tm 2) (Tm 69)),zv 3 (.assign (.const (.bool false)))]
def zn178_29:=ZC.reg [zu 70 (zld 34 1),zu0 (.store 34 (Tm 2) (Tm 70)),zv 3 (.assign (.const (.bool true)))]
def zn178_0:=ZC.seq zn178_1 (ZC.seq (ZC.seq zn178_4 (ZC.cond (Tm 11) (ZC.seq zn178_7 ZC.ret) ZC.skip)) (ZC.seq zn178_9 (ZC.seq zn178_11 (ZC.seq (ZC.seq zn178_14 (ZC.cond (Tm 32) (ZC.seq zn178_17 (ZC.seq zn178_19 (ZC.seq zn178_21 ZC.ret))) ZC.skip)) (ZC.seq (ZC.seq zn178_24 (ZC.cond (Tm 68) (ZC.seq zn178_27 ZC.ret) ZC.skip)) (ZC.seq zn178_29 ZC.ret))))))
def zc178: ZC:=zn178_0
theorem zc178_ok: zcode (xfOf Try.f178).code=some zc178:=by kernel_rfl
def zw178:=zU C zc178.eq_1<|zU C zn178_1.eq_1<|zU C zn178_4.eq_1<|zU C zn178_7.eq_1<|zU C zn178_9.eq_1<|zU C zn178_11.eq_1<|zU C zn178_14.eq_1<|zU C zn178_17.eq_1<|zU C zn178_19.eq_1<|zU C zn178_21.eq_1<|zU C zn178_24.eq_1<|zU C zn178_27.eq_1<|zU C zn178_29.eq_1<|(zunf C zn178_0.eq_1)
theorem rs178: (xfOf Try.f178).rs=[.cell 2 34,.tmp 3]:=by kernel_rfl
def xf178:=zF C 178 Try.f178
def zn199_1:=ZC.reg [zu 2 (.box 34 (Tm 0)),zu 3 (.box 34 (Tm 1)),zv 4 (.assign (.const (.bool false)))]
def zn199_4:=ZC.reg [zu 5 (zfa 34 2 0),zu 6 (zld 3 5),zv 7 (.binOp .eql 3 (Tm 6) (Kn 2) 3)]
def zn199_6:=ZC.reg [zu 8 (zld 34 3),zu 9 (zld 34 2),zu0 (.store 34 (Tm 2) (Tm 8)),zv0 (.store 34 (Tm 3) (Tm 9))]
def zn199_8:=ZC.reg [zu 10 (zld 34 2),zu 11 (zcf 24 [Tm 10] [34]),zu 12 (zmv 11),zug 13 (zld 34 3) 12 true false,zug 14 (zcf 24 [Tm 13] [34]) 12 true false,zu 15 (.pick (Tm 12) (Tm 14) (.const (.bool false))),zu 16 (zmv 15),zug 17 (zfa 34 2 0) 16 true false,zug 18 (zld 3 17) 16 true false,zug 19 (.binOp .eql 3 (Tm 18) (Kn 1) 3) 16 true false,zu 20 (.pick (Tm 16) (Tm 19) (.const (.bool false))),zu 21 (zmv 20),zug 22 (zfa 34 3 0) 21 true false,zug 23 (zld 3 22) 21 true false,zug 24 (.binOp .eql 3 (Tm 23) (Kn 2) 3) 21 true false,zu 25 (.pick (Tm 21) (Tm 24) (.const (.bool false))),zu 26 (zmv 25),zug 27 (zfa 34 2 1) 26 true false,zug 28 (zld 3 27) 26 true false,zug 29 (zfa 34 3 1) 26 true false,zug 30 (zld 3 29) 26 true false,zug 31 (.binOp .neq 3 (Tm 28) (Tm 30) 3) 26 true false,zu 32 (.pick (Tm 26) (Tm 31) (.const (.bool false))),zu 33 (zmv 32),zug 34 (zfa 34 2 2) 33 true false,zug 35 (zld 3 34) 33 true false,zug 36 (zfa 34 3 2) 33 true false,zug 37 (zld 3 36) 33 true false,zug 38 (.binOp .sub 3 (Tm 35) (Tm 37) 3) 33 true false,zug 39 (zcf 71 [Tm 38,Kn (-32),Kn 32] [3,3,3]) 33 true false,zu 40 (.pick (Tm 33) (Tm 39) (.const (.bool false))),zu 41 (zmv 40),zug 42 (zfa 34 2 3) 41 true false,zug 43 (zld 3 42) 41 true false,zug 44 (zfa 34 3 3) 41 true false,zug 45 (zld 3 44) 41 true false,zug 46 (.binOp .sub 3 (Tm 43) (Tm 45) 3) 41 true false,zug 47 (zcf 71 [Tm 46,Kn (-32),Kn 32] [3,3,3]) 41 true false,zu 48 (.pick (Tm 41) (Tm 47) (.const (.bool false))),zv 4 (zas 48)]
def zn199_0:=ZC.seq zn199_1 (ZC.seq (ZC.seq zn199_4 (ZC.cond (Tm 7) zn199_6 ZC.skip)) (ZC.seq zn199_8 ZC.ret))
def zc199: ZC:=zn199_0
theorem zc199_ok: zcode (xfOf Try.f199).code=some zc199:=by kernel_rfl
def zw199:=zU C zc199.eq_1<|zU C zn199_1.eq_1<|zU C zn199_4.eq_1<|zU C zn199_6.eq_1<|zU C zn199_8.eq_1<|(zunf C zn199_0.eq_1)
theorem rs199: (xfOf Try.f199).rs=[.tmp 4]:=by kernel_rfl
def xf199:=zF C 199 Try.f199
def zn105_1:=ZC.reg [zu 3 (.box 61 (Tm 0)),zu 5 (.box 34 (Tm 2)),zv 6 (.assign (.const (.bool false)))]
def zn105_5:=ZC.reg [zu 8 (zld 34 5),zu 9 (zcf 24 [Tm 8] [34]),zu 10 (.unOp .not 4 (Tm 9)),zv 7 (zas 10)]
def zn105_8:=ZC.reg [zv 6 (.assign (.const (.bool false)))]
def zn105_10:=ZC.reg [zu 12 (zmv 1),zu 13 (zfa 61 3 0),zu 14 (zld 3 13),zu 15 (.binOp .lss 3 (Tm 12) (Tm 14) 3),zv 11 (zas 15)]
def zn105_13:=ZC.reg [zu 16 (zfa 34 5 0),zu 17 (zld 3 16),zu 18 (.binOp .eql 3 (Tm 17) (Kn 1) 3),zu 19 (zmv 18),zug 20 (zfa 34 5 1) 19 true false,zug 21 (zld 3 20) 19 true false,zug 22 (zmv 1) 19 true false,zug 23 (.binOp .eql 3 (Tm 21) (Tm 22) 3) 19 true false,zu 24 (.pick (Tm 19) (Tm 23) (.const (.bool false))),zv 6 (zas 24)]
def zn105_15:=ZC.reg [zu 25 (zfa 34 5 0),zu 26 (zld 3 25),zu 27 (.binOp .eql 3 (Tm 26) (Kn 0) 3),zu 28 (zmv 27),zug 29 (zfa 34 5 0) 28 false false,zug 30 (zld 3 29) 28 false false,zug 31 (.binOp .eql 3 (Tm 30) (Kn 2) 3) 28 false false,zug 32 (zmv 31) 28 false false,zug 33 (zfa 34 5 1) 32 true false,zug 34 (zld 3 33) 32 true false,zug 35 (zfa 61 3 0) 32 true false,zug 36 (zld 3 35) 32 true false,zug 37 (.binOp .lss 3 (Tm 34) (Tm 36) 3) 32 true false,zug 38 (.pick (Tm 32) (Tm 37) (.const (.bool false))) 28 false false,zu 39 (.pick (Tm 28) (.const (.bool true)) (Tm 38)),zv 6 (zas 39)]
def zn105_0:=ZC.seq zn105_1 (ZC.seq (ZC.block 0 (ZC.seq zn105_5 (ZC.cond (Tm 7) (ZC.seq zn105_8 ZC.ret) (ZC.seq zn105_10 (ZC.cond (Tm 11) (ZC.seq zn105_13 ZC.ret) ZC.skip))))) (ZC.seq zn105_15 ZC.ret))
def zc105: ZC:=zn105_0
theorem zc105_ok: zcode (xfOf Try.f105).code=some zc105:=by kernel_rfl
def zw105:=zU C zc105.eq_1<|zU C zn105_1.eq_1<|zU C zn105_5.eq_1<|zU C zn105_8.eq_1<|zU C zn105_10.eq_1<|zU C zn105_13.eq_1<|zU C zn105_15.eq_1<|(zunf C zn105_0.eq_1)
theorem rs105: (xfOf Try.f105).rs=[.tmp 6]:=by kernel_rfl
def xf105:=zF C 105 Try.f105
def zn176_1:=ZC.reg [zv 2 (.assign (.const (.bool false)))]
def zn176_3:=ZC.reg [zu 3 (zmv 0),zu 4 (zcf 193 [Tm 3] [59]),zu 5 (zmv 4),zug 6 (zmv 0) 5 false false,zug 7 (zcf 194 [Tm 6,Kn 0] [59,3]) 5 false false,zu 8 (.pick (Tm 5) (.const (.bool true)) (Tm 7)),zv 2 (zas 8)]
def zn176_0:=ZC.seq zn176_1 (ZC.seq zn176_3 ZC.ret)
def zc176: ZC:=zn176_0
theorem zc176_ok: zcode (xfOf Try.f176).code=some zc176:=by kernel_rfl
def zw176:=zU C zc176.eq_1<|zU C zn176_1.eq_1<|zU C zn176_3.eq_1<|(zunf C zn176_0.eq_1)
theorem rs176: (xfOf Try.f176).rs=[.tmp 2]:=by kernel_rfl
def xf176:=zF C 176 Try.f176
def zn193_1:=ZC.reg [zv 2 (.assign (.const (.bool false)))]
def zn193_3:=ZC.reg [zu 3 (zmv 0),zu 4 (zmv 0),zu 5 (.binOp .neq 59 (Tm 3) (Tm 4) 59),zv 2 (zas 5)]
def zn193_0:=ZC.seq zn193_1 (ZC.seq zn193_3 ZC.ret)
def zc193: ZC:=zn193_0
theorem zc193_ok: zcode (xfOf Try.f193).code=some zc193:=by kernel_rfl
def zw193:=zU C zc193.eq_1<|zU C zn193_1.eq_1<|zU C zn193_3.eq_1<|(zunf C zn193_0.eq_1)
theorem rs193: (xfOf Try.f193).rs=[.tmp 2]:=by kernel_rfl
def xf193:=zF C 193 Try.f193
def zn194_1:=ZC.reg [zv 4 (.assign (.const (.bool false)))]
def zn194_4:=ZC.reg [zu 5 (zmv 1),zv 6 (.binOp .eql 3 (Tm 5) (Kn 0) 3)]
def zn194_6:=ZC.reg [zu 7 (zmv 0),zu 8 (zcf 205 [Tm 7] [59]),zv 0 (zas 8)]
def zn194_8:=ZC.reg [zu 9 (zmv 1),zv 10 (.binOp .lss 3 (Tm 9) (Kn 0) 3)]
def zn194_10:=ZC.reg [zu 11 (zmv 0),zu 12 (.unOp .neg 59 (Tm 11)),zv 0 (zas 12)]
def zn194_12:=ZC.reg [zu 13 (zmv 0),zu 14 (.binOp .gtr 59 (Tm 13) (.const (.float .f64 9218868437227405311)) 59),zv 4 (zas 14)]
def zn194_0:=ZC.seq zn194_1 (ZC.seq (ZC.seq zn194_4 (ZC.cond (Tm 6) zn194_6 (ZC.seq zn194_8 (ZC.cond (Tm 10) zn194_10 ZC.skip)))) (ZC.seq zn194_12 ZC.ret))
def zc194: ZC:=zn194_0
theorem zc194_ok: zcode (xfOf Try.f194).code=some zc194:=by kernel_rfl
def zw194:=zU C zc194.eq_1<|zU C zn194_1.eq_1<|zU C zn194_4.eq_1<|zU C zn194_6.eq_1<|zU C zn194_8.eq_1<|zU C zn194_10.eq_1<|zU C zn194_12.eq_1<|(zunf C zn194_0.eq_1)
theorem rs194: (xfOf Try.f194).rs=[.tmp 4]:=by kernel_rfl
def xf194:=zF C 194 Try.f194
def zn205_1:=ZC.reg [zv 2 (.assign (.const (.float .f64 0)))]
def zn205_3:=ZC.reg [zu 3 (zmv 0),zu 4 (zcf 209 [Tm 3] [59]),zu 5 (.binOp .andNot 25 (Tm 4) (.const (.int .u64 9223372036854775808)) 25),zu 6 (zcf 208 [Tm 5] [25]),zv 2 (zas 6)]
def zn205_0:=ZC.seq zn205_1 (ZC.seq zn205_3 ZC.ret)
def zc205: ZC:=zn205_0
theorem zc205_ok: zcode (xfOf Try.f205).code=some zc205:=by kernel_rfl
def zw205:=zU C zc205.eq_1<|zU C zn205_1.eq_1<|zU C zn205_3.eq_1<|(zunf C zn205_0.eq_1)
theorem rs205: (xfOf Try.f205).rs=[.tmp 2]:=by kernel_rfl
def xf205:=zF C 205 Try.f205
def zn135_1:=ZC.reg [zu 4 (.assign (.const (.pointer none))),zv 5 (.assign (Kn 0))]
def zn135_4:=ZC.reg [zu 6 (zmv 0),zu 7 (zcf 176 [Tm 6] [59]),zu 8 (zmv 7),zug 9 (zmv 1) 8 false false,zug 10 (zcf 176 [Tm 9] [59]) 8 false false,zu 11 (.pick (Tm 8) (.const (.bool true)) (Tm 10)),zu 12 (zmv 11),zug 13 (zmv 0) 12 false false,zug 14 (.binOp .lss 59 (Tm 13) (.const (.float .f64 0)) 59) 12 false false,zu 15 (.pick (Tm 12) (.const (.bool true)) (Tm 14)),zu 16 (zmv 15),zug 17 (zmv 1) 16 false false,zug 18 (.binOp .lss 59 (Tm 17) (.const (.float .f64 4607182418800017408)) 59) 16 false false,zu 19 (.pick (Tm 16) (.const (.bool true)) (Tm 18)),zu 20 (zmv 19),zug 21 (zmv 1) 20 false false,zug 22 (.binOp .gtr 59 (Tm 21) (.const (.float .f64 4652007308841189376)) 59) 20 false false,zv 23 (.pick (Tm 20) (.const (.bool true)) (Tm 22))]
def zn135_7:=ZC.reg [zu 4 (.assign (.const (.pointer none))),zv 5 (.assign (Kn 1))]
def zn135_9:=ZC.reg [zu 24 (zmv 0),zu 25 (zmv 1),zu 26 (zmv 1),⟨some 27,.build 223 ⟨[(0,.tmp 24),(1,.tmp 25),(2,.tmp 26)]⟩,none,false⟩,zu 28 (.box 223 (Tm 27)),zu 4 (zas 28),zv 5 (.assign (Kn 0))]
def zn135_0:=ZC.seq zn135_1 (ZC.seq (ZC.seq zn135_4 (ZC.cond (Tm 23) (ZC.seq zn135_7 ZC.ret) ZC.skip)) (ZC.seq zn135_9 ZC.ret))
def zc135: ZC:=zn135_0
theorem zc135_ok: zcode (xfOf Try.f135).code=some zc135:=by kernel_rfl
def zw135:=zU C zc135.eq_1<|zU C zn135_1.eq_1<|zU C zn135_4.eq_1<|zU C zn135_7.eq_1<|zU C zn135_9.eq_1<|(zunf C zn135_0.eq_1)
theorem rs135: (xfOf Try.f135).rs=[.tmp 4,.tmp 5]:=by kernel_rfl
def xf135:=zF C 135 Try.f135
def zn136_1:=ZC.reg [zu 1 (.box 61 (Tm 0)),zv 2 (.assign (.const (.bool false)))]
def zn136_3:=ZC.reg [zu 6 (.makeMap 224 none),zv 3 (zas 6)]
def zn136_6:=ZC.reg [zu 7 (zfa 61 1 9),zu 8 (zld 24 7),zu 9 (zcb .len [Tm 8] [24]),zv 10 (.move (Kn 0))]
def zn136_10:=ZC.reg [zv 11 (.binOp .lss 3 (Tm 10) (Tm 9) 3)]
def zn136_16:=ZC.reg [zu 12 (zia 24 8 10),zu 13 (zld 3 12),zv 5 (zas 13)]
def zn136_19:=ZC.reg [zu 14 (zmv 5),zu 15 (zcf 106 [Tm 14,Kn 0,Kn 2147483646] [3,3,3]),zu 16 (.unOp .not 4 (Tm 15)),zu 17 (zmv 16),zug 18 (zmv 3) 17 false false,zug 19 (zmv 5) 17 false false,zug 20 (.lookup 224 (Tm 18) (Tm 19) false) 17 false false,zv 21 (.pick (Tm 17) (.const (.bool true)) (Tm 20))]
def zn136_22:=ZC.reg [zv 2 (.assign (.const (.bool false)))]
def zn136_23:=ZC.reg [zu 22 (zmv 3),zu 23 (zmv 5),zv0 (.mapUpdate 224 (Tm 22) (Tm 23) (.const (.bool true)))]
def zn136_24:=ZC.reg [zu 24 (.binOp .add 3 (Tm 10) (Kn 1) 3),zv 10 (zmv 24)]
def K1w:=ZC.seq zn136_10 (ZC.seq (ZC.cond (Tm 11) ZC.skip (ZC.exit 0)) (ZC.seq (ZC.block 1 (ZC.seq zn136_16 (ZC.seq (ZC.seq zn136_19 (ZC.cond (Tm 21) (ZC.seq zn136_22 ZC.ret) ZC.skip)) zn136_23))) zn136_24))
def zn136_26:=ZC.reg [zu 25 (zfa 61 1 9),zu 26 (zld 24 25),zu 27 (zcb .len [Tm 26] [24]),zu 28 (zfa 61 1 0),zu 29 (zld 3 28),zu 30 (.binOp .eql 3 (Tm 27) (Tm 29) 3),zv 2 (zas 30)]
def zn136_0:=ZC.seq zn136_1 (ZC.seq zn136_3 (ZC.seq (ZC.seq zn136_6 (ZC.block 0 (ZC.loop K1w))) (ZC.seq zn136_26 ZC.ret)))
def zc136: ZC:=zn136_0
theorem zc136_ok: zcode (xfOf Try.f136).code=some zc136:=by kernel_rfl
def zw136:=zU C zc136.eq_1<|zU C zn136_1.eq_1<|zU C zn136_3.eq_1<|zU C zn136_6.eq_1<|zU C zn136_10.eq_1<|zU C zn136_16.eq_1<|zU C zn136_19.eq_1<|zU C zn136_22.eq_1<|zU C zn136_23.eq_1<|zU C zn136_24.eq_1<|zU C K1w.eq_1<|zU C zn136_26.eq_1<|(zunf C zn136_0.eq_1)
theorem rs136: (xfOf Try.f136).rs=[.tmp 2]:=by kernel_rfl
def xf136:=zF C 136 Try.f136
def zn133_1:=ZC.reg [zv 2 (.assign (.const (.int .u64 0)))]
def zn133_3:=ZC.reg [zu 3 (zmv 0),zu 4 (.convert 3 25 (Tm 3)),zu 5 (.binOp .mul 25 (Tm 4) (.const (.int .u64 2)) 25),zu 6 (.binOp .add 25 (Tm 5) (.const (.int .u64 1)) 25),zv 2 (zas 6)]
def zn133_0:=ZC.seq zn133_1 (ZC.seq zn133_3 ZC.ret)
def zc133: ZC:=zn133_0
theorem zc133_ok: zcode (xfOf Try.f133).code=some zc133:=by kernel_rfl
def zw133:=zU C zc133.eq_1<|zU C zn133_1.eq_1<|zU C zn133_3.eq_1<|(zunf C zn133_0.eq_1)
theorem rs133: (xfOf Try.f133).rs=[.tmp 2]:=by kernel_rfl
def xf133:=zF C 133 Try.f133
def zn60_1:=ZC.reg [zu 1 (.box 61 (Tm 0)),zv 2 (.assign (.const (.bool false)))]
def zn60_3:=ZC.reg [zu 6 (zfa 61 1 1),zu 7 (zld 3 6),zu 8 (zcf 106 [Tm 7,Kn 1,Kn 8] [3,3,3]),zu 9 (zmv 8),zug 10 (zfa 61 1 2) 9 true false,zug 11 (zld 3 10) 9 true false,zug 12 (zcf 106 [Tm 11,Kn 0,Kn 60] [3,3,3]) 9 true false,zu 13 (.pick (Tm 9) (Tm 12) (.const (.bool false))),zu 14 (zmv 13),zug 15 (zfa 61 1 3) 14 true false,zug 16 (zld 3 15) 14 true false,zug 17 (zcf 106 [Tm 16,Kn 0,Kn 100] [3,3,3]) 14 true false,zu 18 (.pick (Tm 14) (Tm 17) (.const (.bool false))),zu 19 (zmv 18),zug 20 (zfa 61 1 4) 19 true false,zug 21 (zld 3 20) 19 true false,zug 22 (zcf 106 [Tm 21,Kn 1,Kn 600] [3,3,3]) 19 true false,zu 23 (.pick (Tm 19) (Tm 22) (.const (.bool false))),zv 3 (zas 23)]
def zn60_5:=ZC.reg [zu 25 (zfa 61 1 6),zu 26 (zld 59 25),zu 27 (zfa 61 1 7),zu 28 (zld 59 27),zu 29 (zcf 135 [Tm 26,Tm 28] [59,59]),zu 24 (zmv 29),zu 30 (.extract (Tm 24) 0),zu 31 (.extract (Tm 24) 1),zu 4 (zas 30),zv 5 (zas 31)]
def zn60_7:=ZC.reg [zu 32 (zfa 61 1 0),zu 33 (zld 3 32),zu 34 (zcf 106 [Tm 33,Kn 1,Kn 8] [3,3,3]),zu 35 (zmv 34),zug 36 (zmv 3) 35 true false,zu 37 (.pick (Tm 35) (Tm 36) (.const (.bool false))),zu 38 (zmv 37),zug 39 (zfa 61 1 5) 38 true false,zug 40 (zld 3 39) 38 true false,zug 41 (zcf 106 [Tm 40,Kn 0,Kn 2147483647] [3,3,3]) 38 true false,zu 42 (.pick (Tm 38) (Tm 41) (.const (.bool false))),zu 43 (zmv 42),zug 44 (zmv 5) 43 true false,zug 45 (.binOp .eql 69 (Tm 44) (Kn 0) 69) 43 true false,zu 46 (.pick (Tm 43) (Tm 45) (.const (.bool false))),zu 47 (zmv 46),zug 48 (zfa 61 1 8) 47 true false,zug 49 (zld 23 48) 47 true false,zug 50 (zcf 29 [Tm 49] [23]) 47 true false,zu 51 (.pick (Tm 47) (Tm 50) (.const (.bool false))),zu 52 (zmv 51),zug 53 (zld 61 1) 52 true false,zug 54 (zcf 136 [Tm 53] [61]) 52 true false,zu 55 (.pick (Tm 52) (Tm 54) (.const (.bool false))),zv 2 (zas 55)]
def zn60_0:=ZC.seq zn60_1 (ZC.seq zn60_3 (ZC.seq zn60_5 (ZC.seq zn60_7 ZC.ret)))
def zc60: ZC:=zn60_0
theorem zc60_ok: zcode (xfOf Try.f60).code=some zc60:=by kernel_rfl
def zw60:=zU C zc60.eq_1<|zU C zn60_1.eq_1<|zU C zn60_3.eq_1<|zU C zn60_5.eq_1<|zU C zn60_7.eq_1<|(zunf C zn60_0.eq_1)
theorem rs60: (xfOf Try.f60).rs=[.tmp 2]:=by kernel_rfl
def xf60:=zF C 60 Try.f60
def zn58_1:=ZC.reg [zu 1 (.box 61 (Tm 0)),zv 2 (.alloc 66)]
def zn58_4:=ZC.reg [zu 5 (zld 61 1),zu 6 (zcf 60 [Tm 5] [61]),zv 7 (.unOp .not 4 (Tm 6))]
def zn58_7:=ZC.reg [⟨some 8,.build 66 ⟨[]⟩,none,false⟩,zv0 (.store 66 (Tm 2) (Tm 8))]
def zn58_9:=ZC.reg [zu 9 (zfa 61 1 5),zu 10 (zld 3 9),zu 11 (zcf 133 [Tm 10] [3]),⟨some 12,.build 66 ⟨[(1,.tmp 11)]⟩,none,false⟩,zu 3 (.alloc 66),zv0 (.store 66 (Tm 3) (Tm 12))]
def zn58_12:=ZC.reg [zu 13 (zfa 61 1 0),zu 14 (zld 3 13),zv 15 (.move (Kn 0))]
def zn58_16:=ZC.reg [zv 16 (.binOp .lss 3 (Tm 15) (Tm 14) 3)]
def zn58_22:=ZC.reg [zu 17 (zmv 15),zv 4 (zas 17)]
def zn58_23:=ZC.reg [zu 18 (zmv 4),zu 19 (zmv 4),zu 20 (zfa 61 1 0),zu 21 (zld 3 20),zu 22 (zcf 64 [Tm 19,Tm 21] [3,3]),zu 23 (zfa 66 3 2),zu 24 (zia 63 23 18),zv0 (.store 34 (Tm 24) (Tm 22))]
def zn58_24:=ZC.reg [zu 25 (.binOp .add 3 (Tm 15) (Kn 1) 3),zv 15 (zmv 25)]
def V1w:=ZC.seq zn58_16 (ZC.seq (ZC.cond (Tm 16) ZC.skip (ZC.exit 0)) (ZC.seq (ZC.block 1 (ZC.seq zn58_22 zn58_23)) zn58_24))
def zn58_26:=ZC.reg [zu 26 (zld 66 3),zv0 (.store 66 (Tm 2) (Tm 26))]
def zn58_0:=ZC.seq zn58_1 (ZC.seq (ZC.seq zn58_4 (ZC.cond (Tm 7) (ZC.seq zn58_7 ZC.ret) ZC.skip)) (ZC.seq zn58_9 (ZC.seq (ZC.seq zn58_12 (ZC.block 0 (ZC.loop V1w))) (ZC.seq zn58_26 ZC.ret))))
def zc58: ZC:=zn58_0
theorem zc58_ok: zcode (xfOf Try.f58).code=some zc58:=by kernel_rfl
def zw58:=zU C zc58.eq_1<|zU C zn58_1.eq_1<|zU C zn58_4.eq_1<|zU C zn58_7.eq_1<|zU C zn58_9.eq_1<|zU C zn58_12.eq_1<|zU C zn58_16.eq_1<|zU C zn58_22.eq_1<|zU C zn58_23.eq_1<|zU C zn58_24.eq_1<|zU C V1w.eq_1<|zU C zn58_26.eq_1<|(zunf C zn58_0.eq_1)
theorem rs58: (xfOf Try.f58).rs=[.cell 2 66]:=by kernel_rfl
def xf58:=zF C 58 Try.f58
def zn44_1:=ZC.reg [zu 2 (.box 61 (Tm 0)),zu 3 (.box 66 (Tm 1)),zv 4 (.assign (.const (.bool false)))]
def zn44_4:=ZC.reg [zu 9 (zfa 66 3 2),zu 10 (zld 63 9),zv 11 (.move (Kn 0))]
def zn44_8:=ZC.reg [zv 12 (.binOp .lss 3 (Tm 11) (Kn 16) 3)]
def zn44_14:=ZC.reg [zu 13 (zmv 11),zu 14 (.index 63 (Tm 10) (Tm 11)),zu 6 (.alloc 34),zu 5 (zas 13),zv0 (.store 34 (Tm 6) (Tm 14))]
def zn44_16:=ZC.reg [zu 15 (zld 61 2),zu 16 (zmv 5),zu 17 (zld 34 6),zu 18 (zcf 105 [Tm 15,Tm 16,Tm 17] [61,3,34]),zv 19 (.unOp .not 4 (Tm 18))]
def zn44_19:=ZC.reg [zv 4 (.assign (.const (.bool false)))]
def zn44_20:=ZC.reg [zu 20 (.binOp .add 3 (Tm 11) (Kn 1) 3),zv 11 (zmv 20)]
def zn44_7:=ZC.seq zn44_8 (ZC.seq (ZC.cond (Tm 12) ZC.skip (ZC.exit 0)) (ZC.seq (ZC.block 1 (ZC.seq zn44_14 (ZC.seq zn44_16 (ZC.cond (Tm 19) (ZC.seq zn44_19 ZC.ret) ZC.skip)))) zn44_20))
def zn44_23:=ZC.reg [zu 21 (zfa 66 3 3),zu 22 (zld 64 21),zv 23 (.move (Kn 0))]
def zn44_27:=ZC.reg [zv 24 (.binOp .lss 3 (Tm 23) (Kn 8) 3)]
def zn44_33:=ZC.reg [zu 25 (zmv 23),zu 26 (.index 64 (Tm 22) (Tm 23)),zu 7 (zas 25),zv 8 (zas 26)]
def zn44_35:=ZC.reg [zu 27 (zmv 8),zu 28 (zcf 106 [Tm 27,Kn 0,Kn 2147483647] [3,3,3]),zu 29 (.unOp .not 4 (Tm 28)),zu 30 (zmv 29),zug 31 (zmv 7) 30 false false,zug 32 (zfa 61 2 0) 30 false false,zug 33 (zld 3 32) 30 false false,zug 34 (.binOp .geq 3 (Tm 31) (Tm 33) 3) 30 false false,zug 35 (zmv 34) 30 false false,zug 36 (zmv 8) 35 true false,zug 37 (.binOp .neq 3 (Tm 36) (Kn 0) 3) 35 true false,zug 38 (.pick (Tm 35) (Tm 37) (.const (.bool false))) 30 false false,zv 39 (.pick (Tm 30) (.const (.bool true)) (Tm 38))]
def zn44_38:=ZC.reg [zv 4 (.assign (.const (.bool false)))]
def zn44_39:=ZC.reg [zu 40 (.binOp .add 3 (Tm 23) (Kn 1) 3),zv 23 (zmv 40)]
def K1v:=ZC.seq zn44_27 (ZC.seq (ZC.cond (Tm 24) ZC.skip (ZC.exit 2)) (ZC.seq (ZC.block 3 (ZC.seq zn44_33 (ZC.seq zn44_35 (ZC.cond (Tm 39) (ZC.seq zn44_38 ZC.ret) ZC.skip)))) zn44_39))
def zn44_41:=ZC.reg [zu 41 (zld 61 2),zu 42 (zcf 60 [Tm 41] [61]),zu 43 (zmv 42),zug 44 (zfa 66 3 0) 43 true false,zug 45 (zld 3 44) 43 true false,zug 46 (zcf 106 [Tm 45,Kn 0,Kn 600] [3,3,3]) 43 true false,zu 47 (.pick (Tm 43) (Tm 46) (.const (.bool false))),zv 4 (zas 47)]
def zn44_0:=ZC.seq zn44_1 (ZC.seq (ZC.seq zn44_4 (ZC.block 0 (ZC.loop zn44_7))) (ZC.seq (ZC.seq zn44_23 (ZC.block 2 (ZC.loop K1v))) (ZC.seq zn44_41 ZC.ret)))
def zc44: ZC:=zn44_0
theorem zc44_ok: zcode (xfOf Try.f44).code=some zc44:=by kernel_rfl
def zw44:=zU C zc44.eq_1<|zU C zn44_1.eq_1<|zU C zn44_4.eq_1<|zU C zn44_8.eq_1<|zU C zn44_14.eq_1<|zU C zn44_16.eq_1<|zU C zn44_19.eq_1<|zU C zn44_20.eq_1<|zU C zn44_7.eq_1<|zU C zn44_23.eq_1<|zU C zn44_27.eq_1<|zU C zn44_33.eq_1<|zU C zn44_35.eq_1<|zU C zn44_38.eq_1<|zU C zn44_39.eq_1<|zU C K1v.eq_1<|zU C zn44_41.eq_1<|(zunf C zn44_0.eq_1)
theorem rs44: (xfOf Try.f44).rs=[.tmp 4]:=by kernel_rfl
def xf44:=zF C 44 Try.f44
def zn195_1:=ZC.reg [zv 4 (.alloc 36)]
def zn195_4:=ZC.reg [zu 6 (zmv 1),zu 7 (zmv 0),zu 8 (.nilCheck (Tm 7)),zu 9 (zfa 186 8 2),zu 10 (zld 108 9),zu 11 (zcb .len [Tm 10] [108]),zv 12 (.binOp .geq 3 (Tm 6) (Tm 11) 3)]
def zn195_7:=ZC.reg [⟨some 13,.build 36 ⟨[]⟩,none,false⟩,zv0 (.store 36 (Tm 4) (Tm 13))]
def zn195_9:=ZC.reg [zu 14 (zmv 0),zu 15 (.nilCheck (Tm 14)),zu 16 (zfa 186 15 2),zu 17 (zld 108 16),zu 18 (zmv 1),zu 19 (zia 108 17 18),zu 20 (zfa 110 19 1),zu 21 (zld 36 20),zu 5 (.alloc 36),zv0 (.store 36 (Tm 5) (Tm 21))]
def zn195_11:=ZC.draw 11 [] [zdd 0 22 (zfa 36 5 0) false [] [] false,zdd 1 23 (zld 3 22) false [] [] false,zdd 2 24 (zcf 206 [Tm 23,Kn 0,Kn 255] [3,3,3]) false [] [] true,zdd 3 25 (zfa 36 5 1) false [2] [] false,zdd 4 26 (zld 3 25) false [2] [] false,zdd 5 27 (zcf 206 [Tm 26,Kn (-64),Kn 64] [3,3,3]) false [] [] true,zdd 6 28 (zfa 36 5 2) true [2,5] [] false,zdd 7 29 (zld 3 28) true [2,5] [] false,zdd 8 30 (zcf 206 [Tm 29,Kn (-64),Kn 64] [3,3,3]) true [] [] false,⟨9,some 31,.build 36 ⟨[(0,.tmp 24),(1,.tmp 27),(2,.tmp 30)]⟩,none,true,[],[],false⟩,zd0 10 (.store 36 (Tm 4) (Tm 31)) true [] [] false]
def zn195_0:=ZC.seq zn195_1 (ZC.seq (ZC.seq zn195_4 (ZC.cond (Tm 12) (ZC.seq zn195_7 ZC.ret) ZC.skip)) (ZC.seq zn195_9 (ZC.seq zn195_11 ZC.ret)))
def zc195: ZC:=zn195_0
theorem zc195_ok: zcode (xfOf Try.f195).code=some zc195:=by kernel_rfl
def zw195:=zU C zc195.eq_1<|zU C zn195_1.eq_1<|zU C zn195_4.eq_1<|zU C zn195_7.eq_1<|zU C zn195_9.eq_1<|zU C zn195_11.eq_1<|(zunf C zn195_0.eq_1)
theorem rs195: (xfOf Try.f195).rs=[.cell 4 36]:=by kernel_rfl
def xf195:=zF C 195 Try.f195
def zn197_1:=ZC.reg [zv 2 (.assign (Kn 0))]
def zn197_3:=ZC.reg [zv 3 (.assign (Kn 0))]
def zn197_6:=ZC.reg [zu 6 (zmv 0),zu 7 (.nilCheck (Tm 6)),zu 8 (zfa 186 7 1),zu 9 (zfa 66 8 2),zu 10 (zld 63 9),zv 11 (.move (Kn 0))]
def zn197_10:=ZC.reg [zv 12 (.binOp .lss 3 (Tm 11) (Kn 16) 3)]
def zn197_16:=ZC.reg [zu 13 (.index 63 (Tm 10) (Tm 11)),zu 5 (.alloc 34),zv0 (.store 34 (Tm 5) (Tm 13))]
def zn197_18:=ZC.reg [zu 14 (zfa 34 5 0),zu 15 (zld 3 14),zv 16 (.binOp .eql 3 (Tm 15) (Kn 0) 3)]
def zn197_20:=ZC.reg [zu 17 (zmv 3),zu 18 (.binOp .add 3 (Tm 17) (Kn 1) 3),zv 3 (zas 18)]
def zn197_21:=ZC.reg [zu 19 (.binOp .add 3 (Tm 11) (Kn 1) 3),zv 11 (zmv 19)]
def Q1z:=ZC.seq zn197_10 (ZC.seq (ZC.cond (Tm 12) ZC.skip (ZC.exit 0)) (ZC.seq (ZC.block 1 (ZC.seq zn197_16 (ZC.seq zn197_18 (ZC.cond (Tm 16) zn197_20 ZC.skip)))) zn197_21))
def zn197_23:=ZC.reg [zu 20 (zmv 3),zu 21 (zmv 0),zu 22 (.nilCheck (Tm 21)),zu 23 (zfa 186 22 3),zu 24 (zld 37 23),zu 25 (zcb .len [Tm 24] [37]),zu 26 (.binOp .sub 3 (Tm 20) (Tm 25) 3),zv 2 (zas 26)]
def zn197_0:=ZC.seq zn197_1 (ZC.seq zn197_3 (ZC.seq (ZC.seq zn197_6 (ZC.block 0 (ZC.loop Q1z))) (ZC.seq zn197_23 ZC.ret)))
def zc197: ZC:=zn197_0
theorem zc197_ok: zcode (xfOf Try.f197).code=some zc197:=by kernel_rfl
def zw197:=zU C zc197.eq_1<|zU C zn197_1.eq_1<|zU C zn197_3.eq_1<|zU C zn197_6.eq_1<|zU C zn197_10.eq_1<|zU C zn197_16.eq_1<|zU C zn197_18.eq_1<|zU C zn197_20.eq_1<|zU C zn197_21.eq_1<|zU C Q1z.eq_1<|zU C zn197_23.eq_1<|(zunf C zn197_0.eq_1)
theorem rs197: (xfOf Try.f197).rs=[.tmp 2]:=by kernel_rfl
def xf197:=zF C 197 Try.f197
def zn177_1:=ZC.reg [zu 3 (.box 34 (Tm 1)),zv 4 (.alloc 34)]
def zn177_3:=ZC.reg [zu 9 (zmv 0),zu 10 (zfa 34 3 1),zu 11 (zld 3 10),zu 12 (zcf 195 [Tm 9,Tm 11] [184,3]),zu 5 (.alloc 36),zv0 (.store 36 (Tm 5) (Tm 12))]
def zn177_5:=ZC.draw 19 [(17,.alloc 39)] [zdd 0 13 (zld 34 3) false [] [] false,zdd 1 14 (zfa 36 5 1) false [] [] false,zdd 2 15 (zld 3 14) false [] [] false,zdd 3 16 (.binOp .quo 3 (Tm 15) (Kn 16) 3) false [] [] false,zdd 4 17 (zfa 36 5 2) false [] [] false,zdd 5 18 (zld 3 17) false [] [] false,zdd 6 19 (.binOp .quo 3 (Tm 18) (Kn 16) 3) false [] [] false,zdd 7 20 (zcf 196 [Tm 13,Tm 16,Tm 19] [34,3,3]) false [] [] true,zdd 8 21 (zld 36 5) false [7] [15] false,zdd 9 22 (zmv 0) false [] [] false,zdd 10 23 (.nilCheck (Tm 22)) false [] [] false,zdd 11 24 (zfa 186 23 1) false [7] [15] false,zdd 12 25 (zfa 66 24 1) false [7] [15] false,zdd 13 26 (zld 25 25) false [7] [15] false,zdd 14 27 (zmv 0) false [] [] false,zdd 15 28 (zcf 197 [Tm 27] [184]) false [] [] true,⟨16,some 29,.build 39 ⟨[(0,.tmp 20),(1,.tmp 21),(2,.tmp 26),(3,.tmp 28)]⟩,none,false,[],[],false⟩,zdd 17 6 (.alloc 39) true [7,15] [] false,zd0 18 (.store 39 (Tm 6) (Tm 29)) true [] [] false]
def zn177_7:=ZC.draw 15 [(11,.alloc 44)] [zdd 0 31 (zmv 0) false [] [] false,zdd 1 32 (.nilCheck (Tm 31)) false [] [] false,zdd 2 33 (zfa 186 32 0) false [] [] false,zdd 3 34 (zfa 61 33 8) false [] [] false,zdd 4 35 (zld 23 34) false [] [] false,zdd 5 36 (zld 39 6) false [] [] false,zdd 6 37 (zcf 25 [Tm 35,Tm 36] [23,39]) false [] [] true,zdd 7 30 (zmv 37) false [] [] false,zdd 8 38 (.extract (Tm 30) 0) false [] [] false,zdd 9 39 (.extract (Tm 30) 1) false [] [] false,zdd 10 40 (.extract (Tm 30) 2) false [] [] false,zdd 11 7 (.alloc 44) true [6] [] false,zd0 12 (.store 39 (Tm 6) (Tm 38)) true [] [] false,zd0 13 (.store 44 (Tm 7) (Tm 39)) true [] [] false,zdd 14 8 (zas 40) true [] [] false]
def zn177_10:=ZC.reg [zu 41 (zmv 8),zv 42 (.unOp .not 4 (Tm 41))]
def zn177_13:=ZC.reg [zu 43 (zfa 34 3 8),zu 44 (zld 3 43),zu 45 (.binOp .add 3 (Tm 44) (Kn 1) 3),zu 46 (zcb .min [Tm 45,Kn 65535] [3,3]),zu 47 (zfa 34 3 8),zv0 (.store 3 (Tm 47) (Tm 46))]
def zn177_15:=ZC.reg [zu 48 (zld 34 3),zv0 (.store 34 (Tm 4) (Tm 48))]
def zn177_17:=ZC.reg [zu 49 (zmv 0),zu 50 (zfa 39 6 2),zu 51 (zld 25 50),zu 52 (.nilCheck (Tm 49)),zu 53 (zfa 186 52 1),zu 54 (zfa 66 53 1),zv0 (.store 25 (Tm 54) (Tm 51))]
def zn177_19:=ZC.draw 11 [] [zdd 0 55 (zmv 0) false [] [] false,zdd 1 56 (zmv 0) false [] [] false,zdd 2 57 (.nilCheck (Tm 56)) false [] [] false,zdd 3 58 (zfa 186 57 3) false [] [] false,zdd 4 59 (zld 37 58) false [] [] false,zdd 5 60 (zfa 39 6 4) true [] [] false,zdd 6 61 (zld 37 60) true [] [] false,zdd 7 62 (zcb .append [Tm 59,Tm 61] [37,37]) true [] [] false,zdd 8 63 (.nilCheck (Tm 55)) true [] [] false,zdd 9 64 (zfa 186 63 3) true [] [] false,zd0 10 (.store 37 (Tm 64) (Tm 62)) true [] [] false]
def zn177_21:=ZC.reg [zu 65 (zfa 39 6 0),zu 66 (zld 34 65),zv0 (.store 34 (Tm 4) (Tm 66))]
def zn177_0:=ZC.seq zn177_1 (ZC.seq zn177_3 (ZC.seq zn177_5 (ZC.seq zn177_7 (ZC.seq (ZC.seq zn177_10 (ZC.cond (Tm 42) (ZC.seq zn177_13 (ZC.seq zn177_15 ZC.ret)) ZC.skip)) (ZC.seq zn177_17 (ZC.seq zn177_19 (ZC.seq zn177_21 ZC.ret)))))))
def zc177: ZC:=zn177_0
theorem zc177_ok: zcode (xfOf Try.f177).code=some zc177:=by kernel_rfl
def zw177:=zU C zc177.eq_1<|zU C zn177_1.eq_1<|zU C zn177_3.eq_1<|zU C zn177_5.eq_1<|zU C zn177_7.eq_1<|zU C zn177_10.eq_1<|zU C zn177_13.eq_1<|zU C zn177_15.eq_1<|zU C zn177_17.eq_1<|zU C zn177_19.eq_1<|zU C zn177_21.eq_1<|(zunf C zn177_0.eq_1)
theorem rs177: (xfOf Try.f177).rs=[.cell 4 34]:=by kernel_rfl
def xf177:=zF C 177 Try.f177
def zn137_1:=ZC.reg [zu 4 (zmv 0),zu 5 (.nilCheck (Tm 4)),zu 6 (zfa 186 5 1),zu 7 (zfa 66 6 2),zu 8 (zld 63 7),zv 9 (.move (Kn 0))]
def zn137_5:=ZC.reg [zv 10 (.binOp .lss 3 (Tm 9) (Kn 16) 3)]
def zn137_11:=ZC.reg [zu 11 (zmv 9),zu 12 (.index 63 (Tm 8) (Tm 9)),zu 3 (.alloc 34),zu 2 (zas 11),zv0 (.store 34 (Tm 3) (Tm 12))]
def zn137_14:=ZC.reg [zu 13 (zfa 34 3 0),zu 14 (zld 3 13),zv 15 (.binOp .eql 3 (Tm 14) (Kn 1) 3)]
def zn137_16:=ZC.reg [zu 16 (zmv 0),zu 17 (zld 34 3),zu 18 (zcf 177 [Tm 16,Tm 17] [184,34]),zv0 (.store 34 (Tm 3) (Tm 18))]
def zn137_17:=ZC.draw 12 [] [zdd 0 20 (zmv 0) false [] [] false,zdd 1 21 (zmv 2) false [] [] false,zdd 2 22 (zld 34 3) false [] [] false,zdd 3 23 (zcf 178 [Tm 22] [34]) false [] [] true,zdd 4 19 (zmv 23) false [] [] false,zdd 5 24 (.extract (Tm 19) 0) false [] [] false,zdd 6 25 (.extract (Tm 19) 1) false [] [] false,zdd 7 26 (.nilCheck (Tm 20)) true [] [] false,zdd 8 27 (zfa 186 26 1) true [3] [] false,zdd 9 28 (zfa 66 27 2) true [3] [] false,zdd 10 29 (zia 63 28 21) true [] [] false,zd0 11 (.store 34 (Tm 29) (Tm 24)) true [] [] false]
def zn137_18:=ZC.reg [zu 30 (.binOp .add 3 (Tm 9) (Kn 1) 3),zv 9 (zmv 30)]
def Y1s:=ZC.seq zn137_5 (ZC.seq (ZC.cond (Tm 10) ZC.skip (ZC.exit 0)) (ZC.seq (ZC.block 1 (ZC.seq zn137_11 (ZC.seq (ZC.seq zn137_14 (ZC.cond (Tm 15) zn137_16 ZC.skip)) zn137_17))) zn137_18))
def zn137_0:=ZC.seq zn137_1 (ZC.block 0 (ZC.loop Y1s))
def zc137: ZC:=zn137_0
theorem zc137_ok: zcode (xfOf Try.f137).code=some zc137:=by kernel_rfl
def zw137:=zU C zc137.eq_1<|zU C zn137_1.eq_1<|zU C zn137_5.eq_1<|zU C zn137_11.eq_1<|zU C zn137_14.eq_1<|zU C zn137_16.eq_1<|zU C zn137_17.eq_1<|zU C zn137_18.eq_1<|zU C Y1s.eq_1<|(zunf C zn137_0.eq_1)
theorem rs137: (xfOf Try.f137).rs=[]:=by kernel_rfl
def xf137:=zF C 137 Try.f137
def zn138_1:=ZC.reg [zu 4 (zmv 0),zu 5 (.nilCheck (Tm 4)),zu 6 (zfa 186 5 1),zu 7 (zfa 66 6 2),zu 8 (zld 63 7),zv 9 (.move (Kn 0))]
def zn138_5:=ZC.reg [zv 10 (.binOp .lss 3 (Tm 9) (Kn 16) 3)]
def zn138_11:=ZC.reg [zu 11 (zmv 9),zu 12 (.index 63 (Tm 8) (Tm 9)),zu 3 (.alloc 34),zu 2 (zas 11),zv0 (.store 34 (Tm 3) (Tm 12))]
def zn138_13:=ZC.reg [zu 13 (zfa 34 3 0),zu 14 (zld 3 13),zu 15 (.binOp .eql 3 (Tm 14) (Kn 0) 3),zu 16 (zmv 15),zug 17 (zmv 0) 16 true false,zug 18 (.nilCheck (Tm 17)) 16 true false,zug 19 (zfa 186 18 3) 16 true false,zug 20 (zld 37 19) 16 true false,zug 21 (zcb .len [Tm 20] [37]) 16 true false,zug 22 (.binOp .gtr 3 (Tm 21) (Kn 0) 3) 16 true false,zv 23 (.pick (Tm 16) (Tm 22) (.const (.bool false)))]
def zn138_15:=ZC.draw 22 [] [zdd 0 24 (zmv 0) false [] [] false,zdd 1 25 (zmv 2) false [] [] false,zdd 2 26 (zmv 0) false [] [] false,zdd 3 27 (zmv 0) false [] [] false,zdd 4 28 (.nilCheck (Tm 27)) false [] [] false,zdd 5 29 (zfa 186 28 3) false [] [] false,zdd 6 30 (zld 37 29) false [] [] false,zdd 7 31 (.indexAddr 37 (Tm 30) (Kn 0)) false [] [] false,zdd 8 32 (zld 34 31) false [] [] false,zdd 9 33 (zmv 0) false [] [] false,zdd 10 34 (.nilCheck (Tm 33)) false [] [] false,zdd 11 35 (zfa 186 34 3) false [] [] false,zdd 12 36 (zld 37 35) false [] [] false,zdd 13 37 (.slice 37 (Tm 36) (some (Kn 1)) none none) false [] [18] false,zdd 14 38 (.nilCheck (Tm 24)) true [] [] false,zdd 15 39 (zfa 186 38 1) true [] [] false,zdd 16 40 (zfa 66 39 2) true [] [] false,zdd 17 41 (zia 63 40 25) true [] [] false,zd0 18 (.store 34 (Tm 41) (Tm 32)) true [] [] false,zdd 19 42 (.nilCheck (Tm 26)) true [] [] false,zdd 20 43 (zfa 186 42 3) true [] [] false,zd0 21 (.store 37 (Tm 43) (Tm 37)) true [] [] false]
def zn138_16:=ZC.reg [zu 44 (.binOp .add 3 (Tm 9) (Kn 1) 3),zv 9 (zmv 44)]
def V1s:=ZC.seq zn138_5 (ZC.seq (ZC.cond (Tm 10) ZC.skip (ZC.exit 0)) (ZC.seq (ZC.block 1 (ZC.seq zn138_11 (ZC.seq zn138_13 (ZC.cond (Tm 23) zn138_15 ZC.skip)))) zn138_16))
def zn138_0:=ZC.seq zn138_1 (ZC.block 0 (ZC.loop V1s))
def zc138: ZC:=zn138_0
theorem zc138_ok: zcode (xfOf Try.f138).code=some zc138:=by kernel_rfl
def zw138:=zU C zc138.eq_1<|zU C zn138_1.eq_1<|zU C zn138_5.eq_1<|zU C zn138_11.eq_1<|zU C zn138_13.eq_1<|zU C zn138_15.eq_1<|zU C zn138_16.eq_1<|zU C V1s.eq_1<|(zunf C zn138_0.eq_1)
theorem rs138: (xfOf Try.f138).rs=[]:=by kernel_rfl
def xf138:=zF C 138 Try.f138
def zn179_1:=ZC.reg [zu 3 (.box 34 (Tm 1)),zv 4 (.assign (Kn 0))]
def zn179_4:=ZC.reg [zu 7 (zmv 0),zu 8 (.nilCheck (Tm 7)),zu 9 (zfa 186 8 1),zu 10 (zfa 66 9 2),zu 11 (zld 63 10),zv 12 (.move (Kn 0))]
def zn179_8:=ZC.reg [zv 13 (.binOp .lss 3 (Tm 12) (Kn 16) 3)]
def zn179_14:=ZC.reg [zu 14 (zmv 12),zu 15 (.index 63 (Tm 11) (Tm 12)),zu 6 (.alloc 34),zu 5 (zas 14),zv0 (.store 34 (Tm 6) (Tm 15))]
def zn179_16:=ZC.reg [zu 16 (zfa 34 6 0),zu 17 (zld 3 16),zu 18 (.binOp .eql 3 (Tm 17) (Kn 1) 3),zu 19 (zmv 18),zug 20 (zld 34 6) 19 true false,zug 21 (zld 34 3) 19 true false,zug 22 (zcf 199 [Tm 20,Tm 21] [34,34]) 19 true false,zv 23 (.pick (Tm 19) (Tm 22) (.const (.bool false)))]
def zn179_19:=ZC.reg [zu 24 (zmv 5),zv 4 (zas 24)]
def zn179_20:=ZC.reg [zu 25 (.binOp .add 3 (Tm 12) (Kn 1) 3),zv 12 (zmv 25)]
def Z1s:=ZC.seq zn179_8 (ZC.seq (ZC.cond (Tm 13) ZC.skip (ZC.exit 0)) (ZC.seq (ZC.block 1 (ZC.seq zn179_14 (ZC.seq zn179_16 (ZC.cond (Tm 23) (ZC.seq zn179_19 ZC.ret) ZC.skip)))) zn179_20))
def zn179_22:=ZC.reg [zv 4 (.assign (Kn (-1)))]
def zn179_0:=ZC.seq zn179_1 (ZC.seq (ZC.seq zn179_4 (ZC.block 0 (ZC.loop Z1s))) (ZC.seq zn179_22 ZC.ret))
def zc179: ZC:=zn179_0
theorem zc179_ok: zcode (xfOf Try.f179).code=some zc179:=by kernel_rfl
def zw179:=zU C zc179.eq_1<|zU C zn179_1.eq_1<|zU C zn179_4.eq_1<|zU C zn179_8.eq_1<|zU C zn179_14.eq_1<|zU C zn179_16.eq_1<|zU C zn179_19.eq_1<|zU C zn179_20.eq_1<|zU C Z1s.eq_1<|zU C zn179_22.eq_1<|(zunf C zn179_0.eq_1)
theorem rs179: (xfOf Try.f179).rs=[.tmp 4]:=by kernel_rfl
def xf179:=zF C 179 Try.f179
def zn139_1:=ZC.reg [zv 6 (.move (Kn 0))]
def zn139_5:=ZC.reg [zv 7 (.binOp .lss 3 (Tm 6) (Kn 16) 3)]
def zn139_11:=ZC.reg [zu 8 (zmv 6),zv 2 (zas 8)]
def zn139_13:=ZC.reg [zu 9 (zmv 0),zu 10 (zmv 2),zu 11 (.nilCheck (Tm 9)),zu 12 (zfa 186 11 1),zu 13 (zfa 66 12 2),zu 14 (zia 63 13 10),zu 15 (zld 34 14),zu 3 (.alloc 34),zv0 (.store 34 (Tm 3) (Tm 15))]
def zn139_16:=ZC.reg [zu 16 (zfa 34 3 0),zu 17 (zld 3 16),zv 18 (.binOp .neq 3 (Tm 17) (Kn 2) 3)]
def zn139_19:=ZC.reg [zu 19 (zmv 0),zu 20 (zld 34 3),zu 21 (zcf 179 [Tm 19,Tm 20] [184,34]),zv 4 (zas 21)]
def zn139_22:=ZC.reg [zu 22 (zmv 4),zv 23 (.binOp .lss 3 (Tm 22) (Kn 0) 3)]
def zn139_25:=ZC.draw 18 [] [zdd 0 24 (zmv 0) false [] [] false,zdd 1 25 (zfa 34 3 1) false [] [] false,zdd 2 26 (zld 3 25) false [] [] false,zdd 3 27 (zmv 0) false [] [] false,zdd 4 28 (zfa 34 3 1) false [] [] false,zdd 5 29 (zld 3 28) false [] [] false,zdd 6 30 (.nilCheck (Tm 27)) false [] [] false,zdd 7 31 (zfa 186 30 1) false [] [] false,zdd 8 32 (zfa 66 31 3) false [] [] false,zdd 9 33 (zia 64 32 29) false [] [] false,zdd 10 34 (zld 3 33) false [] [] false,zdd 11 35 (.binOp .add 3 (Tm 34) (Kn 1) 3) false [] [] false,zdd 12 36 (zcb .min [Tm 35,Kn 2147483647] [3,3]) false [] [] false,zdd 13 37 (.nilCheck (Tm 24)) true [] [] false,zdd 14 38 (zfa 186 37 1) true [] [] false,zdd 15 39 (zfa 66 38 3) true [] [] false,zdd 16 40 (zia 64 39 26) true [] [] false,zd0 17 (.store 3 (Tm 40) (Tm 36)) true [] [] false]
def zn139_27:=ZC.reg [zu 41 (zmv 0),zu 42 (zmv 2),⟨some 43,.build 34 ⟨[]⟩,none,false⟩,zu 44 (.nilCheck (Tm 41)),zu 45 (zfa 186 44 1),zu 46 (zfa 66 45 2),zu 47 (zia 63 46 42),zv0 (.store 34 (Tm 47) (Tm 43))]
def zn139_29:=ZC.draw 16 [(14,.alloc 34)] [zdd 0 48 (zmv 0) false [] [] false,zdd 1 49 (zmv 4) false [] [] false,zdd 2 50 (.nilCheck (Tm 48)) false [] [] false,zdd 3 51 (zfa 186 50 1) false [] [] false,zdd 4 52 (zfa 66 51 2) false [] [] false,zdd 5 53 (zia 63 52 49) false [] [] false,zdd 6 54 (zfa 34 53 1) false [] [] false,zdd 7 55 (zld 3 54) false [] [] false,zdd 8 56 (zmv 0) false [] [] false,zdd 9 57 (.nilCheck (Tm 56)) false [] [] false,zdd 10 58 (zfa 186 57 0) false [] [] false,zdd 11 59 (zfa 61 58 0) false [] [] false,zdd 12 60 (zld 3 59) false [] [] false,zdd 13 61 (zcf 64 [Tm 55,Tm 60] [3,3]) false [] [] true,zdd 14 5 (.alloc 34) true [13] [] false,zd0 15 (.store 34 (Tm 5) (Tm 61)) true [] [] false]
def zn139_31:=ZC.reg [zu 62 (zmv 0),zu 63 (zmv 4),zu 64 (.nilCheck (Tm 62)),zu 65 (zfa 186 64 1),zu 66 (zfa 66 65 2),zu 67 (zia 63 66 63),zu 68 (zfa 34 67 8),zu 69 (zld 3 68),zu 70 (zfa 34 5 8),zv0 (.store 3 (Tm 70) (Tm 69))]
def zn139_32:=ZC.draw 8 [] [zdd 0 71 (zmv 0) false [] [] false,zdd 1 72 (zmv 4) false [] [] false,zdd 2 73 (zld 34 5) false [] [] false,zdd 3 74 (.nilCheck (Tm 71)) true [] [] false,zdd 4 75 (zfa 186 74 1) true [] [] false,zdd 5 76 (zfa 66 75 2) true [] [] false,zdd 6 77 (zia 63 76 72) true [] [] false,zd0 7 (.store 34 (Tm 77) (Tm 73)) true [] [] false]
def zn139_33:=ZC.reg [zu 78 (.binOp .add 3 (Tm 6) (Kn 1) 3),zv 6 (zmv 78)]
def Z1r:=ZC.seq zn139_5 (ZC.seq (ZC.cond (Tm 7) ZC.skip (ZC.exit 0)) (ZC.seq (ZC.block 1 (ZC.seq zn139_11 (ZC.seq zn139_13 (ZC.seq (ZC.seq zn139_16 (ZC.cond (Tm 18) (ZC.exit 1) ZC.skip)) (ZC.seq zn139_19 (ZC.seq (ZC.seq zn139_22 (ZC.cond (Tm 23) (ZC.exit 1) ZC.skip)) (ZC.seq zn139_25 (ZC.seq zn139_27 (ZC.seq zn139_29 (ZC.seq zn139_31 zn139_32)))))))))) zn139_33))
def zn139_0:=ZC.seq zn139_1 (ZC.block 0 (ZC.loop Z1r))
def zc139: ZC:=zn139_0
theorem zc139_ok: zcode (xfOf Try.f139).code=some zc139:=by kernel_rfl
def zw139:=zU C zc139.eq_1<|zU C zn139_1.eq_1<|zU C zn139_5.eq_1<|zU C zn139_11.eq_1<|zU C zn139_13.eq_1<|zU C zn139_16.eq_1<|zU C zn139_19.eq_1<|zU C zn139_22.eq_1<|zU C zn139_25.eq_1<|zU C zn139_27.eq_1<|zU C zn139_29.eq_1<|zU C zn139_31.eq_1<|zU C zn139_32.eq_1<|zU C zn139_33.eq_1<|zU C Z1r.eq_1<|(zunf C zn139_0.eq_1)
theorem rs139: (xfOf Try.f139).rs=[]:=by kernel_rfl
def xf139:=zF C 139 Try.f139
def zn62_1:=ZC.reg [zu 3 (.box 61 (Tm 0)),zu 4 (.box 66 (Tm 1)),zv 6 (.alloc 66)]
def zn62_4:=ZC.reg [zu 8 (zld 61 3),zu 9 (zld 66 4),zu 10 (zcf 44 [Tm 8,Tm 9] [61,66]),zv 11 (.unOp .not 4 (Tm 10))]
def zn62_7:=ZC.reg [⟨some 12,.build 66 ⟨[]⟩,none,false⟩,zv0 (.store 66 (Tm 6) (Tm 12))]
def zn62_9:=ZC.reg [zu 13 (zld 61 3),zu 14 (zld 66 4),zu 15 (zmv 2),⟨some 16,.build 186 ⟨[(0,.tmp 13),(1,.tmp 14),(2,.tmp 15)]⟩,none,false⟩,zu 17 (.box 186 (Tm 16)),zv 7 (zas 17)]
def zn62_11:=ZC.reg [zu 18 (zmv 7),zv 19 (zcf 137 [Tm 18] [184])]
def zn62_13:=ZC.reg [zu 20 (zmv 7),zv 21 (zcf 138 [Tm 20] [184])]
def zn62_15:=ZC.reg [zu 22 (zmv 7),zv 23 (zcf 139 [Tm 22] [184])]
def zn62_17:=ZC.reg [zu 24 (zmv 7),zu 25 (zmv 7),zu 26 (.nilCheck (Tm 25)),zu 27 (zfa 186 26 1),zu 28 (zfa 66 27 0),zu 29 (zld 3 28),zu 30 (.binOp .add 3 (Tm 29) (Kn 1) 3),zu 31 (zcb .min [Tm 30,Kn 600] [3,3]),zu 32 (.nilCheck (Tm 24)),zu 33 (zfa 186 32 1),zu 34 (zfa 66 33 0),zv0 (.store 3 (Tm 34) (Tm 31))]
def zn62_19:=ZC.reg [zu 35 (zmv 7),zu 36 (.nilCheck (Tm 35)),zu 37 (zfa 186 36 1),zu 38 (zld 66 37),zv0 (.store 66 (Tm 6) (Tm 38))]
def zn62_0:=ZC.seq zn62_1 (ZC.seq (ZC.seq zn62_4 (ZC.cond (Tm 11) (ZC.seq zn62_7 ZC.ret) ZC.skip)) (ZC.seq zn62_9 (ZC.seq zn62_11 (ZC.seq zn62_13 (ZC.seq zn62_15 (ZC.seq zn62_17 (ZC.seq zn62_19 ZC.ret)))))))
def zc62: ZC:=zn62_0
theorem zc62_ok: zcode (xfOf Try.f62).code=some zc62:=by kernel_rfl
def zw62:=zU C zc62.eq_1<|zU C zn62_1.eq_1<|zU C zn62_4.eq_1<|zU C zn62_7.eq_1<|zU C zn62_9.eq_1<|zU C zn62_11.eq_1<|zU C zn62_13.eq_1<|zU C zn62_15.eq_1<|zU C zn62_17.eq_1<|zU C zn62_19.eq_1<|(zunf C zn62_0.eq_1)
theorem rs62: (xfOf Try.f62).rs=[.cell 6 66]:=by kernel_rfl
def xf62:=zF C 62 Try.f62
def zn86_1:=ZC.reg [zv 2 (.assign (.const (.slice none 0 0)))]
def zn86_3:=ZC.reg [zv 3 (.assign (.const (.slice none 0 0)))]
def zn86_6:=ZC.reg [zv 4 (.assign (Kn 0))]
def zn86_11:=ZC.reg [zu 6 (zmv 4),zu 7 (zmv 0),zu 8 (zcb .len [Tm 7] [22]),zu 9 (.binOp .lss 3 (Tm 6) (Tm 8) 3),zu 10 (zmv 9),zug 11 (zmv 4) 10 true false,zug 12 (.binOp .lss 3 (Tm 11) (Kn 16) 3) 10 true false,zv 13 (.pick (Tm 10) (Tm 12) (.const (.bool false)))]
def zn86_16:=ZC.reg [zu 16 (zmv 0),zu 17 (zmv 4),zu 18 (zia 22 16 17),zu 19 (zld 31 18),zu 20 (zcf 21 [Tm 19] [31]),zu 5 (.alloc 29),zv0 (.store 29 (Tm 5) (Tm 20))]
def zn86_19:=ZC.reg [zu 21 (zfa 29 5 0),zu 22 (zld 3 21),zu 23 (.binOp .lss 3 (Tm 22) (Kn 1) 3),zu 24 (zmv 23),zug 25 (zfa 29 5 0) 24 false false,zug 26 (zld 3 25) 24 false false,zug 27 (.binOp .gtr 3 (Tm 26) (Kn 13) 3) 24 false false,zu 28 (.pick (Tm 24) (.const (.bool true)) (Tm 27)),zu 29 (zmv 28),zug 30 (zfa 29 5 1) 29 false false,zug 31 (zld 3 30) 29 false false,zug 32 (.binOp .lss 3 (Tm 31) (Kn (-1000000)) 3) 29 false false,zu 33 (.pick (Tm 29) (.const (.bool true)) (Tm 32)),zu 34 (zmv 33),zug 35 (zfa 29 5 1) 34 false false,zug 36 (zld 3 35) 34 false false,zug 37 (.binOp .gtr 3 (Tm 36) (Kn 1000000) 3) 34 false false,zu 38 (.pick (Tm 34) (.const (.bool true)) (Tm 37)),zu 39 (zmv 38),zug 40 (zfa 29 5 2) 39 false false,zug 41 (zld 3 40) 39 false false,zug 42 (.binOp .lss 3 (Tm 41) (Kn (-1000000)) 3) 39 false false,zu 43 (.pick (Tm 39) (.const (.bool true)) (Tm 42)),zu 44 (zmv 43),zug 45 (zfa 29 5 2) 44 false false,zug 46 (zld 3 45) 44 false false,zug 47 (.binOp .gtr 3 (Tm 46) (Kn 1000000) 3) 44 false false,zv 48 (.pick (Tm 44) (.const (.bool true)) (Tm 47))]
def zn86_21:=ZC.reg [⟨some 49,.build 29 ⟨[(0,.const (.int .i64 13))]⟩,none,false⟩,zv0 (.store 29 (Tm 5) (Tm 49))]
def zn86_22:=ZC.reg [zu 50 (zmv 3),zu 51 (zld 29 5),⟨some 52,.buildSlice 23 1 ⟨[(0,.tmp 51)]⟩,none,false⟩,zu 53 (zcb .append [Tm 50,Tm 52] [23,23]),zv 3 (zas 53)]
def zn86_23:=ZC.reg [zu 14 (zmv 4),zu 15 (.binOp .add 3 (Tm 14) (Kn 1) 3),zv 4 (zas 15)]
def zn86_9:=ZC.seq (ZC.seq zn86_11 (ZC.cond (Tm 13) ZC.skip (ZC.exit 0))) (ZC.seq (ZC.block 1 (ZC.seq zn86_16 (ZC.seq (ZC.seq zn86_19 (ZC.cond (Tm 48) zn86_21 ZC.skip)) zn86_22))) zn86_23)
def zn86_25:=ZC.reg [zu 54 (zmv 3),zv 2 (zas 54)]
def zn86_0:=ZC.seq zn86_1 (ZC.seq zn86_3 (ZC.seq (ZC.seq zn86_6 (ZC.block 0 (ZC.loop zn86_9))) (ZC.seq zn86_25 ZC.ret)))
def zc86: ZC:=zn86_0
theorem zc86_ok: zcode (xfOf Try.f86).code=some zc86:=by kernel_rfl
def zw86:=zU C zc86.eq_1<|zU C zn86_1.eq_1<|zU C zn86_3.eq_1<|zU C zn86_6.eq_1<|zU C zn86_11.eq_1<|zU C zn86_16.eq_1<|zU C zn86_19.eq_1<|zU C zn86_21.eq_1<|zU C zn86_22.eq_1<|zU C zn86_23.eq_1<|zU C zn86_9.eq_1<|zU C zn86_25.eq_1<|(zunf C zn86_0.eq_1)
theorem rs86: (xfOf Try.f86).rs=[.tmp 2]:=by kernel_rfl
def xf86:=zF C 86 Try.f86
def zn31_1:=ZC.reg [zu 1 (.box 57 (Tm 0)),zv 2 (.alloc 61)]
def zn31_3:=ZC.draw 24 [(22,.alloc 61)] [zdd 0 5 (zfa 57 1 0) false [] [] false,zdd 1 6 (zld 3 5) false [] [] false,zdd 2 7 (zcf 37 [Tm 6,Kn 4] [3,3]) false [] [] true,zdd 3 8 (.binOp .add 3 (Kn 1) (Tm 7) 3) false [] [] false,zdd 4 9 (zfa 57 1 1) false [2] [] false,zdd 5 10 (zld 3 9) false [2] [] false,zdd 6 11 (zcf 37 [Tm 10,Kn 3] [3,3]) false [] [] true,zdd 7 12 (.binOp .add 3 (Kn 1) (Tm 11) 3) false [] [] false,zdd 8 13 (zfa 57 1 2) false [2,6] [] false,zdd 9 14 (zld 3 13) false [2,6] [] false,zdd 10 15 (zcf 37 [Tm 14,Kn 8] [3,3]) false [] [] true,zdd 11 16 (zfa 57 1 3) false [2,6,10] [] false,zdd 12 17 (zld 3 16) false [2,6,10] [] false,zdd 13 18 (zcf 37 [Tm 17,Kn 6] [3,3]) false [] [] true,zdd 14 19 (zfa 57 1 4) false [2,6,10,13] [] false,zdd 15 20 (zld 3 19) false [2,6,10,13] [] false,zdd 16 21 (zcf 37 [Tm 20,Kn 90] [3,3]) false [] [] true,zdd 17 22 (.binOp .add 3 (Kn 5) (Tm 21) 3) false [] [] false,zdd 18 23 (zfa 57 1 5) false [2,6,10,13,16] [] false,zdd 19 24 (zld 3 23) false [2,6,10,13,16] [] false,zdd 20 25 (zcf 37 [Tm 24,Kn 2147483648] [3,3]) false [] [] true,⟨21,some 26,.build 61 ⟨[(0,.tmp 8),(1,.tmp 12),(2,.tmp 15),(3,.tmp 18),(4,.tmp 22),(5,.tmp 25)]⟩,none,false,[],[],false⟩,zdd 22 3 (.alloc 61) true [2,6,10,13,16,20] [] false,zd0 23 (.store 61 (Tm 3) (Tm 26)) true [] [] false]
def zn31_6:=ZC.reg [zu 27 (zfa 57 1 0),zu 28 (zld 3 27),zu 29 (.binOp .rem 3 (Tm 28) (Kn 11) 3),zv 30 (.binOp .eql 3 (Tm 29) (Kn 10) 3)]
def zn31_8:=ZC.reg [zu 31 (zfa 57 1 0),zu 32 (zld 3 31),zu 33 (.binOp .quo 3 (Tm 32) (Kn 11) 3),zu 34 (zcf 37 [Tm 33,Kn 8] [3,3]),zu 35 (.binOp .add 3 (Kn 1) (Tm 34) 3),zu 36 (zfa 61 3 0),zv0 (.store 3 (Tm 36) (Tm 35))]
def zn31_10:=ZC.reg [zu 37 (zfa 57 1 6),zu 38 (zld 3 37),zu 39 (zcf 37 [Tm 38,Kn 9] [3,3]),zu 40 (.convert 3 59 (Tm 39)),zu 41 (.binOp .quo 59 (Tm 40) (.const (.float .f64 4616189618054758400)) 59),zu 42 (zfa 61 3 6),zv0 (.store 59 (Tm 42) (Tm 41))]
def zn31_12:=ZC.reg [zu 43 (zfa 57 1 6),zu 44 (zld 3 43),zu 45 (.binOp .quo 3 (Tm 44) (Kn 9) 3),zu 46 (zcf 37 [Tm 45,Kn 40] [3,3]),zu 47 (.convert 3 59 (Tm 46)),zu 48 (.binOp .quo 59 (Tm 47) (.const (.float .f64 4611686018427387904)) 59),zu 49 (.binOp .add 59 (.const (.float .f64 4607182418800017408)) (Tm 48) 59),zu 50 (zfa 61 3 7),zv0 (.store 59 (Tm 50) (Tm 49))]
def zn31_15:=ZC.reg [zu 51 (zfa 57 1 6),zu 52 (zld 3 51),zu 53 (.binOp .rem 3 (Tm 52) (Kn 3) 3),zv 54 (.binOp .gtr 3 (Tm 53) (Kn 0) 3)]
def zn31_18:=ZC.reg [zu 55 (zfa 61 3 6),zv0 (.store 59 (Tm 55) (.const (.float .f64 4613937818241073152)))]
def zn31_19:=ZC.reg [zu 56 (zfa 61 3 7),zv0 (.store 59 (Tm 56) (.const (.float .f64 4632233691727265792)))]
def zn31_21:=ZC.reg [zu 57 (zfa 57 1 7),zu 58 (zld 22 57),zu 59 (zcf 86 [Tm 58] [22]),zu 60 (zfa 61 3 8),zv0 (.store 23 (Tm 60) (Tm 59))]
def zn31_24:=ZC.reg [zv 4 (.assign (Kn 0))]
def zn31_29:=ZC.reg [zu 61 (zmv 4),zu 62 (zfa 61 3 0),zu 63 (zld 3 62),zv 64 (.binOp .lss 3 (Tm 61) (Tm 63) 3)]
def zn31_33:=ZC.draw 13 [] [zdd 0 67 (zfa 61 3 9) false [] [5] false,zdd 1 68 (zld 24 67) false [] [5] false,zdd 2 69 (zfa 57 1 5) false [] [] false,zdd 3 70 (zld 3 69) false [] [] false,zdd 4 71 (.binOp .quo 3 (Tm 70) (Kn 3) 3) false [] [] false,zdd 5 72 (zcf 37 [Tm 71,Kn 1000000] [3,3]) false [] [] false,zdd 6 73 (.binOp .mul 3 (Tm 72) (Kn 10) 3) false [] [] false,zdd 7 74 (zmv 4) true [] [] false,zdd 8 75 (.binOp .add 3 (Tm 73) (Tm 74) 3) true [] [] false,⟨9,some 76,.buildSlice 24 1 ⟨[(0,.tmp 75)]⟩,none,true,[],[],false⟩,zdd 10 77 (zcb .append [Tm 68,Tm 76] [24,24]) true [] [] false,zdd 11 78 (zfa 61 3 9) true [] [] false,zd0 12 (.store 24 (Tm 78) (Tm 77)) true [] [] false]
def zn31_34:=ZC.reg [zu 65 (zmv 4),zu 66 (.binOp .add 3 (Tm 65) (Kn 1) 3),zv 4 (zas 66)]
def Y1b:=ZC.seq (ZC.seq zn31_29 (ZC.cond (Tm 64) ZC.skip (ZC.exit 0))) (ZC.seq (ZC.block 1 zn31_33) zn31_34)
def zn31_36:=ZC.reg [zu 79 (zld 61 3),zv0 (.store 61 (Tm 2) (Tm 79))]
def zn31_0:=ZC.seq zn31_1 (ZC.seq zn31_3 (ZC.seq (ZC.seq zn31_6 (ZC.cond (Tm 30) zn31_8 ZC.skip)) (ZC.seq zn31_10 (ZC.seq zn31_12 (ZC.seq (ZC.seq zn31_15 (ZC.cond (Tm 54) (ZC.seq zn31_18 zn31_19) ZC.skip)) (ZC.seq zn31_21 (ZC.seq (ZC.seq zn31_24 (ZC.block 0 (ZC.loop Y1b))) (ZC.seq zn31_36 ZC.ret))))))))
def zc31: ZC:=zn31_0
theorem zc31_ok: zcode (xfOf Try.f31).code=some zc31:=by kernel_rfl
def zw31:=zU C zc31.eq_1<|zU C zn31_1.eq_1<|zU C zn31_3.eq_1<|zU C zn31_6.eq_1<|zU C zn31_8.eq_1<|zU C zn31_10.eq_1<|zU C zn31_12.eq_1<|zU C zn31_15.eq_1<|zU C zn31_18.eq_1<|zU C zn31_19.eq_1<|zU C zn31_21.eq_1<|zU C zn31_24.eq_1<|zU C zn31_29.eq_1<|zU C zn31_33.eq_1<|zU C zn31_34.eq_1<|zU C Y1b.eq_1<|zU C zn31_36.eq_1<|(zunf C zn31_0.eq_1)
theorem rs31: (xfOf Try.f31).rs=[.cell 2 61]:=by kernel_rfl
def xf31:=zF C 31 Try.f31
def zn65_1:=ZC.reg [zv 4 (.assign (.const (.slice none 0 0)))]
def zn65_3:=ZC.reg [zu 7 (zmv 0),zu 8 (.makeSlice 108 (Tm 7) (Tm 7)),zv 5 (zas 8)]
def zn65_6:=ZC.reg [zv 6 (.assign (Kn 0))]
def zn65_11:=ZC.reg [zu 9 (zmv 6),zu 10 (zmv 0),zu 11 (.binOp .lss 3 (Tm 9) (Tm 10) 3),zu 12 (zmv 11),zug 13 (zmv 6) 12 true false,zug 14 (zmv 1) 12 true false,zug 15 (zcb .len [Tm 14] [24]) 12 true false,zug 16 (.binOp .lss 3 (Tm 13) (Tm 15) 3) 12 true false,zv 17 (.pick (Tm 12) (Tm 16) (.const (.bool false)))]
def zn65_16:=ZC.reg [zu 20 (zmv 1),zu 21 (zmv 6),zu 22 (zia 24 20 21),zu 23 (zld 3 22),zu 24 (.binOp .rem 3 (Tm 23) (Kn 4) 3),zv 25 (.binOp .gtr 3 (Tm 24) (Kn 0) 3)]
def zn65_18:=ZC.draw 16 [] [zdd 0 26 (zmv 5) false [] [] false,zdd 1 27 (zmv 6) false [] [] false,zdd 2 28 (zmv 1) false [] [] false,zdd 3 29 (zmv 6) false [] [] false,zdd 4 30 (zia 24 28 29) false [] [] false,zdd 5 31 (zld 3 30) false [] [] false,zdd 6 32 (.binOp .quo 3 (Tm 31) (Kn 4) 3) false [] [] false,zdd 7 33 (zmv 1) false [] [] false,zdd 8 34 (zmv 6) true [] [] false,zdd 9 35 (zia 24 33 34) true [] [] false,zdd 10 36 (zld 3 35) true [] [] false,zdd 11 37 (.binOp .quo 3 (Tm 36) (Kn 7) 3) true [] [] false,zdd 12 38 (zcf 69 [Tm 32,Tm 37] [3,3]) true [] [] false,⟨13,some 39,.build 110 ⟨[(0,.const (.bool true)),(1,.tmp 38)]⟩,none,true,[],[],false⟩,zdd 14 40 (zia 108 26 27) true [] [] false,zd0 15 (.store 110 (Tm 40) (Tm 39)) true [] [] false]
def zn65_19:=ZC.reg [zu 18 (zmv 6),zu 19 (.binOp .add 3 (Tm 18) (Kn 1) 3),zv 6 (zas 19)]
def zn65_9:=ZC.seq (ZC.seq zn65_11 (ZC.cond (Tm 17) ZC.skip (ZC.exit 0))) (ZC.seq (ZC.block 1 (ZC.seq zn65_16 (ZC.cond (Tm 25) zn65_18 ZC.skip))) zn65_19)
def zn65_21:=ZC.reg [zu 41 (zmv 5),zv 4 (zas 41)]
def zn65_0:=ZC.seq zn65_1 (ZC.seq zn65_3 (ZC.seq (ZC.seq zn65_6 (ZC.block 0 (ZC.loop zn65_9))) (ZC.seq zn65_21 ZC.ret)))
def zc65: ZC:=zn65_0
theorem zc65_ok: zcode (xfOf Try.f65).code=some zc65:=by kernel_rfl
def zw65:=zU C zc65.eq_1<|zU C zn65_1.eq_1<|zU C zn65_3.eq_1<|zU C zn65_6.eq_1<|zU C zn65_11.eq_1<|zU C zn65_16.eq_1<|zU C zn65_18.eq_1<|zU C zn65_19.eq_1<|zU C zn65_9.eq_1<|zU C zn65_21.eq_1<|(zunf C zn65_0.eq_1)
theorem rs65: (xfOf Try.f65).rs=[.tmp 4]:=by kernel_rfl
def xf65:=zF C 65 Try.f65
def zn61_1:=ZC.reg [zv 4 (.assign (.const (.slice none 0 0)))]
def zn61_3:=ZC.reg [zv 5 (.assign (.const (.slice none 0 0)))]
def zn61_6:=ZC.reg [zv 6 (.assign (Kn 0))]
def zn61_11:=ZC.reg [zu 7 (zmv 6),zu 8 (zmv 1),zu 9 (zcb .len [Tm 8] [58]),zu 10 (.binOp .lss 3 (Tm 7) (Tm 9) 3),zu 11 (zmv 10),zug 12 (zmv 6) 11 true false,zug 13 (.binOp .lss 3 (Tm 12) (Kn 40) 3) 11 true false,zv 14 (.pick (Tm 11) (Tm 13) (.const (.bool false)))]
def zn61_15:=ZC.reg [zu 17 (zmv 5),zu 18 (zmv 0),zu 19 (zmv 1),zu 20 (zmv 6),zu 21 (zia 58 19 20),zu 22 (zld 24 21),zu 23 (zcf 65 [Tm 18,Tm 22] [3,24]),⟨some 24,.buildSlice 92 1 ⟨[(0,.tmp 23)]⟩,none,false⟩,zu 25 (zcb .append [Tm 17,Tm 24] [92,92]),zv 5 (zas 25)]
def zn61_16:=ZC.reg [zu 15 (zmv 6),zu 16 (.binOp .add 3 (Tm 15) (Kn 1) 3),zv 6 (zas 16)]
def zn61_9:=ZC.seq (ZC.seq zn61_11 (ZC.cond (Tm 14) ZC.skip (ZC.exit 0))) (ZC.seq (ZC.block 1 zn61_15) zn61_16)
def zn61_18:=ZC.reg [zu 26 (zmv 5),zv 4 (zas 26)]
def zn61_0:=ZC.seq zn61_1 (ZC.seq zn61_3 (ZC.seq (ZC.seq zn61_6 (ZC.block 0 (ZC.loop zn61_9))) (ZC.seq zn61_18 ZC.ret)))
def zc61: ZC:=zn61_0
theorem zc61_ok: zcode (xfOf Try.f61).code=some zc61:=by kernel_rfl
def zw61:=zU C zc61.eq_1<|zU C zn61_1.eq_1<|zU C zn61_3.eq_1<|zU C zn61_6.eq_1<|zU C zn61_11.eq_1<|zU C zn61_15.eq_1<|zU C zn61_16.eq_1<|zU C zn61_9.eq_1<|zU C zn61_18.eq_1<|(zunf C zn61_0.eq_1)
theorem rs61: (xfOf Try.f61).rs=[.tmp 4]:=by kernel_rfl
def xf61:=zF C 61 Try.f61
def zn59_1:=ZC.reg [zv 0 (.assign (.const (.bool false)))]
def zn59_3:=ZC.reg [zu 3 (zcf 63 [Kn 1,.const (.slice none 0 0)] [3,23]),zu 1 (.alloc 61),zv0 (.store 61 (Tm 1) (Tm 3))]
def zn59_5:=ZC.draw 8 [(6,.alloc 66)] [zdd 0 4 (zld 61 1) false [] [2,3] false,zdd 1 5 (zld 61 1) false [] [] false,zdd 2 6 (zcf 58 [Tm 5] [61]) false [] [] true,zdd 3 7 (zcf 134 [Kn 0,Kn 64,Kn 0] [3,3,3]) false [] [] true,⟨4,some 8,.buildSlice 108 1 ⟨[(0,.tmp 7)]⟩,none,false,[],[],false⟩,zdd 5 9 (zcf 62 [Tm 4,Tm 6,Tm 8] [61,66,108]) false [] [] true,zdd 6 2 (.alloc 66) true [2,3,5] [] false,zd0 7 (.store 66 (Tm 2) (Tm 9)) true [] [] false]
def zn59_7:=ZC.reg [zu 10 (zld 61 1),zu 11 (zcf 60 [Tm 10] [61]),zu 12 (zmv 11),zug 13 (zfa 66 2 2) 12 true false,zug 14 (.indexAddr 63 (Tm 13) (Kn 0)) 12 true false,zug 15 (zfa 34 14 2) 12 true false,zug 16 (zld 3 15) 12 true false,zug 17 (.binOp .eql 3 (Tm 16) (Kn 2052) 3) 12 true false,zu 18 (.pick (Tm 12) (Tm 17) (.const (.bool false))),zu 19 (zmv 18),zug 20 (zfa 66 2 0) 19 true false,zug 21 (zld 3 20) 19 true false,zug 22 (.binOp .eql 3 (Tm 21) (Kn 1) 3) 19 true false,zu 23 (.pick (Tm 19) (Tm 22) (.const (.bool false))),zu 24 (zmv 23),zug 25 (zfa 66 2 2) 24 true false,zug 26 (.indexAddr 63 (Tm 25) (Kn 0)) 24 true false,zug 27 (zfa 34 26 0) 24 true false,zug 28 (zld 3 27) 24 true false,zug 29 (.binOp .eql 3 (Tm 28) (Kn 1) 3) 24 true false,zu 30 (.pick (Tm 24) (Tm 29) (.const (.bool false))),zv 0 (zas 30)]
def zn59_0:=ZC.seq zn59_1 (ZC.seq zn59_3 (ZC.seq zn59_5 (ZC.seq zn59_7 ZC.ret)))
def zc59: ZC:=zn59_0
theorem zc59_ok: zcode (xfOf Try.f59).code=some zc59:=by kernel_rfl
def zw59:=zU C zc59.eq_1<|zU C zn59_1.eq_1<|zU C zn59_3.eq_1<|zU C zn59_5.eq_1<|zU C zn59_7.eq_1<|(zunf C zn59_0.eq_1)
theorem rs59: (xfOf Try.f59).rs=[.tmp 0]:=by kernel_rfl
def xf59:=zF C 59 Try.f59
def zn63_1:=ZC.reg [zv 4 (.alloc 61)]
def zn63_3:=ZC.reg [zu 7 (zmv 0),zu 8 (zmv 1),⟨some 9,.build 61 ⟨[(0,.tmp 7),(1,.const (.int .i64 1)),(4,.const (.int .i64 50)),(6,.const (.float .f64 4607182418800017408)),(7,.const (.float .f64 4617315517961601024)),(8,.tmp 8)]⟩,none,false⟩,zu 5 (.alloc 61),zv0 (.store 61 (Tm 5) (Tm 9))]
def zn63_6:=ZC.reg [zv 6 (.assign (Kn 0))]
def zn63_11:=ZC.reg [zu 10 (zmv 6),zu 11 (zmv 0),zv 12 (.binOp .lss 3 (Tm 10) (Tm 11) 3)]
def zn63_15:=ZC.reg [zu 15 (zfa 61 5 9),zu 16 (zld 24 15),zu 17 (zmv 6),⟨some 18,.buildSlice 24 1 ⟨[(0,.tmp 17)]⟩,none,false⟩,zu 19 (zcb .append [Tm 16,Tm 18] [24,24]),zu 20 (zfa 61 5 9),zv0 (.store 24 (Tm 20) (Tm 19))]
def zn63_16:=ZC.reg [zu 13 (zmv 6),zu 14 (.binOp .add 3 (Tm 13) (Kn 1) 3),zv 6 (zas 14)]
def zn63_9:=ZC.seq (ZC.seq zn63_11 (ZC.cond (Tm 12) ZC.skip (ZC.exit 0))) (ZC.seq (ZC.block 1 zn63_15) zn63_16)
def zn63_18:=ZC.reg [zu 21 (zld 61 5),zv0 (.store 61 (Tm 4) (Tm 21))]
def zn63_0:=ZC.seq zn63_1 (ZC.seq zn63_3 (ZC.seq (ZC.seq zn63_6 (ZC.block 0 (ZC.loop zn63_9))) (ZC.seq zn63_18 ZC.ret)))
def zc63: ZC:=zn63_0
theorem zc63_ok: zcode (xfOf Try.f63).code=some zc63:=by kernel_rfl
def zw63:=zU C zc63.eq_1<|zU C zn63_1.eq_1<|zU C zn63_3.eq_1<|zU C zn63_6.eq_1<|zU C zn63_11.eq_1<|zU C zn63_15.eq_1<|zU C zn63_16.eq_1<|zU C zn63_9.eq_1<|zU C zn63_18.eq_1<|(zunf C zn63_0.eq_1)
theorem rs63: (xfOf Try.f63).rs=[.cell 4 61]:=by kernel_rfl
def xf63:=zF C 63 Try.f63
def zn134_1:=ZC.reg [zv 6 (.alloc 110)]
def zn134_3:=ZC.reg [zu 7 (zmv 0),zu 8 (zmv 1),zu 9 (zmv 2),⟨some 10,.build 36 ⟨[(0,.tmp 7),(1,.tmp 8),(2,.tmp 9)]⟩,none,false⟩,⟨some 11,.build 110 ⟨[(0,.const (.bool true)),(1,.tmp 10)]⟩,none,false⟩,zv0 (.store 110 (Tm 6) (Tm 11))]
def zn134_0:=ZC.seq zn134_1 (ZC.seq zn134_3 ZC.ret)
def zc134: ZC:=zn134_0
theorem zc134_ok: zcode (xfOf Try.f134).code=some zc134:=by kernel_rfl
def zw134:=zU C zc134.eq_1<|zU C zn134_1.eq_1<|zU C zn134_3.eq_1<|(zunf C zn134_0.eq_1)
theorem rs134: (xfOf Try.f134).rs=[.cell 6 110]:=by kernel_rfl
def xf134:=zF C 134 Try.f134
end Go.Proofs.Ytpchcfkebljopaa
end
section
namespace Go.Proofs.Ytpchcfkebljopaa
open Go.Cl Go Go.RowKit
def partL{α:Type}(l:List α): Lst α:=if h:l=[] then⟨.nil,[],fun _=>rfl⟩ else⟨.part,l,nofun⟩
theorem X0y{α:Type}{f:α->CV}(hf:∀x j,¬(f x).has j)(s:Lst α)(k:Nat)(h:s.tl=.nil\/(∃j,s.tl=.own j)/\0<s.l.length): CV.weak (fun k=>k) k (Lst.cv f s) (Lst.cv f (partL s.l)):=by
 have hl:∀l:List α,CV.weakL (fun k=>k) k (l.map f) (l.map f):=fun l=>CV.weakL_refl _ fun j hj=>(X0n hf l j hj).elim
 obtain⟨tl,l,o⟩:=s
 rcases h with h|⟨⟨j,h⟩,h0⟩
 ·simp only at h
  subst h
  have:l=[]:=o rfl
  subst this
  simp[partL,Lst.cv,CV.weak,Tail.weak,CV.weakL]
 ·simp only at h
  subst h
  have hne:l≠[]:=by intro e;subst e;simp at h0
  simp only[partL,dif_neg hne,Lst.cv,CV.weak,Tail.weak,true_and]
  exact hl _
def eff(e:K0c)(o:Q0c): Except Int K0c:=
 match Mach.doOp ⟨e,⟨.nil,[],fun _=>rfl⟩,0⟩ o with
 |.error c=>.error c
 |.ok r=>.ok r.1.e_
def Mach.withL(m:Z0a)(s:Lst Q0c): Z0a:={m with l_:=s}
theorem reckon_withL(m:Z0a)(s:Lst Q0c)(o:Q0c): Mach.reckon (Mach.withL m s) o=match Mach.reckon m o with|.ok r=>.ok (Mach.withL r s)|.error c=>.error c:=by
 have h1:∀k,Mach.reg (Mach.withL m s) k=Mach.reg m k:=fun _=>rfl
 unfold Mach.reckon
 simp only[h1]
 by_cases c2:o.Code=2
 ·simp only[if_pos c2];rfl
 by_cases c3:o.Code=3
 ·simp only[if_neg c2,if_pos c3];rfl
 by_cases c4:o.Code=4
 ·simp only[if_neg c2,if_neg c3,if_pos c4];rfl
 by_cases c5:o.Code=5
 ·simp only[if_neg c2,if_neg c3,if_neg c4,if_pos c5];rfl
 by_cases c6:o.Code=6
 ·simp only[if_neg c2,if_neg c3,if_neg c4,if_neg c5,if_pos c6]
  by_cases z:Mach.reg m o.B.toNat=0
  ·simp only[if_pos z]
  ·simp only[if_neg z];rfl
 by_cases c11:o.Code=11
 ·simp only[if_neg c2,if_neg c3,if_neg c4,if_neg c5,if_neg c6,if_pos c11]
  by_cases z:Mach.reg m o.B.toNat<1
  ·simp only[if_pos z]
  ·simp only[if_neg z];rfl
 simp only[if_neg c2,if_neg c3,if_neg c4,if_neg c5,if_neg c6,if_neg c11]
 by_cases z:(m.e_.Shots.l.length:Int)<m.e_.Room
 ·rw[if_pos z,if_pos (show((Mach.withL m s).e_.Shots.l.length:Int)<(Mach.withL m s).e_.Room from z)];rfl
 ·rw[if_neg z,if_neg (show ¬((Mach.withL m s).e_.Shots.l.length:Int)<(Mach.withL m s).e_.Room from z)]
theorem doOp_withL(m:Z0a)(s:Lst Q0c)(o:Q0c)(h:s.l=m.l_.l): Mach.doOp (Mach.withL m s) o=match Mach.doOp m o with|.ok r=>.ok (Mach.withL r.1 s,r.2)|.error c=>.error c:=by
 have h1:∀k,Mach.reg (Mach.withL m s) k=Mach.reg m k:=fun _=>rfl
 have h2:∀k,Mach.field (Mach.withL m s) k=Mach.field m k:=fun _=>rfl
 have h3:(Mach.withL m s).l_.l=m.l_.l:=h
 unfold Mach.doOp
 simp only[h1,h2,h3,reckon_withL]
 by_cases c1:within o.Code 1 13=false
 ·simp only[if_pos c1]
 by_cases c2:namedOk o=false
 ·simp only[if_neg c1,if_pos c2]
 by_cases c3:o.Code=1
 ·simp only[if_neg c1,if_neg c2,if_pos c3];rfl
 by_cases c4:o.Code=7
 ·simp only[if_neg c1,if_neg c2,if_neg c3,if_pos c4]
  by_cases z:within o.B 0 7=false
  ·simp only[if_pos z]
  ·simp only[if_neg z];rfl
 by_cases c5:o.Code=8
 ·simp only[if_neg c1,if_neg c2,if_neg c3,if_neg c4,if_pos c5]
  by_cases z:within o.A 0 3=false
  ·simp only[if_pos z]
  ·simp only[if_neg z];rfl
 by_cases c6:o.Code=9
 ·simp only[if_neg c1,if_neg c2,if_neg c3,if_neg c4,if_neg c5,if_pos c6]
  by_cases z:Mach.reg m o.A.toNat=0
  ·simp only[if_pos z]
   by_cases y:within o.B 0 m.l_.l.length=false
   ·simp only[if_pos y]
   ·simp only[if_neg y]
  ·simp only[if_neg z];rfl
 by_cases c7:o.Code=10
 ·simp only[if_neg c1,if_neg c2,if_neg c3,if_neg c4,if_neg c5,if_neg c6,if_pos c7]
  by_cases y:within o.B 0 m.l_.l.length=false
  ·simp only[if_pos y]
  ·simp only[if_neg y]
 by_cases c8:o.Code=13
 ·simp only[if_neg c1,if_neg c2,if_neg c3,if_neg c4,if_neg c5,if_neg c6,if_neg c7,if_pos c8]
 simp only[if_neg c1,if_neg c2,if_neg c3,if_neg c4,if_neg c5,if_neg c6,if_neg c7,if_neg c8]
 cases Mach.reckon m o<;>rfl
theorem run_withL(s:Lst Q0c): ∀(k:Nat) (m:Z0a),s.l=m.l_.l->0<=m.at_->Mach.run k (Mach.withL m s)=match Mach.run k m with|.ok r=>.ok (Mach.withL r s)|.error c=>.error c
 |k,m,h,ha=>by
  have h3:(Mach.withL m s).l_.l=m.l_.l:=h
  have h4:(Mach.withL m s).at_=m.at_:=rfl
  unfold Mach.run
  rw[h3,h4]
  by_cases hlt:m.at_<m.l_.l.length
  ·rw[if_pos hlt,if_pos hlt]
   cases k with
   |zero=>rfl
   |succ k=>
    simp only[doOp_withL m s _ h]
    cases hd:Mach.doOp m (nth m.l_.l m.at_.toNat) with
    |error c=>rfl
    |ok r=>
     obtain⟨m2,n⟩:=r
     simp only
     have kk:=Mach.doOp_keeps hd ha hlt
     exact run_withL s k {m2 with at_:=n} (by simp only;rw[kk.2.1];exact h) kk.2.2.2.2.1
  ·rw[if_neg hlt,if_neg hlt]
theorem ruleRun_l{l s:Lst Q0c}(h:s.l=l.l)(e:K0c): ruleRun s e=ruleRun l e:=by
 have:=run_withL s 64 ⟨copiedE e,l,0⟩ h (by simp)
 unfold ruleRun
 rw[show(⟨copiedE e,s,0⟩:Z0a)=Mach.withL ⟨copiedE e,l,0⟩ s from rfl,this]
 cases Mach.run 64 ⟨copiedE e,l,0⟩<;>rfl
def runL(L:List Q0c)(e:K0c): K0c×X0c×Bool:=ruleRun ⟨.view,L,nofun⟩ e
def namesA(c:Int): Bool:=decide (c=1) || decide (c=7) || decide (c=9) || decide (c=2) || decide (c=3) || decide (c=4) || decide (c=5) || decide (c=6) || decide (c=11) || decide (c=12)
def namesB(c:Int): Bool:=decide (c=2) || decide (c=3) || decide (c=4) || decide (c=5) || decide (c=6) || decide (c=11) || decide (c=12) || decide (c=8)
def rfault(o:Q0c)(e:V0c)(n:Int): Int:=
 if within o.Code 1 13=false then 4
 else if(namesA o.Code&&!within o.A 0 3 || namesB o.Code&&!within o.B 0 3)=true then 2
 else if(decide (o.Code=7)&&!within o.B 0 7 || decide (o.Code=8)&&!within o.A 0 3)=true then 3
 else if(decide (o.Code=6)&&decide (nth e.Body.Mem o.B.toNat=0))=true then 1
 else if(decide (o.Code=11)&&decide (nth e.Body.Mem o.B.toNat<1))=true then 6
 else if(decide (o.Code=12)&&decide (e.Room<=e.Shots.l.length))=true then 7
 else if(decide (o.Code=10)&&!within o.B 0 n)=true then 4
 else if(decide (o.Code=9)&&decide (nth e.Body.Mem o.A.toNat=0)&&!within o.B 0 n)=true then 4
 else 0
def partS{α:Type}(s:Lst α): Lst α:=
 match s.tl with
 |.own _=>⟨.part,s.l,nofun⟩
 |_=>s
theorem partS_l{α:Type}(s:Lst α): (partS s).l=s.l:=by
 obtain⟨tl,l,o⟩:=s;cases tl<;>rfl
def partE(e:V0c): K0c:=⟨e.Body,e.In,e.Dice,e.Room,partS e.Shots⟩
def ruleOf(e:V0c): K0c:=⟨e.Body,e.In,e.Dice,e.Room,e.Shots⟩
def envR(e:K0c): V0c:=⟨e.Body,e.In,e.Dice,e.Room,e.Shots⟩
theorem weak_partS{α:Type}{f:α->CV}(hf:∀x j,¬(f x).has j)(s:Lst α)(n:Nat)(h:s.tl=.nil\/∃j,s.tl=.own j): CV.weak (fun k=>k) n (Lst.cv f s) (Lst.cv f (partS s)):=by
 have hl:∀l:List α,CV.weakL (fun k=>k) n (l.map f) (l.map f):=fun l=>CV.weakL_refl _ fun j hj=>(X0n hf l j hj).elim
 obtain⟨tl,l,o⟩:=s
 rcases h with h|⟨j,h⟩<;>simp only at h<;>subst h<;>simp only[partS,Lst.cv,CV.weak,Tail.weak,true_and]<;>exact hl _
theorem weak_envR(e:V0c)(n:Nat)(h:e.Shots.tl=.nil\/∃j,e.Shots.tl=.own j): CV.weak (fun k=>k) n e.cv (envR (partE e)).cv:=by
 have h1:CV.weak (fun k=>k) n e.Body.cv e.Body.cv:=Y0d (Z0c (Q0a.nohas _))
 have h2:CV.weak (fun k=>k) n e.In.cv e.In.cv:=Y0d (Z0c (K0b.nohas _))
 have h3:=weak_partS Q0a.nohas e.Shots n h
 simp only[V0c.cv,envR,partE,CV.weak,CV.weakL]
 exact⟨h1,h2,trivial,trivial,h3,trivial⟩
theorem copiedE_nil{e:V0c}(h:e.Shots.tl=.nil): copiedE (ruleOf e)=ruleOf e:=by
 obtain⟨b,i,d,r,tl,l,o⟩:=e
 simp only at h;subst h
 have:=o rfl;subst this
 rfl
theorem partE_nil{e:V0c}(h:e.Shots.tl=.nil): partE e=ruleOf e:=by
 obtain⟨b,i,d,r,tl,l,o⟩:=e
 simp only at h;subst h
 rfl
theorem V04{c:Int}(h:within c 1 13=true): c=1\/c=2\/c=3\/c=4\/c=5\/c=6\/c=7\/c=8\/c=9\/c=10\/c=11\/c=12\/c=13:=by
 have:=X0a h;omega
theorem rfault_eq(o:Q0c)(e:V0c)(l:Lst Q0c)(a:Int): rfault o e l.l.length=match Mach.doOp ⟨partE e,l,a⟩ o with|.error c=>c|.ok _=>0:=by
 have hr:∀k,Mach.reg ⟨partE e,l,a⟩ k=nth e.Body.Mem k:=fun _=>rfl
 have hs:((⟨partE e,l,a⟩:Z0a).e_.Shots.l.length:Int)=e.Shots.l.length:=by simp[partE,partS_l]
 have hm:(⟨partE e,l,a⟩:Z0a).e_.Room=e.Room:=rfl
 unfold rfault Mach.doOp
 cases hw:within o.Code 1 13 with
 |false=>simp
 |true=>
  simp only[Bool.true_eq_false,if_false,hr,Mach.reckon,hs,hm]
  rcases V04 hw with h|h|h|h|h|h|h|h|h|h|h|h|h
  all_goals simp only[h,namesA,namesB,namedOk,needA,needB]
  all_goals cases hA:within o.A 0 3<;>cases hB:within o.B 0 3
  all_goals simp
  all_goals(repeat' split)
  all_goals first
   |rfl
   |(simp_all;done)
   |(rename_i hx _ _ hq;rw[show(partE e).Room=e.Room from rfl,if_neg (by omega)]at hq;cases hq;done)
   |(rename_i hx _ _ hq;rw[show(partE e).Room=e.Room from rfl,if_neg (by omega)]at hq;cases hq;rfl)
   |(rename_i hx _ _ hq;rw[show(partE e).Room=e.Room from rfl,if_pos (by omega)]at hq;cases hq;done)
   |(rename_i hx _ _ hq;rw[show(partE e).Room=e.Room from rfl,if_pos (by omega)]at hq;cases hq;rfl)
   |(rename_i hx _ _ hq;split at hq<;>first|(cases hq;done)|(split at hq<;>first|(cases hq;done)|(cases hq;simp_all))|(cases hq;simp_all))
   |omega
   |trace_state
theorem doOp_code{o:Q0c}{m:Z0a}{c:Int}(h:Mach.doOp m o=.error c): c≠0:=by
 have hr:∀c',Mach.reckon m o=.error c'->c'≠0:=by
  intro c' h'
  unfold Mach.reckon at h'
  simp only at h'
  repeat'(split at h')
  all_goals first|(cases h';done)|(cases h';decide)
 unfold Mach.doOp at h
 repeat'(split at h)
 all_goals first|(cases h;done)|(cases h;decide)|(rename_i hq;cases h;exact hr _ hq)
theorem doOp_1{o:Q0c}{m m2:Z0a}{n:Int}(h:Mach.doOp m o=.ok (m2,n))(hC:o.Code=1): m2=Mach.set m o.A.toNat o.B/\n=m.at_+1:=by
 have hw:within o.Code 1 13=true:=by rw[hC];rfl
 have hw2:within 1 1 13=true:=rfl
 unfold Mach.doOp Mach.reckon at h
 cases hn:namedOk o with
 |false=>simp only[hw,hn,Bool.true_eq_false,if_true,if_false]at h;cases h
 |true=>
  simp only[hw2,hn,hC,Int.reduceEq,Bool.true_eq_false,if_true,if_false]at h
  cases h;exact⟨rfl,rfl⟩
theorem doOp_2{o:Q0c}{m m2:Z0a}{n:Int}(h:Mach.doOp m o=.ok (m2,n))(hC:o.Code=2): m2=Mach.set m o.A.toNat (Mach.reg m o.B.toNat)/\n=m.at_+1:=by
 have hw:within o.Code 1 13=true:=by rw[hC];rfl
 have hw2:within 2 1 13=true:=rfl
 unfold Mach.doOp Mach.reckon at h
 cases hn:namedOk o with
 |false=>simp only[hw,hn,Bool.true_eq_false,if_true,if_false]at h;cases h
 |true=>
  simp only[hw2,hn,hC,Int.reduceEq,Bool.true_eq_false,if_true,if_false]at h
  cases h;exact⟨rfl,rfl⟩
theorem doOp_3{o:Q0c}{m m2:Z0a}{n:Int}(h:Mach.doOp m o=.ok (m2,n))(hC:o.Code=3): m2=Mach.set m o.A.toNat (w64 (Mach.reg m o.A.toNat+Mach.reg m o.B.toNat))/\n=m.at_+1:=by
 have hw:within o.Code 1 13=true:=by rw[hC];rfl
 have hw2:within 3 1 13=true:=rfl
 unfold Mach.doOp Mach.reckon at h
 cases hn:namedOk o with
 |false=>simp only[hw,hn,Bool.true_eq_false,if_true,if_false]at h;cases h
 |true=>
  simp only[hw2,hn,hC,Int.reduceEq,Bool.true_eq_false,if_true,if_false]at h
  cases h;exact⟨rfl,rfl⟩
theorem doOp_4{o:Q0c}{m m2:Z0a}{n:Int}(h:Mach.doOp m o=.ok (m2,n))(hC:o.Code=4): m2=Mach.set m o.A.toNat (w64 (Mach.reg m o.A.toNat-Mach.reg m o.B.toNat))/\n=m.at_+1:=by
 have hw:within o.Code 1 13=true:=by rw[hC];rfl
 have hw2:within 4 1 13=true:=rfl
 unfold Mach.doOp Mach.reckon at h
 cases hn:namedOk o with
 |false=>simp only[hw,hn,Bool.true_eq_false,if_true,if_false]at h;cases h
 |true=>
  simp only[hw2,hn,hC,Int.reduceEq,Bool.true_eq_false,if_true,if_false]at h
  cases h;exact⟨rfl,rfl⟩
theorem doOp_5{o:Q0c}{m m2:Z0a}{n:Int}(h:Mach.doOp m o=.ok (m2,n))(hC:o.Code=5): m2=Mach.set m o.A.toNat (w64 (Mach.reg m o.A.toNat*Mach.reg m o.B.toNat))/\n=m.at_+1:=by
 have hw:within o.Code 1 13=true:=by rw[hC];rfl
 have hw2:within 5 1 13=true:=rfl
 unfold Mach.doOp Mach.reckon at h
 cases hn:namedOk o with
 |false=>simp only[hw,hn,Bool.true_eq_false,if_true,if_false]at h;cases h
 |true=>
  simp only[hw2,hn,hC,Int.reduceEq,Bool.true_eq_false,if_true,if_false]at h
  cases h;exact⟨rfl,rfl⟩
theorem doOp_6{o:Q0c}{m m2:Z0a}{n:Int}(h:Mach.doOp m o=.ok (m2,n))(hC:o.Code=6): Mach.reg m o.B.toNat≠0/\m2=Mach.set m o.A.toNat (w64 ((Mach.reg m o.A.toNat).tdiv (Mach.reg m o.B.toNat)))/\n=m.at_+1:=by
 have hw:within o.Code 1 13=true:=by rw[hC];rfl
 have hw2:within 6 1 13=true:=rfl
 unfold Mach.doOp Mach.reckon at h
 cases hn:namedOk o with
 |false=>simp only[hw,hn,Bool.true_eq_false,if_true,if_false]at h;cases h
 |true=>
  by_cases hz:Mach.reg m o.B.toNat=0
  ·simp only[hw2,hn,hC,hz,Int.reduceEq,Bool.true_eq_false,if_true,if_false]at h
   cases h
  ·simp only[hw2,hn,hC,hz,Int.reduceEq,Bool.true_eq_false,if_true,if_false]at h
   cases h;exact⟨hz,rfl,rfl⟩
theorem doOp_7{o:Q0c}{m m2:Z0a}{n:Int}(h:Mach.doOp m o=.ok (m2,n))(hC:o.Code=7): within o.B 0 7=true/\m2=Mach.set m o.A.toNat (Mach.field m o.B.toNat)/\n=m.at_+1:=by
 have hw:within o.Code 1 13=true:=by rw[hC];rfl
 have hw2:within 7 1 13=true:=rfl
 unfold Mach.doOp Mach.reckon at h
 cases hn:namedOk o with
 |false=>simp only[hw,hn,Bool.true_eq_false,if_true,if_false]at h;cases h
 |true=>
  simp only[hw2,hn,hC,Int.reduceEq,Bool.true_eq_false,if_true,if_false]at h
  split at h
  ·cases h
  ·rename_i hq;cases h;exact⟨by simpa using hq,rfl,rfl⟩
theorem doOp_8{o:Q0c}{m m2:Z0a}{n:Int}(h:Mach.doOp m o=.ok (m2,n))(hC:o.Code=8): within o.A 0 3=true/\m2=Mach.put m o.A (Mach.reg m o.B.toNat)/\n=m.at_+1:=by
 have hw:within o.Code 1 13=true:=by rw[hC];rfl
 have hw2:within 8 1 13=true:=rfl
 unfold Mach.doOp Mach.reckon at h
 cases hn:namedOk o with
 |false=>simp only[hw,hn,Bool.true_eq_false,if_true,if_false]at h;cases h
 |true=>
  simp only[hw2,hn,hC,Int.reduceEq,Bool.true_eq_false,if_true,if_false]at h
  split at h
  ·cases h
  ·rename_i hq;cases h;exact⟨by simpa using hq,rfl,rfl⟩
theorem doOp_9{o:Q0c}{m m2:Z0a}{n:Int}(h:Mach.doOp m o=.ok (m2,n))(hC:o.Code=9): m2=m/\n=(if Mach.reg m o.A.toNat=0 then o.B else m.at_+1):=by
 have hw:within o.Code 1 13=true:=by rw[hC];rfl
 have hw2:within 9 1 13=true:=rfl
 unfold Mach.doOp Mach.reckon at h
 cases hn:namedOk o with
 |false=>simp only[hw,hn,Bool.true_eq_false,if_true,if_false]at h;cases h
 |true=>
  simp only[hw2,hn,hC,Int.reduceEq,Bool.true_eq_false,if_true,if_false]at h
  split at h
  ·rename_i hz
   split at h
   ·cases h
   ·cases h;exact⟨rfl,by rw[if_pos hz]⟩
  ·rename_i hz;cases h;exact⟨rfl,by rw[if_neg hz]⟩
theorem doOp_10{o:Q0c}{m m2:Z0a}{n:Int}(h:Mach.doOp m o=.ok (m2,n))(hC:o.Code=10): m2=m/\n=o.B:=by
 have hw:within o.Code 1 13=true:=by rw[hC];rfl
 have hw2:within 10 1 13=true:=rfl
 unfold Mach.doOp Mach.reckon at h
 cases hn:namedOk o with
 |false=>simp only[hw,hn,Bool.true_eq_false,if_true,if_false]at h;cases h
 |true=>
  simp only[hw2,hn,hC,Int.reduceEq,Bool.true_eq_false,if_true,if_false]at h
  split at h
  ·cases h
  ·cases h;exact⟨rfl,rfl⟩
theorem doOp_11{o:Q0c}{m m2:Z0a}{n:Int}(h:Mach.doOp m o=.ok (m2,n))(hC:o.Code=11): ¬Mach.reg m o.B.toNat<1/\m2=Mach.set {m with e_:={m.e_ with Dice:=(diceRoll m.e_.Dice (Mach.reg m o.B.toNat)).1}} o.A.toNat (diceRoll m.e_.Dice (Mach.reg m o.B.toNat)).2/\n=m.at_+1:=by
 have hw:within o.Code 1 13=true:=by rw[hC];rfl
 have hw2:within 11 1 13=true:=rfl
 unfold Mach.doOp Mach.reckon at h
 cases hn:namedOk o with
 |false=>simp only[hw,hn,Bool.true_eq_false,if_true,if_false]at h;cases h
 |true=>
  by_cases hz:Mach.reg m o.B.toNat<1
  ·simp only[hw2,hn,hC,hz,Int.reduceEq,Bool.true_eq_false,if_true,if_false]at h
   cases h
  ·simp only[hw2,hn,hC,hz,Int.reduceEq,Bool.true_eq_false,if_true,if_false]at h
   cases h;exact⟨hz,rfl,rfl⟩
theorem doOp_12{o:Q0c}{m m2:Z0a}{n:Int}(h:Mach.doOp m o=.ok (m2,n))(hC:o.Code=12): m2={m with e_:={m.e_ with Shots:=⟨.part,m.e_.Shots.l++[bodyShoot m.e_.Body (Mach.reg m o.A.toNat) (Mach.reg m o.B.toNat)],nofun⟩}}/\n=m.at_+1:=by
 have hw:within o.Code 1 13=true:=by rw[hC];rfl
 have hw2:within 12 1 13=true:=rfl
 unfold Mach.doOp Mach.reckon at h
 cases hn:namedOk o with
 |false=>simp only[hw,hn,Bool.true_eq_false,if_true,if_false]at h;cases h
 |true=>
  by_cases hz:(m.e_.Shots.l.length:Int)<m.e_.Room
  ·simp only[hw2,hn,hC,hz,Int.reduceEq,Bool.true_eq_false,if_true,if_false]at h
   cases h;exact⟨rfl,rfl⟩
  ·simp only[hw2,hn,hC,hz,Int.reduceEq,Bool.true_eq_false,if_true,if_false]at h
   cases h
theorem doOp_13{o:Q0c}{m m2:Z0a}{n:Int}(h:Mach.doOp m o=.ok (m2,n))(hC:o.Code=13): m2=m/\n=m.l_.l.length:=by
 have hw:within o.Code 1 13=true:=by rw[hC];rfl
 have hw2:within 13 1 13=true:=rfl
 unfold Mach.doOp Mach.reckon at h
 cases hn:namedOk o with
 |false=>simp only[hw,hn,Bool.true_eq_false,if_true,if_false]at h;cases h
 |true=>
  simp only[hw2,hn,hC,Int.reduceEq,Bool.true_eq_false,if_true,if_false]at h
  cases h;exact⟨rfl,rfl⟩
theorem doOp_n{o:Q0c}{m m2:Z0a}{n:Int}(h:Mach.doOp m o=.ok (m2,n)): namedOk o=true/\within o.Code 1 13=true:=by
 unfold Mach.doOp at h
 constructor
 ·cases hn:namedOk o with
  |true=>rfl
  |false=>rw[hn]at h;simp at h;split at h<;>cases h
 ·cases hn:within o.Code 1 13 with
  |true=>rfl
  |false=>rw[hn]at h;simp at h
def firstW{α:Type}(f:α->Bool): List α->Nat->Int
 |[],_=>-1
 |x::l,k=>if f x=true then k else firstW f l (k+1)
theorem Q1o{α:Type}(f:α->Bool): ∀(l:List α) (k:Nat),decide (0<=firstW f l k)=l.any f
 |[],k=>rfl
 |x::l,k=>by
  simp only[firstW,List.any_cons]
  by_cases h:f x=true
  ·simp[h]
  ·have:=Q1o f l (k+1);simp[h,<- this]
theorem V0s{α:Type}[Inhabited α]{l:List α}{k:Nat}(h:k<l.length): l.drop k=nth l k::l.drop (k+1):=by
 rw[Q0l h];exact List.drop_eq_getElem_cons h
def opRight(o:Q0c): Bool:=within o.Code 1 13&&within o.A (-1000000) 1000000&&within o.B (-1000000) 1000000
def ruleRight(l:List Q0c): Bool:=decide (l.length<=16)&&l.all opRight
theorem any_opRight(l:List Q0c): (l.any fun o=>!opRight o) = !l.all opRight:=by
 induction l with
 |nil=>rfl
 |cons x l ih=>simp[ih]
def bounce(a v:Int): Int×Int:=if brought a 0 4095=a then(a,v) else(brought a 0 4095,w64 (-v))
def bodyPush(b:Q0a)(x y:Int): Q0a:=
 if Body.right b=true/\b.Kind≠0 then {b with VX:=brought (b.VX+brought x (-1000) 1000) (-64) 64,VY:=brought (b.VY+brought y (-1000) 1000) (-64) 64} else Q0a.zero
def bodyMove(b:Q0a): Q0a×Bool:=
 if Body.right b=true/\b.Kind≠0 then
  if b.Kind=1 then({b with Age:=min (b.Age+1) 600,X:=(bounce (b.X+b.VX) b.VX).1,VX:=(bounce (b.X+b.VX) b.VX).2,Y:=(bounce (b.Y+b.VY) b.VY).1,VY:=(bounce (b.Y+b.VY) b.VY).2},true)
  else if 40<min (b.Age+1) 600\/within (b.X+b.VX) 0 4095=false\/within (b.Y+b.VY) 0 4095=false then(Q0a.zero,false)
  else({b with Age:=min (b.Age+1) 600,X:=b.X+b.VX,Y:=b.Y+b.VY},true)
 else(Q0a.zero,false)
def bodyStrikes(a b:Q0a): Bool:=
 Body.right a&&Body.right b&&decide (a.Kind=1)&&decide (b.Kind=2)&&decide (a.Owner≠b.Owner)&&within (a.X-b.X) (-32) 32&&within (a.Y-b.Y) (-32) 32
def bodyHit(a b:Q0a): Bool:=if a.Kind=2 then bodyStrikes b a else bodyStrikes a b
theorem Y0f{b:Q0a}(h:Body.right b=true)(hk:b.Kind≠0): (0<=b.Owner/\b.Owner<=7)/\(0<=b.X/\b.X<=4095)/\(0<=b.Y/\b.Y<=4095)/\(-64<=b.VX/\b.VX<=64)/\(-64<=b.VY/\b.VY<=64)/\(0<=b.Age/\b.Age<=600)/\(0<=b.Faults/\b.Faults<=65535)/\(b.Kind=1\/b.Kind=2):=by
 have r:=(K0h hk).1 h
 exact⟨r.2.2.1,r.2.2.2.1,r.2.2.2.2.1,r.2.2.2.2.2.1,r.2.2.2.2.2.2.1,r.2.2.2.2.2.2.2.1,r.2.2.2.2.2.2.2.2,r.2.1⟩
end Go.Proofs.Ytpchcfkebljopaa
end
section
namespace Go.Proofs.Ytpchcfkebljopaa
open Go.Cl Go Go.RowKit
set_option maxRecDepth 100000
set_option linter.constructorNameAsVariable false
def R106: Rel:=fun args p r=>∃(n lo hi:Int),args=[I n,I lo,I hi]/\r=.ret (Bo (within n lo hi)) p
theorem t106{T:XCall}(h:Has T 106 R106)(n lo hi:Int){p:Hp}:T 106 [I n,I lo,I hi] p=.ret (Bo (within n lo hi)) p:=h _ _ _ ⟨n,lo,hi,rfl,rfl⟩
theorem zq106{A B:Prop}(k:B)(h:A=B:=by have zy:=zA @zw106<|zA @rs106<|zA @tt3<|ti3.eq_1;exact zQ): A:=h▸k
theorem zno106{P:Prop}(h:P:=by intro jj;simp[CV.has,CV.hasL,fault,Z0b.nohas]): P:=h
theorem c106: Con C 106 R106:=by
 refine Q0e C ?_ ?_ ?_
 ·rintro args p r r' ⟨n,lo,hi,h,e⟩ ⟨n',lo',hi',h',e'⟩
  subst e;subst e';simp_all
 ·rintro args p r ⟨n,lo,hi,h,rfl⟩;exact zr1
 rintro args p r ⟨n,lo,hi,rfl,rfl⟩
 refine zW C false [] zT rfl xf106 zc106_ok fun call zh hF=>?_
 clear zh
 (have zx:=zT;refine zq106 ?_;try exact zT)
 repeat'(apply zK.s<;>intro hc<;>(try simp only[zhd]at hc)<;>(try have hw:=X0a hc)<;>(refine zq106 ?_;try exact zT))
 all_goals(try clear zx)
 all_goals refine K0d hF zle (Y0c ?_ (Z0c zno106))
 all_goals simp[within,hc]
def R206: Rel:=fun args p r=>∃(n lo hi:Int),args=[I n,I lo,I hi]/\r=.ret (I (brought n lo hi)) p
theorem t206{T:XCall}(h:Has T 206 R206)(n lo hi:Int){p:Hp}:T 206 [I n,I lo,I hi] p=.ret (I (brought n lo hi)) p:=h _ _ _ ⟨n,lo,hi,rfl,rfl⟩
theorem zq206{A B:Prop}(k:B)(h:A=B:=by have zy:=zA @zw206<|zA @rs206<|zA @tt3<|ti3.eq_1;exact zQ): A:=h▸k
theorem zno206{P:Prop}(h:P:=by intro jj;simp[CV.has,CV.hasL,fault,Z0b.nohas]): P:=h
theorem c206: Con C 206 R206:=by
 refine Q0e C ?_ ?_ ?_
 ·rintro args p r r' ⟨n,lo,hi,h,e⟩ ⟨n',lo',hi',h',e'⟩
  subst e;subst e';simp_all
 ·rintro args p r ⟨n,lo,hi,h,rfl⟩;exact zr1
 rintro args p r ⟨n,lo,hi,rfl,rfl⟩
 refine zW C false [] zT rfl xf206 zc206_ok fun call zh hF=>?_
 clear zh
 (have zx:=zT;refine zq206 ?_;clear zx;try exact zT)
 exact K0d hF zle (Y0c rfl (Z0c zno206))
def R198: Rel:=fun args p r=>∃(a v:Int),args=[I a,I v]/\r=.ret (.tup [I (bounce a v).1,I (bounce a v).2]) p
theorem t198{T:XCall}(h:Has T 198 R198)(a v:Int){p:Hp}:T 198 [I a,I v] p=.ret (.tup [I (bounce a v).1,I (bounce a v).2]) p:=h _ _ _ ⟨a,v,rfl,rfl⟩
theorem zq198{A B:Prop}(k:B)(h:A=B:=by have zy:=zA @zw198<|zA @rs198<|zA @tt3<|zA ti3.eq_1<|@t_140;exact zQ): A:=h▸k
theorem zno198{P:Prop}(h:P:=by intro jj;simp[CV.has,CV.hasL,fault,Z0b.nohas]): P:=h
theorem c198: Con C 198 R198:=by
 refine Q0e C ?_ ?_ ?_
 ·rintro args p r r' ⟨a,v,h,e⟩ ⟨a',v',h',e'⟩
  subst e;subst e';simp_all
 ·rintro args p r ⟨a,v,h,rfl⟩;exact zr1
 rintro args p r ⟨a,v,rfl,rfl⟩
 refine zW C false [(140,R140)] ⟨c140,zT⟩ rfl xf198 zc198_ok fun call zh hF=>?_
 have t_140:=@t140 _ zh.1
 clear zh
 (have zx:=zT;refine zq198 ?_;try exact zT)
 repeat'(apply zK.s<;>intro hc<;>(try simp only[zhd]at hc)<;>(try have hw:=X0a hc)<;>(refine zq198 ?_;try exact zT))
 all_goals(try clear zx)
 all_goals refine K0d hF zle (Y0c ?_ (Z0c zno198))
 all_goals simp[bounce,hc]
def R196: Rel:=fun args p r=>∃(b:Q0a) (x y:Int),args=[b.cv,I x,I y]/\r=.ret (bodyPush b x y).cv p
theorem t196{T:XCall}(h:Has T 196 R196)(b:Q0a)(x y:Int){p:Hp}:T 196 [b.cv,I x,I y] p=.ret (bodyPush b x y).cv p:=h _ _ _ ⟨b,x,y,rfl,rfl⟩
theorem zq196{A B:Prop}(k:B)(h:A=B:=by have zy:=zA @zw196<|zA @rs196<|zA @tt3<|zA @tt34<|zA ti3.eq_1<|zA ti34.eq_1<|zA @t_24<|zA @t_140<|@Z0d;exact zQ): A:=h▸k
theorem zno196{P:Prop}(h:P:=by intro jj;simp[CV.has,CV.hasL,fault,Z0b.nohas,Q0a.nohas]): P:=h
theorem c196: Con C 196 R196:=by
 refine Q0e C ?_ ?_ ?_
 ·rintro args p r r' ⟨b,x,y,h,e⟩ ⟨b',x',y',h',e'⟩
  subst e;subst e';simp_all[Q0a.inj_iff]
 ·rintro args p r ⟨b,x,y,h,rfl⟩;exact zr1
 rintro args p r ⟨b,x,y,rfl,rfl⟩
 refine zW C false [(24,R24),(140,R140)] ⟨c24,c140,zT⟩ rfl xf196 zc196_ok fun call zh hF=>?_
 have t_24:=@t24 _ zh.1
 have t_140:=@t140 _ zh.2.1
 clear zh
 have k1:=Z0e (n:=x) (lo:=-1000) (hi:=1000) (by omega)
 have k2:=Z0e (n:=y) (lo:=-1000) (hi:=1000) (by omega)
 by_cases hb:Body.right b=true
 ·by_cases hk:b.Kind=0
  ·(have zx:=zA hb hk;refine zq196 ?_;try exact zT)
   repeat'(apply zK.s<;>intro hc<;>(try simp only[zhd]at hc)<;>(try have hw:=X0a hc)<;>(refine zq196 ?_;try exact zT))
   all_goals(try clear zx)
   refine K0d hF zle (Y0c ?_ (Z0c zno196))
   simp[bodyPush,hb,hk];rfl
  ·have hr:=Y0f hb hk
   (have zx:=zA hb hk;refine zq196 ?_;try exact zT)
   repeat'(apply zK.s<;>intro hc<;>(try simp only[zhd]at hc)<;>(try have hw:=X0a hc)<;>(refine zq196 ?_;try exact zT))
   all_goals(try clear zx)
   refine K0d hF zle (Y0c ?_ (Z0c zno196))
   simp[bodyPush,hb,hk]
 ·(have zx:=hb;refine zq196 ?_;try exact zT)
  repeat'(apply zK.s<;>intro hc<;>(try simp only[zhd]at hc)<;>(try have hw:=X0a hc)<;>(refine zq196 ?_;try exact zT))
  all_goals(try clear zx)
  refine K0d hF zle (Y0c ?_ (Z0c zno196))
  simp[bodyPush,hb];rfl
def R178: Rel:=fun args p r=>∃(b:Q0a),args=[b.cv]/\r=.ret (.tup [(bodyMove b).1.cv,Bo (bodyMove b).2]) p
theorem t178{T:XCall}(h:Has T 178 R178)(b:Q0a){p:Hp}:T 178 [b.cv] p=.ret (.tup [(bodyMove b).1.cv,Bo (bodyMove b).2]) p:=h _ _ _ ⟨b,rfl,rfl⟩
theorem zq178{A B:Prop}(k:B)(h:A=B:=by have zy:=zA @zw178<|zA @rs178<|zA @tt3<|zA @tt34<|zA ti3.eq_1<|zA ti34.eq_1<|zA @t_24<|zA @t_71<|zA @t_198<|@Z0d;exact zQ): A:=h▸k
theorem zno178{P:Prop}(h:P:=by intro jj;simp[CV.has,CV.hasL,fault,Z0b.nohas,Q0a.nohas]): P:=h
theorem c178: Con C 178 R178:=by
 refine Q0e C ?_ ?_ ?_
 ·rintro args p r r' ⟨b,h,e⟩ ⟨b',h',e'⟩
  subst e;subst e';simp_all[Q0a.inj_iff]
 ·rintro args p r ⟨b,h,rfl⟩;exact zr1
 rintro args p r ⟨b,rfl,rfl⟩
 refine zW C false [(24,R24),(71,R71),(198,R198)] ⟨c24,c71,c198,zT⟩ rfl xf178 zc178_ok fun call zh hF=>?_
 have t_24:=@t24 _ zh.1
 have t_71:=@t71 _ zh.2.1
 have t_198:=@t198 _ zh.2.2.1
 clear zh
 by_cases hb:Body.right b=true
 ·by_cases hk:b.Kind=0
  ·(have zx:=zA hb hk;refine zq178 ?_;try exact zT)
   repeat'(apply zK.s<;>intro hc<;>(try simp only[zhd]at hc)<;>(try have hw:=X0a hc)<;>(refine zq178 ?_;try exact zT))
   all_goals(try clear zx)
   refine K0d hF zle (Y0c ?_ (Z0c zno178))
   simp[bodyMove,hb,hk];rfl
  ·have hr:=Y0f hb hk
   (have zx:=zA hb hk;refine zq178 ?_;try exact zT)
   repeat'(apply zK.s<;>intro hc<;>(try simp only[zhd]at hc)<;>(try have hw:=X0a hc)<;>(refine zq178 ?_;try exact zT))
   all_goals(try clear zx)
   all_goals refine K0d hF zle (Y0c ?_ (Z0c zno178))
   all_goals first|(simp[bodyMove,hb,hk, *];done)|(simp[bodyMove,hb,hk, *];rfl)
 ·(have zx:=hb;refine zq178 ?_;try exact zT)
  repeat'(apply zK.s<;>intro hc<;>(try simp only[zhd]at hc)<;>(try have hw:=X0a hc)<;>(refine zq178 ?_;try exact zT))
  all_goals(try clear zx)
  refine K0d hF zle (Y0c ?_ (Z0c zno178))
  simp[bodyMove,hb];rfl
def R199: Rel:=fun args p r=>∃(a b:Q0a),args=[a.cv,b.cv]/\r=.ret (Bo (bodyHit a b)) p
theorem t199{T:XCall}(h:Has T 199 R199)(a b:Q0a){p:Hp}:T 199 [a.cv,b.cv] p=.ret (Bo (bodyHit a b)) p:=h _ _ _ ⟨a,b,rfl,rfl⟩
theorem zq199{A B:Prop}(k:B)(h:A=B:=by have zy:=zA @zw199<|zA @rs199<|zA @tt3<|zA @tt34<|zA ti3.eq_1<|zA ti34.eq_1<|zA @t_24<|zA @t_71<|@Z0d;exact zQ): A:=h▸k
theorem zno199{P:Prop}(h:P:=by intro jj;simp[CV.has,CV.hasL,fault,Z0b.nohas,Q0a.nohas]): P:=h
theorem c199: Con C 199 R199:=by
 refine Q0e C ?_ ?_ ?_
 ·rintro args p r r' ⟨a,b,h,e⟩ ⟨a',b',h',e'⟩
  subst e;subst e';simp_all[Q0a.inj_iff]
 ·rintro args p r ⟨a,b,h,rfl⟩;exact zr1
 rintro args p r ⟨a,b,rfl,rfl⟩
 refine zW C false [(24,R24),(71,R71)] ⟨c24,c71,zT⟩ rfl xf199 zc199_ok fun call zh hF=>?_
 have t_24:=@t24 _ zh.1
 have t_71:=@t71 _ zh.2.1
 clear zh
 by_cases hk:a.Kind=2
 ·by_cases h1:Body.right b=true
  ·by_cases h2:Body.right a=true
   ·by_cases h3:b.Kind=1
    ·have r1:=Y0f h1 (by omega)
     have r2:=Y0f h2 (by omega)
     (have zx:=zA hk (zA h1 (zA h2 h3));refine zq199 ?_;try exact zT)
     repeat'(apply zK.s<;>intro hc<;>(try simp only[zhd]at hc)<;>(try have hw:=X0a hc)<;>(refine zq199 ?_;try exact zT))
     all_goals(try clear zx)
     all_goals refine K0d hF zle (Y0c ?_ (Z0c zno199))
     all_goals simp[bodyHit,bodyStrikes,hk, *]
    ·(have zx:=zA hk (zA h1 (zA h2 h3));refine zq199 ?_;try exact zT)
     repeat'(apply zK.s<;>intro hc<;>(try simp only[zhd]at hc)<;>(try have hw:=X0a hc)<;>(refine zq199 ?_;try exact zT))
     all_goals(try clear zx)
     all_goals refine K0d hF zle (Y0c ?_ (Z0c zno199))
     all_goals simp[bodyHit,bodyStrikes,hk, *]
   ·(have zx:=zA hk (zA h1 h2);refine zq199 ?_;try exact zT)
    repeat'(apply zK.s<;>intro hc<;>(try simp only[zhd]at hc)<;>(try have hw:=X0a hc)<;>(refine zq199 ?_;try exact zT))
    all_goals(try clear zx)
    all_goals refine K0d hF zle (Y0c ?_ (Z0c zno199))
    all_goals simp[bodyHit,bodyStrikes,hk, *]
  ·(have zx:=zA hk h1;refine zq199 ?_;try exact zT)
   repeat'(apply zK.s<;>intro hc<;>(try simp only[zhd]at hc)<;>(try have hw:=X0a hc)<;>(refine zq199 ?_;try exact zT))
   all_goals(try clear zx)
   all_goals refine K0d hF zle (Y0c ?_ (Z0c zno199))
   all_goals simp[bodyHit,bodyStrikes,hk, *]
 ·by_cases h1:Body.right a=true
  ·by_cases h2:Body.right b=true
   ·by_cases h3:a.Kind=1
    ·by_cases h4:b.Kind=2
     ·have r1:=Y0f h1 (by omega)
      have r2:=Y0f h2 (by omega)
      (have zx:=zA hk (zA h1 (zA h2 (zA h3 h4)));refine zq199 ?_;try exact zT)
      repeat'(apply zK.s<;>intro hc<;>(try simp only[zhd]at hc)<;>(try have hw:=X0a hc)<;>(refine zq199 ?_;try exact zT))
      all_goals(try clear zx)
      all_goals refine K0d hF zle (Y0c ?_ (Z0c zno199))
      all_goals simp[bodyHit,bodyStrikes, *]
     ·(have zx:=zA hk (zA h1 (zA h2 (zA h3 h4)));refine zq199 ?_;try exact zT)
      repeat'(apply zK.s<;>intro hc<;>(try simp only[zhd]at hc)<;>(try have hw:=X0a hc)<;>(refine zq199 ?_;try exact zT))
      all_goals(try clear zx)
      all_goals refine K0d hF zle (Y0c ?_ (Z0c zno199))
      all_goals simp[bodyHit,bodyStrikes, *]
    ·(have zx:=zA hk (zA h1 (zA h2 h3));refine zq199 ?_;try exact zT)
     repeat'(apply zK.s<;>intro hc<;>(try simp only[zhd]at hc)<;>(try have hw:=X0a hc)<;>(refine zq199 ?_;try exact zT))
     all_goals(try clear zx)
     all_goals refine K0d hF zle (Y0c ?_ (Z0c zno199))
     all_goals simp[bodyHit,bodyStrikes, *]
   ·(have zx:=zA hk (zA h1 h2);refine zq199 ?_;try exact zT)
    repeat'(apply zK.s<;>intro hc<;>(try simp only[zhd]at hc)<;>(try have hw:=X0a hc)<;>(refine zq199 ?_;try exact zT))
    all_goals(try clear zx)
    all_goals refine K0d hF zle (Y0c ?_ (Z0c zno199))
    all_goals simp[bodyHit,bodyStrikes, *]
  ·(have zx:=zA hk h1;refine zq199 ?_;try exact zT)
   repeat'(apply zK.s<;>intro hc<;>(try simp only[zhd]at hc)<;>(try have hw:=X0a hc)<;>(refine zq199 ?_;try exact zT))
   all_goals(try clear zx)
   all_goals refine K0d hF zle (Y0c ?_ (Z0c zno199))
   all_goals simp[bodyHit,bodyStrikes, *]
end Go.Proofs.Ytpchcfkebljopaa
end
section
namespace Go.Proofs.Ytpchcfkebljopaa
open Go.Cl Go Go.RowKit
abbrev f64:=FloatKind.f64.format
def nanF(n:Nat): Bool:=f64.order n n != some .eq
def absF(n:Nat): Nat:=(IntKind.u64.wrap (BitVec.ofInt IntKind.u64.bits (n:Int) &&&~~~BitVec.ofInt IntKind.u64.bits (9223372036854775808:Int)).toNat).toNat
def infF(n:Nat): Bool:=f64.order (absF n) 9218868437227405311==some .gt
def oddF(n:Nat): Bool:=nanF n || infF n
def bucketOk(r d:Nat): Bool:=!(oddF r || oddF d || (f64.order r 0==some .lt) || (f64.order d 4607182418800017408==some .lt) || (f64.order d 4652007308841189376==some .gt))
def seedOf(n:Int): Int:=IntKind.u64.wrap (IntKind.u64.wrap (IntKind.u64.wrap n*2)+1)
def tokGo(seen:List Int): List Int->Bool
 |[]=>true
 |n::l=>within n 0 2147483646&&!seen.contains n&&tokGo (seen++[n]) l
def legalC(c:K0a): Bool:=
 within c.Players 1 8&&(within c.Period 1 8&&within c.Grace 0 60&&within c.Start 0 100&&within c.Frames 1 600)&&within c.Seed 0 2147483647&&bucketOk c.Rate c.Depth&&ruleRight c.Rules.l&&(tokGo [] c.Tokens.l&&decide ((c.Tokens.l.length:Int)=c.Players))
def rightAt(players:Int)(k:Nat)(b:Q0a): Bool:=
 Body.right b&&(if(k:Int)<players then decide (b.Kind=1)&&decide (b.Owner=k)else decide (b.Kind=0) || decide (b.Kind=2)&&decide (b.Owner<players))
def scoreAt(players:Int)(k:Nat)(n:Int): Bool:=within n 0 2147483647&&!(decide (players<=k)&&decide (n≠0))
def allFrom{α:Type}(f:Nat->α->Bool): List α->Nat->Bool
 |[],_=>true
 |x::l,k=>f k x&&allFrom f l (k+1)
def stateRight(c:K0a)(s:Y0a): Bool:=
 allFrom (rightAt c.Players) s.Bodies 0&&allFrom (scoreAt c.Players) s.Score 0&&legalC c&&within s.Frame 0 600
def freeN(l:List Q0a): Nat:=(l.filter fun b=>decide (b.Kind=0)).length
def clampIn(x:K0b): K0b:=⟨brought x.Buttons 0 255,brought x.X (-64) 64,brought x.Y (-64) 64⟩
def rowInput(row:List Q0b)(o:Int): K0b:=if(row.length:Int)<=o then K0b.zero else clampIn (nth row o.toNat).In
structure Turn where
 dice:Int
 shots:List Q0a
 body:Q0a
def playerEnv(row:List Q0b)(dice room:Int)(b:Q0a): K0c:=
 ⟨bodyPush b ((rowInput row b.Owner).X.tdiv 16) ((rowInput row b.Owner).Y.tdiv 16),rowInput row b.Owner,dice,room,⟨.nil,[],fun _=>rfl⟩⟩
def playerTurn(rules:List Q0c)(row:List Q0b)(dice room:Int)(b:Q0a): Turn:=
 if(runL rules (playerEnv row dice room b)).2.2=true then⟨(runL rules (playerEnv row dice room b)).1.Dice,(runL rules (playerEnv row dice room b)).1.Shots.l,(runL rules (playerEnv row dice room b)).1.Body⟩
 else⟨dice,[],{b with Faults:=min (b.Faults+1) 65535}⟩
def bodyTurn(rules:List Q0c)(row:List Q0b)(dice room:Int)(b:Q0a): Turn:=
 if b.Kind=1 then playerTurn rules row dice room b else⟨dice,[],b⟩
def turnStep(rules:List Q0c)(row:List Q0b)(was:List Q0a)(st:Y0a×List Q0a)(k:Nat): Y0a×List Q0a:=
 let t:=bodyTurn rules row st.1.Dice (freeN st.1.Bodies-st.2.length) (nth was k)
 (({st.1 with Dice:=t.dice}:Y0a).put_2k k (bodyMove t.body).1,st.2++t.shots)
def turnsS(rules:List Q0c)(row:List Q0b)(s:Y0a): Nat->Y0a×List Q0a
 |0=>(s,[])
 |k+1=>turnStep rules row s.Bodies (turnsS rules row s k) k
def setStep(st:Y0a×List Q0a)(k:Nat): Y0a×List Q0a:=
 match st.2 with
 |[]=>st
 |x::sh=>if(nth st.1.Bodies k).Kind=0 then(st.1.put_2k k x,sh)else st
def setsS(st:Y0a×List Q0a): Nat->Y0a×List Q0a
 |0=>st
 |k+1=>setStep (setsS st k) k
def struckL(bodies:List Q0a)(shot:Q0a): Int:=firstW (fun b=>decide (b.Kind=1)&&bodyHit b shot) bodies 0
def again(players:Int)(v:Q0a): Q0a:={bodyBorn v.Owner players with Faults:=v.Faults}
def hitStep(players:Int)(s:Y0a)(k:Nat): Y0a:=
 let shot:=nth s.Bodies k
 if shot.Kind≠2 then s else
 let at_:=struckL s.Bodies shot
 if at_<0 then s else
 let s2:=(s.put_3k shot.Owner.toNat (min (nth s.Score shot.Owner.toNat+1) 2147483647)).put_2k k Q0a.zero
 s2.put_2k at_.toNat (again players (nth s2.Bodies at_.toNat))
def hitsS(players:Int)(s:Y0a): Nat->Y0a
 |0=>s
 |k+1=>hitStep players (hitsS players s k) k
def stepS(c:K0a)(row:List Q0b)(s:Y0a): Y0a:=
 if stateRight c s=false then Y0a.zero else
 let h:=hitsS c.Players (setsS (turnsS c.Rules.l row s 16) 16).1 16
 {h with Frame:=min (h.Frame+1) 600}
def gameFold(c:K0a)(rows:List (List Q0b))(s:Y0a): Y0a:=rows.foldl (fun s row=>stepS c row s) s
theorem Q07{α:Type}[Inhabited α](f:Nat->α->Bool): ∀(l:List α) (k:Nat),allFrom f l k=true ↔ ∀j,j<l.length->f (k+j) (nth l j)=true
 |[],k=>by simp[allFrom]
 |x::l,k=>by
  simp only[allFrom,Bool.and_eq_true,Q07 f l (k+1),List.length_cons]
  constructor
  ·rintro⟨h1,h2⟩ j hj
   cases j with
   |zero=>simpa[nth]using h1
   |succ j=>have:=h2 j (by omega);rw[show k+(j+1)=k+1+j by omega];simpa[nth]using this
  ·intro h
   refine⟨by simpa[nth]using h 0 (by omega),fun j hj=>?_⟩
   have:=h (j+1) (by omega)
   rw[show k+(j+1)=k+1+j by omega]at this;simpa[nth]using this
theorem K0s{α:Type}[Inhabited α](f:Nat->α->Bool){l:List α}{k:Nat}(h:k<l.length): allFrom f (l.drop k) k=(f k (nth l k)&&allFrom f (l.drop (k+1)) (k+1)):=by
 rw[V0s h];rfl
end Go.Proofs.Ytpchcfkebljopaa
end
section
namespace Go.Proofs.Ytpchcfkebljopaa
open Go.Cl Go Go.RowKit
set_option maxRecDepth 100000
set_option linter.constructorNameAsVariable false
def extF: FuncId->List CV->Option CV:=extBits 209 208
theorem ext_a: ExtFn C.P 209 Extern.MathFloatBits.float64bits:=⟨Try.f209,Try.func209,by kernel_rfl,by kernel_rfl,by kernel_rfl,by kernel_rfl⟩
theorem ext_b: ExtFn C.P 208 Extern.MathFloatBits.float64frombits:=⟨Try.f208,Try.func208,by kernel_rfl,by kernel_rfl,by kernel_rfl,by kernel_rfl⟩
theorem ext_ok: ExtOk C extF:=extBits_ok ext_a ext_b
theorem extF_a(n:Nat): extF 209 [Fl n]=some (U n):=rfl
theorem extF_b(n:Int): extF 208 [U n]=some (Fl n.toNat):=rfl
def R193: Rel:=fun args p r=>∃(n:Nat),args=[Fl n]/\r=.ret (Bo (nanF n)) p
theorem t193{T:XCall}(h:Has T 193 R193)(n:Nat){p:Hp}:T 193 [Fl n] p=.ret (Bo (nanF n)) p:=h _ _ _ ⟨n,rfl,rfl⟩
theorem zq193{A B:Prop}(k:B)(h:A=B:=by have zy:=zA @zw193<|zA @rs193<|zA @tt59<|ti59.eq_1;exact zQf): A:=h▸k
theorem zno193{P:Prop}(h:P:=by intro jj;simp[CV.has,CV.hasL,fault,Z0b.nohas]): P:=h
theorem c193: Con C 193 R193:=by
 refine Q0e C ?_ ?_ ?_
 ·rintro args p r r' ⟨n,h,e⟩ ⟨n',h',e'⟩
  subst e;subst e';simp_all
 ·rintro args p r ⟨n,h,rfl⟩;exact zr1
 rintro args p r ⟨n,rfl,rfl⟩
 refine zW C false [] zT rfl xf193 zc193_ok fun call zh hF=>?_
 clear zh
 (have zx:=zT;refine zq193 ?_;try exact zT)
 repeat'(apply zK.s<;>intro hc<;>(try simp only[zhd]at hc)<;>(try have hw:=X0a hc)<;>(refine zq193 ?_;try exact zT))
 all_goals(try clear zx)
 exact K0d hF zle (Y0c rfl (Z0c zno193))
def R205: Rel:=fun args p r=>∃(n:Nat),args=[Fl n]/\r=.ret (Fl (absF n)) p
theorem t205{T:XCall}(h:Has T 205 R205)(n:Nat){p:Hp}:T 205 [Fl n] p=.ret (Fl (absF n)) p:=h _ _ _ ⟨n,rfl,rfl⟩
theorem zq205{A B:Prop}(k:B)(h:A=B:=by have zy:=zA @zw205<|zA @rs205<|zA @tt25<|zA ti25.eq_1<|zA @extF_a<|@extF_b;exact zQ): A:=h▸k
theorem zno205{P:Prop}(h:P:=by intro jj;simp[CV.has,CV.hasL,fault,Z0b.nohas]): P:=h
theorem c205: Con C 205 R205:=by
 refine Q0e C ?_ ?_ ?_
 ·rintro args p r r' ⟨n,h,e⟩ ⟨n',h',e'⟩
  subst e;subst e';simp_all
 ·rintro args p r ⟨n,h,rfl⟩;exact zr1
 rintro args p r ⟨n,rfl,rfl⟩
 refine ans_walk C false extF (tabL C []) xf205 ext_ok (Y03 C _) zc205_ok (Nat.le_of_ble_eq_true (by kernel_rfl)) fun hF=>?_
 generalize tabL C []=call
 show W C false extF call zc205 (argE [Fl n]) p (endQ C _ _)
 (have zx:=zT;refine zq205 ?_;try exact zT)
 repeat'(apply zK.s<;>intro hc<;>(try simp only[zhd]at hc)<;>(try have hw:=X0a hc)<;>(refine zq205 ?_;try exact zT))
 all_goals(try clear zx)
 exact K0d hF zle (Y0c rfl (Z0c zno205))
def R194: Rel:=fun args p r=>∃(n:Nat),args=[Fl n,I 0]/\r=.ret (Bo (infF n)) p
theorem t194{T:XCall}(h:Has T 194 R194)(n:Nat){p:Hp}:T 194 [Fl n,I 0] p=.ret (Bo (infF n)) p:=h _ _ _ ⟨n,rfl,rfl⟩
theorem zq194{A B:Prop}(k:B)(h:A=B:=by have zy:=zA @zw194<|zA @rs194<|zA @tt3<|zA @tt59<|zA ti3.eq_1<|zA ti59.eq_1<|@t_205;exact zQf): A:=h▸k
theorem zno194{P:Prop}(h:P:=by intro jj;simp[CV.has,CV.hasL,fault,Z0b.nohas]): P:=h
theorem c194: Con C 194 R194:=by
 refine Q0e C ?_ ?_ ?_
 ·rintro args p r r' ⟨n,h,e⟩ ⟨n',h',e'⟩
  subst e;subst e';simp_all
 ·rintro args p r ⟨n,h,rfl⟩;exact zr1
 rintro args p r ⟨n,rfl,rfl⟩
 refine zW C false [(205,R205)] ⟨c205,zT⟩ rfl xf194 zc194_ok fun call zh hF=>?_
 have t_205:=@t205 _ zh.1
 clear zh
 (have zx:=zT;refine zq194 ?_;try exact zT)
 repeat'(apply zK.s<;>intro hc<;>(try simp only[zhd]at hc)<;>(try have hw:=X0a hc)<;>(refine zq194 ?_;try exact zT))
 all_goals(try clear zx)
 exact K0d hF zle (Y0c rfl (Z0c zno194))
def R176: Rel:=fun args p r=>∃(n:Nat),args=[Fl n]/\r=.ret (Bo (oddF n)) p
theorem t176{T:XCall}(h:Has T 176 R176)(n:Nat){p:Hp}:T 176 [Fl n] p=.ret (Bo (oddF n)) p:=h _ _ _ ⟨n,rfl,rfl⟩
theorem zq176{A B:Prop}(k:B)(h:A=B:=by have zy:=zA @zw176<|zA @rs176<|zA @t_193<|@t_194;exact zQ): A:=h▸k
theorem zno176{P:Prop}(h:P:=by intro jj;simp[CV.has,CV.hasL,fault,Z0b.nohas]): P:=h
theorem c176: Con C 176 R176:=by
 refine Q0e C ?_ ?_ ?_
 ·rintro args p r r' ⟨n,h,e⟩ ⟨n',h',e'⟩
  subst e;subst e';simp_all
 ·rintro args p r ⟨n,h,rfl⟩;exact zr1
 rintro args p r ⟨n,rfl,rfl⟩
 refine zW C false [(193,R193),(194,R194)] ⟨c193,c194,zT⟩ rfl xf176 zc176_ok fun call zh hF=>?_
 have t_193:=@t193 _ zh.1
 have t_194:=@t194 _ zh.2.1
 clear zh
 (have zx:=zT;refine zq176 ?_;try exact zT)
 repeat'(apply zK.s<;>intro hc<;>(try simp only[zhd]at hc)<;>(try have hw:=X0a hc)<;>(refine zq176 ?_;try exact zT))
 all_goals(try clear zx)
 all_goals refine K0d hF zle (Y0c ?_ (Z0c zno176))
 all_goals simp[oddF,hc]
def R133: Rel:=fun args p r=>∃(n:Int),args=[I n]/\r=.ret (U (seedOf n)) p
theorem t133{T:XCall}(h:Has T 133 R133)(n:Int){p:Hp}:T 133 [I n] p=.ret (U (seedOf n)) p:=h _ _ _ ⟨n,rfl,rfl⟩
theorem zq133{A B:Prop}(k:B)(h:A=B:=by have zy:=zA @zw133<|zA @rs133<|zA @tt3<|zA @tt25<|zA ti3.eq_1<|ti25.eq_1;exact zQ): A:=h▸k
theorem zno133{P:Prop}(h:P:=by intro jj;simp[CV.has,CV.hasL,fault,Z0b.nohas]): P:=h
theorem c133: Con C 133 R133:=by
 refine Q0e C ?_ ?_ ?_
 ·rintro args p r r' ⟨n,h,e⟩ ⟨n',h',e'⟩
  subst e;subst e';simp_all
 ·rintro args p r ⟨n,h,rfl⟩;exact zr1
 rintro args p r ⟨n,rfl,rfl⟩
 refine zW C false [] zT rfl xf133 zc133_ok fun call zh hF=>?_
 clear zh
 (have zx:=zT;refine zq133 ?_;try exact zT)
 repeat'(apply zK.s<;>intro hc<;>(try simp only[zhd]at hc)<;>(try have hw:=X0a hc)<;>(refine zq133 ?_;try exact zT))
 all_goals(try clear zx)
 exact K0d hF zle (Y0c rfl (Z0c zno133))
def R135: Rel:=fun args p r=>∃(ra de:Nat),args=[Fl ra,Fl de]/\r=(if bucketOk ra de=true then .ret (.tup [.ptr p.n [],I 0]) (p.bump 1)else .ret (.tup [.sc (.pointer none),I 1]) p)
theorem t135{T:XCall}(h:Has T 135 R135)(ra de:Nat){p:Hp}:T 135 [Fl ra,Fl de] p=(if bucketOk ra de=true then .ret (.tup [.ptr p.n [],I 0]) (p.bump 1)else .ret (.tup [.sc (.pointer none),I 1]) p):=h _ _ _ ⟨ra,de,rfl,rfl⟩
theorem zq135{A B:Prop}(k:B)(h:A=B:=by have zy:=zA @zw135<|zA @rs135<|zA @tt59<|zA @tt223<|zA ti59.eq_1<|zA ti223.eq_1<|zA @t_176<|@Z08;exact zQf): A:=h▸k
theorem zno135{P:Prop}(h:P:=by intro jj;simp[CV.has,CV.hasL,fault,Z0b.nohas,Y0b.nohas]): P:=h
theorem c135: Con C 135 R135:=by
 refine Q0e C ?_ ?_ ?_
 ·rintro args p r r' ⟨ra,de,h,e⟩ ⟨ra',de',h',e'⟩
  subst e;subst e';simp_all[Y0b.inj_iff]
 ·rintro args p r ⟨ra,de,h,rfl⟩;exact zr1
 rintro args p r ⟨ra,de,rfl,rfl⟩
 refine zW C false [(176,R176)] ⟨c176,zT⟩ rfl xf135 zc135_ok fun call zh hF=>?_
 have t_176:=@t176 _ zh.1
 clear zh
 (have zx:=zT;refine zq135 ?_;try exact zT)
 repeat'(apply zK.s<;>intro hc<;>(try simp only[zhd]at hc)<;>(try have hw:=X0a hc)<;>(refine zq135 ?_;try exact zT))
 all_goals(try clear zx)
 all_goals first
  |(rw[if_neg (by simp[bucketOk, *])];exact K0d hF zle (Y0c rfl (Z0c zno135)))
  |(rw[if_pos (by simp[bucketOk, *])];exact X1n (Nat.le_succ _) (fun k o h=>⟨Nat.lt_succ_of_lt (hF.dom k o h),.inl ⟨hF.dom k o h,h,by rw[Hp.get_new_ne _ _ (Nat.ne_of_lt (hF.dom k o h))];exact h⟩⟩) (Y0c rfl (fun j hj=>by simp[CV.has,CV.hasL]at hj;subst hj;exact Nat.lt_succ_self _)))
def R105: Rel:=fun args p r=>∃(c:K0a) (k:Int) (b:Q0a),args=[c.cv,I k,b.cv]/\(0<=k)/\r=.ret (Bo (rightAt c.Players k.toNat b)) p
theorem t105{T:XCall}(h:Has T 105 R105)(c:K0a)(k:Int)(b:Q0a){p:Hp}(h1:0<=k): T 105 [c.cv,I k,b.cv] p=.ret (Bo (rightAt c.Players k.toNat b)) p:=h _ _ _ ⟨c,k,b,rfl,h1,rfl⟩
theorem zq105{A B:Prop}(k:B)(h:A=B:=by have zy:=zA @zw105<|zA @rs105<|zA @tt3<|zA @tt34<|zA @tt61<|zA ti3.eq_1<|zA ti34.eq_1<|zA ti61.eq_1<|zA @t_24<|zA @X0e<|zA @Z0d<|@h1;exact zQ): A:=h▸k
theorem zno105{P:Prop}(h:P:=by intro jj;simp[CV.has,CV.hasL,fault,Z0b.nohas,Q0a.nohas]): P:=h
theorem c105: Con C 105 R105:=by
 refine Q0e C ?_ ?_ ?_
 ·rintro args p r r' ⟨c,k,b,h,h1,e⟩ ⟨c',k',b',h',h1',e'⟩
  subst e;subst e';simp_all[K0a.inj_iff,Q0a.inj_iff]
 ·rintro args p r ⟨c,k,b,h,h1,rfl⟩;exact zr1
 rintro args p r ⟨c,k,b,rfl,h1,rfl⟩
 refine zW C false [(24,R24)] ⟨c24,zT⟩ rfl xf105 zc105_ok fun call zh hF=>?_
 have t_24:=@t24 _ zh.1
 clear zh
 have hk:((k.toNat:Nat):Int)=k:=by omega
 cases hb:Body.right b with
 |false=>
  (have zx:=hb;refine zq105 ?_;try exact zT)
  repeat'(apply zK.s<;>intro hc<;>(try simp only[zhd]at hc)<;>(try have hw:=X0a hc)<;>(refine zq105 ?_;try exact zT))
  all_goals(try clear zx)
  refine K0d hF zle (Y0c ?_ (Z0c zno105))
  simp[rightAt,hb]
 |true=>
  (have zx:=hb;refine zq105 ?_;try exact zT)
  repeat'(apply zK.s<;>intro hc<;>(try simp only[zhd]at hc)<;>(try have hw:=X0a hc)<;>(refine zq105 ?_;try exact zT))
  all_goals(try clear zx)
  all_goals refine K0d hF zle (Y0c ?_ (Z0c zno105))
  all_goals simp[rightAt,hb,hk, *]
def R195: Rel:=fun args p r=>∃(i:Nat) (f:X0b) (o:Int),args=[.ptr i [],I o]/\(p.t.get i=some (.var sh186 f.cv))/\(0<=o)/\r=.ret (rowInput f.row.l o).cv p
theorem t195{T:XCall}(h:Has T 195 R195)(i:Nat)(f:X0b)(o:Int){p:Hp}(h1:p.t.get i=some (.var sh186 f.cv))(h2:0<=o): T 195 [.ptr i [],I o] p=.ret (rowInput f.row.l o).cv p:=h _ _ _ ⟨i,f,o,rfl,h1,h2,rfl⟩
theorem zq195{A B:Prop}(k:B)(h:A=B:=by have zy:=zA @zw195<|zA @rs195<|zA @tt3<|zA @tt36<|zA @tt108<|zA @tt110<|zA @tt186<|zA ti3.eq_1<|zA ti36.eq_1<|zA ti108.eq_1<|zA ti110.eq_1<|zA ti186.eq_1<|zA @t_206<|zA @Z0i<|zA @Q0h<|zA @Z0m<|zA @zsl108<|zA @h1<|@h2;exact zQ): A:=h▸k
theorem zno195{P:Prop}(h:P:=by intro jj;simp[CV.has,CV.hasL,fault,Z0b.nohas,K0b.nohas,Q0b.nohas]): P:=h
theorem c195: Con C 195 R195:=by
 refine Q0e C ?_ ?_ ?_
 ·rintro args p r r' ⟨i,f,o,h,h1,h2,e⟩ ⟨i',f',o',h',h1',h2',e'⟩
  subst e;subst e';simp_all[X0b.inj_iff,K0b.inj_iff,Q0b.inj_iff,X0p]
 ·rintro args p r ⟨i,f,o,h,h1,h2,rfl⟩;exact zr1
 rintro args p r ⟨i,f,o,rfl,h1,h2,rfl⟩
 refine zW C false [(206,R206)] ⟨c206,zT⟩ rfl xf195 zc195_ok fun call zh hF=>?_
 have t_206:=@t206 _ zh.1
 clear zh
 have hd_h1:=hF.dom _ _ h1
 by_cases h:(f.row.l.length:Int)<=o
 ·(have zx:=zA h h1;refine zq195 ?_;try exact zT)
  repeat'(apply zK.s<;>intro hc<;>(try simp only[zhd]at hc)<;>(try have hw:=X0a hc)<;>(refine zq195 ?_;try exact zT))
  all_goals(try clear zx)
  refine K0d hF zle (Y0c ?_ (Z0c zno195))
  simp[rowInput,h];rfl
 ·(have zx:=zA h h1;refine zq195 ?_;try exact zT)
  repeat'(apply zK.s<;>intro hc<;>(try simp only[zhd]at hc)<;>(try have hw:=X0a hc)<;>(refine zq195 ?_;try exact zT))
  all_goals(try clear zx)
  refine K0d hF zle (Y0c ?_ (Z0c zno195))
  simp[rowInput,h];rfl
theorem Y1p{l:List Q0a}{k:Nat}(h:k<l.length): freeN (l.take (k+1))=if(nth l k).Kind=0 then freeN (l.take k)+1 else freeN (l.take k):=by
 unfold freeN
 rw[List.take_add_one,Q0w h,List.filter_append,List.length_append]
 by_cases hk:(nth l k).Kind=0<;>simp[hk]
def frRoom(f:X0b): Int:=freeN f.s_.Bodies-f.shots.l.length
def J197(i:Nat)(f:X0b)(p:Hp)(n:Nat)(ρ:Env)(q:Hp): Prop:=
 ∃(k:Nat),n=16-k/\k<=16/\ρ 0=.ptr i []/\ρ 3=I (freeN (f.s_.Bodies.take k))/\ρ 10=.agg (f.s_.Bodies.map Q0a.cv)/\ρ 11=I k/\q.t.get i=some (.var sh186 f.cv)/\freeN (f.s_.Bodies.take k)<=k/\p.n<=q.n/\HpLe p q
def R197: Rel:=fun args p r=>∃(i:Nat) (f:X0b),args=[.ptr i []]/\(p.t.get i=some (.var sh186 f.cv))/\(f.shots.l.length<=1000000)/\r=.ret (I (frRoom f)) p
theorem t197{T:XCall}(h:Has T 197 R197)(i:Nat)(f:X0b){p:Hp}(h1:p.t.get i=some (.var sh186 f.cv))(h2:f.shots.l.length<=1000000): T 197 [.ptr i []] p=.ret (I (frRoom f)) p:=h _ _ _ ⟨i,f,rfl,h1,h2,rfl⟩
theorem zq197{A B:Prop}(k:B)(h:A=B:=by have zy:=zA @zw197<|zA @rs197<|zA @tt3<|zA @tt34<|zA @tt37<|zA @tt63<|zA @tt66<|zA @tt186<|zA ti3.eq_1<|zA ti34.eq_1<|zA ti37.eq_1<|zA ti63.eq_1<|zA ti66.eq_1<|zA ti186.eq_1<|zA @Z0i<|zA @Q0f<|zA @Z0d<|zA @zsl37<|zA @zsl63<|zA @h1<|@h2;exact zQ): A:=h▸k
theorem zno197{P:Prop}(h:P:=by intro jj;simp[CV.has,CV.hasL,fault,Z0b.nohas,Y0a.nohas,Q0a.nohas]): P:=h
theorem c197: Con C 197 R197:=by
 refine Q0e C ?_ ?_ ?_
 ·rintro args p r r' ⟨i,f,h,h1,h2,e⟩ ⟨i',f',h',h1',h2',e'⟩
  subst e;subst e';simp_all[X0b.inj_iff,Y0a.inj_iff,Q0a.inj_iff,X0q]
 ·rintro args p r ⟨i,f,h,h1,h2,rfl⟩;exact zr1
 rintro args p r ⟨i,f,rfl,h1,h2,rfl⟩
 refine zW C false [] zT rfl xf197 zc197_ok fun call zh hF=>?_
 clear zh
 have hd_h1:=hF.dom _ _ h1
 have hb:=f.s_.hBodies
 (have zx:=h1;refine zq197 ?_;try exact zT)
 repeat'(apply zK.s<;>intro hc<;>(try simp only[zhd]at hc)<;>(try have hw:=X0a hc)<;>(refine zq197 ?_;try exact zT))
 all_goals(try clear zx)
 (show W C false noExt call (ZC.loop Q1z) _ _ _);refine V0i C false noExt call Q1z _ _ _ (J197 i f p) 16 ⟨0,rfl,by omega,(by simp[put_at,Q0d,K0e]),by simp[put_at,Q0d,freeN],(by simp[put_at,Q0d,K0e]),(by simp[put_at,Q0d,K0e]),h1,by simp[freeN],Nat.le_refl _,zle⟩ ?_
 rintro n ρ q ⟨k,rfl,hk,e0,e3,e10,e11,g1,hfr,hn,hle⟩
 have hi:i<q.n:=Nat.lt_of_lt_of_le hd_h1 hn
 by_cases hlt:(k:Int)<16
 ·have hs:=Y1p (l:=f.s_.Bodies) (k:=k) (by omega)
  by_cases h0:(nth f.s_.Bodies k).Kind=0
  ·rw[if_pos h0]at hs
   (have zx:=zA e0 (zA e3 (zA e10 (zA e11 (zA g1 (zA hlt (zA h0 h1))))));refine zq197 ?_;try exact zT)
   repeat'(apply zK.s<;>intro hc<;>(try simp only[zhd]at hc)<;>(try have hw:=X0a hc)<;>(refine zq197 ?_;try exact zT))
   all_goals(try clear zx)
   exact⟨16-(k+1),by omega,k+1,rfl,by omega,zev,by simp[put_at,Q0d,hs],zev,zev,(by simp (disch:=(first|omega|(simp only[Hp.znew_n];omega))) only[Hp.get_set_ne,Hp.get_new_ne,g1]),by omega,(by simp only[Hp.znew_n,Hp.zset_n];omega),zlq⟩
  ·rw[if_neg h0]at hs
   (have zx:=zA e0 (zA e3 (zA e10 (zA e11 (zA g1 (zA hlt (zA h0 h1))))));refine zq197 ?_;try exact zT)
   repeat'(apply zK.s<;>intro hc<;>(try simp only[zhd]at hc)<;>(try have hw:=X0a hc)<;>(refine zq197 ?_;try exact zT))
   all_goals(try clear zx)
   exact⟨16-(k+1),by omega,k+1,rfl,by omega,zev,by simp[put_at,Q0d,e3,hs],zev,zev,(by simp (disch:=(first|omega|(simp only[Hp.znew_n];omega))) only[Hp.get_set_ne,Hp.get_new_ne,g1]),by omega,(by simp only[Hp.znew_n,Hp.zset_n];omega),zlq⟩
 ·have hk16:k=16:=by omega
  subst hk16
  have ht:f.s_.Bodies.take 16=f.s_.Bodies:=List.take_of_length_le (by omega)
  rw[ht]at e3 hfr
  (have zx:=zA e0 (zA e3 (zA e10 (zA e11 (zA g1 (zA hlt h1)))));refine zq197 ?_;try exact zT)
  repeat'(apply zK.s<;>intro hc<;>(try simp only[zhd]at hc)<;>(try have hw:=X0a hc)<;>(refine zq197 ?_;try exact zT))
  all_goals(try clear zx)
  exact K0d hF zlq (Y0c rfl (Z0c zno197))
def J179(i:Nat)(f:X0b)(b:Q0a)(p:Hp)(n:Nat)(ρ:Env)(q:Hp): Prop:=
 ∃(k:Nat),n=16-k/\k<=16/\ρ 0=.ptr i []/\ρ 3=.ptr p.n []/\ρ 11=.agg (f.s_.Bodies.map Q0a.cv)/\ρ 12=I k/\q.t.get p.n=some (.var sh34 b.cv)/\firstW (fun a=>decide (a.Kind=1)&&bodyHit a b) (f.s_.Bodies.drop k) k=struckL f.s_.Bodies b/\p.n<q.n/\HpLe p q
def R179: Rel:=fun args p r=>∃(i:Nat) (f:X0b) (b:Q0a),args=[.ptr i [],b.cv]/\(p.t.get i=some (.var sh186 f.cv))/\r=.ret (I (struckL f.s_.Bodies b)) p
theorem t179{T:XCall}(h:Has T 179 R179)(i:Nat)(f:X0b)(b:Q0a){p:Hp}(h1:p.t.get i=some (.var sh186 f.cv)): T 179 [.ptr i [],b.cv] p=.ret (I (struckL f.s_.Bodies b)) p:=h _ _ _ ⟨i,f,b,rfl,h1,rfl⟩
theorem zq179{A B:Prop}(k:B)(h:A=B:=by have zy:=zA @zw179<|zA @rs179<|zA @tt3<|zA @tt34<|zA @tt63<|zA @tt66<|zA @tt186<|zA ti3.eq_1<|zA ti34.eq_1<|zA ti63.eq_1<|zA ti66.eq_1<|zA ti186.eq_1<|zA @t_199<|zA @Z0i<|zA @Q0f<|zA @Z0d<|zA @zsl63<|@h1;exact zQ): A:=h▸k
theorem zno179{P:Prop}(h:P:=by intro jj;simp[CV.has,CV.hasL,fault,Z0b.nohas,Y0a.nohas,Q0a.nohas]): P:=h
theorem zge179{P:Prop}(h:P:=by simp (disch:=first|exact zdl|fail) only[zheap,h1];first|done|rfl): P:=h
theorem c179: Con C 179 R179:=by
 refine Q0e C ?_ ?_ ?_
 ·rintro args p r r' ⟨i,f,b,h,h1,e⟩ ⟨i',f',b',h',h1',e'⟩
  subst e;subst e';simp_all[X0b.inj_iff,Y0a.inj_iff,Q0a.inj_iff]
 ·rintro args p r ⟨i,f,b,h,h1,rfl⟩;exact zr1
 rintro args p r ⟨i,f,b,rfl,h1,rfl⟩
 refine zW C false [(199,R199)] ⟨c199,zT⟩ rfl xf179 zc179_ok fun call zh hF=>?_
 have t_199:=@t199 _ zh.1
 clear zh
 have hd_h1:=hF.dom _ _ h1
 have hb:=f.s_.hBodies
 (have zx:=h1;refine zq179 ?_;try exact zT)
 repeat'(apply zK.s<;>intro hc<;>(try simp only[zhd]at hc)<;>(try have hw:=X0a hc)<;>(refine zq179 ?_;try exact zT))
 all_goals(try clear zx)
 (show W C false noExt call (ZC.loop Z1s) _ _ _);refine V0i C false noExt call Z1s _ _ _ (J179 i f b p) 16 ⟨0,rfl,by omega,(by simp[put_at,Q0d,K0e]),(by simp[put_at,Q0d,K0e]),(by simp[put_at,Q0d,K0e]),(by simp[put_at,Q0d,K0e]),zge179,rfl,(by simp only[Hp.znew_n];omega),zle⟩ ?_
 rintro n ρ q ⟨k,rfl,hk,e0,e3,e11,e12,g1,hj,hn,hle⟩
 by_cases hlt:(k:Int)<16
 ·rw[V0s (l:=f.s_.Bodies) (k:=k) (by omega)]at hj
  simp only[firstW]at hj
  by_cases h0:(nth f.s_.Bodies k).Kind=1
  ·cases hh:bodyHit (nth f.s_.Bodies k) b with
   |true=>
    rw[if_pos (by simp[h0,hh])]at hj
    (have zx:=zA e0 (zA e3 (zA e11 (zA e12 (zA g1 (zA hlt (zA h0 (zA hh h1)))))));refine zq179 ?_;try exact zT)
    repeat'(apply zK.s<;>intro hc<;>(try simp only[zhd]at hc)<;>(try have hw:=X0a hc)<;>(refine zq179 ?_;try exact zT))
    all_goals(try clear zx)
    refine K0d hF zlq (Y0c ?_ (Z0c zno179))
    rw[<- hj]
   |false=>
    rw[if_neg (by simp[h0,hh])]at hj
    (have zx:=zA e0 (zA e3 (zA e11 (zA e12 (zA g1 (zA hlt (zA h0 (zA hh h1)))))));refine zq179 ?_;try exact zT)
    repeat'(apply zK.s<;>intro hc<;>(try simp only[zhd]at hc)<;>(try have hw:=X0a hc)<;>(refine zq179 ?_;try exact zT))
    all_goals(try clear zx)
    exact⟨16-(k+1),by omega,k+1,rfl,by omega,zev,zev,zev,zev,(by simp (disch:=(first|omega|(simp only[Hp.znew_n];omega))) only[Hp.get_set_ne,Hp.get_new_ne,g1]),hj,(by simp only[Hp.znew_n,Hp.zset_n];omega),zlq⟩
  ·rw[if_neg (by simp[h0])]at hj
   (have zx:=zA e0 (zA e3 (zA e11 (zA e12 (zA g1 (zA hlt (zA h0 h1))))));refine zq179 ?_;try exact zT)
   repeat'(apply zK.s<;>intro hc<;>(try simp only[zhd]at hc)<;>(try have hw:=X0a hc)<;>(refine zq179 ?_;try exact zT))
   all_goals(try clear zx)
   exact⟨16-(k+1),by omega,k+1,rfl,by omega,zev,zev,zev,zev,(by simp (disch:=(first|omega|(simp only[Hp.znew_n];omega))) only[Hp.get_set_ne,Hp.get_new_ne,g1]),hj,(by simp only[Hp.znew_n,Hp.zset_n];omega),zlq⟩
 ·have hk16:k=16:=by omega
  subst hk16
  rw[List.drop_eq_nil_of_le (by omega)]at hj
  (have zx:=zA e0 (zA e3 (zA e11 (zA e12 (zA g1 (zA hlt h1)))));refine zq179 ?_;try exact zT)
  repeat'(apply zK.s<;>intro hc<;>(try simp only[zhd]at hc)<;>(try have hw:=X0a hc)<;>(refine zq179 ?_;try exact zT))
  all_goals(try clear zx)
  refine K0d hF zlq (Y0c ?_ (Z0c zno179))
  rw[<- hj];rfl
end Go.Proofs.Ytpchcfkebljopaa
end
section
namespace Go.Proofs.Ytpchcfkebljopaa
open Go.Cl Go Go.RowKit
def ren(a J k:Nat): Nat:=if k=a then J else k
theorem Y1u{args:List CV}{p p' q0:Hp}{v u:CV}{J:Nat}{oT:XObj}(hF:Fine args p)(hn:q0.n=p.n)
  (hq:∀k o,q0.t.get k=some o->k<p.n/\k≠J/\((p.t.get k=some o/\p'.t.get k=some o)\/∃o',p'.t.get k=some o'/\XObj.weak (ren p.n J) (p.n+1) o' o))
  (hT:∃o',p'.t.get J=some o'/\XObj.weak (ren p.n J) (p.n+1) o' oT) (hv:CV.weak (ren p.n J) (p.n+1) v u):ShrR p (.ret v p') (.ret u (q0.new oT)):=by
 have hnn:(q0.new oT).n=p.n+1:=by rw[Hp.znew_n,hn]
 have hs:∀k,k<p.n->ren p.n J k=k:=fun k hk=>if_neg (Nat.ne_of_lt hk)
 have hsp:ren p.n J p.n=J:=if_pos rfl
 have hg:∀k o,(q0.new oT).t.get k=some o->(k=p.n/\o=oT)\/(k<p.n/\q0.t.get k=some o):=by
  intro k o h
  by_cases hk:k=q0.n
  ·subst hk;rw[Hp.get_new_self]at h;cases h;exact .inl ⟨hn,rfl⟩
  ·rw[Hp.get_new_ne _ _ hk]at h;exact .inr ⟨(hq k o h).1,h⟩
 refine⟨ren p.n J,⟨by rw[hnn];omega,hs,?_,?_⟩,by rw[hnn];exact hv⟩
 ·intro j k oj ok h1 h2 e
  rcases hg j oj h1 with⟨rfl,_⟩|⟨hj,hj'⟩<;>rcases hg k ok h2 with⟨rfl,_⟩|⟨hk,hk'⟩
  ·rfl
  ·rw[hsp,hs k hk]at e;exact absurd e.symm (hq k ok hk').2.1
  ·rw[hsp,hs j hj]at e;exact absurd e (hq j oj hj').2.1
  ·rw[hs j hj,hs k hk]at e;exact e
 ·intro k o h
  rw[hnn]
  rcases hg k o h with⟨rfl,rfl⟩|⟨hk,hk'⟩
  ·refine⟨Nat.lt_succ_self _,.inr ?_⟩
   rw[hsp];exact hT
  ·refine⟨Nat.lt_succ_of_lt hk,?_⟩
   rcases(hq k o hk').2.2 with h|h
   ·exact .inl ⟨hk,h.1,h.2⟩
   ·rw[hs k hk];exact .inr h
noncomputable def dropT(tl:Tail)(p:Hp): Hp:=match tl with|.own j=>p.set j none|_=>p
def frDice(f:X0b)(d:Int): X0b:={f with s_:={f.s_ with Dice:=d}}
def frShots(f:X0b)(j:Nat)(l:List Q0a): X0b:={f with shots:=⟨.own j,l,nofun⟩}
theorem weak_frame(f:X0b)(J n:Nat)(l:List Q0a)(h:∀j,f.c_.Rules.tl=.own j\/f.c_.Tokens.tl=.own j\/f.row.tl=.own j->j<n): CV.weak (ren n J) (n+1) (frShots f J l).cv (frShots f n l).cv:=by
 have hs:∀k,k<n->ren n J k=k:=fun k hk=>if_neg (Nat.ne_of_lt hk)
 have h1:CV.weak (ren n J) (n+1) f.c_.cv f.c_.cv:=CV.weak_refl _ fun j hj=>by
  have:=(K0a.has _ j).1 hj
  have:j<n:=h j (by rcases this with h|h<;>simp[h])
  exact⟨hs j this,by omega⟩
 have h2:CV.weak (ren n J) (n+1) f.s_.cv f.s_.cv:=CV.weak_refl _ fun j hj=>absurd hj (Y0a.nohas _ j)
 have h3:CV.weak (ren n J) (n+1) (Lst.cv Q0b.cv f.row) (Lst.cv Q0b.cv f.row):=CV.weak_refl _ fun j hj=>by
  have:=(Lst.has _ Q0b.nohas _ j).1 hj
  have:j<n:=h j (.inr (.inr this))
  exact⟨hs j this,by omega⟩
 have h4:CV.weakL (ren n J) (n+1) (l.map Q0a.cv) (l.map Q0a.cv):=CV.weakL_refl _ fun j hj=>(X0n Q0a.nohas l j hj).elim
 simp only[frShots,X0b.cv,CV.weak,CV.weakL]
 refine⟨h1,h2,h3,?_,trivial⟩
 simp only[Lst.cv,CV.weak,Tail.weak]
 exact⟨⟨(if_pos rfl).symm,Nat.lt_succ_self _⟩,h4⟩
theorem X1d(f:X0b)(J n:Nat)(l:List Q0a)(h:∀j,f.c_.Rules.tl=.own j\/f.c_.Tokens.tl=.own j\/f.row.tl=.own j->j<n): XObj.weak (ren n J) (n+1) (.var sh186 (frShots f J l).cv) (.var sh186 (frShots f n l).cv):=⟨rfl,weak_frame f J n l h⟩
theorem tdiv16{x:Int}(h:-64<=x/\x<=64): -4<=x.tdiv 16/\x.tdiv 16<=4:=by
 rcases Int.le_total 0 x with h0|h0
 ·rw[Int.tdiv_eq_ediv_of_nonneg h0];omega
 ·have:x.tdiv 16=-((-x).tdiv 16):=by rw[Int.neg_tdiv,Int.neg_neg]
  rw[this,Int.tdiv_eq_ediv_of_nonneg (by omega)];omega
theorem V0z(row:List Q0b)(o:Int): (0<=(rowInput row o).Buttons/\(rowInput row o).Buttons<=255)/\(-64<=(rowInput row o).X/\(rowInput row o).X<=64)/\(-64<=(rowInput row o).Y/\(rowInput row o).Y<=64):=by
 unfold rowInput
 split
 ·simp[K0b.zero]
 ·exact⟨Z0e (by omega),Z0e (by omega),Z0e (by omega)⟩
theorem run_len64: ∀(k:Nat) (m r:Z0a),Mach.run k m=.ok r->0<=m.at_->r.e_.Shots.l.length<=m.e_.Shots.l.length+k
 |k,m,r,h,ha=>by
  unfold Mach.run at h
  by_cases hlt:m.at_<m.l_.l.length
  ·rw[if_pos hlt]at h
   cases k with
   |zero=>cases h
   |succ k=>
    simp only at h
    cases hd:Mach.doOp m (nth m.l_.l m.at_.toNat) with
    |error c=>rw[hd]at h;cases h
    |ok x=>
     obtain⟨m2,n⟩:=x
     rw[hd]at h
     simp only at h
     have kk:=Mach.doOp_keeps hd ha hlt
     have:=run_len64 k _ r h kk.2.2.2.2.1
     simp only at this
     omega
  ·rw[if_neg hlt]at h;cases h;omega
theorem Z06(L:List Q0c)(e:K0c): (runL L e).1.Shots.l.length<=e.Shots.l.length+64:=by
 have hc:(copiedE e).Shots.l.length=e.Shots.l.length:=by simp[copiedE,Z0x]
 unfold runL ruleRun
 split
 ·simp only[hc];omega
 ·cases hq:Mach.run 64 ⟨copiedE e,⟨.view,L,nofun⟩,0⟩ with
  |error c=>simp only[hc];omega
  |ok m=>have:=run_len64 64 _ m hq (by simp);simp only[hc]at this;exact this
def OwnT(i:Nat)(s:Lst Q0a)(p:Hp): Prop:=s.tl=.nil\/∃j,s.tl=.own j/\j≠i/\p.t.get j=some (.tail s.l.length)/\0<s.l.length
theorem OwnT_nil(i:Nat)(l:List Q0a)(o:_)(p:Hp): OwnT i ⟨.nil,l,o⟩ p:=.inl rfl
theorem OwnT_own{i j:Nat}{l:List Q0a}{o:_}{p:Hp}(h1:j≠i)(h2:p.t.get j=some (.tail l.length))(h3:0<l.length): OwnT i ⟨.own j,l,o⟩ p:=.inr ⟨j,rfl,h1,h2,h3⟩
theorem Y1k(rules:List Q0c)(row:List Q0b)(dice room:Int)(b:Q0a): (playerTurn rules row dice room b).shots.length<=64:=by
 unfold playerTurn
 split
 ·have:=Z06 rules (playerEnv row dice room b)
  simpa[playerEnv]using this
 ·simp
theorem Q05(rules:List Q0c)(row:List Q0b)(s:Y0a): ∀k,(turnsS rules row s k).2.length<=64*k
 |0=>by simp[turnsS]
 |k+1=>by
  have ih:=Q05 rules row s k
  have hb:∀d r,(bodyTurn rules row d r (nth s.Bodies k)).shots.length<=64:=by
   intro d r
   unfold bodyTurn
   split
   ·exact Y1k ..
   ·simp
  simp only[turnsS,turnStep,List.length_append]
  have:=hb (turnsS rules row s k).1.Dice (freeN (turnsS rules row s k).1.Bodies-(turnsS rules row s k).2.length)
  omega
noncomputable def frTurns(f:X0b): X0b:={f with s_:=(turnsS f.c_.Rules.l f.row.l f.s_ 16).1,shots:=partL (turnsS f.c_.Rules.l f.row.l f.s_ 16).2}
theorem Q1j(c:K0a)(st:Y0a)(row:Lst Q0b)(sh:Lst Q0a)(n:Nat)(h:∀j,c.Rules.tl=.own j\/c.Tokens.tl=.own j\/row.tl=.own j->j<n)(happ:sh.tl=.nil\/(∃j,sh.tl=.own j)/\0<sh.l.length): XObj.weak (fun k=>k) n (.var sh186 (X0b.mk c st row sh).cv) (.var sh186 (X0b.mk c st row (partL sh.l)).cv):=by
 have h1:CV.weak (fun k=>k) n c.cv c.cv:=Y0d fun j hj=>h j (by rcases(K0a.has _ j).1 hj with h|h<;>simp[h])
 have h2:CV.weak (fun k=>k) n st.cv st.cv:=Y0d (Z0c (Y0a.nohas _))
 have h3:CV.weak (fun k=>k) n (Lst.cv Q0b.cv row) (Lst.cv Q0b.cv row):=Y0d fun j hj=>h j (.inr (.inr ((Lst.has _ Q0b.nohas _ j).1 hj)))
 have h4:=X0y (f:=Q0a.cv) Q0a.nohas sh n happ
 refine⟨rfl,?_⟩
 simp only[X0b.cv,CV.weak,CV.weakL]
 exact⟨h1,h2,h3,h4,trivial⟩
end Go.Proofs.Ytpchcfkebljopaa
end
section
namespace Go.Proofs.Ytpchcfkebljopaa
open Go.Cl Go Go.RowKit
set_option maxRecDepth 100000
set_option linter.constructorNameAsVariable false
def R75: Rel:=fun args p r=>∃(b:Q0a),args=[b.cv]/\r=.ret (Bo (Body.right b)) p
theorem t75{T:XCall}(h:Has T 75 R75)(b:Q0a){p:Hp}:T 75 [b.cv] p=.ret (Bo (Body.right b)) p:=h _ _ _ ⟨b,rfl,rfl⟩
theorem zq75{A B:Prop}(k:B)(h:A=B:=by have zy:=zA @zw75<|zA @rs75<|zA @tt3<|zA @tt32<|zA @tt34<|zA ti3.eq_1<|zA ti32.eq_1<|zA ti34.eq_1<|zA @t_85<|zA @Z0d<|@zsl32;exact zQ): A:=h▸k
theorem zno75{P:Prop}(h:P:=by intro jj;simp[CV.has,CV.hasL,fault,Z0b.nohas,Q0a.nohas]): P:=h
theorem c75: Con C 75 R75:=by
 refine Q0e C ?_ ?_ ?_
 ·rintro args p r r' ⟨b,h,e⟩ ⟨b',h',e'⟩
  subst e;subst e';simp_all[Q0a.inj_iff]
 ·rintro args p r ⟨b,h,rfl⟩;exact zr1
 rintro args p r ⟨b,rfl,rfl⟩
 refine zW C false [(85,R85)] ⟨c85,zT⟩ rfl xf75 zc75_ok fun call zh hF=>?_
 have t_85:=@t85 _ zh.1
 clear zh
 have hm:=b.hMem
 (have zx:=zT;refine zq75 ?_;try exact zT)
 repeat'(apply zK.s<;>intro hc<;>(try simp only[zhd]at hc)<;>(try have hw:=X0a hc)<;>(refine zq75 ?_;try exact zT))
 all_goals(try clear zx)
 ·refine K0d hF zle (Y0c ?_ (Z0c zno75))
  simp only[Body.right,hc,if_true]
  rfl
 refine⟨5,?_⟩
 simp only[Wn_succ]
 (have zx:=zT;refine zq75 ?_;try exact zT)
 repeat'(apply zK.s<;>intro hc<;>(try simp only[zhd]at hc)<;>(try have hw:=X0a hc)<;>(refine zq75 ?_;try exact zT))
 all_goals(try clear zx)
 all_goals(refine K0d hF zle (Y0c ?_ (Z0c zno75)))
 all_goals simp[Body.right,all_nth4 hm, *]
def R152: Rel:=fun args p r=>∃(c:Int),args=[I c]/\r=.ret (.tup [Bo (namesA c),Bo (namesB c)]) p
theorem t152{T:XCall}(h:Has T 152 R152)(c:Int){p:Hp}:T 152 [I c] p=.ret (.tup [Bo (namesA c),Bo (namesB c)]) p:=h _ _ _ ⟨c,rfl,rfl⟩
theorem zq152{A B:Prop}(k:B)(h:A=B:=by have zy:=zA @zw152<|zA @rs152<|zA @tt3<|ti3.eq_1;exact zQ): A:=h▸k
theorem zno152{P:Prop}(h:P:=by intro jj;simp[CV.has,CV.hasL,fault,Z0b.nohas]): P:=h
theorem c152: Con C 152 R152:=by
 refine Q0e C ?_ ?_ ?_
 ·rintro args p r r' ⟨c,h,e⟩ ⟨c',h',e'⟩
  subst e;subst e';simp_all
 ·rintro args p r ⟨c,h,rfl⟩;exact zr1
 rintro args p r ⟨c,rfl,rfl⟩
 refine zW C false [] zT rfl xf152 zc152_ok fun call zh hF=>?_
 clear zh
 (have zx:=zT;refine zq152 ?_;try exact zT)
 repeat'(apply zK.s<;>intro hc<;>(try simp only[zhd]at hc)<;>(try have hw:=X0a hc)<;>(refine zq152 ?_;try exact zT))
 all_goals(try clear zx)
 all_goals(refine K0d hF zle (Y0c ?_ (Z0c zno152)))
 all_goals simp[namesA,namesB, *]
def R153: Rel:=fun args p r=>∃(n:Int),args=[I n]/\r=.ret (Bo (within n 0 3)) p
theorem t153{T:XCall}(h:Has T 153 R153)(n:Int){p:Hp}:T 153 [I n] p=.ret (Bo (within n 0 3)) p:=h _ _ _ ⟨n,rfl,rfl⟩
theorem zq153{A B:Prop}(k:B)(h:A=B:=by have zy:=zA @zw153<|zA @rs153<|@t_85;exact zQ): A:=h▸k
theorem zno153{P:Prop}(h:P:=by intro jj;simp[CV.has,CV.hasL,fault,Z0b.nohas]): P:=h
theorem c153: Con C 153 R153:=by
 refine Q0e C ?_ ?_ ?_
 ·rintro args p r r' ⟨n,h,e⟩ ⟨n',h',e'⟩
  subst e;subst e';simp_all
 ·rintro args p r ⟨n,h,rfl⟩;exact zr1
 rintro args p r ⟨n,rfl,rfl⟩
 refine zW C false [(85,R85)] ⟨c85,zT⟩ rfl xf153 zc153_ok fun call zh hF=>?_
 have t_85:=@t85 _ zh.1
 clear zh
 (have zx:=zT;refine zq153 ?_;try exact zT)
 repeat'(apply zK.s<;>intro hc<;>(try simp only[zhd]at hc)<;>(try have hw:=X0a hc)<;>(refine zq153 ?_;try exact zT))
 all_goals(try clear zx)
 exact K0d hF zle (Y0c rfl (Z0c zno153))
def R154: Rel:=fun args p r=>∃(d:Int),args=[U d]/\r=.ret (.tup [U (diceNext d),I (diceNum (diceNext d))]) p
theorem t154{T:XCall}(h:Has T 154 R154)(d:Int){p:Hp}:T 154 [U d] p=.ret (.tup [U (diceNext d),I (diceNum (diceNext d))]) p:=h _ _ _ ⟨d,rfl,rfl⟩
theorem zq154{A B:Prop}(k:B)(h:A=B:=by have zy:=zA @zw154<|zA @rs154<|zA @tt3<|zA @tt25<|zA @tt178<|zA ti3.eq_1<|zA ti25.eq_1<|ti178.eq_1;exact zQ): A:=h▸k
theorem zno154{P:Prop}(h:P:=by intro jj;simp[CV.has,CV.hasL,fault,Z0b.nohas]): P:=h
theorem c154: Con C 154 R154:=by
 refine Q0e C ?_ ?_ ?_
 ·rintro args p r r' ⟨d,h,e⟩ ⟨d',h',e'⟩
  subst e;subst e';simp_all
 ·rintro args p r ⟨d,h,rfl⟩;exact zr1
 rintro args p r ⟨d,rfl,rfl⟩
 refine zW C false [] zT rfl xf154 zc154_ok fun call zh hF=>?_
 clear zh
 (have zx:=zT;refine zq154 ?_;try exact zT)
 repeat'(apply zK.s<;>intro hc<;>(try simp only[zhd]at hc)<;>(try have hw:=X0a hc)<;>(refine zq154 ?_;try exact zT))
 all_goals(try clear zx)
 exact K0d hF zle (Y0c rfl (Z0c zno154))
def R78: Rel:=fun args p r=>∃(d n:Int),args=[U d,I n]/\r=.ret (.tup [U (diceRoll d n).1,I (diceRoll d n).2]) p
theorem t78{T:XCall}(h:Has T 78 R78)(d n:Int){p:Hp}:T 78 [U d,I n] p=.ret (.tup [U (diceRoll d n).1,I (diceRoll d n).2]) p:=h _ _ _ ⟨d,n,rfl,rfl⟩
theorem zq78{A B:Prop}(k:B)(h:A=B:=by have zy:=zA @zw78<|zA @rs78<|zA @tt3<|zA ti3.eq_1<|@t_154;exact zQ): A:=h▸k
theorem zno78{P:Prop}(h:P:=by intro jj;simp[CV.has,CV.hasL,fault,Z0b.nohas]): P:=h
theorem c78: Con C 78 R78:=by
 refine Q0e C ?_ ?_ ?_
 ·rintro args p r r' ⟨d,n,h,e⟩ ⟨d',n',h',e'⟩
  subst e;subst e';simp_all
 ·rintro args p r ⟨d,n,h,rfl⟩;exact zr1
 rintro args p r ⟨d,n,rfl,rfl⟩
 refine zW C false [(154,R154)] ⟨c154,zT⟩ rfl xf78 zc78_ok fun call zh hF=>?_
 have t_154:=@t154 _ zh.1
 clear zh
 (have zx:=zT;refine zq78 ?_;try exact zT)
 repeat'(apply zK.s<;>intro hc<;>(try simp only[zhd]at hc)<;>(try have hw:=X0a hc)<;>(refine zq78 ?_;try exact zT))
 all_goals(try clear zx)
 all_goals refine K0d hF zle (Y0c ?_ (Z0c zno78))
 all_goals simp[diceRoll,hc]
def R79: Rel:=fun args p r=>∃(o:Q0c) (e:V0c),args=[o.cv,e.cv]/\(0<=o.B/\o.B<4)/\r=.ret (I (nth e.Body.Mem o.B.toNat)) p
theorem t79{T:XCall}(h:Has T 79 R79)(o:Q0c)(e:V0c){p:Hp}(h1:0<=o.B/\o.B<4): T 79 [o.cv,e.cv] p=.ret (I (nth e.Body.Mem o.B.toNat)) p:=h _ _ _ ⟨o,e,rfl,h1,rfl⟩
theorem zq79{A B:Prop}(k:B)(h:A=B:=by have zy:=zA @zw79<|zA @rs79<|zA @tt3<|zA @tt29<|zA @tt32<|zA @tt34<|zA @tt51<|zA ti3.eq_1<|zA ti29.eq_1<|zA ti32.eq_1<|zA ti34.eq_1<|zA ti51.eq_1<|zA @Y0j<|zA @Q0q<|zA @Z0d<|zA @zsl32<|@h1;exact zQ): A:=h▸k
theorem zno79{P:Prop}(h:P:=by intro jj;simp[CV.has,CV.hasL,fault,Z0b.nohas,Q0c.nohas,Q0a.nohas]): P:=h
theorem c79: Con C 79 R79:=by
 refine Q0e C ?_ ?_ ?_
 ·rintro args p r r' ⟨o,e,h,h1,e⟩ ⟨o',e',h',h1',e'⟩
  subst e;subst e';simp_all[Q0c.inj_iff,V0c.inj_iff,Q0a.inj_iff]
 ·rintro args p r ⟨o,e,h,h1,rfl⟩;exact zr1
 rintro args p r ⟨o,e,rfl,h1,rfl⟩
 refine zW C false [] zT rfl xf79 zc79_ok fun call zh hF=>?_
 clear zh
 have hm:=e.Body.hMem
 (have zx:=zT;refine zq79 ?_;try exact zT)
 repeat'(apply zK.s<;>intro hc<;>(try simp only[zhd]at hc)<;>(try have hw:=X0a hc)<;>(refine zq79 ?_;try exact zT))
 all_goals(try clear zx)
 exact K0d hF zle (Y0c rfl (Z0c zno79))
theorem qbuild_ar(C:Ctx){t n w:Nat}{e:TypeId}{shs:List Shape}{b:Nat}{z:List CV}{parts:List (Nat×CV)}{v:CV}(ht:C.tt t=some ⟨.ar n e w,.n shs,b,.agg z⟩)(hp:partsOk shs parts=true)(hv:.agg (setAll z parts)=v): qbuild C t parts=some v:=by
 simp only[qbuild,ht,hp,if_true,hv]
theorem bld64(a0 a1 a2 a3 a4 a5 a6 a7:Int): qbuild C 64 [(0,I a0),(1,I a1),(2,I a2),(3,I a3),(4,I a4),(5,I a5),(6,I a6),(7,I a7)]=some (.agg ([a0,a1,a2,a3,a4,a5,a6,a7].map I)):=qbuild_ar C tt64 (by simp[partsOk,CV.shape,sh3,List.replicate]) rfl
theorem idx64(a0 a1 a2 a3 a4 a5 a6 a7 n:Int)(hn:0<=n/\n<8): qindex C 64 (.agg [I a0,I a1,I a2,I a3,I a4,I a5,I a6,I a7]) (I n)=some (I (nth [a0,a1,a2,a3,a4,a5,a6,a7] n.toNat)):=zsl64 [a0,a1,a2,a3,a4,a5,a6,a7] n rfl hn
def R77: Rel:=fun args p r=>∃(e:V0c) (n:Int),args=[e.cv,I n]/\(0<=n/\n<8)/\r=.ret (I (nth [e.Body.X,e.Body.Y,e.Body.VX,e.Body.VY,e.Body.Age,e.In.Buttons,e.In.X,e.In.Y] n.toNat)) p
theorem t77{T:XCall}(h:Has T 77 R77)(e:V0c)(n:Int){p:Hp}(h1:0<=n/\n<8): T 77 [e.cv,I n] p=.ret (I (nth [e.Body.X,e.Body.Y,e.Body.VX,e.Body.VY,e.Body.Age,e.In.Buttons,e.In.X,e.In.Y] n.toNat)) p:=h _ _ _ ⟨e,n,rfl,h1,rfl⟩
theorem zq77{A B:Prop}(k:B)(h:A=B:=by have zy:=zA @zw77<|zA @rs77<|zA @tt3<|zA @tt34<|zA @tt36<|zA @tt51<|zA @tt64<|zA ti3.eq_1<|zA ti34.eq_1<|zA ti36.eq_1<|zA ti51.eq_1<|zA ti64.eq_1<|zA @Q0h<|zA @Q0q<|zA @Z0d<|zA @zsl64<|zA @bld64<|zA @idx64<|@h1;exact zQ): A:=h▸k
theorem zno77{P:Prop}(h:P:=by intro jj;simp[CV.has,CV.hasL,fault,Z0b.nohas,K0b.nohas,Q0a.nohas]): P:=h
theorem c77: Con C 77 R77:=by
 refine Q0e C ?_ ?_ ?_
 ·rintro args p r r' ⟨e,n,h,h1,e⟩ ⟨e',n',h',h1',e'⟩
  subst e;subst e';simp_all[K0b.inj_iff,V0c.inj_iff,Q0a.inj_iff]
 ·rintro args p r ⟨e,n,h,h1,rfl⟩;exact zr1
 rintro args p r ⟨e,n,rfl,h1,rfl⟩
 refine zW C false [] zT rfl xf77 zc77_ok fun call zh hF=>?_
 clear zh
 (have zx:=zT;refine zq77 ?_;try exact zT)
 repeat'(apply zK.s<;>intro hc<;>(try simp only[zhd]at hc)<;>(try have hw:=X0a hc)<;>(refine zq77 ?_;try exact zT))
 all_goals(try clear zx)
 exact K0d hF zle (Y0c rfl (Z0c zno77))
def R81: Rel:=fun args p r=>∃(b:Q0a) (x y:Int),args=[b.cv,I x,I y]/\r=.ret (bodyShoot b x y).cv p
theorem t81{T:XCall}(h:Has T 81 R81)(b:Q0a)(x y:Int){p:Hp}:T 81 [b.cv,I x,I y] p=.ret (bodyShoot b x y).cv p:=h _ _ _ ⟨b,x,y,rfl,rfl⟩
theorem zq81{A B:Prop}(k:B)(h:A=B:=by have zy:=zA @zw81<|zA @rs81<|zA @tt3<|zA @tt34<|zA ti3.eq_1<|zA ti34.eq_1<|zA @t_75<|zA @t_80<|@Z0d;exact zQ): A:=h▸k
theorem zno81{P:Prop}(h:P:=by intro jj;simp[CV.has,CV.hasL,fault,Z0b.nohas,Q0a.nohas]): P:=h
theorem c81: Con C 81 R81:=by
 refine Q0e C ?_ ?_ ?_
 ·rintro args p r r' ⟨b,x,y,h,e⟩ ⟨b',x',y',h',e'⟩
  subst e;subst e';simp_all[Q0a.inj_iff]
 ·rintro args p r ⟨b,x,y,h,rfl⟩;exact zr1
 rintro args p r ⟨b,x,y,rfl,rfl⟩
 refine zW C false [(75,R75),(80,R80)] ⟨c75,c80,zT⟩ rfl xf81 zc81_ok fun call zh hF=>?_
 have t_75:=@t75 _ zh.1
 have t_80:=@t80 _ zh.2.1
 clear zh
 (have zx:=zT;refine zq81 ?_;try exact zT)
 repeat'(apply zK.s<;>intro hc<;>(try simp only[zhd]at hc)<;>(try have hw:=X0a hc)<;>(refine zq81 ?_;try exact zT))
 all_goals(try clear zx)
 all_goals refine K0d hF zle (Y0c ?_ (Z0c zno81))
 all_goals simp[bodyShoot,Q0a.zero, *]
def R76: Rel:=fun args p r=>∃(o:Q0c) (e:V0c) (n:Int),args=[o.cv,e.cv,I n]/\r=.ret (I (rfault o e n)) p
theorem t76{T:XCall}(h:Has T 76 R76)(o:Q0c)(e:V0c)(n:Int){p:Hp}:T 76 [o.cv,e.cv,I n] p=.ret (I (rfault o e n)) p:=h _ _ _ ⟨o,e,n,rfl,rfl⟩
theorem zq76{A B:Prop}(k:B)(h:A=B:=by((try simp -dsimp (disch:=first|exact zdis|fail) only[zcore,zall,zopm,zop,zcallOp,qop,qbuiltin,ofOpt,List.map,reduceCtorEq,if_true,if_false,↓reduceIte,zbin,eqRes,qassert,qnum,qshift,qun,kindOf,allocV,List.nil_append,List.append_nil,List.cons_append,List.length_cons,List.length_nil,Nat.reduceAdd,Nat.reduceEqDiff,Nat.reduceLT,Nat.reduceSub,Nat.reduceMul,Int.reduceToNat,Int.reduceLE,Int.reduceLT,Int.reduceEq,Int.reduceNeg,Int.reduceAdd,Int.reduceSub,beq_self_eq_true,cond_true,cond_false,isConstOpd,xpanic,xconv,isBytes,qconv,List.length_map,List.map_nil,List.map_cons,concrete,Option.some.injEq,exists_eq',Option.map_some,Option.map_none,List.getElem?_cons_zero,List.getElem?_cons_succ,zw76,rs76,tt3,tt29,tt32,tt34,tt37,tt51,ti3,ti29,ti32,ti34,ti37,ti51,t_152,t_153,t_85,t_79,Y0j,Q0q,Z0d,zsl32,zsl37,namesA,namesB,Bool.or_false,Bool.false_or,Bool.or_true,Bool.true_or,zx,hc]);rfl)): A:=h▸k
theorem zno76{P:Prop}(h:P:=by intro jj;simp[CV.has,CV.hasL,fault,Z0b.nohas,Q0c.nohas,Q0a.nohas]): P:=h
theorem c76: Con C 76 R76:=by
 refine Q0e C ?_ ?_ ?_
 ·rintro args p r r' ⟨o,e,n,h,e⟩ ⟨o',e',n',h',e'⟩
  subst e;subst e';simp_all[Q0c.inj_iff,V0c.inj_iff,Q0a.inj_iff,X0q]
 ·rintro args p r ⟨o,e,n,h,rfl⟩;exact zr1
 rintro args p r ⟨o,e,n,rfl,rfl⟩
 refine zW C false [(152,R152),(153,R153),(85,R85),(79,R79)] ⟨c152,c153,c85,c79,zT⟩ rfl xf76 zc76_ok fun call zh hF=>?_
 have t_152:=@t152 _ zh.1
 have t_153:=@t153 _ zh.2.1
 have t_85:=@t85 _ zh.2.2.1
 have t_79:=@t79 _ zh.2.2.2.1
 clear zh
 have hm:=e.Body.hMem
 cases hw:within o.Code 1 13 with
 |false=>
  (have zx:=hw;refine zq76 ?_;try exact zT)
  repeat'(apply zK.s<;>intro hc<;>(try simp only[zhd]at hc)<;>(try have hw:=X0a hc)<;>(refine zq76 ?_;try exact zT))
  all_goals(try clear zx)
  all_goals refine K0d hF zle (Y0c ?_ (Z0c zno76))
  all_goals simp[rfault,hw]
 |true=>
  rcases V04 hw with hC|hC|hC|hC|hC|hC|hC|hC|hC|hC|hC|hC|hC
  all_goals have hw2:=hw
  all_goals rw[hC]at hw2
  all_goals cases hA:within o.A 0 3<;>cases hB:within o.B 0 3
  all_goals(try have hA':=X0a hA)
  all_goals(try have hB':=X0a hB)
  all_goals(have zx:=zA hC (zA hw2 (zA hA hB));refine zq76 ?_;try exact zT)
  repeat'(apply zK.s<;>intro hc<;>(try simp only[zhd]at hc)<;>(try have hw:=X0a hc)<;>(refine zq76 ?_;try exact zT))
  all_goals(try clear zx)
  all_goals refine K0d hF zle (Y0c ?_ (Z0c zno76))
  all_goals simp[rfault,namesA,namesB, *]
end Go.Proofs.Ytpchcfkebljopaa
end
section
namespace Go.Proofs.Ytpchcfkebljopaa
open Go.Cl Go Go.RowKit
theorem x32_alloc(p:Hp): xalloc C p 32=.ret (.ptr p.n []) (p.new (.var sh32 (.agg ((List.replicate 4 (0:Int)).map I)))):=by simp only[Cl.xalloc,tt32,ti32,z32,z3,List.map_replicate]
theorem s32_sub: subEq sh32 [] sh32=true:=by simp[subEq,Shape.sub]
theorem s32_subk(k:Nat)(q:List Nat)(z:Shape): subEq sh32 (k::q) z=(decide (k<4)&&subEq sh3 q z):=X0z 4 k q sh3 z
theorem s32_ok(l:List Int)(h:l.length=4): shOk (.agg (l.map I)) sh32=true:=K0n (sh:=sh32) (by simp only[CV.shape,Y0i (f:=I) (s:=Shape.s) (fun _=>rfl),h,sh32]) rfl
theorem s32_at(l:List Int)(h:l.length=4)(k:Nat)(q:List Nat)(hk:k<4): (CV.agg (l.map I)).at (k::q)=(I (nth l k)).at q:=X1o _ (by rw[h];exact hk) q
end Go.Proofs.Ytpchcfkebljopaa
end
section
namespace Go.Proofs.Ytpchcfkebljopaa
open Go.Cl Go Go.RowKit
set_option maxRecDepth 100000
set_option linter.constructorNameAsVariable false
def J28(l:Lst Q0c)(e:V0c)(p:Hp)(k:Nat)(ρ:Env)(q:Hp): Prop:=
 ∃(er:V0c) (a:Int),ρ 0=l.cv Q0c.cv/\ρ 3=.ptr p.n []/\ρ 4=.ptr (p.n+1) []/\ρ 8=.ptr (p.n+2) []/\ρ 9=I a/\ρ 10=I (64-k)/\k<=64/\q.t.get p.n=some (.var sh51 er.cv)/\q.t.get (p.n+1)=some (.var sh51 V0c.zero.cv)/\q.t.get (p.n+2)=some (.var sh51 e.cv)/\Mach.run k ⟨partE er,l,a⟩=Mach.run 64 ⟨ruleOf e,l,0⟩/\0<=a/\a<=l.l.length/\er.Shots.l.length<=64-k/\(er.Shots.tl=.nil\/∃j,er.Shots.tl=.own j)/\p.n+2<q.n/\HpLe p q
theorem own_nil{α:Type}{s:Lst α}(h:s.tl=.nil): s.l=[]:=s.ok h
def R28: Rel:=fun args p r=>∃(l:Lst Q0c) (e:V0c),args=[l.cv Q0c.cv,e.cv]/\(l.l.length<=100000)/\(e.Shots.tl=.nil)/\r=.ret (.tup [(envR (ruleRun l (ruleOf e)).1).cv,I (ruleRun l (ruleOf e)).2.1.Code,I (ruleRun l (ruleOf e)).2.1.At,Bo (ruleRun l (ruleOf e)).2.2]) p
theorem t28{T:XCall}(h:Has T 28 R28)(l:Lst Q0c)(e:V0c){p:Hp}(hl:l.l.length<=100000)(h1:e.Shots.tl=.nil): T 28 [l.cv Q0c.cv,e.cv] p=.ret (.tup [(envR (ruleRun l (ruleOf e)).1).cv,I (ruleRun l (ruleOf e)).2.1.Code,I (ruleRun l (ruleOf e)).2.1.At,Bo (ruleRun l (ruleOf e)).2.2]) p:=h _ _ _ ⟨l,e,rfl,hl,h1,rfl⟩
theorem zq28{A B:Prop}(k:B)(h:A=B:=by have zy:=zA @zw28<|zA @rs28<|zA @tt3<|zA @tt23<|zA @tt25<|zA @tt29<|zA @tt32<|zA @tt34<|zA @tt37<|zA @tt51<|zA ti3.eq_1<|zA ti23.eq_1<|zA ti25.eq_1<|zA ti29.eq_1<|zA ti32.eq_1<|zA ti34.eq_1<|zA ti37.eq_1<|zA ti51.eq_1<|zA @t_75<|zA @t_76<|zA @t_77<|zA @t_78<|zA @t_79<|zA @t_80<|zA @t_81<|zA @Q0q<|zA @Z0d<|zA @Q0h<|zA @Y0j<|zA @zsl23<|zA @zsl32<|zA @zsl37<|zA @x32_alloc<|zA @s32_sub<|zA @s32_subk<|zA @s32_ok<|zA @s32_at<|zA @hl<|@h1;exact zQ): A:=h▸k
theorem zge28{P:Prop}(h:P:=by simp (disch:=first|exact zdl|fail) only[zheap];first|done|rfl): P:=h
theorem c28: Con C 28 R28:=by
 refine Q0e C ?_ ?_ ?_
 ·rintro args p r r' ⟨l,e,h,hl,h1,e⟩ ⟨l',e',h',hl',h1',e'⟩
  subst e;subst e';simp_all[V0c.inj_iff,Q0a.inj_iff,K0b.inj_iff,Q0c.inj_iff,K0j,X0q]
 ·rintro args p r ⟨l,e,h,hl,h1,rfl⟩;exact zr1
 rintro args p r ⟨l,e,rfl,hl,h1,rfl⟩
 refine zW C false [(75,R75),(76,R76),(77,R77),(78,R78),(79,R79),(80,R80),(81,R81)] ⟨c75,c76,c77,c78,c79,c80,c81,zT⟩ rfl xf28 zc28_ok fun call zh hF=>?_
 have t_75:=@t75 _ zh.1
 have t_76:=@t76 _ zh.2.1
 have t_77:=@t77 _ zh.2.2.1
 have t_78:=@t78 _ zh.2.2.2.1
 have t_79:=@t79 _ zh.2.2.2.2.1
 have t_80:=@t80 _ zh.2.2.2.2.2.1
 have t_81:=@t81 _ zh.2.2.2.2.2.2.1
 clear zh
 have hcp:copiedE (ruleOf e)=ruleOf e:=copiedE_nil h1
 have hno:∀j,¬e.cv.has j:=fun j hj=>by rw[V0c.has,h1]at hj;cases hj
 have hnt:∀(a b:Int) (c:Bool) j,¬(CV.tup [e.cv,I a,I b,Bo c]).has j:=fun a b c j hj=>by simp[CV.has,CV.hasL,hno]at hj
 by_cases hb:Body.right e.Body=true
 ·by_cases hk:e.Body.Kind=0
  ·have hR:ruleRun l (ruleOf e)=(ruleOf e,⟨0,0⟩,false):=by unfold ruleRun;rw[if_pos (.inr hk),hcp]
   (have zx:=zA hb hk;refine zq28 ?_;try exact zT)
   repeat'((first|refine Y0h ?_ ?_|refine Q0i ?_ ?_|refine K0i _ _ _ _ ?_ ?_|refine X0h ?_ ?_|refine Z0h _ _ _ _ ?_ ?_)<;>intro hc<;>(try simp only[zhd]at hc)<;>(try have hw:=X0a hc)<;>(refine zq28 ?_;try exact zT))
   all_goals(try clear zx)
   rw[hR]
   exact K0d hF zle (Y0c rfl (Z0c (hnt _ _ _)))
  ·have hR:ruleRun l (ruleOf e)=match Mach.run 64 ⟨ruleOf e,l,0⟩ with|.ok m=>(m.e_,⟨0,0⟩,true)|.error c=>(ruleOf e,⟨c.1,c.2⟩,false):=by
    have hnn:¬(Body.right (ruleOf e).Body=false\/(ruleOf e).Body.Kind=0):=by
     rw[show(ruleOf e).Body=e.Body from rfl,hb];simp[hk]
    unfold ruleRun;rw[if_neg hnn,hcp];cases Mach.run 64 ⟨ruleOf e,l,0⟩<;>rfl
   (have zx:=zA hb hk;refine zq28 ?_;try exact zT)
   repeat'((first|refine Y0h ?_ ?_|refine Q0i ?_ ?_|refine K0i _ _ _ _ ?_ ?_|refine X0h ?_ ?_|refine Z0h _ _ _ _ ?_ ?_)<;>intro hc<;>(try simp only[zhd]at hc)<;>(try have hw:=X0a hc)<;>(refine zq28 ?_;try exact zT))
   all_goals(try clear zx)
   show W C false noExt call (ZC.block 0 (ZC.loop Q1d)) _ _ (seqQ _ _)
   show W C false noExt call (ZC.loop Q1d) _ _ _
   refine V0i C false noExt call Q1d _ _ _ (J28 l e p) 64 ⟨e,0,(by simp[put_at,Q0d,K0e]),(by simp[put_at,Q0d,K0e]),(by simp[put_at,Q0d,K0e]),(by simp[put_at,Q0d,K0e]),(by simp[put_at,Q0d,K0e]),(by simp[put_at,Q0d,K0e]),by omega,zge28,zge28,zge28,by rw[partE_nil h1],by omega,by omega,by rw[own_nil h1];simp,.inl h1,(zb9),zle⟩ ?_
   rintro k ρ q ⟨er,a,e0,e3,e4,e8,e9,e10,hk6,g1,g2,g3,hrun,ha,ha',hsl,htl,hn,hle⟩
   by_cases hlt:a<l.l.length
   ·cases k with
    |zero=>
     have hs:¬(64-((0:Nat):Int)<64):=by omega
     have hs2:64<=64-((0:Nat):Int):=by omega
     (have zx:=zA e0 (zA e3 (zA e4 (zA e8 (zA e9 (zA e10 (zA g1 (zA g2 (zA g3 (zA hlt (zA hs hs2))))))))));refine zq28 ?_;try exact zT)
     repeat'((first|refine Y0h ?_ ?_|refine Q0i ?_ ?_|refine K0i _ _ _ _ ?_ ?_|refine X0h ?_ ?_|refine Z0h _ _ _ _ ?_ ?_)<;>intro hc<;>(try simp only[zhd]at hc)<;>(try have hw:=X0a hc)<;>(refine zq28 ?_;try exact zT))
     all_goals(try clear zx)
     have hr:Mach.run 0 ⟨partE er,l,a⟩=.error (5,a):=by simp[Mach.run,hlt]
     rw[hR,<- hrun,hr]
     exact K0d hF zlq (Y0c rfl (Z0c (hnt _ _ _)))
    |succ k=>
     have hs:¬64<=64-((k+1:Nat):Int):=by omega
     have hf:=rfault_eq (nth l.l a.toNat) er l a
     have hmem:=er.Body.hMem
     cases hdo:Mach.doOp ⟨partE er,l,a⟩ (nth l.l a.toNat) with
     |error c=>
      have hc0:=doOp_code hdo
      rw[hdo]at hf
      simp only at hf
      (have zx:=zA e0 (zA e3 (zA e4 (zA e8 (zA e9 (zA e10 (zA g1 (zA g2 (zA g3 (zA hlt (zA hs (zA hf hc0)))))))))));refine zq28 ?_;try exact zT)
      repeat'((first|refine Y0h ?_ ?_|refine Q0i ?_ ?_|refine K0i _ _ _ _ ?_ ?_|refine X0h ?_ ?_|refine Z0h _ _ _ _ ?_ ?_)<;>intro hc<;>(try simp only[zhd]at hc)<;>(try have hw:=X0a hc)<;>(refine zq28 ?_;try exact zT))
      all_goals(try clear zx)
      have hr:Mach.run (k+1) ⟨partE er,l,a⟩=.error (c,a):=by simp[Mach.run,hlt,hdo]
      rw[hR,<- hrun,hr]
      exact K0d hF zlq (Y0c rfl (Z0c (hnt _ _ _)))
     |ok r=>
      obtain⟨m2,n⟩:=r
      rw[hdo]at hf
      simp only at hf
      have hst:Mach.run k {m2 with at_:=n}=Mach.run 64 ⟨ruleOf e,l,0⟩:=by rw[<- hrun,Mach.run];simp[hlt,hdo]
      have hkp:=Mach.doOp_keeps hdo ha hlt
      have hn0:=hkp.2.2.2.2.1
      have hn1:=hkp.2.2.2.2.2
      simp only at hn1
      have hnm:=doOp_n hdo
      have hA:=namedOk_A hnm.1
      have hB:=namedOk_B hnm.1
      have hco:=V04 hnm.2
      generalize ho:nth l.l a.toNat=o at hf hdo hnm hA hB hco
      rcases hco with hC|hC|hC|hC|hC|hC|hC|hC|hC|hC|hC|hC|hC
      ·have hd:=doOp_1 hdo hC
       obtain⟨rfl,rfl⟩:=hd
       (have zx:=zA e0 (zA e3 (zA e4 (zA e8 (zA e9 (zA e10 (zA g1 (zA g2 (zA g3 (zA hlt (zA hs (zA ho (zA hf hC))))))))))));refine zq28 ?_;try exact zT)
       repeat'((first|refine Y0h ?_ ?_|refine Q0i ?_ ?_|refine K0i _ _ _ _ ?_ ?_|refine X0h ?_ ?_|refine Z0h _ _ _ _ ?_ ?_)<;>intro hc<;>(try simp only[zhd]at hc)<;>(try have hw:=X0a hc)<;>(refine zq28 ?_;try exact zT))
       all_goals(try clear zx)
       exact⟨k,Nat.lt_succ_self k,{er with Body:=er.Body.put_7k o.A.toNat (brought (o.B) (-1000000) 1000000)},a+1,zev,zev,zev,zev,zev,by simp[put_at,Q0d];omega,by omega,zg8,zg8,zg8,hst,by omega,by omega,by(try simp only);omega,htl,(zb9),zlq⟩
      ·have hd:=doOp_2 hdo hC
       obtain⟨rfl,rfl⟩:=hd
       (have zx:=zA e0 (zA e3 (zA e4 (zA e8 (zA e9 (zA e10 (zA g1 (zA g2 (zA g3 (zA hlt (zA hs (zA ho (zA hf hC))))))))))));refine zq28 ?_;try exact zT)
       repeat'((first|refine Y0h ?_ ?_|refine Q0i ?_ ?_|refine K0i _ _ _ _ ?_ ?_|refine X0h ?_ ?_|refine Z0h _ _ _ _ ?_ ?_)<;>intro hc<;>(try simp only[zhd]at hc)<;>(try have hw:=X0a hc)<;>(refine zq28 ?_;try exact zT))
       all_goals(try clear zx)
       exact⟨k,Nat.lt_succ_self k,{er with Body:=er.Body.put_7k o.A.toNat (brought (nth er.Body.Mem o.B.toNat) (-1000000) 1000000)},a+1,zev,zev,zev,zev,zev,by simp[put_at,Q0d];omega,by omega,zg8,zg8,zg8,hst,by omega,by omega,by(try simp only);omega,htl,(zb9),zlq⟩
      ·have hd:=doOp_3 hdo hC
       obtain⟨rfl,rfl⟩:=hd
       (have zx:=zA e0 (zA e3 (zA e4 (zA e8 (zA e9 (zA e10 (zA g1 (zA g2 (zA g3 (zA hlt (zA hs (zA ho (zA hf hC))))))))))));refine zq28 ?_;try exact zT)
       repeat'((first|refine Y0h ?_ ?_|refine Q0i ?_ ?_|refine K0i _ _ _ _ ?_ ?_|refine X0h ?_ ?_|refine Z0h _ _ _ _ ?_ ?_)<;>intro hc<;>(try simp only[zhd]at hc)<;>(try have hw:=X0a hc)<;>(refine zq28 ?_;try exact zT))
       all_goals(try clear zx)
       exact⟨k,Nat.lt_succ_self k,{er with Body:=er.Body.put_7k o.A.toNat (brought (w64 (nth er.Body.Mem o.A.toNat+nth er.Body.Mem o.B.toNat)) (-1000000) 1000000)},a+1,zev,zev,zev,zev,zev,by simp[put_at,Q0d];omega,by omega,zg8,zg8,zg8,hst,by omega,by omega,by(try simp only);omega,htl,(zb9),zlq⟩
      ·have hd:=doOp_4 hdo hC
       obtain⟨rfl,rfl⟩:=hd
       (have zx:=zA e0 (zA e3 (zA e4 (zA e8 (zA e9 (zA e10 (zA g1 (zA g2 (zA g3 (zA hlt (zA hs (zA ho (zA hf hC))))))))))));refine zq28 ?_;try exact zT)
       repeat'((first|refine Y0h ?_ ?_|refine Q0i ?_ ?_|refine K0i _ _ _ _ ?_ ?_|refine X0h ?_ ?_|refine Z0h _ _ _ _ ?_ ?_)<;>intro hc<;>(try simp only[zhd]at hc)<;>(try have hw:=X0a hc)<;>(refine zq28 ?_;try exact zT))
       all_goals(try clear zx)
       exact⟨k,Nat.lt_succ_self k,{er with Body:=er.Body.put_7k o.A.toNat (brought (w64 (nth er.Body.Mem o.A.toNat-nth er.Body.Mem o.B.toNat)) (-1000000) 1000000)},a+1,zev,zev,zev,zev,zev,by simp[put_at,Q0d];omega,by omega,zg8,zg8,zg8,hst,by omega,by omega,by(try simp only);omega,htl,(zb9),zlq⟩
      ·have hd:=doOp_5 hdo hC
       obtain⟨rfl,rfl⟩:=hd
       (have zx:=zA e0 (zA e3 (zA e4 (zA e8 (zA e9 (zA e10 (zA g1 (zA g2 (zA g3 (zA hlt (zA hs (zA ho (zA hf hC))))))))))));refine zq28 ?_;try exact zT)
       repeat'((first|refine Y0h ?_ ?_|refine Q0i ?_ ?_|refine K0i _ _ _ _ ?_ ?_|refine X0h ?_ ?_|refine Z0h _ _ _ _ ?_ ?_)<;>intro hc<;>(try simp only[zhd]at hc)<;>(try have hw:=X0a hc)<;>(refine zq28 ?_;try exact zT))
       all_goals(try clear zx)
       exact⟨k,Nat.lt_succ_self k,{er with Body:=er.Body.put_7k o.A.toNat (brought (w64 (nth er.Body.Mem o.A.toNat*nth er.Body.Mem o.B.toNat)) (-1000000) 1000000)},a+1,zev,zev,zev,zev,zev,by simp[put_at,Q0d];omega,by omega,zg8,zg8,zg8,hst,by omega,by omega,by(try simp only);omega,htl,(zb9),zlq⟩
      ·have hd:=doOp_6 hdo hC
       obtain⟨hz,rfl,rfl⟩:=hd
       have hz:¬nth er.Body.Mem o.B.toNat=0:=hz
       (have zx:=zA e0 (zA e3 (zA e4 (zA e8 (zA e9 (zA e10 (zA g1 (zA g2 (zA g3 (zA hlt (zA hs (zA ho (zA hf (zA hC hz)))))))))))));refine zq28 ?_;try exact zT)
       repeat'((first|refine Y0h ?_ ?_|refine Q0i ?_ ?_|refine K0i _ _ _ _ ?_ ?_|refine X0h ?_ ?_|refine Z0h _ _ _ _ ?_ ?_)<;>intro hc<;>(try simp only[zhd]at hc)<;>(try have hw:=X0a hc)<;>(refine zq28 ?_;try exact zT))
       all_goals(try clear zx)
       exact⟨k,Nat.lt_succ_self k,{er with Body:=er.Body.put_7k o.A.toNat (brought (w64 ((nth er.Body.Mem o.A.toNat).tdiv (nth er.Body.Mem o.B.toNat))) (-1000000) 1000000)},a+1,zev,zev,zev,zev,zev,by simp[put_at,Q0d];omega,by omega,zg8,zg8,zg8,hst,by omega,by omega,by(try simp only);omega,htl,(zb9),zlq⟩
      ·have hd:=doOp_7 hdo hC
       obtain⟨hw,rfl,rfl⟩:=hd
       have hw:=X0a hw
       (have zx:=zA e0 (zA e3 (zA e4 (zA e8 (zA e9 (zA e10 (zA g1 (zA g2 (zA g3 (zA hlt (zA hs (zA ho (zA hf hC))))))))))));refine zq28 ?_;try exact zT)
       repeat'((first|refine Y0h ?_ ?_|refine Q0i ?_ ?_|refine K0i _ _ _ _ ?_ ?_|refine X0h ?_ ?_|refine Z0h _ _ _ _ ?_ ?_)<;>intro hc<;>(try simp only[zhd]at hc)<;>(try have hw:=X0a hc)<;>(refine zq28 ?_;try exact zT))
       all_goals(try clear zx)
       exact⟨k,Nat.lt_succ_self k,{er with Body:=er.Body.put_7k o.A.toNat (brought (nth [er.Body.X,er.Body.Y,er.Body.VX,er.Body.VY,er.Body.Age,er.In.Buttons,er.In.X,er.In.Y] o.B.toNat) (-1000000) 1000000)},a+1,zev,zev,zev,zev,zev,by simp[put_at,Q0d];omega,by omega,zg8,zg8,zg8,hst,by omega,by omega,by(try simp only);omega,htl,(zb9),zlq⟩
      ·have hd:=doOp_8 hdo hC
       obtain⟨hw,rfl,rfl⟩:=hd
       have hw:=X0a hw
       have hq:o.A=0\/o.A=1\/o.A=2\/o.A=3:=by omega
       rcases hq with hq|hq|hq|hq
       ·(have zx:=zA e0 (zA e3 (zA e4 (zA e8 (zA e9 (zA e10 (zA g1 (zA g2 (zA g3 (zA hlt (zA hs (zA ho (zA hf (zA hC hq)))))))))))));refine zq28 ?_;try exact zT)
        repeat'((first|refine Y0h ?_ ?_|refine Q0i ?_ ?_|refine K0i _ _ _ _ ?_ ?_|refine X0h ?_ ?_|refine Z0h _ _ _ _ ?_ ?_)<;>intro hc<;>(try simp only[zhd]at hc)<;>(try have hw:=X0a hc)<;>(refine zq28 ?_;try exact zT))
        all_goals(try clear zx)
        exact⟨k,Nat.lt_succ_self k,{er with Body:={er.Body with X:=brought (nth er.Body.Mem o.B.toNat) (0) 4095}},a+1,zev,zev,zev,zev,zev,by simp[put_at,Q0d];omega,by omega,zg8,zg8,zg8,by rw[<- hst];simp only[Mach.put,Mach.body,hq,Int.reduceEq,if_true,if_false];rfl,by omega,by omega,by(try simp only);omega,htl,(zb9),zlq⟩
       ·(have zx:=zA e0 (zA e3 (zA e4 (zA e8 (zA e9 (zA e10 (zA g1 (zA g2 (zA g3 (zA hlt (zA hs (zA ho (zA hf (zA hC hq)))))))))))));refine zq28 ?_;try exact zT)
        repeat'((first|refine Y0h ?_ ?_|refine Q0i ?_ ?_|refine K0i _ _ _ _ ?_ ?_|refine X0h ?_ ?_|refine Z0h _ _ _ _ ?_ ?_)<;>intro hc<;>(try simp only[zhd]at hc)<;>(try have hw:=X0a hc)<;>(refine zq28 ?_;try exact zT))
        all_goals(try clear zx)
        exact⟨k,Nat.lt_succ_self k,{er with Body:={er.Body with Y:=brought (nth er.Body.Mem o.B.toNat) (0) 4095}},a+1,zev,zev,zev,zev,zev,by simp[put_at,Q0d];omega,by omega,zg8,zg8,zg8,by rw[<- hst];simp only[Mach.put,Mach.body,hq,Int.reduceEq,if_true,if_false];rfl,by omega,by omega,by(try simp only);omega,htl,(zb9),zlq⟩
       ·(have zx:=zA e0 (zA e3 (zA e4 (zA e8 (zA e9 (zA e10 (zA g1 (zA g2 (zA g3 (zA hlt (zA hs (zA ho (zA hf (zA hC hq)))))))))))));refine zq28 ?_;try exact zT)
        repeat'((first|refine Y0h ?_ ?_|refine Q0i ?_ ?_|refine K0i _ _ _ _ ?_ ?_|refine X0h ?_ ?_|refine Z0h _ _ _ _ ?_ ?_)<;>intro hc<;>(try simp only[zhd]at hc)<;>(try have hw:=X0a hc)<;>(refine zq28 ?_;try exact zT))
        all_goals(try clear zx)
        exact⟨k,Nat.lt_succ_self k,{er with Body:={er.Body with VX:=brought (nth er.Body.Mem o.B.toNat) (-64) 64}},a+1,zev,zev,zev,zev,zev,by simp[put_at,Q0d];omega,by omega,zg8,zg8,zg8,by rw[<- hst];simp only[Mach.put,Mach.body,hq,Int.reduceEq,if_true,if_false];rfl,by omega,by omega,by(try simp only);omega,htl,(zb9),zlq⟩
       ·(have zx:=zA e0 (zA e3 (zA e4 (zA e8 (zA e9 (zA e10 (zA g1 (zA g2 (zA g3 (zA hlt (zA hs (zA ho (zA hf (zA hC hq)))))))))))));refine zq28 ?_;try exact zT)
        repeat'((first|refine Y0h ?_ ?_|refine Q0i ?_ ?_|refine K0i _ _ _ _ ?_ ?_|refine X0h ?_ ?_|refine Z0h _ _ _ _ ?_ ?_)<;>intro hc<;>(try simp only[zhd]at hc)<;>(try have hw:=X0a hc)<;>(refine zq28 ?_;try exact zT))
        all_goals(try clear zx)
        exact⟨k,Nat.lt_succ_self k,{er with Body:={er.Body with VY:=brought (nth er.Body.Mem o.B.toNat) (-64) 64}},a+1,zev,zev,zev,zev,zev,by simp[put_at,Q0d];omega,by omega,zg8,zg8,zg8,by rw[<- hst];simp only[Mach.put,Mach.body,hq,Int.reduceEq,if_true,if_false];rfl,by omega,by omega,by(try simp only);omega,htl,(zb9),zlq⟩
      ·have hd:=doOp_9 hdo hC
       obtain⟨rfl,rfl⟩:=hd
       have hre:Mach.reg ⟨partE er,l,a⟩ o.A.toNat=nth er.Body.Mem o.A.toNat:=rfl
       rw[hre]at hn0 hn1 hst
       by_cases hz:nth er.Body.Mem o.A.toNat=0
       ·rw[if_pos hz]at hn0 hn1 hst
        (have zx:=zA e0 (zA e3 (zA e4 (zA e8 (zA e9 (zA e10 (zA g1 (zA g2 (zA g3 (zA hlt (zA hs (zA ho (zA hf (zA hC hz)))))))))))));refine zq28 ?_;try exact zT)
        repeat'((first|refine Y0h ?_ ?_|refine Q0i ?_ ?_|refine K0i _ _ _ _ ?_ ?_|refine X0h ?_ ?_|refine Z0h _ _ _ _ ?_ ?_)<;>intro hc<;>(try simp only[zhd]at hc)<;>(try have hw:=X0a hc)<;>(refine zq28 ?_;try exact zT))
        all_goals(try clear zx)
        exact⟨k,Nat.lt_succ_self k,er,o.B,zev,zev,zev,zev,zev,by simp[put_at,Q0d];omega,by omega,zg8,zg8,zg8,hst,by omega,by omega,by(try simp only);omega,htl,(zb9),zlq⟩
       ·rw[if_neg hz]at hn0 hn1 hst
        (have zx:=zA e0 (zA e3 (zA e4 (zA e8 (zA e9 (zA e10 (zA g1 (zA g2 (zA g3 (zA hlt (zA hs (zA ho (zA hf (zA hC hz)))))))))))));refine zq28 ?_;try exact zT)
        repeat'((first|refine Y0h ?_ ?_|refine Q0i ?_ ?_|refine K0i _ _ _ _ ?_ ?_|refine X0h ?_ ?_|refine Z0h _ _ _ _ ?_ ?_)<;>intro hc<;>(try simp only[zhd]at hc)<;>(try have hw:=X0a hc)<;>(refine zq28 ?_;try exact zT))
        all_goals(try clear zx)
        exact⟨k,Nat.lt_succ_self k,er,a+1,zev,zev,zev,zev,zev,by simp[put_at,Q0d];omega,by omega,zg8,zg8,zg8,hst,by omega,by omega,by(try simp only);omega,htl,(zb9),zlq⟩
      ·have hd:=doOp_10 hdo hC
       obtain⟨rfl,rfl⟩:=hd
       (have zx:=zA e0 (zA e3 (zA e4 (zA e8 (zA e9 (zA e10 (zA g1 (zA g2 (zA g3 (zA hlt (zA hs (zA ho (zA hf hC))))))))))));refine zq28 ?_;try exact zT)
       repeat'((first|refine Y0h ?_ ?_|refine Q0i ?_ ?_|refine K0i _ _ _ _ ?_ ?_|refine X0h ?_ ?_|refine Z0h _ _ _ _ ?_ ?_)<;>intro hc<;>(try simp only[zhd]at hc)<;>(try have hw:=X0a hc)<;>(refine zq28 ?_;try exact zT))
       all_goals(try clear zx)
       exact⟨k,Nat.lt_succ_self k,er,o.B,zev,zev,zev,zev,zev,by simp[put_at,Q0d];omega,by omega,zg8,zg8,zg8,hst,by omega,by omega,by(try simp only);omega,htl,(zb9),zlq⟩
      ·have hd:=doOp_11 hdo hC
       obtain⟨hz,rfl,rfl⟩:=hd
       have hz:¬nth er.Body.Mem o.B.toNat<1:=hz
       (have zx:=zA e0 (zA e3 (zA e4 (zA e8 (zA e9 (zA e10 (zA g1 (zA g2 (zA g3 (zA hlt (zA hs (zA ho (zA hf (zA hC hz)))))))))))));refine zq28 ?_;try exact zT)
       repeat'((first|refine Y0h ?_ ?_|refine Q0i ?_ ?_|refine K0i _ _ _ _ ?_ ?_|refine X0h ?_ ?_|refine Z0h _ _ _ _ ?_ ?_)<;>intro hc<;>(try simp only[zhd]at hc)<;>(try have hw:=X0a hc)<;>(refine zq28 ?_;try exact zT))
       all_goals(try clear zx)
       exact⟨k,Nat.lt_succ_self k,{er with Body:=er.Body.put_7k o.A.toNat (brought ((diceRoll er.Dice (nth er.Body.Mem o.B.toNat)).2) (-1000000) 1000000),Dice:=(diceRoll er.Dice (nth er.Body.Mem o.B.toNat)).1},a+1,zev,zev,zev,zev,zev,by simp[put_at,Q0d];omega,by omega,zg8,zg8,zg8,hst,by omega,by omega,by(try simp only);omega,htl,(zb9),zlq⟩
      ·have hd:=doOp_12 hdo hC
       obtain⟨rfl,rfl⟩:=hd
       have hsx:Mach.run k ⟨⟨er.Body,er.In,er.Dice,er.Room,⟨.part,er.Shots.l++[bodyShoot er.Body (nth er.Body.Mem o.A.toNat) (nth er.Body.Mem o.B.toNat)],nofun⟩⟩,l,a+1⟩=Mach.run 64 ⟨ruleOf e,l,0⟩:=by rw[<- hst];simp only[partE,partS_l];rfl
       by_cases hs0:er.Shots.l=[]
       ·rw[hs0]at hsx
        (have zx:=zA e0 (zA e3 (zA e4 (zA e8 (zA e9 (zA e10 (zA g1 (zA g2 (zA g3 (zA hlt (zA hs (zA ho (zA hf (zA hC hs0)))))))))))));refine zq28 ?_;try exact zT)
        repeat'((first|refine Y0h ?_ ?_|refine Q0i ?_ ?_|refine K0i _ _ _ _ ?_ ?_|refine X0h ?_ ?_|refine Z0h _ _ _ _ ?_ ?_)<;>intro hc<;>(try simp only[zhd]at hc)<;>(try have hw:=X0a hc)<;>(refine zq28 ?_;try exact zT))
        all_goals(try clear zx)
        all_goals first|(exfalso;cases hc;done)|(exfalso;omega)|skip
        exact⟨k,Nat.lt_succ_self k,{er with Shots:=⟨.own (q.n+1+1+19),[bodyShoot er.Body (nth er.Body.Mem o.A.toNat) (nth er.Body.Mem o.B.toNat)],nofun⟩},a+1,zev,zev,zev,zev,zev,by simp[put_at,Q0d];omega,by omega,zg8,zg8,zg8,hsx,by omega,by omega,by simp;omega,.inr ⟨_,rfl⟩,(zb9),zlq⟩
       ·have hs1:0<er.Shots.l.length:=List.length_pos_iff.2 hs0
        (have zx:=zA e0 (zA e3 (zA e4 (zA e8 (zA e9 (zA e10 (zA g1 (zA g2 (zA g3 (zA hlt (zA hs (zA ho (zA hf (zA hC hs0)))))))))))));refine zq28 ?_;try exact zT)
        repeat'((first|refine Y0h ?_ ?_|refine Q0i ?_ ?_|refine K0i _ _ _ _ ?_ ?_|refine X0h ?_ ?_|refine Z0h _ _ _ _ ?_ ?_)<;>intro hc<;>(try simp only[zhd]at hc)<;>(try have hw:=X0a hc)<;>(refine zq28 ?_;try exact zT))
        all_goals(try clear zx)
        all_goals first|(exfalso;cases hc;done)|(exfalso;omega)|skip
        exact⟨k,Nat.lt_succ_self k,{er with Shots:=⟨.own (q.n+1+1+19+1),er.Shots.l++[bodyShoot er.Body (nth er.Body.Mem o.A.toNat) (nth er.Body.Mem o.B.toNat)],nofun⟩},a+1,zev,zev,zev,zev,zev,by simp[put_at,Q0d];omega,by omega,zg8,zg8,zg8,hsx,by omega,by omega,by simp;omega,.inr ⟨_,rfl⟩,(zb9),zlq⟩
      ·have hd:=doOp_13 hdo hC
       obtain⟨rfl,rfl⟩:=hd
       (have zx:=zA e0 (zA e3 (zA e4 (zA e8 (zA e9 (zA e10 (zA g1 (zA g2 (zA g3 (zA hlt (zA hs (zA ho (zA hf hC))))))))))));refine zq28 ?_;try exact zT)
       repeat'((first|refine Y0h ?_ ?_|refine Q0i ?_ ?_|refine K0i _ _ _ _ ?_ ?_|refine X0h ?_ ?_|refine Z0h _ _ _ _ ?_ ?_)<;>intro hc<;>(try simp only[zhd]at hc)<;>(try have hw:=X0a hc)<;>(refine zq28 ?_;try exact zT))
       all_goals(try clear zx)
       exact⟨k,Nat.lt_succ_self k,er,(l.l.length:Int),zev,zev,zev,zev,zev,by simp[put_at,Q0d];omega,by omega,zg8,zg8,zg8,hst,by omega,by omega,by(try simp only);omega,htl,(zb9),zlq⟩
   ·(have zx:=zA e0 (zA e3 (zA e4 (zA e8 (zA e9 (zA e10 (zA g1 (zA g2 (zA g3 hlt))))))));refine zq28 ?_;try exact zT)
    repeat'((first|refine Y0h ?_ ?_|refine Q0i ?_ ?_|refine K0i _ _ _ _ ?_ ?_|refine X0h ?_ ?_|refine Z0h _ _ _ _ ?_ ?_)<;>intro hc<;>(try simp only[zhd]at hc)<;>(try have hw:=X0a hc)<;>(refine zq28 ?_;try exact zT))
    all_goals(try clear zx)
    have hr:Mach.run k ⟨partE er,l,a⟩=.ok ⟨partE er,l,a⟩:=by cases k<;>simp[Mach.run,hlt]
    rw[hR,<- hrun,hr]
    refine K0d hF zlq ?_
    have hw:=weak_envR er p.n htl
    simp only[CV.weak,CV.weakL]
    exact⟨hw,trivial,trivial,trivial,trivial⟩
 ·have hR:ruleRun l (ruleOf e)=(ruleOf e,⟨0,0⟩,false):=by unfold ruleRun;rw[if_pos (.inl (by rw[show(ruleOf e).Body=e.Body from rfl];simpa using hb)),hcp]
  (have zx:=hb;refine zq28 ?_;try exact zT)
  repeat'((first|refine Y0h ?_ ?_|refine Q0i ?_ ?_|refine K0i _ _ _ _ ?_ ?_|refine X0h ?_ ?_|refine Z0h _ _ _ _ ?_ ?_)<;>intro hc<;>(try simp only[zhd]at hc)<;>(try have hw:=X0a hc)<;>(refine zq28 ?_;try exact zT))
  all_goals(try clear zx)
  rw[hR]
  exact K0d hF zle (Y0c rfl (Z0c (hnt _ _ _)))
noncomputable def resP(i:Nat)(f:X0b)(t:Turn)(p:Hp): XRes:=
 if t.shots=[]then .ret t.body.cv (p.set i (some (.var sh186 (frDice f t.dice).cv)))
 else .ret t.body.cv (((dropT f.shots.tl p).set i (some (.var sh186 (frShots (frDice f t.dice) p.n (f.shots.l++t.shots)).cv))).new (.tail (f.shots.l.length+t.shots.length)))
def R177: Rel:=fun args p r=>∃(i:Nat) (f:X0b) (b:Q0a),args=[.ptr i [],b.cv]/\(p.t.get i=some (.var sh186 f.cv))/\(f.shots.l.length<=10000)/\(OwnT i f.shots p)/\(f.c_.Rules.l.length<=100000)/\(0<=b.Owner/\b.Faults<=65535/\-1<=b.Faults)/\r=resP i f (playerTurn f.c_.Rules.l f.row.l f.s_.Dice (frRoom f) b) p
theorem t177{T:XCall}(h:Has T 177 R177)(i:Nat)(f:X0b)(b:Q0a){p:Hp}(h1:p.t.get i=some (.var sh186 f.cv))(h2:f.shots.l.length<=10000)(h3:OwnT i f.shots p)(h4:f.c_.Rules.l.length<=100000)(h5:0<=b.Owner/\b.Faults<=65535/\-1<=b.Faults): T 177 [.ptr i [],b.cv] p=resP i f (playerTurn f.c_.Rules.l f.row.l f.s_.Dice (frRoom f) b) p:=h _ _ _ ⟨i,f,b,rfl,h1,h2,h3,h4,h5,rfl⟩
theorem zq177{A B:Prop}(k:B)(h:A=B:=by have zy:=zA @zw177<|zA @rs177<|zA @tt3<|zA @tt23<|zA @tt25<|zA @tt34<|zA @tt36<|zA @tt37<|zA @tt39<|zA @tt44<|zA @tt61<|zA @tt66<|zA @tt186<|zA ti3.eq_1<|zA ti23.eq_1<|zA ti25.eq_1<|zA ti34.eq_1<|zA ti36.eq_1<|zA ti37.eq_1<|zA ti39.eq_1<|zA ti44.eq_1<|zA ti61.eq_1<|zA ti66.eq_1<|zA ti186.eq_1<|zA @t_25<|zA @t_195<|zA @t_196<|zA @t_197<|zA @Z0i<|zA @Q0f<|zA @X0e<|zA @Z0d<|zA @Q0h<|zA @X0k<|zA @K0r<|zA @zsl23<|zA @zsl37<|zA @h1<|zA @h2<|zA @h3<|zA @h4<|@h5;exact zQ): A:=h▸k
theorem zno177{P:Prop}(h:P:=by intro jj;simp[CV.has,CV.hasL,fault,Z0b.nohas,Y0a.nohas,Q0a.nohas,K0b.nohas,X0c.nohas]): P:=h
theorem zge177{P:Prop}(h:P:=by simp (disch:=first|exact zdl|fail) only[zheap,h1];first|done|rfl): P:=h
theorem c177: Con C 177 R177:=by
 refine Q0e C ?_ ?_ ?_
 ·rintro args p r r' ⟨i,f,b,h,h1,h2,h3,h4,h5,e⟩ ⟨i',f',b',h',h1',h2',h3',h4',h5',e'⟩
  subst e;subst e';simp_all[X0b.inj_iff,Y0a.inj_iff,K0a.inj_iff,Q0a.inj_iff,K0b.inj_iff,K0c.inj_iff,X0c.inj_iff,K0j,X0q]
 ·rintro args p r ⟨i,f,b,h,h1,h2,h3,h4,h5,rfl⟩;first|(split<;>simp;done)|(simp;done)|(simp only[resM];split<;>simp;done)|(simp only[resD];split<;>simp;done)  | (unfold resP;split<;>simp;done)
 rintro args p r ⟨i,f,b,rfl,h1,h2,h3,h4,h5,rfl⟩
 refine zW C false [(25,R25),(195,R195),(196,R196),(197,R197)] ⟨c25,c195,c196,c197,zT⟩ rfl xf177 zc177_ok fun call zh hF=>?_
 have t_25:=@t25 _ zh.1
 have t_195:=@t195 _ zh.2.1
 have t_196:=@t196 _ zh.2.2.1
 have t_197:=@t197 _ zh.2.2.2.1
 clear zh
 have hd_h1:=hF.dom _ _ h1
 have hx:=V0z f.row.l b.Owner
 have hX:=tdiv16 hx.2.1
 have hY:=tdiv16 hx.2.2
 have hR:ruleRun f.c_.Rules (playerEnv f.row.l f.s_.Dice (frRoom f) b)=runL f.c_.Rules.l (playerEnv f.row.l f.s_.Dice (frRoom f) b):=ruleRun_l (l:=⟨.view,f.c_.Rules.l,nofun⟩) (s:=f.c_.Rules) rfl _
 have hlen:=Z06 f.c_.Rules.l (playerEnv f.row.l f.s_.Dice (frRoom f) b)
 have hlen:(runL f.c_.Rules.l (playerEnv f.row.l f.s_.Dice (frRoom f) b)).1.Shots.l.length<=64:=by simpa[playerEnv]using hlen
 have hT:playerTurn f.c_.Rules.l f.row.l f.s_.Dice (frRoom f) b=if(runL f.c_.Rules.l (playerEnv f.row.l f.s_.Dice (frRoom f) b)).2.2=true then⟨(runL f.c_.Rules.l (playerEnv f.row.l f.s_.Dice (frRoom f) b)).1.Dice,(runL f.c_.Rules.l (playerEnv f.row.l f.s_.Dice (frRoom f) b)).1.Shots.l,(runL f.c_.Rules.l (playerEnv f.row.l f.s_.Dice (frRoom f) b)).1.Body⟩ else⟨f.s_.Dice,[],{b with Faults:=min (b.Faults+1) 65535}⟩:=rfl
 rw[hT]
 clear hT
 have hre:∀j,f.c_.Rules.tl=.own j\/f.c_.Tokens.tl=.own j\/f.row.tl=.own j\/f.shots.tl=.own j->j<p.n:=fun j hj=>
  hF.lt_obj (.arg (a:=CV.ptr i []) (by simp) rfl) h1 j (by
   simp only[XObj.has,X0b.has,K0a.has]
   rcases hj with h|h|h|h<;>simp[h])
 generalize runL f.c_.Rules.l (playerEnv f.row.l f.s_.Dice (frRoom f) b)=R at hR hlen
 generalize hE:playerEnv f.row.l f.s_.Dice (frRoom f) b=E at hR
 have hv:E.Shots.tl≠.view:=by rw[<- hE];simp[playerEnv]
 have hv2:E.Shots.l.length<=100000:=by rw[<- hE];simp[playerEnv]
 simp only[playerEnv]at hE
 obtain⟨⟨gb,gi,gd,gr,gt,gl,go⟩,ft,ok⟩:=R
 simp only at hlen
 cases ok with
 |false=>
  (have zx:=zA hE (zA hR h1);refine zq177 ?_;try exact zT)
  repeat'(apply zK.s<;>intro hc<;>(try simp only[zhd]at hc)<;>(try have hw:=X0a hc)<;>(refine zq177 ?_;try exact zT))
  all_goals(try clear zx)
  simp only[Bool.false_eq_true,if_false,resP,if_true]
  refine X0l hF hd_h1 zlm ⟨_,zge177,V0k rfl fun j hj=>?_⟩ (Y0c rfl (Z0c zno177))
  refine hre j ?_
  simp only[XObj.has,X0b.has,K0a.has,frDice]at hj
  rcases hj with(h|h)|h|h<;>simp[h]
 |true=>
  cases gl with
  |nil=>
   (have zx:=zA hE (zA hR h1);refine zq177 ?_;try exact zT)
   repeat'(apply zK.s<;>intro hc<;>(try simp only[zhd]at hc)<;>(try have hw:=X0a hc)<;>(refine zq177 ?_;try exact zT))
   all_goals(try clear zx)
   simp only[if_true,resP]
   refine X0l hF hd_h1 zlm ⟨_,zge177,V0k rfl fun j hj=>?_⟩ (Y0c rfl (Z0c zno177))
   refine hre j ?_
   simp only[XObj.has,X0b.has,K0a.has,frDice]at hj
   rcases hj with(h|h)|h|h<;>simp[h]
  |cons x m=>
   simp only[List.length_cons]at hlen
   rcases hf:f.shots with⟨ftl,fl,fo⟩
   have h3c:=h3
   rcases h3c with k3|⟨j,k3,hji,g1,hj0⟩
   ·have hs0:=own_nil k3
    rw[hf]at k3 hs0
    simp only at k3 hs0
    subst k3
    subst hs0
    (have zx:=zA hE (zA hR (zA hf h1));refine zq177 ?_;try exact zT)
    repeat'(apply zK.s<;>intro hc<;>(try simp only[zhd]at hc)<;>(try have hw:=X0a hc)<;>(refine zq177 ?_;try exact zT))
    all_goals(try clear zx)
    simp only[if_true,resP,hf,dropT,List.nil_append,reduceCtorEq,if_false]
    refine Y1u hF (J:=p.n+1+1+1+19+15+11) rfl (fun k o h=>?_) ⟨_,zge177,by simp[XObj.weak]⟩ (CV.weak_refl _ fun j hj=>absurd hj (Q0a.nohas _ j))
    by_cases hk:k=i
    ·subst hk
     rw[Hp.get_set_self]at h;cases h
     exact⟨hd_h1,by omega,.inr ⟨_,zge177,X1d (frDice f gd) (p.n+1+1+1+19+15+11) p.n _ fun j hj=>hre j (hj.imp id fun h=>h.imp id .inl)⟩⟩
    ·rw[Hp.get_set_ne _ _ _ hk]at h
     have hd:=hF.dom _ _ h
     exact⟨hd,by omega,.inl ⟨h,by simp (disch:=first|exact zdl|fail) only[Hp.bump_get,Hp.get_set_ne,Hp.get_new_ne];exact h⟩⟩
   ·have hjn:j<p.n:=hre j (.inr (.inr (.inr k3)))
    rw[hf]at k3 g1 hj0
    simp only at k3 g1 hj0
    subst k3
    have hfl:fl.length<=10000:=by have:=h2;rw[hf]at this;exact this
    (have zx:=zA hE (zA hR (zA hf (zA g1 h1)));refine zq177 ?_;try exact zT)
    repeat'(apply zK.s<;>intro hc<;>(try simp only[zhd]at hc)<;>(try have hw:=X0a hc)<;>(refine zq177 ?_;try exact zT))
    all_goals(try clear zx)
    simp only[if_true,resP,hf,dropT,reduceCtorEq,if_false]
    refine Y1u hF (J:=p.n+1+1+1+19+15+11) rfl (fun k o h=>?_) ⟨_,zge177,by simp[XObj.weak]⟩ (CV.weak_refl _ fun j hj=>absurd hj (Q0a.nohas _ j))
    by_cases hk:k=i
    ·subst hk
     rw[Hp.get_set_self]at h;cases h
     exact⟨hd_h1,by omega,.inr ⟨_,zge177,X1d (frDice f gd) (p.n+1+1+1+19+15+11) p.n _ fun j hj=>hre j (hj.imp id fun h=>h.imp id .inl)⟩⟩
    ·rw[Hp.get_set_ne _ _ _ hk]at h
     by_cases hkj:k=j
     ·subst hkj;rw[Hp.get_set_self]at h;cases h
     ·rw[Hp.get_set_ne _ _ _ hkj]at h
      have hd:=hF.dom _ _ h
      exact⟨hd,by omega,.inl ⟨h,by simp (disch:=first|exact zdl|fail) only[Hp.bump_get,Hp.get_set_ne,Hp.get_new_ne];exact h⟩⟩
theorem resP_nil(i:Nat)(f:X0b)(d:Int)(b:Q0a)(p:Hp): resP i f ⟨d,[],b⟩ p=.ret b.cv (p.set i (some (.var sh186 (frDice f d).cv))):=by simp[resP]
theorem resP_cons(i:Nat)(f:X0b)(d:Int)(x:Q0a)(m:List Q0a)(b:Q0a)(p:Hp): resP i f ⟨d,x::m,b⟩ p=.ret b.cv (((dropT f.shots.tl p).set i (some (.var sh186 (frShots (frDice f d) p.n (f.shots.l++x::m)).cv))).new (.tail (f.shots.l.length+(m.length+1)))):=by simp[resP]
theorem dropT_nil(p:Hp): dropT .nil p=p:=rfl
theorem dropT_own(j:Nat)(p:Hp): dropT (.own j) p=p.set j none:=rfl
def J137(i:Nat)(f:X0b)(p:Hp)(n:Nat)(ρ:Env)(q:Hp): Prop:=
 ∃(k:Nat) (sh:Lst Q0a),n=16-k/\k<=16/\ρ 0=.ptr i []/\ρ 8=.agg (f.s_.Bodies.map Q0a.cv)/\ρ 9=I k/\sh.l=(turnsS f.c_.Rules.l f.row.l f.s_ k).2/\q.t.get i=some (.var sh186 (X0b.mk f.c_ (turnsS f.c_.Rules.l f.row.l f.s_ k).1 f.row sh).cv)/\(sh.tl=.nil\/∃j,sh.tl=.own j/\p.n<=j/\j<q.n/\q.t.get j=some (.tail sh.l.length)/\0<sh.l.length)/\p.n<=q.n/\∀j o,j≠i->p.t.get j=some o->q.t.get j=some o
def R137: Rel:=fun args p r=>∃(i:Nat) (f:X0b),args=[.ptr i []]/\(p.t.get i=some (.var sh186 f.cv))/\(f.shots.tl=.nil)/\(f.c_.Rules.l.length<=100000)/\(∀b∈f.s_.Bodies,Body.right b=true)/\r=.ret (.tup []) (p.set i (some (.var sh186 (frTurns f).cv)))
theorem t137{T:XCall}(h:Has T 137 R137)(i:Nat)(f:X0b){p:Hp}(h1:p.t.get i=some (.var sh186 f.cv))(h2:f.shots.tl=.nil)(h3:f.c_.Rules.l.length<=100000)(h4:∀b∈f.s_.Bodies,Body.right b=true): T 137 [.ptr i []] p=.ret (.tup []) (p.set i (some (.var sh186 (frTurns f).cv))):=h _ _ _ ⟨i,f,rfl,h1,h2,h3,h4,rfl⟩
theorem zdis137{P:Prop}(h:P:=by first|exact zdis|(exact OwnT_nil _ _ _ _)|(refine OwnT_own ?_ ?_ ?_<;>exact zdis)|(simp only[Hp.bump_n,Hp.znew_n,Hp.zset_n,List.length_nil,List.length_cons,List.length_append,List.length_map];(first|done|omega))|(simp (disch:=first|exact zd1|(simp only[Hp.bump_n,Hp.znew_n,Hp.zset_n,List.length_nil,List.length_cons,List.length_append,List.length_map];(first|done|omega))) only[zheap,zx];(first|done|rfl))|fail): P:=h
theorem zq137{A B:Prop}(k:B)(h:A=B:=by have zy:=zA @zw137<|zA @rs137<|zA @tt3<|zA @tt34<|zA @tt63<|zA @tt66<|zA @tt186<|zA ti3.eq_1<|zA ti34.eq_1<|zA ti63.eq_1<|zA ti66.eq_1<|zA ti186.eq_1<|zA @t_177<|zA @t_178<|zA @Z0i<|zA @Q0f<|zA @Z0d<|zA @zsl63<|zA @resP_nil<|zA @resP_cons<|zA @dropT_nil<|zA @dropT_own<|zA @h1<|zA @h2<|zA @h3<|@h4;have zd:=@zdis137;exact zQd): A:=h▸k
theorem zno137{P:Prop}(h:P:=by intro jj;simp[CV.has,CV.hasL,fault,Z0b.nohas,Y0a.nohas,Q0a.nohas]): P:=h
theorem c137: Con C 137 R137:=by
 refine Q0e C ?_ ?_ ?_
 ·rintro args p r r' ⟨i,f,h,h1,h2,h3,h4,e⟩ ⟨i',f',h',h1',h2',h3',h4',e'⟩
  subst e;subst e';simp_all[X0b.inj_iff,Y0a.inj_iff,Q0a.inj_iff]
 ·rintro args p r ⟨i,f,h,h1,h2,h3,h4,rfl⟩;exact zr1
 rintro args p r ⟨i,f,rfl,h1,h2,h3,h4,rfl⟩
 refine zW C false [(177,R177),(178,R178)] ⟨c177,c178,zT⟩ rfl xf137 zc137_ok fun call zh hF=>?_
 have t_177:=@t177 _ zh.1
 have t_178:=@t178 _ zh.2.1
 clear zh
 have hd_h1:=hF.dom _ _ h1
 have hb:=f.s_.hBodies
 have hs0:=own_nil h2
 (have zx:=h1;refine zq137 ?_;try exact zT)
 repeat'(apply zK.s<;>intro hc<;>(try simp only[zhd]at hc)<;>(try have hw:=X0a hc)<;>(refine zq137 ?_;try exact zT))
 all_goals(try clear zx)
 (show W C false noExt call (ZC.loop Y1s) _ _ _);refine V0i C false noExt call Y1s _ _ _ (J137 i f p) 16 ⟨0,f.shots,rfl,by omega,(by simp[put_at,Q0d,K0e]),(by simp[put_at,Q0d,K0e]),(by simp[put_at,Q0d,K0e]),hs0,h1,.inl h2,Nat.le_refl _,fun _ _ _ h=>h⟩ ?_
 rintro n ρ q ⟨k,⟨tl,al,ao⟩,rfl,hk,e0,e8,e9,hal,g1,happ,hn,hle⟩
 have hi:i<q.n:=Nat.lt_of_lt_of_le hd_h1 hn
 have hlen:=Q05 f.c_.Rules.l f.row.l f.s_ k
 have hroom:frRoom ⟨f.c_,(turnsS f.c_.Rules.l f.row.l f.s_ k).1,f.row,⟨tl,al,ao⟩⟩=freeN (turnsS f.c_.Rules.l f.row.l f.s_ k).1.Bodies-(turnsS f.c_.Rules.l f.row.l f.s_ k).2.length:=by simp only at hal;simp[frRoom,hal]
 by_cases hlt:(k:Int)<16
 ·have hr:Body.right (nth f.s_.Bodies k)=true:=h4 _ (by rw[Q0l (by omega)];exact List.getElem_mem _)
  have hst:turnsS f.c_.Rules.l f.row.l f.s_ (k+1)=turnStep f.c_.Rules.l f.row.l f.s_.Bodies (turnsS f.c_.Rules.l f.row.l f.s_ k) k:=rfl
  have hbk:=(turnsS f.c_.Rules.l f.row.l f.s_ k).1.hBodies
  generalize hTk:turnsS f.c_.Rules.l f.row.l f.s_ k=T at hst hal g1 hlen hroom hbk
  obtain⟨sk,lk⟩:=T
  simp only at hal g1 hlen hroom hbk
  subst hal
  generalize hbb:nth f.s_.Bodies k=b at hr hst
  by_cases hK:b.Kind=1
  ·have hrb:=Y0f hr (by omega)
   obtain⟨⟨td,tsh,tb⟩,ht⟩:∃t,playerTurn f.c_.Rules.l f.row.l sk.Dice (freeN sk.Bodies-al.length) b=t:=⟨_,rfl⟩
   simp only[turnStep,hbb,bodyTurn,hK,if_true,ht]at hst
   cases tsh with
   |nil=>
    rcases happ with k3|⟨j,k3,hj1,hj2,g2,hj3⟩
    ·simp only at k3
     subst k3
     (have zx:=zA e0 (zA e8 (zA e9 (zA g1 (zA hlt (zA hbb (zA hK (zA hroom (zA ht h1))))))));refine zq137 ?_;try exact zT)
     repeat'(apply zK.s<;>intro hc<;>(try simp only[zhd]at hc)<;>(try have hw:=X0a hc)<;>(refine zq137 ?_;try exact zT))
     all_goals(try clear zx)
     exact⟨16-(k+1),by omega,k+1,⟨.nil,al,ao⟩,rfl,by omega,zev,zev,zev,by rw[hst];simp,by rw[hst];simp (disch:=first|exact zdl|fail) only[zheap];first|done|rfl,.inl rfl,zb9,fun a o ha h=>by have hd:=hF.dom a o h;simp (disch:=first|exact zdl|fail) only[Hp.bump_get,Hp.get_set_ne,Hp.get_new_ne];exact hle a o ha h⟩
    ·simp only at k3 g2 hj3
     subst k3
     (have zx:=zA e0 (zA e8 (zA e9 (zA g1 (zA g2 (zA hlt (zA hbb (zA hK (zA hroom (zA ht h1)))))))));refine zq137 ?_;try exact zT)
     repeat'(apply zK.s<;>intro hc<;>(try simp only[zhd]at hc)<;>(try have hw:=X0a hc)<;>(refine zq137 ?_;try exact zT))
     all_goals(try clear zx)
     exact⟨16-(k+1),by omega,k+1,⟨.own j,al,ao⟩,rfl,by omega,zev,zev,zev,by rw[hst];simp,by rw[hst];simp (disch:=first|exact zdl|fail) only[zheap];first|done|rfl,.inr ⟨j,rfl,hj1,zb9,zg9,hj3⟩,zb9,fun a o ha h=>by have hd:=hF.dom a o h;simp (disch:=first|exact zdl|fail) only[Hp.bump_get,Hp.get_set_ne,Hp.get_new_ne];exact hle a o ha h⟩
   |cons x m=>
    rcases happ with k3|⟨j,k3,hj1,hj2,g2,hj3⟩
    ·simp only at k3
     subst k3
     (have zx:=zA e0 (zA e8 (zA e9 (zA g1 (zA hlt (zA hbb (zA hK (zA hroom (zA ht h1))))))));refine zq137 ?_;try exact zT)
     repeat'(apply zK.s<;>intro hc<;>(try simp only[zhd]at hc)<;>(try have hw:=X0a hc)<;>(refine zq137 ?_;try exact zT))
     all_goals(try clear zx)
     exact⟨16-(k+1),by omega,k+1,⟨.own (q.n+1),al++x::m,nofun⟩,rfl,by omega,zev,zev,zev,by rw[hst],by rw[hst];simp (disch:=first|exact zdl|fail) only[zheap];first|done|rfl,.inr ⟨q.n+1,rfl,by omega,zb9,by simp (disch:=first|exact zdl|fail) only[zheap,List.length_append,List.length_cons],by simp;omega⟩,zb9,fun a o ha h=>by have hd:=hF.dom a o h;simp (disch:=first|exact zdl|fail) only[Hp.bump_get,Hp.get_set_ne,Hp.get_new_ne];exact hle a o ha h⟩
    ·simp only at k3 g2 hj3
     subst k3
     (have zx:=zA e0 (zA e8 (zA e9 (zA g1 (zA g2 (zA hlt (zA hbb (zA hK (zA hroom (zA ht h1)))))))));refine zq137 ?_;try exact zT)
     repeat'(apply zK.s<;>intro hc<;>(try simp only[zhd]at hc)<;>(try have hw:=X0a hc)<;>(refine zq137 ?_;try exact zT))
     all_goals(try clear zx)
     exact⟨16-(k+1),by omega,k+1,⟨.own (q.n+1),al++x::m,nofun⟩,rfl,by omega,zev,zev,zev,by rw[hst],by rw[hst];simp (disch:=first|exact zdl|fail) only[zheap];first|done|rfl,.inr ⟨q.n+1,rfl,by omega,zb9,by simp (disch:=first|exact zdl|fail) only[zheap,List.length_append,List.length_cons],by simp;omega⟩,zb9,fun a o ha h=>by have hd:=hF.dom a o h;simp (disch:=first|exact zdl|fail) only[Hp.bump_get,Hp.get_set_ne,Hp.get_new_ne];exact hle a o ha h⟩
  ·simp only[turnStep,hbb,bodyTurn,hK,if_false,List.append_nil]at hst
   have happ2:tl=.nil\/∃j,tl=.own j/\p.n<=j/\j<q.n/\q.t.get j=some (.tail al.length)/\0<al.length:=happ
   (have zx:=zA e0 (zA e8 (zA e9 (zA g1 (zA hlt (zA hbb (zA hK h1))))));refine zq137 ?_;try exact zT)
   repeat'(apply zK.s<;>intro hc<;>(try simp only[zhd]at hc)<;>(try have hw:=X0a hc)<;>(refine zq137 ?_;try exact zT))
   all_goals(try clear zx)
   refine⟨16-(k+1),by omega,k+1,⟨tl,al,ao⟩,rfl,by omega,zev,zev,zev,by rw[hst],by rw[hst];simp (disch:=first|exact zdl|fail) only[zheap];first|done|rfl,?_,zb9,fun a o ha h=>by have hd:=hF.dom a o h;simp (disch:=first|exact zdl|fail) only[Hp.bump_get,Hp.get_set_ne,Hp.get_new_ne];exact hle a o ha h⟩
   rcases happ2 with a1|⟨j,a1,a2,a3,a4,a5⟩
   ·exact .inl a1
   ·have hji:j≠i:=by omega
    refine .inr ⟨j,a1,a2,zb9,?_,a5⟩
    simp (disch:=first|exact zdl|fail) only[zheap,a4]
 ·have hk16:k=16:=by omega
  subst hk16
  (have zx:=zA e0 (zA e8 (zA e9 (zA g1 (zA hlt h1))));refine zq137 ?_;try exact zT)
  repeat'(apply zK.s<;>intro hc<;>(try simp only[zhd]at hc)<;>(try have hw:=X0a hc)<;>(refine zq137 ?_;try exact zT))
  all_goals(try clear zx)
  refine X0l hF hd_h1 hle ⟨_,g1,?_⟩ (Y0d (Z0c zno137))
  have hre:∀j,f.c_.Rules.tl=.own j\/f.c_.Tokens.tl=.own j\/f.row.tl=.own j->j<p.n:=fun j hj=>
   hF.lt_obj (.arg (a:=CV.ptr i []) (by simp) rfl) h1 j (by
    simp only[XObj.has,X0b.has,K0a.has]
    rcases hj with h|h|h<;>simp[h])
  simp only at hal
  subst hal
  exact Q1j f.c_ (turnsS f.c_.Rules.l f.row.l f.s_ 16).1 f.row ⟨tl,_,ao⟩ p.n hre (happ.imp id fun⟨j,a1,_,_,_,a5⟩=>⟨⟨j,a1⟩,a5⟩)
end Go.Proofs.Ytpchcfkebljopaa
end
section
namespace Go.Proofs.Ytpchcfkebljopaa
open Go.Cl Go Go.RowKit
theorem V0m{α:Type}[Inhabited α]{l:List α}{k j:Nat}{x:α}(h:j≠k): nth (l.set k x) j=nth l j:=by
 simp only[nth,List.getElem?_set_ne (Ne.symm h)]
theorem Q0n{α:Type}[Inhabited α]{l:List α}{k:Nat}{x:α}(h:k<l.length): nth (l.set k x) k=x:=by
 simp[nth,h]
theorem Z1o(st:Y0a×List Q0a): ∀(k j:Nat),k<=j->nth (setsS st k).1.Bodies j=nth st.1.Bodies j
 |0,j,_=>rfl
 |k+1,j,h=>by
  have ih:=Z1o st k j (by omega)
  simp only[setsS,setStep]
  split
  ·exact ih
  ·split
   ·simp only[Y0a.put_2k];rw[V0m (by omega)];exact ih
   ·exact ih
theorem X1a{α:Type}[Inhabited α](f:α->Bool): ∀(l:List α) (k:Nat),firstW f l k=-1\/∃j,j<l.length/\firstW f l k=((k+j:Nat):Int)/\f (nth l j)=true
 |[],k=>.inl rfl
 |x::l,k=>by
  by_cases h:f x=true
  ·exact .inr ⟨0,by simp,by simp[firstW,h],by simpa[nth]using h⟩
  ·rcases X1a f l (k+1)with e|⟨j,hj,e,hf⟩
   ·left;simp[firstW,h,e]
   ·exact .inr ⟨j+1,by simp;omega,by rw[show firstW f (x::l) k=firstW f l (k+1) by simp[firstW,h],e];congr 1;omega,by simpa[nth]using hf⟩
theorem struck_spec(l:List Q0a)(b:Q0a): struckL l b=-1\/∃j,j<l.length/\struckL l b=(j:Int)/\(nth l j).Kind=1/\bodyHit (nth l j) b=true:=by
 rcases X1a (fun a:Q0a=>decide (a.Kind=1)&&bodyHit a b) l 0 with h|⟨j,hj,e,hf⟩
 ·exact .inl h
 ·refine .inr ⟨j,hj,by unfold struckL;rw[e];simp,?_⟩
  simpa using hf
structure HitOk(s:Y0a): Prop where
 own:∀j,j<16->(nth s.Bodies j).Kind=2->0<=(nth s.Bodies j).Owner/\(nth s.Bodies j).Owner<=7
 score:∀j,j<8->0<=nth s.Score j/\nth s.Score j<=2147483647
theorem HitOk.put{s:Y0a}(h:HitOk s)(k:Nat)(b:Q0a)(hb:b.Kind=2->0<=b.Owner/\b.Owner<=7): HitOk (s.put_2k k b):=by
 refine⟨fun j hj=>?_,h.score⟩
 show(nth (s.Bodies.set k b) j).Kind=2->_/\(nth (s.Bodies.set k b) j).Owner<=7
 by_cases e:j=k
 ·subst e
  show _->0<=(nth (s.Bodies.set j b) j).Owner/\_
  rw[Q0n (by rw[s.hBodies];exact hj)];exact hb
 ·show _->0<=(nth (s.Bodies.set k b) j).Owner/\_
  rw[V0m e];exact h.own j hj
theorem HitOk.putS{s:Y0a}(h:HitOk s)(k:Nat)(n:Int)(hn:0<=n/\n<=2147483647): HitOk (s.put_3k k n):=by
 refine⟨h.own,fun j hj=>?_⟩
 show 0<=nth (s.Score.set k n) j/\nth (s.Score.set k n) j<=_
 by_cases e:j=k
 ·subst e;rw[Q0n (by rw[s.hScore];exact hj)];exact hn
 ·rw[V0m e];exact h.score j hj
theorem hitStep_ok(players:Int){s:Y0a}(h:HitOk s){k:Nat}(hk:k<16): HitOk (hitStep players s k):=by
 unfold hitStep
 simp only
 split
 ·exact h
 ·rename_i hK
  have hK:(nth s.Bodies k).Kind=2:=by simpa using hK
  split
  ·exact h
  ·have ho:=h.own k hk hK
   refine HitOk.put (HitOk.put (HitOk.putS h _ _ ?_) _ _ (by simp[Q0a.zero])) _ _ (by simp[again,bodyBorn])
   have:=h.score (nth s.Bodies k).Owner.toNat (by omega)
   omega
theorem Y1r(players:Int){s:Y0a}(h:HitOk s): ∀k,k<=16->HitOk (hitsS players s k)
 |0,_=>h
 |k+1,hk=>hitStep_ok players (Y1r players h k (by omega)) (by omega)
theorem qslice_tl(C:Ctx){α:Type}(f:α->CV){t e:TypeId}{sh:Shape}{b:Nat}{z:CV}{te:TI}(ht:C.tt t=some ⟨.base (.slice e),sh,b,z⟩)(hte:C.tt e=some te)(hsh:∀x,(f x).shape=te.sh)(h:Heap)(x:α)(m:List α)(o:_):
  qslice C h t (Lst.cv f ⟨.part,x::m,o⟩) (some (I 1)) none none=some (Lst.cv f ⟨.part,m,nofun⟩):=by
 simp only[qslice,ht,hte,Lst.cv]
 rw[if_pos (by simp[hsh])]
 simp only[qbnd,List.length_map,List.length_cons,List.map_cons]
 rw[if_pos (by omega)]
 have:(List.map f m).take m.length=List.map f m:=List.take_of_length_le (by simp)
 simp[this]
noncomputable def frSets(f:X0b): X0b:={f with s_:=(setsS (f.s_,f.shots.l) 16).1,shots:=⟨.view,(setsS (f.s_,f.shots.l) 16).2,nofun⟩}
noncomputable def frHits(f:X0b): X0b:={f with s_:=hitsS f.c_.Players f.s_ 16}
theorem V1h(c:K0a)(st:Y0a)(row:Lst Q0b)(sh:Lst Q0a)(l:List Q0a)(hl:sh.l=l)(n:Nat)(h:∀j,c.Rules.tl=.own j\/c.Tokens.tl=.own j\/row.tl=.own j->j<n): XObj.weak (fun k=>k) n (.var sh186 (X0b.mk c st row sh).cv) (.var sh186 (X0b.mk c st row ⟨.view,l,nofun⟩).cv):=by
 have h1:CV.weak (fun k=>k) n c.cv c.cv:=Y0d fun j hj=>h j (by rcases(K0a.has _ j).1 hj with h|h<;>simp[h])
 have h2:CV.weak (fun k=>k) n st.cv st.cv:=Y0d (Z0c (Y0a.nohas _))
 have h3:CV.weak (fun k=>k) n (Lst.cv Q0b.cv row) (Lst.cv Q0b.cv row):=Y0d fun j hj=>h j (.inr (.inr ((Lst.has _ Q0b.nohas _ j).1 hj)))
 have h4:CV.weakL (fun k=>k) n (l.map Q0a.cv) (l.map Q0a.cv):=CV.weakL_refl _ fun j hj=>(X0n Q0a.nohas l j hj).elim
 subst hl
 refine⟨rfl,?_⟩
 simp only[X0b.cv,CV.weak,CV.weakL]
 refine⟨h1,h2,h3,?_,trivial⟩
 simp only[Lst.cv,CV.weak]
 exact⟨by cases sh.tl<;>simp[Tail.weak],h4⟩
end Go.Proofs.Ytpchcfkebljopaa
end
section
namespace Go.Proofs.Ytpchcfkebljopaa
open Go.Cl Go Go.RowKit
set_option maxRecDepth 100000
set_option linter.constructorNameAsVariable false
theorem zs37(h:Heap)(x:Q0a)(m:List Q0a)(o:_): qslice C h 37 (Lst.cv Q0a.cv ⟨.part,x::m,o⟩) (some (I 1)) none none=some (Lst.cv Q0a.cv ⟨.part,m,nofun⟩):=qslice_tl C Q0a.cv tt37 tt34 Q0a.shape h x m o
theorem nth_cons0{α:Type}[Inhabited α](x:α)(l:List α): nth (x::l) 0=x:=rfl
def J138(i:Nat)(f:X0b)(p:Hp)(n:Nat)(ρ:Env)(q:Hp): Prop:=
 ∃(k:Nat) (sh:Lst Q0a),n=16-k/\k<=16/\ρ 0=.ptr i []/\ρ 8=.agg (f.s_.Bodies.map Q0a.cv)/\ρ 9=I k/\sh.l=(setsS (f.s_,f.shots.l) k).2/\q.t.get i=some (.var sh186 (X0b.mk f.c_ (setsS (f.s_,f.shots.l) k).1 f.row sh).cv)/\(sh.tl=.nil\/sh.tl=.part)/\p.n<=q.n/\∀j o,j≠i->p.t.get j=some o->q.t.get j=some o
def R138: Rel:=fun args p r=>∃(i:Nat) (f:X0b),args=[.ptr i []]/\(p.t.get i=some (.var sh186 f.cv))/\(f.shots.tl=.nil\/f.shots.tl=.part)/\r=.ret (.tup []) (p.set i (some (.var sh186 (frSets f).cv)))
theorem t138{T:XCall}(h:Has T 138 R138)(i:Nat)(f:X0b){p:Hp}(h1:p.t.get i=some (.var sh186 f.cv))(h2:f.shots.tl=.nil\/f.shots.tl=.part): T 138 [.ptr i []] p=.ret (.tup []) (p.set i (some (.var sh186 (frSets f).cv))):=h _ _ _ ⟨i,f,rfl,h1,h2,rfl⟩
theorem zq138{A B:Prop}(k:B)(h:A=B:=by have zy:=zA @zw138<|zA @rs138<|zA @tt3<|zA @tt34<|zA @tt37<|zA @tt63<|zA @tt66<|zA @tt186<|zA ti3.eq_1<|zA ti34.eq_1<|zA ti37.eq_1<|zA ti63.eq_1<|zA ti66.eq_1<|zA ti186.eq_1<|zA @Z0i<|zA @Q0f<|zA @Z0d<|zA @zsl37<|zA @zsl63<|zA @zs37<|zA @nth_cons0<|zA @h1<|@h2;exact zQ): A:=h▸k
theorem zno138{P:Prop}(h:P:=by intro jj;simp[CV.has,CV.hasL,fault,Z0b.nohas,Y0a.nohas,Q0a.nohas]): P:=h
theorem c138: Con C 138 R138:=by
 refine Q0e C ?_ ?_ ?_
 ·rintro args p r r' ⟨i,f,h,h1,h2,e⟩ ⟨i',f',h',h1',h2',e'⟩
  subst e;subst e';simp_all[X0b.inj_iff,Y0a.inj_iff,Q0a.inj_iff,X0q]
 ·rintro args p r ⟨i,f,h,h1,h2,rfl⟩;exact zr1
 rintro args p r ⟨i,f,rfl,h1,h2,rfl⟩
 refine zW C false [] zT rfl xf138 zc138_ok fun call zh hF=>?_
 clear zh
 have hd_h1:=hF.dom _ _ h1
 have hb:=f.s_.hBodies
 (have zx:=h1;refine zq138 ?_;try exact zT)
 repeat'(apply zK.s<;>intro hc<;>(try simp only[zhd]at hc)<;>(try have hw:=X0a hc)<;>(refine zq138 ?_;try exact zT))
 all_goals(try clear zx)
 (show W C false noExt call (ZC.loop V1s) _ _ _);refine V0i C false noExt call V1s _ _ _ (J138 i f p) 16 ⟨0,f.shots,rfl,by omega,(by simp[put_at,Q0d,K0e]),(by simp[put_at,Q0d,K0e]),(by simp[put_at,Q0d,K0e]),rfl,h1,h2,Nat.le_refl _,fun _ _ _ h=>h⟩ ?_
 rintro n ρ q ⟨k,⟨tl,al,ao⟩,rfl,hk,e0,e8,e9,hal,g1,htl,hn,hle⟩
 have hi:i<q.n:=Nat.lt_of_lt_of_le hd_h1 hn
 by_cases hlt:(k:Int)<16
 ·have hst:setsS (f.s_,f.shots.l) (k+1)=setStep (setsS (f.s_,f.shots.l) k) k:=rfl
  have hkeep:nth (setsS (f.s_,f.shots.l) k).1.Bodies k=nth f.s_.Bodies k:=Z1o (f.s_,f.shots.l) k k (Nat.le_refl _)
  have hbk:=(setsS (f.s_,f.shots.l) k).1.hBodies
  generalize hTk:setsS (f.s_,f.shots.l) k=T at hst hal g1 hkeep hbk
  obtain⟨sk,lk⟩:=T
  simp only at hal g1 hkeep hbk
  subst hal
  by_cases hK:(nth f.s_.Bodies k).Kind=0
  ·cases al with
   |nil=>
    simp only[setStep]at hst
    (have zx:=zA e0 (zA e8 (zA e9 (zA g1 (zA hlt (zA hK h1)))));refine zq138 ?_;try exact zT)
    repeat'(apply zK.s<;>intro hc<;>(try simp only[zhd]at hc)<;>(try have hw:=X0a hc)<;>(refine zq138 ?_;try exact zT))
    all_goals(try clear zx)
    exact⟨16-(k+1),by omega,k+1,⟨tl,[],ao⟩,rfl,by omega,zev,zev,zev,by rw[hst],by rw[hst];simp (disch:=first|exact zdl|fail) only[zheap,g1],htl,zb9,fun a o ha h=>by have hd:=hF.dom a o h;simp (disch:=first|exact zdl|fail) only[Hp.bump_get,Hp.get_set_ne,Hp.get_new_ne];exact hle a o ha h⟩
   |cons x m=>
    have htp:tl=.part:=by
     rcases htl with h|h
     ·simp only at h;subst h;cases(ao rfl)
     ·exact h
    subst htp
    simp only[setStep,hkeep,hK,if_true]at hst
    (have zx:=zA e0 (zA e8 (zA e9 (zA g1 (zA hlt (zA hK h1)))));refine zq138 ?_;try exact zT)
    repeat'(apply zK.s<;>intro hc<;>(try simp only[zhd]at hc)<;>(try have hw:=X0a hc)<;>(refine zq138 ?_;try exact zT))
    all_goals(try clear zx)
    all_goals first|(exfalso;omega)|skip
    exact⟨16-(k+1),by omega,k+1,⟨.part,m,nofun⟩,rfl,by omega,zev,zev,zev,by rw[hst],by rw[hst];simp (disch:=first|exact zdl|fail) only[zheap];first|done|rfl,.inr rfl,zb9,fun a o ha h=>by have hd:=hF.dom a o h;simp (disch:=first|exact zdl|fail) only[Hp.bump_get,Hp.get_set_ne,Hp.get_new_ne];exact hle a o ha h⟩
  ·have hst2:setsS (f.s_,f.shots.l) (k+1)=(sk,al):=by rw[hst];simp only[setStep];cases al<;>simp[hkeep,hK]
   (have zx:=zA e0 (zA e8 (zA e9 (zA g1 (zA hlt (zA hK h1)))));refine zq138 ?_;try exact zT)
   repeat'(apply zK.s<;>intro hc<;>(try simp only[zhd]at hc)<;>(try have hw:=X0a hc)<;>(refine zq138 ?_;try exact zT))
   all_goals(try clear zx)
   exact⟨16-(k+1),by omega,k+1,⟨tl,al,ao⟩,rfl,by omega,zev,zev,zev,by rw[hst2],by rw[hst2];simp (disch:=first|exact zdl|fail) only[zheap,g1],htl,zb9,fun a o ha h=>by have hd:=hF.dom a o h;simp (disch:=first|exact zdl|fail) only[Hp.bump_get,Hp.get_set_ne,Hp.get_new_ne];exact hle a o ha h⟩
 ·have hk16:k=16:=by omega
  subst hk16
  (have zx:=zA e0 (zA e8 (zA e9 (zA g1 (zA hlt h1))));refine zq138 ?_;try exact zT)
  repeat'(apply zK.s<;>intro hc<;>(try simp only[zhd]at hc)<;>(try have hw:=X0a hc)<;>(refine zq138 ?_;try exact zT))
  all_goals(try clear zx)
  refine X0l hF hd_h1 hle ⟨_,g1,?_⟩ (Y0d (Z0c zno138))
  have hre:∀j,f.c_.Rules.tl=.own j\/f.c_.Tokens.tl=.own j\/f.row.tl=.own j->j<p.n:=fun j hj=>
   hF.lt_obj (.arg (a:=CV.ptr i []) (by simp) rfl) h1 j (by
    simp only[XObj.has,X0b.has,K0a.has]
    rcases hj with h|h|h<;>simp[h])
  exact V1h f.c_ (setsS (f.s_,f.shots.l) 16).1 f.row ⟨tl,al,ao⟩ _ hal p.n hre
def J139(i:Nat)(f:X0b)(p:Hp)(n:Nat)(ρ:Env)(q:Hp): Prop:=
 ∃(k:Nat),n=16-k/\k<=16/\ρ 0=.ptr i []/\ρ 6=I k/\q.t.get i=some (.var sh186 (X0b.mk f.c_ (hitsS f.c_.Players f.s_ k) f.row f.shots).cv)/\p.n<=q.n/\∀j o,j≠i->p.t.get j=some o->q.t.get j=some o
def R139: Rel:=fun args p r=>∃(i:Nat) (f:X0b),args=[.ptr i []]/\(p.t.get i=some (.var sh186 f.cv))/\(HitOk f.s_)/\r=.ret (.tup []) (p.set i (some (.var sh186 (frHits f).cv)))
theorem t139{T:XCall}(h:Has T 139 R139)(i:Nat)(f:X0b){p:Hp}(h1:p.t.get i=some (.var sh186 f.cv))(h2:HitOk f.s_): T 139 [.ptr i []] p=.ret (.tup []) (p.set i (some (.var sh186 (frHits f).cv))):=h _ _ _ ⟨i,f,rfl,h1,h2,rfl⟩
theorem zq139{A B:Prop}(k:B)(h:A=B:=by have zy:=zA @zw139<|zA @rs139<|zA @tt3<|zA @tt34<|zA @tt61<|zA @tt63<|zA @tt64<|zA @tt66<|zA @tt186<|zA ti3.eq_1<|zA ti34.eq_1<|zA ti61.eq_1<|zA ti63.eq_1<|zA ti64.eq_1<|zA ti66.eq_1<|zA ti186.eq_1<|zA @t_179<|zA @t_64<|zA @Z0i<|zA @Q0f<|zA @Z0d<|zA @X0e<|zA @zsl63<|zA @zsl64<|zA @h1<|@h2;exact zQ): A:=h▸k
theorem zno139{P:Prop}(h:P:=by intro jj;simp[CV.has,CV.hasL,fault,Z0b.nohas,Y0a.nohas,Q0a.nohas]): P:=h
theorem c139: Con C 139 R139:=by
 refine Q0e C ?_ ?_ ?_
 ·rintro args p r r' ⟨i,f,h,h1,h2,e⟩ ⟨i',f',h',h1',h2',e'⟩
  subst e;subst e';simp_all[X0b.inj_iff,Y0a.inj_iff,Q0a.inj_iff,K0a.inj_iff]
 ·rintro args p r ⟨i,f,h,h1,h2,rfl⟩;exact zr1
 rintro args p r ⟨i,f,rfl,h1,h2,rfl⟩
 refine zW C false [(179,R179),(64,R64)] ⟨c179,c64,zT⟩ rfl xf139 zc139_ok fun call zh hF=>?_
 have t_179:=@t179 _ zh.1
 have t_64:=@t64 _ zh.2.1
 clear zh
 have hd_h1:=hF.dom _ _ h1
 (have zx:=h1;refine zq139 ?_;try exact zT)
 repeat'(apply zK.s<;>intro hc<;>(try simp only[zhd]at hc)<;>(try have hw:=X0a hc)<;>(refine zq139 ?_;try exact zT))
 all_goals(try clear zx)
 (show W C false noExt call (ZC.loop Z1r) _ _ _);refine V0i C false noExt call Z1r _ _ _ (J139 i f p) 16 ⟨0,rfl,by omega,(by simp[put_at,Q0d,K0e]),(by simp[put_at,Q0d,K0e]),h1,Nat.le_refl _,fun _ _ _ h=>h⟩ ?_
 rintro n ρ q ⟨k,rfl,hk,e0,e6,g1,hn,hle⟩
 have hi:i<q.n:=Nat.lt_of_lt_of_le hd_h1 hn
 by_cases hlt:(k:Int)<16
 ·have hok:=Y1r f.c_.Players h2 k hk
  have hst:hitsS f.c_.Players f.s_ (k+1)=hitStep f.c_.Players (hitsS f.c_.Players f.s_ k) k:=rfl
  generalize hTk:hitsS f.c_.Players f.s_ k=s at hst g1 hok
  have hbk:=s.hBodies
  have hsc:=s.hScore
  by_cases hK:(nth s.Bodies k).Kind=2
  ·have ho:=hok.own k (by omega) hK
   have hsv:=hok.score (nth s.Bodies k).Owner.toNat (by omega)
   rcases struck_spec s.Bodies (nth s.Bodies k)with ha|⟨at_,ha1,ha,ha2,_⟩
   ·have hst2:hitStep f.c_.Players s k=s:=by simp[hitStep,hK,ha]
    (have zx:=zA e0 (zA e6 (zA g1 (zA hlt (zA hK (zA ha h1)))));refine zq139 ?_;try exact zT)
    repeat'(apply zK.s<;>intro hc<;>(try simp only[zhd]at hc)<;>(try have hw:=X0a hc)<;>(refine zq139 ?_;try exact zT))
    all_goals(try clear zx)
    exact⟨16-(k+1),by omega,k+1,rfl,by omega,zev,zev,by rw[hst,hst2];simp (disch:=first|exact zdl|fail) only[zheap,g1];first|done|rfl,zb9,fun a o ha' h=>by have hd:=hF.dom a o h;simp (disch:=first|exact zdl|fail) only[Hp.bump_get,Hp.get_set_ne,Hp.get_new_ne];exact hle a o ha' h⟩
   ·have hak:at_≠k:=by intro e;subst e;omega
    have hst2:hitStep f.c_.Players s k=((s.put_3k (nth s.Bodies k).Owner.toNat (min (nth s.Score (nth s.Bodies k).Owner.toNat+1) 2147483647)).put_2k k Q0a.zero).put_2k at_ (again f.c_.Players (nth ((s.put_3k (nth s.Bodies k).Owner.toNat (min (nth s.Score (nth s.Bodies k).Owner.toNat+1) 2147483647)).put_2k k Q0a.zero).Bodies at_)):=by
     have hng:¬((at_:Int)<0):=by omega
     simp only[hitStep,hK,ha,hng,ne_eq,not_true,if_false,Int.toNat_natCast]
    have hng:¬((at_:Int)<0):=by omega
    (have zx:=zA e0 (zA e6 (zA g1 (zA hlt (zA hK (zA ha (zA hng h1))))));refine zq139 ?_;try exact zT)
    repeat'(apply zK.s<;>intro hc<;>(try simp only[zhd]at hc)<;>(try have hw:=X0a hc)<;>(refine zq139 ?_;try exact zT))
    all_goals(try clear zx)
    exact⟨16-(k+1),by omega,k+1,rfl,by omega,zev,zev,by rw[hst,hst2];simp (disch:=first|exact zdl|fail) only[zheap,g1];first|done|rfl,zb9,fun a o ha' h=>by have hd:=hF.dom a o h;simp (disch:=first|exact zdl|fail) only[Hp.bump_get,Hp.get_set_ne,Hp.get_new_ne];exact hle a o ha' h⟩
  ·have hst2:hitStep f.c_.Players s k=s:=by simp[hitStep,hK]
   (have zx:=zA e0 (zA e6 (zA g1 (zA hlt (zA hK h1))));refine zq139 ?_;try exact zT)
   repeat'(apply zK.s<;>intro hc<;>(try simp only[zhd]at hc)<;>(try have hw:=X0a hc)<;>(refine zq139 ?_;try exact zT))
   all_goals(try clear zx)
   exact⟨16-(k+1),by omega,k+1,rfl,by omega,zev,zev,by rw[hst,hst2];simp (disch:=first|exact zdl|fail) only[zheap,g1];first|done|rfl,zb9,fun a o ha' h=>by have hd:=hF.dom a o h;simp (disch:=first|exact zdl|fail) only[Hp.bump_get,Hp.get_set_ne,Hp.get_new_ne];exact hle a o ha' h⟩
 ·have hk16:k=16:=by omega
  subst hk16
  (have zx:=zA e0 (zA e6 (zA g1 (zA hlt h1)));refine zq139 ?_;try exact zT)
  repeat'(apply zK.s<;>intro hc<;>(try simp only[zhd]at hc)<;>(try have hw:=X0a hc)<;>(refine zq139 ?_;try exact zT))
  all_goals(try clear zx)
  refine X0l hF hd_h1 hle ⟨_,g1,V0k rfl fun j hj=>?_⟩ (Y0d (Z0c zno139))
  refine hF.lt_obj (.arg (a:=CV.ptr i []) (by simp) rfl) h1 j ?_
  simp only[XObj.has,X0b.has,frHits]at hj ⊢
  exact hj
def R83: Rel:=fun args p r=>∃(o:Q0c),args=[o.cv]/\r=.ret (Bo (!opRight o)) p
theorem t83{T:XCall}(h:Has T 83 R83)(o:Q0c){p:Hp}:T 83 [o.cv] p=.ret (Bo (!opRight o)) p:=h _ _ _ ⟨o,rfl,rfl⟩
theorem zq83{A B:Prop}(k:B)(h:A=B:=by have zy:=zA @zw83<|zA @rs83<|zA @tt3<|zA @tt29<|zA ti3.eq_1<|zA ti29.eq_1<|zA @t_84<|@Y0j;exact zQ): A:=h▸k
theorem zno83{P:Prop}(h:P:=by intro jj;simp[CV.has,CV.hasL,fault,Z0b.nohas,Q0c.nohas]): P:=h
theorem c83: Con C 83 R83:=by
 refine Q0e C ?_ ?_ ?_
 ·rintro args p r r' ⟨o,h,e⟩ ⟨o',h',e'⟩
  subst e;subst e';simp_all[Q0c.inj_iff]
 ·rintro args p r ⟨o,h,rfl⟩;exact zr1
 rintro args p r ⟨o,rfl,rfl⟩
 refine zW C false [(84,R84)] ⟨c84,zT⟩ rfl xf83 zc83_ok fun call zh hF=>?_
 have t_84:=@t84 _ zh.1
 clear zh
 (have zx:=zT;refine zq83 ?_;try exact zT)
 repeat'(apply zK.s<;>intro hc<;>(try simp only[zhd,zhn]at hc)<;>(try have hw:=X0a hc)<;>(refine zq83 ?_;try exact zT))
 all_goals(try clear zx)
 all_goals refine K0d hF zle (Y0c ?_ (Z0c zno83))
 all_goals simp_all[opRight]
def J155(l:Lst Q0c)(p:Hp)(n:Nat)(ρ:Env)(q:Hp): Prop:=
 ∃(k:Nat),n=l.l.length-k/\k<=l.l.length/\ρ 0=l.cv Q0c.cv/\ρ 1=.fn 83 [] []/\ρ 7=I l.l.length/\ρ 8=I k/\firstW (fun o=>!opRight o) (l.l.drop k) k=firstW (fun o=>!opRight o) l.l 0/\HpLe p q
def R155: Rel:=fun args p r=>∃(l:Lst Q0c),args=[l.cv Q0c.cv,.fn 83 [] []]/\(l.l.length<=1000000)/\r=.ret (I (firstW (fun o=>!opRight o) l.l 0)) p
theorem t155{T:XCall}(h:Has T 155 R155)(l:Lst Q0c){p:Hp}(hl:l.l.length<=1000000): T 155 [l.cv Q0c.cv,.fn 83 [] []] p=.ret (I (firstW (fun o=>!opRight o) l.l 0)) p:=h _ _ _ ⟨l,rfl,hl,rfl⟩
theorem zq155{A B:Prop}(k:B)(h:A=B:=by have zy:=zA @zw155<|zA @rs155<|zA @tt3<|zA @tt23<|zA @tt29<|zA ti3.eq_1<|zA ti23.eq_1<|zA ti29.eq_1<|zA @t_83<|zA @Y0j<|zA @zsl23<|@hl;exact zQ): A:=h▸k
theorem zno155{P:Prop}(h:P:=by intro jj;simp[CV.has,CV.hasL,fault,Z0b.nohas,Q0c.nohas]): P:=h
theorem c155: Con C 155 R155:=by
 refine Q0e C ?_ ?_ ?_
 ·rintro args p r r' ⟨l,h,hl,e⟩ ⟨l',h',hl',e'⟩
  subst e;subst e';simp_all[Q0c.inj_iff,K0j]
 ·rintro args p r ⟨l,h,hl,rfl⟩;exact zr1
 rintro args p r ⟨l,rfl,hl,rfl⟩
 refine zW C false [(83,R83)] ⟨c83,zT⟩ rfl xf155 zc155_ok fun call zh hF=>?_
 have t_83:=@t83 _ zh.1
 clear zh
 (have zx:=zT;refine zq155 ?_;try exact zT)
 repeat'(apply zK.s<;>intro hc<;>(try simp only[zhd,zhn]at hc)<;>(try have hw:=X0a hc)<;>(refine zq155 ?_;try exact zT))
 all_goals(try clear zx)
 show W C false noExt call (ZC.block 0 (ZC.loop Q1b)) _ _ (seqQ _ _)
 show W C false noExt call (ZC.loop Q1b) _ _ _
 refine V0i C false noExt call Q1b _ _ _ (J155 l p) l.l.length ⟨0,rfl,by omega,(by simp[put_at,Q0d,K0e]),(by simp[put_at,Q0d];rfl),(by simp[put_at,Q0d,K0e]),(by simp[put_at,Q0d,K0e]),by simp,zle⟩ ?_
 rintro n ρ q ⟨k,rfl,hk,e0,e1,e7,e8,hj,hle⟩
 by_cases hlt:(k:Int)<l.l.length
 ·have hd:=V0s (l:=l.l) (k:=k) (by omega)
  rw[hd]at hj
  simp only[firstW]at hj
  cases hr:opRight (nth l.l k) with
  |true=>
   rw[if_neg (by simp[hr])]at hj
   (have zx:=zA e0 (zA e1 (zA e7 (zA e8 (zA hlt hr))));refine zq155 ?_;try exact zT)
   repeat'(apply zK.s<;>intro hc<;>(try simp only[zhd,zhn]at hc)<;>(try have hw:=X0a hc)<;>(refine zq155 ?_;try exact zT))
   all_goals(try clear zx)
   exact⟨l.l.length-(k+1),by omega,k+1,rfl,by omega,zev,zev,zev,zev,by simpa using hj,zlq⟩
  |false=>
   rw[if_pos (by simp[hr])]at hj
   (have zx:=zA e0 (zA e1 (zA e7 (zA e8 (zA hlt hr))));refine zq155 ?_;try exact zT)
   repeat'(apply zK.s<;>intro hc<;>(try simp only[zhd,zhn]at hc)<;>(try have hw:=X0a hc)<;>(refine zq155 ?_;try exact zT))
   all_goals(try clear zx)
   refine K0d hF zlq (Y0c ?_ (Z0c zno155))
   rw[<- hj]
 ·(have zx:=zA e0 (zA e1 (zA e7 (zA e8 hlt)));refine zq155 ?_;try exact zT)
  repeat'(apply zK.s<;>intro hc<;>(try simp only[zhd,zhn]at hc)<;>(try have hw:=X0a hc)<;>(refine zq155 ?_;try exact zT))
  all_goals(try clear zx)
  refine K0d hF zlq (Y0c ?_ (Z0c zno155))
  rw[<- hj,List.drop_eq_nil_of_le (by omega)];rfl
def R82: Rel:=fun args p r=>∃(l:Lst Q0c),args=[l.cv Q0c.cv,.fn 83 [] []]/\(l.l.length<=1000000)/\r=.ret (Bo (!l.l.all opRight)) p
theorem t82{T:XCall}(h:Has T 82 R82)(l:Lst Q0c){p:Hp}(hl:l.l.length<=1000000): T 82 [l.cv Q0c.cv,.fn 83 [] []] p=.ret (Bo (!l.l.all opRight)) p:=h _ _ _ ⟨l,rfl,hl,rfl⟩
theorem zq82{A B:Prop}(k:B)(h:A=B:=by have zy:=zA @zw82<|zA @rs82<|zA @tt3<|zA ti3.eq_1<|zA @t_155<|@hl;exact zQ): A:=h▸k
theorem zno82{P:Prop}(h:P:=by intro jj;simp[CV.has,CV.hasL,fault,Z0b.nohas]): P:=h
theorem c82: Con C 82 R82:=by
 refine Q0e C ?_ ?_ ?_
 ·rintro args p r r' ⟨l,h,hl,e⟩ ⟨l',h',hl',e'⟩
  subst e;subst e';simp_all[K0j]
 ·rintro args p r ⟨l,h,hl,rfl⟩;exact zr1
 rintro args p r ⟨l,rfl,hl,rfl⟩
 refine zW C false [(155,R155)] ⟨c155,zT⟩ rfl xf82 zc82_ok fun call zh hF=>?_
 have t_155:=@t155 _ zh.1
 clear zh
 (have zx:=zT;refine zq82 ?_;try exact zT)
 repeat'(apply zK.s<;>intro hc<;>(try simp only[zhd,zhn]at hc)<;>(try have hw:=X0a hc)<;>(refine zq82 ?_;try exact zT))
 all_goals(try clear zx)
 refine K0d hF zle (Y0c ?_ (Z0c zno82))
 rw[<- any_opRight,<- Q1o _ _ 0]
def R29: Rel:=fun args p r=>∃(l:Lst Q0c),args=[l.cv Q0c.cv]/\(l.l.length<=1000000)/\r=.ret (Bo (ruleRight l.l)) p
theorem t29{T:XCall}(h:Has T 29 R29)(l:Lst Q0c){p:Hp}(hl:l.l.length<=1000000): T 29 [l.cv Q0c.cv] p=.ret (Bo (ruleRight l.l)) p:=h _ _ _ ⟨l,rfl,hl,rfl⟩
theorem zq29{A B:Prop}(k:B)(h:A=B:=by have zy:=zA @zw29<|zA @rs29<|zA @tt3<|zA @tt23<|zA ti3.eq_1<|zA ti23.eq_1<|zA @t_82<|zA @Y0j<|zA @zsl23<|@hl;exact zQ): A:=h▸k
theorem zno29{P:Prop}(h:P:=by intro jj;simp[CV.has,CV.hasL,fault,Z0b.nohas,Q0c.nohas]): P:=h
theorem c29: Con C 29 R29:=by
 refine Q0e C ?_ ?_ ?_
 ·rintro args p r r' ⟨l,h,hl,e⟩ ⟨l',h',hl',e'⟩
  subst e;subst e';simp_all[Q0c.inj_iff,K0j]
 ·rintro args p r ⟨l,h,hl,rfl⟩;exact zr1
 rintro args p r ⟨l,rfl,hl,rfl⟩
 refine zW C false [(82,R82)] ⟨c82,zT⟩ rfl xf29 zc29_ok fun call zh hF=>?_
 have t_82:=@t82 _ zh.1
 clear zh
 by_cases h16:(l.l.length:Int)<=16
 ·(have zx:=h16;refine zq29 ?_;try exact zT)
  repeat'(apply zK.s<;>intro hc<;>(try simp only[zhd,zhn]at hc)<;>(try have hw:=X0a hc)<;>(refine zq29 ?_;try exact zT))
  all_goals(try clear zx)
  refine K0d hF zle (Y0c ?_ (Z0c zno29))
  have h':l.l.length<=16:=by omega
  simp[ruleRight,h']
 ·(have zx:=h16;refine zq29 ?_;try exact zT)
  repeat'(apply zK.s<;>intro hc<;>(try simp only[zhd,zhn]at hc)<;>(try have hw:=X0a hc)<;>(refine zq29 ?_;try exact zT))
  all_goals(try clear zx)
  refine K0d hF zle (Y0c ?_ (Z0c zno29))
  have h':¬l.l.length<=16:=by omega
  simp[ruleRight,h']
def J30(l:Lst Q0c)(p:Hp)(n:Nat)(ρ:Env)(q:Hp): Prop:=
 ∃(k:Nat),n=l.l.length-k/\k<=l.l.length/\ρ 0=l.cv Q0c.cv/\ρ 3=I k/\(l.l.drop k).all opRight=l.l.all opRight/\HpLe p q
def R30: Rel:=fun args p r=>∃(l:Lst Q0c),args=[l.cv Q0c.cv]/\(l.l.length<=1000000)/\r=.ret (Bo (ruleRight l.l)) p
theorem t30{T:XCall}(h:Has T 30 R30)(l:Lst Q0c){p:Hp}(hl:l.l.length<=1000000): T 30 [l.cv Q0c.cv] p=.ret (Bo (ruleRight l.l)) p:=h _ _ _ ⟨l,rfl,hl,rfl⟩
theorem zq30{A B:Prop}(k:B)(h:A=B:=by have zy:=zA @zw30<|zA @rs30<|zA @tt3<|zA @tt23<|zA @tt29<|zA ti3.eq_1<|zA ti23.eq_1<|zA ti29.eq_1<|zA @t_85<|zA @Y0j<|zA @zsl23<|@hl;exact zQ): A:=h▸k
theorem zno30{P:Prop}(h:P:=by intro jj;simp[CV.has,CV.hasL,fault,Z0b.nohas,Q0c.nohas]): P:=h
theorem c30: Con C 30 R30:=by
 refine Q0e C ?_ ?_ ?_
 ·rintro args p r r' ⟨l,h,hl,e⟩ ⟨l',h',hl',e'⟩
  subst e;subst e';simp_all[Q0c.inj_iff,K0j]
 ·rintro args p r ⟨l,h,hl,rfl⟩;exact zr1
 rintro args p r ⟨l,rfl,hl,rfl⟩
 refine zW C false [(85,R85)] ⟨c85,zT⟩ rfl xf30 zc30_ok fun call zh hF=>?_
 have t_85:=@t85 _ zh.1
 clear zh
 (have zx:=zT;refine zq30 ?_;try exact zT)
 repeat'(apply zK.s<;>intro hc<;>(try simp only[zhd,zhn]at hc)<;>(try have hw:=X0a hc)<;>(refine zq30 ?_;try exact zT))
 all_goals(try clear zx)
 show W C false noExt call (ZC.block 0 (ZC.loop zn30_7)) _ _ (seqQ _ _)
 show W C false noExt call (ZC.loop zn30_7) _ _ _
 refine V0i C false noExt call zn30_7 _ _ _ (J30 l p) l.l.length ⟨0,rfl,by omega,(by simp[put_at,Q0d,K0e]),(by simp[put_at,Q0d,K0e]),by simp,zle⟩ ?_
 rintro n ρ q ⟨k,rfl,hk,e0,e3,hj,hle⟩
 by_cases hlt:(k:Int)<l.l.length
 ·have hd:=V0s (l:=l.l) (k:=k) (by omega)
  rw[hd]at hj
  simp only[List.all_cons]at hj
  cases hw:opRight (nth l.l k) with
  |true=>
   have hw':=hw
   simp only[opRight,Bool.and_eq_true]at hw'
   obtain⟨⟨w1,w2⟩,w3⟩:=hw'
   rw[hw]at hj
   (have zx:=zA e0 (zA e3 (zA hlt (zA w1 (zA w2 w3))));refine zq30 ?_;try exact zT)
   repeat'(apply zK.s<;>intro hc<;>(try simp only[zhd,zhn]at hc)<;>(try have hw:=X0a hc)<;>(refine zq30 ?_;try exact zT))
   all_goals(try clear zx)
   exact⟨l.l.length-(k+1),by omega,k+1,rfl,by omega,zev,zev,by simpa using hj,zlq⟩
  |false=>
   rw[hw]at hj
   (have zx:=zA e0 (zA e3 hlt);refine zq30 ?_;try exact zT)
   repeat'(apply zK.s<;>intro hc<;>(try simp only[zhd,zhn]at hc)<;>(try have hw:=X0a hc)<;>(refine zq30 ?_;try exact zT))
   all_goals(try clear zx)
   all_goals first
    |(exfalso;simp_all[opRight];done)
    |(refine K0d hF zlq (Y0c ?_ (Z0c zno30));simp[ruleRight,<- hj];done)
 ·(have zx:=zA e0 (zA e3 hlt);refine zq30 ?_;try exact zT)
  repeat'(apply zK.s<;>intro hc<;>(try simp only[zhd,zhn]at hc)<;>(try have hw:=X0a hc)<;>(refine zq30 ?_;try exact zT))
  all_goals(try clear zx)
  refine K0d hF zlq (Y0c ?_ (Z0c zno30))
  rw[List.drop_eq_nil_of_le (by omega)]at hj
  simp[ruleRight,<- hj]<;>omega
def mapE(seen:List Int): List (CV×CV):=seen.map fun n=>(I n,Bo true)
theorem Y05(n:Int): ∀(seen:List Int) (k:Nat),(seen.contains n=false/\findK .i64 n k (mapE seen)=some none)\/(seen.contains n=true/\∃j,findK .i64 n k (mapE seen)=some (some (j,Bo true)))
 |[],k=>.inl ⟨rfl,rfl⟩
 |x::l,k=>by
  have hf:findK .i64 n k (mapE (x::l))=bif decide (n=x)then some (some (k,Bo true))else findK .i64 n (k+1) (mapE l):=by
   simp only[mapE,List.map_cons,findK,if_true]
  by_cases h:n=x
  ·right;rw[hf];simp[h]
  ·rcases Y05 n l (k+1) with⟨h1,h2⟩|⟨h1,j,h2⟩
   ·left;rw[hf];simp only[h,decide_false,cond_false];exact⟨by simp only[List.contains_cons,h1,Bool.or_false];simp[h],h2⟩
   ·right;rw[hf];simp only[h,decide_false,cond_false];exact⟨by simp only[List.contains_cons,h1,Bool.or_true],j,h2⟩
theorem look224(p:Hp)(i:Nat)(n:Int)(seen:List Int)(h:p.t.get i=some (.map (mapE seen))): xlookup C p 224 (.mapr i) (I n) false=.ret (Bo (seen.contains n)) p:=by
 have hm:mapKV C 224=some (4,ti4):=by simp only[mapKV,tt224,ti224,tt3,ti3,tt4]
 simp only[xlookup,hm,entriesOf,h]
 rcases Y05 n seen 0 with⟨h1,h2⟩|⟨h1,j,h2⟩
 ·rw[h2,h1];rfl
 ·rw[h2,h1];rfl
theorem upd224(p:Hp)(i:Nat)(n:Int)(seen:List Int)(h:p.t.get i=some (.map (mapE seen)))(hn:seen.contains n=false): xupdate C p 224 (.mapr i) (I n) (Bo true)=.ret (.tup []) (p.set i (some (.map (mapE (seen++[n]))))):=by
 have hm:mapKV C 224=some (4,ti4):=by simp only[mapKV,tt224,ti224,tt3,ti3,tt4]
 simp only[xupdate,hm,h]
 rcases Y05 n seen 0 with⟨h1,h2⟩|⟨h1,j,h2⟩
 ·rw[h2];simp[mapE]
 ·rw[hn]at h1;cases h1
theorem mkmap(p:Hp): xmakeMap p=.ret (.mapr p.n) (p.new (.map (mapE []))):=rfl
def J136(c:K0a)(p:Hp)(n:Nat)(ρ:Env)(q:Hp): Prop:=
 ∃(k:Nat),n=c.Tokens.l.length-k/\k<=c.Tokens.l.length/\ρ 1=.ptr p.n []/\ρ 3=.mapr (p.n+1)/\ρ 8=Lst.cv I c.Tokens/\ρ 9=I c.Tokens.l.length/\ρ 10=I k/\q.t.get p.n=some (.var sh61 c.cv)/\q.t.get (p.n+1)=some (.map (mapE (c.Tokens.l.take k)))/\tokGo (c.Tokens.l.take k) (c.Tokens.l.drop k)=tokGo [] c.Tokens.l/\p.n+1<q.n/\HpLe p q
def R136: Rel:=fun args p r=>∃(c:K0a),args=[c.cv]/\(c.Tokens.l.length<=1000000)/\r=.ret (Bo (tokGo [] c.Tokens.l&&decide ((c.Tokens.l.length:Int)=c.Players))) p
theorem t136{T:XCall}(h:Has T 136 R136)(c:K0a){p:Hp}(hl:c.Tokens.l.length<=1000000): T 136 [c.cv] p=.ret (Bo (tokGo [] c.Tokens.l&&decide ((c.Tokens.l.length:Int)=c.Players))) p:=h _ _ _ ⟨c,rfl,hl,rfl⟩
theorem zq136{A B:Prop}(k:B)(h:A=B:=by have zy:=zA @zw136<|zA @rs136<|zA @tt3<|zA @tt24<|zA @tt61<|zA @tt224<|zA ti3.eq_1<|zA ti24.eq_1<|zA ti61.eq_1<|zA ti224.eq_1<|zA @t_106<|zA @X0e<|zA @zsl24<|zA @look224<|zA @upd224<|zA @mkmap<|@hl;exact zQ): A:=h▸k
theorem zno136{P:Prop}(h:P:=by intro jj;simp[CV.has,CV.hasL,fault,Z0b.nohas]): P:=h
theorem zge136{P:Prop}(h:P:=by simp (disch:=first|exact zdl|fail) only[zheap];first|done|rfl): P:=h
theorem c136: Con C 136 R136:=by
 refine Q0e C ?_ ?_ ?_
 ·rintro args p r r' ⟨c,h,hl,e⟩ ⟨c',h',hl',e'⟩
  subst e;subst e';simp_all[K0a.inj_iff,X0s]
 ·rintro args p r ⟨c,h,hl,rfl⟩;exact zr1
 rintro args p r ⟨c,rfl,hl,rfl⟩
 refine zW C false [(106,R106)] ⟨c106,zT⟩ rfl xf136 zc136_ok fun call zh hF=>?_
 have t_106:=@t106 _ zh.1
 clear zh
 (have zx:=zT;refine zq136 ?_;try exact zT)
 repeat'(apply zK.s<;>intro hc<;>(try simp only[zhd]at hc)<;>(try have hw:=X0a hc)<;>(refine zq136 ?_;try exact zT))
 all_goals(try clear zx)
 (show W C false noExt call (ZC.loop K1w) _ _ _);refine V0i C false noExt call K1w _ _ _ (J136 c p) c.Tokens.l.length ⟨0,rfl,by omega,(by simp[put_at,Q0d,K0e]),(by simp[put_at,Q0d,K0e]),(by simp[put_at,Q0d,K0e]),(by simp[put_at,Q0d,K0e]),(by simp[put_at,Q0d,K0e]),zge136,zge136,rfl,(zb9),zle⟩ ?_
 rintro n ρ q ⟨k,rfl,hk,e1,e3,e8,e9,e10,g1,g2,hj,hn,hle⟩
 by_cases hlt:(k:Int)<c.Tokens.l.length
 ·have htk:=take_nth (l:=c.Tokens.l) (k:=k) (by omega)
  rw[V0s (l:=c.Tokens.l) (k:=k) (by omega)]at hj
  simp only[tokGo]at hj
  cases hw:within (nth c.Tokens.l k) 0 2147483646 with
  |false=>
   rw[hw]at hj
   (have zx:=zA e1 (zA e3 (zA e8 (zA e9 (zA e10 (zA g1 (zA g2 (zA hlt hw)))))));refine zq136 ?_;try exact zT)
   repeat'(apply zK.s<;>intro hc<;>(try simp only[zhd]at hc)<;>(try have hw:=X0a hc)<;>(refine zq136 ?_;try exact zT))
   all_goals(try clear zx)
   refine K0d hF zlq (Y0c ?_ (Z0c zno136))
   rw[<- hj];simp
  |true=>
   rw[hw]at hj
   cases hc2:(c.Tokens.l.take k).contains (nth c.Tokens.l k) with
   |true=>
    rw[hc2]at hj
    (have zx:=zA e1 (zA e3 (zA e8 (zA e9 (zA e10 (zA g1 (zA g2 (zA hlt (zA hw hc2))))))));refine zq136 ?_;try exact zT)
    repeat'(apply zK.s<;>intro hc<;>(try simp only[zhd]at hc)<;>(try have hw:=X0a hc)<;>(refine zq136 ?_;try exact zT))
    all_goals(try clear zx)
    refine K0d hF zlq (Y0c ?_ (Z0c zno136))
    rw[<- hj];simp
   |false=>
    rw[hc2]at hj
    simp only[Bool.true_and,Bool.not_false]at hj
    (have zx:=zA e1 (zA e3 (zA e8 (zA e9 (zA e10 (zA g1 (zA g2 (zA hlt (zA hw hc2))))))));refine zq136 ?_;try exact zT)
    repeat'(apply zK.s<;>intro hc<;>(try simp only[zhd]at hc)<;>(try have hw:=X0a hc)<;>(refine zq136 ?_;try exact zT))
    all_goals(try clear zx)
    exact⟨c.Tokens.l.length-(k+1),by omega,k+1,rfl,by omega,zev,zev,zev,zev,zev,zg9,by rw[htk];simp (disch:=first|exact zdl|fail) only[zheap],by rw[htk];exact hj,zb9,zlq⟩
 ·have hk2:k=c.Tokens.l.length:=by omega
  rw[hk2,List.drop_eq_nil_of_le (Nat.le_refl _)]at hj
  (have zx:=zA e1 (zA e3 (zA e8 (zA e9 (zA e10 (zA g1 (zA g2 hlt))))));refine zq136 ?_;try exact zT)
  repeat'(apply zK.s<;>intro hc<;>(try simp only[zhd]at hc)<;>(try have hw:=X0a hc)<;>(refine zq136 ?_;try exact zT))
  all_goals(try clear zx)
  all_goals refine K0d hF zlq (Y0c ?_ (Z0c zno136))
  all_goals(rw[<- hj];simp[tokGo, *])
def R60: Rel:=fun args p r=>∃(c:K0a),args=[c.cv]/\(c.Tokens.l.length<=1000000)/\(c.Rules.l.length<=1000000)/\r=.ret (Bo (legalC c)) p
theorem t60{T:XCall}(h:Has T 60 R60)(c:K0a){p:Hp}(hl:c.Tokens.l.length<=1000000)(hr:c.Rules.l.length<=1000000): T 60 [c.cv] p=.ret (Bo (legalC c)) p:=h _ _ _ ⟨c,rfl,hl,hr,rfl⟩
theorem zq60{A B:Prop}(k:B)(h:A=B:=by have zy:=zA @zw60<|zA @rs60<|zA @tt3<|zA @tt23<|zA @tt59<|zA @tt61<|zA @tt69<|zA ti3.eq_1<|zA ti23.eq_1<|zA ti59.eq_1<|zA ti61.eq_1<|zA ti69.eq_1<|zA @t_29<|zA @t_106<|zA @t_135<|zA @t_136<|zA @X0e<|zA @zsl23<|zA @hl<|@hr;exact zQ): A:=h▸k
theorem zno60{P:Prop}(h:P:=by intro jj;simp[CV.has,CV.hasL,fault,Z0b.nohas]): P:=h
theorem c60: Con C 60 R60:=by
 refine Q0e C ?_ ?_ ?_
 ·rintro args p r r' ⟨c,h,hl,hr,e⟩ ⟨c',h',hl',hr',e'⟩
  subst e;subst e';simp_all[K0a.inj_iff,K0j]
 ·rintro args p r ⟨c,h,hl,hr,rfl⟩;exact zr1
 rintro args p r ⟨c,rfl,hl,hr,rfl⟩
 refine zW C false [(29,R29),(106,R106),(135,R135),(136,R136)] ⟨c29,c106,c135,c136,zT⟩ rfl xf60 zc60_ok fun call zh hF=>?_
 have t_29:=@t29 _ zh.1
 have t_106:=@t106 _ zh.2.1
 have t_135:=@t135 _ zh.2.2.1
 have t_136:=@t136 _ zh.2.2.2.1
 clear zh
 (have zx:=zT;refine zq60 ?_;try exact zT)
 repeat'(apply zK.s<;>intro hc<;>(try simp only[zhd]at hc)<;>(try have hw:=X0a hc)<;>(refine zq60 ?_;try exact zT))
 all_goals(try clear zx)
 all_goals refine K0d hF zle (Y0c ?_ (Z0c zno60))
 all_goals simp[legalC, *]
end Go.Proofs.Ytpchcfkebljopaa
end
section
namespace Go.Proofs.Ytpchcfkebljopaa
open Go.Cl Go Go.RowKit
theorem Y1n: Body.right Q0a.zero=true:=by decide
theorem K07{a v:Int}(hv:-64<=v/\v<=64): (0<=(bounce a v).1/\(bounce a v).1<=4095)/\(-64<=(bounce a v).2/\(bounce a v).2<=64):=by
 have hb:=Z0e (n:=a) (lo:=0) (hi:=4095) (by omega)
 unfold bounce
 split
 ·rename_i h;rw[h]at hb;exact⟨hb,hv⟩
 ·have:w64 (-v)=-v:=Q1a (by omega) (by omega)
  simp only[this];exact⟨hb,by omega⟩
theorem Z1n{b:Q0a}(h:Body.right b=true): Body.right (bodyMove b).1=true/\((bodyMove b).1=Q0a.zero/\b.Kind≠1\/(bodyMove b).1.Kind=b.Kind/\(bodyMove b).1.Owner=b.Owner):=by
 by_cases hk:b.Kind=0
 ·have:bodyMove b=(Q0a.zero,false):=by simp[bodyMove,hk]
  rw[this];exact⟨Y1n,.inl ⟨rfl,by omega⟩⟩
 ·have r:=(K0h hk).1 h
  obtain⟨r1,r2,r3,r4,r5,r6,r7,r8,r9⟩:=r
  unfold bodyMove
  rw[if_pos ⟨h,hk⟩]
  have hx:=K07 (a:=b.X+b.VX) r6
  have hy:=K07 (a:=b.Y+b.VY) r7
  split
  ·rename_i h1
   exact⟨(K0h (by simpa using hk)).2 ⟨r1,r2,r3,hx.1,hy.1,hx.2,hy.2,by simp only;omega,r9⟩,.inr ⟨rfl,rfl⟩⟩
  ·rename_i h1
   split
   ·exact⟨Y1n,.inl ⟨rfl,h1⟩⟩
   ·rename_i h2
    simp only[not_or,Bool.not_eq_false]at h2
    have w1:=X0a h2.2.1
    have w2:=X0a h2.2.2
    exact⟨(K0h (by simpa using hk)).2 ⟨r1,r2,r3,w1,w2,r6,r7,by simp only;omega,r9⟩,.inr ⟨rfl,rfl⟩⟩
theorem push_right{b:Q0a}(h:Body.right b=true)(hk:b.Kind≠0)(x y:Int): Body.right (bodyPush b x y)=true/\(bodyPush b x y).Kind=b.Kind/\(bodyPush b x y).Owner=b.Owner:=by
 obtain⟨r1,r2,r3,r4,r5,r6,r7,r8,r9⟩:=(K0h hk).1 h
 unfold bodyPush
 rw[if_pos ⟨h,hk⟩]
 exact⟨(K0h (by simpa using hk)).2 ⟨r1,r2,r3,r4,r5,Z0e (by omega),Z0e (by omega),r8,r9⟩,rfl,rfl⟩
theorem K09(rules:List Q0c)(row:List Q0b)(dice room:Int){b:Q0a}(h:Body.right b=true)(hk:b.Kind=1)(hr:0<=room):
  Body.right (playerTurn rules row dice room b).body=true/\(playerTurn rules row dice room b).body.Kind=1/\(playerTurn rules row dice room b).body.Owner=b.Owner /\
  ((playerTurn rules row dice room b).shots.length:Int)<=room/\∀s∈(playerTurn rules row dice room b).shots,Body.right s=true/\s.Kind=2/\s.Owner=b.Owner:=by
 have hp:=push_right h (by omega) ((rowInput row b.Owner).X.tdiv 16) ((rowInput row b.Owner).Y.tdiv 16)
 have hek:(playerEnv row dice room b).Body.Kind≠0:=by show(bodyPush _ _ _).Kind≠0;rw[hp.2.1];omega
 have hi:InvE (playerEnv row dice room b) (copiedE (playerEnv row dice room b)):=by
  refine⟨hp.1,rfl,rfl,rfl,rfl,rfl,rfl,?_,?_⟩
  ·simpa[copiedE,Z0x,playerEnv]using hr
  ·intro s hs;simp[copiedE,Z0x,playerEnv]at hs
 have iv:=run_inv hek 64 ⟨copiedE (playerEnv row dice room b),⟨.view,rules,nofun⟩,0⟩ hi (by simp)
 unfold playerTurn
 by_cases ho:(runL rules (playerEnv row dice room b)).2.2=true
 ·simp only[ho,if_true]
  have hq:∃m,Mach.run 64 ⟨copiedE (playerEnv row dice room b),⟨.view,rules,nofun⟩,0⟩=.ok m/\(runL rules (playerEnv row dice room b)).1=m.e_:=by
   unfold runL ruleRun at ho ⊢
   split at ho
   ·cases ho
   ·rename_i hn
    rw[if_neg hn]
    cases hm:Mach.run 64 ⟨copiedE (playerEnv row dice room b),⟨.view,rules,nofun⟩,0⟩ with
    |error c=>rw[hm]at ho;cases ho
    |ok m=>exact⟨m,rfl,rfl⟩
  obtain⟨m,hm,he⟩:=hq
  rw[hm]at iv
  rw[he]
  have hb1:(playerEnv row dice room b).Body.Kind=1:=by show(bodyPush _ _ _).Kind=1;rw[hp.2.1,hk]
  have hb2:(playerEnv row dice room b).Body.Owner=b.Owner:=hp.2.2
  exact⟨iv.right,by rw[iv.kind,hb1],by rw[iv.owner,hb2],iv.len,fun s hs=>⟨(iv.shots s hs).1,(iv.shots s hs).2.1,by rw[(iv.shots s hs).2.2,hb2]⟩⟩
 ·simp only[ho,Bool.false_eq_true,if_false]
  obtain⟨r1,r2,r3,r4,r5,r6,r7,r8,r9⟩:=(K0h (by omega)).1 h
  refine⟨(K0h (by simp only;omega)).2 ⟨r1,r2,r3,r4,r5,r6,r7,r8,by simp only;omega⟩,hk,trivial,by simpa using hr,by simp⟩
theorem freeN_set{l:List Q0a}{k:Nat}{x:Q0a}(hk:k<l.length)(h:(nth l k).Kind=0->x.Kind=0): freeN l<=freeN (l.set k x):=by
 induction l generalizing k with
 |nil=>simp at hk
 |cons a l ih=>
  cases k with
  |zero=>
   have h:a.Kind=0->x.Kind=0:=h
   simp only[List.set_cons_zero,freeN,List.filter_cons]
   by_cases ha:a.Kind=0
   ·simp[ha,h ha]
   ·simp only[ha,decide_false,Bool.false_eq_true,if_false]
    by_cases hx:x.Kind=0
    ·simp only[hx,decide_true,if_true,List.length_cons];omega
    ·simp[hx]
  |succ k=>
   have:=ih (k:=k) (by simpa using hk) h
   simp only[List.set_cons_succ,freeN,List.filter_cons]at this ⊢
   by_cases ha:a.Kind=0
   ·simp only[ha,decide_true,if_true,List.length_cons];omega
   ·simpa[ha]using this
def Placed(players:Int)(l:List Q0a): Prop:=∀k,k<16->rightAt players k (nth l k)=true
theorem Q0v{players:Int}{k:Nat}{b:Q0a}(h:rightAt players k b=true): Body.right b=true:=by
 simp only[rightAt,Bool.and_eq_true]at h;exact h.1
structure TurnOk(players:Int)(was:List Q0a)(k:Nat)(st:Y0a×List Q0a): Prop where
 placed:Placed players st.1.Bodies
 rest:∀j,k<=j->nth st.1.Bodies j=nth was j
 shots:∀s∈st.2,Body.right s=true/\s.Kind=2/\s.Owner<players
 room:st.2.length<=freeN st.1.Bodies
theorem rightAt_move{players:Int}{k:Nat}{b b':Q0a}(h:rightAt players k b=true)(hr:Body.right b'=true)(hk:b'.Kind=b.Kind)(ho:b'.Owner=b.Owner): rightAt players k (bodyMove b').1=true:=by
 have hm:=Z1n hr
 unfold rightAt at h ⊢
 simp only[Bool.and_eq_true]at h ⊢
 refine⟨hm.1,?_⟩
 by_cases hp:(k:Int)<players
 ·rw[if_pos hp]at h ⊢
  simp only[Bool.and_eq_true,decide_eq_true_eq]at h ⊢
  rcases hm.2 with⟨_,h2⟩|⟨h1,h2⟩
  ·omega
  ·rw[h1,h2,hk,ho];exact h.2
 ·rw[if_neg hp]at h ⊢
  simp only[Bool.or_eq_true,Bool.and_eq_true,decide_eq_true_eq]at h ⊢
  rcases hm.2 with⟨h1,_⟩|⟨h1,h2⟩
  ·left;rw[h1];rfl
  ·rw[h1,h2,hk,ho];exact h.2
theorem Q1m(rules:List Q0c)(row:List Q0b)(dice room:Int){b:Q0a}(h:Body.right b=true)(hr:0<=room):
  Body.right (bodyTurn rules row dice room b).body=true/\(bodyTurn rules row dice room b).body.Kind=b.Kind/\(bodyTurn rules row dice room b).body.Owner=b.Owner /\
  ((bodyTurn rules row dice room b).shots.length:Int)<=room/\∀s∈(bodyTurn rules row dice room b).shots,Body.right s=true/\s.Kind=2/\s.Owner=b.Owner/\b.Kind=1:=by
 unfold bodyTurn
 split
 ·rename_i hk
  obtain⟨h1,h2,h3,h4,h5⟩:=K09 rules row dice room h hk hr
  exact⟨h1,by rw[h2,hk],h3,h4,fun s hs=>⟨(h5 s hs).1,(h5 s hs).2.1,(h5 s hs).2.2,hk⟩⟩
 ·exact⟨h,rfl,rfl,by simpa using hr,by simp⟩
theorem turnStep_ok{players:Int}(rules:List Q0c)(row:List Q0b){was:List Q0a}{k:Nat}(hk:k<16){st:Y0a×List Q0a}(h:TurnOk players was k st): TurnOk players was (k+1) (turnStep rules row was st k):=by
 have hb:=st.1.hBodies
 have hw:=h.rest k (Nat.le_refl _)
 have hpl:=h.placed k hk
 rw[hw]at hpl
 have hroom:(0:Int)<=(freeN st.1.Bodies:Int)-st.2.length:=by have:=h.room;omega
 obtain⟨t1,t2,t3,t4,t5⟩:=Q1m rules row st.1.Dice (freeN st.1.Bodies-st.2.length) (Q0v hpl) hroom
 have hmv:=rightAt_move hpl t1 t2 t3
 have hm:=Z1n t1
 refine⟨fun j hj=>?_,fun j hj=>?_,fun s hs=>?_,?_⟩
 ·show rightAt players j (nth (st.1.Bodies.set k _) j)=true
  by_cases e:j=k
  ·subst e;rw[Q0n (by omega)];exact hmv
  ·rw[V0m e];exact h.placed j hj
 ·show nth (st.1.Bodies.set k _) j=_
  rw[V0m (by omega)];exact h.rest j (by omega)
 ·rcases List.mem_append.1 hs with h1|h1
  ·exact h.shots s h1
  ·obtain⟨a1,a2,a3,a4⟩:=t5 s h1
   refine⟨a1,a2,?_⟩
   rw[a3]
   unfold rightAt at hpl
   simp only[Bool.and_eq_true]at hpl
   have:=hpl.2
   by_cases hp:(k:Int)<players
   ·rw[if_pos hp]at this;simp only[Bool.and_eq_true,decide_eq_true_eq]at this;omega
   ·rw[if_neg hp]at this;simp only[Bool.or_eq_true,Bool.and_eq_true,decide_eq_true_eq]at this;omega
 ·show(st.2++_).length<=freeN (st.1.Bodies.set k _)
  rw[List.length_append]
  have hf:=freeN_set (l:=st.1.Bodies) (k:=k) (x:=(bodyMove (bodyTurn rules row st.1.Dice (freeN st.1.Bodies-st.2.length) (nth was k)).body).1) (by omega) (fun h0=>by
   rw[hw]at h0
   rcases hm.2 with⟨e,_⟩|⟨e,_⟩
   ·rw[e];rfl
   ·rw[e,t2];exact h0)
  omega
theorem Z1c{players:Int}(rules:List Q0c)(row:List Q0b){s:Y0a}(h:Placed players s.Bodies): ∀k,k<=16->TurnOk players s.Bodies k (turnsS rules row s k)
 |0,_=>⟨h,fun _ _=>rfl,by simp[turnsS],by simp[turnsS]⟩
 |k+1,hk=>turnStep_ok rules row (by omega) (Z1c rules row h k (by omega))
structure SetOk(players:Int)(st:Y0a×List Q0a): Prop where
 placed:Placed players st.1.Bodies
 shots:∀s∈st.2,Body.right s=true/\s.Kind=2/\s.Owner<players
theorem setStep_ok{players:Int}{st:Y0a×List Q0a}(h:SetOk players st){k:Nat}(hk:k<16): SetOk players (setStep st k):=by
 have hb:=st.1.hBodies
 unfold setStep
 split
 ·exact h
 ·rename_i x sh he
  split
  ·rename_i h0
   have hx:=h.shots x (by rw[he];simp)
   refine⟨fun j hj=>?_,fun s hs=>h.shots s (by rw[he];simp[hs])⟩
   show rightAt players j (nth (st.1.Bodies.set k x) j)=true
   by_cases e:j=k
   ·subst e
    rw[Q0n (by omega)]
    have hp:=h.placed j hj
    unfold rightAt at hp ⊢
    simp only[Bool.and_eq_true]at hp ⊢
    refine⟨hx.1,?_⟩
    have hp:=hp.2
    by_cases hpl:(j:Int)<players
    ·rw[if_pos hpl]at hp;simp only[Bool.and_eq_true,decide_eq_true_eq]at hp;omega
    ·rw[if_neg hpl];simp[hx.2.1,hx.2.2]
   ·rw[V0m e];exact h.placed j hj
  ·exact h
theorem setsS_ok{players:Int}{st:Y0a×List Q0a}(h:SetOk players st): ∀k,k<=16->SetOk players (setsS st k)
 |0,_=>h
 |k+1,hk=>setStep_ok (setsS_ok h k (by omega)) (by omega)
theorem Y0s(rules:List Q0c)(row:List Q0b)(s:Y0a): ∀k,(turnsS rules row s k).1.Score=s.Score/\(turnsS rules row s k).1.Frame=s.Frame
 |0=>⟨rfl,rfl⟩
 |k+1=>Y0s rules row s k
theorem X0v(st:Y0a×List Q0a): ∀k,(setsS st k).1.Score=st.1.Score/\(setsS st k).1.Frame=st.1.Frame/\(setsS st k).1.Dice=st.1.Dice
 |0=>⟨rfl,rfl,rfl⟩
 |k+1=>by
  have ih:=X0v st k
  simp only[setsS,setStep]
  split
  ·exact ih
  ·split
   ·exact ih
   ·exact ih
theorem placed_hit{players:Int}{s:Y0a}(h:Placed players s.Bodies)(hs:∀j,j<8->0<=nth s.Score j/\nth s.Score j<=2147483647): HitOk s:=by
 refine⟨fun j hj hk=>?_,hs⟩
 have hr:=Q0v (h j hj)
 have:=Y0f hr (by omega)
 exact this.1
theorem Z0j{c:K0a}{s:Y0a}(h:stateRight c s=true): Placed c.Players s.Bodies/\(∀j,j<8->scoreAt c.Players j (nth s.Score j)=true)/\legalC c=true/\0<=s.Frame/\s.Frame<=600:=by
 simp only[stateRight,Bool.and_eq_true]at h
 obtain⟨⟨⟨h1,h2⟩,h3⟩,h4⟩:=h
 rw[Q07]at h1 h2
 refine⟨fun k hk=>?_,fun j hj=>?_,h3,X0a h4⟩
 ·have:=h1 k (by rw[s.hBodies];exact hk);simpa using this
 ·have:=h2 j (by rw[s.hScore];exact hj);simpa using this
theorem score_range{players:Int}{j:Nat}{n:Int}(h:scoreAt players j n=true): 0<=n/\n<=2147483647:=by
 simp only[scoreAt,Bool.and_eq_true]at h;exact X0a h.1
theorem step_hit{c:K0a}{s:Y0a}(h:stateRight c s=true)(row:List Q0b): HitOk (setsS (turnsS c.Rules.l row s 16) 16).1:=by
 obtain⟨h1,h2,_,_⟩:=Z0j h
 have ht:=Z1c c.Rules.l row h1 16 (Nat.le_refl _)
 have hs:=setsS_ok (st:=turnsS c.Rules.l row s 16) ⟨ht.placed,ht.shots⟩ 16 (Nat.le_refl _)
 refine placed_hit hs.placed fun j hj=>?_
 rw[(X0v _ 16).1,(Y0s _ _ _ 16).1]
 exact score_range (h2 j hj)
def firstK(c:K0a): Nat->Y0a
 |0=>{Y0a.zero with Dice:=seedOf c.Seed}
 |k+1=>(firstK c k).put_2k k (bodyBorn k c.Players)
def firstS(c:K0a): Y0a:=if legalC c=true then firstK c c.Players.toNat else Y0a.zero
theorem Y0n{c:K0a}(h:legalC c=true): (1<=c.Players/\c.Players<=8)/\c.Rules.l.length<=16:=by
 simp only[legalC,Bool.and_eq_true]at h
 refine⟨X0a h.1.1.1.1.1,?_⟩
 have:=h.1.2
 simp only[ruleRight,Bool.and_eq_true,decide_eq_true_eq]at this
 exact this.1
theorem partL_tl{α:Type}(l:List α): (partL l).tl=.nil\/(partL l).tl=.part:=by
 unfold partL
 split<;>simp
theorem partL_l{α:Type}(l:List α): (partL l).l=l:=by
 unfold partL
 split
 ·rename_i h;rw[h]
 ·rfl
theorem frTurns_tl(f:X0b): (frTurns f).shots.tl=.nil\/(frTurns f).shots.tl=.part:=by
 simp only[frTurns];exact partL_tl _
theorem frTurns_l(f:X0b): (frTurns f).shots.l=(turnsS f.c_.Rules.l f.row.l f.s_ 16).2:=by
 simp only[frTurns];exact partL_l _
theorem Q1e{c:K0a}{s:Y0a}(h:stateRight c s=true): ∀b∈s.Bodies,Body.right b=true:=by
 intro b hb
 obtain⟨i,hi,rfl⟩:=List.getElem_of_mem hb
 have:=(Z0j h).1 i (by rw[<- s.hBodies];exact hi)
 rw[Q0l hi]at this
 exact Q0v this
def frOf(c:K0a)(s:Y0a)(row:Lst Q0b): X0b:=⟨c,s,row,⟨.nil,[],fun _=>rfl⟩⟩
theorem frSets_s(c:K0a)(s:Y0a)(row:Lst Q0b): (frSets (frTurns (frOf c s row))).s_=(setsS (turnsS c.Rules.l row.l s 16) 16).1:=by
 simp only[frSets,frTurns_l]
 simp only[frTurns,frOf]
theorem V06(p:Int)(t:Y0a): ∀k,(hitsS p t k).Frame=t.Frame
 |0=>rfl
 |k+1=>by
  have ih:=V06 p t k
  simp only[hitsS,hitStep]
  split
  ·exact ih
  ·split
   ·exact ih
   ·exact ih
theorem frHits_s(c:K0a)(s:Y0a)(row:Lst Q0b): (frHits (frSets (frTurns (frOf c s row)))).s_=hitsS c.Players (setsS (turnsS c.Rules.l row.l s 16) 16).1 16:=by
 simp only[frHits,frSets_s]
 simp only[frSets,frTurns,frOf]
theorem frHits_frame(c:K0a)(s:Y0a)(row:Lst Q0b): (frHits (frSets (frTurns (frOf c s row)))).s_.Frame=s.Frame:=by
 rw[frHits_s,V06,(X0v _ 16).2.1,(Y0s _ _ _ 16).2]
theorem stepS_of{c:K0a}{s:Y0a}(row:Lst Q0b)(h:stateRight c s=true): stepS c row.l s={(frHits (frSets (frTurns (frOf c s row)))).s_ with Frame:=min ((frHits (frSets (frTurns (frOf c s row)))).s_.Frame+1) 600}:=by
 rw[frHits_s]
 unfold stepS
 rw[h]
 simp only[Bool.true_eq_false,if_false]
end Go.Proofs.Ytpchcfkebljopaa
end
section
namespace Go.Proofs.Ytpchcfkebljopaa
open Go.Cl Go Go.RowKit
set_option maxRecDepth 100000
set_option linter.constructorNameAsVariable false
def J44(c:K0a)(s:Y0a)(p:Hp)(n:Nat)(ρ:Env)(q:Hp): Prop:=
 ∃(k:Nat),n=16-k/\k<=16/\ρ 2=.ptr p.n []/\ρ 3=.ptr (p.n+1) []/\ρ 10=.agg (s.Bodies.map Q0a.cv)/\ρ 11=I k/\q.t.get p.n=some (.var sh61 c.cv)/\q.t.get (p.n+1)=some (.var sh66 s.cv)/\allFrom (rightAt c.Players) (s.Bodies.drop k) k=allFrom (rightAt c.Players) s.Bodies 0/\p.n+1<q.n/\HpLe p q
def L44(c:K0a)(s:Y0a)(p:Hp)(n:Nat)(ρ:Env)(q:Hp): Prop:=
 ∃(k:Nat),n=8-k/\k<=8/\ρ 2=.ptr p.n []/\ρ 3=.ptr (p.n+1) []/\ρ 22=.agg (s.Score.map I)/\ρ 23=I k/\q.t.get p.n=some (.var sh61 c.cv)/\q.t.get (p.n+1)=some (.var sh66 s.cv)/\allFrom (scoreAt c.Players) (s.Score.drop k) k=allFrom (scoreAt c.Players) s.Score 0/\p.n+1<q.n/\HpLe p q
def R44: Rel:=fun args p r=>∃(c:K0a) (s:Y0a),args=[c.cv,s.cv]/\(c.Tokens.l.length<=1000000)/\(c.Rules.l.length<=1000000)/\r=.ret (Bo (stateRight c s)) p
theorem t44{T:XCall}(h:Has T 44 R44)(c:K0a)(s:Y0a){p:Hp}(hl:c.Tokens.l.length<=1000000)(hr:c.Rules.l.length<=1000000): T 44 [c.cv,s.cv] p=.ret (Bo (stateRight c s)) p:=h _ _ _ ⟨c,s,rfl,hl,hr,rfl⟩
theorem zq44{A B:Prop}(k:B)(h:A=B:=by have zy:=zA @zw44<|zA @rs44<|zA @tt3<|zA @tt34<|zA @tt61<|zA @tt63<|zA @tt64<|zA @tt66<|zA ti3.eq_1<|zA ti34.eq_1<|zA ti61.eq_1<|zA ti63.eq_1<|zA ti64.eq_1<|zA ti66.eq_1<|zA @t_60<|zA @t_105<|zA @t_106<|zA @X0e<|zA @Q0f<|zA @Z0d<|zA @zsl63<|zA @zsl64<|zA @hl<|@hr;exact zQ): A:=h▸k
theorem zno44{P:Prop}(h:P:=by intro jj;simp[CV.has,CV.hasL,fault,Z0b.nohas,Y0a.nohas,Q0a.nohas]): P:=h
theorem zge44{P:Prop}(h:P:=by simp (disch:=first|exact zdl|fail) only[zheap];first|done|rfl): P:=h
theorem c44: Con C 44 R44:=by
 refine Q0e C ?_ ?_ ?_
 ·rintro args p r r' ⟨c,s,h,hl,hr,e⟩ ⟨c',s',h',hl',hr',e'⟩
  subst e;subst e';simp_all[K0a.inj_iff,Y0a.inj_iff,Q0a.inj_iff]
 ·rintro args p r ⟨c,s,h,hl,hr,rfl⟩;exact zr1
 rintro args p r ⟨c,s,rfl,hl,hr,rfl⟩
 refine zW C false [(60,R60),(105,R105),(106,R106)] ⟨c60,c105,c106,zT⟩ rfl xf44 zc44_ok fun call zh hF=>?_
 have t_60:=@t60 _ zh.1
 have t_105:=@t105 _ zh.2.1
 have t_106:=@t106 _ zh.2.2.1
 clear zh
 have hb:=s.hBodies
 have hsc:=s.hScore
 (have zx:=zT;refine zq44 ?_;try exact zT)
 repeat'(apply zK.s<;>intro hc<;>(try simp only[zhd]at hc)<;>(try have hw:=X0a hc)<;>(refine zq44 ?_;try exact zT))
 all_goals(try clear zx)
 (show W C false noExt call (ZC.loop zn44_7) _ _ _);refine V0i C false noExt call zn44_7 _ _ _ (J44 c s p) 16 ⟨0,rfl,by omega,(by simp[put_at,Q0d,K0e]),(by simp[put_at,Q0d,K0e]),(by simp[put_at,Q0d,K0e]),(by simp[put_at,Q0d,K0e]),zge44,zge44,rfl,(zb9),zle⟩ ?_
 rintro n ρ q ⟨k,rfl,hk,e2,e3,e10,e11,g1,g2,hj,hn,hle⟩
 by_cases hlt:(k:Int)<16
 ·rw[K0s _ (l:=s.Bodies) (k:=k) (by omega)]at hj
  cases hw:rightAt c.Players k (nth s.Bodies k) with
  |false=>
   rw[hw]at hj
   (have zx:=zA e2 (zA e3 (zA e10 (zA e11 (zA g1 (zA g2 (zA hlt hw))))));refine zq44 ?_;try exact zT)
   repeat'(apply zK.s<;>intro hc<;>(try simp only[zhd]at hc)<;>(try have hw:=X0a hc)<;>(refine zq44 ?_;try exact zT))
   all_goals(try clear zx)
   refine K0d hF zlq (Y0c ?_ (Z0c zno44))
   simp[stateRight,<- hj]
  |true=>
   rw[hw,Bool.true_and]at hj
   (have zx:=zA e2 (zA e3 (zA e10 (zA e11 (zA g1 (zA g2 (zA hlt hw))))));refine zq44 ?_;try exact zT)
   repeat'(apply zK.s<;>intro hc<;>(try simp only[zhd]at hc)<;>(try have hw:=X0a hc)<;>(refine zq44 ?_;try exact zT))
   all_goals(try clear zx)
   exact⟨16-(k+1),by omega,k+1,rfl,by omega,zev,zev,zev,zev,zg9,zg9,hj,zb9,zlq⟩
 ·have hk16:k=16:=by omega
  subst hk16
  rw[List.drop_eq_nil_of_le (by omega)]at hj
  have hA:allFrom (rightAt c.Players) s.Bodies 0=true:=hj.symm
  (have zx:=zA e2 (zA e3 (zA e10 (zA e11 (zA g1 (zA g2 hlt)))));refine zq44 ?_;try exact zT)
  repeat'(apply zK.s<;>intro hc<;>(try simp only[zhd]at hc)<;>(try have hw:=X0a hc)<;>(refine zq44 ?_;try exact zT))
  all_goals(try clear zx)
  (show W C false noExt call (ZC.loop K1v) _ _ _);refine V0i C false noExt call K1v _ _ _ (L44 c s p) 8 ⟨0,rfl,by omega,zev,zev,zev,zev,g1,g2,rfl,hn,hle⟩ ?_
  clear e2 e3 e10 e11 g1 g2 hn hle hj hlt
  rintro n ρ q ⟨k,rfl,hk,e2,e3,e22,e23,g1,g2,hj,hn,hle⟩
  by_cases hlt:(k:Int)<8
  ·rw[K0s _ (l:=s.Score) (k:=k) (by omega)]at hj
   cases hw:scoreAt c.Players k (nth s.Score k) with
   |false=>
    rw[hw]at hj
    simp only[scoreAt]at hw
    (have zx:=zA e2 (zA e3 (zA e22 (zA e23 (zA g1 (zA g2 hlt)))));refine zq44 ?_;try exact zT)
    repeat'(apply zK.s<;>intro hc<;>(try simp only[zhd]at hc)<;>(try have hw:=X0a hc)<;>(refine zq44 ?_;try exact zT))
    all_goals(try clear zx)
    all_goals first
     |(exfalso;simp_all;done)
     |(exfalso;simp_all;omega)
     |(refine K0d hF zlq (Y0c ?_ (Z0c zno44));simp[stateRight,<- hj];done)
   |true=>
    rw[hw,Bool.true_and]at hj
    simp only[scoreAt]at hw
    (have zx:=zA e2 (zA e3 (zA e22 (zA e23 (zA g1 (zA g2 hlt)))));refine zq44 ?_;try exact zT)
    repeat'(apply zK.s<;>intro hc<;>(try simp only[zhd]at hc)<;>(try have hw:=X0a hc)<;>(refine zq44 ?_;try exact zT))
    all_goals(try clear zx)
    all_goals first
     |exact⟨8-(k+1),by omega,k+1,rfl,by omega,zev,zev,zev,zev,zg9,zg9,hj,zb9,zlq⟩
     |exact⟨8-(k+1),by omega,k+1,rfl,by omega,zev,zev,zev,zev,g1,g2,hj,hn,hle⟩
     |(exfalso;simp_all;done)
     |(exfalso;simp_all;omega)
  ·have hk8:k=8:=by omega
   subst hk8
   rw[List.drop_eq_nil_of_le (by omega)]at hj
   have hB:allFrom (scoreAt c.Players) s.Score 0=true:=hj.symm
   (have zx:=zA e2 (zA e3 (zA e22 (zA e23 (zA g1 (zA g2 hlt)))));refine zq44 ?_;try exact zT)
   repeat'(apply zK.s<;>intro hc<;>(try simp only[zhd]at hc)<;>(try have hw:=X0a hc)<;>(refine zq44 ?_;try exact zT))
   all_goals(try clear zx)
   all_goals refine K0d hF zlq (Y0c ?_ (Z0c zno44))
   all_goals simp[stateRight,hA,hB, *]
def J58(c:K0a)(p:Hp)(n:Nat)(ρ:Env)(q:Hp): Prop:=
 ∃(k:Nat),n=c.Players.toNat-k/\k<=c.Players.toNat/\ρ 1=.ptr p.n []/\ρ 2=.ptr (p.n+1) []/\ρ 3=.ptr (p.n+2) []/\ρ 14=I c.Players/\ρ 15=I k/\q.t.get p.n=some (.var sh61 c.cv)/\q.t.get (p.n+1)=some (.var sh66 Y0a.zero.cv)/\q.t.get (p.n+2)=some (.var sh66 (firstK c k).cv)/\p.n+2<q.n/\HpLe p q
def R58: Rel:=fun args p r=>∃(c:K0a),args=[c.cv]/\(c.Tokens.l.length<=1000000)/\(c.Rules.l.length<=1000000)/\r=.ret (firstS c).cv p
theorem t58{T:XCall}(h:Has T 58 R58)(c:K0a){p:Hp}(hl:c.Tokens.l.length<=1000000)(hr:c.Rules.l.length<=1000000): T 58 [c.cv] p=.ret (firstS c).cv p:=h _ _ _ ⟨c,rfl,hl,hr,rfl⟩
theorem zq58{A B:Prop}(k:B)(h:A=B:=by have zy:=zA @zw58<|zA @rs58<|zA @tt3<|zA @tt34<|zA @tt61<|zA @tt63<|zA @tt66<|zA ti3.eq_1<|zA ti34.eq_1<|zA ti61.eq_1<|zA ti63.eq_1<|zA ti66.eq_1<|zA @t_60<|zA @t_64<|zA @t_133<|zA @X0e<|zA @Q0f<|zA @Z0d<|zA @zsl63<|zA @hl<|@hr;exact zQ): A:=h▸k
theorem zno58{P:Prop}(h:P:=by intro jj;simp[CV.has,CV.hasL,fault,Z0b.nohas,Y0a.nohas,Q0a.nohas]): P:=h
theorem zge58{P:Prop}(h:P:=by simp (disch:=first|exact zdl|fail) only[zheap];first|done|rfl): P:=h
theorem c58: Con C 58 R58:=by
 refine Q0e C ?_ ?_ ?_
 ·rintro args p r r' ⟨c,h,hl,hr,e⟩ ⟨c',h',hl',hr',e'⟩
  subst e;subst e';simp_all[K0a.inj_iff,Y0a.inj_iff,Q0a.inj_iff]
 ·rintro args p r ⟨c,h,hl,hr,rfl⟩;exact zr1
 rintro args p r ⟨c,rfl,hl,hr,rfl⟩
 refine zW C false [(60,R60),(64,R64),(133,R133)] ⟨c60,c64,c133,zT⟩ rfl xf58 zc58_ok fun call zh hF=>?_
 have t_60:=@t60 _ zh.1
 have t_64:=@t64 _ zh.2.1
 have t_133:=@t133 _ zh.2.2.1
 clear zh
 cases hL:legalC c with
 |false=>
  (have zx:=hL;refine zq58 ?_;try exact zT)
  repeat'(apply zK.s<;>intro hc<;>(try simp only[zhd]at hc)<;>(try have hw:=X0a hc)<;>(refine zq58 ?_;try exact zT))
  all_goals(try clear zx)
  refine K0d hF zle (Y0c ?_ (Z0c zno58))
  simp[firstS,hL];rfl
 |true=>
  have hP:=(Y0n hL).1
  have hPn:((c.Players.toNat:Nat):Int)=c.Players:=by omega
  (have zx:=hL;refine zq58 ?_;try exact zT)
  repeat'(apply zK.s<;>intro hc<;>(try simp only[zhd]at hc)<;>(try have hw:=X0a hc)<;>(refine zq58 ?_;try exact zT))
  all_goals(try clear zx)
  (show W C false noExt call (ZC.loop V1w) _ _ _);refine V0i C false noExt call V1w _ _ _ (J58 c p) c.Players.toNat ⟨0,rfl,by omega,(by simp[put_at,Q0d,K0e]),(by simp[put_at,Q0d,K0e]),(by simp[put_at,Q0d,K0e]),(by simp[put_at,Q0d,K0e]),(by simp[put_at,Q0d,K0e]),zge58,zge58,zge58,(zb9),zle⟩ ?_
  rintro n ρ q ⟨k,rfl,hk,e1,e2,e3,e14,e15,g1,g2,g3,hn,hle⟩
  by_cases hlt:(k:Int)<c.Players
  ·have hbk:=(firstK c k).hBodies
   have hk8:k<8:=by omega
   (have zx:=zA e1 (zA e2 (zA e3 (zA e14 (zA e15 (zA g1 (zA g2 (zA g3 hlt)))))));refine zq58 ?_;try exact zT)
   repeat'(apply zK.s<;>intro hc<;>(try simp only[zhd]at hc)<;>(try have hw:=X0a hc)<;>(refine zq58 ?_;try exact zT))
   all_goals(try clear zx)
   exact⟨c.Players.toNat-(k+1),by omega,k+1,rfl,by omega,zev,zev,zev,zev,zev,zg9,zg9,zg9,zb9,zlq⟩
  ·have hk8:k=c.Players.toNat:=by omega
   subst hk8
   (have zx:=zA e1 (zA e2 (zA e3 (zA e14 (zA e15 (zA g1 (zA g2 (zA g3 hlt)))))));refine zq58 ?_;try exact zT)
   repeat'(apply zK.s<;>intro hc<;>(try simp only[zhd]at hc)<;>(try have hw:=X0a hc)<;>(refine zq58 ?_;try exact zT))
   all_goals(try clear zx)
   refine K0d hF zlq (Y0c ?_ (Z0c zno58))
   simp[firstS,hL]
def R62: Rel:=fun args p r=>∃(c:K0a) (s:Y0a) (row:Lst Q0b),args=[c.cv,s.cv,row.cv Q0b.cv]/\(c.Tokens.l.length<=1000000)/\(c.Rules.l.length<=1000000)/\r=.ret (stepS c row.l s).cv p
theorem t62{T:XCall}(h:Has T 62 R62)(c:K0a)(s:Y0a)(row:Lst Q0b){p:Hp}(hl:c.Tokens.l.length<=1000000)(hr:c.Rules.l.length<=1000000): T 62 [c.cv,s.cv,row.cv Q0b.cv] p=.ret (stepS c row.l s).cv p:=h _ _ _ ⟨c,s,row,rfl,hl,hr,rfl⟩
theorem zq62{A B:Prop}(k:B)(h:A=B:=by have zy:=zA @zw62<|zA @rs62<|zA @tt3<|zA @tt61<|zA @tt66<|zA @tt186<|zA ti3.eq_1<|zA ti61.eq_1<|zA ti66.eq_1<|zA ti186.eq_1<|zA @t_44<|zA @t_137<|zA @t_138<|zA @t_139<|zA @X0e<|zA @Q0f<|zA @Z0i<|zA @hl<|@hr;exact zQ): A:=h▸k
theorem zno62{P:Prop}(h:P:=by intro jj;simp[CV.has,CV.hasL,fault,Z0b.nohas,Y0a.nohas]): P:=h
theorem c62: Con C 62 R62:=by
 refine Q0e C ?_ ?_ ?_
 ·rintro args p r r' ⟨c,s,row,h,hl,hr,e⟩ ⟨c',s',row',h',hl',hr',e'⟩
  subst e;subst e';simp_all[K0a.inj_iff,Y0a.inj_iff,X0b.inj_iff,X0p]
 ·rintro args p r ⟨c,s,row,h,hl,hr,rfl⟩;exact zr1
 rintro args p r ⟨c,s,row,rfl,hl,hr,rfl⟩
 refine zW C false [(44,R44),(137,R137),(138,R138),(139,R139)] ⟨c44,c137,c138,c139,zT⟩ rfl xf62 zc62_ok fun call zh hF=>?_
 have t_44:=@t44 _ zh.1
 have t_137:=@t137 _ zh.2.1
 have t_138:=@t138 _ zh.2.2.1
 have t_139:=@t139 _ zh.2.2.2.1
 clear zh
 cases hR:stateRight c s with
 |false=>
  (have zx:=hR;refine zq62 ?_;try exact zT)
  repeat'(apply zK.s<;>intro hc<;>(try simp only[zhd]at hc)<;>(try have hw:=X0a hc)<;>(refine zq62 ?_;try exact zT))
  all_goals(try clear zx)
  refine K0d hF zle (Y0c ?_ (Z0c zno62))
  simp[stepS,hR];rfl
 |true=>
  have hrl:=(Y0n (Z0j hR).2.2.1).2
  have h4:=Q1e hR
  have hfr:=Z0j hR
  have hst:=stepS_of row hR
  have hF1:(frOf c s row)=X0b.mk c s row ⟨.nil,[],fun _=>rfl⟩:=rfl
  have k1:(frOf c s row).shots.tl=.nil:=rfl
  have k2:(frOf c s row).c_.Rules.l.length<=100000:=by show c.Rules.l.length<=_;omega
  have k3:∀b∈(frOf c s row).s_.Bodies,Body.right b=true:=h4
  have k4:=frTurns_tl (frOf c s row)
  have k5:HitOk (frSets (frTurns (frOf c s row))).s_:=by rw[frSets_s];exact step_hit hR row.l
  have k6:=frHits_frame c s row
  generalize frOf c s row=f0 at hF1 k1 k2 k3 k4 k5 k6 hst
  replace hF1:=hF1.symm
  generalize hG:frHits (frSets (frTurns f0))=f3 at k6 hst
  (have zx:=zA hR (zA hF1 (zA hG k6));refine zq62 ?_;try exact zT)
  repeat'(apply zK.s<;>intro hc<;>(try simp only[zhd]at hc)<;>(try have hw:=X0a hc)<;>(refine zq62 ?_;try exact zT))
  all_goals(try clear zx)
  refine K0d hF zle (Y0c ?_ (Z0c zno62))
  rw[hst,k6]
end Go.Proofs.Ytpchcfkebljopaa
end
section
namespace Go.Cl
open Go.RowKit
section
variable (C:Ctx)
def St.frz(S:St)(rb:Nat)(cs:List Value): St:={S with K:=fun b o=>if b=rb then(match cs[o]? with|some v=>some v|none=>S.K b o)else S.K b o}
theorem St.frz_le{S:St}{rb:Nat}{cs:List Value}(h:∀o,S.K rb o=none): S.le (S.frz rb cs) where
 K b o v hk:=by
  show(if b=rb then _ else S.K b o)=some v
  by_cases e:b=rb
  ·subst e;rw[h o]at hk;cases hk
  ·rw[if_neg e];exact hk
 μ _ _ h:=h
 n:=Nat.le_refl _
theorem R.frz{w0:World}{B:Nat}{S:St}{h:Heap}{w:World}(r:R w0 B S h w){j:Nat}{v:CV}{rb:Nat}{sh:Shape}{tot:Nat}(hj:h j=some (.var v))(hμ:S.μ j=some (.var rb sh tot)):
  ∃cs,FR S v cs/\S.le (S.frz rb cs)/\R w0 B (S.frz rb cs) (upd h j none) w/\(S.frz rb cs).lies rb 0 cs:=by
 obtain⟨hl,hB⟩:=r.live j _ _ hj hμ
 obtain⟨hs,⟨arr,e,cs,junk,hw,ha,hz,hf⟩,hk⟩:=hl
 have hle:=St.frz_le (cs:=cs) hk
 have hcell:∀o,w.cell? ⟨rb,o,none⟩=arr[o]?:=K0m hw
 have hlies:(S.frz rb cs).lies rb 0 cs:=by
  intro o u hu
  show(if rb=rb then _ else _)=some u
  rw[if_pos rfl,Nat.zero_add,hu]
 refine⟨cs,hf,hle,⟨r.below,r.size,?_,?_,?_,?_⟩,hlies⟩
 ·intro b o u hu
  by_cases eb:b=rb
  ·subst eb
   have hu:(match cs[o]? with|some v=>some v|none=>S.K b o)=some u:=by
    have hu:(if b=b then _ else _)=some u:=hu
    rw[if_pos rfl]at hu;exact hu
   cases hc:cs[o]? with
   |none=>rw[hc,hk o]at hu;cases hu
   |some x=>
    rw[hc]at hu
    have hxu:x=u:=by simpa using hu
    subst hxu
    rw[hcell o,<- Array.getElem?_toList,ha,List.getElem?_append_left (List.getElem?_eq_some_iff.1 hc).1]
    exact hc
  ·have hu:(if b=rb then _ else S.K b o)=some u:=hu
   rw[if_neg eb]at hu
   exact r.kcell b o u hu
 ·intro i hi
  refine⟨(r.fresh i hi).1,?_⟩
  unfold upd
  split
  ·rfl
  ·exact(r.fresh i hi).2
 ·intro i obj loc h1 h2
  have hij:i≠j:=by intro e;subst e;rw[V0h]at h1;cases h1
  rw[X0g _ _ hij]at h1
  obtain⟨l1,l2⟩:=r.live i obj loc h1 h2
  refine⟨l1.mono hle rfl fun o ho=>?_,l2⟩
  have hb:loc.block≠rb:=r.inj i j _ _ _ _ hij h1 hj h2 hμ
  show(if loc.block=rb then _ else S.K loc.block o)=none
  rw[if_neg hb];exact ho
 ·intro i k oi ok li lk hik h1 h2 h3 h4
  have hi:i≠j:=by intro e;subst e;rw[V0h]at h1;cases h1
  have hk':k≠j:=by intro e;subst e;rw[V0h]at h2;cases h2
  rw[X0g _ _ hi]at h1
  rw[X0g _ _ hk']at h2
  exact r.inj i k oi ok li lk hik h1 h2 h3 h4
theorem ans_freeze{f:FuncId}{args:List CV}{p:Hp}{sh:Shape}{l:List CV}{sz:Nat}(hsz:∀x∈l,x.size=sz)(hno:∀j,¬CV.hasL j l)(h:AnsAt C f args p (.ret (.slc p.n [] 0 l.length) (p.new (.var sh (.agg l))))): AnsAt C f args p (.ret (.lst .part l) p):=by
 refine⟨h.1,fun w0 B S w vals r0 hV=>?_⟩
 have ha:=h.2 w0 B S w vals r0 hV
 have hF:=fine_of r0 hV
 have hmid:Ans C w0 B S f vals w (.ret (.lst .part l) (p.bump 1)):=by
  refine Calls.mono ha fun en w' ⟨S',x,k1,k2,k3,k4⟩=>?_
  have hg:(p.new (.var sh (.agg l))).h p.n=some (.var (.agg l)):=by simp only[Hp.h,Hp.get_new_self];rfl
  obtain⟨k3a,k3b⟩:=k3
  simp only[FR]at k3a
  obtain⟨rb,sh',l',o,cap,e1,⟨tot,hμ,_⟩,e2,e3,e4,e5⟩:=k3a
  obtain⟨cs,hf,hle,hr,hli⟩:=R.frz k2.r hg hμ
  have ho:o=0:=by simp only[Shape.off,Option.some.injEq]at e3;exact e3.symm
  subst ho
  refine⟨S'.frz rb cs,x,k1.trans ⟨hle,fun _ _ h=>h⟩,⟨?_,?_,?_⟩,⟨?_,?_⟩,k4⟩
  ·refine hr.drop fun i=>?_
   by_cases hi:i=p.n
   ·left;subst hi
    exact(r0.r.fresh p.n (by rw[r0.n];exact Nat.le_refl _)).2
   ·right
    rw[X0g _ _ hi]
    simp only[Hp.h,Hp.bump_get,Hp.get_new_ne _ _ hi]
  ·show S'.n=p.n+1
   rw[k2.n,Hp.znew_n]
  ·intro i sh0 v0 hi
   exact r0.good i sh0 v0 hi
  ·simp only[FR]
   refine .inr ⟨rb,0,cap,sz,cs,?_,e4,?_,hli,hsz,trivial⟩
   ·rw[e1];simp[Shape.sizes]
   ·simp only[FR]at hf
    exact FRs.mono hle _ _ hf
  ·simpa[CV.isAgg]using k3b
 refine Ans.shr C r0 hmid ?_
 refine K0d hF (fun k o h=>h) (Y0d fun j hj=>?_)
 simp only[CV.has]at hj
 rcases hj with hj|hj
 ·cases hj
 ·exact(hno j hj).elim
end
end Go.Cl
end
section
namespace Go.Proofs.Ytpchcfkebljopaa
open Go.Cl Go Go.RowKit
def cellOf(n:Int): Q0b:=⟨true,handInput (w64 (n.tdiv 4)) (w64 (n.tdiv 7))⟩
def rowK(players:Int)(l:List Int): Nat->List Q0b
 |0=>List.replicate players.toNat Q0b.zero
 |k+1=>if 0<(nth l k).tmod 4 then(rowK players l k).set k (cellOf (nth l k))else rowK players l k
theorem K1x(players:Int)(l:List Int): ∀k,(rowK players l k).length=players.toNat
 |0=>by simp[rowK]
 |k+1=>by
  have ih:=K1x players l k
  simp only[rowK]
  split
  ·simpa using ih
  ·exact ih
def rowOf(players:Int)(l:List Int): List Q0b:=rowK players l (min players.toNat l.length)
theorem rowOf_len(players:Int)(l:List Int): (rowOf players l).length=players.toNat:=K1x ..
theorem mk108(p:Hp)(n:Int)(h:1<=n/\n<=100): xmake C p 108 (I n) (I n)=.ret (.slc p.n [] 0 n.toNat) (p.new (.var (.n (List.replicate n.toNat sh110)) (.agg ((List.replicate n.toNat Q0b.zero).map Q0b.cv)))):=by
 have hz:ti110.zero=Q0b.zero.cv:=Q0b.zcv
 have hb:(ti110.bytes*n.toNat)<=281474976710656:=by show 32*n.toNat<=_;omega
 simp only[xmake,tt108,ti108,tt110,List.map_replicate]
 rw[show(decide True&&decide (0<n)&&decide (n<=9223372036854775807)&&Nat.blt 0 ti110.sh.size&&Nat.ble (ti110.bytes*n.toNat) 281474976710656)=true by
  simp only[decide_true,Bool.true_and,Bool.and_eq_true,decide_eq_true_eq]
  exact⟨⟨⟨by omega,by omega⟩,rfl⟩,Nat.ble_eq_true_of_le hb⟩]
 rw[hz];rfl
theorem ix108(p:Hp)(j n:Nat)(L:List Q0b)(k:Int)(hg:p.t.get j=some (.var (.n (List.replicate n sh110)) (.agg (L.map Q0b.cv))))(hL:L.length=n)(hk:0<=k/\k<n): qindexAddr C p.h 108 (.slc j [] 0 n) (I k)=some (.ptr j [k.toNat]):=by
 have ht:tgt p.h (.ptr j [])=some (.agg (L.map Q0b.cv)):=by
  simp only[tgt,Hp.h,hg,Option.map_some,XObj.obj,CV.at]
 have hs:CV.shape (.agg (L.map Q0b.cv))=.n (List.replicate (L.map Q0b.cv).length sh110):=by
  simp only[CV.shape,Y0i (f:=Q0b.cv) (s:=sh110) Q0b.shape,List.length_map]
 simp only[qindexAddr,tt108,ti108,tt110,ht]
 rw[if_pos ⟨hs,hk⟩]
 simp
theorem sa108(L:List Q0b)(k:Nat)(c:Q0b)(h:k<L.length): CV.set (.agg (L.map Q0b.cv)) [k] c.cv=.agg ((L.set k c).map Q0b.cv):=by
 rw[X1g Q0b.cv h,List.map_set];rfl
theorem take_nx{α:Type}[Inhabited α]{l:List α}{k:Nat}(h:k<l.length): l.take (k+1)=l.take k++[nth l k]:=by
 rw[List.take_add_one,Q0w h];rfl
def rowL(players:Int)(r:Lst Int): Lst Q0b:=⟨.part,rowOf players r.l,nofun⟩
def rowsOf(players:Int)(l:List (Lst Int)): List (Lst Q0b):=(l.take 40).map (rowL players)
def ownL{α:Type}(l:List α)(n:Nat): Lst α:=if h:l=[] then⟨.nil,[],fun _=>rfl⟩ else⟨.own n,l,nofun⟩
theorem ownL_nil{α:Type}(n:Nat): ownL ([]:List α) n=⟨.nil,[],fun _=>rfl⟩:=by simp[ownL]
theorem ownL_cons{α:Type}(x:α)(m:List α)(n:Nat): ownL (x::m) n=⟨.own n,x::m,nofun⟩:=by simp[ownL]
noncomputable def ownH{α:Type}(l:List α)(p:Hp): Hp:=if l=[]then p else p.new (.tail l.length)
theorem ownH_nil{α:Type}(p:Hp): ownH ([]:List α) p=p:=by simp[ownH]
theorem ownH_cons{α:Type}(x:α)(m:List α)(p:Hp): ownH (x::m) p=p.new (.tail (m.length+1)):=by simp[ownH]
theorem weakL_mem{α:Type}{f:α->CV}{σ:Nat->Nat}{n:Nat}: ∀l:List α,(∀x∈l,∀j,¬(f x).has j)->CV.weakL σ n (l.map f) (l.map f)
 |[],_=>trivial
 |x::l,h=>⟨CV.weak_refl _ fun j hj=>(h x (by simp) j hj).elim,weakL_mem l fun y hy=>h y (by simp[hy])⟩
theorem shr_ownL{α:Type}{f:α->CV}{args:List CV}{p q:Hp}(hF:Fine args p)(acc:Lst α)(hle:HpLe p q)(happ:acc.tl=.nil\/∃j,acc.tl=.own j/\p.n<=j/\q.t.get j=some (.tail acc.l.length)/\0<acc.l.length)(hf:∀x∈acc.l,∀j,¬(f x).has j): ShrR p (.ret (Lst.cv f acc) q) (.ret (Lst.cv f (ownL acc.l p.n)) (ownH acc.l p)):=by
 obtain⟨tl,l,o⟩:=acc
 simp only at happ hf
 rcases happ with h|⟨j,h,hj,hg,h0⟩
 ·subst h
  have:=o rfl;subst this
  simp only[ownL_nil,ownH_nil]
  exact K0d hF hle (Y0d fun j hj=>by simp[Lst.cv,CV.has,CV.hasL]at hj)
 ·subst h
  have hne:l≠[]:=by intro e;subst e;simp at h0
  simp only[ownL,ownH,dif_neg hne,if_neg hne]
  refine Y1u hF (J:=j) rfl (fun k o h=>?_) ⟨_,hg,rfl⟩ ?_
  ·have hd:=hF.dom k o h
   exact⟨hd,by omega,.inl ⟨h,hle k o h⟩⟩
  ·simp only[Lst.cv,CV.weak,Tail.weak]
   exact⟨⟨(if_pos rfl).symm,Nat.lt_succ_self _⟩,weakL_mem l hf⟩
end Go.Proofs.Ytpchcfkebljopaa
end
