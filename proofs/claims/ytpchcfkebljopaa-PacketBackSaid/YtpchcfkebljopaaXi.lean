import Derived.Test.YtpchcfkebljopaaXh
set_option linter.unusedSimpArgs false
set_option linter.unusedVariables false
set_option linter.constructorNameAsVariable false
set_option linter.defProp false
set_option maxHeartbeats 8000000
section
namespace Go.Proofs.Ytpchcfkebljopaa
open Go.Cl Go Go.RowKit
set_option maxRecDepth 100000
set_option linter.constructorNameAsVariable false
def R107q: Rel:=fun args p r=>∃(key:Int) (j m:Nat) (B:List Int),args=[I key,.slc j [] 0 m]/\(-9223372036854775808<=key/\key<=9223372036854775807)/\(m<=B.length)/\(B.length<=1000000)/\(∀x∈B,0<=x/\x<=255)/\(p.t.get j=some (Wrow B))/\r=.ret (Lst.cv Y8 (partB (closeB key (B.take m)))) p
theorem t107q{T:XCall}(h:Has T 107 R107q)(key:Int)(j m:Nat)(B:List Int){p:Hp}(hk:-9223372036854775808<=key/\key<=9223372036854775807)(h0:m<=B.length)(h2:B.length<=1000000)(h5:∀x∈B,0<=x/\x<=255)(h3:p.t.get j=some (Wrow B)): T 107 [I key,.slc j [] 0 m] p=.ret (Lst.cv Y8 (partB (closeB key (B.take m)))) p:=h _ _ _ ⟨key,j,m,B,rfl,hk,h0,h2,h5,h3,rfl⟩
theorem zq107q{A B:Prop}(k:B)(h:A=B:=by have zy:=zA @zw107<|zA @rs107<|zA @tt3<|zA @tt5<|zA @tt68<|zA @tt178<|zA ti3.eq_1<|zA ti5.eq_1<|zA ti68.eq_1<|zA ti178.eq_1<|zA @t_159q<|zA @t_163q<|zA @zsl68<|zA @hk<|zA @h0<|zA @h2<|zA @h5<|@h3;exact zQ): A:=h▸k
theorem c107q: Con C 107 R107q:=by
 refine V0e C ?_ ?_ ?_
 ·rintro args p r r' ⟨key,j,m,B,h,hk,h0,h2,h5,h3,e⟩ ⟨key',j',m',B',h',hk',h0',h2',h5',h3',e'⟩
  subst e;subst e';(subst h;simp only[List.cons.injEq,CV.sc.injEq,Value.int.injEq,CV.slc.injEq,and_true,true_and]at h';obtain⟨e2,e0,e1⟩:=h';subst e0;subst e1;subst e2;rw[h3]at h3';rw[Z0v (Option.some.inj h3')])
 ·rintro args p r ⟨key,j,m,B,h,hk,h0,h2,h5,h3,rfl⟩;exact zr1
 rintro args p r ⟨key,j,m,B,rfl,hk,h0,h2,h5,h3,rfl⟩
 refine zW C false [(159,R159q),(163,R163q)] ⟨c159q,c163q,zT⟩ rfl xf107 zc107_ok fun call zh hF=>?_
 have t_159q:=@t159q _ zh.1
 have t_163q:=@t163q _ zh.2.1
 clear zh
 have hd_h3:=hF.dom _ _ h3
 have hr:=V0m key (B.take m)
 have hj:=hF.dom _ _ h3
 generalize hS:sumB key (B.take m)=S at hr
 have t3:=fun q h=>t_163q key j m B (p:=q) hk h0 h2 h5 h
 rw[hS]at t3
 have hcl:B.take m++four S=closeB key (B.take m):=by rw[closeB,hS]
 by_cases hm:m=0
 ·subst hm
  have t9:=fun q h=>t_159q.2 j B (p:=q) h
  rw[<- hcl,List.take_zero,List.nil_append]
  (have zx:=zA t3 (zA t9 (zA hS h3));refine zq107q ?_;try exact zT)
  repeat'(apply zK.s<;>intro hc<;>(try simp only[zhd]at hc)<;>(try have hw:=X0a hc)<;>(refine zq107q ?_;try exact zT))
  all_goals(try clear zx)
  rw[four_e]
  exact V0c hF (fun k o h=>by have hd:=hF.dom k o h;simp (disch:=first|exact zdl|fail) only[zheap];exact h) (V05 X0r _ _ _)
 ·have hml:(B.take m).length=m:=by rw[List.length_take];omega
  have hm0:0<m:=by omega
  have t9:=fun q h=>t_159q.1 j m B (p:=q) h (by omega) h2
  rw[<- hcl]
  (have zx:=zA t3 (zA t9 (zA hml (zA hS h3)));refine zq107q ?_;try exact zT)
  repeat'(apply zK.s<;>intro hc<;>(try simp only[zhd]at hc)<;>(try have hw:=X0a hc)<;>(refine zq107q ?_;try exact zT))
  all_goals(try clear zx)
  all_goals first|(exfalso;omega)|skip
  rw[four_e]
  exact V0c hF (fun k o h=>by have hd:=hF.dom k o h;simp (disch:=first|exact zdl|fail) only[zheap];exact h) (V05 X0r _ _ _)
theorem clone_part(n k:Nat)(l:List Int)(h:l≠[]): CV.weak (fun k=>k) k (.tup [Lst.cv Y8 ⟨.own n,l,nofun⟩,Bo true]) (.tup [Lst.cv Y8 (cloneP (partB l)),Bo true]):=by
 have e:cloneP (partB l)=⟨.part,l,nofun⟩:=by
  cases l with
  |nil=>exact absurd rfl h
  |cons x l=>rfl
 rw[e]
 simp only[CV.weak,CV.weakL,and_true]
 exact V05 X0r _ _ _
def R109q: Rel:=fun args p r=>∃(key:Int) (j:Nat) (B:List Int),args=[I key,.slc j [] 0 B.length]/\(-9223372036854775808<=key/\key<=9223372036854775807)/\(B.length<=1000000)/\(∀x∈B,0<=x/\x<=255)/\(p.t.get j=some (Wrow B))/\r=if opensB key (partB B)then .ret (.tup [Lst.cv Y8 (cloneP (partB (tagBody (partB B)))),Bo true]) p else .ret (.tup [Lst.cv Y8 nilB,Bo false]) p
theorem t109q{T:XCall}(h:Has T 109 R109q)(key:Int)(j:Nat)(B:List Int){p:Hp}(hk:-9223372036854775808<=key/\key<=9223372036854775807)(h2:B.length<=1000000)(h5:∀x∈B,0<=x/\x<=255)(h3:p.t.get j=some (Wrow B)): T 109 [I key,.slc j [] 0 B.length] p=if opensB key (partB B)then .ret (.tup [Lst.cv Y8 (cloneP (partB (tagBody (partB B)))),Bo true]) p else .ret (.tup [Lst.cv Y8 nilB,Bo false]) p:=h _ _ _ ⟨key,j,B,rfl,hk,h2,h5,h3,rfl⟩
theorem zdis109q{P:Prop}(h:P:=by first|exact zdis|(simp only[Hp.bump_n,Hp.znew_n,Hp.zset_n,List.length_nil,List.length_cons,List.length_append,List.length_map,Y0e];(first|done|omega))|(simp (disch:=first|exact zd1|(simp only[Hp.bump_n,Hp.znew_n,Hp.zset_n,List.length_nil,List.length_cons,List.length_append,List.length_map,Y0e];(first|done|omega))) only[zheap,zx];(first|done|rfl))|fail): P:=h
theorem zq109q{A B:Prop}(k:B)(h:A=B:=by have zy:=zA @zw109<|zA @rs109<|zA @tt3<|zA @tt68<|zA ti3.eq_1<|zA ti68.eq_1<|zA @t_107q<|zA @t_96r<|zA @t_159q<|zA @zsl68<|zA @sl68r<|zA @Y0e<|zA @hk<|zA @h2<|zA @h5<|@h3;have zd:=@zdis109q;exact zQd): A:=h▸k
theorem c109q: Con C 109 R109q:=by
 refine V0e C ?_ ?_ ?_
 ·rintro args p r r' ⟨key,j,B,h,hk,h2,h5,h3,e⟩ ⟨key',j',B',h',hk',h2',h5',h3',e'⟩
  subst e;subst e';(subst h;simp only[List.cons.injEq,CV.sc.injEq,Value.int.injEq,CV.slc.injEq,and_true,true_and]at h';obtain⟨e2,e0,_⟩:=h';subst e0;subst e2;rw[h3]at h3';rw[Z0v (Option.some.inj h3')])
 ·rintro args p r ⟨key,j,B,h,hk,h2,h5,h3,rfl⟩;exact zr1
 rintro args p r ⟨key,j,B,rfl,hk,h2,h5,h3,rfl⟩
 refine zW C false [(107,R107q),(96,R96r),(159,R159q)] ⟨c107q,c96r,c159q,zT⟩ rfl xf109 zc109_ok fun call zh hF=>?_
 have t_107q:=@t107q _ zh.1
 have t_96r:=@t96r _ zh.2.1
 have t_159q:=@t159q _ zh.2.2.1
 clear zh
 have hd_h3:=hF.dom _ _ h3
 have hj:=hF.dom _ _ h3
 by_cases hlt:(B.length:Int)<4
 ·have hno:¬opensB key (partB B):=fun h=>by have:=h.1;rw[Y0e]at this;omega
  rw[if_neg hno]
  (have zx:=zA hlt h3;refine zq109q ?_;try exact zT)
  repeat'(apply zK.s<;>intro hc<;>(try simp only[zhd]at hc)<;>(try have hw:=X0a hc)<;>(refine zq109q ?_;try exact zT))
  all_goals(try clear zx)
  exact V0c hF zle (Y0d (X0c (by intro jj;simp[CV.has,CV.hasL,Lst.cv,nilB])))
 ·obtain⟨m,hm⟩:∃m:Nat,((B.length:Int)-4).toNat=m:=⟨_,rfl⟩
  have hmB:m<=B.length:=by omega
  have hcl:(closeB key (B.take m)).length<=140737488355328:=by rw[closeB,List.length_append,List.length_take];simp only[four,List.length_cons,List.length_nil];omega
  have hbe:tagBody (partB B)=B.take m:=by rw[tagBody,Y0e];congr 1;omega
  have t7:=fun q h=>t_107q key j m B (p:=q) hk hmB h2 h5 h
  have t6:=fun q h=>t_96r (partB (closeB key (B.take m))) j B (p:=q) hcl (by omega) h
  simp only[Y0e]at t6
  by_cases hc:closeB key (B.take m)=B
  ·have hd:decide (closeB key (B.take m)=B)=true:=decide_eq_true hc
   rw[if_pos (show opensB key (partB B) from⟨by rw[Y0e];omega,by rw[hbe];exact hc⟩),hbe]
   by_cases hm0:m=0
   ·have t9:=fun q h=>t_159q.2 j B (p:=q) h
    subst hm0
    (have zx:=zA hlt (zA hm (zA t7 (zA t6 (zA hd (zA t9 h3)))));refine zq109q ?_;try exact zT)
    repeat'(apply zK.s<;>intro hc<;>(try simp only[zhd]at hc)<;>(try have hw:=X0a hc)<;>(refine zq109q ?_;try exact zT))
    all_goals(try clear zx)
    exact V0c hF zle (Q0d rfl (fun j hj=>by
     simp only[CV.has,CV.hasL,or_false]at hj
     exact absurd ((Lst.has _ X0r _ j).1 hj) (X1n _ j)))
   ·have hml:(B.take m).length=m:=by rw[List.length_take];omega
    have t9:=fun q h=>t_159q.1 j m B (p:=q) h (by omega) h2
    (have zx:=zA hlt (zA hm (zA t7 (zA t6 (zA hd (zA t9 h3)))));refine zq109q ?_;try exact zT)
    repeat'(apply zK.s<;>intro hc<;>(try simp only[zhd]at hc)<;>(try have hw:=X0a hc)<;>(refine zq109q ?_;try exact zT))
    all_goals(try clear zx)
    exact V0c hF zle (clone_part _ _ _ (fun e=>by rw[e]at hml;simp at hml;omega))
  ·have hd:decide (closeB key (B.take m)=B)=false:=decide_eq_false hc
   rw[if_neg (show ¬opensB key (partB B) from fun h=>hc (by rw[<- hbe];exact h.2))]
   (have zx:=zA hlt (zA hm (zA t7 (zA t6 (zA hd h3))));refine zq109q ?_;try exact zT)
   repeat'(apply zK.s<;>intro hc<;>(try simp only[zhd]at hc)<;>(try have hw:=X0a hc)<;>(refine zq109q ?_;try exact zT))
   all_goals(try clear zx)
   exact V0c hF zle (Y0d (X0c (by intro jj;simp[CV.has,CV.hasL,Lst.cv,nilB])))
end Go.Proofs.Ytpchcfkebljopaa
end
section
namespace Go.Proofs.Ytpchcfkebljopaa
open Go.Cl Go Go.RowKit
theorem pack_at(l:List Bool): At (packB l) 0 l:=by
 refine⟨by rw[X0f];omega,fun i hi=>?_⟩
 rw[Nat.zero_add,X1i _ (by rw[X0f];omega)]
theorem flat_eq(r:Lst (Lst V0a)): flat r.l=(rowsL r).flatten:=by
 simp only[flat,rowsL,List.flatMap_def]
theorem canon_bits(a:Q0a): packBits (canonP a)=packBits a:=by
 have hr:rowsL (canonP a).Rows=rowsL a.Rows:=K1i _
 have hl:(canonP a).Rows.l.length=a.Rows.l.length:=by
  have:=congrArg List.length hr
  simpa only[rowsL,List.length_map]using this
 have hi:(canonP a).Inputs.l=a.Inputs.l:=K0p _
 simp only[packBits,rowsBits,rowsHead,inputsHead,packHead,hl,hi,flat_eq,hr]
 rfl
theorem rowsRight_L(r:Lst (Lst V0a))(n:Int): rowsRight r.l n=((rowsL r).all (fun x=>decide ((x.length:Int)=n)&&x.all cellRight)&&decide ((rowsL r).length<=8)&&within n 1 8):=by
 simp only[rowsRight,rowsL,List.all_map,List.length_map]
 rfl
theorem X0v(a b:Q0a): sameP (canonP a) b=sameP a b:=by
 have hr:rowsL (canonP a).Rows=rowsL a.Rows:=K1i _
 have hi:(canonP a).Inputs.l=a.Inputs.l:=K0p _
 simp only[sameP,hr,hi]
 rfl
theorem Q1w(a b:Q0a): sameP a b=sameP b a:=by
 simp only[sameP,eq_comm]
theorem V1w(a:Q0a): sameP a a=true:=by simp[sameP]
theorem sameP_canon2(a b:Q0a): sameP a (canonP b)=sameP a b:=by rw[Q1w,X0v,Q1w]
theorem own_canon(a b:Q0a): sameP (ownP (canonP a)) b=sameP (ownP a) b:=by
 have hr:rowsL (canonP a).Rows=rowsL a.Rows:=K1i _
 have hi:(canonP a).Inputs.l=a.Inputs.l:=K0p _
 have hk:(canonP a).Kind=a.Kind:=rfl
 by_cases h2:a.Kind=2
 ·simp only[sameP,ownP,hk,if_pos h2,hi];rfl
 ·by_cases h3:a.Kind=3
  ·simp only[sameP,ownP,hk,if_neg h2,if_pos h3,hr];rfl
  ·by_cases h4:a.Kind=4
   ·simp only[sameP,ownP,hk,if_neg h2,if_neg h3,if_pos h4];rfl
   ·simp only[sameP,ownP,hk,if_neg h2,if_neg h3,if_neg h4];rfl
theorem canon_right(a:Q0a): packRight (canonP a)=packRight a:=by
 have hr:rowsL (canonP a).Rows=rowsL a.Rows:=K1i _
 have hi:(canonP a).Inputs.l=a.Inputs.l:=K0p _
 simp only[packRight,own_canon,sameP_canon2,rowsRight_L,hr,hi]
 rfl
theorem V1e{a:Q0a}(h:packRight a=true): 103<=(packBits a).length/\(packBits a).length<=1721:=by
 unfold packBits
 rw[List.length_append,Y0h]
 split
 ·rename_i h2
  have:=(right_2 h h2).1
  rw[List.length_append,V0o,Z13 inBits 24 _ fun x _=>Y0q x];omega
 ·split
  ·rename_i h3
   obtain⟨h1,hn,hr⟩:=Q0r (right_3 h h3)
   have h8:=Y10 (l:=a.Rows.l) fun x hx=>by have:=(hr x hx).1;omega
   have hc:=X1g (flat a.Rows.l)
   rw[rowsBits,List.length_append,Q0s];omega
  ·split
   ·simp[Q0e]
   ·simp
theorem Z0n(key:Int)(l:List Int): (closeB key l).length=l.length+4:=by simp[closeB,four]
theorem V0x{key:Int}{a:Q0a}(h:packRight a=true)(ha:0<=a.Acks/\a.Acks<18446744073709551616): openP key (layP key a)=(canonP a,0):=by
 have hm:=V1e h
 have hl:(layP key a).length=((packBits a).length+7)/8+4:=by rw[layP,Z0n,X0f]
 have ht:(layP key a).take ((layP key a).length-4)=packB (packBits a):=by
  rw[layP,Z0n,Nat.add_sub_cancel,closeB]
  exact List.take_left' rfl
 unfold openP
 rw[if_neg (by omega),if_neg (fun hh=>hh ⟨by omega,by rw[ht];rfl⟩),ht,readP_at h ha (pack_at _)]
 simp only
 rw[if_pos ⟨by rw[canon_right];exact h,by rw[canon_bits]⟩]
end Go.Proofs.Ytpchcfkebljopaa
end
section
namespace Go.Proofs.Ytpchcfkebljopaa
open Go.Cl Go Go.RowKit
set_option maxRecDepth 100000
set_option linter.constructorNameAsVariable false
def R48q: Rel:=fun args p r=>∃(key:Int) (j:Nat) (B:List Int),args=[I key,.slc j [] 0 B.length]/\(-9223372036854775808<=key/\key<=9223372036854775807)/\(B.length<=1000000)/\(∀x∈B,0<=x/\x<=255)/\(p.t.get j=some (Wrow B))/\r=.ret (.tup [(openP key B).1.cv,I (openP key B).2]) p
theorem t48q{T:XCall}(h:Has T 48 R48q)(key:Int)(j:Nat)(B:List Int){p:Hp}(hk:-9223372036854775808<=key/\key<=9223372036854775807)(h2:B.length<=1000000)(h5:∀x∈B,0<=x/\x<=255)(h3:p.t.get j=some (Wrow B)): T 48 [I key,.slc j [] 0 B.length] p=.ret (.tup [(openP key B).1.cv,I (openP key B).2]) p:=h _ _ _ ⟨key,j,B,rfl,hk,h2,h5,h3,rfl⟩
theorem zdis48q{P:Prop}(h:P:=by first|exact zdis|(simp only[Hp.bump_n,Hp.znew_n,Hp.zset_n,List.length_nil,List.length_cons,List.length_append,List.length_map,Y0e,K0i];(first|done|omega))|(simp (disch:=first|exact zd1|(simp only[Hp.bump_n,Hp.znew_n,Hp.zset_n,List.length_nil,List.length_cons,List.length_append,List.length_map,Y0e,K0i];(first|done|omega))) only[zheap,zx];(first|done|rfl))|fail): P:=h
theorem zq48q{A B:Prop}(k:B)(h:A=B:=by((try simp -dsimp (disch:=first|exact zdis48q|fail) only[zcore,zall,zopm,zop,zcallOp,qop,qbuiltin,ofOpt,List.map,reduceCtorEq,if_true,if_false,↓reduceIte,zbin,eqRes,qassert,qnum,qshift,qun,kindOf,allocV,List.nil_append,List.append_nil,List.cons_append,List.length_cons,List.length_nil,Nat.reduceAdd,Nat.reduceEqDiff,Nat.reduceLT,Nat.reduceSub,Nat.reduceMul,Int.reduceToNat,Int.reduceLE,Int.reduceLT,Int.reduceEq,Int.reduceNeg,Int.reduceAdd,Int.reduceSub,beq_self_eq_true,cond_true,cond_false,isConstOpd,xpanic,xconv,isBytes,qconv,List.length_map,List.map_nil,List.map_cons,concrete,Option.some.injEq,exists_eq',Option.map_some,Option.map_none,List.getElem?_cons_zero,List.getElem?_cons_succ,zw48,rs48,tt3,tt44,tt68,tt94,ti3,ti44,ti68,ti94,t_50,t_73p,t_96,t_108,t_109q,K0e,X0p,zsl68,resPS,Y0e,K0i,al68,hk,h2,h5,h3,zx,hc]);rfl)): A:=h▸k
theorem c48q: Con C 48 R48q:=by
 refine V0e C ?_ ?_ ?_
 ·rintro args p r r' ⟨key,j,B,h,hk,h2,h5,h3,e⟩ ⟨key',j',B',h',hk',h2',h5',h3',e'⟩
  subst e;subst e';(subst h;simp only[List.cons.injEq,CV.sc.injEq,Value.int.injEq,CV.slc.injEq,and_true,true_and]at h';obtain⟨e2,e0,_⟩:=h';subst e0;subst e2;rw[h3]at h3';rw[Z0v (Option.some.inj h3')])
 ·rintro args p r ⟨key,j,B,h,hk,h2,h5,h3,rfl⟩;exact zr1
 rintro args p r ⟨key,j,B,rfl,hk,h2,h5,h3,rfl⟩
 refine zW C false [(50,R50),(73,R73p),(96,R96),(108,R108),(109,R109q)] ⟨c50,c73p,c96,c108,c109q,zT⟩ rfl xf48 zc48_ok fun call zh hF=>?_
 have t_50:=@t50 _ zh.1
 have t_73p:=@t73p _ zh.2.1
 have t_96:=@t96 _ zh.2.2.1
 have t_108:=@t108 _ zh.2.2.2.1
 have t_109q:=@t109q _ zh.2.2.2.2.1
 clear zh
 have hd_h3:=hF.dom _ _ h3
 have hj:=hF.dom _ _ h3
 by_cases hlong:(400:Int)<B.length
 ·have hop:openP key B=_:=openP_len (key:=key) (s:=partB B) (by rw[Y0e];omega)
  rw[hop]
  (have zx:=zA hlong h3;refine zq48q ?_;try exact zT)
  repeat'(apply zK.s<;>intro hc<;>(try simp only[zhd]at hc)<;>(try have hw:=X0a hc)<;>(refine zq48q ?_;try exact zT))
  all_goals(try clear zx)
  exact V0c hF zle (Y0d (X0c (X0s _)))
 ·by_cases ho:opensB key (partB B)
  ·have hop:openP key B=_:=openP_in (key:=key) (s:=partB B) (by rw[Y0e];omega) ho
   have hbb:∀x∈tagBody (partB B),0<=x/\x<=255:=fun x hx=>h5 x (by rw[tagBody,Y0e]at hx;exact List.mem_of_mem_take hx)
   have hbl:(tagBody (partB B)).length<=1000000:=by rw[tagBody,Y0e,List.length_take];omega
   have t7:=fun q h2 h3=>t_73p (p.n+1) (p.n+1+1) (cloneP (partB (tagBody (partB B)))) Q0a.zero (p:=q) h2 h3 (cloneP_nv _) (by rw[K0i,Y0e];omega) (by rw[K0i,Y0e];exact hbb)
   rw[K0i,Y0e]at t7
   cases hrp:readP (tagBody (partB B)) with
   |error e=>
    rw[hrp]at hop
    rw[hop]
    (have zx:=zA hlong (zA ho (zA t7 (zA hrp h3)));refine zq48q ?_;try exact zT)
    repeat'(apply zK.s<;>intro hc<;>(try simp only[zhd]at hc)<;>(try have hw:=X0a hc)<;>(refine zq48q ?_;try exact zT))
    all_goals(try clear zx)
    exact V0c hF zle (Y0d (X0c (X0s _)))
   |ok r=>
    obtain⟨u,a'⟩:=r
    rw[hrp]at hop
    have hu:=readPa_ok (a:=0) hrp
    have hno:=Y05 (a:=0) hrp
    cases hR:packRight u with
    |false=>
     rw[hop]
     simp only[hR,Bool.false_eq_true,false_and,if_false]
     (have zx:=zA hlong (zA ho (zA t7 (zA hrp (zA hu (zA hR h3)))));refine zq48q ?_;try exact zT)
     repeat'(apply zK.s<;>intro hc<;>(try simp only[zhd]at hc)<;>(try have hw:=X0a hc)<;>(refine zq48q ?_;try exact zT))
     all_goals(try clear zx)
     exact V0c hF zle (Y0d (X0c (X0s _)))
    |true=>
     have hsm:=Z1g hR
     have hpl:=V0r hsm
     have hpb:=X0f (packBits u)
     by_cases he:packB (packBits u)=tagBody (partB B)
     ·have hd:decide (packB (packBits u)=tagBody (partB B))=true:=decide_eq_true he
      rw[hop]
      simp only[hR,he,and_self,if_true]
      (have zx:=zA hlong (zA ho (zA t7 (zA hrp (zA hu (zA hR (zA hsm (zA hd h3)))))));refine zq48q ?_;try exact zT)
      repeat'(apply zK.s<;>intro hc<;>(try simp only[zhd]at hc)<;>(try have hw:=X0a hc)<;>(refine zq48q ?_;try exact zT))
      all_goals(try clear zx)
      exact V0c hF zle (Y0d (X0c (fun j hj=>by simp only[CV.has,CV.hasL,or_false]at hj;exact hno j hj)))
     ·have hd:decide (packB (packBits u)=tagBody (partB B))=false:=decide_eq_false he
      rw[hop]
      simp only[hR,he,and_false,if_false]
      (have zx:=zA hlong (zA ho (zA t7 (zA hrp (zA hu (zA hR (zA hsm (zA hd h3)))))));refine zq48q ?_;try exact zT)
      repeat'(apply zK.s<;>intro hc<;>(try simp only[zhd]at hc)<;>(try have hw:=X0a hc)<;>(refine zq48q ?_;try exact zT))
      all_goals(try clear zx)
      exact V0c hF zle (Y0d (X0c (X0s _)))
  ·have hop:openP key B=_:=openP_tag (key:=key) (s:=partB B) (by rw[Y0e];omega) ho
   rw[hop]
   (have zx:=zA hlong (zA ho h3);refine zq48q ?_;try exact zT)
   repeat'(apply zK.s<;>intro hc<;>(try simp only[zhd]at hc)<;>(try have hw:=X0a hc)<;>(refine zq48q ?_;try exact zT))
   all_goals(try clear zx)
   exact V0c hF zle (Y0d (X0c (X0s _)))
theorem bs68f(p:Hp)(a b c d:Int): xbuildS C p 68 4 [(0,Y8 a),(1,Y8 b),(2,Y8 c),(3,Y8 d)]=.ret (.slc p.n [] 0 4) (p.new (Wrow [a,b,c,d])):=by
 simp only[xbuildS,tt68,ti68,tt5,ti5];rfl
theorem app68w(p:Hp)(j k:Nat)(B D:List Int)(hj:p.t.get j=some (Wrow B))(hk:p.t.get k=some (Wrow D))(h0:0<B.length)(hd:D≠[])(hl:B.length<=1000000)(hl2:D.length<=1000000): xappend C true p 68 68 (.slc j [] 0 B.length) (.slc k [] 0 D.length)=.ret (.slc p.n [] 0 (B.length+D.length)) ((p.set j none).new (Wrow (B++D))):=by
 have hs:xsrc C p.h 5 68 (.slc k [] 0 D.length)=some (D.map Y8):=by
  have:=src68 p k D hk
  simp only[xsrc,tt68,ti68];exact this
 have ha:allSh (B.map Y8) sh5=true:=Y0u (fun x=>rfl) B
 have hb:allSh (D.map Y8) sh5=true:=Y0u (fun x=>rfl) D
 cases D with
 |nil=>exact absurd rfl hd
 |cons x D=>
  simp only[List.map_cons,List.length_cons]at hs hb
  simp only[List.length_cons]at hl2
  have h1:Nat.ble B.length B.length=true:=Nat.ble_eq_true_of_le (Nat.le_refl _)
  have h2:Nat.blt 0 B.length=true:=V0s h0
  have h3:Nat.ble ((B.length+(D.length+1))*1) 140737488355328=true:=Nat.ble_eq_true_of_le (by omega)
  have h4:Nat.ble (B.length+(D.length+1)) 9223372036854775807=true:=Nat.ble_eq_true_of_le (by omega)
  have h5:Nat.ble (B.length+(D.length+1)) B.length=false:=by
   rw[Bool.eq_false_iff];intro h;have:=Nat.le_of_ble_eq_true h;omega
  have h6:(B.map Y8).take B.length=B.map Y8:=List.take_of_length_le (by simp)
  rw[Wrow]at hj
  simp only[xappend,tt68,ti68,tt5,ti5,cond_true,hs,xappmut,hj,List.length_cons,List.length_map,h1,h2,h3,h4,h5,h6,ha,hb,Bool.and_self,cond_false,Wrow,List.map_append,List.map_cons,List.length_append]
def R107m: Rel:=fun args p r=>∃(key:Int) (s:Lst Int),args=[I key,s.cv Y8]/\(-9223372036854775808<=key/\key<=9223372036854775807)/\(s.l≠[])/\(s.tl=.part)/\(s.l.length<=100000)/\(∀x∈s.l,0<=x/\x<=255)/\r=.ret (.slc p.n [] 0 (closeB key s.l).length) (p.new (Wrow (closeB key s.l)))
theorem t107m{T:XCall}(h:Has T 107 R107m)(key:Int)(s:Lst Int){p:Hp}(hk:-9223372036854775808<=key/\key<=9223372036854775807)(h0:s.l≠[])(h1:s.tl=.part)(h2:s.l.length<=100000)(h5:∀x∈s.l,0<=x/\x<=255): T 107 [I key,s.cv Y8] p=.ret (.slc p.n [] 0 (closeB key s.l).length) (p.new (Wrow (closeB key s.l))):=h _ _ _ ⟨key,s,rfl,hk,h0,h1,h2,h5,rfl⟩
theorem zq107m{A B:Prop}(k:B)(h:A=B:=by have zy:=zA @zw107<|zA @rs107<|zA @tt3<|zA @tt5<|zA @tt68<|zA @tt178<|zA ti3.eq_1<|zA ti5.eq_1<|zA ti68.eq_1<|zA ti178.eq_1<|zA @t_159m<|zA @t_163<|zA @zsl68<|zA @bs68f<|zA @hk<|zA @h0<|zA @h1<|zA @h2<|@h5;exact zQ): A:=h▸k
theorem c107m: Con C 107 R107m:=by
 refine V0e C ?_ ?_ ?_
 ·rintro args p r r' ⟨key,s,h,hk,h0,h1,h2,h5,e⟩ ⟨key',s',h',hk',h0',h1',h2',h5',e'⟩
  subst e;subst e';simp_all[Q0g,Q0g]
 ·rintro args p r ⟨key,s,h,hk,h0,h1,h2,h5,rfl⟩;exact zr1
 rintro args p r ⟨key,s,rfl,hk,h0,h1,h2,h5,rfl⟩
 refine zW C true [(159,R159m),(163,R163)] ⟨c159m,c163,zT⟩ rfl xf107 zc107_ok fun call zh hF=>?_
 have t_159m:=@t159m _ zh.1
 have t_163:=@t163 _ zh.2.1
 clear zh
 have hr:=V0m key s.l
 generalize hS:sumB key s.l=S at hr
 have hl0:0<s.l.length:=List.length_pos_iff.2 h0
 have hcl:s.l++four S=closeB key s.l:=by rw[closeB,hS]
 have ha:=fun(p:Hp) (j k:Nat) hj hk=>app68w p j k s.l (four S) hj hk hl0 nofun (by omega) (by simp[four])
 have h4:(four S).length=4:=rfl
 rw[h4,hcl]at ha
 have h4e:=four_e S
 rw[Z0n]
 (have zx:=zA hS (zA ha h4e);refine zq107m ?_;try exact zT)
 repeat'(apply zK.s<;>intro hc<;>(try simp only[zhd]at hc)<;>(try have hw:=X0a hc)<;>(refine zq107m ?_;try exact zT))
 all_goals(try clear zx)
 exact shr_row hF (J:=p.n+1+1) (q0:=p) rfl (fun k o h=>by have hd:=hF.dom k o h;exact⟨h,by omega,by simp (disch:=first|exact zdl|fail) only[zheap];exact h⟩) (zg9) (row_weak _ _ _)
end Go.Proofs.Ytpchcfkebljopaa
end
section
namespace Go.Proofs.Ytpchcfkebljopaa
open Go.Cl Go Go.RowKit
theorem step_inj{h h' x:Int}(e:sumStep h x % 2147483647=sumStep h' x % 2147483647): h % 2147483647=h' % 2147483647:=by
 unfold sumStep at e;omega
theorem step_byte{h x y:Int}(hx:0<=x/\x<=255)(hy:0<=y/\y<=255)(e:sumStep h x % 2147483647=sumStep h y % 2147483647): x=y:=by
 unfold sumStep at e;omega
theorem V18: ∀(l:List Int) {h h':Int},l.foldl sumStep h % 2147483647=l.foldl sumStep h' % 2147483647->h % 2147483647=h' % 2147483647
 |[],_,_,e=>e
 |x::l,_,_,e=>step_inj (V18 l e)
theorem sum_key{k k':Int}{l:List Int}(e:sumB k l=sumB k' l): k % 2147483647=k' % 2147483647:=by
 unfold sumB at e
 have h:=V18 l (h:=k % 2147483647+1) (h':=k' % 2147483647+1) (by omega)
 omega
theorem sum_turn{key:Int}{l:List Int}{k:Nat}{y:Int}(hk:k<l.length)(hl:∀x∈l,0<=x/\x<=255)(hy:0<=y/\y<=255)(e:sumB key (l.set k y)=sumB key l): l.set k y=l:=by
 have hx:=hl _ (List.getElem_mem hk)
 unfold sumB at e
 rw[List.length_set]at e
 have e1:(l.set k y).foldl sumStep (key % 2147483647+1) % 2147483647=l.foldl sumStep (key % 2147483647+1) % 2147483647:=by omega
 have h1:l.set k y=l.take k++y::l.drop (k+1):=List.set_eq_take_append_cons_drop.trans (if_pos hk)
 have h2:l=l.take k++l[k]::l.drop (k+1):=by rw[<- List.drop_eq_getElem_cons hk,List.take_append_drop]
 rw[h1]at e1
 conv at e1=>rhs;rw[h2]
 rw[List.foldl_append,List.foldl_append,List.foldl_cons,List.foldl_cons]at e1
 have e2:=step_byte hy hx (V18 _ e1)
 rw[e2,List.set_getElem_self]
theorem four_inj{n m:Int}(hn:0<=n/\n<2147483647)(hm:0<=m/\m<2147483647)(e:four n=four m): n=m:=by
 simp only[four,List.cons.injEq,and_true]at e
 omega
theorem close_inj{k k':Int}{l l':List Int}(h:l.length=l'.length)(e:closeB k l=closeB k' l'): l=l'/\sumB k l=sumB k' l':=by
 unfold closeB at e
 obtain⟨e1,e2⟩:=List.append_inj e h
 exact⟨e1,four_inj (V0m _ _) (V0m _ _) e2⟩
theorem open_tag{key:Int}{B:List Int}(h:B.length<=400)(ho:¬closeB key (B.take (B.length-4))=B): openP key B=(Q0a.zero,3):=by
 unfold openP
 rw[if_neg (by omega),if_pos (fun hh=>ho hh.2)]
theorem lay_take(key:Int)(a:Q0a): (layP key a).take ((layP key a).length-4)=packB (packBits a):=by
 rw[layP,Z0n,Nat.add_sub_cancel,closeB]
 exact List.take_left' rfl
theorem Z08{key:Int}{a:Q0a}(h:packRight a=true): 5<=(layP key a).length/\(layP key a).length<=400:=by
 have hm:=V1e h
 rw[layP,Z0n,X0f];omega
theorem open_other{key o:Int}{a:Q0a}(h:packRight a=true)(hk:0<=key/\key<2147483647)(ho:0<=o/\o<2147483647)(hne:o≠key): openP o (layP key a)=(Q0a.zero,3):=by
 refine open_tag (Z08 h).2 fun e=>hne ?_
 rw[lay_take]at e
 have:=sum_key (close_inj rfl e).2
 omega
theorem open_turned{key:Int}{a:Q0a}(h:packRight a=true)(hB:∀x∈layP key a,0<=x/\x<=255){k:Nat}(hk:k<(layP key a).length){b:Int}(hb:0<=b/\b<=255)(h0:b≠0): openP key (turned (layP key a) k b)=(Q0a.zero,3):=by
 have hne:=turned_ne hB hk hb h0
 refine open_tag (by rw[turned,List.length_set];exact(Z08 h).2) fun e=>hne ?_
 have ht:=lay_take key a
 have hy:=xor8_rng (nth (layP key a) k) b
 unfold turned at e ⊢
 generalize xor8 (nth (layP key a) k) b=y at hy e ⊢
 rw[List.length_set,List.take_set,ht]at e
 have hpl:(packB (packBits a)).length+4=(layP key a).length:=by rw[layP,Z0n]
 by_cases hk2:k<(packB (packBits a)).length
 ·have e1:(packB (packBits a)).set k y++four (sumB key ((packB (packBits a)).set k y))=(packB (packBits a)).set k y++four (sumB key (packB (packBits a))):=by
   have e2:=e
   conv at e2=>rhs;rw[layP,closeB,List.set_append_left _ _ hk2]
   exact e2
  have e3:=four_inj (V0m _ _) (V0m _ _) (List.append_cancel_left e1)
  have e4:=sum_turn hk2 (fun x hx=>hB x (by rw[layP,closeB];exact List.mem_append_left _ hx)) hy e3
  rw[e4]at e
  exact e.symm
 ·rw[List.set_eq_of_length_le (by omega)]at e
  exact e.symm
theorem same_bits{a b:Q0a}(h:sameP a b=true): packBits a=packBits b:=by
 obtain⟨h1,h2,h3,h4,h5,h6,h7,h8,h9,h10,h11,h12,h13⟩:=Z0s h
 have hl:a.Rows.l.length=b.Rows.l.length:=by
  have:=congrArg List.length h11
  simpa only[rowsL,List.length_map]using this
 simp only[packBits,rowsBits,rowsHead,inputsHead,packHead,flat_eq,h1,h2,h3,h4,h5,h6,h7,h8,h9,h10,h11,h12,h13,hl]
theorem lay_same{key:Int}{a b:Q0a}(h:packRight a=true)(hb:packRight b=true)(h1:0<=a.Acks/\a.Acks<18446744073709551616)(h2:0<=b.Acks/\b.Acks<18446744073709551616): decide (layP key a=layP key b)=sameP a b:=by
 cases hs:sameP a b with
 |true=>rw[layP,layP,same_bits hs];exact decide_eq_true rfl
 |false=>
  refine decide_eq_false fun e=>?_
  have e1:=V0x (key:=key) h h1
  rw[e,V0x hb h2]at e1
  have e2:canonP b=canonP a:=congrArg Prod.fst e1
  have e3:=X0v a b
  rw[<- e2,X0v,V1w,hs]at e3
  cases e3
end Go.Proofs.Ytpchcfkebljopaa
end
section
namespace Go.Proofs.Ytpchcfkebljopaa
open Go.Cl Go Go.RowKit
set_option maxRecDepth 100000
set_option linter.constructorNameAsVariable false
def helloP: Q0a:=⟨1,0,0,0,false,0,0,0,⟨.nil,[],fun _=>rfl⟩,0,⟨.nil,[],fun _=>rfl⟩,0,0⟩
theorem K1p: packRight helloP=true:=by decide
theorem hello_len: (layP 5 helloP).length=17:=by rw[layP,Z0n,X0f];decide
theorem K1k(key:Int)(a:Q0a): ∀x∈layP key a,0<=x/\x<=255:=fun x hx=>by
 rw[layP,closeB]at hx
 rcases List.mem_append.1 hx with hx|hx
 ·exact V1c _ x hx
 ·simp only[four,List.mem_cons,List.not_mem_nil,or_false]at hx
  omega
def R47: Rel:=fun args p r=>args=[]/\r=.ret (Bo true) p
theorem t47{T:XCall}(h:Has T 47 R47) {p:Hp}:T 47 [] p=.ret (Bo true) p:=h _ _ _ ⟨rfl,rfl⟩
theorem zdis47{P:Prop}(h:P:=by first|exact zdis|(simp only[Hp.bump_n,Hp.znew_n,Hp.zset_n,List.length_nil,List.length_cons,List.length_append,List.length_map,Y0e];(first|done|omega))|(simp (disch:=first|exact zd1|(simp only[Hp.bump_n,Hp.znew_n,Hp.zset_n,List.length_nil,List.length_cons,List.length_append,List.length_map,Y0e];(first|done|omega))) only[zheap,zx];(first|done|rfl))|fail): P:=h
theorem zq47{A B:Prop}(k:B)(h:A=B:=by have zy:=zA @zw47<|zA @rs47<|zA @tt3<|zA @tt68<|zA @tt69<|zA @tt94<|zA ti3.eq_1<|zA ti68.eq_1<|zA ti69.eq_1<|zA ti94.eq_1<|zA @t_46<|zA @t_48<|zA @K0e<|zA @zsl68<|@Y0e;have zd:=@zdis47;exact zQd): A:=h▸k
theorem c47: Con C 47 R47:=by
 refine V0e C ?_ ?_ ?_
 ·rintro args p r r' ⟨h,e⟩ ⟨h',e'⟩
  subst e;subst e';simp_all[Q0a.inj_iff,Q0g]
 ·rintro args p r ⟨h,rfl⟩;exact zr1
 rintro args p r ⟨rfl,rfl⟩
 refine zW C false [(46,R46),(48,R48)] ⟨c46,c48,zT⟩ rfl xf47 zc47_ok fun call zh hF=>?_
 have t_46:=@t46 _ zh.1
 have t_48:=@t48 _ zh.2.1
 clear zh
 have hR:=K1p
 have hO:openP 5 (layP 5 helloP)=(canonP helloP,0):=V0x K1p (by decide)
 have hl:=hello_len
 have hb:=K1k 5 helloP
 have hok:packOk helloP:=⟨by decide,by decide,nofun⟩
 have t1:=fun q=>(t_46 5 helloP (p:=q) (by omega) hok).trans (if_pos hR)
 have t2:=fun q=>t_48 5 (partB (layP 5 helloP)) (p:=q) (by omega) (.inl rfl) (by rw[Y0e];omega) hb
 rw[Y0e,hO]at t2
 have hlit:(⟨1,0,0,0,false,0,0,0,⟨.nil,[],fun _=>rfl⟩,0,⟨.nil,[],fun _=>rfl⟩,0,0⟩:Q0a)=helloP:=rfl
 have hck:(canonP helloP).Kind=1:=rfl
 (have zx:=zA t1 (zA t2 (zA hl (zA hlit (zA hck hR))));refine zq47 ?_;try exact zT)
 repeat'(apply zK.s<;>intro hc<;>(try simp only[zhd]at hc)<;>(try have hw:=X0a hc)<;>(refine zq47 ?_;try exact zT))
 all_goals(try clear zx)
 exact V0c hF zle (Q0d rfl (X0c (by intro jj;simp[CV.has])))
end Go.Proofs.Ytpchcfkebljopaa
end
section
namespace Go.Proofs.Ytpchcfkebljopaa
open Go.Cl Go Go.RowKit
def baseP(x:K0a): Q0a:={Q0a.zero with Kind:=1+pick x.Kind 6,Slot:=pick x.Slot 8,Seq:=pick x.Seq 65536,Any:=x.Any,Last:=if x.Any then pick x.Last 65536 else 0,Acks:=if x.Any then x.Acks else 0}
def insOf(l:List Int): List Y0a:=(l.take 16).map fun n=>handInput n (w64 (n.tdiv 3))
def rows8(n:Int)(l:List (Lst Int)): List (Lst V0a):=(l.take 8).map (rowL n)
def filledP(x:K0a): Q0a:=
 if 1+pick x.Kind 6=2 then {baseP x with Got:=pick x.Got 40,First:=pick x.First 40,Inputs:=lstP (insOf x.Inputs.l)}
 else if 1+pick x.Kind 6=3 then {baseP x with Players:=1+pick x.Players 8,First:=pick x.First 40,Rows:=lstP (rows8 (1+pick x.Players 8) x.Rows.l)}
 else if 1+pick x.Kind 6=4 then {baseP x with Frame:=pick x.Frame 60,Mark:=pick x.Mark 4611686018427387904} else baseP x
def bendP(x:K0a)(b:Q0a): Q0a:=
 if pick x.Bend 40=30 then {b with Kind:=pick (w64 (x.Bend.tdiv 40)) 10-1} else
 if pick x.Bend 40=31 then {b with Seq:=x.Seq} else
 if pick x.Bend 40=32 then {b with Got:=x.Got} else
 if pick x.Bend 40=33 then {b with First:=x.First} else
 if pick x.Bend 40=34 then {b with Frame:=x.Frame} else
 if pick x.Bend 40=35 then {b with Mark:=x.Mark} else
 if pick x.Bend 40=36 then {b with Players:=pick (w64 (x.Bend.tdiv 40)) 12} else
 if pick x.Bend 40=37 then {b with Inputs:=lstP (b.Inputs.l++[⟨x.Got,x.First,0⟩])} else
 if pick x.Bend 40=38 then {b with Last:=x.Last} else
 if pick x.Bend 40=39 then {b with Slot:=x.Slot} else b
def packetOf(x:K0a): Q0a:=bendP x (filledP x)
end Go.Proofs.Ytpchcfkebljopaa
end
section
namespace Go.Proofs.Ytpchcfkebljopaa
open Go.Cl Go Go.RowKit
set_option maxRecDepth 100000
set_option linter.constructorNameAsVariable false
def K45(x:K0a)(F:Q0a)(p:Hp)(ρ:Env)(q:Hp): Prop:=
 ρ 1=.ptr p.n []/\ρ 2=.ptr (p.n+1) []/\ρ 3=.ptr (p.n+15) []/\∃(A:Lst Y0a) (R:Lst (Lst V0a)),q.t.get p.n=some (.var sh90 x.cv)/\q.t.get (p.n+1)=some (.var sh94 Q0a.zero.cv)/\q.t.get (p.n+15)=some (.var sh94 (Q0a.cv {F with Inputs:=A,Rows:=R}))/\F.Inputs=lstP A.l/\A.l.length<=16/\App (p.n+15) A q/\CV.weak (fun k=>k) p.n (R.cv (Lst.cv V0a.cv)) (F.Rows.cv (Lst.cv V0a.cv))/\p.n+15<q.n/\HpLe p q
theorem App.weakI{n0 n:Nat}{A:Lst Y0a}{q:Hp}(h:App n0 A q): CV.weak (fun k=>k) n (A.cv Y0a.cv) ((lstP A.l).cv Y0a.cv):=h.T.weak _ (CV.weakL_refl _ fun j hj=>(V0i (f:=Y0a.cv) Y0a.nohas _ j hj).elim)
def K45b(x:K0a)(p:Hp)(ρ:Env)(q:Hp): Prop:=
 ρ 1=.ptr p.n []/\ρ 2=.ptr (p.n+1) []/\ρ 3=.ptr (p.n+15) []/\q.t.get p.n=some (.var sh90 x.cv)/\q.t.get (p.n+1)=some (.var sh94 Q0a.zero.cv)/\q.t.get (p.n+15)=some (.var sh94 (baseP x).cv)/\p.n+15<q.n/\HpLe p q
def J45(x:K0a)(F0:Q0a)(p:Hp)(n:Nat)(ρ:Env)(q:Hp): Prop:=
 ∃(m:Nat) (A:Lst Y0a),n=16-m/\m<=16/\m<=x.Inputs.l.length/\ρ 1=.ptr p.n []/\ρ 2=.ptr (p.n+1) []/\ρ 3=.ptr (p.n+15) []/\ρ 4=I m/\A.l=(x.Inputs.l.take m).map (fun n=>handInput n (w64 (n.tdiv 3)))/\A.l.length=m/\App (p.n+15) A q/\q.t.get p.n=some (.var sh90 x.cv)/\q.t.get (p.n+1)=some (.var sh94 Q0a.zero.cv)/\q.t.get (p.n+15)=some (.var sh94 (Q0a.cv {F0 with Inputs:=A}))/\p.n+15<q.n/\HpLe p q
def L45(x:K0a)(F0:Q0a)(N:Int)(p:Hp)(n:Nat)(ρ:Env)(q:Hp): Prop:=
 ∃(m:Nat) (A:Lst (Lst V0a)),n=8-m/\m<=8/\m<=x.Rows.l.length/\ρ 1=.ptr p.n []/\ρ 2=.ptr (p.n+1) []/\ρ 3=.ptr (p.n+15) []/\ρ 5=I m/\A.l=(x.Rows.l.take m).map (rowL N)/\A.l.length=m/\App (p.n+15) A q/\q.t.get p.n=some (.var sh90 x.cv)/\q.t.get (p.n+1)=some (.var sh94 Q0a.zero.cv)/\q.t.get (p.n+15)=some (.var sh94 (Q0a.cv {F0 with Rows:=A}))/\p.n+15<q.n/\HpLe p q
theorem rowL_no(N:Int)(l:List (Lst Int))(j:Nat): ¬CV.hasL j ((l.map (rowL N)).map (Lst.cv V0a.cv)):=by
 induction l with
 |nil=>simp[CV.hasL]
 |cons x l ih=>
  simp only[List.map_cons,CV.hasL]
  rintro(h|h)
  ·have:=(Lst.has _ V0a.nohas (rowL N x) j).1 h
   cases this
  ·exact ih h
def R45: Rel:=fun args p r=>∃(x:K0a),args=[x.cv]/\r=.ret (packetOf x).cv p
theorem t45{T:XCall}(h:Has T 45 R45)(x:K0a){p:Hp}:T 45 [x.cv] p=.ret (packetOf x).cv p:=h _ _ _ ⟨x,rfl,rfl⟩
theorem zq45{A B:Prop}(k:B)(h:A=B:=by have zy:=zA @zw45<|zA @rs45<|zA @tt3<|zA @tt4<|zA @tt24<|zA @tt25<|zA @tt36<|zA @tt58<|zA @tt90<|zA @tt91<|zA @tt92<|zA @tt94<|zA ti3.eq_1<|zA ti4.eq_1<|zA ti24.eq_1<|zA ti25.eq_1<|zA ti36.eq_1<|zA ti58.eq_1<|zA ti90.eq_1<|zA ti91.eq_1<|zA ti92.eq_1<|zA ti94.eq_1<|zA @t_37<|zA @t_65<|zA @t_69<|zA @X0t<|zA @K0e<|zA @Z0e<|zA @zsl24<|zA @zsl58<|zA @zsl91<|@zsl92;exact zQ): A:=h▸k
theorem c45: Con C 45 R45:=by
 refine V0e C ?_ ?_ ?_
 ·rintro args p r r' ⟨x,h,e⟩ ⟨x',h',e'⟩
  subst e;subst e';simp_all[K0a.inj_iff,Q0a.inj_iff,Y0a.inj_iff,X16,sl_inj58,V0p,Q0l]
 ·rintro args p r ⟨x,h,rfl⟩;exact zr1
 rintro args p r ⟨x,rfl,rfl⟩
 refine zW C false [(37,R37),(65,R65),(69,R69)] ⟨c37,c65,c69,zT⟩ rfl xf45 zc45_ok fun call zh hF=>?_
 have t_37:=@t37 _ zh.1
 have t_65:=@t65 _ zh.2.1
 have t_69:=@t69 _ zh.2.2.1
 clear zh
 obtain⟨F,hFe⟩:∃F,F=filledP x:=⟨_,rfl⟩
 have hpo:packetOf x=bendP x F:=by rw[packetOf,hFe]
 have hw:=Q09 (x.Bend.tdiv 40)
 have hwe:w64 (x.Bend.tdiv 40)=IntKind.i64.wrap (x.Bend.tdiv 40):=rfl
 have hk40:=X0k (n:=x.Bend) (m:=40) (by omega)
 have hk10:=X0k (n:=w64 (x.Bend.tdiv 40)) (m:=10) (by omega)
 rw[hwe]at hk10
 have main:∀ρ q,K45 x F p ρ q->W C false noExt call (ZC.seq (ZC.seq V03 (ZC.block 5 (ZC.seq X00 (ZC.cond (Tm 116) Z03 (ZC.seq Y00 (ZC.cond (Tm 124) K04 (ZC.seq K02 (ZC.cond (Tm 129) Y02 (ZC.seq K03 (ZC.cond (Tm 134) Y04 (ZC.seq Q04 (ZC.cond (Tm 139) V04 (ZC.seq K01 (ZC.cond (Tm 144) V02 (ZC.seq X03 (ZC.cond (Tm 149) Q02 (ZC.seq Y01 (ZC.cond (Tm 156) X01 (ZC.seq Y03 (ZC.cond (Tm 168) Q03 (ZC.seq K0w (ZC.cond (Tm 173) X0w ZC.skip)))))))))))))))))))))) (ZC.seq Y0v ZC.ret)) ρ q (endQ C (xfOf Try.f45).rs fun r'=>ShrR p r' (.ret (packetOf x).cv p)):=by
  rintro ρ q ⟨e1,e2,e3,A,R,g1,g2,g3,hA,hA16,happ,hR,hn,hle⟩
  have hfin:∀y:Q0a,y.Inputs=F.Inputs->y.Rows=F.Rows->CV.weak (fun k=>k) p.n (Q0a.cv {y with Inputs:=A,Rows:=R}) y.cv:=fun y h1 h2=>by
   have:=V0y (n:=p.n) (x:=y) (I1:=A) (I2:=lstP A.l) (R1:=R) (R2:=F.Rows) happ.weakI hR
   rw[<- hA,<- h1,<- h2]at this
   exact this
  rw[hpo]
  by_cases b0:pick x.Bend 40=30
  ·have hb:bendP x F={F with Kind:=pick (w64 (x.Bend.tdiv 40)) 10-1}:=by simp only[bendP,b0,if_true,if_false]
   rw[hb,hwe]
   (have zx:=zA e1 (zA e2 (zA e3 (zA g1 (zA g2 (zA g3 b0)))));refine zq45 ?_;try exact zT)
   repeat'(apply zK.s<;>intro hc<;>(try simp only[zhd]at hc)<;>(try have hw:=X0a hc)<;>(refine zq45 ?_;try exact zT))
   all_goals(try clear zx)
   exact V0c hF (fun k o h=>by have hd:=hF.dom _ _ h;have hq:=hle k o h;simp (disch:=first|exact zdl|fail) only[zheap];exact hq) (hfin {F with Kind:=pick (w64 (x.Bend.tdiv 40)) 10-1} rfl rfl)
  ·skip
   by_cases b1:pick x.Bend 40=31
   ·have hb:bendP x F={F with Seq:=x.Seq}:=by simp only[bendP,b0,b1,if_true,if_false,Int.reduceEq]
    rw[hb]
    (have zx:=zA e1 (zA e2 (zA e3 (zA g1 (zA g2 (zA g3 (zA b0 b1))))));refine zq45 ?_;try exact zT)
    repeat'(apply zK.s<;>intro hc<;>(try simp only[zhd]at hc)<;>(try have hw:=X0a hc)<;>(refine zq45 ?_;try exact zT))
    all_goals(try clear zx)
    exact V0c hF (fun k o h=>by have hd:=hF.dom _ _ h;have hq:=hle k o h;simp (disch:=first|exact zdl|fail) only[zheap];exact hq) (hfin {F with Seq:=x.Seq} rfl rfl)
   ·skip
    by_cases b2:pick x.Bend 40=32
    ·have hb:bendP x F={F with Got:=x.Got}:=by simp only[bendP,b0,b1,b2,if_true,if_false,Int.reduceEq]
     rw[hb]
     (have zx:=zA e1 (zA e2 (zA e3 (zA g1 (zA g2 (zA g3 (zA b0 (zA b1 b2)))))));refine zq45 ?_;try exact zT)
     repeat'(apply zK.s<;>intro hc<;>(try simp only[zhd]at hc)<;>(try have hw:=X0a hc)<;>(refine zq45 ?_;try exact zT))
     all_goals(try clear zx)
     exact V0c hF (fun k o h=>by have hd:=hF.dom _ _ h;have hq:=hle k o h;simp (disch:=first|exact zdl|fail) only[zheap];exact hq) (hfin {F with Got:=x.Got} rfl rfl)
    ·skip
     by_cases b3:pick x.Bend 40=33
     ·have hb:bendP x F={F with First:=x.First}:=by simp only[bendP,b0,b1,b2,b3,if_true,if_false,Int.reduceEq]
      rw[hb]
      (have zx:=zA e1 (zA e2 (zA e3 (zA g1 (zA g2 (zA g3 (zA b0 (zA b1 (zA b2 b3))))))));refine zq45 ?_;try exact zT)
      repeat'(apply zK.s<;>intro hc<;>(try simp only[zhd]at hc)<;>(try have hw:=X0a hc)<;>(refine zq45 ?_;try exact zT))
      all_goals(try clear zx)
      exact V0c hF (fun k o h=>by have hd:=hF.dom _ _ h;have hq:=hle k o h;simp (disch:=first|exact zdl|fail) only[zheap];exact hq) (hfin {F with First:=x.First} rfl rfl)
     ·skip
      by_cases b4:pick x.Bend 40=34
      ·have hb:bendP x F={F with Frame:=x.Frame}:=by simp only[bendP,b0,b1,b2,b3,b4,if_true,if_false,Int.reduceEq]
       rw[hb]
       (have zx:=zA e1 (zA e2 (zA e3 (zA g1 (zA g2 (zA g3 (zA b0 (zA b1 (zA b2 (zA b3 b4)))))))));refine zq45 ?_;try exact zT)
       repeat'(apply zK.s<;>intro hc<;>(try simp only[zhd]at hc)<;>(try have hw:=X0a hc)<;>(refine zq45 ?_;try exact zT))
       all_goals(try clear zx)
       exact V0c hF (fun k o h=>by have hd:=hF.dom _ _ h;have hq:=hle k o h;simp (disch:=first|exact zdl|fail) only[zheap];exact hq) (hfin {F with Frame:=x.Frame} rfl rfl)
      ·skip
       by_cases b5:pick x.Bend 40=35
       ·have hb:bendP x F={F with Mark:=x.Mark}:=by simp only[bendP,b0,b1,b2,b3,b4,b5,if_true,if_false,Int.reduceEq]
        rw[hb]
        (have zx:=zA e1 (zA e2 (zA e3 (zA g1 (zA g2 (zA g3 (zA b0 (zA b1 (zA b2 (zA b3 (zA b4 b5))))))))));refine zq45 ?_;try exact zT)
        repeat'(apply zK.s<;>intro hc<;>(try simp only[zhd]at hc)<;>(try have hw:=X0a hc)<;>(refine zq45 ?_;try exact zT))
        all_goals(try clear zx)
        exact V0c hF (fun k o h=>by have hd:=hF.dom _ _ h;have hq:=hle k o h;simp (disch:=first|exact zdl|fail) only[zheap];exact hq) (hfin {F with Mark:=x.Mark} rfl rfl)
       ·skip
        by_cases b6:pick x.Bend 40=36
        ·have hb:bendP x F={F with Players:=pick (w64 (x.Bend.tdiv 40)) 12}:=by simp only[bendP,b0,b1,b2,b3,b4,b5,b6,if_true,if_false,Int.reduceEq]
         rw[hb,hwe]
         (have zx:=zA e1 (zA e2 (zA e3 (zA g1 (zA g2 (zA g3 (zA b0 (zA b1 (zA b2 (zA b3 (zA b4 (zA b5 b6)))))))))));refine zq45 ?_;try exact zT)
         repeat'(apply zK.s<;>intro hc<;>(try simp only[zhd]at hc)<;>(try have hw:=X0a hc)<;>(refine zq45 ?_;try exact zT))
         all_goals(try clear zx)
         exact V0c hF (fun k o h=>by have hd:=hF.dom _ _ h;have hq:=hle k o h;simp (disch:=first|exact zdl|fail) only[zheap];exact hq) (hfin {F with Players:=pick (w64 (x.Bend.tdiv 40)) 12} rfl rfl)
        ·skip
         by_cases b7:pick x.Bend 40=37
         ·have hb:bendP x F={F with Inputs:=lstP (F.Inputs.l++[⟨x.Got,x.First,0⟩])}:=by simp only[bendP,b0,b1,b2,b3,b4,b5,b6,b7,if_true,if_false,Int.reduceEq]
          rw[hb]
          have hAl:F.Inputs.l=A.l:=by rw[hA,K0p]
          rw[hAl]
          obtain⟨tl,al,ok⟩:=A
          simp only at hA16
          rcases happ with ht|⟨j1,ht,hj1,hj2,hj3,hj4⟩
          ·simp only at ht
           subst ht
           (have zx:=zA e1 (zA e2 (zA e3 (zA g1 (zA g2 (zA g3 (zA b0 (zA b1 (zA b2 (zA b3 (zA b4 (zA b5 (zA b6 b7))))))))))));refine zq45 ?_;try exact zT)
           repeat'(apply zK.s<;>intro hc<;>(try simp only[zhd]at hc)<;>(try have hw:=X0a hc)<;>(refine zq45 ?_;try exact zT))
           all_goals(try clear zx)
           refine V0c hF (fun k o h=>by have hd:=hF.dom _ _ h;have hq:=hle k o h;simp (disch:=first|exact zdl|fail) only[zheap];exact hq) ?_
           exact V0y (x:={F with Inputs:=⟨.nil,[],fun _=>rfl⟩}) (AppT.weak (.inr ⟨⟨_,rfl⟩,by simp⟩) _ (CV.weakL_refl _ fun j hj=>(V0i (f:=Y0a.cv) Y0a.nohas _ j hj).elim)) hR
          ·simp only at ht hj3 hj4
           subst ht
           (have zx:=zA e1 (zA e2 (zA e3 (zA g1 (zA g2 (zA g3 (zA b0 (zA b1 (zA b2 (zA b3 (zA b4 (zA b5 (zA b6 (zA b7 (zA hj3 hj4))))))))))))));refine zq45 ?_;try exact zT)
           repeat'(apply zK.s<;>intro hc<;>(try simp only[zhd]at hc)<;>(try have hw:=X0a hc)<;>(refine zq45 ?_;try exact zT))
           all_goals(try clear zx)
           refine V0c hF (fun k o h=>by have hd:=hF.dom _ _ h;have hq:=hle k o h;simp (disch:=first|exact zdl|fail) only[zheap];exact hq) ?_
           exact V0y (x:={F with Inputs:=⟨.nil,[],fun _=>rfl⟩}) (AppT.weak (.inr ⟨⟨_,rfl⟩,by simp⟩) _ (CV.weakL_refl _ fun j hj=>(V0i (f:=Y0a.cv) Y0a.nohas _ j hj).elim)) hR
         ·skip
          by_cases b8:pick x.Bend 40=38
          ·have hb:bendP x F={F with Last:=x.Last}:=by simp only[bendP,b0,b1,b2,b3,b4,b5,b6,b7,b8,if_true,if_false,Int.reduceEq]
           rw[hb]
           (have zx:=zA e1 (zA e2 (zA e3 (zA g1 (zA g2 (zA g3 (zA b0 (zA b1 (zA b2 (zA b3 (zA b4 (zA b5 (zA b6 (zA b7 b8)))))))))))));refine zq45 ?_;try exact zT)
           repeat'(apply zK.s<;>intro hc<;>(try simp only[zhd]at hc)<;>(try have hw:=X0a hc)<;>(refine zq45 ?_;try exact zT))
           all_goals(try clear zx)
           exact V0c hF (fun k o h=>by have hd:=hF.dom _ _ h;have hq:=hle k o h;simp (disch:=first|exact zdl|fail) only[zheap];exact hq) (hfin {F with Last:=x.Last} rfl rfl)
          ·skip
           by_cases b9:pick x.Bend 40=39
           ·have hb:bendP x F={F with Slot:=x.Slot}:=by simp only[bendP,b0,b1,b2,b3,b4,b5,b6,b7,b8,b9,if_true,if_false,Int.reduceEq]
            rw[hb]
            (have zx:=zA e1 (zA e2 (zA e3 (zA g1 (zA g2 (zA g3 (zA b0 (zA b1 (zA b2 (zA b3 (zA b4 (zA b5 (zA b6 (zA b7 (zA b8 b9))))))))))))));refine zq45 ?_;try exact zT)
            repeat'(apply zK.s<;>intro hc<;>(try simp only[zhd]at hc)<;>(try have hw:=X0a hc)<;>(refine zq45 ?_;try exact zT))
            all_goals(try clear zx)
            exact V0c hF (fun k o h=>by have hd:=hF.dom _ _ h;have hq:=hle k o h;simp (disch:=first|exact zdl|fail) only[zheap];exact hq) (hfin {F with Slot:=x.Slot} rfl rfl)
           ·skip
            have hb:bendP x F=F:=by simp only[bendP,b0,b1,b2,b3,b4,b5,b6,b7,b8,b9,if_false]
            rw[hb]
            (have zx:=zA e1 (zA e2 (zA e3 (zA g1 (zA g2 (zA g3 (zA b0 (zA b1 (zA b2 (zA b3 (zA b4 (zA b5 (zA b6 (zA b7 (zA b8 b9))))))))))))));refine zq45 ?_;try exact zT)
            repeat'(apply zK.s<;>intro hc<;>(try simp only[zhd]at hc)<;>(try have hw:=X0a hc)<;>(refine zq45 ?_;try exact zT))
            all_goals(try clear zx)
            exact V0c hF (fun k o h=>by have hd:=hF.dom _ _ h;have hq:=hle k o h;simp (disch:=first|exact zdl|fail) only[zheap];exact hq) (hfin F rfl rfl)
 have main2:∀ρ q,K45b x p ρ q->W C false noExt call (ZC.seq (ZC.seq Y1j (ZC.block 0 (ZC.seq Q1j (ZC.cond (Tm 30) (ZC.seq Y1s (ZC.seq V1k (ZC.seq Y1m (ZC.block 1 (ZC.loop X04))))) (ZC.seq X1l (ZC.cond (Tm 68) (ZC.seq V1n (ZC.seq V1q (ZC.seq Z1h (ZC.block 3 (ZC.loop Z01))))) (ZC.seq X1k (ZC.cond (Tm 103) (ZC.seq Y1r X1j) ZC.skip)))))))) (ZC.seq (ZC.seq V03 (ZC.block 5 (ZC.seq X00 (ZC.cond (Tm 116) Z03 (ZC.seq Y00 (ZC.cond (Tm 124) K04 (ZC.seq K02 (ZC.cond (Tm 129) Y02 (ZC.seq K03 (ZC.cond (Tm 134) Y04 (ZC.seq Q04 (ZC.cond (Tm 139) V04 (ZC.seq K01 (ZC.cond (Tm 144) V02 (ZC.seq X03 (ZC.cond (Tm 149) Q02 (ZC.seq Y01 (ZC.cond (Tm 156) X01 (ZC.seq Y03 (ZC.cond (Tm 168) Q03 (ZC.seq K0w (ZC.cond (Tm 173) X0w ZC.skip)))))))))))))))))))))) (ZC.seq Y0v ZC.ret))) ρ q (endQ C (xfOf Try.f45).rs fun r'=>ShrR p r' (.ret (packetOf x).cv p)):=by
  rintro ρ q ⟨e1,e2,e3,g1,g2,g3,hn,hle⟩
  obtain⟨R,hRR⟩:∃R,R=(ZC.seq (ZC.seq V03 (ZC.block 5 (ZC.seq X00 (ZC.cond (Tm 116) Z03 (ZC.seq Y00 (ZC.cond (Tm 124) K04 (ZC.seq K02 (ZC.cond (Tm 129) Y02 (ZC.seq K03 (ZC.cond (Tm 134) Y04 (ZC.seq Q04 (ZC.cond (Tm 139) V04 (ZC.seq K01 (ZC.cond (Tm 144) V02 (ZC.seq X03 (ZC.cond (Tm 149) Q02 (ZC.seq Y01 (ZC.cond (Tm 156) X01 (ZC.seq Y03 (ZC.cond (Tm 168) Q03 (ZC.seq K0w (ZC.cond (Tm 173) X0w ZC.skip)))))))))))))))))))))) (ZC.seq Y0v ZC.ret)):=⟨_,rfl⟩
  rw[<- hRR]at main ⊢
  clear hRR
  have hk6:=X0k (n:=x.Kind) (m:=6) (by omega)
  have hp8:=X0k (n:=x.Players) (m:=8) (by omega)
  have hbk:(baseP x).Kind=1+pick x.Kind 6:=rfl
  by_cases k2:1+pick x.Kind 6=2
  ·obtain⟨F0,hF0⟩:∃F0,F0=({baseP x with Kind:=2,Got:=pick x.Got 40,First:=pick x.First 40}:Q0a):=⟨_,rfl⟩
   have hFf:F={F0 with Inputs:=lstP (insOf x.Inputs.l)}:=by
    rw[hFe,filledP,if_pos k2,hF0]
    apply Q0a.ext'<;>first|rfl|exact k2
   (have zx:=zA e1 (zA e2 (zA e3 (zA g1 (zA g2 (zA g3 (zA hbk k2))))));refine zq45 ?_;try exact zT)
   repeat'(apply zK.s<;>intro hc<;>(try simp only[zhd]at hc)<;>(try have hw:=X0a hc)<;>(refine zq45 ?_;try exact zT))
   all_goals(try clear zx)
   (show W C false noExt call (ZC.loop X04) _ _ _);refine Z0j C false noExt call X04 _ _ _ (J45 x F0 p) 16 ⟨0,⟨.nil,[],fun _=>rfl⟩,rfl,by omega,by omega,zev,zev,zev,zev,rfl,rfl,.inl rfl,zg9,zg9,?_,zdl,(fun k o h=>by have hd:=hF.dom _ _ h;have hq:=hle k o h;simp (disch:=first|exact zdl|fail) only[zheap];exact hq)⟩ ?_
   ·rw[hF0];simp (disch:=first|exact zdl|fail) only[zheap]<;>rfl
   clear e1 e2 e3 g1 g2 g3 hn hle
   rintro n ρ q ⟨m,A,rfl,hm16,hml,e1,e2,e3,e4,hAl,hAn,happ,g1,g2,g3,hn,hle⟩
   have hend:m=min 16 x.Inputs.l.length->∀ρ',ρ' 1=.ptr p.n []->ρ' 2=.ptr (p.n+1) []->ρ' 3=.ptr (p.n+15) []->K45 x F p ρ' q:=fun hm ρ' e1 e2 e3=>by
    have hins:insOf x.Inputs.l=A.l:=by
     rw[hAl,insOf]
     congr 1
     rcases Nat.le_total 16 x.Inputs.l.length with h|h
     ·congr 1;omega
     ·rw[List.take_of_length_le h,List.take_of_length_le (by omega)]
    refine⟨e1,e2,e3,A,F0.Rows,g1,g2,?_,by rw[hFf,hins],by omega,happ,?_,hn,hle⟩
    ·rw[g3,hFf]
    ·rw[hFf,hF0];exact Y0d (X0c (nilHas _))
   by_cases hlt:(m:Int)<x.Inputs.l.length
   ·by_cases h16:(m:Int)<16
    ·have hw3:=Q09 ((nth x.Inputs.l m).tdiv 3)
     have hw4:w64 ((nth x.Inputs.l m).tdiv 3)=IntKind.i64.wrap ((nth x.Inputs.l m).tdiv 3):=rfl
     obtain⟨tl,al,ok⟩:=A
     simp only at hAl hAn
     rcases happ with ht|⟨j1,ht,hj1,hj2,hj3,hj4⟩
     ·simp only at ht
      subst ht
      (have zx:=zA e1 (zA e2 (zA e3 (zA e4 (zA g1 (zA g2 (zA g3 (zA hlt h16)))))));refine zq45 ?_;try exact zT)
      repeat'(apply zK.s<;>intro hc<;>(try simp only[zhd]at hc)<;>(try have hw:=X0a hc)<;>(refine zq45 ?_;try exact zT))
      all_goals(try clear zx)
      refine⟨16-(m+1),by omega,m+1,⟨.own (q.n+18),al++[handInput (nth x.Inputs.l m) (w64 ((nth x.Inputs.l m).tdiv 3))],nofun⟩,rfl,by omega,by omega,zev,zev,zev,zev,by rw[Z0l (by omega),List.map_append,<- hAl];rfl,by simp[hAn],.inr ⟨(q.n+18),rfl,zdl,zdl,by simp (disch:=first|exact zdl|fail) only[zheap];simp[hAn],by simp⟩,zg9,zg9,by simp (disch:=first|exact zdl|fail) only[zheap]<;>rfl,zdl,(fun k o h=>by have hd:=hF.dom _ _ h;have hq:=hle k o h;simp (disch:=first|exact zdl|fail) only[zheap];exact hq)⟩
     ·simp only at ht hj3 hj4
      subst ht
      (have zx:=zA e1 (zA e2 (zA e3 (zA e4 (zA g1 (zA g2 (zA g3 (zA hlt (zA h16 (zA hj3 hj4)))))))));refine zq45 ?_;try exact zT)
      repeat'(apply zK.s<;>intro hc<;>(try simp only[zhd]at hc)<;>(try have hw:=X0a hc)<;>(refine zq45 ?_;try exact zT))
      all_goals(try clear zx)
      refine⟨16-(m+1),by omega,m+1,⟨.own (q.n+18),al++[handInput (nth x.Inputs.l m) (w64 ((nth x.Inputs.l m).tdiv 3))],nofun⟩,rfl,by omega,by omega,zev,zev,zev,zev,by rw[Z0l (by omega),List.map_append,<- hAl];rfl,by simp[hAn],.inr ⟨(q.n+18),rfl,zdl,zdl,by simp (disch:=first|exact zdl|fail) only[zheap];simp[hAn],by simp⟩,zg9,zg9,by simp (disch:=first|exact zdl|fail) only[zheap]<;>rfl,zdl,(fun k o h=>by have hd:=hF.dom _ _ h;have hq:=hle k o h;simp (disch:=first|exact zdl|fail) only[zheap];exact hq)⟩
    ·(have zx:=zA e1 (zA e2 (zA e3 (zA e4 (zA g1 (zA g2 (zA g3 (zA hlt h16)))))));refine zq45 ?_;try exact zT)
     repeat'(apply zK.s<;>intro hc<;>(try simp only[zhd]at hc)<;>(try have hw:=X0a hc)<;>(refine zq45 ?_;try exact zT))
     all_goals(try clear zx)
     exact main _ _ (hend (by omega) _ (zev) (zev) (zev))
   ·(have zx:=zA e1 (zA e2 (zA e3 (zA e4 (zA g1 (zA g2 (zA g3 hlt))))));refine zq45 ?_;try exact zT)
    repeat'(apply zK.s<;>intro hc<;>(try simp only[zhd]at hc)<;>(try have hw:=X0a hc)<;>(refine zq45 ?_;try exact zT))
    all_goals(try clear zx)
    exact main _ _ (hend (by omega) _ (zev) (zev) (zev))
  ·by_cases k3:1+pick x.Kind 6=3
   ·obtain⟨F0,hF0⟩:∃F0,F0=({baseP x with Kind:=3,Players:=1+pick x.Players 8,First:=pick x.First 40}:Q0a):=⟨_,rfl⟩
    have hFf:F={F0 with Rows:=lstP (rows8 (1+pick x.Players 8) x.Rows.l)}:=by
     rw[hFe,filledP,if_neg k2,if_pos k3,hF0]
     apply Q0a.ext'<;>first|rfl|exact k3
    have hpl:F0.Players=1+pick x.Players 8:=by rw[hF0]
    (have zx:=zA e1 (zA e2 (zA e3 (zA g1 (zA g2 (zA g3 (zA hbk (zA k2 k3)))))));refine zq45 ?_;try exact zT)
    repeat'(apply zK.s<;>intro hc<;>(try simp only[zhd]at hc)<;>(try have hw:=X0a hc)<;>(refine zq45 ?_;try exact zT))
    all_goals(try clear zx)
    (show W C false noExt call (ZC.loop Z01) _ _ _);refine Z0j C false noExt call Z01 _ _ _ (L45 x F0 (1+pick x.Players 8) p) 8 ⟨0,⟨.nil,[],fun _=>rfl⟩,rfl,by omega,by omega,zev,zev,zev,zev,rfl,rfl,.inl rfl,zg9,zg9,?_,zdl,(fun k o h=>by have hd:=hF.dom _ _ h;have hq:=hle k o h;simp (disch:=first|exact zdl|fail) only[zheap];exact hq)⟩ ?_
    ·rw[hF0];simp (disch:=first|exact zdl|fail) only[zheap]<;>rfl
    clear e1 e2 e3 g1 g2 g3 hn hle
    rintro n ρ q ⟨m,A,rfl,hm8,hml,e1,e2,e3,e5,hAl,hAn,happ,g1,g2,g3,hn,hle⟩
    have hend:m=min 8 x.Rows.l.length->∀ρ',ρ' 1=.ptr p.n []->ρ' 2=.ptr (p.n+1) []->ρ' 3=.ptr (p.n+15) []->K45 x F p ρ' q:=fun hm ρ' e1 e2 e3=>by
     have hins:rows8 (1+pick x.Players 8) x.Rows.l=A.l:=by
      rw[hAl,rows8]
      congr 1
      rcases Nat.le_total 8 x.Rows.l.length with h|h
      ·congr 1;omega
      ·rw[List.take_of_length_le h,List.take_of_length_le (by omega)]
     refine⟨e1,e2,e3,⟨.nil,[],fun _=>rfl⟩,A,g1,g2,?_,by rw[hFf,hF0];rfl,by simp,.inl rfl,?_,hn,hle⟩
     ·rw[g3,hFf,hF0];rfl
     ·rw[hFf,hins]
      exact happ.T.weak _ (CV.weakL_refl _ fun j hj=>by rw[hAl]at hj;exact(rowL_no _ _ j hj).elim)
    by_cases hlt:(m:Int)<x.Rows.l.length
    ·by_cases h8:(m:Int)<8
     ·have hrl:Lst.cv V0a.cv ⟨.part,rowOf (1+pick x.Players 8) (nth x.Rows.l m).l,nofun⟩=Lst.cv V0a.cv (rowL (1+pick x.Players 8) (nth x.Rows.l m)):=rfl
      obtain⟨tl,al,ok⟩:=A
      simp only at hAl hAn
      rcases happ with ht|⟨j1,ht,hj1,hj2,hj3,hj4⟩
      ·simp only at ht
       subst ht
       (have zx:=zA e1 (zA e2 (zA e3 (zA e5 (zA g1 (zA g2 (zA g3 (zA hlt (zA h8 hpl))))))));refine zq45 ?_;try exact zT)
       repeat'(apply zK.s<;>intro hc<;>(try simp only[zhd]at hc)<;>(try have hw:=X0a hc)<;>(refine zq45 ?_;try exact zT))
       all_goals(try clear zx)
       refine⟨8-(m+1),by omega,m+1,⟨.own (q.n+14),al++[rowL (1+pick x.Players 8) (nth x.Rows.l m)],nofun⟩,rfl,by omega,by omega,zev,zev,zev,zev,by rw[Z0l (by omega),List.map_append,<- hAl];rfl,by simp[hAn],.inr ⟨(q.n+14),rfl,zdl,zdl,by simp (disch:=first|exact zdl|fail) only[zheap];simp[hAn],by simp⟩,zg9,zg9,by simp (disch:=first|exact zdl|fail) only[zheap,hpl]<;>rfl,zdl,(fun k o h=>by have hd:=hF.dom _ _ h;have hq:=hle k o h;simp (disch:=first|exact zdl|fail) only[zheap];exact hq)⟩
      ·simp only at ht hj3 hj4
       subst ht
       (have zx:=zA e1 (zA e2 (zA e3 (zA e5 (zA g1 (zA g2 (zA g3 (zA hlt (zA h8 (zA hpl (zA hj3 hj4))))))))));refine zq45 ?_;try exact zT)
       repeat'(apply zK.s<;>intro hc<;>(try simp only[zhd]at hc)<;>(try have hw:=X0a hc)<;>(refine zq45 ?_;try exact zT))
       all_goals(try clear zx)
       refine⟨8-(m+1),by omega,m+1,⟨.own (q.n+14),al++[rowL (1+pick x.Players 8) (nth x.Rows.l m)],nofun⟩,rfl,by omega,by omega,zev,zev,zev,zev,by rw[Z0l (by omega),List.map_append,<- hAl];rfl,by simp[hAn],.inr ⟨(q.n+14),rfl,zdl,zdl,by simp (disch:=first|exact zdl|fail) only[zheap];simp[hAn],by simp⟩,zg9,zg9,by simp (disch:=first|exact zdl|fail) only[zheap,hpl]<;>rfl,zdl,(fun k o h=>by have hd:=hF.dom _ _ h;have hq:=hle k o h;simp (disch:=first|exact zdl|fail) only[zheap];exact hq)⟩
     ·(have zx:=zA e1 (zA e2 (zA e3 (zA e5 (zA g1 (zA g2 (zA g3 (zA hlt h8)))))));refine zq45 ?_;try exact zT)
      repeat'(apply zK.s<;>intro hc<;>(try simp only[zhd]at hc)<;>(try have hw:=X0a hc)<;>(refine zq45 ?_;try exact zT))
      all_goals(try clear zx)
      exact main _ _ (hend (by omega) _ (zev) (zev) (zev))
    ·(have zx:=zA e1 (zA e2 (zA e3 (zA e5 (zA g1 (zA g2 (zA g3 hlt))))));refine zq45 ?_;try exact zT)
     repeat'(apply zK.s<;>intro hc<;>(try simp only[zhd]at hc)<;>(try have hw:=X0a hc)<;>(refine zq45 ?_;try exact zT))
     all_goals(try clear zx)
     exact main _ _ (hend (by omega) _ (zev) (zev) (zev))
   ·by_cases k4:1+pick x.Kind 6=4
    ·have hFf:F={baseP x with Frame:=pick x.Frame 60,Mark:=pick x.Mark 4611686018427387904}:=by rw[hFe,filledP,if_neg k2,if_neg k3,if_pos k4]
     (have zx:=zA e1 (zA e2 (zA e3 (zA g1 (zA g2 (zA g3 (zA hbk (zA k2 (zA k3 k4))))))));refine zq45 ?_;try exact zT)
     repeat'(apply zK.s<;>intro hc<;>(try simp only[zhd]at hc)<;>(try have hw:=X0a hc)<;>(refine zq45 ?_;try exact zT))
     all_goals(try clear zx)
     refine main _ _ ⟨zev,zev,zev,⟨.nil,[],fun _=>rfl⟩,⟨.nil,[],fun _=>rfl⟩,zg9,zg9,?_,by rw[hFf];rfl,by simp,.inl rfl,by rw[hFf];exact Y0d (X0c (nilHas _)),zdl,(fun k o h=>by have hd:=hF.dom _ _ h;have hq:=hle k o h;simp (disch:=first|exact zdl|fail) only[zheap];exact hq)⟩
     rw[hFf]
     simp (disch:=first|exact zdl|fail) only[zheap,hbk,k4]<;>rfl
    ·have hFf:F=baseP x:=by rw[hFe,filledP,if_neg k2,if_neg k3,if_neg k4]
     (have zx:=zA e1 (zA e2 (zA e3 (zA g1 (zA g2 (zA g3 (zA hbk (zA k2 (zA k3 k4))))))));refine zq45 ?_;try exact zT)
     repeat'(apply zK.s<;>intro hc<;>(try simp only[zhd]at hc)<;>(try have hw:=X0a hc)<;>(refine zq45 ?_;try exact zT))
     all_goals(try clear zx)
     exact main _ _ ⟨zev,zev,zev,⟨.nil,[],fun _=>rfl⟩,⟨.nil,[],fun _=>rfl⟩,g1,g2,by rw[g3,hFf];rfl,by rw[hFf];rfl,by simp,.inl rfl,by rw[hFf];exact Y0d (X0c (nilHas _)),hn,hle⟩
 clear main
 show W C false noExt call (ZC.seq zn45_1 (ZC.seq zn45_3 (ZC.seq (ZC.seq zn45_6 (ZC.cond (Tm 20) (ZC.seq zn45_9 zn45_10) ZC.skip)) (ZC.seq (ZC.seq Y1j (ZC.block 0 (ZC.seq Q1j (ZC.cond (Tm 30) (ZC.seq Y1s (ZC.seq V1k (ZC.seq Y1m (ZC.block 1 (ZC.loop X04))))) (ZC.seq X1l (ZC.cond (Tm 68) (ZC.seq V1n (ZC.seq V1q (ZC.seq Z1h (ZC.block 3 (ZC.loop Z01))))) (ZC.seq X1k (ZC.cond (Tm 103) (ZC.seq Y1r X1j) ZC.skip)))))))) (ZC.seq (ZC.seq V03 (ZC.block 5 (ZC.seq X00 (ZC.cond (Tm 116) Z03 (ZC.seq Y00 (ZC.cond (Tm 124) K04 (ZC.seq K02 (ZC.cond (Tm 129) Y02 (ZC.seq K03 (ZC.cond (Tm 134) Y04 (ZC.seq Q04 (ZC.cond (Tm 139) V04 (ZC.seq K01 (ZC.cond (Tm 144) V02 (ZC.seq X03 (ZC.cond (Tm 149) Q02 (ZC.seq Y01 (ZC.cond (Tm 156) X01 (ZC.seq Y03 (ZC.cond (Tm 168) Q03 (ZC.seq K0w (ZC.cond (Tm 173) X0w ZC.skip)))))))))))))))))))))) (ZC.seq Y0v ZC.ret)))))) _ _ _
 obtain⟨R,hRR⟩:∃R,R=ZC.seq (ZC.seq Y1j (ZC.block 0 (ZC.seq Q1j (ZC.cond (Tm 30) (ZC.seq Y1s (ZC.seq V1k (ZC.seq Y1m (ZC.block 1 (ZC.loop X04))))) (ZC.seq X1l (ZC.cond (Tm 68) (ZC.seq V1n (ZC.seq V1q (ZC.seq Z1h (ZC.block 3 (ZC.loop Z01))))) (ZC.seq X1k (ZC.cond (Tm 103) (ZC.seq Y1r X1j) ZC.skip)))))))) (ZC.seq (ZC.seq V03 (ZC.block 5 (ZC.seq X00 (ZC.cond (Tm 116) Z03 (ZC.seq Y00 (ZC.cond (Tm 124) K04 (ZC.seq K02 (ZC.cond (Tm 129) Y02 (ZC.seq K03 (ZC.cond (Tm 134) Y04 (ZC.seq Q04 (ZC.cond (Tm 139) V04 (ZC.seq K01 (ZC.cond (Tm 144) V02 (ZC.seq X03 (ZC.cond (Tm 149) Q02 (ZC.seq Y01 (ZC.cond (Tm 156) X01 (ZC.seq Y03 (ZC.cond (Tm 168) Q03 (ZC.seq K0w (ZC.cond (Tm 173) X0w ZC.skip)))))))))))))))))))))) (ZC.seq Y0v ZC.ret)):=⟨_,rfl⟩
 rw[<- hRR]at main2 ⊢
 clear hRR
 have hk6:=X0k (n:=x.Kind) (m:=6) (by omega)
 cases hA:x.Any with
 |true=>
  (have zx:=hA;refine zq45 ?_;try exact zT)
  repeat'(apply zK.s<;>intro hc<;>(try simp only[zhd]at hc)<;>(try have hw:=X0a hc)<;>(refine zq45 ?_;try exact zT))
  all_goals(try clear zx)
  refine main2 _ _ ⟨zev,zev,zev,zg9,zg9,?_,zdl,(fun k o h=>by have hd:=hF.dom _ _ h;simp (disch:=first|exact zdl|fail) only[zheap];exact h)⟩
  simp (disch:=first|exact zdl|fail) only[zheap,baseP,hA,if_true]<;>rfl
 |false=>
  (have zx:=hA;refine zq45 ?_;try exact zT)
  repeat'(apply zK.s<;>intro hc<;>(try simp only[zhd]at hc)<;>(try have hw:=X0a hc)<;>(refine zq45 ?_;try exact zT))
  all_goals(try clear zx)
  refine main2 _ _ ⟨zev,zev,zev,zg9,zg9,?_,zdl,(fun k o h=>by have hd:=hF.dom _ _ h;simp (disch:=first|exact zdl|fail) only[zheap];exact h)⟩
  simp (disch:=first|exact zdl|fail) only[zheap,baseP,hA,Bool.false_eq_true,if_false]<;>rfl
end Go.Proofs.Ytpchcfkebljopaa
end
section
namespace Go.Proofs.Ytpchcfkebljopaa
open Go.Cl Go Go.RowKit
theorem X1x(x:K0a)(b:Q0a): (bendP x b).Rows=b.Rows/\(bendP x b).Acks=b.Acks/\(bendP x b).Inputs.l.length<=b.Inputs.l.length+1:=by
 unfold bendP
 generalize pick x.Bend 40=k
 by_cases h:k=30
 ·rw[if_pos h];exact⟨rfl,rfl,Nat.le_succ _⟩
 rw[if_neg h];clear h
 by_cases h:k=31
 ·rw[if_pos h];exact⟨rfl,rfl,Nat.le_succ _⟩
 rw[if_neg h];clear h
 by_cases h:k=32
 ·rw[if_pos h];exact⟨rfl,rfl,Nat.le_succ _⟩
 rw[if_neg h];clear h
 by_cases h:k=33
 ·rw[if_pos h];exact⟨rfl,rfl,Nat.le_succ _⟩
 rw[if_neg h];clear h
 by_cases h:k=34
 ·rw[if_pos h];exact⟨rfl,rfl,Nat.le_succ _⟩
 rw[if_neg h];clear h
 by_cases h:k=35
 ·rw[if_pos h];exact⟨rfl,rfl,Nat.le_succ _⟩
 rw[if_neg h];clear h
 by_cases h:k=36
 ·rw[if_pos h];exact⟨rfl,rfl,Nat.le_succ _⟩
 rw[if_neg h];clear h
 by_cases h:k=37
 ·rw[if_pos h];exact⟨rfl,rfl,by simp only[K0p,List.length_append,List.length_singleton];omega⟩
 rw[if_neg h];clear h
 by_cases h:k=38
 ·rw[if_pos h];exact⟨rfl,rfl,Nat.le_succ _⟩
 rw[if_neg h];clear h
 by_cases h:k=39
 ·rw[if_pos h];exact⟨rfl,rfl,Nat.le_succ _⟩
 rw[if_neg h];clear h
 exact⟨rfl,rfl,Nat.le_succ _⟩
theorem Z1t(x:K0a): (packetOf x).Inputs.l.length<=17/\(packetOf x).Rows.l.length<=8/\∀r∈(packetOf x).Rows.l,r.l.length<=8:=by
 have hp8:=X0k (n:=x.Players) (m:=8) (by omega)
 have h1:(filledP x).Inputs.l.length<=16/\(filledP x).Rows.l.length<=8/\∀r∈(filledP x).Rows.l,r.l.length<=8:=by
  unfold filledP
  split
  ·refine⟨by simp only[K0p,insOf,List.length_map,List.length_take];omega,Nat.zero_le _,nofun⟩
  ·split
   ·refine⟨Nat.zero_le _,by simp only[K0p,rows8,List.length_map,List.length_take];omega,fun r hr=>?_⟩
    simp only[K0p,rows8]at hr
    obtain⟨y,_,rfl⟩:=List.mem_map.1 hr
    rw[rowL,rowOf_len];omega
   ·split<;>exact⟨Nat.zero_le _,Nat.zero_le _,nofun⟩
 obtain⟨i1,i2,i3⟩:=h1
 rw[packetOf]
 obtain⟨e1,_,e3⟩:=X1x x (filledP x)
 exact⟨by omega,by rw[e1];exact i2,by rw[e1];exact i3⟩
theorem X05{x:K0a}(h:0<=x.Acks/\x.Acks<18446744073709551616): 0<=(packetOf x).Acks/\(packetOf x).Acks<18446744073709551616:=by
 have hb:0<=(baseP x).Acks/\(baseP x).Acks<18446744073709551616:=by
  unfold baseP;simp only;split
  ·exact h
  ·omega
 have hf:(filledP x).Acks=(baseP x).Acks:=by unfold filledP;split;rfl;split;rfl;split<;>rfl
 have hp:(packetOf x).Acks=(filledP x).Acks:=(X1x x (filledP x)).2.1
 rw[hp,hf];exact hb
end Go.Proofs.Ytpchcfkebljopaa
end
section
namespace Go.Proofs.Ytpchcfkebljopaa
open Go.Cl Go Go.RowKit
set_option maxRecDepth 100000
set_option linter.constructorNameAsVariable false
theorem K1j(x:K0a): packOk (packetOf x):=by
 obtain⟨h1,h2,h3⟩:=Z1t x
 exact⟨by omega,by omega,fun r hr=>by have:=h3 r hr;omega⟩
end Go.Proofs.Ytpchcfkebljopaa
end
section
namespace Go.Proofs.Ytpchcfkebljopaa
open Go.Cl Go Go.RowKit
theorem ba_loop(bs:ByteArray): ∀(n i:Nat) (r:List UInt8),bs.size-i=n->ByteArray.toList.loop bs i r=r.reverse++bs.data.toList.drop i
 |0,i,r,h=>by
  unfold ByteArray.toList.loop
  have hs:bs.data.toList.length=bs.size:=Array.length_toList
  rw[if_neg (by omega),List.drop_eq_nil_of_le (by omega),List.append_nil]
 |n+1,i,r,h=>by
  unfold ByteArray.toList.loop
  have hs:bs.data.toList.length=bs.size:=Array.length_toList
  have hi:i<bs.data.toList.length:=by omega
  rw[if_pos (by omega),ba_loop bs n (i+1) _ (by omega),List.reverse_cons,List.append_assoc,List.drop_eq_getElem_cons hi]
  have hi2:i<bs.data.size:=by simpa using hi
  have e:bs.get! i=bs.data.toList[i]:=by
   show bs.data[i]! = _
   rw[getElem!_pos bs.data i hi2,Array.getElem_toList]
  rw[e];rfl
theorem ba_toList(bs:ByteArray): bs.toList=bs.data.toList:=by
 unfold ByteArray.toList
 rw[ba_loop bs _ 0 [] rfl];simp
def inB(l:List Int): Prop:=∀x∈l,0<=x/\x<=255
theorem u8_inj{x y:Int}(hx:0<=x/\x<=255)(hy:0<=y/\y<=255)(h:UInt8.ofNat x.toNat=UInt8.ofNat y.toNat): x=y:=by
 have h2:=congrArg UInt8.toNat h
 simp only[UInt8.toNat_ofNat']at h2
 omega
theorem X1p: ∀{a b:List Int},inB a->inB b->(a.map fun n=>UInt8.ofNat n.toNat)=(b.map fun n=>UInt8.ofNat n.toNat)->a=b
 |[],[],_,_,_=>rfl
 |[],_::_,_,_,h=>by simp at h
 |_::_,[],_,_,h=>by simp at h
 |x::a,y::b,ha,hb,h=>by
  simp only[List.map_cons,List.cons.injEq]at h
  rw[u8_inj (ha x (by simp)) (hb y (by simp)) h.1,X1p (fun z hz=>ha z (by simp[hz])) (fun z hz=>hb z (by simp[hz])) h.2]
theorem str_eq{a b:List Int}(ha:inB a)(hb:inB b): ((bytesOf a).toList==(bytesOf b).toList)=decide (a=b):=by
 rw[ba_toList,ba_toList]
 show((a.map fun n=>UInt8.ofNat n.toNat).toArray.toList==(b.map fun n=>UInt8.ofNat n.toNat).toArray.toList)=_
 by_cases h:a=b
 ·subst h;simp
 ·rw[decide_eq_false h]
  rw[beq_eq_false_iff_ne]
  intro e
  exact h (X1p ha hb (by simpa using e))
theorem Y1d: ∀l:List Int,byteNums (l.map Y8)=some l
 |[]=>rfl
 |x::l=>by simp only[List.map_cons,byteNums,Y1d l,Option.map_some]
end Go.Proofs.Ytpchcfkebljopaa
end
section
namespace Go.Proofs.Ytpchcfkebljopaa
open Go.Cl Go Go.RowKit
set_option maxRecDepth 100000
set_option linter.constructorNameAsVariable false
def R46m: Rel:=fun args p r=>∃(key:Int) (a:Q0a),args=[I key,a.cv]/\(-9223372036854775808<=key/\key<=9223372036854775807)/\(packOk a)/\r=if packRight a=true then .ret (.tup [.slc p.n [] 0 (layP key a).length,I 0]) (p.new (Wrow (layP key a)))else .ret (.tup [Lst.cv Y8 nilB,I 1]) p
theorem t46m{T:XCall}(h:Has T 46 R46m)(key:Int)(a:Q0a){p:Hp}(hk:-9223372036854775808<=key/\key<=9223372036854775807)(h1:packOk a): T 46 [I key,a.cv] p=if packRight a=true then .ret (.tup [.slc p.n [] 0 (layP key a).length,I 0]) (p.new (Wrow (layP key a)))else .ret (.tup [Lst.cv Y8 nilB,I 1]) p:=h _ _ _ ⟨key,a,rfl,hk,h1,rfl⟩
theorem zdis46m{P:Prop}(h:P:=by first|exact zdis|(simp only[Hp.bump_n,Hp.znew_n,Hp.zset_n,List.length_nil,List.length_cons,List.length_append,List.length_map,Y0e];(first|done|omega))|(simp (disch:=first|exact zd1|(simp only[Hp.bump_n,Hp.znew_n,Hp.zset_n,List.length_nil,List.length_cons,List.length_append,List.length_map,Y0e];(first|done|omega))) only[zheap,zx];(first|done|rfl))|fail): P:=h
theorem zq46m{A B:Prop}(k:B)(h:A=B:=by have zy:=zA @zw46<|zA @rs46<|zA @tt94<|zA ti94.eq_1<|zA @t_50<|zA @t_107m<|zA @t_108<|zA @K0e<|zA @Y0e<|zA @hk<|@h1;have zd:=@zdis46m;exact zQd): A:=h▸k
theorem c46m: Con C 46 R46m:=by
 refine V0e C ?_ ?_ ?_
 ·rintro args p r r' ⟨key,a,h,hk,h1,e⟩ ⟨key',a',h',hk',h1',e'⟩
  subst e;subst e';simp_all[Q0a.inj_iff]
 ·rintro args p r ⟨key,a,h,hk,h1,rfl⟩;exact zr1
 rintro args p r ⟨key,a,rfl,hk,h1,rfl⟩
 refine zW C true [(50,R50),(107,R107m),(108,R108)] ⟨c50,c107m,c108,zT⟩ rfl xf46 zc46_ok fun call zh hF=>?_
 have t_50:=@t50 _ zh.1
 have t_107m:=@t107m _ zh.2.1
 have t_108:=@t108 _ zh.2.2.1
 clear zh
 cases hR:packRight a with
 |false=>
  rw[if_neg Bool.false_ne_true]
  (have zx:=hR;refine zq46m ?_;try exact zT)
  repeat'(apply zK.s<;>intro hc<;>(try simp only[zhd]at hc)<;>(try have hw:=X0a hc)<;>(refine zq46m ?_;try exact zT))
  all_goals(try clear zx)
  exact V0c hF zle (Y0d (X0c (by intro jj;simp[CV.has,CV.hasL,Lst.cv,nilB])))
 |true=>
  have hsm:=Z1g hR
  have hne:=packB_ne (Z00 a)
  have hle:=V0r hsm
  have hpl:=X0f (packBits a)
  have hlb:∀x∈packB (packBits a),0<=x/\x<=255:=V1c _
  rw[if_pos rfl]
  have hnt:(partB (packB (packBits a))).tl=.part:=rfl
  have hcl:closeB key (packB (packBits a))=layP key a:=rfl
  (have zx:=zA hR (zA hsm (zA hne (zA hlb (zA hnt hcl))));refine zq46m ?_;try exact zT)
  repeat'(apply zK.s<;>intro hc<;>(try simp only[zhd]at hc)<;>(try have hw:=X0a hc)<;>(refine zq46m ?_;try exact zT))
  all_goals(try clear zx)
  exact shr_row hF (J:=p.n+1) (q0:=p) rfl (fun k o h=>by have hd:=hF.dom k o h;exact⟨h,by omega,by simp (disch:=first|exact zdl|fail) only[zheap];exact h⟩) (zg9) (row_weakT _ _ _ _)
theorem canon_ok{a:Q0a}(h:packOk a): packOk (canonP a):=by
 have hr:rowsL (canonP a).Rows=rowsL a.Rows:=K1i _
 have hi:(canonP a).Inputs.l=a.Inputs.l:=K0p _
 have hl:(canonP a).Rows.l.length=a.Rows.l.length:=by
  have:=congrArg List.length hr
  simpa only[rowsL,List.length_map]using this
 refine⟨by rw[hi];exact h.1,by rw[hl];exact h.2.1,fun x hx=>?_⟩
 have h1:x.l∈rowsL (canonP a).Rows:=List.mem_map_of_mem hx
 rw[hr]at h1
 obtain⟨y,hy,e⟩:=List.mem_map.1 h1
 rw[<- e];exact h.2.2 y hy
def R11: Rel:=fun args p r=>∃(x y:K0a) (tok oth at_ by_:Int),args=[x.cv,y.cv,I tok,I oth,I at_,Y8 by_]/\(0<=x.Acks/\x.Acks<18446744073709551616)/\(0<=y.Acks/\y.Acks<18446744073709551616)/\(0<=by_/\by_<=255)/\r=.ret (Bo true) p
theorem zdis11{P:Prop}(h:P:=by first|exact zdis|(simp only[Hp.bump_n,Hp.znew_n,Hp.zset_n,List.length_nil,List.length_cons,List.length_append,List.length_map,Y0e];(first|done|omega))|(simp (disch:=first|exact zd1|(simp only[Hp.bump_n,Hp.znew_n,Hp.zset_n,List.length_nil,List.length_cons,List.length_append,List.length_map,Y0e];(first|done|omega))) only[zheap,zx];(first|done|rfl))|fail): P:=h
theorem zq11{A B:Prop}(k:B)(h:A=B:=by have zy:=zA @zw11<|zA @rs11<|zA @tt3<|zA @tt4<|zA @tt5<|zA @tt9<|zA @tt68<|zA @tt69<|zA @tt90<|zA @tt94<|zA ti3.eq_1<|zA ti4.eq_1<|zA ti5.eq_1<|zA ti9.eq_1<|zA ti68.eq_1<|zA ti69.eq_1<|zA ti90.eq_1<|zA ti94.eq_1<|zA @t_37<|zA @t_45<|zA @t_46m<|zA @t_47<|zA @t_48q<|zA @t_49<|zA @X0t<|zA @K0e<|zA @zsl68<|zA @ix68<|zA @a68<|zA @sa68<|zA @xor8_e<|zA @Wrow_e<|zA @sub68<|zA @tt5<|zA ti5.eq_1<|zA @Y1d<|zA @str_eq<|zA @Y0e<|zA @hx<|zA @hy<|@hb;have zd:=@zdis11;exact zQd): A:=h▸k
theorem c11: Con C 11 R11:=by
 refine V0e C ?_ ?_ ?_
 ·rintro args p r r' ⟨x,y,tok,oth,at_,by_,h,hx,hy,hb,e⟩ ⟨x',y',tok',oth',at_',by_',h',hx',hy',hb',e'⟩
  subst e;subst e';simp_all[K0a.inj_iff,Q0a.inj_iff,Q0g]
 ·rintro args p r ⟨x,y,tok,oth,at_,by_,h,hx,hy,hb,rfl⟩;exact zr1
 rintro args p r ⟨x,y,tok,oth,at_,by_,rfl,hx,hy,hb,rfl⟩
 refine zW C true [(37,R37),(45,R45),(46,R46m),(47,R47),(48,R48q),(49,R49)] ⟨c37,c45,c46m,c47,c48q,c49,zT⟩ rfl xf11 zc11_ok fun call zh hF=>?_
 have t_37:=@t37 _ zh.1
 have t_45:=@t45 _ zh.2.1
 have t_46m:=@t46m _ zh.2.2.1
 have t_47:=@t47 _ zh.2.2.2.1
 have t_48q:=@t48q _ zh.2.2.2.2.1
 have t_49:=@t49 _ zh.2.2.2.2.2.1
 clear zh
 have ok1:=K1j x
 have ok2:=K1j y
 have ac1:=X05 hx
 have ac2:=X05 hy
 generalize hA:packetOf x=a at ok1 ac1
 generalize hB:packetOf y=b at ok2 ac2
 have hpk:=X0k (n:=tok) (m:=2147483647) (by omega)
 generalize hK:pick tok 2147483647=key at hpk
 have hpo:=X0k (n:=oth) (m:=2147483647) (by omega)
 generalize hO:pick oth 2147483647=o at hpo
 cases hR:packRight a with
 |false=>
  cases hS:packRight b with
  |false=>
   (have zx:=zA hA (zA hB (zA hK (zA hO (zA ok1 (zA ok2 (zA hR hS))))));refine zq11 ?_;try exact zT)
   repeat'(apply zK.s<;>intro hc<;>(try simp only[zhd]at hc)<;>(try have hw:=X0a hc)<;>(refine zq11 ?_;try exact zT))
   all_goals(try clear zx)
   exact V0c hF zle (Q0d rfl (X0c (by intro jj;simp[CV.has])))
  |true=>
   (have zx:=zA hA (zA hB (zA hK (zA hO (zA ok1 (zA ok2 (zA hR hS))))));refine zq11 ?_;try exact zT)
   repeat'(apply zK.s<;>intro hc<;>(try simp only[zhd]at hc)<;>(try have hw:=X0a hc)<;>(refine zq11 ?_;try exact zT))
   all_goals(try clear zx)
   exact V0c hF zle (Q0d rfl (X0c (by intro jj;simp[CV.has])))
 |true=>
  cases hS:packRight b with
  |false=>
   (have zx:=zA hA (zA hB (zA hK (zA hO (zA ok1 (zA ok2 (zA hR hS))))));refine zq11 ?_;try exact zT)
   repeat'(apply zK.s<;>intro hc<;>(try simp only[zhd]at hc)<;>(try have hw:=X0a hc)<;>(refine zq11 ?_;try exact zT))
   all_goals(try clear zx)
   exact V0c hF zle (Q0d rfl (X0c (by intro jj;simp[CV.has])))
  |true=>
   have hb1:=K1k key a
   have hb2:=K1k key b
   have hl1:=Z08 (key:=key) hR
   have hl2:=Z08 (key:=key) hS
   have ok3:packOk (canonP a):=canon_ok ok1
   have hsa:sameP (canonP a) a=true:=by rw[X0v,V1w]
   have hse:=str_eq hb1 hb2
   rw[lay_same (key:=key) hR hS ac1 ac2]at hse
   have r1:(openP key (layP key a)).1=canonP a:=by rw[V0x hR ac1]
   have r2:(openP key (layP key a)).2=0:=by rw[V0x hR ac1]
   have hpt:=X0k (n:=at_) (m:=((layP key a).length:Int)) (by omega)
   have r3:o≠key->(openP o (layP key a)).1=Q0a.zero/\(openP o (layP key a)).2=3:=fun h=>by rw[open_other hR hpk hpo h];exact⟨rfl,rfl⟩
   obtain⟨k,eK⟩:∃k,pick at_ ((layP key a).length:Int)=k:=⟨_,rfl⟩
   rw[eK]at hpt
   have hkn:k.toNat<(layP key a).length:=by omega
   have r5:by_≠0->(openP key (turned (layP key a) k.toNat by_)).1=Q0a.zero/\(openP key (turned (layP key a) k.toNat by_)).2=3:=fun h=>by rw[open_turned hR hb1 hkn hb h];exact⟨rfl,rfl⟩
   have r6:by_=0->turned (layP key a) k.toNat by_=layP key a:=fun h=>by rw[h,turned_zero hb1 hkn]
   have hT:(turned (layP key a) k.toNat by_).length=(layP key a).length:=by simp[turned]
   have hTb:=turned_byte hb1 k.toNat by_
   obtain⟨A,eA⟩:∃A,layP key a=A:=⟨_,rfl⟩
   obtain⟨B,eB⟩:∃B,layP key b=B:=⟨_,rfl⟩
   obtain⟨T,eT⟩:∃T,turned A k.toNat by_=T:=⟨_,rfl⟩
   rw[eA]at hb1 hl1 hse r1 r2 hpt r3 eK hkn r5 r6 hT hTb
   rw[eB]at hb2 hl2 hse
   rw[eT]at r5 r6 hT hTb
   unfold turned at eT
   have sA:∀(q:Hp) (j:Nat),q.t.get j=some (.var (.n (List.replicate A.length .s)) (.agg (A.map Y8)))->srcOf C q.h 68 (.slc j [] 0 A.length)=some (A.map Y8):=fun q j hg=>src68 q j _ hg
   have sB:∀(q:Hp) (j:Nat),q.t.get j=some (.var (.n (List.replicate B.length .s)) (.agg (B.map Y8)))->srcOf C q.h 68 (.slc j [] 0 B.length)=some (B.map Y8):=fun q j hg=>src68 q j _ hg
   have t8c:∀(j:Nat) (q:Hp),q.t.get j=some (.var (.n (List.replicate A.length .s)) (.agg (T.map Y8)))->call 48 [I key,.slc j [] 0 A.length] q=.ret (.tup [(openP key T).1.cv,I (openP key T).2]) q:=fun j q hg=>by
    have:=t_48q key j T (p:=q) (by omega) (by omega) hTb (by rw[Wrow,hT];exact hg)
    rw[hT]at this
    exact this
   have leaf:∀q,HpLe p q->ShrR p (.ret (Bo true) q) (.ret (Bo true) p):=fun q h=>V0c hF h (Q0d rfl (X0c (by intro jj;simp[CV.has])))
   by_cases h0:by_=0
   ·have r7:=r6 h0
    have r8:(openP key T).1=canonP a:=by rw[r7];exact r1
    have r9:(openP key T).2=0:=by rw[r7];exact r2
    clear r5 r6 r7
    subst h0
    by_cases hok:o=key
    ·subst hok
     clear r3
     (have zx:=zA hA (zA hB (zA hK (zA hO (zA ok1 (zA ok2 (zA hR (zA hS (zA eA (zA eB (zA eK (zA eT (zA r1 (zA r2 (zA hsa (zA ok3 (zA sA (zA sB (zA hse (zA hl1 (zA hl2 (zA hkn (zA t8c (zA r8 r9)))))))))))))))))))))));refine zq11 ?_;try exact zT)
     repeat'(apply zK.s<;>intro hc<;>(try simp only[zhd]at hc)<;>(try have hw:=X0a hc)<;>(refine zq11 ?_;try exact zT))
     all_goals(try clear zx)
     all_goals first|(exfalso;omega)|exact leaf _ zle
    ·obtain⟨s1,s2⟩:=r3 hok
     (have zx:=zA hA (zA hB (zA hK (zA hO (zA ok1 (zA ok2 (zA hR (zA hS (zA eA (zA eB (zA eK (zA eT (zA r1 (zA r2 (zA hsa (zA ok3 (zA sA (zA sB (zA hse (zA hl1 (zA hl2 (zA hkn (zA t8c (zA r8 (zA r9 (zA s1 (zA s2 hok))))))))))))))))))))))))));refine zq11 ?_;try exact zT)
     repeat'(apply zK.s<;>intro hc<;>(try simp only[zhd]at hc)<;>(try have hw:=X0a hc)<;>(refine zq11 ?_;try exact zT))
     all_goals(try clear zx)
     all_goals first|(exfalso;omega)|exact leaf _ zle
   ·obtain⟨r8,r9⟩:=r5 h0
    clear r5 r6
    by_cases hok:o=key
    ·subst hok
     clear r3
     (have zx:=zA hA (zA hB (zA hK (zA hO (zA ok1 (zA ok2 (zA hR (zA hS (zA eA (zA eB (zA eK (zA eT (zA r1 (zA r2 (zA hsa (zA ok3 (zA sA (zA sB (zA hse (zA hl1 (zA hl2 (zA hkn (zA t8c (zA r8 (zA r9 h0))))))))))))))))))))))));refine zq11 ?_;try exact zT)
     repeat'(apply zK.s<;>intro hc<;>(try simp only[zhd]at hc)<;>(try have hw:=X0a hc)<;>(refine zq11 ?_;try exact zT))
     all_goals(try clear zx)
     all_goals first|(exfalso;omega)|exact leaf _ zle
    ·obtain⟨s1,s2⟩:=r3 hok
     (have zx:=zA hA (zA hB (zA hK (zA hO (zA ok1 (zA ok2 (zA hR (zA hS (zA eA (zA eB (zA eK (zA eT (zA r1 (zA r2 (zA hsa (zA ok3 (zA sA (zA sB (zA hse (zA hl1 (zA hl2 (zA hkn (zA t8c (zA r8 (zA r9 (zA h0 (zA s1 (zA s2 hok)))))))))))))))))))))))))));refine zq11 ?_;try exact zT)
     repeat'(apply zK.s<;>intro hc<;>(try simp only[zhd]at hc)<;>(try have hw:=X0a hc)<;>(refine zq11 ?_;try exact zT))
     all_goals(try clear zx)
     all_goals first|(exfalso;omega)|exact leaf _ zle
end Go.Proofs.Ytpchcfkebljopaa
end
section
namespace Go.Proofs.Ytpchcfkebljopaa
open Go.Cl Go Go.ChangeShapes Go.WideShapes Go.ChangeAt Go.RowKit
set_option maxRecDepth 100000
set_option linter.constructorNameAsVariable false
theorem a58{n:Nat}{v:CV}(h:Ty2 Try.prog (n+3) 58 v): ∃s:Lst (Lst Int),v=s.cv (Lst.cv I)/\(s.tl=.view\/s.tl=.nil):=of_slice Try.underlying58 (fun _ h=>let⟨i,e,_⟩:=a24 h;⟨i,e⟩) h
theorem of_bool{P:Program}{n:Nat}{t:TypeId}{v:CV}(hu:P.underlying t=some .bool)(h:Ty2 P (n+1) t v): ∃b,v=Bo b:=by
 simp only[Ty2,hu]at h
 exact h
end Go.Proofs.Ytpchcfkebljopaa
end
section
namespace Go.Proofs.Ytpchcfkebljopaa
open Go.Cl Go Go.RowKit
set_option maxRecDepth 100000
set_option linter.constructorNameAsVariable false
theorem a90{n:Nat}{v:CV}(h:Ty2 Try.prog (n+4) 90 v): ∃x:K0a,v=x.cv/\(0<=x.Acks/\x.Acks<18446744073709551616):=by
 obtain⟨l,rfl,hs⟩:=of_struct Try.underlying90 h
 replace h:=hs
 obtain⟨v0,l0,rfl,h0,h⟩:=Q0i h
 obtain⟨v1,l1,rfl,h1,h⟩:=Q0i h
 obtain⟨v2,l2,rfl,h2,h⟩:=Q0i h
 obtain⟨v3,l3,rfl,h3,h⟩:=Q0i h
 obtain⟨v4,l4,rfl,h4,h⟩:=Q0i h
 obtain⟨v5,l5,rfl,h5,h⟩:=Q0i h
 obtain⟨v6,l6,rfl,h6,h⟩:=Q0i h
 obtain⟨v7,l7,rfl,h7,h⟩:=Q0i h
 obtain⟨v8,l8,rfl,h8,h⟩:=Q0i h
 obtain⟨v9,l9,rfl,h9,h⟩:=Q0i h
 obtain⟨v10,l10,rfl,h10,h⟩:=Q0i h
 obtain⟨v11,l11,rfl,h11,h⟩:=Q0i h
 obtain⟨v12,l12,rfl,h12,h⟩:=Q0i h
 obtain⟨v13,l13,rfl,h13,h⟩:=Q0i h
 obtain rfl:=all2_nil h
 obtain⟨x0,rfl,_⟩:=a3 (n:=n+2) h0
 obtain⟨x1,rfl,_⟩:=a3 (n:=n+2) h1
 obtain⟨x2,rfl,_⟩:=a3 (n:=n+2) h2
 obtain⟨x3,rfl,_⟩:=a3 (n:=n+2) h3
 obtain⟨x4,rfl,_⟩:=a3 (n:=n+2) h4
 obtain⟨x5,rfl,_⟩:=a3 (n:=n+2) h5
 obtain⟨x6,rfl,_⟩:=a3 (n:=n+2) h6
 obtain⟨x7,rfl,_⟩:=a3 (n:=n+2) h7
 obtain⟨x8,rfl,_⟩:=a3 (n:=n+2) h8
 obtain⟨x9,rfl,_⟩:=a3 (n:=n+2) h9
 obtain⟨x10,rfl⟩:=of_bool (n:=n+2) Try.underlying4 h10
 obtain⟨x11,rfl,w1,w2⟩:=a25 (n:=n+2) h11
 obtain⟨x12,rfl,_⟩:=a24 (n:=n+1) h12
 obtain⟨x13,rfl,_⟩:=a58 (n:=n) h13
 exact⟨⟨x0,x1,x2,x3,x4,x5,x6,x7,x8,x9,x10,x11,x12,x13⟩,rfl,w1,by show x11<_;omega⟩
theorem of_u8{P:Program}{n:Nat}{t:TypeId}{v:CV}(hu:P.underlying t=some (.int .u8))(h:Ty2 P (n+1) t v): ∃i,v=Y8 i/\(0<=i/\i<=255):=by
 simp only[Ty2,hu]at h
 obtain⟨i,rfl,hw⟩:=h
 simp only[Lit.wf,Bool.and_eq_true,decide_eq_true_eq]at hw
 exact⟨i,rfl,hw⟩
theorem a5{n:Nat}{v:CV}(h:Ty2 Try.prog (n+1) 5 v): ∃i,v=Y8 i/\(0<=i/\i<=255):=of_u8 Try.underlying5 h
end Go.Proofs.Ytpchcfkebljopaa
end
