import Derived.Test.YtpchcfkebljopaaXh
set_option linter.unusedSimpArgs false
set_option linter.unusedVariables false
set_option linter.constructorNameAsVariable false
set_option linter.defProp false
set_option maxHeartbeats 8000000
section
namespace Go.Proofs.Ytpchcfkebljopaa
open Go.Cl Go Go.RowKit
set_option maxRecDepth 100000
set_option linter.constructorNameAsVariable false
theorem K1d{b:List Int}{a:Nat}{x:Q0a}{a':Nat}(h:readPa b a=.ok (x,a'))(j:Nat): ¬x.cv.has j:=by
 obtain⟨I,R,hI,hR,_⟩:=V1i h
 rw[packHas,hI,hR]
 rintro(h|h)
 ·exact lstP_no (fun z _ j=>Y0a.nohas z j) j h
 ·exact rowsP_no R j h
theorem V1t{b:List Int}{a:Nat}{x:Q0a}{a':Nat}(h:readPa b a=.ok (x,a')): packOk x:=by
 obtain⟨I,R,hI,hR,h1,h2,h3,_⟩:=V1i h
 refine⟨by rw[hI,Q0u];omega,by rw[hR,rowsP,Q0u,List.length_map];omega,fun y hy=>?_⟩
 rw[hR,rowsP,Q0u]at hy
 obtain⟨z,hz,rfl⟩:=List.mem_map.1 hy
 rw[Q0u]
 have:=h3 z hz
 omega
theorem pk_sep{p:Hp}{a i:Nat}{s:Lst Int}{t:Q0a}(h1:p.t.get a=some (.var sh68 (s.cv Y8)))(h3:p.t.get i=some (.var sh94 t.cv)): a≠i:=by
 intro e;subst e
 rw[h1]at h3
 simp only[Option.some.injEq,XObj.var.injEq]at h3
 exact absurd h3.1 (by simp[sh94])
noncomputable def resPC(i:Nat)(p:Hp)(r:Except Int (Q0a×Nat)): XRes:=
 match r with
 |.ok (t,_)=>.ret (.tup []) (p.set i (some (.var sh94 t.cv)))
 |.error e=>.pan (fault 100 e) p
def R110: Rel:=fun args p r=>∃(b i:Nat) (s:Lst Int) (t:Q0a),args=[.ptr b [],.ptr i []]/\(p.t.get b=some (.var sh68 (s.cv Y8)))/\(p.t.get i=some (.var sh94 t.cv))/\(s.tl≠.view)/\(s.l.length<=140737488355328)/\(∀x∈s.l,0<=x/\x<=255)/\r=resPC i p (readP s.l)
theorem t110{T:XCall}(h:Has T 110 R110)(b i:Nat)(s:Lst Int)(t:Q0a){p:Hp}(h2:p.t.get b=some (.var sh68 (s.cv Y8)))(h3:p.t.get i=some (.var sh94 t.cv))(h4:s.tl≠.view)(h5:s.l.length<=140737488355328)(h6:∀x∈s.l,0<=x/\x<=255): T 110 [.ptr b [],.ptr i []] p=resPC i p (readP s.l):=h _ _ _ ⟨b,i,s,t,rfl,h2,h3,h4,h5,h6,rfl⟩
theorem zdis110{P:Prop}(h:P:=by first|exact zdis|(simp only[Hp.bump_n,Hp.znew_n,Hp.zset_n,List.length_nil,List.length_cons,List.length_append,List.length_map,Z0i];(first|done|omega))|(simp (disch:=first|exact zd1|(simp only[Hp.bump_n,Hp.znew_n,Hp.zset_n,List.length_nil,List.length_cons,List.length_append,List.length_map,Z0i];(first|done|omega))) only[zheap,zx];(first|done|rfl))|fail): P:=h
theorem zq110{A B:Prop}(k:B)(h:A=B:=by((try simp -dsimp (disch:=first|exact zdis110|fail) only[zcore,zall,zopm,zop,zcallOp,qop,qbuiltin,ofOpt,List.map,reduceCtorEq,if_true,if_false,↓reduceIte,zbin,eqRes,qassert,qnum,qshift,qun,kindOf,allocV,List.nil_append,List.append_nil,List.cons_append,List.length_cons,List.length_nil,Nat.reduceAdd,Nat.reduceEqDiff,Nat.reduceLT,Nat.reduceSub,Nat.reduceMul,Int.reduceToNat,Int.reduceLE,Int.reduceLT,Int.reduceEq,Int.reduceNeg,Int.reduceAdd,Int.reduceSub,beq_self_eq_true,cond_true,cond_false,isConstOpd,xpanic,xconv,isBytes,qconv,List.length_map,List.map_nil,List.map_cons,concrete,Option.some.injEq,exists_eq',Option.map_some,Option.map_none,List.getElem?_cons_zero,List.getElem?_cons_succ,zw110,rs110,tt68,tt94,ti68,ti94,t_95,t_111,K0e,zsl68,resRF,Z0i,h2,h3,h4,h5,h6,zx,hc]);rfl)): A:=h▸k
theorem c110: Con C 110 R110:=by
 refine V0e C ?_ ?_ ?_
 ·rintro args p r r' ⟨b,i,s,t,h,h2,h3,h4,h5,h6,e⟩ ⟨b',i',s',t',h',h2',h3',h4',h5',h6',e'⟩
  subst e;subst e';(subst h;simp only[List.cons.injEq,CV.ptr.injEq,and_true,true_and]at h';obtain⟨e1,e2⟩:=h';subst e1;subst e2;rw[h2]at h2';simp only[Option.some.injEq,XObj.var.injEq,true_and,X0f]at h2';rw[h2'])
 ·rintro args p r ⟨b,i,s,t,h,h2,h3,h4,h5,h6,rfl⟩;first|(split<;>simp;done)|(simp;done)|(simp only[resM];split<;>simp;done)|(simp only[resD];split<;>simp;done)  | (unfold resPC;split<;>simp;done)
 rintro args p r ⟨b,i,s,t,rfl,h2,h3,h4,h5,h6,rfl⟩
 refine zW C false [(95,R95),(111,R111)] ⟨c95,c111,zT⟩ rfl xf110 zc110_ok fun call zh hF=>?_
 have t_95:=@t95 _ zh.1
 have t_111:=@t111 _ zh.2.1
 clear zh
 have hd_h2:=hF.dom _ _ h2
 have hd_h3:=hF.dom _ _ h3
 have hi:=hF.dom _ _ h3
 have hbi:=pk_sep h2 h3
 have hr:∀x∈(cloneP s).l,0<=x/\x<=255:=by rw[Z0i];exact h6
 have e0:readP s.l=readPa s.l 0:=rfl
 rw[e0]
 cases hra:readPa s.l 0 with
 |error e=>
  (have zx:=zA hra (zA h2 h3);refine zq110 ?_;try exact zT)
  repeat'(apply zK.s<;>intro hc<;>(try simp only[zhd]at hc)<;>(try have hw:=K0a hc)<;>(refine zq110 ?_;try exact zT))
  all_goals(try clear zx)
  exact X1v hF (fun k o h=>by have hd:=hF.dom _ _ h;simp (disch:=first|exact zdl|fail) only[Hp.bump_get,Hp.get_set_ne,Hp.get_new_ne];exact h) (V0d (K0c (Z0y 100 e)))
 |ok r=>
  obtain⟨u,a'⟩:=r
  have hno:=K1d hra
  (have zx:=zA hra (zA h2 h3);refine zq110 ?_;try exact zT)
  repeat'(apply zK.s<;>intro hc<;>(try simp only[zhd]at hc)<;>(try have hw:=K0a hc)<;>(refine zq110 ?_;try exact zT))
  all_goals(try clear zx)
  exact X0t hF hi (fun k o hk h=>by have hd:=hF.dom _ _ h;simp (disch:=first|exact zdl|fail) only[Hp.bump_get,Hp.get_set_ne,Hp.get_new_ne];exact h) ⟨_,Hp.get_set_self _ _ _,V0h fun j hj=>(hno j hj).elim⟩ (V0d (K0c tup0_no))
noncomputable def resPS(i:Nat)(p:Hp)(r:Except Int (Q0a×Nat)): XRes:=
 match r with
 |.ok (t,_)=>.ret (.tup [(V0b.mk 0 0).cv,Bo false]) (p.set i (some (.var sh94 t.cv)))
 |.error e=>.ret (.tup [(V0b.mk 100 e).cv,Bo true]) p
def R73p: Rel:=fun args p r=>∃(b i:Nat) (s:Lst Int) (t:Q0a),args=[.fn 110 [] [.ptr b [],.ptr i []]]/\(p.t.get b=some (.var sh68 (s.cv Y8)))/\(p.t.get i=some (.var sh94 t.cv))/\(s.tl≠.view)/\(s.l.length<=140737488355328)/\(∀x∈s.l,0<=x/\x<=255)/\r=resPS i p (readP s.l)
theorem t73p{T:XCall}(h:Has T 73 R73p)(b i:Nat)(s:Lst Int)(t:Q0a){p:Hp}(h2:p.t.get b=some (.var sh68 (s.cv Y8)))(h3:p.t.get i=some (.var sh94 t.cv))(h4:s.tl≠.view)(h5:s.l.length<=140737488355328)(h6:∀x∈s.l,0<=x/\x<=255): T 73 [.fn 110 [] [.ptr b [],.ptr i []]] p=resPS i p (readP s.l):=h _ _ _ ⟨b,i,s,t,rfl,h2,h3,h4,h5,h6,rfl⟩
theorem zq73p{A B:Prop}(k:B)(h:A=B:=by((try simp -dsimp (disch:=first|exact zdis|fail) only[zcore,zall,zopm,zop,zcallOp,qop,qbuiltin,ofOpt,List.map,reduceCtorEq,if_true,if_false,↓reduceIte,zbin,eqRes,qassert,qnum,qshift,qun,kindOf,allocV,List.nil_append,List.append_nil,List.cons_append,List.length_cons,List.length_nil,Nat.reduceAdd,Nat.reduceEqDiff,Nat.reduceLT,Nat.reduceSub,Nat.reduceMul,Int.reduceToNat,Int.reduceLE,Int.reduceLT,Int.reduceEq,Int.reduceNeg,Int.reduceAdd,Int.reduceSub,beq_self_eq_true,cond_true,cond_false,isConstOpd,xpanic,xconv,isBytes,qconv,List.length_map,List.map_nil,List.map_cons,concrete,Option.some.injEq,exists_eq',Option.map_some,Option.map_none,List.getElem?_cons_zero,List.getElem?_cons_succ,zw73,rs73,xc73_z,zw149,qcA_n,qcB_n,qcP_n,qcP_r,qcP_p,qcE_n,qcE_r,tt1,tt4,tt5,tt20,tt44,tt194,ti1,ti4,ti5,ti20,ti44,ti194,t_110,Y0r,X03,resPC,fault,h2,h3,h4,h5,h6,zx,hc]);rfl)): A:=h▸k
theorem c73p: Con C 73 R73p:=by
 refine V0e C ?_ ?_ ?_
 ·rintro args p r r' ⟨b,i,s,t,h,h2,h3,h4,h5,h6,e⟩ ⟨b',i',s',t',h',h2',h3',h4',h5',h6',e'⟩
  subst e;subst e';(subst h;simp only[List.cons.injEq,CV.fn.injEq,CV.ptr.injEq,and_true,true_and]at h';obtain⟨e1,e2⟩:=h';subst e1;subst e2;rw[h2]at h2';simp only[Option.some.injEq,XObj.var.injEq,true_and,X0f]at h2';rw[h2'])
 ·rintro args p r ⟨b,i,s,t,h,h2,h3,h4,h5,h6,rfl⟩;first|(split<;>simp;done)|(simp;done)|(simp only[resM];split<;>simp;done)|(simp only[resD];split<;>simp;done)  | (unfold resPS;split<;>simp;done)
 rintro args p r ⟨b,i,s,t,rfl,h2,h3,h4,h5,h6,rfl⟩
 refine ans_catch C false noExt (tabL C [(110,R110)]) xc73_ok (noExt_ok C) (X1q C _) xc73_a xc73_b xc73_p xc73_r (by kernel_rfl) (Nat.le_of_ble_eq_true (by kernel_rfl)) xc73_n fun hF=>?_
 have t_110:=@t110 (tabL C [(110,R110)]) (has_head C c110 [])
 generalize tabL C [(110,R110)]=call at t_110 ⊢
 have hd_h2:=hF.dom _ _ h2
 have hd_h3:=hF.dom _ _ h3
 show W C false noExt call zn73_1 (argE [.fn 110 [] [.ptr b [],.ptr i []]]) p (qcA C false noExt call zn73_3 V2d Q2b xc73 _)
 have hi:=hF.dom _ _ h3
 cases hra:readP s.l with
 |error e=>
  (have zx:=zA hra (zA h2 h3);refine zq73p ?_;try exact zT)
  repeat'(apply zK.s<;>intro hc<;>(try simp only[zhd]at hc)<;>(try have hw:=K0a hc)<;>(refine zq73p ?_;try exact zT))
  all_goals(try clear zx)
  exact V0c hF (fun k o h=>by have hd:=hF.dom _ _ h;simp (disch:=first|exact zdl|fail) only[Hp.bump_get,Hp.get_set_ne,Hp.get_new_ne];exact h) (V0d (K0c (by intro jj;simp[CV.has,CV.hasL,V0b.nohas])))
 |ok r=>
  obtain⟨u,a'⟩:=r
  have hno:=K1d (a:=0) hra
  (have zx:=zA hra (zA h2 h3);refine zq73p ?_;try exact zT)
  repeat'(apply zK.s<;>intro hc<;>(try simp only[zhd]at hc)<;>(try have hw:=K0a hc)<;>(refine zq73p ?_;try exact zT))
  all_goals(try clear zx)
  exact X0t hF hi (fun k o hk h=>by have hd:=hF.dom _ _ h;simp (disch:=first|exact zdl|fail) only[Hp.bump_get,Hp.get_set_ne,Hp.get_new_ne];exact h) ⟨_,zg9,V0h fun j hj=>(hno j hj).elim⟩ (V0d (K0c (by intro jj;simp[CV.has,CV.hasL,V0b.nohas])))
def R107e: Rel:=fun args p r=>∃(key:Int) (s:Lst Int),args=[I key,s.cv Y8]/\(-9223372036854775808<=key/\key<=9223372036854775807)/\(s.l=[])/\(s.tl=.part)/\r=.ret (Lst.cv Y8 (partB (closeB key s.l))) p
theorem zq107e{A B:Prop}(k:B)(h:A=B:=by have zy:=zA @zw107<|zA @rs107<|zA @tt3<|zA @tt5<|zA @tt68<|zA @tt178<|zA ti3.eq_1<|zA ti5.eq_1<|zA ti68.eq_1<|zA ti178.eq_1<|zA @t_159<|zA @t_163<|zA @zsl68<|zA @hk<|zA @h0<|@h1;exact zQ): A:=h▸k
theorem c107e: Con C 107 R107e:=by
 refine V0e C ?_ ?_ ?_
 ·rintro args p r r' ⟨key,s,h,hk,h0,h1,e⟩ ⟨key',s',h',hk',h0',h1',e'⟩
  subst e;subst e';simp_all[X0f,X0f]
 ·rintro args p r ⟨key,s,h,hk,h0,h1,rfl⟩;exact zr1
 rintro args p r ⟨key,s,rfl,hk,h0,h1,rfl⟩
 refine zW C false [(159,R159),(163,R163)] ⟨c159,c163,zT⟩ rfl xf107 zc107_ok fun call zh hF=>?_
 have t_159:=@t159 _ zh.1
 have t_163:=@t163 _ zh.2.1
 clear zh
 obtain⟨tl,l,o⟩:=s
 simp only at h0 h1
 subst h0
 subst h1
 have h0:True:=trivial
 have h1:True:=trivial
 have hr:=Q0w key []
 generalize hS:sumB key []=S at hr
 have hcp:cloneP (⟨.part,[],o⟩:Lst Int)=⟨.exact,[],nofun⟩:=rfl
 have t3:=fun q=>t_163 key ⟨.part,[],o⟩ (p:=q) hk (Nat.zero_le _) nofun
 rw[hS]at t3
 have t9:=fun q=>t_159 ⟨.part,[],o⟩ (p:=q) nofun (Nat.zero_le _)
 rw[hcp]at t9
 (have zx:=zA t3 t9;refine zq107e ?_;try exact zT)
 repeat'(apply zK.s<;>intro hc<;>(try simp only[zhd]at hc)<;>(try have hw:=K0a hc)<;>(refine zq107e ?_;try exact zT))
 all_goals(try clear zx)
 rw[four_e]
 have hcl:four S=closeB key []:=by rw[closeB,hS];rfl
 simp only[hcl]
 exact V0c hF (fun k o h=>by have hd:=hF.dom k o h;simp (disch:=first|exact zdl|fail) only[zheap];exact h) (Y02 Y0l _ _ _)
def R107y: Rel:=fun args p r=>R107 args p r\/R107e args p r
theorem c107y: Con C 107 R107y:=Y03 C c107 c107e (by
 rintro args p r r' ⟨k,s,e,_,h0,_⟩ ⟨k',s',e',_,h0',_⟩
 rw[e]at e'
 simp only[List.cons.injEq,X0f,and_true]at e'
 rw[e'.2]at h0
 exact absurd h0' h0)
theorem t107y{T:XCall}(h:Has T 107 R107y)(key:Int)(s:Lst Int){p:Hp}(hk:-9223372036854775808<=key/\key<=9223372036854775807)(h1:s.tl=.part)(h2:s.l.length<=1000000)(h5:∀x∈s.l,0<=x/\x<=255): T 107 [I key,s.cv Y8] p=.ret (Lst.cv Y8 (partB (closeB key s.l))) p:=by
 by_cases h0:s.l=[]
 ·exact h _ _ _ (.inr ⟨key,s,rfl,hk,h0,h1,rfl⟩)
 ·exact h _ _ _ (.inl ⟨key,s,rfl,hk,h0,by rw[h1];nofun,h2,h5,rfl⟩)
theorem sl68t(h:Heap)(l:List Int)(o:Tail.part=.nil->l=[])(n:Int)(hn:0<=n/\n<=l.length): qslice C h 68 (Lst.cv Y8 ⟨.part,l,o⟩) none (some (I n)) none=some (Lst.cv Y8 (partB (l.take n.toNat))):=by
 simp only[qslice,tt68,ti68,tt5,Lst.cv]
 rw[if_pos (show((l.map Y8).all fun v=>decide (v.shape=ti5.sh))=true from shapes_s X08 l)]
 have hq:qbnd (some (I n)) (l.map Y8).length (l.map Y8).length=some n.toNat:=by
  simp only[qbnd,List.length_map]
  rw[if_pos (by omega)]
 have hl:qbnd none 0 n.toNat=some 0:=rfl
 simp only[hq,hl,List.drop_zero,partB,List.map_take]
def tagBody(s:Lst Int): List Int:=s.l.take (s.l.length-4)
def opensB(key:Int)(s:Lst Int): Prop:=4<=s.l.length/\closeB key (tagBody s)=s.l
instance (key:Int)(s:Lst Int): Decidable (opensB key s):=by unfold opensB;infer_instance
def R109: Rel:=fun args p r=>∃(key:Int) (s:Lst Int),args=[I key,s.cv Y8]/\(-9223372036854775808<=key/\key<=9223372036854775807)/\(s.tl=.part\/s.l.length<4)/\(s.l.length<=1000000)/\(∀x∈s.l,0<=x/\x<=255)/\r=if opensB key s then .ret (.tup [Lst.cv Y8 (cloneP (partB (tagBody s))),Bo true]) p else .ret (.tup [Lst.cv Y8 nilB,Bo false]) p
theorem t109{T:XCall}(h:Has T 109 R109)(key:Int)(s:Lst Int){p:Hp}(hk:-9223372036854775808<=key/\key<=9223372036854775807)(h4:s.tl=.part\/s.l.length<4)(h2:s.l.length<=1000000)(h5:∀x∈s.l,0<=x/\x<=255): T 109 [I key,s.cv Y8] p=if opensB key s then .ret (.tup [Lst.cv Y8 (cloneP (partB (tagBody s))),Bo true]) p else .ret (.tup [Lst.cv Y8 nilB,Bo false]) p:=h _ _ _ ⟨key,s,rfl,hk,h4,h2,h5,rfl⟩
theorem zdis109{P:Prop}(h:P:=by first|exact zdis|(simp only[Hp.bump_n,Hp.znew_n,Hp.zset_n,List.length_nil,List.length_cons,List.length_append,List.length_map,Z0e];(first|done|omega))|(simp (disch:=first|exact zd1|(simp only[Hp.bump_n,Hp.znew_n,Hp.zset_n,List.length_nil,List.length_cons,List.length_append,List.length_map,Z0e];(first|done|omega))) only[zheap,zx];(first|done|rfl))|fail): P:=h
theorem zq109{A B:Prop}(k:B)(h:A=B:=by have zy:=zA @zw109<|zA @rs109<|zA @tt3<|zA @tt68<|zA ti3.eq_1<|zA ti68.eq_1<|zA @t_107y<|zA @t_96<|zA @t_159<|zA @zsl68<|zA @sl68t<|zA @Z0e<|zA @hk<|zA @h4<|zA @h2<|@h5;have zd:=@zdis109;exact zQd): A:=h▸k
theorem c109: Con C 109 R109:=by
 refine V0e C ?_ ?_ ?_
 ·rintro args p r r' ⟨key,s,h,hk,h4,h2,h5,e⟩ ⟨key',s',h',hk',h4',h2',h5',e'⟩
  subst e;subst e';simp_all[X0f,X0f]
 ·rintro args p r ⟨key,s,h,hk,h4,h2,h5,rfl⟩;exact zr1
 rintro args p r ⟨key,s,rfl,hk,h4,h2,h5,rfl⟩
 refine zW C false [(107,R107y),(96,R96),(159,R159)] ⟨c107y,c96,c159,zT⟩ rfl xf109 zc109_ok fun call zh hF=>?_
 have t_107y:=@t107y _ zh.1
 have t_96:=@t96 _ zh.2.1
 have t_159:=@t159 _ zh.2.2.1
 clear zh
 by_cases hlt:(s.l.length:Int)<4
 ·have hno:¬opensB key s:=fun h=>by have:=h.1;omega
  rw[if_neg hno]
  (have zx:=hlt;refine zq109 ?_;try exact zT)
  repeat'(apply zK.s<;>intro hc<;>(try simp only[zhd]at hc)<;>(try have hw:=K0a hc)<;>(refine zq109 ?_;try exact zT))
  all_goals(try clear zx)
  exact V0c hF zle (V0d (K0c (by intro jj;simp[CV.has,CV.hasL,Lst.cv,nilB])))
 ·have h4':s.tl=.part:=h4.resolve_right (by omega)
  obtain⟨tl,l,o⟩:=s
  simp only at h4' h2 h5 hlt
  subst h4'
  obtain⟨body,hbd⟩:∃b,l.take ((l.length:Int)-4).toNat=b:=⟨_,rfl⟩
  have hb:∀x∈(partB body).l,0<=x/\x<=255:=fun x hx=>h5 x (List.mem_of_mem_take (by rw[<- hbd]at hx;exact hx))
  have hbl:body.length<=1000000:=by rw[<- hbd,List.length_take];omega
  have hcl:(closeB key body).length<=140737488355328:=by rw[closeB,List.length_append];simp only[four,List.length_cons,List.length_nil];omega
  have t7:=fun q=>t_107y key (partB body) (p:=q) hk rfl hbl hb
  have t9:=fun q=>t_159 (partB body) (p:=q) nofun (by rw[Z0e];omega)
  have t6:=fun q=>t_96 (partB (closeB key body)) ⟨.part,l,o⟩ (p:=q) hcl (by simp only;omega)
  have hbe:tagBody ⟨.part,l,o⟩=body:=by rw[<- hbd];show l.take (l.length-4)=_;congr 1;omega
  simp only[Z0e]at t7 t6
  by_cases hc:closeB key body=l
  ·have hd:decide (closeB key body=l)=true:=decide_eq_true hc
   rw[if_pos (show opensB key ⟨.part,l,o⟩ from⟨by simp only;omega,by rw[hbe];exact hc⟩),hbe]
   simp only[hd]at t6
   (have zx:=zA hlt (zA hbd (zA t7 (zA t9 (zA t6 hd))));refine zq109 ?_;try exact zT)
   repeat'(apply zK.s<;>intro hc<;>(try simp only[zhd]at hc)<;>(try have hw:=K0a hc)<;>(refine zq109 ?_;try exact zT))
   all_goals(try clear zx)
   exact V0c hF zle (V0d (K0c (fun j hj=>by
    simp only[CV.has,CV.hasL,or_false]at hj
    exact Z08 _ j ((Lst.has _ Y0l _ j).1 hj))))
  ·have hd:decide (closeB key body=l)=false:=decide_eq_false hc
   rw[if_neg (show ¬opensB key ⟨.part,l,o⟩ from fun h=>hc (by rw[<- hbe];exact h.2))]
   simp only[hd]at t6
   (have zx:=zA hlt (zA hbd (zA t7 (zA t9 (zA t6 hd))));refine zq109 ?_;try exact zT)
   repeat'(apply zK.s<;>intro hc<;>(try simp only[zhd]at hc)<;>(try have hw:=K0a hc)<;>(refine zq109 ?_;try exact zT))
   all_goals(try clear zx)
   exact V0c hF zle (V0d (K0c (by intro jj;simp[CV.has,CV.hasL,Lst.cv,nilB])))
theorem Q0v(e:Int)(j:Nat): ¬(CV.tup [Q0a.zero.cv,I e]).has j:=by
 simp only[CV.has,CV.hasL,or_false]
 rw[packHas]
 rintro(h|h)
 ·exact nilHas _ j h
 ·exact nilHas _ j h
theorem Y1q{key:Int}{s:Lst Int}(h:400<s.l.length): openP key s.l=(Q0a.zero,7):=by unfold openP;rw[if_pos h]
theorem Y1u{key:Int}{s:Lst Int}(h:¬400<s.l.length)(ho:¬opensB key s): openP key s.l=(Q0a.zero,3):=by unfold openP;rw[if_neg h,if_pos (show ¬(4<=s.l.length/\closeB key (s.l.take (s.l.length-4))=s.l) from ho)]
theorem openP_in{key:Int}{s:Lst Int}(h:¬400<s.l.length)(ho:opensB key s): openP key s.l=match readP (tagBody s) with
 |.error _=>(Q0a.zero,2)
 |.ok (p,_)=>if packRight p=true/\packB (packBits p)=tagBody s then(p,0) else(Q0a.zero,2):=by
 unfold openP
 rw[if_neg h,if_neg (fun hh=>hh ho)]
 rfl
theorem al68(p:Hp): xalloc C p 68=.ret (.ptr p.n []) (p.new (.var sh68 (Lst.cv Y8 nilB))):=by
 simp only[xalloc,tt68];rfl
def R48: Rel:=fun args p r=>∃(key:Int) (s:Lst Int),args=[I key,s.cv Y8]/\(-9223372036854775808<=key/\key<=9223372036854775807)/\(s.tl=.part\/s.l.length<4)/\(s.l.length<=1000000)/\(∀x∈s.l,0<=x/\x<=255)/\r=.ret (.tup [(openP key s.l).1.cv,I (openP key s.l).2]) p
theorem t48{T:XCall}(h:Has T 48 R48)(key:Int)(s:Lst Int){p:Hp}(hk:-9223372036854775808<=key/\key<=9223372036854775807)(h4:s.tl=.part\/s.l.length<4)(h2:s.l.length<=1000000)(h5:∀x∈s.l,0<=x/\x<=255): T 48 [I key,s.cv Y8] p=.ret (.tup [(openP key s.l).1.cv,I (openP key s.l).2]) p:=h _ _ _ ⟨key,s,rfl,hk,h4,h2,h5,rfl⟩
theorem zdis48{P:Prop}(h:P:=by first|exact zdis|(simp only[Hp.bump_n,Hp.znew_n,Hp.zset_n,List.length_nil,List.length_cons,List.length_append,List.length_map,Z0e,Z0i];(first|done|omega))|(simp (disch:=first|exact zd1|(simp only[Hp.bump_n,Hp.znew_n,Hp.zset_n,List.length_nil,List.length_cons,List.length_append,List.length_map,Z0e,Z0i];(first|done|omega))) only[zheap,zx];(first|done|rfl))|fail): P:=h
theorem zq48{A B:Prop}(k:B)(h:A=B:=by((try simp -dsimp (disch:=first|exact zdis48|fail) only[zcore,zall,zopm,zop,zcallOp,qop,qbuiltin,ofOpt,List.map,reduceCtorEq,if_true,if_false,↓reduceIte,zbin,eqRes,qassert,qnum,qshift,qun,kindOf,allocV,List.nil_append,List.append_nil,List.cons_append,List.length_cons,List.length_nil,Nat.reduceAdd,Nat.reduceEqDiff,Nat.reduceLT,Nat.reduceSub,Nat.reduceMul,Int.reduceToNat,Int.reduceLE,Int.reduceLT,Int.reduceEq,Int.reduceNeg,Int.reduceAdd,Int.reduceSub,beq_self_eq_true,cond_true,cond_false,isConstOpd,xpanic,xconv,isBytes,qconv,List.length_map,List.map_nil,List.map_cons,concrete,Option.some.injEq,exists_eq',Option.map_some,Option.map_none,List.getElem?_cons_zero,List.getElem?_cons_succ,zw48,rs48,tt3,tt44,tt68,tt94,ti3,ti44,ti68,ti94,t_50,t_73p,t_96,t_108,t_109,K0e,Y0r,zsl68,resPS,Z0e,Z0i,al68,hk,h4,h2,h5,zx,hc]);rfl)): A:=h▸k
theorem c48: Con C 48 R48:=by
 refine V0e C ?_ ?_ ?_
 ·rintro args p r r' ⟨key,s,h,hk,h4,h2,h5,e⟩ ⟨key',s',h',hk',h4',h2',h5',e'⟩
  subst e;subst e';simp_all[Q0a.inj_iff,V0b.inj_iff,X0f,X0f]
 ·rintro args p r ⟨key,s,h,hk,h4,h2,h5,rfl⟩;exact zr1
 rintro args p r ⟨key,s,rfl,hk,h4,h2,h5,rfl⟩
 refine zW C false [(50,R50),(73,R73p),(96,R96),(108,R108),(109,R109)] ⟨c50,c73p,c96,c108,c109,zT⟩ rfl xf48 zc48_ok fun call zh hF=>?_
 have t_50:=@t50 _ zh.1
 have t_73p:=@t73p _ zh.2.1
 have t_96:=@t96 _ zh.2.2.1
 have t_108:=@t108 _ zh.2.2.2.1
 have t_109:=@t109 _ zh.2.2.2.2.1
 clear zh
 by_cases hlong:(400:Int)<s.l.length
 ·have hop:=Y1q (key:=key) (s:=s) (by omega)
  rw[hop]
  (have zx:=hlong;refine zq48 ?_;try exact zT)
  repeat'(apply zK.s<;>intro hc<;>(try simp only[zhd]at hc)<;>(try have hw:=K0a hc)<;>(refine zq48 ?_;try exact zT))
  all_goals(try clear zx)
  exact V0c hF zle (V0d (K0c (Q0v _)))
 ·by_cases ho:opensB key s
  ·have hop:=openP_in (by omega) ho
   have hbb:∀x∈tagBody s,0<=x/\x<=255:=fun x hx=>h5 x (List.mem_of_mem_take hx)
   have hbl:(tagBody s).length<=1000000:=by rw[tagBody,List.length_take];omega
   have t7:=fun q h2 h3=>t_73p (p.n+1) (p.n+1+1) (cloneP (partB (tagBody s))) Q0a.zero (p:=q) h2 h3 (cloneP_nv _) (by rw[Z0i,Z0e];omega) (by rw[Z0i,Z0e];exact hbb)
   rw[Z0i,Z0e]at t7
   cases hrp:readP (tagBody s) with
   |error e=>
    rw[hrp]at hop
    rw[hop]
    (have zx:=zA hlong (zA ho (zA t7 hrp));refine zq48 ?_;try exact zT)
    repeat'(apply zK.s<;>intro hc<;>(try simp only[zhd]at hc)<;>(try have hw:=K0a hc)<;>(refine zq48 ?_;try exact zT))
    all_goals(try clear zx)
    exact V0c hF zle (V0d (K0c (Q0v _)))
   |ok r=>
    obtain⟨u,a'⟩:=r
    rw[hrp]at hop
    have hu:=V1t (a:=0) hrp
    have hno:=K1d (a:=0) hrp
    cases hR:packRight u with
    |false=>
     rw[hop]
     simp only[hR,Bool.false_eq_true,false_and,if_false]
     (have zx:=zA hlong (zA ho (zA t7 (zA hrp (zA hu hR))));refine zq48 ?_;try exact zT)
     repeat'(apply zK.s<;>intro hc<;>(try simp only[zhd]at hc)<;>(try have hw:=K0a hc)<;>(refine zq48 ?_;try exact zT))
     all_goals(try clear zx)
     exact V0c hF zle (V0d (K0c (Q0v _)))
    |true=>
     have hsm:=Y1k hR
     have hpl:=Q0q hsm
     have hpb:=K0g (packBits u)
     by_cases he:packB (packBits u)=tagBody s
     ·have hd:decide (packB (packBits u)=tagBody s)=true:=decide_eq_true he
      rw[hop]
      simp only[hR,he,and_self,if_true]
      (have zx:=zA hlong (zA ho (zA t7 (zA hrp (zA hu (zA hR (zA hsm hd))))));refine zq48 ?_;try exact zT)
      repeat'(apply zK.s<;>intro hc<;>(try simp only[zhd]at hc)<;>(try have hw:=K0a hc)<;>(refine zq48 ?_;try exact zT))
      all_goals(try clear zx)
      exact V0c hF zle (V0d (K0c (fun j hj=>by simp only[CV.has,CV.hasL,or_false]at hj;exact hno j hj)))
     ·have hd:decide (packB (packBits u)=tagBody s)=false:=decide_eq_false he
      rw[hop]
      simp only[hR,he,and_false,if_false]
      (have zx:=zA hlong (zA ho (zA t7 (zA hrp (zA hu (zA hR (zA hsm hd))))));refine zq48 ?_;try exact zT)
      repeat'(apply zK.s<;>intro hc<;>(try simp only[zhd]at hc)<;>(try have hw:=K0a hc)<;>(refine zq48 ?_;try exact zT))
      all_goals(try clear zx)
      exact V0c hF zle (V0d (K0c (Q0v _)))
  ·have hop:=Y1u (key:=key) (s:=s) (by omega) ho
   rw[hop]
   (have zx:=zA hlong ho;refine zq48 ?_;try exact zT)
   repeat'(apply zK.s<;>intro hc<;>(try simp only[zhd]at hc)<;>(try have hw:=K0a hc)<;>(refine zq48 ?_;try exact zT))
   all_goals(try clear zx)
   exact V0c hF zle (V0d (K0c (Q0v _)))
end Go.Proofs.Ytpchcfkebljopaa
end
section
namespace Go.Proofs.Ytpchcfkebljopaa
open Go.Cl Go Go.RowKit
theorem pack_at(l:List Bool): At (packB l) 0 l:=by
 refine⟨by rw[K0g];omega,fun i hi=>?_⟩
 rw[Nat.zero_add,V1v _ (by rw[K0g];omega)]
theorem flat_eq(r:Lst (Lst X0a)): flat r.l=(rowsL r).flatten:=by
 simp only[flat,rowsL,List.flatMap_def]
theorem Z16(a:Q0a): packBits (canonP a)=packBits a:=by
 have hr:rowsL (canonP a).Rows=rowsL a.Rows:=Q2m _
 have hl:(canonP a).Rows.l.length=a.Rows.l.length:=by
  have:=congrArg List.length hr
  simpa only[rowsL,List.length_map]using this
 have hi:(canonP a).Inputs.l=a.Inputs.l:=Q0u _
 simp only[packBits,rowsBits,rowsHead,inputsHead,packHead,hl,hi,flat_eq,hr]
 rfl
theorem rowsRight_L(r:Lst (Lst X0a))(n:Int): rowsRight r.l n=((rowsL r).all (fun x=>decide ((x.length:Int)=n)&&x.all cellRight)&&decide ((rowsL r).length<=8)&&within n 1 8):=by
 simp only[rowsRight,rowsL,List.all_map,List.length_map]
 rfl
theorem sameP_canon(a b:Q0a): sameP (canonP a) b=sameP a b:=by
 have hr:rowsL (canonP a).Rows=rowsL a.Rows:=Q2m _
 have hi:(canonP a).Inputs.l=a.Inputs.l:=Q0u _
 simp only[sameP,hr,hi]
 rfl
theorem X19(a b:Q0a): sameP a b=sameP b a:=by
 simp only[sameP,eq_comm]
theorem sameP_refl(a:Q0a): sameP a a=true:=by simp[sameP]
theorem sameP_canon2(a b:Q0a): sameP a (canonP b)=sameP a b:=by rw[X19,sameP_canon,X19]
theorem own_canon(a b:Q0a): sameP (ownP (canonP a)) b=sameP (ownP a) b:=by
 have hr:rowsL (canonP a).Rows=rowsL a.Rows:=Q2m _
 have hi:(canonP a).Inputs.l=a.Inputs.l:=Q0u _
 have hk:(canonP a).Kind=a.Kind:=rfl
 by_cases h2:a.Kind=2
 ·simp only[sameP,ownP,hk,if_pos h2,hi];rfl
 ·by_cases h3:a.Kind=3
  ·simp only[sameP,ownP,hk,if_neg h2,if_pos h3,hr];rfl
  ·by_cases h4:a.Kind=4
   ·simp only[sameP,ownP,hk,if_neg h2,if_neg h3,if_pos h4];rfl
   ·simp only[sameP,ownP,hk,if_neg h2,if_neg h3,if_neg h4];rfl
theorem Z1y(a:Q0a): packRight (canonP a)=packRight a:=by
 have hr:rowsL (canonP a).Rows=rowsL a.Rows:=Q2m _
 have hi:(canonP a).Inputs.l=a.Inputs.l:=Q0u _
 simp only[packRight,own_canon,sameP_canon2,rowsRight_L,hr,hi]
 rfl
theorem Z1i{a:Q0a}(h:packRight a=true): 103<=(packBits a).length/\(packBits a).length<=1721:=by
 unfold packBits
 rw[List.length_append,V0i]
 split
 ·rename_i h2
  have:=(X2i h h2).1
  rw[List.length_append,V0n,Q2f inBits 24 _ fun x _=>K0q x];omega
 ·split
  ·rename_i h3
   obtain⟨h1,hn,hr⟩:=Z0t (X2m h h3)
   have h8:=X2f (l:=a.Rows.l) fun x hx=>by have:=(hr x hx).1;omega
   have hc:=Q01 (flat a.Rows.l)
   rw[rowsBits,List.length_append,Z0q];omega
  ·split
   ·simp[X0e]
   ·simp
theorem K0o(key:Int)(l:List Int): (closeB key l).length=l.length+4:=by simp[closeB,four]
theorem openP_lay{key:Int}{a:Q0a}(h:packRight a=true)(ha:0<=a.Acks/\a.Acks<18446744073709551616): openP key (layP key a)=(canonP a,0):=by
 have hm:=Z1i h
 have hl:(layP key a).length=((packBits a).length+7)/8+4:=by rw[layP,K0o,K0g]
 have ht:(layP key a).take ((layP key a).length-4)=packB (packBits a):=by
  rw[layP,K0o,Nat.add_sub_cancel,closeB]
  exact List.take_left' rfl
 unfold openP
 rw[if_neg (by omega),if_neg (fun hh=>hh ⟨by omega,by rw[ht];rfl⟩),ht,readP_at h ha (pack_at _)]
 simp only
 rw[if_pos ⟨by rw[Z1y];exact h,by rw[Z16]⟩]
end Go.Proofs.Ytpchcfkebljopaa
end
section
namespace Go.Proofs.Ytpchcfkebljopaa
open Go.Cl Go Go.RowKit
set_option maxRecDepth 100000
set_option linter.constructorNameAsVariable false
def helloP: Q0a:=⟨1,0,0,0,false,0,0,0,⟨.nil,[],fun _=>rfl⟩,0,⟨.nil,[],fun _=>rfl⟩,0,0⟩
theorem V13: packRight helloP=true:=by decide
theorem hello_len: (layP 5 helloP).length=17:=by rw[layP,K0o,K0g];decide
theorem V1y(key:Int)(a:Q0a): ∀x∈layP key a,0<=x/\x<=255:=fun x hx=>by
 rw[layP,closeB]at hx
 rcases List.mem_append.1 hx with hx|hx
 ·exact V1h _ x hx
 ·simp only[four,List.mem_cons,List.not_mem_nil,or_false]at hx
  omega
def R47: Rel:=fun args p r=>args=[]/\r=.ret (Bo true) p
theorem t47{T:XCall}(h:Has T 47 R47) {p:Hp}:T 47 [] p=.ret (Bo true) p:=h _ _ _ ⟨rfl,rfl⟩
theorem zdis47{P:Prop}(h:P:=by first|exact zdis|(simp only[Hp.bump_n,Hp.znew_n,Hp.zset_n,List.length_nil,List.length_cons,List.length_append,List.length_map,Z0e];(first|done|omega))|(simp (disch:=first|exact zd1|(simp only[Hp.bump_n,Hp.znew_n,Hp.zset_n,List.length_nil,List.length_cons,List.length_append,List.length_map,Z0e];(first|done|omega))) only[zheap,zx];(first|done|rfl))|fail): P:=h
theorem zq47{A B:Prop}(k:B)(h:A=B:=by have zy:=zA @zw47<|zA @rs47<|zA @tt3<|zA @tt68<|zA @tt69<|zA @tt94<|zA ti3.eq_1<|zA ti68.eq_1<|zA ti69.eq_1<|zA ti94.eq_1<|zA @t_46<|zA @t_48<|zA @K0e<|zA @zsl68<|@Z0e;have zd:=@zdis47;exact zQd): A:=h▸k
theorem c47: Con C 47 R47:=by
 refine V0e C ?_ ?_ ?_
 ·rintro args p r r' ⟨h,e⟩ ⟨h',e'⟩
  subst e;subst e';simp_all[Q0a.inj_iff,X0f]
 ·rintro args p r ⟨h,rfl⟩;exact zr1
 rintro args p r ⟨rfl,rfl⟩
 refine zW C false [(46,R46),(48,R48)] ⟨c46,c48,zT⟩ rfl xf47 zc47_ok fun call zh hF=>?_
 have t_46:=@t46 _ zh.1
 have t_48:=@t48 _ zh.2.1
 clear zh
 have hR:=V13
 have hO:openP 5 (layP 5 helloP)=(canonP helloP,0):=openP_lay V13 (by decide)
 have hl:=hello_len
 have hb:=V1y 5 helloP
 have hok:packOk helloP:=⟨by decide,by decide,nofun⟩
 have t1:=fun q=>(t_46 5 helloP (p:=q) (by omega) hok).trans (if_pos hR)
 have t2:=fun q=>t_48 5 (partB (layP 5 helloP)) (p:=q) (by omega) (.inl rfl) (by rw[Z0e];omega) hb
 rw[Z0e,hO]at t2
 have hlit:(⟨1,0,0,0,false,0,0,0,⟨.nil,[],fun _=>rfl⟩,0,⟨.nil,[],fun _=>rfl⟩,0,0⟩:Q0a)=helloP:=rfl
 have hck:(canonP helloP).Kind=1:=rfl
 (have zx:=zA t1 (zA t2 (zA hl (zA hlit (zA hck hR))));refine zq47 ?_;try exact zT)
 repeat'(apply zK.s<;>intro hc<;>(try simp only[zhd]at hc)<;>(try have hw:=K0a hc)<;>(refine zq47 ?_;try exact zT))
 all_goals(try clear zx)
 exact V0c hF zle (Q0d rfl (K0c (by intro jj;simp[CV.has])))
end Go.Proofs.Ytpchcfkebljopaa
end
section
namespace Go.Proofs.Ytpchcfkebljopaa
open Go.Cl Go Go.RowKit
def baseP(x:V0a): Q0a:={Q0a.zero with Kind:=1+pick x.Kind 6,Slot:=pick x.Slot 8,Seq:=pick x.Seq 65536,Any:=x.Any,Last:=if x.Any then pick x.Last 65536 else 0,Acks:=if x.Any then x.Acks else 0}
def insOf(l:List Int): List Y0a:=(l.take 16).map fun n=>handInput n (w64 (n.tdiv 3))
def rows8(n:Int)(l:List (Lst Int)): List (Lst X0a):=(l.take 8).map (rowL n)
def filledP(x:V0a): Q0a:=
 if 1+pick x.Kind 6=2 then {baseP x with Got:=pick x.Got 40,First:=pick x.First 40,Inputs:=lstP (insOf x.Inputs.l)}
 else if 1+pick x.Kind 6=3 then {baseP x with Players:=1+pick x.Players 8,First:=pick x.First 40,Rows:=lstP (rows8 (1+pick x.Players 8) x.Rows.l)}
 else if 1+pick x.Kind 6=4 then {baseP x with Frame:=pick x.Frame 60,Mark:=pick x.Mark 4611686018427387904} else baseP x
def bendP(x:V0a)(b:Q0a): Q0a:=
 if pick x.Bend 40=30 then {b with Kind:=pick (w64 (x.Bend.tdiv 40)) 10-1} else
 if pick x.Bend 40=31 then {b with Seq:=x.Seq} else
 if pick x.Bend 40=32 then {b with Got:=x.Got} else
 if pick x.Bend 40=33 then {b with First:=x.First} else
 if pick x.Bend 40=34 then {b with Frame:=x.Frame} else
 if pick x.Bend 40=35 then {b with Mark:=x.Mark} else
 if pick x.Bend 40=36 then {b with Players:=pick (w64 (x.Bend.tdiv 40)) 12} else
 if pick x.Bend 40=37 then {b with Inputs:=lstP (b.Inputs.l++[⟨x.Got,x.First,0⟩])} else
 if pick x.Bend 40=38 then {b with Last:=x.Last} else
 if pick x.Bend 40=39 then {b with Slot:=x.Slot} else b
def packetOf(x:V0a): Q0a:=bendP x (filledP x)
end Go.Proofs.Ytpchcfkebljopaa
end
section
namespace Go.Proofs.Ytpchcfkebljopaa
open Go.Cl Go Go.RowKit
set_option maxRecDepth 100000
set_option linter.constructorNameAsVariable false
def J65(players:Int)(l:Lst Int)(p:Hp)(n:Nat)(ρ:Env)(q:Hp): Prop:=
 ∃(k:Nat),n=min players.toNat l.l.length-k/\k<=min players.toNat l.l.length/\ρ 0=I players/\ρ 1=Lst.cv I l/\ρ 5=.slc p.n [] 0 players.toNat/\ρ 6=I k/\q.t.get p.n=some (.var (.n (List.replicate players.toNat sh110)) (.agg ((rowK players l.l k).map X0a.cv)))/\p.n<q.n/\HpLe p q
def R65: Rel:=fun args p r=>∃(players:Int) (l:Lst Int),args=[I players,Lst.cv I l]/\(1<=players/\players<=100)/\r=.ret (Lst.cv X0a.cv ⟨.part,rowOf players l.l,nofun⟩) p
theorem t65{T:XCall}(h:Has T 65 R65)(players:Int)(l:Lst Int){p:Hp}(h1:1<=players/\players<=100): T 65 [I players,Lst.cv I l] p=.ret (Lst.cv X0a.cv ⟨.part,rowOf players l.l,nofun⟩) p:=h _ _ _ ⟨players,l,rfl,h1,rfl⟩
theorem zq65{A B:Prop}(k:B)(h:A=B:=by have zy:=zA @zw65<|zA @rs65<|zA @tt3<|zA @tt24<|zA @tt108<|zA @tt110<|zA ti3.eq_1<|zA ti24.eq_1<|zA ti108.eq_1<|zA ti110.eq_1<|zA @t_69<|zA @Y0f<|zA @Q0f<|zA @zsl24<|zA @zsl108<|zA @mk108<|zA @ix108<|zA @sa108<|zA @V2l<|@h1;exact zQ): A:=h▸k
theorem zge65{P:Prop}(h:P:=by simp (disch:=first|exact zdl|fail) only[zheap];first|done|rfl): P:=h
theorem c65: Con C 65 R65:=by
 refine V0e C ?_ ?_ ?_
 ·rintro args p r r' ⟨players,l,h,h1,e⟩ ⟨players',l',h',h1',e'⟩
  subst e;subst e';simp_all[X0a.inj_iff,Y0a.inj_iff,Z1n,Q0i,Z1n]
 ·rintro args p r ⟨players,l,h,h1,rfl⟩;exact zr1
 rintro args p r ⟨players,l,rfl,h1,rfl⟩
 show AnsAt C 65 [I players,Lst.cv I l] p (.ret (.lst .part ((rowOf players l.l).map X0a.cv)) p)
 refine Q1f C (sh:=.n (List.replicate players.toNat sh110)) (l:=(rowOf players l.l).map X0a.cv) (sz:=4) (fun x hx=>by obtain⟨y,_,rfl⟩:=List.mem_map.1 hx;rfl) (fun j hj=>(Z0h X0a.nohas _ j hj).elim) ?_
 refine zW C false [(69,R69)] ⟨c69,zT⟩ rfl xf65 zc65_ok fun call zh hF=>?_
 have t_69:=@t69 _ zh.1
 clear zh
 have hp:((players.toNat:Nat):Int)=players:=by omega
 have hfin:∀q:Hp,q.t.get p.n=some (.var (.n (List.replicate players.toNat sh110)) (.agg ((rowOf players l.l).map X0a.cv)))->HpLe p q->ShrR p (.ret (.slc p.n [] 0 players.toNat) q) (.ret (.slc p.n [] 0 (rowOf players l.l).length) (p.new (.var (.n (List.replicate players.toNat sh110)) (.agg ((rowOf players l.l).map X0a.cv))))):=by
  intro q g1 hle
  rw[rowOf_len]
  refine X1i (by show p.n<=p.n+1;omega) (fun j o h=>?_) ⟨rfl,Nat.lt_succ_self _,rfl,rfl,rfl⟩
  by_cases hj:j=p.n
  ·subst hj
   rw[Hp.get_new_self]at h;cases h
   exact⟨Nat.lt_succ_self _,.inr ⟨_,g1,V0h fun i hi=>by simp only[XObj.has,CV.has]at hi;exact(Z0h X0a.nohas _ i hi).elim⟩⟩
  ·rw[Hp.get_new_ne _ _ hj]at h
   have hd:=hF.dom _ _ h
   exact⟨Nat.lt_succ_of_lt hd,.inl ⟨hd,h,hle j o h⟩⟩
 (have zx:=zT;refine zq65 ?_;try exact zT)
 repeat'(apply zK.s<;>intro hc<;>(try simp only[zhd]at hc)<;>(try have hw:=K0a hc)<;>(refine zq65 ?_;try exact zT))
 all_goals(try clear zx)
 (show W C false noExt call (ZC.loop zn65_9) _ _ _);refine Y0g C false noExt call zn65_9 _ _ _ (J65 players l p) (min players.toNat l.l.length) ⟨0,rfl,by omega,(by simp[put_at,X0c,K0f]),(by simp[put_at,X0c];rfl),(by simp[put_at,X0c,K0f]),(by simp[put_at,X0c,K0f]),zge65,(zb9),zle⟩ ?_
 rintro n ρ q ⟨k,rfl,hk,e0,e1,e5,e6,g1,hn,hle⟩
 have hlen:=K2n players l.l k
 by_cases hlt:(k:Int)<players
 ·by_cases hll:(k:Int)<l.l.length
  ·have hw:=Q1h ((nth l.l k).tdiv 7)
   by_cases h4:0<(nth l.l k).tmod 4
   ·have hst:rowK players l.l (k+1)=(rowK players l.l k).set k (cellOf (nth l.l k)):=by simp[rowK,h4]
    (have zx:=zA e0 (zA e1 (zA e5 (zA e6 (zA g1 (zA hlt (zA hll h4))))));refine zq65 ?_;try exact zT)
    repeat'(apply zK.s<;>intro hc<;>(try simp only[zhd]at hc)<;>(try have hw:=K0a hc)<;>(refine zq65 ?_;try exact zT))
    all_goals(try clear zx)
    exact⟨min players.toNat l.l.length-(k+1),by omega,k+1,rfl,by omega,zev,zev,zev,zev,by rw[hst];simp (disch:=first|exact zdl|fail) only[zheap];first|done|rfl,zb9,zlq⟩
   ·have hst:rowK players l.l (k+1)=rowK players l.l k:=by simp[rowK,h4]
    (have zx:=zA e0 (zA e1 (zA e5 (zA e6 (zA g1 (zA hlt (zA hll h4))))));refine zq65 ?_;try exact zT)
    repeat'(apply zK.s<;>intro hc<;>(try simp only[zhd]at hc)<;>(try have hw:=K0a hc)<;>(refine zq65 ?_;try exact zT))
    all_goals(try clear zx)
    exact⟨min players.toNat l.l.length-(k+1),by omega,k+1,rfl,by omega,zev,zev,zev,zev,by rw[hst];exact g1,hn,hle⟩
  ·have hk2:k=min players.toNat l.l.length:=by omega
   (have zx:=zA e0 (zA e1 (zA e5 (zA e6 (zA g1 (zA hlt hll)))));refine zq65 ?_;try exact zT)
   repeat'(apply zK.s<;>intro hc<;>(try simp only[zhd]at hc)<;>(try have hw:=K0a hc)<;>(refine zq65 ?_;try exact zT))
   all_goals(try clear zx)
   exact hfin q (by rw[g1,hk2];rfl) hle
 ·have hk2:k=min players.toNat l.l.length:=by omega
  (have zx:=zA e0 (zA e1 (zA e5 (zA e6 (zA g1 hlt))));refine zq65 ?_;try exact zT)
  repeat'(apply zK.s<;>intro hc<;>(try simp only[zhd]at hc)<;>(try have hw:=K0a hc)<;>(refine zq65 ?_;try exact zT))
  all_goals(try clear zx)
  exact hfin q (by rw[g1,hk2];rfl) hle
def K45(x:V0a)(F:Q0a)(p:Hp)(ρ:Env)(q:Hp): Prop:=
 ρ 1=.ptr p.n []/\ρ 2=.ptr (p.n+1) []/\ρ 3=.ptr (p.n+15) []/\∃(A:Lst Y0a) (R:Lst (Lst X0a)),q.t.get p.n=some (.var sh90 x.cv)/\q.t.get (p.n+1)=some (.var sh94 Q0a.zero.cv)/\q.t.get (p.n+15)=some (.var sh94 (Q0a.cv {F with Inputs:=A,Rows:=R}))/\F.Inputs=lstP A.l/\A.l.length<=16/\App (p.n+15) A q/\CV.weak (fun k=>k) p.n (R.cv (Lst.cv X0a.cv)) (F.Rows.cv (Lst.cv X0a.cv))/\p.n+15<q.n/\HpLe p q
theorem App.weakI{n0 n:Nat}{A:Lst Y0a}{q:Hp}(h:App n0 A q): CV.weak (fun k=>k) n (A.cv Y0a.cv) ((lstP A.l).cv Y0a.cv):=h.T.weak _ (CV.weakL_refl _ fun j hj=>(Z0h (f:=Y0a.cv) Y0a.nohas _ j hj).elim)
def K45b(x:V0a)(p:Hp)(ρ:Env)(q:Hp): Prop:=
 ρ 1=.ptr p.n []/\ρ 2=.ptr (p.n+1) []/\ρ 3=.ptr (p.n+15) []/\q.t.get p.n=some (.var sh90 x.cv)/\q.t.get (p.n+1)=some (.var sh94 Q0a.zero.cv)/\q.t.get (p.n+15)=some (.var sh94 (baseP x).cv)/\p.n+15<q.n/\HpLe p q
def J45(x:V0a)(F0:Q0a)(p:Hp)(n:Nat)(ρ:Env)(q:Hp): Prop:=
 ∃(m:Nat) (A:Lst Y0a),n=16-m/\m<=16/\m<=x.Inputs.l.length/\ρ 1=.ptr p.n []/\ρ 2=.ptr (p.n+1) []/\ρ 3=.ptr (p.n+15) []/\ρ 4=I m/\A.l=(x.Inputs.l.take m).map (fun n=>handInput n (w64 (n.tdiv 3)))/\A.l.length=m/\App (p.n+15) A q/\q.t.get p.n=some (.var sh90 x.cv)/\q.t.get (p.n+1)=some (.var sh94 Q0a.zero.cv)/\q.t.get (p.n+15)=some (.var sh94 (Q0a.cv {F0 with Inputs:=A}))/\p.n+15<q.n/\HpLe p q
def L45(x:V0a)(F0:Q0a)(N:Int)(p:Hp)(n:Nat)(ρ:Env)(q:Hp): Prop:=
 ∃(m:Nat) (A:Lst (Lst X0a)),n=8-m/\m<=8/\m<=x.Rows.l.length/\ρ 1=.ptr p.n []/\ρ 2=.ptr (p.n+1) []/\ρ 3=.ptr (p.n+15) []/\ρ 5=I m/\A.l=(x.Rows.l.take m).map (rowL N)/\A.l.length=m/\App (p.n+15) A q/\q.t.get p.n=some (.var sh90 x.cv)/\q.t.get (p.n+1)=some (.var sh94 Q0a.zero.cv)/\q.t.get (p.n+15)=some (.var sh94 (Q0a.cv {F0 with Rows:=A}))/\p.n+15<q.n/\HpLe p q
theorem rowL_no(N:Int)(l:List (Lst Int))(j:Nat): ¬CV.hasL j ((l.map (rowL N)).map (Lst.cv X0a.cv)):=by
 induction l with
 |nil=>simp[CV.hasL]
 |cons x l ih=>
  simp only[List.map_cons,CV.hasL]
  rintro(h|h)
  ·have:=(Lst.has _ X0a.nohas (rowL N x) j).1 h
   cases this
  ·exact ih h
def R45: Rel:=fun args p r=>∃(x:V0a),args=[x.cv]/\r=.ret (packetOf x).cv p
theorem t45{T:XCall}(h:Has T 45 R45)(x:V0a){p:Hp}:T 45 [x.cv] p=.ret (packetOf x).cv p:=h _ _ _ ⟨x,rfl,rfl⟩
theorem zq45{A B:Prop}(k:B)(h:A=B:=by have zy:=zA @zw45<|zA @rs45<|zA @tt3<|zA @tt4<|zA @tt24<|zA @tt25<|zA @tt36<|zA @tt58<|zA @tt90<|zA @tt91<|zA @tt92<|zA @tt94<|zA ti3.eq_1<|zA ti4.eq_1<|zA ti24.eq_1<|zA ti25.eq_1<|zA ti36.eq_1<|zA ti58.eq_1<|zA ti90.eq_1<|zA ti91.eq_1<|zA ti92.eq_1<|zA ti94.eq_1<|zA @t_37<|zA @t_65<|zA @t_69<|zA @K0w<|zA @K0e<|zA @Q0f<|zA @zsl24<|zA @zsl58<|zA @zsl91<|@zsl92;exact zQ): A:=h▸k
theorem c45: Con C 45 R45:=by
 refine V0e C ?_ ?_ ?_
 ·rintro args p r r' ⟨x,h,e⟩ ⟨x',h',e'⟩
  subst e;subst e';simp_all[V0a.inj_iff,Q0a.inj_iff,Y0a.inj_iff,Z1n,sl_inj58,Y0k,Y0i]
 ·rintro args p r ⟨x,h,rfl⟩;exact zr1
 rintro args p r ⟨x,rfl,rfl⟩
 refine zW C false [(37,R37),(65,R65),(69,R69)] ⟨c37,c65,c69,zT⟩ rfl xf45 zc45_ok fun call zh hF=>?_
 have t_37:=@t37 _ zh.1
 have t_65:=@t65 _ zh.2.1
 have t_69:=@t69 _ zh.2.2.1
 clear zh
 obtain⟨F,hFe⟩:∃F,F=filledP x:=⟨_,rfl⟩
 have hpo:packetOf x=bendP x F:=by rw[packetOf,hFe]
 have hw:=Q1h (x.Bend.tdiv 40)
 have hwe:w64 (x.Bend.tdiv 40)=IntKind.i64.wrap (x.Bend.tdiv 40):=rfl
 have hk40:=X0m (n:=x.Bend) (m:=40) (by omega)
 have hk10:=X0m (n:=w64 (x.Bend.tdiv 40)) (m:=10) (by omega)
 rw[hwe]at hk10
 have main:∀ρ q,K45 x F p ρ q->W C false noExt call (ZC.seq (ZC.seq Z05 (ZC.block 5 (ZC.seq V05 (ZC.cond (Tm 116) Y06 (ZC.seq Y07 (ZC.cond (Tm 124) Q06 (ZC.seq Z07 (ZC.cond (Tm 129) Q07 (ZC.seq V08 (ZC.cond (Tm 134) K08 (ZC.seq K04 (ZC.cond (Tm 139) K07 (ZC.seq X06 (ZC.cond (Tm 144) Z03 (ZC.seq Q04 (ZC.cond (Tm 149) K06 (ZC.seq Z04 (ZC.cond (Tm 156) Q08 (ZC.seq Y04 (ZC.cond (Tm 168) Z06 (ZC.seq Q0y (ZC.cond (Tm 173) Y0x ZC.skip)))))))))))))))))))))) (ZC.seq Z0x ZC.ret)) ρ q (endQ C (xfOf Try.f45).rs fun r'=>ShrR p r' (.ret (packetOf x).cv p)):=by
  rintro ρ q ⟨e1,e2,e3,A,R,g1,g2,g3,hA,hA16,happ,hR,hn,hle⟩
  have hfin:∀y:Q0a,y.Inputs=F.Inputs->y.Rows=F.Rows->CV.weak (fun k=>k) p.n (Q0a.cv {y with Inputs:=A,Rows:=R}) y.cv:=fun y h1 h2=>by
   have:=V0p (n:=p.n) (x:=y) (I1:=A) (I2:=lstP A.l) (R1:=R) (R2:=F.Rows) happ.weakI hR
   rw[<- hA,<- h1,<- h2]at this
   exact this
  rw[hpo]
  by_cases b0:pick x.Bend 40=30
  ·have hb:bendP x F={F with Kind:=pick (w64 (x.Bend.tdiv 40)) 10-1}:=by simp only[bendP,b0,if_true,if_false]
   rw[hb,hwe]
   (have zx:=zA e1 (zA e2 (zA e3 (zA g1 (zA g2 (zA g3 b0)))));refine zq45 ?_;try exact zT)
   repeat'(apply zK.s<;>intro hc<;>(try simp only[zhd]at hc)<;>(try have hw:=K0a hc)<;>(refine zq45 ?_;try exact zT))
   all_goals(try clear zx)
   exact V0c hF (fun k o h=>by have hd:=hF.dom _ _ h;have hq:=hle k o h;simp (disch:=first|exact zdl|fail) only[zheap];exact hq) (hfin {F with Kind:=pick (w64 (x.Bend.tdiv 40)) 10-1} rfl rfl)
  ·skip
   by_cases b1:pick x.Bend 40=31
   ·have hb:bendP x F={F with Seq:=x.Seq}:=by simp only[bendP,b0,b1,if_true,if_false,Int.reduceEq]
    rw[hb]
    (have zx:=zA e1 (zA e2 (zA e3 (zA g1 (zA g2 (zA g3 (zA b0 b1))))));refine zq45 ?_;try exact zT)
    repeat'(apply zK.s<;>intro hc<;>(try simp only[zhd]at hc)<;>(try have hw:=K0a hc)<;>(refine zq45 ?_;try exact zT))
    all_goals(try clear zx)
    exact V0c hF (fun k o h=>by have hd:=hF.dom _ _ h;have hq:=hle k o h;simp (disch:=first|exact zdl|fail) only[zheap];exact hq) (hfin {F with Seq:=x.Seq} rfl rfl)
   ·skip
    by_cases b2:pick x.Bend 40=32
    ·have hb:bendP x F={F with Got:=x.Got}:=by simp only[bendP,b0,b1,b2,if_true,if_false,Int.reduceEq]
     rw[hb]
     (have zx:=zA e1 (zA e2 (zA e3 (zA g1 (zA g2 (zA g3 (zA b0 (zA b1 b2)))))));refine zq45 ?_;try exact zT)
     repeat'(apply zK.s<;>intro hc<;>(try simp only[zhd]at hc)<;>(try have hw:=K0a hc)<;>(refine zq45 ?_;try exact zT))
     all_goals(try clear zx)
     exact V0c hF (fun k o h=>by have hd:=hF.dom _ _ h;have hq:=hle k o h;simp (disch:=first|exact zdl|fail) only[zheap];exact hq) (hfin {F with Got:=x.Got} rfl rfl)
    ·skip
     by_cases b3:pick x.Bend 40=33
     ·have hb:bendP x F={F with First:=x.First}:=by simp only[bendP,b0,b1,b2,b3,if_true,if_false,Int.reduceEq]
      rw[hb]
      (have zx:=zA e1 (zA e2 (zA e3 (zA g1 (zA g2 (zA g3 (zA b0 (zA b1 (zA b2 b3))))))));refine zq45 ?_;try exact zT)
      repeat'(apply zK.s<;>intro hc<;>(try simp only[zhd]at hc)<;>(try have hw:=K0a hc)<;>(refine zq45 ?_;try exact zT))
      all_goals(try clear zx)
      exact V0c hF (fun k o h=>by have hd:=hF.dom _ _ h;have hq:=hle k o h;simp (disch:=first|exact zdl|fail) only[zheap];exact hq) (hfin {F with First:=x.First} rfl rfl)
     ·skip
      by_cases b4:pick x.Bend 40=34
      ·have hb:bendP x F={F with Frame:=x.Frame}:=by simp only[bendP,b0,b1,b2,b3,b4,if_true,if_false,Int.reduceEq]
       rw[hb]
       (have zx:=zA e1 (zA e2 (zA e3 (zA g1 (zA g2 (zA g3 (zA b0 (zA b1 (zA b2 (zA b3 b4)))))))));refine zq45 ?_;try exact zT)
       repeat'(apply zK.s<;>intro hc<;>(try simp only[zhd]at hc)<;>(try have hw:=K0a hc)<;>(refine zq45 ?_;try exact zT))
       all_goals(try clear zx)
       exact V0c hF (fun k o h=>by have hd:=hF.dom _ _ h;have hq:=hle k o h;simp (disch:=first|exact zdl|fail) only[zheap];exact hq) (hfin {F with Frame:=x.Frame} rfl rfl)
      ·skip
       by_cases b5:pick x.Bend 40=35
       ·have hb:bendP x F={F with Mark:=x.Mark}:=by simp only[bendP,b0,b1,b2,b3,b4,b5,if_true,if_false,Int.reduceEq]
        rw[hb]
        (have zx:=zA e1 (zA e2 (zA e3 (zA g1 (zA g2 (zA g3 (zA b0 (zA b1 (zA b2 (zA b3 (zA b4 b5))))))))));refine zq45 ?_;try exact zT)
        repeat'(apply zK.s<;>intro hc<;>(try simp only[zhd]at hc)<;>(try have hw:=K0a hc)<;>(refine zq45 ?_;try exact zT))
        all_goals(try clear zx)
        exact V0c hF (fun k o h=>by have hd:=hF.dom _ _ h;have hq:=hle k o h;simp (disch:=first|exact zdl|fail) only[zheap];exact hq) (hfin {F with Mark:=x.Mark} rfl rfl)
       ·skip
        by_cases b6:pick x.Bend 40=36
        ·have hb:bendP x F={F with Players:=pick (w64 (x.Bend.tdiv 40)) 12}:=by simp only[bendP,b0,b1,b2,b3,b4,b5,b6,if_true,if_false,Int.reduceEq]
         rw[hb,hwe]
         (have zx:=zA e1 (zA e2 (zA e3 (zA g1 (zA g2 (zA g3 (zA b0 (zA b1 (zA b2 (zA b3 (zA b4 (zA b5 b6)))))))))));refine zq45 ?_;try exact zT)
         repeat'(apply zK.s<;>intro hc<;>(try simp only[zhd]at hc)<;>(try have hw:=K0a hc)<;>(refine zq45 ?_;try exact zT))
         all_goals(try clear zx)
         exact V0c hF (fun k o h=>by have hd:=hF.dom _ _ h;have hq:=hle k o h;simp (disch:=first|exact zdl|fail) only[zheap];exact hq) (hfin {F with Players:=pick (w64 (x.Bend.tdiv 40)) 12} rfl rfl)
        ·skip
         by_cases b7:pick x.Bend 40=37
         ·have hb:bendP x F={F with Inputs:=lstP (F.Inputs.l++[⟨x.Got,x.First,0⟩])}:=by simp only[bendP,b0,b1,b2,b3,b4,b5,b6,b7,if_true,if_false,Int.reduceEq]
          rw[hb]
          have hAl:F.Inputs.l=A.l:=by rw[hA,Q0u]
          rw[hAl]
          obtain⟨tl,al,ok⟩:=A
          simp only at hA16
          rcases happ with ht|⟨j1,ht,hj1,hj2,hj3,hj4⟩
          ·simp only at ht
           subst ht
           (have zx:=zA e1 (zA e2 (zA e3 (zA g1 (zA g2 (zA g3 (zA b0 (zA b1 (zA b2 (zA b3 (zA b4 (zA b5 (zA b6 b7))))))))))));refine zq45 ?_;try exact zT)
           repeat'(apply zK.s<;>intro hc<;>(try simp only[zhd]at hc)<;>(try have hw:=K0a hc)<;>(refine zq45 ?_;try exact zT))
           all_goals(try clear zx)
           refine V0c hF (fun k o h=>by have hd:=hF.dom _ _ h;have hq:=hle k o h;simp (disch:=first|exact zdl|fail) only[zheap];exact hq) ?_
           exact V0p (x:={F with Inputs:=⟨.nil,[],fun _=>rfl⟩}) (AppT.weak (.inr ⟨⟨_,rfl⟩,by simp⟩) _ (CV.weakL_refl _ fun j hj=>(Z0h (f:=Y0a.cv) Y0a.nohas _ j hj).elim)) hR
          ·simp only at ht hj3 hj4
           subst ht
           (have zx:=zA e1 (zA e2 (zA e3 (zA g1 (zA g2 (zA g3 (zA b0 (zA b1 (zA b2 (zA b3 (zA b4 (zA b5 (zA b6 (zA b7 (zA hj3 hj4))))))))))))));refine zq45 ?_;try exact zT)
           repeat'(apply zK.s<;>intro hc<;>(try simp only[zhd]at hc)<;>(try have hw:=K0a hc)<;>(refine zq45 ?_;try exact zT))
           all_goals(try clear zx)
           refine V0c hF (fun k o h=>by have hd:=hF.dom _ _ h;have hq:=hle k o h;simp (disch:=first|exact zdl|fail) only[zheap];exact hq) ?_
           exact V0p (x:={F with Inputs:=⟨.nil,[],fun _=>rfl⟩}) (AppT.weak (.inr ⟨⟨_,rfl⟩,by simp⟩) _ (CV.weakL_refl _ fun j hj=>(Z0h (f:=Y0a.cv) Y0a.nohas _ j hj).elim)) hR
         ·skip
          by_cases b8:pick x.Bend 40=38
          ·have hb:bendP x F={F with Last:=x.Last}:=by simp only[bendP,b0,b1,b2,b3,b4,b5,b6,b7,b8,if_true,if_false,Int.reduceEq]
           rw[hb]
           (have zx:=zA e1 (zA e2 (zA e3 (zA g1 (zA g2 (zA g3 (zA b0 (zA b1 (zA b2 (zA b3 (zA b4 (zA b5 (zA b6 (zA b7 b8)))))))))))));refine zq45 ?_;try exact zT)
           repeat'(apply zK.s<;>intro hc<;>(try simp only[zhd]at hc)<;>(try have hw:=K0a hc)<;>(refine zq45 ?_;try exact zT))
           all_goals(try clear zx)
           exact V0c hF (fun k o h=>by have hd:=hF.dom _ _ h;have hq:=hle k o h;simp (disch:=first|exact zdl|fail) only[zheap];exact hq) (hfin {F with Last:=x.Last} rfl rfl)
          ·skip
           by_cases b9:pick x.Bend 40=39
           ·have hb:bendP x F={F with Slot:=x.Slot}:=by simp only[bendP,b0,b1,b2,b3,b4,b5,b6,b7,b8,b9,if_true,if_false,Int.reduceEq]
            rw[hb]
            (have zx:=zA e1 (zA e2 (zA e3 (zA g1 (zA g2 (zA g3 (zA b0 (zA b1 (zA b2 (zA b3 (zA b4 (zA b5 (zA b6 (zA b7 (zA b8 b9))))))))))))));refine zq45 ?_;try exact zT)
            repeat'(apply zK.s<;>intro hc<;>(try simp only[zhd]at hc)<;>(try have hw:=K0a hc)<;>(refine zq45 ?_;try exact zT))
            all_goals(try clear zx)
            exact V0c hF (fun k o h=>by have hd:=hF.dom _ _ h;have hq:=hle k o h;simp (disch:=first|exact zdl|fail) only[zheap];exact hq) (hfin {F with Slot:=x.Slot} rfl rfl)
           ·skip
            have hb:bendP x F=F:=by simp only[bendP,b0,b1,b2,b3,b4,b5,b6,b7,b8,b9,if_false]
            rw[hb]
            (have zx:=zA e1 (zA e2 (zA e3 (zA g1 (zA g2 (zA g3 (zA b0 (zA b1 (zA b2 (zA b3 (zA b4 (zA b5 (zA b6 (zA b7 (zA b8 b9))))))))))))));refine zq45 ?_;try exact zT)
            repeat'(apply zK.s<;>intro hc<;>(try simp only[zhd]at hc)<;>(try have hw:=K0a hc)<;>(refine zq45 ?_;try exact zT))
            all_goals(try clear zx)
            exact V0c hF (fun k o h=>by have hd:=hF.dom _ _ h;have hq:=hle k o h;simp (disch:=first|exact zdl|fail) only[zheap];exact hq) (hfin F rfl rfl)
 have main2:∀ρ q,K45b x p ρ q->W C false noExt call (ZC.seq (ZC.seq Y1w (ZC.block 0 (ZC.seq Q1x (ZC.cond (Tm 30) (ZC.seq V12 (ZC.seq V1q (ZC.seq X1w (ZC.block 1 (ZC.loop V04))))) (ZC.seq K1u (ZC.cond (Tm 68) (ZC.seq V1z (ZC.seq Q1t (ZC.seq Z1x (ZC.block 3 (ZC.loop X07))))) (ZC.seq V1p (ZC.cond (Tm 103) (ZC.seq K1q K1x) ZC.skip)))))))) (ZC.seq (ZC.seq Z05 (ZC.block 5 (ZC.seq V05 (ZC.cond (Tm 116) Y06 (ZC.seq Y07 (ZC.cond (Tm 124) Q06 (ZC.seq Z07 (ZC.cond (Tm 129) Q07 (ZC.seq V08 (ZC.cond (Tm 134) K08 (ZC.seq K04 (ZC.cond (Tm 139) K07 (ZC.seq X06 (ZC.cond (Tm 144) Z03 (ZC.seq Q04 (ZC.cond (Tm 149) K06 (ZC.seq Z04 (ZC.cond (Tm 156) Q08 (ZC.seq Y04 (ZC.cond (Tm 168) Z06 (ZC.seq Q0y (ZC.cond (Tm 173) Y0x ZC.skip)))))))))))))))))))))) (ZC.seq Z0x ZC.ret))) ρ q (endQ C (xfOf Try.f45).rs fun r'=>ShrR p r' (.ret (packetOf x).cv p)):=by
  rintro ρ q ⟨e1,e2,e3,g1,g2,g3,hn,hle⟩
  obtain⟨R,hRR⟩:∃R,R=(ZC.seq (ZC.seq Z05 (ZC.block 5 (ZC.seq V05 (ZC.cond (Tm 116) Y06 (ZC.seq Y07 (ZC.cond (Tm 124) Q06 (ZC.seq Z07 (ZC.cond (Tm 129) Q07 (ZC.seq V08 (ZC.cond (Tm 134) K08 (ZC.seq K04 (ZC.cond (Tm 139) K07 (ZC.seq X06 (ZC.cond (Tm 144) Z03 (ZC.seq Q04 (ZC.cond (Tm 149) K06 (ZC.seq Z04 (ZC.cond (Tm 156) Q08 (ZC.seq Y04 (ZC.cond (Tm 168) Z06 (ZC.seq Q0y (ZC.cond (Tm 173) Y0x ZC.skip)))))))))))))))))))))) (ZC.seq Z0x ZC.ret)):=⟨_,rfl⟩
  rw[<- hRR]at main ⊢
  clear hRR
  have hk6:=X0m (n:=x.Kind) (m:=6) (by omega)
  have hp8:=X0m (n:=x.Players) (m:=8) (by omega)
  have hbk:(baseP x).Kind=1+pick x.Kind 6:=rfl
  by_cases k2:1+pick x.Kind 6=2
  ·obtain⟨F0,hF0⟩:∃F0,F0=({baseP x with Kind:=2,Got:=pick x.Got 40,First:=pick x.First 40}:Q0a):=⟨_,rfl⟩
   have hFf:F={F0 with Inputs:=lstP (insOf x.Inputs.l)}:=by
    rw[hFe,filledP,if_pos k2,hF0]
    apply Q0a.ext'<;>first|rfl|exact k2
   (have zx:=zA e1 (zA e2 (zA e3 (zA g1 (zA g2 (zA g3 (zA hbk k2))))));refine zq45 ?_;try exact zT)
   repeat'(apply zK.s<;>intro hc<;>(try simp only[zhd]at hc)<;>(try have hw:=K0a hc)<;>(refine zq45 ?_;try exact zT))
   all_goals(try clear zx)
   (show W C false noExt call (ZC.loop V04) _ _ _);refine Y0g C false noExt call V04 _ _ _ (J45 x F0 p) 16 ⟨0,⟨.nil,[],fun _=>rfl⟩,rfl,by omega,by omega,zev,zev,zev,zev,rfl,rfl,.inl rfl,zg9,zg9,?_,zdl,(fun k o h=>by have hd:=hF.dom _ _ h;have hq:=hle k o h;simp (disch:=first|exact zdl|fail) only[zheap];exact hq)⟩ ?_
   ·rw[hF0];simp (disch:=first|exact zdl|fail) only[zheap]<;>rfl
   clear e1 e2 e3 g1 g2 g3 hn hle
   rintro n ρ q ⟨m,A,rfl,hm16,hml,e1,e2,e3,e4,hAl,hAn,happ,g1,g2,g3,hn,hle⟩
   have hend:m=min 16 x.Inputs.l.length->∀ρ',ρ' 1=.ptr p.n []->ρ' 2=.ptr (p.n+1) []->ρ' 3=.ptr (p.n+15) []->K45 x F p ρ' q:=fun hm ρ' e1 e2 e3=>by
    have hins:insOf x.Inputs.l=A.l:=by
     rw[hAl,insOf]
     congr 1
     rcases Nat.le_total 16 x.Inputs.l.length with h|h
     ·congr 1;omega
     ·rw[List.take_of_length_le h,List.take_of_length_le (by omega)]
    refine⟨e1,e2,e3,A,F0.Rows,g1,g2,?_,by rw[hFf,hins],by omega,happ,?_,hn,hle⟩
    ·rw[g3,hFf]
    ·rw[hFf,hF0];exact V0d (K0c (nilHas _))
   by_cases hlt:(m:Int)<x.Inputs.l.length
   ·by_cases h16:(m:Int)<16
    ·have hw3:=Q1h ((nth x.Inputs.l m).tdiv 3)
     have hw4:w64 ((nth x.Inputs.l m).tdiv 3)=IntKind.i64.wrap ((nth x.Inputs.l m).tdiv 3):=rfl
     obtain⟨tl,al,ok⟩:=A
     simp only at hAl hAn
     rcases happ with ht|⟨j1,ht,hj1,hj2,hj3,hj4⟩
     ·simp only at ht
      subst ht
      (have zx:=zA e1 (zA e2 (zA e3 (zA e4 (zA g1 (zA g2 (zA g3 (zA hlt h16)))))));refine zq45 ?_;try exact zT)
      repeat'(apply zK.s<;>intro hc<;>(try simp only[zhd]at hc)<;>(try have hw:=K0a hc)<;>(refine zq45 ?_;try exact zT))
      all_goals(try clear zx)
      refine⟨16-(m+1),by omega,m+1,⟨.own (q.n+18),al++[handInput (nth x.Inputs.l m) (w64 ((nth x.Inputs.l m).tdiv 3))],nofun⟩,rfl,by omega,by omega,zev,zev,zev,zev,by rw[K0m (by omega),List.map_append,<- hAl];rfl,by simp[hAn],.inr ⟨(q.n+18),rfl,zdl,zdl,by simp (disch:=first|exact zdl|fail) only[zheap];simp[hAn],by simp⟩,zg9,zg9,by simp (disch:=first|exact zdl|fail) only[zheap]<;>rfl,zdl,(fun k o h=>by have hd:=hF.dom _ _ h;have hq:=hle k o h;simp (disch:=first|exact zdl|fail) only[zheap];exact hq)⟩
     ·simp only at ht hj3 hj4
      subst ht
      (have zx:=zA e1 (zA e2 (zA e3 (zA e4 (zA g1 (zA g2 (zA g3 (zA hlt (zA h16 (zA hj3 hj4)))))))));refine zq45 ?_;try exact zT)
      repeat'(apply zK.s<;>intro hc<;>(try simp only[zhd]at hc)<;>(try have hw:=K0a hc)<;>(refine zq45 ?_;try exact zT))
      all_goals(try clear zx)
      refine⟨16-(m+1),by omega,m+1,⟨.own (q.n+18),al++[handInput (nth x.Inputs.l m) (w64 ((nth x.Inputs.l m).tdiv 3))],nofun⟩,rfl,by omega,by omega,zev,zev,zev,zev,by rw[K0m (by omega),List.map_append,<- hAl];rfl,by simp[hAn],.inr ⟨(q.n+18),rfl,zdl,zdl,by simp (disch:=first|exact zdl|fail) only[zheap];simp[hAn],by simp⟩,zg9,zg9,by simp (disch:=first|exact zdl|fail) only[zheap]<;>rfl,zdl,(fun k o h=>by have hd:=hF.dom _ _ h;have hq:=hle k o h;simp (disch:=first|exact zdl|fail) only[zheap];exact hq)⟩
    ·(have zx:=zA e1 (zA e2 (zA e3 (zA e4 (zA g1 (zA g2 (zA g3 (zA hlt h16)))))));refine zq45 ?_;try exact zT)
     repeat'(apply zK.s<;>intro hc<;>(try simp only[zhd]at hc)<;>(try have hw:=K0a hc)<;>(refine zq45 ?_;try exact zT))
     all_goals(try clear zx)
     exact main _ _ (hend (by omega) _ (zev) (zev) (zev))
   ·(have zx:=zA e1 (zA e2 (zA e3 (zA e4 (zA g1 (zA g2 (zA g3 hlt))))));refine zq45 ?_;try exact zT)
    repeat'(apply zK.s<;>intro hc<;>(try simp only[zhd]at hc)<;>(try have hw:=K0a hc)<;>(refine zq45 ?_;try exact zT))
    all_goals(try clear zx)
    exact main _ _ (hend (by omega) _ (zev) (zev) (zev))
  ·by_cases k3:1+pick x.Kind 6=3
   ·obtain⟨F0,hF0⟩:∃F0,F0=({baseP x with Kind:=3,Players:=1+pick x.Players 8,First:=pick x.First 40}:Q0a):=⟨_,rfl⟩
    have hFf:F={F0 with Rows:=lstP (rows8 (1+pick x.Players 8) x.Rows.l)}:=by
     rw[hFe,filledP,if_neg k2,if_pos k3,hF0]
     apply Q0a.ext'<;>first|rfl|exact k3
    have hpl:F0.Players=1+pick x.Players 8:=by rw[hF0]
    (have zx:=zA e1 (zA e2 (zA e3 (zA g1 (zA g2 (zA g3 (zA hbk (zA k2 k3)))))));refine zq45 ?_;try exact zT)
    repeat'(apply zK.s<;>intro hc<;>(try simp only[zhd]at hc)<;>(try have hw:=K0a hc)<;>(refine zq45 ?_;try exact zT))
    all_goals(try clear zx)
    (show W C false noExt call (ZC.loop X07) _ _ _);refine Y0g C false noExt call X07 _ _ _ (L45 x F0 (1+pick x.Players 8) p) 8 ⟨0,⟨.nil,[],fun _=>rfl⟩,rfl,by omega,by omega,zev,zev,zev,zev,rfl,rfl,.inl rfl,zg9,zg9,?_,zdl,(fun k o h=>by have hd:=hF.dom _ _ h;have hq:=hle k o h;simp (disch:=first|exact zdl|fail) only[zheap];exact hq)⟩ ?_
    ·rw[hF0];simp (disch:=first|exact zdl|fail) only[zheap]<;>rfl
    clear e1 e2 e3 g1 g2 g3 hn hle
    rintro n ρ q ⟨m,A,rfl,hm8,hml,e1,e2,e3,e5,hAl,hAn,happ,g1,g2,g3,hn,hle⟩
    have hend:m=min 8 x.Rows.l.length->∀ρ',ρ' 1=.ptr p.n []->ρ' 2=.ptr (p.n+1) []->ρ' 3=.ptr (p.n+15) []->K45 x F p ρ' q:=fun hm ρ' e1 e2 e3=>by
     have hins:rows8 (1+pick x.Players 8) x.Rows.l=A.l:=by
      rw[hAl,rows8]
      congr 1
      rcases Nat.le_total 8 x.Rows.l.length with h|h
      ·congr 1;omega
      ·rw[List.take_of_length_le h,List.take_of_length_le (by omega)]
     refine⟨e1,e2,e3,⟨.nil,[],fun _=>rfl⟩,A,g1,g2,?_,by rw[hFf,hF0];rfl,by simp,.inl rfl,?_,hn,hle⟩
     ·rw[g3,hFf,hF0];rfl
     ·rw[hFf,hins]
      exact happ.T.weak _ (CV.weakL_refl _ fun j hj=>by rw[hAl]at hj;exact(rowL_no _ _ j hj).elim)
    by_cases hlt:(m:Int)<x.Rows.l.length
    ·by_cases h8:(m:Int)<8
     ·have hrl:Lst.cv X0a.cv ⟨.part,rowOf (1+pick x.Players 8) (nth x.Rows.l m).l,nofun⟩=Lst.cv X0a.cv (rowL (1+pick x.Players 8) (nth x.Rows.l m)):=rfl
      obtain⟨tl,al,ok⟩:=A
      simp only at hAl hAn
      rcases happ with ht|⟨j1,ht,hj1,hj2,hj3,hj4⟩
      ·simp only at ht
       subst ht
       (have zx:=zA e1 (zA e2 (zA e3 (zA e5 (zA g1 (zA g2 (zA g3 (zA hlt (zA h8 hpl))))))));refine zq45 ?_;try exact zT)
       repeat'(apply zK.s<;>intro hc<;>(try simp only[zhd]at hc)<;>(try have hw:=K0a hc)<;>(refine zq45 ?_;try exact zT))
       all_goals(try clear zx)
       refine⟨8-(m+1),by omega,m+1,⟨.own (q.n+14),al++[rowL (1+pick x.Players 8) (nth x.Rows.l m)],nofun⟩,rfl,by omega,by omega,zev,zev,zev,zev,by rw[K0m (by omega),List.map_append,<- hAl];rfl,by simp[hAn],.inr ⟨(q.n+14),rfl,zdl,zdl,by simp (disch:=first|exact zdl|fail) only[zheap];simp[hAn],by simp⟩,zg9,zg9,by simp (disch:=first|exact zdl|fail) only[zheap,hpl]<;>rfl,zdl,(fun k o h=>by have hd:=hF.dom _ _ h;have hq:=hle k o h;simp (disch:=first|exact zdl|fail) only[zheap];exact hq)⟩
      ·simp only at ht hj3 hj4
       subst ht
       (have zx:=zA e1 (zA e2 (zA e3 (zA e5 (zA g1 (zA g2 (zA g3 (zA hlt (zA h8 (zA hpl (zA hj3 hj4))))))))));refine zq45 ?_;try exact zT)
       repeat'(apply zK.s<;>intro hc<;>(try simp only[zhd]at hc)<;>(try have hw:=K0a hc)<;>(refine zq45 ?_;try exact zT))
       all_goals(try clear zx)
       refine⟨8-(m+1),by omega,m+1,⟨.own (q.n+14),al++[rowL (1+pick x.Players 8) (nth x.Rows.l m)],nofun⟩,rfl,by omega,by omega,zev,zev,zev,zev,by rw[K0m (by omega),List.map_append,<- hAl];rfl,by simp[hAn],.inr ⟨(q.n+14),rfl,zdl,zdl,by simp (disch:=first|exact zdl|fail) only[zheap];simp[hAn],by simp⟩,zg9,zg9,by simp (disch:=first|exact zdl|fail) only[zheap,hpl]<;>rfl,zdl,(fun k o h=>by have hd:=hF.dom _ _ h;have hq:=hle k o h;simp (disch:=first|exact zdl|fail) only[zheap];exact hq)⟩
     ·(have zx:=zA e1 (zA e2 (zA e3 (zA e5 (zA g1 (zA g2 (zA g3 (zA hlt h8)))))));refine zq45 ?_;try exact zT)
      repeat'(apply zK.s<;>intro hc<;>(try simp only[zhd]at hc)<;>(try have hw:=K0a hc)<;>(refine zq45 ?_;try exact zT))
      all_goals(try clear zx)
      exact main _ _ (hend (by omega) _ (zev) (zev) (zev))
    ·(have zx:=zA e1 (zA e2 (zA e3 (zA e5 (zA g1 (zA g2 (zA g3 hlt))))));refine zq45 ?_;try exact zT)
     repeat'(apply zK.s<;>intro hc<;>(try simp only[zhd]at hc)<;>(try have hw:=K0a hc)<;>(refine zq45 ?_;try exact zT))
     all_goals(try clear zx)
     exact main _ _ (hend (by omega) _ (zev) (zev) (zev))
   ·by_cases k4:1+pick x.Kind 6=4
    ·have hFf:F={baseP x with Frame:=pick x.Frame 60,Mark:=pick x.Mark 4611686018427387904}:=by rw[hFe,filledP,if_neg k2,if_neg k3,if_pos k4]
     (have zx:=zA e1 (zA e2 (zA e3 (zA g1 (zA g2 (zA g3 (zA hbk (zA k2 (zA k3 k4))))))));refine zq45 ?_;try exact zT)
     repeat'(apply zK.s<;>intro hc<;>(try simp only[zhd]at hc)<;>(try have hw:=K0a hc)<;>(refine zq45 ?_;try exact zT))
     all_goals(try clear zx)
     refine main _ _ ⟨zev,zev,zev,⟨.nil,[],fun _=>rfl⟩,⟨.nil,[],fun _=>rfl⟩,zg9,zg9,?_,by rw[hFf];rfl,by simp,.inl rfl,by rw[hFf];exact V0d (K0c (nilHas _)),zdl,(fun k o h=>by have hd:=hF.dom _ _ h;have hq:=hle k o h;simp (disch:=first|exact zdl|fail) only[zheap];exact hq)⟩
     rw[hFf]
     simp (disch:=first|exact zdl|fail) only[zheap,hbk,k4]<;>rfl
    ·have hFf:F=baseP x:=by rw[hFe,filledP,if_neg k2,if_neg k3,if_neg k4]
     (have zx:=zA e1 (zA e2 (zA e3 (zA g1 (zA g2 (zA g3 (zA hbk (zA k2 (zA k3 k4))))))));refine zq45 ?_;try exact zT)
     repeat'(apply zK.s<;>intro hc<;>(try simp only[zhd]at hc)<;>(try have hw:=K0a hc)<;>(refine zq45 ?_;try exact zT))
     all_goals(try clear zx)
     exact main _ _ ⟨zev,zev,zev,⟨.nil,[],fun _=>rfl⟩,⟨.nil,[],fun _=>rfl⟩,g1,g2,by rw[g3,hFf];rfl,by rw[hFf];rfl,by simp,.inl rfl,by rw[hFf];exact V0d (K0c (nilHas _)),hn,hle⟩
 clear main
 show W C false noExt call (ZC.seq zn45_1 (ZC.seq zn45_3 (ZC.seq (ZC.seq zn45_6 (ZC.cond (Tm 20) (ZC.seq zn45_9 zn45_10) ZC.skip)) (ZC.seq (ZC.seq Y1w (ZC.block 0 (ZC.seq Q1x (ZC.cond (Tm 30) (ZC.seq V12 (ZC.seq V1q (ZC.seq X1w (ZC.block 1 (ZC.loop V04))))) (ZC.seq K1u (ZC.cond (Tm 68) (ZC.seq V1z (ZC.seq Q1t (ZC.seq Z1x (ZC.block 3 (ZC.loop X07))))) (ZC.seq V1p (ZC.cond (Tm 103) (ZC.seq K1q K1x) ZC.skip)))))))) (ZC.seq (ZC.seq Z05 (ZC.block 5 (ZC.seq V05 (ZC.cond (Tm 116) Y06 (ZC.seq Y07 (ZC.cond (Tm 124) Q06 (ZC.seq Z07 (ZC.cond (Tm 129) Q07 (ZC.seq V08 (ZC.cond (Tm 134) K08 (ZC.seq K04 (ZC.cond (Tm 139) K07 (ZC.seq X06 (ZC.cond (Tm 144) Z03 (ZC.seq Q04 (ZC.cond (Tm 149) K06 (ZC.seq Z04 (ZC.cond (Tm 156) Q08 (ZC.seq Y04 (ZC.cond (Tm 168) Z06 (ZC.seq Q0y (ZC.cond (Tm 173) Y0x ZC.skip)))))))))))))))))))))) (ZC.seq Z0x ZC.ret)))))) _ _ _
 obtain⟨R,hRR⟩:∃R,R=ZC.seq (ZC.seq Y1w (ZC.block 0 (ZC.seq Q1x (ZC.cond (Tm 30) (ZC.seq V12 (ZC.seq V1q (ZC.seq X1w (ZC.block 1 (ZC.loop V04))))) (ZC.seq K1u (ZC.cond (Tm 68) (ZC.seq V1z (ZC.seq Q1t (ZC.seq Z1x (ZC.block 3 (ZC.loop X07))))) (ZC.seq V1p (ZC.cond (Tm 103) (ZC.seq K1q K1x) ZC.skip)))))))) (ZC.seq (ZC.seq Z05 (ZC.block 5 (ZC.seq V05 (ZC.cond (Tm 116) Y06 (ZC.seq Y07 (ZC.cond (Tm 124) Q06 (ZC.seq Z07 (ZC.cond (Tm 129) Q07 (ZC.seq V08 (ZC.cond (Tm 134) K08 (ZC.seq K04 (ZC.cond (Tm 139) K07 (ZC.seq X06 (ZC.cond (Tm 144) Z03 (ZC.seq Q04 (ZC.cond (Tm 149) K06 (ZC.seq Z04 (ZC.cond (Tm 156) Q08 (ZC.seq Y04 (ZC.cond (Tm 168) Z06 (ZC.seq Q0y (ZC.cond (Tm 173) Y0x ZC.skip)))))))))))))))))))))) (ZC.seq Z0x ZC.ret)):=⟨_,rfl⟩
 rw[<- hRR]at main2 ⊢
 clear hRR
 have hk6:=X0m (n:=x.Kind) (m:=6) (by omega)
 cases hA:x.Any with
 |true=>
  (have zx:=hA;refine zq45 ?_;try exact zT)
  repeat'(apply zK.s<;>intro hc<;>(try simp only[zhd]at hc)<;>(try have hw:=K0a hc)<;>(refine zq45 ?_;try exact zT))
  all_goals(try clear zx)
  refine main2 _ _ ⟨zev,zev,zev,zg9,zg9,?_,zdl,(fun k o h=>by have hd:=hF.dom _ _ h;simp (disch:=first|exact zdl|fail) only[zheap];exact h)⟩
  simp (disch:=first|exact zdl|fail) only[zheap,baseP,hA,if_true]<;>rfl
 |false=>
  (have zx:=hA;refine zq45 ?_;try exact zT)
  repeat'(apply zK.s<;>intro hc<;>(try simp only[zhd]at hc)<;>(try have hw:=K0a hc)<;>(refine zq45 ?_;try exact zT))
  all_goals(try clear zx)
  refine main2 _ _ ⟨zev,zev,zev,zg9,zg9,?_,zdl,(fun k o h=>by have hd:=hF.dom _ _ h;simp (disch:=first|exact zdl|fail) only[zheap];exact h)⟩
  simp (disch:=first|exact zdl|fail) only[zheap,baseP,hA,Bool.false_eq_true,if_false]<;>rfl
end Go.Proofs.Ytpchcfkebljopaa
end
section
namespace Go.Proofs.Ytpchcfkebljopaa
open Go.Cl Go Go.RowKit
theorem bend_small(x:V0a)(b:Q0a): (bendP x b).Rows=b.Rows/\(bendP x b).Acks=b.Acks/\(bendP x b).Inputs.l.length<=b.Inputs.l.length+1:=by
 unfold bendP
 generalize pick x.Bend 40=k
 by_cases h:k=30
 ·rw[if_pos h];exact⟨rfl,rfl,Nat.le_succ _⟩
 rw[if_neg h];clear h
 by_cases h:k=31
 ·rw[if_pos h];exact⟨rfl,rfl,Nat.le_succ _⟩
 rw[if_neg h];clear h
 by_cases h:k=32
 ·rw[if_pos h];exact⟨rfl,rfl,Nat.le_succ _⟩
 rw[if_neg h];clear h
 by_cases h:k=33
 ·rw[if_pos h];exact⟨rfl,rfl,Nat.le_succ _⟩
 rw[if_neg h];clear h
 by_cases h:k=34
 ·rw[if_pos h];exact⟨rfl,rfl,Nat.le_succ _⟩
 rw[if_neg h];clear h
 by_cases h:k=35
 ·rw[if_pos h];exact⟨rfl,rfl,Nat.le_succ _⟩
 rw[if_neg h];clear h
 by_cases h:k=36
 ·rw[if_pos h];exact⟨rfl,rfl,Nat.le_succ _⟩
 rw[if_neg h];clear h
 by_cases h:k=37
 ·rw[if_pos h];exact⟨rfl,rfl,by simp only[Q0u,List.length_append,List.length_singleton];omega⟩
 rw[if_neg h];clear h
 by_cases h:k=38
 ·rw[if_pos h];exact⟨rfl,rfl,Nat.le_succ _⟩
 rw[if_neg h];clear h
 by_cases h:k=39
 ·rw[if_pos h];exact⟨rfl,rfl,Nat.le_succ _⟩
 rw[if_neg h];clear h
 exact⟨rfl,rfl,Nat.le_succ _⟩
theorem K15(x:V0a): (packetOf x).Inputs.l.length<=17/\(packetOf x).Rows.l.length<=8/\∀r∈(packetOf x).Rows.l,r.l.length<=8:=by
 have hp8:=X0m (n:=x.Players) (m:=8) (by omega)
 have h1:(filledP x).Inputs.l.length<=16/\(filledP x).Rows.l.length<=8/\∀r∈(filledP x).Rows.l,r.l.length<=8:=by
  unfold filledP
  split
  ·refine⟨by simp only[Q0u,insOf,List.length_map,List.length_take];omega,Nat.zero_le _,nofun⟩
  ·split
   ·refine⟨Nat.zero_le _,by simp only[Q0u,rows8,List.length_map,List.length_take];omega,fun r hr=>?_⟩
    simp only[Q0u,rows8]at hr
    obtain⟨y,_,rfl⟩:=List.mem_map.1 hr
    rw[rowL,rowOf_len];omega
   ·split<;>exact⟨Nat.zero_le _,Nat.zero_le _,nofun⟩
 obtain⟨i1,i2,i3⟩:=h1
 rw[packetOf]
 obtain⟨e1,_,e3⟩:=bend_small x (filledP x)
 exact⟨by omega,by rw[e1];exact i2,by rw[e1];exact i3⟩
theorem b2i_at(u:Int)(i:Nat): b2i (bitAt u i)=u/2^i % 2:=by
 have:u/2^i % 2=0\/u/2^i % 2=1:=by omega
 unfold bitAt b2i
 rcases this with h|h<;>simp[h]
theorem slot_val(b:List Int): valB (bitB b) 3 3=nth b 0/4 % 8:=by
 simp only[valB,bitB,b2i_at]
 show 2*(2*(2*0+nth b 0/2^4 % 2)+nth b 0/2^3 % 2)+nth b 0/2^2 % 2=nth b 0/4 % 8
 generalize nth b 0=u
 omega
end Go.Proofs.Ytpchcfkebljopaa
end
section
namespace Go.Proofs.Ytpchcfkebljopaa
open Go.Cl Go Go.RowKit
set_option maxRecDepth 100000
set_option linter.constructorNameAsVariable false
theorem packetOf_ok(x:V0a): packOk (packetOf x):=by
 obtain⟨h1,h2,h3⟩:=K15 x
 exact⟨by omega,by omega,fun r hr=>by have:=h3 r hr;omega⟩
end Go.Proofs.Ytpchcfkebljopaa
end
section
namespace Go.Proofs.Ytpchcfkebljopaa
open Go.Cl Go Go.RowKit
theorem rowsL_e{r:Lst (Lst X0a)}: rowsL r=[] ↔ r.l=[]:=⟨rowsL_nil,fun h=>by rw[rowsL,h];rfl⟩
theorem same_own(a:Q0a): sameP (ownP a) a=true ↔ (a.Kind=2\/(a.Got=0/\a.Inputs.l=[]))/\(a.Kind=2\/a.Kind=3\/a.First=0)/\(a.Kind=3\/(a.Players=0/\a.Rows.l=[]))/\(a.Kind=4\/(a.Frame=0/\a.Mark=0)):=by
 have hz:rowsL Q0a.zero.Rows=[]:=rfl
 have hz2:Q0a.zero.Inputs.l=[]:=rfl
 have z1:Q0a.zero.Got=0:=rfl
 have z2:Q0a.zero.First=0:=rfl
 have z3:Q0a.zero.Players=0:=rfl
 have z4:Q0a.zero.Frame=0:=rfl
 have z5:Q0a.zero.Mark=0:=rfl
 have er:([]=rowsL a.Rows) ↔ a.Rows.l=[]:=eq_comm.trans rowsL_e
 have ei:([]=a.Inputs.l) ↔ a.Inputs.l=[]:=eq_comm
 have e0:∀n:Int,(0=n) ↔ n=0:=fun n=>eq_comm
 by_cases h2:a.Kind=2
 ·have h3:¬a.Kind=3:=by omega
  have h4:¬a.Kind=4:=by omega
  simp only[sameP,ownP,if_pos h2,Bool.and_eq_true,decide_eq_true_eq,hz,hz2,z1,z2,z3,z4,z5,er,ei,e0,true_and,and_true]
  constructor
  ·rintro⟨⟨⟨h,i⟩,j⟩,k⟩;exact⟨.inl h2,.inl h2,.inr ⟨h,i⟩,.inr ⟨j,k⟩⟩
  ·rintro⟨_,_,r,k⟩;exact⟨⟨⟨(r.resolve_left h3).1,(r.resolve_left h3).2⟩,(k.resolve_left h4).1⟩,(k.resolve_left h4).2⟩
 ·by_cases h3:a.Kind=3
  ·have h4:¬a.Kind=4:=by omega
   simp only[sameP,ownP,if_neg h2,if_pos h3,Bool.and_eq_true,decide_eq_true_eq,hz,hz2,z1,z2,z3,z4,z5,er,ei,e0,true_and,and_true]
   constructor
   ·rintro⟨⟨⟨h,i⟩,j⟩,k⟩;exact⟨.inr ⟨h,i⟩,.inr (.inl h3),.inl h3,.inr ⟨j,k⟩⟩
   ·rintro⟨h,_,_,k⟩;exact⟨⟨⟨(h.resolve_left h2).1,(h.resolve_left h2).2⟩,(k.resolve_left h4).1⟩,(k.resolve_left h4).2⟩
  ·by_cases h4:a.Kind=4
   ·simp only[sameP,ownP,if_neg h2,if_neg h3,if_pos h4,Bool.and_eq_true,decide_eq_true_eq,hz,hz2,z1,z2,z3,z4,z5,er,ei,e0,true_and,and_true]
    constructor
    ·rintro⟨⟨⟨⟨h,i⟩,j⟩,k⟩,l⟩;exact⟨.inr ⟨h,j⟩,.inr (.inr i),.inr ⟨k,l⟩,.inl h4⟩
    ·rintro⟨h,f,r,_⟩;exact⟨⟨⟨⟨(h.resolve_left h2).1,(f.resolve_left h2).resolve_left h3⟩,(h.resolve_left h2).2⟩,(r.resolve_left h3).1⟩,(r.resolve_left h3).2⟩
   ·simp only[sameP,ownP,if_neg h2,if_neg h3,if_neg h4,Bool.and_eq_true,decide_eq_true_eq,hz,hz2,z1,z2,z3,z4,z5,er,ei,e0,true_and,and_true]
    constructor
    ·rintro⟨⟨⟨⟨⟨⟨h,i⟩,j⟩,k⟩,l⟩,m⟩,n⟩;exact⟨.inr ⟨h,j⟩,.inr (.inr i),.inr ⟨k,l⟩,.inr ⟨m,n⟩⟩
    ·rintro⟨h,f,r,k⟩;exact⟨⟨⟨⟨⟨⟨(h.resolve_left h2).1,(f.resolve_left h2).resolve_left h3⟩,(h.resolve_left h2).2⟩,(r.resolve_left h3).1⟩,(r.resolve_left h3).2⟩,(k.resolve_left h4).1⟩,(k.resolve_left h4).2⟩
structure RightP(a:Q0a): Prop where
 hd:headRight a=true
 ins:a.Kind=2\/(a.Got=0/\a.Inputs.l=[])
 first:a.Kind=2\/a.Kind=3\/a.First=0
 rows:a.Kind=3\/(a.Players=0/\a.Rows.l=[])
 frame:a.Kind=4\/(a.Frame=0/\a.Mark=0)
 wGot:within a.Got 0 600=true
 wFirst:within a.First 0 600=true
 wFrame:within a.Frame 0 600=true
 wMark:within a.Mark 0 4611686018427387903=true
 two:a.Kind=2->a.Inputs.l.length<=16/\a.Inputs.l.all inRight=true
 three:a.Kind=3->rowsRight a.Rows.l a.Players=true
theorem Z1e(a:Q0a): packRight a=true ↔ RightP a:=by
 constructor
 ·intro h
  obtain⟨hh,hs,hg,hf,hfr,hm⟩:=K0k h
  obtain⟨i,f,r,k⟩:=(same_own a).1 hs
  exact⟨hh,i,f,r,k,hg,hf,hfr,hm,X2i h,X2m h⟩
 ·intro h
  have hs:=(same_own a).2 ⟨h.ins,h.first,h.rows,h.frame⟩
  simp only[packRight,h.hd,hs,h.wGot,h.wFirst,h.wFrame,h.wMark,Bool.true_and]
  by_cases h2:a.Kind=2
  ·rw[if_pos h2,(h.two h2).2,decide_eq_true (h.two h2).1];rfl
  ·rw[if_neg h2]
   by_cases h3:a.Kind=3
   ·rw[if_pos h3,h.three h3]
   ·rw[if_neg h3]
end Go.Proofs.Ytpchcfkebljopaa
end
section
namespace Go.Proofs.Ytpchcfkebljopaa
open Go.Cl Go Go.RowKit
set_option maxRecDepth 100000
set_option linter.constructorNameAsVariable false
end Go.Proofs.Ytpchcfkebljopaa
end
section
namespace Go.Proofs.Ytpchcfkebljopaa
open Go.Cl Go Go.RowKit
def refRight(a:Q0a): Bool:=
 (if a.Kind=2 then within a.Got 0 600&&within a.First 0 600&&decide ((a.Inputs.l.length:Int)<=16)else if a.Kind=3 then within a.First 0 600&&rowsRight a.Rows.l a.Players else if a.Kind=4 then within a.Frame 0 600&&within a.Mark 0 4611686018427387903 else true)
 &&(decide (a.Kind=2) || decide (a.Got=0)&&decide ((a.Inputs.l.length:Int)=0))&&(decide (a.Kind=2) || decide (a.Kind=3) || decide (a.First=0))&&(decide (a.Kind=3) || decide (a.Players=0)&&decide ((a.Rows.l.length:Int)=0))&&(decide (a.Kind=4) || decide (a.Frame=0)&&decide (a.Mark=0))
theorem nil_len{α:Type}{l:List α}: ((l.length:Int)=0) ↔ l=[]:=by
 rw[<- List.length_eq_zero_iff];omega
theorem ref_right{a:Q0a}(hh:headRight a=true)(hi:a.Inputs.l.all inRight=true): packRight a=refRight a:=by
 rw[Bool.eq_iff_iff,Z1e]
 simp only[refRight,Bool.and_eq_true,Bool.or_eq_true,decide_eq_true_eq,nil_len]
 constructor
 ·intro h
  refine⟨⟨⟨⟨?_,h.ins⟩,or_assoc.2 h.first⟩,h.rows⟩,h.frame⟩
  split
  ·rename_i k;have:=h.two k;simp only[Bool.and_eq_true,decide_eq_true_eq];exact⟨⟨h.wGot,h.wFirst⟩,by omega⟩
  ·split
   ·rename_i k;simp only[Bool.and_eq_true];exact⟨h.wFirst,h.three k⟩
   ·split
    ·simp only[Bool.and_eq_true];exact⟨h.wFrame,h.wMark⟩
    ·rfl
 ·rintro⟨⟨⟨⟨hk,i⟩,f⟩,r⟩,fr⟩
  have z:within 0 0 600=true:=by decide
  have z2:within 0 0 4611686018427387903=true:=by decide
  by_cases k2:a.Kind=2
  ·rw[if_pos k2]at hk
   simp only[Bool.and_eq_true,decide_eq_true_eq]at hk
   have fr:=fr.resolve_left (by omega)
   exact⟨hh,i,or_assoc.1 f,r,.inr fr,hk.1.1,hk.1.2,by rw[fr.1];exact z,by rw[fr.2];exact z2,fun _=>⟨by omega,hi⟩,fun h=>by omega⟩
  ·rw[if_neg k2]at hk
   have i':=i.resolve_left k2
   by_cases k3:a.Kind=3
   ·rw[if_pos k3]at hk
    simp only[Bool.and_eq_true]at hk
    have fr:=fr.resolve_left (by omega)
    exact⟨hh,i,or_assoc.1 f,r,.inr fr,by rw[i'.1];exact z,hk.1,by rw[fr.1];exact z,by rw[fr.2];exact z2,fun h=>absurd h k2,fun _=>hk.2⟩
   ·rw[if_neg k3]at hk
    have f':=(or_assoc.1 f).resolve_left k2 |>.resolve_left k3
    by_cases k4:a.Kind=4
    ·rw[if_pos k4]at hk
     simp only[Bool.and_eq_true]at hk
     exact⟨hh,i,or_assoc.1 f,r,fr,by rw[i'.1];exact z,by rw[f'];exact z,hk.1,hk.2,fun h=>absurd h k2,fun h=>absurd h k3⟩
    ·have fr':=fr.resolve_left k4
     exact⟨hh,i,or_assoc.1 f,r,fr,by rw[i'.1];exact z,by rw[f'];exact z,by rw[fr'.1];exact z,by rw[fr'.2];exact z2,fun h=>absurd h k2,fun h=>absurd h k3⟩
theorem ref_bad{a:Q0a}(hi:a.Inputs.l.all inRight=false): packRight a=false:=by
 rw[Bool.eq_false_iff,ne_eq,Z1e]
 intro h
 rcases h.ins with k|k
 ·rw[(h.two k).2]at hi;cases hi
 ·rw[k.2]at hi;cases hi
theorem ref_head{a:Q0a}(hi:headRight a=false): packRight a=false:=by
 rw[Bool.eq_false_iff,ne_eq,Z1e]
 intro h
 rw[h.hd]at hi;cases hi
end Go.Proofs.Ytpchcfkebljopaa
end
section
namespace Go.Proofs.Ytpchcfkebljopaa
open Go.Cl Go Go.RowKit
set_option maxRecDepth 100000
set_option linter.constructorNameAsVariable false
def R124: Rel:=fun args p r=>∃(n lo hi:Int),args=[I n,I lo,I hi]/\r=.ret (Bo (within n lo hi)) p
theorem t124{T:XCall}(h:Has T 124 R124)(n lo hi:Int){p:Hp}:T 124 [I n,I lo,I hi] p=.ret (Bo (within n lo hi)) p:=h _ _ _ ⟨n,lo,hi,rfl,rfl⟩
theorem zq124{A B:Prop}(k:B)(h:A=B:=by have zy:=zA @zw124<|zA @rs124<|zA @tt3<|ti3.eq_1;exact zQ): A:=h▸k
theorem zno124{P:Prop}(h:P:=by intro jj;simp[CV.has,CV.hasL,fault,X0b.nohas]): P:=h
theorem c124: Con C 124 R124:=by
 refine V0e C ?_ ?_ ?_
 ·rintro args p r r' ⟨n,lo,hi,h,e⟩ ⟨n',lo',hi',h',e'⟩
  subst e;subst e';simp_all
 ·rintro args p r ⟨n,lo,hi,h,rfl⟩;exact zr1
 rintro args p r ⟨n,lo,hi,rfl,rfl⟩
 refine zW C false [] zT rfl xf124 zc124_ok fun call zh hF=>?_
 clear zh
 (have zx:=zT;refine zq124 ?_;try exact zT)
 repeat'(apply zK.s<;>intro hc<;>(try simp only[zhd]at hc)<;>(try have hw:=K0a hc)<;>(refine zq124 ?_;try exact zT))
 all_goals(try clear zx)
 all_goals refine V0c hF zle (Q0d ?_ (K0c zno124))
 all_goals simp[within,hc]
def R125: Rel:=fun args p r=>∃(x:Y0a),args=[x.cv]/\r=.ret (Bo (inRight x)) p
theorem t125{T:XCall}(h:Has T 125 R125)(x:Y0a){p:Hp}:T 125 [x.cv] p=.ret (Bo (inRight x)) p:=h _ _ _ ⟨x,rfl,rfl⟩
theorem zq125{A B:Prop}(k:B)(h:A=B:=by have zy:=zA @zw125<|zA @rs125<|zA @tt3<|zA @tt36<|zA ti3.eq_1<|zA ti36.eq_1<|zA @t_124<|@Q0f;exact zQ): A:=h▸k
theorem zno125{P:Prop}(h:P:=by intro jj;simp[CV.has,CV.hasL,fault,X0b.nohas,Y0a.nohas]): P:=h
theorem c125: Con C 125 R125:=by
 refine V0e C ?_ ?_ ?_
 ·rintro args p r r' ⟨x,h,e⟩ ⟨x',h',e'⟩
  subst e;subst e';simp_all[Y0a.inj_iff]
 ·rintro args p r ⟨x,h,rfl⟩;exact zr1
 rintro args p r ⟨x,rfl,rfl⟩
 refine zW C false [(124,R124)] ⟨c124,zT⟩ rfl xf125 zc125_ok fun call zh hF=>?_
 have t_124:=@t124 _ zh.1
 clear zh
 (have zx:=zT;refine zq125 ?_;try exact zT)
 repeat'(apply zK.s<;>intro hc<;>(try simp only[zhd]at hc)<;>(try have hw:=K0a hc)<;>(refine zq125 ?_;try exact zT))
 all_goals(try clear zx)
 all_goals refine V0c hF zle (Q0d ?_ (K0c zno125))
 all_goals simp_all[inRight]
theorem all_nth{α:Type}[Inhabited α]{f:α->Bool}{l:List α}(h:∀j,j<l.length->f (nth l j)=true): l.all f=true:=
 List.all_eq_true.2 fun x hx=>by
  obtain⟨j,hj,rfl⟩:=List.mem_iff_getElem.1 hx
  have:=h j hj
  rw[Y0h hj]at this;exact this
theorem all_no{α:Type}[Inhabited α]{f:α->Bool}{l:List α}{k:Nat}(hk:k<l.length)(h:f (nth l k)=false): l.all f=false:=by
 rw[Bool.eq_false_iff];intro e
 have:=List.all_eq_true.1 e _ (List.getElem_mem hk)
 rw[<- Y0h hk,h]at this;cases this
def J126(a:Q0a)(p:Hp)(n:Nat)(ρ:Env)(q:Hp): Prop:=
 ∃i:Nat,n=a.Rows.l.length-i/\i<=a.Rows.l.length/\ρ 1=.ptr p.n []/\ρ 3=I i/\(∀j,j<i->rowRight a.Players (nth a.Rows.l j)=true)/\q.t.get p.n=some (.var sh94 a.cv)/\p.n<q.n/\HpLe p q
def L126(a:Q0a)(i:Nat)(p:Hp)(n:Nat)(ρ:Env)(q:Hp): Prop:=
 ∃k:Nat,n=(nth a.Rows.l i).l.length-k/\k<=(nth a.Rows.l i).l.length/\ρ 1=.ptr p.n []/\ρ 3=I i/\ρ 4=I k/\(∀j,j<k->cellRight (nth (nth a.Rows.l i).l j)=true)/\q.t.get p.n=some (.var sh94 a.cv)/\p.n<q.n/\HpLe p q
def R126: Rel:=fun args p r=>∃(a:Q0a),args=[a.cv]/\(packOk a)/\r=.ret (Bo (rowsRight a.Rows.l a.Players)) p
theorem t126{T:XCall}(h:Has T 126 R126)(a:Q0a){p:Hp}(h1:packOk a): T 126 [a.cv] p=.ret (Bo (rowsRight a.Rows.l a.Players)) p:=h _ _ _ ⟨a,rfl,h1,rfl⟩
theorem zq126{A B:Prop}(k:B)(h:A=B:=by have zy:=zA @zw126<|zA @rs126<|zA @tt3<|zA @tt4<|zA @tt36<|zA @tt92<|zA @tt94<|zA @tt108<|zA @tt110<|zA ti3.eq_1<|zA ti4.eq_1<|zA ti36.eq_1<|zA ti92.eq_1<|zA ti94.eq_1<|zA ti108.eq_1<|zA ti110.eq_1<|zA @t_124<|zA @t_125<|zA @K0e<|zA @Y0f<|zA @Q0f<|zA @zsl92<|zA @zsl108<|@h1;exact zQ): A:=h▸k
theorem c126: Con C 126 R126:=by
 refine V0e C ?_ ?_ ?_
 ·rintro args p r r' ⟨a,h,h1,e⟩ ⟨a',h',h1',e'⟩
  subst e;subst e';simp_all[Q0a.inj_iff,X0a.inj_iff,Y0a.inj_iff,Y0i,Q0i]
 ·rintro args p r ⟨a,h,h1,rfl⟩;exact zr1
 rintro args p r ⟨a,rfl,h1,rfl⟩
 refine zW C false [(124,R124),(125,R125)] ⟨c124,c125,zT⟩ rfl xf126 zc126_ok fun call zh hF=>?_
 have t_124:=@t124 _ zh.1
 have t_125:=@t125 _ zh.2.1
 clear zh
 have hl1:=h1.2.1
 have leaf:∀q b,HpLe p q->rowsRight a.Rows.l a.Players=b->ShrR p (.ret (Bo b) q) (.ret (Bo (rowsRight a.Rows.l a.Players)) p):=fun q b h e=>V0c hF h (Q0d (by rw[e]) (K0c (by intro jj;simp[CV.has])))
 (have zx:=zT;refine zq126 ?_;try exact zT)
 repeat'(apply zK.s<;>intro hc<;>(try simp only[zhd]at hc)<;>(try have hw:=K0a hc)<;>(refine zq126 ?_;try exact zT))
 all_goals(try clear zx)
 (show W C false noExt call (ZC.loop Y2m) _ _ _);refine Y0g C false noExt call Y2m _ _ _ (J126 a p) a.Rows.l.length ⟨0,rfl,by omega,zev,zev,fun j h=>by omega,zg9,zdl,zle⟩ ?_
 rintro n ρ q ⟨i,rfl,hi,e1,e3,hj,g1,hn,hle⟩
 by_cases hlt:(i:Int)<a.Rows.l.length
 ·have hrl:=h1.2.2 (nth a.Rows.l i) (by rw[Y0h (by omega)];exact List.getElem_mem _)
  have hno:rowRight a.Players (nth a.Rows.l i)=false->rowsRight a.Rows.l a.Players=false:=fun h=>by
   rw[rowsRight,all_no (by omega) h];rfl
  by_cases hne:((nth a.Rows.l i).l.length:Int)=a.Players
  ·(have zx:=zA e1 (zA e3 (zA g1 (zA hlt hne)));refine zq126 ?_;try exact zT)
   repeat'(apply zK.s<;>intro hc<;>(try simp only[zhd]at hc)<;>(try have hw:=K0a hc)<;>(refine zq126 ?_;try exact zT))
   all_goals(try clear zx)
   (show W C false noExt call (ZC.loop Q1n) _ _ _);refine Y0g C false noExt call Q1n _ _ _ (L126 a i p) (nth a.Rows.l i).l.length ⟨0,rfl,by omega,zev,zev,zev,fun j h=>by omega,zg9,zdl,zlq⟩ ?_
   clear e1 e3 g1 hn hle
   rintro n ρ q ⟨k,rfl,hk,e1,e3,e4,hk2,g1,hn,hle⟩
   by_cases hlt2:(k:Int)<(nth a.Rows.l i).l.length
   ·have hno2:cellRight (nth (nth a.Rows.l i).l k)=false->rowsRight a.Rows.l a.Players=false:=fun h=>hno (by
     rw[rowRight,all_no (by omega) h,Bool.and_false])
    cases hcr:cellRight (nth (nth a.Rows.l i).l k) with
    |true=>
     have hcr2:=hcr
     simp only[cellRight,Bool.and_eq_true]at hcr2
     obtain⟨hin,hre⟩:=hcr2
     have hnx:∀j,j<k+1->cellRight (nth (nth a.Rows.l i).l j)=true:=fun j h=>by
      by_cases e:j=k
      ·rw[e];exact hcr
      ·exact hk2 j (by omega)
     cases hR:(nth (nth a.Rows.l i).l k).Real with
     |true=>
      (have zx:=zA e1 (zA e3 (zA e4 (zA g1 (zA hlt (zA hlt2 (zA hin hR))))));refine zq126 ?_;try exact zT)
      repeat'(apply zK.s<;>intro hc<;>(try simp only[zhd]at hc)<;>(try have hw:=K0a hc)<;>(refine zq126 ?_;try exact zT))
      all_goals(try clear zx)
      exact⟨(nth a.Rows.l i).l.length-(k+1),by omega,k+1,rfl,by omega,zev,zev,zev,hnx,zg9,zdl,zlq⟩
     |false=>
      rw[hR]at hre
      have hz:(nth (nth a.Rows.l i).l k).In=⟨0,0,0⟩:=of_decide_eq_true hre
      have hin0:inRight ⟨0,0,0⟩=true:=by decide
      (have zx:=zA e1 (zA e3 (zA e4 (zA g1 (zA hlt (zA hlt2 (zA hin0 (zA hR hz)))))));refine zq126 ?_;try exact zT)
      repeat'(apply zK.s<;>intro hc<;>(try simp only[zhd]at hc)<;>(try have hw:=K0a hc)<;>(refine zq126 ?_;try exact zT))
      all_goals(try clear zx)
      exact⟨(nth a.Rows.l i).l.length-(k+1),by omega,k+1,rfl,by omega,zev,zev,zev,hnx,zg9,zdl,zlq⟩
    |false=>
     have hno2:=hno2 hcr
     simp only[cellRight,Bool.and_eq_false_iff]at hcr
     cases hin:inRight (nth (nth a.Rows.l i).l k).In with
     |false=>
      (have zx:=zA e1 (zA e3 (zA e4 (zA g1 (zA hlt (zA hlt2 hin)))));refine zq126 ?_;try exact zT)
      repeat'(apply zK.s<;>intro hc<;>(try simp only[zhd]at hc)<;>(try have hw:=K0a hc)<;>(refine zq126 ?_;try exact zT))
      all_goals(try clear zx)
      exact leaf _ _ zlq hno2
     |true=>
      have hre:=hcr.resolve_left (by rw[hin];exact nofun)
      simp only[Bool.or_eq_false_iff]at hre
      obtain⟨hR,hz⟩:=hre
      have hz:¬(nth (nth a.Rows.l i).l k).In=⟨0,0,0⟩:=of_decide_eq_false hz
      (have zx:=zA e1 (zA e3 (zA e4 (zA g1 (zA hlt (zA hlt2 (zA hin (zA hR hz)))))));refine zq126 ?_;try exact zT)
      repeat'(apply zK.s<;>intro hc<;>(try simp only[zhd]at hc)<;>(try have hw:=K0a hc)<;>(refine zq126 ?_;try exact zT))
      all_goals(try clear zx)
      exact leaf _ _ zlq hno2
   ·have hal:(nth a.Rows.l i).l.all cellRight=true:=all_nth fun j h=>hk2 j (by omega)
    have hrr:rowRight a.Players (nth a.Rows.l i)=true:=by rw[rowRight,hal,decide_eq_true hne];rfl
    (have zx:=zA e1 (zA e3 (zA e4 (zA g1 (zA hlt hlt2))));refine zq126 ?_;try exact zT)
    repeat'(apply zK.s<;>intro hc<;>(try simp only[zhd]at hc)<;>(try have hw:=K0a hc)<;>(refine zq126 ?_;try exact zT))
    all_goals(try clear zx)
    exact⟨a.Rows.l.length-(i+1),by omega,i+1,rfl,by omega,zev,zev,fun j h=>by
     by_cases e:j=i
     ·rw[e];exact hrr
     ·exact hj j (by omega),g1,hn,hle⟩
  ·have hno:=hno (by rw[rowRight,decide_eq_false hne];rfl)
   (have zx:=zA e1 (zA e3 (zA g1 (zA hlt hne)));refine zq126 ?_;try exact zT)
   repeat'(apply zK.s<;>intro hc<;>(try simp only[zhd]at hc)<;>(try have hw:=K0a hc)<;>(refine zq126 ?_;try exact zT))
   all_goals(try clear zx)
   exact leaf _ _ zlq hno
 ·have hie:i=a.Rows.l.length:=by omega
  rw[hie]at hj
  have hal:=all_nth hj
  (have zx:=zA e1 (zA e3 (zA g1 hlt));refine zq126 ?_;try exact zT)
  repeat'(apply zK.s<;>intro hc<;>(try simp only[zhd]at hc)<;>(try have hw:=K0a hc)<;>(refine zq126 ?_;try exact zT))
  all_goals(try clear zx)
  ·have h8:a.Rows.l.length<=8:=by omega
   exact leaf _ _ zlq (by rw[rowsRight,hal,decide_eq_true h8];rfl)
  ·have h8:¬a.Rows.l.length<=8:=by omega
   exact leaf _ _ zlq (by rw[rowsRight,decide_eq_false h8,Bool.and_false];rfl)
def J52(a:Q0a)(p:Hp)(n:Nat)(ρ:Env)(q:Hp): Prop:=
 ∃k:Nat,n=a.Inputs.l.length-k/\k<=a.Inputs.l.length/\ρ 1=.ptr p.n []/\ρ 3=I k/\(∀j,j<k->inRight (nth a.Inputs.l j)=true)/\q.t.get p.n=some (.var sh94 a.cv)/\p.n<q.n/\HpLe p q
def R52: Rel:=fun args p r=>∃(a:Q0a),args=[a.cv]/\(packOk a)/\r=.ret (Bo (packRight a)) p
theorem t52{T:XCall}(h:Has T 52 R52)(a:Q0a){p:Hp}(h1:packOk a): T 52 [a.cv] p=.ret (Bo (packRight a)) p:=h _ _ _ ⟨a,rfl,h1,rfl⟩
theorem zq52{A B:Prop}(k:B)(h:A=B:=by have zy:=zA @zw52<|zA @rs52<|zA @tt3<|zA @tt4<|zA @tt25<|zA @tt36<|zA @tt91<|zA @tt92<|zA @tt94<|zA ti3.eq_1<|zA ti4.eq_1<|zA ti25.eq_1<|zA ti36.eq_1<|zA ti91.eq_1<|zA ti92.eq_1<|zA ti94.eq_1<|zA @t_124<|zA @t_125<|zA @t_126<|zA @K0e<|zA @Q0f<|zA @zsl91<|zA @zsl92<|@h1;exact zQ): A:=h▸k
theorem c52: Con C 52 R52:=by
 refine V0e C ?_ ?_ ?_
 ·rintro args p r r' ⟨a,h,h1,e⟩ ⟨a',h',h1',e'⟩
  subst e;subst e';simp_all[Q0a.inj_iff,Y0a.inj_iff,Y0k,Y0i]
 ·rintro args p r ⟨a,h,h1,rfl⟩;exact zr1
 rintro args p r ⟨a,rfl,h1,rfl⟩
 refine zW C false [(124,R124),(125,R125),(126,R126)] ⟨c124,c125,c126,zT⟩ rfl xf52 zc52_ok fun call zh hF=>?_
 have t_124:=@t124 _ zh.1
 have t_125:=@t125 _ zh.2.1
 have t_126:=@t126 _ zh.2.2.1
 clear zh
 have hl1:=h1.1
 have hl2:=h1.2.1
 have leaf:∀q b,HpLe p q->packRight a=b->ShrR p (.ret (Bo b) q) (.ret (Bo (packRight a)) p):=fun q b h e=>V0c hF h (Q0d (by rw[e]) (K0c (by intro jj;simp[CV.has])))
 cases hh:headRight a with
 |false=>
  have hb:=ref_head hh
  (have zx:=zT;refine zq52 ?_;try exact zT)
  repeat'(apply zK.s<;>intro hc<;>(try simp only[zhd]at hc)<;>(try have hw:=K0a hc)<;>(refine zq52 ?_;try exact zT))
  all_goals(try clear zx)
  all_goals first|exact leaf _ _ zle hb|skip
  all_goals(exfalso;simp_all[headRight])
 |true=>
  have hh2:=hh
  simp only[headRight,Bool.and_eq_true]at hh2
  obtain⟨⟨⟨⟨hk,hsl⟩,hsq⟩,hla⟩,hany⟩:=hh2
  have main:∀ρ q,(ρ 1=.ptr p.n []/\q.t.get p.n=some (.var sh94 a.cv)/\p.n<q.n/\HpLe p q)->W C false noExt call (ZC.seq (ZC.seq V1o (ZC.block 0 (ZC.loop Q05))) (ZC.seq Q1y (ZC.seq X1o (ZC.seq K1o (ZC.seq (ZC.block 2 (ZC.seq K1p (ZC.cond (Tm 67) (ZC.seq K1r ZC.ret) (ZC.seq K1y (ZC.cond (Tm 87) (ZC.seq Y13 ZC.ret) (ZC.seq Q1p (ZC.cond (Tm 100) (ZC.seq Y11 ZC.ret) ZC.skip))))))) (ZC.seq K1v ZC.ret)))))) ρ q (endQ C (xfOf Try.f52).rs fun r'=>ShrR p r' (.ret (Bo (packRight a)) p)):=by
   rintro ρ q ⟨e1,g1,hn,hle⟩
   (have zx:=zA e1 g1;refine zq52 ?_;try exact zT)
   repeat'(apply zK.s<;>intro hc<;>(try simp only[zhd]at hc)<;>(try have hw:=K0a hc)<;>(refine zq52 ?_;try exact zT))
   all_goals(try clear zx)
   (show W C false noExt call (ZC.loop Q05) _ _ _);refine Y0g C false noExt call Q05 _ _ _ (J52 a p) a.Inputs.l.length ⟨0,rfl,by omega,zev,zev,fun j h=>by omega,g1,hn,hle⟩ ?_
   clear e1 g1 hn hle
   rintro n ρ q ⟨k,rfl,hk3,e1,e3,hj,g1,hn,hle⟩
   by_cases hlt:(k:Int)<a.Inputs.l.length
   ·cases hr:inRight (nth a.Inputs.l k) with
    |true=>
     (have zx:=zA e1 (zA e3 (zA g1 (zA hlt hr)));refine zq52 ?_;try exact zT)
     repeat'(apply zK.s<;>intro hc<;>(try simp only[zhd]at hc)<;>(try have hw:=K0a hc)<;>(refine zq52 ?_;try exact zT))
     all_goals(try clear zx)
     exact⟨a.Inputs.l.length-(k+1),by omega,k+1,rfl,by omega,zev,zev,fun j h=>by
      by_cases e:j=k
      ·rw[e];exact hr
      ·exact hj j (by omega),g1,hn,hle⟩
    |false=>
     (have zx:=zA e1 (zA e3 (zA g1 (zA hlt hr)));refine zq52 ?_;try exact zT)
     repeat'(apply zK.s<;>intro hc<;>(try simp only[zhd]at hc)<;>(try have hw:=K0a hc)<;>(refine zq52 ?_;try exact zT))
     all_goals(try clear zx)
     exact leaf _ _ zlq (ref_bad (all_no (by omega) hr))
   ·have hal:a.Inputs.l.all inRight=true:=all_nth fun j h=>hj j (by omega)
    have hrr:=ref_right hh hal
    by_cases k2:a.Kind=2
    ·(have zx:=zA e1 (zA e3 (zA g1 (zA hlt k2)));refine zq52 ?_;try exact zT)
     repeat'(apply zK.s<;>intro hc<;>(try simp only[zhd]at hc)<;>(try have hw:=K0a hc)<;>(refine zq52 ?_;try exact zT))
     all_goals(try clear zx)
     all_goals refine leaf _ _ zlq (hrr.trans ?_)
     all_goals(simp_all[refRight]<;>(intro h9;omega))
    ·by_cases k3:a.Kind=3
     ·(have zx:=zA e1 (zA e3 (zA g1 (zA hlt k3)));refine zq52 ?_;try exact zT)
      repeat'(apply zK.s<;>intro hc<;>(try simp only[zhd]at hc)<;>(try have hw:=K0a hc)<;>(refine zq52 ?_;try exact zT))
      all_goals(try clear zx)
      all_goals refine leaf _ _ zlq (hrr.trans ?_)
      all_goals simp_all[refRight]
     ·by_cases k4:a.Kind=4
      ·(have zx:=zA e1 (zA e3 (zA g1 (zA hlt k4)));refine zq52 ?_;try exact zT)
       repeat'(apply zK.s<;>intro hc<;>(try simp only[zhd]at hc)<;>(try have hw:=K0a hc)<;>(refine zq52 ?_;try exact zT))
       all_goals(try clear zx)
       all_goals refine leaf _ _ zlq (hrr.trans ?_)
       all_goals simp_all[refRight]
      ·(have zx:=zA e1 (zA e3 (zA g1 (zA hlt (zA k2 (zA k3 k4)))));refine zq52 ?_;try exact zT)
       repeat'(apply zK.s<;>intro hc<;>(try simp only[zhd]at hc)<;>(try have hw:=K0a hc)<;>(refine zq52 ?_;try exact zT))
       all_goals(try clear zx)
       all_goals refine leaf _ _ zlq (hrr.trans ?_)
       all_goals simp_all[refRight]
  show W C false noExt call (ZC.seq zn52_1 (ZC.seq (ZC.seq zn52_4 (ZC.cond (Tm 43) (ZC.seq zn52_7 ZC.ret) ZC.skip)) (ZC.seq (ZC.seq V1o (ZC.block 0 (ZC.loop Q05))) (ZC.seq Q1y (ZC.seq X1o (ZC.seq K1o (ZC.seq (ZC.block 2 (ZC.seq K1p (ZC.cond (Tm 67) (ZC.seq K1r ZC.ret) (ZC.seq K1y (ZC.cond (Tm 87) (ZC.seq Y13 ZC.ret) (ZC.seq Q1p (ZC.cond (Tm 100) (ZC.seq Y11 ZC.ret) ZC.skip))))))) (ZC.seq K1v ZC.ret)))))))) _ _ _
  obtain⟨R,hRR⟩:∃R,R=(ZC.seq (ZC.seq V1o (ZC.block 0 (ZC.loop Q05))) (ZC.seq Q1y (ZC.seq X1o (ZC.seq K1o (ZC.seq (ZC.block 2 (ZC.seq K1p (ZC.cond (Tm 67) (ZC.seq K1r ZC.ret) (ZC.seq K1y (ZC.cond (Tm 87) (ZC.seq Y13 ZC.ret) (ZC.seq Q1p (ZC.cond (Tm 100) (ZC.seq Y11 ZC.ret) ZC.skip))))))) (ZC.seq K1v ZC.ret)))))):=⟨_,rfl⟩
  rw[<- hRR]at main ⊢
  clear hRR
  cases hA:a.Any with
  |true=>
   (have zx:=zA hk (zA hsl (zA hsq (zA hla hA)));refine zq52 ?_;try exact zT)
   repeat'(apply zK.s<;>intro hc<;>(try simp only[zhd]at hc)<;>(try have hw:=K0a hc)<;>(refine zq52 ?_;try exact zT))
   all_goals(try clear zx)
   exact main _ _ ⟨zev,zg9,zdl,zle⟩
  |false=>
   rw[hA]at hany
   simp only[Bool.false_or,Bool.and_eq_true,decide_eq_true_eq]at hany
   obtain⟨hz1,hz2⟩:=hany
   rw[hz1]at hla
   (have zx:=zA hk (zA hsl (zA hsq (zA hla (zA hA (zA hz1 hz2)))));refine zq52 ?_;try exact zT)
   repeat'(apply zK.s<;>intro hc<;>(try simp only[zhd]at hc)<;>(try have hw:=K0a hc)<;>(refine zq52 ?_;try exact zT))
   all_goals(try clear zx)
   exact main _ _ ⟨zev,zg9,zdl,zle⟩
def J131(s t:Lst Y0a)(p:Hp)(n:Nat)(ρ:Env)(q:Hp): Prop:=
 ∃k:Nat,n=s.l.length-k/\k<=s.l.length/\ρ 0=s.cv Y0a.cv/\ρ 1=t.cv Y0a.cv/\ρ 5=I k/\(∀j,j<k->nth s.l j=nth t.l j)/\HpLe p q
def R131: Rel:=fun args p r=>∃(s t:Lst Y0a),args=[s.cv Y0a.cv,t.cv Y0a.cv]/\(s.l.length<=1000000)/\(t.l.length<=1000000)/\r=.ret (Bo (decide (s.l=t.l))) p
theorem t131{T:XCall}(h:Has T 131 R131)(s t:Lst Y0a){p:Hp}(h1:s.l.length<=1000000)(h2:t.l.length<=1000000): T 131 [s.cv Y0a.cv,t.cv Y0a.cv] p=.ret (Bo (decide (s.l=t.l))) p:=h _ _ _ ⟨s,t,rfl,h1,h2,rfl⟩
theorem zq131{A B:Prop}(k:B)(h:A=B:=by have zy:=zA @zw131<|zA @rs131<|zA @tt3<|zA @tt36<|zA @tt91<|zA ti3.eq_1<|zA ti36.eq_1<|zA ti91.eq_1<|zA @Q0f<|zA @zsl91<|zA @h1<|@h2;exact zQ): A:=h▸k
theorem c131: Con C 131 R131:=by
 refine V0e C ?_ ?_ ?_
 ·rintro args p r r' ⟨s,t,h,h1,h2,e⟩ ⟨s',t',h',h1',h2',e'⟩
  subst e;subst e';simp_all[Y0a.inj_iff,Y0k,Y0k]
 ·rintro args p r ⟨s,t,h,h1,h2,rfl⟩;exact zr1
 rintro args p r ⟨s,t,rfl,h1,h2,rfl⟩
 refine zW C false [] zT rfl xf131 zc131_ok fun call zh hF=>?_
 clear zh
 have leaf:∀q b,HpLe p q->decide (s.l=t.l)=b->ShrR p (.ret (Bo b) q) (.ret (Bo (decide (s.l=t.l))) p):=fun q b h e=>V0c hF h (Q0d (by rw[e]) (K0c (by intro jj;simp[CV.has])))
 by_cases hlen:s.l.length=t.l.length
 ·have hl2:(s.l.length:Int)=t.l.length:=by omega
  (have zx:=hl2;refine zq131 ?_;try exact zT)
  repeat'(apply zK.s<;>intro hc<;>(try simp only[zhd]at hc)<;>(try have hw:=K0a hc)<;>(refine zq131 ?_;try exact zT))
  all_goals(try clear zx)
  (show W C false noExt call (ZC.loop Z1k) _ _ _);refine Y0g C false noExt call Z1k _ _ _ (J131 s t p) s.l.length ⟨0,rfl,by omega,by simp[put_at,X0c,K0f],by simp[put_at,X0c,K0f,K0j],zev,fun j hj=>by omega,zle⟩ ?_
  rintro n ρ q ⟨k,rfl,hk2,e0,e1,e5,hj,hle⟩
  by_cases hlt:(k:Int)<s.l.length
  ·have hlt2:(k:Int)<t.l.length:=by omega
   by_cases hne:nth s.l k=nth t.l k
   ·(have zx:=zA e0 (zA e1 (zA e5 (zA hlt (zA hlt2 hne))));refine zq131 ?_;try exact zT)
    repeat'(apply zK.s<;>intro hc<;>(try simp only[zhd]at hc)<;>(try have hw:=K0a hc)<;>(refine zq131 ?_;try exact zT))
    all_goals(try clear zx)
    exact⟨s.l.length-(k+1),by omega,k+1,rfl,by omega,zev,zev,zev,fun j hjk=>by
     by_cases h:j=k
     ·rw[h];exact hne
     ·exact hj j (by omega),zlq⟩
   ·(have zx:=zA e0 (zA e1 (zA e5 (zA hlt (zA hlt2 hne))));refine zq131 ?_;try exact zT)
    repeat'(apply zK.s<;>intro hc<;>(try simp only[zhd]at hc)<;>(try have hw:=K0a hc)<;>(refine zq131 ?_;try exact zT))
    all_goals(try clear zx)
    have hl:¬s.l=t.l:=fun h=>hne (by rw[h])
    exact leaf _ _ zlq (decide_eq_false hl)
  ·have hl:s.l=t.l:=K0v hlen fun j h=>hj j (by omega)
   (have zx:=zA e0 (zA e1 (zA e5 hlt));refine zq131 ?_;try exact zT)
   repeat'(apply zK.s<;>intro hc<;>(try simp only[zhd]at hc)<;>(try have hw:=K0a hc)<;>(refine zq131 ?_;try exact zT))
   all_goals(try clear zx)
   exact leaf _ _ zlq (decide_eq_true hl)
 ·have hl2:¬(s.l.length:Int)=t.l.length:=by omega
  have hne:¬s.l=t.l:=fun e=>hlen (by rw[e])
  (have zx:=hl2;refine zq131 ?_;try exact zT)
  repeat'(apply zK.s<;>intro hc<;>(try simp only[zhd]at hc)<;>(try have hw:=K0a hc)<;>(refine zq131 ?_;try exact zT))
  all_goals(try clear zx)
  exact leaf _ _ zle (decide_eq_false hne)
def J175(s t:Lst X0a)(p:Hp)(n:Nat)(ρ:Env)(q:Hp): Prop:=
 ∃k:Nat,n=s.l.length-k/\k<=s.l.length/\ρ 0=s.cv X0a.cv/\ρ 1=t.cv X0a.cv/\ρ 5=I k/\(∀j,j<k->nth s.l j=nth t.l j)/\HpLe p q
def R175: Rel:=fun args p r=>∃(s t:Lst X0a),args=[s.cv X0a.cv,t.cv X0a.cv]/\(s.l.length<=1000000)/\(t.l.length<=1000000)/\r=.ret (Bo (decide (s.l=t.l))) p
theorem t175{T:XCall}(h:Has T 175 R175)(s t:Lst X0a){p:Hp}(h1:s.l.length<=1000000)(h2:t.l.length<=1000000): T 175 [s.cv X0a.cv,t.cv X0a.cv] p=.ret (Bo (decide (s.l=t.l))) p:=h _ _ _ ⟨s,t,rfl,h1,h2,rfl⟩
theorem zq175{A B:Prop}(k:B)(h:A=B:=by have zy:=zA @zw175<|zA @rs175<|zA @tt3<|zA @tt108<|zA @tt110<|zA ti3.eq_1<|zA ti108.eq_1<|zA ti110.eq_1<|zA @Y0f<|zA @Q0f<|zA @zsl108<|zA @h1<|@h2;exact zQ): A:=h▸k
theorem c175: Con C 175 R175:=by
 refine V0e C ?_ ?_ ?_
 ·rintro args p r r' ⟨s,t,h,h1,h2,e⟩ ⟨s',t',h',h1',h2',e'⟩
  subst e;subst e';simp_all[X0a.inj_iff,Y0a.inj_iff,Q0i,Q0i]
 ·rintro args p r ⟨s,t,h,h1,h2,rfl⟩;exact zr1
 rintro args p r ⟨s,t,rfl,h1,h2,rfl⟩
 refine zW C false [] zT rfl xf175 zc175_ok fun call zh hF=>?_
 clear zh
 have leaf:∀q b,HpLe p q->decide (s.l=t.l)=b->ShrR p (.ret (Bo b) q) (.ret (Bo (decide (s.l=t.l))) p):=fun q b h e=>V0c hF h (Q0d (by rw[e]) (K0c (by intro jj;simp[CV.has])))
 by_cases hlen:s.l.length=t.l.length
 ·have hl2:(s.l.length:Int)=t.l.length:=by omega
  (have zx:=hl2;refine zq175 ?_;try exact zT)
  repeat'(apply zK.s<;>intro hc<;>(try simp only[zhd]at hc)<;>(try have hw:=K0a hc)<;>(refine zq175 ?_;try exact zT))
  all_goals(try clear zx)
  (show W C false noExt call (ZC.loop Y1m) _ _ _);refine Y0g C false noExt call Y1m _ _ _ (J175 s t p) s.l.length ⟨0,rfl,by omega,by simp[put_at,X0c,K0f],by simp[put_at,X0c,K0f,K0j],zev,fun j hj=>by omega,zle⟩ ?_
  rintro n ρ q ⟨k,rfl,hk2,e0,e1,e5,hj,hle⟩
  by_cases hlt:(k:Int)<s.l.length
  ·have hlt2:(k:Int)<t.l.length:=by omega
   by_cases hne:nth s.l k=nth t.l k
   ·(have zx:=zA e0 (zA e1 (zA e5 (zA hlt (zA hlt2 hne))));refine zq175 ?_;try exact zT)
    repeat'(apply zK.s<;>intro hc<;>(try simp only[zhd]at hc)<;>(try have hw:=K0a hc)<;>(refine zq175 ?_;try exact zT))
    all_goals(try clear zx)
    exact⟨s.l.length-(k+1),by omega,k+1,rfl,by omega,zev,zev,zev,fun j hjk=>by
     by_cases h:j=k
     ·rw[h];exact hne
     ·exact hj j (by omega),zlq⟩
   ·(have zx:=zA e0 (zA e1 (zA e5 (zA hlt (zA hlt2 hne))));refine zq175 ?_;try exact zT)
    repeat'(apply zK.s<;>intro hc<;>(try simp only[zhd]at hc)<;>(try have hw:=K0a hc)<;>(refine zq175 ?_;try exact zT))
    all_goals(try clear zx)
    have hl:¬s.l=t.l:=fun h=>hne (by rw[h])
    exact leaf _ _ zlq (decide_eq_false hl)
  ·have hl:s.l=t.l:=K0v hlen fun j h=>hj j (by omega)
   (have zx:=zA e0 (zA e1 (zA e5 hlt));refine zq175 ?_;try exact zT)
   repeat'(apply zK.s<;>intro hc<;>(try simp only[zhd]at hc)<;>(try have hw:=K0a hc)<;>(refine zq175 ?_;try exact zT))
   all_goals(try clear zx)
   exact leaf _ _ zlq (decide_eq_true hl)
 ·have hl2:¬(s.l.length:Int)=t.l.length:=by omega
  have hne:¬s.l=t.l:=fun e=>hlen (by rw[e])
  (have zx:=hl2;refine zq175 ?_;try exact zT)
  repeat'(apply zK.s<;>intro hc<;>(try simp only[zhd]at hc)<;>(try have hw:=K0a hc)<;>(refine zq175 ?_;try exact zT))
  all_goals(try clear zx)
  exact leaf _ _ zle (decide_eq_false hne)
def J132(s t:Lst (Lst X0a))(p:Hp)(n:Nat)(ρ:Env)(q:Hp): Prop:=
 ∃k:Nat,n=s.l.length-k/\k<=s.l.length/\ρ 0=s.cv (Lst.cv X0a.cv)/\ρ 1=t.cv (Lst.cv X0a.cv)/\ρ 5=I k/\(∀j,j<k->nth (rowsL s) j=nth (rowsL t) j)/\HpLe p q
def R132: Rel:=fun args p r=>∃(s t:Lst (Lst X0a)),args=[s.cv (Lst.cv X0a.cv),t.cv (Lst.cv X0a.cv)]/\(rowsOk s)/\(rowsOk t)/\r=.ret (Bo (decide (rowsL s=rowsL t))) p
theorem t132{T:XCall}(h:Has T 132 R132)(s t:Lst (Lst X0a)){p:Hp}(h1:rowsOk s)(h2:rowsOk t): T 132 [s.cv (Lst.cv X0a.cv),t.cv (Lst.cv X0a.cv)] p=.ret (Bo (decide (rowsL s=rowsL t))) p:=h _ _ _ ⟨s,t,rfl,h1,h2,rfl⟩
theorem zq132{A B:Prop}(k:B)(h:A=B:=by have zy:=zA @zw132<|zA @rs132<|zA @tt3<|zA @tt92<|zA @tt108<|zA ti3.eq_1<|zA ti92.eq_1<|zA ti108.eq_1<|zA @t_175<|zA @Y0f<|zA @zsl92<|zA @zsl108<|zA @h1<|@h2;exact zQ): A:=h▸k
theorem c132: Con C 132 R132:=by
 refine V0e C ?_ ?_ ?_
 ·rintro args p r r' ⟨s,t,h,h1,h2,e⟩ ⟨s',t',h',h1',h2',e'⟩
  subst e;subst e';simp_all[X0a.inj_iff,Y0i,Q0i,Y0i]
 ·rintro args p r ⟨s,t,h,h1,h2,rfl⟩;exact zr1
 rintro args p r ⟨s,t,rfl,h1,h2,rfl⟩
 refine zW C false [(175,R175)] ⟨c175,zT⟩ rfl xf132 zc132_ok fun call zh hF=>?_
 have t_175:=@t175 _ zh.1
 clear zh
 have l1:=h1.1
 have l2:=h2.1
 have leaf:∀q b,HpLe p q->decide (rowsL s=rowsL t)=b->ShrR p (.ret (Bo b) q) (.ret (Bo (decide (rowsL s=rowsL t))) p):=fun q b h e=>V0c hF h (Q0d (by rw[e]) (K0c (by intro jj;simp[CV.has])))
 by_cases hlen:s.l.length=t.l.length
 ·have hl2:(s.l.length:Int)=t.l.length:=by omega
  (have zx:=hl2;refine zq132 ?_;try exact zT)
  repeat'(apply zK.s<;>intro hc<;>(try simp only[zhd]at hc)<;>(try have hw:=K0a hc)<;>(refine zq132 ?_;try exact zT))
  all_goals(try clear zx)
  (show W C false noExt call (ZC.loop K1n) _ _ _);refine Y0g C false noExt call K1n _ _ _ (J132 s t p) s.l.length ⟨0,rfl,by omega,by simp[put_at,X0c,K0f],by simp[put_at,X0c,K0f,K0j],zev,fun j hj=>by omega,zle⟩ ?_
  rintro n ρ q ⟨k,rfl,hk2,e0,e1,e5,hj,hle⟩
  by_cases hlt:(k:Int)<s.l.length
  ·have hlt2:(k:Int)<t.l.length:=by omega
   have m1:=h1.nth (k:=k) (by omega)
   have m2:=h2.nth (k:=k) (by omega)
   have n1:=V09 (r:=s) (k:=k) (by omega)
   have n2:=V09 (r:=t) (k:=k) (by omega)
   by_cases hne:(nth s.l k).l=(nth t.l k).l
   ·(have zx:=zA e0 (zA e1 (zA e5 (zA hlt (zA hlt2 hne))));refine zq132 ?_;try exact zT)
    repeat'(apply zK.s<;>intro hc<;>(try simp only[zhd]at hc)<;>(try have hw:=K0a hc)<;>(refine zq132 ?_;try exact zT))
    all_goals(try clear zx)
    exact⟨s.l.length-(k+1),by omega,k+1,rfl,by omega,zev,zev,zev,fun j hjk=>by
     by_cases h:j=k
     ·rw[h,n1,n2];exact hne
     ·exact hj j (by omega),zlq⟩
   ·(have zx:=zA e0 (zA e1 (zA e5 (zA hlt (zA hlt2 hne))));refine zq132 ?_;try exact zT)
    repeat'(apply zK.s<;>intro hc<;>(try simp only[zhd]at hc)<;>(try have hw:=K0a hc)<;>(refine zq132 ?_;try exact zT))
    all_goals(try clear zx)
    have hl:¬rowsL s=rowsL t:=fun h=>hne (by rw[<- n1,<- n2,h])
    exact leaf _ _ zlq (decide_eq_false hl)
  ·have hl:rowsL s=rowsL t:=K0v (by rw[Z0l,Z0l];exact hlen) fun j h=>hj j (by rw[Z0l]at h;omega)
   (have zx:=zA e0 (zA e1 (zA e5 hlt));refine zq132 ?_;try exact zT)
   repeat'(apply zK.s<;>intro hc<;>(try simp only[zhd]at hc)<;>(try have hw:=K0a hc)<;>(refine zq132 ?_;try exact zT))
   all_goals(try clear zx)
   exact leaf _ _ zlq (decide_eq_true hl)
 ·have hl2:¬(s.l.length:Int)=t.l.length:=by omega
  have hne:¬rowsL s=rowsL t:=fun e=>hlen (by rw[<- Z0l,<- Z0l,e])
  (have zx:=hl2;refine zq132 ?_;try exact zT)
  repeat'(apply zK.s<;>intro hc<;>(try simp only[zhd]at hc)<;>(try have hw:=K0a hc)<;>(refine zq132 ?_;try exact zT))
  all_goals(try clear zx)
  exact leaf _ _ zle (decide_eq_false hne)
def R57: Rel:=fun args p r=>∃(a b:Q0a),args=[a.cv,b.cv]/\(packOk a)/\(packOk b)/\r=.ret (Bo (sameP a b)) p
theorem t57{T:XCall}(h:Has T 57 R57)(a b:Q0a){p:Hp}(h1:packOk a)(h2:packOk b): T 57 [a.cv,b.cv] p=.ret (Bo (sameP a b)) p:=h _ _ _ ⟨a,b,rfl,h1,h2,rfl⟩
theorem zq57{A B:Prop}(k:B)(h:A=B:=by have zy:=zA @zw57<|zA @rs57<|zA @tt3<|zA @tt4<|zA @tt25<|zA @tt91<|zA @tt92<|zA @tt94<|zA ti3.eq_1<|zA ti4.eq_1<|zA ti25.eq_1<|zA ti91.eq_1<|zA ti92.eq_1<|zA ti94.eq_1<|zA @t_131<|zA @t_132<|zA @K0e<|zA @zsl91<|zA @zsl92<|zA @h1<|@h2;exact zQ): A:=h▸k
theorem zno57{P:Prop}(h:P:=by intro jj;simp[CV.has,CV.hasL,fault,X0b.nohas]): P:=h
theorem c57: Con C 57 R57:=by
 refine V0e C ?_ ?_ ?_
 ·rintro args p r r' ⟨a,b,h,h1,h2,e⟩ ⟨a',b',h',h1',h2',e'⟩
  subst e;subst e';simp_all[Q0a.inj_iff,Y0k,Y0i]
 ·rintro args p r ⟨a,b,h,h1,h2,rfl⟩;exact zr1
 rintro args p r ⟨a,b,rfl,h1,h2,rfl⟩
 refine zW C false [(131,R131),(132,R132)] ⟨c131,c132,zT⟩ rfl xf57 zc57_ok fun call zh hF=>?_
 have t_131:=@t131 _ zh.1
 have t_132:=@t132 _ zh.2.1
 clear zh
 have hi1:=h1.1
 have hi2:=h2.1
 have hr1:=h1.2
 have hr2:=h2.2
 (have zx:=zT;refine zq57 ?_;try exact zT)
 repeat'(apply zK.s<;>intro hc<;>(try simp only[zhd]at hc)<;>(try have hw:=K0a hc)<;>(refine zq57 ?_;try exact zT))
 all_goals(try clear zx)
 all_goals refine V0c hF zle (Q0d ?_ (K0c zno57))
 all_goals simp_all[sameP]
end Go.Proofs.Ytpchcfkebljopaa
end
section
namespace Go.Proofs.Ytpchcfkebljopaa
open Go.Cl Go Go.RowKit
set_option maxRecDepth 100000
def zn42_1:=ZC.reg [zv 4 (.assign (.const (.slice none 0 0)))]
def zn42_3:=ZC.reg [⟨some 5,.buildSlice 68 0 ⟨[]⟩,none,false⟩,zu 6 (zmv 0),zu 7 (zmv 0),zu 8 (zcb .len [Tm 7] [68]),zu 9 (zmv 1),zu 10 (zcb .min [Tm 8,Tm 9] [3,3]),zu 11 (.slice 68 (Tm 6) none (some (Tm 10)) none),zu 12 (zcb .append [Tm 5,Tm 11] [68,68]),zv 4 (zas 12)]
def zn42_0:=ZC.seq zn42_1 (ZC.seq zn42_3 ZC.ret)
def zc42: ZC:=zn42_0
theorem zc42_ok: zcode (xfOf Try.f42).code=some zc42:=by kernel_rfl
def zw42:=zU C zc42.eq_1<|zU C zn42_1.eq_1<|zU C zn42_3.eq_1<|(zunf C zn42_0.eq_1)
theorem rs42: (xfOf Try.f42).rs=[.tmp 4]:=by kernel_rfl
def xf42:=zF C 42 Try.f42
def zn98_0:=ZC.reg [zu 6 (zmv 0),zu 7 (zmv 1),zu 8 (.convert 3 25 (Tm 7)),zu 9 (zmv 2),zv 10 (zcf 99 [Tm 6,Tm 8,Tm 9] [153,25,3])]
def zc98: ZC:=zn98_0
theorem zc98_ok: zcode (xfOf Try.f98).code=some zc98:=by kernel_rfl
def zw98:=zU C zc98.eq_1<|(zunf C zn98_0.eq_1)
theorem rs98: (xfOf Try.f98).rs=[]:=by kernel_rfl
def xf98:=zF C 98 Try.f98
def zn99_1:=ZC.reg [zu 7 (zmv 2),zu 8 (zcb .min [Kn 64,Tm 7] [3,3]),zu 9 (zcb .max [Kn 0,Tm 8] [3,3]),zu 10 (.binOp .sub 3 (Tm 9) (Kn 1) 3),zv 6 (zas 10)]
def zn99_6:=ZC.reg [zu 11 (zmv 6),zv 12 (.binOp .geq 3 (Tm 11) (Kn 0) 3)]
def zn99_10:=ZC.reg [zu 15 (zmv 0),zu 16 (zmv 0),zu 17 (.nilCheck (Tm 16)),zu 18 (zfa 156 17 0),zu 19 (zld 154 18),zu 20 (zmv 1),zu 21 (zmv 6),zu 22 (.convert 3 178 (Tm 21)),zu 23 (.binOp .shr 25 (Tm 20) (Tm 22) 178),zu 24 (.binOp .and 25 (Tm 23) (.const (.int .u64 1)) 25),zu 25 (.binOp .eql 25 (Tm 24) (.const (.int .u64 1)) 25),⟨some 26,.buildSlice 154 1 ⟨[(0,.tmp 25)]⟩,none,false⟩,zu 27 (zcb .append [Tm 19,Tm 26] [154,154]),zu 28 (.nilCheck (Tm 15)),zu 29 (zfa 156 28 0),zv0 (.store 154 (Tm 29) (Tm 27))]
def zn99_11:=ZC.reg [zu 13 (zmv 6),zu 14 (.binOp .sub 3 (Tm 13) (Kn 1) 3),zv 6 (zas 14)]
def zn99_4:=ZC.seq (ZC.seq zn99_6 (ZC.cond (Tm 12) ZC.skip (ZC.exit 0))) (ZC.seq (ZC.block 1 zn99_10) zn99_11)
def zn99_0:=ZC.seq zn99_1 (ZC.block 0 (ZC.loop zn99_4))
def zc99: ZC:=zn99_0
theorem zc99_ok: zcode (xfOf Try.f99).code=some zc99:=by kernel_rfl
def zw99:=zU C zc99.eq_1<|zU C zn99_1.eq_1<|zU C zn99_6.eq_1<|zU C zn99_10.eq_1<|zU C zn99_11.eq_1<|zU C zn99_4.eq_1<|(zunf C zn99_0.eq_1)
theorem rs99: (xfOf Try.f99).rs=[]:=by kernel_rfl
def xf99:=zF C 99 Try.f99
def zn100_1:=ZC.reg [zv 2 (.assign (.const (.slice none 0 0)))]
def zn100_3:=ZC.reg [zu 5 (zmv 0),zu 6 (.nilCheck (Tm 5)),zu 7 (zfa 156 6 0),zu 8 (zld 154 7),zu 9 (zcb .len [Tm 8] [154]),zu 10 (.binOp .add 3 (Tm 9) (Kn 7) 3),zu 11 (.binOp .quo 3 (Tm 10) (Kn 8) 3),zu 12 (.makeSlice 68 (Tm 11) (Tm 11)),zv 3 (zas 12)]
def zn100_6:=ZC.reg [zv 4 (.assign (Kn 0))]
def zn100_11:=ZC.reg [zu 13 (zmv 4),zu 14 (zmv 0),zu 15 (.nilCheck (Tm 14)),zu 16 (zfa 156 15 0),zu 17 (zld 154 16),zu 18 (zcb .len [Tm 17] [154]),zv 19 (.binOp .lss 3 (Tm 13) (Tm 18) 3)]
def zn100_16:=ZC.reg [zu 22 (zmv 0),zu 23 (.nilCheck (Tm 22)),zu 24 (zfa 156 23 0),zu 25 (zld 154 24),zu 26 (zmv 4),zu 27 (zia 154 25 26),zv 28 (zld 4 27)]
def zn100_18:=ZC.reg [zu 29 (zmv 3),zu 30 (zmv 4),zu 31 (.binOp .quo 3 (Tm 30) (Kn 8) 3),zu 32 (zmv 3),zu 33 (zmv 4),zu 34 (.binOp .quo 3 (Tm 33) (Kn 8) 3),zu 35 (zia 68 32 34),zu 36 (zld 5 35),zu 37 (zmv 4),zu 38 (.binOp .rem 3 (Tm 37) (Kn 8) 3),zu 39 (.binOp .sub 3 (Kn 7) (Tm 38) 3),zu 40 (.convert 3 178 (Tm 39)),zu 41 (.binOp .shl 5 (.const (.int .u8 1)) (Tm 40) 178),zu 42 (.binOp .add 5 (Tm 36) (Tm 41) 5),zu 43 (zia 68 29 31),zv0 (.store 5 (Tm 43) (Tm 42))]
def zn100_19:=ZC.reg [zu 20 (zmv 4),zu 21 (.binOp .add 3 (Tm 20) (Kn 1) 3),zv 4 (zas 21)]
def Q2n:=ZC.seq (ZC.seq zn100_11 (ZC.cond (Tm 19) ZC.skip (ZC.exit 0))) (ZC.seq (ZC.block 1 (ZC.seq zn100_16 (ZC.cond (Tm 28) zn100_18 ZC.skip))) zn100_19)
def zn100_21:=ZC.reg [zu 44 (zmv 3),zv 2 (zas 44)]
def zn100_0:=ZC.seq zn100_1 (ZC.seq zn100_3 (ZC.seq (ZC.seq zn100_6 (ZC.block 0 (ZC.loop Q2n))) (ZC.seq zn100_21 ZC.ret)))
def zc100: ZC:=zn100_0
theorem zc100_ok: zcode (xfOf Try.f100).code=some zc100:=by kernel_rfl
def zw100:=zU C zc100.eq_1<|zU C zn100_1.eq_1<|zU C zn100_3.eq_1<|zU C zn100_6.eq_1<|zU C zn100_11.eq_1<|zU C zn100_16.eq_1<|zU C zn100_18.eq_1<|zU C zn100_19.eq_1<|zU C Q2n.eq_1<|zU C zn100_21.eq_1<|(zunf C zn100_0.eq_1)
theorem rs100: (xfOf Try.f100).rs=[.tmp 2]:=by kernel_rfl
def xf100:=zF C 100 Try.f100
def zn103_1:=ZC.reg [zv 4 (.assign (.const (.int .u64 0)))]
def zn103_3:=ZC.reg [zu 7 (zmv 1),zu 8 (zcb .min [Kn 64,Tm 7] [3,3]),zu 9 (zcb .max [Kn 0,Tm 8] [3,3]),zv 1 (zas 9)]
def zn103_6:=ZC.draw 19 [] [zdd 0 10 (zmv 0) true [] [] false,zdd 1 11 (.nilCheck (Tm 10)) true [] [] false,zdd 2 12 (zfa 161 11 2) true [] [] false,zdd 3 13 (zld 4 12) true [] [] false,zdd 4 14 (zmv 13) true [] [] false,⟨5,some 15,zmv 1,some (14,false),false,[],[],false⟩,⟨6,some 16,zmv 0,some (14,false),false,[],[],false⟩,⟨7,some 17,.nilCheck (Tm 16),some (14,false),false,[],[],false⟩,⟨8,some 18,zfa 161 17 0,some (14,false),false,[],[],false⟩,⟨9,some 19,zld 68 18,some (14,false),false,[],[],false⟩,⟨10,some 20,zcb .len [Tm 19] [68],some (14,false),false,[],[],false⟩,⟨11,some 21,.binOp .mul 3 (Kn 8) (Tm 20) 3,some (14,false),false,[],[],false⟩,⟨12,some 22,zmv 0,some (14,false),true,[],[],false⟩,⟨13,some 23,.nilCheck (Tm 22),some (14,false),true,[],[],false⟩,⟨14,some 24,zfa 161 23 1,some (14,false),true,[],[],false⟩,⟨15,some 25,zld 3 24,some (14,false),true,[],[],false⟩,⟨16,some 26,.binOp .sub 3 (Tm 21) (Tm 25) 3,some (14,false),true,[],[],false⟩,⟨17,some 27,.binOp .gtr 3 (Tm 15) (Tm 26) 3,some (14,false),true,[],[],false⟩,zdd 18 28 (.pick (Tm 14) (.const (.bool true)) (Tm 27)) true [] [] false]
def zn103_9:=ZC.reg [zu 29 (zmv 0),zu 30 (.nilCheck (Tm 29)),zu 31 (zfa 161 30 2),zv0 (.store 4 (Tm 31) (.const (.bool true)))]
def zn103_11:=ZC.reg [zv 4 (.assign (.const (.int .u64 0)))]
def zn103_13:=ZC.reg [zv 5 (.assign (.const (.int .u64 0)))]
def zn103_16:=ZC.reg [zv 6 (.assign (Kn 0))]
def zn103_21:=ZC.reg [zu 32 (zmv 6),zu 33 (zmv 1),zv 34 (.binOp .lss 3 (Tm 32) (Tm 33) 3)]
def zn103_26:=ZC.draw 25 [] [zdd 0 37 (zmv 5) false [] [] false,zdd 1 38 (.binOp .shl 25 (Tm 37) (.const (.int .u64 1)) 178) false [] [] false,zdd 2 39 (zmv 0) false [] [] false,zdd 3 40 (.nilCheck (Tm 39)) false [] [] false,zdd 4 41 (zfa 161 40 0) false [] [] false,zdd 5 42 (zld 68 41) false [] [] false,zdd 6 43 (zmv 0) false [] [] false,zdd 7 44 (.nilCheck (Tm 43)) false [] [] false,zdd 8 45 (zfa 161 44 1) false [] [] false,zdd 9 46 (zld 3 45) false [] [] false,zdd 10 47 (.binOp .quo 3 (Tm 46) (Kn 8) 3) false [] [] false,zdd 11 48 (zia 68 42 47) false [] [] false,zdd 12 49 (zld 5 48) false [] [] false,zdd 13 50 (zmv 0) true [] [] false,zdd 14 51 (.nilCheck (Tm 50)) true [] [] false,zdd 15 52 (zfa 161 51 1) true [] [] false,zdd 16 53 (zld 3 52) true [] [] false,zdd 17 54 (.binOp .rem 3 (Tm 53) (Kn 8) 3) true [] [] false,zdd 18 55 (.binOp .sub 3 (Kn 7) (Tm 54) 3) true [] [] false,zdd 19 56 (.convert 3 178 (Tm 55)) true [] [] false,zdd 20 57 (.binOp .shr 5 (Tm 49) (Tm 56) 178) true [] [] false,zdd 21 58 (.binOp .and 5 (Tm 57) (.const (.int .u8 1)) 5) true [] [] false,zdd 22 59 (.convert 5 25 (Tm 58)) true [] [] false,zdd 23 60 (.binOp .or 25 (Tm 38) (Tm 59) 25) true [] [] false,zdd 24 5 (zas 60) true [] [] false]
def zn103_27:=ZC.reg [zu 61 (zmv 0),zu 62 (.nilCheck (Tm 61)),zu 63 (zfa 161 62 1),zu 64 (zld 3 63),zu 65 (.binOp .add 3 (Tm 64) (Kn 1) 3),zu 66 (.nilCheck (Tm 61)),zu 67 (zfa 161 66 1),zv0 (.store 3 (Tm 67) (Tm 65))]
def zn103_28:=ZC.reg [zu 35 (zmv 6),zu 36 (.binOp .add 3 (Tm 35) (Kn 1) 3),zv 6 (zas 36)]
def V1m:=ZC.seq (ZC.seq zn103_21 (ZC.cond (Tm 34) ZC.skip (ZC.exit 0))) (ZC.seq (ZC.block 1 (ZC.seq zn103_26 zn103_27)) zn103_28)
def zn103_30:=ZC.reg [zu 68 (zmv 5),zv 4 (zas 68)]
def zn103_0:=ZC.seq zn103_1 (ZC.seq zn103_3 (ZC.seq (ZC.seq zn103_6 (ZC.cond (Tm 28) (ZC.seq zn103_9 (ZC.seq zn103_11 ZC.ret)) ZC.skip)) (ZC.seq zn103_13 (ZC.seq (ZC.seq zn103_16 (ZC.block 0 (ZC.loop V1m))) (ZC.seq zn103_30 ZC.ret)))))
def zc103: ZC:=zn103_0
theorem zc103_ok: zcode (xfOf Try.f103).code=some zc103:=by kernel_rfl
def zw103:=zU C zc103.eq_1<|zU C zn103_1.eq_1<|zU C zn103_3.eq_1<|zU C zn103_6.eq_1<|zU C zn103_9.eq_1<|zU C zn103_11.eq_1<|zU C zn103_13.eq_1<|zU C zn103_16.eq_1<|zU C zn103_21.eq_1<|zU C zn103_26.eq_1<|zU C zn103_27.eq_1<|zU C zn103_28.eq_1<|zU C V1m.eq_1<|zU C zn103_30.eq_1<|(zunf C zn103_0.eq_1)
theorem rs103: (xfOf Try.f103).rs=[.tmp 4]:=by kernel_rfl
def xf103:=zF C 103 Try.f103
def zn104_1:=ZC.reg [zv 4 (.assign (Kn 0))]
def zn104_3:=ZC.reg [zu 6 (zmv 0),zu 7 (zmv 1),zu 8 (zcf 103 [Tm 6,Tm 7] [159,3]),zv 5 (zas 8)]
def zn104_5:=ZC.reg [zu 9 (zmv 1),zu 10 (zcb .min [Kn 64,Tm 9] [3,3]),zu 11 (zcb .max [Kn 0,Tm 10] [3,3]),zv 1 (zas 11)]
def zn104_8:=ZC.reg [zu 12 (zmv 1),zv 13 (.binOp .eql 3 (Tm 12) (Kn 0) 3)]
def zn104_11:=ZC.reg [zv 4 (.assign (Kn 0))]
def zn104_14:=ZC.reg [zu 14 (zmv 5),zu 15 (zmv 1),zu 16 (.binOp .sub 3 (Tm 15) (Kn 1) 3),zu 17 (.convert 3 178 (Tm 16)),zu 18 (.binOp .shr 25 (Tm 14) (Tm 17) 178),zu 19 (.binOp .and 25 (Tm 18) (.const (.int .u64 1)) 25),zu 20 (.binOp .eql 25 (Tm 19) (.const (.int .u64 1)) 25),zu 21 (zmv 20),zug 22 (zmv 1) 21 true false,zug 23 (.binOp .lss 3 (Tm 22) (Kn 64) 3) 21 true false,zv 24 (.pick (Tm 21) (Tm 23) (.const (.bool false)))]
def zn104_17:=ZC.reg [zu 25 (zmv 5),zu 26 (.convert 25 3 (Tm 25)),zu 27 (zmv 1),zu 28 (.convert 3 178 (Tm 27)),zu 29 (.binOp .shl 3 (Kn 1) (Tm 28) 178),zu 30 (.binOp .sub 3 (Tm 26) (Tm 29) 3),zv 4 (zas 30)]
def zn104_19:=ZC.reg [zu 31 (zmv 5),zu 32 (.convert 25 3 (Tm 31)),zv 4 (zas 32)]
def zn104_0:=ZC.seq zn104_1 (ZC.seq zn104_3 (ZC.seq zn104_5 (ZC.seq (ZC.seq zn104_8 (ZC.cond (Tm 13) (ZC.seq zn104_11 ZC.ret) ZC.skip)) (ZC.seq (ZC.seq zn104_14 (ZC.cond (Tm 24) (ZC.seq zn104_17 ZC.ret) ZC.skip)) (ZC.seq zn104_19 ZC.ret)))))
def zc104: ZC:=zn104_0
theorem zc104_ok: zcode (xfOf Try.f104).code=some zc104:=by kernel_rfl
def zw104:=zU C zc104.eq_1<|zU C zn104_1.eq_1<|zU C zn104_3.eq_1<|zU C zn104_5.eq_1<|zU C zn104_8.eq_1<|zU C zn104_11.eq_1<|zU C zn104_14.eq_1<|zU C zn104_17.eq_1<|zU C zn104_19.eq_1<|(zunf C zn104_0.eq_1)
theorem rs104: (xfOf Try.f104).rs=[.tmp 4]:=by kernel_rfl
def xf104:=zF C 104 Try.f104
def zn128_1:=ZC.reg [zv 4 (.assign (Kn 0))]
def zn128_3:=ZC.reg [zu 7 (zmv 0),zu 8 (.binOp .rem 3 (Tm 7) (Kn 2147483647) 3),zv 5 (zas 8)]
def zn128_6:=ZC.reg [zu 9 (zmv 5),zv 10 (.binOp .lss 3 (Tm 9) (Kn 0) 3)]
def zn128_8:=ZC.reg [zu 11 (zmv 5),zu 12 (.binOp .add 3 (Tm 11) (Kn 2147483647) 3),zv 5 (zas 12)]
def zn128_10:=ZC.reg [zu 13 (zmv 5),zu 14 (.binOp .add 3 (Tm 13) (Kn 1) 3),zv 5 (zas 14)]
def zn128_13:=ZC.reg [zv 6 (.assign (Kn 0))]
def zn128_18:=ZC.reg [zu 15 (zmv 6),zu 16 (zmv 1),zu 17 (zcb .len [Tm 16] [68]),zv 18 (.binOp .lss 3 (Tm 15) (Tm 17) 3)]
def zn128_22:=ZC.reg [zu 21 (zmv 5),zu 22 (.binOp .mul 3 (Tm 21) (Kn 257) 3),zu 23 (zmv 1),zu 24 (zmv 6),zu 25 (zia 68 23 24),zu 26 (zld 5 25),zu 27 (.convert 5 3 (Tm 26)),zu 28 (.binOp .add 3 (Tm 22) (Tm 27) 3),zu 29 (.binOp .add 3 (Tm 28) (Kn 1) 3),zu 30 (.binOp .rem 3 (Tm 29) (Kn 2147483647) 3),zv 5 (zas 30)]
def zn128_23:=ZC.reg [zu 19 (zmv 6),zu 20 (.binOp .add 3 (Tm 19) (Kn 1) 3),zv 6 (zas 20)]
def X0u:=ZC.seq (ZC.seq zn128_18 (ZC.cond (Tm 18) ZC.skip (ZC.exit 0))) (ZC.seq (ZC.block 1 zn128_22) zn128_23)
def X1n:=ZC.reg [zu 31 (zmv 5),zu 32 (zmv 1),zu 33 (zcb .len [Tm 32] [68]),zu 34 (.binOp .add 3 (Tm 31) (Tm 33) 3),zu 35 (.binOp .rem 3 (Tm 34) (Kn 2147483647) 3),zv 4 (zas 35)]
def zn128_0:=ZC.seq zn128_1 (ZC.seq zn128_3 (ZC.seq (ZC.seq zn128_6 (ZC.cond (Tm 10) zn128_8 ZC.skip)) (ZC.seq zn128_10 (ZC.seq (ZC.seq zn128_13 (ZC.block 0 (ZC.loop X0u))) (ZC.seq X1n ZC.ret)))))
def zc128: ZC:=zn128_0
theorem zc128_ok: zcode (xfOf Try.f128).code=some zc128:=by kernel_rfl
def zw128:=zU C zc128.eq_1<|zU C zn128_1.eq_1<|zU C zn128_3.eq_1<|zU C zn128_6.eq_1<|zU C zn128_8.eq_1<|zU C zn128_10.eq_1<|zU C zn128_13.eq_1<|zU C zn128_18.eq_1<|zU C zn128_22.eq_1<|zU C zn128_23.eq_1<|zU C X0u.eq_1<|zU C X1n.eq_1<|(zunf C zn128_0.eq_1)
theorem rs128: (xfOf Try.f128).rs=[.tmp 4]:=by kernel_rfl
def xf128:=zF C 128 Try.f128
end Go.Proofs.Ytpchcfkebljopaa
end
section
namespace Go.Proofs.Ytpchcfkebljopaa
open Go.Cl Go Go.RowKit
set_option linter.constructorNameAsVariable false
end Go.Proofs.Ytpchcfkebljopaa
end
section
namespace Go.Proofs.Ytpchcfkebljopaa
open Go.Cl Go Go.RowKit
set_option maxRecDepth 100000
set_option linter.constructorNameAsVariable false
end Go.Proofs.Ytpchcfkebljopaa
end
section
namespace Go.Proofs.Ytpchcfkebljopaa
open Go.Cl Go Go.RowKit
end Go.Proofs.Ytpchcfkebljopaa
end
section
namespace Go.Proofs.Ytpchcfkebljopaa
open Go.Cl Go Go.RowKit
set_option maxRecDepth 100000
set_option linter.constructorNameAsVariable false
end Go.Proofs.Ytpchcfkebljopaa
end
section
namespace Go.Proofs.Ytpchcfkebljopaa
open Go.Cl Go Go.RowKit
end Go.Proofs.Ytpchcfkebljopaa
end
section
namespace Go.Proofs.Ytpchcfkebljopaa
open Go.Cl Go Go.RowKit
set_option maxRecDepth 100000
set_option linter.constructorNameAsVariable false
theorem tmod_low{key:Int}(h:key.tmod 2147483647<0): key.tmod 2147483647+2147483647=key % 2147483647:=by
 have h1:-2147483647<key.tmod 2147483647:=by
  have:=Int.lt_tmod_of_pos key (b:=2147483647) (by omega);exact this
 have h3:=Int.mul_tdiv_add_tmod key 2147483647
 generalize key.tdiv 2147483647=q at h3
 generalize key.tmod 2147483647=r at *
 omega
theorem tmod_high{key:Int}(h:¬key.tmod 2147483647<0): key.tmod 2147483647=key % 2147483647:=by
 have h2:=Int.tmod_lt_of_pos key (b:=2147483647) (by omega)
 have h3:=Int.mul_tdiv_add_tmod key 2147483647
 generalize key.tdiv 2147483647=q at h3
 generalize key.tmod 2147483647=r at *
 omega
def J128(key:Int)(s:Lst Int)(p:Hp)(n:Nat)(ρ:Env)(q:Hp): Prop:=
 ∃k:Nat,n=s.l.length-k/\k<=s.l.length/\ρ 1=s.cv Y8/\ρ 5=I ((s.l.take k).foldl sumStep (key % 2147483647+1))/\ρ 6=I k/\HpLe p q
def R128: Rel:=fun args p r=>∃(key:Int) (s:Lst Int),args=[I key,s.cv Y8]/\(-9223372036854775808<=key/\key<=9223372036854775807)/\(s.l.length<=1000000)/\(∀x∈s.l,0<=x/\x<=255)/\r=.ret (I (sumB key s.l)) p
theorem t128{T:XCall}(h:Has T 128 R128)(key:Int)(s:Lst Int){p:Hp}(h1:-9223372036854775808<=key/\key<=9223372036854775807)(h2:s.l.length<=1000000)(h5:∀x∈s.l,0<=x/\x<=255): T 128 [I key,s.cv Y8] p=.ret (I (sumB key s.l)) p:=h _ _ _ ⟨key,s,rfl,h1,h2,h5,rfl⟩
theorem zq128{A B:Prop}(k:B)(h:A=B:=by have zy:=zA @zw128<|zA @rs128<|zA @tt3<|zA @tt5<|zA @tt68<|zA ti3.eq_1<|zA ti5.eq_1<|zA ti68.eq_1<|zA @zsl68<|zA @h1<|zA @h2<|@h5;exact zQ): A:=h▸k
theorem c128: Con C 128 R128:=by
 refine V0e C ?_ ?_ ?_
 ·rintro args p r r' ⟨key,s,h,h1,h2,h5,e⟩ ⟨key',s',h',h1',h2',h5',e'⟩
  subst e;subst e';simp_all[X0f,X0f]
 ·rintro args p r ⟨key,s,h,h1,h2,h5,rfl⟩;exact zr1
 rintro args p r ⟨key,s,rfl,h1,h2,h5,rfl⟩
 refine zW C false [] zT rfl xf128 zc128_ok fun call zh hF=>?_
 clear zh
 have hr2:0<=key % 2147483647/\key % 2147483647<2147483647:=by omega
 suffices hloop:∀(ρ:Env) (q:Hp),ρ 1=s.cv Y8->ρ 5=I (key % 2147483647+1)->ρ 6=I 0->HpLe p q->W C false noExt call (ZC.loop X0u) ρ q (blkQ 0 (seqQ (W C false noExt call (ZC.seq X1n ZC.ret)) (endQ C [ResultVar.tmp 4] fun r'=>ShrR p r' (XRes.ret (I (sumB key s.l)) p)))) by
  by_cases hlo:key.tmod 2147483647<0
  ·have hk:=tmod_low hlo
   (have zx:=zA hlo hk;refine zq128 ?_;try exact zT)
   repeat'(apply zK.s<;>intro hc<;>(try simp only[zhd]at hc)<;>(try have hw:=K0a hc)<;>(refine zq128 ?_;try exact zT))
   all_goals(try clear zx)
   exact hloop _ _ (by simp[put_at,X0c,K0f,K0j]) (by simp[put_at,X0c,K0f]) (by simp[put_at,X0c,K0f]) zle
  ·have hk:=tmod_high hlo
   have hlo2:¬key % 2147483647<0:=by omega
   (have zx:=zA hk hlo2;refine zq128 ?_;try exact zT)
   repeat'(apply zK.s<;>intro hc<;>(try simp only[zhd]at hc)<;>(try have hw:=K0a hc)<;>(refine zq128 ?_;try exact zT))
   all_goals(try clear zx)
   exact hloop _ _ (by simp[put_at,X0c,K0f,K0j]) (by simp[put_at,X0c,K0f]) (by simp[put_at,X0c,K0f]) zle
 intro ρ q e1 e5 e6 hle
 (show W C false noExt call (ZC.loop X0u) _ _ _);refine Y0g C false noExt call X0u _ _ _ (J128 key s p) s.l.length ⟨0,rfl,by omega,e1,e5,e6,hle⟩ ?_
 clear e1 e5 e6 hle
 rintro n ρ q ⟨k,rfl,hk2,e1,e5,e6,hle⟩
 have hf:=V01 key (s.l.take k)
 by_cases hlt:(k:Int)<s.l.length
 ·have hst:=Z01 sumStep (key % 2147483647+1) (l:=s.l) (k:=k) (by omega)
  have hy:=h5 (nth s.l k) (by rw[Y0h (by omega)];exact List.getElem_mem _)
  generalize (s.l.take k).foldl sumStep (key % 2147483647+1)=h at hf hst e5
  generalize hyy:nth s.l k=y at hy hst
  have ht:(h*257+y+1).tmod 2147483647=sumStep h y:=by rw[Int.tmod_eq_emod_of_nonneg (by omega)];rfl
  (have zx:=zA e1 (zA e5 (zA e6 (zA hlt (zA hyy ht))));refine zq128 ?_;try exact zT)
  repeat'(apply zK.s<;>intro hc<;>(try simp only[zhd]at hc)<;>(try have hw:=K0a hc)<;>(refine zq128 ?_;try exact zT))
  all_goals(try clear zx)
  exact⟨s.l.length-(k+1),by omega,k+1,rfl,by omega,zev,by rw[hst];simp[put_at,X0c],zev,hle⟩
 ·have hkl:k=s.l.length:=by omega
  rw[hkl,List.take_of_length_le (Nat.le_refl _)]at e5 hf
  have ht:(s.l.foldl sumStep (key % 2147483647+1)+s.l.length).tmod 2147483647=sumB key s.l:=by rw[Int.tmod_eq_emod_of_nonneg (by omega)];rfl
  (have zx:=zA e1 (zA e5 (zA e6 (zA hlt ht)));refine zq128 ?_;try exact zT)
  repeat'(apply zK.s<;>intro hc<;>(try simp only[zhd]at hc)<;>(try have hw:=K0a hc)<;>(refine zq128 ?_;try exact zT))
  all_goals(try clear zx)
  exact V0c hF hle (Q0d rfl (K0c (by intro jj;simp[CV.has])))
theorem Bo_has(b:Bool)(j:Nat): ¬(Bo b).has j:=by simp[CV.has]
def bv(J:Nat)(l:List Bool): CV:=if l=[]then .lst .nil []else Lst.cv Bo ⟨.own J,l,nofun⟩
theorem bv_sh(J:Nat)(l:List Bool): (bv J l).shape=.s:=by unfold bv;split<;>rfl
def B1(J:Nat)(l:List Bool): XObj:=.var sh156 (Z0d.mk (bv J l) (bv_sh J l)).cv
def B2(i J:Nat)(l:List Bool)(p:Hp): Prop:=l=[]\/J≠i/\p.t.get J=some (.tail l.length)
theorem Z18(a b:Bool)(h:Bo a=Bo b): a=b:=by simpa using h
theorem bv_inj{J K:Nat}{l m:List Bool}(h:bv J l=bv K m): l=m/\(l≠[]->J=K):=by
 unfold bv at h
 by_cases hl:l=[]
 ·subst hl
  by_cases hm:m=[]
  ·exact⟨hm.symm,fun h=>absurd rfl h⟩
  ·rw[if_pos rfl,if_neg hm]at h
   simp[Lst.cv]at h
 ·by_cases hm:m=[]
  ·rw[if_neg hl,if_pos hm]at h
   simp[Lst.cv]at h
  ·rw[if_neg hl,if_neg hm]at h
   simp only[Lst.cv,CV.lst.injEq,Tail.own.injEq]at h
   exact⟨(List.map_inj_right (f:=Bo) (fun a b=>Z18 a b)).1 h.2,fun _=>h.1⟩
theorem B_uniq{p:Hp}{i j j':Nat}{l l':List Bool}(h:p.t.get i=some (B1 j l))(k:p.t.get i=some (B1 j' l')): l=l'/\(l≠[]->j=j'):=by
 rw[h]at k
 simp only[Option.some.injEq,B1,Z0d.cv,XObj.var.injEq,CV.agg.injEq,List.cons.injEq,and_true,true_and]at k
 exact bv_inj k
noncomputable def bDrop(j:Nat)(l:List Bool)(p:Hp): Hp:=if l=[]then p else p.set j none
noncomputable def bHp(i j:Nat)(l l':List Bool)(p:Hp): Hp:=((bDrop j l p).set i (some (B1 p.n l'))).new (.tail l'.length)
theorem X2g{p:Hp}{i j j':Nat}{l l':List Bool}(m:List Bool)(h:l=l'/\(l≠[]->j=j')): bHp i j l m p=bHp i j' l' m p:=by
 obtain⟨rfl,h⟩:=h
 unfold bHp bDrop
 by_cases hl:l=[]
 ·rw[if_pos hl,if_pos hl]
 ·rw[if_neg hl,if_neg hl,h hl]
theorem bHp_n(i j:Nat)(l m:List Bool)(p:Hp): (bHp i j l m p).n=p.n+1:=by
 unfold bHp bDrop
 split<;>simp[Hp.znew_n,Hp.zset_n]
theorem bHp_i{i j:Nat}(l m:List Bool){p:Hp}(h:i<p.n): (bHp i j l m p).t.get i=some (B1 p.n m):=by
 unfold bHp bDrop
 split
 ·rw[Hp.get_new_ne _ _ (by rw[Hp.zset_n];omega),Hp.get_set_self]
 ·rw[Hp.get_new_ne _ _ (by rw[Hp.zset_n,Hp.zset_n];omega),Hp.get_set_self]
theorem bHp_new{i j:Nat}(l m:List Bool){p:Hp}: (bHp i j l m p).t.get p.n=some (.tail m.length):=by
 unfold bHp bDrop
 split
 ·exact Hp.get_new_self (p.set i (some (B1 p.n m))) _
 ·exact Hp.get_new_self ((p.set j none).set i (some (B1 p.n m))) _
theorem bHp_ne{i j:Nat}{l m:List Bool}{p:Hp}{k:Nat}(h1:k≠i)(h2:l=[]\/k≠j)(h3:k≠p.n): (bHp i j l m p).t.get k=p.t.get k:=by
 unfold bHp bDrop
 split
 ·rw[Hp.get_new_ne _ _ (show k≠(p.set i (some (B1 p.n m))).n from h3),Hp.get_set_ne _ _ _ h1]
 ·rename_i hl
  rw[Hp.get_new_ne _ _ (show k≠((p.set j none).set i (some (B1 p.n m))).n from h3),Hp.get_set_ne _ _ _ h1,Hp.get_set_ne _ _ _ (h2.resolve_left hl)]
theorem B2_nil(i j:Nat)(p:Hp): B2 i j [] p:=.inl rfl
theorem B2_in{i j:Nat}{l:List Bool}{p:Hp}(h1:j≠i)(h2:p.t.get j=some (.tail l.length)): B2 i j l p:=.inr ⟨h1,h2⟩
theorem shr_b{args:List CV}{p q:Hp}{i j J:Nat}{l m:List Bool}(hF:Fine args p)(hm:m≠[])(h1:p.t.get i=some (B1 j l))(h2:B2 i j l p)(g1:q.t.get i=some (B1 J m))(g2:q.t.get J=some (.tail m.length))(hJi:J≠i)(hJ:(l≠[]/\J=j)\/p.n<=J)
  (hle:∀k o,k≠i->(l=[]\/k≠j)->p.t.get k=some o->q.t.get k=some o) {v u:CV} (hv:CV.weak (ren p.n J) (p.n+1) v u):ShrR p (.ret v q) (.ret u (bHp i j l m p)):=by
 have hi:=hF.dom _ _ h1
 have hw:XObj.weak (ren p.n J) (p.n+1) (B1 J m) (B1 p.n m):=by
  refine⟨rfl,?_⟩
  simp only[Z0d.cv,bv,if_neg hm,CV.weak,CV.weakL,and_true,Lst.cv,Tail.weak]
  exact⟨⟨by simp[ren],by omega⟩,CV.weakL_refl _ fun j hj=>(Z0h (f:=Bo) (fun x j=>Bo_has x j) m j hj).elim⟩
 unfold bHp bDrop
 split
 ·rename_i hl
  refine Y0y hF (J:=J) rfl (fun k o h=>?_) ⟨_,g2,rfl⟩ hv
  by_cases hk:k=i
  ·subst hk
   rw[Hp.get_set_self]at h;cases h
   exact⟨hi,Ne.symm hJi,.inr ⟨_,g1,hw⟩⟩
  ·rw[Hp.get_set_ne _ _ _ hk]at h
   have hd:=hF.dom _ _ h
   exact⟨hd,by rcases hJ with hJ|hJ;exact absurd hl hJ.1;omega,.inl ⟨h,hle k o hk (.inl hl) h⟩⟩
 ·rename_i hl
  have hj:=(h2.resolve_left hl)
  have hjd:=hF.dom _ _ hj.2
  refine Y0y hF (J:=J) rfl (fun k o h=>?_) ⟨_,g2,rfl⟩ hv
  by_cases hk:k=i
  ·subst hk
   rw[Hp.get_set_self]at h;cases h
   exact⟨hi,Ne.symm hJi,.inr ⟨_,g1,hw⟩⟩
  ·rw[Hp.get_set_ne _ _ _ hk]at h
   by_cases hkj:k=j
   ·subst hkj;rw[Hp.get_set_self]at h;cases h
   ·rw[Hp.get_set_ne _ _ _ hkj]at h
    have hd:=hF.dom _ _ h
    exact⟨hd,by rcases hJ with hJ|hJ;rw[hJ.2];exact hkj;omega,.inl ⟨h,hle k o hk (.inr hkj) h⟩⟩
structure BSt(i j:Nat)(l:List Bool)(p:Hp)(J:Nat)(m:List Bool)(q:Hp): Prop where
 g:q.t.get i=some (B1 J m)
 w:B2 i J m q
 hJ:(m=l/\J=j)\/(p.n<=J/\J<q.n)
 hi:i<p.n
 hn:p.n<=q.n
 hle:∀k o,k≠i->(l=[]\/k≠j)->p.t.get k=some o->q.t.get k=some o
theorem BSt.start{i j:Nat}{l:List Bool}{p:Hp}(h1:p.t.get i=some (B1 j l))(h2:B2 i j l p)(hi:i<p.n): BSt i j l p j l p:=⟨h1,h2,.inl ⟨rfl,rfl⟩,hi,Nat.le_refl _,fun _ _ _ _ h=>h⟩
theorem BSt.step{i j J:Nat}{l m:List Bool}{p q:Hp}(hd:∀k o,p.t.get k=some o->k<p.n)(h:BSt i j l p J m q)(m':List Bool): BSt i j l p q.n m' (bHp i J m m' q):=by
 have hi:i<q.n:=Nat.lt_of_lt_of_le h.hi h.hn
 refine⟨bHp_i _ _ hi,.inr ⟨by omega,bHp_new _ _⟩,.inr ⟨h.hn,by rw[bHp_n];omega⟩,h.hi,by rw[bHp_n];have:=h.hn;omega,fun k o a b c=>?_⟩
 have hk:=hd k o c
 have hn:=h.hn
 rw[bHp_ne a ?_ (by omega)]
 ·exact h.hle k o a b c
 ·rcases h.hJ with⟨e1,e2⟩|e
  ·subst e1;subst e2;exact b
  ·exact .inr (by omega)
theorem BSt.fin{args:List CV}{i j J:Nat}{l m:List Bool}{p q:Hp}(hF:Fine args p)(h1:p.t.get i=some (B1 j l))(h2:B2 i j l p)(h:BSt i j l p J m q)(hm:m≠[]){v u:CV}(hv:CV.weak (ren p.n J) (p.n+1) v u): ShrR p (.ret v q) (.ret u (bHp i j l m p)):=by
 have w:=h.w.resolve_left hm
 refine shr_b hF hm h1 h2 h.g w.2 w.1 ?_ h.hle hv
 rcases h.hJ with⟨e1,e2⟩|e
 ·exact .inl ⟨by rw[<- e1];exact hm,e2⟩
 ·exact .inr e.1
theorem BSt.new0{i j:Nat}{l:List Bool}{p:Hp}(hd:∀k o,p.t.get k=some o->k<p.n)(h1:p.t.get i=some (B1 j l))(h2:B2 i j l p)(hi:i<p.n)(o:XObj): BSt i j l p j l (p.new o):=by
 refine⟨by rw[Hp.get_new_ne _ _ (by omega)];exact h1,?_,.inl ⟨rfl,rfl⟩,hi,by rw[Hp.znew_n];omega,fun k o' a b c=>by rw[Hp.get_new_ne _ _ (by have:=hd k o' c;omega)];exact c⟩
 rcases h2 with w|⟨w1,w2⟩
 ·exact .inl w
 ·exact .inr ⟨w1,by rw[Hp.get_new_ne _ _ (by have:=hd _ _ w2;omega)];exact w2⟩
theorem bHp_nj{i j:Nat}{l m:List Bool}{p:Hp}{k:Nat}(h1:k≠i)(h2:k≠j)(h3:k≠p.n): (bHp i j l m p).t.get k=p.t.get k:=bHp_ne h1 (.inr h2) h3
theorem bHp_eq{i j:Nat}{l m:List Bool}{p:Hp}{k:Nat}(h:k=p.n): (bHp i j l m p).t.get k=some (.tail m.length):=by subst h;exact bHp_new _ _
theorem zdb1{P:Prop}(h:P:=by first|omega|(simp only[bHp_n,Hp.bump_n,Hp.znew_n,Hp.zset_n];(first|done|omega))): P:=h
theorem zdb{P:Prop}(h:P:=by first|exact zdis|(simp (disch:=first|exact zdb1|fail) only[zheap,bHp_i,bHp_eq,bHp_nj,bHp_n,zx];(first|done|rfl))): P:=h
theorem B1_eq{J:Nat}{m:List Bool}(h:m≠[])(o:_): B1 J m=.var sh156 (Z0d.mk (Lst.cv Bo ⟨.own J,m,o⟩) rfl).cv:=by simp only[B1,bv,if_neg h]
theorem BSt.app{i j J:Nat}{l m:List Bool}{p q q':Hp}(hd:∀k o,p.t.get k=some o->k<p.n)(h:BSt i j l p J m q)(b:Bool)(g1:q'.t.get i=some (B1 q.n (m++[b])))(g2:q'.t.get q.n=some (.tail (m++[b]).length))(hn:q'.n=q.n+1)(hk:∀k o,k≠i->(m=[]\/k≠J)->k<q.n->q.t.get k=some o->q'.t.get k=some o): BSt i j l p q.n (m++[b]) q':=by
 have hi:i<q.n:=Nat.lt_of_lt_of_le h.hi h.hn
 refine⟨g1,.inr ⟨by omega,g2⟩,.inr ⟨h.hn,by omega⟩,h.hi,by have:=h.hn;omega,fun k o a b c=>?_⟩
 have hkp:=hd k o c
 have hn:=h.hn
 refine hk k o a ?_ (by omega) (h.hle k o a b c)
 rcases h.hJ with⟨e1,e2⟩|e
 ·subst e1;subst e2;exact b
 ·exact .inr (by omega)
theorem X1u(s:Lst Bool): (Lst.cv Bo s).shape=.s:=rfl
theorem bt_fold(v:CV)(hv:v.shape=.s)(s:Lst Bool): Z0d.upd_0 ⟨v,hv⟩ (Lst.cv Bo s)=(Z0d.mk (Lst.cv Bo s) (X1u s)).cv:=rfl
theorem b2i_dec(b:Bool): decide (b2i b=1)=b:=by cases b<;>rfl
theorem bv_own{J:Nat}{l:List Bool}(h:l≠[]): bv J l=Lst.cv Bo ⟨.own J,l,nofun⟩:=if_neg h
def J99(i j:Nat)(l:List Bool)(v:Int)(N:Nat)(p:Hp)(n:Nat)(ρ:Env)(q:Hp): Prop:=
 ∃(k J:Nat),n=N-k/\k<=N/\ρ 0=.ptr i []/\ρ 1=U v/\ρ 6=I ((N:Int)-1-k)/\BSt i j l p J (l++(bitsOf v N).take k) q
def R99: Rel:=fun args p r=>∃(i j:Nat) (l:List Bool) (v n:Int),args=[.ptr i [],U v,I n]/\(p.t.get i=some (B1 j l))/\(B2 i j l p)/\(l.length<=900000)/\(1<=n/\n<=64)/\r=.ret (.tup []) (bHp i j l (l++bitsOf v n.toNat) p)
theorem t99{T:XCall}(h:Has T 99 R99)(i j:Nat)(l:List Bool)(v n:Int){p:Hp}(h1:p.t.get i=some (B1 j l))(h2:B2 i j l p)(h3:l.length<=900000)(h4:1<=n/\n<=64): T 99 [.ptr i [],U v,I n] p=.ret (.tup []) (bHp i j l (l++bitsOf v n.toNat) p):=h _ _ _ ⟨i,j,l,v,n,rfl,h1,h2,h3,h4,rfl⟩
theorem zq99{A B:Prop}(k:B)(h:A=B:=by have zy:=zA @zw99<|zA @rs99<|zA @tt3<|zA @tt25<|zA @tt154<|zA @tt156<|zA @tt178<|zA ti3.eq_1<|zA ti25.eq_1<|zA ti154.eq_1<|zA ti156.eq_1<|zA ti178.eq_1<|zA @Y1h<|zA @zsl154<|zA @bt_fold<|zA @b2i_dec<|zA @h1<|zA @h2<|zA @h3<|@h4;exact zQ): A:=h▸k
theorem c99: Con C 99 R99:=by
 refine V0e C ?_ ?_ ?_
 ·rintro args p r r' ⟨i,j,l,v,n,h,h1,h2,h3,h4,e⟩ ⟨i',j',l',v',n',h',h1',h2',h3',h4',e'⟩
  subst e;subst e';(subst h;simp only[List.cons.injEq,CV.ptr.injEq,CV.sc.injEq,Value.int.injEq,and_true,true_and]at h';obtain⟨e1,e2,e3⟩:=h';subst e1;subst e2;subst e3;have hu:=B_uniq h1 h1';rw[X2g _ hu,hu.1])
 ·rintro args p r ⟨i,j,l,v,n,h,h1,h2,h3,h4,rfl⟩;exact zr1
 rintro args p r ⟨i,j,l,v,n,rfl,h1,h2,h3,h4,rfl⟩
 refine zW C false [] zT rfl xf99 zc99_ok fun call zh hF=>?_
 clear zh
 have hd_h1:=hF.dom _ _ h1
 have hi:=hF.dom _ _ h1
 have k1:=h1
 have k2:=h2
 obtain⟨N,rfl⟩:=Int.eq_ofNat_of_zero_le (show 0<=n by omega)
 have hmm:max 0 (min 64 (N:Int))=N:=by omega
 have hw:=hF.dom
 (have zx:=zA hmm h1;refine zq99 ?_;try exact zT)
 repeat'(apply zK.s<;>intro hc<;>(try simp only[zhd]at hc)<;>(try have hw:=K0a hc)<;>(refine zq99 ?_;try exact zT))
 all_goals(try clear zx)
 (show W C false noExt call (ZC.loop zn99_4) _ _ _);refine Y0g C false noExt call zn99_4 _ _ _ (J99 i j l v N p) N ⟨0,j,rfl,by omega,by simp[put_at,X0c,K0f],by simp[put_at,X0c,K0f,K0j],zev,by simpa using BSt.start k1 k2 hi⟩ ?_
 rintro n ρ q ⟨k,J,rfl,hk,e0,e1,e6,hS⟩
 by_cases hlt:k<N
 ·have hb:=bit_of v (N-1-k) (by omega)
  unfold andB at hb
  have e6:ρ 6=I ((N-1-k:Nat):Int):=by rw[e6];congr 2;omega
  have hlen:(l++(bitsOf v N).take k).length<=1000000:=by rw[List.length_append,List.length_take,X0e];omega
  have g1:=hS.g
  have g2:=hS.w
  have hbt:=X09 v N k hlt
  have hge:¬((N-1-k:Nat):Int)<0:=by omega
  have hwu:IntKind.u64.wrap ((N-1-k:Nat):Int)=((N-1-k:Nat):Int):=by
   show((N-1-k:Nat):Int) % 2^64=_
   omega
  have htn:(((N-1-k:Nat):Int)).toNat=N-1-k:=Int.toNat_natCast _
  have hge0:0<=((N-1-k:Nat):Int):=by omega
  have hiq:i<q.n:=Nat.lt_of_lt_of_le hS.hi hS.hn
  have hbt2:l++(bitsOf v N).take (k+1)=(l++(bitsOf v N).take k)++[bitAt v (N-1-k)]:=by rw[hbt,List.append_assoc]
  generalize hm:l++(bitsOf v N).take k=m at hS g1 g2 hlen hbt2
  by_cases hm0:m=[]
  ·subst hm0
   replace g1:q.t.get i=some (.var sh156 (Z0d.mk (Lst.cv Bo ⟨.nil,[],fun _=>rfl⟩) (X1u _)).cv):=g1
   (have zx:=zA e0 (zA e1 (zA e6 (zA hb (zA g1 (zA hge (zA hge0 (zA hwu (zA htn h1))))))));refine zq99 ?_;try exact zT)
   repeat'(apply zK.s<;>intro hc<;>(try simp only[zhd]at hc)<;>(try have hw:=K0a hc)<;>(refine zq99 ?_;try exact zT))
   all_goals(try clear zx)
   refine⟨N-(k+1),by omega,k+1,q.n,rfl,by omega,zev,zev,by simp[put_at,X0c];omega,?_⟩
   rw[hbt2]
   refine hS.app hw _ ?_ ?_ ?_ (fun a o h1 h2 h3 h=>?_)
   ·rw[B1_eq (by simp) (nofun)];simp (disch:=first|exact zdl|fail) only[zheap]<;>rfl
   ·simp (disch:=first|exact zdl|fail) only[zheap];simp
   ·simp only[Hp.bump_n,Hp.znew_n,Hp.zset_n]
   ·simp (disch:=first|exact zdl|fail) only[Hp.bump_get,Hp.get_set_ne,Hp.get_new_ne];exact h
  ·have g2:=(g2.resolve_left hm0).2
   rw[B1,show Z0d.mk (bv J m) (bv_sh J m)=Z0d.mk (Lst.cv Bo ⟨.own J,m,nofun⟩) (X1u _) from by simp only[bv_own hm0]]at g1
   have hJi:=(hS.w.resolve_left hm0).1
   have hmp:0<m.length:=List.length_pos_iff.2 hm0
   have hJq:J<q.n:=by
    rcases hS.hJ with⟨e3,e4⟩|e3
    ·subst e4
     have:=hw _ _ (k2.resolve_left (by rw[<- e3];exact hm0)).2
     have:=hS.hn
     omega
    ·exact e3.2
   (have zx:=zA e0 (zA e1 (zA e6 (zA hb (zA g1 (zA g2 (zA hge (zA hge0 (zA hwu (zA htn h1)))))))));refine zq99 ?_;try exact zT)
   repeat'(apply zK.s<;>intro hc<;>(try simp only[zhd]at hc)<;>(try have hw:=K0a hc)<;>(refine zq99 ?_;try exact zT))
   all_goals(try clear zx)
   refine⟨N-(k+1),by omega,k+1,q.n,rfl,by omega,zev,zev,by simp[put_at,X0c];omega,?_⟩
   rw[hbt2]
   refine hS.app hw _ ?_ ?_ ?_ (fun a o h1 h2 h3 h=>?_)
   ·rw[B1_eq (by simp) (nofun)];simp (disch:=first|exact zdl|fail) only[zheap]<;>rfl
   ·simp (disch:=first|exact zdl|fail) only[zheap];simp
   ·simp only[Hp.bump_n,Hp.znew_n,Hp.zset_n]
   ·have hkj:=h2.resolve_left hm0;simp (disch:=first|exact zdl|fail) only[Hp.bump_get,Hp.get_set_ne,Hp.get_new_ne];exact h
 ·have hkN:k=N:=by omega
  have e6:ρ 6=I (-1):=by rw[e6,hkN];congr 2;omega
  rw[hkN,List.take_of_length_le (by rw[X0e];exact Nat.le_refl _)]at hS
  (have zx:=zA e0 (zA e1 (zA e6 h1));refine zq99 ?_;try exact zT)
  repeat'(apply zK.s<;>intro hc<;>(try simp only[zhd]at hc)<;>(try have hw:=K0a hc)<;>(refine zq99 ?_;try exact zT))
  all_goals(try clear zx)
  refine hS.fin hF k1 k2 ?_ (Q0l _ _)
  intro e
  have:=congrArg List.length e
  rw[List.length_append,X0e,List.length_nil]at this
  omega
def R98: Rel:=fun args p r=>∃(i j:Nat) (l:List Bool) (v n:Int),args=[.ptr i [],I v,I n]/\(p.t.get i=some (B1 j l))/\(B2 i j l p)/\(l.length<=900000)/\(1<=n/\n<=64)/\r=.ret (.tup []) (bHp i j l (l++bitsOf v n.toNat) p)
theorem t98{T:XCall}(h:Has T 98 R98)(i j:Nat)(l:List Bool)(v n:Int){p:Hp}(h1:p.t.get i=some (B1 j l))(h2:B2 i j l p)(h3:l.length<=900000)(h4:1<=n/\n<=64): T 98 [.ptr i [],I v,I n] p=.ret (.tup []) (bHp i j l (l++bitsOf v n.toNat) p):=h _ _ _ ⟨i,j,l,v,n,rfl,h1,h2,h3,h4,rfl⟩
theorem zq98{A B:Prop}(k:B)(h:A=B:=by have zy:=zA @zw98<|zA @rs98<|zA @tt3<|zA @tt25<|zA ti3.eq_1<|zA ti25.eq_1<|zA @t_99<|zA @h1<|zA @h2<|zA @h3<|@h4;exact zQ): A:=h▸k
theorem c98: Con C 98 R98:=by
 refine V0e C ?_ ?_ ?_
 ·rintro args p r r' ⟨i,j,l,v,n,h,h1,h2,h3,h4,e⟩ ⟨i',j',l',v',n',h',h1',h2',h3',h4',e'⟩
  subst e;subst e';(subst h;simp only[List.cons.injEq,CV.ptr.injEq,CV.sc.injEq,Value.int.injEq,and_true,true_and]at h';obtain⟨e1,e2,e3⟩:=h';subst e1;subst e2;subst e3;have hu:=B_uniq h1 h1';rw[X2g _ hu,hu.1])
 ·rintro args p r ⟨i,j,l,v,n,h,h1,h2,h3,h4,rfl⟩;exact zr1
 rintro args p r ⟨i,j,l,v,n,rfl,h1,h2,h3,h4,rfl⟩
 refine zW C false [(99,R99)] ⟨c99,zT⟩ rfl xf98 zc98_ok fun call zh hF=>?_
 have t_99:=@t99 _ zh.1
 clear zh
 have hd_h1:=hF.dom _ _ h1
 have hi:=hF.dom _ _ h1
 (have zx:=h1;refine zq98 ?_;try exact zT)
 repeat'(apply zK.s<;>intro hc<;>(try simp only[zhd]at hc)<;>(try have hw:=K0a hc)<;>(refine zq98 ?_;try exact zT))
 all_goals(try clear zx)
 rw[Y0t _ (by omega)]
 refine((BSt.start h1 h2 hi).step hF.dom _).fin hF h1 h2 ?_ (Q0l _ _)
 intro e
 have:=congrArg List.length e
 rw[List.length_append,X0e,List.length_nil]at this
 omega
end Go.Proofs.Ytpchcfkebljopaa
end
section
namespace Go.Proofs.Ytpchcfkebljopaa
open Go.Cl Go Go.RowKit
theorem Z1s(l:List Bool)(b:Bool){i:Nat}(h:i≠l.length/8): byteAt (l++[b]) i=byteAt l i:=by
 simp only[byteAt,gb_snoc]
 repeat rw[if_neg (by omega)]
def outK(l:List Bool)(k:Nat): List Int:=(List.range ((l.length+7)/8)).map (byteAt (l.take k))
theorem X0r(l:List Bool)(k:Nat): (outK l k).length=(l.length+7)/8:=by simp[outK]
theorem X12(l:List Bool)(k j:Nat)(h:j<(l.length+7)/8): nth (outK l k) j=byteAt (l.take k) j:=by
 rw[Y0h (by rw[X0r];exact h)]
 simp only[outK,List.getElem_map,List.getElem_range]
theorem outK_zero(l:List Bool): outK l 0=List.replicate ((l.length+7)/8) 0:=by
 refine K0v (by rw[X0r,List.length_replicate]) fun j hj=>?_
 rw[X0r]at hj
 rw[X12 _ _ _ hj,Y0h (by rw[List.length_replicate];exact hj),List.getElem_replicate]
 rfl
theorem outK_all(l:List Bool): outK l l.length=packB l:=by
 unfold outK packB
 rw[List.take_length]
theorem outK_step{l:List Bool}{k:Nat}(h:k<l.length): outK l (k+1)=(outK l k).set (k/8) (nth (outK l k) (k/8)+b2i (nth l k)*2^(7-k % 8)):=by
 have ht:(l.take k).length=k:=by rw[List.length_take];omega
 refine K0v (by rw[X0r,List.length_set,X0r]) fun j hj=>?_
 rw[X0r]at hj
 rw[X12 _ _ _ hj,K0m h]
 by_cases e:j=k/8
 ·subst e
  rw[Q1i (by rw[X0r];exact hj),X12 _ _ _ hj]
  have:=byte_snoc (l.take k) (nth l k)
  rw[ht]at this
  exact this
 ·rw[nth_set_ne (by omega),X12 _ _ _ hj,Z1s _ _ (by rw[ht];exact e)]
theorem outK_same{l:List Bool}{k:Nat}(h:k<l.length)(hb:nth l k=false): outK l (k+1)=outK l k:=by
 rw[outK_step h,hb]
 simp only[b2i,Bool.false_eq_true,if_false,Int.zero_mul,Int.add_zero]
 rw[Y0h (by rw[X0r];omega),List.set_getElem_self]
theorem outK_byte(l:List Bool)(k:Nat){j:Nat}(h:j<(l.length+7)/8): 0<=nth (outK l k) j/\nth (outK l k) j<=255:=by
 rw[X12 _ _ _ h];exact Z0z _ _
end Go.Proofs.Ytpchcfkebljopaa
end
section
namespace Go.Proofs.Ytpchcfkebljopaa
open Go.Cl Go Go.RowKit
set_option maxRecDepth 100000
set_option linter.constructorNameAsVariable false
theorem mk68(p:Hp)(n:Nat)(h:1<=n/\n<=1000000): xmake C p 68 (I n) (I n)=.ret (.slc p.n [] 0 n) (p.new (.var (.n (List.replicate n .s)) (.agg ((List.replicate n 0).map Y8)))):=by
 have hb:(ti5.bytes*((n:Nat):Int).toNat)<=281474976710656:=by show 1*_<=_;omega
 simp only[xmake,tt68,ti68,tt5,List.map_replicate]
 rw[show(decide True&&decide (0<(n:Int))&&decide ((n:Int)<=9223372036854775807)&&Nat.blt 0 ti5.sh.size&&Nat.ble (ti5.bytes*((n:Nat):Int).toNat) 281474976710656)=true by
  simp only[decide_true,Bool.true_and,Bool.and_eq_true,decide_eq_true_eq]
  exact⟨⟨⟨by omega,by omega⟩,rfl⟩,Nat.ble_eq_true_of_le hb⟩]
 rfl
theorem sub68b(n k:Nat)(q:List Nat): subEq (.n (List.replicate n .s)) (k::q) sh5=(decide (k<n)&&subEq sh5 q sh5):=V2l n k q sh5 sh5
theorem p7_all: ∀m:Fin 8,IntKind.u8.wrap (1*2^min m.val IntKind.u8.bits)=2^m.val/\(0:Int)<=2^m.val:=by decide +kernel
def J100(i J:Nat)(l:List Bool)(p:Hp)(n:Nat)(ρ:Env)(q:Hp): Prop:=
 ∃(k:Nat),n=l.length-k/\k<=l.length/\ρ 0=.ptr i []/\ρ 3=.slc p.n [] 0 ((l.length+7)/8)/\ρ 4=I k/\q.t.get p.n=some (.var (.n (List.replicate ((l.length+7)/8) .s)) (.agg ((outK l k).map Y8)))/\p.n<q.n/\HpLe p q
def R100: Rel:=fun args p r=>∃(i J:Nat) (l:List Bool),args=[.ptr i []]/\(p.t.get i=some (B1 J l))/\(B2 i J l p)/\(l.length<=1000000)/\(l≠[])/\r=.ret (Lst.cv Y8 (partB (packB l))) p
theorem t100{T:XCall}(h:Has T 100 R100)(i J:Nat)(l:List Bool){p:Hp}(h1:p.t.get i=some (B1 J l))(h2:B2 i J l p)(h3:l.length<=1000000)(h4:l≠[]): T 100 [.ptr i []] p=.ret (Lst.cv Y8 (partB (packB l))) p:=h _ _ _ ⟨i,J,l,rfl,h1,h2,h3,h4,rfl⟩
theorem zq100{A B:Prop}(k:B)(h:A=B:=by have zy:=zA @zw100<|zA @rs100<|zA @tt3<|zA @tt4<|zA @tt5<|zA @tt68<|zA @tt154<|zA @tt156<|zA @tt178<|zA ti3.eq_1<|zA ti4.eq_1<|zA ti5.eq_1<|zA ti68.eq_1<|zA ti154.eq_1<|zA ti156.eq_1<|zA ti178.eq_1<|zA @Y1h<|zA @zsl68<|zA @zsl154<|zA @mk68<|zA @ix68<|zA @a68<|zA @sa68<|zA @sub68b<|zA @h1<|zA @h2<|zA @h3<|@h4;exact zQ): A:=h▸k
theorem c100: Con C 100 R100:=by
 refine V0e C ?_ ?_ ?_
 ·rintro args p r r' ⟨i,J,l,h,h1,h2,h3,h4,e⟩ ⟨i',J',l',h',h1',h2',h3',h4',e'⟩
  subst e;subst e';(subst h;simp only[List.cons.injEq,CV.ptr.injEq,and_true,true_and]at h';subst h';have hu:=B_uniq h1 h1';rw[hu.1])
 ·rintro args p r ⟨i,J,l,h,h1,h2,h3,h4,rfl⟩;exact zr1
 rintro args p r ⟨i,J,l,rfl,h1,h2,h3,h4,rfl⟩
 show AnsAt C 100 [.ptr i []] p (.ret (.lst .part ((packB l).map Y8)) p)
 refine Q1f C (sh:=.n (List.replicate ((l.length+7)/8) .s)) (l:=(packB l).map Y8) (sz:=1) (fun x hx=>by obtain⟨y,_,rfl⟩:=List.mem_map.1 hx;rfl) (fun j hj=>(Z0h Y0l _ j hj).elim) ?_
 refine zW C false [] zT rfl xf100 zc100_ok fun call zh hF=>?_
 clear zh
 have hd_h1:=hF.dom _ _ h1
 have hi:=hF.dom _ _ h1
 have k1:=h1
 rw[B1_eq h4 (nofun)]at h1
 have hne:0<l.length:=List.length_pos_iff.2 h4
 have ht:((l.length:Int)+7).tdiv 8=(((l.length+7)/8:Nat):Int):=by rw[Int.tdiv_eq_ediv_of_nonneg (by omega)];omega
 have hN:1<=(l.length+7)/8/\(l.length+7)/8<=1000000:=by omega
 have hz:=outK_zero l
 have hfin:∀q:Hp,q.t.get p.n=some (.var (.n (List.replicate ((l.length+7)/8) .s)) (.agg ((packB l).map Y8)))->HpLe p q->ShrR p (.ret (.slc p.n [] 0 ((l.length+7)/8)) q) (.ret (.slc p.n [] 0 (packB l).length) (p.new (.var (.n (List.replicate ((l.length+7)/8) .s)) (.agg ((packB l).map Y8))))):=by
  intro q g1 hle
  rw[K0g]
  refine X1i (by show p.n<=p.n+1;omega) (fun j o h=>?_) ⟨rfl,Nat.lt_succ_self _,rfl,rfl,rfl⟩
  by_cases hj:j=p.n
  ·subst hj
   rw[Hp.get_new_self]at h;cases h
   exact⟨Nat.lt_succ_self _,.inr ⟨_,g1,V0h fun i hi=>by simp only[XObj.has,CV.has]at hi;exact(Z0h Y0l _ i hi).elim⟩⟩
  ·rw[Hp.get_new_ne _ _ hj]at h
   have hd:=hF.dom _ _ h
   exact⟨Nat.lt_succ_of_lt hd,.inl ⟨hd,h,hle j o h⟩⟩
 (have zx:=zA ht h1;refine zq100 ?_;try exact zT)
 repeat'(apply zK.s<;>intro hc<;>(try simp only[zhd]at hc)<;>(try have hw:=K0a hc)<;>(refine zq100 ?_;try exact zT))
 all_goals(try clear zx)
 (show W C false noExt call (ZC.loop Q2n) _ _ _);refine Y0g C false noExt call Q2n _ _ _ (J100 i J l p) l.length ⟨0,rfl,by omega,by simp[put_at,X0c,K0f],zev,(by simp[put_at,X0c,K0f]),by rw[hz];simp (disch:=first|exact zdl|fail) only[zheap],(zb9),zle⟩ ?_
 rintro n ρ q ⟨k,rfl,hk,e0,e3,e4,g1,hn,hle⟩
 have hlen:=X0r l k
 have h1:=hle _ _ h1
 by_cases hlt:(k:Int)<l.length
 ·have hkd:((k:Nat):Int).tdiv 8=((k/8:Nat):Int):=by rw[Int.tdiv_eq_ediv_of_nonneg (by omega)];omega
  have hkm:((k:Nat):Int).tmod 8=((k % 8:Nat):Int):=by rw[Int.tmod_eq_emod_of_nonneg (by omega)];omega
  have hk8:k/8<(l.length+7)/8:=by omega
  have hby:=outK_byte l k hk8
  have hby2:=outK_byte l (k+1) hk8
  cases hb:nth l k with
  |false=>
   have hst:=outK_same (l:=l) (k:=k) (by omega) hb
   (have zx:=zA e0 (zA e3 (zA e4 (zA g1 (zA h1 (zA hlt (zA hb h1))))));refine zq100 ?_;try exact zT)
   repeat'(apply zK.s<;>intro hc<;>(try simp only[zhd]at hc)<;>(try have hw:=K0a hc)<;>(refine zq100 ?_;try exact zT))
   all_goals(try clear zx)
   exact⟨l.length-(k+1),by omega,k+1,rfl,by omega,zev,zev,zev,by rw[hst];exact g1,hn,hle⟩
  |true=>
   have hst:=outK_step (l:=l) (k:=k) (by omega)
   rw[hb,show b2i true=1 from rfl,Int.one_mul]at hst
   have hm7:7-k % 8<8:=by omega
   obtain⟨hp,hp0⟩:=p7_all ⟨7-k % 8,hm7⟩
   simp only at hp hp0
   have hs:IntKind.u64.wrap (7-((k % 8:Nat):Int))=((7-k % 8:Nat):Int):=by
    show(7-((k % 8:Nat):Int)) % 2^64=_
    omega
   have hs0:¬((7-k % 8:Nat):Int)<0:=by omega
   have htn:(((7-k % 8:Nat):Int)).toNat=7-k % 8:=Int.toNat_natCast _
   have hsum:nth (outK l (k+1)) (k/8)=nth (outK l k) (k/8)+2^(7-k % 8):=by rw[hst,Q1i (by rw[hlen];exact hk8)]
   have hadd:IntKind.u8.wrap (nth (outK l k) (k/8)+2^(7-k % 8))=nth (outK l k) (k/8)+2^(7-k % 8):=by
    rw[<- hsum]
    generalize nth (outK l (k+1)) (k/8)=y at hby2
    show y % 2^8=y
    omega
   (have zx:=zA e0 (zA e3 (zA e4 (zA g1 (zA h1 (zA hlt (zA hb (zA hkd (zA hkm (zA hk8 (zA hs (zA hs0 (zA htn (zA hp (zA hadd h1))))))))))))));refine zq100 ?_;try exact zT)
   repeat'(apply zK.s<;>intro hc<;>(try simp only[zhd]at hc)<;>(try have hw:=K0a hc)<;>(refine zq100 ?_;try exact zT))
   all_goals(try clear zx)
   exact⟨l.length-(k+1),by omega,k+1,rfl,by omega,zev,zev,zev,by rw[hst];simp (disch:=first|exact zdl|fail) only[zheap]<;>rfl,zb9,zlq⟩
 ·have hk2:k=l.length:=by omega
  (have zx:=zA e0 (zA e3 (zA e4 (zA g1 (zA h1 (zA hlt h1)))));refine zq100 ?_;try exact zT)
  repeat'(apply zK.s<;>intro hc<;>(try simp only[zhd]at hc)<;>(try have hw:=K0a hc)<;>(refine zq100 ?_;try exact zT))
  all_goals(try clear zx)
  exact hfin q (by rw[g1,hk2,outK_all]) hle
theorem bld156: qbuild C 156 []=some (Z0d.mk (Lst.cv Bo ⟨.nil,[],fun _=>rfl⟩) (X1u _)).cv:=by
 simp only[qbuild,tt156,ti156,partsOk,setAll];rfl
theorem B1_nil: XObj.var sh156 (Z0d.mk (Lst.cv Bo ⟨.nil,[],fun _=>rfl⟩) (X1u _)).cv=B1 0 []:=rfl
theorem bHp_n0{i j:Nat}{m:List Bool}{p:Hp}{k:Nat}(h1:k≠i)(h3:k≠p.n): (bHp i j [] m p).t.get k=p.t.get k:=bHp_ne h1 (.inl rfl) h3
def R173: Rel:=fun args p r=>∃(b:Bool),args=[Bo b]/\r=.ret (I (flagI b)) p
theorem t173{T:XCall}(h:Has T 173 R173)(b:Bool){p:Hp}:T 173 [Bo b] p=.ret (I (flagI b)) p:=h _ _ _ ⟨b,rfl,rfl⟩
theorem zq173{A B:Prop}(k:B)(h:A=B:=by have zy:=zA @zw173<|@rs173;exact zQ): A:=h▸k
theorem zno173{P:Prop}(h:P:=by intro jj;simp[CV.has,CV.hasL,fault,X0b.nohas]): P:=h
theorem c173: Con C 173 R173:=by
 refine V0e C ?_ ?_ ?_
 ·rintro args p r r' ⟨b,h,e⟩ ⟨b',h',e'⟩
  subst e;subst e';simp_all
 ·rintro args p r ⟨b,h,rfl⟩;exact zr1
 rintro args p r ⟨b,rfl,rfl⟩
 refine zW C false [] zT rfl xf173 zc173_ok fun call zh hF=>?_
 clear zh
 cases b with
 |true=>
  (have zx:=zT;refine zq173 ?_;try exact zT)
  repeat'(apply zK.s<;>intro hc<;>(try simp only[zhd]at hc)<;>(try have hw:=K0a hc)<;>(refine zq173 ?_;try exact zT))
  all_goals(try clear zx)
  exact V0c hF zle (Q0d rfl (K0c zno173))
 |false=>
  (have zx:=zT;refine zq173 ?_;try exact zT)
  repeat'(apply zK.s<;>intro hc<;>(try simp only[zhd]at hc)<;>(try have hw:=K0a hc)<;>(refine zq173 ?_;try exact zT))
  all_goals(try clear zx)
  exact V0c hF zle (Q0d rfl (K0c zno173))
theorem BSt.step2{i j J J':Nat}{l m m':List Bool}{p q:Hp}(hd:∀k o,p.t.get k=some o->k<p.n)(e:J'=q.n)(h:BSt i j l p J m q): BSt i j l p J' m' (bHp i J m m' q):=by subst e;exact h.step hd m'
theorem BSt.new{i j J:Nat}{l m:List Bool}{p q:Hp}(hd:∀k o,p.t.get k=some o->k<p.n)(h:BSt i j l p J m q)(hj:J<q.n)(o:XObj): BSt i j l p J m (q.new o):=by
 have hi:i<q.n:=Nat.lt_of_lt_of_le h.hi h.hn
 refine⟨by rw[Hp.get_new_ne _ _ (by omega)];exact h.g,?_,h.hJ.imp id fun x=>⟨x.1,by rw[Hp.znew_n];omega⟩,h.hi,by rw[Hp.znew_n];have:=h.hn;omega,fun k o' a b c=>?_⟩
 ·rcases h.w with w|⟨w1,w2⟩
  ·exact .inl w
  ·exact .inr ⟨w1,by rw[Hp.get_new_ne _ _ (by omega)];exact w2⟩
 ·have hk:=hd k o' c
  have hn:=h.hn
  rw[Hp.get_new_ne _ _ (by omega)];exact h.hle k o' a b c
theorem BSt.newset{i j J:Nat}{l m:List Bool}{p q:Hp}(hd:∀k o,p.t.get k=some o->k<p.n)(h:BSt i j l p J m q)(hj:J<q.n)(o o':XObj): BSt i j l p J m ((q.new o).set q.n (some o')):=by
 have k:=h.new hd hj o
 have hi:i<q.n:=Nat.lt_of_lt_of_le h.hi h.hn
 have hn:=h.hn
 refine⟨by rw[Hp.get_set_ne _ _ _ (by omega)];exact k.g,?_,k.hJ.imp id fun x=>⟨x.1,by rw[Hp.zset_n];exact x.2⟩,k.hi,by rw[Hp.zset_n];exact k.hn,fun k' o1 a b c=>by have:=hd _ _ c;rw[Hp.get_set_ne _ _ _ (by omega)];exact k.hle k' o1 a b c⟩
 rcases k.w with w|⟨w1,w2⟩
 ·exact .inl w
 ·exact .inr ⟨w1,by rw[Hp.get_set_ne _ _ _ (by omega)];exact w2⟩
def R174: Rel:=fun args p r=>∃(i j:Nat) (l:List Bool) (x:Y0a),args=[.ptr i [],x.cv]/\(p.t.get i=some (B1 j l))/\(B2 i j l p)/\(l.length<=800000)/\r=.ret (.tup []) (bHp i j l (l++inBits x) p)
theorem t174{T:XCall}(h:Has T 174 R174)(i j:Nat)(l:List Bool)(x:Y0a){p:Hp}(h1:p.t.get i=some (B1 j l))(h2:B2 i j l p)(h3:l.length<=800000): T 174 [.ptr i [],x.cv] p=.ret (.tup []) (bHp i j l (l++inBits x) p):=h _ _ _ ⟨i,j,l,x,rfl,h1,h2,h3,rfl⟩
theorem zdis174{P:Prop}(h:P:=by first|exact zdis|(exact zdb1)|(exact zdb)|(exact B2_nil _ _ _)|(refine B2_in ?_ ?_<;>exact zdb)|(simp only[Hp.bump_n,Hp.znew_n,Hp.zset_n,List.length_nil,List.length_cons,List.length_append,List.length_map,X0e];(first|done|omega))|(simp (disch:=first|exact zd1|(simp only[Hp.bump_n,Hp.znew_n,Hp.zset_n,List.length_nil,List.length_cons,List.length_append,List.length_map,X0e];(first|done|omega))) only[zheap,zx];(first|done|rfl))|fail): P:=h
theorem zq174{A B:Prop}(k:B)(h:A=B:=by have zy:=zA @zw174<|zA @rs174<|zA @tt3<|zA @tt36<|zA ti3.eq_1<|zA ti36.eq_1<|zA @t_98<|zA @Q0f<|zA @Y0t<|zA @bHp_i<|zA @bHp_eq<|zA @bHp_nj<|zA @bHp_n<|zA @h1<|zA @h2<|@h3;have zd:=@zdis174;exact zQd): A:=h▸k
theorem c174: Con C 174 R174:=by
 refine V0e C ?_ ?_ ?_
 ·rintro args p r r' ⟨i,j,l,x,h,h1,h2,h3,e⟩ ⟨i',j',l',x',h',h1',h2',h3',e'⟩
  subst e;subst e';(subst h;simp only[List.cons.injEq,CV.ptr.injEq,Y0a.inj_iff,and_true,true_and]at h';obtain⟨e1,e2⟩:=h';subst e1;subst e2;have hu:=B_uniq h1 h1';rw[X2g _ hu,hu.1])
 ·rintro args p r ⟨i,j,l,x,h,h1,h2,h3,rfl⟩;exact zr1
 rintro args p r ⟨i,j,l,x,rfl,h1,h2,h3,rfl⟩
 refine zW C false [(98,R98)] ⟨c98,zT⟩ rfl xf174 zc174_ok fun call zh hF=>?_
 have t_98:=@t98 _ zh.1
 clear zh
 have hd_h1:=hF.dom _ _ h1
 have hi:=hF.dom _ _ h1
 have hw:=hF.dom
 have hjn:l=[]\/j<p.n:=by
  rcases h2 with h|h
  ·exact .inl h
  ·exact .inr (hw _ _ h.2)
 have hS0:=BSt.new0 hw h1 h2 hi (.var sh36 x.cv)
 have hW0:=hS0.w
 have hbx:∀m,(bHp i j l m (p.new (.var sh36 x.cv))).t.get p.n=some (.var sh36 x.cv):=fun m=>by rw[bHp_ne (by omega) (hjn.imp id fun h=>by omega) (by rw[Hp.znew_n];omega),Hp.get_new_self]
 (have zx:=zA hbx h1;refine zq174 ?_;try exact zT)
 repeat'(apply zK.s<;>intro hc<;>(try simp only[zhd]at hc)<;>(try have hw:=K0a hc)<;>(refine zq174 ?_;try exact zT))
 all_goals(try clear zx)
 have hbb:l++bitsOf x.Buttons 8++bitsOf x.X 8++bitsOf x.Y 8=l++inBits x:=by simp only[inBits,List.append_assoc]
 rw[<- hbb]
 exact((BSt.step2 (J':=p.n+1+1) hw zdb1 (BSt.step2 (J':=p.n+1) hw zdb1 hS0)).step hw _).fin hF h1 h2 (by rw[hbb];exact app_ne (K0q x)) (Q0l _ _)
noncomputable def q123(a:Q0a)(p:Hp): Hp:=(p.new (.var sh94 a.cv)).new (B1 0 [])
theorem Q18(a:Q0a)(p:Hp): (q123 a p).n=p.n+1+1:=rfl
theorem q123_dom{a:Q0a}{p:Hp}(h:∀k o,p.t.get k=some o->k<p.n): ∀k o,(q123 a p).t.get k=some o->k<(q123 a p).n:=fun k o hk=>by
 rw[Q18]
 by_cases h1:k=p.n+1
 ·omega
 ·by_cases h2:k=p.n
  ·omega
  ·rw[q123,Hp.get_new_ne _ _ (by rw[Hp.znew_n];omega),Hp.get_new_ne _ _ h2]at hk
   have:=h _ _ hk
   omega
theorem q123_le{a:Q0a}{p:Hp}(h:∀k o,p.t.get k=some o->k<p.n): HpLe p (q123 a p):=fun k o hk=>by
 have:=h _ _ hk
 rw[q123,Hp.get_new_ne _ _ (by rw[Hp.znew_n];omega),Hp.get_new_ne _ _ (by omega)];exact hk
theorem q123_a(a:Q0a)(p:Hp): (q123 a p).t.get p.n=some (.var sh94 a.cv):=by
 rw[q123,Hp.get_new_ne _ _ (by rw[Hp.znew_n];omega),Hp.get_new_self]
def K123(a:Q0a)(p:Hp)(ρ:Env)(q:Hp): Prop:=
 ρ 3=.ptr (p.n+1) []/\∃J,BSt (p.n+1) 0 [] (q123 a p) J (packBits a) q
def J123(a:Q0a)(p:Hp)(n:Nat)(ρ:Env)(q:Hp): Prop:=
 ∃k J:Nat,n=a.Inputs.l.length-k/\k<=a.Inputs.l.length/\ρ 1=.ptr p.n []/\ρ 3=.ptr (p.n+1) []/\ρ 4=I k/\J<q.n/\BSt (p.n+1) 0 [] (q123 a p) J (packHead a++inputsHead a++(a.Inputs.l.take k).flatMap inBits) q
def L123(a:Q0a)(p:Hp)(n:Nat)(ρ:Env)(q:Hp): Prop:=
 ∃i J:Nat,n=a.Rows.l.length-i/\i<=a.Rows.l.length/\ρ 1=.ptr p.n []/\ρ 3=.ptr (p.n+1) []/\ρ 5=I i/\J<q.n/\BSt (p.n+1) 0 [] (q123 a p) J (packHead a++rowsHead a++(flat (a.Rows.l.take i)).flatMap cellBits) q
def M123(a:Q0a)(i:Nat)(p:Hp)(n:Nat)(ρ:Env)(q:Hp): Prop:=
 ∃k J:Nat,n=(nth a.Rows.l i).l.length-k/\k<=(nth a.Rows.l i).l.length/\ρ 1=.ptr p.n []/\ρ 3=.ptr (p.n+1) []/\ρ 5=I i/\ρ 6=I k/\J<q.n/\BSt (p.n+1) 0 [] (q123 a p) J (packHead a++rowsHead a++(flat (a.Rows.l.take i)).flatMap cellBits++((nth a.Rows.l i).l.take k).flatMap cellBits) q
def R123: Rel:=fun args p r=>∃(a:Q0a),args=[a.cv]/\(packSm a)/\r=.ret (Lst.cv Y8 (partB (packB (packBits a)))) p
theorem t123{T:XCall}(h:Has T 123 R123)(a:Q0a){p:Hp}(h1:packSm a): T 123 [a.cv] p=.ret (Lst.cv Y8 (partB (packB (packBits a)))) p:=h _ _ _ ⟨a,rfl,h1,rfl⟩
theorem zdis123{P:Prop}(h:P:=by first|exact zdis|(exact zdb1)|(exact zdb)|(exact B2_nil _ _ _)|(refine B2_in ?_ ?_<;>exact zdb)|(simp only[Hp.bump_n,Hp.znew_n,Hp.zset_n,List.length_nil,List.length_cons,List.length_append,List.length_map,X0e];(first|done|omega))|(simp (disch:=first|exact zd1|(simp only[Hp.bump_n,Hp.znew_n,Hp.zset_n,List.length_nil,List.length_cons,List.length_append,List.length_map,X0e];(first|done|omega))) only[zheap,zx];(first|done|rfl))|fail): P:=h
theorem zq123{A B:Prop}(k:B)(h:A=B:=by have zy:=zA @zw123<|zA @rs123<|zA @tt3<|zA @tt4<|zA @tt25<|zA @tt36<|zA @tt91<|zA @tt92<|zA @tt94<|zA @tt108<|zA @tt110<|zA @tt156<|zA ti3.eq_1<|zA ti4.eq_1<|zA ti25.eq_1<|zA ti36.eq_1<|zA ti91.eq_1<|zA ti92.eq_1<|zA ti94.eq_1<|zA ti108.eq_1<|zA ti110.eq_1<|zA ti156.eq_1<|zA @t_98<|zA @t_99<|zA @t_100<|zA @t_173<|zA @t_174<|zA @K0e<|zA @Q0f<|zA @Y0f<|zA @zsl91<|zA @zsl92<|zA @zsl108<|zA @bld156<|zA @Z0d.xbox<|zA @B1_nil<|zA @Y0t<|zA @bHp_i<|zA @bHp_eq<|zA @bHp_n0<|zA @bHp_nj<|zA @bHp_n<|@h1;have zd:=@zdis123;exact zQd): A:=h▸k
theorem c123: Con C 123 R123:=by
 refine V0e C ?_ ?_ ?_
 ·rintro args p r r' ⟨a,h,h1,e⟩ ⟨a',h',h1',e'⟩
  subst e;subst e';simp_all[Q0a.inj_iff,Y0a.inj_iff,X0a.inj_iff,Y0k,Y0i,Q0i]
 ·rintro args p r ⟨a,h,h1,rfl⟩;exact zr1
 rintro args p r ⟨a,rfl,h1,rfl⟩
 refine zW C false [(98,R98),(99,R99),(100,R100),(173,R173),(174,R174)] ⟨c98,c99,c100,c173,c174,zT⟩ rfl xf123 zc123_ok fun call zh hF=>?_
 have t_98:=@t98 _ zh.1
 have t_99:=@t99 _ zh.2.1
 have t_100:=@t100 _ zh.2.2.1
 have t_173:=@t173 _ zh.2.2.2.1
 have t_174:=@t174 _ zh.2.2.2.2.1
 clear zh
 have hI:=h1.1
 have hR:=h1.2
 have hR8:=hR.1
 have hpl:=Q0q h1
 have hpn:=X0x a
 have hw:=hF.dom
 have hqd:=q123_dom (a:=a) hw
 have main:∀ρ q,K123 a p ρ q->W C false noExt call (ZC.seq V1c ZC.ret) ρ q (endQ C (xfOf Try.f123).rs fun r'=>ShrR p r' (.ret (Lst.cv Y8 (partB (packB (packBits a)))) p)):=by
  rintro ρ q ⟨e3,J,hS⟩
  have g1:=hS.g
  have g2:=hS.w
  have hJ:(q123 a p).n<=J:=by
   rcases hS.hJ with h|h
   ·exact absurd h.1 hpn
   ·exact h.1
  rw[Q18]at hJ
  have g2':=(g2.resolve_left hpn).2
  (have zx:=zA e3 (zA g1 g2);refine zq123 ?_;try exact zT)
  repeat'(apply zK.s<;>intro hc<;>(try simp only[zhd]at hc)<;>(try have hw:=K0a hc)<;>(refine zq123 ?_;try exact zT))
  all_goals(try clear zx)
  exact V0c hF (fun k o h=>by have hd:=hw k o h;exact hS.hle k o (by omega) (.inl rfl) (q123_le hw k o h)) (V0d (K0c (by intro jj;simp[CV.has,CV.hasL,Lst.cv,partB,Z0h Y0l])))
 have hS0:BSt (p.n+1) 0 [] (q123 a p) 0 [] (q123 a p):=BSt.start (by rw[q123];exact Hp.get_new_self _ _) (B2_nil _ _ _) (by rw[Q18];omega)
 show W C false noExt call (ZC.seq zn123_1 (ZC.seq zn123_3 (ZC.seq zn123_5 (ZC.seq zn123_7 (ZC.seq zn123_9 (ZC.seq Y2a (ZC.seq Q2l (ZC.seq Z2a (ZC.seq (ZC.seq Q2c (ZC.block 0 (ZC.seq X2b (ZC.cond (Tm 37) (ZC.seq X2c (ZC.seq V2f (ZC.seq Z2c (ZC.seq X2l (ZC.block 1 (ZC.loop Y09)))))) (ZC.seq V2n (ZC.cond (Tm 66) (ZC.seq V2c (ZC.seq Y2i (ZC.seq V2e (ZC.seq Q2d (ZC.block 3 (ZC.loop V1a)))))) (ZC.seq Z2h (ZC.cond (Tm 117) (ZC.seq V2a Q2e) ZC.skip)))))))) (ZC.seq V1c ZC.ret)))))))))) _ _ _
 obtain⟨R,hRR⟩:∃R,R=(ZC.seq V1c ZC.ret):=⟨_,rfl⟩
 rw[<- hRR]at main ⊢
 by_cases h2:a.Kind=2
 ·have hpb:packBits a=packHead a++inputsHead a++a.Inputs.l.flatMap inBits:=by rw[packBits,if_pos h2,List.append_assoc]
  (have zx:=h2;refine zq123 ?_;try exact zT)
  repeat'(apply zK.s<;>intro hc<;>(try simp only[zhd]at hc)<;>(try have hw:=K0a hc)<;>(refine zq123 ?_;try exact zT))
  all_goals(try clear zx)
  (show W C false noExt call (ZC.loop Y09) _ _ _);refine Y0g C false noExt call Y09 _ _ _ (J123 a p) a.Inputs.l.length ⟨0,p.n+1+1+1+1+1+1+1+1+1+1,rfl,by omega,zev,zev,zev,zdb1,?_⟩ ?_
  ·rw[List.take_zero,List.flatMap_nil,List.append_nil]
   simp only[packHead,inputsHead,h2,<- List.append_assoc]
   iterate 9 refine BSt.step2 hqd zdb1 ?_
   exact hS0
  rintro n ρ q ⟨k,J,rfl,hk,e1,e3,e4,hJq,hS⟩
  have hlk:((a.Inputs.l.take k).flatMap inBits).length<=24000:=by rw[ins_len,List.length_take];omega
  have hhl:=V0i a
  have hil:=V0n a
  have hn:=hS.hn
  rw[Q18]at hn
  have g3:=hS.hle p.n _ (by omega) (.inl rfl) (q123_a a p)
  by_cases hlt:(k:Int)<a.Inputs.l.length
  ·have g1:=hS.g
   have g2:=hS.w
   have hft:=Q0n inBits a.Inputs.l (k:=k) (by omega)
   (have zx:=zA e1 (zA e3 (zA e4 (zA hlt (zA g1 (zA g2 g3)))));refine zq123 ?_;try exact zT)
   repeat'(apply zK.s<;>intro hc<;>(try simp only[zhd]at hc)<;>(try have hw:=K0a hc)<;>(refine zq123 ?_;try exact zT))
   all_goals(try clear zx)
   refine⟨a.Inputs.l.length-(k+1),by omega,k+1,q.n,rfl,by omega,zev,zev,zev,zdb1,?_⟩
   rw[hft,<- List.append_assoc]
   exact BSt.step2 hqd zdb1 hS
  ·have hkk:k=a.Inputs.l.length:=by omega
   rw[hkk,List.take_length,<- hpb]at hS
   (have zx:=zA e1 (zA e3 (zA e4 (zA hlt g3)));refine zq123 ?_;try exact zT)
   repeat'(apply zK.s<;>intro hc<;>(try simp only[zhd]at hc)<;>(try have hw:=K0a hc)<;>(refine zq123 ?_;try exact zT))
   all_goals(try clear zx)
   exact main _ _ ⟨zev,J,hS⟩
 ·by_cases h3:a.Kind=3
  ·have hpb:packBits a=packHead a++rowsBits a:=by rw[packBits,if_neg h2,if_pos h3]
   (have zx:=zA h2 h3;refine zq123 ?_;try exact zT)
   repeat'(apply zK.s<;>intro hc<;>(try simp only[zhd]at hc)<;>(try have hw:=K0a hc)<;>(refine zq123 ?_;try exact zT))
   all_goals(try clear zx)
   (show W C false noExt call (ZC.loop V1a) _ _ _);refine Y0g C false noExt call V1a _ _ _ (L123 a p) a.Rows.l.length ⟨0,p.n+1+1+1+1+1+1+1+1+1+1,rfl,by omega,zev,zev,zev,zdb1,?_⟩ ?_
   ·rw[List.take_zero,flat,List.flatMap_nil,List.flatMap_nil,List.append_nil]
    simp only[packHead,rowsHead,h3,<- List.append_assoc]
    iterate 9 refine BSt.step2 hqd zdb1 ?_
    exact hS0
   rintro n ρ q ⟨i,J,rfl,hi,e1,e3,e5,hJq,hS⟩
   have hfl:∀i,((flat (a.Rows.l.take i)).flatMap cellBits).length<=1600:=fun i=>by
    have h1:=Q01 (flat (a.Rows.l.take i))
    have h2:=V0o a.Rows.l i
    have h3:=hR.flat
    omega
   have hli:=hfl i
   have hhl:=V0i a
   have hil:=Z0q a
   have hn:=hS.hn
   rw[Q18]at hn
   have g3:=hS.hle p.n _ (by omega) (.inl rfl) (q123_a a p)
   by_cases hlt:(i:Int)<a.Rows.l.length
   ·have hst:=X1a (l:=a.Rows.l) (k:=i) (by omega)
    have hrl:=(hR.2 (nth a.Rows.l i) (by rw[Y0h (by omega)];exact List.getElem_mem _)).2
    (have zx:=zA e1 (zA e3 (zA e5 (zA hlt g3)));refine zq123 ?_;try exact zT)
    repeat'(apply zK.s<;>intro hc<;>(try simp only[zhd]at hc)<;>(try have hw:=K0a hc)<;>(refine zq123 ?_;try exact zT))
    all_goals(try clear zx)
    (show W C false noExt call (ZC.loop K1l) _ _ _);refine Y0g C false noExt call K1l _ _ _ (M123 a i p) (nth a.Rows.l i).l.length ⟨0,J,rfl,by omega,zev,zev,zev,zev,hJq,by rw[List.take_zero,List.flatMap_nil,List.append_nil];exact hS⟩ ?_
    clear e1 e3 e5 hJq hS hn g3
    rintro n ρ q ⟨k,J,rfl,hk,e1,e3,e5,e6,hJq,hS⟩
    have hlk:=Q01 ((nth a.Rows.l i).l.take k)
    rw[List.length_take]at hlk
    have hn:=hS.hn
    rw[Q18]at hn
    have g3:=hS.hle p.n _ (by omega) (.inl rfl) (q123_a a p)
    by_cases hlt2:(k:Int)<(nth a.Rows.l i).l.length
    ·have hS1:=hS.newset hqd hJq (.var sh110 X0a.zero.cv) (.var sh110 (nth (nth a.Rows.l i).l k).cv)
     have g1:=hS1.g
     have g2:=hS1.w
     have hft:=Q0n cellBits (nth a.Rows.l i).l (k:=k) (by omega)
     generalize hcc:nth (nth a.Rows.l i).l k=c at hS1 g1 g2 hft
     cases hr:c.Real with
     |true=>
      have hcb:cellBits c=bitsOf (flagI true) 1++inBits c.In:=by simp[cellBits,hr]
      (have zx:=zA e1 (zA e3 (zA e5 (zA e6 (zA hlt (zA hlt2 (zA g1 (zA g2 (zA g3 (zA hcc hr)))))))));refine zq123 ?_;try exact zT)
      repeat'(apply zK.s<;>intro hc<;>(try simp only[zhd]at hc)<;>(try have hw:=K0a hc)<;>(refine zq123 ?_;try exact zT))
      all_goals(try clear zx)
      refine⟨(nth a.Rows.l i).l.length-(k+1),by omega,k+1,q.n+1+1,rfl,by omega,zev,zev,zev,zev,zdb1,?_⟩
      rw[hft,hcb,<- List.append_assoc,<- List.append_assoc]
      exact BSt.step2 hqd zdb1 (BSt.step2 (J':=q.n+1) hqd zdb1 hS1)
     |false=>
      have hcb:cellBits c=bitsOf (flagI false) 1:=by simp[cellBits,hr]
      (have zx:=zA e1 (zA e3 (zA e5 (zA e6 (zA hlt (zA hlt2 (zA g1 (zA g2 (zA g3 (zA hcc hr)))))))));refine zq123 ?_;try exact zT)
      repeat'(apply zK.s<;>intro hc<;>(try simp only[zhd]at hc)<;>(try have hw:=K0a hc)<;>(refine zq123 ?_;try exact zT))
      all_goals(try clear zx)
      refine⟨(nth a.Rows.l i).l.length-(k+1),by omega,k+1,q.n+1,rfl,by omega,zev,zev,zev,zev,zdb1,?_⟩
      rw[hft,hcb,<- List.append_assoc]
      exact BSt.step2 hqd zdb1 hS1
    ·have hkk:k=(nth a.Rows.l i).l.length:=by omega
     rw[hkk,List.take_length]at hS
     (have zx:=zA e1 (zA e3 (zA e5 (zA e6 (zA hlt (zA hlt2 g3)))));refine zq123 ?_;try exact zT)
     repeat'(apply zK.s<;>intro hc<;>(try simp only[zhd]at hc)<;>(try have hw:=K0a hc)<;>(refine zq123 ?_;try exact zT))
     all_goals(try clear zx)
     refine⟨a.Rows.l.length-(i+1),by omega,i+1,J,rfl,by omega,zev,zev,zev,hJq,?_⟩
     rw[hst,List.flatMap_append,<- List.append_assoc]
     exact hS
   ·have hie:i=a.Rows.l.length:=by omega
    rw[hie,List.take_length]at hS
    have hpb2:packHead a++rowsHead a++(flat a.Rows.l).flatMap cellBits=packBits a:=by rw[hpb,rowsBits,List.append_assoc]
    rw[hpb2]at hS
    (have zx:=zA e1 (zA e3 (zA e5 (zA hlt g3)));refine zq123 ?_;try exact zT)
    repeat'(apply zK.s<;>intro hc<;>(try simp only[zhd]at hc)<;>(try have hw:=K0a hc)<;>(refine zq123 ?_;try exact zT))
    all_goals(try clear zx)
    exact main _ _ ⟨zev,J,hS⟩
  ·by_cases h4:a.Kind=4
   ·have hpb:packBits a=packHead a++(bitsOf a.Frame 10++bitsOf a.Mark 62):=by rw[packBits,if_neg h2,if_neg h3,if_pos h4]
    (have zx:=zA h2 (zA h3 h4);refine zq123 ?_;try exact zT)
    repeat'(apply zK.s<;>intro hc<;>(try simp only[zhd]at hc)<;>(try have hw:=K0a hc)<;>(refine zq123 ?_;try exact zT))
    all_goals(try clear zx)
    refine main _ _ ⟨zev,p.n+1+1+1+1+1+1+1+1+1,?_⟩
    rw[hpb]
    simp only[packHead,h4,<- List.append_assoc]
    iterate 8 refine BSt.step2 hqd zdb1 ?_
    exact hS0
   ·have hpb:packBits a=packHead a:=by rw[packBits,if_neg h2,if_neg h3,if_neg h4,List.append_nil]
    (have zx:=zA h2 (zA h3 h4);refine zq123 ?_;try exact zT)
    repeat'(apply zK.s<;>intro hc<;>(try simp only[zhd]at hc)<;>(try have hw:=K0a hc)<;>(refine zq123 ?_;try exact zT))
    all_goals(try clear zx)
    refine main _ _ ⟨zev,p.n+1+1+1+1+1+1+1,?_⟩
    rw[hpb]
    simp only[packHead,<- List.append_assoc]
    iterate 6 refine BSt.step2 hqd zdb1 ?_
    exact hS0
end Go.Proofs.Ytpchcfkebljopaa
end
section
namespace Go.Proofs.Ytpchcfkebljopaa
open Go.Cl Go Go.RowKit
def xor8(a b:Int): Int:=IntKind.u8.wrap ((BitVec.ofInt IntKind.u8.bits a ^^^ BitVec.ofInt IntKind.u8.bits b).toNat:Int)
theorem xor8_n(a b:Int): xor8 a b=((BitVec.ofInt 8 a ^^^ BitVec.ofInt 8 b).toNat:Int):=by
 have h:=(BitVec.ofInt 8 a ^^^ BitVec.ofInt 8 b).isLt
 show((BitVec.ofInt 8 a ^^^ BitVec.ofInt 8 b).toNat:Int) % 2^8=_
 omega
theorem xor8_rng(a b:Int): 0<=xor8 a b/\xor8 a b<=255:=by
 have h:=(BitVec.ofInt 8 a ^^^ BitVec.ofInt 8 b).isLt
 rw[xor8_n];omega
def turned(B:List Int)(k:Nat)(b:Int): List Int:=B.set k (xor8 (nth B k) b)
theorem turned_byte{B:List Int}(h:∀x∈B,0<=x/\x<=255)(k:Nat)(b:Int): ∀x∈turned B k b,0<=x/\x<=255:=by
 intro x hx
 rcases List.mem_or_eq_of_mem_set hx with h'|h'
 ·exact h x h'
 ·rw[h'];exact xor8_rng _ _
end Go.Proofs.Ytpchcfkebljopaa
end
section
namespace Go.Proofs.Ytpchcfkebljopaa
open Go.Cl Go Go.RowKit
set_option maxRecDepth 100000
set_option linter.constructorNameAsVariable false
theorem app68m(p:Hp)(s:Lst Int)(h0:s.l≠[])(hl:s.l.length<=140737488355328): xappend C true p 68 68 (Lst.cv Y8 ⟨.exact,[],nofun⟩) (Lst.cv Y8 s)=.ret (.slc p.n [] 0 s.l.length) (p.new (Wrow s.l)):=by
 obtain⟨tl,l,o⟩:=s
 simp only at h0 hl ⊢
 cases l with
 |nil=>exact absurd rfl h0
 |cons x l=>
  have ha:allSh ((x::l).map Y8) sh5=true:=X0w (fun x=>rfl) (x::l)
  simp only[List.map_cons]at ha
  simp only[List.length_cons]at hl
  have h3:Nat.ble ((0+(l.length+1))*1) 140737488355328=true:=Nat.ble_eq_true_of_le (by omega)
  have h4:Nat.ble (0+(l.length+1)) 9223372036854775807=true:=Nat.ble_eq_true_of_le (by omega)
  simp only[xappend,tt68,ti68,tt5,ti5,cond_true,Lst.cv,xsrc,srcOf,List.map_cons,List.map_nil,ha,xappmut,List.length_cons,List.length_nil,List.length_map,h3,h4,Wrow]
  simp[allSh,Tail.full]
theorem shr_row{args:List CV}{p p' q0:Hp}{v u:CV}{J:Nat}{B:List Int}(hF:Fine args p)(hn:q0.n=p.n)(hq:∀k o,q0.t.get k=some o->p.t.get k=some o/\k≠J/\p'.t.get k=some o)(hT:p'.t.get J=some (Wrow B))(hv:CV.weak (ren p.n J) (p.n+1) v u): ShrR p (.ret v p') (.ret u (q0.new (Wrow B))):=
 Y0y hF (J:=J) hn (fun k o h=>⟨hF.dom k o (hq k o h).1,(hq k o h).2.1,.inl ⟨(hq k o h).1,(hq k o h).2.2⟩⟩) ⟨_,hT,Z12 _ _ _⟩ hv
theorem Z2k(p J m:Nat): CV.weak (ren p J) (p+1) (.slc J [] 0 m) (.slc p [] 0 m):=by simp[CV.weak,ren]
theorem Z1z(B:List Int): Wrow B=.var (.n (List.replicate B.length .s)) (.agg (B.map Y8)):=rfl
theorem sub68(n k:Nat)(q:List Nat): subEq (.n (List.replicate n .s)) (k::q) sh5=(decide (k<n)&&subEq sh5 q sh5):=V2l n k q sh5 sh5
theorem xor8_e(a b:Int): IntKind.u8.wrap ((BitVec.ofInt IntKind.u8.bits a ^^^ BitVec.ofInt IntKind.u8.bits b).toNat:Int)=xor8 a b:=rfl
def R7: Rel:=fun args p r=>∃(x:Z0a) (l:Lst (Lst Int)) (at_ by_:Int),args=[x.cv,Lst.cv (Lst.cv I) l,I at_,Y8 by_]/\(0<=by_/\by_<=255)/\r=.ret (Bo true) p
theorem t7{T:XCall}(h:Has T 7 R7)(x:Z0a)(l:Lst (Lst Int))(at_ by_:Int){p:Hp}(hb:0<=by_/\by_<=255): T 7 [x.cv,Lst.cv (Lst.cv I) l,I at_,Y8 by_] p=.ret (Bo true) p:=h _ _ _ ⟨x,l,at_,by_,rfl,hb,rfl⟩
theorem src68(p:Hp)(j:Nat)(B:List Int)(hg:p.t.get j=some (Wrow B)): srcOf C p.h 68 (.slc j [] 0 B.length)=some (B.map Y8):=by
 have ht:tgt p.h (.ptr j [])=some (.agg (B.map Y8)):=by
  simp only[tgt,Hp.h,hg,Wrow,Option.map_some,XObj.obj,CV.at]
 have hk:List.take B.length (B.map Y8)=B.map Y8:=List.take_of_length_le (by simp)
 simp only[srcOf,tt68,ti68,ht]
 simp[hk]
theorem nil_slc(j n:Nat): nilness (.slc j [] 0 n)=some false:=nd rfl
def J96r(s:Lst Int)(j:Nat)(B:List Int)(p:Hp)(n:Nat)(ρ:Env)(q:Hp): Prop:=
 ∃k:Nat,n=s.l.length-k/\k<=s.l.length/\ρ 0=s.cv Y8/\ρ 1=.slc j [] 0 B.length/\ρ 12=I s.l.length/\ρ 13=I k/\(∀j,j<k->nth s.l j=nth B j)/\HpLe p q
def R96r: Rel:=fun args p r=>∃(s:Lst Int) (j:Nat) (B:List Int),args=[s.cv Y8,.slc j [] 0 B.length]/\(s.l.length<=140737488355328)/\(B.length<=140737488355328)/\(p.t.get j=some (Wrow B))/\r=.ret (Bo (decide (s.l=B))) p
theorem t96r{T:XCall}(h:Has T 96 R96r)(s:Lst Int)(j:Nat)(B:List Int){p:Hp}(h1:s.l.length<=140737488355328)(h2:B.length<=140737488355328)(h3:p.t.get j=some (Wrow B)): T 96 [s.cv Y8,.slc j [] 0 B.length] p=.ret (Bo (decide (s.l=B))) p:=h _ _ _ ⟨s,j,B,rfl,h1,h2,h3,rfl⟩
theorem zq96r{A B:Prop}(k:B)(h:A=B:=by have zy:=zA @zw96<|zA @rs96<|zA @tt3<|zA @tt5<|zA @tt68<|zA ti3.eq_1<|zA ti5.eq_1<|zA ti68.eq_1<|zA @zsl68<|zA @ix68<|zA @a68<|zA @Z1z<|zA @sub68<|zA @h1<|zA @h2<|@h3;exact zQ): A:=h▸k
theorem zno96r{P:Prop}(h:P:=by intro jj;simp[CV.has,CV.hasL,fault,X0b.nohas]): P:=h
theorem c96r: Con C 96 R96r:=by
 refine V0e C ?_ ?_ ?_
 ·rintro args p r r' ⟨s,j,B,h,h1,h2,h3,e⟩ ⟨s',j',B',h',h1',h2',h3',e'⟩
  subst e;subst e';(subst h;simp only[List.cons.injEq,X0f,CV.slc.injEq,and_true,true_and]at h';obtain⟨e0,e1,_⟩:=h';subst e0;subst e1;rw[h3]at h3';rw[Z0n (Option.some.inj h3')])
 ·rintro args p r ⟨s,j,B,h,h1,h2,h3,rfl⟩;exact zr1
 rintro args p r ⟨s,j,B,rfl,h1,h2,h3,rfl⟩
 refine zW C false [] zT rfl xf96 zc96_ok fun call zh hF=>?_
 clear zh
 have hd_h3:=hF.dom _ _ h3
 by_cases hlen:s.l.length=B.length
 ·have hl2:(s.l.length:Int)=B.length:=by omega
  (have zx:=zA hl2 h3;refine zq96r ?_;try exact zT)
  repeat'(apply zK.s<;>intro hc<;>(try simp only[zhd]at hc)<;>(try have hw:=K0a hc)<;>(refine zq96r ?_;try exact zT))
  all_goals(try clear zx)
  (show W C false noExt call (ZC.loop Y1f) _ _ _);refine Y0g C false noExt call Y1f _ _ _ (J96r s j B p) s.l.length ⟨0,rfl,by omega,by simp[put_at,X0c,K0f],by simp[put_at,X0c,K0f,K0j],by simp[put_at,X0c,hl2],zev,fun j hj=>by omega,zle⟩ ?_
  rintro n ρ q ⟨k,rfl,hk2,e0,e1,e12,e13,hj,hle⟩
  have g1:=hle _ _ h3
  by_cases hlt:(k:Int)<s.l.length
  ·have hlt2:(k:Int)<B.length:=by omega
   have hlt3:k<B.length:=by omega
   by_cases hne:nth s.l k=nth B k
   ·(have zx:=zA e0 (zA e1 (zA e12 (zA e13 (zA g1 (zA hlt (zA hlt2 (zA hlt3 (zA hne h3))))))));refine zq96r ?_;try exact zT)
    repeat'(apply zK.s<;>intro hc<;>(try simp only[zhd]at hc)<;>(try have hw:=K0a hc)<;>(refine zq96r ?_;try exact zT))
    all_goals(try clear zx)
    exact⟨s.l.length-(k+1),by omega,k+1,rfl,by omega,zev,zev,zev,zev,fun j hjk=>by
     by_cases h:j=k
     ·rw[h];exact hne
     ·exact hj j (by omega),zlq⟩
   ·(have zx:=zA e0 (zA e1 (zA e12 (zA e13 (zA g1 (zA hlt (zA hlt2 (zA hlt3 (zA hne h3))))))));refine zq96r ?_;try exact zT)
    repeat'(apply zK.s<;>intro hc<;>(try simp only[zhd]at hc)<;>(try have hw:=K0a hc)<;>(refine zq96r ?_;try exact zT))
    all_goals(try clear zx)
    have hl:¬s.l=B:=fun h=>hne (by rw[h])
    exact V0c hF zlq (Q0d (by simp[hl]) (K0c (by intro jj;simp[CV.has])))
  ·have hl:s.l=B:=K0v hlen fun j h=>hj j (by omega)
   (have zx:=zA e0 (zA e1 (zA e12 (zA e13 (zA g1 (zA hlt h3)))));refine zq96r ?_;try exact zT)
   repeat'(apply zK.s<;>intro hc<;>(try simp only[zhd]at hc)<;>(try have hw:=K0a hc)<;>(refine zq96r ?_;try exact zT))
   all_goals(try clear zx)
   exact V0c hF zlq (Q0d (by simp[hl]) (K0c (by intro jj;simp[CV.has])))
 ·have hl2:¬(s.l.length:Int)=B.length:=by omega
  have hne:¬s.l=B:=fun e=>hlen (by rw[e])
  (have zx:=zA hl2 h3;refine zq96r ?_;try exact zT)
  repeat'(apply zK.s<;>intro hc<;>(try simp only[zhd]at hc)<;>(try have hw:=K0a hc)<;>(refine zq96r ?_;try exact zT))
  all_goals(try clear zx)
  exact V0c hF zle (Q0d (by simp[hne]) (K0c zno96r))
theorem src68p(p:Hp)(j m:Nat)(B:List Int)(hg:p.t.get j=some (Wrow B))(hm:m<=B.length): srcOf C p.h 68 (.slc j [] 0 m)=some ((B.take m).map Y8):=by
 have ht:tgt p.h (.ptr j [])=some (.agg (B.map Y8)):=by
  simp only[tgt,Hp.h,hg,Wrow,Option.map_some,XObj.obj,CV.at]
 simp only[srcOf,tt68,ti68,ht]
 simp[List.map_take,hm]
theorem app68p(p:Hp)(j m:Nat)(B:List Int)(h0:0<m/\m<=B.length)(hl:B.length<=1000000)(hg:p.t.get j=some (Wrow B)): xappend C false p 68 68 (Lst.cv Y8 ⟨.exact,[],nofun⟩) (.slc j [] 0 m)=.ret (Lst.cv Y8 ⟨.own p.n,B.take m,nofun⟩) (p.new (.tail m)):=by
 have hlen:(B.take m).length=m:=by rw[List.length_take];omega
 have h:=sl_app68 p ⟨.exact,[],nofun⟩ ⟨.part,B.take m,nofun⟩ (by simp;omega)
 cases hB:B.take m with
 |nil=>rw[hB]at hlen;simp at hlen;omega
 |cons x l=>
  rw[hB]at h hlen
  rw[appT_c _ _ _ _ _ _ _ _ _ (.inr rfl)]at h
  simp only[xappend,tt68,ti68,tt5,ti5,cond_false]at h ⊢
  rw[src68p p j _ _ hg h0.2,hB]
  have hs:srcOf C p.h 68 (Lst.cv Y8 ⟨.part,x::l,nofun⟩)=some ((x::l).map Y8):=by simp only[srcOf,tt68,ti68,Lst.cv]
  rw[hs,show([]:List Int).length+(l.length+1)=m by simp at hlen ⊢;omega]at h
  exact h
theorem app68q(p:Hp)(j:Nat)(B:List Int)(hg:p.t.get j=some (Wrow B)): xappend C false p 68 68 (Lst.cv Y8 ⟨.exact,[],nofun⟩) (.slc j [] 0 0)=.ret (Lst.cv Y8 ⟨.exact,[],nofun⟩) p:=by
 simp only[xappend,tt68,ti68,tt5,ti5,cond_false,src68p p j 0 B hg (Nat.zero_le _),List.take_zero,List.map_nil]
 rfl
theorem sl68r(p:Hp)(j n:Nat)(B:List Int)(k:Int)(hg:p.t.get j=some (Wrow B))(hk:0<=k/\k<=n): qslice C p.h 68 (.slc j [] 0 n) none (some (I k)) none=some (.slc j [] 0 k.toNat):=by
 have ht:tgt p.h (.ptr j [])=some (.agg (B.map Y8)):=by
  simp only[tgt,Hp.h,hg,Wrow,Option.map_some,XObj.obj,CV.at]
 have hs:CV.shape (.agg (B.map Y8))=.n (List.replicate (B.map Y8).length ti5.sh):=by
  show _=Shape.n (List.replicate (B.map Y8).length sh5)
  simp only[CV.shape,Z0m (f:=Y8) (s:=sh5) X08,List.length_map]
 simp only[qslice,tt68,ti68,tt5,ht]
 rw[if_pos hs]
 have hq:qbnd (some (I k)) n n=some k.toNat:=by simp only[qbnd];rw[if_pos hk]
 have hl:qbnd none 0 k.toNat=some 0:=rfl
 simp only[hq,hl]
 simp
theorem ix68p(p:Hp)(j n m:Nat)(B:List Int)(k:Int)(hg:p.t.get j=some (.var (.n (List.replicate n .s)) (.agg (B.map Y8))))(hk:0<=k/\k<m): qindexAddr C p.h 68 (.slc j [] 0 m) (I k)=some (.ptr j [k.toNat]):=by
 have ht:tgt p.h (.ptr j [])=some (.agg (B.map Y8)):=by
  simp only[tgt,Hp.h,hg,Option.map_some,XObj.obj,CV.at]
 have hs:CV.shape (.agg (B.map Y8))=.n (List.replicate (B.map Y8).length sh5):=by
  simp only[CV.shape,Z0m (f:=Y8) (s:=sh5) X08,List.length_map]
 simp only[qindexAddr,tt68,ti68,tt5,ht]
 rw[if_pos ⟨hs,hk⟩]
 simp
def R159a: Rel:=fun args p r=>∃(j m:Nat) (B:List Int),args=[.slc j [] 0 m]/\(p.t.get j=some (Wrow B))/\(0<m/\m<=B.length)/\(B.length<=1000000)/\r=.ret (Lst.cv Y8 ⟨.own p.n,B.take m,nofun⟩) (p.new (.tail m))
theorem zq159a{A B:Prop}(k:B)(h:A=B:=by have zy:=zA @zw159<|zA @rs159<|zA @tt68<|zA ti68.eq_1<|zA @zsl68<|zA @app68p<|zA @nil_slc<|zA @h1<|zA @h0<|@h2;exact zQ): A:=h▸k
theorem c159a: Con C 159 R159a:=by
 refine V0e C ?_ ?_ ?_
 ·rintro args p r r' ⟨j,m,B,h,h1,h0,h2,e⟩ ⟨j',m',B',h',h1',h0',h2',e'⟩
  subst e;subst e';(subst h;simp only[List.cons.injEq,CV.slc.injEq,and_true,true_and]at h';obtain⟨e0,e1⟩:=h';subst e0;subst e1;rw[h1]at h1';rw[Z0n (Option.some.inj h1')])
 ·rintro args p r ⟨j,m,B,h,h1,h0,h2,rfl⟩;exact zr1
 rintro args p r ⟨j,m,B,rfl,h1,h0,h2,rfl⟩
 refine zW C false [] zT rfl xf159 zc159_ok fun call zh hF=>?_
 clear zh
 have hd_h1:=hF.dom _ _ h1
 (have zx:=h1;refine zq159a ?_;try exact zT)
 repeat'(apply zK.s<;>intro hc<;>(try simp only[zhd]at hc)<;>(try have hw:=K0a hc)<;>(refine zq159a ?_;try exact zT))
 all_goals(try clear zx)
 have hlen:(B.take m).length=m:=by rw[List.length_take];omega
 have:=shr_own68 (l:=B.take m) hF (q:=p.new (.tail m)) zle (Nat.le_refl _) (by rw[hlen];exact Hp.get_new_self _ _)
 rw[hlen]at this
 exact this
def R159b: Rel:=fun args p r=>∃(j:Nat) (B:List Int),args=[.slc j [] 0 0]/\(p.t.get j=some (Wrow B))/\r=.ret (Lst.cv Y8 ⟨.exact,[],nofun⟩) p
theorem zq159b{A B:Prop}(k:B)(h:A=B:=by have zy:=zA @zw159<|zA @rs159<|zA @tt68<|zA ti68.eq_1<|zA @zsl68<|zA @app68q<|zA @nil_slc<|@h1;exact zQ): A:=h▸k
theorem c159b: Con C 159 R159b:=by
 refine V0e C ?_ ?_ ?_
 ·rintro args p r r' ⟨j,B,h,h1,e⟩ ⟨j',B',h',h1',e'⟩
  subst e;subst e';(subst h;simp only[List.cons.injEq,CV.slc.injEq,and_true,true_and]at h';rfl)
 ·rintro args p r ⟨j,B,h,h1,rfl⟩;exact zr1
 rintro args p r ⟨j,B,rfl,h1,rfl⟩
 refine zW C false [] zT rfl xf159 zc159_ok fun call zh hF=>?_
 clear zh
 have hd_h1:=hF.dom _ _ h1
 (have zx:=h1;refine zq159b ?_;try exact zT)
 repeat'(apply zK.s<;>intro hc<;>(try simp only[zhd]at hc)<;>(try have hw:=K0a hc)<;>(refine zq159b ?_;try exact zT))
 all_goals(try clear zx)
 exact V0c hF zle (V0d (K0c (by intro jj;simp[CV.has,CV.hasL,Lst.cv])))
def R159q: Rel:=fun args p r=>R159a args p r\/R159b args p r
theorem c159q: Con C 159 R159q:=Y03 C c159a c159b (by
 rintro args p r r' ⟨j,m,B,e,_,h0,_⟩ ⟨j',B',e',_⟩
 rw[e]at e'
 simp only[List.cons.injEq,CV.slc.injEq,and_true,true_and]at e'
 omega)
theorem t159q{T:XCall}(h:Has T 159 R159q): (∀(j m:Nat) (B:List Int) {p:Hp},p.t.get j=some (Wrow B)->0<m/\m<=B.length->B.length<=1000000->T 159 [.slc j [] 0 m] p=.ret (Lst.cv Y8 ⟨.own p.n,B.take m,nofun⟩) (p.new (.tail m))) /\
  ∀(j:Nat) (B:List Int) {p:Hp},p.t.get j=some (Wrow B)->T 159 [.slc j [] 0 0] p=.ret (Lst.cv Y8 ⟨.exact,[],nofun⟩) p:=
 ⟨fun j m B p h1 h0 h2=>h _ _ _ (.inl ⟨j,m,B,rfl,h1,h0,h2,rfl⟩),fun j B p h1=>h _ _ _ (.inr ⟨j,B,rfl,h1,rfl⟩)⟩
def J163q(key:Int)(j m:Nat)(B:List Int)(p:Hp)(n:Nat)(ρ:Env)(q:Hp): Prop:=
 ∃k:Nat,n=m-k/\k<=m/\ρ 1=.slc j [] 0 m/\ρ 5=I ((B.take k).foldl sumStep (key % 2147483647+1))/\ρ 13=.slc j [] 0 m/\ρ 14=I m/\ρ 15=I k/\q=p
def R163q: Rel:=fun args p r=>∃(key:Int) (j m:Nat) (B:List Int),args=[I key,.slc j [] 0 m]/\(-9223372036854775808<=key/\key<=9223372036854775807)/\(m<=B.length)/\(B.length<=1000000)/\(∀x∈B,0<=x/\x<=255)/\(p.t.get j=some (Wrow B))/\r=.ret (I (sumB key (B.take m))) p
theorem t163q{T:XCall}(h:Has T 163 R163q)(key:Int)(j m:Nat)(B:List Int){p:Hp}(h1:-9223372036854775808<=key/\key<=9223372036854775807)(h0:m<=B.length)(h2:B.length<=1000000)(h5:∀x∈B,0<=x/\x<=255)(h3:p.t.get j=some (Wrow B)): T 163 [I key,.slc j [] 0 m] p=.ret (I (sumB key (B.take m))) p:=h _ _ _ ⟨key,j,m,B,rfl,h1,h0,h2,h5,h3,rfl⟩
theorem zq163q{A B:Prop}(k:B)(h:A=B:=by have zy:=zA @zw163<|zA @rs163<|zA @tt3<|zA @tt5<|zA @tt68<|zA ti3.eq_1<|zA ti5.eq_1<|zA ti68.eq_1<|zA @zsl68<|zA @ix68p<|zA @a68<|zA @Z1z<|zA @sub68<|zA @h1<|zA @h0<|zA @h2<|zA @h5<|@h3;exact zQ): A:=h▸k
theorem c163q: Con C 163 R163q:=by
 refine V0e C ?_ ?_ ?_
 ·rintro args p r r' ⟨key,j,m,B,h,h1,h0,h2,h5,h3,e⟩ ⟨key',j',m',B',h',h1',h0',h2',h5',h3',e'⟩
  subst e;subst e';(subst h;simp only[List.cons.injEq,CV.sc.injEq,Value.int.injEq,CV.slc.injEq,and_true,true_and]at h';obtain⟨e2,e0,e1⟩:=h';subst e0;subst e1;subst e2;rw[h3]at h3';rw[Z0n (Option.some.inj h3')])
 ·rintro args p r ⟨key,j,m,B,h,h1,h0,h2,h5,h3,rfl⟩;exact zr1
 rintro args p r ⟨key,j,m,B,rfl,h1,h0,h2,h5,h3,rfl⟩
 refine zW C false [] zT rfl xf163 zc163_ok fun call zh hF=>?_
 clear zh
 have hd_h3:=hF.dom _ _ h3
 have hk:=key_mod key
 have hr0:-2147483647<key.tmod 2147483647:=by have:=Int.lt_tmod_of_pos key (b:=2147483647) (by omega);exact this
 have hr1:=Int.tmod_lt_of_pos key (b:=2147483647) (by omega)
 have hr2:0<=key % 2147483647/\key % 2147483647<2147483647:=by omega
 (have zx:=zA hk h3;refine zq163q ?_;try exact zT)
 repeat'(apply zK.s<;>intro hc<;>(try simp only[zhd]at hc)<;>(try have hw:=K0a hc)<;>(refine zq163q ?_;try exact zT))
 all_goals(try clear zx)
 (show W C false noExt call (ZC.loop K1f) _ _ _);refine Y0g C false noExt call K1f _ _ _ (J163q key j m B p) m ⟨0,rfl,by omega,by simp[put_at,X0c,K0f,K0j],zev,by simp[put_at,X0c,K0f,K0j],zev,zev,rfl⟩ ?_
 rintro n ρ q ⟨k,rfl,hk2,e1,e5,e13,e14,e15,rfl⟩
 have hf:=V01 key (B.take k)
 by_cases hlt:(k:Int)<m
 ·have hst:=Z01 sumStep (key % 2147483647+1) (l:=B) (k:=k) (by omega)
  have hy:=h5 (nth B k) (by rw[Y0h (by omega)];exact List.getElem_mem _)
  have hkB:k<B.length:=by omega
  generalize (B.take k).foldl sumStep (key % 2147483647+1)=h at hf hst e5
  generalize hyy:nth B k=y at hy hst
  have ht:(h*257+y+1).tmod 2147483647=sumStep h y:=by rw[Int.tmod_eq_emod_of_nonneg (by omega)];rfl
  (have zx:=zA e1 (zA e5 (zA e13 (zA e14 (zA e15 (zA hlt (zA hyy (zA ht (zA hkB h3))))))));refine zq163q ?_;try exact zT)
  repeat'(apply zK.s<;>intro hc<;>(try simp only[zhd]at hc)<;>(try have hw:=K0a hc)<;>(refine zq163q ?_;try exact zT))
  all_goals(try clear zx)
  exact⟨m-(k+1),by omega,k+1,rfl,by omega,zev,by rw[hst];simp[put_at,X0c],zev,zev,zev,rfl⟩
 ·have hkl:k=m:=by omega
  rw[hkl]at e5 hf
  have hlen:(B.take m).length=m:=by rw[List.length_take];omega
  have ht:((B.take m).foldl sumStep (key % 2147483647+1)+m).tmod 2147483647=sumB key (B.take m):=by rw[Int.tmod_eq_emod_of_nonneg (by omega),sumB,hlen]
  (have zx:=zA e1 (zA e5 (zA e13 (zA e14 (zA e15 (zA hlt (zA ht h3))))));refine zq163q ?_;try exact zT)
  repeat'(apply zK.s<;>intro hc<;>(try simp only[zhd]at hc)<;>(try have hw:=K0a hc)<;>(refine zq163q ?_;try exact zT))
  all_goals(try clear zx)
  exact V0c hF zle (Q0d rfl (K0c (by intro jj;simp[CV.has])))
def R107q: Rel:=fun args p r=>∃(key:Int) (j m:Nat) (B:List Int),args=[I key,.slc j [] 0 m]/\(-9223372036854775808<=key/\key<=9223372036854775807)/\(m<=B.length)/\(B.length<=1000000)/\(∀x∈B,0<=x/\x<=255)/\(p.t.get j=some (Wrow B))/\r=.ret (Lst.cv Y8 (partB (closeB key (B.take m)))) p
theorem t107q{T:XCall}(h:Has T 107 R107q)(key:Int)(j m:Nat)(B:List Int){p:Hp}(hk:-9223372036854775808<=key/\key<=9223372036854775807)(h0:m<=B.length)(h2:B.length<=1000000)(h5:∀x∈B,0<=x/\x<=255)(h3:p.t.get j=some (Wrow B)): T 107 [I key,.slc j [] 0 m] p=.ret (Lst.cv Y8 (partB (closeB key (B.take m)))) p:=h _ _ _ ⟨key,j,m,B,rfl,hk,h0,h2,h5,h3,rfl⟩
theorem zq107q{A B:Prop}(k:B)(h:A=B:=by have zy:=zA @zw107<|zA @rs107<|zA @tt3<|zA @tt5<|zA @tt68<|zA @tt178<|zA ti3.eq_1<|zA ti5.eq_1<|zA ti68.eq_1<|zA ti178.eq_1<|zA @t_159q<|zA @t_163q<|zA @zsl68<|zA @hk<|zA @h0<|zA @h2<|zA @h5<|@h3;exact zQ): A:=h▸k
theorem c107q: Con C 107 R107q:=by
 refine V0e C ?_ ?_ ?_
 ·rintro args p r r' ⟨key,j,m,B,h,hk,h0,h2,h5,h3,e⟩ ⟨key',j',m',B',h',hk',h0',h2',h5',h3',e'⟩
  subst e;subst e';(subst h;simp only[List.cons.injEq,CV.sc.injEq,Value.int.injEq,CV.slc.injEq,and_true,true_and]at h';obtain⟨e2,e0,e1⟩:=h';subst e0;subst e1;subst e2;rw[h3]at h3';rw[Z0n (Option.some.inj h3')])
 ·rintro args p r ⟨key,j,m,B,h,hk,h0,h2,h5,h3,rfl⟩;exact zr1
 rintro args p r ⟨key,j,m,B,rfl,hk,h0,h2,h5,h3,rfl⟩
 refine zW C false [(159,R159q),(163,R163q)] ⟨c159q,c163q,zT⟩ rfl xf107 zc107_ok fun call zh hF=>?_
 have t_159q:=@t159q _ zh.1
 have t_163q:=@t163q _ zh.2.1
 clear zh
 have hd_h3:=hF.dom _ _ h3
 have hr:=Q0w key (B.take m)
 have hj:=hF.dom _ _ h3
 generalize hS:sumB key (B.take m)=S at hr
 have t3:=fun q h=>t_163q key j m B (p:=q) hk h0 h2 h5 h
 rw[hS]at t3
 have hcl:B.take m++four S=closeB key (B.take m):=by rw[closeB,hS]
 by_cases hm:m=0
 ·subst hm
  have t9:=fun q h=>t_159q.2 j B (p:=q) h
  rw[<- hcl,List.take_zero,List.nil_append]
  (have zx:=zA t3 (zA t9 (zA hS h3));refine zq107q ?_;try exact zT)
  repeat'(apply zK.s<;>intro hc<;>(try simp only[zhd]at hc)<;>(try have hw:=K0a hc)<;>(refine zq107q ?_;try exact zT))
  all_goals(try clear zx)
  rw[four_e]
  exact V0c hF (fun k o h=>by have hd:=hF.dom k o h;simp (disch:=first|exact zdl|fail) only[zheap];exact h) (Y02 Y0l _ _ _)
 ·have hml:(B.take m).length=m:=by rw[List.length_take];omega
  have hm0:0<m:=by omega
  have t9:=fun q h=>t_159q.1 j m B (p:=q) h (by omega) h2
  rw[<- hcl]
  (have zx:=zA t3 (zA t9 (zA hml (zA hS h3)));refine zq107q ?_;try exact zT)
  repeat'(apply zK.s<;>intro hc<;>(try simp only[zhd]at hc)<;>(try have hw:=K0a hc)<;>(refine zq107q ?_;try exact zT))
  all_goals(try clear zx)
  all_goals first|(exfalso;omega)|skip
  rw[four_e]
  exact V0c hF (fun k o h=>by have hd:=hF.dom k o h;simp (disch:=first|exact zdl|fail) only[zheap];exact h) (Y02 Y0l _ _ _)
theorem K18(n k:Nat)(l:List Int)(h:l≠[]): CV.weak (fun k=>k) k (.tup [Lst.cv Y8 ⟨.own n,l,nofun⟩,Bo true]) (.tup [Lst.cv Y8 (cloneP (partB l)),Bo true]):=by
 have e:cloneP (partB l)=⟨.part,l,nofun⟩:=by
  cases l with
  |nil=>exact absurd rfl h
  |cons x l=>rfl
 rw[e]
 simp only[CV.weak,CV.weakL,and_true]
 exact Y02 Y0l _ _ _
def R109q: Rel:=fun args p r=>∃(key:Int) (j:Nat) (B:List Int),args=[I key,.slc j [] 0 B.length]/\(-9223372036854775808<=key/\key<=9223372036854775807)/\(B.length<=1000000)/\(∀x∈B,0<=x/\x<=255)/\(p.t.get j=some (Wrow B))/\r=if opensB key (partB B)then .ret (.tup [Lst.cv Y8 (cloneP (partB (tagBody (partB B)))),Bo true]) p else .ret (.tup [Lst.cv Y8 nilB,Bo false]) p
theorem t109q{T:XCall}(h:Has T 109 R109q)(key:Int)(j:Nat)(B:List Int){p:Hp}(hk:-9223372036854775808<=key/\key<=9223372036854775807)(h2:B.length<=1000000)(h5:∀x∈B,0<=x/\x<=255)(h3:p.t.get j=some (Wrow B)): T 109 [I key,.slc j [] 0 B.length] p=if opensB key (partB B)then .ret (.tup [Lst.cv Y8 (cloneP (partB (tagBody (partB B)))),Bo true]) p else .ret (.tup [Lst.cv Y8 nilB,Bo false]) p:=h _ _ _ ⟨key,j,B,rfl,hk,h2,h5,h3,rfl⟩
theorem zdis109q{P:Prop}(h:P:=by first|exact zdis|(simp only[Hp.bump_n,Hp.znew_n,Hp.zset_n,List.length_nil,List.length_cons,List.length_append,List.length_map,Z0e];(first|done|omega))|(simp (disch:=first|exact zd1|(simp only[Hp.bump_n,Hp.znew_n,Hp.zset_n,List.length_nil,List.length_cons,List.length_append,List.length_map,Z0e];(first|done|omega))) only[zheap,zx];(first|done|rfl))|fail): P:=h
theorem zq109q{A B:Prop}(k:B)(h:A=B:=by have zy:=zA @zw109<|zA @rs109<|zA @tt3<|zA @tt68<|zA ti3.eq_1<|zA ti68.eq_1<|zA @t_107q<|zA @t_96r<|zA @t_159q<|zA @zsl68<|zA @sl68r<|zA @Z0e<|zA @hk<|zA @h2<|zA @h5<|@h3;have zd:=@zdis109q;exact zQd): A:=h▸k
theorem c109q: Con C 109 R109q:=by
 refine V0e C ?_ ?_ ?_
 ·rintro args p r r' ⟨key,j,B,h,hk,h2,h5,h3,e⟩ ⟨key',j',B',h',hk',h2',h5',h3',e'⟩
  subst e;subst e';(subst h;simp only[List.cons.injEq,CV.sc.injEq,Value.int.injEq,CV.slc.injEq,and_true,true_and]at h';obtain⟨e2,e0,_⟩:=h';subst e0;subst e2;rw[h3]at h3';rw[Z0n (Option.some.inj h3')])
 ·rintro args p r ⟨key,j,B,h,hk,h2,h5,h3,rfl⟩;exact zr1
 rintro args p r ⟨key,j,B,rfl,hk,h2,h5,h3,rfl⟩
 refine zW C false [(107,R107q),(96,R96r),(159,R159q)] ⟨c107q,c96r,c159q,zT⟩ rfl xf109 zc109_ok fun call zh hF=>?_
 have t_107q:=@t107q _ zh.1
 have t_96r:=@t96r _ zh.2.1
 have t_159q:=@t159q _ zh.2.2.1
 clear zh
 have hd_h3:=hF.dom _ _ h3
 have hj:=hF.dom _ _ h3
 by_cases hlt:(B.length:Int)<4
 ·have hno:¬opensB key (partB B):=fun h=>by have:=h.1;rw[Z0e]at this;omega
  rw[if_neg hno]
  (have zx:=zA hlt h3;refine zq109q ?_;try exact zT)
  repeat'(apply zK.s<;>intro hc<;>(try simp only[zhd]at hc)<;>(try have hw:=K0a hc)<;>(refine zq109q ?_;try exact zT))
  all_goals(try clear zx)
  exact V0c hF zle (V0d (K0c (by intro jj;simp[CV.has,CV.hasL,Lst.cv,nilB])))
 ·obtain⟨m,hm⟩:∃m:Nat,((B.length:Int)-4).toNat=m:=⟨_,rfl⟩
  have hmB:m<=B.length:=by omega
  have hcl:(closeB key (B.take m)).length<=140737488355328:=by rw[closeB,List.length_append,List.length_take];simp only[four,List.length_cons,List.length_nil];omega
  have hbe:tagBody (partB B)=B.take m:=by rw[tagBody,Z0e];congr 1;omega
  have t7:=fun q h=>t_107q key j m B (p:=q) hk hmB h2 h5 h
  have t6:=fun q h=>t_96r (partB (closeB key (B.take m))) j B (p:=q) hcl (by omega) h
  simp only[Z0e]at t6
  by_cases hc:closeB key (B.take m)=B
  ·have hd:decide (closeB key (B.take m)=B)=true:=decide_eq_true hc
   rw[if_pos (show opensB key (partB B) from⟨by rw[Z0e];omega,by rw[hbe];exact hc⟩),hbe]
   by_cases hm0:m=0
   ·have t9:=fun q h=>t_159q.2 j B (p:=q) h
    subst hm0
    (have zx:=zA hlt (zA hm (zA t7 (zA t6 (zA hd (zA t9 h3)))));refine zq109q ?_;try exact zT)
    repeat'(apply zK.s<;>intro hc<;>(try simp only[zhd]at hc)<;>(try have hw:=K0a hc)<;>(refine zq109q ?_;try exact zT))
    all_goals(try clear zx)
    exact V0c hF zle (Q0d rfl (fun j hj=>by
     simp only[CV.has,CV.hasL,or_false]at hj
     exact absurd ((Lst.has _ Y0l _ j).1 hj) (Z08 _ j)))
   ·have hml:(B.take m).length=m:=by rw[List.length_take];omega
    have t9:=fun q h=>t_159q.1 j m B (p:=q) h (by omega) h2
    (have zx:=zA hlt (zA hm (zA t7 (zA t6 (zA hd (zA t9 h3)))));refine zq109q ?_;try exact zT)
    repeat'(apply zK.s<;>intro hc<;>(try simp only[zhd]at hc)<;>(try have hw:=K0a hc)<;>(refine zq109q ?_;try exact zT))
    all_goals(try clear zx)
    exact V0c hF zle (K18 _ _ _ (fun e=>by rw[e]at hml;simp at hml;omega))
  ·have hd:decide (closeB key (B.take m)=B)=false:=decide_eq_false hc
   rw[if_neg (show ¬opensB key (partB B) from fun h=>hc (by rw[<- hbe];exact h.2))]
   (have zx:=zA hlt (zA hm (zA t7 (zA t6 (zA hd h3))));refine zq109q ?_;try exact zT)
   repeat'(apply zK.s<;>intro hc<;>(try simp only[zhd]at hc)<;>(try have hw:=K0a hc)<;>(refine zq109q ?_;try exact zT))
   all_goals(try clear zx)
   exact V0c hF zle (V0d (K0c (by intro jj;simp[CV.has,CV.hasL,Lst.cv,nilB])))
def R48q: Rel:=fun args p r=>∃(key:Int) (j:Nat) (B:List Int),args=[I key,.slc j [] 0 B.length]/\(-9223372036854775808<=key/\key<=9223372036854775807)/\(B.length<=140737488355328)/\(∀x∈B,0<=x/\x<=255)/\(p.t.get j=some (Wrow B))/\r=.ret (.tup [(openP key B).1.cv,I (openP key B).2]) p
theorem zdis48q{P:Prop}(h:P:=by first|exact zdis|(simp only[Hp.bump_n,Hp.znew_n,Hp.zset_n,List.length_nil,List.length_cons,List.length_append,List.length_map,Z0e,Z0i];(first|done|omega))|(simp (disch:=first|exact zd1|(simp only[Hp.bump_n,Hp.znew_n,Hp.zset_n,List.length_nil,List.length_cons,List.length_append,List.length_map,Z0e,Z0i];(first|done|omega))) only[zheap,zx];(first|done|rfl))|fail): P:=h
theorem zq48q{A B:Prop}(k:B)(h:A=B:=by((try simp -dsimp (disch:=first|exact zdis48q|fail) only[zcore,zall,zopm,zop,zcallOp,qop,qbuiltin,ofOpt,List.map,reduceCtorEq,if_true,if_false,↓reduceIte,zbin,eqRes,qassert,qnum,qshift,qun,kindOf,allocV,List.nil_append,List.append_nil,List.cons_append,List.length_cons,List.length_nil,Nat.reduceAdd,Nat.reduceEqDiff,Nat.reduceLT,Nat.reduceSub,Nat.reduceMul,Int.reduceToNat,Int.reduceLE,Int.reduceLT,Int.reduceEq,Int.reduceNeg,Int.reduceAdd,Int.reduceSub,beq_self_eq_true,cond_true,cond_false,isConstOpd,xpanic,xconv,isBytes,qconv,List.length_map,List.map_nil,List.map_cons,concrete,Option.some.injEq,exists_eq',Option.map_some,Option.map_none,List.getElem?_cons_zero,List.getElem?_cons_succ,zw48,rs48,tt3,tt44,tt68,tt94,ti3,ti44,ti68,ti94,t_50,t_73p,t_96,t_108,t_109q,K0e,Y0r,zsl68,resPS,Z0e,Z0i,al68,hk,h2,h5,h3,zx,hc]);rfl)): A:=h▸k
theorem c48q: Con C 48 R48q:=by
 refine V0e C ?_ ?_ ?_
 ·rintro args p r r' ⟨key,j,B,h,hk,h2,h5,h3,e⟩ ⟨key',j',B',h',hk',h2',h5',h3',e'⟩
  subst e;subst e';(subst h;simp only[List.cons.injEq,CV.sc.injEq,Value.int.injEq,CV.slc.injEq,and_true,true_and]at h';obtain⟨e2,e0,_⟩:=h';subst e0;subst e2;rw[h3]at h3';rw[Z0n (Option.some.inj h3')])
 ·rintro args p r ⟨key,j,B,h,hk,h2,h5,h3,rfl⟩;exact zr1
 rintro args p r ⟨key,j,B,rfl,hk,h2,h5,h3,rfl⟩
 refine zW C false [(50,R50),(73,R73p),(96,R96),(108,R108),(109,R109q)] ⟨c50,c73p,c96,c108,c109q,zT⟩ rfl xf48 zc48_ok fun call zh hF=>?_
 have t_50:=@t50 _ zh.1
 have t_73p:=@t73p _ zh.2.1
 have t_96:=@t96 _ zh.2.2.1
 have t_108:=@t108 _ zh.2.2.2.1
 have t_109q:=@t109q _ zh.2.2.2.2.1
 clear zh
 have hd_h3:=hF.dom _ _ h3
 have hj:=hF.dom _ _ h3
 by_cases hlong:(400:Int)<B.length
 ·have hop:openP key B=_:=Y1q (key:=key) (s:=partB B) (by rw[Z0e];omega)
  rw[hop]
  (have zx:=zA hlong h3;refine zq48q ?_;try exact zT)
  repeat'(apply zK.s<;>intro hc<;>(try simp only[zhd]at hc)<;>(try have hw:=K0a hc)<;>(refine zq48q ?_;try exact zT))
  all_goals(try clear zx)
  exact V0c hF zle (V0d (K0c (Q0v _)))
 ·by_cases ho:opensB key (partB B)
  ·have hop:openP key B=_:=openP_in (key:=key) (s:=partB B) (by rw[Z0e];omega) ho
   have hbb:∀x∈tagBody (partB B),0<=x/\x<=255:=fun x hx=>h5 x (by rw[tagBody,Z0e]at hx;exact List.mem_of_mem_take hx)
   have hbl:(tagBody (partB B)).length<=1000000:=by rw[tagBody,Z0e,List.length_take];omega
   have t7:=fun q h2 h3=>t_73p (p.n+1) (p.n+1+1) (cloneP (partB (tagBody (partB B)))) Q0a.zero (p:=q) h2 h3 (cloneP_nv _) (by rw[Z0i,Z0e];omega) (by rw[Z0i,Z0e];exact hbb)
   rw[Z0i,Z0e]at t7
   cases hrp:readP (tagBody (partB B)) with
   |error e=>
    rw[hrp]at hop
    rw[hop]
    (have zx:=zA hlong (zA ho (zA t7 (zA hrp h3)));refine zq48q ?_;try exact zT)
    repeat'(apply zK.s<;>intro hc<;>(try simp only[zhd]at hc)<;>(try have hw:=K0a hc)<;>(refine zq48q ?_;try exact zT))
    all_goals(try clear zx)
    exact V0c hF zle (V0d (K0c (Q0v _)))
   |ok r=>
    obtain⟨u,a'⟩:=r
    rw[hrp]at hop
    have hu:=V1t (a:=0) hrp
    have hno:=K1d (a:=0) hrp
    cases hR:packRight u with
    |false=>
     rw[hop]
     simp only[hR,Bool.false_eq_true,false_and,if_false]
     (have zx:=zA hlong (zA ho (zA t7 (zA hrp (zA hu (zA hR h3)))));refine zq48q ?_;try exact zT)
     repeat'(apply zK.s<;>intro hc<;>(try simp only[zhd]at hc)<;>(try have hw:=K0a hc)<;>(refine zq48q ?_;try exact zT))
     all_goals(try clear zx)
     exact V0c hF zle (V0d (K0c (Q0v _)))
    |true=>
     have hsm:=Y1k hR
     have hpl:=Q0q hsm
     have hpb:=K0g (packBits u)
     by_cases he:packB (packBits u)=tagBody (partB B)
     ·have hd:decide (packB (packBits u)=tagBody (partB B))=true:=decide_eq_true he
      rw[hop]
      simp only[hR,he,and_self,if_true]
      (have zx:=zA hlong (zA ho (zA t7 (zA hrp (zA hu (zA hR (zA hsm (zA hd h3)))))));refine zq48q ?_;try exact zT)
      repeat'(apply zK.s<;>intro hc<;>(try simp only[zhd]at hc)<;>(try have hw:=K0a hc)<;>(refine zq48q ?_;try exact zT))
      all_goals(try clear zx)
      exact V0c hF zle (V0d (K0c (fun j hj=>by simp only[CV.has,CV.hasL,or_false]at hj;exact hno j hj)))
     ·have hd:decide (packB (packBits u)=tagBody (partB B))=false:=decide_eq_false he
      rw[hop]
      simp only[hR,he,and_false,if_false]
      (have zx:=zA hlong (zA ho (zA t7 (zA hrp (zA hu (zA hR (zA hsm (zA hd h3)))))));refine zq48q ?_;try exact zT)
      repeat'(apply zK.s<;>intro hc<;>(try simp only[zhd]at hc)<;>(try have hw:=K0a hc)<;>(refine zq48q ?_;try exact zT))
      all_goals(try clear zx)
      exact V0c hF zle (V0d (K0c (Q0v _)))
  ·have hop:openP key B=_:=Y1u (key:=key) (s:=partB B) (by rw[Z0e];omega) ho
   rw[hop]
   (have zx:=zA hlong (zA ho h3);refine zq48q ?_;try exact zT)
   repeat'(apply zK.s<;>intro hc<;>(try simp only[zhd]at hc)<;>(try have hw:=K0a hc)<;>(refine zq48q ?_;try exact zT))
   all_goals(try clear zx)
   exact V0c hF zle (V0d (K0c (Q0v _)))
end Go.Proofs.Ytpchcfkebljopaa
end
section
namespace Go.Proofs.Ytpchcfkebljopaa
open Go.Cl Go Go.RowKit
theorem open_tag{key:Int}{B:List Int}(h:B.length<=400)(ho:¬closeB key (B.take (B.length-4))=B): openP key B=(Q0a.zero,3):=by
 unfold openP
 rw[if_neg (by omega),if_pos (fun hh=>ho hh.2)]
theorem lay_short{key:Int}{a:Q0a}(h:packRight a=true): 5<=(layP key a).length/\(layP key a).length<=400:=by
 have hm:=Z1i h
 rw[layP,K0o,K0g];omega
theorem ba_loop(bs:ByteArray): ∀(n i:Nat) (r:List UInt8),bs.size-i=n->ByteArray.toList.loop bs i r=r.reverse++bs.data.toList.drop i
 |0,i,r,h=>by
  unfold ByteArray.toList.loop
  have hs:bs.data.toList.length=bs.size:=Array.length_toList
  rw[if_neg (by omega),List.drop_eq_nil_of_le (by omega),List.append_nil]
 |n+1,i,r,h=>by
  unfold ByteArray.toList.loop
  have hs:bs.data.toList.length=bs.size:=Array.length_toList
  have hi:i<bs.data.toList.length:=by omega
  rw[if_pos (by omega),ba_loop bs n (i+1) _ (by omega),List.reverse_cons,List.append_assoc,List.drop_eq_getElem_cons hi]
  have hi2:i<bs.data.size:=by simpa using hi
  have e:bs.get! i=bs.data.toList[i]:=by
   show bs.data[i]! = _
   rw[getElem!_pos bs.data i hi2,Array.getElem_toList]
  rw[e];rfl
theorem ba_toList(bs:ByteArray): bs.toList=bs.data.toList:=by
 unfold ByteArray.toList
 rw[ba_loop bs _ 0 [] rfl];simp
def inB(l:List Int): Prop:=∀x∈l,0<=x/\x<=255
theorem u8_inj{x y:Int}(hx:0<=x/\x<=255)(hy:0<=y/\y<=255)(h:UInt8.ofNat x.toNat=UInt8.ofNat y.toNat): x=y:=by
 have h2:=congrArg UInt8.toNat h
 simp only[UInt8.toNat_ofNat']at h2
 omega
theorem X11: ∀{a b:List Int},inB a->inB b->(a.map fun n=>UInt8.ofNat n.toNat)=(b.map fun n=>UInt8.ofNat n.toNat)->a=b
 |[],[],_,_,_=>rfl
 |[],_::_,_,_,h=>by simp at h
 |_::_,[],_,_,h=>by simp at h
 |x::a,y::b,ha,hb,h=>by
  simp only[List.map_cons,List.cons.injEq]at h
  rw[u8_inj (ha x (by simp)) (hb y (by simp)) h.1,X11 (fun z hz=>ha z (by simp[hz])) (fun z hz=>hb z (by simp[hz])) h.2]
theorem str_eq{a b:List Int}(ha:inB a)(hb:inB b): ((bytesOf a).toList==(bytesOf b).toList)=decide (a=b):=by
 rw[ba_toList,ba_toList]
 show((a.map fun n=>UInt8.ofNat n.toNat).toArray.toList==(b.map fun n=>UInt8.ofNat n.toNat).toArray.toList)=_
 by_cases h:a=b
 ·subst h;simp
 ·rw[decide_eq_false h]
  rw[beq_eq_false_iff_ne]
  intro e
  exact h (X11 ha hb (by simpa using e))
theorem Y0u: ∀l:List Int,byteNums (l.map Y8)=some l
 |[]=>rfl
 |x::l=>by simp only[List.map_cons,byteNums,Y0u l,Option.map_some]
end Go.Proofs.Ytpchcfkebljopaa
end
section
namespace Go.Proofs.Ytpchcfkebljopaa
open Go.Cl Go Go.RowKit
set_option maxRecDepth 100000
set_option linter.constructorNameAsVariable false
def J128q(key:Int)(j m:Nat)(B:List Int)(p:Hp)(n:Nat)(ρ:Env)(q:Hp): Prop:=
 ∃k:Nat,n=m-k/\k<=m/\ρ 1=.slc j [] 0 m/\ρ 5=I ((B.take k).foldl sumStep (key % 2147483647+1))/\ρ 6=I k/\HpLe p q
def R128q: Rel:=fun args p r=>∃(key:Int) (j m:Nat) (B:List Int),args=[I key,.slc j [] 0 m]/\(-9223372036854775808<=key/\key<=9223372036854775807)/\(m<=B.length)/\(B.length<=1000000)/\(∀x∈B,0<=x/\x<=255)/\(p.t.get j=some (Wrow B))/\r=.ret (I (sumB key (B.take m))) p
theorem t128q{T:XCall}(h:Has T 128 R128q)(key:Int)(j m:Nat)(B:List Int){p:Hp}(h1:-9223372036854775808<=key/\key<=9223372036854775807)(h0:m<=B.length)(h2:B.length<=1000000)(h5:∀x∈B,0<=x/\x<=255)(h3:p.t.get j=some (Wrow B)): T 128 [I key,.slc j [] 0 m] p=.ret (I (sumB key (B.take m))) p:=h _ _ _ ⟨key,j,m,B,rfl,h1,h0,h2,h5,h3,rfl⟩
theorem zq128q{A B:Prop}(k:B)(h:A=B:=by have zy:=zA @zw128<|zA @rs128<|zA @tt3<|zA @tt5<|zA @tt68<|zA ti3.eq_1<|zA ti5.eq_1<|zA ti68.eq_1<|zA @zsl68<|zA @ix68p<|zA @a68<|zA @Z1z<|zA @sub68<|zA @h1<|zA @h0<|zA @h2<|zA @h5<|@h3;exact zQ): A:=h▸k
theorem c128q: Con C 128 R128q:=by
 refine V0e C ?_ ?_ ?_
 ·rintro args p r r' ⟨key,j,m,B,h,h1,h0,h2,h5,h3,e⟩ ⟨key',j',m',B',h',h1',h0',h2',h5',h3',e'⟩
  subst e;subst e';(subst h;simp only[List.cons.injEq,CV.sc.injEq,Value.int.injEq,CV.slc.injEq,and_true,true_and]at h';obtain⟨e2,e0,e1⟩:=h';subst e0;subst e1;subst e2;rw[h3]at h3';rw[Z0n (Option.some.inj h3')])
 ·rintro args p r ⟨key,j,m,B,h,h1,h0,h2,h5,h3,rfl⟩;exact zr1
 rintro args p r ⟨key,j,m,B,rfl,h1,h0,h2,h5,h3,rfl⟩
 refine zW C false [] zT rfl xf128 zc128_ok fun call zh hF=>?_
 clear zh
 have hd_h3:=hF.dom _ _ h3
 have hr2:0<=key % 2147483647/\key % 2147483647<2147483647:=by omega
 suffices hloop:∀(ρ:Env) (q:Hp),ρ 1=.slc j [] 0 m->ρ 5=I (key % 2147483647+1)->ρ 6=I 0->HpLe p q->W C false noExt call (ZC.loop X0u) ρ q (blkQ 0 (seqQ (W C false noExt call (ZC.seq X1n ZC.ret)) (endQ C [ResultVar.tmp 4] fun r'=>ShrR p r' (XRes.ret (I (sumB key (B.take m))) p)))) by
  by_cases hlo:key.tmod 2147483647<0
  ·have hk:=tmod_low hlo
   (have zx:=zA hlo (zA hk h3);refine zq128q ?_;try exact zT)
   repeat'(apply zK.s<;>intro hc<;>(try simp only[zhd]at hc)<;>(try have hw:=K0a hc)<;>(refine zq128q ?_;try exact zT))
   all_goals(try clear zx)
   exact hloop _ _ (by simp[put_at,X0c,K0f,K0j]) (by simp[put_at,X0c,K0f]) (by simp[put_at,X0c,K0f]) zle
  ·have hk:=tmod_high hlo
   have hlo2:¬key % 2147483647<0:=by omega
   (have zx:=zA hk (zA hlo2 h3);refine zq128q ?_;try exact zT)
   repeat'(apply zK.s<;>intro hc<;>(try simp only[zhd]at hc)<;>(try have hw:=K0a hc)<;>(refine zq128q ?_;try exact zT))
   all_goals(try clear zx)
   exact hloop _ _ (by simp[put_at,X0c,K0f,K0j]) (by simp[put_at,X0c,K0f]) (by simp[put_at,X0c,K0f]) zle
 intro ρ q e1 e5 e6 hle
 (show W C false noExt call (ZC.loop X0u) _ _ _);refine Y0g C false noExt call X0u _ _ _ (J128q key j m B p) m ⟨0,rfl,by omega,e1,e5,e6,hle⟩ ?_
 clear e1 e5 e6 hle
 rintro n ρ q ⟨k,rfl,hk2,e1,e5,e6,hle⟩
 have hf:=V01 key (B.take k)
 by_cases hlt:(k:Int)<m
 ·have hst:=Z01 sumStep (key % 2147483647+1) (l:=B) (k:=k) (by omega)
  have hkB:k<B.length:=by omega
  have hg:=hle _ _ h3
  have hy:=h5 (nth B k) (by rw[Y0h (by omega)];exact List.getElem_mem _)
  generalize (B.take k).foldl sumStep (key % 2147483647+1)=h at hf hst e5
  generalize hyy:nth B k=y at hy hst
  have ht:(h*257+y+1).tmod 2147483647=sumStep h y:=by rw[Int.tmod_eq_emod_of_nonneg (by omega)];rfl
  (have zx:=zA e1 (zA e5 (zA e6 (zA hlt (zA hyy (zA ht (zA hkB (zA hg h3)))))));refine zq128q ?_;try exact zT)
  repeat'(apply zK.s<;>intro hc<;>(try simp only[zhd]at hc)<;>(try have hw:=K0a hc)<;>(refine zq128q ?_;try exact zT))
  all_goals(try clear zx)
  exact⟨m-(k+1),by omega,k+1,rfl,by omega,zev,by rw[hst];simp[put_at,X0c],zev,hle⟩
 ·have hkl:k=m:=by omega
  have hlen:(B.take m).length=m:=by rw[List.length_take];omega
  rw[hkl]at e5 hf
  have ht:((B.take m).foldl sumStep (key % 2147483647+1)+m).tmod 2147483647=sumB key (B.take m):=by rw[Int.tmod_eq_emod_of_nonneg (by omega),sumB,hlen]
  (have zx:=zA e1 (zA e5 (zA e6 (zA hlt (zA ht h3))));refine zq128q ?_;try exact zT)
  repeat'(apply zK.s<;>intro hc<;>(try simp only[zhd]at hc)<;>(try have hw:=K0a hc)<;>(refine zq128q ?_;try exact zT))
  all_goals(try clear zx)
  exact V0c hF hle (Q0d rfl (K0c (by intro jj;simp[CV.has])))
def R127: Rel:=fun args p r=>∃(S:Int),args=[I S]/\(0<=S/\S<2147483647)/\r=.ret (Lst.cv Y8 ⟨.exact,four S,nofun⟩) p
theorem t127{T:XCall}(h:Has T 127 R127)(S:Int){p:Hp}(hr:0<=S/\S<2147483647): T 127 [I S] p=.ret (Lst.cv Y8 ⟨.exact,four S,nofun⟩) p:=h _ _ _ ⟨S,rfl,hr,rfl⟩
theorem zq127{A B:Prop}(k:B)(h:A=B:=by have zy:=zA @zw127<|zA @rs127<|zA @tt3<|zA @tt5<|zA @tt68<|zA @tt178<|zA ti3.eq_1<|zA ti5.eq_1<|zA ti68.eq_1<|zA ti178.eq_1<|zA @zsl68<|@hr;exact zQ): A:=h▸k
theorem c127: Con C 127 R127:=by
 refine V0e C ?_ ?_ ?_
 ·rintro args p r r' ⟨S,h,hr,e⟩ ⟨S',h',hr',e'⟩
  subst e;subst e';simp_all[X0f]
 ·rintro args p r ⟨S,h,hr,rfl⟩;exact zr1
 rintro args p r ⟨S,rfl,hr,rfl⟩
 refine zW C false [] zT rfl xf127 zc127_ok fun call zh hF=>?_
 clear zh
 have h4e:=four_e S
 (have zx:=h4e;refine zq127 ?_;try exact zT)
 repeat'(apply zK.s<;>intro hc<;>(try simp only[zhd]at hc)<;>(try have hw:=K0a hc)<;>(refine zq127 ?_;try exact zT))
 all_goals(try clear zx)
 exact V0c hF zle (V0d (K0c (by intro jj;simp[CV.has,CV.hasL,Lst.cv,Z0h Y0l])))
def R53: Rel:=fun args p r=>∃(key:Int) (s:Lst Int),args=[I key,s.cv Y8]/\(-9223372036854775808<=key/\key<=9223372036854775807)/\(s.l≠[])/\(s.l.length<=1000000)/\(∀x∈s.l,0<=x/\x<=255)/\r=.ret (Lst.cv Y8 (partB (closeB key s.l))) p
theorem t53{T:XCall}(h:Has T 53 R53)(key:Int)(s:Lst Int){p:Hp}(hk:-9223372036854775808<=key/\key<=9223372036854775807)(h0:s.l≠[])(h2:s.l.length<=1000000)(h5:∀x∈s.l,0<=x/\x<=255): T 53 [I key,s.cv Y8] p=.ret (Lst.cv Y8 (partB (closeB key s.l))) p:=h _ _ _ ⟨key,s,rfl,hk,h0,h2,h5,rfl⟩
theorem zq53{A B:Prop}(k:B)(h:A=B:=by have zy:=zA @zw53<|zA @rs53<|zA @tt68<|zA ti68.eq_1<|zA @t_128<|zA @t_127<|zA @zsl68<|zA @hk<|zA @h0<|zA @h2<|@h5;exact zQ): A:=h▸k
theorem c53: Con C 53 R53:=by
 refine V0e C ?_ ?_ ?_
 ·rintro args p r r' ⟨key,s,h,hk,h0,h2,h5,e⟩ ⟨key',s',h',hk',h0',h2',h5',e'⟩
  subst e;subst e';simp_all[X0f,X0f]
 ·rintro args p r ⟨key,s,h,hk,h0,h2,h5,rfl⟩;exact zr1
 rintro args p r ⟨key,s,rfl,hk,h0,h2,h5,rfl⟩
 refine zW C false [(128,R128),(127,R127)] ⟨c128,c127,zT⟩ rfl xf53 zc53_ok fun call zh hF=>?_
 have t_128:=@t128 _ zh.1
 have t_127:=@t127 _ zh.2.1
 clear zh
 have hr:=Q0w key s.l
 generalize hS:sumB key s.l=S at hr
 have hl0:0<s.l.length:=List.length_pos_iff.2 h0
 have hz:=Nat.zero_add s.l.length
 have hcl:s.l++four S=closeB key s.l:=by rw[closeB,hS]
 obtain⟨x,fs,hfs⟩:∃x fs,four S=x::fs:=⟨_,_,rfl⟩
 have h4l:fs.length=3:=by have:=congrArg List.length hfs;simp[four]at this;omega
 rw[hfs]at hcl
 (have zx:=zA hS (zA hz (zA hfs (zA h4l (zA hcl hl0))));refine zq53 ?_;try exact zT)
 repeat'(apply zK.s<;>intro hc<;>(try simp only[zhd]at hc)<;>(try have hw:=K0a hc)<;>(refine zq53 ?_;try exact zT))
 all_goals(try clear zx)
 exact V0c hF (fun k o h=>by have hd:=hF.dom k o h;simp (disch:=first|exact zdl|fail) only[zheap];exact h) (Y02 Y0l _ _ _)
theorem xs68p(p:Hp)(j m:Nat)(B:List Int)(hg:p.t.get j=some (Wrow B))(hm:m<=B.length): xsrc C p.h 5 68 (.slc j [] 0 m)=some ((B.take m).map Y8):=by
 have:=src68p p j m B hg hm
 simp only[xsrc,tt68,ti68];exact this
theorem app68pm(p:Hp)(j m:Nat)(B:List Int)(h0:0<m/\m<=B.length)(hl:B.length<=1000000)(hg:p.t.get j=some (Wrow B)): xappend C true p 68 68 (Lst.cv Y8 ⟨.exact,[],nofun⟩) (.slc j [] 0 m)=.ret (.slc p.n [] 0 m) (p.new (Wrow (B.take m))):=by
 have hlen:(B.take m).length=m:=by rw[List.length_take];omega
 have h:=app68m p (partB (B.take m)) (fun e=>by rw[Z0e]at e;rw[e]at hlen;simp at hlen;omega) (by rw[Z0e];omega)
 rw[Z0e,hlen]at h
 have e:xsrc C p.h 5 68 (Lst.cv Y8 (partB (B.take m)))=xsrc C p.h 5 68 (.slc j [] 0 m):=by
  rw[xs68p p j m B hg h0.2];simp only[xsrc,srcOf,tt68,ti68,Lst.cv,partB]
 have e2:srcOf C p.h 68 (Lst.cv Y8 (partB (B.take m)))=srcOf C p.h 68 (.slc j [] 0 m):=by
  rw[src68p p j m B hg h0.2];simp only[srcOf,tt68,ti68,Lst.cv,partB]
 simp only[xappend,tt68,ti68,tt5,ti5,cond_true]at h ⊢
 rw[e,e2]at h
 exact h
theorem app68qm(p:Hp)(j:Nat)(B:List Int)(hg:p.t.get j=some (Wrow B)): xappend C true p 68 68 (Lst.cv Y8 ⟨.exact,[],nofun⟩) (.slc j [] 0 0)=.ret (Lst.cv Y8 ⟨.exact,[],nofun⟩) p:=by
 simp only[xappend,tt68,ti68,tt5,ti5,cond_true,xs68p p j 0 B hg (Nat.zero_le _),src68p p j 0 B hg (Nat.zero_le _),List.take_zero,List.map_nil]
 rfl
theorem app68v(p:Hp)(j n:Nat)(B:List Int)(s:Lst Int)(hj:p.t.get j=some (Wrow B))(hn:B.length=n)(h0:0<n)(hs0:s.l≠[])(hl:n<=1000000)(hl2:s.l.length<=1000000): xappend C true p 68 68 (.slc j [] 0 n) (Lst.cv Y8 s)=.ret (.slc p.n [] 0 (n+s.l.length)) ((p.set j none).new (Wrow (B++s.l))):=by
 subst hn
 obtain⟨tl,D,o⟩:=s
 simp only at hs0 hl2 ⊢
 have ha:allSh (B.map Y8) sh5=true:=X0w (fun x=>rfl) B
 have hb:allSh (D.map Y8) sh5=true:=X0w (fun x=>rfl) D
 cases D with
 |nil=>exact absurd rfl hs0
 |cons x D=>
  simp only[List.map_cons]at hb
  simp only[List.length_cons]at hl2
  have h1:Nat.ble B.length B.length=true:=Nat.ble_eq_true_of_le (Nat.le_refl _)
  have h2:Nat.blt 0 B.length=true:=Z0u h0
  have h3:Nat.ble ((B.length+(D.length+1))*1) 140737488355328=true:=Nat.ble_eq_true_of_le (by omega)
  have h4:Nat.ble (B.length+(D.length+1)) 9223372036854775807=true:=Nat.ble_eq_true_of_le (by omega)
  have h5:Nat.ble (B.length+(D.length+1)) B.length=false:=by
   rw[Bool.eq_false_iff];intro h;have:=Nat.le_of_ble_eq_true h;omega
  have h6:(B.map Y8).take B.length=B.map Y8:=List.take_of_length_le (by simp)
  rw[Wrow]at hj
  simp only[xappend,tt68,ti68,tt5,ti5,cond_true,Lst.cv,xsrc,srcOf,List.map_cons,xappmut,hj,List.length_cons,List.length_map,h1,h2,h3,h4,h5,h6,ha,hb,Bool.and_self,cond_false,Wrow,List.map_append,List.length_append]
def R53m: Rel:=fun args p r=>∃(key:Int) (j m:Nat) (B:List Int),args=[I key,.slc j [] 0 m]/\(-9223372036854775808<=key/\key<=9223372036854775807)/\(m<=B.length)/\(B.length<=900000)/\(∀x∈B,0<=x/\x<=255)/\(p.t.get j=some (Wrow B))/\r=.ret (.slc p.n [] 0 (closeB key (B.take m)).length) (p.new (Wrow (closeB key (B.take m))))
theorem t53m{T:XCall}(h:Has T 53 R53m)(key:Int)(j m:Nat)(B:List Int){p:Hp}(hk:-9223372036854775808<=key/\key<=9223372036854775807)(h0:m<=B.length)(h2:B.length<=900000)(h5:∀x∈B,0<=x/\x<=255)(h3:p.t.get j=some (Wrow B)): T 53 [I key,.slc j [] 0 m] p=.ret (.slc p.n [] 0 (closeB key (B.take m)).length) (p.new (Wrow (closeB key (B.take m)))):=h _ _ _ ⟨key,j,m,B,rfl,hk,h0,h2,h5,h3,rfl⟩
theorem zq53m{A B:Prop}(k:B)(h:A=B:=by have zy:=zA @zw53<|zA @rs53<|zA @tt68<|zA ti68.eq_1<|zA @t_128q<|zA @t_127<|zA @zsl68<|zA @hk<|zA @h0<|zA @h2<|zA @h5<|@h3;exact zQ): A:=h▸k
theorem c53m: Con C 53 R53m:=by
 refine V0e C ?_ ?_ ?_
 ·rintro args p r r' ⟨key,j,m,B,h,hk,h0,h2,h5,h3,e⟩ ⟨key',j',m',B',h',hk',h0',h2',h5',h3',e'⟩
  subst e;subst e';(subst h;simp only[List.cons.injEq,CV.sc.injEq,Value.int.injEq,CV.slc.injEq,and_true,true_and]at h';obtain⟨e2,e0,e1⟩:=h';subst e0;subst e1;subst e2;rw[h3]at h3';rw[Z0n (Option.some.inj h3')])
 ·rintro args p r ⟨key,j,m,B,h,hk,h0,h2,h5,h3,rfl⟩;exact zr1
 rintro args p r ⟨key,j,m,B,rfl,hk,h0,h2,h5,h3,rfl⟩
 refine zW C true [(128,R128q),(127,R127)] ⟨c128q,c127,zT⟩ rfl xf53 zc53_ok fun call zh hF=>?_
 have t_128q:=@t128q _ zh.1
 have t_127:=@t127 _ zh.2.1
 clear zh
 have hd_h3:=hF.dom _ _ h3
 have hr:=Q0w key (B.take m)
 have t3:=fun q h=>t_128q key j m B (p:=q) hk h0 (by omega) h5 h
 have hcl:B.take m++four (sumB key (B.take m))=closeB key (B.take m):=rfl
 have hlen:(B.take m).length=m:=by rw[List.length_take];omega
 rw[K0o,hlen]
 generalize hS:sumB key (B.take m)=S at hr t3 hcl
 have hj:=hF.dom _ _ h3
 by_cases hm:m=0
 ·subst hm
  have a1:=fun q h=>app68qm q j B h
  have a3:=fun q=>app68m q ⟨.exact,four S,nofun⟩ nofun (by simp[four])
  simp only[show(four S).length=4 from rfl]at a3
  have hcl0:closeB key (B.take 0)=four S:=by rw[<- hcl];rfl
  rw[hcl0]
  (have zx:=zA t3 (zA hS (zA a1 (zA a3 h3)));refine zq53m ?_;try exact zT)
  repeat'(apply zK.s<;>intro hc<;>(try simp only[zhd]at hc)<;>(try have hw:=K0a hc)<;>(refine zq53m ?_;try exact zT))
  all_goals(try clear zx)
  exact shr_row hF (J:=p.n) (q0:=p) rfl (fun k o h=>by have hd:=hF.dom k o h;exact⟨h,by omega,by simp (disch:=first|exact zdl|fail) only[zheap];exact h⟩) (Hp.get_new_self _ _) (Z2k _ _ _)
 ·have a1:=fun q h=>app68pm q j m B (by omega) (by omega) h
  have a2:=fun q k h=>app68v q k m (B.take m) ⟨.exact,four S,nofun⟩ h hlen (by omega) nofun (by omega) (by simp[four])
  simp only[hcl,show(four S).length=4 from rfl]at a2
  (have zx:=zA t3 (zA hS (zA a1 (zA a2 h3)));refine zq53m ?_;try exact zT)
  repeat'(apply zK.s<;>intro hc<;>(try simp only[zhd]at hc)<;>(try have hw:=K0a hc)<;>(refine zq53m ?_;try exact zT))
  all_goals(try clear zx)
  exact shr_row hF (J:=p.n+1) (q0:=p) rfl (fun k o h=>by have hd:=hF.dom k o h;exact⟨h,by omega,by simp (disch:=first|exact zdl|fail) only[zheap];exact h⟩) (zg9) (Z2k _ _ _)
def R51: Rel:=fun args p r=>∃(key:Int) (a:Q0a),args=[I key,a.cv]/\(-9223372036854775808<=key/\key<=9223372036854775807)/\(packOk a)/\r=if packRight a=true then .ret (.tup [Lst.cv Y8 (partB (layP key a)),Bo true]) p else .ret (.tup [Lst.cv Y8 nilB,Bo false]) p
theorem t51{T:XCall}(h:Has T 51 R51)(key:Int)(a:Q0a){p:Hp}(hk:-9223372036854775808<=key/\key<=9223372036854775807)(h1:packOk a): T 51 [I key,a.cv] p=if packRight a=true then .ret (.tup [Lst.cv Y8 (partB (layP key a)),Bo true]) p else .ret (.tup [Lst.cv Y8 nilB,Bo false]) p:=h _ _ _ ⟨key,a,rfl,hk,h1,rfl⟩
theorem zdis51{P:Prop}(h:P:=by first|exact zdis|(simp only[Hp.bump_n,Hp.znew_n,Hp.zset_n,List.length_nil,List.length_cons,List.length_append,List.length_map,Z0e];(first|done|omega))|(simp (disch:=first|exact zd1|(simp only[Hp.bump_n,Hp.znew_n,Hp.zset_n,List.length_nil,List.length_cons,List.length_append,List.length_map,Z0e];(first|done|omega))) only[zheap,zx];(first|done|rfl))|fail): P:=h
theorem zq51{A B:Prop}(k:B)(h:A=B:=by have zy:=zA @zw51<|zA @rs51<|zA @tt94<|zA ti94.eq_1<|zA @t_52<|zA @t_123<|zA @t_53<|zA @K0e<|zA @Z0e<|zA @hk<|@h1;have zd:=@zdis51;exact zQd): A:=h▸k
theorem c51: Con C 51 R51:=by
 refine V0e C ?_ ?_ ?_
 ·rintro args p r r' ⟨key,a,h,hk,h1,e⟩ ⟨key',a',h',hk',h1',e'⟩
  subst e;subst e';simp_all[Q0a.inj_iff]
 ·rintro args p r ⟨key,a,h,hk,h1,rfl⟩;exact zr1
 rintro args p r ⟨key,a,rfl,hk,h1,rfl⟩
 refine zW C false [(52,R52),(123,R123),(53,R53)] ⟨c52,c123,c53,zT⟩ rfl xf51 zc51_ok fun call zh hF=>?_
 have t_52:=@t52 _ zh.1
 have t_123:=@t123 _ zh.2.1
 have t_53:=@t53 _ zh.2.2.1
 clear zh
 cases hR:packRight a with
 |false=>
  rw[if_neg Bool.false_ne_true]
  (have zx:=hR;refine zq51 ?_;try exact zT)
  repeat'(apply zK.s<;>intro hc<;>(try simp only[zhd]at hc)<;>(try have hw:=K0a hc)<;>(refine zq51 ?_;try exact zT))
  all_goals(try clear zx)
  exact V0c hF zle (V0d (K0c (by intro jj;simp[CV.has,CV.hasL,Lst.cv,nilB])))
 |true=>
  have hsm:=Y1k hR
  have hne:=packB_ne (X0x a)
  have hle:=Q0q hsm
  have hpl:=K0g (packBits a)
  have hlb:∀x∈packB (packBits a),0<=x/\x<=255:=V1h _
  have hcl:closeB key (packB (packBits a))=layP key a:=rfl
  rw[if_pos rfl]
  (have zx:=zA hR (zA hsm (zA hne (zA hlb hcl)));refine zq51 ?_;try exact zT)
  repeat'(apply zK.s<;>intro hc<;>(try simp only[zhd]at hc)<;>(try have hw:=K0a hc)<;>(refine zq51 ?_;try exact zT))
  all_goals(try clear zx)
  exact V0c hF zle (V0d (K0c (by intro jj;simp[CV.has,CV.hasL,Lst.cv,partB,Z0h Y0l])))
end Go.Proofs.Ytpchcfkebljopaa
end
section
namespace Go.Proofs.Ytpchcfkebljopaa
open Go.Cl Go Go.RowKit
abbrev RSt:=Nat×Bool
def getD(b:List Int)(n:Nat)(r:RSt): Int×RSt:=if r.2=true\/¬r.1+n<=8*b.length then(0,(r.1,true)) else(valB (bitB b) r.1 n,(r.1+n,false))
def sgetD(b:List Int)(n:Nat)(r:RSt): Int×RSt:=(sgnB (getD b n r).1 n,(getD b n r).2)
def RelD{α:Type}(r:Except Int (α×Nat))(d:α×RSt): Prop:=match r with
 |.ok (x,a)=>d=(x,(a,false))
 |.error _=>d.2.2=true
theorem getD_rel(b:List Int)(n a:Nat): RelD (getB b n a) (getD b n (a,false)):=by
 unfold getB getD
 by_cases h:a+n<=8*b.length
 ·simp[h,RelD]
 ·simp[h,RelD]
theorem V17(b:List Int)(n a:Nat): (getD b n (a,true)).2.2=true:=by simp[getD]
theorem sgetD_rel(b:List Int)(n a:Nat): RelD (sgetB b n a) (sgetD b n (a,false)):=by
 have h:=getD_rel b n a
 unfold sgetB sgetD
 cases hg:getB b n a with
 |error e=>rw[hg]at h;exact h
 |ok x=>obtain⟨u,a'⟩:=x;rw[hg]at h;simp only[RelD]at h;simp only[bindE,RelD,h]
theorem RelD.bind{α β:Type}{r:Except Int (α×Nat)}{d:α×RSt}{f:α->Nat->Except Int (β×Nat)}{g:α->RSt->β×RSt}(h:RelD r d)(hf:∀x a,RelD (f x a) (g x (a,false)))(hs:∀x a,(g x (a,true)).2.2=true): RelD (bindE r f) (g d.1 d.2):=by
 cases r with
 |error e=>
  simp only[RelD]at h
  obtain⟨x,a,s⟩:=d
  simp only at h
  subst h
  exact hs x a
 |ok y=>
  obtain⟨x,a⟩:=y
  simp only[RelD]at h
  subst h
  exact hf x a
theorem top_bit{u:Int}{m:Nat}(h:0<=u/\u<2^(m+1)): bitAt u m = !decide (u<2^m):=by
 have hP:(0:Int)<2^m:=Int.pow_pos (by omega)
 rw[Int.pow_succ]at h
 unfold bitAt
 generalize (2:Int)^m=P at h hP
 by_cases hu:u<P
 ·rw[Int.ediv_eq_zero_of_lt h.1 hu,decide_eq_true hu];rfl
 ·have h1:u/P<2:=Int.ediv_lt_of_lt_mul hP (by omega)
  have h2:1<=u/P:=Int.le_ediv_of_mul_le hP (by omega)
  have h3:u/P=1:=by omega
  rw[h3];simp[hu]
theorem Q0t(b:List Int)(n:Nat)(r:RSt): 0<=(getD b n r).1/\(getD b n r).1<2^n:=by
 unfold getD
 split
 ·exact⟨Int.le_refl 0,Int.pow_pos (by omega)⟩
 ·exact Y0s _ _ _
theorem K11{b:List Int}{n:Nat}{r:RSt}(h:r.1<=8*b.length): (getD b n r).2.1<=8*b.length:=by
 unfold getD
 split
 ·exact h
 ·rename_i hh;simp only;omega
theorem p32{n:Nat}(h:n<=32): (1:Int)<=2^n/\(2:Int)^n<=4294967296:=by
 have h1:(1:Nat)<=2^n:=Nat.one_le_two_pow
 have h2:(2:Nat)^n<=2^32:=Nat.pow_le_pow_right (by omega) h
 have h3:(2:Int)^n<=2^32:=by exact_mod_cast h2
 exact⟨by exact_mod_cast h1,Int.le_trans h3 (by decide)⟩
end Go.Proofs.Ytpchcfkebljopaa
end
section
namespace Go.Proofs.Ytpchcfkebljopaa
open Go.Cl Go Go.RowKit
set_option maxRecDepth 100000
set_option linter.constructorNameAsVariable false
def rdD(B:Lst Int)(r:RSt): XObj:=.var sh161 (Y0b.mk B r.1 r.2).cv
theorem rdD_get{p:Hp}{i:Nat}{B B':Lst Int}{r r':RSt}(h:p.t.get i=some (rdD B r))(h':p.t.get i=some (rdD B' r')): B=B'/\r=r':=by
 rw[h]at h'
 have h:=Option.some.inj h'
 simp only[rdD,XObj.var.injEq,Y0b.inj_iff,Y0b.mk.injEq,true_and]at h
 exact⟨h.1,Prod.ext (by omega) h.2.2⟩
def J103(i:Nat)(B:Lst Int)(a:Nat)(N:Nat)(p:Hp)(n:Nat)(ρ:Env)(q:Hp): Prop:=
 ∃k:Nat,n=N-k/\k<=N/\ρ 0=.ptr i []/\ρ 1=I N/\ρ 5=U (valB (bitB B.l) a k)/\ρ 6=I k/\q.t.get i=some (.var sh161 (Y0b.mk B (a+k:Nat) false).cv)/\p.n<=q.n/\∀j o,j≠i->p.t.get j=some o->q.t.get j=some o
def R103: Rel:=fun args p r=>∃(i:Nat) (B:Lst Int) (st:RSt) (n:Int),args=[.ptr i [],I n]/\(p.t.get i=some (rdD B st))/\(B.l.length<=140737488355328)/\(st.1<=8*B.l.length)/\(1<=n/\n<=64)/\(∀x∈B.l,0<=x/\x<=255)/\r=.ret (U (getD B.l n.toNat st).1) (p.set i (some (rdD B (getD B.l n.toNat st).2)))
theorem t103{T:XCall}(h:Has T 103 R103)(i:Nat)(B:Lst Int)(st:RSt)(n:Int){p:Hp}(h1:p.t.get i=some (rdD B st))(h2:B.l.length<=140737488355328)(h3:st.1<=8*B.l.length)(h4:1<=n/\n<=64)(h5:∀x∈B.l,0<=x/\x<=255): T 103 [.ptr i [],I n] p=.ret (U (getD B.l n.toNat st).1) (p.set i (some (rdD B (getD B.l n.toNat st).2))):=h _ _ _ ⟨i,B,st,n,rfl,h1,h2,h3,h4,h5,rfl⟩
theorem zq103{A B:Prop}(k:B)(h:A=B:=by have zy:=zA @zw103<|zA @rs103<|zA @tt3<|zA @tt4<|zA @tt5<|zA @tt25<|zA @tt68<|zA @tt161<|zA @tt178<|zA ti3.eq_1<|zA ti4.eq_1<|zA ti5.eq_1<|zA ti25.eq_1<|zA ti68.eq_1<|zA ti161.eq_1<|zA ti178.eq_1<|zA @X0n<|zA @zsl68<|zA @wrap_b2i<|zA @h1<|zA @h2<|zA @h3<|zA @h4<|@h5;exact zQ): A:=h▸k
theorem c103: Con C 103 R103:=by
 refine V0e C ?_ ?_ ?_
 ·rintro args p r r' ⟨i,B,st,n,h,h1,h2,h3,h4,h5,e⟩ ⟨i',B',st',n',h',h1',h2',h3',h4',h5',e'⟩
  subst e;subst e';(subst h;simp only[List.cons.injEq,CV.ptr.injEq,CV.sc.injEq,Value.int.injEq,and_true,true_and]at h';obtain⟨e0,e3⟩:=h';subst e0;subst e3;obtain⟨e1,e2⟩:=rdD_get h1 h1';rw[e1,e2])
 ·rintro args p r ⟨i,B,st,n,h,h1,h2,h3,h4,h5,rfl⟩;exact zr1
 rintro args p r ⟨i,B,st,n,rfl,h1,h2,h3,h4,h5,rfl⟩
 refine zW C false [] zT rfl xf103 zc103_ok fun call zh hF=>?_
 clear zh
 have hd_h1:=hF.dom _ _ h1
 have hi:=hF.dom _ _ h1
 have k1:=h1
 obtain⟨N,rfl⟩:=Int.eq_ofNat_of_zero_le (show 0<=n by omega)
 have hmm:max 0 (min 64 (N:Int))=N:=by omega
 obtain⟨a,sh⟩:=st
 replace h1:p.t.get i=some (.var sh161 (Y0b.mk B a sh).cv):=h1
 simp only at h3
 rw[Int.toNat_natCast]
 cases sh with
 |true=>
  have hgd:getD B.l N (a,true)=(0,(a,true)):=by simp[getD]
  rw[hgd]
  (have zx:=zA hmm h1;refine zq103 ?_;try exact zT)
  repeat'(apply zK.s<;>intro hc<;>(try simp only[zhd]at hc)<;>(try have hw:=K0a hc)<;>(refine zq103 ?_;try exact zT))
  all_goals(try clear zx)
  exact X0t hF hi (fun j o hj h=>by rw[Hp.get_set_ne _ _ _ hj,Hp.bump_get];exact h) ⟨_,Hp.get_set_self _ _ _,V0h fun j hj=>hF.lt_obj (.arg (a:=CV.ptr i []) (by simp) rfl) k1 j hj⟩ (V0d (K0c (fun j hj=>by simp[CV.has]at hj)))
 |false=>
  by_cases hroom:a+N<=8*B.l.length
  ·have hgd:getD B.l N (a,false)=(valB (bitB B.l) a N,(a+N,false)):=by simp[getD,hroom]
   rw[hgd]
   have hr2:¬(8*B.l.length-a:Int)<N:=by omega
   (have zx:=zA hmm (zA hr2 h1);refine zq103 ?_;try exact zT)
   repeat'(apply zK.s<;>intro hc<;>(try simp only[zhd]at hc)<;>(try have hw:=K0a hc)<;>(refine zq103 ?_;try exact zT))
   all_goals(try clear zx)
   (show W C false noExt call (ZC.loop V1m) _ _ _);refine Y0g C false noExt call V1m _ _ _ (J103 i B a N p) N ⟨0,rfl,by omega,by simp[put_at,X0c,K0f],zev,by simp[put_at,X0c,valB],zev,by rw[Hp.bump_get];exact h1,by rw[Hp.bump_n];omega,fun j o _ h=>by rw[Hp.bump_get];exact h⟩ ?_
   rintro n ρ q ⟨k,rfl,hk,e0,e1,e5,e6,g1,hn,hle⟩
   by_cases hlt:(k:Int)<N
   ·have ht:(((a+k:Nat)):Int).tmod 8=(((a+k) % 8:Nat):Int):=by rw[Int.tmod_eq_emod_of_nonneg (by omega)];omega
    have hd:(((a+k:Nat)):Int).tdiv 8=(((a+k)/8:Nat):Int):=by rw[Int.tdiv_eq_ediv_of_nonneg (by omega)];omega
    have hix:(a+k)/8<B.l.length:=by omega
    have hy:=h5 (nth B.l ((a+k)/8)) (by rw[Y0h hix];exact List.getElem_mem _)
    have hb8:=bit8_eq hy (show(a+k) % 8<8 by omega)
    unfold bit8 at hb8
    rw[show bitAt (nth B.l ((a+k)/8)) (7-(a+k) % 8)=bitB B.l (a+k) from rfl]at hb8
    have hsh:=shl1_eq (valB_63 (bitB B.l) a (k:=k) (by omega)) (bitB B.l (a+k))
    unfold shl1 at hsh
    replace hsh:IntKind.u64.wrap (BitVec.ofInt IntKind.u64.bits (IntKind.u64.wrap (valB (bitB B.l) a k*2^min 1 IntKind.u64.bits)) ||| BitVec.ofInt IntKind.u64.bits (b2i (bitB B.l (a+k)))).toNat=2*valB (bitB B.l) a k+b2i (bitB B.l (a+k)):=hsh
    have hv:valB (bitB B.l) a (k+1)=2*valB (bitB B.l) a k+b2i (bitB B.l (a+k)):=rfl
    have hw7:IntKind.u64.wrap (7-(((a+k) % 8:Nat):Int))=7-(((a+k) % 8:Nat):Int):=by
     show(7-(((a+k) % 8:Nat):Int)) % 2^64=_
     omega
    have hw0:¬7-(((a+k) % 8:Nat):Int)<0:=by omega
    (have zx:=zA e0 (zA e1 (zA e5 (zA e6 (zA g1 (zA hlt (zA ht (zA hd (zA hb8 (zA hsh (zA hw7 (zA hw0 h1)))))))))));refine zq103 ?_;try exact zT)
    repeat'(apply zK.s<;>intro hc<;>(try simp only[zhd]at hc)<;>(try have hw:=K0a hc)<;>(refine zq103 ?_;try exact zT))
    all_goals(try clear zx)
    refine⟨N-(k+1),by omega,k+1,rfl,by omega,zev,zev,by rw[hv];simp[put_at,X0c],zev,?_,by simp only[Hp.bump_n,Hp.zset_n];omega,fun j o hj h=>?_⟩
    ·simp only[Hp.get_set_self];rw[show((a+(k+1):Nat):Int)=((a+k:Nat):Int)+1 by omega]
    ·simp only[Hp.get_set_ne _ _ _ hj,Hp.bump_get];exact hle j o hj h
   ·have hkN:k=N:=by omega
    (have zx:=zA e0 (zA e1 (zA e5 (zA e6 (zA g1 (zA hlt h1)))));refine zq103 ?_;try exact zT)
    repeat'(apply zK.s<;>intro hc<;>(try simp only[zhd]at hc)<;>(try have hw:=K0a hc)<;>(refine zq103 ?_;try exact zT))
    all_goals(try clear zx)
    subst hkN
    exact X0t hF hi hle ⟨_,g1,V0h fun j hj=>hF.lt_obj (.arg (a:=CV.ptr i []) (by simp) rfl) k1 j hj⟩ (V0d (K0c (fun j hj=>by simp[CV.has]at hj)))
  ·have hgd:getD B.l N (a,false)=(0,(a,true)):=by simp[getD,hroom]
   rw[hgd]
   have hr2:(8*B.l.length-a:Int)<N:=by omega
   (have zx:=zA hmm (zA hr2 h1);refine zq103 ?_;try exact zT)
   repeat'(apply zK.s<;>intro hc<;>(try simp only[zhd]at hc)<;>(try have hw:=K0a hc)<;>(refine zq103 ?_;try exact zT))
   all_goals(try clear zx)
   exact X0t hF hi (fun j o hj h=>by rw[Hp.get_set_ne _ _ _ hj,Hp.bump_get];exact h) ⟨_,Hp.get_set_self _ _ _,V0h fun j hj=>hF.lt_obj (.arg (a:=CV.ptr i []) (by simp) rfl) k1 j hj⟩ (V0d (K0c (fun j hj=>by simp[CV.has]at hj)))
def R104: Rel:=fun args p r=>∃(i:Nat) (B:Lst Int) (st:RSt) (n:Int),args=[.ptr i [],I n]/\(p.t.get i=some (rdD B st))/\(B.l.length<=140737488355328)/\(st.1<=8*B.l.length)/\(1<=n/\n<=32)/\(∀x∈B.l,0<=x/\x<=255)/\r=.ret (I (sgetD B.l n.toNat st).1) (p.set i (some (rdD B (sgetD B.l n.toNat st).2)))
theorem t104{T:XCall}(h:Has T 104 R104)(i:Nat)(B:Lst Int)(st:RSt)(n:Int){p:Hp}(h1:p.t.get i=some (rdD B st))(h2:B.l.length<=140737488355328)(h3:st.1<=8*B.l.length)(h4:1<=n/\n<=32)(h5:∀x∈B.l,0<=x/\x<=255): T 104 [.ptr i [],I n] p=.ret (I (sgetD B.l n.toNat st).1) (p.set i (some (rdD B (sgetD B.l n.toNat st).2))):=h _ _ _ ⟨i,B,st,n,rfl,h1,h2,h3,h4,h5,rfl⟩
theorem zq104{A B:Prop}(k:B)(h:A=B:=by have zy:=zA @zw104<|zA @rs104<|zA @tt3<|zA @tt25<|zA @tt178<|zA ti3.eq_1<|zA ti25.eq_1<|zA ti178.eq_1<|zA @t_103<|zA @X0n<|zA @b2i_dec<|zA @h1<|zA @h2<|zA @h3<|zA @h4<|@h5;exact zQ): A:=h▸k
theorem c104: Con C 104 R104:=by
 refine V0e C ?_ ?_ ?_
 ·rintro args p r r' ⟨i,B,st,n,h,h1,h2,h3,h4,h5,e⟩ ⟨i',B',st',n',h',h1',h2',h3',h4',h5',e'⟩
  subst e;subst e';(subst h;simp only[List.cons.injEq,CV.ptr.injEq,CV.sc.injEq,Value.int.injEq,and_true,true_and]at h';obtain⟨e0,e3⟩:=h';subst e0;subst e3;obtain⟨e1,e2⟩:=rdD_get h1 h1';rw[e1,e2])
 ·rintro args p r ⟨i,B,st,n,h,h1,h2,h3,h4,h5,rfl⟩;exact zr1
 rintro args p r ⟨i,B,st,n,rfl,h1,h2,h3,h4,h5,rfl⟩
 refine zW C false [(103,R103)] ⟨c103,zT⟩ rfl xf104 zc104_ok fun call zh hF=>?_
 have t_103:=@t103 _ zh.1
 clear zh
 have hd_h1:=hF.dom _ _ h1
 have hi:=hF.dom _ _ h1
 have k1:=h1
 obtain⟨N,rfl⟩:=Int.eq_ofNat_of_zero_le (show 0<=n by omega)
 have hmm:max 0 (min 64 (N:Int))=N:=by omega
 have hn0:¬(N:Int)=0:=by omega
 have hn64:(N:Int)<64:=by omega
 obtain⟨M,rfl⟩:∃M,N=M+1:=⟨N-1,by omega⟩
 have hug:=Q0t B.l (M+1) st
 have htb:=top_bit hug
 have hN1:IntKind.u64.wrap (((M+1:Nat):Int)-1)=(M:Int):=by
  show(((M+1:Nat):Int)-1) % 2^64=_
  omega
 have hN2:IntKind.u64.wrap ((M+1:Nat):Int)=((M+1:Nat):Int):=by
  show((M+1:Nat):Int) % 2^64=_
  omega
 have hM0:¬(M:Int)<0:=by omega
 have hM1:¬((M+1:Nat):Int)<0:=by omega
 have htn:((M:Nat):Int).toNat=M:=Int.toNat_natCast _
 have htn2:((M+1:Nat):Int).toNat=M+1:=Int.toNat_natCast _
 have hp:=p32 (n:=M+1) (by omega)
 have hbo:=bit_of (getD B.l (M+1) st).1 M (by omega)
 unfold andB at hbo
 have hsg:(sgetD B.l (M+1) st).1=sgnB (getD B.l (M+1) st).1 (M+1):=rfl
 have hs2:(sgetD B.l (M+1) st).2=(getD B.l (M+1) st).2:=rfl
 rw[Int.toNat_natCast,hsg,hs2]
 generalize hu:(getD B.l (M+1) st).1=u at hug htb hbo
 have hiw:IntKind.i64.wrap u=u:=X0p (by omega) (by omega)
 have hmin:min (M+1) IntKind.i64.bits=M+1:=by show min (M+1) 64=_;omega
 have hsh:IntKind.i64.wrap (1*2^(M+1))=2^(M+1):=by rw[Int.one_mul];exact X0p (by omega) (by omega)
 have hsub:IntKind.i64.wrap (u-2^(M+1))=u-2^(M+1):=X0p (by omega) (by omega)
 cases hlow:decide (u<2^M) with
 |true=>
  rw[hlow]at htb
  have hsn:sgnB u (M+1)=u:=by unfold sgnB;rw[Nat.add_sub_cancel,if_pos (of_decide_eq_true hlow)]
  rw[hsn]
  (have zx:=zA hmm (zA hn0 (zA hn64 (zA hu (zA hN1 (zA hN2 (zA hM0 (zA hM1 (zA htn (zA htn2 (zA hbo (zA htb (zA hiw (zA hmin (zA hsh (zA hsub h1)))))))))))))));refine zq104 ?_;try exact zT)
  repeat'(apply zK.s<;>intro hc<;>(try simp only[zhd]at hc)<;>(try have hw:=K0a hc)<;>(refine zq104 ?_;try exact zT))
  all_goals(try clear zx)
  exact X0t hF hi (fun j o hj h=>by rw[Hp.get_set_ne _ _ _ hj];exact h) ⟨_,Hp.get_set_self _ _ _,V0h fun j hj=>hF.lt_obj (.arg (a:=CV.ptr i []) (by simp) rfl) k1 j hj⟩ (V0d (K0c (fun j hj=>by simp[CV.has]at hj)))
 |false=>
  rw[hlow]at htb
  have hsn:sgnB u (M+1)=u-2^(M+1):=by unfold sgnB;rw[Nat.add_sub_cancel,if_neg (of_decide_eq_false hlow)]
  rw[hsn]
  (have zx:=zA hmm (zA hn0 (zA hn64 (zA hu (zA hN1 (zA hN2 (zA hM0 (zA hM1 (zA htn (zA htn2 (zA hbo (zA htb (zA hiw (zA hmin (zA hsh (zA hsub h1)))))))))))))));refine zq104 ?_;try exact zT)
  repeat'(apply zK.s<;>intro hc<;>(try simp only[zhd]at hc)<;>(try have hw:=K0a hc)<;>(refine zq104 ?_;try exact zT))
  all_goals(try clear zx)
  exact X0t hF hi (fun j o hj h=>by rw[Hp.get_set_ne _ _ _ hj];exact h) ⟨_,Hp.get_set_self _ _ _,V0h fun j hj=>hF.lt_obj (.arg (a:=CV.ptr i []) (by simp) rfl) k1 j hj⟩ (V0d (K0c (fun j hj=>by simp[CV.has]at hj)))
end Go.Proofs.Ytpchcfkebljopaa
end
section
namespace Go.Proofs.Ytpchcfkebljopaa
open Go.Cl Go Go.RowKit
def bindD{α β:Type}(d:α×RSt)(g:α->RSt->β×RSt): β×RSt:=g d.1 d.2
def Keeps{α:Type}(f:RSt->α×RSt): Prop:=∀a,(f (a,true)).2.2=true
theorem Keeps.bind{α β:Type}{f:RSt->α×RSt}{g:α->RSt->β×RSt}(hf:Keeps f)(hg:∀x,Keeps (g x)): Keeps fun r=>bindD (f r) g:=fun a=>by
 have h:=hf a
 show(g (f (a,true)).1 (f (a,true)).2).2.2=true
 generalize f (a,true)=y at h
 obtain⟨x,c,t⟩:=y
 simp only at h
 subst h
 exact hg x c
theorem Keeps.pure{α:Type}(x:α): Keeps fun r=>(x,r):=fun _=>rfl
structure Pair{α:Type}(N:Nat)(e:Nat->Except Int (α×Nat))(d:RSt->α×RSt): Prop where
 rel:∀a,RelD (e a) (d (a,false))
 keeps:Keeps d
 at_:∀r,r.1<=N->(d r).2.1<=N
theorem Pair.bind{α β:Type}{N:Nat}{e:Nat->Except Int (α×Nat)}{d:RSt->α×RSt}{f:α->Nat->Except Int (β×Nat)}{g:α->RSt->β×RSt}(h:Pair N e d)(k:∀x,Pair N (f x) (g x)): Pair N (fun a=>bindE (e a) f) (fun r=>bindD (d r) g):=
 ⟨fun a=>(h.rel a).bind (fun x a'=>(k x).rel a') (fun x a'=>(k x).keeps a'),h.keeps.bind fun x=>(k x).keeps,fun r hr=>(k _).at_ _ (h.at_ r hr)⟩
theorem Pair.pure{α:Type}{N:Nat}(x:α): Pair N (fun a=>.ok (x,a)) (fun r=>(x,r)):=⟨fun _=>rfl,fun _=>rfl,fun _ h=>h⟩
theorem getP(b:List Int)(n:Nat): Pair (8*b.length) (getB b n) (getD b n):=⟨getD_rel b n,V17 b n,fun _ h=>K11 h⟩
theorem sgetP(b:List Int)(n:Nat): Pair (8*b.length) (sgetB b n) (sgetD b n):=⟨sgetD_rel b n,V17 b n,fun _ h=>K11 (b:=b) h⟩
end Go.Proofs.Ytpchcfkebljopaa
end
section
namespace Go.Proofs.Ytpchcfkebljopaa
open Go.Cl Go Go.RowKit
set_option maxRecDepth 100000
set_option linter.constructorNameAsVariable false
theorem bld161(s:Lst Int): qbuild C 161 [(0,s.cv Y8)]=some (Y0b.mk s 0 false).cv:=by
 simp only[qbuild,tt161,ti161,partsOk,setAll];rfl
theorem rdD_eq(s:Lst Int): XObj.var sh161 (Y0b.mk s 0 false).cv=rdD s (0,false):=rfl
theorem rdF{b:List Int}(n:Nat){r:RSt}(hn:n<=32)(h:r.1<=8*b.length): ∃F,getD b n r=F/\F.2.1<=8*b.length/\IntKind.i64.wrap F.1=F.1:=by
 have hr:=Q0t b n r
 have hp:=p32 hn
 exact⟨_,rfl,K11 h,X0p (by omega) (by omega)⟩
theorem rdG{b:List Int}(n:Nat){r:RSt}(h:r.1<=8*b.length): ∃F,getD b n r=F/\F.2.1<=8*b.length:=⟨_,rfl,K11 h⟩
theorem rdS{b:List Int}(n:Nat){r:RSt}(h:r.1<=8*b.length): ∃F,sgetD b n r=F/\F.2.1<=8*b.length:=⟨_,rfl,K11 (b:=b) h⟩
end Go.Proofs.Ytpchcfkebljopaa
end
section
namespace Go.Proofs.Ytpchcfkebljopaa
open Go.Cl Go Go.RowKit
def readInD(b:List Int)(r:RSt): Y0a×RSt:=bindD (getD b 8 r) fun u r=>bindD (sgetD b 8 r) fun x r=>bindD (sgetD b 8 r) fun y r=>(⟨u,x,y⟩,r)
theorem readInP(b:List Int): Pair (8*b.length) (readIn b) (readInD b):=(getP b 8).bind fun u=>(sgetP b 8).bind fun x=>(sgetP b 8).bind fun y=>Pair.pure _
def readCellD(b:List Int)(r:RSt): X0a×RSt:=bindD (getD b 1 r) fun f r=>if f=1 then bindD (readInD b r) fun i r=>(⟨true,i⟩,r) else(⟨false,Y0a.zero⟩,r)
theorem readCellP(b:List Int): Pair (8*b.length) (readCell b) (readCellD b):=by
 refine(getP b 1).bind fun f=>?_
 by_cases hf:f=1
 ·simp only[if_pos hf];exact(readInP b).bind fun i=>Pair.pure _
 ·simp only[if_neg hf];exact Pair.pure _
def readRowD(b:List Int)(r:RSt): Nat->List X0a×RSt
 |0=>([],r)
 |k+1=>bindD (readRowD b r k) fun l r=>bindD (readCellD b r) fun c r=>(l++[c],r)
theorem readRowP(b:List Int): ∀k,Pair (8*b.length) (fun a=>readRow b a k) (fun r=>readRowD b r k)
 |0=>Pair.pure _
 |k+1=>(readRowP b k).bind fun l=>(readCellP b).bind fun c=>Pair.pure _
def readRowsD(b:List Int)(m:Nat)(r:RSt): Nat->List (List X0a)×RSt
 |0=>([],r)
 |k+1=>bindD (readRowsD b m r k) fun l r=>bindD (readRowD b r m) fun x r=>(l++[x],r)
theorem readRowsP(b:List Int)(m:Nat): ∀k,Pair (8*b.length) (fun a=>readRows b m a k) (fun r=>readRowsD b m r k)
 |0=>Pair.pure _
 |k+1=>(readRowsP b m k).bind fun l=>(readRowP b m).bind fun c=>Pair.pure _
def readInsD(b:List Int)(r:RSt): Nat->List Y0a×RSt
 |0=>([],r)
 |k+1=>bindD (readInsD b r k) fun l r=>bindD (readInD b r) fun c r=>(l++[c],r)
theorem readInsP(b:List Int): ∀k,Pair (8*b.length) (fun a=>readIns b a k) (fun r=>readInsD b r k)
 |0=>Pair.pure _
 |k+1=>(readInsP b k).bind fun l=>(readInP b).bind fun c=>Pair.pure _
def readTailD(b:List Int)(x:Q0a)(r:RSt): Q0a×RSt:=
 if x.Kind=2 then bindD (getD b 10 r) fun g r=>bindD (getD b 10 r) fun f r=>bindD (getD b 5 r) fun n r=>bindD (readInsD b r n.toNat) fun l r=>({x with Got:=g,First:=f,Inputs:=lstP l},r)
 else if x.Kind=3 then bindD (getD b 10 r) fun f r=>bindD (getD b 4 r) fun n r=>bindD (getD b 4 r) fun k r=>bindD (readRowsD b n.toNat r k.toNat) fun l r=>({x with First:=f,Players:=n,Rows:=rowsP l},r)
 else if x.Kind=4 then bindD (getD b 10 r) fun f r=>bindD (getD b 62 r) fun m r=>({x with Frame:=f,Mark:=m},r) else(x,r)
theorem readTailP(b:List Int)(x:Q0a): Pair (8*b.length) (readTail b x) (readTailD b x):=by
 unfold readTail readTailD readTail3
 by_cases h2:x.Kind=2
 ·simp only[if_pos h2];exact(getP b 10).bind fun g=>(getP b 10).bind fun f=>(getP b 5).bind fun n=>(readInsP b n.toNat).bind fun l=>Pair.pure _
 ·simp only[if_neg h2]
  by_cases h3:x.Kind=3
  ·simp only[if_pos h3];exact(getP b 10).bind fun f=>(getP b 4).bind fun n=>(getP b 4).bind fun k=>(readRowsP b n.toNat k.toNat).bind fun l=>Pair.pure _
  ·simp only[if_neg h3]
   by_cases h4:x.Kind=4
   ·simp only[if_pos h4];exact(getP b 10).bind fun f=>(getP b 62).bind fun m=>Pair.pure _
   ·simp only[if_neg h4];exact Pair.pure _
def readPD(b:List Int)(r:RSt): Q0a×RSt:=
 bindD (getD b 3 r) fun k r=>bindD (getD b 3 r) fun s r=>bindD (getD b 16 r) fun q r=>bindD (getD b 16 r) fun l r=>bindD (getD b 1 r) fun f r=>bindD (getD b 64 r) fun c r=>readTailD b (headOf k s q l f c) r
theorem readPP(b:List Int): Pair (8*b.length) (readPa b) (readPD b):=
 (getP b 3).bind fun k=>(getP b 3).bind fun s=>(getP b 16).bind fun q=>(getP b 16).bind fun l=>(getP b 1).bind fun f=>(getP b 64).bind fun c=>readTailP b _
theorem readD_pack(key:Int)(B:List Int)(h:B.length<=400)(h4:4<=B.length)(ho:closeB key (B.take (B.length-4))=B):
  openP key B=if(readPD (B.take (B.length-4)) (0,false)).2.2=false/\packRight (readPD (B.take (B.length-4)) (0,false)).1=true/\layP key (readPD (B.take (B.length-4)) (0,false)).1=B then((readPD (B.take (B.length-4)) (0,false)).1,0) else(Q0a.zero,2):=by
 have hr:=(readPP (B.take (B.length-4))).rel 0
 unfold openP
 rw[if_neg (by omega),if_neg (fun hh=>hh ⟨h4,ho⟩)]
 rw[show readP (B.take (B.length-4))=readPa (B.take (B.length-4)) 0 from rfl]
 cases hp:readPa (B.take (B.length-4)) 0 with
 |error e=>
  rw[hp]at hr
  simp only[RelD]at hr
  simp[hr]
 |ok y=>
  obtain⟨p,a⟩:=y
  rw[hp]at hr
  simp only[RelD]at hr
  rw[hr]
  have e:layP key p=B ↔ packB (packBits p)=B.take (B.length-4):=by
   constructor
   ·intro h
    rw[<- h]
    rw[layP,K0o,Nat.add_sub_cancel,closeB]
    exact(List.take_left' rfl).symm
   ·intro h;rw[layP,h,ho]
  simp only[true_and,e]
end Go.Proofs.Ytpchcfkebljopaa
end
section
namespace Go.Proofs.Ytpchcfkebljopaa
open Go.Cl Go Go.RowKit
set_option maxRecDepth 100000
set_option linter.constructorNameAsVariable false
def R129q: Rel:=fun args p r=>∃(key:Int) (j:Nat) (B:List Int),args=[I key,.slc j [] 0 B.length]/\(-9223372036854775808<=key/\key<=9223372036854775807)/\(B.length<=100000)/\(∀x∈B,0<=x/\x<=255)/\(p.t.get j=some (Wrow B))/\r=if opensB key (partB B)then .ret (.tup [Lst.cv Y8 (cloneP (partB (tagBody (partB B)))),Bo true]) p else .ret (.tup [Lst.cv Y8 nilB,Bo false]) p
theorem t129q{T:XCall}(h:Has T 129 R129q)(key:Int)(j:Nat)(B:List Int){p:Hp}(hk:-9223372036854775808<=key/\key<=9223372036854775807)(h2:B.length<=100000)(h5:∀x∈B,0<=x/\x<=255)(h3:p.t.get j=some (Wrow B)): T 129 [I key,.slc j [] 0 B.length] p=if opensB key (partB B)then .ret (.tup [Lst.cv Y8 (cloneP (partB (tagBody (partB B)))),Bo true]) p else .ret (.tup [Lst.cv Y8 nilB,Bo false]) p:=h _ _ _ ⟨key,j,B,rfl,hk,h2,h5,h3,rfl⟩
theorem zdis129q{P:Prop}(h:P:=by first|exact zdis|(simp only[Hp.bump_n,Hp.znew_n,Hp.zset_n,List.length_nil,List.length_cons,List.length_append,List.length_map,Z0e];(first|done|omega))|(simp (disch:=first|exact zd1|(simp only[Hp.bump_n,Hp.znew_n,Hp.zset_n,List.length_nil,List.length_cons,List.length_append,List.length_map,Z0e];(first|done|omega))) only[zheap,zx];(first|done|rfl))|fail): P:=h
theorem zq129q{A B:Prop}(k:B)(h:A=B:=by have zy:=zA @zw129<|zA @rs129<|zA @tt3<|zA @tt9<|zA @tt68<|zA ti3.eq_1<|zA ti9.eq_1<|zA ti68.eq_1<|zA @t_53m<|zA @zsl68<|zA @sl68r<|zA @Z0e<|zA @tt5<|zA ti5.eq_1<|zA @Y0u<|zA @nil_slc<|zA @hk<|zA @h2<|zA @h5<|@h3;have zd:=@zdis129q;exact zQd): A:=h▸k
theorem c129q: Con C 129 R129q:=by
 refine V0e C ?_ ?_ ?_
 ·rintro args p r r' ⟨key,j,B,h,hk,h2,h5,h3,e⟩ ⟨key',j',B',h',hk',h2',h5',h3',e'⟩
  subst e;subst e';(subst h;simp only[List.cons.injEq,CV.sc.injEq,Value.int.injEq,CV.slc.injEq,and_true,true_and]at h';obtain⟨e2,e0,_⟩:=h';subst e0;subst e2;rw[h3]at h3';rw[Z0n (Option.some.inj h3')])
 ·rintro args p r ⟨key,j,B,h,hk,h2,h5,h3,rfl⟩;exact zr1
 rintro args p r ⟨key,j,B,rfl,hk,h2,h5,h3,rfl⟩
 refine zW C false [(53,R53m)] ⟨c53m,zT⟩ rfl xf129 zc129_ok fun call zh hF=>?_
 have t_53m:=@t53m _ zh.1
 clear zh
 have hd_h3:=hF.dom _ _ h3
 have hj:=hF.dom _ _ h3
 by_cases hlt:(B.length:Int)<4
 ·have hno:¬opensB key (partB B):=fun h=>by have:=h.1;rw[Z0e]at this;omega
  have hlt2:(B.length:Int)-4<0:=by omega
  rw[if_neg hno]
  (have zx:=zA hlt (zA hlt2 h3);refine zq129q ?_;try exact zT)
  repeat'(apply zK.s<;>intro hc<;>(try simp only[zhd]at hc)<;>(try have hw:=K0a hc)<;>(refine zq129q ?_;try exact zT))
  all_goals(try clear zx)
  exact V0c hF zle (V0d (K0c (by intro jj;simp[CV.has,CV.hasL,Lst.cv,nilB])))
 ·obtain⟨m,hm⟩:∃m:Nat,((B.length:Int)-4).toNat=m:=⟨_,rfl⟩
  have hlt2:¬(B.length:Int)-4<0:=by omega
  have hmB:m<=B.length:=by omega
  have hbe:tagBody (partB B)=B.take m:=by rw[tagBody,Z0e];congr 1;omega
  have hcb:∀x∈closeB key (B.take m),0<=x/\x<=255:=fun x hx=>by
   rw[closeB]at hx
   rcases List.mem_append.1 hx with hx|hx
   ·exact h5 x (List.mem_of_mem_take hx)
   ·simp only[four,List.mem_cons,List.not_mem_nil,or_false]at hx
    omega
  have t7:=fun q h=>t_53m key j m B (p:=q) hk hmB (by omega) h5 h
  have hop:opensB key (partB B) ↔ closeB key (B.take m)=B:=by
   unfold opensB
   rw[hbe,Z0e]
   exact⟨fun h=>h.2,fun h=>⟨by omega,h⟩⟩
  have hse:=str_eq hcb h5
  obtain⟨D,eD⟩:∃D,closeB key (B.take m)=D:=⟨_,rfl⟩
  rw[eD]at t7 hse hop hcb
  have sD:∀(q:Hp) (k:Nat),q.t.get k=some (Wrow D)->srcOf C q.h 68 (.slc k [] 0 D.length)=some (D.map Y8):=fun q k hg=>src68 q k _ hg
  have sB:∀(q:Hp) (k:Nat),q.t.get k=some (Wrow B)->srcOf C q.h 68 (.slc k [] 0 B.length)=some (B.map Y8):=fun q k hg=>src68 q k _ hg
  by_cases hc:D=B
  ·rw[if_pos (hop.2 hc),hbe]
   rw[decide_eq_true hc]at hse
   by_cases hm0:m=0
   ·have a1:=fun q h=>app68q q j B h
    subst hm0
    (have zx:=zA hlt (zA hlt2 (zA hm (zA t7 (zA eD (zA hse (zA sD (zA sB (zA a1 h3))))))));refine zq129q ?_;try exact zT)
    repeat'(apply zK.s<;>intro hc<;>(try simp only[zhd]at hc)<;>(try have hw:=K0a hc)<;>(refine zq129q ?_;try exact zT))
    all_goals(try clear zx)
    exact V0c hF zle (Q0d rfl (fun j hj=>by
     simp only[CV.has,CV.hasL,or_false]at hj
     exact absurd ((Lst.has _ Y0l _ j).1 hj) (Z08 _ j)))
   ·have hml:(B.take m).length=m:=by rw[List.length_take];omega
    have a1:=fun q h=>app68p q j m B (by omega) (by omega) h
    (have zx:=zA hlt (zA hlt2 (zA hm (zA t7 (zA eD (zA hse (zA sD (zA sB (zA a1 h3))))))));refine zq129q ?_;try exact zT)
    repeat'(apply zK.s<;>intro hc<;>(try simp only[zhd]at hc)<;>(try have hw:=K0a hc)<;>(refine zq129q ?_;try exact zT))
    all_goals(try clear zx)
    exact V0c hF zle (K18 _ _ _ (fun e=>by rw[e]at hml;simp at hml;omega))
  ·rw[if_neg (fun h=>hc (hop.1 h))]
   rw[decide_eq_false hc]at hse
   (have zx:=zA hlt (zA hlt2 (zA hm (zA t7 (zA eD (zA hse (zA sD (zA sB h3)))))));refine zq129q ?_;try exact zT)
   repeat'(apply zK.s<;>intro hc<;>(try simp only[zhd]at hc)<;>(try have hw:=K0a hc)<;>(refine zq129q ?_;try exact zT))
   all_goals(try clear zx)
   exact V0c hF zle (V0d (K0c (by intro jj;simp[CV.has,CV.hasL,Lst.cv,nilB])))
def R130: Rel:=fun args p r=>∃(i:Nat) (B:Lst Int) (st:RSt),args=[.ptr i []]/\(p.t.get i=some (rdD B st))/\(B.l.length<=140737488355328)/\(st.1<=8*B.l.length)/\(∀x∈B.l,0<=x/\x<=255)/\r=.ret (readInD B.l st).1.cv (p.set i (some (rdD B (readInD B.l st).2)))
theorem t130{T:XCall}(h:Has T 130 R130)(i:Nat)(B:Lst Int)(st:RSt){p:Hp}(h1:p.t.get i=some (rdD B st))(h2:B.l.length<=140737488355328)(h3:st.1<=8*B.l.length)(h5:∀x∈B.l,0<=x/\x<=255): T 130 [.ptr i []] p=.ret (readInD B.l st).1.cv (p.set i (some (rdD B (readInD B.l st).2))):=h _ _ _ ⟨i,B,st,rfl,h1,h2,h3,h5,rfl⟩
theorem zq130{A B:Prop}(k:B)(h:A=B:=by have zy:=zA @zw130<|zA @rs130<|zA @tt3<|zA @tt25<|zA @tt36<|zA ti3.eq_1<|zA ti25.eq_1<|zA ti36.eq_1<|zA @t_103<|zA @t_104<|zA @X0n<|zA @Q0f<|zA @h1<|zA @h2<|zA @h3<|@h5;exact zQ): A:=h▸k
theorem c130: Con C 130 R130:=by
 refine V0e C ?_ ?_ ?_
 ·rintro args p r r' ⟨i,B,st,h,h1,h2,h3,h5,e⟩ ⟨i',B',st',h',h1',h2',h3',h5',e'⟩
  subst e;subst e';(subst h;simp only[List.cons.injEq,CV.ptr.injEq,and_true]at h';subst h';obtain⟨e1,e2⟩:=rdD_get h1 h1';rw[e1,e2])
 ·rintro args p r ⟨i,B,st,h,h1,h2,h3,h5,rfl⟩;exact zr1
 rintro args p r ⟨i,B,st,rfl,h1,h2,h3,h5,rfl⟩
 refine zW C false [(103,R103),(104,R104)] ⟨c103,c104,zT⟩ rfl xf130 zc130_ok fun call zh hF=>?_
 have t_103:=@t103 _ zh.1
 have t_104:=@t104 _ zh.2.1
 clear zh
 have hd_h1:=hF.dom _ _ h1
 have hi:=hF.dom _ _ h1
 have k1:=h1
 obtain⟨U,hUe,hUa,hUw⟩:=rdF (b:=B.l) 8 (r:=st) (by omega) h3
 obtain⟨X,hXe,hXa⟩:=rdS (b:=B.l) 8 (r:=U.2) hUa
 obtain⟨Y,hYe,hYa⟩:=rdS (b:=B.l) 8 (r:=X.2) hXa
 have hr:readInD B.l st=(⟨U.1,X.1,Y.1⟩,Y.2):=by subst hYe;subst hXe;subst hUe;rfl
 rw[hr]
 (have zx:=zA hUe (zA hUw (zA hXe (zA hYe h1)));refine zq130 ?_;try exact zT)
 repeat'(apply zK.s<;>intro hc<;>(try simp only[zhd]at hc)<;>(try have hw:=K0a hc)<;>(refine zq130 ?_;try exact zT))
 all_goals(try clear zx)
 exact X0t hF hi (fun j o hj h=>by have hd:=hF.dom j o h;simp (disch:=first|exact zdl|fail) only[Hp.get_set_ne,Hp.get_new_ne];exact h) ⟨_,zg9,V0h fun j hj=>hF.lt_obj (.arg (a:=CV.ptr i []) (by simp) rfl) k1 j hj⟩ (V0d (K0c (fun j hj=>by simp[Y0a.cv,CV.has,CV.hasL]at hj)))
theorem tailD_2{b:List Int}{x:Q0a}{r:RSt}{G F N:Int×RSt}(k:x.Kind=2)(hG:getD b 10 r=G)(hF:getD b 10 G.2=F)(hN:getD b 5 F.2=N): readTailD b x r=bindD (readInsD b N.2 N.1.toNat) fun l r=>({x with Got:=G.1,First:=F.1,Inputs:=lstP l},r):=by
 subst hN;subst hF;subst hG
 unfold readTailD
 rw[if_pos k];rfl
theorem tailD_3{b:List Int}{x:Q0a}{r:RSt}{F N R:Int×RSt}(k:x.Kind=3)(hF:getD b 10 r=F)(hN:getD b 4 F.2=N)(hR:getD b 4 N.2=R): readTailD b x r=bindD (readRowsD b N.1.toNat R.2 R.1.toNat) fun l r=>({x with First:=F.1,Players:=N.1,Rows:=rowsP l},r):=by
 subst hR;subst hN;subst hF
 unfold readTailD
 rw[if_neg (by omega),if_pos k];rfl
theorem tailD_4{b:List Int}{x:Q0a}{r:RSt}{F M:Int×RSt}(k:x.Kind=4)(hF:getD b 10 r=F)(hM:getD b 62 F.2=M): readTailD b x r=({x with Frame:=F.1,Mark:=M.1},M.2):=by
 subst hM;subst hF
 unfold readTailD
 rw[if_neg (by omega),if_neg (by omega),if_pos k];rfl
theorem tailD_0{b:List Int}{x:Q0a}{r:RSt}(k2:¬x.Kind=2)(k3:¬x.Kind=3)(k4:¬x.Kind=4): readTailD b x r=(x,r):=by
 unfold readTailD
 rw[if_neg k2,if_neg k3,if_neg k4]
def K54(key:Int)(j:Nat)(B:List Int)(bl:Lst Int)(p:Hp)(ρ:Env)(q:Hp): Prop:=
 ∃(A:Q0a) (st:RSt),ρ 0=I key/\ρ 1=.slc j [] 0 B.length/\ρ 4=.ptr p.n []/\ρ 8=.ptr (p.n+1) []/\ρ 9=.ptr (p.n+2) []/\q.t.get p.n=some (.var sh94 Q0a.zero.cv)/\q.t.get (p.n+1)=some (rdD bl st)/\q.t.get (p.n+2)=some (.var sh94 A.cv)/\p.n+2<q.n/\HpLe p q/\readPD bl.l (0,false)=(canonP A,st)/\packOk A/\CV.weak (fun k=>k) p.n A.cv (canonP A).cv
def J54(key:Int)(j:Nat)(B:List Int)(bl:Lst Int)(x0:Q0a)(st0:RSt)(N:Nat)(p:Hp)(n:Nat)(ρ:Env)(q:Hp): Prop:=
 ∃(m:Nat) (st:RSt) (acc:Lst Y0a),n=N-m/\m<=N/\ρ 0=I key/\ρ 1=.slc j [] 0 B.length/\ρ 4=.ptr p.n []/\ρ 8=.ptr (p.n+1) []/\ρ 9=.ptr (p.n+2) []/\ρ 10=I N/\ρ 11=I m/\readInsD bl.l st0 m=(acc.l,st)/\st.1<=8*bl.l.length/\acc.l.length=m/\App (p.n+2) acc q/\q.t.get p.n=some (.var sh94 Q0a.zero.cv)/\q.t.get (p.n+1)=some (rdD bl st)/\q.t.get (p.n+2)=some (.var sh94 (Q0a.cv {x0 with Inputs:=acc}))/\p.n+2<q.n/\HpLe p q
def L54(key:Int)(j:Nat)(B:List Int)(bl:Lst Int)(x0:Q0a)(st0:RSt)(N R:Nat)(p:Hp)(n:Nat)(ρ:Env)(q:Hp): Prop:=
 ∃(m:Nat) (st:RSt) (acc:Lst (Lst X0a)),n=R-m/\m<=R/\ρ 0=I key/\ρ 1=.slc j [] 0 B.length/\ρ 4=.ptr p.n []/\ρ 8=.ptr (p.n+1) []/\ρ 9=.ptr (p.n+2) []/\ρ 12=I R/\ρ 13=I m/\readRowsD bl.l N st0 m=(rowsL acc,st)/\st.1<=8*bl.l.length/\acc.l.length=m/\App (p.n+2) acc q/\(∀x∈acc.l,AppT x/\x.l.length=N)/\q.t.get p.n=some (.var sh94 Q0a.zero.cv)/\q.t.get (p.n+1)=some (rdD bl st)/\q.t.get (p.n+2)=some (.var sh94 (Q0a.cv {x0 with Rows:=acc}))/\p.n+2<q.n/\HpLe p q
def M54(key:Int)(j:Nat)(B:List Int)(bl:Lst Int)(st1:RSt)(N R m:Nat)(p q1:Hp)(n:Nat)(ρ:Env)(q:Hp): Prop:=
 ∃(c:Nat) (st:RSt) (row:Lst X0a),n=N-c/\c<=N/\ρ 0=I key/\ρ 1=.slc j [] 0 B.length/\ρ 4=.ptr p.n []/\ρ 8=.ptr (p.n+1) []/\ρ 9=.ptr (p.n+2) []/\ρ 12=I R/\ρ 13=I m/\ρ 14=row.cv X0a.cv/\ρ 15=I c/\readRowD bl.l st1 c=(row.l,st)/\st.1<=8*bl.l.length/\row.l.length=c/\App (q1.n-1) row q/\q.t.get (p.n+1)=some (rdD bl st)/\q1.n<=q.n/\∀k o,k≠p.n+1->k<q1.n->q1.t.get k=some o->q.t.get k=some o
theorem K1a(j:Nat): ¬Q0a.zero.cv.has j:=fun h=>by
 rcases(packHas _ j).1 h with h|h<;>exact nilHas _ j h
def R54q: Rel:=fun args p r=>∃(key:Int) (j:Nat) (B:List Int),args=[I key,.slc j [] 0 B.length]/\(-9223372036854775808<=key/\key<=9223372036854775807)/\(B.length<=140737488355328)/\(∀x∈B,0<=x/\x<=255)/\(p.t.get j=some (Wrow B))/\r=.ret (.tup [(openP key B).1.cv,I (openP key B).2]) p
theorem zdis54q{P:Prop}(h:P:=by first|exact zdis|(simp only[Hp.bump_n,Hp.znew_n,Hp.zset_n,List.length_nil,List.length_cons,List.length_append,List.length_map,Z0e,Z0i];(first|done|omega))|(simp (disch:=first|exact zd1|(simp only[Hp.bump_n,Hp.znew_n,Hp.zset_n,List.length_nil,List.length_cons,List.length_append,List.length_map,Z0e,Z0i];(first|done|omega))) only[zheap,zx];(first|done|rfl))|fail): P:=h
theorem zq54q{A B:Prop}(k:B)(h:A=B:=by have zy:=zA @zw54<|zA @rs54<|zA @tt3<|zA @tt4<|zA @tt9<|zA @tt25<|zA @tt36<|zA @tt68<|zA @tt91<|zA @tt92<|zA @tt94<|zA @tt108<|zA @tt110<|zA @tt161<|zA ti3.eq_1<|zA ti4.eq_1<|zA ti9.eq_1<|zA ti25.eq_1<|zA ti36.eq_1<|zA ti68.eq_1<|zA ti91.eq_1<|zA ti92.eq_1<|zA ti94.eq_1<|zA ti108.eq_1<|zA ti110.eq_1<|zA ti161.eq_1<|zA @t_51<|zA @t_103<|zA @t_129q<|zA @t_130<|zA @K0e<|zA @Y0f<|zA @Q0f<|zA @X0n<|zA @zsl68<|zA @zsl91<|zA @zsl92<|zA @zsl108<|zA @bld161<|zA @Y0b.xbox<|zA @rdD_eq<|zA @Z0e<|zA @Z0i<|zA @tt5<|zA ti5.eq_1<|zA @Y0u<|zA @hk<|zA @h2<|zA @h5<|@h3;have zd:=@zdis54q;exact zQd): A:=h▸k
theorem c54q: Con C 54 R54q:=by
 refine V0e C ?_ ?_ ?_
 ·rintro args p r r' ⟨key,j,B,h,hk,h2,h5,h3,e⟩ ⟨key',j',B',h',hk',h2',h5',h3',e'⟩
  subst e;subst e';(subst h;simp only[List.cons.injEq,CV.sc.injEq,Value.int.injEq,CV.slc.injEq,and_true,true_and]at h';obtain⟨e2,e0,_⟩:=h';subst e0;subst e2;rw[h3]at h3';rw[Z0n (Option.some.inj h3')])
 ·rintro args p r ⟨key,j,B,h,hk,h2,h5,h3,rfl⟩;exact zr1
 rintro args p r ⟨key,j,B,rfl,hk,h2,h5,h3,rfl⟩
 refine zW C false [(51,R51),(103,R103),(129,R129q),(130,R130)] ⟨c51,c103,c129q,c130,zT⟩ rfl xf54 zc54_ok fun call zh hF=>?_
 have t_51:=@t51 _ zh.1
 have t_103:=@t103 _ zh.2.1
 have t_129q:=@t129q _ zh.2.2.1
 have t_130:=@t130 _ zh.2.2.2.1
 clear zh
 have hd_h3:=hF.dom _ _ h3
 have hj:=hF.dom _ _ h3
 by_cases hlong:(400:Int)<B.length
 ·have hop:openP key B=_:=Y1q (key:=key) (s:=partB B) (by rw[Z0e];omega)
  rw[hop]
  (have zx:=zA hlong h3;refine zq54q ?_;try exact zT)
  repeat'(apply zK.s<;>intro hc<;>(try simp only[zhd]at hc)<;>(try have hw:=K0a hc)<;>(refine zq54q ?_;try exact zT))
  all_goals(try clear zx)
  exact V0c hF zle (V0d (K0c (by simp only[CV.has,CV.hasL,or_false];exact K1a)))
 ·by_cases ho:opensB key (partB B)
  ·have ho2:=ho
   unfold opensB at ho2
   rw[Z0e]at ho2
   have hbody:tagBody (partB B)=B.take (B.length-4):=by rw[tagBody,Z0e]
   have hpk:=readD_pack key B (by omega) ho2.1 (by rw[<- hbody];exact ho2.2)
   rw[<- hbody]at hpk
   obtain⟨bl,hbl⟩:∃bl,bl=cloneP (partB (tagBody (partB B))):=⟨_,rfl⟩
   have hbll:bl.l=tagBody (partB B):=by rw[hbl,Z0i,Z0e]
   rw[<- hbll]at hpk
   have hble:bl.l.length<=400:=by rw[hbll,hbody,List.length_take];omega
   have hblb:∀x∈bl.l,0<=x/\x<=255:=fun x hx=>h5 x (by rw[hbll,hbody]at hx;exact List.mem_of_mem_take hx)
   have main:∀ρ q,K54 key j B bl p ρ q->W C false noExt call (ZC.seq K14 (ZC.seq (ZC.seq Z1u (ZC.cond (Tm 152) (ZC.seq Y1a ZC.ret) ZC.skip)) (ZC.seq Z1c ZC.ret))) ρ q (endQ C (xfOf Try.f54).rs fun r'=>ShrR p r' (.ret (.tup [(openP key B).1.cv,I (openP key B).2]) p)):=by
    rintro ρ q ⟨A,st,e0,e1,e4,e8,e9,g1,g2,g3,hn,hle,hrd,hok,hwk⟩
    have g4:=hle _ _ h3
    have cr:=Z1y A
    have cl:layP key (canonP A)=layP key A:=by rw[layP,layP,Z16]
    rw[hrd]at hpk
    simp only[cr,cl]at hpk
    obtain⟨a,s⟩:=st
    simp only at hpk
    replace g2:q.t.get (p.n+1)=some (.var sh161 (Y0b.mk bl a s).cv):=g2
    have sB:∀(q:Hp) (k:Nat),q.t.get k=some (Wrow B)->srcOf C q.h 68 (.slc k [] 0 B.length)=some (B.map Y8):=fun q k hg=>src68 q k _ hg
    have bad:openP key B=(Q0a.zero,2)->∀r,HpLe p r->ShrR p (.ret (.tup [Q0a.zero.cv,I 2]) r) (.ret (.tup [(openP key B).1.cv,I (openP key B).2]) p):=fun h r hr=>by
     rw[h]
     exact V0c hF hr (V0d (K0c (by simp only[CV.has,CV.hasL,or_false];exact K1a)))
    have good:openP key B=(canonP A,0)->∀r,HpLe p r->ShrR p (.ret (.tup [A.cv,I 0]) r) (.ret (.tup [(openP key B).1.cv,I (openP key B).2]) p):=fun h r hr=>by
     rw[h]
     refine V0c hF hr ?_
     simp only[CV.weak,CV.weakL,and_true]
     exact hwk
    cases hR:packRight A with
    |false=>
     have hpk2:openP key B=(Q0a.zero,2):=by rw[hpk,hR];simp
     cases s with
     |true=>
      (have zx:=zA e0 (zA e1 (zA e4 (zA e8 (zA e9 (zA g1 (zA g2 (zA g3 (zA hR h3))))))));refine zq54q ?_;try exact zT)
      repeat'(apply zK.s<;>intro hc<;>(try simp only[zhd]at hc)<;>(try have hw:=K0a hc)<;>(refine zq54q ?_;try exact zT))
      all_goals(try clear zx)
      exact bad hpk2 _ zlq
     |false=>
      (have zx:=zA e0 (zA e1 (zA e4 (zA e8 (zA e9 (zA g1 (zA g2 (zA g3 (zA hR h3))))))));refine zq54q ?_;try exact zT)
      repeat'(apply zK.s<;>intro hc<;>(try simp only[zhd]at hc)<;>(try have hw:=K0a hc)<;>(refine zq54q ?_;try exact zT))
      all_goals(try clear zx)
      exact bad hpk2 _ zlq
    |true=>
     cases s with
     |true=>
      have hpk2:openP key B=(Q0a.zero,2):=by rw[hpk];simp
      (have zx:=zA e0 (zA e1 (zA e4 (zA e8 (zA e9 (zA g1 (zA g2 (zA g3 (zA hR h3))))))));refine zq54q ?_;try exact zT)
      repeat'(apply zK.s<;>intro hc<;>(try simp only[zhd]at hc)<;>(try have hw:=K0a hc)<;>(refine zq54q ?_;try exact zT))
      all_goals(try clear zx)
      exact bad hpk2 _ zlq
     |false=>
      have hse:=str_eq (V1y key A) h5
      by_cases he:layP key A=B
      ·have hpk2:openP key B=(canonP A,0):=by rw[hpk,hR,he];simp
       rw[decide_eq_true he]at hse
       (have zx:=zA e0 (zA e1 (zA e4 (zA e8 (zA e9 (zA g1 (zA g2 (zA g3 (zA g4 (zA hR (zA sB (zA hse h3)))))))))));refine zq54q ?_;try exact zT)
       repeat'(apply zK.s<;>intro hc<;>(try simp only[zhd]at hc)<;>(try have hw:=K0a hc)<;>(refine zq54q ?_;try exact zT))
       all_goals(try clear zx)
       exact good hpk2 _ zlq
      ·have hpk2:openP key B=(Q0a.zero,2):=by rw[hpk,if_neg (fun h=>he h.2.2)]
       rw[decide_eq_false he]at hse
       (have zx:=zA e0 (zA e1 (zA e4 (zA e8 (zA e9 (zA g1 (zA g2 (zA g3 (zA g4 (zA hR (zA sB (zA hse h3)))))))))));refine zq54q ?_;try exact zT)
       repeat'(apply zK.s<;>intro hc<;>(try simp only[zhd]at hc)<;>(try have hw:=K0a hc)<;>(refine zq54q ?_;try exact zT))
       all_goals(try clear zx)
       exact bad hpk2 _ zlq
   obtain⟨K,hKe,hKa,hKw⟩:=rdF (b:=bl.l) 3 (r:=(0,false)) (by omega) (by simp)
   obtain⟨S,hSe,hSa,hSw⟩:=rdF (b:=bl.l) 3 (r:=K.2) (by omega) hKa
   obtain⟨Q,hQe,hQa,hQw⟩:=rdF (b:=bl.l) 16 (r:=S.2) (by omega) hSa
   obtain⟨L,hLe,hLa,hLw⟩:=rdF (b:=bl.l) 16 (r:=Q.2) (by omega) hQa
   obtain⟨F,hFe,hFa⟩:=rdG (b:=bl.l) 1 (r:=L.2) hLa
   obtain⟨U,hUe,hUa⟩:=rdG (b:=bl.l) 64 (r:=F.2) hFa
   obtain⟨x,hx⟩:∃x,x=headOf K.1 S.1 Q.1 L.1 F.1 U.1:=⟨_,rfl⟩
   have hrp:readPD bl.l (0,false)=readTailD bl.l x U.2:=by subst hx;subst hUe;subst hFe;subst hLe;subst hQe;subst hSe;subst hKe;rfl
   have hxk:x.Kind=K.1:=by rw[hx];rfl
   have hxI:x.Inputs=⟨.nil,[],fun _=>rfl⟩:=by rw[hx];rfl
   have hxR:x.Rows=⟨.nil,[],fun _=>rfl⟩:=by rw[hx];rfl
   have hbl':=hbl.symm
   have nilI:lstP ([]:List Y0a)=⟨.nil,[],fun _=>rfl⟩:=by simp[lstP]
   have nilR:rowsP (rowsL ⟨.nil,[],fun _=>rfl⟩)=⟨.nil,[],fun _=>rfl⟩:=by simp[rowsP,rowsL,lstP]
   show W C false noExt call (ZC.seq zn54_1 (ZC.seq (ZC.seq zn54_4 (ZC.cond (Tm 20) (ZC.seq zn54_7 ZC.ret) ZC.skip)) (ZC.seq zn54_9 (ZC.seq (ZC.seq zn54_12 (ZC.cond (Tm 29) (ZC.seq zn54_15 ZC.ret) ZC.skip)) (ZC.seq zn54_17 (ZC.seq zn54_19 (ZC.seq (ZC.seq zn54_22 (ZC.block 0 (ZC.seq zn54_25 (ZC.cond (Tm 54) (ZC.seq zn54_28 (ZC.seq zn54_30 (ZC.seq zn54_32 (ZC.seq zn54_34 (ZC.block 1 (ZC.loop Q1v)))))) (ZC.seq zn54_46 (ZC.cond (Tm 79) (ZC.seq zn54_49 (ZC.seq zn54_51 (ZC.seq zn54_53 (ZC.seq zn54_55 (ZC.block 3 (ZC.loop Q1u)))))) (ZC.seq zn54_89 (ZC.cond (Tm 122) (ZC.seq zn54_92 zn54_93) ZC.skip)))))))) (ZC.seq K14 (ZC.seq (ZC.seq Z1u (ZC.cond (Tm 152) (ZC.seq Y1a ZC.ret) ZC.skip)) (ZC.seq Z1c ZC.ret)))))))))) _ _ _
   obtain⟨R0,hR0⟩:∃R,R=(ZC.seq K14 (ZC.seq (ZC.seq Z1u (ZC.cond (Tm 152) (ZC.seq Y1a ZC.ret) ZC.skip)) (ZC.seq Z1c ZC.ret))):=⟨_,rfl⟩
   rw[<- hR0]at main ⊢
   clear hR0
   by_cases k2:K.1=2
   ·obtain⟨G,hGe,hGa,hGw⟩:=rdF (b:=bl.l) 10 (r:=U.2) (by omega) hUa
    obtain⟨H,hHe,hHa,hHw⟩:=rdF (b:=bl.l) 10 (r:=G.2) (by omega) hGa
    obtain⟨M,hMe,hMa,hMw⟩:=rdF (b:=bl.l) 5 (r:=H.2) (by omega) hHa
    have hMr:=Q0t bl.l 5 H.2
    rw[hMe]at hMr
    obtain⟨N,hN⟩:∃N:Nat,M.1=N:=⟨M.1.toNat,by omega⟩
    have hN32:N<32:=by omega
    obtain⟨x0,hx0⟩:∃y:Q0a,y={x with Got:=G.1,First:=H.1}:=⟨_,rfl⟩
    have htl:readPD bl.l (0,false)=bindD (readInsD bl.l M.2 N) fun l r=>({x with Got:=G.1,First:=H.1,Inputs:=lstP l},r):=by
     rw[hrp,tailD_2 (hxk.trans k2) hGe hHe hMe,hN,Int.toNat_natCast]
    (have zx:=zA hlong (zA ho (zA hbl' (zA hKe (zA hKw (zA hSe (zA hSw (zA hQe (zA hQw (zA hLe (zA hLw (zA hFe (zA hUe (zA k2 (zA hGe (zA hGw (zA hHe (zA hHw (zA hMe (zA hMw (zA hN h3))))))))))))))))))));refine zq54q ?_;try exact zT)
    repeat'(apply zK.s<;>intro hc<;>(try simp only[zhd]at hc)<;>(try have hw:=K0a hc)<;>(refine zq54q ?_;try exact zT))
    all_goals(try clear zx)
    (show W C false noExt call (ZC.loop Q1v) _ _ _);refine Y0g C false noExt call Q1v _ _ _ (J54 key j B bl x0 M.2 N p) N ⟨0,M.2,⟨.nil,[],fun _=>rfl⟩,rfl,by omega,by simp[put_at,X0c,K0f],by simp[put_at,X0c,K0f,K0j],zev,zev,zev,zev,zev,rfl,hMa,rfl,.inl rfl,zg9,by simp (disch:=first|exact zdl|fail) only[zheap]<;>rfl,?_,zdl,fun k o h=>by have hd:=hF.dom _ _ h;simp (disch:=first|exact zdl|fail) only[zheap];exact h⟩ ?_
    ·simp (disch:=first|exact zdl|fail) only[zheap]
     subst hx0
     subst hx
     rw[k2]
     rfl
    rintro n ρ q ⟨m,st,acc,rfl,hm,e0,e1,e4,e8,e9,e10,e11,hrd,hst,hal,happ,g1,g2,g3,hn,hle⟩
    by_cases hlt:(m:Int)<N
    ·obtain⟨Y,hYe⟩:∃Y,readInD bl.l st=Y:=⟨_,rfl⟩
     have hYa:Y.2.1<=8*bl.l.length:=by rw[<- hYe];exact(readInP bl.l).at_ _ hst
     have hnx:readInsD bl.l M.2 (m+1)=(acc.l++[Y.1],Y.2):=by
      show bindD (readInsD bl.l M.2 m) _=_
      rw[hrd,<- hYe];rfl
     obtain⟨tl,al,okk⟩:=acc
     simp only at hal hnx
     rcases happ with ht|⟨j1,ht,hj1,hj2,hj3,hj4⟩
     ·simp only at ht
      subst ht
      (have zx:=zA e0 (zA e1 (zA e4 (zA e8 (zA e9 (zA e10 (zA e11 (zA g1 (zA g2 (zA g3 (zA hlt (zA hYe h3)))))))))));refine zq54q ?_;try exact zT)
      repeat'(apply zK.s<;>intro hc<;>(try simp only[zhd]at hc)<;>(try have hw:=K0a hc)<;>(refine zq54q ?_;try exact zT))
      all_goals(try clear zx)
      refine⟨N-(m+1),by omega,m+1,Y.2,⟨.own (q.n+8),al++[Y.1],nofun⟩,rfl,by omega,zev,zev,zev,zev,zev,zev,zev,hnx,hYa,by simp[hal],.inr ⟨q.n+8,rfl,zdl,zdl,by simp (disch:=first|exact zdl|fail) only[zheap];simp[hal],by simp⟩,zg9,zg9,by simp (disch:=first|exact zdl|fail) only[zheap]<;>rfl,zdl,fun k o h=>by have hd:=hF.dom _ _ h;have hq:=hle k o h;simp (disch:=first|exact zdl|fail) only[zheap];exact hq⟩
     ·simp only at ht hj3 hj4
      subst ht
      (have zx:=zA e0 (zA e1 (zA e4 (zA e8 (zA e9 (zA e10 (zA e11 (zA g1 (zA g2 (zA g3 (zA hlt (zA hYe (zA hj3 (zA hj4 h3)))))))))))));refine zq54q ?_;try exact zT)
      repeat'(apply zK.s<;>intro hc<;>(try simp only[zhd]at hc)<;>(try have hw:=K0a hc)<;>(refine zq54q ?_;try exact zT))
      all_goals(try clear zx)
      refine⟨N-(m+1),by omega,m+1,Y.2,⟨.own (q.n+8),al++[Y.1],nofun⟩,rfl,by omega,zev,zev,zev,zev,zev,zev,zev,hnx,hYa,by simp[hal],.inr ⟨q.n+8,rfl,zdl,zdl,by simp (disch:=first|exact zdl|fail) only[zheap];simp[hal],by simp⟩,zg9,zg9,by simp (disch:=first|exact zdl|fail) only[zheap]<;>rfl,zdl,fun k o h=>by have hd:=hF.dom _ _ h;have hq:=hle k o h;simp (disch:=first|exact zdl|fail) only[zheap];exact hq⟩
    ·have hmN:m=N:=by omega
     rw[hmN]at hrd
     (have zx:=zA e0 (zA e1 (zA e4 (zA e8 (zA e9 (zA e10 (zA e11 (zA g1 (zA g2 (zA g3 (zA hlt h3))))))))));refine zq54q ?_;try exact zT)
     repeat'(apply zK.s<;>intro hc<;>(try simp only[zhd]at hc)<;>(try have hw:=K0a hc)<;>(refine zq54q ?_;try exact zT))
     all_goals(try clear zx)
     refine main _ _ ⟨{x0 with Inputs:=acc},st,zev,zev,zev,zev,zev,g1,g2,g3,hn,hle,?_,?_,?_⟩
     ·rw[htl,hrd]
      subst hx0
      subst hx
      refine Prod.ext ?_ rfl
      show _=canonP _
      simp only[canonP,headOf,Q0a.zero,nilR]
      rfl
     ·refine⟨by simp only;omega,?_⟩
      rw[hx0,hxR]
      exact⟨by simp,nofun⟩
     ·have hR1:x0.Rows=⟨.nil,[],fun _=>rfl⟩:=by rw[hx0];exact hxR
      refine V0p (x:=x0) (I1:=acc) (R1:=x0.Rows) happ.weakI ?_
      rw[hR1,nilR]
      exact V0d (K0c (nilHas _))
   ·by_cases k3:K.1=3
    ·obtain⟨H,hHe,hHa,hHw⟩:=rdF (b:=bl.l) 10 (r:=U.2) (by omega) hUa
     obtain⟨V,hVe,hVa,hVw⟩:=rdF (b:=bl.l) 4 (r:=H.2) (by omega) hHa
     obtain⟨M,hMe,hMa,hMw⟩:=rdF (b:=bl.l) 4 (r:=V.2) (by omega) hVa
     have hVr:=Q0t bl.l 4 H.2
     have hMr:=Q0t bl.l 4 V.2
     rw[hVe]at hVr
     rw[hMe]at hMr
     obtain⟨N,hN⟩:∃N:Nat,V.1=N:=⟨V.1.toNat,by omega⟩
     obtain⟨R,hR⟩:∃R:Nat,M.1=R:=⟨M.1.toNat,by omega⟩
     have hN16:N<16:=by omega
     have hR16:R<16:=by omega
     obtain⟨x0,hx0⟩:∃y:Q0a,y={x with First:=H.1,Players:=(N:Int)}:=⟨_,rfl⟩
     have htl:readPD bl.l (0,false)=bindD (readRowsD bl.l N M.2 R) fun l r=>({x with First:=H.1,Players:=(N:Int),Rows:=rowsP l},r):=by
      rw[hrp,tailD_3 (hxk.trans k3) hHe hVe hMe,hN,hR,Int.toNat_natCast,Int.toNat_natCast]
     have hxp:x0.Players=(N:Int):=by rw[hx0]
     (have zx:=zA hlong (zA ho (zA hbl' (zA hKe (zA hKw (zA hSe (zA hSw (zA hQe (zA hQw (zA hLe (zA hLw (zA hFe (zA hUe (zA k2 (zA k3 (zA hHe (zA hHw (zA hVe (zA hVw (zA hMe (zA hMw (zA hN (zA hR h3))))))))))))))))))))));refine zq54q ?_;try exact zT)
     repeat'(apply zK.s<;>intro hc<;>(try simp only[zhd]at hc)<;>(try have hw:=K0a hc)<;>(refine zq54q ?_;try exact zT))
     all_goals(try clear zx)
     (show W C false noExt call (ZC.loop Q1u) _ _ _);refine Y0g C false noExt call Q1u _ _ _ (L54 key j B bl x0 M.2 N R p) R ⟨0,M.2,⟨.nil,[],fun _=>rfl⟩,rfl,by omega,by simp[put_at,X0c,K0f],by simp[put_at,X0c,K0f,K0j],zev,zev,zev,zev,zev,rfl,hMa,rfl,.inl rfl,nofun,zg9,by simp (disch:=first|exact zdl|fail) only[zheap]<;>rfl,?_,zdl,fun k o h=>by have hd:=hF.dom _ _ h;simp (disch:=first|exact zdl|fail) only[zheap];exact h⟩ ?_
     ·simp (disch:=first|exact zdl|fail) only[zheap]
      subst hx0
      subst hx
      rw[k3]
      rfl
     rintro n ρ q ⟨m,st,acc,rfl,hm,e0,e1,e4,e8,e9,e12,e13,hrd,hst,hal,happ,hat,g1,g2,g3,hn,hle⟩
     by_cases hlt:(m:Int)<R
     ·(have zx:=zA e0 (zA e1 (zA e4 (zA e8 (zA e9 (zA e12 (zA e13 (zA g1 (zA g2 (zA g3 (zA hlt h3))))))))));refine zq54q ?_;try exact zT)
      repeat'(apply zK.s<;>intro hc<;>(try simp only[zhd]at hc)<;>(try have hw:=K0a hc)<;>(refine zq54q ?_;try exact zT))
      all_goals(try clear zx)
      (show W C false noExt call (ZC.loop Y2l) _ _ _);refine Y0g C false noExt call Y2l _ _ _ (M54 key j B bl st N R m p q) N ⟨0,st,⟨.nil,[],fun _=>rfl⟩,rfl,by omega,zev,zev,zev,zev,zev,zev,zev,by simp[put_at,X0c];rfl,zev,rfl,hst,rfl,.inl rfl,g2,Nat.le_refl _,fun k o _ _ h=>h⟩ ?_
      clear e0 e1 e4 e8 e9 e12 e13 g2
      rintro n ρ r ⟨c,st2,row,rfl,hc,e0,e1,e4,e8,e9,e12,e13,e14,e15,hrow,hst2,hrl,happ2,g2,hqr,hle2⟩
      have g4:=hle2 (p.n+2) _ (by omega) (by omega) g3
      by_cases hlt2:(c:Int)<N
      ·obtain⟨V1,hV1e,hV1a⟩:=rdG (b:=bl.l) 1 (r:=st2) hst2
       by_cases hf:V1.1=1
       ·obtain⟨Y,hYe⟩:∃Y,readInD bl.l V1.2=Y:=⟨_,rfl⟩
        have hYa:Y.2.1<=8*bl.l.length:=by rw[<- hYe];exact(readInP bl.l).at_ _ hV1a
        have hcd:readCellD bl.l st2=(⟨true,Y.1⟩,Y.2):=by subst hYe;subst hV1e;exact if_pos hf
        have hnx:readRowD bl.l st (c+1)=(row.l++[⟨true,Y.1⟩],Y.2):=by
         show bindD (readRowD bl.l st c) _=_
         rw[hrow]
         show((row.l++[(readCellD bl.l st2).1],(readCellD bl.l st2).2):List X0a×RSt)=_
         rw[hcd]
        obtain⟨tl,rl,okk⟩:=row
        simp only at hnx hrl
        rcases happ2 with ht|⟨j2,ht,hj1,hj2,hj3,hj4⟩
        ·simp only at ht
         subst ht
         (have zx:=zA e0 (zA e1 (zA e4 (zA e8 (zA e9 (zA e12 (zA e13 (zA e14 (zA e15 (zA g2 (zA g4 (zA hlt2 (zA hxp (zA hV1e (zA hf (zA hYe h3)))))))))))))));refine zq54q ?_;try exact zT)
         repeat'(apply zK.s<;>intro hc<;>(try simp only[zhd]at hc)<;>(try have hw:=K0a hc)<;>(refine zq54q ?_;try exact zT))
         all_goals(try clear zx)
         refine⟨N-(c+1),by omega,c+1,Y.2,⟨.own (r.n+1),rl++[⟨true,Y.1⟩],nofun⟩,rfl,by omega,zev,zev,zev,zev,zev,zev,zev,zev,zev,hnx,hYa,by simp[hrl],.inr ⟨(r.n+1),rfl,zdl,zdl,by simp (disch:=first|exact zdl|fail) only[zheap];simp[hrl],by simp⟩,zg9,zdl,fun k o hj hjq h=>by have hq:=hle2 k o hj hjq h;simp (disch:=first|exact zdl|fail) only[zheap];exact hq⟩
        ·simp only at ht hj3 hj4
         subst ht
         (have zx:=zA e0 (zA e1 (zA e4 (zA e8 (zA e9 (zA e12 (zA e13 (zA e14 (zA e15 (zA g2 (zA g4 (zA hlt2 (zA hxp (zA hV1e (zA hf (zA hYe (zA hj3 (zA hj4 h3)))))))))))))))));refine zq54q ?_;try exact zT)
         repeat'(apply zK.s<;>intro hc<;>(try simp only[zhd]at hc)<;>(try have hw:=K0a hc)<;>(refine zq54q ?_;try exact zT))
         all_goals(try clear zx)
         refine⟨N-(c+1),by omega,c+1,Y.2,⟨.own (r.n+1),rl++[⟨true,Y.1⟩],nofun⟩,rfl,by omega,zev,zev,zev,zev,zev,zev,zev,zev,zev,hnx,hYa,by simp[hrl],.inr ⟨(r.n+1),rfl,zdl,zdl,by simp (disch:=first|exact zdl|fail) only[zheap];simp[hrl],by simp⟩,zg9,zdl,fun k o hj hjq h=>by have hq:=hle2 k o hj hjq h;simp (disch:=first|exact zdl|fail) only[zheap];exact hq⟩
       ·have hcd:readCellD bl.l st2=(⟨false,Y0a.zero⟩,V1.2):=by subst hV1e;exact if_neg hf
        have hnx:readRowD bl.l st (c+1)=(row.l++[⟨false,Y0a.zero⟩],V1.2):=by
         show bindD (readRowD bl.l st c) _=_
         rw[hrow]
         show((row.l++[(readCellD bl.l st2).1],(readCellD bl.l st2).2):List X0a×RSt)=_
         rw[hcd]
        obtain⟨tl,rl,okk⟩:=row
        simp only at hnx hrl
        rcases happ2 with ht|⟨j2,ht,hj1,hj2,hj3,hj4⟩
        ·simp only at ht
         subst ht
         (have zx:=zA e0 (zA e1 (zA e4 (zA e8 (zA e9 (zA e12 (zA e13 (zA e14 (zA e15 (zA g2 (zA g4 (zA hlt2 (zA hxp (zA hV1e (zA hf h3))))))))))))));refine zq54q ?_;try exact zT)
         repeat'(apply zK.s<;>intro hc<;>(try simp only[zhd]at hc)<;>(try have hw:=K0a hc)<;>(refine zq54q ?_;try exact zT))
         all_goals(try clear zx)
         refine⟨N-(c+1),by omega,c+1,V1.2,⟨.own (r.n+1),rl++[⟨false,Y0a.zero⟩],nofun⟩,rfl,by omega,zev,zev,zev,zev,zev,zev,zev,zev,zev,hnx,hV1a,by simp[hrl],.inr ⟨(r.n+1),rfl,zdl,zdl,by simp (disch:=first|exact zdl|fail) only[zheap];simp[hrl],by simp⟩,zg9,zdl,fun k o hj hjq h=>by have hq:=hle2 k o hj hjq h;simp (disch:=first|exact zdl|fail) only[zheap];exact hq⟩
        ·simp only at ht hj3 hj4
         subst ht
         (have zx:=zA e0 (zA e1 (zA e4 (zA e8 (zA e9 (zA e12 (zA e13 (zA e14 (zA e15 (zA g2 (zA g4 (zA hlt2 (zA hxp (zA hV1e (zA hf (zA hj3 (zA hj4 h3))))))))))))))));refine zq54q ?_;try exact zT)
         repeat'(apply zK.s<;>intro hc<;>(try simp only[zhd]at hc)<;>(try have hw:=K0a hc)<;>(refine zq54q ?_;try exact zT))
         all_goals(try clear zx)
         refine⟨N-(c+1),by omega,c+1,V1.2,⟨.own (r.n+1),rl++[⟨false,Y0a.zero⟩],nofun⟩,rfl,by omega,zev,zev,zev,zev,zev,zev,zev,zev,zev,hnx,hV1a,by simp[hrl],.inr ⟨(r.n+1),rfl,zdl,zdl,by simp (disch:=first|exact zdl|fail) only[zheap];simp[hrl],by simp⟩,zg9,zdl,fun k o hj hjq h=>by have hq:=hle2 k o hj hjq h;simp (disch:=first|exact zdl|fail) only[zheap];exact hq⟩
      ·have hcN:c=N:=by omega
       rw[hcN]at hrow hrl
       have hnext:readRowsD bl.l N M.2 (m+1)=(rowsL acc++[row.l],st2):=by
        show bindD (readRowsD bl.l N M.2 m) _=_
        rw[hrd]
        show((rowsL acc++[(readRowD bl.l st N).1],(readRowD bl.l st N).2):List (List X0a)×RSt)=_
        rw[hrow]
       have g0:=hle2 p.n _ (by omega) (by omega) g1
       have hrt:=happ2.T
       obtain⟨tl,al,okk⟩:=acc
       simp only at hal hat
       have hat2:∀x∈al++[row],AppT x/\x.l.length=N:=fun x hx=>by
        rcases List.mem_append.1 hx with hx|hx
        ·exact hat x hx
        ·rw[List.mem_singleton.1 hx];exact⟨hrt,hrl⟩
       rcases happ with ht|⟨j1,ht,hj1,hj2,hj3,hj4⟩
       ·simp only at ht
        subst ht
        (have zx:=zA e0 (zA e1 (zA e4 (zA e8 (zA e9 (zA e12 (zA e13 (zA e14 (zA e15 (zA g0 (zA g2 (zA g4 (zA hlt2 (zA hxp h3)))))))))))));refine zq54q ?_;try exact zT)
        repeat'(apply zK.s<;>intro hc<;>(try simp only[zhd]at hc)<;>(try have hw:=K0a hc)<;>(refine zq54q ?_;try exact zT))
        all_goals(try clear zx)
        refine⟨R-(m+1),by omega,m+1,st2,⟨.own r.n,al++[row],nofun⟩,rfl,by omega,zev,zev,zev,zev,zev,zev,zev,by rw[hnext];simp[rowsL],hst2,by simp[hal],.inr ⟨r.n,rfl,zdl,zdl,by simp (disch:=first|exact zdl|fail) only[zheap];simp[hal],by simp⟩,hat2,zg9,zg9,by simp (disch:=first|exact zdl|fail) only[zheap];rw[hxp],zdl,fun k o h=>by have hd:=hF.dom _ _ h;have hq:=hle2 k o (by omega) (by omega) (hle k o h);simp (disch:=first|exact zdl|fail) only[zheap];exact hq⟩
       ·simp only at ht hj3 hj4
        subst ht
        have hj5:=hle2 j1 _ (by omega) hj2 hj3
        (have zx:=zA e0 (zA e1 (zA e4 (zA e8 (zA e9 (zA e12 (zA e13 (zA e14 (zA e15 (zA g0 (zA g2 (zA g4 (zA hlt2 (zA hxp (zA hj4 (zA hj5 h3)))))))))))))));refine zq54q ?_;try exact zT)
        repeat'(apply zK.s<;>intro hc<;>(try simp only[zhd]at hc)<;>(try have hw:=K0a hc)<;>(refine zq54q ?_;try exact zT))
        all_goals(try clear zx)
        refine⟨R-(m+1),by omega,m+1,st2,⟨.own r.n,al++[row],nofun⟩,rfl,by omega,zev,zev,zev,zev,zev,zev,zev,by rw[hnext];simp[rowsL],hst2,by simp[hal],.inr ⟨r.n,rfl,zdl,zdl,by simp (disch:=first|exact zdl|fail) only[zheap];simp[hal],by simp⟩,hat2,zg9,zg9,by simp (disch:=first|exact zdl|fail) only[zheap];rw[hxp],zdl,fun k o h=>by have hd:=hF.dom _ _ h;have hq:=hle2 k o (by omega) (by omega) (hle k o h);simp (disch:=first|exact zdl|fail) only[zheap];exact hq⟩
     ·have hmR:m=R:=by omega
      rw[hmR]at hrd hal
      have hI1:x0.Inputs=⟨.nil,[],fun _=>rfl⟩:=by rw[hx0];exact hxI
      (have zx:=zA e0 (zA e1 (zA e4 (zA e8 (zA e9 (zA e12 (zA e13 (zA g1 (zA g2 (zA g3 (zA hlt h3))))))))));refine zq54q ?_;try exact zT)
      repeat'(apply zK.s<;>intro hc<;>(try simp only[zhd]at hc)<;>(try have hw:=K0a hc)<;>(refine zq54q ?_;try exact zT))
      all_goals(try clear zx)
      refine main _ _ ⟨{x0 with Rows:=acc},st,zev,zev,zev,zev,zev,g1,g2,g3,hn,hle,?_,?_,?_⟩
      ·rw[htl,hrd]
       subst hx0
       subst hx
       refine Prod.ext ?_ rfl
       show _=canonP _
       simp only[canonP,headOf,Q0a.zero,nilI]
       rfl
      ·refine⟨by rw[hI1];simp,by simp only;omega,fun x hx=>?_⟩
       have:=(hat x hx).2
       omega
      ·refine V0p (x:=x0) (I1:=x0.Inputs) (R1:=acc) ?_ (by rw[rowsP,rowsL,List.map_map];exact happ.T.weak _ (Z11 fun x hx=>(hat x hx).1))
       rw[hI1,nilI]
       exact V0d (K0c (nilHas _))
    ·by_cases k4:K.1=4
     ·obtain⟨H,hHe,hHa,hHw⟩:=rdF (b:=bl.l) 10 (r:=U.2) (by omega) hUa
      obtain⟨M,hMe,hMa⟩:=rdG (b:=bl.l) 62 (r:=H.2) hHa
      have hMr:=Q0t bl.l 62 H.2
      rw[hMe]at hMr
      have hMw:IntKind.i64.wrap M.1=M.1:=X0p (by omega) (by omega)
      have htl:readPD bl.l (0,false)=({x with Frame:=H.1,Mark:=M.1},M.2):=by rw[hrp,tailD_4 (hxk.trans k4) hHe hMe]
      (have zx:=zA hlong (zA ho (zA hbl' (zA hKe (zA hKw (zA hSe (zA hSw (zA hQe (zA hQw (zA hLe (zA hLw (zA hFe (zA hUe (zA k2 (zA k3 (zA k4 (zA hHe (zA hHw (zA hMe (zA hMw h3)))))))))))))))))));refine zq54q ?_;try exact zT)
      repeat'(apply zK.s<;>intro hc<;>(try simp only[zhd]at hc)<;>(try have hw:=K0a hc)<;>(refine zq54q ?_;try exact zT))
      all_goals(try clear zx)
      refine main _ _ ⟨{x with Frame:=H.1,Mark:=M.1},M.2,by simp[put_at,X0c,K0f],by simp[put_at,X0c,K0f,K0j],zev,zev,zev,zg9,by simp (disch:=first|exact zdl|fail) only[zheap]<;>rfl,?_,zdl,fun k o h=>by have hd:=hF.dom _ _ h;simp (disch:=first|exact zdl|fail) only[zheap];exact h,?_,?_,?_⟩
      ·simp (disch:=first|exact zdl|fail) only[zheap]
       subst hx
       rw[k4]
       rfl
      ·rw[htl]
       subst hx
       refine Prod.ext ?_ rfl
       show _=canonP _
       simp only[canonP,headOf,Q0a.zero,nilI,nilR]
      ·refine⟨by rw[hxI];simp,?_⟩
       rw[hxR]
       exact⟨by simp,nofun⟩
      ·refine V0p (x:={x with Frame:=H.1,Mark:=M.1}) (I1:=x.Inputs) (R1:=x.Rows) ?_ ?_
       ·rw[hxI];simp only[nilI];exact V0d (K0c (nilHas _))
       ·rw[hxR];simp only[nilR];exact V0d (K0c (nilHas _))
     ·have htl:readPD bl.l (0,false)=(x,U.2):=by rw[hrp,tailD_0 (by omega) (by omega) (by omega)]
      (have zx:=zA hlong (zA ho (zA hbl' (zA hKe (zA hKw (zA hSe (zA hSw (zA hQe (zA hQw (zA hLe (zA hLw (zA hFe (zA hUe (zA k2 (zA k3 (zA k4 h3)))))))))))))));refine zq54q ?_;try exact zT)
      repeat'(apply zK.s<;>intro hc<;>(try simp only[zhd]at hc)<;>(try have hw:=K0a hc)<;>(refine zq54q ?_;try exact zT))
      all_goals(try clear zx)
      refine main _ _ ⟨x,U.2,by simp[put_at,X0c,K0f],by simp[put_at,X0c,K0f,K0j],zev,zev,zev,zg9,by simp (disch:=first|exact zdl|fail) only[zheap]<;>rfl,?_,zdl,fun k o h=>by have hd:=hF.dom _ _ h;simp (disch:=first|exact zdl|fail) only[zheap];exact h,?_,?_,?_⟩
      ·simp (disch:=first|exact zdl|fail) only[zheap]
       subst hx
       rfl
      ·rw[htl]
       subst hx
       refine Prod.ext ?_ rfl
       show _=canonP _
       simp only[canonP,headOf,Q0a.zero,nilI,nilR]
      ·refine⟨by rw[hxI];simp,?_⟩
       rw[hxR]
       exact⟨by simp,nofun⟩
      ·refine V0p (x:=x) (I1:=x.Inputs) (R1:=x.Rows) ?_ ?_
       ·rw[hxI];simp only[nilI];exact V0d (K0c (nilHas _))
       ·rw[hxR];simp only[nilR];exact V0d (K0c (nilHas _))
  ·have hop:openP key B=_:=Y1u (key:=key) (s:=partB B) (by rw[Z0e];omega) ho
   rw[hop]
   (have zx:=zA hlong (zA ho h3);refine zq54q ?_;try exact zT)
   repeat'(apply zK.s<;>intro hc<;>(try simp only[zhd]at hc)<;>(try have hw:=K0a hc)<;>(refine zq54q ?_;try exact zT))
   all_goals(try clear zx)
   exact V0c hF zle (V0d (K0c (by simp only[CV.has,CV.hasL,or_false];exact K1a)))
def fullT(s:Lst Int): Lst Int:=⟨match s.tl with|.own _=>.part|t=>t,s.l,fun h=>s.ok (by revert h;cases s.tl<;>simp)⟩
theorem Y1t(s:Lst Int): (fullT s).l=s.l:=nd rfl
theorem sl68f(h:Heap)(s:Lst Int): qslice C h 68 (Lst.cv Y8 s) none (some (I s.l.length)) none=some (Lst.cv Y8 (fullT s)):=by
 obtain⟨tl,l,o⟩:=s
 simp only[qslice,tt68,ti68,tt5,Lst.cv]
 rw[if_pos (show((l.map Y8).all fun v=>decide (v.shape=ti5.sh))=true from shapes_s X08 l)]
 have hq:qbnd (some (I (l.length:Int))) (l.map Y8).length (l.map Y8).length=some l.length:=by
  simp only[qbnd,List.length_map]
  rw[if_pos (by omega)];simp
 have hl:qbnd none 0 l.length=some 0:=rfl
 have ht:(l.map Y8).take l.length=l.map Y8:=List.take_of_length_le (by simp)
 simp only[hq,hl]
 cases tl<;>simp[fullT,ht]
theorem app68e(p:Hp)(s:Lst Int)(h0:s.l=[]): xappend C true p 68 68 (Lst.cv Y8 ⟨.exact,[],nofun⟩) (Lst.cv Y8 s)=.ret (Lst.cv Y8 ⟨.exact,[],nofun⟩) p:=by
 obtain⟨tl,l,o⟩:=s
 simp only at h0
 subst h0
 simp only[xappend,tt68,ti68,tt5,ti5,cond_true,Lst.cv,xsrc,srcOf,List.map_nil]
 rfl
def R42m: Rel:=fun args p r=>∃(s:Lst Int) (n:Int),args=[s.cv Y8,I n]/\(s.l.length<=140737488355328)/\(n=s.l.length)/\(s.l≠[])/\r=.ret (.slc p.n [] 0 s.l.length) (p.new (Wrow s.l))
theorem zdis42m{P:Prop}(h:P:=by first|exact zdis|(simp only[Hp.bump_n,Hp.znew_n,Hp.zset_n,List.length_nil,List.length_cons,List.length_append,List.length_map,Y1t];(first|done|omega))|(simp (disch:=first|exact zd1|(simp only[Hp.bump_n,Hp.znew_n,Hp.zset_n,List.length_nil,List.length_cons,List.length_append,List.length_map,Y1t];(first|done|omega))) only[zheap,zx];(first|done|rfl))|fail): P:=h
theorem zq42m{A B:Prop}(k:B)(h:A=B:=by have zy:=zA @zw42<|zA @rs42<|zA @tt3<|zA @tt68<|zA ti3.eq_1<|zA ti68.eq_1<|zA @zsl68<|zA @sl68f<|zA @app68m<|zA @Y1t<|zA @h1<|zA @h2<|@h3;have zd:=@zdis42m;exact zQd): A:=h▸k
theorem c42m: Con C 42 R42m:=by
 refine V0e C ?_ ?_ ?_
 ·rintro args p r r' ⟨s,n,h,h1,h2,h3,e⟩ ⟨s',n',h',h1',h2',h3',e'⟩
  subst e;subst e';simp_all[X0f,X0f]
 ·rintro args p r ⟨s,n,h,h1,h2,h3,rfl⟩;exact zr1
 rintro args p r ⟨s,n,rfl,h1,h2,h3,rfl⟩
 refine zW C true [] zT rfl xf42 zc42_ok fun call zh hF=>?_
 clear zh
 subst h2
 have h2:True:=trivial
 have hmn:min (s.l.length:Int) s.l.length=s.l.length:=by omega
 have hap:=fun(p:Hp)=>app68m p (fullT s) h3 h1
 rw[Y1t]at hap
 (have zx:=zA hmn hap;refine zq42m ?_;try exact zT)
 repeat'(apply zK.s<;>intro hc<;>(try simp only[zhd]at hc)<;>(try have hw:=K0a hc)<;>(refine zq42m ?_;try exact zT))
 all_goals(try clear zx)
 exact shr_row hF (J:=p.n) rfl (fun k o h=>by have hd:=hF.dom k o h;exact⟨h,by omega,by rw[Hp.get_new_ne _ _ (by omega)];exact h⟩) (Hp.get_new_self _ _) (Z2k _ _ _)
def R42e: Rel:=fun args p r=>∃(s:Lst Int) (n:Int),args=[s.cv Y8,I n]/\(n=s.l.length)/\(s.l=[])/\r=.ret (Lst.cv Y8 ⟨.exact,[],nofun⟩) p
theorem zq42e{A B:Prop}(k:B)(h:A=B:=by have zy:=zA @zw42<|zA @rs42<|zA @tt3<|zA @tt68<|zA ti3.eq_1<|zA ti68.eq_1<|zA @zsl68<|zA @sl68f<|zA @app68e<|zA @h2<|@h3;exact zQ): A:=h▸k
theorem c42e: Con C 42 R42e:=by
 refine V0e C ?_ ?_ ?_
 ·rintro args p r r' ⟨s,n,h,h2,h3,e⟩ ⟨s',n',h',h2',h3',e'⟩
  subst e;subst e';simp_all[X0f,X0f]
 ·rintro args p r ⟨s,n,h,h2,h3,rfl⟩;exact zr1
 rintro args p r ⟨s,n,rfl,h2,h3,rfl⟩
 refine zW C true [] zT rfl xf42 zc42_ok fun call zh hF=>?_
 clear zh
 subst h2
 have h2:True:=trivial
 have h4:(fullT s).l=[]:=by rw[Y1t];exact h3
 have hmn:min (0:Int) 0=0:=rfl
 have hsl:∀h:Heap,qslice C h 68 (Lst.cv Y8 s) none (some (I 0)) none=some (Lst.cv Y8 (fullT s)):=fun h=>by
  have:=sl68f h s
  rw[h3]at this
  exact this
 (have zx:=zA hmn (zA hsl h4);refine zq42e ?_;try exact zT)
 repeat'(apply zK.s<;>intro hc<;>(try simp only[zhd]at hc)<;>(try have hw:=K0a hc)<;>(refine zq42e ?_;try exact zT))
 all_goals(try clear zx)
 exact V0c hF zle (V0d (K0c (by intro jj;simp[CV.has,CV.hasL,Lst.cv])))
def R42x: Rel:=fun args p r=>R42m args p r\/R42e args p r
theorem c42x: Con C 42 R42x:=Y03 C c42m c42e (by
 rintro args p r r' ⟨s,n,e,_,_,h3,_⟩ ⟨s',n',e',_,h3',_⟩
 rw[e]at e'
 simp only[List.cons.injEq,X0f]at e'
 rw[e'.1]at h3
 exact absurd h3' h3)
theorem t42x{T:XCall}(h:Has T 42 R42x): (∀(s:Lst Int) (n:Int) {p:Hp},s.l.length<=140737488355328->n=s.l.length->s.l≠[]->T 42 [s.cv Y8,I n] p=.ret (.slc p.n [] 0 s.l.length) (p.new (Wrow s.l))) /\
  ∀(s:Lst Int) (n:Int) {p:Hp},n=s.l.length->s.l=[]->T 42 [s.cv Y8,I n] p=.ret (Lst.cv Y8 ⟨.exact,[],nofun⟩) p:=
 ⟨fun s n p h1 h2 h3=>h _ _ _ (.inl ⟨s,n,rfl,h1,h2,h3,rfl⟩),fun s n p h2 h3=>h _ _ _ (.inr ⟨s,n,rfl,h2,h3,rfl⟩)⟩
end Go.Proofs.Ytpchcfkebljopaa
end
