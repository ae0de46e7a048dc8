import Derived.Test.YtpchcfkebljopaaXh
set_option linter.unusedSimpArgs false
set_option linter.unusedVariables false
set_option linter.constructorNameAsVariable false
set_option linter.defProp false
set_option maxHeartbeats 8000000
section
namespace Go.Proofs.Ytpchcfkebljopaa
open Go.Cl Go Go.RowKit
def fixOp(x:V0b): Q0c:=if opRight (handOp x)=true then handOp x else⟨13,0,0⟩
def rulesOf(l:List V0b): List Q0c:=(l.take 16).map fixOp
theorem fixOp_right(x:V0b): opRight (fixOp x)=true:=by
 unfold fixOp
 split
 ·assumption
 ·decide
theorem K1r(l:List V0b): ruleRight (rulesOf l)=true:=by
 simp only[ruleRight,Bool.and_eq_true,decide_eq_true_eq]
 refine⟨by simp[rulesOf];omega,?_⟩
 rw[List.all_eq_true]
 intro o ho
 obtain⟨x,_,rfl⟩:=List.mem_map.1 ho
 exact fixOp_right x
def rateF(n:Int): Nat:=(f64.div (FloatKind.f64.nearest n) 4616189618054758400).getD 0
def halfF(n:Int): Nat:=(f64.div (FloatKind.f64.nearest n) 4611686018427387904).getD 0
def deptF(n:Int): Nat:=(f64.add 4607182418800017408 (halfF n)).getD 0
def rOk(r:Nat): Bool:=!(oddF r || (f64.order r 0==some .lt))
def dOk(d:Nat): Bool:=!(oddF d || (f64.order d 4607182418800017408==some .lt) || (f64.order d 4652007308841189376==some .gt))
theorem Z1h{r d:Nat}(h1:rOk r=true)(h2:dOk d=true): bucketOk r d=true:=by
 simp only[rOk,dOk,Bool.not_eq_true',Bool.or_eq_false_iff]at h1 h2
 simp[bucketOk,h1.1,h1.2,h2.1.1,h2.1.2,h2.2]
theorem rate_all: (List.range 9).all (fun k=>(f64.div (FloatKind.f64.nearest (Int.ofNat k)) 4616189618054758400).isSome&&rOk (rateF (Int.ofNat k)))=true:=by kernel_rfl
theorem dept_all: (List.range 40).all (fun k=>(f64.div (FloatKind.f64.nearest (Int.ofNat k)) 4611686018427387904).isSome&&(f64.add 4607182418800017408 (halfF (Int.ofNat k))).isSome&&dOk (deptF (Int.ofNat k)))=true:=by kernel_rfl
theorem Y1d{o:Option Nat}(h:o.isSome=true): o=some (o.getD 0):=by cases o<;>simp at h ⊢
theorem rate_ok{n:Int}(h:0<=n/\n<9): f64.div (FloatKind.f64.nearest n) 4616189618054758400=some (rateF n)/\rOk (rateF n)=true:=by
 have:=List.all_eq_true.1 rate_all n.toNat (by simp;omega)
 rw[show Int.ofNat n.toNat=n by simp;omega,Bool.and_eq_true]at this
 exact⟨Y1d this.1,this.2⟩
theorem dept_ok{n:Int}(h:0<=n/\n<40): f64.div (FloatKind.f64.nearest n) 4611686018427387904=some (halfF n)/\f64.add 4607182418800017408 (halfF n)=some (deptF n)/\dOk (deptF n)=true:=by
 have:=List.all_eq_true.1 dept_all n.toNat (by simp;omega)
 rw[show Int.ofNat n.toNat=n by simp;omega,Bool.and_eq_true,Bool.and_eq_true]at this
 exact⟨Y1d this.1.1,Y1d this.1.2,this.2⟩
def cfgP(x:V0a): Int:=if x.Players.tmod 11=10 then 1+pick (w64 (x.Players.tdiv 11)) 8 else 1+pick x.Players 4
def cfgRate(x:V0a): Nat:=if 0<x.Rate.tmod 3 then 4613937818241073152 else rateF (pick x.Rate 9)
def cfgDepth(x:V0a): Nat:=if 0<x.Rate.tmod 3 then 4632233691727265792 else deptF (pick (w64 (x.Rate.tdiv 9)) 40)
def tokAt(x:V0a)(i:Nat): Int:=pick (w64 (x.Seed.tdiv 3)) 1000000*10+i
def cfgTok(x:V0a)(k:Nat): List Int:=(List.range k).map (tokAt x)
def cfgWith(x:V0a)(tk:Lst Int): K0a:=
 ⟨cfgP x,1+pick x.Period 3,pick x.Grace 8,pick x.Start 6,5+pick x.Frames 90,pick x.Seed 2147483648,cfgRate x,cfgDepth x,partL (rulesOf x.Rules.l),tk⟩
def cfgOf(x:V0a): K0a:=cfgWith x (partL (cfgTok x (cfgP x).toNat))
theorem K06(x:V0a): 1<=cfgP x/\cfgP x<=8:=by
 unfold cfgP
 split
 ·have:=Q0g (n:=w64 (x.Players.tdiv 11)) (m:=8) (by omega);omega
 ·have:=Q0g (n:=x.Players) (m:=4) (by omega);omega
theorem K1b(x:V0a)(k:Nat): cfgTok x (k+1)=cfgTok x k++[tokAt x k]:=by simp[cfgTok,List.range_succ]
theorem K05(x:V0a)(k:Nat): (cfgTok x k).length=k:=by simp[cfgTok]
theorem weak_cfg(x:V0a)(tk:Lst Int)(n:Nat)(h:tk.tl=.nil\/(∃j,tk.tl=.own j)/\0<tk.l.length): CV.weak (fun k=>k) n (cfgWith x tk).cv (cfgWith x (partL tk.l)).cv:=by
 have h1:CV.weak (fun k=>k) n (Lst.cv Q0c.cv (partL (rulesOf x.Rules.l))) (Lst.cv Q0c.cv (partL (rulesOf x.Rules.l))):=Y0d fun j hj=>by
  have hj:=(Lst.has _ Q0c.nohas _ j).1 hj
  unfold partL at hj
  split at hj<;>simp at hj
 have h2:=X0y (f:=I) I_has tk n h
 simp only[cfgWith,K0a.cv,CV.weak,CV.weakL]
 exact⟨trivial,trivial,trivial,trivial,trivial,trivial,trivial,trivial,h1,h2,trivial⟩
def oneTok(k:Nat): List Int:=(List.range k).map Int.ofNat
theorem V1e(k:Nat): oneTok (k+1)=oneTok k++[(k:Int)]:=by simp[oneTok,List.range_succ]
theorem oneTok_len(k:Nat): (oneTok k).length=k:=by simp[oneTok]
def oneWith(players:Int)(rules:Lst Q0c)(tk:Lst Int): K0a:=⟨players,1,0,0,50,0,4607182418800017408,4617315517961601024,rules,tk⟩
def oneC(players:Int)(rules:Lst Q0c): K0a:=oneWith players rules (partL (oneTok players.toNat))
theorem weak_one(players:Int)(rules:Lst Q0c)(tk:Lst Int)(n:Nat)(hr:∀j,rules.tl=.own j->j<n)(h:tk.tl=.nil\/(∃j,tk.tl=.own j)/\0<tk.l.length): CV.weak (fun k=>k) n (oneWith players rules tk).cv (oneWith players rules (partL tk.l)).cv:=by
 have h1:CV.weak (fun k=>k) n (Lst.cv Q0c.cv rules) (Lst.cv Q0c.cv rules):=Y0d fun j hj=>hr j ((Lst.has _ Q0c.nohas _ j).1 hj)
 have h2:=X0y (f:=I) I_has tk n h
 simp only[oneWith,K0a.cv,CV.weak,CV.weakL]
 exact⟨trivial,trivial,trivial,trivial,trivial,trivial,trivial,trivial,h1,h2,trivial⟩
def cellV(b x y:Int): Q0b:=⟨true,⟨b,x,y⟩⟩
def kC: K0a:=oneC 1 ⟨.nil,[],fun _=>rfl⟩
def kS: Y0a:=stepS kC [cellV 0 64 0] (firstS kC)
theorem kC_legal: legalC kC=true:=by kernel_rfl
theorem kS_x: (nth kS.Bodies 0).X=2052:=by kernel_rfl
theorem kS_f: kS.Frame=1:=by kernel_rfl
theorem kS_k: (nth kS.Bodies 0).Kind=1:=by kernel_rfl
end Go.Proofs.Ytpchcfkebljopaa
end
section
namespace Go.Proofs.Ytpchcfkebljopaa
open Go.Cl Go Go.RowKit
set_option maxRecDepth 100000
set_option linter.constructorNameAsVariable false
def R134: Rel:=fun args p r=>∃(b x y:Int),args=[I b,I x,I y]/\r=.ret (cellV b x y).cv p
theorem t134{T:XCall}(h:Has T 134 R134)(b x y:Int){p:Hp}:T 134 [I b,I x,I y] p=.ret (cellV b x y).cv p:=h _ _ _ ⟨b,x,y,rfl,rfl⟩
theorem zq134{A B:Prop}(k:B)(h:A=B:=by have zy:=zA @zw134<|zA @rs134<|zA @tt36<|zA @tt110<|zA ti36.eq_1<|zA ti110.eq_1<|zA @Z0m<|@Q0h;exact zQ): A:=h▸k
theorem zno134{P:Prop}(h:P:=by intro jj;simp[CV.has,CV.hasL,fault,Z0b.nohas,Q0b.nohas,K0b.nohas]): P:=h
theorem c134: Con C 134 R134:=by
 refine Q0e C ?_ ?_ ?_
 ·rintro args p r r' ⟨b,x,y,h,e⟩ ⟨b',x',y',h',e'⟩
  subst e;subst e';simp_all[Q0b.inj_iff,K0b.inj_iff]
 ·rintro args p r ⟨b,x,y,h,rfl⟩;exact zr1
 rintro args p r ⟨b,x,y,rfl,rfl⟩
 refine zW C false [] zT rfl xf134 zc134_ok fun call zh hF=>?_
 clear zh
 (have zx:=zT;refine zq134 ?_;try exact zT)
 repeat'(apply zK.s<;>intro hc<;>(try simp only[zhd]at hc)<;>(try have hw:=X0a hc)<;>(refine zq134 ?_;try exact zT))
 all_goals(try clear zx)
 exact K0d hF zle (Y0c rfl (Z0c zno134))
theorem bld61(a b c:Int)(r d:Nat)(l:Lst Q0c): qbuild C 61 [(0,I a),(1,I b),(4,I c),(6,Fl r),(7,Fl d),(8,Lst.cv Q0c.cv l)]=some (K0a.mk a b 0 0 c 0 r d l ⟨.nil,[],fun _=>rfl⟩).cv:=Y0e C tt61 (by simp only[partsOk,setAll,CV.shape,sh61,List.all_cons,List.all_nil,List.getElem?_cons_zero,List.getElem?_cons_succ,Bool.and_true,decide_true,Lst.cv]) rfl
theorem nilOp: CV.lst Tail.nil []=Lst.cv Q0c.cv ⟨.nil,[],fun _=>rfl⟩:=rfl
def J63(players:Int)(rules:Lst Q0c)(p:Hp)(n:Nat)(ρ:Env)(q:Hp): Prop:=
 ∃(k:Nat) (tk:Lst Int),n=players.toNat-k/\k<=players.toNat/\ρ 0=I players/\ρ 4=.ptr p.n []/\ρ 5=.ptr (p.n+1) []/\ρ 6=I k/\q.t.get p.n=some (.var sh61 K0a.zero.cv)/\q.t.get (p.n+1)=some (.var sh61 (oneWith players rules tk).cv)/\tk.l=oneTok k/\(tk.tl=.nil\/∃j,tk.tl=.own j/\p.n+1<j/\j<q.n/\q.t.get j=some (.tail tk.l.length)/\0<tk.l.length)/\p.n+1<q.n/\HpLe p q
def R63: Rel:=fun args p r=>∃(players:Int) (rules:Lst Q0c),args=[I players,Lst.cv Q0c.cv rules]/\(1<=players/\players<=1000)/\r=.ret (oneC players rules).cv p
theorem t63{T:XCall}(h:Has T 63 R63)(players:Int)(rules:Lst Q0c){p:Hp}(h1:1<=players/\players<=1000): T 63 [I players,Lst.cv Q0c.cv rules] p=.ret (oneC players rules).cv p:=h _ _ _ ⟨players,rules,rfl,h1,rfl⟩
theorem zq63{A B:Prop}(k:B)(h:A=B:=by have zy:=zA @zw63<|zA @rs63<|zA @tt3<|zA @tt24<|zA @tt61<|zA ti3.eq_1<|zA ti24.eq_1<|zA ti61.eq_1<|zA @X0e<|zA @zsl24<|zA @bld61<|@h1;exact zQ): A:=h▸k
theorem zge63{P:Prop}(h:P:=by simp (disch:=first|exact zdl|fail) only[zheap];first|done|rfl): P:=h
theorem c63: Con C 63 R63:=by
 refine Q0e C ?_ ?_ ?_
 ·rintro args p r r' ⟨players,rules,h,h1,e⟩ ⟨players',rules',h',h1',e'⟩
  subst e;subst e';simp_all[K0a.inj_iff,X0s,K0j]
 ·rintro args p r ⟨players,rules,h,h1,rfl⟩;exact zr1
 rintro args p r ⟨players,rules,rfl,h1,rfl⟩
 refine zW C false [] zT rfl xf63 zc63_ok fun call zh hF=>?_
 clear zh
 have hPn:((players.toNat:Nat):Int)=players:=by omega
 have hre:∀j,rules.tl=.own j->j<p.n:=fun j hj=>hF.lt_arg (a:=Lst.cv Q0c.cv rules) (by simp) j ((Lst.has _ Q0c.nohas _ j).2 hj)
 (have zx:=zT;refine zq63 ?_;try exact zT)
 repeat'(apply zK.s<;>intro hc<;>(try simp only[zhd]at hc)<;>(try have hw:=X0a hc)<;>(refine zq63 ?_;try exact zT))
 all_goals(try clear zx)
 (show W C false noExt call (ZC.loop zn63_9) _ _ _);refine V0i C false noExt call zn63_9 _ _ _ (J63 players rules p) players.toNat ⟨0,⟨.nil,[],fun _=>rfl⟩,rfl,by omega,(by simp[put_at,Q0d,K0e]),(by simp[put_at,Q0d,K0e]),(by simp[put_at,Q0d,K0e]),(by simp[put_at,Q0d,K0e]),zge63,zge63,rfl,.inl rfl,zb9,zle⟩ ?_
 rintro n ρ q ⟨k,⟨tl,al,ao⟩,rfl,hk,e0,e4,e5,e6,g1,g2,hal,happ,hn,hle⟩
 have hln:al.length=k:=by simp only at hal;rw[hal,oneTok_len]
 by_cases hlt:(k:Int)<players
 ·have htk:(oneWith players rules ⟨tl,al,ao⟩).Tokens=⟨tl,al,ao⟩:=rfl
  rcases happ with ht|⟨j,ht,hj1,hj2,g4,hj4⟩
  ·simp only at ht
   subst ht
   (have zx:=zA e0 (zA e4 (zA e5 (zA e6 (zA g1 (zA g2 (zA hlt htk))))));refine zq63 ?_;try exact zT)
   repeat'(apply zK.s<;>intro hc<;>(try simp only[zhd]at hc)<;>(try have hw:=X0a hc)<;>(refine zq63 ?_;try exact zT))
   all_goals(try clear zx)
   exact⟨players.toNat-(k+1),by omega,k+1,⟨.own q.n,al++[(k:Int)],nofun⟩,rfl,by omega,zev,zev,zev,zev,zg9,zg9,by simp only at hal;rw[hal,V1e],.inr ⟨q.n,rfl,by omega,zb9,by simp (disch:=first|exact zdl|fail) only[zheap,List.length_append,List.length_cons,List.length_nil],by simp⟩,zb9,zlq⟩
  ·simp only at ht g4 hj4
   subst ht
   (have zx:=zA e0 (zA e4 (zA e5 (zA e6 (zA g1 (zA g2 (zA hlt (zA g4 htk)))))));refine zq63 ?_;try exact zT)
   repeat'(apply zK.s<;>intro hc<;>(try simp only[zhd]at hc)<;>(try have hw:=X0a hc)<;>(refine zq63 ?_;try exact zT))
   all_goals(try clear zx)
   exact⟨players.toNat-(k+1),by omega,k+1,⟨.own q.n,al++[(k:Int)],nofun⟩,rfl,by omega,zev,zev,zev,zev,zg9,zg9,by simp only at hal;rw[hal,V1e],.inr ⟨q.n,rfl,by omega,zb9,by simp (disch:=first|exact zdl|fail) only[zheap,List.length_append,List.length_cons,List.length_nil],by simp⟩,zb9,zlq⟩
 ·have hk2:k=players.toNat:=by omega
  (have zx:=zA e0 (zA e4 (zA e5 (zA e6 (zA g1 (zA g2 hlt)))));refine zq63 ?_;try exact zT)
  repeat'(apply zK.s<;>intro hc<;>(try simp only[zhd]at hc)<;>(try have hw:=X0a hc)<;>(refine zq63 ?_;try exact zT))
  all_goals(try clear zx)
  refine K0d hF zlq ?_
  have hw:=weak_one players rules ⟨tl,al,ao⟩ p.n hre (happ.imp id fun⟨j,h1,_,_,_,h5⟩=>⟨⟨j,h1⟩,h5⟩)
  simp only at hal
  subst hk2
  subst hal
  exact hw
def R59: Rel:=fun args p r=>args=[]/\r=.ret (Bo true) p
theorem t59{T:XCall}(h:Has T 59 R59) {p:Hp}:T 59 [] p=.ret (Bo true) p:=h _ _ _ ⟨rfl,rfl⟩
theorem zq59{A B:Prop}(k:B)(h:A=B:=by have zy:=zA @zw59<|zA @rs59<|zA @tt3<|zA @tt34<|zA @tt61<|zA @tt63<|zA @tt66<|zA @tt108<|zA ti3.eq_1<|zA ti34.eq_1<|zA ti61.eq_1<|zA ti63.eq_1<|zA ti66.eq_1<|zA ti108.eq_1<|zA @t_58<|zA @t_60<|zA @t_62<|zA @t_63<|zA @t_134<|zA @X0e<|zA @Q0f<|zA @Z0d<|zA @Z0m<|zA @zsl63<|zA @zsl108<|@nilOp;exact zQ): A:=h▸k
theorem zno59{P:Prop}(h:P:=by intro jj;simp[CV.has,CV.hasL,fault,Z0b.nohas,Y0a.nohas,Q0a.nohas,Q0b.nohas]): P:=h
theorem c59: Con C 59 R59:=by
 refine Q0e C ?_ ?_ ?_
 ·rintro args p r r' ⟨h,e⟩ ⟨h',e'⟩
  subst e;subst e';simp_all[K0a.inj_iff,Y0a.inj_iff,Q0a.inj_iff,Q0b.inj_iff,X0p]
 ·rintro args p r ⟨h,rfl⟩;exact zr1
 rintro args p r ⟨rfl,rfl⟩
 refine zW C false [(58,R58),(60,R60),(62,R62),(63,R63),(134,R134)] ⟨c58,c60,c62,c63,c134,zT⟩ rfl xf59 zc59_ok fun call zh hF=>?_
 have t_58:=@t58 _ zh.1
 have t_60:=@t60 _ zh.2.1
 have t_62:=@t62 _ zh.2.2.1
 have t_63:=@t63 _ zh.2.2.2.1
 have t_134:=@t134 _ zh.2.2.2.2.1
 clear zh
 have k1:=kC_legal
 have k2:=kS_x
 have k3:=kS_f
 have k4:=kS_k
 have hC:oneC 1 ⟨.nil,[],fun _=>rfl⟩=kC:=rfl
 have hS:stepS kC [cellV 0 64 0] (firstS kC)=kS:=rfl
 have hl:kC.Tokens.l.length<=1000000:=by decide
 have hr:kC.Rules.l.length<=1000000:=by decide
 have hb:=kS.hBodies
 generalize hC0:kC=C0 at k1 hC hS hl hr
 generalize hS0:kS=S0 at k2 k3 k4 hS hb
 clear hC0 hS0
 (have zx:=zA hC (zA hS (zA k1 (zA k2 (zA k3 k4))));refine zq59 ?_;try exact zT)
 repeat'(apply zK.s<;>intro hc<;>(try simp only[zhd]at hc)<;>(try have hw:=X0a hc)<;>(refine zq59 ?_;try exact zT))
 all_goals(try clear zx)
 exact K0d hF zle (Y0c rfl (Z0c zno59))
def J65(players:Int)(l:Lst Int)(p:Hp)(n:Nat)(ρ:Env)(q:Hp): Prop:=
 ∃(k:Nat),n=min players.toNat l.l.length-k/\k<=min players.toNat l.l.length/\ρ 0=I players/\ρ 1=Lst.cv I l/\ρ 5=.slc p.n [] 0 players.toNat/\ρ 6=I k/\q.t.get p.n=some (.var (.n (List.replicate players.toNat sh110)) (.agg ((rowK players l.l k).map Q0b.cv)))/\p.n<q.n/\HpLe p q
def R65: Rel:=fun args p r=>∃(players:Int) (l:Lst Int),args=[I players,Lst.cv I l]/\(1<=players/\players<=100)/\r=.ret (Lst.cv Q0b.cv ⟨.part,rowOf players l.l,nofun⟩) p
theorem t65{T:XCall}(h:Has T 65 R65)(players:Int)(l:Lst Int){p:Hp}(h1:1<=players/\players<=100): T 65 [I players,Lst.cv I l] p=.ret (Lst.cv Q0b.cv ⟨.part,rowOf players l.l,nofun⟩) p:=h _ _ _ ⟨players,l,rfl,h1,rfl⟩
theorem zq65{A B:Prop}(k:B)(h:A=B:=by have zy:=zA @zw65<|zA @rs65<|zA @tt3<|zA @tt24<|zA @tt108<|zA @tt110<|zA ti3.eq_1<|zA ti24.eq_1<|zA ti108.eq_1<|zA ti110.eq_1<|zA @t_69<|zA @Z0m<|zA @Q0h<|zA @zsl24<|zA @zsl108<|zA @mk108<|zA @ix108<|zA @sa108<|zA @X0z<|@h1;exact zQ): A:=h▸k
theorem zge65{P:Prop}(h:P:=by simp (disch:=first|exact zdl|fail) only[zheap];first|done|rfl): P:=h
theorem c65: Con C 65 R65:=by
 refine Q0e C ?_ ?_ ?_
 ·rintro args p r r' ⟨players,l,h,h1,e⟩ ⟨players',l',h',h1',e'⟩
  subst e;subst e';simp_all[Q0b.inj_iff,K0b.inj_iff,X0s,X0p,X0s]
 ·rintro args p r ⟨players,l,h,h1,rfl⟩;exact zr1
 rintro args p r ⟨players,l,rfl,h1,rfl⟩
 show AnsAt C 65 [I players,Lst.cv I l] p (.ret (.lst .part ((rowOf players l.l).map Q0b.cv)) p)
 refine ans_freeze C (sh:=.n (List.replicate players.toNat sh110)) (l:=(rowOf players l.l).map Q0b.cv) (sz:=4) (fun x hx=>by obtain⟨y,_,rfl⟩:=List.mem_map.1 hx;rfl) (fun j hj=>(X0n Q0b.nohas _ j hj).elim) ?_
 refine zW C false [(69,R69)] ⟨c69,zT⟩ rfl xf65 zc65_ok fun call zh hF=>?_
 have t_69:=@t69 _ zh.1
 clear zh
 have hp:((players.toNat:Nat):Int)=players:=by omega
 have hfin:∀q:Hp,q.t.get p.n=some (.var (.n (List.replicate players.toNat sh110)) (.agg ((rowOf players l.l).map Q0b.cv)))->HpLe p q->ShrR p (.ret (.slc p.n [] 0 players.toNat) q) (.ret (.slc p.n [] 0 (rowOf players l.l).length) (p.new (.var (.n (List.replicate players.toNat sh110)) (.agg ((rowOf players l.l).map Q0b.cv))))):=by
  intro q g1 hle
  rw[rowOf_len]
  refine X1n (by show p.n<=p.n+1;omega) (fun j o h=>?_) ⟨rfl,Nat.lt_succ_self _,rfl,rfl,rfl⟩
  by_cases hj:j=p.n
  ·subst hj
   rw[Hp.get_new_self]at h;cases h
   exact⟨Nat.lt_succ_self _,.inr ⟨_,g1,V0p fun i hi=>by simp only[XObj.has,CV.has]at hi;exact(X0n Q0b.nohas _ i hi).elim⟩⟩
  ·rw[Hp.get_new_ne _ _ hj]at h
   have hd:=hF.dom _ _ h
   exact⟨Nat.lt_succ_of_lt hd,.inl ⟨hd,h,hle j o h⟩⟩
 (have zx:=zT;refine zq65 ?_;try exact zT)
 repeat'(apply zK.s<;>intro hc<;>(try simp only[zhd]at hc)<;>(try have hw:=X0a hc)<;>(refine zq65 ?_;try exact zT))
 all_goals(try clear zx)
 (show W C false noExt call (ZC.loop zn65_9) _ _ _);refine V0i C false noExt call zn65_9 _ _ _ (J65 players l p) (min players.toNat l.l.length) ⟨0,rfl,by omega,(by simp[put_at,Q0d,K0e]),(by simp[put_at,Q0d];rfl),(by simp[put_at,Q0d,K0e]),(by simp[put_at,Q0d,K0e]),zge65,(zb9),zle⟩ ?_
 rintro n ρ q ⟨k,rfl,hk,e0,e1,e5,e6,g1,hn,hle⟩
 have hlen:=K1x players l.l k
 by_cases hlt:(k:Int)<players
 ·by_cases hll:(k:Int)<l.l.length
  ·have hw:=wrap_range ((nth l.l k).tdiv 7)
   by_cases h4:0<(nth l.l k).tmod 4
   ·have hst:rowK players l.l (k+1)=(rowK players l.l k).set k (cellOf (nth l.l k)):=by simp[rowK,h4]
    (have zx:=zA e0 (zA e1 (zA e5 (zA e6 (zA g1 (zA hlt (zA hll h4))))));refine zq65 ?_;try exact zT)
    repeat'(apply zK.s<;>intro hc<;>(try simp only[zhd]at hc)<;>(try have hw:=X0a hc)<;>(refine zq65 ?_;try exact zT))
    all_goals(try clear zx)
    exact⟨min players.toNat l.l.length-(k+1),by omega,k+1,rfl,by omega,zev,zev,zev,zev,by rw[hst];simp (disch:=first|exact zdl|fail) only[zheap];first|done|rfl,zb9,zlq⟩
   ·have hst:rowK players l.l (k+1)=rowK players l.l k:=by simp[rowK,h4]
    (have zx:=zA e0 (zA e1 (zA e5 (zA e6 (zA g1 (zA hlt (zA hll h4))))));refine zq65 ?_;try exact zT)
    repeat'(apply zK.s<;>intro hc<;>(try simp only[zhd]at hc)<;>(try have hw:=X0a hc)<;>(refine zq65 ?_;try exact zT))
    all_goals(try clear zx)
    exact⟨min players.toNat l.l.length-(k+1),by omega,k+1,rfl,by omega,zev,zev,zev,zev,by rw[hst];exact g1,hn,hle⟩
  ·have hk2:k=min players.toNat l.l.length:=by omega
   (have zx:=zA e0 (zA e1 (zA e5 (zA e6 (zA g1 (zA hlt hll)))));refine zq65 ?_;try exact zT)
   repeat'(apply zK.s<;>intro hc<;>(try simp only[zhd]at hc)<;>(try have hw:=X0a hc)<;>(refine zq65 ?_;try exact zT))
   all_goals(try clear zx)
   exact hfin q (by rw[g1,hk2];rfl) hle
 ·have hk2:k=min players.toNat l.l.length:=by omega
  (have zx:=zA e0 (zA e1 (zA e5 (zA e6 (zA g1 hlt))));refine zq65 ?_;try exact zT)
  repeat'(apply zK.s<;>intro hc<;>(try simp only[zhd]at hc)<;>(try have hw:=X0a hc)<;>(refine zq65 ?_;try exact zT))
  all_goals(try clear zx)
  exact hfin q (by rw[g1,hk2];rfl) hle
def J61(players:Int)(l:Lst (Lst Int))(p:Hp)(n:Nat)(ρ:Env)(q:Hp): Prop:=
 ∃(k:Nat) (acc:Lst (Lst Q0b)),n=40-k/\k<=40/\k<=l.l.length/\ρ 0=I players/\ρ 1=Lst.cv (Lst.cv I) l/\ρ 5=acc.cv (Lst.cv Q0b.cv)/\ρ 6=I k/\acc.l=(l.l.take k).map (rowL players)/\(acc.tl=.nil\/∃j,acc.tl=.own j/\p.n<=j/\j<q.n/\q.t.get j=some (.tail acc.l.length)/\0<acc.l.length)/\p.n<=q.n/\HpLe p q
def R61: Rel:=fun args p r=>∃(players:Int) (l:Lst (Lst Int)),args=[I players,Lst.cv (Lst.cv I) l]/\(1<=players/\players<=100)/\r=.ret (Lst.cv (Lst.cv Q0b.cv) (ownL (rowsOf players l.l) p.n)) (ownH (rowsOf players l.l) p)
theorem t61{T:XCall}(h:Has T 61 R61)(players:Int)(l:Lst (Lst Int)){p:Hp}(h1:1<=players/\players<=100): T 61 [I players,Lst.cv (Lst.cv I) l] p=.ret (Lst.cv (Lst.cv Q0b.cv) (ownL (rowsOf players l.l) p.n)) (ownH (rowsOf players l.l) p):=h _ _ _ ⟨players,l,rfl,h1,rfl⟩
theorem zq61{A B:Prop}(k:B)(h:A=B:=by have zy:=zA @zw61<|zA @rs61<|zA @tt3<|zA @tt24<|zA @tt58<|zA @tt92<|zA ti3.eq_1<|zA ti24.eq_1<|zA ti58.eq_1<|zA ti92.eq_1<|zA @t_65<|zA @Z0m<|zA @zsl24<|zA @zsl58<|zA @zsl92<|@h1;exact zQ): A:=h▸k
theorem c61: Con C 61 R61:=by
 refine Q0e C ?_ ?_ ?_
 ·rintro args p r r' ⟨players,l,h,h1,e⟩ ⟨players',l',h',h1',e'⟩
  subst e;subst e';simp_all[Q0b.inj_iff,X0s,Y09,Q1x,Y09]
 ·rintro args p r ⟨players,l,h,h1,rfl⟩;exact zr1
 rintro args p r ⟨players,l,rfl,h1,rfl⟩
 refine zW C false [(65,R65)] ⟨c65,zT⟩ rfl xf61 zc61_ok fun call zh hF=>?_
 have t_65:=@t65 _ zh.1
 clear zh
 (have zx:=zT;refine zq61 ?_;try exact zT)
 repeat'(apply zK.s<;>intro hc<;>(try simp only[zhd]at hc)<;>(try have hw:=X0a hc)<;>(refine zq61 ?_;try exact zT))
 all_goals(try clear zx)
 show W C false noExt call (ZC.block 0 (ZC.loop zn61_9)) _ _ (seqQ _ _)
 refine W_cut C false noExt call _ _ _ _ (fun ρ q=>∃acc:Lst (Lst Q0b),ρ 5=acc.cv (Lst.cv Q0b.cv)/\acc.l=rowsOf players l.l/\(acc.tl=.nil\/∃j,acc.tl=.own j/\p.n<=j/\q.t.get j=some (.tail acc.l.length)/\0<acc.l.length)/\HpLe p q) ?_ ?_
 ·(show W C false noExt call (ZC.loop zn61_9) _ _ _);refine V0i C false noExt call zn61_9 _ _ _ (J61 players l p) 40 ⟨0,⟨.nil,[],fun _=>rfl⟩,rfl,by omega,by omega,(by simp[put_at,Q0d,K0e]),(by simp[put_at,Q0d];rfl),by simp[put_at,Q0d,K0e,Lst.cv],(by simp[put_at,Q0d,K0e]),by simp,.inl rfl,by omega,zle⟩ ?_
  rintro n ρ q ⟨k,⟨tl,al,ao⟩,rfl,hk,hkl,e0,e1,e5,e6,hacc,happ,hn,hle⟩
  have hal:al.length=k:=by simp only at hacc;rw[hacc];simp;omega
  by_cases hlt:(k:Int)<l.l.length
  ·by_cases h40:(k:Int)<40
   ·have htk:=take_nx (l:=l.l) (k:=k) (by omega)
    have hrow:(⟨.part,rowOf players (nth l.l k).l,nofun⟩:Lst Q0b)=rowL players (nth l.l k):=rfl
    rcases happ with ht|⟨j,ht,hj1,hj2,g1,hj4⟩
    ·simp only at ht
     subst ht
     (have zx:=zA e0 (zA e1 (zA e5 (zA e6 (zA hlt (zA h40 hrow)))));refine zq61 ?_;try exact zT)
     repeat'(apply zK.s<;>intro hc<;>(try simp only[zhd]at hc)<;>(try have hw:=X0a hc)<;>(refine zq61 ?_;try exact zT))
     all_goals(try clear zx)
     exact⟨40-(k+1),by omega,k+1,⟨.own q.n,al++[rowL players (nth l.l k)],nofun⟩,rfl,by omega,by omega,zev,zev,zev,zev,by simp only at hacc;rw[htk,List.map_append,hacc];rfl,.inr ⟨q.n,rfl,hn,zb9,by simp (disch:=first|exact zdl|fail) only[zheap,List.length_append,List.length_cons,List.length_nil],by simp⟩,zb9,zlq⟩
    ·simp only at ht g1 hj4
     subst ht
     (have zx:=zA e0 (zA e1 (zA e5 (zA e6 (zA hlt (zA h40 (zA g1 hrow))))));refine zq61 ?_;try exact zT)
     repeat'(apply zK.s<;>intro hc<;>(try simp only[zhd]at hc)<;>(try have hw:=X0a hc)<;>(refine zq61 ?_;try exact zT))
     all_goals(try clear zx)
     exact⟨40-(k+1),by omega,k+1,⟨.own q.n,al++[rowL players (nth l.l k)],nofun⟩,rfl,by omega,by omega,zev,zev,zev,zev,by simp only at hacc;rw[htk,List.map_append,hacc];rfl,.inr ⟨q.n,rfl,hn,zb9,by simp (disch:=first|exact zdl|fail) only[zheap,List.length_append,List.length_cons,List.length_nil],by simp⟩,zb9,zlq⟩
   ·(have zx:=zA e0 (zA e1 (zA e5 (zA e6 (zA hlt h40))));refine zq61 ?_;try exact zT)
    repeat'(apply zK.s<;>intro hc<;>(try simp only[zhd]at hc)<;>(try have hw:=X0a hc)<;>(refine zq61 ?_;try exact zT))
    all_goals(try clear zx)
    have hk40:k=40:=by omega
    subst hk40
    exact⟨⟨tl,al,ao⟩,zev,hacc,happ.imp id fun⟨j,h1,h2,_,h4,h5⟩=>⟨j,h1,h2,h4,h5⟩,hle⟩
  ·(have zx:=zA e0 (zA e1 (zA e5 (zA e6 hlt)));refine zq61 ?_;try exact zT)
   repeat'(apply zK.s<;>intro hc<;>(try simp only[zhd]at hc)<;>(try have hw:=X0a hc)<;>(refine zq61 ?_;try exact zT))
   all_goals(try clear zx)
   have ht:l.l.take k=l.l.take 40:=by rw[List.take_of_length_le (by omega),List.take_of_length_le (by omega)]
   exact⟨⟨tl,al,ao⟩,zev,by rw[hacc,ht];rfl,happ.imp id fun⟨j,h1,h2,_,h4,h5⟩=>⟨j,h1,h2,h4,h5⟩,hle⟩
 rintro ρ q ⟨acc,e5,hacc,happ,hle⟩
 (have zx:=e5;refine zq61 ?_;try exact zT)
 repeat'(apply zK.s<;>intro hc<;>(try simp only[zhd]at hc)<;>(try have hw:=X0a hc)<;>(refine zq61 ?_;try exact zT))
 all_goals(try clear zx)
 rw[<- hacc]
 exact shr_ownL hF acc hle happ (fun x hx j=>by
  rw[hacc]at hx
  obtain⟨y,_,rfl⟩:=List.mem_map.1 hx
  intro h;cases((Lst.has _ Q0b.nohas _ j).1 h))
def J86(l:Lst V0b)(p:Hp)(n:Nat)(ρ:Env)(q:Hp): Prop:=
 ∃(k:Nat) (acc:Lst Q0c),n=16-k/\k<=16/\k<=l.l.length/\ρ 0=l.cv V0b.cv/\ρ 3=acc.cv Q0c.cv/\ρ 4=I k/\acc.l=(l.l.take k).map fixOp/\(acc.tl=.nil\/∃j,acc.tl=.own j/\p.n<=j/\j<q.n/\q.t.get j=some (.tail acc.l.length)/\0<acc.l.length)/\p.n<=q.n/\HpLe p q
def R86: Rel:=fun args p r=>∃(l:Lst V0b),args=[l.cv V0b.cv]/\r=.ret (Lst.cv Q0c.cv (partL (rulesOf l.l))) p
theorem t86{T:XCall}(h:Has T 86 R86)(l:Lst V0b){p:Hp}:T 86 [l.cv V0b.cv] p=.ret (Lst.cv Q0c.cv (partL (rulesOf l.l))) p:=h _ _ _ ⟨l,rfl,rfl⟩
theorem zq86{A B:Prop}(k:B)(h:A=B:=by have zy:=zA @zw86<|zA @rs86<|zA @tt3<|zA @tt22<|zA @tt23<|zA @tt29<|zA @tt31<|zA ti3.eq_1<|zA ti22.eq_1<|zA ti23.eq_1<|zA ti29.eq_1<|zA ti31.eq_1<|zA @t_21<|zA @K02<|zA @Y0j<|zA @zsl22<|@zsl23;exact zQ): A:=h▸k
theorem c86: Con C 86 R86:=by
 refine Q0e C ?_ ?_ ?_
 ·rintro args p r r' ⟨l,h,e⟩ ⟨l',h',e'⟩
  subst e;subst e';simp_all[V0b.inj_iff,Q0c.inj_iff,V1r,K0j]
 ·rintro args p r ⟨l,h,rfl⟩;exact zr1
 rintro args p r ⟨l,rfl,rfl⟩
 refine zW C false [(21,R21)] ⟨c21,zT⟩ rfl xf86 zc86_ok fun call zh hF=>?_
 have t_21:=@t21 _ zh.1
 clear zh
 (have zx:=zT;refine zq86 ?_;try exact zT)
 repeat'(apply zK.s<;>intro hc<;>(try simp only[zhd]at hc)<;>(try have hw:=X0a hc)<;>(refine zq86 ?_;try exact zT))
 all_goals(try clear zx)
 show W C false noExt call (ZC.block 0 (ZC.loop zn86_9)) _ _ (seqQ _ _)
 refine W_cut C false noExt call _ _ _ _ (fun ρ q=>∃acc:Lst Q0c,ρ 3=acc.cv Q0c.cv/\acc.l=rulesOf l.l/\(acc.tl=.nil\/(∃j,acc.tl=.own j)/\0<acc.l.length)/\HpLe p q) ?_ ?_
 ·(show W C false noExt call (ZC.loop zn86_9) _ _ _);refine V0i C false noExt call zn86_9 _ _ _ (J86 l p) 16 ⟨0,⟨.nil,[],fun _=>rfl⟩,rfl,by omega,by omega,(by simp[put_at,Q0d,K0e]),by simp[put_at,Q0d,K0e,Lst.cv],(by simp[put_at,Q0d,K0e]),by simp,.inl rfl,by omega,zle⟩ ?_
  rintro n ρ q ⟨k,⟨tl,al,ao⟩,rfl,hk,hkl,e0,e3,e4,hacc,happ,hn,hle⟩
  have hal:al.length=k:=by simp only at hacc;rw[hacc];simp;omega
  by_cases hlt:(k:Int)<l.l.length
  ·by_cases h16:(k:Int)<16
   ·have htk:=take_nx (l:=l.l) (k:=k) (by omega)
    generalize hx:nth l.l k=x at htk
    cases hR:opRight (handOp x) with
    |true=>
     have hfx:fixOp x=handOp x:=by simp[fixOp,hR]
     have hR2:=hR
     simp only[opRight,Bool.and_eq_true]at hR2
     have w1:=X0a hR2.1.1
     have w2:=X0a hR2.1.2
     have w3:=X0a hR2.2
     have n1:¬(handOp x).Code<1:=by omega
     have n2:¬(13:Int)<(handOp x).Code:=by omega
     have n3:¬(handOp x).A < -1000000:=by omega
     have n4:¬(1000000:Int)<(handOp x).A:=by omega
     have n5:¬(handOp x).B < -1000000:=by omega
     have n6:¬(1000000:Int)<(handOp x).B:=by omega
     rcases happ with ht|⟨j,ht,hj1,hj2,g1,hj4⟩
     ·simp only at ht
      subst ht
      (have zx:=zA e0 (zA e3 (zA e4 (zA hlt (zA h16 (zA hx (zA n1 (zA n2 (zA n3 (zA n4 (zA n5 n6))))))))));refine zq86 ?_;try exact zT)
      repeat'(apply zK.s<;>intro hc<;>(try simp only[zhd]at hc)<;>(try have hw:=X0a hc)<;>(refine zq86 ?_;try exact zT))
      all_goals(try clear zx)
      exact⟨16-(k+1),by omega,k+1,⟨.own (q.n+1),al++[fixOp x],nofun⟩,rfl,by omega,by omega,zev,by simp[put_at,Q0d,hfx],zev,by simp only at hacc;rw[htk,List.map_append,hacc];rfl,.inr ⟨q.n+1,rfl,by omega,zb9,by simp (disch:=first|exact zdl|fail) only[zheap,List.length_append,List.length_cons,List.length_nil],by simp⟩,zb9,zlq⟩
     ·simp only at ht g1 hj4
      subst ht
      (have zx:=zA e0 (zA e3 (zA e4 (zA hlt (zA h16 (zA hx (zA n1 (zA n2 (zA n3 (zA n4 (zA n5 (zA n6 g1)))))))))));refine zq86 ?_;try exact zT)
      repeat'(apply zK.s<;>intro hc<;>(try simp only[zhd]at hc)<;>(try have hw:=X0a hc)<;>(refine zq86 ?_;try exact zT))
      all_goals(try clear zx)
      exact⟨16-(k+1),by omega,k+1,⟨.own (q.n+1),al++[fixOp x],nofun⟩,rfl,by omega,by omega,zev,by simp[put_at,Q0d,hfx],zev,by simp only at hacc;rw[htk,List.map_append,hacc];rfl,.inr ⟨q.n+1,rfl,by omega,zb9,by simp (disch:=first|exact zdl|fail) only[zheap,List.length_append,List.length_cons,List.length_nil],by simp⟩,zb9,zlq⟩
    |false=>
     have hfx:fixOp x=⟨13,0,0⟩:=by simp[fixOp,hR]
     have hkill:¬((handOp x).Code<1)->¬((13:Int)<(handOp x).Code)->¬((handOp x).A < -1000000)->¬((1000000:Int)<(handOp x).A)->¬((handOp x).B < -1000000)->¬((1000000:Int)<(handOp x).B)->False:=by
      intro a b c d e f
      have:opRight (handOp x)=true:=by simp[opRight,within];omega
      rw[hR]at this;cases this
     rcases happ with ht|⟨j,ht,hj1,hj2,g1,hj4⟩
     ·simp only at ht
      subst ht
      (have zx:=zA e0 (zA e3 (zA e4 (zA hlt (zA h16 hx))));refine zq86 ?_;try exact zT)
      repeat'(apply zK.s<;>intro hc<;>(try simp only[zhd]at hc)<;>(try have hw:=X0a hc)<;>(refine zq86 ?_;try exact zT))
      all_goals(try clear zx)
      all_goals first|exact(hkill (by assumption) (by assumption) (by assumption) (by assumption) (by assumption) (by assumption)).elim|exact⟨16-(k+1),by omega,k+1,⟨.own (q.n+1),al++[fixOp x],nofun⟩,rfl,by omega,by omega,zev,by simp[put_at,Q0d,hfx],zev,by simp only at hacc;rw[htk,List.map_append,hacc];rfl,.inr ⟨q.n+1,rfl,by omega,zb9,by simp (disch:=first|exact zdl|fail) only[zheap,List.length_append,List.length_cons,List.length_nil],by simp⟩,zb9,zlq⟩
     ·simp only at ht g1 hj4
      subst ht
      (have zx:=zA e0 (zA e3 (zA e4 (zA hlt (zA h16 (zA hx g1)))));refine zq86 ?_;try exact zT)
      repeat'(apply zK.s<;>intro hc<;>(try simp only[zhd]at hc)<;>(try have hw:=X0a hc)<;>(refine zq86 ?_;try exact zT))
      all_goals(try clear zx)
      all_goals first|exact(hkill (by assumption) (by assumption) (by assumption) (by assumption) (by assumption) (by assumption)).elim|exact⟨16-(k+1),by omega,k+1,⟨.own (q.n+1),al++[fixOp x],nofun⟩,rfl,by omega,by omega,zev,by simp[put_at,Q0d,hfx],zev,by simp only at hacc;rw[htk,List.map_append,hacc];rfl,.inr ⟨q.n+1,rfl,by omega,zb9,by simp (disch:=first|exact zdl|fail) only[zheap,List.length_append,List.length_cons,List.length_nil],by simp⟩,zb9,zlq⟩
   ·(have zx:=zA e0 (zA e3 (zA e4 (zA hlt h16)));refine zq86 ?_;try exact zT)
    repeat'(apply zK.s<;>intro hc<;>(try simp only[zhd]at hc)<;>(try have hw:=X0a hc)<;>(refine zq86 ?_;try exact zT))
    all_goals(try clear zx)
    have hk16:k=16:=by omega
    subst hk16
    exact⟨⟨tl,al,ao⟩,zev,hacc,happ.imp id fun⟨j,h1,_,_,_,h5⟩=>⟨⟨j,h1⟩,h5⟩,hle⟩
  ·(have zx:=zA e0 (zA e3 (zA e4 hlt));refine zq86 ?_;try exact zT)
   repeat'(apply zK.s<;>intro hc<;>(try simp only[zhd]at hc)<;>(try have hw:=X0a hc)<;>(refine zq86 ?_;try exact zT))
   all_goals(try clear zx)
   have ht:l.l.take k=l.l.take 16:=by rw[List.take_of_length_le (by omega),List.take_of_length_le (by omega)]
   exact⟨⟨tl,al,ao⟩,zev,by rw[hacc,ht];rfl,happ.imp id fun⟨j,h1,_,_,_,h5⟩=>⟨⟨j,h1⟩,h5⟩,hle⟩
 rintro ρ q ⟨acc,e3,hacc,happ,hle⟩
 (have zx:=e3;refine zq86 ?_;try exact zT)
 repeat'(apply zK.s<;>intro hc<;>(try simp only[zhd]at hc)<;>(try have hw:=X0a hc)<;>(refine zq86 ?_;try exact zT))
 all_goals(try clear zx)
 refine K0d hF zlq ?_
 rw[<- hacc]
 exact X0y Q0c.nohas acc _ happ
def J31(x:V0a)(p:Hp)(n:Nat)(ρ:Env)(q:Hp): Prop:=
 ∃(k:Nat) (tk:Lst Int),n=(cfgP x).toNat-k/\k<=(cfgP x).toNat/\ρ 1=.ptr p.n []/\ρ 2=.ptr (p.n+1) []/\ρ 3=.ptr (p.n+1+1+22) []/\ρ 4=I k/\q.t.get p.n=some (.var sh57 x.cv)/\q.t.get (p.n+1)=some (.var sh61 K0a.zero.cv)/\q.t.get (p.n+1+1+22)=some (.var sh61 (cfgWith x tk).cv)/\tk.l=cfgTok x k/\(tk.tl=.nil\/∃j,tk.tl=.own j/\p.n+1+1+22<j/\j<q.n/\q.t.get j=some (.tail tk.l.length)/\0<tk.l.length)/\p.n+1+1+22<q.n/\HpLe p q
def R31: Rel:=fun args p r=>∃(x:V0a),args=[x.cv]/\r=.ret (cfgOf x).cv p
theorem t31{T:XCall}(h:Has T 31 R31)(x:V0a){p:Hp}:T 31 [x.cv] p=.ret (cfgOf x).cv p:=h _ _ _ ⟨x,rfl,rfl⟩
theorem zq31{A B:Prop}(k:B)(h:A=B:=by have zy:=zA @zw31<|zA @rs31<|zA @tt3<|zA @tt22<|zA @tt23<|zA @tt24<|zA @tt57<|zA @tt59<|zA @tt61<|zA ti3.eq_1<|zA ti22.eq_1<|zA ti23.eq_1<|zA ti24.eq_1<|zA ti57.eq_1<|zA ti59.eq_1<|zA ti61.eq_1<|zA @t_37<|zA @t_86<|zA @K0u<|zA @X0e<|zA @zsl22<|zA @zsl23<|@zsl24;exact zQf): A:=h▸k
theorem zge31{P:Prop}(h:P:=by simp (disch:=first|exact zdl|fail) only[zheap];first|done|rfl): P:=h
theorem c31: Con C 31 R31:=by
 refine Q0e C ?_ ?_ ?_
 ·rintro args p r r' ⟨x,h,e⟩ ⟨x',h',e'⟩
  subst e;subst e';simp_all[V0a.inj_iff,K0a.inj_iff,V1r,K0j,X0s,V1r]
 ·rintro args p r ⟨x,h,rfl⟩;exact zr1
 rintro args p r ⟨x,rfl,rfl⟩
 refine zW C false [(37,R37),(86,R86)] ⟨c37,c86,zT⟩ rfl xf31 zc31_ok fun call zh hF=>?_
 have t_37:=@t37 _ zh.1
 have t_86:=@t86 _ zh.2.1
 clear zh
 have p1:=Q0g (n:=x.Period) (m:=3) (by omega)
 have p2:=Q0g (n:=x.Frames) (m:=90) (by omega)
 have p3:=Q0g (n:=x.Players) (m:=4) (by omega)
 have p4:=Q0g (n:=w64 (x.Players.tdiv 11)) (m:=8) (by omega)
 have p5:=Q0g (n:=x.Rate) (m:=9) (by omega)
 have p6:=Q0g (n:=w64 (x.Rate.tdiv 9)) (m:=40) (by omega)
 have p7:=Q0g (n:=w64 (x.Seed.tdiv 3)) (m:=1000000) (by omega)
 have r1:=(rate_ok p5).1
 have r2:=(dept_ok p6).1
 have r3:=(dept_ok p6).2.1
 simp only[w64]at p4 p6 p7 r2 r3
 have hP:=K06 x
 have hPn:(((cfgP x).toNat:Nat):Int)=cfgP x:=by omega
 suffices hloop:∀(ρ:Env) (q:Hp),ρ 1=.ptr p.n []->ρ 2=.ptr (p.n+1) []->ρ 3=.ptr (p.n+1+1+22) []->ρ 4=I 0->q.t.get p.n=some (.var sh57 x.cv)->q.t.get (p.n+1)=some (.var sh61 K0a.zero.cv)->q.t.get (p.n+1+1+22)=some (.var sh61 (cfgWith x ⟨.nil,[],fun _=>rfl⟩).cv)->p.n+1+1+22<q.n->HpLe p q->W C false noExt call (ZC.loop Y1b) ρ q (blkQ 0 (seqQ (W C false noExt call (ZC.seq zn31_36 ZC.ret)) (endQ C [ResultVar.cell 2 61] fun r'=>ShrR p r' (XRes.ret (cfgOf x).cv p)))) by
  by_cases h11:x.Players.tmod 11=10
  ·have hcp:cfgP x=1+pick (w64 (x.Players.tdiv 11)) 8:=by simp[cfgP,h11]
   by_cases h3:0<x.Rate.tmod 3
   ·have hcr:cfgRate x=4613937818241073152:=by simp[cfgRate,h3]
    have hcd:cfgDepth x=4632233691727265792:=by simp[cfgDepth,h3]
    (have zx:=zA h11 (zA h3 (zA r1 (zA r2 r3)));refine zq31 ?_;try exact zT)
    repeat'(apply zK.s<;>intro hc<;>(try simp only[zhd]at hc)<;>(try have hw:=X0a hc)<;>(refine zq31 ?_;try exact zT))
    all_goals(try clear zx)
    refine hloop _ _ (by simp[put_at,Q0d,K0e]) (by simp[put_at,Q0d,K0e]) (by simp[put_at,Q0d,K0e]) (by simp[put_at,Q0d,K0e]) zge31 zge31 ?_ (zb9) zle
    simp (disch:=first|exact zdl|fail) only[zheap]
    simp only[cfgWith,hcp,hcr,hcd]
   ·have hcr:cfgRate x=rateF (pick x.Rate 9):=by simp[cfgRate,h3]
    have hcd:cfgDepth x=deptF (pick (w64 (x.Rate.tdiv 9)) 40):=by simp[cfgDepth,h3]
    (have zx:=zA h11 (zA h3 (zA r1 (zA r2 r3)));refine zq31 ?_;try exact zT)
    repeat'(apply zK.s<;>intro hc<;>(try simp only[zhd]at hc)<;>(try have hw:=X0a hc)<;>(refine zq31 ?_;try exact zT))
    all_goals(try clear zx)
    refine hloop _ _ (by simp[put_at,Q0d,K0e]) (by simp[put_at,Q0d,K0e]) (by simp[put_at,Q0d,K0e]) (by simp[put_at,Q0d,K0e]) zge31 zge31 ?_ (zb9) zle
    simp (disch:=first|exact zdl|fail) only[zheap]
    simp only[cfgWith,hcp,hcr,hcd]
  ·have hcp:cfgP x=1+pick x.Players 4:=by simp[cfgP,h11]
   by_cases h3:0<x.Rate.tmod 3
   ·have hcr:cfgRate x=4613937818241073152:=by simp[cfgRate,h3]
    have hcd:cfgDepth x=4632233691727265792:=by simp[cfgDepth,h3]
    (have zx:=zA h11 (zA h3 (zA r1 (zA r2 r3)));refine zq31 ?_;try exact zT)
    repeat'(apply zK.s<;>intro hc<;>(try simp only[zhd]at hc)<;>(try have hw:=X0a hc)<;>(refine zq31 ?_;try exact zT))
    all_goals(try clear zx)
    refine hloop _ _ (by simp[put_at,Q0d,K0e]) (by simp[put_at,Q0d,K0e]) (by simp[put_at,Q0d,K0e]) (by simp[put_at,Q0d,K0e]) zge31 zge31 ?_ (zb9) zle
    simp (disch:=first|exact zdl|fail) only[zheap]
    simp only[cfgWith,hcp,hcr,hcd]
   ·have hcr:cfgRate x=rateF (pick x.Rate 9):=by simp[cfgRate,h3]
    have hcd:cfgDepth x=deptF (pick (w64 (x.Rate.tdiv 9)) 40):=by simp[cfgDepth,h3]
    (have zx:=zA h11 (zA h3 (zA r1 (zA r2 r3)));refine zq31 ?_;try exact zT)
    repeat'(apply zK.s<;>intro hc<;>(try simp only[zhd]at hc)<;>(try have hw:=X0a hc)<;>(refine zq31 ?_;try exact zT))
    all_goals(try clear zx)
    refine hloop _ _ (by simp[put_at,Q0d,K0e]) (by simp[put_at,Q0d,K0e]) (by simp[put_at,Q0d,K0e]) (by simp[put_at,Q0d,K0e]) zge31 zge31 ?_ (zb9) zle
    simp (disch:=first|exact zdl|fail) only[zheap]
    simp only[cfgWith,hcp,hcr,hcd]
 intro ρ q e1 e2 e3 e4 g1 g2 g3 hn hle
 (show W C false noExt call (ZC.loop Y1b) _ _ _);refine V0i C false noExt call Y1b _ _ _ (J31 x p) (cfgP x).toNat ⟨0,⟨.nil,[],fun _=>rfl⟩,rfl,by omega,e1,e2,e3,e4,g1,g2,g3,rfl,.inl rfl,hn,hle⟩ ?_
 clear e1 e2 e3 e4 g1 g2 g3 hn hle
 rintro n ρ q ⟨k,⟨tl,al,ao⟩,rfl,hk,e1,e2,e3,e4,g1,g2,g3,hal,happ,hn,hle⟩
 have hln:al.length=k:=by simp only at hal;rw[hal,K05]
 by_cases hlt:(k:Int)<cfgP x
 ·have hpl:(cfgWith x ⟨tl,al,ao⟩).Players=cfgP x:=rfl
  have htk:(cfgWith x ⟨tl,al,ao⟩).Tokens=⟨tl,al,ao⟩:=rfl
  rcases happ with ht|⟨j,ht,hj1,hj2,g4,hj4⟩
  ·simp only at ht
   subst ht
   (have zx:=zA e1 (zA e2 (zA e3 (zA e4 (zA g1 (zA g2 (zA g3 (zA hlt (zA hpl htk))))))));refine zq31 ?_;try exact zT)
   repeat'(apply zK.s<;>intro hc<;>(try simp only[zhd]at hc)<;>(try have hw:=X0a hc)<;>(refine zq31 ?_;try exact zT))
   all_goals(try clear zx)
   exact⟨(cfgP x).toNat-(k+1),by omega,k+1,⟨.own (q.n+13),al++[tokAt x k],nofun⟩,rfl,by omega,zev,zev,zev,zev,zg9,zg9,zg9,by simp only at hal;rw[hal,K1b],.inr ⟨q.n+13,rfl,by omega,zb9,by simp (disch:=first|exact zdl|fail) only[zheap,List.length_append,List.length_cons,List.length_nil],by simp⟩,zb9,zlq⟩
  ·simp only at ht g4 hj4
   subst ht
   (have zx:=zA e1 (zA e2 (zA e3 (zA e4 (zA g1 (zA g2 (zA g3 (zA hlt (zA g4 (zA hpl htk)))))))));refine zq31 ?_;try exact zT)
   repeat'(apply zK.s<;>intro hc<;>(try simp only[zhd]at hc)<;>(try have hw:=X0a hc)<;>(refine zq31 ?_;try exact zT))
   all_goals(try clear zx)
   exact⟨(cfgP x).toNat-(k+1),by omega,k+1,⟨.own (q.n+13),al++[tokAt x k],nofun⟩,rfl,by omega,zev,zev,zev,zev,zg9,zg9,zg9,by simp only at hal;rw[hal,K1b],.inr ⟨q.n+13,rfl,by omega,zb9,by simp (disch:=first|exact zdl|fail) only[zheap,List.length_append,List.length_cons,List.length_nil],by simp⟩,zb9,zlq⟩
 ·have hpl:(cfgWith x ⟨tl,al,ao⟩).Players=cfgP x:=rfl
  have hk2:k=(cfgP x).toNat:=by omega
  (have zx:=zA e1 (zA e2 (zA e3 (zA e4 (zA g1 (zA g2 (zA g3 (zA hlt hpl)))))));refine zq31 ?_;try exact zT)
  repeat'(apply zK.s<;>intro hc<;>(try simp only[zhd]at hc)<;>(try have hw:=X0a hc)<;>(refine zq31 ?_;try exact zT))
  all_goals(try clear zx)
  refine K0d hF zlq ?_
  have hw:=weak_cfg x ⟨tl,al,ao⟩ p.n (happ.imp id fun⟨j,h1,_,_,_,h5⟩=>⟨⟨j,h1⟩,h5⟩)
  simp only at hal
  subst hk2
  subst hal
  exact hw
end Go.Proofs.Ytpchcfkebljopaa
end
section
namespace Go.Proofs.Ytpchcfkebljopaa
open Go.Cl Go Go.RowKit
set_option maxRecDepth 100000
end Go.Proofs.Ytpchcfkebljopaa
end
section
namespace Go.Proofs.Ytpchcfkebljopaa
open Go.Cl Go Go.RowKit
def freeF(b:Q0a): Bool:=decide (b.Kind=0)
def placeOne(s:Y0a)(x:Q0a): Y0a:=if firstW freeF s.Bodies 0<0 then s else s.put_2k (firstW freeF s.Bodies 0).toNat x
def placeAll(s:Y0a)(l:List Q0a): Y0a:=l.foldl placeOne s
theorem Q0p{α:Type}[Inhabited α](f:α->Bool){l:List α}{k:Nat}(h:k<l.length): firstW f (l.drop k) k=if f (nth l k)=true then(k:Int)else firstW f (l.drop (k+1)) (k+1):=by
 rw[V0s h];rfl
theorem Y0z{α:Type}[Inhabited α](f:α->Bool)(l:List α): ∀k,k<=l.length->(∀j,j<k->f (nth l j)=false)->firstW f (l.drop k) k=firstW f l 0
 |0,_,_=>rfl
 |k+1,hk,h=>by
  rw[<- Y0z f l k (by omega) fun j hj=>h j (by omega),Q0p f (by omega:k<l.length),if_neg (by rw[h k (by omega)];simp)]
theorem firstW_here{α:Type}[Inhabited α](f:α->Bool)(l:List α){k:Nat}(hk:k<l.length)(h:∀j,j<k->f (nth l j)=false)(hf:f (nth l k)=true): firstW f l 0=k:=by
 rw[<- Y0z f l k (by omega) h,Q0p f hk,if_pos hf]
theorem firstW_none{α:Type}[Inhabited α](f:α->Bool)(l:List α)(h:∀j,j<l.length->f (nth l j)=false): firstW f l 0=-1:=by
 rw[<- Y0z f l l.length (Nat.le_refl _) h,List.drop_length];rfl
theorem X01{s:Y0a}(h:∀j,j<16->(nth s.Bodies j).Kind≠0): ∀l,placeAll s l=s
 |[]=>rfl
 |x::l=>by
  have hp:placeOne s x=s:=by
   unfold placeOne
   rw[firstW_none freeF s.Bodies (fun j hj=>by simp[freeF,h j (by rw[s.hBodies]at hj;exact hj)]),if_pos (by omega)]
  show placeAll (placeOne s x) l=s
  rw[hp];exact X01 h l
theorem place_inv(s:Y0a)(sh:List Q0a)(h:∀x∈sh,x.Kind≠0): ∀k,k<=16->placeAll (setsS (s,sh) k).1 (setsS (s,sh) k).2=placeAll s sh/\(∀x∈(setsS (s,sh) k).2,x.Kind≠0)/\((setsS (s,sh) k).2=[]\/∀j,j<k->(nth (setsS (s,sh) k).1.Bodies j).Kind≠0)
 |0,_=>⟨rfl,h,.inr fun j hj=>absurd hj (by omega)⟩
 |k+1,hk=>by
  obtain⟨h1,h2,h3⟩:=place_inv s sh h k (by omega)
  show placeAll (setStep (setsS (s,sh) k) k).1 (setStep (setsS (s,sh) k) k).2=_/\(∀x∈(setStep (setsS (s,sh) k) k).2,_)/\((setStep (setsS (s,sh) k) k).2=[]\/∀j,j<k+1->(nth (setStep (setsS (s,sh) k) k).1.Bodies j).Kind≠0)
  generalize setsS (s,sh) k=st at h1 h2 h3
  obtain⟨t,l⟩:=st
  cases l with
  |nil=>exact⟨h1,h2,.inl rfl⟩
  |cons x l=>
   have h3:∀j,j<k->(nth t.Bodies j).Kind≠0:=h3.resolve_left (by simp)
   have hb:=t.hBodies
   simp only[setStep]
   by_cases h0:(nth t.Bodies k).Kind=0
   ·rw[if_pos h0]
    have hf:firstW freeF t.Bodies 0=k:=firstW_here freeF t.Bodies (by omega) (fun j hj=>by simp[freeF,h3 j hj]) (by simp[freeF,h0])
    refine⟨?_,fun y hy=>h2 y (by simp[hy]),.inr fun j hj=>?_⟩
    ·rw[<- h1]
     show _=placeAll (placeOne t x) l
     unfold placeOne
     rw[hf,if_neg (by omega)];rfl
    ·show(nth (t.Bodies.set k x) j).Kind≠0
     by_cases e:j=k
     ·subst e;rw[Q0n (by omega)];exact h2 x (by simp)
     ·rw[V0m e];exact h3 j (by omega)
   ·rw[if_neg h0]
    refine⟨h1,h2,.inr fun j hj=>?_⟩
    by_cases e:j=k
    ·subst e;exact h0
    ·exact h3 j (by omega)
theorem place_sets(s:Y0a)(sh:List Q0a)(h:∀x∈sh,x.Kind≠0): (setsS (s,sh) 16).1=placeAll s sh:=by
 obtain⟨h1,_,h3⟩:=place_inv s sh h 16 (by omega)
 rw[<- h1]
 rcases h3 with h3|h3
 ·rw[h3];rfl
 ·exact(X01 h3 _).symm
theorem X00(s:Y0a)(l:List Q0a)(x:Q0a): placeAll s (l++[x])=placeOne (placeAll s l) x:=by simp[placeAll]
theorem X1b{α:Type}[Inhabited α]{l:List α}{k:Nat}(h:k<l.length): l.take (k+1)=l.take k++[nth l k]:=by
 rw[List.take_add_one,Q0w h];rfl
theorem hit_swap{x b:Q0a}(h1:x.Kind=1)(h2:b.Kind=2): bodyHit b x=bodyHit x b:=by simp[bodyHit,h1,h2]
def strikeF(b:Q0a)(a:Q0a): Bool:=decide (a.Kind=1)&&bodyHit a b
def HitAt(players:Int)(s:Y0a)(i k:Nat)(t:Y0a): Prop:=
 (t=s/\firstW (strikeF (nth s.Bodies i)) (s.Bodies.drop k) k=struckL s.Bodies (nth s.Bodies i))\/(t=hitStep players s i/\(nth t.Bodies i).Kind≠2)
theorem HitAt.start(players:Int)(s:Y0a)(i:Nat): HitAt players s i 0 s:=.inl ⟨rfl,rfl⟩
theorem HitAt.ended{players:Int}{s:Y0a}{i k:Nat}{t:Y0a}(h:HitAt players s i k t)(he:(nth t.Bodies i).Kind≠2\/k=16): t=hitStep players s i:=by
 rcases h with⟨rfl,h⟩|⟨h,_⟩
 ·unfold hitStep
  simp only
  by_cases hK:(nth t.Bodies i).Kind=2
  ·have hk:k=16:=he.resolve_left (by simp[hK])
   rw[hk,List.drop_eq_nil_of_le (by rw[t.hBodies];omega)]at h
   rw[if_neg (by simp[hK]),<- h,if_pos (by simp[firstW])]
  ·rw[if_pos hK]
 ·exact h
theorem HitAt.miss{players:Int}{s:Y0a}{i k:Nat}{t:Y0a}(h:HitAt players s i k t)(hk:k<16)(hK:(nth t.Bodies i).Kind=2)(hx:strikeF (nth t.Bodies i) (nth t.Bodies k)=false): HitAt players s i (k+1) t:=by
 rcases h with⟨rfl,h⟩|⟨_,h⟩
 ·refine .inl ⟨rfl,?_⟩
  rw[Q0p _ (by rw[t.hBodies];omega),if_neg (by rw[hx];simp)]at h
  exact h
 ·exact absurd hK h
theorem HitAt.hit{players:Int}{s:Y0a}{i k:Nat}{t:Y0a}(h:HitAt players s i k t)(hi:i<16)(hk:k<16)(hK:(nth t.Bodies i).Kind=2)(hx:strikeF (nth t.Bodies i) (nth t.Bodies k)=true):
  t=s/\HitAt players s i (k+1) (((t.put_3k (nth t.Bodies i).Owner.toNat (min (nth t.Score (nth t.Bodies i).Owner.toNat+1) 2147483647)).put_2k i Q0a.zero).put_2k k (again players (nth t.Bodies k))):=by
 rcases h with⟨rfl,h⟩|⟨_,h⟩
 ·refine⟨rfl,.inr ?_⟩
  rw[Q0p _ (by rw[t.hBodies];omega),if_pos hx]at h
  have hx1:(nth t.Bodies k).Kind=1:=by simp only[strikeF,Bool.and_eq_true,decide_eq_true_eq]at hx;exact hx.1
  have hne:k≠i:=by intro e;subst e;omega
  have hb:=t.hBodies
  have hn:nth (t.Bodies.set i Q0a.zero) k=nth t.Bodies k:=V0m hne
  have hs:hitStep players t i=(((t.put_3k (nth t.Bodies i).Owner.toNat (min (nth t.Score (nth t.Bodies i).Owner.toNat+1) 2147483647)).put_2k i Q0a.zero).put_2k k (again players (nth t.Bodies k))):=by
   unfold hitStep
   simp only
   rw[if_neg (by simp[hK]),<- h,if_neg (by omega)]
   simp only[Int.toNat_natCast]
   show Y0a.put_2k _ k (again players (nth (t.Bodies.set i Q0a.zero) k))=_
   rw[hn]
  refine⟨hs.symm,?_⟩
  show(nth ((t.Bodies.set i Q0a.zero).set k _) i).Kind≠2
  rw[V0m (Ne.symm hne),Q0n (by omega)]
  simp[Q0a.zero]
 ·exact absurd hK h
def PlaceAt(s:Y0a)(x:Q0a)(k:Nat)(d:Bool)(t:Y0a): Prop:=
 (d=false/\t=s/\firstW freeF (s.Bodies.drop k) k=firstW freeF s.Bodies 0)\/(d=true/\t=placeOne s x)
theorem PlaceAt.start(s:Y0a)(x:Q0a): PlaceAt s x 0 false s:=.inl ⟨rfl,rfl,rfl⟩
theorem PlaceAt.ended{s:Y0a}{x:Q0a}{k:Nat}{d:Bool}{t:Y0a}(h:PlaceAt s x k d t)(he:d=true\/k=16): t=placeOne s x:=by
 rcases h with⟨rfl,rfl,h⟩|⟨_,h⟩
 ·have hk:k=16:=he.resolve_left (by simp)
  rw[hk,List.drop_eq_nil_of_le (by rw[t.hBodies];omega)]at h
  unfold placeOne
  rw[<- h,if_pos (by simp[firstW])]
 ·exact h
theorem PlaceAt.miss{s:Y0a}{x:Q0a}{k:Nat}{t:Y0a}(h:PlaceAt s x k false t)(hk:k<16)(hK:(nth t.Bodies k).Kind≠0): PlaceAt s x (k+1) false t:=by
 rcases h with⟨_,rfl,h⟩|⟨h,_⟩
 ·refine .inl ⟨rfl,rfl,?_⟩
  rw[Q0p _ (by rw[t.hBodies];omega),if_neg (by simp[freeF,hK])]at h
  exact h
 ·cases h
theorem PlaceAt.hit{s:Y0a}{x:Q0a}{k:Nat}{t:Y0a}(h:PlaceAt s x k false t)(hk:k<16)(hK:(nth t.Bodies k).Kind=0): PlaceAt s x (k+1) true (t.put_2k k x):=by
 rcases h with⟨_,rfl,h⟩|⟨h,_⟩
 ·refine .inr ⟨rfl,?_⟩
  rw[Q0p _ (by rw[t.hBodies];omega),if_pos (by simp[freeF,hK])]at h
  unfold placeOne
  rw[<- h,if_neg (by omega)];rfl
 ·cases h
theorem step_place{c:K0a}{s:Y0a}(h:stateRight c s=true)(row:List Q0b): (setsS (turnsS c.Rules.l row s 16) 16).1=placeAll (turnsS c.Rules.l row s 16).1 (turnsS c.Rules.l row s 16).2:=by
 have ht:=(Z1c c.Rules.l row (Z0j h).1 16 (Nat.le_refl _)).shots
 exact place_sets _ _ fun x hx=>by rw[(ht x hx).2.1];omega
theorem freeN_le(s:Y0a): freeN s.Bodies<=16:=by
 have:=List.length_filter_le (fun b:Q0a=>decide (b.Kind=0)) s.Bodies
 rw[s.hBodies]at this;exact this
theorem X1j(players:Int)(k:Nat)(b:Q0a): rightAt players k b=true ↔ Body.right b=true/\(b.Kind=0\/¬players<=b.Owner)/\(decide (b.Kind=1)=decide ((k:Int)<players))/\(¬(k:Int)<players\/b.Owner=k):=by
 have hk3:Body.right b=true->b.Kind=0\/b.Kind=1\/b.Kind=2:=fun h=>by
  by_cases h0:b.Kind=0
  ·exact .inl h0
  ·exact .inr (Y0f h h0).2.2.2.2.2.2.2
 unfold rightAt
 rw[Bool.and_eq_true]
 refine and_congr_right fun h1=>?_
 have h3:=hk3 h1
 by_cases hp:(k:Int)<players
 ·rw[if_pos hp]
  simp only[Bool.and_eq_true,decide_eq_true_eq,hp,decide_true]
  constructor
  ·rintro⟨a,e⟩;exact⟨.inr (by omega),a,.inr e⟩
  ·rintro⟨_,a,e⟩
   refine⟨a,?_⟩
   rcases e with e|e
   ·exact absurd trivial e
   ·exact e
 ·rw[if_neg hp]
  simp only[Bool.or_eq_true,Bool.and_eq_true,decide_eq_true_eq,hp,decide_false,decide_eq_false_iff_not]
  constructor
  ·rintro(a|⟨a,e⟩)
   ·exact⟨.inl a,by omega,.inl (by simp)⟩
   ·exact⟨.inr (by omega),by omega,.inl (by simp)⟩
  ·rintro⟨a,e,_⟩
   rcases h3 with h|h|h
   ·exact .inl h
   ·exact absurd h e
   ·exact .inr ⟨h,by omega⟩
theorem tok_step{l:List Int}{i:Nat}(h:i<l.length): tokGo (l.take i) (l.drop i)=(within (nth l i) 0 2147483646&&!(l.take i).contains (nth l i)&&tokGo (l.take (i+1)) (l.drop (i+1))):=by
 rw[V0s h,X1b h];rfl
theorem tok_in{l:List Int}{i k:Nat}(hk:k<i)(hi:i<l.length)(h:nth l k=nth l i): tokGo (l.take i) (l.drop i)=false:=by
 rw[tok_step hi]
 have:(l.take i).contains (nth l i)=true:=by
  rw[List.contains_iff_mem,<- h,Q0l (by omega:k<l.length)]
  exact List.mem_take_iff_getElem.2 ⟨k,by omega,rfl⟩
 rw[this];simp
theorem tok_out{l:List Int}{i:Nat}(hi:i<l.length)(h:∀k,k<i->nth l k≠nth l i): (l.take i).contains (nth l i)=false:=by
 cases e:(l.take i).contains (nth l i) with
 |false=>rfl
 |true=>
  rw[List.contains_iff_mem]at e
  obtain⟨k,hk,he⟩:=List.mem_take_iff_getElem.1 e
  have hk2:k<i:=by omega
  exact absurd (by rw[Q0l (by omega:k<l.length)];exact he) (h k hk2)
def bitAt(v:Int)(i:Nat): Bool:=decide (v/2^i % 2=1)
def gb(l:List Bool)(k:Nat): Bool:=l[k]?.getD false
theorem gb_app(l m:List Bool)(k:Nat): gb (l++m) k=if k<l.length then gb l k else gb m (k-l.length):=by
 unfold gb
 by_cases h:k<l.length
 ·rw[List.getElem?_append_left h,if_pos h]
 ·rw[List.getElem?_append_right (by omega),if_neg h]
def bitB(b:List Int)(k:Nat): Bool:=bitAt (nth b (k/8)) (7-k % 8)
end Go.Proofs.Ytpchcfkebljopaa
end
section
namespace Go.Cl
open Go.RowKit
section
variable (C:Ctx)
theorem VRs_snoc{S:St}{v:CV}: ∀{a:List CV} {vals:List Value},VRs S (a++[v]) vals->∃va x,vals=va++[x]/\VRs S a va/\VR S v x
 |[],vals,h=>by
  simp only[List.nil_append,VRs]at h
  obtain⟨x,xs,rfl,h1,h2⟩:=h
  subst h2
  exact⟨[],x,rfl,by simp[VRs],h1⟩
 |u::a,vals,h=>by
  simp only[List.cons_append,VRs]at h
  obtain⟨y,ys,rfl,h1,h2⟩:=h
  obtain⟨va,x,rfl,h3,h4⟩:=VRs_snoc h2
  exact⟨y::va,x,rfl,V0f.2 ⟨h1,h3⟩,h4⟩
theorem VRs_snoc'{S:St}{v:CV}{x:Value}: ∀{a:List CV} {va:List Value},VRs S a va->VR S v x->VRs S (a++[v]) (va++[x])
 |[],va,h,k=>by
  simp only[VRs]at h
  subst h
  exact V0f.2 ⟨k,by simp[VRs]⟩
 |u::a,va,h,k=>by
  simp only[VRs]at h
  obtain⟨y,ys,rfl,h1,h2⟩:=h
  exact V0f.2 ⟨h1,VRs_snoc' h2 k⟩
def RFrz(R:Rel): Rel:=fun args p r=>∃(a:List CV) (j:Nat) (sh:Shape) (l:List CV) (sz:Nat),args=a++[.slc j [] 0 l.length]/\p.t.get j=some (.var sh (.agg l))/\(∀x∈l,x.size=sz)/\R (a++[.lst .part l]) (p.set j none) r
theorem con_frz{f:FuncId}{R:Rel}(h:Con C f R): Con C f (RFrz R) where
 un:=by
  rintro args p r r' ⟨a,j,sh,l,sz,rfl,h2,_,h4⟩ ⟨a',j',sh',l',sz',e,h2',_,h4'⟩
  obtain⟨rfl,e2⟩:=List.append_inj' e rfl
  simp only[List.cons.injEq,CV.slc.injEq,and_true,true_and]at e2
  obtain⟨rfl,_⟩:=e2
  rw[h2]at h2'
  simp only[Option.some.injEq,XObj.var.injEq,CV.agg.injEq]at h2'
  obtain⟨_,rfl⟩:=h2'
  exact h.un _ _ _ _ h4 h4'
 ok:=by
  rintro args p r ⟨a,j,sh,l,sz,rfl,hg,hsz,hR⟩
  obtain⟨hne,hfn,ha⟩:=h.ok _ _ _ hR
  refine⟨hne,hfn,fun w0 B S w vals r0 hV=>?_⟩
  obtain⟨va,x,rfl,hVa,hx⟩:=VRs_snoc hV
  obtain⟨hx1,hx2⟩:=hx
  simp only[FR]at hx1
  obtain⟨rb,sh',l',o,cap,e1,⟨tot,hμ,_⟩,e2,e3,e4,e5⟩:=hx1
  have hgh:p.h j=some (.var (.agg l)):=by simp only[Hp.h,hg];rfl
  obtain⟨cs,hf,hle,hr,hli⟩:=Go.Cl.R.frz r0.r hgh hμ
  have ho:o=0:=by simp only[Shape.off,Option.some.injEq]at e3;exact e3.symm
  subst ho
  have hX:XRel w0 B (S.frz rb cs) (p.set j none) w:=by
   refine⟨?_,r0.n,?_⟩
   ·refine hr.drop fun i=>?_
    by_cases hi:i=j
    ·left;subst hi;simp only[Hp.h,Hp.get_set_self];rfl
    ·right;rw[X0g _ _ hi];simp only[Hp.h,Hp.get_set_ne _ _ _ hi]
   ·intro i sh0 v0 hi
    by_cases e:i=j
    ·subst e;rw[Hp.get_set_self]at hi;cases hi
    ·rw[Hp.get_set_ne _ _ _ e]at hi;exact r0.good i sh0 v0 hi
  have hv:VR (S.frz rb cs) (.lst .part l) x:=by
   refine⟨?_,by simpa[CV.isAgg]using hx2⟩
   simp only[FR]
   refine .inr ⟨rb,0,cap,sz,cs,?_,e4,?_,hli,hsz,trivial⟩
   ·rw[e1];simp[Shape.sizes]
   ·simp only[FR]at hf
    exact FRs.mono hle _ _ hf
  have hfin:=ha w0 B (S.frz rb cs) w (va++[x]) hX (VRs_snoc' (VRs.mono hle _ _ hVa) hv)
  have hext:S.ext (S.frz rb cs):=⟨hle,fun _ _ h=>h⟩
  cases r with
  |ret v p'=>exact Calls.mono hfin fun en w' ⟨S',y,k1,k2,k3,k4⟩=>⟨S',y,hext.trans k1,k2,k3,k4⟩
  |pan v p'=>exact Calls.mono hfin fun en w' ⟨S',y,k1,k2,k3,k4⟩=>⟨S',y,hext.trans k1,k2,k3,k4⟩
  |stuck=>trivial
theorem con_or{f:FuncId}{R Q:Rel}(h:Con C f R)(k:Con C f Q)(hd:∀args p r r',R args p r->Q args p r'->r=r'): Con C f (fun args p r=>R args p r\/Q args p r) where
 un:=by
  rintro args p r r' (h1|h1) (h2|h2)
  ·exact h.un _ _ _ _ h1 h2
  ·exact hd _ _ _ _ h1 h2
  ·exact(hd _ _ _ _ h2 h1).symm
  ·exact k.un _ _ _ _ h1 h2
 ok:=by
  rintro args p r (h1|h1)
  ·exact h.ok _ _ _ h1
  ·exact k.ok _ _ _ h1
end
end Go.Cl
end
section
namespace Go.Proofs.Ytpchcfkebljopaa
open Go.Cl Go Go.RowKit
set_option maxRecDepth 100000
set_option linter.constructorNameAsVariable false
end Go.Proofs.Ytpchcfkebljopaa
end
section
namespace Go.Proofs.Ytpchcfkebljopaa
open Go.Cl Go Go.RowKit
theorem Q0s{n lo hi:Int}(h:lo<=n/\n<=hi): within n lo hi=true:=by simp[within,h.1,h.2]
theorem tokGo_map(f:Nat->Int)(hf:∀i j,f i=f j->i=j)(hw:∀i,i<9->within (f i) 0 2147483646=true): ∀(m k:Nat),k+m<=9->tokGo ((List.range k).map f) ((List.range' k m).map f)=true
 |0,k,_=>rfl
 |m+1,k,h=>by
  simp only[List.range'_succ,List.map_cons,tokGo,Bool.and_eq_true]
  refine⟨⟨hw k (by omega),?_⟩,?_⟩
  ·simp only[Bool.not_eq_true',List.contains_eq_mem,decide_eq_false_iff_not,List.mem_map,List.mem_range,not_exists,not_and]
   intro i hi e
   have:=hf _ _ e
   omega
  ·have:=tokGo_map f hf hw m (k+1) (by omega)
   rwa [List.range_succ,List.map_append]at this
theorem cfg_legal(x:V0a): legalC (cfgOf x)=true:=by
 have hP:=K06 x
 have p1:=Q0g (n:=x.Period) (m:=3) (by omega)
 have p2:=Q0g (n:=x.Grace) (m:=8) (by omega)
 have p3:=Q0g (n:=x.Start) (m:=6) (by omega)
 have p4:=Q0g (n:=x.Frames) (m:=90) (by omega)
 have p5:=Q0g (n:=x.Seed) (m:=2147483648) (by omega)
 have p6:=Q0g (n:=x.Rate) (m:=9) (by omega)
 have p7:=Q0g (n:=w64 (x.Rate.tdiv 9)) (m:=40) (by omega)
 have p8:=Q0g (n:=w64 (x.Seed.tdiv 3)) (m:=1000000) (by omega)
 have hb:bucketOk (cfgRate x) (cfgDepth x)=true:=by
  unfold cfgRate cfgDepth
  by_cases h:0<x.Rate.tmod 3
  ·rw[if_pos h,if_pos h];exact Z1h (by kernel_rfl) (by kernel_rfl)
  ·rw[if_neg h,if_neg h];exact Z1h (rate_ok p6).2 (dept_ok p7).2.2
 have ht:tokGo [] (cfgTok x (cfgP x).toNat)=true:=by
  have:=tokGo_map (tokAt x) (fun i j h=>by simp only[tokAt]at h;omega) (fun i hi=>Q0s (by simp only[tokAt];omega)) (cfgP x).toNat 0 (by omega)
  simpa[cfgTok,List.range_eq_range']using this
 have hr:=K1r x.Rules.l
 have hlen:decide (((cfgTok x (cfgP x).toNat).length:Int)=cfgP x)=true:=by rw[K05];simp;omega
 simp only[legalC,cfgOf,cfgWith,Bool.and_eq_true,partL_l]
 exact⟨⟨⟨⟨⟨Q0s hP,⟨⟨⟨Q0s (by omega),Q0s (by omega)⟩,Q0s (by omega)⟩,Q0s (by omega)⟩⟩,Q0s (by omega)⟩,hb⟩,hr⟩,ht,hlen⟩
theorem cfg_len(x:V0a): (cfgOf x).Tokens.l.length<=1000000/\(cfgOf x).Rules.l.length<=1000000:=by
 have hP:=K06 x
 simp only[cfgOf,cfgWith,partL_l,K05]
 refine⟨by omega,?_⟩
 simp[rulesOf];omega
theorem rowsOf_len(players:Int)(l:List (Lst Int)): (rowsOf players l).length<=40:=by simp[rowsOf];omega
theorem shapes_s{α:Type}{f:α->CV}{sh:Shape}(h:∀x,(f x).shape=sh)(l:List α): (l.map f).all (fun v=>decide (v.shape=sh))=true:=by
 simp[h]
def bindE{α β:Type}(r:Except Int (α×Nat))(f:α->Nat->Except Int (β×Nat)): Except Int (β×Nat):=match r with|.ok (x,a)=>f x a|.error e=>.error e
def At(b:List Int)(a:Nat)(l:List Bool): Prop:=a+l.length<=8*b.length/\∀i,i<l.length->bitB b (a+i)=gb l i
theorem At.left{b:List Int}{a:Nat}{l m:List Bool}(h:At b a (l++m)): At b a l:=by
 have h1:=h.1
 rw[List.length_append]at h1
 refine⟨by omega,fun i hi=>?_⟩
 have:=h.2 i (by rw[List.length_append];omega)
 rw[gb_app,if_pos hi]at this;exact this
theorem At.right{b:List Int}{a:Nat}{l m:List Bool}(h:At b a (l++m)): At b (a+l.length) m:=by
 have h1:=h.1
 rw[List.length_append]at h1
 refine⟨by omega,fun i hi=>?_⟩
 have:=h.2 (l.length+i) (by rw[List.length_append];omega)
 rw[gb_app,if_neg (by omega),Nat.add_sub_cancel_left]at this
 rw[Nat.add_assoc];exact this
end Go.Proofs.Ytpchcfkebljopaa
end
section
namespace Go.Proofs.Ytpchcfkebljopaa
open Go.Cl Go Go.RowKit
set_option maxRecDepth 100000
set_option linter.constructorNameAsVariable false
end Go.Proofs.Ytpchcfkebljopaa
end
section
namespace Go.Proofs.Ytpchcfkebljopaa
open Go.Cl Go Go.RowKit
end Go.Proofs.Ytpchcfkebljopaa
end
section
namespace Go.Proofs.Ytpchcfkebljopaa
open Go.Cl Go Go.RowKit
set_option maxRecDepth 100000
set_option linter.constructorNameAsVariable false
end Go.Proofs.Ytpchcfkebljopaa
end
section
namespace Go.Proofs.Ytpchcfkebljopaa
open Go.Cl Go Go.RowKit
set_option maxRecDepth 100000
def zn32_1:=ZC.reg [zu 2 (.box 61 (Tm 0)),zv 4 (.alloc 66)]
def zn32_3:=ZC.draw 9 [] [zdd 0 5 (zld 61 2) false [] [2,6] false,zdd 1 6 (zld 61 2) false [] [] false,zdd 2 7 (zcf 66 [Tm 6] [61]) false [] [] true,zdd 3 8 (zfa 61 2 0) false [2] [] false,zdd 4 9 (zld 3 8) false [2] [] false,zdd 5 10 (zmv 1) true [] [] false,zdd 6 11 (zcf 61 [Tm 9,Tm 10] [3,58]) true [] [] false,zdd 7 12 (zcf 87 [Tm 5,Tm 7,Tm 11] [61,66,92]) true [] [] false,zd0 8 (.store 66 (Tm 4) (Tm 12)) true [] [] false]
def zn32_0:=ZC.seq zn32_1 (ZC.seq zn32_3 ZC.ret)
def zc32: ZC:=zn32_0
theorem zc32_ok: zcode (xfOf Try.f32).code=some zc32:=by kernel_rfl
def zw32:=zU C zc32.eq_1<|zU C zn32_1.eq_1<|zU C zn32_3.eq_1<|(zunf C zn32_0.eq_1)
theorem rs32: (xfOf Try.f32).rs=[.cell 4 66]:=by kernel_rfl
def xf32:=zF C 32 Try.f32
def zn67_1:=ZC.reg [zu 3 (.box 61 (Tm 0)),zu 4 (.box 66 (Tm 1)),zv 6 (.alloc 66)]
def zn67_4:=ZC.reg [zu 24 (zld 61 3),zu 25 (zld 66 4),zu 26 (zcf 38 [Tm 24,Tm 25] [61,66]),zv 27 (.unOp .not 4 (Tm 26))]
def zn67_7:=ZC.reg [⟨some 28,.build 66 ⟨[]⟩,none,false⟩,zv0 (.store 66 (Tm 6) (Tm 28))]
def zn67_9:=ZC.reg [zu 29 (zfa 66 4 2),zu 30 (zld 63 29),zu 7 (.alloc 63),zv0 (.store 63 (Tm 7) (Tm 30))]
def zn67_11:=ZC.reg [zv 8 (.assign (.const (.slice none 0 0)))]
def zn67_14:=ZC.reg [zv 9 (.assign (Kn 0))]
def zn67_19:=ZC.reg [zu 31 (zmv 9),zv 32 (.binOp .lss 3 (Tm 31) (Kn 16) 3)]
def zn67_24:=ZC.reg [zu 35 (zmv 9),zu 36 (zia 63 7 35),zu 37 (zld 34 36),zu 10 (.alloc 34),zv0 (.store 34 (Tm 10) (Tm 37))]
def zn67_27:=ZC.reg [zu 38 (zfa 34 10 0),zu 39 (zld 3 38),zv 40 (.binOp .eql 3 (Tm 39) (Kn 1) 3)]
def zn67_30:=ZC.reg [zu 41 (zmv 2),zu 42 (zfa 34 10 1),zu 43 (zld 3 42),zu 44 (zcf 143 [Tm 41,Tm 43] [108,3]),zu 11 (.alloc 36),zv0 (.store 36 (Tm 11) (Tm 44))]
def zn67_32:=ZC.draw 30 [(25,.alloc 51)] [zdd 0 46 (zfa 61 3 8) false [] [9,14] false,zdd 1 47 (zld 23 46) false [] [9,14] false,zdd 2 48 (zld 34 10) false [] [] false,zdd 3 49 (zfa 36 11 1) false [] [] false,zdd 4 50 (zld 3 49) false [] [] false,zdd 5 51 (.binOp .quo 3 (Tm 50) (Kn 16) 3) false [] [] false,zdd 6 52 (zfa 36 11 2) false [] [] false,zdd 7 53 (zld 3 52) false [] [] false,zdd 8 54 (.binOp .quo 3 (Tm 53) (Kn 16) 3) false [] [] false,zdd 9 55 (zcf 144 [Tm 48,Tm 51,Tm 54] [34,3,3]) false [] [] true,zdd 10 56 (zld 36 11) false [9] [14] false,zdd 11 57 (zfa 66 4 1) false [9] [14] false,zdd 12 58 (zld 25 57) false [9] [14] false,zdd 13 59 (zld 66 4) false [9] [] false,zdd 14 60 (zcf 145 [Tm 59] [66]) false [] [] true,zdd 15 61 (zmv 8) false [] [] false,zdd 16 62 (zcb .len [Tm 61] [37]) false [9,14] [] false,zdd 17 63 (.binOp .sub 3 (Tm 60) (Tm 62) 3) false [] [] false,⟨18,some 64,.build 51 ⟨[(0,.tmp 55),(1,.tmp 56),(2,.tmp 58),(3,.tmp 63)]⟩,none,false,[],[],false⟩,zdd 19 65 (zcf 28 [Tm 47,Tm 64] [23,51]) false [] [] true,zdd 20 45 (zmv 65) false [] [] false,zdd 21 66 (.extract (Tm 45) 0) false [] [] false,zdd 22 67 (.extract (Tm 45) 1) false [] [] false,zdd 23 68 (.extract (Tm 45) 2) false [] [] false,zdd 24 69 (.extract (Tm 45) 3) false [] [] false,zdd 25 12 (.alloc 51) true [9,14,19] [] false,zd0 26 (.store 51 (Tm 12) (Tm 66)) true [] [] false,zdd 27 13 (zas 67) true [] [] false,zdd 28 14 (zas 68) true [] [] false,zdd 29 15 (zas 69) true [] [] false]
def zn67_34:=ZC.reg [zv 70 (zmv 15)]
def zn67_37:=ZC.reg [zu 71 (zfa 51 12 0),zu 72 (zld 34 71),zv0 (.store 34 (Tm 10) (Tm 72))]
def zn67_39:=ZC.reg [zu 73 (zfa 51 12 2),zu 74 (zld 25 73),zu 75 (zfa 66 4 1),zv0 (.store 25 (Tm 75) (Tm 74))]
def zn67_40:=ZC.reg [zu 76 (zmv 8),zu 77 (zfa 51 12 4),zu 78 (zld 37 77),zu 79 (zcb .append [Tm 76,Tm 78] [37,37]),zv 8 (zas 79)]
def zn67_41:=ZC.reg [zu 80 (zfa 34 10 8),zu 81 (zld 3 80),zu 82 (.binOp .add 3 (Tm 81) (Kn 1) 3),zu 83 (zcb .min [Kn 65535,Tm 82] [3,3]),zu 84 (zfa 34 10 8),zv0 (.store 3 (Tm 84) (Tm 83))]
def zn67_42:=ZC.reg [zu 86 (zmv 9),zu 87 (zld 34 10),zu 88 (zcf 146 [Tm 87] [34]),zu 85 (zmv 88),zu 89 (.extract (Tm 85) 0),zu 90 (.extract (Tm 85) 1),zu 91 (zfa 66 4 2),zu 92 (zia 63 91 86),zv0 (.store 34 (Tm 92) (Tm 89))]
def zn67_43:=ZC.reg [zu 33 (zmv 9),zu 34 (.binOp .add 3 (Tm 33) (Kn 1) 3),zv 9 (zas 34)]
def Y1x:=ZC.seq (ZC.seq zn67_19 (ZC.cond (Tm 32) ZC.skip (ZC.exit 0))) (ZC.seq (ZC.block 1 (ZC.seq zn67_24 (ZC.seq (ZC.seq zn67_27 (ZC.cond (Tm 40) (ZC.seq zn67_30 (ZC.seq zn67_32 (ZC.seq zn67_34 (ZC.cond (Tm 70) (ZC.seq zn67_37 (ZC.seq zn67_39 zn67_40)) zn67_41)))) ZC.skip)) zn67_42))) zn67_43)
def zn67_46:=ZC.reg [zv 16 (.assign (Kn 0))]
def zn67_51:=ZC.reg [zu 93 (zmv 16),zu 94 (zmv 8),zu 95 (zcb .len [Tm 94] [37]),zv 96 (.binOp .lss 3 (Tm 93) (Tm 95) 3)]
def zn67_56:=ZC.reg [zv 17 (.assign (.const (.bool false)))]
def zn67_58:=ZC.reg [zv 18 (.assign (Kn 0))]
def zn67_63:=ZC.reg [zu 99 (zmv 18),zu 100 (.binOp .lss 3 (Tm 99) (Kn 16) 3),zu 101 (zmv 100),zug 102 (zmv 17) 101 true false,zug 103 (.unOp .not 4 (Tm 102)) 101 true false,zv 104 (.pick (Tm 101) (Tm 103) (.const (.bool false)))]
def zn67_68:=ZC.reg [zu 107 (zmv 18),zu 108 (zfa 66 4 2),zu 109 (zia 63 108 107),zu 110 (zfa 34 109 0),zu 111 (zld 3 110),zv 112 (.binOp .eql 3 (Tm 111) (Kn 0) 3)]
def zn67_71:=ZC.reg [zu 113 (zmv 18),zu 114 (zmv 8),zu 115 (zmv 16),zu 116 (zia 37 114 115),zu 117 (zld 34 116),zu 118 (zfa 66 4 2),zu 119 (zia 63 118 113),zv0 (.store 34 (Tm 119) (Tm 117))]
def zn67_72:=ZC.reg [zv 17 (.assign (.const (.bool true)))]
def zn67_73:=ZC.reg [zu 105 (zmv 18),zu 106 (.binOp .add 3 (Tm 105) (Kn 1) 3),zv 18 (zas 106)]
def K1t:=ZC.seq (ZC.seq zn67_63 (ZC.cond (Tm 104) ZC.skip (ZC.exit 4))) (ZC.seq (ZC.block 5 (ZC.seq zn67_68 (ZC.cond (Tm 112) (ZC.seq zn67_71 zn67_72) ZC.skip))) zn67_73)
def zn67_74:=ZC.reg [zu 97 (zmv 16),zu 98 (.binOp .add 3 (Tm 97) (Kn 1) 3),zv 16 (zas 98)]
def Q1s:=ZC.seq (ZC.seq zn67_51 (ZC.cond (Tm 96) ZC.skip (ZC.exit 2))) (ZC.seq (ZC.block 3 (ZC.seq zn67_56 (ZC.seq zn67_58 (ZC.block 4 (ZC.loop K1t))))) zn67_74)
def zn67_77:=ZC.reg [zv 19 (.assign (Kn 0))]
def zn67_82:=ZC.reg [zu 120 (zmv 19),zv 121 (.binOp .lss 3 (Tm 120) (Kn 16) 3)]
def zn67_87:=ZC.reg [zv 20 (.assign (Kn 0))]
def zn67_92:=ZC.reg [zu 124 (zmv 20),zu 125 (.binOp .lss 3 (Tm 124) (Kn 16) 3),zu 126 (zmv 125),zug 127 (zmv 19) 126 true false,zug 128 (zfa 66 4 2) 126 true false,zug 129 (zia 63 128 127) 126 true false,zug 130 (zfa 34 129 0) 126 true false,zug 131 (zld 3 130) 126 true false,zug 132 (.binOp .eql 3 (Tm 131) (Kn 2) 3) 126 true false,zv 133 (.pick (Tm 126) (Tm 132) (.const (.bool false)))]
def zn67_97:=ZC.reg [zu 136 (zmv 20),zu 137 (zfa 66 4 2),zu 138 (zia 63 137 136),zu 139 (zld 34 138),zu 21 (.alloc 34),zv0 (.store 34 (Tm 21) (Tm 139))]
def zn67_99:=ZC.draw 11 [] [zdd 0 140 (zfa 34 21 0) true [] [] false,zdd 1 141 (zld 3 140) true [] [] false,zdd 2 142 (.binOp .eql 3 (Tm 141) (Kn 1) 3) true [] [] false,zdd 3 143 (zmv 142) true [] [] false,⟨4,some 144,zmv 19,some (143,true),false,[],[],false⟩,⟨5,some 145,zfa 66 4 2,some (143,true),false,[],[],false⟩,⟨6,some 146,zia 63 145 144,some (143,true),false,[],[],false⟩,⟨7,some 147,zld 34 146,some (143,true),false,[],[],false⟩,⟨8,some 148,zld 34 21,some (143,true),true,[],[],false⟩,⟨9,some 149,zcf 147 [Tm 147,Tm 148] [34,34],some (143,true),true,[],[],false⟩,zdd 10 150 (.pick (Tm 143) (Tm 149) (.const (.bool false))) true [] [] false]
def zn67_102:=ZC.reg [zu 151 (zmv 19),zu 152 (zfa 66 4 2),zu 153 (zia 63 152 151),zu 154 (zfa 34 153 1),zu 155 (zld 3 154),zv 22 (zas 155)]
def zn67_104:=ZC.reg [zu 156 (zmv 22),zu 157 (zmv 22),zu 158 (zfa 66 4 3),zu 159 (zia 64 158 157),zu 160 (zld 3 159),zu 161 (.binOp .add 3 (Tm 160) (Kn 1) 3),zu 162 (zcb .min [Kn 2147483647,Tm 161] [3,3]),zu 163 (zfa 66 4 3),zu 164 (zia 64 163 156),zv0 (.store 3 (Tm 164) (Tm 162))]
def zn67_106:=ZC.reg [zu 165 (zmv 19),⟨some 166,.build 34 ⟨[]⟩,none,false⟩,zu 167 (zfa 66 4 2),zu 168 (zia 63 167 165),zv0 (.store 34 (Tm 168) (Tm 166))]
def zn67_108:=ZC.reg [zu 169 (zfa 34 21 1),zu 170 (zld 3 169),zu 171 (zfa 61 3 0),zu 172 (zld 3 171),zu 173 (zcf 142 [Tm 170,Tm 172] [3,3]),zu 23 (.alloc 34),zv0 (.store 34 (Tm 23) (Tm 173))]
def zn67_110:=ZC.reg [zu 174 (zfa 34 21 8),zu 175 (zld 3 174),zu 176 (zfa 34 23 8),zv0 (.store 3 (Tm 176) (Tm 175))]
def zn67_111:=ZC.reg [zu 177 (zmv 20),zu 178 (zld 34 23),zu 179 (zfa 66 4 2),zu 180 (zia 63 179 177),zv0 (.store 34 (Tm 180) (Tm 178))]
def zn67_112:=ZC.reg [zu 134 (zmv 20),zu 135 (.binOp .add 3 (Tm 134) (Kn 1) 3),zv 20 (zas 135)]
def X1v:=ZC.seq (ZC.seq zn67_92 (ZC.cond (Tm 133) ZC.skip (ZC.exit 8))) (ZC.seq (ZC.block 9 (ZC.seq zn67_97 (ZC.seq zn67_99 (ZC.cond (Tm 150) (ZC.seq zn67_102 (ZC.seq zn67_104 (ZC.seq zn67_106 (ZC.seq zn67_108 (ZC.seq zn67_110 zn67_111))))) ZC.skip)))) zn67_112)
def zn67_113:=ZC.reg [zu 122 (zmv 19),zu 123 (.binOp .add 3 (Tm 122) (Kn 1) 3),zv 19 (zas 123)]
def Q1v:=ZC.seq (ZC.seq zn67_82 (ZC.cond (Tm 121) ZC.skip (ZC.exit 6))) (ZC.seq (ZC.block 7 (ZC.seq zn67_87 (ZC.block 8 (ZC.loop X1v)))) zn67_113)
def zn67_115:=ZC.reg [zu 181 (zfa 66 4 0),zu 182 (zld 3 181),zu 183 (.binOp .add 3 (Tm 182) (Kn 1) 3),zu 184 (zcb .min [Kn 600,Tm 183] [3,3]),zu 185 (zfa 66 4 0),zv0 (.store 3 (Tm 185) (Tm 184))]
def zn67_117:=ZC.reg [zu 186 (zld 66 4),zv0 (.store 66 (Tm 6) (Tm 186))]
def zn67_0:=ZC.seq zn67_1 (ZC.seq (ZC.seq zn67_4 (ZC.cond (Tm 27) (ZC.seq zn67_7 ZC.ret) ZC.skip)) (ZC.seq zn67_9 (ZC.seq zn67_11 (ZC.seq (ZC.seq zn67_14 (ZC.block 0 (ZC.loop Y1x))) (ZC.seq (ZC.seq zn67_46 (ZC.block 2 (ZC.loop Q1s))) (ZC.seq (ZC.seq zn67_77 (ZC.block 6 (ZC.loop Q1v))) (ZC.seq zn67_115 (ZC.seq zn67_117 ZC.ret))))))))
def zc67: ZC:=zn67_0
theorem zc67_ok: zcode (xfOf Try.f67).code=some zc67:=by kernel_rfl
def zw67:=zU C zc67.eq_1<|zU C zn67_1.eq_1<|zU C zn67_4.eq_1<|zU C zn67_7.eq_1<|zU C zn67_9.eq_1<|zU C zn67_11.eq_1<|zU C zn67_14.eq_1<|zU C zn67_19.eq_1<|zU C zn67_24.eq_1<|zU C zn67_27.eq_1<|zU C zn67_30.eq_1<|zU C zn67_32.eq_1<|zU C zn67_34.eq_1<|zU C zn67_37.eq_1<|zU C zn67_39.eq_1<|zU C zn67_40.eq_1<|zU C zn67_41.eq_1<|zU C zn67_42.eq_1<|zU C zn67_43.eq_1<|zU C Y1x.eq_1<|zU C zn67_46.eq_1<|zU C zn67_51.eq_1<|zU C zn67_56.eq_1<|zU C zn67_58.eq_1<|zU C zn67_63.eq_1<|zU C zn67_68.eq_1<|zU C zn67_71.eq_1<|zU C zn67_72.eq_1<|zU C zn67_73.eq_1<|zU C K1t.eq_1<|zU C zn67_74.eq_1<|zU C Q1s.eq_1<|zU C zn67_77.eq_1<|zU C zn67_82.eq_1<|zU C zn67_87.eq_1<|zU C zn67_92.eq_1<|zU C zn67_97.eq_1<|zU C zn67_99.eq_1<|zU C zn67_102.eq_1<|zU C zn67_104.eq_1<|zU C zn67_106.eq_1<|zU C zn67_108.eq_1<|zU C zn67_110.eq_1<|zU C zn67_111.eq_1<|zU C zn67_112.eq_1<|zU C X1v.eq_1<|zU C zn67_113.eq_1<|zU C Q1v.eq_1<|zU C zn67_115.eq_1<|zU C zn67_117.eq_1<|(zunf C zn67_0.eq_1)
theorem rs67: (xfOf Try.f67).rs=[.cell 6 66]:=by kernel_rfl
def xf67:=zF C 67 Try.f67
def zn87_1:=ZC.reg [zu 3 (.box 61 (Tm 0)),zu 4 (.box 66 (Tm 1)),zv 6 (.alloc 66)]
def zn87_4:=ZC.reg [zv 7 (.assign (Kn 0))]
def zn87_9:=ZC.reg [zu 8 (zmv 7),zu 9 (zmv 2),zu 10 (zcb .len [Tm 9] [92]),zv 11 (.binOp .lss 3 (Tm 8) (Tm 10) 3)]
def zn87_13:=ZC.draw 8 [] [zdd 0 14 (zld 61 3) false [] [] false,zdd 1 15 (zld 66 4) false [] [] false,zdd 2 16 (zmv 2) false [] [] false,zdd 3 17 (zmv 7) true [] [] false,zdd 4 18 (zia 92 16 17) true [] [] false,zdd 5 19 (zld 108 18) true [] [] false,zdd 6 20 (zcf 67 [Tm 14,Tm 15,Tm 19] [61,66,108]) true [] [] false,zd0 7 (.store 66 (Tm 4) (Tm 20)) true [] [] false]
def zn87_14:=ZC.reg [zu 12 (zmv 7),zu 13 (.binOp .add 3 (Tm 12) (Kn 1) 3),zv 7 (zas 13)]
def zn87_7:=ZC.seq (ZC.seq zn87_9 (ZC.cond (Tm 11) ZC.skip (ZC.exit 0))) (ZC.seq (ZC.block 1 zn87_13) zn87_14)
def zn87_16:=ZC.reg [zu 21 (zld 66 4),zv0 (.store 66 (Tm 6) (Tm 21))]
def zn87_0:=ZC.seq zn87_1 (ZC.seq (ZC.seq zn87_4 (ZC.block 0 (ZC.loop zn87_7))) (ZC.seq zn87_16 ZC.ret))
def zc87: ZC:=zn87_0
theorem zc87_ok: zcode (xfOf Try.f87).code=some zc87:=by kernel_rfl
def zw87:=zU C zc87.eq_1<|zU C zn87_1.eq_1<|zU C zn87_4.eq_1<|zU C zn87_9.eq_1<|zU C zn87_13.eq_1<|zU C zn87_14.eq_1<|zU C zn87_7.eq_1<|zU C zn87_16.eq_1<|(zunf C zn87_0.eq_1)
theorem rs87: (xfOf Try.f87).rs=[.cell 6 66]:=by kernel_rfl
def xf87:=zF C 87 Try.f87
def zn141_1:=ZC.reg [zv 2 (.assign (.const (.int .u64 0)))]
def zn141_3:=ZC.reg [zu 3 (zmv 0),zu 4 (.convert 3 25 (Tm 3)),zu 5 (.binOp .mul 25 (Tm 4) (.const (.int .u64 2)) 25),zu 6 (.binOp .add 25 (Tm 5) (.const (.int .u64 1)) 25),zv 2 (zas 6)]
def zn141_0:=ZC.seq zn141_1 (ZC.seq zn141_3 ZC.ret)
def zc141: ZC:=zn141_0
theorem zc141_ok: zcode (xfOf Try.f141).code=some zc141:=by kernel_rfl
def zw141:=zU C zc141.eq_1<|zU C zn141_1.eq_1<|zU C zn141_3.eq_1<|(zunf C zn141_0.eq_1)
theorem rs141: (xfOf Try.f141).rs=[.tmp 2]:=by kernel_rfl
def xf141:=zF C 141 Try.f141
def zn162_1:=ZC.reg [zv 4 (.assign (.const (.bool false)))]
def zn162_3:=ZC.reg [zu 5 (zmv 0),zu 6 (.binOp .geq 59 (Tm 5) (.const (.float .f64 0)) 59),zu 7 (zmv 6),zug 8 (zmv 0) 7 true false,zug 9 (.binOp .leq 59 (Tm 8) (.const (.float .f64 9218868437227405311)) 59) 7 true false,zu 10 (.pick (Tm 7) (Tm 9) (.const (.bool false))),zu 11 (zmv 10),zug 12 (zmv 1) 11 true false,zug 13 (.binOp .geq 59 (Tm 12) (.const (.float .f64 4607182418800017408)) 59) 11 true false,zu 14 (.pick (Tm 11) (Tm 13) (.const (.bool false))),zu 15 (zmv 14),zug 16 (zmv 1) 15 true false,zug 17 (.binOp .leq 59 (Tm 16) (.const (.float .f64 4652007308841189376)) 59) 15 true false,zu 18 (.pick (Tm 15) (Tm 17) (.const (.bool false))),zv 4 (zas 18)]
def zn162_0:=ZC.seq zn162_1 (ZC.seq zn162_3 ZC.ret)
def zc162: ZC:=zn162_0
theorem zc162_ok: zcode (xfOf Try.f162).code=some zc162:=by kernel_rfl
def zw162:=zU C zc162.eq_1<|zU C zn162_1.eq_1<|zU C zn162_3.eq_1<|(zunf C zn162_0.eq_1)
theorem rs162: (xfOf Try.f162).rs=[.tmp 4]:=by kernel_rfl
def xf162:=zF C 162 Try.f162
def zn180_1:=ZC.reg [zv 4 (.assign (.const (.bool false)))]
def zn180_3:=ZC.reg [zu 5 (zmv 0),zu 6 (zmv 1),zu 7 (.binOp .sub 3 (Tm 5) (Tm 6) 3),zu 8 (.binOp .leq 3 (Tm 7) (Kn 32) 3),zu 9 (zmv 8),zug 10 (zmv 1) 9 true false,zug 11 (zmv 0) 9 true false,zug 12 (.binOp .sub 3 (Tm 10) (Tm 11) 3) 9 true false,zug 13 (.binOp .leq 3 (Tm 12) (Kn 32) 3) 9 true false,zu 14 (.pick (Tm 9) (Tm 13) (.const (.bool false))),zv 4 (zas 14)]
def zn180_0:=ZC.seq zn180_1 (ZC.seq zn180_3 ZC.ret)
def zc180: ZC:=zn180_0
theorem zc180_ok: zcode (xfOf Try.f180).code=some zc180:=by kernel_rfl
def zw180:=zU C zc180.eq_1<|zU C zn180_1.eq_1<|zU C zn180_3.eq_1<|(zunf C zn180_0.eq_1)
theorem rs180: (xfOf Try.f180).rs=[.tmp 4]:=by kernel_rfl
def xf180:=zF C 180 Try.f180
def zn142_1:=ZC.reg [zv 4 (.alloc 34)]
def zn142_3:=ZC.reg [zu 5 (zmv 1),zu 6 (zcf 80 [Tm 5,Kn 1,Kn 8] [3,3,3]),zv 1 (zas 6)]
def zn142_5:=ZC.reg [zu 7 (zmv 0),zu 8 (zmv 1),zu 9 (.binOp .sub 3 (Tm 8) (Kn 1) 3),zu 10 (zcf 80 [Tm 7,Kn 0,Tm 9] [3,3,3]),zv 0 (zas 10)]
def zn142_7:=ZC.reg [zu 11 (zmv 0),zu 12 (zmv 0),zu 13 (.binOp .mul 3 (Kn 2) (Tm 12) 3),zu 14 (.binOp .add 3 (Tm 13) (Kn 1) 3),zu 15 (.binOp .mul 3 (Tm 14) (Kn 4096) 3),zu 16 (zmv 1),zu 17 (.binOp .mul 3 (Kn 2) (Tm 16) 3),zu 18 (.binOp .quo 3 (Tm 15) (Tm 17) 3),⟨some 19,.build 34 ⟨[(0,.const (.int .i64 1)),(1,.tmp 11),(2,.tmp 18),(3,.const (.int .i64 2048))]⟩,none,false⟩,zv0 (.store 34 (Tm 4) (Tm 19))]
def zn142_0:=ZC.seq zn142_1 (ZC.seq zn142_3 (ZC.seq zn142_5 (ZC.seq zn142_7 ZC.ret)))
def zc142: ZC:=zn142_0
theorem zc142_ok: zcode (xfOf Try.f142).code=some zc142:=by kernel_rfl
def zw142:=zU C zc142.eq_1<|zU C zn142_1.eq_1<|zU C zn142_3.eq_1<|zU C zn142_5.eq_1<|zU C zn142_7.eq_1<|(zunf C zn142_0.eq_1)
theorem rs142: (xfOf Try.f142).rs=[.cell 4 34]:=by kernel_rfl
def xf142:=zF C 142 Try.f142
def zn143_1:=ZC.reg [zv 4 (.alloc 36)]
def zn143_4:=ZC.reg [zu 6 (zmv 1),zu 7 (zmv 0),zu 8 (zcb .len [Tm 7] [108]),zv 9 (.binOp .geq 3 (Tm 6) (Tm 8) 3)]
def zn143_7:=ZC.reg [⟨some 10,.build 36 ⟨[]⟩,none,false⟩,zv0 (.store 36 (Tm 4) (Tm 10))]
def zn143_9:=ZC.reg [zu 11 (zmv 0),zu 12 (zmv 1),zu 13 (zia 108 11 12),zu 14 (zfa 110 13 1),zu 15 (zld 36 14),zu 5 (.alloc 36),zv0 (.store 36 (Tm 5) (Tm 15))]
def zn143_11:=ZC.draw 11 [] [zdd 0 16 (zfa 36 5 0) false [] [] false,zdd 1 17 (zld 3 16) false [] [] false,zdd 2 18 (zcf 80 [Tm 17,Kn 0,Kn 255] [3,3,3]) false [] [] true,zdd 3 19 (zfa 36 5 1) false [2] [] false,zdd 4 20 (zld 3 19) false [2] [] false,zdd 5 21 (zcf 80 [Tm 20,Kn (-64),Kn 64] [3,3,3]) false [] [] true,zdd 6 22 (zfa 36 5 2) true [2,5] [] false,zdd 7 23 (zld 3 22) true [2,5] [] false,zdd 8 24 (zcf 80 [Tm 23,Kn (-64),Kn 64] [3,3,3]) true [] [] false,⟨9,some 25,.build 36 ⟨[(0,.tmp 18),(1,.tmp 21),(2,.tmp 24)]⟩,none,true,[],[],false⟩,zd0 10 (.store 36 (Tm 4) (Tm 25)) true [] [] false]
def zn143_0:=ZC.seq zn143_1 (ZC.seq (ZC.seq zn143_4 (ZC.cond (Tm 9) (ZC.seq zn143_7 ZC.ret) ZC.skip)) (ZC.seq zn143_9 (ZC.seq zn143_11 ZC.ret)))
def zc143: ZC:=zn143_0
theorem zc143_ok: zcode (xfOf Try.f143).code=some zc143:=by kernel_rfl
def zw143:=zU C zc143.eq_1<|zU C zn143_1.eq_1<|zU C zn143_4.eq_1<|zU C zn143_7.eq_1<|zU C zn143_9.eq_1<|zU C zn143_11.eq_1<|(zunf C zn143_0.eq_1)
theorem rs143: (xfOf Try.f143).rs=[.cell 4 36]:=by kernel_rfl
def xf143:=zF C 143 Try.f143
def zn145_1:=ZC.reg [zu 1 (.box 66 (Tm 0)),zv 2 (.assign (Kn 0))]
def zn145_3:=ZC.reg [zv 3 (.assign (Kn 0))]
def zn145_6:=ZC.reg [zv 4 (.assign (Kn 0))]
def zn145_11:=ZC.reg [zu 5 (zmv 4),zv 6 (.binOp .lss 3 (Tm 5) (Kn 16) 3)]
def zn145_16:=ZC.reg [zu 9 (zmv 4),zu 10 (zfa 66 1 2),zu 11 (zia 63 10 9),zu 12 (zfa 34 11 0),zu 13 (zld 3 12),zv 14 (.binOp .eql 3 (Tm 13) (Kn 0) 3)]
def zn145_18:=ZC.reg [zu 15 (zmv 3),zu 16 (.binOp .add 3 (Tm 15) (Kn 1) 3),zv 3 (zas 16)]
def zn145_19:=ZC.reg [zu 7 (zmv 4),zu 8 (.binOp .add 3 (Tm 7) (Kn 1) 3),zv 4 (zas 8)]
def Z1u:=ZC.seq (ZC.seq zn145_11 (ZC.cond (Tm 6) ZC.skip (ZC.exit 0))) (ZC.seq (ZC.block 1 (ZC.seq zn145_16 (ZC.cond (Tm 14) zn145_18 ZC.skip))) zn145_19)
def zn145_21:=ZC.reg [zu 17 (zmv 3),zv 2 (zas 17)]
def zn145_0:=ZC.seq zn145_1 (ZC.seq zn145_3 (ZC.seq (ZC.seq zn145_6 (ZC.block 0 (ZC.loop Z1u))) (ZC.seq zn145_21 ZC.ret)))
def zc145: ZC:=zn145_0
theorem zc145_ok: zcode (xfOf Try.f145).code=some zc145:=by kernel_rfl
def zw145:=zU C zc145.eq_1<|zU C zn145_1.eq_1<|zU C zn145_3.eq_1<|zU C zn145_6.eq_1<|zU C zn145_11.eq_1<|zU C zn145_16.eq_1<|zU C zn145_18.eq_1<|zU C zn145_19.eq_1<|zU C Z1u.eq_1<|zU C zn145_21.eq_1<|(zunf C zn145_0.eq_1)
theorem rs145: (xfOf Try.f145).rs=[.tmp 2]:=by kernel_rfl
def xf145:=zF C 145 Try.f145
def zn144_1:=ZC.reg [zu 3 (.box 34 (Tm 0)),zv 6 (.alloc 34)]
def zn144_4:=ZC.reg [zu 7 (zld 34 3),zu 8 (zcf 75 [Tm 7] [34]),zu 9 (.unOp .not 4 (Tm 8)),zu 10 (zmv 9),zug 11 (zfa 34 3 0) 10 false false,zug 12 (zld 3 11) 10 false false,zug 13 (.binOp .eql 3 (Tm 12) (Kn 0) 3) 10 false false,zv 14 (.pick (Tm 10) (.const (.bool true)) (Tm 13))]
def zn144_7:=ZC.reg [⟨some 15,.build 34 ⟨[]⟩,none,false⟩,zv0 (.store 34 (Tm 6) (Tm 15))]
def zn144_9:=ZC.draw 8 [] [zdd 0 16 (zfa 34 3 4) false [] [3] false,zdd 1 17 (zld 3 16) false [] [3] false,zdd 2 18 (zmv 1) true [] [] false,zdd 3 19 (zcf 80 [Tm 18,Kn (-1000),Kn 1000] [3,3,3]) true [] [] false,zdd 4 20 (.binOp .add 3 (Tm 17) (Tm 19) 3) true [] [] false,zdd 5 21 (zcf 80 [Tm 20,Kn (-64),Kn 64] [3,3,3]) true [] [] false,zdd 6 22 (zfa 34 3 4) true [] [] false,zd0 7 (.store 3 (Tm 22) (Tm 21)) true [] [] false]
def zn144_11:=ZC.draw 8 [] [zdd 0 23 (zfa 34 3 5) false [] [3] false,zdd 1 24 (zld 3 23) false [] [3] false,zdd 2 25 (zmv 2) true [] [] false,zdd 3 26 (zcf 80 [Tm 25,Kn (-1000),Kn 1000] [3,3,3]) true [] [] false,zdd 4 27 (.binOp .add 3 (Tm 24) (Tm 26) 3) true [] [] false,zdd 5 28 (zcf 80 [Tm 27,Kn (-64),Kn 64] [3,3,3]) true [] [] false,zdd 6 29 (zfa 34 3 5) true [] [] false,zd0 7 (.store 3 (Tm 29) (Tm 28)) true [] [] false]
def zn144_13:=ZC.reg [zu 30 (zld 34 3),zv0 (.store 34 (Tm 6) (Tm 30))]
def zn144_0:=ZC.seq zn144_1 (ZC.seq (ZC.seq zn144_4 (ZC.cond (Tm 14) (ZC.seq zn144_7 ZC.ret) ZC.skip)) (ZC.seq zn144_9 (ZC.seq zn144_11 (ZC.seq zn144_13 ZC.ret))))
def zc144: ZC:=zn144_0
theorem zc144_ok: zcode (xfOf Try.f144).code=some zc144:=by kernel_rfl
def zw144:=zU C zc144.eq_1<|zU C zn144_1.eq_1<|zU C zn144_4.eq_1<|zU C zn144_7.eq_1<|zU C zn144_9.eq_1<|zU C zn144_11.eq_1<|zU C zn144_13.eq_1<|(zunf C zn144_0.eq_1)
theorem rs144: (xfOf Try.f144).rs=[.cell 6 34]:=by kernel_rfl
def xf144:=zF C 144 Try.f144
def zn146_1:=ZC.reg [zu 1 (.box 34 (Tm 0)),zu 2 (.alloc 34),zv 3 (.assign (.const (.bool false)))]
def zn146_4:=ZC.reg [zu 6 (zld 34 1),zu 7 (zcf 75 [Tm 6] [34]),zu 8 (.unOp .not 4 (Tm 7)),zu 9 (zmv 8),zug 10 (zfa 34 1 0) 9 false false,zug 11 (zld 3 10) 9 false false,zug 12 (.binOp .eql 3 (Tm 11) (Kn 0) 3) 9 false false,zv 13 (.pick (Tm 9) (.const (.bool true)) (Tm 12))]
def zn146_7:=ZC.reg [⟨some 14,.build 34 ⟨[]⟩,none,false⟩,zu0 (.store 34 (Tm 2) (Tm 14)),zv 3 (.assign (.const (.bool false)))]
def zn146_9:=ZC.reg [zu 15 (zfa 34 1 6),zu 16 (zld 3 15),zu 17 (.binOp .add 3 (Tm 16) (Kn 1) 3),zu 18 (zcb .min [Kn 600,Tm 17] [3,3]),zu 19 (zfa 34 1 6),zv0 (.store 3 (Tm 19) (Tm 18))]
def zn146_11:=ZC.reg [zu 20 (zfa 34 1 2),zu 21 (zld 3 20),zu 22 (zfa 34 1 4),zu 23 (zld 3 22),zu 24 (.binOp .add 3 (Tm 21) (Tm 23) 3),zv 4 (zas 24)]
def zn146_13:=ZC.reg [zu 25 (zfa 34 1 3),zu 26 (zld 3 25),zu 27 (zfa 34 1 5),zu 28 (zld 3 27),zu 29 (.binOp .add 3 (Tm 26) (Tm 28) 3),zv 5 (zas 29)]
def zn146_15:=ZC.reg [zu 30 (zmv 4),zu 31 (zcf 80 [Tm 30,Kn 0,Kn 4095] [3,3,3]),zu 32 (zfa 34 1 2),zv0 (.store 3 (Tm 32) (Tm 31))]
def zn146_17:=ZC.reg [zu 33 (zmv 5),zu 34 (zcf 80 [Tm 33,Kn 0,Kn 4095] [3,3,3]),zu 35 (zfa 34 1 3),zv0 (.store 3 (Tm 35) (Tm 34))]
def zn146_20:=ZC.reg [zu 36 (zfa 34 1 0),zu 37 (zld 3 36),zv 38 (.binOp .eql 3 (Tm 37) (Kn 2) 3)]
def zn146_24:=ZC.reg [zu 39 (zfa 34 1 2),zu 40 (zld 3 39),zu 41 (zmv 4),zu 42 (.binOp .neq 3 (Tm 40) (Tm 41) 3),zu 43 (zmv 42),zug 44 (zfa 34 1 3) 43 false false,zug 45 (zld 3 44) 43 false false,zug 46 (zmv 5) 43 false false,zug 47 (.binOp .neq 3 (Tm 45) (Tm 46) 3) 43 false false,zu 48 (.pick (Tm 43) (.const (.bool true)) (Tm 47)),zu 49 (zmv 48),zug 50 (zfa 34 1 6) 49 false false,zug 51 (zld 3 50) 49 false false,zug 52 (.binOp .gtr 3 (Tm 51) (Kn 40) 3) 49 false false,zv 53 (.pick (Tm 49) (.const (.bool true)) (Tm 52))]
def zn146_27:=ZC.reg [⟨some 54,.build 34 ⟨[]⟩,none,false⟩,zu0 (.store 34 (Tm 2) (Tm 54)),zv 3 (.assign (.const (.bool false)))]
def zn146_29:=ZC.reg [zu 55 (zld 34 1),zu0 (.store 34 (Tm 2) (Tm 55)),zv 3 (.assign (.const (.bool true)))]
def zn146_32:=ZC.reg [zu 56 (zfa 34 1 2),zu 57 (zld 3 56),zu 58 (zmv 4),zv 59 (.binOp .neq 3 (Tm 57) (Tm 58) 3)]
def zn146_34:=ZC.reg [zu 60 (zfa 34 1 4),zu 61 (zld 3 60),zu 62 (.unOp .neg 3 (Tm 61)),zu 63 (zfa 34 1 4),zv0 (.store 3 (Tm 63) (Tm 62))]
def zn146_37:=ZC.reg [zu 64 (zfa 34 1 3),zu 65 (zld 3 64),zu 66 (zmv 5),zv 67 (.binOp .neq 3 (Tm 65) (Tm 66) 3)]
def zn146_39:=ZC.reg [zu 68 (zfa 34 1 5),zu 69 (zld 3 68),zu 70 (.unOp .neg 3 (Tm 69)),zu 71 (zfa 34 1 5),zv0 (.store 3 (Tm 71) (Tm 70))]
def zn146_41:=ZC.reg [zu 72 (zld 34 1),zu0 (.store 34 (Tm 2) (Tm 72)),zv 3 (.assign (.const (.bool true)))]
def zn146_0:=ZC.seq zn146_1 (ZC.seq (ZC.seq zn146_4 (ZC.cond (Tm 13) (ZC.seq zn146_7 ZC.ret) ZC.skip)) (ZC.seq zn146_9 (ZC.seq zn146_11 (ZC.seq zn146_13 (ZC.seq zn146_15 (ZC.seq zn146_17 (ZC.seq (ZC.seq zn146_20 (ZC.cond (Tm 38) (ZC.seq (ZC.seq zn146_24 (ZC.cond (Tm 53) (ZC.seq zn146_27 ZC.ret) ZC.skip)) (ZC.seq zn146_29 ZC.ret)) ZC.skip)) (ZC.seq (ZC.seq zn146_32 (ZC.cond (Tm 59) zn146_34 ZC.skip)) (ZC.seq (ZC.seq zn146_37 (ZC.cond (Tm 67) zn146_39 ZC.skip)) (ZC.seq zn146_41 ZC.ret))))))))))
def zc146: ZC:=zn146_0
theorem zc146_ok: zcode (xfOf Try.f146).code=some zc146:=by kernel_rfl
def zw146:=zU C zc146.eq_1<|zU C zn146_1.eq_1<|zU C zn146_4.eq_1<|zU C zn146_7.eq_1<|zU C zn146_9.eq_1<|zU C zn146_11.eq_1<|zU C zn146_13.eq_1<|zU C zn146_15.eq_1<|zU C zn146_17.eq_1<|zU C zn146_20.eq_1<|zU C zn146_24.eq_1<|zU C zn146_27.eq_1<|zU C zn146_29.eq_1<|zU C zn146_32.eq_1<|zU C zn146_34.eq_1<|zU C zn146_37.eq_1<|zU C zn146_39.eq_1<|zU C zn146_41.eq_1<|(zunf C zn146_0.eq_1)
theorem rs146: (xfOf Try.f146).rs=[.cell 2 34,.tmp 3]:=by kernel_rfl
def xf146:=zF C 146 Try.f146
def zn147_1:=ZC.reg [zu 2 (.box 34 (Tm 0)),zu 3 (.box 34 (Tm 1)),zv 4 (.assign (.const (.bool false)))]
def zn147_3:=ZC.reg [zu 6 (zfa 34 2 0),zu 7 (zld 3 6),zu 8 (.binOp .eql 3 (Tm 7) (Kn 1) 3),zu 9 (zmv 8),zug 10 (zfa 34 3 0) 9 true false,zug 11 (zld 3 10) 9 true false,zug 12 (.binOp .eql 3 (Tm 11) (Kn 2) 3) 9 true false,zu 13 (.pick (Tm 9) (Tm 12) (.const (.bool false))),zu 14 (zmv 13),zug 15 (zfa 34 2 0) 14 false false,zug 16 (zld 3 15) 14 false false,zug 17 (.binOp .eql 3 (Tm 16) (Kn 2) 3) 14 false false,zug 18 (zmv 17) 14 false false,zug 19 (zfa 34 3 0) 18 true false,zug 20 (zld 3 19) 18 true false,zug 21 (.binOp .eql 3 (Tm 20) (Kn 1) 3) 18 true false,zug 22 (.pick (Tm 18) (Tm 21) (.const (.bool false))) 14 false false,zu 23 (.pick (Tm 14) (.const (.bool true)) (Tm 22)),zv 5 (zas 23)]
def zn147_5:=ZC.reg [zu 24 (zld 34 2),zu 25 (zcf 75 [Tm 24] [34]),zu 26 (zmv 25),zug 27 (zld 34 3) 26 true false,zug 28 (zcf 75 [Tm 27] [34]) 26 true false,zu 29 (.pick (Tm 26) (Tm 28) (.const (.bool false))),zu 30 (zmv 29),zug 31 (zmv 5) 30 true false,zu 32 (.pick (Tm 30) (Tm 31) (.const (.bool false))),zu 33 (zmv 32),zug 34 (zfa 34 2 1) 33 true false,zug 35 (zld 3 34) 33 true false,zug 36 (zfa 34 3 1) 33 true false,zug 37 (zld 3 36) 33 true false,zug 38 (.binOp .neq 3 (Tm 35) (Tm 37) 3) 33 true false,zu 39 (.pick (Tm 33) (Tm 38) (.const (.bool false))),zu 40 (zmv 39),zug 41 (zfa 34 2 2) 40 true false,zug 42 (zld 3 41) 40 true false,zug 43 (zfa 34 3 2) 40 true false,zug 44 (zld 3 43) 40 true false,zug 45 (zcf 180 [Tm 42,Tm 44] [3,3]) 40 true false,zu 46 (.pick (Tm 40) (Tm 45) (.const (.bool false))),zu 47 (zmv 46),zug 48 (zfa 34 2 3) 47 true false,zug 49 (zld 3 48) 47 true false,zug 50 (zfa 34 3 3) 47 true false,zug 51 (zld 3 50) 47 true false,zug 52 (zcf 180 [Tm 49,Tm 51] [3,3]) 47 true false,zu 53 (.pick (Tm 47) (Tm 52) (.const (.bool false))),zv 4 (zas 53)]
def zn147_0:=ZC.seq zn147_1 (ZC.seq zn147_3 (ZC.seq zn147_5 ZC.ret))
def zc147: ZC:=zn147_0
theorem zc147_ok: zcode (xfOf Try.f147).code=some zc147:=by kernel_rfl
def zw147:=zU C zc147.eq_1<|zU C zn147_1.eq_1<|zU C zn147_3.eq_1<|zU C zn147_5.eq_1<|(zunf C zn147_0.eq_1)
theorem rs147: (xfOf Try.f147).rs=[.tmp 4]:=by kernel_rfl
def xf147:=zF C 147 Try.f147
def zn97_1:=ZC.reg [zu 1 (.box 61 (Tm 0)),zv 2 (.assign (.const (.bool false)))]
def zn97_4:=ZC.reg [zv 3 (.assign (Kn 0))]
def zn97_9:=ZC.reg [zu 5 (zmv 3),zu 6 (zfa 61 1 9),zu 7 (zld 24 6),zu 8 (zcb .len [Tm 7] [24]),zv 9 (.binOp .lss 3 (Tm 5) (Tm 8) 3)]
def zn97_15:=ZC.reg [zv 4 (.assign (Kn 0))]
def zn97_20:=ZC.reg [zu 12 (zmv 4),zu 13 (zmv 3),zv 14 (.binOp .lss 3 (Tm 12) (Tm 13) 3)]
def zn97_25:=ZC.draw 11 [] [zdd 0 17 (zfa 61 1 9) false [] [] false,zdd 1 18 (zld 24 17) false [] [] false,zdd 2 19 (zmv 4) false [] [] false,zdd 3 20 (zia 24 18 19) false [] [] false,zdd 4 21 (zld 3 20) false [] [] false,zdd 5 22 (zfa 61 1 9) false [] [] false,zdd 6 23 (zld 24 22) false [] [] false,zdd 7 24 (zmv 3) true [] [] false,zdd 8 25 (zia 24 23 24) true [] [] false,zdd 9 26 (zld 3 25) true [] [] false,zdd 10 27 (.binOp .eql 3 (Tm 21) (Tm 26) 3) true [] [] false]
def zn97_28:=ZC.reg [zv 2 (.assign (.const (.bool false)))]
def zn97_29:=ZC.reg [zu 15 (zmv 4),zu 16 (.binOp .add 3 (Tm 15) (Kn 1) 3),zv 4 (zas 16)]
def Z1v:=ZC.seq (ZC.seq zn97_20 (ZC.cond (Tm 14) ZC.skip (ZC.exit 2))) (ZC.seq (ZC.block 3 (ZC.seq zn97_25 (ZC.cond (Tm 27) (ZC.seq zn97_28 ZC.ret) ZC.skip))) zn97_29)
def zn97_31:=ZC.reg [zu 28 (zfa 61 1 9),zu 29 (zld 24 28),zu 30 (zmv 3),zu 31 (zia 24 29 30),zu 32 (zld 3 31),zu 33 (zcf 85 [Tm 32,Kn 0,Kn 2147483646] [3,3,3]),zv 34 (.unOp .not 4 (Tm 33))]
def zn97_34:=ZC.reg [zv 2 (.assign (.const (.bool false)))]
def zn97_35:=ZC.reg [zu 10 (zmv 3),zu 11 (.binOp .add 3 (Tm 10) (Kn 1) 3),zv 3 (zas 11)]
def zn97_7:=ZC.seq (ZC.seq zn97_9 (ZC.cond (Tm 9) ZC.skip (ZC.exit 0))) (ZC.seq (ZC.block 1 (ZC.seq (ZC.seq zn97_15 (ZC.block 2 (ZC.loop Z1v))) (ZC.seq zn97_31 (ZC.cond (Tm 34) (ZC.seq zn97_34 ZC.ret) ZC.skip)))) zn97_35)
def zn97_37:=ZC.reg [zu 35 (zfa 61 1 0),zu 36 (zld 3 35),zu 37 (zcf 85 [Tm 36,Kn 1,Kn 8] [3,3,3]),zu 38 (zmv 37),zug 39 (zfa 61 1 9) 38 true false,zug 40 (zld 24 39) 38 true false,zug 41 (zcb .len [Tm 40] [24]) 38 true false,zug 42 (zfa 61 1 0) 38 true false,zug 43 (zld 3 42) 38 true false,zug 44 (.binOp .eql 3 (Tm 41) (Tm 43) 3) 38 true false,zu 45 (.pick (Tm 38) (Tm 44) (.const (.bool false))),zu 46 (zmv 45),zug 47 (zfa 61 1 1) 46 true false,zug 48 (zld 3 47) 46 true false,zug 49 (zcf 85 [Tm 48,Kn 1,Kn 8] [3,3,3]) 46 true false,zu 50 (.pick (Tm 46) (Tm 49) (.const (.bool false))),zu 51 (zmv 50),zug 52 (zfa 61 1 2) 51 true false,zug 53 (zld 3 52) 51 true false,zug 54 (zcf 85 [Tm 53,Kn 0,Kn 60] [3,3,3]) 51 true false,zu 55 (.pick (Tm 51) (Tm 54) (.const (.bool false))),zu 56 (zmv 55),zug 57 (zfa 61 1 3) 56 true false,zug 58 (zld 3 57) 56 true false,zug 59 (zcf 85 [Tm 58,Kn 0,Kn 100] [3,3,3]) 56 true false,zu 60 (.pick (Tm 56) (Tm 59) (.const (.bool false))),zu 61 (zmv 60),zug 62 (zfa 61 1 4) 61 true false,zug 63 (zld 3 62) 61 true false,zug 64 (zcf 85 [Tm 63,Kn 1,Kn 600] [3,3,3]) 61 true false,zu 65 (.pick (Tm 61) (Tm 64) (.const (.bool false))),zu 66 (zmv 65),zug 67 (zfa 61 1 5) 66 true false,zug 68 (zld 3 67) 66 true false,zug 69 (zcf 85 [Tm 68,Kn 0,Kn 2147483647] [3,3,3]) 66 true false,zu 70 (.pick (Tm 66) (Tm 69) (.const (.bool false))),zu 71 (zmv 70),zug 72 (zfa 61 1 6) 71 true false,zug 73 (zld 59 72) 71 true false,zug 74 (zfa 61 1 7) 71 true false,zug 75 (zld 59 74) 71 true false,zug 76 (zcf 162 [Tm 73,Tm 75] [59,59]) 71 true false,zu 77 (.pick (Tm 71) (Tm 76) (.const (.bool false))),zu 78 (zmv 77),zug 79 (zfa 61 1 8) 78 true false,zug 80 (zld 23 79) 78 true false,zug 81 (zcf 30 [Tm 80] [23]) 78 true false,zu 82 (.pick (Tm 78) (Tm 81) (.const (.bool false))),zv 2 (zas 82)]
def zn97_0:=ZC.seq zn97_1 (ZC.seq (ZC.seq zn97_4 (ZC.block 0 (ZC.loop zn97_7))) (ZC.seq zn97_37 ZC.ret))
def zc97: ZC:=zn97_0
theorem zc97_ok: zcode (xfOf Try.f97).code=some zc97:=by kernel_rfl
def zw97:=zU C zc97.eq_1<|zU C zn97_1.eq_1<|zU C zn97_4.eq_1<|zU C zn97_9.eq_1<|zU C zn97_15.eq_1<|zU C zn97_20.eq_1<|zU C zn97_25.eq_1<|zU C zn97_28.eq_1<|zU C zn97_29.eq_1<|zU C Z1v.eq_1<|zU C zn97_31.eq_1<|zU C zn97_34.eq_1<|zU C zn97_35.eq_1<|zU C zn97_7.eq_1<|zU C zn97_37.eq_1<|(zunf C zn97_0.eq_1)
theorem rs97: (xfOf Try.f97).rs=[.tmp 2]:=by kernel_rfl
def xf97:=zF C 97 Try.f97
def zn66_1:=ZC.reg [zu 1 (.box 61 (Tm 0)),zv 2 (.alloc 66)]
def zn66_3:=ZC.reg [zv 3 (.alloc 66)]
def zn66_6:=ZC.reg [zu 5 (zld 61 1),zu 6 (zcf 97 [Tm 5] [61]),zv 7 (.unOp .not 4 (Tm 6))]
def zn66_9:=ZC.reg [zu 8 (zld 66 3),zv0 (.store 66 (Tm 2) (Tm 8))]
def zn66_11:=ZC.reg [zu 9 (zfa 61 1 5),zu 10 (zld 3 9),zu 11 (zcf 141 [Tm 10] [3]),zu 12 (zfa 66 3 1),zv0 (.store 25 (Tm 12) (Tm 11))]
def zn66_14:=ZC.reg [zv 4 (.assign (Kn 0))]
def zn66_19:=ZC.reg [zu 13 (zmv 4),zu 14 (zfa 61 1 0),zu 15 (zld 3 14),zv 16 (.binOp .lss 3 (Tm 13) (Tm 15) 3)]
def zn66_23:=ZC.reg [zu 19 (zmv 4),zu 20 (zmv 4),zu 21 (zfa 61 1 0),zu 22 (zld 3 21),zu 23 (zcf 142 [Tm 20,Tm 22] [3,3]),zu 24 (zfa 66 3 2),zu 25 (zia 63 24 19),zv0 (.store 34 (Tm 25) (Tm 23))]
def zn66_24:=ZC.reg [zu 17 (zmv 4),zu 18 (.binOp .add 3 (Tm 17) (Kn 1) 3),zv 4 (zas 18)]
def V1t:=ZC.seq (ZC.seq zn66_19 (ZC.cond (Tm 16) ZC.skip (ZC.exit 0))) (ZC.seq (ZC.block 1 zn66_23) zn66_24)
def zn66_26:=ZC.reg [zu 26 (zld 66 3),zv0 (.store 66 (Tm 2) (Tm 26))]
def zn66_0:=ZC.seq zn66_1 (ZC.seq zn66_3 (ZC.seq (ZC.seq zn66_6 (ZC.cond (Tm 7) (ZC.seq zn66_9 ZC.ret) ZC.skip)) (ZC.seq zn66_11 (ZC.seq (ZC.seq zn66_14 (ZC.block 0 (ZC.loop V1t))) (ZC.seq zn66_26 ZC.ret)))))
def zc66: ZC:=zn66_0
theorem zc66_ok: zcode (xfOf Try.f66).code=some zc66:=by kernel_rfl
def zw66:=zU C zc66.eq_1<|zU C zn66_1.eq_1<|zU C zn66_3.eq_1<|zU C zn66_6.eq_1<|zU C zn66_9.eq_1<|zU C zn66_11.eq_1<|zU C zn66_14.eq_1<|zU C zn66_19.eq_1<|zU C zn66_23.eq_1<|zU C zn66_24.eq_1<|zU C V1t.eq_1<|zU C zn66_26.eq_1<|(zunf C zn66_0.eq_1)
theorem rs66: (xfOf Try.f66).rs=[.cell 2 66]:=by kernel_rfl
def xf66:=zF C 66 Try.f66
def zn38_1:=ZC.reg [zu 2 (.box 61 (Tm 0)),zu 3 (.box 66 (Tm 1)),zv 4 (.assign (.const (.bool false)))]
def zn38_4:=ZC.reg [zu 8 (zld 61 2),zu 9 (zcf 97 [Tm 8] [61]),zu 10 (.unOp .not 4 (Tm 9)),zu 11 (zmv 10),zug 12 (zfa 66 3 0) 11 false false,zug 13 (zld 3 12) 11 false false,zug 14 (zcf 85 [Tm 13,Kn 0,Kn 600] [3,3,3]) 11 false false,zug 15 (.unOp .not 4 (Tm 14)) 11 false false,zv 16 (.pick (Tm 11) (.const (.bool true)) (Tm 15))]
def zn38_7:=ZC.reg [zv 4 (.assign (.const (.bool false)))]
def zn38_10:=ZC.reg [zv 5 (.assign (Kn 0))]
def zn38_15:=ZC.reg [zu 17 (zmv 5),zv 18 (.binOp .lss 3 (Tm 17) (Kn 16) 3)]
def zn38_20:=ZC.reg [zu 21 (zmv 5),zu 22 (zfa 66 3 2),zu 23 (zia 63 22 21),zu 24 (zld 34 23),zu 6 (.alloc 34),zv0 (.store 34 (Tm 6) (Tm 24))]
def zn38_22:=ZC.reg [zu 25 (zld 34 6),zu 26 (zcf 75 [Tm 25] [34]),zu 27 (.unOp .not 4 (Tm 26)),zu 28 (zmv 27),zug 29 (zfa 34 6 0) 28 false false,zug 30 (zld 3 29) 28 false false,zug 31 (.binOp .neq 3 (Tm 30) (Kn 0) 3) 28 false false,zug 32 (zmv 31) 28 false false,zug 33 (zfa 34 6 1) 32 true false,zug 34 (zld 3 33) 32 true false,zug 35 (zfa 61 2 0) 32 true false,zug 36 (zld 3 35) 32 true false,zug 37 (.binOp .geq 3 (Tm 34) (Tm 36) 3) 32 true false,zug 38 (.pick (Tm 32) (Tm 37) (.const (.bool false))) 28 false false,zu 39 (.pick (Tm 28) (.const (.bool true)) (Tm 38)),zu 40 (zmv 39),zug 41 (zfa 34 6 0) 40 false false,zug 42 (zld 3 41) 40 false false,zug 43 (.binOp .eql 3 (Tm 42) (Kn 1) 3) 40 false false,zug 44 (zmv 5) 40 false false,zug 45 (zfa 61 2 0) 40 false false,zug 46 (zld 3 45) 40 false false,zug 47 (.binOp .lss 3 (Tm 44) (Tm 46) 3) 40 false false,zug 48 (.binOp .neq 4 (Tm 43) (Tm 47) 4) 40 false false,zu 49 (.pick (Tm 40) (.const (.bool true)) (Tm 48)),zu 50 (zmv 49),zug 51 (zmv 5) 50 false false,zug 52 (zfa 61 2 0) 50 false false,zug 53 (zld 3 52) 50 false false,zug 54 (.binOp .lss 3 (Tm 51) (Tm 53) 3) 50 false false,zug 55 (zmv 54) 50 false false,zug 56 (zfa 34 6 1) 55 true false,zug 57 (zld 3 56) 55 true false,zug 58 (zmv 5) 55 true false,zug 59 (.binOp .neq 3 (Tm 57) (Tm 58) 3) 55 true false,zug 60 (.pick (Tm 55) (Tm 59) (.const (.bool false))) 50 false false,zv 61 (.pick (Tm 50) (.const (.bool true)) (Tm 60))]
def zn38_25:=ZC.reg [zv 4 (.assign (.const (.bool false)))]
def zn38_26:=ZC.reg [zu 19 (zmv 5),zu 20 (.binOp .add 3 (Tm 19) (Kn 1) 3),zv 5 (zas 20)]
def Y1t:=ZC.seq (ZC.seq zn38_15 (ZC.cond (Tm 18) ZC.skip (ZC.exit 0))) (ZC.seq (ZC.block 1 (ZC.seq zn38_20 (ZC.seq zn38_22 (ZC.cond (Tm 61) (ZC.seq zn38_25 ZC.ret) ZC.skip)))) zn38_26)
def zn38_29:=ZC.reg [zv 7 (.assign (Kn 0))]
def zn38_34:=ZC.reg [zu 62 (zmv 7),zv 63 (.binOp .lss 3 (Tm 62) (Kn 8) 3)]
def zn38_39:=ZC.reg [zu 66 (zmv 7),zu 67 (zfa 66 3 3),zu 68 (zia 64 67 66),zu 69 (zld 3 68),zu 70 (zcf 85 [Tm 69,Kn 0,Kn 2147483647] [3,3,3]),zu 71 (.unOp .not 4 (Tm 70)),zu 72 (zmv 71),zug 73 (zmv 7) 72 false false,zug 74 (zfa 61 2 0) 72 false false,zug 75 (zld 3 74) 72 false false,zug 76 (.binOp .geq 3 (Tm 73) (Tm 75) 3) 72 false false,zug 77 (zmv 76) 72 false false,zug 78 (zmv 7) 77 true false,zug 79 (zfa 66 3 3) 77 true false,zug 80 (zia 64 79 78) 77 true false,zug 81 (zld 3 80) 77 true false,zug 82 (.binOp .neq 3 (Tm 81) (Kn 0) 3) 77 true false,zug 83 (.pick (Tm 77) (Tm 82) (.const (.bool false))) 72 false false,zv 84 (.pick (Tm 72) (.const (.bool true)) (Tm 83))]
def zn38_42:=ZC.reg [zv 4 (.assign (.const (.bool false)))]
def zn38_43:=ZC.reg [zu 64 (zmv 7),zu 65 (.binOp .add 3 (Tm 64) (Kn 1) 3),zv 7 (zas 65)]
def K1s:=ZC.seq (ZC.seq zn38_34 (ZC.cond (Tm 63) ZC.skip (ZC.exit 2))) (ZC.seq (ZC.block 3 (ZC.seq zn38_39 (ZC.cond (Tm 84) (ZC.seq zn38_42 ZC.ret) ZC.skip))) zn38_43)
def zn38_45:=ZC.reg [zv 4 (.assign (.const (.bool true)))]
def zn38_0:=ZC.seq zn38_1 (ZC.seq (ZC.seq zn38_4 (ZC.cond (Tm 16) (ZC.seq zn38_7 ZC.ret) ZC.skip)) (ZC.seq (ZC.seq zn38_10 (ZC.block 0 (ZC.loop Y1t))) (ZC.seq (ZC.seq zn38_29 (ZC.block 2 (ZC.loop K1s))) (ZC.seq zn38_45 ZC.ret))))
def zc38: ZC:=zn38_0
theorem zc38_ok: zcode (xfOf Try.f38).code=some zc38:=by kernel_rfl
def zw38:=zU C zc38.eq_1<|zU C zn38_1.eq_1<|zU C zn38_4.eq_1<|zU C zn38_7.eq_1<|zU C zn38_10.eq_1<|zU C zn38_15.eq_1<|zU C zn38_20.eq_1<|zU C zn38_22.eq_1<|zU C zn38_25.eq_1<|zU C zn38_26.eq_1<|zU C Y1t.eq_1<|zU C zn38_29.eq_1<|zU C zn38_34.eq_1<|zU C zn38_39.eq_1<|zU C zn38_42.eq_1<|zU C zn38_43.eq_1<|zU C K1s.eq_1<|zU C zn38_45.eq_1<|(zunf C zn38_0.eq_1)
theorem rs38: (xfOf Try.f38).rs=[.tmp 4]:=by kernel_rfl
def xf38:=zF C 38 Try.f38
end Go.Proofs.Ytpchcfkebljopaa
end
section
namespace Go.Proofs.Ytpchcfkebljopaa
open Go.Cl Go Go.RowKit
set_option linter.constructorNameAsVariable false
def bucketR(r d:Nat): Bool:=(f64.order r 0==some .gt || f64.order r 0==some .eq)&&(f64.order r 9218868437227405311==some .lt || f64.order r 9218868437227405311==some .eq)&&(f64.order d 4607182418800017408==some .gt || f64.order d 4607182418800017408==some .eq)&&(f64.order d 4652007308841189376==some .lt || f64.order d 4652007308841189376==some .eq)
theorem absF_mod(n:Nat): absF n=n % 2^63:=by
 unfold absF
 have h:(BitVec.ofInt IntKind.u64.bits (n:Int) &&&~~~BitVec.ofInt IntKind.u64.bits (9223372036854775808:Int)).toNat=n % 2^63:=by
  show(BitVec.ofInt 64 (n:Int) &&&~~~BitVec.ofInt 64 (9223372036854775808:Int)).toNat=n % 2^63
  have e:(~~~BitVec.ofInt 64 (9223372036854775808:Int))=BitVec.ofNat 64 (2^63-1):=by decide
  rw[e,BitVec.toNat_and]
  have e1:(BitVec.ofInt 64 (n:Int)).toNat=n % 2^64:=by simp
  rw[e1]
  have e2:(BitVec.ofNat 64 (2^63-1)).toNat=2^63-1:=by decide
  rw[e2,Nat.and_two_pow_sub_one_eq_mod]
  omega
 rw[h]
 have h2:n % 2^63<2^63:=Nat.mod_lt _ (by decide)
 have e3:IntKind.u64.wrap ((n % 2^63:Nat):Int)=((n % 2^63:Nat):Int):=by
  generalize n % 2^63=m at h2
  show((m:Int) % 2^64:Int)=m
  omega
 rw[e3,Int.toNat_natCast]
theorem K0y{x:Nat}{s:Bool}{m:Nat}{i:Int}(h:f64.read x=.number s m i): m<2^53/\-1074<=i/\i<=971:=by
 have e1:f64.binade=2^52:=rfl
 have e2:f64.infRung=2047*2^52:=rfl
 have e3:f64.leastPlace=-1074:=rfl
 unfold Ieee.Format.read at h
 simp only[e1,e2,e3]at h
 generalize x % f64.signWeight=r at h
 split at h
 ·simp only[Ieee.Datum.number.injEq]at h;omega
 ·split at h
  ·simp only[Ieee.Datum.number.injEq]at h;omega
  ·split at h<;>cases h
theorem read_max: f64.read 9218868437227405311=.number false (2^53-1) 971:=by decide
theorem Q1r{s:Bool}{m:Nat}{i:Int}(hm:m<2^53)(hi:i<=971): Ieee.Datum.order (.number s m i) (.number false (2^53-1) 971)≠some .gt:=by
 have e:min i 971=i:=by omega
 simp only[Ieee.Datum.order,e,ne_eq,Option.some.injEq]
 have hle:Ieee.signed s m (i-i).toNat<=Ieee.signed false (2^53-1) (971-i).toNat:=by
  have e0:(i-i).toNat=0:=by omega
  rw[e0]
  unfold Ieee.signed
  simp only[Nat.shiftLeft_eq,Nat.pow_zero,Nat.mul_one,Bool.false_eq_true,if_false]
  have hp:1<=2^(971-i).toNat:=Nat.one_le_two_pow
  have hk:2^53-1<=(2^53-1)*2^(971-i).toNat:=Nat.le_mul_of_pos_right _ hp
  split<;>omega
 intro hc
 have:=Int.compare_eq_gt.1 hc
 omega
theorem read_abs(n:Nat): f64.read (absF n)=match f64.read n with|.number _ m i=>.number false m i|.infinity _=>.infinity false|.nan _ t=>.nan false t:=by
 rw[absF_mod]
 have e1:f64.signWeight=2^63:=rfl
 unfold Ieee.Format.read
 simp only[e1,Nat.mod_mod]
 have e4:((n % 2^63)/2^63 % 2==1)=false:=by
  rw[Nat.div_eq_of_lt (Nat.mod_lt _ (by decide))];rfl
 rw[e4]
 generalize n % 2^63=r
 by_cases h1:r<f64.binade
 ·rw[if_pos h1,if_pos h1]
 ·rw[if_neg h1,if_neg h1]
  by_cases h2:r<f64.infRung
  ·rw[if_pos h2,if_pos h2]
  ·rw[if_neg h2,if_neg h2]
   by_cases h3:r=f64.infRung
   ·rw[if_pos h3,if_pos h3]
   ·rw[if_neg h3,if_neg h3]
theorem order_self(s:Bool)(m:Nat)(i:Int): Ieee.Datum.order (.number s m i) (.number s m i)=some .eq:=by
 simp only[Ieee.Datum.order,Option.some.injEq]
 exact Int.compare_eq_eq.2 rfl
theorem V0r(s:Bool)(m:Nat)(i:Int)(t:Bool)(n:Nat)(j:Int): ∃o,Ieee.Datum.order (.number s m i) (.number t n j)=some o:=⟨_,rfl⟩
theorem bucketR_eq(r d:Nat): bucketR r d=bucketOk r d:=by
 have c0:f64.read 0=.number false 0 (-1074):=by decide
 have c1:f64.read 4607182418800017408=.number false (2^52) (-52):=by decide
 have c2:∃m i,f64.read 4652007308841189376=.number false m i:=⟨_,_,rfl⟩
 obtain⟨m2,i2,c2⟩:=c2
 have cm:=read_max
 have ha:=read_abs r
 have hb:=read_abs d
 have hr:=@Q1r
 unfold bucketR bucketOk oddF nanF infF
 simp only[Ieee.Format.order,c0,c1,c2,cm,ha,hb]
 cases hR:f64.read r with
 |nan s t=>simp[Ieee.Datum.order]
 |infinity s=>cases s<;>simp[Ieee.Datum.order]
 |number s m i=>
  have nr:=Q1r (s:=s) (K0y hR).1 (K0y hR).2.2
  have nr2:=Q1r (s:=false) (K0y hR).1 (K0y hR).2.2
  cases hD:f64.read d with
  |nan s t=>simp[Ieee.Datum.order]
  |infinity s=>cases s<;>simp[Ieee.Datum.order]
  |number s' m' i'=>
   have nd:=Q1r (s:=false) (K0y hD).1 (K0y hD).2.2
   simp only[order_self]
   obtain⟨o1,h1⟩:=V0r s m i false 0 (-1074)
   obtain⟨o2,h2⟩:=V0r s m i false (2^53-1) 971
   obtain⟨o3,h3⟩:=V0r false m i false (2^53-1) 971
   obtain⟨o4,h4⟩:=V0r s' m' i' false (2^52) (-52)
   obtain⟨o5,h5⟩:=V0r s' m' i' false m2 i2
   obtain⟨o6,h6⟩:=V0r false m' i' false (2^53-1) 971
   rw[h2]at nr
   rw[h3]at nr2
   rw[h6]at nd
   rw[h1,h2,h3,h4,h5,h6]
   clear h1 h2 h3 h4 h5 h6
   cases o1<;>cases o2<;>first|(exact absurd rfl nr)|(cases o3<;>first|(exact absurd rfl nr2)|(cases o6<;>first|(exact absurd rfl nd)|(cases o4<;>cases o5<;>rfl)))
end Go.Proofs.Ytpchcfkebljopaa
end
section
namespace Go.Proofs.Ytpchcfkebljopaa
open Go.Cl Go Go.RowKit
set_option maxRecDepth 100000
set_option linter.constructorNameAsVariable false
theorem Z1i(x y:Int): within (y-x) (-32) 32=within (x-y) (-32) 32:=by
 unfold within
 have h1:(-32<=y-x)=(x-y<=32):=by apply propext;omega
 have h2:(y-x<=32)=(-32<=x-y):=by apply propext;omega
 simp only[h1,h2,Bool.and_comm]
theorem within_b(n:Int): within n 0 4095=decide (brought n 0 4095=n):=by
 unfold within brought
 by_cases h:0<=n/\n<=4095
 ·rw[decide_eq_true h.1,decide_eq_true h.2,decide_eq_true (by omega)];rfl
 ·rw[decide_eq_false (show ¬(_=n) by omega)]
  by_cases h0:0<=n
  ·rw[decide_eq_true h0,decide_eq_false (show ¬n<=4095 by omega)];rfl
  ·rw[decide_eq_false h0];rfl
def J145(s:Y0a)(p:Hp)(n:Nat)(ρ:Env)(q:Hp): Prop:=
 ∃(k:Nat),n=16-k/\k<=16/\ρ 1=.ptr p.n []/\ρ 3=I (freeN (s.Bodies.take k))/\ρ 4=I k/\q.t.get p.n=some (.var sh66 s.cv)/\freeN (s.Bodies.take k)<=k/\p.n<q.n/\HpLe p q
def R141: Rel:=fun args p r=>∃(n:Int),args=[I n]/\r=.ret (U (seedOf n)) p
theorem t141{T:XCall}(h:Has T 141 R141)(n:Int){p:Hp}:T 141 [I n] p=.ret (U (seedOf n)) p:=h _ _ _ ⟨n,rfl,rfl⟩
theorem zq141{A B:Prop}(k:B)(h:A=B:=by have zy:=zA @zw141<|zA @rs141<|zA @tt3<|zA @tt25<|zA ti3.eq_1<|ti25.eq_1;exact zQ): A:=h▸k
theorem zno141{P:Prop}(h:P:=by intro jj;simp[CV.has,CV.hasL,fault,Z0b.nohas]): P:=h
theorem c141: Con C 141 R141:=by
 refine Q0e C ?_ ?_ ?_
 ·rintro args p r r' ⟨n,h,e⟩ ⟨n',h',e'⟩
  subst e;subst e';simp_all
 ·rintro args p r ⟨n,h,rfl⟩;exact zr1
 rintro args p r ⟨n,rfl,rfl⟩
 refine zW C false [] zT rfl xf141 zc141_ok fun call zh hF=>?_
 clear zh
 (have zx:=zT;refine zq141 ?_;try exact zT)
 repeat'(apply zK.s<;>intro hc<;>(try simp only[zhd]at hc)<;>(try have hw:=X0a hc)<;>(refine zq141 ?_;try exact zT))
 all_goals(try clear zx)
 exact K0d hF zle (Y0c rfl (Z0c zno141))
def R142: Rel:=fun args p r=>∃(o k:Int),args=[I o,I k]/\r=.ret (bodyBorn o k).cv p
theorem t142{T:XCall}(h:Has T 142 R142)(o k:Int){p:Hp}:T 142 [I o,I k] p=.ret (bodyBorn o k).cv p:=h _ _ _ ⟨o,k,rfl,rfl⟩
theorem zq142{A B:Prop}(k:B)(h:A=B:=by have zy:=zA @zw142<|zA @rs142<|zA @tt3<|zA @tt34<|zA ti3.eq_1<|zA ti34.eq_1<|zA @t_80<|@Z0d;exact zQ): A:=h▸k
theorem zno142{P:Prop}(h:P:=by intro jj;simp[CV.has,CV.hasL,fault,Z0b.nohas,Q0a.nohas]): P:=h
theorem c142: Con C 142 R142:=by
 refine Q0e C ?_ ?_ ?_
 ·rintro args p r r' ⟨o,k,h,e⟩ ⟨o',k',h',e'⟩
  subst e;subst e';simp_all[Q0a.inj_iff]
 ·rintro args p r ⟨o,k,h,rfl⟩;exact zr1
 rintro args p r ⟨o,k,rfl,rfl⟩
 refine zW C false [(80,R80)] ⟨c80,zT⟩ rfl xf142 zc142_ok fun call zh hF=>?_
 have t_80:=@t80 _ zh.1
 clear zh
 have k1:=Z0e (n:=k) (lo:=1) (hi:=8) (by omega)
 have k2:=Z0e (n:=o) (lo:=0) (hi:=brought k 1 8-1) (by omega)
 (have zx:=zT;refine zq142 ?_;try exact zT)
 repeat'(apply zK.s<;>intro hc<;>(try simp only[zhd]at hc)<;>(try have hw:=X0a hc)<;>(refine zq142 ?_;try exact zT))
 all_goals(try clear zx)
 refine K0d hF zle (Y0c ?_ (Z0c zno142))
 rfl
def R144: Rel:=fun args p r=>∃(b:Q0a) (x y:Int),args=[b.cv,I x,I y]/\r=.ret (bodyPush b x y).cv p
theorem t144{T:XCall}(h:Has T 144 R144)(b:Q0a)(x y:Int){p:Hp}:T 144 [b.cv,I x,I y] p=.ret (bodyPush b x y).cv p:=h _ _ _ ⟨b,x,y,rfl,rfl⟩
theorem zq144{A B:Prop}(k:B)(h:A=B:=by have zy:=zA @zw144<|zA @rs144<|zA @tt3<|zA @tt34<|zA ti3.eq_1<|zA ti34.eq_1<|zA @t_75<|zA @t_80<|@Z0d;exact zQ): A:=h▸k
theorem zno144{P:Prop}(h:P:=by intro jj;simp[CV.has,CV.hasL,fault,Z0b.nohas,Q0a.nohas]): P:=h
theorem c144: Con C 144 R144:=by
 refine Q0e C ?_ ?_ ?_
 ·rintro args p r r' ⟨b,x,y,h,e⟩ ⟨b',x',y',h',e'⟩
  subst e;subst e';simp_all[Q0a.inj_iff]
 ·rintro args p r ⟨b,x,y,h,rfl⟩;exact zr1
 rintro args p r ⟨b,x,y,rfl,rfl⟩
 refine zW C false [(75,R75),(80,R80)] ⟨c75,c80,zT⟩ rfl xf144 zc144_ok fun call zh hF=>?_
 have t_75:=@t75 _ zh.1
 have t_80:=@t80 _ zh.2.1
 clear zh
 have k1:=Z0e (n:=x) (lo:=-1000) (hi:=1000) (by omega)
 have k2:=Z0e (n:=y) (lo:=-1000) (hi:=1000) (by omega)
 by_cases hb:Body.right b=true
 ·by_cases hk:b.Kind=0
  ·(have zx:=zA hb hk;refine zq144 ?_;try exact zT)
   repeat'(apply zK.s<;>intro hc<;>(try simp only[zhd]at hc)<;>(try have hw:=X0a hc)<;>(refine zq144 ?_;try exact zT))
   all_goals(try clear zx)
   refine K0d hF zle (Y0c ?_ (Z0c zno144))
   simp[bodyPush,hb,hk];rfl
  ·have hr:=Y0f hb hk
   (have zx:=zA hb hk;refine zq144 ?_;try exact zT)
   repeat'(apply zK.s<;>intro hc<;>(try simp only[zhd]at hc)<;>(try have hw:=X0a hc)<;>(refine zq144 ?_;try exact zT))
   all_goals(try clear zx)
   refine K0d hF zle (Y0c ?_ (Z0c zno144))
   simp[bodyPush,hb,hk]
 ·(have zx:=hb;refine zq144 ?_;try exact zT)
  repeat'(apply zK.s<;>intro hc<;>(try simp only[zhd]at hc)<;>(try have hw:=X0a hc)<;>(refine zq144 ?_;try exact zT))
  all_goals(try clear zx)
  refine K0d hF zle (Y0c ?_ (Z0c zno144))
  simp[bodyPush,hb];rfl
def R146: Rel:=fun args p r=>∃(b:Q0a),args=[b.cv]/\r=.ret (.tup [(bodyMove b).1.cv,Bo (bodyMove b).2]) p
theorem t146{T:XCall}(h:Has T 146 R146)(b:Q0a){p:Hp}:T 146 [b.cv] p=.ret (.tup [(bodyMove b).1.cv,Bo (bodyMove b).2]) p:=h _ _ _ ⟨b,rfl,rfl⟩
theorem zq146{A B:Prop}(k:B)(h:A=B:=by have zy:=zA @zw146<|zA @rs146<|zA @tt3<|zA @tt34<|zA ti3.eq_1<|zA ti34.eq_1<|zA @t_75<|zA @t_80<|@Z0d;exact zQ): A:=h▸k
theorem zno146{P:Prop}(h:P:=by intro jj;simp[CV.has,CV.hasL,fault,Z0b.nohas,Q0a.nohas]): P:=h
theorem c146: Con C 146 R146:=by
 refine Q0e C ?_ ?_ ?_
 ·rintro args p r r' ⟨b,h,e⟩ ⟨b',h',e'⟩
  subst e;subst e';simp_all[Q0a.inj_iff]
 ·rintro args p r ⟨b,h,rfl⟩;exact zr1
 rintro args p r ⟨b,rfl,rfl⟩
 refine zW C false [(75,R75),(80,R80)] ⟨c75,c80,zT⟩ rfl xf146 zc146_ok fun call zh hF=>?_
 have t_75:=@t75 _ zh.1
 have t_80:=@t80 _ zh.2.1
 clear zh
 by_cases hb:Body.right b=true
 ·by_cases hk:b.Kind=0
  ·(have zx:=zA hb hk;refine zq146 ?_;try exact zT)
   repeat'(apply zK.s<;>intro hc<;>(try simp only[zhd]at hc)<;>(try have hw:=X0a hc)<;>(refine zq146 ?_;try exact zT))
   all_goals(try clear zx)
   refine K0d hF zle (Y0c ?_ (Z0c zno146))
   simp[bodyMove,hb,hk];rfl
  ·have hr:=Y0f hb hk
   have hmm:min 600 (b.Age+1)=min (b.Age+1) 600:=by omega
   have wX:=within_b (b.X+b.VX)
   have wY:=within_b (b.Y+b.VY)
   by_cases hk2:b.Kind=2
   ·have hk1:¬b.Kind=1:=by omega
    (have zx:=zA hb (zA hk (zA hk2 hmm));refine zq146 ?_;try exact zT)
    repeat'(apply zK.s<;>intro hc<;>(try simp only[zhd]at hc)<;>(try have hw:=X0a hc)<;>(refine zq146 ?_;try exact zT))
    all_goals(try clear zx)
    all_goals refine K0d hF zle (Y0c ?_ (Z0c zno146))
    all_goals first|(simp[bodyMove,bounce,hb,hk, *];done)|(simp[bodyMove,bounce,hb,hk, *];rfl)
   ·have hk1:b.Kind=1:=by omega
    have nX:w64 (-b.VX)=-b.VX:=Q1a (by omega) (by omega)
    have nY:w64 (-b.VY)=-b.VY:=Q1a (by omega) (by omega)
    (have zx:=zA hb (zA hk (zA hk2 (zA hk1 hmm)));refine zq146 ?_;try exact zT)
    repeat'(apply zK.s<;>intro hc<;>(try simp only[zhd]at hc)<;>(try have hw:=X0a hc)<;>(refine zq146 ?_;try exact zT))
    all_goals(try clear zx)
    all_goals refine K0d hF zle (Y0c ?_ (Z0c zno146))
    all_goals first|(simp[bodyMove,bounce,hb,hk, *];done)|(simp[bodyMove,bounce,hb,hk, *];rfl)
 ·(have zx:=hb;refine zq146 ?_;try exact zT)
  repeat'(apply zK.s<;>intro hc<;>(try simp only[zhd]at hc)<;>(try have hw:=X0a hc)<;>(refine zq146 ?_;try exact zT))
  all_goals(try clear zx)
  refine K0d hF zle (Y0c ?_ (Z0c zno146))
  simp[bodyMove,hb];rfl
def R180: Rel:=fun args p r=>∃(a b:Int),args=[I a,I b]/\(0<=a/\a<=4095)/\(0<=b/\b<=4095)/\r=.ret (Bo (within (a-b) (-32) 32)) p
theorem t180{T:XCall}(h:Has T 180 R180)(a b:Int){p:Hp}(h1:0<=a/\a<=4095)(h2:0<=b/\b<=4095): T 180 [I a,I b] p=.ret (Bo (within (a-b) (-32) 32)) p:=h _ _ _ ⟨a,b,rfl,h1,h2,rfl⟩
theorem zq180{A B:Prop}(k:B)(h:A=B:=by have zy:=zA @zw180<|zA @rs180<|zA @tt3<|zA ti3.eq_1<|zA @h1<|@h2;exact zQ): A:=h▸k
theorem zno180{P:Prop}(h:P:=by intro jj;simp[CV.has,CV.hasL,fault,Z0b.nohas]): P:=h
theorem c180: Con C 180 R180:=by
 refine Q0e C ?_ ?_ ?_
 ·rintro args p r r' ⟨a,b,h,h1,h2,e⟩ ⟨a',b',h',h1',h2',e'⟩
  subst e;subst e';simp_all
 ·rintro args p r ⟨a,b,h,h1,h2,rfl⟩;exact zr1
 rintro args p r ⟨a,b,rfl,h1,h2,rfl⟩
 refine zW C false [] zT rfl xf180 zc180_ok fun call zh hF=>?_
 clear zh
 by_cases g1:a-b<=32
 ·by_cases g2:b-a<=32
  ·have hw:within (a-b) (-32) 32=true:=by simp[within];omega
   (have zx:=zA g1 g2;refine zq180 ?_;try exact zT)
   repeat'(apply zK.s<;>intro hc<;>(try simp only[zhd]at hc)<;>(try have hw:=X0a hc)<;>(refine zq180 ?_;try exact zT))
   all_goals(try clear zx)
   exact K0d hF zle (Y0c (by rw[hw]) (Z0c zno180))
  ·have hw:within (a-b) (-32) 32=false:=by simp[within];omega
   (have zx:=zA g1 g2;refine zq180 ?_;try exact zT)
   repeat'(apply zK.s<;>intro hc<;>(try simp only[zhd]at hc)<;>(try have hw:=X0a hc)<;>(refine zq180 ?_;try exact zT))
   all_goals(try clear zx)
   exact K0d hF zle (Y0c (by rw[hw]) (Z0c zno180))
 ·have hw:within (a-b) (-32) 32=false:=by simp[within];omega
  (have zx:=g1;refine zq180 ?_;try exact zT)
  repeat'(apply zK.s<;>intro hc<;>(try simp only[zhd]at hc)<;>(try have hw:=X0a hc)<;>(refine zq180 ?_;try exact zT))
  all_goals(try clear zx)
  exact K0d hF zle (Y0c (by rw[hw]) (Z0c zno180))
def R147: Rel:=fun args p r=>∃(a b:Q0a),args=[a.cv,b.cv]/\r=.ret (Bo (bodyHit a b)) p
theorem t147{T:XCall}(h:Has T 147 R147)(a b:Q0a){p:Hp}:T 147 [a.cv,b.cv] p=.ret (Bo (bodyHit a b)) p:=h _ _ _ ⟨a,b,rfl,rfl⟩
theorem zq147{A B:Prop}(k:B)(h:A=B:=by have zy:=zA @zw147<|zA @rs147<|zA @tt3<|zA @tt34<|zA ti3.eq_1<|zA ti34.eq_1<|zA @t_75<|zA @t_180<|@Z0d;exact zQ): A:=h▸k
theorem zno147{P:Prop}(h:P:=by intro jj;simp[CV.has,CV.hasL,fault,Z0b.nohas,Q0a.nohas]): P:=h
theorem c147: Con C 147 R147:=by
 refine Q0e C ?_ ?_ ?_
 ·rintro args p r r' ⟨a,b,h,e⟩ ⟨a',b',h',e'⟩
  subst e;subst e';simp_all[Q0a.inj_iff]
 ·rintro args p r ⟨a,b,h,rfl⟩;exact zr1
 rintro args p r ⟨a,b,rfl,rfl⟩
 refine zW C false [(75,R75),(180,R180)] ⟨c75,c180,zT⟩ rfl xf147 zc147_ok fun call zh hF=>?_
 have t_75:=@t75 _ zh.1
 have t_180:=@t180 _ zh.2.1
 clear zh
 by_cases h1:Body.right a=true
 ·by_cases h2:Body.right b=true
  ·by_cases h3:a.Kind=0
   ·(have zx:=zA h1 (zA h2 h3);refine zq147 ?_;try exact zT)
    repeat'(apply zK.s<;>intro hc<;>(try simp only[zhd]at hc)<;>(try have hw:=X0a hc)<;>(refine zq147 ?_;try exact zT))
    all_goals(try clear zx)
    all_goals refine K0d hF zle (Y0c ?_ (Z0c zno147))
    all_goals simp[bodyHit,bodyStrikes, *]
   ·by_cases h4:b.Kind=0
    ·(have zx:=zA h1 (zA h2 (zA h3 h4));refine zq147 ?_;try exact zT)
     repeat'(apply zK.s<;>intro hc<;>(try simp only[zhd]at hc)<;>(try have hw:=X0a hc)<;>(refine zq147 ?_;try exact zT))
     all_goals(try clear zx)
     all_goals refine K0d hF zle (Y0c ?_ (Z0c zno147))
     all_goals(try split)<;>simp[bodyHit,bodyStrikes, *]
    ·have r1:=Y0f h1 h3
     have r2:=Y0f h2 h4
     have sx:=Z1i a.X b.X
     have sy:=Z1i a.Y b.Y
     have so:(b.Owner=a.Owner)=(a.Owner=b.Owner):=propext eq_comm
     (have zx:=zA h1 h2;refine zq147 ?_;try exact zT)
     repeat'(apply zK.s<;>intro hc<;>(try simp only[zhd]at hc)<;>(try have hw:=X0a hc)<;>(refine zq147 ?_;try exact zT))
     all_goals(try clear zx)
     all_goals refine K0d hF zle (Y0c ?_ (Z0c zno147))
     all_goals(try split)<;>simp[bodyHit,bodyStrikes, *]
  ·(have zx:=zA h1 h2;refine zq147 ?_;try exact zT)
   repeat'(apply zK.s<;>intro hc<;>(try simp only[zhd]at hc)<;>(try have hw:=X0a hc)<;>(refine zq147 ?_;try exact zT))
   all_goals(try clear zx)
   all_goals refine K0d hF zle (Y0c ?_ (Z0c zno147))
   all_goals simp[bodyHit,bodyStrikes, *]
 ·(have zx:=h1;refine zq147 ?_;try exact zT)
  repeat'(apply zK.s<;>intro hc<;>(try simp only[zhd]at hc)<;>(try have hw:=X0a hc)<;>(refine zq147 ?_;try exact zT))
  all_goals(try clear zx)
  all_goals refine K0d hF zle (Y0c ?_ (Z0c zno147))
  all_goals simp[bodyHit,bodyStrikes, *]
def R143: Rel:=fun args p r=>∃(row:Lst Q0b) (o:Int),args=[row.cv Q0b.cv,I o]/\(0<=o)/\r=.ret (rowInput row.l o).cv p
theorem t143{T:XCall}(h:Has T 143 R143)(row:Lst Q0b)(o:Int){p:Hp}(h2:0<=o): T 143 [row.cv Q0b.cv,I o] p=.ret (rowInput row.l o).cv p:=h _ _ _ ⟨row,o,rfl,h2,rfl⟩
theorem zq143{A B:Prop}(k:B)(h:A=B:=by have zy:=zA @zw143<|zA @rs143<|zA @tt3<|zA @tt36<|zA @tt108<|zA @tt110<|zA ti3.eq_1<|zA ti36.eq_1<|zA ti108.eq_1<|zA ti110.eq_1<|zA @t_80<|zA @Q0h<|zA @Z0m<|zA @zsl108<|@h2;exact zQ): A:=h▸k
theorem zno143{P:Prop}(h:P:=by intro jj;simp[CV.has,CV.hasL,fault,Z0b.nohas,K0b.nohas,Q0b.nohas]): P:=h
theorem c143: Con C 143 R143:=by
 refine Q0e C ?_ ?_ ?_
 ·rintro args p r r' ⟨row,o,h,h2,e⟩ ⟨row',o',h',h2',e'⟩
  subst e;subst e';simp_all[K0b.inj_iff,Q0b.inj_iff,X0p]
 ·rintro args p r ⟨row,o,h,h2,rfl⟩;exact zr1
 rintro args p r ⟨row,o,rfl,h2,rfl⟩
 refine zW C false [(80,R80)] ⟨c80,zT⟩ rfl xf143 zc143_ok fun call zh hF=>?_
 have t_80:=@t80 _ zh.1
 clear zh
 by_cases h:(row.l.length:Int)<=o
 ·(have zx:=h;refine zq143 ?_;try exact zT)
  repeat'(apply zK.s<;>intro hc<;>(try simp only[zhd]at hc)<;>(try have hw:=X0a hc)<;>(refine zq143 ?_;try exact zT))
  all_goals(try clear zx)
  refine K0d hF zle (Y0c ?_ (Z0c zno143))
  simp[rowInput,h];rfl
 ·(have zx:=h;refine zq143 ?_;try exact zT)
  repeat'(apply zK.s<;>intro hc<;>(try simp only[zhd]at hc)<;>(try have hw:=X0a hc)<;>(refine zq143 ?_;try exact zT))
  all_goals(try clear zx)
  refine K0d hF zle (Y0c ?_ (Z0c zno143))
  simp[rowInput,h];rfl
def R145: Rel:=fun args p r=>∃(s:Y0a),args=[s.cv]/\r=.ret (I (freeN s.Bodies)) p
theorem t145{T:XCall}(h:Has T 145 R145)(s:Y0a){p:Hp}:T 145 [s.cv] p=.ret (I (freeN s.Bodies)) p:=h _ _ _ ⟨s,rfl,rfl⟩
theorem zq145{A B:Prop}(k:B)(h:A=B:=by have zy:=zA @zw145<|zA @rs145<|zA @tt3<|zA @tt34<|zA @tt63<|zA @tt66<|zA ti3.eq_1<|zA ti34.eq_1<|zA ti63.eq_1<|zA ti66.eq_1<|zA @Q0f<|zA @Z0d<|@zsl63;exact zQ): A:=h▸k
theorem zno145{P:Prop}(h:P:=by intro jj;simp[CV.has,CV.hasL,fault,Z0b.nohas,Y0a.nohas,Q0a.nohas]): P:=h
theorem zge145{P:Prop}(h:P:=by simp (disch:=first|exact zdl|fail) only[zheap];first|done|rfl): P:=h
theorem c145: Con C 145 R145:=by
 refine Q0e C ?_ ?_ ?_
 ·rintro args p r r' ⟨s,h,e⟩ ⟨s',h',e'⟩
  subst e;subst e';simp_all[Y0a.inj_iff,Q0a.inj_iff]
 ·rintro args p r ⟨s,h,rfl⟩;exact zr1
 rintro args p r ⟨s,rfl,rfl⟩
 refine zW C false [] zT rfl xf145 zc145_ok fun call zh hF=>?_
 clear zh
 have hb:=s.hBodies
 (have zx:=zT;refine zq145 ?_;try exact zT)
 repeat'(apply zK.s<;>intro hc<;>(try simp only[zhd]at hc)<;>(try have hw:=X0a hc)<;>(refine zq145 ?_;try exact zT))
 all_goals(try clear zx)
 (show W C false noExt call (ZC.loop Z1u) _ _ _);refine V0i C false noExt call Z1u _ _ _ (J145 s p) 16 ⟨0,rfl,by omega,(by simp[put_at,Q0d,K0e]),by simp[put_at,Q0d,freeN],(by simp[put_at,Q0d,K0e]),zge145,by simp[freeN],zb9,zle⟩ ?_
 rintro n ρ q ⟨k,rfl,hk,e1,e3,e4,g1,hfr,hn,hle⟩
 by_cases hlt:(k:Int)<16
 ·have hs:=Y1p (l:=s.Bodies) (k:=k) (by omega)
  by_cases h0:(nth s.Bodies k).Kind=0
  ·rw[if_pos h0]at hs
   (have zx:=zA e1 (zA e3 (zA e4 (zA g1 (zA hlt h0))));refine zq145 ?_;try exact zT)
   repeat'(apply zK.s<;>intro hc<;>(try simp only[zhd]at hc)<;>(try have hw:=X0a hc)<;>(refine zq145 ?_;try exact zT))
   all_goals(try clear zx)
   exact⟨16-(k+1),by omega,k+1,rfl,by omega,zev,by simp[put_at,Q0d,hs],zev,g1,by omega,hn,hle⟩
  ·rw[if_neg h0]at hs
   (have zx:=zA e1 (zA e3 (zA e4 (zA g1 (zA hlt h0))));refine zq145 ?_;try exact zT)
   repeat'(apply zK.s<;>intro hc<;>(try simp only[zhd]at hc)<;>(try have hw:=X0a hc)<;>(refine zq145 ?_;try exact zT))
   all_goals(try clear zx)
   exact⟨16-(k+1),by omega,k+1,rfl,by omega,zev,by simp[put_at,Q0d,e3,hs],zev,g1,by omega,hn,hle⟩
 ·have hk16:k=16:=by omega
  subst hk16
  have ht:s.Bodies.take 16=s.Bodies:=List.take_of_length_le (by omega)
  rw[ht]at e3 hfr
  (have zx:=zA e1 (zA e3 (zA e4 (zA g1 hlt)));refine zq145 ?_;try exact zT)
  repeat'(apply zK.s<;>intro hc<;>(try simp only[zhd]at hc)<;>(try have hw:=X0a hc)<;>(refine zq145 ?_;try exact zT))
  all_goals(try clear zx)
  exact K0d hF zlq (Y0c rfl (Z0c zno145))
def R162: Rel:=fun args p r=>∃(ra de:Nat),args=[Fl ra,Fl de]/\r=.ret (Bo (bucketOk ra de)) p
theorem t162{T:XCall}(h:Has T 162 R162)(ra de:Nat){p:Hp}:T 162 [Fl ra,Fl de] p=.ret (Bo (bucketOk ra de)) p:=h _ _ _ ⟨ra,de,rfl,rfl⟩
theorem zq162{A B:Prop}(k:B)(h:A=B:=by have zy:=zA @zw162<|zA @rs162<|zA @tt59<|ti59.eq_1;exact zQf): A:=h▸k
theorem zno162{P:Prop}(h:P:=by intro jj;simp[CV.has,CV.hasL,fault,Z0b.nohas]): P:=h
theorem c162: Con C 162 R162:=by
 refine Q0e C ?_ ?_ ?_
 ·rintro args p r r' ⟨ra,de,h,e⟩ ⟨ra',de',h',e'⟩
  subst e;subst e';simp_all
 ·rintro args p r ⟨ra,de,h,rfl⟩;exact zr1
 rintro args p r ⟨ra,de,rfl,rfl⟩
 refine zW C false [] zT rfl xf162 zc162_ok fun call zh hF=>?_
 clear zh
 rw[<- bucketR_eq]
 cases e1:(FloatKind.f64.format.order ra 0==some Ordering.gt || FloatKind.f64.format.order ra 0==some Ordering.eq) with
 |false=>
  (have zx:=e1;refine zq162 ?_;try exact zT)
  repeat'(apply zK.s<;>intro hc<;>(try simp only[zhd]at hc)<;>(try have hw:=X0a hc)<;>(refine zq162 ?_;try exact zT))
  all_goals(try clear zx)
  exact K0d hF zle (Y0c (by unfold bucketR;rw[e1];rfl) (Z0c zno162))
 |true=>
  cases e2:(FloatKind.f64.format.order ra 9218868437227405311==some Ordering.lt || FloatKind.f64.format.order ra 9218868437227405311==some Ordering.eq) with
  |false=>
   (have zx:=zA e1 e2;refine zq162 ?_;try exact zT)
   repeat'(apply zK.s<;>intro hc<;>(try simp only[zhd]at hc)<;>(try have hw:=X0a hc)<;>(refine zq162 ?_;try exact zT))
   all_goals(try clear zx)
   exact K0d hF zle (Y0c (by unfold bucketR;rw[e1,e2];rfl) (Z0c zno162))
  |true=>
   cases e3:(FloatKind.f64.format.order de 4607182418800017408==some Ordering.gt || FloatKind.f64.format.order de 4607182418800017408==some Ordering.eq) with
   |false=>
    (have zx:=zA e1 (zA e2 e3);refine zq162 ?_;try exact zT)
    repeat'(apply zK.s<;>intro hc<;>(try simp only[zhd]at hc)<;>(try have hw:=X0a hc)<;>(refine zq162 ?_;try exact zT))
    all_goals(try clear zx)
    exact K0d hF zle (Y0c (by unfold bucketR;rw[e1,e2,e3];rfl) (Z0c zno162))
   |true=>
    cases e4:(FloatKind.f64.format.order de 4652007308841189376==some Ordering.lt || FloatKind.f64.format.order de 4652007308841189376==some Ordering.eq) with
    |false=>
     (have zx:=zA e1 (zA e2 (zA e3 e4));refine zq162 ?_;try exact zT)
     repeat'(apply zK.s<;>intro hc<;>(try simp only[zhd]at hc)<;>(try have hw:=X0a hc)<;>(refine zq162 ?_;try exact zT))
     all_goals(try clear zx)
     exact K0d hF zle (Y0c (by unfold bucketR;rw[e1,e2,e3,e4];rfl) (Z0c zno162))
    |true=>
     (have zx:=zA e1 (zA e2 (zA e3 e4));refine zq162 ?_;try exact zT)
     repeat'(apply zK.s<;>intro hc<;>(try simp only[zhd]at hc)<;>(try have hw:=X0a hc)<;>(refine zq162 ?_;try exact zT))
     all_goals(try clear zx)
     exact K0d hF zle (Y0c (by unfold bucketR;rw[e1,e2,e3,e4];rfl) (Z0c zno162))
def J97(c:K0a)(p:Hp)(n:Nat)(ρ:Env)(q:Hp): Prop:=
 ∃(i:Nat),n=c.Tokens.l.length-i/\i<=c.Tokens.l.length/\ρ 1=.ptr p.n []/\ρ 3=I i/\q.t.get p.n=some (.var sh61 c.cv)/\tokGo (c.Tokens.l.take i) (c.Tokens.l.drop i)=tokGo [] c.Tokens.l/\p.n<q.n/\HpLe p q
def L97(c:K0a)(p:Hp)(i:Nat)(n:Nat)(ρ:Env)(q:Hp): Prop:=
 ∃(k:Nat),n=i-k/\k<=i/\ρ 1=.ptr p.n []/\ρ 3=I i/\ρ 4=I k/\q.t.get p.n=some (.var sh61 c.cv)/\(∀j,j<k->nth c.Tokens.l j≠nth c.Tokens.l i)/\p.n<q.n/\HpLe p q
def R97: Rel:=fun args p r=>∃(c:K0a),args=[c.cv]/\(c.Tokens.l.length<=1000000)/\(c.Rules.l.length<=1000000)/\r=.ret (Bo (legalC c)) p
theorem t97{T:XCall}(h:Has T 97 R97)(c:K0a){p:Hp}(hl:c.Tokens.l.length<=1000000)(hr:c.Rules.l.length<=1000000): T 97 [c.cv] p=.ret (Bo (legalC c)) p:=h _ _ _ ⟨c,rfl,hl,hr,rfl⟩
theorem zq97{A B:Prop}(k:B)(h:A=B:=by have zy:=zA @zw97<|zA @rs97<|zA @tt3<|zA @tt23<|zA @tt24<|zA @tt59<|zA @tt61<|zA ti3.eq_1<|zA ti23.eq_1<|zA ti24.eq_1<|zA ti59.eq_1<|zA ti61.eq_1<|zA @t_85<|zA @t_162<|zA @t_30<|zA @X0e<|zA @zsl23<|zA @zsl24<|zA @hl<|@hr;exact zQ): A:=h▸k
theorem zno97{P:Prop}(h:P:=by intro jj;simp[CV.has,CV.hasL,fault,Z0b.nohas]): P:=h
theorem zge97{P:Prop}(h:P:=by simp (disch:=first|exact zdl|fail) only[zheap];first|done|rfl): P:=h
theorem c97: Con C 97 R97:=by
 refine Q0e C ?_ ?_ ?_
 ·rintro args p r r' ⟨c,h,hl,hr,e⟩ ⟨c',h',hl',hr',e'⟩
  subst e;subst e';simp_all[K0a.inj_iff,K0j,X0s]
 ·rintro args p r ⟨c,h,hl,hr,rfl⟩;exact zr1
 rintro args p r ⟨c,rfl,hl,hr,rfl⟩
 refine zW C false [(85,R85),(162,R162),(30,R30)] ⟨c85,c162,c30,zT⟩ rfl xf97 zc97_ok fun call zh hF=>?_
 have t_85:=@t85 _ zh.1
 have t_162:=@t162 _ zh.2.1
 have t_30:=@t30 _ zh.2.2.1
 clear zh
 (have zx:=zT;refine zq97 ?_;try exact zT)
 repeat'(apply zK.s<;>intro hc<;>(try simp only[zhd]at hc)<;>(try have hw:=X0a hc)<;>(refine zq97 ?_;try exact zT))
 all_goals(try clear zx)
 (show W C false noExt call (ZC.loop zn97_7) _ _ _);refine V0i C false noExt call zn97_7 _ _ _ (J97 c p) c.Tokens.l.length ⟨0,rfl,by omega,(by simp[put_at,Q0d,K0e]),(by simp[put_at,Q0d,K0e]),zge97,rfl,(zb9),zle⟩ ?_
 rintro n ρ q ⟨i,rfl,hi,e1,e3,g1,hj,hn,hle⟩
 by_cases hlt:(i:Int)<c.Tokens.l.length
 ·(have zx:=zA e1 (zA e3 (zA g1 hlt));refine zq97 ?_;try exact zT)
  repeat'(apply zK.s<;>intro hc<;>(try simp only[zhd]at hc)<;>(try have hw:=X0a hc)<;>(refine zq97 ?_;try exact zT))
  all_goals(try clear zx)
  (show W C false noExt call (ZC.loop Z1v) _ _ _);refine V0i C false noExt call Z1v _ _ _ (L97 c p i) i ⟨0,rfl,by omega,zev,zev,zev,g1,by omega,hn,hle⟩ ?_
  clear e1 e3 g1 hn hle
  rintro n ρ q ⟨k,rfl,hk,e1,e3,e4,g1,hne,hn,hle⟩
  by_cases hlk:(k:Int)<i
  ·by_cases he:nth c.Tokens.l k=nth c.Tokens.l i
   ·have hf:=tok_in (l:=c.Tokens.l) (i:=i) (k:=k) (by omega) (by omega) he
    rw[hf]at hj
    (have zx:=zA e1 (zA e3 (zA e4 (zA g1 (zA hlk he))));refine zq97 ?_;try exact zT)
    repeat'(apply zK.s<;>intro hc<;>(try simp only[zhd]at hc)<;>(try have hw:=X0a hc)<;>(refine zq97 ?_;try exact zT))
    all_goals(try clear zx)
    refine K0d hF zlq (Y0c ?_ (Z0c zno97))
    simp[legalC,<- hj]
   ·(have zx:=zA e1 (zA e3 (zA e4 (zA g1 (zA hlk he))));refine zq97 ?_;try exact zT)
    repeat'(apply zK.s<;>intro hc<;>(try simp only[zhd]at hc)<;>(try have hw:=X0a hc)<;>(refine zq97 ?_;try exact zT))
    all_goals(try clear zx)
    refine⟨i-(k+1),by omega,k+1,rfl,by omega,zev,zev,zev,by simp only[Hp.bump_get];exact g1,fun j hj=>?_,by simp only[Hp.bump_n];omega,zlq⟩
    by_cases ej:j=k
    ·rw[ej];exact he
    ·exact hne j (by omega)
  ·have hk2:k=i:=by omega
   subst hk2
   have ho:=tok_out (l:=c.Tokens.l) (i:=k) (by omega) hne
   rw[tok_step (by omega),ho]at hj
   cases hw:within (nth c.Tokens.l k) 0 2147483646 with
   |false=>
    rw[hw]at hj
    (have zx:=zA e1 (zA e3 (zA e4 (zA g1 (zA hlk hw))));refine zq97 ?_;try exact zT)
    repeat'(apply zK.s<;>intro hc<;>(try simp only[zhd]at hc)<;>(try have hw:=X0a hc)<;>(refine zq97 ?_;try exact zT))
    all_goals(try clear zx)
    refine K0d hF zlq (Y0c ?_ (Z0c zno97))
    simp[legalC,<- hj]
   |true=>
    rw[hw]at hj
    simp only[Bool.true_and,Bool.not_false]at hj
    (have zx:=zA e1 (zA e3 (zA e4 (zA g1 (zA hlk hw))));refine zq97 ?_;try exact zT)
    repeat'(apply zK.s<;>intro hc<;>(try simp only[zhd]at hc)<;>(try have hw:=X0a hc)<;>(refine zq97 ?_;try exact zT))
    all_goals(try clear zx)
    exact⟨c.Tokens.l.length-(k+1),by omega,k+1,rfl,by omega,zev,zev,g1,hj,hn,hle⟩
 ·have hk2:i=c.Tokens.l.length:=by omega
  rw[hk2,List.drop_eq_nil_of_le (Nat.le_refl _)]at hj
  have hj:tokGo [] c.Tokens.l=true:=hj.symm
  (have zx:=zA e1 (zA e3 (zA g1 hlt));refine zq97 ?_;try exact zT)
  repeat'(apply zK.s<;>intro hc<;>(try simp only[zhd]at hc)<;>(try have hw:=X0a hc)<;>(refine zq97 ?_;try exact zT))
  all_goals(try clear zx)
  all_goals refine K0d hF zlq (Y0c ?_ (Z0c zno97))
  all_goals simp[legalC, *]
def J66(c:K0a)(p:Hp)(n:Nat)(ρ:Env)(q:Hp): Prop:=
 ∃(k:Nat),n=c.Players.toNat-k/\k<=c.Players.toNat/\ρ 1=.ptr p.n []/\ρ 2=.ptr (p.n+1) []/\ρ 3=.ptr (p.n+2) []/\ρ 4=I k/\q.t.get p.n=some (.var sh61 c.cv)/\q.t.get (p.n+1)=some (.var sh66 Y0a.zero.cv)/\q.t.get (p.n+2)=some (.var sh66 (firstK c k).cv)/\p.n+2<q.n/\HpLe p q
def R66: Rel:=fun args p r=>∃(c:K0a),args=[c.cv]/\(c.Tokens.l.length<=1000000)/\(c.Rules.l.length<=1000000)/\r=.ret (firstS c).cv p
theorem t66{T:XCall}(h:Has T 66 R66)(c:K0a){p:Hp}(hl:c.Tokens.l.length<=1000000)(hr:c.Rules.l.length<=1000000): T 66 [c.cv] p=.ret (firstS c).cv p:=h _ _ _ ⟨c,rfl,hl,hr,rfl⟩
theorem zq66{A B:Prop}(k:B)(h:A=B:=by have zy:=zA @zw66<|zA @rs66<|zA @tt3<|zA @tt25<|zA @tt34<|zA @tt61<|zA @tt63<|zA @tt66<|zA ti3.eq_1<|zA ti25.eq_1<|zA ti34.eq_1<|zA ti61.eq_1<|zA ti63.eq_1<|zA ti66.eq_1<|zA @t_97<|zA @t_141<|zA @t_142<|zA @X0e<|zA @Q0f<|zA @Z0d<|zA @zsl63<|zA @hl<|@hr;exact zQ): A:=h▸k
theorem zno66{P:Prop}(h:P:=by intro jj;simp[CV.has,CV.hasL,fault,Z0b.nohas,Y0a.nohas,Q0a.nohas]): P:=h
theorem zge66{P:Prop}(h:P:=by simp (disch:=first|exact zdl|fail) only[zheap];first|done|rfl): P:=h
theorem c66: Con C 66 R66:=by
 refine Q0e C ?_ ?_ ?_
 ·rintro args p r r' ⟨c,h,hl,hr,e⟩ ⟨c',h',hl',hr',e'⟩
  subst e;subst e';simp_all[K0a.inj_iff,Y0a.inj_iff,Q0a.inj_iff]
 ·rintro args p r ⟨c,h,hl,hr,rfl⟩;exact zr1
 rintro args p r ⟨c,rfl,hl,hr,rfl⟩
 refine zW C false [(97,R97),(141,R141),(142,R142)] ⟨c97,c141,c142,zT⟩ rfl xf66 zc66_ok fun call zh hF=>?_
 have t_97:=@t97 _ zh.1
 have t_141:=@t141 _ zh.2.1
 have t_142:=@t142 _ zh.2.2.1
 clear zh
 cases hL:legalC c with
 |false=>
  (have zx:=hL;refine zq66 ?_;try exact zT)
  repeat'(apply zK.s<;>intro hc<;>(try simp only[zhd]at hc)<;>(try have hw:=X0a hc)<;>(refine zq66 ?_;try exact zT))
  all_goals(try clear zx)
  refine K0d hF zle (Y0c ?_ (Z0c zno66))
  simp[firstS,hL]
 |true=>
  have hP:=(Y0n hL).1
  have hPn:((c.Players.toNat:Nat):Int)=c.Players:=by omega
  (have zx:=hL;refine zq66 ?_;try exact zT)
  repeat'(apply zK.s<;>intro hc<;>(try simp only[zhd]at hc)<;>(try have hw:=X0a hc)<;>(refine zq66 ?_;try exact zT))
  all_goals(try clear zx)
  (show W C false noExt call (ZC.loop V1t) _ _ _);refine V0i C false noExt call V1t _ _ _ (J66 c p) c.Players.toNat ⟨0,rfl,by omega,(by simp[put_at,Q0d,K0e]),(by simp[put_at,Q0d,K0e]),(by simp[put_at,Q0d,K0e]),(by simp[put_at,Q0d,K0e]),zge66,zge66,zge66,(zb9),zle⟩ ?_
  rintro n ρ q ⟨k,rfl,hk,e1,e2,e3,e4,g1,g2,g3,hn,hle⟩
  by_cases hlt:(k:Int)<c.Players
  ·have hbk:=(firstK c k).hBodies
   have hk8:k<8:=by omega
   (have zx:=zA e1 (zA e2 (zA e3 (zA e4 (zA g1 (zA g2 (zA g3 hlt))))));refine zq66 ?_;try exact zT)
   repeat'(apply zK.s<;>intro hc<;>(try simp only[zhd]at hc)<;>(try have hw:=X0a hc)<;>(refine zq66 ?_;try exact zT))
   all_goals(try clear zx)
   exact⟨c.Players.toNat-(k+1),by omega,k+1,rfl,by omega,zev,zev,zev,zev,zg9,zg9,zg9,zb9,zlq⟩
  ·have hk8:k=c.Players.toNat:=by omega
   subst hk8
   (have zx:=zA e1 (zA e2 (zA e3 (zA e4 (zA g1 (zA g2 (zA g3 hlt))))));refine zq66 ?_;try exact zT)
   repeat'(apply zK.s<;>intro hc<;>(try simp only[zhd]at hc)<;>(try have hw:=X0a hc)<;>(refine zq66 ?_;try exact zT))
   all_goals(try clear zx)
   refine K0d hF zlq (Y0c ?_ (Z0c zno66))
   simp[firstS,hL]
def J38(c:K0a)(s:Y0a)(p:Hp)(n:Nat)(ρ:Env)(q:Hp): Prop:=
 ∃(k:Nat),n=16-k/\k<=16/\ρ 2=.ptr p.n []/\ρ 3=.ptr (p.n+1) []/\ρ 5=I k/\q.t.get p.n=some (.var sh61 c.cv)/\q.t.get (p.n+1)=some (.var sh66 s.cv)/\allFrom (rightAt c.Players) (s.Bodies.drop k) k=allFrom (rightAt c.Players) s.Bodies 0/\p.n+1<q.n/\HpLe p q
def L38(c:K0a)(s:Y0a)(p:Hp)(n:Nat)(ρ:Env)(q:Hp): Prop:=
 ∃(k:Nat),n=8-k/\k<=8/\ρ 2=.ptr p.n []/\ρ 3=.ptr (p.n+1) []/\ρ 7=I k/\q.t.get p.n=some (.var sh61 c.cv)/\q.t.get (p.n+1)=some (.var sh66 s.cv)/\allFrom (scoreAt c.Players) (s.Score.drop k) k=allFrom (scoreAt c.Players) s.Score 0/\p.n+1<q.n/\HpLe p q
def R38: Rel:=fun args p r=>∃(c:K0a) (s:Y0a),args=[c.cv,s.cv]/\(c.Tokens.l.length<=1000000)/\(c.Rules.l.length<=1000000)/\r=.ret (Bo (stateRight c s)) p
theorem t38{T:XCall}(h:Has T 38 R38)(c:K0a)(s:Y0a){p:Hp}(hl:c.Tokens.l.length<=1000000)(hr:c.Rules.l.length<=1000000): T 38 [c.cv,s.cv] p=.ret (Bo (stateRight c s)) p:=h _ _ _ ⟨c,s,rfl,hl,hr,rfl⟩
theorem zq38{A B:Prop}(k:B)(h:A=B:=by have zy:=zA @zw38<|zA @rs38<|zA @tt3<|zA @tt4<|zA @tt34<|zA @tt61<|zA @tt63<|zA @tt64<|zA @tt66<|zA ti3.eq_1<|zA ti4.eq_1<|zA ti34.eq_1<|zA ti61.eq_1<|zA ti63.eq_1<|zA ti64.eq_1<|zA ti66.eq_1<|zA @t_97<|zA @t_85<|zA @t_75<|zA @X0e<|zA @Q0f<|zA @Z0d<|zA @zsl63<|zA @zsl64<|zA @hl<|@hr;exact zQ): A:=h▸k
theorem zno38{P:Prop}(h:P:=by intro jj;simp[CV.has,CV.hasL,fault,Z0b.nohas,Y0a.nohas,Q0a.nohas]): P:=h
theorem zge38{P:Prop}(h:P:=by simp (disch:=first|exact zdl|fail) only[zheap];first|done|rfl): P:=h
theorem c38: Con C 38 R38:=by
 refine Q0e C ?_ ?_ ?_
 ·rintro args p r r' ⟨c,s,h,hl,hr,e⟩ ⟨c',s',h',hl',hr',e'⟩
  subst e;subst e';simp_all[K0a.inj_iff,Y0a.inj_iff,Q0a.inj_iff]
 ·rintro args p r ⟨c,s,h,hl,hr,rfl⟩;exact zr1
 rintro args p r ⟨c,s,rfl,hl,hr,rfl⟩
 refine zW C false [(97,R97),(85,R85),(75,R75)] ⟨c97,c85,c75,zT⟩ rfl xf38 zc38_ok fun call zh hF=>?_
 have t_97:=@t97 _ zh.1
 have t_85:=@t85 _ zh.2.1
 have t_75:=@t75 _ zh.2.2.1
 clear zh
 have hb:=s.hBodies
 have hsc:=s.hScore
 by_cases hok:legalC c=true/\within s.Frame 0 600=true
 ·obtain⟨hL,hfw⟩:=hok
  (have zx:=zA hL hfw;refine zq38 ?_;try exact zT)
  repeat'(apply zK.s<;>intro hc<;>(try simp only[zhd]at hc)<;>(try have hw:=X0a hc)<;>(refine zq38 ?_;try exact zT))
  all_goals(try clear zx)
  (show W C false noExt call (ZC.loop Y1t) _ _ _);refine V0i C false noExt call Y1t _ _ _ (J38 c s p) 16 ⟨0,rfl,by omega,(by simp[put_at,Q0d,K0e]),(by simp[put_at,Q0d,K0e]),(by simp[put_at,Q0d,K0e]),zge38,zge38,rfl,(zb9),zle⟩ ?_
  rintro n ρ q ⟨k,rfl,hk,e2,e3,e5,g1,g2,hj,hn,hle⟩
  by_cases hlt:(k:Int)<16
  ·rw[K0s _ (l:=s.Bodies) (k:=k) (by omega)]at hj
   generalize hbb:nth s.Bodies k=b at hj
   cases hw:rightAt c.Players k b with
   |false=>
    rw[hw]at hj
    have hne:¬rightAt c.Players k b=true:=by rw[hw];simp
    rw[X1j]at hne
    by_cases hK:b.Kind=0
    ·have hn2:¬(Body.right b=true/\¬(k:Int)<c.Players):=fun h=>hne ⟨h.1,.inl hK,by simp[hK,h.2],.inl h.2⟩
     (have zx:=zA e2 (zA e3 (zA e5 (zA g1 (zA g2 (zA hlt (zA hbb hK))))));refine zq38 ?_;try exact zT)
     repeat'(apply zK.s<;>intro hc<;>(try simp only[zhd]at hc)<;>(try have hw:=X0a hc)<;>(refine zq38 ?_;try exact zT))
     all_goals(try clear zx)
     all_goals first
      |(refine K0d hF zlq (Y0c ?_ (Z0c zno38));simp[stateRight,<- hj];done)
      |exact absurd ⟨by assumption,by assumption⟩ hn2
    ·(have zx:=zA e2 (zA e3 (zA e5 (zA g1 (zA g2 (zA hlt (zA hbb hK))))));refine zq38 ?_;try exact zT)
     repeat'(apply zK.s<;>intro hc<;>(try simp only[zhd]at hc)<;>(try have hw:=X0a hc)<;>(refine zq38 ?_;try exact zT))
     all_goals(try clear zx)
     all_goals first
      |(refine K0d hF zlq (Y0c ?_ (Z0c zno38));simp[stateRight,<- hj];done)
      |exact absurd ⟨by assumption,.inr (by assumption),by assumption,by first|exact .inl (by assumption)|exact .inr (by assumption)⟩ hne
   |true=>
    rw[hw,Bool.true_and]at hj
    obtain⟨y1,y2,y3,y4⟩:=(X1j _ _ _).1 hw
    by_cases hK:b.Kind=0
    ·have hp:¬(k:Int)<c.Players:=by simpa[hK]using y3
     (have zx:=zA e2 (zA e3 (zA e5 (zA g1 (zA g2 (zA hlt (zA hbb (zA y1 (zA hK hp))))))));refine zq38 ?_;try exact zT)
     repeat'(apply zK.s<;>intro hc<;>(try simp only[zhd]at hc)<;>(try have hw:=X0a hc)<;>(refine zq38 ?_;try exact zT))
     all_goals(try clear zx)
     exact⟨16-(k+1),by omega,k+1,rfl,by omega,zev,zev,zev,zg9,zg9,hj,zb9,zlq⟩
    ·have hp:=y2.resolve_left hK
     (have zx:=zA e2 (zA e3 (zA e5 (zA g1 (zA g2 (zA hlt (zA hbb (zA y1 (zA y3 (zA hK hp)))))))));refine zq38 ?_;try exact zT)
     repeat'(apply zK.s<;>intro hc<;>(try simp only[zhd]at hc)<;>(try have hw:=X0a hc)<;>(refine zq38 ?_;try exact zT))
     all_goals(try clear zx)
     all_goals first
      |exact⟨16-(k+1),by omega,k+1,rfl,by omega,zev,zev,zev,zg9,zg9,hj,zb9,zlq⟩
      |(exfalso;rcases y4 with y4|y4<;>contradiction)
  ·have hk16:k=16:=by omega
   subst hk16
   rw[List.drop_eq_nil_of_le (by omega)]at hj
   have hA:allFrom (rightAt c.Players) s.Bodies 0=true:=hj.symm
   (have zx:=zA e2 (zA e3 (zA e5 (zA g1 (zA g2 hlt))));refine zq38 ?_;try exact zT)
   repeat'(apply zK.s<;>intro hc<;>(try simp only[zhd]at hc)<;>(try have hw:=X0a hc)<;>(refine zq38 ?_;try exact zT))
   all_goals(try clear zx)
   (show W C false noExt call (ZC.loop K1s) _ _ _);refine V0i C false noExt call K1s _ _ _ (L38 c s p) 8 ⟨0,rfl,by omega,zev,zev,zev,g1,g2,rfl,hn,hle⟩ ?_
   clear e2 e3 e5 g1 g2 hn hle hj hlt
   rintro n ρ q ⟨k,rfl,hk,e2,e3,e7,g1,g2,hj,hn,hle⟩
   by_cases hlt:(k:Int)<8
   ·rw[K0s _ (l:=s.Score) (k:=k) (by omega)]at hj
    cases hw:scoreAt c.Players k (nth s.Score k) with
    |false=>
     rw[hw]at hj
     simp only[scoreAt]at hw
     (have zx:=zA e2 (zA e3 (zA e7 (zA g1 (zA g2 hlt))));refine zq38 ?_;try exact zT)
     repeat'(apply zK.s<;>intro hc<;>(try simp only[zhd]at hc)<;>(try have hw:=X0a hc)<;>(refine zq38 ?_;try exact zT))
     all_goals(try clear zx)
     all_goals first
      |(refine K0d hF zlq (Y0c ?_ (Z0c zno38));simp[stateRight,<- hj];done)
      |(exfalso;simp_all;done)
      |(exfalso;simp_all;omega)
    |true=>
     rw[hw,Bool.true_and]at hj
     simp only[scoreAt]at hw
     (have zx:=zA e2 (zA e3 (zA e7 (zA g1 (zA g2 hlt))));refine zq38 ?_;try exact zT)
     repeat'(apply zK.s<;>intro hc<;>(try simp only[zhd]at hc)<;>(try have hw:=X0a hc)<;>(refine zq38 ?_;try exact zT))
     all_goals(try clear zx)
     all_goals first
      |exact⟨8-(k+1),by omega,k+1,rfl,by omega,zev,zev,zev,zg9,zg9,hj,zb9,zlq⟩
      |exact⟨8-(k+1),by omega,k+1,rfl,by omega,zev,zev,zev,g1,g2,hj,hn,hle⟩
      |(exfalso;simp_all;done)
      |(exfalso;simp_all;omega)
   ·have hk8:k=8:=by omega
    subst hk8
    rw[List.drop_eq_nil_of_le (by omega)]at hj
    have hB:allFrom (scoreAt c.Players) s.Score 0=true:=hj.symm
    (have zx:=zA e2 (zA e3 (zA e7 (zA g1 (zA g2 hlt))));refine zq38 ?_;try exact zT)
    repeat'(apply zK.s<;>intro hc<;>(try simp only[zhd]at hc)<;>(try have hw:=X0a hc)<;>(refine zq38 ?_;try exact zT))
    all_goals(try clear zx)
    all_goals refine K0d hF zlq (Y0c ?_ (Z0c zno38))
    all_goals simp[stateRight,hA,hB, *]
 ·have hno:stateRight c s=false:=by
   cases h:stateRight c s with
   |false=>rfl
   |true=>have:=Z0j h;simp only[stateRight,Bool.and_eq_true]at h;exact absurd ⟨h.1.2,h.2⟩ hok
  cases hL:legalC c with
  |false=>
   (have zx:=hL;refine zq38 ?_;try exact zT)
   repeat'(apply zK.s<;>intro hc<;>(try simp only[zhd]at hc)<;>(try have hw:=X0a hc)<;>(refine zq38 ?_;try exact zT))
   all_goals(try clear zx)
   exact K0d hF zle (Y0c (by rw[hno]) (Z0c zno38))
  |true=>
   have hfw:within s.Frame 0 600=false:=by
    cases h:within s.Frame 0 600 with
    |false=>rfl
    |true=>exact absurd ⟨hL,h⟩ hok
   (have zx:=zA hL hfw;refine zq38 ?_;try exact zT)
   repeat'(apply zK.s<;>intro hc<;>(try simp only[zhd]at hc)<;>(try have hw:=X0a hc)<;>(refine zq38 ?_;try exact zT))
   all_goals(try clear zx)
   exact K0d hF zle (Y0c (by rw[hno]) (Z0c zno38))
end Go.Proofs.Ytpchcfkebljopaa
end
section
namespace Go.Proofs.Ytpchcfkebljopaa
open Go.Cl Go Go.RowKit
theorem x63_alloc(p:Hp): xalloc C p 63=.ret (.ptr p.n []) (p.new (.var sh63 (.agg ((List.replicate 16 Q0a.zero).map Q0a.cv)))):=by simp only[Cl.xalloc,tt63,ti63,z63,Q0a.zcv,List.map_replicate]
theorem s63_sub: subEq sh63 [] sh63=true:=by simp[subEq,Shape.sub]
theorem s63_subk(k:Nat)(q:List Nat)(z:Shape): subEq sh63 (k::q) z=(decide (k<16)&&subEq sh34 q z):=X0z 16 k q sh34 z
theorem s63_ok(l:List Q0a)(h:l.length=16): shOk (.agg (l.map Q0a.cv)) sh63=true:=K0n (sh:=sh63) (by simp only[CV.shape,Y0i (f:=Q0a.cv) Q0a.shape,h,sh63]) rfl
theorem s63_at(l:List Q0a)(h:l.length=16)(k:Nat)(q:List Nat)(hk:k<16): (CV.agg (l.map Q0a.cv)).at (k::q)=(Q0a.cv (nth l k)).at q:=X1o _ (by rw[h];exact hk) q
end Go.Proofs.Ytpchcfkebljopaa
end
section
namespace Go.Proofs.Ytpchcfkebljopaa
open Go.Cl Go Go.RowKit
set_option maxRecDepth 100000
set_option linter.constructorNameAsVariable false
theorem envR_mk(a:Q0a)(b:K0b)(c d:Int)(s:Lst Q0a): envR ⟨a,b,c,d,s⟩=⟨a,b,c,d,s⟩:=rfl
def J67(c:K0a)(s:Y0a)(row:Lst Q0b)(p:Hp)(n:Nat)(ρ:Env)(q:Hp): Prop:=
 ∃(k:Nat) (sh:Lst Q0a),n=16-k/\k<=16/\ρ 2=row.cv Q0b.cv/\ρ 3=.ptr p.n []/\ρ 4=.ptr (p.n+1) []/\ρ 6=.ptr (p.n+2) []/\ρ 7=.ptr (p.n+3) []/\ρ 8=sh.cv Q0a.cv/\ρ 9=I k/\sh.l=(turnsS c.Rules.l row.l s k).2/\q.t.get p.n=some (.var sh61 c.cv)/\q.t.get (p.n+1)=some (.var sh66 (turnsS c.Rules.l row.l s k).1.cv)/\q.t.get (p.n+2)=some (.var sh66 Y0a.zero.cv)/\q.t.get (p.n+3)=some (.var sh63 (.agg (s.Bodies.map Q0a.cv)))/\(sh.tl=.nil\/∃j,sh.tl=.own j/\p.n+3<j/\j<q.n/\q.t.get j=some (.tail sh.l.length)/\0<sh.l.length)/\p.n+3<q.n/\HpLe p q
def K67(c:K0a)(s:Y0a)(sh:Lst Q0a)(p:Hp)(n:Nat)(ρ:Env)(q:Hp): Prop:=
 ∃(m:Nat),n=sh.l.length-m/\m<=sh.l.length/\ρ 3=.ptr p.n []/\ρ 4=.ptr (p.n+1) []/\ρ 6=.ptr (p.n+2) []/\ρ 8=sh.cv Q0a.cv/\ρ 16=I m/\q.t.get p.n=some (.var sh61 c.cv)/\q.t.get (p.n+1)=some (.var sh66 (placeAll s (sh.l.take m)).cv)/\q.t.get (p.n+2)=some (.var sh66 Y0a.zero.cv)/\p.n+3<q.n/\HpLe p q
def L67(c:K0a)(s:Y0a)(sh:Lst Q0a)(m:Nat)(p:Hp)(n:Nat)(ρ:Env)(q:Hp): Prop:=
 ∃(k:Nat) (d:Bool) (t:Y0a),n=16-k/\k<=16/\ρ 3=.ptr p.n []/\ρ 4=.ptr (p.n+1) []/\ρ 6=.ptr (p.n+2) []/\ρ 8=sh.cv Q0a.cv/\ρ 16=I m/\ρ 17=Bo d/\ρ 18=I k/\q.t.get p.n=some (.var sh61 c.cv)/\q.t.get (p.n+1)=some (.var sh66 t.cv)/\q.t.get (p.n+2)=some (.var sh66 Y0a.zero.cv)/\PlaceAt s (nth sh.l m) k d t/\p.n+3<q.n/\HpLe p q
def M67(c:K0a)(s:Y0a)(p:Hp)(n:Nat)(ρ:Env)(q:Hp): Prop:=
 ∃(i:Nat),n=16-i/\i<=16/\ρ 3=.ptr p.n []/\ρ 4=.ptr (p.n+1) []/\ρ 6=.ptr (p.n+2) []/\ρ 19=I i/\q.t.get p.n=some (.var sh61 c.cv)/\q.t.get (p.n+1)=some (.var sh66 (hitsS c.Players s i).cv)/\q.t.get (p.n+2)=some (.var sh66 Y0a.zero.cv)/\p.n+3<q.n/\HpLe p q
def N67(c:K0a)(s:Y0a)(i:Nat)(p:Hp)(n:Nat)(ρ:Env)(q:Hp): Prop:=
 ∃(k:Nat) (t:Y0a),n=16-k/\k<=16/\ρ 3=.ptr p.n []/\ρ 4=.ptr (p.n+1) []/\ρ 6=.ptr (p.n+2) []/\ρ 19=I i/\ρ 20=I k/\q.t.get p.n=some (.var sh61 c.cv)/\q.t.get (p.n+1)=some (.var sh66 t.cv)/\q.t.get (p.n+2)=some (.var sh66 Y0a.zero.cv)/\HitAt c.Players s i k t/\p.n+3<q.n/\HpLe p q
def R67: Rel:=fun args p r=>∃(c:K0a) (s:Y0a) (row:Lst Q0b),args=[c.cv,s.cv,row.cv Q0b.cv]/\(c.Tokens.l.length<=1000000)/\(c.Rules.l.length<=1000000)/\r=.ret (stepS c row.l s).cv p
theorem t67{T:XCall}(h:Has T 67 R67)(c:K0a)(s:Y0a)(row:Lst Q0b){p:Hp}(hl:c.Tokens.l.length<=1000000)(hr:c.Rules.l.length<=1000000): T 67 [c.cv,s.cv,row.cv Q0b.cv] p=.ret (stepS c row.l s).cv p:=h _ _ _ ⟨c,s,row,rfl,hl,hr,rfl⟩
theorem zq67{A B:Prop}(k:B)(h:A=B:=by have zy:=zA @zw67<|zA @rs67<|zA @tt3<|zA @tt23<|zA @tt25<|zA @tt34<|zA @tt36<|zA @tt37<|zA @tt51<|zA @tt61<|zA @tt63<|zA @tt64<|zA @tt66<|zA ti3.eq_1<|zA ti23.eq_1<|zA ti25.eq_1<|zA ti34.eq_1<|zA ti36.eq_1<|zA ti37.eq_1<|zA ti51.eq_1<|zA ti61.eq_1<|zA ti63.eq_1<|zA ti64.eq_1<|zA ti66.eq_1<|zA @t_38<|zA @t_143<|zA @t_144<|zA @t_145<|zA @t_28<|zA @t_146<|zA @t_147<|zA @t_142<|zA @X0e<|zA @Q0f<|zA @Z0d<|zA @Q0h<|zA @Q0q<|zA @zsl23<|zA @zsl37<|zA @zsl63<|zA @zsl64<|zA @envR_mk<|zA @x63_alloc<|zA @s63_sub<|zA @s63_subk<|zA @s63_ok<|zA @s63_at<|zA @hl<|@hr;exact zQ): A:=h▸k
theorem zno67{P:Prop}(h:P:=by intro jj;simp[CV.has,CV.hasL,fault,Z0b.nohas,Y0a.nohas,Q0a.nohas,K0b.nohas]): P:=h
theorem zge67{P:Prop}(h:P:=by simp (disch:=first|exact zdl|fail) only[zheap];first|done|rfl): P:=h
theorem c67: Con C 67 R67:=by
 refine Q0e C ?_ ?_ ?_
 ·rintro args p r r' ⟨c,s,row,h,hl,hr,e⟩ ⟨c',s',row',h',hl',hr',e'⟩
  subst e;subst e';simp_all[K0a.inj_iff,Y0a.inj_iff,Q0a.inj_iff,K0b.inj_iff,V0c.inj_iff,K0j,X0q,X0p]
 ·rintro args p r ⟨c,s,row,h,hl,hr,rfl⟩;exact zr1
 rintro args p r ⟨c,s,row,rfl,hl,hr,rfl⟩
 refine zW C false [(38,R38),(143,R143),(144,R144),(145,R145),(28,R28),(146,R146),(147,R147),(142,R142)] ⟨c38,c143,c144,c145,c28,c146,c147,c142,zT⟩ rfl xf67 zc67_ok fun call zh hF=>?_
 have t_38:=@t38 _ zh.1
 have t_143:=@t143 _ zh.2.1
 have t_144:=@t144 _ zh.2.2.1
 have t_145:=@t145 _ zh.2.2.2.1
 have t_28:=@t28 _ zh.2.2.2.2.1
 have t_146:=@t146 _ zh.2.2.2.2.2.1
 have t_147:=@t147 _ zh.2.2.2.2.2.2.1
 have t_142:=@t142 _ zh.2.2.2.2.2.2.2.1
 clear zh
 cases hR:stateRight c s with
 |false=>
  (have zx:=hR;refine zq67 ?_;try exact zT)
  repeat'(apply zK.s<;>intro hc<;>(try simp only[zhd]at hc)<;>(try have hw:=X0a hc)<;>(refine zq67 ?_;try exact zT))
  all_goals(try clear zx)
  refine K0d hF zle (Y0c ?_ (Z0c zno67))
  simp[stepS,hR];rfl
 |true=>
  have hrl:=(Y0n (Z0j hR).2.2.1).2
  have hrl2:c.Rules.l.length<=100000:=by omega
  have h4:=Q1e hR
  have hb:=s.hBodies
  (have zx:=hR;refine zq67 ?_;try exact zT)
  repeat'(apply zK.s<;>intro hc<;>(try simp only[zhd]at hc)<;>(try have hw:=X0a hc)<;>(refine zq67 ?_;try exact zT))
  all_goals(try clear zx)
  (show W C false noExt call (ZC.loop Y1x) _ _ _);refine V0i C false noExt call Y1x _ _ _ (J67 c s row p) 16 ⟨0,⟨.nil,[],fun _=>rfl⟩,rfl,by omega,by simp[put_at,Q0d,K0e,argE_s],(by simp[put_at,Q0d,K0e]),(by simp[put_at,Q0d,K0e]),(by simp[put_at,Q0d,K0e]),(by simp[put_at,Q0d,K0e]),by simp[put_at,Q0d,K0e,Lst.cv],(by simp[put_at,Q0d,K0e]),rfl,zge67,zge67,zge67,zge67,.inl rfl,(zb9),zle⟩ ?_
  rintro n ρ q ⟨k,⟨tl,al,ao⟩,rfl,hk,e2,e3,e4,e6,e7,e8,e9,hal,g1,g2,g3,g4,happ,hn,hle⟩
  have hlen:=Q05 c.Rules.l row.l s k
  by_cases hlt:(k:Int)<16
  ·have hr:Body.right (nth s.Bodies k)=true:=h4 _ (by rw[Q0l (by omega)];exact List.getElem_mem _)
   have hst:turnsS c.Rules.l row.l s (k+1)=turnStep c.Rules.l row.l s.Bodies (turnsS c.Rules.l row.l s k) k:=rfl
   generalize hTk:turnsS c.Rules.l row.l s k=T at hst hal g2 hlen
   obtain⟨sk,lk⟩:=T
   simp only at hal g2 hlen
   subst hal
   have hbk:=sk.hBodies
   have hfr:=freeN_le sk
   generalize hbb:nth s.Bodies k=b at hr hst
   by_cases hK:b.Kind=1
   ·have hrb:=Y0f hr (by omega)
    have hx:=V0z row.l b.Owner
    have hX:=tdiv16 hx.2.1
    have hY:=tdiv16 hx.2.2
    have hRl:∀E,ruleRun c.Rules E=runL c.Rules.l E:=fun E=>ruleRun_l (l:=⟨.view,c.Rules.l,nofun⟩) (s:=c.Rules) rfl E
    have hlen2:=Z06 c.Rules.l (playerEnv row.l sk.Dice (freeN sk.Bodies-al.length) b)
    have hlen2:(runL c.Rules.l (playerEnv row.l sk.Dice (freeN sk.Bodies-al.length) b)).1.Shots.l.length<=64:=by simpa[playerEnv]using hlen2
    have hRR:ruleRun c.Rules (ruleOf ⟨bodyPush b ((rowInput row.l b.Owner).X.tdiv 16) ((rowInput row.l b.Owner).Y.tdiv 16),rowInput row.l b.Owner,sk.Dice,freeN sk.Bodies-al.length,⟨.nil,[],fun _=>rfl⟩⟩)=runL c.Rules.l (playerEnv row.l sk.Dice (freeN sk.Bodies-al.length) b):=hRl _
    simp only[turnStep,hbb,bodyTurn,hK,if_true,playerTurn]at hst
    generalize runL c.Rules.l (playerEnv row.l sk.Dice (freeN sk.Bodies-al.length) b)=R at hst hlen2 hRR
    obtain⟨⟨gb,gi,gd,gr,gt,gl,go⟩,ft,ok⟩:=R
    simp only at hlen2 hst
    cases ok with
    |false=>
     simp only[Bool.false_eq_true,if_false,List.append_nil]at hst
     have hm:min 65535 (b.Faults+1)=min (b.Faults+1) 65535:=by omega
     have happ2:tl=.nil\/∃j,tl=.own j/\p.n+3<j/\j<q.n/\q.t.get j=some (.tail al.length)/\0<al.length:=happ
     (have zx:=zA e2 (zA e3 (zA e4 (zA e6 (zA e7 (zA e8 (zA e9 (zA g1 (zA g2 (zA g3 (zA g4 (zA hlt (zA hbb (zA hK (zA hRR hm))))))))))))));refine zq67 ?_;try exact zT)
     repeat'(apply zK.s<;>intro hc<;>(try simp only[zhd]at hc)<;>(try have hw:=X0a hc)<;>(refine zq67 ?_;try exact zT))
     all_goals(try clear zx)
     refine⟨16-(k+1),by omega,k+1,⟨tl,al,ao⟩,rfl,by omega,zev,zev,zev,zev,zev,zev,zev,by rw[hst],zg9,by rw[hst];simp (disch:=first|exact zdl|fail) only[zheap];first|done|rfl,zg9,zg9,?_,zb9,zlq⟩
     rcases happ2 with a1|⟨j,a1,a2,a3,a4,a5⟩
     ·exact .inl a1
     ·exact .inr ⟨j,a1,a2,zb9,by simp (disch:=first|exact zdl|fail) only[zheap,a4],a5⟩
    |true=>
     simp only[if_true]at hst
     cases gl with
     |nil=>
      have happ2:tl=.nil\/∃j,tl=.own j/\p.n+3<j/\j<q.n/\q.t.get j=some (.tail al.length)/\0<al.length:=happ
      simp only[List.append_nil]at hst
      rcases happ2 with a1|⟨j,a1,a2,a3,g5,a5⟩
      ·subst a1
       (have zx:=zA e2 (zA e3 (zA e4 (zA e6 (zA e7 (zA e8 (zA e9 (zA g1 (zA g2 (zA g3 (zA g4 (zA hlt (zA hbb (zA hK hRR)))))))))))));refine zq67 ?_;try exact zT)
       repeat'(apply zK.s<;>intro hc<;>(try simp only[zhd]at hc)<;>(try have hw:=X0a hc)<;>(refine zq67 ?_;try exact zT))
       all_goals(try clear zx)
       exact⟨16-(k+1),by omega,k+1,⟨.nil,al,ao⟩,rfl,by omega,zev,zev,zev,zev,zev,zev,zev,by rw[hst],zg9,by rw[hst];simp (disch:=first|exact zdl|fail) only[zheap];first|done|rfl,zg9,zg9,.inl rfl,zb9,zlq⟩
      ·subst a1
       (have zx:=zA e2 (zA e3 (zA e4 (zA e6 (zA e7 (zA e8 (zA e9 (zA g1 (zA g2 (zA g3 (zA g4 (zA g5 (zA hlt (zA hbb (zA hK hRR))))))))))))));refine zq67 ?_;try exact zT)
       repeat'(apply zK.s<;>intro hc<;>(try simp only[zhd]at hc)<;>(try have hw:=X0a hc)<;>(refine zq67 ?_;try exact zT))
       all_goals(try clear zx)
       exact⟨16-(k+1),by omega,k+1,⟨.own j,al,ao⟩,rfl,by omega,zev,zev,zev,zev,zev,zev,zev,by rw[hst],zg9,by rw[hst];simp (disch:=first|exact zdl|fail) only[zheap];first|done|rfl,zg9,zg9,.inr ⟨j,rfl,a2,zb9,zg9,a5⟩,zb9,zlq⟩
     |cons x m=>
      simp only[List.length_cons]at hlen2
      rcases happ with a1|⟨j,a1,a2,a3,g5,a5⟩
      ·simp only at a1
       subst a1
       (have zx:=zA e2 (zA e3 (zA e4 (zA e6 (zA e7 (zA e8 (zA e9 (zA g1 (zA g2 (zA g3 (zA g4 (zA hlt (zA hbb (zA hK hRR)))))))))))));refine zq67 ?_;try exact zT)
       repeat'(apply zK.s<;>intro hc<;>(try simp only[zhd]at hc)<;>(try have hw:=X0a hc)<;>(refine zq67 ?_;try exact zT))
       all_goals(try clear zx)
       exact⟨16-(k+1),by omega,k+1,⟨.own (q.n+1+1+30),al++x::m,nofun⟩,rfl,by omega,zev,zev,zev,zev,zev,zev,zev,by rw[hst],zg9,by rw[hst];simp (disch:=first|exact zdl|fail) only[zheap];first|done|rfl,zg9,zg9,.inr ⟨q.n+1+1+30,rfl,by omega,zb9,by simp (disch:=first|exact zdl|fail) only[zheap,List.length_append,List.length_cons],by simp;omega⟩,zb9,zlq⟩
      ·simp only at a1 g5 a5
       subst a1
       (have zx:=zA e2 (zA e3 (zA e4 (zA e6 (zA e7 (zA e8 (zA e9 (zA g1 (zA g2 (zA g3 (zA g4 (zA g5 (zA hlt (zA hbb (zA hK hRR))))))))))))));refine zq67 ?_;try exact zT)
       repeat'(apply zK.s<;>intro hc<;>(try simp only[zhd]at hc)<;>(try have hw:=X0a hc)<;>(refine zq67 ?_;try exact zT))
       all_goals(try clear zx)
       exact⟨16-(k+1),by omega,k+1,⟨.own (q.n+1+1+30),al++x::m,nofun⟩,rfl,by omega,zev,zev,zev,zev,zev,zev,zev,by rw[hst],zg9,by rw[hst];simp (disch:=first|exact zdl|fail) only[zheap];first|done|rfl,zg9,zg9,.inr ⟨q.n+1+1+30,rfl,by omega,zb9,by simp (disch:=first|exact zdl|fail) only[zheap,List.length_append,List.length_cons],by simp;omega⟩,zb9,zlq⟩
   ·simp only[turnStep,hbb,bodyTurn,hK,if_false,List.append_nil]at hst
    have happ2:tl=.nil\/∃j,tl=.own j/\p.n+3<j/\j<q.n/\q.t.get j=some (.tail al.length)/\0<al.length:=happ
    (have zx:=zA e2 (zA e3 (zA e4 (zA e6 (zA e7 (zA e8 (zA e9 (zA g1 (zA g2 (zA g3 (zA g4 (zA hlt (zA hbb hK))))))))))));refine zq67 ?_;try exact zT)
    repeat'(apply zK.s<;>intro hc<;>(try simp only[zhd]at hc)<;>(try have hw:=X0a hc)<;>(refine zq67 ?_;try exact zT))
    all_goals(try clear zx)
    refine⟨16-(k+1),by omega,k+1,⟨tl,al,ao⟩,rfl,by omega,zev,zev,zev,zev,zev,zev,zev,by rw[hst],zg9,by rw[hst];simp (disch:=first|exact zdl|fail) only[zheap];first|done|rfl,zg9,zg9,?_,zb9,zlq⟩
    rcases happ2 with a1|⟨j,a1,a2,a3,a4,a5⟩
    ·exact .inl a1
    ·exact .inr ⟨j,a1,a2,zb9,by simp (disch:=first|exact zdl|fail) only[zheap,a4],a5⟩
  ·have hk16:k=16:=by omega
   subst hk16
   have hpl:=step_place hR row.l
   have hok0:=step_hit hR row.l
   have hfr0:(setsS (turnsS c.Rules.l row.l s 16) 16).1.Frame=s.Frame:=by rw[(X0v _ 16).2.1,(Y0s _ _ _ 16).2]
   have hsf:=(Z0j hR).2.2.2
   have hstep:stepS c row.l s={hitsS c.Players (setsS (turnsS c.Rules.l row.l s 16) 16).1 16 with Frame:=min ((hitsS c.Players (setsS (turnsS c.Rules.l row.l s 16) 16).1 16).Frame+1) 600}:=by unfold stepS;rw[hR];simp only[Bool.true_eq_false,if_false]
   generalize hTk:turnsS c.Rules.l row.l s 16=T at hal g2 hlen hpl hok0 hfr0 hstep
   obtain⟨sk,lk⟩:=T
   simp only at hal g2 hlen hpl
   subst hal
   generalize hs2:(setsS (sk,al) 16).1=s2 at hpl hok0 hfr0 hstep
   (have zx:=zA e2 (zA e3 (zA e4 (zA e6 (zA e7 (zA e8 (zA e9 (zA g1 (zA g2 (zA g3 (zA g4 hlt))))))))));refine zq67 ?_;try exact zT)
   repeat'(apply zK.s<;>intro hc<;>(try simp only[zhd]at hc)<;>(try have hw:=X0a hc)<;>(refine zq67 ?_;try exact zT))
   all_goals(try clear zx)
   (show W C false noExt call (ZC.loop Q1s) _ _ _);refine V0i C false noExt call Q1s _ _ _ (K67 c sk ⟨tl,al,ao⟩ p) al.length ⟨0,rfl,by omega,zev,zev,zev,zev,zev,g1,g2,g3,hn,hle⟩ ?_
   clear e2 e3 e4 e6 e7 e8 e9 g1 g2 g3 g4 happ hn hle hlt
   rintro n ρ q ⟨m,rfl,hm,e3,e4,e6,e8,e16,g1,g2,g3,hn,hle⟩
   simp only at hm g2 hlen
   by_cases hlt:(m:Int)<al.length
   ·(have zx:=zA e3 (zA e4 (zA e6 (zA e8 (zA e16 (zA g1 (zA g2 (zA g3 hlt)))))));refine zq67 ?_;try exact zT)
    repeat'(apply zK.s<;>intro hc<;>(try simp only[zhd]at hc)<;>(try have hw:=X0a hc)<;>(refine zq67 ?_;try exact zT))
    all_goals(try clear zx)
    (show W C false noExt call (ZC.loop K1t) _ _ _);refine V0i C false noExt call K1t _ _ _ (L67 c (placeAll sk (al.take m)) ⟨tl,al,ao⟩ m p) 16 ⟨0,false,placeAll sk (al.take m),rfl,by omega,zev,zev,zev,zev,zev,zev,zev,g1,g2,g3,PlaceAt.start _ _,hn,hle⟩ ?_
    clear e3 e4 e6 e8 e16 g1 g2 g3 hn hle
    rintro n ρ q ⟨k,d,t,rfl,hk,e3,e4,e6,e8,e16,e17,e18,g1,g2,g3,hP,hn,hle⟩
    have hbt:=t.hBodies
    simp only at hP
    by_cases hlk:(k:Int)<16
    ·cases d with
     |true=>
      have hend:=hP.ended (.inl rfl)
      (have zx:=zA e3 (zA e4 (zA e6 (zA e8 (zA e16 (zA e17 (zA e18 (zA g1 (zA g2 (zA g3 hlk)))))))));refine zq67 ?_;try exact zT)
      repeat'(apply zK.s<;>intro hc<;>(try simp only[zhd]at hc)<;>(try have hw:=X0a hc)<;>(refine zq67 ?_;try exact zT))
      all_goals(try clear zx)
      exact⟨al.length-(m+1),by first|omega|(simp only;omega),m+1,rfl,by first|omega|(simp only;omega),zev,zev,zev,zev,zev,g1,by rw[g2,hend];simp only[X1b (show m<al.length by omega),X00],g3,hn,hle⟩
     |false=>
      by_cases h0:(nth t.Bodies k).Kind=0
      ·have hh:=hP.hit (by omega) h0
       (have zx:=zA e3 (zA e4 (zA e6 (zA e8 (zA e16 (zA e17 (zA e18 (zA g1 (zA g2 (zA g3 (zA hlk h0))))))))));refine zq67 ?_;try exact zT)
       repeat'(apply zK.s<;>intro hc<;>(try simp only[zhd]at hc)<;>(try have hw:=X0a hc)<;>(refine zq67 ?_;try exact zT))
       all_goals(try clear zx)
       exact⟨16-(k+1),by omega,k+1,true,_,rfl,by omega,zev,zev,zev,zev,zev,zev,zev,zg9,zg9,zg9,hh,zb9,zlq⟩
      ·have hh:=hP.miss (by omega) h0
       (have zx:=zA e3 (zA e4 (zA e6 (zA e8 (zA e16 (zA e17 (zA e18 (zA g1 (zA g2 (zA g3 (zA hlk h0))))))))));refine zq67 ?_;try exact zT)
       repeat'(apply zK.s<;>intro hc<;>(try simp only[zhd]at hc)<;>(try have hw:=X0a hc)<;>(refine zq67 ?_;try exact zT))
       all_goals(try clear zx)
       exact⟨16-(k+1),by omega,k+1,false,t,rfl,by omega,zev,zev,zev,zev,zev,zev,zev,g1,g2,g3,hh,hn,hle⟩
    ·have hend:=hP.ended (.inr (by omega))
     (have zx:=zA e3 (zA e4 (zA e6 (zA e8 (zA e16 (zA e17 (zA e18 (zA g1 (zA g2 (zA g3 hlk)))))))));refine zq67 ?_;try exact zT)
     repeat'(apply zK.s<;>intro hc<;>(try simp only[zhd]at hc)<;>(try have hw:=X0a hc)<;>(refine zq67 ?_;try exact zT))
     all_goals(try clear zx)
     exact⟨al.length-(m+1),by first|omega|(simp only;omega),m+1,rfl,by first|omega|(simp only;omega),zev,zev,zev,zev,zev,g1,by rw[g2,hend];simp only[X1b (show m<al.length by omega),X00],g3,hn,hle⟩
   ·have hm2:m=al.length:=by omega
    rw[hm2,List.take_of_length_le (Nat.le_refl _),<- hpl]at g2
    (have zx:=zA e3 (zA e4 (zA e6 (zA e8 (zA e16 (zA g1 (zA g2 (zA g3 hlt)))))));refine zq67 ?_;try exact zT)
    repeat'(apply zK.s<;>intro hc<;>(try simp only[zhd]at hc)<;>(try have hw:=X0a hc)<;>(refine zq67 ?_;try exact zT))
    all_goals(try clear zx)
    (show W C false noExt call (ZC.loop Q1v) _ _ _);refine V0i C false noExt call Q1v _ _ _ (M67 c s2 p) 16 ⟨0,rfl,by omega,zev,zev,zev,zev,g1,g2,g3,hn,hle⟩ ?_
    clear e3 e4 e6 e8 e16 g1 g2 g3 hn hle hlt hm hm2
    rintro n ρ q ⟨i,rfl,hi,e3,e4,e6,e19,g1,g2,g3,hn,hle⟩
    by_cases hlt:(i:Int)<16
    ·have hok:=Y1r c.Players hok0 i hi
     have hst:hitsS c.Players s2 (i+1)=hitStep c.Players (hitsS c.Players s2 i) i:=rfl
     generalize hTi:hitsS c.Players s2 i=si at hst g2 hok
     (have zx:=zA e3 (zA e4 (zA e6 (zA e19 (zA g1 (zA g2 (zA g3 hlt))))));refine zq67 ?_;try exact zT)
     repeat'(apply zK.s<;>intro hc<;>(try simp only[zhd]at hc)<;>(try have hw:=X0a hc)<;>(refine zq67 ?_;try exact zT))
     all_goals(try clear zx)
     (show W C false noExt call (ZC.loop X1v) _ _ _);refine V0i C false noExt call X1v _ _ _ (N67 c si i p) 16 ⟨0,si,rfl,by omega,zev,zev,zev,zev,zev,g1,g2,g3,HitAt.start _ _ _,hn,hle⟩ ?_
     clear e3 e4 e6 e19 g1 g2 g3 hn hle
     rintro n ρ q ⟨k,t,rfl,hk,e3,e4,e6,e19,e20,g1,g2,g3,hH,hn,hle⟩
     have hbt:=t.hBodies
     have hsc:=t.hScore
     by_cases hlk:(k:Int)<16
     ·by_cases hK:(nth t.Bodies i).Kind=2
      ·cases hx:strikeF (nth t.Bodies i) (nth t.Bodies k) with
       |false=>
        have hh:=hH.miss (by omega) hK hx
        by_cases hx1:(nth t.Bodies k).Kind=1
        ·have hx2:bodyHit (nth t.Bodies i) (nth t.Bodies k)=false:=by rw[hit_swap hx1 hK];simpa[strikeF,hx1]using hx
         (have zx:=zA e3 (zA e4 (zA e6 (zA e19 (zA e20 (zA g1 (zA g2 (zA g3 (zA hlk (zA hK (zA hx1 hx2))))))))));refine zq67 ?_;try exact zT)
         repeat'(apply zK.s<;>intro hc<;>(try simp only[zhd]at hc)<;>(try have hw:=X0a hc)<;>(refine zq67 ?_;try exact zT))
         all_goals(try clear zx)
         exact⟨16-(k+1),by omega,k+1,t,rfl,by omega,zev,zev,zev,zev,zev,zg9,zg9,zg9,hh,zb9,zlq⟩
        ·(have zx:=zA e3 (zA e4 (zA e6 (zA e19 (zA e20 (zA g1 (zA g2 (zA g3 (zA hlk (zA hK hx1)))))))));refine zq67 ?_;try exact zT)
         repeat'(apply zK.s<;>intro hc<;>(try simp only[zhd]at hc)<;>(try have hw:=X0a hc)<;>(refine zq67 ?_;try exact zT))
         all_goals(try clear zx)
         exact⟨16-(k+1),by omega,k+1,t,rfl,by omega,zev,zev,zev,zev,zev,zg9,zg9,zg9,hh,zb9,zlq⟩
       |true=>
        obtain⟨hts,hh⟩:=hH.hit (by omega) (by omega) hK hx
        subst hts
        have hx1:(nth t.Bodies k).Kind=1:=by simp only[strikeF,Bool.and_eq_true,decide_eq_true_eq]at hx;exact hx.1
        have hx2:bodyHit (nth t.Bodies i) (nth t.Bodies k)=true:=by rw[hit_swap hx1 hK];simpa[strikeF,hx1]using hx
        have ho:=hok.own i (by omega) hK
        have hsv:=hok.score (nth t.Bodies i).Owner.toNat (by omega)
        have hmm:min 2147483647 (nth t.Score (nth t.Bodies i).Owner.toNat+1)=min (nth t.Score (nth t.Bodies i).Owner.toNat+1) 2147483647:=by omega
        (have zx:=zA e3 (zA e4 (zA e6 (zA e19 (zA e20 (zA g1 (zA g2 (zA g3 (zA hlk (zA hK (zA hx1 (zA hx2 hmm)))))))))));refine zq67 ?_;try exact zT)
        repeat'(apply zK.s<;>intro hc<;>(try simp only[zhd]at hc)<;>(try have hw:=X0a hc)<;>(refine zq67 ?_;try exact zT))
        all_goals(try clear zx)
        exact⟨16-(k+1),by omega,k+1,_,rfl,by omega,zev,zev,zev,zev,zev,zg9,zg9,zg9,hh,zb9,zlq⟩
      ·have hend:=hH.ended (.inl hK)
       (have zx:=zA e3 (zA e4 (zA e6 (zA e19 (zA e20 (zA g1 (zA g2 (zA g3 (zA hlk hK))))))));refine zq67 ?_;try exact zT)
       repeat'(apply zK.s<;>intro hc<;>(try simp only[zhd]at hc)<;>(try have hw:=X0a hc)<;>(refine zq67 ?_;try exact zT))
       all_goals(try clear zx)
       exact⟨16-(i+1),by omega,i+1,rfl,by omega,zev,zev,zev,zev,g1,by rw[g2,hst,hend],g3,hn,hle⟩
     ·have hend:=hH.ended (.inr (by omega))
      (have zx:=zA e3 (zA e4 (zA e6 (zA e19 (zA e20 (zA g1 (zA g2 (zA g3 hlk)))))));refine zq67 ?_;try exact zT)
      repeat'(apply zK.s<;>intro hc<;>(try simp only[zhd]at hc)<;>(try have hw:=X0a hc)<;>(refine zq67 ?_;try exact zT))
      all_goals(try clear zx)
      exact⟨16-(i+1),by omega,i+1,rfl,by omega,zev,zev,zev,zev,g1,by rw[g2,hst,hend],g3,hn,hle⟩
    ·have hi16:i=16:=by omega
     subst hi16
     have hfr1:(hitsS c.Players s2 16).Frame=s.Frame:=by rw[V06,hfr0]
     rw[hfr1]at hstep
     have hmm:min 600 ((hitsS c.Players s2 16).Frame+1)=min (s.Frame+1) 600:=by rw[hfr1];omega
     (have zx:=zA e3 (zA e4 (zA e6 (zA e19 (zA g1 (zA g2 (zA g3 (zA hlt (zA hfr1 hmm))))))));refine zq67 ?_;try exact zT)
     repeat'(apply zK.s<;>intro hc<;>(try simp only[zhd]at hc)<;>(try have hw:=X0a hc)<;>(refine zq67 ?_;try exact zT))
     all_goals(try clear zx)
     refine K0d hF zlq (Y0c ?_ (Z0c zno67))
     rw[hstep,show min (s.Frame+1) 600=min 600 (s.Frame+1) by omega]
end Go.Proofs.Ytpchcfkebljopaa
end
section
namespace Go.Proofs.Ytpchcfkebljopaa
open Go.Cl Go Go.RowKit
def stateOf(c:K0a)(l:List (Lst Int)): Y0a:=gameFold c ((rowsOf c.Players l).map Lst.l) (firstS c)
end Go.Proofs.Ytpchcfkebljopaa
end
section
namespace Go.Proofs.Ytpchcfkebljopaa
open Go.Cl Go Go.RowKit
set_option maxRecDepth 100000
set_option linter.constructorNameAsVariable false
def J87(c:K0a)(s:Y0a)(rows:Lst (Lst Q0b))(p:Hp)(n:Nat)(ρ:Env)(q:Hp): Prop:=
 ∃(k:Nat) (st:Y0a),n=rows.l.length-k/\k<=rows.l.length/\ρ 2=rows.cv (Lst.cv Q0b.cv)/\ρ 3=.ptr p.n []/\ρ 4=.ptr (p.n+1) []/\ρ 6=.ptr (p.n+2) []/\ρ 7=I k/\q.t.get p.n=some (.var sh61 c.cv)/\q.t.get (p.n+1)=some (.var sh66 st.cv)/\q.t.get (p.n+2)=some (.var sh66 Y0a.zero.cv)/\gameFold c ((rows.l.drop k).map Lst.l) st=gameFold c (rows.l.map Lst.l) s/\p.n+2<q.n/\HpLe p q
def R87: Rel:=fun args p r=>∃(c:K0a) (s:Y0a) (rows:Lst (Lst Q0b)),args=[c.cv,s.cv,rows.cv (Lst.cv Q0b.cv)]/\(c.Tokens.l.length<=1000000)/\(c.Rules.l.length<=1000000)/\(rows.l.length<=1000000)/\r=.ret (gameFold c (rows.l.map Lst.l) s).cv p
theorem t87{T:XCall}(h:Has T 87 R87)(c:K0a)(s:Y0a)(rows:Lst (Lst Q0b)){p:Hp}(hl:c.Tokens.l.length<=1000000)(hr:c.Rules.l.length<=1000000)(hn0:rows.l.length<=1000000): T 87 [c.cv,s.cv,rows.cv (Lst.cv Q0b.cv)] p=.ret (gameFold c (rows.l.map Lst.l) s).cv p:=h _ _ _ ⟨c,s,rows,rfl,hl,hr,hn0,rfl⟩
theorem zq87{A B:Prop}(k:B)(h:A=B:=by have zy:=zA @zw87<|zA @rs87<|zA @tt3<|zA @tt61<|zA @tt66<|zA @tt92<|zA @tt108<|zA ti3.eq_1<|zA ti61.eq_1<|zA ti66.eq_1<|zA ti92.eq_1<|zA ti108.eq_1<|zA @t_67<|zA @X0e<|zA @Q0f<|zA @zsl92<|zA @zsl108<|zA @hl<|zA @hr<|@hn0;exact zQ): A:=h▸k
theorem zno87{P:Prop}(h:P:=by intro jj;simp[CV.has,CV.hasL,fault,Z0b.nohas,Y0a.nohas]): P:=h
theorem zge87{P:Prop}(h:P:=by simp (disch:=first|exact zdl|fail) only[zheap];first|done|rfl): P:=h
theorem c87: Con C 87 R87:=by
 refine Q0e C ?_ ?_ ?_
 ·rintro args p r r' ⟨c,s,rows,h,hl,hr,hn0,e⟩ ⟨c',s',rows',h',hl',hr',hn0',e'⟩
  subst e;subst e';simp_all[K0a.inj_iff,Y0a.inj_iff,Q1x,X0p,Q1x]
 ·rintro args p r ⟨c,s,rows,h,hl,hr,hn0,rfl⟩;exact zr1
 rintro args p r ⟨c,s,rows,rfl,hl,hr,hn0,rfl⟩
 refine zW C false [(67,R67)] ⟨c67,zT⟩ rfl xf87 zc87_ok fun call zh hF=>?_
 have t_67:=@t67 _ zh.1
 clear zh
 (have zx:=zT;refine zq87 ?_;try exact zT)
 repeat'(apply zK.s<;>intro hc<;>(try simp only[zhd]at hc)<;>(try have hw:=X0a hc)<;>(refine zq87 ?_;try exact zT))
 all_goals(try clear zx)
 (show W C false noExt call (ZC.loop zn87_7) _ _ _);refine V0i C false noExt call zn87_7 _ _ _ (J87 c s rows p) rows.l.length ⟨0,s,rfl,by omega,by simp[put_at,Q0d,K0e,argE_s],(by simp[put_at,Q0d,K0e]),(by simp[put_at,Q0d,K0e]),(by simp[put_at,Q0d,K0e]),(by simp[put_at,Q0d,K0e]),zge87,zge87,zge87,rfl,(zb9),zle⟩ ?_
 rintro n ρ q ⟨k,st,rfl,hk,e2,e3,e4,e6,e7,g1,g2,g3,hj,hn,hle⟩
 by_cases hlt:(k:Int)<rows.l.length
 ·rw[V0s (l:=rows.l) (k:=k) (by omega)]at hj
  (have zx:=zA e2 (zA e3 (zA e4 (zA e6 (zA e7 (zA g1 (zA g2 (zA g3 hlt)))))));refine zq87 ?_;try exact zT)
  repeat'(apply zK.s<;>intro hc<;>(try simp only[zhd]at hc)<;>(try have hw:=X0a hc)<;>(refine zq87 ?_;try exact zT))
  all_goals(try clear zx)
  exact⟨rows.l.length-(k+1),by omega,k+1,stepS c (nth rows.l k).l st,rfl,by omega,zev,zev,zev,zev,zev,zg9,zg9,zg9,hj,zb9,zlq⟩
 ·have hk8:k=rows.l.length:=by omega
  subst hk8
  rw[List.drop_eq_nil_of_le (Nat.le_refl _)]at hj
  have hj:st=gameFold c (rows.l.map Lst.l) s:=hj
  (have zx:=zA e2 (zA e3 (zA e4 (zA e6 (zA e7 (zA g1 (zA g2 (zA g3 hlt)))))));refine zq87 ?_;try exact zT)
  repeat'(apply zK.s<;>intro hc<;>(try simp only[zhd]at hc)<;>(try have hw:=X0a hc)<;>(refine zq87 ?_;try exact zT))
  all_goals(try clear zx)
  refine K0d hF zlq (Y0c ?_ (Z0c zno87))
  rw[hj]
def R32: Rel:=fun args p r=>∃(c:K0a) (l:Lst (Lst Int)),args=[c.cv,Lst.cv (Lst.cv I) l]/\(c.Tokens.l.length<=1000000)/\(c.Rules.l.length<=1000000)/\(1<=c.Players/\c.Players<=100)/\r=.ret (stateOf c l.l).cv p
theorem t32{T:XCall}(h:Has T 32 R32)(c:K0a)(l:Lst (Lst Int)){p:Hp}(hl:c.Tokens.l.length<=1000000)(hr:c.Rules.l.length<=1000000)(hp:1<=c.Players/\c.Players<=100): T 32 [c.cv,Lst.cv (Lst.cv I) l] p=.ret (stateOf c l.l).cv p:=h _ _ _ ⟨c,l,rfl,hl,hr,hp,rfl⟩
theorem zq32{A B:Prop}(k:B)(h:A=B:=by have zy:=zA @zw32<|zA @rs32<|zA @tt3<|zA @tt61<|zA @tt66<|zA ti3.eq_1<|zA ti61.eq_1<|zA ti66.eq_1<|zA @t_61<|zA @t_66<|zA @t_87<|zA @X0e<|zA @Q0f<|zA @ownL_nil<|zA @ownL_cons<|zA @ownH_nil<|zA @ownH_cons<|zA @hl<|zA @hr<|@hp;exact zQ): A:=h▸k
theorem zno32{P:Prop}(h:P:=by intro jj;simp[CV.has,CV.hasL,fault,Z0b.nohas,Y0a.nohas]): P:=h
theorem c32: Con C 32 R32:=by
 refine Q0e C ?_ ?_ ?_
 ·rintro args p r r' ⟨c,l,h,hl,hr,hp,e⟩ ⟨c',l',h',hl',hr',hp',e'⟩
  subst e;subst e';simp_all[K0a.inj_iff,Y0a.inj_iff,Y09]
 ·rintro args p r ⟨c,l,h,hl,hr,hp,rfl⟩;exact zr1
 rintro args p r ⟨c,l,rfl,hl,hr,hp,rfl⟩
 refine zW C false [(61,R61),(66,R66),(87,R87)] ⟨c61,c66,c87,zT⟩ rfl xf32 zc32_ok fun call zh hF=>?_
 have t_61:=@t61 _ zh.1
 have t_66:=@t66 _ zh.2.1
 have t_87:=@t87 _ zh.2.2.1
 clear zh
 have hrl:=rowsOf_len c.Players l.l
 have hst:stateOf c l.l=gameFold c ((rowsOf c.Players l.l).map Lst.l) (firstS c):=rfl
 generalize hR:rowsOf c.Players l.l=R at hrl hst
 cases R with
 |nil=>
  (have zx:=hR;refine zq32 ?_;try exact zT)
  repeat'(apply zK.s<;>intro hc<;>(try simp only[zhd]at hc)<;>(try have hw:=X0a hc)<;>(refine zq32 ?_;try exact zT))
  all_goals(try clear zx)
  rw[hst]
  exact K0d hF zle (Y0c rfl (Z0c zno32))
 |cons r R=>
  have hrr:R.length<=39:=by simpa using hrl
  (have zx:=hR;refine zq32 ?_;try exact zT)
  repeat'(apply zK.s<;>intro hc<;>(try simp only[zhd]at hc)<;>(try have hw:=X0a hc)<;>(refine zq32 ?_;try exact zT))
  all_goals(try clear zx)
  rw[hst]
  exact K0d hF zle (Y0c rfl (Z0c zno32))
end Go.Proofs.Ytpchcfkebljopaa
end
section
namespace Go.Proofs.Ytpchcfkebljopaa
open Go.Cl Go Go.RowKit
set_option maxRecDepth 100000
def zn18_1:=ZC.reg [zu 4 (.box 57 (Tm 0)),zv 8 (.assign (.const (.bool false)))]
def zn18_4:=ZC.reg [zu 16 (zcf 59 [] []),zv 17 (.unOp .not 4 (Tm 16))]
def zn18_7:=ZC.reg [zv 8 (.assign (.const (.bool false)))]
def zn18_9:=ZC.reg [zu 18 (zld 57 4),zu 19 (zcf 31 [Tm 18] [57]),zu 9 (.alloc 61),zv0 (.store 61 (Tm 9) (Tm 19))]
def zn18_11:=ZC.reg [zu 20 (zld 61 9),zu 21 (zmv 1),zu 22 (zcf 32 [Tm 20,Tm 21] [61,58]),zu 10 (.alloc 66),zv0 (.store 66 (Tm 10) (Tm 22))]
def zn18_13:=ZC.reg [zu 23 (zfa 61 9 0),zu 24 (zld 3 23),zu 25 (zmv 2),zu 26 (zcf 65 [Tm 24,Tm 25] [3,24]),zv 11 (zas 26)]
def zn18_15:=ZC.reg [zu 27 (zmv 3),zu 28 (zfa 61 9 0),zu 29 (zld 3 28),zu 30 (.binOp .add 3 (Tm 29) (Kn 1) 3),zu 31 (zcf 37 [Tm 27,Tm 30] [3,3]),zv 3 (zas 31)]
def zn18_17:=ZC.reg [⟨some 32,.buildSlice 108 0 ⟨[]⟩,none,false⟩,zu 33 (zmv 11),zu 34 (zcb .append [Tm 32,Tm 33] [108,108]),zv 12 (zas 34)]
def zn18_20:=ZC.reg [zu 35 (zmv 3),zv 13 (zas 35)]
def zn18_25:=ZC.reg [zu 36 (zmv 13),zu 37 (zmv 12),zu 38 (zcb .len [Tm 37] [108]),zv 39 (.binOp .lss 3 (Tm 36) (Tm 38) 3)]
def zn18_29:=ZC.reg [zu 42 (zmv 12),zu 43 (zmv 13),⟨some 44,.build 110 ⟨[]⟩,none,false⟩,zu 45 (zia 108 42 43),zv0 (.store 110 (Tm 45) (Tm 44))]
def zn18_30:=ZC.reg [zu 40 (zmv 13),zu 41 (.binOp .add 3 (Tm 40) (Kn 1) 3),zv 13 (zas 41)]
def Y1j:=ZC.seq (ZC.seq zn18_25 (ZC.cond (Tm 39) ZC.skip (ZC.exit 0))) (ZC.seq (ZC.block 1 zn18_29) zn18_30)
def K1f:=ZC.reg [⟨some 46,.buildSlice 108 0 ⟨[]⟩,none,false⟩,zu 47 (zmv 11),zu 48 (zcb .append [Tm 46,Tm 47] [108,108]),zv 14 (zas 48)]
def V1d:=ZC.reg [zu 49 (zmv 14),zu 50 (zcb .len [Tm 49] [108]),zv 51 (.move (Kn 0))]
def zn18_39:=ZC.reg [zv 52 (.binOp .lss 3 (Tm 51) (Tm 50) 3)]
def zn18_45:=ZC.reg [zu 53 (zmv 51),zv 15 (zas 53)]
def zn18_46:=ZC.reg [zu 54 (zmv 14),zu 55 (zmv 15),zu 56 (zmv 14),zu 57 (zmv 15),zu 58 (zia 108 56 57),zu 59 (zfa 110 58 0),zu 60 (zld 4 59),zu 61 (.unOp .not 4 (Tm 60)),zu 62 (zia 108 54 55),zu 63 (zfa 110 62 0),zv0 (.store 4 (Tm 63) (Tm 61))]
def zn18_47:=ZC.reg [zu 64 (.binOp .add 3 (Tm 51) (Kn 1) 3),zv 51 (zmv 64)]
def Q00:=ZC.seq zn18_39 (ZC.seq (ZC.cond (Tm 52) ZC.skip (ZC.exit 2)) (ZC.seq (ZC.block 3 (ZC.seq zn18_45 zn18_46)) zn18_47))
def Y1e:=ZC.draw 33 [(28,.makeSlice 108 (Kn 20) (Kn 20))] [zdd 0 65 (zld 61 9) false [] [] false,zdd 1 66 (zld 66 10) false [] [] false,zdd 2 67 (zmv 11) false [] [] false,zdd 3 68 (zmv 3) false [] [] false,zdd 4 69 (.slice 108 (Tm 67) none (some (Tm 68)) none) false [] [] false,zdd 5 70 (zcf 62 [Tm 65,Tm 66,Tm 69] [61,66,108]) false [] [] true,zdd 6 71 (zld 61 9) false [5] [] false,zdd 7 72 (zld 66 10) false [5] [] false,zdd 8 73 (zmv 12) true [] [] false,zdd 9 74 (zcf 62 [Tm 71,Tm 72,Tm 73] [61,66,108]) true [] [] false,zdd 10 75 (.binOp .eql 66 (Tm 70) (Tm 74) 66) true [] [] false,zdd 11 76 (zmv 75) true [] [] false,⟨12,some 77,zld 61 9,some (76,true),false,[],[],false⟩,⟨13,some 78,zld 66 10,some (76,true),false,[],[],false⟩,⟨14,some 79,zmv 14,some (76,true),false,[],[],false⟩,⟨15,some 80,zcf 62 [Tm 77,Tm 78,Tm 79] [61,66,108],some (76,true),false,[],[],true⟩,⟨16,some 81,zld 61 9,some (76,true),false,[15],[],false⟩,⟨17,some 82,zld 66 10,some (76,true),false,[15],[],false⟩,⟨18,some 83,zmv 11,some (76,true),true,[],[],false⟩,⟨19,some 84,zcf 62 [Tm 81,Tm 82,Tm 83] [61,66,108],some (76,true),true,[],[],false⟩,⟨20,some 85,.binOp .eql 66 (Tm 80) (Tm 84) 66,some (76,true),true,[],[],false⟩,zdd 21 86 (.pick (Tm 76) (Tm 85) (.const (.bool false))) true [] [] false,zdd 22 87 (zmv 86) true [] [] false,⟨23,some 88,zld 61 9,some (87,true),false,[],[],false⟩,⟨24,some 89,zld 66 10,some (87,true),false,[],[],false⟩,⟨25,some 90,zcf 62 [Tm 88,Tm 89,.const (.slice none 0 0)] [61,66,108],some (87,true),false,[],[],true⟩,⟨26,some 91,zld 61 9,some (87,true),false,[25],[],false⟩,⟨27,some 92,zld 66 10,some (87,true),false,[25],[],false⟩,⟨28,some 93,.makeSlice 108 (Kn 20) (Kn 20),some (87,true),true,[25],[],false⟩,⟨29,some 94,zcf 62 [Tm 91,Tm 92,Tm 93] [61,66,108],some (87,true),true,[],[],false⟩,⟨30,some 95,.binOp .eql 66 (Tm 90) (Tm 94) 66,some (87,true),true,[],[],false⟩,zdd 31 96 (.pick (Tm 87) (Tm 95) (.const (.bool false))) true [] [] false,zdd 32 8 (zas 96) true [] [] false]
def zn18_0:=ZC.seq zn18_1 (ZC.seq (ZC.seq zn18_4 (ZC.cond (Tm 17) (ZC.seq zn18_7 ZC.ret) ZC.skip)) (ZC.seq zn18_9 (ZC.seq zn18_11 (ZC.seq zn18_13 (ZC.seq zn18_15 (ZC.seq zn18_17 (ZC.seq (ZC.seq zn18_20 (ZC.block 0 (ZC.loop Y1j))) (ZC.seq K1f (ZC.seq (ZC.seq V1d (ZC.block 2 (ZC.loop Q00))) (ZC.seq Y1e ZC.ret))))))))))
def zc18: ZC:=zn18_0
theorem zc18_ok: zcode (xfOf Try.f18).code=some zc18:=by kernel_rfl
def zw18:=zU C zc18.eq_1<|zU C zn18_1.eq_1<|zU C zn18_4.eq_1<|zU C zn18_7.eq_1<|zU C zn18_9.eq_1<|zU C zn18_11.eq_1<|zU C zn18_13.eq_1<|zU C zn18_15.eq_1<|zU C zn18_17.eq_1<|zU C zn18_20.eq_1<|zU C zn18_25.eq_1<|zU C zn18_29.eq_1<|zU C zn18_30.eq_1<|zU C Y1j.eq_1<|zU C K1f.eq_1<|zU C V1d.eq_1<|zU C zn18_39.eq_1<|zU C zn18_45.eq_1<|zU C zn18_46.eq_1<|zU C zn18_47.eq_1<|zU C Q00.eq_1<|zU C Y1e.eq_1<|(zunf C zn18_0.eq_1)
theorem rs18: (xfOf Try.f18).rs=[.tmp 8]:=by kernel_rfl
def xf18:=zF C 18 Try.f18
end Go.Proofs.Ytpchcfkebljopaa
end
section
namespace Go.Proofs.Ytpchcfkebljopaa
open Go.Cl Go Go.RowKit
theorem K08: clampIn K0b.zero=K0b.zero:=by decide
def RowEq(a b:List Q0b): Prop:=∀o:Int,0<=o->rowInput a o=rowInput b o
theorem turn_row{rules:List Q0c}{a b:List Q0b}{dice room:Int}{x:Q0a}(h:RowEq a b)(hx:x.Kind=1->0<=x.Owner): bodyTurn rules a dice room x=bodyTurn rules b dice room x:=by
 unfold bodyTurn
 split
 ·rename_i hk
  have he:playerEnv a dice room x=playerEnv b dice room x:=by unfold playerEnv;rw[h x.Owner (hx hk)]
  unfold playerTurn;rw[he]
 ·rfl
theorem turns_row{rules:List Q0c}{a b:List Q0b}{s:Y0a}(h:RowEq a b)(hs:∀k,(nth s.Bodies k).Kind=1->0<=(nth s.Bodies k).Owner): ∀k,turnsS rules a s k=turnsS rules b s k
 |0=>rfl
 |k+1=>by rw[turnsS,turnsS,turns_row h hs k];unfold turnStep;rw[turn_row h (hs k)]
theorem Z1t{c:K0a}{a b:List Q0b}{s:Y0a}(h:RowEq a b): stepS c a s=stepS c b s:=by
 unfold stepS
 split
 ·rfl
 ·rename_i hR
  have hr:stateRight c s=true:=by cases hh:stateRight c s<;>simp_all
  rw[turns_row h fun k hk=>?_]
  by_cases hl:k<s.Bodies.length
  ·have hm:=Q1e hr (nth s.Bodies k) (by rw[Q0l hl];exact List.getElem_mem _)
   exact(Y0f hm (by rw[hk];decide)).1.1
  ·have:nth s.Bodies k=default:=by unfold nth;simp[hl]
   rw[this];decide
def cutRow(r:List Q0b)(n i:Nat): List Q0b:=r.mapIdx fun k x=>if n<=k/\k<i then Q0b.zero else x
theorem V0n(r:List Q0b)(n i:Nat): (cutRow r n i).length=r.length:=by rw[cutRow,List.length_mapIdx]
theorem cutRow_0(r:List Q0b)(n:Nat): cutRow r n n=r:=by
 refine List.ext_getElem (V0n r n n) fun k h1 h2=>?_
 simp only[cutRow,List.getElem_mapIdx]
 rw[if_neg (by omega)]
theorem cutRow_s(r:List Q0b){n i:Nat}(h:n<=i): (cutRow r n i).set i Q0b.zero=cutRow r n (i+1):=by
 refine List.ext_getElem (by rw[List.length_set,V0n,V0n]) fun k h1 h2=>?_
 simp only[cutRow,List.getElem_set,List.getElem_mapIdx]
 by_cases e:i=k
 ·subst e;rw[if_pos rfl,if_pos (by omega)]
 ·rw[if_neg e]
  by_cases h3:n<=k/\k<i
  ·rw[if_pos h3,if_pos (by omega)]
  ·rw[if_neg h3,if_neg (by omega)]
theorem cut_eq(r:List Q0b){n:Nat}(h:n<=r.length): RowEq (r.take n) (cutRow r n r.length):=by
 intro o ho
 unfold rowInput
 rw[V0n,List.length_take]
 obtain⟨k,rfl⟩:∃k:Nat,o=k:=⟨o.toNat,by omega⟩
 simp only[Int.toNat_natCast]
 by_cases h1:k<n
 ·rw[if_neg (by omega),if_neg (by omega)]
  rw[Q0l (by rw[List.length_take];omega),Q0l (by rw[V0n];omega)]
  simp only[cutRow,List.getElem_take,List.getElem_mapIdx]
  rw[if_neg (by omega)]
 ·rw[if_pos (by omega)]
  by_cases h2:k<r.length
  ·rw[if_neg (by omega),Q0l (by rw[V0n];omega)]
   simp only[cutRow,List.getElem_mapIdx]
   rw[if_pos (by omega)]
   exact K08.symm
  ·rw[if_pos (by omega)]
def flipC(x:Q0b): Q0b:={x with Real:=!x.Real}
def flipRow(r:List Q0b)(i:Nat): List Q0b:=r.mapIdx fun k x=>if k<i then flipC x else x
theorem Y0l(r:List Q0b)(i:Nat): (flipRow r i).length=r.length:=by rw[flipRow,List.length_mapIdx]
theorem flipRow_0(r:List Q0b): flipRow r 0=r:=by
 refine List.ext_getElem (Y0l r 0) fun k h1 h2=>?_
 simp only[flipRow,List.getElem_mapIdx]
 rw[if_neg (by omega)]
theorem flipRow_at(r:List Q0b){i:Nat}(h:i<r.length): nth (flipRow r i) i=nth r i:=by
 rw[Q0l (by rw[Y0l];exact h),Q0l h]
 simp only[flipRow,List.getElem_mapIdx]
 rw[if_neg (by omega)]
theorem flipRow_s(r:List Q0b){i:Nat}(h:i<r.length): (flipRow r i).set i (flipC (nth r i))=flipRow r (i+1):=by
 refine List.ext_getElem (by rw[List.length_set,Y0l,Y0l]) fun k h1 h2=>?_
 simp only[flipRow,List.getElem_set,List.getElem_mapIdx]
 by_cases e:i=k
 ·subst e;rw[if_pos rfl,if_pos (by omega),Q0l h]
 ·rw[if_neg e]
  by_cases h3:k<i
  ·rw[if_pos h3,if_pos (by omega)]
  ·rw[if_neg h3,if_neg (by omega)]
theorem flip_eq(r:List Q0b): RowEq (flipRow r r.length) r:=by
 intro o ho
 unfold rowInput
 rw[Y0l]
 obtain⟨k,rfl⟩:∃k:Nat,o=k:=⟨o.toNat,by omega⟩
 simp only[Int.toNat_natCast]
 by_cases h1:k<r.length
 ·rw[if_neg (by omega),if_neg (by omega),Q0l (by rw[Y0l];exact h1),Q0l h1]
  simp only[flipRow,List.getElem_mapIdx]
  rw[if_pos h1];rfl
 ·rw[if_pos (by omega),if_pos (by omega)]
theorem none_eq(n:Nat): RowEq [] (List.replicate n Q0b.zero):=by
 intro o ho
 unfold rowInput
 obtain⟨k,rfl⟩:∃k:Nat,o=k:=⟨o.toNat,by omega⟩
 simp only[Int.toNat_natCast,List.length_nil,List.length_replicate]
 rw[if_pos (by omega)]
 by_cases h1:k<n
 ·rw[if_neg (by omega),Q0l (by rw[List.length_replicate];exact h1),List.getElem_replicate]
  exact K08.symm
 ·rw[if_pos (by omega)]
end Go.Proofs.Ytpchcfkebljopaa
end
section
namespace Go.Proofs.Ytpchcfkebljopaa
open Go.Cl Go Go.RowKit
set_option maxRecDepth 100000
set_option linter.constructorNameAsVariable false
def R62z: Rel:=fun args p r=>R62 args p r\/RFrz R62 args p r
theorem c62z: Con C 62 R62z:=con_or C c62 (con_frz C c62) (by
 rintro args p r r' ⟨c,s,row,rfl,_⟩ ⟨a,j,sh,l,sz,e,_⟩
 have:=congrArg List.getLast? e
 simp[Lst.cv]at this)
theorem t62z{T:XCall}(h:Has T 62 R62z): (∀(c:K0a) (s:Y0a) (row:Lst Q0b) {p:Hp},c.Tokens.l.length<=1000000->c.Rules.l.length<=1000000->T 62 [c.cv,s.cv,row.cv Q0b.cv] p=.ret (stepS c row.l s).cv p) /\
  ∀(L:List Q0b) (n:Nat) (_:L.length=n) (c:K0a) (s:Y0a) (j:Nat) {p:Hp},c.Tokens.l.length<=1000000->c.Rules.l.length<=1000000->p.t.get j=some (.var (.n (List.replicate n sh110)) (.agg (L.map Q0b.cv)))->T 62 [c.cv,s.cv,.slc j [] 0 n] p=.ret (stepS c L s).cv (p.set j none):=by
 refine⟨fun c s row p h1 h2=>h _ _ _ (.inl ⟨c,s,row,rfl,h1,h2,rfl⟩),fun L n hL c s j p h1 h2 hg=>h _ _ _ (.inr ⟨[c.cv,s.cv],j,_,L.map Q0b.cv,4,?_,hg,fun x hx=>?_,⟨c,s,⟨.part,L,nofun⟩,rfl,h1,h2,rfl⟩⟩)⟩
 ·rw[List.length_map,hL];rfl
 ·obtain⟨y,_,rfl⟩:=List.mem_map.1 hx;rfl
theorem app108x(p:Hp)(s:Lst Q0b)(h0:s.l≠[])(hl:s.l.length<=1000000): xappend C true p 108 108 (Lst.cv Q0b.cv ⟨.exact,[],nofun⟩) (Lst.cv Q0b.cv s)=.ret (.slc p.n [] 0 s.l.length) (p.new (.var (.n (List.replicate s.l.length sh110)) (.agg (s.l.map Q0b.cv)))):=by
 obtain⟨tl,l,o⟩:=s
 simp only at h0 hl ⊢
 cases l with
 |nil=>exact absurd rfl h0
 |cons x l=>
  have ha:allSh ((x::l).map Q0b.cv) sh110=true:=allSh_map (fun x=>Q0b.shOk x) (x::l)
  simp only[List.map_cons]at ha
  simp only[List.length_cons]at hl
  have h3:Nat.ble ((l.length+1)*32) 140737488355328=true:=Nat.ble_eq_true_of_le (by omega)
  have h4:Nat.ble (l.length+1) 9223372036854775807=true:=Nat.ble_eq_true_of_le (by omega)
  have h6:(Tail.exact.full&&allSh [] sh110)=true:=rfl
  simp only[xappend,tt108,ti108,tt110,ti110,cond_true,Lst.cv,xsrc,srcOf,List.map_nil,List.map_cons,ha,xappmut,List.length_cons,List.length_nil,List.length_map,Nat.zero_add,List.nil_append,h3,h4,h6,Bool.and_self]
theorem sl108p(h:Heap)(R:List Q0b)(m:Nat)(hm:m<=R.length): qslice C h 108 (Lst.cv Q0b.cv ⟨.part,R,nofun⟩) none (some (I m)) none=some (Lst.cv Q0b.cv ⟨.part,R.take m,nofun⟩):=by
 simp only[qslice,tt108,ti108,tt110,Lst.cv]
 rw[if_pos (show((R.map Q0b.cv).all fun v=>decide (v.shape=ti110.sh))=true from shapes_s (fun x=>K0t (Q0b.shOk x)) R)]
 have hq:qbnd (some (I (m:Int))) (R.map Q0b.cv).length (R.map Q0b.cv).length=some m:=by
  simp only[qbnd,List.length_map]
  rw[if_pos (by omega)];simp
 have hl:qbnd none 0 m=some 0:=rfl
 simp only[hq,hl,List.drop_zero,List.map_take]
theorem cl20: constLen (Kn 20) (Kn 20)=some 20:=by rfl
theorem no20: isNoneB (some 20)=false:=by rfl
theorem al20: allocObj C (.makeSlice 108 (Kn 20) (Kn 20))=some (.var (.n (List.replicate 20 sh110)) (.agg ((List.replicate 20 Q0b.zero).map Q0b.cv))):=by
 simp only[allocObj,cl20,tt108,ti108,tt110,List.map_replicate,Q0b.zcv];rfl
theorem cellAt{L:List Q0b}{k:Nat}(h:k<L.length): (CV.agg (L.map Q0b.cv)).at [k,0]=Bo (nth L k).Real:=by
 rw[X1o Q0b.cv h];rfl
theorem cellSet{L:List Q0b}{k:Nat}(h:k<L.length): CV.set (.agg (L.map Q0b.cv)) [k,0] (Bo (!(nth L k).Real))=.agg ((L.set k (flipC (nth L k))).map Q0b.cv):=by
 rw[X1g Q0b.cv h,<- map_set' Q0b.cv];rfl
theorem qb110: qbuild C 110 []=some Q0b.zero.cv:=by
 simp only[qbuild,tt110];rfl
def J18(c:K0a)(s:Y0a)(R:List Q0b)(m N:Nat)(p:Hp)(n:Nat)(ρ:Env)(q:Hp): Prop:=
 ∃i:Nat,n=N-i/\m<=i/\i<=N/\ρ 3=I m/\ρ 9=.ptr (p.n+1) []/\ρ 10=.ptr (p.n+2) []/\ρ 11=Lst.cv Q0b.cv ⟨.part,R,nofun⟩/\ρ 12=.slc (p.n+3) [] 0 N/\ρ 13=I i/\q.t.get (p.n+1)=some (.var sh61 c.cv)/\q.t.get (p.n+2)=some (.var sh66 s.cv)/\q.t.get (p.n+3)=some (.var (.n (List.replicate N sh110)) (.agg ((cutRow R m i).map Q0b.cv)))/\q.n=p.n+4/\HpLe p q
def L18(c:K0a)(s:Y0a)(R:List Q0b)(m N:Nat)(p:Hp)(n:Nat)(ρ:Env)(q:Hp): Prop:=
 ∃i:Nat,n=N-i/\i<=N/\ρ 3=I m/\ρ 9=.ptr (p.n+1) []/\ρ 10=.ptr (p.n+2) []/\ρ 11=Lst.cv Q0b.cv ⟨.part,R,nofun⟩/\ρ 12=.slc (p.n+3) [] 0 N/\ρ 14=.slc (p.n+4) [] 0 N/\ρ 50=I N/\ρ 51=I i/\q.t.get (p.n+1)=some (.var sh61 c.cv)/\q.t.get (p.n+2)=some (.var sh66 s.cv)/\q.t.get (p.n+3)=some (.var (.n (List.replicate N sh110)) (.agg ((cutRow R m N).map Q0b.cv)))/\q.t.get (p.n+4)=some (.var (.n (List.replicate N sh110)) (.agg ((flipRow R i).map Q0b.cv)))/\q.n=p.n+5/\HpLe p q
def R18: Rel:=fun args p r=>∃(x:V0a) (l:Lst (Lst Int)) (row:Lst Int) (at_:Int),args=[x.cv,Lst.cv (Lst.cv I) l,Lst.cv I row,I at_]/\r=.ret (Bo true) p
theorem zq18{A B:Prop}(k:B)(h:A=B:=by((try simp -dsimp (disch:=first|exact zdis|fail) only[zcore,zall,zopm,zop,zcallOp,qop,qbuiltin,ofOpt,List.map,reduceCtorEq,if_true,if_false,↓reduceIte,zbin,eqRes,qassert,qnum,qshift,qun,kindOf,allocV,List.nil_append,List.append_nil,List.cons_append,List.length_cons,List.length_nil,Nat.reduceAdd,Nat.reduceEqDiff,Nat.reduceLT,Nat.reduceSub,Nat.reduceMul,Int.reduceToNat,Int.reduceLE,Int.reduceLT,Int.reduceEq,Int.reduceNeg,Int.reduceAdd,Int.reduceSub,beq_self_eq_true,cond_true,cond_false,isConstOpd,xpanic,xconv,isBytes,qconv,List.length_map,List.map_nil,List.map_cons,concrete,Option.some.injEq,exists_eq',Option.map_some,Option.map_none,List.getElem?_cons_zero,List.getElem?_cons_succ,zw18,rs18,tt3,tt4,tt57,tt61,tt66,tt108,tt110,ti3,ti4,ti57,ti61,ti66,ti108,ti110,t_31,t_32,t_37,t_59,t_62z,t_65,K0u,X0e,Q0f,Z0m,zsl108,app108x,ix108,sa108,X0z,cellAt,cellSet,cl20,no20,al20,Option.getD_some,zx,hc]);rfl)): A:=h▸k
theorem c18: Con C 18 R18:=by
 refine Q0e C ?_ ?_ ?_
 ·rintro args p r r' ⟨x,l,row,at_,h,e⟩ ⟨x',l',row',at_',h',e'⟩
  subst e;subst e';simp_all[V0a.inj_iff,K0a.inj_iff,Y0a.inj_iff,Q0b.inj_iff,X0p,Y09]
 ·rintro args p r ⟨x,l,row,at_,h,rfl⟩;exact zr1
 rintro args p r ⟨x,l,row,at_,rfl,rfl⟩
 refine zW C true [(31,R31),(32,R32),(37,R37),(59,R59),(62,R62z),(65,R65)] ⟨c31,c32,c37,c59,c62z,c65,zT⟩ rfl xf18 zc18_ok fun call zh hF=>?_
 have t_31:=@t31 _ zh.1
 have t_32:=@t32 _ zh.2.1
 have t_37:=@t37 _ zh.2.2.1
 have t_59:=@t59 _ zh.2.2.2.1
 have t_62z:=@t62z _ zh.2.2.2.2.1
 have t_65:=@t65 _ zh.2.2.2.2.2.1
 clear zh
 have hl:=cfg_len x
 have hL:=cfg_legal x
 have hP:=(Y0n hL).1
 generalize hC:cfgOf x=c at hl hL hP
 obtain⟨hl1,hl2⟩:=hl
 generalize hSS:stateOf c l.l=S
 have hN:=rowOf_len c.Players row.l
 obtain⟨N,hNN⟩:∃N,N=c.Players.toNat:=⟨_,rfl⟩
 generalize hRR:rowOf c.Players row.l=R at hN
 rw[<- hNN]at hN
 have hN1:1<=N/\N<=8:=by omega
 have hpk:=Q0g (n:=at_) (m:=c.Players+1) (by omega)
 obtain⟨m,hm⟩:∃m:Nat,pick at_ (c.Players+1)=m:=⟨(pick at_ (c.Players+1)).toNat,by omega⟩
 rw[hm]at hpk
 have hmN:m<=N:=by omega
 have main:∀n ρ q,L18 c S R m N p n ρ q->¬(N-n<N)->W C true noExt call (ZC.seq Y1e ZC.ret) ρ q (endQ C (xfOf Try.f18).rs fun r'=>ShrR p r' (.ret (Bo true) p)):=by
  rintro n ρ q ⟨i,rfl,hi,e3,e9,e10,e11,e12,e14,e50,e51,g1,g2,g3,g4,hn,hle⟩ hend
  have hiN:i=N:=by omega
  subst hiN
  have q1:stepS c (R.take m) S=stepS c (cutRow R m i) S:=by have:=Z1t (c:=c) (s:=S) (cut_eq R (n:=m) (by omega));rw[hN]at this;exact this
  have q2:stepS c (flipRow R i) S=stepS c R S:=by have:=Z1t (c:=c) (s:=S) (flip_eq R);rw[hN]at this;exact this
  have q3:stepS c [] S=stepS c (List.replicate 20 Q0b.zero) S:=Z1t (none_eq 20)
  have hsl:=fun h=>sl108p h R m (by omega)
  have t1:=fun p=>t_62z.1 c S ⟨.nil,[],fun _=>rfl⟩ (p:=p) hl1 hl2
  have t2:=fun p j h=>t_62z.2 (cutRow R m i) i (by rw[V0n];omega) c S j (p:=p) hl1 hl2 h
  have t3:=fun p j h=>t_62z.2 (flipRow R i) i (by rw[Y0l];omega) c S j (p:=p) hl1 hl2 h
  have t4:=fun p j h=>t_62z.2 (List.replicate 20 Q0b.zero) 20 (by simp) c S j (p:=p) hl1 hl2 h
  simp only at t1
  rw[q3]at t1
  rw[q2]at t3
  rw[<- q1]at t2
  generalize hS1:stepS c (List.take m R) S=S1 at t2
  generalize hS2:stepS c R S=S2 at t3
  generalize stepS c (List.replicate 20 Q0b.zero) S=S3 at t1 t4
  have t5s:∀p,call 62 [c.cv,S.cv,.lst .nil []] p=.ret S3.cv p:=t1
  clear t1 q1 q2 q3
  (have zx:=zA e3 (zA e9 (zA e10 (zA e11 (zA e12 (zA e14 (zA g1 (zA g2 (zA g3 (zA g4 (zA hsl (zA t5s (zA hS1 (zA hS2 (zA t2 (zA t3 t4)))))))))))))));refine zq18 ?_;try exact zT)
  repeat'(apply zK.s<;>intro hc<;>(try simp only[zhd]at hc)<;>(try have hw:=X0a hc)<;>(refine zq18 ?_;try exact zT))
  all_goals(try clear zx)
  exact K0d hF (fun k o h=>by have hd:=hF.dom k o h;have hq:=hle k o h;simp (disch:=first|exact zdl|fail) only[zheap];exact hq) (Y0c rfl (Z0c (by intro jj;simp[CV.has])))
 obtain⟨Z,hZ⟩:∃Z,Z=(ZC.seq Y1e ZC.ret):=⟨_,rfl⟩
 rw[<- hZ]at main
 have hR0:(⟨.part,R,nofun⟩:Lst Q0b).l≠[]:=fun e=>by have:R=[]:=e;rw[this]at hN;simp at hN;omega
 have loop2:∀n ρ q,L18 c S R m N p n ρ q->W C true noExt call (ZC.loop Q00) ρ q (blkQ 2 (seqQ (W C true noExt call Z) (endQ C (xfOf Try.f18).rs fun r'=>ShrR p r' (.ret (Bo true) p)))):=by
  intro n ρ q hJ
  refine V0i C true noExt call Q00 _ _ _ (L18 c S R m N p) n hJ ?_
  clear hJ n ρ q
  rintro n ρ q ⟨i,rfl,hi,e3,e9,e10,e11,e12,e14,e50,e51,g1,g2,g3,g4,hn,hle⟩
  by_cases hlt:(i:Int)<N
  ·have hfl:=Y0l R i
   have hat:=flipRow_at R (i:=i) (by omega)
   have hst:=flipRow_s R (i:=i) (by omega)
   have hil:i<(flipRow R i).length:=by omega
   (have zx:=zA e3 (zA e9 (zA e10 (zA e11 (zA e12 (zA e14 (zA e50 (zA e51 (zA g1 (zA g2 (zA g3 (zA g4 (zA hlt (zA hfl hil)))))))))))));refine zq18 ?_;try exact zT)
   repeat'(apply zK.s<;>intro hc<;>(try simp only[zhd]at hc)<;>(try have hw:=X0a hc)<;>(refine zq18 ?_;try exact zT))
   all_goals(try clear zx)
   exact⟨N-(i+1),by omega,i+1,rfl,by omega,zev,zev,zev,zev,zev,zev,zev,zev,zg9,zg9,zg9,by rw[hat,hst];simp (disch:=first|exact zdl|fail) only[zheap],by simp only[Hp.zset_n];exact hn,fun k o h=>by have hd:=hF.dom k o h;have hq:=hle k o h;simp (disch:=first|exact zdl|fail) only[zheap];exact hq⟩
  ·have hiN:i=N:=by omega
   (have zx:=zA e3 (zA e9 (zA e10 (zA e11 (zA e12 (zA e14 (zA e50 (zA e51 (zA g1 (zA g2 (zA g3 (zA g4 hlt)))))))))));refine zq18 ?_;try exact zT)
   repeat'(apply zK.s<;>intro hc<;>(try simp only[zhd]at hc)<;>(try have hw:=X0a hc)<;>(refine zq18 ?_;try exact zT))
   all_goals(try clear zx)
   exact main (N-i) _ _ ⟨i,rfl,hi,zev,zev,zev,zev,zev,zev,zev,zev,g1,g2,g3,g4,hn,hle⟩ (by omega)
 have loop1:∀n ρ q,J18 c S R m N p n ρ q->W C true noExt call (ZC.loop Y1j) ρ q (blkQ 0 (seqQ (W C true noExt call (ZC.seq K1f (ZC.seq (ZC.seq V1d (ZC.block 2 (ZC.loop Q00))) Z))) (endQ C (xfOf Try.f18).rs fun r'=>ShrR p r' (.ret (Bo true) p)))):=by
  intro n ρ q hJ
  refine V0i C true noExt call Y1j _ _ _ (J18 c S R m N p) n hJ ?_
  clear hJ n ρ q
  rintro n ρ q ⟨i,rfl,hmi,hi,e3,e9,e10,e11,e12,e13,g1,g2,g3,hn,hle⟩
  by_cases hlt:(i:Int)<N
  ·have hcl:=V0n R m i
   have hst:=cutRow_s R (n:=m) (i:=i) hmi
   have hil:i<(cutRow R m i).length:=by omega
   (have zx:=zA e3 (zA e9 (zA e10 (zA e11 (zA e12 (zA e13 (zA g1 (zA g2 (zA g3 (zA hlt (zA hcl (zA hil qb110)))))))))));refine zq18 ?_;try exact zT)
   repeat'(apply zK.s<;>intro hc<;>(try simp only[zhd]at hc)<;>(try have hw:=X0a hc)<;>(refine zq18 ?_;try exact zT))
   all_goals(try clear zx)
   exact⟨N-(i+1),by omega,i+1,rfl,by omega,by omega,zev,zev,zev,zev,zev,zev,zg9,zg9,by rw[hst];simp (disch:=first|exact zdl|fail) only[zheap],by simp only[Hp.zset_n];exact hn,fun k o h=>by have hd:=hF.dom k o h;have hq:=hle k o h;simp (disch:=first|exact zdl|fail) only[zheap];exact hq⟩
  ·have hiN:i=N:=by omega
   subst hiN
   have hap:=fun p=>app108x p ⟨.part,R,nofun⟩ hR0 (by show R.length<=1000000;omega)
   simp only[hN]at hap
   (have zx:=zA e3 (zA e9 (zA e10 (zA e11 (zA e12 (zA e13 (zA g1 (zA g2 (zA g3 (zA hlt hap)))))))));refine zq18 ?_;try exact zT)
   repeat'(apply zK.s<;>intro hc<;>(try simp only[zhd]at hc)<;>(try have hw:=X0a hc)<;>(refine zq18 ?_;try exact zT))
   all_goals(try clear zx)
   rw[hn]
   exact loop2 _ _ _ ⟨0,rfl,by omega,zev,zev,zev,zev,zev,zev,zev,zev,zg9,zg9,zg9,by rw[flipRow_0,<- hn];simp (disch:=first|exact zdl|fail) only[zheap],by simp only[Hp.znew_n];omega,fun k o h=>by have hd:=hF.dom k o h;have hq:=hle k o h;simp (disch:=first|exact zdl|fail) only[zheap];exact hq⟩
 show W C true noExt call (ZC.seq zn18_1 (ZC.seq (ZC.seq zn18_4 (ZC.cond (Tm 17) (ZC.seq zn18_7 ZC.ret) ZC.skip)) (ZC.seq zn18_9 (ZC.seq zn18_11 (ZC.seq zn18_13 (ZC.seq zn18_15 (ZC.seq zn18_17 (ZC.seq (ZC.seq zn18_20 (ZC.block 0 (ZC.loop Y1j))) (ZC.seq K1f (ZC.seq (ZC.seq V1d (ZC.block 2 (ZC.loop Q00))) (ZC.seq Y1e ZC.ret))))))))))) _ _ _
 rw[<- hZ]
 obtain⟨Y,hY⟩:∃Y,Y=ZC.seq K1f (ZC.seq (ZC.seq V1d (ZC.block 2 (ZC.loop Q00))) Z):=⟨_,rfl⟩
 rw[<- hY]at loop1 ⊢
 clear hZ hY loop2 main
 have hap:=fun p=>app108x p ⟨.part,R,nofun⟩ hR0 (by show R.length<=1000000;omega)
 simp only[hN]at hap
 (have zx:=zA hC (zA hSS (zA hRR (zA hm hap)));refine zq18 ?_;try exact zT)
 repeat'(apply zK.s<;>intro hc<;>(try simp only[zhd]at hc)<;>(try have hw:=X0a hc)<;>(refine zq18 ?_;try exact zT))
 all_goals(try clear zx)
 exact loop1 _ _ _ ⟨m,rfl,by omega,by omega,zev,zev,zev,zev,zev,zev,zg9,by rw[show p.n+2=p.n+1+1 from rfl];simp (disch:=first|exact zdl|fail) only[zheap],by rw[show p.n+3=p.n+1+1+1 from rfl,cutRow_0];simp (disch:=first|exact zdl|fail) only[zheap],by simp only[Hp.zset_n,Hp.znew_n],fun k o h=>by have hd:=hF.dom k o h;simp (disch:=first|exact zdl|fail) only[zheap];exact h⟩
end Go.Proofs.Ytpchcfkebljopaa
end
section
namespace Go.Proofs.Ytpchcfkebljopaa
open Go.Cl Go Go.ChangeShapes Go.WideShapes Go.ChangeAt Go.RowKit
set_option maxRecDepth 100000
set_option linter.constructorNameAsVariable false
theorem a58{n:Nat}{v:CV}(h:Ty2 Try.prog (n+3) 58 v): ∃s:Lst (Lst Int),v=s.cv (Lst.cv I)/\(s.tl=.view\/s.tl=.nil):=X1s Try.underlying58 (fun _ h=>let⟨i,e,_⟩:=a24 h;⟨i,e⟩) h
theorem a57{n:Nat}{v:CV}(h:Ty2 Try.prog (n+4) 57 v): ∃x:V0a,v=x.cv/\inI x.Players:=by
 obtain⟨l,rfl,hs⟩:=of_struct Try.underlying57 h
 replace h:=hs
 obtain⟨v0,l0,rfl,h0,h⟩:=Z0l h
 obtain⟨v1,l1,rfl,h1,h⟩:=Z0l h
 obtain⟨v2,l2,rfl,h2,h⟩:=Z0l h
 obtain⟨v3,l3,rfl,h3,h⟩:=Z0l h
 obtain⟨v4,l4,rfl,h4,h⟩:=Z0l h
 obtain⟨v5,l5,rfl,h5,h⟩:=Z0l h
 obtain⟨v6,l6,rfl,h6,h⟩:=Z0l h
 obtain⟨v7,l7,rfl,h7,h⟩:=Z0l h
 obtain rfl:=all2_nil h
 obtain⟨x0,rfl,w0⟩:=a3 (n:=n+2) h0
 obtain⟨x1,rfl,_⟩:=a3 (n:=n+2) h1
 obtain⟨x2,rfl,_⟩:=a3 (n:=n+2) h2
 obtain⟨x3,rfl,_⟩:=a3 (n:=n+2) h3
 obtain⟨x4,rfl,_⟩:=a3 (n:=n+2) h4
 obtain⟨x5,rfl,_⟩:=a3 (n:=n+2) h5
 obtain⟨x6,rfl,_⟩:=a3 (n:=n+2) h6
 obtain⟨x7,rfl,_⟩:=a22 (n:=n) h7
 exact⟨⟨x0,x1,x2,x3,x4,x5,x6,x7⟩,rfl,w0⟩
end Go.Proofs.Ytpchcfkebljopaa
end
