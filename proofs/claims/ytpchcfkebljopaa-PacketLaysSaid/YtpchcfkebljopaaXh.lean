import Derived.Test.YtpchcfkebljopaaXg
set_option linter.unusedSimpArgs false
set_option linter.unusedVariables false
set_option linter.constructorNameAsVariable false
set_option linter.defProp false
set_option maxHeartbeats 8000000
section
namespace Go.Cl
open Go.RowKit
section
variable (C:Ctx)
def St.frz(S:St)(rb:Nat)(cs:List Value): St:={S with K:=fun b o=>if b=rb then(match cs[o]? with|some v=>some v|none=>S.K b o)else S.K b o}
theorem St.frz_le{S:St}{rb:Nat}{cs:List Value}(h:∀o,S.K rb o=none): S.le (S.frz rb cs) where
 K b o v hk:=by
  show(if b=rb then _ else S.K b o)=some v
  by_cases e:b=rb
  ·subst e;rw[h o]at hk;cases hk
  ·rw[if_neg e];exact hk
 μ _ _ h:=h
 n:=Nat.le_refl _
theorem R.frz{w0:World}{B:Nat}{S:St}{h:Heap}{w:World}(r:R w0 B S h w){j:Nat}{v:CV}{rb:Nat}{sh:Shape}{tot:Nat}(hj:h j=some (.var v))(hμ:S.μ j=some (.var rb sh tot)):
  ∃cs,FR S v cs/\S.le (S.frz rb cs)/\R w0 B (S.frz rb cs) (upd h j none) w/\(S.frz rb cs).lies rb 0 cs:=by
 obtain⟨hl,hB⟩:=r.live j _ _ hj hμ
 obtain⟨hs,⟨arr,e,cs,junk,hw,ha,hz,hf⟩,hk⟩:=hl
 have hle:=St.frz_le (cs:=cs) hk
 have hcell:∀o,w.cell? ⟨rb,o,none⟩=arr[o]?:=V0m hw
 have hlies:(S.frz rb cs).lies rb 0 cs:=by
  intro o u hu
  show(if rb=rb then _ else _)=some u
  rw[if_pos rfl,Nat.zero_add,hu]
 refine⟨cs,hf,hle,⟨r.below,r.size,?_,?_,?_,?_⟩,hlies⟩
 ·intro b o u hu
  by_cases eb:b=rb
  ·subst eb
   have hu:(match cs[o]? with|some v=>some v|none=>S.K b o)=some u:=by
    have hu:(if b=b then _ else _)=some u:=hu
    rw[if_pos rfl]at hu;exact hu
   cases hc:cs[o]? with
   |none=>rw[hc,hk o]at hu;cases hu
   |some x=>
    rw[hc]at hu
    have hxu:x=u:=by simpa using hu
    subst hxu
    rw[hcell o,<- Array.getElem?_toList,ha,List.getElem?_append_left (List.getElem?_eq_some_iff.1 hc).1]
    exact hc
  ·have hu:(if b=rb then _ else S.K b o)=some u:=hu
   rw[if_neg eb]at hu
   exact r.kcell b o u hu
 ·intro i hi
  refine⟨(r.fresh i hi).1,?_⟩
  unfold upd
  split
  ·rfl
  ·exact(r.fresh i hi).2
 ·intro i obj loc h1 h2
  have hij:i≠j:=by intro e;subst e;rw[X0i]at h1;cases h1
  rw[Q0h _ _ hij]at h1
  obtain⟨l1,l2⟩:=r.live i obj loc h1 h2
  refine⟨l1.mono hle rfl fun o ho=>?_,l2⟩
  have hb:loc.block≠rb:=r.inj i j _ _ _ _ hij h1 hj h2 hμ
  show(if loc.block=rb then _ else S.K loc.block o)=none
  rw[if_neg hb];exact ho
 ·intro i k oi ok li lk hik h1 h2 h3 h4
  have hi:i≠j:=by intro e;subst e;rw[X0i]at h1;cases h1
  have hk':k≠j:=by intro e;subst e;rw[X0i]at h2;cases h2
  rw[Q0h _ _ hi]at h1
  rw[Q0h _ _ hk']at h2
  exact r.inj i k oi ok li lk hik h1 h2 h3 h4
theorem Q1f{f:FuncId}{args:List CV}{p:Hp}{sh:Shape}{l:List CV}{sz:Nat}(hsz:∀x∈l,x.size=sz)(hno:∀j,¬CV.hasL j l)(h:AnsAt C f args p (.ret (.slc p.n [] 0 l.length) (p.new (.var sh (.agg l))))): AnsAt C f args p (.ret (.lst .part l) p):=by
 refine⟨h.1,fun w0 B S w vals r0 hV=>?_⟩
 have ha:=h.2 w0 B S w vals r0 hV
 have hF:=fine_of r0 hV
 have hmid:Ans C w0 B S f vals w (.ret (.lst .part l) (p.bump 1)):=by
  refine Calls.mono ha fun en w' ⟨S',x,k1,k2,k3,k4⟩=>?_
  have hg:(p.new (.var sh (.agg l))).h p.n=some (.var (.agg l)):=by simp only[Hp.h,Hp.get_new_self];rfl
  obtain⟨k3a,k3b⟩:=k3
  simp only[FR]at k3a
  obtain⟨rb,sh',l',o,cap,e1,⟨tot,hμ,_⟩,e2,e3,e4,e5⟩:=k3a
  obtain⟨cs,hf,hle,hr,hli⟩:=R.frz k2.r hg hμ
  have ho:o=0:=by simp only[Shape.off,Option.some.injEq]at e3;exact e3.symm
  subst ho
  refine⟨S'.frz rb cs,x,k1.trans ⟨hle,fun _ _ h=>h⟩,⟨?_,?_,?_⟩,⟨?_,?_⟩,k4⟩
  ·refine hr.drop fun i=>?_
   by_cases hi:i=p.n
   ·left;subst hi
    exact(r0.r.fresh p.n (by rw[r0.n];exact Nat.le_refl _)).2
   ·right
    rw[Q0h _ _ hi]
    simp only[Hp.h,Hp.bump_get,Hp.get_new_ne _ _ hi]
  ·show S'.n=p.n+1
   rw[k2.n,Hp.znew_n]
  ·intro i sh0 v0 hi
   exact r0.good i sh0 v0 hi
  ·simp only[FR]
   refine .inr ⟨rb,0,cap,sz,cs,?_,e4,?_,hli,hsz,trivial⟩
   ·rw[e1];simp[Shape.sizes]
   ·simp only[FR]at hf
    exact FRs.mono hle _ _ hf
  ·simpa[CV.isAgg]using k3b
 refine Ans.shr C r0 hmid ?_
 refine V0c hF (fun k o h=>h) (V0d fun j hj=>?_)
 simp only[CV.has]at hj
 rcases hj with hj|hj
 ·cases hj
 ·exact(hno j hj).elim
end
end Go.Cl
end
section
namespace Go.Proofs.Ytpchcfkebljopaa
open Go.Cl Go Go.RowKit
def cellOf(n:Int): X0a:=⟨true,handInput (w64 (n.tdiv 4)) (w64 (n.tdiv 7))⟩
def rowK(players:Int)(l:List Int): Nat->List X0a
 |0=>List.replicate players.toNat X0a.zero
 |k+1=>if 0<(nth l k).tmod 4 then(rowK players l k).set k (cellOf (nth l k))else rowK players l k
theorem K2n(players:Int)(l:List Int): ∀k,(rowK players l k).length=players.toNat
 |0=>by simp[rowK]
 |k+1=>by
  have ih:=K2n players l k
  simp only[rowK]
  split
  ·simpa using ih
  ·exact ih
def rowOf(players:Int)(l:List Int): List X0a:=rowK players l (min players.toNat l.length)
theorem rowOf_len(players:Int)(l:List Int): (rowOf players l).length=players.toNat:=K2n ..
theorem mk108(p:Hp)(n:Int)(h:1<=n/\n<=100): xmake C p 108 (I n) (I n)=.ret (.slc p.n [] 0 n.toNat) (p.new (.var (.n (List.replicate n.toNat sh110)) (.agg ((List.replicate n.toNat X0a.zero).map X0a.cv)))):=by
 have hz:ti110.zero=X0a.zero.cv:=X0a.zcv
 have hb:(ti110.bytes*n.toNat)<=281474976710656:=by show 32*n.toNat<=_;omega
 simp only[xmake,tt108,ti108,tt110,List.map_replicate]
 rw[show(decide True&&decide (0<n)&&decide (n<=9223372036854775807)&&Nat.blt 0 ti110.sh.size&&Nat.ble (ti110.bytes*n.toNat) 281474976710656)=true by
  simp only[decide_true,Bool.true_and,Bool.and_eq_true,decide_eq_true_eq]
  exact⟨⟨⟨by omega,by omega⟩,rfl⟩,Nat.ble_eq_true_of_le hb⟩]
 rw[hz];rfl
theorem ix108(p:Hp)(j n:Nat)(L:List X0a)(k:Int)(hg:p.t.get j=some (.var (.n (List.replicate n sh110)) (.agg (L.map X0a.cv))))(hL:L.length=n)(hk:0<=k/\k<n): qindexAddr C p.h 108 (.slc j [] 0 n) (I k)=some (.ptr j [k.toNat]):=by
 have ht:tgt p.h (.ptr j [])=some (.agg (L.map X0a.cv)):=by
  simp only[tgt,Hp.h,hg,Option.map_some,XObj.obj,CV.at]
 have hs:CV.shape (.agg (L.map X0a.cv))=.n (List.replicate (L.map X0a.cv).length sh110):=by
  simp only[CV.shape,Z0m (f:=X0a.cv) (s:=sh110) X0a.shape,List.length_map]
 simp only[qindexAddr,tt108,ti108,tt110,ht]
 rw[if_pos ⟨hs,hk⟩]
 simp
theorem sa108(L:List X0a)(k:Nat)(c:X0a)(h:k<L.length): CV.set (.agg (L.map X0a.cv)) [k] c.cv=.agg ((L.set k c).map X0a.cv):=by
 rw[arr_set X0a.cv h,List.map_set];rfl
def rowL(players:Int)(r:Lst Int): Lst X0a:=⟨.part,rowOf players r.l,nofun⟩
end Go.Proofs.Ytpchcfkebljopaa
end
section
namespace Go.Cl
open Go.RowKit
section
variable (C:Ctx)
theorem VRs_snoc{S:St}{v:CV}: ∀{a:List CV} {vals:List Value},VRs S (a++[v]) vals->∃va x,vals=va++[x]/\VRs S a va/\VR S v x
 |[],vals,h=>by
  simp only[List.nil_append,VRs]at h
  obtain⟨x,xs,rfl,h1,h2⟩:=h
  subst h2
  exact⟨[],x,rfl,by simp[VRs],h1⟩
 |u::a,vals,h=>by
  simp only[List.cons_append,VRs]at h
  obtain⟨y,ys,rfl,h1,h2⟩:=h
  obtain⟨va,x,rfl,h3,h4⟩:=VRs_snoc h2
  exact⟨y::va,x,rfl,Z0f.2 ⟨h1,h3⟩,h4⟩
theorem VRs_snoc'{S:St}{v:CV}{x:Value}: ∀{a:List CV} {va:List Value},VRs S a va->VR S v x->VRs S (a++[v]) (va++[x])
 |[],va,h,k=>by
  simp only[VRs]at h
  subst h
  exact Z0f.2 ⟨k,by simp[VRs]⟩
 |u::a,va,h,k=>by
  simp only[VRs]at h
  obtain⟨y,ys,rfl,h1,h2⟩:=h
  exact Z0f.2 ⟨h1,VRs_snoc' h2 k⟩
def RFrz(R:Rel): Rel:=fun args p r=>∃(a:List CV) (j:Nat) (sh:Shape) (l:List CV) (sz:Nat),args=a++[.slc j [] 0 l.length]/\p.t.get j=some (.var sh (.agg l))/\(∀x∈l,x.size=sz)/\R (a++[.lst .part l]) (p.set j none) r
theorem con_frz{f:FuncId}{R:Rel}(h:Con C f R): Con C f (RFrz R) where
 un:=by
  rintro args p r r' ⟨a,j,sh,l,sz,rfl,h2,_,h4⟩ ⟨a',j',sh',l',sz',e,h2',_,h4'⟩
  obtain⟨rfl,e2⟩:=List.append_inj' e rfl
  simp only[List.cons.injEq,CV.slc.injEq,and_true,true_and]at e2
  obtain⟨rfl,_⟩:=e2
  rw[h2]at h2'
  simp only[Option.some.injEq,XObj.var.injEq,CV.agg.injEq]at h2'
  obtain⟨_,rfl⟩:=h2'
  exact h.un _ _ _ _ h4 h4'
 ok:=by
  rintro args p r ⟨a,j,sh,l,sz,rfl,hg,hsz,hR⟩
  obtain⟨hne,hfn,ha⟩:=h.ok _ _ _ hR
  refine⟨hne,hfn,fun w0 B S w vals r0 hV=>?_⟩
  obtain⟨va,x,rfl,hVa,hx⟩:=VRs_snoc hV
  obtain⟨hx1,hx2⟩:=hx
  simp only[FR]at hx1
  obtain⟨rb,sh',l',o,cap,e1,⟨tot,hμ,_⟩,e2,e3,e4,e5⟩:=hx1
  have hgh:p.h j=some (.var (.agg l)):=by simp only[Hp.h,hg];rfl
  obtain⟨cs,hf,hle,hr,hli⟩:=Go.Cl.R.frz r0.r hgh hμ
  have ho:o=0:=by simp only[Shape.off,Option.some.injEq]at e3;exact e3.symm
  subst ho
  have hX:XRel w0 B (S.frz rb cs) (p.set j none) w:=by
   refine⟨?_,r0.n,?_⟩
   ·refine hr.drop fun i=>?_
    by_cases hi:i=j
    ·left;subst hi;simp only[Hp.h,Hp.get_set_self];rfl
    ·right;rw[Q0h _ _ hi];simp only[Hp.h,Hp.get_set_ne _ _ _ hi]
   ·intro i sh0 v0 hi
    by_cases e:i=j
    ·subst e;rw[Hp.get_set_self]at hi;cases hi
    ·rw[Hp.get_set_ne _ _ _ e]at hi;exact r0.good i sh0 v0 hi
  have hv:VR (S.frz rb cs) (.lst .part l) x:=by
   refine⟨?_,by simpa[CV.isAgg]using hx2⟩
   simp only[FR]
   refine .inr ⟨rb,0,cap,sz,cs,?_,e4,?_,hli,hsz,trivial⟩
   ·rw[e1];simp[Shape.sizes]
   ·simp only[FR]at hf
    exact FRs.mono hle _ _ hf
  have hfin:=ha w0 B (S.frz rb cs) w (va++[x]) hX (VRs_snoc' (VRs.mono hle _ _ hVa) hv)
  have hext:S.ext (S.frz rb cs):=⟨hle,fun _ _ h=>h⟩
  cases r with
  |ret v p'=>exact Calls.mono hfin fun en w' ⟨S',y,k1,k2,k3,k4⟩=>⟨S',y,hext.trans k1,k2,k3,k4⟩
  |pan v p'=>exact Calls.mono hfin fun en w' ⟨S',y,k1,k2,k3,k4⟩=>⟨S',y,hext.trans k1,k2,k3,k4⟩
  |stuck=>trivial
theorem Y03{f:FuncId}{R Q:Rel}(h:Con C f R)(k:Con C f Q)(hd:∀args p r r',R args p r->Q args p r'->r=r'): Con C f (fun args p r=>R args p r\/Q args p r) where
 un:=by
  rintro args p r r' (h1|h1) (h2|h2)
  ·exact h.un _ _ _ _ h1 h2
  ·exact hd _ _ _ _ h1 h2
  ·exact(hd _ _ _ _ h2 h1).symm
  ·exact k.un _ _ _ _ h1 h2
 ok:=by
  rintro args p r (h1|h1)
  ·exact h.ok _ _ _ h1
  ·exact k.ok _ _ _ h1
end
end Go.Cl
end
section
namespace Go.Proofs.Ytpchcfkebljopaa
open Go.Cl Go Go.RowKit
set_option maxRecDepth 100000
set_option linter.constructorNameAsVariable false
def Wv(j:Nat)(l:List Bool): CV:=if l=[]then .lst .nil []else .slc j [] 0 (packB l).length
def Wrow(B:List Int): XObj:=.var (.n (List.replicate B.length .s)) (.agg (B.map Y8))
theorem Wv_sh(j:Nat)(l:List Bool): (Wv j l).shape=.s:=by unfold Wv;split<;>rfl
def W1(j:Nat)(l:List Bool): XObj:=.var sh203 (Y0c.mk (Wv j l) (Wv_sh j l) l.length).cv
def W2(i j:Nat)(l:List Bool)(p:Hp): Prop:=l=[]\/j≠i/\p.t.get j=some (Wrow (packB l))
noncomputable def wDrop(j:Nat)(l:List Bool)(p:Hp): Hp:=if l=[]then p else p.set j none
noncomputable def wHp(i j:Nat)(l l':List Bool)(p:Hp): Hp:=((wDrop j l p).set i (some (W1 p.n l'))).new (Wrow (packB l'))
theorem packB_nil{l:List Bool}: packB l=[] ↔ l=[]:=by
 constructor
 ·intro h
  have:=congrArg List.length h
  rw[K0g]at this
  exact List.length_eq_zero_iff.1 (by simp at this;omega)
 ·rintro rfl;rfl
theorem Z0n{A B:List Int}(h:Wrow A=Wrow B): A=B:=by
 simp only[Wrow,XObj.var.injEq,CV.agg.injEq]at h
 have h2:=h.2
 clear h
 induction A generalizing B with
 |nil=>cases B with
  |nil=>rfl
  |cons b B=>simp at h2
 |cons a A ih=>cases B with
  |nil=>simp at h2
  |cons b B=>
   simp only[List.map_cons,List.cons.injEq]at h2
   rw[Y8_inj _ _ h2.1,ih h2.2]
theorem Y1v{p:Hp}{i j j':Nat}{l l':List Bool}(h:p.t.get i=some (W1 j l))(h2:W2 i j l p)(k:p.t.get i=some (W1 j' l'))(k2:W2 i j' l' p): l=l'/\(l≠[]->j=j'):=by
 rw[h]at k
 simp only[Option.some.injEq,W1,Y0c.cv,XObj.var.injEq,CV.agg.injEq,List.cons.injEq,and_true,true_and]at k
 obtain⟨e1,e2⟩:=k
 have e2:l.length=l'.length:=by have:=I_inj _ _ e2;omega
 by_cases hl:l=[]
 ·subst hl
  have:l'=[]:=List.length_eq_zero_iff.1 (by rw[<- e2];rfl)
  exact⟨this.symm,fun h=>absurd rfl h⟩
 ·have hl':l'≠[]:=by intro e;subst e;exact hl (List.length_eq_zero_iff.1 e2)
  simp only[Wv,if_neg hl,if_neg hl',CV.slc.injEq,true_and,and_true]at e1
  obtain⟨rfl,_⟩:=e1
  have a:=h2.resolve_left hl
  have b:=k2.resolve_left hl'
  have:=a.2.symm.trans b.2
  simp only[Option.some.injEq]at this
  exact⟨packB_inj e2 (Z0n this),fun _=>rfl⟩
theorem Q02{p:Hp}{i j j':Nat}{l l':List Bool}(m:List Bool)(h:l=l'/\(l≠[]->j=j')): wHp i j l m p=wHp i j' l' m p:=by
 obtain⟨rfl,h⟩:=h
 unfold wHp wDrop
 by_cases hl:l=[]
 ·rw[if_pos hl,if_pos hl]
 ·rw[if_neg hl,if_neg hl,h hl]
theorem wHp_n(i j:Nat)(l m:List Bool)(p:Hp): (wHp i j l m p).n=p.n+1:=by
 unfold wHp wDrop
 split<;>simp[Hp.znew_n,Hp.zset_n]
theorem wHp_i{i j:Nat}(l m:List Bool){p:Hp}(h:i<p.n): (wHp i j l m p).t.get i=some (W1 p.n m):=by
 unfold wHp wDrop
 split
 ·rw[Hp.get_new_ne _ _ (by rw[Hp.zset_n];omega),Hp.get_set_self]
 ·rw[Hp.get_new_ne _ _ (by rw[Hp.zset_n,Hp.zset_n];omega),Hp.get_set_self]
theorem wHp_new{i j:Nat}(l m:List Bool){p:Hp}: (wHp i j l m p).t.get p.n=some (Wrow (packB m)):=by
 unfold wHp wDrop
 split
 ·exact Hp.get_new_self (p.set i (some (W1 p.n m))) _
 ·exact Hp.get_new_self ((p.set j none).set i (some (W1 p.n m))) _
theorem wHp_ne{i j:Nat}{l m:List Bool}{p:Hp}{k:Nat}(h1:k≠i)(h2:l=[]\/k≠j)(h3:k≠p.n): (wHp i j l m p).t.get k=p.t.get k:=by
 unfold wHp wDrop
 split
 ·rw[Hp.get_new_ne _ _ (show k≠(p.set i (some (W1 p.n m))).n from h3),Hp.get_set_ne _ _ _ h1]
 ·rename_i hl
  rw[Hp.get_new_ne _ _ (show k≠((p.set j none).set i (some (W1 p.n m))).n from h3),Hp.get_set_ne _ _ _ h1,Hp.get_set_ne _ _ _ (h2.resolve_left hl)]
theorem W2_nil(i j:Nat)(p:Hp): W2 i j [] p:=.inl rfl
theorem W2_in{i j:Nat}{l:List Bool}{p:Hp}(h1:j≠i)(h2:p.t.get j=some (Wrow (packB l))): W2 i j l p:=.inr ⟨h1,h2⟩
theorem Z12(σ:Nat->Nat)(n:Nat)(B:List Int): XObj.weak σ n (Wrow B) (Wrow B):=⟨rfl,by simp only[CV.weak];exact CV.weakL_refl _ fun j hj=>(Z0h (f:=Y8) (fun x j=>Y0l x j) B j hj).elim⟩
theorem shr_w{args:List CV}{p q:Hp}{i j J:Nat}{l m:List Bool}(hF:Fine args p)(hm:m≠[])(h1:p.t.get i=some (W1 j l))(h2:W2 i j l p)(g1:q.t.get i=some (W1 J m))(g2:q.t.get J=some (Wrow (packB m)))(hJi:J≠i)(hJ:(l≠[]/\J=j)\/p.n<=J)
  (hle:∀k o,k≠i->(l=[]\/k≠j)->p.t.get k=some o->q.t.get k=some o) {v u:CV} (hv:CV.weak (ren p.n J) (p.n+1) v u):ShrR p (.ret v q) (.ret u (wHp i j l m p)):=by
 have hi:=hF.dom _ _ h1
 have hw:XObj.weak (ren p.n J) (p.n+1) (W1 J m) (W1 p.n m):=by
  refine⟨rfl,?_⟩
  simp only[Y0c.cv,Wv,if_neg hm,CV.weak,CV.weakL,and_true]
  exact⟨by simp[ren],by omega⟩
 unfold wHp wDrop
 split
 ·rename_i hl
  refine Y0y hF (J:=J) rfl (fun k o h=>?_) ⟨_,g2,Z12 _ _ _⟩ hv
  by_cases hk:k=i
  ·subst hk
   rw[Hp.get_set_self]at h;cases h
   exact⟨hi,Ne.symm hJi,.inr ⟨_,g1,hw⟩⟩
  ·rw[Hp.get_set_ne _ _ _ hk]at h
   have hd:=hF.dom _ _ h
   exact⟨hd,by rcases hJ with hJ|hJ;exact absurd hl hJ.1;omega,.inl ⟨h,hle k o hk (.inl hl) h⟩⟩
 ·rename_i hl
  have hj:=(h2.resolve_left hl)
  have hjd:=hF.dom _ _ hj.2
  refine Y0y hF (J:=J) rfl (fun k o h=>?_) ⟨_,g2,Z12 _ _ _⟩ hv
  by_cases hk:k=i
  ·subst hk
   rw[Hp.get_set_self]at h;cases h
   exact⟨hi,Ne.symm hJi,.inr ⟨_,g1,hw⟩⟩
  ·rw[Hp.get_set_ne _ _ _ hk]at h
   by_cases hkj:k=j
   ·subst hkj;rw[Hp.get_set_self]at h;cases h
   ·rw[Hp.get_set_ne _ _ _ hkj]at h
    have hd:=hF.dom _ _ h
    exact⟨hd,by rcases hJ with hJ|hJ;rw[hJ.2];exact hkj;omega,.inl ⟨h,hle k o hk (.inr hkj) h⟩⟩
theorem Q0l(σ:Nat->Nat)(n:Nat): CV.weak σ n (.tup []) (.tup []):=by simp[CV.weak,CV.weakL]
theorem ix68(p:Hp)(j n:Nat)(B:List Int)(k:Int)(hg:p.t.get j=some (.var (.n (List.replicate n .s)) (.agg (B.map Y8))))(hB:B.length=n)(hk:0<=k/\k<n): qindexAddr C p.h 68 (.slc j [] 0 n) (I k)=some (.ptr j [k.toNat]):=by
 have ht:tgt p.h (.ptr j [])=some (.agg (B.map Y8)):=by
  simp only[tgt,Hp.h,hg,Option.map_some,XObj.obj,CV.at]
 have hs:CV.shape (.agg (B.map Y8))=.n (List.replicate (B.map Y8).length sh5):=by
  simp only[CV.shape,Z0m (f:=Y8) (s:=sh5) X08,List.length_map]
 simp only[qindexAddr,tt68,ti68,tt5,ht]
 rw[if_pos ⟨hs,hk⟩]
 simp
theorem a68(B:List Int)(k:Nat)(h:k<B.length): (CV.agg (B.map Y8)).at [k]=Y8 (nth B k):=by rw[arr_at Y8 h];rfl
theorem sa68(B:List Int)(k:Nat)(c:Int)(h:k<B.length): CV.set (.agg (B.map Y8)) [k] (Y8 c)=.agg ((B.set k c).map Y8):=by
 rw[arr_set Y8 h,List.map_set];rfl
def R156: Rel:=fun args p r=>∃(n:Int),args=[I n]/\r=.ret (I (max 0 (min n 64))) p
theorem t156{T:XCall}(h:Has T 156 R156)(n:Int){p:Hp}:T 156 [I n] p=.ret (I (max 0 (min n 64))) p:=h _ _ _ ⟨n,rfl,rfl⟩
theorem zq156{A B:Prop}(k:B)(h:A=B:=by have zy:=zA @zw156<|zA @rs156<|zA @tt3<|ti3.eq_1;exact zQ): A:=h▸k
theorem zno156{P:Prop}(h:P:=by intro jj;simp[CV.has,CV.hasL,fault,X0b.nohas]): P:=h
theorem c156: Con C 156 R156:=by
 refine V0e C ?_ ?_ ?_
 ·rintro args p r r' ⟨n,h,e⟩ ⟨n',h',e'⟩
  subst e;subst e';simp_all
 ·rintro args p r ⟨n,h,rfl⟩;exact zr1
 rintro args p r ⟨n,rfl,rfl⟩
 refine zW C false [] zT rfl xf156 zc156_ok fun call zh hF=>?_
 clear zh
 (have zx:=zT;refine zq156 ?_;try exact zT)
 repeat'(apply zK.s<;>intro hc<;>(try simp only[zhd]at hc)<;>(try have hw:=K0a hc)<;>(refine zq156 ?_;try exact zT))
 all_goals(try clear zx)
 exact V0c hF zle (Q0d rfl (K0c zno156))
theorem bs68(p:Hp): xbuildS C p 68 1 [(0,Y8 0)]=.ret (.slc p.n [] 0 1) (p.new (.var (.n [.s]) (.agg [Y8 0]))):=by
 simp only[xbuildS,tt68,ti68,tt5,ti5];rfl
theorem app68n(p:Hp)(k:Nat)(hk:p.t.get k=some (.var (.n [.s]) (.agg [Y8 0]))): xappend C true p 68 68 (.lst .nil []) (.slc k [] 0 1)=.ret (.slc p.n [] 0 1) (p.new (.var (.n (List.replicate 1 .s)) (.agg ((roomB []).map Y8)))):=by
 have hs:xsrc C p.h 5 68 (.slc k [] 0 1)=some [Y8 0]:=by
  simp only[xsrc,tt68,ti68,srcOf,tgt,Hp.h,hk,Option.map_some,XObj.obj,CV.at];rfl
 simp only[xappend,tt68,ti68,tt5,ti5,cond_true,hs];rfl
theorem app68s(p:Hp)(j k:Nat)(B:List Int)(hj:p.t.get j=some (.var (.n (List.replicate B.length .s)) (.agg (B.map Y8))))(hk:p.t.get k=some (.var (.n [.s]) (.agg [Y8 0])))(h0:0<B.length)(hl:B.length<=1000000): xappend C true p 68 68 (.slc j [] 0 B.length) (.slc k [] 0 1)=.ret (.slc p.n [] 0 (B.length+1)) ((p.set j none).new (.var (.n (List.replicate (B.length+1) .s)) (.agg ((B++[0]).map Y8)))):=by
 have hs:xsrc C p.h 5 68 (.slc k [] 0 1)=some [Y8 0]:=by
  simp only[xsrc,tt68,ti68,srcOf,tgt,Hp.h,hk,Option.map_some,XObj.obj,CV.at];rfl
 have ha:allSh (B.map Y8) sh5=true:=X0w (fun x=>rfl) B
 simp only[xappend,tt68,ti68,tt5,ti5,cond_true,hs,xappmut,hj]
 have h1:Nat.ble B.length (B.map Y8).length=true:=Nat.ble_eq_true_of_le (by simp)
 have h2:Nat.blt 0 (B.map Y8).length=true:=Z0u (by simpa using h0)
 have h3:Nat.ble (((B.map Y8).length+1)*1) 140737488355328=true:=Nat.ble_eq_true_of_le (by simp;omega)
 have h4:Nat.ble ((B.map Y8).length+1) 9223372036854775807=true:=Nat.ble_eq_true_of_le (by simp;omega)
 have h5:Nat.ble (B.length+1) (B.map Y8).length=false:=by
  rw[Bool.eq_false_iff];intro h;have:=Nat.le_of_ble_eq_true h;rw[List.length_map]at this;omega
 have h6:(B.map Y8).take B.length=B.map Y8:=List.take_of_length_le (by simp)
 have h7:allSh [Y8 0] sh5=true:=rfl
 simp only[List.length_cons,List.length_nil,Nat.zero_add,h1,h2,h3,h4,h5,h6,h7,ha,Bool.and_self,cond_true,cond_false,List.map_append]
 rfl
theorem slc_sh(a:Nat)(q:List Nat)(o m:Nat): (CV.slc a q o m).shape=.s:=rfl
theorem lst_sh(t:Tail)(l:List CV): (CV.lst t l).shape=.s:=rfl
theorem wr_fold(v:CV)(hv:v.shape=.s)(n:Int)(a:Nat)(q:List Nat)(o m:Nat): Y0c.upd_0 ⟨v,hv,n⟩ (.slc a q o m)=(Y0c.mk (.slc a q o m) (slc_sh a q o m) n).cv:=rfl
theorem b2i_inj{a b:Bool}(h:b2i a=b2i b): a=b:=by cases a<;>cases b<;>first|rfl|(simp[b2i]at h)
theorem W1_slc{J:Nat}{m:List Bool}{k:Nat}{n:Int}(hm:m≠[])(h1:(packB m).length=k)(h2:(m.length:Int)=n): W1 J m=.var sh203 (Y0c.mk (.slc J [] 0 k) (slc_sh _ _ _ _) n).cv:=by
 subst h1;subst h2
 simp only[W1,Wv,if_neg hm]
theorem Wrow_of{B:List Int}{m:List Bool}{n:Nat}(h:B=packB m)(hn:B.length=n): Wrow (packB m)=.var (.n (List.replicate n .s)) (.agg (B.map Y8)):=by
 subst hn;subst h;rfl
def R157: Rel:=fun args p r=>∃(i j:Nat) (l:List Bool) (b:Bool),args=[.ptr i [],U (b2i b)]/\(p.t.get i=some (W1 j l))/\(W2 i j l p)/\(l.length<=1000000)/\r=.ret (.tup []) (wHp i j l (l++[b]) p)
theorem t157{T:XCall}(h:Has T 157 R157)(i j:Nat)(l:List Bool)(b:Bool){p:Hp}(h1:p.t.get i=some (W1 j l))(h2:W2 i j l p)(h3:l.length<=1000000): T 157 [.ptr i [],U (b2i b)] p=.ret (.tup []) (wHp i j l (l++[b]) p):=h _ _ _ ⟨i,j,l,b,rfl,h1,h2,h3,rfl⟩
theorem zq157{A B:Prop}(k:B)(h:A=B:=by have zy:=zA @zw157<|zA @rs157<|zA @tt3<|zA @tt5<|zA @tt25<|zA @tt68<|zA @tt203<|zA ti3.eq_1<|zA ti5.eq_1<|zA ti25.eq_1<|zA ti68.eq_1<|zA ti203.eq_1<|zA @X0q<|zA @zsl68<|zA @wr_fold<|zA @bs68<|zA @app68n<|zA @app68s<|zA @ix68<|zA @a68<|zA @sa68<|zA @V2l<|zA @h1<|zA @h2<|@h3;exact zQ): A:=h▸k
theorem c157: Con C 157 R157:=by
 refine V0e C ?_ ?_ ?_
 ·rintro args p r r' ⟨i,j,l,b,h,h1,h2,h3,e⟩ ⟨i',j',l',b',h',h1',h2',h3',e'⟩
  subst e;subst e';(subst h;simp only[List.cons.injEq,CV.ptr.injEq,CV.sc.injEq,Value.int.injEq,and_true,true_and]at h';obtain⟨e1,hb⟩:=h';subst e1;have hb:=b2i_inj hb;subst hb;have hu:=Y1v h1 h2 h1' h2';rw[Q02 _ hu,hu.1])
 ·rintro args p r ⟨i,j,l,b,h,h1,h2,h3,rfl⟩;exact zr1
 rintro args p r ⟨i,j,l,b,rfl,h1,h2,h3,rfl⟩
 refine zW C true [] zT rfl xf157 zc157_ok fun call zh hF=>?_
 clear zh
 have hd_h1:=hF.dom _ _ h1
 have hi:=hF.dom _ _ h1
 have k1:=h1
 have k2:=h2
 have ht:((l.length:Nat):Int).tmod 8=((l.length % 8:Nat):Int):=by rw[Int.tmod_eq_emod_of_nonneg (by omega)];omega
 have hd:((l.length:Nat):Int).tdiv 8=((l.length/8:Nat):Int):=by rw[Int.tdiv_eq_ediv_of_nonneg (by omega)];omega
 have hB:=Q1w l
 have hpk:=K0g l
 have hor:=orB_pack l b
 have hne:l++[b]≠[]:=by simp
 by_cases hl:l=[]
 ·subst hl
  replace h1:p.t.get i=some (.var sh203 (Y0c.mk (.lst .nil []) (lst_sh .nil []) 0).cv):=h1
  have hB1:(roomB []).length=1:=rfl
  have z1:Int.tmod 0 8=0:=rfl
  have z2:Int.tdiv 0 8=0:=rfl
  (have zx:=zA z1 (zA z2 h1);refine zq157 ?_;try exact zT)
  repeat'(apply zK.s<;>intro hc<;>(try simp only[zhd]at hc)<;>(try have hw:=K0a hc)<;>(refine zq157 ?_;try exact zT))
  all_goals(try clear zx)
  have hpm:(packB ([]++[b])).length=1:=by rw[K0g];simp
  refine shr_w (J:=p.n+1) (l:=[]) hF hne k1 k2 ?_ ?_ (by omega) (.inr (by omega)) (fun k o hk hk2 h=>?_) (Q0l _ _)
  ·rw[W1_slc hne hpm (n:=1) rfl];simp (disch:=first|exact zdl|fail) only[zheap]
  ·rw[Wrow_of hor (n:=1) rfl];simp (disch:=first|exact zdl|fail) only[zheap];rfl
  ·have hd:=hF.dom _ _ h;simp (disch:=first|exact zdl|fail) only[Hp.bump_get,Hp.get_set_ne,Hp.get_new_ne];exact h
 ·have g2:=(h2.resolve_left hl).2
  have hji:=(h2.resolve_left hl).1
  have hpl:0<(packB l).length:=by rw[K0g];have:=List.length_pos_iff.2 hl;omega
  have hpl2:(packB l).length<=1000000:=by rw[K0g];omega
  unfold Wrow at g2
  have hjd:=hF.dom _ _ g2
  by_cases hm:l.length % 8=0
  ·have hm2:((l.length % 8:Nat):Int)=0:=by omega
   have hr:packB l++[0]=roomB l:=by rw[roomB,if_pos hm]
   have hWv:Wv j l=.slc j [] 0 (packB l).length:=if_neg hl
   replace h1:p.t.get i=some (.var sh203 (Y0c.mk (.slc j [] 0 (packB l).length) (slc_sh _ _ _ _) l.length).cv):=by rw[h1];simp only[W1,hWv]
   (have zx:=zA ht (zA hd (zA hm2 (zA hr (zA g2 h1))));refine zq157 ?_;try exact zT)
   repeat'(apply zK.s<;>intro hc<;>(try simp only[zhd]at hc)<;>(try have hw:=K0a hc)<;>(refine zq157 ?_;try exact zT))
   all_goals(try clear zx)
   have hpm:(packB (l++[b])).length=(packB l).length+1:=by rw[K0g,K0g,List.length_append,List.length_singleton];omega
   refine shr_w (J:=p.n+1) hF hne k1 k2 ?_ ?_ (by omega) (.inr (by omega)) (fun k o hk hk2 h=>?_) (Q0l _ _)
   ·rw[W1_slc hne hpm (n:=(l.length:Int)+1) (by simp)];simp (disch:=first|exact zdl|fail) only[zheap]
   ·rw[Wrow_of hor (n:=(packB l).length+1) (by rw[List.length_set];omega)];simp (disch:=first|exact zdl|fail) only[zheap];rw[hm];rfl
   ·have hd:=hF.dom _ _ h;have hkj:=hk2.resolve_left hl;simp (disch:=first|exact zdl|fail) only[Hp.bump_get,Hp.get_set_ne,Hp.get_new_ne];exact h
  ·have hm2:¬((l.length % 8:Nat):Int)=0:=by omega
   have hr:packB l=roomB l:=by rw[roomB,if_neg hm]
   have hWv:Wv j l=.slc j [] 0 (roomB l).length:=by rw[Wv,if_neg hl,hr]
   replace h1:p.t.get i=some (.var sh203 (Y0c.mk (.slc j [] 0 (roomB l).length) (slc_sh _ _ _ _) l.length).cv):=by rw[h1];simp only[W1,hWv]
   rw[hr]at g2 hpl hpl2
   (have zx:=zA ht (zA hd (zA hm2 (zA g2 h1)));refine zq157 ?_;try exact zT)
   repeat'(apply zK.s<;>intro hc<;>(try simp only[zhd]at hc)<;>(try have hw:=K0a hc)<;>(refine zq157 ?_;try exact zT))
   all_goals(try clear zx)
   have hpm:(packB (l++[b])).length=(roomB l).length:=by rw[K0g,hB,List.length_append,List.length_singleton];omega
   refine shr_w (J:=j) hF hne k1 k2 ?_ ?_ hji (.inl ⟨hl,rfl⟩) (fun k o hk hk2 h=>?_) (Q0l _ _)
   ·rw[W1_slc hne hpm (n:=(l.length:Int)+1) (by simp)];simp (disch:=first|exact zdl|fail) only[zheap]
   ·rw[Wrow_of hor (n:=(roomB l).length) (by rw[List.length_set])];simp (disch:=first|exact zdl|fail) only[zheap];rfl
   ·have hd:=hF.dom _ _ h;have hkj:=hk2.resolve_left hl;simp (disch:=first|exact zdl|fail) only[Hp.bump_get,Hp.get_set_ne,Hp.get_new_ne];exact h
theorem X09(v:Int): ∀(n k:Nat),k<n->(bitsOf v n).take (k+1)=(bitsOf v n).take k++[bitAt v (n-1-k)]
 |0,k,h=>by omega
 |n+1,0,_=>by simp[bitsOf]
 |n+1,k+1,h=>by
  have ih:=X09 v n k (by omega)
  simp only[bitsOf,List.take_succ_cons,List.cons_append,ih]
  rw[show n+1-1-(k+1)=n-1-k by omega]
structure WSt(i j:Nat)(l:List Bool)(p:Hp)(J:Nat)(m:List Bool)(q:Hp): Prop where
 g:q.t.get i=some (W1 J m)
 w:W2 i J m q
 hJ:(m=l/\J=j)\/(p.n<=J/\J<q.n)
 hi:i<p.n
 hn:p.n<=q.n
 hle:∀k o,k≠i->(l=[]\/k≠j)->p.t.get k=some o->q.t.get k=some o
theorem WSt.start{i j:Nat}{l:List Bool}{p:Hp}(h1:p.t.get i=some (W1 j l))(h2:W2 i j l p)(hi:i<p.n): WSt i j l p j l p:=⟨h1,h2,.inl ⟨rfl,rfl⟩,hi,Nat.le_refl _,fun _ _ _ _ h=>h⟩
theorem WSt.bump{i j J:Nat}{l m:List Bool}{p q:Hp}(h:WSt i j l p J m q)(n:Nat): WSt i j l p J m (q.bump n):=by
 refine⟨by rw[Hp.bump_get];exact h.g,?_,h.hJ.imp id fun x=>⟨x.1,by rw[Hp.bump_n];omega⟩,h.hi,by rw[Hp.bump_n];have:=h.hn;omega,fun k o a b c=>by rw[Hp.bump_get];exact h.hle k o a b c⟩
 rcases h.w with w|⟨w1,w2⟩
 ·exact .inl w
 ·exact .inr ⟨w1,by rw[Hp.bump_get];exact w2⟩
theorem WSt.step{i j J:Nat}{l m:List Bool}{p q:Hp}(hd:∀k o,p.t.get k=some o->k<p.n)(h:WSt i j l p J m q)(m':List Bool): WSt i j l p q.n m' (wHp i J m m' q):=by
 have hi:i<q.n:=Nat.lt_of_lt_of_le h.hi h.hn
 refine⟨wHp_i _ _ hi,.inr ⟨by omega,wHp_new _ _⟩,.inr ⟨h.hn,by rw[wHp_n];omega⟩,h.hi,by rw[wHp_n];have:=h.hn;omega,fun k o a b c=>?_⟩
 have hk:=hd k o c
 have hn:=h.hn
 rw[wHp_ne a ?_ (by omega)]
 ·exact h.hle k o a b c
 ·rcases h.hJ with⟨e1,e2⟩|e
  ·subst e1;subst e2;exact b
  ·exact .inr (by omega)
theorem WSt.fin{args:List CV}{i j J:Nat}{l m:List Bool}{p q:Hp}(hF:Fine args p)(h1:p.t.get i=some (W1 j l))(h2:W2 i j l p)(h:WSt i j l p J m q)(hm:m≠[]){v u:CV}(hv:CV.weak (ren p.n J) (p.n+1) v u): ShrR p (.ret v q) (.ret u (wHp i j l m p)):=by
 have w:=h.w.resolve_left hm
 refine shr_w hF hm h1 h2 h.g w.2 w.1 ?_ h.hle hv
 rcases h.hJ with⟨e1,e2⟩|e
 ·exact .inl ⟨by rw[<- e1];exact hm,e2⟩
 ·exact .inr e.1
def J89(i j:Nat)(l:List Bool)(v:Int)(N:Nat)(p:Hp)(n:Nat)(ρ:Env)(q:Hp): Prop:=
 ∃(k J:Nat),n=N-k/\k<=N/\ρ 0=.ptr i []/\ρ 1=U v/\ρ 6=I ((N:Int)-1-k)/\WSt i j l p J (l++(bitsOf v N).take k) q
def R89: Rel:=fun args p r=>∃(i j:Nat) (l:List Bool) (v n:Int),args=[.ptr i [],U v,I n]/\(p.t.get i=some (W1 j l))/\(W2 i j l p)/\(l.length<=900000)/\(1<=n/\n<=64)/\r=.ret (.tup []) (wHp i j l (l++bitsOf v n.toNat) p)
theorem t89{T:XCall}(h:Has T 89 R89)(i j:Nat)(l:List Bool)(v n:Int){p:Hp}(h1:p.t.get i=some (W1 j l))(h2:W2 i j l p)(h3:l.length<=900000)(h4:1<=n/\n<=64): T 89 [.ptr i [],U v,I n] p=.ret (.tup []) (wHp i j l (l++bitsOf v n.toNat) p):=h _ _ _ ⟨i,j,l,v,n,rfl,h1,h2,h3,h4,rfl⟩
theorem zdis89{P:Prop}(h:P:=by first|exact zdis|(exact W2_nil _ _ _)|(refine W2_in ?_ ?_<;>exact zdis)|(simp only[Hp.bump_n,Hp.znew_n,Hp.zset_n,List.length_nil,List.length_cons,List.length_append,List.length_map];(first|done|omega))|(simp (disch:=first|exact zd1|(simp only[Hp.bump_n,Hp.znew_n,Hp.zset_n,List.length_nil,List.length_cons,List.length_append,List.length_map];(first|done|omega))) only[zheap,zx];(first|done|rfl))|fail): P:=h
theorem zq89{A B:Prop}(k:B)(h:A=B:=by have zy:=zA @zw89<|zA @rs89<|zA @tt3<|zA @tt25<|zA ti3.eq_1<|zA ti25.eq_1<|zA @t_156<|zA @t_157<|zA @X0q<|zA @h1<|zA @h2<|zA @h3<|@h4;have zd:=@zdis89;exact zQd): A:=h▸k
theorem c89: Con C 89 R89:=by
 refine V0e C ?_ ?_ ?_
 ·rintro args p r r' ⟨i,j,l,v,n,h,h1,h2,h3,h4,e⟩ ⟨i',j',l',v',n',h',h1',h2',h3',h4',e'⟩
  subst e;subst e';(subst h;simp only[List.cons.injEq,CV.ptr.injEq,CV.sc.injEq,Value.int.injEq,and_true,true_and]at h';obtain⟨e1,e2,e3⟩:=h';subst e1;subst e2;subst e3;have hu:=Y1v h1 h2 h1' h2';rw[Q02 _ hu,hu.1])
 ·rintro args p r ⟨i,j,l,v,n,h,h1,h2,h3,h4,rfl⟩;exact zr1
 rintro args p r ⟨i,j,l,v,n,rfl,h1,h2,h3,h4,rfl⟩
 refine zW C false [(156,R156),(157,R157)] ⟨c156,c157,zT⟩ rfl xf89 zc89_ok fun call zh hF=>?_
 have t_156:=@t156 _ zh.1
 have t_157:=@t157 _ zh.2.1
 clear zh
 have hd_h1:=hF.dom _ _ h1
 have hi:=hF.dom _ _ h1
 have k1:=h1
 have k2:=h2
 obtain⟨N,rfl⟩:=Int.eq_ofNat_of_zero_le (show 0<=n by omega)
 have hmm:max 0 (min (N:Int) 64)=N:=by omega
 have hw:=hF.dom
 (have zx:=zA hmm h1;refine zq89 ?_;try exact zT)
 repeat'(apply zK.s<;>intro hc<;>(try simp only[zhd]at hc)<;>(try have hw:=K0a hc)<;>(refine zq89 ?_;try exact zT))
 all_goals(try clear zx)
 (show W C false noExt call (ZC.loop zn89_4) _ _ _);refine Y0g C false noExt call zn89_4 _ _ _ (J89 i j l v N p) N ⟨0,j,rfl,by omega,(by simp[put_at,X0c,K0f]),by simp[put_at,X0c,K0f,K0j],zev,by simpa using WSt.start k1 k2 hi⟩ ?_
 rintro n ρ q ⟨k,J,rfl,hk,e0,e1,e6,hS⟩
 by_cases hlt:k<N
 ·have hb:=bit_of v (N-1-k) (by omega)
  unfold andB at hb
  have e6:ρ 6=I ((N-1-k:Nat):Int):=by rw[e6];congr 2;omega
  have hlen:(l++(bitsOf v N).take k).length<=1000000:=by rw[List.length_append,List.length_take,X0e];omega
  have g1:=hS.g
  have g2:=hS.w
  have hst:=hS.step hw (l++(bitsOf v N).take (k+1))
  rw[X09 v N k hlt,<- List.append_assoc]at hst
  have hge:0<=((N-1-k:Nat):Int):=by omega
  (have zx:=zA e0 (zA e1 (zA e6 (zA hb (zA g1 (zA hge h1)))));refine zq89 ?_;try exact zT)
  repeat'(apply zK.s<;>intro hc<;>(try simp only[zhd]at hc)<;>(try have hw:=K0a hc)<;>(refine zq89 ?_;try exact zT))
  all_goals(try clear zx)
  refine⟨N-(k+1),by omega,k+1,q.n,rfl,by omega,zev,zev,by simp[put_at,X0c];omega,?_⟩
  rw[X09 v N k hlt,<- List.append_assoc]
  exact hst
 ·have hkN:k=N:=by omega
  have e6:ρ 6=I (-1):=by rw[e6,hkN];congr 2;omega
  rw[hkN,List.take_of_length_le (by rw[X0e];exact Nat.le_refl _)]at hS
  (have zx:=zA e0 (zA e1 (zA e6 h1));refine zq89 ?_;try exact zT)
  repeat'(apply zK.s<;>intro hc<;>(try simp only[zhd]at hc)<;>(try have hw:=K0a hc)<;>(refine zq89 ?_;try exact zT))
  all_goals(try clear zx)
  refine hS.fin hF k1 k2 ?_ (Q0l _ _)
  intro e
  have:=congrArg List.length e
  rw[List.length_append,X0e,List.length_nil]at this
  omega
end Go.Proofs.Ytpchcfkebljopaa
end
section
namespace Go.Proofs.Ytpchcfkebljopaa
open Go.Cl Go Go.RowKit
theorem shapes_s{α:Type}{f:α->CV}{sh:Shape}(h:∀x,(f x).shape=sh)(l:List α): (l.map f).all (fun v=>decide (v.shape=sh))=true:=by
 simp[h]
def bindE{α β:Type}(r:Except Int (α×Nat))(f:α->Nat->Except Int (β×Nat)): Except Int (β×Nat):=match r with|.ok (x,a)=>f x a|.error e=>.error e
theorem Q0e{α β:Type}(x:α)(a:Nat)(f:α->Nat->Except Int (β×Nat)): bindE (.ok (x,a)) f=f x a:=rfl
theorem V0f{α β:Type}(e:Int)(f:α->Nat->Except Int (β×Nat)): bindE (.error e) f=.error e:=rfl
def getB(b:List Int)(n a:Nat): Except Int (Int×Nat):=if a+n<=8*b.length then .ok (valB (bitB b) a n,a+n)else .error a
def sgetB(b:List Int)(n a:Nat): Except Int (Int×Nat):=bindE (getB b n a) fun u a=>.ok (sgnB u n,a)
def memB(b:List Int)(x:Q0b)(a:Nat): Nat->Except Int (Q0b×Nat)
 |0=>.ok (x,a)
 |k+1=>bindE (memB b x a k) fun y a=>bindE (sgetB b 21 a) fun v a=>.ok (y.put_7k k v,a)
def readBody(b:List Int)(a:Nat): Except Int (Q0b×Nat):=
 bindE (getB b 2 a) fun k a=>if k=0 then .ok ({Q0b.zero with Kind:=k},a) else
 bindE (getB b 3 a) fun o a=>bindE (getB b 12 a) fun x a=>bindE (getB b 12 a) fun y a=>bindE (sgetB b 8 a) fun vx a=>bindE (sgetB b 8 a) fun vy a=>bindE (getB b 10 a) fun g a=>
 bindE (memB b {Q0b.zero with Kind:=k,Owner:=o,X:=x,Y:=y,VX:=vx,VY:=vy,Age:=g} a 4) fun z a=>bindE (getB b 16 a) fun f a=>.ok ({z with Faults:=f},a)
def At(b:List Int)(a:Nat)(l:List Bool): Prop:=a+l.length<=8*b.length/\∀i,i<l.length->bitB b (a+i)=gb l i
theorem At.left{b:List Int}{a:Nat}{l m:List Bool}(h:At b a (l++m)): At b a l:=by
 have h1:=h.1
 rw[List.length_append]at h1
 refine⟨by omega,fun i hi=>?_⟩
 have:=h.2 i (by rw[List.length_append];omega)
 rw[gb_app,if_pos hi]at this;exact this
theorem At.right{b:List Int}{a:Nat}{l m:List Bool}(h:At b a (l++m)): At b (a+l.length) m:=by
 have h1:=h.1
 rw[List.length_append]at h1
 refine⟨by omega,fun i hi=>?_⟩
 have:=h.2 (l.length+i) (by rw[List.length_append];omega)
 rw[gb_app,if_neg (by omega),Nat.add_sub_cancel_left]at this
 rw[Nat.add_assoc];exact this
theorem getB_at{b:List Int}{a n:Nat}{v:Int}(h:At b a (bitsOf v n)): getB b n a=.ok (v % 2^n,a+n):=by
 have h1:=h.1
 rw[X0e]at h1
 unfold getB
 rw[if_pos h1,valB_of fun i hi=>h.2 i (by rw[X0e];exact hi)]
theorem Y0j{b:List Int}{a n:Nat}{v:Int}(h:At b a (bitsOf v n))(h0:0<=v/\v<2^n): getB b n a=.ok (v,a+n):=by
 rw[getB_at h,Int.emod_eq_of_lt h0.1 h0.2]
theorem sgetB_at{b:List Int}{a n:Nat}{v:Int}(h:At b a (bitsOf v n))(hn:1<=n)(h0:-(2^(n-1))<=v/\v<2^(n-1)): sgetB b n a=.ok (v,a+n):=by
 unfold sgetB
 rw[getB_at h,Q0e,sgnB_of hn h0]
theorem Q0n{α:Type}[Inhabited α](f:α->List Bool)(l:List α){k:Nat}(h:k<l.length): (l.take (k+1)).flatMap f=(l.take k).flatMap f++f (nth l k):=by
 rw[K0m h,List.flatMap_append];simp
theorem K2d{α:Type}(f:α->List Bool)(l:List α)(k:Nat): ∃m,l.flatMap f=(l.take k).flatMap f++m:=⟨(l.drop k).flatMap f,by rw[<- List.flatMap_append,List.take_append_drop]⟩
theorem Q2f{α:Type}(f:α->List Bool)(n:Nat): ∀l:List α,(∀x∈l,(f x).length=n)->(l.flatMap f).length=n*l.length
 |[],_=>by simp
 |x::l,h=>by
  rw[List.flatMap_cons,List.length_append,h x (by simp),Q2f f n l fun y hy=>h y (by simp[hy]),List.length_cons,Nat.mul_succ];omega
end Go.Proofs.Ytpchcfkebljopaa
end
section
namespace Go.Proofs.Ytpchcfkebljopaa
open Go.Cl Go Go.RowKit
set_option maxRecDepth 100000
set_option linter.constructorNameAsVariable false
theorem WSt.new{i j J:Nat}{l m:List Bool}{p q:Hp}(hd:∀k o,p.t.get k=some o->k<p.n)(h:WSt i j l p J m q)(hj:J<q.n)(o:XObj): WSt i j l p J m (q.new o):=by
 have hi:i<q.n:=Nat.lt_of_lt_of_le h.hi h.hn
 refine⟨by rw[Hp.get_new_ne _ _ (by omega)];exact h.g,?_,h.hJ.imp id fun x=>⟨x.1,by rw[Hp.znew_n];omega⟩,h.hi,by rw[Hp.znew_n];have:=h.hn;omega,fun k o' a b c=>?_⟩
 ·rcases h.w with w|⟨w1,w2⟩
  ·exact .inl w
  ·exact .inr ⟨w1,by rw[Hp.get_new_ne _ _ (by omega)];exact w2⟩
 ·have hk:=hd k o' c
  have hn:=h.hn
  rw[Hp.get_new_ne _ _ (by omega)];exact h.hle k o' a b c
theorem WSt.new0{i j:Nat}{l:List Bool}{p:Hp}(hd:∀k o,p.t.get k=some o->k<p.n)(h1:p.t.get i=some (W1 j l))(h2:W2 i j l p)(hi:i<p.n)(o:XObj): WSt i j l p j l (p.new o):=by
 refine⟨by rw[Hp.get_new_ne _ _ (by omega)];exact h1,?_,.inl ⟨rfl,rfl⟩,hi,by rw[Hp.znew_n];omega,fun k o' a b c=>by rw[Hp.get_new_ne _ _ (by have:=hd k o' c;omega)];exact c⟩
 rcases h2 with w|⟨w1,w2⟩
 ·exact .inl w
 ·exact .inr ⟨w1,by rw[Hp.get_new_ne _ _ (by have:=hd _ _ w2;omega)];exact w2⟩
theorem wHp_nj{i j:Nat}{l m:List Bool}{p:Hp}{k:Nat}(h1:k≠i)(h2:k≠j)(h3:k≠p.n): (wHp i j l m p).t.get k=p.t.get k:=wHp_ne h1 (.inr h2) h3
theorem wHp_eq{i j:Nat}{l m:List Bool}{p:Hp}{k:Nat}(h:k=p.n): (wHp i j l m p).t.get k=some (Wrow (packB m)):=by subst h;exact wHp_new _ _
theorem zdw1{P:Prop}(h:P:=by first|omega|(simp only[wHp_n,Hp.bump_n,Hp.znew_n,Hp.zset_n];(first|done|omega))): P:=h
theorem zdw{P:Prop}(h:P:=by first|exact zdis|(simp (disch:=first|exact zdw1|fail) only[zheap,wHp_i,wHp_eq,wHp_nj,wHp_n,zx];(first|done|rfl))): P:=h
def R158: Rel:=fun args p r=>∃(i j:Nat) (l:List Bool) (v n:Int),args=[.ptr i [],I v,I n]/\(p.t.get i=some (W1 j l))/\(W2 i j l p)/\(l.length<=900000)/\(1<=n/\n<=64)/\r=.ret (.tup []) (wHp i j l (l++bitsOf v n.toNat) p)
theorem t158{T:XCall}(h:Has T 158 R158)(i j:Nat)(l:List Bool)(v n:Int){p:Hp}(h1:p.t.get i=some (W1 j l))(h2:W2 i j l p)(h3:l.length<=900000)(h4:1<=n/\n<=64): T 158 [.ptr i [],I v,I n] p=.ret (.tup []) (wHp i j l (l++bitsOf v n.toNat) p):=h _ _ _ ⟨i,j,l,v,n,rfl,h1,h2,h3,h4,rfl⟩
theorem zq158{A B:Prop}(k:B)(h:A=B:=by have zy:=zA @zw158<|zA @rs158<|zA @tt3<|zA @tt25<|zA ti3.eq_1<|zA ti25.eq_1<|zA @t_89<|zA @h1<|zA @h2<|zA @h3<|@h4;exact zQ): A:=h▸k
theorem c158: Con C 158 R158:=by
 refine V0e C ?_ ?_ ?_
 ·rintro args p r r' ⟨i,j,l,v,n,h,h1,h2,h3,h4,e⟩ ⟨i',j',l',v',n',h',h1',h2',h3',h4',e'⟩
  subst e;subst e';(subst h;simp only[List.cons.injEq,CV.ptr.injEq,CV.sc.injEq,Value.int.injEq,and_true,true_and]at h';obtain⟨e1,e2,e3⟩:=h';subst e1;subst e2;subst e3;have hu:=Y1v h1 h2 h1' h2';rw[Q02 _ hu,hu.1])
 ·rintro args p r ⟨i,j,l,v,n,h,h1,h2,h3,h4,rfl⟩;exact zr1
 rintro args p r ⟨i,j,l,v,n,rfl,h1,h2,h3,h4,rfl⟩
 refine zW C false [(89,R89)] ⟨c89,zT⟩ rfl xf158 zc158_ok fun call zh hF=>?_
 have t_89:=@t89 _ zh.1
 clear zh
 have hd_h1:=hF.dom _ _ h1
 have hi:=hF.dom _ _ h1
 (have zx:=h1;refine zq158 ?_;try exact zT)
 repeat'(apply zK.s<;>intro hc<;>(try simp only[zhd]at hc)<;>(try have hw:=K0a hc)<;>(refine zq158 ?_;try exact zT))
 all_goals(try clear zx)
 rw[Y0t _ (by omega)]
 refine((WSt.start h1 h2 hi).step hF.dom _).fin hF h1 h2 ?_ (Q0l _ _)
 intro e
 have:=congrArg List.length e
 rw[List.length_append,X0e,List.length_nil]at this
 omega
theorem WSt.step2{i j J J':Nat}{l m m':List Bool}{p q:Hp}(hd:∀k o,p.t.get k=some o->k<p.n)(e:J'=q.n)(h:WSt i j l p J m q): WSt i j l p J' m' (wHp i J m m' q):=by subst e;exact h.step hd m'
theorem app_ne{l m:List Bool}{n:Nat}(h:m.length=n+1): l++m≠[]:=fun e=>by
 have:=congrArg List.length e
 rw[List.length_append,h,List.length_nil]at this
 omega
end Go.Proofs.Ytpchcfkebljopaa
end
section
namespace Go.Proofs.Ytpchcfkebljopaa
open Go.Cl Go Go.RowKit
set_option maxRecDepth 100000
def zn65_1:=ZC.reg [zv 4 (.assign (.const (.slice none 0 0)))]
def zn65_3:=ZC.reg [zu 7 (zmv 0),zu 8 (.makeSlice 108 (Tm 7) (Tm 7)),zv 5 (zas 8)]
def zn65_6:=ZC.reg [zv 6 (.assign (Kn 0))]
def zn65_11:=ZC.reg [zu 9 (zmv 6),zu 10 (zmv 0),zu 11 (.binOp .lss 3 (Tm 9) (Tm 10) 3),zu 12 (zmv 11),zug 13 (zmv 6) 12 true false,zug 14 (zmv 1) 12 true false,zug 15 (zcb .len [Tm 14] [24]) 12 true false,zug 16 (.binOp .lss 3 (Tm 13) (Tm 15) 3) 12 true false,zv 17 (.pick (Tm 12) (Tm 16) (.const (.bool false)))]
def zn65_16:=ZC.reg [zu 20 (zmv 1),zu 21 (zmv 6),zu 22 (zia 24 20 21),zu 23 (zld 3 22),zu 24 (.binOp .rem 3 (Tm 23) (Kn 4) 3),zv 25 (.binOp .gtr 3 (Tm 24) (Kn 0) 3)]
def zn65_18:=ZC.draw 16 [] [zdd 0 26 (zmv 5) false [] [] false,zdd 1 27 (zmv 6) false [] [] false,zdd 2 28 (zmv 1) false [] [] false,zdd 3 29 (zmv 6) false [] [] false,zdd 4 30 (zia 24 28 29) false [] [] false,zdd 5 31 (zld 3 30) false [] [] false,zdd 6 32 (.binOp .quo 3 (Tm 31) (Kn 4) 3) false [] [] false,zdd 7 33 (zmv 1) false [] [] false,zdd 8 34 (zmv 6) true [] [] false,zdd 9 35 (zia 24 33 34) true [] [] false,zdd 10 36 (zld 3 35) true [] [] false,zdd 11 37 (.binOp .quo 3 (Tm 36) (Kn 7) 3) true [] [] false,zdd 12 38 (zcf 69 [Tm 32,Tm 37] [3,3]) true [] [] false,⟨13,some 39,.build 110 ⟨[(0,.const (.bool true)),(1,.tmp 38)]⟩,none,true,[],[],false⟩,zdd 14 40 (zia 108 26 27) true [] [] false,zd0 15 (.store 110 (Tm 40) (Tm 39)) true [] [] false]
def zn65_19:=ZC.reg [zu 18 (zmv 6),zu 19 (.binOp .add 3 (Tm 18) (Kn 1) 3),zv 6 (zas 19)]
def zn65_9:=ZC.seq (ZC.seq zn65_11 (ZC.cond (Tm 17) ZC.skip (ZC.exit 0))) (ZC.seq (ZC.block 1 (ZC.seq zn65_16 (ZC.cond (Tm 25) zn65_18 ZC.skip))) zn65_19)
def zn65_21:=ZC.reg [zu 41 (zmv 5),zv 4 (zas 41)]
def zn65_0:=ZC.seq zn65_1 (ZC.seq zn65_3 (ZC.seq (ZC.seq zn65_6 (ZC.block 0 (ZC.loop zn65_9))) (ZC.seq zn65_21 ZC.ret)))
def zc65: ZC:=zn65_0
theorem zc65_ok: zcode (xfOf Try.f65).code=some zc65:=by kernel_rfl
def zw65:=zU C zc65.eq_1<|zU C zn65_1.eq_1<|zU C zn65_3.eq_1<|zU C zn65_6.eq_1<|zU C zn65_11.eq_1<|zU C zn65_16.eq_1<|zU C zn65_18.eq_1<|zU C zn65_19.eq_1<|zU C zn65_9.eq_1<|zU C zn65_21.eq_1<|(zunf C zn65_0.eq_1)
theorem rs65: (xfOf Try.f65).rs=[.tmp 4]:=by kernel_rfl
def xf65:=zF C 65 Try.f65
end Go.Proofs.Ytpchcfkebljopaa
end
section
namespace Go.Proofs.Ytpchcfkebljopaa
open Go.Cl Go Go.RowKit
set_option maxRecDepth 100000
set_option linter.constructorNameAsVariable false
end Go.Proofs.Ytpchcfkebljopaa
end
section
namespace Go.Proofs.Ytpchcfkebljopaa
open Go.Cl Go Go.RowKit
end Go.Proofs.Ytpchcfkebljopaa
end
section
namespace Go.Proofs.Ytpchcfkebljopaa
open Go.Cl Go Go.RowKit
set_option maxRecDepth 100000
set_option linter.constructorNameAsVariable false
def nilB: Lst Int:=⟨.nil,[],fun _=>rfl⟩
def partB(l:List Int): Lst Int:=⟨.part,l,nofun⟩
theorem bld203: qbuild C 203 []=some (Y0c.mk (.lst .nil []) (lst_sh .nil []) 0).cv:=by
 simp only[qbuild,tt203,ti203,partsOk,setAll];rfl
def R88: Rel:=fun args p r=>args=[]/\r=.ret (.ptr p.n []) (p.new (W1 0 []))
theorem t88{T:XCall}(h:Has T 88 R88) {p:Hp}:T 88 [] p=.ret (.ptr p.n []) (p.new (W1 0 [])):=h _ _ _ ⟨rfl,rfl⟩
theorem zq88{A B:Prop}(k:B)(h:A=B:=by have zy:=zA @zw88<|zA @rs88<|zA @tt203<|zA ti203.eq_1<|zA @X0q<|@bld203;exact zQ): A:=h▸k
theorem c88: Con C 88 R88:=by
 refine V0e C ?_ ?_ ?_
 ·rintro args p r r' ⟨h,e⟩ ⟨h',e'⟩
  subst e;subst e';simp_all[Y0c.inj_iff]
 ·rintro args p r ⟨h,rfl⟩;exact zr1
 rintro args p r ⟨rfl,rfl⟩
 refine zW C false [] zT rfl xf88 zc88_ok fun call zh hF=>?_
 clear zh
 (have zx:=zT;refine zq88 ?_;try exact zT)
 repeat'(apply zK.s<;>intro hc<;>(try simp only[zhd]at hc)<;>(try have hw:=K0a hc)<;>(refine zq88 ?_;try exact zT))
 all_goals(try clear zx)
 refine X1i (by rw[Hp.znew_n];omega) (fun k o h=>?_) (by simp[CV.weak,Hp.znew_n])
 by_cases hk:k=p.n
 ·subst hk
  rw[Hp.get_new_self]at h;cases h
  exact⟨by rw[Hp.znew_n];omega,.inr ⟨W1 0 [],by rw[Hp.get_new_self];rfl,V0h fun j hj=>by simp[W1,Wv,Y0c.cv,XObj.has,CV.has,CV.hasL]at hj⟩⟩
 ·rw[Hp.get_new_ne _ _ hk]at h
  have hd:=hF.dom _ _ h
  exact⟨by rw[Hp.znew_n];omega,.inl ⟨hd,h,by rw[Hp.get_new_ne _ _ hk];exact h⟩⟩
def R159: Rel:=fun args p r=>∃(s:Lst Int),args=[s.cv Y8]/\(s.tl≠.view)/\(s.l.length<=140737488355328)/\r=.ret (Lst.cv Y8 (cloneP s)) p
theorem t159{T:XCall}(h:Has T 159 R159)(s:Lst Int){p:Hp}(h1:s.tl≠.view)(h2:s.l.length<=140737488355328): T 159 [s.cv Y8] p=.ret (Lst.cv Y8 (cloneP s)) p:=h _ _ _ ⟨s,rfl,h1,h2,rfl⟩
theorem zq159{A B:Prop}(k:B)(h:A=B:=by have zy:=zA @zw159<|zA @rs159<|zA @tt68<|zA ti68.eq_1<|zA @zsl68<|zA @h1<|@h2;exact zQ): A:=h▸k
theorem c159: Con C 159 R159:=by
 refine V0e C ?_ ?_ ?_
 ·rintro args p r r' ⟨s,h,h1,h2,e⟩ ⟨s',h',h1',h2',e'⟩
  subst e;subst e';simp_all[X0f]
 ·rintro args p r ⟨s,h,h1,h2,rfl⟩;exact zr1
 rintro args p r ⟨s,rfl,h1,h2,rfl⟩
 refine zW C false [] zT rfl xf159 zc159_ok fun call zh hF=>?_
 clear zh
 obtain⟨tl,l,o⟩:=s
 simp only at h2 h1
 cases tl with
 |view=>exact absurd rfl h1
 |nil=>
  have:=o rfl
  subst this
  (have zx:=zT;refine zq159 ?_;try exact zT)
  repeat'(apply zK.s<;>intro hc<;>(try simp only[zhd]at hc)<;>(try have hw:=K0a hc)<;>(refine zq159 ?_;try exact zT))
  all_goals(try clear zx)
  exact V0c hF zle (Z17 Y0l ⟨.nil,[],o⟩ 0 _)
 |_=>
  cases l with
  |nil=>
   (have zx:=zT;refine zq159 ?_;try exact zT)
   repeat'(apply zK.s<;>intro hc<;>(try simp only[zhd]at hc)<;>(try have hw:=K0a hc)<;>(refine zq159 ?_;try exact zT))
   all_goals(try clear zx)
   exact V0c hF zle (V0d (K0c (by intro jj;simp[Lst.cv,cloneP,CV.has,CV.hasL])))
  |cons x l=>
   simp only[List.length_cons]at h2
   (have zx:=zT;refine zq159 ?_;try exact zT)
   repeat'(apply zK.s<;>intro hc<;>(try simp only[zhd]at hc)<;>(try have hw:=K0a hc)<;>(refine zq159 ?_;try exact zT))
   all_goals(try clear zx)
   exact V0c hF zle (Z17 Y0l ⟨.exact,x::l,nofun⟩ _ _)
def R159x: Rel:=fun args p r=>R159 args p r\/RFrz R159 args p r
theorem c159x: Con C 159 R159x:=Y03 C c159 (con_frz C c159) (by
 rintro args p r r' ⟨s,rfl,_⟩ ⟨a,j,sh,l,sz,e,_⟩
 have:=congrArg List.getLast? e
 simp[Lst.cv]at this)
theorem t159x{T:XCall}(h:Has T 159 R159x): (∀(s:Lst Int) {p:Hp},s.tl≠.view->s.l.length<=140737488355328->T 159 [s.cv Y8] p=.ret (Lst.cv Y8 (cloneP s)) p) /\
  ∀(B:List Int) (j:Nat) {p:Hp},B≠[]->B.length<=140737488355328->p.t.get j=some (.var (.n (List.replicate B.length .s)) (.agg (B.map Y8)))->T 159 [.slc j [] 0 B.length] p=.ret (Lst.cv Y8 (partB B)) (p.set j none):=by
 refine⟨fun s p h1 h2=>h _ _ _ (.inl ⟨s,rfl,h1,h2,rfl⟩),fun B j p hne h1 hg=>h _ _ _ (.inr ⟨[],j,_,B.map Y8,1,?_,hg,fun x hx=>?_,⟨⟨.part,B,nofun⟩,rfl,by simp,h1,?_⟩⟩)⟩
 ·rw[List.length_map];rfl
 ·obtain⟨y,_,rfl⟩:=List.mem_map.1 hx;rfl
 ·cases B with
  |nil=>exact absurd rfl hne
  |cons b B=>rfl
def R91: Rel:=fun args p r=>∃(i j:Nat) (l:List Bool),args=[.ptr i []]/\(p.t.get i=some (W1 j l))/\(W2 i j l p)/\(l.length<=1000000)/\(l≠[])/\r=.ret (Lst.cv Y8 (partB (packB l))) (p.set j none)
theorem t91{T:XCall}(h:Has T 91 R91)(i j:Nat)(l:List Bool){p:Hp}(h1:p.t.get i=some (W1 j l))(h2:W2 i j l p)(h3:l.length<=1000000)(h4:l≠[]): T 91 [.ptr i []] p=.ret (Lst.cv Y8 (partB (packB l))) (p.set j none):=h _ _ _ ⟨i,j,l,rfl,h1,h2,h3,h4,rfl⟩
theorem zq91{A B:Prop}(k:B)(h:A=B:=by have zy:=zA @zw91<|zA @rs91<|zA @tt68<|zA @tt203<|zA ti68.eq_1<|zA ti203.eq_1<|zA @t_159x<|zA @X0q<|zA @zsl68<|zA @h1<|zA @h2<|zA @h3<|@h4;exact zQ): A:=h▸k
theorem c91: Con C 91 R91:=by
 refine V0e C ?_ ?_ ?_
 ·rintro args p r r' ⟨i,j,l,h,h1,h2,h3,h4,e⟩ ⟨i',j',l',h',h1',h2',h3',h4',e'⟩
  subst e;subst e';(subst h;simp only[List.cons.injEq,CV.ptr.injEq,and_true,true_and]at h';subst h';have hu:=Y1v h1 h2 h1' h2';obtain⟨e1,e2⟩:=hu;subst e1;rw[e2 h4])
 ·rintro args p r ⟨i,j,l,h,h1,h2,h3,h4,rfl⟩;exact zr1
 rintro args p r ⟨i,j,l,rfl,h1,h2,h3,h4,rfl⟩
 refine zW C false [(159,R159x)] ⟨c159x,zT⟩ rfl xf91 zc91_ok fun call zh hF=>?_
 have t_159x:=@t159x _ zh.1
 clear zh
 have hd_h1:=hF.dom _ _ h1
 have k1:=h1
 have hi:=hF.dom _ _ h1
 have g2:=(h2.resolve_left h4).2
 have hji:=(h2.resolve_left h4).1
 have hpk:=K0g l
 have hpl:packB l≠[]:=fun e=>h4 (packB_nil.1 e)
 unfold Wrow at g2
 have hWv:Wv j l=.slc j [] 0 (packB l).length:=if_neg h4
 replace h1:p.t.get i=some (.var sh203 (Y0c.mk (.slc j [] 0 (packB l).length) (slc_sh _ _ _ _) l.length).cv):=by rw[h1];simp only[W1,hWv]
 have t2:=t_159x.2 (packB l) j (p:=p) hpl (by omega) g2
 (have zx:=zA t2 h1;refine zq91 ?_;try exact zT)
 repeat'(apply zK.s<;>intro hc<;>(try simp only[zhd]at hc)<;>(try have hw:=K0a hc)<;>(refine zq91 ?_;try exact zT))
 all_goals(try clear zx)
 refine X1i (Nat.le_refl _) (fun k o h=>?_) (V0d (K0c (fun jj hj=>by have:=(Lst.has _ Y0l (partB (packB l)) jj).1 hj;cases this)))
 by_cases hk:k=j
 ·subst hk;rw[Hp.get_set_self]at h;cases h
 ·have h':=h
  rw[Hp.get_set_ne _ _ _ hk]at h'
  exact⟨hF.dom _ _ h',.inl ⟨hF.dom _ _ h',h',h⟩⟩
theorem wHp_n0{i j:Nat}{m:List Bool}{p:Hp}{k:Nat}(h1:k≠i)(h3:k≠p.n): (wHp i j [] m p).t.get k=p.t.get k:=wHp_ne h1 (.inl rfl) h3
def rdr(B:Lst Int)(a:Nat): XObj:=.var sh208 (Q0c.mk B a).cv
theorem rdr_inj{B B':Lst Int}{a a':Nat}(h:rdr B a=rdr B' a'): B=B'/\a=a':=by
 simp only[rdr,XObj.var.injEq,Q0c.inj_iff,Q0c.mk.injEq,true_and]at h
 exact⟨h.1,by omega⟩
theorem K1e{p:Hp}{i:Nat}{B B':Lst Int}{a a':Nat}(h:p.t.get i=some (rdr B a))(h':p.t.get i=some (rdr B' a')): B=B'/\a=a':=rdr_inj (by rw[h]at h';exact Option.some.inj h')
theorem wrap_b2i(b:Bool): IntKind.u64.wrap (b2i b)=b2i b:=by cases b<;>rfl
theorem shr_newo{args:List CV}{p:Hp}(hF:Fine args p)(o:XObj)(ho:∀j,¬o.has j): ShrR p (.ret (.ptr p.n []) (p.new o)) (.ret (.ptr p.n []) (p.new o)):=by
 refine X1i (by rw[Hp.znew_n];omega) (fun k o' h=>?_) (by simp[CV.weak,Hp.znew_n])
 by_cases hk:k=p.n
 ·subst hk
  rw[Hp.get_new_self]at h;cases h
  exact⟨by rw[Hp.znew_n];omega,.inr ⟨o,Hp.get_new_self _ _,V0h fun j hj=>(ho j hj).elim⟩⟩
 ·rw[Hp.get_new_ne _ _ hk]at h
  have hd:=hF.dom _ _ h
  exact⟨by rw[Hp.znew_n];omega,.inl ⟨hd,h,by rw[Hp.get_new_ne _ _ hk];exact h⟩⟩
theorem rdr_has{s:Lst Int}(h:∀j,s.tl≠.own j)(a j:Nat): ¬(rdr s a).has j:=fun hj=>by
 simp only[rdr,XObj.has,Q0c.has]at hj
 exact h j hj
def R95: Rel:=fun args p r=>∃(s:Lst Int),args=[s.cv Y8]/\(s.tl≠.view)/\(s.l.length<=140737488355328)/\r=.ret (.ptr p.n []) (p.new (rdr (cloneP s) 0))
theorem t95{T:XCall}(h:Has T 95 R95)(s:Lst Int){p:Hp}(h1:s.tl≠.view)(h2:s.l.length<=140737488355328): T 95 [s.cv Y8] p=.ret (.ptr p.n []) (p.new (rdr (cloneP s) 0)):=h _ _ _ ⟨s,rfl,h1,h2,rfl⟩
theorem zq95{A B:Prop}(k:B)(h:A=B:=by have zy:=zA @zw95<|zA @rs95<|zA @tt208<|zA ti208.eq_1<|zA @t_159<|zA @Y0q<|zA @h1<|@h2;exact zQ): A:=h▸k
theorem c95: Con C 95 R95:=by
 refine V0e C ?_ ?_ ?_
 ·rintro args p r r' ⟨s,h,h1,h2,e⟩ ⟨s',h',h1',h2',e'⟩
  subst e;subst e';simp_all[Q0c.inj_iff,X0f]
 ·rintro args p r ⟨s,h,h1,h2,rfl⟩;exact zr1
 rintro args p r ⟨s,rfl,h1,h2,rfl⟩
 refine zW C false [(159,R159)] ⟨c159,zT⟩ rfl xf95 zc95_ok fun call zh hF=>?_
 have t_159:=@t159 _ zh.1
 clear zh
 (have zx:=zT;refine zq95 ?_;try exact zT)
 repeat'(apply zK.s<;>intro hc<;>(try simp only[zhd]at hc)<;>(try have hw:=K0a hc)<;>(refine zq95 ?_;try exact zT))
 all_goals(try clear zx)
 exact shr_newo hF (rdr (cloneP s) 0) (rdr_has (Z08 s) 0)
def R189: Rel:=fun args p r=>∃(i:Nat) (B:Lst Int) (a:Nat),args=[.ptr i []]/\(p.t.get i=some (rdr B a))/\(B.l.length<=140737488355328)/\(a<=8*B.l.length)/\r=.ret (I (8*B.l.length-a)) p
theorem t189{T:XCall}(h:Has T 189 R189)(i:Nat)(B:Lst Int)(a:Nat){p:Hp}(h1:p.t.get i=some (rdr B a))(h2:B.l.length<=140737488355328)(h3:a<=8*B.l.length): T 189 [.ptr i []] p=.ret (I (8*B.l.length-a)) p:=h _ _ _ ⟨i,B,a,rfl,h1,h2,h3,rfl⟩
theorem zq189{A B:Prop}(k:B)(h:A=B:=by have zy:=zA @zw189<|zA @rs189<|zA @tt3<|zA @tt68<|zA @tt208<|zA ti3.eq_1<|zA ti68.eq_1<|zA ti208.eq_1<|zA @Y0q<|zA @zsl68<|zA @h1<|zA @h2<|@h3;exact zQ): A:=h▸k
theorem zno189{P:Prop}(h:P:=by intro jj;simp[CV.has,CV.hasL,fault,X0b.nohas]): P:=h
theorem c189: Con C 189 R189:=by
 refine V0e C ?_ ?_ ?_
 ·rintro args p r r' ⟨i,B,a,h,h1,h2,h3,e⟩ ⟨i',B',a',h',h1',h2',h3',e'⟩
  subst e;subst e';(subst h;simp only[List.cons.injEq,CV.ptr.injEq,and_true,true_and]at h';subst h';obtain⟨e1,e2⟩:=K1e h1 h1';rw[e1,e2])
 ·rintro args p r ⟨i,B,a,h,h1,h2,h3,rfl⟩;exact zr1
 rintro args p r ⟨i,B,a,rfl,h1,h2,h3,rfl⟩
 refine zW C false [] zT rfl xf189 zc189_ok fun call zh hF=>?_
 clear zh
 have hd_h1:=hF.dom _ _ h1
 have hi:=hF.dom _ _ h1
 replace h1:p.t.get i=some (.var sh208 (Q0c.mk B a).cv):=h1
 (have zx:=h1;refine zq189 ?_;try exact zT)
 repeat'(apply zK.s<;>intro hc<;>(try simp only[zhd]at hc)<;>(try have hw:=K0a hc)<;>(refine zq189 ?_;try exact zT))
 all_goals(try clear zx)
 exact V0c hF zle (Q0d rfl (K0c zno189))
theorem valB_63(g:Nat->Bool)(a:Nat){k:Nat}(h:k<=63): 0<=valB g a k/\valB g a k<2^63:=by
 have hr:=Y0s g a k
 have h2:(2:Nat)^k<=2^63:=Nat.pow_le_pow_right (by omega) h
 have h3:(2:Int)^k<=2^63:=by exact_mod_cast h2
 omega
def J160(i:Nat)(B:Lst Int)(a:Nat)(N:Nat)(p:Hp)(n:Nat)(ρ:Env)(q:Hp): Prop:=
 ∃k:Nat,n=N-k/\k<=N/\ρ 0=.ptr i []/\ρ 5=U (valB (bitB B.l) a k)/\ρ 18=I N/\ρ 19=I k/\q.t.get i=some (.var sh208 (Q0c.mk B (a+k:Nat)).cv)/\p.n<=q.n/\∀j o,j≠i->p.t.get j=some o->q.t.get j=some o
def R160: Rel:=fun args p r=>∃(i:Nat) (B:Lst Int) (a:Nat) (n:Int),args=[.ptr i [],I n]/\(p.t.get i=some (rdr B a))/\(B.l.length<=140737488355328)/\(a<=8*B.l.length)/\(1<=n/\n<=64)/\(∀x∈B.l,0<=x/\x<=255)/\r=if a+n.toNat<=8*B.l.length then .ret (U (valB (bitB B.l) a n.toNat)) (p.set i (some (rdr B (a+n.toNat))))else .pan (fault 100 a) (p.set i none)
theorem t160{T:XCall}(h:Has T 160 R160)(i:Nat)(B:Lst Int)(a:Nat)(n:Int){p:Hp}(h1:p.t.get i=some (rdr B a))(h2:B.l.length<=140737488355328)(h3:a<=8*B.l.length)(h4:1<=n/\n<=64)(h5:∀x∈B.l,0<=x/\x<=255): T 160 [.ptr i [],I n] p=if a+n.toNat<=8*B.l.length then .ret (U (valB (bitB B.l) a n.toNat)) (p.set i (some (rdr B (a+n.toNat))))else .pan (fault 100 a) (p.set i none):=h _ _ _ ⟨i,B,a,n,rfl,h1,h2,h3,h4,h5,rfl⟩
theorem zq160{A B:Prop}(k:B)(h:A=B:=by have zy:=zA @zw160<|zA @rs160<|zA @tt3<|zA @tt5<|zA @tt25<|zA @tt68<|zA @tt178<|zA @tt208<|zA ti3.eq_1<|zA ti5.eq_1<|zA ti25.eq_1<|zA ti68.eq_1<|zA ti178.eq_1<|zA ti208.eq_1<|zA @t_156<|zA @t_181<|zA @t_189<|zA @Y0q<|zA @zsl68<|zA @wrap_b2i<|zA @h1<|zA @h2<|zA @h3<|zA @h4<|@h5;exact zQ): A:=h▸k
theorem c160: Con C 160 R160:=by
 refine V0e C ?_ ?_ ?_
 ·rintro args p r r' ⟨i,B,a,n,h,h1,h2,h3,h4,h5,e⟩ ⟨i',B',a',n',h',h1',h2',h3',h4',h5',e'⟩
  subst e;subst e';(subst h;simp only[List.cons.injEq,CV.ptr.injEq,CV.sc.injEq,Value.int.injEq,and_true,true_and]at h';obtain⟨e0,e3⟩:=h';subst e0;subst e3;obtain⟨e1,e2⟩:=K1e h1 h1';rw[e1,e2])
 ·rintro args p r ⟨i,B,a,n,h,h1,h2,h3,h4,h5,rfl⟩;exact zr1
 rintro args p r ⟨i,B,a,n,rfl,h1,h2,h3,h4,h5,rfl⟩
 refine zW C false [(156,R156),(181,R181),(189,R189)] ⟨c156,c181,c189,zT⟩ rfl xf160 zc160_ok fun call zh hF=>?_
 have t_156:=@t156 _ zh.1
 have t_181:=@t181 _ zh.2.1
 have t_189:=@t189 _ zh.2.2.1
 clear zh
 have hd_h1:=hF.dom _ _ h1
 have hi:=hF.dom _ _ h1
 have k1:=h1
 obtain⟨N,rfl⟩:=Int.eq_ofNat_of_zero_le (show 0<=n by omega)
 have hmm:max 0 (min (N:Int) 64)=N:=by omega
 replace h1:p.t.get i=some (.var sh208 (Q0c.mk B a).cv):=h1
 by_cases hroom:a+N<=8*B.l.length
 ·have hr2:(N:Int)<=8*B.l.length-a:=by omega
  (have zx:=zA hmm (zA hr2 h1);refine zq160 ?_;try exact zT)
  repeat'(apply zK.s<;>intro hc<;>(try simp only[zhd]at hc)<;>(try have hw:=K0a hc)<;>(refine zq160 ?_;try exact zT))
  all_goals(try clear zx)
  (show W C false noExt call (ZC.loop X1m) _ _ _);refine Y0g C false noExt call X1m _ _ _ (J160 i B a N p) N ⟨0,rfl,by omega,by simp[put_at,X0c,K0f],by simp[put_at,X0c,valB],zev,zev,by rw[Hp.bump_get];exact h1,by rw[Hp.bump_n];omega,fun j o _ h=>by rw[Hp.bump_get];exact h⟩ ?_
  rintro n ρ q ⟨k,rfl,hk,e0,e5,e18,e19,g1,hn,hle⟩
  by_cases hlt:(k:Int)<N
  ·have ht:(((a+k:Nat)):Int).tmod 8=(((a+k) % 8:Nat):Int):=by rw[Int.tmod_eq_emod_of_nonneg (by omega)];omega
   have hd:(((a+k:Nat)):Int).tdiv 8=(((a+k)/8:Nat):Int):=by rw[Int.tdiv_eq_ediv_of_nonneg (by omega)];omega
   have hix:(a+k)/8<B.l.length:=by omega
   have hy:=h5 (nth B.l ((a+k)/8)) (by rw[Y0h hix];exact List.getElem_mem _)
   have hb8:=bit8_eq hy (show(a+k) % 8<8 by omega)
   unfold bit8 at hb8
   rw[show bitAt (nth B.l ((a+k)/8)) (7-(a+k) % 8)=bitB B.l (a+k) from rfl]at hb8
   have hsh:=shl1_eq (valB_63 (bitB B.l) a (k:=k) (by omega)) (bitB B.l (a+k))
   unfold shl1 at hsh
   replace hsh:IntKind.u64.wrap (BitVec.ofInt IntKind.u64.bits (IntKind.u64.wrap (valB (bitB B.l) a k*2^min 1 IntKind.u64.bits)) ||| BitVec.ofInt IntKind.u64.bits (b2i (bitB B.l (a+k)))).toNat=2*valB (bitB B.l) a k+b2i (bitB B.l (a+k)):=hsh
   have hv:valB (bitB B.l) a (k+1)=2*valB (bitB B.l) a k+b2i (bitB B.l (a+k)):=rfl
   (have zx:=zA e0 (zA e5 (zA e18 (zA e19 (zA g1 (zA hlt (zA ht (zA hd (zA hb8 (zA hsh h1)))))))));refine zq160 ?_;try exact zT)
   repeat'(apply zK.s<;>intro hc<;>(try simp only[zhd]at hc)<;>(try have hw:=K0a hc)<;>(refine zq160 ?_;try exact zT))
   all_goals(try clear zx)
   refine⟨N-(k+1),by omega,k+1,rfl,by omega,zev,by rw[hv];simp[put_at,X0c],zev,zev,?_,by simp only[Hp.bump_n,Hp.zset_n];omega,fun j o hj h=>?_⟩
   ·rw[Hp.get_set_self,show((a+(k+1):Nat):Int)=((a+k:Nat):Int)+1 by omega]
   ·rw[Hp.get_set_ne _ _ _ hj,Hp.bump_get];exact hle j o hj h
  ·have hkN:k=N:=by omega
   (have zx:=zA e0 (zA e5 (zA e18 (zA e19 (zA g1 (zA hlt h1)))));refine zq160 ?_;try exact zT)
   repeat'(apply zK.s<;>intro hc<;>(try simp only[zhd]at hc)<;>(try have hw:=K0a hc)<;>(refine zq160 ?_;try exact zT))
   all_goals(try clear zx)
   rw[if_pos hroom]
   subst hkN
   exact X0t hF hi hle ⟨_,g1,V0h fun j hj=>hF.lt_obj (.arg (a:=CV.ptr i []) (by simp) rfl) k1 j hj⟩ (V0d (K0c (fun j hj=>by simp[CV.has]at hj)))
 ·have hr2:¬(N:Int)<=8*B.l.length-a:=by omega
  (have zx:=zA hmm (zA hr2 h1);refine zq160 ?_;try exact zT)
  repeat'(apply zK.s<;>intro hc<;>(try simp only[zhd]at hc)<;>(try have hw:=K0a hc)<;>(refine zq160 ?_;try exact zT))
  all_goals(try clear zx)
  rw[if_neg hroom]
  exact shr_dropP hF (fun j o hj h=>by rw[Hp.bump_get];exact h) (V0d (K0c (by intro jj;simp[CV.has,fault,X0b.nohas])))
theorem Z0y(c a:Int)(j:Nat): ¬(fault c a).has j:=by simp[CV.has,fault,X0b.nohas]
theorem shr_rd{args:List CV}{p:Hp}{i a a':Nat}{B:Lst Int}(hF:Fine args p)(h1:p.t.get i=some (rdr B a))(ha:∀j,(CV.ptr i []).has j->∃x∈args,x.has j){q:Hp}(hg:q.t.get i=some (rdr B a'))(hle:∀k o,k≠i->p.t.get k=some o->q.t.get k=some o){v u:CV}(e:v=u)(hv:∀j,¬u.has j): ShrR p (.ret v q) (.ret u (p.set i (some (rdr B a')))):=by
 subst e
 have hi:=hF.dom _ _ h1
 obtain⟨x,hx,hj⟩:=ha i rfl
 refine X0t hF hi hle ⟨_,hg,V0h fun j hj'=>?_⟩ (V0d fun j hj=>absurd hj (hv j))
 exact hF.lt_obj (.arg hx hj) h1 j hj'
theorem Q0m{args:List CV}{p:Hp}{i:Nat}(hF:Fine args p){q:Hp}(hle:∀k o,k≠i->p.t.get k=some o->q.t.get k=some o)(c a:Int): ShrR p (.pan (fault c a) q) (.pan (fault c a) (p.set i none)):=
 shr_dropP hF (fun j o hj h=>hle j o hj h) (V0d (K0c (Z0y c a)))
def R190: Rel:=fun args p r=>∃(i:Nat) (B:Lst Int) (a:Nat) (n:Int),args=[.ptr i [],I n]/\(p.t.get i=some (rdr B a))/\(B.l.length<=140737488355328)/\(a<=8*B.l.length)/\(1<=n/\n<=64)/\(∀x∈B.l,0<=x/\x<=255)/\r=if a+n.toNat<=8*B.l.length then .ret (I (sgnB (valB (bitB B.l) a n.toNat) n.toNat)) (p.set i (some (rdr B (a+n.toNat))))else .pan (fault 100 a) (p.set i none)
theorem t190{T:XCall}(h:Has T 190 R190)(i:Nat)(B:Lst Int)(a:Nat)(n:Int){p:Hp}(h1:p.t.get i=some (rdr B a))(h2:B.l.length<=140737488355328)(h3:a<=8*B.l.length)(h4:1<=n/\n<=64)(h5:∀x∈B.l,0<=x/\x<=255): T 190 [.ptr i [],I n] p=if a+n.toNat<=8*B.l.length then .ret (I (sgnB (valB (bitB B.l) a n.toNat) n.toNat)) (p.set i (some (rdr B (a+n.toNat))))else .pan (fault 100 a) (p.set i none):=h _ _ _ ⟨i,B,a,n,rfl,h1,h2,h3,h4,h5,rfl⟩
theorem zq190{A B:Prop}(k:B)(h:A=B:=by have zy:=zA @zw190<|zA @rs190<|zA @tt3<|zA @tt25<|zA ti3.eq_1<|zA ti25.eq_1<|zA @t_156<|zA @t_160<|zA @Y0q<|zA @h1<|zA @h2<|zA @h3<|zA @h4<|@h5;exact zQ): A:=h▸k
theorem c190: Con C 190 R190:=by
 refine V0e C ?_ ?_ ?_
 ·rintro args p r r' ⟨i,B,a,n,h,h1,h2,h3,h4,h5,e⟩ ⟨i',B',a',n',h',h1',h2',h3',h4',h5',e'⟩
  subst e;subst e';(subst h;simp only[List.cons.injEq,CV.ptr.injEq,CV.sc.injEq,Value.int.injEq,and_true,true_and]at h';obtain⟨e0,e3⟩:=h';subst e0;subst e3;obtain⟨e1,e2⟩:=K1e h1 h1';rw[e1,e2])
 ·rintro args p r ⟨i,B,a,n,h,h1,h2,h3,h4,h5,rfl⟩;exact zr1
 rintro args p r ⟨i,B,a,n,rfl,h1,h2,h3,h4,h5,rfl⟩
 refine zW C false [(156,R156),(160,R160)] ⟨c156,c160,zT⟩ rfl xf190 zc190_ok fun call zh hF=>?_
 have t_156:=@t156 _ zh.1
 have t_160:=@t160 _ zh.2.1
 clear zh
 have hd_h1:=hF.dom _ _ h1
 have hi:=hF.dom _ _ h1
 obtain⟨N,rfl⟩:=Int.eq_ofNat_of_zero_le (show 0<=n by omega)
 have hmm:max 0 (min (N:Int) 64)=N:=by omega
 have hN:1<=N/\N<=64:=by omega
 have hn0:¬(N:Int)=0:=by omega
 have h64:(64:Int)-N=((64-N:Nat):Int):=by omega
 have hsg:=sgn_of hN (Y0s (bitB B.l) a N)
 by_cases hroom:a+N<=8*B.l.length
 ·(have zx:=zA hmm (zA hn0 (zA h64 (zA hroom h1)));refine zq190 ?_;try exact zT)
  repeat'(apply zK.s<;>intro hc<;>(try simp only[zhd]at hc)<;>(try have hw:=K0a hc)<;>(refine zq190 ?_;try exact zT))
  all_goals(try clear zx)
  rw[show min (64-N) IntKind.u64.bits=64-N from Nat.min_eq_left (by show 64-N<=64;omega),show min (64-N) IntKind.i64.bits=64-N from Nat.min_eq_left (by show 64-N<=64;omega),hsg]
  exact shr_rd hF h1 (fun j hj=>⟨_,by simp,hj⟩) (Hp.get_set_self _ _ _) (fun k o hk h=>by rw[Hp.get_set_ne _ _ _ hk];exact h) rfl (by intro jj;simp[CV.has])
 ·(have zx:=zA hmm (zA hn0 (zA h64 (zA hroom h1)));refine zq190 ?_;try exact zT)
  repeat'(apply zK.s<;>intro hc<;>(try simp only[zhd]at hc)<;>(try have hw:=K0a hc)<;>(refine zq190 ?_;try exact zT))
  all_goals(try clear zx)
  exact Q0m hF (fun k o hk h=>by rw[Hp.get_set_ne _ _ _ hk];exact h) _ _
theorem V0t(g:Nat->Bool)(a n:Nat)(M:Int)(h:(2:Int)^n=M): 0<=valB g a n/\valB g a n<M:=by subst h;exact Y0s g a n
def Bnd{α:Type}(b:List Int)(r:Except Int (α×Nat)): Prop:=∀x a,r=.ok (x,a)->a<=8*b.length
theorem Bnd.get(b:List Int)(n a:Nat): Bnd b (getB b n a):=by
 intro x a' h
 unfold getB at h
 split at h
 ·cases h;assumption
 ·cases h
theorem Bnd.bind{α β:Type}{b:List Int}{r:Except Int (α×Nat)}{f:α->Nat->Except Int (β×Nat)}(h:Bnd b r)(k:∀x a,a<=8*b.length->Bnd b (f x a)): Bnd b (bindE r f):=by
 intro x a' e
 cases r with
 |error e'=>cases e
 |ok y=>obtain⟨y,a⟩:=y;exact k y a (h y a rfl) x a' e
theorem Bnd.pure{α:Type}{b:List Int}(x:α){a:Nat}(h:a<=8*b.length): Bnd b (.ok (x,a)):=by
 intro y a' e;cases e;exact h
theorem Bnd.sget(b:List Int)(n a:Nat): Bnd b (sgetB b n a):=(Bnd.get b n a).bind fun _ _ h=>Bnd.pure _ h
theorem Bnd.mem(b:List Int)(x:Q0b){a:Nat}(ha:a<=8*b.length): ∀k,Bnd b (memB b x a k)
 |0=>Bnd.pure _ ha
 |k+1=>(Bnd.mem b x ha k).bind fun _ _ _=>(Bnd.sget b _ _).bind fun _ _ h=>Bnd.pure _ h
theorem Bnd.body(b:List Int)(a:Nat): Bnd b (readBody b a):=by
 unfold readBody
 refine(Bnd.get b _ _).bind fun k a h=>?_
 split
 ·exact Bnd.pure _ h
 ·exact(Bnd.get b _ _).bind fun _ _ _=>(Bnd.get b _ _).bind fun _ _ _=>(Bnd.get b _ _).bind fun _ _ _=>(Bnd.sget b _ _).bind fun _ _ _=>(Bnd.sget b _ _).bind fun _ _ _=>(Bnd.get b _ _).bind fun _ _ h=>(Bnd.mem b _ h _).bind fun _ _ _=>(Bnd.get b _ _).bind fun _ _ h=>Bnd.pure _ h
end Go.Proofs.Ytpchcfkebljopaa
end
section
namespace Go.Proofs.Ytpchcfkebljopaa
open Go.Cl Go Go.RowKit
def sumStep(h x:Int): Int:=(h*257+x+1) % 2147483647
def sumB(key:Int)(l:List Int): Int:=((l.foldl sumStep (key % 2147483647+1))+l.length) % 2147483647
theorem Q0w(key:Int)(l:List Int): 0<=sumB key l/\sumB key l<2147483647:=by unfold sumB;omega
theorem Z01{l:List Int}{k:Nat}(f:Int->Int->Int)(h0:Int)(h:k<l.length): (l.take (k+1)).foldl f h0=f ((l.take k).foldl f h0) (nth l k):=by
 rw[K0m h,List.foldl_append];rfl
theorem V01(key:Int): ∀(l:List Int),0<=l.foldl sumStep (key % 2147483647+1)/\l.foldl sumStep (key % 2147483647+1)<=2147483647:=by
 intro l
 have h0:0<=key % 2147483647+1/\key % 2147483647+1<=2147483647:=by omega
 generalize key % 2147483647+1=h at h0
 induction l generalizing h with
 |nil=>exact h0
 |cons x l ih=>exact ih (sumStep h x) (by unfold sumStep;omega)
theorem key_mod(key:Int): (key.tmod 2147483647+2147483647).tmod 2147483647=key % 2147483647:=by
 have h1:-2147483647<key.tmod 2147483647:=by
  have:=Int.lt_tmod_of_pos key (b:=2147483647) (by omega);exact this
 have h2:=Int.tmod_lt_of_pos key (b:=2147483647) (by omega)
 rw[Int.tmod_eq_emod_of_nonneg (by omega)]
 have h3:=Int.mul_tdiv_add_tmod key 2147483647
 generalize key.tdiv 2147483647=q at h3
 generalize key.tmod 2147483647=r at *
 omega
end Go.Proofs.Ytpchcfkebljopaa
end
section
namespace Go.Proofs.Ytpchcfkebljopaa
open Go.Cl Go Go.RowKit
set_option maxRecDepth 100000
set_option linter.constructorNameAsVariable false
def J163(key:Int)(s:Lst Int)(p:Hp)(n:Nat)(ρ:Env)(q:Hp): Prop:=
 ∃k:Nat,n=s.l.length-k/\k<=s.l.length/\ρ 1=s.cv Y8/\ρ 5=I ((s.l.take k).foldl sumStep (key % 2147483647+1))/\ρ 13=s.cv Y8/\ρ 14=I s.l.length/\ρ 15=I k/\HpLe p q
def R163: Rel:=fun args p r=>∃(key:Int) (s:Lst Int),args=[I key,s.cv Y8]/\(-9223372036854775808<=key/\key<=9223372036854775807)/\(s.l.length<=140737488355328)/\(∀x∈s.l,0<=x/\x<=255)/\r=.ret (I (sumB key s.l)) p
theorem t163{T:XCall}(h:Has T 163 R163)(key:Int)(s:Lst Int){p:Hp}(h1:-9223372036854775808<=key/\key<=9223372036854775807)(h2:s.l.length<=140737488355328)(h5:∀x∈s.l,0<=x/\x<=255): T 163 [I key,s.cv Y8] p=.ret (I (sumB key s.l)) p:=h _ _ _ ⟨key,s,rfl,h1,h2,h5,rfl⟩
theorem zq163{A B:Prop}(k:B)(h:A=B:=by have zy:=zA @zw163<|zA @rs163<|zA @tt3<|zA @tt5<|zA @tt68<|zA ti3.eq_1<|zA ti5.eq_1<|zA ti68.eq_1<|zA @zsl68<|zA @h1<|zA @h2<|@h5;exact zQ): A:=h▸k
theorem c163: Con C 163 R163:=by
 refine V0e C ?_ ?_ ?_
 ·rintro args p r r' ⟨key,s,h,h1,h2,h5,e⟩ ⟨key',s',h',h1',h2',h5',e'⟩
  subst e;subst e';simp_all[X0f,X0f]
 ·rintro args p r ⟨key,s,h,h1,h2,h5,rfl⟩;exact zr1
 rintro args p r ⟨key,s,rfl,h1,h2,h5,rfl⟩
 refine zW C false [] zT rfl xf163 zc163_ok fun call zh hF=>?_
 clear zh
 have hk:=key_mod key
 have hr0:-2147483647<key.tmod 2147483647:=by have:=Int.lt_tmod_of_pos key (b:=2147483647) (by omega);exact this
 have hr1:=Int.tmod_lt_of_pos key (b:=2147483647) (by omega)
 have hr2:0<=key % 2147483647/\key % 2147483647<2147483647:=by omega
 (have zx:=hk;refine zq163 ?_;try exact zT)
 repeat'(apply zK.s<;>intro hc<;>(try simp only[zhd]at hc)<;>(try have hw:=K0a hc)<;>(refine zq163 ?_;try exact zT))
 all_goals(try clear zx)
 (show W C false noExt call (ZC.loop K1f) _ _ _);refine Y0g C false noExt call K1f _ _ _ (J163 key s p) s.l.length ⟨0,rfl,by omega,by simp[put_at,X0c,K0f,K0j],zev,zev,zev,zev,zle⟩ ?_
 rintro n ρ q ⟨k,rfl,hk2,e1,e5,e13,e14,e15,hle⟩
 have hf:=V01 key (s.l.take k)
 by_cases hlt:(k:Int)<s.l.length
 ·have hst:=Z01 sumStep (key % 2147483647+1) (l:=s.l) (k:=k) (by omega)
  have hy:=h5 (nth s.l k) (by rw[Y0h (by omega)];exact List.getElem_mem _)
  generalize (s.l.take k).foldl sumStep (key % 2147483647+1)=h at hf hst e5
  generalize hyy:nth s.l k=y at hy hst
  have ht:(h*257+y+1).tmod 2147483647=sumStep h y:=by rw[Int.tmod_eq_emod_of_nonneg (by omega)];rfl
  (have zx:=zA e1 (zA e5 (zA e13 (zA e14 (zA e15 (zA hlt (zA hyy ht))))));refine zq163 ?_;try exact zT)
  repeat'(apply zK.s<;>intro hc<;>(try simp only[zhd]at hc)<;>(try have hw:=K0a hc)<;>(refine zq163 ?_;try exact zT))
  all_goals(try clear zx)
  exact⟨s.l.length-(k+1),by omega,k+1,rfl,by omega,zev,by rw[hst];simp[put_at,X0c],zev,zev,zev,hle⟩
 ·have hkl:k=s.l.length:=by omega
  rw[hkl,List.take_of_length_le (Nat.le_refl _)]at e5 hf
  have ht:(s.l.foldl sumStep (key % 2147483647+1)+s.l.length).tmod 2147483647=sumB key s.l:=by rw[Int.tmod_eq_emod_of_nonneg (by omega)];rfl
  (have zx:=zA e1 (zA e5 (zA e13 (zA e14 (zA e15 (zA hlt ht)))));refine zq163 ?_;try exact zT)
  repeat'(apply zK.s<;>intro hc<;>(try simp only[zhd]at hc)<;>(try have hw:=K0a hc)<;>(refine zq163 ?_;try exact zT))
  all_goals(try clear zx)
  exact V0c hF hle (Q0d rfl (K0c (by intro jj;simp[CV.has])))
def J96(s t:Lst Int)(p:Hp)(n:Nat)(ρ:Env)(q:Hp): Prop:=
 ∃k:Nat,n=s.l.length-k/\k<=s.l.length/\ρ 0=s.cv Y8/\ρ 1=t.cv Y8/\ρ 12=I s.l.length/\ρ 13=I k/\(∀j,j<k->nth s.l j=nth t.l j)/\HpLe p q
def R96: Rel:=fun args p r=>∃(s t:Lst Int),args=[s.cv Y8,t.cv Y8]/\(s.l.length<=140737488355328)/\(t.l.length<=140737488355328)/\r=.ret (Bo (decide (s.l=t.l))) p
theorem t96{T:XCall}(h:Has T 96 R96)(s t:Lst Int){p:Hp}(h1:s.l.length<=140737488355328)(h2:t.l.length<=140737488355328): T 96 [s.cv Y8,t.cv Y8] p=.ret (Bo (decide (s.l=t.l))) p:=h _ _ _ ⟨s,t,rfl,h1,h2,rfl⟩
theorem zq96{A B:Prop}(k:B)(h:A=B:=by have zy:=zA @zw96<|zA @rs96<|zA @tt3<|zA @tt5<|zA @tt68<|zA ti3.eq_1<|zA ti5.eq_1<|zA ti68.eq_1<|zA @zsl68<|zA @h1<|@h2;exact zQ): A:=h▸k
theorem zno96{P:Prop}(h:P:=by intro jj;simp[CV.has,CV.hasL,fault,X0b.nohas]): P:=h
theorem c96: Con C 96 R96:=by
 refine V0e C ?_ ?_ ?_
 ·rintro args p r r' ⟨s,t,h,h1,h2,e⟩ ⟨s',t',h',h1',h2',e'⟩
  subst e;subst e';simp_all[X0f,X0f]
 ·rintro args p r ⟨s,t,h,h1,h2,rfl⟩;exact zr1
 rintro args p r ⟨s,t,rfl,h1,h2,rfl⟩
 refine zW C false [] zT rfl xf96 zc96_ok fun call zh hF=>?_
 clear zh
 by_cases hlen:s.l.length=t.l.length
 ·have hl2:(s.l.length:Int)=t.l.length:=by omega
  (have zx:=hl2;refine zq96 ?_;try exact zT)
  repeat'(apply zK.s<;>intro hc<;>(try simp only[zhd]at hc)<;>(try have hw:=K0a hc)<;>(refine zq96 ?_;try exact zT))
  all_goals(try clear zx)
  (show W C false noExt call (ZC.loop Y1f) _ _ _);refine Y0g C false noExt call Y1f _ _ _ (J96 s t p) s.l.length ⟨0,rfl,by omega,by simp[put_at,X0c,K0f],by simp[put_at,X0c,K0f,K0j],by simp[put_at,X0c,hl2],zev,fun j hj=>by omega,zle⟩ ?_
  rintro n ρ q ⟨k,rfl,hk2,e0,e1,e12,e13,hj,hle⟩
  by_cases hlt:(k:Int)<s.l.length
  ·have hlt2:(k:Int)<t.l.length:=by omega
   by_cases hne:nth s.l k=nth t.l k
   ·(have zx:=zA e0 (zA e1 (zA e12 (zA e13 (zA hlt (zA hlt2 hne)))));refine zq96 ?_;try exact zT)
    repeat'(apply zK.s<;>intro hc<;>(try simp only[zhd]at hc)<;>(try have hw:=K0a hc)<;>(refine zq96 ?_;try exact zT))
    all_goals(try clear zx)
    exact⟨s.l.length-(k+1),by omega,k+1,rfl,by omega,zev,zev,zev,zev,fun j hjk=>by
     by_cases h:j=k
     ·rw[h];exact hne
     ·exact hj j (by omega),zlq⟩
   ·(have zx:=zA e0 (zA e1 (zA e12 (zA e13 (zA hlt (zA hlt2 hne)))));refine zq96 ?_;try exact zT)
    repeat'(apply zK.s<;>intro hc<;>(try simp only[zhd]at hc)<;>(try have hw:=K0a hc)<;>(refine zq96 ?_;try exact zT))
    all_goals(try clear zx)
    have hl:¬s.l=t.l:=fun h=>hne (by rw[h])
    exact V0c hF zlq (Q0d (by simp[hl]) (K0c (by intro jj;simp[CV.has])))
  ·have hl:s.l=t.l:=K0v hlen fun j h=>hj j (by omega)
   (have zx:=zA e0 (zA e1 (zA e12 (zA e13 hlt)));refine zq96 ?_;try exact zT)
   repeat'(apply zK.s<;>intro hc<;>(try simp only[zhd]at hc)<;>(try have hw:=K0a hc)<;>(refine zq96 ?_;try exact zT))
   all_goals(try clear zx)
   exact V0c hF zlq (Q0d (by simp[hl]) (K0c (by intro jj;simp[CV.has])))
 ·have hl2:¬(s.l.length:Int)=t.l.length:=by omega
  have hne:¬s.l=t.l:=fun e=>hlen (by rw[e])
  (have zx:=hl2;refine zq96 ?_;try exact zT)
  repeat'(apply zK.s<;>intro hc<;>(try simp only[zhd]at hc)<;>(try have hw:=K0a hc)<;>(refine zq96 ?_;try exact zT))
  all_goals(try clear zx)
  exact V0c hF zle (Q0d (by simp[hne]) (K0c zno96))
def J114(s t:Lst X0a)(p:Hp)(n:Nat)(ρ:Env)(q:Hp): Prop:=
 ∃k:Nat,n=s.l.length-k/\k<=s.l.length/\ρ 0=s.cv X0a.cv/\ρ 1=t.cv X0a.cv/\ρ 12=I s.l.length/\ρ 13=I k/\(∀j,j<k->nth s.l j=nth t.l j)/\HpLe p q
def R114: Rel:=fun args p r=>∃(s t:Lst X0a),args=[s.cv X0a.cv,t.cv X0a.cv]/\(s.l.length<=1000000)/\(t.l.length<=1000000)/\r=.ret (Bo (decide (s.l=t.l))) p
theorem t114{T:XCall}(h:Has T 114 R114)(s t:Lst X0a){p:Hp}(h1:s.l.length<=1000000)(h2:t.l.length<=1000000): T 114 [s.cv X0a.cv,t.cv X0a.cv] p=.ret (Bo (decide (s.l=t.l))) p:=h _ _ _ ⟨s,t,rfl,h1,h2,rfl⟩
theorem zq114{A B:Prop}(k:B)(h:A=B:=by have zy:=zA @zw114<|zA @rs114<|zA @tt3<|zA @tt108<|zA @tt110<|zA ti3.eq_1<|zA ti108.eq_1<|zA ti110.eq_1<|zA @Y0f<|zA @Q0f<|zA @zsl108<|zA @h1<|@h2;exact zQ): A:=h▸k
theorem zno114{P:Prop}(h:P:=by intro jj;simp[CV.has,CV.hasL,fault,X0b.nohas,X0a.nohas,Y0a.nohas]): P:=h
theorem c114: Con C 114 R114:=by
 refine V0e C ?_ ?_ ?_
 ·rintro args p r r' ⟨s,t,h,h1,h2,e⟩ ⟨s',t',h',h1',h2',e'⟩
  subst e;subst e';simp_all[X0a.inj_iff,Y0a.inj_iff,Q0i,Q0i]
 ·rintro args p r ⟨s,t,h,h1,h2,rfl⟩;exact zr1
 rintro args p r ⟨s,t,rfl,h1,h2,rfl⟩
 refine zW C false [] zT rfl xf114 zc114_ok fun call zh hF=>?_
 clear zh
 by_cases hlen:s.l.length=t.l.length
 ·have hl2:(s.l.length:Int)=t.l.length:=by omega
  (have zx:=hl2;refine zq114 ?_;try exact zT)
  repeat'(apply zK.s<;>intro hc<;>(try simp only[zhd]at hc)<;>(try have hw:=K0a hc)<;>(refine zq114 ?_;try exact zT))
  all_goals(try clear zx)
  (show W C false noExt call (ZC.loop Q1m) _ _ _);refine Y0g C false noExt call Q1m _ _ _ (J114 s t p) s.l.length ⟨0,rfl,by omega,by simp[put_at,X0c,K0f],by simp[put_at,X0c,K0f,K0j],by simp[put_at,X0c,hl2],zev,fun j hj=>by omega,zle⟩ ?_
  rintro n ρ q ⟨k,rfl,hk2,e0,e1,e12,e13,hj,hle⟩
  by_cases hlt:(k:Int)<s.l.length
  ·have hlt2:(k:Int)<t.l.length:=by omega
   by_cases hne:nth s.l k=nth t.l k
   ·(have zx:=zA e0 (zA e1 (zA e12 (zA e13 (zA hlt (zA hlt2 hne)))));refine zq114 ?_;try exact zT)
    repeat'(apply zK.s<;>intro hc<;>(try simp only[zhd]at hc)<;>(try have hw:=K0a hc)<;>(refine zq114 ?_;try exact zT))
    all_goals(try clear zx)
    exact⟨s.l.length-(k+1),by omega,k+1,rfl,by omega,zev,zev,zev,zev,fun j hjk=>by
     by_cases h:j=k
     ·rw[h];exact hne
     ·exact hj j (by omega),zlq⟩
   ·(have zx:=zA e0 (zA e1 (zA e12 (zA e13 (zA hlt (zA hlt2 hne)))));refine zq114 ?_;try exact zT)
    repeat'(apply zK.s<;>intro hc<;>(try simp only[zhd]at hc)<;>(try have hw:=K0a hc)<;>(refine zq114 ?_;try exact zT))
    all_goals(try clear zx)
    have hl:¬s.l=t.l:=fun h=>hne (by rw[h])
    exact V0c hF zlq (Q0d (by simp[hl]) (K0c (by intro jj;simp[CV.has])))
  ·have hl:s.l=t.l:=K0v hlen fun j h=>hj j (by omega)
   (have zx:=zA e0 (zA e1 (zA e12 (zA e13 hlt)));refine zq114 ?_;try exact zT)
   repeat'(apply zK.s<;>intro hc<;>(try simp only[zhd]at hc)<;>(try have hw:=K0a hc)<;>(refine zq114 ?_;try exact zT))
   all_goals(try clear zx)
   exact V0c hF zlq (Q0d (by simp[hl]) (K0c (by intro jj;simp[CV.has])))
 ·have hl2:¬(s.l.length:Int)=t.l.length:=by omega
  have hne:¬s.l=t.l:=fun e=>hlen (by rw[e])
  (have zx:=hl2;refine zq114 ?_;try exact zT)
  repeat'(apply zK.s<;>intro hc<;>(try simp only[zhd]at hc)<;>(try have hw:=K0a hc)<;>(refine zq114 ?_;try exact zT))
  all_goals(try clear zx)
  exact V0c hF zle (Q0d (by simp[hne]) (K0c zno114))
def J115(s t:Lst Y0a)(p:Hp)(n:Nat)(ρ:Env)(q:Hp): Prop:=
 ∃k:Nat,n=s.l.length-k/\k<=s.l.length/\ρ 0=s.cv Y0a.cv/\ρ 1=t.cv Y0a.cv/\ρ 12=I s.l.length/\ρ 13=I k/\(∀j,j<k->nth s.l j=nth t.l j)/\HpLe p q
def R115: Rel:=fun args p r=>∃(s t:Lst Y0a),args=[s.cv Y0a.cv,t.cv Y0a.cv]/\(s.l.length<=1000000)/\(t.l.length<=1000000)/\r=.ret (Bo (decide (s.l=t.l))) p
theorem t115{T:XCall}(h:Has T 115 R115)(s t:Lst Y0a){p:Hp}(h1:s.l.length<=1000000)(h2:t.l.length<=1000000): T 115 [s.cv Y0a.cv,t.cv Y0a.cv] p=.ret (Bo (decide (s.l=t.l))) p:=h _ _ _ ⟨s,t,rfl,h1,h2,rfl⟩
theorem zq115{A B:Prop}(k:B)(h:A=B:=by have zy:=zA @zw115<|zA @rs115<|zA @tt3<|zA @tt36<|zA @tt91<|zA ti3.eq_1<|zA ti36.eq_1<|zA ti91.eq_1<|zA @Q0f<|zA @zsl91<|zA @h1<|@h2;exact zQ): A:=h▸k
theorem zno115{P:Prop}(h:P:=by intro jj;simp[CV.has,CV.hasL,fault,X0b.nohas,Y0a.nohas]): P:=h
theorem c115: Con C 115 R115:=by
 refine V0e C ?_ ?_ ?_
 ·rintro args p r r' ⟨s,t,h,h1,h2,e⟩ ⟨s',t',h',h1',h2',e'⟩
  subst e;subst e';simp_all[Y0a.inj_iff,Y0k,Y0k]
 ·rintro args p r ⟨s,t,h,h1,h2,rfl⟩;exact zr1
 rintro args p r ⟨s,t,rfl,h1,h2,rfl⟩
 refine zW C false [] zT rfl xf115 zc115_ok fun call zh hF=>?_
 clear zh
 by_cases hlen:s.l.length=t.l.length
 ·have hl2:(s.l.length:Int)=t.l.length:=by omega
  (have zx:=hl2;refine zq115 ?_;try exact zT)
  repeat'(apply zK.s<;>intro hc<;>(try simp only[zhd]at hc)<;>(try have hw:=K0a hc)<;>(refine zq115 ?_;try exact zT))
  all_goals(try clear zx)
  (show W C false noExt call (ZC.loop Q1l) _ _ _);refine Y0g C false noExt call Q1l _ _ _ (J115 s t p) s.l.length ⟨0,rfl,by omega,by simp[put_at,X0c,K0f],by simp[put_at,X0c,K0f,K0j],by simp[put_at,X0c,hl2],zev,fun j hj=>by omega,zle⟩ ?_
  rintro n ρ q ⟨k,rfl,hk2,e0,e1,e12,e13,hj,hle⟩
  by_cases hlt:(k:Int)<s.l.length
  ·have hlt2:(k:Int)<t.l.length:=by omega
   by_cases hne:nth s.l k=nth t.l k
   ·(have zx:=zA e0 (zA e1 (zA e12 (zA e13 (zA hlt (zA hlt2 hne)))));refine zq115 ?_;try exact zT)
    repeat'(apply zK.s<;>intro hc<;>(try simp only[zhd]at hc)<;>(try have hw:=K0a hc)<;>(refine zq115 ?_;try exact zT))
    all_goals(try clear zx)
    exact⟨s.l.length-(k+1),by omega,k+1,rfl,by omega,zev,zev,zev,zev,fun j hjk=>by
     by_cases h:j=k
     ·rw[h];exact hne
     ·exact hj j (by omega),zlq⟩
   ·(have zx:=zA e0 (zA e1 (zA e12 (zA e13 (zA hlt (zA hlt2 hne)))));refine zq115 ?_;try exact zT)
    repeat'(apply zK.s<;>intro hc<;>(try simp only[zhd]at hc)<;>(try have hw:=K0a hc)<;>(refine zq115 ?_;try exact zT))
    all_goals(try clear zx)
    have hl:¬s.l=t.l:=fun h=>hne (by rw[h])
    exact V0c hF zlq (Q0d (by simp[hl]) (K0c (by intro jj;simp[CV.has])))
  ·have hl:s.l=t.l:=K0v hlen fun j h=>hj j (by omega)
   (have zx:=zA e0 (zA e1 (zA e12 (zA e13 hlt)));refine zq115 ?_;try exact zT)
   repeat'(apply zK.s<;>intro hc<;>(try simp only[zhd]at hc)<;>(try have hw:=K0a hc)<;>(refine zq115 ?_;try exact zT))
   all_goals(try clear zx)
   exact V0c hF zlq (Q0d (by simp[hl]) (K0c (by intro jj;simp[CV.has])))
 ·have hl2:¬(s.l.length:Int)=t.l.length:=by omega
  have hne:¬s.l=t.l:=fun e=>hlen (by rw[e])
  (have zx:=hl2;refine zq115 ?_;try exact zT)
  repeat'(apply zK.s<;>intro hc<;>(try simp only[zhd]at hc)<;>(try have hw:=K0a hc)<;>(refine zq115 ?_;try exact zT))
  all_goals(try clear zx)
  exact V0c hF zle (Q0d (by simp[hne]) (K0c zno115))
def R113: Rel:=fun args p r=>∃(s t:Lst X0a),args=[s.cv X0a.cv,t.cv X0a.cv]/\(s.l.length<=1000000)/\(t.l.length<=1000000)/\r=.ret (Bo (decide (s.l=t.l))) p
theorem t113{T:XCall}(h:Has T 113 R113)(s t:Lst X0a){p:Hp}(h1:s.l.length<=1000000)(h2:t.l.length<=1000000): T 113 [s.cv X0a.cv,t.cv X0a.cv] p=.ret (Bo (decide (s.l=t.l))) p:=h _ _ _ ⟨s,t,rfl,h1,h2,rfl⟩
theorem zq113{A B:Prop}(k:B)(h:A=B:=by have zy:=zA @zw113<|zA @rs113<|zA @t_114<|zA @Y0f<|zA @h1<|@h2;exact zQ): A:=h▸k
theorem zno113{P:Prop}(h:P:=by intro jj;simp[CV.has,CV.hasL,fault,X0b.nohas,X0a.nohas]): P:=h
theorem c113: Con C 113 R113:=by
 refine V0e C ?_ ?_ ?_
 ·rintro args p r r' ⟨s,t,h,h1,h2,e⟩ ⟨s',t',h',h1',h2',e'⟩
  subst e;subst e';simp_all[X0a.inj_iff,Q0i]
 ·rintro args p r ⟨s,t,h,h1,h2,rfl⟩;exact zr1
 rintro args p r ⟨s,t,rfl,h1,h2,rfl⟩
 refine zW C false [(114,R114)] ⟨c114,zT⟩ rfl xf113 zc113_ok fun call zh hF=>?_
 have t_114:=@t114 _ zh.1
 clear zh
 (have zx:=zT;refine zq113 ?_;try exact zT)
 repeat'(apply zK.s<;>intro hc<;>(try simp only[zhd]at hc)<;>(try have hw:=K0a hc)<;>(refine zq113 ?_;try exact zT))
 all_goals(try clear zx)
 exact V0c hF zle (Q0d rfl (K0c zno113))
def rowsOk(r:Lst (Lst X0a)): Prop:=r.l.length<=1000000/\∀x∈r.l,x.l.length<=1000000
theorem rowsOk.nth{r:Lst (Lst X0a)}(h:rowsOk r){k:Nat}(hk:k<r.l.length): (nth r.l k).l.length<=1000000:=h.2 _ (by rw[Y0h hk];exact List.getElem_mem _)
theorem Z0l(r:Lst (Lst X0a)): (rowsL r).length=r.l.length:=by simp[rowsL]
theorem V09{r:Lst (Lst X0a)}{k:Nat}(hk:k<r.l.length): nth (rowsL r) k=(nth r.l k).l:=by
 rw[Y0h (by rw[Z0l];exact hk),Y0h hk];simp[rowsL]
def J112(s t:Lst (Lst X0a))(p:Hp)(n:Nat)(ρ:Env)(q:Hp): Prop:=
 ∃k:Nat,n=s.l.length-k/\k<=s.l.length/\ρ 1=t.cv (Lst.cv X0a.cv)/\ρ 2=.fn 113 [] []/\ρ 15=s.cv (Lst.cv X0a.cv)/\ρ 16=I s.l.length/\ρ 17=I k/\(∀j,j<k->nth (rowsL s) j=nth (rowsL t) j)/\HpLe p q
def R112: Rel:=fun args p r=>∃(s t:Lst (Lst X0a)),args=[s.cv (Lst.cv X0a.cv),t.cv (Lst.cv X0a.cv),.fn 113 [] []]/\(rowsOk s)/\(rowsOk t)/\r=.ret (Bo (decide (rowsL s=rowsL t))) p
theorem t112{T:XCall}(h:Has T 112 R112)(s t:Lst (Lst X0a)){p:Hp}(h1:rowsOk s)(h2:rowsOk t): T 112 [s.cv (Lst.cv X0a.cv),t.cv (Lst.cv X0a.cv),.fn 113 [] []] p=.ret (Bo (decide (rowsL s=rowsL t))) p:=h _ _ _ ⟨s,t,rfl,h1,h2,rfl⟩
theorem zq112{A B:Prop}(k:B)(h:A=B:=by have zy:=zA @zw112<|zA @rs112<|zA @tt3<|zA @tt92<|zA @tt108<|zA ti3.eq_1<|zA ti92.eq_1<|zA ti108.eq_1<|zA @t_113<|zA @Y0f<|zA @zsl92<|zA @zsl108<|zA @h1<|@h2;exact zQ): A:=h▸k
theorem c112: Con C 112 R112:=by
 refine V0e C ?_ ?_ ?_
 ·rintro args p r r' ⟨s,t,h,h1,h2,e⟩ ⟨s',t',h',h1',h2',e'⟩
  subst e;subst e';simp_all[X0a.inj_iff,Y0i,Q0i,Y0i]
 ·rintro args p r ⟨s,t,h,h1,h2,rfl⟩;exact zr1
 rintro args p r ⟨s,t,rfl,h1,h2,rfl⟩
 refine zW C false [(113,R113)] ⟨c113,zT⟩ rfl xf112 zc112_ok fun call zh hF=>?_
 have t_113:=@t113 _ zh.1
 clear zh
 have l1:=h1.1
 have l2:=h2.1
 by_cases hlen:s.l.length=t.l.length
 ·have hl2:(s.l.length:Int)=t.l.length:=by omega
  (have zx:=hl2;refine zq112 ?_;try exact zT)
  repeat'(apply zK.s<;>intro hc<;>(try simp only[zhd]at hc)<;>(try have hw:=K0a hc)<;>(refine zq112 ?_;try exact zT))
  all_goals(try clear zx)
  (show W C false noExt call (ZC.loop Z1l) _ _ _);refine Y0g C false noExt call Z1l _ _ _ (J112 s t p) s.l.length ⟨0,rfl,by omega,by simp[put_at,X0c,K0f,K0j],by simp[put_at,X0c,K0f,K0j],by simp[put_at,X0c,K0f],by simp[put_at,X0c,hl2],zev,fun j hj=>by omega,zle⟩ ?_
  rintro n ρ q ⟨k,rfl,hk2,e1,e2,e15,e16,e17,hj,hle⟩
  by_cases hlt:(k:Int)<s.l.length
  ·have hlt2:(k:Int)<t.l.length:=by omega
   have m1:=h1.nth (k:=k) (by omega)
   have m2:=h2.nth (k:=k) (by omega)
   have n1:=V09 (r:=s) (k:=k) (by omega)
   have n2:=V09 (r:=t) (k:=k) (by omega)
   by_cases hne:(nth s.l k).l=(nth t.l k).l
   ·(have zx:=zA e1 (zA e2 (zA e15 (zA e16 (zA e17 (zA hlt (zA hlt2 hne))))));refine zq112 ?_;try exact zT)
    repeat'(apply zK.s<;>intro hc<;>(try simp only[zhd]at hc)<;>(try have hw:=K0a hc)<;>(refine zq112 ?_;try exact zT))
    all_goals(try clear zx)
    exact⟨s.l.length-(k+1),by omega,k+1,rfl,by omega,zev,zev,zev,zev,zev,fun j hjk=>by
     by_cases h:j=k
     ·rw[h,n1,n2];exact hne
     ·exact hj j (by omega),zlq⟩
   ·(have zx:=zA e1 (zA e2 (zA e15 (zA e16 (zA e17 (zA hlt (zA hlt2 hne))))));refine zq112 ?_;try exact zT)
    repeat'(apply zK.s<;>intro hc<;>(try simp only[zhd]at hc)<;>(try have hw:=K0a hc)<;>(refine zq112 ?_;try exact zT))
    all_goals(try clear zx)
    have hl:¬rowsL s=rowsL t:=fun h=>hne (by rw[<- n1,<- n2,h])
    exact V0c hF zlq (Q0d (by simp[hl]) (K0c (by intro jj;simp[CV.has])))
  ·have hl:rowsL s=rowsL t:=K0v (by rw[Z0l,Z0l];exact hlen) fun j h=>hj j (by rw[Z0l]at h;omega)
   (have zx:=zA e1 (zA e2 (zA e15 (zA e16 (zA e17 hlt))));refine zq112 ?_;try exact zT)
   repeat'(apply zK.s<;>intro hc<;>(try simp only[zhd]at hc)<;>(try have hw:=K0a hc)<;>(refine zq112 ?_;try exact zT))
   all_goals(try clear zx)
   exact V0c hF zlq (Q0d (by simp[hl]) (K0c (by intro jj;simp[CV.has])))
 ·have hl2:¬(s.l.length:Int)=t.l.length:=by omega
  have hne:¬rowsL s=rowsL t:=fun e=>hlen (by rw[<- Z0l s,<- Z0l t,e])
  (have zx:=hl2;refine zq112 ?_;try exact zT)
  repeat'(apply zK.s<;>intro hc<;>(try simp only[zhd]at hc)<;>(try have hw:=K0a hc)<;>(refine zq112 ?_;try exact zT))
  all_goals(try clear zx)
  exact V0c hF zle (Q0d (by simp[hne]) (K0c (by intro jj;simp[CV.has])))
def packOk(p:Q0a): Prop:=p.Inputs.l.length<=1000000/\rowsOk p.Rows
def R49: Rel:=fun args p r=>∃(a b:Q0a),args=[a.cv,b.cv]/\(packOk a)/\(packOk b)/\r=.ret (Bo (sameP a b)) p
theorem t49{T:XCall}(h:Has T 49 R49)(a b:Q0a){p:Hp}(h1:packOk a)(h2:packOk b): T 49 [a.cv,b.cv] p=.ret (Bo (sameP a b)) p:=h _ _ _ ⟨a,b,rfl,h1,h2,rfl⟩
theorem zq49{A B:Prop}(k:B)(h:A=B:=by have zy:=zA @zw49<|zA @rs49<|zA @tt3<|zA @tt4<|zA @tt25<|zA @tt91<|zA @tt92<|zA @tt94<|zA ti3.eq_1<|zA ti4.eq_1<|zA ti25.eq_1<|zA ti91.eq_1<|zA ti92.eq_1<|zA ti94.eq_1<|zA @t_112<|zA @t_115<|zA @K0e<|zA @zsl91<|zA @zsl92<|zA @h1<|@h2;exact zQ): A:=h▸k
theorem zno49{P:Prop}(h:P:=by intro jj;simp[CV.has,CV.hasL,fault,X0b.nohas]): P:=h
theorem c49: Con C 49 R49:=by
 refine V0e C ?_ ?_ ?_
 ·rintro args p r r' ⟨a,b,h,h1,h2,e⟩ ⟨a',b',h',h1',h2',e'⟩
  subst e;subst e';simp_all[Q0a.inj_iff,Y0k,Y0i]
 ·rintro args p r ⟨a,b,h,h1,h2,rfl⟩;exact zr1
 rintro args p r ⟨a,b,rfl,h1,h2,rfl⟩
 refine zW C false [(112,R112),(115,R115)] ⟨c112,c115,zT⟩ rfl xf49 zc49_ok fun call zh hF=>?_
 have t_112:=@t112 _ zh.1
 have t_115:=@t115 _ zh.2.1
 clear zh
 have i1:=h1.1
 have r1:=h1.2
 have i2:=h2.1
 have r2:=h2.2
 (have zx:=zT;refine zq49 ?_;try exact zT)
 repeat'(apply zK.s<;>intro hc<;>(try simp only[zhd]at hc)<;>(try have hw:=K0a hc)<;>(refine zq49 ?_;try exact zT))
 all_goals(try clear zx)
 all_goals refine V0c hF zle (Q0d ?_ (K0c zno49))
 all_goals simp_all[sameP]
def J122(s:Lst (Lst X0a))(n:Int)(p:Hp)(m:Nat)(ρ:Env)(q:Hp): Prop:=
 ∃k:Nat,m=s.l.length-k/\k<=s.l.length/\ρ 0=s.cv (Lst.cv X0a.cv)/\ρ 1=I n/\ρ 7=s.cv (Lst.cv X0a.cv)/\ρ 8=I s.l.length/\ρ 9=I k/\(s.l.drop k).all (rowRight n)=s.l.all (rowRight n)/\HpLe p q
def R122: Rel:=fun args p r=>∃(s:Lst (Lst X0a)) (n:Int),args=[s.cv (Lst.cv X0a.cv),I n]/\(rowsOk s)/\r=.ret (Bo (rowsRight s.l n)) p
theorem t122{T:XCall}(h:Has T 122 R122)(s:Lst (Lst X0a))(n:Int){p:Hp}(h1:rowsOk s): T 122 [s.cv (Lst.cv X0a.cv),I n] p=.ret (Bo (rowsRight s.l n)) p:=h _ _ _ ⟨s,n,rfl,h1,rfl⟩
theorem zq122{A B:Prop}(k:B)(h:A=B:=by have zy:=zA @zw122<|zA @rs122<|zA @tt3<|zA @tt92<|zA @tt108<|zA ti3.eq_1<|zA ti92.eq_1<|zA ti108.eq_1<|zA @t_118<|zA @t_170<|zA @Y0f<|zA @zsl92<|zA @zsl108<|@h1;exact zQ): A:=h▸k
theorem c122: Con C 122 R122:=by
 refine V0e C ?_ ?_ ?_
 ·rintro args p r r' ⟨s,n,h,h1,e⟩ ⟨s',n',h',h1',e'⟩
  subst e;subst e';simp_all[X0a.inj_iff,Y0i,Q0i,Y0i]
 ·rintro args p r ⟨s,n,h,h1,rfl⟩;exact zr1
 rintro args p r ⟨s,n,rfl,h1,rfl⟩
 refine zW C false [(118,R118),(170,R170)] ⟨c118,c170,zT⟩ rfl xf122 zc122_ok fun call zh hF=>?_
 have t_118:=@t118 _ zh.1
 have t_170:=@t170 _ zh.2.1
 clear zh
 have l1:=h1.1
 (have zx:=zT;refine zq122 ?_;try exact zT)
 repeat'(apply zK.s<;>intro hc<;>(try simp only[zhd]at hc)<;>(try have hw:=K0a hc)<;>(refine zq122 ?_;try exact zT))
 all_goals(try clear zx)
 (show W C false noExt call (ZC.loop X2a) _ _ _);refine Y0g C false noExt call X2a _ _ _ (J122 s n p) s.l.length ⟨0,rfl,by omega,by simp[put_at,X0c,K0f],by simp[put_at,X0c,K0f,K0j],by simp[put_at,X0c,K0f],zev,zev,by simp,zle⟩ ?_
 rintro m ρ q ⟨k,rfl,hk,e0,e1,e7,e8,e9,hj,hle⟩
 by_cases hlt:(k:Int)<s.l.length
 ·have m1:=h1.nth (k:=k) (by omega)
  rw[V2h (l:=s.l) (k:=k) (by omega),List.all_cons]at hj
  by_cases hn:((nth s.l k).l.length:Int)=n
  ·cases hc:(nth s.l k).l.all cellRight with
   |true=>
    have hc':!((nth s.l k).l.all cellRight)=false:=by rw[hc];rfl
    (have zx:=zA e0 (zA e1 (zA e7 (zA e8 (zA e9 (zA hlt (zA hn hc))))));refine zq122 ?_;try exact zT)
    repeat'(apply zK.s<;>intro hc<;>(try simp only[zhd]at hc)<;>(try have hw:=K0a hc)<;>(refine zq122 ?_;try exact zT))
    all_goals(try clear zx)
    exact⟨s.l.length-(k+1),by omega,k+1,rfl,by omega,zev,zev,zev,zev,zev,by rw[<- hj];simp[rowRight,hn,hc],zlq⟩
   |false=>
    (have zx:=zA e0 (zA e1 (zA e7 (zA e8 (zA e9 (zA hlt (zA hn hc))))));refine zq122 ?_;try exact zT)
    repeat'(apply zK.s<;>intro hc<;>(try simp only[zhd]at hc)<;>(try have hw:=K0a hc)<;>(refine zq122 ?_;try exact zT))
    all_goals(try clear zx)
    refine V0c hF zlq (Q0d ?_ (K0c (by intro jj;simp[CV.has])))
    simp[rowsRight,<- hj,rowRight,hc]
  ·(have zx:=zA e0 (zA e1 (zA e7 (zA e8 (zA e9 (zA hlt hn)))));refine zq122 ?_;try exact zT)
   repeat'(apply zK.s<;>intro hc<;>(try simp only[zhd]at hc)<;>(try have hw:=K0a hc)<;>(refine zq122 ?_;try exact zT))
   all_goals(try clear zx)
   refine V0c hF zlq (Q0d ?_ (K0c (by intro jj;simp[CV.has])))
   simp[rowsRight,<- hj,rowRight,hn]
 ·rw[List.drop_eq_nil_of_le (by omega)]at hj
  by_cases h8:(s.l.length:Int)<=8
  ·(have zx:=zA e0 (zA e1 (zA e7 (zA e8 (zA e9 (zA hlt h8)))));refine zq122 ?_;try exact zT)
   repeat'(apply zK.s<;>intro hc<;>(try simp only[zhd]at hc)<;>(try have hw:=K0a hc)<;>(refine zq122 ?_;try exact zT))
   all_goals(try clear zx)
   refine V0c hF zlq (Q0d ?_ (K0c (by intro jj;simp[CV.has])))
   have h8':s.l.length<=8:=by omega
   simp[rowsRight,<- hj,h8']
  ·(have zx:=zA e0 (zA e1 (zA e7 (zA e8 (zA e9 (zA hlt h8)))));refine zq122 ?_;try exact zT)
   repeat'(apply zK.s<;>intro hc<;>(try simp only[zhd]at hc)<;>(try have hw:=K0a hc)<;>(refine zq122 ?_;try exact zT))
   all_goals(try clear zx)
   refine V0c hF zlq (Q0d ?_ (K0c (by intro jj;simp[CV.has])))
   have h8':¬s.l.length<=8:=by omega
   simp[rowsRight,h8']
def R116: Rel:=fun args p r=>∃(a:Q0a),args=[a.cv]/\r=.ret (Bo (headRight a)) p
theorem t116{T:XCall}(h:Has T 116 R116)(a:Q0a){p:Hp}:T 116 [a.cv] p=.ret (Bo (headRight a)) p:=h _ _ _ ⟨a,rfl,rfl⟩
theorem zq116{A B:Prop}(k:B)(h:A=B:=by have zy:=zA @zw116<|zA @rs116<|zA @tt3<|zA @tt4<|zA @tt25<|zA @tt94<|zA ti3.eq_1<|zA ti4.eq_1<|zA ti25.eq_1<|zA ti94.eq_1<|zA @t_118<|@K0e;exact zQ): A:=h▸k
theorem zno116{P:Prop}(h:P:=by intro jj;simp[CV.has,CV.hasL,fault,X0b.nohas]): P:=h
theorem c116: Con C 116 R116:=by
 refine V0e C ?_ ?_ ?_
 ·rintro args p r r' ⟨a,h,e⟩ ⟨a',h',e'⟩
  subst e;subst e';simp_all[Q0a.inj_iff]
 ·rintro args p r ⟨a,h,rfl⟩;exact zr1
 rintro args p r ⟨a,rfl,rfl⟩
 refine zW C false [(118,R118)] ⟨c118,zT⟩ rfl xf116 zc116_ok fun call zh hF=>?_
 have t_118:=@t118 _ zh.1
 clear zh
 (have zx:=zT;refine zq116 ?_;try exact zT)
 repeat'(apply zK.s<;>intro hc<;>(try simp only[zhd]at hc)<;>(try have hw:=K0a hc)<;>(refine zq116 ?_;try exact zT))
 all_goals(try clear zx)
 all_goals refine V0c hF zle (Q0d ?_ (K0c zno116))
 all_goals simp_all[headRight]
theorem packHas(x:Q0a)(j:Nat): x.cv.has j ↔ (Lst.cv Y0a.cv x.Inputs).has j\/(Lst.cv (Lst.cv X0a.cv) x.Rows).has j:=by
 simp[Q0a.cv,CV.has,CV.hasL]
theorem nilHas{α:Type}(f:α->CV)(j:Nat): ¬(Lst.cv f ⟨.nil,[],fun _=>rfl⟩).has j:=by simp[Lst.cv,CV.has,CV.hasL]
theorem Z2f{a:Q0a}{j:Nat}(h:(ownP a).cv.has j): a.cv.has j:=by
 rw[packHas]at h ⊢
 simp only[ownP]at h
 split at h
 ·rcases h with h|h
  ·exact .inl h
  ·exact(nilHas _ j h).elim
 ·split at h
  ·rcases h with h|h
   ·exact(nilHas _ j h).elim
   ·exact .inr h
  ·split at h
   ·rcases h with h|h
    ·exact(nilHas _ j h).elim
    ·exact(nilHas _ j h).elim
   ·rcases h with h|h
    ·exact(nilHas _ j h).elim
    ·exact(nilHas _ j h).elim
def R117: Rel:=fun args p r=>∃(a:Q0a),args=[a.cv]/\r=.ret (ownP a).cv p
theorem t117{T:XCall}(h:Has T 117 R117)(a:Q0a){p:Hp}:T 117 [a.cv] p=.ret (ownP a).cv p:=h _ _ _ ⟨a,rfl,rfl⟩
theorem zq117{A B:Prop}(k:B)(h:A=B:=by have zy:=zA @zw117<|zA @rs117<|zA @tt3<|zA @tt4<|zA @tt25<|zA @tt91<|zA @tt92<|zA @tt94<|zA ti3.eq_1<|zA ti4.eq_1<|zA ti25.eq_1<|zA ti91.eq_1<|zA ti92.eq_1<|zA ti94.eq_1<|zA @K0e<|zA @zsl91<|@zsl92;exact zQ): A:=h▸k
theorem c117: Con C 117 R117:=by
 refine V0e C ?_ ?_ ?_
 ·rintro args p r r' ⟨a,h,e⟩ ⟨a',h',e'⟩
  subst e;subst e';simp_all[Q0a.inj_iff,Y0k,Y0i]
 ·rintro args p r ⟨a,h,rfl⟩;exact zr1
 rintro args p r ⟨a,rfl,rfl⟩
 refine zW C false [] zT rfl xf117 zc117_ok fun call zh hF=>?_
 clear zh
 by_cases h2:a.Kind=2
 ·(have zx:=h2;refine zq117 ?_;try exact zT)
  repeat'(apply zK.s<;>intro hc<;>(try simp only[zhd]at hc)<;>(try have hw:=K0a hc)<;>(refine zq117 ?_;try exact zT))
  all_goals(try clear zx)
  refine V0c hF zle (Q0d ?_ (fun j hj=>hF.lt_arg (a:=a.cv) (by simp) j (Z2f hj)))
  simp[ownP,h2];rfl
 ·by_cases h3:a.Kind=3
  ·(have zx:=zA h2 h3;refine zq117 ?_;try exact zT)
   repeat'(apply zK.s<;>intro hc<;>(try simp only[zhd]at hc)<;>(try have hw:=K0a hc)<;>(refine zq117 ?_;try exact zT))
   all_goals(try clear zx)
   refine V0c hF zle (Q0d ?_ (fun j hj=>hF.lt_arg (a:=a.cv) (by simp) j (Z2f hj)))
   simp[ownP,h3];rfl
  ·by_cases h4:a.Kind=4
   ·(have zx:=zA h2 (zA h3 h4);refine zq117 ?_;try exact zT)
    repeat'(apply zK.s<;>intro hc<;>(try simp only[zhd]at hc)<;>(try have hw:=K0a hc)<;>(refine zq117 ?_;try exact zT))
    all_goals(try clear zx)
    refine V0c hF zle (Q0d ?_ (fun j hj=>hF.lt_arg (a:=a.cv) (by simp) j (Z2f hj)))
    simp[ownP,h4];rfl
   ·(have zx:=zA h2 (zA h3 h4);refine zq117 ?_;try exact zT)
    repeat'(apply zK.s<;>intro hc<;>(try simp only[zhd]at hc)<;>(try have hw:=K0a hc)<;>(refine zq117 ?_;try exact zT))
    all_goals(try clear zx)
    refine V0c hF zle (Q0d ?_ (fun j hj=>hF.lt_arg (a:=a.cv) (by simp) j (Z2f hj)))
    simp[ownP,h2,h3,h4];rfl
theorem own_ok{a:Q0a}(h:packOk a): packOk (ownP a):=by
 simp only[ownP]
 split
 ·exact⟨h.1,by simp[Q0a.zero,rowsOk]⟩
 ·split
  ·exact⟨by simp[Q0a.zero],h.2⟩
  ·split<;>exact⟨by simp[Q0a.zero],by simp[Q0a.zero,rowsOk]⟩
def R50: Rel:=fun args p r=>∃(a:Q0a),args=[a.cv]/\(packOk a)/\r=.ret (Bo (packRight a)) p
theorem t50{T:XCall}(h:Has T 50 R50)(a:Q0a){p:Hp}(h1:packOk a): T 50 [a.cv] p=.ret (Bo (packRight a)) p:=h _ _ _ ⟨a,rfl,h1,rfl⟩
theorem zq50{A B:Prop}(k:B)(h:A=B:=by have zy:=zA @zw50<|zA @rs50<|zA @tt3<|zA @tt91<|zA @tt92<|zA @tt94<|zA ti3.eq_1<|zA ti91.eq_1<|zA ti92.eq_1<|zA ti94.eq_1<|zA @t_116<|zA @t_117<|zA @t_49<|zA @t_118<|zA @t_119<|zA @t_122<|zA @K0e<|zA @zsl91<|zA @zsl92<|@h1;exact zQ): A:=h▸k
theorem c50: Con C 50 R50:=by
 refine V0e C ?_ ?_ ?_
 ·rintro args p r r' ⟨a,h,h1,e⟩ ⟨a',h',h1',e'⟩
  subst e;subst e';simp_all[Q0a.inj_iff,Y0k,Y0i]
 ·rintro args p r ⟨a,h,h1,rfl⟩;exact zr1
 rintro args p r ⟨a,rfl,h1,rfl⟩
 refine zW C false [(116,R116),(117,R117),(49,R49),(118,R118),(119,R119),(122,R122)] ⟨c116,c117,c49,c118,c119,c122,zT⟩ rfl xf50 zc50_ok fun call zh hF=>?_
 have t_116:=@t116 _ zh.1
 have t_117:=@t117 _ zh.2.1
 have t_49:=@t49 _ zh.2.2.1
 have t_118:=@t118 _ zh.2.2.2.1
 have t_119:=@t119 _ zh.2.2.2.2.1
 have t_122:=@t122 _ zh.2.2.2.2.2.1
 clear zh
 have h2:=own_ok h1
 have i1:=h1.1
 have r1:=h1.2
 cases hh:headRight a with
 |false=>
  (have zx:=zA hh h2;refine zq50 ?_;try exact zT)
  repeat'(apply zK.s<;>intro hc<;>(try simp only[zhd]at hc)<;>(try have hw:=K0a hc)<;>(refine zq50 ?_;try exact zT))
  all_goals(try clear zx)
  all_goals refine V0c hF zle (Q0d ?_ (K0c (by intro jj;simp[CV.has])))
  all_goals simp_all[packRight]
 |true=>
  cases hs:sameP (ownP a) a with
  |false=>
   (have zx:=zA hh (zA h2 hs);refine zq50 ?_;try exact zT)
   repeat'(apply zK.s<;>intro hc<;>(try simp only[zhd]at hc)<;>(try have hw:=K0a hc)<;>(refine zq50 ?_;try exact zT))
   all_goals(try clear zx)
   all_goals refine V0c hF zle (Q0d ?_ (K0c (by intro jj;simp[CV.has])))
   all_goals simp_all[packRight]
  |true=>
   (have zx:=zA hh (zA h2 (zA hs (zA i1 r1)));refine zq50 ?_;try exact zT)
   repeat'(apply zK.s<;>intro hc<;>(try simp only[zhd]at hc)<;>(try have hw:=K0a hc)<;>(refine zq50 ?_;try exact zT))
   all_goals(try clear zx)
   all_goals refine V0c hF zle (Q0d ?_ (K0c (by intro jj;simp[CV.has])))
   all_goals(simp_all[packRight]<;>(intro h9;omega))
def Crow(B:List X0a): XObj:=.var (.n (List.replicate B.length sh110)) (.agg (B.map X0a.cv))
def zeros(n:Nat): List X0a:=List.replicate n X0a.zero
theorem zeros_cv(n:Nat): (zeros n).map X0a.cv=List.replicate n z110:=by rw[zeros,List.map_replicate,X0a.zcv]
theorem Q00(n:Nat): (zeros n).length=n:=by simp[zeros]
theorem K2k(B:List X0a): allSh (B.map X0a.cv) sh110=true:=X0w (fun x=>X0a.shOk x) B
theorem app108g(p:Hp)(n:Int)(hn:0<n/\n<=1000000): xappend C true p 108 3 (Lst.cv X0a.cv ⟨.nil,[],fun _=>rfl⟩) (I n)=.ret (.slc p.n [] 0 n.toNat) (p.new (Crow (zeros n.toNat))):=by
 obtain⟨m,hm⟩:∃m,n.toNat=m+1:=⟨n.toNat-1,by omega⟩
 have h1:Nat.ble ((m+1)*32) 281474976710656=true:=Nat.ble_eq_true_of_le (by omega)
 have h2:(decide (0<=n)&&decide (n<=140737488355328))=true:=by simp;omega
 have hs:xsrc C p.h 110 3 (I n)=some (z110::List.replicate m z110):=by
  simp only[xsrc,tt3,ti3,tt110,ti110,h2,Bool.true_and,hm,h1]
  rfl
 have ha:allSh (z110::List.replicate m z110) sh110=true:=by
  have:=K2k (zeros (m+1))
  rwa [zeros_cv,List.replicate_succ]at this
 have h3:Nat.ble ((m+1)*32) 140737488355328=true:=Nat.ble_eq_true_of_le (by omega)
 have h4:Nat.ble (m+1) 9223372036854775807=true:=Nat.ble_eq_true_of_le (by omega)
 have h5:List.replicate (m+1) z110=z110::List.replicate m z110:=rfl
 have h6:(Tail.nil.full&&allSh [] sh110)=true:=rfl
 simp only[xappend,tt108,ti108,tt110,ti110,cond_true,hs,ha,xappmut,Lst.cv,List.map_nil,List.length_cons,List.length_nil,List.length_replicate,Crow,zeros_cv,Q00,hm,Nat.zero_add,List.nil_append,h3,h4,h5,h6,Bool.and_self]
theorem app108s(p:Hp)(a m:Nat)(L:List X0a)(s:Lst X0a)(hj:p.t.get a=some (Crow L))(h0:s.l≠[])(hm:m+s.l.length<=L.length)(hl:L.length<=1000000): xappend C true p 108 108 (.slc a [] 0 m) (Lst.cv X0a.cv s)=.ret (.slc a [] 0 (m+s.l.length)) (p.set a (some (Crow (L.take m++s.l++L.drop (m+s.l.length))))):=by
 obtain⟨tl,l,o⟩:=s
 simp only at h0 hm ⊢
 cases l with
 |nil=>exact absurd rfl h0
 |cons x l=>
  have hlen:(L.take m++x::l++L.drop (m+(x::l).length)).length=L.length:=by simp at hm ⊢;omega
  have ha:=K2k (x::l)
  have hb:=K2k L
  simp only[List.map_cons]at ha
  simp only[List.length_cons]at hm
  have h1:Nat.ble m L.length=true:=Nat.ble_eq_true_of_le (by omega)
  have h2:Nat.blt 0 L.length=true:=Z0u (by omega)
  have h3:Nat.ble ((L.length+(l.length+1))*32) 140737488355328=true:=Nat.ble_eq_true_of_le (by omega)
  have h4:Nat.ble (L.length+(l.length+1)) 9223372036854775807=true:=Nat.ble_eq_true_of_le (by omega)
  have h5:Nat.ble (m+(l.length+1)) L.length=true:=Nat.ble_eq_true_of_le (by omega)
  simp only[Crow]at hj ⊢
  rw[hlen]
  simp only[xappend,tt108,ti108,tt110,ti110,cond_true,Lst.cv,xsrc,srcOf,List.map_cons,ha,hb,xappmut,hj,List.length_cons,List.length_map,h1,h2,h3,h4,h5,Bool.and_self]
  simp[List.map_append,List.map_take,List.map_drop]
theorem sl108z(p:Hp)(a:Nat)(L:List X0a)(n:Nat)(hj:p.t.get a=some (Crow L))(hn:n=L.length): qslice C p.h 108 (.slc a [] 0 n) none (some (I 0)) none=some (.slc a [] 0 0):=by
 have ht:tgt p.h (.ptr a [])=some (.agg (L.map X0a.cv)):=by
  simp only[tgt,Hp.h,hj,Crow,Option.map_some,XObj.obj,CV.at]
 have hs:CV.shape (.agg (L.map X0a.cv))=.n (List.replicate (L.map X0a.cv).length sh110):=by
  simp only[CV.shape,Z0m (f:=X0a.cv) (s:=sh110) (fun x=>X0a.shape x),List.length_map]
 simp only[qslice,tt108,ti108,tt110,ti110,ht]
 rw[if_pos hs]
 have hq:qbnd (some (I 0)) n n=some 0:=by simp only[qbnd];rw[if_pos (by omega)];rfl
 simp only[hq]
 rfl
theorem sl108n(h:Heap): qslice C h 108 (Lst.cv X0a.cv ⟨.nil,[],fun _=>rfl⟩) none (some (I 0)) none=some (Lst.cv X0a.cv ⟨.nil,[],fun _=>rfl⟩):=by
 simp only[qslice,tt108,ti108,tt110,ti110,Lst.cv,List.map_nil]
 rfl
theorem Crow_weak(f:Nat->Nat)(n:Nat)(B:List X0a): XObj.weak f n (Crow B) (Crow B):=⟨rfl,by simp only[CV.weak];exact CV.weakL_refl _ fun j hj=>(Z0h (f:=X0a.cv) X0a.nohas B j hj).elim⟩
theorem shr_crow{args:List CV}{p p':Hp}{J m:Nat}{B:List X0a}(hF:Fine args p)(hle:HpLe p p')(hJ:p.n<=J)(hT:p'.t.get J=some (Crow B)): ShrR p (.ret (.slc J [] 0 m) p') (.ret (.slc p.n [] 0 m) (p.new (Crow B))):=
 Y0y hF (q0:=p) (J:=J) rfl (fun k o h=>⟨hF.dom k o h,by have:=hF.dom k o h;omega,.inl ⟨h,hle k o h⟩⟩) ⟨_,hT,Crow_weak _ _ _⟩ (by simp[CV.weak,ren])
theorem cap_nil{α:Type}(f:α->CV): xcap (Lst.cv f ⟨.nil,[],fun _=>rfl⟩)=some (I 0):=nd rfl
def R204m: Rel:=fun args p r=>∃(n:Int),args=[Lst.cv X0a.cv ⟨.nil,[],fun _=>rfl⟩,I n]/\(0<n/\n<=1000000)/\r=.ret (.slc p.n [] 0 0) (p.new (Crow (zeros n.toNat)))
theorem zdis204m{P:Prop}(h:P:=by first|exact zdis|(simp only[Hp.bump_n,Hp.znew_n,Hp.zset_n,List.length_nil,List.length_cons,List.length_append,List.length_map,Q00];(first|done|omega))|(simp (disch:=first|exact zd1|(simp only[Hp.bump_n,Hp.znew_n,Hp.zset_n,List.length_nil,List.length_cons,List.length_append,List.length_map,Q00];(first|done|omega))) only[zheap,zx];(first|done|rfl))|fail): P:=h
theorem zq204m{A B:Prop}(k:B)(h:A=B:=by have zy:=zA @zw204<|zA @rs204<|zA @tt3<|zA @tt9<|zA @tt108<|zA ti3.eq_1<|zA ti9.eq_1<|zA ti108.eq_1<|zA @Y0f<|zA @zsl108<|zA @app108g<|zA @sl108z<|zA @sl108n<|zA @Q00<|zA @cap_nil<|@h1;have zd:=@zdis204m;exact zQd): A:=h▸k
theorem c204m: Con C 204 R204m:=by
 refine V0e C ?_ ?_ ?_
 ·rintro args p r r' ⟨n,h,h1,e⟩ ⟨n',h',h1',e'⟩
  subst e;subst e';simp_all[X0a.inj_iff,Q0i]
 ·rintro args p r ⟨n,h,h1,rfl⟩;exact zr1
 rintro args p r ⟨n,rfl,h1,rfl⟩
 refine zW C true [] zT rfl xf204 zc204_ok fun call zh hF=>?_
 clear zh
 have hn0:¬n<0:=by omega
 have hn1:0<n:=h1.1
 have hn2:n-0=n:=Int.sub_zero n
 (have zx:=zA hn0 (zA hn1 hn2);refine zq204m ?_;try exact zT)
 repeat'(apply zK.s<;>intro hc<;>(try simp only[zhd]at hc)<;>(try have hw:=K0a hc)<;>(refine zq204m ?_;try exact zT))
 all_goals(try clear zx)
 refine shr_crow hF zle (Nat.le_refl _) ?_
 exact Hp.get_new_self _ _
def R204e: Rel:=fun args p r=>∃(n:Int),args=[Lst.cv X0a.cv ⟨.nil,[],fun _=>rfl⟩,I n]/\(n=0)/\r=.ret (Lst.cv X0a.cv ⟨.nil,[],fun _=>rfl⟩) p
theorem zq204e{A B:Prop}(k:B)(h:A=B:=by have zy:=zA @zw204<|zA @rs204<|zA @tt3<|zA @tt9<|zA @tt108<|zA ti3.eq_1<|zA ti9.eq_1<|zA ti108.eq_1<|zA @Y0f<|zA @zsl108<|zA @cap_nil<|@h1;exact zQ): A:=h▸k
theorem c204e: Con C 204 R204e:=by
 refine V0e C ?_ ?_ ?_
 ·rintro args p r r' ⟨n,h,h1,e⟩ ⟨n',h',h1',e'⟩
  subst e;subst e';simp_all[X0a.inj_iff,Q0i]
 ·rintro args p r ⟨n,h,h1,rfl⟩;exact zr1
 rintro args p r ⟨n,rfl,h1,rfl⟩
 refine zW C true [] zT rfl xf204 zc204_ok fun call zh hF=>?_
 clear zh
 subst h1
 have h1:True:=trivial
 have hn0:¬(0:Int)<0:=by omega
 have hn2:(0:Int)-0=0:=rfl
 (have zx:=zA hn0 hn2;refine zq204e ?_;try exact zT)
 repeat'(apply zK.s<;>intro hc<;>(try simp only[zhd]at hc)<;>(try have hw:=K0a hc)<;>(refine zq204e ?_;try exact zT))
 all_goals(try clear zx)
 exact V0c hF zle (V0d (K0c (by intro jj;simp[CV.has,CV.hasL,Lst.cv,K0f])))
end Go.Proofs.Ytpchcfkebljopaa
end
section
namespace Go.Proofs.Ytpchcfkebljopaa
open Go.Cl Go Go.RowKit
def flagI(b:Bool): Int:=if b then 1 else 0
def inBits(x:Y0a): List Bool:=bitsOf x.Buttons 8++bitsOf x.X 8++bitsOf x.Y 8
def cellBits(c:X0a): List Bool:=bitsOf (flagI c.Real) 1++if c.Real then inBits c.In else []
def flat(l:List (Lst X0a)): List X0a:=l.flatMap Lst.l
def rowsHead(a:Q0a): List Bool:=bitsOf a.First 10++bitsOf a.Players 4++bitsOf a.Rows.l.length 4
def rowsBits(a:Q0a): List Bool:=rowsHead a++(flat a.Rows.l).flatMap cellBits
def inputsHead(a:Q0a): List Bool:=bitsOf a.Got 10++bitsOf a.First 10++bitsOf a.Inputs.l.length 5
def packHead(a:Q0a): List Bool:=bitsOf a.Kind 3++bitsOf a.Slot 3++bitsOf a.Seq 16++bitsOf a.Last 16++bitsOf (flagI a.Any) 1++bitsOf a.Acks 64
def packBits(a:Q0a): List Bool:=packHead a++if a.Kind=2 then inputsHead a++a.Inputs.l.flatMap inBits else if a.Kind=3 then rowsBits a else if a.Kind=4 then bitsOf a.Frame 10++bitsOf a.Mark 62 else []
theorem K0q(x:Y0a): (inBits x).length=24:=by simp[inBits,X0e]
theorem cellBits_len(c:X0a): (cellBits c).length<=25:=by
 unfold cellBits
 split<;>simp[X0e,K0q]
theorem Z0q(a:Q0a): (rowsHead a).length=18:=by simp[rowsHead,X0e]
theorem V0n(a:Q0a): (inputsHead a).length=25:=by simp[inputsHead,X0e]
theorem V0i(a:Q0a): (packHead a).length=103:=by simp[packHead,X0e]
theorem X1a{l:List (Lst X0a)}{k:Nat}(h:k<l.length): flat (l.take (k+1))=flat (l.take k)++(nth l k).l:=by
 rw[flat,K0m h,List.flatMap_append];simp[flat]
theorem V0o(l:List (Lst X0a))(k:Nat): (flat (l.take k)).length<=(flat l).length:=by
 have h:flat l=flat (l.take k)++flat (l.drop k):=by rw[flat,flat,flat,<- List.flatMap_append,List.take_append_drop]
 rw[h,List.length_append];omega
theorem X2f: ∀{l:List (Lst X0a)},(∀x∈l,x.l.length<=8)->(flat l).length<=8*l.length
 |[],_=>Nat.le_refl _
 |x::l,h=>by
  have h1:=h x (.head _)
  have h2:=X2f (l:=l) fun y hy=>h y (.tail _ hy)
  simp only[flat,List.flatMap_cons,List.length_append,List.length_cons]at h2 ⊢
  omega
theorem Q01: ∀(l:List X0a),(l.flatMap cellBits).length<=25*l.length
 |[]=>Nat.le_refl _
 |c::l=>by
  have h1:=cellBits_len c
  have h2:=Q01 l
  rw[List.flatMap_cons,List.length_append,List.length_cons];omega
end Go.Proofs.Ytpchcfkebljopaa
end
section
namespace Go.Proofs.Ytpchcfkebljopaa
open Go.Cl Go Go.RowKit
set_option maxRecDepth 100000
set_option linter.constructorNameAsVariable false
def R204y: Rel:=fun args p r=>R204m args p r\/R204e args p r
theorem c204y: Con C 204 R204y:=Y03 C c204m c204e (by
 rintro args p r r' ⟨n,e,h1,_⟩ ⟨n',e',h2,_⟩
 rw[e]at e'
 simp only[List.cons.injEq,and_true,true_and]at e'
 have:=I_inj _ _ e'
 omega)
theorem t204y{T:XCall}(h:Has T 204 R204y): (∀(n:Int) {p:Hp},0<n/\n<=1000000->T 204 [.lst .nil [],I n] p=.ret (.slc p.n [] 0 0) (p.new (Crow (zeros n.toNat)))) /\
  ∀(n:Int) {p:Hp},n=0->T 204 [.lst .nil [],I n] p=.ret (Lst.cv X0a.cv ⟨.nil,[],fun _=>rfl⟩) p:=
 ⟨fun n p h1=>h _ _ _ (.inl ⟨n,rfl,h1,rfl⟩),fun n p h1=>h _ _ _ (.inr ⟨n,rfl,h1,rfl⟩)⟩
theorem fillC(A x:List X0a)(N:Nat)(h:A.length+x.length<=N): (A++zeros (N-A.length)).take A.length++x++(A++zeros (N-A.length)).drop (A.length+x.length)=(A++x)++zeros (N-(A++x).length):=by
 rw[List.take_left' rfl,List.drop_append,List.drop_eq_nil_of_le (by omega),List.nil_append]
 congr 1
 simp only[zeros,List.drop_replicate,List.length_append]
 congr 1;omega
def J191(s:Lst (Lst X0a))(p:Hp)(n:Nat)(ρ:Env)(q:Hp): Prop:=
 ∃k:Nat,n=s.l.length-k/\k<=s.l.length/\ρ 0=s.cv (Lst.cv X0a.cv)/\ρ 3=I (flat (s.l.take k)).length/\ρ 9=s.cv (Lst.cv X0a.cv)/\ρ 10=I s.l.length/\ρ 11=I k/\q=p
def L191(s:Lst (Lst X0a))(p:Hp)(n:Nat)(ρ:Env)(q:Hp): Prop:=
 ∃k a:Nat,n=s.l.length-k/\k<=s.l.length/\ρ 25=s.cv (Lst.cv X0a.cv)/\ρ 26=I s.l.length/\ρ 27=I k/\ρ 6=.slc a [] 0 (flat (s.l.take k)).length/\q.t.get a=some (Crow (flat (s.l.take k)++zeros ((flat s.l).length-(flat (s.l.take k)).length)))/\p.n<=a/\a<q.n/\HpLe p q
def R191m: Rel:=fun args p r=>∃(s:Lst (Lst X0a)),args=[s.cv (Lst.cv X0a.cv)]/\(s.l.length<=1000000)/\(∀x∈s.l,x.l≠[])/\(s.l≠[])/\((flat s.l).length<=1000000)/\r=.ret (Lst.cv X0a.cv ⟨.part,flat s.l,nofun⟩) p
theorem zq191m{A B:Prop}(k:B)(h:A=B:=by have zy:=zA @zw191<|zA @rs191<|zA @tt3<|zA @tt9<|zA @tt92<|zA @tt108<|zA ti3.eq_1<|zA ti9.eq_1<|zA ti92.eq_1<|zA ti108.eq_1<|zA @t_204y<|zA @Y0f<|zA @zsl92<|zA @zsl108<|zA @h1<|zA @h2<|zA @h3<|@h4;exact zQ): A:=h▸k
theorem c191m: Con C 191 R191m:=by
 refine V0e C ?_ ?_ ?_
 ·rintro args p r r' ⟨s,h,h1,h2,h3,h4,e⟩ ⟨s',h',h1',h2',h3',h4',e'⟩
  subst e;subst e';simp_all[X0a.inj_iff,Y0i,Q0i,Y0i]
 ·rintro args p r ⟨s,h,h1,h2,h3,h4,rfl⟩;exact zr1
 rintro args p r ⟨s,rfl,h1,h2,h3,h4,rfl⟩
 show AnsAt C 191 [s.cv (Lst.cv X0a.cv)] p (.ret (.lst .part ((flat s.l).map X0a.cv)) p)
 refine Q1f C (sh:=.n (List.replicate (flat s.l).length sh110)) (l:=(flat s.l).map X0a.cv) (sz:=4) (fun x hx=>by obtain⟨y,_,rfl⟩:=List.mem_map.1 hx;rfl) (fun j hj=>(Z0h X0a.nohas _ j hj).elim) ?_
 refine zW C true [(204,R204y)] ⟨c204y,zT⟩ rfl xf191 zc191_ok fun call zh hF=>?_
 have t_204y:=@t204y _ zh.1
 clear zh
 have hl0:0<s.l.length:=List.length_pos_iff.2 h3
 have hf0:0<(flat s.l).length:=by
  have e:=X1a (l:=s.l) (k:=0) hl0
  have:=V0o s.l 1
  rw[e,List.length_append]at this
  have:=List.length_pos_iff.2 (h2 (nth s.l 0) (by rw[Y0h hl0];exact List.getElem_mem _))
  omega
 (have zx:=zT;refine zq191m ?_;try exact zT)
 repeat'(apply zK.s<;>intro hc<;>(try simp only[zhd]at hc)<;>(try have hw:=K0a hc)<;>(refine zq191m ?_;try exact zT))
 all_goals(try clear zx)
 (show W C true noExt call (ZC.loop V1e) _ _ _);refine Y0g C true noExt call V1e _ _ _ (J191 s p) s.l.length ⟨0,rfl,by omega,by simp[put_at,X0c,K0f],by simp[put_at,X0c,flat],by simp[put_at,X0c,K0f],zev,zev,rfl⟩ ?_
 rintro n ρ q ⟨k,rfl,hk,e0,e3,e9,e10,e11,rfl⟩
 have hle1:=V0o s.l k
 by_cases hlt:(k:Int)<s.l.length
 ·have hst:=X1a (l:=s.l) (k:=k) (by omega)
  have hle2:=V0o s.l (k+1)
  rw[hst,List.length_append]at hle2
  have hng:¬((flat (s.l.take k)).length:Int)+((nth s.l k).l.length:Int)<0:=by omega
  (have zx:=zA e0 (zA e3 (zA e9 (zA e10 (zA e11 (zA hlt hng)))));refine zq191m ?_;try exact zT)
  repeat'(apply zK.s<;>intro hc<;>(try simp only[zhd]at hc)<;>(try have hw:=K0a hc)<;>(refine zq191m ?_;try exact zT))
  all_goals(try clear zx)
  exact⟨s.l.length-(k+1),by omega,k+1,rfl,by omega,zev,by rw[hst,List.length_append];simp[put_at,X0c],zev,zev,zev,rfl⟩
 ·have hks:k=s.l.length:=by omega
  rw[hks,List.take_length]at e3
  have hpos:0<((flat s.l).length:Int)/\((flat s.l).length:Int)<=1000000:=by omega
  (have zx:=zA e0 (zA e3 (zA e9 (zA e10 (zA e11 (zA hlt hpos)))));refine zq191m ?_;try exact zT)
  repeat'(apply zK.s<;>intro hc<;>(try simp only[zhd]at hc)<;>(try have hw:=K0a hc)<;>(refine zq191m ?_;try exact zT))
  all_goals(try clear zx)
  (show W C true noExt call (ZC.loop K01) _ _ _);refine Y0g C true noExt call K01 _ _ _ (L191 s q) s.l.length ⟨0,q.n,rfl,by omega,zev,zev,zev,by simp[put_at,X0c,flat],by simp (disch:=first|exact zdl|fail) only[zheap,flat,List.take_zero,List.flatMap_nil,List.nil_append,List.length_nil,Int.toNat_natCast,Nat.sub_zero],Nat.le_refl _,zdl,zle⟩ ?_
  clear e0 e3 e9 e10 e11 hlt hle1 hk hks
  rintro n ρ r ⟨k,a,rfl,hk,e25,e26,e27,e6,g1,hpa,han,hle⟩
  have hle1:=V0o s.l k
  have hLl:(flat (s.l.take k)++zeros ((flat s.l).length-(flat (s.l.take k)).length)).length=(flat s.l).length:=by rw[List.length_append,Q00];omega
  by_cases hlt:(k:Int)<s.l.length
  ·have hst:=X1a (l:=s.l) (k:=k) (by omega)
   have hle2:=V0o s.l (k+1)
   rw[hst,List.length_append]at hle2
   have hx:(nth s.l k).l≠[]:=h2 _ (by rw[Y0h (by omega)];exact List.getElem_mem _)
   have hap:=app108s r a (flat (s.l.take k)).length _ (nth s.l k) g1 hx (by omega) (by omega)
   rw[fillC _ _ _ (by omega)]at hap
   (have zx:=zA e25 (zA e26 (zA e27 (zA e6 (zA hap hlt))));refine zq191m ?_;try exact zT)
   repeat'(apply zK.s<;>intro hc<;>(try simp only[zhd]at hc)<;>(try have hw:=K0a hc)<;>(refine zq191m ?_;try exact zT))
   all_goals(try clear zx)
   exact⟨s.l.length-(k+1),by omega,k+1,a,rfl,by omega,zev,zev,zev,by rw[hst,List.length_append];simp[put_at,X0c],by rw[hst];exact Hp.get_set_self _ _ _,hpa,zdl,fun j o h=>by have hd:=hF.dom j o h;rw[Hp.get_set_ne _ _ _ (by omega)];exact hle j o h⟩
  ·have hks:k=s.l.length:=by omega
   rw[hks,List.take_length,Nat.sub_self]at g1
   rw[hks,List.take_length]at e6
   rw[show zeros 0=[] from rfl,List.append_nil]at g1
   (have zx:=zA e25 (zA e26 (zA e27 (zA e6 hlt)));refine zq191m ?_;try exact zT)
   repeat'(apply zK.s<;>intro hc<;>(try simp only[zhd]at hc)<;>(try have hw:=K0a hc)<;>(refine zq191m ?_;try exact zT))
   all_goals(try clear zx)
   exact shr_crow hF hle hpa g1
def R191e: Rel:=fun args p r=>∃(s:Lst (Lst X0a)),args=[s.cv (Lst.cv X0a.cv)]/\(s.l=[])/\r=.ret (Lst.cv X0a.cv ⟨.nil,[],fun _=>rfl⟩) p
theorem zq191e{A B:Prop}(k:B)(h:A=B:=by have zy:=zA @zw191<|zA @rs191<|zA @tt3<|zA @tt9<|zA @tt92<|zA @tt108<|zA ti3.eq_1<|zA ti9.eq_1<|zA ti92.eq_1<|zA ti108.eq_1<|zA @t_204y<|zA @Y0f<|zA @zsl92<|zA @zsl108<|@h3;exact zQ): A:=h▸k
theorem c191e: Con C 191 R191e:=by
 refine V0e C ?_ ?_ ?_
 ·rintro args p r r' ⟨s,h,h3,e⟩ ⟨s',h',h3',e'⟩
  subst e;subst e';simp_all[X0a.inj_iff,Y0i,Q0i,Y0i]
 ·rintro args p r ⟨s,h,h3,rfl⟩;exact zr1
 rintro args p r ⟨s,rfl,h3,rfl⟩
 refine zW C true [(204,R204y)] ⟨c204y,zT⟩ rfl xf191 zc191_ok fun call zh hF=>?_
 have t_204y:=@t204y _ zh.1
 clear zh
 have hn:¬(0:Int)<0:=by omega
 have hlen:(s.l.length:Int)=0:=by rw[h3];rfl
 (have zx:=hn;refine zq191e ?_;try exact zT)
 repeat'(apply zK.s<;>intro hc<;>(try simp only[zhd]at hc)<;>(try have hw:=K0a hc)<;>(refine zq191e ?_;try exact zT))
 all_goals(try clear zx)
 (show W C true noExt call (ZC.loop V1e) _ _ _);refine Y0g C true noExt call V1e _ _ _ (fun n ρ q=>n=0/\ρ 0=s.cv (Lst.cv X0a.cv)/\ρ 3=I 0/\ρ 10=I 0/\ρ 11=I 0/\q=p) 0 ⟨rfl,by simp[put_at,X0c,K0f],zev,by simp[put_at,X0c,hlen],zev,rfl⟩ ?_
 rintro n ρ q ⟨rfl,e0,e3,e10,e11,rfl⟩
 (have zx:=zA e0 (zA e3 (zA e10 (zA e11 hn)));refine zq191e ?_;try exact zT)
 repeat'(apply zK.s<;>intro hc<;>(try simp only[zhd]at hc)<;>(try have hw:=K0a hc)<;>(refine zq191e ?_;try exact zT))
 all_goals(try clear zx)
 (show W C true noExt call (ZC.loop K01) _ _ _);refine Y0g C true noExt call K01 _ _ _ (fun n ρ r=>n=0/\ρ 6=Lst.cv X0a.cv ⟨.nil,[],fun _=>rfl⟩/\ρ 26=I 0/\ρ 27=I 0/\r=q) 0 ⟨rfl,zev,by simp[put_at,X0c,hlen],zev,rfl⟩ ?_
 rintro n ρ r ⟨rfl,e6,e26,e27,rfl⟩
 (have zx:=zA e6 (zA e26 (zA e27 hn));refine zq191e ?_;try exact zT)
 repeat'(apply zK.s<;>intro hc<;>(try simp only[zhd]at hc)<;>(try have hw:=K0a hc)<;>(refine zq191e ?_;try exact zT))
 all_goals(try clear zx)
 exact V0c hF zle (V0d (K0c (by intro jj;simp[CV.has,CV.hasL,Lst.cv])))
def catL(s:Lst (Lst X0a)): Lst X0a:=if s.l=[] then⟨.nil,[],fun _=>rfl⟩ else⟨.part,flat s.l,nofun⟩
theorem catL_l(s:Lst (Lst X0a)): (catL s).l=flat s.l:=by
 unfold catL
 split
 ·rename_i h;rw[h];rfl
 ·rfl
def R191y: Rel:=fun args p r=>R191m args p r\/R191e args p r
theorem c191y: Con C 191 R191y:=Y03 C c191m c191e (by
 rintro args p r r' ⟨s,e,_,_,h3,_⟩ ⟨s',e',h3',_⟩
 rw[e]at e'
 simp only[List.cons.injEq,Y0i,and_true]at e'
 rw[e']at h3
 exact absurd h3' h3)
theorem t191y{T:XCall}(h:Has T 191 R191y)(s:Lst (Lst X0a)){p:Hp}(h1:s.l.length<=1000000)(h2:∀x∈s.l,x.l≠[])(h4:(flat s.l).length<=1000000): T 191 [s.cv (Lst.cv X0a.cv)] p=.ret ((catL s).cv X0a.cv) p:=by
 unfold catL
 by_cases h3:s.l=[]
 ·rw[if_pos h3];exact h _ _ _ (.inr ⟨s,rfl,h3,rfl⟩)
 ·rw[if_neg h3];exact h _ _ _ (.inl ⟨s,rfl,h1,h2,h3,h4,rfl⟩)
def R164: Rel:=fun args p r=>∃(i j:Nat) (l:List Bool) (b:Bool),args=[.ptr i [],Bo b]/\(p.t.get i=some (W1 j l))/\(W2 i j l p)/\(l.length<=800000)/\r=.ret (.tup []) (wHp i j l (l++bitsOf (flagI b) 1) p)
theorem t164{T:XCall}(h:Has T 164 R164)(i j:Nat)(l:List Bool)(b:Bool){p:Hp}(h1:p.t.get i=some (W1 j l))(h2:W2 i j l p)(h3:l.length<=800000): T 164 [.ptr i [],Bo b] p=.ret (.tup []) (wHp i j l (l++bitsOf (flagI b) 1) p):=h _ _ _ ⟨i,j,l,b,rfl,h1,h2,h3,rfl⟩
theorem zq164{A B:Prop}(k:B)(h:A=B:=by have zy:=zA @zw164<|zA @rs164<|zA @t_89<|zA @h1<|zA @h2<|@h3;exact zQ): A:=h▸k
theorem c164: Con C 164 R164:=by
 refine V0e C ?_ ?_ ?_
 ·rintro args p r r' ⟨i,j,l,b,h,h1,h2,h3,e⟩ ⟨i',j',l',b',h',h1',h2',h3',e'⟩
  subst e;subst e';(subst h;simp only[List.cons.injEq,CV.ptr.injEq,CV.sc.injEq,Value.bool.injEq,and_true,true_and]at h';obtain⟨e1,e2⟩:=h';subst e1;subst e2;have hu:=Y1v h1 h2 h1' h2';rw[Q02 _ hu,hu.1])
 ·rintro args p r ⟨i,j,l,b,h,h1,h2,h3,rfl⟩;exact zr1
 rintro args p r ⟨i,j,l,b,rfl,h1,h2,h3,rfl⟩
 refine zW C false [(89,R89)] ⟨c89,zT⟩ rfl xf164 zc164_ok fun call zh hF=>?_
 have t_89:=@t89 _ zh.1
 clear zh
 have hd_h1:=hF.dom _ _ h1
 have hi:=hF.dom _ _ h1
 cases b with
 |true=>
  (have zx:=h1;refine zq164 ?_;try exact zT)
  repeat'(apply zK.s<;>intro hc<;>(try simp only[zhd]at hc)<;>(try have hw:=K0a hc)<;>(refine zq164 ?_;try exact zT))
  all_goals(try clear zx)
  exact((WSt.start h1 h2 hi).step hF.dom _).fin hF h1 h2 (app_ne (X0e _ 1)) (Q0l _ _)
 |false=>
  (have zx:=h1;refine zq164 ?_;try exact zT)
  repeat'(apply zK.s<;>intro hc<;>(try simp only[zhd]at hc)<;>(try have hw:=K0a hc)<;>(refine zq164 ?_;try exact zT))
  all_goals(try clear zx)
  exact((WSt.start h1 h2 hi).step hF.dom _).fin hF h1 h2 (app_ne (X0e _ 1)) (Q0l _ _)
def R165: Rel:=fun args p r=>∃(i j:Nat) (l:List Bool) (x:Y0a),args=[.ptr i [],x.cv]/\(p.t.get i=some (W1 j l))/\(W2 i j l p)/\(l.length<=800000)/\r=.ret (.tup []) (wHp i j l (l++inBits x) p)
theorem t165{T:XCall}(h:Has T 165 R165)(i j:Nat)(l:List Bool)(x:Y0a){p:Hp}(h1:p.t.get i=some (W1 j l))(h2:W2 i j l p)(h3:l.length<=800000): T 165 [.ptr i [],x.cv] p=.ret (.tup []) (wHp i j l (l++inBits x) p):=h _ _ _ ⟨i,j,l,x,rfl,h1,h2,h3,rfl⟩
theorem zdis165{P:Prop}(h:P:=by first|exact zdis|(exact zdw1)|(exact zdw)|(exact W2_nil _ _ _)|(refine W2_in ?_ ?_<;>exact zdw)|(simp only[Hp.bump_n,Hp.znew_n,Hp.zset_n,List.length_nil,List.length_cons,List.length_append,List.length_map,X0e];(first|done|omega))|(simp (disch:=first|exact zd1|(simp only[Hp.bump_n,Hp.znew_n,Hp.zset_n,List.length_nil,List.length_cons,List.length_append,List.length_map,X0e];(first|done|omega))) only[zheap,zx];(first|done|rfl))|fail): P:=h
theorem zq165{A B:Prop}(k:B)(h:A=B:=by have zy:=zA @zw165<|zA @rs165<|zA @tt3<|zA @tt25<|zA @tt36<|zA ti3.eq_1<|zA ti25.eq_1<|zA ti36.eq_1<|zA @t_89<|zA @t_158<|zA @Q0f<|zA @Y0t<|zA @wHp_i<|zA @wHp_eq<|zA @wHp_nj<|zA @wHp_n<|zA @h1<|zA @h2<|@h3;have zd:=@zdis165;exact zQd): A:=h▸k
theorem c165: Con C 165 R165:=by
 refine V0e C ?_ ?_ ?_
 ·rintro args p r r' ⟨i,j,l,x,h,h1,h2,h3,e⟩ ⟨i',j',l',x',h',h1',h2',h3',e'⟩
  subst e;subst e';(subst h;simp only[List.cons.injEq,CV.ptr.injEq,Y0a.inj_iff,and_true,true_and]at h';obtain⟨e1,e2⟩:=h';subst e1;subst e2;have hu:=Y1v h1 h2 h1' h2';rw[Q02 _ hu,hu.1])
 ·rintro args p r ⟨i,j,l,x,h,h1,h2,h3,rfl⟩;exact zr1
 rintro args p r ⟨i,j,l,x,rfl,h1,h2,h3,rfl⟩
 refine zW C false [(89,R89),(158,R158)] ⟨c89,c158,zT⟩ rfl xf165 zc165_ok fun call zh hF=>?_
 have t_89:=@t89 _ zh.1
 have t_158:=@t158 _ zh.2.1
 clear zh
 have hd_h1:=hF.dom _ _ h1
 have hi:=hF.dom _ _ h1
 have hw:=hF.dom
 have hjn:l=[]\/j<p.n:=by
  rcases h2 with h|h
  ·exact .inl h
  ·exact .inr (hw _ _ h.2)
 have hS0:=WSt.new0 hw h1 h2 hi (.var sh36 x.cv)
 have hW0:=hS0.w
 have hbx:∀m,(wHp i j l m (p.new (.var sh36 x.cv))).t.get p.n=some (.var sh36 x.cv):=fun m=>by rw[wHp_ne (by omega) (hjn.imp id fun h=>by omega) (by rw[Hp.znew_n];omega),Hp.get_new_self]
 (have zx:=zA hbx h1;refine zq165 ?_;try exact zT)
 repeat'(apply zK.s<;>intro hc<;>(try simp only[zhd]at hc)<;>(try have hw:=K0a hc)<;>(refine zq165 ?_;try exact zT))
 all_goals(try clear zx)
 have hbb:l++bitsOf x.Buttons 8++bitsOf x.X 8++bitsOf x.Y 8=l++inBits x:=by simp only[inBits,List.append_assoc]
 rw[<- hbb]
 exact((WSt.step2 (J':=p.n+1+1) hw zdw1 (WSt.step2 (J':=p.n+1) hw zdw1 hS0)).step hw _).fin hF h1 h2 (by rw[hbb];exact app_ne (K0q x)) (Q0l _ _)
def rowsSm(a:Q0a): Prop:=a.Rows.l.length<=8/\∀x∈a.Rows.l,x.l≠[]/\x.l.length<=8
theorem rowsSm.flat{a:Q0a}(h:rowsSm a): (flat a.Rows.l).length<=64:=by
 have h1:=X2f (l:=a.Rows.l) fun x hx=>(h.2 x hx).2
 have h2:=h.1
 omega
theorem WSt.newset{i j J:Nat}{l m:List Bool}{p q:Hp}(hd:∀k o,p.t.get k=some o->k<p.n)(h:WSt i j l p J m q)(hj:J<q.n)(o o':XObj): WSt i j l p J m ((q.new o).set q.n (some o')):=by
 have k:=h.new hd hj o
 have hi:i<q.n:=Nat.lt_of_lt_of_le h.hi h.hn
 have hn:=h.hn
 refine⟨by rw[Hp.get_set_ne _ _ _ (by omega)];exact k.g,?_,k.hJ.imp id fun x=>⟨x.1,by rw[Hp.zset_n];exact x.2⟩,k.hi,by rw[Hp.zset_n];exact k.hn,fun k' o1 a b c=>by have:=hd _ _ c;rw[Hp.get_set_ne _ _ _ (by omega)];exact k.hle k' o1 a b c⟩
 rcases k.w with w|⟨w1,w2⟩
 ·exact .inl w
 ·exact .inr ⟨w1,by rw[Hp.get_set_ne _ _ _ (by omega)];exact w2⟩
def J166(i j:Nat)(l:List Bool)(a:Q0a)(p:Hp)(n:Nat)(ρ:Env)(q:Hp): Prop:=
 ∃k J:Nat,n=(flat a.Rows.l).length-k/\k<=(flat a.Rows.l).length/\ρ 0=.ptr i []/\ρ 24=(catL a.Rows).cv X0a.cv/\ρ 25=I (flat a.Rows.l).length/\ρ 26=I k/\J<q.n/\i<q.n/\p.n<=q.n/\WSt i j l p J (l++rowsHead a++((flat a.Rows.l).take k).flatMap cellBits) q
def R166: Rel:=fun args p r=>∃(i j:Nat) (l:List Bool) (a:Q0a),args=[.ptr i [],a.cv]/\(p.t.get i=some (W1 j l))/\(W2 i j l p)/\(l.length<=700000)/\(rowsSm a)/\r=.ret (.tup []) (wHp i j l (l++rowsBits a) p)
theorem t166{T:XCall}(h:Has T 166 R166)(i j:Nat)(l:List Bool)(a:Q0a){p:Hp}(h1:p.t.get i=some (W1 j l))(h2:W2 i j l p)(h3:l.length<=700000)(h4:rowsSm a): T 166 [.ptr i [],a.cv] p=.ret (.tup []) (wHp i j l (l++rowsBits a) p):=h _ _ _ ⟨i,j,l,a,rfl,h1,h2,h3,h4,rfl⟩
theorem zdis166{P:Prop}(h:P:=by first|exact zdis|(exact zdw1)|(exact zdw)|(exact W2_nil _ _ _)|(refine W2_in ?_ ?_<;>exact zdw)|(simp only[Hp.bump_n,Hp.znew_n,Hp.zset_n,List.length_nil,List.length_cons,List.length_append,List.length_map,X0e,catL_l];(first|done|omega))|(simp (disch:=first|exact zd1|(simp only[Hp.bump_n,Hp.znew_n,Hp.zset_n,List.length_nil,List.length_cons,List.length_append,List.length_map,X0e,catL_l];(first|done|omega))) only[zheap,zx];(first|done|rfl))|fail): P:=h
theorem zq166{A B:Prop}(k:B)(h:A=B:=by have zy:=zA @zw166<|zA @rs166<|zA @tt3<|zA @tt4<|zA @tt25<|zA @tt36<|zA @tt92<|zA @tt94<|zA @tt108<|zA @tt110<|zA ti3.eq_1<|zA ti4.eq_1<|zA ti25.eq_1<|zA ti36.eq_1<|zA ti92.eq_1<|zA ti94.eq_1<|zA ti108.eq_1<|zA ti110.eq_1<|zA @t_89<|zA @t_191y<|zA @t_164<|zA @t_165<|zA @K0e<|zA @Y0f<|zA @Q0f<|zA @zsl92<|zA @zsl108<|zA @Y0t<|zA @wHp_i<|zA @wHp_eq<|zA @wHp_nj<|zA @wHp_n<|zA @catL_l<|zA @h1<|zA @h2<|zA @h3<|@h4;have zd:=@zdis166;exact zQd): A:=h▸k
theorem c166: Con C 166 R166:=by
 refine V0e C ?_ ?_ ?_
 ·rintro args p r r' ⟨i,j,l,a,h,h1,h2,h3,h4,e⟩ ⟨i',j',l',a',h',h1',h2',h3',h4',e'⟩
  subst e;subst e';(subst h;simp only[List.cons.injEq,CV.ptr.injEq,Q0a.inj_iff,and_true,true_and]at h';obtain⟨e1,e2⟩:=h';subst e1;subst e2;have hu:=Y1v h1 h2 h1' h2';rw[Q02 _ hu,hu.1])
 ·rintro args p r ⟨i,j,l,a,h,h1,h2,h3,h4,rfl⟩;exact zr1
 rintro args p r ⟨i,j,l,a,rfl,h1,h2,h3,h4,rfl⟩
 refine zW C false [(89,R89),(191,R191y),(164,R164),(165,R165)] ⟨c89,c191y,c164,c165,zT⟩ rfl xf166 zc166_ok fun call zh hF=>?_
 have t_89:=@t89 _ zh.1
 have t_191y:=@t191y _ zh.2.1
 have t_164:=@t164 _ zh.2.2.1
 have t_165:=@t165 _ zh.2.2.2.1
 clear zh
 have hd_h1:=hF.dom _ _ h1
 have hi:=hF.dom _ _ h1
 have hw:=hF.dom
 have hfl:=h4.flat
 have hr8:=h4.1
 have hrn:∀x∈a.Rows.l,x.l≠[]:=fun x hx=>(h4.2 x hx).1
 have hjn:l=[]\/j<p.n:=by
  rcases h2 with h|h
  ·exact .inl h
  ·exact .inr (hw _ _ h.2)
 have hS0:=WSt.new0 hw h1 h2 hi (.var sh94 a.cv)
 have hW0:=hS0.w
 have hbx:∀m,(wHp i j l m (p.new (.var sh94 a.cv))).t.get p.n=some (.var sh94 a.cv):=fun m=>by rw[wHp_ne (by omega) (hjn.imp id fun h=>by omega) (by rw[Hp.znew_n];omega),Hp.get_new_self]
 (have zx:=zA hbx (zA hrn h1);refine zq166 ?_;try exact zT)
 repeat'(apply zK.s<;>intro hc<;>(try simp only[zhd]at hc)<;>(try have hw:=K0a hc)<;>(refine zq166 ?_;try exact zT))
 all_goals(try clear zx)
 (show W C false noExt call (ZC.loop V1l) _ _ _);refine Y0g C false noExt call V1l _ _ _ (J166 i j l a p) (flat a.Rows.l).length ⟨0,p.n+1+1+1,rfl,by omega,by simp[put_at,X0c,K0f],zev,by simp[put_at,X0c,catL_l],zev,zdw1,zdw1,zdw1,?_⟩ ?_
 ·rw[List.take_zero,List.flatMap_nil,List.append_nil]
  simp only[rowsHead,<- List.append_assoc]
  exact WSt.step2 hw zdw1 (WSt.step2 (J':=p.n+1+1) hw zdw1 (WSt.step2 (J':=p.n+1) hw zdw1 hS0))
 rintro n ρ q ⟨k,J,rfl,hk,e0,e24,e25,e26,hJq,hiq,hpq,hS⟩
 have hlk:(((flat a.Rows.l).take k).flatMap cellBits).length<=1600:=by
  have:=Q01 ((flat a.Rows.l).take k)
  rw[List.length_take]at this;omega
 have hrh:=Z0q a
 by_cases hlt:(k:Int)<(flat a.Rows.l).length
 ·have hS1:=hS.newset hw hJq (.var sh110 X0a.zero.cv) (.var sh110 (nth (flat a.Rows.l) k).cv)
  have g2:=hS1.g
  have hW:=hS1.w
  generalize hcc:nth (flat a.Rows.l) k=c at hS1 g2 hW
  have hft:=Q0n cellBits (flat a.Rows.l) (k:=k) (by omega)
  rw[hcc]at hft
  cases hr:c.Real with
  |true=>
   have hcb:cellBits c=bitsOf (flagI true) 1++inBits c.In:=by simp[cellBits,hr]
   (have zx:=zA e0 (zA e24 (zA e25 (zA e26 (zA hlt (zA g2 (zA hcc (zA hr h1)))))));refine zq166 ?_;try exact zT)
   repeat'(apply zK.s<;>intro hc<;>(try simp only[zhd]at hc)<;>(try have hw:=K0a hc)<;>(refine zq166 ?_;try exact zT))
   all_goals(try clear zx)
   refine⟨(flat a.Rows.l).length-(k+1),by omega,k+1,q.n+1+1,rfl,by omega,zev,zev,zev,zev,zdw1,zdw1,zdw1,?_⟩
   rw[hft,hcb,<- List.append_assoc,<- List.append_assoc]
   exact WSt.step2 hw zdw1 (WSt.step2 (J':=q.n+1) hw zdw1 hS1)
  |false=>
   have hcb:cellBits c=bitsOf (flagI false) 1:=by simp[cellBits,hr]
   (have zx:=zA e0 (zA e24 (zA e25 (zA e26 (zA hlt (zA g2 (zA hcc (zA hr h1)))))));refine zq166 ?_;try exact zT)
   repeat'(apply zK.s<;>intro hc<;>(try simp only[zhd]at hc)<;>(try have hw:=K0a hc)<;>(refine zq166 ?_;try exact zT))
   all_goals(try clear zx)
   refine⟨(flat a.Rows.l).length-(k+1),by omega,k+1,q.n+1,rfl,by omega,zev,zev,zev,zev,zdw1,zdw1,zdw1,?_⟩
   rw[hft,hcb,<- List.append_assoc]
   exact WSt.step2 hw zdw1 hS1
 ·have hkk:k=(flat a.Rows.l).length:=by omega
  rw[hkk,List.take_length]at hS
  (have zx:=zA e0 (zA e24 (zA e25 (zA e26 (zA hlt h1))));refine zq166 ?_;try exact zT)
  repeat'(apply zK.s<;>intro hc<;>(try simp only[zhd]at hc)<;>(try have hw:=K0a hc)<;>(refine zq166 ?_;try exact zT))
  all_goals(try clear zx)
  have hbb:l++rowsHead a++(flat a.Rows.l).flatMap cellBits=l++rowsBits a:=by simp only[rowsBits,List.append_assoc]
  rw[hbb]at hS
  exact hS.fin hF h1 h2 (fun e=>by have:=congrArg List.length e;simp only[rowsBits,List.length_append,List.length_nil]at this;omega) (Q0l _ _)
def packSm(a:Q0a): Prop:=a.Inputs.l.length<=1000/\rowsSm a
noncomputable def q108(a:Q0a)(p:Hp): Hp:=(p.new (.var sh94 a.cv)).new (W1 0 [])
theorem q108_n(a:Q0a)(p:Hp): (q108 a p).n=p.n+1+1:=rfl
theorem q108_dom{a:Q0a}{p:Hp}(h:∀k o,p.t.get k=some o->k<p.n): ∀k o,(q108 a p).t.get k=some o->k<(q108 a p).n:=fun k o hk=>by
 rw[q108_n]
 by_cases h1:k=p.n+1
 ·omega
 ·by_cases h2:k=p.n
  ·omega
  ·rw[q108,Hp.get_new_ne _ _ (by rw[Hp.znew_n];omega),Hp.get_new_ne _ _ h2]at hk
   have:=h _ _ hk
   omega
theorem q108_le{a:Q0a}{p:Hp}(h:∀k o,p.t.get k=some o->k<p.n): HpLe p (q108 a p):=fun k o hk=>by
 have:=h _ _ hk
 rw[q108,Hp.get_new_ne _ _ (by rw[Hp.znew_n];omega),Hp.get_new_ne _ _ (by omega)];exact hk
def K108(a:Q0a)(p:Hp)(ρ:Env)(q:Hp): Prop:=
 ρ 3=.ptr (p.n+1) []/\∃J,WSt (p.n+1) 0 [] (q108 a p) J (packBits a) q
def J108(a:Q0a)(p:Hp)(n:Nat)(ρ:Env)(q:Hp): Prop:=
 ∃k J:Nat,n=a.Inputs.l.length-k/\k<=a.Inputs.l.length/\ρ 3=.ptr (p.n+1) []/\ρ 56=a.Inputs.cv Y0a.cv/\ρ 57=I a.Inputs.l.length/\ρ 58=I k/\J<q.n/\WSt (p.n+1) 0 [] (q108 a p) J (packHead a++inputsHead a++(a.Inputs.l.take k).flatMap inBits) q
theorem X0x(a:Q0a): packBits a≠[]:=fun e=>by
 have:=congrArg List.length e
 rw[packBits,List.length_append,V0i,List.length_nil]at this
 omega
theorem ins_len(l:List Y0a): (l.flatMap inBits).length=24*l.length:=Q2f inBits 24 l fun x _=>K0q x
theorem Q0q{a:Q0a}(h:packSm a): (packBits a).length<=100000:=by
 have h1:=h.1
 have h2:=h.2.flat
 have h3:=Q01 (flat a.Rows.l)
 unfold packBits
 rw[List.length_append,V0i]
 split
 ·rw[List.length_append,V0n,ins_len];omega
 ·split
  ·rw[rowsBits,List.length_append,Z0q];omega
  ·split
   ·simp[X0e]
   ·simp
def R108: Rel:=fun args p r=>∃(a:Q0a),args=[a.cv]/\(packSm a)/\r=.ret (Lst.cv Y8 (partB (packB (packBits a)))) p
theorem t108{T:XCall}(h:Has T 108 R108)(a:Q0a){p:Hp}(h1:packSm a): T 108 [a.cv] p=.ret (Lst.cv Y8 (partB (packB (packBits a)))) p:=h _ _ _ ⟨a,rfl,h1,rfl⟩
theorem zdis108{P:Prop}(h:P:=by first|exact zdis|(exact zdw1)|(exact zdw)|(exact W2_nil _ _ _)|(refine W2_in ?_ ?_<;>exact zdw)|(simp only[Hp.bump_n,Hp.znew_n,Hp.zset_n,List.length_nil,List.length_cons,List.length_append,List.length_map,X0e];(first|done|omega))|(simp (disch:=first|exact zd1|(simp only[Hp.bump_n,Hp.znew_n,Hp.zset_n,List.length_nil,List.length_cons,List.length_append,List.length_map,X0e];(first|done|omega))) only[zheap,zx];(first|done|rfl))|fail): P:=h
theorem zq108{A B:Prop}(k:B)(h:A=B:=by have zy:=zA @zw108<|zA @rs108<|zA @tt3<|zA @tt4<|zA @tt25<|zA @tt36<|zA @tt91<|zA @tt94<|zA ti3.eq_1<|zA ti4.eq_1<|zA ti25.eq_1<|zA ti36.eq_1<|zA ti91.eq_1<|zA ti94.eq_1<|zA @t_88<|zA @t_89<|zA @t_91<|zA @t_164<|zA @t_165<|zA @t_166<|zA @K0e<|zA @Q0f<|zA @zsl91<|zA @Y0t<|zA @wHp_i<|zA @wHp_eq<|zA @wHp_n0<|zA @wHp_nj<|zA @wHp_n<|@h1;have zd:=@zdis108;exact zQd): A:=h▸k
theorem c108: Con C 108 R108:=by
 refine V0e C ?_ ?_ ?_
 ·rintro args p r r' ⟨a,h,h1,e⟩ ⟨a',h',h1',e'⟩
  subst e;subst e';simp_all[Q0a.inj_iff,Y0a.inj_iff,Y0k]
 ·rintro args p r ⟨a,h,h1,rfl⟩;exact zr1
 rintro args p r ⟨a,rfl,h1,rfl⟩
 refine zW C false [(88,R88),(89,R89),(91,R91),(164,R164),(165,R165),(166,R166)] ⟨c88,c89,c91,c164,c165,c166,zT⟩ rfl xf108 zc108_ok fun call zh hF=>?_
 have t_88:=@t88 _ zh.1
 have t_89:=@t89 _ zh.2.1
 have t_91:=@t91 _ zh.2.2.1
 have t_164:=@t164 _ zh.2.2.2.1
 have t_165:=@t165 _ zh.2.2.2.2.1
 have t_166:=@t166 _ zh.2.2.2.2.2.1
 clear zh
 have hI:=h1.1
 have hR:=h1.2
 have hpl:=Q0q h1
 have hpn:=X0x a
 have hw:=hF.dom
 have hqd:=q108_dom (a:=a) hw
 have main:∀ρ q,K108 a p ρ q->W C false noExt call (ZC.seq V1d ZC.ret) ρ q (endQ C (xfOf Try.f108).rs fun r'=>ShrR p r' (.ret (Lst.cv Y8 (partB (packB (packBits a)))) p)):=by
  rintro ρ q ⟨e3,J,hS⟩
  have g1:=hS.g
  have g2:=hS.w
  have hJ:(q108 a p).n<=J:=by
   rcases hS.hJ with h|h
   ·exact absurd h.1 hpn
   ·exact h.1
  rw[q108_n]at hJ
  (have zx:=zA e3 (zA g1 g2);refine zq108 ?_;try exact zT)
  repeat'(apply zK.s<;>intro hc<;>(try simp only[zhd]at hc)<;>(try have hw:=K0a hc)<;>(refine zq108 ?_;try exact zT))
  all_goals(try clear zx)
  exact V0c hF (fun k o h=>by have hd:=hw k o h;rw[Hp.get_set_ne _ _ _ (by omega)];exact hS.hle k o (by omega) (.inl rfl) (q108_le hw k o h)) (V0d (K0c (by intro jj;simp[CV.has,CV.hasL,Lst.cv,partB,Z0h Y0l])))
 have hS0:WSt (p.n+1) 0 [] (q108 a p) 0 [] (q108 a p):=WSt.start (by rw[q108];exact Hp.get_new_self _ _) (W2_nil _ _ _) (by rw[q108_n];omega)
 show W C false noExt call (ZC.seq zn108_1 (ZC.seq zn108_3 (ZC.seq zn108_5 (ZC.seq zn108_7 (ZC.seq zn108_9 (ZC.seq X2n (ZC.seq Y2f (ZC.seq Z2i (ZC.seq (ZC.seq Y2k (ZC.block 0 (ZC.seq Z2j (ZC.cond (Tm 37) (ZC.seq Y2h (ZC.seq Y2g (ZC.seq Z2b (ZC.seq K2j (ZC.block 1 (ZC.loop Q09)))))) (ZC.seq K2g (ZC.cond (Tm 66) K2l (ZC.seq Y2c (ZC.cond (Tm 71) (ZC.seq Q2k Z2g) ZC.skip)))))))) (ZC.seq V1d ZC.ret)))))))))) _ _ _
 obtain⟨R,hRR⟩:∃R,R=(ZC.seq V1d ZC.ret):=⟨_,rfl⟩
 rw[<- hRR]at main ⊢
 by_cases h2:a.Kind=2
 ·(have zx:=h2;refine zq108 ?_;try exact zT)
  repeat'(apply zK.s<;>intro hc<;>(try simp only[zhd]at hc)<;>(try have hw:=K0a hc)<;>(refine zq108 ?_;try exact zT))
  all_goals(try clear zx)
  (show W C false noExt call (ZC.loop Q09) _ _ _);refine Y0g C false noExt call Q09 _ _ _ (J108 a p) a.Inputs.l.length ⟨0,p.n+1+1+1+1+1+1+1+1+1+1,rfl,by omega,zev,zev,zev,zev,zdw1,?_⟩ ?_
  ·rw[List.take_zero,List.flatMap_nil,List.append_nil]
   simp only[packHead,inputsHead,h2,<- List.append_assoc]
   iterate 9 refine WSt.step2 hqd zdw1 ?_
   exact hS0
  rintro n ρ q ⟨k,J,rfl,hk,e3,e56,e57,e58,hJq,hS⟩
  have hpb:packBits a=packHead a++inputsHead a++a.Inputs.l.flatMap inBits:=by rw[packBits,if_pos h2,List.append_assoc]
  have hlk:((a.Inputs.l.take k).flatMap inBits).length<=24000:=by rw[ins_len,List.length_take];omega
  have hhl:=V0i a
  have hil:=V0n a
  have hn:=hS.hn
  rw[q108_n]at hn
  by_cases hlt:(k:Int)<a.Inputs.l.length
  ·have hS1:=hS.newset hqd hJq (.var sh36 Y0a.zero.cv) (.var sh36 (nth a.Inputs.l k).cv)
   have g1:=hS1.g
   have g2:=hS1.w
   generalize hcc:nth a.Inputs.l k=c at hS1 g1 g2
   have hft:=Q0n inBits a.Inputs.l (k:=k) (by omega)
   rw[hcc]at hft
   (have zx:=zA e3 (zA e56 (zA e57 (zA e58 (zA hlt (zA g1 (zA g2 hcc))))));refine zq108 ?_;try exact zT)
   repeat'(apply zK.s<;>intro hc<;>(try simp only[zhd]at hc)<;>(try have hw:=K0a hc)<;>(refine zq108 ?_;try exact zT))
   all_goals(try clear zx)
   refine⟨a.Inputs.l.length-(k+1),by omega,k+1,q.n+1,rfl,by omega,zev,zev,zev,zev,zdw1,?_⟩
   rw[hft,<- List.append_assoc]
   exact WSt.step2 hqd zdw1 hS1
  ·have hkk:k=a.Inputs.l.length:=by omega
   rw[hkk,List.take_length,<- hpb]at hS
   (have zx:=zA e3 (zA e56 (zA e57 (zA e58 hlt)));refine zq108 ?_;try exact zT)
   repeat'(apply zK.s<;>intro hc<;>(try simp only[zhd]at hc)<;>(try have hw:=K0a hc)<;>(refine zq108 ?_;try exact zT))
   all_goals(try clear zx)
   exact main _ _ ⟨zev,J,hS⟩
 ·by_cases h3:a.Kind=3
  ·have hpb:packBits a=packHead a++rowsBits a:=by rw[packBits,if_neg h2,if_pos h3]
   (have zx:=zA h2 h3;refine zq108 ?_;try exact zT)
   repeat'(apply zK.s<;>intro hc<;>(try simp only[zhd]at hc)<;>(try have hw:=K0a hc)<;>(refine zq108 ?_;try exact zT))
   all_goals(try clear zx)
   refine main _ _ ⟨zev,p.n+1+1+1+1+1+1+1+1,?_⟩
   rw[hpb]
   simp only[packHead,h3,<- List.append_assoc]
   iterate 7 refine WSt.step2 hqd zdw1 ?_
   exact hS0
  ·by_cases h4:a.Kind=4
   ·have hpb:packBits a=packHead a++(bitsOf a.Frame 10++bitsOf a.Mark 62):=by rw[packBits,if_neg h2,if_neg h3,if_pos h4]
    (have zx:=zA h2 (zA h3 h4);refine zq108 ?_;try exact zT)
    repeat'(apply zK.s<;>intro hc<;>(try simp only[zhd]at hc)<;>(try have hw:=K0a hc)<;>(refine zq108 ?_;try exact zT))
    all_goals(try clear zx)
    refine main _ _ ⟨zev,p.n+1+1+1+1+1+1+1+1+1,?_⟩
    rw[hpb]
    simp only[packHead,h4,<- List.append_assoc]
    iterate 8 refine WSt.step2 hqd zdw1 ?_
    exact hS0
   ·have hpb:packBits a=packHead a:=by rw[packBits,if_neg h2,if_neg h3,if_neg h4,List.append_nil]
    (have zx:=zA h2 (zA h3 h4);refine zq108 ?_;try exact zT)
    repeat'(apply zK.s<;>intro hc<;>(try simp only[zhd]at hc)<;>(try have hw:=K0a hc)<;>(refine zq108 ?_;try exact zT))
    all_goals(try clear zx)
    refine main _ _ ⟨zev,p.n+1+1+1+1+1+1+1,?_⟩
    rw[hpb]
    simp only[packHead,<- List.append_assoc]
    iterate 6 refine WSt.step2 hqd zdw1 ?_
    exact hS0
end Go.Proofs.Ytpchcfkebljopaa
end
section
namespace Go.Proofs.Ytpchcfkebljopaa
open Go.Cl Go Go.RowKit
def four(n:Int): List Int:=[n/16777216 % 256,n/65536 % 256,n/256 % 256,n % 256]
def closeB(key:Int)(l:List Int): List Int:=l++four (sumB key l)
def layP(key:Int)(a:Q0a): List Int:=closeB key (packB (packBits a))
def slotB(l:List Int): Int:=if l=[]then 0 else nth l 0/4 % 8
theorem K0k{a:Q0a}(h:packRight a=true): headRight a=true/\sameP (ownP a) a=true/\within a.Got 0 600=true/\within a.First 0 600=true/\within a.Frame 0 600=true/\within a.Mark 0 4611686018427387903=true:=by
 simp only[packRight,Bool.and_eq_true]at h
 exact⟨h.1.1.1.1.1.1,h.1.1.1.1.1.2,h.1.1.1.1.2,h.1.1.1.2,h.1.1.2,h.1.2⟩
theorem X01{a b:Q0a}(h:sameP a b=true): a.Kind=b.Kind/\a.Slot=b.Slot/\a.Seq=b.Seq/\a.Last=b.Last/\a.Any=b.Any/\a.Acks=b.Acks/\a.Got=b.Got/\a.First=b.First/\a.Inputs.l=b.Inputs.l/\a.Players=b.Players/\rowsL a.Rows=rowsL b.Rows/\a.Frame=b.Frame/\a.Mark=b.Mark:=by
 simp only[sameP,Bool.and_eq_true,decide_eq_true_eq]at h
 obtain⟨⟨⟨⟨⟨⟨⟨⟨⟨⟨⟨⟨h1,h2⟩,h3⟩,h4⟩,h5⟩,h6⟩,h7⟩,h8⟩,h9⟩,h10⟩,h11⟩,h12⟩,h13⟩:=h
 exact⟨h1,h2,h3,h4,h5,h6,h7,h8,h9,h10,h11,h12,h13⟩
theorem rowsL_nil{r:Lst (Lst X0a)}(h:rowsL r=[]): r.l=[]:=by
 have:=congrArg List.length h
 rw[rowsL,List.length_map]at this
 exact List.length_eq_zero_iff.1 this
theorem Y1g{a:Q0a}(h:packRight a=true)(h3:¬a.Kind=3): a.Rows.l=[]/\a.Players=0:=by
 obtain⟨_,hs,_⟩:=K0k h
 obtain⟨_,_,_,_,_,_,_,_,_,hp,hr,_⟩:=X01 hs
 have e:(ownP a).Rows=Q0a.zero.Rows/\(ownP a).Players=0:=by
  simp only[ownP,if_neg h3]
  split
  ·exact⟨rfl,rfl⟩
  ·split<;>exact⟨rfl,rfl⟩
 rw[e.1]at hr
 rw[e.2]at hp
 exact⟨rowsL_nil hr.symm,hp.symm⟩
theorem right_ins{a:Q0a}(h:packRight a=true)(h2:¬a.Kind=2): a.Inputs.l=[]/\a.Got=0:=by
 obtain⟨_,hs,_⟩:=K0k h
 obtain⟨_,_,_,_,_,_,hg,_,hi,_⟩:=X01 hs
 have e:(ownP a).Inputs=Q0a.zero.Inputs/\(ownP a).Got=0:=by
  simp only[ownP,if_neg h2]
  split
  ·exact⟨rfl,rfl⟩
  ·split<;>exact⟨rfl,rfl⟩
 rw[e.1]at hi
 rw[e.2]at hg
 exact⟨hi.symm,hg.symm⟩
theorem right_first{a:Q0a}(h:packRight a=true)(h2:¬a.Kind=2)(h3:¬a.Kind=3): a.First=0:=by
 obtain⟨_,hs,_⟩:=K0k h
 obtain⟨_,_,_,_,_,_,_,hg,_⟩:=X01 hs
 have e:(ownP a).First=0:=by
  simp only[ownP,if_neg h2,if_neg h3]
  split<;>rfl
 rw[e]at hg
 exact hg.symm
theorem V07{a:Q0a}(h:packRight a=true)(h4:¬a.Kind=4): a.Frame=0/\a.Mark=0:=by
 obtain⟨_,hs,_⟩:=K0k h
 obtain⟨_,_,_,_,_,_,_,_,_,_,_,hf,hm⟩:=X01 hs
 have e:(ownP a).Frame=0/\(ownP a).Mark=0:=by
  simp only[ownP,if_neg h4]
  split
  ·exact⟨rfl,rfl⟩
  ·split<;>exact⟨rfl,rfl⟩
 rw[e.1]at hf
 rw[e.2]at hm
 exact⟨hf.symm,hm.symm⟩
theorem X2i{a:Q0a}(h:packRight a=true)(h2:a.Kind=2): a.Inputs.l.length<=16/\a.Inputs.l.all inRight=true:=by
 simp only[packRight,Bool.and_eq_true,h2,if_true,decide_eq_true_eq]at h
 exact h.2
theorem X2m{a:Q0a}(h:packRight a=true)(h3:a.Kind=3): rowsRight a.Rows.l a.Players=true:=by
 simp only[packRight,Bool.and_eq_true,h3]at h
 exact h.2
theorem Z0t{l:List (Lst X0a)}{n:Int}(h:rowsRight l n=true): l.length<=8/\(1<=n/\n<=8)/\∀x∈l,(x.l.length:Int)=n/\x.l.all cellRight=true:=by
 simp only[rowsRight,Bool.and_eq_true,decide_eq_true_eq,within,List.all_eq_true,rowRight]at h
 exact⟨h.1.2,h.2,fun x hx=>⟨(h.1.1 x hx).1,List.all_eq_true.2 (h.1.1 x hx).2⟩⟩
end Go.Proofs.Ytpchcfkebljopaa
end
section
namespace Go.Proofs.Ytpchcfkebljopaa
open Go.Cl Go Go.RowKit
set_option maxRecDepth 100000
set_option linter.constructorNameAsVariable false
theorem shr_own68{args:List CV}{p q:Hp}{J:Nat}{l:List Int}(hF:Fine args p)(hle:HpLe p q)(hJ:p.n<=J)(hT:q.t.get J=some (.tail l.length)): ShrR p (.ret (Lst.cv Y8 ⟨.own J,l,nofun⟩) q) (.ret (Lst.cv Y8 ⟨.own p.n,l,nofun⟩) (p.new (.tail l.length))):=
 Y0y hF (q0:=p) (J:=J) rfl (fun k o h=>⟨hF.dom k o h,by have:=hF.dom k o h;omega,.inl ⟨h,hle k o h⟩⟩) ⟨_,hT,rfl⟩ (by
  simp only[Lst.cv,CV.weak]
  exact⟨by simp[Tail.weak,ren],CV.weakL_refl _ fun j hj=>(Z0h (f:=Y8) (fun x j=>Y0l x j) l j hj).elim⟩)
def R159o: Rel:=fun args p r=>∃(s:Lst Int),args=[s.cv Y8]/\(s.l≠[])/\(s.tl≠.view)/\(s.l.length<=1000000)/\r=.ret (Lst.cv Y8 ⟨.own p.n,s.l,nofun⟩) (p.new (.tail s.l.length))
theorem t159o{T:XCall}(h:Has T 159 R159o)(s:Lst Int){p:Hp}(h0:s.l≠[])(h1:s.tl≠.view)(h2:s.l.length<=1000000): T 159 [s.cv Y8] p=.ret (Lst.cv Y8 ⟨.own p.n,s.l,nofun⟩) (p.new (.tail s.l.length)):=h _ _ _ ⟨s,rfl,h0,h1,h2,rfl⟩
theorem zq159o{A B:Prop}(k:B)(h:A=B:=by have zy:=zA @zw159<|zA @rs159<|zA @tt68<|zA ti68.eq_1<|zA @zsl68<|zA @h0<|zA @h1<|@h2;exact zQ): A:=h▸k
theorem c159o: Con C 159 R159o:=by
 refine V0e C ?_ ?_ ?_
 ·rintro args p r r' ⟨s,h,h0,h1,h2,e⟩ ⟨s',h',h0',h1',h2',e'⟩
  subst e;subst e';simp_all[X0f]
 ·rintro args p r ⟨s,h,h0,h1,h2,rfl⟩;exact zr1
 rintro args p r ⟨s,rfl,h0,h1,h2,rfl⟩
 refine zW C false [] zT rfl xf159 zc159_ok fun call zh hF=>?_
 clear zh
 obtain⟨tl,l,o⟩:=s
 simp only at h0 h2 h1
 cases tl with
 |view=>exact absurd rfl h1
 |nil=>exact absurd (o rfl) h0
 |_=>
  cases l with
  |nil=>exact absurd rfl h0
  |cons x l=>
   simp only[List.length_cons]at h2
   (have zx:=zT;refine zq159o ?_;try exact zT)
   repeat'(apply zK.s<;>intro hc<;>(try simp only[zhd]at hc)<;>(try have hw:=K0a hc)<;>(refine zq159o ?_;try exact zT))
   all_goals(try clear zx)
   rw[Nat.zero_add]
   exact shr_own68 hF zle (Nat.le_refl _) (Hp.get_new_self _ _)
theorem u8_shr(S:Int)(k:Nat)(hk:k<=64): IntKind.u8.wrap (S.fdiv (2^min k IntKind.i64.bits))=S/2^k % 256:=by
 rw[show min k IntKind.i64.bits=k from Nat.min_eq_left hk,Int.fdiv_eq_ediv_of_nonneg _ (Int.le_of_lt (Int.pow_pos (by omega)))]
 rfl
theorem four_e(S:Int): [IntKind.u8.wrap (S.fdiv (2^min 24 IntKind.i64.bits)),IntKind.u8.wrap (S.fdiv (2^min 16 IntKind.i64.bits)),IntKind.u8.wrap (S.fdiv (2^min 8 IntKind.i64.bits)),IntKind.u8.wrap S]=four S:=by
 rw[u8_shr _ _ (by omega),u8_shr _ _ (by omega),u8_shr _ _ (by omega)]
 rfl
theorem Y02{α:Type}{f:α->CV}(hf:∀x j,¬(f x).has j)(J:Nat)(l:List α)(k:Nat): CV.weak (fun k=>k) k (Lst.cv f ⟨.own J,l,nofun⟩) (Lst.cv f ⟨.part,l,nofun⟩):=by
 simp only[Lst.cv,CV.weak,Tail.weak,true_and]
 exact CV.weakL_refl _ fun j hj=>(Z0h hf l j hj).elim
def R107: Rel:=fun args p r=>∃(key:Int) (s:Lst Int),args=[I key,s.cv Y8]/\(-9223372036854775808<=key/\key<=9223372036854775807)/\(s.l≠[])/\(s.tl≠.view)/\(s.l.length<=1000000)/\(∀x∈s.l,0<=x/\x<=255)/\r=.ret (Lst.cv Y8 (partB (closeB key s.l))) p
theorem t107{T:XCall}(h:Has T 107 R107)(key:Int)(s:Lst Int){p:Hp}(hk:-9223372036854775808<=key/\key<=9223372036854775807)(h0:s.l≠[])(h1:s.tl≠.view)(h2:s.l.length<=1000000)(h5:∀x∈s.l,0<=x/\x<=255): T 107 [I key,s.cv Y8] p=.ret (Lst.cv Y8 (partB (closeB key s.l))) p:=h _ _ _ ⟨key,s,rfl,hk,h0,h1,h2,h5,rfl⟩
theorem zq107{A B:Prop}(k:B)(h:A=B:=by have zy:=zA @zw107<|zA @rs107<|zA @tt3<|zA @tt5<|zA @tt68<|zA @tt178<|zA ti3.eq_1<|zA ti5.eq_1<|zA ti68.eq_1<|zA ti178.eq_1<|zA @t_159o<|zA @t_163<|zA @zsl68<|zA @hk<|zA @h0<|zA @h1<|zA @h2<|@h5;exact zQ): A:=h▸k
theorem c107: Con C 107 R107:=by
 refine V0e C ?_ ?_ ?_
 ·rintro args p r r' ⟨key,s,h,hk,h0,h1,h2,h5,e⟩ ⟨key',s',h',hk',h0',h1',h2',h5',e'⟩
  subst e;subst e';simp_all[X0f,X0f]
 ·rintro args p r ⟨key,s,h,hk,h0,h1,h2,h5,rfl⟩;exact zr1
 rintro args p r ⟨key,s,rfl,hk,h0,h1,h2,h5,rfl⟩
 refine zW C false [(159,R159o),(163,R163)] ⟨c159o,c163,zT⟩ rfl xf107 zc107_ok fun call zh hF=>?_
 have t_159o:=@t159o _ zh.1
 have t_163:=@t163 _ zh.2.1
 clear zh
 have hr:=Q0w key s.l
 generalize hS:sumB key s.l=S at hr
 have hl0:0<s.l.length:=List.length_pos_iff.2 h0
 (have zx:=hS;refine zq107 ?_;try exact zT)
 repeat'(apply zK.s<;>intro hc<;>(try simp only[zhd]at hc)<;>(try have hw:=K0a hc)<;>(refine zq107 ?_;try exact zT))
 all_goals(try clear zx)
 ·rw[four_e]
  have hcl:s.l++four S=closeB key s.l:=by rw[closeB,hS]
  simp only[hcl]
  exact V0c hF (fun k o h=>by have hd:=hF.dom k o h;simp (disch:=first|exact zdl|fail) only[zheap];exact h) (Y02 Y0l _ _ _)
end Go.Proofs.Ytpchcfkebljopaa
end
section
namespace Go.Proofs.Ytpchcfkebljopaa
open Go.Cl Go Go.RowKit
set_option maxRecDepth 100000
def zn45_1:=ZC.reg [zu 1 (.box 90 (Tm 0)),zv 2 (.alloc 94)]
def zn45_3:=ZC.draw 15 [(13,.alloc 94)] [zdd 0 6 (zfa 90 1 0) false [] [] false,zdd 1 7 (zld 3 6) false [] [] false,zdd 2 8 (zcf 37 [Tm 7,Kn 6] [3,3]) false [] [] true,zdd 3 9 (.binOp .add 3 (Kn 1) (Tm 8) 3) false [] [] false,zdd 4 10 (zfa 90 1 1) false [2] [] false,zdd 5 11 (zld 3 10) false [2] [] false,zdd 6 12 (zcf 37 [Tm 11,Kn 8] [3,3]) false [] [] true,zdd 7 13 (zfa 90 1 2) false [2,6] [] false,zdd 8 14 (zld 3 13) false [2,6] [] false,zdd 9 15 (zcf 37 [Tm 14,Kn 65536] [3,3]) false [] [] true,zdd 10 16 (zfa 90 1 10) false [2,6,9] [] false,zdd 11 17 (zld 4 16) false [2,6,9] [] false,⟨12,some 18,.build 94 ⟨[(0,.tmp 9),(1,.tmp 12),(2,.tmp 15),(4,.tmp 17)]⟩,none,false,[],[],false⟩,zdd 13 3 (.alloc 94) true [2,6,9] [] false,zd0 14 (.store 94 (Tm 3) (Tm 18)) true [] [] false]
def zn45_6:=ZC.reg [zu 19 (zfa 90 1 10),zv 20 (zld 4 19)]
def zn45_9:=ZC.reg [zu 21 (zfa 90 1 3),zu 22 (zld 3 21),zu 23 (zcf 37 [Tm 22,Kn 65536] [3,3]),zu 24 (zfa 94 3 3),zv0 (.store 3 (Tm 24) (Tm 23))]
def zn45_10:=ZC.reg [zu 25 (zfa 90 1 11),zu 26 (zld 25 25),zu 27 (zfa 94 3 5),zv0 (.store 25 (Tm 27) (Tm 26))]
def Y1w:=ZC.reg [zu 28 (zfa 94 3 0),zv 29 (zld 3 28)]
def Q1x:=ZC.reg [zu 31 (.binOp .eql 3 (Tm 29) (Kn 2) 3),zv 30 (zas 31)]
def V12:=ZC.reg [zu 32 (zfa 90 1 4),zu 33 (zld 3 32),zu 34 (zcf 37 [Tm 33,Kn 40] [3,3]),zu 35 (zfa 94 3 6),zv0 (.store 3 (Tm 35) (Tm 34))]
def V1q:=ZC.reg [zu 36 (zfa 90 1 5),zu 37 (zld 3 36),zu 38 (zcf 37 [Tm 37,Kn 40] [3,3]),zu 39 (zfa 94 3 7),zv0 (.store 3 (Tm 39) (Tm 38))]
def X1w:=ZC.reg [zv 4 (.assign (Kn 0))]
def zn45_28:=ZC.reg [zu 40 (zmv 4),zu 41 (zfa 90 1 12),zu 42 (zld 24 41),zu 43 (zcb .len [Tm 42] [24]),zu 44 (.binOp .lss 3 (Tm 40) (Tm 43) 3),zu 45 (zmv 44),zug 46 (zmv 4) 45 true false,zug 47 (.binOp .lss 3 (Tm 46) (Kn 16) 3) 45 true false,zv 48 (.pick (Tm 45) (Tm 47) (.const (.bool false)))]
def zn45_32:=ZC.draw 18 [] [zdd 0 51 (zfa 94 3 8) false [] [13] false,zdd 1 52 (zld 91 51) false [] [13] false,zdd 2 53 (zfa 90 1 12) false [] [] false,zdd 3 54 (zld 24 53) false [] [] false,zdd 4 55 (zmv 4) false [] [] false,zdd 5 56 (zia 24 54 55) false [] [] false,zdd 6 57 (zld 3 56) false [] [] false,zdd 7 58 (zfa 90 1 12) false [] [] false,zdd 8 59 (zld 24 58) false [] [] false,zdd 9 60 (zmv 4) true [] [] false,zdd 10 61 (zia 24 59 60) true [] [] false,zdd 11 62 (zld 3 61) true [] [] false,zdd 12 63 (.binOp .quo 3 (Tm 62) (Kn 3) 3) true [] [] false,zdd 13 64 (zcf 69 [Tm 57,Tm 63] [3,3]) true [] [] false,⟨14,some 65,.buildSlice 91 1 ⟨[(0,.tmp 64)]⟩,none,true,[],[],false⟩,zdd 15 66 (zcb .append [Tm 52,Tm 65] [91,91]) true [] [] false,zdd 16 67 (zfa 94 3 8) true [] [] false,zd0 17 (.store 91 (Tm 67) (Tm 66)) true [] [] false]
def zn45_33:=ZC.reg [zu 49 (zmv 4),zu 50 (.binOp .add 3 (Tm 49) (Kn 1) 3),zv 4 (zas 50)]
def V04:=ZC.seq (ZC.seq zn45_28 (ZC.cond (Tm 48) ZC.skip (ZC.exit 1))) (ZC.seq (ZC.block 2 zn45_32) zn45_33)
def K1u:=ZC.reg [zu 69 (.binOp .eql 3 (Tm 29) (Kn 3) 3),zv 68 (zas 69)]
def V1z:=ZC.reg [zu 70 (zfa 90 1 8),zu 71 (zld 3 70),zu 72 (zcf 37 [Tm 71,Kn 8] [3,3]),zu 73 (.binOp .add 3 (Kn 1) (Tm 72) 3),zu 74 (zfa 94 3 9),zv0 (.store 3 (Tm 74) (Tm 73))]
def Q1t:=ZC.reg [zu 75 (zfa 90 1 5),zu 76 (zld 3 75),zu 77 (zcf 37 [Tm 76,Kn 40] [3,3]),zu 78 (zfa 94 3 7),zv0 (.store 3 (Tm 78) (Tm 77))]
def Z1x:=ZC.reg [zv 5 (.assign (Kn 0))]
def zn45_47:=ZC.reg [zu 79 (zmv 5),zu 80 (zfa 90 1 13),zu 81 (zld 58 80),zu 82 (zcb .len [Tm 81] [58]),zu 83 (.binOp .lss 3 (Tm 79) (Tm 82) 3),zu 84 (zmv 83),zug 85 (zmv 5) 84 true false,zug 86 (.binOp .lss 3 (Tm 85) (Kn 8) 3) 84 true false,zv 87 (.pick (Tm 84) (Tm 86) (.const (.bool false)))]
def zn45_51:=ZC.draw 14 [] [zdd 0 90 (zfa 94 3 10) false [] [9] false,zdd 1 91 (zld 92 90) false [] [9] false,zdd 2 92 (zfa 94 3 9) false [] [] false,zdd 3 93 (zld 3 92) false [] [] false,zdd 4 94 (zfa 90 1 13) false [] [] false,zdd 5 95 (zld 58 94) false [] [] false,zdd 6 96 (zmv 5) true [] [] false,zdd 7 97 (zia 58 95 96) true [] [] false,zdd 8 98 (zld 24 97) true [] [] false,zdd 9 99 (zcf 65 [Tm 93,Tm 98] [3,24]) true [] [] false,⟨10,some 100,.buildSlice 92 1 ⟨[(0,.tmp 99)]⟩,none,true,[],[],false⟩,zdd 11 101 (zcb .append [Tm 91,Tm 100] [92,92]) true [] [] false,zdd 12 102 (zfa 94 3 10) true [] [] false,zd0 13 (.store 92 (Tm 102) (Tm 101)) true [] [] false]
def zn45_52:=ZC.reg [zu 88 (zmv 5),zu 89 (.binOp .add 3 (Tm 88) (Kn 1) 3),zv 5 (zas 89)]
def X07:=ZC.seq (ZC.seq zn45_47 (ZC.cond (Tm 87) ZC.skip (ZC.exit 3))) (ZC.seq (ZC.block 4 zn45_51) zn45_52)
def V1p:=ZC.reg [zu 104 (.binOp .eql 3 (Tm 29) (Kn 4) 3),zv 103 (zas 104)]
def K1q:=ZC.reg [zu 105 (zfa 90 1 6),zu 106 (zld 3 105),zu 107 (zcf 37 [Tm 106,Kn 60] [3,3]),zu 108 (zfa 94 3 11),zv0 (.store 3 (Tm 108) (Tm 107))]
def K1x:=ZC.reg [zu 109 (zfa 90 1 7),zu 110 (zld 3 109),zu 111 (zcf 37 [Tm 110,Kn 4611686018427387904] [3,3]),zu 112 (zfa 94 3 12),zv0 (.store 3 (Tm 112) (Tm 111))]
def Z05:=ZC.reg [zu 113 (zfa 90 1 9),zu 114 (zld 3 113),zv 115 (zcf 37 [Tm 114,Kn 40] [3,3])]
def V05:=ZC.reg [zu 117 (.binOp .eql 3 (Tm 115) (Kn 30) 3),zv 116 (zas 117)]
def Y06:=ZC.reg [zu 118 (zfa 90 1 9),zu 119 (zld 3 118),zu 120 (.binOp .quo 3 (Tm 119) (Kn 40) 3),zu 121 (zcf 37 [Tm 120,Kn 10] [3,3]),zu 122 (.binOp .sub 3 (Tm 121) (Kn 1) 3),zu 123 (zfa 94 3 0),zv0 (.store 3 (Tm 123) (Tm 122))]
def Y07:=ZC.reg [zu 125 (.binOp .eql 3 (Tm 115) (Kn 31) 3),zv 124 (zas 125)]
def Q06:=ZC.reg [zu 126 (zfa 90 1 2),zu 127 (zld 3 126),zu 128 (zfa 94 3 2),zv0 (.store 3 (Tm 128) (Tm 127))]
def Z07:=ZC.reg [zu 130 (.binOp .eql 3 (Tm 115) (Kn 32) 3),zv 129 (zas 130)]
def Q07:=ZC.reg [zu 131 (zfa 90 1 4),zu 132 (zld 3 131),zu 133 (zfa 94 3 6),zv0 (.store 3 (Tm 133) (Tm 132))]
def V08:=ZC.reg [zu 135 (.binOp .eql 3 (Tm 115) (Kn 33) 3),zv 134 (zas 135)]
def K08:=ZC.reg [zu 136 (zfa 90 1 5),zu 137 (zld 3 136),zu 138 (zfa 94 3 7),zv0 (.store 3 (Tm 138) (Tm 137))]
def K04:=ZC.reg [zu 140 (.binOp .eql 3 (Tm 115) (Kn 34) 3),zv 139 (zas 140)]
def K07:=ZC.reg [zu 141 (zfa 90 1 6),zu 142 (zld 3 141),zu 143 (zfa 94 3 11),zv0 (.store 3 (Tm 143) (Tm 142))]
def X06:=ZC.reg [zu 145 (.binOp .eql 3 (Tm 115) (Kn 35) 3),zv 144 (zas 145)]
def Z03:=ZC.reg [zu 146 (zfa 90 1 7),zu 147 (zld 3 146),zu 148 (zfa 94 3 12),zv0 (.store 3 (Tm 148) (Tm 147))]
def Q04:=ZC.reg [zu 150 (.binOp .eql 3 (Tm 115) (Kn 36) 3),zv 149 (zas 150)]
def K06:=ZC.reg [zu 151 (zfa 90 1 9),zu 152 (zld 3 151),zu 153 (.binOp .quo 3 (Tm 152) (Kn 40) 3),zu 154 (zcf 37 [Tm 153,Kn 12] [3,3]),zu 155 (zfa 94 3 9),zv0 (.store 3 (Tm 155) (Tm 154))]
def Z04:=ZC.reg [zu 157 (.binOp .eql 3 (Tm 115) (Kn 37) 3),zv 156 (zas 157)]
def Q08:=ZC.reg [zu 158 (zfa 94 3 8),zu 159 (zld 91 158),zu 160 (zfa 90 1 4),zu 161 (zld 3 160),zu 162 (zfa 90 1 5),zu 163 (zld 3 162),⟨some 164,.build 36 ⟨[(0,.tmp 161),(1,.tmp 163)]⟩,none,false⟩,⟨some 165,.buildSlice 91 1 ⟨[(0,.tmp 164)]⟩,none,false⟩,zu 166 (zcb .append [Tm 159,Tm 165] [91,91]),zu 167 (zfa 94 3 8),zv0 (.store 91 (Tm 167) (Tm 166))]
def Y04:=ZC.reg [zu 169 (.binOp .eql 3 (Tm 115) (Kn 38) 3),zv 168 (zas 169)]
def Z06:=ZC.reg [zu 170 (zfa 90 1 3),zu 171 (zld 3 170),zu 172 (zfa 94 3 3),zv0 (.store 3 (Tm 172) (Tm 171))]
def Q0y:=ZC.reg [zu 174 (.binOp .eql 3 (Tm 115) (Kn 39) 3),zv 173 (zas 174)]
def Y0x:=ZC.reg [zu 175 (zfa 90 1 1),zu 176 (zld 3 175),zu 177 (zfa 94 3 1),zv0 (.store 3 (Tm 177) (Tm 176))]
def Z0x:=ZC.reg [zu 178 (zld 94 3),zv0 (.store 94 (Tm 2) (Tm 178))]
def zn45_0:=ZC.seq zn45_1 (ZC.seq zn45_3 (ZC.seq (ZC.seq zn45_6 (ZC.cond (Tm 20) (ZC.seq zn45_9 zn45_10) ZC.skip)) (ZC.seq (ZC.seq Y1w (ZC.block 0 (ZC.seq Q1x (ZC.cond (Tm 30) (ZC.seq V12 (ZC.seq V1q (ZC.seq X1w (ZC.block 1 (ZC.loop V04))))) (ZC.seq K1u (ZC.cond (Tm 68) (ZC.seq V1z (ZC.seq Q1t (ZC.seq Z1x (ZC.block 3 (ZC.loop X07))))) (ZC.seq V1p (ZC.cond (Tm 103) (ZC.seq K1q K1x) ZC.skip)))))))) (ZC.seq (ZC.seq Z05 (ZC.block 5 (ZC.seq V05 (ZC.cond (Tm 116) Y06 (ZC.seq Y07 (ZC.cond (Tm 124) Q06 (ZC.seq Z07 (ZC.cond (Tm 129) Q07 (ZC.seq V08 (ZC.cond (Tm 134) K08 (ZC.seq K04 (ZC.cond (Tm 139) K07 (ZC.seq X06 (ZC.cond (Tm 144) Z03 (ZC.seq Q04 (ZC.cond (Tm 149) K06 (ZC.seq Z04 (ZC.cond (Tm 156) Q08 (ZC.seq Y04 (ZC.cond (Tm 168) Z06 (ZC.seq Q0y (ZC.cond (Tm 173) Y0x ZC.skip)))))))))))))))))))))) (ZC.seq Z0x ZC.ret)))))
def zc45: ZC:=zn45_0
theorem zc45_ok: zcode (xfOf Try.f45).code=some zc45:=by kernel_rfl
def zw45:=zU C zc45.eq_1<|zU C zn45_1.eq_1<|zU C zn45_3.eq_1<|zU C zn45_6.eq_1<|zU C zn45_9.eq_1<|zU C zn45_10.eq_1<|zU C Y1w.eq_1<|zU C Q1x.eq_1<|zU C V12.eq_1<|zU C V1q.eq_1<|zU C X1w.eq_1<|zU C zn45_28.eq_1<|zU C zn45_32.eq_1<|zU C zn45_33.eq_1<|zU C V04.eq_1<|zU C K1u.eq_1<|zU C V1z.eq_1<|zU C Q1t.eq_1<|zU C Z1x.eq_1<|zU C zn45_47.eq_1<|zU C zn45_51.eq_1<|zU C zn45_52.eq_1<|zU C X07.eq_1<|zU C V1p.eq_1<|zU C K1q.eq_1<|zU C K1x.eq_1<|zU C Z05.eq_1<|zU C V05.eq_1<|zU C Y06.eq_1<|zU C Y07.eq_1<|zU C Q06.eq_1<|zU C Z07.eq_1<|zU C Q07.eq_1<|zU C V08.eq_1<|zU C K08.eq_1<|zU C K04.eq_1<|zU C K07.eq_1<|zU C X06.eq_1<|zU C Z03.eq_1<|zU C Q04.eq_1<|zU C K06.eq_1<|zU C Z04.eq_1<|zU C Q08.eq_1<|zU C Y04.eq_1<|zU C Z06.eq_1<|zU C Q0y.eq_1<|zU C Y0x.eq_1<|zU C Z0x.eq_1<|(zunf C zn45_0.eq_1)
theorem rs45: (xfOf Try.f45).rs=[.cell 2 94]:=by kernel_rfl
def xf45:=zF C 45 Try.f45
def zn47_1:=ZC.reg [zv 0 (.assign (.const (.bool false)))]
def zn47_3:=ZC.reg [⟨some 6,.build 94 ⟨[(0,.const (.int .i64 1))]⟩,none,false⟩,zu 7 (zcf 46 [Kn 5,Tm 6] [3,94]),zu 5 (zmv 7),zu 8 (.extract (Tm 5) 0),zu 9 (.extract (Tm 5) 1),zu 1 (zas 8),zv 2 (zas 9)]
def zn47_5:=ZC.reg [zu 11 (zmv 1),zu 12 (zcf 48 [Kn 5,Tm 11] [3,68]),zu 10 (zmv 12),zu 13 (.extract (Tm 10) 0),zu 14 (.extract (Tm 10) 1),zu 3 (.alloc 94),zu0 (.store 94 (Tm 3) (Tm 13)),zv 4 (zas 14)]
def zn47_7:=ZC.reg [zu 15 (zmv 2),zu 16 (.binOp .eql 69 (Tm 15) (Kn 0) 69),zu 17 (zmv 16),zug 18 (zmv 1) 17 true false,zug 19 (zcb .len [Tm 18] [68]) 17 true false,zug 20 (.binOp .eql 3 (Tm 19) (Kn 17) 3) 17 true false,zu 21 (.pick (Tm 17) (Tm 20) (.const (.bool false))),zu 22 (zmv 21),zug 23 (zmv 4) 22 true false,zug 24 (.binOp .eql 69 (Tm 23) (Kn 0) 69) 22 true false,zu 25 (.pick (Tm 22) (Tm 24) (.const (.bool false))),zu 26 (zmv 25),zug 27 (zfa 94 3 0) 26 true false,zug 28 (zld 3 27) 26 true false,zug 29 (.binOp .eql 3 (Tm 28) (Kn 1) 3) 26 true false,zu 30 (.pick (Tm 26) (Tm 29) (.const (.bool false))),zv 0 (zas 30)]
def zn47_0:=ZC.seq zn47_1 (ZC.seq zn47_3 (ZC.seq zn47_5 (ZC.seq zn47_7 ZC.ret)))
def zc47: ZC:=zn47_0
theorem zc47_ok: zcode (xfOf Try.f47).code=some zc47:=by kernel_rfl
def zw47:=zU C zc47.eq_1<|zU C zn47_1.eq_1<|zU C zn47_3.eq_1<|zU C zn47_5.eq_1<|zU C zn47_7.eq_1<|(zunf C zn47_0.eq_1)
theorem rs47: (xfOf Try.f47).rs=[.tmp 0]:=by kernel_rfl
def xf47:=zF C 47 Try.f47
def zn48_1:=ZC.reg [zu 4 (.alloc 94),zv 5 (.assign (Kn 0))]
def zn48_4:=ZC.reg [zu 11 (zmv 1),zu 12 (zcb .len [Tm 11] [68]),zv 13 (.binOp .gtr 3 (Tm 12) (Kn 400) 3)]
def zn48_7:=ZC.reg [⟨some 14,.build 94 ⟨[]⟩,none,false⟩,zu0 (.store 94 (Tm 4) (Tm 14)),zv 5 (.assign (Kn 7))]
def zn48_9:=ZC.reg [zu 16 (zmv 0),zu 17 (zmv 1),zu 18 (zcf 109 [Tm 16,Tm 17] [3,68]),zu 15 (zmv 18),zu 19 (.extract (Tm 15) 0),zu 20 (.extract (Tm 15) 1),zu 6 (.alloc 68),zu0 (.store 68 (Tm 6) (Tm 19)),zv 7 (zas 20)]
def zn48_12:=ZC.reg [zu 21 (zmv 7),zv 22 (.unOp .not 4 (Tm 21))]
def zn48_15:=ZC.reg [⟨some 23,.build 94 ⟨[]⟩,none,false⟩,zu0 (.store 94 (Tm 4) (Tm 23)),zv 5 (.assign (Kn 3))]
def zn48_17:=ZC.reg [zv 8 (.alloc 94)]
def zn48_19:=ZC.reg [⟨some 25,.makeFunc (.func 110) ⟨[]⟩ ⟨[Tm 6,Tm 8]⟩,none,false⟩,zu 26 (zcf 73 [Tm 25] [1]),zu 24 (zmv 26),zu 27 (.extract (Tm 24) 0),zu 28 (.extract (Tm 24) 1),zu 9 (.alloc 44),zu0 (.store 44 (Tm 9) (Tm 27)),zv 10 (zas 28)]
def zn48_22:=ZC.draw 13 [] [zdd 0 29 (zmv 10) true [] [] false,zdd 1 30 (zmv 29) true [] [] false,⟨2,some 31,zld 94 8,some (30,false),true,[],[],false⟩,⟨3,some 32,zcf 50 [Tm 31] [94],some (30,false),true,[],[],false⟩,⟨4,some 33,.unOp .not 4 (Tm 32),some (30,false),true,[],[],false⟩,zdd 5 34 (.pick (Tm 30) (.const (.bool true)) (Tm 33)) true [] [] false,zdd 6 35 (zmv 34) true [] [] false,⟨7,some 36,zld 94 8,some (35,false),false,[],[],false⟩,⟨8,some 37,zcf 108 [Tm 36] [94],some (35,false),false,[],[],true⟩,⟨9,some 38,zld 68 6,some (35,false),true,[8],[],false⟩,⟨10,some 39,zcf 96 [Tm 37,Tm 38] [68,68],some (35,false),true,[],[],false⟩,⟨11,some 40,.unOp .not 4 (Tm 39),some (35,false),true,[],[],false⟩,zdd 12 41 (.pick (Tm 35) (.const (.bool true)) (Tm 40)) true [] [] false]
def zn48_25:=ZC.reg [⟨some 42,.build 94 ⟨[]⟩,none,false⟩,zu0 (.store 94 (Tm 4) (Tm 42)),zv 5 (.assign (Kn 2))]
def zn48_27:=ZC.reg [zu 43 (zld 94 8),zu0 (.store 94 (Tm 4) (Tm 43)),zv 5 (.assign (Kn 0))]
def zn48_0:=ZC.seq zn48_1 (ZC.seq (ZC.seq zn48_4 (ZC.cond (Tm 13) (ZC.seq zn48_7 ZC.ret) ZC.skip)) (ZC.seq zn48_9 (ZC.seq (ZC.seq zn48_12 (ZC.cond (Tm 22) (ZC.seq zn48_15 ZC.ret) ZC.skip)) (ZC.seq zn48_17 (ZC.seq zn48_19 (ZC.seq (ZC.seq zn48_22 (ZC.cond (Tm 41) (ZC.seq zn48_25 ZC.ret) ZC.skip)) (ZC.seq zn48_27 ZC.ret)))))))
def zc48: ZC:=zn48_0
theorem zc48_ok: zcode (xfOf Try.f48).code=some zc48:=by kernel_rfl
def zw48:=zU C zc48.eq_1<|zU C zn48_1.eq_1<|zU C zn48_4.eq_1<|zU C zn48_7.eq_1<|zU C zn48_9.eq_1<|zU C zn48_12.eq_1<|zU C zn48_15.eq_1<|zU C zn48_17.eq_1<|zU C zn48_19.eq_1<|zU C zn48_22.eq_1<|zU C zn48_25.eq_1<|zU C zn48_27.eq_1<|(zunf C zn48_0.eq_1)
theorem rs48: (xfOf Try.f48).rs=[.cell 4 94,.tmp 5]:=by kernel_rfl
def xf48:=zF C 48 Try.f48
def zn51_1:=ZC.reg [zu 3 (.box 94 (Tm 1)),zu 4 (.assign (.const (.slice none 0 0))),zv 5 (.assign (.const (.bool false)))]
def zn51_4:=ZC.reg [zu 6 (zld 94 3),zu 7 (zcf 52 [Tm 6] [94]),zv 8 (.unOp .not 4 (Tm 7))]
def zn51_7:=ZC.reg [zu 4 (.assign (.const (.slice none 0 0))),zv 5 (.assign (.const (.bool false)))]
def zn51_9:=ZC.reg [zu 9 (zmv 0),zu 10 (zld 94 3),zu 11 (zcf 123 [Tm 10] [94]),zu 12 (zcf 53 [Tm 9,Tm 11] [3,68]),zu 4 (zas 12),zv 5 (.assign (.const (.bool true)))]
def zn51_0:=ZC.seq zn51_1 (ZC.seq (ZC.seq zn51_4 (ZC.cond (Tm 8) (ZC.seq zn51_7 ZC.ret) ZC.skip)) (ZC.seq zn51_9 ZC.ret))
def zc51: ZC:=zn51_0
theorem zc51_ok: zcode (xfOf Try.f51).code=some zc51:=by kernel_rfl
def zw51:=zU C zc51.eq_1<|zU C zn51_1.eq_1<|zU C zn51_4.eq_1<|zU C zn51_7.eq_1<|zU C zn51_9.eq_1<|(zunf C zn51_0.eq_1)
theorem rs51: (xfOf Try.f51).rs=[.tmp 4,.tmp 5]:=by kernel_rfl
def xf51:=zF C 51 Try.f51
def zn52_1:=ZC.reg [zu 1 (.box 94 (Tm 0)),zv 2 (.assign (.const (.bool false)))]
def zn52_4:=ZC.reg [zu 7 (zfa 94 1 0),zu 8 (zld 3 7),zu 9 (zcf 124 [Tm 8,Kn 1,Kn 6] [3,3,3]),zu 10 (.unOp .not 4 (Tm 9)),zu 11 (zmv 10),zug 12 (zfa 94 1 1) 11 false false,zug 13 (zld 3 12) 11 false false,zug 14 (zcf 124 [Tm 13,Kn 0,Kn 7] [3,3,3]) 11 false false,zug 15 (.unOp .not 4 (Tm 14)) 11 false false,zu 16 (.pick (Tm 11) (.const (.bool true)) (Tm 15)),zu 17 (zmv 16),zug 18 (zfa 94 1 2) 17 false false,zug 19 (zld 3 18) 17 false false,zug 20 (zcf 124 [Tm 19,Kn 0,Kn 65535] [3,3,3]) 17 false false,zug 21 (.unOp .not 4 (Tm 20)) 17 false false,zu 22 (.pick (Tm 17) (.const (.bool true)) (Tm 21)),zu 23 (zmv 22),zug 24 (zfa 94 1 3) 23 false false,zug 25 (zld 3 24) 23 false false,zug 26 (zcf 124 [Tm 25,Kn 0,Kn 65535] [3,3,3]) 23 false false,zug 27 (.unOp .not 4 (Tm 26)) 23 false false,zu 28 (.pick (Tm 23) (.const (.bool true)) (Tm 27)),zu 29 (zmv 28),zug 30 (zfa 94 1 4) 29 false false,zug 31 (zld 4 30) 29 false false,zug 32 (.unOp .not 4 (Tm 31)) 29 false false,zug 33 (zmv 32) 29 false false,zug 34 (zfa 94 1 3) 33 true false,zug 35 (zld 3 34) 33 true false,zug 36 (.binOp .neq 3 (Tm 35) (Kn 0) 3) 33 true false,zug 37 (zmv 36) 33 true false,zug 38 (zfa 94 1 5) 37 false false,zug 39 (zld 25 38) 37 false false,zug 40 (.binOp .neq 25 (Tm 39) (.const (.int .u64 0)) 25) 37 false false,zug 41 (.pick (Tm 37) (.const (.bool true)) (Tm 40)) 33 true false,zug 42 (.pick (Tm 33) (Tm 41) (.const (.bool false))) 29 false false,zv 43 (.pick (Tm 29) (.const (.bool true)) (Tm 42))]
def zn52_7:=ZC.reg [zv 2 (.assign (.const (.bool false)))]
def V1o:=ZC.reg [zv 3 (.assign (Kn 0))]
def zn52_15:=ZC.reg [zu 44 (zmv 3),zu 45 (zfa 94 1 8),zu 46 (zld 91 45),zu 47 (zcb .len [Tm 46] [91]),zv 48 (.binOp .lss 3 (Tm 44) (Tm 47) 3)]
def zn52_20:=ZC.reg [zu 51 (zfa 94 1 8),zu 52 (zld 91 51),zu 53 (zmv 3),zu 54 (zia 91 52 53),zu 55 (zld 36 54),zu 56 (zcf 125 [Tm 55] [36]),zv 57 (.unOp .not 4 (Tm 56))]
def zn52_23:=ZC.reg [zv 2 (.assign (.const (.bool false)))]
def zn52_24:=ZC.reg [zu 49 (zmv 3),zu 50 (.binOp .add 3 (Tm 49) (Kn 1) 3),zv 3 (zas 50)]
def Q05:=ZC.seq (ZC.seq zn52_15 (ZC.cond (Tm 48) ZC.skip (ZC.exit 0))) (ZC.seq (ZC.block 1 (ZC.seq zn52_20 (ZC.cond (Tm 57) (ZC.seq zn52_23 ZC.ret) ZC.skip))) zn52_24)
def Q1y:=ZC.reg [zu 58 (zfa 94 1 0),zu 59 (zld 3 58),zu 60 (.binOp .eql 3 (Tm 59) (Kn 2) 3),zv 4 (zas 60)]
def X1o:=ZC.reg [zu 61 (zfa 94 1 0),zu 62 (zld 3 61),zu 63 (.binOp .eql 3 (Tm 62) (Kn 3) 3),zv 5 (zas 63)]
def K1o:=ZC.reg [zu 64 (zfa 94 1 0),zu 65 (zld 3 64),zu 66 (.binOp .eql 3 (Tm 65) (Kn 4) 3),zv 6 (zas 66)]
def K1p:=ZC.reg [zu 68 (zmv 4),zu 69 (zmv 68),zug 70 (zfa 94 1 6) 69 true false,zug 71 (zld 3 70) 69 true false,zug 72 (zcf 124 [Tm 71,Kn 0,Kn 600] [3,3,3]) 69 true false,zug 73 (.unOp .not 4 (Tm 72)) 69 true false,zug 74 (zmv 73) 69 true false,zug 75 (zfa 94 1 7) 74 false false,zug 76 (zld 3 75) 74 false false,zug 77 (zcf 124 [Tm 76,Kn 0,Kn 600] [3,3,3]) 74 false false,zug 78 (.unOp .not 4 (Tm 77)) 74 false false,zug 79 (.pick (Tm 74) (.const (.bool true)) (Tm 78)) 69 true false,zug 80 (zmv 79) 69 true false,zug 81 (zfa 94 1 8) 80 false false,zug 82 (zld 91 81) 80 false false,zug 83 (zcb .len [Tm 82] [91]) 80 false false,zug 84 (.binOp .gtr 3 (Tm 83) (Kn 16) 3) 80 false false,zug 85 (.pick (Tm 80) (.const (.bool true)) (Tm 84)) 69 true false,zu 86 (.pick (Tm 69) (Tm 85) (.const (.bool false))),zv 67 (zas 86)]
def K1r:=ZC.reg [zv 2 (.assign (.const (.bool false)))]
def K1y:=ZC.reg [zu 88 (zmv 5),zu 89 (zmv 88),zug 90 (zfa 94 1 7) 89 true false,zug 91 (zld 3 90) 89 true false,zug 92 (zcf 124 [Tm 91,Kn 0,Kn 600] [3,3,3]) 89 true false,zug 93 (.unOp .not 4 (Tm 92)) 89 true false,zug 94 (zmv 93) 89 true false,zug 95 (zld 94 1) 94 false false,zug 96 (zcf 126 [Tm 95] [94]) 94 false false,zug 97 (.unOp .not 4 (Tm 96)) 94 false false,zug 98 (.pick (Tm 94) (.const (.bool true)) (Tm 97)) 89 true false,zu 99 (.pick (Tm 89) (Tm 98) (.const (.bool false))),zv 87 (zas 99)]
def Y13:=ZC.reg [zv 2 (.assign (.const (.bool false)))]
def Q1p:=ZC.reg [zu 101 (zmv 6),zu 102 (zmv 101),zug 103 (zfa 94 1 11) 102 true false,zug 104 (zld 3 103) 102 true false,zug 105 (zcf 124 [Tm 104,Kn 0,Kn 600] [3,3,3]) 102 true false,zug 106 (.unOp .not 4 (Tm 105)) 102 true false,zug 107 (zmv 106) 102 true false,zug 108 (zfa 94 1 12) 107 false false,zug 109 (zld 3 108) 107 false false,zug 110 (zcf 124 [Tm 109,Kn 0,Kn 4611686018427387903] [3,3,3]) 107 false false,zug 111 (.unOp .not 4 (Tm 110)) 107 false false,zug 112 (.pick (Tm 107) (.const (.bool true)) (Tm 111)) 102 true false,zu 113 (.pick (Tm 102) (Tm 112) (.const (.bool false))),zv 100 (zas 113)]
def Y11:=ZC.reg [zv 2 (.assign (.const (.bool false)))]
def K1v:=ZC.reg [zu 114 (zmv 4),zu 115 (zmv 114),zug 116 (zfa 94 1 6) 115 false false,zug 117 (zld 3 116) 115 false false,zug 118 (.binOp .eql 3 (Tm 117) (Kn 0) 3) 115 false false,zug 119 (zmv 118) 115 false false,zug 120 (zfa 94 1 8) 119 true false,zug 121 (zld 91 120) 119 true false,zug 122 (zcb .len [Tm 121] [91]) 119 true false,zug 123 (.binOp .eql 3 (Tm 122) (Kn 0) 3) 119 true false,zug 124 (.pick (Tm 119) (Tm 123) (.const (.bool false))) 115 false false,zu 125 (.pick (Tm 115) (.const (.bool true)) (Tm 124)),zu 126 (zmv 125),zug 127 (zmv 4) 126 true false,zug 128 (zmv 127) 126 true false,zug 129 (zmv 5) 128 false false,zug 130 (.pick (Tm 128) (.const (.bool true)) (Tm 129)) 126 true false,zug 131 (zmv 130) 126 true false,zug 132 (zfa 94 1 7) 131 false false,zug 133 (zld 3 132) 131 false false,zug 134 (.binOp .eql 3 (Tm 133) (Kn 0) 3) 131 false false,zug 135 (.pick (Tm 131) (.const (.bool true)) (Tm 134)) 126 true false,zu 136 (.pick (Tm 126) (Tm 135) (.const (.bool false))),zu 137 (zmv 136),zug 138 (zmv 5) 137 true false,zug 139 (zmv 138) 137 true false,zug 140 (zfa 94 1 9) 139 false false,zug 141 (zld 3 140) 139 false false,zug 142 (.binOp .eql 3 (Tm 141) (Kn 0) 3) 139 false false,zug 143 (zmv 142) 139 false false,zug 144 (zfa 94 1 10) 143 true false,zug 145 (zld 92 144) 143 true false,zug 146 (zcb .len [Tm 145] [92]) 143 true false,zug 147 (.binOp .eql 3 (Tm 146) (Kn 0) 3) 143 true false,zug 148 (.pick (Tm 143) (Tm 147) (.const (.bool false))) 139 false false,zug 149 (.pick (Tm 139) (.const (.bool true)) (Tm 148)) 137 true false,zu 150 (.pick (Tm 137) (Tm 149) (.const (.bool false))),zu 151 (zmv 150),zug 152 (zmv 6) 151 true false,zug 153 (zmv 152) 151 true false,zug 154 (zfa 94 1 11) 153 false false,zug 155 (zld 3 154) 153 false false,zug 156 (.binOp .eql 3 (Tm 155) (Kn 0) 3) 153 false false,zug 157 (zmv 156) 153 false false,zug 158 (zfa 94 1 12) 157 true false,zug 159 (zld 3 158) 157 true false,zug 160 (.binOp .eql 3 (Tm 159) (Kn 0) 3) 157 true false,zug 161 (.pick (Tm 157) (Tm 160) (.const (.bool false))) 153 false false,zug 162 (.pick (Tm 153) (.const (.bool true)) (Tm 161)) 151 true false,zu 163 (.pick (Tm 151) (Tm 162) (.const (.bool false))),zv 2 (zas 163)]
def zn52_0:=ZC.seq zn52_1 (ZC.seq (ZC.seq zn52_4 (ZC.cond (Tm 43) (ZC.seq zn52_7 ZC.ret) ZC.skip)) (ZC.seq (ZC.seq V1o (ZC.block 0 (ZC.loop Q05))) (ZC.seq Q1y (ZC.seq X1o (ZC.seq K1o (ZC.seq (ZC.block 2 (ZC.seq K1p (ZC.cond (Tm 67) (ZC.seq K1r ZC.ret) (ZC.seq K1y (ZC.cond (Tm 87) (ZC.seq Y13 ZC.ret) (ZC.seq Q1p (ZC.cond (Tm 100) (ZC.seq Y11 ZC.ret) ZC.skip))))))) (ZC.seq K1v ZC.ret)))))))
def zc52: ZC:=zn52_0
theorem zc52_ok: zcode (xfOf Try.f52).code=some zc52:=by kernel_rfl
def zw52:=zU C zc52.eq_1<|zU C zn52_1.eq_1<|zU C zn52_4.eq_1<|zU C zn52_7.eq_1<|zU C V1o.eq_1<|zU C zn52_15.eq_1<|zU C zn52_20.eq_1<|zU C zn52_23.eq_1<|zU C zn52_24.eq_1<|zU C Q05.eq_1<|zU C Q1y.eq_1<|zU C X1o.eq_1<|zU C K1o.eq_1<|zU C K1p.eq_1<|zU C K1r.eq_1<|zU C K1y.eq_1<|zU C Y13.eq_1<|zU C Q1p.eq_1<|zU C Y11.eq_1<|zU C K1v.eq_1<|(zunf C zn52_0.eq_1)
theorem rs52: (xfOf Try.f52).rs=[.tmp 2]:=by kernel_rfl
def xf52:=zF C 52 Try.f52
def zn54_1:=ZC.reg [zu 4 (.alloc 94),zv 5 (.assign (Kn 0))]
def zn54_4:=ZC.reg [zu 18 (zmv 1),zu 19 (zcb .len [Tm 18] [68]),zv 20 (.binOp .gtr 3 (Tm 19) (Kn 400) 3)]
def zn54_7:=ZC.reg [⟨some 21,.build 94 ⟨[]⟩,none,false⟩,zu0 (.store 94 (Tm 4) (Tm 21)),zv 5 (.assign (Kn 7))]
def zn54_9:=ZC.reg [zu 23 (zmv 0),zu 24 (zmv 1),zu 25 (zcf 129 [Tm 23,Tm 24] [3,68]),zu 22 (zmv 25),zu 26 (.extract (Tm 22) 0),zu 27 (.extract (Tm 22) 1),zu 6 (zas 26),zv 7 (zas 27)]
def zn54_12:=ZC.reg [zu 28 (zmv 7),zv 29 (.unOp .not 4 (Tm 28))]
def zn54_15:=ZC.reg [⟨some 30,.build 94 ⟨[]⟩,none,false⟩,zu0 (.store 94 (Tm 4) (Tm 30)),zv 5 (.assign (Kn 3))]
def zn54_17:=ZC.reg [zu 31 (zmv 6),⟨some 32,.build 161 ⟨[(0,.tmp 31)]⟩,none,false⟩,zu 33 (.box 161 (Tm 32)),zv 8 (zas 33)]
def zn54_19:=ZC.reg [zu 34 (zmv 8),zu 35 (zcf 103 [Tm 34,Kn 3] [159,3]),zu 36 (.convert 25 3 (Tm 35)),zu 37 (zmv 8),zu 38 (zcf 103 [Tm 37,Kn 3] [159,3]),zu 39 (.convert 25 3 (Tm 38)),zu 40 (zmv 8),zu 41 (zcf 103 [Tm 40,Kn 16] [159,3]),zu 42 (.convert 25 3 (Tm 41)),zu 43 (zmv 8),zu 44 (zcf 103 [Tm 43,Kn 16] [159,3]),zu 45 (.convert 25 3 (Tm 44)),zu 46 (zmv 8),zu 47 (zcf 103 [Tm 46,Kn 1] [159,3]),zu 48 (.binOp .eql 25 (Tm 47) (.const (.int .u64 1)) 25),zu 49 (zmv 8),zu 50 (zcf 103 [Tm 49,Kn 64] [159,3]),⟨some 51,.build 94 ⟨[(0,.tmp 36),(1,.tmp 39),(2,.tmp 42),(3,.tmp 45),(4,.tmp 48),(5,.tmp 50)]⟩,none,false⟩,zu 9 (.alloc 94),zv0 (.store 94 (Tm 9) (Tm 51))]
def zn54_22:=ZC.reg [zu 52 (zfa 94 9 0),zv 53 (zld 3 52)]
def zn54_25:=ZC.reg [zu 55 (.binOp .eql 3 (Tm 53) (Kn 2) 3),zv 54 (zas 55)]
def zn54_28:=ZC.reg [zu 56 (zmv 8),zu 57 (zcf 103 [Tm 56,Kn 10] [159,3]),zu 58 (.convert 25 3 (Tm 57)),zu 59 (zfa 94 9 6),zv0 (.store 3 (Tm 59) (Tm 58))]
def zn54_30:=ZC.reg [zu 60 (zmv 8),zu 61 (zcf 103 [Tm 60,Kn 10] [159,3]),zu 62 (.convert 25 3 (Tm 61)),zu 63 (zfa 94 9 7),zv0 (.store 3 (Tm 63) (Tm 62))]
def zn54_32:=ZC.reg [zu 64 (zmv 8),zu 65 (zcf 103 [Tm 64,Kn 5] [159,3]),zu 66 (.convert 25 3 (Tm 65)),zv 10 (zas 66)]
def zn54_34:=ZC.reg [zv 11 (.assign (Kn 0))]
def zn54_39:=ZC.reg [zu 67 (zmv 11),zu 68 (zmv 10),zv 69 (.binOp .lss 3 (Tm 67) (Tm 68) 3)]
def zn54_43:=ZC.draw 8 [] [zdd 0 72 (zfa 94 9 8) false [] [3] false,zdd 1 73 (zld 91 72) false [] [3] false,zdd 2 74 (zmv 8) true [] [] false,zdd 3 75 (zcf 130 [Tm 74] [159]) true [] [] false,⟨4,some 76,.buildSlice 91 1 ⟨[(0,.tmp 75)]⟩,none,true,[],[],false⟩,zdd 5 77 (zcb .append [Tm 73,Tm 76] [91,91]) true [] [] false,zdd 6 78 (zfa 94 9 8) true [] [] false,zd0 7 (.store 91 (Tm 78) (Tm 77)) true [] [] false]
def zn54_44:=ZC.reg [zu 70 (zmv 11),zu 71 (.binOp .add 3 (Tm 70) (Kn 1) 3),zv 11 (zas 71)]
def Q1v:=ZC.seq (ZC.seq zn54_39 (ZC.cond (Tm 69) ZC.skip (ZC.exit 1))) (ZC.seq (ZC.block 2 zn54_43) zn54_44)
def zn54_46:=ZC.reg [zu 80 (.binOp .eql 3 (Tm 53) (Kn 3) 3),zv 79 (zas 80)]
def zn54_49:=ZC.reg [zu 81 (zmv 8),zu 82 (zcf 103 [Tm 81,Kn 10] [159,3]),zu 83 (.convert 25 3 (Tm 82)),zu 84 (zfa 94 9 7),zv0 (.store 3 (Tm 84) (Tm 83))]
def zn54_51:=ZC.reg [zu 85 (zmv 8),zu 86 (zcf 103 [Tm 85,Kn 4] [159,3]),zu 87 (.convert 25 3 (Tm 86)),zu 88 (zfa 94 9 9),zv0 (.store 3 (Tm 88) (Tm 87))]
def zn54_53:=ZC.reg [zu 89 (zmv 8),zu 90 (zcf 103 [Tm 89,Kn 4] [159,3]),zu 91 (.convert 25 3 (Tm 90)),zv 12 (zas 91)]
def zn54_55:=ZC.reg [zv 13 (.assign (Kn 0))]
def zn54_60:=ZC.reg [zu 92 (zmv 13),zu 93 (zmv 12),zv 94 (.binOp .lss 3 (Tm 92) (Tm 93) 3)]
def zn54_65:=ZC.reg [zv 14 (.assign (.const (.slice none 0 0)))]
def zn54_68:=ZC.reg [zv 15 (.assign (Kn 0))]
def zn54_73:=ZC.reg [zu 97 (zmv 15),zu 98 (zfa 94 9 9),zu 99 (zld 3 98),zv 100 (.binOp .lss 3 (Tm 97) (Tm 99) 3)]
def zn54_78:=ZC.reg [zu 103 (zmv 8),zu 104 (zcf 103 [Tm 103,Kn 1] [159,3]),zu 105 (.binOp .eql 25 (Tm 104) (.const (.int .u64 1)) 25),⟨some 106,.build 110 ⟨[(0,.tmp 105)]⟩,none,false⟩,zu 16 (.alloc 110),zv0 (.store 110 (Tm 16) (Tm 106))]
def zn54_81:=ZC.reg [zu 107 (zfa 110 16 0),zv 108 (zld 4 107)]
def zn54_83:=ZC.reg [zu 109 (zmv 8),zu 110 (zcf 130 [Tm 109] [159]),zu 111 (zfa 110 16 1),zv0 (.store 36 (Tm 111) (Tm 110))]
def zn54_84:=ZC.reg [zu 112 (zmv 14),zu 113 (zld 110 16),⟨some 114,.buildSlice 108 1 ⟨[(0,.tmp 113)]⟩,none,false⟩,zu 115 (zcb .append [Tm 112,Tm 114] [108,108]),zv 14 (zas 115)]
def zn54_85:=ZC.reg [zu 101 (zmv 15),zu 102 (.binOp .add 3 (Tm 101) (Kn 1) 3),zv 15 (zas 102)]
def Y2l:=ZC.seq (ZC.seq zn54_73 (ZC.cond (Tm 100) ZC.skip (ZC.exit 5))) (ZC.seq (ZC.block 6 (ZC.seq zn54_78 (ZC.seq (ZC.seq zn54_81 (ZC.cond (Tm 108) zn54_83 ZC.skip)) zn54_84))) zn54_85)
def zn54_86:=ZC.reg [zu 116 (zfa 94 9 10),zu 117 (zld 92 116),zu 118 (zmv 14),⟨some 119,.buildSlice 92 1 ⟨[(0,.tmp 118)]⟩,none,false⟩,zu 120 (zcb .append [Tm 117,Tm 119] [92,92]),zu 121 (zfa 94 9 10),zv0 (.store 92 (Tm 121) (Tm 120))]
def zn54_87:=ZC.reg [zu 95 (zmv 13),zu 96 (.binOp .add 3 (Tm 95) (Kn 1) 3),zv 13 (zas 96)]
def Q1u:=ZC.seq (ZC.seq zn54_60 (ZC.cond (Tm 94) ZC.skip (ZC.exit 3))) (ZC.seq (ZC.block 4 (ZC.seq zn54_65 (ZC.seq (ZC.seq zn54_68 (ZC.block 5 (ZC.loop Y2l))) zn54_86))) zn54_87)
def zn54_89:=ZC.reg [zu 123 (.binOp .eql 3 (Tm 53) (Kn 4) 3),zv 122 (zas 123)]
def zn54_92:=ZC.reg [zu 124 (zmv 8),zu 125 (zcf 103 [Tm 124,Kn 10] [159,3]),zu 126 (.convert 25 3 (Tm 125)),zu 127 (zfa 94 9 11),zv0 (.store 3 (Tm 127) (Tm 126))]
def zn54_93:=ZC.reg [zu 128 (zmv 8),zu 129 (zcf 103 [Tm 128,Kn 62] [159,3]),zu 130 (.convert 25 3 (Tm 129)),zu 131 (zfa 94 9 12),zv0 (.store 3 (Tm 131) (Tm 130))]
def K14:=ZC.reg [zu 133 (zmv 0),zu 134 (zld 94 9),zu 135 (zcf 51 [Tm 133,Tm 134] [3,94]),zu 132 (zmv 135),zu 136 (.extract (Tm 132) 0),zu 137 (.extract (Tm 132) 1),zu 17 (zas 136),zv 7 (zas 137)]
def Z1u:=ZC.reg [zu 138 (zmv 8),zu 139 (.nilCheck (Tm 138)),zu 140 (zfa 161 139 2),zu 141 (zld 4 140),zu 142 (zmv 141),zug 143 (zmv 7) 142 false false,zug 144 (.unOp .not 4 (Tm 143)) 142 false false,zu 145 (.pick (Tm 142) (.const (.bool true)) (Tm 144)),zu 146 (zmv 145),zug 147 (zmv 17) 146 false false,zug 148 (.convert 68 9 (Tm 147)) 146 false false,zug 149 (zmv 1) 146 false false,zug 150 (.convert 68 9 (Tm 149)) 146 false false,zug 151 (.binOp .neq 9 (Tm 148) (Tm 150) 9) 146 false false,zv 152 (.pick (Tm 146) (.const (.bool true)) (Tm 151))]
def Y1a:=ZC.reg [⟨some 153,.build 94 ⟨[]⟩,none,false⟩,zu0 (.store 94 (Tm 4) (Tm 153)),zv 5 (.assign (Kn 2))]
def Z1c:=ZC.reg [zu 154 (zld 94 9),zu0 (.store 94 (Tm 4) (Tm 154)),zv 5 (.assign (Kn 0))]
def zn54_0:=ZC.seq zn54_1 (ZC.seq (ZC.seq zn54_4 (ZC.cond (Tm 20) (ZC.seq zn54_7 ZC.ret) ZC.skip)) (ZC.seq zn54_9 (ZC.seq (ZC.seq zn54_12 (ZC.cond (Tm 29) (ZC.seq zn54_15 ZC.ret) ZC.skip)) (ZC.seq zn54_17 (ZC.seq zn54_19 (ZC.seq (ZC.seq zn54_22 (ZC.block 0 (ZC.seq zn54_25 (ZC.cond (Tm 54) (ZC.seq zn54_28 (ZC.seq zn54_30 (ZC.seq zn54_32 (ZC.seq zn54_34 (ZC.block 1 (ZC.loop Q1v)))))) (ZC.seq zn54_46 (ZC.cond (Tm 79) (ZC.seq zn54_49 (ZC.seq zn54_51 (ZC.seq zn54_53 (ZC.seq zn54_55 (ZC.block 3 (ZC.loop Q1u)))))) (ZC.seq zn54_89 (ZC.cond (Tm 122) (ZC.seq zn54_92 zn54_93) ZC.skip)))))))) (ZC.seq K14 (ZC.seq (ZC.seq Z1u (ZC.cond (Tm 152) (ZC.seq Y1a ZC.ret) ZC.skip)) (ZC.seq Z1c ZC.ret)))))))))
def zc54: ZC:=zn54_0
theorem zc54_ok: zcode (xfOf Try.f54).code=some zc54:=by kernel_rfl
def zw54:=zU C zc54.eq_1<|zU C zn54_1.eq_1<|zU C zn54_4.eq_1<|zU C zn54_7.eq_1<|zU C zn54_9.eq_1<|zU C zn54_12.eq_1<|zU C zn54_15.eq_1<|zU C zn54_17.eq_1<|zU C zn54_19.eq_1<|zU C zn54_22.eq_1<|zU C zn54_25.eq_1<|zU C zn54_28.eq_1<|zU C zn54_30.eq_1<|zU C zn54_32.eq_1<|zU C zn54_34.eq_1<|zU C zn54_39.eq_1<|zU C zn54_43.eq_1<|zU C zn54_44.eq_1<|zU C Q1v.eq_1<|zU C zn54_46.eq_1<|zU C zn54_49.eq_1<|zU C zn54_51.eq_1<|zU C zn54_53.eq_1<|zU C zn54_55.eq_1<|zU C zn54_60.eq_1<|zU C zn54_65.eq_1<|zU C zn54_68.eq_1<|zU C zn54_73.eq_1<|zU C zn54_78.eq_1<|zU C zn54_81.eq_1<|zU C zn54_83.eq_1<|zU C zn54_84.eq_1<|zU C zn54_85.eq_1<|zU C Y2l.eq_1<|zU C zn54_86.eq_1<|zU C zn54_87.eq_1<|zU C Q1u.eq_1<|zU C zn54_89.eq_1<|zU C zn54_92.eq_1<|zU C zn54_93.eq_1<|zU C K14.eq_1<|zU C Z1u.eq_1<|zU C Y1a.eq_1<|zU C Z1c.eq_1<|(zunf C zn54_0.eq_1)
theorem rs54: (xfOf Try.f54).rs=[.cell 4 94,.tmp 5]:=by kernel_rfl
def xf54:=zF C 54 Try.f54
def zn55_1:=ZC.reg [zu 2 (.assign (Kn 0)),zv 3 (.assign (.const (.bool false)))]
def zn55_4:=ZC.reg [zu 4 (zmv 0),zu 5 (zcb .len [Tm 4] [68]),zv 6 (.binOp .eql 3 (Tm 5) (Kn 0) 3)]
def zn55_7:=ZC.reg [zu 2 (.assign (Kn 0)),zv 3 (.assign (.const (.bool false)))]
def zn55_9:=ZC.reg [zu 7 (zmv 0),zu 8 (.indexAddr 68 (Tm 7) (Kn 0)),zu 9 (zld 5 8),zu 10 (.binOp .shr 5 (Tm 9) (.const (.int .u64 2)) 178),zu 11 (.convert 5 3 (Tm 10)),zu 12 (.binOp .and 3 (Tm 11) (Kn 7) 3),zu 2 (zas 12),zv 3 (.assign (.const (.bool true)))]
def zn55_0:=ZC.seq zn55_1 (ZC.seq (ZC.seq zn55_4 (ZC.cond (Tm 6) (ZC.seq zn55_7 ZC.ret) ZC.skip)) (ZC.seq zn55_9 ZC.ret))
def zc55: ZC:=zn55_0
theorem zc55_ok: zcode (xfOf Try.f55).code=some zc55:=by kernel_rfl
def zw55:=zU C zc55.eq_1<|zU C zn55_1.eq_1<|zU C zn55_4.eq_1<|zU C zn55_7.eq_1<|zU C zn55_9.eq_1<|(zunf C zn55_0.eq_1)
theorem rs55: (xfOf Try.f55).rs=[.tmp 2,.tmp 3]:=by kernel_rfl
def xf55:=zF C 55 Try.f55
def zn56_1:=ZC.reg [zu 2 (.assign (Kn 0)),zv 3 (.assign (.const (.bool false)))]
def zn56_3:=ZC.reg [zu 6 (zmv 0),⟨some 7,.build 161 ⟨[(0,.tmp 6)]⟩,none,false⟩,zu 8 (.box 161 (Tm 7)),zv 4 (zas 8)]
def zn56_5:=ZC.reg [zu 9 (zmv 4),zv 10 (zcf 103 [Tm 9,Kn 3] [159,3])]
def zn56_7:=ZC.reg [zu 11 (zmv 4),zu 12 (zcf 103 [Tm 11,Kn 3] [159,3]),zu 13 (.convert 25 3 (Tm 12)),zv 5 (zas 13)]
def zn56_9:=ZC.draw 8 [] [zdd 0 14 (zmv 5) false [] [] false,zdd 1 15 (zmv 4) false [] [] false,zdd 2 16 (.nilCheck (Tm 15)) false [] [] false,zdd 3 17 (zfa 161 16 2) false [] [] false,zdd 4 18 (zld 4 17) false [] [] false,zdd 5 19 (.unOp .not 4 (Tm 18)) false [] [] false,zdd 6 2 (zas 14) true [] [] false,zdd 7 3 (zas 19) true [] [] false]
def zn56_0:=ZC.seq zn56_1 (ZC.seq zn56_3 (ZC.seq zn56_5 (ZC.seq zn56_7 (ZC.seq zn56_9 ZC.ret))))
def zc56: ZC:=zn56_0
theorem zc56_ok: zcode (xfOf Try.f56).code=some zc56:=by kernel_rfl
def zw56:=zU C zc56.eq_1<|zU C zn56_1.eq_1<|zU C zn56_3.eq_1<|zU C zn56_5.eq_1<|zU C zn56_7.eq_1<|zU C zn56_9.eq_1<|(zunf C zn56_0.eq_1)
theorem rs56: (xfOf Try.f56).rs=[.tmp 2,.tmp 3]:=by kernel_rfl
def xf56:=zF C 56 Try.f56
def zn57_1:=ZC.reg [zu 2 (.box 94 (Tm 0)),zu 3 (.box 94 (Tm 1)),zv 4 (.assign (.const (.bool false)))]
def zn57_3:=ZC.reg [zu 5 (zfa 94 2 0),zu 6 (zld 3 5),zu 7 (zfa 94 3 0),zu 8 (zld 3 7),zu 9 (.binOp .eql 3 (Tm 6) (Tm 8) 3),zu 10 (zmv 9),zug 11 (zfa 94 2 1) 10 true false,zug 12 (zld 3 11) 10 true false,zug 13 (zfa 94 3 1) 10 true false,zug 14 (zld 3 13) 10 true false,zug 15 (.binOp .eql 3 (Tm 12) (Tm 14) 3) 10 true false,zu 16 (.pick (Tm 10) (Tm 15) (.const (.bool false))),zu 17 (zmv 16),zug 18 (zfa 94 2 2) 17 true false,zug 19 (zld 3 18) 17 true false,zug 20 (zfa 94 3 2) 17 true false,zug 21 (zld 3 20) 17 true false,zug 22 (.binOp .eql 3 (Tm 19) (Tm 21) 3) 17 true false,zu 23 (.pick (Tm 17) (Tm 22) (.const (.bool false))),zu 24 (zmv 23),zug 25 (zfa 94 2 3) 24 true false,zug 26 (zld 3 25) 24 true false,zug 27 (zfa 94 3 3) 24 true false,zug 28 (zld 3 27) 24 true false,zug 29 (.binOp .eql 3 (Tm 26) (Tm 28) 3) 24 true false,zu 30 (.pick (Tm 24) (Tm 29) (.const (.bool false))),zu 31 (zmv 30),zug 32 (zfa 94 2 4) 31 true false,zug 33 (zld 4 32) 31 true false,zug 34 (zfa 94 3 4) 31 true false,zug 35 (zld 4 34) 31 true false,zug 36 (.binOp .eql 4 (Tm 33) (Tm 35) 4) 31 true false,zu 37 (.pick (Tm 31) (Tm 36) (.const (.bool false))),zu 38 (zmv 37),zug 39 (zfa 94 2 5) 38 true false,zug 40 (zld 25 39) 38 true false,zug 41 (zfa 94 3 5) 38 true false,zug 42 (zld 25 41) 38 true false,zug 43 (.binOp .eql 25 (Tm 40) (Tm 42) 25) 38 true false,zu 44 (.pick (Tm 38) (Tm 43) (.const (.bool false))),zu 45 (zmv 44),zug 46 (zfa 94 2 6) 45 true false,zug 47 (zld 3 46) 45 true false,zug 48 (zfa 94 3 6) 45 true false,zug 49 (zld 3 48) 45 true false,zug 50 (.binOp .eql 3 (Tm 47) (Tm 49) 3) 45 true false,zu 51 (.pick (Tm 45) (Tm 50) (.const (.bool false))),zu 52 (zmv 51),zug 53 (zfa 94 2 7) 52 true false,zug 54 (zld 3 53) 52 true false,zug 55 (zfa 94 3 7) 52 true false,zug 56 (zld 3 55) 52 true false,zug 57 (.binOp .eql 3 (Tm 54) (Tm 56) 3) 52 true false,zu 58 (.pick (Tm 52) (Tm 57) (.const (.bool false))),zu 59 (zmv 58),zug 60 (zfa 94 2 9) 59 true false,zug 61 (zld 3 60) 59 true false,zug 62 (zfa 94 3 9) 59 true false,zug 63 (zld 3 62) 59 true false,zug 64 (.binOp .eql 3 (Tm 61) (Tm 63) 3) 59 true false,zu 65 (.pick (Tm 59) (Tm 64) (.const (.bool false))),zu 66 (zmv 65),zug 67 (zfa 94 2 11) 66 true false,zug 68 (zld 3 67) 66 true false,zug 69 (zfa 94 3 11) 66 true false,zug 70 (zld 3 69) 66 true false,zug 71 (.binOp .eql 3 (Tm 68) (Tm 70) 3) 66 true false,zu 72 (.pick (Tm 66) (Tm 71) (.const (.bool false))),zu 73 (zmv 72),zug 74 (zfa 94 2 12) 73 true false,zug 75 (zld 3 74) 73 true false,zug 76 (zfa 94 3 12) 73 true false,zug 77 (zld 3 76) 73 true false,zug 78 (.binOp .eql 3 (Tm 75) (Tm 77) 3) 73 true false,zu 79 (.pick (Tm 73) (Tm 78) (.const (.bool false))),zu 80 (zmv 79),zug 81 (zfa 94 2 8) 80 true false,zug 82 (zld 91 81) 80 true false,zug 83 (zfa 94 3 8) 80 true false,zug 84 (zld 91 83) 80 true false,zug 85 (zcf 131 [Tm 82,Tm 84] [91,91]) 80 true false,zu 86 (.pick (Tm 80) (Tm 85) (.const (.bool false))),zu 87 (zmv 86),zug 88 (zfa 94 2 10) 87 true false,zug 89 (zld 92 88) 87 true false,zug 90 (zfa 94 3 10) 87 true false,zug 91 (zld 92 90) 87 true false,zug 92 (zcf 132 [Tm 89,Tm 91] [92,92]) 87 true false,zu 93 (.pick (Tm 87) (Tm 92) (.const (.bool false))),zv 4 (zas 93)]
def zn57_0:=ZC.seq zn57_1 (ZC.seq zn57_3 ZC.ret)
def zc57: ZC:=zn57_0
theorem zc57_ok: zcode (xfOf Try.f57).code=some zc57:=by kernel_rfl
def zw57:=zU C zc57.eq_1<|zU C zn57_1.eq_1<|zU C zn57_3.eq_1<|(zunf C zn57_0.eq_1)
theorem rs57: (xfOf Try.f57).rs=[.tmp 4]:=by kernel_rfl
def xf57:=zF C 57 Try.f57
def zn110_0:=ZC.reg [zu 2 (zld 68 0),zu 3 (zcf 95 [Tm 2] [68]),zu 4 (zcf 111 [Tm 3] [150]),zv0 (.store 94 (Tm 1) (Tm 4))]
def zc110: ZC:=zn110_0
theorem zc110_ok: zcode (xfOf Try.f110).code=some zc110:=by kernel_rfl
def zw110:=zU C zc110.eq_1<|(zunf C zn110_0.eq_1)
theorem rs110: (xfOf Try.f110).rs=[]:=by kernel_rfl
def xf110:=zF C 110 Try.f110
def zn111_1:=ZC.reg [zv 2 (.alloc 94)]
def zn111_3:=ZC.reg [zv 3 (.alloc 94)]
def zn111_5:=ZC.reg [zu 4 (zmv 0),zu 5 (zcf 160 [Tm 4,Kn 3] [150,3]),zu 6 (.convert 25 3 (Tm 5)),zu 7 (zmv 0),zu 8 (zcf 160 [Tm 7,Kn 3] [150,3]),zu 9 (.convert 25 3 (Tm 8)),zu 10 (zfa 94 3 0),zu0 (.store 3 (Tm 10) (Tm 6)),zu 11 (zfa 94 3 1),zv0 (.store 3 (Tm 11) (Tm 9))]
def zn111_7:=ZC.reg [zu 12 (zmv 0),zu 13 (zcf 160 [Tm 12,Kn 16] [150,3]),zu 14 (.convert 25 3 (Tm 13)),zu 15 (zmv 0),zu 16 (zcf 160 [Tm 15,Kn 16] [150,3]),zu 17 (.convert 25 3 (Tm 16)),zu 18 (zfa 94 3 2),zu0 (.store 3 (Tm 18) (Tm 14)),zu 19 (zfa 94 3 3),zv0 (.store 3 (Tm 19) (Tm 17))]
def zn111_9:=ZC.reg [zu 20 (zmv 0),zu 21 (zcf 160 [Tm 20,Kn 1] [150,3]),zu 22 (.binOp .eql 25 (Tm 21) (.const (.int .u64 1)) 25),zu 23 (zmv 0),zu 24 (zcf 160 [Tm 23,Kn 64] [150,3]),zu 25 (zfa 94 3 4),zu0 (.store 4 (Tm 25) (Tm 22)),zu 26 (zfa 94 3 5),zv0 (.store 25 (Tm 26) (Tm 24))]
def zn111_12:=ZC.reg [zu 27 (zfa 94 3 0),zv 28 (zld 3 27)]
def zn111_15:=ZC.reg [zu 30 (.binOp .eql 3 (Tm 28) (Kn 2) 3),zv 29 (zas 30)]
def zn111_18:=ZC.reg [zu 31 (zmv 0),zu 32 (zcf 160 [Tm 31,Kn 10] [150,3]),zu 33 (.convert 25 3 (Tm 32)),zu 34 (zmv 0),zu 35 (zcf 160 [Tm 34,Kn 10] [150,3]),zu 36 (.convert 25 3 (Tm 35)),zu 37 (zfa 94 3 6),zu0 (.store 3 (Tm 37) (Tm 33)),zu 38 (zfa 94 3 7),zv0 (.store 3 (Tm 38) (Tm 36))]
def zn111_20:=ZC.reg [zu 39 (zmv 0),zu 40 (zcf 160 [Tm 39,Kn 5] [150,3]),zu 41 (.convert 25 3 (Tm 40)),zv 42 (.move (Kn 0))]
def zn111_24:=ZC.reg [zv 43 (.binOp .lss 3 (Tm 42) (Tm 41) 3)]
def zn111_29:=ZC.draw 8 [] [zdd 0 44 (zfa 94 3 8) false [] [3] false,zdd 1 45 (zld 91 44) false [] [3] false,zdd 2 46 (zmv 0) true [] [] false,zdd 3 47 (zcf 167 [Tm 46] [150]) true [] [] false,⟨4,some 48,.buildSlice 91 1 ⟨[(0,.tmp 47)]⟩,none,true,[],[],false⟩,zdd 5 49 (zcb .append [Tm 45,Tm 48] [91,91]) true [] [] false,zdd 6 50 (zfa 94 3 8) true [] [] false,zd0 7 (.store 91 (Tm 50) (Tm 49)) true [] [] false]
def zn111_30:=ZC.reg [zu 51 (.binOp .add 3 (Tm 42) (Kn 1) 3),zv 42 (zmv 51)]
def X1l:=ZC.seq zn111_24 (ZC.seq (ZC.cond (Tm 43) ZC.skip (ZC.exit 1)) (ZC.seq (ZC.block 2 zn111_29) zn111_30))
def zn111_32:=ZC.reg [zu 53 (.binOp .eql 3 (Tm 28) (Kn 3) 3),zv 52 (zas 53)]
def zn111_34:=ZC.reg [zu 54 (zmv 0),zv 55 (zcf 168 [Tm 54,Tm 3] [150,215])]
def zn111_36:=ZC.reg [zu 57 (.binOp .eql 3 (Tm 28) (Kn 4) 3),zv 56 (zas 57)]
def zn111_38:=ZC.reg [zu 58 (zmv 0),zu 59 (zcf 160 [Tm 58,Kn 10] [150,3]),zu 60 (.convert 25 3 (Tm 59)),zu 61 (zmv 0),zu 62 (zcf 160 [Tm 61,Kn 62] [150,3]),zu 63 (.convert 25 3 (Tm 62)),zu 64 (zfa 94 3 11),zu0 (.store 3 (Tm 64) (Tm 60)),zu 65 (zfa 94 3 12),zv0 (.store 3 (Tm 65) (Tm 63))]
def zn111_40:=ZC.reg [zu 66 (zld 94 3),zv0 (.store 94 (Tm 2) (Tm 66))]
def zn111_0:=ZC.seq zn111_1 (ZC.seq zn111_3 (ZC.seq zn111_5 (ZC.seq zn111_7 (ZC.seq zn111_9 (ZC.seq (ZC.seq zn111_12 (ZC.block 0 (ZC.seq zn111_15 (ZC.cond (Tm 29) (ZC.seq zn111_18 (ZC.seq zn111_20 (ZC.block 1 (ZC.loop X1l)))) (ZC.seq zn111_32 (ZC.cond (Tm 52) zn111_34 (ZC.seq zn111_36 (ZC.cond (Tm 56) zn111_38 ZC.skip)))))))) (ZC.seq zn111_40 ZC.ret))))))
def zc111: ZC:=zn111_0
theorem zc111_ok: zcode (xfOf Try.f111).code=some zc111:=by kernel_rfl
def zw111:=zU C zc111.eq_1<|zU C zn111_1.eq_1<|zU C zn111_3.eq_1<|zU C zn111_5.eq_1<|zU C zn111_7.eq_1<|zU C zn111_9.eq_1<|zU C zn111_12.eq_1<|zU C zn111_15.eq_1<|zU C zn111_18.eq_1<|zU C zn111_20.eq_1<|zU C zn111_24.eq_1<|zU C zn111_29.eq_1<|zU C zn111_30.eq_1<|zU C X1l.eq_1<|zU C zn111_32.eq_1<|zU C zn111_34.eq_1<|zU C zn111_36.eq_1<|zU C zn111_38.eq_1<|zU C zn111_40.eq_1<|(zunf C zn111_0.eq_1)
theorem rs111: (xfOf Try.f111).rs=[.cell 2 94]:=by kernel_rfl
def xf111:=zF C 111 Try.f111
def zn167_1:=ZC.reg [zv 2 (.alloc 36)]
def zn167_3:=ZC.reg [zu 3 (zmv 0),zu 4 (zcf 160 [Tm 3,Kn 8] [150,3]),zu 5 (.convert 25 3 (Tm 4)),zu 6 (zmv 0),zu 7 (zcf 190 [Tm 6,Kn 8] [150,3]),zu 8 (zmv 0),zu 9 (zcf 190 [Tm 8,Kn 8] [150,3]),⟨some 10,.build 36 ⟨[(0,.tmp 5),(1,.tmp 7),(2,.tmp 9)]⟩,none,false⟩,zv0 (.store 36 (Tm 2) (Tm 10))]
def zn167_0:=ZC.seq zn167_1 (ZC.seq zn167_3 ZC.ret)
def zc167: ZC:=zn167_0
theorem zc167_ok: zcode (xfOf Try.f167).code=some zc167:=by kernel_rfl
def zw167:=zU C zc167.eq_1<|zU C zn167_1.eq_1<|zU C zn167_3.eq_1<|(zunf C zn167_0.eq_1)
theorem rs167: (xfOf Try.f167).rs=[.cell 2 36]:=by kernel_rfl
def xf167:=zF C 167 Try.f167
def zn168_1:=ZC.reg [zu 6 (zmv 1),zu 7 (zmv 0),zu 8 (zcf 160 [Tm 7,Kn 10] [150,3]),zu 9 (.convert 25 3 (Tm 8)),zu 10 (.nilCheck (Tm 6)),zu 11 (zfa 94 10 7),zv0 (.store 3 (Tm 11) (Tm 9))]
def zn168_3:=ZC.reg [zu 12 (zmv 1),zu 13 (zmv 0),zu 14 (zcf 160 [Tm 13,Kn 4] [150,3]),zu 15 (.convert 25 3 (Tm 14)),zu 16 (.nilCheck (Tm 12)),zu 17 (zfa 94 16 9),zv0 (.store 3 (Tm 17) (Tm 15))]
def zn168_5:=ZC.reg [zu 18 (zmv 0),zu 19 (zcf 160 [Tm 18,Kn 4] [150,3]),zu 20 (.convert 25 3 (Tm 19)),zv 21 (.move (Kn 0))]
def zn168_9:=ZC.reg [zv 22 (.binOp .lss 3 (Tm 21) (Tm 20) 3)]
def zn168_15:=ZC.reg [zv 4 (.assign (.const (.slice none 0 0)))]
def zn168_18:=ZC.reg [zu 23 (zmv 1),zu 24 (.nilCheck (Tm 23)),zu 25 (zfa 94 24 9),zu 26 (zld 3 25),zv 27 (.move (Kn 0))]
def zn168_22:=ZC.reg [zv 28 (.binOp .lss 3 (Tm 27) (Tm 26) 3)]
def zn168_28:=ZC.reg [zu 29 (zmv 0),zu 30 (zcf 160 [Tm 29,Kn 1] [150,3]),zu 31 (.binOp .eql 25 (Tm 30) (.const (.int .u64 1)) 25),⟨some 32,.build 110 ⟨[(0,.tmp 31)]⟩,none,false⟩,zu 5 (.alloc 110),zv0 (.store 110 (Tm 5) (Tm 32))]
def zn168_31:=ZC.reg [zu 33 (zfa 110 5 0),zv 34 (zld 4 33)]
def zn168_33:=ZC.reg [zu 35 (zmv 0),zu 36 (zcf 167 [Tm 35] [150]),zu 37 (zfa 110 5 1),zv0 (.store 36 (Tm 37) (Tm 36))]
def zn168_34:=ZC.reg [zu 38 (zmv 4),zu 39 (zld 110 5),⟨some 40,.buildSlice 108 1 ⟨[(0,.tmp 39)]⟩,none,false⟩,zu 41 (zcb .append [Tm 38,Tm 40] [108,108]),zv 4 (zas 41)]
def zn168_35:=ZC.reg [zu 42 (.binOp .add 3 (Tm 27) (Kn 1) 3),zv 27 (zmv 42)]
def V1n:=ZC.seq zn168_22 (ZC.seq (ZC.cond (Tm 28) ZC.skip (ZC.exit 2)) (ZC.seq (ZC.block 3 (ZC.seq zn168_28 (ZC.seq (ZC.seq zn168_31 (ZC.cond (Tm 34) zn168_33 ZC.skip)) zn168_34))) zn168_35))
def zn168_36:=ZC.reg [zu 43 (zmv 1),zu 44 (zmv 1),zu 45 (.nilCheck (Tm 44)),zu 46 (zfa 94 45 10),zu 47 (zld 92 46),zu 48 (zmv 4),⟨some 49,.buildSlice 92 1 ⟨[(0,.tmp 48)]⟩,none,false⟩,zu 50 (zcb .append [Tm 47,Tm 49] [92,92]),zu 51 (.nilCheck (Tm 43)),zu 52 (zfa 94 51 10),zv0 (.store 92 (Tm 52) (Tm 50))]
def zn168_37:=ZC.reg [zu 53 (.binOp .add 3 (Tm 21) (Kn 1) 3),zv 21 (zmv 53)]
def K2c:=ZC.seq zn168_9 (ZC.seq (ZC.cond (Tm 22) ZC.skip (ZC.exit 0)) (ZC.seq (ZC.block 1 (ZC.seq zn168_15 (ZC.seq (ZC.seq zn168_18 (ZC.block 2 (ZC.loop V1n))) zn168_36))) zn168_37))
def zn168_0:=ZC.seq zn168_1 (ZC.seq zn168_3 (ZC.seq zn168_5 (ZC.block 0 (ZC.loop K2c))))
def zc168: ZC:=zn168_0
theorem zc168_ok: zcode (xfOf Try.f168).code=some zc168:=by kernel_rfl
def zw168:=zU C zc168.eq_1<|zU C zn168_1.eq_1<|zU C zn168_3.eq_1<|zU C zn168_5.eq_1<|zU C zn168_9.eq_1<|zU C zn168_15.eq_1<|zU C zn168_18.eq_1<|zU C zn168_22.eq_1<|zU C zn168_28.eq_1<|zU C zn168_31.eq_1<|zU C zn168_33.eq_1<|zU C zn168_34.eq_1<|zU C zn168_35.eq_1<|zU C V1n.eq_1<|zU C zn168_36.eq_1<|zU C zn168_37.eq_1<|zU C K2c.eq_1<|(zunf C zn168_0.eq_1)
theorem rs168: (xfOf Try.f168).rs=[]:=by kernel_rfl
def xf168:=zF C 168 Try.f168
def zn124_1:=ZC.reg [zv 6 (.assign (.const (.bool false)))]
def zn124_3:=ZC.reg [zu 7 (zmv 0),zu 8 (zmv 1),zu 9 (.binOp .geq 3 (Tm 7) (Tm 8) 3),zu 10 (zmv 9),zug 11 (zmv 0) 10 true false,zug 12 (zmv 2) 10 true false,zug 13 (.binOp .leq 3 (Tm 11) (Tm 12) 3) 10 true false,zu 14 (.pick (Tm 10) (Tm 13) (.const (.bool false))),zv 6 (zas 14)]
def zn124_0:=ZC.seq zn124_1 (ZC.seq zn124_3 ZC.ret)
def zc124: ZC:=zn124_0
theorem zc124_ok: zcode (xfOf Try.f124).code=some zc124:=by kernel_rfl
def zw124:=zU C zc124.eq_1<|zU C zn124_1.eq_1<|zU C zn124_3.eq_1<|(zunf C zn124_0.eq_1)
theorem rs124: (xfOf Try.f124).rs=[.tmp 6]:=by kernel_rfl
def xf124:=zF C 124 Try.f124
def zn125_1:=ZC.reg [zu 1 (.box 36 (Tm 0)),zv 2 (.assign (.const (.bool false)))]
def zn125_3:=ZC.reg [zu 3 (zfa 36 1 0),zu 4 (zld 3 3),zu 5 (zcf 124 [Tm 4,Kn 0,Kn 255] [3,3,3]),zu 6 (zmv 5),zug 7 (zfa 36 1 1) 6 true false,zug 8 (zld 3 7) 6 true false,zug 9 (zcf 124 [Tm 8,Kn (-64),Kn 64] [3,3,3]) 6 true false,zu 10 (.pick (Tm 6) (Tm 9) (.const (.bool false))),zu 11 (zmv 10),zug 12 (zfa 36 1 2) 11 true false,zug 13 (zld 3 12) 11 true false,zug 14 (zcf 124 [Tm 13,Kn (-64),Kn 64] [3,3,3]) 11 true false,zu 15 (.pick (Tm 11) (Tm 14) (.const (.bool false))),zv 2 (zas 15)]
def zn125_0:=ZC.seq zn125_1 (ZC.seq zn125_3 ZC.ret)
def zc125: ZC:=zn125_0
theorem zc125_ok: zcode (xfOf Try.f125).code=some zc125:=by kernel_rfl
def zw125:=zU C zc125.eq_1<|zU C zn125_1.eq_1<|zU C zn125_3.eq_1<|(zunf C zn125_0.eq_1)
theorem rs125: (xfOf Try.f125).rs=[.tmp 2]:=by kernel_rfl
def xf125:=zF C 125 Try.f125
def zn126_1:=ZC.reg [zu 1 (.box 94 (Tm 0)),zv 2 (.assign (.const (.bool false)))]
def zn126_4:=ZC.reg [zv 3 (.assign (Kn 0))]
def zn126_9:=ZC.reg [zu 6 (zmv 3),zu 7 (zfa 94 1 10),zu 8 (zld 92 7),zu 9 (zcb .len [Tm 8] [92]),zv 10 (.binOp .lss 3 (Tm 6) (Tm 9) 3)]
def zn126_15:=ZC.draw 9 [] [zdd 0 13 (zfa 94 1 10) false [] [] false,zdd 1 14 (zld 92 13) false [] [] false,zdd 2 15 (zmv 3) false [] [] false,zdd 3 16 (zia 92 14 15) false [] [] false,zdd 4 17 (zld 108 16) false [] [] false,zdd 5 18 (zcb .len [Tm 17] [108]) false [] [] false,zdd 6 19 (zfa 94 1 9) true [] [] false,zdd 7 20 (zld 3 19) true [] [] false,zdd 8 21 (.binOp .neq 3 (Tm 18) (Tm 20) 3) true [] [] false]
def zn126_18:=ZC.reg [zv 2 (.assign (.const (.bool false)))]
def zn126_20:=ZC.reg [zv 4 (.assign (Kn 0))]
def zn126_25:=ZC.reg [zu 22 (zmv 4),zu 23 (zfa 94 1 10),zu 24 (zld 92 23),zu 25 (zmv 3),zu 26 (zia 92 24 25),zu 27 (zld 108 26),zu 28 (zcb .len [Tm 27] [108]),zv 29 (.binOp .lss 3 (Tm 22) (Tm 28) 3)]
def zn126_30:=ZC.reg [zu 32 (zfa 94 1 10),zu 33 (zld 92 32),zu 34 (zmv 3),zu 35 (zia 92 33 34),zu 36 (zld 108 35),zu 37 (zmv 4),zu 38 (zia 108 36 37),zu 39 (zld 110 38),zu 5 (.alloc 110),zv0 (.store 110 (Tm 5) (Tm 39))]
def zn126_32:=ZC.reg [zu 40 (zfa 110 5 1),zu 41 (zld 36 40),zu 42 (zcf 125 [Tm 41] [36]),zu 43 (.unOp .not 4 (Tm 42)),zu 44 (zmv 43),zug 45 (zfa 110 5 0) 44 false false,zug 46 (zld 4 45) 44 false false,zug 47 (.unOp .not 4 (Tm 46)) 44 false false,zug 48 (zmv 47) 44 false false,zug 49 (zfa 110 5 1) 48 true false,zug 50 (zld 36 49) 48 true false,⟨some 51,.build 36 ⟨[]⟩,some (48,true),false⟩,zug 52 (.binOp .neq 36 (Tm 50) (Tm 51) 36) 48 true false,zug 53 (.pick (Tm 48) (Tm 52) (.const (.bool false))) 44 false false,zv 54 (.pick (Tm 44) (.const (.bool true)) (Tm 53))]
def zn126_35:=ZC.reg [zv 2 (.assign (.const (.bool false)))]
def zn126_36:=ZC.reg [zu 30 (zmv 4),zu 31 (.binOp .add 3 (Tm 30) (Kn 1) 3),zv 4 (zas 31)]
def Q1n:=ZC.seq (ZC.seq zn126_25 (ZC.cond (Tm 29) ZC.skip (ZC.exit 2))) (ZC.seq (ZC.block 3 (ZC.seq zn126_30 (ZC.seq zn126_32 (ZC.cond (Tm 54) (ZC.seq zn126_35 ZC.ret) ZC.skip)))) zn126_36)
def zn126_37:=ZC.reg [zu 11 (zmv 3),zu 12 (.binOp .add 3 (Tm 11) (Kn 1) 3),zv 3 (zas 12)]
def Y2m:=ZC.seq (ZC.seq zn126_9 (ZC.cond (Tm 10) ZC.skip (ZC.exit 0))) (ZC.seq (ZC.block 1 (ZC.seq (ZC.seq zn126_15 (ZC.cond (Tm 21) (ZC.seq zn126_18 ZC.ret) ZC.skip)) (ZC.seq zn126_20 (ZC.block 2 (ZC.loop Q1n))))) zn126_37)
def zn126_39:=ZC.reg [zu 55 (zfa 94 1 10),zu 56 (zld 92 55),zu 57 (zcb .len [Tm 56] [92]),zu 58 (.binOp .leq 3 (Tm 57) (Kn 8) 3),zu 59 (zmv 58),zug 60 (zfa 94 1 9) 59 true false,zug 61 (zld 3 60) 59 true false,zug 62 (zcf 124 [Tm 61,Kn 1,Kn 8] [3,3,3]) 59 true false,zu 63 (.pick (Tm 59) (Tm 62) (.const (.bool false))),zv 2 (zas 63)]
def zn126_0:=ZC.seq zn126_1 (ZC.seq (ZC.seq zn126_4 (ZC.block 0 (ZC.loop Y2m))) (ZC.seq zn126_39 ZC.ret))
def zc126: ZC:=zn126_0
theorem zc126_ok: zcode (xfOf Try.f126).code=some zc126:=by kernel_rfl
def zw126:=zU C zc126.eq_1<|zU C zn126_1.eq_1<|zU C zn126_4.eq_1<|zU C zn126_9.eq_1<|zU C zn126_15.eq_1<|zU C zn126_18.eq_1<|zU C zn126_20.eq_1<|zU C zn126_25.eq_1<|zU C zn126_30.eq_1<|zU C zn126_32.eq_1<|zU C zn126_35.eq_1<|zU C zn126_36.eq_1<|zU C Q1n.eq_1<|zU C zn126_37.eq_1<|zU C Y2m.eq_1<|zU C zn126_39.eq_1<|(zunf C zn126_0.eq_1)
theorem rs126: (xfOf Try.f126).rs=[.tmp 2]:=by kernel_rfl
def xf126:=zF C 126 Try.f126
def zn130_1:=ZC.reg [zv 2 (.alloc 36)]
def zn130_3:=ZC.reg [zu 5 (zmv 0),zu 6 (zcf 103 [Tm 5,Kn 8] [159,3]),zu 7 (.convert 25 3 (Tm 6)),zv 3 (zas 7)]
def zn130_5:=ZC.reg [zu 8 (zmv 0),zu 9 (zcf 104 [Tm 8,Kn 8] [159,3]),zv 4 (zas 9)]
def zn130_7:=ZC.reg [zu 10 (zmv 3),zu 11 (zmv 4),zu 12 (zmv 0),zu 13 (zcf 104 [Tm 12,Kn 8] [159,3]),⟨some 14,.build 36 ⟨[(0,.tmp 10),(1,.tmp 11),(2,.tmp 13)]⟩,none,false⟩,zv0 (.store 36 (Tm 2) (Tm 14))]
def zn130_0:=ZC.seq zn130_1 (ZC.seq zn130_3 (ZC.seq zn130_5 (ZC.seq zn130_7 ZC.ret)))
def zc130: ZC:=zn130_0
theorem zc130_ok: zcode (xfOf Try.f130).code=some zc130:=by kernel_rfl
def zw130:=zU C zc130.eq_1<|zU C zn130_1.eq_1<|zU C zn130_3.eq_1<|zU C zn130_5.eq_1<|zU C zn130_7.eq_1<|(zunf C zn130_0.eq_1)
theorem rs130: (xfOf Try.f130).rs=[.cell 2 36]:=by kernel_rfl
def xf130:=zF C 130 Try.f130
def zn131_1:=ZC.reg [zv 4 (.assign (.const (.bool false)))]
def zn131_4:=ZC.reg [zu 6 (zmv 0),zu 7 (zcb .len [Tm 6] [91]),zu 8 (zmv 1),zu 9 (zcb .len [Tm 8] [91]),zv 10 (.binOp .neq 3 (Tm 7) (Tm 9) 3)]
def zn131_7:=ZC.reg [zv 4 (.assign (.const (.bool false)))]
def zn131_10:=ZC.reg [zv 5 (.assign (Kn 0))]
def zn131_15:=ZC.reg [zu 11 (zmv 5),zu 12 (zmv 0),zu 13 (zcb .len [Tm 12] [91]),zv 14 (.binOp .lss 3 (Tm 11) (Tm 13) 3)]
def zn131_20:=ZC.draw 9 [] [zdd 0 17 (zmv 0) false [] [] false,zdd 1 18 (zmv 5) false [] [] false,zdd 2 19 (zia 91 17 18) false [] [] false,zdd 3 20 (zld 36 19) false [] [] false,zdd 4 21 (zmv 1) false [] [] false,zdd 5 22 (zmv 5) true [] [] false,zdd 6 23 (zia 91 21 22) true [] [] false,zdd 7 24 (zld 36 23) true [] [] false,zdd 8 25 (.binOp .neq 36 (Tm 20) (Tm 24) 36) true [] [] false]
def zn131_23:=ZC.reg [zv 4 (.assign (.const (.bool false)))]
def zn131_24:=ZC.reg [zu 15 (zmv 5),zu 16 (.binOp .add 3 (Tm 15) (Kn 1) 3),zv 5 (zas 16)]
def Z1k:=ZC.seq (ZC.seq zn131_15 (ZC.cond (Tm 14) ZC.skip (ZC.exit 0))) (ZC.seq (ZC.block 1 (ZC.seq zn131_20 (ZC.cond (Tm 25) (ZC.seq zn131_23 ZC.ret) ZC.skip))) zn131_24)
def zn131_26:=ZC.reg [zv 4 (.assign (.const (.bool true)))]
def zn131_0:=ZC.seq zn131_1 (ZC.seq (ZC.seq zn131_4 (ZC.cond (Tm 10) (ZC.seq zn131_7 ZC.ret) ZC.skip)) (ZC.seq (ZC.seq zn131_10 (ZC.block 0 (ZC.loop Z1k))) (ZC.seq zn131_26 ZC.ret)))
def zc131: ZC:=zn131_0
theorem zc131_ok: zcode (xfOf Try.f131).code=some zc131:=by kernel_rfl
def zw131:=zU C zc131.eq_1<|zU C zn131_1.eq_1<|zU C zn131_4.eq_1<|zU C zn131_7.eq_1<|zU C zn131_10.eq_1<|zU C zn131_15.eq_1<|zU C zn131_20.eq_1<|zU C zn131_23.eq_1<|zU C zn131_24.eq_1<|zU C Z1k.eq_1<|zU C zn131_26.eq_1<|(zunf C zn131_0.eq_1)
theorem rs131: (xfOf Try.f131).rs=[.tmp 4]:=by kernel_rfl
def xf131:=zF C 131 Try.f131
def zn132_1:=ZC.reg [zv 4 (.assign (.const (.bool false)))]
def zn132_4:=ZC.reg [zu 6 (zmv 0),zu 7 (zcb .len [Tm 6] [92]),zu 8 (zmv 1),zu 9 (zcb .len [Tm 8] [92]),zv 10 (.binOp .neq 3 (Tm 7) (Tm 9) 3)]
def zn132_7:=ZC.reg [zv 4 (.assign (.const (.bool false)))]
def zn132_10:=ZC.reg [zv 5 (.assign (Kn 0))]
def zn132_15:=ZC.reg [zu 11 (zmv 5),zu 12 (zmv 0),zu 13 (zcb .len [Tm 12] [92]),zv 14 (.binOp .lss 3 (Tm 11) (Tm 13) 3)]
def zn132_20:=ZC.draw 10 [] [zdd 0 17 (zmv 0) false [] [] false,zdd 1 18 (zmv 5) false [] [] false,zdd 2 19 (zia 92 17 18) false [] [] false,zdd 3 20 (zld 108 19) false [] [] false,zdd 4 21 (zmv 1) false [] [] false,zdd 5 22 (zmv 5) true [] [] false,zdd 6 23 (zia 92 21 22) true [] [] false,zdd 7 24 (zld 108 23) true [] [] false,zdd 8 25 (zcf 175 [Tm 20,Tm 24] [108,108]) true [] [] false,zdd 9 26 (.unOp .not 4 (Tm 25)) true [] [] false]
def zn132_23:=ZC.reg [zv 4 (.assign (.const (.bool false)))]
def zn132_24:=ZC.reg [zu 15 (zmv 5),zu 16 (.binOp .add 3 (Tm 15) (Kn 1) 3),zv 5 (zas 16)]
def K1n:=ZC.seq (ZC.seq zn132_15 (ZC.cond (Tm 14) ZC.skip (ZC.exit 0))) (ZC.seq (ZC.block 1 (ZC.seq zn132_20 (ZC.cond (Tm 26) (ZC.seq zn132_23 ZC.ret) ZC.skip))) zn132_24)
def zn132_26:=ZC.reg [zv 4 (.assign (.const (.bool true)))]
def zn132_0:=ZC.seq zn132_1 (ZC.seq (ZC.seq zn132_4 (ZC.cond (Tm 10) (ZC.seq zn132_7 ZC.ret) ZC.skip)) (ZC.seq (ZC.seq zn132_10 (ZC.block 0 (ZC.loop K1n))) (ZC.seq zn132_26 ZC.ret)))
def zc132: ZC:=zn132_0
theorem zc132_ok: zcode (xfOf Try.f132).code=some zc132:=by kernel_rfl
def zw132:=zU C zc132.eq_1<|zU C zn132_1.eq_1<|zU C zn132_4.eq_1<|zU C zn132_7.eq_1<|zU C zn132_10.eq_1<|zU C zn132_15.eq_1<|zU C zn132_20.eq_1<|zU C zn132_23.eq_1<|zU C zn132_24.eq_1<|zU C K1n.eq_1<|zU C zn132_26.eq_1<|(zunf C zn132_0.eq_1)
theorem rs132: (xfOf Try.f132).rs=[.tmp 4]:=by kernel_rfl
def xf132:=zF C 132 Try.f132
def zn175_1:=ZC.reg [zv 4 (.assign (.const (.bool false)))]
def zn175_4:=ZC.reg [zu 6 (zmv 0),zu 7 (zcb .len [Tm 6] [108]),zu 8 (zmv 1),zu 9 (zcb .len [Tm 8] [108]),zv 10 (.binOp .neq 3 (Tm 7) (Tm 9) 3)]
def zn175_7:=ZC.reg [zv 4 (.assign (.const (.bool false)))]
def zn175_10:=ZC.reg [zv 5 (.assign (Kn 0))]
def zn175_15:=ZC.reg [zu 11 (zmv 5),zu 12 (zmv 0),zu 13 (zcb .len [Tm 12] [108]),zv 14 (.binOp .lss 3 (Tm 11) (Tm 13) 3)]
def zn175_20:=ZC.draw 9 [] [zdd 0 17 (zmv 0) false [] [] false,zdd 1 18 (zmv 5) false [] [] false,zdd 2 19 (zia 108 17 18) false [] [] false,zdd 3 20 (zld 110 19) false [] [] false,zdd 4 21 (zmv 1) false [] [] false,zdd 5 22 (zmv 5) true [] [] false,zdd 6 23 (zia 108 21 22) true [] [] false,zdd 7 24 (zld 110 23) true [] [] false,zdd 8 25 (.binOp .neq 110 (Tm 20) (Tm 24) 110) true [] [] false]
def zn175_23:=ZC.reg [zv 4 (.assign (.const (.bool false)))]
def zn175_24:=ZC.reg [zu 15 (zmv 5),zu 16 (.binOp .add 3 (Tm 15) (Kn 1) 3),zv 5 (zas 16)]
def Y1m:=ZC.seq (ZC.seq zn175_15 (ZC.cond (Tm 14) ZC.skip (ZC.exit 0))) (ZC.seq (ZC.block 1 (ZC.seq zn175_20 (ZC.cond (Tm 25) (ZC.seq zn175_23 ZC.ret) ZC.skip))) zn175_24)
def zn175_26:=ZC.reg [zv 4 (.assign (.const (.bool true)))]
def zn175_0:=ZC.seq zn175_1 (ZC.seq (ZC.seq zn175_4 (ZC.cond (Tm 10) (ZC.seq zn175_7 ZC.ret) ZC.skip)) (ZC.seq (ZC.seq zn175_10 (ZC.block 0 (ZC.loop Y1m))) (ZC.seq zn175_26 ZC.ret)))
def zc175: ZC:=zn175_0
theorem zc175_ok: zcode (xfOf Try.f175).code=some zc175:=by kernel_rfl
def zw175:=zU C zc175.eq_1<|zU C zn175_1.eq_1<|zU C zn175_4.eq_1<|zU C zn175_7.eq_1<|zU C zn175_10.eq_1<|zU C zn175_15.eq_1<|zU C zn175_20.eq_1<|zU C zn175_23.eq_1<|zU C zn175_24.eq_1<|zU C Y1m.eq_1<|zU C zn175_26.eq_1<|(zunf C zn175_0.eq_1)
theorem rs175: (xfOf Try.f175).rs=[.tmp 4]:=by kernel_rfl
def xf175:=zF C 175 Try.f175
def zn13_1:=ZC.reg [zu 6 (.box 90 (Tm 0)),zv 12 (.assign (.const (.bool false)))]
def zn13_3:=ZC.reg [zu 28 (zld 90 6),zu 29 (zcf 45 [Tm 28] [90]),zu 13 (.alloc 94),zv0 (.store 94 (Tm 13) (Tm 29))]
def zn13_5:=ZC.reg [zu 30 (zmv 1),zu 31 (zcf 37 [Tm 30,Kn 2147483647] [3,3]),zv 1 (zas 31)]
def zn13_7:=ZC.reg [zu 33 (zmv 1),zu 34 (zld 94 13),zu 35 (zcf 46 [Tm 33,Tm 34] [3,94]),zu 32 (zmv 35),zu 36 (.extract (Tm 32) 0),zu 37 (.extract (Tm 32) 1),zu 14 (zas 36),zv 15 (zas 37)]
def zn13_9:=ZC.reg [zu 39 (zmv 1),zu 40 (zld 94 13),zu 41 (zcf 51 [Tm 39,Tm 40] [3,94]),zu 38 (zmv 41),zu 42 (.extract (Tm 38) 0),zu 43 (.extract (Tm 38) 1),zu 16 (zas 42),zv 17 (zas 43)]
def zn13_12:=ZC.draw 26 [] [zdd 0 44 (zmv 14) false [] [] false,zdd 1 45 (.convert 68 9 (Tm 44)) false [] [] false,zdd 2 46 (zmv 16) true [] [] false,zdd 3 47 (.convert 68 9 (Tm 46)) true [] [] false,zdd 4 48 (.binOp .neq 9 (Tm 45) (Tm 47) 9) true [] [] false,zdd 5 49 (zmv 48) true [] [] false,⟨6,some 50,zmv 15,some (49,false),false,[],[],false⟩,⟨7,some 51,.binOp .eql 69 (Tm 50) (Kn 0) 69,some (49,false),false,[],[],false⟩,⟨8,some 52,zmv 17,some (49,false),true,[],[],false⟩,⟨9,some 53,.binOp .neq 4 (Tm 51) (Tm 52) 4,some (49,false),true,[],[],false⟩,zdd 10 54 (.pick (Tm 49) (.const (.bool true)) (Tm 53)) true [] [] false,zdd 11 55 (zmv 54) true [] [] false,⟨12,some 56,zmv 17,some (55,false),true,[],[],false⟩,⟨13,some 57,.unOp .not 4 (Tm 56),some (55,false),true,[],[],false⟩,⟨14,some 58,zmv 57,some (55,false),true,[],[],false⟩,⟨15,some 59,zmv 15,some (58,true),true,[],[],false⟩,⟨16,some 60,.binOp .neq 69 (Tm 59) (Kn 1) 69,some (58,true),true,[],[],false⟩,⟨17,some 61,.pick (Tm 58) (Tm 60) (.const (.bool false)),some (55,false),true,[],[],false⟩,zdd 18 62 (.pick (Tm 55) (.const (.bool true)) (Tm 61)) true [] [] false,zdd 19 63 (zmv 62) true [] [] false,⟨20,some 64,zld 94 13,some (63,false),false,[],[],false⟩,⟨21,some 65,zcf 50 [Tm 64] [94],some (63,false),false,[],[],true⟩,⟨22,some 66,zld 94 13,some (63,false),true,[21],[],false⟩,⟨23,some 67,zcf 52 [Tm 66] [94],some (63,false),true,[],[],false⟩,⟨24,some 68,.binOp .neq 4 (Tm 65) (Tm 67) 4,some (63,false),true,[],[],false⟩,zdd 25 69 (.pick (Tm 63) (.const (.bool true)) (Tm 68)) true [] [] false]
def zn13_15:=ZC.reg [zv 12 (.assign (.const (.bool false)))]
def V11:=ZC.reg [zu 70 (zmv 2),zu 71 (zmv 2),zu 72 (zcb .len [Tm 71] [68]),zu 73 (zcf 42 [Tm 70,Tm 72] [68,3]),zv 18 (zas 73)]
def X1x:=ZC.reg [zu 74 (zmv 17),zu 75 (zmv 74),zug 76 (zmv 3) 75 true false,zug 77 (.binOp .rem 3 (Tm 76) (Kn 5) 3) 75 true false,zug 78 (.binOp .gtr 3 (Tm 77) (Kn 0) 3) 75 true false,zv 79 (.pick (Tm 75) (Tm 78) (.const (.bool false)))]
def X1y:=ZC.reg [zu 80 (zmv 16),zu 81 (zmv 16),zu 82 (zcb .len [Tm 81] [68]),zu 83 (zcf 42 [Tm 80,Tm 82] [68,3]),zv 18 (zas 83)]
def K1t:=ZC.reg [zu 84 (zmv 3),zu 85 (.binOp .rem 3 (Tm 84) (Kn 5) 3),zu 86 (.binOp .gtr 3 (Tm 85) (Kn 1) 3),zu 87 (zmv 86),zug 88 (zmv 18) 87 true false,zug 89 (zcb .len [Tm 88] [68]) 87 true false,zug 90 (.binOp .gtr 3 (Tm 89) (Kn 4) 3) 87 true false,zv 91 (.pick (Tm 87) (Tm 90) (.const (.bool false)))]
def V1w:=ZC.reg [zu 92 (zmv 18),zu 93 (zmv 18),zu 94 (zcb .len [Tm 93] [68]),zu 95 (.binOp .sub 3 (Tm 94) (Kn 4) 3),zu 96 (.slice 68 (Tm 92) none (some (Tm 95)) none),zv 18 (zas 96)]
def Z1v:=ZC.reg [zv 19 (.assign (Kn 0))]
def zn13_36:=ZC.reg [zu 97 (zmv 19),zu 98 (zmv 4),zu 99 (zcb .len [Tm 98] [24]),zu 100 (.binOp .lss 3 (Tm 97) (Tm 99) 3),zu 101 (zmv 100),zug 102 (zmv 19) 101 true false,zug 103 (.binOp .lss 3 (Tm 102) (Kn 2) 3) 101 true false,zv 104 (.pick (Tm 101) (Tm 103) (.const (.bool false)))]
def zn13_40:=ZC.reg [zu 107 (zmv 18),zu 108 (zmv 4),zu 109 (zmv 19),zu 110 (zia 24 108 109),zu 111 (zld 3 110),zu 112 (zmv 18),zu 113 (zcb .len [Tm 112] [68]),zu 114 (zcf 37 [Tm 111,Tm 113] [3,3]),zu 115 (zia 68 107 114),zu 116 (zld 5 115),zu 117 (zmv 5),zu 118 (.binOp .xor 5 (Tm 116) (Tm 117) 5),zu 119 (zia 68 107 114),zv0 (.store 5 (Tm 119) (Tm 118))]
def zn13_41:=ZC.reg [zu 105 (zmv 19),zu 106 (.binOp .add 3 (Tm 105) (Kn 1) 3),zv 19 (zas 106)]
def X04:=ZC.seq (ZC.seq zn13_36 (ZC.cond (Tm 104) ZC.skip (ZC.exit 0))) (ZC.seq (ZC.block 1 zn13_40) zn13_41)
def K1g:=ZC.reg [zu 120 (zmv 1),zu 121 (zmv 18),zu 122 (zmv 18),zu 123 (zcb .len [Tm 122] [68]),zu 124 (zmv 3),zu 125 (.binOp .quo 3 (Tm 124) (Kn 5) 3),zu 126 (zcf 37 [Tm 125,Kn 9] [3,3]),zu 127 (.binOp .quo 3 (Tm 126) (Kn 8) 3),zu 128 (.binOp .sub 3 (Tm 123) (Tm 127) 3),zu 129 (.slice 68 (Tm 121) none (some (Tm 128)) none),zu 130 (zcf 53 [Tm 120,Tm 129] [3,68]),zv 18 (zas 130)]
def Y1x:=ZC.reg [zu 132 (zmv 1),zu 133 (zmv 18),zu 134 (zcf 48 [Tm 132,Tm 133] [3,68]),zu 131 (zmv 134),zu 135 (.extract (Tm 131) 0),zu 136 (.extract (Tm 131) 1),zu 20 (.alloc 94),zu0 (.store 94 (Tm 20) (Tm 135)),zv 21 (zas 136)]
def K1z:=ZC.reg [zu 138 (zmv 1),zu 139 (zmv 18),zu 140 (zcf 54 [Tm 138,Tm 139] [3,68]),zu 137 (zmv 140),zu 141 (.extract (Tm 137) 0),zu 142 (.extract (Tm 137) 1),zu 22 (.alloc 94),zu0 (.store 94 (Tm 22) (Tm 141)),zv 23 (zas 142)]
def X1t:=ZC.reg [zu 144 (zmv 18),zu 145 (zcf 55 [Tm 144] [68]),zu 143 (zmv 145),zu 146 (.extract (Tm 143) 0),zu 147 (.extract (Tm 143) 1),zu 24 (zas 146),zv 25 (zas 147)]
def X1r:=ZC.reg [zu 149 (zmv 18),zu 150 (zcf 56 [Tm 149] [68]),zu 148 (zmv 150),zu 151 (.extract (Tm 148) 0),zu 152 (.extract (Tm 148) 1),zu 26 (zas 151),zv 27 (zas 152)]
def X1p:=ZC.draw 39 [] [zdd 0 153 (zcf 47 [] []) true [] [] false,zdd 1 154 (zmv 153) true [] [] false,⟨2,some 155,zmv 21,some (154,true),false,[],[],false⟩,⟨3,some 156,zmv 23,some (154,true),true,[],[],false⟩,⟨4,some 157,.binOp .eql 69 (Tm 155) (Tm 156) 69,some (154,true),true,[],[],false⟩,zdd 5 158 (.pick (Tm 154) (Tm 157) (.const (.bool false))) true [] [] false,zdd 6 159 (zmv 158) true [] [] false,⟨7,some 160,zld 94 20,some (159,true),false,[],[],false⟩,⟨8,some 161,zld 94 22,some (159,true),true,[],[],false⟩,⟨9,some 162,zcf 57 [Tm 160,Tm 161] [94,94],some (159,true),true,[],[],false⟩,zdd 10 163 (.pick (Tm 159) (Tm 162) (.const (.bool false))) true [] [] false,zdd 11 164 (zmv 163) true [] [] false,⟨12,some 165,zmv 25,some (164,true),false,[],[],false⟩,⟨13,some 166,zmv 27,some (164,true),true,[],[],false⟩,⟨14,some 167,.binOp .eql 4 (Tm 165) (Tm 166) 4,some (164,true),true,[],[],false⟩,zdd 15 168 (.pick (Tm 164) (Tm 167) (.const (.bool false))) true [] [] false,zdd 16 169 (zmv 168) true [] [] false,⟨17,some 170,zmv 24,some (169,true),false,[],[],false⟩,⟨18,some 171,zmv 26,some (169,true),true,[],[],false⟩,⟨19,some 172,.binOp .eql 3 (Tm 170) (Tm 171) 3,some (169,true),true,[],[],false⟩,⟨20,some 173,zmv 172,some (169,true),true,[],[],false⟩,⟨21,some 174,zmv 25,some (173,false),true,[],[],false⟩,⟨22,some 175,.unOp .not 4 (Tm 174),some (173,false),true,[],[],false⟩,⟨23,some 176,zmv 175,some (173,false),true,[],[],false⟩,⟨24,some 177,zmv 24,some (176,true),true,[],[],false⟩,⟨25,some 178,.binOp .eql 3 (Tm 177) (Kn 0) 3,some (176,true),true,[],[],false⟩,⟨26,some 179,.pick (Tm 176) (Tm 178) (.const (.bool false)),some (173,false),true,[],[],false⟩,⟨27,some 180,.pick (Tm 173) (.const (.bool true)) (Tm 179),some (169,true),true,[],[],false⟩,zdd 28 181 (.pick (Tm 169) (Tm 180) (.const (.bool false))) true [] [] false,zdd 29 182 (zmv 181) true [] [] false,⟨30,some 183,zld 94 13,some (182,true),false,[],[],false⟩,⟨31,some 184,zld 94 20,some (182,true),false,[],[],false⟩,⟨32,some 185,zcf 49 [Tm 183,Tm 184] [94,94],some (182,true),false,[],[],true⟩,⟨33,some 186,zld 94 13,some (182,true),false,[32],[],false⟩,⟨34,some 187,zld 94 22,some (182,true),true,[32],[],false⟩,⟨35,some 188,zcf 57 [Tm 186,Tm 187] [94,94],some (182,true),true,[],[],false⟩,⟨36,some 189,.binOp .eql 4 (Tm 185) (Tm 188) 4,some (182,true),true,[],[],false⟩,zdd 37 190 (.pick (Tm 182) (Tm 189) (.const (.bool false))) true [] [] false,zdd 38 12 (zas 190) true [] [] false]
def zn13_0:=ZC.seq zn13_1 (ZC.seq zn13_3 (ZC.seq zn13_5 (ZC.seq zn13_7 (ZC.seq zn13_9 (ZC.seq (ZC.seq zn13_12 (ZC.cond (Tm 69) (ZC.seq zn13_15 ZC.ret) ZC.skip)) (ZC.seq V11 (ZC.seq (ZC.seq X1x (ZC.cond (Tm 79) (ZC.seq X1y (ZC.seq K1t (ZC.cond (Tm 91) (ZC.seq V1w (ZC.seq (ZC.seq Z1v (ZC.block 0 (ZC.loop X04))) K1g)) ZC.skip))) ZC.skip)) (ZC.seq Y1x (ZC.seq K1z (ZC.seq X1t (ZC.seq X1r (ZC.seq X1p ZC.ret))))))))))))
def zc13: ZC:=zn13_0
theorem zc13_ok: zcode (xfOf Try.f13).code=some zc13:=by kernel_rfl
def zw13:=zU C zc13.eq_1<|zU C zn13_1.eq_1<|zU C zn13_3.eq_1<|zU C zn13_5.eq_1<|zU C zn13_7.eq_1<|zU C zn13_9.eq_1<|zU C zn13_12.eq_1<|zU C zn13_15.eq_1<|zU C V11.eq_1<|zU C X1x.eq_1<|zU C X1y.eq_1<|zU C K1t.eq_1<|zU C V1w.eq_1<|zU C Z1v.eq_1<|zU C zn13_36.eq_1<|zU C zn13_40.eq_1<|zU C zn13_41.eq_1<|zU C X04.eq_1<|zU C K1g.eq_1<|zU C Y1x.eq_1<|zU C K1z.eq_1<|zU C X1t.eq_1<|zU C X1r.eq_1<|zU C X1p.eq_1<|(zunf C zn13_0.eq_1)
theorem rs13: (xfOf Try.f13).rs=[.tmp 12]:=by kernel_rfl
def xf13:=zF C 13 Try.f13
end Go.Proofs.Ytpchcfkebljopaa
end
section
namespace Go.Proofs.Ytpchcfkebljopaa
open Go.Cl Go Go.RowKit
set_option maxRecDepth 100000
set_option linter.constructorNameAsVariable false
theorem Z0e(l:List Int): (partB l).l=l:=nd rfl
theorem Y1k{a:Q0a}(h:packRight a=true): packSm a:=by
 refine⟨?_,?_⟩
 ·by_cases h2:a.Kind=2
  ·have:=(X2i h h2).1;omega
  ·rw[(right_ins h h2).1];exact Nat.zero_le _
 ·by_cases h3:a.Kind=3
  ·obtain⟨h1,hn,hr⟩:=Z0t (X2m h h3)
   exact⟨h1,fun x hx=>⟨fun e=>by have:=(hr x hx).1;rw[e]at this;simp at this;omega,by have:=(hr x hx).1;omega⟩⟩
  ·rw[rowsSm,(Y1g h h3).1];exact⟨Nat.zero_le _,nofun⟩
theorem V1h(l:List Bool): ∀x∈packB l,0<=x/\x<=255:=by
 intro x hx
 simp only[packB,List.mem_map]at hx
 obtain⟨i,_,rfl⟩:=hx
 exact Z0z _ _
theorem packB_ne{l:List Bool}(h:l≠[]): packB l≠[]:=fun e=>h (packB_nil.1 e)
def R46: Rel:=fun args p r=>∃(key:Int) (a:Q0a),args=[I key,a.cv]/\(-9223372036854775808<=key/\key<=9223372036854775807)/\(packOk a)/\r=if packRight a=true then .ret (.tup [Lst.cv Y8 (partB (layP key a)),I 0]) p else .ret (.tup [Lst.cv Y8 nilB,I 1]) p
theorem t46{T:XCall}(h:Has T 46 R46)(key:Int)(a:Q0a){p:Hp}(hk:-9223372036854775808<=key/\key<=9223372036854775807)(h1:packOk a): T 46 [I key,a.cv] p=if packRight a=true then .ret (.tup [Lst.cv Y8 (partB (layP key a)),I 0]) p else .ret (.tup [Lst.cv Y8 nilB,I 1]) p:=h _ _ _ ⟨key,a,rfl,hk,h1,rfl⟩
theorem zdis46{P:Prop}(h:P:=by first|exact zdis|(simp only[Hp.bump_n,Hp.znew_n,Hp.zset_n,List.length_nil,List.length_cons,List.length_append,List.length_map,Z0e];(first|done|omega))|(simp (disch:=first|exact zd1|(simp only[Hp.bump_n,Hp.znew_n,Hp.zset_n,List.length_nil,List.length_cons,List.length_append,List.length_map,Z0e];(first|done|omega))) only[zheap,zx];(first|done|rfl))|fail): P:=h
theorem zq46{A B:Prop}(k:B)(h:A=B:=by have zy:=zA @zw46<|zA @rs46<|zA @tt94<|zA ti94.eq_1<|zA @t_50<|zA @t_107<|zA @t_108<|zA @K0e<|zA @Z0e<|zA @hk<|@h1;have zd:=@zdis46;exact zQd): A:=h▸k
theorem c46: Con C 46 R46:=by
 refine V0e C ?_ ?_ ?_
 ·rintro args p r r' ⟨key,a,h,hk,h1,e⟩ ⟨key',a',h',hk',h1',e'⟩
  subst e;subst e';simp_all[Q0a.inj_iff]
 ·rintro args p r ⟨key,a,h,hk,h1,rfl⟩;exact zr1
 rintro args p r ⟨key,a,rfl,hk,h1,rfl⟩
 refine zW C false [(50,R50),(107,R107),(108,R108)] ⟨c50,c107,c108,zT⟩ rfl xf46 zc46_ok fun call zh hF=>?_
 have t_50:=@t50 _ zh.1
 have t_107:=@t107 _ zh.2.1
 have t_108:=@t108 _ zh.2.2.1
 clear zh
 cases hR:packRight a with
 |false=>
  rw[if_neg Bool.false_ne_true]
  (have zx:=hR;refine zq46 ?_;try exact zT)
  repeat'(apply zK.s<;>intro hc<;>(try simp only[zhd]at hc)<;>(try have hw:=K0a hc)<;>(refine zq46 ?_;try exact zT))
  all_goals(try clear zx)
  exact V0c hF zle (V0d (K0c (by intro jj;simp[CV.has,CV.hasL,Lst.cv,nilB])))
 |true=>
  have hsm:=Y1k hR
  have hne:=packB_ne (X0x a)
  have hnv:(partB (packB (packBits a))).tl≠.view:=nofun
  have hle:=Q0q hsm
  have hpl:=K0g (packBits a)
  have hlb:∀x∈packB (packBits a),0<=x/\x<=255:=V1h _
  rw[if_pos rfl]
  (have zx:=zA hR (zA hsm (zA hne (zA hnv hlb)));refine zq46 ?_;try exact zT)
  repeat'(apply zK.s<;>intro hc<;>(try simp only[zhd]at hc)<;>(try have hw:=K0a hc)<;>(refine zq46 ?_;try exact zT))
  all_goals(try clear zx)
  exact V0c hF zle (V0d (K0c (by intro jj;simp[CV.has,CV.hasL,Lst.cv,partB,Z0h Y0l])))
theorem and7{x:Int}(h:0<=x/\x<=255): IntKind.i64.wrap ((BitVec.ofInt IntKind.i64.bits (IntKind.i64.wrap (x.fdiv (2^min 2 IntKind.u8.bits))) &&&BitVec.ofInt IntKind.i64.bits 7).toNat:Int)=x/4 % 8:=by
 have e1:x.fdiv (2^min 2 IntKind.u8.bits)=x/4:=by rw[show min 2 IntKind.u8.bits=2 from rfl,Int.fdiv_eq_ediv_of_nonneg _ (by omega)];rfl
 have e2:IntKind.i64.wrap (x/4)=x/4:=X0p (by omega) (by omega)
 have e3:(BitVec.ofInt IntKind.i64.bits (x/4) &&&BitVec.ofInt IntKind.i64.bits 7).toNat=(x/4).toNat % 8:=by
  rw[BitVec.toNat_and,BitVec.toNat_ofInt,BitVec.toNat_ofInt,show IntKind.i64.bits=64 from rfl,show((7:Int) % ((2^64:Nat):Int)).toNat=2^3-1 from rfl,Nat.and_two_pow_sub_one_eq_mod]
  omega
 rw[e1,e2,e3,X0p (by omega) (by omega)]
 omega
def R55: Rel:=fun args p r=>∃(s:Lst Int),args=[s.cv Y8]/\(∀x∈s.l,0<=x/\x<=255)/\r=.ret (.tup [I (slotB s.l),Bo (decide (s.l≠[]))]) p
theorem zq55{A B:Prop}(k:B)(h:A=B:=by have zy:=zA @zw55<|zA @rs55<|zA @tt3<|zA @tt5<|zA @tt68<|zA @tt178<|zA ti3.eq_1<|zA ti5.eq_1<|zA ti68.eq_1<|zA ti178.eq_1<|zA @zsl68<|@h5;exact zQ): A:=h▸k
theorem c55: Con C 55 R55:=by
 refine V0e C ?_ ?_ ?_
 ·rintro args p r r' ⟨s,h,h5,e⟩ ⟨s',h',h5',e'⟩
  subst e;subst e';simp_all[X0f]
 ·rintro args p r ⟨s,h,h5,rfl⟩;exact zr1
 rintro args p r ⟨s,rfl,h5,rfl⟩
 refine zW C false [] zT rfl xf55 zc55_ok fun call zh hF=>?_
 clear zh
 by_cases h0:s.l=[]
 ·have hl:(s.l.length:Int)=0:=by rw[h0];rfl
  (have zx:=hl;refine zq55 ?_;try exact zT)
  repeat'(apply zK.s<;>intro hc<;>(try simp only[zhd]at hc)<;>(try have hw:=K0a hc)<;>(refine zq55 ?_;try exact zT))
  all_goals(try clear zx)
  exact V0c hF zle (Q0d (by simp[slotB,h0]) (K0c (by intro jj;simp[CV.has,CV.hasL])))
 ·have hl0:0<s.l.length:=List.length_pos_iff.2 h0
  have hl:¬(s.l.length:Int)=0:=by omega
  have hb:=h5 (nth s.l 0) (by rw[Y0h hl0];exact List.getElem_mem _)
  have h7:=and7 hb
  (have zx:=zA hl (zA hl0 h7);refine zq55 ?_;try exact zT)
  repeat'(apply zK.s<;>intro hc<;>(try simp only[zhd]at hc)<;>(try have hw:=K0a hc)<;>(refine zq55 ?_;try exact zT))
  all_goals(try clear zx)
  exact V0c hF zle (Q0d (by simp[slotB,h0]) (K0c (by intro jj;simp[CV.has,CV.hasL])))
end Go.Proofs.Ytpchcfkebljopaa
end
section
namespace Go.Proofs.Ytpchcfkebljopaa
open Go.Cl Go Go.RowKit
def lstP{α:Type}(l:List α): Lst α:=if h:l=[] then⟨.nil,[],fun _=>rfl⟩ else⟨.part,l,nofun⟩
theorem Q0u{α:Type}(l:List α): (lstP l).l=l:=by
 unfold lstP
 split
 ·rename_i h;rw[h]
 ·rfl
def rowsP(l:List (List X0a)): Lst (Lst X0a):=lstP (l.map lstP)
theorem Q2m(l:List (List X0a)): rowsL (rowsP l)=l:=by
 rw[rowsL,rowsP,Q0u,List.map_map]
 have:(Lst.l∘lstP:List X0a->List X0a)=id:=funext fun x=>Q0u x
 rw[this,List.map_id]
def readIn(b:List Int)(a:Nat): Except Int (Y0a×Nat):=bindE (getB b 8 a) fun u a=>bindE (sgetB b 8 a) fun x a=>bindE (sgetB b 8 a) fun y a=>.ok (⟨u,x,y⟩,a)
def readCell(b:List Int)(a:Nat): Except Int (X0a×Nat):=bindE (getB b 1 a) fun f a=>if f=1 then bindE (readIn b a) fun i a=>.ok (⟨true,i⟩,a)else .ok (⟨false,Y0a.zero⟩,a)
def readRow(b:List Int)(a:Nat): Nat->Except Int (List X0a×Nat)
 |0=>.ok ([],a)
 |k+1=>bindE (readRow b a k) fun l a=>bindE (readCell b a) fun c a=>.ok (l++[c],a)
def readRows(b:List Int)(m a:Nat): Nat->Except Int (List (List X0a)×Nat)
 |0=>.ok ([],a)
 |k+1=>bindE (readRows b m a k) fun l a=>bindE (readRow b a m) fun r a=>.ok (l++[r],a)
def readIns(b:List Int)(a:Nat): Nat->Except Int (List Y0a×Nat)
 |0=>.ok ([],a)
 |k+1=>bindE (readIns b a k) fun l a=>bindE (readIn b a) fun c a=>.ok (l++[c],a)
theorem Q1z{b:List Int}{a:Nat}{e:Int}: ∀{k:Nat} (d:Nat),readRow b a k=.error e->readRow b a (k+d)=.error e
 |_,0,h=>h
 |k,d+1,h=>by
  show bindE (readRow b a (k+d)) _=_
  rw[Q1z d h,V0f]
theorem Z1j{b:List Int}{m a:Nat}{e:Int}: ∀{k:Nat} (d:Nat),readRows b m a k=.error e->readRows b m a (k+d)=.error e
 |_,0,h=>h
 |k,d+1,h=>by
  show bindE (readRows b m a (k+d)) _=_
  rw[Z1j d h,V0f]
theorem K12{b:List Int}{a:Nat}{e:Int}: ∀{k:Nat} (d:Nat),readIns b a k=.error e->readIns b a (k+d)=.error e
 |_,0,h=>h
 |k,d+1,h=>by
  show bindE (readIns b a (k+d)) _=_
  rw[K12 d h,V0f]
def headOf(k s q l f c:Int): Q0a:={Q0a.zero with Kind:=k,Slot:=s,Seq:=q,Last:=l,Any:=decide (f=1),Acks:=c}
def readTail3(b:List Int)(x:Q0a)(a:Nat): Except Int (Q0a×Nat):=
 bindE (getB b 10 a) fun f a=>bindE (getB b 4 a) fun n a=>bindE (getB b 4 a) fun r a=>bindE (readRows b n.toNat a r.toNat) fun l a=>.ok ({x with First:=f,Players:=n,Rows:=rowsP l},a)
def readTail(b:List Int)(x:Q0a)(a:Nat): Except Int (Q0a×Nat):=
 if x.Kind=2 then bindE (getB b 10 a) fun g a=>bindE (getB b 10 a) fun f a=>bindE (getB b 5 a) fun n a=>bindE (readIns b a n.toNat) fun l a=>.ok ({x with Got:=g,First:=f,Inputs:=lstP l},a)
 else if x.Kind=3 then readTail3 b x a
 else if x.Kind=4 then bindE (getB b 10 a) fun f a=>bindE (getB b 62 a) fun m a=>.ok ({x with Frame:=f,Mark:=m},a)else .ok (x,a)
def readPa(b:List Int)(a:Nat): Except Int (Q0a×Nat):=
 bindE (getB b 3 a) fun k a=>bindE (getB b 3 a) fun s a=>bindE (getB b 16 a) fun q a=>bindE (getB b 16 a) fun l a=>bindE (getB b 1 a) fun f a=>bindE (getB b 64 a) fun c a=>readTail b (headOf k s q l f c) a
def readP(b:List Int): Except Int (Q0a×Nat):=readPa b 0
def openP(key:Int)(B:List Int): Q0a×Int:=
 if 400<B.length then(Q0a.zero,7)else if ¬(4<=B.length/\closeB key (B.take (B.length-4))=B) then(Q0a.zero,3) else
 match readP (B.take (B.length-4)) with
 |.error _=>(Q0a.zero,2)
 |.ok (p,_)=>if packRight p=true/\packB (packBits p)=B.take (B.length-4) then(p,0) else(Q0a.zero,2)
def canonP(a:Q0a): Q0a:={a with Inputs:=lstP a.Inputs.l,Rows:=rowsP (rowsL a.Rows)}
theorem in_bounds{x:Y0a}(h:inRight x=true): (0<=x.Buttons/\x.Buttons<=255)/\(-64<=x.X/\x.X<=64)/\(-64<=x.Y/\x.Y<=64):=by
 simp only[inRight,within,Bool.and_eq_true,decide_eq_true_eq]at h
 exact⟨h.1.1,h.1.2,h.2⟩
theorem readIn_at{b:List Int}{x:Y0a}{a:Nat}(h:At b a (inBits x))(hr:inRight x=true): readIn b a=.ok (x,a+(inBits x).length):=by
 have hb:=in_bounds hr
 unfold inBits at h
 have k0:=h.left.left
 have k1:=h.left.right
 have k2:=h.right
 simp only[X0e,List.length_append]at k1 k2
 unfold readIn
 rw[Y0j k0 (by omega),Q0e,sgetB_at k1 (by omega) (by omega),Q0e,sgetB_at (a:=a+8+8) (by rw[Nat.add_assoc];exact k2) (by omega) (by omega),Q0e,K0q]
theorem readCell_at{b:List Int}{c:X0a}{a:Nat}(h:At b a (cellBits c))(hr:cellRight c=true): readCell b a=.ok (c,a+(cellBits c).length):=by
 simp only[cellRight,Bool.and_eq_true,Bool.or_eq_true,decide_eq_true_eq]at hr
 unfold cellBits at h
 have k0:=h.left
 have k1:=h.right
 unfold readCell
 obtain⟨re,i⟩:=c
 simp only[X0e]at k1 hr ⊢
 cases re with
 |true=>
  simp only[if_true]at k1
  rw[Y0j k0 (by simp[flagI]),Q0e,if_pos (by simp[flagI]),readIn_at k1 hr.1,Q0e]
  simp[cellBits,X0e,K0q,Nat.add_assoc]
 |false=>
  have hi:=hr.2.resolve_left (by simp)
  rw[Y0j k0 (by simp[flagI]),Q0e,if_neg (by simp[flagI]),hi]
  simp[cellBits,X0e]
theorem Y16{b:List Int}{l:List X0a}{a:Nat}(h:At b a (l.flatMap cellBits))(hr:∀x∈l,cellRight x=true): ∀k,k<=l.length->readRow b a k=.ok (l.take k,a+((l.take k).flatMap cellBits).length)
 |0,_=>by simp[readRow]
 |k+1,hk=>by
  have hlt:k<l.length:=by omega
  obtain⟨m,hm⟩:=K2d cellBits l (k+1)
  have h2:=h
  rw[hm,Q0n _ _ hlt,List.append_assoc]at h2
  have hv:=hr (nth l k) (by rw[Y0h hlt];exact List.getElem_mem _)
  simp only[readRow]
  rw[Y16 h hr k (by omega),Q0e,readCell_at h2.right.left hv,Q0e,Q0n _ _ hlt,List.length_append,K0m hlt]
  simp only[Nat.add_assoc]
theorem Y18{b:List Int}{l:List Y0a}{a:Nat}(h:At b a (l.flatMap inBits))(hr:∀x∈l,inRight x=true): ∀k,k<=l.length->readIns b a k=.ok (l.take k,a+((l.take k).flatMap inBits).length)
 |0,_=>by simp[readIns]
 |k+1,hk=>by
  have hlt:k<l.length:=by omega
  obtain⟨m,hm⟩:=K2d inBits l (k+1)
  have h2:=h
  rw[hm,Q0n _ _ hlt,List.append_assoc]at h2
  have hv:=hr (nth l k) (by rw[Y0h hlt];exact List.getElem_mem _)
  simp only[readIns]
  rw[Y18 h hr k (by omega),Q0e,readIn_at h2.right.left hv,Q0e,Q0n _ _ hlt,List.length_append,K0m hlt]
  simp only[Nat.add_assoc]
theorem X1s{b:List Int}{l:List (List X0a)}{n a:Nat}(h:At b a (l.flatMap fun r=>r.flatMap cellBits))(hr:∀r∈l,r.length=n/\∀x∈r,cellRight x=true): ∀k,k<=l.length->readRows b n a k=.ok (l.take k,a+((l.take k).flatMap fun r=>r.flatMap cellBits).length)
 |0,_=>by simp[readRows]
 |k+1,hk=>by
  have hlt:k<l.length:=by omega
  obtain⟨m,hm⟩:=K2d (fun r:List X0a=>r.flatMap cellBits) l (k+1)
  have h2:=h
  rw[hm,Q0n _ _ hlt,List.append_assoc]at h2
  have hv:=hr (nth l k) (by rw[Y0h hlt];exact List.getElem_mem _)
  simp only[readRows]
  have hrow:=Y16 h2.right.left hv.2 n (by rw[hv.1];exact Nat.le_refl _)
  rw[List.take_of_length_le (l:=nth l k) (i:=n) (by omega)]at hrow
  rw[X1s h hr k (by omega),Q0e,hrow,Q0e,Q0n _ _ hlt,List.length_append,K0m hlt]
  simp only[Nat.add_assoc]
theorem flat_rows(r:Lst (Lst X0a)): (flat r.l).flatMap cellBits=(rowsL r).flatMap fun x=>x.flatMap cellBits:=by
 simp only[flat,rowsL,List.flatMap_map,List.flatMap_assoc]
theorem readP_at{a:Q0a}(hR:packRight a=true)(ha:0<=a.Acks/\a.Acks<18446744073709551616){b:List Int}(h:At b 0 (packBits a)): readP b=.ok (canonP a,(packBits a).length):=by
 obtain⟨hh,hs,hg,hf,hfr,hm⟩:=K0k hR
 simp only[within,Bool.and_eq_true,decide_eq_true_eq]at hg hf hfr hm
 simp only[headRight,within,Bool.and_eq_true,decide_eq_true_eq]at hh
 obtain⟨⟨⟨⟨hk,hsl⟩,hsq⟩,hla⟩,_⟩:=hh
 unfold packBits at h
 have k0:=h.left
 have k1:=h.right
 rw[V0i]at k1
 unfold packHead at k0
 have j1:=k0.left.left.left.left.left
 have j2:=k0.left.left.left.left.right
 have j3:=k0.left.left.left.right
 have j4:=k0.left.left.right
 have j5:=k0.left.right
 have j6:=k0.right
 simp only[X0e,List.length_append,Nat.zero_add]at j2 j3 j4 j5 j6 k1
 unfold readP readPa
 have hfl:flagI a.Any=0\/flagI a.Any=1:=by unfold flagI;split<;>simp
 have hany:decide (flagI a.Any=1)=a.Any:=by cases a.Any<;>simp[flagI]
 rw[Y0j j1 (by omega),Q0e,Y0j j2 (by omega),Q0e,Y0j j3 (by omega),Q0e,Y0j j4 (by omega),Q0e,Y0j j5 (by omega),Q0e,Y0j j6 (by omega),Q0e]
 obtain⟨x,hx⟩:∃x,x=headOf a.Kind a.Slot a.Seq a.Last (flagI a.Any) a.Acks:=⟨_,rfl⟩
 rw[<- hx]
 have hxk:x.Kind=a.Kind:=by rw[hx];rfl
 unfold readTail
 rw[hxk]
 by_cases h2:a.Kind=2
 ·have hi:=X2i hR h2
  have hr:=Y1g hR (by omega)
  have hfm:=V07 hR (by omega)
  rw[if_pos h2]at k1 ⊢
  unfold inputsHead at k1
  have m1:=k1.left.left.left
  have m2:=k1.left.left.right
  have m3:=k1.left.right
  have m4:=k1.right
  simp only[X0e,List.length_append,Nat.zero_add]at m2 m3 m4
  rw[Y0j m1 (by omega),Q0e,Y0j m2 (by omega),Q0e,Y0j (a:=103+10+10) (by rw[Nat.add_assoc];exact m3) (by omega),Q0e,Int.toNat_natCast,Y18 (by rw[show 103+10+10+5=103+(10+10+5) from rfl];exact m4) (fun x hx=>List.all_eq_true.1 hi.2 x hx) _ (Nat.le_refl _),Q0e,List.take_length]
  refine congrArg Except.ok (Prod.ext ?_ ?_)
  ·rw[hx]
   simp only[headOf,canonP,hany]
   apply Q0a.ext'<;>first|rfl|exact hr.2.symm|exact hfm.1.symm|exact hfm.2.symm|skip
   show Q0a.zero.Rows=rowsP (rowsL a.Rows)
   rw[rowsL,hr.1];rfl
  ·rw[packBits,if_pos h2,List.length_append,V0i,List.length_append,V0n];omega
 ·rw[if_neg h2]at k1 ⊢
  have hi:=right_ins hR h2
  by_cases h3:a.Kind=3
  ·rw[readTail3]
   have hr:=Z0t (X2m hR h3)
   have hfm:=V07 hR (by omega)
   rw[if_pos h3]at k1 ⊢
   unfold rowsBits rowsHead at k1
   have m1:=k1.left.left.left
   have m2:=k1.left.left.right
   have m3:=k1.left.right
   have m4:=k1.right
   rw[flat_rows]at m4
   simp only[X0e,List.length_append,Nat.zero_add]at m2 m3 m4
   have hrl:(rowsL a.Rows).length=a.Rows.l.length:=by rw[rowsL,List.length_map]
   rw[Y0j m1 (by omega),Q0e,Y0j m2 (by omega),Q0e,Y0j (a:=103+10+4) (by rw[Nat.add_assoc];exact m3) (by omega),Q0e,Int.toNat_natCast,<- hrl,X1s (by rw[show 103+10+4+4=103+(10+4+4) from rfl];exact m4) (fun r hr'=>by
    obtain⟨y,hy,rfl⟩:=List.mem_map.1 hr'
    have:=hr.2.2 y hy
    exact⟨by omega,fun x hx=>List.all_eq_true.1 this.2 x hx⟩) _ (Nat.le_refl _),Q0e,List.take_length]
   refine congrArg Except.ok (Prod.ext ?_ ?_)
   ·rw[hx]
    simp only[headOf,canonP,hany]
    apply Q0a.ext'<;>first|rfl|exact hi.2.symm|exact hfm.1.symm|exact hfm.2.symm|skip
    show Q0a.zero.Inputs=lstP a.Inputs.l
    rw[hi.1];rfl
   ·rw[packBits,if_neg h2,if_pos h3,List.length_append,V0i,rowsBits,List.length_append,Z0q,flat_rows];omega
  ·have hr:=Y1g hR h3
   have hft:=right_first hR h2 h3
   rw[if_neg h3]at k1 ⊢
   by_cases h4:a.Kind=4
   ·rw[if_pos h4]at k1 ⊢
    have m1:=k1.left
    have m2:=k1.right
    simp only[X0e]at m2
    rw[Y0j m1 (by omega),Q0e,Y0j m2 (by omega),Q0e]
    refine congrArg Except.ok (Prod.ext ?_ ?_)
    ·rw[hx]
     simp only[headOf,canonP,hany]
     apply Q0a.ext'<;>first|rfl|exact hi.2.symm|exact hr.2.symm|exact hft.symm|skip
     ·show Q0a.zero.Inputs=lstP a.Inputs.l
      rw[hi.1];rfl
     ·show Q0a.zero.Rows=rowsP (rowsL a.Rows)
      rw[rowsL,hr.1];rfl
    ·rw[packBits,if_neg h2,if_neg h3,if_pos h4,List.length_append,V0i,List.length_append,X0e,X0e]
   ·have hfm:=V07 hR h4
    rw[if_neg h4]
    refine congrArg Except.ok (Prod.ext ?_ ?_)
    ·rw[hx]
     simp only[headOf,canonP,hany]
     apply Q0a.ext'<;>first|rfl|exact hi.2.symm|exact hr.2.symm|exact hft.symm|exact hfm.1.symm|exact hfm.2.symm|skip
     ·show Q0a.zero.Inputs=lstP a.Inputs.l
      rw[hi.1];rfl
     ·show Q0a.zero.Rows=rowsP (rowsL a.Rows)
      rw[rowsL,hr.1];rfl
    ·rw[packBits,if_neg h2,if_neg h3,if_neg h4,List.append_nil,V0i]
end Go.Proofs.Ytpchcfkebljopaa
end
section
namespace Go.Proofs.Ytpchcfkebljopaa
open Go.Cl Go Go.RowKit
set_option maxRecDepth 100000
set_option linter.constructorNameAsVariable false
noncomputable def resRF{α:Type}(f:α->CV)(i:Nat)(B:Lst Int)(p:Hp)(r:Except Int (α×Nat)): XRes:=match r with
 |.ok (x,a')=>.ret (f x) (p.set i (some (rdr B a')))
 |.error e=>.pan (fault 100 e) (p.set i none)
def R167: Rel:=fun args p r=>∃(i:Nat) (B:Lst Int) (a:Nat),args=[.ptr i []]/\(p.t.get i=some (rdr B a))/\(B.l.length<=140737488355328)/\(a<=8*B.l.length)/\(∀x∈B.l,0<=x/\x<=255)/\r=resRF Y0a.cv i B p (readIn B.l a)
theorem t167{T:XCall}(h:Has T 167 R167)(i:Nat)(B:Lst Int)(a:Nat){p:Hp}(h1:p.t.get i=some (rdr B a))(h2:B.l.length<=140737488355328)(h3:a<=8*B.l.length)(h5:∀x∈B.l,0<=x/\x<=255): T 167 [.ptr i []] p=resRF Y0a.cv i B p (readIn B.l a):=h _ _ _ ⟨i,B,a,rfl,h1,h2,h3,h5,rfl⟩
theorem zq167{A B:Prop}(k:B)(h:A=B:=by have zy:=zA @zw167<|zA @rs167<|zA @tt3<|zA @tt25<|zA @tt36<|zA ti3.eq_1<|zA ti25.eq_1<|zA ti36.eq_1<|zA @t_160<|zA @t_190<|zA @Q0f<|zA @h1<|zA @h2<|zA @h3<|@h5;exact zQ): A:=h▸k
theorem c167: Con C 167 R167:=by
 refine V0e C ?_ ?_ ?_
 ·rintro args p r r' ⟨i,B,a,h,h1,h2,h3,h5,e⟩ ⟨i',B',a',h',h1',h2',h3',h5',e'⟩
  subst e;subst e';(subst h;simp only[List.cons.injEq,CV.ptr.injEq,and_true,true_and]at h';subst h';obtain⟨e1,e2⟩:=K1e h1 h1';rw[e1,e2])
 ·rintro args p r ⟨i,B,a,h,h1,h2,h3,h5,rfl⟩;first|(split<;>simp;done)|(simp;done)|(simp only[resM];split<;>simp;done)|(simp only[resD];split<;>simp;done)  | (unfold resRF;split<;>simp;done)
 rintro args p r ⟨i,B,a,rfl,h1,h2,h3,h5,rfl⟩
 refine zW C false [(160,R160),(190,R190)] ⟨c160,c190,zT⟩ rfl xf167 zc167_ok fun call zh hF=>?_
 have t_160:=@t160 _ zh.1
 have t_190:=@t190 _ zh.2.1
 clear zh
 have hd_h1:=hF.dom _ _ h1
 have hi:=hF.dom _ _ h1
 have v1:=V0t (bitB B.l) a 8 256 rfl
 by_cases c1:a+8<=8*B.l.length
 ·by_cases c2:a+8+8<=8*B.l.length
  ·by_cases c3:a+8+8+8<=8*B.l.length
   ·have hr:readIn B.l a=.ok (⟨valB (bitB B.l) a 8,sgnB (valB (bitB B.l) (a+8) 8) 8,sgnB (valB (bitB B.l) (a+8+8) 8) 8⟩,a+8+8+8):=by unfold readIn;simp only[sgetB,getB,c1,c2,c3,if_true,Q0e]
    rw[hr]
    (have zx:=zA c1 (zA c2 (zA c3 h1));refine zq167 ?_;try exact zT)
    repeat'(apply zK.s<;>intro hc<;>(try simp only[zhd]at hc)<;>(try have hw:=K0a hc)<;>(refine zq167 ?_;try exact zT))
    all_goals(try clear zx)
    exact shr_rd hF h1 (fun j hj=>⟨_,by simp,hj⟩) (zg9) (fun k o hk h=>by have hd:=hF.dom _ _ h;simp (disch:=first|exact zdl|fail) only[Hp.bump_get,Hp.get_set_ne,Hp.get_new_ne];exact h) rfl (by intro jj;exact Y0a.nohas _ jj)
   ·have hr:readIn B.l a=.error ((a+8+8:Nat):Int):=by unfold readIn;simp only[sgetB,getB,c1,c2,c3,if_true,if_false,Q0e,V0f]
    rw[hr]
    (have zx:=zA c1 (zA c2 (zA c3 h1));refine zq167 ?_;try exact zT)
    repeat'(apply zK.s<;>intro hc<;>(try simp only[zhd]at hc)<;>(try have hw:=K0a hc)<;>(refine zq167 ?_;try exact zT))
    all_goals(try clear zx)
    exact Q0m hF (fun k o hk h=>by have hd:=hF.dom _ _ h;simp (disch:=first|exact zdl|fail) only[Hp.bump_get,Hp.get_set_ne,Hp.get_new_ne];exact h) _ _
  ·have hr:readIn B.l a=.error ((a+8:Nat):Int):=by unfold readIn;simp only[sgetB,getB,c1,c2,if_true,if_false,Q0e,V0f]
   rw[hr]
   (have zx:=zA c1 (zA c2 h1);refine zq167 ?_;try exact zT)
   repeat'(apply zK.s<;>intro hc<;>(try simp only[zhd]at hc)<;>(try have hw:=K0a hc)<;>(refine zq167 ?_;try exact zT))
   all_goals(try clear zx)
   exact Q0m hF (fun k o hk h=>by have hd:=hF.dom _ _ h;simp (disch:=first|exact zdl|fail) only[Hp.bump_get,Hp.get_set_ne,Hp.get_new_ne];exact h) _ _
 ·have hr:readIn B.l a=.error ((a:Nat):Int):=by unfold readIn;simp only[sgetB,getB,c1,if_false,V0f]
  rw[hr]
  (have zx:=zA c1 h1;refine zq167 ?_;try exact zT)
  repeat'(apply zK.s<;>intro hc<;>(try simp only[zhd]at hc)<;>(try have hw:=K0a hc)<;>(refine zq167 ?_;try exact zT))
  all_goals(try clear zx)
  exact Q0m hF (fun k o hk h=>by have hd:=hF.dom _ _ h;simp (disch:=first|exact zdl|fail) only[Hp.bump_get,Hp.get_set_ne,Hp.get_new_ne];exact h) _ _
theorem Bnd.in_(b:List Int)(a:Nat): Bnd b (readIn b a):=(Bnd.get b _ _).bind fun _ _ _=>(Bnd.sget b _ _).bind fun _ _ _=>(Bnd.sget b _ _).bind fun _ _ h=>Bnd.pure _ h
theorem shr_set2{args:List CV}{p p':Hp}{v u:CV}{i k:Nat}{o1 o2:XObj}(hF:Fine args p)(hi:i<p.n)(hk:k<p.n)(hik:i≠k)(hle:∀j o,j≠i->j≠k->p.t.get j=some o->p'.t.get j=some o)(h1:∃o',p'.t.get i=some o'/\XObj.weak (fun k=>k) p.n o' o1)(h2:∃o',p'.t.get k=some o'/\XObj.weak (fun k=>k) p.n o' o2)(hv:CV.weak (fun k=>k) p.n v u): ShrR p (.ret v p') (.ret u ((p.set i (some o1)).set k (some o2))):=by
 refine X1i (Nat.le_refl _) (fun j o h=>?_) hv
 show j<p.n/\_
 by_cases e2:j=k
 ·subst e2
  rw[Hp.get_set_self]at h;cases h
  exact⟨hk,.inr h2⟩
 ·rw[Hp.get_set_ne _ _ _ e2]at h
  by_cases e1:j=i
  ·subst e1
   rw[Hp.get_set_self]at h;cases h
   exact⟨hi,.inr h1⟩
  ·rw[Hp.get_set_ne _ _ _ e1]at h
   have hd:=hF.dom _ _ h
   exact⟨hd,.inl ⟨hd,h,hle _ _ e1 e2 h⟩⟩
theorem Y0v{args:List CV}{p p':Hp}{v u:CV}{i k:Nat}(hF:Fine args p)(hle:∀j o,j≠i->j≠k->p.t.get j=some o->p'.t.get j=some o)(hv:CV.weak (fun k=>k) p.n v u): ShrR p (.pan v p') (.pan u ((p.set i none).set k none)):=by
 refine shr_idP (Nat.le_refl _) (fun j o h=>?_) hv
 show j<p.n/\_
 by_cases e2:j=k
 ·subst e2
  rw[Hp.get_set_self]at h;cases h
 ·rw[Hp.get_set_ne _ _ _ e2]at h
  by_cases e1:j=i
  ·subst e1
   rw[Hp.get_set_self]at h;cases h
  ·rw[Hp.get_set_ne _ _ _ e1]at h
   have hd:=hF.dom _ _ h
   exact⟨hd,.inl ⟨hd,h,hle _ _ e1 e2 h⟩⟩
def AppT{α:Type}(s:Lst α): Prop:=s.tl=.nil\/(∃j,s.tl=.own j)/\s.l≠[]
theorem AppT.weak{α:Type}{f g:α->CV}{s:Lst α}{m:List α}(h:AppT s)(n:Nat)(hm:CV.weakL (fun k=>k) n (s.l.map f) (m.map g)): CV.weak (fun k=>k) n (s.cv f) ((lstP m).cv g):=by
 obtain⟨tl,l,o⟩:=s
 have hl:l=[] ↔ m=[]:=by
  cases l<;>cases m<;>simp[CV.weakL]at hm ⊢
 rcases h with h|⟨⟨j,h⟩,h2⟩
 ·simp only at h
  subst h
  have e:=o rfl
  subst e
  have e2:=hl.1 rfl
  subst e2
  simp[lstP,Lst.cv,CV.weak,Tail.weak,CV.weakL]
 ·simp only at h h2
  subst h
  have e2:¬m=[]:=fun e=>h2 (hl.2 e)
  simp only[lstP,dif_neg e2,Lst.cv,CV.weak,Tail.weak,true_and]
  exact hm
theorem Z11{n:Nat}: ∀{l:List (Lst X0a)},(∀x∈l,AppT x)->CV.weakL (fun k=>k) n (l.map (Lst.cv X0a.cv)) ((l.map fun x=>lstP x.l).map (Lst.cv X0a.cv))
 |[],_=>trivial
 |x::l,h=>⟨(h x (.head _)).weak n (CV.weakL_refl _ fun j hj=>(Z0h (f:=X0a.cv) X0a.nohas _ j hj).elim),Z11 fun y hy=>h y (.tail _ hy)⟩
theorem App.T{α:Type}{n0:Nat}{s:Lst α}{q:Hp}(h:App n0 s q): AppT s:=by
 rcases h with h|⟨j,h,_,_,_,h0⟩
 ·exact .inl h
 ·exact .inr ⟨⟨j,h⟩,fun e=>by rw[e]at h0;simp at h0⟩
theorem V0p{n:Nat}{x:Q0a}{I1 I2:Lst Y0a}{R1 R2:Lst (Lst X0a)}(hI:CV.weak (fun k=>k) n (I1.cv Y0a.cv) (I2.cv Y0a.cv))(hR:CV.weak (fun k=>k) n (R1.cv (Lst.cv X0a.cv)) (R2.cv (Lst.cv X0a.cv))): CV.weak (fun k=>k) n (Q0a.cv {x with Inputs:=I1,Rows:=R1}) (Q0a.cv {x with Inputs:=I2,Rows:=R2}):=by
 simp only[Q0a.cv,CV.weak,CV.weakL,true_and,and_true]
 exact⟨hI,hR⟩
noncomputable def resRR(i k:Nat)(B:Lst Int)(p:Hp)(r:Except Int (Q0a×Nat)): XRes:=match r with
 |.ok (y,a')=>.ret (.tup []) ((p.set i (some (rdr B a'))).set k (some (.var sh94 y.cv)))
 |.error e=>.pan (fault 100 e) ((p.set i none).set k none)
def J168(i k:Nat)(B:Lst Int)(x0:Q0a)(a0 N R:Nat)(p:Hp)(n:Nat)(ρ:Env)(q:Hp): Prop:=
 ∃(m a':Nat) (acc:Lst (Lst X0a)),n=R-m/\m<=R/\ρ 0=.ptr i []/\ρ 1=.ptr k []/\ρ 20=I R/\ρ 21=I m/\readRows B.l N a0 m=.ok (rowsL acc,a')/\a'<=8*B.l.length/\acc.l.length=m/\App (p.n-1) acc q/\(∀x∈acc.l,AppT x)/\q.t.get i=some (rdr B a')/\q.t.get k=some (.var sh94 (Q0a.cv {x0 with Rows:=acc}))/\p.n<=q.n/\∀j o,j≠i->j≠k->p.t.get j=some o->q.t.get j=some o
def K168(i k:Nat)(B:Lst Int)(a1 N R m:Nat)(q1:Hp)(n:Nat)(ρ:Env)(q:Hp): Prop:=
 ∃(c a':Nat) (row:Lst X0a),n=N-c/\c<=N/\ρ 0=.ptr i []/\ρ 1=.ptr k []/\ρ 20=I R/\ρ 21=I m/\ρ 4=row.cv X0a.cv/\ρ 26=I N/\ρ 27=I c/\readRow B.l a1 c=.ok (row.l,a')/\a'<=8*B.l.length/\row.l.length=c/\App (q1.n-1) row q/\q.t.get i=some (rdr B a')/\q1.n<=q.n/\∀j o,j≠i->j<q1.n->q1.t.get j=some o->q.t.get j=some o
def R168: Rel:=fun args p r=>∃(i k:Nat) (B:Lst Int) (a:Nat) (x:Q0a),args=[.ptr i [],.ptr k []]/\(p.t.get i=some (rdr B a))/\(B.l.length<=140737488355328)/\(a<=8*B.l.length)/\(∀x∈B.l,0<=x/\x<=255)/\(p.t.get k=some (.var sh94 x.cv))/\(x.Rows=⟨.nil,[],fun _=>rfl⟩)/\(i≠k)/\(x.Inputs=⟨.nil,[],fun _=>rfl⟩)/\r=resRR i k B p (readTail3 B.l x a)
theorem t168{T:XCall}(h:Has T 168 R168)(i k:Nat)(B:Lst Int)(a:Nat)(x:Q0a){p:Hp}(h1:p.t.get i=some (rdr B a))(h2:B.l.length<=140737488355328)(h3:a<=8*B.l.length)(h5:∀x∈B.l,0<=x/\x<=255)(h4:p.t.get k=some (.var sh94 x.cv))(h6:x.Rows=⟨.nil,[],fun _=>rfl⟩)(h7:i≠k)(h8:x.Inputs=⟨.nil,[],fun _=>rfl⟩): T 168 [.ptr i [],.ptr k []] p=resRR i k B p (readTail3 B.l x a):=h _ _ _ ⟨i,k,B,a,x,rfl,h1,h2,h3,h5,h4,h6,h7,h8,rfl⟩
theorem zq168{A B:Prop}(k:B)(h:A=B:=by((try simp -dsimp (disch:=first|exact zdis|fail) only[zcore,zall,zopm,zop,zcallOp,qop,qbuiltin,ofOpt,List.map,reduceCtorEq,if_true,if_false,↓reduceIte,zbin,eqRes,qassert,qnum,qshift,qun,kindOf,allocV,List.nil_append,List.append_nil,List.cons_append,List.length_cons,List.length_nil,Nat.reduceAdd,Nat.reduceEqDiff,Nat.reduceLT,Nat.reduceSub,Nat.reduceMul,Int.reduceToNat,Int.reduceLE,Int.reduceLT,Int.reduceEq,Int.reduceNeg,Int.reduceAdd,Int.reduceSub,beq_self_eq_true,cond_true,cond_false,isConstOpd,xpanic,xconv,isBytes,qconv,List.length_map,List.map_nil,List.map_cons,concrete,Option.some.injEq,exists_eq',Option.map_some,Option.map_none,List.getElem?_cons_zero,List.getElem?_cons_succ,zw168,rs168,tt3,tt4,tt25,tt36,tt92,tt94,tt108,tt110,ti3,ti4,ti25,ti36,ti92,ti94,ti108,ti110,t_160,t_167,K0e,Y0f,Q0f,zsl92,zsl108,resRF,h1,h2,h3,h5,h4,h6,h7,h8,zx,hc]);rfl)): A:=h▸k
theorem c168: Con C 168 R168:=by
 refine V0e C ?_ ?_ ?_
 ·rintro args p r r' ⟨i,k,B,a,x,h,h1,h2,h3,h5,h4,h6,h7,h8,e⟩ ⟨i',k',B',a',x',h',h1',h2',h3',h5',h4',h6',h7',h8',e'⟩
  subst e;subst e';(subst h;simp only[List.cons.injEq,CV.ptr.injEq,and_true,true_and]at h';obtain⟨e0,e3⟩:=h';subst e0;subst e3;obtain⟨e1,e2⟩:=K1e h1 h1';rw[h4]at h4';simp only[Option.some.injEq,XObj.var.injEq,true_and,Q0a.inj_iff]at h4';rw[e1,e2,h4'])
 ·rintro args p r ⟨i,k,B,a,x,h,h1,h2,h3,h5,h4,h6,h7,h8,rfl⟩;first|(split<;>simp;done)|(simp;done)|(simp only[resM];split<;>simp;done)|(simp only[resD];split<;>simp;done)  | (unfold resRR;split<;>simp;done)
 rintro args p r ⟨i,k,B,a,x,rfl,h1,h2,h3,h5,h4,h6,h7,h8,rfl⟩
 refine zW C false [(160,R160),(167,R167)] ⟨c160,c167,zT⟩ rfl xf168 zc168_ok fun call zh hF=>?_
 have t_160:=@t160 _ zh.1
 have t_167:=@t167 _ zh.2.1
 clear zh
 have hd_h1:=hF.dom _ _ h1
 have hd_h4:=hF.dom _ _ h4
 have hi:=hF.dom _ _ h1
 have hk:=hF.dom _ _ h4
 have v1:=V0t (bitB B.l) a 10 1024 rfl
 have v2:=V0t (bitB B.l) (a+10) 4 16 rfl
 have v3:=V0t (bitB B.l) (a+10+4) 4 16 rfl
 by_cases c1:a+10<=8*B.l.length
 ·by_cases c2:a+10+4<=8*B.l.length
  ·by_cases c3:a+10+4+4<=8*B.l.length
   ·obtain⟨N,hN⟩:∃N:Nat,valB (bitB B.l) (a+10) 4=N:=⟨(valB (bitB B.l) (a+10) 4).toNat,by omega⟩
    obtain⟨R,hRR⟩:∃R:Nat,valB (bitB B.l) (a+10+4) 4=R:=⟨(valB (bitB B.l) (a+10+4) 4).toNat,by omega⟩
    have hN16:N<16:=by omega
    have hR16:R<16:=by omega
    obtain⟨x0,hx0⟩:∃y:Q0a,y={x with First:=valB (bitB B.l) a 10,Players:=(N:Int)}:=⟨_,rfl⟩
    have htail:readTail3 B.l x a=bindE (readRows B.l N (a+10+4+4) R) fun l a=>.ok ({x0 with Rows:=rowsP l},a):=by
     unfold readTail3;simp only[getB,c1,c2,c3,if_true,Q0e,hN,hRR,Int.toNat_natCast,hx0]
    rw[htail]
    (have zx:=zA c1 (zA c2 (zA c3 (zA hN (zA hRR (zA h1 h4)))));refine zq168 ?_;try exact zT)
    repeat'(apply zK.s<;>intro hc<;>(try simp only[zhd]at hc)<;>(try have hw:=K0a hc)<;>(refine zq168 ?_;try exact zT))
    all_goals(try clear zx)
    (show W C false noExt call (ZC.loop K2c) _ _ _);refine Y0g C false noExt call K2c _ _ _ (J168 i k B x0 (a+10+4+4) N R p) R ⟨0,a+10+4+4,⟨.nil,[],fun _=>rfl⟩,rfl,by omega,by simp[put_at,X0c,K0f],by simp[put_at,X0c,K0f,K0j],zev,zev,rfl,c3,rfl,.inl rfl,nofun,zg9,?_,zb9,fun j o hj1 hj2 h=>by simp (disch:=first|exact zdl|fail) only[zheap];exact h⟩ ?_
    ·simp (disch:=first|exact zdl|fail) only[zheap]
     rw[hx0]
     simp only[h8]
    rintro n ρ q ⟨m,a',acc,rfl,hm,e0,e1,e20,e21,hrd,ha',hal,happ,hat,g1,g2,hpq,hle⟩
    have hxp:x0.Players=(N:Int):=by rw[hx0]
    by_cases hlt:(m:Int)<R
    ·(have zx:=zA e0 (zA e1 (zA e20 (zA e21 (zA g1 (zA g2 (zA hlt (zA hxp (zA h1 h4))))))));refine zq168 ?_;try exact zT)
     repeat'(apply zK.s<;>intro hc<;>(try simp only[zhd]at hc)<;>(try have hw:=K0a hc)<;>(refine zq168 ?_;try exact zT))
     all_goals(try clear zx)
     (show W C false noExt call (ZC.loop V1n) _ _ _);refine Y0g C false noExt call V1n _ _ _ (K168 i k B a' N R m q) N ⟨0,a',⟨.nil,[],fun _=>rfl⟩,rfl,by omega,zev,zev,zev,zev,by simp[put_at,X0c];rfl,zev,zev,rfl,ha',rfl,.inl rfl,g1,Nat.le_refl _,fun j o _ _ h=>h⟩ ?_
     clear e0 e1 e20 e21
     rintro n ρ r ⟨c,a2,row,rfl,hc,e0,e1,e20,e21,e4,e26,e27,hrow,ha2,hrl,happ2,g3,hqr,hle2⟩
     have hnx:readRow B.l a' (c+1)=bindE (readCell B.l a2) fun x a=>.ok (row.l++[x],a):=by
      show bindE (readRow B.l a' c) _=_
      rw[hrow,Q0e]
     have herr:∀e,c<N->readCell B.l a2=.error e->readRows B.l N (a+10+4+4) R=.error e:=fun e hcN he=>by
      rw[he,V0f]at hnx
      have h1:=Q1z (N-(c+1)) hnx
      rw[show c+1+(N-(c+1))=N by omega]at h1
      have h2:readRows B.l N (a+10+4+4) (m+1)=.error e:=by
       show bindE (readRows B.l N (a+10+4+4) m) _=_
       rw[hrd,Q0e,h1,V0f]
      have h3:=Z1j (R-(m+1)) h2
      rwa [show m+1+(R-(m+1))=R by omega]at h3
     have v4:=V0t (bitB B.l) a2 1 2 rfl
     by_cases hlt2:(c:Int)<N
     ·by_cases c4:a2+1<=8*B.l.length
      ·by_cases hf:valB (bitB B.l) a2 1=1
       ·cases hri:readIn B.l (a2+1) with
        |error e=>
         have hrc:readCell B.l a2=.error e:=by unfold readCell;simp only[getB,c4,if_true,Q0e,hf,hri,V0f]
         rw[herr e (by omega) hrc,V0f]
         (have zx:=zA e0 (zA e1 (zA e20 (zA e21 (zA e4 (zA e26 (zA e27 (zA g3 (zA hlt2 (zA c4 (zA hf (zA hri (zA h1 h4))))))))))));refine zq168 ?_;try exact zT)
         repeat'(apply zK.s<;>intro hc<;>(try simp only[zhd]at hc)<;>(try have hw:=K0a hc)<;>(refine zq168 ?_;try exact zT))
         all_goals(try clear zx)
         exact Y0v hF (fun j o hj1 hj2 h=>by have hd:=hF.dom _ _ h;have hq:=hle2 j o hj1 (by omega) (hle j o hj1 hj2 h);first|exact hq|(simp (disch:=first|exact zdl|fail) only[zheap];exact hq)) (V0d (K0c (Z0y 100 _)))
        |ok y=>
         obtain⟨inp,a3⟩:=y
         have hb3:a3<=8*B.l.length:=Bnd.in_ _ _ _ _ hri
         have hrc:readCell B.l a2=.ok (⟨true,inp⟩,a3):=by unfold readCell;simp only[getB,c4,if_true,Q0e,hf,hri]
         have hnext:=hnx
         rw[hrc,Q0e]at hnext
         obtain⟨tl,rl,ok⟩:=row
         simp only at hnext hrl
         rcases happ2 with ht|⟨j2,ht,hj1,hj2,hj3,hj4⟩
         ·simp only at ht
          subst ht
          (have zx:=zA e0 (zA e1 (zA e20 (zA e21 (zA e4 (zA e26 (zA e27 (zA g3 (zA hlt2 (zA c4 (zA hf (zA hri (zA h1 h4))))))))))));refine zq168 ?_;try exact zT)
          repeat'(apply zK.s<;>intro hc<;>(try simp only[zhd]at hc)<;>(try have hw:=K0a hc)<;>(refine zq168 ?_;try exact zT))
          all_goals(try clear zx)
          refine⟨N-(c+1),by omega,c+1,a3,⟨.own (r.n+1),rl++[⟨true,inp⟩],nofun⟩,rfl,by omega,zev,zev,zev,zev,zev,zev,zev,hnext,hb3,by simp[hrl],.inr ⟨(r.n+1),rfl,zdl,zdl,by simp (disch:=first|exact zdl|fail) only[zheap];simp[hrl],by simp⟩,zg9,zdl,fun j o hj hjq h=>by have hq:=hle2 j o hj hjq h;simp (disch:=first|exact zdl|fail) only[zheap];exact hq⟩
         ·simp only at ht hj3 hj4
          subst ht
          (have zx:=zA e0 (zA e1 (zA e20 (zA e21 (zA e4 (zA e26 (zA e27 (zA g3 (zA hlt2 (zA c4 (zA hf (zA hri (zA hj3 (zA hj4 (zA h1 h4))))))))))))));refine zq168 ?_;try exact zT)
          repeat'(apply zK.s<;>intro hc<;>(try simp only[zhd]at hc)<;>(try have hw:=K0a hc)<;>(refine zq168 ?_;try exact zT))
          all_goals(try clear zx)
          refine⟨N-(c+1),by omega,c+1,a3,⟨.own (r.n+1),rl++[⟨true,inp⟩],nofun⟩,rfl,by omega,zev,zev,zev,zev,zev,zev,zev,hnext,hb3,by simp[hrl],.inr ⟨(r.n+1),rfl,zdl,zdl,by simp (disch:=first|exact zdl|fail) only[zheap];simp[hrl],by simp⟩,zg9,zdl,fun j o hj hjq h=>by have hq:=hle2 j o hj hjq h;simp (disch:=first|exact zdl|fail) only[zheap];exact hq⟩
       ·have hrc:readCell B.l a2=.ok (⟨false,Y0a.zero⟩,a2+1):=by unfold readCell;simp only[getB,c4,if_true,Q0e,hf,if_false]
        have hnext:=hnx
        rw[hrc,Q0e]at hnext
        obtain⟨tl,rl,ok⟩:=row
        simp only at hnext hrl
        rcases happ2 with ht|⟨j2,ht,hj1,hj2,hj3,hj4⟩
        ·simp only at ht
         subst ht
         (have zx:=zA e0 (zA e1 (zA e20 (zA e21 (zA e4 (zA e26 (zA e27 (zA g3 (zA hlt2 (zA c4 (zA hf (zA h1 h4)))))))))));refine zq168 ?_;try exact zT)
         repeat'(apply zK.s<;>intro hc<;>(try simp only[zhd]at hc)<;>(try have hw:=K0a hc)<;>(refine zq168 ?_;try exact zT))
         all_goals(try clear zx)
         refine⟨N-(c+1),by omega,c+1,(a2+1),⟨.own (r.n+1),rl++[⟨false,Y0a.zero⟩],nofun⟩,rfl,by omega,zev,zev,zev,zev,zev,zev,zev,hnext,c4,by simp[hrl],.inr ⟨(r.n+1),rfl,zdl,zdl,by simp (disch:=first|exact zdl|fail) only[zheap];simp[hrl],by simp⟩,zg9,zdl,fun j o hj hjq h=>by have hq:=hle2 j o hj hjq h;simp (disch:=first|exact zdl|fail) only[zheap];exact hq⟩
        ·simp only at ht hj3 hj4
         subst ht
         (have zx:=zA e0 (zA e1 (zA e20 (zA e21 (zA e4 (zA e26 (zA e27 (zA g3 (zA hlt2 (zA c4 (zA hf (zA hj3 (zA hj4 (zA h1 h4)))))))))))));refine zq168 ?_;try exact zT)
         repeat'(apply zK.s<;>intro hc<;>(try simp only[zhd]at hc)<;>(try have hw:=K0a hc)<;>(refine zq168 ?_;try exact zT))
         all_goals(try clear zx)
         refine⟨N-(c+1),by omega,c+1,(a2+1),⟨.own (r.n+1),rl++[⟨false,Y0a.zero⟩],nofun⟩,rfl,by omega,zev,zev,zev,zev,zev,zev,zev,hnext,c4,by simp[hrl],.inr ⟨(r.n+1),rfl,zdl,zdl,by simp (disch:=first|exact zdl|fail) only[zheap];simp[hrl],by simp⟩,zg9,zdl,fun j o hj hjq h=>by have hq:=hle2 j o hj hjq h;simp (disch:=first|exact zdl|fail) only[zheap];exact hq⟩
      ·have hrc:readCell B.l a2=.error ((a2:Nat):Int):=by unfold readCell;simp only[getB,c4,if_false,V0f]
       rw[herr _ (by omega) hrc,V0f]
       (have zx:=zA e0 (zA e1 (zA e20 (zA e21 (zA e4 (zA e26 (zA e27 (zA g3 (zA hlt2 (zA c4 (zA h1 h4))))))))));refine zq168 ?_;try exact zT)
       repeat'(apply zK.s<;>intro hc<;>(try simp only[zhd]at hc)<;>(try have hw:=K0a hc)<;>(refine zq168 ?_;try exact zT))
       all_goals(try clear zx)
       exact Y0v hF (fun j o hj1 hj2 h=>by have hd:=hF.dom _ _ h;have hq:=hle2 j o hj1 (by omega) (hle j o hj1 hj2 h);first|exact hq|(simp (disch:=first|exact zdl|fail) only[zheap];exact hq)) (V0d (K0c (Z0y 100 _)))
     ·have hcN:c=N:=by omega
      rw[hcN]at hrow
      have hnext:readRows B.l N (a+10+4+4) (m+1)=.ok (rowsL acc++[row.l],a2):=by
       show bindE (readRows B.l N (a+10+4+4) m) _=_
       rw[hrd,Q0e,hrow,Q0e]
      have g4:=hle2 k _ (Ne.symm h7) (by omega) g2
      have hrt:=happ2.T
      obtain⟨tl,al,ok⟩:=acc
      simp only at hal hat
      have hat2:∀x∈al++[row],AppT x:=fun x hx=>by
       rcases List.mem_append.1 hx with hx|hx
       ·exact hat x hx
       ·rw[List.mem_singleton.1 hx];exact hrt
      rcases happ with ht|⟨j1,ht,hj1,hj2,hj3,hj4⟩
      ·simp only at ht
       subst ht
       (have zx:=zA e0 (zA e1 (zA e20 (zA e21 (zA e4 (zA e26 (zA e27 (zA g3 (zA g4 (zA hlt2 (zA h1 h4))))))))));refine zq168 ?_;try exact zT)
       repeat'(apply zK.s<;>intro hc<;>(try simp only[zhd]at hc)<;>(try have hw:=K0a hc)<;>(refine zq168 ?_;try exact zT))
       all_goals(try clear zx)
       refine⟨R-(m+1),by omega,m+1,a2,⟨.own r.n,al++[row],nofun⟩,rfl,by omega,zev,zev,zev,zev,by rw[hnext];simp[rowsL],ha2,by simp[hal],.inr ⟨r.n,rfl,zdl,zdl,by simp (disch:=first|exact zdl|fail) only[zheap];simp[hal],by simp⟩,hat2,zg9,by simp (disch:=first|exact zdl|fail) only[zheap]<;>rfl,zdl,fun j o hj1 hj2 h=>by have hd:=hF.dom _ _ h;have hq:=hle2 j o hj1 (by omega) (hle j o hj1 hj2 h);simp (disch:=first|exact zdl|fail) only[zheap];exact hq⟩
      ·simp only at ht hj3 hj4
       subst ht
       have hj5:=hle2 j1 _ (by omega) hj2 hj3
       (have zx:=zA e0 (zA e1 (zA e20 (zA e21 (zA e4 (zA e26 (zA e27 (zA g3 (zA g4 (zA hlt2 (zA hj4 (zA hj5 (zA h1 h4))))))))))));refine zq168 ?_;try exact zT)
       repeat'(apply zK.s<;>intro hc<;>(try simp only[zhd]at hc)<;>(try have hw:=K0a hc)<;>(refine zq168 ?_;try exact zT))
       all_goals(try clear zx)
       refine⟨R-(m+1),by omega,m+1,a2,⟨.own r.n,al++[row],nofun⟩,rfl,by omega,zev,zev,zev,zev,by rw[hnext];simp[rowsL],ha2,by simp[hal],.inr ⟨r.n,rfl,zdl,zdl,by simp (disch:=first|exact zdl|fail) only[zheap];simp[hal],by simp⟩,hat2,zg9,by simp (disch:=first|exact zdl|fail) only[zheap]<;>rfl,zdl,fun j o hj1 hj2 h=>by have hd:=hF.dom _ _ h;have hq:=hle2 j o hj1 (by omega) (hle j o hj1 hj2 h);simp (disch:=first|exact zdl|fail) only[zheap];exact hq⟩
    ·have hmR:m=R:=by omega
     rw[hmR]at hrd
     rw[hrd,Q0e]
     have hI0:x0.Inputs=⟨.nil,[],fun _=>rfl⟩:=by rw[hx0];exact h8
     (have zx:=zA e0 (zA e1 (zA e20 (zA e21 (zA g1 (zA g2 (zA hlt (zA h1 h4)))))));refine zq168 ?_;try exact zT)
     repeat'(apply zK.s<;>intro hc<;>(try simp only[zhd]at hc)<;>(try have hw:=K0a hc)<;>(refine zq168 ?_;try exact zT))
     all_goals(try clear zx)
     exact shr_set2 hF hi hk h7 hle ⟨_,g1,V0h fun j hj=>hF.lt_obj (.arg (a:=CV.ptr i []) (by simp) rfl) h1 j hj⟩ ⟨_,g2,rfl,V0p (V0d (K0c (by rw[hI0];exact nilHas _))) (by rw[rowsP,rowsL,List.map_map];exact happ.T.weak _ (Z11 hat))⟩ (V0d (K0c tup0_no))
   ·have hr:readTail3 B.l x a=.error ((a+10+4:Nat):Int):=by unfold readTail3;simp only[getB,c1,c2,c3,if_true,if_false,Q0e,V0f]
    rw[hr]
    (have zx:=zA c1 (zA c2 (zA c3 (zA h1 h4)));refine zq168 ?_;try exact zT)
    repeat'(apply zK.s<;>intro hc<;>(try simp only[zhd]at hc)<;>(try have hw:=K0a hc)<;>(refine zq168 ?_;try exact zT))
    all_goals(try clear zx)
    exact Y0v hF (fun j o hj1 hj2 h=>by have hd:=hF.dom _ _ h;simp (disch:=first|exact zdl|fail) only[zheap];exact h) (V0d (K0c (Z0y 100 _)))
  ·have hr:readTail3 B.l x a=.error ((a+10:Nat):Int):=by unfold readTail3;simp only[getB,c1,c2,if_true,if_false,Q0e,V0f]
   rw[hr]
   (have zx:=zA c1 (zA c2 (zA h1 h4));refine zq168 ?_;try exact zT)
   repeat'(apply zK.s<;>intro hc<;>(try simp only[zhd]at hc)<;>(try have hw:=K0a hc)<;>(refine zq168 ?_;try exact zT))
   all_goals(try clear zx)
   exact Y0v hF (fun j o hj1 hj2 h=>by have hd:=hF.dom _ _ h;simp (disch:=first|exact zdl|fail) only[zheap];exact h) (V0d (K0c (Z0y 100 _)))
 ·have hr:readTail3 B.l x a=.error ((a:Nat):Int):=by unfold readTail3;simp only[getB,c1,if_true,if_false,Q0e,V0f]
  rw[hr]
  (have zx:=zA c1 (zA h1 h4);refine zq168 ?_;try exact zT)
  repeat'(apply zK.s<;>intro hc<;>(try simp only[zhd]at hc)<;>(try have hw:=K0a hc)<;>(refine zq168 ?_;try exact zT))
  all_goals(try clear zx)
  exact Y0v hF (fun j o hj1 hj2 h=>by have hd:=hF.dom _ _ h;simp (disch:=first|exact zdl|fail) only[zheap];exact h) (V0d (K0c (Z0y 100 _)))
theorem Bnd.cell(b:List Int)(a:Nat): Bnd b (readCell b a):=by
 unfold readCell
 refine(Bnd.get b _ _).bind fun k a h=>?_
 split
 ·exact(Bnd.in_ b _).bind fun _ _ h=>Bnd.pure _ h
 ·exact Bnd.pure _ h
def J111(i:Nat)(B:Lst Int)(x0:Q0a)(a0 N:Nat)(p:Hp)(n:Nat)(ρ:Env)(q:Hp): Prop:=
 ∃(m a':Nat) (acc:Lst Y0a),n=N-m/\m<=N/\ρ 0=.ptr i []/\ρ 2=.ptr p.n []/\ρ 3=.ptr (p.n+1) []/\ρ 41=I N/\ρ 42=I m/\readIns B.l a0 m=.ok (acc.l,a')/\a'<=8*B.l.length/\acc.l.length=m/\App (p.n+1) acc q/\q.t.get i=some (rdr B a')/\q.t.get p.n=some (.var sh94 Q0a.zero.cv)/\q.t.get (p.n+1)=some (.var sh94 (Q0a.cv {x0 with Inputs:=acc}))/\p.n+1<q.n/\∀j o,j≠i->p.t.get j=some o->q.t.get j=some o
theorem lstP_no{α:Type}{f:α->CV}{l:List α}(hf:∀x∈l,∀j,¬(f x).has j)(j:Nat): ¬((lstP l).cv f).has j:=by
 have hL:∀m:List α,(∀x∈m,∀j,¬(f x).has j)->¬CV.hasL j (m.map f):=by
  intro m hm
  induction m with
  |nil=>simp[CV.hasL]
  |cons x m ih=>
   simp only[List.map_cons,CV.hasL]
   rintro(h|h)
   ·exact hm x (.head _) j h
   ·exact ih (fun y hy=>hm y (.tail _ hy)) h
 unfold lstP
 split
 ·exact nilHas _ j
 ·simp only[Lst.cv,CV.has]
  rintro(h|h)
  ·cases h
  ·exact hL l hf h
theorem rowsP_no(l:List (List X0a))(j:Nat): ¬((rowsP l).cv (Lst.cv X0a.cv)).has j:=
 lstP_no (fun x hx j=>by
  obtain⟨y,_,rfl⟩:=List.mem_map.1 hx
  exact lstP_no (fun z _ j=>X0a.nohas z j) j) j
theorem tail3_no{b:List Int}{x y:Q0a}{a a2:Nat}(h:readTail3 b x a=.ok (y,a2))(hx:x.Inputs=⟨.nil,[],fun _=>rfl⟩)(j:Nat): ¬y.cv.has j:=by
 unfold readTail3 at h
 cases h1:getB b 10 a with
 |error e=>rw[h1,V0f]at h;cases h
 |ok f=>
  obtain⟨f,a3⟩:=f
  rw[h1,Q0e]at h
  cases h2:getB b 4 a3 with
  |error e=>rw[h2,V0f]at h;cases h
  |ok n=>
   obtain⟨n,a4⟩:=n
   rw[h2,Q0e]at h
   cases h3:getB b 4 a4 with
   |error e=>rw[h3,V0f]at h;cases h
   |ok r=>
    obtain⟨r,a5⟩:=r
    rw[h3,Q0e]at h
    cases h4:readRows b n.toNat a5 r.toNat with
    |error e=>rw[h4,V0f]at h;cases h
    |ok l=>
     obtain⟨l,a6⟩:=l
     rw[h4,Q0e]at h
     cases h
     rw[packHas]
     rintro(h|h)
     ·simp only[hx]at h
      exact nilHas _ j h
     ·exact rowsP_no l j h
theorem shr_pk{args:List CV}{p:Hp}{i a a':Nat}{B:Lst Int}(hF:Fine args p)(h1:p.t.get i=some (rdr B a))(ha:CV.ptr i []∈args){q:Hp}(hg:q.t.get i=some (rdr B a'))(hle:∀k o,k≠i->p.t.get k=some o->q.t.get k=some o){v u:CV}(hv:CV.weak (fun k=>k) p.n v u): ShrR p (.ret v q) (.ret u (p.set i (some (rdr B a')))):=
 X0t hF (hF.dom _ _ h1) hle ⟨_,hg,V0h fun j hj'=>hF.lt_obj (.arg ha rfl) h1 j hj'⟩ hv
def R111: Rel:=fun args p r=>∃(i:Nat) (B:Lst Int) (a:Nat),args=[.ptr i []]/\(p.t.get i=some (rdr B a))/\(B.l.length<=140737488355328)/\(a<=8*B.l.length)/\(∀x∈B.l,0<=x/\x<=255)/\r=resRF Q0a.cv i B p (readPa B.l a)
theorem t111{T:XCall}(h:Has T 111 R111)(i:Nat)(B:Lst Int)(a:Nat){p:Hp}(h1:p.t.get i=some (rdr B a))(h2:B.l.length<=140737488355328)(h3:a<=8*B.l.length)(h5:∀x∈B.l,0<=x/\x<=255): T 111 [.ptr i []] p=resRF Q0a.cv i B p (readPa B.l a):=h _ _ _ ⟨i,B,a,rfl,h1,h2,h3,h5,rfl⟩
theorem zq111{A B:Prop}(k:B)(h:A=B:=by((try simp -dsimp (disch:=first|exact zdis|fail) only[zcore,zall,zopm,zop,zcallOp,qop,qbuiltin,ofOpt,List.map,reduceCtorEq,if_true,if_false,↓reduceIte,zbin,eqRes,qassert,qnum,qshift,qun,kindOf,allocV,List.nil_append,List.append_nil,List.cons_append,List.length_cons,List.length_nil,Nat.reduceAdd,Nat.reduceEqDiff,Nat.reduceLT,Nat.reduceSub,Nat.reduceMul,Int.reduceToNat,Int.reduceLE,Int.reduceLT,Int.reduceEq,Int.reduceNeg,Int.reduceAdd,Int.reduceSub,beq_self_eq_true,cond_true,cond_false,isConstOpd,xpanic,xconv,isBytes,qconv,List.length_map,List.map_nil,List.map_cons,concrete,Option.some.injEq,exists_eq',Option.map_some,Option.map_none,List.getElem?_cons_zero,List.getElem?_cons_succ,zw111,rs111,tt3,tt4,tt25,tt91,tt94,ti3,ti4,ti25,ti91,ti94,t_160,t_167,t_168,K0e,Q0f,zsl91,resRF,resRR,h1,h2,h3,h5,zx,hc]);rfl)): A:=h▸k
theorem c111: Con C 111 R111:=by
 refine V0e C ?_ ?_ ?_
 ·rintro args p r r' ⟨i,B,a,h,h1,h2,h3,h5,e⟩ ⟨i',B',a',h',h1',h2',h3',h5',e'⟩
  subst e;subst e';(subst h;simp only[List.cons.injEq,CV.ptr.injEq,and_true,true_and]at h';subst h';obtain⟨e1,e2⟩:=K1e h1 h1';rw[e1,e2])
 ·rintro args p r ⟨i,B,a,h,h1,h2,h3,h5,rfl⟩;first|(split<;>simp;done)|(simp;done)|(simp only[resM];split<;>simp;done)|(simp only[resD];split<;>simp;done)  | (unfold resRF;split<;>simp;done)
 rintro args p r ⟨i,B,a,rfl,h1,h2,h3,h5,rfl⟩
 refine zW C false [(160,R160),(167,R167),(168,R168)] ⟨c160,c167,c168,zT⟩ rfl xf111 zc111_ok fun call zh hF=>?_
 have t_160:=@t160 _ zh.1
 have t_167:=@t167 _ zh.2.1
 have t_168:=@t168 _ zh.2.2.1
 clear zh
 have hd_h1:=hF.dom _ _ h1
 have hi:=hF.dom _ _ h1
 have v1:=V0t (bitB B.l) (a) 3 8 rfl
 have v2:=V0t (bitB B.l) (a+3) 3 8 rfl
 have v3:=V0t (bitB B.l) (a+3+3) 16 65536 rfl
 have v4:=V0t (bitB B.l) (a+3+3+16) 16 65536 rfl
 have v5:=V0t (bitB B.l) (a+3+3+16+16) 1 2 rfl
 have v6:=V0t (bitB B.l) (a+3+3+16+16+1) 64 18446744073709551616 rfl
 by_cases c1:a+3<=8*B.l.length
 ·by_cases c2:a+3+3<=8*B.l.length
  ·by_cases c3:a+3+3+16<=8*B.l.length
   ·by_cases c4:a+3+3+16+16<=8*B.l.length
    ·by_cases c5:a+3+3+16+16+1<=8*B.l.length
     ·by_cases c6:a+3+3+16+16+1+64<=8*B.l.length
      ·have hpt:readPa B.l a=readTail B.l ({Q0a.zero with Kind:=valB (bitB B.l) a 3,Slot:=valB (bitB B.l) (a+3) 3,Seq:=valB (bitB B.l) (a+3+3) 16,Last:=valB (bitB B.l) (a+3+3+16) 16,Any:=decide (valB (bitB B.l) (a+3+3+16+16) 1=1),Acks:=valB (bitB B.l) (a+3+3+16+16+1) 64}:Q0a) (a+3+3+16+16+1+64):=by unfold readPa;simp only[getB,c1,c2,c3,c4,c5,c6,if_true,Q0e];rfl
       have v7:=V0t (bitB B.l) (a+3+3+16+16+1+64) 10 1024 rfl
       have v8:=V0t (bitB B.l) (a+3+3+16+16+1+64+10) 10 1024 rfl
       have v9:=V0t (bitB B.l) (a+3+3+16+16+1+64+10+10) 5 32 rfl
       have v10:=V0t (bitB B.l) (a+3+3+16+16+1+64+10) 62 4611686018427387904 rfl
       by_cases k2:valB (bitB B.l) a 3=2
       ·rw[k2]at hpt
        by_cases c7:a+3+3+16+16+1+64+10<=8*B.l.length
        ·by_cases c8:a+3+3+16+16+1+64+10+10<=8*B.l.length
         ·by_cases c9:a+3+3+16+16+1+64+10+10+5<=8*B.l.length
          ·obtain⟨N,hN⟩:∃N:Nat,valB (bitB B.l) (a+3+3+16+16+1+64+10+10) 5=N:=⟨(valB (bitB B.l) (a+3+3+16+16+1+64+10+10) 5).toNat,by omega⟩
           have hN32:N<32:=by omega
           obtain⟨x0,hx0⟩:∃y:Q0a,y={({Q0a.zero with Kind:=2,Slot:=valB (bitB B.l) (a+3) 3,Seq:=valB (bitB B.l) (a+3+3) 16,Last:=valB (bitB B.l) (a+3+3+16) 16,Any:=decide (valB (bitB B.l) (a+3+3+16+16) 1=1),Acks:=valB (bitB B.l) (a+3+3+16+16+1) 64}:Q0a)with Got:=valB (bitB B.l) (a+3+3+16+16+1+64) 10,First:=valB (bitB B.l) (a+3+3+16+16+1+64+10) 10}:=⟨_,rfl⟩
           have htl:readPa B.l a=bindE (readIns B.l (a+3+3+16+16+1+64+10+10+5) N) fun l a=>.ok ({x0 with Inputs:=lstP l},a):=by rw[hpt];unfold readTail;simp only[getB,c7,c8,c9,if_true,Q0e,hN,Int.toNat_natCast,hx0]
           rw[htl]
           (have zx:=zA c1 (zA c2 (zA c3 (zA c4 (zA c5 (zA c6 (zA k2 (zA c7 (zA c8 (zA c9 (zA hN h1))))))))));refine zq111 ?_;try exact zT)
           repeat'(apply zK.s<;>intro hc<;>(try simp only[zhd]at hc)<;>(try have hw:=K0a hc)<;>(refine zq111 ?_;try exact zT))
           all_goals(try clear zx)
           (show W C false noExt call (ZC.loop X1l) _ _ _);refine Y0g C false noExt call X1l _ _ _ (J111 i B x0 (a+3+3+16+16+1+64+10+10+5) N p) N ⟨0,a+3+3+16+16+1+64+10+10+5,⟨.nil,[],fun _=>rfl⟩,rfl,by omega,by simp[put_at,X0c,K0f],zev,zev,zev,zev,rfl,c9,rfl,.inl rfl,zg9,zg9,?_,zdl,fun j o hj h=>by have hd:=hF.dom _ _ h;simp (disch:=first|exact zdl|fail) only[zheap];exact h⟩ ?_
           ·rw[hx0];simp (disch:=first|exact zdl|fail) only[zheap]<;>rfl
           rintro n ρ q ⟨m,a',acc,rfl,hm,e0,e2,e3,e41,e42,hrd,ha',hal,happ,g1,g3,g2,hpq,hle⟩
           have hnx:readIns B.l (a+3+3+16+16+1+64+10+10+5) (m+1)=bindE (readIn B.l a') fun c a=>.ok (acc.l++[c],a):=by
            show bindE (readIns B.l (a+3+3+16+16+1+64+10+10+5) m) _=_
            rw[hrd,Q0e]
           by_cases hlt:(m:Int)<N
           ·cases hri:readIn B.l a' with
            |error e=>
             rw[hri,V0f]at hnx
             have h3:=K12 (N-(m+1)) hnx
             rw[show m+1+(N-(m+1))=N by omega]at h3
             rw[h3,V0f]
             (have zx:=zA e0 (zA e2 (zA e3 (zA e41 (zA e42 (zA g1 (zA g2 (zA g3 (zA hlt (zA hri h1)))))))));refine zq111 ?_;try exact zT)
             repeat'(apply zK.s<;>intro hc<;>(try simp only[zhd]at hc)<;>(try have hw:=K0a hc)<;>(refine zq111 ?_;try exact zT))
             all_goals(try clear zx)
             exact Q0m hF (fun k o hk h=>by have hd:=hF.dom _ _ h;have hq:=hle k o hk h;simp (disch:=first|exact zdl|fail) only[zheap];exact hq) _ _
            |ok y=>
             obtain⟨y,a3⟩:=y
             have hb3:a3<=8*B.l.length:=Bnd.in_ _ _ _ _ hri
             rw[hri,Q0e]at hnx
             obtain⟨tl,al,ok⟩:=acc
             simp only at hal hnx
             rcases happ with ht|⟨j1,ht,hj1,hj2,hj3,hj4⟩
             ·simp only at ht
              subst ht
              (have zx:=zA e0 (zA e2 (zA e3 (zA e41 (zA e42 (zA g1 (zA g2 (zA g3 (zA hlt (zA hri h1)))))))));refine zq111 ?_;try exact zT)
              repeat'(apply zK.s<;>intro hc<;>(try simp only[zhd]at hc)<;>(try have hw:=K0a hc)<;>(refine zq111 ?_;try exact zT))
              all_goals(try clear zx)
              refine⟨N-(m+1),by omega,m+1,a3,⟨.own (q.n+8),al++[y],nofun⟩,rfl,by omega,zev,zev,zev,zev,zev,hnx,hb3,by simp[hal],.inr ⟨q.n+8,rfl,zdl,zdl,by simp (disch:=first|exact zdl|fail) only[zheap];simp[hal],by simp⟩,zg9,zg9,by simp (disch:=first|exact zdl|fail) only[zheap]<;>rfl,zdl,fun j o hj h=>by have hd:=hF.dom _ _ h;have hq:=hle j o hj h;simp (disch:=first|exact zdl|fail) only[zheap];exact hq⟩
             ·simp only at ht hj3 hj4
              subst ht
              (have zx:=zA e0 (zA e2 (zA e3 (zA e41 (zA e42 (zA g1 (zA g2 (zA g3 (zA hlt (zA hri (zA hj3 (zA hj4 h1)))))))))));refine zq111 ?_;try exact zT)
              repeat'(apply zK.s<;>intro hc<;>(try simp only[zhd]at hc)<;>(try have hw:=K0a hc)<;>(refine zq111 ?_;try exact zT))
              all_goals(try clear zx)
              refine⟨N-(m+1),by omega,m+1,a3,⟨.own (q.n+8),al++[y],nofun⟩,rfl,by omega,zev,zev,zev,zev,zev,hnx,hb3,by simp[hal],.inr ⟨q.n+8,rfl,zdl,zdl,by simp (disch:=first|exact zdl|fail) only[zheap];simp[hal],by simp⟩,zg9,zg9,by simp (disch:=first|exact zdl|fail) only[zheap]<;>rfl,zdl,fun j o hj h=>by have hd:=hF.dom _ _ h;have hq:=hle j o hj h;simp (disch:=first|exact zdl|fail) only[zheap];exact hq⟩
           ·have hmN:m=N:=by omega
            rw[hmN]at hrd
            rw[hrd,Q0e]
            have hR0:x0.Rows=⟨.nil,[],fun _=>rfl⟩:=by rw[hx0];rfl
            (have zx:=zA e0 (zA e2 (zA e3 (zA e41 (zA e42 (zA g1 (zA g2 (zA g3 (zA hlt h1))))))));refine zq111 ?_;try exact zT)
            repeat'(apply zK.s<;>intro hc<;>(try simp only[zhd]at hc)<;>(try have hw:=K0a hc)<;>(refine zq111 ?_;try exact zT))
            all_goals(try clear zx)
            refine shr_pk hF h1 (by simp) (zg9) (fun k o hk h=>by have hd:=hF.dom _ _ h;have hq:=hle k o hk h;simp (disch:=first|exact zdl|fail) only[zheap];exact hq) ?_
            exact V0p (happ.T.weak _ (CV.weakL_refl _ fun j hj=>(Z0h (f:=Y0a.cv) Y0a.nohas _ j hj).elim)) (V0d (K0c (by rw[hR0];exact nilHas _)))
          ·have hr:readPa B.l a=.error ((a+3+3+16+16+1+64+10+10:Nat):Int):=by rw[hpt];unfold readTail;simp only[getB,c7,c8,c9,if_true,if_false,Q0e,V0f]
           rw[hr]
           (have zx:=zA c1 (zA c2 (zA c3 (zA c4 (zA c5 (zA c6 (zA k2 (zA c7 (zA c8 (zA c9 h1)))))))));refine zq111 ?_;try exact zT)
           repeat'(apply zK.s<;>intro hc<;>(try simp only[zhd]at hc)<;>(try have hw:=K0a hc)<;>(refine zq111 ?_;try exact zT))
           all_goals(try clear zx)
           exact Q0m hF (fun k o hk h=>by have hd:=hF.dom _ _ h;simp (disch:=first|exact zdl|fail) only[zheap];exact h) _ _
         ·have hr:readPa B.l a=.error ((a+3+3+16+16+1+64+10:Nat):Int):=by rw[hpt];unfold readTail;simp only[getB,c7,c8,if_true,if_false,Q0e,V0f]
          rw[hr]
          (have zx:=zA c1 (zA c2 (zA c3 (zA c4 (zA c5 (zA c6 (zA k2 (zA c7 (zA c8 h1))))))));refine zq111 ?_;try exact zT)
          repeat'(apply zK.s<;>intro hc<;>(try simp only[zhd]at hc)<;>(try have hw:=K0a hc)<;>(refine zq111 ?_;try exact zT))
          all_goals(try clear zx)
          exact Q0m hF (fun k o hk h=>by have hd:=hF.dom _ _ h;simp (disch:=first|exact zdl|fail) only[zheap];exact h) _ _
        ·have hr:readPa B.l a=.error ((a+3+3+16+16+1+64:Nat):Int):=by rw[hpt];unfold readTail;simp only[getB,c7,if_true,if_false,Q0e,V0f]
         rw[hr]
         (have zx:=zA c1 (zA c2 (zA c3 (zA c4 (zA c5 (zA c6 (zA k2 (zA c7 h1)))))));refine zq111 ?_;try exact zT)
         repeat'(apply zK.s<;>intro hc<;>(try simp only[zhd]at hc)<;>(try have hw:=K0a hc)<;>(refine zq111 ?_;try exact zT))
         all_goals(try clear zx)
         exact Q0m hF (fun k o hk h=>by have hd:=hF.dom _ _ h;simp (disch:=first|exact zdl|fail) only[zheap];exact h) _ _
       ·by_cases k3:valB (bitB B.l) a 3=3
        ·rw[k3]at hpt
         have t8:=fun q h1 h2 h3 h4 h5=>t_168 i (p.n+1) B (a+3+3+16+16+1+64) ({Q0a.zero with Kind:=3,Slot:=valB (bitB B.l) (a+3) 3,Seq:=valB (bitB B.l) (a+3+3) 16,Last:=valB (bitB B.l) (a+3+3+16) 16,Any:=decide (valB (bitB B.l) (a+3+3+16+16) 1=1),Acks:=valB (bitB B.l) (a+3+3+16+16+1) 64}:Q0a) (p:=q) h1 h2 h3 h4 h5 rfl (by omega) rfl
         have htl:readPa B.l a=readTail3 B.l ({Q0a.zero with Kind:=3,Slot:=valB (bitB B.l) (a+3) 3,Seq:=valB (bitB B.l) (a+3+3) 16,Last:=valB (bitB B.l) (a+3+3+16) 16,Any:=decide (valB (bitB B.l) (a+3+3+16+16) 1=1),Acks:=valB (bitB B.l) (a+3+3+16+16+1) 64}:Q0a) (a+3+3+16+16+1+64):=by rw[hpt];rfl
         rw[htl]
         cases hrt:readTail3 B.l ({Q0a.zero with Kind:=3,Slot:=valB (bitB B.l) (a+3) 3,Seq:=valB (bitB B.l) (a+3+3) 16,Last:=valB (bitB B.l) (a+3+3+16) 16,Any:=decide (valB (bitB B.l) (a+3+3+16+16) 1=1),Acks:=valB (bitB B.l) (a+3+3+16+16+1) 64}:Q0a) (a+3+3+16+16+1+64) with
         |error e=>
          (have zx:=zA c1 (zA c2 (zA c3 (zA c4 (zA c5 (zA c6 (zA k2 (zA k3 (zA hrt h1))))))));refine zq111 ?_;try exact zT)
          repeat'(apply zK.s<;>intro hc<;>(try simp only[zhd]at hc)<;>(try have hw:=K0a hc)<;>(refine zq111 ?_;try exact zT))
          all_goals(try clear zx)
          exact Q0m hF (fun k o hk h=>by have hd:=hF.dom _ _ h;simp (disch:=first|exact zdl|fail) only[zheap];exact h) _ _
         |ok y=>
          obtain⟨y,a2⟩:=y
          have hno:=tail3_no hrt rfl
          (have zx:=zA c1 (zA c2 (zA c3 (zA c4 (zA c5 (zA c6 (zA k2 (zA k3 (zA hrt h1))))))));refine zq111 ?_;try exact zT)
          repeat'(apply zK.s<;>intro hc<;>(try simp only[zhd]at hc)<;>(try have hw:=K0a hc)<;>(refine zq111 ?_;try exact zT))
          all_goals(try clear zx)
          exact shr_pk hF h1 (by simp) (zg9) (fun k o hk h=>by have hd:=hF.dom _ _ h;simp (disch:=first|exact zdl|fail) only[zheap];exact h) (V0d (K0c hno))
        ·by_cases k4:valB (bitB B.l) a 3=4
         ·rw[k4]at hpt
          by_cases c7:a+3+3+16+16+1+64+10<=8*B.l.length
          ·by_cases c8:a+3+3+16+16+1+64+10+62<=8*B.l.length
           ·have hr:readPa B.l a=.ok ({({Q0a.zero with Kind:=4,Slot:=valB (bitB B.l) (a+3) 3,Seq:=valB (bitB B.l) (a+3+3) 16,Last:=valB (bitB B.l) (a+3+3+16) 16,Any:=decide (valB (bitB B.l) (a+3+3+16+16) 1=1),Acks:=valB (bitB B.l) (a+3+3+16+16+1) 64}:Q0a)with Frame:=valB (bitB B.l) (a+3+3+16+16+1+64) 10,Mark:=valB (bitB B.l) (a+3+3+16+16+1+64+10) 62},a+3+3+16+16+1+64+10+62):=by rw[hpt];unfold readTail;simp only[getB,c7,c8,if_true,if_false,Q0e];rfl
            rw[hr]
            (have zx:=zA c1 (zA c2 (zA c3 (zA c4 (zA c5 (zA c6 (zA k2 (zA k3 (zA k4 (zA c7 (zA c8 h1))))))))));refine zq111 ?_;try exact zT)
            repeat'(apply zK.s<;>intro hc<;>(try simp only[zhd]at hc)<;>(try have hw:=K0a hc)<;>(refine zq111 ?_;try exact zT))
            all_goals(try clear zx)
            exact shr_pk hF h1 (by simp) (zg9) (fun k o hk h=>by have hd:=hF.dom _ _ h;simp (disch:=first|exact zdl|fail) only[zheap];exact h) (Q0d rfl fun j hj=>by rcases(packHas _ j).1 hj with h|h<;>exact(nilHas _ j h).elim)
           ·have hr:readPa B.l a=.error ((a+3+3+16+16+1+64+10:Nat):Int):=by rw[hpt];show bindE (getB B.l 10 (a+3+3+16+16+1+64)) _=_;simp only[getB,c7,c8,if_true,if_false,Q0e,V0f]
            rw[hr]
            (have zx:=zA c1 (zA c2 (zA c3 (zA c4 (zA c5 (zA c6 (zA k2 (zA k3 (zA k4 (zA c7 (zA c8 h1))))))))));refine zq111 ?_;try exact zT)
            repeat'(apply zK.s<;>intro hc<;>(try simp only[zhd]at hc)<;>(try have hw:=K0a hc)<;>(refine zq111 ?_;try exact zT))
            all_goals(try clear zx)
            exact Q0m hF (fun k o hk h=>by have hd:=hF.dom _ _ h;simp (disch:=first|exact zdl|fail) only[zheap];exact h) _ _
          ·have hr:readPa B.l a=.error ((a+3+3+16+16+1+64:Nat):Int):=by rw[hpt];show bindE (getB B.l 10 (a+3+3+16+16+1+64)) _=_;simp only[getB,c7,if_true,if_false,Q0e,V0f]
           rw[hr]
           (have zx:=zA c1 (zA c2 (zA c3 (zA c4 (zA c5 (zA c6 (zA k2 (zA k3 (zA k4 (zA c7 h1)))))))));refine zq111 ?_;try exact zT)
           repeat'(apply zK.s<;>intro hc<;>(try simp only[zhd]at hc)<;>(try have hw:=K0a hc)<;>(refine zq111 ?_;try exact zT))
           all_goals(try clear zx)
           exact Q0m hF (fun k o hk h=>by have hd:=hF.dom _ _ h;simp (disch:=first|exact zdl|fail) only[zheap];exact h) _ _
         ·have hr:readPa B.l a=.ok (({Q0a.zero with Kind:=valB (bitB B.l) a 3,Slot:=valB (bitB B.l) (a+3) 3,Seq:=valB (bitB B.l) (a+3+3) 16,Last:=valB (bitB B.l) (a+3+3+16) 16,Any:=decide (valB (bitB B.l) (a+3+3+16+16) 1=1),Acks:=valB (bitB B.l) (a+3+3+16+16+1) 64}:Q0a),a+3+3+16+16+1+64):=by rw[hpt];unfold readTail;simp only[k2,k3,k4,if_false]
          rw[hr]
          (have zx:=zA c1 (zA c2 (zA c3 (zA c4 (zA c5 (zA c6 (zA k2 (zA k3 (zA k4 h1))))))));refine zq111 ?_;try exact zT)
          repeat'(apply zK.s<;>intro hc<;>(try simp only[zhd]at hc)<;>(try have hw:=K0a hc)<;>(refine zq111 ?_;try exact zT))
          all_goals(try clear zx)
          exact shr_pk hF h1 (by simp) (zg9) (fun k o hk h=>by have hd:=hF.dom _ _ h;simp (disch:=first|exact zdl|fail) only[zheap];exact h) (Q0d rfl fun j hj=>by rcases(packHas _ j).1 hj with h|h<;>exact(nilHas _ j h).elim)
      ·have hr:readPa B.l a=.error ((a+3+3+16+16+1:Nat):Int):=by unfold readPa;simp only[getB,c1,c2,c3,c4,c5,c6,if_true,if_false,Q0e,V0f]
       rw[hr]
       (have zx:=zA c1 (zA c2 (zA c3 (zA c4 (zA c5 (zA c6 h1)))));refine zq111 ?_;try exact zT)
       repeat'(apply zK.s<;>intro hc<;>(try simp only[zhd]at hc)<;>(try have hw:=K0a hc)<;>(refine zq111 ?_;try exact zT))
       all_goals(try clear zx)
       exact Q0m hF (fun k o hk h=>by have hd:=hF.dom _ _ h;simp (disch:=first|exact zdl|fail) only[zheap];exact h) _ _
     ·have hr:readPa B.l a=.error ((a+3+3+16+16:Nat):Int):=by unfold readPa;simp only[getB,c1,c2,c3,c4,c5,if_true,if_false,Q0e,V0f]
      rw[hr]
      (have zx:=zA c1 (zA c2 (zA c3 (zA c4 (zA c5 h1))));refine zq111 ?_;try exact zT)
      repeat'(apply zK.s<;>intro hc<;>(try simp only[zhd]at hc)<;>(try have hw:=K0a hc)<;>(refine zq111 ?_;try exact zT))
      all_goals(try clear zx)
      exact Q0m hF (fun k o hk h=>by have hd:=hF.dom _ _ h;simp (disch:=first|exact zdl|fail) only[zheap];exact h) _ _
    ·have hr:readPa B.l a=.error ((a+3+3+16:Nat):Int):=by unfold readPa;simp only[getB,c1,c2,c3,c4,if_true,if_false,Q0e,V0f]
     rw[hr]
     (have zx:=zA c1 (zA c2 (zA c3 (zA c4 h1)));refine zq111 ?_;try exact zT)
     repeat'(apply zK.s<;>intro hc<;>(try simp only[zhd]at hc)<;>(try have hw:=K0a hc)<;>(refine zq111 ?_;try exact zT))
     all_goals(try clear zx)
     exact Q0m hF (fun k o hk h=>by have hd:=hF.dom _ _ h;simp (disch:=first|exact zdl|fail) only[zheap];exact h) _ _
   ·have hr:readPa B.l a=.error ((a+3+3:Nat):Int):=by unfold readPa;simp only[getB,c1,c2,c3,if_true,if_false,Q0e,V0f]
    rw[hr]
    (have zx:=zA c1 (zA c2 (zA c3 h1));refine zq111 ?_;try exact zT)
    repeat'(apply zK.s<;>intro hc<;>(try simp only[zhd]at hc)<;>(try have hw:=K0a hc)<;>(refine zq111 ?_;try exact zT))
    all_goals(try clear zx)
    exact Q0m hF (fun k o hk h=>by have hd:=hF.dom _ _ h;simp (disch:=first|exact zdl|fail) only[zheap];exact h) _ _
  ·have hr:readPa B.l a=.error ((a+3:Nat):Int):=by unfold readPa;simp only[getB,c1,c2,if_true,if_false,Q0e,V0f]
   rw[hr]
   (have zx:=zA c1 (zA c2 h1);refine zq111 ?_;try exact zT)
   repeat'(apply zK.s<;>intro hc<;>(try simp only[zhd]at hc)<;>(try have hw:=K0a hc)<;>(refine zq111 ?_;try exact zT))
   all_goals(try clear zx)
   exact Q0m hF (fun k o hk h=>by have hd:=hF.dom _ _ h;simp (disch:=first|exact zdl|fail) only[zheap];exact h) _ _
 ·have hr:readPa B.l a=.error ((a:Nat):Int):=by unfold readPa;simp only[getB,c1,if_true,if_false,Q0e,V0f]
  rw[hr]
  (have zx:=zA c1 h1;refine zq111 ?_;try exact zT)
  repeat'(apply zK.s<;>intro hc<;>(try simp only[zhd]at hc)<;>(try have hw:=K0a hc)<;>(refine zq111 ?_;try exact zT))
  all_goals(try clear zx)
  exact Q0m hF (fun k o hk h=>by have hd:=hF.dom _ _ h;simp (disch:=first|exact zdl|fail) only[zheap];exact h) _ _
end Go.Proofs.Ytpchcfkebljopaa
end
section
namespace Go.Proofs.Ytpchcfkebljopaa
open Go.Cl Go Go.RowKit
theorem V0g{α β:Type}{r:Except Int (α×Nat)}{f:α->Nat->Except Int (β×Nat)}{y:β×Nat}(h:bindE r f=.ok y): ∃x a,r=.ok (x,a)/\f x a=.ok y:=by
 cases r with
 |error e=>rw[V0f]at h;cases h
 |ok x=>obtain⟨x,a⟩:=x;exact⟨x,a,rfl,h⟩
theorem Q1s{b:List Int}{a:Nat}: ∀{k:Nat} {l:List Y0a} {a':Nat},readIns b a k=.ok (l,a')->l.length=k
 |0,l,a',h=>by simp only[readIns,Except.ok.injEq,Prod.mk.injEq]at h;rw[<- h.1];rfl
 |k+1,l,a',h=>by
  obtain⟨m,a1,h1,h⟩:=V0g h
  obtain⟨c,a2,_,h⟩:=V0g h
  simp only[Except.ok.injEq,Prod.mk.injEq]at h
  rw[<- h.1,List.length_append,Q1s h1];rfl
theorem Z1r{b:List Int}{a:Nat}: ∀{k:Nat} {l:List X0a} {a':Nat},readRow b a k=.ok (l,a')->l.length=k
 |0,l,a',h=>by simp only[readRow,Except.ok.injEq,Prod.mk.injEq]at h;rw[<- h.1];rfl
 |k+1,l,a',h=>by
  obtain⟨m,a1,h1,h⟩:=V0g h
  obtain⟨c,a2,_,h⟩:=V0g h
  simp only[Except.ok.injEq,Prod.mk.injEq]at h
  rw[<- h.1,List.length_append,Z1r h1];rfl
theorem X1h{b:List Int}{m a:Nat}: ∀{k:Nat} {l:List (List X0a)} {a':Nat},readRows b m a k=.ok (l,a')->l.length=k/\∀r∈l,r.length=m
 |0,l,a',h=>by simp only[readRows,Except.ok.injEq,Prod.mk.injEq]at h;rw[<- h.1];exact⟨rfl,nofun⟩
 |k+1,l,a',h=>by
  obtain⟨m',a1,h1,h⟩:=V0g h
  obtain⟨c,a2,h2,h⟩:=V0g h
  simp only[Except.ok.injEq,Prod.mk.injEq]at h
  obtain⟨i1,i2⟩:=X1h h1
  refine⟨by rw[<- h.1,List.length_append,i1];rfl,fun r hr=>?_⟩
  rw[<- h.1]at hr
  rcases List.mem_append.1 hr with hr|hr
  ·exact i2 r hr
  ·rw[List.mem_singleton.1 hr];exact Z1r h2
theorem X2d{b:List Int}{n a:Nat}{v:Int}{a':Nat}(h:getB b n a=.ok (v,a')): 0<=v/\v<2^n:=by
 unfold getB at h
 split at h
 ·simp only[Except.ok.injEq,Prod.mk.injEq]at h
  rw[<- h.1];exact Y0s _ _ _
 ·cases h
theorem V1i{b:List Int}{a:Nat}{x:Q0a}{a':Nat}(h:readPa b a=.ok (x,a')): ∃(I:List Y0a) (R:List (List X0a)),x.Inputs=lstP I/\x.Rows=rowsP R/\I.length<=31/\R.length<=15/\(∀r∈R,r.length<=15)/\0<=x.Acks/\x.Acks<18446744073709551616:=by
 obtain⟨k,a1,_,h⟩:=V0g h
 obtain⟨s,a2,_,h⟩:=V0g h
 obtain⟨q,a3,_,h⟩:=V0g h
 obtain⟨l,a4,_,h⟩:=V0g h
 obtain⟨f,a5,_,h⟩:=V0g h
 obtain⟨c,a6,hc,h⟩:=V0g h
 have hcr:=X2d hc
 unfold readTail at h
 split at h
 ·obtain⟨g,a7,_,h⟩:=V0g h
  obtain⟨fi,a8,_,h⟩:=V0g h
  obtain⟨n,a9,hn,h⟩:=V0g h
  obtain⟨li,a10,hl,h⟩:=V0g h
  have hnr:=X2d hn
  have hll:=Q1s hl
  simp only[Except.ok.injEq,Prod.mk.injEq]at h
  rw[<- h.1]
  exact⟨li,[],rfl,rfl,by omega,by simp,nofun,hcr.1,hcr.2⟩
 ·split at h
  ·obtain⟨fi,a7,_,h⟩:=V0g h
   obtain⟨n,a8,hn,h⟩:=V0g h
   obtain⟨r,a9,hr,h⟩:=V0g h
   obtain⟨li,a10,hl,h⟩:=V0g h
   have hnr:=X2d hn
   have hrr:=X2d hr
   obtain⟨hl1,hl2⟩:=X1h hl
   simp only[Except.ok.injEq,Prod.mk.injEq]at h
   rw[<- h.1]
   exact⟨[],li,rfl,rfl,by simp,by omega,fun y hy=>by have:=hl2 y hy;omega,hcr.1,hcr.2⟩
  ·split at h
   ·obtain⟨fi,a7,_,h⟩:=V0g h
    obtain⟨m,a8,_,h⟩:=V0g h
    simp only[Except.ok.injEq,Prod.mk.injEq]at h
    rw[<- h.1]
    exact⟨[],[],rfl,rfl,by simp,by simp,nofun,hcr.1,hcr.2⟩
   ·simp only[Except.ok.injEq,Prod.mk.injEq]at h
    rw[<- h.1]
    exact⟨[],[],rfl,rfl,by simp,by simp,nofun,hcr.1,hcr.2⟩
end Go.Proofs.Ytpchcfkebljopaa
end
