import Derived.Test.YtpchcfkebljopaaXg
set_option linter.unusedSimpArgs false
set_option linter.unusedVariables false
set_option linter.constructorNameAsVariable false
set_option linter.defProp false
set_option maxHeartbeats 8000000
section
namespace Go.Proofs.Ytpchcfkebljopaa
open Go.Cl Go Go.RowKit
set_option maxRecDepth 100000
set_option linter.constructorNameAsVariable false
def Wv(j:Nat)(l:List Bool): CV:=if l=[]then .lst .nil []else .slc j [] 0 (packB l).length
def Wrow(B:List Int): XObj:=.var (.n (List.replicate B.length .s)) (.agg (B.map Y8))
theorem Wv_sh(j:Nat)(l:List Bool): (Wv j l).shape=.s:=by unfold Wv;split<;>rfl
def W1(j:Nat)(l:List Bool): XObj:=.var sh203 (Q0c.mk (Wv j l) (Wv_sh j l) l.length).cv
def W2(i j:Nat)(l:List Bool)(p:Hp): Prop:=l=[]\/j≠i/\p.t.get j=some (Wrow (packB l))
noncomputable def wDrop(j:Nat)(l:List Bool)(p:Hp): Hp:=if l=[]then p else p.set j none
noncomputable def wHp(i j:Nat)(l l':List Bool)(p:Hp): Hp:=((wDrop j l p).set i (some (W1 p.n l'))).new (Wrow (packB l'))
theorem packB_nil{l:List Bool}: packB l=[] ↔ l=[]:=by
 constructor
 ·intro h
  have:=congrArg List.length h
  rw[X0f]at this
  exact List.length_eq_zero_iff.1 (by simp at this;omega)
 ·rintro rfl;rfl
theorem Z0v{A B:List Int}(h:Wrow A=Wrow B): A=B:=by
 simp only[Wrow,XObj.var.injEq,CV.agg.injEq]at h
 have h2:=h.2
 clear h
 induction A generalizing B with
 |nil=>cases B with
  |nil=>rfl
  |cons b B=>simp at h2
 |cons a A ih=>cases B with
  |nil=>simp at h2
  |cons b B=>
   simp only[List.map_cons,List.cons.injEq]at h2
   rw[Y8_inj _ _ h2.1,ih h2.2]
theorem Z1j{p:Hp}{i j j':Nat}{l l':List Bool}(h:p.t.get i=some (W1 j l))(h2:W2 i j l p)(k:p.t.get i=some (W1 j' l'))(k2:W2 i j' l' p): l=l'/\(l≠[]->j=j'):=by
 rw[h]at k
 simp only[Option.some.injEq,W1,Q0c.cv,XObj.var.injEq,CV.agg.injEq,List.cons.injEq,and_true,true_and]at k
 obtain⟨e1,e2⟩:=k
 have e2:l.length=l'.length:=by have:=I_inj _ _ e2;omega
 by_cases hl:l=[]
 ·subst hl
  have:l'=[]:=List.length_eq_zero_iff.1 (by rw[<- e2];rfl)
  exact⟨this.symm,fun h=>absurd rfl h⟩
 ·have hl':l'≠[]:=by intro e;subst e;exact hl (List.length_eq_zero_iff.1 e2)
  simp only[Wv,if_neg hl,if_neg hl',CV.slc.injEq,true_and,and_true]at e1
  obtain⟨rfl,_⟩:=e1
  have a:=h2.resolve_left hl
  have b:=k2.resolve_left hl'
  have:=a.2.symm.trans b.2
  simp only[Option.some.injEq]at this
  exact⟨packB_inj e2 (Z0v this),fun _=>rfl⟩
theorem K0z{p:Hp}{i j j':Nat}{l l':List Bool}(m:List Bool)(h:l=l'/\(l≠[]->j=j')): wHp i j l m p=wHp i j' l' m p:=by
 obtain⟨rfl,h⟩:=h
 unfold wHp wDrop
 by_cases hl:l=[]
 ·rw[if_pos hl,if_pos hl]
 ·rw[if_neg hl,if_neg hl,h hl]
theorem wHp_n(i j:Nat)(l m:List Bool)(p:Hp): (wHp i j l m p).n=p.n+1:=by
 unfold wHp wDrop
 split<;>simp[Hp.znew_n,Hp.zset_n]
theorem wHp_i{i j:Nat}(l m:List Bool){p:Hp}(h:i<p.n): (wHp i j l m p).t.get i=some (W1 p.n m):=by
 unfold wHp wDrop
 split
 ·rw[Hp.get_new_ne _ _ (by rw[Hp.zset_n];omega),Hp.get_set_self]
 ·rw[Hp.get_new_ne _ _ (by rw[Hp.zset_n,Hp.zset_n];omega),Hp.get_set_self]
theorem wHp_new{i j:Nat}(l m:List Bool){p:Hp}: (wHp i j l m p).t.get p.n=some (Wrow (packB m)):=by
 unfold wHp wDrop
 split
 ·exact Hp.get_new_self (p.set i (some (W1 p.n m))) _
 ·exact Hp.get_new_self ((p.set j none).set i (some (W1 p.n m))) _
theorem wHp_ne{i j:Nat}{l m:List Bool}{p:Hp}{k:Nat}(h1:k≠i)(h2:l=[]\/k≠j)(h3:k≠p.n): (wHp i j l m p).t.get k=p.t.get k:=by
 unfold wHp wDrop
 split
 ·rw[Hp.get_new_ne _ _ (show k≠(p.set i (some (W1 p.n m))).n from h3),Hp.get_set_ne _ _ _ h1]
 ·rename_i hl
  rw[Hp.get_new_ne _ _ (show k≠((p.set j none).set i (some (W1 p.n m))).n from h3),Hp.get_set_ne _ _ _ h1,Hp.get_set_ne _ _ _ (h2.resolve_left hl)]
theorem W2_nil(i j:Nat)(p:Hp): W2 i j [] p:=.inl rfl
theorem W2_in{i j:Nat}{l:List Bool}{p:Hp}(h1:j≠i)(h2:p.t.get j=some (Wrow (packB l))): W2 i j l p:=.inr ⟨h1,h2⟩
theorem V1l(σ:Nat->Nat)(n:Nat)(B:List Int): XObj.weak σ n (Wrow B) (Wrow B):=⟨rfl,by simp only[CV.weak];exact CV.weakL_refl _ fun j hj=>(V0i (f:=Y8) (fun x j=>X0r x j) B j hj).elim⟩
theorem shr_w{args:List CV}{p q:Hp}{i j J:Nat}{l m:List Bool}(hF:Fine args p)(hm:m≠[])(h1:p.t.get i=some (W1 j l))(h2:W2 i j l p)(g1:q.t.get i=some (W1 J m))(g2:q.t.get J=some (Wrow (packB m)))(hJi:J≠i)(hJ:(l≠[]/\J=j)\/p.n<=J)
  (hle:∀k o,k≠i->(l=[]\/k≠j)->p.t.get k=some o->q.t.get k=some o) {v u:CV} (hv:CV.weak (ren p.n J) (p.n+1) v u):ShrR p (.ret v q) (.ret u (wHp i j l m p)):=by
 have hi:=hF.dom _ _ h1
 have hw:XObj.weak (ren p.n J) (p.n+1) (W1 J m) (W1 p.n m):=by
  refine⟨rfl,?_⟩
  simp only[Q0c.cv,Wv,if_neg hm,CV.weak,CV.weakL,and_true]
  exact⟨by simp[ren],by omega⟩
 unfold wHp wDrop
 split
 ·rename_i hl
  refine V07 hF (J:=J) rfl (fun k o h=>?_) ⟨_,g2,V1l _ _ _⟩ hv
  by_cases hk:k=i
  ·subst hk
   rw[Hp.get_set_self]at h;cases h
   exact⟨hi,Ne.symm hJi,.inr ⟨_,g1,hw⟩⟩
  ·rw[Hp.get_set_ne _ _ _ hk]at h
   have hd:=hF.dom _ _ h
   exact⟨hd,by rcases hJ with hJ|hJ;exact absurd hl hJ.1;omega,.inl ⟨h,hle k o hk (.inl hl) h⟩⟩
 ·rename_i hl
  have hj:=(h2.resolve_left hl)
  have hjd:=hF.dom _ _ hj.2
  refine V07 hF (J:=J) rfl (fun k o h=>?_) ⟨_,g2,V1l _ _ _⟩ hv
  by_cases hk:k=i
  ·subst hk
   rw[Hp.get_set_self]at h;cases h
   exact⟨hi,Ne.symm hJi,.inr ⟨_,g1,hw⟩⟩
  ·rw[Hp.get_set_ne _ _ _ hk]at h
   by_cases hkj:k=j
   ·subst hkj;rw[Hp.get_set_self]at h;cases h
   ·rw[Hp.get_set_ne _ _ _ hkj]at h
    have hd:=hF.dom _ _ h
    exact⟨hd,by rcases hJ with hJ|hJ;rw[hJ.2];exact hkj;omega,.inl ⟨h,hle k o hk (.inr hkj) h⟩⟩
theorem Z0m(σ:Nat->Nat)(n:Nat): CV.weak σ n (.tup []) (.tup []):=by simp[CV.weak,CV.weakL]
theorem ix68(p:Hp)(j n:Nat)(B:List Int)(k:Int)(hg:p.t.get j=some (.var (.n (List.replicate n .s)) (.agg (B.map Y8))))(hB:B.length=n)(hk:0<=k/\k<n): qindexAddr C p.h 68 (.slc j [] 0 n) (I k)=some (.ptr j [k.toNat]):=by
 have ht:tgt p.h (.ptr j [])=some (.agg (B.map Y8)):=by
  simp only[tgt,Hp.h,hg,Option.map_some,XObj.obj,CV.at]
 have hs:CV.shape (.agg (B.map Y8))=.n (List.replicate (B.map Y8).length sh5):=by
  simp only[CV.shape,Y0k (f:=Y8) (s:=sh5) Y1g,List.length_map]
 simp only[qindexAddr,tt68,ti68,tt5,ht]
 rw[if_pos ⟨hs,hk⟩]
 simp
theorem a68(B:List Int)(k:Nat)(h:k<B.length): (CV.agg (B.map Y8)).at [k]=Y8 (nth B k):=by rw[arr_at Y8 h];rfl
theorem sa68(B:List Int)(k:Nat)(c:Int)(h:k<B.length): CV.set (.agg (B.map Y8)) [k] (Y8 c)=.agg ((B.set k c).map Y8):=by
 rw[arr_set Y8 h,List.map_set];rfl
def R156: Rel:=fun args p r=>∃(n:Int),args=[I n]/\r=.ret (I (max 0 (min n 64))) p
theorem t156{T:XCall}(h:Has T 156 R156)(n:Int){p:Hp}:T 156 [I n] p=.ret (I (max 0 (min n 64))) p:=h _ _ _ ⟨n,rfl,rfl⟩
theorem zq156{A B:Prop}(k:B)(h:A=B:=by have zy:=zA @zw156<|zA @rs156<|zA @tt3<|ti3.eq_1;exact zQ): A:=h▸k
theorem zno156{P:Prop}(h:P:=by intro jj;simp[CV.has,CV.hasL,fault,K0b.nohas]): P:=h
theorem c156: Con C 156 R156:=by
 refine V0e C ?_ ?_ ?_
 ·rintro args p r r' ⟨n,h,e⟩ ⟨n',h',e'⟩
  subst e;subst e';simp_all
 ·rintro args p r ⟨n,h,rfl⟩;exact zr1
 rintro args p r ⟨n,rfl,rfl⟩
 refine zW C false [] zT rfl xf156 zc156_ok fun call zh hF=>?_
 clear zh
 (have zx:=zT;refine zq156 ?_;try exact zT)
 repeat'(apply zK.s<;>intro hc<;>(try simp only[zhd]at hc)<;>(try have hw:=X0a hc)<;>(refine zq156 ?_;try exact zT))
 all_goals(try clear zx)
 exact V0c hF zle (Q0d rfl (X0c zno156))
theorem bs68(p:Hp): xbuildS C p 68 1 [(0,Y8 0)]=.ret (.slc p.n [] 0 1) (p.new (.var (.n [.s]) (.agg [Y8 0]))):=by
 simp only[xbuildS,tt68,ti68,tt5,ti5];rfl
theorem app68n(p:Hp)(k:Nat)(hk:p.t.get k=some (.var (.n [.s]) (.agg [Y8 0]))): xappend C true p 68 68 (.lst .nil []) (.slc k [] 0 1)=.ret (.slc p.n [] 0 1) (p.new (.var (.n (List.replicate 1 .s)) (.agg ((roomB []).map Y8)))):=by
 have hs:xsrc C p.h 5 68 (.slc k [] 0 1)=some [Y8 0]:=by
  simp only[xsrc,tt68,ti68,srcOf,tgt,Hp.h,hk,Option.map_some,XObj.obj,CV.at];rfl
 simp only[xappend,tt68,ti68,tt5,ti5,cond_true,hs];rfl
theorem app68s(p:Hp)(j k:Nat)(B:List Int)(hj:p.t.get j=some (.var (.n (List.replicate B.length .s)) (.agg (B.map Y8))))(hk:p.t.get k=some (.var (.n [.s]) (.agg [Y8 0])))(h0:0<B.length)(hl:B.length<=1000000): xappend C true p 68 68 (.slc j [] 0 B.length) (.slc k [] 0 1)=.ret (.slc p.n [] 0 (B.length+1)) ((p.set j none).new (.var (.n (List.replicate (B.length+1) .s)) (.agg ((B++[0]).map Y8)))):=by
 have hs:xsrc C p.h 5 68 (.slc k [] 0 1)=some [Y8 0]:=by
  simp only[xsrc,tt68,ti68,srcOf,tgt,Hp.h,hk,Option.map_some,XObj.obj,CV.at];rfl
 have ha:allSh (B.map Y8) sh5=true:=Y0u (fun x=>rfl) B
 simp only[xappend,tt68,ti68,tt5,ti5,cond_true,hs,xappmut,hj]
 have h1:Nat.ble B.length (B.map Y8).length=true:=Nat.ble_eq_true_of_le (by simp)
 have h2:Nat.blt 0 (B.map Y8).length=true:=V0s (by simpa using h0)
 have h3:Nat.ble (((B.map Y8).length+1)*1) 140737488355328=true:=Nat.ble_eq_true_of_le (by simp;omega)
 have h4:Nat.ble ((B.map Y8).length+1) 9223372036854775807=true:=Nat.ble_eq_true_of_le (by simp;omega)
 have h5:Nat.ble (B.length+1) (B.map Y8).length=false:=by
  rw[Bool.eq_false_iff];intro h;have:=Nat.le_of_ble_eq_true h;rw[List.length_map]at this;omega
 have h6:(B.map Y8).take B.length=B.map Y8:=List.take_of_length_le (by simp)
 have h7:allSh [Y8 0] sh5=true:=rfl
 simp only[List.length_cons,List.length_nil,Nat.zero_add,h1,h2,h3,h4,h5,h6,h7,ha,Bool.and_self,cond_true,cond_false,List.map_append]
 rfl
theorem slc_sh(a:Nat)(q:List Nat)(o m:Nat): (CV.slc a q o m).shape=.s:=rfl
theorem lst_sh(t:Tail)(l:List CV): (CV.lst t l).shape=.s:=rfl
theorem wr_fold(v:CV)(hv:v.shape=.s)(n:Int)(a:Nat)(q:List Nat)(o m:Nat): Q0c.upd_0 ⟨v,hv,n⟩ (.slc a q o m)=(Q0c.mk (.slc a q o m) (slc_sh a q o m) n).cv:=rfl
theorem b2i_inj{a b:Bool}(h:b2i a=b2i b): a=b:=by cases a<;>cases b<;>first|rfl|(simp[b2i]at h)
theorem W1_slc{J:Nat}{m:List Bool}{k:Nat}{n:Int}(hm:m≠[])(h1:(packB m).length=k)(h2:(m.length:Int)=n): W1 J m=.var sh203 (Q0c.mk (.slc J [] 0 k) (slc_sh _ _ _ _) n).cv:=by
 subst h1;subst h2
 simp only[W1,Wv,if_neg hm]
theorem Wrow_of{B:List Int}{m:List Bool}{n:Nat}(h:B=packB m)(hn:B.length=n): Wrow (packB m)=.var (.n (List.replicate n .s)) (.agg (B.map Y8)):=by
 subst hn;subst h;rfl
def R157: Rel:=fun args p r=>∃(i j:Nat) (l:List Bool) (b:Bool),args=[.ptr i [],U (b2i b)]/\(p.t.get i=some (W1 j l))/\(W2 i j l p)/\(l.length<=1000000)/\r=.ret (.tup []) (wHp i j l (l++[b]) p)
theorem t157{T:XCall}(h:Has T 157 R157)(i j:Nat)(l:List Bool)(b:Bool){p:Hp}(h1:p.t.get i=some (W1 j l))(h2:W2 i j l p)(h3:l.length<=1000000): T 157 [.ptr i [],U (b2i b)] p=.ret (.tup []) (wHp i j l (l++[b]) p):=h _ _ _ ⟨i,j,l,b,rfl,h1,h2,h3,rfl⟩
theorem zq157{A B:Prop}(k:B)(h:A=B:=by have zy:=zA @zw157<|zA @rs157<|zA @tt3<|zA @tt5<|zA @tt25<|zA @tt68<|zA @tt203<|zA ti3.eq_1<|zA ti5.eq_1<|zA ti25.eq_1<|zA ti68.eq_1<|zA ti203.eq_1<|zA @Q0o<|zA @zsl68<|zA @wr_fold<|zA @bs68<|zA @app68n<|zA @app68s<|zA @ix68<|zA @a68<|zA @sa68<|zA @sub_rep<|zA @h1<|zA @h2<|@h3;exact zQ): A:=h▸k
theorem c157: Con C 157 R157:=by
 refine V0e C ?_ ?_ ?_
 ·rintro args p r r' ⟨i,j,l,b,h,h1,h2,h3,e⟩ ⟨i',j',l',b',h',h1',h2',h3',e'⟩
  subst e;subst e';(subst h;simp only[List.cons.injEq,CV.ptr.injEq,CV.sc.injEq,Value.int.injEq,and_true,true_and]at h';obtain⟨e1,hb⟩:=h';subst e1;have hb:=b2i_inj hb;subst hb;have hu:=Z1j h1 h2 h1' h2';rw[K0z _ hu,hu.1])
 ·rintro args p r ⟨i,j,l,b,h,h1,h2,h3,rfl⟩;exact zr1
 rintro args p r ⟨i,j,l,b,rfl,h1,h2,h3,rfl⟩
 refine zW C true [] zT rfl xf157 zc157_ok fun call zh hF=>?_
 clear zh
 have hd_h1:=hF.dom _ _ h1
 have hi:=hF.dom _ _ h1
 have k1:=h1
 have k2:=h2
 have ht:((l.length:Nat):Int).tmod 8=((l.length % 8:Nat):Int):=by rw[Int.tmod_eq_emod_of_nonneg (by omega)];omega
 have hd:((l.length:Nat):Int).tdiv 8=((l.length/8:Nat):Int):=by rw[Int.tdiv_eq_ediv_of_nonneg (by omega)];omega
 have hB:=Y1p l
 have hpk:=X0f l
 have hor:=orB_pack l b
 have hne:l++[b]≠[]:=by simp
 by_cases hl:l=[]
 ·subst hl
  replace h1:p.t.get i=some (.var sh203 (Q0c.mk (.lst .nil []) (lst_sh .nil []) 0).cv):=h1
  have hB1:(roomB []).length=1:=rfl
  have z1:Int.tmod 0 8=0:=rfl
  have z2:Int.tdiv 0 8=0:=rfl
  (have zx:=zA z1 (zA z2 h1);refine zq157 ?_;try exact zT)
  repeat'(apply zK.s<;>intro hc<;>(try simp only[zhd]at hc)<;>(try have hw:=X0a hc)<;>(refine zq157 ?_;try exact zT))
  all_goals(try clear zx)
  have hpm:(packB ([]++[b])).length=1:=by rw[X0f];simp
  refine shr_w (J:=p.n+1) (l:=[]) hF hne k1 k2 ?_ ?_ (by omega) (.inr (by omega)) (fun k o hk hk2 h=>?_) (Z0m _ _)
  ·rw[W1_slc hne hpm (n:=1) rfl];simp (disch:=first|exact zdl|fail) only[zheap]
  ·rw[Wrow_of hor (n:=1) rfl];simp (disch:=first|exact zdl|fail) only[zheap];rfl
  ·have hd:=hF.dom _ _ h;simp (disch:=first|exact zdl|fail) only[Hp.bump_get,Hp.get_set_ne,Hp.get_new_ne];exact h
 ·have g2:=(h2.resolve_left hl).2
  have hji:=(h2.resolve_left hl).1
  have hpl:0<(packB l).length:=by rw[X0f];have:=List.length_pos_iff.2 hl;omega
  have hpl2:(packB l).length<=1000000:=by rw[X0f];omega
  unfold Wrow at g2
  have hjd:=hF.dom _ _ g2
  by_cases hm:l.length % 8=0
  ·have hm2:((l.length % 8:Nat):Int)=0:=by omega
   have hr:packB l++[0]=roomB l:=by rw[roomB,if_pos hm]
   have hWv:Wv j l=.slc j [] 0 (packB l).length:=if_neg hl
   replace h1:p.t.get i=some (.var sh203 (Q0c.mk (.slc j [] 0 (packB l).length) (slc_sh _ _ _ _) l.length).cv):=by rw[h1];simp only[W1,hWv]
   (have zx:=zA ht (zA hd (zA hm2 (zA hr (zA g2 h1))));refine zq157 ?_;try exact zT)
   repeat'(apply zK.s<;>intro hc<;>(try simp only[zhd]at hc)<;>(try have hw:=X0a hc)<;>(refine zq157 ?_;try exact zT))
   all_goals(try clear zx)
   have hpm:(packB (l++[b])).length=(packB l).length+1:=by rw[X0f,X0f,List.length_append,List.length_singleton];omega
   refine shr_w (J:=p.n+1) hF hne k1 k2 ?_ ?_ (by omega) (.inr (by omega)) (fun k o hk hk2 h=>?_) (Z0m _ _)
   ·rw[W1_slc hne hpm (n:=(l.length:Int)+1) (by simp)];simp (disch:=first|exact zdl|fail) only[zheap]
   ·rw[Wrow_of hor (n:=(packB l).length+1) (by rw[List.length_set];omega)];simp (disch:=first|exact zdl|fail) only[zheap];rw[hm];rfl
   ·have hd:=hF.dom _ _ h;have hkj:=hk2.resolve_left hl;simp (disch:=first|exact zdl|fail) only[Hp.bump_get,Hp.get_set_ne,Hp.get_new_ne];exact h
  ·have hm2:¬((l.length % 8:Nat):Int)=0:=by omega
   have hr:packB l=roomB l:=by rw[roomB,if_neg hm]
   have hWv:Wv j l=.slc j [] 0 (roomB l).length:=by rw[Wv,if_neg hl,hr]
   replace h1:p.t.get i=some (.var sh203 (Q0c.mk (.slc j [] 0 (roomB l).length) (slc_sh _ _ _ _) l.length).cv):=by rw[h1];simp only[W1,hWv]
   rw[hr]at g2 hpl hpl2
   (have zx:=zA ht (zA hd (zA hm2 (zA g2 h1)));refine zq157 ?_;try exact zT)
   repeat'(apply zK.s<;>intro hc<;>(try simp only[zhd]at hc)<;>(try have hw:=X0a hc)<;>(refine zq157 ?_;try exact zT))
   all_goals(try clear zx)
   have hpm:(packB (l++[b])).length=(roomB l).length:=by rw[X0f,hB,List.length_append,List.length_singleton];omega
   refine shr_w (J:=j) hF hne k1 k2 ?_ ?_ hji (.inl ⟨hl,rfl⟩) (fun k o hk hk2 h=>?_) (Z0m _ _)
   ·rw[W1_slc hne hpm (n:=(l.length:Int)+1) (by simp)];simp (disch:=first|exact zdl|fail) only[zheap]
   ·rw[Wrow_of hor (n:=(roomB l).length) (by rw[List.length_set])];simp (disch:=first|exact zdl|fail) only[zheap];rfl
   ·have hd:=hF.dom _ _ h;have hkj:=hk2.resolve_left hl;simp (disch:=first|exact zdl|fail) only[Hp.bump_get,Hp.get_set_ne,Hp.get_new_ne];exact h
theorem K1m(v:Int): ∀(n k:Nat),k<n->(bitsOf v n).take (k+1)=(bitsOf v n).take k++[bitAt v (n-1-k)]
 |0,k,h=>by omega
 |n+1,0,_=>by simp[bitsOf]
 |n+1,k+1,h=>by
  have ih:=K1m v n k (by omega)
  simp only[bitsOf,List.take_succ_cons,List.cons_append,ih]
  rw[show n+1-1-(k+1)=n-1-k by omega]
structure WSt(i j:Nat)(l:List Bool)(p:Hp)(J:Nat)(m:List Bool)(q:Hp): Prop where
 g:q.t.get i=some (W1 J m)
 w:W2 i J m q
 hJ:(m=l/\J=j)\/(p.n<=J/\J<q.n)
 hi:i<p.n
 hn:p.n<=q.n
 hle:∀k o,k≠i->(l=[]\/k≠j)->p.t.get k=some o->q.t.get k=some o
theorem WSt.start{i j:Nat}{l:List Bool}{p:Hp}(h1:p.t.get i=some (W1 j l))(h2:W2 i j l p)(hi:i<p.n): WSt i j l p j l p:=⟨h1,h2,.inl ⟨rfl,rfl⟩,hi,Nat.le_refl _,fun _ _ _ _ h=>h⟩
theorem WSt.bump{i j J:Nat}{l m:List Bool}{p q:Hp}(h:WSt i j l p J m q)(n:Nat): WSt i j l p J m (q.bump n):=by
 refine⟨by rw[Hp.bump_get];exact h.g,?_,h.hJ.imp id fun x=>⟨x.1,by rw[Hp.bump_n];omega⟩,h.hi,by rw[Hp.bump_n];have:=h.hn;omega,fun k o a b c=>by rw[Hp.bump_get];exact h.hle k o a b c⟩
 rcases h.w with w|⟨w1,w2⟩
 ·exact .inl w
 ·exact .inr ⟨w1,by rw[Hp.bump_get];exact w2⟩
theorem WSt.step{i j J:Nat}{l m:List Bool}{p q:Hp}(hd:∀k o,p.t.get k=some o->k<p.n)(h:WSt i j l p J m q)(m':List Bool): WSt i j l p q.n m' (wHp i J m m' q):=by
 have hi:i<q.n:=Nat.lt_of_lt_of_le h.hi h.hn
 refine⟨wHp_i _ _ hi,.inr ⟨by omega,wHp_new _ _⟩,.inr ⟨h.hn,by rw[wHp_n];omega⟩,h.hi,by rw[wHp_n];have:=h.hn;omega,fun k o a b c=>?_⟩
 have hk:=hd k o c
 have hn:=h.hn
 rw[wHp_ne a ?_ (by omega)]
 ·exact h.hle k o a b c
 ·rcases h.hJ with⟨e1,e2⟩|e
  ·subst e1;subst e2;exact b
  ·exact .inr (by omega)
theorem WSt.fin{args:List CV}{i j J:Nat}{l m:List Bool}{p q:Hp}(hF:Fine args p)(h1:p.t.get i=some (W1 j l))(h2:W2 i j l p)(h:WSt i j l p J m q)(hm:m≠[]){v u:CV}(hv:CV.weak (ren p.n J) (p.n+1) v u): ShrR p (.ret v q) (.ret u (wHp i j l m p)):=by
 have w:=h.w.resolve_left hm
 refine shr_w hF hm h1 h2 h.g w.2 w.1 ?_ h.hle hv
 rcases h.hJ with⟨e1,e2⟩|e
 ·exact .inl ⟨by rw[<- e1];exact hm,e2⟩
 ·exact .inr e.1
def J89(i j:Nat)(l:List Bool)(v:Int)(N:Nat)(p:Hp)(n:Nat)(ρ:Env)(q:Hp): Prop:=
 ∃(k J:Nat),n=N-k/\k<=N/\ρ 0=.ptr i []/\ρ 1=U v/\ρ 6=I ((N:Int)-1-k)/\WSt i j l p J (l++(bitsOf v N).take k) q
def R89: Rel:=fun args p r=>∃(i j:Nat) (l:List Bool) (v n:Int),args=[.ptr i [],U v,I n]/\(p.t.get i=some (W1 j l))/\(W2 i j l p)/\(l.length<=900000)/\(1<=n/\n<=64)/\r=.ret (.tup []) (wHp i j l (l++bitsOf v n.toNat) p)
theorem t89{T:XCall}(h:Has T 89 R89)(i j:Nat)(l:List Bool)(v n:Int){p:Hp}(h1:p.t.get i=some (W1 j l))(h2:W2 i j l p)(h3:l.length<=900000)(h4:1<=n/\n<=64): T 89 [.ptr i [],U v,I n] p=.ret (.tup []) (wHp i j l (l++bitsOf v n.toNat) p):=h _ _ _ ⟨i,j,l,v,n,rfl,h1,h2,h3,h4,rfl⟩
theorem zdis89{P:Prop}(h:P:=by first|exact zdis|(exact W2_nil _ _ _)|(refine W2_in ?_ ?_<;>exact zdis)|(simp only[Hp.bump_n,Hp.znew_n,Hp.zset_n,List.length_nil,List.length_cons,List.length_append,List.length_map];(first|done|omega))|(simp (disch:=first|exact zd1|(simp only[Hp.bump_n,Hp.znew_n,Hp.zset_n,List.length_nil,List.length_cons,List.length_append,List.length_map];(first|done|omega))) only[zheap,zx];(first|done|rfl))|fail): P:=h
theorem zq89{A B:Prop}(k:B)(h:A=B:=by have zy:=zA @zw89<|zA @rs89<|zA @tt3<|zA @tt25<|zA ti3.eq_1<|zA ti25.eq_1<|zA @t_156<|zA @t_157<|zA @Q0o<|zA @h1<|zA @h2<|zA @h3<|@h4;have zd:=@zdis89;exact zQd): A:=h▸k
theorem c89: Con C 89 R89:=by
 refine V0e C ?_ ?_ ?_
 ·rintro args p r r' ⟨i,j,l,v,n,h,h1,h2,h3,h4,e⟩ ⟨i',j',l',v',n',h',h1',h2',h3',h4',e'⟩
  subst e;subst e';(subst h;simp only[List.cons.injEq,CV.ptr.injEq,CV.sc.injEq,Value.int.injEq,and_true,true_and]at h';obtain⟨e1,e2,e3⟩:=h';subst e1;subst e2;subst e3;have hu:=Z1j h1 h2 h1' h2';rw[K0z _ hu,hu.1])
 ·rintro args p r ⟨i,j,l,v,n,h,h1,h2,h3,h4,rfl⟩;exact zr1
 rintro args p r ⟨i,j,l,v,n,rfl,h1,h2,h3,h4,rfl⟩
 refine zW C false [(156,R156),(157,R157)] ⟨c156,c157,zT⟩ rfl xf89 zc89_ok fun call zh hF=>?_
 have t_156:=@t156 _ zh.1
 have t_157:=@t157 _ zh.2.1
 clear zh
 have hd_h1:=hF.dom _ _ h1
 have hi:=hF.dom _ _ h1
 have k1:=h1
 have k2:=h2
 obtain⟨N,rfl⟩:=Int.eq_ofNat_of_zero_le (show 0<=n by omega)
 have hmm:max 0 (min (N:Int) 64)=N:=by omega
 have hw:=hF.dom
 (have zx:=zA hmm h1;refine zq89 ?_;try exact zT)
 repeat'(apply zK.s<;>intro hc<;>(try simp only[zhd]at hc)<;>(try have hw:=X0a hc)<;>(refine zq89 ?_;try exact zT))
 all_goals(try clear zx)
 (show W C false noExt call (ZC.loop zn89_4) _ _ _);refine Z0j C false noExt call zn89_4 _ _ _ (J89 i j l v N p) N ⟨0,j,rfl,by omega,(by simp[put_at,K0d,Z0g]),by simp[put_at,K0d,Z0g,Y0t],zev,by simpa using WSt.start k1 k2 hi⟩ ?_
 rintro n ρ q ⟨k,J,rfl,hk,e0,e1,e6,hS⟩
 by_cases hlt:k<N
 ·have hb:=bit_of v (N-1-k) (by omega)
  unfold andB at hb
  have e6:ρ 6=I ((N-1-k:Nat):Int):=by rw[e6];congr 2;omega
  have hlen:(l++(bitsOf v N).take k).length<=1000000:=by rw[List.length_append,List.length_take,Q0e];omega
  have g1:=hS.g
  have g2:=hS.w
  have hst:=hS.step hw (l++(bitsOf v N).take (k+1))
  rw[K1m v N k hlt,<- List.append_assoc]at hst
  have hge:0<=((N-1-k:Nat):Int):=by omega
  (have zx:=zA e0 (zA e1 (zA e6 (zA hb (zA g1 (zA hge h1)))));refine zq89 ?_;try exact zT)
  repeat'(apply zK.s<;>intro hc<;>(try simp only[zhd]at hc)<;>(try have hw:=X0a hc)<;>(refine zq89 ?_;try exact zT))
  all_goals(try clear zx)
  refine⟨N-(k+1),by omega,k+1,q.n,rfl,by omega,zev,zev,by simp[put_at,K0d];omega,?_⟩
  rw[K1m v N k hlt,<- List.append_assoc]
  exact hst
 ·have hkN:k=N:=by omega
  have e6:ρ 6=I (-1):=by rw[e6,hkN];congr 2;omega
  rw[hkN,List.take_of_length_le (by rw[Q0e];exact Nat.le_refl _)]at hS
  (have zx:=zA e0 (zA e1 (zA e6 h1));refine zq89 ?_;try exact zT)
  repeat'(apply zK.s<;>intro hc<;>(try simp only[zhd]at hc)<;>(try have hw:=X0a hc)<;>(refine zq89 ?_;try exact zT))
  all_goals(try clear zx)
  refine hS.fin hF k1 k2 ?_ (Z0m _ _)
  intro e
  have:=congrArg List.length e
  rw[List.length_append,Q0e,List.length_nil]at this
  omega
end Go.Proofs.Ytpchcfkebljopaa
end
section
namespace Go.Proofs.Ytpchcfkebljopaa
open Go.Cl Go Go.RowKit
theorem shapes_s{α:Type}{f:α->CV}{sh:Shape}(h:∀x,(f x).shape=sh)(l:List α): (l.map f).all (fun v=>decide (v.shape=sh))=true:=by
 simp[h]
def bindE{α β:Type}(r:Except Int (α×Nat))(f:α->Nat->Except Int (β×Nat)): Except Int (β×Nat):=match r with|.ok (x,a)=>f x a|.error e=>.error e
theorem X0d{α β:Type}(x:α)(a:Nat)(f:α->Nat->Except Int (β×Nat)): bindE (.ok (x,a)) f=f x a:=rfl
theorem X0e{α β:Type}(e:Int)(f:α->Nat->Except Int (β×Nat)): bindE (.error e) f=.error e:=rfl
def getB(b:List Int)(n a:Nat): Except Int (Int×Nat):=if a+n<=8*b.length then .ok (valB (bitB b) a n,a+n)else .error a
def sgetB(b:List Int)(n a:Nat): Except Int (Int×Nat):=bindE (getB b n a) fun u a=>.ok (sgnB u n,a)
def memB(b:List Int)(x:Q0b)(a:Nat): Nat->Except Int (Q0b×Nat)
 |0=>.ok (x,a)
 |k+1=>bindE (memB b x a k) fun y a=>bindE (sgetB b 21 a) fun v a=>.ok (y.put_7k k v,a)
def readBody(b:List Int)(a:Nat): Except Int (Q0b×Nat):=
 bindE (getB b 2 a) fun k a=>if k=0 then .ok ({Q0b.zero with Kind:=k},a) else
 bindE (getB b 3 a) fun o a=>bindE (getB b 12 a) fun x a=>bindE (getB b 12 a) fun y a=>bindE (sgetB b 8 a) fun vx a=>bindE (sgetB b 8 a) fun vy a=>bindE (getB b 10 a) fun g a=>
 bindE (memB b {Q0b.zero with Kind:=k,Owner:=o,X:=x,Y:=y,VX:=vx,VY:=vy,Age:=g} a 4) fun z a=>bindE (getB b 16 a) fun f a=>.ok ({z with Faults:=f},a)
def At(b:List Int)(a:Nat)(l:List Bool): Prop:=a+l.length<=8*b.length/\∀i,i<l.length->bitB b (a+i)=gb l i
theorem At.left{b:List Int}{a:Nat}{l m:List Bool}(h:At b a (l++m)): At b a l:=by
 have h1:=h.1
 rw[List.length_append]at h1
 refine⟨by omega,fun i hi=>?_⟩
 have:=h.2 i (by rw[List.length_append];omega)
 rw[gb_app,if_pos hi]at this;exact this
theorem At.right{b:List Int}{a:Nat}{l m:List Bool}(h:At b a (l++m)): At b (a+l.length) m:=by
 have h1:=h.1
 rw[List.length_append]at h1
 refine⟨by omega,fun i hi=>?_⟩
 have:=h.2 (l.length+i) (by rw[List.length_append];omega)
 rw[gb_app,if_neg (by omega),Nat.add_sub_cancel_left]at this
 rw[Nat.add_assoc];exact this
theorem getB_at{b:List Int}{a n:Nat}{v:Int}(h:At b a (bitsOf v n)): getB b n a=.ok (v % 2^n,a+n):=by
 have h1:=h.1
 rw[Q0e]at h1
 unfold getB
 rw[if_pos h1,valB_of fun i hi=>h.2 i (by rw[Q0e];exact hi)]
theorem Z0h{b:List Int}{a n:Nat}{v:Int}(h:At b a (bitsOf v n))(h0:0<=v/\v<2^n): getB b n a=.ok (v,a+n):=by
 rw[getB_at h,Int.emod_eq_of_lt h0.1 h0.2]
theorem sgetB_at{b:List Int}{a n:Nat}{v:Int}(h:At b a (bitsOf v n))(hn:1<=n)(h0:-(2^(n-1))<=v/\v<2^(n-1)): sgetB b n a=.ok (v,a+n):=by
 unfold sgetB
 rw[getB_at h,X0d,sgnB_of hn h0]
theorem Z0o{α:Type}[Inhabited α](f:α->List Bool)(l:List α){k:Nat}(h:k<l.length): (l.take (k+1)).flatMap f=(l.take k).flatMap f++f (nth l k):=by
 rw[Z0l h,List.flatMap_append];simp
theorem V11{α:Type}(f:α->List Bool)(l:List α)(k:Nat): ∃m,l.flatMap f=(l.take k).flatMap f++m:=⟨(l.drop k).flatMap f,by rw[<- List.flatMap_append,List.take_append_drop]⟩
theorem Z13{α:Type}(f:α->List Bool)(n:Nat): ∀l:List α,(∀x∈l,(f x).length=n)->(l.flatMap f).length=n*l.length
 |[],_=>by simp
 |x::l,h=>by
  rw[List.flatMap_cons,List.length_append,h x (by simp),Z13 f n l fun y hy=>h y (by simp[hy]),List.length_cons,Nat.mul_succ];omega
end Go.Proofs.Ytpchcfkebljopaa
end
section
namespace Go.Proofs.Ytpchcfkebljopaa
open Go.Cl Go Go.RowKit
set_option maxRecDepth 100000
set_option linter.constructorNameAsVariable false
theorem WSt.new{i j J:Nat}{l m:List Bool}{p q:Hp}(hd:∀k o,p.t.get k=some o->k<p.n)(h:WSt i j l p J m q)(hj:J<q.n)(o:XObj): WSt i j l p J m (q.new o):=by
 have hi:i<q.n:=Nat.lt_of_lt_of_le h.hi h.hn
 refine⟨by rw[Hp.get_new_ne _ _ (by omega)];exact h.g,?_,h.hJ.imp id fun x=>⟨x.1,by rw[Hp.znew_n];omega⟩,h.hi,by rw[Hp.znew_n];have:=h.hn;omega,fun k o' a b c=>?_⟩
 ·rcases h.w with w|⟨w1,w2⟩
  ·exact .inl w
  ·exact .inr ⟨w1,by rw[Hp.get_new_ne _ _ (by omega)];exact w2⟩
 ·have hk:=hd k o' c
  have hn:=h.hn
  rw[Hp.get_new_ne _ _ (by omega)];exact h.hle k o' a b c
theorem WSt.new0{i j:Nat}{l:List Bool}{p:Hp}(hd:∀k o,p.t.get k=some o->k<p.n)(h1:p.t.get i=some (W1 j l))(h2:W2 i j l p)(hi:i<p.n)(o:XObj): WSt i j l p j l (p.new o):=by
 refine⟨by rw[Hp.get_new_ne _ _ (by omega)];exact h1,?_,.inl ⟨rfl,rfl⟩,hi,by rw[Hp.znew_n];omega,fun k o' a b c=>by rw[Hp.get_new_ne _ _ (by have:=hd k o' c;omega)];exact c⟩
 rcases h2 with w|⟨w1,w2⟩
 ·exact .inl w
 ·exact .inr ⟨w1,by rw[Hp.get_new_ne _ _ (by have:=hd _ _ w2;omega)];exact w2⟩
theorem wHp_nj{i j:Nat}{l m:List Bool}{p:Hp}{k:Nat}(h1:k≠i)(h2:k≠j)(h3:k≠p.n): (wHp i j l m p).t.get k=p.t.get k:=wHp_ne h1 (.inr h2) h3
theorem wHp_eq{i j:Nat}{l m:List Bool}{p:Hp}{k:Nat}(h:k=p.n): (wHp i j l m p).t.get k=some (Wrow (packB m)):=by subst h;exact wHp_new _ _
theorem zdw1{P:Prop}(h:P:=by first|omega|(simp only[wHp_n,Hp.bump_n,Hp.znew_n,Hp.zset_n];(first|done|omega))): P:=h
theorem zdw{P:Prop}(h:P:=by first|exact zdis|(simp (disch:=first|exact zdw1|fail) only[zheap,wHp_i,wHp_eq,wHp_nj,wHp_n,zx];(first|done|rfl))): P:=h
def R158: Rel:=fun args p r=>∃(i j:Nat) (l:List Bool) (v n:Int),args=[.ptr i [],I v,I n]/\(p.t.get i=some (W1 j l))/\(W2 i j l p)/\(l.length<=900000)/\(1<=n/\n<=64)/\r=.ret (.tup []) (wHp i j l (l++bitsOf v n.toNat) p)
theorem t158{T:XCall}(h:Has T 158 R158)(i j:Nat)(l:List Bool)(v n:Int){p:Hp}(h1:p.t.get i=some (W1 j l))(h2:W2 i j l p)(h3:l.length<=900000)(h4:1<=n/\n<=64): T 158 [.ptr i [],I v,I n] p=.ret (.tup []) (wHp i j l (l++bitsOf v n.toNat) p):=h _ _ _ ⟨i,j,l,v,n,rfl,h1,h2,h3,h4,rfl⟩
theorem zq158{A B:Prop}(k:B)(h:A=B:=by have zy:=zA @zw158<|zA @rs158<|zA @tt3<|zA @tt25<|zA ti3.eq_1<|zA ti25.eq_1<|zA @t_89<|zA @h1<|zA @h2<|zA @h3<|@h4;exact zQ): A:=h▸k
theorem c158: Con C 158 R158:=by
 refine V0e C ?_ ?_ ?_
 ·rintro args p r r' ⟨i,j,l,v,n,h,h1,h2,h3,h4,e⟩ ⟨i',j',l',v',n',h',h1',h2',h3',h4',e'⟩
  subst e;subst e';(subst h;simp only[List.cons.injEq,CV.ptr.injEq,CV.sc.injEq,Value.int.injEq,and_true,true_and]at h';obtain⟨e1,e2,e3⟩:=h';subst e1;subst e2;subst e3;have hu:=Z1j h1 h2 h1' h2';rw[K0z _ hu,hu.1])
 ·rintro args p r ⟨i,j,l,v,n,h,h1,h2,h3,h4,rfl⟩;exact zr1
 rintro args p r ⟨i,j,l,v,n,rfl,h1,h2,h3,h4,rfl⟩
 refine zW C false [(89,R89)] ⟨c89,zT⟩ rfl xf158 zc158_ok fun call zh hF=>?_
 have t_89:=@t89 _ zh.1
 clear zh
 have hd_h1:=hF.dom _ _ h1
 have hi:=hF.dom _ _ h1
 (have zx:=h1;refine zq158 ?_;try exact zT)
 repeat'(apply zK.s<;>intro hc<;>(try simp only[zhd]at hc)<;>(try have hw:=X0a hc)<;>(refine zq158 ?_;try exact zT))
 all_goals(try clear zx)
 rw[Q07 _ (by omega)]
 refine((WSt.start h1 h2 hi).step hF.dom _).fin hF h1 h2 ?_ (Z0m _ _)
 intro e
 have:=congrArg List.length e
 rw[List.length_append,Q0e,List.length_nil]at this
 omega
theorem WSt.step2{i j J J':Nat}{l m m':List Bool}{p q:Hp}(hd:∀k o,p.t.get k=some o->k<p.n)(e:J'=q.n)(h:WSt i j l p J m q): WSt i j l p J' m' (wHp i J m m' q):=by subst e;exact h.step hd m'
theorem app_ne{l m:List Bool}{n:Nat}(h:m.length=n+1): l++m≠[]:=fun e=>by
 have:=congrArg List.length e
 rw[List.length_append,h,List.length_nil]at this
 omega
end Go.Proofs.Ytpchcfkebljopaa
end
section
namespace Go.Proofs.Ytpchcfkebljopaa
open Go.Cl Go Go.RowKit
set_option maxRecDepth 100000
def zn65_1:=ZC.reg [zv 4 (.assign (.const (.slice none 0 0)))]
def zn65_3:=ZC.reg [zu 7 (zmv 0),zu 8 (.makeSlice 108 (Tm 7) (Tm 7)),zv 5 (zas 8)]
def zn65_6:=ZC.reg [zv 6 (.assign (Kn 0))]
def zn65_11:=ZC.reg [zu 9 (zmv 6),zu 10 (zmv 0),zu 11 (.binOp .lss 3 (Tm 9) (Tm 10) 3),zu 12 (zmv 11),zug 13 (zmv 6) 12 true false,zug 14 (zmv 1) 12 true false,zug 15 (zcb .len [Tm 14] [24]) 12 true false,zug 16 (.binOp .lss 3 (Tm 13) (Tm 15) 3) 12 true false,zv 17 (.pick (Tm 12) (Tm 16) (.const (.bool false)))]
def zn65_16:=ZC.reg [zu 20 (zmv 1),zu 21 (zmv 6),zu 22 (zia 24 20 21),zu 23 (zld 3 22),zu 24 (.binOp .rem 3 (Tm 23) (Kn 4) 3),zv 25 (.binOp .gtr 3 (Tm 24) (Kn 0) 3)]
def zn65_18:=ZC.draw 16 [] [zdd 0 26 (zmv 5) false [] [] false,zdd 1 27 (zmv 6) false [] [] false,zdd 2 28 (zmv 1) false [] [] false,zdd 3 29 (zmv 6) false [] [] false,zdd 4 30 (zia 24 28 29) false [] [] false,zdd 5 31 (zld 3 30) false [] [] false,zdd 6 32 (.binOp .quo 3 (Tm 31) (Kn 4) 3) false [] [] false,zdd 7 33 (zmv 1) false [] [] false,zdd 8 34 (zmv 6) true [] [] false,zdd 9 35 (zia 24 33 34) true [] [] false,zdd 10 36 (zld 3 35) true [] [] false,zdd 11 37 (.binOp .quo 3 (Tm 36) (Kn 7) 3) true [] [] false,zdd 12 38 (zcf 69 [Tm 32,Tm 37] [3,3]) true [] [] false,⟨13,some 39,.build 110 ⟨[(0,.const (.bool true)),(1,.tmp 38)]⟩,none,true,[],[],false⟩,zdd 14 40 (zia 108 26 27) true [] [] false,zd0 15 (.store 110 (Tm 40) (Tm 39)) true [] [] false]
def zn65_19:=ZC.reg [zu 18 (zmv 6),zu 19 (.binOp .add 3 (Tm 18) (Kn 1) 3),zv 6 (zas 19)]
def zn65_9:=ZC.seq (ZC.seq zn65_11 (ZC.cond (Tm 17) ZC.skip (ZC.exit 0))) (ZC.seq (ZC.block 1 (ZC.seq zn65_16 (ZC.cond (Tm 25) zn65_18 ZC.skip))) zn65_19)
def zn65_21:=ZC.reg [zu 41 (zmv 5),zv 4 (zas 41)]
def zn65_0:=ZC.seq zn65_1 (ZC.seq zn65_3 (ZC.seq (ZC.seq zn65_6 (ZC.block 0 (ZC.loop zn65_9))) (ZC.seq zn65_21 ZC.ret)))
def zc65: ZC:=zn65_0
theorem zc65_ok: zcode (xfOf Try.f65).code=some zc65:=by kernel_rfl
def zw65:=zU C zc65.eq_1<|zU C zn65_1.eq_1<|zU C zn65_3.eq_1<|zU C zn65_6.eq_1<|zU C zn65_11.eq_1<|zU C zn65_16.eq_1<|zU C zn65_18.eq_1<|zU C zn65_19.eq_1<|zU C zn65_9.eq_1<|zU C zn65_21.eq_1<|(zunf C zn65_0.eq_1)
theorem rs65: (xfOf Try.f65).rs=[.tmp 4]:=by kernel_rfl
def xf65:=zF C 65 Try.f65
end Go.Proofs.Ytpchcfkebljopaa
end
section
namespace Go.Proofs.Ytpchcfkebljopaa
open Go.Cl Go Go.RowKit
set_option maxRecDepth 100000
set_option linter.constructorNameAsVariable false
end Go.Proofs.Ytpchcfkebljopaa
end
section
namespace Go.Proofs.Ytpchcfkebljopaa
open Go.Cl Go Go.RowKit
end Go.Proofs.Ytpchcfkebljopaa
end
section
namespace Go.Proofs.Ytpchcfkebljopaa
open Go.Cl Go Go.RowKit
set_option maxRecDepth 100000
set_option linter.constructorNameAsVariable false
def nilB: Lst Int:=⟨.nil,[],fun _=>rfl⟩
def partB(l:List Int): Lst Int:=⟨.part,l,nofun⟩
theorem bld203: qbuild C 203 []=some (Q0c.mk (.lst .nil []) (lst_sh .nil []) 0).cv:=by
 simp only[qbuild,tt203,ti203,partsOk,setAll];rfl
def R88: Rel:=fun args p r=>args=[]/\r=.ret (.ptr p.n []) (p.new (W1 0 []))
theorem t88{T:XCall}(h:Has T 88 R88) {p:Hp}:T 88 [] p=.ret (.ptr p.n []) (p.new (W1 0 [])):=h _ _ _ ⟨rfl,rfl⟩
theorem zq88{A B:Prop}(k:B)(h:A=B:=by have zy:=zA @zw88<|zA @rs88<|zA @tt203<|zA ti203.eq_1<|zA @Q0o<|@bld203;exact zQ): A:=h▸k
theorem c88: Con C 88 R88:=by
 refine V0e C ?_ ?_ ?_
 ·rintro args p r r' ⟨h,e⟩ ⟨h',e'⟩
  subst e;subst e';simp_all[Q0c.inj_iff]
 ·rintro args p r ⟨h,rfl⟩;exact zr1
 rintro args p r ⟨rfl,rfl⟩
 refine zW C false [] zT rfl xf88 zc88_ok fun call zh hF=>?_
 clear zh
 (have zx:=zT;refine zq88 ?_;try exact zT)
 repeat'(apply zK.s<;>intro hc<;>(try simp only[zhd]at hc)<;>(try have hw:=X0a hc)<;>(refine zq88 ?_;try exact zT))
 all_goals(try clear zx)
 refine Y1i (by rw[Hp.znew_n];omega) (fun k o h=>?_) (by simp[CV.weak,Hp.znew_n])
 by_cases hk:k=p.n
 ·subst hk
  rw[Hp.get_new_self]at h;cases h
  exact⟨by rw[Hp.znew_n];omega,.inr ⟨W1 0 [],by rw[Hp.get_new_self];rfl,K0l fun j hj=>by simp[W1,Wv,Q0c.cv,XObj.has,CV.has,CV.hasL]at hj⟩⟩
 ·rw[Hp.get_new_ne _ _ hk]at h
  have hd:=hF.dom _ _ h
  exact⟨by rw[Hp.znew_n];omega,.inl ⟨hd,h,by rw[Hp.get_new_ne _ _ hk];exact h⟩⟩
def R159: Rel:=fun args p r=>∃(s:Lst Int),args=[s.cv Y8]/\(s.tl≠.view)/\(s.l.length<=140737488355328)/\r=.ret (Lst.cv Y8 (cloneP s)) p
theorem t159{T:XCall}(h:Has T 159 R159)(s:Lst Int){p:Hp}(h1:s.tl≠.view)(h2:s.l.length<=140737488355328): T 159 [s.cv Y8] p=.ret (Lst.cv Y8 (cloneP s)) p:=h _ _ _ ⟨s,rfl,h1,h2,rfl⟩
theorem zq159{A B:Prop}(k:B)(h:A=B:=by have zy:=zA @zw159<|zA @rs159<|zA @tt68<|zA ti68.eq_1<|zA @zsl68<|zA @h1<|@h2;exact zQ): A:=h▸k
theorem c159: Con C 159 R159:=by
 refine V0e C ?_ ?_ ?_
 ·rintro args p r r' ⟨s,h,h1,h2,e⟩ ⟨s',h',h1',h2',e'⟩
  subst e;subst e';simp_all[Q0g]
 ·rintro args p r ⟨s,h,h1,h2,rfl⟩;exact zr1
 rintro args p r ⟨s,rfl,h1,h2,rfl⟩
 refine zW C false [] zT rfl xf159 zc159_ok fun call zh hF=>?_
 clear zh
 obtain⟨tl,l,o⟩:=s
 simp only at h2 h1
 cases tl with
 |view=>exact absurd rfl h1
 |nil=>
  have:=o rfl
  subst this
  (have zx:=zT;refine zq159 ?_;try exact zT)
  repeat'(apply zK.s<;>intro hc<;>(try simp only[zhd]at hc)<;>(try have hw:=X0a hc)<;>(refine zq159 ?_;try exact zT))
  all_goals(try clear zx)
  exact V0c hF zle (Y1v X0r ⟨.nil,[],o⟩ 0 _)
 |_=>
  cases l with
  |nil=>
   (have zx:=zT;refine zq159 ?_;try exact zT)
   repeat'(apply zK.s<;>intro hc<;>(try simp only[zhd]at hc)<;>(try have hw:=X0a hc)<;>(refine zq159 ?_;try exact zT))
   all_goals(try clear zx)
   exact V0c hF zle (Y0d (X0c (by intro jj;simp[Lst.cv,cloneP,CV.has,CV.hasL])))
  |cons x l=>
   simp only[List.length_cons]at h2
   (have zx:=zT;refine zq159 ?_;try exact zT)
   repeat'(apply zK.s<;>intro hc<;>(try simp only[zhd]at hc)<;>(try have hw:=X0a hc)<;>(refine zq159 ?_;try exact zT))
   all_goals(try clear zx)
   exact V0c hF zle (Y1v X0r ⟨.exact,x::l,nofun⟩ _ _)
def R159x: Rel:=fun args p r=>R159 args p r\/RFrz R159 args p r
theorem c159x: Con C 159 R159x:=con_or C c159 (con_frz C c159) (by
 rintro args p r r' ⟨s,rfl,_⟩ ⟨a,j,sh,l,sz,e,_⟩
 have:=congrArg List.getLast? e
 simp[Lst.cv]at this)
theorem t159x{T:XCall}(h:Has T 159 R159x): (∀(s:Lst Int) {p:Hp},s.tl≠.view->s.l.length<=140737488355328->T 159 [s.cv Y8] p=.ret (Lst.cv Y8 (cloneP s)) p) /\
  ∀(B:List Int) (j:Nat) {p:Hp},B≠[]->B.length<=140737488355328->p.t.get j=some (.var (.n (List.replicate B.length .s)) (.agg (B.map Y8)))->T 159 [.slc j [] 0 B.length] p=.ret (Lst.cv Y8 (partB B)) (p.set j none):=by
 refine⟨fun s p h1 h2=>h _ _ _ (.inl ⟨s,rfl,h1,h2,rfl⟩),fun B j p hne h1 hg=>h _ _ _ (.inr ⟨[],j,_,B.map Y8,1,?_,hg,fun x hx=>?_,⟨⟨.part,B,nofun⟩,rfl,by simp,h1,?_⟩⟩)⟩
 ·rw[List.length_map];rfl
 ·obtain⟨y,_,rfl⟩:=List.mem_map.1 hx;rfl
 ·cases B with
  |nil=>exact absurd rfl hne
  |cons b B=>rfl
def R91: Rel:=fun args p r=>∃(i j:Nat) (l:List Bool),args=[.ptr i []]/\(p.t.get i=some (W1 j l))/\(W2 i j l p)/\(l.length<=1000000)/\(l≠[])/\r=.ret (Lst.cv Y8 (partB (packB l))) (p.set j none)
theorem t91{T:XCall}(h:Has T 91 R91)(i j:Nat)(l:List Bool){p:Hp}(h1:p.t.get i=some (W1 j l))(h2:W2 i j l p)(h3:l.length<=1000000)(h4:l≠[]): T 91 [.ptr i []] p=.ret (Lst.cv Y8 (partB (packB l))) (p.set j none):=h _ _ _ ⟨i,j,l,rfl,h1,h2,h3,h4,rfl⟩
theorem zq91{A B:Prop}(k:B)(h:A=B:=by have zy:=zA @zw91<|zA @rs91<|zA @tt68<|zA @tt203<|zA ti68.eq_1<|zA ti203.eq_1<|zA @t_159x<|zA @Q0o<|zA @zsl68<|zA @h1<|zA @h2<|zA @h3<|@h4;exact zQ): A:=h▸k
theorem c91: Con C 91 R91:=by
 refine V0e C ?_ ?_ ?_
 ·rintro args p r r' ⟨i,j,l,h,h1,h2,h3,h4,e⟩ ⟨i',j',l',h',h1',h2',h3',h4',e'⟩
  subst e;subst e';(subst h;simp only[List.cons.injEq,CV.ptr.injEq,and_true,true_and]at h';subst h';have hu:=Z1j h1 h2 h1' h2';obtain⟨e1,e2⟩:=hu;subst e1;rw[e2 h4])
 ·rintro args p r ⟨i,j,l,h,h1,h2,h3,h4,rfl⟩;exact zr1
 rintro args p r ⟨i,j,l,rfl,h1,h2,h3,h4,rfl⟩
 refine zW C false [(159,R159x)] ⟨c159x,zT⟩ rfl xf91 zc91_ok fun call zh hF=>?_
 have t_159x:=@t159x _ zh.1
 clear zh
 have hd_h1:=hF.dom _ _ h1
 have k1:=h1
 have hi:=hF.dom _ _ h1
 have g2:=(h2.resolve_left h4).2
 have hji:=(h2.resolve_left h4).1
 have hpk:=X0f l
 have hpl:packB l≠[]:=fun e=>h4 (packB_nil.1 e)
 unfold Wrow at g2
 have hWv:Wv j l=.slc j [] 0 (packB l).length:=if_neg h4
 replace h1:p.t.get i=some (.var sh203 (Q0c.mk (.slc j [] 0 (packB l).length) (slc_sh _ _ _ _) l.length).cv):=by rw[h1];simp only[W1,hWv]
 have t2:=t_159x.2 (packB l) j (p:=p) hpl (by omega) g2
 (have zx:=zA t2 h1;refine zq91 ?_;try exact zT)
 repeat'(apply zK.s<;>intro hc<;>(try simp only[zhd]at hc)<;>(try have hw:=X0a hc)<;>(refine zq91 ?_;try exact zT))
 all_goals(try clear zx)
 refine Y1i (Nat.le_refl _) (fun k o h=>?_) (Y0d (X0c (fun jj hj=>by have:=(Lst.has _ X0r (partB (packB l)) jj).1 hj;cases this)))
 by_cases hk:k=j
 ·subst hk;rw[Hp.get_set_self]at h;cases h
 ·have h':=h
  rw[Hp.get_set_ne _ _ _ hk]at h'
  exact⟨hF.dom _ _ h',.inl ⟨hF.dom _ _ h',h',h⟩⟩
theorem wHp_n0{i j:Nat}{m:List Bool}{p:Hp}{k:Nat}(h1:k≠i)(h3:k≠p.n): (wHp i j [] m p).t.get k=p.t.get k:=wHp_ne h1 (.inl rfl) h3
def rdr(B:Lst Int)(a:Nat): XObj:=.var sh208 (Y0b.mk B a).cv
theorem rdr_inj{B B':Lst Int}{a a':Nat}(h:rdr B a=rdr B' a'): B=B'/\a=a':=by
 simp only[rdr,XObj.var.injEq,Y0b.inj_iff,Y0b.mk.injEq,true_and]at h
 exact⟨h.1,by omega⟩
theorem X1b{p:Hp}{i:Nat}{B B':Lst Int}{a a':Nat}(h:p.t.get i=some (rdr B a))(h':p.t.get i=some (rdr B' a')): B=B'/\a=a':=rdr_inj (by rw[h]at h';exact Option.some.inj h')
theorem wrap_b2i(b:Bool): IntKind.u64.wrap (b2i b)=b2i b:=by cases b<;>rfl
theorem shr_newo{args:List CV}{p:Hp}(hF:Fine args p)(o:XObj)(ho:∀j,¬o.has j): ShrR p (.ret (.ptr p.n []) (p.new o)) (.ret (.ptr p.n []) (p.new o)):=by
 refine Y1i (by rw[Hp.znew_n];omega) (fun k o' h=>?_) (by simp[CV.weak,Hp.znew_n])
 by_cases hk:k=p.n
 ·subst hk
  rw[Hp.get_new_self]at h;cases h
  exact⟨by rw[Hp.znew_n];omega,.inr ⟨o,Hp.get_new_self _ _,K0l fun j hj=>(ho j hj).elim⟩⟩
 ·rw[Hp.get_new_ne _ _ hk]at h
  have hd:=hF.dom _ _ h
  exact⟨by rw[Hp.znew_n];omega,.inl ⟨hd,h,by rw[Hp.get_new_ne _ _ hk];exact h⟩⟩
theorem rdr_has{s:Lst Int}(h:∀j,s.tl≠.own j)(a j:Nat): ¬(rdr s a).has j:=fun hj=>by
 simp only[rdr,XObj.has,Y0b.has]at hj
 exact h j hj
def R95: Rel:=fun args p r=>∃(s:Lst Int),args=[s.cv Y8]/\(s.tl≠.view)/\(s.l.length<=140737488355328)/\r=.ret (.ptr p.n []) (p.new (rdr (cloneP s) 0))
theorem t95{T:XCall}(h:Has T 95 R95)(s:Lst Int){p:Hp}(h1:s.tl≠.view)(h2:s.l.length<=140737488355328): T 95 [s.cv Y8] p=.ret (.ptr p.n []) (p.new (rdr (cloneP s) 0)):=h _ _ _ ⟨s,rfl,h1,h2,rfl⟩
theorem zq95{A B:Prop}(k:B)(h:A=B:=by have zy:=zA @zw95<|zA @rs95<|zA @tt208<|zA ti208.eq_1<|zA @t_159<|zA @K0o<|zA @h1<|@h2;exact zQ): A:=h▸k
theorem c95: Con C 95 R95:=by
 refine V0e C ?_ ?_ ?_
 ·rintro args p r r' ⟨s,h,h1,h2,e⟩ ⟨s',h',h1',h2',e'⟩
  subst e;subst e';simp_all[Y0b.inj_iff,Q0g]
 ·rintro args p r ⟨s,h,h1,h2,rfl⟩;exact zr1
 rintro args p r ⟨s,rfl,h1,h2,rfl⟩
 refine zW C false [(159,R159)] ⟨c159,zT⟩ rfl xf95 zc95_ok fun call zh hF=>?_
 have t_159:=@t159 _ zh.1
 clear zh
 (have zx:=zT;refine zq95 ?_;try exact zT)
 repeat'(apply zK.s<;>intro hc<;>(try simp only[zhd]at hc)<;>(try have hw:=X0a hc)<;>(refine zq95 ?_;try exact zT))
 all_goals(try clear zx)
 exact shr_newo hF (rdr (cloneP s) 0) (rdr_has (X1n s) 0)
def R189: Rel:=fun args p r=>∃(i:Nat) (B:Lst Int) (a:Nat),args=[.ptr i []]/\(p.t.get i=some (rdr B a))/\(B.l.length<=140737488355328)/\(a<=8*B.l.length)/\r=.ret (I (8*B.l.length-a)) p
theorem t189{T:XCall}(h:Has T 189 R189)(i:Nat)(B:Lst Int)(a:Nat){p:Hp}(h1:p.t.get i=some (rdr B a))(h2:B.l.length<=140737488355328)(h3:a<=8*B.l.length): T 189 [.ptr i []] p=.ret (I (8*B.l.length-a)) p:=h _ _ _ ⟨i,B,a,rfl,h1,h2,h3,rfl⟩
theorem zq189{A B:Prop}(k:B)(h:A=B:=by have zy:=zA @zw189<|zA @rs189<|zA @tt3<|zA @tt68<|zA @tt208<|zA ti3.eq_1<|zA ti68.eq_1<|zA ti208.eq_1<|zA @K0o<|zA @zsl68<|zA @h1<|zA @h2<|@h3;exact zQ): A:=h▸k
theorem zno189{P:Prop}(h:P:=by intro jj;simp[CV.has,CV.hasL,fault,K0b.nohas]): P:=h
theorem c189: Con C 189 R189:=by
 refine V0e C ?_ ?_ ?_
 ·rintro args p r r' ⟨i,B,a,h,h1,h2,h3,e⟩ ⟨i',B',a',h',h1',h2',h3',e'⟩
  subst e;subst e';(subst h;simp only[List.cons.injEq,CV.ptr.injEq,and_true,true_and]at h';subst h';obtain⟨e1,e2⟩:=X1b h1 h1';rw[e1,e2])
 ·rintro args p r ⟨i,B,a,h,h1,h2,h3,rfl⟩;exact zr1
 rintro args p r ⟨i,B,a,rfl,h1,h2,h3,rfl⟩
 refine zW C false [] zT rfl xf189 zc189_ok fun call zh hF=>?_
 clear zh
 have hd_h1:=hF.dom _ _ h1
 have hi:=hF.dom _ _ h1
 replace h1:p.t.get i=some (.var sh208 (Y0b.mk B a).cv):=h1
 (have zx:=h1;refine zq189 ?_;try exact zT)
 repeat'(apply zK.s<;>intro hc<;>(try simp only[zhd]at hc)<;>(try have hw:=X0a hc)<;>(refine zq189 ?_;try exact zT))
 all_goals(try clear zx)
 exact V0c hF zle (Q0d rfl (X0c zno189))
theorem valB_63(g:Nat->Bool)(a:Nat){k:Nat}(h:k<=63): 0<=valB g a k/\valB g a k<2^63:=by
 have hr:=V0u g a k
 have h2:(2:Nat)^k<=2^63:=Nat.pow_le_pow_right (by omega) h
 have h3:(2:Int)^k<=2^63:=by exact_mod_cast h2
 omega
def J160(i:Nat)(B:Lst Int)(a:Nat)(N:Nat)(p:Hp)(n:Nat)(ρ:Env)(q:Hp): Prop:=
 ∃k:Nat,n=N-k/\k<=N/\ρ 0=.ptr i []/\ρ 5=U (valB (bitB B.l) a k)/\ρ 18=I N/\ρ 19=I k/\q.t.get i=some (.var sh208 (Y0b.mk B (a+k:Nat)).cv)/\p.n<=q.n/\∀j o,j≠i->p.t.get j=some o->q.t.get j=some o
def R160: Rel:=fun args p r=>∃(i:Nat) (B:Lst Int) (a:Nat) (n:Int),args=[.ptr i [],I n]/\(p.t.get i=some (rdr B a))/\(B.l.length<=140737488355328)/\(a<=8*B.l.length)/\(1<=n/\n<=64)/\(∀x∈B.l,0<=x/\x<=255)/\r=if a+n.toNat<=8*B.l.length then .ret (U (valB (bitB B.l) a n.toNat)) (p.set i (some (rdr B (a+n.toNat))))else .pan (fault 100 a) (p.set i none)
theorem t160{T:XCall}(h:Has T 160 R160)(i:Nat)(B:Lst Int)(a:Nat)(n:Int){p:Hp}(h1:p.t.get i=some (rdr B a))(h2:B.l.length<=140737488355328)(h3:a<=8*B.l.length)(h4:1<=n/\n<=64)(h5:∀x∈B.l,0<=x/\x<=255): T 160 [.ptr i [],I n] p=if a+n.toNat<=8*B.l.length then .ret (U (valB (bitB B.l) a n.toNat)) (p.set i (some (rdr B (a+n.toNat))))else .pan (fault 100 a) (p.set i none):=h _ _ _ ⟨i,B,a,n,rfl,h1,h2,h3,h4,h5,rfl⟩
theorem zq160{A B:Prop}(k:B)(h:A=B:=by have zy:=zA @zw160<|zA @rs160<|zA @tt3<|zA @tt5<|zA @tt25<|zA @tt68<|zA @tt178<|zA @tt208<|zA ti3.eq_1<|zA ti5.eq_1<|zA ti25.eq_1<|zA ti68.eq_1<|zA ti178.eq_1<|zA ti208.eq_1<|zA @t_156<|zA @t_181<|zA @t_189<|zA @K0o<|zA @zsl68<|zA @wrap_b2i<|zA @h1<|zA @h2<|zA @h3<|zA @h4<|@h5;exact zQ): A:=h▸k
theorem c160: Con C 160 R160:=by
 refine V0e C ?_ ?_ ?_
 ·rintro args p r r' ⟨i,B,a,n,h,h1,h2,h3,h4,h5,e⟩ ⟨i',B',a',n',h',h1',h2',h3',h4',h5',e'⟩
  subst e;subst e';(subst h;simp only[List.cons.injEq,CV.ptr.injEq,CV.sc.injEq,Value.int.injEq,and_true,true_and]at h';obtain⟨e0,e3⟩:=h';subst e0;subst e3;obtain⟨e1,e2⟩:=X1b h1 h1';rw[e1,e2])
 ·rintro args p r ⟨i,B,a,n,h,h1,h2,h3,h4,h5,rfl⟩;exact zr1
 rintro args p r ⟨i,B,a,n,rfl,h1,h2,h3,h4,h5,rfl⟩
 refine zW C false [(156,R156),(181,R181),(189,R189)] ⟨c156,c181,c189,zT⟩ rfl xf160 zc160_ok fun call zh hF=>?_
 have t_156:=@t156 _ zh.1
 have t_181:=@t181 _ zh.2.1
 have t_189:=@t189 _ zh.2.2.1
 clear zh
 have hd_h1:=hF.dom _ _ h1
 have hi:=hF.dom _ _ h1
 have k1:=h1
 obtain⟨N,rfl⟩:=Int.eq_ofNat_of_zero_le (show 0<=n by omega)
 have hmm:max 0 (min (N:Int) 64)=N:=by omega
 replace h1:p.t.get i=some (.var sh208 (Y0b.mk B a).cv):=h1
 by_cases hroom:a+N<=8*B.l.length
 ·have hr2:(N:Int)<=8*B.l.length-a:=by omega
  (have zx:=zA hmm (zA hr2 h1);refine zq160 ?_;try exact zT)
  repeat'(apply zK.s<;>intro hc<;>(try simp only[zhd]at hc)<;>(try have hw:=X0a hc)<;>(refine zq160 ?_;try exact zT))
  all_goals(try clear zx)
  (show W C false noExt call (ZC.loop V1h) _ _ _);refine Z0j C false noExt call V1h _ _ _ (J160 i B a N p) N ⟨0,rfl,by omega,by simp[put_at,K0d,Z0g],by simp[put_at,K0d,valB],zev,zev,by rw[Hp.bump_get];exact h1,by rw[Hp.bump_n];omega,fun j o _ h=>by rw[Hp.bump_get];exact h⟩ ?_
  rintro n ρ q ⟨k,rfl,hk,e0,e5,e18,e19,g1,hn,hle⟩
  by_cases hlt:(k:Int)<N
  ·have ht:(((a+k:Nat)):Int).tmod 8=(((a+k) % 8:Nat):Int):=by rw[Int.tmod_eq_emod_of_nonneg (by omega)];omega
   have hd:(((a+k:Nat)):Int).tdiv 8=(((a+k)/8:Nat):Int):=by rw[Int.tdiv_eq_ediv_of_nonneg (by omega)];omega
   have hix:(a+k)/8<B.l.length:=by omega
   have hy:=h5 (nth B.l ((a+k)/8)) (by rw[K0j hix];exact List.getElem_mem _)
   have hb8:=bit8_eq hy (show(a+k) % 8<8 by omega)
   unfold bit8 at hb8
   rw[show bitAt (nth B.l ((a+k)/8)) (7-(a+k) % 8)=bitB B.l (a+k) from rfl]at hb8
   have hsh:=shl1_eq (valB_63 (bitB B.l) a (k:=k) (by omega)) (bitB B.l (a+k))
   unfold shl1 at hsh
   replace hsh:IntKind.u64.wrap (BitVec.ofInt IntKind.u64.bits (IntKind.u64.wrap (valB (bitB B.l) a k*2^min 1 IntKind.u64.bits)) ||| BitVec.ofInt IntKind.u64.bits (b2i (bitB B.l (a+k)))).toNat=2*valB (bitB B.l) a k+b2i (bitB B.l (a+k)):=hsh
   have hv:valB (bitB B.l) a (k+1)=2*valB (bitB B.l) a k+b2i (bitB B.l (a+k)):=rfl
   (have zx:=zA e0 (zA e5 (zA e18 (zA e19 (zA g1 (zA hlt (zA ht (zA hd (zA hb8 (zA hsh h1)))))))));refine zq160 ?_;try exact zT)
   repeat'(apply zK.s<;>intro hc<;>(try simp only[zhd]at hc)<;>(try have hw:=X0a hc)<;>(refine zq160 ?_;try exact zT))
   all_goals(try clear zx)
   refine⟨N-(k+1),by omega,k+1,rfl,by omega,zev,by rw[hv];simp[put_at,K0d],zev,zev,?_,by simp only[Hp.bump_n,Hp.zset_n];omega,fun j o hj h=>?_⟩
   ·rw[Hp.get_set_self,show((a+(k+1):Nat):Int)=((a+k:Nat):Int)+1 by omega]
   ·rw[Hp.get_set_ne _ _ _ hj,Hp.bump_get];exact hle j o hj h
  ·have hkN:k=N:=by omega
   (have zx:=zA e0 (zA e5 (zA e18 (zA e19 (zA g1 (zA hlt h1)))));refine zq160 ?_;try exact zT)
   repeat'(apply zK.s<;>intro hc<;>(try simp only[zhd]at hc)<;>(try have hw:=X0a hc)<;>(refine zq160 ?_;try exact zT))
   all_goals(try clear zx)
   rw[if_pos hroom]
   subst hkN
   exact V1s hF hi hle ⟨_,g1,K0l fun j hj=>hF.lt_obj (.arg (a:=CV.ptr i []) (by simp) rfl) k1 j hj⟩ (Y0d (X0c (fun j hj=>by simp[CV.has]at hj)))
 ·have hr2:¬(N:Int)<=8*B.l.length-a:=by omega
  (have zx:=zA hmm (zA hr2 h1);refine zq160 ?_;try exact zT)
  repeat'(apply zK.s<;>intro hc<;>(try simp only[zhd]at hc)<;>(try have hw:=X0a hc)<;>(refine zq160 ?_;try exact zT))
  all_goals(try clear zx)
  rw[if_neg hroom]
  exact shr_dropP hF (fun j o hj h=>by rw[Hp.bump_get];exact h) (Y0d (X0c (by intro jj;simp[CV.has,fault,K0b.nohas])))
theorem V0w(c a:Int)(j:Nat): ¬(fault c a).has j:=by simp[CV.has,fault,K0b.nohas]
theorem shr_rd{args:List CV}{p:Hp}{i a a':Nat}{B:Lst Int}(hF:Fine args p)(h1:p.t.get i=some (rdr B a))(ha:∀j,(CV.ptr i []).has j->∃x∈args,x.has j){q:Hp}(hg:q.t.get i=some (rdr B a'))(hle:∀k o,k≠i->p.t.get k=some o->q.t.get k=some o){v u:CV}(e:v=u)(hv:∀j,¬u.has j): ShrR p (.ret v q) (.ret u (p.set i (some (rdr B a')))):=by
 subst e
 have hi:=hF.dom _ _ h1
 obtain⟨x,hx,hj⟩:=ha i rfl
 refine V1s hF hi hle ⟨_,hg,K0l fun j hj'=>?_⟩ (Y0d fun j hj=>absurd hj (hv j))
 exact hF.lt_obj (.arg hx hj) h1 j hj'
theorem Q0k{args:List CV}{p:Hp}{i:Nat}(hF:Fine args p){q:Hp}(hle:∀k o,k≠i->p.t.get k=some o->q.t.get k=some o)(c a:Int): ShrR p (.pan (fault c a) q) (.pan (fault c a) (p.set i none)):=
 shr_dropP hF (fun j o hj h=>hle j o hj h) (Y0d (X0c (V0w c a)))
def R190: Rel:=fun args p r=>∃(i:Nat) (B:Lst Int) (a:Nat) (n:Int),args=[.ptr i [],I n]/\(p.t.get i=some (rdr B a))/\(B.l.length<=140737488355328)/\(a<=8*B.l.length)/\(1<=n/\n<=64)/\(∀x∈B.l,0<=x/\x<=255)/\r=if a+n.toNat<=8*B.l.length then .ret (I (sgnB (valB (bitB B.l) a n.toNat) n.toNat)) (p.set i (some (rdr B (a+n.toNat))))else .pan (fault 100 a) (p.set i none)
theorem t190{T:XCall}(h:Has T 190 R190)(i:Nat)(B:Lst Int)(a:Nat)(n:Int){p:Hp}(h1:p.t.get i=some (rdr B a))(h2:B.l.length<=140737488355328)(h3:a<=8*B.l.length)(h4:1<=n/\n<=64)(h5:∀x∈B.l,0<=x/\x<=255): T 190 [.ptr i [],I n] p=if a+n.toNat<=8*B.l.length then .ret (I (sgnB (valB (bitB B.l) a n.toNat) n.toNat)) (p.set i (some (rdr B (a+n.toNat))))else .pan (fault 100 a) (p.set i none):=h _ _ _ ⟨i,B,a,n,rfl,h1,h2,h3,h4,h5,rfl⟩
theorem zq190{A B:Prop}(k:B)(h:A=B:=by have zy:=zA @zw190<|zA @rs190<|zA @tt3<|zA @tt25<|zA ti3.eq_1<|zA ti25.eq_1<|zA @t_156<|zA @t_160<|zA @K0o<|zA @h1<|zA @h2<|zA @h3<|zA @h4<|@h5;exact zQ): A:=h▸k
theorem c190: Con C 190 R190:=by
 refine V0e C ?_ ?_ ?_
 ·rintro args p r r' ⟨i,B,a,n,h,h1,h2,h3,h4,h5,e⟩ ⟨i',B',a',n',h',h1',h2',h3',h4',h5',e'⟩
  subst e;subst e';(subst h;simp only[List.cons.injEq,CV.ptr.injEq,CV.sc.injEq,Value.int.injEq,and_true,true_and]at h';obtain⟨e0,e3⟩:=h';subst e0;subst e3;obtain⟨e1,e2⟩:=X1b h1 h1';rw[e1,e2])
 ·rintro args p r ⟨i,B,a,n,h,h1,h2,h3,h4,h5,rfl⟩;exact zr1
 rintro args p r ⟨i,B,a,n,rfl,h1,h2,h3,h4,h5,rfl⟩
 refine zW C false [(156,R156),(160,R160)] ⟨c156,c160,zT⟩ rfl xf190 zc190_ok fun call zh hF=>?_
 have t_156:=@t156 _ zh.1
 have t_160:=@t160 _ zh.2.1
 clear zh
 have hd_h1:=hF.dom _ _ h1
 have hi:=hF.dom _ _ h1
 obtain⟨N,rfl⟩:=Int.eq_ofNat_of_zero_le (show 0<=n by omega)
 have hmm:max 0 (min (N:Int) 64)=N:=by omega
 have hN:1<=N/\N<=64:=by omega
 have hn0:¬(N:Int)=0:=by omega
 have h64:(64:Int)-N=((64-N:Nat):Int):=by omega
 have hsg:=sgn_of hN (V0u (bitB B.l) a N)
 by_cases hroom:a+N<=8*B.l.length
 ·(have zx:=zA hmm (zA hn0 (zA h64 (zA hroom h1)));refine zq190 ?_;try exact zT)
  repeat'(apply zK.s<;>intro hc<;>(try simp only[zhd]at hc)<;>(try have hw:=X0a hc)<;>(refine zq190 ?_;try exact zT))
  all_goals(try clear zx)
  rw[show min (64-N) IntKind.u64.bits=64-N from Nat.min_eq_left (by show 64-N<=64;omega),show min (64-N) IntKind.i64.bits=64-N from Nat.min_eq_left (by show 64-N<=64;omega),hsg]
  exact shr_rd hF h1 (fun j hj=>⟨_,by simp,hj⟩) (Hp.get_set_self _ _ _) (fun k o hk h=>by rw[Hp.get_set_ne _ _ _ hk];exact h) rfl (by intro jj;simp[CV.has])
 ·(have zx:=zA hmm (zA hn0 (zA h64 (zA hroom h1)));refine zq190 ?_;try exact zT)
  repeat'(apply zK.s<;>intro hc<;>(try simp only[zhd]at hc)<;>(try have hw:=X0a hc)<;>(refine zq190 ?_;try exact zT))
  all_goals(try clear zx)
  exact Q0k hF (fun k o hk h=>by rw[Hp.get_set_ne _ _ _ hk];exact h) _ _
theorem Y0r(g:Nat->Bool)(a n:Nat)(M:Int)(h:(2:Int)^n=M): 0<=valB g a n/\valB g a n<M:=by subst h;exact V0u g a n
def Bnd{α:Type}(b:List Int)(r:Except Int (α×Nat)): Prop:=∀x a,r=.ok (x,a)->a<=8*b.length
theorem Bnd.get(b:List Int)(n a:Nat): Bnd b (getB b n a):=by
 intro x a' h
 unfold getB at h
 split at h
 ·cases h;assumption
 ·cases h
theorem Bnd.bind{α β:Type}{b:List Int}{r:Except Int (α×Nat)}{f:α->Nat->Except Int (β×Nat)}(h:Bnd b r)(k:∀x a,a<=8*b.length->Bnd b (f x a)): Bnd b (bindE r f):=by
 intro x a' e
 cases r with
 |error e'=>cases e
 |ok y=>obtain⟨y,a⟩:=y;exact k y a (h y a rfl) x a' e
theorem Bnd.pure{α:Type}{b:List Int}(x:α){a:Nat}(h:a<=8*b.length): Bnd b (.ok (x,a)):=by
 intro y a' e;cases e;exact h
theorem Bnd.sget(b:List Int)(n a:Nat): Bnd b (sgetB b n a):=(Bnd.get b n a).bind fun _ _ h=>Bnd.pure _ h
theorem Bnd.mem(b:List Int)(x:Q0b){a:Nat}(ha:a<=8*b.length): ∀k,Bnd b (memB b x a k)
 |0=>Bnd.pure _ ha
 |k+1=>(Bnd.mem b x ha k).bind fun _ _ _=>(Bnd.sget b _ _).bind fun _ _ h=>Bnd.pure _ h
theorem Bnd.body(b:List Int)(a:Nat): Bnd b (readBody b a):=by
 unfold readBody
 refine(Bnd.get b _ _).bind fun k a h=>?_
 split
 ·exact Bnd.pure _ h
 ·exact(Bnd.get b _ _).bind fun _ _ _=>(Bnd.get b _ _).bind fun _ _ _=>(Bnd.get b _ _).bind fun _ _ _=>(Bnd.sget b _ _).bind fun _ _ _=>(Bnd.sget b _ _).bind fun _ _ _=>(Bnd.get b _ _).bind fun _ _ h=>(Bnd.mem b _ h _).bind fun _ _ _=>(Bnd.get b _ _).bind fun _ _ h=>Bnd.pure _ h
end Go.Proofs.Ytpchcfkebljopaa
end
section
namespace Go.Proofs.Ytpchcfkebljopaa
open Go.Cl Go Go.RowKit
def sumStep(h x:Int): Int:=(h*257+x+1) % 2147483647
def sumB(key:Int)(l:List Int): Int:=((l.foldl sumStep (key % 2147483647+1))+l.length) % 2147483647
theorem V0m(key:Int)(l:List Int): 0<=sumB key l/\sumB key l<2147483647:=by unfold sumB;omega
theorem Q1v{l:List Int}{k:Nat}(f:Int->Int->Int)(h0:Int)(h:k<l.length): (l.take (k+1)).foldl f h0=f ((l.take k).foldl f h0) (nth l k):=by
 rw[Z0l h,List.foldl_append];rfl
theorem Z1v(key:Int): ∀(l:List Int),0<=l.foldl sumStep (key % 2147483647+1)/\l.foldl sumStep (key % 2147483647+1)<=2147483647:=by
 intro l
 have h0:0<=key % 2147483647+1/\key % 2147483647+1<=2147483647:=by omega
 generalize key % 2147483647+1=h at h0
 induction l generalizing h with
 |nil=>exact h0
 |cons x l ih=>exact ih (sumStep h x) (by unfold sumStep;omega)
theorem key_mod(key:Int): (key.tmod 2147483647+2147483647).tmod 2147483647=key % 2147483647:=by
 have h1:-2147483647<key.tmod 2147483647:=by
  have:=Int.lt_tmod_of_pos key (b:=2147483647) (by omega);exact this
 have h2:=Int.tmod_lt_of_pos key (b:=2147483647) (by omega)
 rw[Int.tmod_eq_emod_of_nonneg (by omega)]
 have h3:=Int.mul_tdiv_add_tmod key 2147483647
 generalize key.tdiv 2147483647=q at h3
 generalize key.tmod 2147483647=r at *
 omega
end Go.Proofs.Ytpchcfkebljopaa
end
section
namespace Go.Proofs.Ytpchcfkebljopaa
open Go.Cl Go Go.RowKit
set_option maxRecDepth 100000
set_option linter.constructorNameAsVariable false
def J163(key:Int)(s:Lst Int)(p:Hp)(n:Nat)(ρ:Env)(q:Hp): Prop:=
 ∃k:Nat,n=s.l.length-k/\k<=s.l.length/\ρ 1=s.cv Y8/\ρ 5=I ((s.l.take k).foldl sumStep (key % 2147483647+1))/\ρ 13=s.cv Y8/\ρ 14=I s.l.length/\ρ 15=I k/\HpLe p q
def R163: Rel:=fun args p r=>∃(key:Int) (s:Lst Int),args=[I key,s.cv Y8]/\(-9223372036854775808<=key/\key<=9223372036854775807)/\(s.l.length<=140737488355328)/\(∀x∈s.l,0<=x/\x<=255)/\r=.ret (I (sumB key s.l)) p
theorem t163{T:XCall}(h:Has T 163 R163)(key:Int)(s:Lst Int){p:Hp}(h1:-9223372036854775808<=key/\key<=9223372036854775807)(h2:s.l.length<=140737488355328)(h5:∀x∈s.l,0<=x/\x<=255): T 163 [I key,s.cv Y8] p=.ret (I (sumB key s.l)) p:=h _ _ _ ⟨key,s,rfl,h1,h2,h5,rfl⟩
theorem zq163{A B:Prop}(k:B)(h:A=B:=by have zy:=zA @zw163<|zA @rs163<|zA @tt3<|zA @tt5<|zA @tt68<|zA ti3.eq_1<|zA ti5.eq_1<|zA ti68.eq_1<|zA @zsl68<|zA @h1<|zA @h2<|@h5;exact zQ): A:=h▸k
theorem c163: Con C 163 R163:=by
 refine V0e C ?_ ?_ ?_
 ·rintro args p r r' ⟨key,s,h,h1,h2,h5,e⟩ ⟨key',s',h',h1',h2',h5',e'⟩
  subst e;subst e';simp_all[Q0g,Q0g]
 ·rintro args p r ⟨key,s,h,h1,h2,h5,rfl⟩;exact zr1
 rintro args p r ⟨key,s,rfl,h1,h2,h5,rfl⟩
 refine zW C false [] zT rfl xf163 zc163_ok fun call zh hF=>?_
 clear zh
 have hk:=key_mod key
 have hr0:-2147483647<key.tmod 2147483647:=by have:=Int.lt_tmod_of_pos key (b:=2147483647) (by omega);exact this
 have hr1:=Int.tmod_lt_of_pos key (b:=2147483647) (by omega)
 have hr2:0<=key % 2147483647/\key % 2147483647<2147483647:=by omega
 (have zx:=hk;refine zq163 ?_;try exact zT)
 repeat'(apply zK.s<;>intro hc<;>(try simp only[zhd]at hc)<;>(try have hw:=X0a hc)<;>(refine zq163 ?_;try exact zT))
 all_goals(try clear zx)
 (show W C false noExt call (ZC.loop Y1a) _ _ _);refine Z0j C false noExt call Y1a _ _ _ (J163 key s p) s.l.length ⟨0,rfl,by omega,by simp[put_at,K0d,Z0g,Y0t],zev,zev,zev,zev,zle⟩ ?_
 rintro n ρ q ⟨k,rfl,hk2,e1,e5,e13,e14,e15,hle⟩
 have hf:=Z1v key (s.l.take k)
 by_cases hlt:(k:Int)<s.l.length
 ·have hst:=Q1v sumStep (key % 2147483647+1) (l:=s.l) (k:=k) (by omega)
  have hy:=h5 (nth s.l k) (by rw[K0j (by omega)];exact List.getElem_mem _)
  generalize (s.l.take k).foldl sumStep (key % 2147483647+1)=h at hf hst e5
  generalize hyy:nth s.l k=y at hy hst
  have ht:(h*257+y+1).tmod 2147483647=sumStep h y:=by rw[Int.tmod_eq_emod_of_nonneg (by omega)];rfl
  (have zx:=zA e1 (zA e5 (zA e13 (zA e14 (zA e15 (zA hlt (zA hyy ht))))));refine zq163 ?_;try exact zT)
  repeat'(apply zK.s<;>intro hc<;>(try simp only[zhd]at hc)<;>(try have hw:=X0a hc)<;>(refine zq163 ?_;try exact zT))
  all_goals(try clear zx)
  exact⟨s.l.length-(k+1),by omega,k+1,rfl,by omega,zev,by rw[hst];simp[put_at,K0d],zev,zev,zev,hle⟩
 ·have hkl:k=s.l.length:=by omega
  rw[hkl,List.take_of_length_le (Nat.le_refl _)]at e5 hf
  have ht:(s.l.foldl sumStep (key % 2147483647+1)+s.l.length).tmod 2147483647=sumB key s.l:=by rw[Int.tmod_eq_emod_of_nonneg (by omega)];rfl
  (have zx:=zA e1 (zA e5 (zA e13 (zA e14 (zA e15 (zA hlt ht)))));refine zq163 ?_;try exact zT)
  repeat'(apply zK.s<;>intro hc<;>(try simp only[zhd]at hc)<;>(try have hw:=X0a hc)<;>(refine zq163 ?_;try exact zT))
  all_goals(try clear zx)
  exact V0c hF hle (Q0d rfl (X0c (by intro jj;simp[CV.has])))
def J96(s t:Lst Int)(p:Hp)(n:Nat)(ρ:Env)(q:Hp): Prop:=
 ∃k:Nat,n=s.l.length-k/\k<=s.l.length/\ρ 0=s.cv Y8/\ρ 1=t.cv Y8/\ρ 12=I s.l.length/\ρ 13=I k/\(∀j,j<k->nth s.l j=nth t.l j)/\HpLe p q
def R96: Rel:=fun args p r=>∃(s t:Lst Int),args=[s.cv Y8,t.cv Y8]/\(s.l.length<=140737488355328)/\(t.l.length<=140737488355328)/\r=.ret (Bo (decide (s.l=t.l))) p
theorem t96{T:XCall}(h:Has T 96 R96)(s t:Lst Int){p:Hp}(h1:s.l.length<=140737488355328)(h2:t.l.length<=140737488355328): T 96 [s.cv Y8,t.cv Y8] p=.ret (Bo (decide (s.l=t.l))) p:=h _ _ _ ⟨s,t,rfl,h1,h2,rfl⟩
theorem zq96{A B:Prop}(k:B)(h:A=B:=by have zy:=zA @zw96<|zA @rs96<|zA @tt3<|zA @tt5<|zA @tt68<|zA ti3.eq_1<|zA ti5.eq_1<|zA ti68.eq_1<|zA @zsl68<|zA @h1<|@h2;exact zQ): A:=h▸k
theorem zno96{P:Prop}(h:P:=by intro jj;simp[CV.has,CV.hasL,fault,K0b.nohas]): P:=h
theorem c96: Con C 96 R96:=by
 refine V0e C ?_ ?_ ?_
 ·rintro args p r r' ⟨s,t,h,h1,h2,e⟩ ⟨s',t',h',h1',h2',e'⟩
  subst e;subst e';simp_all[Q0g,Q0g]
 ·rintro args p r ⟨s,t,h,h1,h2,rfl⟩;exact zr1
 rintro args p r ⟨s,t,rfl,h1,h2,rfl⟩
 refine zW C false [] zT rfl xf96 zc96_ok fun call zh hF=>?_
 clear zh
 by_cases hlen:s.l.length=t.l.length
 ·have hl2:(s.l.length:Int)=t.l.length:=by omega
  (have zx:=hl2;refine zq96 ?_;try exact zT)
  repeat'(apply zK.s<;>intro hc<;>(try simp only[zhd]at hc)<;>(try have hw:=X0a hc)<;>(refine zq96 ?_;try exact zT))
  all_goals(try clear zx)
  (show W C false noExt call (ZC.loop Z09) _ _ _);refine Z0j C false noExt call Z09 _ _ _ (J96 s t p) s.l.length ⟨0,rfl,by omega,by simp[put_at,K0d,Z0g],by simp[put_at,K0d,Z0g,Y0t],by simp[put_at,K0d,hl2],zev,fun j hj=>by omega,zle⟩ ?_
  rintro n ρ q ⟨k,rfl,hk2,e0,e1,e12,e13,hj,hle⟩
  by_cases hlt:(k:Int)<s.l.length
  ·have hlt2:(k:Int)<t.l.length:=by omega
   by_cases hne:nth s.l k=nth t.l k
   ·(have zx:=zA e0 (zA e1 (zA e12 (zA e13 (zA hlt (zA hlt2 hne)))));refine zq96 ?_;try exact zT)
    repeat'(apply zK.s<;>intro hc<;>(try simp only[zhd]at hc)<;>(try have hw:=X0a hc)<;>(refine zq96 ?_;try exact zT))
    all_goals(try clear zx)
    exact⟨s.l.length-(k+1),by omega,k+1,rfl,by omega,zev,zev,zev,zev,fun j hjk=>by
     by_cases h:j=k
     ·rw[h];exact hne
     ·exact hj j (by omega),zlq⟩
   ·(have zx:=zA e0 (zA e1 (zA e12 (zA e13 (zA hlt (zA hlt2 hne)))));refine zq96 ?_;try exact zT)
    repeat'(apply zK.s<;>intro hc<;>(try simp only[zhd]at hc)<;>(try have hw:=X0a hc)<;>(refine zq96 ?_;try exact zT))
    all_goals(try clear zx)
    have hl:¬s.l=t.l:=fun h=>hne (by rw[h])
    exact V0c hF zlq (Q0d (by simp[hl]) (X0c (by intro jj;simp[CV.has])))
  ·have hl:s.l=t.l:=V1m hlen fun j h=>hj j (by omega)
   (have zx:=zA e0 (zA e1 (zA e12 (zA e13 hlt)));refine zq96 ?_;try exact zT)
   repeat'(apply zK.s<;>intro hc<;>(try simp only[zhd]at hc)<;>(try have hw:=X0a hc)<;>(refine zq96 ?_;try exact zT))
   all_goals(try clear zx)
   exact V0c hF zlq (Q0d (by simp[hl]) (X0c (by intro jj;simp[CV.has])))
 ·have hl2:¬(s.l.length:Int)=t.l.length:=by omega
  have hne:¬s.l=t.l:=fun e=>hlen (by rw[e])
  (have zx:=hl2;refine zq96 ?_;try exact zT)
  repeat'(apply zK.s<;>intro hc<;>(try simp only[zhd]at hc)<;>(try have hw:=X0a hc)<;>(refine zq96 ?_;try exact zT))
  all_goals(try clear zx)
  exact V0c hF zle (Q0d (by simp[hne]) (X0c zno96))
def J114(s t:Lst V0a)(p:Hp)(n:Nat)(ρ:Env)(q:Hp): Prop:=
 ∃k:Nat,n=s.l.length-k/\k<=s.l.length/\ρ 0=s.cv V0a.cv/\ρ 1=t.cv V0a.cv/\ρ 12=I s.l.length/\ρ 13=I k/\(∀j,j<k->nth s.l j=nth t.l j)/\HpLe p q
def R114: Rel:=fun args p r=>∃(s t:Lst V0a),args=[s.cv V0a.cv,t.cv V0a.cv]/\(s.l.length<=1000000)/\(t.l.length<=1000000)/\r=.ret (Bo (decide (s.l=t.l))) p
theorem t114{T:XCall}(h:Has T 114 R114)(s t:Lst V0a){p:Hp}(h1:s.l.length<=1000000)(h2:t.l.length<=1000000): T 114 [s.cv V0a.cv,t.cv V0a.cv] p=.ret (Bo (decide (s.l=t.l))) p:=h _ _ _ ⟨s,t,rfl,h1,h2,rfl⟩
theorem zq114{A B:Prop}(k:B)(h:A=B:=by have zy:=zA @zw114<|zA @rs114<|zA @tt3<|zA @tt108<|zA @tt110<|zA ti3.eq_1<|zA ti108.eq_1<|zA ti110.eq_1<|zA @Y0f<|zA @Z0e<|zA @zsl108<|zA @h1<|@h2;exact zQ): A:=h▸k
theorem zno114{P:Prop}(h:P:=by intro jj;simp[CV.has,CV.hasL,fault,K0b.nohas,V0a.nohas,Y0a.nohas]): P:=h
theorem c114: Con C 114 R114:=by
 refine V0e C ?_ ?_ ?_
 ·rintro args p r r' ⟨s,t,h,h1,h2,e⟩ ⟨s',t',h',h1',h2',e'⟩
  subst e;subst e';simp_all[V0a.inj_iff,Y0a.inj_iff,Y0j,Y0j]
 ·rintro args p r ⟨s,t,h,h1,h2,rfl⟩;exact zr1
 rintro args p r ⟨s,t,rfl,h1,h2,rfl⟩
 refine zW C false [] zT rfl xf114 zc114_ok fun call zh hF=>?_
 clear zh
 by_cases hlen:s.l.length=t.l.length
 ·have hl2:(s.l.length:Int)=t.l.length:=by omega
  (have zx:=hl2;refine zq114 ?_;try exact zT)
  repeat'(apply zK.s<;>intro hc<;>(try simp only[zhd]at hc)<;>(try have hw:=X0a hc)<;>(refine zq114 ?_;try exact zT))
  all_goals(try clear zx)
  (show W C false noExt call (ZC.loop X1h) _ _ _);refine Z0j C false noExt call X1h _ _ _ (J114 s t p) s.l.length ⟨0,rfl,by omega,by simp[put_at,K0d,Z0g],by simp[put_at,K0d,Z0g,Y0t],by simp[put_at,K0d,hl2],zev,fun j hj=>by omega,zle⟩ ?_
  rintro n ρ q ⟨k,rfl,hk2,e0,e1,e12,e13,hj,hle⟩
  by_cases hlt:(k:Int)<s.l.length
  ·have hlt2:(k:Int)<t.l.length:=by omega
   by_cases hne:nth s.l k=nth t.l k
   ·(have zx:=zA e0 (zA e1 (zA e12 (zA e13 (zA hlt (zA hlt2 hne)))));refine zq114 ?_;try exact zT)
    repeat'(apply zK.s<;>intro hc<;>(try simp only[zhd]at hc)<;>(try have hw:=X0a hc)<;>(refine zq114 ?_;try exact zT))
    all_goals(try clear zx)
    exact⟨s.l.length-(k+1),by omega,k+1,rfl,by omega,zev,zev,zev,zev,fun j hjk=>by
     by_cases h:j=k
     ·rw[h];exact hne
     ·exact hj j (by omega),zlq⟩
   ·(have zx:=zA e0 (zA e1 (zA e12 (zA e13 (zA hlt (zA hlt2 hne)))));refine zq114 ?_;try exact zT)
    repeat'(apply zK.s<;>intro hc<;>(try simp only[zhd]at hc)<;>(try have hw:=X0a hc)<;>(refine zq114 ?_;try exact zT))
    all_goals(try clear zx)
    have hl:¬s.l=t.l:=fun h=>hne (by rw[h])
    exact V0c hF zlq (Q0d (by simp[hl]) (X0c (by intro jj;simp[CV.has])))
  ·have hl:s.l=t.l:=V1m hlen fun j h=>hj j (by omega)
   (have zx:=zA e0 (zA e1 (zA e12 (zA e13 hlt)));refine zq114 ?_;try exact zT)
   repeat'(apply zK.s<;>intro hc<;>(try simp only[zhd]at hc)<;>(try have hw:=X0a hc)<;>(refine zq114 ?_;try exact zT))
   all_goals(try clear zx)
   exact V0c hF zlq (Q0d (by simp[hl]) (X0c (by intro jj;simp[CV.has])))
 ·have hl2:¬(s.l.length:Int)=t.l.length:=by omega
  have hne:¬s.l=t.l:=fun e=>hlen (by rw[e])
  (have zx:=hl2;refine zq114 ?_;try exact zT)
  repeat'(apply zK.s<;>intro hc<;>(try simp only[zhd]at hc)<;>(try have hw:=X0a hc)<;>(refine zq114 ?_;try exact zT))
  all_goals(try clear zx)
  exact V0c hF zle (Q0d (by simp[hne]) (X0c zno114))
def J115(s t:Lst Y0a)(p:Hp)(n:Nat)(ρ:Env)(q:Hp): Prop:=
 ∃k:Nat,n=s.l.length-k/\k<=s.l.length/\ρ 0=s.cv Y0a.cv/\ρ 1=t.cv Y0a.cv/\ρ 12=I s.l.length/\ρ 13=I k/\(∀j,j<k->nth s.l j=nth t.l j)/\HpLe p q
def R115: Rel:=fun args p r=>∃(s t:Lst Y0a),args=[s.cv Y0a.cv,t.cv Y0a.cv]/\(s.l.length<=1000000)/\(t.l.length<=1000000)/\r=.ret (Bo (decide (s.l=t.l))) p
theorem t115{T:XCall}(h:Has T 115 R115)(s t:Lst Y0a){p:Hp}(h1:s.l.length<=1000000)(h2:t.l.length<=1000000): T 115 [s.cv Y0a.cv,t.cv Y0a.cv] p=.ret (Bo (decide (s.l=t.l))) p:=h _ _ _ ⟨s,t,rfl,h1,h2,rfl⟩
theorem zq115{A B:Prop}(k:B)(h:A=B:=by have zy:=zA @zw115<|zA @rs115<|zA @tt3<|zA @tt36<|zA @tt91<|zA ti3.eq_1<|zA ti36.eq_1<|zA ti91.eq_1<|zA @Z0e<|zA @zsl91<|zA @h1<|@h2;exact zQ): A:=h▸k
theorem zno115{P:Prop}(h:P:=by intro jj;simp[CV.has,CV.hasL,fault,K0b.nohas,Y0a.nohas]): P:=h
theorem c115: Con C 115 R115:=by
 refine V0e C ?_ ?_ ?_
 ·rintro args p r r' ⟨s,t,h,h1,h2,e⟩ ⟨s',t',h',h1',h2',e'⟩
  subst e;subst e';simp_all[Y0a.inj_iff,V0p,V0p]
 ·rintro args p r ⟨s,t,h,h1,h2,rfl⟩;exact zr1
 rintro args p r ⟨s,t,rfl,h1,h2,rfl⟩
 refine zW C false [] zT rfl xf115 zc115_ok fun call zh hF=>?_
 clear zh
 by_cases hlen:s.l.length=t.l.length
 ·have hl2:(s.l.length:Int)=t.l.length:=by omega
  (have zx:=hl2;refine zq115 ?_;try exact zT)
  repeat'(apply zK.s<;>intro hc<;>(try simp only[zhd]at hc)<;>(try have hw:=X0a hc)<;>(refine zq115 ?_;try exact zT))
  all_goals(try clear zx)
  (show W C false noExt call (ZC.loop Y1h) _ _ _);refine Z0j C false noExt call Y1h _ _ _ (J115 s t p) s.l.length ⟨0,rfl,by omega,by simp[put_at,K0d,Z0g],by simp[put_at,K0d,Z0g,Y0t],by simp[put_at,K0d,hl2],zev,fun j hj=>by omega,zle⟩ ?_
  rintro n ρ q ⟨k,rfl,hk2,e0,e1,e12,e13,hj,hle⟩
  by_cases hlt:(k:Int)<s.l.length
  ·have hlt2:(k:Int)<t.l.length:=by omega
   by_cases hne:nth s.l k=nth t.l k
   ·(have zx:=zA e0 (zA e1 (zA e12 (zA e13 (zA hlt (zA hlt2 hne)))));refine zq115 ?_;try exact zT)
    repeat'(apply zK.s<;>intro hc<;>(try simp only[zhd]at hc)<;>(try have hw:=X0a hc)<;>(refine zq115 ?_;try exact zT))
    all_goals(try clear zx)
    exact⟨s.l.length-(k+1),by omega,k+1,rfl,by omega,zev,zev,zev,zev,fun j hjk=>by
     by_cases h:j=k
     ·rw[h];exact hne
     ·exact hj j (by omega),zlq⟩
   ·(have zx:=zA e0 (zA e1 (zA e12 (zA e13 (zA hlt (zA hlt2 hne)))));refine zq115 ?_;try exact zT)
    repeat'(apply zK.s<;>intro hc<;>(try simp only[zhd]at hc)<;>(try have hw:=X0a hc)<;>(refine zq115 ?_;try exact zT))
    all_goals(try clear zx)
    have hl:¬s.l=t.l:=fun h=>hne (by rw[h])
    exact V0c hF zlq (Q0d (by simp[hl]) (X0c (by intro jj;simp[CV.has])))
  ·have hl:s.l=t.l:=V1m hlen fun j h=>hj j (by omega)
   (have zx:=zA e0 (zA e1 (zA e12 (zA e13 hlt)));refine zq115 ?_;try exact zT)
   repeat'(apply zK.s<;>intro hc<;>(try simp only[zhd]at hc)<;>(try have hw:=X0a hc)<;>(refine zq115 ?_;try exact zT))
   all_goals(try clear zx)
   exact V0c hF zlq (Q0d (by simp[hl]) (X0c (by intro jj;simp[CV.has])))
 ·have hl2:¬(s.l.length:Int)=t.l.length:=by omega
  have hne:¬s.l=t.l:=fun e=>hlen (by rw[e])
  (have zx:=hl2;refine zq115 ?_;try exact zT)
  repeat'(apply zK.s<;>intro hc<;>(try simp only[zhd]at hc)<;>(try have hw:=X0a hc)<;>(refine zq115 ?_;try exact zT))
  all_goals(try clear zx)
  exact V0c hF zle (Q0d (by simp[hne]) (X0c zno115))
def R113: Rel:=fun args p r=>∃(s t:Lst V0a),args=[s.cv V0a.cv,t.cv V0a.cv]/\(s.l.length<=1000000)/\(t.l.length<=1000000)/\r=.ret (Bo (decide (s.l=t.l))) p
theorem t113{T:XCall}(h:Has T 113 R113)(s t:Lst V0a){p:Hp}(h1:s.l.length<=1000000)(h2:t.l.length<=1000000): T 113 [s.cv V0a.cv,t.cv V0a.cv] p=.ret (Bo (decide (s.l=t.l))) p:=h _ _ _ ⟨s,t,rfl,h1,h2,rfl⟩
theorem zq113{A B:Prop}(k:B)(h:A=B:=by have zy:=zA @zw113<|zA @rs113<|zA @t_114<|zA @Y0f<|zA @h1<|@h2;exact zQ): A:=h▸k
theorem zno113{P:Prop}(h:P:=by intro jj;simp[CV.has,CV.hasL,fault,K0b.nohas,V0a.nohas]): P:=h
theorem c113: Con C 113 R113:=by
 refine V0e C ?_ ?_ ?_
 ·rintro args p r r' ⟨s,t,h,h1,h2,e⟩ ⟨s',t',h',h1',h2',e'⟩
  subst e;subst e';simp_all[V0a.inj_iff,Y0j]
 ·rintro args p r ⟨s,t,h,h1,h2,rfl⟩;exact zr1
 rintro args p r ⟨s,t,rfl,h1,h2,rfl⟩
 refine zW C false [(114,R114)] ⟨c114,zT⟩ rfl xf113 zc113_ok fun call zh hF=>?_
 have t_114:=@t114 _ zh.1
 clear zh
 (have zx:=zT;refine zq113 ?_;try exact zT)
 repeat'(apply zK.s<;>intro hc<;>(try simp only[zhd]at hc)<;>(try have hw:=X0a hc)<;>(refine zq113 ?_;try exact zT))
 all_goals(try clear zx)
 exact V0c hF zle (Q0d rfl (X0c zno113))
def rowsOk(r:Lst (Lst V0a)): Prop:=r.l.length<=1000000/\∀x∈r.l,x.l.length<=1000000
theorem rowsOk.nth{r:Lst (Lst V0a)}(h:rowsOk r){k:Nat}(hk:k<r.l.length): (nth r.l k).l.length<=1000000:=h.2 _ (by rw[K0j hk];exact List.getElem_mem _)
theorem Z0t(r:Lst (Lst V0a)): (rowsL r).length=r.l.length:=by simp[rowsL]
theorem rowsL_nth{r:Lst (Lst V0a)}{k:Nat}(hk:k<r.l.length): nth (rowsL r) k=(nth r.l k).l:=by
 rw[K0j (by rw[Z0t];exact hk),K0j hk];simp[rowsL]
def J112(s t:Lst (Lst V0a))(p:Hp)(n:Nat)(ρ:Env)(q:Hp): Prop:=
 ∃k:Nat,n=s.l.length-k/\k<=s.l.length/\ρ 1=t.cv (Lst.cv V0a.cv)/\ρ 2=.fn 113 [] []/\ρ 15=s.cv (Lst.cv V0a.cv)/\ρ 16=I s.l.length/\ρ 17=I k/\(∀j,j<k->nth (rowsL s) j=nth (rowsL t) j)/\HpLe p q
def R112: Rel:=fun args p r=>∃(s t:Lst (Lst V0a)),args=[s.cv (Lst.cv V0a.cv),t.cv (Lst.cv V0a.cv),.fn 113 [] []]/\(rowsOk s)/\(rowsOk t)/\r=.ret (Bo (decide (rowsL s=rowsL t))) p
theorem t112{T:XCall}(h:Has T 112 R112)(s t:Lst (Lst V0a)){p:Hp}(h1:rowsOk s)(h2:rowsOk t): T 112 [s.cv (Lst.cv V0a.cv),t.cv (Lst.cv V0a.cv),.fn 113 [] []] p=.ret (Bo (decide (rowsL s=rowsL t))) p:=h _ _ _ ⟨s,t,rfl,h1,h2,rfl⟩
theorem zq112{A B:Prop}(k:B)(h:A=B:=by have zy:=zA @zw112<|zA @rs112<|zA @tt3<|zA @tt92<|zA @tt108<|zA ti3.eq_1<|zA ti92.eq_1<|zA ti108.eq_1<|zA @t_113<|zA @Y0f<|zA @zsl92<|zA @zsl108<|zA @h1<|@h2;exact zQ): A:=h▸k
theorem c112: Con C 112 R112:=by
 refine V0e C ?_ ?_ ?_
 ·rintro args p r r' ⟨s,t,h,h1,h2,e⟩ ⟨s',t',h',h1',h2',e'⟩
  subst e;subst e';simp_all[V0a.inj_iff,Q0l,Y0j,Q0l]
 ·rintro args p r ⟨s,t,h,h1,h2,rfl⟩;exact zr1
 rintro args p r ⟨s,t,rfl,h1,h2,rfl⟩
 refine zW C false [(113,R113)] ⟨c113,zT⟩ rfl xf112 zc112_ok fun call zh hF=>?_
 have t_113:=@t113 _ zh.1
 clear zh
 have l1:=h1.1
 have l2:=h2.1
 by_cases hlen:s.l.length=t.l.length
 ·have hl2:(s.l.length:Int)=t.l.length:=by omega
  (have zx:=hl2;refine zq112 ?_;try exact zT)
  repeat'(apply zK.s<;>intro hc<;>(try simp only[zhd]at hc)<;>(try have hw:=X0a hc)<;>(refine zq112 ?_;try exact zT))
  all_goals(try clear zx)
  (show W C false noExt call (ZC.loop Q1h) _ _ _);refine Z0j C false noExt call Q1h _ _ _ (J112 s t p) s.l.length ⟨0,rfl,by omega,by simp[put_at,K0d,Z0g,Y0t],by simp[put_at,K0d,Z0g,Y0t],by simp[put_at,K0d,Z0g],by simp[put_at,K0d,hl2],zev,fun j hj=>by omega,zle⟩ ?_
  rintro n ρ q ⟨k,rfl,hk2,e1,e2,e15,e16,e17,hj,hle⟩
  by_cases hlt:(k:Int)<s.l.length
  ·have hlt2:(k:Int)<t.l.length:=by omega
   have m1:=h1.nth (k:=k) (by omega)
   have m2:=h2.nth (k:=k) (by omega)
   have n1:=rowsL_nth (r:=s) (k:=k) (by omega)
   have n2:=rowsL_nth (r:=t) (k:=k) (by omega)
   by_cases hne:(nth s.l k).l=(nth t.l k).l
   ·(have zx:=zA e1 (zA e2 (zA e15 (zA e16 (zA e17 (zA hlt (zA hlt2 hne))))));refine zq112 ?_;try exact zT)
    repeat'(apply zK.s<;>intro hc<;>(try simp only[zhd]at hc)<;>(try have hw:=X0a hc)<;>(refine zq112 ?_;try exact zT))
    all_goals(try clear zx)
    exact⟨s.l.length-(k+1),by omega,k+1,rfl,by omega,zev,zev,zev,zev,zev,fun j hjk=>by
     by_cases h:j=k
     ·rw[h,n1,n2];exact hne
     ·exact hj j (by omega),zlq⟩
   ·(have zx:=zA e1 (zA e2 (zA e15 (zA e16 (zA e17 (zA hlt (zA hlt2 hne))))));refine zq112 ?_;try exact zT)
    repeat'(apply zK.s<;>intro hc<;>(try simp only[zhd]at hc)<;>(try have hw:=X0a hc)<;>(refine zq112 ?_;try exact zT))
    all_goals(try clear zx)
    have hl:¬rowsL s=rowsL t:=fun h=>hne (by rw[<- n1,<- n2,h])
    exact V0c hF zlq (Q0d (by simp[hl]) (X0c (by intro jj;simp[CV.has])))
  ·have hl:rowsL s=rowsL t:=V1m (by rw[Z0t,Z0t];exact hlen) fun j h=>hj j (by rw[Z0t]at h;omega)
   (have zx:=zA e1 (zA e2 (zA e15 (zA e16 (zA e17 hlt))));refine zq112 ?_;try exact zT)
   repeat'(apply zK.s<;>intro hc<;>(try simp only[zhd]at hc)<;>(try have hw:=X0a hc)<;>(refine zq112 ?_;try exact zT))
   all_goals(try clear zx)
   exact V0c hF zlq (Q0d (by simp[hl]) (X0c (by intro jj;simp[CV.has])))
 ·have hl2:¬(s.l.length:Int)=t.l.length:=by omega
  have hne:¬rowsL s=rowsL t:=fun e=>hlen (by rw[<- Z0t s,<- Z0t t,e])
  (have zx:=hl2;refine zq112 ?_;try exact zT)
  repeat'(apply zK.s<;>intro hc<;>(try simp only[zhd]at hc)<;>(try have hw:=X0a hc)<;>(refine zq112 ?_;try exact zT))
  all_goals(try clear zx)
  exact V0c hF zle (Q0d (by simp[hne]) (X0c (by intro jj;simp[CV.has])))
def packOk(p:Q0a): Prop:=p.Inputs.l.length<=1000000/\rowsOk p.Rows
def R49: Rel:=fun args p r=>∃(a b:Q0a),args=[a.cv,b.cv]/\(packOk a)/\(packOk b)/\r=.ret (Bo (sameP a b)) p
theorem t49{T:XCall}(h:Has T 49 R49)(a b:Q0a){p:Hp}(h1:packOk a)(h2:packOk b): T 49 [a.cv,b.cv] p=.ret (Bo (sameP a b)) p:=h _ _ _ ⟨a,b,rfl,h1,h2,rfl⟩
theorem zq49{A B:Prop}(k:B)(h:A=B:=by have zy:=zA @zw49<|zA @rs49<|zA @tt3<|zA @tt4<|zA @tt25<|zA @tt91<|zA @tt92<|zA @tt94<|zA ti3.eq_1<|zA ti4.eq_1<|zA ti25.eq_1<|zA ti91.eq_1<|zA ti92.eq_1<|zA ti94.eq_1<|zA @t_112<|zA @t_115<|zA @K0e<|zA @zsl91<|zA @zsl92<|zA @h1<|@h2;exact zQ): A:=h▸k
theorem zno49{P:Prop}(h:P:=by intro jj;simp[CV.has,CV.hasL,fault,K0b.nohas]): P:=h
theorem c49: Con C 49 R49:=by
 refine V0e C ?_ ?_ ?_
 ·rintro args p r r' ⟨a,b,h,h1,h2,e⟩ ⟨a',b',h',h1',h2',e'⟩
  subst e;subst e';simp_all[Q0a.inj_iff,V0p,Q0l]
 ·rintro args p r ⟨a,b,h,h1,h2,rfl⟩;exact zr1
 rintro args p r ⟨a,b,rfl,h1,h2,rfl⟩
 refine zW C false [(112,R112),(115,R115)] ⟨c112,c115,zT⟩ rfl xf49 zc49_ok fun call zh hF=>?_
 have t_112:=@t112 _ zh.1
 have t_115:=@t115 _ zh.2.1
 clear zh
 have i1:=h1.1
 have r1:=h1.2
 have i2:=h2.1
 have r2:=h2.2
 (have zx:=zT;refine zq49 ?_;try exact zT)
 repeat'(apply zK.s<;>intro hc<;>(try simp only[zhd]at hc)<;>(try have hw:=X0a hc)<;>(refine zq49 ?_;try exact zT))
 all_goals(try clear zx)
 all_goals refine V0c hF zle (Q0d ?_ (X0c zno49))
 all_goals simp_all[sameP]
def J122(s:Lst (Lst V0a))(n:Int)(p:Hp)(m:Nat)(ρ:Env)(q:Hp): Prop:=
 ∃k:Nat,m=s.l.length-k/\k<=s.l.length/\ρ 0=s.cv (Lst.cv V0a.cv)/\ρ 1=I n/\ρ 7=s.cv (Lst.cv V0a.cv)/\ρ 8=I s.l.length/\ρ 9=I k/\(s.l.drop k).all (rowRight n)=s.l.all (rowRight n)/\HpLe p q
def R122: Rel:=fun args p r=>∃(s:Lst (Lst V0a)) (n:Int),args=[s.cv (Lst.cv V0a.cv),I n]/\(rowsOk s)/\r=.ret (Bo (rowsRight s.l n)) p
theorem t122{T:XCall}(h:Has T 122 R122)(s:Lst (Lst V0a))(n:Int){p:Hp}(h1:rowsOk s): T 122 [s.cv (Lst.cv V0a.cv),I n] p=.ret (Bo (rowsRight s.l n)) p:=h _ _ _ ⟨s,n,rfl,h1,rfl⟩
theorem zq122{A B:Prop}(k:B)(h:A=B:=by have zy:=zA @zw122<|zA @rs122<|zA @tt3<|zA @tt92<|zA @tt108<|zA ti3.eq_1<|zA ti92.eq_1<|zA ti108.eq_1<|zA @t_118<|zA @t_170<|zA @Y0f<|zA @zsl92<|zA @zsl108<|@h1;exact zQ): A:=h▸k
theorem c122: Con C 122 R122:=by
 refine V0e C ?_ ?_ ?_
 ·rintro args p r r' ⟨s,n,h,h1,e⟩ ⟨s',n',h',h1',e'⟩
  subst e;subst e';simp_all[V0a.inj_iff,Q0l,Y0j,Q0l]
 ·rintro args p r ⟨s,n,h,h1,rfl⟩;exact zr1
 rintro args p r ⟨s,n,rfl,h1,rfl⟩
 refine zW C false [(118,R118),(170,R170)] ⟨c118,c170,zT⟩ rfl xf122 zc122_ok fun call zh hF=>?_
 have t_118:=@t118 _ zh.1
 have t_170:=@t170 _ zh.2.1
 clear zh
 have l1:=h1.1
 (have zx:=zT;refine zq122 ?_;try exact zT)
 repeat'(apply zK.s<;>intro hc<;>(try simp only[zhd]at hc)<;>(try have hw:=X0a hc)<;>(refine zq122 ?_;try exact zT))
 all_goals(try clear zx)
 (show W C false noExt call (ZC.loop Y14) _ _ _);refine Z0j C false noExt call Y14 _ _ _ (J122 s n p) s.l.length ⟨0,rfl,by omega,by simp[put_at,K0d,Z0g],by simp[put_at,K0d,Z0g,Y0t],by simp[put_at,K0d,Z0g],zev,zev,by simp,zle⟩ ?_
 rintro m ρ q ⟨k,rfl,hk,e0,e1,e7,e8,e9,hj,hle⟩
 by_cases hlt:(k:Int)<s.l.length
 ·have m1:=h1.nth (k:=k) (by omega)
  rw[Y17 (l:=s.l) (k:=k) (by omega),List.all_cons]at hj
  by_cases hn:((nth s.l k).l.length:Int)=n
  ·cases hc:(nth s.l k).l.all cellRight with
   |true=>
    have hc':!((nth s.l k).l.all cellRight)=false:=by rw[hc];rfl
    (have zx:=zA e0 (zA e1 (zA e7 (zA e8 (zA e9 (zA hlt (zA hn hc))))));refine zq122 ?_;try exact zT)
    repeat'(apply zK.s<;>intro hc<;>(try simp only[zhd]at hc)<;>(try have hw:=X0a hc)<;>(refine zq122 ?_;try exact zT))
    all_goals(try clear zx)
    exact⟨s.l.length-(k+1),by omega,k+1,rfl,by omega,zev,zev,zev,zev,zev,by rw[<- hj];simp[rowRight,hn,hc],zlq⟩
   |false=>
    (have zx:=zA e0 (zA e1 (zA e7 (zA e8 (zA e9 (zA hlt (zA hn hc))))));refine zq122 ?_;try exact zT)
    repeat'(apply zK.s<;>intro hc<;>(try simp only[zhd]at hc)<;>(try have hw:=X0a hc)<;>(refine zq122 ?_;try exact zT))
    all_goals(try clear zx)
    refine V0c hF zlq (Q0d ?_ (X0c (by intro jj;simp[CV.has])))
    simp[rowsRight,<- hj,rowRight,hc]
  ·(have zx:=zA e0 (zA e1 (zA e7 (zA e8 (zA e9 (zA hlt hn)))));refine zq122 ?_;try exact zT)
   repeat'(apply zK.s<;>intro hc<;>(try simp only[zhd]at hc)<;>(try have hw:=X0a hc)<;>(refine zq122 ?_;try exact zT))
   all_goals(try clear zx)
   refine V0c hF zlq (Q0d ?_ (X0c (by intro jj;simp[CV.has])))
   simp[rowsRight,<- hj,rowRight,hn]
 ·rw[List.drop_eq_nil_of_le (by omega)]at hj
  by_cases h8:(s.l.length:Int)<=8
  ·(have zx:=zA e0 (zA e1 (zA e7 (zA e8 (zA e9 (zA hlt h8)))));refine zq122 ?_;try exact zT)
   repeat'(apply zK.s<;>intro hc<;>(try simp only[zhd]at hc)<;>(try have hw:=X0a hc)<;>(refine zq122 ?_;try exact zT))
   all_goals(try clear zx)
   refine V0c hF zlq (Q0d ?_ (X0c (by intro jj;simp[CV.has])))
   have h8':s.l.length<=8:=by omega
   simp[rowsRight,<- hj,h8']
  ·(have zx:=zA e0 (zA e1 (zA e7 (zA e8 (zA e9 (zA hlt h8)))));refine zq122 ?_;try exact zT)
   repeat'(apply zK.s<;>intro hc<;>(try simp only[zhd]at hc)<;>(try have hw:=X0a hc)<;>(refine zq122 ?_;try exact zT))
   all_goals(try clear zx)
   refine V0c hF zlq (Q0d ?_ (X0c (by intro jj;simp[CV.has])))
   have h8':¬s.l.length<=8:=by omega
   simp[rowsRight,h8']
def R116: Rel:=fun args p r=>∃(a:Q0a),args=[a.cv]/\r=.ret (Bo (headRight a)) p
theorem t116{T:XCall}(h:Has T 116 R116)(a:Q0a){p:Hp}:T 116 [a.cv] p=.ret (Bo (headRight a)) p:=h _ _ _ ⟨a,rfl,rfl⟩
theorem zq116{A B:Prop}(k:B)(h:A=B:=by have zy:=zA @zw116<|zA @rs116<|zA @tt3<|zA @tt4<|zA @tt25<|zA @tt94<|zA ti3.eq_1<|zA ti4.eq_1<|zA ti25.eq_1<|zA ti94.eq_1<|zA @t_118<|@K0e;exact zQ): A:=h▸k
theorem zno116{P:Prop}(h:P:=by intro jj;simp[CV.has,CV.hasL,fault,K0b.nohas]): P:=h
theorem c116: Con C 116 R116:=by
 refine V0e C ?_ ?_ ?_
 ·rintro args p r r' ⟨a,h,e⟩ ⟨a',h',e'⟩
  subst e;subst e';simp_all[Q0a.inj_iff]
 ·rintro args p r ⟨a,h,rfl⟩;exact zr1
 rintro args p r ⟨a,rfl,rfl⟩
 refine zW C false [(118,R118)] ⟨c118,zT⟩ rfl xf116 zc116_ok fun call zh hF=>?_
 have t_118:=@t118 _ zh.1
 clear zh
 (have zx:=zT;refine zq116 ?_;try exact zT)
 repeat'(apply zK.s<;>intro hc<;>(try simp only[zhd]at hc)<;>(try have hw:=X0a hc)<;>(refine zq116 ?_;try exact zT))
 all_goals(try clear zx)
 all_goals refine V0c hF zle (Q0d ?_ (X0c zno116))
 all_goals simp_all[headRight]
theorem packHas(x:Q0a)(j:Nat): x.cv.has j ↔ (Lst.cv Y0a.cv x.Inputs).has j\/(Lst.cv (Lst.cv V0a.cv) x.Rows).has j:=by
 simp[Q0a.cv,CV.has,CV.hasL]
theorem nilHas{α:Type}(f:α->CV)(j:Nat): ¬(Lst.cv f ⟨.nil,[],fun _=>rfl⟩).has j:=by simp[Lst.cv,CV.has,CV.hasL]
theorem Z17{a:Q0a}{j:Nat}(h:(ownP a).cv.has j): a.cv.has j:=by
 rw[packHas]at h ⊢
 simp only[ownP]at h
 split at h
 ·rcases h with h|h
  ·exact .inl h
  ·exact(nilHas _ j h).elim
 ·split at h
  ·rcases h with h|h
   ·exact(nilHas _ j h).elim
   ·exact .inr h
  ·split at h
   ·rcases h with h|h
    ·exact(nilHas _ j h).elim
    ·exact(nilHas _ j h).elim
   ·rcases h with h|h
    ·exact(nilHas _ j h).elim
    ·exact(nilHas _ j h).elim
def R117: Rel:=fun args p r=>∃(a:Q0a),args=[a.cv]/\r=.ret (ownP a).cv p
theorem t117{T:XCall}(h:Has T 117 R117)(a:Q0a){p:Hp}:T 117 [a.cv] p=.ret (ownP a).cv p:=h _ _ _ ⟨a,rfl,rfl⟩
theorem zq117{A B:Prop}(k:B)(h:A=B:=by have zy:=zA @zw117<|zA @rs117<|zA @tt3<|zA @tt4<|zA @tt25<|zA @tt91<|zA @tt92<|zA @tt94<|zA ti3.eq_1<|zA ti4.eq_1<|zA ti25.eq_1<|zA ti91.eq_1<|zA ti92.eq_1<|zA ti94.eq_1<|zA @K0e<|zA @zsl91<|@zsl92;exact zQ): A:=h▸k
theorem c117: Con C 117 R117:=by
 refine V0e C ?_ ?_ ?_
 ·rintro args p r r' ⟨a,h,e⟩ ⟨a',h',e'⟩
  subst e;subst e';simp_all[Q0a.inj_iff,V0p,Q0l]
 ·rintro args p r ⟨a,h,rfl⟩;exact zr1
 rintro args p r ⟨a,rfl,rfl⟩
 refine zW C false [] zT rfl xf117 zc117_ok fun call zh hF=>?_
 clear zh
 by_cases h2:a.Kind=2
 ·(have zx:=h2;refine zq117 ?_;try exact zT)
  repeat'(apply zK.s<;>intro hc<;>(try simp only[zhd]at hc)<;>(try have hw:=X0a hc)<;>(refine zq117 ?_;try exact zT))
  all_goals(try clear zx)
  refine V0c hF zle (Q0d ?_ (fun j hj=>hF.lt_arg (a:=a.cv) (by simp) j (Z17 hj)))
  simp[ownP,h2];rfl
 ·by_cases h3:a.Kind=3
  ·(have zx:=zA h2 h3;refine zq117 ?_;try exact zT)
   repeat'(apply zK.s<;>intro hc<;>(try simp only[zhd]at hc)<;>(try have hw:=X0a hc)<;>(refine zq117 ?_;try exact zT))
   all_goals(try clear zx)
   refine V0c hF zle (Q0d ?_ (fun j hj=>hF.lt_arg (a:=a.cv) (by simp) j (Z17 hj)))
   simp[ownP,h3];rfl
  ·by_cases h4:a.Kind=4
   ·(have zx:=zA h2 (zA h3 h4);refine zq117 ?_;try exact zT)
    repeat'(apply zK.s<;>intro hc<;>(try simp only[zhd]at hc)<;>(try have hw:=X0a hc)<;>(refine zq117 ?_;try exact zT))
    all_goals(try clear zx)
    refine V0c hF zle (Q0d ?_ (fun j hj=>hF.lt_arg (a:=a.cv) (by simp) j (Z17 hj)))
    simp[ownP,h4];rfl
   ·(have zx:=zA h2 (zA h3 h4);refine zq117 ?_;try exact zT)
    repeat'(apply zK.s<;>intro hc<;>(try simp only[zhd]at hc)<;>(try have hw:=X0a hc)<;>(refine zq117 ?_;try exact zT))
    all_goals(try clear zx)
    refine V0c hF zle (Q0d ?_ (fun j hj=>hF.lt_arg (a:=a.cv) (by simp) j (Z17 hj)))
    simp[ownP,h2,h3,h4];rfl
theorem own_ok{a:Q0a}(h:packOk a): packOk (ownP a):=by
 simp only[ownP]
 split
 ·exact⟨h.1,by simp[Q0a.zero,rowsOk]⟩
 ·split
  ·exact⟨by simp[Q0a.zero],h.2⟩
  ·split<;>exact⟨by simp[Q0a.zero],by simp[Q0a.zero,rowsOk]⟩
def R50: Rel:=fun args p r=>∃(a:Q0a),args=[a.cv]/\(packOk a)/\r=.ret (Bo (packRight a)) p
theorem t50{T:XCall}(h:Has T 50 R50)(a:Q0a){p:Hp}(h1:packOk a): T 50 [a.cv] p=.ret (Bo (packRight a)) p:=h _ _ _ ⟨a,rfl,h1,rfl⟩
theorem zq50{A B:Prop}(k:B)(h:A=B:=by have zy:=zA @zw50<|zA @rs50<|zA @tt3<|zA @tt91<|zA @tt92<|zA @tt94<|zA ti3.eq_1<|zA ti91.eq_1<|zA ti92.eq_1<|zA ti94.eq_1<|zA @t_116<|zA @t_117<|zA @t_49<|zA @t_118<|zA @t_119<|zA @t_122<|zA @K0e<|zA @zsl91<|zA @zsl92<|@h1;exact zQ): A:=h▸k
theorem c50: Con C 50 R50:=by
 refine V0e C ?_ ?_ ?_
 ·rintro args p r r' ⟨a,h,h1,e⟩ ⟨a',h',h1',e'⟩
  subst e;subst e';simp_all[Q0a.inj_iff,V0p,Q0l]
 ·rintro args p r ⟨a,h,h1,rfl⟩;exact zr1
 rintro args p r ⟨a,rfl,h1,rfl⟩
 refine zW C false [(116,R116),(117,R117),(49,R49),(118,R118),(119,R119),(122,R122)] ⟨c116,c117,c49,c118,c119,c122,zT⟩ rfl xf50 zc50_ok fun call zh hF=>?_
 have t_116:=@t116 _ zh.1
 have t_117:=@t117 _ zh.2.1
 have t_49:=@t49 _ zh.2.2.1
 have t_118:=@t118 _ zh.2.2.2.1
 have t_119:=@t119 _ zh.2.2.2.2.1
 have t_122:=@t122 _ zh.2.2.2.2.2.1
 clear zh
 have h2:=own_ok h1
 have i1:=h1.1
 have r1:=h1.2
 cases hh:headRight a with
 |false=>
  (have zx:=zA hh h2;refine zq50 ?_;try exact zT)
  repeat'(apply zK.s<;>intro hc<;>(try simp only[zhd]at hc)<;>(try have hw:=X0a hc)<;>(refine zq50 ?_;try exact zT))
  all_goals(try clear zx)
  all_goals refine V0c hF zle (Q0d ?_ (X0c (by intro jj;simp[CV.has])))
  all_goals simp_all[packRight]
 |true=>
  cases hs:sameP (ownP a) a with
  |false=>
   (have zx:=zA hh (zA h2 hs);refine zq50 ?_;try exact zT)
   repeat'(apply zK.s<;>intro hc<;>(try simp only[zhd]at hc)<;>(try have hw:=X0a hc)<;>(refine zq50 ?_;try exact zT))
   all_goals(try clear zx)
   all_goals refine V0c hF zle (Q0d ?_ (X0c (by intro jj;simp[CV.has])))
   all_goals simp_all[packRight]
  |true=>
   (have zx:=zA hh (zA h2 (zA hs (zA i1 r1)));refine zq50 ?_;try exact zT)
   repeat'(apply zK.s<;>intro hc<;>(try simp only[zhd]at hc)<;>(try have hw:=X0a hc)<;>(refine zq50 ?_;try exact zT))
   all_goals(try clear zx)
   all_goals refine V0c hF zle (Q0d ?_ (X0c (by intro jj;simp[CV.has])))
   all_goals(simp_all[packRight]<;>(intro h9;omega))
def Crow(B:List V0a): XObj:=.var (.n (List.replicate B.length sh110)) (.agg (B.map V0a.cv))
def zeros(n:Nat): List V0a:=List.replicate n V0a.zero
theorem zeros_cv(n:Nat): (zeros n).map V0a.cv=List.replicate n z110:=by rw[zeros,List.map_replicate,V0a.zcv]
theorem X0x(n:Nat): (zeros n).length=n:=by simp[zeros]
theorem Q15(B:List V0a): allSh (B.map V0a.cv) sh110=true:=Y0u (fun x=>V0a.shOk x) B
theorem app108g(p:Hp)(n:Int)(hn:0<n/\n<=1000000): xappend C true p 108 3 (Lst.cv V0a.cv ⟨.nil,[],fun _=>rfl⟩) (I n)=.ret (.slc p.n [] 0 n.toNat) (p.new (Crow (zeros n.toNat))):=by
 obtain⟨m,hm⟩:∃m,n.toNat=m+1:=⟨n.toNat-1,by omega⟩
 have h1:Nat.ble ((m+1)*32) 281474976710656=true:=Nat.ble_eq_true_of_le (by omega)
 have h2:(decide (0<=n)&&decide (n<=140737488355328))=true:=by simp;omega
 have hs:xsrc C p.h 110 3 (I n)=some (z110::List.replicate m z110):=by
  simp only[xsrc,tt3,ti3,tt110,ti110,h2,Bool.true_and,hm,h1]
  rfl
 have ha:allSh (z110::List.replicate m z110) sh110=true:=by
  have:=Q15 (zeros (m+1))
  rwa [zeros_cv,List.replicate_succ]at this
 have h3:Nat.ble ((m+1)*32) 140737488355328=true:=Nat.ble_eq_true_of_le (by omega)
 have h4:Nat.ble (m+1) 9223372036854775807=true:=Nat.ble_eq_true_of_le (by omega)
 have h5:List.replicate (m+1) z110=z110::List.replicate m z110:=rfl
 have h6:(Tail.nil.full&&allSh [] sh110)=true:=rfl
 simp only[xappend,tt108,ti108,tt110,ti110,cond_true,hs,ha,xappmut,Lst.cv,List.map_nil,List.length_cons,List.length_nil,List.length_replicate,Crow,zeros_cv,X0x,hm,Nat.zero_add,List.nil_append,h3,h4,h5,h6,Bool.and_self]
theorem app108s(p:Hp)(a m:Nat)(L:List V0a)(s:Lst V0a)(hj:p.t.get a=some (Crow L))(h0:s.l≠[])(hm:m+s.l.length<=L.length)(hl:L.length<=1000000): xappend C true p 108 108 (.slc a [] 0 m) (Lst.cv V0a.cv s)=.ret (.slc a [] 0 (m+s.l.length)) (p.set a (some (Crow (L.take m++s.l++L.drop (m+s.l.length))))):=by
 obtain⟨tl,l,o⟩:=s
 simp only at h0 hm ⊢
 cases l with
 |nil=>exact absurd rfl h0
 |cons x l=>
  have hlen:(L.take m++x::l++L.drop (m+(x::l).length)).length=L.length:=by simp at hm ⊢;omega
  have ha:=Q15 (x::l)
  have hb:=Q15 L
  simp only[List.map_cons]at ha
  simp only[List.length_cons]at hm
  have h1:Nat.ble m L.length=true:=Nat.ble_eq_true_of_le (by omega)
  have h2:Nat.blt 0 L.length=true:=V0s (by omega)
  have h3:Nat.ble ((L.length+(l.length+1))*32) 140737488355328=true:=Nat.ble_eq_true_of_le (by omega)
  have h4:Nat.ble (L.length+(l.length+1)) 9223372036854775807=true:=Nat.ble_eq_true_of_le (by omega)
  have h5:Nat.ble (m+(l.length+1)) L.length=true:=Nat.ble_eq_true_of_le (by omega)
  simp only[Crow]at hj ⊢
  rw[hlen]
  simp only[xappend,tt108,ti108,tt110,ti110,cond_true,Lst.cv,xsrc,srcOf,List.map_cons,ha,hb,xappmut,hj,List.length_cons,List.length_map,h1,h2,h3,h4,h5,Bool.and_self]
  simp[List.map_append,List.map_take,List.map_drop]
theorem sl108z(p:Hp)(a:Nat)(L:List V0a)(n:Nat)(hj:p.t.get a=some (Crow L))(hn:n=L.length): qslice C p.h 108 (.slc a [] 0 n) none (some (I 0)) none=some (.slc a [] 0 0):=by
 have ht:tgt p.h (.ptr a [])=some (.agg (L.map V0a.cv)):=by
  simp only[tgt,Hp.h,hj,Crow,Option.map_some,XObj.obj,CV.at]
 have hs:CV.shape (.agg (L.map V0a.cv))=.n (List.replicate (L.map V0a.cv).length sh110):=by
  simp only[CV.shape,Y0k (f:=V0a.cv) (s:=sh110) (fun x=>V0a.shape x),List.length_map]
 simp only[qslice,tt108,ti108,tt110,ti110,ht]
 rw[if_pos hs]
 have hq:qbnd (some (I 0)) n n=some 0:=by simp only[qbnd];rw[if_pos (by omega)];rfl
 simp only[hq]
 rfl
theorem sl108n(h:Heap): qslice C h 108 (Lst.cv V0a.cv ⟨.nil,[],fun _=>rfl⟩) none (some (I 0)) none=some (Lst.cv V0a.cv ⟨.nil,[],fun _=>rfl⟩):=by
 simp only[qslice,tt108,ti108,tt110,ti110,Lst.cv,List.map_nil]
 rfl
theorem Crow_weak(f:Nat->Nat)(n:Nat)(B:List V0a): XObj.weak f n (Crow B) (Crow B):=⟨rfl,by simp only[CV.weak];exact CV.weakL_refl _ fun j hj=>(V0i (f:=V0a.cv) V0a.nohas B j hj).elim⟩
theorem shr_crow{args:List CV}{p p':Hp}{J m:Nat}{B:List V0a}(hF:Fine args p)(hle:HpLe p p')(hJ:p.n<=J)(hT:p'.t.get J=some (Crow B)): ShrR p (.ret (.slc J [] 0 m) p') (.ret (.slc p.n [] 0 m) (p.new (Crow B))):=
 V07 hF (q0:=p) (J:=J) rfl (fun k o h=>⟨hF.dom k o h,by have:=hF.dom k o h;omega,.inl ⟨h,hle k o h⟩⟩) ⟨_,hT,Crow_weak _ _ _⟩ (by simp[CV.weak,ren])
theorem cap_nil{α:Type}(f:α->CV): xcap (Lst.cv f ⟨.nil,[],fun _=>rfl⟩)=some (I 0):=nd rfl
def R204m: Rel:=fun args p r=>∃(n:Int),args=[Lst.cv V0a.cv ⟨.nil,[],fun _=>rfl⟩,I n]/\(0<n/\n<=1000000)/\r=.ret (.slc p.n [] 0 0) (p.new (Crow (zeros n.toNat)))
theorem zdis204m{P:Prop}(h:P:=by first|exact zdis|(simp only[Hp.bump_n,Hp.znew_n,Hp.zset_n,List.length_nil,List.length_cons,List.length_append,List.length_map,X0x];(first|done|omega))|(simp (disch:=first|exact zd1|(simp only[Hp.bump_n,Hp.znew_n,Hp.zset_n,List.length_nil,List.length_cons,List.length_append,List.length_map,X0x];(first|done|omega))) only[zheap,zx];(first|done|rfl))|fail): P:=h
theorem zq204m{A B:Prop}(k:B)(h:A=B:=by have zy:=zA @zw204<|zA @rs204<|zA @tt3<|zA @tt9<|zA @tt108<|zA ti3.eq_1<|zA ti9.eq_1<|zA ti108.eq_1<|zA @Y0f<|zA @zsl108<|zA @app108g<|zA @sl108z<|zA @sl108n<|zA @X0x<|zA @cap_nil<|@h1;have zd:=@zdis204m;exact zQd): A:=h▸k
theorem c204m: Con C 204 R204m:=by
 refine V0e C ?_ ?_ ?_
 ·rintro args p r r' ⟨n,h,h1,e⟩ ⟨n',h',h1',e'⟩
  subst e;subst e';simp_all[V0a.inj_iff,Y0j]
 ·rintro args p r ⟨n,h,h1,rfl⟩;exact zr1
 rintro args p r ⟨n,rfl,h1,rfl⟩
 refine zW C true [] zT rfl xf204 zc204_ok fun call zh hF=>?_
 clear zh
 have hn0:¬n<0:=by omega
 have hn1:0<n:=h1.1
 have hn2:n-0=n:=Int.sub_zero n
 (have zx:=zA hn0 (zA hn1 hn2);refine zq204m ?_;try exact zT)
 repeat'(apply zK.s<;>intro hc<;>(try simp only[zhd]at hc)<;>(try have hw:=X0a hc)<;>(refine zq204m ?_;try exact zT))
 all_goals(try clear zx)
 refine shr_crow hF zle (Nat.le_refl _) ?_
 exact Hp.get_new_self _ _
def R204e: Rel:=fun args p r=>∃(n:Int),args=[Lst.cv V0a.cv ⟨.nil,[],fun _=>rfl⟩,I n]/\(n=0)/\r=.ret (Lst.cv V0a.cv ⟨.nil,[],fun _=>rfl⟩) p
theorem zq204e{A B:Prop}(k:B)(h:A=B:=by have zy:=zA @zw204<|zA @rs204<|zA @tt3<|zA @tt9<|zA @tt108<|zA ti3.eq_1<|zA ti9.eq_1<|zA ti108.eq_1<|zA @Y0f<|zA @zsl108<|zA @cap_nil<|@h1;exact zQ): A:=h▸k
theorem c204e: Con C 204 R204e:=by
 refine V0e C ?_ ?_ ?_
 ·rintro args p r r' ⟨n,h,h1,e⟩ ⟨n',h',h1',e'⟩
  subst e;subst e';simp_all[V0a.inj_iff,Y0j]
 ·rintro args p r ⟨n,h,h1,rfl⟩;exact zr1
 rintro args p r ⟨n,rfl,h1,rfl⟩
 refine zW C true [] zT rfl xf204 zc204_ok fun call zh hF=>?_
 clear zh
 subst h1
 have h1:True:=trivial
 have hn0:¬(0:Int)<0:=by omega
 have hn2:(0:Int)-0=0:=rfl
 (have zx:=zA hn0 hn2;refine zq204e ?_;try exact zT)
 repeat'(apply zK.s<;>intro hc<;>(try simp only[zhd]at hc)<;>(try have hw:=X0a hc)<;>(refine zq204e ?_;try exact zT))
 all_goals(try clear zx)
 exact V0c hF zle (Y0d (X0c (by intro jj;simp[CV.has,CV.hasL,Lst.cv,Z0g])))
end Go.Proofs.Ytpchcfkebljopaa
end
section
namespace Go.Proofs.Ytpchcfkebljopaa
open Go.Cl Go Go.RowKit
def flagI(b:Bool): Int:=if b then 1 else 0
def inBits(x:Y0a): List Bool:=bitsOf x.Buttons 8++bitsOf x.X 8++bitsOf x.Y 8
def cellBits(c:V0a): List Bool:=bitsOf (flagI c.Real) 1++if c.Real then inBits c.In else []
def flat(l:List (Lst V0a)): List V0a:=l.flatMap Lst.l
def rowsHead(a:Q0a): List Bool:=bitsOf a.First 10++bitsOf a.Players 4++bitsOf a.Rows.l.length 4
def rowsBits(a:Q0a): List Bool:=rowsHead a++(flat a.Rows.l).flatMap cellBits
def inputsHead(a:Q0a): List Bool:=bitsOf a.Got 10++bitsOf a.First 10++bitsOf a.Inputs.l.length 5
def packHead(a:Q0a): List Bool:=bitsOf a.Kind 3++bitsOf a.Slot 3++bitsOf a.Seq 16++bitsOf a.Last 16++bitsOf (flagI a.Any) 1++bitsOf a.Acks 64
def packBits(a:Q0a): List Bool:=packHead a++if a.Kind=2 then inputsHead a++a.Inputs.l.flatMap inBits else if a.Kind=3 then rowsBits a else if a.Kind=4 then bitsOf a.Frame 10++bitsOf a.Mark 62 else []
theorem Y0q(x:Y0a): (inBits x).length=24:=by simp[inBits,Q0e]
theorem cellBits_len(c:V0a): (cellBits c).length<=25:=by
 unfold cellBits
 split<;>simp[Q0e,Y0q]
theorem Q0s(a:Q0a): (rowsHead a).length=18:=by simp[rowsHead,Q0e]
theorem V0o(a:Q0a): (inputsHead a).length=25:=by simp[inputsHead,Q0e]
theorem Y0h(a:Q0a): (packHead a).length=103:=by simp[packHead,Q0e]
theorem K1o{l:List (Lst V0a)}{k:Nat}(h:k<l.length): flat (l.take (k+1))=flat (l.take k)++(nth l k).l:=by
 rw[flat,Z0l h,List.flatMap_append];simp[flat]
theorem X0o(l:List (Lst V0a))(k:Nat): (flat (l.take k)).length<=(flat l).length:=by
 have h:flat l=flat (l.take k)++flat (l.drop k):=by rw[flat,flat,flat,<- List.flatMap_append,List.take_append_drop]
 rw[h,List.length_append];omega
theorem Y10: ∀{l:List (Lst V0a)},(∀x∈l,x.l.length<=8)->(flat l).length<=8*l.length
 |[],_=>Nat.le_refl _
 |x::l,h=>by
  have h1:=h x (.head _)
  have h2:=Y10 (l:=l) fun y hy=>h y (.tail _ hy)
  simp only[flat,List.flatMap_cons,List.length_append,List.length_cons]at h2 ⊢
  omega
theorem X1g: ∀(l:List V0a),(l.flatMap cellBits).length<=25*l.length
 |[]=>Nat.le_refl _
 |c::l=>by
  have h1:=cellBits_len c
  have h2:=X1g l
  rw[List.flatMap_cons,List.length_append,List.length_cons];omega
end Go.Proofs.Ytpchcfkebljopaa
end
section
namespace Go.Proofs.Ytpchcfkebljopaa
open Go.Cl Go Go.RowKit
set_option maxRecDepth 100000
set_option linter.constructorNameAsVariable false
def R204y: Rel:=fun args p r=>R204m args p r\/R204e args p r
theorem c204y: Con C 204 R204y:=con_or C c204m c204e (by
 rintro args p r r' ⟨n,e,h1,_⟩ ⟨n',e',h2,_⟩
 rw[e]at e'
 simp only[List.cons.injEq,and_true,true_and]at e'
 have:=I_inj _ _ e'
 omega)
theorem t204y{T:XCall}(h:Has T 204 R204y): (∀(n:Int) {p:Hp},0<n/\n<=1000000->T 204 [.lst .nil [],I n] p=.ret (.slc p.n [] 0 0) (p.new (Crow (zeros n.toNat)))) /\
  ∀(n:Int) {p:Hp},n=0->T 204 [.lst .nil [],I n] p=.ret (Lst.cv V0a.cv ⟨.nil,[],fun _=>rfl⟩) p:=
 ⟨fun n p h1=>h _ _ _ (.inl ⟨n,rfl,h1,rfl⟩),fun n p h1=>h _ _ _ (.inr ⟨n,rfl,h1,rfl⟩)⟩
theorem fillC(A x:List V0a)(N:Nat)(h:A.length+x.length<=N): (A++zeros (N-A.length)).take A.length++x++(A++zeros (N-A.length)).drop (A.length+x.length)=(A++x)++zeros (N-(A++x).length):=by
 rw[List.take_left' rfl,List.drop_append,List.drop_eq_nil_of_le (by omega),List.nil_append]
 congr 1
 simp only[zeros,List.drop_replicate,List.length_append]
 congr 1;omega
def J191(s:Lst (Lst V0a))(p:Hp)(n:Nat)(ρ:Env)(q:Hp): Prop:=
 ∃k:Nat,n=s.l.length-k/\k<=s.l.length/\ρ 0=s.cv (Lst.cv V0a.cv)/\ρ 3=I (flat (s.l.take k)).length/\ρ 9=s.cv (Lst.cv V0a.cv)/\ρ 10=I s.l.length/\ρ 11=I k/\q=p
def L191(s:Lst (Lst V0a))(p:Hp)(n:Nat)(ρ:Env)(q:Hp): Prop:=
 ∃k a:Nat,n=s.l.length-k/\k<=s.l.length/\ρ 25=s.cv (Lst.cv V0a.cv)/\ρ 26=I s.l.length/\ρ 27=I k/\ρ 6=.slc a [] 0 (flat (s.l.take k)).length/\q.t.get a=some (Crow (flat (s.l.take k)++zeros ((flat s.l).length-(flat (s.l.take k)).length)))/\p.n<=a/\a<q.n/\HpLe p q
def R191m: Rel:=fun args p r=>∃(s:Lst (Lst V0a)),args=[s.cv (Lst.cv V0a.cv)]/\(s.l.length<=1000000)/\(∀x∈s.l,x.l≠[])/\(s.l≠[])/\((flat s.l).length<=1000000)/\r=.ret (Lst.cv V0a.cv ⟨.part,flat s.l,nofun⟩) p
theorem zq191m{A B:Prop}(k:B)(h:A=B:=by have zy:=zA @zw191<|zA @rs191<|zA @tt3<|zA @tt9<|zA @tt92<|zA @tt108<|zA ti3.eq_1<|zA ti9.eq_1<|zA ti92.eq_1<|zA ti108.eq_1<|zA @t_204y<|zA @Y0f<|zA @zsl92<|zA @zsl108<|zA @h1<|zA @h2<|zA @h3<|@h4;exact zQ): A:=h▸k
theorem c191m: Con C 191 R191m:=by
 refine V0e C ?_ ?_ ?_
 ·rintro args p r r' ⟨s,h,h1,h2,h3,h4,e⟩ ⟨s',h',h1',h2',h3',h4',e'⟩
  subst e;subst e';simp_all[V0a.inj_iff,Q0l,Y0j,Q0l]
 ·rintro args p r ⟨s,h,h1,h2,h3,h4,rfl⟩;exact zr1
 rintro args p r ⟨s,rfl,h1,h2,h3,h4,rfl⟩
 show AnsAt C 191 [s.cv (Lst.cv V0a.cv)] p (.ret (.lst .part ((flat s.l).map V0a.cv)) p)
 refine K1w C (sh:=.n (List.replicate (flat s.l).length sh110)) (l:=(flat s.l).map V0a.cv) (sz:=4) (fun x hx=>by obtain⟨y,_,rfl⟩:=List.mem_map.1 hx;rfl) (fun j hj=>(V0i V0a.nohas _ j hj).elim) ?_
 refine zW C true [(204,R204y)] ⟨c204y,zT⟩ rfl xf191 zc191_ok fun call zh hF=>?_
 have t_204y:=@t204y _ zh.1
 clear zh
 have hl0:0<s.l.length:=List.length_pos_iff.2 h3
 have hf0:0<(flat s.l).length:=by
  have e:=K1o (l:=s.l) (k:=0) hl0
  have:=X0o s.l 1
  rw[e,List.length_append]at this
  have:=List.length_pos_iff.2 (h2 (nth s.l 0) (by rw[K0j hl0];exact List.getElem_mem _))
  omega
 (have zx:=zT;refine zq191m ?_;try exact zT)
 repeat'(apply zK.s<;>intro hc<;>(try simp only[zhd]at hc)<;>(try have hw:=X0a hc)<;>(refine zq191m ?_;try exact zT))
 all_goals(try clear zx)
 (show W C true noExt call (ZC.loop V1b) _ _ _);refine Z0j C true noExt call V1b _ _ _ (J191 s p) s.l.length ⟨0,rfl,by omega,by simp[put_at,K0d,Z0g],by simp[put_at,K0d,flat],by simp[put_at,K0d,Z0g],zev,zev,rfl⟩ ?_
 rintro n ρ q ⟨k,rfl,hk,e0,e3,e9,e10,e11,rfl⟩
 have hle1:=X0o s.l k
 by_cases hlt:(k:Int)<s.l.length
 ·have hst:=K1o (l:=s.l) (k:=k) (by omega)
  have hle2:=X0o s.l (k+1)
  rw[hst,List.length_append]at hle2
  have hng:¬((flat (s.l.take k)).length:Int)+((nth s.l k).l.length:Int)<0:=by omega
  (have zx:=zA e0 (zA e3 (zA e9 (zA e10 (zA e11 (zA hlt hng)))));refine zq191m ?_;try exact zT)
  repeat'(apply zK.s<;>intro hc<;>(try simp only[zhd]at hc)<;>(try have hw:=X0a hc)<;>(refine zq191m ?_;try exact zT))
  all_goals(try clear zx)
  exact⟨s.l.length-(k+1),by omega,k+1,rfl,by omega,zev,by rw[hst,List.length_append];simp[put_at,K0d],zev,zev,zev,rfl⟩
 ·have hks:k=s.l.length:=by omega
  rw[hks,List.take_length]at e3
  have hpos:0<((flat s.l).length:Int)/\((flat s.l).length:Int)<=1000000:=by omega
  (have zx:=zA e0 (zA e3 (zA e9 (zA e10 (zA e11 (zA hlt hpos)))));refine zq191m ?_;try exact zT)
  repeat'(apply zK.s<;>intro hc<;>(try simp only[zhd]at hc)<;>(try have hw:=X0a hc)<;>(refine zq191m ?_;try exact zT))
  all_goals(try clear zx)
  (show W C true noExt call (ZC.loop Z0z) _ _ _);refine Z0j C true noExt call Z0z _ _ _ (L191 s q) s.l.length ⟨0,q.n,rfl,by omega,zev,zev,zev,by simp[put_at,K0d,flat],by simp (disch:=first|exact zdl|fail) only[zheap,flat,List.take_zero,List.flatMap_nil,List.nil_append,List.length_nil,Int.toNat_natCast,Nat.sub_zero],Nat.le_refl _,zdl,zle⟩ ?_
  clear e0 e3 e9 e10 e11 hlt hle1 hk hks
  rintro n ρ r ⟨k,a,rfl,hk,e25,e26,e27,e6,g1,hpa,han,hle⟩
  have hle1:=X0o s.l k
  have hLl:(flat (s.l.take k)++zeros ((flat s.l).length-(flat (s.l.take k)).length)).length=(flat s.l).length:=by rw[List.length_append,X0x];omega
  by_cases hlt:(k:Int)<s.l.length
  ·have hst:=K1o (l:=s.l) (k:=k) (by omega)
   have hle2:=X0o s.l (k+1)
   rw[hst,List.length_append]at hle2
   have hx:(nth s.l k).l≠[]:=h2 _ (by rw[K0j (by omega)];exact List.getElem_mem _)
   have hap:=app108s r a (flat (s.l.take k)).length _ (nth s.l k) g1 hx (by omega) (by omega)
   rw[fillC _ _ _ (by omega)]at hap
   (have zx:=zA e25 (zA e26 (zA e27 (zA e6 (zA hap hlt))));refine zq191m ?_;try exact zT)
   repeat'(apply zK.s<;>intro hc<;>(try simp only[zhd]at hc)<;>(try have hw:=X0a hc)<;>(refine zq191m ?_;try exact zT))
   all_goals(try clear zx)
   exact⟨s.l.length-(k+1),by omega,k+1,a,rfl,by omega,zev,zev,zev,by rw[hst,List.length_append];simp[put_at,K0d],by rw[hst];exact Hp.get_set_self _ _ _,hpa,zdl,fun j o h=>by have hd:=hF.dom j o h;rw[Hp.get_set_ne _ _ _ (by omega)];exact hle j o h⟩
  ·have hks:k=s.l.length:=by omega
   rw[hks,List.take_length,Nat.sub_self]at g1
   rw[hks,List.take_length]at e6
   rw[show zeros 0=[] from rfl,List.append_nil]at g1
   (have zx:=zA e25 (zA e26 (zA e27 (zA e6 hlt)));refine zq191m ?_;try exact zT)
   repeat'(apply zK.s<;>intro hc<;>(try simp only[zhd]at hc)<;>(try have hw:=X0a hc)<;>(refine zq191m ?_;try exact zT))
   all_goals(try clear zx)
   exact shr_crow hF hle hpa g1
def R191e: Rel:=fun args p r=>∃(s:Lst (Lst V0a)),args=[s.cv (Lst.cv V0a.cv)]/\(s.l=[])/\r=.ret (Lst.cv V0a.cv ⟨.nil,[],fun _=>rfl⟩) p
theorem zq191e{A B:Prop}(k:B)(h:A=B:=by have zy:=zA @zw191<|zA @rs191<|zA @tt3<|zA @tt9<|zA @tt92<|zA @tt108<|zA ti3.eq_1<|zA ti9.eq_1<|zA ti92.eq_1<|zA ti108.eq_1<|zA @t_204y<|zA @Y0f<|zA @zsl92<|zA @zsl108<|@h3;exact zQ): A:=h▸k
theorem c191e: Con C 191 R191e:=by
 refine V0e C ?_ ?_ ?_
 ·rintro args p r r' ⟨s,h,h3,e⟩ ⟨s',h',h3',e'⟩
  subst e;subst e';simp_all[V0a.inj_iff,Q0l,Y0j,Q0l]
 ·rintro args p r ⟨s,h,h3,rfl⟩;exact zr1
 rintro args p r ⟨s,rfl,h3,rfl⟩
 refine zW C true [(204,R204y)] ⟨c204y,zT⟩ rfl xf191 zc191_ok fun call zh hF=>?_
 have t_204y:=@t204y _ zh.1
 clear zh
 have hn:¬(0:Int)<0:=by omega
 have hlen:(s.l.length:Int)=0:=by rw[h3];rfl
 (have zx:=hn;refine zq191e ?_;try exact zT)
 repeat'(apply zK.s<;>intro hc<;>(try simp only[zhd]at hc)<;>(try have hw:=X0a hc)<;>(refine zq191e ?_;try exact zT))
 all_goals(try clear zx)
 (show W C true noExt call (ZC.loop V1b) _ _ _);refine Z0j C true noExt call V1b _ _ _ (fun n ρ q=>n=0/\ρ 0=s.cv (Lst.cv V0a.cv)/\ρ 3=I 0/\ρ 10=I 0/\ρ 11=I 0/\q=p) 0 ⟨rfl,by simp[put_at,K0d,Z0g],zev,by simp[put_at,K0d,hlen],zev,rfl⟩ ?_
 rintro n ρ q ⟨rfl,e0,e3,e10,e11,rfl⟩
 (have zx:=zA e0 (zA e3 (zA e10 (zA e11 hn)));refine zq191e ?_;try exact zT)
 repeat'(apply zK.s<;>intro hc<;>(try simp only[zhd]at hc)<;>(try have hw:=X0a hc)<;>(refine zq191e ?_;try exact zT))
 all_goals(try clear zx)
 (show W C true noExt call (ZC.loop Z0z) _ _ _);refine Z0j C true noExt call Z0z _ _ _ (fun n ρ r=>n=0/\ρ 6=Lst.cv V0a.cv ⟨.nil,[],fun _=>rfl⟩/\ρ 26=I 0/\ρ 27=I 0/\r=q) 0 ⟨rfl,zev,by simp[put_at,K0d,hlen],zev,rfl⟩ ?_
 rintro n ρ r ⟨rfl,e6,e26,e27,rfl⟩
 (have zx:=zA e6 (zA e26 (zA e27 hn));refine zq191e ?_;try exact zT)
 repeat'(apply zK.s<;>intro hc<;>(try simp only[zhd]at hc)<;>(try have hw:=X0a hc)<;>(refine zq191e ?_;try exact zT))
 all_goals(try clear zx)
 exact V0c hF zle (Y0d (X0c (by intro jj;simp[CV.has,CV.hasL,Lst.cv])))
def catL(s:Lst (Lst V0a)): Lst V0a:=if s.l=[] then⟨.nil,[],fun _=>rfl⟩ else⟨.part,flat s.l,nofun⟩
theorem catL_l(s:Lst (Lst V0a)): (catL s).l=flat s.l:=by
 unfold catL
 split
 ·rename_i h;rw[h];rfl
 ·rfl
def R191y: Rel:=fun args p r=>R191m args p r\/R191e args p r
theorem c191y: Con C 191 R191y:=con_or C c191m c191e (by
 rintro args p r r' ⟨s,e,_,_,h3,_⟩ ⟨s',e',h3',_⟩
 rw[e]at e'
 simp only[List.cons.injEq,Q0l,and_true]at e'
 rw[e']at h3
 exact absurd h3' h3)
theorem t191y{T:XCall}(h:Has T 191 R191y)(s:Lst (Lst V0a)){p:Hp}(h1:s.l.length<=1000000)(h2:∀x∈s.l,x.l≠[])(h4:(flat s.l).length<=1000000): T 191 [s.cv (Lst.cv V0a.cv)] p=.ret ((catL s).cv V0a.cv) p:=by
 unfold catL
 by_cases h3:s.l=[]
 ·rw[if_pos h3];exact h _ _ _ (.inr ⟨s,rfl,h3,rfl⟩)
 ·rw[if_neg h3];exact h _ _ _ (.inl ⟨s,rfl,h1,h2,h3,h4,rfl⟩)
def R164: Rel:=fun args p r=>∃(i j:Nat) (l:List Bool) (b:Bool),args=[.ptr i [],Bo b]/\(p.t.get i=some (W1 j l))/\(W2 i j l p)/\(l.length<=800000)/\r=.ret (.tup []) (wHp i j l (l++bitsOf (flagI b) 1) p)
theorem t164{T:XCall}(h:Has T 164 R164)(i j:Nat)(l:List Bool)(b:Bool){p:Hp}(h1:p.t.get i=some (W1 j l))(h2:W2 i j l p)(h3:l.length<=800000): T 164 [.ptr i [],Bo b] p=.ret (.tup []) (wHp i j l (l++bitsOf (flagI b) 1) p):=h _ _ _ ⟨i,j,l,b,rfl,h1,h2,h3,rfl⟩
theorem zq164{A B:Prop}(k:B)(h:A=B:=by have zy:=zA @zw164<|zA @rs164<|zA @t_89<|zA @h1<|zA @h2<|@h3;exact zQ): A:=h▸k
theorem c164: Con C 164 R164:=by
 refine V0e C ?_ ?_ ?_
 ·rintro args p r r' ⟨i,j,l,b,h,h1,h2,h3,e⟩ ⟨i',j',l',b',h',h1',h2',h3',e'⟩
  subst e;subst e';(subst h;simp only[List.cons.injEq,CV.ptr.injEq,CV.sc.injEq,Value.bool.injEq,and_true,true_and]at h';obtain⟨e1,e2⟩:=h';subst e1;subst e2;have hu:=Z1j h1 h2 h1' h2';rw[K0z _ hu,hu.1])
 ·rintro args p r ⟨i,j,l,b,h,h1,h2,h3,rfl⟩;exact zr1
 rintro args p r ⟨i,j,l,b,rfl,h1,h2,h3,rfl⟩
 refine zW C false [(89,R89)] ⟨c89,zT⟩ rfl xf164 zc164_ok fun call zh hF=>?_
 have t_89:=@t89 _ zh.1
 clear zh
 have hd_h1:=hF.dom _ _ h1
 have hi:=hF.dom _ _ h1
 cases b with
 |true=>
  (have zx:=h1;refine zq164 ?_;try exact zT)
  repeat'(apply zK.s<;>intro hc<;>(try simp only[zhd]at hc)<;>(try have hw:=X0a hc)<;>(refine zq164 ?_;try exact zT))
  all_goals(try clear zx)
  exact((WSt.start h1 h2 hi).step hF.dom _).fin hF h1 h2 (app_ne (Q0e _ 1)) (Z0m _ _)
 |false=>
  (have zx:=h1;refine zq164 ?_;try exact zT)
  repeat'(apply zK.s<;>intro hc<;>(try simp only[zhd]at hc)<;>(try have hw:=X0a hc)<;>(refine zq164 ?_;try exact zT))
  all_goals(try clear zx)
  exact((WSt.start h1 h2 hi).step hF.dom _).fin hF h1 h2 (app_ne (Q0e _ 1)) (Z0m _ _)
def R165: Rel:=fun args p r=>∃(i j:Nat) (l:List Bool) (x:Y0a),args=[.ptr i [],x.cv]/\(p.t.get i=some (W1 j l))/\(W2 i j l p)/\(l.length<=800000)/\r=.ret (.tup []) (wHp i j l (l++inBits x) p)
theorem t165{T:XCall}(h:Has T 165 R165)(i j:Nat)(l:List Bool)(x:Y0a){p:Hp}(h1:p.t.get i=some (W1 j l))(h2:W2 i j l p)(h3:l.length<=800000): T 165 [.ptr i [],x.cv] p=.ret (.tup []) (wHp i j l (l++inBits x) p):=h _ _ _ ⟨i,j,l,x,rfl,h1,h2,h3,rfl⟩
theorem zdis165{P:Prop}(h:P:=by first|exact zdis|(exact zdw1)|(exact zdw)|(exact W2_nil _ _ _)|(refine W2_in ?_ ?_<;>exact zdw)|(simp only[Hp.bump_n,Hp.znew_n,Hp.zset_n,List.length_nil,List.length_cons,List.length_append,List.length_map,Q0e];(first|done|omega))|(simp (disch:=first|exact zd1|(simp only[Hp.bump_n,Hp.znew_n,Hp.zset_n,List.length_nil,List.length_cons,List.length_append,List.length_map,Q0e];(first|done|omega))) only[zheap,zx];(first|done|rfl))|fail): P:=h
theorem zq165{A B:Prop}(k:B)(h:A=B:=by have zy:=zA @zw165<|zA @rs165<|zA @tt3<|zA @tt25<|zA @tt36<|zA ti3.eq_1<|zA ti25.eq_1<|zA ti36.eq_1<|zA @t_89<|zA @t_158<|zA @Z0e<|zA @Q07<|zA @wHp_i<|zA @wHp_eq<|zA @wHp_nj<|zA @wHp_n<|zA @h1<|zA @h2<|@h3;have zd:=@zdis165;exact zQd): A:=h▸k
theorem c165: Con C 165 R165:=by
 refine V0e C ?_ ?_ ?_
 ·rintro args p r r' ⟨i,j,l,x,h,h1,h2,h3,e⟩ ⟨i',j',l',x',h',h1',h2',h3',e'⟩
  subst e;subst e';(subst h;simp only[List.cons.injEq,CV.ptr.injEq,Y0a.inj_iff,and_true,true_and]at h';obtain⟨e1,e2⟩:=h';subst e1;subst e2;have hu:=Z1j h1 h2 h1' h2';rw[K0z _ hu,hu.1])
 ·rintro args p r ⟨i,j,l,x,h,h1,h2,h3,rfl⟩;exact zr1
 rintro args p r ⟨i,j,l,x,rfl,h1,h2,h3,rfl⟩
 refine zW C false [(89,R89),(158,R158)] ⟨c89,c158,zT⟩ rfl xf165 zc165_ok fun call zh hF=>?_
 have t_89:=@t89 _ zh.1
 have t_158:=@t158 _ zh.2.1
 clear zh
 have hd_h1:=hF.dom _ _ h1
 have hi:=hF.dom _ _ h1
 have hw:=hF.dom
 have hjn:l=[]\/j<p.n:=by
  rcases h2 with h|h
  ·exact .inl h
  ·exact .inr (hw _ _ h.2)
 have hS0:=WSt.new0 hw h1 h2 hi (.var sh36 x.cv)
 have hW0:=hS0.w
 have hbx:∀m,(wHp i j l m (p.new (.var sh36 x.cv))).t.get p.n=some (.var sh36 x.cv):=fun m=>by rw[wHp_ne (by omega) (hjn.imp id fun h=>by omega) (by rw[Hp.znew_n];omega),Hp.get_new_self]
 (have zx:=zA hbx h1;refine zq165 ?_;try exact zT)
 repeat'(apply zK.s<;>intro hc<;>(try simp only[zhd]at hc)<;>(try have hw:=X0a hc)<;>(refine zq165 ?_;try exact zT))
 all_goals(try clear zx)
 have hbb:l++bitsOf x.Buttons 8++bitsOf x.X 8++bitsOf x.Y 8=l++inBits x:=by simp only[inBits,List.append_assoc]
 rw[<- hbb]
 exact((WSt.step2 (J':=p.n+1+1) hw zdw1 (WSt.step2 (J':=p.n+1) hw zdw1 hS0)).step hw _).fin hF h1 h2 (by rw[hbb];exact app_ne (Y0q x)) (Z0m _ _)
def rowsSm(a:Q0a): Prop:=a.Rows.l.length<=8/\∀x∈a.Rows.l,x.l≠[]/\x.l.length<=8
theorem rowsSm.flat{a:Q0a}(h:rowsSm a): (flat a.Rows.l).length<=64:=by
 have h1:=Y10 (l:=a.Rows.l) fun x hx=>(h.2 x hx).2
 have h2:=h.1
 omega
theorem WSt.newset{i j J:Nat}{l m:List Bool}{p q:Hp}(hd:∀k o,p.t.get k=some o->k<p.n)(h:WSt i j l p J m q)(hj:J<q.n)(o o':XObj): WSt i j l p J m ((q.new o).set q.n (some o')):=by
 have k:=h.new hd hj o
 have hi:i<q.n:=Nat.lt_of_lt_of_le h.hi h.hn
 have hn:=h.hn
 refine⟨by rw[Hp.get_set_ne _ _ _ (by omega)];exact k.g,?_,k.hJ.imp id fun x=>⟨x.1,by rw[Hp.zset_n];exact x.2⟩,k.hi,by rw[Hp.zset_n];exact k.hn,fun k' o1 a b c=>by have:=hd _ _ c;rw[Hp.get_set_ne _ _ _ (by omega)];exact k.hle k' o1 a b c⟩
 rcases k.w with w|⟨w1,w2⟩
 ·exact .inl w
 ·exact .inr ⟨w1,by rw[Hp.get_set_ne _ _ _ (by omega)];exact w2⟩
def J166(i j:Nat)(l:List Bool)(a:Q0a)(p:Hp)(n:Nat)(ρ:Env)(q:Hp): Prop:=
 ∃k J:Nat,n=(flat a.Rows.l).length-k/\k<=(flat a.Rows.l).length/\ρ 0=.ptr i []/\ρ 24=(catL a.Rows).cv V0a.cv/\ρ 25=I (flat a.Rows.l).length/\ρ 26=I k/\J<q.n/\i<q.n/\p.n<=q.n/\WSt i j l p J (l++rowsHead a++((flat a.Rows.l).take k).flatMap cellBits) q
def R166: Rel:=fun args p r=>∃(i j:Nat) (l:List Bool) (a:Q0a),args=[.ptr i [],a.cv]/\(p.t.get i=some (W1 j l))/\(W2 i j l p)/\(l.length<=700000)/\(rowsSm a)/\r=.ret (.tup []) (wHp i j l (l++rowsBits a) p)
theorem t166{T:XCall}(h:Has T 166 R166)(i j:Nat)(l:List Bool)(a:Q0a){p:Hp}(h1:p.t.get i=some (W1 j l))(h2:W2 i j l p)(h3:l.length<=700000)(h4:rowsSm a): T 166 [.ptr i [],a.cv] p=.ret (.tup []) (wHp i j l (l++rowsBits a) p):=h _ _ _ ⟨i,j,l,a,rfl,h1,h2,h3,h4,rfl⟩
theorem zdis166{P:Prop}(h:P:=by first|exact zdis|(exact zdw1)|(exact zdw)|(exact W2_nil _ _ _)|(refine W2_in ?_ ?_<;>exact zdw)|(simp only[Hp.bump_n,Hp.znew_n,Hp.zset_n,List.length_nil,List.length_cons,List.length_append,List.length_map,Q0e,catL_l];(first|done|omega))|(simp (disch:=first|exact zd1|(simp only[Hp.bump_n,Hp.znew_n,Hp.zset_n,List.length_nil,List.length_cons,List.length_append,List.length_map,Q0e,catL_l];(first|done|omega))) only[zheap,zx];(first|done|rfl))|fail): P:=h
theorem zq166{A B:Prop}(k:B)(h:A=B:=by have zy:=zA @zw166<|zA @rs166<|zA @tt3<|zA @tt4<|zA @tt25<|zA @tt36<|zA @tt92<|zA @tt94<|zA @tt108<|zA @tt110<|zA ti3.eq_1<|zA ti4.eq_1<|zA ti25.eq_1<|zA ti36.eq_1<|zA ti92.eq_1<|zA ti94.eq_1<|zA ti108.eq_1<|zA ti110.eq_1<|zA @t_89<|zA @t_191y<|zA @t_164<|zA @t_165<|zA @K0e<|zA @Y0f<|zA @Z0e<|zA @zsl92<|zA @zsl108<|zA @Q07<|zA @wHp_i<|zA @wHp_eq<|zA @wHp_nj<|zA @wHp_n<|zA @catL_l<|zA @h1<|zA @h2<|zA @h3<|@h4;have zd:=@zdis166;exact zQd): A:=h▸k
theorem c166: Con C 166 R166:=by
 refine V0e C ?_ ?_ ?_
 ·rintro args p r r' ⟨i,j,l,a,h,h1,h2,h3,h4,e⟩ ⟨i',j',l',a',h',h1',h2',h3',h4',e'⟩
  subst e;subst e';(subst h;simp only[List.cons.injEq,CV.ptr.injEq,Q0a.inj_iff,and_true,true_and]at h';obtain⟨e1,e2⟩:=h';subst e1;subst e2;have hu:=Z1j h1 h2 h1' h2';rw[K0z _ hu,hu.1])
 ·rintro args p r ⟨i,j,l,a,h,h1,h2,h3,h4,rfl⟩;exact zr1
 rintro args p r ⟨i,j,l,a,rfl,h1,h2,h3,h4,rfl⟩
 refine zW C false [(89,R89),(191,R191y),(164,R164),(165,R165)] ⟨c89,c191y,c164,c165,zT⟩ rfl xf166 zc166_ok fun call zh hF=>?_
 have t_89:=@t89 _ zh.1
 have t_191y:=@t191y _ zh.2.1
 have t_164:=@t164 _ zh.2.2.1
 have t_165:=@t165 _ zh.2.2.2.1
 clear zh
 have hd_h1:=hF.dom _ _ h1
 have hi:=hF.dom _ _ h1
 have hw:=hF.dom
 have hfl:=h4.flat
 have hr8:=h4.1
 have hrn:∀x∈a.Rows.l,x.l≠[]:=fun x hx=>(h4.2 x hx).1
 have hjn:l=[]\/j<p.n:=by
  rcases h2 with h|h
  ·exact .inl h
  ·exact .inr (hw _ _ h.2)
 have hS0:=WSt.new0 hw h1 h2 hi (.var sh94 a.cv)
 have hW0:=hS0.w
 have hbx:∀m,(wHp i j l m (p.new (.var sh94 a.cv))).t.get p.n=some (.var sh94 a.cv):=fun m=>by rw[wHp_ne (by omega) (hjn.imp id fun h=>by omega) (by rw[Hp.znew_n];omega),Hp.get_new_self]
 (have zx:=zA hbx (zA hrn h1);refine zq166 ?_;try exact zT)
 repeat'(apply zK.s<;>intro hc<;>(try simp only[zhd]at hc)<;>(try have hw:=X0a hc)<;>(refine zq166 ?_;try exact zT))
 all_goals(try clear zx)
 (show W C false noExt call (ZC.loop Z1f) _ _ _);refine Z0j C false noExt call Z1f _ _ _ (J166 i j l a p) (flat a.Rows.l).length ⟨0,p.n+1+1+1,rfl,by omega,by simp[put_at,K0d,Z0g],zev,by simp[put_at,K0d,catL_l],zev,zdw1,zdw1,zdw1,?_⟩ ?_
 ·rw[List.take_zero,List.flatMap_nil,List.append_nil]
  simp only[rowsHead,<- List.append_assoc]
  exact WSt.step2 hw zdw1 (WSt.step2 (J':=p.n+1+1) hw zdw1 (WSt.step2 (J':=p.n+1) hw zdw1 hS0))
 rintro n ρ q ⟨k,J,rfl,hk,e0,e24,e25,e26,hJq,hiq,hpq,hS⟩
 have hlk:(((flat a.Rows.l).take k).flatMap cellBits).length<=1600:=by
  have:=X1g ((flat a.Rows.l).take k)
  rw[List.length_take]at this;omega
 have hrh:=Q0s a
 by_cases hlt:(k:Int)<(flat a.Rows.l).length
 ·have hS1:=hS.newset hw hJq (.var sh110 V0a.zero.cv) (.var sh110 (nth (flat a.Rows.l) k).cv)
  have g2:=hS1.g
  have hW:=hS1.w
  generalize hcc:nth (flat a.Rows.l) k=c at hS1 g2 hW
  have hft:=Z0o cellBits (flat a.Rows.l) (k:=k) (by omega)
  rw[hcc]at hft
  cases hr:c.Real with
  |true=>
   have hcb:cellBits c=bitsOf (flagI true) 1++inBits c.In:=by simp[cellBits,hr]
   (have zx:=zA e0 (zA e24 (zA e25 (zA e26 (zA hlt (zA g2 (zA hcc (zA hr h1)))))));refine zq166 ?_;try exact zT)
   repeat'(apply zK.s<;>intro hc<;>(try simp only[zhd]at hc)<;>(try have hw:=X0a hc)<;>(refine zq166 ?_;try exact zT))
   all_goals(try clear zx)
   refine⟨(flat a.Rows.l).length-(k+1),by omega,k+1,q.n+1+1,rfl,by omega,zev,zev,zev,zev,zdw1,zdw1,zdw1,?_⟩
   rw[hft,hcb,<- List.append_assoc,<- List.append_assoc]
   exact WSt.step2 hw zdw1 (WSt.step2 (J':=q.n+1) hw zdw1 hS1)
  |false=>
   have hcb:cellBits c=bitsOf (flagI false) 1:=by simp[cellBits,hr]
   (have zx:=zA e0 (zA e24 (zA e25 (zA e26 (zA hlt (zA g2 (zA hcc (zA hr h1)))))));refine zq166 ?_;try exact zT)
   repeat'(apply zK.s<;>intro hc<;>(try simp only[zhd]at hc)<;>(try have hw:=X0a hc)<;>(refine zq166 ?_;try exact zT))
   all_goals(try clear zx)
   refine⟨(flat a.Rows.l).length-(k+1),by omega,k+1,q.n+1,rfl,by omega,zev,zev,zev,zev,zdw1,zdw1,zdw1,?_⟩
   rw[hft,hcb,<- List.append_assoc]
   exact WSt.step2 hw zdw1 hS1
 ·have hkk:k=(flat a.Rows.l).length:=by omega
  rw[hkk,List.take_length]at hS
  (have zx:=zA e0 (zA e24 (zA e25 (zA e26 (zA hlt h1))));refine zq166 ?_;try exact zT)
  repeat'(apply zK.s<;>intro hc<;>(try simp only[zhd]at hc)<;>(try have hw:=X0a hc)<;>(refine zq166 ?_;try exact zT))
  all_goals(try clear zx)
  have hbb:l++rowsHead a++(flat a.Rows.l).flatMap cellBits=l++rowsBits a:=by simp only[rowsBits,List.append_assoc]
  rw[hbb]at hS
  exact hS.fin hF h1 h2 (fun e=>by have:=congrArg List.length e;simp only[rowsBits,List.length_append,List.length_nil]at this;omega) (Z0m _ _)
def packSm(a:Q0a): Prop:=a.Inputs.l.length<=1000/\rowsSm a
noncomputable def q108(a:Q0a)(p:Hp): Hp:=(p.new (.var sh94 a.cv)).new (W1 0 [])
theorem q108_n(a:Q0a)(p:Hp): (q108 a p).n=p.n+1+1:=rfl
theorem q108_dom{a:Q0a}{p:Hp}(h:∀k o,p.t.get k=some o->k<p.n): ∀k o,(q108 a p).t.get k=some o->k<(q108 a p).n:=fun k o hk=>by
 rw[q108_n]
 by_cases h1:k=p.n+1
 ·omega
 ·by_cases h2:k=p.n
  ·omega
  ·rw[q108,Hp.get_new_ne _ _ (by rw[Hp.znew_n];omega),Hp.get_new_ne _ _ h2]at hk
   have:=h _ _ hk
   omega
theorem q108_le{a:Q0a}{p:Hp}(h:∀k o,p.t.get k=some o->k<p.n): HpLe p (q108 a p):=fun k o hk=>by
 have:=h _ _ hk
 rw[q108,Hp.get_new_ne _ _ (by rw[Hp.znew_n];omega),Hp.get_new_ne _ _ (by omega)];exact hk
def K108(a:Q0a)(p:Hp)(ρ:Env)(q:Hp): Prop:=
 ρ 3=.ptr (p.n+1) []/\∃J,WSt (p.n+1) 0 [] (q108 a p) J (packBits a) q
def J108(a:Q0a)(p:Hp)(n:Nat)(ρ:Env)(q:Hp): Prop:=
 ∃k J:Nat,n=a.Inputs.l.length-k/\k<=a.Inputs.l.length/\ρ 3=.ptr (p.n+1) []/\ρ 56=a.Inputs.cv Y0a.cv/\ρ 57=I a.Inputs.l.length/\ρ 58=I k/\J<q.n/\WSt (p.n+1) 0 [] (q108 a p) J (packHead a++inputsHead a++(a.Inputs.l.take k).flatMap inBits) q
theorem Z00(a:Q0a): packBits a≠[]:=fun e=>by
 have:=congrArg List.length e
 rw[packBits,List.length_append,Y0h,List.length_nil]at this
 omega
theorem ins_len(l:List Y0a): (l.flatMap inBits).length=24*l.length:=Z13 inBits 24 l fun x _=>Y0q x
theorem V0r{a:Q0a}(h:packSm a): (packBits a).length<=100000:=by
 have h1:=h.1
 have h2:=h.2.flat
 have h3:=X1g (flat a.Rows.l)
 unfold packBits
 rw[List.length_append,Y0h]
 split
 ·rw[List.length_append,V0o,ins_len];omega
 ·split
  ·rw[rowsBits,List.length_append,Q0s];omega
  ·split
   ·simp[Q0e]
   ·simp
def R108: Rel:=fun args p r=>∃(a:Q0a),args=[a.cv]/\(packSm a)/\r=.ret (Lst.cv Y8 (partB (packB (packBits a)))) p
theorem t108{T:XCall}(h:Has T 108 R108)(a:Q0a){p:Hp}(h1:packSm a): T 108 [a.cv] p=.ret (Lst.cv Y8 (partB (packB (packBits a)))) p:=h _ _ _ ⟨a,rfl,h1,rfl⟩
theorem zdis108{P:Prop}(h:P:=by first|exact zdis|(exact zdw1)|(exact zdw)|(exact W2_nil _ _ _)|(refine W2_in ?_ ?_<;>exact zdw)|(simp only[Hp.bump_n,Hp.znew_n,Hp.zset_n,List.length_nil,List.length_cons,List.length_append,List.length_map,Q0e];(first|done|omega))|(simp (disch:=first|exact zd1|(simp only[Hp.bump_n,Hp.znew_n,Hp.zset_n,List.length_nil,List.length_cons,List.length_append,List.length_map,Q0e];(first|done|omega))) only[zheap,zx];(first|done|rfl))|fail): P:=h
theorem zq108{A B:Prop}(k:B)(h:A=B:=by have zy:=zA @zw108<|zA @rs108<|zA @tt3<|zA @tt4<|zA @tt25<|zA @tt36<|zA @tt91<|zA @tt94<|zA ti3.eq_1<|zA ti4.eq_1<|zA ti25.eq_1<|zA ti36.eq_1<|zA ti91.eq_1<|zA ti94.eq_1<|zA @t_88<|zA @t_89<|zA @t_91<|zA @t_164<|zA @t_165<|zA @t_166<|zA @K0e<|zA @Z0e<|zA @zsl91<|zA @Q07<|zA @wHp_i<|zA @wHp_eq<|zA @wHp_n0<|zA @wHp_nj<|zA @wHp_n<|@h1;have zd:=@zdis108;exact zQd): A:=h▸k
theorem c108: Con C 108 R108:=by
 refine V0e C ?_ ?_ ?_
 ·rintro args p r r' ⟨a,h,h1,e⟩ ⟨a',h',h1',e'⟩
  subst e;subst e';simp_all[Q0a.inj_iff,Y0a.inj_iff,V0p]
 ·rintro args p r ⟨a,h,h1,rfl⟩;exact zr1
 rintro args p r ⟨a,rfl,h1,rfl⟩
 refine zW C false [(88,R88),(89,R89),(91,R91),(164,R164),(165,R165),(166,R166)] ⟨c88,c89,c91,c164,c165,c166,zT⟩ rfl xf108 zc108_ok fun call zh hF=>?_
 have t_88:=@t88 _ zh.1
 have t_89:=@t89 _ zh.2.1
 have t_91:=@t91 _ zh.2.2.1
 have t_164:=@t164 _ zh.2.2.2.1
 have t_165:=@t165 _ zh.2.2.2.2.1
 have t_166:=@t166 _ zh.2.2.2.2.2.1
 clear zh
 have hI:=h1.1
 have hR:=h1.2
 have hpl:=V0r h1
 have hpn:=Z00 a
 have hw:=hF.dom
 have hqd:=q108_dom (a:=a) hw
 have main:∀ρ q,K108 a p ρ q->W C false noExt call (ZC.seq X08 ZC.ret) ρ q (endQ C (xfOf Try.f108).rs fun r'=>ShrR p r' (.ret (Lst.cv Y8 (partB (packB (packBits a)))) p)):=by
  rintro ρ q ⟨e3,J,hS⟩
  have g1:=hS.g
  have g2:=hS.w
  have hJ:(q108 a p).n<=J:=by
   rcases hS.hJ with h|h
   ·exact absurd h.1 hpn
   ·exact h.1
  rw[q108_n]at hJ
  (have zx:=zA e3 (zA g1 g2);refine zq108 ?_;try exact zT)
  repeat'(apply zK.s<;>intro hc<;>(try simp only[zhd]at hc)<;>(try have hw:=X0a hc)<;>(refine zq108 ?_;try exact zT))
  all_goals(try clear zx)
  exact V0c hF (fun k o h=>by have hd:=hw k o h;rw[Hp.get_set_ne _ _ _ (by omega)];exact hS.hle k o (by omega) (.inl rfl) (q108_le hw k o h)) (Y0d (X0c (by intro jj;simp[CV.has,CV.hasL,Lst.cv,partB,V0i X0r])))
 have hS0:WSt (p.n+1) 0 [] (q108 a p) 0 [] (q108 a p):=WSt.start (by rw[q108];exact Hp.get_new_self _ _) (W2_nil _ _ _) (by rw[q108_n];omega)
 show W C false noExt call (ZC.seq zn108_1 (ZC.seq zn108_3 (ZC.seq zn108_5 (ZC.seq zn108_7 (ZC.seq zn108_9 (ZC.seq Q16 (ZC.seq V13 (ZC.seq Z15 (ZC.seq (ZC.seq Q13 (ZC.block 0 (ZC.seq X11 (ZC.cond (Tm 37) (ZC.seq Z1z (ZC.seq X10 (ZC.seq Z10 (ZC.seq V14 (ZC.block 1 (ZC.loop Y08)))))) (ZC.seq K13 (ZC.cond (Tm 66) X17 (ZC.seq V1z (ZC.cond (Tm 71) (ZC.seq K14 Y11) ZC.skip)))))))) (ZC.seq X08 ZC.ret)))))))))) _ _ _
 obtain⟨R,hRR⟩:∃R,R=(ZC.seq X08 ZC.ret):=⟨_,rfl⟩
 rw[<- hRR]at main ⊢
 by_cases h2:a.Kind=2
 ·(have zx:=h2;refine zq108 ?_;try exact zT)
  repeat'(apply zK.s<;>intro hc<;>(try simp only[zhd]at hc)<;>(try have hw:=X0a hc)<;>(refine zq108 ?_;try exact zT))
  all_goals(try clear zx)
  (show W C false noExt call (ZC.loop Y08) _ _ _);refine Z0j C false noExt call Y08 _ _ _ (J108 a p) a.Inputs.l.length ⟨0,p.n+1+1+1+1+1+1+1+1+1+1,rfl,by omega,zev,zev,zev,zev,zdw1,?_⟩ ?_
  ·rw[List.take_zero,List.flatMap_nil,List.append_nil]
   simp only[packHead,inputsHead,h2,<- List.append_assoc]
   iterate 9 refine WSt.step2 hqd zdw1 ?_
   exact hS0
  rintro n ρ q ⟨k,J,rfl,hk,e3,e56,e57,e58,hJq,hS⟩
  have hpb:packBits a=packHead a++inputsHead a++a.Inputs.l.flatMap inBits:=by rw[packBits,if_pos h2,List.append_assoc]
  have hlk:((a.Inputs.l.take k).flatMap inBits).length<=24000:=by rw[ins_len,List.length_take];omega
  have hhl:=Y0h a
  have hil:=V0o a
  have hn:=hS.hn
  rw[q108_n]at hn
  by_cases hlt:(k:Int)<a.Inputs.l.length
  ·have hS1:=hS.newset hqd hJq (.var sh36 Y0a.zero.cv) (.var sh36 (nth a.Inputs.l k).cv)
   have g1:=hS1.g
   have g2:=hS1.w
   generalize hcc:nth a.Inputs.l k=c at hS1 g1 g2
   have hft:=Z0o inBits a.Inputs.l (k:=k) (by omega)
   rw[hcc]at hft
   (have zx:=zA e3 (zA e56 (zA e57 (zA e58 (zA hlt (zA g1 (zA g2 hcc))))));refine zq108 ?_;try exact zT)
   repeat'(apply zK.s<;>intro hc<;>(try simp only[zhd]at hc)<;>(try have hw:=X0a hc)<;>(refine zq108 ?_;try exact zT))
   all_goals(try clear zx)
   refine⟨a.Inputs.l.length-(k+1),by omega,k+1,q.n+1,rfl,by omega,zev,zev,zev,zev,zdw1,?_⟩
   rw[hft,<- List.append_assoc]
   exact WSt.step2 hqd zdw1 hS1
  ·have hkk:k=a.Inputs.l.length:=by omega
   rw[hkk,List.take_length,<- hpb]at hS
   (have zx:=zA e3 (zA e56 (zA e57 (zA e58 hlt)));refine zq108 ?_;try exact zT)
   repeat'(apply zK.s<;>intro hc<;>(try simp only[zhd]at hc)<;>(try have hw:=X0a hc)<;>(refine zq108 ?_;try exact zT))
   all_goals(try clear zx)
   exact main _ _ ⟨zev,J,hS⟩
 ·by_cases h3:a.Kind=3
  ·have hpb:packBits a=packHead a++rowsBits a:=by rw[packBits,if_neg h2,if_pos h3]
   (have zx:=zA h2 h3;refine zq108 ?_;try exact zT)
   repeat'(apply zK.s<;>intro hc<;>(try simp only[zhd]at hc)<;>(try have hw:=X0a hc)<;>(refine zq108 ?_;try exact zT))
   all_goals(try clear zx)
   refine main _ _ ⟨zev,p.n+1+1+1+1+1+1+1+1,?_⟩
   rw[hpb]
   simp only[packHead,h3,<- List.append_assoc]
   iterate 7 refine WSt.step2 hqd zdw1 ?_
   exact hS0
  ·by_cases h4:a.Kind=4
   ·have hpb:packBits a=packHead a++(bitsOf a.Frame 10++bitsOf a.Mark 62):=by rw[packBits,if_neg h2,if_neg h3,if_pos h4]
    (have zx:=zA h2 (zA h3 h4);refine zq108 ?_;try exact zT)
    repeat'(apply zK.s<;>intro hc<;>(try simp only[zhd]at hc)<;>(try have hw:=X0a hc)<;>(refine zq108 ?_;try exact zT))
    all_goals(try clear zx)
    refine main _ _ ⟨zev,p.n+1+1+1+1+1+1+1+1+1,?_⟩
    rw[hpb]
    simp only[packHead,h4,<- List.append_assoc]
    iterate 8 refine WSt.step2 hqd zdw1 ?_
    exact hS0
   ·have hpb:packBits a=packHead a:=by rw[packBits,if_neg h2,if_neg h3,if_neg h4,List.append_nil]
    (have zx:=zA h2 (zA h3 h4);refine zq108 ?_;try exact zT)
    repeat'(apply zK.s<;>intro hc<;>(try simp only[zhd]at hc)<;>(try have hw:=X0a hc)<;>(refine zq108 ?_;try exact zT))
    all_goals(try clear zx)
    refine main _ _ ⟨zev,p.n+1+1+1+1+1+1+1,?_⟩
    rw[hpb]
    simp only[packHead,<- List.append_assoc]
    iterate 6 refine WSt.step2 hqd zdw1 ?_
    exact hS0
end Go.Proofs.Ytpchcfkebljopaa
end
section
namespace Go.Proofs.Ytpchcfkebljopaa
open Go.Cl Go Go.RowKit
def four(n:Int): List Int:=[n/16777216 % 256,n/65536 % 256,n/256 % 256,n % 256]
def closeB(key:Int)(l:List Int): List Int:=l++four (sumB key l)
def layP(key:Int)(a:Q0a): List Int:=closeB key (packB (packBits a))
theorem K0k{a:Q0a}(h:packRight a=true): headRight a=true/\sameP (ownP a) a=true/\within a.Got 0 600=true/\within a.First 0 600=true/\within a.Frame 0 600=true/\within a.Mark 0 4611686018427387903=true:=by
 simp only[packRight,Bool.and_eq_true]at h
 exact⟨h.1.1.1.1.1.1,h.1.1.1.1.1.2,h.1.1.1.1.2,h.1.1.1.2,h.1.1.2,h.1.2⟩
theorem Z0s{a b:Q0a}(h:sameP a b=true): a.Kind=b.Kind/\a.Slot=b.Slot/\a.Seq=b.Seq/\a.Last=b.Last/\a.Any=b.Any/\a.Acks=b.Acks/\a.Got=b.Got/\a.First=b.First/\a.Inputs.l=b.Inputs.l/\a.Players=b.Players/\rowsL a.Rows=rowsL b.Rows/\a.Frame=b.Frame/\a.Mark=b.Mark:=by
 simp only[sameP,Bool.and_eq_true,decide_eq_true_eq]at h
 obtain⟨⟨⟨⟨⟨⟨⟨⟨⟨⟨⟨⟨h1,h2⟩,h3⟩,h4⟩,h5⟩,h6⟩,h7⟩,h8⟩,h9⟩,h10⟩,h11⟩,h12⟩,h13⟩:=h
 exact⟨h1,h2,h3,h4,h5,h6,h7,h8,h9,h10,h11,h12,h13⟩
theorem rowsL_nil{r:Lst (Lst V0a)}(h:rowsL r=[]): r.l=[]:=by
 have:=congrArg List.length h
 rw[rowsL,List.length_map]at this
 exact List.length_eq_zero_iff.1 this
theorem X1a{a:Q0a}(h:packRight a=true)(h3:¬a.Kind=3): a.Rows.l=[]/\a.Players=0:=by
 obtain⟨_,hs,_⟩:=K0k h
 obtain⟨_,_,_,_,_,_,_,_,_,hp,hr,_⟩:=Z0s hs
 have e:(ownP a).Rows=Q0a.zero.Rows/\(ownP a).Players=0:=by
  simp only[ownP,if_neg h3]
  split
  ·exact⟨rfl,rfl⟩
  ·split<;>exact⟨rfl,rfl⟩
 rw[e.1]at hr
 rw[e.2]at hp
 exact⟨rowsL_nil hr.symm,hp.symm⟩
theorem right_ins{a:Q0a}(h:packRight a=true)(h2:¬a.Kind=2): a.Inputs.l=[]/\a.Got=0:=by
 obtain⟨_,hs,_⟩:=K0k h
 obtain⟨_,_,_,_,_,_,hg,_,hi,_⟩:=Z0s hs
 have e:(ownP a).Inputs=Q0a.zero.Inputs/\(ownP a).Got=0:=by
  simp only[ownP,if_neg h2]
  split
  ·exact⟨rfl,rfl⟩
  ·split<;>exact⟨rfl,rfl⟩
 rw[e.1]at hi
 rw[e.2]at hg
 exact⟨hi.symm,hg.symm⟩
theorem right_first{a:Q0a}(h:packRight a=true)(h2:¬a.Kind=2)(h3:¬a.Kind=3): a.First=0:=by
 obtain⟨_,hs,_⟩:=K0k h
 obtain⟨_,_,_,_,_,_,_,hg,_⟩:=Z0s hs
 have e:(ownP a).First=0:=by
  simp only[ownP,if_neg h2,if_neg h3]
  split<;>rfl
 rw[e]at hg
 exact hg.symm
theorem Q01{a:Q0a}(h:packRight a=true)(h4:¬a.Kind=4): a.Frame=0/\a.Mark=0:=by
 obtain⟨_,hs,_⟩:=K0k h
 obtain⟨_,_,_,_,_,_,_,_,_,_,_,hf,hm⟩:=Z0s hs
 have e:(ownP a).Frame=0/\(ownP a).Mark=0:=by
  simp only[ownP,if_neg h4]
  split
  ·exact⟨rfl,rfl⟩
  ·split<;>exact⟨rfl,rfl⟩
 rw[e.1]at hf
 rw[e.2]at hm
 exact⟨hf.symm,hm.symm⟩
theorem right_2{a:Q0a}(h:packRight a=true)(h2:a.Kind=2): a.Inputs.l.length<=16/\a.Inputs.l.all inRight=true:=by
 simp only[packRight,Bool.and_eq_true,h2,if_true,decide_eq_true_eq]at h
 exact h.2
theorem right_3{a:Q0a}(h:packRight a=true)(h3:a.Kind=3): rowsRight a.Rows.l a.Players=true:=by
 simp only[packRight,Bool.and_eq_true,h3]at h
 exact h.2
theorem Q0r{l:List (Lst V0a)}{n:Int}(h:rowsRight l n=true): l.length<=8/\(1<=n/\n<=8)/\∀x∈l,(x.l.length:Int)=n/\x.l.all cellRight=true:=by
 simp only[rowsRight,Bool.and_eq_true,decide_eq_true_eq,within,List.all_eq_true,rowRight]at h
 exact⟨h.1.2,h.2,fun x hx=>⟨(h.1.1 x hx).1,List.all_eq_true.2 (h.1.1 x hx).2⟩⟩
end Go.Proofs.Ytpchcfkebljopaa
end
section
namespace Go.Proofs.Ytpchcfkebljopaa
open Go.Cl Go Go.RowKit
set_option maxRecDepth 100000
set_option linter.constructorNameAsVariable false
theorem shr_own68{args:List CV}{p q:Hp}{J:Nat}{l:List Int}(hF:Fine args p)(hle:HpLe p q)(hJ:p.n<=J)(hT:q.t.get J=some (.tail l.length)): ShrR p (.ret (Lst.cv Y8 ⟨.own J,l,nofun⟩) q) (.ret (Lst.cv Y8 ⟨.own p.n,l,nofun⟩) (p.new (.tail l.length))):=
 V07 hF (q0:=p) (J:=J) rfl (fun k o h=>⟨hF.dom k o h,by have:=hF.dom k o h;omega,.inl ⟨h,hle k o h⟩⟩) ⟨_,hT,rfl⟩ (by
  simp only[Lst.cv,CV.weak]
  exact⟨by simp[Tail.weak,ren],CV.weakL_refl _ fun j hj=>(V0i (f:=Y8) (fun x j=>X0r x j) l j hj).elim⟩)
def R159o: Rel:=fun args p r=>∃(s:Lst Int),args=[s.cv Y8]/\(s.l≠[])/\(s.tl≠.view)/\(s.l.length<=1000000)/\r=.ret (Lst.cv Y8 ⟨.own p.n,s.l,nofun⟩) (p.new (.tail s.l.length))
theorem t159o{T:XCall}(h:Has T 159 R159o)(s:Lst Int){p:Hp}(h0:s.l≠[])(h1:s.tl≠.view)(h2:s.l.length<=1000000): T 159 [s.cv Y8] p=.ret (Lst.cv Y8 ⟨.own p.n,s.l,nofun⟩) (p.new (.tail s.l.length)):=h _ _ _ ⟨s,rfl,h0,h1,h2,rfl⟩
theorem zq159o{A B:Prop}(k:B)(h:A=B:=by have zy:=zA @zw159<|zA @rs159<|zA @tt68<|zA ti68.eq_1<|zA @zsl68<|zA @h0<|zA @h1<|@h2;exact zQ): A:=h▸k
theorem c159o: Con C 159 R159o:=by
 refine V0e C ?_ ?_ ?_
 ·rintro args p r r' ⟨s,h,h0,h1,h2,e⟩ ⟨s',h',h0',h1',h2',e'⟩
  subst e;subst e';simp_all[Q0g]
 ·rintro args p r ⟨s,h,h0,h1,h2,rfl⟩;exact zr1
 rintro args p r ⟨s,rfl,h0,h1,h2,rfl⟩
 refine zW C false [] zT rfl xf159 zc159_ok fun call zh hF=>?_
 clear zh
 obtain⟨tl,l,o⟩:=s
 simp only at h0 h2 h1
 cases tl with
 |view=>exact absurd rfl h1
 |nil=>exact absurd (o rfl) h0
 |_=>
  cases l with
  |nil=>exact absurd rfl h0
  |cons x l=>
   simp only[List.length_cons]at h2
   (have zx:=zT;refine zq159o ?_;try exact zT)
   repeat'(apply zK.s<;>intro hc<;>(try simp only[zhd]at hc)<;>(try have hw:=X0a hc)<;>(refine zq159o ?_;try exact zT))
   all_goals(try clear zx)
   rw[Nat.zero_add]
   exact shr_own68 hF zle (Nat.le_refl _) (Hp.get_new_self _ _)
theorem u8_shr(S:Int)(k:Nat)(hk:k<=64): IntKind.u8.wrap (S.fdiv (2^min k IntKind.i64.bits))=S/2^k % 256:=by
 rw[show min k IntKind.i64.bits=k from Nat.min_eq_left hk,Int.fdiv_eq_ediv_of_nonneg _ (Int.le_of_lt (Int.pow_pos (by omega)))]
 rfl
theorem four_e(S:Int): [IntKind.u8.wrap (S.fdiv (2^min 24 IntKind.i64.bits)),IntKind.u8.wrap (S.fdiv (2^min 16 IntKind.i64.bits)),IntKind.u8.wrap (S.fdiv (2^min 8 IntKind.i64.bits)),IntKind.u8.wrap S]=four S:=by
 rw[u8_shr _ _ (by omega),u8_shr _ _ (by omega),u8_shr _ _ (by omega)]
 rfl
theorem V05{α:Type}{f:α->CV}(hf:∀x j,¬(f x).has j)(J:Nat)(l:List α)(k:Nat): CV.weak (fun k=>k) k (Lst.cv f ⟨.own J,l,nofun⟩) (Lst.cv f ⟨.part,l,nofun⟩):=by
 simp only[Lst.cv,CV.weak,Tail.weak,true_and]
 exact CV.weakL_refl _ fun j hj=>(V0i hf l j hj).elim
def R107: Rel:=fun args p r=>∃(key:Int) (s:Lst Int),args=[I key,s.cv Y8]/\(-9223372036854775808<=key/\key<=9223372036854775807)/\(s.l≠[])/\(s.tl≠.view)/\(s.l.length<=1000000)/\(∀x∈s.l,0<=x/\x<=255)/\r=.ret (Lst.cv Y8 (partB (closeB key s.l))) p
theorem t107{T:XCall}(h:Has T 107 R107)(key:Int)(s:Lst Int){p:Hp}(hk:-9223372036854775808<=key/\key<=9223372036854775807)(h0:s.l≠[])(h1:s.tl≠.view)(h2:s.l.length<=1000000)(h5:∀x∈s.l,0<=x/\x<=255): T 107 [I key,s.cv Y8] p=.ret (Lst.cv Y8 (partB (closeB key s.l))) p:=h _ _ _ ⟨key,s,rfl,hk,h0,h1,h2,h5,rfl⟩
theorem zq107{A B:Prop}(k:B)(h:A=B:=by have zy:=zA @zw107<|zA @rs107<|zA @tt3<|zA @tt5<|zA @tt68<|zA @tt178<|zA ti3.eq_1<|zA ti5.eq_1<|zA ti68.eq_1<|zA ti178.eq_1<|zA @t_159o<|zA @t_163<|zA @zsl68<|zA @hk<|zA @h0<|zA @h1<|zA @h2<|@h5;exact zQ): A:=h▸k
theorem c107: Con C 107 R107:=by
 refine V0e C ?_ ?_ ?_
 ·rintro args p r r' ⟨key,s,h,hk,h0,h1,h2,h5,e⟩ ⟨key',s',h',hk',h0',h1',h2',h5',e'⟩
  subst e;subst e';simp_all[Q0g,Q0g]
 ·rintro args p r ⟨key,s,h,hk,h0,h1,h2,h5,rfl⟩;exact zr1
 rintro args p r ⟨key,s,rfl,hk,h0,h1,h2,h5,rfl⟩
 refine zW C false [(159,R159o),(163,R163)] ⟨c159o,c163,zT⟩ rfl xf107 zc107_ok fun call zh hF=>?_
 have t_159o:=@t159o _ zh.1
 have t_163:=@t163 _ zh.2.1
 clear zh
 have hr:=V0m key s.l
 generalize hS:sumB key s.l=S at hr
 have hl0:0<s.l.length:=List.length_pos_iff.2 h0
 (have zx:=hS;refine zq107 ?_;try exact zT)
 repeat'(apply zK.s<;>intro hc<;>(try simp only[zhd]at hc)<;>(try have hw:=X0a hc)<;>(refine zq107 ?_;try exact zT))
 all_goals(try clear zx)
 ·rw[four_e]
  have hcl:s.l++four S=closeB key s.l:=by rw[closeB,hS]
  simp only[hcl]
  exact V0c hF (fun k o h=>by have hd:=hF.dom k o h;simp (disch:=first|exact zdl|fail) only[zheap];exact h) (V05 X0r _ _ _)
end Go.Proofs.Ytpchcfkebljopaa
end
section
namespace Go.Proofs.Ytpchcfkebljopaa
open Go.Cl Go Go.RowKit
set_option maxRecDepth 100000
def zn45_1:=ZC.reg [zu 1 (.box 90 (Tm 0)),zv 2 (.alloc 94)]
def zn45_3:=ZC.draw 15 [(13,.alloc 94)] [zdd 0 6 (zfa 90 1 0) false [] [] false,zdd 1 7 (zld 3 6) false [] [] false,zdd 2 8 (zcf 37 [Tm 7,Kn 6] [3,3]) false [] [] true,zdd 3 9 (.binOp .add 3 (Kn 1) (Tm 8) 3) false [] [] false,zdd 4 10 (zfa 90 1 1) false [2] [] false,zdd 5 11 (zld 3 10) false [2] [] false,zdd 6 12 (zcf 37 [Tm 11,Kn 8] [3,3]) false [] [] true,zdd 7 13 (zfa 90 1 2) false [2,6] [] false,zdd 8 14 (zld 3 13) false [2,6] [] false,zdd 9 15 (zcf 37 [Tm 14,Kn 65536] [3,3]) false [] [] true,zdd 10 16 (zfa 90 1 10) false [2,6,9] [] false,zdd 11 17 (zld 4 16) false [2,6,9] [] false,⟨12,some 18,.build 94 ⟨[(0,.tmp 9),(1,.tmp 12),(2,.tmp 15),(4,.tmp 17)]⟩,none,false,[],[],false⟩,zdd 13 3 (.alloc 94) true [2,6,9] [] false,zd0 14 (.store 94 (Tm 3) (Tm 18)) true [] [] false]
def zn45_6:=ZC.reg [zu 19 (zfa 90 1 10),zv 20 (zld 4 19)]
def zn45_9:=ZC.reg [zu 21 (zfa 90 1 3),zu 22 (zld 3 21),zu 23 (zcf 37 [Tm 22,Kn 65536] [3,3]),zu 24 (zfa 94 3 3),zv0 (.store 3 (Tm 24) (Tm 23))]
def zn45_10:=ZC.reg [zu 25 (zfa 90 1 11),zu 26 (zld 25 25),zu 27 (zfa 94 3 5),zv0 (.store 25 (Tm 27) (Tm 26))]
def Y1j:=ZC.reg [zu 28 (zfa 94 3 0),zv 29 (zld 3 28)]
def Q1j:=ZC.reg [zu 31 (.binOp .eql 3 (Tm 29) (Kn 2) 3),zv 30 (zas 31)]
def Y1s:=ZC.reg [zu 32 (zfa 90 1 4),zu 33 (zld 3 32),zu 34 (zcf 37 [Tm 33,Kn 40] [3,3]),zu 35 (zfa 94 3 6),zv0 (.store 3 (Tm 35) (Tm 34))]
def V1k:=ZC.reg [zu 36 (zfa 90 1 5),zu 37 (zld 3 36),zu 38 (zcf 37 [Tm 37,Kn 40] [3,3]),zu 39 (zfa 94 3 7),zv0 (.store 3 (Tm 39) (Tm 38))]
def Y1m:=ZC.reg [zv 4 (.assign (Kn 0))]
def zn45_28:=ZC.reg [zu 40 (zmv 4),zu 41 (zfa 90 1 12),zu 42 (zld 24 41),zu 43 (zcb .len [Tm 42] [24]),zu 44 (.binOp .lss 3 (Tm 40) (Tm 43) 3),zu 45 (zmv 44),zug 46 (zmv 4) 45 true false,zug 47 (.binOp .lss 3 (Tm 46) (Kn 16) 3) 45 true false,zv 48 (.pick (Tm 45) (Tm 47) (.const (.bool false)))]
def zn45_32:=ZC.draw 18 [] [zdd 0 51 (zfa 94 3 8) false [] [13] false,zdd 1 52 (zld 91 51) false [] [13] false,zdd 2 53 (zfa 90 1 12) false [] [] false,zdd 3 54 (zld 24 53) false [] [] false,zdd 4 55 (zmv 4) false [] [] false,zdd 5 56 (zia 24 54 55) false [] [] false,zdd 6 57 (zld 3 56) false [] [] false,zdd 7 58 (zfa 90 1 12) false [] [] false,zdd 8 59 (zld 24 58) false [] [] false,zdd 9 60 (zmv 4) true [] [] false,zdd 10 61 (zia 24 59 60) true [] [] false,zdd 11 62 (zld 3 61) true [] [] false,zdd 12 63 (.binOp .quo 3 (Tm 62) (Kn 3) 3) true [] [] false,zdd 13 64 (zcf 69 [Tm 57,Tm 63] [3,3]) true [] [] false,⟨14,some 65,.buildSlice 91 1 ⟨[(0,.tmp 64)]⟩,none,true,[],[],false⟩,zdd 15 66 (zcb .append [Tm 52,Tm 65] [91,91]) true [] [] false,zdd 16 67 (zfa 94 3 8) true [] [] false,zd0 17 (.store 91 (Tm 67) (Tm 66)) true [] [] false]
def zn45_33:=ZC.reg [zu 49 (zmv 4),zu 50 (.binOp .add 3 (Tm 49) (Kn 1) 3),zv 4 (zas 50)]
def X04:=ZC.seq (ZC.seq zn45_28 (ZC.cond (Tm 48) ZC.skip (ZC.exit 1))) (ZC.seq (ZC.block 2 zn45_32) zn45_33)
def X1l:=ZC.reg [zu 69 (.binOp .eql 3 (Tm 29) (Kn 3) 3),zv 68 (zas 69)]
def V1n:=ZC.reg [zu 70 (zfa 90 1 8),zu 71 (zld 3 70),zu 72 (zcf 37 [Tm 71,Kn 8] [3,3]),zu 73 (.binOp .add 3 (Kn 1) (Tm 72) 3),zu 74 (zfa 94 3 9),zv0 (.store 3 (Tm 74) (Tm 73))]
def V1q:=ZC.reg [zu 75 (zfa 90 1 5),zu 76 (zld 3 75),zu 77 (zcf 37 [Tm 76,Kn 40] [3,3]),zu 78 (zfa 94 3 7),zv0 (.store 3 (Tm 78) (Tm 77))]
def Z1h:=ZC.reg [zv 5 (.assign (Kn 0))]
def zn45_47:=ZC.reg [zu 79 (zmv 5),zu 80 (zfa 90 1 13),zu 81 (zld 58 80),zu 82 (zcb .len [Tm 81] [58]),zu 83 (.binOp .lss 3 (Tm 79) (Tm 82) 3),zu 84 (zmv 83),zug 85 (zmv 5) 84 true false,zug 86 (.binOp .lss 3 (Tm 85) (Kn 8) 3) 84 true false,zv 87 (.pick (Tm 84) (Tm 86) (.const (.bool false)))]
def zn45_51:=ZC.draw 14 [] [zdd 0 90 (zfa 94 3 10) false [] [9] false,zdd 1 91 (zld 92 90) false [] [9] false,zdd 2 92 (zfa 94 3 9) false [] [] false,zdd 3 93 (zld 3 92) false [] [] false,zdd 4 94 (zfa 90 1 13) false [] [] false,zdd 5 95 (zld 58 94) false [] [] false,zdd 6 96 (zmv 5) true [] [] false,zdd 7 97 (zia 58 95 96) true [] [] false,zdd 8 98 (zld 24 97) true [] [] false,zdd 9 99 (zcf 65 [Tm 93,Tm 98] [3,24]) true [] [] false,⟨10,some 100,.buildSlice 92 1 ⟨[(0,.tmp 99)]⟩,none,true,[],[],false⟩,zdd 11 101 (zcb .append [Tm 91,Tm 100] [92,92]) true [] [] false,zdd 12 102 (zfa 94 3 10) true [] [] false,zd0 13 (.store 92 (Tm 102) (Tm 101)) true [] [] false]
def zn45_52:=ZC.reg [zu 88 (zmv 5),zu 89 (.binOp .add 3 (Tm 88) (Kn 1) 3),zv 5 (zas 89)]
def Z01:=ZC.seq (ZC.seq zn45_47 (ZC.cond (Tm 87) ZC.skip (ZC.exit 3))) (ZC.seq (ZC.block 4 zn45_51) zn45_52)
def X1k:=ZC.reg [zu 104 (.binOp .eql 3 (Tm 29) (Kn 4) 3),zv 103 (zas 104)]
def Y1r:=ZC.reg [zu 105 (zfa 90 1 6),zu 106 (zld 3 105),zu 107 (zcf 37 [Tm 106,Kn 60] [3,3]),zu 108 (zfa 94 3 11),zv0 (.store 3 (Tm 108) (Tm 107))]
def X1j:=ZC.reg [zu 109 (zfa 90 1 7),zu 110 (zld 3 109),zu 111 (zcf 37 [Tm 110,Kn 4611686018427387904] [3,3]),zu 112 (zfa 94 3 12),zv0 (.store 3 (Tm 112) (Tm 111))]
def V03:=ZC.reg [zu 113 (zfa 90 1 9),zu 114 (zld 3 113),zv 115 (zcf 37 [Tm 114,Kn 40] [3,3])]
def X00:=ZC.reg [zu 117 (.binOp .eql 3 (Tm 115) (Kn 30) 3),zv 116 (zas 117)]
def Z03:=ZC.reg [zu 118 (zfa 90 1 9),zu 119 (zld 3 118),zu 120 (.binOp .quo 3 (Tm 119) (Kn 40) 3),zu 121 (zcf 37 [Tm 120,Kn 10] [3,3]),zu 122 (.binOp .sub 3 (Tm 121) (Kn 1) 3),zu 123 (zfa 94 3 0),zv0 (.store 3 (Tm 123) (Tm 122))]
def Y00:=ZC.reg [zu 125 (.binOp .eql 3 (Tm 115) (Kn 31) 3),zv 124 (zas 125)]
def K04:=ZC.reg [zu 126 (zfa 90 1 2),zu 127 (zld 3 126),zu 128 (zfa 94 3 2),zv0 (.store 3 (Tm 128) (Tm 127))]
def K02:=ZC.reg [zu 130 (.binOp .eql 3 (Tm 115) (Kn 32) 3),zv 129 (zas 130)]
def Y02:=ZC.reg [zu 131 (zfa 90 1 4),zu 132 (zld 3 131),zu 133 (zfa 94 3 6),zv0 (.store 3 (Tm 133) (Tm 132))]
def K03:=ZC.reg [zu 135 (.binOp .eql 3 (Tm 115) (Kn 33) 3),zv 134 (zas 135)]
def Y04:=ZC.reg [zu 136 (zfa 90 1 5),zu 137 (zld 3 136),zu 138 (zfa 94 3 7),zv0 (.store 3 (Tm 138) (Tm 137))]
def Q04:=ZC.reg [zu 140 (.binOp .eql 3 (Tm 115) (Kn 34) 3),zv 139 (zas 140)]
def V04:=ZC.reg [zu 141 (zfa 90 1 6),zu 142 (zld 3 141),zu 143 (zfa 94 3 11),zv0 (.store 3 (Tm 143) (Tm 142))]
def K01:=ZC.reg [zu 145 (.binOp .eql 3 (Tm 115) (Kn 35) 3),zv 144 (zas 145)]
def V02:=ZC.reg [zu 146 (zfa 90 1 7),zu 147 (zld 3 146),zu 148 (zfa 94 3 12),zv0 (.store 3 (Tm 148) (Tm 147))]
def X03:=ZC.reg [zu 150 (.binOp .eql 3 (Tm 115) (Kn 36) 3),zv 149 (zas 150)]
def Q02:=ZC.reg [zu 151 (zfa 90 1 9),zu 152 (zld 3 151),zu 153 (.binOp .quo 3 (Tm 152) (Kn 40) 3),zu 154 (zcf 37 [Tm 153,Kn 12] [3,3]),zu 155 (zfa 94 3 9),zv0 (.store 3 (Tm 155) (Tm 154))]
def Y01:=ZC.reg [zu 157 (.binOp .eql 3 (Tm 115) (Kn 37) 3),zv 156 (zas 157)]
def X01:=ZC.reg [zu 158 (zfa 94 3 8),zu 159 (zld 91 158),zu 160 (zfa 90 1 4),zu 161 (zld 3 160),zu 162 (zfa 90 1 5),zu 163 (zld 3 162),⟨some 164,.build 36 ⟨[(0,.tmp 161),(1,.tmp 163)]⟩,none,false⟩,⟨some 165,.buildSlice 91 1 ⟨[(0,.tmp 164)]⟩,none,false⟩,zu 166 (zcb .append [Tm 159,Tm 165] [91,91]),zu 167 (zfa 94 3 8),zv0 (.store 91 (Tm 167) (Tm 166))]
def Y03:=ZC.reg [zu 169 (.binOp .eql 3 (Tm 115) (Kn 38) 3),zv 168 (zas 169)]
def Q03:=ZC.reg [zu 170 (zfa 90 1 3),zu 171 (zld 3 170),zu 172 (zfa 94 3 3),zv0 (.store 3 (Tm 172) (Tm 171))]
def K0w:=ZC.reg [zu 174 (.binOp .eql 3 (Tm 115) (Kn 39) 3),zv 173 (zas 174)]
def X0w:=ZC.reg [zu 175 (zfa 90 1 1),zu 176 (zld 3 175),zu 177 (zfa 94 3 1),zv0 (.store 3 (Tm 177) (Tm 176))]
def Y0v:=ZC.reg [zu 178 (zld 94 3),zv0 (.store 94 (Tm 2) (Tm 178))]
def zn45_0:=ZC.seq zn45_1 (ZC.seq zn45_3 (ZC.seq (ZC.seq zn45_6 (ZC.cond (Tm 20) (ZC.seq zn45_9 zn45_10) ZC.skip)) (ZC.seq (ZC.seq Y1j (ZC.block 0 (ZC.seq Q1j (ZC.cond (Tm 30) (ZC.seq Y1s (ZC.seq V1k (ZC.seq Y1m (ZC.block 1 (ZC.loop X04))))) (ZC.seq X1l (ZC.cond (Tm 68) (ZC.seq V1n (ZC.seq V1q (ZC.seq Z1h (ZC.block 3 (ZC.loop Z01))))) (ZC.seq X1k (ZC.cond (Tm 103) (ZC.seq Y1r X1j) ZC.skip)))))))) (ZC.seq (ZC.seq V03 (ZC.block 5 (ZC.seq X00 (ZC.cond (Tm 116) Z03 (ZC.seq Y00 (ZC.cond (Tm 124) K04 (ZC.seq K02 (ZC.cond (Tm 129) Y02 (ZC.seq K03 (ZC.cond (Tm 134) Y04 (ZC.seq Q04 (ZC.cond (Tm 139) V04 (ZC.seq K01 (ZC.cond (Tm 144) V02 (ZC.seq X03 (ZC.cond (Tm 149) Q02 (ZC.seq Y01 (ZC.cond (Tm 156) X01 (ZC.seq Y03 (ZC.cond (Tm 168) Q03 (ZC.seq K0w (ZC.cond (Tm 173) X0w ZC.skip)))))))))))))))))))))) (ZC.seq Y0v ZC.ret)))))
def zc45: ZC:=zn45_0
theorem zc45_ok: zcode (xfOf Try.f45).code=some zc45:=by kernel_rfl
def zw45:=zU C zc45.eq_1<|zU C zn45_1.eq_1<|zU C zn45_3.eq_1<|zU C zn45_6.eq_1<|zU C zn45_9.eq_1<|zU C zn45_10.eq_1<|zU C Y1j.eq_1<|zU C Q1j.eq_1<|zU C Y1s.eq_1<|zU C V1k.eq_1<|zU C Y1m.eq_1<|zU C zn45_28.eq_1<|zU C zn45_32.eq_1<|zU C zn45_33.eq_1<|zU C X04.eq_1<|zU C X1l.eq_1<|zU C V1n.eq_1<|zU C V1q.eq_1<|zU C Z1h.eq_1<|zU C zn45_47.eq_1<|zU C zn45_51.eq_1<|zU C zn45_52.eq_1<|zU C Z01.eq_1<|zU C X1k.eq_1<|zU C Y1r.eq_1<|zU C X1j.eq_1<|zU C V03.eq_1<|zU C X00.eq_1<|zU C Z03.eq_1<|zU C Y00.eq_1<|zU C K04.eq_1<|zU C K02.eq_1<|zU C Y02.eq_1<|zU C K03.eq_1<|zU C Y04.eq_1<|zU C Q04.eq_1<|zU C V04.eq_1<|zU C K01.eq_1<|zU C V02.eq_1<|zU C X03.eq_1<|zU C Q02.eq_1<|zU C Y01.eq_1<|zU C X01.eq_1<|zU C Y03.eq_1<|zU C Q03.eq_1<|zU C K0w.eq_1<|zU C X0w.eq_1<|zU C Y0v.eq_1<|(zunf C zn45_0.eq_1)
theorem rs45: (xfOf Try.f45).rs=[.cell 2 94]:=by kernel_rfl
def xf45:=zF C 45 Try.f45
def zn47_1:=ZC.reg [zv 0 (.assign (.const (.bool false)))]
def zn47_3:=ZC.reg [⟨some 6,.build 94 ⟨[(0,.const (.int .i64 1))]⟩,none,false⟩,zu 7 (zcf 46 [Kn 5,Tm 6] [3,94]),zu 5 (zmv 7),zu 8 (.extract (Tm 5) 0),zu 9 (.extract (Tm 5) 1),zu 1 (zas 8),zv 2 (zas 9)]
def zn47_5:=ZC.reg [zu 11 (zmv 1),zu 12 (zcf 48 [Kn 5,Tm 11] [3,68]),zu 10 (zmv 12),zu 13 (.extract (Tm 10) 0),zu 14 (.extract (Tm 10) 1),zu 3 (.alloc 94),zu0 (.store 94 (Tm 3) (Tm 13)),zv 4 (zas 14)]
def zn47_7:=ZC.reg [zu 15 (zmv 2),zu 16 (.binOp .eql 69 (Tm 15) (Kn 0) 69),zu 17 (zmv 16),zug 18 (zmv 1) 17 true false,zug 19 (zcb .len [Tm 18] [68]) 17 true false,zug 20 (.binOp .eql 3 (Tm 19) (Kn 17) 3) 17 true false,zu 21 (.pick (Tm 17) (Tm 20) (.const (.bool false))),zu 22 (zmv 21),zug 23 (zmv 4) 22 true false,zug 24 (.binOp .eql 69 (Tm 23) (Kn 0) 69) 22 true false,zu 25 (.pick (Tm 22) (Tm 24) (.const (.bool false))),zu 26 (zmv 25),zug 27 (zfa 94 3 0) 26 true false,zug 28 (zld 3 27) 26 true false,zug 29 (.binOp .eql 3 (Tm 28) (Kn 1) 3) 26 true false,zu 30 (.pick (Tm 26) (Tm 29) (.const (.bool false))),zv 0 (zas 30)]
def zn47_0:=ZC.seq zn47_1 (ZC.seq zn47_3 (ZC.seq zn47_5 (ZC.seq zn47_7 ZC.ret)))
def zc47: ZC:=zn47_0
theorem zc47_ok: zcode (xfOf Try.f47).code=some zc47:=by kernel_rfl
def zw47:=zU C zc47.eq_1<|zU C zn47_1.eq_1<|zU C zn47_3.eq_1<|zU C zn47_5.eq_1<|zU C zn47_7.eq_1<|(zunf C zn47_0.eq_1)
theorem rs47: (xfOf Try.f47).rs=[.tmp 0]:=by kernel_rfl
def xf47:=zF C 47 Try.f47
def zn48_1:=ZC.reg [zu 4 (.alloc 94),zv 5 (.assign (Kn 0))]
def zn48_4:=ZC.reg [zu 11 (zmv 1),zu 12 (zcb .len [Tm 11] [68]),zv 13 (.binOp .gtr 3 (Tm 12) (Kn 400) 3)]
def zn48_7:=ZC.reg [⟨some 14,.build 94 ⟨[]⟩,none,false⟩,zu0 (.store 94 (Tm 4) (Tm 14)),zv 5 (.assign (Kn 7))]
def zn48_9:=ZC.reg [zu 16 (zmv 0),zu 17 (zmv 1),zu 18 (zcf 109 [Tm 16,Tm 17] [3,68]),zu 15 (zmv 18),zu 19 (.extract (Tm 15) 0),zu 20 (.extract (Tm 15) 1),zu 6 (.alloc 68),zu0 (.store 68 (Tm 6) (Tm 19)),zv 7 (zas 20)]
def zn48_12:=ZC.reg [zu 21 (zmv 7),zv 22 (.unOp .not 4 (Tm 21))]
def zn48_15:=ZC.reg [⟨some 23,.build 94 ⟨[]⟩,none,false⟩,zu0 (.store 94 (Tm 4) (Tm 23)),zv 5 (.assign (Kn 3))]
def zn48_17:=ZC.reg [zv 8 (.alloc 94)]
def zn48_19:=ZC.reg [⟨some 25,.makeFunc (.func 110) ⟨[]⟩ ⟨[Tm 6,Tm 8]⟩,none,false⟩,zu 26 (zcf 73 [Tm 25] [1]),zu 24 (zmv 26),zu 27 (.extract (Tm 24) 0),zu 28 (.extract (Tm 24) 1),zu 9 (.alloc 44),zu0 (.store 44 (Tm 9) (Tm 27)),zv 10 (zas 28)]
def zn48_22:=ZC.draw 13 [] [zdd 0 29 (zmv 10) true [] [] false,zdd 1 30 (zmv 29) true [] [] false,⟨2,some 31,zld 94 8,some (30,false),true,[],[],false⟩,⟨3,some 32,zcf 50 [Tm 31] [94],some (30,false),true,[],[],false⟩,⟨4,some 33,.unOp .not 4 (Tm 32),some (30,false),true,[],[],false⟩,zdd 5 34 (.pick (Tm 30) (.const (.bool true)) (Tm 33)) true [] [] false,zdd 6 35 (zmv 34) true [] [] false,⟨7,some 36,zld 94 8,some (35,false),false,[],[],false⟩,⟨8,some 37,zcf 108 [Tm 36] [94],some (35,false),false,[],[],true⟩,⟨9,some 38,zld 68 6,some (35,false),true,[8],[],false⟩,⟨10,some 39,zcf 96 [Tm 37,Tm 38] [68,68],some (35,false),true,[],[],false⟩,⟨11,some 40,.unOp .not 4 (Tm 39),some (35,false),true,[],[],false⟩,zdd 12 41 (.pick (Tm 35) (.const (.bool true)) (Tm 40)) true [] [] false]
def zn48_25:=ZC.reg [⟨some 42,.build 94 ⟨[]⟩,none,false⟩,zu0 (.store 94 (Tm 4) (Tm 42)),zv 5 (.assign (Kn 2))]
def zn48_27:=ZC.reg [zu 43 (zld 94 8),zu0 (.store 94 (Tm 4) (Tm 43)),zv 5 (.assign (Kn 0))]
def zn48_0:=ZC.seq zn48_1 (ZC.seq (ZC.seq zn48_4 (ZC.cond (Tm 13) (ZC.seq zn48_7 ZC.ret) ZC.skip)) (ZC.seq zn48_9 (ZC.seq (ZC.seq zn48_12 (ZC.cond (Tm 22) (ZC.seq zn48_15 ZC.ret) ZC.skip)) (ZC.seq zn48_17 (ZC.seq zn48_19 (ZC.seq (ZC.seq zn48_22 (ZC.cond (Tm 41) (ZC.seq zn48_25 ZC.ret) ZC.skip)) (ZC.seq zn48_27 ZC.ret)))))))
def zc48: ZC:=zn48_0
theorem zc48_ok: zcode (xfOf Try.f48).code=some zc48:=by kernel_rfl
def zw48:=zU C zc48.eq_1<|zU C zn48_1.eq_1<|zU C zn48_4.eq_1<|zU C zn48_7.eq_1<|zU C zn48_9.eq_1<|zU C zn48_12.eq_1<|zU C zn48_15.eq_1<|zU C zn48_17.eq_1<|zU C zn48_19.eq_1<|zU C zn48_22.eq_1<|zU C zn48_25.eq_1<|zU C zn48_27.eq_1<|(zunf C zn48_0.eq_1)
theorem rs48: (xfOf Try.f48).rs=[.cell 4 94,.tmp 5]:=by kernel_rfl
def xf48:=zF C 48 Try.f48
def zn110_0:=ZC.reg [zu 2 (zld 68 0),zu 3 (zcf 95 [Tm 2] [68]),zu 4 (zcf 111 [Tm 3] [150]),zv0 (.store 94 (Tm 1) (Tm 4))]
def zc110: ZC:=zn110_0
theorem zc110_ok: zcode (xfOf Try.f110).code=some zc110:=by kernel_rfl
def zw110:=zU C zc110.eq_1<|(zunf C zn110_0.eq_1)
theorem rs110: (xfOf Try.f110).rs=[]:=by kernel_rfl
def xf110:=zF C 110 Try.f110
def zn111_1:=ZC.reg [zv 2 (.alloc 94)]
def zn111_3:=ZC.reg [zv 3 (.alloc 94)]
def zn111_5:=ZC.reg [zu 4 (zmv 0),zu 5 (zcf 160 [Tm 4,Kn 3] [150,3]),zu 6 (.convert 25 3 (Tm 5)),zu 7 (zmv 0),zu 8 (zcf 160 [Tm 7,Kn 3] [150,3]),zu 9 (.convert 25 3 (Tm 8)),zu 10 (zfa 94 3 0),zu0 (.store 3 (Tm 10) (Tm 6)),zu 11 (zfa 94 3 1),zv0 (.store 3 (Tm 11) (Tm 9))]
def zn111_7:=ZC.reg [zu 12 (zmv 0),zu 13 (zcf 160 [Tm 12,Kn 16] [150,3]),zu 14 (.convert 25 3 (Tm 13)),zu 15 (zmv 0),zu 16 (zcf 160 [Tm 15,Kn 16] [150,3]),zu 17 (.convert 25 3 (Tm 16)),zu 18 (zfa 94 3 2),zu0 (.store 3 (Tm 18) (Tm 14)),zu 19 (zfa 94 3 3),zv0 (.store 3 (Tm 19) (Tm 17))]
def zn111_9:=ZC.reg [zu 20 (zmv 0),zu 21 (zcf 160 [Tm 20,Kn 1] [150,3]),zu 22 (.binOp .eql 25 (Tm 21) (.const (.int .u64 1)) 25),zu 23 (zmv 0),zu 24 (zcf 160 [Tm 23,Kn 64] [150,3]),zu 25 (zfa 94 3 4),zu0 (.store 4 (Tm 25) (Tm 22)),zu 26 (zfa 94 3 5),zv0 (.store 25 (Tm 26) (Tm 24))]
def zn111_12:=ZC.reg [zu 27 (zfa 94 3 0),zv 28 (zld 3 27)]
def zn111_15:=ZC.reg [zu 30 (.binOp .eql 3 (Tm 28) (Kn 2) 3),zv 29 (zas 30)]
def zn111_18:=ZC.reg [zu 31 (zmv 0),zu 32 (zcf 160 [Tm 31,Kn 10] [150,3]),zu 33 (.convert 25 3 (Tm 32)),zu 34 (zmv 0),zu 35 (zcf 160 [Tm 34,Kn 10] [150,3]),zu 36 (.convert 25 3 (Tm 35)),zu 37 (zfa 94 3 6),zu0 (.store 3 (Tm 37) (Tm 33)),zu 38 (zfa 94 3 7),zv0 (.store 3 (Tm 38) (Tm 36))]
def zn111_20:=ZC.reg [zu 39 (zmv 0),zu 40 (zcf 160 [Tm 39,Kn 5] [150,3]),zu 41 (.convert 25 3 (Tm 40)),zv 42 (.move (Kn 0))]
def zn111_24:=ZC.reg [zv 43 (.binOp .lss 3 (Tm 42) (Tm 41) 3)]
def zn111_29:=ZC.draw 8 [] [zdd 0 44 (zfa 94 3 8) false [] [3] false,zdd 1 45 (zld 91 44) false [] [3] false,zdd 2 46 (zmv 0) true [] [] false,zdd 3 47 (zcf 167 [Tm 46] [150]) true [] [] false,⟨4,some 48,.buildSlice 91 1 ⟨[(0,.tmp 47)]⟩,none,true,[],[],false⟩,zdd 5 49 (zcb .append [Tm 45,Tm 48] [91,91]) true [] [] false,zdd 6 50 (zfa 94 3 8) true [] [] false,zd0 7 (.store 91 (Tm 50) (Tm 49)) true [] [] false]
def zn111_30:=ZC.reg [zu 51 (.binOp .add 3 (Tm 42) (Kn 1) 3),zv 42 (zmv 51)]
def Y1f:=ZC.seq zn111_24 (ZC.seq (ZC.cond (Tm 43) ZC.skip (ZC.exit 1)) (ZC.seq (ZC.block 2 zn111_29) zn111_30))
def zn111_32:=ZC.reg [zu 53 (.binOp .eql 3 (Tm 28) (Kn 3) 3),zv 52 (zas 53)]
def zn111_34:=ZC.reg [zu 54 (zmv 0),zv 55 (zcf 168 [Tm 54,Tm 3] [150,215])]
def zn111_36:=ZC.reg [zu 57 (.binOp .eql 3 (Tm 28) (Kn 4) 3),zv 56 (zas 57)]
def zn111_38:=ZC.reg [zu 58 (zmv 0),zu 59 (zcf 160 [Tm 58,Kn 10] [150,3]),zu 60 (.convert 25 3 (Tm 59)),zu 61 (zmv 0),zu 62 (zcf 160 [Tm 61,Kn 62] [150,3]),zu 63 (.convert 25 3 (Tm 62)),zu 64 (zfa 94 3 11),zu0 (.store 3 (Tm 64) (Tm 60)),zu 65 (zfa 94 3 12),zv0 (.store 3 (Tm 65) (Tm 63))]
def zn111_40:=ZC.reg [zu 66 (zld 94 3),zv0 (.store 94 (Tm 2) (Tm 66))]
def zn111_0:=ZC.seq zn111_1 (ZC.seq zn111_3 (ZC.seq zn111_5 (ZC.seq zn111_7 (ZC.seq zn111_9 (ZC.seq (ZC.seq zn111_12 (ZC.block 0 (ZC.seq zn111_15 (ZC.cond (Tm 29) (ZC.seq zn111_18 (ZC.seq zn111_20 (ZC.block 1 (ZC.loop Y1f)))) (ZC.seq zn111_32 (ZC.cond (Tm 52) zn111_34 (ZC.seq zn111_36 (ZC.cond (Tm 56) zn111_38 ZC.skip)))))))) (ZC.seq zn111_40 ZC.ret))))))
def zc111: ZC:=zn111_0
theorem zc111_ok: zcode (xfOf Try.f111).code=some zc111:=by kernel_rfl
def zw111:=zU C zc111.eq_1<|zU C zn111_1.eq_1<|zU C zn111_3.eq_1<|zU C zn111_5.eq_1<|zU C zn111_7.eq_1<|zU C zn111_9.eq_1<|zU C zn111_12.eq_1<|zU C zn111_15.eq_1<|zU C zn111_18.eq_1<|zU C zn111_20.eq_1<|zU C zn111_24.eq_1<|zU C zn111_29.eq_1<|zU C zn111_30.eq_1<|zU C Y1f.eq_1<|zU C zn111_32.eq_1<|zU C zn111_34.eq_1<|zU C zn111_36.eq_1<|zU C zn111_38.eq_1<|zU C zn111_40.eq_1<|(zunf C zn111_0.eq_1)
theorem rs111: (xfOf Try.f111).rs=[.cell 2 94]:=by kernel_rfl
def xf111:=zF C 111 Try.f111
def zn167_1:=ZC.reg [zv 2 (.alloc 36)]
def zn167_3:=ZC.reg [zu 3 (zmv 0),zu 4 (zcf 160 [Tm 3,Kn 8] [150,3]),zu 5 (.convert 25 3 (Tm 4)),zu 6 (zmv 0),zu 7 (zcf 190 [Tm 6,Kn 8] [150,3]),zu 8 (zmv 0),zu 9 (zcf 190 [Tm 8,Kn 8] [150,3]),⟨some 10,.build 36 ⟨[(0,.tmp 5),(1,.tmp 7),(2,.tmp 9)]⟩,none,false⟩,zv0 (.store 36 (Tm 2) (Tm 10))]
def zn167_0:=ZC.seq zn167_1 (ZC.seq zn167_3 ZC.ret)
def zc167: ZC:=zn167_0
theorem zc167_ok: zcode (xfOf Try.f167).code=some zc167:=by kernel_rfl
def zw167:=zU C zc167.eq_1<|zU C zn167_1.eq_1<|zU C zn167_3.eq_1<|(zunf C zn167_0.eq_1)
theorem rs167: (xfOf Try.f167).rs=[.cell 2 36]:=by kernel_rfl
def xf167:=zF C 167 Try.f167
def zn168_1:=ZC.reg [zu 6 (zmv 1),zu 7 (zmv 0),zu 8 (zcf 160 [Tm 7,Kn 10] [150,3]),zu 9 (.convert 25 3 (Tm 8)),zu 10 (.nilCheck (Tm 6)),zu 11 (zfa 94 10 7),zv0 (.store 3 (Tm 11) (Tm 9))]
def zn168_3:=ZC.reg [zu 12 (zmv 1),zu 13 (zmv 0),zu 14 (zcf 160 [Tm 13,Kn 4] [150,3]),zu 15 (.convert 25 3 (Tm 14)),zu 16 (.nilCheck (Tm 12)),zu 17 (zfa 94 16 9),zv0 (.store 3 (Tm 17) (Tm 15))]
def zn168_5:=ZC.reg [zu 18 (zmv 0),zu 19 (zcf 160 [Tm 18,Kn 4] [150,3]),zu 20 (.convert 25 3 (Tm 19)),zv 21 (.move (Kn 0))]
def zn168_9:=ZC.reg [zv 22 (.binOp .lss 3 (Tm 21) (Tm 20) 3)]
def zn168_15:=ZC.reg [zv 4 (.assign (.const (.slice none 0 0)))]
def zn168_18:=ZC.reg [zu 23 (zmv 1),zu 24 (.nilCheck (Tm 23)),zu 25 (zfa 94 24 9),zu 26 (zld 3 25),zv 27 (.move (Kn 0))]
def zn168_22:=ZC.reg [zv 28 (.binOp .lss 3 (Tm 27) (Tm 26) 3)]
def zn168_28:=ZC.reg [zu 29 (zmv 0),zu 30 (zcf 160 [Tm 29,Kn 1] [150,3]),zu 31 (.binOp .eql 25 (Tm 30) (.const (.int .u64 1)) 25),⟨some 32,.build 110 ⟨[(0,.tmp 31)]⟩,none,false⟩,zu 5 (.alloc 110),zv0 (.store 110 (Tm 5) (Tm 32))]
def zn168_31:=ZC.reg [zu 33 (zfa 110 5 0),zv 34 (zld 4 33)]
def zn168_33:=ZC.reg [zu 35 (zmv 0),zu 36 (zcf 167 [Tm 35] [150]),zu 37 (zfa 110 5 1),zv0 (.store 36 (Tm 37) (Tm 36))]
def zn168_34:=ZC.reg [zu 38 (zmv 4),zu 39 (zld 110 5),⟨some 40,.buildSlice 108 1 ⟨[(0,.tmp 39)]⟩,none,false⟩,zu 41 (zcb .append [Tm 38,Tm 40] [108,108]),zv 4 (zas 41)]
def zn168_35:=ZC.reg [zu 42 (.binOp .add 3 (Tm 27) (Kn 1) 3),zv 27 (zmv 42)]
def V1g:=ZC.seq zn168_22 (ZC.seq (ZC.cond (Tm 28) ZC.skip (ZC.exit 2)) (ZC.seq (ZC.block 3 (ZC.seq zn168_28 (ZC.seq (ZC.seq zn168_31 (ZC.cond (Tm 34) zn168_33 ZC.skip)) zn168_34))) zn168_35))
def zn168_36:=ZC.reg [zu 43 (zmv 1),zu 44 (zmv 1),zu 45 (.nilCheck (Tm 44)),zu 46 (zfa 94 45 10),zu 47 (zld 92 46),zu 48 (zmv 4),⟨some 49,.buildSlice 92 1 ⟨[(0,.tmp 48)]⟩,none,false⟩,zu 50 (zcb .append [Tm 47,Tm 49] [92,92]),zu 51 (.nilCheck (Tm 43)),zu 52 (zfa 94 51 10),zv0 (.store 92 (Tm 52) (Tm 50))]
def zn168_37:=ZC.reg [zu 53 (.binOp .add 3 (Tm 21) (Kn 1) 3),zv 21 (zmv 53)]
def Q18:=ZC.seq zn168_9 (ZC.seq (ZC.cond (Tm 22) ZC.skip (ZC.exit 0)) (ZC.seq (ZC.block 1 (ZC.seq zn168_15 (ZC.seq (ZC.seq zn168_18 (ZC.block 2 (ZC.loop V1g))) zn168_36))) zn168_37))
def zn168_0:=ZC.seq zn168_1 (ZC.seq zn168_3 (ZC.seq zn168_5 (ZC.block 0 (ZC.loop Q18))))
def zc168: ZC:=zn168_0
theorem zc168_ok: zcode (xfOf Try.f168).code=some zc168:=by kernel_rfl
def zw168:=zU C zc168.eq_1<|zU C zn168_1.eq_1<|zU C zn168_3.eq_1<|zU C zn168_5.eq_1<|zU C zn168_9.eq_1<|zU C zn168_15.eq_1<|zU C zn168_18.eq_1<|zU C zn168_22.eq_1<|zU C zn168_28.eq_1<|zU C zn168_31.eq_1<|zU C zn168_33.eq_1<|zU C zn168_34.eq_1<|zU C zn168_35.eq_1<|zU C V1g.eq_1<|zU C zn168_36.eq_1<|zU C zn168_37.eq_1<|zU C Q18.eq_1<|(zunf C zn168_0.eq_1)
theorem rs168: (xfOf Try.f168).rs=[]:=by kernel_rfl
def xf168:=zF C 168 Try.f168
def zn11_1:=ZC.reg [zu 6 (.box 90 (Tm 0)),zu 7 (.box 90 (Tm 1)),zv 12 (.assign (.const (.bool false)))]
def zn11_3:=ZC.reg [zu 25 (zld 90 6),zu 26 (zcf 45 [Tm 25] [90]),zu 13 (.alloc 94),zv0 (.store 94 (Tm 13) (Tm 26))]
def zn11_5:=ZC.reg [zu 27 (zld 90 7),zu 28 (zcf 45 [Tm 27] [90]),zu 14 (.alloc 94),zv0 (.store 94 (Tm 14) (Tm 28))]
def zn11_7:=ZC.reg [zu 29 (zmv 2),zu 30 (zcf 37 [Tm 29,Kn 2147483647] [3,3]),zv 2 (zas 30)]
def zn11_9:=ZC.reg [zu 31 (zmv 3),zu 32 (zcf 37 [Tm 31,Kn 2147483647] [3,3]),zv 3 (zas 32)]
def zn11_11:=ZC.reg [zu 34 (zmv 2),zu 35 (zld 94 13),zu 36 (zcf 46 [Tm 34,Tm 35] [3,94]),zu 33 (zmv 36),zu 37 (.extract (Tm 33) 0),zu 38 (.extract (Tm 33) 1),zu 15 (zas 37),zv 16 (zas 38)]
def zn11_13:=ZC.reg [zu 40 (zmv 2),zu 41 (zld 94 14),zu 42 (zcf 46 [Tm 40,Tm 41] [3,94]),zu 39 (zmv 42),zu 43 (.extract (Tm 39) 0),zu 44 (.extract (Tm 39) 1),zu 17 (zas 43),zv 18 (zas 44)]
def zn11_16:=ZC.reg [zu 45 (zcf 47 [] []),zu 46 (.unOp .not 4 (Tm 45)),zu 47 (zmv 46),zug 48 (zmv 16) 47 false false,zug 49 (.binOp .neq 69 (Tm 48) (Kn 0) 69) 47 false false,zu 50 (.pick (Tm 47) (.const (.bool true)) (Tm 49)),zu 51 (zmv 50),zug 52 (zmv 18) 51 false false,zug 53 (.binOp .neq 69 (Tm 52) (Kn 0) 69) 51 false false,zv 54 (.pick (Tm 51) (.const (.bool true)) (Tm 53))]
def zn11_19:=ZC.reg [zu 55 (zcf 47 [] []),zv 12 (zas 55)]
def zn11_21:=ZC.reg [zu 57 (zmv 2),zu 58 (zmv 15),zu 59 (zcf 48 [Tm 57,Tm 58] [3,68]),zu 56 (zmv 59),zu 60 (.extract (Tm 56) 0),zu 61 (.extract (Tm 56) 1),zu 19 (.alloc 94),zu0 (.store 94 (Tm 19) (Tm 60)),zv 20 (zas 61)]
def zn11_23:=ZC.reg [zu 63 (zmv 3),zu 64 (zmv 15),zu 65 (zcf 48 [Tm 63,Tm 64] [3,68]),zu 62 (zmv 65),zu 66 (.extract (Tm 62) 0),zu 67 (.extract (Tm 62) 1),zu 21 (.alloc 94),zu0 (.store 94 (Tm 21) (Tm 66)),zv 22 (zas 67)]
def zn11_26:=ZC.draw 45 [] [zdd 0 68 (zmv 15) true [] [] false,zdd 1 69 (zcb .len [Tm 68] [68]) true [] [] false,zdd 2 70 (.binOp .lss 3 (Tm 69) (Kn 5) 3) true [] [] false,zdd 3 71 (zmv 70) true [] [] false,⟨4,some 72,zmv 15,some (71,false),true,[],[],false⟩,⟨5,some 73,zcb .len [Tm 72] [68],some (71,false),true,[],[],false⟩,⟨6,some 74,.binOp .gtr 3 (Tm 73) (Kn 400) 3,some (71,false),true,[],[],false⟩,zdd 7 75 (.pick (Tm 71) (.const (.bool true)) (Tm 74)) true [] [] false,zdd 8 76 (zmv 75) true [] [] false,⟨9,some 77,zmv 20,some (76,false),true,[],[],false⟩,⟨10,some 78,.binOp .neq 69 (Tm 77) (Kn 0) 69,some (76,false),true,[],[],false⟩,zdd 11 79 (.pick (Tm 76) (.const (.bool true)) (Tm 78)) true [] [] false,zdd 12 80 (zmv 79) true [] [] false,⟨13,some 81,zld 94 19,some (80,false),false,[],[],false⟩,⟨14,some 82,zld 94 13,some (80,false),true,[],[],false⟩,⟨15,some 83,zcf 49 [Tm 81,Tm 82] [94,94],some (80,false),true,[],[],false⟩,⟨16,some 84,.unOp .not 4 (Tm 83),some (80,false),true,[],[],false⟩,zdd 17 85 (.pick (Tm 80) (.const (.bool true)) (Tm 84)) true [] [] false,zdd 18 86 (zmv 85) true [] [] false,⟨19,some 87,zmv 22,some (86,false),false,[],[],false⟩,⟨20,some 88,.binOp .eql 69 (Tm 87) (Kn 0) 69,some (86,false),false,[],[],false⟩,⟨21,some 89,zmv 3,some (86,false),false,[],[],false⟩,⟨22,some 90,zmv 2,some (86,false),true,[],[],false⟩,⟨23,some 91,.binOp .eql 3 (Tm 89) (Tm 90) 3,some (86,false),true,[],[],false⟩,⟨24,some 92,.binOp .neq 4 (Tm 88) (Tm 91) 4,some (86,false),true,[],[],false⟩,zdd 25 93 (.pick (Tm 86) (.const (.bool true)) (Tm 92)) true [] [] false,zdd 26 94 (zmv 93) true [] [] false,⟨27,some 95,zmv 22,some (94,false),true,[],[],false⟩,⟨28,some 96,.binOp .neq 69 (Tm 95) (Kn 0) 69,some (94,false),true,[],[],false⟩,⟨29,some 97,zmv 96,some (94,false),true,[],[],false⟩,⟨30,some 98,zmv 22,some (97,true),true,[],[],false⟩,⟨31,some 99,.binOp .neq 69 (Tm 98) (Kn 3) 69,some (97,true),true,[],[],false⟩,⟨32,some 100,.pick (Tm 97) (Tm 99) (.const (.bool false)),some (94,false),true,[],[],false⟩,zdd 33 101 (.pick (Tm 94) (.const (.bool true)) (Tm 100)) true [] [] false,zdd 34 102 (zmv 101) true [] [] false,⟨35,some 103,zmv 15,some (102,false),false,[],[],false⟩,⟨36,some 104,.convert 68 9 (Tm 103),some (102,false),false,[],[42],false⟩,⟨37,some 105,zmv 17,some (102,false),false,[],[],false⟩,⟨38,some 106,.convert 68 9 (Tm 105),some (102,false),false,[],[42],false⟩,⟨39,some 107,.binOp .eql 9 (Tm 104) (Tm 106) 9,some (102,false),false,[],[],false⟩,⟨40,some 108,zld 94 13,some (102,false),false,[],[],false⟩,⟨41,some 109,zld 94 14,some (102,false),true,[],[],false⟩,⟨42,some 110,zcf 49 [Tm 108,Tm 109] [94,94],some (102,false),true,[],[],false⟩,⟨43,some 111,.binOp .neq 4 (Tm 107) (Tm 110) 4,some (102,false),true,[],[],false⟩,zdd 44 112 (.pick (Tm 102) (.const (.bool true)) (Tm 111)) true [] [] false]
def zn11_29:=ZC.reg [zv 12 (.assign (.const (.bool false)))]
def zn11_31:=ZC.reg [zu 113 (zmv 15),zu 114 (zmv 4),zu 115 (zmv 15),zu 116 (zcb .len [Tm 115] [68]),zu 117 (zcf 37 [Tm 114,Tm 116] [3,3]),zu 118 (zia 68 113 117),zu 119 (zld 5 118),zu 120 (zmv 5),zu 121 (.binOp .xor 5 (Tm 119) (Tm 120) 5),zu 122 (zia 68 113 117),zv0 (.store 5 (Tm 122) (Tm 121))]
def zn11_33:=ZC.reg [zu 124 (zmv 2),zu 125 (zmv 15),zu 126 (zcf 48 [Tm 124,Tm 125] [3,68]),zu 123 (zmv 126),zu 127 (.extract (Tm 123) 0),zu 128 (.extract (Tm 123) 1),zu 23 (.alloc 94),zu0 (.store 94 (Tm 23) (Tm 127)),zv 24 (zas 128)]
def zn11_35:=ZC.reg [zu 129 (zmv 24),zu 130 (.binOp .eql 69 (Tm 129) (Kn 0) 69),zu 131 (zmv 130),zug 132 (zmv 5) 131 true false,zug 133 (.binOp .eql 5 (Tm 132) (.const (.int .u8 0)) 5) 131 true false,zu 134 (.pick (Tm 131) (Tm 133) (.const (.bool false))),zu 135 (zmv 134),zug 136 (zld 94 23) 135 true false,zug 137 (zld 94 13) 135 true false,zug 138 (zcf 49 [Tm 136,Tm 137] [94,94]) 135 true false,zu 139 (.pick (Tm 135) (Tm 138) (.const (.bool false))),zu 140 (zmv 139),zug 141 (zmv 24) 140 false false,zug 142 (.binOp .eql 69 (Tm 141) (Kn 3) 69) 140 false false,zug 143 (zmv 142) 140 false false,zug 144 (zmv 5) 143 true false,zug 145 (.binOp .neq 5 (Tm 144) (.const (.int .u8 0)) 5) 143 true false,zug 146 (.pick (Tm 143) (Tm 145) (.const (.bool false))) 140 false false,zu 147 (.pick (Tm 140) (.const (.bool true)) (Tm 146)),zv 12 (zas 147)]
def zn11_0:=ZC.seq zn11_1 (ZC.seq zn11_3 (ZC.seq zn11_5 (ZC.seq zn11_7 (ZC.seq zn11_9 (ZC.seq zn11_11 (ZC.seq zn11_13 (ZC.seq (ZC.seq zn11_16 (ZC.cond (Tm 54) (ZC.seq zn11_19 ZC.ret) ZC.skip)) (ZC.seq zn11_21 (ZC.seq zn11_23 (ZC.seq (ZC.seq zn11_26 (ZC.cond (Tm 112) (ZC.seq zn11_29 ZC.ret) ZC.skip)) (ZC.seq zn11_31 (ZC.seq zn11_33 (ZC.seq zn11_35 ZC.ret)))))))))))))
def zc11: ZC:=zn11_0
theorem zc11_ok: zcode (xfOf Try.f11).code=some zc11:=by kernel_rfl
def zw11:=zU C zc11.eq_1<|zU C zn11_1.eq_1<|zU C zn11_3.eq_1<|zU C zn11_5.eq_1<|zU C zn11_7.eq_1<|zU C zn11_9.eq_1<|zU C zn11_11.eq_1<|zU C zn11_13.eq_1<|zU C zn11_16.eq_1<|zU C zn11_19.eq_1<|zU C zn11_21.eq_1<|zU C zn11_23.eq_1<|zU C zn11_26.eq_1<|zU C zn11_29.eq_1<|zU C zn11_31.eq_1<|zU C zn11_33.eq_1<|zU C zn11_35.eq_1<|(zunf C zn11_0.eq_1)
theorem rs11: (xfOf Try.f11).rs=[.tmp 12]:=by kernel_rfl
def xf11:=zF C 11 Try.f11
end Go.Proofs.Ytpchcfkebljopaa
end
section
namespace Go.Proofs.Ytpchcfkebljopaa
open Go.Cl Go Go.RowKit
set_option maxRecDepth 100000
set_option linter.constructorNameAsVariable false
theorem Y0e(l:List Int): (partB l).l=l:=nd rfl
theorem Z1g{a:Q0a}(h:packRight a=true): packSm a:=by
 refine⟨?_,?_⟩
 ·by_cases h2:a.Kind=2
  ·have:=(right_2 h h2).1;omega
  ·rw[(right_ins h h2).1];exact Nat.zero_le _
 ·by_cases h3:a.Kind=3
  ·obtain⟨h1,hn,hr⟩:=Q0r (right_3 h h3)
   exact⟨h1,fun x hx=>⟨fun e=>by have:=(hr x hx).1;rw[e]at this;simp at this;omega,by have:=(hr x hx).1;omega⟩⟩
  ·rw[rowsSm,(X1a h h3).1];exact⟨Nat.zero_le _,nofun⟩
theorem V1c(l:List Bool): ∀x∈packB l,0<=x/\x<=255:=by
 intro x hx
 simp only[packB,List.mem_map]at hx
 obtain⟨i,_,rfl⟩:=hx
 exact Q1d _ _
theorem packB_ne{l:List Bool}(h:l≠[]): packB l≠[]:=fun e=>h (packB_nil.1 e)
def R46: Rel:=fun args p r=>∃(key:Int) (a:Q0a),args=[I key,a.cv]/\(-9223372036854775808<=key/\key<=9223372036854775807)/\(packOk a)/\r=if packRight a=true then .ret (.tup [Lst.cv Y8 (partB (layP key a)),I 0]) p else .ret (.tup [Lst.cv Y8 nilB,I 1]) p
theorem t46{T:XCall}(h:Has T 46 R46)(key:Int)(a:Q0a){p:Hp}(hk:-9223372036854775808<=key/\key<=9223372036854775807)(h1:packOk a): T 46 [I key,a.cv] p=if packRight a=true then .ret (.tup [Lst.cv Y8 (partB (layP key a)),I 0]) p else .ret (.tup [Lst.cv Y8 nilB,I 1]) p:=h _ _ _ ⟨key,a,rfl,hk,h1,rfl⟩
theorem zdis46{P:Prop}(h:P:=by first|exact zdis|(simp only[Hp.bump_n,Hp.znew_n,Hp.zset_n,List.length_nil,List.length_cons,List.length_append,List.length_map,Y0e];(first|done|omega))|(simp (disch:=first|exact zd1|(simp only[Hp.bump_n,Hp.znew_n,Hp.zset_n,List.length_nil,List.length_cons,List.length_append,List.length_map,Y0e];(first|done|omega))) only[zheap,zx];(first|done|rfl))|fail): P:=h
theorem zq46{A B:Prop}(k:B)(h:A=B:=by have zy:=zA @zw46<|zA @rs46<|zA @tt94<|zA ti94.eq_1<|zA @t_50<|zA @t_107<|zA @t_108<|zA @K0e<|zA @Y0e<|zA @hk<|@h1;have zd:=@zdis46;exact zQd): A:=h▸k
theorem c46: Con C 46 R46:=by
 refine V0e C ?_ ?_ ?_
 ·rintro args p r r' ⟨key,a,h,hk,h1,e⟩ ⟨key',a',h',hk',h1',e'⟩
  subst e;subst e';simp_all[Q0a.inj_iff]
 ·rintro args p r ⟨key,a,h,hk,h1,rfl⟩;exact zr1
 rintro args p r ⟨key,a,rfl,hk,h1,rfl⟩
 refine zW C false [(50,R50),(107,R107),(108,R108)] ⟨c50,c107,c108,zT⟩ rfl xf46 zc46_ok fun call zh hF=>?_
 have t_50:=@t50 _ zh.1
 have t_107:=@t107 _ zh.2.1
 have t_108:=@t108 _ zh.2.2.1
 clear zh
 cases hR:packRight a with
 |false=>
  rw[if_neg Bool.false_ne_true]
  (have zx:=hR;refine zq46 ?_;try exact zT)
  repeat'(apply zK.s<;>intro hc<;>(try simp only[zhd]at hc)<;>(try have hw:=X0a hc)<;>(refine zq46 ?_;try exact zT))
  all_goals(try clear zx)
  exact V0c hF zle (Y0d (X0c (by intro jj;simp[CV.has,CV.hasL,Lst.cv,nilB])))
 |true=>
  have hsm:=Z1g hR
  have hne:=packB_ne (Z00 a)
  have hnv:(partB (packB (packBits a))).tl≠.view:=nofun
  have hle:=V0r hsm
  have hpl:=X0f (packBits a)
  have hlb:∀x∈packB (packBits a),0<=x/\x<=255:=V1c _
  rw[if_pos rfl]
  (have zx:=zA hR (zA hsm (zA hne (zA hnv hlb)));refine zq46 ?_;try exact zT)
  repeat'(apply zK.s<;>intro hc<;>(try simp only[zhd]at hc)<;>(try have hw:=X0a hc)<;>(refine zq46 ?_;try exact zT))
  all_goals(try clear zx)
  exact V0c hF zle (Y0d (X0c (by intro jj;simp[CV.has,CV.hasL,Lst.cv,partB,V0i X0r])))
end Go.Proofs.Ytpchcfkebljopaa
end
section
namespace Go.Proofs.Ytpchcfkebljopaa
open Go.Cl Go Go.RowKit
def lstP{α:Type}(l:List α): Lst α:=if h:l=[] then⟨.nil,[],fun _=>rfl⟩ else⟨.part,l,nofun⟩
theorem K0p{α:Type}(l:List α): (lstP l).l=l:=by
 unfold lstP
 split
 ·rename_i h;rw[h]
 ·rfl
def rowsP(l:List (List V0a)): Lst (Lst V0a):=lstP (l.map lstP)
theorem K1i(l:List (List V0a)): rowsL (rowsP l)=l:=by
 rw[rowsL,rowsP,K0p,List.map_map]
 have:(Lst.l∘lstP:List V0a->List V0a)=id:=funext fun x=>K0p x
 rw[this,List.map_id]
def readIn(b:List Int)(a:Nat): Except Int (Y0a×Nat):=bindE (getB b 8 a) fun u a=>bindE (sgetB b 8 a) fun x a=>bindE (sgetB b 8 a) fun y a=>.ok (⟨u,x,y⟩,a)
def readCell(b:List Int)(a:Nat): Except Int (V0a×Nat):=bindE (getB b 1 a) fun f a=>if f=1 then bindE (readIn b a) fun i a=>.ok (⟨true,i⟩,a)else .ok (⟨false,Y0a.zero⟩,a)
def readRow(b:List Int)(a:Nat): Nat->Except Int (List V0a×Nat)
 |0=>.ok ([],a)
 |k+1=>bindE (readRow b a k) fun l a=>bindE (readCell b a) fun c a=>.ok (l++[c],a)
def readRows(b:List Int)(m a:Nat): Nat->Except Int (List (List V0a)×Nat)
 |0=>.ok ([],a)
 |k+1=>bindE (readRows b m a k) fun l a=>bindE (readRow b a m) fun r a=>.ok (l++[r],a)
def readIns(b:List Int)(a:Nat): Nat->Except Int (List Y0a×Nat)
 |0=>.ok ([],a)
 |k+1=>bindE (readIns b a k) fun l a=>bindE (readIn b a) fun c a=>.ok (l++[c],a)
theorem Z1q{b:List Int}{a:Nat}{e:Int}: ∀{k:Nat} (d:Nat),readRow b a k=.error e->readRow b a (k+d)=.error e
 |_,0,h=>h
 |k,d+1,h=>by
  show bindE (readRow b a (k+d)) _=_
  rw[Z1q d h,X0e]
theorem Y1e{b:List Int}{m a:Nat}{e:Int}: ∀{k:Nat} (d:Nat),readRows b m a k=.error e->readRows b m a (k+d)=.error e
 |_,0,h=>h
 |k,d+1,h=>by
  show bindE (readRows b m a (k+d)) _=_
  rw[Y1e d h,X0e]
theorem V1j{b:List Int}{a:Nat}{e:Int}: ∀{k:Nat} (d:Nat),readIns b a k=.error e->readIns b a (k+d)=.error e
 |_,0,h=>h
 |k,d+1,h=>by
  show bindE (readIns b a (k+d)) _=_
  rw[V1j d h,X0e]
def headOf(k s q l f c:Int): Q0a:={Q0a.zero with Kind:=k,Slot:=s,Seq:=q,Last:=l,Any:=decide (f=1),Acks:=c}
def readTail3(b:List Int)(x:Q0a)(a:Nat): Except Int (Q0a×Nat):=
 bindE (getB b 10 a) fun f a=>bindE (getB b 4 a) fun n a=>bindE (getB b 4 a) fun r a=>bindE (readRows b n.toNat a r.toNat) fun l a=>.ok ({x with First:=f,Players:=n,Rows:=rowsP l},a)
def readTail(b:List Int)(x:Q0a)(a:Nat): Except Int (Q0a×Nat):=
 if x.Kind=2 then bindE (getB b 10 a) fun g a=>bindE (getB b 10 a) fun f a=>bindE (getB b 5 a) fun n a=>bindE (readIns b a n.toNat) fun l a=>.ok ({x with Got:=g,First:=f,Inputs:=lstP l},a)
 else if x.Kind=3 then readTail3 b x a
 else if x.Kind=4 then bindE (getB b 10 a) fun f a=>bindE (getB b 62 a) fun m a=>.ok ({x with Frame:=f,Mark:=m},a)else .ok (x,a)
def readPa(b:List Int)(a:Nat): Except Int (Q0a×Nat):=
 bindE (getB b 3 a) fun k a=>bindE (getB b 3 a) fun s a=>bindE (getB b 16 a) fun q a=>bindE (getB b 16 a) fun l a=>bindE (getB b 1 a) fun f a=>bindE (getB b 64 a) fun c a=>readTail b (headOf k s q l f c) a
def readP(b:List Int): Except Int (Q0a×Nat):=readPa b 0
def openP(key:Int)(B:List Int): Q0a×Int:=
 if 400<B.length then(Q0a.zero,7)else if ¬(4<=B.length/\closeB key (B.take (B.length-4))=B) then(Q0a.zero,3) else
 match readP (B.take (B.length-4)) with
 |.error _=>(Q0a.zero,2)
 |.ok (p,_)=>if packRight p=true/\packB (packBits p)=B.take (B.length-4) then(p,0) else(Q0a.zero,2)
def canonP(a:Q0a): Q0a:={a with Inputs:=lstP a.Inputs.l,Rows:=rowsP (rowsL a.Rows)}
theorem in_bounds{x:Y0a}(h:inRight x=true): (0<=x.Buttons/\x.Buttons<=255)/\(-64<=x.X/\x.X<=64)/\(-64<=x.Y/\x.Y<=64):=by
 simp only[inRight,within,Bool.and_eq_true,decide_eq_true_eq]at h
 exact⟨h.1.1,h.1.2,h.2⟩
theorem readIn_at{b:List Int}{x:Y0a}{a:Nat}(h:At b a (inBits x))(hr:inRight x=true): readIn b a=.ok (x,a+(inBits x).length):=by
 have hb:=in_bounds hr
 unfold inBits at h
 have k0:=h.left.left
 have k1:=h.left.right
 have k2:=h.right
 simp only[Q0e,List.length_append]at k1 k2
 unfold readIn
 rw[Z0h k0 (by omega),X0d,sgetB_at k1 (by omega) (by omega),X0d,sgetB_at (a:=a+8+8) (by rw[Nat.add_assoc];exact k2) (by omega) (by omega),X0d,Y0q]
theorem readCell_at{b:List Int}{c:V0a}{a:Nat}(h:At b a (cellBits c))(hr:cellRight c=true): readCell b a=.ok (c,a+(cellBits c).length):=by
 simp only[cellRight,Bool.and_eq_true,Bool.or_eq_true,decide_eq_true_eq]at hr
 unfold cellBits at h
 have k0:=h.left
 have k1:=h.right
 unfold readCell
 obtain⟨re,i⟩:=c
 simp only[Q0e]at k1 hr ⊢
 cases re with
 |true=>
  simp only[if_true]at k1
  rw[Z0h k0 (by simp[flagI]),X0d,if_pos (by simp[flagI]),readIn_at k1 hr.1,X0d]
  simp[cellBits,Q0e,Y0q,Nat.add_assoc]
 |false=>
  have hi:=hr.2.resolve_left (by simp)
  rw[Z0h k0 (by simp[flagI]),X0d,if_neg (by simp[flagI]),hi]
  simp[cellBits,Q0e]
theorem Z1x{b:List Int}{l:List V0a}{a:Nat}(h:At b a (l.flatMap cellBits))(hr:∀x∈l,cellRight x=true): ∀k,k<=l.length->readRow b a k=.ok (l.take k,a+((l.take k).flatMap cellBits).length)
 |0,_=>by simp[readRow]
 |k+1,hk=>by
  have hlt:k<l.length:=by omega
  obtain⟨m,hm⟩:=V11 cellBits l (k+1)
  have h2:=h
  rw[hm,Z0o _ _ hlt,List.append_assoc]at h2
  have hv:=hr (nth l k) (by rw[K0j hlt];exact List.getElem_mem _)
  simp only[readRow]
  rw[Z1x h hr k (by omega),X0d,readCell_at h2.right.left hv,X0d,Z0o _ _ hlt,List.length_append,Z0l hlt]
  simp only[Nat.add_assoc]
theorem X1w{b:List Int}{l:List Y0a}{a:Nat}(h:At b a (l.flatMap inBits))(hr:∀x∈l,inRight x=true): ∀k,k<=l.length->readIns b a k=.ok (l.take k,a+((l.take k).flatMap inBits).length)
 |0,_=>by simp[readIns]
 |k+1,hk=>by
  have hlt:k<l.length:=by omega
  obtain⟨m,hm⟩:=V11 inBits l (k+1)
  have h2:=h
  rw[hm,Z0o _ _ hlt,List.append_assoc]at h2
  have hv:=hr (nth l k) (by rw[K0j hlt];exact List.getElem_mem _)
  simp only[readIns]
  rw[X1w h hr k (by omega),X0d,readIn_at h2.right.left hv,X0d,Z0o _ _ hlt,List.length_append,Z0l hlt]
  simp only[Nat.add_assoc]
theorem Z1p{b:List Int}{l:List (List V0a)}{n a:Nat}(h:At b a (l.flatMap fun r=>r.flatMap cellBits))(hr:∀r∈l,r.length=n/\∀x∈r,cellRight x=true): ∀k,k<=l.length->readRows b n a k=.ok (l.take k,a+((l.take k).flatMap fun r=>r.flatMap cellBits).length)
 |0,_=>by simp[readRows]
 |k+1,hk=>by
  have hlt:k<l.length:=by omega
  obtain⟨m,hm⟩:=V11 (fun r:List V0a=>r.flatMap cellBits) l (k+1)
  have h2:=h
  rw[hm,Z0o _ _ hlt,List.append_assoc]at h2
  have hv:=hr (nth l k) (by rw[K0j hlt];exact List.getElem_mem _)
  simp only[readRows]
  have hrow:=Z1x h2.right.left hv.2 n (by rw[hv.1];exact Nat.le_refl _)
  rw[List.take_of_length_le (l:=nth l k) (i:=n) (by omega)]at hrow
  rw[Z1p h hr k (by omega),X0d,hrow,X0d,Z0o _ _ hlt,List.length_append,Z0l hlt]
  simp only[Nat.add_assoc]
theorem flat_rows(r:Lst (Lst V0a)): (flat r.l).flatMap cellBits=(rowsL r).flatMap fun x=>x.flatMap cellBits:=by
 simp only[flat,rowsL,List.flatMap_map,List.flatMap_assoc]
theorem readP_at{a:Q0a}(hR:packRight a=true)(ha:0<=a.Acks/\a.Acks<18446744073709551616){b:List Int}(h:At b 0 (packBits a)): readP b=.ok (canonP a,(packBits a).length):=by
 obtain⟨hh,hs,hg,hf,hfr,hm⟩:=K0k hR
 simp only[within,Bool.and_eq_true,decide_eq_true_eq]at hg hf hfr hm
 simp only[headRight,within,Bool.and_eq_true,decide_eq_true_eq]at hh
 obtain⟨⟨⟨⟨hk,hsl⟩,hsq⟩,hla⟩,_⟩:=hh
 unfold packBits at h
 have k0:=h.left
 have k1:=h.right
 rw[Y0h]at k1
 unfold packHead at k0
 have j1:=k0.left.left.left.left.left
 have j2:=k0.left.left.left.left.right
 have j3:=k0.left.left.left.right
 have j4:=k0.left.left.right
 have j5:=k0.left.right
 have j6:=k0.right
 simp only[Q0e,List.length_append,Nat.zero_add]at j2 j3 j4 j5 j6 k1
 unfold readP readPa
 have hfl:flagI a.Any=0\/flagI a.Any=1:=by unfold flagI;split<;>simp
 have hany:decide (flagI a.Any=1)=a.Any:=by cases a.Any<;>simp[flagI]
 rw[Z0h j1 (by omega),X0d,Z0h j2 (by omega),X0d,Z0h j3 (by omega),X0d,Z0h j4 (by omega),X0d,Z0h j5 (by omega),X0d,Z0h j6 (by omega),X0d]
 obtain⟨x,hx⟩:∃x,x=headOf a.Kind a.Slot a.Seq a.Last (flagI a.Any) a.Acks:=⟨_,rfl⟩
 rw[<- hx]
 have hxk:x.Kind=a.Kind:=by rw[hx];rfl
 unfold readTail
 rw[hxk]
 by_cases h2:a.Kind=2
 ·have hi:=right_2 hR h2
  have hr:=X1a hR (by omega)
  have hfm:=Q01 hR (by omega)
  rw[if_pos h2]at k1 ⊢
  unfold inputsHead at k1
  have m1:=k1.left.left.left
  have m2:=k1.left.left.right
  have m3:=k1.left.right
  have m4:=k1.right
  simp only[Q0e,List.length_append,Nat.zero_add]at m2 m3 m4
  rw[Z0h m1 (by omega),X0d,Z0h m2 (by omega),X0d,Z0h (a:=103+10+10) (by rw[Nat.add_assoc];exact m3) (by omega),X0d,Int.toNat_natCast,X1w (by rw[show 103+10+10+5=103+(10+10+5) from rfl];exact m4) (fun x hx=>List.all_eq_true.1 hi.2 x hx) _ (Nat.le_refl _),X0d,List.take_length]
  refine congrArg Except.ok (Prod.ext ?_ ?_)
  ·rw[hx]
   simp only[headOf,canonP,hany]
   apply Q0a.ext'<;>first|rfl|exact hr.2.symm|exact hfm.1.symm|exact hfm.2.symm|skip
   show Q0a.zero.Rows=rowsP (rowsL a.Rows)
   rw[rowsL,hr.1];rfl
  ·rw[packBits,if_pos h2,List.length_append,Y0h,List.length_append,V0o];omega
 ·rw[if_neg h2]at k1 ⊢
  have hi:=right_ins hR h2
  by_cases h3:a.Kind=3
  ·rw[readTail3]
   have hr:=Q0r (right_3 hR h3)
   have hfm:=Q01 hR (by omega)
   rw[if_pos h3]at k1 ⊢
   unfold rowsBits rowsHead at k1
   have m1:=k1.left.left.left
   have m2:=k1.left.left.right
   have m3:=k1.left.right
   have m4:=k1.right
   rw[flat_rows]at m4
   simp only[Q0e,List.length_append,Nat.zero_add]at m2 m3 m4
   have hrl:(rowsL a.Rows).length=a.Rows.l.length:=by rw[rowsL,List.length_map]
   rw[Z0h m1 (by omega),X0d,Z0h m2 (by omega),X0d,Z0h (a:=103+10+4) (by rw[Nat.add_assoc];exact m3) (by omega),X0d,Int.toNat_natCast,<- hrl,Z1p (by rw[show 103+10+4+4=103+(10+4+4) from rfl];exact m4) (fun r hr'=>by
    obtain⟨y,hy,rfl⟩:=List.mem_map.1 hr'
    have:=hr.2.2 y hy
    exact⟨by omega,fun x hx=>List.all_eq_true.1 this.2 x hx⟩) _ (Nat.le_refl _),X0d,List.take_length]
   refine congrArg Except.ok (Prod.ext ?_ ?_)
   ·rw[hx]
    simp only[headOf,canonP,hany]
    apply Q0a.ext'<;>first|rfl|exact hi.2.symm|exact hfm.1.symm|exact hfm.2.symm|skip
    show Q0a.zero.Inputs=lstP a.Inputs.l
    rw[hi.1];rfl
   ·rw[packBits,if_neg h2,if_pos h3,List.length_append,Y0h,rowsBits,List.length_append,Q0s,flat_rows];omega
  ·have hr:=X1a hR h3
   have hft:=right_first hR h2 h3
   rw[if_neg h3]at k1 ⊢
   by_cases h4:a.Kind=4
   ·rw[if_pos h4]at k1 ⊢
    have m1:=k1.left
    have m2:=k1.right
    simp only[Q0e]at m2
    rw[Z0h m1 (by omega),X0d,Z0h m2 (by omega),X0d]
    refine congrArg Except.ok (Prod.ext ?_ ?_)
    ·rw[hx]
     simp only[headOf,canonP,hany]
     apply Q0a.ext'<;>first|rfl|exact hi.2.symm|exact hr.2.symm|exact hft.symm|skip
     ·show Q0a.zero.Inputs=lstP a.Inputs.l
      rw[hi.1];rfl
     ·show Q0a.zero.Rows=rowsP (rowsL a.Rows)
      rw[rowsL,hr.1];rfl
    ·rw[packBits,if_neg h2,if_neg h3,if_pos h4,List.length_append,Y0h,List.length_append,Q0e,Q0e]
   ·have hfm:=Q01 hR h4
    rw[if_neg h4]
    refine congrArg Except.ok (Prod.ext ?_ ?_)
    ·rw[hx]
     simp only[headOf,canonP,hany]
     apply Q0a.ext'<;>first|rfl|exact hi.2.symm|exact hr.2.symm|exact hft.symm|exact hfm.1.symm|exact hfm.2.symm|skip
     ·show Q0a.zero.Inputs=lstP a.Inputs.l
      rw[hi.1];rfl
     ·show Q0a.zero.Rows=rowsP (rowsL a.Rows)
      rw[rowsL,hr.1];rfl
    ·rw[packBits,if_neg h2,if_neg h3,if_neg h4,List.append_nil,Y0h]
end Go.Proofs.Ytpchcfkebljopaa
end
section
namespace Go.Proofs.Ytpchcfkebljopaa
open Go.Cl Go Go.RowKit
set_option maxRecDepth 100000
set_option linter.constructorNameAsVariable false
noncomputable def resRF{α:Type}(f:α->CV)(i:Nat)(B:Lst Int)(p:Hp)(r:Except Int (α×Nat)): XRes:=match r with
 |.ok (x,a')=>.ret (f x) (p.set i (some (rdr B a')))
 |.error e=>.pan (fault 100 e) (p.set i none)
def R167: Rel:=fun args p r=>∃(i:Nat) (B:Lst Int) (a:Nat),args=[.ptr i []]/\(p.t.get i=some (rdr B a))/\(B.l.length<=140737488355328)/\(a<=8*B.l.length)/\(∀x∈B.l,0<=x/\x<=255)/\r=resRF Y0a.cv i B p (readIn B.l a)
theorem t167{T:XCall}(h:Has T 167 R167)(i:Nat)(B:Lst Int)(a:Nat){p:Hp}(h1:p.t.get i=some (rdr B a))(h2:B.l.length<=140737488355328)(h3:a<=8*B.l.length)(h5:∀x∈B.l,0<=x/\x<=255): T 167 [.ptr i []] p=resRF Y0a.cv i B p (readIn B.l a):=h _ _ _ ⟨i,B,a,rfl,h1,h2,h3,h5,rfl⟩
theorem zq167{A B:Prop}(k:B)(h:A=B:=by have zy:=zA @zw167<|zA @rs167<|zA @tt3<|zA @tt25<|zA @tt36<|zA ti3.eq_1<|zA ti25.eq_1<|zA ti36.eq_1<|zA @t_160<|zA @t_190<|zA @Z0e<|zA @h1<|zA @h2<|zA @h3<|@h5;exact zQ): A:=h▸k
theorem c167: Con C 167 R167:=by
 refine V0e C ?_ ?_ ?_
 ·rintro args p r r' ⟨i,B,a,h,h1,h2,h3,h5,e⟩ ⟨i',B',a',h',h1',h2',h3',h5',e'⟩
  subst e;subst e';(subst h;simp only[List.cons.injEq,CV.ptr.injEq,and_true,true_and]at h';subst h';obtain⟨e1,e2⟩:=X1b h1 h1';rw[e1,e2])
 ·rintro args p r ⟨i,B,a,h,h1,h2,h3,h5,rfl⟩;first|(split<;>simp;done)|(simp;done)|(simp only[resM];split<;>simp;done)|(simp only[resD];split<;>simp;done)  | (unfold resRF;split<;>simp;done)
 rintro args p r ⟨i,B,a,rfl,h1,h2,h3,h5,rfl⟩
 refine zW C false [(160,R160),(190,R190)] ⟨c160,c190,zT⟩ rfl xf167 zc167_ok fun call zh hF=>?_
 have t_160:=@t160 _ zh.1
 have t_190:=@t190 _ zh.2.1
 clear zh
 have hd_h1:=hF.dom _ _ h1
 have hi:=hF.dom _ _ h1
 have v1:=Y0r (bitB B.l) a 8 256 rfl
 by_cases c1:a+8<=8*B.l.length
 ·by_cases c2:a+8+8<=8*B.l.length
  ·by_cases c3:a+8+8+8<=8*B.l.length
   ·have hr:readIn B.l a=.ok (⟨valB (bitB B.l) a 8,sgnB (valB (bitB B.l) (a+8) 8) 8,sgnB (valB (bitB B.l) (a+8+8) 8) 8⟩,a+8+8+8):=by unfold readIn;simp only[sgetB,getB,c1,c2,c3,if_true,X0d]
    rw[hr]
    (have zx:=zA c1 (zA c2 (zA c3 h1));refine zq167 ?_;try exact zT)
    repeat'(apply zK.s<;>intro hc<;>(try simp only[zhd]at hc)<;>(try have hw:=X0a hc)<;>(refine zq167 ?_;try exact zT))
    all_goals(try clear zx)
    exact shr_rd hF h1 (fun j hj=>⟨_,by simp,hj⟩) (zg9) (fun k o hk h=>by have hd:=hF.dom _ _ h;simp (disch:=first|exact zdl|fail) only[Hp.bump_get,Hp.get_set_ne,Hp.get_new_ne];exact h) rfl (by intro jj;exact Y0a.nohas _ jj)
   ·have hr:readIn B.l a=.error ((a+8+8:Nat):Int):=by unfold readIn;simp only[sgetB,getB,c1,c2,c3,if_true,if_false,X0d,X0e]
    rw[hr]
    (have zx:=zA c1 (zA c2 (zA c3 h1));refine zq167 ?_;try exact zT)
    repeat'(apply zK.s<;>intro hc<;>(try simp only[zhd]at hc)<;>(try have hw:=X0a hc)<;>(refine zq167 ?_;try exact zT))
    all_goals(try clear zx)
    exact Q0k hF (fun k o hk h=>by have hd:=hF.dom _ _ h;simp (disch:=first|exact zdl|fail) only[Hp.bump_get,Hp.get_set_ne,Hp.get_new_ne];exact h) _ _
  ·have hr:readIn B.l a=.error ((a+8:Nat):Int):=by unfold readIn;simp only[sgetB,getB,c1,c2,if_true,if_false,X0d,X0e]
   rw[hr]
   (have zx:=zA c1 (zA c2 h1);refine zq167 ?_;try exact zT)
   repeat'(apply zK.s<;>intro hc<;>(try simp only[zhd]at hc)<;>(try have hw:=X0a hc)<;>(refine zq167 ?_;try exact zT))
   all_goals(try clear zx)
   exact Q0k hF (fun k o hk h=>by have hd:=hF.dom _ _ h;simp (disch:=first|exact zdl|fail) only[Hp.bump_get,Hp.get_set_ne,Hp.get_new_ne];exact h) _ _
 ·have hr:readIn B.l a=.error ((a:Nat):Int):=by unfold readIn;simp only[sgetB,getB,c1,if_false,X0e]
  rw[hr]
  (have zx:=zA c1 h1;refine zq167 ?_;try exact zT)
  repeat'(apply zK.s<;>intro hc<;>(try simp only[zhd]at hc)<;>(try have hw:=X0a hc)<;>(refine zq167 ?_;try exact zT))
  all_goals(try clear zx)
  exact Q0k hF (fun k o hk h=>by have hd:=hF.dom _ _ h;simp (disch:=first|exact zdl|fail) only[Hp.bump_get,Hp.get_set_ne,Hp.get_new_ne];exact h) _ _
theorem Bnd.in_(b:List Int)(a:Nat): Bnd b (readIn b a):=(Bnd.get b _ _).bind fun _ _ _=>(Bnd.sget b _ _).bind fun _ _ _=>(Bnd.sget b _ _).bind fun _ _ h=>Bnd.pure _ h
theorem shr_set2{args:List CV}{p p':Hp}{v u:CV}{i k:Nat}{o1 o2:XObj}(hF:Fine args p)(hi:i<p.n)(hk:k<p.n)(hik:i≠k)(hle:∀j o,j≠i->j≠k->p.t.get j=some o->p'.t.get j=some o)(h1:∃o',p'.t.get i=some o'/\XObj.weak (fun k=>k) p.n o' o1)(h2:∃o',p'.t.get k=some o'/\XObj.weak (fun k=>k) p.n o' o2)(hv:CV.weak (fun k=>k) p.n v u): ShrR p (.ret v p') (.ret u ((p.set i (some o1)).set k (some o2))):=by
 refine Y1i (Nat.le_refl _) (fun j o h=>?_) hv
 show j<p.n/\_
 by_cases e2:j=k
 ·subst e2
  rw[Hp.get_set_self]at h;cases h
  exact⟨hk,.inr h2⟩
 ·rw[Hp.get_set_ne _ _ _ e2]at h
  by_cases e1:j=i
  ·subst e1
   rw[Hp.get_set_self]at h;cases h
   exact⟨hi,.inr h1⟩
  ·rw[Hp.get_set_ne _ _ _ e1]at h
   have hd:=hF.dom _ _ h
   exact⟨hd,.inl ⟨hd,h,hle _ _ e1 e2 h⟩⟩
theorem Y0s{args:List CV}{p p':Hp}{v u:CV}{i k:Nat}(hF:Fine args p)(hle:∀j o,j≠i->j≠k->p.t.get j=some o->p'.t.get j=some o)(hv:CV.weak (fun k=>k) p.n v u): ShrR p (.pan v p') (.pan u ((p.set i none).set k none)):=by
 refine shr_idP (Nat.le_refl _) (fun j o h=>?_) hv
 show j<p.n/\_
 by_cases e2:j=k
 ·subst e2
  rw[Hp.get_set_self]at h;cases h
 ·rw[Hp.get_set_ne _ _ _ e2]at h
  by_cases e1:j=i
  ·subst e1
   rw[Hp.get_set_self]at h;cases h
  ·rw[Hp.get_set_ne _ _ _ e1]at h
   have hd:=hF.dom _ _ h
   exact⟨hd,.inl ⟨hd,h,hle _ _ e1 e2 h⟩⟩
def AppT{α:Type}(s:Lst α): Prop:=s.tl=.nil\/(∃j,s.tl=.own j)/\s.l≠[]
theorem AppT.weak{α:Type}{f g:α->CV}{s:Lst α}{m:List α}(h:AppT s)(n:Nat)(hm:CV.weakL (fun k=>k) n (s.l.map f) (m.map g)): CV.weak (fun k=>k) n (s.cv f) ((lstP m).cv g):=by
 obtain⟨tl,l,o⟩:=s
 have hl:l=[] ↔ m=[]:=by
  cases l<;>cases m<;>simp[CV.weakL]at hm ⊢
 rcases h with h|⟨⟨j,h⟩,h2⟩
 ·simp only at h
  subst h
  have e:=o rfl
  subst e
  have e2:=hl.1 rfl
  subst e2
  simp[lstP,Lst.cv,CV.weak,Tail.weak,CV.weakL]
 ·simp only at h h2
  subst h
  have e2:¬m=[]:=fun e=>h2 (hl.2 e)
  simp only[lstP,dif_neg e2,Lst.cv,CV.weak,Tail.weak,true_and]
  exact hm
theorem rows_weak{n:Nat}: ∀{l:List (Lst V0a)},(∀x∈l,AppT x)->CV.weakL (fun k=>k) n (l.map (Lst.cv V0a.cv)) ((l.map fun x=>lstP x.l).map (Lst.cv V0a.cv))
 |[],_=>trivial
 |x::l,h=>⟨(h x (.head _)).weak n (CV.weakL_refl _ fun j hj=>(V0i (f:=V0a.cv) V0a.nohas _ j hj).elim),rows_weak fun y hy=>h y (.tail _ hy)⟩
theorem App.T{α:Type}{n0:Nat}{s:Lst α}{q:Hp}(h:App n0 s q): AppT s:=by
 rcases h with h|⟨j,h,_,_,_,h0⟩
 ·exact .inl h
 ·exact .inr ⟨⟨j,h⟩,fun e=>by rw[e]at h0;simp at h0⟩
theorem V0y{n:Nat}{x:Q0a}{I1 I2:Lst Y0a}{R1 R2:Lst (Lst V0a)}(hI:CV.weak (fun k=>k) n (I1.cv Y0a.cv) (I2.cv Y0a.cv))(hR:CV.weak (fun k=>k) n (R1.cv (Lst.cv V0a.cv)) (R2.cv (Lst.cv V0a.cv))): CV.weak (fun k=>k) n (Q0a.cv {x with Inputs:=I1,Rows:=R1}) (Q0a.cv {x with Inputs:=I2,Rows:=R2}):=by
 simp only[Q0a.cv,CV.weak,CV.weakL,true_and,and_true]
 exact⟨hI,hR⟩
noncomputable def resRR(i k:Nat)(B:Lst Int)(p:Hp)(r:Except Int (Q0a×Nat)): XRes:=match r with
 |.ok (y,a')=>.ret (.tup []) ((p.set i (some (rdr B a'))).set k (some (.var sh94 y.cv)))
 |.error e=>.pan (fault 100 e) ((p.set i none).set k none)
def J168(i k:Nat)(B:Lst Int)(x0:Q0a)(a0 N R:Nat)(p:Hp)(n:Nat)(ρ:Env)(q:Hp): Prop:=
 ∃(m a':Nat) (acc:Lst (Lst V0a)),n=R-m/\m<=R/\ρ 0=.ptr i []/\ρ 1=.ptr k []/\ρ 20=I R/\ρ 21=I m/\readRows B.l N a0 m=.ok (rowsL acc,a')/\a'<=8*B.l.length/\acc.l.length=m/\App (p.n-1) acc q/\(∀x∈acc.l,AppT x)/\q.t.get i=some (rdr B a')/\q.t.get k=some (.var sh94 (Q0a.cv {x0 with Rows:=acc}))/\p.n<=q.n/\∀j o,j≠i->j≠k->p.t.get j=some o->q.t.get j=some o
def K168(i k:Nat)(B:Lst Int)(a1 N R m:Nat)(q1:Hp)(n:Nat)(ρ:Env)(q:Hp): Prop:=
 ∃(c a':Nat) (row:Lst V0a),n=N-c/\c<=N/\ρ 0=.ptr i []/\ρ 1=.ptr k []/\ρ 20=I R/\ρ 21=I m/\ρ 4=row.cv V0a.cv/\ρ 26=I N/\ρ 27=I c/\readRow B.l a1 c=.ok (row.l,a')/\a'<=8*B.l.length/\row.l.length=c/\App (q1.n-1) row q/\q.t.get i=some (rdr B a')/\q1.n<=q.n/\∀j o,j≠i->j<q1.n->q1.t.get j=some o->q.t.get j=some o
def R168: Rel:=fun args p r=>∃(i k:Nat) (B:Lst Int) (a:Nat) (x:Q0a),args=[.ptr i [],.ptr k []]/\(p.t.get i=some (rdr B a))/\(B.l.length<=140737488355328)/\(a<=8*B.l.length)/\(∀x∈B.l,0<=x/\x<=255)/\(p.t.get k=some (.var sh94 x.cv))/\(x.Rows=⟨.nil,[],fun _=>rfl⟩)/\(i≠k)/\(x.Inputs=⟨.nil,[],fun _=>rfl⟩)/\r=resRR i k B p (readTail3 B.l x a)
theorem t168{T:XCall}(h:Has T 168 R168)(i k:Nat)(B:Lst Int)(a:Nat)(x:Q0a){p:Hp}(h1:p.t.get i=some (rdr B a))(h2:B.l.length<=140737488355328)(h3:a<=8*B.l.length)(h5:∀x∈B.l,0<=x/\x<=255)(h4:p.t.get k=some (.var sh94 x.cv))(h6:x.Rows=⟨.nil,[],fun _=>rfl⟩)(h7:i≠k)(h8:x.Inputs=⟨.nil,[],fun _=>rfl⟩): T 168 [.ptr i [],.ptr k []] p=resRR i k B p (readTail3 B.l x a):=h _ _ _ ⟨i,k,B,a,x,rfl,h1,h2,h3,h5,h4,h6,h7,h8,rfl⟩
theorem zq168{A B:Prop}(k:B)(h:A=B:=by((try simp -dsimp (disch:=first|exact zdis|fail) only[zcore,zall,zopm,zop,zcallOp,qop,qbuiltin,ofOpt,List.map,reduceCtorEq,if_true,if_false,↓reduceIte,zbin,eqRes,qassert,qnum,qshift,qun,kindOf,allocV,List.nil_append,List.append_nil,List.cons_append,List.length_cons,List.length_nil,Nat.reduceAdd,Nat.reduceEqDiff,Nat.reduceLT,Nat.reduceSub,Nat.reduceMul,Int.reduceToNat,Int.reduceLE,Int.reduceLT,Int.reduceEq,Int.reduceNeg,Int.reduceAdd,Int.reduceSub,beq_self_eq_true,cond_true,cond_false,isConstOpd,xpanic,xconv,isBytes,qconv,List.length_map,List.map_nil,List.map_cons,concrete,Option.some.injEq,exists_eq',Option.map_some,Option.map_none,List.getElem?_cons_zero,List.getElem?_cons_succ,zw168,rs168,tt3,tt4,tt25,tt36,tt92,tt94,tt108,tt110,ti3,ti4,ti25,ti36,ti92,ti94,ti108,ti110,t_160,t_167,K0e,Y0f,Z0e,zsl92,zsl108,resRF,h1,h2,h3,h5,h4,h6,h7,h8,zx,hc]);rfl)): A:=h▸k
theorem c168: Con C 168 R168:=by
 refine V0e C ?_ ?_ ?_
 ·rintro args p r r' ⟨i,k,B,a,x,h,h1,h2,h3,h5,h4,h6,h7,h8,e⟩ ⟨i',k',B',a',x',h',h1',h2',h3',h5',h4',h6',h7',h8',e'⟩
  subst e;subst e';(subst h;simp only[List.cons.injEq,CV.ptr.injEq,and_true,true_and]at h';obtain⟨e0,e3⟩:=h';subst e0;subst e3;obtain⟨e1,e2⟩:=X1b h1 h1';rw[h4]at h4';simp only[Option.some.injEq,XObj.var.injEq,true_and,Q0a.inj_iff]at h4';rw[e1,e2,h4'])
 ·rintro args p r ⟨i,k,B,a,x,h,h1,h2,h3,h5,h4,h6,h7,h8,rfl⟩;first|(split<;>simp;done)|(simp;done)|(simp only[resM];split<;>simp;done)|(simp only[resD];split<;>simp;done)  | (unfold resRR;split<;>simp;done)
 rintro args p r ⟨i,k,B,a,x,rfl,h1,h2,h3,h5,h4,h6,h7,h8,rfl⟩
 refine zW C false [(160,R160),(167,R167)] ⟨c160,c167,zT⟩ rfl xf168 zc168_ok fun call zh hF=>?_
 have t_160:=@t160 _ zh.1
 have t_167:=@t167 _ zh.2.1
 clear zh
 have hd_h1:=hF.dom _ _ h1
 have hd_h4:=hF.dom _ _ h4
 have hi:=hF.dom _ _ h1
 have hk:=hF.dom _ _ h4
 have v1:=Y0r (bitB B.l) a 10 1024 rfl
 have v2:=Y0r (bitB B.l) (a+10) 4 16 rfl
 have v3:=Y0r (bitB B.l) (a+10+4) 4 16 rfl
 by_cases c1:a+10<=8*B.l.length
 ·by_cases c2:a+10+4<=8*B.l.length
  ·by_cases c3:a+10+4+4<=8*B.l.length
   ·obtain⟨N,hN⟩:∃N:Nat,valB (bitB B.l) (a+10) 4=N:=⟨(valB (bitB B.l) (a+10) 4).toNat,by omega⟩
    obtain⟨R,hRR⟩:∃R:Nat,valB (bitB B.l) (a+10+4) 4=R:=⟨(valB (bitB B.l) (a+10+4) 4).toNat,by omega⟩
    have hN16:N<16:=by omega
    have hR16:R<16:=by omega
    obtain⟨x0,hx0⟩:∃y:Q0a,y={x with First:=valB (bitB B.l) a 10,Players:=(N:Int)}:=⟨_,rfl⟩
    have htail:readTail3 B.l x a=bindE (readRows B.l N (a+10+4+4) R) fun l a=>.ok ({x0 with Rows:=rowsP l},a):=by
     unfold readTail3;simp only[getB,c1,c2,c3,if_true,X0d,hN,hRR,Int.toNat_natCast,hx0]
    rw[htail]
    (have zx:=zA c1 (zA c2 (zA c3 (zA hN (zA hRR (zA h1 h4)))));refine zq168 ?_;try exact zT)
    repeat'(apply zK.s<;>intro hc<;>(try simp only[zhd]at hc)<;>(try have hw:=X0a hc)<;>(refine zq168 ?_;try exact zT))
    all_goals(try clear zx)
    (show W C false noExt call (ZC.loop Q18) _ _ _);refine Z0j C false noExt call Q18 _ _ _ (J168 i k B x0 (a+10+4+4) N R p) R ⟨0,a+10+4+4,⟨.nil,[],fun _=>rfl⟩,rfl,by omega,by simp[put_at,K0d,Z0g],by simp[put_at,K0d,Z0g,Y0t],zev,zev,rfl,c3,rfl,.inl rfl,nofun,zg9,?_,zb9,fun j o hj1 hj2 h=>by simp (disch:=first|exact zdl|fail) only[zheap];exact h⟩ ?_
    ·simp (disch:=first|exact zdl|fail) only[zheap]
     rw[hx0]
     simp only[h8]
    rintro n ρ q ⟨m,a',acc,rfl,hm,e0,e1,e20,e21,hrd,ha',hal,happ,hat,g1,g2,hpq,hle⟩
    have hxp:x0.Players=(N:Int):=by rw[hx0]
    by_cases hlt:(m:Int)<R
    ·(have zx:=zA e0 (zA e1 (zA e20 (zA e21 (zA g1 (zA g2 (zA hlt (zA hxp (zA h1 h4))))))));refine zq168 ?_;try exact zT)
     repeat'(apply zK.s<;>intro hc<;>(try simp only[zhd]at hc)<;>(try have hw:=X0a hc)<;>(refine zq168 ?_;try exact zT))
     all_goals(try clear zx)
     (show W C false noExt call (ZC.loop V1g) _ _ _);refine Z0j C false noExt call V1g _ _ _ (K168 i k B a' N R m q) N ⟨0,a',⟨.nil,[],fun _=>rfl⟩,rfl,by omega,zev,zev,zev,zev,by simp[put_at,K0d];rfl,zev,zev,rfl,ha',rfl,.inl rfl,g1,Nat.le_refl _,fun j o _ _ h=>h⟩ ?_
     clear e0 e1 e20 e21
     rintro n ρ r ⟨c,a2,row,rfl,hc,e0,e1,e20,e21,e4,e26,e27,hrow,ha2,hrl,happ2,g3,hqr,hle2⟩
     have hnx:readRow B.l a' (c+1)=bindE (readCell B.l a2) fun x a=>.ok (row.l++[x],a):=by
      show bindE (readRow B.l a' c) _=_
      rw[hrow,X0d]
     have herr:∀e,c<N->readCell B.l a2=.error e->readRows B.l N (a+10+4+4) R=.error e:=fun e hcN he=>by
      rw[he,X0e]at hnx
      have h1:=Z1q (N-(c+1)) hnx
      rw[show c+1+(N-(c+1))=N by omega]at h1
      have h2:readRows B.l N (a+10+4+4) (m+1)=.error e:=by
       show bindE (readRows B.l N (a+10+4+4) m) _=_
       rw[hrd,X0d,h1,X0e]
      have h3:=Y1e (R-(m+1)) h2
      rwa [show m+1+(R-(m+1))=R by omega]at h3
     have v4:=Y0r (bitB B.l) a2 1 2 rfl
     by_cases hlt2:(c:Int)<N
     ·by_cases c4:a2+1<=8*B.l.length
      ·by_cases hf:valB (bitB B.l) a2 1=1
       ·cases hri:readIn B.l (a2+1) with
        |error e=>
         have hrc:readCell B.l a2=.error e:=by unfold readCell;simp only[getB,c4,if_true,X0d,hf,hri,X0e]
         rw[herr e (by omega) hrc,X0e]
         (have zx:=zA e0 (zA e1 (zA e20 (zA e21 (zA e4 (zA e26 (zA e27 (zA g3 (zA hlt2 (zA c4 (zA hf (zA hri (zA h1 h4))))))))))));refine zq168 ?_;try exact zT)
         repeat'(apply zK.s<;>intro hc<;>(try simp only[zhd]at hc)<;>(try have hw:=X0a hc)<;>(refine zq168 ?_;try exact zT))
         all_goals(try clear zx)
         exact Y0s hF (fun j o hj1 hj2 h=>by have hd:=hF.dom _ _ h;have hq:=hle2 j o hj1 (by omega) (hle j o hj1 hj2 h);first|exact hq|(simp (disch:=first|exact zdl|fail) only[zheap];exact hq)) (Y0d (X0c (V0w 100 _)))
        |ok y=>
         obtain⟨inp,a3⟩:=y
         have hb3:a3<=8*B.l.length:=Bnd.in_ _ _ _ _ hri
         have hrc:readCell B.l a2=.ok (⟨true,inp⟩,a3):=by unfold readCell;simp only[getB,c4,if_true,X0d,hf,hri]
         have hnext:=hnx
         rw[hrc,X0d]at hnext
         obtain⟨tl,rl,ok⟩:=row
         simp only at hnext hrl
         rcases happ2 with ht|⟨j2,ht,hj1,hj2,hj3,hj4⟩
         ·simp only at ht
          subst ht
          (have zx:=zA e0 (zA e1 (zA e20 (zA e21 (zA e4 (zA e26 (zA e27 (zA g3 (zA hlt2 (zA c4 (zA hf (zA hri (zA h1 h4))))))))))));refine zq168 ?_;try exact zT)
          repeat'(apply zK.s<;>intro hc<;>(try simp only[zhd]at hc)<;>(try have hw:=X0a hc)<;>(refine zq168 ?_;try exact zT))
          all_goals(try clear zx)
          refine⟨N-(c+1),by omega,c+1,a3,⟨.own (r.n+1),rl++[⟨true,inp⟩],nofun⟩,rfl,by omega,zev,zev,zev,zev,zev,zev,zev,hnext,hb3,by simp[hrl],.inr ⟨(r.n+1),rfl,zdl,zdl,by simp (disch:=first|exact zdl|fail) only[zheap];simp[hrl],by simp⟩,zg9,zdl,fun j o hj hjq h=>by have hq:=hle2 j o hj hjq h;simp (disch:=first|exact zdl|fail) only[zheap];exact hq⟩
         ·simp only at ht hj3 hj4
          subst ht
          (have zx:=zA e0 (zA e1 (zA e20 (zA e21 (zA e4 (zA e26 (zA e27 (zA g3 (zA hlt2 (zA c4 (zA hf (zA hri (zA hj3 (zA hj4 (zA h1 h4))))))))))))));refine zq168 ?_;try exact zT)
          repeat'(apply zK.s<;>intro hc<;>(try simp only[zhd]at hc)<;>(try have hw:=X0a hc)<;>(refine zq168 ?_;try exact zT))
          all_goals(try clear zx)
          refine⟨N-(c+1),by omega,c+1,a3,⟨.own (r.n+1),rl++[⟨true,inp⟩],nofun⟩,rfl,by omega,zev,zev,zev,zev,zev,zev,zev,hnext,hb3,by simp[hrl],.inr ⟨(r.n+1),rfl,zdl,zdl,by simp (disch:=first|exact zdl|fail) only[zheap];simp[hrl],by simp⟩,zg9,zdl,fun j o hj hjq h=>by have hq:=hle2 j o hj hjq h;simp (disch:=first|exact zdl|fail) only[zheap];exact hq⟩
       ·have hrc:readCell B.l a2=.ok (⟨false,Y0a.zero⟩,a2+1):=by unfold readCell;simp only[getB,c4,if_true,X0d,hf,if_false]
        have hnext:=hnx
        rw[hrc,X0d]at hnext
        obtain⟨tl,rl,ok⟩:=row
        simp only at hnext hrl
        rcases happ2 with ht|⟨j2,ht,hj1,hj2,hj3,hj4⟩
        ·simp only at ht
         subst ht
         (have zx:=zA e0 (zA e1 (zA e20 (zA e21 (zA e4 (zA e26 (zA e27 (zA g3 (zA hlt2 (zA c4 (zA hf (zA h1 h4)))))))))));refine zq168 ?_;try exact zT)
         repeat'(apply zK.s<;>intro hc<;>(try simp only[zhd]at hc)<;>(try have hw:=X0a hc)<;>(refine zq168 ?_;try exact zT))
         all_goals(try clear zx)
         refine⟨N-(c+1),by omega,c+1,(a2+1),⟨.own (r.n+1),rl++[⟨false,Y0a.zero⟩],nofun⟩,rfl,by omega,zev,zev,zev,zev,zev,zev,zev,hnext,c4,by simp[hrl],.inr ⟨(r.n+1),rfl,zdl,zdl,by simp (disch:=first|exact zdl|fail) only[zheap];simp[hrl],by simp⟩,zg9,zdl,fun j o hj hjq h=>by have hq:=hle2 j o hj hjq h;simp (disch:=first|exact zdl|fail) only[zheap];exact hq⟩
        ·simp only at ht hj3 hj4
         subst ht
         (have zx:=zA e0 (zA e1 (zA e20 (zA e21 (zA e4 (zA e26 (zA e27 (zA g3 (zA hlt2 (zA c4 (zA hf (zA hj3 (zA hj4 (zA h1 h4)))))))))))));refine zq168 ?_;try exact zT)
         repeat'(apply zK.s<;>intro hc<;>(try simp only[zhd]at hc)<;>(try have hw:=X0a hc)<;>(refine zq168 ?_;try exact zT))
         all_goals(try clear zx)
         refine⟨N-(c+1),by omega,c+1,(a2+1),⟨.own (r.n+1),rl++[⟨false,Y0a.zero⟩],nofun⟩,rfl,by omega,zev,zev,zev,zev,zev,zev,zev,hnext,c4,by simp[hrl],.inr ⟨(r.n+1),rfl,zdl,zdl,by simp (disch:=first|exact zdl|fail) only[zheap];simp[hrl],by simp⟩,zg9,zdl,fun j o hj hjq h=>by have hq:=hle2 j o hj hjq h;simp (disch:=first|exact zdl|fail) only[zheap];exact hq⟩
      ·have hrc:readCell B.l a2=.error ((a2:Nat):Int):=by unfold readCell;simp only[getB,c4,if_false,X0e]
       rw[herr _ (by omega) hrc,X0e]
       (have zx:=zA e0 (zA e1 (zA e20 (zA e21 (zA e4 (zA e26 (zA e27 (zA g3 (zA hlt2 (zA c4 (zA h1 h4))))))))));refine zq168 ?_;try exact zT)
       repeat'(apply zK.s<;>intro hc<;>(try simp only[zhd]at hc)<;>(try have hw:=X0a hc)<;>(refine zq168 ?_;try exact zT))
       all_goals(try clear zx)
       exact Y0s hF (fun j o hj1 hj2 h=>by have hd:=hF.dom _ _ h;have hq:=hle2 j o hj1 (by omega) (hle j o hj1 hj2 h);first|exact hq|(simp (disch:=first|exact zdl|fail) only[zheap];exact hq)) (Y0d (X0c (V0w 100 _)))
     ·have hcN:c=N:=by omega
      rw[hcN]at hrow
      have hnext:readRows B.l N (a+10+4+4) (m+1)=.ok (rowsL acc++[row.l],a2):=by
       show bindE (readRows B.l N (a+10+4+4) m) _=_
       rw[hrd,X0d,hrow,X0d]
      have g4:=hle2 k _ (Ne.symm h7) (by omega) g2
      have hrt:=happ2.T
      obtain⟨tl,al,ok⟩:=acc
      simp only at hal hat
      have hat2:∀x∈al++[row],AppT x:=fun x hx=>by
       rcases List.mem_append.1 hx with hx|hx
       ·exact hat x hx
       ·rw[List.mem_singleton.1 hx];exact hrt
      rcases happ with ht|⟨j1,ht,hj1,hj2,hj3,hj4⟩
      ·simp only at ht
       subst ht
       (have zx:=zA e0 (zA e1 (zA e20 (zA e21 (zA e4 (zA e26 (zA e27 (zA g3 (zA g4 (zA hlt2 (zA h1 h4))))))))));refine zq168 ?_;try exact zT)
       repeat'(apply zK.s<;>intro hc<;>(try simp only[zhd]at hc)<;>(try have hw:=X0a hc)<;>(refine zq168 ?_;try exact zT))
       all_goals(try clear zx)
       refine⟨R-(m+1),by omega,m+1,a2,⟨.own r.n,al++[row],nofun⟩,rfl,by omega,zev,zev,zev,zev,by rw[hnext];simp[rowsL],ha2,by simp[hal],.inr ⟨r.n,rfl,zdl,zdl,by simp (disch:=first|exact zdl|fail) only[zheap];simp[hal],by simp⟩,hat2,zg9,by simp (disch:=first|exact zdl|fail) only[zheap]<;>rfl,zdl,fun j o hj1 hj2 h=>by have hd:=hF.dom _ _ h;have hq:=hle2 j o hj1 (by omega) (hle j o hj1 hj2 h);simp (disch:=first|exact zdl|fail) only[zheap];exact hq⟩
      ·simp only at ht hj3 hj4
       subst ht
       have hj5:=hle2 j1 _ (by omega) hj2 hj3
       (have zx:=zA e0 (zA e1 (zA e20 (zA e21 (zA e4 (zA e26 (zA e27 (zA g3 (zA g4 (zA hlt2 (zA hj4 (zA hj5 (zA h1 h4))))))))))));refine zq168 ?_;try exact zT)
       repeat'(apply zK.s<;>intro hc<;>(try simp only[zhd]at hc)<;>(try have hw:=X0a hc)<;>(refine zq168 ?_;try exact zT))
       all_goals(try clear zx)
       refine⟨R-(m+1),by omega,m+1,a2,⟨.own r.n,al++[row],nofun⟩,rfl,by omega,zev,zev,zev,zev,by rw[hnext];simp[rowsL],ha2,by simp[hal],.inr ⟨r.n,rfl,zdl,zdl,by simp (disch:=first|exact zdl|fail) only[zheap];simp[hal],by simp⟩,hat2,zg9,by simp (disch:=first|exact zdl|fail) only[zheap]<;>rfl,zdl,fun j o hj1 hj2 h=>by have hd:=hF.dom _ _ h;have hq:=hle2 j o hj1 (by omega) (hle j o hj1 hj2 h);simp (disch:=first|exact zdl|fail) only[zheap];exact hq⟩
    ·have hmR:m=R:=by omega
     rw[hmR]at hrd
     rw[hrd,X0d]
     have hI0:x0.Inputs=⟨.nil,[],fun _=>rfl⟩:=by rw[hx0];exact h8
     (have zx:=zA e0 (zA e1 (zA e20 (zA e21 (zA g1 (zA g2 (zA hlt (zA h1 h4)))))));refine zq168 ?_;try exact zT)
     repeat'(apply zK.s<;>intro hc<;>(try simp only[zhd]at hc)<;>(try have hw:=X0a hc)<;>(refine zq168 ?_;try exact zT))
     all_goals(try clear zx)
     exact shr_set2 hF hi hk h7 hle ⟨_,g1,K0l fun j hj=>hF.lt_obj (.arg (a:=CV.ptr i []) (by simp) rfl) h1 j hj⟩ ⟨_,g2,rfl,V0y (Y0d (X0c (by rw[hI0];exact nilHas _))) (by rw[rowsP,rowsL,List.map_map];exact happ.T.weak _ (rows_weak hat))⟩ (Y0d (X0c tup0_no))
   ·have hr:readTail3 B.l x a=.error ((a+10+4:Nat):Int):=by unfold readTail3;simp only[getB,c1,c2,c3,if_true,if_false,X0d,X0e]
    rw[hr]
    (have zx:=zA c1 (zA c2 (zA c3 (zA h1 h4)));refine zq168 ?_;try exact zT)
    repeat'(apply zK.s<;>intro hc<;>(try simp only[zhd]at hc)<;>(try have hw:=X0a hc)<;>(refine zq168 ?_;try exact zT))
    all_goals(try clear zx)
    exact Y0s hF (fun j o hj1 hj2 h=>by have hd:=hF.dom _ _ h;simp (disch:=first|exact zdl|fail) only[zheap];exact h) (Y0d (X0c (V0w 100 _)))
  ·have hr:readTail3 B.l x a=.error ((a+10:Nat):Int):=by unfold readTail3;simp only[getB,c1,c2,if_true,if_false,X0d,X0e]
   rw[hr]
   (have zx:=zA c1 (zA c2 (zA h1 h4));refine zq168 ?_;try exact zT)
   repeat'(apply zK.s<;>intro hc<;>(try simp only[zhd]at hc)<;>(try have hw:=X0a hc)<;>(refine zq168 ?_;try exact zT))
   all_goals(try clear zx)
   exact Y0s hF (fun j o hj1 hj2 h=>by have hd:=hF.dom _ _ h;simp (disch:=first|exact zdl|fail) only[zheap];exact h) (Y0d (X0c (V0w 100 _)))
 ·have hr:readTail3 B.l x a=.error ((a:Nat):Int):=by unfold readTail3;simp only[getB,c1,if_true,if_false,X0d,X0e]
  rw[hr]
  (have zx:=zA c1 (zA h1 h4);refine zq168 ?_;try exact zT)
  repeat'(apply zK.s<;>intro hc<;>(try simp only[zhd]at hc)<;>(try have hw:=X0a hc)<;>(refine zq168 ?_;try exact zT))
  all_goals(try clear zx)
  exact Y0s hF (fun j o hj1 hj2 h=>by have hd:=hF.dom _ _ h;simp (disch:=first|exact zdl|fail) only[zheap];exact h) (Y0d (X0c (V0w 100 _)))
theorem Bnd.cell(b:List Int)(a:Nat): Bnd b (readCell b a):=by
 unfold readCell
 refine(Bnd.get b _ _).bind fun k a h=>?_
 split
 ·exact(Bnd.in_ b _).bind fun _ _ h=>Bnd.pure _ h
 ·exact Bnd.pure _ h
def J111(i:Nat)(B:Lst Int)(x0:Q0a)(a0 N:Nat)(p:Hp)(n:Nat)(ρ:Env)(q:Hp): Prop:=
 ∃(m a':Nat) (acc:Lst Y0a),n=N-m/\m<=N/\ρ 0=.ptr i []/\ρ 2=.ptr p.n []/\ρ 3=.ptr (p.n+1) []/\ρ 41=I N/\ρ 42=I m/\readIns B.l a0 m=.ok (acc.l,a')/\a'<=8*B.l.length/\acc.l.length=m/\App (p.n+1) acc q/\q.t.get i=some (rdr B a')/\q.t.get p.n=some (.var sh94 Q0a.zero.cv)/\q.t.get (p.n+1)=some (.var sh94 (Q0a.cv {x0 with Inputs:=acc}))/\p.n+1<q.n/\∀j o,j≠i->p.t.get j=some o->q.t.get j=some o
theorem lstP_no{α:Type}{f:α->CV}{l:List α}(hf:∀x∈l,∀j,¬(f x).has j)(j:Nat): ¬((lstP l).cv f).has j:=by
 have hL:∀m:List α,(∀x∈m,∀j,¬(f x).has j)->¬CV.hasL j (m.map f):=by
  intro m hm
  induction m with
  |nil=>simp[CV.hasL]
  |cons x m ih=>
   simp only[List.map_cons,CV.hasL]
   rintro(h|h)
   ·exact hm x (.head _) j h
   ·exact ih (fun y hy=>hm y (.tail _ hy)) h
 unfold lstP
 split
 ·exact nilHas _ j
 ·simp only[Lst.cv,CV.has]
  rintro(h|h)
  ·cases h
  ·exact hL l hf h
theorem rowsP_no(l:List (List V0a))(j:Nat): ¬((rowsP l).cv (Lst.cv V0a.cv)).has j:=
 lstP_no (fun x hx j=>by
  obtain⟨y,_,rfl⟩:=List.mem_map.1 hx
  exact lstP_no (fun z _ j=>V0a.nohas z j) j) j
theorem tail3_no{b:List Int}{x y:Q0a}{a a2:Nat}(h:readTail3 b x a=.ok (y,a2))(hx:x.Inputs=⟨.nil,[],fun _=>rfl⟩)(j:Nat): ¬y.cv.has j:=by
 unfold readTail3 at h
 cases h1:getB b 10 a with
 |error e=>rw[h1,X0e]at h;cases h
 |ok f=>
  obtain⟨f,a3⟩:=f
  rw[h1,X0d]at h
  cases h2:getB b 4 a3 with
  |error e=>rw[h2,X0e]at h;cases h
  |ok n=>
   obtain⟨n,a4⟩:=n
   rw[h2,X0d]at h
   cases h3:getB b 4 a4 with
   |error e=>rw[h3,X0e]at h;cases h
   |ok r=>
    obtain⟨r,a5⟩:=r
    rw[h3,X0d]at h
    cases h4:readRows b n.toNat a5 r.toNat with
    |error e=>rw[h4,X0e]at h;cases h
    |ok l=>
     obtain⟨l,a6⟩:=l
     rw[h4,X0d]at h
     cases h
     rw[packHas]
     rintro(h|h)
     ·simp only[hx]at h
      exact nilHas _ j h
     ·exact rowsP_no l j h
theorem shr_pk{args:List CV}{p:Hp}{i a a':Nat}{B:Lst Int}(hF:Fine args p)(h1:p.t.get i=some (rdr B a))(ha:CV.ptr i []∈args){q:Hp}(hg:q.t.get i=some (rdr B a'))(hle:∀k o,k≠i->p.t.get k=some o->q.t.get k=some o){v u:CV}(hv:CV.weak (fun k=>k) p.n v u): ShrR p (.ret v q) (.ret u (p.set i (some (rdr B a')))):=
 V1s hF (hF.dom _ _ h1) hle ⟨_,hg,K0l fun j hj'=>hF.lt_obj (.arg ha rfl) h1 j hj'⟩ hv
def R111: Rel:=fun args p r=>∃(i:Nat) (B:Lst Int) (a:Nat),args=[.ptr i []]/\(p.t.get i=some (rdr B a))/\(B.l.length<=140737488355328)/\(a<=8*B.l.length)/\(∀x∈B.l,0<=x/\x<=255)/\r=resRF Q0a.cv i B p (readPa B.l a)
theorem t111{T:XCall}(h:Has T 111 R111)(i:Nat)(B:Lst Int)(a:Nat){p:Hp}(h1:p.t.get i=some (rdr B a))(h2:B.l.length<=140737488355328)(h3:a<=8*B.l.length)(h5:∀x∈B.l,0<=x/\x<=255): T 111 [.ptr i []] p=resRF Q0a.cv i B p (readPa B.l a):=h _ _ _ ⟨i,B,a,rfl,h1,h2,h3,h5,rfl⟩
theorem zq111{A B:Prop}(k:B)(h:A=B:=by((try simp -dsimp (disch:=first|exact zdis|fail) only[zcore,zall,zopm,zop,zcallOp,qop,qbuiltin,ofOpt,List.map,reduceCtorEq,if_true,if_false,↓reduceIte,zbin,eqRes,qassert,qnum,qshift,qun,kindOf,allocV,List.nil_append,List.append_nil,List.cons_append,List.length_cons,List.length_nil,Nat.reduceAdd,Nat.reduceEqDiff,Nat.reduceLT,Nat.reduceSub,Nat.reduceMul,Int.reduceToNat,Int.reduceLE,Int.reduceLT,Int.reduceEq,Int.reduceNeg,Int.reduceAdd,Int.reduceSub,beq_self_eq_true,cond_true,cond_false,isConstOpd,xpanic,xconv,isBytes,qconv,List.length_map,List.map_nil,List.map_cons,concrete,Option.some.injEq,exists_eq',Option.map_some,Option.map_none,List.getElem?_cons_zero,List.getElem?_cons_succ,zw111,rs111,tt3,tt4,tt25,tt91,tt94,ti3,ti4,ti25,ti91,ti94,t_160,t_167,t_168,K0e,Z0e,zsl91,resRF,resRR,h1,h2,h3,h5,zx,hc]);rfl)): A:=h▸k
theorem c111: Con C 111 R111:=by
 refine V0e C ?_ ?_ ?_
 ·rintro args p r r' ⟨i,B,a,h,h1,h2,h3,h5,e⟩ ⟨i',B',a',h',h1',h2',h3',h5',e'⟩
  subst e;subst e';(subst h;simp only[List.cons.injEq,CV.ptr.injEq,and_true,true_and]at h';subst h';obtain⟨e1,e2⟩:=X1b h1 h1';rw[e1,e2])
 ·rintro args p r ⟨i,B,a,h,h1,h2,h3,h5,rfl⟩;first|(split<;>simp;done)|(simp;done)|(simp only[resM];split<;>simp;done)|(simp only[resD];split<;>simp;done)  | (unfold resRF;split<;>simp;done)
 rintro args p r ⟨i,B,a,rfl,h1,h2,h3,h5,rfl⟩
 refine zW C false [(160,R160),(167,R167),(168,R168)] ⟨c160,c167,c168,zT⟩ rfl xf111 zc111_ok fun call zh hF=>?_
 have t_160:=@t160 _ zh.1
 have t_167:=@t167 _ zh.2.1
 have t_168:=@t168 _ zh.2.2.1
 clear zh
 have hd_h1:=hF.dom _ _ h1
 have hi:=hF.dom _ _ h1
 have v1:=Y0r (bitB B.l) (a) 3 8 rfl
 have v2:=Y0r (bitB B.l) (a+3) 3 8 rfl
 have v3:=Y0r (bitB B.l) (a+3+3) 16 65536 rfl
 have v4:=Y0r (bitB B.l) (a+3+3+16) 16 65536 rfl
 have v5:=Y0r (bitB B.l) (a+3+3+16+16) 1 2 rfl
 have v6:=Y0r (bitB B.l) (a+3+3+16+16+1) 64 18446744073709551616 rfl
 by_cases c1:a+3<=8*B.l.length
 ·by_cases c2:a+3+3<=8*B.l.length
  ·by_cases c3:a+3+3+16<=8*B.l.length
   ·by_cases c4:a+3+3+16+16<=8*B.l.length
    ·by_cases c5:a+3+3+16+16+1<=8*B.l.length
     ·by_cases c6:a+3+3+16+16+1+64<=8*B.l.length
      ·have hpt:readPa B.l a=readTail B.l ({Q0a.zero with Kind:=valB (bitB B.l) a 3,Slot:=valB (bitB B.l) (a+3) 3,Seq:=valB (bitB B.l) (a+3+3) 16,Last:=valB (bitB B.l) (a+3+3+16) 16,Any:=decide (valB (bitB B.l) (a+3+3+16+16) 1=1),Acks:=valB (bitB B.l) (a+3+3+16+16+1) 64}:Q0a) (a+3+3+16+16+1+64):=by unfold readPa;simp only[getB,c1,c2,c3,c4,c5,c6,if_true,X0d];rfl
       have v7:=Y0r (bitB B.l) (a+3+3+16+16+1+64) 10 1024 rfl
       have v8:=Y0r (bitB B.l) (a+3+3+16+16+1+64+10) 10 1024 rfl
       have v9:=Y0r (bitB B.l) (a+3+3+16+16+1+64+10+10) 5 32 rfl
       have v10:=Y0r (bitB B.l) (a+3+3+16+16+1+64+10) 62 4611686018427387904 rfl
       by_cases k2:valB (bitB B.l) a 3=2
       ·rw[k2]at hpt
        by_cases c7:a+3+3+16+16+1+64+10<=8*B.l.length
        ·by_cases c8:a+3+3+16+16+1+64+10+10<=8*B.l.length
         ·by_cases c9:a+3+3+16+16+1+64+10+10+5<=8*B.l.length
          ·obtain⟨N,hN⟩:∃N:Nat,valB (bitB B.l) (a+3+3+16+16+1+64+10+10) 5=N:=⟨(valB (bitB B.l) (a+3+3+16+16+1+64+10+10) 5).toNat,by omega⟩
           have hN32:N<32:=by omega
           obtain⟨x0,hx0⟩:∃y:Q0a,y={({Q0a.zero with Kind:=2,Slot:=valB (bitB B.l) (a+3) 3,Seq:=valB (bitB B.l) (a+3+3) 16,Last:=valB (bitB B.l) (a+3+3+16) 16,Any:=decide (valB (bitB B.l) (a+3+3+16+16) 1=1),Acks:=valB (bitB B.l) (a+3+3+16+16+1) 64}:Q0a)with Got:=valB (bitB B.l) (a+3+3+16+16+1+64) 10,First:=valB (bitB B.l) (a+3+3+16+16+1+64+10) 10}:=⟨_,rfl⟩
           have htl:readPa B.l a=bindE (readIns B.l (a+3+3+16+16+1+64+10+10+5) N) fun l a=>.ok ({x0 with Inputs:=lstP l},a):=by rw[hpt];unfold readTail;simp only[getB,c7,c8,c9,if_true,X0d,hN,Int.toNat_natCast,hx0]
           rw[htl]
           (have zx:=zA c1 (zA c2 (zA c3 (zA c4 (zA c5 (zA c6 (zA k2 (zA c7 (zA c8 (zA c9 (zA hN h1))))))))));refine zq111 ?_;try exact zT)
           repeat'(apply zK.s<;>intro hc<;>(try simp only[zhd]at hc)<;>(try have hw:=X0a hc)<;>(refine zq111 ?_;try exact zT))
           all_goals(try clear zx)
           (show W C false noExt call (ZC.loop Y1f) _ _ _);refine Z0j C false noExt call Y1f _ _ _ (J111 i B x0 (a+3+3+16+16+1+64+10+10+5) N p) N ⟨0,a+3+3+16+16+1+64+10+10+5,⟨.nil,[],fun _=>rfl⟩,rfl,by omega,by simp[put_at,K0d,Z0g],zev,zev,zev,zev,rfl,c9,rfl,.inl rfl,zg9,zg9,?_,zdl,fun j o hj h=>by have hd:=hF.dom _ _ h;simp (disch:=first|exact zdl|fail) only[zheap];exact h⟩ ?_
           ·rw[hx0];simp (disch:=first|exact zdl|fail) only[zheap]<;>rfl
           rintro n ρ q ⟨m,a',acc,rfl,hm,e0,e2,e3,e41,e42,hrd,ha',hal,happ,g1,g3,g2,hpq,hle⟩
           have hnx:readIns B.l (a+3+3+16+16+1+64+10+10+5) (m+1)=bindE (readIn B.l a') fun c a=>.ok (acc.l++[c],a):=by
            show bindE (readIns B.l (a+3+3+16+16+1+64+10+10+5) m) _=_
            rw[hrd,X0d]
           by_cases hlt:(m:Int)<N
           ·cases hri:readIn B.l a' with
            |error e=>
             rw[hri,X0e]at hnx
             have h3:=V1j (N-(m+1)) hnx
             rw[show m+1+(N-(m+1))=N by omega]at h3
             rw[h3,X0e]
             (have zx:=zA e0 (zA e2 (zA e3 (zA e41 (zA e42 (zA g1 (zA g2 (zA g3 (zA hlt (zA hri h1)))))))));refine zq111 ?_;try exact zT)
             repeat'(apply zK.s<;>intro hc<;>(try simp only[zhd]at hc)<;>(try have hw:=X0a hc)<;>(refine zq111 ?_;try exact zT))
             all_goals(try clear zx)
             exact Q0k hF (fun k o hk h=>by have hd:=hF.dom _ _ h;have hq:=hle k o hk h;simp (disch:=first|exact zdl|fail) only[zheap];exact hq) _ _
            |ok y=>
             obtain⟨y,a3⟩:=y
             have hb3:a3<=8*B.l.length:=Bnd.in_ _ _ _ _ hri
             rw[hri,X0d]at hnx
             obtain⟨tl,al,ok⟩:=acc
             simp only at hal hnx
             rcases happ with ht|⟨j1,ht,hj1,hj2,hj3,hj4⟩
             ·simp only at ht
              subst ht
              (have zx:=zA e0 (zA e2 (zA e3 (zA e41 (zA e42 (zA g1 (zA g2 (zA g3 (zA hlt (zA hri h1)))))))));refine zq111 ?_;try exact zT)
              repeat'(apply zK.s<;>intro hc<;>(try simp only[zhd]at hc)<;>(try have hw:=X0a hc)<;>(refine zq111 ?_;try exact zT))
              all_goals(try clear zx)
              refine⟨N-(m+1),by omega,m+1,a3,⟨.own (q.n+8),al++[y],nofun⟩,rfl,by omega,zev,zev,zev,zev,zev,hnx,hb3,by simp[hal],.inr ⟨q.n+8,rfl,zdl,zdl,by simp (disch:=first|exact zdl|fail) only[zheap];simp[hal],by simp⟩,zg9,zg9,by simp (disch:=first|exact zdl|fail) only[zheap]<;>rfl,zdl,fun j o hj h=>by have hd:=hF.dom _ _ h;have hq:=hle j o hj h;simp (disch:=first|exact zdl|fail) only[zheap];exact hq⟩
             ·simp only at ht hj3 hj4
              subst ht
              (have zx:=zA e0 (zA e2 (zA e3 (zA e41 (zA e42 (zA g1 (zA g2 (zA g3 (zA hlt (zA hri (zA hj3 (zA hj4 h1)))))))))));refine zq111 ?_;try exact zT)
              repeat'(apply zK.s<;>intro hc<;>(try simp only[zhd]at hc)<;>(try have hw:=X0a hc)<;>(refine zq111 ?_;try exact zT))
              all_goals(try clear zx)
              refine⟨N-(m+1),by omega,m+1,a3,⟨.own (q.n+8),al++[y],nofun⟩,rfl,by omega,zev,zev,zev,zev,zev,hnx,hb3,by simp[hal],.inr ⟨q.n+8,rfl,zdl,zdl,by simp (disch:=first|exact zdl|fail) only[zheap];simp[hal],by simp⟩,zg9,zg9,by simp (disch:=first|exact zdl|fail) only[zheap]<;>rfl,zdl,fun j o hj h=>by have hd:=hF.dom _ _ h;have hq:=hle j o hj h;simp (disch:=first|exact zdl|fail) only[zheap];exact hq⟩
           ·have hmN:m=N:=by omega
            rw[hmN]at hrd
            rw[hrd,X0d]
            have hR0:x0.Rows=⟨.nil,[],fun _=>rfl⟩:=by rw[hx0];rfl
            (have zx:=zA e0 (zA e2 (zA e3 (zA e41 (zA e42 (zA g1 (zA g2 (zA g3 (zA hlt h1))))))));refine zq111 ?_;try exact zT)
            repeat'(apply zK.s<;>intro hc<;>(try simp only[zhd]at hc)<;>(try have hw:=X0a hc)<;>(refine zq111 ?_;try exact zT))
            all_goals(try clear zx)
            refine shr_pk hF h1 (by simp) (zg9) (fun k o hk h=>by have hd:=hF.dom _ _ h;have hq:=hle k o hk h;simp (disch:=first|exact zdl|fail) only[zheap];exact hq) ?_
            exact V0y (happ.T.weak _ (CV.weakL_refl _ fun j hj=>(V0i (f:=Y0a.cv) Y0a.nohas _ j hj).elim)) (Y0d (X0c (by rw[hR0];exact nilHas _)))
          ·have hr:readPa B.l a=.error ((a+3+3+16+16+1+64+10+10:Nat):Int):=by rw[hpt];unfold readTail;simp only[getB,c7,c8,c9,if_true,if_false,X0d,X0e]
           rw[hr]
           (have zx:=zA c1 (zA c2 (zA c3 (zA c4 (zA c5 (zA c6 (zA k2 (zA c7 (zA c8 (zA c9 h1)))))))));refine zq111 ?_;try exact zT)
           repeat'(apply zK.s<;>intro hc<;>(try simp only[zhd]at hc)<;>(try have hw:=X0a hc)<;>(refine zq111 ?_;try exact zT))
           all_goals(try clear zx)
           exact Q0k hF (fun k o hk h=>by have hd:=hF.dom _ _ h;simp (disch:=first|exact zdl|fail) only[zheap];exact h) _ _
         ·have hr:readPa B.l a=.error ((a+3+3+16+16+1+64+10:Nat):Int):=by rw[hpt];unfold readTail;simp only[getB,c7,c8,if_true,if_false,X0d,X0e]
          rw[hr]
          (have zx:=zA c1 (zA c2 (zA c3 (zA c4 (zA c5 (zA c6 (zA k2 (zA c7 (zA c8 h1))))))));refine zq111 ?_;try exact zT)
          repeat'(apply zK.s<;>intro hc<;>(try simp only[zhd]at hc)<;>(try have hw:=X0a hc)<;>(refine zq111 ?_;try exact zT))
          all_goals(try clear zx)
          exact Q0k hF (fun k o hk h=>by have hd:=hF.dom _ _ h;simp (disch:=first|exact zdl|fail) only[zheap];exact h) _ _
        ·have hr:readPa B.l a=.error ((a+3+3+16+16+1+64:Nat):Int):=by rw[hpt];unfold readTail;simp only[getB,c7,if_true,if_false,X0d,X0e]
         rw[hr]
         (have zx:=zA c1 (zA c2 (zA c3 (zA c4 (zA c5 (zA c6 (zA k2 (zA c7 h1)))))));refine zq111 ?_;try exact zT)
         repeat'(apply zK.s<;>intro hc<;>(try simp only[zhd]at hc)<;>(try have hw:=X0a hc)<;>(refine zq111 ?_;try exact zT))
         all_goals(try clear zx)
         exact Q0k hF (fun k o hk h=>by have hd:=hF.dom _ _ h;simp (disch:=first|exact zdl|fail) only[zheap];exact h) _ _
       ·by_cases k3:valB (bitB B.l) a 3=3
        ·rw[k3]at hpt
         have t8:=fun q h1 h2 h3 h4 h5=>t_168 i (p.n+1) B (a+3+3+16+16+1+64) ({Q0a.zero with Kind:=3,Slot:=valB (bitB B.l) (a+3) 3,Seq:=valB (bitB B.l) (a+3+3) 16,Last:=valB (bitB B.l) (a+3+3+16) 16,Any:=decide (valB (bitB B.l) (a+3+3+16+16) 1=1),Acks:=valB (bitB B.l) (a+3+3+16+16+1) 64}:Q0a) (p:=q) h1 h2 h3 h4 h5 rfl (by omega) rfl
         have htl:readPa B.l a=readTail3 B.l ({Q0a.zero with Kind:=3,Slot:=valB (bitB B.l) (a+3) 3,Seq:=valB (bitB B.l) (a+3+3) 16,Last:=valB (bitB B.l) (a+3+3+16) 16,Any:=decide (valB (bitB B.l) (a+3+3+16+16) 1=1),Acks:=valB (bitB B.l) (a+3+3+16+16+1) 64}:Q0a) (a+3+3+16+16+1+64):=by rw[hpt];rfl
         rw[htl]
         cases hrt:readTail3 B.l ({Q0a.zero with Kind:=3,Slot:=valB (bitB B.l) (a+3) 3,Seq:=valB (bitB B.l) (a+3+3) 16,Last:=valB (bitB B.l) (a+3+3+16) 16,Any:=decide (valB (bitB B.l) (a+3+3+16+16) 1=1),Acks:=valB (bitB B.l) (a+3+3+16+16+1) 64}:Q0a) (a+3+3+16+16+1+64) with
         |error e=>
          (have zx:=zA c1 (zA c2 (zA c3 (zA c4 (zA c5 (zA c6 (zA k2 (zA k3 (zA hrt h1))))))));refine zq111 ?_;try exact zT)
          repeat'(apply zK.s<;>intro hc<;>(try simp only[zhd]at hc)<;>(try have hw:=X0a hc)<;>(refine zq111 ?_;try exact zT))
          all_goals(try clear zx)
          exact Q0k hF (fun k o hk h=>by have hd:=hF.dom _ _ h;simp (disch:=first|exact zdl|fail) only[zheap];exact h) _ _
         |ok y=>
          obtain⟨y,a2⟩:=y
          have hno:=tail3_no hrt rfl
          (have zx:=zA c1 (zA c2 (zA c3 (zA c4 (zA c5 (zA c6 (zA k2 (zA k3 (zA hrt h1))))))));refine zq111 ?_;try exact zT)
          repeat'(apply zK.s<;>intro hc<;>(try simp only[zhd]at hc)<;>(try have hw:=X0a hc)<;>(refine zq111 ?_;try exact zT))
          all_goals(try clear zx)
          exact shr_pk hF h1 (by simp) (zg9) (fun k o hk h=>by have hd:=hF.dom _ _ h;simp (disch:=first|exact zdl|fail) only[zheap];exact h) (Y0d (X0c hno))
        ·by_cases k4:valB (bitB B.l) a 3=4
         ·rw[k4]at hpt
          by_cases c7:a+3+3+16+16+1+64+10<=8*B.l.length
          ·by_cases c8:a+3+3+16+16+1+64+10+62<=8*B.l.length
           ·have hr:readPa B.l a=.ok ({({Q0a.zero with Kind:=4,Slot:=valB (bitB B.l) (a+3) 3,Seq:=valB (bitB B.l) (a+3+3) 16,Last:=valB (bitB B.l) (a+3+3+16) 16,Any:=decide (valB (bitB B.l) (a+3+3+16+16) 1=1),Acks:=valB (bitB B.l) (a+3+3+16+16+1) 64}:Q0a)with Frame:=valB (bitB B.l) (a+3+3+16+16+1+64) 10,Mark:=valB (bitB B.l) (a+3+3+16+16+1+64+10) 62},a+3+3+16+16+1+64+10+62):=by rw[hpt];unfold readTail;simp only[getB,c7,c8,if_true,if_false,X0d];rfl
            rw[hr]
            (have zx:=zA c1 (zA c2 (zA c3 (zA c4 (zA c5 (zA c6 (zA k2 (zA k3 (zA k4 (zA c7 (zA c8 h1))))))))));refine zq111 ?_;try exact zT)
            repeat'(apply zK.s<;>intro hc<;>(try simp only[zhd]at hc)<;>(try have hw:=X0a hc)<;>(refine zq111 ?_;try exact zT))
            all_goals(try clear zx)
            exact shr_pk hF h1 (by simp) (zg9) (fun k o hk h=>by have hd:=hF.dom _ _ h;simp (disch:=first|exact zdl|fail) only[zheap];exact h) (Q0d rfl fun j hj=>by rcases(packHas _ j).1 hj with h|h<;>exact(nilHas _ j h).elim)
           ·have hr:readPa B.l a=.error ((a+3+3+16+16+1+64+10:Nat):Int):=by rw[hpt];show bindE (getB B.l 10 (a+3+3+16+16+1+64)) _=_;simp only[getB,c7,c8,if_true,if_false,X0d,X0e]
            rw[hr]
            (have zx:=zA c1 (zA c2 (zA c3 (zA c4 (zA c5 (zA c6 (zA k2 (zA k3 (zA k4 (zA c7 (zA c8 h1))))))))));refine zq111 ?_;try exact zT)
            repeat'(apply zK.s<;>intro hc<;>(try simp only[zhd]at hc)<;>(try have hw:=X0a hc)<;>(refine zq111 ?_;try exact zT))
            all_goals(try clear zx)
            exact Q0k hF (fun k o hk h=>by have hd:=hF.dom _ _ h;simp (disch:=first|exact zdl|fail) only[zheap];exact h) _ _
          ·have hr:readPa B.l a=.error ((a+3+3+16+16+1+64:Nat):Int):=by rw[hpt];show bindE (getB B.l 10 (a+3+3+16+16+1+64)) _=_;simp only[getB,c7,if_true,if_false,X0d,X0e]
           rw[hr]
           (have zx:=zA c1 (zA c2 (zA c3 (zA c4 (zA c5 (zA c6 (zA k2 (zA k3 (zA k4 (zA c7 h1)))))))));refine zq111 ?_;try exact zT)
           repeat'(apply zK.s<;>intro hc<;>(try simp only[zhd]at hc)<;>(try have hw:=X0a hc)<;>(refine zq111 ?_;try exact zT))
           all_goals(try clear zx)
           exact Q0k hF (fun k o hk h=>by have hd:=hF.dom _ _ h;simp (disch:=first|exact zdl|fail) only[zheap];exact h) _ _
         ·have hr:readPa B.l a=.ok (({Q0a.zero with Kind:=valB (bitB B.l) a 3,Slot:=valB (bitB B.l) (a+3) 3,Seq:=valB (bitB B.l) (a+3+3) 16,Last:=valB (bitB B.l) (a+3+3+16) 16,Any:=decide (valB (bitB B.l) (a+3+3+16+16) 1=1),Acks:=valB (bitB B.l) (a+3+3+16+16+1) 64}:Q0a),a+3+3+16+16+1+64):=by rw[hpt];unfold readTail;simp only[k2,k3,k4,if_false]
          rw[hr]
          (have zx:=zA c1 (zA c2 (zA c3 (zA c4 (zA c5 (zA c6 (zA k2 (zA k3 (zA k4 h1))))))));refine zq111 ?_;try exact zT)
          repeat'(apply zK.s<;>intro hc<;>(try simp only[zhd]at hc)<;>(try have hw:=X0a hc)<;>(refine zq111 ?_;try exact zT))
          all_goals(try clear zx)
          exact shr_pk hF h1 (by simp) (zg9) (fun k o hk h=>by have hd:=hF.dom _ _ h;simp (disch:=first|exact zdl|fail) only[zheap];exact h) (Q0d rfl fun j hj=>by rcases(packHas _ j).1 hj with h|h<;>exact(nilHas _ j h).elim)
      ·have hr:readPa B.l a=.error ((a+3+3+16+16+1:Nat):Int):=by unfold readPa;simp only[getB,c1,c2,c3,c4,c5,c6,if_true,if_false,X0d,X0e]
       rw[hr]
       (have zx:=zA c1 (zA c2 (zA c3 (zA c4 (zA c5 (zA c6 h1)))));refine zq111 ?_;try exact zT)
       repeat'(apply zK.s<;>intro hc<;>(try simp only[zhd]at hc)<;>(try have hw:=X0a hc)<;>(refine zq111 ?_;try exact zT))
       all_goals(try clear zx)
       exact Q0k hF (fun k o hk h=>by have hd:=hF.dom _ _ h;simp (disch:=first|exact zdl|fail) only[zheap];exact h) _ _
     ·have hr:readPa B.l a=.error ((a+3+3+16+16:Nat):Int):=by unfold readPa;simp only[getB,c1,c2,c3,c4,c5,if_true,if_false,X0d,X0e]
      rw[hr]
      (have zx:=zA c1 (zA c2 (zA c3 (zA c4 (zA c5 h1))));refine zq111 ?_;try exact zT)
      repeat'(apply zK.s<;>intro hc<;>(try simp only[zhd]at hc)<;>(try have hw:=X0a hc)<;>(refine zq111 ?_;try exact zT))
      all_goals(try clear zx)
      exact Q0k hF (fun k o hk h=>by have hd:=hF.dom _ _ h;simp (disch:=first|exact zdl|fail) only[zheap];exact h) _ _
    ·have hr:readPa B.l a=.error ((a+3+3+16:Nat):Int):=by unfold readPa;simp only[getB,c1,c2,c3,c4,if_true,if_false,X0d,X0e]
     rw[hr]
     (have zx:=zA c1 (zA c2 (zA c3 (zA c4 h1)));refine zq111 ?_;try exact zT)
     repeat'(apply zK.s<;>intro hc<;>(try simp only[zhd]at hc)<;>(try have hw:=X0a hc)<;>(refine zq111 ?_;try exact zT))
     all_goals(try clear zx)
     exact Q0k hF (fun k o hk h=>by have hd:=hF.dom _ _ h;simp (disch:=first|exact zdl|fail) only[zheap];exact h) _ _
   ·have hr:readPa B.l a=.error ((a+3+3:Nat):Int):=by unfold readPa;simp only[getB,c1,c2,c3,if_true,if_false,X0d,X0e]
    rw[hr]
    (have zx:=zA c1 (zA c2 (zA c3 h1));refine zq111 ?_;try exact zT)
    repeat'(apply zK.s<;>intro hc<;>(try simp only[zhd]at hc)<;>(try have hw:=X0a hc)<;>(refine zq111 ?_;try exact zT))
    all_goals(try clear zx)
    exact Q0k hF (fun k o hk h=>by have hd:=hF.dom _ _ h;simp (disch:=first|exact zdl|fail) only[zheap];exact h) _ _
  ·have hr:readPa B.l a=.error ((a+3:Nat):Int):=by unfold readPa;simp only[getB,c1,c2,if_true,if_false,X0d,X0e]
   rw[hr]
   (have zx:=zA c1 (zA c2 h1);refine zq111 ?_;try exact zT)
   repeat'(apply zK.s<;>intro hc<;>(try simp only[zhd]at hc)<;>(try have hw:=X0a hc)<;>(refine zq111 ?_;try exact zT))
   all_goals(try clear zx)
   exact Q0k hF (fun k o hk h=>by have hd:=hF.dom _ _ h;simp (disch:=first|exact zdl|fail) only[zheap];exact h) _ _
 ·have hr:readPa B.l a=.error ((a:Nat):Int):=by unfold readPa;simp only[getB,c1,if_true,if_false,X0d,X0e]
  rw[hr]
  (have zx:=zA c1 h1;refine zq111 ?_;try exact zT)
  repeat'(apply zK.s<;>intro hc<;>(try simp only[zhd]at hc)<;>(try have hw:=X0a hc)<;>(refine zq111 ?_;try exact zT))
  all_goals(try clear zx)
  exact Q0k hF (fun k o hk h=>by have hd:=hF.dom _ _ h;simp (disch:=first|exact zdl|fail) only[zheap];exact h) _ _
end Go.Proofs.Ytpchcfkebljopaa
end
section
namespace Go.Proofs.Ytpchcfkebljopaa
open Go.Cl Go Go.RowKit
theorem V0f{α β:Type}{r:Except Int (α×Nat)}{f:α->Nat->Except Int (β×Nat)}{y:β×Nat}(h:bindE r f=.ok y): ∃x a,r=.ok (x,a)/\f x a=.ok y:=by
 cases r with
 |error e=>rw[X0e]at h;cases h
 |ok x=>obtain⟨x,a⟩:=x;exact⟨x,a,rfl,h⟩
theorem V1o{b:List Int}{a:Nat}: ∀{k:Nat} {l:List Y0a} {a':Nat},readIns b a k=.ok (l,a')->l.length=k
 |0,l,a',h=>by simp only[readIns,Except.ok.injEq,Prod.mk.injEq]at h;rw[<- h.1];rfl
 |k+1,l,a',h=>by
  obtain⟨m,a1,h1,h⟩:=V0f h
  obtain⟨c,a2,_,h⟩:=V0f h
  simp only[Except.ok.injEq,Prod.mk.injEq]at h
  rw[<- h.1,List.length_append,V1o h1];rfl
theorem V1r{b:List Int}{a:Nat}: ∀{k:Nat} {l:List V0a} {a':Nat},readRow b a k=.ok (l,a')->l.length=k
 |0,l,a',h=>by simp only[readRow,Except.ok.injEq,Prod.mk.injEq]at h;rw[<- h.1];rfl
 |k+1,l,a',h=>by
  obtain⟨m,a1,h1,h⟩:=V0f h
  obtain⟨c,a2,_,h⟩:=V0f h
  simp only[Except.ok.injEq,Prod.mk.injEq]at h
  rw[<- h.1,List.length_append,V1r h1];rfl
theorem K1e{b:List Int}{m a:Nat}: ∀{k:Nat} {l:List (List V0a)} {a':Nat},readRows b m a k=.ok (l,a')->l.length=k/\∀r∈l,r.length=m
 |0,l,a',h=>by simp only[readRows,Except.ok.injEq,Prod.mk.injEq]at h;rw[<- h.1];exact⟨rfl,nofun⟩
 |k+1,l,a',h=>by
  obtain⟨m',a1,h1,h⟩:=V0f h
  obtain⟨c,a2,h2,h⟩:=V0f h
  simp only[Except.ok.injEq,Prod.mk.injEq]at h
  obtain⟨i1,i2⟩:=K1e h1
  refine⟨by rw[<- h.1,List.length_append,i1];rfl,fun r hr=>?_⟩
  rw[<- h.1]at hr
  rcases List.mem_append.1 hr with hr|hr
  ·exact i2 r hr
  ·rw[List.mem_singleton.1 hr];exact V1r h2
theorem K16{b:List Int}{n a:Nat}{v:Int}{a':Nat}(h:getB b n a=.ok (v,a')): 0<=v/\v<2^n:=by
 unfold getB at h
 split at h
 ·simp only[Except.ok.injEq,Prod.mk.injEq]at h
  rw[<- h.1];exact V0u _ _ _
 ·cases h
theorem Z1c{b:List Int}{a:Nat}{x:Q0a}{a':Nat}(h:readPa b a=.ok (x,a')): ∃(I:List Y0a) (R:List (List V0a)),x.Inputs=lstP I/\x.Rows=rowsP R/\I.length<=31/\R.length<=15/\(∀r∈R,r.length<=15)/\0<=x.Acks/\x.Acks<18446744073709551616:=by
 obtain⟨k,a1,_,h⟩:=V0f h
 obtain⟨s,a2,_,h⟩:=V0f h
 obtain⟨q,a3,_,h⟩:=V0f h
 obtain⟨l,a4,_,h⟩:=V0f h
 obtain⟨f,a5,_,h⟩:=V0f h
 obtain⟨c,a6,hc,h⟩:=V0f h
 have hcr:=K16 hc
 unfold readTail at h
 split at h
 ·obtain⟨g,a7,_,h⟩:=V0f h
  obtain⟨fi,a8,_,h⟩:=V0f h
  obtain⟨n,a9,hn,h⟩:=V0f h
  obtain⟨li,a10,hl,h⟩:=V0f h
  have hnr:=K16 hn
  have hll:=V1o hl
  simp only[Except.ok.injEq,Prod.mk.injEq]at h
  rw[<- h.1]
  exact⟨li,[],rfl,rfl,by omega,by simp,nofun,hcr.1,hcr.2⟩
 ·split at h
  ·obtain⟨fi,a7,_,h⟩:=V0f h
   obtain⟨n,a8,hn,h⟩:=V0f h
   obtain⟨r,a9,hr,h⟩:=V0f h
   obtain⟨li,a10,hl,h⟩:=V0f h
   have hnr:=K16 hn
   have hrr:=K16 hr
   obtain⟨hl1,hl2⟩:=K1e hl
   simp only[Except.ok.injEq,Prod.mk.injEq]at h
   rw[<- h.1]
   exact⟨[],li,rfl,rfl,by simp,by omega,fun y hy=>by have:=hl2 y hy;omega,hcr.1,hcr.2⟩
  ·split at h
   ·obtain⟨fi,a7,_,h⟩:=V0f h
    obtain⟨m,a8,_,h⟩:=V0f h
    simp only[Except.ok.injEq,Prod.mk.injEq]at h
    rw[<- h.1]
    exact⟨[],[],rfl,rfl,by simp,by simp,nofun,hcr.1,hcr.2⟩
   ·simp only[Except.ok.injEq,Prod.mk.injEq]at h
    rw[<- h.1]
    exact⟨[],[],rfl,rfl,by simp,by simp,nofun,hcr.1,hcr.2⟩
end Go.Proofs.Ytpchcfkebljopaa
end
section
namespace Go.Proofs.Ytpchcfkebljopaa
open Go.Cl Go Go.RowKit
set_option maxRecDepth 100000
set_option linter.constructorNameAsVariable false
theorem Y05{b:List Int}{a:Nat}{x:Q0a}{a':Nat}(h:readPa b a=.ok (x,a'))(j:Nat): ¬x.cv.has j:=by
 obtain⟨I,R,hI,hR,_⟩:=Z1c h
 rw[packHas,hI,hR]
 rintro(h|h)
 ·exact lstP_no (fun z _ j=>Y0a.nohas z j) j h
 ·exact rowsP_no R j h
theorem readPa_ok{b:List Int}{a:Nat}{x:Q0a}{a':Nat}(h:readPa b a=.ok (x,a')): packOk x:=by
 obtain⟨I,R,hI,hR,h1,h2,h3,_⟩:=Z1c h
 refine⟨by rw[hI,K0p];omega,by rw[hR,rowsP,K0p,List.length_map];omega,fun y hy=>?_⟩
 rw[hR,rowsP,K0p]at hy
 obtain⟨z,hz,rfl⟩:=List.mem_map.1 hy
 rw[K0p]
 have:=h3 z hz
 omega
theorem pk_sep{p:Hp}{a i:Nat}{s:Lst Int}{t:Q0a}(h1:p.t.get a=some (.var sh68 (s.cv Y8)))(h3:p.t.get i=some (.var sh94 t.cv)): a≠i:=by
 intro e;subst e
 rw[h1]at h3
 simp only[Option.some.injEq,XObj.var.injEq]at h3
 exact absurd h3.1 (by simp[sh94])
noncomputable def resPC(i:Nat)(p:Hp)(r:Except Int (Q0a×Nat)): XRes:=
 match r with
 |.ok (t,_)=>.ret (.tup []) (p.set i (some (.var sh94 t.cv)))
 |.error e=>.pan (fault 100 e) p
def R110: Rel:=fun args p r=>∃(b i:Nat) (s:Lst Int) (t:Q0a),args=[.ptr b [],.ptr i []]/\(p.t.get b=some (.var sh68 (s.cv Y8)))/\(p.t.get i=some (.var sh94 t.cv))/\(s.tl≠.view)/\(s.l.length<=140737488355328)/\(∀x∈s.l,0<=x/\x<=255)/\r=resPC i p (readP s.l)
theorem t110{T:XCall}(h:Has T 110 R110)(b i:Nat)(s:Lst Int)(t:Q0a){p:Hp}(h2:p.t.get b=some (.var sh68 (s.cv Y8)))(h3:p.t.get i=some (.var sh94 t.cv))(h4:s.tl≠.view)(h5:s.l.length<=140737488355328)(h6:∀x∈s.l,0<=x/\x<=255): T 110 [.ptr b [],.ptr i []] p=resPC i p (readP s.l):=h _ _ _ ⟨b,i,s,t,rfl,h2,h3,h4,h5,h6,rfl⟩
theorem zdis110{P:Prop}(h:P:=by first|exact zdis|(simp only[Hp.bump_n,Hp.znew_n,Hp.zset_n,List.length_nil,List.length_cons,List.length_append,List.length_map,K0i];(first|done|omega))|(simp (disch:=first|exact zd1|(simp only[Hp.bump_n,Hp.znew_n,Hp.zset_n,List.length_nil,List.length_cons,List.length_append,List.length_map,K0i];(first|done|omega))) only[zheap,zx];(first|done|rfl))|fail): P:=h
theorem zq110{A B:Prop}(k:B)(h:A=B:=by((try simp -dsimp (disch:=first|exact zdis110|fail) only[zcore,zall,zopm,zop,zcallOp,qop,qbuiltin,ofOpt,List.map,reduceCtorEq,if_true,if_false,↓reduceIte,zbin,eqRes,qassert,qnum,qshift,qun,kindOf,allocV,List.nil_append,List.append_nil,List.cons_append,List.length_cons,List.length_nil,Nat.reduceAdd,Nat.reduceEqDiff,Nat.reduceLT,Nat.reduceSub,Nat.reduceMul,Int.reduceToNat,Int.reduceLE,Int.reduceLT,Int.reduceEq,Int.reduceNeg,Int.reduceAdd,Int.reduceSub,beq_self_eq_true,cond_true,cond_false,isConstOpd,xpanic,xconv,isBytes,qconv,List.length_map,List.map_nil,List.map_cons,concrete,Option.some.injEq,exists_eq',Option.map_some,Option.map_none,List.getElem?_cons_zero,List.getElem?_cons_succ,zw110,rs110,tt68,tt94,ti68,ti94,t_95,t_111,K0e,zsl68,resRF,K0i,h2,h3,h4,h5,h6,zx,hc]);rfl)): A:=h▸k
theorem c110: Con C 110 R110:=by
 refine V0e C ?_ ?_ ?_
 ·rintro args p r r' ⟨b,i,s,t,h,h2,h3,h4,h5,h6,e⟩ ⟨b',i',s',t',h',h2',h3',h4',h5',h6',e'⟩
  subst e;subst e';(subst h;simp only[List.cons.injEq,CV.ptr.injEq,and_true,true_and]at h';obtain⟨e1,e2⟩:=h';subst e1;subst e2;rw[h2]at h2';simp only[Option.some.injEq,XObj.var.injEq,true_and,Q0g]at h2';rw[h2'])
 ·rintro args p r ⟨b,i,s,t,h,h2,h3,h4,h5,h6,rfl⟩;first|(split<;>simp;done)|(simp;done)|(simp only[resM];split<;>simp;done)|(simp only[resD];split<;>simp;done)  | (unfold resPC;split<;>simp;done)
 rintro args p r ⟨b,i,s,t,rfl,h2,h3,h4,h5,h6,rfl⟩
 refine zW C false [(95,R95),(111,R111)] ⟨c95,c111,zT⟩ rfl xf110 zc110_ok fun call zh hF=>?_
 have t_95:=@t95 _ zh.1
 have t_111:=@t111 _ zh.2.1
 clear zh
 have hd_h2:=hF.dom _ _ h2
 have hd_h3:=hF.dom _ _ h3
 have hi:=hF.dom _ _ h3
 have hbi:=pk_sep h2 h3
 have hr:∀x∈(cloneP s).l,0<=x/\x<=255:=by rw[K0i];exact h6
 have e0:readP s.l=readPa s.l 0:=rfl
 rw[e0]
 cases hra:readPa s.l 0 with
 |error e=>
  (have zx:=zA hra (zA h2 h3);refine zq110 ?_;try exact zT)
  repeat'(apply zK.s<;>intro hc<;>(try simp only[zhd]at hc)<;>(try have hw:=X0a hc)<;>(refine zq110 ?_;try exact zT))
  all_goals(try clear zx)
  exact X1o hF (fun k o h=>by have hd:=hF.dom _ _ h;simp (disch:=first|exact zdl|fail) only[Hp.bump_get,Hp.get_set_ne,Hp.get_new_ne];exact h) (Y0d (X0c (V0w 100 e)))
 |ok r=>
  obtain⟨u,a'⟩:=r
  have hno:=Y05 hra
  (have zx:=zA hra (zA h2 h3);refine zq110 ?_;try exact zT)
  repeat'(apply zK.s<;>intro hc<;>(try simp only[zhd]at hc)<;>(try have hw:=X0a hc)<;>(refine zq110 ?_;try exact zT))
  all_goals(try clear zx)
  exact V1s hF hi (fun k o hk h=>by have hd:=hF.dom _ _ h;simp (disch:=first|exact zdl|fail) only[Hp.bump_get,Hp.get_set_ne,Hp.get_new_ne];exact h) ⟨_,Hp.get_set_self _ _ _,K0l fun j hj=>(hno j hj).elim⟩ (Y0d (X0c tup0_no))
noncomputable def resPS(i:Nat)(p:Hp)(r:Except Int (Q0a×Nat)): XRes:=
 match r with
 |.ok (t,_)=>.ret (.tup [(V0b.mk 0 0).cv,Bo false]) (p.set i (some (.var sh94 t.cv)))
 |.error e=>.ret (.tup [(V0b.mk 100 e).cv,Bo true]) p
def R73p: Rel:=fun args p r=>∃(b i:Nat) (s:Lst Int) (t:Q0a),args=[.fn 110 [] [.ptr b [],.ptr i []]]/\(p.t.get b=some (.var sh68 (s.cv Y8)))/\(p.t.get i=some (.var sh94 t.cv))/\(s.tl≠.view)/\(s.l.length<=140737488355328)/\(∀x∈s.l,0<=x/\x<=255)/\r=resPS i p (readP s.l)
theorem t73p{T:XCall}(h:Has T 73 R73p)(b i:Nat)(s:Lst Int)(t:Q0a){p:Hp}(h2:p.t.get b=some (.var sh68 (s.cv Y8)))(h3:p.t.get i=some (.var sh94 t.cv))(h4:s.tl≠.view)(h5:s.l.length<=140737488355328)(h6:∀x∈s.l,0<=x/\x<=255): T 73 [.fn 110 [] [.ptr b [],.ptr i []]] p=resPS i p (readP s.l):=h _ _ _ ⟨b,i,s,t,rfl,h2,h3,h4,h5,h6,rfl⟩
theorem zq73p{A B:Prop}(k:B)(h:A=B:=by((try simp -dsimp (disch:=first|exact zdis|fail) only[zcore,zall,zopm,zop,zcallOp,qop,qbuiltin,ofOpt,List.map,reduceCtorEq,if_true,if_false,↓reduceIte,zbin,eqRes,qassert,qnum,qshift,qun,kindOf,allocV,List.nil_append,List.append_nil,List.cons_append,List.length_cons,List.length_nil,Nat.reduceAdd,Nat.reduceEqDiff,Nat.reduceLT,Nat.reduceSub,Nat.reduceMul,Int.reduceToNat,Int.reduceLE,Int.reduceLT,Int.reduceEq,Int.reduceNeg,Int.reduceAdd,Int.reduceSub,beq_self_eq_true,cond_true,cond_false,isConstOpd,xpanic,xconv,isBytes,qconv,List.length_map,List.map_nil,List.map_cons,concrete,Option.some.injEq,exists_eq',Option.map_some,Option.map_none,List.getElem?_cons_zero,List.getElem?_cons_succ,zw73,rs73,xc73_z,zw149,qcA_n,qcB_n,qcP_n,qcP_r,qcP_p,qcE_n,qcE_r,tt1,tt4,tt5,tt20,tt44,tt194,ti1,ti4,ti5,ti20,ti44,ti194,t_110,X0p,K00,resPC,fault,h2,h3,h4,h5,h6,zx,hc]);rfl)): A:=h▸k
theorem c73p: Con C 73 R73p:=by
 refine V0e C ?_ ?_ ?_
 ·rintro args p r r' ⟨b,i,s,t,h,h2,h3,h4,h5,h6,e⟩ ⟨b',i',s',t',h',h2',h3',h4',h5',h6',e'⟩
  subst e;subst e';(subst h;simp only[List.cons.injEq,CV.fn.injEq,CV.ptr.injEq,and_true,true_and]at h';obtain⟨e1,e2⟩:=h';subst e1;subst e2;rw[h2]at h2';simp only[Option.some.injEq,XObj.var.injEq,true_and,Q0g]at h2';rw[h2'])
 ·rintro args p r ⟨b,i,s,t,h,h2,h3,h4,h5,h6,rfl⟩;first|(split<;>simp;done)|(simp;done)|(simp only[resM];split<;>simp;done)|(simp only[resD];split<;>simp;done)  | (unfold resPS;split<;>simp;done)
 rintro args p r ⟨b,i,s,t,rfl,h2,h3,h4,h5,h6,rfl⟩
 refine ans_catch C false noExt (tabL C [(110,R110)]) xc73_ok (noExt_ok C) (Q1l C _) xc73_a xc73_b xc73_p xc73_r (by kernel_rfl) (Nat.le_of_ble_eq_true (by kernel_rfl)) xc73_n fun hF=>?_
 have t_110:=@t110 (tabL C [(110,R110)]) (has_head C c110 [])
 generalize tabL C [(110,R110)]=call at t_110 ⊢
 have hd_h2:=hF.dom _ _ h2
 have hd_h3:=hF.dom _ _ h3
 show W C false noExt call zn73_1 (argE [.fn 110 [] [.ptr b [],.ptr i []]]) p (qcA C false noExt call zn73_3 V17 K11 xc73 _)
 have hi:=hF.dom _ _ h3
 cases hra:readP s.l with
 |error e=>
  (have zx:=zA hra (zA h2 h3);refine zq73p ?_;try exact zT)
  repeat'(apply zK.s<;>intro hc<;>(try simp only[zhd]at hc)<;>(try have hw:=X0a hc)<;>(refine zq73p ?_;try exact zT))
  all_goals(try clear zx)
  exact V0c hF (fun k o h=>by have hd:=hF.dom _ _ h;simp (disch:=first|exact zdl|fail) only[Hp.bump_get,Hp.get_set_ne,Hp.get_new_ne];exact h) (Y0d (X0c (by intro jj;simp[CV.has,CV.hasL,V0b.nohas])))
 |ok r=>
  obtain⟨u,a'⟩:=r
  have hno:=Y05 (a:=0) hra
  (have zx:=zA hra (zA h2 h3);refine zq73p ?_;try exact zT)
  repeat'(apply zK.s<;>intro hc<;>(try simp only[zhd]at hc)<;>(try have hw:=X0a hc)<;>(refine zq73p ?_;try exact zT))
  all_goals(try clear zx)
  exact V1s hF hi (fun k o hk h=>by have hd:=hF.dom _ _ h;simp (disch:=first|exact zdl|fail) only[Hp.bump_get,Hp.get_set_ne,Hp.get_new_ne];exact h) ⟨_,zg9,K0l fun j hj=>(hno j hj).elim⟩ (Y0d (X0c (by intro jj;simp[CV.has,CV.hasL,V0b.nohas])))
def R107e: Rel:=fun args p r=>∃(key:Int) (s:Lst Int),args=[I key,s.cv Y8]/\(-9223372036854775808<=key/\key<=9223372036854775807)/\(s.l=[])/\(s.tl=.part)/\r=.ret (Lst.cv Y8 (partB (closeB key s.l))) p
theorem zq107e{A B:Prop}(k:B)(h:A=B:=by have zy:=zA @zw107<|zA @rs107<|zA @tt3<|zA @tt5<|zA @tt68<|zA @tt178<|zA ti3.eq_1<|zA ti5.eq_1<|zA ti68.eq_1<|zA ti178.eq_1<|zA @t_159<|zA @t_163<|zA @zsl68<|zA @hk<|zA @h0<|@h1;exact zQ): A:=h▸k
theorem c107e: Con C 107 R107e:=by
 refine V0e C ?_ ?_ ?_
 ·rintro args p r r' ⟨key,s,h,hk,h0,h1,e⟩ ⟨key',s',h',hk',h0',h1',e'⟩
  subst e;subst e';simp_all[Q0g,Q0g]
 ·rintro args p r ⟨key,s,h,hk,h0,h1,rfl⟩;exact zr1
 rintro args p r ⟨key,s,rfl,hk,h0,h1,rfl⟩
 refine zW C false [(159,R159),(163,R163)] ⟨c159,c163,zT⟩ rfl xf107 zc107_ok fun call zh hF=>?_
 have t_159:=@t159 _ zh.1
 have t_163:=@t163 _ zh.2.1
 clear zh
 obtain⟨tl,l,o⟩:=s
 simp only at h0 h1
 subst h0
 subst h1
 have h0:True:=trivial
 have h1:True:=trivial
 have hr:=V0m key []
 generalize hS:sumB key []=S at hr
 have hcp:cloneP (⟨.part,[],o⟩:Lst Int)=⟨.exact,[],nofun⟩:=rfl
 have t3:=fun q=>t_163 key ⟨.part,[],o⟩ (p:=q) hk (Nat.zero_le _) nofun
 rw[hS]at t3
 have t9:=fun q=>t_159 ⟨.part,[],o⟩ (p:=q) nofun (Nat.zero_le _)
 rw[hcp]at t9
 (have zx:=zA t3 t9;refine zq107e ?_;try exact zT)
 repeat'(apply zK.s<;>intro hc<;>(try simp only[zhd]at hc)<;>(try have hw:=X0a hc)<;>(refine zq107e ?_;try exact zT))
 all_goals(try clear zx)
 rw[four_e]
 have hcl:four S=closeB key []:=by rw[closeB,hS];rfl
 simp only[hcl]
 exact V0c hF (fun k o h=>by have hd:=hF.dom k o h;simp (disch:=first|exact zdl|fail) only[zheap];exact h) (V05 X0r _ _ _)
def R107y: Rel:=fun args p r=>R107 args p r\/R107e args p r
theorem c107y: Con C 107 R107y:=con_or C c107 c107e (by
 rintro args p r r' ⟨k,s,e,_,h0,_⟩ ⟨k',s',e',_,h0',_⟩
 rw[e]at e'
 simp only[List.cons.injEq,Q0g,and_true]at e'
 rw[e'.2]at h0
 exact absurd h0' h0)
theorem t107y{T:XCall}(h:Has T 107 R107y)(key:Int)(s:Lst Int){p:Hp}(hk:-9223372036854775808<=key/\key<=9223372036854775807)(h1:s.tl=.part)(h2:s.l.length<=1000000)(h5:∀x∈s.l,0<=x/\x<=255): T 107 [I key,s.cv Y8] p=.ret (Lst.cv Y8 (partB (closeB key s.l))) p:=by
 by_cases h0:s.l=[]
 ·exact h _ _ _ (.inr ⟨key,s,rfl,hk,h0,h1,rfl⟩)
 ·exact h _ _ _ (.inl ⟨key,s,rfl,hk,h0,by rw[h1];nofun,h2,h5,rfl⟩)
theorem sl68t(h:Heap)(l:List Int)(o:Tail.part=.nil->l=[])(n:Int)(hn:0<=n/\n<=l.length): qslice C h 68 (Lst.cv Y8 ⟨.part,l,o⟩) none (some (I n)) none=some (Lst.cv Y8 (partB (l.take n.toNat))):=by
 simp only[qslice,tt68,ti68,tt5,Lst.cv]
 rw[if_pos (show((l.map Y8).all fun v=>decide (v.shape=ti5.sh))=true from shapes_s Y1g l)]
 have hq:qbnd (some (I n)) (l.map Y8).length (l.map Y8).length=some n.toNat:=by
  simp only[qbnd,List.length_map]
  rw[if_pos (by omega)]
 have hl:qbnd none 0 n.toNat=some 0:=rfl
 simp only[hq,hl,List.drop_zero,partB,List.map_take]
def tagBody(s:Lst Int): List Int:=s.l.take (s.l.length-4)
def opensB(key:Int)(s:Lst Int): Prop:=4<=s.l.length/\closeB key (tagBody s)=s.l
instance (key:Int)(s:Lst Int): Decidable (opensB key s):=by unfold opensB;infer_instance
def R109: Rel:=fun args p r=>∃(key:Int) (s:Lst Int),args=[I key,s.cv Y8]/\(-9223372036854775808<=key/\key<=9223372036854775807)/\(s.tl=.part\/s.l.length<4)/\(s.l.length<=1000000)/\(∀x∈s.l,0<=x/\x<=255)/\r=if opensB key s then .ret (.tup [Lst.cv Y8 (cloneP (partB (tagBody s))),Bo true]) p else .ret (.tup [Lst.cv Y8 nilB,Bo false]) p
theorem t109{T:XCall}(h:Has T 109 R109)(key:Int)(s:Lst Int){p:Hp}(hk:-9223372036854775808<=key/\key<=9223372036854775807)(h4:s.tl=.part\/s.l.length<4)(h2:s.l.length<=1000000)(h5:∀x∈s.l,0<=x/\x<=255): T 109 [I key,s.cv Y8] p=if opensB key s then .ret (.tup [Lst.cv Y8 (cloneP (partB (tagBody s))),Bo true]) p else .ret (.tup [Lst.cv Y8 nilB,Bo false]) p:=h _ _ _ ⟨key,s,rfl,hk,h4,h2,h5,rfl⟩
theorem zdis109{P:Prop}(h:P:=by first|exact zdis|(simp only[Hp.bump_n,Hp.znew_n,Hp.zset_n,List.length_nil,List.length_cons,List.length_append,List.length_map,Y0e];(first|done|omega))|(simp (disch:=first|exact zd1|(simp only[Hp.bump_n,Hp.znew_n,Hp.zset_n,List.length_nil,List.length_cons,List.length_append,List.length_map,Y0e];(first|done|omega))) only[zheap,zx];(first|done|rfl))|fail): P:=h
theorem zq109{A B:Prop}(k:B)(h:A=B:=by have zy:=zA @zw109<|zA @rs109<|zA @tt3<|zA @tt68<|zA ti3.eq_1<|zA ti68.eq_1<|zA @t_107y<|zA @t_96<|zA @t_159<|zA @zsl68<|zA @sl68t<|zA @Y0e<|zA @hk<|zA @h4<|zA @h2<|@h5;have zd:=@zdis109;exact zQd): A:=h▸k
theorem c109: Con C 109 R109:=by
 refine V0e C ?_ ?_ ?_
 ·rintro args p r r' ⟨key,s,h,hk,h4,h2,h5,e⟩ ⟨key',s',h',hk',h4',h2',h5',e'⟩
  subst e;subst e';simp_all[Q0g,Q0g]
 ·rintro args p r ⟨key,s,h,hk,h4,h2,h5,rfl⟩;exact zr1
 rintro args p r ⟨key,s,rfl,hk,h4,h2,h5,rfl⟩
 refine zW C false [(107,R107y),(96,R96),(159,R159)] ⟨c107y,c96,c159,zT⟩ rfl xf109 zc109_ok fun call zh hF=>?_
 have t_107y:=@t107y _ zh.1
 have t_96:=@t96 _ zh.2.1
 have t_159:=@t159 _ zh.2.2.1
 clear zh
 by_cases hlt:(s.l.length:Int)<4
 ·have hno:¬opensB key s:=fun h=>by have:=h.1;omega
  rw[if_neg hno]
  (have zx:=hlt;refine zq109 ?_;try exact zT)
  repeat'(apply zK.s<;>intro hc<;>(try simp only[zhd]at hc)<;>(try have hw:=X0a hc)<;>(refine zq109 ?_;try exact zT))
  all_goals(try clear zx)
  exact V0c hF zle (Y0d (X0c (by intro jj;simp[CV.has,CV.hasL,Lst.cv,nilB])))
 ·have h4':s.tl=.part:=h4.resolve_right (by omega)
  obtain⟨tl,l,o⟩:=s
  simp only at h4' h2 h5 hlt
  subst h4'
  obtain⟨body,hbd⟩:∃b,l.take ((l.length:Int)-4).toNat=b:=⟨_,rfl⟩
  have hb:∀x∈(partB body).l,0<=x/\x<=255:=fun x hx=>h5 x (List.mem_of_mem_take (by rw[<- hbd]at hx;exact hx))
  have hbl:body.length<=1000000:=by rw[<- hbd,List.length_take];omega
  have hcl:(closeB key body).length<=140737488355328:=by rw[closeB,List.length_append];simp only[four,List.length_cons,List.length_nil];omega
  have t7:=fun q=>t_107y key (partB body) (p:=q) hk rfl hbl hb
  have t9:=fun q=>t_159 (partB body) (p:=q) nofun (by rw[Y0e];omega)
  have t6:=fun q=>t_96 (partB (closeB key body)) ⟨.part,l,o⟩ (p:=q) hcl (by simp only;omega)
  have hbe:tagBody ⟨.part,l,o⟩=body:=by rw[<- hbd];show l.take (l.length-4)=_;congr 1;omega
  simp only[Y0e]at t7 t6
  by_cases hc:closeB key body=l
  ·have hd:decide (closeB key body=l)=true:=decide_eq_true hc
   rw[if_pos (show opensB key ⟨.part,l,o⟩ from⟨by simp only;omega,by rw[hbe];exact hc⟩),hbe]
   simp only[hd]at t6
   (have zx:=zA hlt (zA hbd (zA t7 (zA t9 (zA t6 hd))));refine zq109 ?_;try exact zT)
   repeat'(apply zK.s<;>intro hc<;>(try simp only[zhd]at hc)<;>(try have hw:=X0a hc)<;>(refine zq109 ?_;try exact zT))
   all_goals(try clear zx)
   exact V0c hF zle (Y0d (X0c (fun j hj=>by
    simp only[CV.has,CV.hasL,or_false]at hj
    exact X1n _ j ((Lst.has _ X0r _ j).1 hj))))
  ·have hd:decide (closeB key body=l)=false:=decide_eq_false hc
   rw[if_neg (show ¬opensB key ⟨.part,l,o⟩ from fun h=>hc (by rw[<- hbe];exact h.2))]
   simp only[hd]at t6
   (have zx:=zA hlt (zA hbd (zA t7 (zA t9 (zA t6 hd))));refine zq109 ?_;try exact zT)
   repeat'(apply zK.s<;>intro hc<;>(try simp only[zhd]at hc)<;>(try have hw:=X0a hc)<;>(refine zq109 ?_;try exact zT))
   all_goals(try clear zx)
   exact V0c hF zle (Y0d (X0c (by intro jj;simp[CV.has,CV.hasL,Lst.cv,nilB])))
theorem X0s(e:Int)(j:Nat): ¬(CV.tup [Q0a.zero.cv,I e]).has j:=by
 simp only[CV.has,CV.hasL,or_false]
 rw[packHas]
 rintro(h|h)
 ·exact nilHas _ j h
 ·exact nilHas _ j h
theorem openP_len{key:Int}{s:Lst Int}(h:400<s.l.length): openP key s.l=(Q0a.zero,7):=by unfold openP;rw[if_pos h]
theorem openP_tag{key:Int}{s:Lst Int}(h:¬400<s.l.length)(ho:¬opensB key s): openP key s.l=(Q0a.zero,3):=by unfold openP;rw[if_neg h,if_pos (show ¬(4<=s.l.length/\closeB key (s.l.take (s.l.length-4))=s.l) from ho)]
theorem openP_in{key:Int}{s:Lst Int}(h:¬400<s.l.length)(ho:opensB key s): openP key s.l=match readP (tagBody s) with
 |.error _=>(Q0a.zero,2)
 |.ok (p,_)=>if packRight p=true/\packB (packBits p)=tagBody s then(p,0) else(Q0a.zero,2):=by
 unfold openP
 rw[if_neg h,if_neg (fun hh=>hh ho)]
 rfl
theorem al68(p:Hp): xalloc C p 68=.ret (.ptr p.n []) (p.new (.var sh68 (Lst.cv Y8 nilB))):=by
 simp only[xalloc,tt68];rfl
def R48: Rel:=fun args p r=>∃(key:Int) (s:Lst Int),args=[I key,s.cv Y8]/\(-9223372036854775808<=key/\key<=9223372036854775807)/\(s.tl=.part\/s.l.length<4)/\(s.l.length<=1000000)/\(∀x∈s.l,0<=x/\x<=255)/\r=.ret (.tup [(openP key s.l).1.cv,I (openP key s.l).2]) p
theorem t48{T:XCall}(h:Has T 48 R48)(key:Int)(s:Lst Int){p:Hp}(hk:-9223372036854775808<=key/\key<=9223372036854775807)(h4:s.tl=.part\/s.l.length<4)(h2:s.l.length<=1000000)(h5:∀x∈s.l,0<=x/\x<=255): T 48 [I key,s.cv Y8] p=.ret (.tup [(openP key s.l).1.cv,I (openP key s.l).2]) p:=h _ _ _ ⟨key,s,rfl,hk,h4,h2,h5,rfl⟩
theorem zdis48{P:Prop}(h:P:=by first|exact zdis|(simp only[Hp.bump_n,Hp.znew_n,Hp.zset_n,List.length_nil,List.length_cons,List.length_append,List.length_map,Y0e,K0i];(first|done|omega))|(simp (disch:=first|exact zd1|(simp only[Hp.bump_n,Hp.znew_n,Hp.zset_n,List.length_nil,List.length_cons,List.length_append,List.length_map,Y0e,K0i];(first|done|omega))) only[zheap,zx];(first|done|rfl))|fail): P:=h
theorem zq48{A B:Prop}(k:B)(h:A=B:=by((try simp -dsimp (disch:=first|exact zdis48|fail) only[zcore,zall,zopm,zop,zcallOp,qop,qbuiltin,ofOpt,List.map,reduceCtorEq,if_true,if_false,↓reduceIte,zbin,eqRes,qassert,qnum,qshift,qun,kindOf,allocV,List.nil_append,List.append_nil,List.cons_append,List.length_cons,List.length_nil,Nat.reduceAdd,Nat.reduceEqDiff,Nat.reduceLT,Nat.reduceSub,Nat.reduceMul,Int.reduceToNat,Int.reduceLE,Int.reduceLT,Int.reduceEq,Int.reduceNeg,Int.reduceAdd,Int.reduceSub,beq_self_eq_true,cond_true,cond_false,isConstOpd,xpanic,xconv,isBytes,qconv,List.length_map,List.map_nil,List.map_cons,concrete,Option.some.injEq,exists_eq',Option.map_some,Option.map_none,List.getElem?_cons_zero,List.getElem?_cons_succ,zw48,rs48,tt3,tt44,tt68,tt94,ti3,ti44,ti68,ti94,t_50,t_73p,t_96,t_108,t_109,K0e,X0p,zsl68,resPS,Y0e,K0i,al68,hk,h4,h2,h5,zx,hc]);rfl)): A:=h▸k
theorem c48: Con C 48 R48:=by
 refine V0e C ?_ ?_ ?_
 ·rintro args p r r' ⟨key,s,h,hk,h4,h2,h5,e⟩ ⟨key',s',h',hk',h4',h2',h5',e'⟩
  subst e;subst e';simp_all[Q0a.inj_iff,V0b.inj_iff,Q0g,Q0g]
 ·rintro args p r ⟨key,s,h,hk,h4,h2,h5,rfl⟩;exact zr1
 rintro args p r ⟨key,s,rfl,hk,h4,h2,h5,rfl⟩
 refine zW C false [(50,R50),(73,R73p),(96,R96),(108,R108),(109,R109)] ⟨c50,c73p,c96,c108,c109,zT⟩ rfl xf48 zc48_ok fun call zh hF=>?_
 have t_50:=@t50 _ zh.1
 have t_73p:=@t73p _ zh.2.1
 have t_96:=@t96 _ zh.2.2.1
 have t_108:=@t108 _ zh.2.2.2.1
 have t_109:=@t109 _ zh.2.2.2.2.1
 clear zh
 by_cases hlong:(400:Int)<s.l.length
 ·have hop:=openP_len (key:=key) (s:=s) (by omega)
  rw[hop]
  (have zx:=hlong;refine zq48 ?_;try exact zT)
  repeat'(apply zK.s<;>intro hc<;>(try simp only[zhd]at hc)<;>(try have hw:=X0a hc)<;>(refine zq48 ?_;try exact zT))
  all_goals(try clear zx)
  exact V0c hF zle (Y0d (X0c (X0s _)))
 ·by_cases ho:opensB key s
  ·have hop:=openP_in (by omega) ho
   have hbb:∀x∈tagBody s,0<=x/\x<=255:=fun x hx=>h5 x (List.mem_of_mem_take hx)
   have hbl:(tagBody s).length<=1000000:=by rw[tagBody,List.length_take];omega
   have t7:=fun q h2 h3=>t_73p (p.n+1) (p.n+1+1) (cloneP (partB (tagBody s))) Q0a.zero (p:=q) h2 h3 (cloneP_nv _) (by rw[K0i,Y0e];omega) (by rw[K0i,Y0e];exact hbb)
   rw[K0i,Y0e]at t7
   cases hrp:readP (tagBody s) with
   |error e=>
    rw[hrp]at hop
    rw[hop]
    (have zx:=zA hlong (zA ho (zA t7 hrp));refine zq48 ?_;try exact zT)
    repeat'(apply zK.s<;>intro hc<;>(try simp only[zhd]at hc)<;>(try have hw:=X0a hc)<;>(refine zq48 ?_;try exact zT))
    all_goals(try clear zx)
    exact V0c hF zle (Y0d (X0c (X0s _)))
   |ok r=>
    obtain⟨u,a'⟩:=r
    rw[hrp]at hop
    have hu:=readPa_ok (a:=0) hrp
    have hno:=Y05 (a:=0) hrp
    cases hR:packRight u with
    |false=>
     rw[hop]
     simp only[hR,Bool.false_eq_true,false_and,if_false]
     (have zx:=zA hlong (zA ho (zA t7 (zA hrp (zA hu hR))));refine zq48 ?_;try exact zT)
     repeat'(apply zK.s<;>intro hc<;>(try simp only[zhd]at hc)<;>(try have hw:=X0a hc)<;>(refine zq48 ?_;try exact zT))
     all_goals(try clear zx)
     exact V0c hF zle (Y0d (X0c (X0s _)))
    |true=>
     have hsm:=Z1g hR
     have hpl:=V0r hsm
     have hpb:=X0f (packBits u)
     by_cases he:packB (packBits u)=tagBody s
     ·have hd:decide (packB (packBits u)=tagBody s)=true:=decide_eq_true he
      rw[hop]
      simp only[hR,he,and_self,if_true]
      (have zx:=zA hlong (zA ho (zA t7 (zA hrp (zA hu (zA hR (zA hsm hd))))));refine zq48 ?_;try exact zT)
      repeat'(apply zK.s<;>intro hc<;>(try simp only[zhd]at hc)<;>(try have hw:=X0a hc)<;>(refine zq48 ?_;try exact zT))
      all_goals(try clear zx)
      exact V0c hF zle (Y0d (X0c (fun j hj=>by simp only[CV.has,CV.hasL,or_false]at hj;exact hno j hj)))
     ·have hd:decide (packB (packBits u)=tagBody s)=false:=decide_eq_false he
      rw[hop]
      simp only[hR,he,and_false,if_false]
      (have zx:=zA hlong (zA ho (zA t7 (zA hrp (zA hu (zA hR (zA hsm hd))))));refine zq48 ?_;try exact zT)
      repeat'(apply zK.s<;>intro hc<;>(try simp only[zhd]at hc)<;>(try have hw:=X0a hc)<;>(refine zq48 ?_;try exact zT))
      all_goals(try clear zx)
      exact V0c hF zle (Y0d (X0c (X0s _)))
  ·have hop:=openP_tag (key:=key) (s:=s) (by omega) ho
   rw[hop]
   (have zx:=zA hlong ho;refine zq48 ?_;try exact zT)
   repeat'(apply zK.s<;>intro hc<;>(try simp only[zhd]at hc)<;>(try have hw:=X0a hc)<;>(refine zq48 ?_;try exact zT))
   all_goals(try clear zx)
   exact V0c hF zle (Y0d (X0c (X0s _)))
end Go.Proofs.Ytpchcfkebljopaa
end
section
namespace Go.Proofs.Ytpchcfkebljopaa
open Go.Cl Go Go.RowKit
set_option maxRecDepth 100000
end Go.Proofs.Ytpchcfkebljopaa
end
section
namespace Go.Proofs.Ytpchcfkebljopaa
open Go.Cl Go Go.RowKit
set_option linter.constructorNameAsVariable false
end Go.Proofs.Ytpchcfkebljopaa
end
section
namespace Go.Proofs.Ytpchcfkebljopaa
open Go.Cl Go Go.RowKit
set_option maxRecDepth 100000
set_option linter.constructorNameAsVariable false
end Go.Proofs.Ytpchcfkebljopaa
end
section
namespace Go.Proofs.Ytpchcfkebljopaa
open Go.Cl Go Go.RowKit
end Go.Proofs.Ytpchcfkebljopaa
end
section
namespace Go.Proofs.Ytpchcfkebljopaa
open Go.Cl Go Go.RowKit
set_option maxRecDepth 100000
set_option linter.constructorNameAsVariable false
def J65(players:Int)(l:Lst Int)(p:Hp)(n:Nat)(ρ:Env)(q:Hp): Prop:=
 ∃(k:Nat),n=min players.toNat l.l.length-k/\k<=min players.toNat l.l.length/\ρ 0=I players/\ρ 1=Lst.cv I l/\ρ 5=.slc p.n [] 0 players.toNat/\ρ 6=I k/\q.t.get p.n=some (.var (.n (List.replicate players.toNat sh110)) (.agg ((rowK players l.l k).map V0a.cv)))/\p.n<q.n/\HpLe p q
def R65: Rel:=fun args p r=>∃(players:Int) (l:Lst Int),args=[I players,Lst.cv I l]/\(1<=players/\players<=100)/\r=.ret (Lst.cv V0a.cv ⟨.part,rowOf players l.l,nofun⟩) p
theorem t65{T:XCall}(h:Has T 65 R65)(players:Int)(l:Lst Int){p:Hp}(h1:1<=players/\players<=100): T 65 [I players,Lst.cv I l] p=.ret (Lst.cv V0a.cv ⟨.part,rowOf players l.l,nofun⟩) p:=h _ _ _ ⟨players,l,rfl,h1,rfl⟩
theorem zq65{A B:Prop}(k:B)(h:A=B:=by have zy:=zA @zw65<|zA @rs65<|zA @tt3<|zA @tt24<|zA @tt108<|zA @tt110<|zA ti3.eq_1<|zA ti24.eq_1<|zA ti108.eq_1<|zA ti110.eq_1<|zA @t_69<|zA @Y0f<|zA @Z0e<|zA @zsl24<|zA @zsl108<|zA @mk108<|zA @ix108<|zA @sa108<|zA @sub_rep<|@h1;exact zQ): A:=h▸k
theorem zge65{P:Prop}(h:P:=by simp (disch:=first|exact zdl|fail) only[zheap];first|done|rfl): P:=h
theorem c65: Con C 65 R65:=by
 refine V0e C ?_ ?_ ?_
 ·rintro args p r r' ⟨players,l,h,h1,e⟩ ⟨players',l',h',h1',e'⟩
  subst e;subst e';simp_all[V0a.inj_iff,Y0a.inj_iff,X16,Y0j,X16]
 ·rintro args p r ⟨players,l,h,h1,rfl⟩;exact zr1
 rintro args p r ⟨players,l,rfl,h1,rfl⟩
 show AnsAt C 65 [I players,Lst.cv I l] p (.ret (.lst .part ((rowOf players l.l).map V0a.cv)) p)
 refine K1w C (sh:=.n (List.replicate players.toNat sh110)) (l:=(rowOf players l.l).map V0a.cv) (sz:=4) (fun x hx=>by obtain⟨y,_,rfl⟩:=List.mem_map.1 hx;rfl) (fun j hj=>(V0i V0a.nohas _ j hj).elim) ?_
 refine zW C false [(69,R69)] ⟨c69,zT⟩ rfl xf65 zc65_ok fun call zh hF=>?_
 have t_69:=@t69 _ zh.1
 clear zh
 have hp:((players.toNat:Nat):Int)=players:=by omega
 have hfin:∀q:Hp,q.t.get p.n=some (.var (.n (List.replicate players.toNat sh110)) (.agg ((rowOf players l.l).map V0a.cv)))->HpLe p q->ShrR p (.ret (.slc p.n [] 0 players.toNat) q) (.ret (.slc p.n [] 0 (rowOf players l.l).length) (p.new (.var (.n (List.replicate players.toNat sh110)) (.agg ((rowOf players l.l).map V0a.cv))))):=by
  intro q g1 hle
  rw[rowOf_len]
  refine Y1i (by show p.n<=p.n+1;omega) (fun j o h=>?_) ⟨rfl,Nat.lt_succ_self _,rfl,rfl,rfl⟩
  by_cases hj:j=p.n
  ·subst hj
   rw[Hp.get_new_self]at h;cases h
   exact⟨Nat.lt_succ_self _,.inr ⟨_,g1,K0l fun i hi=>by simp only[XObj.has,CV.has]at hi;exact(V0i V0a.nohas _ i hi).elim⟩⟩
  ·rw[Hp.get_new_ne _ _ hj]at h
   have hd:=hF.dom _ _ h
   exact⟨Nat.lt_succ_of_lt hd,.inl ⟨hd,h,hle j o h⟩⟩
 (have zx:=zT;refine zq65 ?_;try exact zT)
 repeat'(apply zK.s<;>intro hc<;>(try simp only[zhd]at hc)<;>(try have hw:=X0a hc)<;>(refine zq65 ?_;try exact zT))
 all_goals(try clear zx)
 (show W C false noExt call (ZC.loop zn65_9) _ _ _);refine Z0j C false noExt call zn65_9 _ _ _ (J65 players l p) (min players.toNat l.l.length) ⟨0,rfl,by omega,(by simp[put_at,K0d,Z0g]),(by simp[put_at,K0d];rfl),(by simp[put_at,K0d,Z0g]),(by simp[put_at,K0d,Z0g]),zge65,(zb9),zle⟩ ?_
 rintro n ρ q ⟨k,rfl,hk,e0,e1,e5,e6,g1,hn,hle⟩
 have hlen:=X1z players l.l k
 by_cases hlt:(k:Int)<players
 ·by_cases hll:(k:Int)<l.l.length
  ·have hw:=Q09 ((nth l.l k).tdiv 7)
   by_cases h4:0<(nth l.l k).tmod 4
   ·have hst:rowK players l.l (k+1)=(rowK players l.l k).set k (cellOf (nth l.l k)):=by simp[rowK,h4]
    (have zx:=zA e0 (zA e1 (zA e5 (zA e6 (zA g1 (zA hlt (zA hll h4))))));refine zq65 ?_;try exact zT)
    repeat'(apply zK.s<;>intro hc<;>(try simp only[zhd]at hc)<;>(try have hw:=X0a hc)<;>(refine zq65 ?_;try exact zT))
    all_goals(try clear zx)
    exact⟨min players.toNat l.l.length-(k+1),by omega,k+1,rfl,by omega,zev,zev,zev,zev,by rw[hst];simp (disch:=first|exact zdl|fail) only[zheap];first|done|rfl,zb9,zlq⟩
   ·have hst:rowK players l.l (k+1)=rowK players l.l k:=by simp[rowK,h4]
    (have zx:=zA e0 (zA e1 (zA e5 (zA e6 (zA g1 (zA hlt (zA hll h4))))));refine zq65 ?_;try exact zT)
    repeat'(apply zK.s<;>intro hc<;>(try simp only[zhd]at hc)<;>(try have hw:=X0a hc)<;>(refine zq65 ?_;try exact zT))
    all_goals(try clear zx)
    exact⟨min players.toNat l.l.length-(k+1),by omega,k+1,rfl,by omega,zev,zev,zev,zev,by rw[hst];exact g1,hn,hle⟩
  ·have hk2:k=min players.toNat l.l.length:=by omega
   (have zx:=zA e0 (zA e1 (zA e5 (zA e6 (zA g1 (zA hlt hll)))));refine zq65 ?_;try exact zT)
   repeat'(apply zK.s<;>intro hc<;>(try simp only[zhd]at hc)<;>(try have hw:=X0a hc)<;>(refine zq65 ?_;try exact zT))
   all_goals(try clear zx)
   exact hfin q (by rw[g1,hk2];rfl) hle
 ·have hk2:k=min players.toNat l.l.length:=by omega
  (have zx:=zA e0 (zA e1 (zA e5 (zA e6 (zA g1 hlt))));refine zq65 ?_;try exact zT)
  repeat'(apply zK.s<;>intro hc<;>(try simp only[zhd]at hc)<;>(try have hw:=X0a hc)<;>(refine zq65 ?_;try exact zT))
  all_goals(try clear zx)
  exact hfin q (by rw[g1,hk2];rfl) hle
end Go.Proofs.Ytpchcfkebljopaa
end
section
namespace Go.Proofs.Ytpchcfkebljopaa
open Go.Cl Go Go.RowKit
end Go.Proofs.Ytpchcfkebljopaa
end
section
namespace Go.Proofs.Ytpchcfkebljopaa
open Go.Cl Go Go.RowKit
set_option maxRecDepth 100000
set_option linter.constructorNameAsVariable false
end Go.Proofs.Ytpchcfkebljopaa
end
section
namespace Go.Proofs.Ytpchcfkebljopaa
open Go.Cl Go Go.RowKit
def xor8(a b:Int): Int:=IntKind.u8.wrap ((BitVec.ofInt IntKind.u8.bits a ^^^ BitVec.ofInt IntKind.u8.bits b).toNat:Int)
theorem xor8_n(a b:Int): xor8 a b=((BitVec.ofInt 8 a ^^^ BitVec.ofInt 8 b).toNat:Int):=by
 have h:=(BitVec.ofInt 8 a ^^^ BitVec.ofInt 8 b).isLt
 show((BitVec.ofInt 8 a ^^^ BitVec.ofInt 8 b).toNat:Int) % 2^8=_
 omega
theorem xor8_rng(a b:Int): 0<=xor8 a b/\xor8 a b<=255:=by
 have h:=(BitVec.ofInt 8 a ^^^ BitVec.ofInt 8 b).isLt
 rw[xor8_n];omega
theorem of8{a:Int}(h:0<=a/\a<=255): ((BitVec.ofInt 8 a).toNat:Int)=a:=by
 rw[BitVec.toNat_ofInt];omega
theorem xor8_zero{a:Int}(h:0<=a/\a<=255): xor8 a 0=a:=by
 rw[xor8_n,show BitVec.ofInt 8 0=0#8 from rfl,BitVec.xor_zero,of8 h]
theorem xor8_ne{a b:Int}(h:0<=a/\a<=255)(hb:0<=b/\b<=255)(h0:b≠0): xor8 a b≠a:=by
 intro e
 rw[xor8_n]at e
 have e2:(BitVec.ofInt 8 a ^^^ BitVec.ofInt 8 b).toNat=(BitVec.ofInt 8 a).toNat:=by have:=of8 h;omega
 have e3:=BitVec.eq_of_toNat_eq e2
 have e4:BitVec.ofInt 8 b=0#8:=by
  have:=congrArg (fun x=>BitVec.ofInt 8 a ^^^ x) e3
  simpa[<- BitVec.xor_assoc]using this
 have:=of8 hb
 rw[e4]at this
 simp at this
 omega
def turned(B:List Int)(k:Nat)(b:Int): List Int:=B.set k (xor8 (nth B k) b)
theorem turned_byte{B:List Int}(h:∀x∈B,0<=x/\x<=255)(k:Nat)(b:Int): ∀x∈turned B k b,0<=x/\x<=255:=by
 intro x hx
 rcases List.mem_or_eq_of_mem_set hx with h'|h'
 ·exact h x h'
 ·rw[h'];exact xor8_rng _ _
theorem turned_zero{B:List Int}(h:∀x∈B,0<=x/\x<=255){k:Nat}(hk:k<B.length): turned B k 0=B:=by
 unfold turned
 rw[xor8_zero (h _ (by rw[K0j hk];exact List.getElem_mem _)),K0j hk,List.set_getElem_self]
theorem turned_ne{B:List Int}(h:∀x∈B,0<=x/\x<=255){k:Nat}(hk:k<B.length){b:Int}(hb:0<=b/\b<=255)(h0:b≠0): turned B k b≠B:=by
 intro e
 refine xor8_ne (h (nth B k) (by rw[K0j hk];exact List.getElem_mem _)) hb h0 ?_
 have:=congrArg (fun l=>nth l k) e
 simp only[turned]at this
 rw[nth_set_self hk]at this
 exact this
end Go.Proofs.Ytpchcfkebljopaa
end
section
namespace Go.Proofs.Ytpchcfkebljopaa
open Go.Cl Go Go.RowKit
set_option maxRecDepth 100000
set_option linter.constructorNameAsVariable false
theorem app68m(p:Hp)(s:Lst Int)(h0:s.l≠[])(hl:s.l.length<=140737488355328): xappend C true p 68 68 (Lst.cv Y8 ⟨.exact,[],nofun⟩) (Lst.cv Y8 s)=.ret (.slc p.n [] 0 s.l.length) (p.new (Wrow s.l)):=by
 obtain⟨tl,l,o⟩:=s
 simp only at h0 hl ⊢
 cases l with
 |nil=>exact absurd rfl h0
 |cons x l=>
  have ha:allSh ((x::l).map Y8) sh5=true:=Y0u (fun x=>rfl) (x::l)
  simp only[List.map_cons]at ha
  simp only[List.length_cons]at hl
  have h3:Nat.ble ((0+(l.length+1))*1) 140737488355328=true:=Nat.ble_eq_true_of_le (by omega)
  have h4:Nat.ble (0+(l.length+1)) 9223372036854775807=true:=Nat.ble_eq_true_of_le (by omega)
  simp only[xappend,tt68,ti68,tt5,ti5,cond_true,Lst.cv,xsrc,srcOf,List.map_cons,List.map_nil,ha,xappmut,List.length_cons,List.length_nil,List.length_map,h3,h4,Wrow]
  simp[allSh,Tail.full]
theorem shr_row{args:List CV}{p p' q0:Hp}{v u:CV}{J:Nat}{B:List Int}(hF:Fine args p)(hn:q0.n=p.n)(hq:∀k o,q0.t.get k=some o->p.t.get k=some o/\k≠J/\p'.t.get k=some o)(hT:p'.t.get J=some (Wrow B))(hv:CV.weak (ren p.n J) (p.n+1) v u): ShrR p (.ret v p') (.ret u (q0.new (Wrow B))):=
 V07 hF (J:=J) hn (fun k o h=>⟨hF.dom k o (hq k o h).1,(hq k o h).2.1,.inl ⟨(hq k o h).1,(hq k o h).2.2⟩⟩) ⟨_,hT,V1l _ _ _⟩ hv
theorem row_weak(p J m:Nat): CV.weak (ren p J) (p+1) (.slc J [] 0 m) (.slc p [] 0 m):=by simp[CV.weak,ren]
theorem row_weakT(p J m:Nat)(n:Int): CV.weak (ren p J) (p+1) (.tup [.slc J [] 0 m,I n]) (.tup [.slc p [] 0 m,I n]):=by simp[CV.weak,CV.weakL,ren]
def R159m: Rel:=fun args p r=>∃(s:Lst Int),args=[s.cv Y8]/\(s.tl=.part)/\(s.l.length<=1000000)/\(s.l≠[])/\r=.ret (.slc p.n [] 0 s.l.length) (p.new (Wrow s.l))
theorem t159m{T:XCall}(h:Has T 159 R159m)(s:Lst Int){p:Hp}(h1:s.tl=.part)(h2:s.l.length<=1000000)(h3:s.l≠[]): T 159 [s.cv Y8] p=.ret (.slc p.n [] 0 s.l.length) (p.new (Wrow s.l)):=h _ _ _ ⟨s,rfl,h1,h2,h3,rfl⟩
theorem zq159m{A B:Prop}(k:B)(h:A=B:=by have zy:=zA @zw159<|zA @rs159<|zA @tt68<|zA ti68.eq_1<|zA @zsl68<|zA @app68m<|zA @h1<|zA @h2<|@h3;exact zQ): A:=h▸k
theorem c159m: Con C 159 R159m:=by
 refine V0e C ?_ ?_ ?_
 ·rintro args p r r' ⟨s,h,h1,h2,h3,e⟩ ⟨s',h',h1',h2',h3',e'⟩
  subst e;subst e';simp_all[Q0g]
 ·rintro args p r ⟨s,h,h1,h2,h3,rfl⟩;exact zr1
 rintro args p r ⟨s,rfl,h1,h2,h3,rfl⟩
 refine zW C true [] zT rfl xf159 zc159_ok fun call zh hF=>?_
 clear zh
 obtain⟨tl,l,o⟩:=s
 simp only at h2 h1 h3
 subst h1
 have h1:True:=trivial
 (have zx:=h3;refine zq159m ?_;try exact zT)
 repeat'(apply zK.s<;>intro hc<;>(try simp only[zhd]at hc)<;>(try have hw:=X0a hc)<;>(refine zq159m ?_;try exact zT))
 all_goals(try clear zx)
 exact shr_row hF (J:=p.n) rfl (fun k o h=>by have hd:=hF.dom k o h;exact⟨h,by omega,by rw[Hp.get_new_ne _ _ (by omega)];exact h⟩) (Hp.get_new_self _ _) (row_weak _ _ _)
theorem Wrow_e(B:List Int): Wrow B=.var (.n (List.replicate B.length .s)) (.agg (B.map Y8)):=rfl
theorem sub68(n k:Nat)(q:List Nat): subEq (.n (List.replicate n .s)) (k::q) sh5=(decide (k<n)&&subEq sh5 q sh5):=sub_rep n k q sh5 sh5
theorem xor8_e(a b:Int): IntKind.u8.wrap ((BitVec.ofInt IntKind.u8.bits a ^^^ BitVec.ofInt IntKind.u8.bits b).toNat:Int)=xor8 a b:=rfl
def R7: Rel:=fun args p r=>∃(x:Z0a) (l:Lst (Lst Int)) (at_ by_:Int),args=[x.cv,Lst.cv (Lst.cv I) l,I at_,Y8 by_]/\(0<=by_/\by_<=255)/\r=.ret (Bo true) p
theorem t7{T:XCall}(h:Has T 7 R7)(x:Z0a)(l:Lst (Lst Int))(at_ by_:Int){p:Hp}(hb:0<=by_/\by_<=255): T 7 [x.cv,Lst.cv (Lst.cv I) l,I at_,Y8 by_] p=.ret (Bo true) p:=h _ _ _ ⟨x,l,at_,by_,rfl,hb,rfl⟩
theorem src68(p:Hp)(j:Nat)(B:List Int)(hg:p.t.get j=some (Wrow B)): srcOf C p.h 68 (.slc j [] 0 B.length)=some (B.map Y8):=by
 have ht:tgt p.h (.ptr j [])=some (.agg (B.map Y8)):=by
  simp only[tgt,Hp.h,hg,Wrow,Option.map_some,XObj.obj,CV.at]
 have hk:List.take B.length (B.map Y8)=B.map Y8:=List.take_of_length_le (by simp)
 simp only[srcOf,tt68,ti68,ht]
 simp[hk]
theorem nil_slc(j n:Nat): nilness (.slc j [] 0 n)=some false:=nd rfl
def J96r(s:Lst Int)(j:Nat)(B:List Int)(p:Hp)(n:Nat)(ρ:Env)(q:Hp): Prop:=
 ∃k:Nat,n=s.l.length-k/\k<=s.l.length/\ρ 0=s.cv Y8/\ρ 1=.slc j [] 0 B.length/\ρ 12=I s.l.length/\ρ 13=I k/\(∀j,j<k->nth s.l j=nth B j)/\HpLe p q
def R96r: Rel:=fun args p r=>∃(s:Lst Int) (j:Nat) (B:List Int),args=[s.cv Y8,.slc j [] 0 B.length]/\(s.l.length<=140737488355328)/\(B.length<=140737488355328)/\(p.t.get j=some (Wrow B))/\r=.ret (Bo (decide (s.l=B))) p
theorem t96r{T:XCall}(h:Has T 96 R96r)(s:Lst Int)(j:Nat)(B:List Int){p:Hp}(h1:s.l.length<=140737488355328)(h2:B.length<=140737488355328)(h3:p.t.get j=some (Wrow B)): T 96 [s.cv Y8,.slc j [] 0 B.length] p=.ret (Bo (decide (s.l=B))) p:=h _ _ _ ⟨s,j,B,rfl,h1,h2,h3,rfl⟩
theorem zq96r{A B:Prop}(k:B)(h:A=B:=by have zy:=zA @zw96<|zA @rs96<|zA @tt3<|zA @tt5<|zA @tt68<|zA ti3.eq_1<|zA ti5.eq_1<|zA ti68.eq_1<|zA @zsl68<|zA @ix68<|zA @a68<|zA @Wrow_e<|zA @sub68<|zA @h1<|zA @h2<|@h3;exact zQ): A:=h▸k
theorem zno96r{P:Prop}(h:P:=by intro jj;simp[CV.has,CV.hasL,fault,K0b.nohas]): P:=h
theorem c96r: Con C 96 R96r:=by
 refine V0e C ?_ ?_ ?_
 ·rintro args p r r' ⟨s,j,B,h,h1,h2,h3,e⟩ ⟨s',j',B',h',h1',h2',h3',e'⟩
  subst e;subst e';(subst h;simp only[List.cons.injEq,Q0g,CV.slc.injEq,and_true,true_and]at h';obtain⟨e0,e1,_⟩:=h';subst e0;subst e1;rw[h3]at h3';rw[Z0v (Option.some.inj h3')])
 ·rintro args p r ⟨s,j,B,h,h1,h2,h3,rfl⟩;exact zr1
 rintro args p r ⟨s,j,B,rfl,h1,h2,h3,rfl⟩
 refine zW C false [] zT rfl xf96 zc96_ok fun call zh hF=>?_
 clear zh
 have hd_h3:=hF.dom _ _ h3
 by_cases hlen:s.l.length=B.length
 ·have hl2:(s.l.length:Int)=B.length:=by omega
  (have zx:=zA hl2 h3;refine zq96r ?_;try exact zT)
  repeat'(apply zK.s<;>intro hc<;>(try simp only[zhd]at hc)<;>(try have hw:=X0a hc)<;>(refine zq96r ?_;try exact zT))
  all_goals(try clear zx)
  (show W C false noExt call (ZC.loop Z09) _ _ _);refine Z0j C false noExt call Z09 _ _ _ (J96r s j B p) s.l.length ⟨0,rfl,by omega,by simp[put_at,K0d,Z0g],by simp[put_at,K0d,Z0g,Y0t],by simp[put_at,K0d,hl2],zev,fun j hj=>by omega,zle⟩ ?_
  rintro n ρ q ⟨k,rfl,hk2,e0,e1,e12,e13,hj,hle⟩
  have g1:=hle _ _ h3
  by_cases hlt:(k:Int)<s.l.length
  ·have hlt2:(k:Int)<B.length:=by omega
   have hlt3:k<B.length:=by omega
   by_cases hne:nth s.l k=nth B k
   ·(have zx:=zA e0 (zA e1 (zA e12 (zA e13 (zA g1 (zA hlt (zA hlt2 (zA hlt3 (zA hne h3))))))));refine zq96r ?_;try exact zT)
    repeat'(apply zK.s<;>intro hc<;>(try simp only[zhd]at hc)<;>(try have hw:=X0a hc)<;>(refine zq96r ?_;try exact zT))
    all_goals(try clear zx)
    exact⟨s.l.length-(k+1),by omega,k+1,rfl,by omega,zev,zev,zev,zev,fun j hjk=>by
     by_cases h:j=k
     ·rw[h];exact hne
     ·exact hj j (by omega),zlq⟩
   ·(have zx:=zA e0 (zA e1 (zA e12 (zA e13 (zA g1 (zA hlt (zA hlt2 (zA hlt3 (zA hne h3))))))));refine zq96r ?_;try exact zT)
    repeat'(apply zK.s<;>intro hc<;>(try simp only[zhd]at hc)<;>(try have hw:=X0a hc)<;>(refine zq96r ?_;try exact zT))
    all_goals(try clear zx)
    have hl:¬s.l=B:=fun h=>hne (by rw[h])
    exact V0c hF zlq (Q0d (by simp[hl]) (X0c (by intro jj;simp[CV.has])))
  ·have hl:s.l=B:=V1m hlen fun j h=>hj j (by omega)
   (have zx:=zA e0 (zA e1 (zA e12 (zA e13 (zA g1 (zA hlt h3)))));refine zq96r ?_;try exact zT)
   repeat'(apply zK.s<;>intro hc<;>(try simp only[zhd]at hc)<;>(try have hw:=X0a hc)<;>(refine zq96r ?_;try exact zT))
   all_goals(try clear zx)
   exact V0c hF zlq (Q0d (by simp[hl]) (X0c (by intro jj;simp[CV.has])))
 ·have hl2:¬(s.l.length:Int)=B.length:=by omega
  have hne:¬s.l=B:=fun e=>hlen (by rw[e])
  (have zx:=zA hl2 h3;refine zq96r ?_;try exact zT)
  repeat'(apply zK.s<;>intro hc<;>(try simp only[zhd]at hc)<;>(try have hw:=X0a hc)<;>(refine zq96r ?_;try exact zT))
  all_goals(try clear zx)
  exact V0c hF zle (Q0d (by simp[hne]) (X0c zno96r))
theorem src68p(p:Hp)(j m:Nat)(B:List Int)(hg:p.t.get j=some (Wrow B))(hm:m<=B.length): srcOf C p.h 68 (.slc j [] 0 m)=some ((B.take m).map Y8):=by
 have ht:tgt p.h (.ptr j [])=some (.agg (B.map Y8)):=by
  simp only[tgt,Hp.h,hg,Wrow,Option.map_some,XObj.obj,CV.at]
 simp only[srcOf,tt68,ti68,ht]
 simp[List.map_take,hm]
theorem app68p(p:Hp)(j m:Nat)(B:List Int)(h0:0<m/\m<=B.length)(hl:B.length<=1000000)(hg:p.t.get j=some (Wrow B)): xappend C false p 68 68 (Lst.cv Y8 ⟨.exact,[],nofun⟩) (.slc j [] 0 m)=.ret (Lst.cv Y8 ⟨.own p.n,B.take m,nofun⟩) (p.new (.tail m)):=by
 have hlen:(B.take m).length=m:=by rw[List.length_take];omega
 have h:=sl_app68 p ⟨.exact,[],nofun⟩ ⟨.part,B.take m,nofun⟩ (by simp;omega)
 cases hB:B.take m with
 |nil=>rw[hB]at hlen;simp at hlen;omega
 |cons x l=>
  rw[hB]at h hlen
  rw[appT_c _ _ _ _ _ _ _ _ _ (.inr rfl)]at h
  simp only[xappend,tt68,ti68,tt5,ti5,cond_false]at h ⊢
  rw[src68p p j _ _ hg h0.2,hB]
  have hs:srcOf C p.h 68 (Lst.cv Y8 ⟨.part,x::l,nofun⟩)=some ((x::l).map Y8):=by simp only[srcOf,tt68,ti68,Lst.cv]
  rw[hs,show([]:List Int).length+(l.length+1)=m by simp at hlen ⊢;omega]at h
  exact h
theorem app68q(p:Hp)(j:Nat)(B:List Int)(hg:p.t.get j=some (Wrow B)): xappend C false p 68 68 (Lst.cv Y8 ⟨.exact,[],nofun⟩) (.slc j [] 0 0)=.ret (Lst.cv Y8 ⟨.exact,[],nofun⟩) p:=by
 simp only[xappend,tt68,ti68,tt5,ti5,cond_false,src68p p j 0 B hg (Nat.zero_le _),List.take_zero,List.map_nil]
 rfl
theorem sl68r(p:Hp)(j n:Nat)(B:List Int)(k:Int)(hg:p.t.get j=some (Wrow B))(hk:0<=k/\k<=n): qslice C p.h 68 (.slc j [] 0 n) none (some (I k)) none=some (.slc j [] 0 k.toNat):=by
 have ht:tgt p.h (.ptr j [])=some (.agg (B.map Y8)):=by
  simp only[tgt,Hp.h,hg,Wrow,Option.map_some,XObj.obj,CV.at]
 have hs:CV.shape (.agg (B.map Y8))=.n (List.replicate (B.map Y8).length ti5.sh):=by
  show _=Shape.n (List.replicate (B.map Y8).length sh5)
  simp only[CV.shape,Y0k (f:=Y8) (s:=sh5) Y1g,List.length_map]
 simp only[qslice,tt68,ti68,tt5,ht]
 rw[if_pos hs]
 have hq:qbnd (some (I k)) n n=some k.toNat:=by simp only[qbnd];rw[if_pos hk]
 have hl:qbnd none 0 k.toNat=some 0:=rfl
 simp only[hq,hl]
 simp
theorem ix68p(p:Hp)(j n m:Nat)(B:List Int)(k:Int)(hg:p.t.get j=some (.var (.n (List.replicate n .s)) (.agg (B.map Y8))))(hk:0<=k/\k<m): qindexAddr C p.h 68 (.slc j [] 0 m) (I k)=some (.ptr j [k.toNat]):=by
 have ht:tgt p.h (.ptr j [])=some (.agg (B.map Y8)):=by
  simp only[tgt,Hp.h,hg,Option.map_some,XObj.obj,CV.at]
 have hs:CV.shape (.agg (B.map Y8))=.n (List.replicate (B.map Y8).length sh5):=by
  simp only[CV.shape,Y0k (f:=Y8) (s:=sh5) Y1g,List.length_map]
 simp only[qindexAddr,tt68,ti68,tt5,ht]
 rw[if_pos ⟨hs,hk⟩]
 simp
def R159a: Rel:=fun args p r=>∃(j m:Nat) (B:List Int),args=[.slc j [] 0 m]/\(p.t.get j=some (Wrow B))/\(0<m/\m<=B.length)/\(B.length<=1000000)/\r=.ret (Lst.cv Y8 ⟨.own p.n,B.take m,nofun⟩) (p.new (.tail m))
theorem zq159a{A B:Prop}(k:B)(h:A=B:=by have zy:=zA @zw159<|zA @rs159<|zA @tt68<|zA ti68.eq_1<|zA @zsl68<|zA @app68p<|zA @nil_slc<|zA @h1<|zA @h0<|@h2;exact zQ): A:=h▸k
theorem c159a: Con C 159 R159a:=by
 refine V0e C ?_ ?_ ?_
 ·rintro args p r r' ⟨j,m,B,h,h1,h0,h2,e⟩ ⟨j',m',B',h',h1',h0',h2',e'⟩
  subst e;subst e';(subst h;simp only[List.cons.injEq,CV.slc.injEq,and_true,true_and]at h';obtain⟨e0,e1⟩:=h';subst e0;subst e1;rw[h1]at h1';rw[Z0v (Option.some.inj h1')])
 ·rintro args p r ⟨j,m,B,h,h1,h0,h2,rfl⟩;exact zr1
 rintro args p r ⟨j,m,B,rfl,h1,h0,h2,rfl⟩
 refine zW C false [] zT rfl xf159 zc159_ok fun call zh hF=>?_
 clear zh
 have hd_h1:=hF.dom _ _ h1
 (have zx:=h1;refine zq159a ?_;try exact zT)
 repeat'(apply zK.s<;>intro hc<;>(try simp only[zhd]at hc)<;>(try have hw:=X0a hc)<;>(refine zq159a ?_;try exact zT))
 all_goals(try clear zx)
 have hlen:(B.take m).length=m:=by rw[List.length_take];omega
 have:=shr_own68 (l:=B.take m) hF (q:=p.new (.tail m)) zle (Nat.le_refl _) (by rw[hlen];exact Hp.get_new_self _ _)
 rw[hlen]at this
 exact this
def R159b: Rel:=fun args p r=>∃(j:Nat) (B:List Int),args=[.slc j [] 0 0]/\(p.t.get j=some (Wrow B))/\r=.ret (Lst.cv Y8 ⟨.exact,[],nofun⟩) p
theorem zq159b{A B:Prop}(k:B)(h:A=B:=by have zy:=zA @zw159<|zA @rs159<|zA @tt68<|zA ti68.eq_1<|zA @zsl68<|zA @app68q<|zA @nil_slc<|@h1;exact zQ): A:=h▸k
theorem c159b: Con C 159 R159b:=by
 refine V0e C ?_ ?_ ?_
 ·rintro args p r r' ⟨j,B,h,h1,e⟩ ⟨j',B',h',h1',e'⟩
  subst e;subst e';(subst h;simp only[List.cons.injEq,CV.slc.injEq,and_true,true_and]at h';rfl)
 ·rintro args p r ⟨j,B,h,h1,rfl⟩;exact zr1
 rintro args p r ⟨j,B,rfl,h1,rfl⟩
 refine zW C false [] zT rfl xf159 zc159_ok fun call zh hF=>?_
 clear zh
 have hd_h1:=hF.dom _ _ h1
 (have zx:=h1;refine zq159b ?_;try exact zT)
 repeat'(apply zK.s<;>intro hc<;>(try simp only[zhd]at hc)<;>(try have hw:=X0a hc)<;>(refine zq159b ?_;try exact zT))
 all_goals(try clear zx)
 exact V0c hF zle (Y0d (X0c (by intro jj;simp[CV.has,CV.hasL,Lst.cv])))
def R159q: Rel:=fun args p r=>R159a args p r\/R159b args p r
theorem c159q: Con C 159 R159q:=con_or C c159a c159b (by
 rintro args p r r' ⟨j,m,B,e,_,h0,_⟩ ⟨j',B',e',_⟩
 rw[e]at e'
 simp only[List.cons.injEq,CV.slc.injEq,and_true,true_and]at e'
 omega)
theorem t159q{T:XCall}(h:Has T 159 R159q): (∀(j m:Nat) (B:List Int) {p:Hp},p.t.get j=some (Wrow B)->0<m/\m<=B.length->B.length<=1000000->T 159 [.slc j [] 0 m] p=.ret (Lst.cv Y8 ⟨.own p.n,B.take m,nofun⟩) (p.new (.tail m))) /\
  ∀(j:Nat) (B:List Int) {p:Hp},p.t.get j=some (Wrow B)->T 159 [.slc j [] 0 0] p=.ret (Lst.cv Y8 ⟨.exact,[],nofun⟩) p:=
 ⟨fun j m B p h1 h0 h2=>h _ _ _ (.inl ⟨j,m,B,rfl,h1,h0,h2,rfl⟩),fun j B p h1=>h _ _ _ (.inr ⟨j,B,rfl,h1,rfl⟩)⟩
def J163q(key:Int)(j m:Nat)(B:List Int)(p:Hp)(n:Nat)(ρ:Env)(q:Hp): Prop:=
 ∃k:Nat,n=m-k/\k<=m/\ρ 1=.slc j [] 0 m/\ρ 5=I ((B.take k).foldl sumStep (key % 2147483647+1))/\ρ 13=.slc j [] 0 m/\ρ 14=I m/\ρ 15=I k/\q=p
def R163q: Rel:=fun args p r=>∃(key:Int) (j m:Nat) (B:List Int),args=[I key,.slc j [] 0 m]/\(-9223372036854775808<=key/\key<=9223372036854775807)/\(m<=B.length)/\(B.length<=1000000)/\(∀x∈B,0<=x/\x<=255)/\(p.t.get j=some (Wrow B))/\r=.ret (I (sumB key (B.take m))) p
theorem t163q{T:XCall}(h:Has T 163 R163q)(key:Int)(j m:Nat)(B:List Int){p:Hp}(h1:-9223372036854775808<=key/\key<=9223372036854775807)(h0:m<=B.length)(h2:B.length<=1000000)(h5:∀x∈B,0<=x/\x<=255)(h3:p.t.get j=some (Wrow B)): T 163 [I key,.slc j [] 0 m] p=.ret (I (sumB key (B.take m))) p:=h _ _ _ ⟨key,j,m,B,rfl,h1,h0,h2,h5,h3,rfl⟩
theorem zq163q{A B:Prop}(k:B)(h:A=B:=by have zy:=zA @zw163<|zA @rs163<|zA @tt3<|zA @tt5<|zA @tt68<|zA ti3.eq_1<|zA ti5.eq_1<|zA ti68.eq_1<|zA @zsl68<|zA @ix68p<|zA @a68<|zA @Wrow_e<|zA @sub68<|zA @h1<|zA @h0<|zA @h2<|zA @h5<|@h3;exact zQ): A:=h▸k
theorem c163q: Con C 163 R163q:=by
 refine V0e C ?_ ?_ ?_
 ·rintro args p r r' ⟨key,j,m,B,h,h1,h0,h2,h5,h3,e⟩ ⟨key',j',m',B',h',h1',h0',h2',h5',h3',e'⟩
  subst e;subst e';(subst h;simp only[List.cons.injEq,CV.sc.injEq,Value.int.injEq,CV.slc.injEq,and_true,true_and]at h';obtain⟨e2,e0,e1⟩:=h';subst e0;subst e1;subst e2;rw[h3]at h3';rw[Z0v (Option.some.inj h3')])
 ·rintro args p r ⟨key,j,m,B,h,h1,h0,h2,h5,h3,rfl⟩;exact zr1
 rintro args p r ⟨key,j,m,B,rfl,h1,h0,h2,h5,h3,rfl⟩
 refine zW C false [] zT rfl xf163 zc163_ok fun call zh hF=>?_
 clear zh
 have hd_h3:=hF.dom _ _ h3
 have hk:=key_mod key
 have hr0:-2147483647<key.tmod 2147483647:=by have:=Int.lt_tmod_of_pos key (b:=2147483647) (by omega);exact this
 have hr1:=Int.tmod_lt_of_pos key (b:=2147483647) (by omega)
 have hr2:0<=key % 2147483647/\key % 2147483647<2147483647:=by omega
 (have zx:=zA hk h3;refine zq163q ?_;try exact zT)
 repeat'(apply zK.s<;>intro hc<;>(try simp only[zhd]at hc)<;>(try have hw:=X0a hc)<;>(refine zq163q ?_;try exact zT))
 all_goals(try clear zx)
 (show W C false noExt call (ZC.loop Y1a) _ _ _);refine Z0j C false noExt call Y1a _ _ _ (J163q key j m B p) m ⟨0,rfl,by omega,by simp[put_at,K0d,Z0g,Y0t],zev,by simp[put_at,K0d,Z0g,Y0t],zev,zev,rfl⟩ ?_
 rintro n ρ q ⟨k,rfl,hk2,e1,e5,e13,e14,e15,rfl⟩
 have hf:=Z1v key (B.take k)
 by_cases hlt:(k:Int)<m
 ·have hst:=Q1v sumStep (key % 2147483647+1) (l:=B) (k:=k) (by omega)
  have hy:=h5 (nth B k) (by rw[K0j (by omega)];exact List.getElem_mem _)
  have hkB:k<B.length:=by omega
  generalize (B.take k).foldl sumStep (key % 2147483647+1)=h at hf hst e5
  generalize hyy:nth B k=y at hy hst
  have ht:(h*257+y+1).tmod 2147483647=sumStep h y:=by rw[Int.tmod_eq_emod_of_nonneg (by omega)];rfl
  (have zx:=zA e1 (zA e5 (zA e13 (zA e14 (zA e15 (zA hlt (zA hyy (zA ht (zA hkB h3))))))));refine zq163q ?_;try exact zT)
  repeat'(apply zK.s<;>intro hc<;>(try simp only[zhd]at hc)<;>(try have hw:=X0a hc)<;>(refine zq163q ?_;try exact zT))
  all_goals(try clear zx)
  exact⟨m-(k+1),by omega,k+1,rfl,by omega,zev,by rw[hst];simp[put_at,K0d],zev,zev,zev,rfl⟩
 ·have hkl:k=m:=by omega
  rw[hkl]at e5 hf
  have hlen:(B.take m).length=m:=by rw[List.length_take];omega
  have ht:((B.take m).foldl sumStep (key % 2147483647+1)+m).tmod 2147483647=sumB key (B.take m):=by rw[Int.tmod_eq_emod_of_nonneg (by omega),sumB,hlen]
  (have zx:=zA e1 (zA e5 (zA e13 (zA e14 (zA e15 (zA hlt (zA ht h3))))));refine zq163q ?_;try exact zT)
  repeat'(apply zK.s<;>intro hc<;>(try simp only[zhd]at hc)<;>(try have hw:=X0a hc)<;>(refine zq163q ?_;try exact zT))
  all_goals(try clear zx)
  exact V0c hF zle (Q0d rfl (X0c (by intro jj;simp[CV.has])))
end Go.Proofs.Ytpchcfkebljopaa
end
