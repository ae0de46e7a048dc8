import Derived.Recover
import Derived.ProofKit
import Derived.Test.YtpchcfkebljopaaGreatXa
set_option linter.unusedSimpArgs false
set_option linter.unusedVariables false
set_option linter.constructorNameAsVariable false
set_option linter.defProp false
set_option maxHeartbeats 8000000
section
namespace Go.Cl
open Go.RowKit
structure Ent where
 env:XEnv
 wanted:Bool
 v:CV
inductive XTR where
 |done (env:XEnv) (es:List Ent) (hs:List Hp)
 |pan (v:CV) (p:Hp) (es:List Ent) (hs:List Hp)
 |stuck
def XTR.cons(x:Ent): XTR->XTR
 |.done env es hs=>.done env (x::es) hs
 |.pan v p es hs=>.pan v p (x::es) hs
 |.stuck=>.stuck
def XTR.consH(x:Ent)(h:Hp): XTR->XTR
 |.done env es hs=>.done env (x::es) (h::hs)
 |.pan v p es hs=>.pan v p (x::es) (h::hs)
 |.stuck=>.stuck
def allocV(o:Op)(i:Nat): CV:=
 match o with
 |.alloc _=>.ptr i []
 |.makeSlice _ l c=>.slc i [] 0 ((constLen l c).getD 0)
 |_=>.mapr i
def cntF: List Bool->Nat->(Nat->Bool)->Nat
 |[],_,_=>0
 |b::l,i,P=>(bif b&&P i then 1 else 0)+cntF l (i+1) P
def isEff(o:Oper)(x:Ent): Bool:=
 match kindOf o.op with
 |.eff=>x.wanted
 |_=>false
def flags(ops:List Oper)(es:List Ent): List Bool:=List.zipWith isEff ops es
theorem Y0q(P Q:Nat->Bool): ∀(l:List Bool) (i j:Nat),(∀k,P (i+k)=Q (j+k))->cntF l i P=cntF l j Q
 |[],_,_,_=>rfl
 |b::l,i,j,h=>by
  have h0:P i=Q j:=h 0
  have ih:=Y0q P Q l (i+1) (j+1) (fun k=>by rw[Nat.add_assoc,Nat.add_assoc,Nat.add_comm 1 k];exact h (k+1))
  simp only[cntF,h0,ih]
theorem Z0i{P Q:Nat->Bool}: ∀(l:List Bool) (i:Nat),(∀k,l[k]?=some true->P (i+k)=Q (i+k))->cntF l i P=cntF l i Q
 |[],_,_=>rfl
 |b::l,i,h=>by
  have ih:=Z0i (P:=P) (Q:=Q) l (i+1) (fun k hk=>by rw[Nat.add_assoc,Nat.add_comm 1 k];exact h (k+1) (by simpa using hk))
  simp only[cntF,ih]
  cases b with
  |false=>rfl
  |true=>rw[show P i=Q i from h 0 rfl]
theorem K0n{P Q:Nat->Bool}: ∀(l:List Bool) (i:Nat),(∀k,l[k]?=some true->P (i+k)=true->Q (i+k)=true)->cntF l i P<=cntF l i Q
 |[],_,_=>Nat.le_refl _
 |b::l,i,h=>by
  simp only[cntF]
  have ih:=K0n l (i+1) (fun k hk hp=>by have:=h (k+1) (by simpa using hk);rw[show i+1+k=i+(k+1) by omega];exact this (by rw[show i+(k+1)=i+1+k by omega];exact hp))
  cases b with
  |false=>simpa using ih
  |true=>
   have h0:=h 0 rfl
   cases hp:P i with
   |false=>simp;omega
   |true=>rw[show Q i=true from h0 hp];simpa using ih
theorem Q0v{P:Nat->Bool}{x:Nat}: ∀(l:List Bool) (i:Nat),i<=x->P x=false->l[x-i]?=some true->cntF l i (fun k=>P k || Nat.beq k x)=cntF l i P+1
 |[],_,_,_,h=>by simp at h
 |b::l,i,hi,hP,h=>by
  simp only[cntF]
  by_cases hx:i=x
  ·subst hx
   simp at h
   subst h
   have hz:cntF l (i+1) (fun k=>P k || Nat.beq k i)=cntF l (i+1) P:=Z0i l (i+1) fun k _=>by
    have:Nat.beq (i+1+k) i=false:=by
     cases hb:Nat.beq (i+1+k) i with
     |false=>rfl
     |true=>have:=Nat.eq_of_beq_eq_true hb;omega
    rw[this];simp
   rw[hz,hP]
   simp[Nat.add_comm]
  ·have hb:Nat.beq i x=false:=by
    cases hb:Nat.beq i x with
    |false=>rfl
    |true=>exact absurd (Nat.eq_of_beq_eq_true hb) hx
   rw[hb,Bool.or_false,Q0v l (i+1) (by omega) hP (by rw[show x-i=(x-(i+1))+1 by omega]at h;simpa using h)]
   omega
theorem cntF_same{P:Nat->Bool}{x:Nat}(l:List Bool)(hx:l[x]?≠some true): cntF l 0 (fun k=>P k || Nat.beq k x)=cntF l 0 P:=Z0i l 0 fun k hk=>by
 have:Nat.beq (0+k) x=false:=by
  cases hb:Nat.beq (0+k) x with
  |false=>rfl
  |true=>have:=Nat.eq_of_beq_eq_true hb;rw[<- this,Nat.zero_add]at hx;exact absurd hk hx
 rw[this];simp
section
variable (C:Ctx)
noncomputable def xtr(mu:Bool)(ext:FuncId->List CV->Option CV)(call:XCall)(ops:List Oper)(A:List Nat)(n0:Nat): List Oper->Nat->XEnv->Hp->XTR
 |[],_,env,p=>.done env [] [p]
 |o::rest,i,env,p=>match xwanted ops o env with
  |none=>.stuck
  |some false=>XTR.cons ⟨env,false,.tup []⟩ (xtr mu ext call ops A n0 rest (i+1) (env.put o.dst (.tup [])) p)
  |some true=>match kindOf o.op with
   |.quiet=>match xop C mu ext call env p o.op with
    |.ret v _=>XTR.cons ⟨env,true,v⟩ (xtr mu ext call ops A n0 rest (i+1) (env.put o.dst v) p)
    |_=>.stuck
   |.alloc=>XTR.cons ⟨env,true,allocV o.op (n0+i)⟩ (xtr mu ext call ops A n0 rest (i+1) (env.put o.dst (allocV o.op (n0+i))) p)
   |.eff=>match xop C mu ext call env p o.op with
    |.ret v p'=>XTR.consH ⟨env,true,v⟩ p (xtr mu ext call ops A n0 rest (i+1) (env.put o.dst v) p')
    |.pan v p'=>bif (List.range' (i+1) rest.length).all (fun j=>bef A j i)then .pan v p' [] [p]else .stuck
    |.stuck=>.stuck
structure EntOk(mu:Bool)(ext:FuncId->List CV->Option CV)(call:XCall)(ops:List Oper)(n0:Nat)(o:Oper)(i:Nat)(x:Ent)(p p':Hp): Prop where
 want:xwanted ops o x.env=some x.wanted
 off:x.wanted=false->x.v=.tup []
 quiet:x.wanted=true->kindOf o.op=.quiet->∃q,xop C mu ext call x.env p o.op=.ret x.v q
 alloc:x.wanted=true->kindOf o.op=.alloc->x.v=allocV o.op (n0+i)
 eff:x.wanted=true->kindOf o.op=.eff->xop C mu ext call x.env p o.op=.ret x.v p'
def preE: List Oper->List Ent->Env->Nat->Env
 |o::ops,x::es,env,j+1=>preE ops es (put env o.dst x.v) j
 |_,_,env,_=>env
structure RunOk(mu:Bool)(ext:FuncId->List CV->Option CV)(call:XCall)(ops:List Oper)(n0:Nat)(l:List Oper)(i:Nat)(env:XEnv)(p:Hp)(es:List Ent)(hs:List Hp): Prop where
 len:es.length<=l.length
 hlen:hs.length=cntF (flags l es) 0 (fun _=>true)+1
 h0:hs[0]?=some p
 ent:∀j o x,l[j]?=some o->es[j]?=some x->∃q q',hs[cntF (flags l es) 0 (fun k=>Nat.blt k j)]?=some q/\(isEff o x=true->hs[cntF (flags l es) 0 (fun k=>Nat.blt k j)+1]?=some q')/\EntOk C mu ext call ops n0 o (i+j) x q q'
 pre:∀j x,es[j]?=some x->x.env.at=preE l es env.at j
theorem blt_zero(k:Nat): Nat.blt k 0=false:=by
 cases h:Nat.blt k 0 with
 |false=>rfl
 |true=>simp[Nat.blt]at h
theorem RunOk.cons{mu:Bool}{ext:FuncId->List CV->Option CV}{call:XCall}{ops:List Oper}{n0:Nat}{o:Oper}{l:List Oper}{i:Nat}{env:XEnv}{p p1:Hp}{x:Ent}{es:List Ent}{hs hs':List Hp}
  (h:RunOk C mu ext call ops n0 l (i+1) (env.put o.dst x.v) p1 es hs) (hx:EntOk C mu ext call ops n0 o i x p p1) (henv:x.env=env) (hh:(isEff o x=true/\hs'=p::hs)\/(isEff o x=false/\hs'=hs/\p1=p)):
  RunOk C mu ext call ops n0 (o::l) i env p (x::es) hs':=by
 have hfl:flags (o::l) (x::es)=isEff o x::flags l es:=rfl
 have hsh:∀j,cntF (flags l es) 1 (fun k=>Nat.blt k (j+1))=cntF (flags l es) 0 (fun k=>Nat.blt k j):=fun j=>Y0q _ _ _ _ _ fun k=>by
  show Nat.ble (1+k+1) (j+1)=Nat.ble (0+k+1) j
  rw[show 1+k+1=(0+k+1)+1 by omega];rfl
 have hz:cntF (isEff o x::flags l es) 0 (fun k=>Nat.blt k 0)=0:=by
  have:cntF (isEff o x::flags l es) 0 (fun k=>Nat.blt k 0)=cntF (isEff o x::flags l es) 0 (fun _=>false):=Z0i _ _ fun k _=>blt_zero _
  rw[this]
  have key:∀(m:List Bool) (i:Nat),cntF m i (fun _=>false)=0:=fun m=>by
   induction m with
   |nil=>intro i;rfl
   |cons b m ih=>intro i;simp[cntF,ih]
  exact key _ _
 refine⟨by simp;exact h.len,?_,?_,fun j o' x' hj hj'=>?_,fun j x' hj=>?_⟩
 ·rw[hfl]
  simp only[cntF,Bool.and_true]
  have hc:cntF (flags l es) (0+1) (fun _=>true)=cntF (flags l es) 0 (fun _=>true):=Y0q _ _ _ _ _ fun _=>rfl
  rw[hc]
  rcases hh with⟨h1,rfl⟩|⟨h1,rfl,_⟩<;>rw[h1]
  ·simp only[List.length_cons,h.hlen,cond_true];omega
  ·simp only[h.hlen,cond_false];omega
 ·rcases hh with⟨_,rfl⟩|⟨_,rfl,rfl⟩
  ·rfl
  ·exact h.h0
 ·cases j with
  |zero=>
   simp at hj hj'
   subst hj;subst hj'
   rw[hfl,hz]
   refine⟨p,p1,?_,fun he=>?_,by simpa using hx⟩
   ·rcases hh with⟨_,rfl⟩|⟨_,rfl,rfl⟩
    ·rfl
    ·exact h.h0
   ·rcases hh with⟨_,rfl⟩|⟨h1,_⟩
    ·simpa using h.h0
    ·rw[h1]at he;cases he
  |succ j=>
   obtain⟨q,q',k1,k2,k3⟩:=h.ent j o' x' (by simpa using hj) (by simpa using hj')
   have hc:cntF (flags (o::l) (x::es)) 0 (fun k=>Nat.blt k (j+1))=(bif isEff o x then 1 else 0)+cntF (flags l es) 0 (fun k=>Nat.blt k j):=by
    rw[hfl]
    simp only[cntF]
    rw[show Nat.blt 0 (j+1)=true from by simp[Nat.blt],Bool.and_true,hsh]
   rw[hc]
   refine⟨q,q',?_,fun he=>?_,by rw[show i+(j+1)=i+1+j by omega];exact k3⟩
   ·rcases hh with⟨h1,rfl⟩|⟨h1,rfl,_⟩<;>rw[h1]
    ·rw[cond_true,Nat.add_comm];simpa using k1
    ·simpa using k1
   ·rcases hh with⟨h1,rfl⟩|⟨h1,rfl,_⟩<;>rw[h1]
    ·rw[cond_true,show 1+cntF (flags l es) 0 (fun k=>Nat.blt k j)+1=(cntF (flags l es) 0 (fun k=>Nat.blt k j)+1)+1 by omega];simpa using k2 he
    ·simpa using k2 he
 ·cases j with
  |zero=>simp at hj;subst hj;rw[henv];simp[preE]
  |succ j=>
   simp only[preE]
   rw[<- XEnv.at_put]
   exact h.pre j x' (by simpa using hj)
def XTRok(mu:Bool)(ext:FuncId->List CV->Option CV)(call:XCall)(ops:List Oper)(A:List Nat)(n0:Nat)(l:List Oper)(i:Nat)(env:XEnv)(p:Hp): XTR->Prop
 |.done env' es hs=>RunOk C mu ext call ops n0 l i env p es hs/\es.length=l.length/\env'.at=preE l es env.at l.length
 |.pan v p' es hs=>RunOk C mu ext call ops n0 l i env p es hs/\∃o x q,l[es.length]?=some o/\kindOf o.op=.eff/\xwanted ops o x=some true/\x.at=preE l es env.at es.length/\hs[cntF (flags l es) 0 (fun _=>true)]?=some q/\xop C mu ext call x q o.op=.pan v p' /\
  ∀j,es.length<j->j<l.length->bef A (i+j) (i+es.length)=true
 |.stuck=>True
theorem X07{mu:Bool}{ext:FuncId->List CV->Option CV}{call:XCall}{ops:List Oper}{A:List Nat}{n0:Nat}: ∀(l:List Oper) (i:Nat) (env:XEnv) (p:Hp),XTRok C mu ext call ops A n0 l i env p (xtr C mu ext call ops A n0 l i env p)
 |[],i,env,p=>⟨⟨Nat.le_refl _,rfl,rfl,fun j o x h=>by simp at h,fun j x h=>by simp at h⟩,rfl,rfl⟩
 |o::l,i,env,p=>by
  have step:∀(x:Ent) (p1:Hp) (t:XTR) (hs':List Hp->List Hp),x.env=env->EntOk C mu ext call ops n0 o i x p p1->((isEff o x=true/\∀hs,hs' hs=p::hs)\/(isEff o x=false/\(∀hs,hs' hs=hs)/\p1=p))->
    XTRok C mu ext call ops A n0 l (i+1) (env.put o.dst x.v) p1 t->XTRok C mu ext call ops A n0 (o::l) i env p (match t with
     |.done ev es hs=>.done ev (x::es) (hs' hs)
     |.pan v q es hs=>.pan v q (x::es) (hs' hs)
     |.stuck=>.stuck):=by
   intro x p1 t hs' henv hx hh ht
   have hh':∀hs,(isEff o x=true/\hs' hs=p::hs)\/(isEff o x=false/\hs' hs=hs/\p1=p):=fun hs=>by
    rcases hh with⟨h1,h2⟩|⟨h1,h2,h3⟩
    ·exact .inl ⟨h1,h2 hs⟩
    ·exact .inr ⟨h1,h2 hs,h3⟩
   cases t with
   |stuck=>trivial
   |done ev es hs=>
    obtain⟨h1,h2,h3⟩:=ht
    exact⟨h1.cons C hx henv (hh' hs),by simp[h2],by rw[h3,XEnv.at_put];rfl⟩
   |pan v q es hs=>
    obtain⟨h1,o',x',q',k1,k2,k3,k4,k5,k6,k7⟩:=ht
    refine⟨h1.cons C hx henv (hh' hs),o',x',q',by simpa using k1,k2,k3,by rw[k4,XEnv.at_put];rfl,?_,k6,fun j h1 h2=>?_⟩
    ·have hc:cntF (flags (o::l) (x::es)) 0 (fun _=>true)=(bif isEff o x then 1 else 0)+cntF (flags l es) 0 (fun _=>true):=by
      show cntF (isEff o x::flags l es) 0 (fun _=>true)=_
      simp only[cntF,Bool.and_true]
      rw[Y0q (fun _=>true) (fun _=>true) (flags l es) (0+1) 0 (fun _=>rfl)]
     rw[hc]
     rcases hh' hs with⟨h1,h2⟩|⟨h1,h2,_⟩<;>rw[h1,h2]
     ·rw[cond_true,Nat.add_comm];simpa using k5
     ·simpa using k5
    ·simp only[List.length_cons]at h1 h2 ⊢
     have:=k7 (j-1) (by omega) (by omega)
     rw[show i+1+(j-1)=i+j by omega,show i+1+es.length=i+(es.length+1) by omega]at this
     exact this
  unfold xtr
  cases hw:xwanted ops o env with
  |none=>trivial
  |some b=>
   cases b with
   |false=>
    have:=step ⟨env,false,.tup []⟩ p _ (fun hs=>hs) rfl ⟨hw,fun _=>rfl,(fun h=>by cases h),(fun h=>by cases h),(fun h=>by cases h)⟩ (.inr ⟨by unfold isEff;split<;>rfl,fun _=>rfl,rfl⟩) (X07 l (i+1) (env.put o.dst (.tup [])) p)
    simp only
    cases ht:xtr C mu ext call ops A n0 l (i+1) (env.put o.dst (.tup [])) p<;>rw[ht]at this<;>exact this
   |true=>
    simp only
    cases hk:kindOf o.op with
    |quiet=>
     simp only
     cases hx:xop C mu ext call env p o.op with
     |stuck=>trivial
     |pan v q=>trivial
     |ret v q=>
      have:=step ⟨env,true,v⟩ p _ (fun hs=>hs) rfl ⟨hw,(fun h=>by cases h),(fun _ _=>⟨q,hx⟩),(fun _ h=>by rw[hk]at h;cases h),(fun _ h=>by rw[hk]at h;cases h)⟩ (.inr ⟨by unfold isEff;rw[hk],fun _=>rfl,rfl⟩) (X07 l (i+1) (env.put o.dst v) p)
      simp only
      cases ht:xtr C mu ext call ops A n0 l (i+1) (env.put o.dst v) p<;>rw[ht]at this<;>exact this
    |alloc=>
     have:=step ⟨env,true,allocV o.op (n0+i)⟩ p _ (fun hs=>hs) rfl ⟨hw,(fun h=>by cases h),(fun _ h=>by rw[hk]at h;cases h),(fun _ _=>rfl),(fun _ h=>by rw[hk]at h;cases h)⟩ (.inr ⟨by unfold isEff;rw[hk],fun _=>rfl,rfl⟩) (X07 l (i+1) (env.put o.dst (allocV o.op (n0+i))) p)
     simp only
     cases ht:xtr C mu ext call ops A n0 l (i+1) (env.put o.dst (allocV o.op (n0+i))) p<;>rw[ht]at this<;>exact this
    |eff=>
     simp only
     cases hx:xop C mu ext call env p o.op with
     |stuck=>trivial
     |ret v q=>
      have:=step ⟨env,true,v⟩ q _ (fun hs=>p::hs) rfl ⟨hw,(fun h=>by cases h),(fun _ h=>by rw[hk]at h;cases h),(fun _ h=>by rw[hk]at h;cases h),(fun _ _=>hx)⟩ (.inl ⟨by unfold isEff;rw[hk],fun _=>rfl⟩) (X07 l (i+1) (env.put o.dst v) q)
      simp only
      cases ht:xtr C mu ext call ops A n0 l (i+1) (env.put o.dst v) q<;>rw[ht]at this<;>exact this
     |pan v q=>
      simp only
      cases hb:(List.range' (i+1) l.length).all (fun j=>bef A j i) with
      |false=>trivial
      |true=>
       refine⟨⟨Nat.zero_le _,rfl,rfl,fun j o x _ h=>by simp at h,fun j x h=>by simp at h⟩,o,env,p,rfl,hk,hw,rfl,rfl,hx,fun j h1 h2=>?_⟩
       simp only[List.length_nil,List.length_cons]at h1 h2 ⊢
       exact List.all_eq_true.1 hb (i+j) (by rw[List.mem_range'];exact⟨j-1,by omega,by omega⟩)
end
end Go.Cl
end
section
namespace Go.Cl
open Go.RowKit
def lstE(L:Nat->Bool): List Oper->List Ent->Nat->Env->Env
 |o::ops,x::es,i,env=>lstE L ops es (i+1) (bif L i then put env o.dst x.v else env)
 |_,_,_,env=>env
theorem put_eq_of_ne{env:Env}{d:Option Tmp}{v:CV}{t:Nat}(h:d≠some t): put env d v t=env t:=by
 cases d with
 |none=>rfl
 |some u=>
  have:t≠u:=fun e=>h (by rw[e])
  simp[put,this]
theorem K0t{L L':Nat->Bool}{t:Nat}: ∀(ops:List Oper) (es:List Ent) (i:Nat) (env env':Env),env t=env' t->(∀j o,ops[j]?=some o->o.dst=some t->j<es.length->L (i+j)=L' (i+j))->lstE L ops es i env t=lstE L' ops es i env' t
 |[],_,_,_,_,h,_=>by simpa[lstE]using h
 |_::_,[],_,_,_,h,_=>by simpa[lstE]using h
 |o::ops,x::es,i,env,env',h,hl=>by
  simp only[lstE]
  refine K0t ops es (i+1) _ _ ?_ fun j o' hj hd hlt=>by
   have:=hl (j+1) o' (by simpa using hj) hd (by simpa using hlt)
   rw[show i+1+j=i+(j+1) by omega];exact this
  by_cases hd:o.dst=some t
  ·rw[show L i=L' i from hl 0 o rfl hd (by simp)]
   cases L' i with
   |false=>exact h
   |true=>simp[put,hd]
  ·have e1:∀(b:Bool) (e:Env),(bif b then put e o.dst x.v else e) t=e t:=fun b e=>by
    cases b with
    |false=>rfl
    |true=>exact put_eq_of_ne hd
   rw[e1,e1];exact h
theorem X01: ∀(ops:List Oper) (es:List Ent) (i:Nat) (env:Env) (j:Nat),preE ops es env j=lstE (fun k=>Nat.blt k (i+j)) ops es i env
 |[],_,_,_,_=>by simp[preE,lstE]
 |_::_,[],_,_,_=>by simp[preE,lstE]
 |o::ops,x::es,i,env,0=>by
  simp only[preE,lstE]
  have hz:∀(ops:List Oper) (es:List Ent) (k:Nat) (env:Env),i<=k->lstE (fun k=>Nat.blt k (i+0)) ops es k env=env:=by
   intro ops
   induction ops with
   |nil=>intro es k env _;simp[lstE]
   |cons o ops ih=>
    intro es k env hk
    cases es with
    |nil=>simp[lstE]
    |cons x es=>
     simp only[lstE]
     have:Nat.blt k (i+0)=false:=by
      cases h:Nat.blt k (i+0) with
      |false=>rfl
      |true=>simp[Nat.blt]at h;omega
     rw[this]
     exact ih es (k+1) env (by omega)
  have:Nat.blt i (i+0)=false:=by
   cases h:Nat.blt i (i+0) with
   |false=>rfl
   |true=>simp[Nat.blt]at h;omega
  rw[this]
  exact(hz ops es (i+1) env (by omega)).symm
 |o::ops,x::es,i,env,j+1=>by
  simp only[preE,lstE]
  have:Nat.blt i (i+(j+1))=true:=by simp[Nat.blt]
  rw[this,cond_true,X01 ops es (i+1) _ j]
  congr 1
  funext k
  rw[show i+1+j=i+(j+1) by omega]
theorem lstE_put{L:Nat->Bool}{d:Option Tmp}{v:CV}: ∀(ops:List Oper) (es:List Ent) (i:Nat) (env:Env),(∀j o t,ops[j]?=some o->L (i+j)=true->d=some t->o.dst≠some t)->lstE L ops es i (put env d v)=put (lstE L ops es i env) d v
 |[],_,_,_,_=>by simp[lstE]
 |_::_,[],_,_,_=>by simp[lstE]
 |o::ops,x::es,i,env,h=>by
  simp only[lstE]
  have ih:=fun env=>lstE_put (L:=L) (d:=d) (v:=v) ops es (i+1) env (fun j o' t hj hl hd=>by
   have:=h (j+1) o' t (by simpa using hj) (by rw[show i+(j+1)=i+1+j by omega];exact hl) hd
   exact this)
  cases hL:L i with
  |false=>exact ih env
  |true=>
   simp only[cond_true]
   rw[put_comm (fun t ht=>h 0 o t rfl hL ht)]
   exact ih _
theorem lstE_add{L:Nat->Bool}{y:Nat}{oy:Oper}{xy:Ent}: ∀(ops:List Oper) (es:List Ent) (i:Nat) (env:Env),i<=y->ops[y-i]?=some oy->es[y-i]?=some xy->L y=false->(∀j o t,ops[j]?=some o->L (i+j)=true->y<i+j->oy.dst=some t->o.dst≠some t)->
  lstE (fun k=>L k || Nat.beq k y) ops es i env=put (lstE L ops es i env) oy.dst xy.v
 |[],_,_,_,_,h,_,_,_=>by simp at h
 |_::_,[],_,_,_,_,h,_,_=>by simp at h
 |o::ops,x::es,i,env,hi,ho,hx,hL,h=>by
  simp only[lstE]
  by_cases e:i=y
  ·subst e
   simp at ho hx
   subst ho;subst hx
   have hb:Nat.beq i i=true:=Nat.beq_refl i
   rw[hL,hb]
   simp only[Bool.or_true,cond_true,cond_false]
   have hsame:∀env,lstE (fun k=>L k || Nat.beq k i) ops es (i+1) env=lstE L ops es (i+1) env:=fun env=>by
    funext t
    refine K0t ops es (i+1) env env rfl fun j o' _ _ _=>?_
    have:Nat.beq (i+1+j) i=false:=by
     cases hb:Nat.beq (i+1+j) i with
     |false=>rfl
     |true=>have:=Nat.eq_of_beq_eq_true hb;omega
    simp[this]
   rw[hsame]
   exact lstE_put ops es (i+1) env fun j o' t hj hl hd=>h (j+1) o' t (by simpa using hj) (by rw[show i+(j+1)=i+1+j by omega];exact hl) (by omega) hd
  ·have hb:Nat.beq i y=false:=by
    cases hb:Nat.beq i y with
    |false=>rfl
    |true=>exact absurd (Nat.eq_of_beq_eq_true hb) e
   rw[hb,Bool.or_false]
   exact lstE_add ops es (i+1) _ (by omega) (by rw[show y-i=(y-(i+1))+1 by omega]at ho;simpa using ho) (by rw[show y-i=(y-(i+1))+1 by omega]at hx;simpa using hx) hL fun j o' t hj hl hlt hd=>h (j+1) o' t (by simpa using hj) (by rw[show i+(j+1)=i+1+j by omega];exact hl) (by omega) hd
section
variable (C:Ctx)
theorem R.newMapAt{w0:World}{B:Nat}{S:St}{h:Heap}{w:World}(r:R w0 B S h w){i:Nat}(hi:S.μ i=none)(hi':h i=some (.map [])): R w0 B (S.named i (.map w.heap.size)) h (w.alloc (.map #[] 0)):=by
 have hle:=St.le_named (l:=.map w.heap.size) hi
 have hheap:∀b,b<w.heap.size->(w.alloc (.map #[] 0)).heap[b]?=w.heap[b]?:=fun b hb=>Below.heap_alloc w _ b hb
 refine⟨r.below.alloc r.size _,?_,fun b o u hk=>?_,fun j hj=>?_,fun j obj lo h1 h2=>?_,fun j k oj ok lj lk hjk h1 h2 h3 h4=>?_⟩
 ·have:=r.size;rw[show(w.alloc (.map #[] 0)).heap=w.heap.push (.map #[] 0) from rfl,Array.size_push];omega
 ·have:=r.kcell b o u hk
  rw[K0g (w:=w) (hheap b (Z0h this))];exact this
 ·have h1:S.n<=j:=Nat.le_trans (Nat.le_max_left _ _) hj
  have h2:j≠i:=by have:=Nat.le_trans (Nat.le_max_right S.n (i+1)) hj;omega
  exact⟨by rw[St.named_ne h2];exact(r.fresh j h1).1,(r.fresh j h1).2⟩
 ·by_cases hj:j=i
  ·subst hj
   rw[hi']at h1;cases h1
   rw[St.named_μ]at h2;cases h2
   refine⟨⟨⟨#[],0,by rw[show(w.alloc (.map #[] 0)).heap=w.heap.push (.map #[] 0) from rfl];simp,rfl,fun i x e h=>by simp at h⟩,fun o=>?_⟩,r.size⟩
   cases hk:S.K w.heap.size o with
   |none=>exact hk
   |some x=>have:=Z0h (r.kcell _ _ _ hk);omega
  ·rw[St.named_ne hj]at h2
   have k:=r.live j obj lo h1 h2
   exact⟨k.1.mono hle (hheap _ k.1.lt) (fun _ h=>h),k.2⟩
 ·by_cases hj:j=i
  ·subst hj
   have hk:=Ne.symm hjk
   rw[St.named_μ]at h3;cases h3
   rw[St.named_ne hk]at h4
   have:=(r.live k ok lk h2 h4).1.lt
   show w.heap.size≠_;omega
  ·rw[St.named_ne hj]at h3
   by_cases hk:k=i
   ·subst hk
    rw[St.named_μ]at h4;cases h4
    have:=(r.live j oj lj h1 h3).1.lt
    show _≠w.heap.size;omega
   ·rw[St.named_ne hk]at h4
    exact r.inj j k oj ok lj lk hjk h1 h2 h3 h4
theorem Z0s{p q:Hp}{x:Option CV}{v:CV}(h:ofOpt p x=.ret v q): q=p/\x=some v:=by
 cases x<;>simp[ofOpt]at h
 exact⟨h.2.symm,by rw[h.1]⟩
theorem Y1e{mu:Bool}{ext:FuncId->List CV->Option CV}{call:XCall}{env:XEnv}{p q:Hp}{o:Op}{v:CV}(hk:kindOf o=.quiet)(h:xop C mu ext call env p o=.ret v q): q=p:=by
 unfold xop at h
 split at h<;>first
  |exact(Z0s h).1
  |(simp only[XRes.ret.injEq]at h;exact h.2.symm)
  |exact(kind_make hk).elim
  |(simp[kindOf]at hk;done)
  |skip
 ·unfold xbin at h
  split at h<;>exact(Z0s h).1
 ·rename_i f args ts
  unfold xcallOp at h
  split at h
  ·simp[kindOf]at hk
  ·simp[kindOf]at hk
  ·simp[kindOf]at hk
  ·split at h<;>try(cases h;done)
   rename_i x t l _ _
   cases hb:isSliceT C t with
   |false=>rw[hb]at h;cases h
   |true=>rw[hb]at h;exact(Z0s h).1
  ·exact(Z0s h).1
 ·rename_i t x k ok
  unfold xlookup at h
  split at h<;>try(cases h;done)
  split at h<;>try(cases h;done)
  split at h<;>try(cases h;done)
  exact(Z0s h).1
 ·simp[kindOf,isNoneB]at hk
theorem xop_still{mu:Bool}{ext:FuncId->List CV->Option CV}{call:XCall}{env:XEnv}{p q:Hp}{o:Op}{v:CV}(hk:kindOf o=.quiet)(hh:heapy o=false)(h:xop C mu ext call env p o=.ret v q)(p2:Hp): xop C mu ext call env p2 o=.ret v p2:=by
 have key:∀x:Option CV,ofOpt p x=.ret v q->ofOpt p2 x=.ret v p2:=fun x hx=>by rw[(Z0s hx).2];rfl
 cases o<;>first
  |(simp[heapy]at hh;done)
  |exact(kind_make hk).elim
  |(simp[kindOf]at hk;done)
  |(simp only[xop]at h ⊢;simp only[XRes.ret.injEq]at h;rw[h.1];done)
  |(simp only[xop]at h ⊢;exact key _ h)
  |skip
 ·rename_i op t x y yt
  simp only[xop,xbin]at h ⊢
  split at h<;>rename_i hy<;>exact key _ h
 all_goals first
  |(simp only[xop]at h ⊢;rename_i t res;cases res<;>simp[kindOf,isNoneB]at hk<;>exact key _ h)
  |(rename_i fn first cap;cases fn<;>(simp only[xop]at h ⊢;exact key _ h))
  |skip
end
end Go.Cl
end
section
namespace Go.Cl
open Go.RowKit
section
variable (C:Ctx)
theorem X0w{i j:Nat}(h:Nat.blt i j=true): i<j:=Nat.le_of_ble_eq_true h
theorem Q0x{i j:Nat}(h:i<j): Nat.blt i j=true:=Nat.ble_eq_true_of_le h
def isEffOp(o:Oper): Bool:=
 match kindOf o.op with
 |.eff=>true
 |_=>false
def chainB(ops:List Oper)(A:List Nat): Bool:=
 (List.range ops.length).all fun j=>(List.range j).all fun i=>match ops[i]?,ops[j]? with
  |some oi,some oj=>!(isEffOp oi&&isEffOp oj) || bef A j i
  |_,_=>true
def touches(ops:List Oper)(o:Oper)(t:Tmp): Bool:=(o.looksAt ops.toArray).contains t || (match o.dst with|some u=>Nat.beq u t|none=>false)
def conflB(ops:List Oper)(A:List Nat): Bool:=
 (List.range ops.length).all fun j=>match ops[j]? with
  |some oj=>match oj.dst with
   |some t=>(List.range ops.length).all fun i=>Nat.beq i j || (match ops[i]? with
    |some oi=>!touches ops oi t || (bif Nat.blt i j then bef A j i else bef A i j)
    |none=>true)
   |none=>true
  |none=>true
def drawStat(ops:List Oper)(A:List Nat): Bool:=lowB ops&&chainB ops A&&conflB ops A
theorem Z0u{ops:List Oper}{A:List Nat}(h:chainB ops A=true){i j:Nat}{oi oj:Oper}(hi:ops[i]?=some oi)(hj:ops[j]?=some oj)(hij:i<j)(h1:kindOf oi.op=.eff)(h2:kindOf oj.op=.eff): bef A j i=true:=by
 have hjl:=(List.getElem?_eq_some_iff.1 hj).1
 have a1:=List.all_eq_true.1 h j (by simpa using hjl)
 have a2:=List.all_eq_true.1 a1 i (by simpa using hij)
 simp only[hi,hj]at a2
 simpa[isEffOp,h1,h2]using a2
theorem X1g{ops:List Oper}{A:List Nat}(h:conflB ops A=true){i j:Nat}{oi oj:Oper}{t:Tmp}(hi:ops[i]?=some oi)(hj:ops[j]?=some oj)(hij:i≠j)(hd:oj.dst=some t)(ht:touches ops oi t=true): (i<j->bef A j i=true)/\(j<i->bef A i j=true):=by
 have hjl:=(List.getElem?_eq_some_iff.1 hj).1
 have hil:=(List.getElem?_eq_some_iff.1 hi).1
 have a1:=List.all_eq_true.1 h j (by simpa using hjl)
 simp only[hj,hd]at a1
 have a2:=List.all_eq_true.1 a1 i (by simpa using hil)
 simp only[hi,Bool.or_eq_true]at a2
 rcases a2 with a2|a2|a2
 ·exact absurd (Nat.eq_of_beq_eq_true a2) hij
 ·rw[ht]at a2;cases a2
 ·constructor
  ·intro hlt
   rw[show Nat.blt i j=true from Q0x hlt]at a2
   exact a2
  ·intro hlt
   have:Nat.blt i j=false:=by
    cases hb:Nat.blt i j with
    |false=>rfl
    |true=>have:=X0w hb;omega
   rw[this]at a2
   exact a2
def allocObj(o:Op): Option XObj:=
 match o with
 |.alloc t=>match C.tt t with
  |some ti=>some (.var ti.sh ti.zero)
  |none=>none
 |.makeSlice t l c=>match C.tt t,constLen l c with
  |some ⟨.base (.slice e),_,_,_⟩,some n=>match C.tt e with
   |some te=>bif Nat.blt 0 te.sh.size&&Nat.ble (te.bytes*n) 281474976710656 then some (.var (.n (List.replicate n te.sh)) (.agg (List.replicate n te.zero)))else none
   |none=>none
  |_,_=>none
 |_=>some (.map [])
theorem K0u{t:TypeId}{l c:Operand}{ob:XObj}(h:allocObj C (.makeSlice t l c)=some ob): ∃e sh by_ ze n te,C.tt t=some ⟨.base (.slice e),sh,by_,ze⟩/\constLen l c=some n/\C.tt e=some te/\0<te.sh.size/\te.bytes*n<=281474976710656/\ob=.var (.n (List.replicate n te.sh)) (.agg (List.replicate n te.zero)):=by
 unfold allocObj at h
 simp only at h
 split at h<;>try(cases h;done)
 rename_i e sh by_ ze n h1 h2
 split at h<;>try(cases h;done)
 rename_i te h3
 cases hb:(Nat.blt 0 te.sh.size&&Nat.ble (te.bytes*n) 281474976710656) with
 |false=>rw[hb]at h;cases h
 |true=>
  rw[hb]at h
  simp only[Bool.and_eq_true]at hb
  simp only[cond_true,Option.some.injEq]at h
  exact⟨e,sh,by_,ze,n,te,h1,h2,h3,Nat.le_of_ble_eq_true hb.1,Nat.le_of_ble_eq_true hb.2,h.symm⟩
theorem allocObj_sh{o:Op}{sh:Shape}{v:CV}(h:allocObj C o=some (.var sh v)): v.shape=sh:=by
 cases o with
 |alloc t=>
  unfold allocObj at h
  simp only at h
  split at h<;>simp at h
  rename_i ti hti
  rw[<- h.1,<- h.2];exact(C.htt _ _ hti).zsh
 |makeSlice t l c=>
  obtain⟨e,s',by_,ze,n,te,_,_,h3,_,_,h6⟩:=K0u C h
  simp only[XObj.var.injEq]at h6
  rw[h6.1,h6.2,CV.shape,CV.shapes_eq,List.map_replicate,(C.htt _ _ h3).zsh]
 |_=>simp[allocObj]at h
def shEq(a b:Shape): Bool:=decide (a=b)
def objEq: XObj->XObj->Bool
 |.var sa v,.var sb u=>shEq sa sb&&cvEq v u
 |.map [],.map []=>true
 |_,_=>false
theorem objEq_spec{a b:XObj}(h:objEq a b=true): a=b:=by
 unfold objEq at h
 split at h
 ·rw[Bool.and_eq_true]at h
  rw[of_decide_eq_true h.1,K0w _ _ h.2]
 ·rfl
 ·cases h
noncomputable def layA(n0:Nat): List Oper->Nat->Hp->Hp
 |[],_,p=>p
 |o::l,i,p=>layA n0 l (i+1) (match kindOf o.op with
  |.alloc=>match allocObj C o.op with
   |some ob=>p.set (n0+i) (some ob)
   |none=>p
  |_=>p)
noncomputable def chkAt(mu:Bool)(ext:FuncId->List CV->Option CV)(call:XCall)(n0:Nat)(hs:List Hp)(i:Nat)(o:Oper)(x:Ent)(e:Nat): Bool:=
 match hs[e]? with
 |none=>true
 |some q=>match kindOf o.op with
  |.quiet=>match xop C mu ext call x.env q o.op with
   |.ret v _=>cvEq x.v v
   |_=>false
  |.alloc=>match q.t.get (n0+i),allocObj C o.op with
   |some a,some b=>objEq a b
   |_,_=>false
  |.eff=>true
noncomputable def chkOne(mu:Bool)(ext:FuncId->List CV->Option CV)(call:XCall)(A:List Nat)(n0:Nat)(fl:List Bool)(hs:List Hp)(i:Nat)(o:Oper)(x:Ent): Bool:=
 bif x.wanted then
  match kindOf o.op with
  |.eff=>true
  |.quiet=>bif heapy o.op then
   (fun lo hi=>bif Nat.beq lo hi then true else(List.range' lo (hi+1-lo)).all fun e=>chkAt C mu ext call n0 hs i o x e) (cntF fl 0 fun j=>bef A i j) (cntF fl 0 fun j=>!bef A j i)else true
  |.alloc=>(fun lo hi=>(List.range' lo (hi+1-lo)).all fun e=>chkAt C mu ext call n0 hs i o x e) (cntF fl 0 fun j=>bef A i j) (cntF fl 0 fun j=>!bef A j i)
 else true
noncomputable def chkAll(mu:Bool)(ext:FuncId->List CV->Option CV)(call:XCall)(A:List Nat)(n0:Nat)(fl:List Bool)(hs:List Hp): Nat->List Oper->List Ent->Bool
 |i,o::ops,x::es=>chkOne C mu ext call A n0 fl hs i o x&&chkAll mu ext call A n0 fl hs (i+1) ops es
 |_,_,_=>true
theorem X1i{mu:Bool}{ext:FuncId->List CV->Option CV}{call:XCall}{A:List Nat}{n0:Nat}{fl:List Bool}{hs:List Hp}: ∀(ops:List Oper) (es:List Ent) (i:Nat),chkAll C mu ext call A n0 fl hs i ops es=true->∀j o x,ops[j]?=some o->es[j]?=some x->chkOne C mu ext call A n0 fl hs (i+j) o x=true
 |[],_,_,_,j,o,x,h,_=>by simp at h
 |_::_,[],_,_,j,o,x,_,h=>by simp at h
 |o::ops,x::es,i,h,j,o',x',ho,hx=>by
  simp only[chkAll,Bool.and_eq_true]at h
  cases j with
  |zero=>simp at ho hx;subst ho;subst hx;simpa using h.1
  |succ j=>
   have:=X1i ops es (i+1) h.2 j o' x' (by simpa using ho) (by simpa using hx)
   rw[show i+(j+1)=i+1+j by omega];exact this
noncomputable def xdraw(mu:Bool)(ext:FuncId->List CV->Option CV)(call:XCall)(ops:List Oper)(A:List Nat)(env:XEnv)(p:Hp): XR:=
 bif drawStat ops A then
  match xtr C mu ext call ops A p.n ops 0 env (layA C p.n ops 0 ⟨p.n+ops.length,p.t⟩) with
  |.done env' es hs=>bif chkAll C mu ext call A p.n (flags ops es) hs 0 ops es then(match hs.getLast? with
   |some q=>.ok .normal env' q
   |none=>.stuck)else .stuck
  |.pan v q es hs=>bif chkAll C mu ext call A p.n (flags ops es) hs 0 ops es then .ok (.panU v) env q else .stuck
  |.stuck=>.stuck
 else .stuck
theorem Z1c{n0:Nat}: ∀(l:List Oper) (i:Nat) (p:Hp),p.good->(layA C n0 l i p).good/\(layA C n0 l i p).n=p.n/\∀k,(k<n0+i\/n0+i+l.length<=k)->(layA C n0 l i p).h k=p.h k
 |[],_,p,h=>⟨h,rfl,fun _ _=>rfl⟩
 |o::l,i,p,h=>by
  simp only[layA]
  have key:∀p':Hp,p'.good->p'.n=p.n->(∀k,k≠n0+i->p'.h k=p.h k)->(layA C n0 l (i+1) p').good/\(layA C n0 l (i+1) p').n=p.n/\∀k,(k<n0+i\/n0+i+(o::l).length<=k)->(layA C n0 l (i+1) p').h k=p.h k:=fun p' g1 g2 g3=>by
   obtain⟨k1,k2,k3⟩:=Z1c (n0:=n0) l (i+1) p' g1
   refine⟨k1,by rw[k2,g2],fun k hk=>?_⟩
   simp only[List.length_cons]at hk
   rw[k3 k (by omega),g3 k (by omega)]
  split
  ·split
   ·rename_i ob hob
    refine key _ (Hp.good_set h fun sh v e=>?_) rfl fun k hk=>?_
    ·cases e
     exact allocObj_sh C hob
    ·rw[Hp.set_h,X0g _ _ hk]
   ·exact key p h rfl fun _ _=>rfl
  ·exact key p h rfl fun _ _=>rfl
variable {ext:FuncId->List CV->Option CV} {call:XCall} {mu:Bool} {w0:World} {B:Nat} {ops:List Oper} {ds:List Deferred} {n:Nat} {S0:St} {n0:Nat} {es:List Ent} {hs:List Hp} {env0:Env}
structure XInv(w0:World)(B:Nat)(ops:List Oper)(ds:List Deferred)(n:Nat)(S0:St)(n0:Nat)(es:List Ent)(hs:List Hp)(env0:Env)(listed:Array Bool)(S:St)(a:Act)(w:World): Prop where
 ext:S0.ext S
 r:∃q,hs[cntF (flags ops es) 0 (fun k=>listed.getD k false)]?=some q/\XRel w0 B S q w
 er:ER S (lstE (fun k=>listed.getD k false) ops es 0 env0) a.tmps
 tn:a.tmps.size=n
 td:a.defers=ds
 sn:n0+ops.length<=S.n
 down:Down ops listed
 low:∀j,listed.getD j false=true->j<es.length
 free:∀j o,ops[j]?=some o->kindOf o.op=.alloc->listed.getD j false=false->S.μ (n0+j)=none
theorem Q1n{listed:Array Bool}{j:Nat}(h:listed.getD j true=false): listed.getD j false=false/\j<listed.size:=by
 rcases Nat.lt_or_ge j listed.size with h'|h'
 ·refine⟨?_,h'⟩
  simp[h']at h ⊢;exact h
 ·simp[Array.getElem?_eq_none h']at h
theorem K0k{ops:List Oper}{es:List Ent}{j:Nat}(h:(flags ops es)[j]?=some true): ∃o x,ops[j]?=some o/\es[j]?=some x/\isEff o x=true:=by
 unfold flags at h
 rw[List.getElem?_zipWith]at h
 cases ho:ops[j]?<;>cases hx:es[j]?<;>simp[ho,hx]at h
 exact⟨_,_,rfl,rfl,h⟩
theorem Q0j{o:Oper}{x:Ent}(h:isEff o x=true): kindOf o.op=.eff/\x.wanted=true:=by
 unfold isEff at h
 split at h
 ·rename_i hk;exact⟨hk,h⟩
 ·cases h
theorem Q0u(hlow:lowB ops=true)(hch:chainB ops (ancs ops [])=true)(hcf:conflB ops (ancs ops [])=true){listed:Array Bool}(hd:Down ops listed){i:Nat}{oi:Oper}(hi:ops[i]?=some oi)(hun:listed.getD i false=false)(hall:∀e∈oi.after,Region.binds .any e=true->listed.getD e.on false=true):
  (∀t,touches ops oi t=true->∀j o,ops[j]?=some o->o.dst=some t->j≠i->listed.getD j false=Nat.blt j i) /\
  (∀j,bef (ancs ops []) i j=true->listed.getD j false=true)/\(∀j o,ops[j]?=some o->bef (ancs ops []) j i=true->listed.getD j false=false) /\
  (kindOf oi.op=.eff->∀j o,ops[j]?=some o->kindOf o.op=.eff->j≠i->listed.getD j false=Nat.blt j i):=by
 have up:∀j,bef (ancs ops []) i j=true->listed.getD j false=true:=fun j h=>K1l hlow hd i j oi hi hall h
 have dn:∀j o,ops[j]?=some o->bef (ancs ops []) j i=true->listed.getD j false=false:=fun j o ho h=>by
  cases hv:listed.getD j false with
  |false=>rfl
  |true=>
   have:=K1l hlow hd j i o ho (fun e he hb=>hd.down j o hv ho e he hb) h
   rw[hun]at this;cases this
 have ord:∀j o,ops[j]?=some o->((i<j->bef (ancs ops []) j i=true)/\(j<i->bef (ancs ops []) i j=true))->j≠i->listed.getD j false=Nat.blt j i:=fun j o ho h hne=>by
  rcases Nat.lt_or_ge j i with hlt|hge
  ·rw[up j (h.2 hlt)];simp[Nat.blt];omega
  ·rw[dn j o ho (h.1 (by omega))]
   cases hb:Nat.blt j i with
   |false=>rfl
   |true=>have:=X0w hb;omega
 refine⟨fun t ht j o ho hdst hne=>ord j o ho (X1g hcf hi ho (Ne.symm hne) hdst ht) hne,up,dn,fun hk j o ho hk' hne=>ord j o ho ⟨fun hlt=>Z0u hch hi ho hlt hk hk',fun hlt=>Z0u hch ho hi hlt hk' hk⟩ hne⟩
end
end Go.Cl
end
section
namespace Go.Cl
open Go.RowKit
section
variable (C:Ctx)
variable {ext:FuncId->List CV->Option CV} {call:XCall} {mu:Bool} {w0:World} {B:Nat} {ops:List Oper} {ds:List Deferred} {n:Nat} {S0:St} {n0:Nat} {es:List Ent} {hs:List Hp} {env0:Env}
theorem beq_ne{a b:Nat}(h:a≠b): Nat.beq a b=false:=by
 cases hb:Nat.beq a b with
 |false=>rfl
 |true=>exact absurd (Nat.eq_of_beq_eq_true hb) h
theorem X09{listed:Array Bool}{i:Nat}(hi:i<listed.size): (fun k=>(listed.setIfInBounds i true).getD k false)=fun k=>listed.getD k false || Nat.beq k i:=by
 funext k
 by_cases e:k=i
 ·subst e
  simp[hi]
 ·rw[getD_set_ne false (Ne.symm e),beq_ne e,Bool.or_false]
theorem XInv.next{listed:Array Bool}{S:St}{a:Act}{w:World}(I:XInv w0 B ops ds n S0 n0 es hs env0 listed S a w)(hlow:lowB ops=true)(hch:chainB ops (ancs ops [])=true)(hcf:conflB ops (ancs ops [])=true)
  {i:Nat} {oi:Oper} {x:Ent} (hi:ops[i]?=some oi) (hx:es[i]?=some x) (hun:listed.getD i false=false) (hall:∀e∈oi.after,Region.binds .any e=true->listed.getD e.on false=true)
  {S':St} {y:Value} {w':World} (hle:S.le S') (hext:S0.ext S') {q':Hp} (hq':hs[cntF (flags ops es) 0 (fun k=>listed.getD k false)+(bif isEff oi x then 1 else 0)]?=some q') (r':XRel w0 B S' q' w') (hy:VR S' x.v y)
  (hfree:∀j o,ops[j]?=some o->kindOf o.op=.alloc->j≠i->listed.getD j false=false->S'.μ (n0+j)=none):
  XInv w0 B ops ds n S0 n0 es hs env0 (listed.setIfInBounds i true) S' (a.put oi.dst y) w':=by
 have hil:i<ops.length:=(List.getElem?_eq_some_iff.1 hi).1
 have hls:i<listed.size:=by rw[I.down.size];exact hil
 obtain⟨_,up,dn,_⟩:=Q0u hlow hch hcf I.down hi hun hall
 have hfl:(flags ops es)[i]?=some (isEff oi x):=by unfold flags;rw[List.getElem?_zipWith,hi,hx]
 refine⟨hext,⟨q',?_,r'⟩,?_,by rw[X00];exact I.tn,by rw[Z0y];exact I.td,Nat.le_trans I.sn hle.n,down_set I.down hi hall,fun j hj=>?_,fun j o ho hk hj=>?_⟩
 ·rw[X09 hls]
  cases he:isEff oi x with
  |true=>
   rw[he]at hfl hq'
   rw[Q0v (P:=fun k=>listed.getD k false) (x:=i) _ 0 (Nat.zero_le _) hun (by simpa using hfl)]
   exact hq'
  |false=>
   rw[he]at hfl hq'
   rw[cntF_same (P:=fun k=>listed.getD k false) (x:=i) _ (fun h=>by rw[hfl]at h;cases h)]
   simpa using hq'
 ·rw[X09 hls]
  rw[lstE_add (L:=fun k=>listed.getD k false) (y:=i) ops es 0 env0 (Nat.zero_le _) (by simpa using hi) (by simpa using hx) hun fun j o t ho hl hlt hd hd'=>?_]
  ·exact(I.er.mono hle).put hy
  ·simp only[Nat.zero_add]at hl hlt
   have hb:=(X1g hcf hi ho (by omega) hd' (by simp[touches,hd])).1 hlt
   have:=dn j o ho hb
   rw[this]at hl;cases hl
 ·by_cases e:j=i
  ·subst e;exact(List.getElem?_eq_some_iff.1 hx).1
  ·rw[getD_set_ne false (Ne.symm e)]at hj;exact I.low j hj
 ·by_cases e:j=i
  ·subst e;simp[hls]at hj
  ·rw[getD_set_ne false (Ne.symm e)]at hj
   exact hfree j o ho hk e hj
theorem XInv.sees{listed:Array Bool}{S:St}{a:Act}{w:World}(I:XInv w0 B ops ds n S0 n0 es hs env0 listed S a w)(hlow:lowB ops=true)(hch:chainB ops (ancs ops [])=true)(hcf:conflB ops (ancs ops [])=true)(hok:ops.all (okOper n)=true)
  {i:Nat} {oi:Oper} {env:XEnv} (hi:ops[i]?=some oi) (henv:env.at=preE ops es env0 i) (hun:listed.getD i false=false) (hall:∀e∈oi.after,Region.binds .any e=true->listed.getD e.on false=true):
  (∀y∈oi.op.operands.toList,VR S (xev env y) (a.eval y))/\(∀j want oj d,oi.guard=some (j,want)->ops[j]?=some oj->oj.dst=some d->∃x,a.tmps[d]?=some x/\VR S (env.at d) x):=by
 obtain⟨look,_⟩:=Q0u hlow hch hcf I.down hi hun hall
 have hoo:=List.all_eq_true.1 hok oi (List.mem_of_getElem? hi)
 have same:∀t,t∈oi.looksAt ops.toArray->env.at t=lstE (fun k=>listed.getD k false) ops es 0 env0 t:=fun t ht=>by
  rw[henv,X01 ops es 0 env0 i]
  refine K0t ops es 0 env0 env0 rfl fun j o ho hd _=>?_
  simp only[Nat.zero_add]
  by_cases e:j=i
  ·subst e
   rw[hun]
   cases hb:Nat.blt j j with
   |false=>rfl
   |true=>have:=X0w hb;omega
  ·exact(look t (by unfold touches;rw[Bool.or_eq_true];left;simpa using ht) j o ho hd e).symm
 have hops:∀t,Operand.tmp t∈oi.op.operands.toList->t∈oi.looksAt ops.toArray:=fun t ht=>by
  unfold Oper.looksAt
  exact List.mem_append.2 (.inl (List.mem_filterMap.2 ⟨_,ht,rfl⟩))
 refine⟨fun y hy=>?_,fun j want oj d hg hj hd=>?_⟩
 ·have hk:okOpd a.tmps.size y=true:=by
   rw[I.tn]
   unfold okOper at hoo
   simp only[Bool.and_eq_true]at hoo
   exact List.all_eq_true.1 hoo.2 y hy
  have:=I.er.eval (a:=a) hk
  rw[X1a]
  cases y with
  |tmp t=>
   show VR S (env.at t) _
   rw[same t (hops t hy)];exact this
  |_=>exact this
 ·obtain⟨x,h1,h2⟩:=Q1h I.er (by rw[I.tn];exact hok) j want oj d hg hj hd
  refine⟨x,h1,?_⟩
  rw[same d (by
   unfold Oper.looksAt
   rw[hg]
   refine List.mem_append.2 (.inr ?_)
   simp[hj,hd])]
  exact h2
theorem all_done(hlow:lowB ops=true){listed:Array Bool}(hd:Down ops listed)(hr:Region.ready .any ops.toArray listed=[]): ∀j,j<ops.length->listed.getD j false=true:=by
 intro j
 induction j using Nat.strongRecOn with
 |_ j ih=>
  intro hj
  cases hv:listed.getD j false with
  |true=>rfl
  |false=>
   have ho:ops[j]?=some ops[j]:=by simp[hj]
   have:j∈Region.ready .any ops.toArray listed:=by
    rw[mem_ready]
    refine⟨V1y hv (by rw[hd.size];omega),ops[j],by simp[hj],fun e he hb=>?_⟩
    have h2:=List.all_eq_true.1 hlow (ops[j],j) (by rw[List.mem_zipIdx_iff_getElem?];simp[hj])
    have h3:=List.all_eq_true.1 h2 e (by simpa using he)
    simp only[hb,Bool.not_true,Bool.false_or]at h3
    have h4:e.on<j:=by simpa using h3
    exact ih e.on h4 (by omega)
   rw[hr]at this;cases this
theorem quiet_at{A:List Nat}{fl:List Bool}{i:Nat}{oi:Oper}{x:Ent}{q q1:Hp}{e:Nat}(hw:x.wanted=true)(hk:kindOf oi.op=.quiet)(hc:chkOne C mu ext call A n0 fl hs i oi x=true){k:Nat}(hq1:hs[k]?=some q1)(h1:∃q',xop C mu ext call x.env q1 oi.op=.ret x.v q')
  (hk1:(cntF fl 0 fun j=>bef A i j)<=k/\k<=cntF fl 0 fun j=>!bef A j i) (hq:hs[e]?=some q) (he:(cntF fl 0 fun j=>bef A i j)<=e/\e<=cntF fl 0 fun j=>!bef A j i):xop C mu ext call x.env q oi.op=.ret x.v q:=by
 unfold chkOne at hc
 rw[hw,cond_true,hk]at hc
 simp only at hc
 obtain⟨q',h1⟩:=h1
 cases hh:heapy oi.op with
 |false=>exact xop_still C hk hh h1 q
 |true=>
  rw[hh,cond_true]at hc
  cases hb:Nat.beq (cntF fl 0 fun j=>bef A i j) (cntF fl 0 fun j=>!bef A j i) with
  |true=>
   have hlh:=Nat.eq_of_beq_eq_true hb
   have:e=k:=by omega
   subst this
   rw[hq]at hq1;cases hq1
   have:=Y1e C hk h1
   rw[this]at h1;exact h1
  |false=>
   rw[hb,cond_false]at hc
   have:=List.all_eq_true.1 hc e (by rw[List.mem_range'];exact⟨e-(cntF fl 0 fun j=>bef A i j),by omega,by omega⟩)
   unfold chkAt at this
   rw[hq,hk]at this
   simp only at this
   split at this<;>try(cases this;done)
   rename_i v q2 hx
   have hv:=K0w _ _ this
   have h2:=Y1e C hk hx
   rw[h2]at hx
   rw[hv];exact hx
end
end Go.Cl
end
section
namespace Go.Cl
open Go.RowKit
section
variable (C:Ctx)
variable {ext:FuncId->List CV->Option CV} {call:XCall} {mu:Bool} {w0:World} {B:Nat} {ops:List Oper} {ds:List Deferred} {n:Nat} {S0:St} {n0:Nat} {es:List Ent} {hs:List Hp} {env0:Env}
theorem bef_lt(hlow:lowB ops=true): ∀(j i:Nat),j<ops.length->bef (ancs ops []) j i=true->i<j:=by
 intro j
 induction j using Nat.strongRecOn with
 |_ j ih=>
  intro i hj hb
  have ho:ops[j]?=some ops[j]:=by simp[hj]
  obtain⟨acc',k1,k2⟩:=(Y1i ops []).2 j _ ho
  simp only[List.length_nil,Nat.zero_add]at k1
  unfold bef at hb
  rw[k1]at hb
  obtain⟨e,he,hbind,h⟩:=Y0s acc' _ i hb
  have hlt:e.on<j:=by
   have h2:=List.all_eq_true.1 hlow (ops[j],j) (by rw[List.mem_zipIdx_iff_getElem?];exact ho)
   have h3:=List.all_eq_true.1 h2 e he
   simpa[hbind]using h3
  rcases h with h|h
  ·omega
  ·have hlen:e.on<acc'.length:=by
    rcases Nat.lt_or_ge e.on acc'.length with h'|h'
    ·exact h'
    ·rw[List.getD_eq_getElem?_getD,List.getElem?_eq_none h']at h
     simp at h
   have:=ih e.on hlt i (by omega) (by unfold bef;rw[<- k2 e.on hlen];exact h)
   omega
theorem cntF_le: ∀(l:List Bool) (i:Nat) (P:Nat->Bool),cntF l i P<=l.length
 |[],_,_=>Nat.le_refl _
 |b::l,i,P=>by
  simp only[cntF,List.length_cons]
  have:=cntF_le l (i+1) P
  cases b<;>cases P i<;>simp<;>omega
inductive Fin where
 |done (env:XEnv)
 |pan (v:CV) (p:Hp)
def FinOk(C:Ctx)(mu:Bool)(ext:FuncId->List CV->Option CV)(call:XCall)(ops:List Oper)(es:List Ent)(hs:List Hp)(env0:Env): Fin->Prop
 |.done env=>es.length=ops.length/\env.at=preE ops es env0 ops.length
 |.pan v p=>∃o x q,ops[es.length]?=some o/\kindOf o.op=.eff/\xwanted ops o x=some true/\x.at=preE ops es env0 es.length/\hs[cntF (flags ops es) 0 (fun _=>true)]?=some q/\xop C mu ext call x q o.op=.pan v p/\∀j,es.length<j->j<ops.length->bef (ancs ops []) j es.length=true
def FinPost(w0:World)(B:Nat)(S0:St)(n:Nat)(ds:List Deferred)(hs:List Hp)(cnt:Nat)(Q':Exit->Act->World->Prop): Fin->Prop
 |.done env=>∀q,hs[cnt]?=some q->∀ex a w,XPost w0 B S0 n ds .normal env q ex a w->Q' ex a w
 |.pan v p=>∀env ex a w,XPost w0 B S0 n ds (.panU v) env p ex a w->Q' ex a w
theorem any_x(hext:ExtOk C ext)(hcall:CallOk C call)(hok:ops.all (okOper n)=true)(hlow:lowB ops=true)(hch:chainB ops (ancs ops [])=true)(hcf:conflB ops (ancs ops [])=true)(hn0:S0.n=n0)
  (hrun:∀j o x,ops[j]?=some o->es[j]?=some x->∃q q',hs[cntF (flags ops es) 0 (fun k=>Nat.blt k j)]?=some q/\(isEff o x=true->hs[cntF (flags ops es) 0 (fun k=>Nat.blt k j)+1]?=some q')/\EntOk C mu ext call ops n0 o j x q q')
  (hpre:∀j x,es[j]?=some x->x.env.at=preE ops es env0 j) (hlen:es.length<=ops.length)
  (hchk:chkAll C mu ext call (ancs ops []) n0 (flags ops es) hs 0 ops es=true) {fin:Fin} (hfin:FinOk C mu ext call ops es hs env0 fin) {Q':Exit->Act->World->Prop} (hQ:FinPost w0 B S0 n ds hs (cntF (flags ops es) 0 (fun _=>true)) Q' fin):
  ∀(fuel:Nat) (listed:Array Bool) (S:St) (a:Act) (w:World),ops.length<=fuel+cntF (List.replicate ops.length true) 0 (fun k=>listed.getD k false)->XInv w0 B ops ds n S0 n0 es hs env0 listed S a w->wpAny C.P .any ops.toArray Q' fuel listed a w:=by
 -- all is listed
 have fini:∀(listed:Array Bool) (S:St) (a:Act) (w:World),(∀j,j<ops.length->listed.getD j false=true)->XInv w0 B ops ds n S0 n0 es hs env0 listed S a w->Q' .normal a w:=by
  intro listed S a w hall I
  cases fin with
  |pan v p=>
   obtain⟨o,x,q,ho,_⟩:=hfin
   have h1:=(List.getElem?_eq_some_iff.1 ho).1
   have:=I.low _ (hall _ h1)
   omega
  |done env=>
   obtain⟨h1,h2⟩:=hfin
   obtain⟨q,hq,r⟩:=I.r
   have hc:cntF (flags ops es) 0 (fun k=>listed.getD k false)=cntF (flags ops es) 0 (fun _=>true):=Z0i _ 0 fun k hk=>by
    obtain⟨o,x,ho,_⟩:=K0k hk
    rw[Nat.zero_add];exact hall k (List.getElem?_eq_some_iff.1 ho).1
   rw[hc]at hq
   refine hQ q hq _ _ _ ⟨S,I.ext,r,fun _=>?_,I.tn,I.td,trivial⟩
   have he:env.at=lstE (fun k=>listed.getD k false) ops es 0 env0:=by
    rw[h2,X01 ops es 0 env0]
    funext t
    refine K0t ops es 0 env0 env0 rfl fun j o ho _ _=>?_
    have hj:=(List.getElem?_eq_some_iff.1 ho).1
    rw[Nat.zero_add,hall j hj]
    exact Q0x (by omega)
   rw[he];exact I.er
 have full:∀(listed:Array Bool),ops.length<=cntF (List.replicate ops.length true) 0 (fun k=>listed.getD k false)->∀j,j<ops.length->listed.getD j false=true:=by
  intro listed h j hj
  cases hv:listed.getD j false with
  |true=>rfl
  |false=>
   have h1:=Q0v (P:=fun k=>listed.getD k false) (x:=j) (List.replicate ops.length true) 0 (Nat.zero_le _) hv (by simp[hj])
   have h2:=cntF_le (List.replicate ops.length true) 0 (fun k=>listed.getD k false || Nat.beq k j)
   rw[List.length_replicate]at h2
   omega
 intro fuel
 induction fuel with
 |zero=>
  intro listed S a w hf I
  have hall:=full listed (by omega)
  refine⟨?_,fini listed S a w hall I⟩
  unfold Region.ready
  rw[List.filter_eq_nil_iff]
  intro i hi
  have hi:i<ops.length:=by simpa using hi
  have:=hall i hi
  have hs':i<listed.size:=by rw[I.down.size];exact hi
  simp[hs']at this
  simp[hs',this]
 |succ fuel ih=>
  intro listed S a w hf I
  refine⟨fun hr=>fini listed S a w (all_done hlow I.down hr) I,fun i hi=>?_⟩
  obtain⟨hiu,oi,hoi,hall⟩:=mem_ready.1 hi
  have hoi':ops[i]?=some oi:=by simpa using hoi
  have hil:i<ops.length:=(List.getElem?_eq_some_iff.1 hoi').1
  obtain⟨hun,hls⟩:=Q1n hiu
  obtain⟨look,up,dn,eff⟩:=Q0u hlow hch hcf I.down hoi' hun hall
  have hcnt:ops.length<=fuel+cntF (List.replicate ops.length true) 0 (fun k=>(listed.setIfInBounds i true).getD k false):=by
   rw[X09 hls,Q0v (P:=fun k=>listed.getD k false) (x:=i) _ 0 (Nat.zero_le _) hun (by simp[hil])]
   omega
  obtain⟨q,hq,r⟩:=I.r
  unfold wpOp
  simp only[List.getElem?_toArray,hoi']
  -- what changes the heap: those ahead of it are done,no other one
  have ecnt:kindOf oi.op=.eff->cntF (flags ops es) 0 (fun k=>listed.getD k false)=cntF (flags ops es) 0 (fun k=>Nat.blt k i):=fun hk=>Z0i _ 0 fun k hkf=>by
   obtain⟨o,x,ho,hx,he⟩:=K0k hkf
   rw[Nat.zero_add]
   by_cases e:k=i
   ·subst e
    rw[hun]
    cases hb:Nat.blt k k with
    |false=>rfl
    |true=>have:=X0w hb;omega
   ·exact eff hk k o ho (Q0j he).1 e
  rcases Nat.lt_trichotomy i es.length with hlt|heq|hgt
  ·-- one that the run came by
   have hx:es[i]?=some es[i]:=by simp[hlt]
   obtain⟨q1,q1',hq1,hq1',E⟩:=hrun i oi _ hoi' hx
   have hc:=X1i C ops es 0 hchk i oi _ hoi' hx
   rw[Nat.zero_add]at hc
   obtain⟨s1,s2⟩:=I.sees hlow hch hcf hok hoi' (hpre i _ hx) hun hall
   rw[Y0n s2 E.want]
   have bnd:∀(P:Nat->Bool),(∀k,bef (ancs ops []) i k=true->P k=true)->(∀k o,ops[k]?=some o->P k=true->bef (ancs ops []) k i=false)->
     (cntF (flags ops es) 0 fun j=>bef (ancs ops []) i j)<=cntF (flags ops es) 0 P/\cntF (flags ops es) 0 P<=cntF (flags ops es) 0 fun j=>!bef (ancs ops []) j i:=fun P h1 h2=>
    ⟨K0n _ 0 fun k hk hp=>by rw[Nat.zero_add]at hp ⊢;exact h1 k hp,K0n _ 0 fun k hk hp=>by
     obtain⟨o,x,ho,_⟩:=K0k hk
     rw[Nat.zero_add]at hp ⊢
     rw[h2 k o ho hp];rfl⟩
   have hbL:=bnd (fun k=>listed.getD k false) up (fun k o ho hp=>by
    cases hb:bef (ancs ops []) k i with
    |false=>rfl
    |true=>rw[dn k o ho hb]at hp;cases hp)
   have hbI:=bnd (fun k=>Nat.blt k i) (fun k hb=>Q0x (bef_lt hlow i k hil hb)) (fun k o ho hp=>by
    cases hb:bef (ancs ops []) k i with
    |false=>rfl
    |true=>
     have h1:=bef_lt hlow k i (List.getElem?_eq_some_iff.1 ho).1 hb
     have h2:=X0w hp
     omega)
   cases hw:es[i].wanted with
   |false=>
    simp only[Bool.false_eq_true,if_false]
    refine ih _ S _ _ hcnt (I.next hlow hch hcf hoi' hx hun hall (St.le.refl S) I.ext (q':=q) (by
     have:isEff oi es[i]=false:=by unfold isEff;split<;>first|exact hw|rfl
     rw[this];simpa using hq) r (by rw[E.off hw];exact V0p) fun j o ho hk _ hj=>I.free j o ho hk hj)
   |true=>
    simp only[if_true]
    left
    cases hk:kindOf oi.op with
    |quiet=>
     have hop:=quiet_at C hw hk hc hq1 (E.quiet hw hk) hbI hq hbL
     have hg:=Q0p C hext hcall (mu:=mu) r (o:=oi) (a:=a) (env:=es[i].env) s1
     rw[hop]at hg
     refine hg _ _ fun S' x w' k1 k2 k3=>ih _ S' _ _ hcnt (I.next hlow hch hcf hoi' hx hun hall k1.le (I.ext.trans k1) (q':=q) (by
      have:isEff oi es[i]=false:=by unfold isEff;rw[hk]
      rw[this];simpa using hq) k2 k3 fun j o ho hk' _ hj=>k1.ph _ (by have:=I.sn;have:=(List.getElem?_eq_some_iff.1 ho).1;omega) (I.free j o ho hk' hj))
    |eff=>
     rw[ecnt hk]at hq
     have hqq:q1=q:=by rw[hq]at hq1;exact(Option.some.inj hq1).symm
     subst hqq
     have he:isEff oi es[i]=true:=by unfold isEff;rw[hk];exact hw
     have hop:=E.eff hw hk
     have hg:=Q0p C hext hcall (mu:=mu) r (o:=oi) (a:=a) (env:=es[i].env) s1
     rw[hop]at hg
     refine hg _ _ fun S' x w' k1 k2 k3=>ih _ S' _ _ hcnt (I.next hlow hch hcf hoi' hx hun hall k1.le (I.ext.trans k1) (q':=q1') (by
      rw[he,ecnt hk];exact hq1' he) k2 k3 fun j o ho hk' _ hj=>k1.ph _ (by have:=I.sn;have:=(List.getElem?_eq_some_iff.1 ho).1;omega) (I.free j o ho hk' hj))
    |alloc=>
     have hobj:∃ob,q.t.get (n0+i)=some ob/\allocObj C oi.op=some ob:=by
      unfold chkOne at hc
      rw[hw,cond_true,hk]at hc
      simp only at hc
      have h1:=List.all_eq_true.1 hc (cntF (flags ops es) 0 fun k=>listed.getD k false) (by rw[List.mem_range'];exact⟨(cntF (flags ops es) 0 fun k=>listed.getD k false)-(cntF (flags ops es) 0 fun j=>bef (ancs ops []) i j),by omega,by omega⟩)
      unfold chkAt at h1
      rw[hq,hk]at h1
      simp only at h1
      split at h1<;>try(cases h1;done)
      rename_i a' b' ha' hb'
      rw[objEq_spec h1]at ha'
      exact⟨_,ha',hb'⟩
     obtain⟨ob,hget,hob⟩:=hobj
     have hfree:=I.free i oi hoi' hk hun
     have hsn:=I.sn
     have hev:isEff oi es[i]=false:=by unfold isEff;rw[hk]
     have hv:=E.alloc hw hk
     have nxt:∀(l:Loc) (y:Value) (w':World),R w0 B (S.named (n0+i) l) q.h w'->VR (S.named (n0+i) l) (allocV oi.op (n0+i)) y->wpAny C.P .any ops.toArray Q' fuel (listed.setIfInBounds i true) (a.put oi.dst y) w':=fun l y w' hR hV=>by
      refine ih _ (S.named (n0+i) l) _ _ hcnt (I.next hlow hch hcf hoi' hx hun hall (St.le_named hfree) ⟨I.ext.le.trans (St.le_named hfree),fun k hk' hk0=>?_⟩ (q':=q) (by rw[hev];simpa using hq) ⟨hR,?_,r.good⟩ (by rw[hv];exact hV) fun j o ho hk' hji hj=>?_)
      ·rw[St.named_ne (by omega)];exact I.ext.ph k hk' hk0
      ·show max S.n (n0+i+1)=q.n
       have:=r.n
       omega
      ·rw[St.named_ne (by omega)];exact I.free j o ho hk' hj
     obtain⟨dst,op,ty,pos,aft,gd⟩:=oi
     simp only at hk hob hv nxt ⊢
     cases op<;>simp only[kindOf]at hk<;>try(cases hk;done)
     ·rename_i t
      unfold allocObj at hob
      simp only at hob
      split at hob<;>try(cases hob;done)
      rename_i ti hti
      cases hob
      obtain⟨z,hz,hfz⟩:=zero_FR C (S:=S) (C.htt _ _ hti)
      have hR:=r.r.alloc (h':=q.h) (e:=t) (arr:=z.cells) hfree hfz (get_h hget) (fun _ _=>rfl)
      unfold Oper.wp
      have hrun:(execOp a.eval ⟨dst,.alloc t,ty,pos,aft,gd⟩).run C.P w=.ok (.value (.pointer (some ⟨w.heap.size,0,none⟩))) (w.alloc (.cells z.cells t)):=by
       simp[execOp,Instr.alloc,hz,Z0x]
      rw[hrun]
      refine nxt _ _ _ hR ?_
      rw[V0d rfl];simp only[FR,allocV]
      exact⟨⟨_,_,0,rfl,⟨_,St.named_μ⟩,by cases ti.zero.shape<;>rfl⟩,by simp⟩
     ·rename_i t res
      cases res with
      |some v=>simp[isNoneB]at hk
      |none=>
       unfold allocObj at hob
       simp only[Option.some.injEq]at hob
       subst hob
       have hR:=R.newMapAt r.r hfree (Y00 hget)
       unfold Oper.wp
       have hrun:(execOp a.eval ⟨dst,.makeMap t none,ty,pos,aft,gd⟩).run C.P w=.ok (.value (.map (some w.heap.size))) (w.alloc (.map #[] 0)):=by
        simp[execOp,Instr.makeMap,newObj]
        rfl
       rw[hrun]
       refine nxt _ _ _ hR ?_
       rw[V0d rfl];simp only[FR,allocV]
       exact⟨⟨_,rfl,St.named_μ⟩,by simp⟩
     ·rename_i t l c
      obtain⟨e,sh,by_,ze,n,te,h1,hcl,h2,hnz,hby,rfl⟩:=K0u C hob
      obtain⟨rfl,rfl,h0,hn⟩:=V00 hcl
      have hte:=C.htt _ _ h2
      obtain⟨ii,z,hi,hisz,hbytes,hz,hfz⟩:=hte.info
      have hFz:FR S te.zero z.cells.toList:=V0k _ _ hfz
      have hzs:z.cells.size=te.sh.size:=by rw[<- Array.length_toList,FR.length _ _ hFz,CV.size,hte.zsh]
      have hrun0:=Z0p (w:=w) (n:=(n:Int)) (C.htt _ _ h1).d.1 hi hz (by rw[hisz,hzs]) (by omega) (by omega) (by rw[hbytes,Int.toNat_natCast];exact hby)
      rw[Int.toNat_natCast]at hrun0
      have hsh:CV.shape (.agg (List.replicate n te.zero))=.n (List.replicate n te.sh):=by
       rw[CV.shape,CV.shapes_eq,List.map_replicate,hte.zsh]
      have hR:=r.r.alloc (h':=q.h) (e:=e) (v:=.agg (List.replicate n te.zero)) (arr:=(List.replicate n z.cells.toList).flatten.toArray) hfree (by simp only[FR];simpa using Y0i hFz n) (get_h hget) (fun _ _=>rfl)
      unfold Oper.wp
      have hrun:(execOp a.eval ⟨dst,.makeSlice t (.const (.int .i64 n)) (.const (.int .i64 n)),ty,pos,aft,gd⟩).run C.P w=.ok (.value (.slice (some ⟨w.heap.size,0,none⟩) n n)) (w.alloc (.cells (List.replicate n z.cells.toList).flatten.toArray e)):=by
       simp only[execOp,Act.eval,Sem.run_bind,hrun0,Result.andThen_ok,Sem.run_pure]
      rw[hrun]
      refine nxt _ _ _ hR ?_
      rw[V0d rfl];simp only[FR,allocV,hcl,Option.getD_some]
      refine⟨⟨w.heap.size,_,CV.shapes (List.replicate n te.zero),0,n,by simp[Shape.sizes],⟨_,St.named_μ,fun _ _=>⟨by simp[CV.shapes_eq],te.sh.size,fun x hx=>?_,?_⟩⟩,by simp[CV.shape,Shape.sub],by simp[CV.shape,Shape.off],Nat.le_refl _,?_⟩,by simp⟩
      ·rw[CV.shapes_eq,List.map_replicate]at hx
       rw[List.eq_of_mem_replicate hx,hte.zsh]
      ·have hl:=FR.length _ _ hFz
       rw[CV.size,hte.zsh]at hl
       simp[hl]
      ·simp[CV.shapes_eq]
     ·rename_i c
      obtain⟨callee,args,ts⟩:=c
      cases callee with
      |value f=>simp at hk
      |invoke x m=>simp at hk
      |builtin b=>cases b<;>simp at hk
  ·-- the one that panics
   cases fin with
   |done env=>have:=hfin.1;omega
   |pan v p=>
    obtain⟨o,x,q2,ho,hk,hwant,henv,hq2,hop,haft⟩:=hfin
    rw[<- heq]at ho henv haft
    rw[hoi']at ho;cases ho
    obtain⟨s1,s2⟩:=I.sees hlow hch hcf hok hoi' henv hun hall
    rw[Y0n s2 hwant]
    simp only[if_true]
    left
    have hc:cntF (flags ops es) 0 (fun k=>listed.getD k false)=cntF (flags ops es) 0 (fun _=>true):=Z0i _ 0 fun k hkf=>by
     obtain⟨o',x',ho',hx',he'⟩:=K0k hkf
     have hkl:=(List.getElem?_eq_some_iff.1 hx').1
     rw[Nat.zero_add,eff hk k o' ho' (Q0j he').1 (by omega)]
     exact Q0x (by omega)
    rw[hc]at hq
    have hqq:q2=q:=by rw[hq]at hq2;exact(Option.some.inj hq2).symm
    subst hqq
    have hg:=Q0p C hext hcall (mu:=mu) r (o:=oi) (a:=a) (env:=x) s1
    rw[hop]at hg
    exact hg _ _ fun S' y w' k1 k2 k3=>hQ x _ _ _ ⟨S',I.ext.trans k1,k2,fun hu=>absurd rfl (hu v),I.tn,I.td,⟨y,rfl,k3⟩⟩
  ·-- behind the one that panics: it waits
   exfalso
   cases fin with
   |done env=>have:=hfin.1;omega
   |pan v p=>
    obtain⟨o,x,q2,ho,hk,hwant,henv,hq2,hop,haft⟩:=hfin
    have:=up es.length (haft i hgt hil)
    have:=I.low _ this
    omega
end
end Go.Cl
end
section
namespace Go.Cl
open Go.RowKit
section
variable (C:Ctx)
theorem xdraw_sound{ext:FuncId->List CV->Option CV}{call:XCall}(hext:ExtOk C ext)(hcall:CallOk C call){mu:Bool}{w0:World}{B:Nat}{id:Nat}{ops:Array Oper}{ds:List Deferred}{n:Nat}{S:St}{env:XEnv}{p:Hp}{a:Act}{w:World}
  (hok:ops.toList.all (okOper n)=true) (r:XRel w0 B S p w) (he:ER S env.at a.tmps) (hn:a.tmps.size=n) (hd:a.defers=ds) {e:XE} {env':XEnv} {p':Hp} (hx:xdraw C mu ext call ops.toList (ancs ops.toList []) env p=.ok e env' p'):
  (Code.region id ops true).wp C.P (XPost w0 B S n ds e env' p') a w:=by
 unfold xdraw at hx
 cases hst:drawStat ops.toList (ancs ops.toList []) with
 |false=>rw[hst]at hx;cases hx
 |true=>
  rw[hst,cond_true]at hx
  simp only[drawStat,Bool.and_eq_true]at hst
  obtain⟨⟨hlow,hch⟩,hcf⟩:=hst
  have hrk:=X07 C (mu:=mu) (ext:=ext) (call:=call) (ops:=ops.toList) (A:=ancs ops.toList []) (n0:=p.n) ops.toList 0 env (layA C p.n ops.toList 0 ⟨p.n+ops.toList.length,p.t⟩)
  obtain⟨g1,g2,g3⟩:=Z1c C (n0:=p.n) ops.toList 0 ⟨p.n+ops.toList.length,p.t⟩ r.good
  let S1:St:={S with n:=S.n+ops.toList.length}
  have hext1:S.ext S1:=⟨⟨fun _ _ _ h=>h,fun _ _ h=>h,Nat.le_add_right _ _⟩,fun _ _ h=>h⟩
  have hlt:∀i loc,S.μ i=some loc->i<p.n:=fun i loc hi=>by
   rw[<- r.n]
   rcases Nat.lt_or_ge i S.n with h|h
   ·exact h
   ·rw[(r.r.fresh i h).1]at hi;cases hi
  have hsame:∀k,(k<p.n\/p.n+ops.toList.length<=k)->(layA C p.n ops.toList 0 ⟨p.n+ops.toList.length,p.t⟩).h k=p.h k:=fun k hk=>by
   rw[g3 k (by omega)];rfl
  have r1:XRel w0 B S1 (layA C p.n ops.toList 0 ⟨p.n+ops.toList.length,p.t⟩) w:=by
   refine⟨⟨r.r.below,r.r.size,r.r.kcell,fun i hi=>?_,fun i obj loc k1 k2=>?_,fun i j oi oj li lj hij k1 k2 k3 k4=>?_⟩,by rw[g2];show S.n+_=p.n+_;rw[r.n],g1⟩
   ·have hi:S.n+ops.toList.length<=i:=hi
    have hpn:=r.n
    exact⟨(r.r.fresh i (by omega)).1,by rw[hsame i (by omega)];exact(r.r.fresh i (by omega)).2⟩
   ·have:=hlt i loc k2
    rw[hsame i (.inl this)]at k1
    have k:=r.r.live i obj loc k1 k2
    exact⟨k.1.mono hext1.le rfl (fun _ h=>h),k.2⟩
   ·have a1:=hlt i li k3
    have a2:=hlt j lj k4
    rw[hsame i (.inl a1)]at k1
    rw[hsame j (.inl a2)]at k2
    exact r.r.inj i j oi oj li lj hij k1 k2 k3 k4
  refine wp_region_any C.mixed ?_
  have hops:ops.toList.toArray=ops:=by simp
  have hlen0:∀j,(Array.replicate ops.size false).getD j false=false:=fun j=>by
   simp only[Array.getD_eq_getD_getElem?,Array.getElem?_replicate]
   split<;>rfl
  have fin:∀(es:List Ent) (hs:List Hp) (fn:Fin) (Q':Exit->Act->World->Prop),RunOk C mu ext call ops.toList p.n ops.toList 0 env (layA C p.n ops.toList 0 ⟨p.n+ops.toList.length,p.t⟩) es hs->chkAll C mu ext call (ancs ops.toList []) p.n (flags ops.toList es) hs 0 ops.toList es=true->
    FinOk C mu ext call ops.toList es hs env.at fn->FinPost w0 B S n ds hs (cntF (flags ops.toList es) 0 (fun _=>true)) Q' fn->wpAny C.P .any ops Q' ops.size (Array.replicate ops.size false) a {w with drawn:=w.drawn+1}:=by
   intro es hs fn Q' hrun hchk hfin hQ
   have hwp:=any_x C hext hcall hok hlow hch hcf (S0:=S) (n0:=p.n) r.n (fun j o x h1 h2=>by
    obtain⟨q,q',k1,k2,k3⟩:=hrun.ent j o x h1 h2
    rw[Nat.zero_add]at k3
    exact⟨q,q',k1,k2,k3⟩) hrun.pre hrun.len hchk hfin hQ ops.size (Array.replicate ops.size false) S1 a {w with drawn:=w.drawn+1} (by rw[Array.length_toList];omega) ?_
   ·rw[hops]at hwp;exact hwp
   ·have hz:∀(l:List Bool) (i:Nat),cntF l i (fun k=>(Array.replicate ops.size false).getD k false)=0:=fun l=>by
     induction l with
     |nil=>intro i;rfl
     |cons b l ih=>
      intro i
      show(bif b&&(Array.replicate ops.size false).getD i false then 1 else 0)+cntF l (i+1) (fun k=>(Array.replicate ops.size false).getD k false)=0
      rw[ih (i+1),hlen0,Bool.and_false];rfl
    refine⟨hext1,⟨_,by rw[hz];exact hrun.h0,⟨r1.r.drew,r1.n,r1.good⟩⟩,?_,hn,hd,by show p.n+_<=S.n+_;rw[r.n];exact Nat.le_refl _,⟨by simp,(fun j o hj=>by rw[hlen0]at hj;cases hj)⟩,(fun j hj=>by rw[hlen0]at hj;cases hj),fun j o _ _ _=>?_⟩
    ·have:lstE (fun k=>(Array.replicate ops.size false).getD k false) ops.toList es 0 env.at=env.at:=by
      have key:∀(ops':List Oper) (es:List Ent) (i:Nat) (env:Env),lstE (fun k=>(Array.replicate ops.size false).getD k false) ops' es i env=env:=by
       intro ops'
       induction ops' with
       |nil=>intro es i env;simp[lstE]
       |cons o l ih=>
        intro es i env
        cases es with
        |nil=>simp[lstE]
        |cons x es=>
         show lstE (fun k=>(Array.replicate ops.size false).getD k false) l es (i+1) (bif (Array.replicate ops.size false).getD i false then put env o.dst x.v else env)=env
         rw[hlen0];exact ih es (i+1) env
      exact key _ _ _ _
     rw[this]
     exact he.mono hext1.le
    ·exact(r.r.fresh _ (by rw[r.n];omega)).1
  split at hx
  ·rename_i env1 es hs ht
   rw[ht]at hrk
   obtain⟨h1,h2,h3⟩:=hrk
   cases hc:chkAll C mu ext call (ancs ops.toList []) p.n (flags ops.toList es) hs 0 ops.toList es with
   |false=>rw[hc]at hx;cases hx
   |true=>
    rw[hc,cond_true]at hx
    split at hx<;>try(cases hx;done)
    rename_i q hq
    simp only[XR.ok.injEq]at hx
    obtain⟨rfl,rfl,rfl⟩:=hx
    refine fin es hs (.done env1) _ h1 hc ⟨h2,h3⟩ fun q1 hq1 ex a w hp=>?_
    have:q1=q:=by
     rw[List.getLast?_eq_getElem?,h1.hlen,Nat.add_sub_cancel,hq1]at hq
     exact Option.some.inj hq
    subst this
    exact hp
  ·rename_i v q es hs ht
   rw[ht]at hrk
   obtain⟨h1,o,x,q1,k1,k2,k3,k4,k5,k6,k7⟩:=hrk
   cases hc:chkAll C mu ext call (ancs ops.toList []) p.n (flags ops.toList es) hs 0 ops.toList es with
   |false=>rw[hc]at hx;cases hx
   |true=>
    rw[hc,cond_true]at hx
    simp only[XR.ok.injEq]at hx
    obtain⟨rfl,rfl,rfl⟩:=hx
    refine fin es hs (.pan v q) _ h1 hc ⟨o,x,q1,k1,k2,k3,k4,k5,k6,fun j hj hj'=>?_⟩ fun env2 ex a w hp=>?_
    ·have:=k7 j hj hj'
     simpa using this
    ·obtain⟨S',g1,g2,g3,g4⟩:=hp
     exact⟨S',g1,g2,fun h=>absurd rfl (h v),g4⟩
  ·cases hx
noncomputable def xloop(body:XEnv->Hp->XR)(fuel:Nat): XEnv->Hp->XR:=
 Nat.rec (motive:=fun _=>XEnv->Hp->XR) (fun _ _=>.stuck) (fun _ ih env p=>match body env p with
  |.ok .normal env' p'=>ih env' p'
  |r=>r) fuel
theorem xloop_succ(body:XEnv->Hp->XR)(f:Nat)(env:XEnv)(p:Hp): xloop body (f+1) env p=match body env p with
 |.ok .normal env' p'=>xloop body f env' p'
 |r=>r:=rfl
noncomputable def xcode(mu:Bool)(ext:FuncId->List CV->Option CV)(call:XCall)(fuel:Nat): Code->XEnv->Hp->XR
 |.skip,env,p=>.ok .normal env p
 |.label _,env,p=>.ok .normal env p
 |.region _ ops draw,env,p=>bif draw then xdraw C mu ext call ops.toList (ancs ops.toList []) env p else xops C mu ext call ops.toList ops.toList env p
 |.seq a b,env,p=>match xcode mu ext call fuel a env p with
  |.ok .normal env' p'=>xcode mu ext call fuel b env' p'
  |r=>r
 |.cond c a b,env,p=>match xev env c with
  |.sc (.bool t)=>bif t then xcode mu ext call fuel a env p else xcode mu ext call fuel b env p
  |_=>.stuck
 |.block id c,env,p=>match xcode mu ext call fuel c env p with
  |.ok (.exit j) env' p'=>bif Nat.beq j id then .ok .normal env' p' else .ok (.exit j) env' p'
  |r=>r
 |.loop c,env,p=>xloop (xcode mu ext call fuel c) fuel env p
 |.exit id,env,p=>.ok (.exit id) env p
 |.ret,env,p=>.ok .ret env p
 |_,_,_=>.stuck
theorem xpost_mono{w0:World}{B:Nat}{S S':St}{n:Nat}{ds:List Deferred}(hS:S'.ext S){e:XE}{env:XEnv}{p:Hp}{c:Code}{a:Act}{w:World}(h:c.wp C.P (XPost w0 B S n ds e env p) a w): c.wp C.P (XPost w0 B S' n ds e env p) a w:=
 wp_mono h fun _ _ _ k=>k.mono hS
theorem V0u{ext:FuncId->List CV->Option CV}{call:XCall}(hext:ExtOk C ext)(hcall:CallOk C call){mu:Bool}{fuel:Nat}{w0:World}{B:Nat}{ds:List Deferred}{n:Nat}: ∀(c:Code) (S:St) (env:XEnv) (p:Hp) (a:Act) (w:World) (e:XE) (env':XEnv) (p':Hp),okCode n c=true->XRel w0 B S p w->ER S env.at a.tmps->a.tmps.size=n->a.defers=ds->
  xcode C mu ext call fuel c env p=.ok e env' p'->c.wp C.P (XPost w0 B S n ds e env' p') a w:=by
 intro c
 induction c with
 |skip=>
  intro S env p a w e env' p' _ r he hn hd hx
  simp only[xcode,XR.ok.injEq]at hx
  obtain⟨rfl,rfl,rfl⟩:=hx
  exact wp_skip ⟨S,St.ext.refl _,r,fun _=>he,hn,hd,trivial⟩
 |label l=>
  intro S env p a w e env' p' _ r he hn hd hx
  simp only[xcode,XR.ok.injEq]at hx
  obtain⟨rfl,rfl,rfl⟩:=hx
  exact wp_label ⟨S,St.ext.refl _,r,fun _=>he,hn,hd,trivial⟩
 |region id ops draw=>
  intro S env p a w e env' p' hok r he hn hd hx
  cases draw with
  |false=>
   simp only[xcode,cond_false]at hx
   refine wp_region ?_
   have:=V0y C hext hcall (Q':=XPost w0 B S n ds e env' p') ops.toList 0 S env p a w rfl (by simpa[okCode]using hok) r he hn hd e env' p' hx (fun _ _ _ h=>h)
   simpa[List.range_eq_range']using this
  |true=>
   simp only[xcode,cond_true]at hx
   exact xdraw_sound C hext hcall (by simpa[okCode]using hok) r he hn hd hx
 |seq x y ihx ihy=>
  intro S env p a w e env' p' hok r he hn hd hx
  simp only[okCode,Bool.and_eq_true]at hok
  simp only[xcode]at hx
  cases h1:xcode C mu ext call fuel x env p with
  |stuck=>rw[h1]at hx;cases hx
  |ok e1 env1 p1=>
   rw[h1]at hx
   have hw:=ihx S env p a w e1 env1 p1 hok.1 r he hn hd h1
   refine wp_seq (wp_mono hw ?_)
   rintro ex a' w' ⟨S',k1,k2,k3,k4,k5,k6⟩
   cases e1 with
   |normal=>
    simp only at hx
    cases ex<;>simp only[XE.ex,ExitR]at k6
    exact xpost_mono C k1 (ihy S' env1 p1 a' w' e env' p' hok.2 k2 (k3 (by simp)) k4 k5 hx)
   |exit id=>
    simp only[XR.ok.injEq]at hx
    obtain⟨rfl,rfl,rfl⟩:=hx
    cases ex<;>simp only[XE.ex,ExitR]at k6
    exact⟨S',k1,k2,k3,k4,k5,k6⟩
   |ret=>
    simp only[XR.ok.injEq]at hx
    obtain⟨rfl,rfl,rfl⟩:=hx
    cases ex<;>simp only[XE.ex,ExitR]at k6
    exact⟨S',k1,k2,k3,k4,k5,trivial⟩
   |pan v=>
    simp only[XR.ok.injEq]at hx
    obtain⟨rfl,rfl,rfl⟩:=hx
    cases ex<;>simp only[XE.ex,ExitR]at k6
    exact⟨S',k1,k2,k3,k4,k5,k6⟩
   |panU v=>
    simp only[XR.ok.injEq]at hx
    obtain⟨rfl,rfl,rfl⟩:=hx
    cases ex<;>simp only[XE.ex,ExitR]at k6
    exact⟨S',k1,k2,k3,k4,k5,k6⟩
 |cond c x y ihx ihy=>
  intro S env p a w e env' p' hok r he hn hd hx
  simp only[okCode,Bool.and_eq_true]at hok
  simp only[xcode]at hx
  split at hx<;>try(cases hx;done)
  rename_i t ht
  have hv:=he.eval (x:=c) (a:=a) (by rw[hn];exact hok.1.1)
  rw[<- X1a,ht]at hv
  refine wp_cond_split (VR_sc.1 hv).1 (fun ht=>?_) (fun ht=>?_)
  ·subst ht;exact ihx S env p a w e env' p' hok.1.2 r he hn hd hx
  ·subst ht;exact ihy S env p a w e env' p' hok.2 r he hn hd hx
 |block id c ih=>
  intro S env p a w e env' p' hok r he hn hd hx
  simp only[xcode]at hx
  cases h1:xcode C mu ext call fuel c env p with
  |stuck=>rw[h1]at hx;cases hx
  |ok e1 env1 p1=>
   rw[h1]at hx
   refine wp_block (wp_mono (ih S env p a w e1 env1 p1 hok r he hn hd h1) ?_)
   rintro ex a' w' ⟨S',k1,k2,k3,k4,k5,k6⟩
   cases e1 with
   |exit j=>
    cases ex<;>simp only[XE.ex,ExitR]at k6
    subst k6
    simp only at hx
    simp only[Exit.inBlock]
    cases hb:Nat.beq j id with
    |true=>
     rw[hb,cond_true]at hx
     simp only[XR.ok.injEq]at hx
     obtain⟨rfl,rfl,rfl⟩:=hx
     rw[if_pos (Nat.eq_of_beq_eq_true hb)]
     exact⟨S',k1,k2,fun _=>k3 (by simp),k4,k5,trivial⟩
    |false=>
     rw[hb,cond_false]at hx
     simp only[XR.ok.injEq]at hx
     obtain⟨rfl,rfl,rfl⟩:=hx
     rw[if_neg (Nat.ne_of_beq_eq_false hb)]
     exact⟨S',k1,k2,k3,k4,k5,rfl⟩
   |normal=>
    simp only[XR.ok.injEq]at hx
    obtain⟨rfl,rfl,rfl⟩:=hx
    cases ex<;>simp only[XE.ex,ExitR]at k6
    exact⟨S',k1,k2,k3,k4,k5,trivial⟩
   |ret=>
    simp only[XR.ok.injEq]at hx
    obtain⟨rfl,rfl,rfl⟩:=hx
    cases ex<;>simp only[XE.ex,ExitR]at k6
    exact⟨S',k1,k2,k3,k4,k5,trivial⟩
   |pan v=>
    simp only[XR.ok.injEq]at hx
    obtain⟨rfl,rfl,rfl⟩:=hx
    cases ex<;>simp only[XE.ex,ExitR]at k6
    exact⟨S',k1,k2,k3,k4,k5,k6⟩
   |panU v=>
    simp only[XR.ok.injEq]at hx
    obtain⟨rfl,rfl,rfl⟩:=hx
    cases ex<;>simp only[XE.ex,ExitR]at k6
    exact⟨S',k1,k2,k3,k4,k5,k6⟩
 |loop c ih=>
  intro S env p a w e env' p' hok r he hn hd hx
  have hx:xloop (xcode C mu ext call fuel c) fuel env p=.ok e env' p':=hx
  have key:∀(f:Nat) (S:St) (env:XEnv) (p:Hp) (a:Act) (w:World),XRel w0 B S p w->ER S env.at a.tmps->a.tmps.size=n->a.defers=ds->xloop (xcode C mu ext call fuel c) f env p=.ok e env' p'->
    ∀b k cs,∃ex a' w',XPost w0 B S n ds e env' p' ex a' w'/\Arrives C.P (lone (b.at a (.code c::.inLoop c::k)) cs w) b k cs ex a' w':=by
   intro f
   induction f with
   |zero=>intro S env p a w _ _ _ _ h;cases h
   |succ f ihf=>
    intro S env p a w r he hn hd hx b k cs
    rw[xloop_succ]at hx
    cases h1:xcode C mu ext call fuel c env p with
    |stuck=>rw[h1]at hx;cases hx
    |ok e1 env1 p1=>
     rw[h1]at hx
     obtain⟨ex,a1,w1,⟨S',k1,k2,k3,k4,k5,k6⟩,harr⟩:=ih S env p a w e1 env1 p1 hok r he hn hd h1 b (.inLoop c::k) cs
     cases e1 with
     |normal=>
      cases ex<;>simp only[XE.ex,ExitR]at k6
      obtain⟨e2,a2,w2,hq2,harr2⟩:=ihf S' env1 p1 a1 w1 k2 (k3 (by simp)) k4 k5 hx b k cs
      exact⟨e2,a2,w2,hq2.mono k1,.of_steps (Steps.trans harr (.one step_inLoop)) harr2⟩
     |exit id=>
      simp only[XR.ok.injEq]at hx
      obtain⟨rfl,rfl,rfl⟩:=hx
      cases ex<;>simp only[XE.ex,ExitR]at k6
      exact⟨.exit _,a1,w1,⟨S',k1,k2,k3,k4,k5,k6⟩,.pass (x:=.inLoop c) rfl (fun _ _=>.inl (by simp)) harr⟩
     |ret=>
      simp only[XR.ok.injEq]at hx
      obtain⟨rfl,rfl,rfl⟩:=hx
      cases ex<;>simp only[XE.ex,ExitR]at k6
      exact⟨.ret,a1,w1,⟨S',k1,k2,k3,k4,k5,trivial⟩,.pass (x:=.inLoop c) rfl (fun _ _=>.inl (by simp)) harr⟩
     |pan v=>
      simp only[XR.ok.injEq]at hx
      obtain⟨rfl,rfl,rfl⟩:=hx
      cases ex<;>simp only[XE.ex,ExitR]at k6
      exact⟨.panic _,a1,w1,⟨S',k1,k2,k3,k4,k5,k6⟩,.pass (x:=.inLoop c) rfl (fun _ _=>.inl (by simp)) harr⟩
     |panU v=>
      simp only[XR.ok.injEq]at hx
      obtain⟨rfl,rfl,rfl⟩:=hx
      cases ex<;>simp only[XE.ex,ExitR]at k6
      exact⟨.panic _,a1,w1,⟨S',k1,k2,k3,k4,k5,k6⟩,.pass (x:=.inLoop c) rfl (fun _ _=>.inl (by simp)) harr⟩
  intro b k cs
  obtain⟨ex,a',w',hq,harr⟩:=key fuel S env p a w r he hn hd hx b k cs
  exact⟨ex,a',w',hq,.of_steps (.one step_loop) harr⟩
 |exit id=>
  intro S env p a w e env' p' _ r he hn hd hx
  simp only[xcode,XR.ok.injEq]at hx
  obtain⟨rfl,rfl,rfl⟩:=hx
  exact wp_exit ⟨S,St.ext.refl _,r,fun _=>he,hn,hd,rfl⟩
 |ret=>
  intro S env p a w e env' p' _ r he hn hd hx
  simp only[xcode,XR.ok.injEq]at hx
  obtain⟨rfl,rfl,rfl⟩:=hx
  exact wp_ret ⟨S,St.ext.refl _,r,fun _=>he,hn,hd,trivial⟩
 |rangeFunc f ps x y _ _=>intro S env p a w e env' p' _ _ _ _ _ hx;simp[xcode]at hx
 |scope c _=>intro S env p a w e env' p' _ _ _ _ _ hx;simp[xcode]at hx
 |goto l=>intro S env p a w e env' p' _ _ _ _ _ hx;simp[xcode]at hx
 |refuse why=>intro S env p a w e env' p' _ _ _ _ _ hx;simp[xcode]at hx
end
end Go.Cl
end
section
namespace Go.Cl
open Go.RowKit
section
variable (C:Ctx)
noncomputable def putAll: Nat->List CV->XEnv->XEnv
 |_,[],m=>m
 |k,v::l,m=>putAll (k+1) l (T.set (some v) (Nat.succ k) m k)
theorem Y1g: ∀(l:List CV) (k:Nat) (m:XEnv) (t:Nat),(putAll k l m).at t=if k<=t/\t<k+l.length then(l[t-k]?).getD (.tup [])else m.at t
 |[],k,m,t=>by simp[putAll];omega
 |v::l,k,m,t=>by
  simp only[putAll]
  rw[Y1g l (k+1)]
  have hset:XEnv.at (T.set (some v) (Nat.succ k) m k) t=if t=k then v else m.at t:=by
   simp only[XEnv.at,T.get_set (some v) _ _ k (Nat.lt_succ_self k)]
   by_cases h:t=k
   ·rw[if_pos h,if_pos h]
   ·rw[if_neg h,if_neg h]
  by_cases h1:k+1<=t/\t<k+1+l.length
  ·rw[if_pos h1,if_pos (by simp only[List.length_cons];omega)]
   rw[show t-k=(t-(k+1))+1 by omega];simp
  ·rw[if_neg h1,hset]
   by_cases h2:t=k
   ·subst h2
    rw[if_pos rfl,if_pos (by simp only[List.length_cons];omega)]
    simp
   ·rw[if_neg h2,if_neg (by simp only[List.length_cons];omega)]
theorem Q04(l:List CV): (putAll 0 l .e).at=envOf l:=by
 funext t
 rw[Y1g]
 unfold envOf
 by_cases h:t<l.length
 ·rw[if_pos ⟨Nat.zero_le _,by omega⟩];simp[h]
 ·rw[if_neg (by omega)];simp[show l.length<=t by omega];rfl
noncomputable def xres(env:XEnv)(p:Hp): List ResultVar->Option (List CV)
 |[]=>some []
 |.tmp t::l=>match xres env p l with
  |some vs=>some (env.at t::vs)
  |none=>none
 |.cell a t::l=>match xload C p t (env.at a),xres env p l with
  |some v,some vs=>some (v::vs)
  |_,_=>none
theorem Y02{env:XEnv}{p:Hp}(hp:p.good): ∀(rs:List ResultVar) (l:List CV),xres C env p rs=some l->cres C env.at p.h rs=some l
 |[],l,h=>h
 |.tmp t::rs,l,h=>by
  simp only[xres]at h
  cases h1:xres C env p rs with
  |none=>simp[h1]at h
  |some vs=>
   simp[h1]at h
   simp only[cres,Y02 hp rs vs h1,Option.map_some]
   rw[<- h]
 |.cell a t::rs,l,h=>by
  simp only[xres]at h
  cases h2:xload C p t (env.at a) with
  |none=>simp[h2]at h
  |some v=>
   cases h1:xres C env p rs with
   |none=>simp[h1,h2]at h
   |some vs=>
    simp[h1,h2]at h
    simp only[cres,Y02 hp rs vs h1,Q1p C hp h2]
    rw[<- h]
structure XF where
 code:Code
 rs:List ResultVar
 n:Nat
def XFok(f:FuncId)(x:XF): Prop:=∃fn,C.P.funcs[f]?=some fn/\fn.body=some x.code/\fn.results.toList=x.rs/\fn.ntmps=x.n/\(fn.name == "runtime.NumGoroutine")=false/\okCode x.n x.code=true/\x.rs.all (okRes x.n)=true
def xfin(p:Hp): Option (List CV)->XRes
 |some l=>.ret (pack l) p
 |none=>.stuck
def Ans(w0:World)(B:Nat)(S:St)(f:FuncId)(vals:List Value)(w:World): XRes->Prop
 |.ret v p'=>Calls C.P f vals.toArray w fun e w'=>∃S' x,S.ext S'/\XRel w0 B S' p' w'/\VR S' v x/\e=.returned x
 |.pan v p'=>Calls C.P f vals.toArray w fun e w'=>∃S' x,S.ext S'/\XRel w0 B S' p' w'/\VR S' v x/\e=.panicked [⟨x,false,false⟩]
 |.stuck=>True
structure XC where
 a:Code
 b:Code
 post:Code
 rs:List ResultVar
 n:Nat
 k:Tmp
 g:FuncId
 caps:List Tmp
 gd:Tmp
 rest:Code
 gn:Nat
structure XCok(f:FuncId)(x:XC): Prop where
 fn:∃fn id ty1 ty2 p1 p2 e1 e2 ts,C.P.funcs[f]?=some fn/\fn.body=some (.seq x.a (.seq x.b (.seq (.region id #[⟨some x.k,.makeFunc (.func x.g) #[] (x.caps.map Operand.tmp).toArray,ty1,p1,e1,none⟩,⟨none,.defer ⟨.value (.tmp x.k),#[],ts⟩,ty2,p2,e2,none⟩] false) x.post)))/\fn.results.toList=x.rs/\fn.ntmps=x.n
 cl:∃fn id ty pp e ts,C.P.funcs[x.g]?=some fn/\fn.body=some (.seq (.region id #[⟨some x.gd,.call ⟨.builtin .recover,#[],ts⟩,ty,pp,e,none⟩] false) x.rest)/\fn.results.toList=[]/\fn.ntmps=x.gn/\(fn.name == "runtime.NumGoroutine")=false
 ok:okCode x.n x.a=true/\okCode x.n x.b=true/\okCode x.n x.post=true/\x.rs.all (okRes x.n)=true/\okCode x.gn x.rest=true
 lt:x.k<x.n/\x.gd<x.gn/\(∀t∈x.caps,t<x.n)/\x.caps.length<=x.gn/\x.caps.length<=x.gd
noncomputable def xcatchEnd(mu:Bool)(ext:FuncId->List CV->Option CV)(call:XCall)(fuel:Nat)(x:XC)(cv:List CV)(rec:CV)(env:XEnv)(p:Hp): XRes:=
 match xcode C mu ext call fuel x.rest ((putAll 0 cv .e).put (some x.gd) rec) p with
 |.ok .normal _ q=>xfin q (xres C env q x.rs)
 |.ok .ret _ q=>xfin q (xres C env q x.rs)
 |_=>.stuck
noncomputable def xcatch(mu:Bool)(ext:FuncId->List CV->Option CV)(call:XCall)(fuel:Nat)(x:XC)(args:List CV)(p:Hp): XRes:=
 bif Nat.ble args.length x.n then
  match xcode C mu ext call fuel x.a (putAll 0 args .e) p with
  |.ok .normal env1 p1=>match xcode C mu ext call fuel x.b env1 p1 with
   |.ok .normal env2 p2=>match xcode C mu ext call fuel x.post (env2.put (some x.k) (.fn x.g [] (x.caps.map env2.at))) p2 with
    |.ok .normal env3 p3=>xcatchEnd C mu ext call fuel x (x.caps.map env2.at) (.sc .nilIface) env3 p3
    |.ok .ret env3 p3=>xcatchEnd C mu ext call fuel x (x.caps.map env2.at) (.sc .nilIface) env3 p3
    |.ok (.pan v) env3 p3=>xcatchEnd C mu ext call fuel x (x.caps.map env2.at) v env3 p3
    |_=>.stuck
   |_=>.stuck
  |_=>.stuck
 else .stuck
end
end Go.Cl
end
section
namespace Go.Cl
open Go.RowKit
section
variable (C:Ctx)
theorem run_invoke{P:Program}{w:World}{g:FuncId}{fn:Func}{cap:Array Value}(h1:P.funcs[g]?=some fn)(h2:fn.body.isNone=false)(h3:(fn.name == "runtime.NumGoroutine")=false): (invoke (.fn (.func g) cap) #[]).run P w=.ok (.enter g cap) w:=by
 have h:(invoke (.fn (.func g) cap) #[]).run P w=(callFunc g (#[]++cap)).run P w:=rfl
 rw[h,V0w h1 h2 h3]
 simp
theorem X1v{ext:FuncId->List CV->Option CV}{call:XCall}(hext:ExtOk C ext)(hcall:CallOk C call){mu:Bool}{fuel:Nat}{f:FuncId}{x:XC}(hx:XCok C f x){w0:World}{B:Nat}{S:St}{p:Hp}{w:World}(r:XRel w0 B S p w)
  {cv:List CV} {cap:List Value} (hcv:VRs S cv cap) (hlen:cv.length=x.caps.length) {rec:CV} {y:Value} (hy:VR S rec y) {u u':FrameMode} (hu:(u=.returning/\y=.nilIface/\u'=.returning)\/(u=.panicking [⟨y,false,false⟩]/\u'=.panicking [⟨y,true,false⟩]))
  {e:XE} {env':XEnv} {q:Hp} (he:e=.normal\/e=.ret) (hrun:xcode C mu ext call fuel x.rest ((putAll 0 cv .e).put (some x.gd) rec) p=.ok e env' q):
  CallsD C.P x.g cap.toArray u w fun en v' w'=>∃z,en=.returned z/\v'=u'/\∃S',S.ext S'/\XRel w0 B S' q w':=by
 obtain⟨fn,id,ty,pp,ed,ts,h1,h2,h3,h4,h5⟩:=hx.cl
 obtain⟨_,_,_,_,hok⟩:=hx.ok
 obtain⟨_,hgd,_,hcl,_⟩:=hx.lt
 obtain⟨hvl,_⟩:=K06 _ _ hcv
 refine callsD_of_wpS h1 h2 fun c₀ cs hm=>?_
 rw[h4]
 have hsz:(cap.toArray++Array.replicate (x.gn-cap.toArray.size) undef).size=x.gn:=by simp;omega
 have hE:ER S (putAll 0 cv .e).at (cap.toArray++Array.replicate (x.gn-cap.toArray.size) undef):=by rw[Q04];exact Q10 hcv _
 refine wpS_seq (wpS_region ?_)
 -- what recover hands back
 have key:∀cs':List Frame,cs'={c₀ with mode:=u'}::cs->x.rest.wpS C.P (bodyPostS C.P fn c₀ cs fun en v' w'=>∃z,en=.returned z/\v'=u'/\∃S',S.ext S'/\XRel w0 B S' q w') ((Act.mk (cap.toArray++Array.replicate (x.gn-cap.toArray.size) undef) []).put (some x.gd) y) cs' w:=by
  intro cs' hcs
  refine wpS_of_wp ?_
  have hw:=V0u C hext hcall (mu:=mu) (fuel:=fuel) (ds:=[]) x.rest S _ p ((Act.mk (cap.toArray++Array.replicate (x.gn-cap.toArray.size) undef) []).put (some x.gd) y) w e env' q hok r (by rw[XEnv.at_put];exact ER.put (a:=Act.mk _ []) hE hy) (by rw[X00];exact hsz) rfl hrun
  refine wp_mono hw ?_
  rintro ex a w' ⟨S',k1,k2,k3,k4,k5,k6⟩
  have hres:(results fn a.tmps).run C.P w'=.ok (.tuple #[]) w':=X0z (vs:=[]) (by rw[h3];rfl)
  rcases he with rfl|rfl
  ·cases ex<;>simp only[XE.ex,ExitR]at k6
   exact⟨k5,u',hcs,_,hres,_,rfl,rfl,S',k1,k2⟩
  ·cases ex<;>simp only[XE.ex,ExitR]at k6
   exact⟨k5,u',hcs,_,hres,_,rfl,rfl,S',k1,k2⟩
 have hr:List.range (#[(⟨some x.gd,.call ⟨.builtin .recover,#[],ts⟩,ty,pp,ed,none⟩:Oper)]).size=[0]:=rfl
 rw[hr]
 simp only[wpOpsS]
 have hop:(#[(⟨some x.gd,.call ⟨.builtin .recover,#[],ts⟩,ty,pp,ed,none⟩:Oper)])[0]?=some ⟨some x.gd,.call ⟨.builtin .recover,#[],ts⟩,ty,pp,ed,none⟩:=rfl
 rw[hop]
 simp only[Region.wanted,if_true]
 have hex:∀(ρ:Operand->Value),(execOp ρ ⟨some x.gd,.call ⟨.builtin .recover,#[],ts⟩,ty,pp,ed,none⟩).run C.P w=.ok .recover w:=fun _=>rfl
 rw[hex]
 simp only
 rcases hu with⟨rfl,rfl,rfl⟩|⟨rfl,rfl⟩
 ·have hrec:recoverD (c₀::cs)=none:=by simp[recoverD,hm]
  rw[hrec]
  refine key _ ?_
  have:({c₀ with mode:=FrameMode.returning}:Frame)=c₀:=by rw[<- hm]
  rw[this]
 ·have hrec:recoverD (c₀::cs)=some (y,{c₀ with mode:=.panicking [⟨y,true,false⟩]}::cs):=by simp[recoverD,hm]
  rw[hrec]
  exact key _ rfl
theorem Y1k{ext:FuncId->List CV->Option CV}{call:XCall}(hext:ExtOk C ext)(hcall:CallOk C call){mu:Bool}{fuel:Nat}{f:FuncId}{x:XC}(hx:XCok C f x){fn:Func}(hres:fn.results.toList=x.rs){w0:World}{B:Nat}{S:St}{p:Hp}{w:World}(r:XRel w0 B S p w)
  {cv:List CV} {cap:List Value} (hcv:VRs S cv cap) (hlen:cv.length=x.caps.length) {rec:CV} {y:Value} (hy:VR S rec y) {u u':FrameMode} (hu:(u=.returning/\y=.nilIface/\u'=.returning)\/(u=.panicking [⟨y,false,false⟩]/\u'=.panicking [⟨y,true,false⟩]))
  {env:XEnv} {tmps:Array Value} (hE:ER S env.at tmps) (htn:tmps.size=x.n) {v:CV} {q:Hp} (hrun:xcatchEnd C mu ext call fuel x cv rec env p=.ret v q) {d:Deferred} (hd:d={target:=.fn (.func x.g) cap.toArray,args:=#[]}):
  Leaves C.P fn tmps (fun e w'=>∃S' z,S.ext S'/\XRel w0 B S' q w'/\VR S' v z/\e=.returned z) [d] u w:=by
 subst hd
 obtain⟨fg,id,ty,pp,ed,ts,h1,h2,h3,h4,h5⟩:=hx.cl
 have fin:∀(e:XE) (env':XEnv) (q1:Hp),(e=.normal\/e=.ret)->xcode C mu ext call fuel x.rest ((putAll 0 cv .e).put (some x.gd) rec) p=.ok e env' q1->xfin q1 (xres C env q1 x.rs)=.ret v q->
   Leaves C.P fn tmps (fun e w'=>∃S' z,S.ext S'/\XRel w0 B S' q w'/\VR S' v z/\e=.returned z) [{target:=.fn (.func x.g) cap.toArray,args:=#[]}] u w:=by
  intro e env' q1 he hc hf
  have hu0:u≠.run:=by rcases hu with⟨rfl,_⟩|⟨rfl,_⟩<;>simp
  refine leaves_cons (args:=cap.toArray) hu0 (run_invoke h1 (by rw[h2];rfl) h5) ?_
  refine(X1v C hext hcall hx r hcv hlen hy hu he hc).mono ?_
  rintro en v' w' ⟨z,rfl,rfl,S',k1,k2⟩
  have hset:settle v'=.returning:=by
   rcases hu with⟨_,_,rfl⟩|⟨_,rfl⟩<;>simp[settle]
  simp only[hset,Leaves]
  cases hr:xres C env q1 x.rs with
  |none=>rw[hr]at hf;cases hf
  |some l=>
   rw[hr]at hf
   simp only[xfin,XRes.ret.injEq]at hf
   obtain⟨rfl,rfl⟩:=hf
   obtain⟨vs,hvs,hV'⟩:=Y0p C k2.r (hE.mono k1.le) x.rs l (by rw[htn];exact hx.ok.2.2.2.1) (Y02 C k2.good _ _ hr)
   exact⟨_,X0z (by rw[hres];exact hvs),S',_,k1,k2,VR_pack hV',rfl⟩
 unfold xcatchEnd at hrun
 split at hrun
 ·rename_i env' q1 hc;exact fin _ _ _ (.inl rfl) hc hrun
 ·rename_i env' q1 hc;exact fin _ _ _ (.inr rfl) hc hrun
 ·cases hrun
theorem ends_of{w0:World}{B:Nat}{S S1:St}{q:Hp}{v:CV}(hS:S.ext S1){e:Ending}{w':World}(h:∃S' z,S1.ext S'/\XRel w0 B S' q w'/\VR S' v z/\e=.returned z): ∃S' z,S.ext S'/\XRel w0 B S' q w'/\VR S' v z/\e=.returned z:=by
 obtain⟨S',z,k1,k2⟩:=h
 exact⟨S',z,hS.trans k1,k2⟩
theorem Leaves.mono1{P:Program}{fn:Func}{tmps:Array Value}{R R':Ending->World->Prop}(hR:∀e w,R e w->R' e w): ∀(ds:List Deferred) (u:FrameMode) (w:World),Leaves P fn tmps R ds u w->Leaves P fn tmps R' ds u w
 |[],.returning,w,h=>by obtain⟨v,h1,h2⟩:=h;exact⟨v,h1,hR _ _ h2⟩
 |[],.panicking c,w,h=>hR _ _ h
 |[],.run,w,h=>h
 |d::ds,u,w,h=>by
  obtain⟨h1,fv,cap,f,args,h2,h3,h4⟩:=h
  refine⟨h1,fv,cap,f,args,h2,h3,h4.mono ?_⟩
  intro e u' w' he
  cases e with
  |returned v=>exact Leaves.mono1 hR ds _ _ he
  |panicked c=>exact Leaves.mono1 hR ds _ _ he
  |outgrown=>exact hR _ _ he
theorem caps_VRs{S:St}{env:XEnv}{a:Act}(he:ER S env.at a.tmps): ∀(caps:List Tmp),(∀t∈caps,t<a.tmps.size)->VRs S (caps.map env.at) (caps.map fun t=>a.eval (.tmp t))
 |[],_=>by simp[VRs]
 |t::l,h=>V0f.2 ⟨he.eval (x:=.tmp t) (by simpa[okOpd]using h t (by simp)),caps_VRs he l fun u hu=>h u (by simp[hu])⟩
theorem xcatch_sound{ext:FuncId->List CV->Option CV}{call:XCall}(hext:ExtOk C ext)(hcall:CallOk C call){mu:Bool}{fuel:Nat}{f:FuncId}{x:XC}(hx:XCok C f x){w0:World}{B:Nat}{S:St}{p:Hp}{w:World}{args:List CV}{vals:List Value}(r:XRel w0 B S p w)(hV:VRs S args vals):
  Ans C w0 B S f vals w (xcatch C mu ext call fuel x args p):=by
 obtain⟨fn,id,ty1,ty2,p1,p2,e1,e2,ts,h1,h2,h3,h4⟩:=hx.fn
 obtain⟨ka,kb,kp,kr,_⟩:=hx.ok
 obtain⟨hk,_,hcaps,_,_⟩:=hx.lt
 unfold xcatch
 cases hl:Nat.ble args.length x.n with
 |false=>trivial
 |true=>
  have hlen:=Nat.le_of_ble_eq_true hl
  obtain⟨hvl,_⟩:=K06 _ _ hV
  have hsz:(vals.toArray++Array.replicate (x.n-vals.toArray.size) undef).size=x.n:=by simp;omega
  have he:ER S (putAll 0 args .e).at (vals.toArray++Array.replicate (x.n-vals.toArray.size) undef):=by rw[Q04];exact Q10 hV _
  simp only[cond_true]
  -- the whole,from what comes behind
  have go:∀(env1:XEnv) (q1:Hp) (env2:XEnv) (q2:Hp) (ep:XE) (env3:XEnv) (q3:Hp) (rec v:CV) (q:Hp),xcode C mu ext call fuel x.a (putAll 0 args .e) p=.ok .normal env1 q1->xcode C mu ext call fuel x.b env1 q1=.ok .normal env2 q2->
    xcode C mu ext call fuel x.post (env2.put (some x.k) (.fn x.g [] (x.caps.map env2.at))) q2=.ok ep env3 q3->((ep=.normal\/ep=.ret)/\rec=.sc .nilIface\/ep=.pan rec)->xcatchEnd C mu ext call fuel x (x.caps.map env2.at) rec env3 q3=.ret v q->
    Ans C w0 B S f vals w (.ret v q):=by
   intro env1 q1 env2 q2 ep env3 q3 rec v q c1 c2 c3 hep hend
   show Calls C.P f vals.toArray w _
   refine calls_of_wp_defers h1 h2 ?_
   rw[h4]
   have w1:=V0u C hext hcall (mu:=mu) (fuel:=fuel) (ds:=[]) x.a S (putAll 0 args .e) p ⟨vals.toArray++Array.replicate (x.n-vals.toArray.size) undef,[]⟩ w _ _ _ ka r he hsz rfl c1
   refine wp_seq (wp_mono w1 ?_)
   rintro ex a1 wa ⟨S1,g1,g2,g3,g4,g5,g6⟩
   cases ex<;>simp only[XE.ex,ExitR]at g6
   have w2:=V0u C hext hcall (mu:=mu) (fuel:=fuel) (ds:=[]) x.b S1 env1 q1 a1 wa _ _ _ kb g2 (g3 (by simp)) g4 g5 c2
   refine wp_seq (wp_mono w2 ?_)
   rintro ex a2 wb ⟨S2,m1,m2,m3,m4,m5,m6⟩
   cases ex<;>simp only[XE.ex,ExitR]at m6
   have hE2:=m3 (by simp)
   have hcv:=caps_VRs hE2 x.caps (fun t ht=>by rw[m4];exact hcaps t ht)
   let cap:List Value:=x.caps.map fun t=>a2.eval (.tmp t)
   let d:Deferred:={target:=.fn (.func x.g) cap.toArray,args:=#[]}
   let fv:Value:=.func (.func x.g) #[] cap.toArray
   have hfv:VR S2 (.fn x.g [] (x.caps.map env2.at)) fv:=by
    rw[V0d rfl];simp only[FR]
    exact⟨⟨[],cap,rfl,by simp[VRs],hcv⟩,by simp[fv]⟩
   let a3:Act:={(a2.put (some x.k) fv)with defers:=d::(a2.put (some x.k) fv).defers}
   refine wp_seq (wp_region ?_)
   have hrange:∀o1 o2:Oper,List.range (#[o1,o2]:Array Oper).size=[0,1]:=fun _ _=>rfl
   rw[hrange]
   simp only[wpOps]
   have i0:∀o1 o2:Oper,(#[o1,o2]:Array Oper)[0]?=some o1:=fun _ _=>rfl
   have i1:∀o1 o2:Oper,(#[o1,o2]:Array Oper)[1]?=some o2:=fun _ _=>rfl
   rw[i0]
   simp only[Region.wanted,if_true]
   left
   unfold Oper.wp
   have x1:(execOp a2.eval ⟨some x.k,.makeFunc (.func x.g) #[] (x.caps.map Operand.tmp).toArray,ty1,p1,e1,none⟩).run C.P wb=.ok (.value fv) wb:=by
    have:(execOp a2.eval ⟨some x.k,.makeFunc (.func x.g) #[] (x.caps.map Operand.tmp).toArray,ty1,p1,e1,none⟩).run C.P wb=.ok (.value (.func (.func x.g) (#[].map a2.eval) ((x.caps.map Operand.tmp).toArray.map a2.eval))) wb:=rfl
    rw[this]
    have hm:(x.caps.map Operand.tmp).toArray.map a2.eval=cap.toArray:=by
     simp only[cap,List.map_toArray,List.map_map]
     rfl
    rw[hm,show Array.map a2.eval #[]=#[] from by simp]
   rw[x1]
   rw[Oper.upon_value]
   rw[i1]
   simp only[Region.wanted,if_true]
   left
   have hkv:(a2.put (some x.k) fv).eval (.tmp x.k)=fv:=by
    simp[Act.put,Act.eval,show x.k<a2.tmps.size by rw[m4];exact hk]
   have x2:(execOp (a2.put (some x.k) fv).eval ⟨none,.defer ⟨.value (.tmp x.k),#[],ts⟩,ty2,p2,e2,none⟩).run C.P wb=.ok (.defer d) wb:=by
    simp only[execOp,resolve,hkv,Deferred.ofValue,fv,Sem.run_bind,Sem.run_pure,Result.andThen_ok]
    simp[d]
   rw[x2,Oper.upon_defer]
   show Code.wp C.P x.post (bodyPostD C.P fn _) (a3.put none undef) wb
   have hE3:ER S2 (env2.put (some x.k) (.fn x.g [] (x.caps.map env2.at))).at (a3.put none undef).tmps:=by
    rw[XEnv.at_put]
    exact ER.put (d:=some x.k) hE2 hfv
   have w3:=V0u C hext hcall (mu:=mu) (fuel:=fuel) (ds:=[d]) x.post S2 _ q2 (a3.put none undef) wb _ _ _ kp m2 hE3 (by
    show(a2.put (some x.k) fv).tmps.size=x.n
    rw[X00];exact m4) (by
    show d::(a2.put (some x.k) fv).defers=[d]
    rw[Z0y,m5]) c3
   refine wp_mono w3 ?_
   rintro ex a4 wc ⟨S3,n1,n2,n3,n4,n5,n6⟩
   have hE4:=n3 (by rcases hep with⟨rfl|rfl,_⟩|rfl<;>simp)
   have hS3:S.ext S3:=(g1.trans m1).trans n1
   have last:∀(y:Value) (u u':FrameMode),VR S3 rec y->((u=.returning/\y=.nilIface/\u'=.returning)\/(u=.panicking [⟨y,false,false⟩]/\u'=.panicking [⟨y,true,false⟩]))->
     Leaves C.P fn a4.tmps (fun e w'=>∃S' z,S.ext S'/\XRel w0 B S' q w'/\VR S' v z/\e=.returned z) a4.defers u wc:=fun y u u' hy hu=>by
    rw[n5]
    exact Leaves.mono1 (fun e w' h=>ends_of hS3 h) _ _ _ (Y1k C hext hcall hx h3 n2 (VRs.mono n1.le _ _ hcv) (by simp) hy hu hE4 n4 hend rfl)
   rcases hep with⟨rfl|rfl,rfl⟩|rfl
   ·cases ex<;>simp only[XE.ex,ExitR]at n6
    exact last .nilIface .returning .returning (VR_sc.2 ⟨rfl,rfl⟩) (.inl ⟨rfl,rfl,rfl⟩)
   ·cases ex<;>simp only[XE.ex,ExitR]at n6
    exact last .nilIface .returning .returning (VR_sc.2 ⟨rfl,rfl⟩) (.inl ⟨rfl,rfl,rfl⟩)
   ·cases ex<;>simp only[XE.ex,ExitR]at n6
    obtain⟨y,rfl,hy⟩:=n6
    exact last y _ _ hy (.inr ⟨rfl,rfl⟩)
  cases c1:xcode C mu ext call fuel x.a (putAll 0 args .e) p with
  |stuck=>trivial
  |ok ea env1 q1=>
   cases ea with
   |normal=>
    simp only
    cases c2:xcode C mu ext call fuel x.b env1 q1 with
    |stuck=>trivial
    |ok eb env2 q2=>
     cases eb with
     |normal=>
      simp only
      cases c3:xcode C mu ext call fuel x.post (env2.put (some x.k) (.fn x.g [] (x.caps.map env2.at))) q2 with
      |stuck=>trivial
      |ok ep env3 q3=>
       have endd:∀rec,((ep=.normal\/ep=.ret)/\rec=.sc .nilIface\/ep=.pan rec)->Ans C w0 B S f vals w (xcatchEnd C mu ext call fuel x (x.caps.map env2.at) rec env3 q3):=fun rec hep=>by
        cases hend:xcatchEnd C mu ext call fuel x (x.caps.map env2.at) rec env3 q3 with
        |ret v q=>exact go env1 q1 env2 q2 ep env3 q3 rec v q c1 c2 c3 hep hend
        |stuck=>trivial
        |pan v q=>
         exfalso
         have hno:∀(o:Option (List CV)) (q1:Hp),xfin q1 o≠.pan v q:=fun o q1=>by cases o<;>simp[xfin]
         unfold xcatchEnd at hend
         split at hend
         ·exact hno _ _ hend
         ·exact hno _ _ hend
         ·cases hend
       cases ep with
       |normal=>exact endd _ (.inl ⟨.inl rfl,rfl⟩)
       |ret=>exact endd _ (.inl ⟨.inr rfl,rfl⟩)
       |pan v=>exact endd _ (.inr rfl)
       |panU v=>trivial
       |exit i=>trivial
     |_=>trivial
   |_=>trivial
end
end Go.Cl
end
section
namespace Go.Cl
open Go.RowKit
section steps
variable {C:Ctx} {ops rest:List Oper} {Q:CPost} {env:Env} {h:Heap} {o:Oper}
variable {D:Draws}
end steps
theorem put_same(env:Env)(t:Tmp)(v:CV): put env (some t) v t=v:=if_pos rfl
theorem put_ne(env:Env){t k:Tmp}(v:CV)(hk:k≠t): put env (some t) v k=env k:=if_neg hk
theorem put_none(env:Env)(v:CV): put env none v=env:=rfl
theorem ev_tmp(env:Env)(t:Tmp): ev env (.tmp t)=env t:=rfl
theorem ev_func(env:Env)(f:FuncId): ev env (.func f)=.fn f [] []:=rfl
theorem ev_const(env:Env)(v:Value): ev env (.const v)=ofConst v:=rfl
theorem ofConst_int(k:IntKind)(n:Int): ofConst (.int k n)=.sc (.int k n):=rfl
theorem ofConst_bool(b:Bool): ofConst (.bool b)=.sc (.bool b):=rfl
theorem V1j(b:ByteArray): ofConst (.string b)=.sc (.string b):=rfl
theorem X1u(k:FloatKind)(b:Nat): ofConst (.float k b)=.sc (.float k b):=rfl
theorem ofConst_nil: ofConst (.slice none 0 0)=.lst .nil []:=rfl
theorem Q1i: ofConst .nilFunc=.sc .nilFunc:=rfl
theorem Y08: ofConst .nilIface=.sc .nilIface:=rfl
theorem X1j: ofConst (.pointer none)=.sc (.pointer none):=rfl
theorem Y1j: ofConst (.map none)=.sc (.map none):=rfl
theorem envOf_get(l:List CV)(t:Tmp): envOf l t=match l[t]? with|some v=>v|none=>.tup []:=rfl
attribute [simp] put_same put_ne put_none ev_tmp ev_func ev_const ofConst_int ofConst_bool V1j X1u ofConst_nil Q1i Y08 X1j Y1j envOf_get V0h X0g cwanted
attribute [simp] qop qload qfieldAddr qindexAddr tgt qbin qnum qshift qun qconv qbuiltin qlen qminmax qindex qassert concrete qbuild setAll partsOk qbuildSlice qslice qbnd qmake isConstOpd eqRes CV.at CV.set CExit.then CExit.inBlock bodyQ cres pack CV.shape CV.shapes
end Go.Cl
end
section
namespace Go.Cl
open Go.RowKit
section steps
variable {C:Ctx} {D:Draws} {ops rest:List Oper} {Q:CPost} {next:Env->Heap->Prop} {env:Env} {h:Heap} {o:Oper}
theorem upd_none(h:Heap)(i j:Nat)(x:Obj): (upd h i (some x) j=none)=((j≠i/\i≠j)/\h j=none):=by
 by_cases e:j=i
 ·subst e;simp
 ·rw[X0g _ _ e];simp[e,Ne.symm e]
variable {al:Nat->Option Nat} {h1:Heap} {P:Env->Prop} {k:Nat} {K:(Nat->Option Nat)->Heap->Prop}
end steps
attribute [simp] upd_none
theorem Y0x{n:Int}(h1:-9223372036854775808<=n)(h2:n<=9223372036854775807): IntKind.i64.wrap n=n:=by
 have e:IntKind.bits .i64=64:=rfl
 have e2:IntKind.signed .i64=true:=rfl
 simp only[IntKind.wrap,e,e2,Bool.true_and]
 split<;>rename_i h<;>simp at h<;>omega
theorem wrap_range(n:Int): -9223372036854775808<=IntKind.i64.wrap n/\IntKind.i64.wrap n<=9223372036854775807:=by
 have e:IntKind.bits .i64=64:=rfl
 have e2:IntKind.signed .i64=true:=rfl
 simp only[IntKind.wrap,e,e2,Bool.true_and]
 split<;>rename_i h<;>simp at h<;>omega
end Go.Cl
end
section
namespace Go.Cl
section steps
variable {C:Ctx} {D:Draws} {ops rest:List Oper} {Q:CPost} {env:Env} {h h1:Heap} {o:Oper} {P:Env->Prop} {k:Nat} {al:Nat->Option Nat}
end steps
end Go.Cl
end
section
namespace Go.Cl
open Go.RowKit Go.ChangeShapes Go.WideShapes Go.ChangeAt
def S0(w:World): St:=⟨fun b o=>w.cell? ⟨b,o,none⟩,fun _=>none,0⟩
theorem R_init(w:World): R w w.heap.size (S0 w) (fun _=>none) w where
 below:=Below.refl _ _
 size:=Nat.le_refl _
 kcell:=fun _ _ _ h=>h
 fresh:=fun _ _=>⟨rfl,rfl⟩
 live:=fun _ _ _ h=>by cases h
 inj:=fun _ _ _ _ _ _ _ h=>by cases h
theorem VRs_nil(S:St): VRs S [] []:=by simp[VRs]
theorem Y01{H:Type}{enc:TypeId×Value->H}{P:Program}(hl:laidOutB P=true){W W':World}(hb:Below W.heap.size W W')(sp:Nat->Bool):
  ∀(ts:List TypeId) (vs:List Value) (ds:List (DataW H)) (ps:List MemPlace),(∀t∈ts,P.readableRec t=true/\t<P.types.size)->(∀x∈ps,x.block<W.heap.size/\sp x.block=true)->
   DataW.TrodAll enc P W 0 (fun _=>true) true ts vs ds ps->DataW.TrodAll enc P W' 0 sp true ts vs ds ps
 |[],[],[],ps,_,_,h=>h
 |t::ts,v::vs,d::ds,ps,ht,hp,h=>by
  obtain⟨p,q,h1,h2,rfl⟩:=h
  refine⟨p,q,?_,Y01 hl hb sp ts vs ds q (fun t h=>ht t (.tail _ h)) (fun x hx=>hp x (List.mem_append_right _ hx)) h2,rfl⟩
  exact WideElems.Trod_stays hl (ht t (.head _)).1 (ht t (.head _)).2 h1 (fun x hx=>hb.same (hp x (List.mem_append_left _ hx)).1) (fun x hx=>(hp x (List.mem_append_left _ hx)).2)
 |[],_::_,_,_,_,_,h=>h.elim
 |[],[],_::_,_,_,_,h=>h.elim
 |_::_,[],_,_,_,_,h=>h.elim
 |_::_,_::_,[],_,_,_,h=>h.elim
theorem post_true{H:Type}{enc:TypeId×Value->H}{P:Program}{f:Func}{s:ChangeSpec}{apart fresh handsOn again:Bool}{W W':World}{args:Array Value}{ds gs:List (DataW H)}{before:List MemPlace}{bt:TypeId}
  (hl:laidOutB P=true) (hW:DataW.Whole enc P f.params.toList s.vars apart W args.toList ds gs before) (hv:s.vars=[]) (hb:Below W.heap.size W W')
  (hread:∀t∈f.params.toList,P.readableRec t=true/\t<P.types.size) (hr:f.resultTypes=#[bt]) (hbt:P.underlying bt=some .bool)
  (hfn:s.fn H (ds++gs)={results:=[.lit (.bool true)],args:=ds}):s.post enc P f apart fresh handsOn again W args (.bool true) W':=by
 have hlt:=hW.lt
 obtain⟨p,q,hA,hV,rfl,hz,hn⟩:=id hW
 rw[hv]at hV
 obtain⟨hgs,rfl⟩:=trodVars_none hV
 have hold:∀x∈p++[],x.block<W.heap.size:=fun x hx=>by simpa using hlt x hx
 have hargs:∀sp:Nat->Bool,(∀x∈p++[],sp x.block=true)->DataW.TrodAll enc P W' 0 sp true f.params.toList args.toList (s.fn H (ds++gs)).args p:=fun sp hsp=>by
  rw[hfn]
  exact Y01 hl hb sp _ _ _ _ hread (fun x hx=>⟨hold x (List.mem_append_left _ hx),hsp x (List.mem_append_left _ hx)⟩) hA
 have hres:∀(b:Nat) (sp:Nat->Bool) (hd:Bool),DataW.TrodAll enc P W' b sp hd f.resultTypes.toList ((Value.bool true).resultList f.resultTypes.size) (s.fn H (ds++gs)).results []:=fun b sp hd=>by
  rw[hfn,hr]
  exact trodAll_mk1 (shut_bool hbt true)
 have hvars:∀sp:Nat->Bool,DataW.TrodVars enc P W' sp s.vars (s.fn H (ds++gs)).vars []:=fun sp=>by
  rw[hfn,hv];exact rfl
 have hok:=ok_one (P:=P) (W':=W') (f:=f) hr rfl (okWide_bool_mk hbt true)
 refine⟨ds,gs,p++[],[],p,[],hW,hres _ _ _,hargs _ (fun x hx=>by simpa using hold x hx),hvars _,hb.frame _,fun _=>?_⟩
 refine⟨hok,_,_,([]++p)++[],⟨[]++p,[],trodAll_append (hargs _ (fun _ _=>rfl)) (hres _ _ _),hvars _,rfl,?_,?_⟩,?_⟩
 ·intro b off hp
  rw[hb.frozen (p:=⟨b,off,none⟩) (hold (.cell b off) (by simpa using hp))]
  exact hz b off (by simpa using hp)
 ·intro ha
  simpa using hn ha
 ·intro x hx _
  simpa using hx
end Go.Cl
end
section
namespace Go.Cl
open Go.RowKit
theorem K1o{P:Program}{f:FuncId}{fn:Func}{e:Array Value->Sem Value}(h:P.funcs[f]?=some fn)(hb:fn.body.isNone=true)(hn:(fn.name == "runtime.NumGoroutine")=false)(h1:(Extern.findNext fn).isNone=true)(h2:Extern.find fn=some e)(args:Array Value)(w:World):
  (callFunc f args).run P w=(do pure (Next.value (<- e args)):Sem Next).run P w:=by
 have h1':Extern.findNext fn=none:=by simpa using h1
 unfold callFunc
 simp only[Sem.run_bind,run_program,Result.andThen_ok,h,hn,hb,Bool.false_eq_true,if_false,if_true,h1',h2]
 rfl
def extBits(a b:FuncId)(f:FuncId)(args:List CV): Option CV:=
 bif Nat.beq f a then(match args with
  |[.sc (.float .f64 n)]=>some (.sc (.int .u64 n))
  |_=>none)
 else bif Nat.beq f b then(match args with
  |[.sc (.int .u64 n)]=>some (.sc (.float .f64 n.toNat))
  |_=>none)
 else none
structure ExtFn(P:Program)(f:FuncId)(e:Array Value->Sem Value): Prop where
 h:∃fn,P.funcs[f]?=some fn/\fn.body.isNone=true/\(fn.name == "runtime.NumGoroutine")=false/\(Extern.findNext fn).isNone=true/\Extern.find fn=some e
theorem VRs_one{S:St}{v:CV}{vals:List Value}(h:VRs S [v] vals): ∃x,vals=[x]/\VR S v x:=by
 match vals,h with
 |[],h=>simp[VRs]at h
 |[x],h=>exact⟨x,rfl,(V0f.1 h).1⟩
 |x::y::l,h=>have:=(V0f.1 h).2;simp[VRs]at this
theorem extBits_ok{C:Ctx}{a b:FuncId}(ha:ExtFn C.P a Extern.MathFloatBits.float64bits)(hb:ExtFn C.P b Extern.MathFloatBits.float64frombits): ExtOk C (extBits a b):=by
 intro f args v h S vals w hV
 unfold extBits at h
 cases h1:Nat.beq f a with
 |true=>
  rw[h1,cond_true]at h
  have:=Nat.eq_of_beq_eq_true h1
  subst this
  split at h<;>try(cases h;done)
  cases h
  obtain⟨x,rfl,hx⟩:=VRs_one hV
  have hx:=(VR_sc.1 hx).1
  subst hx
  obtain⟨fn,k1,k2,k3,k4,k5⟩:=ha.h
  exact⟨_,by rw[K1o k1 k2 k3 k4 k5];rfl,VR_sc.2 ⟨rfl,rfl⟩⟩
 |false=>
  rw[h1,cond_false]at h
  cases h2:Nat.beq f b with
  |true=>
   rw[h2,cond_true]at h
   have:=Nat.eq_of_beq_eq_true h2
   subst this
   split at h<;>try(cases h;done)
   cases h
   obtain⟨x,rfl,hx⟩:=VRs_one hV
   have hx:=(VR_sc.1 hx).1
   subst hx
   obtain⟨fn,k1,k2,k3,k4,k5⟩:=hb.h
   exact⟨_,by rw[K1o k1 k2 k3 k4 k5];rfl,VR_sc.2 ⟨rfl,rfl⟩⟩
  |false=>rw[h2]at h;cases h
def noExt(_:FuncId)(_:List CV): Option CV:=none
theorem noExt_ok(C:Ctx): ExtOk C noExt:=fun _ _ _ h=>by cases h
def catA: Code->Code
 |.seq a _=>a
 |_=>.skip
def catB: Code->Code
 |.seq _ (.seq b _)=>b
 |_=>.skip
def catP: Code->Code
 |.seq _ (.seq _ (.seq _ p))=>p
 |_=>.skip
def catR: Code->Code
 |.seq _ r=>r
 |_=>.skip
def isTrue: XRes->Bool
 |.ret (.sc (.bool b)) _=>b
 |_=>false
end Go.Cl
end
section
namespace Go.Cl
open Go.RowKit
section
variable (C:Ctx)
end
end Go.Cl
end
section
namespace Go.Cl
open Go.RowKit
section
variable (C:Ctx)
end
end Go.Cl
end
section
namespace Go.Cl
open Go.RowKit
theorem Hp.get_set(p:Hp)(i:Nat)(o:Option XObj)(j:Nat): (p.set i o).t.get j=if j=i then o else p.t.get j:=T.get_set o _ _ i (Nat.lt_succ_self i) j
theorem Hp.get_new(p:Hp)(o:XObj)(j:Nat): (p.new o).t.get j=if j=p.n then some o else p.t.get j:=T.get_set (some o) _ _ p.n (Nat.lt_succ_self _) j
section
variable (C:Ctx)
def noCall: XCall:=fun _ _ _=>.stuck
theorem noCall_ok: CallOk C noCall:=fun _ _ _=>trivial
end
section
variable (C:Ctx)
noncomputable def fnext(r:XRes)(k:XRes): XRes:=
 match r with
 |.stuck=>k
 |r=>r
end
end Go.Cl
end
section
namespace Go.Cl
open Go.RowKit
abbrev CV.f_(k:FloatKind)(n:Nat): CV:=.sc (.float k n)
abbrev CV.s_(l:List UInt8): CV:=.sc (.string ⟨l.toArray⟩)
noncomputable def ofL: List (Nat×XObj)->T XObj
 |[]=>.e
 |(i,o)::l=>T.set (some o) (Nat.succ i) (ofL l) i
noncomputable def Hp.of(n:Nat)(l:List (Nat×XObj)): Hp:=⟨n,ofL l⟩
section
variable (C:Ctx)
end
end Go.Cl
end
section
namespace Go.Cl
open Go.RowKit
def isAllocOp(o:Oper): Bool:=
 match kindOf o.op with
 |.alloc=>true
 |_=>false
section
variable (C:Ctx)
end
end Go.Cl
end
section
namespace Go.Cl
open Go.RowKit
structure LOp where
 dst:Option Tmp
 op:Op
 gd:Option (Tmp×Bool)
 fin:Bool
def lgd(ops:List Oper)(o:Oper): Option (Option (Tmp×Bool)):=
 match o.guard with
 |none=>some none
 |some (j,w)=>match ops[j]? with
  |some oj=>match oj.dst with
   |some d=>some (some (d,w))
   |none=>none
  |none=>none
noncomputable def lwanted(env:XEnv)(g:Option (Tmp×Bool)): Option Bool:=
 match g with
 |none=>some true
 |some (d,w)=>match env.at d with
  |.sc (.bool b)=>some (b==w)
  |.tup []=>some false
  |_=>none
theorem Y1p{ops:List Oper}{o:Oper}{env:XEnv}{g:Option (Tmp×Bool)}(h:lgd ops o=some g): xwanted ops o env=lwanted env g:=by
 unfold lgd at h
 unfold xwanted
 cases hg:o.guard with
 |none=>simp only[hg]at h;cases h;rfl
 |some jw=>
  obtain⟨j,w⟩:=jw
  simp only[hg]at h
  cases hj:ops[j]? with
  |none=>simp[hj]at h
  |some oj=>
   cases hd:oj.dst with
   |none=>simp[hj,hd]at h
   |some d=>simp[hj,hd]at h;subst h;simp only[hj,hd];rfl
def lops(ops:List Oper)(A:List Nat): List Oper->Nat->Option (List LOp)
 |[],_=>some []
 |o::l,i=>match lgd ops o with
  |some g=>match lops ops A l (i+1) with
   |some m=>some (⟨o.dst,o.op,g,(List.range' (i+1) l.length).all (fun j=>bef A j i)⟩::m)
   |none=>none
  |none=>none
section
variable (C:Ctx)
noncomputable def xl(mu:Bool)(ext:FuncId->List CV->Option CV)(call:XCall): List LOp->XEnv->Hp->XR
 |[],env,p=>.ok .normal env p
 |o::rest,env,p=>match lwanted env o.gd with
  |none=>.stuck
  |some false=>xl mu ext call rest (env.put o.dst (.tup [])) p
  |some true=>match xopm C mu ext call env p o.op with
   |.ret v q=>xl mu ext call rest (env.put o.dst v) q
   |.pan v q=>.ok (.pan v) env q
   |.stuck=>.stuck
theorem xl_eq{mu:Bool}{ext:FuncId->List CV->Option CV}{call:XCall}{ops:List Oper}{A:List Nat}: ∀(l:List Oper) (i:Nat) (m:List LOp) (env:XEnv) (p:Hp),lops ops A l i=some m->xops C mu ext call ops l env p=xl C mu ext call m env p
 |[],_,m,env,p,h=>by simp[lops]at h;subst h;rfl
 |o::l,i,m,env,p,h=>by
  simp only[lops]at h
  cases hg:lgd ops o with
  |none=>simp[hg]at h
  |some g=>
   cases hm:lops ops A l (i+1) with
   |none=>simp[hg,hm]at h
   |some m'=>
    simp only[hg,hm,Option.some.injEq]at h
    subst h
    simp only[xops,xl,Y1p hg]
    cases lwanted env g with
    |none=>rfl
    |some b=>
     cases b with
     |false=>exact xl_eq l (i+1) m' _ _ hm
     |true=>
      simp only
      cases xopm C mu ext call env p o.op with
      |ret v q=>exact xl_eq l (i+1) m' _ _ hm
      |pan v q=>rfl
      |stuck=>rfl
end
end Go.Cl
end
section
namespace Go.Cl
open Go.RowKit
theorem blen_dec(a b:Nat): Nat.ble a b=decide (a<=b):=by
 cases h:Nat.ble a b with
 |true=>simp[Nat.le_of_ble_eq_true h]
 |false=>simp;exact Nat.lt_of_not_le fun k=>by rw[Nat.ble_eq_true_of_le k]at h;cases h
theorem Y09(a b:Nat): Nat.blt a b=decide (a<b):=by
 show Nat.ble (a+1) b=_
 rw[blen_dec];rfl
section
variable (C:Ctx)
noncomputable def xfOf(f:Func): XF:=⟨f.body.getD .skip,f.results.toList,f.ntmps⟩
end
end Go.Cl
end
section
namespace Go.Cl
open Go.RowKit
section
variable (C:Ctx)
noncomputable def zcallOp(mu:Bool)(ext:FuncId->List CV->Option CV)(call:XCall)(ρ:Env)(p:Hp)(callee:Callee)(args:Array Operand)(ts:Array TypeId): XRes:=
 match callee with
 |.value f=>xcallv ext call p (ev ρ f) (args.toList.map (ev ρ))
 |.builtin .append=>match args.toList,ts.toList with
  |[b,x],[t,tx]=>xappend C mu p t tx (ev ρ b) (ev ρ x)
  |_,_=>.stuck
 |.builtin .delete=>match args.toList,ts.toList with
  |[x,k],t::_=>xdelete C p t (ev ρ x) (ev ρ k)
  |_,_=>.stuck
 |.builtin .cap=>match args.toList,ts.toList with
  |[x],t::_=>bif isSliceT C t then ofOpt p (xcap (ev ρ x))else .stuck
  |_,_=>.stuck
 |c=>ofOpt p (qop C (ev ρ) p.h (.call ⟨c,args,ts⟩))
noncomputable def zbin(ρ:Env)(p:Hp)(op:BinOp)(t:TypeId)(x y:Operand): XRes:=
 match y with
 |.const (.slice none 0 0)=>ofOpt p (xnil C op t (ev ρ x))
 |_=>ofOpt p (qbin C op t (isConstOpd y) (ev ρ x) (ev ρ y))
noncomputable def zop(mu:Bool)(ext:FuncId->List CV->Option CV)(call:XCall)(ρ:Env)(p:Hp)(o:Op): XRes:=
 match o with
 |.move x=>.ret (ev ρ x) p
 |.assign x=>.ret (ev ρ x) p
 |.load t a=>ofOpt p (xload C p t (ev ρ a))
 |.store t a x=>xstore C p t (ev ρ a) (ev ρ x)
 |.binOp op t x y _=>zbin C ρ p op t x y
 |.fieldAddr s x f=>ofOpt p (xfieldAddr C p s (ev ρ x) f)
 |.indexAddr t x i=>ofOpt p (xindexAddr C p t (ev ρ x) (ev ρ i))
 |.call ⟨f,args,ts⟩=>zcallOp C mu ext call ρ p f args ts
 |.alloc t=>xalloc C p t
 |.box t x=>xbox C p t (ev ρ x)
 |.panic x=>xpanic p (ev ρ x)
 |.makeSlice t l c=>xmake C p t (ev ρ l) (ev ρ c)
 |.lookup t x k ok=>xlookup C p t (ev ρ x) (ev ρ k) ok
 |.mapUpdate t x k y=>xupdate C p t (ev ρ x) (ev ρ k) (ev ρ y)
 |.makeMap _ none=>xmakeMap p
 |.field t x f=>ofOpt p (qfield C t (ev ρ x) f)
 |.convert s d x=>ofOpt p (xconv C p.h s d (ev ρ x))
 |o=>ofOpt p (qop C (ev ρ) p.h o)
noncomputable def zopm(mu:Bool)(ext:FuncId->List CV->Option CV)(call:XCall)(ρ:Env)(p:Hp)(o:Op): XRes:=
 match o with
 |.buildSlice t n ps=>cond (mu&&Nat.blt 0 n) (xbuildS C p t n (ps.toList.map fun q=>(q.1,ev ρ q.2))) (zop C mu ext call ρ p (.buildSlice t n ps))
 |o=>zop C mu ext call ρ p o
theorem zop_eq(mu:Bool)(ext:FuncId->List CV->Option CV)(call:XCall)(env:XEnv)(p:Hp)(o:Op): xop C mu ext call env p o=zop C mu ext call env.at p o:=by
 have h:∀x,xev env x=ev env.at x:=fun x=>by rw[X1a]
 unfold xop zop
 split<;>simp only[xbin,zbin,xcallOp,zcallOp,X1a]<;>rfl
theorem zopm_eq(mu:Bool)(ext:FuncId->List CV->Option CV)(call:XCall)(env:XEnv)(p:Hp)(o:Op): xopm C mu ext call env p o=zopm C mu ext call env.at p o:=by
 unfold xopm zopm
 split<;>simp only[zop_eq,X1a]
end
abbrev ZQ:=XE->Env->Hp->Prop
def zwanted(ρ:Env)(g:Option (Tmp×Bool)): Option Bool:=
 match g with
 |none=>some true
 |some (d,w)=>match ρ d with
  |.sc (.bool b)=>some (b==w)
  |.tup []=>some false
  |_=>none
theorem X1o(env:XEnv)(g:Option (Tmp×Bool)): lwanted env g=zwanted env.at g:=rfl
def Hp.bump(p:Hp)(n:Nat): Hp:=⟨p.n+n,p.t⟩
def seqQ(k:Env->Hp->ZQ->Prop)(Q:ZQ): ZQ:=fun e ρ p=>match e with
 |.normal=>k ρ p Q
 |.exit i=>Q (.exit i) ρ p
 |.ret=>Q .ret ρ p
 |.pan v=>Q (.pan v) ρ p
 |.panU v=>Q (.panU v) ρ p
def blkQ(id:Nat)(Q:ZQ): ZQ:=fun e ρ p=>match e with
 |.normal=>Q .normal ρ p
 |.exit i=>bif Nat.beq i id then Q .normal ρ p else Q (.exit i) ρ p
 |.ret=>Q .ret ρ p
 |.pan v=>Q (.pan v) ρ p
 |.panU v=>Q (.panU v) ρ p
def condW(v:CV)(a b:Env->Hp->ZQ->Prop)(ρ:Env)(p:Hp)(Q:ZQ): Prop:=
 match v with
 |.sc (.bool t)=>bif t then a ρ p Q else b ρ p Q
 |_=>False
def Wn(body:Env->Hp->ZQ->Prop): Nat->Env->Hp->ZQ->Prop
 |0,_,_,_=>False
 |n+1,ρ,p,Q=>body ρ p (seqQ (Wn body n) Q)
section
variable (C:Ctx) (mu:Bool) (ext:FuncId->List CV->Option CV) (call:XCall)
noncomputable def Wo: List LOp->Env->Hp->ZQ->Prop
 |[],ρ,p,Q=>Q .normal ρ p
 |o::rest,ρ,p,Q=>match zwanted ρ o.gd with
  |none=>False
  |some false=>Wo rest (put ρ o.dst (.tup [])) p Q
  |some true=>match zopm C mu ext call ρ p o.op with
   |.ret v q=>Wo rest (put ρ o.dst v) q Q
   |.pan v q=>Q (.pan v) ρ q
   |.stuck=>False
theorem Z09: ∀(l:List LOp) (ρ:Env) (p:Hp) (Q:ZQ),Wo C mu ext call l ρ p Q->∀(env:XEnv),env.at=ρ->
  ∃(e:XE) (env':XEnv) (p':Hp),xl C mu ext call l env p=.ok e env' p'/\Q e env'.at p'
 |[],ρ,p,Q,h,env,he=>by
  subst he
  exact⟨.normal,env,p,rfl,h⟩
 |o::rest,ρ,p,Q,h,env,he=>by
  subst he
  simp only[Wo]at h
  simp only[xl,X1o,zopm_eq]
  cases hw:zwanted env.at o.gd with
  |none=>rw[hw]at h;exact h.elim
  |some b=>
   cases b with
   |false=>
    rw[hw]at h
    exact Z09 rest _ p Q h (env.put o.dst (.tup [])) (XEnv.at_put _ _ _)
   |true=>
    rw[hw]at h
    simp only at h ⊢
    cases hr:zopm C mu ext call env.at p o.op with
    |stuck=>rw[hr]at h;exact h.elim
    |ret v q=>
     rw[hr]at h
     exact Z09 rest _ q Q h (env.put o.dst v) (XEnv.at_put _ _ _)
    |pan v q=>
     rw[hr]at h
     exact⟨.pan v,env,q,rfl,h⟩
end
end Go.Cl
end
section
namespace Go.Cl
open Go.RowKit
mutual
def CV.has(j:Nat): CV->Prop
 |.sc _=>False
 |.agg l=>CV.hasL j l
 |.tup l=>CV.hasL j l
 |.lst t l=>t=.own j\/CV.hasL j l
 |.slc i _ _ _=>i=j
 |.ptr i _=>i=j
 |.rptr v=>v.has j
 |.mapr i=>i=j
 |.fn _ a b=>CV.hasL j a\/CV.hasL j b
 |.ifc _ v=>v.has j
def CV.hasL(j:Nat): List CV->Prop
 |[]=>False
 |v::l=>v.has j\/CV.hasL j l
end
def CV.lt(n:Nat)(v:CV): Prop:=∀j,v.has j->j<n
def XObj.has(j:Nat): XObj->Prop
 |.var _ v=>v.has j
 |.tail _=>False
 |.map l=>∃x∈l,x.1.has j\/x.2.has j
def XObj.lt(n:Nat)(o:XObj): Prop:=∀j,o.has j->j<n
theorem CV.hasL_iff{j:Nat}: ∀{l:List CV},CV.hasL j l ↔ ∃v∈l,v.has j
 |[]=>by simp[CV.hasL]
 |v::l=>by simp[CV.hasL,CV.hasL_iff (l:=l)]
mutual
theorem FR.has{S:St}{j:Nat}: ∀(v:CV) (cs:List Value),FR S v cs->v.has j->∃l,S.μ j=some l
 |.sc _,_,_,h=>by simp[CV.has]at h
 |.agg l,cs,k,h=>by simp only[FR]at k;exact FRs.has l cs k (by simpa[CV.has]using h)
 |.tup l,_,k,h=>by simp only[FR]at k;obtain⟨vs,_,k⟩:=k;exact VRs.has l vs k (by simpa[CV.has]using h)
 |.lst t l,_,k,h=>by
  simp only[FR]at k
  simp only[CV.has]at h
  rcases k with⟨rfl,_,ht,_⟩|⟨b,off,cap,sz,es,_,_,h2,_,_,h5⟩
  ·rcases h with rfl|h
   ·simp[Tail.may]at ht
   ·simp[CV.hasL]at h
  ·rcases h with rfl|h
   ·exact⟨_,h5.1⟩
   ·exact FRs.has l es h2 h
 |.slc _ _ _ _,_,k,h=>by simp only[FR]at k;obtain⟨rb,sh,l,o,cap,e,⟨tot,k1,k3⟩,k2⟩:=k;simp only[CV.has]at h;subst h;exact⟨_,k1⟩
 |.ptr _ _,_,k,h=>by simp only[FR]at k;obtain⟨rb,sh,o,e,⟨tot,k1⟩,k2⟩:=k;simp only[CV.has]at h;subst h;exact⟨_,k1⟩
 |.rptr v,_,k,h=>by simp only[FR]at k;obtain⟨b,o,es,e,k1,k2⟩:=k;exact FR.has v es k1 (by simpa[CV.has]using h)
 |.mapr _,_,k,h=>by simp only[FR]at k;obtain⟨rb,e,k1⟩:=k;simp only[CV.has]at h;subst h;exact⟨_,k1⟩
 |.fn _ k0 l,_,k,h=>by
  simp only[FR]at k;obtain⟨us,vs,e,k1,k⟩:=k
  simp only[CV.has]at h
  rcases h with h|h
  ·exact VRs.has k0 us k1 h
  ·exact VRs.has l vs k h
 |.ifc _ v,_,k,h=>by simp only[FR]at k;obtain⟨x,e,k,k2⟩:=k;exact FR.has v _ k (by simpa[CV.has]using h)
theorem FRs.has{S:St}{j:Nat}: ∀(l:List CV) (cs:List Value),FRs S l cs->CV.hasL j l->∃l,S.μ j=some l
 |[],_,_,h=>by simp[CV.hasL]at h
 |v::l,_,k,h=>by
  simp only[FRs]at k;obtain⟨c,ds,e,k1,k2⟩:=k
  simp only[CV.hasL]at h
  rcases h with h|h
  ·exact FR.has v c k1 h
  ·exact FRs.has l ds k2 h
theorem VRs.has{S:St}{j:Nat}: ∀(l:List CV) (vs:List Value),VRs S l vs->CV.hasL j l->∃l,S.μ j=some l
 |[],_,_,h=>by simp[CV.hasL]at h
 |v::l,_,k,h=>by
  simp only[VRs]at k;obtain⟨x,xs,e,⟨k1,k2⟩,k3⟩:=k
  simp only[CV.hasL]at h
  rcases h with h|h
  ·exact FR.has v _ k1 h
  ·exact VRs.has l xs k3 h
end
def Tail.weak(σ:Nat->Nat)(n:Nat): Tail->Tail->Prop
 |_,.view=>True
 |.own j',.own j=>j'=σ j/\j<n
 |.own _,.part=>True
 |.exact,.part=>True
 |.part,.part=>True
 |.exact,.exact=>True
 |.nil,.nil=>True
 |_,_=>False
mutual
def CV.weak(σ:Nat->Nat)(n:Nat): CV->CV->Prop
 |.sc a,.sc b=>a=b
 |.agg l,.agg m=>CV.weakL σ n l m
 |.tup l,.tup m=>CV.weakL σ n l m
 |.lst t l,.lst u m=>Tail.weak σ n t u/\CV.weakL σ n l m
 |.slc i a b c,.slc j x y z=>i=σ j/\j<n/\a=x/\b=y/\c=z
 |.ptr i a,.ptr j x=>i=σ j/\j<n/\a=x
 |.rptr v,.rptr u=>CV.weak σ n v u
 |.mapr i,.mapr j=>i=σ j/\j<n
 |.fn f a b,.fn g x y=>f=g/\CV.weakL σ n a x/\CV.weakL σ n b y
 |.ifc t v,.ifc s u=>t=s/\CV.weak σ n v u
 |_,_=>False
def CV.weakL(σ:Nat->Nat)(n:Nat): List CV->List CV->Prop
 |[],[]=>True
 |v::l,u::m=>CV.weak σ n v u/\CV.weakL σ n l m
 |_,_=>False
end
mutual
theorem CV.weak_refl{σ:Nat->Nat}{n:Nat}: ∀(v:CV),(∀j,v.has j->σ j=j/\j<n)->CV.weak σ n v v
 |.sc _,_=>by simp[CV.weak]
 |.agg l,h=>by simp only[CV.weak];exact CV.weakL_refl l (by simpa[CV.has]using h)
 |.tup l,h=>by simp only[CV.weak];exact CV.weakL_refl l (by simpa[CV.has]using h)
 |.lst t l,h=>by
  simp only[CV.weak]
  refine⟨?_,CV.weakL_refl l fun j hj=>h j (by simp[CV.has,hj])⟩
  cases t<;>simp only[Tail.weak]
  rename_i j
  have:=h j (by simp[CV.has])
  exact⟨this.1.symm,this.2⟩
 |.slc i _ _ _,h=>by simp only[CV.weak];have:=h i (by simp[CV.has]);exact⟨this.1.symm,this.2,trivial,trivial,trivial⟩
 |.ptr i _,h=>by simp only[CV.weak];have:=h i (by simp[CV.has]);exact⟨this.1.symm,this.2,trivial⟩
 |.rptr v,h=>by simp only[CV.weak];exact CV.weak_refl v (by simpa[CV.has]using h)
 |.mapr i,h=>by simp only[CV.weak];have:=h i (by simp[CV.has]);exact⟨this.1.symm,this.2⟩
 |.fn _ a b,h=>by simp only[CV.weak];exact⟨trivial,CV.weakL_refl a fun j hj=>h j (by simp[CV.has,hj]),CV.weakL_refl b fun j hj=>h j (by simp[CV.has,hj])⟩
 |.ifc _ v,h=>by simp only[CV.weak];exact⟨trivial,CV.weak_refl v (by simpa[CV.has]using h)⟩
theorem CV.weakL_refl{σ:Nat->Nat}{n:Nat}: ∀(l:List CV),(∀j,CV.hasL j l->σ j=j/\j<n)->CV.weakL σ n l l
 |[],_=>by simp[CV.weakL]
 |v::l,h=>by simp only[CV.weakL];exact⟨CV.weak_refl v fun j hj=>h j (by simp[CV.hasL,hj]),CV.weakL_refl l fun j hj=>h j (by simp[CV.hasL,hj])⟩
end
mutual
theorem CV.weak_shape{σ:Nat->Nat}{n:Nat}: ∀(v u:CV),CV.weak σ n v u->v.shape=u.shape
 |.sc _,u,h=>by cases u<;>simp[CV.weak,CV.shape]at *
 |.agg l,u,h=>by
  cases u<;>simp only[CV.weak]at h<;>(try exact h.elim)
  simp only[CV.shape];rw[CV.weakL_shape l _ h]
 |.tup l,u,h=>by cases u<;>simp[CV.weak,CV.shape]at *
 |.lst _ _,u,h=>by cases u<;>simp[CV.weak,CV.shape]at *
 |.slc _ _ _ _,u,h=>by cases u<;>simp[CV.weak,CV.shape]at *
 |.ptr _ _,u,h=>by cases u<;>simp[CV.weak,CV.shape]at *
 |.rptr _,u,h=>by cases u<;>simp[CV.weak,CV.shape]at *
 |.mapr _,u,h=>by cases u<;>simp[CV.weak,CV.shape]at *
 |.fn _ _ _,u,h=>by cases u<;>simp[CV.weak,CV.shape]at *
 |.ifc _ _,u,h=>by cases u<;>simp[CV.weak,CV.shape]at *
theorem CV.weakL_shape{σ:Nat->Nat}{n:Nat}: ∀(l m:List CV),CV.weakL σ n l m->CV.shapes l=CV.shapes m
 |[],m,h=>by cases m<;>simp[CV.weakL,CV.shapes]at *
 |v::l,m,h=>by
  cases m<;>simp only[CV.weakL]at h<;>try(exact h.elim)
  simp only[CV.shapes];rw[CV.weak_shape v _ h.1,CV.weakL_shape l _ h.2]
end
theorem CV.weak_agg{σ:Nat->Nat}{n:Nat}{v u:CV}(h:CV.weak σ n v u): v.isAgg=u.isAgg:=by
 cases v<;>cases u<;>simp[CV.weak,CV.isAgg]at *
theorem CV.weakL_length{σ:Nat->Nat}{n:Nat}: ∀(l m:List CV),CV.weakL σ n l m->l.length=m.length
 |[],m,h=>by cases m<;>simp[CV.weakL]at *
 |v::l,m,h=>by
  cases m<;>simp only[CV.weakL]at h<;>try(exact h.elim)
  simp[CV.weakL_length l _ h.2]
theorem CV.weakL_sizes{σ:Nat->Nat}{n sz:Nat}: ∀(l m:List CV),CV.weakL σ n l m->(∀x∈l,x.size=sz)->∀x∈m,x.size=sz
 |[],m,h,_=>by cases m<;>simp[CV.weakL]at *
 |v::l,m,h,k=>by
  cases m<;>simp only[CV.weakL]at h<;>try(exact h.elim)
  intro x hx
  rcases List.mem_cons.1 hx with rfl|hx
  ·have:=k v (by simp);simpa[CV.size,CV.weak_shape v _ h.1]using this
  ·exact CV.weakL_sizes l _ h.2 (fun y hy=>k y (by simp[hy])) x hx
structure StRen(σ:Nat->Nat)(n:Nat)(S S':St): Prop where
 K:S'.K=S.K
 μ:∀k,k<n->S'.μ k=S.μ (σ k)
theorem St.lies_ren{σ:Nat->Nat}{n:Nat}{S S':St}(r:StRen σ n S S'){b o:Nat}{cs:List Value}(h:S.lies b o cs): S'.lies b o cs:=fun j u hu=>by rw[r.K];exact h j u hu
mutual
theorem FR.weak{σ:Nat->Nat}{n:Nat}{S S':St}(r:StRen σ n S S'): ∀(v u:CV) (cs:List Value),CV.weak σ n v u->FR S v cs->FR S' u cs
 |.sc a,u,cs,h,k=>by
  cases u<;>simp only[CV.weak]at h<;>(try exact h.elim)
  subst h;simpa[FR]using k
 |.agg l,u,cs,h,k=>by
  cases u<;>simp only[CV.weak]at h<;>try(exact h.elim)
  simp only[FR]at k ⊢;exact FRs.weak r l _ cs h k
 |.tup l,u,cs,h,k=>by
  cases u<;>simp only[CV.weak]at h<;>try(exact h.elim)
  simp only[FR]at k ⊢;obtain⟨vs,e,k⟩:=k;exact⟨vs,e,VRs.weak r l _ vs h k⟩
 |.lst t l,u,cs,h,k=>by
  cases u<;>simp only[CV.weak]at h<;>try(exact h.elim)
  rename_i t' m
  obtain⟨ht,h⟩:=h
  have hlen:=CV.weakL_length l m h
  simp only[FR]at k ⊢
  rcases k with⟨rfl,a0,k1,k2⟩|⟨b,off,cap,sz,es,e,h1,h2,h3,h4,h5⟩
  ·refine .inl ⟨by cases m<;>simp[CV.weakL]at *,a0,?_,k2⟩
   cases t<;>cases t'<;>cases a0<;>simp[Tail.weak,Tail.may]at *
  ·refine .inr ⟨b,off,cap,sz,es,by rw[<- hlen];exact e,by omega,FRs.weak r l m es h h2,St.lies_ren r h3,CV.weakL_sizes l m h h4,?_⟩
   cases t' with
   |view=>trivial
   |part=>trivial
   |nil=>cases t<;>simp[Tail.weak]at ht;exact h5.elim
   |exact=>cases t<;>simp[Tail.weak]at ht;simp only[Tail.fits]at h5 ⊢;omega
   |own j=>
    cases t<;>simp only[Tail.weak]at ht<;>try(exact ht.elim)
    obtain⟨rfl,hj⟩:=ht
    exact⟨by rw[r.μ _ hj];exact h5.1,h5.2⟩
 |.slc i a b c,u,cs,h,k=>by
  cases u<;>simp only[CV.weak]at h<;>try(exact h.elim)
  obtain⟨rfl,hj,rfl,rfl,rfl⟩:=h
  simp only[FR]at k ⊢
  rw[r.μ _ hj];exact k
 |.ptr i a,u,cs,h,k=>by
  cases u<;>simp only[CV.weak]at h<;>try(exact h.elim)
  obtain⟨rfl,hj,rfl⟩:=h
  simp only[FR]at k ⊢
  rw[r.μ _ hj];exact k
 |.rptr v,u,cs,h,k=>by
  cases u<;>simp only[CV.weak]at h<;>try(exact h.elim)
  simp only[FR]at k ⊢
  obtain⟨b,o,es,e,k1,k2⟩:=k
  exact⟨b,o,es,e,FR.weak r v _ es h k1,St.lies_ren r k2⟩
 |.mapr i,u,cs,h,k=>by
  cases u<;>simp only[CV.weak]at h<;>try(exact h.elim)
  obtain⟨rfl,hj⟩:=h
  simp only[FR]at k ⊢
  rw[r.μ _ hj];exact k
 |.fn f a b,u,cs,h,k=>by
  cases u<;>simp only[CV.weak]at h<;>try(exact h.elim)
  obtain⟨rfl,h1,h2⟩:=h
  simp only[FR]at k ⊢
  obtain⟨us,vs,e,k1,k2⟩:=k
  exact⟨us,vs,e,VRs.weak r a _ us h1 k1,VRs.weak r b _ vs h2 k2⟩
 |.ifc t v,u,cs,h,k=>by
  cases u<;>simp only[CV.weak]at h<;>try(exact h.elim)
  obtain⟨rfl,h⟩:=h
  simp only[FR]at k ⊢
  obtain⟨x,e,k,k2⟩:=k
  exact⟨x,e,FR.weak r v _ _ h k,by rw[<- CV.weak_agg h];exact k2⟩
theorem FRs.weak{σ:Nat->Nat}{n:Nat}{S S':St}(r:StRen σ n S S'): ∀(l m:List CV) (cs:List Value),CV.weakL σ n l m->FRs S l cs->FRs S' m cs
 |[],m,cs,h,k=>by
  cases m<;>simp only[CV.weakL]at h<;>(try exact h.elim)
  simpa[FRs]using k
 |v::l,m,cs,h,k=>by
  cases m<;>simp only[CV.weakL]at h<;>try(exact h.elim)
  simp only[FRs]at k ⊢
  obtain⟨c,ds,e,k1,k2⟩:=k
  exact⟨c,ds,e,FR.weak r v _ c h.1 k1,FRs.weak r l _ ds h.2 k2⟩
theorem VRs.weak{σ:Nat->Nat}{n:Nat}{S S':St}(r:StRen σ n S S'): ∀(l m:List CV) (vs:List Value),CV.weakL σ n l m->VRs S l vs->VRs S' m vs
 |[],m,cs,h,k=>by
  cases m<;>simp only[CV.weakL]at h<;>(try exact h.elim)
  simpa[VRs]using k
 |v::l,m,cs,h,k=>by
  cases m<;>simp only[CV.weakL]at h<;>try(exact h.elim)
  simp only[VRs]at k ⊢
  obtain⟨x,xs,e,⟨k1,k2⟩,k3⟩:=k
  exact⟨x,xs,e,⟨FR.weak r v _ _ h.1 k1,by rw[<- CV.weak_agg h.1];exact k2⟩,VRs.weak r l _ xs h.2 k3⟩
end
theorem VR.weak{σ:Nat->Nat}{n:Nat}{S S':St}(r:StRen σ n S S'){v u:CV}{x:Value}(h:CV.weak σ n v u)(k:VR S v x): VR S' u x:=
 ⟨FR.weak r v u _ h k.1,by rw[<- CV.weak_agg h];exact k.2⟩
def XObj.weak(σ:Nat->Nat)(n:Nat): XObj->XObj->Prop
 |.var sh v,.var sh' u=>sh=sh'/\CV.weak σ n v u
 |.tail k,.tail m=>k=m
 |.map l,.map m=>l.length=m.length/\∀(i:Nat) (x y:CV×CV),l[i]?=some x->m[i]?=some y->CV.weak σ n x.1 y.1/\CV.weak σ n x.2 y.2
 |_,_=>False
theorem XObj.weak_refl{σ:Nat->Nat}{n:Nat}{o:XObj}(h:∀j,o.has j->σ j=j/\j<n): XObj.weak σ n o o:=by
 cases o with
 |var sh v=>exact⟨rfl,CV.weak_refl v h⟩
 |tail k=>exact rfl
 |map l=>
  refine⟨rfl,fun i x y h1 h2=>?_⟩
  rw[h1]at h2;cases h2
  have hm:=List.mem_of_getElem? h1
  exact⟨CV.weak_refl _ fun j hj=>h j ⟨x,hm,.inl hj⟩,CV.weak_refl _ fun j hj=>h j ⟨x,hm,.inr hj⟩⟩
structure Shr(p0:Hp)(σ:Nat->Nat)(p q:Hp): Prop where
 n:p0.n<=q.n
 old:∀k,k<p0.n->σ k=k
 inj:∀j k oj ok,q.t.get j=some oj->q.t.get k=some ok->σ j=σ k->j=k
 obj:∀k o,q.t.get k=some o->k<q.n/\((k<p0.n/\p0.t.get k=some o/\p.t.get k=some o)\/∃o',p.t.get (σ k)=some o'/\XObj.weak σ q.n o' o)
theorem Live.has{S:St}{w:World}{o:XObj}{loc:Loc}(h:Live S w o.obj loc){j:Nat}(hj:o.has j): ∃l,S.μ j=some l:=by
 cases o<;>cases loc<;>simp only[XObj.obj,Live]at h<;>try(exact h.elim)
 ·obtain⟨_,⟨arr,e,cs,junk,_,_,_,h3⟩,_⟩:=h
  exact FR.has _ cs h3 hj
 ·exact hj.elim
 ·obtain⟨⟨es,clock,_,h3⟩,_⟩:=h
  obtain⟨x,hx,hj⟩:=hj
  obtain⟨i,hi⟩:=List.getElem?_of_mem hx
  have hlt:=(List.getElem?_eq_some_iff.1 hi).1
  rw[h3.1]at hlt
  have:=h3.2 i x es.toList[i] hi (by simp[hlt])
  rcases hj with hj|hj
  ·exact FR.has _ _ this.1.1 hj
  ·exact FR.has _ _ this.2.1 hj
theorem Live.weak{σ:Nat->Nat}{n:Nat}{S S':St}(r:StRen σ n S S'){w:World}{o o':XObj}{loc:Loc}(h:XObj.weak σ n o o')(k:Live S w o.obj loc): Live S' w o'.obj loc:=by
 cases o<;>cases o'<;>simp only[XObj.weak]at h<;>try(exact h.elim)
 ·obtain⟨rfl,h⟩:=h
  cases loc<;>simp only[XObj.obj,Live]at k ⊢<;>try(exact k.elim)
  obtain⟨k1,⟨arr,e,cs,junk,k2,k3,k4,k5⟩,k6⟩:=k
  exact⟨by rw[<- CV.weak_shape _ _ h];exact k1,⟨arr,e,cs,junk,k2,k3,k4,FR.weak r _ _ _ h k5⟩,by rw[r.K];exact k6⟩
 ·subst h
  cases loc<;>simp only[XObj.obj,Live]at k ⊢<;>try(exact k.elim)
  rw[r.K];exact k
 ·obtain⟨hl,h⟩:=h
  cases loc<;>simp only[XObj.obj,Live]at k ⊢<;>try(exact k.elim)
  obtain⟨⟨es,clock,k1,k2⟩,k3⟩:=k
  refine⟨⟨es,clock,k1,⟨by rw[<- hl];exact k2.1,fun i x e h1 h2=>?_⟩⟩,by rw[r.K];exact k3⟩
  rename_i l m _
  have hlt:=(List.getElem?_eq_some_iff.1 h1).1
  obtain⟨y,hy⟩:∃y,l[i]?=some y:=⟨l[i],by simp[hl,hlt]⟩
  have a:=h i y x hy h1
  have b:=k2.2 i y e hy h2
  exact⟨VR.weak r a.1 b.1,VR.weak r a.2 b.2⟩
theorem XRel.shr{w0:World}{B:Nat}{S S':St}{p0 p q:Hp}{w w':World}{σ:Nat->Nat}(r0:XRel w0 B S p0 w)(hS:S.ext S')(r:XRel w0 B S' p w')(s:Shr p0 σ p q):
  ∃S'',S.ext S''/\XRel w0 B S'' q w'/\StRen σ q.n S' S'':=by
 have hr:StRen σ q.n S' ⟨S'.K,fun k=>if k<q.n then S'.μ (σ k)else none,q.n⟩:=⟨rfl,fun k hk=>if_pos hk⟩
 have hn:=r0.n
 refine⟨⟨S'.K,fun k=>if k<q.n then S'.μ (σ k)else none,q.n⟩,⟨⟨hS.le.K,fun i l h=>?_,by rw[hn];exact s.n⟩,fun i hi h=>?_⟩,⟨⟨r.r.below,r.r.size,r.r.kcell,fun i hi=>⟨if_neg (by simpa using hi),?_⟩,fun i obj loc h1 h2=>?_,fun i j oi oj li lj hij h1 h2 h3 h4=>?_⟩,rfl,fun i sh v h=>?_⟩,hr⟩
 ·have hi:i<p0.n:=by
   rw[<- hn]
   rcases Nat.lt_or_ge i S.n with h1|h1
   ·exact h1
   ·rw[(r0.r.fresh i h1).1]at h;cases h
  show(if i<q.n then S'.μ (σ i)else none)=some l
  rw[if_pos (Nat.lt_of_lt_of_le hi s.n),s.old i hi]
  exact hS.le.μ _ _ h
 ·show(if i<q.n then S'.μ (σ i)else none)=none
  have hi':i<p0.n:=by rw[<- hn];exact hi
  rw[if_pos (Nat.lt_of_lt_of_le hi' s.n),s.old i hi']
  exact hS.ph i hi h
 ·cases hq:q.t.get i with
  |none=>simp[Hp.h,hq]
  |some o=>exact absurd (s.obj i o hq).1 (by simpa using hi)
 ·simp only[Hp.h]at h1
  cases hq:q.t.get i with
  |none=>simp[hq]at h1
  |some o=>
   rw[hq]at h1
   simp only[Option.map_some,Option.some.injEq]at h1
   subst h1
   have h2:(if i<q.n then S'.μ (σ i)else none)=some loc:=h2
   obtain⟨hi,ho⟩:=s.obj i o hq
   rw[if_pos hi]at h2
   rcases ho with⟨hlt,ho0,hop⟩|⟨o',ho',hw⟩
   ·rw[s.old i hlt]at h2
    have hl:=r.r.live i o.obj loc (by simp[Hp.h,hop]) h2
    have hm:∃l,S.μ i=some l:=by
     cases hm:S.μ i with
     |some l=>exact⟨l,rfl⟩
     |none=>rw[hS.ph i (by rw[hn];exact hlt) hm]at h2;cases h2
    obtain⟨l0,hm⟩:=hm
    have hl0:=(r0.r.live i o.obj l0 (by simp[Hp.h,ho0]) hm).1
    refine⟨Live.weak hr (XObj.weak_refl fun j hj=>?_) hl.1,hl.2⟩
    obtain⟨l1,hl1⟩:=Live.has hl0 hj
    have hj':j<p0.n:=by
     rw[<- hn]
     rcases Nat.lt_or_ge j S.n with h1|h1
     ·exact h1
     ·rw[(r0.r.fresh j h1).1]at hl1;cases hl1
    exact⟨s.old j hj',Nat.lt_of_lt_of_le hj' s.n⟩
   ·have hl:=r.r.live (σ i) o'.obj loc (by simp[Hp.h,ho']) h2
    exact⟨Live.weak hr hw hl.1,hl.2⟩
 ·simp only[Hp.h]at h1 h2
  cases hqi:q.t.get i with
  |none=>simp[hqi]at h1
  |some oi'=>
   cases hqj:q.t.get j with
   |none=>simp[hqj]at h2
   |some oj'=>
    have h3:(if i<q.n then S'.μ (σ i)else none)=some li:=h3
    have h4:(if j<q.n then S'.μ (σ j)else none)=some lj:=h4
    obtain⟨hi,hoi⟩:=s.obj i oi' hqi
    obtain⟨hj,hoj⟩:=s.obj j oj' hqj
    rw[if_pos hi]at h3
    rw[if_pos hj]at h4
    have ki:∃o,p.t.get (σ i)=some o:=by
     rcases hoi with⟨hlt,_,hop⟩|⟨o',ho',_⟩
     ·exact⟨_,by rw[s.old i hlt];exact hop⟩
     ·exact⟨_,ho'⟩
    have kj:∃o,p.t.get (σ j)=some o:=by
     rcases hoj with⟨hlt,_,hop⟩|⟨o',ho',_⟩
     ·exact⟨_,by rw[s.old j hlt];exact hop⟩
     ·exact⟨_,ho'⟩
    obtain⟨a,ha⟩:=ki
    obtain⟨b,hb⟩:=kj
    exact r.r.inj (σ i) (σ j) a.obj b.obj li lj (fun e=>hij (s.inj i j _ _ hqi hqj e)) (by simp[Hp.h,ha]) (by simp[Hp.h,hb]) h3 h4
 ·obtain⟨hi,ho⟩:=s.obj i _ h
  rcases ho with⟨hlt,ho0,hop⟩|⟨o',ho',hw⟩
  ·exact r.good i sh v hop
  ·cases o'<;>simp only[XObj.weak]at hw<;>try(exact hw.elim)
   obtain⟨rfl,hw⟩:=hw
   rw[<- CV.weak_shape _ _ hw]
   exact r.good _ _ _ ho'
def ShrR(p0:Hp): XRes->XRes->Prop
 |.ret v p,.ret u q=>∃σ,Shr p0 σ p q/\CV.weak σ q.n v u
 |.pan v p,.pan u q=>∃σ,Shr p0 σ p q/\CV.weak σ q.n v u
 |_,_=>False
section
variable (C:Ctx)
def AnsAt(f:FuncId)(args:List CV)(p:Hp)(r:XRes): Prop:=
 (∃fn,C.P.funcs[f]?=some fn/\fn.body.isNone=false/\(fn.name == "runtime.NumGoroutine")=false) /\
 ∀(w0:World) (B:Nat) (S:St) (w:World) (vals:List Value),XRel w0 B S p w->VRs S args vals->Ans C w0 B S f vals w r
theorem Ans.shr{w0:World}{B:Nat}{S:St}{p0:Hp}{f:FuncId}{vals:List Value}{w:World}{a b:XRes}(r0:XRel w0 B S p0 w)(h:Ans C w0 B S f vals w a)(e:ShrR p0 a b): Ans C w0 B S f vals w b:=by
 cases a<;>cases b<;>simp only[ShrR]at e<;>try(exact e.elim)
 ·obtain⟨σ,s,hv⟩:=e
  refine Calls.mono h fun en w' ⟨S',x,k1,k2,k3,k4⟩=>?_
  obtain⟨S'',h1,h2,h3⟩:=XRel.shr r0 k1 k2 s
  exact⟨S'',x,h1,h2,VR.weak h3 hv k3,k4⟩
 ·obtain⟨σ,s,hv⟩:=e
  refine Calls.mono h fun en w' ⟨S',x,k1,k2,k3,k4⟩=>?_
  obtain⟨S'',h1,h2,h3⟩:=XRel.shr r0 k1 k2 s
  exact⟨S'',x,h1,h2,VR.weak h3 hv k3,k4⟩
inductive Rch(args:List CV)(p:Hp): Nat->Prop
 |arg {a:CV} {j:Nat} (ha:a∈args) (hj:a.has j):Rch args p j
 |step {i j:Nat} {o:XObj} (hi:Rch args p i) (ho:p.t.get i=some o) (hj:o.has j):Rch args p j
structure Fine(args:List CV)(p:Hp): Prop where
 good:p.good
 dom:∀i o,p.t.get i=some o->i<p.n
 rch:∀j,Rch args p j->j<p.n
theorem Fine.lt_arg{args:List CV}{p:Hp}(h:Fine args p){a:CV}(ha:a∈args): a.lt p.n:=fun _ hj=>h.rch _ (.arg ha hj)
theorem Fine.lt_obj{args:List CV}{p:Hp}(h:Fine args p){i:Nat}(hi:Rch args p i){o:XObj}(ho:p.t.get i=some o): o.lt p.n:=fun _ hj=>h.rch _ (.step hi ho hj)
theorem fine_of{w0:World}{B:Nat}{S:St}{p:Hp}{w:World}{args:List CV}{vals:List Value}(r:XRel w0 B S p w)(hV:VRs S args vals): Fine args p:=by
 have key:∀j,(∃l,S.μ j=some l)->j<p.n:=fun j ⟨l,hl⟩=>by
  rw[<- r.n]
  rcases Nat.lt_or_ge j S.n with h1|h1
  ·exact h1
  ·rw[(r.r.fresh j h1).1]at hl;cases hl
 refine⟨r.good,fun i o h=>?_,fun j h=>key j ?_⟩
 ·rw[<- r.n]
  rcases Nat.lt_or_ge i S.n with h1|h1
  ·exact h1
  ·have:=(r.r.fresh i h1).2;simp[Hp.h,h]at this
 ·induction h with
  |arg ha hj=>exact VRs.has args vals hV (CV.hasL_iff.2 ⟨_,ha,hj⟩)
  |step hi ho hj ih=>
   obtain⟨l,hl⟩:=ih
   exact Live.has (r.r.live _ _ l (by simp[Hp.h,ho]) hl).1 hj
abbrev Rel:=List CV->Hp->XRes->Prop
open Classical in
noncomputable def relCall(f:FuncId)(R:Rel): List CV->Hp->XRes:=fun args p=>if h:∃r,R args p r/\AnsAt C f args p r then Classical.choose h else .stuck
noncomputable def tabL: List (FuncId×Rel)->XCall
 |[]=>noCall
 |(f,R)::l=>fun g args p=>bif Nat.beq g f then fnext (relCall C f R args p) (tabL l g args p)else tabL l g args p
theorem Q0r: ∀l,CallOk C (tabL C l)
 |[]=>noCall_ok C
 |(f,R)::l=>by
  intro g args p
  show match(bif Nat.beq g f then fnext (relCall C f R args p) (tabL C l g args p)else tabL C l g args p) with
   |.ret v p'=>_
   |.pan v p'=>_
   |.stuck=>True
  cases hb:Nat.beq g f with
  |false=>exact Q0r l g args p
  |true=>
   have:=Nat.eq_of_beq_eq_true hb
   subst this
   simp only[cond_true]
   by_cases h:∃r,R args p r/\AnsAt C g args p r
   ·have hr:relCall C g R args p=Classical.choose h:=dif_pos h
    obtain⟨h1,h2⟩:=Classical.choose_spec h
    rw[hr]
    obtain⟨h3,h4⟩:=h2
    cases hc:Classical.choose h with
    |stuck=>exact Q0r l g args p
    |ret v q=>rw[hc]at h4;exact⟨h3,fun w0 B S w vals r hV=>h4 w0 B S w vals r hV⟩
    |pan v q=>rw[hc]at h4;exact⟨h3,fun w0 B S w vals r hV=>h4 w0 B S w vals r hV⟩
   ·have hr:relCall C g R args p=.stuck:=dif_neg h
    rw[hr]
    exact Q0r l g args p
def Has(T:XCall)(f:FuncId)(R:Rel): Prop:=∀args p r,R args p r->T f args p=r
structure Con(f:FuncId)(R:Rel): Prop where
 un:∀args p r r',R args p r->R args p r'->r=r'
 ok:∀args p r,R args p r->r≠.stuck/\AnsAt C f args p r
theorem Q0s{f:FuncId}{R:Rel}(h:Con C f R)(l:List (FuncId×Rel)): Has (tabL C ((f,R)::l)) f R:=by
 intro args p r hr
 show(bif Nat.beq f f then fnext (relCall C f R args p) (tabL C l f args p)else tabL C l f args p)=r
 simp only[Nat.beq_refl,cond_true]
 have hex:∃r,R args p r/\AnsAt C f args p r:=⟨r,hr,(h.ok _ _ _ hr).2⟩
 have hrc:relCall C f R args p=Classical.choose hex:=dif_pos hex
 have hc:relCall C f R args p=r:=by rw[hrc];exact h.un _ _ _ _ (Classical.choose_spec hex).1 hr
 rw[hc]
 cases r with
 |stuck=>exact absurd rfl (h.ok _ _ _ hr).1
 |ret v q=>rfl
 |pan v q=>rfl
theorem Q0n{f g:FuncId}{R R':Rel}(l:List (FuncId×Rel))(hfg:Nat.beq f g=false)(h:Has (tabL C l) f R): Has (tabL C ((g,R')::l)) f R:=by
 intro args p r hr
 show(bif Nat.beq f g then fnext (relCall C g R' args p) (tabL C l f args p)else tabL C l f args p)=r
 rw[hfg]
 exact h args p r hr
def argE(args:List CV): Env:=fun t=>(args[t]?).getD (.tup [])
theorem argE_eq(args:List CV): (putAll 0 args .e).at=argE args:=by
 funext t
 rw[Y1g]
 unfold argE
 by_cases h:t<args.length
 ·rw[if_pos ⟨Nat.zero_le _,by omega⟩];simp
 ·rw[if_neg (by omega),List.getElem?_eq_none (by omega)]
  rfl
noncomputable def zres(ρ:Env)(p:Hp): List ResultVar->Option (List CV)
 |[]=>some []
 |.tmp t::l=>match zres ρ p l with
  |some vs=>some (ρ t::vs)
  |none=>none
 |.cell a t::l=>match xload C p t (ρ a),zres ρ p l with
  |some v,some vs=>some (v::vs)
  |_,_=>none
theorem Y1v(env:XEnv)(p:Hp): ∀l,xres C env p l=zres C env.at p l
 |[]=>rfl
 |.tmp t::l=>by simp only[xres,zres,Y1v env p l]<;>rfl
 |.cell a t::l=>by simp only[xres,zres,Y1v env p l]<;>rfl
def finW(o:Option (List CV))(p:Hp)(K:XRes->Prop): Prop:=
 match o with
 |some l=>K (.ret (pack l) p)
 |none=>False
noncomputable def endQ(rs:List ResultVar)(K:XRes->Prop): ZQ:=fun e ρ p=>match e with
 |.normal=>finW (zres C ρ p rs) p K
 |.ret=>finW (zres C ρ p rs) p K
 |.pan v=>K (.pan v p)
 |.panU v=>K (.pan v p)
 |.exit _=>False
end
end Go.Cl
end
section
namespace Go.Cl
open Go.RowKit
def ChkP(C:Ctx)(mu:Bool)(ext:FuncId->List CV->Option CV)(call:XCall)(A:List Nat)(n0:Nat)(fl:List Bool)(hs:List Hp)(i:Nat)(o:Oper)(x:Ent): Prop:=
 x.wanted=true->match kindOf o.op with
  |.eff=>True
  |.quiet=>∀e q,hs[e]?=some q->(cntF fl 0 fun j=>bef A i j)<=e->e<=(cntF fl 0 fun j=>!bef A j i)->xop C mu ext call x.env q o.op=.ret x.v q
  |.alloc=>∀e q,hs[e]?=some q->(cntF fl 0 fun j=>bef A i j)<=e->e<=(cntF fl 0 fun j=>!bef A j i)->∃ob,q.t.get (n0+i)=some ob/\allocObj C o.op=some ob
section
variable (C:Ctx)
variable {ext:FuncId->List CV->Option CV} {call:XCall} {mu:Bool} {w0:World} {B:Nat} {ops:List Oper} {ds:List Deferred} {n:Nat} {S0:St} {n0:Nat} {es:List Ent} {hs:List Hp} {env0:Env}
theorem any_p(hext:ExtOk C ext)(hcall:CallOk C call)(hok:ops.all (okOper n)=true)(hlow:lowB ops=true)(hch:chainB ops (ancs ops [])=true)(hcf:conflB ops (ancs ops [])=true)(hn0:S0.n=n0)
  (hrun:∀j o x,ops[j]?=some o->es[j]?=some x->∃q q',hs[cntF (flags ops es) 0 (fun k=>Nat.blt k j)]?=some q/\(isEff o x=true->hs[cntF (flags ops es) 0 (fun k=>Nat.blt k j)+1]?=some q')/\EntOk C mu ext call ops n0 o j x q q')
  (hpre:∀j x,es[j]?=some x->x.env.at=preE ops es env0 j) (hlen:es.length<=ops.length)
  (hchk:∀j o x,ops[j]?=some o->es[j]?=some x->ChkP C mu ext call (ancs ops []) n0 (flags ops es) hs j o x) {fin:Fin} (hfin:FinOk C mu ext call ops es hs env0 fin) {Q':Exit->Act->World->Prop} (hQ:FinPost w0 B S0 n ds hs (cntF (flags ops es) 0 (fun _=>true)) Q' fin):
  ∀(fuel:Nat) (listed:Array Bool) (S:St) (a:Act) (w:World),ops.length<=fuel+cntF (List.replicate ops.length true) 0 (fun k=>listed.getD k false)->XInv w0 B ops ds n S0 n0 es hs env0 listed S a w->wpAny C.P .any ops.toArray Q' fuel listed a w:=by
 -- all is listed
 have fini:∀(listed:Array Bool) (S:St) (a:Act) (w:World),(∀j,j<ops.length->listed.getD j false=true)->XInv w0 B ops ds n S0 n0 es hs env0 listed S a w->Q' .normal a w:=by
  intro listed S a w hall I
  cases fin with
  |pan v p=>
   obtain⟨o,x,q,ho,_⟩:=hfin
   have h1:=(List.getElem?_eq_some_iff.1 ho).1
   have:=I.low _ (hall _ h1)
   omega
  |done env=>
   obtain⟨h1,h2⟩:=hfin
   obtain⟨q,hq,r⟩:=I.r
   have hc:cntF (flags ops es) 0 (fun k=>listed.getD k false)=cntF (flags ops es) 0 (fun _=>true):=Z0i _ 0 fun k hk=>by
    obtain⟨o,x,ho,_⟩:=K0k hk
    rw[Nat.zero_add];exact hall k (List.getElem?_eq_some_iff.1 ho).1
   rw[hc]at hq
   refine hQ q hq _ _ _ ⟨S,I.ext,r,fun _=>?_,I.tn,I.td,trivial⟩
   have he:env.at=lstE (fun k=>listed.getD k false) ops es 0 env0:=by
    rw[h2,X01 ops es 0 env0]
    funext t
    refine K0t ops es 0 env0 env0 rfl fun j o ho _ _=>?_
    have hj:=(List.getElem?_eq_some_iff.1 ho).1
    rw[Nat.zero_add,hall j hj]
    exact Q0x (by omega)
   rw[he];exact I.er
 have full:∀(listed:Array Bool),ops.length<=cntF (List.replicate ops.length true) 0 (fun k=>listed.getD k false)->∀j,j<ops.length->listed.getD j false=true:=by
  intro listed h j hj
  cases hv:listed.getD j false with
  |true=>rfl
  |false=>
   have h1:=Q0v (P:=fun k=>listed.getD k false) (x:=j) (List.replicate ops.length true) 0 (Nat.zero_le _) hv (by simp[hj])
   have h2:=cntF_le (List.replicate ops.length true) 0 (fun k=>listed.getD k false || Nat.beq k j)
   rw[List.length_replicate]at h2
   omega
 intro fuel
 induction fuel with
 |zero=>
  intro listed S a w hf I
  have hall:=full listed (by omega)
  refine⟨?_,fini listed S a w hall I⟩
  unfold Region.ready
  rw[List.filter_eq_nil_iff]
  intro i hi
  have hi:i<ops.length:=by simpa using hi
  have:=hall i hi
  have hs':i<listed.size:=by rw[I.down.size];exact hi
  simp[hs']at this
  simp[hs',this]
 |succ fuel ih=>
  intro listed S a w hf I
  refine⟨fun hr=>fini listed S a w (all_done hlow I.down hr) I,fun i hi=>?_⟩
  obtain⟨hiu,oi,hoi,hall⟩:=mem_ready.1 hi
  have hoi':ops[i]?=some oi:=by simpa using hoi
  have hil:i<ops.length:=(List.getElem?_eq_some_iff.1 hoi').1
  obtain⟨hun,hls⟩:=Q1n hiu
  obtain⟨look,up,dn,eff⟩:=Q0u hlow hch hcf I.down hoi' hun hall
  have hcnt:ops.length<=fuel+cntF (List.replicate ops.length true) 0 (fun k=>(listed.setIfInBounds i true).getD k false):=by
   rw[X09 hls,Q0v (P:=fun k=>listed.getD k false) (x:=i) _ 0 (Nat.zero_le _) hun (by simp[hil])]
   omega
  obtain⟨q,hq,r⟩:=I.r
  unfold wpOp
  simp only[List.getElem?_toArray,hoi']
  -- what changes the heap: those ahead of it are done,no other one
  have ecnt:kindOf oi.op=.eff->cntF (flags ops es) 0 (fun k=>listed.getD k false)=cntF (flags ops es) 0 (fun k=>Nat.blt k i):=fun hk=>Z0i _ 0 fun k hkf=>by
   obtain⟨o,x,ho,hx,he⟩:=K0k hkf
   rw[Nat.zero_add]
   by_cases e:k=i
   ·subst e
    rw[hun]
    cases hb:Nat.blt k k with
    |false=>rfl
    |true=>have:=X0w hb;omega
   ·exact eff hk k o ho (Q0j he).1 e
  rcases Nat.lt_trichotomy i es.length with hlt|heq|hgt
  ·-- one that the run came by
   have hx:es[i]?=some es[i]:=by simp[hlt]
   obtain⟨q1,q1',hq1,hq1',E⟩:=hrun i oi _ hoi' hx
   have hc:=hchk i oi _ hoi' hx
   obtain⟨s1,s2⟩:=I.sees hlow hch hcf hok hoi' (hpre i _ hx) hun hall
   rw[Y0n s2 E.want]
   have bnd:∀(P:Nat->Bool),(∀k,bef (ancs ops []) i k=true->P k=true)->(∀k o,ops[k]?=some o->P k=true->bef (ancs ops []) k i=false)->
     (cntF (flags ops es) 0 fun j=>bef (ancs ops []) i j)<=cntF (flags ops es) 0 P/\cntF (flags ops es) 0 P<=cntF (flags ops es) 0 fun j=>!bef (ancs ops []) j i:=fun P h1 h2=>
    ⟨K0n _ 0 fun k hk hp=>by rw[Nat.zero_add]at hp ⊢;exact h1 k hp,K0n _ 0 fun k hk hp=>by
     obtain⟨o,x,ho,_⟩:=K0k hk
     rw[Nat.zero_add]at hp ⊢
     rw[h2 k o ho hp];rfl⟩
   have hbL:=bnd (fun k=>listed.getD k false) up (fun k o ho hp=>by
    cases hb:bef (ancs ops []) k i with
    |false=>rfl
    |true=>rw[dn k o ho hb]at hp;cases hp)
   have hbI:=bnd (fun k=>Nat.blt k i) (fun k hb=>Q0x (bef_lt hlow i k hil hb)) (fun k o ho hp=>by
    cases hb:bef (ancs ops []) k i with
    |false=>rfl
    |true=>
     have h1:=bef_lt hlow k i (List.getElem?_eq_some_iff.1 ho).1 hb
     have h2:=X0w hp
     omega)
   cases hw:es[i].wanted with
   |false=>
    simp only[Bool.false_eq_true,if_false]
    refine ih _ S _ _ hcnt (I.next hlow hch hcf hoi' hx hun hall (St.le.refl S) I.ext (q':=q) (by
     have:isEff oi es[i]=false:=by unfold isEff;split<;>first|exact hw|rfl
     rw[this];simpa using hq) r (by rw[E.off hw];exact V0p) fun j o ho hk _ hj=>I.free j o ho hk hj)
   |true=>
    simp only[if_true]
    left
    cases hk:kindOf oi.op with
    |quiet=>
     have hop:=(by have:=hc hw;rw[hk]at this;exact this _ _ hq hbL.1 hbL.2:xop C mu ext call es[i].env q oi.op=.ret es[i].v q)
     have hg:=Q0p C hext hcall (mu:=mu) r (o:=oi) (a:=a) (env:=es[i].env) s1
     rw[hop]at hg
     refine hg _ _ fun S' x w' k1 k2 k3=>ih _ S' _ _ hcnt (I.next hlow hch hcf hoi' hx hun hall k1.le (I.ext.trans k1) (q':=q) (by
      have:isEff oi es[i]=false:=by unfold isEff;rw[hk]
      rw[this];simpa using hq) k2 k3 fun j o ho hk' _ hj=>k1.ph _ (by have:=I.sn;have:=(List.getElem?_eq_some_iff.1 ho).1;omega) (I.free j o ho hk' hj))
    |eff=>
     rw[ecnt hk]at hq
     have hqq:q1=q:=by rw[hq]at hq1;exact(Option.some.inj hq1).symm
     subst hqq
     have he:isEff oi es[i]=true:=by unfold isEff;rw[hk];exact hw
     have hop:=E.eff hw hk
     have hg:=Q0p C hext hcall (mu:=mu) r (o:=oi) (a:=a) (env:=es[i].env) s1
     rw[hop]at hg
     refine hg _ _ fun S' x w' k1 k2 k3=>ih _ S' _ _ hcnt (I.next hlow hch hcf hoi' hx hun hall k1.le (I.ext.trans k1) (q':=q1') (by
      rw[he,ecnt hk];exact hq1' he) k2 k3 fun j o ho hk' _ hj=>k1.ph _ (by have:=I.sn;have:=(List.getElem?_eq_some_iff.1 ho).1;omega) (I.free j o ho hk' hj))
    |alloc=>
     have hobj:∃ob,q.t.get (n0+i)=some ob/\allocObj C oi.op=some ob:=by
      have:=hc hw
      rw[hk]at this
      exact this _ _ hq hbL.1 hbL.2
     obtain⟨ob,hget,hob⟩:=hobj
     have hfree:=I.free i oi hoi' hk hun
     have hsn:=I.sn
     have hev:isEff oi es[i]=false:=by unfold isEff;rw[hk]
     have hv:=E.alloc hw hk
     have nxt:∀(l:Loc) (y:Value) (w':World),R w0 B (S.named (n0+i) l) q.h w'->VR (S.named (n0+i) l) (allocV oi.op (n0+i)) y->wpAny C.P .any ops.toArray Q' fuel (listed.setIfInBounds i true) (a.put oi.dst y) w':=fun l y w' hR hV=>by
      refine ih _ (S.named (n0+i) l) _ _ hcnt (I.next hlow hch hcf hoi' hx hun hall (St.le_named hfree) ⟨I.ext.le.trans (St.le_named hfree),fun k hk' hk0=>?_⟩ (q':=q) (by rw[hev];simpa using hq) ⟨hR,?_,r.good⟩ (by rw[hv];exact hV) fun j o ho hk' hji hj=>?_)
      ·rw[St.named_ne (by omega)];exact I.ext.ph k hk' hk0
      ·show max S.n (n0+i+1)=q.n
       have:=r.n
       omega
      ·rw[St.named_ne (by omega)];exact I.free j o ho hk' hj
     obtain⟨dst,op,ty,pos,aft,gd⟩:=oi
     simp only at hk hob hv nxt ⊢
     cases op<;>simp only[kindOf]at hk<;>try(cases hk;done)
     ·rename_i t
      unfold allocObj at hob
      simp only at hob
      split at hob<;>try(cases hob;done)
      rename_i ti hti
      cases hob
      obtain⟨z,hz,hfz⟩:=zero_FR C (S:=S) (C.htt _ _ hti)
      have hR:=r.r.alloc (h':=q.h) (e:=t) (arr:=z.cells) hfree hfz (get_h hget) (fun _ _=>rfl)
      unfold Oper.wp
      have hrun:(execOp a.eval ⟨dst,.alloc t,ty,pos,aft,gd⟩).run C.P w=.ok (.value (.pointer (some ⟨w.heap.size,0,none⟩))) (w.alloc (.cells z.cells t)):=by
       simp[execOp,Instr.alloc,hz,Z0x]
      rw[hrun]
      refine nxt _ _ _ hR ?_
      rw[V0d rfl];simp only[FR,allocV]
      exact⟨⟨_,_,0,rfl,⟨_,St.named_μ⟩,by cases ti.zero.shape<;>rfl⟩,by simp⟩
     ·rename_i t res
      cases res with
      |some v=>simp[isNoneB]at hk
      |none=>
       unfold allocObj at hob
       simp only[Option.some.injEq]at hob
       subst hob
       have hR:=R.newMapAt r.r hfree (Y00 hget)
       unfold Oper.wp
       have hrun:(execOp a.eval ⟨dst,.makeMap t none,ty,pos,aft,gd⟩).run C.P w=.ok (.value (.map (some w.heap.size))) (w.alloc (.map #[] 0)):=by
        simp[execOp,Instr.makeMap,newObj]
        rfl
       rw[hrun]
       refine nxt _ _ _ hR ?_
       rw[V0d rfl];simp only[FR,allocV]
       exact⟨⟨_,rfl,St.named_μ⟩,by simp⟩
     ·rename_i t l c
      obtain⟨e,sh,by_,ze,n,te,h1,hcl,h2,hnz,hby,rfl⟩:=K0u C hob
      obtain⟨rfl,rfl,h0,hn⟩:=V00 hcl
      have hte:=C.htt _ _ h2
      obtain⟨ii,z,hi,hisz,hbytes,hz,hfz⟩:=hte.info
      have hFz:FR S te.zero z.cells.toList:=V0k _ _ hfz
      have hzs:z.cells.size=te.sh.size:=by rw[<- Array.length_toList,FR.length _ _ hFz,CV.size,hte.zsh]
      have hrun0:=Z0p (w:=w) (n:=(n:Int)) (C.htt _ _ h1).d.1 hi hz (by rw[hisz,hzs]) (by omega) (by omega) (by rw[hbytes,Int.toNat_natCast];exact hby)
      rw[Int.toNat_natCast]at hrun0
      have hsh:CV.shape (.agg (List.replicate n te.zero))=.n (List.replicate n te.sh):=by
       rw[CV.shape,CV.shapes_eq,List.map_replicate,hte.zsh]
      have hR:=r.r.alloc (h':=q.h) (e:=e) (v:=.agg (List.replicate n te.zero)) (arr:=(List.replicate n z.cells.toList).flatten.toArray) hfree (by simp only[FR];simpa using Y0i hFz n) (get_h hget) (fun _ _=>rfl)
      unfold Oper.wp
      have hrun:(execOp a.eval ⟨dst,.makeSlice t (.const (.int .i64 n)) (.const (.int .i64 n)),ty,pos,aft,gd⟩).run C.P w=.ok (.value (.slice (some ⟨w.heap.size,0,none⟩) n n)) (w.alloc (.cells (List.replicate n z.cells.toList).flatten.toArray e)):=by
       simp only[execOp,Act.eval,Sem.run_bind,hrun0,Result.andThen_ok,Sem.run_pure]
      rw[hrun]
      refine nxt _ _ _ hR ?_
      rw[V0d rfl];simp only[FR,allocV,hcl,Option.getD_some]
      refine⟨⟨w.heap.size,_,CV.shapes (List.replicate n te.zero),0,n,by simp[Shape.sizes],⟨_,St.named_μ,fun _ _=>⟨by simp[CV.shapes_eq],te.sh.size,fun x hx=>?_,?_⟩⟩,by simp[CV.shape,Shape.sub],by simp[CV.shape,Shape.off],Nat.le_refl _,?_⟩,by simp⟩
      ·rw[CV.shapes_eq,List.map_replicate]at hx
       rw[List.eq_of_mem_replicate hx,hte.zsh]
      ·have hl:=FR.length _ _ hFz
       rw[CV.size,hte.zsh]at hl
       simp[hl]
      ·simp[CV.shapes_eq]
     ·rename_i c
      obtain⟨callee,args,ts⟩:=c
      cases callee with
      |value f=>simp at hk
      |invoke x m=>simp at hk
      |builtin b=>cases b<;>simp at hk
  ·-- the one that panics
   cases fin with
   |done env=>have:=hfin.1;omega
   |pan v p=>
    obtain⟨o,x,q2,ho,hk,hwant,henv,hq2,hop,haft⟩:=hfin
    rw[<- heq]at ho henv haft
    rw[hoi']at ho;cases ho
    obtain⟨s1,s2⟩:=I.sees hlow hch hcf hok hoi' henv hun hall
    rw[Y0n s2 hwant]
    simp only[if_true]
    left
    have hc:cntF (flags ops es) 0 (fun k=>listed.getD k false)=cntF (flags ops es) 0 (fun _=>true):=Z0i _ 0 fun k hkf=>by
     obtain⟨o',x',ho',hx',he'⟩:=K0k hkf
     have hkl:=(List.getElem?_eq_some_iff.1 hx').1
     rw[Nat.zero_add,eff hk k o' ho' (Q0j he').1 (by omega)]
     exact Q0x (by omega)
    rw[hc]at hq
    have hqq:q2=q:=by rw[hq]at hq2;exact(Option.some.inj hq2).symm
    subst hqq
    have hg:=Q0p C hext hcall (mu:=mu) r (o:=oi) (a:=a) (env:=x) s1
    rw[hop]at hg
    exact hg _ _ fun S' y w' k1 k2 k3=>hQ x _ _ _ ⟨S',I.ext.trans k1,k2,fun hu=>absurd rfl (hu v),I.tn,I.td,⟨y,rfl,k3⟩⟩
  ·-- behind the one that panics: it waits
   exfalso
   cases fin with
   |done env=>have:=hfin.1;omega
   |pan v p=>
    obtain⟨o,x,q2,ho,hk,hwant,henv,hq2,hop,haft⟩:=hfin
    have:=up es.length (haft i hgt hil)
    have:=I.low _ this
    omega
end
def DrawP(C:Ctx)(mu:Bool)(ext:FuncId->List CV->Option CV)(call:XCall)(w0:World)(B:Nat)(id:Nat)(ops:Array Oper)(ds:List Deferred)(n:Nat)(S:St)(env:XEnv)(p:Hp)(a:Act)(w:World)(t:XTR): Prop:=
 match t with
 |.done env1 es hs=>(∀j o x,ops.toList[j]?=some o->es[j]?=some x->ChkP C mu ext call (ancs ops.toList []) p.n (flags ops.toList es) hs j o x)->∀q,hs.getLast?=some q->(Code.region id ops true).wp C.P (XPost w0 B S n ds .normal env1 q) a w
 |.pan v q es hs=>(∀j o x,ops.toList[j]?=some o->es[j]?=some x->ChkP C mu ext call (ancs ops.toList []) p.n (flags ops.toList es) hs j o x)->(Code.region id ops true).wp C.P (XPost w0 B S n ds (.panU v) env q) a w
 |.stuck=>True
section
variable (C:Ctx)
theorem draw_p{ext:FuncId->List CV->Option CV}{call:XCall}(hext:ExtOk C ext)(hcall:CallOk C call){mu:Bool}{w0:World}{B:Nat}{id:Nat}{ops:Array Oper}{ds:List Deferred}{n:Nat}{S:St}{env:XEnv}{p:Hp}{a:Act}{w:World}
 (hst:drawStat ops.toList (ancs ops.toList [])=true) (hok:ops.toList.all (okOper n)=true) (r:XRel w0 B S p w) (he:ER S env.at a.tmps) (hn:a.tmps.size=n) (hd:a.defers=ds)
 {t:XTR} (ht:xtr C mu ext call ops.toList (ancs ops.toList []) p.n ops.toList 0 env (layA C p.n ops.toList 0 ⟨p.n+ops.toList.length,p.t⟩)=t):
 DrawP C mu ext call w0 B id ops ds n S env p a w t:=by
 unfold DrawP
 simp only[drawStat,Bool.and_eq_true]at hst
 obtain⟨⟨hlow,hch⟩,hcf⟩:=hst
 have hrk:=X07 C (mu:=mu) (ext:=ext) (call:=call) (ops:=ops.toList) (A:=ancs ops.toList []) (n0:=p.n) ops.toList 0 env (layA C p.n ops.toList 0 ⟨p.n+ops.toList.length,p.t⟩)
 obtain⟨g1,g2,g3⟩:=Z1c C (n0:=p.n) ops.toList 0 ⟨p.n+ops.toList.length,p.t⟩ r.good
 let S1:St:={S with n:=S.n+ops.toList.length}
 have hext1:S.ext S1:=⟨⟨fun _ _ _ h=>h,fun _ _ h=>h,Nat.le_add_right _ _⟩,fun _ _ h=>h⟩
 have hlt:∀i loc,S.μ i=some loc->i<p.n:=fun i loc hi=>by
  rw[<- r.n]
  rcases Nat.lt_or_ge i S.n with h|h
  ·exact h
  ·rw[(r.r.fresh i h).1]at hi;cases hi
 have hsame:∀k,(k<p.n\/p.n+ops.toList.length<=k)->(layA C p.n ops.toList 0 ⟨p.n+ops.toList.length,p.t⟩).h k=p.h k:=fun k hk=>by
  rw[g3 k (by omega)];rfl
 have r1:XRel w0 B S1 (layA C p.n ops.toList 0 ⟨p.n+ops.toList.length,p.t⟩) w:=by
  refine⟨⟨r.r.below,r.r.size,r.r.kcell,fun i hi=>?_,fun i obj loc k1 k2=>?_,fun i j oi oj li lj hij k1 k2 k3 k4=>?_⟩,by rw[g2];show S.n+_=p.n+_;rw[r.n],g1⟩
  ·have hi:S.n+ops.toList.length<=i:=hi
   have hpn:=r.n
   exact⟨(r.r.fresh i (by omega)).1,by rw[hsame i (by omega)];exact(r.r.fresh i (by omega)).2⟩
  ·have:=hlt i loc k2
   rw[hsame i (.inl this)]at k1
   have k:=r.r.live i obj loc k1 k2
   exact⟨k.1.mono hext1.le rfl (fun _ h=>h),k.2⟩
  ·have a1:=hlt i li k3
   have a2:=hlt j lj k4
   rw[hsame i (.inl a1)]at k1
   rw[hsame j (.inl a2)]at k2
   exact r.r.inj i j oi oj li lj hij k1 k2 k3 k4
 have wpr:∀(Q':Exit->Act->World->Prop),wpAny C.P .any ops Q' ops.size (Array.replicate ops.size false) a {w with drawn:=w.drawn+1}->(Code.region id ops true).wp C.P Q' a w:=fun Q' h=>wp_region_any C.mixed h
 have hops:ops.toList.toArray=ops:=by simp
 have hlen0:∀j,(Array.replicate ops.size false).getD j false=false:=fun j=>by
  simp only[Array.getD_eq_getD_getElem?,Array.getElem?_replicate]
  split<;>rfl
 have fin:∀(es:List Ent) (hs:List Hp) (fn:Fin) (Q':Exit->Act->World->Prop),RunOk C mu ext call ops.toList p.n ops.toList 0 env (layA C p.n ops.toList 0 ⟨p.n+ops.toList.length,p.t⟩) es hs->(∀j o x,ops.toList[j]?=some o->es[j]?=some x->ChkP C mu ext call (ancs ops.toList []) p.n (flags ops.toList es) hs j o x)->
   FinOk C mu ext call ops.toList es hs env.at fn->FinPost w0 B S n ds hs (cntF (flags ops.toList es) 0 (fun _=>true)) Q' fn->wpAny C.P .any ops Q' ops.size (Array.replicate ops.size false) a {w with drawn:=w.drawn+1}:=by
  intro es hs fn Q' hrun hchk hfin hQ
  have hwp:=any_p C hext hcall hok hlow hch hcf (S0:=S) (n0:=p.n) r.n (fun j o x h1 h2=>by
   obtain⟨q,q',k1,k2,k3⟩:=hrun.ent j o x h1 h2
   rw[Nat.zero_add]at k3
   exact⟨q,q',k1,k2,k3⟩) hrun.pre hrun.len hchk hfin hQ ops.size (Array.replicate ops.size false) S1 a {w with drawn:=w.drawn+1} (by rw[Array.length_toList];omega) ?_
  ·rw[hops]at hwp;exact hwp
  ·have hz:∀(l:List Bool) (i:Nat),cntF l i (fun k=>(Array.replicate ops.size false).getD k false)=0:=fun l=>by
    induction l with
    |nil=>intro i;rfl
    |cons b l ih=>
     intro i
     show(bif b&&(Array.replicate ops.size false).getD i false then 1 else 0)+cntF l (i+1) (fun k=>(Array.replicate ops.size false).getD k false)=0
     rw[ih (i+1),hlen0,Bool.and_false];rfl
   refine⟨hext1,⟨_,by rw[hz];exact hrun.h0,⟨r1.r.drew,r1.n,r1.good⟩⟩,?_,hn,hd,by show p.n+_<=S.n+_;rw[r.n];exact Nat.le_refl _,⟨by simp,(fun j o hj=>by rw[hlen0]at hj;cases hj)⟩,(fun j hj=>by rw[hlen0]at hj;cases hj),fun j o _ _ _=>?_⟩
   ·have:lstE (fun k=>(Array.replicate ops.size false).getD k false) ops.toList es 0 env.at=env.at:=by
     have key:∀(ops':List Oper) (es:List Ent) (i:Nat) (env:Env),lstE (fun k=>(Array.replicate ops.size false).getD k false) ops' es i env=env:=by
      intro ops'
      induction ops' with
      |nil=>intro es i env;simp[lstE]
      |cons o l ih=>
       intro es i env
       cases es with
       |nil=>simp[lstE]
       |cons x es=>
        show lstE (fun k=>(Array.replicate ops.size false).getD k false) l es (i+1) (bif (Array.replicate ops.size false).getD i false then put env o.dst x.v else env)=env
        rw[hlen0];exact ih es (i+1) env
     exact key _ _ _ _
    rw[this]
    exact he.mono hext1.le
   ·exact(r.r.fresh _ (by rw[r.n];omega)).1
 rw[ht]at hrk
 cases t with
 |done env1 es hs=>
  obtain⟨h1,h2,h3⟩:=hrk
  intro hc q hq
  refine wpr _ (fin es hs (.done env1) _ h1 hc ⟨h2,h3⟩ fun q1 hq1 ex a w hp=>?_)
  have:q1=q:=by
   rw[List.getLast?_eq_getElem?,h1.hlen,Nat.add_sub_cancel,hq1]at hq
   exact Option.some.inj hq
  subst this
  exact hp
 |pan v q es hs=>
  obtain⟨h1,o,x,q1,k1,k2,k3,k4,k5,k6,k7⟩:=hrk
  intro hc
  refine wpr _ (fin es hs (.pan v q) _ h1 hc ⟨o,x,q1,k1,k2,k3,k4,k5,k6,fun j hj hj'=>?_⟩ fun env2 ex a w hp=>?_)
  ·have:=k7 j hj hj'
   simpa using this
  ·obtain⟨S',g1,g2,g3,g4⟩:=hp
   exact⟨S',g1,g2,fun h=>absurd rfl (h v),g4⟩
 |stuck=>trivial
end
end Go.Cl
end
section
namespace Go.Cl
open Go.RowKit
theorem Q1o(acc:List Nat): ∀(l:List Edge) (i:Nat),(∃e∈l,Region.binds .any e=true/\(e.on=i\/Nat.testBit (acc.getD e.on 0) i=true))->Nat.testBit (ancOf acc l) i=true
 |[],i,⟨e,he,_⟩=>by simp at he
 |x::l,i,⟨e,he,hb,h⟩=>by
  simp only[ancOf]
  rcases List.mem_cons.1 he with rfl|he
  ·rw[hb,cond_true]
   show Nat.testBit ((1 <<< e.on ||| acc.getD e.on 0) ||| ancOf acc l) i=true
   rw[Nat.testBit_or,Nat.testBit_or]
   rcases h with rfl|h
   ·simp
   ·rw[h];simp
  ·have ih:=Q1o acc l i ⟨e,he,hb,h⟩
   cases Region.binds .any x with
   |false=>exact ih
   |true=>
    show Nat.testBit ((1 <<< x.on ||| acc.getD x.on 0) ||| ancOf acc l) i=true
    rw[Nat.testBit_or,ih];simp
theorem ancs_take: ∀(l:List Oper) (acc:List Nat),(ancs l acc).take acc.length=acc/\(ancs l acc).length=acc.length+l.length
 |[],acc=>by simp[ancs]
 |o::l,acc=>by
  obtain⟨h1,h2⟩:=ancs_take l (acc++[ancOf acc o.after.toList])
  simp only[ancs]
  refine⟨?_,by rw[h2];simp;omega⟩
  have:=congrArg (List.take acc.length) h1
  rw[List.take_take]at this
  simpa using this
theorem ancs_at: ∀(l:List Oper) (acc:List Nat) (j:Nat) (o:Oper),l[j]?=some o->(ancs l acc).getD (acc.length+j) 0=ancOf ((ancs l acc).take (acc.length+j)) o.after.toList
 |[],_,_,_,h=>by simp at h
 |o::l,acc,0,o',h=>by
  simp at h;subst h
  simp only[ancs,Nat.add_zero]
  obtain⟨h1,h2⟩:=ancs_take l (acc++[ancOf acc o.after.toList])
  have h3:(ancs l (acc++[ancOf acc o.after.toList])).take acc.length=acc:=by
   have:=congrArg (List.take acc.length) h1
   rw[List.take_take]at this
   simpa using this
  rw[h3,List.getD_eq_getElem?_getD]
  have h4:(ancs l (acc++[ancOf acc o.after.toList]))[acc.length]?=((ancs l (acc++[ancOf acc o.after.toList])).take (acc++[ancOf acc o.after.toList]).length)[acc.length]?:=by
   rw[List.getElem?_take_of_lt (by simp)]
  rw[h4,h1];simp
 |o::l,acc,j+1,o',h=>by
  have:=ancs_at l (acc++[ancOf acc o.after.toList]) j o' (by simpa using h)
  simp only[ancs]
  simp only[List.length_append,List.length_cons,List.length_nil]at this
  rw[show acc.length+(j+1)=acc.length+1+j by omega];simpa using this
theorem bef_trans{ops:List Oper}(hlow:lowB ops=true): ∀(k j i:Nat),k<ops.length->bef (ancs ops []) k j=true->bef (ancs ops []) j i=true->bef (ancs ops []) k i=true:=by
 intro k
 induction k using Nat.strongRecOn with
 |_ k ih=>
  intro j i hk h1 h2
  have ho:ops[k]?=some ops[k]:=by simp[hk]
  have hA:=ancs_at ops [] k _ ho
  simp only[List.length_nil,Nat.zero_add]at hA
  unfold bef at h1 ⊢
  rw[hA]at h1 ⊢
  obtain⟨e,he,hb,h⟩:=Y0s _ _ j h1
  have hlt:e.on<k:=by
   have h2:=List.all_eq_true.1 hlow (ops[k],k) (by rw[List.mem_zipIdx_iff_getElem?];exact ho)
   have h3:=List.all_eq_true.1 h2 e he
   simpa[hb]using h3
  have hg:((ancs ops []).take k).getD e.on 0=(ancs ops []).getD e.on 0:=by
   rw[List.getD_eq_getElem?_getD,List.getD_eq_getElem?_getD,List.getElem?_take_of_lt hlt]
  refine Q1o _ _ _ ⟨e,he,hb,.inr ?_⟩
  rw[hg]
  rcases h with rfl|h
  ·exact h2
  ·rw[hg]at h
   exact ih e.on hlt j i (by omega) h h2
structure DOp where
 ix:Nat
 dst:Option Tmp
 op:Op
 gd:Option (Tmp×Bool)
 fin:Bool
 bk:List Nat
 fw:List Nat
 keep:Bool
def seen(o:Op): Bool:=
 match kindOf o with
 |.quiet=>heapy o
 |.alloc=>true
 |.eff=>false
def bkOf(ops:List Oper)(A:List Nat)(i:Nat)(o:Oper): List Nat:=bif seen o.op then(List.range i).filter (fun e=>(match ops[e]? with|some x=>isEffOp x|none=>false)&&!bef A i e)else []
def fwOf(ops:List Oper)(A:List Nat)(i:Nat)(o:Oper): List Nat:=bif seen o.op then(List.range' (i+1) (ops.length-(i+1))).filter (fun e=>(match ops[e]? with|some x=>isEffOp x|none=>false)&&!bef A e i)else []
def keepOf(ops:List Oper)(A:List Nat)(i:Nat): Bool:=(List.range' (i+1) (ops.length-(i+1))).any fun j=>match ops[j]? with|some x=>seen x.op&&!bef A j i|none=>false
def dops(ops:List Oper)(A:List Nat): List Oper->Nat->Option (List DOp)
 |[],_=>some []
 |o::l,i=>match lgd ops o with
  |some g=>match dops ops A l (i+1) with
   |some m=>some (⟨i,o.dst,o.op,g,(List.range' (i+1) l.length).all (fun j=>bef A j i),bkOf ops A i o,fwOf ops A i o,isEffOp o&&keepOf ops A i⟩::m)
   |none=>none
  |none=>none
structure Watch where
 fw:List Nat
 ix:Nat
 ρ:Env
 op:Op
 v:CV
def pushW(w:Watch)(wt:List Watch): List Watch:=
 match w.fw with
 |[]=>wt
 |_=>w::wt
def pushH(b:Bool)(x:Nat×Hp)(hist:List (Nat×Hp)): List (Nat×Hp):=bif b then x::hist else hist
section
variable (C:Ctx) (mu:Bool) (ext:FuncId->List CV->Option CV) (call:XCall)
noncomputable def still(n0:Nat)(w:Watch)(q:Hp): Prop:=
 match kindOf w.op with
 |.alloc=>∃ob,q.t.get (n0+w.ix)=some ob/\allocObj C w.op=some ob
 |_=>zop C mu ext call w.ρ q w.op=.ret w.v q
noncomputable def histP(n0:Nat)(w:Watch)(bk:List Nat)(hist:List (Nat×Hp)): Prop:=
 match bk with
 |[]=>True
 |_=>∀x∈hist,x.1∈bk->still C mu ext call n0 w x.2
noncomputable def Wd(n0:Nat)(ρ0:Env): List DOp->List (Nat×Hp)->List Watch->Env->Hp->ZQ->Prop
 |[],_,_,ρ,p,Q=>Q .normal ρ p
 |o::rest,hist,wt,ρ,p,Q=>match zwanted ρ o.gd with
  |none=>False
  |some false=>Wd n0 ρ0 rest hist wt (put ρ o.dst (.tup [])) p Q
  |some true=>match kindOf o.op with
   |.quiet=>match zop C mu ext call ρ p o.op with
    |.ret v _=>histP C mu ext call n0 ⟨o.fw,o.ix,ρ,o.op,v⟩ o.bk hist/\Wd n0 ρ0 rest hist (pushW ⟨o.fw,o.ix,ρ,o.op,v⟩ wt) (put ρ o.dst v) p Q
    |_=>False
   |.alloc=>still C mu ext call n0 ⟨o.fw,o.ix,ρ,o.op,allocV o.op (n0+o.ix)⟩ p/\histP C mu ext call n0 ⟨o.fw,o.ix,ρ,o.op,allocV o.op (n0+o.ix)⟩ o.bk hist/\Wd n0 ρ0 rest hist (pushW ⟨o.fw,o.ix,ρ,o.op,allocV o.op (n0+o.ix)⟩ wt) (put ρ o.dst (allocV o.op (n0+o.ix))) p Q
   |.eff=>match zop C mu ext call ρ p o.op with
    |.ret v q=>(∀w∈wt,o.ix∈w.fw->still C mu ext call n0 w q)/\Wd n0 ρ0 rest (pushH o.keep (o.ix,p) hist) wt (put ρ o.dst v) q Q
    |.pan v q=>o.fin=true/\Q (.panU v) ρ0 q
    |.stuck=>False
def evs: List Oper->List Ent->List Hp->Nat->List (Nat×Hp×Hp)
 |o::l,x::es,hs,i=>bif isEff o x then(match hs with
  |h::h'::hs'=>(i,h,h')::evs l es (h'::hs') (i+1)
  |_=>[])else evs l es hs (i+1)
 |_,_,_,_=>[]
structure Obl(ops:List Oper)(A:List Nat)(n0:Nat)(hist:List (Nat×Hp))(wt:List Watch)(l:List Oper)(i:Nat)(es:List Ent)(hs:List Hp): Prop where
 ent:∀j o x,l[j]?=some o->es[j]?=some x->x.wanted=true->seen o.op=true->
  (∀h∈hist,h.1∈bkOf ops A (i+j) o->still C mu ext call n0 ⟨[],i+j,x.env.at,o.op,x.v⟩ h.2) /\
  (∀ev∈evs l es hs i,ev.1∈bkOf ops A (i+j) o->still C mu ext call n0 ⟨[],i+j,x.env.at,o.op,x.v⟩ ev.2.1) /\
  (∀ev∈evs l es hs i,ev.1∈fwOf ops A (i+j) o->still C mu ext call n0 ⟨[],i+j,x.env.at,o.op,x.v⟩ ev.2.2) /\
  (∀q,hs[cntF (flags l es) 0 (fun k=>Nat.blt k j)]?=some q->still C mu ext call n0 ⟨[],i+j,x.env.at,o.op,x.v⟩ q)
 wt:∀w∈wt,∀ev∈evs l es hs i,ev.1∈w.fw->still C mu ext call n0 w ev.2.2
theorem xtr_h0{ops:List Oper}{A:List Nat}{n0:Nat}(l:List Oper)(i:Nat)(env:XEnv)(p:Hp): match xtr C mu ext call ops A n0 l i env p with
  |.done _ _ hs=>hs[0]?=some p
  |.pan _ _ _ hs=>hs[0]?=some p
  |.stuck=>True:=by
 have:=X07 C (mu:=mu) (ext:=ext) (call:=call) (ops:=ops) (A:=A) (n0:=n0) l i env p
 cases h:xtr C mu ext call ops A n0 l i env p with
 |done env' es hs=>rw[h]at this;exact this.1.h0
 |pan v q es hs=>rw[h]at this;exact this.1.h0
 |stuck=>trivial
theorem mem_fw{ops:List Oper}{A:List Nat}{i e:Nat}{o:Oper}(h:e∈fwOf ops A i o): i<e:=by
 unfold fwOf at h
 cases hs:seen o.op with
 |false=>simp[hs]at h
 |true=>simp only[hs,cond_true,List.mem_filter,List.mem_range']at h;omega
theorem mem_bk{ops:List Oper}{A:List Nat}{i e:Nat}{o:Oper}(h:e∈bkOf ops A i o): e<i:=by
 unfold bkOf at h
 cases hs:seen o.op with
 |false=>simp[hs]at h
 |true=>simp only[hs,cond_true,List.mem_filter,List.mem_range]at h;exact h.1
theorem evs_ge: ∀(l:List Oper) (es:List Ent) (hs:List Hp) (i:Nat),∀ev∈evs l es hs i,i<=ev.1
 |[],es,hs,i=>by cases es<;>simp[evs]
 |_::_,[],hs,i=>by simp[evs]
 |o::l,x::es,hs,i=>by
  intro ev h
  simp only[evs]at h
  cases hb:isEff o x with
  |false=>rw[hb,cond_false]at h;have:=evs_ge l es hs (i+1) ev h;omega
  |true=>
   rw[hb,cond_true]at h
   match hs,h with
   |h1::h2::hs',h=>
    rcases List.mem_cons.1 h with rfl|h
    ·exact Nat.le_refl _
    ·have:=evs_ge l es (h2::hs') (i+1) ev h;omega
   |[],h=>simp at h
   |[_],h=>simp at h
theorem K0p(b:Bool)(fl:List Bool)(j:Nat): cntF (b::fl) 0 (fun k=>Nat.blt k (j+1))=(bif b then 1 else 0)+cntF fl 0 (fun k=>Nat.blt k j):=by
 show(bif b&&Nat.blt 0 (j+1)then 1 else 0)+cntF fl 1 (fun k=>Nat.blt k (j+1))=_
 have h0:Nat.blt 0 (j+1)=true:=Q0x (by omega)
 rw[h0,Bool.and_true]
 congr 1
 refine Y0q _ _ fl 1 0 fun k=>?_
 show Nat.blt (1+k) (j+1)=Nat.blt (0+k) j
 rw[show 1+k=k+1 by omega,Nat.zero_add];rfl
theorem Z0t: ∀(fl:List Bool) (i:Nat),cntF fl i (fun k=>Nat.blt k 0)=0
 |[],_=>rfl
 |b::fl,i=>by
  show(bif b&&Nat.blt i 0 then 1 else 0)+cntF fl (i+1) (fun k=>Nat.blt k 0)=0
  rw[Z0t fl (i+1)]
  have:Nat.blt i 0=false:=rfl
  rw[this];simp
def GoodT(ops:List Oper)(A:List Nat)(n0:Nat)(ρ0:Env)(Q:ZQ)(hist:List (Nat×Hp))(wt:List Watch)(l:List Oper)(i:Nat): XTR->Prop
 |.done env' es hs=>(∃q,hs.getLast?=some q/\Q .normal env'.at q)/\Obl C mu ext call ops A n0 hist wt l i es hs
 |.pan v q es hs=>Q (.panU v) ρ0 q/\Obl C mu ext call ops A n0 hist wt l i es hs
 |.stuck=>False
theorem Obl.cons_still{ops:List Oper}{A:List Nat}{n0:Nat}{hist:List (Nat×Hp)}{wt wt':List Watch}{o:Oper}{l:List Oper}{i:Nat}{x:Ent}{es:List Ent}{hs:List Hp}(he:isEff o x=false)
  (h:Obl C mu ext call ops A n0 hist wt' l (i+1) es hs) (hw:∀w∈wt,w∈wt') {p:Hp} (h0:hs[0]?=some p)
  (hx:x.wanted=true->seen o.op=true->still C mu ext call n0 ⟨[],i,x.env.at,o.op,x.v⟩ p/\(∀h∈hist,h.1∈bkOf ops A i o->still C mu ext call n0 ⟨[],i,x.env.at,o.op,x.v⟩ h.2)/\(∀ev∈evs l es hs (i+1),ev.1∈fwOf ops A i o->still C mu ext call n0 ⟨[],i,x.env.at,o.op,x.v⟩ ev.2.2)):
  Obl C mu ext call ops A n0 hist wt (o::l) i (x::es) hs:=by
 have hev:evs (o::l) (x::es) hs i=evs l es hs (i+1):=by simp only[evs,he,cond_false]
 have hfl:flags (o::l) (x::es)=false::flags l es:=by unfold flags;rw[List.zipWith_cons_cons,he]
 refine⟨fun j o' x' h1 h2 h3 h4=>?_,fun w hwm ev hm hf=>?_⟩
 ·rw[hev,hfl]
  cases j with
  |zero=>
   simp only[List.getElem?_cons_zero,Option.some.injEq]at h1 h2
   subst h1;subst h2
   obtain⟨k1,k2,k3⟩:=hx h3 h4
   refine⟨k2,fun ev hm hb=>?_,k3,fun q hq=>?_⟩
   ·have:=evs_ge _ _ _ _ ev hm;have:=mem_bk hb;omega
   ·rw[Z0t,h0]at hq;cases hq;exact k1
  |succ j=>
   have:=h.ent j o' x' (by simpa using h1) (by simpa using h2) h3 h4
   rw[show i+(j+1)=i+1+j by omega]
   refine⟨this.1,this.2.1,this.2.2.1,fun q hq=>this.2.2.2 q ?_⟩
   rw[K0p,cond_false,Nat.zero_add]at hq
   exact hq
 ·rw[hev]at hm
  exact h.wt w (hw w hwm) ev hm hf
theorem Wd_xtr{ops:List Oper}{A:List Nat}{n0:Nat}{ρ0:Env}{Q:ZQ}: ∀(l:List Oper) (i:Nat) (m:List DOp) (hist:List (Nat×Hp)) (wt:List Watch) (env:XEnv) (p:Hp),ops.drop i=l->dops ops A l i=some m->(∀h∈hist,h.1<i)->
  Wd C mu ext call n0 ρ0 m hist wt env.at p Q->GoodT C mu ext call ops A n0 ρ0 Q hist wt l i (xtr C mu ext call ops A n0 l i env p)
 |[],i,m,hist,wt,env,p,hl,hm,hh,h=>by
  simp only[dops,Option.some.injEq]at hm
  subst hm
  refine⟨⟨p,rfl,h⟩,⟨fun j o x h1=>by simp at h1,fun w _ ev hev=>by simp[evs]at hev⟩⟩
 |o::l,i,m,hist,wt,env,p,hl,hm,hh,h=>by
  have hil:i<ops.length:=by
   rcases Nat.lt_or_ge i ops.length with h'|h'
   ·exact h'
   ·rw[List.drop_eq_nil_of_le h']at hl;cases hl
  have hdrop:ops.drop (i+1)=l:=by
   have:=congrArg List.tail hl
   rw[List.tail_drop]at this;exact this
  have hoi:ops[i]?=some o:=by
   have:=congrArg (fun x=>x[0]?) hl
   simpa using this
  simp only[dops]at hm
  cases hg:lgd ops o with
  |none=>simp[hg]at hm
  |some g=>
  cases hd:dops ops A l (i+1) with
  |none=>simp[hg,hd]at hm
  |some m'=>
  simp only[hg,hd,Option.some.injEq]at hm
  subst hm
  simp only[Wd]at h
  simp only[xtr,Y1p hg,X1o]
  cases hw:zwanted env.at g with
  |none=>rw[hw]at h;exact h.elim
  |some b=>
   rw[hw]at h
   cases b with
   |false=>
    simp only at h ⊢
    have ih:=Wd_xtr l (i+1) m' hist wt (env.put o.dst (.tup [])) p hdrop hd (fun x hx=>Nat.lt_succ_of_lt (hh x hx)) (by rw[XEnv.at_put];exact h)
    have h0:=xtr_h0 C mu ext call (ops:=ops) (A:=A) (n0:=n0) l (i+1) (env.put o.dst (.tup [])) p
    have he:isEff o ⟨env,false,.tup []⟩=false:=by unfold isEff;split<;>rfl
    cases hx:xtr C mu ext call ops A n0 l (i+1) (env.put o.dst (.tup [])) p with
    |stuck=>rw[hx]at ih;exact ih.elim
    |done env' es hs=>rw[hx]at ih h0;exact⟨ih.1,ih.2.cons_still C mu ext call he (fun _ h=>h) h0 fun h=>by cases h⟩
    |pan v q es hs=>rw[hx]at ih h0;exact⟨ih.1,ih.2.cons_still C mu ext call he (fun _ h=>h) h0 fun h=>by cases h⟩
   |true=>
    simp only at h ⊢
    cases hk:kindOf o.op with
    |quiet=>
     rw[hk]at h
     simp only[zop_eq]at h ⊢
     cases hr:zop C mu ext call env.at p o.op with
     |stuck=>rw[hr]at h;exact h.elim
     |pan v q=>rw[hr]at h;exact h.elim
     |ret v q'=>
      rw[hr]at h
      simp only at h ⊢
      obtain⟨k1,k2⟩:=h
      have ih:=Wd_xtr l (i+1) m' hist _ (env.put o.dst v) p hdrop hd (fun x hx=>Nat.lt_succ_of_lt (hh x hx)) (by rw[XEnv.at_put];exact k2)
      have h0:=xtr_h0 C mu ext call (ops:=ops) (A:=A) (n0:=n0) l (i+1) (env.put o.dst v) p
      have he:isEff o ⟨env,true,v⟩=false:=by unfold isEff;rw[hk]
      have hq:q'=p:=by
       have:=Y1e C (mu:=mu) (ext:=ext) (call:=call) (env:=env) hk (by rw[zop_eq];exact hr)
       exact this
      subst hq
      have hst:still C mu ext call n0 ⟨[],i,env.at,o.op,v⟩ q':=by unfold still;rw[hk];exact hr
      have key:∀es hs,Obl C mu ext call ops A n0 hist (pushW ⟨fwOf ops A i o,i,env.at,o.op,v⟩ wt) l (i+1) es hs->hs[0]?=some q'->Obl C mu ext call ops A n0 hist wt (o::l) i (⟨env,true,v⟩::es) hs:=fun es hs hO h0=>by
       refine hO.cons_still C mu ext call he (fun w hw=>?_) h0 fun _ hs'=>⟨hst,fun x hx hb=>?_,fun ev hm hf=>?_⟩
       ·unfold pushW;split
        ·exact hw
        ·exact List.mem_cons_of_mem _ hw
       ·unfold histP at k1
        split at k1
        ·rename_i hbk;rw[hbk]at hb;simp at hb
        ·exact k1 x hx hb
       ·have:(⟨fwOf ops A i o,i,env.at,o.op,v⟩:Watch)∈pushW ⟨fwOf ops A i o,i,env.at,o.op,v⟩ wt:=by
         unfold pushW;split
         ·rename_i hfw;simp only at hfw;rw[hfw]at hf;simp at hf
         ·exact List.mem_cons_self
        exact hO.wt _ this ev hm hf
      cases hx:xtr C mu ext call ops A n0 l (i+1) (env.put o.dst v) q' with
      |stuck=>rw[hx]at ih;exact ih.elim
      |done env' es hs=>rw[hx]at ih h0;exact⟨ih.1,key es hs ih.2 h0⟩
      |pan v' q es hs=>rw[hx]at ih h0;exact⟨ih.1,key es hs ih.2 h0⟩
    |alloc=>
     rw[hk]at h
     simp only at h ⊢
     obtain⟨k0,k1,k2⟩:=h
     have ih:=Wd_xtr l (i+1) m' hist _ (env.put o.dst (allocV o.op (n0+i))) p hdrop hd (fun x hx=>Nat.lt_succ_of_lt (hh x hx)) (by rw[XEnv.at_put];exact k2)
     have h0:=xtr_h0 C mu ext call (ops:=ops) (A:=A) (n0:=n0) l (i+1) (env.put o.dst (allocV o.op (n0+i))) p
     have he:isEff o ⟨env,true,allocV o.op (n0+i)⟩=false:=by unfold isEff;rw[hk]
     have key:∀es hs,Obl C mu ext call ops A n0 hist (pushW ⟨fwOf ops A i o,i,env.at,o.op,allocV o.op (n0+i)⟩ wt) l (i+1) es hs->hs[0]?=some p->Obl C mu ext call ops A n0 hist wt (o::l) i (⟨env,true,allocV o.op (n0+i)⟩::es) hs:=fun es hs hO h0=>by
      refine hO.cons_still C mu ext call he (fun w hw=>?_) h0 fun _ hs'=>⟨k0,fun x hx hb=>?_,fun ev hm hf=>?_⟩
      ·unfold pushW;split
       ·exact hw
       ·exact List.mem_cons_of_mem _ hw
      ·unfold histP at k1
       split at k1
       ·rename_i hbk;rw[hbk]at hb;simp at hb
       ·exact k1 x hx hb
      ·have:(⟨fwOf ops A i o,i,env.at,o.op,allocV o.op (n0+i)⟩:Watch)∈pushW ⟨fwOf ops A i o,i,env.at,o.op,allocV o.op (n0+i)⟩ wt:=by
        unfold pushW;split
        ·rename_i hfw;simp only at hfw;rw[hfw]at hf;simp at hf
        ·exact List.mem_cons_self
       exact hO.wt _ this ev hm hf
     cases hx:xtr C mu ext call ops A n0 l (i+1) (env.put o.dst (allocV o.op (n0+i))) p with
     |stuck=>rw[hx]at ih;exact ih.elim
     |done env' es hs=>rw[hx]at ih h0;exact⟨ih.1,key es hs ih.2 h0⟩
     |pan v' q es hs=>rw[hx]at ih h0;exact⟨ih.1,key es hs ih.2 h0⟩
    |eff=>
     rw[hk]at h
     simp only[zop_eq]at h ⊢
     have hsn:seen o.op=false:=by unfold seen;rw[hk]
     have hE:isEffOp o=true:=by unfold isEffOp;rw[hk]
     cases hr:zop C mu ext call env.at p o.op with
     |stuck=>rw[hr]at h;exact h.elim
     |pan v q=>
      rw[hr]at h
      simp only at h ⊢
      rw[h.1,cond_true]
      exact⟨h.2,⟨fun j o x _ h2=>by simp at h2,fun w _ ev hev=>by simp[evs]at hev⟩⟩
     |ret v q=>
      rw[hr]at h
      simp only at h ⊢
      obtain⟨k1,k2⟩:=h
      have ih:=Wd_xtr l (i+1) m' (pushH (isEffOp o&&keepOf ops A i) (i,p) hist) wt (env.put o.dst v) q hdrop hd (fun x hx=>by
       unfold pushH at hx
       cases hkp:isEffOp o&&keepOf ops A i with
       |false=>rw[hkp,cond_false]at hx;exact Nat.lt_succ_of_lt (hh x hx)
       |true=>
        rw[hkp,cond_true]at hx
        rcases List.mem_cons.1 hx with rfl|hx
        ·exact Nat.lt_succ_self _
        ·exact Nat.lt_succ_of_lt (hh x hx)) (by rw[XEnv.at_put];exact k2)
      have h0:=xtr_h0 C mu ext call (ops:=ops) (A:=A) (n0:=n0) l (i+1) (env.put o.dst v) q
      have he:isEff o ⟨env,true,v⟩=true:=by unfold isEff;rw[hk]
      have key:∀es hs,Obl C mu ext call ops A n0 (pushH (isEffOp o&&keepOf ops A i) (i,p) hist) wt l (i+1) es hs->hs[0]?=some q->Obl C mu ext call ops A n0 hist wt (o::l) i (⟨env,true,v⟩::es) (p::hs):=fun es hs hO h0=>by
       match hs,h0 with
       |h1::hs',h0=>
       simp only[List.getElem?_cons_zero,Option.some.injEq]at h0
       subst h0
       have hev:evs (o::l) (⟨env,true,v⟩::es) (p::h1::hs') i=(i,p,h1)::evs l es (h1::hs') (i+1):=by simp only[evs,he,cond_true]
       have hfl:flags (o::l) (⟨env,true,v⟩::es)=true::flags l es:=by unfold flags;rw[List.zipWith_cons_cons,he]
       refine⟨fun j o' x' h1' h2 h3 h4=>?_,fun w hwm ev hm hf=>?_⟩
       ·rw[hev,hfl]
        cases j with
        |zero=>
         simp only[List.getElem?_cons_zero,Option.some.injEq]at h1'
         subst h1'
         rw[hsn]at h4;cases h4
        |succ j=>
         have hlj:l[j]?=some o':=by simpa using h1'
         have:=hO.ent j o' x' hlj (by simpa using h2) h3 h4
         rw[show i+(j+1)=i+1+j by omega]
         obtain⟨a1,a2,a3,a4⟩:=this
         have hin:∀x∈hist,x∈pushH (isEffOp o&&keepOf ops A i) (i,p) hist:=fun x hx=>by
          unfold pushH
          cases isEffOp o&&keepOf ops A i with
          |false=>exact hx
          |true=>exact List.mem_cons_of_mem _ hx
         refine⟨fun x hx hb=>a1 x (hin x hx) hb,fun ev hm hb=>?_,fun ev hm hf=>?_,fun q hq=>a4 q ?_⟩
         ·rcases List.mem_cons.1 hm with rfl|hm
          ·refine a1 (i,p) ?_ hb
           have:keepOf ops A i=true:=by
            unfold keepOf
            rw[List.any_eq_true]
            have hoj:ops[i+1+j]?=some o':=by rw[<- hdrop]at hlj;rw[List.getElem?_drop]at hlj;exact hlj
            have hjl:=(List.getElem?_eq_some_iff.1 hoj).1
            refine⟨i+1+j,by rw[List.mem_range'];exact⟨j,by omega,by omega⟩,?_⟩
            rw[hoj]
            unfold bkOf at hb
            rw[h4,cond_true,List.mem_filter]at hb
            simp only[Bool.and_eq_true]at hb ⊢
            exact⟨h4,hb.2.2⟩
           unfold pushH
           rw[hE,this]
           exact List.mem_cons_self
          ·exact a2 ev hm hb
         ·rcases List.mem_cons.1 hm with rfl|hm
          ·have:=mem_fw hf;simp only at this;omega
          ·exact a3 ev hm hf
         ·rw[K0p,cond_true,Nat.add_comm,List.getElem?_cons_succ]at hq
          exact hq
       ·rw[hev]at hm
        rcases List.mem_cons.1 hm with rfl|hm
        ·exact k1 w hwm hf
        ·exact hO.wt w hwm ev hm hf
      cases hx:xtr C mu ext call ops A n0 l (i+1) (env.put o.dst v) q with
      |stuck=>rw[hx]at ih;exact ih.elim
      |done env' es hs=>
       rw[hx]at ih h0
       obtain⟨⟨q1,hq1,hQ⟩,hO⟩:=ih
       refine⟨⟨q1,?_,hQ⟩,key es hs hO h0⟩
       cases hs with
       |nil=>simp at hq1
       |cons a hs=>rw[List.getLast?_cons_cons];exact hq1
      |pan v' q' es hs=>rw[hx]at ih h0;exact⟨ih.1,key es hs ih.2 h0⟩
end
end Go.Cl
end
section
namespace Go.Cl
open Go.RowKit
inductive ZC where
 |skip
 |reg (l:List LOp)
 |draw (n:Nat) (als:List (Nat×Op)) (l:List DOp)
 |seq (a b:ZC)
 |cond (c:Operand) (a b:ZC)
 |block (id:Nat) (c:ZC)
 |loop (c:ZC)
 |exit (id:Nat)
 |ret
def alsOf: List Oper->Nat->List (Nat×Op)
 |[],_=>[]
 |o::l,i=>bif isAllocOp o then(i,o.op)::alsOf l (i+1)else alsOf l (i+1)
def zcode: Code->Option ZC
 |.skip=>some .skip
 |.label _=>some .skip
 |.region _ ops draw=>bif draw then(bif drawStat ops.toList (ancs ops.toList []) then(match dops ops.toList (ancs ops.toList []) ops.toList 0 with
   |some l=>some (.draw ops.toList.length (alsOf ops.toList 0) l)
   |none=>none)else none) else(match lops ops.toList [] ops.toList 0 with
   |some l=>some (.reg l)
   |none=>none)
 |.seq a b=>match zcode a with
  |some x=>match zcode b with
   |some y=>some (.seq x y)
   |none=>none
  |none=>none
 |.cond c a b=>match zcode a with
  |some x=>match zcode b with
   |some y=>some (.cond c x y)
   |none=>none
  |none=>none
 |.block id c=>match zcode c with
  |some x=>some (.block id x)
  |none=>none
 |.loop c=>match zcode c with
  |some x=>some (.loop x)
  |none=>none
 |.exit id=>some (.exit id)
 |.ret=>some .ret
 |_=>none
section
variable (C:Ctx) (mu:Bool) (ext:FuncId->List CV->Option CV) (call:XCall)
noncomputable def layZ(n0:Nat): List (Nat×Op)->Hp->Hp
 |[],p=>p
 |x::l,p=>layZ n0 l (match allocObj C x.2 with
  |some ob=>p.set (n0+x.1) (some ob)
  |none=>p)
theorem Q1r{n0:Nat}: ∀(l:List Oper) (i:Nat) (p:Hp),layA C n0 l i p=layZ C n0 (alsOf l i) p
 |[],_,_=>rfl
 |o::l,i,p=>by
  simp only[layA,alsOf,isAllocOp]
  cases hk:kindOf o.op with
  |alloc=>simp only[cond_true,layZ];exact Q1r l (i+1) _
  |quiet=>exact Q1r l (i+1) _
  |eff=>exact Q1r l (i+1) _
noncomputable def W: ZC->Env->Hp->ZQ->Prop
 |.skip,ρ,p,Q=>Q .normal ρ p
 |.reg l,ρ,p,Q=>Wo C mu ext call l ρ p Q
 |.draw n als l,ρ,p,Q=>Wd C mu ext call p.n ρ l [] [] ρ (layZ C p.n als (p.bump n)) Q
 |.seq a b,ρ,p,Q=>W a ρ p (seqQ (W b) Q)
 |.cond x a b,ρ,p,Q=>condW (ev ρ x) (W a) (W b) ρ p Q
 |.block id c,ρ,p,Q=>W c ρ p (blkQ id Q)
 |.loop c,ρ,p,Q=>∃n,Wn (W c) n ρ p Q
 |.exit i,ρ,p,Q=>Q (.exit i) ρ p
 |.ret,ρ,p,Q=>Q .ret ρ p
theorem evs_at: ∀(l:List Oper) (es:List Ent) (hs:List Hp) (i e:Nat),hs.length=cntF (flags l es) 0 (fun _=>true)+1->e<cntF (flags l es) 0 (fun _=>true)->
  ∃k q q',(flags l es)[k]?=some true/\cntF (flags l es) 0 (fun m=>Nat.blt m k)=e/\hs[e]?=some q/\hs[e+1]?=some q'/\(i+k,q,q')∈evs l es hs i
 |[],es,hs,i,e,_,h=>by simp[flags,cntF]at h
 |o::l,[],hs,i,e,_,h=>by simp[flags,cntF]at h
 |o::l,x::es,hs,i,e,hl,h=>by
  have hfl:flags (o::l) (x::es)=isEff o x::flags l es:=by unfold flags;rw[List.zipWith_cons_cons]
  have hcnt:cntF (flags (o::l) (x::es)) 0 (fun _=>true)=(bif isEff o x then 1 else 0)+cntF (flags l es) 0 (fun _=>true):=by
   rw[hfl]
   show(bif isEff o x&&true then 1 else 0)+cntF (flags l es) 1 (fun _=>true)=_
   rw[Bool.and_true,Y0q (fun _=>true) (fun _=>true) _ 1 0 (fun _=>rfl)]
  rw[hcnt]at hl h
  cases hb:isEff o x with
  |false=>
   rw[hb,cond_false,Nat.zero_add]at hl h
   obtain⟨k,q,q',h1,h2,h3,h4,h5⟩:=evs_at l es hs (i+1) e hl h
   refine⟨k+1,q,q',by rw[hfl];simpa using h1,by rw[hfl,hb,K0p,h2];simp,h3,h4,?_⟩
   simp only[evs,hb,cond_false]
   rw[show i+(k+1)=i+1+k by omega];exact h5
  |true=>
   rw[hb,cond_true]at hl h
   match hs,hl with
   |[],hl=>simp at hl
   |[_],hl=>simp at hl
   |a::b::hs',hl=>
    cases e with
    |zero=>
     refine⟨0,a,b,by rw[hfl,hb];rfl,Z0t _ _,rfl,rfl,?_⟩
     simp[evs,hb]
    |succ e=>
     obtain⟨k,q,q',h1,h2,h3,h4,h5⟩:=evs_at l es (b::hs') (i+1) e (by simp at hl ⊢;omega) (by omega)
     refine⟨k+1,q,q',by rw[hfl];simpa using h1,by rw[hfl,hb,K0p,h2,cond_true];omega,by simpa using h3,by simpa using h4,?_⟩
     simp only[evs,hb,cond_true]
     rw[show i+(k+1)=i+1+k by omega];exact List.mem_cons_of_mem _ h5
theorem blt_le{a b:Nat}(h:a<=b)(k:Nat)(hk:Nat.blt k a=true): Nat.blt k b=true:=Q0x (by have:=X0w hk;omega)
theorem X1p(fl:List Bool){a b:Nat}(h:a<=b): cntF fl 0 (fun m=>Nat.blt m a)<=cntF fl 0 (fun m=>Nat.blt m b):=K0n fl 0 fun k _ hp=>by rw[Nat.zero_add]at hp ⊢;exact blt_le h k hp
theorem blt_self(k:Nat): Nat.blt k k=false:=by
 cases h:Nat.blt k k with
 |false=>rfl
 |true=>have:=X0w h;omega
theorem V07(fl:List Bool){k:Nat}(hk:fl[k]?=some true): cntF fl 0 (fun m=>Nat.blt m (k+1))=cntF fl 0 (fun m=>Nat.blt m k)+1:=by
 rw[<- Q0v (P:=fun m=>Nat.blt m k) (x:=k) fl 0 (Nat.zero_le _) (blt_self k) (by simpa using hk)]
 refine Z0i fl 0 fun m _=>?_
 rw[Nat.zero_add,Y09,Y09]
 have:Nat.beq m k=decide (m=k):=by
  cases hb:Nat.beq m k with
  |true=>simp[Nat.eq_of_beq_eq_true hb]
  |false=>simp[Nat.ne_of_beq_eq_false hb]
 rw[this]
 by_cases h1:m<k<;>by_cases h2:m=k<;>simp[h1,h2]<;>omega
theorem chkP_of{ops:List Oper}(hlow:lowB ops=true)(hch:chainB ops (ancs ops [])=true){n0:Nat}{env:XEnv}{p:Hp}{es:List Ent}{hs:List Hp}(hrun:RunOk C mu ext call ops n0 ops 0 env p es hs)
  (hO:Obl C mu ext call ops (ancs ops []) n0 [] [] ops 0 es hs):∀j o x,ops[j]?=some o->es[j]?=some x->ChkP C mu ext call (ancs ops []) n0 (flags ops es) hs j o x:=by
 intro j o x ho hx hw
 obtain⟨q0,q0',r1,r2,E⟩:=hrun.ent j o x ho hx
 rw[Nat.zero_add]at E
 have hjl:=(List.getElem?_eq_some_iff.1 ho).1
 -- what is looked at,at all heaps that it may meet
 have main:seen o.op=true->∀e q,hs[e]?=some q->(cntF (flags ops es) 0 fun j'=>bef (ancs ops []) j j')<=e->e<=(cntF (flags ops es) 0 fun j'=>!bef (ancs ops []) j' j)->still C mu ext call n0 ⟨[],j,x.env.at,o.op,x.v⟩ q:=by
  intro hsn e q hq hlo hhi
  have hent:=hO.ent j o x ho hx hw hsn
  rw[Nat.zero_add]at hent
  obtain⟨_,hB,hF,hP⟩:=hent
  have helt:=(List.getElem?_eq_some_iff.1 hq).1
  rw[hrun.hlen]at helt
  rcases Nat.lt_trichotomy e (cntF (flags ops es) 0 fun k=>Nat.blt k j)with hlt|heq|hgt
  ·have hle:cntF (flags ops es) 0 (fun k=>Nat.blt k j)<=cntF (flags ops es) 0 (fun _=>true):=K0n _ 0 fun _ _ _=>rfl
   obtain⟨k,qa,qb,k1,k2,k3,k4,k5⟩:=evs_at ops es hs 0 e hrun.hlen (by omega)
   rw[Nat.zero_add]at k5
   rw[hq]at k3;cases k3
   obtain⟨ok,xk,g1,g2,g3⟩:=K0k k1
   have hkj:k<j:=by
    rcases Nat.lt_or_ge k j with h|h
    ·exact h
    ·have:=X1p (flags ops es) h;omega
   refine hB _ k5 ?_
   unfold bkOf
   rw[hsn,cond_true,List.mem_filter,List.mem_range]
   refine⟨hkj,?_⟩
   simp only[g1,Bool.and_eq_true]
   refine⟨by unfold isEffOp;rw[(Q0j g3).1],?_⟩
   cases hb:bef (ancs ops []) j k with
   |false=>rfl
   |true=>
    have:cntF (flags ops es) 0 (fun m=>Nat.blt m (k+1))<=cntF (flags ops es) 0 fun j'=>bef (ancs ops []) j j':=K0n _ 0 fun m hm hp=>by
     rw[Nat.zero_add]at hp ⊢
     obtain⟨om,xm,m1,m2,m3⟩:=K0k hm
     have hmk:m<k+1:=X0w hp
     rcases Nat.lt_or_ge m k with h|h
     ·exact bef_trans hlow j k m hjl hb (Z0u hch m1 g1 h (Q0j m3).1 (Q0j g3).1)
     ·have:m=k:=by omega
      subst this;exact hb
    rw[V07 _ k1]at this
    omega
  ·subst heq;exact hP q hq
  ·obtain⟨k,qa,qb,k1,k2,k3,k4,k5⟩:=evs_at ops es hs 0 (e-1) hrun.hlen (by omega)
   rw[Nat.zero_add]at k5
   rw[show e-1+1=e by omega,hq]at k4;cases k4
   obtain⟨ok,xk,g1,g2,g3⟩:=K0k k1
   have hkl:=(List.getElem?_eq_some_iff.1 g1).1
   have hkj:j<k:=by
    rcases Nat.lt_trichotomy j k with h|h|h
    ·exact h
    ·subst h
     rw[ho]at g1;cases g1
     have:=(Q0j g3).1
     unfold seen at hsn
     rw[this]at hsn;cases hsn
    ·have h1:=X1p (flags ops es) (show k+1<=j from h)
     rw[V07 _ k1]at h1
     omega
   refine hF _ k5 ?_
   unfold fwOf
   rw[hsn,cond_true,List.mem_filter,List.mem_range']
   refine⟨⟨k-(j+1),by omega,by omega⟩,?_⟩
   simp only[g1,Bool.and_eq_true]
   refine⟨by unfold isEffOp;rw[(Q0j g3).1],?_⟩
   cases hb:bef (ancs ops []) k j with
   |false=>rfl
   |true=>
    have:(cntF (flags ops es) 0 fun j'=>!bef (ancs ops []) j' j)<=cntF (flags ops es) 0 (fun m=>Nat.blt m k):=K0n _ 0 fun m hm hp=>by
     rw[Nat.zero_add]at hp ⊢
     obtain⟨om,xm,m1,m2,m3⟩:=K0k hm
     rcases Nat.lt_or_ge m k with h|h
     ·exact Q0x h
     ·exfalso
      have hml:=(List.getElem?_eq_some_iff.1 m1).1
      have:bef (ancs ops []) m j=true:=by
       rcases Nat.lt_or_ge k m with h'|h'
       ·exact bef_trans hlow m k j hml (Z0u hch g1 m1 h' (Q0j g3).1 (Q0j m3).1) hb
       ·have:m=k:=by omega
        subst this;exact hb
      rw[this]at hp;cases hp
    omega
 cases hk:kindOf o.op with
 |eff=>trivial
 |quiet=>
  simp only
  intro e q hq hlo hhi
  obtain⟨q1,hE⟩:=E.quiet hw hk
  cases hh:heapy o.op with
  |false=>
   exact xop_still C hk hh hE q
  |true=>
   have:=main (by unfold seen;rw[hk];exact hh) e q hq hlo hhi
   unfold still at this
   rw[hk]at this
   rw[zop_eq];exact this
 |alloc=>
  simp only
  intro e q hq hlo hhi
  have:=main (by unfold seen;rw[hk]) e q hq hlo hhi
  unfold still at this
  rw[hk]at this
  exact this
def XGo(w0:World)(B:Nat)(S:St)(n:Nat)(ds:List Deferred)(Q:ZQ): Exit->Act->World->Prop:=fun ex a w=>∃(e:XE) (env:XEnv) (p:Hp),Q e env.at p/\XPost w0 B S n ds e env p ex a w
theorem xgo_mono{w0:World}{B:Nat}{S S':St}{n:Nat}{ds:List Deferred}(hS:S'.ext S){Q:ZQ}{c:Code}{a:Act}{w:World}(h:c.wp C.P (XGo w0 B S n ds Q) a w): c.wp C.P (XGo w0 B S' n ds Q) a w:=
 wp_mono h fun _ _ _ ⟨e,env,p,hQ,k⟩=>⟨e,env,p,hQ,k.mono hS⟩
theorem W_sound(hext:ExtOk C ext)(hcall:CallOk C call){w0:World}{B:Nat}{ds:List Deferred}{n:Nat}: ∀(c:Code) (m:ZC) (S:St) (env:XEnv) (p:Hp) (a:Act) (w:World) (Q:ZQ),zcode c=some m->okCode n c=true->XRel w0 B S p w->ER S env.at a.tmps->a.tmps.size=n->a.defers=ds->
  W C mu ext call m env.at p Q->c.wp C.P (XGo w0 B S n ds Q) a w:=by
 intro c
 induction c with
 |skip=>
  intro m S env p a w Q hm _ r he hn hd h
  cases hm
  exact wp_skip ⟨.normal,env,p,h,S,St.ext.refl _,r,fun _=>he,hn,hd,trivial⟩
 |label l=>
  intro m S env p a w Q hm _ r he hn hd h
  cases hm
  exact wp_label ⟨.normal,env,p,h,S,St.ext.refl _,r,fun _=>he,hn,hd,trivial⟩
 |region id ops draw=>
  intro m S env p a w Q hm hok r he hn hd h
  cases draw with
  |false=>
   simp only[zcode,cond_false]at hm
   cases hl:lops ops.toList [] ops.toList 0 with
   |none=>simp[hl]at hm
   |some l=>
    simp only[hl,Option.some.injEq]at hm
    subst hm
    obtain⟨e,env',p',h1,h2⟩:=Z09 C mu ext call l _ p Q h env rfl
    rw[<- xl_eq C _ _ _ _ _ hl]at h1
    refine wp_region ?_
    have:=V0y C hext hcall (mu:=mu) (Q':=XGo w0 B S n ds Q) ops.toList 0 S env p a w rfl (by simpa[okCode]using hok) r he hn hd e env' p' h1 (fun ex a w k=>⟨e,env',p',h2,k⟩)
    simpa[List.range_eq_range']using this
  |true=>
   simp only[zcode,cond_true]at hm
   cases hs:drawStat ops.toList (ancs ops.toList []) with
   |false=>simp[hs]at hm
   |true=>
    rw[hs,cond_true]at hm
    cases hl:dops ops.toList (ancs ops.toList []) ops.toList 0 with
    |none=>simp[hl]at hm
    |some l=>
     simp only[hl,Option.some.injEq]at hm
     subst hm
     simp only[W]at h
     have hst:=hs
     simp only[drawStat,Bool.and_eq_true]at hst
     obtain⟨⟨hlow,hch⟩,hcf⟩:=hst
     have hg:=Wd_xtr C mu ext call (ops:=ops.toList) (A:=ancs ops.toList []) (n0:=p.n) (ρ0:=env.at) (Q:=Q) ops.toList 0 l [] [] env (layZ C p.n (alsOf ops.toList 0) (p.bump ops.toList.length)) rfl hl (by simp) h
     rw[<- Q1r]at hg
     have hdp:=draw_p C hext hcall (mu:=mu) (id:=id) (ops:=ops) hs (by simpa[okCode]using hok) r he hn hd (t:=xtr C mu ext call ops.toList (ancs ops.toList []) p.n ops.toList 0 env (layA C p.n ops.toList 0 ⟨p.n+ops.toList.length,p.t⟩)) rfl
     have hrk:=X07 C (mu:=mu) (ext:=ext) (call:=call) (ops:=ops.toList) (A:=ancs ops.toList []) (n0:=p.n) ops.toList 0 env (layA C p.n ops.toList 0 ⟨p.n+ops.toList.length,p.t⟩)
     have hbump:p.bump ops.toList.length=⟨p.n+ops.toList.length,p.t⟩:=rfl
     rw[hbump]at hg
     generalize xtr C mu ext call ops.toList (ancs ops.toList []) p.n ops.toList 0 env (layA C p.n ops.toList 0 ⟨p.n+ops.toList.length,p.t⟩)=t at hg hdp hrk
     unfold DrawP at hdp
     cases t with
     |stuck=>exact hg.elim
     |done env' es hs'=>
      obtain⟨⟨q,hq,hQ⟩,hO⟩:=hg
      exact wp_mono (hdp (chkP_of C mu ext call hlow hch hrk.1 hO) q hq) fun ex a w k=>⟨_,_,_,hQ,k⟩
     |pan v q es hs'=>
      obtain⟨hQ,hO⟩:=hg
      exact wp_mono (hdp (chkP_of C mu ext call hlow hch hrk.1 hO)) fun ex a w k=>⟨_,_,_,hQ,k⟩
 |seq x y ihx ihy=>
  intro m S env p a w Q hm hok r he hn hd h
  simp only[okCode,Bool.and_eq_true]at hok
  simp only[zcode]at hm
  cases hx:zcode x with
  |none=>simp[hx]at hm
  |some mx=>
  cases hy:zcode y with
  |none=>simp[hx,hy]at hm
  |some my=>
  simp only[hx,hy,Option.some.injEq]at hm
  subst hm
  simp only[W]at h
  refine wp_seq (wp_mono (ihx mx S env p a w _ hx hok.1 r he hn hd h) ?_)
  rintro ex a' w' ⟨e1,env1,p1,hQ,S',k1,k2,k3,k4,k5,k6⟩
  cases e1 with
  |normal=>
   cases ex<;>simp only[XE.ex,ExitR]at k6
   exact xgo_mono C k1 (ihy my S' env1 p1 a' w' Q hy hok.2 k2 (k3 (by simp)) k4 k5 hQ)
  |exit id=>
   cases ex<;>simp only[XE.ex,ExitR]at k6
   exact⟨.exit id,env1,p1,hQ,S',k1,k2,k3,k4,k5,k6⟩
  |ret=>
   cases ex<;>simp only[XE.ex,ExitR]at k6
   exact⟨.ret,env1,p1,hQ,S',k1,k2,k3,k4,k5,trivial⟩
  |pan v=>
   cases ex<;>simp only[XE.ex,ExitR]at k6
   exact⟨.pan v,env1,p1,hQ,S',k1,k2,k3,k4,k5,k6⟩
  |panU v=>
   cases ex<;>simp only[XE.ex,ExitR]at k6
   exact⟨.panU v,env1,p1,hQ,S',k1,k2,k3,k4,k5,k6⟩
 |cond c x y ihx ihy=>
  intro m S env p a w Q hm hok r he hn hd h
  simp only[okCode,Bool.and_eq_true]at hok
  simp only[zcode]at hm
  cases hx:zcode x with
  |none=>simp[hx]at hm
  |some mx=>
  cases hy:zcode y with
  |none=>simp[hx,hy]at hm
  |some my=>
  simp only[hx,hy,Option.some.injEq]at hm
  subst hm
  simp only[W,condW]at h
  split at h
  ·rename_i t ht
   have hv:=he.eval (x:=c) (a:=a) (by rw[hn];exact hok.1.1)
   rw[ht]at hv
   refine wp_cond_split (VR_sc.1 hv).1 (fun ht=>?_) (fun ht=>?_)
   ·subst ht;exact ihx mx S env p a w Q hx hok.1.2 r he hn hd h
   ·subst ht;exact ihy my S env p a w Q hy hok.2 r he hn hd h
  ·exact h.elim
 |block id c ih=>
  intro m S env p a w Q hm hok r he hn hd h
  simp only[zcode]at hm
  cases hx:zcode c with
  |none=>simp[hx]at hm
  |some mx=>
  simp only[hx,Option.some.injEq]at hm
  subst hm
  simp only[W]at h
  refine wp_block (wp_mono (ih mx S env p a w _ hx hok r he hn hd h) ?_)
  rintro ex a' w' ⟨e1,env1,p1,hQ,S',k1,k2,k3,k4,k5,k6⟩
  cases e1 with
  |exit j=>
   cases ex<;>simp only[XE.ex,ExitR]at k6
   subst k6
   simp only[blkQ]at hQ
   simp only[Exit.inBlock]
   cases hb:Nat.beq j id with
   |true=>
    rw[hb,cond_true]at hQ
    rw[if_pos (Nat.eq_of_beq_eq_true hb)]
    exact⟨.normal,env1,p1,hQ,S',k1,k2,fun _=>k3 (by simp),k4,k5,trivial⟩
   |false=>
    rw[hb,cond_false]at hQ
    rw[if_neg (Nat.ne_of_beq_eq_false hb)]
    exact⟨.exit j,env1,p1,hQ,S',k1,k2,k3,k4,k5,rfl⟩
  |normal=>
   cases ex<;>simp only[XE.ex,ExitR]at k6
   exact⟨.normal,env1,p1,hQ,S',k1,k2,k3,k4,k5,trivial⟩
  |ret=>
   cases ex<;>simp only[XE.ex,ExitR]at k6
   exact⟨.ret,env1,p1,hQ,S',k1,k2,k3,k4,k5,trivial⟩
  |pan v=>
   cases ex<;>simp only[XE.ex,ExitR]at k6
   exact⟨.pan v,env1,p1,hQ,S',k1,k2,k3,k4,k5,k6⟩
  |panU v=>
   cases ex<;>simp only[XE.ex,ExitR]at k6
   exact⟨.panU v,env1,p1,hQ,S',k1,k2,k3,k4,k5,k6⟩
 |loop c ih=>
  intro m S env p a w Q hm hok r he hn hd h
  simp only[zcode]at hm
  cases hx:zcode c with
  |none=>simp[hx]at hm
  |some mx=>
  simp only[hx,Option.some.injEq]at hm
  subst hm
  simp only[W]at h
  obtain⟨f,h⟩:=h
  have key:∀(f:Nat) (S:St) (env:XEnv) (p:Hp) (a:Act) (w:World),XRel w0 B S p w->ER S env.at a.tmps->a.tmps.size=n->a.defers=ds->Wn (W C mu ext call mx) f env.at p Q->
    ∀b k cs,∃ex a' w',XGo w0 B S n ds Q ex a' w'/\Arrives C.P (lone (b.at a (.code c::.inLoop c::k)) cs w) b k cs ex a' w':=by
   intro f
   induction f with
   |zero=>intro S env p a w _ _ _ _ h;exact h.elim
   |succ f ihf=>
    intro S env p a w r he hn hd h b k cs
    simp only[Wn]at h
    obtain⟨ex,a1,w1,⟨e1,env1,p1,hQ,S',k1,k2,k3,k4,k5,k6⟩,harr⟩:=ih mx S env p a w _ hx hok r he hn hd h b (.inLoop c::k) cs
    cases e1 with
    |normal=>
     cases ex<;>simp only[XE.ex,ExitR]at k6
     obtain⟨e2,a2,w2,⟨e3,env3,p3,hQ3,hq2⟩,harr2⟩:=ihf S' env1 p1 a1 w1 k2 (k3 (by simp)) k4 k5 hQ b k cs
     exact⟨e2,a2,w2,⟨e3,env3,p3,hQ3,hq2.mono k1⟩,.of_steps (Steps.trans harr (.one step_inLoop)) harr2⟩
    |exit id=>
     cases ex<;>simp only[XE.ex,ExitR]at k6
     exact⟨.exit _,a1,w1,⟨.exit id,env1,p1,hQ,S',k1,k2,k3,k4,k5,k6⟩,.pass (x:=.inLoop c) rfl (fun _ _=>.inl (by simp)) harr⟩
    |ret=>
     cases ex<;>simp only[XE.ex,ExitR]at k6
     exact⟨.ret,a1,w1,⟨.ret,env1,p1,hQ,S',k1,k2,k3,k4,k5,trivial⟩,.pass (x:=.inLoop c) rfl (fun _ _=>.inl (by simp)) harr⟩
    |pan v=>
     cases ex<;>simp only[XE.ex,ExitR]at k6
     exact⟨.panic _,a1,w1,⟨.pan v,env1,p1,hQ,S',k1,k2,k3,k4,k5,k6⟩,.pass (x:=.inLoop c) rfl (fun _ _=>.inl (by simp)) harr⟩
    |panU v=>
     cases ex<;>simp only[XE.ex,ExitR]at k6
     exact⟨.panic _,a1,w1,⟨.panU v,env1,p1,hQ,S',k1,k2,k3,k4,k5,k6⟩,.pass (x:=.inLoop c) rfl (fun _ _=>.inl (by simp)) harr⟩
  intro b k cs
  obtain⟨ex,a',w',hq,harr⟩:=key f S env p a w r he hn hd h b k cs
  exact⟨ex,a',w',hq,.of_steps (.one step_loop) harr⟩
 |exit id=>
  intro m S env p a w Q hm _ r he hn hd h
  cases hm
  exact wp_exit ⟨.exit id,env,p,h,S,St.ext.refl _,r,fun _=>he,hn,hd,rfl⟩
 |ret=>
  intro m S env p a w Q hm _ r he hn hd h
  cases hm
  exact wp_ret ⟨.ret,env,p,h,S,St.ext.refl _,r,fun _=>he,hn,hd,trivial⟩
 |rangeFunc f ps x y _ _=>intro m S env p a w Q hm;simp[zcode]at hm
 |scope c _=>intro m S env p a w Q hm;simp[zcode]at hm
 |goto l=>intro m S env p a w Q hm;simp[zcode]at hm
 |refuse why=>intro m S env p a w Q hm;simp[zcode]at hm
theorem X0u{f:FuncId}{x:XF}(hf:XFok C f x)(hext:ExtOk C ext)(hT:CallOk C call){m:ZC}(hm:zcode x.code=some m){args:List CV}{p:Hp}{r:XRes}(hl:args.length<=x.n)
  (h:Fine args p->W C mu ext call m (argE args) p (endQ C x.rs fun r'=>ShrR p r' r)):AnsAt C f args p r:=by
 obtain⟨fn,h1,h2,h3,h4,h5,h6,h7⟩:=hf
 refine⟨⟨fn,h1,by rw[h2];rfl,h5⟩,fun w0 B S w vals r0 hV=>?_⟩
 have hW:=h (fine_of r0 hV)
 obtain⟨hvl,_⟩:=K06 _ _ hV
 have hsz:(vals.toArray++Array.replicate (x.n-vals.toArray.size) undef).size=x.n:=by simp;omega
 have he:ER S (putAll 0 args .e).at (vals.toArray++Array.replicate (x.n-vals.toArray.size) undef):=by rw[Q04];exact Q10 hV _
 have hw:=W_sound C mu ext call hext hT (ds:=[]) x.code m S (putAll 0 args .e) p ⟨vals.toArray++Array.replicate (x.n-vals.toArray.size) undef,[]⟩ w (endQ C x.rs fun r'=>ShrR p r' r) hm h6 r0 he hsz rfl (by rw[argE_eq];exact hW)
 have fin:∀(env':XEnv) (p':Hp),finW (zres C env'.at p' x.rs) p' (fun r'=>ShrR p r' r)->∀(a:Act) (w':World) (S':St),S.ext S'->XRel w0 B S' p' w'->ER S' env'.at a.tmps->a.tmps.size=x.n->a.defers=[]->a.defers=[]/\∃v,(results fn a.tmps).run C.P w'=.ok v w'/\∃u q,r=.ret u q/\∃S' y,S.ext S'/\XRel w0 B S' q w'/\VR S' u y/\Ending.returned v=.returned y:=by
  intro env' p' hfin a w' S' k1 k2 k3 k4 k5
  cases hz:zres C env'.at p' x.rs with
  |none=>rw[hz]at hfin;exact hfin.elim
  |some l=>
   rw[hz]at hfin
   cases r with
   |stuck=>exact hfin.elim
   |pan v q=>exact hfin.elim
   |ret u q=>
    obtain⟨σ,hs,hv⟩:=hfin
    obtain⟨S'',g1,g2,g3⟩:=XRel.shr r0 k1 k2 hs
    rw[<- Y1v]at hz
    obtain⟨vs,hvs,hV'⟩:=Y0p C k2.r k3 x.rs l (by rw[k4];exact h7) (Y02 C k2.good _ _ hz)
    exact⟨k5,_,X0z (by rw[h3];exact hvs),u,q,rfl,S'',_,g1,g2,VR.weak g3 hv (VR_pack hV'),rfl⟩
 have pan:∀(v:CV) (p':Hp),ShrR p (.pan v p') r->∀(w':World) (S':St) (y:Value),S.ext S'->XRel w0 B S' p' w'->VR S' v y->∃u q,r=.pan u q/\∃S' x,S.ext S'/\XRel w0 B S' q w'/\VR S' u x/\x=y:=by
  intro v p' hs w' S' y k1 k2 k3
  cases r with
  |stuck=>exact hs.elim
  |ret u q=>exact hs.elim
  |pan u q=>
   obtain⟨σ,hs,hv⟩:=hs
   obtain⟨S'',g1,g2,g3⟩:=XRel.shr r0 k1 k2 hs
   exact⟨u,q,rfl,S'',y,g1,g2,VR.weak g3 hv k3,rfl⟩
 cases r with
 |stuck=>trivial
 |ret u q=>
  refine calls_of_wp h1 h2 ?_
  rw[h4]
  refine wp_mono hw ?_
  rintro ex a w' ⟨e,env',p',hQ,S',k1,k2,k3,k4,k5,k6⟩
  cases e with
  |normal=>
   cases ex<;>simp only[XE.ex,ExitR]at k6
   obtain⟨a1,v,a2,u',q',a3,a4⟩:=fin env' p' hQ a w' S' k1 k2 (k3 (by simp)) k4 k5
   cases a3
   exact⟨a1,v,a2,a4⟩
  |ret=>
   cases ex<;>simp only[XE.ex,ExitR]at k6
   obtain⟨a1,v,a2,u',q',a3,a4⟩:=fin env' p' hQ a w' S' k1 k2 (k3 (by simp)) k4 k5
   cases a3
   exact⟨a1,v,a2,a4⟩
  |pan v=>exact hQ.elim
  |panU v=>exact hQ.elim
  |exit i=>exact hQ.elim
 |pan u q=>
  refine calls_of_wp h1 h2 ?_
  rw[h4]
  refine wp_mono hw ?_
  rintro ex a w' ⟨e,env',p',hQ,S',k1,k2,k3,k4,k5,k6⟩
  have nofin:¬finW (zres C env'.at p' x.rs) p' (fun r'=>ShrR p r' (.pan u q)):=by
   intro h
   unfold finW at h
   split at h
   ·exact h
   ·exact h
  cases e with
  |normal=>exact(nofin hQ).elim
  |ret=>exact(nofin hQ).elim
  |pan v=>
   cases ex<;>simp only[XE.ex,ExitR]at k6
   obtain⟨y,rfl,hy⟩:=k6
   obtain⟨u',q',a3,S'',x',g1,g2,g3,rfl⟩:=pan v p' hQ w' S' y k1 k2 hy
   cases a3
   exact⟨k5,S'',_,g1,g2,g3,rfl⟩
  |panU v=>
   cases ex<;>simp only[XE.ex,ExitR]at k6
   obtain⟨y,rfl,hy⟩:=k6
   obtain⟨u',q',a3,S'',x',g1,g2,g3,rfl⟩:=pan v p' hQ w' S' y k1 k2 hy
   cases a3
   exact⟨k5,S'',_,g1,g2,g3,rfl⟩
  |exit i=>exact hQ.elim
end
end Go.Cl
end
section
namespace Go.Cl
open Go.RowKit
theorem nd{α:Sort _}{a b:α}(h:a=b): a=b:=h
abbrev I(n:Int): CV:=.sc (.int .i64 n)
abbrev U(n:Int): CV:=.sc (.int .u64 n)
abbrev Bo(b:Bool): CV:=.sc (.bool b)
abbrev Fl(n:Nat): CV:=.sc (.float .f64 n)
def nth{α:Type}[Inhabited α](l:List α)(k:Nat): α:=(l[k]?).getD default
theorem V0v{α:Type}[Inhabited α]{l:List α}{k:Nat}(h:k<l.length): l[k]?=some (nth l k):=by simp[nth,h]
theorem V0x{α:Type}[Inhabited α]{l:List α}{k:Nat}(h:k<l.length): nth l k=l[k]:=by simp[nth,h]
structure Lst(α:Type) where
 tl:Tail
 l:List α
 ok:tl=.nil->l=[]
instance {α:Type}: Inhabited (Lst α):=⟨⟨.nil,[],fun _=>rfl⟩⟩
def Lst.cv{α:Type}(f:α->CV)(s:Lst α): CV:=.lst s.tl (s.l.map f)
section values
variable {α:Type}
set_option linter.constructorNameAsVariable false
theorem at_nil(v:CV): v.at []=some v:=by cases v<;>rfl
theorem Y1t(v x:CV): v.set [] x=x:=by cases v<;>rfl
theorem arr_at[Inhabited α](f:α->CV){l:List α}{k:Nat}(h:k<l.length)(q:List Nat): CV.at (.agg (l.map f)) (k::q)=(f (nth l k)).at q:=by
 simp[CV.at,V0x h,h]
theorem Z1x[Inhabited α](f:α->CV){l:List α}{k:Nat}(h:k<l.length)(q:List Nat)(v:CV): CV.set (.agg (l.map f)) (k::q) v=.agg ((l.map f).set k ((f (nth l k)).set q v)):=by
 simp[CV.set,V0x h,h]
theorem Y0h{f:α->CV}{s:Shape}(h:∀x,(f x).shape=s): ∀l:List α,CV.shapes (l.map f)=List.replicate l.length s
 |[]=>rfl
 |x::l=>by simp[CV.shapes,h,Y0h h l,List.replicate_succ]
theorem Lst.shape(f:α->CV)(s:Lst α): (s.cv f).shape=.s:=nd rfl
theorem Lst.has(f:α->CV)(h:∀x j,¬(f x).has j)(s:Lst α)(j:Nat): (s.cv f).has j ↔ s.tl=.own j:=by
 simp only[Lst.cv,CV.has,CV.hasL_iff]
 constructor
 ·rintro(h1|⟨v,hv,hj⟩)
  ·exact h1
  ·obtain⟨x,_,rfl⟩:=List.mem_map.1 hv
   exact(h x j hj).elim
 ·exact .inl
theorem Y1c{f:α->CV}(h:∀x y,f x=f y->x=y): ∀{l m:List α},l.map f=m.map f->l=m
 |[],[],_=>rfl
 |[],_::_,e=>by simp at e
 |_::_,[],e=>by simp at e
 |x::l,y::m,e=>by
  simp only[List.map_cons,List.cons.injEq]at e
  rw[h x y e.1,Y1c h e.2]
theorem Lst.inj{f:α->CV}(h:∀x y,f x=f y->x=y){s t:Lst α}(e:s.cv f=t.cv f): s=t:=by
 obtain⟨tl,l,o⟩:=s
 obtain⟨ul,m,o'⟩:=t
 simp only[Lst.cv,CV.lst.injEq]at e
 obtain⟨rfl,e⟩:=e
 have:=Y1c h e
 subst this
 rfl
theorem Lst.injF{f:α->CV}(h:∀x y,f x=f y->x=y)(s t:Lst α)(e:s.cv f=t.cv f): s=t:=Lst.inj h e
theorem X0n{f:α->CV}(h:∀x j,¬(f x).has j)(l:List α)(j:Nat): ¬CV.hasL j (l.map f):=by
 rw[CV.hasL_iff]
 rintro⟨v,hv,hj⟩
 obtain⟨x,_,rfl⟩:=List.mem_map.1 hv
 exact h x j hj
theorem I_has(n:Int)(j:Nat): ¬(I n).has j:=fun h=>by simp[CV.has]at h
theorem I_inj(a b:Int)(h:I a=I b): a=b:=by injection h with h;injection h
theorem U_inj(a b:Int)(h:U a=U b): a=b:=by injection h with h;injection h
theorem Bo_has(n:Bool)(j:Nat): ¬(Bo n).has j:=fun h=>by simp[CV.has]at h
theorem Bo_inj(a b:Bool)(h:Bo a=Bo b): a=b:=by injection h with h;injection h
theorem Fl_inj(a b:Nat)(h:Fl a=Fl b): a=b:=by injection h with h;injection h
end values
section eqs
theorem cond_pos{α:Type}{P:Prop}[Decidable P](h:P)(a b:α): cond (decide P) a b=a:=by simp[h]
theorem cond_neg{α:Type}{P:Prop}[Decidable P](h:¬P)(a b:α): cond (decide P) a b=b:=by simp[h]
theorem inR_dec(n:Int)(k:Nat): inR n k=decide (0<=n/\n<k):=by
 cases h:inR n k with
 |true=>obtain⟨h1,h2,_⟩:=inR_spec h;simp[h1,h2]
 |false=>
  unfold inR at h
  cases n with
  |ofNat m=>
   simp only[Y09]at h
   simp at h ⊢;omega
  |negSucc m=>
   have:¬(0<=Int.negSucc m):=by omega
   simp[this]
theorem Hp.get_set_self(p:Hp)(i:Nat)(o:Option XObj): (p.set i o).t.get i=o:=by rw[Hp.get_set,if_pos rfl]
theorem Hp.get_set_ne(p:Hp)(i:Nat)(o:Option XObj){j:Nat}(h:j≠i): (p.set i o).t.get j=p.t.get j:=by rw[Hp.get_set,if_neg h]
theorem Hp.get_new_self(p:Hp)(o:XObj): (p.new o).t.get p.n=some o:=by rw[Hp.get_new,if_pos rfl]
theorem Hp.get_new_ne(p:Hp)(o:XObj){j:Nat}(h:j≠p.n): (p.new o).t.get j=p.t.get j:=by rw[Hp.get_new,if_neg h]
theorem Hp.znew_n(p:Hp)(o:XObj): (p.new o).n=p.n+1:=nd rfl
theorem Hp.zset_n(p:Hp)(i:Nat)(o:Option XObj): (p.set i o).n=p.n:=nd rfl
theorem Hp.get_new_eq(p:Hp)(o:XObj){j:Nat}(h:j=p.n): (p.new o).t.get j=some o:=by rw[Hp.get_new,if_pos h]
theorem Hp.bump_get(p:Hp)(n j:Nat): (p.bump n).t.get j=p.t.get j:=nd rfl
theorem Hp.bump_n(p:Hp)(n:Nat): (p.bump n).n=p.n+n:=nd rfl
theorem ofConst_str(b:ByteArray): ofConst (.string b)=.sc (.string b):=nd rfl
theorem Z08: ofConst (.slice none 0 0)=.lst .nil []:=nd rfl
theorem Q1k: ofConst (.pointer none)=.sc (.pointer none):=nd rfl
theorem K1b: ofConst .nilFunc=.sc .nilFunc:=nd rfl
theorem Z1v: ofConst .nilIface=.sc .nilIface:=nd rfl
theorem K1j: ofConst (.map none)=.sc (.map none):=nd rfl
theorem put_at(ρ:Env)(d:Tmp)(v:CV)(t:Nat): put ρ (some d) v t=if t=d then v else ρ t:=nd rfl
theorem zev_tmp(ρ:Env)(t:Tmp): ev ρ (.tmp t)=ρ t:=nd rfl
theorem zev_const(ρ:Env)(v:Value): ev ρ (.const v)=ofConst v:=nd rfl
theorem zev_func(ρ:Env)(f:FuncId): ev ρ (.func f)=.fn f [] []:=nd rfl
theorem zofConst_int(k:IntKind)(n:Int): ofConst (.int k n)=.sc (.int k n):=nd rfl
theorem V1q(b:Bool): ofConst (.bool b)=.sc (.bool b):=nd rfl
theorem V1k(k:FloatKind)(b:Nat): ofConst (.float k b)=.sc (.float k b):=nd rfl
theorem Q0d(ρ:Env)(v:CV): put ρ none v=ρ:=nd rfl
theorem Z0d(a:CV)(l:List CV): argE (a::l) 0=a:=nd rfl
theorem X0l(a:CV)(l:List CV)(t:Nat): argE (a::l) (t+1)=argE l t:=by simp[argE]
theorem seqQ_n(k:Env->Hp->ZQ->Prop)(Q:ZQ)(ρ:Env)(p:Hp): seqQ k Q .normal ρ p=k ρ p Q:=nd rfl
theorem seqQ_e(k:Env->Hp->ZQ->Prop)(Q:ZQ)(i:Nat)(ρ:Env)(p:Hp): seqQ k Q (.exit i) ρ p=Q (.exit i) ρ p:=nd rfl
theorem seqQ_r(k:Env->Hp->ZQ->Prop)(Q:ZQ)(ρ:Env)(p:Hp): seqQ k Q .ret ρ p=Q .ret ρ p:=nd rfl
theorem seqQ_p(k:Env->Hp->ZQ->Prop)(Q:ZQ)(v:CV)(ρ:Env)(p:Hp): seqQ k Q (.pan v) ρ p=Q (.pan v) ρ p:=nd rfl
theorem seqQ_u(k:Env->Hp->ZQ->Prop)(Q:ZQ)(v:CV)(ρ:Env)(p:Hp): seqQ k Q (.panU v) ρ p=Q (.panU v) ρ p:=nd rfl
theorem blkQ_n(id:Nat)(Q:ZQ)(ρ:Env)(p:Hp): blkQ id Q .normal ρ p=Q .normal ρ p:=nd rfl
theorem blkQ_e(id:Nat)(Q:ZQ)(i:Nat)(ρ:Env)(p:Hp): blkQ id Q (.exit i) ρ p=if i=id then Q .normal ρ p else Q (.exit i) ρ p:=by
 show(bif Nat.beq i id then Q .normal ρ p else Q (.exit i) ρ p)=_
 cases h:Nat.beq i id with
 |true=>rw[if_pos (Nat.eq_of_beq_eq_true h)];rfl
 |false=>rw[if_neg (Nat.ne_of_beq_eq_false h)];rfl
theorem blkQ_r(id:Nat)(Q:ZQ)(ρ:Env)(p:Hp): blkQ id Q .ret ρ p=Q .ret ρ p:=nd rfl
theorem blkQ_p(id:Nat)(Q:ZQ)(v:CV)(ρ:Env)(p:Hp): blkQ id Q (.pan v) ρ p=Q (.pan v) ρ p:=nd rfl
theorem blkQ_u(id:Nat)(Q:ZQ)(v:CV)(ρ:Env)(p:Hp): blkQ id Q (.panU v) ρ p=Q (.panU v) ρ p:=nd rfl
theorem condW_t(a b:Env->Hp->ZQ->Prop)(ρ:Env)(p:Hp)(Q:ZQ): condW (.sc (.bool true)) a b ρ p Q=a ρ p Q:=nd rfl
theorem condW_f(a b:Env->Hp->ZQ->Prop)(ρ:Env)(p:Hp)(Q:ZQ): condW (.sc (.bool false)) a b ρ p Q=b ρ p Q:=nd rfl
theorem condW_not(t:Bool)(a b:Env->Hp->ZQ->Prop)(ρ:Env)(p:Hp)(Q:ZQ): condW (.sc (.bool (!t))) a b ρ p Q=condW (.sc (.bool t)) b a ρ p Q:=by cases t<;>rfl
theorem condW_b{t:Bool}{a b:Env->Hp->ZQ->Prop}{ρ:Env}{p:Hp}{Q:ZQ}(h1:t=true->a ρ p Q)(h2:t=false->b ρ p Q): condW (.sc (.bool t)) a b ρ p Q:=by
 cases t with
 |true=>exact h1 rfl
 |false=>exact h2 rfl
end eqs
section steps
variable (C:Ctx) (mu:Bool) (ext:FuncId->List CV->Option CV) (call:XCall)
def bindO(r:XRes)(d:Option Tmp)(k:Env->Hp->ZQ->Prop)(ρ:Env)(Q:ZQ): Prop:=
 match r with
 |.ret v q=>k (put ρ d v) q Q
 |.pan v q=>Q (.pan v) ρ q
 |.stuck=>False
def wantO(w:Option Bool)(r:XRes)(d:Option Tmp)(k:Env->Hp->ZQ->Prop)(ρ:Env)(p:Hp)(Q:ZQ): Prop:=
 match w with
 |some true=>bindO r d k ρ Q
 |some false=>k (put ρ d (.tup [])) p Q
 |none=>False
theorem Wo_nil(ρ:Env)(p:Hp)(Q:ZQ): Wo C mu ext call [] ρ p Q=Q .normal ρ p:=nd rfl
theorem Wo_on(d:Option Tmp)(o:Op)(f:Bool)(l:List LOp)(ρ:Env)(p:Hp)(Q:ZQ): Wo C mu ext call (⟨d,o,none,f⟩::l) ρ p Q=bindO (zopm C mu ext call ρ p o) d (Wo C mu ext call l) ρ Q:=nd rfl
theorem Wo_gd(d:Option Tmp)(o:Op)(t:Tmp)(w:Bool)(f:Bool)(l:List LOp)(ρ:Env)(p:Hp)(Q:ZQ): Wo C mu ext call (⟨d,o,some (t,w),f⟩::l) ρ p Q=wantO (zwanted ρ (some (t,w))) (zopm C mu ext call ρ p o) d (Wo C mu ext call l) ρ p Q:=by
 simp only[Wo,wantO,bindO]
 cases zwanted ρ (some (t,w)) with
 |none=>rfl
 |some b=>cases b<;>rfl
theorem bindO_ret(v:CV)(q:Hp)(d:Option Tmp)(k:Env->Hp->ZQ->Prop)(ρ:Env)(Q:ZQ): bindO (.ret v q) d k ρ Q=k (put ρ d v) q Q:=nd rfl
theorem bindO_ite{c:Prop}[Decidable c](a b:XRes)(d:Option Tmp)(k:Env->Hp->ZQ->Prop)(ρ:Env)(Q:ZQ): bindO (if c then a else b) d k ρ Q ↔ ((c->bindO a d k ρ Q)/\(¬c->bindO b d k ρ Q)):=by
 by_cases h:c<;>simp[h]
theorem bindO_i{c:Prop}[Decidable c]{a b:XRes}{d:Option Tmp}{k:Env->Hp->ZQ->Prop}{ρ:Env}{Q:ZQ}(h1:c->bindO a d k ρ Q)(h2:¬c->bindO b d k ρ Q): bindO (if c then a else b) d k ρ Q:=(bindO_ite a b d k ρ Q).2 ⟨h1,h2⟩
theorem wantO_s{b:Bool}{r:XRes}{d:Option Tmp}{k:Env->Hp->ZQ->Prop}{ρ:Env}{p:Hp}{Q:ZQ}(h1:b=true->bindO r d k ρ Q)(h2:b=false->k (put ρ d (.tup [])) p Q): wantO (some b) r d k ρ p Q:=by
 cases b with
 |true=>exact h1 rfl
 |false=>exact h2 rfl
theorem bindO_pan(v:CV)(q:Hp)(d:Option Tmp)(k:Env->Hp->ZQ->Prop)(ρ:Env)(Q:ZQ): bindO (.pan v q) d k ρ Q=Q (.pan v) ρ q:=nd rfl
theorem wantO_t(r:XRes)(d:Option Tmp)(k:Env->Hp->ZQ->Prop)(ρ:Env)(p:Hp)(Q:ZQ): wantO (some true) r d k ρ p Q=bindO r d k ρ Q:=nd rfl
theorem wantO_f(r:XRes)(d:Option Tmp)(k:Env->Hp->ZQ->Prop)(ρ:Env)(p:Hp)(Q:ZQ): wantO (some false) r d k ρ p Q=k (put ρ d (.tup [])) p Q:=nd rfl
theorem zwanted_b(ρ:Env)(t:Tmp)(w:Bool): zwanted ρ (some (t,w))=match ρ t with
 |.sc (.bool b)=>some (b==w)
 |.tup []=>some false
 |_=>none:=rfl
noncomputable def stepD(k:Kind)(n0:Nat)(ρ0:Env)(o:DOp)(l:List DOp)(hist:List (Nat×Hp))(wt:List Watch)(ρ:Env)(p:Hp)(Q:ZQ): Prop:=
 match k with
 |.quiet=>match zop C mu ext call ρ p o.op with
  |.ret v _=>histP C mu ext call n0 ⟨o.fw,o.ix,ρ,o.op,v⟩ o.bk hist/\Wd C mu ext call n0 ρ0 l hist (pushW ⟨o.fw,o.ix,ρ,o.op,v⟩ wt) (put ρ o.dst v) p Q
  |_=>False
 |.alloc=>still C mu ext call n0 ⟨o.fw,o.ix,ρ,o.op,allocV o.op (n0+o.ix)⟩ p/\histP C mu ext call n0 ⟨o.fw,o.ix,ρ,o.op,allocV o.op (n0+o.ix)⟩ o.bk hist/\Wd C mu ext call n0 ρ0 l hist (pushW ⟨o.fw,o.ix,ρ,o.op,allocV o.op (n0+o.ix)⟩ wt) (put ρ o.dst (allocV o.op (n0+o.ix))) p Q
 |.eff=>match zop C mu ext call ρ p o.op with
  |.ret v q=>(∀w∈wt,o.ix∈w.fw->still C mu ext call n0 w q)/\Wd C mu ext call n0 ρ0 l (pushH o.keep (o.ix,p) hist) wt (put ρ o.dst v) q Q
  |.pan v q=>o.fin=true/\Q (.panU v) ρ0 q
  |.stuck=>False
noncomputable def bindQ(r:XRes)(n0:Nat)(ρ0:Env)(o:DOp)(l:List DOp)(hist:List (Nat×Hp))(wt:List Watch)(ρ:Env)(p:Hp)(Q:ZQ): Prop:=
 match r with
 |.ret v _=>histP C mu ext call n0 ⟨o.fw,o.ix,ρ,o.op,v⟩ o.bk hist/\Wd C mu ext call n0 ρ0 l hist (pushW ⟨o.fw,o.ix,ρ,o.op,v⟩ wt) (put ρ o.dst v) p Q
 |_=>False
noncomputable def bindE(r:XRes)(n0:Nat)(ρ0:Env)(o:DOp)(l:List DOp)(hist:List (Nat×Hp))(wt:List Watch)(ρ:Env)(p:Hp)(Q:ZQ): Prop:=
 match r with
 |.ret v q=>(∀w∈wt,o.ix∈w.fw->still C mu ext call n0 w q)/\Wd C mu ext call n0 ρ0 l (pushH o.keep (o.ix,p) hist) wt (put ρ o.dst v) q Q
 |.pan v q=>o.fin=true/\Q (.panU v) ρ0 q
 |.stuck=>False
theorem Wd_nil(n0:Nat)(ρ0:Env)(hist:List (Nat×Hp))(wt:List Watch)(ρ:Env)(p:Hp)(Q:ZQ): Wd C mu ext call n0 ρ0 [] hist wt ρ p Q=Q .normal ρ p:=nd rfl
theorem Wd_on(n0:Nat)(ρ0:Env)(ix:Nat)(d:Option Tmp)(op:Op)(fin:Bool)(bk fw:List Nat)(keep:Bool)(l:List DOp)(hist:List (Nat×Hp))(wt:List Watch)(ρ:Env)(p:Hp)(Q:ZQ):
  Wd C mu ext call n0 ρ0 (⟨ix,d,op,none,fin,bk,fw,keep⟩::l) hist wt ρ p Q=stepD C mu ext call (kindOf op) n0 ρ0 ⟨ix,d,op,none,fin,bk,fw,keep⟩ l hist wt ρ p Q:=by
 simp only[Wd,zwanted,stepD]<;>rfl
noncomputable def wantD(w:Option Bool)(k:Kind)(n0:Nat)(ρ0:Env)(o:DOp)(l:List DOp)(hist:List (Nat×Hp))(wt:List Watch)(ρ:Env)(p:Hp)(Q:ZQ): Prop:=
 match w with
 |some true=>stepD C mu ext call k n0 ρ0 o l hist wt ρ p Q
 |some false=>Wd C mu ext call n0 ρ0 l hist wt (put ρ o.dst (.tup [])) p Q
 |none=>False
theorem Wd_gd(n0:Nat)(ρ0:Env)(ix:Nat)(d:Option Tmp)(op:Op)(t:Tmp)(b:Bool)(fin:Bool)(bk fw:List Nat)(keep:Bool)(l:List DOp)(hist:List (Nat×Hp))(wt:List Watch)(ρ:Env)(p:Hp)(Q:ZQ):
  Wd C mu ext call n0 ρ0 (⟨ix,d,op,some (t,b),fin,bk,fw,keep⟩::l) hist wt ρ p Q=wantD C mu ext call (zwanted ρ (some (t,b))) (kindOf op) n0 ρ0 ⟨ix,d,op,some (t,b),fin,bk,fw,keep⟩ l hist wt ρ p Q:=by
 simp only[Wd,wantD,stepD]
 cases zwanted ρ (some (t,b)) with
 |none=>rfl
 |some x=>
  cases x with
  |false=>rfl
  |true=>
   first|(simp only;done)|(simp only;cases kindOf op<;>first|rfl|(simp only;cases zop C mu ext call ρ p op<;>rfl))
theorem wantD_t(k:Kind)(n0:Nat)(ρ0:Env)(o:DOp)(l:List DOp)(hist:List (Nat×Hp))(wt:List Watch)(ρ:Env)(p:Hp)(Q:ZQ): wantD C mu ext call (some true) k n0 ρ0 o l hist wt ρ p Q=stepD C mu ext call k n0 ρ0 o l hist wt ρ p Q:=nd rfl
theorem wantD_f(k:Kind)(n0:Nat)(ρ0:Env)(ix:Nat)(d:Option Tmp)(op:Op)(g:Option (Tmp×Bool))(fin:Bool)(bk fw:List Nat)(keep:Bool)(l:List DOp)(hist:List (Nat×Hp))(wt:List Watch)(ρ:Env)(p:Hp)(Q:ZQ): wantD C mu ext call (some false) k n0 ρ0 ⟨ix,d,op,g,fin,bk,fw,keep⟩ l hist wt ρ p Q=Wd C mu ext call n0 ρ0 l hist wt (put ρ d (.tup [])) p Q:=nd rfl
theorem wantD_s{b:Bool}{k:Kind}{n0:Nat}{ρ0:Env}{o:DOp}{l:List DOp}{hist:List (Nat×Hp)}{wt:List Watch}{ρ:Env}{p:Hp}{Q:ZQ}(h1:b=true->stepD C mu ext call k n0 ρ0 o l hist wt ρ p Q)(h2:b=false->Wd C mu ext call n0 ρ0 l hist wt (put ρ o.dst (.tup [])) p Q): wantD C mu ext call (some b) k n0 ρ0 o l hist wt ρ p Q:=by
 cases b with
 |true=>exact h1 rfl
 |false=>exact h2 rfl
theorem bindE_i{c:Prop}[Decidable c]{a b:XRes}{n0:Nat}{ρ0:Env}{o:DOp}{l:List DOp}{hist:List (Nat×Hp)}{wt:List Watch}{ρ:Env}{p:Hp}{Q:ZQ}(h1:c->bindE C mu ext call a n0 ρ0 o l hist wt ρ p Q)(h2:¬c->bindE C mu ext call b n0 ρ0 o l hist wt ρ p Q): bindE C mu ext call (if c then a else b) n0 ρ0 o l hist wt ρ p Q:=by
 by_cases h:c
 ·rw[if_pos h];exact h1 h
 ·rw[if_neg h];exact h2 h
theorem stepD_q(n0:Nat)(ρ0:Env)(ix:Nat)(d:Option Tmp)(op:Op)(g:Option (Tmp×Bool))(fin:Bool)(bk fw:List Nat)(keep:Bool)(l:List DOp)(hist:List (Nat×Hp))(wt:List Watch)(ρ:Env)(p:Hp)(Q:ZQ):
 stepD C mu ext call .quiet n0 ρ0 ⟨ix,d,op,g,fin,bk,fw,keep⟩ l hist wt ρ p Q=bindQ C mu ext call (zop C mu ext call ρ p op) n0 ρ0 ⟨ix,d,op,g,fin,bk,fw,keep⟩ l hist wt ρ p Q:=nd rfl
theorem stepD_e(n0:Nat)(ρ0:Env)(ix:Nat)(d:Option Tmp)(op:Op)(g:Option (Tmp×Bool))(fin:Bool)(bk fw:List Nat)(keep:Bool)(l:List DOp)(hist:List (Nat×Hp))(wt:List Watch)(ρ:Env)(p:Hp)(Q:ZQ):
  stepD C mu ext call .eff n0 ρ0 ⟨ix,d,op,g,fin,bk,fw,keep⟩ l hist wt ρ p Q=bindE C mu ext call (zop C mu ext call ρ p op) n0 ρ0 ⟨ix,d,op,g,fin,bk,fw,keep⟩ l hist wt ρ p Q:=by
 simp only[stepD,bindE]
theorem stepD_a(n0:Nat)(ρ0:Env)(ix:Nat)(d:Option Tmp)(op:Op)(g:Option (Tmp×Bool))(fin:Bool)(bk fw:List Nat)(keep:Bool)(l:List DOp)(hist:List (Nat×Hp))(wt:List Watch)(ρ:Env)(p:Hp)(Q:ZQ):
 stepD C mu ext call .alloc n0 ρ0 ⟨ix,d,op,g,fin,bk,fw,keep⟩ l hist wt ρ p Q=(still C mu ext call n0 ⟨fw,ix,ρ,op,allocV op (n0+ix)⟩ p/\histP C mu ext call n0 ⟨fw,ix,ρ,op,allocV op (n0+ix)⟩ bk hist/\Wd C mu ext call n0 ρ0 l hist (pushW ⟨fw,ix,ρ,op,allocV op (n0+ix)⟩ wt) (put ρ d (allocV op (n0+ix))) p Q):=nd rfl
theorem bindQ_ret(v:CV)(q:Hp)(n0:Nat)(ρ0:Env)(ix:Nat)(d:Option Tmp)(op:Op)(g:Option (Tmp×Bool))(fin:Bool)(bk fw:List Nat)(keep:Bool)(l:List DOp)(hist:List (Nat×Hp))(wt:List Watch)(ρ:Env)(p:Hp)(Q:ZQ):
 bindQ C mu ext call (.ret v q) n0 ρ0 ⟨ix,d,op,g,fin,bk,fw,keep⟩ l hist wt ρ p Q=(histP C mu ext call n0 ⟨fw,ix,ρ,op,v⟩ bk hist/\Wd C mu ext call n0 ρ0 l hist (pushW ⟨fw,ix,ρ,op,v⟩ wt) (put ρ d v) p Q):=nd rfl
noncomputable def stillK(k:Kind)(n0:Nat)(ix:Nat)(ρ:Env)(op:Op)(v:CV)(q:Hp): Prop:=
 match k with
 |.alloc=>∃ob,q.t.get (n0+ix)=some ob/\allocObj C op=some ob
 |_=>zop C mu ext call ρ q op=.ret v q
theorem still_eq(n0:Nat)(fw:List Nat)(ix:Nat)(ρ:Env)(op:Op)(v:CV)(q:Hp): still C mu ext call n0 ⟨fw,ix,ρ,op,v⟩ q=stillK C mu ext call (kindOf op) n0 ix ρ op v q:=nd rfl
theorem stillK_q(n0:Nat)(ix:Nat)(ρ:Env)(op:Op)(v:CV)(q:Hp): stillK C mu ext call .quiet n0 ix ρ op v q=(zop C mu ext call ρ q op=.ret v q):=nd rfl
theorem stillK_a(n0:Nat)(ix:Nat)(ρ:Env)(op:Op)(v:CV)(q:Hp): stillK C mu ext call .alloc n0 ix ρ op v q=(∃ob,q.t.get (n0+ix)=some ob/\allocObj C op=some ob):=nd rfl
def memN: List Nat->Nat->Bool
 |[],_=>false
 |a::l,i=>bif Nat.beq a i then true else memN l i
theorem V01(i:Nat): ∀l,memN l i=true ↔ i∈l
 |[]=>by simp[memN]
 |a::l=>by
  simp only[memN,List.mem_cons]
  cases h:Nat.beq a i with
  |true=>simp[(Nat.eq_of_beq_eq_true h).symm]
  |false=>simp[V01 i l,Ne.symm (Nat.ne_of_beq_eq_false h)]
theorem memN_nil(i:Nat): memN [] i=false:=nd rfl
theorem memN_cons(a:Nat)(l:List Nat)(i:Nat): memN (a::l) i=if a=i then true else memN l i:=by
 simp only[memN]
 cases h:Nat.beq a i with
 |true=>rw[if_pos (Nat.eq_of_beq_eq_true h)];rfl
 |false=>rw[if_neg (Nat.ne_of_beq_eq_false h)];rfl
noncomputable def allW(n0:Nat)(ix:Nat)(q:Hp): List Watch->Prop
 |[]=>True
 |w::wt=>(bif memN w.fw ix then still C mu ext call n0 w q else True)/\allW n0 ix q wt
theorem allW_iff(n0:Nat)(ix:Nat)(q:Hp): ∀wt,(∀w∈wt,ix∈w.fw->still C mu ext call n0 w q) ↔ allW C mu ext call n0 ix q wt
 |[]=>by simp[allW]
 |w::wt=>by
  simp only[allW,List.mem_cons,forall_eq_or_imp,allW_iff n0 ix q wt]
  cases h:memN w.fw ix with
  |true=>simp[(V01 ix w.fw).1 h]
  |false=>
   have:¬ix∈w.fw:=fun k=>by rw[(V01 ix w.fw).2 k]at h;cases h
   simp[this]
theorem allW_nil(n0:Nat)(ix:Nat)(q:Hp): allW C mu ext call n0 ix q []=True:=nd rfl
theorem allW_cons(n0:Nat)(ix:Nat)(q:Hp)(fw:List Nat)(jx:Nat)(ρ:Env)(op:Op)(v:CV)(wt:List Watch): allW C mu ext call n0 ix q (⟨fw,jx,ρ,op,v⟩::wt)=((bif memN fw ix then stillK C mu ext call (kindOf op) n0 jx ρ op v q else True)/\allW C mu ext call n0 ix q wt):=nd rfl
noncomputable def histA(n0:Nat)(w:Watch)(bk:List Nat): List (Nat×Hp)->Prop
 |[]=>True
 |x::hist=>(bif memN bk x.1 then still C mu ext call n0 w x.2 else True)/\histA n0 w bk hist
theorem histA_iff(n0:Nat)(w:Watch)(bk:List Nat): ∀hist,(∀x∈hist,x.1∈bk->still C mu ext call n0 w x.2) ↔ histA C mu ext call n0 w bk hist
 |[]=>by simp[histA]
 |x::hist=>by
  simp only[histA,List.mem_cons,forall_eq_or_imp,histA_iff n0 w bk hist]
  cases h:memN bk x.1 with
  |true=>simp[(V01 x.1 bk).1 h]
  |false=>
   have:¬x.1∈bk:=fun k=>by rw[(V01 x.1 bk).2 k]at h;cases h
   simp[this]
theorem histA_nil(n0:Nat)(w:Watch)(bk:List Nat): histA C mu ext call n0 w bk []=True:=nd rfl
theorem histA_cons(n0:Nat)(fw:List Nat)(jx:Nat)(ρ:Env)(op:Op)(v:CV)(bk:List Nat)(i:Nat)(h:Hp)(hist:List (Nat×Hp)): histA C mu ext call n0 ⟨fw,jx,ρ,op,v⟩ bk ((i,h)::hist)=((bif memN bk i then stillK C mu ext call (kindOf op) n0 jx ρ op v h else True)/\histA C mu ext call n0 ⟨fw,jx,ρ,op,v⟩ bk hist):=nd rfl
theorem bindE_ret(v:CV)(q:Hp)(n0:Nat)(ρ0:Env)(ix:Nat)(d:Option Tmp)(op:Op)(g:Option (Tmp×Bool))(fin:Bool)(bk fw:List Nat)(keep:Bool)(l:List DOp)(hist:List (Nat×Hp))(wt:List Watch)(ρ:Env)(p:Hp)(Q:ZQ):
  bindE C mu ext call (.ret v q) n0 ρ0 ⟨ix,d,op,g,fin,bk,fw,keep⟩ l hist wt ρ p Q=(allW C mu ext call n0 ix q wt/\Wd C mu ext call n0 ρ0 l (pushH keep (ix,p) hist) wt (put ρ d v) q Q):=by
 rw[<- allW_iff];rfl
theorem bindE_pan(v:CV)(q:Hp)(n0:Nat)(ρ0:Env)(ix:Nat)(d:Option Tmp)(op:Op)(g:Option (Tmp×Bool))(fin:Bool)(bk fw:List Nat)(keep:Bool)(l:List DOp)(hist:List (Nat×Hp))(wt:List Watch)(ρ:Env)(p:Hp)(Q:ZQ):
 bindE C mu ext call (.pan v q) n0 ρ0 ⟨ix,d,op,g,fin,bk,fw,keep⟩ l hist wt ρ p Q=(fin=true/\Q (.panU v) ρ0 q):=nd rfl
theorem histP_nil(n0:Nat)(w:Watch)(hist:List (Nat×Hp)): histP C mu ext call n0 w [] hist=True:=nd rfl
theorem histP_cons(n0:Nat)(w:Watch)(b:Nat)(bk:List Nat)(hist:List (Nat×Hp)): histP C mu ext call n0 w (b::bk) hist=histA C mu ext call n0 w (b::bk) hist:=by
 rw[<- histA_iff];rfl
theorem pushW_nil(ix:Nat)(ρ:Env)(op:Op)(v:CV)(wt:List Watch): pushW ⟨[],ix,ρ,op,v⟩ wt=wt:=nd rfl
theorem pushW_cons(f:Nat)(fw:List Nat)(ix:Nat)(ρ:Env)(op:Op)(v:CV)(wt:List Watch): pushW ⟨f::fw,ix,ρ,op,v⟩ wt=⟨f::fw,ix,ρ,op,v⟩::wt:=nd rfl
theorem pushH_t(x:Nat×Hp)(hist:List (Nat×Hp)): pushH true x hist=x::hist:=nd rfl
theorem pushH_f(x:Nat×Hp)(hist:List (Nat×Hp)): pushH false x hist=hist:=nd rfl
theorem W_skip(ρ:Env)(p:Hp)(Q:ZQ): W C mu ext call .skip ρ p Q=Q .normal ρ p:=nd rfl
theorem W_reg(l:List LOp)(ρ:Env)(p:Hp)(Q:ZQ): W C mu ext call (.reg l) ρ p Q=Wo C mu ext call l ρ p Q:=nd rfl
theorem W_draw(n:Nat)(als:List (Nat×Op))(l:List DOp)(ρ:Env)(p:Hp)(Q:ZQ): W C mu ext call (.draw n als l) ρ p Q=Wd C mu ext call p.n ρ l [] [] ρ (layZ C p.n als (p.bump n)) Q:=nd rfl
theorem W_seq(a b:ZC)(ρ:Env)(p:Hp)(Q:ZQ): W C mu ext call (.seq a b) ρ p Q=W C mu ext call a ρ p (seqQ (W C mu ext call b) Q):=nd rfl
theorem W_cond(x:Operand)(a b:ZC)(ρ:Env)(p:Hp)(Q:ZQ): W C mu ext call (.cond x a b) ρ p Q=condW (ev ρ x) (W C mu ext call a) (W C mu ext call b) ρ p Q:=nd rfl
theorem W_block(id:Nat)(c:ZC)(ρ:Env)(p:Hp)(Q:ZQ): W C mu ext call (.block id c) ρ p Q=W C mu ext call c ρ p (blkQ id Q):=nd rfl
theorem W_exit(i:Nat)(ρ:Env)(p:Hp)(Q:ZQ): W C mu ext call (.exit i) ρ p Q=Q (.exit i) ρ p:=nd rfl
theorem W_ret(ρ:Env)(p:Hp)(Q:ZQ): W C mu ext call .ret ρ p Q=Q .ret ρ p:=nd rfl
theorem layZ_nil(n0:Nat)(p:Hp): layZ C n0 [] p=p:=nd rfl
theorem layZ_cons(n0 i:Nat)(o:Op)(l:List (Nat×Op))(p:Hp): layZ C n0 ((i,o)::l) p=layZ C n0 l (match allocObj C o with
 |some ob=>p.set (n0+i) (some ob)
 |none=>p):=rfl
theorem endQ_n(rs:List ResultVar)(K:XRes->Prop)(ρ:Env)(p:Hp): endQ C rs K .normal ρ p=finW (zres C ρ p rs) p K:=nd rfl
theorem endQ_r(rs:List ResultVar)(K:XRes->Prop)(ρ:Env)(p:Hp): endQ C rs K .ret ρ p=finW (zres C ρ p rs) p K:=nd rfl
theorem endQ_p(rs:List ResultVar)(K:XRes->Prop)(v:CV)(ρ:Env)(p:Hp): endQ C rs K (.pan v) ρ p=K (.pan v p):=nd rfl
theorem endQ_u(rs:List ResultVar)(K:XRes->Prop)(v:CV)(ρ:Env)(p:Hp): endQ C rs K (.panU v) ρ p=K (.pan v p):=nd rfl
theorem finW_some(l:List CV)(p:Hp)(K:XRes->Prop): finW (some l) p K=K (.ret (pack l) p):=nd rfl
theorem zres_nil(ρ:Env)(p:Hp): zres C ρ p []=some []:=nd rfl
theorem zres_tmp(ρ:Env)(p:Hp)(t:Tmp)(l:List ResultVar): zres C ρ p (.tmp t::l)=match zres C ρ p l with
 |some vs=>some (ρ t::vs)
 |none=>none:=rfl
theorem zres_cell(ρ:Env)(p:Hp)(a:Tmp)(t:TypeId)(l:List ResultVar): zres C ρ p (.cell a t::l)=match xload C p t (ρ a),zres C ρ p l with
 |some v,some vs=>some (v::vs)
 |_,_=>none:=rfl
theorem pack_1(v:CV): pack [v]=v:=nd rfl
theorem pack_0: pack []=.tup []:=nd rfl
theorem pack_2(a b:CV)(l:List CV): pack (a::b::l)=.tup (a::b::l):=nd rfl
theorem Q1d{k k':Env->Hp->ZQ->Prop}{Q Q':ZQ}(hk:∀ρ p,k ρ p Q->k' ρ p Q')(hQ:∀e ρ p,Q e ρ p->Q' e ρ p): ∀e ρ p,seqQ k Q e ρ p->seqQ k' Q' e ρ p:=by
 intro e ρ p h
 cases e with
 |normal=>exact hk _ _ h
 |exit i=>exact hQ _ _ _ h
 |ret=>exact hQ _ _ _ h
 |pan v=>exact hQ _ _ _ h
 |panU v=>exact hQ _ _ _ h
theorem blkQ_mono{id:Nat}{Q Q':ZQ}(hQ:∀e ρ p,Q e ρ p->Q' e ρ p): ∀e ρ p,blkQ id Q e ρ p->blkQ id Q' e ρ p:=by
 intro e ρ p h
 cases e with
 |normal=>exact hQ _ _ _ h
 |exit i=>rw[blkQ_e]at h ⊢;split at h<;>simp_all
 |ret=>exact hQ _ _ _ h
 |pan v=>exact hQ _ _ _ h
 |panU v=>exact hQ _ _ _ h
theorem Wo_mono{Q Q':ZQ}(hQ:∀e ρ p,Q e ρ p->Q' e ρ p): ∀(l:List LOp) (ρ:Env) (p:Hp),Wo C mu ext call l ρ p Q->Wo C mu ext call l ρ p Q'
 |[],ρ,p,h=>hQ _ _ _ h
 |o::l,ρ,p,h=>by
  simp only[Wo]at h ⊢
  split at h
  ·exact h.elim
  ·exact Wo_mono hQ l _ _ h
  ·split at h
   ·exact Wo_mono hQ l _ _ h
   ·exact hQ _ _ _ h
   ·exact h.elim
theorem X1c{n0:Nat}{ρ0:Env}{Q Q':ZQ}(hQ:∀e ρ p,Q e ρ p->Q' e ρ p): ∀(l:List DOp) (hist:List (Nat×Hp)) (wt:List Watch) (ρ:Env) (p:Hp),Wd C mu ext call n0 ρ0 l hist wt ρ p Q->Wd C mu ext call n0 ρ0 l hist wt ρ p Q'
 |[],_,_,ρ,p,h=>hQ _ _ _ h
 |o::l,hist,wt,ρ,p,h=>by
  simp only[Wd]at h ⊢
  split at h
  ·exact h.elim
  ·exact X1c hQ l _ _ _ _ h
  ·cases hk:kindOf o.op with
   |quiet=>
    rw[hk]at h
    simp only at h ⊢
    split at h
    ·exact⟨h.1,X1c hQ l _ _ _ _ h.2⟩
    ·exact h.elim
   |alloc=>rw[hk]at h;exact⟨h.1,h.2.1,X1c hQ l _ _ _ _ h.2.2⟩
   |eff=>
    rw[hk]at h
    simp only at h ⊢
    split at h
    ·exact⟨h.1,X1c hQ l _ _ _ _ h.2⟩
    ·exact⟨h.1,hQ _ _ _ h.2⟩
    ·exact h.elim
theorem Wn_mono{b:Env->Hp->ZQ->Prop}(hb:∀(Q Q':ZQ),(∀e ρ p,Q e ρ p->Q' e ρ p)->∀ρ p,b ρ p Q->b ρ p Q'): ∀(n m:Nat),n<=m->∀(Q Q':ZQ),(∀e ρ p,Q e ρ p->Q' e ρ p)->∀ρ p,Wn b n ρ p Q->Wn b m ρ p Q'
 |0,_,_,_,_,_,_,_,h=>h.elim
 |n+1,0,h,_,_,_,_,_,_=>by omega
 |n+1,m+1,h,Q,Q',hQ,ρ,p,hw=>hb _ _ (Q1d (fun ρ p h'=>Wn_mono hb n m (by omega) Q Q' hQ ρ p h') hQ) ρ p hw
theorem W_mono: ∀(c:ZC) (Q Q':ZQ),(∀e ρ p,Q e ρ p->Q' e ρ p)->∀(ρ:Env) (p:Hp),W C mu ext call c ρ p Q->W C mu ext call c ρ p Q':=by
 intro c
 induction c with
 |skip=>intro Q Q' hQ ρ p h;exact hQ _ _ _ h
 |reg l=>intro Q Q' hQ ρ p h;exact Wo_mono C mu ext call hQ l ρ p h
 |draw n als l=>intro Q Q' hQ ρ p h;exact X1c C mu ext call hQ l _ _ _ _ h
 |exit i=>intro Q Q' hQ ρ p h;exact hQ _ _ _ h
 |ret=>intro Q Q' hQ ρ p h;exact hQ _ _ _ h
 |seq a b iha ihb=>intro Q Q' hQ ρ p h;exact iha _ _ (Q1d (fun ρ p h'=>ihb Q Q' hQ ρ p h') hQ) ρ p h
 |cond x a b iha ihb=>
  intro Q Q' hQ ρ p h
  simp only[W,condW]at h ⊢
  split at h
  ·rename_i t ht
   cases t with
   |true=>exact iha Q Q' hQ ρ p h
   |false=>exact ihb Q Q' hQ ρ p h
  ·exact h.elim
 |block id c ih=>intro Q Q' hQ ρ p h;exact ih _ _ (blkQ_mono hQ) ρ p h
 |loop c ih=>intro Q Q' hQ ρ p ⟨n,h⟩;exact⟨n,Wn_mono ih n n (Nat.le_refl _) Q Q' hQ ρ p h⟩
theorem Wn_succ(b:Env->Hp->ZQ->Prop)(n:Nat)(ρ:Env)(p:Hp)(Q:ZQ): Wn b (n+1) ρ p Q=b ρ p (seqQ (Wn b n) Q):=nd rfl
theorem Q0i(c:ZC)(ρ:Env)(p:Hp)(Q:ZQ)(J:Nat->Env->Hp->Prop)(n:Nat)(h0:J n ρ p)
  (h:∀n ρ p,J n ρ p->W C mu ext call c ρ p (seqQ (fun ρ p _=>∃m,m<n/\J m ρ p) Q)):W C mu ext call (.loop c) ρ p Q:=by
 have key:∀n ρ p,J n ρ p->Wn (W C mu ext call c) (n+1) ρ p Q:=by
  intro n
  induction n using Nat.strongRecOn with
  |_ n ih=>
   intro ρ p hJ
   refine W_mono C mu ext call c _ _ (Q1d (fun ρ p ⟨m,hm,hJ'⟩=>?_) (fun _ _ _ h=>h)) ρ p (h n ρ p hJ)
   exact Wn_mono (W_mono C mu ext call c) (m+1) n hm Q Q (fun _ _ _ h=>h) ρ p (ih m hm ρ p hJ')
 exact⟨n+1,key n ρ p h0⟩
theorem W_cut(c:ZC)(ρ:Env)(p:Hp)(Q:ZQ)(J:Env->Hp->Prop)(h:W C mu ext call c ρ p (fun e ρ p=>match e with|.normal=>J ρ p|e=>Q e ρ p))(h':∀ρ p,J ρ p->Q .normal ρ p): W C mu ext call c ρ p Q:=
 W_mono C mu ext call c _ _ (fun e ρ p k=>by cases e<;>first|exact h' _ _ k|exact k) ρ p h
end steps
theorem Y1l{p0 p q:Hp}{v u:CV}(hn:p0.n<=q.n)(ho:∀k o,q.t.get k=some o->k<q.n/\((k<p0.n/\p0.t.get k=some o/\p.t.get k=some o)\/∃o',p.t.get k=some o'/\XObj.weak (fun k=>k) q.n o' o))(hv:CV.weak (fun k=>k) q.n v u): ShrR p0 (.ret v p) (.ret u q):=
 ⟨fun k=>k,⟨hn,fun _ _=>rfl,fun _ _ _ _ _ _ e=>e,ho⟩,hv⟩
theorem shr_idP{p0 p q:Hp}{v u:CV}(hn:p0.n<=q.n)(ho:∀k o,q.t.get k=some o->k<q.n/\((k<p0.n/\p0.t.get k=some o/\p.t.get k=some o)\/∃o',p.t.get k=some o'/\XObj.weak (fun k=>k) q.n o' o))(hv:CV.weak (fun k=>k) q.n v u): ShrR p0 (.pan v p) (.pan u q):=
 ⟨fun k=>k,⟨hn,fun _ _=>rfl,fun _ _ _ _ _ _ e=>e,ho⟩,hv⟩
def HpLe(p q:Hp): Prop:=∀k o,p.t.get k=some o->q.t.get k=some o
theorem K0d{args:List CV}{p p':Hp}{v u:CV}(hF:Fine args p)(hle:HpLe p p')(hv:CV.weak (fun k=>k) p.n v u): ShrR p (.ret v p') (.ret u p):=
 Y1l (Nat.le_refl _) (fun k o h=>⟨hF.dom k o h,.inl ⟨hF.dom k o h,h,hle k o h⟩⟩) hv
theorem X0k{args:List CV}{p p':Hp}{v u:CV}(hF:Fine args p)(hle:HpLe p p')(hv:CV.weak (fun k=>k) p.n v u): ShrR p (.pan v p') (.pan u p):=
 shr_idP (Nat.le_refl _) (fun k o h=>⟨hF.dom k o h,.inl ⟨hF.dom k o h,h,hle k o h⟩⟩) hv
theorem Y0k{args:List CV}{p p':Hp}{v u:CV}{i:Nat}{o:XObj}(hF:Fine args p)(hi:i<p.n)(hle:∀k o,k≠i->p.t.get k=some o->p'.t.get k=some o)(ho:∃o',p'.t.get i=some o'/\XObj.weak (fun k=>k) p.n o' o)(hv:CV.weak (fun k=>k) p.n v u): ShrR p (.ret v p') (.ret u (p.set i (some o))):=
 Y1l (Nat.le_refl _) (fun k ob h=>by
  by_cases hk:k=i
  ·subst hk
   rw[Hp.get_set_self]at h;cases h
   exact⟨hi,.inr ho⟩
  ·rw[Hp.get_set_ne _ _ _ hk]at h
   exact⟨hF.dom k ob h,.inl ⟨hF.dom k ob h,h,hle k ob hk h⟩⟩) hv
theorem shr_drop{args:List CV}{p p':Hp}{v u:CV}{i:Nat}(hF:Fine args p)(hle:∀k o,k≠i->p.t.get k=some o->p'.t.get k=some o)(hv:CV.weak (fun k=>k) p.n v u): ShrR p (.ret v p') (.ret u (p.set i none)):=
 Y1l (Nat.le_refl _) (fun k ob h=>by
  by_cases hk:k=i
  ·subst hk
   rw[Hp.get_set_self]at h;cases h
  ·rw[Hp.get_set_ne _ _ _ hk]at h
   exact⟨hF.dom k ob h,.inl ⟨hF.dom k ob h,h,hle k ob hk h⟩⟩) hv
theorem shr_dropP{args:List CV}{p p':Hp}{v u:CV}{i:Nat}(hF:Fine args p)(hle:∀k o,k≠i->p.t.get k=some o->p'.t.get k=some o)(hv:CV.weak (fun k=>k) p.n v u): ShrR p (.pan v p') (.pan u (p.set i none)):=
 shr_idP (Nat.le_refl _) (fun k ob h=>by
  by_cases hk:k=i
  ·subst hk
   rw[Hp.get_set_self]at h;cases h
  ·rw[Hp.get_set_ne _ _ _ hk]at h
   exact⟨hF.dom k ob h,.inl ⟨hF.dom k ob h,h,hle k ob hk h⟩⟩) hv
theorem weak_I(n:Nat)(x:Int): CV.weak (fun k=>k) n (I x) (I x):=by simp[CV.weak]
theorem Y0d{n:Nat}{v:CV}(h:v.lt n): CV.weak (fun k=>k) n v v:=CV.weak_refl v fun j hj=>⟨rfl,h j hj⟩
theorem Q0o{n:Nat}{o:XObj}(h:o.lt n): XObj.weak (fun k=>k) n o o:=XObj.weak_refl fun j hj=>⟨rfl,h j hj⟩
theorem Y0c{n:Nat}{v u:CV}(h:v=u)(hl:u.lt n): CV.weak (fun k=>k) n v u:=by subst h;exact Y0d hl
theorem Y0j{n:Nat}{v u:XObj}(h:v=u)(hl:u.lt n): XObj.weak (fun k=>k) n v u:=by subst h;exact Q0o hl
theorem Z0c{n:Nat}{v:CV}(h:∀j,¬v.has j): v.lt n:=fun j hj=>(h j hj).elim
theorem qmin2(k k':IntKind)(a b:Int): qminmax false [.sc (.int k a),.sc (.int k' b)]=some (.sc (.int k (min a b))):=by
 have:(if b<a then b else a)=min a b:=by split<;>omega
 simp only[qminmax,Bool.false_eq_true,if_false,this]
theorem qmax2(k k':IntKind)(a b:Int): qminmax true [.sc (.int k a),.sc (.int k' b)]=some (.sc (.int k (max a b))):=by
 have:(if b>a then b else a)=max a b:=by split<;>omega
 simp only[qminmax,if_true,this]
theorem beqT(b:Bool): (b==true)=b:=by cases b<;>rfl
theorem beqF(b:Bool): (b==false) = !b:=by cases b<;>rfl
theorem subEq_self(z:Shape): subEq z [] z=true:=by
 have:z.sub []=some z:=by cases z<;>rfl
 simp[subEq,this]
theorem shOk_sc(v:Value): shOk (.sc v) .s=true:=nd rfl
theorem shOk_lst{α:Type}(f:α->CV)(x:Lst α): shOk (x.cv f) .s=true:=nd rfl
theorem shOk_lst'(t:Tail)(l:List CV): shOk (.lst t l) .s=true:=nd rfl
theorem shOk_ptr(i:Nat)(q:List Nat): shOk (.ptr i q) .s=true:=nd rfl
theorem shOk_slc(i:Nat)(q:List Nat)(a b:Nat): shOk (.slc i q a b) .s=true:=nd rfl
theorem shOk_fn(f:FuncId)(a b:List CV): shOk (.fn f a b) .s=true:=nd rfl
theorem shOk_ifc(t:TypeId)(v:CV): shOk (.ifc t v) .s=true:=nd rfl
theorem X0f{f:TypeId->CV->CV->Option Bool}{t:TypeId}{ts:List TypeId}{x y:CV}{l m:List CV}{a b:Bool}(h1:f t x y=some a)(h2:eqList f ts l m=some b): eqList f (t::ts) (x::l) (y::m)=some (a&&b):=by
 simp only[eqList,h1,h2]
theorem Z1o{α:Type}[DecidableEq α]{f:TypeId->CV->CV->Option Bool}{e:TypeId}{g:α->CV}(h:∀x y,f e (g x) (g y)=some (decide (x=y))): ∀(n:Nat) (l m:List α),l.length=n->m.length=n->eqList f (List.replicate n e) (l.map g) (m.map g)=some (decide (l=m))
 |0,[],[],_,_=>rfl
 |0,_::_,_,h,_=>by simp at h
 |0,[],_::_,_,h=>by simp at h
 |n+1,[],_,h,_=>by simp at h
 |n+1,_::_,[],_,h=>by simp at h
 |n+1,x::l,y::m,h1,h2=>by
  have:=Z1o h n l m (by simpa using h1) (by simpa using h2)
  simp only[List.replicate_succ,List.map_cons,X0f (h x y) this]
  by_cases e1:x=y<;>by_cases e2:l=m<;>simp[e1,e2]
theorem K0x(C:Ctx){t:TypeId}{fs:List (Nat×Nat×TypeId)}{sh:Shape}{b:Nat}{z:CV}{l m:List CV}{d:Nat}{r:Bool}(ht:C.tt t=some ⟨.st fs,sh,b,z⟩)(h1:(CV.agg l).shape=sh)(h2:(CV.agg m).shape=sh)(h:eqList (eqCV C d) (fs.map (·.2.2)) l m=some r): eqCV C (d+1) t (.agg l) (.agg m)=some r:=by
 simp only[eqCV,ht,h1,h2,and_self,if_true,h]
theorem eqCV_ar(C:Ctx){α:Type}[DecidableEq α]{g:α->CV}{t n b1 e:Nat}{sh s:Shape}{b:Nat}{z:CV}{l m:List α}{d:Nat}(ht:C.tt t=some ⟨.ar n b1 e,sh,b,z⟩)(hs:sh=.n (List.replicate n s))(hg:∀x,(g x).shape=s)(h1:l.length=n)(h2:m.length=n)(h:∀x y,eqCV C d e (g x) (g y)=some (decide (x=y))): eqCV C (d+1) t (.agg (l.map g)) (.agg (m.map g))=some (decide (l=m)):=by
 have k1:(CV.agg (l.map g)).shape=sh:=by simp only[CV.shape,Y0h hg,h1,hs]
 have k2:(CV.agg (m.map g)).shape=sh:=by simp only[CV.shape,Y0h hg,h2,hs]
 simp only[eqCV,ht,k1,k2,and_self,if_true,Z1o h n l m h1 h2]
theorem Q0g(C:Ctx){t:TypeId}{k k':IntKind}{sh:Shape}{b:Nat}{z:CV}(ht:C.tt t=some ⟨.base (.int k),sh,b,z⟩)(d:Nat)(x y:Int): eqCV C (d+1) t (.sc (.int k' x)) (.sc (.int k' y))=some (decide (x=y)):=by
 simp[eqCV,ht,eqSc]
theorem eqCV_bool(C:Ctx){t:TypeId}{sh:Shape}{b:Nat}{z:CV}(ht:C.tt t=some ⟨.base .bool,sh,b,z⟩)(d:Nat)(x y:Bool): eqCV C (d+1) t (.sc (.bool x)) (.sc (.bool y))=some (decide (x=y)):=by
 simp[eqCV,ht,eqSc]
theorem all_nth4{f:Int->Bool}{l:List Int}(h:l.length=4): l.all f=(f (nth l 0)&&(f (nth l 1)&&(f (nth l 2)&&f (nth l 3)))):=by
 match l,h with
 |[a,b,c,d],_=>simp[nth]
theorem qbin_int(C:Ctx)(op:BinOp)(t:TypeId)(cy:Bool)(k k':IntKind)(a b:Int): qbin C op t cy (.sc (.int k a)) (.sc (.int k' b))=match op with
  |.shl|.shr=>qshift op k a b
  |_=>if k=k' then qnum op k a b else none:=by
 simp only[qbin];rfl
theorem qbin_float(C:Ctx)(op:BinOp)(t:TypeId)(cy:Bool)(k k':FloatKind)(a b:Nat): qbin C op t cy (.sc (.float k a)) (.sc (.float k' b))=if k=k' then qfloat op k a b else none:=by
 simp only[qbin]
theorem qbin_bool(C:Ctx)(op:BinOp)(t:TypeId)(cy:Bool)(a b:Bool): qbin C op t cy (.sc (.bool a)) (.sc (.bool b))=match C.tt t,op with
  |some ⟨.base .bool,_,_,_⟩,.eql=>some (.sc (.bool (decide (a=b))))
  |some ⟨.base .bool,_,_,_⟩,.neq=>some (.sc (.bool (!decide (a=b))))
  |_,_=>none:=by
 simp only[qbin];rfl
theorem qbin_str(C:Ctx)(op:BinOp)(t:TypeId)(cy:Bool)(a b:ByteArray): qbin C op t cy (.sc (.string a)) (.sc (.string b))=match op with
  |.eql=>some (.sc (.bool (a.toList==b.toList)))
  |.neq=>some (.sc (.bool (!(a.toList==b.toList))))
  |.add=>if a.size+b.size<=9223372036854775807 then some (.sc (.string (a++b)))else none
  |_=>none:=by
 simp only[qbin];rfl
theorem X1e(C:Ctx){α:Type}[Inhabited α](f:α->CV){t N b1 e:Nat}{sh:Shape}{b:Nat}{z:CV}(ht:C.tt t=some ⟨.ar N b1 e,sh,b,z⟩){te:TI}(hs:sh=.n (List.replicate N te.sh))(hte:C.tt e=some te)(hsh:∀x,(f x).shape=te.sh)(l:List α)(n:Int)(h:l.length=N)(hn:0<=n/\n<N): qindex C t (.agg (l.map f)) (I n)=some (f (nth l n.toNat)):=by
 have k1:(CV.agg (l.map f)).shape=sh:=by simp only[CV.shape,Y0h hsh,h,hs]
 have hl:n.toNat<l.length:=by omega
 simp only[qindex,ht,hte,k1,hn,and_self,if_true,List.getElem?_map,V0v hl,Option.map_some,hsh]
theorem nilness_0{α:Type}(f:α->CV)(l:List α)(o:_): nilness (Lst.cv f ⟨.nil,l,o⟩)=some true:=nd rfl
theorem nilness_e{α:Type}(f:α->CV)(l:List α)(o:_): nilness (Lst.cv f ⟨.exact,l,o⟩)=some false:=nd rfl
theorem nilness_p{α:Type}(f:α->CV)(l:List α)(o:_): nilness (Lst.cv f ⟨.part,l,o⟩)=some false:=nd rfl
theorem nilness_o{α:Type}(f:α->CV)(j:Nat)(l:List α)(o:_): nilness (Lst.cv f ⟨.own j,l,o⟩)=some false:=nd rfl
theorem nilness_v{α:Type}(f:α->CV)(x:α)(l:List α)(o:_): nilness (Lst.cv f ⟨.view,x::l,o⟩)=some false:=nd rfl
theorem nilness_n(l:List CV): nilness (.lst .nil l)=some true:=nd rfl
theorem X1h(C:Ctx){t:TypeId}(h:isSliceT C t=true)(v:CV): xnil C .eql t v=(nilness v).map fun b=>Bo b:=by simp only[xnil,h,cond_true]
theorem K00(C:Ctx){t:TypeId}(h:isSliceT C t=true)(v:CV): xnil C .neq t v=(nilness v).map fun b=>Bo (!b):=by simp only[xnil,h,cond_true]
theorem Z0g(C:Ctx){t e:TypeId}{sh:Shape}{b n:Nat}{z:CV}{te:TI}{parts:List (Nat×CV)}{v:CV}(ht:C.tt t=some ⟨.base (.slice e),sh,b,z⟩)(hte:C.tt e=some te)(h1:n*te.sh.size<=16777216)(h2:te.sh.size≠0)(hp:partsOk (List.replicate n te.sh) parts=true)(hv:CV.lst .exact (setAll (List.replicate n te.zero) parts)=v): qbuildSlice C t n parts=some v:=by
 simp only[qbuildSlice,ht,hte,h1,h2,hp,hv,ne_eq,not_false_eq_true,and_self,if_true]
theorem cast_lit(n:Nat): (Nat.cast (no_index (OfNat.ofNat n)):Int)=(OfNat.ofNat n:Int):=nd rfl
open Classical in
noncomputable def appT{α:Type}(f:α->CV)(p:Hp)(b s:Lst α): XRes:=
 if s.l=[]then .ret (b.cv f) p else match b.tl with
  |.nil=>.ret (Lst.cv f ⟨.own p.n,b.l++s.l,nofun⟩) (p.new (.tail (b.l.length+s.l.length)))
  |.exact=>.ret (Lst.cv f ⟨.own p.n,b.l++s.l,nofun⟩) (p.new (.tail (b.l.length+s.l.length)))
  |.own j=>match p.t.get j with
   |some (.tail k)=>if k=b.l.length/\0<b.l.length then .ret (Lst.cv f ⟨.own p.n,b.l++s.l,nofun⟩) ((p.set j none).new (.tail (b.l.length+s.l.length)))else .stuck
   |_=>.stuck
  |_=>.stuck
theorem allSh_map{α:Type}{f:α->CV}{z:Shape}(h:∀x,shOk (f x) z=true)(l:List α): allSh (l.map f) z=true:=by
 simp[allSh,h]
theorem Z0n(C:Ctx){α:Type}(f:α->CV){t e:TypeId}{sh:Shape}{by_:Nat}{z:CV}{te:TI}(ht:C.tt t=some ⟨.base (.slice e),sh,by_,z⟩)(hte:C.tt e=some te)(hsh:∀x,shOk (f x) te.sh=true)(p:Hp)(b s:Lst α)(h:(b.l.length+s.l.length)*te.bytes<=140737488355328)(hb:b.l.length+s.l.length<=140737488355328): xappend C false p t t (b.cv f) (s.cv f)=appT f p b s:=by
 obtain⟨tl,l,o1⟩:=b
 obtain⟨ul,m,o2⟩:=s
 have h1:Nat.ble ((l.length+m.length)*te.bytes) 140737488355328=true:=Nat.ble_eq_true_of_le h
 have h2:Nat.ble (l.length+m.length) 9223372036854775807=true:=Nat.ble_eq_true_of_le (Nat.le_trans hb (by decide))
 simp only[xappend,ht,hte,cond_false,srcOf,Lst.cv,appT]
 simp only[xappI,allSh_map hsh,Bool.and_self,Bool.true_and,List.length_map,h1,h2,cond_true]
 cases m with
 |nil=>simp
 |cons x m=>
  simp only[List.map_cons,reduceCtorEq,if_false]
  cases tl with
  |nil=>simp
  |exact=>simp
  |view=>rfl
  |part=>rfl
  |own j=>
   simp only
   cases hj:p.t.get j with
   |none=>rfl
   |some o=>
    cases o with
    |var _ _=>rfl
    |map _=>rfl
    |tail k=>
     simp only
     by_cases hk:k=l.length/\0<l.length
     ·have e1:Nat.beq k l.length=true:=by rw[hk.1];exact Nat.beq_refl _
      have e2:Nat.blt 0 l.length=true:=Q0x hk.2
      rw[if_pos hk,e1,e2];simp
     ·rw[if_neg hk]
      have:(Nat.beq k l.length&&Nat.blt 0 l.length)=false:=by
       rw[Bool.eq_false_iff]
       intro hh
       rw[Bool.and_eq_true]at hh
       exact hk ⟨Nat.eq_of_beq_eq_true hh.1,X0w hh.2⟩
      rw[this];rfl
theorem appT_0{α:Type}(f:α->CV)(p:Hp)(b:Lst α)(u:Tail)(o:_): appT f p b ⟨u,[],o⟩=.ret (b.cv f) p:=by simp[appT]
theorem appT_n{α:Type}(f:α->CV)(p:Hp)(l:List α)(o:_)(s:Lst α): appT f p ⟨.nil,l,o⟩ s=if s.l=[]then .ret (Lst.cv f ⟨.nil,l,o⟩) p else .ret (Lst.cv f ⟨.own p.n,l++s.l,nofun⟩) (p.new (.tail (l.length+s.l.length))):=by
 unfold appT;split<;>simp_all
theorem appT_e{α:Type}(f:α->CV)(p:Hp)(l:List α)(o:_)(s:Lst α): appT f p ⟨.exact,l,o⟩ s=if s.l=[]then .ret (Lst.cv f ⟨.exact,l,o⟩) p else .ret (Lst.cv f ⟨.own p.n,l++s.l,nofun⟩) (p.new (.tail (l.length+s.l.length))):=by
 unfold appT;split<;>simp_all
theorem appT_c{α:Type}(f:α->CV)(p:Hp)(tl:Tail)(l:List α)(o:_)(u:Tail)(x:α)(m:List α)(o':_)(h:tl=.nil\/tl=.exact): appT f p ⟨tl,l,o⟩ ⟨u,x::m,o'⟩=.ret (Lst.cv f ⟨.own p.n,l++x::m,nofun⟩) (p.new (.tail (l.length+(m.length+1)))):=by
 unfold appT;rcases h with rfl|rfl<;>simp
theorem appT_o{α:Type}(f:α->CV)(p:Hp)(j:Nat)(l:List α)(o:_)(u:Tail)(x:α)(m:List α)(o':_)(h:p.t.get j=some (.tail l.length))(h0:0<l.length): appT f p ⟨.own j,l,o⟩ ⟨u,x::m,o'⟩=.ret (Lst.cv f ⟨.own p.n,l++x::m,nofun⟩) ((p.set j none).new (.tail (l.length+(m.length+1)))):=by
 unfold appT;simp[h,h0]
theorem xld_p(C:Ctx)(p:Hp)(t:TypeId)(i:Nat)(q:List Nat): xload C p t (.ptr i q)=match p.t.get i with
 |some (.var sh v)=>match C.tt t with
  |some ti=>bif subEq sh q ti.sh then v.at q else none
  |none=>none
 |_=>none:=nd rfl
theorem xld_r(C:Ctx)(p:Hp)(t:TypeId)(v:CV): xload C p t (.rptr v)=match C.tt t with
 |some ti=>bif shOk v ti.sh then some v else none
 |none=>none:=nd rfl
theorem xfa_p(C:Ctx)(p:Hp)(t:TypeId)(i:Nat)(q:List Nat)(f:Nat): xfieldAddr C p t (.ptr i q) f=match p.t.get i with
 |some (.var sho _)=>match C.tt t with
  |some ⟨.st fs,sh,_,_⟩=>bif subEq sho q sh&&Nat.blt f fs.length then some (.ptr i (q++[f]))else none
  |_=>none
 |_=>none:=nd rfl
theorem xfa_r(C:Ctx)(p:Hp)(t:TypeId)(v:CV)(f:Nat): xfieldAddr C p t (.rptr v) f=qfieldAddr C p.h t (.rptr v) f:=nd rfl
theorem xia_p(C:Ctx)(p:Hp)(t:TypeId)(j:Nat)(q:List Nat)(i:CV): xindexAddr C p t (.ptr j q) i=match p.t.get j with
 |some (.var sho _)=>match C.tt t with
  |some ⟨.ar cnt _ _,sh,_,_⟩=>match i with
   |.sc (.int _ n)=>bif inR n cnt&&subEq sho q sh then some (.ptr j (q++[n.toNat]))else none
   |_=>none
  |_=>none
 |_=>none:=nd rfl
theorem xia_r(C:Ctx)(p:Hp)(t:TypeId)(v i:CV): xindexAddr C p t (.rptr v) i=qindexAddr C p.h t (.rptr v) i:=nd rfl
theorem xia_s(C:Ctx)(p:Hp)(t:TypeId)(j:Nat)(q:List Nat)(o n:Nat)(i:CV): xindexAddr C p t (.slc j q o n) i=qindexAddr C p.h t (.slc j q o n) i:=nd rfl
theorem xst_p(C:Ctx)(p:Hp)(t:TypeId)(i:Nat)(q:List Nat)(x:CV): xstore C p t (.ptr i q) x=match p.t.get i with
 |some (.var sh v)=>match C.tt t with
  |some ti=>bif subEq sh q ti.sh&&shOk x ti.sh then .ret (.tup []) (p.set i (some (.var sh (v.set q x))))else .stuck
  |none=>.stuck
 |_=>.stuck:=nd rfl
theorem qbin_fnnil(C:Ctx)(op:BinOp)(t:TypeId)(cy:Bool)(f:FuncId)(a b:List CV): qbin C op t cy (.fn f a b) (.sc .nilFunc)=match C.tt t with
  |some ⟨.base (.func _ _ _),_,_,_⟩=>eqRes op false
  |_=>none:=by
 simp only[qbin];rfl
theorem qbin_ifcnil(C:Ctx)(op:BinOp)(t:TypeId)(cy:Bool)(s:TypeId)(v:CV): qbin C op t cy (.ifc s v) (.sc .nilIface)=match C.tt t with
  |some ⟨.base (.interface _),_,_,_⟩=>eqRes op false
  |_=>none:=by
 simp only[qbin];rfl
theorem qbin_nilnil(C:Ctx)(op:BinOp)(t:TypeId)(cy:Bool): qbin C op t cy (.sc .nilIface) (.sc .nilIface)=match C.tt t,cy with
  |some ⟨.base (.interface _),_,_,_⟩,true=>eqRes op true
  |_,_=>none:=by
 simp only[qbin];rfl
theorem iteN{α:Type}{c:Prop}[Decidable c](h:¬c)(v:α): (if c then none else some v)=some v:=if_neg h
theorem iteS{α:Type}{c:Prop}[Decidable c](h:c)(v:α): (if c then some v else none)=some v:=if_pos h
theorem V05(n k:Nat)(q:List Nat)(s z:Shape): subEq (.n (List.replicate n s)) (k::q) z=(decide (k<n)&&subEq s q z):=by
 unfold subEq
 by_cases h:k<n
 ·simp[Shape.sub,List.getElem?_replicate,h]
 ·simp[Shape.sub,List.getElem?_replicate,h]
theorem Y0f(C:Ctx){t:TypeId}{fs:List (Nat×Nat×TypeId)}{shs:List Shape}{b:Nat}{z:List CV}{parts:List (Nat×CV)}{v:CV}(ht:C.tt t=some ⟨.st fs,.n shs,b,.agg z⟩)(hp:partsOk shs parts=true)(hv:.agg (setAll z parts)=v): qbuild C t parts=some v:=by
 simp only[qbuild,ht,hp,if_true,hv]
theorem K0m{v:CV}{sh:Shape}{l:List Shape}(h:v.shape=sh)(e:sh=.n l): shOk v sh=true:=by
 subst e
 unfold shOk
 simp[h]
theorem X0d(C:Ctx){t f:Nat}{fs:List (Nat×Nat×TypeId)}{sh:Shape}{b:Nat}{z:CV}(ht:C.tt t=some ⟨.st fs,sh,b,z⟩){l:List CV}(hsh:(CV.agg l).shape=sh){d:Nat×Nat×TypeId}(hd:fs[f]?=some d){tf:TI}(htf:C.tt d.2.2=some tf){v:CV}(hv:l[f]?=some v)(ho:shOk v tf.sh=true): qfield C t (.agg l) f=some v:=by
 simp only[qfield,ht,hd,htf,hv,hsh,ho]
 simp
theorem V1i(j:Nat): ¬(CV.tup []).has j:=fun h=>by simp[CV.has,CV.hasL]at h
theorem K0e(C:Ctx){f:FuncId}{R:Rel}(un:∀args p r r',R args p r->R args p r'->r=r')(ns:∀args p r,R args p r->r≠.stuck)(ok:∀args p r,R args p r->AnsAt C f args p r): Con C f R:=
 ⟨un,fun args p r h=>⟨ns args p r h,ok args p r h⟩⟩
theorem xcallv_fn(call:XCall)(p:Hp)(g:FuncId)(a b l:List CV): xcallv noExt call p (.fn g a b) l=call g (a++l++b) p:=nd rfl
end Go.Cl
end
section
namespace Go.Cl
open Go.RowKit
def ZC.plain: ZC->Bool
 |.skip=>true
 |.reg _=>true
 |.draw _ _ _=>false
 |.seq a b=>a.plain&&b.plain
 |.cond _ a b=>a.plain&&b.plain
 |.block _ c=>c.plain
 |.loop _=>false
 |.exit _=>true
 |.ret=>true
section
variable (C:Ctx) (mu:Bool) (ext:FuncId->List CV->Option CV) (call:XCall)
theorem W_run(fuel:Nat): ∀(c:Code) (m:ZC) (env:XEnv) (p:Hp) (Q:ZQ),zcode c=some m->m.plain=true->W C mu ext call m env.at p Q->∃(e:XE) (env':XEnv) (p':Hp),xcode C mu ext call fuel c env p=.ok e env' p'/\Q e env'.at p':=by
 intro c
 induction c with
 |skip=>intro m env p Q hm _ h;cases hm;exact⟨.normal,env,p,rfl,h⟩
 |label l=>intro m env p Q hm _ h;cases hm;exact⟨.normal,env,p,rfl,h⟩
 |exit i=>intro m env p Q hm _ h;cases hm;exact⟨.exit i,env,p,rfl,h⟩
 |ret=>intro m env p Q hm _ h;cases hm;exact⟨.ret,env,p,rfl,h⟩
 |region id ops draw=>
  intro m env p Q hm hp h
  cases draw with
  |false=>
   simp only[zcode,cond_false]at hm
   cases hl:lops ops.toList [] ops.toList 0 with
   |none=>simp[hl]at hm
   |some l=>
    simp only[hl,Option.some.injEq]at hm
    subst hm
    obtain⟨e,env',p',h1,h2⟩:=Z09 C mu ext call l _ p Q h env rfl
    rw[<- xl_eq C _ _ _ _ _ hl]at h1
    exact⟨e,env',p',h1,h2⟩
  |true=>
   simp only[zcode,cond_true]at hm
   cases hd:drawStat ops.toList (ancs ops.toList []) with
   |false=>simp[hd]at hm
   |true=>
    cases hc:dops ops.toList (ancs ops.toList []) ops.toList 0 with
    |none=>simp[hd,hc]at hm
    |some l=>simp only[hd,hc,cond_true,Option.some.injEq]at hm;subst hm;cases hp
 |seq a b iha ihb=>
  intro m env p Q hm hp h
  simp only[zcode]at hm
  cases hx:zcode a with
  |none=>simp[hx]at hm
  |some ma=>
  cases hy:zcode b with
  |none=>simp[hx,hy]at hm
  |some mb=>
  simp only[hx,hy,Option.some.injEq]at hm
  subst hm
  simp only[ZC.plain,Bool.and_eq_true]at hp
  obtain⟨e1,env1,p1,h1,k1⟩:=iha ma env p _ hx hp.1 h
  simp only[xcode,h1]
  cases e1 with
  |normal=>exact ihb mb env1 p1 Q hy hp.2 k1
  |exit i=>exact⟨.exit i,env1,p1,rfl,k1⟩
  |ret=>exact⟨.ret,env1,p1,rfl,k1⟩
  |pan v=>exact⟨.pan v,env1,p1,rfl,k1⟩
  |panU v=>exact⟨.panU v,env1,p1,rfl,k1⟩
 |cond x a b iha ihb=>
  intro m env p Q hm hp h
  simp only[zcode]at hm
  cases hx:zcode a with
  |none=>simp[hx]at hm
  |some ma=>
  cases hy:zcode b with
  |none=>simp[hx,hy]at hm
  |some mb=>
  simp only[hx,hy,Option.some.injEq]at hm
  subst hm
  simp only[ZC.plain,Bool.and_eq_true]at hp
  simp only[W,condW]at h
  split at h
  ·rename_i t ht
   have ht':xev env x=.sc (.bool t):=by rw[X1a];exact ht
   cases t with
   |true=>
    obtain⟨e,env',p',h1,k1⟩:=iha ma env p Q hx hp.1 h
    exact⟨e,env',p',by simp only[xcode,ht'];exact h1,k1⟩
   |false=>
    obtain⟨e,env',p',h1,k1⟩:=ihb mb env p Q hy hp.2 h
    exact⟨e,env',p',by simp only[xcode,ht'];exact h1,k1⟩
  ·exact h.elim
 |block id c ih=>
  intro m env p Q hm hp h
  simp only[zcode]at hm
  cases hx:zcode c with
  |none=>simp[hx]at hm
  |some mx=>
  simp only[hx,Option.some.injEq]at hm
  subst hm
  obtain⟨e1,env1,p1,h1,k1⟩:=ih mx env p _ hx hp h
  cases e1 with
  |exit j=>
   simp only[blkQ]at k1
   cases hb:Nat.beq j id with
   |true=>rw[hb]at k1;exact⟨.normal,env1,p1,by simp only[xcode,h1,hb,cond_true],k1⟩
   |false=>rw[hb]at k1;exact⟨.exit j,env1,p1,by simp only[xcode,h1,hb,cond_false],k1⟩
  |normal=>exact⟨.normal,env1,p1,by simp only[xcode,h1],k1⟩
  |ret=>exact⟨.ret,env1,p1,by simp only[xcode,h1],k1⟩
  |pan v=>exact⟨.pan v,env1,p1,by simp only[xcode,h1],k1⟩
  |panU v=>exact⟨.panU v,env1,p1,by simp only[xcode,h1],k1⟩
 |loop c ih=>
  intro m env p Q hm hp h
  simp only[zcode]at hm
  cases hx:zcode c with
  |none=>simp[hx]at hm
  |some mx=>simp only[hx,Option.some.injEq]at hm;subst hm;cases hp
 |rangeFunc f ps x y _ _=>intro m env p Q hm;simp[zcode]at hm
 |scope c _=>intro m env p Q hm;simp[zcode]at hm
 |goto l=>intro m env p Q hm;simp[zcode]at hm
 |refuse why=>intro m env p Q hm;simp[zcode]at hm
noncomputable def qcE(rs:List ResultVar)(ρ3:Env)(K:XRes->Prop): ZQ:=fun e _ q=>match e with
 |.normal=>finW (zres C ρ3 q rs) q K
 |.ret=>finW (zres C ρ3 q rs) q K
 |_=>False
noncomputable def qcP(mr:ZC)(gd:Tmp)(cv:List CV)(rs:List ResultVar)(K:XRes->Prop): ZQ:=fun e ρ3 p3=>match e with
 |.normal=>W C mu ext call mr (put (argE cv) (some gd) (.sc .nilIface)) p3 (qcE C rs ρ3 K)
 |.ret=>W C mu ext call mr (put (argE cv) (some gd) (.sc .nilIface)) p3 (qcE C rs ρ3 K)
 |.pan v=>W C mu ext call mr (put (argE cv) (some gd) v) p3 (qcE C rs ρ3 K)
 |_=>False
noncomputable def qcB(mp mr:ZC)(x:XC)(K:XRes->Prop): ZQ:=fun e ρ2 p2=>match e with
 |.normal=>W C mu ext call mp (put ρ2 (some x.k) (.fn x.g [] (x.caps.map ρ2))) p2 (qcP C mu ext call mr x.gd (x.caps.map ρ2) x.rs K)
 |_=>False
noncomputable def qcA(mb mp mr:ZC)(x:XC)(K:XRes->Prop): ZQ:=fun e ρ1 p1=>match e with
 |.normal=>W C mu ext call mb ρ1 p1 (qcB C mu ext call mp mr x K)
 |_=>False
theorem qcA_n(mb mp mr:ZC)(x:XC)(K:XRes->Prop)(ρ:Env)(p:Hp): qcA C mu ext call mb mp mr x K .normal ρ p=W C mu ext call mb ρ p (qcB C mu ext call mp mr x K):=nd rfl
theorem qcB_n(mp mr:ZC)(x:XC)(K:XRes->Prop)(ρ:Env)(p:Hp): qcB C mu ext call mp mr x K .normal ρ p=W C mu ext call mp (put ρ (some x.k) (.fn x.g [] (x.caps.map ρ))) p (qcP C mu ext call mr x.gd (x.caps.map ρ) x.rs K):=nd rfl
theorem qcP_n(mr:ZC)(gd:Tmp)(cv:List CV)(rs:List ResultVar)(K:XRes->Prop)(ρ:Env)(p:Hp): qcP C mu ext call mr gd cv rs K .normal ρ p=W C mu ext call mr (put (argE cv) (some gd) (.sc .nilIface)) p (qcE C rs ρ K):=nd rfl
theorem qcP_r(mr:ZC)(gd:Tmp)(cv:List CV)(rs:List ResultVar)(K:XRes->Prop)(ρ:Env)(p:Hp): qcP C mu ext call mr gd cv rs K .ret ρ p=W C mu ext call mr (put (argE cv) (some gd) (.sc .nilIface)) p (qcE C rs ρ K):=nd rfl
theorem qcP_p(mr:ZC)(gd:Tmp)(cv:List CV)(rs:List ResultVar)(K:XRes->Prop)(ρ:Env)(p:Hp)(v:CV): qcP C mu ext call mr gd cv rs K (.pan v) ρ p=W C mu ext call mr (put (argE cv) (some gd) v) p (qcE C rs ρ K):=nd rfl
theorem qcE_n(rs:List ResultVar)(ρ3:Env)(K:XRes->Prop)(ρ:Env)(q:Hp): qcE C rs ρ3 K .normal ρ q=finW (zres C ρ3 q rs) q K:=nd rfl
theorem qcE_r(rs:List ResultVar)(ρ3:Env)(K:XRes->Prop)(ρ:Env)(q:Hp): qcE C rs ρ3 K .ret ρ q=finW (zres C ρ3 q rs) q K:=nd rfl
theorem fin_run{env:XEnv}{p:Hp}{rs:List ResultVar}{K:XRes->Prop}(h:finW (zres C env.at p rs) p K): K (xfin p (xres C env p rs)):=by
 rw[<- Y1v]at h
 cases hx:xres C env p rs with
 |none=>simp[hx,finW]at h
 |some l=>rw[hx]at h;exact h
theorem ans_catch{f:FuncId}{x:XC}(hf:XCok C f x)(hext:ExtOk C ext)(hT:CallOk C call){ma mb mp mr:ZC}(ha:zcode x.a=some ma)(hb:zcode x.b=some mb)(hp:zcode x.post=some mp)(hr:zcode x.rest=some mr)(hpl:(ma.plain&&mb.plain&&mp.plain&&mr.plain)=true)
  {args:List CV} {p:Hp} {r:XRes} (hl:args.length<=x.n) (hname:∃fn,C.P.funcs[f]?=some fn/\fn.body.isNone=false/\(fn.name == "runtime.NumGoroutine")=false)
  (h:Fine args p->W C mu ext call ma (argE args) p (qcA C mu ext call mb mp mr x fun r'=>ShrR p r' r)):AnsAt C f args p r:=by
 refine⟨hname,fun w0 B S w vals r0 hV=>?_⟩
 have hW:=h (fine_of r0 hV)
 simp only[Bool.and_eq_true]at hpl
 obtain⟨⟨⟨p1,p2⟩,p3⟩,p4⟩:=hpl
 have hs:=xcatch_sound C hext hT (mu:=mu) (fuel:=0) hf r0 hV
 refine Ans.shr C r0 hs ?_
 unfold xcatch
 rw[Nat.ble_eq_true_of_le hl,cond_true]
 rw[<- argE_eq]at hW
 obtain⟨e1,env1,q1,h1,k1⟩:=W_run C mu ext call 0 x.a ma _ p _ ha p1 hW
 rw[h1]
 cases e1 with
 |normal=>
  simp only
  obtain⟨e2,env2,q2,h2,k2⟩:=W_run C mu ext call 0 x.b mb _ q1 _ hb p2 k1
  rw[h2]
  cases e2 with
  |normal=>
   simp only
   simp only[qcB]at k2
   rw[<- XEnv.at_put]at k2
   obtain⟨e3,env3,q3,h3,k3⟩:=W_run C mu ext call 0 x.post mp _ q2 _ hp p3 k2
   rw[h3]
   have fin:∀rec:CV,W C mu ext call mr (put (argE (x.caps.map env2.at)) (some x.gd) rec) q3 (qcE C x.rs env3.at fun r'=>ShrR p r' r)->ShrR p (xcatchEnd C mu ext call 0 x (x.caps.map env2.at) rec env3 q3) r:=by
    intro rec hw
    rw[<- argE_eq,<- XEnv.at_put]at hw
    obtain⟨e4,env4,q4,h4,k4⟩:=W_run C mu ext call 0 x.rest mr _ q3 _ hr p4 hw
    unfold xcatchEnd
    rw[h4]
    cases e4 with
    |normal=>exact fin_run C (K:=fun r'=>ShrR p r' r) k4
    |ret=>exact fin_run C (K:=fun r'=>ShrR p r' r) k4
    |exit i=>exact k4.elim
    |pan v=>exact k4.elim
    |panU v=>exact k4.elim
   cases e3 with
   |normal=>exact fin _ k3
   |ret=>exact fin _ k3
   |pan v=>exact fin _ k3
   |exit i=>exact k3.elim
   |panU v=>exact k3.elim
  |exit i=>exact k2.elim
  |ret=>exact k2.elim
  |pan v=>exact k2.elim
  |panU v=>exact k2.elim
 |exit i=>exact k1.elim
 |ret=>exact k1.elim
 |pan v=>exact k1.elim
 |panU v=>exact k1.elim
end
end Go.Cl
end
section
namespace Go.Cl
theorem zunf(C:Ctx){c d:ZC}(h:c=d)(mu:Bool)(ext:FuncId->List CV->Option CV)(call:XCall)(ρ:Env)(p:Hp)(Q:ZQ): W C mu ext call c ρ p Q=W C mu ext call d ρ p Q:=by rw[h]
set_option linter.defProp false in
def zall:=
 And.intro @W_seq<|
 And.intro @W_reg<|
 And.intro @W_draw<|
 And.intro @W_ret<|
 And.intro @W_skip<|
 And.intro @W_cond<|
 And.intro @W_block<|
 And.intro @W_exit<|
 And.intro @Wo_nil<|
 And.intro @Wo_on<|
 And.intro @Wo_gd<|
 And.intro @bindO_ret<|
 And.intro @bindO_pan<|
 And.intro @wantO_t<|
 And.intro @wantO_f<|
 And.intro @seqQ_n<|
 And.intro @seqQ_e<|
 And.intro @seqQ_r<|
 And.intro @seqQ_p<|
 And.intro @seqQ_u<|
 And.intro @blkQ_n<|
 And.intro @blkQ_e<|
 And.intro @blkQ_r<|
 And.intro @blkQ_p<|
 And.intro @blkQ_u<|
 And.intro @condW_t<|
 And.intro @condW_f<|
 And.intro @condW_not<|
 And.intro @zev_tmp<|
 And.intro @zev_const<|
 And.intro @zev_func<|
 And.intro @zofConst_int<|
 And.intro @V1q<|
 And.intro @ofConst_str<|
 And.intro @V1k<|
 And.intro @Z08<|
 And.intro @Q1k<|
 And.intro @K1b<|
 And.intro @Z1v<|
 And.intro @K1j<|
 And.intro @put_at<|
 And.intro @Q0d<|
 And.intro @Z0d<|
 And.intro @X0l<|
 And.intro @qmin2<|
 And.intro @qmax2<|
 And.intro @endQ_r<|
 And.intro @endQ_n<|
 And.intro @endQ_p<|
 And.intro @endQ_u<|
 And.intro @zres_nil<|
 And.intro @zres_tmp<|
 And.intro @zres_cell<|
 And.intro @finW_some<|
 And.intro @pack_0<|
 And.intro @pack_1<|
 And.intro @pack_2<|
 And.intro @qbin_int<|
 And.intro @qbin_float<|
 And.intro @qbin_bool<|
 And.intro @qbin_str<|
 And.intro @qbin_fnnil<|
 And.intro @qbin_ifcnil<|
 And.intro @qbin_nilnil<|
 And.intro @zwanted_b<|
 And.intro @Wd_nil<|
 And.intro @Wd_on<|
 And.intro @Wd_gd<|
 And.intro @wantD_t<|
 And.intro @wantD_f<|
 And.intro @stepD_q<|
 And.intro @stepD_e<|
 And.intro @stepD_a<|
 And.intro @bindQ_ret<|
 And.intro @bindE_ret<|
 And.intro @bindE_pan<|
 And.intro @histP_nil<|
 And.intro @histP_cons<|
 And.intro @histA_nil<|
 And.intro @histA_cons<|
 And.intro @allW_nil<|
 And.intro @allW_cons<|
 And.intro @memN_nil<|
 And.intro @memN_cons<|
 And.intro @pushW_nil<|
 And.intro @pushW_cons<|
 And.intro @pushH_t<|
 And.intro @pushH_f<|
 And.intro @still_eq<|
 And.intro @stillK_q<|
 And.intro @stillK_a<|
 And.intro @layZ_nil<|
 And.intro @layZ_cons<|
 And.intro @xcallv_fn<|
 And.intro @xld_p<|
 And.intro @xld_r<|
 And.intro @xfa_p<|
 And.intro @xfa_r<|
 And.intro @xia_p<|
 And.intro @xia_r<|
 And.intro @xia_s<|
 And.intro @xst_p<|
 And.intro @Hp.bump_get<|
 And.intro @Hp.bump_n<|
 And.intro @Hp.get_set_self<|
 And.intro @Hp.get_set_ne<|
 And.intro @Hp.get_new_self<|
 And.intro @Hp.get_new_eq<|
 And.intro @Hp.get_new_ne<|
 And.intro @Hp.zset_n<|
 And.intro @Hp.znew_n<|
 And.intro @Y09<|
 And.intro @beqT<|
 And.intro @beqF<|
 And.intro @subEq_self<|
 And.intro @cond_pos<|
 And.intro @cond_neg<|
 And.intro @inR_dec<|
 And.intro @at_nil<|
 And.intro @Y1t<|
 And.intro @shOk_sc<|
 And.intro @shOk_lst<|
 And.intro @shOk_lst'<|
 And.intro @shOk_ptr<|
 And.intro @shOk_slc<|
 And.intro @shOk_fn<|
 And.intro @shOk_ifc<|
 And.intro @Wn_succ<|
 And.intro @Y0x<|
 And.intro @cast_lit<|
 And.intro @iteN<|
 And.intro @iteS<|
 And.intro @appT_0<|
 And.intro @appT_n<|
 And.intro @appT_e<|
 And.intro @appT_c<|
 And.intro @appT_o<|
 And.intro @nilness_0<|
 And.intro @nilness_e<|
 And.intro @nilness_p<|
 And.intro @nilness_o<|
 And.intro @nilness_v<|
 @nilness_n
set_option linter.defProp false in
def zheap:=And.intro @Hp.bump_get<|And.intro @Hp.bump_n<|And.intro @Hp.get_set_self<|And.intro @Hp.get_set_ne<|And.intro @Hp.get_new_self<|And.intro @Hp.get_new_eq<|And.intro @Hp.get_new_ne<|And.intro @Hp.zset_n @Hp.znew_n
set_option linter.defProp false in
def zcore:=And.intro @true_and<|And.intro @and_true<|And.intro @and_self<|And.intro @Bool.true_and<|And.intro @Bool.and_true<|And.intro @Bool.and_self<|And.intro @Bool.false_and<|And.intro @Bool.and_false<|And.intro Bool.not_true<|And.intro Bool.not_false<|And.intro @decide_true<|And.intro @decide_false<|@Int.toNat_natCast
set_option linter.defProp false in
def zhd:=And.intro @decide_eq_true_eq<|And.intro @decide_eq_false_iff_not<|And.intro @Bool.or_eq_true<|And.intro @Bool.and_eq_true<|And.intro @Bool.not_eq_true<|And.intro @Bool.not_eq_false<|And.intro @Bool.not_not<|And.intro @Bool.not_eq_true' @Bool.not_eq_false'
set_option linter.defProp false in
def zhn:=And.intro @Classical.not_not<|And.intro @Int.not_le @Int.not_lt
theorem zd1{P:Prop}(h:P:=by first|omega|(simp only[Hp.bump_n,Hp.znew_n,Hp.zset_n,List.length_nil,List.length_cons,List.length_append,List.length_map];(first|done|omega))): P:=h
theorem zdis{P:Prop}(h:P:=by first|assumption|omega|(simp only[Hp.bump_n,Hp.znew_n,Hp.zset_n,List.length_nil,List.length_cons,List.length_append,List.length_map];(first|done|omega))|(simp (disch:=first|exact zd1|fail) only[zheap,zx];done)|(simp (disch:=first|exact zd1|fail) only[zheap,zx];with_unfolding_all rfl)|(simp (disch:=first|exact zd1|fail) only[zheap,zx];refine congrArg some (congrArg XObj.tail ?_);simp only[List.length_nil,List.length_cons,List.length_append,List.length_map];(first|done|omega))): P:=h
theorem zle{P:Prop}(h:P:=by intro k o h;have hd:=hF.dom k o h;(try simp (disch:=first|exact zdl|fail) only[Hp.bump_get,Hp.get_set_ne,Hp.get_new_ne,Hp.bump_n,Hp.znew_n,Hp.zset_n]);exact h): P:=h
theorem zlm{P:Prop}(h:P:=by intro k o hk h;have hd:=hF.dom k o h;(try simp (disch:=first|exact zdl|fail) only[Hp.bump_get,Hp.get_set_ne,Hp.get_new_ne,Hp.bump_n,Hp.znew_n,Hp.zset_n]);exact h): P:=h
theorem zlq{P:Prop}(h:P:=by intro k o h;have hd:=hF.dom k o h;(try simp (disch:=first|exact zdl|fail) only[Hp.bump_get,Hp.get_set_ne,Hp.get_new_ne,Hp.bump_n,Hp.znew_n,Hp.zset_n]);exact hle k o h): P:=h
theorem zdl{P:Prop}(h:P:=by first|assumption|omega|(simp only[Hp.bump_n,Hp.znew_n,Hp.zset_n,List.length_nil,List.length_cons,List.length_append,List.length_map];(first|done|omega))): P:=h
end Go.Cl
end
section
namespace Go.Cl
open Go
abbrev Tm(n:Nat): Operand:=.tmp n
abbrev Kn(n:Int): Operand:=.const (.int .i64 n)
abbrev zcf(f:Nat)(a:List Operand)(t:List Nat): Op:=.call ⟨.value (.func f),⟨a⟩,⟨t⟩⟩
abbrev zcb(b:Builtin)(a:List Operand)(t:List Nat): Op:=.call ⟨.builtin b,⟨a⟩,⟨t⟩⟩
abbrev zfa(t x f:Nat): Op:=.fieldAddr t (.tmp x) f
abbrev zia(t x i:Nat): Op:=.indexAddr t (.tmp x) (.tmp i)
abbrev zld(t x:Nat): Op:=.load t (.tmp x)
abbrev zmv(x:Nat): Op:=.move (.tmp x)
abbrev zas(x:Nat): Op:=.assign (.tmp x)
abbrev zu(d:Nat)(o:Op): LOp:=⟨some d,o,none,false⟩
abbrev zv(d:Nat)(o:Op): LOp:=⟨some d,o,none,true⟩
abbrev zu0(o:Op): LOp:=⟨none,o,none,false⟩
abbrev zv0(o:Op): LOp:=⟨none,o,none,true⟩
abbrev zug(d:Nat)(o:Op)(g:Nat)(b f:Bool): LOp:=⟨some d,o,some (g,b),f⟩
abbrev zdd(i d:Nat)(o:Op)(f:Bool)(a b:List Nat)(k:Bool): DOp:=⟨i,some d,o,none,f,a,b,k⟩
abbrev zd0(i:Nat)(o:Op)(f:Bool)(a b:List Nat)(k:Bool): DOp:=⟨i,none,o,none,f,a,b,k⟩
theorem zA{a b:Prop}(x:a)(y:b): a/\b:=⟨x,y⟩
theorem zT: True:=True.intro
set_option linter.defProp false in
def zU(C:Ctx){n b:ZC}(h:n=b){P:Prop}(k:P):=And.intro (zunf C h) k
theorem zQ{A B:Prop}(h:A=B:=by((try simp -dsimp (disch:=first|exact zdis|fail) only[zcore,zall,zopm,zop,zcallOp,qop,qbuiltin,ofOpt,List.map,reduceCtorEq,if_true,if_false,↓reduceIte,zbin,eqRes,qassert,qnum,qshift,qun,kindOf,allocV,List.nil_append,List.append_nil,List.cons_append,List.length_cons,List.length_nil,Nat.reduceAdd,Nat.reduceEqDiff,Nat.reduceLT,Nat.reduceSub,Nat.reduceMul,Int.reduceToNat,Int.reduceLE,Int.reduceLT,Int.reduceEq,Int.reduceNeg,Int.reduceAdd,Int.reduceSub,beq_self_eq_true,cond_true,cond_false,isConstOpd,xpanic,xconv,isBytes,qconv,List.length_map,List.map_nil,List.map_cons,concrete,Option.some.injEq,exists_eq',Option.map_some,Option.map_none,List.getElem?_cons_zero,List.getElem?_cons_succ,zy,zx,hc]);rfl)): A=B:=h
theorem zQd{A B:Prop}(h:A=B:=by((try simp -dsimp (disch:=first|exact zd|fail) only[zcore,zall,zopm,zop,zcallOp,qop,qbuiltin,ofOpt,List.map,reduceCtorEq,if_true,if_false,↓reduceIte,zbin,eqRes,qassert,qnum,qshift,qun,kindOf,allocV,List.nil_append,List.append_nil,List.cons_append,List.length_cons,List.length_nil,Nat.reduceAdd,Nat.reduceEqDiff,Nat.reduceLT,Nat.reduceSub,Nat.reduceMul,Int.reduceToNat,Int.reduceLE,Int.reduceLT,Int.reduceEq,Int.reduceNeg,Int.reduceAdd,Int.reduceSub,beq_self_eq_true,cond_true,cond_false,isConstOpd,xpanic,xconv,isBytes,qconv,List.length_map,List.map_nil,List.map_cons,concrete,Option.some.injEq,exists_eq',Option.map_some,Option.map_none,List.getElem?_cons_zero,List.getElem?_cons_succ,zy,zx,hc]);rfl)): A=B:=h
theorem zQf{A B:Prop}(h:A=B:=by((try simp -dsimp (disch:=first|exact zdis|fail) only[zcore,zall,zopm,zop,zcallOp,qop,qbuiltin,ofOpt,List.map,reduceCtorEq,if_true,if_false,↓reduceIte,zbin,eqRes,qassert,qnum,qshift,qun,kindOf,allocV,List.nil_append,List.append_nil,List.cons_append,List.length_cons,List.length_nil,Nat.reduceAdd,Nat.reduceEqDiff,Nat.reduceLT,Nat.reduceSub,Nat.reduceMul,Int.reduceToNat,Int.reduceLE,Int.reduceLT,Int.reduceEq,Int.reduceNeg,Int.reduceAdd,Int.reduceSub,beq_self_eq_true,cond_true,cond_false,isConstOpd,xpanic,xconv,isBytes,qconv,List.length_map,List.map_nil,List.map_cons,concrete,Option.some.injEq,exists_eq',Option.map_some,Option.map_none,List.getElem?_cons_zero,List.getElem?_cons_succ,qfloat,zy,zx,hc]);rfl)): A=B:=h
class zK(G:Prop)(H1 H2:outParam Prop): Prop where
 s:H1->H2->G
instance {t:Bool}{a b:Env->Hp->ZQ->Prop}{ρ:Env}{p:Hp}{Q:ZQ}: zK (condW (.sc (.bool t)) a b ρ p Q) (t=true->a ρ p Q) (t=false->b ρ p Q):=⟨condW_b⟩
instance {b:Bool}{r:XRes}{d:Option Tmp}{k:Env->Hp->ZQ->Prop}{ρ:Env}{p:Hp}{Q:ZQ}: zK (wantO (some b) r d k ρ p Q) (b=true->bindO r d k ρ Q) (b=false->k (put ρ d (.tup [])) p Q):=⟨wantO_s⟩
instance {C:Ctx}{mu:Bool}{ext:FuncId->List CV->Option CV}{call:XCall}{b:Bool}{k:Kind}{n0:Nat}{ρ0:Env}{o:DOp}{l:List DOp}{hist:List (Nat×Hp)}{wt:List Watch}{ρ:Env}{p:Hp}{Q:ZQ}: zK (wantD C mu ext call (some b) k n0 ρ0 o l hist wt ρ p Q) (b=true->stepD C mu ext call k n0 ρ0 o l hist wt ρ p Q) (b=false->Wd C mu ext call n0 ρ0 l hist wt (put ρ o.dst (.tup [])) p Q):=⟨wantD_s C mu ext call⟩
instance {c:Prop}{_:Decidable c}{a b:XRes}{d:Option Tmp}{k:Env->Hp->ZQ->Prop}{ρ:Env}{Q:ZQ}: zK (bindO (if c then a else b) d k ρ Q) (c->bindO a d k ρ Q) (¬c->bindO b d k ρ Q):=⟨bindO_i⟩
instance {C:Ctx}{mu:Bool}{ext:FuncId->List CV->Option CV}{call:XCall}{c:Prop}{_:Decidable c}{a b:XRes}{n0:Nat}{ρ0:Env}{o:DOp}{l:List DOp}{hist:List (Nat×Hp)}{wt:List Watch}{ρ:Env}{p:Hp}{Q:ZQ}: zK (bindE C mu ext call (if c then a else b) n0 ρ0 o l hist wt ρ p Q) (c->bindE C mu ext call a n0 ρ0 o l hist wt ρ p Q) (¬c->bindE C mu ext call b n0 ρ0 o l hist wt ρ p Q):=⟨bindE_i C mu ext call⟩
theorem hc: True:=True.intro
theorem zev{P:Prop}(h:P:=by(try simp[put_at,Q0d]);first|done|assumption|(simp[*];first|done|omega)): P:=h
def ConAll(C:Ctx): List (FuncId×Rel)->Prop
 |[]=>True
 |(f,R)::l=>Con C f R/\ConAll C l
def HasAll(T:XCall): List (FuncId×Rel)->Prop
 |[]=>True
 |(f,R)::l=>Has T f R/\HasAll T l
def ndL: List (FuncId×Rel)->Bool
 |[]=>true
 |(g,_)::l=>(l.all fun x=>!(Nat.beq x.1 g))&&ndL l
theorem has_mono(C:Ctx){g:FuncId}{R':Rel}{l:List (FuncId×Rel)}: ∀m:List (FuncId×Rel),(m.all fun x=>!(Nat.beq x.1 g))=true->HasAll (tabL C l) m->HasAll (tabL C ((g,R')::l)) m
 |[],_,_=>trivial
 |(f,R)::m,h,k=>by
  simp only[List.all_cons,Bool.and_eq_true,Bool.not_eq_true']at h
  exact⟨Q0n C l h.1 k.1,has_mono C m h.2 k.2⟩
theorem has_all(C:Ctx): ∀L:List (FuncId×Rel),ConAll C L->ndL L=true->HasAll (tabL C L) L
 |[],_,_=>trivial
 |(f,R)::l,h,k=>by
  simp only[ndL,Bool.and_eq_true]at k
  exact⟨Q0s C h.1 l,has_mono C l k.1 (has_all C l h.2 k.2)⟩
theorem zW(C:Ctx)(mu:Bool)(L:List (FuncId×Rel))(hL:ConAll C L)(nd:ndL L=true){f:FuncId}{x:XF}(hf:XFok C f x){m:ZC}(hm:zcode x.code=some m){args:List CV}{p:Hp}{r:XRes}
  (h:∀call,HasAll call L->Fine args p->W C mu noExt call m (argE args) p (endQ C x.rs fun r'=>ShrR p r' r)) (hl:args.length<=x.n:=by exact Nat.le_of_ble_eq_true (by kernel_rfl)):AnsAt C f args p r:=
 X0u C mu noExt (tabL C L) hf (noExt_ok C) (Q0r C _) hm hl fun hF=>h _ (has_all C L hL nd) hF
theorem zb9{P:Prop}(h:P:=by simp only[Hp.bump_n,Hp.znew_n,Hp.zset_n];omega): P:=h
theorem zr1{P:Prop}(h:P:=by first|(split<;>simp;done)|(simp;done)): P:=h
theorem zg9{P:Prop}(h:P:=by(try simp (disch:=first|exact zdl|fail) only[zheap]);first|done|assumption|rfl): P:=h
theorem zF(C:Ctx)(f:FuncId)(fn:Func)(h1:C.P.funcs[f]?=some fn:=by kernel_rfl)(h2:fn.body=some (xfOf fn).code:=by kernel_rfl)(h3:fn.results.toList=(xfOf fn).rs:=by kernel_rfl)(h4:fn.ntmps=(xfOf fn).n:=by kernel_rfl)(h5:(fn.name == "runtime.NumGoroutine")=false:=by kernel_rfl)(h6:okCode (xfOf fn).n (xfOf fn).code=true:=by kernel_rfl)(h7:(xfOf fn).rs.all (okRes (xfOf fn).n)=true:=by kernel_rfl): XFok C f (xfOf fn):=⟨fn,h1,h2,h3,h4,h5,h6,h7⟩
end Go.Cl
end
