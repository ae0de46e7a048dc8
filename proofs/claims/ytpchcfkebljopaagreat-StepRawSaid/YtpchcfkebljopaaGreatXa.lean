import Derived.WalkKit
import Derived.WalkLawsBesides
import Derived.Deep.MidRow
import Derived.Deep.AppendSrc
import Derived.Deep.AppendLies
import Derived.Defers
import Derived.Deep.Quiet
import Derived.KernelRfl
import Derived.Laws.StructEq
import Derived.ChangeKeysEq
import Derived.Deep.Upon
import Derived.MapKept
import Derived.Laws.BytesString
set_option linter.unusedSimpArgs false
set_option linter.unusedVariables false
set_option linter.constructorNameAsVariable false
set_option linter.defProp false
set_option maxHeartbeats 8000000
section
namespace Go.Cl
open Go.RowKit
inductive Tail where
 |nil
 |view
 |part
 |exact
 |own (id:Nat)
inductive CV where
 |sc (v:Value)
 |agg (l:List CV)
 |tup (l:List CV)
 |lst (t:Tail) (l:List CV)
 |slc (id:Nat) (path:List Nat) (off len:Nat)
 |ptr (id:Nat) (path:List Nat)
 |rptr (v:CV)
 |mapr (id:Nat)
 |fn (f:FuncId) (first captured:List CV)
 |ifc (t:TypeId) (v:CV)
instance:Inhabited CV:=⟨.tup []⟩
inductive Shape where
 |s
 |t
 |n (l:List Shape)
mutual
def Shape.size: Shape->Nat
 |.s=>1
 |.t=>1
 |.n l=>Shape.sizes l
def Shape.sizes: List Shape->Nat
 |[]=>0
 |x::l=>x.size+Shape.sizes l
end
mutual
def CV.shape: CV->Shape
 |.agg l=>.n (CV.shapes l)
 |.tup _=>.t
 |.sc _|.lst _ _|.slc _ _ _ _|.ptr _ _|.rptr _|.mapr _|.fn _ _ _|.ifc _ _=>.s
def CV.shapes: List CV->List Shape
 |[]=>[]
 |x::l=>x.shape::CV.shapes l
end
theorem CV.shapes_eq: ∀l:List CV,CV.shapes l=l.map CV.shape
 |[]=>rfl
 |x::l=>by simp[CV.shapes,CV.shapes_eq l]
theorem Shape.sizes_eq: ∀l:List Shape,Shape.sizes l=(l.map Shape.size).sum
 |[]=>rfl
 |x::l=>by simp[Shape.sizes,Shape.sizes_eq l]
def CV.size(v:CV): Nat:=v.shape.size
def CV.isAgg: CV->Bool
 |.agg _=>true
 |_=>false
mutual
def Shape.dec: (a b:Shape)->Decidable (a=b)
 |.s,.s=>isTrue rfl
 |.t,.t=>isTrue rfl
 |.s,.t=>isFalse (by simp)
 |.t,.s=>isFalse (by simp)
 |.s,.n _=>isFalse (by simp)
 |.n _,.s=>isFalse (by simp)
 |.t,.n _=>isFalse (by simp)
 |.n _,.t=>isFalse (by simp)
 |.n l,.n m=>match Shape.decs l m with
  |isTrue h=>isTrue (by rw[h])
  |isFalse h=>isFalse (by simpa using h)
def Shape.decs: (a b:List Shape)->Decidable (a=b)
 |[],[]=>isTrue rfl
 |[],_::_=>isFalse (by simp)
 |_::_,[]=>isFalse (by simp)
 |x::l,y::m=>match Shape.dec x y,Shape.decs l m with
  |isTrue h,isTrue k=>isTrue (by rw[h,k])
  |isFalse h,_=>isFalse (fun e=>h (List.cons.inj e).1)
  |_,isFalse k=>isFalse (fun e=>k (List.cons.inj e).2)
end
instance:DecidableEq Shape:=Shape.dec
def Shape.off: Shape->List Nat->Option Nat
 |_,[]=>some 0
 |.n l,i::p=>match l[i]? with
  |some x=>(x.off p).map (Shape.sizes (l.take i) + ·)
  |none=>none
 |.s,_::_=>none
 |.t,_::_=>none
mutual
def Shape.good: Shape->Bool
 |.s=>true
 |.t=>false
 |.n l=>Shape.goods l
def Shape.goods: List Shape->Bool
 |[]=>true
 |x::l=>x.good&&Shape.goods l
end
def Shape.sub: Shape->List Nat->Option Shape
 |x,[]=>some x
 |.n l,i::p=>match l[i]? with
  |some x=>x.sub p
  |none=>none
 |.s,_::_=>none
 |.t,_::_=>none
def CV.at: CV->List Nat->Option CV
 |v,[]=>some v
 |.agg l,i::p=>match l[i]? with
  |some x=>x.at p
  |none=>none
 |_,_::_=>none
def CV.set: CV->List Nat->CV->CV
 |_,[],x=>x
 |.agg l,i::p,x=>match l[i]? with
  |some y=>.agg (l.set i (y.set p x))
  |none=>.agg l
 |v,_::_,_=>v
def plain: Value->Bool
 |.bool _|.int _ _|.float _ _|.string _|.pointer none|.map none|.chan none|.nilFunc|.nilIface=>true
 |_=>false
inductive Loc where
 |var (rb:Nat) (sh:Shape) (tot:Nat)
 |tail (rb cap sz:Nat)
 |map (rb:Nat)
def Loc.block: Loc->Nat
 |.var rb _ _|.tail rb _ _|.map rb=>rb
structure St where
 K:Nat->Nat->Option Value
 μ:Nat->Option Loc
 n:Nat
structure St.le(S S':St): Prop where
 K:∀b o v,S.K b o=some v->S'.K b o=some v
 μ:∀i l,S.μ i=some l->S'.μ i=some l
 n:S.n<=S'.n
theorem St.le.refl(S:St): S.le S:=⟨fun _ _ _ h=>h,fun _ _ h=>h,Nat.le_refl _⟩
theorem St.le.trans{a b c:St}(h:a.le b)(k:b.le c): a.le c:=
 ⟨fun _ _ _ x=>k.K _ _ _ (h.K _ _ _ x),fun _ _ x=>k.μ _ _ (h.μ _ _ x),Nat.le_trans h.n k.n⟩
def St.lies(S:St)(b o:Nat)(cs:List Value): Prop:=∀j u,cs[j]?=some u->S.K b (o+j)=some u
def Tail.mayNil: Tail->Bool
 |.nil|.view=>true
 |.part|.exact|.own _=>false
def Tail.may: Tail->Option Addr->Bool
 |.nil,none=>true
 |.view,_=>true
 |_,_=>false
theorem Tail.may_nil{t:Tail}{a:Option Addr}(h:t.may a=true): t.mayNil=true:=by
 cases t<;>simp[Tail.may,Tail.mayNil]at *
def Tail.fits(S:St)(b off len cap sz:Nat): Tail->Prop
 |.nil=>False
 |.view=>True
 |.part=>True
 |.exact=>cap=len
 |.own id=>S.μ id=some (.tail b cap sz)/\off=0
mutual
def FR(S:St): CV->List Value->Prop
 |.sc v,cs=>cs=[v]/\plain v=true
 |.agg l,cs=>FRs S l cs
 |.tup l,cs=>∃vs:List Value,cs=[.tuple vs.toArray]/\VRs S l vs
 |.lst t l,cs=>(l=[]/\∃a,t.may a=true/\cs=[.slice a 0 0]) \/
  ∃b off cap sz es,cs=[.slice (some ⟨b,off,none⟩) l.length cap]/\l.length<=cap/\FRs S l es/\S.lies b off es/\(∀x∈l,x.size=sz)/\t.fits S b off l.length cap sz
 |.slc id path off len,cs=>∃rb sh l o cap,cs=[.slice (some ⟨rb,o+Shape.sizes (l.take off),none⟩) len cap]/\(∃tot,S.μ id=some (.var rb sh tot)/\(path=[]->off=0->l.length<=cap/\∃sz,(∀x∈l,x.size=sz)/\cap*sz<=tot))/\sh.sub path=some (.n l)/\sh.off path=some o/\len<=cap/\off+len<=l.length
 |.ptr id path,cs=>∃rb sh o,cs=[.pointer (some ⟨rb,o,none⟩)]/\(∃tot,S.μ id=some (.var rb sh tot))/\sh.off path=some o
 |.rptr v,cs=>∃b o es,cs=[.pointer (some ⟨b,o,none⟩)]/\FR S v es/\S.lies b o es
 |.mapr id,cs=>∃rb,cs=[.map (some rb)]/\S.μ id=some (.map rb)
 |.fn f k l,cs=>∃us vs:List Value,cs=[.func (.func f) us.toArray vs.toArray]/\VRs S k us/\VRs S l vs
 |.ifc t v,cs=>∃x:Value,cs=[.iface t x]/\FR S v x.cells.toList/\((∃c,x=.agg c) ↔ v.isAgg=true)
def FRs(S:St): List CV->List Value->Prop
 |[],cs=>cs=[]
 |v::l,cs=>∃c ds,cs=c++ds/\FR S v c/\FRs S l ds
def VRs(S:St): List CV->List Value->Prop
 |[],vs=>vs=[]
 |v::l,vs=>∃x xs,vs=x::xs/\(FR S v x.cells.toList/\((∃c,x=.agg c) ↔ v.isAgg=true))/\VRs S l xs
end
def VR(S:St)(v:CV)(x:Value): Prop:=FR S v x.cells.toList/\((∃c,x=.agg c) ↔ v.isAgg=true)
theorem Tail.fits_mono{S S':St}(h:S.le S'){b off len cap sz:Nat}: ∀{t:Tail},t.fits S b off len cap sz->t.fits S' b off len cap sz
 |.nil,k=>k
 |.view,_=>trivial
 |.part,_=>trivial
 |.exact,k=>k
 |.own _,k=>⟨h.μ _ _ k.1,k.2⟩
theorem St.lies_mono{S S':St}(h:S.le S'){b o:Nat}{cs:List Value}(k:S.lies b o cs): S'.lies b o cs:=fun j u hu=>h.K _ _ _ (k j u hu)
mutual
theorem FR.mono{S S':St}(h:S.le S'): ∀(v:CV) (cs:List Value),FR S v cs->FR S' v cs
 |.sc _,_,k=>by simp only[FR]at *;exact k
 |.agg l,cs,k=>by simp only[FR]at *;exact FRs.mono h l cs k
 |.tup l,_,k=>by simp only[FR]at *;obtain⟨vs,e,k⟩:=k;exact⟨vs,e,VRs.mono h l vs k⟩
 |.lst t l,_,k=>by
  simp only[FR]at *
  rcases k with k|⟨b,off,cap,sz,es,e,h1,h2,h3,h4,h5⟩
  ·exact .inl k
  ·exact .inr ⟨b,off,cap,sz,es,e,h1,FRs.mono h l es h2,St.lies_mono h h3,h4,Tail.fits_mono h h5⟩
 |.slc _ _ _ _,_,k=>by simp only[FR]at *;obtain⟨rb,sh,l,o,cap,e,⟨tot,k1,k3⟩,k2⟩:=k;exact⟨rb,sh,l,o,cap,e,⟨tot,h.μ _ _ k1,k3⟩,k2⟩
 |.ptr _ _,_,k=>by simp only[FR]at *;obtain⟨rb,sh,o,e,⟨tot,k1⟩,k2⟩:=k;exact⟨rb,sh,o,e,⟨tot,h.μ _ _ k1⟩,k2⟩
 |.rptr v,_,k=>by simp only[FR]at *;obtain⟨b,o,es,e,k1,k2⟩:=k;exact⟨b,o,es,e,FR.mono h v es k1,St.lies_mono h k2⟩
 |.mapr _,_,k=>by simp only[FR]at *;obtain⟨rb,e,k1⟩:=k;exact⟨rb,e,h.μ _ _ k1⟩
 |.fn _ k0 l,_,k=>by simp only[FR]at *;obtain⟨us,vs,e,k1,k⟩:=k;exact⟨us,vs,e,VRs.mono h k0 us k1,VRs.mono h l vs k⟩
 |.ifc _ v,_,k=>by simp only[FR]at *;obtain⟨x,e,k,k2⟩:=k;exact⟨x,e,FR.mono h v _ k,k2⟩
theorem FRs.mono{S S':St}(h:S.le S'): ∀(l:List CV) (cs:List Value),FRs S l cs->FRs S' l cs
 |[],_,k=>by simp only[FRs]at *;exact k
 |v::l,_,k=>by simp only[FRs]at *;obtain⟨c,ds,e,k1,k2⟩:=k;exact⟨c,ds,e,FR.mono h v c k1,FRs.mono h l ds k2⟩
theorem VRs.mono{S S':St}(h:S.le S'): ∀(l:List CV) (vs:List Value),VRs S l vs->VRs S' l vs
 |[],_,k=>by simp only[VRs]at *;exact k
 |v::l,_,k=>by simp only[VRs]at *;obtain⟨x,xs,e,⟨k1,k2⟩,k3⟩:=k;exact⟨x,xs,e,⟨FR.mono h v _ k1,k2⟩,VRs.mono h l xs k3⟩
end
theorem VR.mono{S S':St}(h:S.le S'){v:CV}{x:Value}(k:VR S v x): VR S' v x:=⟨FR.mono h v _ k.1,k.2⟩
theorem V0f{S:St}{v:CV}{l:List CV}{x:Value}{xs:List Value}: VRs S (v::l) (x::xs) ↔ VR S v x/\VRs S l xs:=by
 simp only[VRs,VR]
 constructor
 ·rintro⟨y,ys,e,h1,h2⟩;cases e;exact⟨h1,h2⟩
 ·rintro⟨h1,h2⟩;exact⟨x,xs,rfl,h1,h2⟩
mutual
theorem FR.length{S:St}: ∀(v:CV) (cs:List Value),FR S v cs->cs.length=v.size
 |.sc _,_,k=>by simp only[FR]at k;simp[k.1,CV.size,CV.shape,Shape.size]
 |.agg l,cs,k=>by simp only[FR]at k;simpa[CV.size,CV.shape,Shape.size]using FRs.length l cs k
 |.tup l,_,k=>by simp only[FR]at k;obtain⟨vs,e,k⟩:=k;simp[e,CV.size,CV.shape,Shape.size]
 |.lst t l,_,k=>by
  simp only[FR]at k
  rcases k with k|⟨b,off,cap,sz,es,e,_⟩
  ·obtain⟨_,a,_,k⟩:=k;simp[k,CV.size,CV.shape,Shape.size]
  ·simp[e,CV.size,CV.shape,Shape.size]
 |.slc _ _ _ _,_,k=>by simp only[FR]at k;obtain⟨rb,sh,l,o,cap,e,_⟩:=k;simp[e,CV.size,CV.shape,Shape.size]
 |.ptr _ _,_,k=>by simp only[FR]at k;obtain⟨rb,sh,o,e,_⟩:=k;simp[e,CV.size,CV.shape,Shape.size]
 |.rptr v,_,k=>by simp only[FR]at k;obtain⟨b,o,es,e,_⟩:=k;simp[e,CV.size,CV.shape,Shape.size]
 |.mapr _,_,k=>by simp only[FR]at k;obtain⟨rb,e,_⟩:=k;simp[e,CV.size,CV.shape,Shape.size]
 |.fn _ _ l,_,k=>by simp only[FR]at k;obtain⟨us,vs,e,k⟩:=k;simp[e,CV.size,CV.shape,Shape.size]
 |.ifc _ v,_,k=>by simp only[FR]at k;obtain⟨x,e,k,k2⟩:=k;simp[e,CV.size,CV.shape,Shape.size]
theorem FRs.length{S:St}: ∀(l:List CV) (cs:List Value),FRs S l cs->cs.length=Shape.sizes (CV.shapes l)
 |[],_,k=>by simp only[FRs]at k;simp[k,CV.shapes,Shape.sizes]
 |v::l,_,k=>by
  simp only[FRs]at k
  obtain⟨c,ds,e,k1,k2⟩:=k
  have h1:=FR.length v c k1
  have h2:=FRs.length l ds k2
  simp only[CV.size]at h1
  simp[e,CV.shapes,Shape.sizes,h1,h2]
end
theorem one_of_plain{v:Value}(h:plain v=true): v.oneCell'=true:=by cases v<;>simp[plain,Value.oneCell']at h ⊢
mutual
theorem FR.one{S:St}: ∀(v:CV) (cs:List Value),FR S v cs->v.shape.good=true->∀u∈cs,u.oneCell'=true
 |.sc _,_,k,_=>by simp only[FR]at k;rw[k.1];simpa using one_of_plain k.2
 |.agg l,cs,k,g=>by simp only[FR]at k;exact FRs.one l cs k (by simpa[CV.shape,Shape.good]using g)
 |.tup l,_,_,g=>by simp[CV.shape,Shape.good]at g
 |.lst t l,_,k,_=>by
  simp only[FR]at k
  rcases k with k|⟨b,off,cap,sz,es,e,_⟩
  ·obtain⟨_,a,_,k⟩:=k;simp[k,Value.oneCell']
  ·simp[e,Value.oneCell']
 |.slc _ _ _ _,_,k,_=>by simp only[FR]at k;obtain⟨rb,sh,l,o,cap,e,_⟩:=k;simp[e,Value.oneCell']
 |.ptr _ _,_,k,_=>by simp only[FR]at k;obtain⟨rb,sh,o,e,_⟩:=k;simp[e,Value.oneCell']
 |.rptr v,_,k,_=>by simp only[FR]at k;obtain⟨b,o,es,e,_⟩:=k;simp[e,Value.oneCell']
 |.mapr _,_,k,_=>by simp only[FR]at k;obtain⟨rb,e,_⟩:=k;simp[e,Value.oneCell']
 |.fn _ _ l,_,k,_=>by simp only[FR]at k;obtain⟨us,vs,e,k⟩:=k;simp[e,Value.oneCell']
 |.ifc _ v,_,k,_=>by simp only[FR]at k;obtain⟨x,e,k,k2⟩:=k;simp[e,Value.oneCell']
theorem FRs.one{S:St}: ∀(l:List CV) (cs:List Value),FRs S l cs->Shape.goods (CV.shapes l)=true->∀u∈cs,u.oneCell'=true
 |[],_,k,_=>by simp only[FRs]at k;simp[k]
 |v::l,_,k,g=>by
  simp only[FRs]at k
  simp only[CV.shapes,Shape.goods,Bool.and_eq_true]at g
  obtain⟨c,ds,e,k1,k2⟩:=k
  subst e
  intro u hu
  rcases List.mem_append.1 hu with hu|hu
  ·exact FR.one v c k1 g.1 u hu
  ·exact FRs.one l ds k2 g.2 u hu
end
theorem FRs.focus{S:St}: ∀(l:List CV) (cs:List Value) (i:Nat) (x:CV),FRs S l cs->l[i]?=some x->
  ∃pre c post,cs=pre++c++post/\pre.length=Shape.sizes ((CV.shapes l).take i)/\FR S x c/\∀(S':St) y c',S.le S'->FR S' y c'->FRs S' (l.set i y) (pre++c'++post)
 |[],_,_,_,_,hi=>by simp at hi
 |v::l,cs,0,x,k,hi=>by
  simp only[FRs]at k
  obtain⟨c,ds,rfl,k1,k2⟩:=k
  simp at hi
  subst hi
  refine⟨[],c,ds,by simp,by simp[Shape.sizes],k1,fun S' y c' hS h=>?_⟩
  simp only[List.set_cons_zero,FRs,List.nil_append]
  exact⟨c',ds,rfl,h,FRs.mono hS _ _ k2⟩
 |v::l,cs,i+1,x,k,hi=>by
  simp only[FRs]at k
  obtain⟨c,ds,rfl,k1,k2⟩:=k
  obtain⟨pre,c0,post,rfl,hp,hx,hs⟩:=FRs.focus l ds i x k2 (by simpa using hi)
  have hl:=FR.length v c k1
  refine⟨c++pre,c0,post,by simp,?_,hx,fun S' y c' hS h=>?_⟩
  ·simp only[CV.size]at hl
   simp[CV.shapes,Shape.sizes,hp,hl]
  ·simp only[List.set_cons_succ,FRs]
   exact⟨c,pre++c'++post,by simp,FR.mono hS _ _ k1,hs S' y c' hS h⟩
theorem FR.focus{S:St}: ∀(p:List Nat) (v:CV) (cs:List Value) (x:CV),FR S v cs->v.at p=some x->
  ∃pre c post,cs=pre++c++post/\v.shape.off p=some pre.length/\FR S x c/\∀(S':St) y c',S.le S'->FR S' y c'->FR S' (v.set p y) (pre++c'++post)
 |[],v,cs,x,k,hx=>by
  simp[CV.at]at hx
  subst hx
  exact⟨[],cs,[],by simp,by cases v<;>simp[Shape.off],k,fun S' y c' _ h=>by simpa[CV.set]using h⟩
 |i::p,v,cs,x,k,hx=>by
  cases v<;>simp only[CV.at]at hx<;>try(exact absurd hx (by simp))
  rename_i l
  cases hl:l[i]? with
  |none=>simp[hl]at hx
  |some y=>
   simp[hl]at hx
   simp only[FR]at k
   obtain⟨pre,c,post,rfl,hp,hy,hs⟩:=FRs.focus l cs i y k hl
   obtain⟨pre2,c2,post2,rfl,hp2,hx2,hs2⟩:=FR.focus p y c x hy hx
   refine⟨pre++pre2,c2,post2++post,by simp,?_,hx2,fun S' z c' hS h=>?_⟩
   ·simp only[CV.shape,Shape.off]
    rw[CV.shapes_eq]at *
    simp[hl,hp2,hp]
   ·simp only[CV.set,hl,FR]
    have:=hs S' (y.set p z) (pre2++c'++post2) hS (hs2 S' z c' hS h)
    simpa using this
theorem CV.shape_set: ∀(p:List Nat) (v x y:CV),v.at p=some x->y.shape=x.shape->(v.set p y).shape=v.shape
 |[],v,x,y,hx,h=>by simp[CV.at]at hx;subst hx;simpa[CV.set]using h
 |i::p,v,x,y,hx,h=>by
  cases v<;>simp only[CV.at]at hx<;>try(exact absurd hx (by simp))
  rename_i l
  cases hl:l[i]? with
  |none=>simp[hl]at hx
  |some z=>
   simp[hl]at hx
   have:=CV.shape_set p z x y hx h
   simp only[CV.set,hl,CV.shape,CV.shapes_eq]
   congr 1
   rw[List.map_set,this]
   apply List.ext_getElem?
   intro j
   by_cases hj:i=j
   ·subst hj
    have:i<(l.map CV.shape).length:=by
     have:=(List.getElem?_eq_some_iff.1 hl).1
     simpa using this
    simp[List.getElem?_set,hl]
    simpa using this
   ·simp[hj]
end Go.Cl
end
section
namespace Go.Cl
open Go.RowKit
inductive Obj where
 |var (v:CV)
 |tail (n:Nat)
 |map (l:List (CV×CV))
abbrev Heap:=Nat->Option Obj
def upd(h:Heap)(i:Nat)(o:Option Obj): Heap:=fun j=>if j=i then o else h j
theorem V0h(h:Heap)(i:Nat)(o:Option Obj): upd h i o i=o:=if_pos rfl
theorem X0g(h:Heap){i j:Nat}(o:Option Obj)(hj:j≠i): upd h i o j=h j:=if_neg hj
def Entries(S:St)(l:List (CV×CV))(es:List MapEntry): Prop:=
 l.length=es.length/\∀(i:Nat) (x:CV×CV) (e:MapEntry),l[i]?=some x->es[i]?=some e->VR S x.1 e.key/\VR S x.2 e.val
def Live(S:St)(w:World): Obj->Loc->Prop
 |.var v,.var rb sh tot=>v.shape=sh/\(∃arr e cs junk,w.heap[rb]?=some (.cells arr e (0,0))/\arr.toList=cs++junk/\arr.size=tot/\FR S v cs)/\∀o,S.K rb o=none
 |.tail n,.tail rb cap sz=>(∃arr e,w.heap[rb]?=some (.cells arr e (0,0))/\arr.size=cap*sz/\n<=cap)/\∀o,n*sz<=o->S.K rb o=none
 |.map l,.map rb=>(∃es clock,w.heap[rb]?=some (.map es clock)/\Entries S l es.toList)/\∀o,S.K rb o=none
 |_,_=>False
structure R(w0:World)(B:Nat)(S:St)(h:Heap)(w:World): Prop where
 below:Below B w0 w
 size:B<=w.heap.size
 kcell:∀b o v,S.K b o=some v->w.cell? ⟨b,o,none⟩=some v
 fresh:∀i,S.n<=i->S.μ i=none/\h i=none
 live:∀i obj loc,h i=some obj->S.μ i=some loc->Live S w obj loc/\B<=loc.block
 inj:∀i j oi oj li lj,i≠j->h i=some oi->h j=some oj->S.μ i=some li->S.μ j=some lj->li.block≠lj.block
theorem K0g{w w':World}{b:Nat}(h:w'.heap[b]?=w.heap[b]?)(o:Nat): w'.cell? ⟨b,o,none⟩=w.cell? ⟨b,o,none⟩:=by simp[World.cell?,h]
theorem V0l{w:World}{b:Nat}{arr:Array Value}{e:TypeId}{fr:Nat×Nat}(h:w.heap[b]?=some (.cells arr e fr))(o:Nat): w.cell? ⟨b,o,none⟩=arr[o]?:=by
 simp[World.cell?,h]
theorem Z0h{w:World}{b o:Nat}{v:Value}(h:w.cell? ⟨b,o,none⟩=some v): b<w.heap.size:=by
 unfold World.cell? at h
 by_cases hb:b<w.heap.size
 ·exact hb
 ·simp[Array.getElem?_eq_none (Nat.le_of_not_lt hb)]at h
theorem Entries.mono{S S':St}(h:S.le S'){l:List (CV×CV)}{es:List MapEntry}(k:Entries S l es): Entries S' l es:=
 ⟨k.1,fun i x e h1 h2=>⟨VR.mono h (k.2 i x e h1 h2).1,VR.mono h (k.2 i x e h1 h2).2⟩⟩
theorem Live.mono{S S':St}{w w':World}(hS:S.le S'){obj:Obj}{loc:Loc}(hw:w'.heap[loc.block]?=w.heap[loc.block]?)
  (hk:∀o,S.K loc.block o=none->S'.K loc.block o=none) (h:Live S w obj loc):Live S' w' obj loc:=by
 cases obj<;>cases loc<;>simp only[Live]at h ⊢<;>try(exact h.elim)
 ·obtain⟨h1,⟨arr,e,cs,junk,h2,ha,hz,h3⟩,h4⟩:=h
  exact⟨h1,⟨arr,e,cs,junk,by rw[<- h2];exact hw,ha,hz,FR.mono hS _ _ h3⟩,fun o=>hk o (h4 o)⟩
 ·obtain⟨⟨arr,e,h2,h3⟩,h4⟩:=h
  exact⟨⟨arr,e,by rw[<- h2];exact hw,h3⟩,fun o ho=>hk o (h4 o ho)⟩
 ·obtain⟨⟨es,clock,h2,h3⟩,h4⟩:=h
  exact⟨⟨es,clock,by rw[<- h2];exact hw,h3.mono hS⟩,fun o=>hk o (h4 o)⟩
theorem Live.lt{S:St}{w:World}{obj:Obj}{loc:Loc}(h:Live S w obj loc): loc.block<w.heap.size:=by
 have key:∀(b:Nat) (o:Go.Obj),w.heap[b]?=some o->b<w.heap.size:=fun b o hb=>(Array.getElem?_eq_some_iff.1 hb).1
 cases obj<;>cases loc<;>simp only[Live]at h<;>try(exact h.elim)
 ·obtain⟨_,⟨arr,e,cs,junk,h2,_⟩,_⟩:=h;exact key _ _ h2
 ·obtain⟨⟨arr,e,h2,_⟩,_⟩:=h;exact key _ _ h2
 ·obtain⟨⟨es,clock,h2,_⟩,_⟩:=h;exact key _ _ h2
theorem R.same{w0:World}{B:Nat}{S:St}{h:Heap}{w w':World}(r:R w0 B S h w)(hb:Below B w0 w')(hs:B<=w'.heap.size)(hw:∀b,b<w.heap.size->w'.heap[b]?=w.heap[b]?): R w0 B S h w' where
 below:=hb
 size:=hs
 kcell b o v hk:=by
  have:=r.kcell b o v hk
  rw[K0g (hw b (Z0h this))];exact this
 fresh:=r.fresh
 live i obj loc h1 h2:=by
  have:=r.live i obj loc h1 h2
  exact⟨this.1.mono (St.le.refl _) (hw _ this.1.lt) (fun _ h=>h),this.2⟩
 inj:=r.inj
theorem R.drew{w0:World}{B:Nat}{S:St}{h:Heap}{w:World}(r:R w0 B S h w): R w0 B S h w.drew:=
 r.same (r.below.drew) r.size (fun _ _=>rfl)
theorem R.drop{w0:World}{B:Nat}{S:St}{h h':Heap}{w:World}(r:R w0 B S h w)(hh:∀i,h' i=none\/h' i=h i): R w0 B S h' w where
 below:=r.below
 size:=r.size
 kcell:=r.kcell
 fresh i hi:=⟨(r.fresh i hi).1,by rcases hh i with e|e;exact e;rw[e];exact(r.fresh i hi).2⟩
 live i obj loc h1 h2:=by
  rcases hh i with e|e
  ·rw[e]at h1;cases h1
  ·exact r.live i obj loc (by rw[<- e];exact h1) h2
 inj i j oi oj li lj hij h1 h2 h3 h4:=by
  rcases hh i with e|e
  ·rw[e]at h1;cases h1
  rcases hh j with e'|e'
  ·rw[e']at h2;cases h2
  exact r.inj i j oi oj li lj hij (by rw[<- e];exact h1) (by rw[<- e'];exact h2) h3 h4
def St.named(S:St)(i:Nat)(l:Loc): St:={K:=S.K,μ:=fun j=>if j=i then some l else S.μ j,n:=max S.n (i+1)}
theorem St.le_named{S:St}{i:Nat}{l:Loc}(hi:S.μ i=none): S.le (S.named i l) where
 K _ _ _ h:=h
 μ j x hj:=by
  show(if j=i then some l else S.μ j)=some x
  rw[if_neg (fun e=>by rw[e,hi]at hj;cases hj)];exact hj
 n:=Nat.le_max_left _ _
theorem St.named_μ{S:St}{i:Nat}{l:Loc}: (S.named i l).μ i=some l:=if_pos rfl
theorem R.alloc{w0:World}{B:Nat}{S:St}{h h':Heap}{w:World}(r:R w0 B S h w){i:Nat}{v:CV}{arr:Array Value}{e:TypeId}
  (hi:S.μ i=none) (hv:FR S v arr.toList) (hi':h' i=some (.var v)) (hh:∀j,j≠i->h' j=h j):
  R w0 B (S.named i (.var w.heap.size v.shape arr.size)) h' (w.alloc (.cells arr e)) where
 below:=r.below.alloc r.size _
 size:=by have:=r.size;rw[show(w.alloc (.cells arr e)).heap=w.heap.push (.cells arr e) from rfl,Array.size_push];omega
 kcell b o x hk:=by
  have:=r.kcell b o x hk
  rw[K0g (Below.heap_alloc w _ b (Z0h this))];exact this
 fresh j hj:=by
  have h1:S.n<=j:=Nat.le_trans (Nat.le_max_left _ _) hj
  have h2:j≠i:=by have:=Nat.le_trans (Nat.le_max_right S.n (i+1)) hj;omega
  refine⟨?_,by rw[hh j h2];exact(r.fresh j h1).2⟩
  show(if j=i then some _ else S.μ j)=none
  rw[if_neg h2];exact(r.fresh j h1).1
 live j obj loc h1 h2:=by
  by_cases hj:j=i
  ·subst hj
   rw[hi']at h1;cases h1
   rw[St.named_μ]at h2;cases h2
   refine⟨⟨rfl,⟨arr,e,arr.toList,[],by rw[show(w.alloc (.cells arr e)).heap=w.heap.push (.cells arr e) from rfl];simp,by simp,rfl,FR.mono (St.le_named hi) _ _ hv⟩,fun o=>?_⟩,r.size⟩
   cases hk:S.K w.heap.size o with
   |none=>exact hk
   |some x=>have:=Z0h (r.kcell _ _ _ hk);omega
  ·rw[hh j hj]at h1
   have h2':S.μ j=some loc:=by
    have:(if j=i then some (Loc.var w.heap.size v.shape arr.size)else S.μ j)=some loc:=h2
    rwa [if_neg hj]at this
   have:=r.live j obj loc h1 h2'
   exact⟨this.1.mono (St.le_named hi) (Below.heap_alloc w _ _ this.1.lt) (fun _ h=>h),this.2⟩
 inj j k oj ok lj lk hjk h1 h2 h3 h4:=by
  have get:∀j l,j≠i->(S.named i (.var w.heap.size v.shape arr.size)).μ j=some l->S.μ j=some l:=fun j l hj h=>by
   have:(if j=i then some (Loc.var w.heap.size v.shape arr.size)else S.μ j)=some l:=h
   rwa [if_neg hj]at this
  by_cases hj:j=i
  ·subst hj
   have hk:=Ne.symm hjk
   rw[St.named_μ]at h3;cases h3
   rw[hh k hk]at h2
   have:=(r.live k ok lk h2 (get k _ hk h4)).1.lt
   show w.heap.size≠_;omega
  ·rw[hh j hj]at h1
   by_cases hk:k=i
   ·subst hk
    rw[St.named_μ]at h4;cases h4
    have:=(r.live j oj lj h1 (get j _ hj h3)).1.lt
    show _≠w.heap.size;omega
   ·rw[hh k hk]at h2
    exact r.inj j k oj ok lj lk hjk h1 h2 (get j _ hj h3) (get k _ hk h4)
theorem V0n{b:Nat}{e:TypeId}: ∀(vs:List Value) (pre c post:List Value) (w:World) (arr:Array Value),w.heap[b]?=some (.cells arr e (0,0))->arr.toList=pre++c++post->c.length=vs.length->
  ∃arr',(w.setCells b pre.length vs).heap[b]?=some (.cells arr' e (0,0))/\arr'.toList=pre++vs++post
 |[],pre,c,post,w,arr,h,ha,hc=>⟨arr,h,by have:c=[]:=List.length_eq_zero_iff.1 (by simpa using hc);subst this;simpa using ha⟩
 |v::vs,pre,[],post,w,arr,h,ha,hc=>by simp at hc
 |v::vs,pre,c::cs,post,w,arr,h,ha,hc=>by
  have h1:(w.setCell ⟨b,pre.length,none⟩ v).heap[b]?=some (.cells (arr.setIfInBounds pre.length v) e (0,0)):=by
   simp[World.setCell,Array.getElem?_modify,h]
  have h2:(arr.setIfInBounds pre.length v).toList=(pre++[v])++cs++post:=by
   rw[Array.toList_setIfInBounds,ha]
   simp
  obtain⟨arr',k1,k2⟩:=V0n vs (pre++[v]) cs post _ _ h1 h2 (by simpa using hc)
  refine⟨arr',?_,by simpa using k2⟩
  simpa[World.setCells]using k1
theorem Q0k{b b':Nat}(hb:b'≠b): ∀(vs:List Value) (o:Nat) (w:World),(w.setCells b o vs).heap[b']?=w.heap[b']?
 |[],_,_=>rfl
 |v::vs,_,_=>by
  simp only[World.setCells]
  rw[Q0k hb vs]
  exact Below.heap_setCell _ _ v b' hb
theorem Y0l{B b:Nat}{w0:World}(hb:B<=b): ∀(vs:List Value) (o:Nat) (w:World),Below B w0 w->Below B w0 (w.setCells b o vs)
 |[],_,_,h=>h
 |v::vs,o,_,h=>Y0l hb vs (o+1) _ (h.setCell hb v)
theorem Y0m{b:Nat}: ∀(vs:List Value) (o:Nat) (w:World),(w.setCells b o vs).heap.size=w.heap.size
 |[],_,_=>rfl
 |v::vs,_,_=>by simp only[World.setCells];rw[Y0m vs];simp[World.setCell]
theorem R.store{w0:World}{B:Nat}{S:St}{h:Heap}{w:World}(r:R w0 B S h w){i rb tot:Nat}{sh:Shape}{v x y:CV}{p:List Nat}{c':List Value}{o:Nat}
  (hi:h i=some (.var v)) (hμ:S.μ i=some (.var rb sh tot)) (hp:v.at p=some x) (ho:sh.off p=some o) (hy:FR S y c') (hs:y.shape=x.shape):
  R w0 B S (upd h i (some (.var (v.set p y)))) (w.setCells rb o c')/\w.there rb o c'.length:=by
 have hl:=r.live i _ _ hi hμ
 obtain⟨⟨hsh,⟨arr,e,cs0,junk,ha,hj,hz,hf⟩,hK⟩,hB⟩:=hl
 simp only[Loc.block]at hB
 obtain⟨pre,c,post,hc,hoff,hx,hset⟩:=FR.focus p v cs0 x hf hp
 rw[hsh,ho]at hoff
 cases hoff
 have hlen:c.length=c'.length:=by rw[FR.length _ _ hx,FR.length _ _ hy,CV.size,CV.size,hs]
 have hc:arr.toList=pre++c++(post++junk):=by rw[hj,hc];simp
 obtain⟨arr',k1,k2⟩:=V0n c' pre c (post++junk) w arr ha hc hlen
 have other:∀j obj loc,j≠i->h j=some obj->S.μ j=some loc->loc.block≠rb:=fun j obj loc hj h1 h2=>
  r.inj j i obj _ loc _ hj h1 hi h2 hμ
 refine⟨⟨Y0l hB _ _ _ r.below,by rw[Y0m];exact r.size,?_,?_,?_,?_⟩,?_⟩
 ·intro b o v hk
  have hb:b≠rb:=fun e=>by subst e;rw[hK]at hk;cases hk
  rw[K0g (Q0k hb _ _ _)]
  exact r.kcell b o v hk
 ·intro j hj
  refine⟨(r.fresh j hj).1,?_⟩
  have hji:j≠i:=fun e=>by subst e;rw[(r.fresh _ hj).1]at hμ;cases hμ
  rw[X0g _ _ hji];exact(r.fresh j hj).2
 ·intro j obj loc h1 h2
  by_cases hj:j=i
  ·subst hj
   rw[V0h]at h1;cases h1
   rw[hμ]at h2;cases h2
   refine⟨⟨by rw[CV.shape_set p v x y hp hs];exact hsh,⟨arr',e,pre++c'++post,junk,k1,by rw[k2];simp,?_,hset S y c' (St.le.refl _) hy⟩,hK⟩,hB⟩
   rw[<- hz,<- Array.length_toList,<- Array.length_toList,k2,hc]
   simp[hlen]
  ·rw[X0g _ _ hj]at h1
   have:=r.live j obj loc h1 h2
   exact⟨this.1.mono (St.le.refl _) (Q0k (other j obj loc hj h1 h2) _ _ _) (fun _ h=>h),this.2⟩
 ·intro j k oj ok lj lk hjk h1 h2 h3 h4
  have get:∀j oj,upd h i (some (.var (v.set p y))) j=some oj->∃oj',h j=some oj':=fun j oj hj=>by
   by_cases e:j=i
   ·subst e;exact⟨_,hi⟩
   ·rw[X0g _ _ e]at hj;exact⟨_,hj⟩
  obtain⟨_,h1'⟩:=get j oj h1
  obtain⟨_,h2'⟩:=get k ok h2
  exact r.inj j k _ _ lj lk hjk h1' h2' h3 h4
 ·intro j hj
  have hlt:pre.length+j<arr.size:=by
   have:arr.toList.length=pre.length+c.length+(post++junk).length:=by rw[hc];simp only[List.length_append,Nat.add_assoc]
   rw[<- Array.length_toList,this];omega
  refine⟨by rw[V0l ha];simp[hlt],by simp[World.frozen?,ha]⟩
theorem R.load{w0:World}{B:Nat}{S:St}{h:Heap}{w:World}(r:R w0 B S h w){i rb tot:Nat}{sh:Shape}{v x:CV}{p:List Nat}{o:Nat}
  (hi:h i=some (.var v)) (hμ:S.μ i=some (.var rb sh tot)) (hp:v.at p=some x) (ho:sh.off p=some o):∃c,FR S x c/\w.rangeAt rb o c:=by
 obtain⟨⟨hsh,⟨arr,e,cs0,junk,ha,hj,hz,hf⟩,hK⟩,hB⟩:=r.live i _ _ hi hμ
 obtain⟨pre,c,post,hc,hoff,hx,hset⟩:=FR.focus p v cs0 x hf hp
 have hc:arr.toList=pre++c++(post++junk):=by rw[hj,hc];simp
 rw[hsh,ho]at hoff
 cases hoff
 refine⟨c,hx,fun j u hu=>?_⟩
 rw[V0l ha,<- Array.getElem?_toList,hc,List.getElem?_append_left (by simp;have:=(List.getElem?_eq_some_iff.1 hu).1;omega),List.getElem?_append_right (by omega)]
 simpa using hu
theorem R.lies{w0:World}{B:Nat}{S:St}{h:Heap}{w:World}(r:R w0 B S h w){b o:Nat}{c:List Value}(hl:S.lies b o c): w.rangeAt b o c:=fun j u hu=>r.kcell _ _ _ (hl j u hu)
end Go.Cl
end
section
namespace Go.Cl
open Go.RowKit
inductive TD where
 |base (u:TypeDesc)
 |st (fs:List (Nat×Nat×TypeId))
 |ar (n esz:Nat) (e:TypeId)
structure TI where
 d:TD
 sh:Shape
 bytes:Nat
 zero:CV
mutual
def flatC: CV->Option (List Value)
 |.sc v=>if plain v then some [v]else none
 |.agg l=>flatCs l
 |.lst .nil []=>some [.slice none 0 0]
 |_=>none
def flatCs: List CV->Option (List Value)
 |[]=>some []
 |v::l=>match flatC v,flatCs l with
  |some a,some b=>some (a++b)
  |_,_=>none
end
mutual
theorem V0k{S:St}: ∀(v:CV) (cs:List Value),flatC v=some cs->FR S v cs
 |.sc v,cs,h=>by simp[flatC]at h;simp[FR,h.1,h.2]
 |.agg l,cs,h=>by simp only[flatC]at h;simp only[FR];exact Z1k l cs h
 |.lst .nil [],cs,h=>by simp[flatC]at h;simp[FR,<- h,Tail.may]
 |.lst .nil (_::_),cs,h=>by simp[flatC]at h
 |.lst .exact _,cs,h=>by simp[flatC]at h
 |.lst .view _,cs,h=>by simp[flatC]at h
 |.lst .part _,cs,h=>by simp[flatC]at h
 |.lst (.own _) _,cs,h=>by simp[flatC]at h
 |.tup _,cs,h=>by simp[flatC]at h
 |.slc _ _ _ _,cs,h=>by simp[flatC]at h
 |.ptr _ _,cs,h=>by simp[flatC]at h
 |.rptr _,cs,h=>by simp[flatC]at h
 |.mapr _,cs,h=>by simp[flatC]at h
 |.fn _ _ _,cs,h=>by simp[flatC]at h
 |.ifc _ _,cs,h=>by simp[flatC]at h
theorem Z1k{S:St}: ∀(l:List CV) (cs:List Value),flatCs l=some cs->FRs S l cs
 |[],cs,h=>by simp[flatCs]at h;simp[FRs,h]
 |v::l,cs,h=>by
  simp only[flatCs]at h
  cases h1:flatC v<;>cases h2:flatCs l<;>simp[h1,h2]at h
  rename_i a b
  simp only[FRs]
  exact⟨a,b,h.symm,V0k v a h1,Z1k l b h2⟩
end
def TD.ok(P:Program)(t:TypeId)(sh:Shape): TD->Prop
 |.base u=>P.underlying t=some u/\u.isRow=false/\sh=.s
 |.st fs=>∃f shs,P.underlying t=some (.struct f)/\f.toList.map (fun x=>(x.offset,((P.info? x.type).map (·.size)).getD 0,x.type))=fs /\
  sh=.n shs/\shs.length=fs.length/\(∀i x,fs[i]?=some x->x.1=Shape.sizes (shs.take i)/\x.2.1≠0/\(shs[i]?).map Shape.size=some x.2.1) /\
  (f.all (fun x=>x.name != "_"))=true/\P.stoodInHeld t=false/\P.eqGuardType P.depth t=false
 |.ar n esz e=>∃she,P.underlying t=some (.array n e)/\(P.info? e).map (·.size)=some esz/\sh=.n (List.replicate n she)/\she.size=esz/\esz≠0/\P.eqGuardType P.depth t=false
def aggB: Value->Bool
 |.agg _=>true
 |_=>false
structure TI.ok(P:Program)(t:TypeId)(ti:TI): Prop where
 info:∃i z,P.info? t=some i/\i.size=ti.sh.size/\i.bytes=ti.bytes/\i.zero=some z/\flatC ti.zero=some z.cells.toList
 zsh:ti.zero.shape=ti.sh
 good:ti.sh.good=true
 zagg:((P.info? t).bind (·.zero)).map aggB=some ti.zero.isAgg
 d:ti.d.ok P t ti.sh
structure Ctx where
 P:Program
 mixed:P.follows .mixedOrders=true
 tt:TypeId->Option TI
 htt:∀t ti,tt t=some ti->ti.ok P t
abbrev Env:=Nat->CV
def ER(S:St)(env:Env)(tmps:Array Value): Prop:=∀t x,tmps[t]?=some x->VR S (env t) x
def ofConst: Value->CV
 |.slice none 0 0=>.lst .nil []
 |v=>.sc v
def okConst: Value->Bool
 |.slice none 0 0=>true
 |v=>plain v
def ev(env:Env): Operand->CV
 |.tmp t=>env t
 |.const v=>ofConst v
 |.global _=>.tup []
 |.func f=>.fn f [] []
def okOpd(n:Nat): Operand->Bool
 |.tmp t=>Nat.blt t n
 |.const v=>okConst v
 |.global _=>false
 |.func _=>true
theorem Y1a{x:Value}(h:plain x=true): x.cells.toList=[x]/\∀c,x≠.agg c:=by
 cases x<;>first|exact⟨rfl,fun _ e=>by cases e⟩|(simp[plain]at h)
theorem VR_sc{S:St}{v x:Value}: VR S (.sc v) x ↔ x=v/\plain v=true:=by
 simp only[VR,FR,CV.isAgg]
 constructor
 ·rintro⟨⟨h1,h2⟩,h3⟩
  refine⟨?_,h2⟩
  cases x<;>simp[Value.cells]at h1 h3<;>first|exact h1|skip
 ·rintro⟨rfl,h2⟩
  exact⟨⟨(Y1a h2).1,h2⟩,by simpa using(Y1a h2).2⟩
theorem V0d{S:St}{v:CV}{x:Value}(h:v.isAgg=false): VR S v x ↔ FR S v [x]/\∀c,x≠.agg c:=by
 simp only[VR,h]
 constructor
 ·rintro⟨h1,h2⟩
  have:∀c,x≠.agg c:=fun c e=>by simp at h2;exact h2 c e
  refine⟨?_,this⟩
  cases x<;>simp[Value.cells]at h1<;>first|exact h1|skip
  exact absurd rfl (this _)
 ·rintro⟨h1,h2⟩
  refine⟨?_,by simpa using h2⟩
  cases x<;>simp[Value.cells]<;>first|exact h1|skip
  exact absurd rfl (h2 _)
theorem K0v{S:St}{l:List CV}{x:Value}: VR S (.agg l) x ↔ ∃c,x=.agg c/\FRs S l c.toList:=by
 simp only[VR,CV.isAgg,FR]
 constructor
 ·rintro⟨h1,h2⟩
  obtain⟨c,rfl⟩:=h2.2 trivial
  exact⟨c,rfl,h1⟩
 ·rintro⟨c,rfl,h⟩
  exact⟨h,⟨fun _=>trivial,fun _=>⟨c,rfl⟩⟩⟩
theorem VR_ofConst{S:St}{v:Value}(h:okConst v=true): VR S (ofConst v) v:=by
 unfold ofConst
 split
 ·rw[V0d rfl];exact⟨by simp[FR,Tail.may],by simp⟩
 ·rename_i h1
  rw[VR_sc]
  refine⟨rfl,?_⟩
  unfold okConst at h
  split at h
  ·exact absurd rfl h1
  ·exact h
theorem VR_fn0{S:St}{f:FuncId}: VR S (.fn f [] []) (.func (.func f) #[] #[]):=by
 rw[V0d rfl];exact⟨⟨[],[],by simp,by simp[VRs],by simp[VRs]⟩,by simp⟩
theorem ER.eval{S:St}{env:Env}{a:Act}(h:ER S env a.tmps){x:Operand}(hx:okOpd a.tmps.size x=true): VR S (ev env x) (a.eval x):=by
 cases x with
 |tmp t=>
  have ht:t<a.tmps.size:=by simpa[okOpd]using hx
  have:a.tmps.getD t undef=a.tmps[t]:=by simp[ht]
  show VR S (env t) (a.tmps.getD t undef)
  rw[this]
  exact h t _ (by simp[ht])
 |const v=>exact VR_ofConst hx
 |global g=>simp[okOpd]at hx
 |func f=>exact VR_fn0
theorem ER.mono{S S':St}(h:S.le S'){env:Env}{tmps:Array Value}(k:ER S env tmps): ER S' env tmps:=fun t x ht=>VR.mono h (k t x ht)
def put(env:Env)(d:Option Tmp)(v:CV): Env:=
 match d with
 |some t=>fun k=>if k=t then v else env k
 |none=>env
theorem ER.put{S:St}{env:Env}{a:Act}(h:ER S env a.tmps){d:Option Tmp}{v:CV}{x:Value}(hv:VR S v x): ER S (Cl.put env d v) (a.put d x).tmps:=by
 cases d with
 |none=>exact h
 |some t=>
  intro k y hk
  simp only[Act.put]at hk
  simp only[Cl.put]
  by_cases e:k=t
  ·subst e
   rw[Array.getElem?_setIfInBounds]at hk
   simp at hk
   obtain⟨_,rfl⟩:=hk
   simpa using hv
  ·rw[if_neg e]
   rw[Array.getElem?_setIfInBounds_ne (fun h=>e h.symm)]at hk
   exact h k y hk
def tgt(h:Heap): CV->Option CV
 |.ptr i p=>match h i with
  |some (.var v)=>v.at p
  |_=>none
 |.rptr v=>some v
 |_=>none
theorem Shape.off_append: ∀(p:List Nat) (sh s':Shape) (q:List Nat),sh.sub p=some s'->sh.off (p++q)=(sh.off p).bind fun a=>(s'.off q).map (a + ·)
 |[],sh,s',q,h=>by
  simp[Shape.sub]at h;subst h
  cases sh<;>cases q<;>simp[Shape.off]
 |i::p,.n l,s',q,h=>by
  simp only[Shape.sub]at h
  simp only[List.cons_append,Shape.off]
  cases hl:l[i]? with
  |none=>simp[hl]at h
  |some x=>
   simp[hl]at h
   show Option.map _ (x.off (p++q))=(Option.map _ (x.off p)).bind _
   rw[Shape.off_append p x s' q h]
   cases x.off p<;>simp
   cases s'.off q<;>simp[Nat.add_assoc]
 |i::p,.s,s',q,h=>by simp[Shape.sub]at h
 |i::p,.t,s',q,h=>by simp[Shape.sub]at h
theorem CV.sub_at: ∀(p:List Nat) (v x:CV),v.at p=some x->v.shape.sub p=some x.shape
 |[],v,x,h=>by simp[CV.at]at h;subst h;cases v.shape<;>simp[Shape.sub]
 |i::p,v,x,h=>by
  cases v<;>simp only[CV.at]at h<;>try(cases h;done)
  rename_i l
  cases hl:l[i]? with
  |none=>simp[hl]at h
  |some y=>
   simp[hl]at h
   simp only[CV.shape,Shape.sub,CV.shapes_eq]
   simp[hl,CV.sub_at p y x h]
theorem Q1v{w0:World}{B:Nat}{S:St}{h:Heap}{w:World}(r:R w0 B S h w){a:CV}{x:Value}{v:CV}(ha:VR S a x)(hv:tgt h a=some v):
  ∃b o c,x=.pointer (some ⟨b,o,none⟩)/\FR S v c/\w.rangeAt b o c:=by
 cases a<;>simp only[tgt]at hv<;>try(cases hv;done)
 ·rename_i i p
  rw[V0d rfl]at ha
  simp only[FR]at ha
  obtain⟨⟨rb,sh,o,hx,⟨tot,hμ⟩,ho⟩,_⟩:=ha
  cases hx
  cases hi:h i with
  |none=>simp[hi]at hv
  |some obj=>
   cases obj<;>simp[hi]at hv
   obtain⟨c,h1,h2⟩:=r.load hi hμ hv ho
   exact⟨rb,o,c,rfl,h1,h2⟩
 ·rename_i y
  rw[V0d rfl]at ha
  simp only[FR]at ha
  obtain⟨⟨b,o,es,hx,h1,h2⟩,_⟩:=ha
  cases hx
  cases hv
  exact⟨b,o,es,rfl,h1,r.lies h2⟩
section ops
variable (C:Ctx)
def qload(h:Heap)(t:TypeId)(a:CV): Option CV:=
 match tgt h a,C.tt t with
 |some v,some ti=>if v.shape=ti.sh then some v else none
 |_,_=>none
theorem Y0t(v:CV): v.isAgg=true ↔ ∃l,v.shape=.n l:=by cases v<;>simp[CV.isAgg,CV.shape]
theorem Q07{sh:Shape}(h:sh.good=true)(hn:¬ ∃l,sh=.n l): sh=.s:=by
 cases sh with
 |s=>rfl
 |t=>simp[Shape.good]at h
 |n l=>exact absurd ⟨l,rfl⟩ hn
theorem TI.row{P:Program}{t:TypeId}{ti:TI}(h:ti.ok P t): ∃d,P.underlying t=some d/\(d.isRow=true ↔ ∃l,ti.sh=.n l):=by
 have hd:=h.d
 cases hk:ti.d with
 |base u=>rw[hk]at hd;exact⟨u,hd.1,by rw[hd.2.1,hd.2.2];simp⟩
 |st fs=>rw[hk]at hd;obtain⟨f,shs,h1,_,h2,_⟩:=hd;exact⟨_,h1,by rw[h2];simp[TypeDesc.isRow]⟩
 |ar n esz e=>rw[hk]at hd;obtain⟨she,h1,_,h2,_⟩:=hd;exact⟨_,h1,by rw[h2];simp[TypeDesc.isRow]⟩
theorem Y0v{P:Program}{t:TypeId}{d:TypeDesc}(h:P.underlying t=some d)(w:World): (isAgg t).run P w=.ok d.isRow w:=by
 unfold isAgg
 rw[Sem.run_bind,run_underlying h w]
 cases d<;>rfl
theorem Q1j{S:St}{w:World}{t:TypeId}{ti:TI}(h:ti.ok C.P t){v:CV}{b o:Nat}{c:List Value}(hc:FR S v c)(hr:w.rangeAt b o c)(hs:v.shape=ti.sh):
  ∃x,(loadVar t ⟨b,o,none⟩).run C.P w=.ok x w/\VR S v x:=by
 obtain⟨d,hu,hrow⟩:=TI.row h
 obtain⟨i,z,hi,hsz,_⟩:=h.info
 have hl:=FR.length _ _ hc
 simp only[CV.size,hs]at hl
 by_cases hd:d.isRow=true
 ·refine⟨.agg c.toArray,run_loadVar_mid w b o t c d hr hu hd (by simp[hi,hsz,hl]),?_⟩
  have:v.isAgg=true:=by rw[Y0t,hs];exact hrow.1 hd
  cases v<;>simp[CV.isAgg]at this
  rw[K0v];exact⟨_,rfl,by simpa[FR]using hc⟩
 ·have hd':d.isRow=false:=by simpa using hd
  have hsh:ti.sh=.s:=Q07 h.good (fun hl=>hd (hrow.2 hl))
  have hna:v.isAgg=false:=by
   cases hh:v.isAgg with
   |false=>rfl
   |true=>obtain⟨l,hl⟩:=(Y0t v).1 hh;rw[hs,hsh]at hl;cases hl
  rw[hsh]at hl
  obtain⟨x,rfl⟩:∃x,c=[x]:=by
   match c,hl with
   |[x],_=>exact⟨x,rfl⟩
   |[],h=>simp[Shape.size]at h
   |_::_::_,h=>simp[Shape.size]at h
  have h0:w.cell? ⟨b,o,none⟩=some x:=by simpa using hr 0 x rfl
  refine⟨x,by simp[loadVar,Y0v hu w,hd',h0],?_⟩
  rw[V0d hna]
  refine⟨hc,fun cc e=>?_⟩
  subst e
  cases v<;>simp[FR,CV.isAgg]at hc hna
  obtain⟨rfl,hp⟩:=hc
  simp[plain]at hp
theorem Z1g{w0:World}{B:Nat}{S:St}{h:Heap}{w:World}(r:R w0 B S h w){t:TypeId}{a v:CV}{x:Value}(ha:VR S a x)(hv:qload C h t a=some v):
  ∃y,(Instr.loadAt t x).run C.P w=.ok y w/\VR S v y:=by
 unfold qload at hv
 cases h1:tgt h a<;>cases h2:C.tt t<;>simp[h1,h2]at hv
 rename_i u ti
 obtain⟨hs,rfl⟩:=hv
 obtain⟨b,o,c,rfl,hc,hr⟩:=Q1v r ha h1
 obtain⟨y,hy,hvr⟩:=Q1j C (C.htt _ _ h2) hc hr hs
 exact⟨y,by simp[Instr.loadAt,Instr.sureAddr,hy],hvr⟩
def qfieldAddr(h:Heap)(s:TypeId)(a:CV)(f:Nat): Option CV:=
 match C.tt s,tgt h a with
 |some ⟨.st _,sh,_,_⟩,some (.agg l)=>
  if CV.shape (.agg l)=sh then
   match l[f]?,a with
   |some _,.ptr i p=>some (.ptr i (p++[f]))
   |some x,.rptr _=>some (.rptr x)
   |_,_=>none
  else none
 |_,_=>none
theorem V06{l:List CV}{i:Nat}{x:CV}(h:l[i]?=some x): (CV.shapes l)[i]?=some x.shape:=by rw[CV.shapes_eq];simp[h]
theorem V09{w0:World}{B:Nat}{S:St}{h:Heap}{w:World}(r:R w0 B S h w){s f:Nat}{a v:CV}{x:Value}(ha:VR S a x)(hv:qfieldAddr C h s a f=some v):
  ∃y,(Instr.fieldAt s x f).run C.P w=.ok y w/\VR S v y:=by
 unfold qfieldAddr at hv
 split at hv<;>try(cases hv;done)
 rename_i fs sh by_ ze l h1 h2
 split at hv<;>try(cases hv;done)
 rename_i hsh
 have hok:=C.htt _ _ h1
 obtain⟨flds,shs,hu,hfs,hsn,hlen,hoffs,_⟩:=hok.d
 simp only at hsn
 subst hsn
 simp only[CV.shape,Shape.n.injEq]at hsh
 obtain⟨b,o,c,rfl,hc,hr⟩:=Q1v r ha h2
 cases hl:l[f]? with
 |none=>simp[hl]at hv
 |some y=>
  have hshf:=V06 hl
  rw[hsh]at hshf
  have hf:f<fs.length:=by rw[<- hlen];exact(List.getElem?_eq_some_iff.1 hshf).1
  have hff:fs[f]?=some fs[f]:=by simp[hf]
  obtain⟨ho,hz,hsz⟩:=hoffs f _ hff
  have hfs':f<flds.size:=by rw[<- hfs]at hf;simpa using hf
  obtain⟨fld,hfld⟩:∃fld,flds[f]?=some fld:=⟨flds[f],by simp[hfs']⟩
  have hpair:fs[f]?=some (fld.offset,((C.P.info? fld.type).map (·.size)).getD 0,fld.type):=by
   rw[<- hfs,List.getElem?_map,Array.getElem?_toList,hfld];rfl
  rw[hff]at hpair
  have hpair:=Option.some.inj hpair
  rw[hpair]at ho hz hsz
  simp only at ho hz hsz
  have hsize:(sizeOf fld.type).run C.P w=.ok (((C.P.info? fld.type).map (·.size)).getD 0) w:=by
   cases hq:C.P.info? fld.type with
   |none=>simp[hq]at hz
   |some i=>simp[sizeOf,typeInfo,hq]
  have hrun:(Instr.fieldAt s (.pointer (some ⟨b,o,none⟩)) f).run C.P w=.ok (.pointer (some ⟨b,o+fld.offset,none⟩)) w:=by
   simp[Instr.fieldAt,run_underlying hu,hfld,Instr.sureAddr,fieldPlace,hsize,hz,Addr.add_mid]
  refine⟨_,hrun,?_⟩
  rw[hl]at hv
  cases a<;>simp only at hv<;>try(cases hv;done)
  ·rename_i i p
   cases hv
   rw[V0d rfl]at ha ⊢
   simp only[FR]at ha ⊢
   obtain⟨⟨rb,sh0,o0,hx,⟨tot,hμ⟩,ho0⟩,_⟩:=ha
   cases hx
   refine⟨⟨b,sh0,o+fld.offset,rfl,⟨tot,hμ⟩,?_⟩,by simp⟩
   simp only[tgt]at h2
   cases hi:h i with
   |none=>simp[hi]at h2
   |some obj=>
    cases obj<;>simp[hi]at h2
    rename_i ov
    have hl0:=(r.live i _ _ hi hμ).1.1
    have hsub:=CV.sub_at p _ _ h2
    rw[hl0]at hsub
    rw[Shape.off_append p sh0 _ [f] hsub,ho0]
    simp only[CV.shape,Shape.off,Option.bind_some]
    rw[hsh,hshf]
    simp[<- ho]
  ·rename_i z
   simp only[tgt,Option.some.injEq]at h2
   subst h2
   cases hv
   rw[V0d rfl]at ha ⊢
   simp only[FR]at ha ⊢
   obtain⟨⟨b0,o0,es,hx,hes,hlies⟩,_⟩:=ha
   cases hx
   obtain⟨pre,cc,post,rfl,hpre,hy,_⟩:=FRs.focus l es f y hes hl
   rw[hsh]at hpre
   refine⟨⟨b,o+fld.offset,cc,rfl,hy,fun j u hu=>?_⟩,by simp⟩
   have:=hlies (pre.length+j) u (by
    rw[List.append_assoc,List.getElem?_append_right (by omega),List.getElem?_append_left (by have:=(List.getElem?_eq_some_iff.1 hu).1;omega)]
    simpa using hu)
   rw[hpre,<- ho]at this
   rw[<- this];congr 1;omega
end ops
end Go.Cl
end
section
namespace Go.Cl
open Go.RowKit
theorem V0e(n i:Nat)(sh:Shape)(h:i<=n): Shape.sizes ((List.replicate n sh).take i)=i*sh.size:=by
 rw[Shape.sizes_eq,List.take_replicate,Nat.min_eq_left h]
 simp
theorem X0m{sz:Nat}: ∀(l:List CV) (i:Nat),(∀x∈l,x.size=sz)->i<=l.length->Shape.sizes ((CV.shapes l).take i)=i*sz
 |_,0,_,_=>by simp[Shape.sizes]
 |[],i+1,_,h=>by simp at h
 |x::l,i+1,hx,h=>by
  have h1:=X0m l i (fun y hy=>hx y (by simp[hy])) (by simpa using h)
  have h2:=hx x (by simp)
  simp only[CV.size]at h2
  simp[CV.shapes,Shape.sizes,h1,h2,Nat.succ_mul,Nat.add_comm]
theorem Z03{S:St}{b o:Nat}{pre c post:List Value}(h:S.lies b o (pre++c++post)): S.lies b (o+pre.length) c:=fun j u hu=>by
 have:=h (pre.length+j) u (by
  rw[List.append_assoc,List.getElem?_append_right (by omega),List.getElem?_append_left (by have:=(List.getElem?_eq_some_iff.1 hu).1;omega)]
  simpa using hu)
 rw[<- this];congr 1;omega
section ops
variable (C:Ctx)
def qindexAddr(h:Heap)(t:TypeId)(x i:CV): Option CV:=
 match i,C.tt t with
 |.sc (.int _ n),some ⟨.ar cnt _ _,sh,_,_⟩=>
  match tgt h x with
  |some (.agg l)=>
   if CV.shape (.agg l)=sh/\0<=n/\n<cnt then
    match x with
    |.ptr j p=>some (.ptr j (p++[n.toNat]))
    |.rptr _=>(l[n.toNat]?).map .rptr
    |_=>none
   else none
  |_=>none
 |.sc (.int _ n),some ⟨.base (.slice e),_,_,_⟩=>
  match C.tt e with
  |some te=>
   match x with
   |.lst _ l=>
    if 0<=n/\n<l.length then
     match l[n.toNat]? with
     |some v=>if v.shape=te.sh then some (.rptr v)else none
     |none=>none
    else none
   |.slc j p off len=>
    match tgt h (.ptr j p) with
    |some (.agg l)=>if CV.shape (.agg l)=.n (List.replicate l.length te.sh)/\0<=n/\n<len then some (.ptr j (p++[off+n.toNat]))else none
    |_=>none
   |_=>none
  |none=>none
 |_,_=>none
theorem Q09{w0:World}{B:Nat}{S:St}{h:Heap}{w:World}(r:R w0 B S h w){t:TypeId}{a i v:CV}{x y:Value}(ha:VR S a x)(hi:VR S i y)(hv:qindexAddr C h t a i=some v):
  ∃z,(Instr.indexAt t x y).run C.P w=.ok z w/\VR S v z:=by
 unfold qindexAddr at hv
 split at hv<;>try(cases hv;done)
 ·rename_i k n cnt esz e sh by_ ze h1
  rw[VR_sc]at hi
  obtain⟨rfl,_⟩:=hi
  split at hv<;>try(cases hv;done)
  rename_i l h2
  split at hv<;>try(cases hv;done)
  rename_i hc
  obtain⟨hsh,h0,hn⟩:=hc
  obtain⟨she,hu,hesz,hshn,hsz,hz,_⟩:=(C.htt _ _ h1).d
  simp only at hshn
  rw[hshn]at hsh
  simp only[CV.shape,Shape.n.injEq]at hsh
  obtain⟨b,o,c,rfl,hcc,hr⟩:=Q1v r ha h2
  have hnn:n.toNat<cnt:=by omega
  have hsize:(sizeOf e).run C.P w=.ok esz w:=by
   cases hq:C.P.info? e with
   |none=>simp[hq]at hesz
   |some i=>simp[hq]at hesz;simp[sizeOf,typeInfo,hq,hesz]
  have hrun:(Instr.indexAt t (.pointer (some ⟨b,o,none⟩)) (.int k n)).run C.P w=.ok (.pointer (some ⟨b,o+n.toNat*esz,none⟩)) w:=by
   simp[Instr.indexAt,asIntOf,run_underlying hu,Instr.sureAddr,hsize,h0,hn,Addr.add_mid]
  refine⟨_,hrun,?_⟩
  have hlen:l.length=cnt:=by
   have:=congrArg List.length hsh
   simpa[CV.shapes_eq]using this
  cases a<;>simp only at hv<;>try(cases hv;done)
  ·rename_i j p
   cases hv
   rw[V0d rfl]at ha ⊢
   simp only[FR]at ha ⊢
   obtain⟨⟨rb,sh0,o0,hx,⟨tot,hμ⟩,ho0⟩,_⟩:=ha
   cases hx
   refine⟨⟨b,sh0,o+n.toNat*esz,rfl,⟨tot,hμ⟩,?_⟩,by simp⟩
   simp only[tgt]at h2
   cases hi:h j with
   |none=>simp[hi]at h2
   |some obj=>
    cases obj<;>simp[hi]at h2
    have hl0:=(r.live j _ _ hi hμ).1.1
    have hsub:=CV.sub_at p _ _ h2
    rw[hl0]at hsub
    rw[Shape.off_append p sh0 _ [n.toNat] hsub,ho0]
    simp only[CV.shape,Shape.off,Option.bind_some]
    rw[hsh,List.getElem?_replicate,if_pos hnn,V0e _ _ _ (by omega),hsz]
    cases she<;>simp
  ·rename_i z
   simp only[tgt,Option.some.injEq]at h2
   subst h2
   have hll:n.toNat<l.length:=by omega
   simp[hll]at hv
   subst hv
   rw[V0d rfl]at ha ⊢
   simp only[FR]at ha ⊢
   obtain⟨⟨b0,o0,es,hx,hes,hlies⟩,_⟩:=ha
   cases hx
   obtain⟨pre,cc,post,rfl,hpre,hy,_⟩:=FRs.focus l es n.toNat l[n.toNat] hes (by simp[hll])
   rw[hsh,V0e _ _ _ (by omega),hsz]at hpre
   exact⟨⟨b,o+n.toNat*esz,cc,rfl,hy,by rw[<- hpre];exact Z03 hlies⟩,by simp⟩
 ·rename_i k n e sh by_ ze h1
  rw[VR_sc]at hi
  obtain⟨rfl,_⟩:=hi
  split at hv<;>try(cases hv;done)
  rename_i te h3
  have hu:=(C.htt _ _ h1).d.1
  obtain⟨ie,zz,hie,hse,_⟩:=(C.htt _ _ h3).info
  have hsize:(sizeOf e).run C.P w=.ok te.sh.size w:=by simp[sizeOf,typeInfo,hie,hse]
  split at hv<;>try(cases hv;done)
  ·rename_i tl l
   split at hv<;>try(cases hv;done)
   rename_i hb
   split at hv<;>try(cases hv;done)
   rename_i u hu2
   split at hv<;>try(cases hv;done)
   rename_i hsu
   cases hv
   rw[V0d rfl]at ha
   simp only[FR]at ha
   obtain⟨ha,_⟩:=ha
   rcases ha with⟨rfl,_⟩|⟨b,off,cap,sz,es,hx,hcap,hes,hlies,hun,_⟩
   ·simp at hu2
   cases hx
   have hmem:u∈l:=List.mem_of_getElem? hu2
   have hszu:=hun u hmem
   simp only[CV.size,hsu]at hszu
   obtain⟨pre,cc,post,rfl,hpre,hy,_⟩:=FRs.focus l es n.toNat u hes hu2
   rw[X0m l n.toNat hun (by omega)]at hpre
   refine⟨.pointer (some ⟨b,off+n.toNat*te.sh.size,none⟩),?_,?_⟩
   ·simp[Instr.indexAt,asIntOf,run_underlying hu,hsize,hb.1,hb.2,Addr.add_mid]
   ·rw[V0d rfl]
    simp only[FR]
    exact⟨⟨b,off+n.toNat*te.sh.size,cc,rfl,hy,by rw[hszu,<- hpre];exact Z03 hlies⟩,by simp⟩
  ·rename_i j p off len
   split at hv<;>try(cases hv;done)
   rename_i l h2
   split at hv<;>try(cases hv;done)
   rename_i hc
   obtain⟨hsh,h0,hn⟩:=hc
   cases hv
   rw[V0d rfl]at ha
   simp only[FR]at ha
   obtain⟨⟨rb,sh0,l0,o,cap,hx,⟨tot,hμ,_⟩,hsub0,ho,hcap,hol⟩,_⟩:=ha
   cases hx
   simp only[CV.shape,Shape.n.injEq]at hsh
   simp only[tgt]at h2
   cases hi:h j with
   |none=>simp[hi]at h2
   |some obj=>
    cases obj<;>simp[hi]at h2
    have hl0:=(r.live j _ _ hi hμ).1.1
    have hsub:=CV.sub_at p _ _ h2
    rw[hl0,hsub0]at hsub
    simp only[CV.shape,hsh,Option.some.injEq,Shape.n.injEq]at hsub
    subst hsub
    simp only[List.length_replicate]at hol
    have hnn:n.toNat<len:=by omega
    refine⟨.pointer (some ⟨rb,o+Shape.sizes ((List.replicate l.length te.sh).take off)+n.toNat*te.sh.size,none⟩),?_,?_⟩
    ·simp[Instr.indexAt,asIntOf,run_underlying hu,hsize,h0,hn,Addr.add_mid]
    ·rw[V0d rfl]
     simp only[FR]
     refine⟨⟨rb,sh0,_,rfl,⟨tot,hμ⟩,?_⟩,by simp⟩
     rw[Shape.off_append p sh0 _ _ hsub0,ho]
     simp only[Shape.off,Option.bind_some]
     rw[List.getElem?_replicate,if_pos (by omega),V0e _ _ _ (by omega),V0e _ _ _ (by omega)]
     simp[Nat.add_mul,Nat.add_assoc]
def qnum(op:BinOp)(k:IntKind)(a b:Int): Option CV:=
 match op with
 |.add=>some (.sc (.int k (k.wrap (a+b))))
 |.sub=>some (.sc (.int k (k.wrap (a-b))))
 |.mul=>some (.sc (.int k (k.wrap (a*b))))
 |.quo=>if b=0 then none else some (.sc (.int k (k.wrap (a.tdiv b))))
 |.rem=>if b=0 then none else some (.sc (.int k (a.tmod b)))
 |.and=>some (.sc (.int k (k.wrap (BitVec.ofInt k.bits a &&&BitVec.ofInt k.bits b).toNat)))
 |.or=>some (.sc (.int k (k.wrap (BitVec.ofInt k.bits a ||| BitVec.ofInt k.bits b).toNat)))
 |.xor=>some (.sc (.int k (k.wrap (BitVec.ofInt k.bits a ^^^ BitVec.ofInt k.bits b).toNat)))
 |.andNot=>some (.sc (.int k (k.wrap (BitVec.ofInt k.bits a &&&~~~BitVec.ofInt k.bits b).toNat)))
 |.eql=>some (.sc (.bool (decide (a=b))))
 |.neq=>some (.sc (.bool (!decide (a=b))))
 |.lss=>some (.sc (.bool (decide (a<b))))
 |.leq=>some (.sc (.bool (decide (a<=b))))
 |.gtr=>some (.sc (.bool (decide (b<a))))
 |.geq=>some (.sc (.bool (decide (b<=a))))
 |_=>none
def qshift(op:BinOp)(k:IntKind)(a b:Int): Option CV:=
 if b<0 then none else
 match op with
 |.shl=>some (.sc (.int k (k.wrap (a*2^min b.toNat k.bits))))
 |.shr=>some (.sc (.int k (a.fdiv (2^min b.toNat k.bits))))
 |_=>none
theorem qnum_sound{S:St}{op:BinOp}{k:IntKind}{a b:Int}{v:CV}(t:TypeId)(w:World)(hop:op≠.shl/\op≠.shr)(h:qnum op k a b=some v):
  ∃y,(binOp op t (.int k a) (.int k b)).run C.P w=.ok y w/\VR S v y:=by
 cases op<;>simp only[qnum]at h<;>(try(cases h;done))<;>(try(exact absurd rfl hop.1))<;>(try(exact absurd rfl hop.2))<;>
  simp only[binOp,ne_eq,not_true,if_false]
 case quo=>split at h;cases h;rename_i h0;cases h;exact⟨_,by simp only[Op.intDiv,if_neg h0];rfl,VR_sc.2 ⟨rfl,rfl⟩⟩
 case rem=>split at h;cases h;rename_i h0;cases h;exact⟨_,by simp only[Op.intDiv,if_neg h0];rfl,VR_sc.2 ⟨rfl,rfl⟩⟩
 case eql=>cases h;exact⟨_,rfl,VR_sc.2 ⟨rfl,rfl⟩⟩
 case neq=>cases h;exact⟨_,rfl,VR_sc.2 ⟨rfl,rfl⟩⟩
 all_goals(cases h;exact⟨_,rfl,VR_sc.2 ⟨rfl,rfl⟩⟩)
theorem K08{S:St}{op:BinOp}{k k':IntKind}{a b:Int}{v:CV}(t:TypeId)(w:World)(hop:op=.shl\/op=.shr)(h:qshift op k a b=some v):
  ∃y,(binOp op t (.int k a) (.int k' b)).run C.P w=.ok y w/\VR S v y:=by
 unfold qshift at h
 split at h
 ·cases h
 rename_i hb
 rcases hop with rfl|rfl<;>simp at h<;>subst h<;>exact⟨_,by simp[binOp,Op.shift,hb],VR_sc.2 ⟨rfl,rfl⟩⟩
end ops
end Go.Cl
end
section
namespace Go.Cl
open Go.RowKit
theorem sub_of_focus{pre c post:List Value}{arr:Array Value}(h:arr.toList=pre++c++post): (arr.extract pre.length (pre.length+c.length)).toList=c:=by
 rw[Array.toList_extract,h]
 simp[List.extract]
section ops
variable (C:Ctx)
theorem Z04{S:St}{w:World}{t:TypeId}{ti:TI}(h:ti.ok C.P t){l:List CV}{arr:Array Value}{i:Nat}{v:CV}(hl:FRs S l arr.toList)(hi:l[i]?=some v)(hs:v.shape=ti.sh){off:Nat}
  (ho:off=Shape.sizes ((CV.shapes l).take i)):∃y,(part t arr off).run C.P w=.ok y w/\VR S v y:=by
 obtain⟨pre,c,post,harr,hpre,hc,_⟩:=FRs.focus l arr.toList i v hl hi
 obtain⟨d,hu,hrow⟩:=TI.row h
 obtain⟨ii,z,hii,hsz,_⟩:=h.info
 have hlen:=FR.length _ _ hc
 simp only[CV.size,hs]at hlen
 rw[<- hpre]at ho
 by_cases hd:d.isRow=true
 ·refine⟨.agg (arr.extract off (off+ii.size)),by simp[part,Y0v hu w,hd,sizeOf,typeInfo,hii],?_⟩
  have:v.isAgg=true:=by rw[Y0t,hs];exact hrow.1 hd
  cases v<;>simp[CV.isAgg]at this
  rw[K0v]
  refine⟨_,rfl,?_⟩
  rw[ho,hsz,<- hlen,sub_of_focus harr]
  simpa[FR]using hc
 ·have hd':d.isRow=false:=by simpa using hd
  have hsh:ti.sh=.s:=Q07 h.good (fun hl=>hd (hrow.2 hl))
  have hna:v.isAgg=false:=by
   cases hh:v.isAgg with
   |false=>rfl
   |true=>obtain⟨l,hl⟩:=(Y0t v).1 hh;rw[hs,hsh]at hl;cases hl
  rw[hsh]at hlen
  obtain⟨x,rfl⟩:∃x,c=[x]:=by
   match c,hlen with
   |[x],_=>exact⟨x,rfl⟩
   |[],h=>simp[Shape.size]at h
   |_::_::_,h=>simp[Shape.size]at h
  have hx:arr[off]?=some x:=by
   rw[<- Array.getElem?_toList,harr,ho];simp
  refine⟨x,by simp[part,Y0v hu w,hd',hx],?_⟩
  rw[V0d hna]
  refine⟨hc,fun cc e=>?_⟩
  subst e
  cases v<;>simp[FR,CV.isAgg]at hc hna
  obtain⟨rfl,hp⟩:=hc
  simp[plain]at hp
theorem st_field{t:TypeId}{ti:TI}(h:ti.ok C.P t){fs:List (Nat×Nat×TypeId)}(hd:ti.d=.st fs){i:Nat}{x:Nat×Nat×TypeId}(hx:fs[i]?=some x):
  ∃f fld shs,C.P.underlying t=some (.struct f)/\f[i]?=some fld/\fld.offset=x.1/\fld.type=x.2.2/\(C.P.info? fld.type).map (·.size)=some x.2.1/\ti.sh=.n shs/\x.1=Shape.sizes (shs.take i)/\(shs[i]?).map Shape.size=some x.2.1:=by
 have hok:=h.d
 rw[hd]at hok
 obtain⟨f,shs,hu,hfs,hsn,hlen,hoffs,_⟩:=hok
 obtain⟨ho,hz,hsz⟩:=hoffs i x hx
 have:fs[i]?=(f[i]?).map (fun x=>(x.offset,((C.P.info? x.type).map (·.size)).getD 0,x.type)):=by
  rw[<- hfs,List.getElem?_map,Array.getElem?_toList]
 rw[hx]at this
 cases hf:f[i]? with
 |none=>simp[hf]at this
 |some fld=>
  simp[hf]at this
  subst this
  refine⟨f,fld,shs,hu,hf,rfl,rfl,?_,hsn,ho,hsz⟩
  cases hq:C.P.info? fld.type with
  |none=>simp[hq]at hz
  |some i=>simp
def eqSc(u:TypeDesc)(a b:Value): Option Bool:=
 match u,a,b with
 |.bool,.bool a,.bool b=>some (decide (a=b))
 |.int _,.int k a,.int k' b=>if k=k' then some (decide (a=b))else none
 |.string,.string a,.string b=>some (a==b)
 |.float _,.float k a,.float k' b=>if k=k' then some (Op.floatEq k a b)else none
 |_,_,_=>none
def eqList(f:TypeId->CV->CV->Option Bool): List TypeId->List CV->List CV->Option Bool
 |[],[],[]=>some true
 |t::ts,x::l,y::m=>
  match f t x y,eqList f ts l m with
  |some a,some b=>some (a&&b)
  |_,_=>none
 |_,_,_=>none
def eqCV: Nat->TypeId->CV->CV->Option Bool
 |0,_,_,_=>none
 |d+1,t,x,y=>
  match C.tt t,x,y with
  |some ⟨.base u,_,_,_⟩,.sc a,.sc b=>eqSc u a b
  |some ⟨.st fs,sh,_,_⟩,.agg l,.agg m=>if CV.shape (.agg l)=sh/\CV.shape (.agg m)=sh then eqList (eqCV d) (fs.map (·.2.2)) l m else none
  |some ⟨.ar n _ e,sh,_,_⟩,.agg l,.agg m=>if CV.shape (.agg l)=sh/\CV.shape (.agg m)=sh then eqList (eqCV d) (List.replicate n e) l m else none
  |_,_,_=>none
theorem eqSc_sound{u:TypeDesc}{a b:Value}{r:Bool}{t:TypeId}(hu:C.P.underlying t=some u)(h:eqSc u a b=some r)(D:Nat)(w:World): (Op.equalIn (D+1) t a b).run C.P w=.ok r w:=by
 unfold eqSc at h
 split at h
 ·cases h;simp[Op.equalIn,run_underlying hu];rfl
 ·split at h
  ·cases h;rename_i e;simp[Op.equalIn,run_underlying hu,e];rfl
  ·cases h
 ·cases h;simp[Op.equalIn,run_underlying hu]
 ·split at h
  ·cases h;rename_i e;simp[Op.equalIn,run_underlying hu,e]
  ·cases h
 ·cases h
theorem Y05: ∀(d:Nat) (t:TypeId) (x y:CV) (r:Bool),eqCV C d t x y=some r->∃ti,C.tt t=some ti/\x.shape=ti.sh/\y.shape=ti.sh
 |0,_,_,_,_,h=>by simp[eqCV]at h
 |d+1,t,x,y,r,h=>by
  unfold eqCV at h
  split at h
  ·rename_i u sh by_ ze a b h1
   have:=(C.htt _ _ h1).d.2.2
   simp only at this
   exact⟨_,h1,by rw[this];rfl,by rw[this];rfl⟩
  ·rename_i h1
   split at h
   ·rename_i hs;exact⟨_,h1,hs⟩
   ·cases h
  ·rename_i h1
   split at h
   ·rename_i hs;exact⟨_,h1,hs⟩
   ·cases h
  ·cases h
def EqOk(D d:Nat): Prop:=∀(S:St) (t:TypeId) (x y:CV) (a b:Value) (r:Bool) (w:World),eqCV C d t x y=some r->VR S x a->VR S y b->(Op.equalIn D t a b).run C.P w=.ok r w
theorem V0z{D d:Nat}(IH:EqOk C D d){S:St}{xs ys:Array Value}{shs:List Shape}{L M:List CV}(hx:FRs S L xs.toList)(hy:FRs S M ys.toList)(hL:CV.shapes L=shs)(hM:CV.shapes M=shs)(w:World):
  ∀(fl:List Field) (k:Nat) (l m:List CV) (r:Bool),L.drop k=l->M.drop k=m->(∀(i:Nat) f,fl[i]?=some f->f.name ≠ "_"/\f.offset=Shape.sizes (shs.take (k+i)))->eqList (eqCV C d) (fl.map (·.type)) l m=some r->
   (Op.eqFields D xs ys fl).run C.P w=.ok r w
 |[],k,l,m,r,hl,hm,hf,h=>by
  cases l<;>cases m<;>simp[eqList]at h
  simp[Op.eqFields,h]
 |f::fl,k,l,m,r,hl,hm,hf,h=>by
  cases l<;>cases m<;>simp only[List.map_cons,eqList]at h<;>try(cases h;done)
  rename_i x l y m
  split at h<;>try(cases h;done)
  rename_i r1 r2 h1 h2
  cases h
  obtain⟨hn,ho⟩:=hf 0 f rfl
  obtain⟨ti,hti,hsx,hsy⟩:=Y05 C d _ _ _ _ h1
  have hLx:L[k]?=some x:=by
   have:=congrArg (·[0]?) hl
   simpa using this
  have hMy:M[k]?=some y:=by
   have:=congrArg (·[0]?) hm
   simpa using this
  obtain⟨a,ha,hva⟩:=Z04 C (w:=w) (C.htt _ _ hti) hx hLx hsx (off:=f.offset) (by rw[hL];simpa using ho)
  obtain⟨b,hb,hvb⟩:=Z04 C (w:=w) (C.htt _ _ hti) hy hMy hsy (off:=f.offset) (by rw[hM];simpa using ho)
  have he:=IH S _ x y a b r1 w h1 hva hvb
  have ih:=V0z IH hx hy hL hM w fl (k+1) l m r2 (by rw[<- List.tail_drop,hl];rfl) (by rw[<- List.tail_drop,hm];rfl) (fun i g hg=>by
   have:=hf (i+1) g (by simpa using hg)
   rwa [Nat.add_assoc,Nat.add_comm 1 i]) h2
  simp only[Op.eqFields,hn,ne_eq,not_false_eq_true,if_true,Sem.run_bind,ha,hb,he,Result.andThen_ok]
  cases r1
  ·simp
  ·simpa using ih
theorem Q03{D d:Nat}(IH:EqOk C D d){S:St}{xs ys:Array Value}{e:TypeId}{she:Shape}{n:Nat}{L M:List CV}(hx:FRs S L xs.toList)(hy:FRs S M ys.toList)(hL:CV.shapes L=List.replicate n she)(hM:CV.shapes M=List.replicate n she)
  (hsz:C.P.cellsOf e=she.size) (w:World):
  ∀(is:List Nat) (k:Nat) (l m:List CV) (r:Bool),L.drop k=l->M.drop k=m->k+is.length<=n->(∀(i:Nat) j,is[i]?=some j->j=k+i)->eqList (eqCV C d) (List.replicate is.length e) l m=some r->
   (Op.eqItems D e (C.P.cellsOf e) xs ys is).run C.P w=.ok r w
 |[],k,l,m,r,hl,hm,hk,hf,h=>by
  cases l<;>cases m<;>simp[eqList]at h
  simp[Op.eqItems,h]
 |j::is,k,l,m,r,hl,hm,hk,hf,h=>by
  cases l<;>cases m<;>simp only[List.length_cons,List.replicate_succ,eqList]at h<;>try(cases h;done)
  rename_i x l y m
  split at h<;>try(cases h;done)
  rename_i r1 r2 h1 h2
  cases h
  have hj:=hf 0 j rfl
  simp only[Nat.add_zero]at hj
  subst hj
  simp only[List.length_cons]at hk
  obtain⟨ti,hti,hsx,hsy⟩:=Y05 C d _ _ _ _ h1
  have hLx:L[j]?=some x:=by
   have:=congrArg (·[0]?) hl
   simpa using this
  have hMy:M[j]?=some y:=by
   have:=congrArg (·[0]?) hm
   simpa using this
  have hoff:j*C.P.cellsOf e=Shape.sizes ((List.replicate n she).take j):=by rw[hsz,V0e _ _ _ (by omega)]
  obtain⟨a,ha,hva⟩:=Z04 C (w:=w) (C.htt _ _ hti) hx hLx hsx (off:=j*C.P.cellsOf e) (by rw[hL];exact hoff)
  obtain⟨b,hb,hvb⟩:=Z04 C (w:=w) (C.htt _ _ hti) hy hMy hsy (off:=j*C.P.cellsOf e) (by rw[hM];exact hoff)
  have he:=IH S _ x y a b r1 w h1 hva hvb
  have ih:=Q03 IH hx hy hL hM hsz w is (j+1) l m r2 (by rw[<- List.tail_drop,hl];rfl) (by rw[<- List.tail_drop,hm];rfl) (by omega) (fun i g hg=>by
   have:=hf (i+1) g (by simpa using hg)
   rwa [Nat.add_assoc,Nat.add_comm 1 i]) h2
  simp only[Op.eqItems,Sem.run_bind,ha,hb,he,Result.andThen_ok]
  cases r1
  ·simp
  ·simpa using ih
theorem Z1n: ∀(d D:Nat),d<=D->EqOk C D d
 |0,_,_=>fun S t x y a b r w h=>by simp[eqCV]at h
 |d+1,0,h=>absurd h (by omega)
 |d+1,D+1,hD=>fun S t x y a b r w h hx hy=>by
  have IH:=Z1n d D (by omega)
  unfold eqCV at h
  split at h
  ·rename_i u sh by_ ze a' b' h1
   obtain⟨rfl,_⟩:=VR_sc.1 hx
   obtain⟨rfl,_⟩:=VR_sc.1 hy
   exact eqSc_sound C (C.htt _ _ h1).d.1 h D w
  ·rename_i fs sh by_ ze l m h1
   split at h<;>try(cases h;done)
   rename_i hs
   obtain⟨f,shs,hu,hfs,hsn,hlen,hoffs,hnm,hst,_⟩:=(C.htt _ _ h1).d
   simp only at hsn
   rw[hsn]at hs
   simp only[CV.shape,Shape.n.injEq]at hs
   obtain⟨xs,rfl,hxs⟩:=K0v.1 hx
   obtain⟨ys,rfl,hys⟩:=K0v.1 hy
   have hfo:C.P.fieldsOf t=f:=by simp[Program.fieldsOf,hu]
   rw[run_equalIn_struct w D t xs ys (by rw[hfo];exact hu) hst,hfo]
   refine V0z C IH hxs hys hs.1 hs.2 w f.toList 0 l m r (by simp) (by simp) ?_ ?_
   ·intro i g hg
    refine⟨by have:=(Array.all_eq_true_iff_forall_mem.1 hnm) g (by rw[Array.getElem?_toList]at hg;exact Array.mem_of_getElem? hg);simpa using this,?_⟩
    have:fs[i]?=some (g.offset,((C.P.info? g.type).map (·.size)).getD 0,g.type):=by rw[<- hfs,List.getElem?_map,hg];rfl
    simpa using(hoffs i _ this).1
   ·rw[<- hfs,List.map_map]at h
    exact h
  ·rename_i n esz e sh by_ ze l m h1
   split at h<;>try(cases h;done)
   rename_i hs
   obtain⟨she,hu,hesz,hsn,hsz,_⟩:=(C.htt _ _ h1).d
   simp only at hsn
   rw[hsn]at hs
   simp only[CV.shape,Shape.n.injEq]at hs
   obtain⟨xs,rfl,hxs⟩:=K0v.1 hx
   obtain⟨ys,rfl,hys⟩:=K0v.1 hy
   obtain⟨i,hi,hisz⟩:∃i,C.P.info? e=some i/\i.size=esz:=by
    cases hq:C.P.info? e with
    |none=>simp[hq]at hesz
    |some i=>simp[hq]at hesz;exact⟨i,rfl,hesz⟩
   rw[run_equalIn_array w D xs ys hu hi]
   refine Q03 C IH hxs hys hs.1 hs.2 (by simp[Program.cellsOf,hi,hisz,hsz]) w (List.range n) 0 l m r (by simp) (by simp) (by simp) ?_ ?_
   ·intro i j hj
    obtain⟨h1,h2⟩:=List.getElem?_eq_some_iff.1 hj
    simp at h2
    omega
   ·simpa using h
  ·cases h
end ops
end Go.Cl
end
section
namespace Go.Cl
open Go.RowKit
def St.know(S:St)(b:Nat)(arr:Array Value): St:={S with K:=fun b' o=>if b'=b then arr[o]? else S.K b' o}
theorem R.know{w0:World}{B:Nat}{S:St}{h:Heap}{w:World}(r:R w0 B S h w)(arr:Array Value)(e:TypeId):
  S.le (S.know w.heap.size arr)/\R w0 B (S.know w.heap.size arr) h (w.alloc (.cells arr e))/\(S.know w.heap.size arr).lies w.heap.size 0 arr.toList:=by
 have hle:S.le (S.know w.heap.size arr):=⟨fun b o v hk=>by
  have:=Z0h (r.kcell b o v hk)
  show(if b=w.heap.size then arr[o]? else S.K b o)=some v
  rw[if_neg (by omega)];exact hk,fun _ _ h=>h,Nat.le_refl _⟩
 refine⟨hle,⟨r.below.alloc r.size _,?_,?_,r.fresh,?_,r.inj⟩,?_⟩
 ·have:=r.size;rw[show(w.alloc (.cells arr e)).heap=w.heap.push (.cells arr e) from rfl,Array.size_push];omega
 ·intro b o v hk
  have hk:(if b=w.heap.size then arr[o]? else S.K b o)=some v:=hk
  have hk':(if b=w.heap.size then arr[o]? else S.K b o)=some v:=hk
  clear hk
  by_cases hb:b=w.heap.size
  ·rw[if_pos hb]at hk'
   subst hb
   rw[V0l (arr:=arr) (e:=e) (fr:=(0,0)) (by rw[show(w.alloc (.cells arr e)).heap=w.heap.push (.cells arr e) from rfl];simp)]
   exact hk'
  ·rw[if_neg hb]at hk'
   have:=r.kcell b o v hk'
   rw[K0g (Below.heap_alloc w _ b (Z0h this))];exact this
 ·intro i obj loc h1 h2
  have:=r.live i obj loc h1 h2
  refine⟨this.1.mono hle (Below.heap_alloc w _ _ this.1.lt) (fun o ho=>?_),this.2⟩
  show(if loc.block=w.heap.size then arr[o]? else S.K loc.block o)=none
  rw[if_neg (by have:=this.1.lt;omega)];exact ho
 ·intro j u hu
  show(if w.heap.size=w.heap.size then arr[0+j]? else S.K _ _)=some u
  rw[if_pos rfl];simpa using hu
theorem K0l{S:St}: ∀(l:List CV) {m:List CV} {cs ds:List Value},FRs S l cs->FRs S m ds->FRs S (l++m) (cs++ds)
 |[],_,_,_,h,k=>by simp only[FRs]at h;subst h;simpa using k
 |v::l,_,_,_,h,k=>by
  simp only[FRs]at h
  obtain⟨c,ds',rfl,h1,h2⟩:=h
  simp only[List.cons_append,FRs]
  exact⟨c,_,by simp,h1,K0l l h2 k⟩
theorem Y0i{S:St}{v:CV}{c:List Value}(h:FR S v c): ∀n:Nat,FRs S (List.replicate n v) (List.replicate n c).flatten
 |0=>by simp[FRs]
 |n+1=>by simp only[List.replicate_succ,FRs,List.flatten_cons];exact⟨c,_,rfl,h,Y0i h n⟩
theorem V0r{S:St}: ∀(l:List CV) (i:Nat) (cs:List Value),FRs S l cs->∃a b,cs=a++b/\FRs S (l.take i) a/\FRs S (l.drop i) b/\a.length=Shape.sizes ((CV.shapes l).take i)
 |l,0,cs,h=>⟨[],cs,rfl,by simp[FRs],by simpa using h,by simp[Shape.sizes]⟩
 |[],i+1,cs,h=>by simp only[FRs]at h;subst h;exact⟨[],[],rfl,by simp[FRs],by simp[FRs],by simp[CV.shapes,Shape.sizes]⟩
 |v::l,i+1,cs,h=>by
  simp only[FRs]at h
  obtain⟨c,ds,rfl,h1,h2⟩:=h
  obtain⟨a,b,rfl,h3,h4,h5⟩:=V0r l i ds h2
  refine⟨c++a,b,by simp,?_,by simpa using h4,?_⟩
  ·simp only[List.take_succ_cons,FRs];exact⟨c,a,rfl,h1,h3⟩
  ·have:=FR.length _ _ h1
   simp only[CV.size]at this
   simp[CV.shapes,Shape.sizes,h5,this]
theorem fold_set: ∀(vs:List Value) (k:Nat) (pre c post:List Value) (arr:Array Value),arr.toList=pre++c++post->c.length=vs.length->
  (((vs.zipIdx k).foldl (fun cs (x:Value×Nat)=>cs.setIfInBounds (pre.length+(x.2-k)) x.1) arr)).toList=pre++vs++post
 |[],k,pre,c,post,arr,h,hc=>by
  have:c=[]:=List.length_eq_zero_iff.1 (by simpa using hc)
  subst this;simpa using h
 |v::vs,k,pre,[],post,arr,h,hc=>by simp at hc
 |v::vs,k,pre,c::cs,post,arr,h,hc=>by
  have h2:(arr.setIfInBounds pre.length v).toList=(pre++[v])++cs++post:=by
   rw[Array.toList_setIfInBounds,h];simp
  have ih:=fold_set vs (k+1) (pre++[v]) cs post _ h2 (by simpa using hc)
  simp only[List.zipIdx_cons,List.foldl_cons,Nat.sub_self,Nat.add_zero]
  rw[show pre++v::vs++post=(pre++[v])++vs++post by simp,<- ih]
  congr 1
  clear ih h2 h hc
  generalize arr.setIfInBounds pre.length v=arr'
  have key:∀(l:List (Value×Nat)) (a:Array Value),(∀x∈l,k+1<=x.2)->List.foldl (fun cs (x:Value×Nat)=>cs.setIfInBounds (pre.length+(x.2-k)) x.1) a l=List.foldl (fun cs (x:Value×Nat)=>cs.setIfInBounds ((pre++[v]).length+(x.2-(k+1))) x.1) a l:=by
   intro l
   induction l with
   |nil=>intros;rfl
   |cons x l ih=>
    intro a hx
    have h1:=hx x (by simp)
    simp only[List.foldl_cons,List.length_append,List.length_cons,List.length_nil]
    rw[show pre.length+(x.2-k)=pre.length+(0+1)+(x.2-(k+1)) by omega]
    have:=ih (a.setIfInBounds (pre.length+(0+1)+(x.2-(k+1))) x.1) (fun y hy=>hx y (by simp[hy]))
    simpa using this
  exact key _ _ fun x hx=>by have:=List.le_snd_of_mem_zipIdx hx;omega
theorem VR.cells_length{S:St}{v:CV}{x:Value}(h:VR S v x): x.cells.size=v.size:=by
 rw[<- Array.length_toList];exact FR.length _ _ h.1
theorem V0t{S:St}(place:Nat->Option (Nat×Nat))(shs:List Shape)(hp:∀i sh,shs[i]?=some sh->place i=some (Shape.sizes (shs.take i),sh.size)):
  ∀(parts:List (Nat×CV)) (vals:List (Nat×Value)) (l:List CV) (arr:Array Value),parts.length=vals.length->(∀(k:Nat) (p:Nat×CV) (q:Nat×Value),parts[k]?=some p->vals[k]?=some q->p.1=q.1/\VR S p.2 q.2/\shs[p.1]?=some p.2.shape)->
   FRs S l arr.toList->CV.shapes l=shs->∃arr',Instr.fill place arr vals=some arr'/\FRs S (parts.foldl (fun l p=>l.set p.1 p.2) l) arr'.toList/\CV.shapes (parts.foldl (fun l p=>l.set p.1 p.2) l)=shs
 |[],[],l,arr,_,_,hl,hs=>⟨arr,rfl,hl,hs⟩
 |[],_::_,_,_,h,_,_,_=>by simp at h
 |_::_,[],_,_,h,_,_,_=>by simp at h
 |(i,v)::parts,(j,x)::vals,l,arr,hlen,hpv,hl,hs=>by
  obtain⟨hij,hv,hsh⟩:=hpv 0 _ _ rfl rfl
  simp only at hij hv hsh
  subst hij
  have hll:i<l.length:=by
   have:=(List.getElem?_eq_some_iff.1 hsh).1
   rw[<- hs,CV.shapes_eq]at this;simpa using this
  obtain⟨pre,c,post,harr,hpre,hc,hset⟩:=FRs.focus l arr.toList i l[i] hl (by simp[hll])
  rw[hs]at hpre
  have hsz:=VR.cells_length hv
  have hcl:c.length=x.cells.toList.length:=by
   rw[FR.length _ _ hc,Array.length_toList,hsz]
   have:(CV.shapes l)[i]?=some l[i].shape:=V06 (by simp[hll])
   rw[hs,hsh]at this
   simp only[Option.some.injEq]at this
   simp only[CV.size,<- this]
  have hfit:¬(pre.length+x.cells.size>arr.size):=by
   have:arr.toList.length=pre.length+(c.length+post.length):=by rw[harr];simp
   rw[Array.length_toList]at this
   have hcl2:c.length=x.cells.size:=hcl.trans (Array.length_toList)
   omega
  have hshapes:CV.shapes (l.set i v)=shs:=by
   rw[CV.shapes_eq,List.map_set,<- CV.shapes_eq,hs]
   apply List.ext_getElem?
   intro k
   by_cases hk:i=k
   ·subst hk;rw[List.getElem?_set];simp[hsh];exact(List.getElem?_eq_some_iff.1 hsh).1
   ·rw[List.getElem?_set];simp[hk]
  have hnew:=hset S v x.cells.toList (St.le.refl _) hv.1
  obtain⟨arr',h1,h2,h3⟩:=V0t place shs hp parts vals (l.set i v) (⟨pre++x.cells.toList++post⟩:Array Value) (by simpa using hlen) (fun k p q hk hq=>hpv (k+1) p q (by simpa using hk) (by simpa using hq)) hnew hshapes
  refine⟨arr',?_,h2,h3⟩
  simp only[Instr.fill,hp i _ hsh]
  rw[<- hpre]
  have hsz':x.cells.size=v.shape.size:=hsz
  rw[if_neg (by simp[hsz'];rw[<- hsz'];omega),<- h1]
  congr 1
  apply Array.ext'
  have:=fold_set x.cells.toList 0 pre c post arr harr hcl
  simp only[Nat.sub_zero]at this
  rw[<- this]
  rw[<- Array.foldl_toList]
  simp
section ops
variable (C:Ctx)
def setAll(l:List CV)(parts:List (Nat×CV)): List CV:=parts.foldl (fun l p=>l.set p.1 p.2) l
def partsOk(shs:List Shape)(parts:List (Nat×CV)): Bool:=parts.all fun p=>decide (shs[p.1]?=some p.2.shape)
def qbuild(t:TypeId)(parts:List (Nat×CV)): Option CV:=
 match C.tt t with
 |some ⟨.st _,.n shs,_,.agg z⟩=>if partsOk shs parts=true then some (.agg (setAll z parts))else none
 |some ⟨.ar _ _ _,.n shs,_,.agg z⟩=>if partsOk shs parts=true then some (.agg (setAll z parts))else none
 |_=>none
theorem Z0j{P:Program}{t:TypeId}{i:TypeInfo}{z:Value}(hi:P.info? t=some i)(hz:i.zero=some z)(w:World): (zeroValue t).run P w=.ok z w:=by
 simp[zeroValue,typeInfo,hi,hz]
theorem Q1y{α β:Type}{P:Program}{w:World}(f:α->Sem β)(g:α->β)(l:List α)(h:∀x∈l,(f x).run P w=.ok (g x) w): (l.mapM f).run P w=.ok (l.map g) w:=by
 induction l with
 |nil=>simp
 |cons x l ih=>
  rw[List.mapM_cons]
  simp[h x (by simp),ih (fun y hy=>h y (by simp[hy]))]
theorem qbuild_sound{S:St}{w:World}{t:TypeId}{parts:List (Nat×CV)}{vals:List (Nat×Value)}{v:CV}(hlen:parts.length=vals.length)
  (hpv:∀(k:Nat) (p:Nat×CV) (q:Nat×Value),parts[k]?=some p->vals[k]?=some q->p.1=q.1/\VR S p.2 q.2) (h:qbuild C t parts=some v):
  ∃y,(Instr.build t vals.toArray).run C.P w=.ok y w/\VR S v y:=by
 unfold qbuild at h
 split at h<;>try(cases h;done)
 ·rename_i fs shs by_ z h1
  split at h<;>try(cases h;done)
  rename_i hok
  cases h
  have hti:=C.htt _ _ h1
  obtain⟨i,zv,hi,_,_,hz,hfz⟩:=hti.info
  obtain⟨f,shs',hu,hfs,hsn,hlen',hoffs,_⟩:=hti.d
  simp only[Shape.n.injEq]at hsn
  subst hsn
  have hzsh:=hti.zsh
  simp only[CV.shape,Shape.n.injEq]at hzsh
  have hFz:FRs S z zv.cells.toList:=by have:=V0k (S:=S) _ _ hfz;simpa[FR]using this
  have hplaces:(f.mapM fun x=>do pure (x.offset,<- sizeOf x.type):Sem _).run C.P w=.ok (f.map fun x=>(x.offset,((C.P.info? x.type).map (·.size)).getD 0)) w:=by
   rw[Array.mapM_eq_mapM_toList]
   simp only[Sem.run_map]
   rw[Q1y _ (fun x=>(x.offset,((C.P.info? x.type).map (·.size)).getD 0)) f.toList]
   ·simp only[Result.andThen_ok]
    congr 1
    apply Array.ext'
    simp
   ·intro x hx
    obtain⟨k,hk⟩:=List.getElem?_of_mem hx
    have:fs[k]?=some (x.offset,((C.P.info? x.type).map (·.size)).getD 0,x.type):=by rw[<- hfs,List.getElem?_map,hk];rfl
    have:=(hoffs k _ this).2.1
    cases hq:C.P.info? x.type with
    |none=>simp[hq]at this
    |some i=>simp[sizeOf,typeInfo,hq]
  obtain⟨arr',k1,k2,k3⟩:=V0t (S:=S) (fun i=>(f.map fun x=>(x.offset,((C.P.info? x.type).map (·.size)).getD 0))[i]?) shs (fun i sh hsh=>by
   have hil:i<fs.length:=by rw[<- hlen'];exact(List.getElem?_eq_some_iff.1 hsh).1
   obtain⟨ho,_,hsz⟩:=hoffs i fs[i] (by simp[hil])
   have:fs[i]?=(f[i]?).map (fun x=>(x.offset,((C.P.info? x.type).map (·.size)).getD 0,x.type)):=by rw[<- hfs,List.getElem?_map,Array.getElem?_toList]
   rw[Array.getElem?_map]
   cases hq:f[i]? with
   |none=>simp[hq,hil]at this
   |some x=>
    simp[hq,hil]at this
    rw[this]at ho hsz
    rw[hsh]at hsz
    simp only[Option.map_some,Option.some.injEq]at hsz ho ⊢
    rw[ho,hsz]) parts vals z zv.cells hlen (fun k p q hk hq=>by
     obtain⟨e1,e2⟩:=hpv k p q hk hq
     refine⟨e1,e2,?_⟩
     have:=List.all_eq_true.1 hok p (List.mem_of_getElem? hk)
     simpa using this) hFz hzsh
  refine⟨.agg arr',?_,K0v.2 ⟨_,rfl,k2⟩⟩
  simp only[Instr.build,Sem.run_bind,Z0j hi hz,Result.andThen_ok,run_underlying hu,hplaces]
  simp only[k1,Sem.run_pure]
 ·rename_i n esz e shs by_ z h1
  split at h<;>try(cases h;done)
  rename_i hok
  cases h
  have hti:=C.htt _ _ h1
  obtain⟨i,zv,hi,_,_,hz,hfz⟩:=hti.info
  obtain⟨she,hu,hesz,hsn,hsz,_⟩:=hti.d
  simp only[Shape.n.injEq]at hsn
  subst hsn
  have hzsh:=hti.zsh
  simp only[CV.shape,Shape.n.injEq]at hzsh
  have hFz:FRs S z zv.cells.toList:=by have:=V0k (S:=S) _ _ hfz;simpa[FR]using this
  have hsize:(sizeOf e).run C.P w=.ok esz w:=by
   cases hq:C.P.info? e with
   |none=>simp[hq]at hesz
   |some i=>simp[hq]at hesz;simp[sizeOf,typeInfo,hq,hesz]
  obtain⟨arr',k1,k2,k3⟩:=V0t (S:=S) (fun i=>some (i*esz,esz)) (List.replicate n she) (fun i sh hsh=>by
   obtain⟨hil,hh⟩:=List.getElem?_eq_some_iff.1 hsh
   simp only[List.length_replicate]at hil
   simp only[List.getElem_replicate]at hh
   rw[V0e _ _ _ (by omega),<- hh,hsz]) parts vals z zv.cells hlen (fun k p q hk hq=>by
     obtain⟨e1,e2⟩:=hpv k p q hk hq
     refine⟨e1,e2,?_⟩
     have:=List.all_eq_true.1 hok p (List.mem_of_getElem? hk)
     simpa using this) hFz hzsh
  refine⟨.agg arr',?_,K0v.2 ⟨_,rfl,k2⟩⟩
  simp only[Instr.build,Sem.run_bind,Z0j hi hz,Result.andThen_ok,run_underlying hu,hsize]
  simp only[k1,Sem.run_pure]
end ops
end Go.Cl
end
section
namespace Go.Cl
open Go.RowKit
theorem Z0w(c:Array Value): ∀n:Nat,((Array.range (n*c.size)).map fun i=>c[i % c.size]!).toList=(List.replicate n c.toList).flatten
 |0=>by simp
 |n+1=>by
  have ih:=Z0w c n
  rw[List.replicate_succ,List.flatten_cons,<- ih]
  simp only[Array.toList_map,Array.toList_range]
  rw[Nat.succ_mul,Nat.add_comm,List.range_add,List.map_append,List.map_map]
  congr 1
  ·apply List.ext_getElem?
   intro j
   rw[List.getElem?_map]
   by_cases hj:j<c.size
   ·simp[hj,Nat.mod_eq_of_lt hj]
   ·simp[hj]
  ·apply List.map_congr_left
   intro i _
   simp
theorem K06{S:St}: ∀(l:List CV) (vs:List Value),VRs S l vs->l.length=vs.length/\∀(i:Nat) v x,l[i]?=some v->vs[i]?=some x->VR S v x
 |[],vs,h=>by simp only[VRs]at h;subst h;simp
 |v::l,vs,h=>by
  simp only[VRs]at h
  obtain⟨x,xs,rfl,h1,h2⟩:=h
  obtain⟨h3,h4⟩:=K06 l xs h2
  refine⟨by simp[h3],fun i u y hu hy=>?_⟩
  cases i with
  |zero=>simp at hu hy;subst hu;subst hy;exact h1
  |succ i=>exact h4 i u y (by simpa using hu) (by simpa using hy)
section ops
variable (C:Ctx)
def qbuildSlice(t:TypeId)(len:Nat)(parts:List (Nat×CV)): Option CV:=
 match C.tt t with
 |some ⟨.base (.slice e),_,_,_⟩=>
  match C.tt e with
  |some te=>if len*te.sh.size<=16777216/\te.sh.size≠0/\partsOk (List.replicate len te.sh) parts=true then some (.lst .exact (setAll (List.replicate len te.zero) parts))else none
  |none=>none
 |_=>none
def QSound(w0:World)(B:Nat)(S:St)(h:Heap)(w:World)(v:CV)(s:Sem Value): Prop:=
 ∃y w' S',s.run C.P w=.ok y w'/\S.le S'/\S'.μ=S.μ/\S'.n=S.n/\R w0 B S' h w'/\VR S' v y
theorem QSound.still{w0:World}{B:Nat}{S:St}{h:Heap}{w:World}(r:R w0 B S h w){v:CV}{s:Sem Value}(k:∃y,s.run C.P w=.ok y w/\VR S v y): QSound C w0 B S h w v s:=
 let⟨y,h1,h2⟩:=k;⟨y,w,S,h1,St.le.refl _,rfl,rfl,r,h2⟩
theorem K04{w0:World}{B:Nat}{S:St}{h:Heap}{w:World}(r:R w0 B S h w){t:TypeId}{len:Nat}{parts:List (Nat×CV)}{vals:List (Nat×Value)}{v:CV}(hlen:parts.length=vals.length)
  (hpv:∀(k:Nat) (p:Nat×CV) (q:Nat×Value),parts[k]?=some p->vals[k]?=some q->p.1=q.1/\VR S p.2 q.2) (hv:qbuildSlice C t len parts=some v):
  QSound C w0 B S h w v (Instr.buildSlice t len vals.toArray):=by
 unfold qbuildSlice at hv
 split at hv<;>try(cases hv;done)
 rename_i e sh by_ ze h1
 split at hv<;>try(cases hv;done)
 rename_i te h2
 split at hv<;>try(cases hv;done)
 rename_i hc
 obtain⟨hsmall,hnz,hok⟩:=hc
 cases hv
 have hu:=(C.htt _ _ h1).d.1
 have hte:=C.htt _ _ h2
 obtain⟨i,z,hi,hisz,_,hz,hfz⟩:=hte.info
 have hFz:FR S te.zero z.cells.toList:=V0k _ _ hfz
 have hzs:z.cells.size=te.sh.size:=by
  rw[<- Array.length_toList,FR.length _ _ hFz,CV.size,hte.zsh]
 let arr0:Array Value:=(Array.range (len*te.sh.size)).map fun i=>z.cells[i % z.cells.size]!
 have harr0:arr0.toList=(List.replicate len z.cells.toList).flatten:=by
  have:=Z0w z.cells len
  rw[hzs]at this
  simp only[arr0,hzs];exact this
 have hF0:FRs S (List.replicate len te.zero) arr0.toList:=by rw[harr0];exact Y0i hFz len
 have hshapes:CV.shapes (List.replicate len te.zero)=List.replicate len te.sh:=by rw[CV.shapes_eq,List.map_replicate,hte.zsh]
 obtain⟨arr',k1,k2,k3⟩:=V0t (S:=S) (fun i=>some (i*te.sh.size,te.sh.size)) (List.replicate len te.sh) (fun i sh hsh=>by
   obtain⟨hil,hh⟩:=List.getElem?_eq_some_iff.1 hsh
   simp only[List.length_replicate]at hil
   simp only[List.getElem_replicate]at hh
   rw[V0e _ _ _ (by omega),<- hh]) parts vals _ arr0 hlen (fun k p q hk hq=>by
     obtain⟨e1,e2⟩:=hpv k p q hk hq
     refine⟨e1,e2,?_⟩
     have:=List.all_eq_true.1 hok p (List.mem_of_getElem? hk)
     simpa using this) hF0 hshapes
 obtain⟨hle,hr',hlies⟩:=r.know arr' e
 have hlen2:(setAll (List.replicate len te.zero) parts).length=len:=by
  have:=congrArg List.length k3
  simpa[CV.shapes_eq,setAll]using this
 have hrun:(Instr.buildSlice t len vals.toArray).run C.P w=.ok (.slice (some ⟨w.heap.size,0,none⟩) len len) (w.alloc (.cells arr' e)):=by
  have hnb:¬(len*te.sh.size>16777216):=by omega
  by_cases hl0:len*te.sh.size=0
  ·have hl:len=0:=by
    rcases Nat.mul_eq_zero.1 hl0 with h|h
    ·exact h
    ·exact absurd h hnz
   subst hl
   have:arr0=#[]:=by simp[arr0]
   rw[this]at k1
   simp[Instr.buildSlice,run_underlying hu,sizeOf,typeInfo,hi,hisz,newRow,show Array.range 0=#[] from rfl,k1]
  ·simp only[arr0]at k1
   simp[Instr.buildSlice,run_underlying hu,sizeOf,typeInfo,hi,hisz,hnb,hl0,Z0j hi hz,k1,newRow]
 refine⟨_,_,_,hrun,hle,rfl,rfl,hr',?_⟩
 rw[V0d rfl]
 simp only[FR]
 refine⟨.inr ⟨w.heap.size,0,len,te.sh.size,arr'.toList,by rw[hlen2],by rw[hlen2];exact Nat.le_refl _,FRs.mono hle _ _ k2,hlies,?_,?_⟩,by simp⟩
 ·intro x hx
  obtain⟨k,hk⟩:=List.getElem?_of_mem hx
  have:=V06 hk
  rw[show CV.shapes (setAll (List.replicate len te.zero) parts)=List.replicate len te.sh from k3]at this
  obtain⟨hil,hh⟩:=List.getElem?_eq_some_iff.1 this
  simp only[List.getElem_replicate]at hh
  rw[CV.size,<- hh]
 ·exact hlen2.symm
def qbnd(x:Option CV)(dflt lim:Nat): Option Nat:=
 match x with
 |none=>some dflt
 |some (.sc (.int _ n))=>if 0<=n/\n<=lim then some n.toNat else none
 |some _=>none
def qslice(h:Heap)(t:TypeId)(x:CV)(lo hi mx:Option CV): Option CV:=
 match C.tt t,x with
 |some ⟨.base .string,_,_,_⟩,.sc (.string s)=>
  match mx,qbnd hi s.size s.size with
  |none,some b=>(qbnd lo 0 b).map fun a=>.sc (.string (s.extract a b))
  |_,_=>none
 |some ⟨.base (.slice e),_,_,_⟩,.lst tl l=>
  match C.tt e with
  |none=>none
  |some te=>
   if l.all (fun v=>decide (v.shape=te.sh))=true then
    match mx with
    |none=>match qbnd hi l.length l.length with
     |some b=>match qbnd lo 0 b with
      |some a=>some (.lst (match tl with|.exact=>if b=l.length then .exact else .part|.nil=>.nil|.view=>.view|_=>.part) ((l.take b).drop a))
      |none=>none
     |none=>none
    |some m=>match qbnd (some m) 0 l.length,hi with
     |some c,some _=>match qbnd hi 0 c with
      |some b=>match qbnd lo 0 b with
       |some a=>some (.lst (match tl with|.nil=>.nil|.view=>.view|_=>if b=c then .exact else .part) ((l.take b).drop a))
       |none=>none
      |none=>none
     |_,_=>none
   else none
 |some ⟨.base (.slice e),_,_,_⟩,.slc j p off len=>
  match C.tt e,tgt h (.ptr j p),mx with
  |some te,some (.agg l),none=>
   if CV.shape (.agg l)=.n (List.replicate l.length te.sh) then
    match qbnd hi len len with
    |some b=>match qbnd lo 0 b with
     |some a=>some (if a=b/\a≠0 then .lst .part []else .slc j p (off+a) (b-a))
     |none=>none
    |none=>none
   else none
  |_,_,_=>none
 |some ⟨.ar n _ _,.n shs,_,_⟩,.ptr j p=>
  match lo,mx,tgt h (.ptr j p),qbnd hi n n with
  |none,none,some (.agg l),some b=>if CV.shape (.agg l)=.n shs then some (.slc j p 0 b)else none
  |_,_,_,_=>none
 |_,_=>none
def OVR(S:St): Option CV->Option Value->Prop
 |none,none=>True
 |some v,some x=>VR S v x
 |_,_=>False
theorem V0g{S:St}{x:Option CV}{y:Option Value}{dflt lim r:Nat}{w:World}(hx:OVR S x y)(h:qbnd x dflt lim=some r):
  (x=none/\y=none/\r=dflt)\/∃k n,y=some (.int k n)/\x≠none/\0<=n/\n<=lim/\r=n.toNat/\∀code,(Instr.sliceBound (.int k n) lim code).run C.P w=.ok r w:=by
 unfold qbnd at h
 split at h
 ·cases h
  cases y<;>simp[OVR]at hx ⊢
 ·split at h
  ·rename_i k n hn
   cases h
   cases y<;>simp only[OVR]at hx
   obtain⟨rfl,_⟩:=VR_sc.1 hx
   exact .inr ⟨k,n,rfl,by simp,hn.1,hn.2,rfl,fun code=>by simp[Instr.sliceBound,asIntOf,hn.1,hn.2]⟩
  ·cases h
 ·cases h
theorem V0s{l:List CV}{a b:Nat}{p:CV->Prop}(h:∀x∈l,p x): ∀x∈(l.take b).drop a,p x:=
 fun x hx=>h x (List.mem_of_mem_take (List.mem_of_mem_drop hx))
theorem piece{S:St}{e:TypeId}{sz:Nat}{l:List CV}{b off a c:Nat}{es:List Value}(hes:FRs S l es)(hl:S.lies b off es)(hun:∀x∈l,x.size=sz)(hac:a<=c)(hcl:c<=l.length)(_he:e=e):
  ∃es',FRs S ((l.take c).drop a) es'/\S.lies b (off+a*sz) es':=by
 obtain⟨x,y,rfl,h1,_,h3⟩:=V0r l c es hes
 obtain⟨x1,x2,rfl,_,h5,h6⟩:=V0r (l.take c) a x h1
 refine⟨x2,h5,?_⟩
 rw[X0m (l.take c) a (fun z hz=>hun z (List.mem_of_mem_take hz)) (by simp;omega)]at h6
 have:=Z03 (S:=S) (b:=b) (o:=off) (pre:=x1) (c:=x2) (post:=y) hl
 rwa [h6]at this
theorem qslice_sound{w0:World}{B:Nat}{S:St}{h:Heap}{w:World}(r:R w0 B S h w){t:TypeId}{x v:CV}{lo hi mx:Option CV}{x':Value}{lo' hi' mx':Option Value}
  (hx:VR S x x') (hlo:OVR S lo lo') (hhi:OVR S hi hi') (hmx:OVR S mx mx') (hv:qslice C h t x lo hi mx=some v):
  ∃y,(Instr.sliceAt t x' lo' hi' mx').run C.P w=.ok y w/\VR S v y:=by
 unfold qslice at hv
 split at hv<;>try(cases hv;done)
 ·rename_i sh by_ ze s h1
  obtain⟨rfl,_⟩:=VR_sc.1 hx
  have hu:=(C.htt _ _ h1).d.1
  split at hv<;>try(cases hv;done)
  rename_i b hb
  cases mx'<;>simp only[OVR]at hmx
  cases ha:qbnd lo 0 b with
  |none=>simp[ha]at hv
  |some a=>
   simp[ha]at hv
   subst hv
   refine⟨.string (s.extract a b),?_,VR_sc.2 ⟨rfl,rfl⟩⟩
   rcases V0g C (w:=w) hhi hb with⟨rfl,rfl,rfl⟩|⟨k,n,rfl,_,_,_,rfl,hrh⟩<;>
    rcases V0g C (w:=w) hlo ha with⟨rfl,rfl,rfl⟩|⟨k2,n2,rfl,_,_,_,rfl,hrl⟩<;>
     simp[Instr.sliceAt,run_underlying hu,Instr.slice,Instr.sliceBounds, *]
 ·rename_i e sh by_ ze tl l h1
  have hu:=(C.htt _ _ h1).d.1
  split at hv<;>try(cases hv;done)
  rename_i te h2
  split at hv<;>try(cases hv;done)
  rename_i hall
  have hun:∀x∈l,x.size=te.sh.size:=fun x hx=>by
   have:=List.all_eq_true.1 hall x hx
   simp at this
   rw[CV.size,this]
  obtain⟨ie,zz,hie,hse,_⟩:=(C.htt _ _ h2).info
  have hsize:∀w,(sizeOf e).run C.P w=.ok te.sh.size w:=fun w=>by simp[sizeOf,typeInfo,hie,hse]
  rw[V0d rfl]at hx
  simp only[FR]at hx
  obtain⟨hx,_⟩:=hx
  -- the bounds,and what the model answers
  have main:∀(a b c cap:Nat) (base:Option Addr),x'=.slice base l.length cap->a<=b->b<=l.length->b<=c->c<=cap->
    (Instr.sliceBounds true l.length cap lo' hi' mx').run C.P w=.ok (a,b,c) w->
    (Instr.sliceAt t x' lo' hi' mx').run C.P w=.ok (.slice (if c=a then base else base.map (·.add (a*te.sh.size))) (b-a) (c-a)) w:=by
   intro a b c cap base hxe _ _ _ _ hb
   subst hxe
   simp[Instr.sliceAt,run_underlying hu,Instr.slice,hb,hsize]
  have fin:∀(a b c cap:Nat) (base:Option Addr) (tl':Tail),x'=.slice base l.length cap->a<=b->b<=l.length->b<=c->c<=cap->(∀id,tl'≠.own id)->(tl'=.exact->b=c/\base≠none)->(tl'=.nil->tl=.nil)->(∀o,tl.may o=true->tl'.may o=true)->
    VR S (.lst tl' ((l.take b).drop a)) (.slice (if c=a then base else base.map (·.add (a*te.sh.size))) (b-a) (c-a)):=by
   intro a b c cap base tl' hxe hab hbl hbc hcc hno hex hnl hmay
   rw[V0d rfl]
   simp only[FR]
   refine⟨?_,by simp⟩
   have hlen:((l.take b).drop a).length=b-a:=by simp;omega
   rcases hx with⟨rfl,a0,hm,hx⟩|⟨bb,off,cap2,sz,es,hx,hcap,hes,hlies,hunz,hfit0⟩
   ·rw[(List.cons.inj hx).1]at hxe
    cases hxe
    simp at hbl
    left
    have:a=0:=by omega
    have:c=0:=by omega
    have:=hmay _ hm
    simp_all
   ·rw[(List.cons.inj hx).1]at hxe
    cases hxe
    right
    obtain⟨es',h5,h6⟩:=piece (e:=e) hes hlies hunz hab hbl rfl
    have hfits:∀off',tl'.fits S bb off' ((l.take b).drop a).length (c-a) sz:=fun off'=>by
     cases tl' with
     |nil=>rw[hnl rfl]at hfit0;exact hfit0.elim
     |view=>trivial
     |part=>trivial
     |exact=>rw[Tail.fits,hlen];have:=(hex rfl).1;omega
     |own id=>exact absurd rfl (hno id)
    by_cases hca:c=a
    ·have:b-a=0:=by omega
     have hnil:(l.take b).drop a=[]:=List.length_eq_zero_iff.1 (by omega)
     refine⟨bb,off,c-a,sz,[],?_,by omega,by rw[hnil];simp[FRs],fun j u hu=>by simp at hu,V0s hunz,hfits _⟩
     rw[if_pos hca,hlen]
    ·have hsz:sz=te.sh.size\/l=[]:=by
      cases l with
      |nil=>exact .inr rfl
      |cons z l=>exact .inl (by rw[<- hunz z (by simp),hun z (by simp)])
     rcases hsz with rfl|rfl
     ·refine⟨bb,off+a*te.sh.size,c-a,te.sh.size,es',?_,by omega,h5,h6,V0s hunz,hfits _⟩
      rw[if_neg hca,hlen]
      simp[Addr.add_mid]
     ·refine⟨bb,off+a*te.sh.size,c-a,sz,[],?_,by omega,by simp[FRs],fun j u hu=>by simp at hu,by simp,by simpa using hfits _⟩
      rw[if_neg hca]
      simp at hbl
      simp[Addr.add_mid,hbl]
  obtain⟨base,cap,hxe,hcapl⟩:∃base cap,x'=.slice base l.length cap/\l.length<=cap:=by
   rcases hx with⟨rfl,a0,_,hx⟩|⟨bb,off,cap,sz,es,hx,hcap,_⟩
   ·exact⟨a0,0,by cases hx;rfl,by simp⟩
   ·exact⟨_,cap,by cases hx;rfl,hcap⟩
  have hnn:tl.mayNil=false->base≠none:=by
   intro htl
   rcases hx with⟨rfl,a0,hm,hx⟩|⟨bb,off,cap2,sz,es,hx,hcap,_,_,_,hf⟩
   ·rw[Tail.may_nil hm]at htl;cases htl
   ·rw[(List.cons.inj hx).1]at hxe;cases hxe;simp
  have hexact:tl=.exact->cap=l.length/\base≠none:=by
   intro htl
   subst htl
   rcases hx with⟨rfl,a0,hm,hx⟩|⟨bb,off,cap2,sz,es,hx,hcap,_,_,_,hf⟩
   ·simp[Tail.may]at hm
   ·rw[(List.cons.inj hx).1]at hxe;cases hxe;exact⟨hf,by simp⟩
  split at hv
  ·cases mx'<;>simp only[OVR]at hmx
   split at hv<;>try(cases hv;done)
   rename_i b hb
   split at hv<;>try(cases hv;done)
   rename_i a ha
   cases hv
   have hb':b<=l.length:=by
    rcases V0g C (w:=w) hhi hb with⟨_,_,rfl⟩|⟨k,n,_,_,_,h4,rfl,_⟩<;>omega
   have ha':a<=b:=by
    rcases V0g C (w:=w) hlo ha with⟨_,_,rfl⟩|⟨k,n,_,_,_,h4,rfl,_⟩<;>omega
   refine⟨_,main a b cap cap base hxe ha' hb' (by omega) (Nat.le_refl _) ?_,fin a b cap cap base _ hxe ha' hb' (by omega) (Nat.le_refl _) ?_ ?_ ?_ ?_⟩
   ·have hh:∀code,∀k n,0<=n->n<=(l.length:Int)->(Instr.sliceBound (.int k n) cap code).run C.P w=.ok n.toNat w:=fun code k n h0 hn=>by
     simp[Instr.sliceBound,asIntOf,h0,show n<=(cap:Int) by omega]
    rcases V0g C (w:=w) hhi hb with⟨rfl,rfl,rfl⟩|⟨k,n,rfl,_,h3,h4,rfl,hrh⟩<;>
     rcases V0g C (w:=w) hlo ha with⟨rfl,rfl,rfl⟩|⟨k2,n2,rfl,_,_,_,rfl,hrl⟩<;>
      simp[Instr.sliceBounds, *]
   ·intro id;split<;>(try split)<;>simp
   ·intro he
    split at he
    ·split at he
     ·rename_i hbl;rw[hbl];exact⟨(hexact rfl).1.symm,(hexact rfl).2⟩
     ·cases he
    ·cases he
    ·cases he
    ·cases he
   ·cases tl<;>simp
    split<;>simp
   ·intro o;cases tl<;>cases o<;>simp[Tail.may]
  ·rename_i m
   split at hv<;>try(cases hv;done)
   rename_i hi0 c hi1 hc
   split at hv<;>try(cases hv;done)
   rename_i b hb
   split at hv<;>try(cases hv;done)
   rename_i a ha
   cases hv
   rcases V0g C (w:=w) hmx hc with⟨h0,_⟩|⟨km,nm,rfl,_,h1m,h2m,rfl,hrm⟩
   ·cases h0
   rcases V0g C (w:=w) hhi hb with⟨h0,_⟩|⟨kh,nh,rfl,_,h1h,h2h,rfl,hrh⟩
   ·cases h0
   have ha':a<=nh.toNat:=by
    rcases V0g C (w:=w) hlo ha with⟨_,_,rfl⟩|⟨k,n,_,_,_,h4,rfl,_⟩<;>omega
   refine⟨_,main a nh.toNat nm.toNat cap base hxe ha' (by omega) (by omega) (by omega) ?_,fin a nh.toNat nm.toNat cap base _ hxe ha' (by omega) (by omega) (by omega) ?_ ?_ ?_ ?_⟩
   ·have hh:∀code,(Instr.sliceBound (.int km nm) cap code).run C.P w=.ok nm.toNat w:=fun code=>by
     simp[Instr.sliceBound,asIntOf,h1m,show nm<=(cap:Int) by omega]
    rcases V0g C (w:=w) hlo ha with⟨rfl,rfl,rfl⟩|⟨k2,n2,rfl,_,_,_,rfl,hrl⟩<;>
     simp[Instr.sliceBounds, *]
   ·intro id;cases tl<;>simp<;>split<;>simp
   ·intro he
    cases tl with
    |nil=>cases he
    |view=>cases he
    |part=>
     simp only at he
     split at he
     ·exact⟨by assumption,hnn rfl⟩
     ·cases he
    |exact=>
     simp only at he
     split at he
     ·exact⟨by assumption,hnn rfl⟩
     ·cases he
    |own i=>
     simp only at he
     split at he
     ·exact⟨by assumption,hnn rfl⟩
     ·cases he
   ·cases tl<;>simp<;>split<;>simp
   ·intro o;cases tl<;>cases o<;>simp[Tail.may]
 ·rename_i e sh by_ ze j p off len h1
  have hu:=(C.htt _ _ h1).d.1
  split at hv<;>try(cases hv;done)
  rename_i te l h2 h3
  split at hv<;>try(cases hv;done)
  rename_i hsh
  split at hv<;>try(cases hv;done)
  rename_i b hb
  split at hv<;>try(cases hv;done)
  rename_i a ha
  cases hv
  cases mx'<;>simp only[OVR]at hmx
  obtain⟨ie,zz,hie,hse,_⟩:=(C.htt _ _ h2).info
  have hsize:∀w,(sizeOf e).run C.P w=.ok te.sh.size w:=fun w=>by simp[sizeOf,typeInfo,hie,hse]
  rw[V0d rfl]at hx
  simp only[FR]at hx
  obtain⟨⟨rb,sh0,l0,o,cap,hxe,⟨tot,hμ,htot⟩,hsub0,ho,hcap,hol⟩,_⟩:=hx
  cases hxe
  have hb':b<=len:=by
   rcases V0g C (w:=w) hhi hb with⟨_,_,rfl⟩|⟨k,n,_,_,_,h4,rfl,_⟩<;>omega
  have ha':a<=b:=by
   rcases V0g C (w:=w) hlo ha with⟨_,_,rfl⟩|⟨k,n,_,_,_,h4,rfl,_⟩<;>omega
  simp only[tgt]at h3
  cases hi:h j with
  |none=>simp[hi]at h3
  |some obj=>
   cases obj<;>simp[hi]at h3
   have hl0:=(r.live j _ _ hi hμ).1.1
   have hsub:=CV.sub_at p _ _ h3
   rw[hl0,hsub0]at hsub
   rw[hsh]at hsub
   simp only[Option.some.injEq,Shape.n.injEq]at hsub
   subst hsub
   simp only[List.length_replicate]at hol
   have hbd:(Instr.sliceBounds true len cap lo' hi' none).run C.P w=.ok (a,b,cap) w:=by
    have hh:∀code,∀k n,0<=n->n<=(len:Int)->(Instr.sliceBound (.int k n) cap code).run C.P w=.ok n.toNat w:=fun code k n h0 hn=>by
     simp[Instr.sliceBound,asIntOf,h0,show n<=(cap:Int) by omega]
    rcases V0g C (w:=w) hhi hb with⟨rfl,rfl,rfl⟩|⟨k,n,rfl,_,h3,h4,rfl,hrh⟩<;>
     rcases V0g C (w:=w) hlo ha with⟨rfl,rfl,rfl⟩|⟨k2,n2,rfl,_,_,_,rfl,hrl⟩<;>
      simp[Instr.sliceBounds, *]
   have hrun:(Instr.sliceAt t (.slice (some ⟨rb,o+Shape.sizes ((List.replicate l.length te.sh).take off),none⟩) len cap) lo' hi' none).run C.P w=.ok (.slice (if cap=a then some ⟨rb,o+Shape.sizes ((List.replicate l.length te.sh).take off),none⟩ else(some (Addr.add ⟨rb,o+Shape.sizes ((List.replicate l.length te.sh).take off),none⟩ (a*te.sh.size)))) (b-a) (cap-a)) w:=by
    simp[Instr.sliceAt,run_underlying hu,Instr.slice,hbd,hsize]
   refine⟨_,hrun,?_⟩
   by_cases hab:a=b/\a≠0
   ·obtain⟨hab,ha0⟩:=hab
    subst hab
    rw[if_pos ⟨rfl,ha0⟩,V0d rfl]
    refine⟨?_,by simp⟩
    simp only[FR]
    right
    by_cases hca:cap=a
    ·refine⟨rb,o+Shape.sizes ((List.replicate l.length te.sh).take off),cap-a,te.sh.size,[],?_,by simp,by simp[FRs],fun j u hu=>by simp at hu,by simp,trivial⟩
     rw[if_pos hca];simp
    ·refine⟨rb,o+Shape.sizes ((List.replicate l.length te.sh).take off)+a*te.sh.size,cap-a,te.sh.size,[],?_,by simp,by simp[FRs],fun j u hu=>by simp at hu,by simp,trivial⟩
     rw[if_neg hca];simp[Addr.add_mid]
   ·rw[if_neg hab,V0d rfl]
    refine⟨?_,by simp⟩
    simp only[FR]
    refine⟨rb,sh0,List.replicate l.length te.sh,o,cap-a,?_,⟨tot,hμ,fun hp hoa=>?_⟩,hsub0,ho,by omega,by simp;omega⟩
    ·by_cases ha0:a=0
     ·subst ha0
      simp[Addr.add]
     ·rw[if_neg (by omega)]
      rw[V0e _ _ _ (by omega),V0e _ _ _ (by omega)]
      simp[Addr.add_mid,Nat.add_mul,Nat.add_assoc]
    ·obtain⟨k0,sz,k1,k2⟩:=htot hp (by omega)
     exact⟨by omega,sz,k1,by rw[show a=0 by omega];simpa using k2⟩
 ·rename_i n esz e shs by_ ze j p h1
  split at hv<;>try(cases hv;done)
  rename_i l b h2 hb
  split at hv<;>try(cases hv;done)
  rename_i hsh
  cases hv
  cases lo'<;>simp only[OVR]at hlo
  cases mx'<;>simp only[OVR]at hmx
  obtain⟨she,hu,hesz,hsn,hsz,hnz,_⟩:=(C.htt _ _ h1).d
  simp only[Shape.n.injEq]at hsn
  subst hsn
  rw[V0d rfl]at hx
  simp only[FR]at hx
  obtain⟨⟨rb,sh0,o,hxe,⟨tot,hμ⟩,ho⟩,_⟩:=hx
  cases hxe
  have hsize:(sizeOf e).run C.P w=.ok esz w:=by
   cases hq:C.P.info? e with
   |none=>simp[hq]at hesz
   |some i=>simp[hq]at hesz;simp[sizeOf,typeInfo,hq,hesz]
  have hb':b<=n:=by
   rcases V0g C (w:=w) hhi hb with⟨_,_,rfl⟩|⟨k,n,_,_,_,h4,rfl,_⟩<;>omega
  have hrun:(Instr.sliceAt t (.pointer (some ⟨rb,o,none⟩)) none hi' none).run C.P w=.ok (.slice (some ⟨rb,o,none⟩) b n) w:=by
   rcases V0g C (w:=w) hhi hb with⟨rfl,rfl,rfl⟩|⟨k,n,rfl,_,h3,h4,rfl,hrh⟩<;>
    simp[Instr.sliceAt,run_underlying hu,Instr.sureAddr,Instr.sliceBounds,hsize,Addr.add, *]
  refine⟨_,hrun,?_⟩
  rw[V0d rfl]
  simp only[FR]
  simp only[tgt]at h2
  cases hi:h j with
  |none=>simp[hi]at h2
  |some obj=>
   cases obj<;>simp[hi]at h2
   have hl0:=(r.live j _ _ hi hμ).1.1
   have hsub:=CV.sub_at p _ _ h2
   rw[hl0,hsh]at hsub
   refine⟨⟨rb,sh0,List.replicate n she,o,n,by simp[Shape.sizes],⟨tot,hμ,fun hp _=>⟨by simp,she.size,fun x hx=>by rw[List.eq_of_mem_replicate hx],?_⟩⟩,hsub,ho,hb',by simpa using hb'⟩,by simp⟩
   subst hp
   obtain⟨⟨hs1,⟨arr,ee,cs,junk,hh,hj,hz,hf⟩,_⟩,_⟩:=r.live j _ _ hi hμ
   have hlen:=FR.length _ _ hf
   simp only[Shape.sub,Option.some.injEq]at hsub
   rw[CV.size,hs1,hsub]at hlen
   have h2:=V0e n n she (Nat.le_refl _)
   simp only[List.take_replicate,Nat.min_self]at h2
   simp only[Shape.size,h2]at hlen
   rw[<- hz,<- Array.length_toList,hj,List.length_append,hlen]
   exact Nat.le_add_right _ _
end ops
end Go.Cl
end
section
namespace Go.Cl
open Go.RowKit
section ops
variable (C:Ctx)
def qmake(t:TypeId)(l c:CV): Option CV:=
 match C.tt t,l,c with
 |some ⟨.base (.slice e),_,_,_⟩,.sc (.int .i64 n),.sc (.int .i64 m)=>
  match C.tt e with
  |some te=>if n=m/\0<=n/\n<=9223372036854775807/\te.sh.size≠0/\te.bytes*n.toNat<=281474976710656 then some (.lst .exact (List.replicate n.toNat te.zero))else none
  |none=>none
 |_,_,_=>none
theorem Z0p{P:Program}{w:World}{t e:TypeId}{i:TypeInfo}{z:Value}{n:Int}(hu:P.underlying t=some (.slice e))(hi:P.info? e=some i)(hz:i.zero=some z)(hs:i.size=z.cells.size)
  (h0:0<=n) (hn:n<=9223372036854775807) (hb:i.bytes*n.toNat<=281474976710656):
  (Instr.makeSlice t (.int .i64 n) (.int .i64 n)).run P w=.ok (.slice (some ⟨w.heap.size,0,none⟩) n.toNat n.toNat) (w.alloc (.cells (List.replicate n.toNat z.cells.toList).flatten.toArray e)):=by
 have hw:IntKind.i64.wrap n=n:=by
  have:(IntKind.i64.wrap n:Int)=n:=by
   unfold IntKind.wrap
   simp[IntKind.bits,IntKind.signed]
   omega
  exact this
 have hb':¬((281474976710656:Int) < ↑i.bytes*n):=by
  have:((i.bytes*n.toNat:Nat):Int) = ↑i.bytes*n:=by rw[Int.natCast_mul,Int.toNat_of_nonneg h0]
  omega
 have hr:=Z0w z.cells n.toNat
 have harr:(Array.range (n.toNat*z.cells.size)).map (fun i=>z.cells[i % z.cells.size]!)=(List.replicate n.toNat z.cells.toList).flatten.toArray:=by
  apply Array.ext';rw[hr]
 by_cases hnn:n.toNat*z.cells.size=0
 ·have hnil:(List.replicate n.toNat z.cells.toList).flatten.toArray=#[]:=by rw[<- harr,hnn];simp[Array.range]
  have h1:¬n<0:=by omega
  simp[Instr.makeSlice,run_underlying hu,asInt,asIntOf,typeInfo,sizeOf,hi,hw,h1,hb',hs,hnn,newRow,hnil,show ∀f:Nat->Value,Array.map f (Array.range 0)=#[] from fun _=>by simp[Array.range]]
 ·have h1:¬n<0:=by omega
  simp[Instr.makeSlice,run_underlying hu,asInt,asIntOf,typeInfo,sizeOf,hi,hw,h1,hb',hs,hnn,newRow,Z0j hi hz,harr]
theorem Z1f{w0:World}{B:Nat}{S:St}{h:Heap}{w:World}(r:R w0 B S h w){t:TypeId}{l c v:CV}{x y:Value}(hl:VR S l x)(hc:VR S c y)(hv:qmake C t l c=some v):
  QSound C w0 B S h w v (Instr.makeSlice t x y):=by
 unfold qmake at hv
 split at hv<;>try(cases hv;done)
 rename_i e sh by_ ze n m h1
 split at hv<;>try(cases hv;done)
 rename_i te h2
 split at hv<;>try(cases hv;done)
 rename_i hc0
 obtain⟨rfl,h0,hn,hnz,hb⟩:=hc0
 cases hv
 obtain⟨rfl,_⟩:=VR_sc.1 hl
 obtain⟨rfl,_⟩:=VR_sc.1 hc
 have hte:=C.htt _ _ h2
 obtain⟨i,z,hi,hisz,hby,hz,hfz⟩:=hte.info
 have hFz:FR S te.zero z.cells.toList:=V0k _ _ hfz
 have hzs:z.cells.size=te.sh.size:=by rw[<- Array.length_toList,FR.length _ _ hFz,CV.size,hte.zsh]
 obtain⟨hle,hr',hlies⟩:=r.know (List.replicate n.toNat z.cells.toList).flatten.toArray e
 refine⟨_,_,_,Z0p (C.htt _ _ h1).d.1 hi hz (by rw[hisz,hzs]) h0 hn (by rw[hby];exact hb),hle,rfl,rfl,hr',?_⟩
 rw[V0d rfl]
 simp only[FR]
 refine⟨.inr ⟨w.heap.size,0,n.toNat,te.sh.size,_,by simp,by simp,Y0i (FR.mono hle _ _ hFz) _,by simpa using hlies,?_,by simp[Tail.fits]⟩,by simp⟩
 intro x hx
 rw[List.eq_of_mem_replicate hx,CV.size,hte.zsh]
def qlen(h:Heap)(t:TypeId)(x:CV): Option CV:=
 match C.tt t,x with
 |some ⟨.base .string,_,_,_⟩,.sc (.string s)=>some (.sc (.int .i64 s.size))
 |some ⟨.base (.slice _),_,_,_⟩,.lst _ l=>some (.sc (.int .i64 l.length))
 |some ⟨.base (.slice _),_,_,_⟩,.slc _ _ _ n=>some (.sc (.int .i64 n))
 |some ⟨.base (.map _ _),_,_,_⟩,.sc (.map none)=>some (.sc (.int .i64 0))
 |some ⟨.base (.map _ _),_,_,_⟩,.mapr i=>match h i with
  |some (.map l)=>some (.sc (.int .i64 l.length))
  |_=>none
 |_,_=>none
theorem qlen_sound{w0:World}{B:Nat}{S:St}{h:Heap}{w:World}(r:R w0 B S h w){t ty:TypeId}{ts:Array TypeId}(hts:ts[0]?=some t){x v:CV}{y:Value}(hx:VR S x y)(hv:qlen C h t x=some v):
  ∃z,(Builtin.len_ ts ty #[y]).run C.P w=.ok z w/\VR S v z:=by
 unfold qlen at hv
 split at hv<;>try(cases hv;done)
 ·rename_i sh by_ ze s h1
  have hu:=(C.htt _ _ h1).d.1
  cases hv
  obtain⟨rfl,_⟩:=VR_sc.1 hx
  exact⟨_,by simp[Builtin.len_,hts,run_underlying hu,goInt],VR_sc.2 ⟨rfl,rfl⟩⟩
 ·rename_i e sh by_ ze tl l h1
  have hu:=(C.htt _ _ h1).d.1
  cases hv
  rw[V0d rfl]at hx
  simp only[FR]at hx
  obtain⟨hx,_⟩:=hx
  refine⟨.int .i64 l.length,?_,VR_sc.2 ⟨rfl,rfl⟩⟩
  rcases hx with⟨rfl,_,_,hx⟩|⟨bb,off,cap,sz,es,hx,_⟩<;>cases hx<;>simp[Builtin.len_,hts,run_underlying hu,goInt]
 ·rename_i e sh by_ ze i p o n h1
  have hu:=(C.htt _ _ h1).d.1
  cases hv
  rw[V0d rfl]at hx
  simp only[FR]at hx
  obtain⟨⟨rb,sh,l,o',cap,hx,_⟩,_⟩:=hx
  cases hx
  exact⟨_,by simp[Builtin.len_,hts,run_underlying hu,goInt],VR_sc.2 ⟨rfl,rfl⟩⟩
 ·rename_i k e sh by_ ze h1
  have hu:=(C.htt _ _ h1).d.1
  cases hv
  obtain⟨rfl,_⟩:=VR_sc.1 hx
  exact⟨_,by simp[Builtin.len_,hts,run_underlying hu,goInt],VR_sc.2 ⟨rfl,rfl⟩⟩
 ·rename_i k e sh by_ ze i h1
  have hu:=(C.htt _ _ h1).d.1
  cases hi:h i with
  |none=>simp[hi]at hv
  |some obj=>
   cases obj<;>simp[hi]at hv
   subst hv
   rename_i l
   rw[V0d rfl]at hx
   simp only[FR]at hx
   obtain⟨⟨rb,hx,hμ⟩,_⟩:=hx
   cases hx
   obtain⟨⟨⟨es,clock,hh,hent⟩,_⟩,_⟩:=r.live i _ _ hi hμ
   refine⟨.int .i64 l.length,?_,VR_sc.2 ⟨rfl,rfl⟩⟩
   have hrun:(getObj rb).run C.P w=.ok (.map es clock) w:=by simp[getObj,Sem.run,hh]
   have hl:=hent.1
   simp[Builtin.len_,hts,run_underlying hu,goInt,hrun,hl]
def qminmax(mx:Bool): List CV->Option CV
 |[.sc (.int k a),.sc (.int _ b)]=>some (.sc (.int k (if mx then(if b>a then b else a) else(if b<a then b else a))))
 |[.sc (.float k a),.sc (.float _ b)]=>
  match k.format.order a b with
  |none=>none
  |some .lt=>some (.sc (.float k (if mx then b else a)))
  |some .gt=>some (.sc (.float k (if mx then a else b)))
  |some .eq=>some (.sc (.float k (if(k.decode a).neg then(if mx then b else a) else(if mx then a else b))))
 |[.sc (.int k a),.sc (.int _ b),.sc (.int _ c)]=>
  let d:=if mx then(if b>a then b else a) else(if b<a then b else a)
  some (.sc (.int k (if mx then(if c>d then c else d) else(if c<d then c else d))))
 |_=>none
theorem Z02{S:St}{w:World}{mx:Bool}{l:List CV}{vs:List Value}{v:CV}(ts:Array TypeId)(t:TypeId)(hl:VRs S l vs)(hv:qminmax mx l=some v):
  ∃y,(if mx then Builtin.max_ ts t vs.toArray else Builtin.min_ ts t vs.toArray).run C.P w=.ok y w/\VR S v y:=by
 unfold qminmax at hv
 split at hv<;>try(cases hv;done)
 ·rename_i k a k' b
  cases hv
  cases vs with
  |nil=>simp[VRs]at hl
  |cons x vs=>
   rw[V0f]at hl
   cases vs with
   |nil=>simp[VRs]at hl
   |cons y vs=>
    rw[V0f]at hl
    obtain⟨h1,h2,h3⟩:=hl
    obtain⟨rfl,_⟩:=VR_sc.1 h1
    obtain⟨rfl,_⟩:=VR_sc.1 h2
    simp only[VRs]at h3;subst h3
    cases mx
    ·exact⟨_,by simp[Builtin.min_,Builtin.min2],VR_sc.2 ⟨rfl,rfl⟩⟩
    ·exact⟨_,by simp[Builtin.max_,Builtin.max2],VR_sc.2 ⟨rfl,rfl⟩⟩
 ·rename_i k a k' b
  cases vs with
  |nil=>simp[VRs]at hl
  |cons x vs=>
   rw[V0f]at hl
   cases vs with
   |nil=>simp[VRs]at hl
   |cons y vs=>
    rw[V0f]at hl
    obtain⟨h1,h2,h3⟩:=hl
    obtain⟨rfl,_⟩:=VR_sc.1 h1
    obtain⟨rfl,_⟩:=VR_sc.1 h2
    simp only[VRs]at h3;subst h3
    cases ho:k.format.order a b with
    |none=>simp[ho]at hv
    |some o=>
     cases o<;>simp only[ho,Option.some.injEq]at hv<;>subst hv<;>cases mx
     ·exact⟨_,by simp[Builtin.min_,Builtin.min2,ho],VR_sc.2 ⟨rfl,rfl⟩⟩
     ·exact⟨_,by simp[Builtin.max_,Builtin.max2,ho],VR_sc.2 ⟨rfl,rfl⟩⟩
     ·exact⟨_,by simp[Builtin.min_,Builtin.min2,ho],VR_sc.2 ⟨rfl,rfl⟩⟩
     ·exact⟨_,by simp[Builtin.max_,Builtin.max2,ho],VR_sc.2 ⟨rfl,rfl⟩⟩
     ·exact⟨_,by simp[Builtin.min_,Builtin.min2,ho],VR_sc.2 ⟨rfl,rfl⟩⟩
     ·exact⟨_,by simp[Builtin.max_,Builtin.max2,ho],VR_sc.2 ⟨rfl,rfl⟩⟩
 ·rename_i k a k' b k'' c
  cases hv
  cases vs with
  |nil=>simp[VRs]at hl
  |cons x vs=>
   rw[V0f]at hl
   cases vs with
   |nil=>simp[VRs]at hl
   |cons y vs=>
    rw[V0f]at hl
    cases vs with
    |nil=>simp[VRs]at hl
    |cons z vs=>
     rw[V0f]at hl
     obtain⟨h1,h2,h3,h4⟩:=hl
     obtain⟨rfl,_⟩:=VR_sc.1 h1
     obtain⟨rfl,_⟩:=VR_sc.1 h2
     obtain⟨rfl,_⟩:=VR_sc.1 h3
     simp only[VRs]at h4;subst h4
     cases mx
     ·exact⟨_,by simp[Builtin.min_,Builtin.min2],VR_sc.2 ⟨rfl,rfl⟩⟩
     ·exact⟨_,by simp[Builtin.max_,Builtin.max2],VR_sc.2 ⟨rfl,rfl⟩⟩
end ops
end Go.Cl
end
section
namespace Go.Cl
open Go.RowKit
section ops
variable (C:Ctx)
def qun(op:UnOp): CV->Option CV
 |.sc (.bool b)=>match op with
  |.not=>some (.sc (.bool (!b)))
  |_=>none
 |.sc (.int k n)=>match op with
  |.neg=>some (.sc (.int k (k.wrap (0-n))))
  |_=>none
 |.sc (.float k b)=>match op with
  |.neg=>some (.sc (.float k (Op.negFloat k b)))
  |_=>none
 |_=>none
theorem qun_sound{S:St}{w:World}{op:UnOp}{x v:CV}{y:Value}(hx:VR S x y)(hv:qun op x=some v): ∃z,(Op.unary op y).run C.P w=.ok z w/\VR S v z:=by
 unfold qun at hv
 split at hv<;>try(cases hv;done)
 all_goals
  split at hv<;>try(cases hv;done)
  cases hv
  obtain⟨rfl,_⟩:=VR_sc.1 hx
  exact⟨_,rfl,VR_sc.2 ⟨rfl,rfl⟩⟩
def qconv(s d:TypeId)(x:CV): Option CV:=
 match C.tt s,C.tt d,x with
 |some ⟨.base us,_,_,_⟩,some ⟨.base (.int k),_,_,_⟩,.sc (.int _ n)=>match us with
  |.int _=>some (.sc (.int k (k.wrap n)))
  |_=>none
 |some ⟨.base us,_,_,_⟩,some ⟨.base (.float k),_,_,_⟩,.sc (.int _ n)=>match us with
  |.int _=>some (.sc (.float k (k.nearest n)))
  |_=>none
 |some ⟨.base us,_,_,_⟩,some ⟨.base .string,_,_,_⟩,.sc (.string b)=>match us with
  |.string=>some (.sc (.string b))
  |_=>none
 |_,_,_=>none
theorem Y1b{S:St}{w:World}{s d:TypeId}{x v:CV}{y:Value}(hx:VR S x y)(hv:qconv C s d x=some v): ∃z,(convert s d y).run C.P w=.ok z w/\VR S v z:=by
 unfold qconv at hv
 split at hv<;>try(cases hv;done)
 all_goals
  rename_i h1 h2
  split at hv<;>try(cases hv;done)
  cases hv
  obtain⟨rfl,_⟩:=VR_sc.1 hx
  have hu1:=(C.htt _ _ h1).d.1
  have hu2:=(C.htt _ _ h2).d.1
  exact⟨_,by simp only[convert,Sem.run_bind,run_underlying hu1,run_underlying hu2,Result.andThen_ok];rfl,VR_sc.2 ⟨rfl,rfl⟩⟩
def qfloat(op:BinOp)(k:FloatKind)(a b:Nat): Option CV:=
 match op with
 |.add=>(k.format.add a b).map fun r=>.sc (.float k r)
 |.sub=>(k.format.sub a b).map fun r=>.sc (.float k r)
 |.mul=>(k.format.mul a b).map fun r=>.sc (.float k r)
 |.quo=>(k.format.div a b).map fun r=>.sc (.float k r)
 |.eql=>some (.sc (.bool (k.format.order a b==some .eq)))
 |.neq=>some (.sc (.bool (k.format.order a b != some .eq)))
 |.lss=>some (.sc (.bool (k.format.order a b==some .lt)))
 |.leq=>some (.sc (.bool (k.format.order a b==some .lt || k.format.order a b==some .eq)))
 |.gtr=>some (.sc (.bool (k.format.order a b==some .gt)))
 |.geq=>some (.sc (.bool (k.format.order a b==some .gt || k.format.order a b==some .eq)))
 |_=>none
theorem qfloat_sound{S:St}{op:BinOp}{k:FloatKind}{a b:Nat}{v:CV}(t:TypeId)(w:World)(h:qfloat op k a b=some v):
  ∃y,(binOp op t (.float k a) (.float k b)).run C.P w=.ok y w/\VR S v y:=by
 cases op<;>simp only[qfloat]at h<;>(try(cases h;done))<;>simp only[binOp,ne_eq,not_true,if_false]
 case add=>cases hr:k.format.add a b with
  |none=>simp[hr]at h
  |some r=>simp[hr]at h;subst h;exact⟨_,by simp only[Op.floatArith,Sem.run_bind,Sem.run_pure,Result.andThen_ok,hr],VR_sc.2 ⟨rfl,rfl⟩⟩
 case sub=>cases hr:k.format.sub a b with
  |none=>simp[hr]at h
  |some r=>simp[hr]at h;subst h;exact⟨_,by simp only[Op.floatArith,Sem.run_bind,Sem.run_pure,Result.andThen_ok,hr],VR_sc.2 ⟨rfl,rfl⟩⟩
 case mul=>cases hr:k.format.mul a b with
  |none=>simp[hr]at h
  |some r=>simp[hr]at h;subst h;exact⟨_,by simp only[Op.floatArith,Sem.run_bind,Sem.run_pure,Result.andThen_ok,hr],VR_sc.2 ⟨rfl,rfl⟩⟩
 case quo=>cases hr:k.format.div a b with
  |none=>simp[hr]at h
  |some r=>simp[hr]at h;subst h;exact⟨_,by simp only[Op.floatArith,Sem.run_bind,Sem.run_pure,Result.andThen_ok,hr],VR_sc.2 ⟨rfl,rfl⟩⟩
 all_goals(cases h;exact⟨_,rfl,VR_sc.2 ⟨rfl,rfl⟩⟩)
def eqRes(op:BinOp)(r:Bool): Option CV:=
 match op with
 |.eql=>some (.sc (.bool r))
 |.neq=>some (.sc (.bool (!r)))
 |_=>none
def qbin(op:BinOp)(t:TypeId)(cy:Bool)(x y:CV): Option CV:=
 match x,y with
 |.sc (.int k a),.sc (.int k' b)=>
  match op with
  |.shl|.shr=>qshift op k a b
  |_=>if k=k' then qnum op k a b else none
 |.sc (.float k a),.sc (.float k' b)=>if k=k' then qfloat op k a b else none
 |.sc (.bool a),.sc (.bool b)=>
  match C.tt t,op with
  |some ⟨.base .bool,_,_,_⟩,.eql=>some (.sc (.bool (decide (a=b))))
  |some ⟨.base .bool,_,_,_⟩,.neq=>some (.sc (.bool (!decide (a=b))))
  |_,_=>none
 |.sc (.string a),.sc (.string b)=>
  match op with
  |.eql=>some (.sc (.bool (a.toList==b.toList)))
  |.neq=>some (.sc (.bool (!(a.toList==b.toList))))
  |.add=>if a.size+b.size<=9223372036854775807 then some (.sc (.string (a++b)))else none
  |_=>none
 |.agg _,.agg _=>
  match op with
  |.eql=>(eqCV C 12 t x y).map fun r=>.sc (.bool r)
  |.neq=>(eqCV C 12 t x y).map fun r=>.sc (.bool (!r))
  |_=>none
 |.sc .nilIface,.sc .nilIface=>
  match C.tt t,cy with
  |some ⟨.base (.interface _),_,_,_⟩,true=>eqRes op true
  |_,_=>none
 |.ifc _ _,.sc .nilIface=>
  match C.tt t with
  |some ⟨.base (.interface _),_,_,_⟩=>eqRes op false
  |_=>none
 |.sc .nilFunc,.sc .nilFunc=>
  match C.tt t with
  |some ⟨.base (.func _ _ _),_,_,_⟩=>eqRes op true
  |_=>none
 |.fn _ _ _,.sc .nilFunc=>
  match C.tt t with
  |some ⟨.base (.func _ _ _),_,_,_⟩=>eqRes op false
  |_=>none
 |.sc (.pointer none),.sc (.pointer none)=>
  match C.tt t with
  |some ⟨.base (.pointer _),_,_,_⟩=>eqRes op true
  |_=>none
 |.ptr _ _,.sc (.pointer none)=>
  match C.tt t with
  |some ⟨.base (.pointer _),_,_,_⟩=>eqRes op false
  |_=>none
 |.rptr _,.sc (.pointer none)=>
  match C.tt t with
  |some ⟨.base (.pointer _),_,_,_⟩=>eqRes op false
  |_=>none
 |_,_=>none
theorem Y0g{P:Program}{w:World}{op:BinOp}{t:TypeId}{x y:Operand}{a b:Value}(h1:a≠.nilIface\/b≠.nilIface)(h2:(∀c,a≠.agg c)\/(∀c,b≠.agg c)): (eqGuard op t x y a b).run P w=.ok () w:=by
 unfold eqGuard
 cases op<;>cases a<;>cases b<;>simp_all
def nilPair(u:TypeDesc)(a b:Value)(r:Bool): Prop:=
 match u,a,b with
 |.interface _,.nilIface,.nilIface=>r=true
 |.interface _,.iface _ _,.nilIface=>r=false
 |.func _ _ _,.nilFunc,.nilFunc=>r=true
 |.func _ _ _,.func _ _ _,.nilFunc=>r=false
 |.pointer _,.pointer none,.pointer none=>r=true
 |.pointer _,.pointer (some _),.pointer none=>r=false
 |_,_,_=>False
theorem nilEqIn{t:TypeId}{u:TypeDesc}{a b:Value}{r:Bool}(hu:C.P.underlying t=some u)(h:nilPair u a b r)(d:Nat)(w:World): (Op.equalIn (d+1) t a b).run C.P w=.ok r w:=by
 unfold nilPair at h
 split at h<;>try(exact h.elim)
 all_goals(subst h;simp[Op.equalIn,run_underlying hu])
theorem nilEq{t:TypeId}{u:TypeDesc}{a b:Value}{r:Bool}(hu:C.P.underlying t=some u)(h:nilPair u a b r)(w:World): (Op.equal t a b).run C.P w=.ok r w:=nilEqIn C hu h 9999 w
theorem Z0l{S:St}{w:World}{op:BinOp}{t:TypeId}{ox oy:Operand}{v:CV}{a b:Value}{r:Bool}(hv:eqRes op r=some v)(hg:(eqGuard op t ox oy a b).run C.P w=.ok () w)(he:(Op.equal t a b).run C.P w=.ok r w)
  (h1:binOp .eql t a b=(do pure (.bool (<- Op.equal t a b)))) (h2:binOp .neq t a b=(do pure (.bool (!(<- Op.equal t a b))))):
  ∃z,(do eqGuard op t ox oy a b;binOp op t a b:Sem Value).run C.P w=.ok z w/\VR S v z:=by
 cases op<;>simp only[eqRes]at hv<;>(try(cases hv;done))<;>cases hv
 ·exact⟨.bool r,by simp only[Sem.run_bind,hg,Result.andThen_ok,h1,he,Sem.run_pure],VR_sc.2 ⟨rfl,rfl⟩⟩
 ·exact⟨.bool (!r),by simp only[Sem.run_bind,hg,Result.andThen_ok,h2,he,Sem.run_pure],VR_sc.2 ⟨rfl,rfl⟩⟩
def isConstOpd: Operand->Bool
 |.const _=>true
 |_=>false
theorem qbin_sound{S:St}{w:World}{op:BinOp}{t:TypeId}{ox oy:Operand}{x y v:CV}{a b:Value}(hx:VR S x a)(hy:VR S y b)(hv:qbin C op t (isConstOpd oy) x y=some v):
  ∃z,(do eqGuard op t ox oy a b;binOp op t a b:Sem Value).run C.P w=.ok z w/\VR S v z:=by
 unfold qbin at hv
 split at hv<;>try(cases hv;done)
 ·rename_i k p k' q
  obtain⟨rfl,_⟩:=VR_sc.1 hx
  obtain⟨rfl,_⟩:=VR_sc.1 hy
  have hg:(eqGuard op t ox oy (.int k p) (.int k' q)).run C.P w=.ok () w:=Y0g (by simp) (by simp)
  simp only[Sem.run_bind,hg,Result.andThen_ok]
  split at hv
  ·exact K08 C t w (.inl rfl) hv
  ·exact K08 C t w (.inr rfl) hv
  ·rename_i h1 h2
   split at hv<;>try(cases hv;done)
   rename_i hk;subst hk
   exact qnum_sound C t w ⟨fun e=>h1 e,fun e=>h2 e⟩ hv
 ·rename_i k p k' q
  obtain⟨rfl,_⟩:=VR_sc.1 hx
  obtain⟨rfl,_⟩:=VR_sc.1 hy
  have hg:(eqGuard op t ox oy (.float k p) (.float k' q)).run C.P w=.ok () w:=Y0g (by simp) (by simp)
  simp only[Sem.run_bind,hg,Result.andThen_ok]
  split at hv<;>try(cases hv;done)
  rename_i hk;subst hk
  exact qfloat_sound C t w hv
 ·rename_i p q
  obtain⟨rfl,_⟩:=VR_sc.1 hx
  obtain⟨rfl,_⟩:=VR_sc.1 hy
  have hg:(eqGuard op t ox oy (.bool p) (.bool q)).run C.P w=.ok () w:=Y0g (by simp) (by simp)
  simp only[Sem.run_bind,hg,Result.andThen_ok]
  split at hv<;>try(cases hv;done)
  ·rename_i h1
   cases hv
   have hu:=(C.htt _ _ h1).d.1
   exact⟨_,by simp only[binOp,Op.equal,Op.maxDepth,Sem.run_bind,run_equalIn_bool w 9999 t p q hu,Result.andThen_ok,Sem.run_pure];rfl,VR_sc.2 ⟨rfl,rfl⟩⟩
  ·rename_i h1
   cases hv
   have hu:=(C.htt _ _ h1).d.1
   exact⟨_,by simp only[binOp,Op.equal,Op.maxDepth,Sem.run_bind,run_equalIn_bool w 9999 t p q hu,Result.andThen_ok,Sem.run_pure];rfl,VR_sc.2 ⟨rfl,rfl⟩⟩
 ·rename_i p q
  obtain⟨rfl,_⟩:=VR_sc.1 hx
  obtain⟨rfl,_⟩:=VR_sc.1 hy
  have hg:(eqGuard op t ox oy (.string p) (.string q)).run C.P w=.ok () w:=Y0g (by simp) (by simp)
  simp only[Sem.run_bind,hg,Result.andThen_ok]
  split at hv<;>try(cases hv;done)
  ·cases hv;exact⟨_,rfl,VR_sc.2 ⟨rfl,rfl⟩⟩
  ·cases hv;exact⟨_,rfl,VR_sc.2 ⟨rfl,rfl⟩⟩
  ·split at hv<;>try(cases hv;done)
   rename_i hsz
   cases hv
   refine⟨.string (p++q),?_,VR_sc.2 ⟨rfl,rfl⟩⟩
   have:¬(((p.size+q.size:Nat):Int)>IntKind.i64.max):=by
    have:IntKind.i64.max=9223372036854775807:=by decide
    rw[this];omega
   simp only[binOp,Op.stringOp,if_neg this,Sem.run_pure]
 ·rename_i l m
  obtain⟨cx,rfl,_⟩:=K0v.1 hx
  obtain⟨cy,rfl,_⟩:=K0v.1 hy
  have key:∀r,eqCV C 12 t (.agg l) (.agg m)=some r->(eqGuard op t ox oy (.agg cx) (.agg cy)).run C.P w=.ok () w/\(Op.equalIn 10000 t (.agg cx) (.agg cy)).run C.P w=.ok r w:=fun r hr=>by
   obtain⟨ti,hti,hs,_⟩:=Y05 C _ _ _ _ _ hr
   refine⟨run_eqGuard_agg w op t ox oy cx cy ?_,Z1n C 12 10000 (by omega) S t _ _ _ _ r w hr hx hy⟩
   have hd:=(C.htt _ _ hti).d
   cases hk:ti.d with
   |base u=>rw[hk]at hd;rw[hd.2.2]at hs;simp[CV.shape]at hs
   |st fs=>rw[hk]at hd;obtain⟨f,shs,_,_,_,_,_,_,_,h⟩:=hd;exact h
   |ar n esz e=>rw[hk]at hd;obtain⟨she,_,_,_,_,_,h⟩:=hd;exact h
  split at hv<;>try(cases hv;done)
  ·cases hr:eqCV C 12 t (.agg l) (.agg m) with
   |none=>simp[hr]at hv
   |some r=>
    simp[hr]at hv;subst hv
    obtain⟨h1,h2⟩:=key r hr
    exact⟨_,by simp only[Sem.run_bind,h1,Result.andThen_ok,run_eql_struct,h2],VR_sc.2 ⟨rfl,rfl⟩⟩
  ·cases hr:eqCV C 12 t (.agg l) (.agg m) with
   |none=>simp[hr]at hv
   |some r=>
    simp[hr]at hv;subst hv
    obtain⟨h1,h2⟩:=key r hr
    exact⟨_,by simp only[Sem.run_bind,h1,Result.andThen_ok,run_neq_struct,h2],VR_sc.2 ⟨rfl,rfl⟩⟩
 ·obtain⟨rfl,_⟩:=VR_sc.1 hx
  obtain⟨rfl,_⟩:=VR_sc.1 hy
  split at hv<;>try(cases hv;done)
  rename_i ms sh by_ ze h1 hc
  have hu:=(C.htt _ _ h1).d.1
  refine Z0l C hv ?_ (nilEq C hu (by exact rfl) w) rfl rfl
  cases oy<;>simp[isConstOpd]at hc
  cases op<;>simp[eqGuard]
 ·rename_i tt x
  obtain⟨rfl,_⟩:=VR_sc.1 hy
  rw[V0d rfl]at hx;simp only[FR]at hx;obtain⟨⟨z,hx,_⟩,_⟩:=hx;cases hx
  split at hv<;>try(cases hv;done)
  rename_i ms sh by_ ze h1
  have hu:=(C.htt _ _ h1).d.1
  exact Z0l C hv (Y0g (by simp) (by simp)) (nilEq C hu (by exact rfl) w) rfl rfl
 ·obtain⟨rfl,_⟩:=VR_sc.1 hx
  obtain⟨rfl,_⟩:=VR_sc.1 hy
  split at hv<;>try(cases hv;done)
  rename_i h1
  have hu:=(C.htt _ _ h1).d.1
  exact Z0l C hv (Y0g (by simp) (by simp)) (nilEq C hu (by exact rfl) w) rfl rfl
 ·obtain⟨rfl,_⟩:=VR_sc.1 hy
  rw[V0d rfl]at hx;simp only[FR]at hx;obtain⟨⟨us,vs,hx,_⟩,_⟩:=hx;cases hx
  split at hv<;>try(cases hv;done)
  rename_i h1
  have hu:=(C.htt _ _ h1).d.1
  exact Z0l C hv (Y0g (by simp) (by simp)) (nilEq C hu (by exact rfl) w) rfl rfl
 ·obtain⟨rfl,_⟩:=VR_sc.1 hx
  obtain⟨rfl,_⟩:=VR_sc.1 hy
  split at hv<;>try(cases hv;done)
  rename_i h1
  have hu:=(C.htt _ _ h1).d.1
  exact Z0l C hv (Y0g (by simp) (by simp)) (nilEq C hu (by exact rfl) w) rfl rfl
 ·obtain⟨rfl,_⟩:=VR_sc.1 hy
  rw[V0d rfl]at hx;simp only[FR]at hx;obtain⟨⟨rb,sh,o,hx,_⟩,_⟩:=hx;cases hx
  split at hv<;>try(cases hv;done)
  rename_i h1
  have hu:=(C.htt _ _ h1).d.1
  exact Z0l C hv (Y0g (by simp) (by simp)) (nilEq C hu (by exact rfl) w) rfl rfl
 ·obtain⟨rfl,_⟩:=VR_sc.1 hy
  rw[V0d rfl]at hx;simp only[FR]at hx;obtain⟨⟨rb,o,es,hx,_⟩,_⟩:=hx;cases hx
  split at hv<;>try(cases hv;done)
  rename_i h1
  have hu:=(C.htt _ _ h1).d.1
  exact Z0l C hv (Y0g (by simp) (by simp)) (nilEq C hu (by exact rfl) w) rfl rfl
end ops
end Go.Cl
end
section
namespace Go.Cl
open Go.RowKit
structure St.ext(S S':St): Prop where
 le:S.le S'
 ph:∀i,i<S.n->S.μ i=none->S'.μ i=none
theorem St.ext.refl(S:St): S.ext S:=⟨St.le.refl S,fun _ _ h=>h⟩
theorem St.ext.trans{a b c:St}(h:a.ext b)(k:b.ext c): a.ext c:=
 ⟨h.le.trans k.le,fun i hi h0=>k.ph i (Nat.lt_of_lt_of_le hi h.le.n) (h.ph i hi h0)⟩
theorem St.ext_named{S:St}{i:Nat}{l:Loc}(hi:S.n<=i)(h0:S.μ i=none): S.ext (S.named i l):=
 ⟨St.le_named h0,fun j hj hn=>by
  show(if j=i then some l else S.μ j)=none
  rw[if_neg (by omega)];exact hn⟩
def St.grow(S:St)(b o:Nat)(cs:List Value): St:={S with K:=fun b' j=>if b'=b/\o<=j/\j<o+cs.length then cs[j-o]? else S.K b' j}
theorem St.le_grow{S:St}{b o:Nat}{cs:List Value}(h:∀j,o<=j->S.K b j=none): S.le (S.grow b o cs) where
 K b' j v hk:=by
  show(if b'=b/\o<=j/\j<o+cs.length then cs[j-o]? else S.K b' j)=some v
  rw[if_neg (fun⟨h1,h2,_⟩=>by rw[h1,h j h2]at hk;cases hk)];exact hk
 μ _ _ h:=h
 n:=Nat.le_refl _
theorem St.grow_lies{S:St}{b o:Nat}{cs:List Value}: (S.grow b o cs).lies b o cs:=fun j u hu=>by
 have hj:=(List.getElem?_eq_some_iff.1 hu).1
 show(if b=b/\o<=o+j/\o+j<o+cs.length then cs[o+j-o]? else S.K b (o+j))=some u
 rw[if_pos ⟨rfl,by omega,by omega⟩,Nat.add_sub_cancel_left];exact hu
theorem lies_append{S:St}{b o:Nat}{xs ys:List Value}(h:S.lies b o xs)(k:S.lies b (o+xs.length) ys): S.lies b o (xs++ys):=fun j u hu=>by
 by_cases hj:j<xs.length
 ·rw[List.getElem?_append_left hj]at hu;exact h j u hu
 ·rw[List.getElem?_append_right (by omega)]at hu
  have:=k (j-xs.length) u hu
  rw[<- this];congr 1;omega
section ops
variable (C:Ctx)
def srcOf(h:Heap)(t:TypeId)(x:CV): Option (List CV):=
 match C.tt t,x with
 |some ⟨.base (.slice _),_,_,_⟩,.lst _ l=>some l
 |some ⟨.base .string,_,_,_⟩,.sc (.string s)=>some (s.data.toList.map fun b=>.sc (.int .u8 b.toNat))
 |some ⟨.base (.slice _),_,_,_⟩,.slc i p o n=>
  match tgt h (.ptr i p) with
  |some (.agg l)=>if o+n<=l.length then some ((l.drop o).take n)else none
  |_=>none
 |_,_=>none
theorem K02{S:St}: ∀(l:List UInt8),FRs S (l.map fun b=>.sc (.int .u8 b.toNat)) (l.map fun b=>Value.int .u8 b.toNat)
 |[]=>by simp[FRs]
 |b::l=>by simp only[List.map_cons,FRs];exact⟨[_],_,rfl,by simp[FR,plain],K02 l⟩
theorem Q0w{sh:Shape}: ∀(l:List CV),(∀x∈l,x.shape=sh)->Shape.sizes (CV.shapes l)=l.length*sh.size
 |[],_=>by simp[CV.shapes,Shape.sizes]
 |x::l,h=>by simp[CV.shapes,Shape.sizes,h x (by simp),Q0w l (fun y hy=>h y (by simp[hy])),Nat.succ_mul,Nat.add_comm]
theorem V1e{sh:Shape}(hg:sh.good=true): ∀(l:List CV),(∀x∈l,x.shape=sh)->Shape.goods (CV.shapes l)=true
 |[],_=>by simp[CV.shapes,Shape.goods]
 |x::l,h=>by simp[CV.shapes,Shape.goods,h x (by simp),hg,V1e hg l (fun y hy=>h y (by simp[hy]))]
theorem Z01{w0:World}{B:Nat}{S:St}{h:Heap}{w:World}(r:R w0 B S h w){t:TypeId}{x:CV}{y:Value}{xs:List CV}{te:TI}(hte:te.sh.good=true)(hx:VR S x y)(hs:srcOf C h t x=some xs)(hsh:∀v∈xs,v.shape=te.sh):
  ∃news,FRs S xs news/\Src C.P te.sh.size t y xs.length news w:=by
 unfold srcOf at hs
 have hlen:∀news,FRs S xs news->news.length=xs.length*te.sh.size:=fun news hn=>by rw[FRs.length _ _ hn,Q0w _ hsh]
 have hone:∀news,FRs S xs news->∀u∈news,u.oneCell'=true:=fun news hn=>FRs.one _ _ hn (V1e hte _ hsh)
 split at hs<;>try(cases hs;done)
 ·rename_i e sh by_ ze tl l h1
  cases hs
  have hu:=(C.htt _ _ h1).d.1
  rw[V0d rfl]at hx;simp only[FR]at hx
  obtain⟨hx,_⟩:=hx
  rcases hx with⟨rfl,a0,_,hx⟩|⟨b,off,cap,sz,es,hx,hcap,hes,hlies,hun,_⟩
  ·have hxe:=(List.cons.inj hx).1
   refine⟨[],by simp[FRs],?_⟩
   rw[hxe]
   cases a0 with
   |none=>exact Src.ofNil w hu 0
   |some a0=>exact Src.ofSlice w hu a0 _ 0 [] (by simp) (by simp) (by simp)
  ·have hxe:=(List.cons.inj hx).1
   refine⟨es,hes,?_⟩
   rw[hxe]
   exact Src.ofSlice w hu ⟨b,off,none⟩ _ cap es (hlen es hes) (fun j u hj=>by rw[Addr.add_mid];exact r.lies hlies j u hj) (hone es hes)
 ·rename_i sh by_ ze s h1
  cases hs
  have hu:=(C.htt _ _ h1).d.1
  obtain⟨rfl,_⟩:=VR_sc.1 hx
  have hF:=K02 (S:=S) s.data.toList
  refine⟨byteCells s,hF,?_⟩
  have:=Src.ofString (P:=C.P) w hu s
  by_cases hnil:s.data.toList=[]
  ·-- no byte: the size of an element is not asked
   have hs0:s.size=0:=by
    have:s.data.size=0:=by rw[<- Array.length_toList,hnil];rfl
    exact this
   obtain⟨k1,k2,k3,k4,k5,k6⟩:=this
   have hb:byteCells s=[]:=by simp[byteCells,hnil]
   refine⟨k1,fun w'=>by rw[k2 w'];simp[hnil,hs0],?_,?_,by simp[hnil,hb],by simp[hb]⟩
   ·simp[Builtin.firstCells,hnil,hb]
   ·simp[Builtin.firstCells,hnil,hb]
  ·have hsz:te.sh.size=1:=by
    cases hd:s.data.toList with
    |nil=>exact absurd hd hnil
    |cons b l=>
     have:=hsh (.sc (.int .u8 b.toNat)) (by simp[hd])
     rw[<- this];rfl
   rw[hsz]
   have hl:(s.data.toList.map fun b=>(CV.sc (.int .u8 b.toNat))).length=s.size:=by simp
   rw[hl];exact this
 ·rename_i e sh by_ ze i p o n h1
  split at hs<;>try(cases hs;done)
  rename_i l h2
  split at hs<;>try(cases hs;done)
  rename_i hon
  cases hs
  have hu:=(C.htt _ _ h1).d.1
  rw[V0d rfl]at hx;simp only[FR]at hx
  obtain⟨⟨rb,sh0,l0,o0,cap,hx,⟨tot,hμ,_⟩,hsub0,ho,hcap,hol⟩,_⟩:=hx
  have hxe:=(List.cons.inj hx).1
  simp only[tgt]at h2
  cases hi:h i with
  |none=>simp[hi]at h2
  |some obj=>
   cases obj<;>simp[hi]at h2
   obtain⟨c,hc,hr⟩:=r.load hi hμ h2 ho
   simp only[FR]at hc
   have hl0:=(r.live i _ _ hi hμ).1.1
   have hsub:=CV.sub_at p _ _ h2
   rw[hl0,hsub0]at hsub
   simp only[CV.shape,Option.some.injEq,Shape.n.injEq]at hsub
   obtain⟨a,b,rfl,h3,h4,h5⟩:=V0r l o c hc
   obtain⟨a2,b2,rfl,h6,h7,h8⟩:=V0r (l.drop o) n b h4
   have hlen':((l.drop o).take n).length=n:=by simp;omega
   refine⟨a2,h6,?_⟩
   rw[hxe,hlen']
   subst hsub
   refine Src.ofSlice w hu _ n cap a2 (by rw[hlen a2 h6,hlen']) (fun j u hj=>?_) (hone a2 h6)
   rw[Addr.add_mid]
   have:=hr (a.length+j) u (by
    rw[List.getElem?_append_right (by omega),Nat.add_sub_cancel_left,List.getElem?_append_left (by have:=(List.getElem?_eq_some_iff.1 hj).1;omega)]
    exact hj)
   rw[<- this,h5,Nat.add_assoc]
end ops
end Go.Cl
end
section
namespace Go.Cl
open Go.RowKit
theorem lies_prefix{S:St}{b o:Nat}{xs ys:List Value}(h:S.lies b o (xs++ys)): S.lies b o xs:=fun j u hu=>h j u (by rw[List.getElem?_append_left (List.getElem?_eq_some_iff.1 hu).1];exact hu)
theorem St.named_ne{S:St}{i j:Nat}{l:Loc}(h:j≠i): (S.named i l).μ j=S.μ j:=if_neg h
theorem R.tailed{w0:World}{B:Nat}{S S1:St}{h h':Heap}{w w1:World}(r:R w0 B S h w)(hle:S.le S1)(hμ:S1.μ=S.μ)(hn:S1.n=S.n){i:Nat}(hi:S.n<=i){rb cap sz n:Nat}
  (hb:Below B w0 w1) (hsz:B<=w1.heap.size) (hk:∀b o v,S1.K b o=some v->w1.cell? ⟨b,o,none⟩=some v)
  (hi':h' i=some (.tail n)) (hh:∀j,j≠i->h' j=none\/h' j=h j) (hrb:B<=rb)
  (hlive:(∃arr e,w1.heap[rb]?=some (.cells arr e (0,0))/\arr.size=cap*sz/\n<=cap)/\∀o,n*sz<=o->S1.K rb o=none)
  (hoth:∀j obj loc,j≠i->h' j=some obj->S.μ j=some loc->loc.block≠rb/\w1.heap[loc.block]?=w.heap[loc.block]?/\∀o,S.K loc.block o=none->S1.K loc.block o=none):
  R w0 B (S1.named i (.tail rb cap sz)) h' w1:=by
 have hs:S1.le (S1.named i (.tail rb cap sz)):=St.le_named (by rw[hμ];exact(r.fresh i hi).1)
 have back:∀j obj,j≠i->h' j=some obj->h j=some obj:=fun j obj hj h1=>by
  rcases hh j hj with e|e
  ·rw[e]at h1;cases h1
  ·rw[<- e];exact h1
 refine⟨hb,hsz,hk,?_,?_,?_⟩
 ·intro j hj
  have h1:S1.n<=j:=Nat.le_trans (Nat.le_max_left _ _) hj
  have h2:j≠i:=by have:=Nat.le_trans (Nat.le_max_right S1.n (i+1)) hj;omega
  rw[hn]at h1
  refine⟨by rw[St.named_ne h2,hμ];exact(r.fresh j h1).1,?_⟩
  rcases hh j h2 with e|e
  ·exact e
  ·rw[e];exact(r.fresh j h1).2
 ·intro j obj loc h1 h2
  by_cases hj:j=i
  ·subst hj
   rw[hi']at h1;cases h1
   rw[St.named_μ]at h2;cases h2
   exact⟨hlive,hrb⟩
  ·rw[St.named_ne hj,hμ]at h2
   have k:=r.live j obj loc (back j obj hj h1) h2
   obtain⟨_,k2,k3⟩:=hoth j obj loc hj h1 h2
   exact⟨k.1.mono (hle.trans hs) k2 k3,k.2⟩
 ·intro j k oj ok lj lk hjk h1 h2 h3 h4
  by_cases hj:j=i
  ·subst hj
   have hk':=Ne.symm hjk
   rw[St.named_μ]at h3;cases h3
   rw[St.named_ne hk',hμ]at h4
   exact Ne.symm (hoth k ok lk hk' h2 h4).1
  ·rw[St.named_ne hj,hμ]at h3
   by_cases hk':k=i
   ·subst hk'
    rw[St.named_μ]at h4;cases h4
    exact(hoth j oj lj hj h1 h3).1
   ·rw[St.named_ne hk',hμ]at h4
    exact r.inj j k oj ok lj lk hjk (back j oj hj h1) (back k ok hk' h2) h3 h4
section ops
variable (C:Ctx)
structure AppArgs(w0:World)(B:Nat)(S:St)(h:Heap)(w:World)(t tx:TypeId)(te:TI)(e:TypeId)(xs:List CV)(y:Value): Prop where
 r:R w0 B S h w
 hu:C.P.underlying t=some (.slice e)
 hte:C.tt e=some te
 src:∃news,FRs S xs news/\Src C.P te.sh.size tx y xs.length news w
theorem X1d{w0:World}{B:Nat}{S:St}{h:Heap}{w:World}{t tx ty e:TypeId}{te:TI}{xs:List CV}{y:Value}(A:AppArgs C w0 B S h w t tx te e xs y){l:List CV}{base:Option Addr}{cap:Nat}{olds:List Value}
  (hol:FRs S l olds) (holn:olds.length=l.length*te.sh.size) (hold:∀j u,olds[j]?=some u->∀a,base=some a->a.spot=none/\S.K a.block (a.off+j)=some u) (hnone:base=none->l=[])
  (hg:cap<l.length+xs.length) (hfit:(l.length+xs.length)*te.bytes<=140737488355328) (h63:l.length+xs.length<=9223372036854775807):
  ∃news rest cap',FRs S xs news/\(∀x∈xs,True)/\(Builtin.append_ #[t,tx] ty #[.slice base l.length cap,y]).run C.P w =
    .ok (.slice (some ⟨w.heap.size,0,none⟩) (l.length+xs.length) cap') (w.drew.alloc (.cells ((olds++news).toArray++rest) e))/\l.length+xs.length<=cap'/\((olds++news).toArray++rest).size=cap'*te.sh.size:=by
 obtain⟨news,hnews,hsrc⟩:=A.src
 have hok:=C.htt _ _ A.hte
 obtain⟨i,z,hi,hisz,hby,hz,hfz⟩:=hok.info
 have hzs:z.cells.size=te.sh.size:=by rw[<- Array.length_toList,FR.length (S:=S) _ _ (V0k _ _ hfz),CV.size,hok.zsh]
 have hold':(Builtin.firstCells i.size l.length (.slice base l.length cap)).run C.P w.drew=.ok olds.toArray w.drew:=by
  cases base with
  |none=>
   have:l=[]:=hnone rfl
   subst this
   have:olds=[]:=by simp[FRs]at hol;exact hol
   subst this
   exact run_firstCells_none w.drew i.size _ _ cap
  |some a=>
   refine run_firstCells_some w.drew i.size _ a _ cap olds (by rw[hisz];exact holn) (fun j u hu=>?_)
   obtain⟨hsp,hk⟩:=hold j u hu a rfl
   obtain⟨b,o,s⟩:=a
   simp only at hsp hk
   subst hsp
   rw[Addr.add_mid]
   exact A.r.kcell _ _ _ hk
 have hrun:=run_append_grow_src (P:=C.P) w t tx ty e i z A.hu hi hz base l.length cap olds hold' y xs.length news (by rw[hisz];exact hsrc) hg (by omega) (by rw[hby];exact growslice_fits hg hfit)
 refine⟨news,_,_,hnews,fun _ _=>trivial,hrun,grownCap_ge _ _ _ _,?_⟩
 have hge:=grownCap_ge w (l.length+xs.length) cap e
 rw[Array.size_append,size_zeroCells,hzs]
 have hl:(olds++news).toArray.size=(l.length+xs.length)*te.sh.size:=by
  simp[holn,hsrc.newsLen,Nat.add_mul]
 rw[hl,<- Nat.add_mul]
 congr 1
 omega
def Tail.full: Tail->Bool
 |.nil|.exact=>true
 |_=>false
def qappend(h:Heap)(t tx:TypeId)(b x:CV): Option CV:=
 match C.tt t,b,srcOf C h tx x with
 |some ⟨.base (.slice e),_,_,_⟩,.lst tl l,some xs=>
  match C.tt e with
  |some te=>if tl.full=true/\(∀v∈l,v.shape=te.sh)/\(∀v∈xs,v.shape=te.sh)/\(l.length+xs.length)*te.bytes<=140737488355328/\l.length+xs.length<=9223372036854775807 then some (.lst .view (l++xs))else none
  |none=>none
 |_,_,_=>none
theorem Q1e{S:St}{tl:Tail}{l:List CV}{x:Value}{te:TI}(hx:VR S (.lst tl l) x)(hl:∀v∈l,v.shape=te.sh):
  ∃base cap olds,x=.slice base l.length cap/\l.length<=cap/\FRs S l olds/\olds.length=l.length*te.sh.size/\(∀j u,olds[j]?=some u->∀a,base=some a->a.spot=none/\S.K a.block (a.off+j)=some u)/\(base=none->l=[])/\(tl.full=true->cap=l.length) /\
   (∀id,tl=.own id->l≠[]->∃rb sz,base=some ⟨rb,0,none⟩/\S.μ id=some (.tail rb cap sz)/\sz=te.sh.size):=by
 rw[V0d rfl]at hx;simp only[FR]at hx
 obtain⟨hx,_⟩:=hx
 rcases hx with⟨rfl,a0,_,hx⟩|⟨b,off,cap,sz,es,hx,hcap,hes,hlies,hun,hf⟩
 ·have hxe:=(List.cons.inj hx).1
  exact⟨a0,0,[],by rw[hxe];rfl,by simp,by simp[FRs],by simp,by simp,fun _=>rfl,fun _=>rfl,fun _ _ h=>absurd rfl h⟩
 ·have hxe:=(List.cons.inj hx).1
  refine⟨some ⟨b,off,none⟩,cap,es,hxe,hcap,hes,by rw[FRs.length _ _ hes,Q0w _ hl],fun j u hu a ha=>by cases ha;exact⟨rfl,hlies j u hu⟩,by simp,fun h=>by
   cases tl<;>simp only[Tail.full,Bool.false_eq_true]at h
   ·exact hf.elim
   ·exact hf,?_⟩
  intro id hid hne
  subst hid
  obtain⟨h1,rfl⟩:=hf
  refine⟨b,sz,rfl,h1,?_⟩
  cases l with
  |nil=>exact absurd rfl hne
  |cons v l=>rw[<- hun v (by simp),CV.size,hl v (by simp)]
theorem Z0v{w0:World}{B:Nat}{S:St}{h:Heap}{w:World}{t tx ty e:TypeId}{te:TI}{y:Value}(A:AppArgs C w0 B S h w t tx te e [] y){base:Option Addr}{n cap:Nat}(hle:n<=cap):
  (Builtin.append_ #[t,tx] ty #[.slice base n cap,y]).run C.P w=.ok (.slice base n cap) w:=by
 obtain⟨news,hnews,hsrc⟩:=A.src
 simp only[FRs]at hnews;subst hnews
 obtain⟨i,z,hi,hisz,_⟩:=(C.htt _ _ A.hte).info
 exact run_append_nothing w t tx ty e i A.hu hi base n cap hle y (by rw[hisz];exact hsrc)
theorem VR_view{S:St}{tl:Tail}{l:List CV}{x:Value}(h:VR S (.lst tl l) x): VR S (.lst .view l) x:=by
 rw[V0d rfl]at h ⊢;simp only[FR]at h ⊢
 obtain⟨h1,h2⟩:=h
 refine⟨?_,h2⟩
 rcases h1 with h1|⟨b,off,cap,sz,es,hx,hcap,hes,hlies,hun,_⟩
 ·obtain⟨h1,a0,_,h3⟩:=h1;exact .inl ⟨h1,a0,rfl,h3⟩
 ·exact .inr ⟨b,off,cap,sz,es,hx,hcap,hes,hlies,hun,trivial⟩
theorem V1v{w0:World}{B:Nat}{S:St}{h:Heap}{w:World}(r:R w0 B S h w){t tx ty:TypeId}{b x v:CV}{b' x':Value}(hb:VR S b b')(hx:VR S x x')(hv:qappend C h t tx b x=some v):
  QSound C w0 B S h w v (Builtin.append_ #[t,tx] ty #[b',x']):=by
 unfold qappend at hv
 split at hv<;>try(cases hv;done)
 rename_i e sh by_ ze tl l xs h1 h2
 split at hv<;>try(cases hv;done)
 rename_i te h3
 split at hv<;>try(cases hv;done)
 rename_i hc
 obtain⟨hfull,hl,hxs,hfit,h63⟩:=hc
 cases hv
 have hok:=C.htt _ _ h3
 have A:AppArgs C w0 B S h w t tx te e xs x':=⟨r,(C.htt _ _ h1).d.1,h3,Z01 C r hok.good hx h2 hxs⟩
 obtain⟨base,cap,olds,rfl,hcap,hol,holn,hold,hnone,hex,_⟩:=Q1e hb hl
 have hcap':=hex hfull
 cases xs with
 |nil=>
  refine⟨_,w,S,Z0v C A hcap,St.le.refl _,rfl,rfl,r,?_⟩
  rw[List.append_nil];exact VR_view hb
 |cons z zs=>
  obtain⟨news,rest,cap',hnews,_,hrun,hge,hsize⟩:=X1d C (ty:=ty) A hol holn hold hnone (show cap<l.length+(z::zs).length by rw[hcap'];simp) hfit h63
  obtain⟨hle,hr',hlies⟩:=r.drew.know ((olds++news).toArray++rest) e
  refine⟨_,_,_,hrun,hle,rfl,rfl,hr',?_⟩
  rw[V0d rfl];simp only[FR]
  refine⟨.inr ⟨w.heap.size,0,cap',te.sh.size,olds++news,by simp,by simpa using hge,FRs.mono hle _ _ (K0l l hol hnews),?_,?_,trivial⟩,by simp⟩
  ·have:((olds++news).toArray++rest).toList=(olds++news)++rest.toList:=by simp
   rw[this]at hlies
   exact lies_prefix hlies
  ·intro u hu
   rcases List.mem_append.1 hu with hu|hu
   ·rw[CV.size,hl u hu]
   ·rw[CV.size,hxs u hu]
def appTl(h:Heap)(tl:Tail)(l xs:List CV)(K:CV->Heap->Prop): Prop:=
 match tl with
 |.nil|.exact=>∀i,h i=none->K (.lst (.own i) (l++xs)) (upd h i (some (.tail (l.length+xs.length))))
 |.own j=>l≠[]/\h j=some (.tail l.length)/\∀i,h i=none->K (.lst (.own i) (l++xs)) (upd (upd h j none) i (some (.tail (l.length+xs.length))))
 |.view=>False
 |.part=>False
def cappend(h:Heap)(t tx:TypeId)(b x:CV)(K:CV->Heap->Prop): Prop:=
 match C.tt t,b,srcOf C h tx x with
 |some ⟨.base (.slice e),_,_,_⟩,.lst tl l,some xs=>
  match C.tt e with
  |some te=>(∀v∈l,v.shape=te.sh)/\(∀v∈xs,v.shape=te.sh)/\(l.length+xs.length)*te.bytes<=140737488355328/\l.length+xs.length<=9223372036854775807 /\
   (xs=[]->K (.lst tl l) h) /\
   (xs≠[]->appTl h tl l xs K)
  |none=>False
 |_,_,_=>False
def appH(h:Heap)(tl:Tail)(i n:Nat): Heap:=
 match tl with
 |.own j=>upd (upd h j none) i (some (.tail n))
 |_=>upd h i (some (.tail n))
theorem X1k{w0:World}{B:Nat}{S:St}{h:Heap}{w:World}(r:R w0 B S h w){t tx ty:TypeId}{b x:CV}{b' x':Value}(hb:VR S b b')(hx:VR S x x'){K:CV->Heap->Prop}(hv:cappend C h t tx b x K):
  ∃y w' S' v h',(Builtin.append_ #[t,tx] ty #[b',x']).run C.P w=.ok y w'/\S.ext S'/\R w0 B S' h' w'/\VR S' v y/\K v h' /\
   ∃tl l xs,b=.lst tl l/\srcOf C h tx x=some xs/\((xs=[]/\v=.lst tl l/\h'=h/\S'.n=S.n)\/(xs≠[]/\v=.lst (.own S.n) (l++xs)/\h'=appH h tl S.n (l.length+xs.length)/\S'.n=S.n+1)):=by
 unfold cappend at hv
 split at hv<;>try(exact hv.elim)
 rename_i e sh by_ ze tl l xs h1 h2
 split at hv<;>try(exact hv.elim)
 rename_i te h3
 obtain⟨hl,hxs,hfit,h63,hk0,hk1⟩:=hv
 have hok:=C.htt _ _ h3
 have A:AppArgs C w0 B S h w t tx te e xs x':=⟨r,(C.htt _ _ h1).d.1,h3,Z01 C r hok.good hx h2 hxs⟩
 obtain⟨base,cap,olds,rfl,hcap,hol,holn,hold,hnone,hex,hown⟩:=Q1e hb hl
 by_cases hnil:xs=[]
 ·subst hnil
  exact⟨_,w,S,_,h,Z0v C A hcap,St.ext.refl _,r,hb,hk0 rfl,tl,l,[],rfl,h2,.inl ⟨rfl,rfl,rfl,rfl⟩⟩
 ·have hk1:=hk1 hnil
  have hpos:0<xs.length:=List.length_pos_iff.2 hnil
  have hsz:∀u∈l++xs,u.size=te.sh.size:=fun u hu=>by
   rcases List.mem_append.1 hu with hu|hu
   ·rw[CV.size,hl u hu]
   ·rw[CV.size,hxs u hu]
  have hfresh:=r.fresh S.n (Nat.le_refl _)
  -- a new row,and a name for its tail
  have grow:cap<l.length+xs.length->∀h':Heap,h' S.n=some (.tail (l.length+xs.length))->(∀j,j≠S.n->h' j=none\/h' j=h j)->
    ∃y w' S',(Builtin.append_ #[t,tx] ty #[.slice base l.length cap,x']).run C.P w=.ok y w'/\S.ext S'/\R w0 B S' h' w'/\VR S' (.lst (.own S.n) (l++xs)) y/\S'.n=S.n+1:=by
   intro hg h' hi' hh
   obtain⟨news,rest,cap',hnews,_,hrun,hge,hsize⟩:=X1d C (ty:=ty) A hol holn hold hnone hg hfit h63
   have hKn:∀o,S.K w.heap.size o=none:=fun o=>by
    cases hk:S.K w.heap.size o with
    |none=>rfl
    |some v=>have:=Z0h (r.kcell _ _ _ hk);omega
   have hle:=St.le_grow (S:=S) (b:=w.heap.size) (o:=0) (cs:=olds++news) (fun j _=>hKn j)
   have hnl:(olds++news).length=(l.length+xs.length)*te.sh.size:=by
    rw[List.length_append,holn,FRs.length _ _ hnews,Q0w _ hxs,Nat.add_mul]
   have hr':=R.tailed r hle rfl rfl (Nat.le_refl S.n) (rb:=w.heap.size) (cap:=cap') (sz:=te.sh.size) (n:=l.length+xs.length) (w1:=w.drew.alloc (.cells ((olds++news).toArray++rest) e)) (r.drew.below.alloc r.size _)
    (by have:=r.size;rw[show(w.drew.alloc (.cells ((olds++news).toArray++rest) e)).heap=w.heap.push (.cells ((olds++news).toArray++rest) e) from rfl,Array.size_push];omega)
    (fun b o v hk=>by
     have hk':(if b=w.heap.size/\0<=o/\o<0+(olds++news).length then(olds++news)[o-0]? else S.K b o)=some v:=hk
     clear hk
     split at hk'
     ·rename_i hc
      obtain⟨rfl,_,ho⟩:=hc
      rw[V0l (arr:=(olds++news).toArray++rest) (e:=e) (fr:=(0,0)) (by rw[show(w.drew.alloc (.cells ((olds++news).toArray++rest) e)).heap=w.heap.push (.cells ((olds++news).toArray++rest) e) from rfl];simp)]
      rw[Array.getElem?_append_left (by simpa using ho)]
      simpa using hk'
     ·have:=r.kcell b o v hk'
      rw[K0g (w:=w) (Below.heap_alloc w.drew _ b (Z0h this))];exact this)
    hi' hh r.size
    ⟨⟨_,e,by rw[show(w.drew.alloc (.cells ((olds++news).toArray++rest) e)).heap=w.heap.push (.cells ((olds++news).toArray++rest) e) from rfl];simp,hsize,hge⟩,fun o ho=>by
     show(if w.heap.size=w.heap.size/\0<=o/\o<0+(olds++news).length then _ else S.K w.heap.size o)=none
     rw[if_neg (by rw[hnl];omega)];exact hKn o⟩
    (fun j obj loc hj h1 h2=>by
     have hb:h j=some obj:=by
      rcases hh j hj with e|e
      ·rw[e]at h1;cases h1
      ·rw[<- e];exact h1
     have hlt:=(r.live j obj loc hb h2).1.lt
     refine⟨by omega,Below.heap_alloc w.drew _ _ hlt,fun o ho=>?_⟩
     show(if loc.block=w.heap.size/\0<=o/\o<0+(olds++news).length then _ else S.K loc.block o)=none
     rw[if_neg (by omega)];exact ho)
   have hext:S.ext ((S.grow w.heap.size 0 (olds++news)).named S.n (.tail w.heap.size cap' te.sh.size)):=
    St.ext.trans ⟨hle,fun _ _ h=>h⟩ (St.ext_named (Nat.le_refl _) hfresh.1)
   refine⟨_,_,_,hrun,hext,hr',?_,Nat.max_eq_right (Nat.le_succ _)⟩
   rw[V0d rfl];simp only[FR]
   refine⟨.inr ⟨w.heap.size,0,cap',te.sh.size,olds++news,by simp,by simpa using hge,FRs.mono hext.le _ _ (K0l l hol hnews),St.lies_mono (St.le_named (S:=S.grow w.heap.size 0 (olds++news)) hfresh.1) St.grow_lies,hsz,St.named_μ,rfl⟩,by simp⟩
  cases tl with
  |view=>exact hk1.elim
  |part=>exact hk1.elim
  |nil=>
   have hcap':=hex rfl
   obtain⟨y,w',S',k1,k2,k3,k4,k5⟩:=grow (by omega) _ (V0h _ _ _) (fun j hj=>.inr (X0g _ _ hj))
   exact⟨y,w',S',_,_,k1,k2,k3,k4,hk1 S.n hfresh.2,_,l,xs,rfl,h2,.inr ⟨hnil,rfl,rfl,k5⟩⟩
  |exact=>
   have hcap':=hex rfl
   obtain⟨y,w',S',k1,k2,k3,k4,k5⟩:=grow (by omega) _ (V0h _ _ _) (fun j hj=>.inr (X0g _ _ hj))
   exact⟨y,w',S',_,_,k1,k2,k3,k4,hk1 S.n hfresh.2,_,l,xs,rfl,h2,.inr ⟨hnil,rfl,rfl,k5⟩⟩
  |own id=>
   obtain⟨hne,hid,hk1⟩:=hk1
   have hidn:id≠S.n:=fun e=>by rw[e,hfresh.2]at hid;cases hid
   have hupd:∀j,j≠S.n->upd (upd h id none) S.n (some (.tail (l.length+xs.length))) j=none\/upd (upd h id none) S.n (some (.tail (l.length+xs.length))) j=h j:=fun j hj=>by
    rw[X0g _ _ hj]
    by_cases e:j=id
    ·subst e;exact .inl (V0h _ _ _)
    ·exact .inr (X0g _ _ e)
   by_cases hroom:l.length+xs.length<=cap
   ·obtain⟨rb,sz,rfl,hμ,hsze⟩:=hown id rfl hne
    obtain⟨⟨⟨arr,e',ha,hasz,hnc⟩,hKt⟩,hB⟩:=r.live id _ _ hid hμ
    simp only[Loc.block]at hB
    obtain⟨news,hnews,hsrc⟩:=A.src
    obtain⟨i,z,hi,hisz,_⟩:=hok.info
    subst hsze
    have hnl:news.length=xs.length*te.sh.size:=hsrc.newsLen
    have hcells:∀j,j<news.length->l.length*te.sh.size+j<arr.size:=fun j hj=>by
     rw[hasz]
     have:(l.length+xs.length)*te.sh.size<=cap*te.sh.size:=Nat.mul_le_mul_right _ hroom
     rw[Nat.add_mul]at this
     omega
    have hrun:=run_append_room_src (P:=C.P) w t tx ty e i A.hu hi rb 0 l.length cap x' xs.length news (by rw[hisz];exact hsrc) hroom
     (fun j hj=>by rw[hisz,V0l ha];simp;have:=hcells j hj;omega) (fun j hj=>by simp[World.frozen?,ha])
    rw[hisz]at hrun
    simp only[Nat.zero_add]at hrun
    have hle:=St.le_grow (S:=S) (b:=rb) (o:=l.length*te.sh.size) (cs:=news) (fun j hj=>hKt j hj)
    obtain⟨arr',ha',harr'⟩:=V0n (b:=rb) (e:=e') news (arr.toList.take (l.length*te.sh.size)) ((arr.toList.drop (l.length*te.sh.size)).take news.length) ((arr.toList.drop (l.length*te.sh.size)).drop news.length) w arr ha (by rw[List.append_assoc,List.take_append_drop,List.take_append_drop]) (by
     simp
     have:(l.length+xs.length)*te.sh.size<=arr.size:=by rw[hasz];exact Nat.mul_le_mul_right _ hroom
     rw[Nat.add_mul]at this
     omega)
    have htl:(arr.toList.take (l.length*te.sh.size)).length=l.length*te.sh.size:=by
     simp
     rw[hasz];exact Nat.min_eq_left (Nat.mul_le_mul_right _ hnc)
    rw[htl]at ha'
    have hr':=R.tailed r hle rfl rfl (Nat.le_refl S.n) (rb:=rb) (cap:=cap) (sz:=te.sh.size) (n:=l.length+xs.length) (h':=upd (upd h id none) S.n (some (.tail (l.length+xs.length)))) (w1:=w.setCells rb (l.length*te.sh.size) news) (Y0l hB _ _ _ r.below) (by rw[Y0m];exact r.size)
     (fun b o v hk=>by
      have hk':(if b=rb/\l.length*te.sh.size<=o/\o<l.length*te.sh.size+news.length then news[o-l.length*te.sh.size]? else S.K b o)=some v:=hk
      clear hk
      split at hk'
      ·rename_i hc
       obtain⟨rfl,ho1,ho2⟩:=hc
       have:=World.cell?_setCells_in b news (l.length*te.sh.size) w (fun j hj=>by rw[V0l ha];simp;exact hcells j hj) (o-l.length*te.sh.size) (by omega)
       rw[show l.length*te.sh.size+(o-l.length*te.sh.size)=o by omega]at this
       rw[this]
       rw[List.getElem?_eq_getElem (by omega)]at hk'
       exact hk'
      ·rename_i hc
       have:=r.kcell b o v hk'
       rw[World.cell?_setCells_out rb news (l.length*te.sh.size) w ⟨b,o,none⟩ (fun h1 _=>by simp at h1 ⊢;by_cases hlt:o<l.length*te.sh.size;exact .inl hlt;exact .inr (by have:=fun h2 h3=>hc ⟨h1,h2,h3⟩;omega))]
       exact this)
     (V0h _ _ _) hupd hB
     ⟨⟨arr',e',ha',by
      have:arr'.toList.length=arr.toList.length:=by
       rw[harr']
       simp
       have:(l.length+xs.length)*te.sh.size<=arr.size:=by rw[hasz];exact Nat.mul_le_mul_right _ hroom
       rw[Nat.add_mul]at this
       omega
      rw[Array.length_toList,Array.length_toList]at this
      rw[this,hasz],hroom⟩,fun o ho=>by
      show(if rb=rb/\l.length*te.sh.size<=o/\o<l.length*te.sh.size+news.length then _ else S.K rb o)=none
      rw[Nat.add_mul]at ho
      rw[if_neg (by omega)];exact hKt o (by omega)⟩
     (fun j obj loc hj h1 h2=>by
      rw[X0g _ _ hj]at h1
      have hji:j≠id:=fun e=>by subst e;rw[V0h]at h1;cases h1
      rw[X0g _ _ hji]at h1
      have hne':loc.block≠rb:=r.inj j id obj _ loc _ hji h1 hid h2 hμ
      refine⟨hne',Q0k hne' _ _ _,fun o ho=>?_⟩
      show(if loc.block=rb/\l.length*te.sh.size<=o/\o<l.length*te.sh.size+news.length then _ else S.K loc.block o)=none
      rw[if_neg (fun h=>hne' h.1)];exact ho)
    have hext:S.ext ((S.grow rb (l.length*te.sh.size) news).named S.n (.tail rb cap te.sh.size)):=
     St.ext.trans ⟨hle,fun _ _ h=>h⟩ (St.ext_named (Nat.le_refl _) hfresh.1)
    refine⟨_,_,_,_,_,hrun,hext,hr',?_,hk1 S.n hfresh.2,_,l,xs,rfl,h2,.inr ⟨hnil,rfl,rfl,Nat.max_eq_right (Nat.le_succ _)⟩⟩
    rw[V0d rfl];simp only[FR]
    refine⟨.inr ⟨rb,0,cap,te.sh.size,olds++news,by simp,by simpa using hroom,FRs.mono hext.le _ _ (K0l l hol hnews),?_,hsz,St.named_μ,rfl⟩,by simp⟩
    refine lies_append ?_ ?_
    ·exact St.lies_mono hext.le (fun j u hu=>by have:=(hold j u hu _ rfl).2;simpa using this)
    ·rw[holn,Nat.zero_add];exact St.lies_mono (St.le_named (S:=S.grow rb (l.length*te.sh.size) news) hfresh.1) St.grow_lies
   ·obtain⟨y,w',S',k1,k2,k3,k4,k5⟩:=grow (by omega) _ (V0h _ _ _) hupd
    exact⟨y,w',S',_,_,k1,k2,k3,k4,hk1 S.n hfresh.2,_,l,xs,rfl,h2,.inr ⟨hnil,rfl,rfl,k5⟩⟩
end ops
end Go.Cl
end
section
namespace Go.Cl
open Go.RowKit
inductive Out where
 |ret (v:CV)
 |pan (v:CV)
section ops
variable (C:Ctx)
def concrete(t:TypeId): Bool:=
 match C.tt t with
 |some ⟨.base (.interface _),_,_,_⟩=>false
 |some _=>true
 |none=>false
def qindex(t:TypeId)(x i:CV): Option CV:=
 match C.tt t,x,i with
 |some ⟨.base .string,_,_,_⟩,.sc (.string s),.sc (.int _ n)=>if 0<=n then(s[n.toNat]?).map fun b=>.sc (.int .u8 b.toNat)else none
 |some ⟨.ar cnt _ e,sh,_,_⟩,.agg l,.sc (.int _ n)=>
  match C.tt e with
  |some te=>if CV.shape (.agg l)=sh/\0<=n/\n<cnt then
    match l[n.toNat]? with
    |some v=>if v.shape=te.sh then some v else none
    |none=>none
   else none
  |none=>none
 |_,_,_=>none
def qassert(x:CV)(asserted:TypeId)(ok:Bool): Option CV:=
 match C.tt asserted,x,ok with
 |some ti,.ifc t v,true=>if concrete C asserted=true then(if t=asserted then some (.tup [v,.sc (.bool true)])else some (.tup [ti.zero,.sc (.bool false)]))else none
 |some _,.ifc t v,false=>if concrete C asserted=true/\t=asserted then some v else none
 |some ti,.sc .nilIface,true=>if concrete C asserted=true then some (.tup [ti.zero,.sc (.bool false)])else none
 |_,_,_=>none
def qbuiltin(ρ:Operand->CV)(h:Heap)(b:Builtin)(args:List Operand)(ts:List TypeId): Option CV:=
 match b,args,ts with
 |.len,[x],[t]=>qlen C h t (ρ x)
 |.min,l,_=>qminmax false (l.map ρ)
 |.max,l,_=>qminmax true (l.map ρ)
 |.append,[b,x],[t,tx]=>qappend C h t tx (ρ b) (ρ x)
 |_,_,_=>none
def qop(ρ:Operand->CV)(h:Heap): Op->Option CV
 |.move x|.assign x=>some (ρ x)
 |.pick c a b=>match ρ c with
  |.sc (.bool true)=>some (ρ a)
  |.sc (.bool false)=>some (ρ b)
  |_=>none
 |.build t ps=>qbuild C t (ps.toList.map fun p=>(p.1,ρ p.2))
 |.buildSlice t n ps=>qbuildSlice C t n (ps.toList.map fun p=>(p.1,ρ p.2))
 |.load t a=>qload C h t (ρ a)
 |.nilCheck x=>match ρ x with
  |.ptr i p=>some (.ptr i p)
  |.rptr v=>some (.rptr v)
  |_=>none
 |.binOp op t x y _=>qbin C op t (isConstOpd y) (ρ x) (ρ y)
 |.unOp op _ x=>qun op (ρ x)
 |.convert s d x=>qconv C s d (ρ x)
 |.fieldAddr s x f=>qfieldAddr C h s (ρ x) f
 |.indexAddr t x i=>qindexAddr C h t (ρ x) (ρ i)
 |.index t x i=>qindex C t (ρ x) (ρ i)
 |.slice t x lo hi mx=>qslice C h t (ρ x) (lo.map ρ) (hi.map ρ) (mx.map ρ)
 |.makeSlice t l c=>qmake C t (ρ l) (ρ c)
 |.makeInterface t x=>if concrete C t=true then some (.ifc t (ρ x))else none
 |.makeFunc (.func f) first cap=>some (.fn f (first.toList.map ρ) (cap.toList.map ρ))
 |.typeAssert x _ asserted ok=>qassert C (ρ x) asserted ok
 |.extract x i=>match ρ x with
  |.tup l=>l[i]?
  |_=>none
 |.call ⟨.builtin b,args,ts⟩=>qbuiltin C ρ h b args.toList ts.toList
 |_=>none
def QNext(w0:World)(B:Nat)(S:St)(h:Heap)(w:World)(v:CV)(s:Sem Next): Prop:=
 ∃y w' S',s.run C.P w=.ok (.value y) w'/\S.le S'/\S'.μ=S.μ/\S'.n=S.n/\R w0 B S' h w'/\VR S' v y
theorem QNext.of{w0:World}{B:Nat}{S:St}{h:Heap}{w:World}{v:CV}{s:Sem Value}(k:QSound C w0 B S h w v s): QNext C w0 B S h w v (do pure (.value (<- s))):=by
 obtain⟨y,w',S',h1,h2⟩:=k
 exact⟨y,w',S',by simp[h1],h2⟩
theorem QNext.still{w0:World}{B:Nat}{S:St}{h:Heap}{w:World}(r:R w0 B S h w){v:CV}{s:Sem Value}(k:∃y,s.run C.P w=.ok y w/\VR S v y): QNext C w0 B S h w v (do pure (.value (<- s))):=
 QNext.of C (QSound.still C r k)
theorem qindex_sound{S:St}{w:World}{t:TypeId}{x i v:CV}{a b:Value}(hx:VR S x a)(hi:VR S i b)(hv:qindex C t x i=some v): ∃y,(Instr.index t a b).run C.P w=.ok y w/\VR S v y:=by
 unfold qindex at hv
 split at hv<;>try(cases hv;done)
 ·rename_i sh by_ ze s k n h1
  obtain⟨rfl,_⟩:=VR_sc.1 hx
  obtain⟨rfl,_⟩:=VR_sc.1 hi
  have hu:=(C.htt _ _ h1).d.1
  split at hv<;>try(cases hv;done)
  rename_i h0
  cases hs:s[n.toNat]? with
  |none=>simp[hs]at hv
  |some u=>
   simp[hs]at hv;subst hv
   exact⟨_,by simp[Instr.index,asIntOf,run_underlying hu,h0,hs],VR_sc.2 ⟨rfl,rfl⟩⟩
 ·rename_i cnt esz e sh by_ ze l k n h1
  obtain⟨rfl,_⟩:=VR_sc.1 hi
  split at hv<;>try(cases hv;done)
  rename_i te h2
  split at hv<;>try(cases hv;done)
  rename_i hc
  obtain⟨hsh,h0,hn⟩:=hc
  split at hv<;>try(cases hv;done)
  rename_i u hu2
  split at hv<;>try(cases hv;done)
  rename_i hus
  cases hv
  obtain⟨she,hu,hesz,hshn,hsz,hz,_⟩:=(C.htt _ _ h1).d
  simp only at hshn
  rw[hshn]at hsh
  simp only[CV.shape,Shape.n.injEq]at hsh
  obtain⟨c,rfl,hc⟩:=K0v.1 hx
  have hsize:(sizeOf e).run C.P w=.ok esz w:=by
   cases hq:C.P.info? e with
   |none=>simp[hq]at hesz
   |some i=>simp[hq]at hesz;simp[sizeOf,typeInfo,hq,hesz]
  obtain⟨y,hy,hvr⟩:=Z04 C (w:=w) (C.htt _ _ h2) hc hu2 hus (off:=n.toNat*esz) (by rw[hsh,V0e _ _ _ (by omega),hsz])
  exact⟨y,by simp[Instr.index,asIntOf,run_underlying hu,h0,hn,hsize,hy],hvr⟩
theorem V0q{t:TypeId}(h:concrete C t=true): ∃u,C.P.underlying t=some u/\∀ms,u≠.interface ms:=by
 unfold concrete at h
 split at h
 ·cases h
 ·rename_i ti hne hti
  have hd:=(C.htt _ _ hti).d
  obtain⟨d,sh,by_,ze⟩:=ti
  cases d with
  |base u=>exact⟨u,hd.1,fun ms e=>by subst e;exact hne _ _ _ _ rfl⟩
  |st fs=>obtain⟨f,shs,h1,_⟩:=hd;exact⟨_,h1,by simp⟩
  |ar n esz e=>obtain⟨she,h1,_⟩:=hd;exact⟨_,h1,by simp⟩
 ·cases h
theorem V1a{S:St}{u v:CV}{x y:Value}(h1:VR S u x)(h2:VR S v y): VR S (.tup [u,v]) (.tuple #[x,y]):=by
 rw[V0d rfl]
 simp only[FR]
 exact⟨⟨[x,y],by simp,V0f.2 ⟨h1,V0f.2 ⟨h2,by simp[VRs]⟩⟩⟩,by simp⟩
theorem VR_zero{S:St}{t:TypeId}{ti:TI}(h:C.tt t=some ti){w:World}: ∃z,(zeroValue t).run C.P w=.ok z w/\VR S ti.zero z:=by
 have hok:=C.htt _ _ h
 obtain⟨i,z,hi,hsz,_,hz,hfz⟩:=hok.info
 have hz2:=hok.zagg
 simp[hi,hz]at hz2
 refine⟨z,Z0j hi hz w,V0k _ _ hfz,?_⟩
 rw[<- hz2]
 cases z<;>simp[aggB]
theorem K1x{S:St}{w:World}{x v:CV}{a:Value}{t asserted:TypeId}{ok:Bool}(hx:VR S x a)(hv:qassert C x asserted ok=some v): ∃y,(Instr.typeAssert a t asserted ok).run C.P w=.ok y w/\VR S v y:=by
 unfold qassert at hv
 split at hv<;>try(cases hv;done)
 ·rename_i ti tt u h1
  split at hv<;>try(cases hv;done)
  rename_i hc
  obtain⟨d,hu,hne⟩:=V0q C hc
  rw[V0d rfl]at hx;simp only[FR]at hx
  obtain⟨⟨z,hx,hz1,hz2⟩,_⟩:=hx;cases hx
  split at hv
  ·rename_i e;cases hv
   exact⟨.tuple #[z,.bool true],by cases d<;>simp_all[Instr.typeAssert,run_underlying hu],V1a ⟨hz1,hz2⟩ (VR_sc.2 ⟨rfl,rfl⟩)⟩
  ·rename_i e;cases hv
   obtain⟨zz,hzz,hvz⟩:=VR_zero C (S:=S) h1 (w:=w)
   exact⟨.tuple #[zz,.bool false],by cases d<;>simp_all[Instr.typeAssert,run_underlying hu],V1a hvz (VR_sc.2 ⟨rfl,rfl⟩)⟩
 ·rename_i ti tt u h1
  split at hv<;>try(cases hv;done)
  rename_i hc
  obtain⟨hc,rfl⟩:=hc
  cases hv
  obtain⟨d,hu,hne⟩:=V0q C hc
  rw[V0d rfl]at hx;simp only[FR]at hx
  obtain⟨⟨z,hx,hz1,hz2⟩,_⟩:=hx;cases hx
  exact⟨z,by cases d<;>simp_all[Instr.typeAssert,run_underlying hu],⟨hz1,hz2⟩⟩
 ·rename_i ti h1
  split at hv<;>try(cases hv;done)
  rename_i hc
  cases hv
  obtain⟨d,hu,hne⟩:=V0q C hc
  obtain⟨rfl,_⟩:=VR_sc.1 hx
  obtain⟨zz,hzz,hvz⟩:=VR_zero C (S:=S) h1 (w:=w)
  exact⟨.tuple #[zz,.bool false],by cases d<;>simp_all[Instr.typeAssert,run_underlying hu],V1a hvz (VR_sc.2 ⟨rfl,rfl⟩)⟩
end ops
end Go.Cl
end
section
namespace Go.Cl
open Go.RowKit
section ops
variable (C:Ctx)
theorem Z06{S:St}{ρ:Operand->CV}{ρ':Operand->Value}: ∀(l:List Operand),(∀x∈l,VR S (ρ x) (ρ' x))->VRs S (l.map ρ) (l.map ρ')
 |[],_=>by simp[VRs]
 |x::l,h=>V0f.2 ⟨h x (by simp),Z06 l (fun y hy=>h y (by simp[hy]))⟩
theorem OVR_map{S:St}{ρ:Operand->CV}{ρ':Operand->Value}{x:Option Operand}(h:∀y,x=some y->VR S (ρ y) (ρ' y)): OVR S (x.map ρ) (x.map ρ'):=by
 cases x with
 |none=>trivial
 |some y=>exact h y rfl
theorem X1z{S:St}{ρ:Operand->CV}{ρ':Operand->Value}(ps:Array (Nat×Operand))(h:∀p∈ps.toList,VR S (ρ p.2) (ρ' p.2)):
  (ps.toList.map fun p=>(p.1,ρ p.2)).length=(ps.toList.map fun p=>(p.1,ρ' p.2)).length /\
  ∀(k:Nat) (p:Nat×CV) (q:Nat×Value),(ps.toList.map fun p=>(p.1,ρ p.2))[k]?=some p->(ps.toList.map fun p=>(p.1,ρ' p.2))[k]?=some q->p.1=q.1/\VR S p.2 q.2:=by
 refine⟨by simp,fun k p q hp hq=>?_⟩
 rw[List.getElem?_map]at hp hq
 cases hk:ps.toList[k]? with
 |none=>simp[hk]at hp
 |some z=>
  simp[hk]at hp hq
  subst hp;subst hq
  exact⟨rfl,h z (List.mem_of_getElem? hk)⟩
theorem qop_sound{w0:World}{B:Nat}{S:St}{h:Heap}{w:World}(r:R w0 B S h w){ρ:Operand->CV}{ρ':Operand->Value}{o:Oper}{v:CV}(hρ:∀x∈o.op.operands.toList,VR S (ρ x) (ρ' x))(hv:qop C ρ h o.op=some v):
  QNext C w0 B S h w v (execOp ρ' o):=by
 obtain⟨dst,op,ty,pos,aft,gd⟩:=o
 simp only at hρ hv
 unfold qop at hv
 split at hv<;>try(cases hv;done)
 ·rename_i x
  cases hv
  exact⟨_,w,S,rfl,St.le.refl _,rfl,rfl,r,hρ x (by simp[Op.operands])⟩
 ·rename_i x
  cases hv
  exact⟨_,w,S,rfl,St.le.refl _,rfl,rfl,r,hρ x (by simp[Op.operands])⟩
 ·rename_i c a b
  have hc:=hρ c (by simp[Op.operands])
  have ha:=hρ a (by simp[Op.operands])
  have hb:=hρ b (by simp[Op.operands])
  split at hv<;>try(cases hv;done)
  ·rename_i e;rw[e]at hc;obtain⟨hc,_⟩:=VR_sc.1 hc;cases hv
   exact⟨_,w,S,by simp[execOp,hc,asBool],St.le.refl _,rfl,rfl,r,ha⟩
  ·rename_i e;rw[e]at hc;obtain⟨hc,_⟩:=VR_sc.1 hc;cases hv
   exact⟨_,w,S,by simp[execOp,hc,asBool],St.le.refl _,rfl,rfl,r,hb⟩
 ·rename_i t ps
  obtain⟨h1,h2⟩:=X1z (S:=S) (ρ:=ρ) (ρ':=ρ') ps (fun p hp=>hρ p.2 (by simp[Op.operands];exact⟨p.1,by simpa using hp⟩))
  have:=QNext.still C r (qbuild_sound C (w:=w) h1 h2 hv)
  simpa[execOp,<- Array.toList_map]using this
 ·rename_i t n ps
  obtain⟨h1,h2⟩:=X1z (S:=S) (ρ:=ρ) (ρ':=ρ') ps (fun p hp=>hρ p.2 (by simp[Op.operands];exact⟨p.1,by simpa using hp⟩))
  have:=QNext.of C (K04 C r h1 h2 hv)
  simpa[execOp,<- Array.toList_map]using this
 ·rename_i t a
  exact QNext.still C r (Z1g C r (hρ a (by simp[Op.operands])) hv)
 ·rename_i x
  have hx:=hρ x (by simp[Op.operands])
  split at hv<;>try(cases hv;done)
  ·rename_i i p e;rw[e]at hx;cases hv
   have hx':=hx
   rw[V0d rfl]at hx';simp only[FR]at hx';obtain⟨⟨rb,sh,o,hx',_⟩,_⟩:=hx'
   have hxe:=(List.cons.inj hx').1
   exact⟨ρ' x,w,S,by simp[execOp,hxe],St.le.refl _,rfl,rfl,r,hx⟩
  ·rename_i u e;rw[e]at hx;cases hv
   have hx':=hx
   rw[V0d rfl]at hx';simp only[FR]at hx';obtain⟨⟨rb,o,es,hx',_⟩,_⟩:=hx'
   have hxe:=(List.cons.inj hx').1
   exact⟨ρ' x,w,S,by simp[execOp,hxe],St.le.refl _,rfl,rfl,r,hx⟩
 ·rename_i op t x y yt
  exact QNext.still C r (qbin_sound C (hρ x (by simp[Op.operands])) (hρ y (by simp[Op.operands])) hv)
 ·rename_i op t x
  exact QNext.still C r (qun_sound C (hρ x (by simp[Op.operands])) hv)
 ·rename_i s d x
  exact QNext.still C r (Y1b C (hρ x (by simp[Op.operands])) hv)
 ·rename_i s x f
  exact QNext.still C r (V09 C r (hρ x (by simp[Op.operands])) hv)
 ·rename_i t x i
  exact QNext.still C r (Q09 C r (hρ x (by simp[Op.operands])) (hρ i (by simp[Op.operands])) hv)
 ·rename_i t x i
  exact QNext.still C r (qindex_sound C (hρ x (by simp[Op.operands])) (hρ i (by simp[Op.operands])) hv)
 ·rename_i t x lo hi mx
  exact QNext.still C r (qslice_sound C r (hρ x (by simp[Op.operands])) (OVR_map fun y hy=>hρ y (by simp[Op.operands,hy])) (OVR_map fun y hy=>hρ y (by simp[Op.operands,hy])) (OVR_map fun y hy=>hρ y (by simp[Op.operands,hy])) hv)
 ·rename_i t l c
  exact QNext.of C (Z1f C r (hρ l (by simp[Op.operands])) (hρ c (by simp[Op.operands])) hv)
 ·rename_i t x
  split at hv<;>try(cases hv;done)
  rename_i hc
  cases hv
  have hx:=hρ x (by simp[Op.operands])
  obtain⟨u,hu,hne⟩:=V0q C hc
  refine QNext.still C r ⟨.iface t (ρ' x),by cases u<;>simp_all[Instr.makeInterface,run_underlying hu],?_⟩
  rw[V0d rfl];simp only[FR];exact⟨⟨_,rfl,hx⟩,by simp⟩
 ·rename_i f first cap
  cases hv
  refine QNext.still C r ⟨.func (.func f) (first.map ρ') (cap.map ρ'),rfl,?_⟩
  rw[V0d rfl];simp only[FR]
  exact⟨⟨first.toList.map ρ',cap.toList.map ρ',by simp[<- Array.toList_map],Z06 _ fun x hx=>hρ x (by simp[Op.operands];exact .inl (by simpa using hx)),Z06 _ fun x hx=>hρ x (by simp[Op.operands];exact .inr (by simpa using hx))⟩,by simp⟩
 ·rename_i x xt asserted ok
  exact QNext.still C r (K1x C (hρ x (by simp[Op.operands])) hv)
 ·rename_i x i
  have hx:=hρ x (by simp[Op.operands])
  split at hv<;>try(cases hv;done)
  rename_i l e;rw[e]at hx
  rw[V0d rfl]at hx;simp only[FR]at hx;obtain⟨⟨vs,hx,hvs⟩,_⟩:=hx
  have hxe:=(List.cons.inj hx).1
  obtain⟨hlen,hget⟩:=K06 l vs hvs
  have hi:i<vs.length:=by rw[<- hlen];exact(List.getElem?_eq_some_iff.1 hv).1
  refine QNext.still C r ⟨vs[i],by simp[Instr.extract,hxe,hi],hget i v vs[i] hv (by simp[hi])⟩
 ·rename_i b args ts
  unfold qbuiltin at hv
  obtain⟨cs,hexec⟩:∃cs,execOp ρ' ⟨dst,.call ⟨.builtin b,args,ts⟩,ty,pos,aft,gd⟩=builtin b ts ty cs (args.map ρ'):=⟨_,rfl⟩
  rw[hexec]
  have hargs:args.map ρ'=(args.toList.map ρ').toArray:=by simp[<- Array.toList_map]
  split at hv<;>try(cases hv;done)
  ·rename_i x t ha ht
   have hx:=hρ x (by simp[Op.operands,Call.operands];rw[<- Array.mem_toList_iff,ha];simp)
   have hts:ts[0]?=some t:=by rw[<- Array.getElem?_toList,ht];rfl
   have:=QNext.still C r (qlen_sound C r (ty:=ty) hts hx hv)
   simp only[builtin]
   rw[hargs,ha];exact this
  ·rename_i l
   have hl:=Z06 (S:=S) (ρ:=ρ) (ρ':=ρ') args.toList (fun x hx=>hρ x (by simp[Op.operands,Call.operands];simpa using hx))
   have:=QNext.still C r (Z02 C (w:=w) (mx:=false) ts ty hl hv)
   simp only[builtin]
   rw[hargs];simpa using this
  ·rename_i l
   have hl:=Z06 (S:=S) (ρ:=ρ) (ρ':=ρ') args.toList (fun x hx=>hρ x (by simp[Op.operands,Call.operands];simpa using hx))
   have:=QNext.still C r (Z02 C (w:=w) (mx:=true) ts ty hl hv)
   simp only[builtin]
   rw[hargs];simpa using this
  ·rename_i x1 x2 t tx ha ht
   have h1:=hρ x1 (by simp[Op.operands,Call.operands];rw[<- Array.mem_toList_iff,ha];simp)
   have h2:=hρ x2 (by simp[Op.operands,Call.operands];rw[<- Array.mem_toList_iff,ha];simp)
   have:=QNext.of C (V1v C r (ty:=ty) h1 h2 hv)
   simp only[builtin]
   have hts:ts=#[t,tx]:=by apply Array.ext';rw[ht]
   rw[hargs,ha,hts];exact this
end ops
end Go.Cl
end
section
namespace Go.Cl
open Go.RowKit
inductive CExit where
 |normal
 |exit (id:Nat)
 |ret
 |pan (v:CV)
def ExitR(S:St): CExit->Exit->Prop
 |.normal,.normal=>True
 |.exit i,.exit j=>i=j
 |.ret,.ret=>True
 |.pan v,.panic chain=>∃x,chain=[⟨x,false,false⟩]/\VR S v x
 |_,_=>False
abbrev CPost:=CExit->Env->Heap->Prop
theorem V1f{P:Program}{t e:TypeId}(ht:P.underlying t=some (.slice e))(D:Nat)(b:Option Addr)(n c:Nat)(w:World): (Op.equalIn (D+1) t (.slice b n c) (.slice none 0 0)).run P w=.ok b.isNone w:=by
 cases b<;>simp[Op.equalIn,run_underlying ht]
theorem K01{P:Program}{t e:TypeId}(ht:P.underlying t=some (.slice e))(b:Option Addr)(n c:Nat)(w:World): (Op.equal t (.slice b n c) (.slice none 0 0)).run P w=.ok b.isNone w:=
 V1f ht 9999 b n c w
theorem run_eql_nil{P:Program}{t e:TypeId}(ht:P.underlying t=some (.slice e))(b:Option Addr)(n c:Nat)(ox oy:Operand)(w:World):
  (do eqGuard .eql t ox oy (.slice b n c) (.slice none 0 0);binOp .eql t (.slice b n c) (.slice none 0 0):Sem Value).run P w=.ok (.bool b.isNone) w:=by
 have hg:(eqGuard .eql t ox oy (.slice b n c) (.slice none 0 0)).run P w=.ok () w:=rfl
 simp only[Sem.run_bind,hg,Result.andThen_ok]
 simp[binOp,K01 ht]
theorem run_neq_nil{P:Program}{t e:TypeId}(ht:P.underlying t=some (.slice e))(b:Option Addr)(n c:Nat)(ox oy:Operand)(w:World):
  (do eqGuard .neq t ox oy (.slice b n c) (.slice none 0 0);binOp .neq t (.slice b n c) (.slice none 0 0):Sem Value).run P w=.ok (.bool (!b.isNone)) w:=by
 have hg:(eqGuard .neq t ox oy (.slice b n c) (.slice none 0 0)).run P w=.ok () w:=rfl
 simp only[Sem.run_bind,hg,Result.andThen_ok]
 simp[binOp,K01 ht]
section ops
variable (C:Ctx)
theorem Z0x(w:World)(t:TypeId)(v:Value): (newVar t v).run C.P w=.ok ⟨w.heap.size,0,none⟩ (w.alloc (.cells v.cells t)):=by
 simp[newVar,newRow]
theorem zero_FR{S:St}{t:TypeId}{ti:TI}(h:ti.ok C.P t): ∃z,(∀w,(zeroValue t).run C.P w=.ok z w)/\FR S ti.zero z.cells.toList:=by
 obtain⟨i,z,hi,_,_,hz,hfz⟩:=h.info
 exact⟨z,fun w=>Z0j hi hz w,V0k _ _ hfz⟩
theorem Y1d{S:St}{w:World}{t:TypeId}{ti:TI}(h:ti.ok C.P t){v:CV}{x:Value}{b o:Nat}(hv:VR S v x)(hs:v.shape=ti.sh)(ht:w.there b o x.cells.toList.length):
  (storeVar t ⟨b,o,none⟩ x).run C.P w=.ok () (w.setCells b o x.cells.toList):=by
 obtain⟨i,z,hi,hsz,_⟩:=h.info
 have hl:=VR.cells_length hv
 rw[CV.size,hs]at hl
 have hone:=FR.one _ _ hv.1 (by rw[hs];exact h.good)
 have hst:=run_storeCells_cells (P:=C.P) b o x.cells.toList 0 w (fun j hj=>by simpa using(ht j hj).1) (fun j hj=>by simpa using(ht j hj).2) hone
 simp only[Nat.add_zero]at hst
 simp[storeVar,sizeOf,typeInfo,hi,hl,hsz,hst]
theorem Y0r(ρ':Operand->Value)(b:Builtin)(args:Array Operand)(ts:Array TypeId)(dst:Option Tmp)(ty:TypeId)(pos:String)(aft:Array Edge)(gd:Option (Nat×Bool)):
 ∃cs,execOp ρ' ⟨dst,.call ⟨.builtin b,args,ts⟩,ty,pos,aft,gd⟩=builtin b ts ty cs (args.map ρ'):=⟨_,rfl⟩
theorem V0w{P:Program}{f:FuncId}{fn:Func}{args:Array Value}{w:World}(h1:P.funcs[f]?=some fn)(h2:fn.body.isNone=false)(h3:(fn.name == "runtime.NumGoroutine")=false):
  (callFunc f args).run P w=.ok (.enter f args) w:=by
 simp only[callFunc,Sem.run_bind,run_program,Result.andThen_ok,h1,h2,h3,Bool.false_eq_true,if_false,Sem.run_pure]
end ops
end Go.Cl
end
section
namespace Go.Cl
open Go.RowKit
section ops
variable (C:Ctx)
def cwanted(ops:List Oper)(o:Oper)(env:Env): Option Bool:=
 match o.guard with
 |none=>some true
 |some (j,want)=>match ops[j]? with
  |some oj=>match oj.dst with
   |some d=>match env d with
    |.sc (.bool b)=>some (b==want)
    |.tup []=>some false
    |_=>none
   |none=>none
  |none=>none
def okOper(n:Nat)(o:Oper): Bool:=(match o.dst with|some d=>Nat.blt d n|none=>true)&&o.op.operands.toList.all (okOpd n)
def okCode(n:Nat): Code->Bool
 |.region _ ops _=>ops.toList.all (okOper n)
 |.seq a b=>okCode n a&&okCode n b
 |.cond c a b=>okOpd n c&&okCode n a&&okCode n b
 |.block _ c=>okCode n c
 |.loop c=>okCode n c
 |_=>true
theorem X00(a:Act)(d:Option Tmp)(v:Value): (a.put d v).tmps.size=a.tmps.size:=by cases d<;>simp[Act.put]
theorem Z0y(a:Act)(d:Option Tmp)(v:Value): (a.put d v).defers=a.defers:=by cases d<;>rfl
theorem V0p{S:St}: VR S (.tup []) undef:=by rw[V0d rfl];exact⟨by simp[FR,VRs,undef],by simp[undef]⟩
def Draws: Type:=List Oper->CPost->Env->Heap->Prop
def CExit.then(next:Env->Heap->Prop)(Q:CPost): CPost
 |.normal,env,h=>next env h
 |e,env,h=>Q e env h
def CExit.inBlock(id:Nat)(Q:CPost): CPost
 |.exit j,env,h=>if j=id then Q .normal env h else Q (.exit j) env h
 |e,env,h=>Q e env h
end ops
end Go.Cl
end
section
namespace Go.Cl
open Go.RowKit
section ops
variable (C:Ctx)
def cres(env:Env)(h:Heap): List ResultVar->Option (List CV)
 |[]=>some []
 |.tmp t::l=>(cres env h l).map (env t::·)
 |.cell a t::l=>match qload C h t (env a),cres env h l with
  |some v,some vs=>some (v::vs)
  |_,_=>none
def pack: List CV->CV
 |[v]=>v
 |l=>.tup l
def okRes(n:Nat): ResultVar->Bool
 |.tmp t=>Nat.blt t n
 |.cell a _=>Nat.blt a n
def envOf(args:List CV): Env:=fun t=>match args[t]? with
 |some v=>v
 |none=>.tup []
def bodyQ(rs:List ResultVar)(Q:Out->Heap->Prop): CPost
 |.normal,env,h=>∃l,cres C env h rs=some l/\Q (.ret (pack l)) h
 |.ret,env,h=>∃l,cres C env h rs=some l/\Q (.ret (pack l)) h
 |.pan v,_,h=>Q (.pan v) h
 |.exit _,_,_=>False
def resOne(tmps:Array Value): ResultVar->Sem Value
 |.tmp t=>pure (tmps.getD t undef)
 |.cell a t=>do loadVar t (<- asAddr (tmps.getD a undef))
theorem Y0p{w0:World}{B:Nat}{S:St}{h:Heap}{w:World}(r:R w0 B S h w){env:Env}{tmps:Array Value}(he:ER S env tmps): ∀(rs:List ResultVar) (l:List CV),rs.all (okRes tmps.size)=true->cres C env h rs=some l->
  ∃vs:List Value,(rs.mapM (resOne tmps)).run C.P w=.ok vs w/\VRs S l vs
 |[],l,_,h1=>by simp[cres]at h1;subst h1;exact⟨[],by simp,by simp[VRs]⟩
 |.tmp t::rs,l,hok,h1=>by
  simp only[List.all_cons,Bool.and_eq_true]at hok
  simp only[cres]at h1
  cases hl:cres C env h rs with
  |none=>simp[hl]at h1
  |some l'=>
   simp[hl]at h1
   subst h1
   obtain⟨vs,hvs,hV⟩:=Y0p r he rs l' hok.2 hl
   have ht:t<tmps.size:=by simpa[okRes]using hok.1
   refine⟨tmps[t]::vs,?_,V0f.2 ⟨he t _ (by simp[ht]),hV⟩⟩
   rw[List.mapM_cons]
   simp[resOne,hvs,ht]
 |.cell a t::rs,l,hok,h1=>by
  simp only[List.all_cons,Bool.and_eq_true]at hok
  simp only[cres]at h1
  cases hq:qload C h t (env a) with
  |none=>simp[hq]at h1
  |some v=>
   cases hl:cres C env h rs with
   |none=>simp[hq,hl]at h1
   |some l'=>
    simp[hq,hl]at h1
    subst h1
    obtain⟨vs,hvs,hV⟩:=Y0p r he rs l' hok.2 hl
    have ht:a<tmps.size:=by simpa[okRes]using hok.1
    have hv:=he a _ (show tmps[a]?=some tmps[a] by simp[ht])
    obtain⟨y,hy,hvy⟩:=Z1g C r hv hq
    refine⟨y::vs,?_,V0f.2 ⟨hvy,hV⟩⟩
    have hload:(do loadVar t (<- asAddr (tmps.getD a undef)):Sem Value).run C.P w=.ok y w:=by
     have hg:tmps.getD a undef=tmps[a]:=by simp[ht]
     rw[hg]
     have hy':=hy
     cases htm:tmps[a] with
     |pointer p=>
      cases p with
      |none=>rw[htm]at hy';simp[Instr.loadAt,Instr.sureAddr]at hy'
      |some p=>rw[htm]at hy';simpa[Instr.loadAt,Instr.sureAddr,asAddr]using hy'
     |_=>rw[htm]at hy';simp[Instr.loadAt,Instr.sureAddr]at hy'
    rw[List.mapM_cons]
    rw[Sem.run_bind,show resOne tmps (.cell a t)=(do loadVar t (<- asAddr (tmps.getD a undef)):Sem Value) from rfl,hload]
    simp[hvs]
def packV: List Value->Value
 |[v]=>v
 |l=>.tuple l.toArray
theorem X0z{fn:Func}{tmps:Array Value}{w:World}{P:Program}{vs:List Value}(h:(fn.results.toList.mapM (resOne tmps)).run P w=.ok vs w):
  (results fn tmps).run P w=.ok (packV vs) w:=by
 have hr:results fn tmps=(do let vs <- fn.results.mapM (resOne tmps);pure (if h:vs.size=1 then vs[0]else .tuple vs)):=rfl
 rw[hr,Array.mapM_eq_mapM_toList]
 simp only[Sem.run_bind,Sem.run_map,h,Result.andThen_ok,Sem.run_pure]
 match vs with
 |[]=>rfl
 |[v]=>rfl
 |a::b::l=>simp[packV]
theorem VR_pack{S:St}{l:List CV}{vs:List Value}(h:VRs S l vs): VR S (pack l) (packV vs):=by
 match l,vs,h with
 |[],[],_=>rw[show pack []=.tup [] from rfl,V0d rfl];exact⟨by simp[FR,VRs,packV],by simp[packV]⟩
 |[],_::_,h=>simp[VRs]at h
 |[v],[],h=>simp[VRs]at h
 |[v],[x],h=>exact(V0f.1 h).1
 |[v],x::y::l,h=>have:=(V0f.1 h).2;simp[VRs]at this
 |v::u::l,[],h=>simp[VRs]at h
 |v::u::l,[x],h=>have:=(V0f.1 h).2;simp[VRs]at this
 |v::u::l,x::y::vs,h=>
  rw[show pack (v::u::l)=.tup (v::u::l) from rfl,V0d rfl]
  exact⟨by simp only[FR];exact⟨_,rfl,h⟩,by simp[packV]⟩
theorem Q10{S:St}{args:List CV}{vals:List Value}(h:VRs S args vals)(n:Nat): ER S (envOf args) (vals.toArray++Array.replicate n undef):=by
 intro t x ht
 obtain⟨hl,hg⟩:=K06 _ _ h
 unfold envOf
 by_cases h1:t<vals.length
 ·rw[Array.getElem?_append_left (by simpa using h1)]at ht
  have h2:args[t]?=some (args[t]'(by omega)):=by simp[show t<args.length by omega]
  rw[h2]
  exact hg t _ x h2 (by simpa using ht)
 ·have h2:args[t]?=none:=by simp;omega
  rw[h2]
  rw[Array.getElem?_append_right (by simpa using h1)]at ht
  rw[Array.getElem?_replicate]at ht
  split at ht
  ·cases ht;exact V0p
  ·cases ht
end ops
end Go.Cl
end
section
namespace Go.Cl
open Go.RowKit
section congr
variable (C:Ctx)
end congr
theorem put_comm{env:Env}{d d':Option Tmp}{u v:CV}(h:∀t,d=some t->d'≠some t): put (put env d u) d' v=put (put env d' v) d u:=by
 cases d<;>cases d'<;>try rfl
 rename_i t t'
 have:t'≠t:=fun e=>h t rfl (by rw[e])
 funext k
 simp only[put]
 by_cases h1:k=t<;>by_cases h2:k=t'<;>simp_all
section draw
variable (C:Ctx) (ops:List Oper) (al:Nat->Option Nat) (h1:Heap)
end draw
end Go.Cl
end
section
namespace Go.Cl
open Go.RowKit
section chk
variable (ops:List Oper)
def lowB: Bool:=ops.zipIdx.all fun(p:Oper×Nat)=>p.1.after.toList.all fun e=>!Region.binds .any e || Nat.blt e.on p.2
def waits: Nat->Nat->Nat->Bool
 |0,_,_=>false
 |f+1,j,i=>match ops[j]? with
  |some o=>o.after.toList.any fun e=>Region.binds .any e&&(Nat.beq e.on i || waits f e.on i)
  |none=>false
structure Down(listed:Array Bool): Prop where
 size:listed.size=ops.length
 down:∀j o,listed.getD j false=true->ops[j]?=some o->∀e∈o.after,Region.binds .any e=true->listed.getD e.on false=true
end chk
section draw
variable (C:Ctx)
theorem V1y{listed:Array Bool}{j:Nat}(h:listed.getD j false=false)(hj:j<listed.size): listed.getD j true=false:=by simpa[hj]using h
theorem down_set{ops:List Oper}{listed:Array Bool}(hd:Down ops listed){i:Nat}{o:Oper}(hi:ops[i]?=some o)(hall:∀e∈o.after,Region.binds .any e=true->listed.getD e.on false=true): Down ops (listed.setIfInBounds i true) where
 size:=by simpa using hd.size
 down j oj hj ho e he hb:=by
  by_cases hji:j=i
  ·subst hji
   rw[hi]at ho;cases ho
   exact getD_set_true (hall e he hb)
  ·rw[getD_set_ne false (Ne.symm hji)]at hj
   exact getD_set_true (hd.down j oj hj ho e he hb)
variable {w0:World} {B:Nat} {ops:List Oper} {Q:CPost} {ds:List Deferred} {n:Nat} {Q':Exit->Act->World->Prop} {S0:St}
end draw
end Go.Cl
end
section
namespace Go.Cl
open Go.RowKit
def baseEq: TypeDesc->TypeDesc->Bool
 |.bool,.bool=>true
 |.int a,.int b=>decide (a=b)
 |.float a,.float b=>decide (a=b)
 |.string,.string=>true
 |.pointer a,.pointer b=>Nat.beq a b
 |.slice a,.slice b=>Nat.beq a b
 |.map a b,.map c d=>Nat.beq a c&&Nat.beq b d
 |.func a b c,.func d e f=>decide (a=d)&&decide (b=e)&&decide (c=f)
 |.interface a,.interface b=>decide (a=b)
 |_,_=>false
theorem baseEq_spec{a b:TypeDesc}(h:baseEq a b=true): a=b/\a.isRow=false:=by
 unfold baseEq at h
 split at h<;>try(cases h;done)
 all_goals simp_all[TypeDesc.isRow]
def valEq: Value->Value->Bool
 |.bool a,.bool b=>decide (a=b)
 |.int k a,.int l b=>decide (k=l)&&decide (a=b)
 |.float k a,.float l b=>decide (k=l)&&Nat.beq a b
 |.string a,.string b=>decide (a.data.toList=b.data.toList)
 |.pointer none,.pointer none=>true
 |.map none,.map none=>true
 |.nilFunc,.nilFunc=>true
 |.nilIface,.nilIface=>true
 |.slice none a b,.slice none c d=>Nat.beq a c&&Nat.beq b d
 |_,_=>false
theorem V1n{a b:Value}(h:valEq a b=true): a=b:=by
 unfold valEq at h
 split at h<;>try(cases h;done)
 all_goals simp_all
 rename_i a b
 cases a;cases b
 simp at h
 rename_i x y
 cases x;cases y
 simp at h
 simp[h]
def valsEq: List Value->List Value->Bool
 |[],[]=>true
 |a::l,b::m=>valEq a b&&valsEq l m
 |_,_=>false
theorem K1i: ∀{l m:List Value},valsEq l m=true->l=m
 |[],[],_=>rfl
 |[],_::_,h=>by simp[valsEq]at h
 |_::_,[],h=>by simp[valsEq]at h
 |a::l,b::m,h=>by simp only[valsEq,Bool.and_eq_true]at h;rw[V1n h.1,K1i h.2]
def tiInfo(P:Program)(t:TypeId)(ti:TI): Bool:=
 match P.info? t with
 |some i=>Nat.beq i.size ti.sh.size&&Nat.beq i.bytes ti.bytes&&(match i.zero,flatC ti.zero with
  |some z,some l=>valsEq l z.cells.toList&&(aggB z==ti.zero.isAgg)
  |_,_=>false)
 |none=>false
def tiD(P:Program)(t:TypeId)(ti:TI): Bool:=
 match ti.d,P.underlying t with
 |.base u,some v=>baseEq v u&&decide (ti.sh=.s)
 |.st fs,some (.struct f)=>
  decide (f.toList.map (fun x=>(x.offset,((P.info? x.type).map (·.size)).getD 0,x.type))=fs)&&(f.all (fun x=>x.name != "_"))&&!P.stoodInHeld t&&!P.eqGuardType P.depth t &&
  (match ti.sh with
   |.n shs=>Nat.beq shs.length fs.length&&fs.zipIdx.all fun p=>Nat.beq p.1.1 (Shape.sizes (shs.take p.2))&&!Nat.beq p.1.2.1 0&&decide ((shs[p.2]?).map Shape.size=some p.1.2.1)
   |_=>false)
 |.ar n esz e,some (.array m f)=>Nat.beq m n&&Nat.beq f e&&decide ((P.info? e).map (·.size)=some esz)&&!Nat.beq esz 0&&!P.eqGuardType P.depth t &&
  (match ti.sh with
   |.n shs=>match shs with
    |she::_=>decide (shs=List.replicate n she)&&Nat.beq she.size esz
    |[]=>false
   |_=>false)
 |_,_=>false
def tiB(P:Program)(p:TypeId×TI): Bool:=tiInfo P p.1 p.2&&tiD P p.1 p.2&&decide (p.2.zero.shape=p.2.sh)&&p.2.sh.good
theorem tiB_spec{P:Program}{t:TypeId}{ti:TI}(h:tiB P (t,ti)=true): ti.ok P t:=by
 simp only[tiB,Bool.and_eq_true]at h
 obtain⟨⟨⟨h1,h2⟩,h3⟩,h4⟩:=h
 have hi:∃i z,P.info? t=some i/\i.size=ti.sh.size/\i.bytes=ti.bytes/\i.zero=some z/\flatC ti.zero=some z.cells.toList/\aggB z=ti.zero.isAgg:=by
  unfold tiInfo at h1
  split at h1<;>try(cases h1;done)
  rename_i i hi
  simp only[Bool.and_eq_true]at h1
  obtain⟨⟨a1,a2⟩,a3⟩:=h1
  split at a3<;>try(cases a3;done)
  rename_i z l hz hl
  simp only[Bool.and_eq_true,beq_iff_eq]at a3
  exact⟨i,z,hi,Nat.eq_of_beq_eq_true a1,Nat.eq_of_beq_eq_true a2,hz,by rw[hl,K1i a3.1],a3.2⟩
 obtain⟨i,z,k1,k2,k3,k4,k5,k6⟩:=hi
 refine⟨⟨i,z,k1,k2,k3,k4,k5⟩,of_decide_eq_true h3,h4,by simp[k1,k4,k6],?_⟩
 unfold tiD at h2
 split at h2<;>try(cases h2;done)
 ·rename_i u v hd hu
  rw[hd]
  simp only[Bool.and_eq_true]at h2
  obtain⟨b1,b2⟩:=baseEq_spec h2.1
  exact⟨by rw[hu,b1],by rw[<- b1];exact b2,of_decide_eq_true h2.2⟩
 ·rename_i fs f hd hu
  rw[hd]
  simp only[Bool.and_eq_true]at h2
  obtain⟨⟨⟨⟨c1,c2⟩,c3⟩,c4⟩,c5⟩:=h2
  split at c5<;>try(cases c5;done)
  rename_i shs hsh
  simp only[Bool.and_eq_true]at c5
  refine⟨f,shs,hu,of_decide_eq_true c1,hsh,Nat.eq_of_beq_eq_true c5.1,fun j x hx=>?_,c2,by simpa using c3,by simpa using c4⟩
  have:=List.all_eq_true.1 c5.2 (x,j) (by rw[List.mem_zipIdx_iff_getElem?];exact hx)
  simp only[Bool.and_eq_true]at this
  obtain⟨⟨d1,d2⟩,d3⟩:=this
  exact⟨Nat.eq_of_beq_eq_true d1,fun e=>by rw[e]at d2;simp at d2,of_decide_eq_true d3⟩
 ·rename_i n esz e m f hd hu
  rw[hd]
  simp only[Bool.and_eq_true]at h2
  obtain⟨⟨⟨⟨⟨c1,c2⟩,c3⟩,c4⟩,c5⟩,c6⟩:=h2
  split at c6<;>try(cases c6;done)
  rename_i shs hsh
  split at c6<;>try(cases c6;done)
  rename_i she rest
  simp only[Bool.and_eq_true]at c6
  refine⟨she,by rw[hu,Nat.eq_of_beq_eq_true c1,Nat.eq_of_beq_eq_true c2],of_decide_eq_true c3,by rw[hsh];congr 1;exact of_decide_eq_true c6.1,Nat.eq_of_beq_eq_true c6.2,fun e0=>by rw[e0]at c4;simp at c4,by simpa using c5⟩
def look: List (TypeId×TI)->TypeId->Option TI
 |[],_=>none
 |(u,ti)::l,t=>bif Nat.beq t u then some ti else look l t
theorem look_mem: ∀{l:List (TypeId×TI)} {t:TypeId} {ti:TI},look l t=some ti->(t,ti)∈l
 |[],_,_,h=>by simp[look]at h
 |(u,tu)::l,t,ti,h=>by
  simp only[look]at h
  cases e:Nat.beq t u with
  |true=>rw[e]at h;simp at h;subst h;rw[Nat.eq_of_beq_eq_true e];simp
  |false=>rw[e]at h;exact List.mem_cons_of_mem _ (look_mem h)
def mkCtx(P:Program)(hm:P.follows .mixedOrders=true)(tab:List (TypeId×TI))(h:tab.all (tiB P)=true): Ctx where
 P:=P
 mixed:=hm
 tt:=look tab
 htt t ti ht:=tiB_spec (List.all_eq_true.1 h (t,ti) (look_mem ht))
end Go.Cl
end
section
namespace Go.Cl
open Go.RowKit
inductive T(α:Type) where
 |e
 |n (v:Option α) (l r:T α)
noncomputable def T.get{α:Type}(t:T α): Nat->Option α:=
 T.rec (motive:=fun _=>Nat->Option α) (fun _=>none)
  (fun v _ _ gl gr k=>Nat.rec (motive:=fun _=>Option α) v (fun j _=>cond (Nat.beq (Nat.mod j 2) 0) (gl (Nat.div j 2)) (gr (Nat.div j 2))) k) t
noncomputable def T.set{α:Type}(v:Option α)(f:Nat): T α->Nat->T α:=
 Nat.rec (motive:=fun _=>T α->Nat->T α) (fun t _=>t)
  (fun _ ih t k=>T.rec (motive:=fun _=>T α)
   (Nat.rec (motive:=fun _=>T α) (.n v .e .e) (fun j _=>cond (Nat.beq (Nat.mod j 2) 0) (.n none (ih .e (Nat.div j 2)) .e) (.n none .e (ih .e (Nat.div j 2)))) k)
   (fun u l r _ _=>Nat.rec (motive:=fun _=>T α) (.n v l r) (fun j _=>cond (Nat.beq (Nat.mod j 2) 0) (.n u (ih l (Nat.div j 2)) r) (.n u l (ih r (Nat.div j 2)))) k) t) f
section
variable {α:Type}
theorem T.get_e(k:Nat): (T.e:T α).get k=none:=rfl
theorem T.get_0(v:Option α)(l r:T α): (T.n v l r).get 0=v:=rfl
theorem T.get_s(v:Option α)(l r:T α)(j:Nat): (T.n v l r).get (j+1)=bif Nat.beq (Nat.mod j 2) 0 then l.get (Nat.div j 2)else r.get (Nat.div j 2):=rfl
theorem T.set_e0(v:Option α)(f:Nat): T.set v (f+1) .e 0=.n v .e .e:=rfl
theorem T.set_es(v:Option α)(f j:Nat): T.set v (f+1) .e (j+1)=bif Nat.beq (Nat.mod j 2) 0 then .n none (T.set v f .e (Nat.div j 2)) .e else .n none .e (T.set v f .e (Nat.div j 2)):=rfl
theorem T.set_n0(v u:Option α)(f:Nat)(l r:T α): T.set v (f+1) (.n u l r) 0=.n v l r:=rfl
theorem T.set_ns(v u:Option α)(f j:Nat)(l r:T α): T.set v (f+1) (.n u l r) (j+1)=bif Nat.beq (Nat.mod j 2) 0 then .n u (T.set v f l (Nat.div j 2)) r else .n u l (T.set v f r (Nat.div j 2)):=rfl
theorem T.get_set(v:Option α): ∀(f:Nat) (t:T α) (k:Nat),k<f->∀j,(T.set v f t k).get j=if j=k then v else t.get j
 |0,_,_,h,_=>absurd h (by omega)
 |f+1,t,k,h,j=>by
  have key:∀(u:Option α) (l r:T α) (k:Nat),k<f+1->(match k with
    |0=>T.n v l r
    |j+1=>bif Nat.beq (Nat.mod j 2) 0 then .n u (T.set v f l (Nat.div j 2)) r else .n u l (T.set v f r (Nat.div j 2))).get j=if j=k then v else(T.n u l r).get j:=by
   intro u l r k hk
   cases k with
   |zero=>
    cases j with
    |zero=>simp[T.get_0]
    |succ j=>simp[T.get_s]
   |succ k=>
    simp only
    have hk2:Nat.div k 2<f:=by have:Nat.div k 2=k/2:=rfl;omega
    cases hb:Nat.beq (Nat.mod k 2) 0 with
    |true=>
     have hm:k % 2=0:=Nat.eq_of_beq_eq_true hb
     simp only[cond_true]
     cases j with
     |zero=>simp[T.get_0]
     |succ j=>
      rw[T.get_s,T.get_s]
      cases hc:Nat.beq (Nat.mod j 2) 0 with
      |true=>
       have hn:j % 2=0:=Nat.eq_of_beq_eq_true hc
       simp only[cond_true]
       rw[T.get_set v f l _ hk2]
       have e1:Nat.div j 2=j/2:=rfl
       have e2:Nat.div k 2=k/2:=rfl
       rw[e1,e2]
       by_cases e:j=k
       ·subst e;simp
       ·rw[if_neg (by omega),if_neg (by omega)]
      |false=>
       have hn:j % 2≠0:=Nat.ne_of_beq_eq_false hc
       simp only[cond_false]
       rw[if_neg (by omega)]
    |false=>
     have hm:k % 2≠0:=Nat.ne_of_beq_eq_false hb
     simp only[cond_false]
     cases j with
     |zero=>simp[T.get_0]
     |succ j=>
      rw[T.get_s,T.get_s]
      cases hc:Nat.beq (Nat.mod j 2) 0 with
      |true=>
       have hn:j % 2=0:=Nat.eq_of_beq_eq_true hc
       simp only[cond_true]
       rw[if_neg (by omega)]
      |false=>
       have hn:j % 2≠0:=Nat.ne_of_beq_eq_false hc
       simp only[cond_false]
       rw[T.get_set v f r _ hk2]
       have e1:Nat.div j 2=j/2:=rfl
       have e2:Nat.div k 2=k/2:=rfl
       rw[e1,e2]
       by_cases e:j=k
       ·subst e;simp
       ·rw[if_neg (by omega),if_neg (by omega)]
  cases t with
  |e=>
   have:=key none .e .e k h
   cases k with
   |zero=>rw[T.set_e0,this];cases j<;>simp[T.get_e,T.get_0,T.get_s]
   |succ k=>rw[T.set_es,this];cases j<;>simp[T.get_e,T.get_0,T.get_s]
  |n u l r=>
   have:=key u l r k h
   cases k with
   |zero=>rw[T.set_n0,this]
   |succ k=>rw[T.set_ns,this]
end
inductive XObj where
 |var (sh:Shape) (v:CV)
 |tail (n:Nat)
 |map (l:List (CV×CV))
def XObj.obj: XObj->Obj
 |.var _ v=>.var v
 |.tail n=>.tail n
 |.map l=>.map l
structure Hp where
 n:Nat
 t:T XObj
noncomputable def Hp.h(p:Hp): Heap:=fun i=>(p.t.get i).map XObj.obj
noncomputable def Hp.set(p:Hp)(i:Nat)(o:Option XObj): Hp:=⟨p.n,T.set o (Nat.succ i) p.t i⟩
noncomputable def Hp.new(p:Hp)(o:XObj): Hp:=⟨Nat.succ p.n,T.set (some o) (Nat.succ p.n) p.t p.n⟩
def Hp.good(p:Hp): Prop:=∀i sh v,p.t.get i=some (.var sh v)->v.shape=sh
theorem Hp.set_h(p:Hp)(i:Nat)(o:Option XObj): (p.set i o).h=upd p.h i (o.map XObj.obj):=by
 funext j
 simp only[Hp.h,Hp.set,T.get_set o _ _ i (Nat.lt_succ_self i),upd]
 split<;>rfl
theorem Hp.new_h(p:Hp)(o:XObj): (p.new o).h=upd p.h p.n (some o.obj):=by
 funext j
 simp only[Hp.h,Hp.new,T.get_set (some o) _ _ p.n (Nat.lt_succ_self _),upd]
 split<;>rfl
theorem Hp.good_set{p:Hp}(hp:p.good){i:Nat}{o:Option XObj}(ho:∀sh v,o=some (.var sh v)->v.shape=sh): (p.set i o).good:=by
 intro j sh v hj
 simp only[Hp.set,T.get_set o _ _ i (Nat.lt_succ_self i)]at hj
 split at hj
 ·exact ho sh v hj
 ·exact hp j sh v hj
theorem Hp.good_new{p:Hp}(hp:p.good){o:XObj}(ho:∀sh v,o=.var sh v->v.shape=sh): (p.new o).good:=by
 intro j sh v hj
 simp only[Hp.new,T.get_set (some o) _ _ p.n (Nat.lt_succ_self _)]at hj
 split at hj
 ·exact ho sh v (Option.some.inj hj)
 ·exact hp j sh v hj
abbrev XEnv:=T CV
noncomputable def XEnv.at(m:XEnv)(t:Nat): CV:=Option.rec (motive:=fun _=>CV) (.tup []) (fun v=>v) (m.get t)
noncomputable def XEnv.put(m:XEnv)(d:Option Tmp)(v:CV): XEnv:=Option.rec (motive:=fun _=>XEnv) m (fun t=>T.set (some v) (Nat.succ t) m t) d
theorem XEnv.at_put(m:XEnv)(d:Option Tmp)(v:CV): (m.put d v).at=Cl.put m.at d v:=by
 cases d with
 |none=>rfl
 |some t=>
  funext k
  simp only[XEnv.at,XEnv.put,Cl.put,T.get_set (some v) _ _ t (Nat.lt_succ_self t)]
  by_cases h:k=t
  ·rw[if_pos h,if_pos h]
  ·rw[if_neg h,if_neg h]
noncomputable def xev(m:XEnv)(x:Operand): CV:=
 match x with
 |.tmp t=>m.at t
 |.const v=>ofConst v
 |.global _=>.tup []
 |.func f=>.fn f [] []
theorem X1a(m:XEnv): xev m=ev m.at:=by
 funext x;cases x<;>rfl
end Go.Cl
end
section
namespace Go.Cl
open Go.RowKit
structure XRel(w0:World)(B:Nat)(S:St)(p:Hp)(w:World): Prop where
 r:R w0 B S p.h w
 n:S.n=p.n
 good:p.good
inductive XRes where
 |ret (v:CV) (p:Hp)
 |pan (v:CV) (p:Hp)
 |stuck
def ofOpt(p:Hp): Option CV->XRes
 |some v=>.ret v p
 |none=>.stuck
def subEq(sh:Shape)(q:List Nat)(sh':Shape): Bool:=
 match sh.sub q with
 |some sq=>decide (sq=sh')
 |none=>false
theorem K0y{sh:Shape}{q:List Nat}{sh':Shape}(h:subEq sh q sh'=true): sh.sub q=some sh':=by
 unfold subEq at h
 split at h
 ·rename_i sq hs;rw[hs,of_decide_eq_true h]
 ·cases h
def shOk(v:CV)(sh:Shape): Bool:=
 match sh with
 |.s=>match v with
  |.agg _=>false
  |.tup _=>false
  |_=>true
 |_=>decide (v.shape=sh)
theorem Y0w{v:CV}{sh:Shape}(h:shOk v sh=true): v.shape=sh:=by
 unfold shOk at h
 split at h
 ·split at h<;>first|cases h|skip
  cases v<;>first|rfl|(rename_i h1 h2;first|exact absurd rfl (h1 _)|exact absurd rfl (h2 _))
 ·exact of_decide_eq_true h
theorem CV.at_sub: ∀(q:List Nat) (v:CV) (sq:Shape),v.shape.sub q=some sq->∃y,v.at q=some y/\y.shape=sq
 |[],v,sq,h=>by
  have:v.shape=sq:=by cases hv:v.shape<;>rw[hv]at h<;>simpa[Shape.sub]using h
  exact⟨v,by cases v<;>rfl,this⟩
 |i::q,v,sq,h=>by
  cases v<;>simp only[CV.shape,Shape.sub]at h<;>try(cases h;done)
  rename_i l
  rw[CV.shapes_eq]at h
  cases hl:l[i]? with
  |none=>simp[hl]at h
  |some x=>
   simp[hl]at h
   obtain⟨y,h1,h2⟩:=CV.at_sub q x sq h
   exact⟨y,by simp only[CV.at,hl];exact h1,h2⟩
theorem V08{v:CV}{shs:List Shape}(h:v.shape=.n shs): ∃l,v=.agg l/\CV.shapes l=shs:=by
 cases v<;>simp[CV.shape]at h
 exact⟨_,rfl,h⟩
def inR(n:Int)(k:Nat): Bool:=
 match n with
 |.ofNat m=>Nat.blt m k
 |.negSucc _=>false
theorem inR_spec{n:Int}{k:Nat}(h:inR n k=true): 0<=n/\n<k/\n.toNat<k:=by
 cases n with
 |ofNat m=>
  have:m<k:=by simpa[inR]using h
  exact⟨Int.natCast_nonneg m,Int.ofNat_lt.2 this,this⟩
 |negSucc m=>cases h
section
variable (C:Ctx)
noncomputable def xload(p:Hp)(t:TypeId)(a:CV): Option CV:=
 match a with
 |.ptr i q=>match p.t.get i with
  |some (.var sh v)=>match C.tt t with
   |some ti=>bif subEq sh q ti.sh then v.at q else none
   |none=>none
  |_=>none
 |.rptr v=>match C.tt t with
  |some ti=>bif shOk v ti.sh then some v else none
  |none=>none
 |_=>none
theorem get_h{p:Hp}{i:Nat}{sh:Shape}{v:CV}(hi:p.t.get i=some (.var sh v)): p.h i=some (.var v):=by
 simp[Hp.h,hi,XObj.obj]
theorem Q1p{p:Hp}(hp:p.good){t:TypeId}{a v:CV}(h:xload C p t a=some v): qload C p.h t a=some v:=by
 unfold xload at h
 split at h
 ·rename_i i q
  split at h<;>try(cases h;done)
  rename_i sh u hi
  split at h<;>try(cases h;done)
  rename_i ti ht
  cases hb:subEq sh q ti.sh with
  |false=>rw[hb]at h;cases h
  |true=>
   rw[hb]at h
   simp only[cond_true]at h
   have hs:=K0y hb
   have hu:=hp i sh u hi
   rw[<- hu]at hs
   obtain⟨y,h1,h2⟩:=CV.at_sub _ _ _ hs
   rw[h]at h1;cases h1
   unfold qload
   simp[tgt,get_h hi,h,ht,h2]
 ·split at h<;>try(cases h;done)
  rename_i ti ht
  cases hb:shOk _ ti.sh with
  |false=>rw[hb]at h;cases h
  |true=>
   rw[hb]at h
   simp only[cond_true,Option.some.injEq]at h
   subst h
   unfold qload
   simp[tgt,ht,Y0w hb]
 ·cases h
noncomputable def xfieldAddr(p:Hp)(s:TypeId)(a:CV)(f:Nat): Option CV:=
 match a with
 |.ptr i q=>match p.t.get i with
  |some (.var sho _)=>match C.tt s with
   |some ⟨.st fs,sh,_,_⟩=>bif subEq sho q sh&&Nat.blt f fs.length then some (.ptr i (q++[f]))else none
   |_=>none
  |_=>none
 |_=>qfieldAddr C p.h s a f
theorem V1g{p:Hp}(hp:p.good){s f:Nat}{a v:CV}(h:xfieldAddr C p s a f=some v): qfieldAddr C p.h s a f=some v:=by
 unfold xfieldAddr at h
 split at h
 ·rename_i i q
  split at h<;>try(cases h;done)
  rename_i sho u hi
  split at h<;>try(cases h;done)
  rename_i fs sh by_ ze ht
  cases hb:(subEq sho q sh&&Nat.blt f fs.length) with
  |false=>rw[hb]at h;cases h
  |true=>
   rw[hb]at h
   simp only[cond_true,Option.some.injEq]at h
   subst h
   rw[Bool.and_eq_true]at hb
   have hs:=K0y hb.1
   have hf:f<fs.length:=by simpa using hb.2
   have hu:=hp i sho u hi
   rw[<- hu]at hs
   obtain⟨y,h1,h2⟩:=CV.at_sub _ _ _ hs
   obtain⟨flds,shs,_,_,hsn,hlen,_⟩:=(C.htt _ _ ht).d
   simp only at hsn
   rw[hsn]at h2
   obtain⟨l,rfl,hl⟩:=V08 h2
   have hfl:f<l.length:=by
    have:=congrArg List.length hl
    simp[CV.shapes_eq]at this;omega
   unfold qfieldAddr
   simp[ht,tgt,get_h hi,h1,CV.shape,hsn,hl,hfl]
 ·exact h
noncomputable def xindexAddr(p:Hp)(t:TypeId)(x i:CV): Option CV:=
 match x with
 |.ptr j q=>match p.t.get j with
  |some (.var sho _)=>match C.tt t with
   |some ⟨.ar cnt _ _,sh,_,_⟩=>match i with
    |.sc (.int _ n)=>bif inR n cnt&&subEq sho q sh then some (.ptr j (q++[n.toNat]))else none
    |_=>none
   |_=>none
  |_=>none
 |_=>qindexAddr C p.h t x i
theorem Z1e{p:Hp}(hp:p.good){t:TypeId}{x i v:CV}(h:xindexAddr C p t x i=some v): qindexAddr C p.h t x i=some v:=by
 unfold xindexAddr at h
 split at h
 ·rename_i j q
  split at h<;>try(cases h;done)
  rename_i sho u hj
  split at h<;>try(cases h;done)
  rename_i cnt esz e sh by_ ze ht
  split at h<;>try(cases h;done)
  rename_i k n
  cases hb:(inR n cnt&&subEq sho q sh) with
  |false=>rw[hb]at h;cases h
  |true=>
   rw[hb]at h
   simp only[cond_true,Option.some.injEq]at h
   subst h
   rw[Bool.and_eq_true]at hb
   have hs:=K0y hb.2
   obtain⟨h0,hn,_⟩:=inR_spec hb.1
   have hu:=hp j sho u hj
   rw[<- hu]at hs
   obtain⟨y,h1,h2⟩:=CV.at_sub _ _ _ hs
   obtain⟨she,_,_,hsn,_⟩:=(C.htt _ _ ht).d
   simp only at hsn
   rw[hsn]at h2
   obtain⟨l,rfl,hl⟩:=V08 h2
   unfold qindexAddr
   simp[ht,tgt,get_h hj,h1,CV.shape,hsn,hl,h0,hn]
 ·exact h
def qfield(t:TypeId)(x:CV)(f:Nat): Option CV:=
 match C.tt t,x with
 |some ⟨.st fs,sh,_,_⟩,.agg l=>match fs[f]? with
  |some d=>match C.tt d.2.2,l[f]? with
   |some tf,some v=>bif decide (CV.shape (.agg l)=sh)&&shOk v tf.sh then some v else none
   |_,_=>none
  |none=>none
 |_,_=>none
theorem qfield_sound{S:St}{w:World}{t f:Nat}{x v:CV}{a:Value}(hx:VR S x a)(h:qfield C t x f=some v): ∃y,(Instr.field t a f).run C.P w=.ok y w/\VR S v y:=by
 unfold qfield at h
 split at h<;>try(cases h;done)
 rename_i fs sh by_ ze l ht
 split at h<;>try(cases h;done)
 rename_i d hd
 split at h<;>try(cases h;done)
 rename_i tf u hf hu
 cases hb:(decide (CV.shape (.agg l)=sh)&&shOk u tf.sh) with
 |false=>rw[hb]at h;cases h
 |true=>
  rw[hb]at h
  simp only[cond_true,Option.some.injEq]at h
  subst h
  rw[Bool.and_eq_true]at hb
  have hsh:=of_decide_eq_true hb.1
  obtain⟨c,rfl,hc⟩:=K0v.1 hx
  obtain⟨flds,fld,shs,hun,hfld,hoff,hty,_,hsn,ho,_⟩:=st_field C (C.htt _ _ ht) rfl hd
  simp only at hsn
  rw[hsn]at hsh
  simp only[CV.shape,Shape.n.injEq]at hsh
  obtain⟨y,hy,hv⟩:=Z04 C (w:=w) (C.htt _ _ hf) hc hu (Y0w hb.2) (off:=fld.offset) (by rw[hoff,ho,hsh])
  refine⟨y,?_,hv⟩
  rw[<- hty]at hy
  simp[Instr.field,run_underlying hun,hfld,hy,asAgg]
end
end Go.Cl
end
section
namespace Go.Cl
open Go.RowKit
def XGoes(C:Ctx)(w0:World)(B:Nat)(S:St)(o:Oper)(a:Act)(w:World): XRes->Prop
 |.ret v p'=>∀(next:Act->World->Prop) (Q:Exit->Act->World->Prop),(∀S' x w',S.ext S'->XRel w0 B S' p' w'->VR S' v x->next (a.put o.dst x) w')->o.wp C.P a w next Q
 |.pan v p'=>∀(next:Act->World->Prop) (Q:Exit->Act->World->Prop),(∀S' x w',S.ext S'->XRel w0 B S' p' w'->VR S' v x->Q (.panic [⟨x,false,false⟩]) a w')->o.wp C.P a w next Q
 |.stuck=>True
section
variable (C:Ctx)
theorem XGoes.quiet{w0:World}{B:Nat}{S:St}{p:Hp}{w:World}(r:XRel w0 B S p w){o:Oper}{a:Act}{ρ:Operand->CV}{v:CV}(hρ:∀x∈o.op.operands.toList,VR S (ρ x) (a.eval x))
  (hv:qop C ρ p.h o.op=some v):XGoes C w0 B S o a w (.ret v p):=by
 intro next Q hn
 obtain⟨y,w',S',h1,h2,h3,h4,h5,h6⟩:=qop_sound C r.r hρ hv
 unfold Oper.wp
 rw[h1]
 exact hn S' y w' ⟨h2,fun i hi h0=>by rw[h3];exact h0⟩ ⟨h5,by rw[h4];exact r.n,r.good⟩ h6
theorem XGoes.still{w0:World}{B:Nat}{S:St}{p:Hp}{w:World}(r:XRel w0 B S p w){o:Oper}{a:Act}{v:CV}{x:Value}
  (hrun:(execOp a.eval o).run C.P w=.ok (.value x) w) (hv:VR S v x):XGoes C w0 B S o a w (.ret v p):=by
 intro next Q hn
 unfold Oper.wp
 rw[hrun]
 exact hn S x w (St.ext.refl _) r hv
theorem XRel.alloc{w0:World}{B:Nat}{S:St}{p:Hp}{w:World}(r:XRel w0 B S p w){v:CV}{sh:Shape}{arr:Array Value}{e:TypeId}(hsh:v.shape=sh)(hv:FR S v arr.toList):
  S.ext (S.named S.n (.var w.heap.size v.shape arr.size))/\XRel w0 B (S.named S.n (.var w.heap.size v.shape arr.size)) (p.new (.var sh v)) (w.alloc (.cells arr e))/\(S.named S.n (.var w.heap.size v.shape arr.size)).μ p.n=some (.var w.heap.size v.shape arr.size):=by
 have hf:=r.r.fresh S.n (Nat.le_refl _)
 refine⟨St.ext_named (Nat.le_refl _) hf.1,⟨?_,?_,Hp.good_new r.good fun sh' v' e'=>by cases e';exact hsh⟩,?_⟩
 ·rw[Hp.new_h,<- r.n]
  exact r.r.alloc hf.1 hv (V0h _ _ _) (fun j hj=>X0g _ _ hj)
 ·show max S.n (S.n+1)=Nat.succ p.n
  have:=r.n;omega
 ·rw[<- r.n];exact St.named_μ
theorem XGoes.alloc{w0:World}{B:Nat}{S:St}{p:Hp}{w:World}(r:XRel w0 B S p w){o:Oper}{a:Act}{v:CV}{sh:Shape}{x:Value}{t:TypeId}(hsh:v.shape=sh)(hv:FR S v x.cells.toList)
  (hrun:(execOp a.eval o).run C.P w=.ok (.value (.pointer (some ⟨w.heap.size,0,none⟩))) (w.alloc (.cells x.cells t))):XGoes C w0 B S o a w (.ret (.ptr p.n []) (p.new (.var sh v))):=by
 intro next Q hn
 unfold Oper.wp
 rw[hrun]
 obtain⟨h1,h2,h3⟩:=r.alloc (e:=t) hsh hv
 refine hn _ _ _ h1 h2 ?_
 rw[V0d rfl];simp only[FR]
 exact⟨⟨_,_,0,rfl,⟨_,h3⟩,by cases v.shape<;>rfl⟩,by simp⟩
noncomputable def xalloc(p:Hp)(t:TypeId): XRes:=
 match C.tt t with
 |some ti=>.ret (.ptr p.n []) (p.new (.var ti.sh ti.zero))
 |none=>.stuck
noncomputable def xbox(p:Hp)(t:TypeId)(x:CV): XRes:=
 match C.tt t with
 |some ti=>bif shOk x ti.sh then .ret (.ptr p.n []) (p.new (.var ti.sh x))else .stuck
 |none=>.stuck
noncomputable def xstore(p:Hp)(t:TypeId)(a x:CV): XRes:=
 match a with
 |.ptr i q=>match p.t.get i with
  |some (.var sh v)=>match C.tt t with
   |some ti=>bif subEq sh q ti.sh&&shOk x ti.sh then .ret (.tup []) (p.set i (some (.var sh (v.set q x))))else .stuck
   |none=>.stuck
  |_=>.stuck
 |_=>.stuck
theorem xalloc_sound{w0:World}{B:Nat}{S:St}{p:Hp}{w:World}(r:XRel w0 B S p w){dst:Option Tmp}{t ty:TypeId}{pos:String}{aft:Array Edge}{gd:Option (Nat×Bool)}{a:Act}:
  XGoes C w0 B S ⟨dst,.alloc t,ty,pos,aft,gd⟩ a w (xalloc C p t):=by
 unfold xalloc
 split
 ·rename_i ti hti
  obtain⟨z,hz,hfz⟩:=zero_FR C (S:=S) (C.htt _ _ hti)
  exact XGoes.alloc C r (x:=z) (t:=t) (C.htt _ _ hti).zsh hfz (by simp[execOp,Instr.alloc,hz,Z0x])
 ·trivial
theorem xbox_sound{w0:World}{B:Nat}{S:St}{p:Hp}{w:World}(r:XRel w0 B S p w){dst:Option Tmp}{t ty:TypeId}{x:Operand}{v:CV}{pos:String}{aft:Array Edge}{gd:Option (Nat×Bool)}{a:Act}(hx:VR S v (a.eval x)):
  XGoes C w0 B S ⟨dst,.box t x,ty,pos,aft,gd⟩ a w (xbox C p t v):=by
 unfold xbox
 split
 ·rename_i ti hti
  cases hb:shOk v ti.sh with
  |false=>trivial
  |true=>exact XGoes.alloc C r (x:=a.eval x) (t:=t) (Y0w hb) hx.1 (by simp[execOp,Instr.box,Z0x])
 ·trivial
theorem xstore_sound{w0:World}{B:Nat}{S:St}{p:Hp}{w:World}(r:XRel w0 B S p w){dst:Option Tmp}{t ty:TypeId}{pt x:Operand}{pv v:CV}{pos:String}{aft:Array Edge}{gd:Option (Nat×Bool)}{a:Act}(hp:VR S pv (a.eval pt))(hx:VR S v (a.eval x)):
  XGoes C w0 B S ⟨dst,.store t pt x,ty,pos,aft,gd⟩ a w (xstore C p t pv v):=by
 unfold xstore
 split<;>try trivial
 rename_i i q
 split<;>try trivial
 rename_i sh u hi
 split<;>try trivial
 rename_i ti hti
 cases hb:(subEq sh q ti.sh&&shOk v ti.sh) with
 |false=>trivial
 |true=>
  rw[Bool.and_eq_true]at hb
  simp only[cond_true]
  have hs:=K0y hb.1
  have hxs:=Y0w hb.2
  have hu:=r.good i sh u hi
  rw[<- hu]at hs
  obtain⟨y,hy,hys⟩:=CV.at_sub _ _ _ hs
  rw[V0d rfl]at hp;simp only[FR]at hp
  obtain⟨⟨rb,sh',o,hpe,⟨tot,hμ⟩,ho⟩,_⟩:=hp
  have hpe:=(List.cons.inj hpe).1
  obtain⟨hr',hthere⟩:=r.r.store (get_h hi) hμ hy ho hx.1 (by rw[hxs,hys])
  intro next Q hn
  unfold Oper.wp
  have hrun:(execOp a.eval ⟨dst,.store t pt x,ty,pos,aft,gd⟩).run C.P w=.ok .skip (w.setCells rb o (a.eval x).cells.toList):=by
   simp[execOp,hpe,Instr.storeAt,Instr.sureAddr,Y1d C (C.htt _ _ hti) hx hxs hthere]
  rw[hrun]
  refine hn S undef _ (St.ext.refl _) ⟨by rw[Hp.set_h];exact hr',r.n,Hp.good_set r.good fun sh' v' e'=>?_⟩ V0p
  cases e'
  rw[CV.shape_set q u y v hy (by rw[hxs,hys])];exact hu
noncomputable def xpanic(p:Hp)(x:CV): XRes:=
 match x with
 |.ifc t v=>.pan (.ifc t v) p
 |_=>.stuck
theorem xpanic_sound{w0:World}{B:Nat}{S:St}{p:Hp}{w:World}(r:XRel w0 B S p w){dst:Option Tmp}{ty:TypeId}{x:Operand}{v:CV}{pos:String}{aft:Array Edge}{gd:Option (Nat×Bool)}{a:Act}(hx:VR S v (a.eval x)):
  XGoes C w0 B S ⟨dst,.panic x,ty,pos,aft,gd⟩ a w (xpanic p v):=by
 unfold xpanic
 split<;>try trivial
 rename_i t v
 have hxv:=hx
 rw[V0d rfl]at hxv;simp only[FR]at hxv
 obtain⟨⟨z,hxe,_⟩,_⟩:=hxv
 have hxe:=(List.cons.inj hxe).1
 intro next Q hq
 unfold Oper.wp
 have hrun:(execOp a.eval ⟨dst,.panic x,ty,pos,aft,gd⟩).run C.P w=.halt (.panic (a.eval x)) w:=by
  simp[execOp,hxe,Instr.panic]
 rw[hrun]
 exact hq S _ w (St.ext.refl _) r hx
abbrev XCall:=FuncId->List CV->Hp->XRes
def CallOk(call:XCall): Prop:=∀(f:FuncId) (args:List CV) (p:Hp),match call f args p with
 |.ret v p'=>(∃fn,C.P.funcs[f]?=some fn/\fn.body.isNone=false/\(fn.name == "runtime.NumGoroutine")=false)/\∀(w0:World) (B:Nat) (S:St) (w:World) (vals:List Value),XRel w0 B S p w->VRs S args vals->
  Calls C.P f vals.toArray w fun e w'=>∃S' x,S.ext S'/\XRel w0 B S' p' w'/\VR S' v x/\e=.returned x
 |.pan v p'=>(∃fn,C.P.funcs[f]?=some fn/\fn.body.isNone=false/\(fn.name == "runtime.NumGoroutine")=false)/\∀(w0:World) (B:Nat) (S:St) (w:World) (vals:List Value),XRel w0 B S p w->VRs S args vals->
  Calls C.P f vals.toArray w fun e w'=>∃S' x,S.ext S'/\XRel w0 B S' p' w'/\VR S' v x/\e=.panicked [⟨x,false,false⟩]
 |.stuck=>True
def ExtOk(ext:FuncId->List CV->Option CV): Prop:=∀(f:FuncId) (args:List CV) (v:CV),ext f args=some v->∀(S:St) (vals:List Value) (w:World),VRs S args vals->∃x,(callFunc f vals.toArray).run C.P w=.ok (.value x) w/\VR S v x
noncomputable def xcallv(ext:FuncId->List CV->Option CV)(call:XCall)(p:Hp)(f:CV)(args:List CV): XRes:=
 match f with
 |.fn g first cap=>match ext g (first++args++cap) with
  |some v=>.ret v p
  |none=>call g (first++args++cap) p
 |_=>.stuck
theorem Y06{S:St}: ∀{l m:List CV} {xs ys:List Value},VRs S l xs->VRs S m ys->VRs S (l++m) (xs++ys)
 |[],_,[],_,_,h=>h
 |[],_,_::_,_,h,_=>by simp[VRs]at h
 |_::_,_,[],_,h,_=>by simp[VRs]at h
 |_::_,_,_::_,_,h,k=>V0f.2 ⟨(V0f.1 h).1,Y06 (V0f.1 h).2 k⟩
theorem xcallv_sound{ext:FuncId->List CV->Option CV}{call:XCall}(hext:ExtOk C ext)(hcall:CallOk C call){w0:World}{B:Nat}{S:St}{p:Hp}{w:World}(r:XRel w0 B S p w){dst:Option Tmp}{ty:TypeId}{f:Operand}{args:Array Operand}{ts:Array TypeId}
  {fv:CV} {vs:List CV} {pos:String} {aft:Array Edge} {gd:Option (Nat×Bool)} {a:Act} (hf:VR S fv (a.eval f)) (hargs:VRs S vs (args.toList.map a.eval)):
  XGoes C w0 B S ⟨dst,.call ⟨.value f,args,ts⟩,ty,pos,aft,gd⟩ a w (xcallv ext call p fv vs):=by
 unfold xcallv
 split<;>try trivial
 rename_i g first cap
 rw[V0d rfl]at hf;simp only[FR]at hf
 obtain⟨⟨us,xs,hfe,hus,hxs⟩,_⟩:=hf
 have hfe:=(List.cons.inj hfe).1
 have hall:=Y06 (Y06 hus hargs) hxs
 have hargs':us.toArray++args.map a.eval++xs.toArray=(us++args.toList.map a.eval++xs).toArray:=by
  apply Array.ext';simp
 have hexec:(execOp a.eval ⟨dst,.call ⟨.value f,args,ts⟩,ty,pos,aft,gd⟩).run C.P w=(callFunc g (us++args.toList.map a.eval++xs).toArray).run C.P w:=by
  simp only[execOp,resolve,hfe,Deferred.ofValue,Sem.run_bind,Sem.run_pure,Result.andThen_ok,invoke,hargs']
 split
 ·rename_i v hv
  obtain⟨x,h1,h2⟩:=hext _ _ _ hv S _ w hall
  exact XGoes.still C r (by rw[hexec,h1]) h2
 ·have hc:=hcall g (first++vs++cap) p
  split at hc
  ·rename_i v p' he
   rw[he]
   obtain⟨⟨fn,hfn,hbody,hname⟩,hc⟩:=hc
   intro next Q hn
   unfold Oper.wp
   rw[hexec,V0w hfn hbody hname]
   simp only[Oper.upon_enter]
   refine(hc w0 B S w _ r hall).mono fun e w' hh=>?_
   obtain⟨S',x,k1,k2,k3,rfl⟩:=hh
   exact hn S' x w' k1 k2 k3
  ·rename_i v p' he
   rw[he]
   obtain⟨⟨fn,hfn,hbody,hname⟩,hc⟩:=hc
   intro next Q hn
   unfold Oper.wp
   rw[hexec,V0w hfn hbody hname]
   simp only[Oper.upon_enter]
   refine(hc w0 B S w _ r hall).mono fun e w' hh=>?_
   obtain⟨S',x,k1,k2,k3,rfl⟩:=hh
   exact hn S' x w' k1 k2 k3
  ·rename_i he
   rw[he];trivial
end
end Go.Cl
end
section
namespace Go.Cl
open Go.RowKit
structure SrcX(P:Program)(size:Nat)(tx:TypeId)(e:TypeId)(x:Value)(n:Nat)(news:List Value)(w:World): Prop where
 src:Src P size tx x n news w\/((∃k,P.underlying tx=some (.int k))/\x=.int .i64 n/\(n:Int)<=140737488355328/\news.length=n*size/\∃i z,P.info? e=some i/\i.size=size/\i.zero=some z/\n*i.bytes<=281474976710656/\news=(List.replicate n z.cells.toList).flatten/\z.cells.size=size/\0<size)
 one:∀u∈news,u.oneCell'=true
 len:news.length=n*size
section
variable {P:Program} (w:World)
theorem X0y{n:Nat}(h:(n:Int)<=140737488355328): IntKind.i64.wrap (n:Int)=n:=by
 have e:IntKind.bits .i64=64:=rfl
 have e2:IntKind.signed .i64=true:=rfl
 simp only[IntKind.wrap,e,e2,Bool.true_and]
 split<;>rename_i h<;>simp at h<;>omega
theorem Q08(z:Value)(n:Nat): (Builtin.zeroCells z.cells n)=(List.replicate n z.cells.toList).flatten.toArray:=by
 apply Array.ext'
 have:=Z0w z.cells n
 simp only[Builtin.zeroCells]
 rw[this]
theorem V04(t tx ty e:TypeId)(i:TypeInfo)(ht:P.underlying t=some (.slice e))(hi:P.info? e=some i)(b off sLen sCap:Nat)(x:Value)(n:Nat)(news:List Value)(hs:SrcX P i.size tx e x n news w)
  (hroom:sLen+n<=sCap) (hc:∀j,j<news.length->(w.cell? ⟨b,off+sLen*i.size+j,none⟩).isSome=true) (hf:∀j,j<news.length->w.frozen? ⟨b,off+sLen*i.size+j,none⟩=false):
  (Builtin.append_ #[t,tx] ty #[.slice (some ⟨b,off,none⟩) sLen sCap,x]).run P w=.ok (.slice (some ⟨b,off,none⟩) (sLen+n) sCap) (w.setCells b (off+sLen*i.size) news):=by
 rcases hs.src with h|⟨⟨k,hk⟩,rfl,hn,_,i',z,hi',hsz,hz,hb,hnews,hzs,hpos⟩
 ·exact run_append_room_src w t tx ty e i ht hi b off sLen sCap x n news h hroom hc hf
 ·rw[hi]at hi';cases hi'
  have hst:=run_storeCells_cells (P:=P) b (off+sLen*i.size) news 0 w (by simpa using hc) (by simpa using hf) hs.one
  simp only[Nat.add_zero]at hst
  have h1:¬((n:Int)<0):=by omega
  have h2:¬((281474976710656:Int)<(n:Int) * ↑i.bytes):=by
   have:((n*i.bytes:Nat):Int)=(n:Int) * ↑i.bytes:=by push_cast;rfl
   omega
  by_cases h0:n=0
  ·have hnil:news=[]:=by rw[hnews,h0];rfl
   subst hnil
   have hw0:IntKind.i64.wrap 0=0:=by have:=X0y (n:=0) (by decide);simpa using this
   subst h0
   simp at hroom
   simp[Builtin.append_,run_underlying ht,run_underlying hk,sizeOf,typeInfo,hi,asInt,asIntOf,hw0,hroom,storeCells,World.setCells]
  ·have h3:¬(n*i.size=0):=fun h=>by rcases Nat.mul_eq_zero.1 h with h|h<;>omega
   simp only[hnews]at hst ⊢
   simp[Builtin.append_,run_underlying ht,run_underlying hk,sizeOf,typeInfo,zeroValue,hi,hz,asInt,asIntOf,X0y hn,h1,h2,h3,hroom,Q08,Addr.add_lit,hst]
theorem X05(t tx ty e:TypeId)(i:TypeInfo)(z:Value)(ht:P.underlying t=some (.slice e))(hi:P.info? e=some i)(hz:i.zero=some z)(base:Option Addr)(sLen sCap:Nat)(olds:List Value)
  (hold:(Builtin.firstCells i.size sLen (.slice base sLen sCap)).run P w.drew=.ok olds.toArray w.drew) (x:Value) (n:Nat) (news:List Value) (hs:SrcX P i.size tx e x n news w)
  (hg:sCap<sLen+n) (h63:((sLen+n:Nat):Int)<=9223372036854775807) (hfit:Builtin.nextslicecap (sLen+n) sCap*i.bytes<=281474976710656):
  (Builtin.append_ #[t,tx] ty #[.slice base sLen sCap,x]).run P w =
   .ok (.slice (some ⟨w.heap.size,0,none⟩) (sLen+n) (grownCap w (sLen+n) sCap e))
    (w.drew.alloc (.cells ((olds++news).toArray++Builtin.zeroCells z.cells (grownCap w (sLen+n) sCap e-(sLen+n))) e)):=by
 rcases hs.src with h|⟨⟨k,hk⟩,rfl,hn,_,i',z',hi',hsz,hz',hb,hnews,hzs,hpos⟩
 ·exact run_append_grow_src w t tx ty e i z ht hi hz base sLen sCap olds hold x n news h hg h63 hfit
 ·rw[hi]at hi';cases hi'
  rw[hz]at hz';cases hz'
  have h1:¬((n:Int)<0):=by omega
  have h2:¬((281474976710656:Int)<(n:Int) * ↑i.bytes):=by
   have:((n*i.bytes:Nat):Int)=(n:Int) * ↑i.bytes:=by push_cast;rfl
   omega
  have hn0:¬(sLen+n<=sCap):=by omega
  have h63':¬(9223372036854775807<((sLen:Int)+(n:Int))):=by omega
  have h48':¬(281474976710656<Builtin.nextslicecap (sLen+n) sCap*i.bytes):=by omega
  by_cases h0:n=0
  ·have hnil:news=[]:=by rw[hnews,h0];rfl
   subst hnil
   have hw0:IntKind.i64.wrap 0=0:=by have:=X0y (n:=0) (by decide);simpa using this
   subst h0
   simp only[Nat.add_zero]at hn0 h48' ⊢
   simp only[Int.natCast_zero,Int.add_zero]at h63'
   simp[Builtin.append_,run_underlying ht,run_underlying hk,sizeOf,typeInfo,zeroValue,hi,hz,asInt,asIntOf,hw0,hn0,h63',h48',Question.forced,hold,newRow,grownCap]
  ·have h3:¬(n*i.size=0):=fun h=>by rcases Nat.mul_eq_zero.1 h with h|h<;>omega
   simp[Builtin.append_,run_underlying ht,run_underlying hk,sizeOf,typeInfo,zeroValue,hi,hz,asInt,asIntOf,X0y hn,h1,h2,h3,hn0,h63',h48',Question.forced,hold,newRow,grownCap,Q08,hnews]
end
end Go.Cl
end
section
namespace Go.Cl
open Go.RowKit
theorem R.recell{w0:World}{B:Nat}{S:St}{h:Heap}{w w':World}(r:R w0 B S h w){i rb tot:Nat}{sh:Shape}{v v':CV}(hi:h i=some (.var v))(hμ:S.μ i=some (.var rb sh tot))
  (hb:Below B w0 w') (hsz:w'.heap.size=w.heap.size) (hoth:∀b,b≠rb->w'.heap[b]?=w.heap[b]?)
  (hcell:∃arr e cs junk,w'.heap[rb]?=some (.cells arr e (0,0))/\arr.toList=cs++junk/\arr.size=tot/\FR S v' cs) (hsh:v'.shape=sh):R w0 B S (upd h i (some (.var v'))) w':=by
 obtain⟨⟨_,_,hK⟩,hB⟩:=r.live i _ _ hi hμ
 simp only[Loc.block]at hB
 refine⟨hb,by rw[hsz];exact r.size,fun b o u hk=>?_,fun j hj=>?_,fun j obj loc h1 h2=>?_,fun j k oj ok lj lk hjk h1 h2 h3 h4=>?_⟩
 ·have hbr:b≠rb:=fun e=>by subst e;rw[hK]at hk;cases hk
  rw[K0g (hoth b hbr)];exact r.kcell b o u hk
 ·refine⟨(r.fresh j hj).1,?_⟩
  have hji:j≠i:=fun e=>by subst e;rw[(r.fresh _ hj).1]at hμ;cases hμ
  rw[X0g _ _ hji];exact(r.fresh j hj).2
 ·by_cases hj:j=i
  ·subst hj
   rw[V0h]at h1;cases h1
   rw[hμ]at h2;cases h2
   exact⟨⟨hsh,hcell,hK⟩,hB⟩
  ·rw[X0g _ _ hj]at h1
   have k:=r.live j obj loc h1 h2
   exact⟨k.1.mono (St.le.refl _) (hoth _ (r.inj j i obj _ loc _ hj h1 hi h2 hμ)) (fun _ h=>h),k.2⟩
 ·have get:∀j oj,upd h i (some (.var v')) j=some oj->∃oj',h j=some oj':=fun j oj hj=>by
   by_cases e:j=i
   ·subst e;exact⟨_,hi⟩
   ·rw[X0g _ _ e]at hj;exact⟨_,hj⟩
  obtain⟨_,h1'⟩:=get j oj h1
  obtain⟨_,h2'⟩:=get k ok h2
  exact r.inj j k _ _ lj lk hjk h1' h2' h3 h4
theorem R.regrow{w0:World}{B:Nat}{S:St}{h:Heap}{w w':World}(r:R w0 B S h w){i rb tot:Nat}{sh:Shape}{v v':CV}(hi:h i=some (.var v))(hμ:S.μ i=some (.var rb sh tot))
  (hb:Below B w0 w') (hsz:w'.heap.size=w.heap.size) (hoth:∀b,b≠rb->w'.heap[b]?=w.heap[b]?)
  (hcell:∃arr e cs junk,w'.heap[rb]?=some (.cells arr e (0,0))/\arr.toList=cs++junk/\arr.size=tot/\FR S v' cs):
  R w0 B (S.named S.n (.var rb v'.shape tot)) (upd (upd h i none) S.n (some (.var v'))) w':=by
 obtain⟨⟨_,_,hK⟩,hB⟩:=r.live i _ _ hi hμ
 simp only[Loc.block]at hB
 have hf:=r.fresh S.n (Nat.le_refl _)
 have hle:=St.le_named (l:=.var rb v'.shape tot) hf.1
 have hin:i≠S.n:=fun e=>by rw[e,hf.1]at hμ;cases hμ
 have back:∀j oj,j≠S.n->upd (upd h i none) S.n (some (.var v')) j=some oj->j≠i/\h j=some oj:=fun j oj hj hh=>by
  rw[X0g _ _ hj]at hh
  by_cases e:j=i
  ·subst e;rw[V0h]at hh;cases hh
  ·rw[X0g _ _ e]at hh;exact⟨e,hh⟩
 refine⟨hb,by rw[hsz];exact r.size,fun b o u hk=>?_,fun j hj=>?_,fun j obj loc h1 h2=>?_,fun j k oj ok lj lk hjk h1 h2 h3 h4=>?_⟩
 ·have hbr:b≠rb:=fun e=>by subst e;rw[show(S.named S.n (.var b v'.shape tot)).K=S.K from rfl,hK]at hk;cases hk
  rw[K0g (hoth b hbr)];exact r.kcell b o u hk
 ·have hj':S.n+1<=j:=Nat.le_trans (Nat.le_max_right _ _) hj
  have hjn:j≠S.n:=by omega
  refine⟨by rw[St.named_ne hjn];exact(r.fresh j (by omega)).1,?_⟩
  rw[X0g _ _ hjn]
  by_cases e:j=i
  ·subst e;exact V0h _ _ _
  ·rw[X0g _ _ e];exact(r.fresh j (by omega)).2
 ·by_cases hj:j=S.n
  ·subst hj
   rw[V0h]at h1;cases h1
   rw[St.named_μ]at h2;cases h2
   obtain⟨arr,e,cs,junk,k1,k2,k3,k4⟩:=hcell
   exact⟨⟨rfl,⟨arr,e,cs,junk,k1,k2,k3,FR.mono hle _ _ k4⟩,hK⟩,hB⟩
  ·obtain⟨hji,hh⟩:=back j obj hj h1
   rw[St.named_ne hj]at h2
   have k:=r.live j obj loc hh h2
   exact⟨k.1.mono hle (hoth _ (r.inj j i obj _ loc _ hji hh hi h2 hμ)) (fun _ h=>h),k.2⟩
 ·by_cases hj:j=S.n
  ·subst hj
   have hk:=Ne.symm hjk
   rw[St.named_μ]at h3;cases h3
   rw[St.named_ne hk]at h4
   obtain⟨hki,hh⟩:=back k ok hk h2
   have hne:=r.inj k i _ _ _ _ hki hh hi h4 hμ
   exact fun e=>hne e.symm
  ·obtain⟨hji,hh⟩:=back j oj hj h1
   rw[St.named_ne hj]at h3
   by_cases hk:k=S.n
   ·subst hk
    rw[St.named_μ]at h4;cases h4
    have hne:=r.inj j i _ _ _ _ hji hh hi h3 hμ
    exact fun e=>hne e
   ·obtain⟨hki,hh'⟩:=back k ok hk h2
    rw[St.named_ne hk]at h4
    exact r.inj j k _ _ _ _ hjk hh hh' h3 h4
section
variable (C:Ctx)
def xsrc(h:Heap)(e:TypeId)(tx:TypeId)(x:CV): Option (List CV):=
 match C.tt tx,x with
 |some ⟨.base (.int _),_,_,_⟩,.sc (.int .i64 n)=>match C.tt e with
  |some te=>bif decide (0<=n)&&decide (n<=140737488355328)&&Nat.ble (n.toNat*te.bytes) 281474976710656&&Nat.blt 0 te.sh.size then some (List.replicate n.toNat te.zero)else none
  |none=>none
 |_,_=>srcOf C h tx x
theorem xsrc_sound{w0:World}{B:Nat}{S:St}{h:Heap}{w:World}(r:R w0 B S h w){e tx:TypeId}{x:CV}{y:Value}{xs:List CV}{te:TI}(hte:C.tt e=some te)(hx:VR S x y)(hs:xsrc C h e tx x=some xs)(hsh:∀v∈xs,v.shape=te.sh):
  ∃news,FRs S xs news/\SrcX C.P te.sh.size tx e y xs.length news w:=by
 have hok:=C.htt _ _ hte
 unfold xsrc at hs
 split at hs
 ·rename_i k sh by_ ze n h1
  split at hs<;>try(cases hs;done)
  rename_i te' h2
  rw[hte]at h2;cases h2
  cases hb:(decide (0<=n)&&decide (n<=140737488355328)&&Nat.ble (n.toNat*te.bytes) 281474976710656&&Nat.blt 0 te.sh.size) with
  |false=>rw[hb]at hs;cases hs
  |true=>
   rw[hb]at hs
   simp only[cond_true,Option.some.injEq]at hs
   subst hs
   simp only[Bool.and_eq_true,decide_eq_true_eq]at hb
   obtain⟨⟨⟨h0,hn⟩,hby⟩,hpos⟩:=hb
   have hby:=Nat.le_of_ble_eq_true hby
   have hpos:0<te.sh.size:=by simpa using hpos
   obtain⟨i,z,hi,hisz,hbytes,hz,hfz⟩:=hok.info
   have hFz:FR S te.zero z.cells.toList:=V0k _ _ hfz
   have hzs:z.cells.size=te.sh.size:=by rw[<- Array.length_toList,FR.length _ _ hFz,CV.size,hok.zsh]
   obtain⟨rfl,_⟩:=VR_sc.1 hx
   have hF:=Y0i hFz n.toNat
   have hlen:(List.replicate n.toNat z.cells.toList).flatten.length=n.toNat*te.sh.size:=by
    simp[hzs]
   refine⟨_,hF,?_,?_,?_⟩
   ·rw[List.length_replicate]
    exact .inr ⟨⟨k,(C.htt _ _ h1).d.1⟩,by rw[Int.toNat_of_nonneg h0],by omega,hlen,i,z,hi,hisz,hz,by rw[hbytes];exact hby,rfl,hzs,hpos⟩
   ·exact FRs.one _ _ hF (V1e hok.good _ hsh)
   ·rw[List.length_replicate];exact hlen
 ·obtain⟨news,h1,h2⟩:=Z01 C r hok.good hx hs hsh
  exact⟨news,h1,.inl h2,h2.one,h2.newsLen⟩
def allSh(l:List CV)(sh:Shape): Bool:=l.all fun v=>shOk v sh
theorem X0s{l:List CV}{sh:Shape}(h:allSh l sh=true): ∀v∈l,v.shape=sh:=fun v hv=>Y0w (List.all_eq_true.1 h v hv)
theorem X0o{l:List CV}{sh:Shape}(h:∀v∈l,v.shape=sh): CV.shapes l=List.replicate l.length sh:=by
 rw[CV.shapes_eq]
 exact List.eq_replicate_iff.2 ⟨by simp,fun x hx=>by obtain⟨v,hv,rfl⟩:=List.mem_map.1 hx;exact h v hv⟩
noncomputable def xappmut(p:Hp)(te:TI)(b:CV)(xs:List CV): XRes:=
 match b with
 |.lst tl l=>bif tl.full&&allSh l te.sh&&Nat.ble ((l.length+xs.length)*te.bytes) 140737488355328&&Nat.ble (l.length+xs.length) 9223372036854775807 then
   .ret (.slc p.n [] 0 (l.length+xs.length)) (p.new (.var (.n (List.replicate (l.length+xs.length) te.sh)) (.agg (l++xs))))else .stuck
 |.slc j [] 0 n=>match p.t.get j with
  |some (.var sh (.agg l))=>bif Nat.ble n l.length&&Nat.blt 0 l.length&&allSh l te.sh&&Nat.ble ((l.length+xs.length)*te.bytes) 140737488355328&&Nat.ble (l.length+xs.length) 9223372036854775807 then
    bif Nat.ble (n+xs.length) l.length then .ret (.slc j [] 0 (n+xs.length)) (p.set j (some (.var sh (.agg (l.take n++xs++l.drop (n+xs.length))))))
    else .ret (.slc p.n [] 0 (n+xs.length)) ((p.set j none).new (.var (.n (List.replicate (n+xs.length) te.sh)) (.agg (l.take n++xs))))else .stuck
  |_=>.stuck
 |_=>.stuck
theorem Z00{w0:World}{B:Nat}{S:St}{h:Heap}{w:World}(_r:R w0 B S h w){t tx ty e:TypeId}{te:TI}(hu:C.P.underlying t=some (.slice e))(hte:C.tt e=some te){y:Value}{n m:Nat}{news:List Value}(hsrc:SrcX C.P te.sh.size tx e y m news w){base:Option Addr}{cap:Nat}{olds:List Value}
  (holn:olds.length=n*te.sh.size) (hold:∀j u,olds[j]?=some u->∀a,base=some a->a.spot=none/\w.cell? ⟨a.block,a.off+j,none⟩=some u) (hnone:base=none->n=0)
  (hg:cap<n+m) (hfit:(n+m)*te.bytes<=140737488355328) (h63:n+m<=9223372036854775807):
  ∃rest cap',(Builtin.append_ #[t,tx] ty #[.slice base n cap,y]).run C.P w =
    .ok (.slice (some ⟨w.heap.size,0,none⟩) (n+m) cap') (w.drew.alloc (.cells ((olds++news).toArray++rest) e))/\n+m<=cap'/\((olds++news).toArray++rest).size=cap'*te.sh.size:=by
 have hok:=C.htt _ _ hte
 obtain⟨i,z,hi,hisz,hby,hz,hfz⟩:=hok.info
 have hzs:z.cells.size=te.sh.size:=by rw[<- Array.length_toList,FR.length (S:=S) _ _ (V0k _ _ hfz),CV.size,hok.zsh]
 have hold':(Builtin.firstCells i.size n (.slice base n cap)).run C.P w.drew=.ok olds.toArray w.drew:=by
  cases base with
  |none=>
   have:n=0:=hnone rfl
   subst this
   have:olds=[]:=by simpa using holn
   subst this
   exact run_firstCells_none w.drew i.size _ _ cap
  |some a=>
   refine run_firstCells_some w.drew i.size _ a _ cap olds (by rw[hisz];exact holn) (fun j u hu=>?_)
   obtain⟨hsp,hk⟩:=hold j u hu a rfl
   obtain⟨b,o,s⟩:=a
   simp only at hsp hk
   subst hsp
   rw[Addr.add_mid]
   exact hk
 have hrun:=X05 (P:=C.P) w t tx ty e i z hu hi hz base n cap olds hold' y m news (by rw[hisz];exact hsrc) hg (by omega) (by rw[hby];exact growslice_fits hg hfit)
 refine⟨_,_,hrun,grownCap_ge _ _ _ _,?_⟩
 have hge:=grownCap_ge w (n+m) cap e
 rw[Array.size_append,size_zeroCells,hzs]
 have hl:(olds++news).toArray.size=(n+m)*te.sh.size:=by
  simp[holn,hsrc.len,Nat.add_mul]
 rw[hl,<- Nat.add_mul]
 congr 1
 omega
theorem grown_var{w0:World}{B:Nat}{S:St}{p:Hp}{w:World}(r:XRel w0 B S p w){te:TI}{l:List CV}{vs rest:List Value}{e:TypeId}{n cap:Nat}(hl:l.length=n)(hsh:∀v∈l,v.shape=te.sh)(hv:FRs S l vs){arr:Array Value}(harr:arr.toList=vs++rest)(hcap:n<=cap)(hsz:arr.size=cap*te.sh.size):
  ∃S',S.ext S'/\XRel w0 B S' (p.new (.var (.n (List.replicate n te.sh)) (.agg l))) (w.drew.alloc (.cells arr e))/\VR S' (.slc p.n [] 0 n) (.slice (some ⟨w.heap.size,0,none⟩) n cap):=by
 have hf:=r.r.fresh S.n (Nat.le_refl _)
 have hs:CV.shape (.agg l)=.n (List.replicate n te.sh):=by rw[CV.shape,X0o hsh,hl]
 let loc:Loc:=.var w.heap.size (CV.shape (.agg l)) arr.size
 have hle:S.le (S.named S.n loc):=St.le_named hf.1
 have hext:S.ext (S.named S.n loc):=St.ext_named (Nat.le_refl _) hf.1
 have hK:∀o,S.K w.heap.size o=none:=fun o=>by
  cases hk:S.K w.heap.size o with
  |none=>rfl
  |some x=>have:=Z0h (r.r.kcell _ _ _ hk);omega
 have hheap:∀b,b<w.heap.size->(w.drew.alloc (.cells arr e)).heap[b]?=w.heap[b]?:=fun b hb=>Below.heap_alloc w.drew _ b hb
 have hnew:(w.drew.alloc (.cells arr e)).heap[w.heap.size]?=some (.cells arr e (0,0)):=by
  rw[show(w.drew.alloc (.cells arr e)).heap=w.heap.push (.cells arr e) from rfl];simp
 refine⟨S.named S.n loc,hext,⟨?_,?_,Hp.good_new r.good fun sh v e'=>by cases e';exact hs⟩,?_⟩
 ·rw[Hp.new_h,<- r.n]
  refine⟨r.r.drew.below.alloc r.r.size _,?_,fun b o u hk=>?_,fun j hj=>?_,fun j obj lo h1 h2=>?_,fun j k oj ok lj lk hjk h1 h2 h3 h4=>?_⟩
  ·have:=r.r.size;rw[show(w.drew.alloc (.cells arr e)).heap=w.heap.push (.cells arr e) from rfl,Array.size_push];omega
  ·have:=r.r.kcell b o u hk
   rw[K0g (w:=w) (hheap b (Z0h this))];exact this
  ·have hj':S.n+1<=j:=Nat.le_trans (Nat.le_max_right _ _) hj
   refine⟨by rw[St.named_ne (by omega)];exact(r.r.fresh j (by omega)).1,by rw[X0g _ _ (by omega)];exact(r.r.fresh j (by omega)).2⟩
  ·by_cases hj:j=S.n
   ·subst hj
    rw[V0h]at h1;cases h1
    rw[St.named_μ]at h2;cases h2
    exact⟨⟨rfl,⟨arr,e,vs,rest,hnew,harr,rfl,by simp only[FR];exact FRs.mono hle _ _ hv⟩,hK⟩,r.r.size⟩
   ·rw[X0g _ _ hj]at h1
    rw[St.named_ne hj]at h2
    have k:=r.r.live j obj lo h1 h2
    exact⟨k.1.mono hle (hheap _ k.1.lt) (fun _ h=>h),k.2⟩
  ·by_cases hj:j=S.n
   ·subst hj
    have hk:=Ne.symm hjk
    rw[St.named_μ]at h3;cases h3
    rw[X0g _ _ hk]at h2
    rw[St.named_ne hk]at h4
    have:=(r.r.live k ok lk h2 h4).1.lt
    show w.heap.size≠_;omega
   ·rw[X0g _ _ hj]at h1
    rw[St.named_ne hj]at h3
    by_cases hk:k=S.n
    ·subst hk
     rw[St.named_μ]at h4;cases h4
     have:=(r.r.live j oj lj h1 h3).1.lt
     show _≠w.heap.size;omega
    ·rw[X0g _ _ hk]at h2
     rw[St.named_ne hk]at h4
     exact r.r.inj j k oj ok lj lk hjk h1 h2 h3 h4
 ·show max S.n (S.n+1)=Nat.succ p.n
  have:=r.n;omega
 ·rw[V0d rfl];simp only[FR]
  refine⟨⟨w.heap.size,_,List.replicate n te.sh,0,cap,by simp[Shape.sizes],⟨arr.size,by rw[<- r.n];exact St.named_μ,fun _ _=>⟨by simpa using hcap,te.sh.size,fun x hx=>by rw[List.eq_of_mem_replicate hx],by rw[hsz];exact Nat.le_refl _⟩⟩,?_,?_,hcap,by simp⟩,by simp⟩
  ·rw[hs];simp[Shape.sub]
  ·rw[hs];simp[Shape.off]
end
end Go.Cl
end
section
namespace Go.Cl
open Go.RowKit
section
variable (C:Ctx)
def XVal(w0:World)(B:Nat)(S:St)(w:World)(s:Sem Value): XRes->Prop
 |.ret v p'=>∃y w' S',s.run C.P w=.ok y w'/\S.ext S'/\XRel w0 B S' p' w'/\VR S' v y
 |.pan _ _=>False
 |.stuck=>True
theorem K1z{w0:World}{B:Nat}{S:St}{p:Hp}{w:World}(r:XRel w0 B S p w){t tx ty e:TypeId}{te:TI}(hu:C.P.underlying t=some (.slice e))(hte:C.tt e=some te){b:CV}{b' y:Value}{xs:List CV}{news:List Value}
  (hb:VR S b b') (hxs:FRs S xs news) (hxsh:∀v∈xs,v.shape=te.sh) (hne:xs≠[]) (hsrc:SrcX C.P te.sh.size tx e y xs.length news w):
  XVal C w0 B S w (Builtin.append_ #[t,tx] ty #[b',y]) (xappmut p te b xs):=by
 have hok:=C.htt _ _ hte
 have hpos:0<xs.length:=List.length_pos_iff.2 hne
 unfold xappmut
 split
 ·-- a list that is full
  rename_i tl l
  cases hc:(tl.full&&allSh l te.sh&&Nat.ble ((l.length+xs.length)*te.bytes) 140737488355328&&Nat.ble (l.length+xs.length) 9223372036854775807) with
  |false=>trivial
  |true=>
   simp only[Bool.and_eq_true]at hc
   obtain⟨⟨⟨hfull,hl⟩,hfit⟩,h63⟩:=hc
   have hl:=X0s hl
   have hfit:=Nat.le_of_ble_eq_true hfit
   have h63:=Nat.le_of_ble_eq_true h63
   simp only[cond_true]
   obtain⟨base,cap,olds,rfl,hcap,hol,holn,hold,hnone,hex,_⟩:=Q1e hb hl
   have hcap':=hex hfull
   obtain⟨rest,cap',hrun,hge,hsize⟩:=Z00 C r.r (ty:=ty) (n:=l.length) hu hte hsrc (olds:=olds) (cap:=cap) holn (fun j u hu a ha=>by
    obtain⟨h1,h2⟩:=hold j u hu a ha
    exact⟨h1,r.r.kcell _ _ _ h2⟩) (fun h=>by rw[hnone h];rfl) (by omega) hfit h63
   obtain⟨S',k1,k2,k3⟩:=grown_var r (l:=l++xs) (n:=l.length+xs.length) (te:=te) (vs:=olds++news) (rest:=rest.toList) (e:=e) (cap:=cap') (by simp) (fun v hv=>by
    rcases List.mem_append.1 hv with hv|hv
    ·exact hl v hv
    ·exact hxsh v hv) (K0l l hol hxs) (arr:=(olds++news).toArray++rest) (by simp) hge hsize
   exact⟨_,_,S',hrun,k1,k2,k3⟩
 ·-- a list in a variable
  rename_i j n
  split<;>try trivial
  rename_i sh l hj
  cases hc:(Nat.ble n l.length&&Nat.blt 0 l.length&&allSh l te.sh&&Nat.ble ((l.length+xs.length)*te.bytes) 140737488355328&&Nat.ble (l.length+xs.length) 9223372036854775807) with
  |false=>trivial
  |true=>
   simp only[Bool.and_eq_true]at hc
   obtain⟨⟨⟨⟨hn,hlpos⟩,hl⟩,hfit⟩,h63⟩:=hc
   have hn:=Nat.le_of_ble_eq_true hn
   have hlpos:0<l.length:=by simpa using hlpos
   have hl:=X0s hl
   have hfit:=Nat.le_of_ble_eq_true hfit
   have h63:=Nat.le_of_ble_eq_true h63
   simp only[cond_true]
   rw[V0d rfl]at hb;simp only[FR]at hb
   obtain⟨⟨rb,sh0,l0,o,cap,hbe,⟨tot,hμ,htot⟩,hsub,ho,hcap,hol⟩,_⟩:=hb
   have hbe:=(List.cons.inj hbe).1
   have hpi:=get_h hj
   obtain⟨⟨hs0,⟨arr,e0,cs,junk,ha,haj,hat,hf⟩,hK⟩,hB⟩:=r.r.live j _ _ hpi hμ
   simp only[Loc.block]at hB
   simp only[Shape.sub,Option.some.injEq]at hsub
   have hshl:=X0o hl
   have hl0:l0=List.replicate l.length te.sh:=by
    rw[<- hs0,CV.shape,hshl]at hsub
    simpa using hsub.symm
   subst hsub
   subst hl0
   have ho:o=0:=by simp[Shape.off]at ho;exact ho.symm
   subst ho
   obtain⟨hlc,sz,hsz,hcsz⟩:=htot (by trivial) (by trivial)
   have hsz:te.sh.size=sz:=hsz te.sh (List.mem_replicate.2 ⟨by omega,rfl⟩)
   subst hsz
   simp only[List.length_replicate]at hlc hol
   simp only[FR]at hf
   obtain⟨a1,b1,rfl,hf1,hf2,hla1⟩:=V0r l n cs hf
   have hla1:a1.length=n*te.sh.size:=by rw[hla1,hshl,V0e _ _ _ hn]
   have hlb:(a1++b1).length=l.length*te.sh.size:=by rw[FRs.length _ _ hf,Q0w _ hl]
   have hba:b'=.slice (some ⟨rb,0,none⟩) n cap:=by rw[hbe];simp[Shape.sizes]
   subst hba
   have hnl:news.length=xs.length*te.sh.size:=hsrc.len
   obtain⟨i,z,hi,hisz,_⟩:=hok.info
   have hfrz:∀k,w.frozen? ⟨rb,k,none⟩=false:=fun k=>by simp[World.frozen?,ha]
   -- in place
   have room:n+xs.length<=cap->(Builtin.append_ #[t,tx] ty #[.slice (some ⟨rb,0,none⟩) n cap,y]).run C.P w=.ok (.slice (some ⟨rb,0,none⟩) (n+xs.length) cap) (w.setCells rb a1.length news):=fun hroom=>by
    have hrun:=V04 (P:=C.P) w t tx ty e i hu hi rb 0 n cap y xs.length news (by rw[hisz];exact hsrc) hroom (fun k hk=>by
     rw[hisz,V0l ha]
     have h1:(n+xs.length)*te.sh.size<=cap*te.sh.size:=Nat.mul_le_mul_right _ hroom
     rw[Nat.add_mul]at h1
     have:n*te.sh.size+k<arr.size:=by omega
     simp[this]) (fun k hk=>hfrz _)
    rw[hisz,Nat.zero_add,<- hla1]at hrun
    exact hrun
   have hoth:∀b,b≠rb->(w.setCells rb a1.length news).heap[b]?=w.heap[b]?:=fun b hb=>Q0k hb _ _ _
   cases hin:Nat.ble (n+xs.length) l.length with
   |true=>
    have hin:=Nat.le_of_ble_eq_true hin
    simp only[cond_true]
    obtain⟨a2,b2,rfl,hf3,hf4,hla2⟩:=V0r (l.drop n) xs.length b1 hf2
    have hdl:(l.drop n).length=l.length-n:=by simp
    have hdsh:CV.shapes (l.drop n)=List.replicate (l.length-n) te.sh:=by rw[X0o (fun v hv=>hl v (List.mem_of_mem_drop hv)),hdl]
    have hla2:a2.length=news.length:=by rw[hla2,hdsh,V0e _ _ _ (by omega),hnl]
    obtain⟨arr',hA,hA'⟩:=V0n news a1 a2 (b2++junk) w arr ha (by rw[haj];simp) hla2
    have hFR:FR S (.agg (l.take n++xs++l.drop (n+xs.length))) (a1++news++b2):=by
     simp only[FR]
     rw[List.drop_drop]at hf4
     exact K0l _ (K0l _ hf1 hxs) hf4
    have hsh':CV.shape (.agg (l.take n++xs++l.drop (n+xs.length)))=.n (List.replicate l.length te.sh):=by
     rw[CV.shape,X0o (sh:=te.sh) (fun v hv=>by
      rcases List.mem_append.1 hv with hv|hv
      ·rcases List.mem_append.1 hv with hv|hv
       ·exact hl v (List.mem_of_mem_take hv)
       ·exact hxsh v hv
      ·exact hl v (List.mem_of_mem_drop hv))]
     congr 2
     simp;omega
    have hr':=r.r.recell hpi hμ (v':=.agg (l.take n++xs++l.drop (n+xs.length))) (w':=w.setCells rb a1.length news) (Y0l hB _ _ _ r.r.below) (Y0m _ _ _) hoth
     ⟨arr',e0,a1++news++b2,junk,hA,by rw[hA'];simp,by
      rw[<- hat,<- Array.length_toList,<- Array.length_toList,hA',haj];simp[hla2],hFR⟩ hsh'
    refine⟨_,_,S,room (by omega),St.ext.refl _,⟨by rw[Hp.set_h];exact hr',r.n,Hp.good_set r.good fun sh' v' e'=>?_⟩,?_⟩
    ·cases e'
     rw[hsh',<- r.good j _ _ hj,CV.shape,hshl]
    ·rw[V0d rfl];simp only[FR]
     exact⟨⟨rb,_,List.replicate l.length te.sh,0,cap,by simp[Shape.sizes],⟨tot,hμ,fun _ _=>⟨by simpa using hlc,te.sh.size,fun x hx=>by rw[List.eq_of_mem_replicate hx],hcsz⟩⟩,rfl,rfl,by omega,by simpa using hin⟩,by simp⟩
   |false=>
    have hin:¬(n+xs.length<=l.length):=fun h=>by rw[Nat.ble_eq_true_of_le h]at hin;cases hin
    simp only[cond_false]
    have hall:∀v∈l.take n++xs,v.shape=te.sh:=fun v hv=>by
     rcases List.mem_append.1 hv with hv|hv
     ·exact hl v (List.mem_of_mem_take hv)
     ·exact hxsh v hv
    have hlen':(l.take n++xs).length=n+xs.length:=by simp;omega
    have hsh':CV.shape (.agg (l.take n++xs))=.n (List.replicate (n+xs.length) te.sh):=by rw[CV.shape,X0o hall,hlen']
    by_cases hroom:n+xs.length<=cap
    ·-- it grows where it is
     have hle:(n+xs.length)*te.sh.size<=arr.size:=by rw[hat];exact Nat.le_trans (Nat.mul_le_mul_right _ hroom) hcsz
     have hlen:arr.toList.length=arr.size:=Array.length_toList
     rw[haj]at hlen
     simp only[List.length_append]at hlen
     rw[Nat.add_mul]at hle
     obtain⟨arr',hA,hA'⟩:=V0n news a1 ((b1++junk).take news.length) ((b1++junk).drop news.length) w arr ha (by rw[haj,List.append_assoc,List.append_assoc,List.take_append_drop]) (by simp;omega)
     have hFR:FR S (.agg (l.take n++xs)) (a1++news):=by
      simp only[FR];exact K0l _ hf1 hxs
     have hr':=r.r.regrow hpi hμ (v':=.agg (l.take n++xs)) (w':=w.setCells rb a1.length news) (Y0l hB _ _ _ r.r.below) (Y0m _ _ _) hoth
      ⟨arr',e0,a1++news,(b1++junk).drop news.length,hA,hA',by
       rw[<- hat,<- Array.length_toList,<- Array.length_toList,hA',haj];simp;omega,hFR⟩
     have hf:=r.r.fresh S.n (Nat.le_refl _)
     refine⟨_,_,_,room hroom,St.ext_named (Nat.le_refl _) hf.1,⟨by rw[Hp.new_h,Hp.set_h,show(p.set j none).n=S.n from r.n.symm];exact hr',?_,Hp.good_new (Hp.good_set r.good fun sh' v' e'=>by cases e') fun sh' v' e'=>by cases e';exact hsh'⟩,?_⟩
     ·show max S.n (S.n+1)=Nat.succ p.n
      have:=r.n;omega
     ·rw[V0d rfl];simp only[FR]
      refine⟨⟨rb,_,List.replicate (n+xs.length) te.sh,0,cap,by simp[Shape.sizes],⟨tot,by rw[<- r.n];exact St.named_μ,fun _ _=>⟨by simpa using hroom,te.sh.size,fun x hx=>by rw[List.eq_of_mem_replicate hx],hcsz⟩⟩,by rw[hsh'];simp[Shape.sub],by rw[hsh'];simp[Shape.off],hroom,by simp⟩,by simp⟩
    ·-- it moves
     have r2:XRel w0 B S (p.set j none) w:=⟨by
      rw[Hp.set_h]
      exact r.r.drop fun k=>by
       by_cases e:k=j
       ·subst e;exact .inl (V0h _ _ _)
       ·exact .inr (X0g _ _ e),r.n,Hp.good_set r.good fun sh' v' e'=>by cases e'⟩
     have hnm:n+xs.length<=l.length+xs.length:=by omega
     obtain⟨rest,cap',hrun,hge,hsize⟩:=Z00 C r.r (ty:=ty) (n:=n) (base:=some ⟨rb,0,none⟩) hu hte hsrc (olds:=a1) (cap:=cap) hla1 (fun k u hk a ha'=>by
      cases ha'
      refine⟨rfl,?_⟩
      show w.cell? ⟨rb,0+k,none⟩=some u
      rw[V0l ha,Nat.zero_add,<- Array.getElem?_toList,haj,List.append_assoc,List.getElem?_append_left (List.getElem?_eq_some_iff.1 hk).1];exact hk) (fun h=>by cases h) (by omega) (Nat.le_trans (Nat.mul_le_mul_right _ hnm) hfit) (by omega)
     obtain⟨S',k1,k2,k3⟩:=grown_var r2 (l:=l.take n++xs) (n:=n+xs.length) (te:=te) (vs:=a1++news) (rest:=rest.toList) (e:=e) (cap:=cap') hlen' hall (K0l _ hf1 hxs) (arr:=(a1++news).toArray++rest) (by simp) hge hsize
     exact⟨_,_,S',hrun,k1,k2,k3⟩
 ·trivial
end
end Go.Cl
end
section
namespace Go.Cl
open Go.RowKit
def World.putMap(w:World)(rb:Nat)(o:Go.Obj): World:={w with heap:=w.heap.setIfInBounds rb o}
theorem V1c{w:World}{rb b:Nat}{o:Go.Obj}(h:b≠rb): (World.putMap w rb o).heap[b]?=w.heap[b]?:=by
 simp[World.putMap,Array.getElem?_setIfInBounds_ne (Ne.symm h)]
theorem putMap_same{w:World}{rb:Nat}{o:Go.Obj}(h:rb<w.heap.size): (World.putMap w rb o).heap[rb]?=some o:=by
 simp[World.putMap,h]
theorem R.remap{w0:World}{B:Nat}{S:St}{h:Heap}{w:World}(r:R w0 B S h w){i rb:Nat}{l l':List (CV×CV)}{es':Array MapEntry}{clock':Nat}(hi:h i=some (.map l))(hμ:S.μ i=some (.map rb))(he:Entries S l' es'.toList):
  R w0 B S (upd h i (some (.map l'))) (World.putMap w rb (.map es' clock')):=by
 obtain⟨⟨⟨es,clock,hh,_⟩,hK⟩,hB⟩:=r.live i _ _ hi hμ
 simp only[Loc.block]at hB
 have hlt:rb<w.heap.size:=(Array.getElem?_eq_some_iff.1 hh).1
 have hbel:Below B w0 (World.putMap w rb (.map es' clock')):=r.below.trans ⟨rfl,rfl,rfl,by simp[World.putMap],fun k hk=>V1c (by omega)⟩
 refine⟨hbel,by simpa[World.putMap]using r.size,fun b o u hk=>?_,fun j hj=>?_,fun j obj loc h1 h2=>?_,fun j k oj ok lj lk hjk h1 h2 h3 h4=>?_⟩
 ·have hbr:b≠rb:=fun e=>by subst e;rw[hK]at hk;cases hk
  rw[K0g (V1c hbr)];exact r.kcell b o u hk
 ·refine⟨(r.fresh j hj).1,?_⟩
  have hji:j≠i:=fun e=>by subst e;rw[(r.fresh _ hj).1]at hμ;cases hμ
  rw[X0g _ _ hji];exact(r.fresh j hj).2
 ·by_cases hj:j=i
  ·subst hj
   rw[V0h]at h1;cases h1
   rw[hμ]at h2;cases h2
   exact⟨⟨⟨es',clock',putMap_same hlt,he⟩,hK⟩,hB⟩
  ·rw[X0g _ _ hj]at h1
   have k:=r.live j obj loc h1 h2
   exact⟨k.1.mono (St.le.refl _) (V1c (r.inj j i obj _ loc _ hj h1 hi h2 hμ)) (fun _ h=>h),k.2⟩
 ·have get:∀j oj,upd h i (some (.map l')) j=some oj->∃oj',h j=some oj':=fun j oj hj=>by
   by_cases e:j=i
   ·subst e;exact⟨_,hi⟩
   ·rw[X0g _ _ e]at hj;exact⟨_,hj⟩
  obtain⟨_,h1'⟩:=get j oj h1
  obtain⟨_,h2'⟩:=get k ok h2
  exact r.inj j k _ _ lj lk hjk h1' h2' h3 h4
theorem XRel.newMap{w0:World}{B:Nat}{S:St}{p:Hp}{w:World}(r:XRel w0 B S p w):
  S.ext (S.named S.n (.map w.heap.size))/\XRel w0 B (S.named S.n (.map w.heap.size)) (p.new (.map [])) (w.alloc (.map #[] 0))/\VR (S.named S.n (.map w.heap.size)) (.mapr p.n) (.map (some w.heap.size)):=by
 have hf:=r.r.fresh S.n (Nat.le_refl _)
 have hle:=St.le_named (l:=.map w.heap.size) hf.1
 have hheap:∀b,b<w.heap.size->(w.alloc (.map #[] 0)).heap[b]?=w.heap[b]?:=fun b hb=>Below.heap_alloc w _ b hb
 refine⟨St.ext_named (Nat.le_refl _) hf.1,⟨?_,?_,Hp.good_new r.good fun sh' v' e'=>by cases e'⟩,?_⟩
 ·rw[Hp.new_h,<- r.n]
  refine⟨r.r.below.alloc r.r.size _,?_,fun b o u hk=>?_,fun j hj=>?_,fun j obj lo h1 h2=>?_,fun j k oj ok lj lk hjk h1 h2 h3 h4=>?_⟩
  ·have:=r.r.size;rw[show(w.alloc (.map #[] 0)).heap=w.heap.push (.map #[] 0) from rfl,Array.size_push];omega
  ·have:=r.r.kcell b o u hk
   rw[K0g (w:=w) (hheap b (Z0h this))];exact this
  ·have hj':S.n+1<=j:=Nat.le_trans (Nat.le_max_right _ _) hj
   exact⟨by rw[St.named_ne (by omega)];exact(r.r.fresh j (by omega)).1,by rw[X0g _ _ (by omega)];exact(r.r.fresh j (by omega)).2⟩
  ·by_cases hj:j=S.n
   ·subst hj
    rw[V0h]at h1;cases h1
    rw[St.named_μ]at h2;cases h2
    refine⟨⟨⟨#[],0,by rw[show(w.alloc (.map #[] 0)).heap=w.heap.push (.map #[] 0) from rfl];simp,rfl,fun i x e h=>by simp at h⟩,fun o=>?_⟩,r.r.size⟩
    cases hk:S.K w.heap.size o with
    |none=>exact hk
    |some x=>have:=Z0h (r.r.kcell _ _ _ hk);omega
   ·rw[X0g _ _ hj]at h1
    rw[St.named_ne hj]at h2
    have k:=r.r.live j obj lo h1 h2
    exact⟨k.1.mono hle (hheap _ k.1.lt) (fun _ h=>h),k.2⟩
  ·by_cases hj:j=S.n
   ·subst hj
    have hk:=Ne.symm hjk
    rw[St.named_μ]at h3;cases h3
    rw[X0g _ _ hk]at h2
    rw[St.named_ne hk]at h4
    have:=(r.r.live k ok lk h2 h4).1.lt
    show w.heap.size≠_;omega
   ·rw[X0g _ _ hj]at h1
    rw[St.named_ne hj]at h3
    by_cases hk:k=S.n
    ·subst hk
     rw[St.named_μ]at h4;cases h4
     have:=(r.r.live j oj lj h1 h3).1.lt
     show _≠w.heap.size;omega
    ·rw[X0g _ _ hk]at h2
     rw[St.named_ne hk]at h4
     exact r.r.inj j k oj ok lj lk hjk h1 h2 h3 h4
 ·show max S.n (S.n+1)=Nat.succ p.n
  have:=r.n;omega
 ·rw[V0d rfl];simp only[FR]
  exact⟨⟨_,rfl,by rw[<- r.n];exact St.named_μ⟩,by simp⟩
def findK(q:IntKind)(k:Int): Nat->List (CV×CV)->Option (Option (Nat×CV))
 |_,[]=>some none
 |i,(a,v)::l=>match a with
  |.sc (.int q' b)=>if q'=q then(bif decide (k=b)then some (some (i,v))else findK q k (i+1) l)else none
  |_=>none
theorem K0o{S:St}{q:IntKind}{k:Int}{qt:IntKind}: ∀(l:List (CV×CV)) (es:List MapEntry) (i:Nat) (res:Option (Nat×CV)),Entries S l es->findK q k i l=some res->
  match res with
  |none=>Instr.findNow (.int qt) (.int q k) es i=some none
  |some (j,v)=>∃x,Instr.findNow (.int qt) (.int q k) es i=some (some (j,x))/\VR S v x/\i<=j/\∃e,es[j-i]?=some e/\e.key=.int q k/\∃a,l[j-i]?=some (a,v)
 |[],[],i,res,_,h=>by simp only[findK,Option.some.injEq]at h;subst h;rfl
 |[],_::_,_,_,he,_=>by have:=he.1;simp at this
 |_::_,[],_,_,he,_=>by have:=he.1;simp at this
 |(a,v)::l,e::es,i,res,he,h=>by
  have h0:=he.2 0 (a,v) e rfl rfl
  have he':Entries S l es:=⟨by have:=he.1;simpa using this,fun j x e' h1 h2=>he.2 (j+1) x e' h1 h2⟩
  simp only[findK]at h
  split at h<;>try(cases h;done)
  rename_i q' b
  split at h<;>try(cases h;done)
  rename_i hq
  subst hq
  have hk:=(VR_sc.1 h0.1).1
  cases hb:decide (k=b) with
  |true=>
   rw[hb]at h
   simp only[cond_true,Option.some.injEq]at h
   subst h
   have hkb:=of_decide_eq_true hb
   subst hkb
   refine⟨e.val,?_,h0.2,Nat.le_refl _,e,by simp,hk,.sc (.int q' k),by simp⟩
   simp[Instr.findNow,hk,Instr.sameNow]
  |false=>
   rw[hb]at h
   simp only[cond_false]at h
   have hkb:k≠b:=of_decide_eq_false hb
   have ih:=K0o (qt:=qt) l es (i+1) res he' h
   have hstep:Instr.findNow (.int qt) (.int q' k) (e::es) i=Instr.findNow (.int qt) (.int q' k) es (i+1):=by
    have hkb':(k==b)=false:=by simpa using hkb
    simp[Instr.findNow,hk,Instr.sameNow,hkb']
   cases res with
   |none=>simp only at ih ⊢;rw[hstep];exact ih
   |some jv=>
    obtain⟨j,u⟩:=jv
    simp only at ih ⊢
    obtain⟨x,k1,k2,k3,e',k4,k5,a',k6⟩:=ih
    refine⟨x,by rw[hstep];exact k1,k2,by omega,e',?_,k5,a',?_⟩
    ·rw[show j-i=(j-(i+1))+1 by omega];simpa using k4
    ·rw[show j-i=(j-(i+1))+1 by omega];simpa using k6
section
variable (C:Ctx)
def mapKV(t:TypeId): Option (TypeId×TI):=
 match C.tt t with
 |some ⟨.base (.map kt e),_,_,_⟩=>match C.tt kt,C.tt e with
  |some ⟨.base (.int _),_,_,_⟩,some te=>some (e,te)
  |_,_=>none
 |_=>none
theorem Y04{t e:TypeId}{te:TI}(h:mapKV C t=some (e,te)): ∃kt q,C.P.underlying t=some (.map kt e)/\C.P.underlying kt=some (.int q)/\C.tt e=some te:=by
 unfold mapKV at h
 split at h<;>try(cases h;done)
 rename_i kt e' sh by_ ze h1
 split at h<;>try(cases h;done)
 rename_i q sh' by' ze' te' h2 h3
 cases h
 exact⟨kt,q,(C.htt _ _ h1).d.1,(C.htt _ _ h2).d.1,h3⟩
noncomputable def entriesOf(p:Hp)(x:CV): Option (List (CV×CV)):=
 match x with
 |.sc (.map none)=>some []
 |.mapr i=>match p.t.get i with
  |some (.map l)=>some l
  |_=>none
 |_=>none
theorem Y00{p:Hp}{i:Nat}{l:List (CV×CV)}(hi:p.t.get i=some (.map l)): p.h i=some (.map l):=by
 simp[Hp.h,hi,XObj.obj]
def xfound(te:TI)(ok:Bool): Option (Nat×CV)->Option CV
 |some (_,v)=>bif shOk v te.sh then some (bif ok then .tup [v,.sc (.bool true)]else v)else none
 |none=>some (bif ok then .tup [te.zero,.sc (.bool false)]else te.zero)
noncomputable def xlookup(p:Hp)(t:TypeId)(x k:CV)(ok:Bool): XRes:=
 match mapKV C t,k with
 |some (_,te),.sc (.int q n)=>match entriesOf p x with
  |some l=>match findK q n 0 l with
   |some res=>ofOpt p (xfound te ok res)
   |none=>.stuck
  |none=>.stuck
 |_,_=>.stuck
theorem K0j{kt:TypeId}{q:IntKind}(h:C.P.underlying kt=some (.int q))(b:Bool)(n:Nat)(v:Value)(w:World): (Instr.checkKey b (n+1) kt v).run C.P w=.ok () w:=by
 unfold Instr.checkKey
 simp only[Sem.run_bind,run_underlying h,Result.andThen_ok]
 rfl
theorem Y1u{w0:World}{B:Nat}{S:St}{p:Hp}{w:World}(r:XRel w0 B S p w){dst:Option Tmp}{t ty:TypeId}{x k:Operand}{ok:Bool}{xv kv:CV}{pos:String}{aft:Array Edge}{gd:Option (Nat×Bool)}{a:Act}(hx:VR S xv (a.eval x))(hk:VR S kv (a.eval k)):
  XGoes C w0 B S ⟨dst,.lookup t x k ok,ty,pos,aft,gd⟩ a w (xlookup C p t xv kv ok):=by
 unfold xlookup
 split<;>try trivial
 rename_i e te q n hkv
 split<;>try trivial
 rename_i l hl
 split<;>try trivial
 rename_i res hres
 obtain⟨kt,qt,hu,huk,hte⟩:=Y04 C hkv
 have hk':=(VR_sc.1 hk).1
 have hes:∃es:Array MapEntry,((a.eval x=.map none/\es=#[])\/∃rb clock,a.eval x=.map (some rb)/\(getObj rb).run C.P w=.ok (.map es clock) w)/\Entries S l es.toList:=by
  unfold entriesOf at hl
  split at hl<;>try(cases hl;done)
  ·cases hl
   have hx':=(VR_sc.1 hx).1
   exact⟨#[],.inl ⟨hx',rfl⟩,rfl,fun i x e h=>by simp at h⟩
  ·rename_i i
   split at hl<;>try(cases hl;done)
   rename_i l' hi
   cases hl
   rw[V0d rfl]at hx;simp only[FR]at hx
   obtain⟨⟨rb,hxe,hμ⟩,_⟩:=hx
   have hxe:=(List.cons.inj hxe).1
   obtain⟨⟨⟨es,clock,hh,hent⟩,_⟩,_⟩:=r.r.live i _ _ (Y00 hi) hμ
   exact⟨es,.inr ⟨rb,clock,hxe,by simp[getObj,Sem.run,hh]⟩,hent⟩
 obtain⟨es,hes,hent⟩:=hes
 have hfind:=K0o (qt:=qt) l es.toList 0 res hent hres
 -- the model's run
 have hrun:∀(v:Value) (b:Bool),(match(generalizing:=false) res with
   |none=>(∃z,(zeroValue e).run C.P w=.ok z w/\v=z)/\b=false
   |some _=>(∃j,Instr.findNow (.int qt) (.int q n) es.toList 0=some (some (j,v)))/\b=true)->
   (execOp a.eval ⟨dst,.lookup t x k ok,ty,pos,aft,gd⟩).run C.P w=.ok (.value (if ok then .tuple #[v,.bool b]else v)) w:=by
  intro v b hvb
  show(do pure (.value (<- Instr.lookup t (a.eval x) (a.eval k) ok)):Sem Next).run C.P w=_
  rcases hes with⟨hxe,rfl⟩|⟨rb,clock,hxe,hg⟩<;>rw[hxe,hk']<;>cases res
  ·obtain⟨⟨z,hz,rfl⟩,rfl⟩:=hvb
   simp only at hfind
   simp[Instr.lookup,run_underlying hu,K0j C huk,Instr.findKey,run_underlying huk,hfind,hz]
  ·rename_i jv
   obtain⟨⟨j,hj⟩,rfl⟩:=hvb
   simp[Instr.lookup,run_underlying hu,K0j C huk,Instr.findKey,run_underlying huk,hj]
  ·obtain⟨⟨z,hz,rfl⟩,rfl⟩:=hvb
   simp only at hfind
   simp[Instr.lookup,run_underlying hu,hg,K0j C huk,Instr.findKey,run_underlying huk,hfind,hz]
  ·rename_i jv
   obtain⟨⟨j,hj⟩,rfl⟩:=hvb
   simp[Instr.lookup,run_underlying hu,hg,K0j C huk,Instr.findKey,run_underlying huk,hj]
 cases res with
 |none=>
  obtain⟨z,hz,hvz⟩:=VR_zero C (S:=S) hte (w:=w)
  have:=hrun z false ⟨⟨z,hz,rfl⟩,rfl⟩
  simp only[xfound,ofOpt]
  cases ok with
  |true=>exact XGoes.still C r this (V1a hvz (VR_sc.2 ⟨rfl,rfl⟩))
  |false=>exact XGoes.still C r this hvz
 |some jv=>
  obtain⟨j,v⟩:=jv
  simp only at hfind
  obtain⟨y,h1,h2,_⟩:=hfind
  have:=hrun y true ⟨⟨j,h1⟩,rfl⟩
  simp only[xfound]
  cases hb:shOk v te.sh with
  |false=>trivial
  |true=>
   simp only[cond_true,ofOpt]
   cases ok with
   |true=>exact XGoes.still C r this (V1a h2 (VR_sc.2 ⟨rfl,rfl⟩))
   |false=>exact XGoes.still C r this h2
end
end Go.Cl
end
section
namespace Go.Cl
open Go.RowKit
section
variable (C:Ctx)
theorem Entries.set{S:St}{l:List (CV×CV)}{es:Array MapEntry}(he:Entries S l es.toList){j:Nat}{kv v:CV}{f:MapEntry->MapEntry}(hf:∀e,VR S kv (f e).key/\VR S v (f e).val): Entries S (l.set j (kv,v)) (es.modify j f).toList:=by
 refine⟨by have:=he.1;simpa using this,fun i x e h1 h2=>?_⟩
 rw[Array.getElem?_toList,Array.getElem?_modify]at h2
 by_cases hij:j=i
 ·subst hij
  rw[if_pos rfl]at h2
  have hx:x=(kv,v):=by
   rw[List.getElem?_set]at h1
   split at h1
   ·split at h1
    ·exact(Option.some.inj h1).symm
    ·cases h1
   ·rename_i h;exact absurd rfl h
  subst hx
  cases hes:es[j]? with
  |none=>simp[hes]at h2
  |some e0=>simp[hes]at h2;subst h2;exact hf e0
 ·rw[if_neg hij]at h2
  rw[List.getElem?_set_ne hij]at h1
  exact he.2 i x e h1 (by rw[Array.getElem?_toList];exact h2)
theorem Entries.push{S:St}{l:List (CV×CV)}{es:Array MapEntry}(he:Entries S l es.toList){kv v:CV}{e:MapEntry}(hk:VR S kv e.key)(hv:VR S v e.val): Entries S (l++[(kv,v)]) (es.push e).toList:=by
 have hl:=he.1
 refine⟨by simp[hl],fun i x e' h1 h2=>?_⟩
 rw[Array.toList_push]at h2
 rcases Nat.lt_or_ge i l.length with hi|hi
 ·rw[List.getElem?_append_left hi]at h1
  rw[List.getElem?_append_left (by omega)]at h2
  exact he.2 i x e' h1 h2
 ·rw[List.getElem?_append_right hi]at h1
  rw[List.getElem?_append_right (by omega)]at h2
  rw[hl]at h1
  cases hd:i-es.toList.length with
  |zero=>
   rw[hd]at h1 h2
   simp at h1 h2
   subst h1;subst h2
   exact⟨hk,hv⟩
  |succ n=>rw[hd]at h1;simp at h1
theorem Entries.erase{S:St}{l:List (CV×CV)}{es:Array MapEntry}(he:Entries S l es.toList)(j:Nat): Entries S (l.eraseIdx j) (es.eraseIdxIfInBounds j).toList:=by
 have hl:=he.1
 rw[Array.toList_eraseIdxIfInBounds]
 refine⟨by rw[List.length_eraseIdx,List.length_eraseIdx,hl],fun i x e h1 h2=>?_⟩
 rw[List.getElem?_eraseIdx]at h1 h2
 split at h1<;>rename_i hij
 ·rw[if_pos hij]at h2;exact he.2 i x e h1 h2
 ·rw[if_neg hij]at h2;exact he.2 _ x e h1 h2
noncomputable def xupdate(p:Hp)(t:TypeId)(x k v:CV): XRes:=
 match mapKV C t,k,x with
 |some (_,_),.sc (.int q n),.mapr i=>match p.t.get i with
  |some (.map l)=>match findK q n 0 l with
   |some (some (j,_))=>.ret (.tup []) (p.set i (some (.map (l.set j (.sc (.int q n),v)))))
   |some none=>.ret (.tup []) (p.set i (some (.map (l++[(.sc (.int q n),v)]))))
   |none=>.stuck
  |_=>.stuck
 |_,_,_=>.stuck
theorem Z0m{P:Program}{w:World}{r:Nat}{es:Array MapEntry}{clock:Nat}(o:Go.Obj)(hb:w.heap[r]?=some (.map es clock)): (setObj r o).run P w=.ok () (World.putMap w r o):=by
 simp[setObj,Sem.run,hb,World.putMap]
theorem run_keyStays{P:Program}{w:World}{q:IntKind}{n:Int}: (Instr.keyThatStays (.int q n) (.int q n)).run P w=.ok (.int q n) w:=by
 simp[Instr.keyThatStays,Instr.sameBits]
theorem Y1r{w0:World}{B:Nat}{S:St}{p:Hp}{w:World}(r:XRel w0 B S p w){dst:Option Tmp}{t ty:TypeId}{x k y:Operand}{xv kv yv:CV}{pos:String}{aft:Array Edge}{gd:Option (Nat×Bool)}{a:Act}(hx:VR S xv (a.eval x))(hk:VR S kv (a.eval k))(hy:VR S yv (a.eval y)):
  XGoes C w0 B S ⟨dst,.mapUpdate t x k y,ty,pos,aft,gd⟩ a w (xupdate C p t xv kv yv):=by
 unfold xupdate
 split<;>try trivial
 rename_i e te q n i hkv
 split<;>try trivial
 rename_i l hi
 obtain⟨kt,qt,hu,huk,hte⟩:=Y04 C hkv
 have hk':=(VR_sc.1 hk).1
 rw[V0d rfl]at hx;simp only[FR]at hx
 obtain⟨⟨rb,hxe,hμ⟩,_⟩:=hx
 have hxe:=(List.cons.inj hxe).1
 obtain⟨⟨⟨es,clock,hh,hent⟩,_⟩,_⟩:=r.r.live i _ _ (Y00 hi) hμ
 have hg:(getObj rb).run C.P w=.ok (.map es clock) w:=by simp[getObj,Sem.run,hh]
 split<;>try trivial
 ·rename_i j v hres
  have hfind:=K0o (qt:=qt) l es.toList 0 _ hent hres
  simp only at hfind
  obtain⟨z,h1,_,_,e0,h2,h3,_⟩:=hfind
  simp only[Nat.sub_zero,Array.getElem?_toList]at h2
  intro next Q hn
  have hrun:(execOp a.eval ⟨dst,.mapUpdate t x k y,ty,pos,aft,gd⟩).run C.P w=.ok .skip (World.putMap w rb (.map (es.modify j fun e=>{e with key:=.int q n,val:=a.eval y}) clock)):=by
   show(do Instr.mapUpdate t (a.eval x) (a.eval k) (a.eval y);pure Next.skip:Sem Next).run C.P w=_
   rw[hxe,hk']
   simp[Instr.mapUpdate,run_underlying hu,hg,K0j C huk,Instr.findKey,run_underlying huk,h1,h2,h3,run_keyStays,Z0m _ hh]
  unfold Oper.wp
  rw[hrun]
  refine hn S undef _ (St.ext.refl _) ⟨by rw[Hp.set_h];exact r.r.remap (Y00 hi) hμ (Entries.set hent fun e=>⟨VR_sc.2 ⟨rfl,rfl⟩,hy⟩),r.n,Hp.good_set r.good fun sh v e=>by cases e⟩ V0p
 ·rename_i hres
  have hfind:=K0o (qt:=qt) l es.toList 0 _ hent hres
  simp only at hfind
  intro next Q hn
  have hrun:(execOp a.eval ⟨dst,.mapUpdate t x k y,ty,pos,aft,gd⟩).run C.P w=.ok .skip (World.putMap w rb (.map (es.push {key:=.int q n,val:=a.eval y,born:=clock}) (clock+1))):=by
   show(do Instr.mapUpdate t (a.eval x) (a.eval k) (a.eval y);pure Next.skip:Sem Next).run C.P w=_
   rw[hxe,hk']
   simp[Instr.mapUpdate,run_underlying hu,hg,K0j C huk,Instr.findKey,run_underlying huk,hfind,Z0m _ hh]
  unfold Oper.wp
  rw[hrun]
  refine hn S undef _ (St.ext.refl _) ⟨by rw[Hp.set_h];exact r.r.remap (Y00 hi) hμ (Entries.push hent (VR_sc.2 ⟨rfl,rfl⟩) hy),r.n,Hp.good_set r.good fun sh v e=>by cases e⟩ V0p
noncomputable def xdelete(p:Hp)(t:TypeId)(x k:CV): XRes:=
 match mapKV C t,k,x with
 |some (_,_),.sc (.int q n),.mapr i=>match p.t.get i with
  |some (.map l)=>match findK q n 0 l with
   |some (some (j,_))=>.ret (.tup []) (p.set i (some (.map (l.eraseIdx j))))
   |some none=>.ret (.tup []) (p.set i (some (.map l)))
   |none=>.stuck
  |_=>.stuck
 |_,_,_=>.stuck
theorem Y1s{w0:World}{B:Nat}{S:St}{p:Hp}{w:World}(r:XRel w0 B S p w){dst:Option Tmp}{t ty:TypeId}{x k:Operand}{args:Array Operand}{ts:Array TypeId}{xv kv:CV}{pos:String}{aft:Array Edge}{gd:Option (Nat×Bool)}{a:Act}(ha:args=#[x,k])(hts:ts[0]?=some t)(hx:VR S xv (a.eval x))(hk:VR S kv (a.eval k)):
  XGoes C w0 B S ⟨dst,.call ⟨.builtin .delete,args,ts⟩,ty,pos,aft,gd⟩ a w (xdelete C p t xv kv):=by
 subst ha
 unfold xdelete
 split<;>try trivial
 rename_i e te q n i hkv
 split<;>try trivial
 rename_i l hi
 obtain⟨kt,qt,hu,huk,hte⟩:=Y04 C hkv
 have hk':=(VR_sc.1 hk).1
 rw[V0d rfl]at hx;simp only[FR]at hx
 obtain⟨⟨rb,hxe,hμ⟩,_⟩:=hx
 have hxe:=(List.cons.inj hxe).1
 obtain⟨⟨⟨es,clock,hh,hent⟩,_⟩,_⟩:=r.r.live i _ _ (Y00 hi) hμ
 have hg:(getObj rb).run C.P w=.ok (.map es clock) w:=by simp[getObj,Sem.run,hh]
 split<;>try trivial
 ·rename_i j v hres
  have hfind:=K0o (qt:=qt) l es.toList 0 _ hent hres
  simp only at hfind
  obtain⟨z,h1,_⟩:=hfind
  intro next Q hn
  have hrun:(execOp a.eval ⟨dst,.call ⟨.builtin .delete,#[x,k],ts⟩,ty,pos,aft,gd⟩).run C.P w=.ok (.value (.tuple #[])) (World.putMap w rb (.map (es.eraseIdxIfInBounds j) clock)):=by
   obtain⟨cs,hexec⟩:=Y0r a.eval .delete #[x,k] ts dst ty pos aft gd
   rw[hexec]
   simp only[builtin,Sem.run_bind]
   simp[hxe,hk',Builtin.delete_,hts,run_underlying hu,hg,K0j C huk,Instr.findKey,run_underlying huk,h1,Z0m _ hh]
  unfold Oper.wp
  rw[hrun]
  refine hn S undef _ (St.ext.refl _) ⟨by rw[Hp.set_h];exact r.r.remap (Y00 hi) hμ (Entries.erase hent j),r.n,Hp.good_set r.good fun sh v e=>by cases e⟩ V0p
 ·rename_i hres
  have hfind:=K0o (qt:=qt) l es.toList 0 _ hent hres
  simp only at hfind
  intro next Q hn
  have hrun:(execOp a.eval ⟨dst,.call ⟨.builtin .delete,#[x,k],ts⟩,ty,pos,aft,gd⟩).run C.P w=.ok (.value (.tuple #[])) (World.putMap w rb (.map es clock)):=by
   obtain⟨cs,hexec⟩:=Y0r a.eval .delete #[x,k] ts dst ty pos aft gd
   rw[hexec]
   simp only[builtin,Sem.run_bind]
   simp[hxe,hk',Builtin.delete_,hts,run_underlying hu,hg,K0j C huk,Instr.findKey,run_underlying huk,hfind,Z0m _ hh]
  unfold Oper.wp
  rw[hrun]
  refine hn S undef _ (St.ext.refl _) ⟨by rw[Hp.set_h];exact r.r.remap (Y00 hi) hμ hent,r.n,Hp.good_set r.good fun sh v e=>by cases e⟩ V0p
noncomputable def xmakeMap(p:Hp): XRes:=.ret (.mapr p.n) (p.new (.map []))
theorem K1k{w0:World}{B:Nat}{S:St}{p:Hp}{w:World}(r:XRel w0 B S p w){dst:Option Tmp}{t ty:TypeId}{pos:String}{aft:Array Edge}{gd:Option (Nat×Bool)}{a:Act}:
  XGoes C w0 B S ⟨dst,.makeMap t none,ty,pos,aft,gd⟩ a w (xmakeMap p):=by
 intro next Q hn
 have hrun:(execOp a.eval ⟨dst,.makeMap t none,ty,pos,aft,gd⟩).run C.P w=.ok (.value (.map (some w.heap.size))) (w.alloc (.map #[] 0)):=by
  simp[execOp,Instr.makeMap,newObj]
  rfl
 unfold Oper.wp
 rw[hrun]
 obtain⟨h1,h2,h3⟩:=r.newMap
 exact hn _ _ _ h1 h2 h3
def nilness(v:CV): Option Bool:=
 match v with
 |.lst tl l=>match tl,l with
  |.nil,_=>some true
  |.exact,_=>some false
  |.own _,_=>some false
  |.part,_=>some false
  |.view,_::_=>some false
  |.view,[]=>none
 |.slc _ _ _ _=>some false
 |_=>none
theorem X02{S:St}{v:CV}{x:Value}{b:Bool}(hv:VR S v x)(h:nilness v=some b): ∃base n c,x=.slice base n c/\base.isNone=b:=by
 unfold nilness at h
 split at h
 ·rename_i tl l
  rw[V0d rfl]at hv;simp only[FR]at hv
  obtain⟨hv,_⟩:=hv
  rcases hv with⟨rfl,a0,hm,hx⟩|⟨bb,off,cap,sz,es,hx,_,_,_,_,hf⟩
  ·have hx:=(List.cons.inj hx).1
   refine⟨a0,0,0,hx,?_⟩
   cases tl<;>cases a0<;>simp[Tail.may]at hm h
   exact h.symm
  ·have hx:=(List.cons.inj hx).1
   refine⟨_,_,_,hx,?_⟩
   cases tl<;>simp at h
   ·exact hf.elim
   ·cases l<;>simp at h;exact h.symm
   ·exact h.symm
   ·exact h.symm
   ·exact h.symm
 ·rw[V0d rfl]at hv;simp only[FR]at hv
  obtain⟨⟨rb,sh,l,o,cap,hx,_⟩,_⟩:=hv
  cases h
  exact⟨_,_,_,(List.cons.inj hx).1,rfl⟩
 ·cases h
def isSliceT(t:TypeId): Bool:=
 match C.tt t with
 |some ⟨.base (.slice _),_,_,_⟩=>true
 |_=>false
theorem K03{t:TypeId}(h:isSliceT C t=true): ∃e,C.P.underlying t=some (.slice e):=by
 unfold isSliceT at h
 split at h
 ·rename_i e sh by_ ze h1;exact⟨e,(C.htt _ _ h1).d.1⟩
 ·cases h
def xnil(op:BinOp)(t:TypeId)(v:CV): Option CV:=
 bif isSliceT C t then match op with
  |.eql=>(nilness v).map fun b=>.sc (.bool b)
  |.neq=>(nilness v).map fun b=>.sc (.bool !b)
  |_=>none
 else none
theorem xnil_sound{S:St}{w:World}{dst:Option Tmp}{op:BinOp}{t ty yt:TypeId}{x:Operand}{v u:CV}{pos:String}{aft:Array Edge}{gd:Option (Nat×Bool)}{a:Act}(hx:VR S v (a.eval x))(h:xnil C op t v=some u):
  ∃y,(execOp a.eval ⟨dst,.binOp op t x (.const (.slice none 0 0)) yt,ty,pos,aft,gd⟩).run C.P w=.ok (.value y) w/\VR S u y:=by
 unfold xnil at h
 cases hb:isSliceT C t with
 |false=>rw[hb]at h;cases h
 |true=>
  rw[hb]at h
  simp only[cond_true]at h
  obtain⟨e,hu⟩:=K03 C hb
  split at h
  ·cases hn:nilness v with
   |none=>simp[hn]at h
   |some b=>
    simp[hn]at h;subst h
    obtain⟨base,n,c,hxe,hbb⟩:=X02 hx hn
    refine⟨.bool b,?_,VR_sc.2 ⟨rfl,rfl⟩⟩
    have hrun:=run_eql_nil hu base n c x (.const (.slice none 0 0)) w
    have hx:execOp a.eval ⟨dst,.binOp .eql t x (.const (.slice none 0 0)) yt,ty,pos,aft,gd⟩=(do pure (.value (<- (do eqGuard .eql t x (.const (.slice none 0 0)) (a.eval x) (.slice none 0 0);binOp .eql t (a.eval x) (.slice none 0 0):Sem Value)))):=rfl
    rw[hx,hxe,Sem.run_bind,hrun,hbb]
    rfl
  ·cases hn:nilness v with
   |none=>simp[hn]at h
   |some b=>
    simp[hn]at h;subst h
    obtain⟨base,n,c,hxe,hbb⟩:=X02 hx hn
    refine⟨.bool !b,?_,VR_sc.2 ⟨rfl,rfl⟩⟩
    have hrun:=run_neq_nil hu base n c x (.const (.slice none 0 0)) w
    have hx:execOp a.eval ⟨dst,.binOp .neq t x (.const (.slice none 0 0)) yt,ty,pos,aft,gd⟩=(do pure (.value (<- (do eqGuard .neq t x (.const (.slice none 0 0)) (a.eval x) (.slice none 0 0);binOp .neq t (a.eval x) (.slice none 0 0):Sem Value)))):=rfl
    rw[hx,hxe,Sem.run_bind,hrun,hbb]
    rfl
  ·cases h
end
end Go.Cl
end
section
namespace Go.Cl
open Go.RowKit
def byteNums: List CV->Option (List Int)
 |[]=>some []
 |.sc (.int .u8 n)::l=>(byteNums l).map (n::·)
 |_=>none
theorem Q01{S:St}: ∀{l:List CV} {ns:List Int} {news:List Value},byteNums l=some ns->FRs S l news->news=ns.map (Value.int .u8)
 |[],ns,news,h,hf=>by simp[byteNums]at h;simp[FRs]at hf;simp[h.symm,hf]
 |v::l,ns,news,h,hf=>by
  unfold byteNums at h
  split at h
  ·rename_i e;cases e
  ·rename_i n l' e
   cases e
   cases hb:byteNums l with
   |none=>simp[hb]at h
   |some ms=>
    simp[hb]at h;subst h
    simp only[FRs]at hf
    obtain⟨c,ds,rfl,h1,h2⟩:=hf
    simp only[FR]at h1
    rw[h1.1,Q01 hb h2];rfl
  ·cases h
def bytesOf(ns:List Int): ByteArray:=⟨(ns.map fun n=>UInt8.ofNat n.toNat).toArray⟩
theorem bytesOf_eq(ns:List Int): ns.foldl (fun r n=>r.push (UInt8.ofNat n.toNat)) ByteArray.empty=bytesOf ns:=by
 have key:∀(ns:List Int) (b:ByteArray),ns.foldl (fun r n=>r.push (UInt8.ofNat n.toNat)) b=⟨(b.data.toList++ns.map fun n=>UInt8.ofNat n.toNat).toArray⟩:=by
  intro ns
  induction ns with
  |nil=>intro b;simp
  |cons n ns ih=>intro b;rw[List.foldl_cons,ih];simp[ByteArray.push]
 rw[key];rfl
section
variable (C:Ctx)
def isBytes(s d:TypeId): Bool:=
 match C.tt s,C.tt d with
 |some ⟨.base (.slice e),_,_,_⟩,some ⟨.base .string,_,_,_⟩=>match C.tt e with
  |some ⟨.base (.int .u8),_,_,_⟩=>true
  |_=>false
 |_,_=>false
theorem isBytes_spec{s d:TypeId}(h:isBytes C s d=true): ∃e te,C.P.underlying s=some (.slice e)/\C.P.underlying d=some .string/\C.P.underlying e=some (.int .u8)/\C.tt e=some te/\te.sh=.s:=by
 unfold isBytes at h
 split at h<;>try(cases h;done)
 rename_i e sh by_ ze sh' by' ze' h1 h2
 split at h<;>try(cases h;done)
 rename_i sh2 by2 ze2 h3
 exact⟨e,_,(C.htt _ _ h1).d.1,(C.htt _ _ h2).d.1,(C.htt _ _ h3).d.1,h3,(C.htt _ _ h3).d.2.2⟩
def xconv(h:Heap)(s d:TypeId)(x:CV): Option CV:=
 bif isBytes C s d then match srcOf C h s x with
  |some l=>match byteNums l with
   |some ns=>some (.sc (.string (bytesOf ns)))
   |none=>none
  |none=>none
 else qconv C s d x
theorem Y1h: ∀{l:List CV} {ns:List Int},byteNums l=some ns->∀v∈l,v.shape=.s
 |[],_,_=>by simp
 |v::l,ns,h=>by
  unfold byteNums at h
  split at h
  ·rename_i e;cases e
  ·rename_i n l' e
   cases e
   cases hb:byteNums l with
   |none=>simp[hb]at h
   |some ms=>
    intro u hu
    rcases List.mem_cons.1 hu with rfl|hu
    ·rfl
    ·exact Y1h hb u hu
  ·cases h
theorem xconv_sound{w0:World}{B:Nat}{S:St}{p:Hp}{w:World}(r:XRel w0 B S p w){s d:TypeId}{x v:CV}{y:Value}(hx:VR S x y)(h:xconv C p.h s d x=some v): ∃z,(convert s d y).run C.P w=.ok z w/\VR S v z:=by
 unfold xconv at h
 cases hb:isBytes C s d with
 |false=>rw[hb]at h;exact Y1b C hx h
 |true=>
  rw[hb]at h
  simp only[cond_true]at h
  split at h<;>try(cases h;done)
  rename_i l hl
  split at h<;>try(cases h;done)
  rename_i ns hns
  cases h
  obtain⟨e,te,hs,hd,he,hte,hsh⟩:=isBytes_spec C hb
  have hok:=C.htt _ _ hte
  obtain⟨news,hn,hsrc⟩:=Z01 C r.r hok.good hx hl (by rw[hsh];exact Y1h hns)
  have hnews:=Q01 hns hn
  subst hnews
  have hsz:te.sh.size=1:=by rw[hsh];rfl
  rw[hsz]at hsrc
  have hbase:∃base n cap,y=.slice base n cap:=by
   unfold srcOf at hl
   split at hl<;>try(cases hl;done)
   ·rename_i h1
    rw[V0d rfl]at hx;simp only[FR]at hx
    obtain⟨hx,_⟩:=hx
    rcases hx with⟨_,_,_,hx⟩|⟨b,off,cap,sz,es,hx,_⟩<;>exact⟨_,_,_,(List.cons.inj hx).1⟩
   ·rename_i h1
    have:=(C.htt _ _ h1).d.1
    rw[hs]at this;cases this
   ·rename_i h1
    rw[V0d rfl]at hx;simp only[FR]at hx
    obtain⟨⟨rb,sh,l,o,cap,hx,_⟩,_⟩:=hx
    exact⟨_,_,_,(List.cons.inj hx).1⟩
  obtain⟨base,n,cap,rfl⟩:=hbase
  have hlen:=hsrc.len w
  simp only[Builtin.lenOf,Sem.run_pure,Result.ok.injEq]at hlen
  refine⟨.string (bytesOf ns),?_,VR_sc.2 ⟨rfl,rfl⟩⟩
  rw[run_convert_bytes_string w s d e base n cap hs he hd]
  cases base with
  |none=>
   have h0:=hsrc.cells
   simp only[Builtin.firstCells,Sem.run_pure]at h0
   have:ns=[]:=by
    injection h0 with h0
    have:=congrArg Array.toList h0
    simpa using this.symm
   subst this
   simp[Conv.bytesToString,bytesOf]
   rfl
  |some a=>
   have h0:=hsrc.cells
   simp only[Builtin.firstCells,Nat.mul_one]at h0
   rw[<- hlen.1]at h0
   rw[run_bytesToString w a n cap ns h0,bytesOf_eq]
def xcap(x:CV): Option CV:=
 match x with
 |.lst tl l=>bif tl.full then some (.sc (.int .i64 l.length))else none
 |_=>none
theorem xcap_sound{S:St}{w:World}{t ty:TypeId}{ts:Array TypeId}{x v:CV}{y:Value}(hts:ts[0]?=some t)(ht:isSliceT C t=true)(hx:VR S x y)(h:xcap x=some v): ∃z,(Builtin.cap_ ts ty #[y]).run C.P w=.ok z w/\VR S v z:=by
 unfold xcap at h
 split at h<;>try(cases h;done)
 rename_i tl l
 obtain⟨e,hu⟩:=K03 C ht
 cases hf:tl.full with
 |false=>rw[hf]at h;cases h
 |true=>
  rw[hf]at h
  simp only[cond_true,Option.some.injEq]at h
  subst h
  rw[V0d rfl]at hx;simp only[FR]at hx
  obtain⟨hx,_⟩:=hx
  refine⟨.int .i64 l.length,?_,VR_sc.2 ⟨rfl,rfl⟩⟩
  rcases hx with⟨rfl,a0,hm,hx⟩|⟨b,off,cap,sz,es,hx,_,_,_,_,hfit⟩
  ·have hx:=(List.cons.inj hx).1
   rw[hx]
   simp[Builtin.cap_,hts,run_underlying hu,goInt]
  ·have hx:=(List.cons.inj hx).1
   have hc:cap=l.length:=by
    cases tl<;>simp[Tail.full]at hf
    ·exact hfit.elim
    ·exact hfit
   rw[hx,hc]
   simp[Builtin.cap_,hts,run_underlying hu,goInt]
noncomputable def xappI(p:Hp)(te:TI)(b:CV)(xs:List CV): XRes:=
 match b with
 |.lst tl l=>bif allSh l te.sh&&allSh xs te.sh&&Nat.ble ((l.length+xs.length)*te.bytes) 140737488355328&&Nat.ble (l.length+xs.length) 9223372036854775807 then
   match xs with
   |[]=>.ret (.lst tl l) p
   |_::_=>match tl with
    |.nil=>.ret (.lst (.own p.n) (l++xs)) (p.new (.tail (l.length+xs.length)))
    |.exact=>.ret (.lst (.own p.n) (l++xs)) (p.new (.tail (l.length+xs.length)))
    |.own j=>match p.t.get j with
     |some (.tail k)=>bif Nat.beq k l.length&&Nat.blt 0 l.length then .ret (.lst (.own p.n) (l++xs)) ((p.set j none).new (.tail (l.length+xs.length)))else .stuck
     |_=>.stuck
    |_=>.stuck
  else .stuck
 |_=>.stuck
noncomputable def xappend(mu:Bool)(p:Hp)(t tx:TypeId)(b x:CV): XRes:=
 match C.tt t with
 |some ⟨.base (.slice e),_,_,_⟩=>match C.tt e with
  |some te=>cond mu
   (match xsrc C p.h e tx x with
    |some (z::zs)=>bif allSh (z::zs) te.sh then xappmut p te b (z::zs)else .stuck
    |some []=>match srcOf C p.h tx x with
     |some []=>xappI p te b []
     |_=>.stuck
    |none=>.stuck)
   (match srcOf C p.h tx x with
    |some xs=>xappI p te b xs
    |none=>.stuck)
  |none=>.stuck
 |_=>.stuck
theorem get_ht{p:Hp}{i:Nat}{n:Nat}(hi:p.t.get i=some (.tail n)): p.h i=some (.tail n):=by
 simp[Hp.h,hi,XObj.obj]
theorem X1f{w0:World}{B:Nat}{S:St}{p:Hp}{w:World}(r:XRel w0 B S p w){t tx ty e:TypeId}{te:TI}{sh:Shape}{by_:Nat}{ze:CV}(ht:C.tt t=some ⟨.base (.slice e),sh,by_,ze⟩)(hte:C.tt e=some te){b x:CV}{b' y:Value}{xs:List CV}
  (hb:VR S b b') (hx:VR S x y) (hs:srcOf C p.h tx x=some xs):XVal C w0 B S w (Builtin.append_ #[t,tx] ty #[b',y]) (xappI p te b xs):=by
 unfold xappI
 split<;>try trivial
 rename_i tl l
 cases hc:(allSh l te.sh&&allSh xs te.sh&&Nat.ble ((l.length+xs.length)*te.bytes) 140737488355328&&Nat.ble (l.length+xs.length) 9223372036854775807) with
 |false=>trivial
 |true=>
  simp only[Bool.and_eq_true]at hc
  obtain⟨⟨⟨hl,hxs⟩,hfit⟩,h63⟩:=hc
  have hl:=X0s hl
  have hxs:=X0s hxs
  have hfit:=Nat.le_of_ble_eq_true hfit
  have h63:=Nat.le_of_ble_eq_true h63
  simp only[cond_true]
  have go:(xs≠[]->appTl p.h tl l xs fun _ _=>True)->∃y' w' S' v h',(Builtin.append_ #[t,tx] ty #[b',y]).run C.P w=.ok y' w'/\S.ext S'/\R w0 B S' h' w'/\VR S' v y' /\
    ((xs=[]/\v=.lst tl l/\h'=p.h/\S'.n=S.n)\/(xs≠[]/\v=.lst (.own S.n) (l++xs)/\h'=appH p.h tl S.n (l.length+xs.length)/\S'.n=S.n+1)):=fun happ=>by
   obtain⟨y',w',S',v,h',k1,k2,k3,k4,_,tl',l',xs',e1,e2,e3⟩:=X1k C r.r (t:=t) (tx:=tx) (ty:=ty) (K:=fun _ _=>True) hb hx (by
    simp only[cappend,ht,hs,hte]
    exact⟨hl,hxs,hfit,h63,fun _=>trivial,happ⟩)
   cases e1
   rw[hs]at e2;cases e2
   exact⟨y',w',S',v,h',k1,k2,k3,k4,e3⟩
  cases xs with
  |nil=>
   obtain⟨y',w',S',v,h',k1,k2,k3,k4,h⟩:=go (fun h=>absurd rfl h)
   rcases h with⟨_,rfl,rfl,hn⟩|⟨h,_⟩
   ·exact⟨y',w',S',k1,k2,⟨k3,by rw[hn];exact r.n,r.good⟩,k4⟩
   ·exact absurd rfl h
  |cons z zs=>
   simp only
   have fin:(appTl p.h tl l (z::zs) fun _ _=>True)->∀p':Hp,p'.n=Nat.succ p.n->p'.h=appH p.h tl S.n (l.length+(z::zs).length)->p'.good->XVal C w0 B S w (Builtin.append_ #[t,tx] ty #[b',y]) (.ret (.lst (.own p.n) (l++z::zs)) p'):=fun happ p' h1 h2 h3=>by
    obtain⟨y',w',S',v,h',k1,k2,k3,k4,h⟩:=go (fun _=>happ)
    rcases h with⟨h,_⟩|⟨_,rfl,rfl,hn⟩
    ·cases h
    ·exact⟨y',w',S',k1,k2,⟨by rw[h2];exact k3,by rw[hn,h1,r.n],h3⟩,by rw[<- r.n];exact k4⟩
   cases tl with
   |nil=>exact fin (fun _ _=>trivial) _ rfl (by rw[Hp.new_h,r.n];rfl) (Hp.good_new r.good fun sh v e=>by cases e)
   |exact=>exact fin (fun _ _=>trivial) _ rfl (by rw[Hp.new_h,r.n];rfl) (Hp.good_new r.good fun sh v e=>by cases e)
   |own j=>
    simp only
    split<;>try trivial
    rename_i k hk
    cases hb2:(Nat.beq k l.length&&Nat.blt 0 l.length) with
    |false=>trivial
    |true=>
     rw[Bool.and_eq_true]at hb2
     have hkl:=Nat.eq_of_beq_eq_true hb2.1
     have hpos:0<l.length:=by simpa using hb2.2
     subst hkl
     simp only[cond_true]
     exact fin ⟨fun h=>by rw[h]at hpos;simp at hpos,get_ht hk,fun _ _=>trivial⟩ _ rfl (by rw[Hp.new_h,Hp.set_h,r.n];rfl) (Hp.good_new (Hp.good_set r.good fun sh v e=>by cases e) fun sh v e=>by cases e)
   |view=>trivial
   |part=>trivial
theorem Q1x{w0:World}{B:Nat}{S:St}{p:Hp}{w:World}(r:XRel w0 B S p w){mu:Bool}{t tx ty:TypeId}{b x:CV}{b' y:Value}(hb:VR S b b')(hx:VR S x y):
  XVal C w0 B S w (Builtin.append_ #[t,tx] ty #[b',y]) (xappend C mu p t tx b x):=by
 unfold xappend
 split<;>try trivial
 rename_i e sh by_ ze ht
 split<;>try trivial
 rename_i te hte
 cases mu with
 |true=>
  simp only[cond_true]
  split
  ·rename_i z zs hs
   cases hc:allSh (z::zs) te.sh with
   |false=>trivial
   |true=>
    have hsh:=X0s hc
    obtain⟨news,h1,h2⟩:=xsrc_sound C r.r hte hx hs hsh
    exact K1z C r (C.htt _ _ ht).d.1 hte hb h1 hsh (by simp) h2
  ·split<;>try trivial
   rename_i hs
   exact X1f C r ht hte hb hx hs
  ·trivial
 |false=>
  simp only[cond_false]
  split<;>try trivial
  rename_i xs hs
  exact X1f C r ht hte hb hx hs
noncomputable def xmake(p:Hp)(t:TypeId)(l c:CV): XRes:=
 match C.tt t,l,c with
 |some ⟨.base (.slice e),_,_,_⟩,.sc (.int .i64 n),.sc (.int .i64 m)=>
  match C.tt e with
  |some te=>bif decide (n=m)&&decide (0<n)&&decide (n<=9223372036854775807)&&Nat.blt 0 te.sh.size&&Nat.ble (te.bytes*n.toNat) 281474976710656 then
    .ret (.slc p.n [] 0 n.toNat) (p.new (.var (.n (List.replicate n.toNat te.sh)) (.agg (List.replicate n.toNat te.zero))))
   else bif decide (n=0)then ofOpt p (qmake C t l c)else .stuck
  |none=>.stuck
 |_,_,_=>.stuck
theorem xmake_sound{w0:World}{B:Nat}{S:St}{p:Hp}{w:World}(r:XRel w0 B S p w){t:TypeId}{l c:CV}{x y:Value}(hl:VR S l x)(hc:VR S c y): XVal C w0 B S w (Instr.makeSlice t x y) (xmake C p t l c):=by
 unfold xmake
 split<;>try trivial
 rename_i e sh by_ ze n m h1
 split<;>try trivial
 rename_i te h2
 cases hb:(decide (n=m)&&decide (0<n)&&decide (n<=9223372036854775807)&&Nat.blt 0 te.sh.size&&Nat.ble (te.bytes*n.toNat) 281474976710656) with
 |false=>
  simp only[cond_false]
  cases h0:decide (n=0) with
  |false=>trivial
  |true=>
   simp only[cond_true]
   cases hq:qmake C t (.sc (.int .i64 n)) (.sc (.int .i64 m)) with
   |none=>trivial
   |some v=>
    obtain⟨y',w',S',k1,k2,k3,k4,k5,k6⟩:=Z1f C r.r hl hc hq
    exact⟨y',w',S',k1,⟨k2,fun i _ h=>by rw[k3];exact h⟩,⟨k5,by rw[k4];exact r.n,r.good⟩,k6⟩
 |true=>
  simp only[Bool.and_eq_true,decide_eq_true_eq]at hb
  obtain⟨⟨⟨⟨rfl,h0⟩,hn⟩,hnz⟩,hby⟩:=hb
  have hnz:0<te.sh.size:=by simpa using hnz
  have hby:=Nat.le_of_ble_eq_true hby
  simp only[cond_true]
  have hte:=C.htt _ _ h2
  obtain⟨i,z,hi,hisz,hbytes,hz,hfz⟩:=hte.info
  have hFz:FR S te.zero z.cells.toList:=V0k _ _ hfz
  have hzs:z.cells.size=te.sh.size:=by rw[<- Array.length_toList,FR.length _ _ hFz,CV.size,hte.zsh]
  have hx:=(VR_sc.1 hl).1
  have hy:=(VR_sc.1 hc).1
  subst hx;subst hy
  have hrun:=Z0p (w:=w) (C.htt _ _ h1).d.1 hi hz (by rw[hisz,hzs]) (by omega) hn (by rw[hbytes];exact hby)
  have hsh:CV.shape (.agg (List.replicate n.toNat te.zero))=.n (List.replicate n.toNat te.sh):=by
   rw[CV.shape,CV.shapes_eq,List.map_replicate,hte.zsh]
  obtain⟨g1,g2,g3⟩:=r.alloc (v:=.agg (List.replicate n.toNat te.zero)) (sh:=.n (List.replicate n.toNat te.sh)) (e:=e) (arr:=(List.replicate n.toNat z.cells.toList).flatten.toArray) hsh (by simp only[FR];simpa using Y0i hFz n.toNat)
  refine⟨_,_,_,hrun,g1,g2,?_⟩
  rw[V0d rfl];simp only[FR]
  refine⟨⟨w.heap.size,_,List.replicate n.toNat te.sh,0,n.toNat,by simp[Shape.sizes],⟨_,g3,fun _ _=>⟨by simp,te.sh.size,fun x hx=>by rw[List.eq_of_mem_replicate hx],?_⟩⟩,by rw[hsh];simp[Shape.sub],by rw[hsh];simp[Shape.off],Nat.le_refl _,by simp⟩,by simp⟩
  simp[hzs]
end
section
variable (C:Ctx)
noncomputable def xbuildS(p:Hp)(t:TypeId)(len:Nat)(parts:List (Nat×CV)): XRes:=
 match C.tt t with
 |some ⟨.base (.slice e),_,_,_⟩=>match C.tt e with
  |some te=>bif Nat.ble (len*te.sh.size) 16777216&&Nat.blt 0 te.sh.size&&Nat.blt 0 len&&partsOk (List.replicate len te.sh) parts then
   .ret (.slc p.n [] 0 len) (p.new (.var (.n (List.replicate len te.sh)) (.agg (setAll (List.replicate len te.zero) parts))))else .stuck
  |none=>.stuck
 |_=>.stuck
theorem X1y{w0:World}{B:Nat}{S:St}{p:Hp}{w:World}(r:XRel w0 B S p w){t:TypeId}{len:Nat}{parts:List (Nat×CV)}{vals:List (Nat×Value)}(hlen:parts.length=vals.length)
  (hpv:∀(k:Nat) (p:Nat×CV) (q:Nat×Value),parts[k]?=some p->vals[k]?=some q->p.1=q.1/\VR S p.2 q.2):XVal C w0 B S w (Instr.buildSlice t len vals.toArray) (xbuildS C p t len parts):=by
 unfold xbuildS
 split<;>try trivial
 rename_i e sh by_ ze h1
 split<;>try trivial
 rename_i te h2
 cases hb:(Nat.ble (len*te.sh.size) 16777216&&Nat.blt 0 te.sh.size&&Nat.blt 0 len&&partsOk (List.replicate len te.sh) parts) with
 |false=>trivial
 |true=>
  simp only[Bool.and_eq_true]at hb
  obtain⟨⟨⟨hsmall,hnz⟩,hl0⟩,hok⟩:=hb
  have hsmall:=Nat.le_of_ble_eq_true hsmall
  have hnz:0<te.sh.size:=by simpa using hnz
  have hl0:0<len:=by simpa using hl0
  simp only[cond_true]
  have hu:=(C.htt _ _ h1).d.1
  have hte:=C.htt _ _ h2
  obtain⟨i,z,hi,hisz,_,hz,hfz⟩:=hte.info
  have hFz:FR S te.zero z.cells.toList:=V0k _ _ hfz
  have hzs:z.cells.size=te.sh.size:=by
   rw[<- Array.length_toList,FR.length _ _ hFz,CV.size,hte.zsh]
  let arr0:Array Value:=(Array.range (len*te.sh.size)).map fun i=>z.cells[i % z.cells.size]!
  have harr0:arr0.toList=(List.replicate len z.cells.toList).flatten:=by
   have:=Z0w z.cells len
   rw[hzs]at this
   simp only[arr0,hzs];exact this
  have hF0:FRs S (List.replicate len te.zero) arr0.toList:=by rw[harr0];exact Y0i hFz len
  have hshapes:CV.shapes (List.replicate len te.zero)=List.replicate len te.sh:=by rw[CV.shapes_eq,List.map_replicate,hte.zsh]
  obtain⟨arr',k1,k2,k3⟩:=V0t (S:=S) (fun i=>some (i*te.sh.size,te.sh.size)) (List.replicate len te.sh) (fun i sh hsh=>by
    obtain⟨hil,hh⟩:=List.getElem?_eq_some_iff.1 hsh
    simp only[List.length_replicate]at hil
    simp only[List.getElem_replicate]at hh
    rw[V0e _ _ _ (by omega),<- hh]) parts vals _ arr0 hlen (fun k p q hk hq=>by
     obtain⟨e1,e2⟩:=hpv k p q hk hq
     refine⟨e1,e2,?_⟩
     have:=List.all_eq_true.1 hok p (List.mem_of_getElem? hk)
     simpa using this) hF0 hshapes
  have hsz:arr'.size=len*te.sh.size:=by
   have:=V0e len len te.sh (Nat.le_refl _)
   rw[List.take_of_length_le (by simp)]at this
   rw[<- Array.length_toList,FRs.length _ _ k2,k3,this]
  have hrun:(Instr.buildSlice t len vals.toArray).run C.P w=.ok (.slice (some ⟨w.heap.size,0,none⟩) len len) (w.alloc (.cells arr' e)):=by
   have hnb:¬(len*te.sh.size>16777216):=by omega
   have hl0':¬(len*te.sh.size=0):=by
    have:=Nat.mul_pos hl0 hnz;omega
   simp only[arr0]at k1
   simp[Instr.buildSlice,run_underlying hu,sizeOf,typeInfo,hi,hisz,hnb,hl0',Z0j hi hz,k1,newRow]
  have hsh:CV.shape (.agg (setAll (List.replicate len te.zero) parts))=.n (List.replicate len te.sh):=by
   rw[CV.shape];exact congrArg _ k3
  obtain⟨g1,g2,g3⟩:=r.alloc (v:=.agg (setAll (List.replicate len te.zero) parts)) (sh:=.n (List.replicate len te.sh)) (e:=e) (arr:=arr') hsh (by simp only[FR];exact k2)
  refine⟨_,_,_,hrun,g1,g2,?_⟩
  rw[V0d rfl];simp only[FR]
  refine⟨⟨w.heap.size,_,List.replicate len te.sh,0,len,by simp[Shape.sizes],⟨_,g3,fun _ _=>⟨by simp,te.sh.size,fun x hx=>by rw[List.eq_of_mem_replicate hx],?_⟩⟩,by rw[hsh];simp[Shape.sub],by rw[hsh];simp[Shape.off],Nat.le_refl _,by simp⟩,by simp⟩
  omega
end
end Go.Cl
end
section
namespace Go.Cl
open Go.RowKit
section
variable (C:Ctx)
noncomputable def xcallOp(mu:Bool)(ext:FuncId->List CV->Option CV)(call:XCall)(env:XEnv)(p:Hp)(callee:Callee)(args:Array Operand)(ts:Array TypeId): XRes:=
 match callee with
 |.value f=>xcallv ext call p (xev env f) (args.toList.map (xev env))
 |.builtin .append=>match args.toList,ts.toList with
  |[b,x],[t,tx]=>xappend C mu p t tx (xev env b) (xev env x)
  |_,_=>.stuck
 |.builtin .delete=>match args.toList,ts.toList with
  |[x,k],t::_=>xdelete C p t (xev env x) (xev env k)
  |_,_=>.stuck
 |.builtin .cap=>match args.toList,ts.toList with
  |[x],t::_=>bif isSliceT C t then ofOpt p (xcap (xev env x))else .stuck
  |_,_=>.stuck
 |c=>ofOpt p (qop C (xev env) p.h (.call ⟨c,args,ts⟩))
noncomputable def xbin(env:XEnv)(p:Hp)(op:BinOp)(t:TypeId)(x y:Operand)(yt:TypeId): XRes:=
 match y with
 |.const (.slice none 0 0)=>ofOpt p (xnil C op t (xev env x))
 |_=>ofOpt p (qbin C op t (isConstOpd y) (xev env x) (xev env y))
noncomputable def xop(mu:Bool)(ext:FuncId->List CV->Option CV)(call:XCall)(env:XEnv)(p:Hp)(o:Op): XRes:=
 match o with
 |.move x=>.ret (xev env x) p
 |.assign x=>.ret (xev env x) p
 |.load t a=>ofOpt p (xload C p t (xev env a))
 |.store t a x=>xstore C p t (xev env a) (xev env x)
 |.binOp op t x y yt=>xbin C env p op t x y yt
 |.fieldAddr s x f=>ofOpt p (xfieldAddr C p s (xev env x) f)
 |.indexAddr t x i=>ofOpt p (xindexAddr C p t (xev env x) (xev env i))
 |.call ⟨f,args,ts⟩=>xcallOp C mu ext call env p f args ts
 |.alloc t=>xalloc C p t
 |.box t x=>xbox C p t (xev env x)
 |.panic x=>xpanic p (xev env x)
 |.makeSlice t l c=>xmake C p t (xev env l) (xev env c)
 |.lookup t x k ok=>xlookup C p t (xev env x) (xev env k) ok
 |.mapUpdate t x k y=>xupdate C p t (xev env x) (xev env k) (xev env y)
 |.makeMap _ none=>xmakeMap p
 |.field t x f=>ofOpt p (qfield C t (xev env x) f)
 |.convert s d x=>ofOpt p (xconv C p.h s d (xev env x))
 |o=>ofOpt p (qop C (xev env) p.h o)
theorem Q1q{w0:World}{B:Nat}{S:St}{p:Hp}{w:World}(r:XRel w0 B S p w){o:Oper}{a:Act}{env:XEnv}(hρ:∀x∈o.op.operands.toList,VR S (xev env x) (a.eval x)){x:Option CV}(h:∀v,x=some v->qop C (xev env) p.h o.op=some v):
  XGoes C w0 B S o a w (ofOpt p x):=by
 cases x with
 |none=>trivial
 |some v=>exact XGoes.quiet C r hρ (h v rfl)
theorem K1q{w0:World}{B:Nat}{S:St}{w:World}{o:Oper}{a:Act}{s:Sem Value}{res:XRes}(hx:(execOp a.eval o).run C.P w=(do pure (.value (<- s)):Sem Next).run C.P w)(h:XVal C w0 B S w s res): XGoes C w0 B S o a w res:=by
 cases res with
 |stuck=>trivial
 |pan v p'=>exact h.elim
 |ret v p'=>
  obtain⟨y,w',S',h1,h2,h3,h4⟩:=h
  intro next Q hn
  unfold Oper.wp
  rw[hx]
  simp only[Sem.run_bind,h1,Result.andThen_ok,Sem.run_pure]
  exact hn S' y w' h2 h3 h4
theorem Q0p{ext:FuncId->List CV->Option CV}{call:XCall}(hext:ExtOk C ext)(hcall:CallOk C call){mu:Bool}{w0:World}{B:Nat}{S:St}{p:Hp}{w:World}(r:XRel w0 B S p w){o:Oper}{a:Act}{env:XEnv}(hρ:∀x∈o.op.operands.toList,VR S (xev env x) (a.eval x)):
  XGoes C w0 B S o a w (xop C mu ext call env p o.op):=by
 obtain⟨dst,op,ty,pos,aft,gd⟩:=o
 simp only at hρ ⊢
 unfold xop
 split
 ·rename_i x;exact XGoes.quiet C r (ρ:=xev env) hρ rfl
 ·rename_i x;exact XGoes.quiet C r (ρ:=xev env) hρ rfl
 ·exact Q1q C r hρ fun v h=>Q1p C r.good h
 ·rename_i t pt x;exact xstore_sound C r (hρ pt (by simp[Op.operands])) (hρ x (by simp[Op.operands]))
 ·rename_i op t x y yt
  unfold xbin
  split
  ·cases hn:xnil C op t (xev env x) with
   |none=>trivial
   |some u=>
    obtain⟨z,h1,h2⟩:=xnil_sound C (dst:=dst) (ty:=ty) (yt:=yt) (pos:=pos) (aft:=aft) (gd:=gd) (a:=a) (w:=w) (hρ x (by simp[Op.operands])) hn
    exact XGoes.still C r h1 h2
  ·exact Q1q C r hρ fun v h=>h
 ·exact Q1q C r hρ fun v h=>V1g C r.good h
 ·exact Q1q C r hρ fun v h=>Z1e C r.good h
 ·rename_i f args ts
  unfold xcallOp
  split
  ·rename_i f
   exact xcallv_sound C hext hcall r (hρ f (by simp[Op.operands,Call.operands])) (Z06 args.toList fun x hx=>hρ x (by simp[Op.operands,Call.operands];right;simpa using hx))
  ·split<;>try trivial
   rename_i b x t tx ha ht
   have h1:=hρ b (by simp[Op.operands,Call.operands];rw[<- Array.mem_toList_iff,ha];simp)
   have h2:=hρ x (by simp[Op.operands,Call.operands];rw[<- Array.mem_toList_iff,ha];simp)
   have hargs:args.map a.eval=#[a.eval b,a.eval x]:=by apply Array.ext';simp[ha]
   have hts:ts=#[t,tx]:=by apply Array.ext';rw[ht]
   obtain⟨cs,hexec⟩:=Y0r a.eval .append args ts dst ty pos aft gd
   exact K1q C (by rw[hexec,hargs,hts];rfl) (Q1x C r (ty:=ty) h1 h2)
  ·split<;>try trivial
   rename_i x k t l ha ht
   have h1:=hρ x (by simp[Op.operands,Call.operands];rw[<- Array.mem_toList_iff,ha];simp)
   have h2:=hρ k (by simp[Op.operands,Call.operands];rw[<- Array.mem_toList_iff,ha];simp)
   exact Y1s C r (by apply Array.ext';rw[ha]) (by rw[<- Array.getElem?_toList,ht];rfl) h1 h2
  ·split<;>try trivial
   rename_i x t l ha ht
   cases hb:isSliceT C t with
   |false=>trivial
   |true=>
    have h1:=hρ x (by simp[Op.operands,Call.operands];rw[<- Array.mem_toList_iff,ha];simp)
    simp only[cond_true]
    cases hc:xcap (xev env x) with
    |none=>trivial
    |some v=>
     obtain⟨z,k1,k2⟩:=xcap_sound C (w:=w) (ty:=ty) (ts:=ts) (by rw[<- Array.getElem?_toList,ht];rfl) hb h1 hc
     obtain⟨cs,hexec⟩:=Y0r a.eval .cap args ts dst ty pos aft gd
     have hargs:args.map a.eval=#[a.eval x]:=by apply Array.ext';simp[ha]
     exact XGoes.still C r (by rw[hexec,hargs];simp only[builtin,Sem.run_bind,k1,Result.andThen_ok,Sem.run_pure]) k2
  ·exact Q1q C r hρ fun v h=>h
 ·exact xalloc_sound C r
 ·rename_i t x;exact xbox_sound C r (hρ x (by simp[Op.operands]))
 ·rename_i x;exact xpanic_sound C r (hρ x (by simp[Op.operands]))
 ·rename_i t l c
  exact K1q C rfl (xmake_sound C r (hρ l (by simp[Op.operands])) (hρ c (by simp[Op.operands])))
 ·rename_i t x k ok;exact Y1u C r (hρ x (by simp[Op.operands])) (hρ k (by simp[Op.operands]))
 ·rename_i t x k y;exact Y1r C r (hρ x (by simp[Op.operands])) (hρ k (by simp[Op.operands])) (hρ y (by simp[Op.operands]))
 ·exact K1k C r
 ·rename_i t x f
  cases hq:qfield C t (xev env x) f with
  |none=>trivial
  |some v=>
   obtain⟨y,h1,h2⟩:=qfield_sound C (w:=w) (hρ x (by simp[Op.operands])) hq
   exact XGoes.still C r (by simp[execOp,h1]) h2
 ·rename_i s d x
  cases hq:xconv C p.h s d (xev env x) with
  |none=>trivial
  |some v=>
   obtain⟨y,h1,h2⟩:=xconv_sound C r (hρ x (by simp[Op.operands])) hq
   exact XGoes.still C r (by simp[execOp,h1]) h2
 ·exact Q1q C r hρ fun v h=>h
noncomputable def xwanted(ops:List Oper)(o:Oper)(env:XEnv): Option Bool:=
 match o.guard with
 |none=>some true
 |some (j,want)=>match ops[j]? with
  |some oj=>match oj.dst with
   |some d=>match env.at d with
    |.sc (.bool b)=>some (b==want)
    |.tup []=>some false
    |_=>none
   |none=>none
  |none=>none
inductive XE where
 |normal
 |exit (id:Nat)
 |ret
 |pan (v:CV)
 |panU (v:CV)
def XE.ex: XE->CExit
 |.normal=>.normal
 |.exit i=>.exit i
 |.ret=>.ret
 |.pan v=>.pan v
 |.panU v=>.pan v
inductive XR where
 |ok (e:XE) (env:XEnv) (p:Hp)
 |stuck
theorem Y0n{S:St}{ops:List Oper}{o:Oper}{env:XEnv}{tmps:Array Value}{b:Bool}(he:∀j want oj d,o.guard=some (j,want)->ops[j]?=some oj->oj.dst=some d->∃x,tmps[d]?=some x/\VR S (env.at d) x)(h:xwanted ops o env=some b):
  Region.wanted o (yielded ops.toArray tmps)=b:=by
 unfold xwanted at h
 unfold Region.wanted
 cases hg:o.guard with
 |none=>simp[hg]at h;simp[h]
 |some g=>
  obtain⟨j,want⟩:=g
  simp only[hg]at h ⊢
  cases hj:ops[j]? with
  |none=>simp[hj]at h
  |some oj=>
   simp only[hj]at h
   cases hd:oj.dst with
   |none=>simp[hd]at h
   |some d=>
    simp only[hd]at h
    obtain⟨x,hx,hv⟩:=he j want oj d hg hj hd
    unfold yielded
    simp only[List.getElem?_toArray,hj,Option.bind_some,hd]
    split at h
    ·rename_i y e
     rw[e]at hv
     have hxy:=(VR_sc.1 hv).1
     simp only[Option.some.injEq]at h
     subst h
     simp[hx,hxy]
    ·rename_i e
     rw[e,V0d rfl]at hv
     simp only[FR]at hv
     obtain⟨⟨vs,hxv,hvs⟩,_⟩:=hv
     have hxv:=(List.cons.inj hxv).1
     simp only[Option.some.injEq]at h
     subst h
     simp[hx,hxv]
    ·cases h
theorem Q1h{S:St}{ops:List Oper}{o:Oper}{env:Env}{tmps:Array Value}(he:ER S env tmps)(hok:ops.all (okOper tmps.size)=true): ∀j want oj d,o.guard=some (j,want)->ops[j]?=some oj->oj.dst=some d->∃x,tmps[d]?=some x/\VR S (env d) x:=by
 intro j want oj d _ hj hd
 have hlt:d<tmps.size:=by
  have:=List.all_eq_true.1 hok oj (List.mem_of_getElem? hj)
  unfold okOper at this
  rw[hd]at this
  simp at this
  exact this.1
 exact⟨tmps[d],by simp[hlt],he d _ (by simp[hlt])⟩
noncomputable def xopm(mu:Bool)(ext:FuncId->List CV->Option CV)(call:XCall)(env:XEnv)(p:Hp)(o:Op): XRes:=
 match o with
 |.buildSlice t n ps=>cond (mu&&Nat.blt 0 n) (xbuildS C p t n (ps.toList.map fun q=>(q.1,xev env q.2))) (xop C mu ext call env p (.buildSlice t n ps))
 |o=>xop C mu ext call env p o
theorem xopm_sound{ext:FuncId->List CV->Option CV}{call:XCall}(hext:ExtOk C ext)(hcall:CallOk C call){mu:Bool}{w0:World}{B:Nat}{S:St}{p:Hp}{w:World}(r:XRel w0 B S p w){o:Oper}{a:Act}{env:XEnv}(hρ:∀x∈o.op.operands.toList,VR S (xev env x) (a.eval x)):
  XGoes C w0 B S o a w (xopm C mu ext call env p o.op):=by
 obtain⟨dst,op,ty,pos,aft,gd⟩:=o
 simp only at hρ ⊢
 unfold xopm
 split
 ·rename_i t n ps
  cases hmu:(mu&&Nat.blt 0 n) with
  |false=>exact Q0p C hext hcall (mu:=mu) r (o:=⟨dst,.buildSlice t n ps,ty,pos,aft,gd⟩) hρ
  |true=>
   obtain⟨h1,h2⟩:=X1z (S:=S) (ρ:=xev env) (ρ':=a.eval) ps (fun p hp=>hρ p.2 (by simp[Op.operands];exact⟨p.1,by simpa using hp⟩))
   exact K1q C (by simp[execOp,<- Array.toList_map]) (X1y C r (t:=t) (len:=n) h1 h2)
 ·exact Q0p C hext hcall (mu:=mu) r (o:=⟨dst,op,ty,pos,aft,gd⟩) hρ
noncomputable def xops(mu:Bool)(ext:FuncId->List CV->Option CV)(call:XCall)(ops:List Oper): List Oper->XEnv->Hp->XR
 |[],env,p=>.ok .normal env p
 |o::rest,env,p=>match xwanted ops o env with
  |some true=>match xopm C mu ext call env p o.op with
   |.ret v p'=>xops mu ext call ops rest (env.put o.dst v) p'
   |.pan v p'=>.ok (.pan v) env p'
   |.stuck=>.stuck
  |some false=>xops mu ext call ops rest (env.put o.dst (.tup [])) p
  |none=>.stuck
def XPost(w0:World)(B:Nat)(S:St)(n:Nat)(ds:List Deferred)(e:XE)(env:XEnv)(p:Hp): Exit->Act->World->Prop:=fun ex a w=>
 ∃S',S.ext S'/\XRel w0 B S' p w/\((∀v,e≠.panU v)->ER S' env.at a.tmps)/\a.tmps.size=n/\a.defers=ds/\ExitR S' e.ex ex
end
end Go.Cl
end
section
namespace Go.Cl
open Go.RowKit
section
variable (C:Ctx)
theorem XPost.mono{w0:World}{B:Nat}{S S':St}{n:Nat}{ds:List Deferred}(hS:S'.ext S){e:XE}{env:XEnv}{p:Hp}{ex:Exit}{a:Act}{w:World}(k:XPost w0 B S n ds e env p ex a w): XPost w0 B S' n ds e env p ex a w:=by
 obtain⟨S2,k1,k2⟩:=k
 exact⟨S2,hS.trans k1,k2⟩
theorem oper_known{S:St}{n:Nat}{o:Oper}{env:XEnv}{a:Act}(he:ER S env.at a.tmps)(hn:a.tmps.size=n)(hoo:okOper n o=true): ∀x∈o.op.operands.toList,VR S (xev env x) (a.eval x):=by
 intro x hx
 rw[X1a]
 refine he.eval ?_
 rw[hn]
 unfold okOper at hoo
 simp only[Bool.and_eq_true]at hoo
 exact List.all_eq_true.1 hoo.2 x hx
theorem V0y{ext:FuncId->List CV->Option CV}{call:XCall}(hext:ExtOk C ext)(hcall:CallOk C call){mu:Bool}{w0:World}{B:Nat}{ops:List Oper}{ds:List Deferred}{n:Nat}{Q':Exit->Act->World->Prop}:
  ∀(l:List Oper) (k:Nat) (S:St) (env:XEnv) (p:Hp) (a:Act) (w:World),ops.drop k=l->ops.all (okOper n)=true->XRel w0 B S p w->ER S env.at a.tmps->a.tmps.size=n->a.defers=ds->
   ∀e env' p',xops C mu ext call ops l env p=.ok e env' p'->(∀ex a w,XPost w0 B S n ds e env' p' ex a w->Q' ex a w)->wpOps C.P ops.toArray Q' (List.range' k l.length) a w
 |[],k,S,env,p,a,w,_,_,r,he,hn,hd,e,env',p',hx,hQ=>by
  simp only[xops,XR.ok.injEq]at hx
  obtain⟨rfl,rfl,rfl⟩:=hx
  simp only[List.length_nil,List.range'_zero,wpOps]
  exact hQ _ _ _ ⟨S,St.ext.refl _,r,fun _=>he,hn,hd,trivial⟩
 |o::l,k,S,env,p,a,w,hl,hok,r,he,hn,hd,e,env',p',hx,hQ=>by
  have hk:ops[k]?=some o:=by
   have:=congrArg (·[0]?) hl
   simpa using this
  have hl':ops.drop (k+1)=l:=by rw[<- List.tail_drop,hl];rfl
  rw[List.length_cons,List.range'_succ,wpOps]
  simp only[List.getElem?_toArray,hk]
  simp only[xops]at hx
  have hoo:=List.all_eq_true.1 hok o (List.mem_of_getElem? hk)
  cases hw:xwanted ops o env with
  |none=>rw[hw]at hx;cases hx
  |some b=>
   rw[hw]at hx
   rw[Y0n (Q1h he (by rw[hn];exact hok)) hw]
   cases b with
   |false=>
    simp only at hx
    simp only[Bool.false_eq_true,if_false]
    exact V0y hext hcall l (k+1) S _ p _ w hl' hok r (by rw[XEnv.at_put];exact he.put V0p) (by rw[X00];exact hn) (by rw[Z0y];exact hd) e env' p' hx hQ
   |true=>
    simp only at hx
    simp only[if_true]
    left
    have hg:=xopm_sound C hext hcall (mu:=mu) r (o:=o) (a:=a) (oper_known he hn hoo)
    cases ho:xopm C mu ext call env p o.op with
    |stuck=>rw[ho]at hx;cases hx
    |ret v p2=>
     rw[ho]at hx hg
     simp only at hx
     exact hg _ _ fun S' x w' k1 k2 k3=>V0y hext hcall l (k+1) S' _ p2 _ w' hl' hok k2 (by rw[XEnv.at_put];exact(he.mono k1.le).put k3) (by rw[X00];exact hn) (by rw[Z0y];exact hd) e env' p' hx fun ex a w h=>hQ ex a w (h.mono k1)
    |pan v p2=>
     rw[ho]at hx hg
     simp only[XR.ok.injEq]at hx
     obtain⟨rfl,rfl,rfl⟩:=hx
     exact hg _ _ fun S' x w' k1 k2 k3=>hQ _ _ _ ⟨S',k1,k2,fun _=>he.mono k1.le,hn,hd,⟨x,rfl,k3⟩⟩
def tailEq: Tail->Tail->Bool
 |.nil,.nil=>true
 |.view,.view=>true
 |.part,.part=>true
 |.exact,.exact=>true
 |.own i,.own j=>Nat.beq i j
 |_,_=>false
theorem tailEq_spec{a b:Tail}(h:tailEq a b=true): a=b:=by
 cases a<;>cases b<;>simp[tailEq]at h<;>first|rfl|(rw[h])
def natsEq: List Nat->List Nat->Bool
 |[],[]=>true
 |a::l,b::m=>Nat.beq a b&&natsEq l m
 |_,_=>false
theorem Y0z: ∀{l m:List Nat},natsEq l m=true->l=m
 |[],[],_=>rfl
 |[],_::_,h=>by cases h
 |_::_,[],h=>by cases h
 |a::l,b::m,h=>by
  simp only[natsEq,Bool.and_eq_true]at h
  rw[Nat.eq_of_beq_eq_true h.1,Y0z h.2]
mutual
def cvEq: CV->CV->Bool
 |.sc a,.sc b=>valEq a b
 |.agg l,.agg m=>cvsEq l m
 |.tup l,.tup m=>cvsEq l m
 |.lst t l,.lst u m=>tailEq t u&&cvsEq l m
 |.slc i p a b,.slc j q c d=>Nat.beq i j&&natsEq p q&&Nat.beq a c&&Nat.beq b d
 |.ptr i p,.ptr j q=>Nat.beq i j&&natsEq p q
 |.rptr v,.rptr u=>cvEq v u
 |.mapr i,.mapr j=>Nat.beq i j
 |.fn f k l,.fn g m n=>Nat.beq f g&&cvsEq k m&&cvsEq l n
 |.ifc t v,.ifc u x=>Nat.beq t u&&cvEq v x
 |_,_=>false
def cvsEq: List CV->List CV->Bool
 |[],[]=>true
 |x::l,y::m=>cvEq x y&&cvsEq l m
 |_,_=>false
end
mutual
theorem K0w: ∀(a b:CV),cvEq a b=true->a=b
 |.sc a,b,h=>by cases b<;>simp[cvEq]at h;rw[V1n h]
 |.agg l,b,h=>by cases b<;>simp[cvEq]at h;rw[X0q l _ h]
 |.tup l,b,h=>by cases b<;>simp[cvEq]at h;rw[X0q l _ h]
 |.lst t l,b,h=>by cases b<;>simp[cvEq]at h;rw[tailEq_spec h.1,X0q l _ h.2]
 |.slc i p a c,b,h=>by cases b<;>simp[cvEq]at h;obtain⟨⟨⟨h1,h2⟩,h3⟩,h4⟩:=h;rw[h1,Y0z h2,h3,h4]
 |.ptr i p,b,h=>by cases b<;>simp[cvEq]at h;rw[h.1,Y0z h.2]
 |.rptr v,b,h=>by cases b<;>simp[cvEq]at h;rw[K0w v _ h]
 |.mapr i,b,h=>by cases b<;>simp[cvEq]at h;rw[h]
 |.fn f k l,b,h=>by cases b<;>simp[cvEq]at h;obtain⟨⟨h1,h2⟩,h3⟩:=h;rw[h1,X0q k _ h2,X0q l _ h3]
 |.ifc t v,b,h=>by cases b<;>simp[cvEq]at h;rw[h.1,K0w v _ h.2]
theorem X0q: ∀(l m:List CV),cvsEq l m=true->l=m
 |[],m,h=>by cases m<;>simp[cvsEq]at h;rfl
 |x::l,m,h=>by cases m<;>simp[cvsEq]at h;rw[K0w x _ h.1,X0q l _ h.2]
end
inductive Kind where
 |quiet
 |alloc
 |eff
def isNoneB{α:Type}: Option α->Bool
 |none=>true
 |some _=>false
def constLen: Operand->Operand->Option Nat
 |.const (.int .i64 n),.const (.int .i64 m)=>bif decide (n=m)&&decide (0<n)&&decide (n<=16777216)then some n.toNat else none
 |_,_=>none
theorem V00{l c:Operand}{n:Nat}(h:constLen l c=some n): l=.const (.int .i64 n)/\c=.const (.int .i64 n)/\0<n/\n<=16777216:=by
 unfold constLen at h
 split at h
 ·rename_i a b
  cases hb:(decide (a=b)&&decide (0<a)&&decide (a<=16777216)) with
  |false=>rw[hb]at h;cases h
  |true=>
   rw[hb]at h
   simp only[Bool.and_eq_true,decide_eq_true_eq]at hb
   obtain⟨⟨rfl,h0⟩,h1⟩:=hb
   simp only[cond_true,Option.some.injEq]at h
   subst h
   have:((a.toNat:Nat):Int)=a:=Int.toNat_of_nonneg (by omega)
   exact⟨by rw[this],by rw[this],by omega,by omega⟩
 ·cases h
def kindOf: Op->Kind
 |.alloc _=>.alloc
 |.makeMap _ r=>bif isNoneB r then .alloc else .eff
 |.box _ _=>.eff
 |.store _ _ _=>.eff
 |.panic _=>.eff
 |.makeSlice _ l c=>bif isNoneB (constLen l c)then .eff else .alloc
 |.mapUpdate _ _ _ _=>.eff
 |.call ⟨.value _,_,_⟩=>.eff
 |.call ⟨.builtin .append,_,_⟩=>.eff
 |.call ⟨.builtin .delete,_,_⟩=>.eff
 |_=>.quiet
theorem kind_make{t:TypeId}{l c:Operand}(h:kindOf (.makeSlice t l c)=.quiet): False:=by
 simp only[kindOf]at h
 cases hb:isNoneB (constLen l c)<;>rw[hb]at h<;>cases h
def heapy: Op->Bool
 |.load _ _=>true
 |.fieldAddr _ _ _=>true
 |.indexAddr _ _ _=>true
 |.slice _ _ _ _ _=>true
 |.lookup _ _ _ _=>true
 |.convert _ _ _=>true
 |.call _=>true
 |_=>false
def ancOf(acc:List Nat): List Edge->Nat
 |[]=>0
 |e::l=>bif Region.binds .any e then Nat.lor (Nat.lor (Nat.shiftLeft 1 e.on) (acc.getD e.on 0)) (ancOf acc l)else ancOf acc l
def ancs: List Oper->List Nat->List Nat
 |[],acc=>acc
 |o::l,acc=>ancs l (acc++[ancOf acc o.after.toList])
def bef(A:List Nat)(j i:Nat): Bool:=Nat.testBit (A.getD j 0) i
theorem Y0s(acc:List Nat): ∀(l:List Edge) (i:Nat),Nat.testBit (ancOf acc l) i=true->∃e∈l,Region.binds .any e=true/\(e.on=i\/Nat.testBit (acc.getD e.on 0) i=true)
 |[],i,h=>by simp[ancOf]at h
 |e::l,i,h=>by
  simp only[ancOf]at h
  cases hb:Region.binds .any e with
  |false=>
   rw[hb]at h
   obtain⟨e',h1,h2⟩:=Y0s acc l i h
   exact⟨e',List.mem_cons_of_mem _ h1,h2⟩
  |true=>
   rw[hb]at h
   simp only[cond_true]at h
   have h:Nat.testBit ((1 <<< e.on ||| acc.getD e.on 0) ||| ancOf acc l) i=true:=h
   rw[Nat.testBit_or,Nat.testBit_or]at h
   simp only[Bool.or_eq_true]at h
   rcases h with(h|h)|h
   ·refine⟨e,by simp,hb,.inl ?_⟩
    rw[Nat.one_shiftLeft,Nat.testBit_two_pow]at h
    simpa using h
   ·exact⟨e,by simp,hb,.inr h⟩
   ·obtain⟨e',h1,h2⟩:=Y0s acc l i h
    exact⟨e',List.mem_cons_of_mem _ h1,h2⟩
theorem Y1i: ∀(l:List Oper) (acc:List Nat),(∀j,j<acc.length->(ancs l acc).getD j 0=acc.getD j 0) /\
  ∀j o,l[j]?=some o->∃acc',(ancs l acc).getD (acc.length+j) 0=ancOf acc' o.after.toList/\∀k,k<acc'.length->acc'.getD k 0=(ancs l acc).getD k 0
 |[],acc=>⟨fun _ _=>rfl,fun j o h=>by simp at h⟩
 |o::l,acc=>by
  obtain⟨h1,h2⟩:=Y1i l (acc++[ancOf acc o.after.toList])
  have hlen:(acc++[ancOf acc o.after.toList]).length=acc.length+1:=by simp
  have hkeep:∀j,j<acc.length->(ancs (o::l) acc).getD j 0=acc.getD j 0:=fun j hj=>by
   simp only[ancs]
   rw[h1 j (by omega)]
   simp[List.getElem?_append_left hj]
  refine⟨hkeep,fun j o' hj=>?_⟩
  cases j with
  |zero=>
   simp at hj;subst hj
   refine⟨acc,?_,fun k hk=>(hkeep k hk).symm⟩
   simp only[ancs,Nat.add_zero]
   rw[h1 acc.length (by omega)]
   simp
  |succ j=>
   obtain⟨acc',k1,k2⟩:=h2 j o' (by simpa using hj)
   refine⟨acc',?_,k2⟩
   simp only[ancs]
   rw[<- k1,hlen];congr 1;omega
theorem K1l{ops:List Oper}(hlow:lowB ops=true){listed:Array Bool}(hd:Down ops listed): ∀(j i:Nat) (o:Oper),ops[j]?=some o->(∀e∈o.after,Region.binds .any e=true->listed.getD e.on false=true)->bef (ancs ops []) j i=true->listed.getD i false=true:=by
 intro j
 induction j using Nat.strongRecOn with
 |_ j ih=>
  intro i o ho hall hb
  obtain⟨acc',k1,k2⟩:=(Y1i ops []).2 j o ho
  simp only[List.length_nil,Nat.zero_add]at k1
  unfold bef at hb
  rw[k1]at hb
  obtain⟨e,he,hbind,h⟩:=Y0s acc' _ i hb
  have hl:=hall e (by simpa using he) hbind
  rcases h with h|h
  ·rw[<- h];exact hl
  ·have hlt:e.on<j:=by
    have h2:=List.all_eq_true.1 hlow (o,j) (by rw[List.mem_zipIdx_iff_getElem?];exact ho)
    have h3:=List.all_eq_true.1 h2 e he
    simpa[hbind]using h3
   have hlo:e.on<ops.length:=by
    rw[<- hd.size]
    rcases Nat.lt_or_ge e.on listed.size with h'|h'
    ·exact h'
    ·simp[Array.getElem?_eq_none h']at hl
   have ho':ops[e.on]?=some ops[e.on]:=by simp[hlo]
   have hlen:e.on<acc'.length:=by
    rcases Nat.lt_or_ge e.on acc'.length with h'|h'
    ·exact h'
    ·rw[List.getD_eq_getElem?_getD,List.getElem?_eq_none h']at h
     simp at h
   refine ih e.on hlt i ops[e.on] ho' (fun e' he' hb'=>hd.down e.on _ hl ho' e' he' hb') ?_
   unfold bef
   rw[<- k2 e.on hlen];exact h
end
end Go.Cl
end
