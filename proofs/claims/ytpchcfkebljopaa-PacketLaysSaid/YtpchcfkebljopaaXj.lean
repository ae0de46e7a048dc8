import Derived.SizedLaws
import Derived.Test.YtpchcfkebljopaaXi
set_option linter.unusedSimpArgs false
set_option linter.unusedVariables false
set_option linter.constructorNameAsVariable false
set_option linter.defProp false
set_option maxHeartbeats 8000000
section
namespace Go.Proofs.Ytpchcfkebljopaa
open Go.Cl Go Go.RowKit
set_option maxRecDepth 100000
set_option linter.constructorNameAsVariable false
def R55q: Rel:=fun args p r=>∃(j:Nat) (B:List Int),args=[.slc j [] 0 B.length]/\(B≠[])/\(B.length<=140737488355328)/\(∀x∈B,0<=x/\x<=255)/\(p.t.get j=some (Wrow B))/\r=.ret (.tup [I (slotB B),Bo (decide (B≠[]))]) p
theorem zq55q{A B:Prop}(k:B)(h:A=B:=by have zy:=zA @zw55<|zA @rs55<|zA @tt3<|zA @tt5<|zA @tt68<|zA @tt178<|zA ti3.eq_1<|zA ti5.eq_1<|zA ti68.eq_1<|zA ti178.eq_1<|zA @zsl68<|zA @ix68p<|zA @a68<|zA @Z1z<|zA @sub68<|zA @h0<|zA @h2<|zA @h5<|@h3;exact zQ): A:=h▸k
theorem c55q: Con C 55 R55q:=by
 refine V0e C ?_ ?_ ?_
 ·rintro args p r r' ⟨j,B,h,h0,h2,h5,h3,e⟩ ⟨j',B',h',h0',h2',h5',h3',e'⟩
  subst e;subst e';(subst h;simp only[List.cons.injEq,CV.slc.injEq,and_true,true_and]at h';obtain⟨e0,_⟩:=h';subst e0;rw[h3]at h3';rw[Z0n (Option.some.inj h3')])
 ·rintro args p r ⟨j,B,h,h0,h2,h5,h3,rfl⟩;exact zr1
 rintro args p r ⟨j,B,rfl,h0,h2,h5,h3,rfl⟩
 refine zW C false [] zT rfl xf55 zc55_ok fun call zh hF=>?_
 clear zh
 have hd_h3:=hF.dom _ _ h3
 have hl0:0<B.length:=List.length_pos_iff.2 h0
 have hl:¬(B.length:Int)=0:=by omega
 have hb:=h5 (nth B 0) (by rw[Y0h hl0];exact List.getElem_mem _)
 have h7:=and7 hb
 (have zx:=zA hl (zA hl0 (zA h7 h3));refine zq55q ?_;try exact zT)
 repeat'(apply zK.s<;>intro hc<;>(try simp only[zhd]at hc)<;>(try have hw:=K0a hc)<;>(refine zq55q ?_;try exact zT))
 all_goals(try clear zx)
 exact V0c hF zle (Q0d (by simp[slotB,h0]) (K0c (by intro jj;simp[CV.has,CV.hasL])))
def R55y: Rel:=fun args p r=>R55q args p r\/R55 args p r
theorem c55y: Con C 55 R55y:=Y03 C c55q c55 (by
 rintro args p r r' ⟨j,B,e,_⟩ ⟨s,e',_⟩
 rw[e]at e'
 simp[Lst.cv]at e')
theorem t55y{T:XCall}(h:Has T 55 R55y): (∀(j:Nat) (B:List Int) {p:Hp},B≠[]->B.length<=140737488355328->(∀x∈B,0<=x/\x<=255)->p.t.get j=some (Wrow B)->T 55 [.slc j [] 0 B.length] p=.ret (.tup [I (slotB B),Bo (decide (B≠[]))]) p) /\
  ∀{p:Hp},T 55 [Lst.cv Y8 ⟨.exact,[],nofun⟩] p=.ret (.tup [I (slotB []),Bo (decide (([]:List Int)≠[]))]) p:=
 ⟨fun j B p h0 h1 h2 h3=>h _ _ _ (.inl ⟨j,B,rfl,h0,h1,h2,h3,rfl⟩),fun {p}=>h _ _ _ (.inr ⟨⟨.exact,[],nofun⟩,rfl,nofun,rfl⟩)⟩
def R48y: Rel:=fun args p r=>R48q args p r\/R48 args p r
theorem c48y: Con C 48 R48y:=Y03 C c48q c48 (by
 rintro args p r r' ⟨k,j,B,e,_⟩ ⟨k',s,e',_⟩
 rw[e]at e'
 simp[Lst.cv]at e')
theorem t48y{T:XCall}(h:Has T 48 R48y): (∀(key:Int) (j:Nat) (B:List Int) {p:Hp},-9223372036854775808<=key/\key<=9223372036854775807->B.length<=140737488355328->(∀x∈B,0<=x/\x<=255)->p.t.get j=some (Wrow B)->T 48 [I key,.slc j [] 0 B.length] p=.ret (.tup [(openP key B).1.cv,I (openP key B).2]) p) /\
  ∀(key:Int) {p:Hp},-9223372036854775808<=key/\key<=9223372036854775807->T 48 [I key,Lst.cv Y8 ⟨.exact,[],nofun⟩] p=.ret (.tup [(openP key []).1.cv,I (openP key []).2]) p:=
 ⟨fun key j B p h0 h1 h2 h3=>h _ _ _ (.inl ⟨key,j,B,rfl,h0,h1,h2,h3,rfl⟩),fun key p h0=>h _ _ _ (.inr ⟨key,⟨.exact,[],nofun⟩,rfl,h0,.inr (by decide),Nat.zero_le _,nofun,rfl⟩)⟩
def R129e: Rel:=fun args p r=>∃(key:Int) (s:Lst Int),args=[I key,s.cv Y8]/\(s.l=[])/\r=.ret (.tup [Lst.cv Y8 nilB,Bo false]) p
theorem t129e{T:XCall}(h:Has T 129 R129e)(key:Int)(s:Lst Int){p:Hp}(h0:s.l=[]): T 129 [I key,s.cv Y8] p=.ret (.tup [Lst.cv Y8 nilB,Bo false]) p:=h _ _ _ ⟨key,s,rfl,h0,rfl⟩
theorem zq129e{A B:Prop}(k:B)(h:A=B:=by have zy:=zA @zw129<|zA @rs129<|zA @tt3<|zA @tt9<|zA @tt68<|zA ti3.eq_1<|zA ti9.eq_1<|zA ti68.eq_1<|zA @zsl68<|@h0;exact zQ): A:=h▸k
theorem c129e: Con C 129 R129e:=by
 refine V0e C ?_ ?_ ?_
 ·rintro args p r r' ⟨key,s,h,h0,e⟩ ⟨key',s',h',h0',e'⟩
  subst e;subst e';simp_all[X0f,X0f]
 ·rintro args p r ⟨key,s,h,h0,rfl⟩;exact zr1
 rintro args p r ⟨key,s,rfl,h0,rfl⟩
 refine zW C false [] zT rfl xf129 zc129_ok fun call zh hF=>?_
 clear zh
 have hl:(s.l.length:Int)=0:=by rw[h0];rfl
 (have zx:=hl;refine zq129e ?_;try exact zT)
 repeat'(apply zK.s<;>intro hc<;>(try simp only[zhd]at hc)<;>(try have hw:=K0a hc)<;>(refine zq129e ?_;try exact zT))
 all_goals(try clear zx)
 exact V0c hF zle (V0d (K0c (by intro jj;simp[CV.has,CV.hasL,Lst.cv,nilB])))
def R54e: Rel:=fun args p r=>∃(key:Int) (s:Lst Int),args=[I key,s.cv Y8]/\(s.l=[])/\r=.ret (.tup [(openP key []).1.cv,I (openP key []).2]) p
theorem zq54e{A B:Prop}(k:B)(h:A=B:=by have zy:=zA @zw54<|zA @rs54<|zA @tt3<|zA @tt4<|zA @tt9<|zA @tt25<|zA @tt36<|zA @tt68<|zA @tt91<|zA @tt92<|zA @tt94<|zA @tt108<|zA @tt110<|zA @tt161<|zA ti3.eq_1<|zA ti4.eq_1<|zA ti9.eq_1<|zA ti25.eq_1<|zA ti36.eq_1<|zA ti68.eq_1<|zA ti91.eq_1<|zA ti92.eq_1<|zA ti94.eq_1<|zA ti108.eq_1<|zA ti110.eq_1<|zA ti161.eq_1<|zA @t_129e<|zA @K0e<|zA @zsl68<|zA @zsl91<|zA @zsl92<|zA @zsl108<|@h0;exact zQ): A:=h▸k
theorem c54e: Con C 54 R54e:=by
 refine V0e C ?_ ?_ ?_
 ·rintro args p r r' ⟨key,s,h,h0,e⟩ ⟨key',s',h',h0',e'⟩
  subst e;subst e';simp_all[Q0a.inj_iff,X0f,Y0k,Y0i,Q0i,X0f]
 ·rintro args p r ⟨key,s,h,h0,rfl⟩;exact zr1
 rintro args p r ⟨key,s,rfl,h0,rfl⟩
 refine zW C false [(129,R129e)] ⟨c129e,zT⟩ rfl xf54 zc54_ok fun call zh hF=>?_
 have t_129e:=@t129e _ zh.1
 clear zh
 have hl:(s.l.length:Int)=0:=by rw[h0];rfl
 have hop:openP key []=(Q0a.zero,3):=open_tag (by simp) (fun e=>by simp[closeB,four]at e)
 rw[hop]
 (have zx:=zA hl h0;refine zq54e ?_;try exact zT)
 repeat'(apply zK.s<;>intro hc<;>(try simp only[zhd]at hc)<;>(try have hw:=K0a hc)<;>(refine zq54e ?_;try exact zT))
 all_goals(try clear zx)
 exact V0c hF zle (V0d (K0c (by simp only[CV.has,CV.hasL,or_false];exact K1a)))
def R54y: Rel:=fun args p r=>R54q args p r\/R54e args p r
theorem c54y: Con C 54 R54y:=Y03 C c54q c54e (by
 rintro args p r r' ⟨k,j,B,e,_⟩ ⟨k',s,e',_⟩
 rw[e]at e'
 simp[Lst.cv]at e')
theorem t54y{T:XCall}(h:Has T 54 R54y): (∀(key:Int) (j:Nat) (B:List Int) {p:Hp},-9223372036854775808<=key/\key<=9223372036854775807->B.length<=140737488355328->(∀x∈B,0<=x/\x<=255)->p.t.get j=some (Wrow B)->T 54 [I key,.slc j [] 0 B.length] p=.ret (.tup [(openP key B).1.cv,I (openP key B).2]) p) /\
  ∀(key:Int) {p:Hp},T 54 [I key,Lst.cv Y8 ⟨.exact,[],nofun⟩] p=.ret (.tup [(openP key []).1.cv,I (openP key []).2]) p:=
 ⟨fun key j B p h0 h1 h2 h3=>h _ _ _ (.inl ⟨key,j,B,rfl,h0,h1,h2,h3,rfl⟩),fun key p=>h _ _ _ (.inr ⟨key,⟨.exact,[],nofun⟩,rfl,rfl,rfl⟩)⟩
def R56: Rel:=fun args p r=>∃(s:Lst Int),args=[s.cv Y8]/\(s.tl≠.view)/\(s.l.length<=140737488355328)/\(∀x∈s.l,0<=x/\x<=255)/\r=.ret (.tup [I (slotB s.l),Bo (decide (s.l≠[]))]) p
theorem zq56{A B:Prop}(k:B)(h:A=B:=by have zy:=zA @zw56<|zA @rs56<|zA @tt3<|zA @tt4<|zA @tt25<|zA @tt161<|zA ti3.eq_1<|zA ti4.eq_1<|zA ti25.eq_1<|zA ti161.eq_1<|zA @t_103<|zA @X0n<|zA @bld161<|zA @Y0b.xbox<|zA @rdD_eq<|zA @h4<|zA @h2<|@h5;exact zQ): A:=h▸k
theorem c56: Con C 56 R56:=by
 refine V0e C ?_ ?_ ?_
 ·rintro args p r r' ⟨s,h,h4,h2,h5,e⟩ ⟨s',h',h4',h2',h5',e'⟩
  subst e;subst e';simp_all[Y0b.inj_iff,X0f]
 ·rintro args p r ⟨s,h,h4,h2,h5,rfl⟩;exact zr1
 rintro args p r ⟨s,rfl,h4,h2,h5,rfl⟩
 refine zW C false [(103,R103)] ⟨c103,zT⟩ rfl xf56 zc56_ok fun call zh hF=>?_
 have t_103:=@t103 _ zh.1
 clear zh
 by_cases h0:s.l=[]
 ·have r1:getD s.l 3 (0,false)=(0,(0,true)):=by rw[h0];simp[getD]
  have r2:getD s.l 3 (0,true)=(0,(0,true)):=by simp[getD]
  have hsl:slotB s.l=0:=by rw[slotB,if_pos h0]
  have hd:decide (s.l≠[])=false:=decide_eq_false (fun h=>h h0)
  rw[hsl,hd]
  have r3:rdD s (0,true)=.var sh161 (Y0b.mk s 0 true).cv:=rfl
  (have zx:=zA r1 r2;refine zq56 ?_;try exact zT)
  repeat'(apply zK.s<;>intro hc<;>(try simp only[zhd]at hc)<;>(try have hw:=K0a hc)<;>(refine zq56 ?_;try exact zT))
  all_goals(try clear zx)
  rw[r3]
  (have zx:=zT;refine zq56 ?_;try exact zT)
  repeat'(apply zK.s<;>intro hc<;>(try simp only[zhd]at hc)<;>(try have hw:=K0a hc)<;>(refine zq56 ?_;try exact zT))
  all_goals(try clear zx)
  exact V0c hF zle (Q0d rfl (K0c (by intro jj;simp[CV.has,CV.hasL])))
 ·have hl0:0<s.l.length:=List.length_pos_iff.2 h0
  have r1:getD s.l 3 (0,false)=(valB (bitB s.l) 0 3,(3,false)):=by unfold getD;rw[if_neg (by simp;omega)]
  have r2:getD s.l 3 (3,false)=(nth s.l 0/4 % 8,(6,false)):=by unfold getD;rw[if_neg (by simp;omega),slot_val]
  have hw:IntKind.i64.wrap (nth s.l 0/4 % 8)=nth s.l 0/4 % 8:=X0p (by omega) (by omega)
  have hsl:slotB s.l=nth s.l 0/4 % 8:=by rw[slotB,if_neg h0]
  have hd:decide (s.l≠[])=true:=decide_eq_true h0
  rw[hsl,hd]
  have r3:rdD s (6,false)=.var sh161 (Y0b.mk s 6 false).cv:=rfl
  (have zx:=zA r1 (zA r2 hw);refine zq56 ?_;try exact zT)
  repeat'(apply zK.s<;>intro hc<;>(try simp only[zhd]at hc)<;>(try have hw:=K0a hc)<;>(refine zq56 ?_;try exact zT))
  all_goals(try clear zx)
  rw[r3]
  (have zx:=zT;refine zq56 ?_;try exact zT)
  repeat'(apply zK.s<;>intro hc<;>(try simp only[zhd]at hc)<;>(try have hw:=K0a hc)<;>(refine zq56 ?_;try exact zT))
  all_goals(try clear zx)
  exact V0c hF zle (Q0d rfl (K0c (by intro jj;simp[CV.has,CV.hasL])))
def RowZ(p q:Hp)(z:CV)(B:List Int): Prop:=
 (z=Lst.cv Y8 ⟨.exact,[],nofun⟩/\B=[])\/∃j,z=.slc j [] 0 B.length/\B≠[]/\p.n<=j/\j<q.n/\q.t.get j=some (Wrow B)
def R8: Rel:=fun args p r=>∃(x:Z0a) (l:Lst (Lst Int)) (how at_ by_:Int) (raw:Lst Int) (near:Bool) (ats:Lst Int) (w:Int),args=[x.cv,Lst.cv (Lst.cv I) l,I how,I at_,I by_,raw.cv Y8,Bo near,Lst.cv I ats,Y8 w]/\(0<=w/\w<=255)/\(raw.l.length<=140737488355328)/\(∀x∈raw.l,0<=x/\x<=255)/\r=.ret (Bo true) p
theorem t8{T:XCall}(h:Has T 8 R8)(x:Z0a)(l:Lst (Lst Int))(how at_ by_:Int)(raw:Lst Int)(near:Bool)(ats:Lst Int)(w:Int){p:Hp}(hb:0<=w/\w<=255)(hw1:raw.l.length<=140737488355328)(hw2:∀x∈raw.l,0<=x/\x<=255): T 8 [x.cv,Lst.cv (Lst.cv I) l,I how,I at_,I by_,raw.cv Y8,Bo near,Lst.cv I ats,Y8 w] p=.ret (Bo true) p:=h _ _ _ ⟨x,l,how,at_,by_,raw,near,ats,w,rfl,hb,hw1,hw2,rfl⟩
end Go.Proofs.Ytpchcfkebljopaa
end
section
namespace Go.Proofs.Ytpchcfkebljopaa
open Go.Cl Go Go.RowKit
theorem Y1n: packOk Q0a.zero:=⟨Nat.zero_le _,Nat.zero_le _,nofun⟩
theorem open_ok(key:Int)(B:List Int): packOk (openP key B).1:=by
 unfold openP
 split
 ·exact Y1n
 ·split
  ·exact Y1n
  ·split
   ·exact Y1n
   ·rename_i x a h
    split
    ·exact V1t h
    ·exact Y1n
theorem close_byte{key:Int}{B:List Int}(h:∀x∈B,0<=x/\x<=255)(m:Nat): ∀x∈closeB key (B.take m),0<=x/\x<=255:=fun x hx=>by
 rw[closeB]at hx
 rcases List.mem_append.1 hx with hx|hx
 ·exact h x (List.mem_of_mem_take hx)
 ·simp only[four,List.mem_cons,List.not_mem_nil,or_false]at hx
  omega
end Go.Proofs.Ytpchcfkebljopaa
end
section
namespace Go.Proofs.Ytpchcfkebljopaa
open Go.Cl Go Go.RowKit
set_option maxRecDepth 100000
set_option linter.constructorNameAsVariable false
def R56y: Rel:=fun args p r=>RFrz R56 args p r\/R56 args p r
theorem c56y: Con C 56 R56y:=Y03 C (con_frz C c56) c56 (by
 rintro args p r r' ⟨a,j,sh,l,sz,e,_⟩ ⟨s,rfl,_⟩
 have:=congrArg List.getLast? e
 simp[Lst.cv]at this)
theorem t56y{T:XCall}(h:Has T 56 R56y): (∀(j:Nat) (B:List Int) {p:Hp},B.length<=140737488355328->(∀x∈B,0<=x/\x<=255)->p.t.get j=some (Wrow B)->T 56 [.slc j [] 0 B.length] p=.ret (.tup [I (slotB B),Bo (decide (B≠[]))]) (p.set j none)) /\
  ∀{p:Hp},T 56 [Lst.cv Y8 ⟨.exact,[],nofun⟩] p=.ret (.tup [I (slotB []),Bo (decide (([]:List Int)≠[]))]) p:=
 ⟨fun j B p h1 h2 h3=>h _ _ _ (.inl ⟨[],j,_,B.map Y8,1,by rw[List.length_map];rfl,h3,fun x hx=>by obtain⟨y,_,rfl⟩:=List.mem_map.1 hx;rfl,⟨partB B,rfl,nofun,h1,h2,rfl⟩⟩),fun {p}=>h _ _ _ (.inr ⟨⟨.exact,[],nofun⟩,rfl,nofun,Nat.zero_le _,nofun,rfl⟩)⟩
def K13(key how:Int)(A:Q0a)(raw ats:Lst Int)(w:Int)(p:Hp)(ρ:Env)(q:Hp): Prop:=
 ∃a,ρ 1=I key/\ρ 2=raw.cv Y8/\ρ 3=I how/\ρ 4=Lst.cv I ats/\ρ 5=Y8 w/\ρ 13=.ptr a []/\(packRight A=true->ρ 16=Lst.cv Y8 (partB (layP key A)))/\ρ 17=Bo (packRight A)/\q.t.get a=some (.var sh94 A.cv)/\p.n<=a/\a<q.n/\HpLe p q
def L13(key:Int)(A:Q0a)(p:Hp)(ρ:Env)(q:Hp): Prop:=
 ∃a B,ρ 1=I key/\ρ 13=.ptr a []/\q.t.get a=some (.var sh94 A.cv)/\RowZ p q (ρ 18) B/\B.length<=140737488355328/\(∀x∈B,0<=x/\x<=255)/\p.n<=a/\a<q.n/\HpLe p q
def J13(key how:Int)(A:Q0a)(m:Nat)(ats:Lst Int)(w:Int)(p:Hp)(n:Nat)(ρ:Env)(q:Hp): Prop:=
 ∃(k:Nat) (B:List Int) (a j:Nat),n=2-k/\k<=2/\k<=ats.l.length/\B.length=m+4/\(∀x∈B,0<=x/\x<=255)/\ρ 1=I key/\ρ 3=I how/\ρ 4=Lst.cv I ats/\ρ 5=Y8 w/\ρ 13=.ptr a []/\ρ 18=.slc j [] 0 m/\ρ 19=I k/\q.t.get a=some (.var sh94 A.cv)/\q.t.get j=some (Wrow B)/\p.n<=a/\a<q.n/\p.n<=j/\j<q.n/\a≠j/\HpLe p q
def R13: Rel:=fun args p r=>∃(x:V0a) (tok:Int) (raw:Lst Int) (how:Int) (ats:Lst Int) (w:Int),args=[x.cv,I tok,raw.cv Y8,I how,Lst.cv I ats,Y8 w]/\(0<=w/\w<=255)/\(-9223372036854775808<=how/\how<=9223372036854775807)/\(raw.l.length<=140737488355328)/\(∀x∈raw.l,0<=x/\x<=255)/\r=.ret (Bo true) p
theorem zdis13{P:Prop}(h:P:=by first|exact zdis|(simp only[Hp.bump_n,Hp.znew_n,Hp.zset_n,List.length_nil,List.length_cons,List.length_append,List.length_map,Z0e];(first|done|omega))|(simp (disch:=first|exact zd1|(simp only[Hp.bump_n,Hp.znew_n,Hp.zset_n,List.length_nil,List.length_cons,List.length_append,List.length_map,Z0e];(first|done|omega))) only[zheap,zx];(first|done|rfl))|fail): P:=h
theorem zq13{A B:Prop}(k:B)(h:A=B:=by have zy:=zA @zw13<|zA @rs13<|zA @tt3<|zA @tt4<|zA @tt5<|zA @tt9<|zA @tt24<|zA @tt68<|zA @tt69<|zA @tt90<|zA @tt94<|zA ti3.eq_1<|zA ti4.eq_1<|zA ti5.eq_1<|zA ti9.eq_1<|zA ti24.eq_1<|zA ti68.eq_1<|zA ti69.eq_1<|zA ti90.eq_1<|zA ti94.eq_1<|zA @t_37<|zA @t_45<|zA @t_46<|zA @t_51<|zA @t_42x<|zA @t_47<|zA @t_48y<|zA @t_49<|zA @t_50<|zA @t_52<|zA @t_53m<|zA @t_54y<|zA @t_55y<|zA @t_56y<|zA @t_57<|zA @K0w<|zA @K0e<|zA @zsl24<|zA @zsl68<|zA @ix68p<|zA @sl68r<|zA @a68<|zA @sa68<|zA @xor8_e<|zA @Z1z<|zA @sub68<|zA @tt5<|zA ti5.eq_1<|zA @Y0u<|zA @str_eq<|zA @Z0e<|zA @hb<|zA @hh<|zA @hw1<|@hw2;have zd:=@zdis13;exact zQd): A:=h▸k
theorem c13: Con C 13 R13:=by
 refine V0e C ?_ ?_ ?_
 ·rintro args p r r' ⟨x,tok,raw,how,ats,w,h,hb,hh,hw1,hw2,e⟩ ⟨x',tok',raw',how',ats',w',h',hb',hh',hw1',hw2',e'⟩
  subst e;subst e';simp_all[V0a.inj_iff,Q0a.inj_iff,Z1n,X0f,X0f]
 ·rintro args p r ⟨x,tok,raw,how,ats,w,h,hb,hh,hw1,hw2,rfl⟩;exact zr1
 rintro args p r ⟨x,tok,raw,how,ats,w,rfl,hb,hh,hw1,hw2,rfl⟩
 refine zW C true [(37,R37),(45,R45),(46,R46),(51,R51),(42,R42x),(47,R47),(48,R48y),(49,R49),(50,R50),(52,R52),(53,R53m),(54,R54y),(55,R55y),(56,R56y),(57,R57)] ⟨c37,c45,c46,c51,c42x,c47,c48y,c49,c50,c52,c53m,c54y,c55y,c56y,c57,zT⟩ rfl xf13 zc13_ok fun call zh hF=>?_
 have t_37:=@t37 _ zh.1
 have t_45:=@t45 _ zh.2.1
 have t_46:=@t46 _ zh.2.2.1
 have t_51:=@t51 _ zh.2.2.2.1
 have t_42x:=@t42x _ zh.2.2.2.2.1
 have t_47:=@t47 _ zh.2.2.2.2.2.1
 have t_48y:=@t48y _ zh.2.2.2.2.2.2.1
 have t_49:=@t49 _ zh.2.2.2.2.2.2.2.1
 have t_50:=@t50 _ zh.2.2.2.2.2.2.2.2.1
 have t_52:=@t52 _ zh.2.2.2.2.2.2.2.2.2.1
 have t_53m:=@t53m _ zh.2.2.2.2.2.2.2.2.2.2.1
 have t_54y:=@t54y _ zh.2.2.2.2.2.2.2.2.2.2.2.1
 have t_55y:=@t55y _ zh.2.2.2.2.2.2.2.2.2.2.2.2.1
 have t_56y:=@t56y _ zh.2.2.2.2.2.2.2.2.2.2.2.2.2.1
 have t_57:=@t57 _ zh.2.2.2.2.2.2.2.2.2.2.2.2.2.2.1
 clear zh
 have hok:=packetOf_ok x
 generalize hA:packetOf x=A at hok
 have hpk:=X0m (n:=tok) (m:=2147483647) (by omega)
 generalize hK:pick tok 2147483647=key at hpk
 have main3:∀ρ q,L13 key A p ρ q->W C true noExt call (ZC.seq Y1x (ZC.seq K1z (ZC.seq X1t (ZC.seq X1r (ZC.seq X1p ZC.ret))))) ρ q (endQ C (xfOf Try.f13).rs fun r'=>ShrR p r' (.ret (Bo true) p)):=by
  rintro ρ q ⟨a,B,e1,e13,g1,hz,hBl,hBb,hpa,han,hle⟩
  have hX:=open_ok key B
  obtain⟨X,hXX⟩:∃X,X=(openP key B).1:=⟨_,rfl⟩
  obtain⟨E,hEE⟩:∃E,E=(openP key B).2:=⟨_,rfl⟩
  rw[<- hXX]at hX
  have hrf:=sameP_refl X
  have hdE:decide (E=E)=true:=decide_eq_true rfl
  rcases hz with⟨ez,rfl⟩|⟨j,ez,hB0,hpj,hjq,g2⟩
  ·have hsl:slotB []=0:=by simp[slotB]
   have t1:=fun p=>t_48y.2 key (p:=p) (by omega)
   have t2:=fun p=>t_54y.2 key (p:=p)
   rw[<- hXX,<- hEE]at t1 t2
   have hXs:=hXX.symm
   have hEs:=hEE.symm
   clear hXX hEE
   (have zx:=zA e1 (zA e13 (zA ez (zA g1 (zA t1 (zA t2 (zA hsl (zA hrf (zA hok (zA hX (zA hdE (zA hXs hEs)))))))))));refine zq13 ?_;try exact zT)
   repeat'(apply zK.s<;>intro hc<;>(try simp only[zhd]at hc)<;>(try have hw:=K0a hc)<;>(refine zq13 ?_;try exact zT))
   all_goals(try clear zx)
   exact V0c hF (fun k o h=>by have hd:=hF.dom k o h;have hq:=hle k o h;simp (disch:=first|exact zdl|fail) only[zheap];exact hq) (Q0d rfl (K0c (by intro jj;simp[CV.has])))
  ·have t1:=fun p h=>t_48y.1 key j B (p:=p) (by omega) hBl hBb h
   have t2:=fun p h=>t_54y.1 key j B (p:=p) (by omega) hBl hBb h
   have t3:=fun p h=>t_55y.1 j B (p:=p) hB0 hBl hBb h
   have t4:=fun p h=>t_56y.1 j B (p:=p) hBl hBb h
   rw[<- hXX,<- hEE]at t1 t2
   have hXs:=hXX.symm
   have hEs:=hEE.symm
   clear hXX hEE
   have haj:a≠j:=by
    intro e;subst e
    rw[g1,Z1z]at g2
    simp only[Option.some.injEq,XObj.var.injEq]at g2
    have h2:=g2.2
    cases B with
    |nil=>exact hB0 rfl
    |cons b B=>simp[Q0a.cv]at h2
   (have zx:=zA e1 (zA e13 (zA ez (zA g1 (zA g2 (zA t1 (zA t2 (zA t3 (zA t4 (zA hrf (zA hok (zA hX (zA hdE (zA hXs hEs)))))))))))));refine zq13 ?_;try exact zT)
   repeat'(apply zK.s<;>intro hc<;>(try simp only[zhd]at hc)<;>(try have hw:=K0a hc)<;>(refine zq13 ?_;try exact zT))
   all_goals(try clear zx)
   exact V0c hF (fun k o h=>by have hd:=hF.dom k o h;have hq:=hle k o h;simp (disch:=first|exact zdl|fail) only[zheap];exact hq) (Q0d rfl (K0c (by intro jj;simp[CV.has])))
 obtain⟨R,hRR⟩:∃R,R=(ZC.seq Y1x (ZC.seq K1z (ZC.seq X1t (ZC.seq X1r (ZC.seq X1p ZC.ret))))):=⟨_,rfl⟩
 rw[<- hRR]at main3
 have main2:∀(m:Nat),0<m->m<=396->∀n ρ q,J13 key how A m ats w p n ρ q->W C true noExt call K1g ρ q (seqQ (W C true noExt call R) (endQ C (xfOf Try.f13).rs fun r'=>ShrR p r' (.ret (Bo true) p))):=by
  rintro m hm0 hm4 n ρ q ⟨k,B,a,j,rfl,hk2,hkl,hBm,hBb,e1,e3,e4,e5,e13,e18,e19,g1,g2,hpa,haq,hpj,hjq,haj,hle⟩
  have h9:=X0m (n:=w64 (how.tdiv 5)) (m:=9) (by omega)
  have hwe:w64 (how.tdiv 5)=IntKind.i64.wrap (how.tdiv 5):=rfl
  rw[hwe]at h9
  generalize hP:pick (IntKind.i64.wrap (how.tdiv 5)) 9=n9 at h9
  obtain⟨m',hm',hml⟩:∃m':Nat,(m:Int)-n9.tdiv 8=m'/\m'<=m:=by
   rw[Int.tdiv_eq_ediv_of_nonneg (by omega)]
   exact⟨((m:Int)-n9/8).toNat,by omega,by omega⟩
  have t3:=fun q h=>t_53m key j m' B (p:=q) (by omega) (by omega) (by omega) hBb h
  (have zx:=zA e1 (zA e3 (zA e13 (zA e18 (zA g1 (zA g2 (zA hP (zA hm' (zA hml t3))))))));refine zq13 ?_;try exact zT)
  repeat'(apply zK.s<;>intro hc<;>(try simp only[zhd]at hc)<;>(try have hw:=K0a hc)<;>(refine zq13 ?_;try exact zT))
  all_goals(try clear zx)
  refine main3 _ _ ⟨a,closeB key (B.take m'),zev,zev,zg9,.inr ⟨q.n,zev,?_,by have:=hle;omega,zdl,by simp (disch:=first|exact zdl|fail) only[zheap];rfl⟩,by rw[K0o,List.length_take];omega,close_byte hBb m',hpa,zdl,(fun k o h=>by have hd:=hF.dom k o h;have hq:=hle k o h;first|exact hq|(simp (disch:=first|exact zdl|fail) only[zheap];exact hq))⟩
  intro e;have:=congrArg List.length e;rw[K0o]at this;simp at this
 have hloop:∀(m:Nat),0<m->m<=396->∀Q:ZQ,(∀n ρ q,J13 key how A m ats w p n ρ q->Q (.exit 0) ρ q)->∀ρ q,J13 key how A m ats w p 2 ρ q->W C true noExt call (ZC.loop X04) ρ q Q:=by
  intro m hm0 hm4 Q hQ ρ q hJ
  refine Y0g C true noExt call X04 _ _ _ (J13 key how A m ats w p) 2 hJ ?_
  clear hJ ρ q
  rintro n ρ q ⟨k,B,a,j,rfl,hk2,hkl,hBm,hBb,e1,e3,e4,e5,e13,e18,e19,g1,g2,hpa,haq,hpj,hjq,haj,hle⟩
  have hQ':∀ρ' q',ρ' 1=I key->ρ' 3=I how->ρ' 4=Lst.cv I ats->ρ' 5=Y8 w->ρ' 13=.ptr a []->ρ' 18=.slc j [] 0 m->ρ' 19=I k->q'=q->Q (.exit 0) ρ' q':=fun ρ' q' h1 h2 h3 h4 h5 h6 h7 h8=>by
   subst h8
   exact hQ _ _ _ ⟨k,B,a,j,rfl,hk2,hkl,hBm,hBb,h1,h2,h3,h4,h5,h6,h7,g1,g2,hpa,haq,hpj,hjq,haj,hle⟩
  by_cases hlt:(k:Int)<ats.l.length
  ·by_cases h2:(k:Int)<2
   ·have hpk:=X0m (n:=nth ats.l k) (m:=(m:Int)) (by omega)
    have hne:¬(m:Int)=0:=by omega
    have hkn:(pick (nth ats.l k) (m:Int)).toNat<m:=by omega
    have hkn4:(pick (nth ats.l k) (m:Int)).toNat<m+4:=by omega
    have hkB:(pick (nth ats.l k) (m:Int)).toNat<B.length:=by omega
    (have zx:=zA e1 (zA e3 (zA e4 (zA e5 (zA e13 (zA e18 (zA e19 (zA g1 (zA g2 (zA hlt (zA h2 (zA hne (zA hkn hkB))))))))))));refine zq13 ?_;try exact zT)
    repeat'(apply zK.s<;>intro hc<;>(try simp only[zhd]at hc)<;>(try have hw:=K0a hc)<;>(refine zq13 ?_;try exact zT))
    all_goals(try clear zx)
    refine⟨2-(k+1),by omega,k+1,turned B (pick (nth ats.l k) (m:Int)).toNat w,a,j,rfl,by omega,by omega,by rw[turned,List.length_set];exact hBm,turned_byte hBb _ _,zev,zev,zev,zev,zev,zev,zev,zg9,?_,hpa,zdl,hpj,zdl,haj,fun k o h=>by have hd:=hF.dom k o h;have hq:=hle k o h;simp (disch:=first|exact zdl|fail) only[zheap];exact hq⟩
    rw[Z1z,turned,List.length_set];simp (disch:=first|exact zdl|fail) only[zheap]
   ·(have zx:=zA e1 (zA e3 (zA e4 (zA e5 (zA e13 (zA e18 (zA e19 (zA g1 (zA g2 (zA hlt h2)))))))));refine zq13 ?_;try exact zT)
    repeat'(apply zK.s<;>intro hc<;>(try simp only[zhd]at hc)<;>(try have hw:=K0a hc)<;>(refine zq13 ?_;try exact zT))
    all_goals(try clear zx)
    exact hQ' _ _ (zev) (zev) (zev) (zev) (zev) (zev) (zev) rfl
  ·(have zx:=zA e1 (zA e3 (zA e4 (zA e5 (zA e13 (zA e18 (zA e19 (zA g1 (zA g2 hlt))))))));refine zq13 ?_;try exact zT)
   repeat'(apply zK.s<;>intro hc<;>(try simp only[zhd]at hc)<;>(try have hw:=K0a hc)<;>(refine zq13 ?_;try exact zT))
   all_goals(try clear zx)
   exact hQ' _ _ (zev) (zev) (zev) (zev) (zev) (zev) (zev) rfl
 have mainK:∀ρ q,K13 key how A raw ats w p ρ q->W C true noExt call (ZC.seq V11 (ZC.seq (ZC.seq X1x (ZC.cond (Tm 79) (ZC.seq X1y (ZC.seq K1t (ZC.cond (Tm 91) (ZC.seq V1w (ZC.seq (ZC.seq Z1v (ZC.block 0 (ZC.loop X04))) K1g)) ZC.skip))) ZC.skip)) R)) ρ q (endQ C (xfOf Try.f13).rs fun r'=>ShrR p r' (.ret (Bo true) p)):=by
  rintro ρ q ⟨a,e1,e2,e3,e4,e5,e13,e16,e17,g1,hpa,haq,hle⟩
  have fin1:∀ρ' q' ,ρ' 1=I key->ρ' 13=.ptr a []->q'.t.get a=some (.var sh94 A.cv)->RowZ p q' (ρ' 18) raw.l->a<q'.n->HpLe p q'->W C true noExt call R ρ' q' (endQ C (xfOf Try.f13).rs fun r'=>ShrR p r' (.ret (Bo true) p)):=fun ρ' q' h1 h2 h3 h4 h5 h6=>main3 _ _ ⟨a,raw.l,h1,h2,h3,h4,hw1,hw2,hpa,h5,h6⟩
  have b1:=V1y key A
  cases hR:packRight A with
  |false=>
   rw[hR]at e17
   by_cases h0:raw.l=[]
   ·(have zx:=zA e1 (zA e2 (zA e3 (zA e13 (zA e17 (zA g1 h0)))));refine zq13 ?_;try exact zT)
    repeat'(apply zK.s<;>intro hc<;>(try simp only[zhd]at hc)<;>(try have hw:=K0a hc)<;>(refine zq13 ?_;try exact zT))
    all_goals(try clear zx)
    exact fin1 _ _ (zev) (zev) g1 (.inl ⟨zev,h0⟩) haq hle
   ·(have zx:=zA e1 (zA e2 (zA e3 (zA e13 (zA e17 (zA g1 h0)))));refine zq13 ?_;try exact zT)
    repeat'(apply zK.s<;>intro hc<;>(try simp only[zhd]at hc)<;>(try have hw:=K0a hc)<;>(refine zq13 ?_;try exact zT))
    all_goals(try clear zx)
    exact fin1 _ _ (zev) (zev) (zg9) (.inr ⟨q.n,zev,h0,by omega,zdl,by simp (disch:=first|exact zdl|fail) only[zheap];rfl⟩) zdl (fun k o h=>by have hd:=hF.dom k o h;have hq:=hle k o h;first|exact hq|(simp (disch:=first|exact zdl|fail) only[zheap];exact hq))
  |true=>
   have lS:=lay_short (key:=key) hR
   have e16:=e16 hR
   rw[hR]at e17
   have hln:¬layP key A=[]:=fun e=>by rw[e]at lS;simp at lS
   have hm4:((layP key A).length:Int)-4=(((layP key A).length-4:Nat):Int):=by omega
   have hl4:(4:Int)<(layP key A).length:=by omega
   have hle4:(layP key A).length-4<=(layP key A).length:=by omega
   by_cases h5:0<how.tmod 5
   ·by_cases h1:1<how.tmod 5
    ·by_cases h0:raw.l=[]
     ·(have zx:=zA e1 (zA e2 (zA e3 (zA e4 (zA e5 (zA e13 (zA e16 (zA e17 (zA g1 (zA h0 (zA h5 (zA h1 (zA hln (zA hm4 (zA hl4 hle4))))))))))))));refine zq13 ?_;try exact zT)
      repeat'(apply zK.s<;>intro hc<;>(try simp only[zhd]at hc)<;>(try have hw:=K0a hc)<;>(refine zq13 ?_;try exact zT))
      all_goals(try clear zx)
      refine hloop ((layP key A).length-4) (by omega) (by omega) _ (fun n ρ q h=>main2 _ (by omega) (by omega) n ρ q h) _ _ ⟨0,layP key A,a,q.n,rfl,by omega,by omega,by omega,b1,zev,zev,zev,zev,zev,zev,zev,zg9,by simp (disch:=first|exact zdl|fail) only[zheap];rfl,hpa,zdl,by omega,zdl,by omega,(fun k o h=>by have hd:=hF.dom k o h;have hq:=hle k o h;first|exact hq|(simp (disch:=first|exact zdl|fail) only[zheap];exact hq))⟩
     ·(have zx:=zA e1 (zA e2 (zA e3 (zA e4 (zA e5 (zA e13 (zA e16 (zA e17 (zA g1 (zA h0 (zA h5 (zA h1 (zA hln (zA hm4 (zA hl4 hle4))))))))))))));refine zq13 ?_;try exact zT)
      repeat'(apply zK.s<;>intro hc<;>(try simp only[zhd]at hc)<;>(try have hw:=K0a hc)<;>(refine zq13 ?_;try exact zT))
      all_goals(try clear zx)
      refine hloop ((layP key A).length-4) (by omega) (by omega) _ (fun n ρ q h=>main2 _ (by omega) (by omega) n ρ q h) _ _ ⟨0,layP key A,a,q.n+1,rfl,by omega,by omega,by omega,b1,zev,zev,zev,zev,zev,zev,zev,zg9,by simp (disch:=first|exact zdl|fail) only[zheap];rfl,hpa,zdl,by omega,zdl,by omega,(fun k o h=>by have hd:=hF.dom k o h;have hq:=hle k o h;first|exact hq|(simp (disch:=first|exact zdl|fail) only[zheap];exact hq))⟩
    ·have fin2:∀ρ' q' ,ρ' 1=I key->ρ' 13=.ptr a []->q'.t.get a=some (.var sh94 A.cv)->RowZ p q' (ρ' 18) (layP key A)->a<q'.n->HpLe p q'->W C true noExt call R ρ' q' (endQ C (xfOf Try.f13).rs fun r'=>ShrR p r' (.ret (Bo true) p)):=fun ρ' q' h1 h2 h3 h4 h5 h6=>main3 _ _ ⟨a,layP key A,h1,h2,h3,h4,by omega,b1,hpa,h5,h6⟩
     by_cases h0:raw.l=[]
     ·(have zx:=zA e1 (zA e2 (zA e3 (zA e4 (zA e5 (zA e13 (zA e16 (zA e17 (zA g1 (zA h0 (zA h5 (zA h1 hln)))))))))));refine zq13 ?_;try exact zT)
      repeat'(apply zK.s<;>intro hc<;>(try simp only[zhd]at hc)<;>(try have hw:=K0a hc)<;>(refine zq13 ?_;try exact zT))
      all_goals(try clear zx)
      exact fin2 _ _ (zev) (zev) (zg9) (.inr ⟨q.n,zev,hln,by omega,zdl,by simp (disch:=first|exact zdl|fail) only[zheap];rfl⟩) zdl (fun k o h=>by have hd:=hF.dom k o h;have hq:=hle k o h;first|exact hq|(simp (disch:=first|exact zdl|fail) only[zheap];exact hq))
     ·(have zx:=zA e1 (zA e2 (zA e3 (zA e4 (zA e5 (zA e13 (zA e16 (zA e17 (zA g1 (zA h0 (zA h5 (zA h1 hln)))))))))));refine zq13 ?_;try exact zT)
      repeat'(apply zK.s<;>intro hc<;>(try simp only[zhd]at hc)<;>(try have hw:=K0a hc)<;>(refine zq13 ?_;try exact zT))
      all_goals(try clear zx)
      exact fin2 _ _ (zev) (zev) (zg9) (.inr ⟨q.n+1,zev,hln,by omega,zdl,by simp (disch:=first|exact zdl|fail) only[zheap];rfl⟩) zdl (fun k o h=>by have hd:=hF.dom k o h;have hq:=hle k o h;first|exact hq|(simp (disch:=first|exact zdl|fail) only[zheap];exact hq))
   ·by_cases h0:raw.l=[]
    ·(have zx:=zA e1 (zA e2 (zA e3 (zA e4 (zA e5 (zA e13 (zA e16 (zA e17 (zA g1 (zA h0 h5)))))))));refine zq13 ?_;try exact zT)
     repeat'(apply zK.s<;>intro hc<;>(try simp only[zhd]at hc)<;>(try have hw:=K0a hc)<;>(refine zq13 ?_;try exact zT))
     all_goals(try clear zx)
     exact fin1 _ _ (zev) (zev) g1 (.inl ⟨zev,h0⟩) haq hle
    ·(have zx:=zA e1 (zA e2 (zA e3 (zA e4 (zA e5 (zA e13 (zA e16 (zA e17 (zA g1 (zA h0 h5)))))))));refine zq13 ?_;try exact zT)
     repeat'(apply zK.s<;>intro hc<;>(try simp only[zhd]at hc)<;>(try have hw:=K0a hc)<;>(refine zq13 ?_;try exact zT))
     all_goals(try clear zx)
     exact fin1 _ _ (zev) (zev) (zg9) (.inr ⟨q.n,zev,h0,by omega,zdl,by simp (disch:=first|exact zdl|fail) only[zheap];rfl⟩) zdl (fun k o h=>by have hd:=hF.dom k o h;have hq:=hle k o h;first|exact hq|(simp (disch:=first|exact zdl|fail) only[zheap];exact hq))
 show W C true noExt call (ZC.seq zn13_1 (ZC.seq zn13_3 (ZC.seq zn13_5 (ZC.seq zn13_7 (ZC.seq zn13_9 (ZC.seq (ZC.seq zn13_12 (ZC.cond (Tm 69) (ZC.seq zn13_15 ZC.ret) ZC.skip)) (ZC.seq V11 (ZC.seq (ZC.seq X1x (ZC.cond (Tm 79) (ZC.seq X1y (ZC.seq K1t (ZC.cond (Tm 91) (ZC.seq V1w (ZC.seq (ZC.seq Z1v (ZC.block 0 (ZC.loop X04))) K1g)) ZC.skip))) ZC.skip)) (ZC.seq Y1x (ZC.seq K1z (ZC.seq X1t (ZC.seq X1r (ZC.seq X1p ZC.ret))))))))))))) _ _ _
 rw[<- hRR]
 obtain⟨R2,hR2⟩:∃R2,R2=ZC.seq V11 (ZC.seq (ZC.seq X1x (ZC.cond (Tm 79) (ZC.seq X1y (ZC.seq K1t (ZC.cond (Tm 91) (ZC.seq V1w (ZC.seq (ZC.seq Z1v (ZC.block 0 (ZC.loop X04))) K1g)) ZC.skip))) ZC.skip)) R):=⟨_,rfl⟩
 rw[<- hR2]at mainK ⊢
 clear hRR hR2 main3 main2 hloop
 cases hR:packRight A with
 |false=>
  (have zx:=zA hA (zA hK (zA hok hR));refine zq13 ?_;try exact zT)
  repeat'(apply zK.s<;>intro hc<;>(try simp only[zhd]at hc)<;>(try have hw:=K0a hc)<;>(refine zq13 ?_;try exact zT))
  all_goals(try clear zx)
  exact mainK _ _ ⟨p.n+1,zev,by simp[put_at,X0c,K0f,K0j],by simp[put_at,X0c,K0f,K0j],by simp[put_at,X0c,K0f,K0j],by simp[put_at,X0c,K0f,K0j],zev,(fun h=>by rw[hR]at h;cases h),by simp[put_at,X0c,hR],zg9,by omega,zdl,(fun k o h=>by have hd:=hF.dom k o h;simp (disch:=first|exact zdl|fail) only[zheap];exact h)⟩
 |true=>
  (have zx:=zA hA (zA hK (zA hok hR));refine zq13 ?_;try exact zT)
  repeat'(apply zK.s<;>intro hc<;>(try simp only[zhd]at hc)<;>(try have hw:=K0a hc)<;>(refine zq13 ?_;try exact zT))
  all_goals(try clear zx)
  exact mainK _ _ ⟨p.n+1,zev,by simp[put_at,X0c,K0f,K0j],by simp[put_at,X0c,K0f,K0j],by simp[put_at,X0c,K0f,K0j],by simp[put_at,X0c,K0f,K0j],zev,fun _=>zev,by simp[put_at,X0c,hR],zg9,by omega,zdl,(fun k o h=>by have hd:=hF.dom k o h;simp (disch:=first|exact zdl|fail) only[zheap];exact h)⟩
end Go.Proofs.Ytpchcfkebljopaa
end
section
namespace Go.Proofs.Ytpchcfkebljopaa
open Go.Cl Go Go.ChangeShapes Go.WideShapes Go.ChangeAt Go.RowKit
set_option maxRecDepth 100000
set_option linter.constructorNameAsVariable false
theorem a58{n:Nat}{v:CV}(h:Ty2 Try.prog (n+3) 58 v): ∃s:Lst (Lst Int),v=s.cv (Lst.cv I)/\(s.tl=.view\/s.tl=.nil):=K2i Try.underlying58 (fun _ h=>let⟨i,e,_⟩:=a24 h;⟨i,e⟩) h
theorem of_bool{P:Program}{n:Nat}{t:TypeId}{v:CV}(hu:P.underlying t=some .bool)(h:Ty2 P (n+1) t v): ∃b,v=Bo b:=by
 simp only[Ty2,hu]at h
 exact h
end Go.Proofs.Ytpchcfkebljopaa
end
section
namespace Go.Proofs.Ytpchcfkebljopaa
open Go.Cl Go Go.RowKit
set_option maxRecDepth 100000
set_option linter.constructorNameAsVariable false
theorem a90{n:Nat}{v:CV}(h:Ty2 Try.prog (n+4) 90 v): ∃x:V0a,v=x.cv/\(0<=x.Acks/\x.Acks<18446744073709551616):=by
 obtain⟨l,rfl,hs⟩:=of_struct Try.underlying90 h
 replace h:=hs
 obtain⟨v0,l0,rfl,h0,h⟩:=X0j h
 obtain⟨v1,l1,rfl,h1,h⟩:=X0j h
 obtain⟨v2,l2,rfl,h2,h⟩:=X0j h
 obtain⟨v3,l3,rfl,h3,h⟩:=X0j h
 obtain⟨v4,l4,rfl,h4,h⟩:=X0j h
 obtain⟨v5,l5,rfl,h5,h⟩:=X0j h
 obtain⟨v6,l6,rfl,h6,h⟩:=X0j h
 obtain⟨v7,l7,rfl,h7,h⟩:=X0j h
 obtain⟨v8,l8,rfl,h8,h⟩:=X0j h
 obtain⟨v9,l9,rfl,h9,h⟩:=X0j h
 obtain⟨v10,l10,rfl,h10,h⟩:=X0j h
 obtain⟨v11,l11,rfl,h11,h⟩:=X0j h
 obtain⟨v12,l12,rfl,h12,h⟩:=X0j h
 obtain⟨v13,l13,rfl,h13,h⟩:=X0j h
 obtain rfl:=all2_nil h
 obtain⟨x0,rfl,_⟩:=a3 (n:=n+2) h0
 obtain⟨x1,rfl,_⟩:=a3 (n:=n+2) h1
 obtain⟨x2,rfl,_⟩:=a3 (n:=n+2) h2
 obtain⟨x3,rfl,_⟩:=a3 (n:=n+2) h3
 obtain⟨x4,rfl,_⟩:=a3 (n:=n+2) h4
 obtain⟨x5,rfl,_⟩:=a3 (n:=n+2) h5
 obtain⟨x6,rfl,_⟩:=a3 (n:=n+2) h6
 obtain⟨x7,rfl,_⟩:=a3 (n:=n+2) h7
 obtain⟨x8,rfl,_⟩:=a3 (n:=n+2) h8
 obtain⟨x9,rfl,_⟩:=a3 (n:=n+2) h9
 obtain⟨x10,rfl⟩:=of_bool (n:=n+2) Try.underlying4 h10
 obtain⟨x11,rfl,w1,w2⟩:=a25 (n:=n+2) h11
 obtain⟨x12,rfl,_⟩:=a24 (n:=n+1) h12
 obtain⟨x13,rfl,_⟩:=a58 (n:=n) h13
 exact⟨⟨x0,x1,x2,x3,x4,x5,x6,x7,x8,x9,x10,x11,x12,x13⟩,rfl,w1,by show x11<_;omega⟩
theorem of_u8{P:Program}{n:Nat}{t:TypeId}{v:CV}(hu:P.underlying t=some (.int .u8))(h:Ty2 P (n+1) t v): ∃i,v=Y8 i/\(0<=i/\i<=255):=by
 simp only[Ty2,hu]at h
 obtain⟨i,rfl,hw⟩:=h
 simp only[Lit.wf,Bool.and_eq_true,decide_eq_true_eq]at hw
 exact⟨i,rfl,hw⟩
theorem a5{n:Nat}{v:CV}(h:Ty2 Try.prog (n+1) 5 v): ∃i,v=Y8 i/\(0<=i/\i<=255):=of_u8 Try.underlying5 h
end Go.Proofs.Ytpchcfkebljopaa
end
section
namespace Go.Cl
open Go.RowKit Go.ChangeShapes Go.WideShapes Go.ChangeAt
variable {H:Type} {enc:TypeId×Value->H} {P:Program} {w:World} {base:Nat} {held:Bool}
theorem arg_len{t e:TypeId}{v:Value}{d:DataW H}{ps:List MemPlace}{tl:Tail}{l:List CV}(hu:P.underlying t=some (.slice e))(hc:VR (S0 w) (.lst tl l) v)
  (h:DataW.Trod enc P w base (fun _=>true) held t v d ps):l=[]\/∃elems sp,d=.slice elems sp/\elems.length=l.length:=by
 obtain⟨fuel,hf⟩:=h
 obtain⟨hc,_⟩:=hc
 simp only[FR]at hc
 rcases hc with⟨h1,_⟩|⟨b,o,cap,sz,es,h1,_⟩
 ·exact .inl h1
 ·right
  rw[h1]at hf
  cases fuel with
  |zero=>simp[DataW.trod]at hf
  |succ n=>
   simp only[DataW.trod,hu]at hf
   split at hf
   ·rw[Option.bind_eq_some_iff]at hf
    obtain⟨xs,hx,hr⟩:=hf
    simp only[if_true,Option.map_eq_some_iff]at hr
    obtain⟨rs,_,e1⟩:=hr
    have:=mapM_some_length hx
    simp only[Prod.mk.injEq]at e1
    exact⟨_,_,e1.1.symm,by simpa using this⟩
   ·cases hf
end Go.Cl
end
section
namespace Go.Proofs.Ytpchcfkebljopaa
open Go.Cl Go Go.RowKit
set_option maxRecDepth 100000
set_option linter.constructorNameAsVariable false
theorem a4{n:Nat}{v:CV}(h:Ty2 Try.prog (n+1) 4 v): ∃b,v=Bo b:=of_bool Try.underlying4 h
theorem y68{n:Nat}{v:CV}(h:Ty2 Try.prog (n+2) 68 v): ∃s:Lst Int,v=s.cv Y8/\∀x∈s.l,0<=x/\x<=255:=by
 obtain⟨s,rfl,_⟩:=K2i (f:=Y8) Try.underlying68 (fun _ h=>let⟨i,e,_⟩:=a5 h;⟨i,e⟩) h
 refine⟨s,rfl,fun x hx=>?_⟩
 simp only[Ty2,Try.underlying68]at h
 obtain⟨tl,l,e,hl,_⟩:=h
 simp only[Lst.cv,CV.lst.injEq]at e
 obtain⟨i,ei,hi⟩:=a5 (n:=n) (hl (Y8 x) (by rw[<- e.2];exact List.mem_map_of_mem hx))
 simp only[Y8,CV.sc.injEq,Value.int.injEq,true_and]at ei
 rw[ei];exact hi
end Go.Proofs.Ytpchcfkebljopaa
end
