import Derived.SizedLaws
import Derived.Test.YtpchcfkebljopaaXi
set_option linter.unusedSimpArgs false
set_option linter.unusedVariables false
set_option linter.constructorNameAsVariable false
set_option linter.defProp false
set_option maxHeartbeats 8000000
section
namespace Go.Proofs.Ytpchcfkebljopaa
open Go.Cl Go Go.RowKit
set_option maxRecDepth 100000
set_option linter.constructorNameAsVariable false
theorem bld156: qbuild C 156 []=some (Q0e.mk (Lst.cv Bo ⟨.nil,[],fun _=>rfl⟩) (Q1k _)).cv:=by
 simp only[qbuild,tt156,ti156,partsOk,setAll];rfl
theorem B1_nil: XObj.var sh156 (Q0e.mk (Lst.cv Bo ⟨.nil,[],fun _=>rfl⟩) (Q1k _)).cv=B1 0 []:=rfl
def J39(c:X0a)(s:V0a)(i:Nat)(p:Hp)(n:Nat)(ρ:Env)(q:Hp): Prop:=
 ∃(k J:Nat),n=16-k/\k<=16/\ρ 2=.ptr p.n []/\ρ 3=.ptr (p.n+1) []/\ρ 6=.ptr i []/\ρ 7=I k/\q.t.get p.n=some (.var sh61 c.cv)/\q.t.get (p.n+1)=some (.var sh66 s.cv)/\q.t.get i=some (B1 J (bitsOf s.Frame 10++bitsOf s.Dice 64++(s.Bodies.take k).flatMap bodyBits))/\q.t.get J=some (.tail (bitsOf s.Frame 10++bitsOf s.Dice 64++(s.Bodies.take k).flatMap bodyBits).length)/\p.n+1<i/\i<J/\J<q.n/\HpLe p q
theorem Z0n{i j:Nat}{m:List Bool}{p:Hp}{k:Nat}(h1:k≠i)(h3:k≠p.n): (bHp i j [] m p).t.get k=p.t.get k:=bHp_ne h1 (.inl rfl) h3
def K39(c:X0a)(s:V0a)(i a k:Nat)(b:Q0a)(L:List Bool)(p:Hp)(n:Nat)(ρ:Env)(q:Hp): Prop:=
 ∃(m J:Nat),n=4-m/\m<=4/\ρ 2=.ptr p.n []/\ρ 3=.ptr (p.n+1) []/\ρ 6=.ptr i []/\ρ 7=I k/\ρ 8=.ptr a []/\ρ 9=I m/\q.t.get p.n=some (.var sh61 c.cv)/\q.t.get (p.n+1)=some (.var sh66 s.cv)/\q.t.get a=some (.var sh34 b.cv)/\q.t.get i=some (B1 J (L++(b.Mem.take m).flatMap (bitsOf · 21)))/\q.t.get J=some (.tail (L++(b.Mem.take m).flatMap (bitsOf · 21)).length)/\p.n+1<i/\i<a/\a<J/\J<q.n/\HpLe p q
def L39(c:X0a)(s:V0a)(i:Nat)(p:Hp)(n:Nat)(ρ:Env)(q:Hp): Prop:=
 ∃(k J:Nat),n=c.Players.toNat-k/\k<=c.Players.toNat/\ρ 2=.ptr p.n []/\ρ 3=.ptr (p.n+1) []/\ρ 6=.ptr i []/\ρ 10=I k/\q.t.get p.n=some (.var sh61 c.cv)/\q.t.get (p.n+1)=some (.var sh66 s.cv)/\q.t.get i=some (B1 J (bitsOf s.Frame 10++bitsOf s.Dice 64++s.Bodies.flatMap bodyBits++((s.Score.take c.Players.toNat).take k).flatMap (bitsOf · 31)))/\q.t.get J=some (.tail (bitsOf s.Frame 10++bitsOf s.Dice 64++s.Bodies.flatMap bodyBits++((s.Score.take c.Players.toNat).take k).flatMap (bitsOf · 31)).length)/\p.n+1<i/\i<J/\J<q.n/\HpLe p q
def R39: Rel:=fun args p r=>∃(c:X0a) (s:V0a),args=[c.cv,s.cv]/\(c.Tokens.l.length<=1000000)/\(c.Rules.l.length<=1000000)/\r=if stateRight c s=true then .ret (.tup [Lst.cv Y8 (partB (layS c s)),Bo true]) p else .ret (.tup [Lst.cv Y8 nilB,Bo false]) p
theorem t39{T:XCall}(h:Has T 39 R39)(c:X0a)(s:V0a){p:Hp}(hl:c.Tokens.l.length<=1000000)(hr:c.Rules.l.length<=1000000): T 39 [c.cv,s.cv] p=if stateRight c s=true then .ret (.tup [Lst.cv Y8 (partB (layS c s)),Bo true]) p else .ret (.tup [Lst.cv Y8 nilB,Bo false]) p:=h _ _ _ ⟨c,s,rfl,hl,hr,rfl⟩
theorem zdis39{P:Prop}(h:P:=by first|exact zdis|(exact zdb1)|(exact zdb)|(exact B2_nil _ _ _)|(refine B2_in ?_ ?_<;>exact zdb)|(simp only[Hp.bump_n,Hp.znew_n,Hp.zset_n,List.length_nil,List.length_cons,List.length_append,List.length_map,Y0e];(first|done|omega))|(simp (disch:=first|exact zd1|(simp only[Hp.bump_n,Hp.znew_n,Hp.zset_n,List.length_nil,List.length_cons,List.length_append,List.length_map,Y0e];(first|done|omega))) only[zheap,zx];(first|done|rfl))|fail): P:=h
theorem zq39{A B:Prop}(k:B)(h:A=B:=by have zy:=zA @zw39<|zA @rs39<|zA @tt3<|zA @tt25<|zA @tt32<|zA @tt34<|zA @tt61<|zA @tt63<|zA @tt64<|zA @tt66<|zA @tt156<|zA ti3.eq_1<|zA ti25.eq_1<|zA ti32.eq_1<|zA ti34.eq_1<|zA ti61.eq_1<|zA ti63.eq_1<|zA ti64.eq_1<|zA ti66.eq_1<|zA ti156.eq_1<|zA @t_38<|zA @t_98<|zA @t_99<|zA @t_100<|zA @Z0e<|zA @X0f<|zA @Q0f<|zA @zsl32<|zA @zsl63<|zA @zsl64<|zA @bld156<|zA @Q0e.xbox<|zA @B1_nil<|zA @V01<|zA @bHp_i<|zA @Q1f<|zA @Z0n<|zA @Y0n<|zA @bHp_n<|zA @hl<|@hr;have zd:=@zdis39;exact zQd): A:=h▸k
theorem c39: Con C 39 R39:=by
 refine V0e C ?_ ?_ ?_
 ·rintro args p r r' ⟨c,s,h,hl,hr,e⟩ ⟨c',s',h',hl',hr',e'⟩
  subst e;subst e';simp_all[X0a.inj_iff,V0a.inj_iff,Q0a.inj_iff]
 ·rintro args p r ⟨c,s,h,hl,hr,rfl⟩;exact zr1
 rintro args p r ⟨c,s,rfl,hl,hr,rfl⟩
 refine zW C false [(38,R38),(98,R98),(99,R99),(100,R100)] ⟨c38,c98,c99,c100,zT⟩ rfl xf39 zc39_ok fun call zh hF=>?_
 have t_38:=@t38 _ zh.1
 have t_98:=@t98 _ zh.2.1
 have t_99:=@t99 _ zh.2.2.1
 have t_100:=@t100 _ zh.2.2.2.1
 clear zh
 have hb:=s.hBodies
 have hsc:=s.hScore
 cases hR:stateRight c s with
 |false=>
  (have zx:=hR;refine zq39 ?_;try exact zT)
  repeat'(apply zK.s<;>intro hc<;>(try simp only[zhd]at hc)<;>(try have hw:=K0a hc)<;>(refine zq39 ?_;try exact zT))
  all_goals(try clear zx)
  exact K0d hF zle (V0f (Z0c (by intro jj;simp[CV.has,CV.hasL,Lst.cv,nilB])))
 |true=>
  have hP:=(Z0i (Q0i hR).2.2.1).1
  rw[if_pos rfl]
  have hPn:((c.Players.toNat:Nat):Int)=c.Players:=by omega
  have hlb:∀k,((s.Bodies.take k).flatMap bodyBits).length<=2480:=fun k=>by
   rw[Y02]
   have:=Z02 (s.Bodies.take k)
   rw[List.length_take]at this;omega
  have hls:∀k,(((s.Score.take c.Players.toNat).take k).flatMap (bitsOf · 31)).length<=248:=fun k=>by
   rw[Q0y _ 31 _ fun x _=>Y0e x 31,List.length_take,List.length_take];omega
  (have zx:=hR;refine zq39 ?_;try exact zT)
  repeat'(apply zK.s<;>intro hc<;>(try simp only[zhd]at hc)<;>(try have hw:=K0a hc)<;>(refine zq39 ?_;try exact zT))
  all_goals(try clear zx)
  (show W C false noExt call (ZC.loop V14) _ _ _);refine Y0g C false noExt call V14 _ _ _ (J39 c s (p.n+1+1) p) 16 ⟨0,p.n+1+1+1+1,rfl,by omega,zev,zev,zev,zev,by simp (disch:=first|exact zdb1|fail) only[zheap,Z0n,Y0n],by simp (disch:=first|exact zdb1|fail) only[zheap,Z0n,Y0n],by rw[List.take_zero,List.flatMap_nil,List.append_nil];simp (disch:=first|exact zdb1|fail) only[zheap,bHp_i,bHp_n],by rw[List.take_zero,List.flatMap_nil,List.append_nil];simp (disch:=first|exact zdb1|fail) only[zheap,Q1f,bHp_n],by omega,by omega,zdb1,fun k o h=>by have hd:=hF.dom k o h;simp (disch:=first|exact zdb1|fail) only[zheap,Z0n,Y0n];exact h⟩ ?_
  rintro n ρ q ⟨k,J,rfl,hk,e2,e3,e6,e7,g1,g2,g3,g4,hia,hiJ,hJq,hle⟩
  have hlk:=hlb k
  by_cases hlt:(k:Int)<16
  ·have hft:=K0l bodyBits s.Bodies (k:=k) (by omega)
   have hm:=(nth s.Bodies k).hMem
   generalize hbk:nth s.Bodies k=b at hft hm
   by_cases hK:b.Kind=0
   ·have hbb:bodyBits b=bitsOf 0 2:=by simp[bodyBits,hK]
    rw[hbb]at hft
    (have zx:=zA e2 (zA e3 (zA e6 (zA e7 (zA g1 (zA g2 (zA g3 (zA g4 (zA hlt (zA hbk hK)))))))));refine zq39 ?_;try exact zT)
    repeat'(apply zK.s<;>intro hc<;>(try simp only[zhd]at hc)<;>(try have hw:=K0a hc)<;>(refine zq39 ?_;try exact zT))
    all_goals(try clear zx)
    refine⟨16-(k+1),by omega,k+1,q.n+1,rfl,by omega,zev,zev,zev,zev,by simp (disch:=first|exact zdb1|fail) only[zheap,Z0n,Y0n,g1],by simp (disch:=first|exact zdb1|fail) only[zheap,Z0n,Y0n,g2],?_,?_,by omega,by omega,zdb1,fun a o h=>by have hd:=hF.dom a o h;simp (disch:=first|exact zdb1|fail) only[zheap,Z0n,Y0n];exact hle a o h⟩
    ·rw[hft,<- List.append_assoc];simp (disch:=first|exact zdb1|fail) only[zheap,bHp_i,bHp_n]
    ·rw[hft,<- List.append_assoc];simp (disch:=first|exact zdb1|fail) only[zheap,Q1f,bHp_n]
   ·have hbb:∀M m2:List Bool,M++bitsOf b.Kind 2++bitsOf b.Owner 3++bitsOf b.X 12++bitsOf b.Y 12++bitsOf b.VX 8++bitsOf b.VY 8++bitsOf b.Age 10++b.Mem.flatMap (bitsOf · 21)++bitsOf b.Faults 16=M++bodyBits b:=fun M _=>by simp[bodyBits,hK,List.append_assoc]
    (have zx:=zA e2 (zA e3 (zA e6 (zA e7 (zA g1 (zA g2 (zA g3 (zA g4 (zA hlt (zA hbk hK)))))))));refine zq39 ?_;try exact zT)
    repeat'(apply zK.s<;>intro hc<;>(try simp only[zhd]at hc)<;>(try have hw:=K0a hc)<;>(refine zq39 ?_;try exact zT))
    all_goals(try clear zx)
    (show W C false noExt call (ZC.loop Y2c) _ _ _);refine Y0g C false noExt call Y2c _ _ _ (K39 c s (p.n+1+1) q.n k b (bitsOf s.Frame 10++bitsOf s.Dice 64++(s.Bodies.take k).flatMap bodyBits++bitsOf b.Kind 2++bitsOf b.Owner 3++bitsOf b.X 12++bitsOf b.Y 12++bitsOf b.VX 8++bitsOf b.VY 8++bitsOf b.Age 10) p) 4 ⟨0,q.n+1+1+1+1+1+1+1,rfl,by omega,zev,zev,zev,zev,zev,zev,by simp (disch:=first|exact zdb1|fail) only[zheap,Z0n,Y0n,g1],by simp (disch:=first|exact zdb1|fail) only[zheap,Z0n,Y0n,g2],by simp (disch:=first|exact zdb1|fail) only[zheap,Z0n,Y0n],by rw[List.take_zero,List.flatMap_nil,List.append_nil];simp (disch:=first|exact zdb1|fail) only[zheap,bHp_i,bHp_n],by rw[List.take_zero,List.flatMap_nil,List.append_nil];simp (disch:=first|exact zdb1|fail) only[zheap,Q1f,bHp_n],by omega,by omega,by omega,zdb1,fun a o h=>by have hd:=hF.dom a o h;simp (disch:=first|exact zdb1|fail) only[zheap,Z0n,Y0n];exact hle a o h⟩ ?_
    have hk15:k<16:=by omega
    have hqp:p.n+1+1<q.n:=by omega
    generalize hA:q.n=A at hqp
    clear e2 e3 e6 e7 g1 g2 g3 g4 hiJ hJq hle hlt
    rintro n ρ q ⟨m,J,rfl,hm4,e2,e3,e6,e7,e8,e9,g1,g2,g5,g3,g4,hia,hiA,hAJ,hJq,hle⟩
    have hlm:∀m,((b.Mem.take m).flatMap (bitsOf · 21)).length<=84:=fun m=>by
     rw[Q0y _ 21 _ fun x _=>Y0e x 21,List.length_take];omega
    have hlmm:=hlm m
    by_cases hlt:(m:Int)<4
    ·have hft2:=K0l (bitsOf · 21) b.Mem (k:=m) (by omega)
     (have zx:=zA e2 (zA e3 (zA e6 (zA e7 (zA e8 (zA e9 (zA g1 (zA g2 (zA g3 (zA g4 (zA g5 hlt))))))))));refine zq39 ?_;try exact zT)
     repeat'(apply zK.s<;>intro hc<;>(try simp only[zhd]at hc)<;>(try have hw:=K0a hc)<;>(refine zq39 ?_;try exact zT))
     all_goals(try clear zx)
     refine⟨4-(m+1),by omega,m+1,q.n,rfl,by omega,zev,zev,zev,zev,zev,zev,by simp (disch:=first|exact zdb1|fail) only[zheap,Z0n,Y0n,g1],by simp (disch:=first|exact zdb1|fail) only[zheap,Z0n,Y0n,g2],by simp (disch:=first|exact zdb1|fail) only[zheap,Z0n,Y0n,g5],?_,?_,by omega,by omega,by omega,zdb1,fun a o h=>by have hd:=hF.dom a o h;simp (disch:=first|exact zdb1|fail) only[zheap,Z0n,Y0n];exact hle a o h⟩
     ·rw[hft2,<- List.append_assoc];simp (disch:=first|exact zdb1|fail) only[zheap,bHp_i,bHp_n]
     ·rw[hft2,<- List.append_assoc];simp (disch:=first|exact zdb1|fail) only[zheap,Q1f,bHp_n]
    ·have hm44:m=4:=by omega
     subst hm44
     rw[List.take_of_length_le (l:=b.Mem) (i:=4) (by omega)]at g3 g4 hlmm
     (have zx:=zA e2 (zA e3 (zA e6 (zA e7 (zA e8 (zA e9 (zA g1 (zA g2 (zA g3 (zA g4 (zA g5 hlt))))))))));refine zq39 ?_;try exact zT)
     repeat'(apply zK.s<;>intro hc<;>(try simp only[zhd]at hc)<;>(try have hw:=K0a hc)<;>(refine zq39 ?_;try exact zT))
     all_goals(try clear zx)
     refine⟨16-(k+1),by omega,k+1,q.n,rfl,by omega,zev,zev,zev,zev,by simp (disch:=first|exact zdb1|fail) only[zheap,Z0n,Y0n,g1],by simp (disch:=first|exact zdb1|fail) only[zheap,Z0n,Y0n,g2],?_,?_,by omega,by omega,zdb1,fun a o h=>by have hd:=hF.dom a o h;simp (disch:=first|exact zdb1|fail) only[zheap,Z0n,Y0n];exact hle a o h⟩
     ·rw[hft,<- List.append_assoc,<- hbb _ []];simp (disch:=first|exact zdb1|fail) only[zheap,bHp_i,bHp_n]
     ·rw[hft,<- List.append_assoc,<- hbb _ []];simp (disch:=first|exact zdb1|fail) only[zheap,Q1f,bHp_n]
  ·have hk16:k=16:=by omega
   subst hk16
   rw[List.take_of_length_le (by omega)]at g3 g4 hlk
   (have zx:=zA e2 (zA e3 (zA e6 (zA e7 (zA g1 (zA g2 (zA g3 (zA g4 hlt)))))));refine zq39 ?_;try exact zT)
   repeat'(apply zK.s<;>intro hc<;>(try simp only[zhd]at hc)<;>(try have hw:=K0a hc)<;>(refine zq39 ?_;try exact zT))
   all_goals(try clear zx)
   (show W C false noExt call (ZC.loop Y18) _ _ _);refine Y0g C false noExt call Y18 _ _ _ (L39 c s (p.n+1+1) p) c.Players.toNat ⟨0,J,rfl,by omega,zev,zev,zev,zev,g1,g2,by rw[List.take_zero,List.flatMap_nil,List.append_nil];exact g3,by rw[List.take_zero,List.flatMap_nil,List.append_nil];exact g4,hia,hiJ,hJq,hle⟩ ?_
   clear e2 e3 e6 e7 g1 g2 g3 g4 hia hiJ hJq hle hlt
   rintro n ρ q ⟨k,J,rfl,hk,e2,e3,e6,e10,g1,g2,g3,g4,hia,hiJ,hJq,hle⟩
   have htl:(s.Score.take c.Players.toNat).length=c.Players.toNat:=by rw[List.length_take];omega
   have hlk2:=hls k
   by_cases hlt:k<c.Players.toNat
   ·have hft:=K0l (bitsOf · 31) (s.Score.take c.Players.toNat) (k:=k) (by omega)
    have hnt:nth (s.Score.take c.Players.toNat) k=nth s.Score k:=by rw[X0i (by omega),X0i (by omega),List.getElem_take]
    rw[hnt]at hft
    have hlt2:(k:Int)<c.Players:=by omega
    have hk8:k<8:=by omega
    (have zx:=zA e2 (zA e3 (zA e6 (zA e10 (zA g1 (zA g2 (zA g3 (zA g4 (zA hlt2 hk8))))))));refine zq39 ?_;try exact zT)
    repeat'(apply zK.s<;>intro hc<;>(try simp only[zhd]at hc)<;>(try have hw:=K0a hc)<;>(refine zq39 ?_;try exact zT))
    all_goals(try clear zx)
    refine⟨c.Players.toNat-(k+1),by omega,k+1,q.n,rfl,by omega,zev,zev,zev,zev,by simp (disch:=first|exact zdb1|fail) only[zheap,Z0n,Y0n,g1],by simp (disch:=first|exact zdb1|fail) only[zheap,Z0n,Y0n,g2],?_,?_,by omega,by omega,zdb1,fun a o h=>by have hd:=hF.dom a o h;simp (disch:=first|exact zdb1|fail) only[zheap,Z0n,Y0n];exact hle a o h⟩
    ·rw[hft,<- List.append_assoc];simp (disch:=first|exact zdb1|fail) only[zheap,bHp_i,bHp_n]
    ·rw[hft,<- List.append_assoc];simp (disch:=first|exact zdb1|fail) only[zheap,Q1f,bHp_n]
   ·have hkP:k=c.Players.toNat:=by omega
    rw[hkP,List.take_of_length_le (by omega)]at g3 g4 hlk2
    have hlt2:¬(k:Int)<c.Players:=by omega
    have hne:bitsOf s.Frame 10++bitsOf s.Dice 64++s.Bodies.flatMap bodyBits++(s.Score.take c.Players.toNat).flatMap (bitsOf · 31)≠[]:=by
     intro e
     have:=congrArg List.length e
     rw[List.length_append,List.length_append,List.length_append,Y0e,List.length_nil]at this
     omega
    have hst:stateBits c s=bitsOf s.Frame 10++bitsOf s.Dice 64++s.Bodies.flatMap bodyBits++(s.Score.take c.Players.toNat).flatMap (bitsOf · 31):=by simp only[stateBits,List.append_assoc]
    (have zx:=zA e2 (zA e3 (zA e6 (zA e10 (zA g1 (zA g2 (zA g3 (zA g4 hlt2)))))));refine zq39 ?_;try exact zT)
    repeat'(apply zK.s<;>intro hc<;>(try simp only[zhd]at hc)<;>(try have hw:=K0a hc)<;>(refine zq39 ?_;try exact zT))
    all_goals(try clear zx)
    unfold layS
    rw[hst]
    exact K0d hF hle (V0f (Z0c (by intro jj;simp[CV.has,CV.hasL,Lst.cv,partB,X0m Z00])))
end Go.Proofs.Ytpchcfkebljopaa
end
section
namespace Go.Proofs.Ytpchcfkebljopaa
open Go.Cl Go Go.RowKit
abbrev RSt:=Nat×Bool
def getD(b:List Int)(n:Nat)(r:RSt): Int×RSt:=if r.2=true\/¬r.1+n<=8*b.length then(0,(r.1,true)) else(valB (bitB b) r.1 n,(r.1+n,false))
def sgetD(b:List Int)(n:Nat)(r:RSt): Int×RSt:=(sgnB (getD b n r).1 n,(getD b n r).2)
def RelD{α:Type}(r:Except Int (α×Nat))(d:α×RSt): Prop:=match r with
 |.ok (x,a)=>d=(x,(a,false))
 |.error _=>d.2.2=true
theorem getD_rel(b:List Int)(n a:Nat): RelD (getB b n a) (getD b n (a,false)):=by
 unfold getB getD
 by_cases h:a+n<=8*b.length
 ·simp[h,RelD]
 ·simp[h,RelD]
theorem K1x(b:List Int)(n a:Nat): (getD b n (a,true)).2.2=true:=by simp[getD]
theorem sgetD_rel(b:List Int)(n a:Nat): RelD (sgetB b n a) (sgetD b n (a,false)):=by
 have h:=getD_rel b n a
 unfold sgetB sgetD
 cases hg:getB b n a with
 |error e=>rw[hg]at h;exact h
 |ok x=>obtain⟨u,a'⟩:=x;rw[hg]at h;simp only[RelD]at h;simp only[bindE,RelD,h]
theorem RelD.bind{α β:Type}{r:Except Int (α×Nat)}{d:α×RSt}{f:α->Nat->Except Int (β×Nat)}{g:α->RSt->β×RSt}(h:RelD r d)(hf:∀x a,RelD (f x a) (g x (a,false)))(hs:∀x a,(g x (a,true)).2.2=true): RelD (bindE r f) (g d.1 d.2):=by
 cases r with
 |error e=>
  simp only[RelD]at h
  obtain⟨x,a,s⟩:=d
  simp only at h
  subst h
  exact hs x a
 |ok y=>
  obtain⟨x,a⟩:=y
  simp only[RelD]at h
  subst h
  exact hf x a
theorem top_bit{u:Int}{m:Nat}(h:0<=u/\u<2^(m+1)): bitAt u m = !decide (u<2^m):=by
 have hP:(0:Int)<2^m:=Int.pow_pos (by omega)
 rw[Int.pow_succ]at h
 unfold bitAt
 generalize (2:Int)^m=P at h hP
 by_cases hu:u<P
 ·rw[Int.ediv_eq_zero_of_lt h.1 hu,decide_eq_true hu];rfl
 ·have h1:u/P<2:=Int.ediv_lt_of_lt_mul hP (by omega)
  have h2:1<=u/P:=Int.le_ediv_of_mul_le hP (by omega)
  have h3:u/P=1:=by omega
  rw[h3];simp[hu]
theorem V1z(b:List Int)(n:Nat)(r:RSt): 0<=(getD b n r).1/\(getD b n r).1<2^n:=by
 unfold getD
 split
 ·exact⟨Int.le_refl 0,Int.pow_pos (by omega)⟩
 ·exact Q0w _ _ _
theorem X1o{b:List Int}{n:Nat}{r:RSt}(h:r.1<=8*b.length): (getD b n r).2.1<=8*b.length:=by
 unfold getD
 split
 ·exact h
 ·rename_i hh;simp only;omega
theorem p32{n:Nat}(h:n<=32): (1:Int)<=2^n/\(2:Int)^n<=4294967296:=by
 have h1:(1:Nat)<=2^n:=Nat.one_le_two_pow
 have h2:(2:Nat)^n<=2^32:=Nat.pow_le_pow_right (by omega) h
 have h3:(2:Int)^n<=2^32:=by exact_mod_cast h2
 exact⟨by exact_mod_cast h1,Int.le_trans h3 (by decide)⟩
end Go.Proofs.Ytpchcfkebljopaa
end
section
namespace Go.Proofs.Ytpchcfkebljopaa
open Go.Cl Go Go.RowKit
set_option maxRecDepth 100000
set_option linter.constructorNameAsVariable false
def R41: Rel:=fun args p r=>∃(c:X0a) (s:V0a),args=[c.cv,s.cv]/\(c.Tokens.l.length<=1000000)/\(c.Rules.l.length<=1000000)/\r=.ret (I (if stateRight c s=true then markB (layS c s)else 0)) p
theorem t41{T:XCall}(h:Has T 41 R41)(c:X0a)(s:V0a){p:Hp}(hl:c.Tokens.l.length<=1000000)(hr:c.Rules.l.length<=1000000): T 41 [c.cv,s.cv] p=.ret (I (if stateRight c s=true then markB (layS c s)else 0)) p:=h _ _ _ ⟨c,s,rfl,hl,hr,rfl⟩
theorem zdis41{P:Prop}(h:P:=by first|exact zdis|(simp only[Hp.bump_n,Hp.znew_n,Hp.zset_n,List.length_nil,List.length_cons,List.length_append,List.length_map,V0k];(first|done|omega))|(simp (disch:=first|exact zd1|(simp only[Hp.bump_n,Hp.znew_n,Hp.zset_n,List.length_nil,List.length_cons,List.length_append,List.length_map,V0k];(first|done|omega))) only[zheap,zx];(first|done|rfl))|fail): P:=h
theorem zq41{A B:Prop}(k:B)(h:A=B:=by have zy:=zA @zw41<|zA @rs41<|zA @tt61<|zA @tt66<|zA ti61.eq_1<|zA ti66.eq_1<|zA @t_39<|zA @t_102<|zA @Z0e<|zA @X0f<|zA @V0k<|zA @hl<|@hr;have zd:=@zdis41;exact zQd): A:=h▸k
theorem zno41{P:Prop}(h:P:=by intro jj;simp[CV.has,CV.hasL,fault,K0b.nohas,V0a.nohas]): P:=h
theorem c41: Con C 41 R41:=by
 refine V0e C ?_ ?_ ?_
 ·rintro args p r r' ⟨c,s,h,hl,hr,e⟩ ⟨c',s',h',hl',hr',e'⟩
  subst e;subst e';simp_all[X0a.inj_iff,V0a.inj_iff]
 ·rintro args p r ⟨c,s,h,hl,hr,rfl⟩;exact zr1
 rintro args p r ⟨c,s,rfl,hl,hr,rfl⟩
 refine zW C false [(39,R39),(102,R102)] ⟨c39,c102,zT⟩ rfl xf41 zc41_ok fun call zh hF=>?_
 have t_39:=@t39 _ zh.1
 have t_102:=@t102 _ zh.2.1
 clear zh
 have hby:=X05 c s
 cases hR:stateRight c s with
 |false=>
  (have zx:=hR;refine zq41 ?_;try exact zT)
  repeat'(apply zK.s<;>intro hc<;>(try simp only[zhd]at hc)<;>(try have hw:=K0a hc)<;>(refine zq41 ?_;try exact zT))
  all_goals(try clear zx)
  exact K0d hF zle (Q0c rfl (Z0c zno41))
 |true=>
  have hlen:=V1o hR
  (have zx:=hR;refine zq41 ?_;try exact zT)
  repeat'(apply zK.s<;>intro hc<;>(try simp only[zhd]at hc)<;>(try have hw:=K0a hc)<;>(refine zq41 ?_;try exact zT))
  all_goals(try clear zx)
  exact K0d hF zle (Q0c rfl (Z0c zno41))
def rdD(B:Lst Int)(r:RSt): XObj:=.var sh161 (V0c.mk B r.1 r.2).cv
theorem rdD_get{p:Hp}{i:Nat}{B B':Lst Int}{r r':RSt}(h:p.t.get i=some (rdD B r))(h':p.t.get i=some (rdD B' r')): B=B'/\r=r':=by
 rw[h]at h'
 have h:=Option.some.inj h'
 simp only[rdD,XObj.var.injEq,V0c.inj_iff,V0c.mk.injEq,true_and]at h
 exact⟨h.1,Prod.ext (by omega) h.2.2⟩
def J103(i:Nat)(B:Lst Int)(a:Nat)(N:Nat)(p:Hp)(n:Nat)(ρ:Env)(q:Hp): Prop:=
 ∃k:Nat,n=N-k/\k<=N/\ρ 0=.ptr i []/\ρ 1=I N/\ρ 5=U (valB (bitB B.l) a k)/\ρ 6=I k/\q.t.get i=some (.var sh161 (V0c.mk B (a+k:Nat) false).cv)/\p.n<=q.n/\∀j o,j≠i->p.t.get j=some o->q.t.get j=some o
def R103: Rel:=fun args p r=>∃(i:Nat) (B:Lst Int) (st:RSt) (n:Int),args=[.ptr i [],I n]/\(p.t.get i=some (rdD B st))/\(B.l.length<=140737488355328)/\(st.1<=8*B.l.length)/\(1<=n/\n<=64)/\(∀x∈B.l,0<=x/\x<=255)/\r=.ret (U (getD B.l n.toNat st).1) (p.set i (some (rdD B (getD B.l n.toNat st).2)))
theorem t103{T:XCall}(h:Has T 103 R103)(i:Nat)(B:Lst Int)(st:RSt)(n:Int){p:Hp}(h1:p.t.get i=some (rdD B st))(h2:B.l.length<=140737488355328)(h3:st.1<=8*B.l.length)(h4:1<=n/\n<=64)(h5:∀x∈B.l,0<=x/\x<=255): T 103 [.ptr i [],I n] p=.ret (U (getD B.l n.toNat st).1) (p.set i (some (rdD B (getD B.l n.toNat st).2))):=h _ _ _ ⟨i,B,st,n,rfl,h1,h2,h3,h4,h5,rfl⟩
theorem zq103{A B:Prop}(k:B)(h:A=B:=by have zy:=zA @zw103<|zA @rs103<|zA @tt3<|zA @tt4<|zA @tt5<|zA @tt25<|zA @tt68<|zA @tt161<|zA @tt178<|zA ti3.eq_1<|zA ti4.eq_1<|zA ti5.eq_1<|zA ti25.eq_1<|zA ti68.eq_1<|zA ti161.eq_1<|zA ti178.eq_1<|zA @Z0u<|zA @zsl68<|zA @wrap_b2i<|zA @h1<|zA @h2<|zA @h3<|zA @h4<|@h5;exact zQ): A:=h▸k
theorem c103: Con C 103 R103:=by
 refine V0e C ?_ ?_ ?_
 ·rintro args p r r' ⟨i,B,st,n,h,h1,h2,h3,h4,h5,e⟩ ⟨i',B',st',n',h',h1',h2',h3',h4',h5',e'⟩
  subst e;subst e';(subst h;simp only[List.cons.injEq,CV.ptr.injEq,CV.sc.injEq,Value.int.injEq,and_true,true_and]at h';obtain⟨e0,e3⟩:=h';subst e0;subst e3;obtain⟨e1,e2⟩:=rdD_get h1 h1';rw[e1,e2])
 ·rintro args p r ⟨i,B,st,n,h,h1,h2,h3,h4,h5,rfl⟩;exact zr1
 rintro args p r ⟨i,B,st,n,rfl,h1,h2,h3,h4,h5,rfl⟩
 refine zW C false [] zT rfl xf103 zc103_ok fun call zh hF=>?_
 clear zh
 have hd_h1:=hF.dom _ _ h1
 have hi:=hF.dom _ _ h1
 have k1:=h1
 obtain⟨N,rfl⟩:=Int.eq_ofNat_of_zero_le (show 0<=n by omega)
 have hmm:max 0 (min 64 (N:Int))=N:=by omega
 obtain⟨a,sh⟩:=st
 replace h1:p.t.get i=some (.var sh161 (V0c.mk B a sh).cv):=h1
 simp only at h3
 rw[Int.toNat_natCast]
 cases sh with
 |true=>
  have hgd:getD B.l N (a,true)=(0,(a,true)):=by simp[getD]
  rw[hgd]
  (have zx:=zA hmm h1;refine zq103 ?_;try exact zT)
  repeat'(apply zK.s<;>intro hc<;>(try simp only[zhd]at hc)<;>(try have hw:=K0a hc)<;>(refine zq103 ?_;try exact zT))
  all_goals(try clear zx)
  exact Q0u hF hi (fun j o hj h=>by rw[Hp.get_set_ne _ _ _ hj,Hp.bump_get];exact h) ⟨_,Hp.get_set_self _ _ _,Y0i fun j hj=>hF.lt_obj (.arg (a:=CV.ptr i []) (by simp) rfl) k1 j hj⟩ (V0f (Z0c (fun j hj=>by simp[CV.has]at hj)))
 |false=>
  by_cases hroom:a+N<=8*B.l.length
  ·have hgd:getD B.l N (a,false)=(valB (bitB B.l) a N,(a+N,false)):=by simp[getD,hroom]
   rw[hgd]
   have hr2:¬(8*B.l.length-a:Int)<N:=by omega
   (have zx:=zA hmm (zA hr2 h1);refine zq103 ?_;try exact zT)
   repeat'(apply zK.s<;>intro hc<;>(try simp only[zhd]at hc)<;>(try have hw:=K0a hc)<;>(refine zq103 ?_;try exact zT))
   all_goals(try clear zx)
   (show W C false noExt call (ZC.loop V1h) _ _ _);refine Y0g C false noExt call V1h _ _ _ (J103 i B a N p) N ⟨0,rfl,by omega,by simp[put_at,K0c,K0e],zev,by simp[put_at,K0c,valB],zev,by rw[Hp.bump_get];exact h1,by rw[Hp.bump_n];omega,fun j o _ h=>by rw[Hp.bump_get];exact h⟩ ?_
   rintro n ρ q ⟨k,rfl,hk,e0,e1,e5,e6,g1,hn,hle⟩
   by_cases hlt:(k:Int)<N
   ·have ht:(((a+k:Nat)):Int).tmod 8=(((a+k) % 8:Nat):Int):=by rw[Int.tmod_eq_emod_of_nonneg (by omega)];omega
    have hd:(((a+k:Nat)):Int).tdiv 8=(((a+k)/8:Nat):Int):=by rw[Int.tdiv_eq_ediv_of_nonneg (by omega)];omega
    have hix:(a+k)/8<B.l.length:=by omega
    have hy:=h5 (nth B.l ((a+k)/8)) (by rw[X0i hix];exact List.getElem_mem _)
    have hb8:=bit8_eq hy (show(a+k) % 8<8 by omega)
    unfold bit8 at hb8
    rw[show bitAt (nth B.l ((a+k)/8)) (7-(a+k) % 8)=bitB B.l (a+k) from rfl]at hb8
    have hsh:=shl1_eq (valB_63 (bitB B.l) a (k:=k) (by omega)) (bitB B.l (a+k))
    unfold shl1 at hsh
    replace hsh:IntKind.u64.wrap (BitVec.ofInt IntKind.u64.bits (IntKind.u64.wrap (valB (bitB B.l) a k*2^min 1 IntKind.u64.bits)) ||| BitVec.ofInt IntKind.u64.bits (b2i (bitB B.l (a+k)))).toNat=2*valB (bitB B.l) a k+b2i (bitB B.l (a+k)):=hsh
    have hv:valB (bitB B.l) a (k+1)=2*valB (bitB B.l) a k+b2i (bitB B.l (a+k)):=rfl
    have hw7:IntKind.u64.wrap (7-(((a+k) % 8:Nat):Int))=7-(((a+k) % 8:Nat):Int):=by
     show(7-(((a+k) % 8:Nat):Int)) % 2^64=_
     omega
    have hw0:¬7-(((a+k) % 8:Nat):Int)<0:=by omega
    (have zx:=zA e0 (zA e1 (zA e5 (zA e6 (zA g1 (zA hlt (zA ht (zA hd (zA hb8 (zA hsh (zA hw7 (zA hw0 h1)))))))))));refine zq103 ?_;try exact zT)
    repeat'(apply zK.s<;>intro hc<;>(try simp only[zhd]at hc)<;>(try have hw:=K0a hc)<;>(refine zq103 ?_;try exact zT))
    all_goals(try clear zx)
    refine⟨N-(k+1),by omega,k+1,rfl,by omega,zev,zev,by rw[hv];simp[put_at,K0c],zev,?_,by simp only[Hp.bump_n,Hp.zset_n];omega,fun j o hj h=>?_⟩
    ·simp only[Hp.get_set_self];rw[show((a+(k+1):Nat):Int)=((a+k:Nat):Int)+1 by omega]
    ·simp only[Hp.get_set_ne _ _ _ hj,Hp.bump_get];exact hle j o hj h
   ·have hkN:k=N:=by omega
    (have zx:=zA e0 (zA e1 (zA e5 (zA e6 (zA g1 (zA hlt h1)))));refine zq103 ?_;try exact zT)
    repeat'(apply zK.s<;>intro hc<;>(try simp only[zhd]at hc)<;>(try have hw:=K0a hc)<;>(refine zq103 ?_;try exact zT))
    all_goals(try clear zx)
    subst hkN
    exact Q0u hF hi hle ⟨_,g1,Y0i fun j hj=>hF.lt_obj (.arg (a:=CV.ptr i []) (by simp) rfl) k1 j hj⟩ (V0f (Z0c (fun j hj=>by simp[CV.has]at hj)))
  ·have hgd:getD B.l N (a,false)=(0,(a,true)):=by simp[getD,hroom]
   rw[hgd]
   have hr2:(8*B.l.length-a:Int)<N:=by omega
   (have zx:=zA hmm (zA hr2 h1);refine zq103 ?_;try exact zT)
   repeat'(apply zK.s<;>intro hc<;>(try simp only[zhd]at hc)<;>(try have hw:=K0a hc)<;>(refine zq103 ?_;try exact zT))
   all_goals(try clear zx)
   exact Q0u hF hi (fun j o hj h=>by rw[Hp.get_set_ne _ _ _ hj,Hp.bump_get];exact h) ⟨_,Hp.get_set_self _ _ _,Y0i fun j hj=>hF.lt_obj (.arg (a:=CV.ptr i []) (by simp) rfl) k1 j hj⟩ (V0f (Z0c (fun j hj=>by simp[CV.has]at hj)))
def R104: Rel:=fun args p r=>∃(i:Nat) (B:Lst Int) (st:RSt) (n:Int),args=[.ptr i [],I n]/\(p.t.get i=some (rdD B st))/\(B.l.length<=140737488355328)/\(st.1<=8*B.l.length)/\(1<=n/\n<=32)/\(∀x∈B.l,0<=x/\x<=255)/\r=.ret (I (sgetD B.l n.toNat st).1) (p.set i (some (rdD B (sgetD B.l n.toNat st).2)))
theorem t104{T:XCall}(h:Has T 104 R104)(i:Nat)(B:Lst Int)(st:RSt)(n:Int){p:Hp}(h1:p.t.get i=some (rdD B st))(h2:B.l.length<=140737488355328)(h3:st.1<=8*B.l.length)(h4:1<=n/\n<=32)(h5:∀x∈B.l,0<=x/\x<=255): T 104 [.ptr i [],I n] p=.ret (I (sgetD B.l n.toNat st).1) (p.set i (some (rdD B (sgetD B.l n.toNat st).2))):=h _ _ _ ⟨i,B,st,n,rfl,h1,h2,h3,h4,h5,rfl⟩
theorem zq104{A B:Prop}(k:B)(h:A=B:=by have zy:=zA @zw104<|zA @rs104<|zA @tt3<|zA @tt25<|zA @tt178<|zA ti3.eq_1<|zA ti25.eq_1<|zA ti178.eq_1<|zA @t_103<|zA @Z0u<|zA @b2i_dec<|zA @h1<|zA @h2<|zA @h3<|zA @h4<|@h5;exact zQ): A:=h▸k
theorem c104: Con C 104 R104:=by
 refine V0e C ?_ ?_ ?_
 ·rintro args p r r' ⟨i,B,st,n,h,h1,h2,h3,h4,h5,e⟩ ⟨i',B',st',n',h',h1',h2',h3',h4',h5',e'⟩
  subst e;subst e';(subst h;simp only[List.cons.injEq,CV.ptr.injEq,CV.sc.injEq,Value.int.injEq,and_true,true_and]at h';obtain⟨e0,e3⟩:=h';subst e0;subst e3;obtain⟨e1,e2⟩:=rdD_get h1 h1';rw[e1,e2])
 ·rintro args p r ⟨i,B,st,n,h,h1,h2,h3,h4,h5,rfl⟩;exact zr1
 rintro args p r ⟨i,B,st,n,rfl,h1,h2,h3,h4,h5,rfl⟩
 refine zW C false [(103,R103)] ⟨c103,zT⟩ rfl xf104 zc104_ok fun call zh hF=>?_
 have t_103:=@t103 _ zh.1
 clear zh
 have hd_h1:=hF.dom _ _ h1
 have hi:=hF.dom _ _ h1
 have k1:=h1
 obtain⟨N,rfl⟩:=Int.eq_ofNat_of_zero_le (show 0<=n by omega)
 have hmm:max 0 (min 64 (N:Int))=N:=by omega
 have hn0:¬(N:Int)=0:=by omega
 have hn64:(N:Int)<64:=by omega
 obtain⟨M,rfl⟩:∃M,N=M+1:=⟨N-1,by omega⟩
 have hug:=V1z B.l (M+1) st
 have htb:=top_bit hug
 have hN1:IntKind.u64.wrap (((M+1:Nat):Int)-1)=(M:Int):=by
  show(((M+1:Nat):Int)-1) % 2^64=_
  omega
 have hN2:IntKind.u64.wrap ((M+1:Nat):Int)=((M+1:Nat):Int):=by
  show((M+1:Nat):Int) % 2^64=_
  omega
 have hM0:¬(M:Int)<0:=by omega
 have hM1:¬((M+1:Nat):Int)<0:=by omega
 have htn:((M:Nat):Int).toNat=M:=Int.toNat_natCast _
 have htn2:((M+1:Nat):Int).toNat=M+1:=Int.toNat_natCast _
 have hp:=p32 (n:=M+1) (by omega)
 have hbo:=bit_of (getD B.l (M+1) st).1 M (by omega)
 unfold andB at hbo
 have hsg:(sgetD B.l (M+1) st).1=sgnB (getD B.l (M+1) st).1 (M+1):=rfl
 have hs2:(sgetD B.l (M+1) st).2=(getD B.l (M+1) st).2:=rfl
 rw[Int.toNat_natCast,hsg,hs2]
 generalize hu:(getD B.l (M+1) st).1=u at hug htb hbo
 have hiw:IntKind.i64.wrap u=u:=Z0l (by omega) (by omega)
 have hmin:min (M+1) IntKind.i64.bits=M+1:=by show min (M+1) 64=_;omega
 have hsh:IntKind.i64.wrap (1*2^(M+1))=2^(M+1):=by rw[Int.one_mul];exact Z0l (by omega) (by omega)
 have hsub:IntKind.i64.wrap (u-2^(M+1))=u-2^(M+1):=Z0l (by omega) (by omega)
 cases hlow:decide (u<2^M) with
 |true=>
  rw[hlow]at htb
  have hsn:sgnB u (M+1)=u:=by unfold sgnB;rw[Nat.add_sub_cancel,if_pos (of_decide_eq_true hlow)]
  rw[hsn]
  (have zx:=zA hmm (zA hn0 (zA hn64 (zA hu (zA hN1 (zA hN2 (zA hM0 (zA hM1 (zA htn (zA htn2 (zA hbo (zA htb (zA hiw (zA hmin (zA hsh (zA hsub h1)))))))))))))));refine zq104 ?_;try exact zT)
  repeat'(apply zK.s<;>intro hc<;>(try simp only[zhd]at hc)<;>(try have hw:=K0a hc)<;>(refine zq104 ?_;try exact zT))
  all_goals(try clear zx)
  exact Q0u hF hi (fun j o hj h=>by rw[Hp.get_set_ne _ _ _ hj];exact h) ⟨_,Hp.get_set_self _ _ _,Y0i fun j hj=>hF.lt_obj (.arg (a:=CV.ptr i []) (by simp) rfl) k1 j hj⟩ (V0f (Z0c (fun j hj=>by simp[CV.has]at hj)))
 |false=>
  rw[hlow]at htb
  have hsn:sgnB u (M+1)=u-2^(M+1):=by unfold sgnB;rw[Nat.add_sub_cancel,if_neg (of_decide_eq_false hlow)]
  rw[hsn]
  (have zx:=zA hmm (zA hn0 (zA hn64 (zA hu (zA hN1 (zA hN2 (zA hM0 (zA hM1 (zA htn (zA htn2 (zA hbo (zA htb (zA hiw (zA hmin (zA hsh (zA hsub h1)))))))))))))));refine zq104 ?_;try exact zT)
  repeat'(apply zK.s<;>intro hc<;>(try simp only[zhd]at hc)<;>(try have hw:=K0a hc)<;>(refine zq104 ?_;try exact zT))
  all_goals(try clear zx)
  exact Q0u hF hi (fun j o hj h=>by rw[Hp.get_set_ne _ _ _ hj];exact h) ⟨_,Hp.get_set_self _ _ _,Y0i fun j hj=>hF.lt_obj (.arg (a:=CV.ptr i []) (by simp) rfl) k1 j hj⟩ (V0f (Z0c (fun j hj=>by simp[CV.has]at hj)))
end Go.Proofs.Ytpchcfkebljopaa
end
section
namespace Go.Proofs.Ytpchcfkebljopaa
open Go.Cl Go Go.RowKit
def bindD{α β:Type}(d:α×RSt)(g:α->RSt->β×RSt): β×RSt:=g d.1 d.2
def Keeps{α:Type}(f:RSt->α×RSt): Prop:=∀a,(f (a,true)).2.2=true
theorem Keeps.bind{α β:Type}{f:RSt->α×RSt}{g:α->RSt->β×RSt}(hf:Keeps f)(hg:∀x,Keeps (g x)): Keeps fun r=>bindD (f r) g:=fun a=>by
 have h:=hf a
 show(g (f (a,true)).1 (f (a,true)).2).2.2=true
 generalize f (a,true)=y at h
 obtain⟨x,c,t⟩:=y
 simp only at h
 subst h
 exact hg x c
theorem Keeps.pure{α:Type}(x:α): Keeps fun r=>(x,r):=fun _=>rfl
structure Pair{α:Type}(N:Nat)(e:Nat->Except Int (α×Nat))(d:RSt->α×RSt): Prop where
 rel:∀a,RelD (e a) (d (a,false))
 keeps:Keeps d
 at_:∀r,r.1<=N->(d r).2.1<=N
theorem Pair.bind{α β:Type}{N:Nat}{e:Nat->Except Int (α×Nat)}{d:RSt->α×RSt}{f:α->Nat->Except Int (β×Nat)}{g:α->RSt->β×RSt}(h:Pair N e d)(k:∀x,Pair N (f x) (g x)): Pair N (fun a=>bindE (e a) f) (fun r=>bindD (d r) g):=
 ⟨fun a=>(h.rel a).bind (fun x a'=>(k x).rel a') (fun x a'=>(k x).keeps a'),h.keeps.bind fun x=>(k x).keeps,fun r hr=>(k _).at_ _ (h.at_ r hr)⟩
theorem Pair.pure{α:Type}{N:Nat}(x:α): Pair N (fun a=>.ok (x,a)) (fun r=>(x,r)):=⟨fun _=>rfl,fun _=>rfl,fun _ h=>h⟩
theorem getP(b:List Int)(n:Nat): Pair (8*b.length) (getB b n) (getD b n):=⟨getD_rel b n,K1x b n,fun _ h=>X1o h⟩
theorem sgetP(b:List Int)(n:Nat): Pair (8*b.length) (sgetB b n) (sgetD b n):=⟨sgetD_rel b n,K1x b n,fun _ h=>X1o (b:=b) h⟩
def memD(b:List Int)(x:Q0a)(r:RSt): Nat->Q0a×RSt
 |0=>(x,r)
 |k+1=>bindD (memD b x r k) fun y r=>bindD (sgetD b 21 r) fun v r=>(y.put_7k k v,r)
theorem memP(b:List Int)(x:Q0a): ∀k,Pair (8*b.length) (fun a=>memB b x a k) (fun r=>memD b x r k)
 |0=>Pair.pure x
 |k+1=>(memP b x k).bind fun y=>(sgetP b 21).bind fun v=>Pair.pure _
def readBodyD(b:List Int)(r:RSt): Q0a×RSt:=
 bindD (getD b 2 r) fun k r=>if k=0 then({Q0a.zero with Kind:=k},r) else
 bindD (getD b 3 r) fun o r=>bindD (getD b 12 r) fun x r=>bindD (getD b 12 r) fun y r=>bindD (sgetD b 8 r) fun vx r=>bindD (sgetD b 8 r) fun vy r=>bindD (getD b 10 r) fun g r=>
 bindD (memD b {Q0a.zero with Kind:=k,Owner:=o,X:=x,Y:=y,VX:=vx,VY:=vy,Age:=g} r 4) fun z r=>bindD (getD b 16 r) fun f r=>({z with Faults:=f},r)
theorem readBodyP(b:List Int): Pair (8*b.length) (readBody b) (readBodyD b):=by
 refine(getP b 2).bind fun k=>?_
 by_cases hk:k=0
 ·simp only[if_pos hk];exact Pair.pure _
 ·simp only[if_neg hk]
  exact(getP b 3).bind fun o=>(getP b 12).bind fun x=>(getP b 12).bind fun y=>(sgetP b 8).bind fun vx=>(sgetP b 8).bind fun vy=>(getP b 10).bind fun g=>(memP b _ 4).bind fun z=>(getP b 16).bind fun f=>Pair.pure _
def bodiesD(b:List Int)(s:V0a)(r:RSt): Nat->V0a×RSt
 |0=>(s,r)
 |k+1=>bindD (bodiesD b s r k) fun t r=>bindD (readBodyD b r) fun x r=>(t.put_2k k x,r)
theorem bodiesP(b:List Int)(s:V0a): ∀k,Pair (8*b.length) (fun a=>bodiesB b s a k) (fun r=>bodiesD b s r k)
 |0=>Pair.pure s
 |k+1=>(bodiesP b s k).bind fun t=>(readBodyP b).bind fun x=>Pair.pure _
def scoresD(b:List Int)(s:V0a)(r:RSt): Nat->V0a×RSt
 |0=>(s,r)
 |k+1=>bindD (scoresD b s r k) fun t r=>bindD (getD b 31 r) fun v r=>(t.put_3k k v,r)
theorem scoresP(b:List Int)(s:V0a): ∀k,Pair (8*b.length) (fun a=>scoresB b s a k) (fun r=>scoresD b s r k)
 |0=>Pair.pure s
 |k+1=>(scoresP b s k).bind fun t=>(getP b 31).bind fun v=>Pair.pure _
def readAllD(c:X0a)(b:List Int)(r:RSt): V0a×RSt:=
 bindD (getD b 10 r) fun f r=>bindD (getD b 64 r) fun d r=>bindD (bodiesD b {V0a.zero with Frame:=f,Dice:=d} r 16) fun t r=>scoresD b t r (readersN c)
theorem readAllP(c:X0a)(b:List Int): Pair (8*b.length) (readAllB c b) (readAllD c b):=
 (getP b 10).bind fun f=>(getP b 64).bind fun d=>(bodiesP b _ 16).bind fun t=>scoresP b t (readersN c)
theorem readBodyD_0{b:List Int}{r:RSt}{K:Int×RSt}(h:getD b 2 r=K)(h0:K.1=0): readBodyD b r=({Q0a.zero with Kind:=0},K.2):=by
 subst h
 exact(if_pos h0).trans (by rw[h0])
theorem readBodyD_1{b:List Int}{r:RSt}{K O X Y U1 U2 A W1:Int×RSt}{Z:Q0a×RSt}(h:getD b 2 r=K)(h0:¬K.1=0)(h1:getD b 3 K.2=O)(h2:getD b 12 O.2=X)(h3:getD b 12 X.2=Y)(h4:sgetD b 8 Y.2=U1)(h5:sgetD b 8 U1.2=U2)(h6:getD b 10 U2.2=A)
  (h7:memD b {Q0a.zero with Kind:=K.1,Owner:=O.1,X:=X.1,Y:=Y.1,VX:=U1.1,VY:=U2.1,Age:=A.1} A.2 4=Z) (h8:getD b 16 Z.2=W1):readBodyD b r=({Z.1 with Faults:=W1.1},W1.2):=by
 subst h8;subst h7;subst h6;subst h5;subst h4;subst h3;subst h2;subst h1;subst h
 exact if_neg h0
theorem readD_state(c:X0a)(b:List Int): readState c b=if(readAllD c b (0,false)).2.2=false/\stateRight c (readAllD c b (0,false)).1=true/\layS c (readAllD c b (0,false)).1=b then((readAllD c b (0,false)).1,0) else(V0a.zero,2):=by
 have h:=(readAllP c b).rel 0
 unfold readState
 cases hr:readAllB c b 0 with
 |error e=>
  rw[hr]at h
  simp only[RelD]at h
  simp[h]
 |ok y=>
  obtain⟨s,a⟩:=y
  rw[hr]at h
  simp only[RelD]at h
  rw[h]
  simp
theorem ba_loop(bs:ByteArray): ∀(n i:Nat) (r:List UInt8),bs.size-i=n->ByteArray.toList.loop bs i r=r.reverse++bs.data.toList.drop i
 |0,i,r,h=>by
  unfold ByteArray.toList.loop
  have hs:bs.data.toList.length=bs.size:=Array.length_toList
  rw[if_neg (by omega),List.drop_eq_nil_of_le (by omega),List.append_nil]
 |n+1,i,r,h=>by
  unfold ByteArray.toList.loop
  have hs:bs.data.toList.length=bs.size:=Array.length_toList
  have hi:i<bs.data.toList.length:=by omega
  rw[if_pos (by omega),ba_loop bs n (i+1) _ (by omega),List.reverse_cons,List.append_assoc,List.drop_eq_getElem_cons hi]
  have hi2:i<bs.data.size:=by simpa using hi
  have e:bs.get! i=bs.data.toList[i]:=by
   show bs.data[i]! = _
   rw[getElem!_pos bs.data i hi2,Array.getElem_toList]
  rw[e];rfl
theorem ba_toList(bs:ByteArray): bs.toList=bs.data.toList:=by
 unfold ByteArray.toList
 rw[ba_loop bs _ 0 [] rfl];simp
def inB(l:List Int): Prop:=∀x∈l,0<=x/\x<=255
theorem u8_inj{x y:Int}(hx:0<=x/\x<=255)(hy:0<=y/\y<=255)(h:UInt8.ofNat x.toNat=UInt8.ofNat y.toNat): x=y:=by
 have h2:=congrArg UInt8.toNat h
 simp only[UInt8.toNat_ofNat']at h2
 omega
theorem K1s: ∀{a b:List Int},inB a->inB b->(a.map fun n=>UInt8.ofNat n.toNat)=(b.map fun n=>UInt8.ofNat n.toNat)->a=b
 |[],[],_,_,_=>rfl
 |[],_::_,_,_,h=>by simp at h
 |_::_,[],_,_,h=>by simp at h
 |x::a,y::b,ha,hb,h=>by
  simp only[List.map_cons,List.cons.injEq]at h
  rw[u8_inj (ha x (by simp)) (hb y (by simp)) h.1,K1s (fun z hz=>ha z (by simp[hz])) (fun z hz=>hb z (by simp[hz])) h.2]
theorem str_eq{a b:List Int}(ha:inB a)(hb:inB b): ((bytesOf a).toList==(bytesOf b).toList)=decide (a=b):=by
 rw[ba_toList,ba_toList]
 show((a.map fun n=>UInt8.ofNat n.toNat).toArray.toList==(b.map fun n=>UInt8.ofNat n.toNat).toArray.toList)=_
 by_cases h:a=b
 ·subst h;simp
 ·rw[decide_eq_false h]
  rw[beq_eq_false_iff_ne]
  intro e
  exact h (K1s ha hb (by simpa using e))
theorem X00: ∀l:List Int,byteNums (l.map Y8)=some l
 |[]=>rfl
 |x::l=>by simp only[List.map_cons,byteNums,X00 l,Option.map_some]
end Go.Proofs.Ytpchcfkebljopaa
end
section
namespace Go.Proofs.Ytpchcfkebljopaa
open Go.Cl Go Go.RowKit
set_option maxRecDepth 100000
set_option linter.constructorNameAsVariable false
theorem bld161(s:Lst Int): qbuild C 161 [(0,s.cv Y8)]=some (V0c.mk s 0 false).cv:=by
 simp only[qbuild,tt161,ti161,partsOk,setAll];rfl
theorem rdD_eq(s:Lst Int): XObj.var sh161 (V0c.mk s 0 false).cv=rdD s (0,false):=rfl
theorem rdF{b:List Int}(n:Nat){r:RSt}(hn:n<=32)(h:r.1<=8*b.length): ∃F,getD b n r=F/\F.2.1<=8*b.length/\IntKind.i64.wrap F.1=F.1:=by
 have hr:=V1z b n r
 have hp:=p32 hn
 exact⟨_,rfl,X1o h,Z0l (by omega) (by omega)⟩
theorem rdG{b:List Int}(n:Nat){r:RSt}(h:r.1<=8*b.length): ∃F,getD b n r=F/\F.2.1<=8*b.length:=⟨_,rfl,X1o h⟩
theorem rdS{b:List Int}(n:Nat){r:RSt}(h:r.1<=8*b.length): ∃F,sgetD b n r=F/\F.2.1<=8*b.length:=⟨_,rfl,X1o (b:=b) h⟩
def J43(c:X0a)(s:Lst Int)(S0:V0a)(r0:RSt)(p:Hp)(n:Nat)(ρ:Env)(q:Hp): Prop:=
 ∃k:Nat,n=16-k/\k<=16/\ρ 1=s.cv Y8/\ρ 2=.ptr p.n []/\ρ 4=.ptr (p.n+1) []/\ρ 6=.ptr (p.n+2) []/\ρ 7=.ptr (p.n+3) []/\ρ 8=I k/\q.t.get p.n=some (.var sh61 c.cv)/\q.t.get (p.n+1)=some (.var sh66 V0a.zero.cv)/\q.t.get (p.n+2)=some (rdD s (bodiesD s.l S0 r0 k).2)/\q.t.get (p.n+3)=some (.var sh66 (bodiesD s.l S0 r0 k).1.cv)/\p.n+3<q.n/\HpLe p q
def K43(c:X0a)(s:Lst Int)(T:V0a)(X0:Q0a)(r0:RSt)(a k:Nat)(p:Hp)(n:Nat)(ρ:Env)(q:Hp): Prop:=
 ∃m:Nat,n=4-m/\m<=4/\ρ 1=s.cv Y8/\ρ 2=.ptr p.n []/\ρ 4=.ptr (p.n+1) []/\ρ 6=.ptr (p.n+2) []/\ρ 7=.ptr (p.n+3) []/\ρ 8=I k/\ρ 9=.ptr a []/\ρ 10=I m/\q.t.get p.n=some (.var sh61 c.cv)/\q.t.get (p.n+1)=some (.var sh66 V0a.zero.cv)/\q.t.get (p.n+2)=some (rdD s (memD s.l X0 r0 m).2)/\q.t.get (p.n+3)=some (.var sh66 T.cv)/\q.t.get a=some (.var sh34 (memD s.l X0 r0 m).1.cv)/\p.n+3<a/\a<q.n/\HpLe p q
def L43(c:X0a)(s:Lst Int)(T:V0a)(r0:RSt)(p:Hp)(n:Nat)(ρ:Env)(q:Hp): Prop:=
 ∃k:Nat,n=readersN c-k/\k<=readersN c/\ρ 1=s.cv Y8/\ρ 2=.ptr p.n []/\ρ 4=.ptr (p.n+1) []/\ρ 6=.ptr (p.n+2) []/\ρ 7=.ptr (p.n+3) []/\ρ 11=I k/\q.t.get p.n=some (.var sh61 c.cv)/\q.t.get (p.n+1)=some (.var sh66 V0a.zero.cv)/\q.t.get (p.n+2)=some (rdD s (scoresD s.l T r0 k).2)/\q.t.get (p.n+3)=some (.var sh66 (scoresD s.l T r0 k).1.cv)/\p.n+3<q.n/\HpLe p q
def R43: Rel:=fun args p r=>∃(c:X0a) (s:Lst Int),args=[c.cv,s.cv Y8]/\(c.Tokens.l.length<=1000000)/\(c.Rules.l.length<=1000000)/\(s.tl≠.view)/\(s.l.length<=140737488355328)/\(∀x∈s.l,0<=x/\x<=255)/\r=.ret (.tup [(readState c s.l).1.cv,Bo (decide ((readState c s.l).2=0))]) p
theorem zdis43{P:Prop}(h:P:=by first|exact zdis|(simp only[Hp.bump_n,Hp.znew_n,Hp.zset_n,List.length_nil,List.length_cons,List.length_append,List.length_map,V0k];(first|done|omega))|(simp (disch:=first|exact zd1|(simp only[Hp.bump_n,Hp.znew_n,Hp.zset_n,List.length_nil,List.length_cons,List.length_append,List.length_map,V0k];(first|done|omega))) only[zheap,zx];(first|done|rfl))|fail): P:=h
theorem zq43{A B:Prop}(k:B)(h:A=B:=by have zy:=zA @zw43<|zA @rs43<|zA @tt3<|zA @tt4<|zA @tt9<|zA @tt25<|zA @tt32<|zA @tt34<|zA @tt61<|zA @tt63<|zA @tt64<|zA @tt66<|zA @tt68<|zA @tt161<|zA ti3.eq_1<|zA ti4.eq_1<|zA ti9.eq_1<|zA ti25.eq_1<|zA ti32.eq_1<|zA ti34.eq_1<|zA ti61.eq_1<|zA ti63.eq_1<|zA ti64.eq_1<|zA ti66.eq_1<|zA ti68.eq_1<|zA ti161.eq_1<|zA @t_39<|zA @t_103<|zA @t_104<|zA @Z0e<|zA @X0f<|zA @Q0f<|zA @Z0u<|zA @zsl32<|zA @zsl63<|zA @zsl64<|zA @zsl68<|zA @bld161<|zA @V0c.xbox<|zA @rdD_eq<|zA @tt5<|zA ti5.eq_1<|zA @X00<|zA @str_eq<|zA @V0k<|zA @hl<|zA @hr<|zA @h4<|zA @h5<|@h6;have zd:=@zdis43;exact zQd): A:=h▸k
theorem c43: Con C 43 R43:=by
 refine V0e C ?_ ?_ ?_
 ·rintro args p r r' ⟨c,s,h,hl,hr,h4,h5,h6,e⟩ ⟨c',s',h',hl',hr',h4',h5',h6',e'⟩
  subst e;subst e';simp_all[X0a.inj_iff,V0a.inj_iff,Q0a.inj_iff,V0c.inj_iff,X0h]
 ·rintro args p r ⟨c,s,h,hl,hr,h4,h5,h6,rfl⟩;first|(split<;>simp;done)|(simp;done)|(simp only[resM];split<;>simp;done)|(simp only[resD];split<;>simp;done)
 rintro args p r ⟨c,s,rfl,hl,hr,h4,h5,h6,rfl⟩
 refine zW C false [(39,R39),(103,R103),(104,R104)] ⟨c39,c103,c104,zT⟩ rfl xf43 zc43_ok fun call zh hF=>?_
 have t_39:=@t39 _ zh.1
 have t_103:=@t103 _ zh.2.1
 have t_104:=@t104 _ zh.2.2.1
 clear zh
 have hrs:=readD_state c s.l
 obtain⟨F,hFe,hFa,hFw⟩:=rdF (b:=s.l) 10 (r:=(0,false)) (by omega) (by simp)
 obtain⟨G,hGe,hGa⟩:=rdG (b:=s.l) 64 (r:=F.2) hFa
 have hra:readAllD c s.l (0,false)=scoresD s.l (bodiesD s.l {V0a.zero with Frame:=F.1,Dice:=G.1} G.2 16).1 (bodiesD s.l {V0a.zero with Frame:=F.1,Dice:=G.1} G.2 16).2 (readersN c):=by subst hGe;subst hFe;rfl
 (have zx:=zA hFe (zA hFw hGe);refine zq43 ?_;try exact zT)
 repeat'(apply zK.s<;>intro hc<;>(try simp only[zhd]at hc)<;>(try have hw:=K0a hc)<;>(refine zq43 ?_;try exact zT))
 all_goals(try clear zx)
 (show W C false noExt call (ZC.loop K2c) _ _ _);refine Y0g C false noExt call K2c _ _ _ (J43 c s {V0a.zero with Frame:=F.1,Dice:=G.1} G.2 p) 16 ⟨0,rfl,by omega,by simp[put_at,K0c,K0e,Z0k],zev,zev,zev,zev,zev,zg9,zg9,by simp (disch:=first|exact zdl|fail) only[zheap]<;>rfl,by simp (disch:=first|exact zdl|fail) only[zheap]<;>rfl,zb9,zle⟩ ?_
 rintro n ρ q ⟨k,rfl,hk,e1,e2,e4,e6,e7,e8,g1,g2,g3,g4,hn,hle⟩
 have hba:=(bodiesP s.l {V0a.zero with Frame:=F.1,Dice:=G.1} k).at_ _ hGa
 by_cases hlt:(k:Int)<16
 ·have hbs:bodiesD s.l {V0a.zero with Frame:=F.1,Dice:=G.1} G.2 (k+1)=(((bodiesD s.l {V0a.zero with Frame:=F.1,Dice:=G.1} G.2 k).1.put_2k k (readBodyD s.l (bodiesD s.l {V0a.zero with Frame:=F.1,Dice:=G.1} G.2 k).2).1),(readBodyD s.l (bodiesD s.l {V0a.zero with Frame:=F.1,Dice:=G.1} G.2 k).2).2):=rfl
  generalize bodiesD s.l {V0a.zero with Frame:=F.1,Dice:=G.1} G.2 k=T at hbs g3 g4 hba
  obtain⟨K,hKe,hKa,hKw⟩:=rdF (b:=s.l) 2 (r:=T.2) (by omega) hba
  by_cases hK0:K.1=0
  ·(have zx:=zA e1 (zA e2 (zA e4 (zA e6 (zA e7 (zA e8 (zA g1 (zA g2 (zA g3 (zA g4 (zA hlt (zA hKe (zA hKw hK0))))))))))));refine zq43 ?_;try exact zT)
   repeat'(apply zK.s<;>intro hc<;>(try simp only[zhd]at hc)<;>(try have hw:=K0a hc)<;>(refine zq43 ?_;try exact zT))
   all_goals(try clear zx)
   have hbd:=readBodyD_0 hKe hK0
   rw[hbd]at hbs
   refine⟨16-(k+1),by omega,k+1,rfl,by omega,zev,zev,zev,zev,zev,zev,zg9,zg9,?_,?_,zb9,fun a o h=>by have hd:=hF.dom a o h;simp (disch:=first|exact zdl|fail) only[Hp.bump_get,Hp.get_set_ne,Hp.get_new_ne];exact hle a o h⟩
   ·rw[hbs];simp (disch:=first|exact zdl|fail) only[zheap]
   ·rw[hbs];simp (disch:=first|exact zdl|fail) only[zheap]<;>rfl
  ·obtain⟨O,hOe,hOa,hOw⟩:=rdF (b:=s.l) 3 (r:=K.2) (by omega) hKa
   obtain⟨X,hXe,hXa,hXw⟩:=rdF (b:=s.l) 12 (r:=O.2) (by omega) hOa
   obtain⟨Y,hYe,hYa,hYw⟩:=rdF (b:=s.l) 12 (r:=X.2) (by omega) hXa
   obtain⟨U1,hUe,hUa⟩:=rdS (b:=s.l) 8 (r:=Y.2) hYa
   obtain⟨U2,hVe,hVa⟩:=rdS (b:=s.l) 8 (r:=U1.2) hUa
   obtain⟨A,hAe,hAa,hAw⟩:=rdF (b:=s.l) 10 (r:=U2.2) (by omega) hVa
   (have zx:=zA e1 (zA e2 (zA e4 (zA e6 (zA e7 (zA e8 (zA g1 (zA g2 (zA g3 (zA g4 (zA hlt (zA hKe (zA hKw (zA hK0 (zA hOe (zA hOw (zA hXe (zA hXw (zA hYe (zA hYw (zA hUe (zA hVe (zA hAe hAw))))))))))))))))))))));refine zq43 ?_;try exact zT)
   repeat'(apply zK.s<;>intro hc<;>(try simp only[zhd]at hc)<;>(try have hw:=K0a hc)<;>(refine zq43 ?_;try exact zT))
   all_goals(try clear zx)
   (show W C false noExt call (ZC.loop Q2c) _ _ _);refine Y0g C false noExt call Q2c _ _ _ (K43 c s T.1 {Q0a.zero with Kind:=K.1,Owner:=O.1,X:=X.1,Y:=Y.1,VX:=U1.1,VY:=U2.1,Age:=A.1} A.2 q.n k p) 4 ⟨0,rfl,by omega,zev,zev,zev,zev,zev,zev,zev,zev,zg9,zg9,by simp (disch:=first|exact zdl|fail) only[zheap]<;>rfl,zg9,by simp (disch:=first|exact zdl|fail) only[zheap]<;>rfl,by omega,zb9,fun a o h=>by have hd:=hF.dom a o h;simp (disch:=first|exact zdl|fail) only[Hp.bump_get,Hp.get_set_ne,Hp.get_new_ne];exact hle a o h⟩ ?_
   have hk15:k<16:=by omega
   have hqp:p.n+3<q.n:=by omega
   generalize hA:q.n=a at hqp
   clear e1 e2 e4 e6 e7 e8 g1 g2 g3 g4 hn hle hlt
   rintro n ρ q ⟨m,rfl,hm4,e1,e2,e4,e6,e7,e8,e9,e10,g1,g2,g3,g4,g5,hpa,haq,hle⟩
   have hma:=(memP s.l {Q0a.zero with Kind:=K.1,Owner:=O.1,X:=X.1,Y:=Y.1,VX:=U1.1,VY:=U2.1,Age:=A.1} m).at_ _ hAa
   by_cases hlt:(m:Int)<4
   ·have hms:memD s.l {Q0a.zero with Kind:=K.1,Owner:=O.1,X:=X.1,Y:=Y.1,VX:=U1.1,VY:=U2.1,Age:=A.1} A.2 (m+1)=((memD s.l {Q0a.zero with Kind:=K.1,Owner:=O.1,X:=X.1,Y:=Y.1,VX:=U1.1,VY:=U2.1,Age:=A.1} A.2 m).1.put_7k m (sgetD s.l 21 (memD s.l {Q0a.zero with Kind:=K.1,Owner:=O.1,X:=X.1,Y:=Y.1,VX:=U1.1,VY:=U2.1,Age:=A.1} A.2 m).2).1,(sgetD s.l 21 (memD s.l {Q0a.zero with Kind:=K.1,Owner:=O.1,X:=X.1,Y:=Y.1,VX:=U1.1,VY:=U2.1,Age:=A.1} A.2 m).2).2):=rfl
    generalize memD s.l {Q0a.zero with Kind:=K.1,Owner:=O.1,X:=X.1,Y:=Y.1,VX:=U1.1,VY:=U2.1,Age:=A.1} A.2 m=Z at hms g3 g5 hma
    obtain⟨V,hVVe,hVVa⟩:=rdS (b:=s.l) 21 (r:=Z.2) hma
    rw[hVVe]at hms
    (have zx:=zA e1 (zA e2 (zA e4 (zA e6 (zA e7 (zA e8 (zA e9 (zA e10 (zA g1 (zA g2 (zA g3 (zA g4 (zA g5 (zA hlt hVVe)))))))))))));refine zq43 ?_;try exact zT)
    repeat'(apply zK.s<;>intro hc<;>(try simp only[zhd]at hc)<;>(try have hw:=K0a hc)<;>(refine zq43 ?_;try exact zT))
    all_goals(try clear zx)
    refine⟨4-(m+1),by omega,m+1,rfl,by omega,zev,zev,zev,zev,zev,zev,zev,zev,zg9,zg9,?_,zg9,?_,by omega,zb9,fun a o h=>by have hd:=hF.dom a o h;simp (disch:=first|exact zdl|fail) only[Hp.bump_get,Hp.get_set_ne,Hp.get_new_ne];exact hle a o h⟩
    ·rw[hms];simp (disch:=first|exact zdl|fail) only[zheap]
    ·rw[hms];simp (disch:=first|exact zdl|fail) only[zheap]<;>rfl
   ·have hm44:m=4:=by omega
    subst hm44
    generalize hZ:memD s.l {Q0a.zero with Kind:=K.1,Owner:=O.1,X:=X.1,Y:=Y.1,VX:=U1.1,VY:=U2.1,Age:=A.1} A.2 4=Z at g3 g5 hma
    obtain⟨W1,hWe,hWa,hWw⟩:=rdF (b:=s.l) 16 (r:=Z.2) (by omega) hma
    have hbd:=readBodyD_1 hKe hK0 hOe hXe hYe hUe hVe hAe hZ hWe
    rw[hbd]at hbs
    (have zx:=zA e1 (zA e2 (zA e4 (zA e6 (zA e7 (zA e8 (zA e9 (zA e10 (zA g1 (zA g2 (zA g3 (zA g4 (zA g5 (zA hlt (zA hWe hWw))))))))))))));refine zq43 ?_;try exact zT)
    repeat'(apply zK.s<;>intro hc<;>(try simp only[zhd]at hc)<;>(try have hw:=K0a hc)<;>(refine zq43 ?_;try exact zT))
    all_goals(try clear zx)
    refine⟨16-(k+1),by omega,k+1,rfl,by omega,zev,zev,zev,zev,zev,zev,zg9,zg9,?_,?_,zb9,fun a o h=>by have hd:=hF.dom a o h;simp (disch:=first|exact zdl|fail) only[Hp.bump_get,Hp.get_set_ne,Hp.get_new_ne];exact hle a o h⟩
    ·rw[hbs];simp (disch:=first|exact zdl|fail) only[zheap]
    ·rw[hbs];simp (disch:=first|exact zdl|fail) only[zheap]<;>rfl
 ·have hk16:k=16:=by omega
  subst hk16
  generalize bodiesD s.l {V0a.zero with Frame:=F.1,Dice:=G.1} G.2 16=T at hra g3 g4 hba
  (have zx:=zA e1 (zA e2 (zA e4 (zA e6 (zA e7 (zA e8 (zA g1 (zA g2 (zA g3 (zA g4 hlt)))))))));refine zq43 ?_;try exact zT)
  repeat'(apply zK.s<;>intro hc<;>(try simp only[zhd]at hc)<;>(try have hw:=K0a hc)<;>(refine zq43 ?_;try exact zT))
  all_goals(try clear zx)
  (show W C false noExt call (ZC.loop Y19) _ _ _);refine Y0g C false noExt call Y19 _ _ _ (L43 c s T.1 T.2 p) (readersN c) ⟨0,rfl,by omega,zev,zev,zev,zev,zev,zev,g1,g2,g3,g4,hn,hle⟩ ?_
  clear e1 e2 e4 e6 e7 e8 g1 g2 g3 g4 hn hle hlt
  rintro n ρ q ⟨k,rfl,hk,e1,e2,e4,e6,e7,e11,g1,g2,g3,g4,hn,hle⟩
  have hsa:=(scoresP s.l T.1 k).at_ _ hba
  have hrd:((readersN c:Nat):Int)=max 0 (min c.Players 8):=by unfold readersN;omega
  by_cases hlt:k<readersN c
  ·have hl1:(k:Int)<c.Players:=by omega
   have hl2:(k:Int)<8:=by omega
   have hl3:k<8:=by omega
   have hss:scoresD s.l T.1 T.2 (k+1)=((scoresD s.l T.1 T.2 k).1.put_3k k (getD s.l 31 (scoresD s.l T.1 T.2 k).2).1,(getD s.l 31 (scoresD s.l T.1 T.2 k).2).2):=rfl
   generalize scoresD s.l T.1 T.2 k=Z at hss g3 g4 hsa
   obtain⟨V,hVe,hVa,hVw⟩:=rdF (b:=s.l) 31 (r:=Z.2) (by omega) hsa
   rw[hVe]at hss
   (have zx:=zA e1 (zA e2 (zA e4 (zA e6 (zA e7 (zA e11 (zA g1 (zA g2 (zA g3 (zA g4 (zA hl1 (zA hl2 (zA hl3 (zA hVe hVw)))))))))))));refine zq43 ?_;try exact zT)
   repeat'(apply zK.s<;>intro hc<;>(try simp only[zhd]at hc)<;>(try have hw:=K0a hc)<;>(refine zq43 ?_;try exact zT))
   all_goals(try clear zx)
   refine⟨readersN c-(k+1),by omega,k+1,rfl,by omega,zev,zev,zev,zev,zev,zev,zg9,zg9,?_,?_,zb9,fun a o h=>by have hd:=hF.dom a o h;simp (disch:=first|exact zdl|fail) only[Hp.bump_get,Hp.get_set_ne,Hp.get_new_ne];exact hle a o h⟩
   ·rw[hss];simp (disch:=first|exact zdl|fail) only[zheap]
   ·rw[hss];simp (disch:=first|exact zdl|fail) only[zheap]<;>rfl
  ·have hkR:k=readersN c:=by omega
   subst hkR
   rw[<- hra]at g3 g4
   generalize readAllD c s.l (0,false)=V at hrs g3 g4
   obtain⟨V,va,vs⟩:=V
   simp only at hrs g4
   replace g3:q.t.get (p.n+2)=some (.var sh161 (V0c.mk s va vs).cv):=g3
   have hby:=X05 c V
   have hcond:¬((readersN c:Nat):Int)<c.Players\/(((readersN c:Nat):Int)<c.Players/\¬((readersN c:Nat):Int)<8):=by omega
   have b1:inB (layS c V):=hby
   have b2:inB s.l:=h6
   cases vs with
   |true=>
    have hq:readState c s.l=(V0a.zero,2):=by rw[hrs];simp
    rw[hq]
    cases hR:stateRight c V with
    |true=>
     rcases hcond with hc1|⟨hc1,hc2⟩
     ·(have zx:=zA e1 (zA e2 (zA e4 (zA e6 (zA e7 (zA e11 (zA g1 (zA g2 (zA g3 (zA g4 (zA hc1 hR))))))))));refine zq43 ?_;try exact zT)
      repeat'(apply zK.s<;>intro hc<;>(try simp only[zhd]at hc)<;>(try have hw:=K0a hc)<;>(refine zq43 ?_;try exact zT))
      all_goals(try clear zx)
      exact K0d hF zlq (Q0c rfl (Z0c (by intro jj;simp[CV.has,CV.hasL,V0a.nohas])))
     ·(have zx:=zA e1 (zA e2 (zA e4 (zA e6 (zA e7 (zA e11 (zA g1 (zA g2 (zA g3 (zA g4 (zA hc1 (zA hc2 hR)))))))))));refine zq43 ?_;try exact zT)
      repeat'(apply zK.s<;>intro hc<;>(try simp only[zhd]at hc)<;>(try have hw:=K0a hc)<;>(refine zq43 ?_;try exact zT))
      all_goals(try clear zx)
      exact K0d hF zlq (Q0c rfl (Z0c (by intro jj;simp[CV.has,CV.hasL,V0a.nohas])))
    |false=>
     rcases hcond with hc1|⟨hc1,hc2⟩
     ·(have zx:=zA e1 (zA e2 (zA e4 (zA e6 (zA e7 (zA e11 (zA g1 (zA g2 (zA g3 (zA g4 (zA hc1 hR))))))))));refine zq43 ?_;try exact zT)
      repeat'(apply zK.s<;>intro hc<;>(try simp only[zhd]at hc)<;>(try have hw:=K0a hc)<;>(refine zq43 ?_;try exact zT))
      all_goals(try clear zx)
      exact K0d hF zlq (Q0c rfl (Z0c (by intro jj;simp[CV.has,CV.hasL,V0a.nohas])))
     ·(have zx:=zA e1 (zA e2 (zA e4 (zA e6 (zA e7 (zA e11 (zA g1 (zA g2 (zA g3 (zA g4 (zA hc1 (zA hc2 hR)))))))))));refine zq43 ?_;try exact zT)
      repeat'(apply zK.s<;>intro hc<;>(try simp only[zhd]at hc)<;>(try have hw:=K0a hc)<;>(refine zq43 ?_;try exact zT))
      all_goals(try clear zx)
      exact K0d hF zlq (Q0c rfl (Z0c (by intro jj;simp[CV.has,CV.hasL,V0a.nohas])))
   |false=>
    cases hR:stateRight c V with
    |false=>
     have hq:readState c s.l=(V0a.zero,2):=by rw[hrs];simp[hR]
     rw[hq]
     rcases hcond with hc1|⟨hc1,hc2⟩
     ·(have zx:=zA e1 (zA e2 (zA e4 (zA e6 (zA e7 (zA e11 (zA g1 (zA g2 (zA g3 (zA g4 (zA hc1 hR))))))))));refine zq43 ?_;try exact zT)
      repeat'(apply zK.s<;>intro hc<;>(try simp only[zhd]at hc)<;>(try have hw:=K0a hc)<;>(refine zq43 ?_;try exact zT))
      all_goals(try clear zx)
      exact K0d hF zlq (Q0c rfl (Z0c (by intro jj;simp[CV.has,CV.hasL,V0a.nohas])))
     ·(have zx:=zA e1 (zA e2 (zA e4 (zA e6 (zA e7 (zA e11 (zA g1 (zA g2 (zA g3 (zA g4 (zA hc1 (zA hc2 hR)))))))))));refine zq43 ?_;try exact zT)
      repeat'(apply zK.s<;>intro hc<;>(try simp only[zhd]at hc)<;>(try have hw:=K0a hc)<;>(refine zq43 ?_;try exact zT))
      all_goals(try clear zx)
      exact K0d hF zlq (Q0c rfl (Z0c (by intro jj;simp[CV.has,CV.hasL,V0a.nohas])))
    |true=>
     by_cases he:layS c V=s.l
     ·have hq:readState c s.l=(V,0):=by rw[hrs];simp[hR,he]
      rw[hq]
      have hde:decide (s.l=s.l)=true:=decide_eq_true rfl
      rcases hcond with hc1|⟨hc1,hc2⟩
      ·(have zx:=zA e1 (zA e2 (zA e4 (zA e6 (zA e7 (zA e11 (zA g1 (zA g2 (zA g3 (zA g4 (zA hc1 (zA hR (zA he hde))))))))))));refine zq43 ?_;try exact zT)
       repeat'(apply zK.s<;>intro hc<;>(try simp only[zhd]at hc)<;>(try have hw:=K0a hc)<;>(refine zq43 ?_;try exact zT))
       all_goals(try clear zx)
       exact K0d hF zlq (Q0c rfl (Z0c (by intro jj;simp[CV.has,CV.hasL,V0a.nohas])))
      ·(have zx:=zA e1 (zA e2 (zA e4 (zA e6 (zA e7 (zA e11 (zA g1 (zA g2 (zA g3 (zA g4 (zA hc1 (zA hc2 (zA hR (zA he hde)))))))))))));refine zq43 ?_;try exact zT)
       repeat'(apply zK.s<;>intro hc<;>(try simp only[zhd]at hc)<;>(try have hw:=K0a hc)<;>(refine zq43 ?_;try exact zT))
       all_goals(try clear zx)
       exact K0d hF zlq (Q0c rfl (Z0c (by intro jj;simp[CV.has,CV.hasL,V0a.nohas])))
     ·have hq:readState c s.l=(V0a.zero,2):=by rw[hrs];simp[hR,he]
      rw[hq]
      rcases hcond with hc1|⟨hc1,hc2⟩
      ·(have zx:=zA e1 (zA e2 (zA e4 (zA e6 (zA e7 (zA e11 (zA g1 (zA g2 (zA g3 (zA g4 (zA hc1 (zA hR he)))))))))));refine zq43 ?_;try exact zT)
       repeat'(apply zK.s<;>intro hc<;>(try simp only[zhd]at hc)<;>(try have hw:=K0a hc)<;>(refine zq43 ?_;try exact zT))
       all_goals(try clear zx)
       exact K0d hF zlq (Q0c rfl (Z0c (by intro jj;simp[CV.has,CV.hasL,V0a.nohas])))
      ·(have zx:=zA e1 (zA e2 (zA e4 (zA e6 (zA e7 (zA e11 (zA g1 (zA g2 (zA g3 (zA g4 (zA hc1 (zA hc2 (zA hR he))))))))))));refine zq43 ?_;try exact zT)
       repeat'(apply zK.s<;>intro hc<;>(try simp only[zhd]at hc)<;>(try have hw:=K0a hc)<;>(refine zq43 ?_;try exact zT))
       all_goals(try clear zx)
       exact K0d hF zlq (Q0c rfl (Z0c (by intro jj;simp[CV.has,CV.hasL,V0a.nohas])))
def R36y: Rel:=fun args p r=>R36r args p r\/R36 args p r
theorem c36y: Con C 36 R36y:=con_or C c36r c36 (by
 rintro args p r r' ⟨c,j,B,e,_⟩ ⟨c',s,e',_⟩
 rw[e]at e'
 simp[Lst.cv]at e')
theorem t36y{T:XCall}(h:Has T 36 R36y): (∀(c:X0a) (j:Nat) (B:List Int) (m:Nat) {p:Hp},c.Tokens.l.length<=1000000->c.Rules.l.length<=1000000->B.length=m->B≠[]->m<=140737488355328->(∀x∈B,0<=x/\x<=255)->p.t.get j=some (Wrow B)->T 36 [c.cv,.slc j [] 0 m] p=.ret (.tup [(readState c B).1.cv,I (readState c B).2]) p) /\
  ∀(c:X0a) {p:Hp},c.Tokens.l.length<=1000000->c.Rules.l.length<=1000000->T 36 [c.cv,Lst.cv Y8 ⟨.exact,[],nofun⟩] p=.ret (.tup [(readState c []).1.cv,I (readState c []).2]) p:=
 ⟨fun c j B m p h1 h2 hm h3 h4 h5 h6=>by subst hm;exact h _ _ _ (.inl ⟨c,j,B,rfl,h1,h2,h3,h4,h5,h6,rfl⟩),fun c p h1 h2=>h _ _ _ (.inr ⟨c,⟨.exact,[],nofun⟩,rfl,h1,h2,nofun,Nat.zero_le _,nofun,rfl⟩)⟩
def R43y: Rel:=fun args p r=>RFrz R43 args p r\/R43 args p r
theorem c43y: Con C 43 R43y:=con_or C (con_frz C c43) c43 (by
 rintro args p r r' ⟨a,j,sh,l,sz,e,_⟩ ⟨c,s,rfl,_⟩
 have:=congrArg List.getLast? e
 simp[Lst.cv]at this)
theorem t43y{T:XCall}(h:Has T 43 R43y): (∀(c:X0a) (j:Nat) (B:List Int) (m:Nat) {p:Hp},c.Tokens.l.length<=1000000->c.Rules.l.length<=1000000->B.length=m->m<=140737488355328->(∀x∈B,0<=x/\x<=255)->p.t.get j=some (Wrow B)->T 43 [c.cv,.slc j [] 0 m] p=.ret (.tup [(readState c B).1.cv,Bo (decide ((readState c B).2=0))]) (p.set j none)) /\
  ∀(c:X0a) {p:Hp},c.Tokens.l.length<=1000000->c.Rules.l.length<=1000000->T 43 [c.cv,Lst.cv Y8 ⟨.exact,[],nofun⟩] p=.ret (.tup [(readState c []).1.cv,Bo (decide ((readState c []).2=0))]) p:=
 ⟨fun c j B m p h1 h2 hm h4 h5 h6=>by
  subst hm
  exact h _ _ _ (.inl ⟨[c.cv],j,_,B.map Y8,1,by rw[List.length_map];rfl,h6,fun x hx=>by obtain⟨y,_,rfl⟩:=List.mem_map.1 hx;rfl,⟨c,partB B,rfl,h1,h2,nofun,h4,h5,rfl⟩⟩),fun c p h1 h2=>h _ _ _ (.inr ⟨c,⟨.exact,[],nofun⟩,rfl,h1,h2,nofun,Nat.zero_le _,nofun,rfl⟩)⟩
def K8(c:X0a)(T:V0a)(raw:Lst Int)(near:Bool)(ats:Lst Int)(w:Int)(p:Hp)(ρ:Env)(q:Hp): Prop:=
 ρ 5=raw.cv Y8/\ρ 6=Bo near/\ρ 7=Lst.cv I ats/\ρ 8=Y8 w/\∃a b,ρ 19=.ptr a []/\ρ 20=.ptr b []/\q.t.get a=some (.var sh61 c.cv)/\q.t.get b=some (.var sh66 T.cv)/\p.n<=a/\p.n<=b/\a<q.n/\b<q.n/\HpLe p q
def RowZ(p q:Hp)(z:CV)(B:List Int): Prop:=
 (z=Lst.cv Y8 ⟨.exact,[],nofun⟩/\B=[])\/∃j,z=.slc j [] 0 B.length/\B≠[]/\p.n<=j/\j<q.n/\q.t.get j=some (Wrow B)
def L8(c:X0a)(p:Hp)(ρ:Env)(q:Hp): Prop:=
 ∃a B,ρ 19=.ptr a []/\q.t.get a=some (.var sh61 c.cv)/\RowZ p q (ρ 25) B/\B.length<=140737488355328/\(∀x∈B,0<=x/\x<=255)/\p.n<=a/\a<q.n/\HpLe p q
def J8(c:X0a)(m:Nat)(ats:Lst Int)(w:Int)(p:Hp)(n:Nat)(ρ:Env)(q:Hp): Prop:=
 ∃(k:Nat) (B:List Int) (a j:Nat),n=2-k/\k<=2/\k<=ats.l.length/\B.length=m/\(∀x∈B,0<=x/\x<=255)/\ρ 7=Lst.cv I ats/\ρ 8=Y8 w/\ρ 19=.ptr a []/\ρ 25=.slc j [] 0 m/\ρ 26=I k/\q.t.get a=some (.var sh61 c.cv)/\q.t.get j=some (Wrow B)/\p.n<=a/\a<q.n/\p.n<=j/\j<q.n/\a≠j/\HpLe p q
def R8: Rel:=fun args p r=>∃(x:Y0a) (l:Lst (Lst Int)) (how at_ by_:Int) (raw:Lst Int) (near:Bool) (ats:Lst Int) (w:Int),args=[x.cv,Lst.cv (Lst.cv I) l,I how,I at_,I by_,raw.cv Y8,Bo near,Lst.cv I ats,Y8 w]/\(0<=w/\w<=255)/\(raw.l.length<=140737488355328)/\(∀x∈raw.l,0<=x/\x<=255)/\r=.ret (Bo true) p
theorem zdis8{P:Prop}(h:P:=by first|exact zdis|(simp only[Hp.bump_n,Hp.znew_n,Hp.zset_n,List.length_nil,List.length_cons,List.length_append,List.length_map,V0k];(first|done|omega))|(simp (disch:=first|exact zd1|(simp only[Hp.bump_n,Hp.znew_n,Hp.zset_n,List.length_nil,List.length_cons,List.length_append,List.length_map,V0k];(first|done|omega))) only[zheap,zx];(first|done|rfl))|fail): P:=h
theorem zq8{A B:Prop}(k:B)(h:A=B:=by have zy:=zA @zw8<|zA @rs8<|zA @tt3<|zA @tt4<|zA @tt5<|zA @tt9<|zA @tt24<|zA @tt34<|zA @tt57<|zA @tt61<|zA @tt63<|zA @tt64<|zA @tt66<|zA @tt68<|zA @tt69<|zA ti3.eq_1<|zA ti4.eq_1<|zA ti5.eq_1<|zA ti9.eq_1<|zA ti24.eq_1<|zA ti34.eq_1<|zA ti57.eq_1<|zA ti61.eq_1<|zA ti63.eq_1<|zA ti64.eq_1<|zA ti66.eq_1<|zA ti68.eq_1<|zA ti69.eq_1<|zA @t_31<|zA @t_32<|zA @t_33<|zA @t_34<|zA @t_36y<|zA @t_37<|zA @t_39<|zA @t_40<|zA @t_41<|zA @t_42x<|zA @t_43y<|zA @Q0v<|zA @Z0e<|zA @X0f<|zA @Q0f<|zA @zsl24<|zA @zsl63<|zA @zsl64<|zA @zsl68<|zA @ix68<|zA @a68<|zA @sa68<|zA @xor8_e<|zA @Wrow_e<|zA @sub68<|zA @tt5<|zA ti5.eq_1<|zA @X00<|zA @str_eq<|zA @V0k<|zA @hb<|zA @hw1<|@hw2;have zd:=@zdis8;exact zQd): A:=h▸k
theorem c8: Con C 8 R8:=by
 refine V0e C ?_ ?_ ?_
 ·rintro args p r r' ⟨x,l,how,at_,by_,raw,near,ats,w,h,hb,hw1,hw2,e⟩ ⟨x',l',how',at_',by_',raw',near',ats',w',h',hb',hw1',hw2',e'⟩
  subst e;subst e';simp_all[Y0a.inj_iff,X0a.inj_iff,V0a.inj_iff,Q0a.inj_iff,K0s,X0h,Y1g]
 ·rintro args p r ⟨x,l,how,at_,by_,raw,near,ats,w,h,hb,hw1,hw2,rfl⟩;exact zr1
 rintro args p r ⟨x,l,how,at_,by_,raw,near,ats,w,rfl,hb,hw1,hw2,rfl⟩
 refine zW C true [(31,R31),(32,R32),(33,R33),(34,R34),(36,R36y),(37,R37),(39,R39),(40,R40),(41,R41),(42,R42x),(43,R43y)] ⟨c31,c32,c33,c34,c36y,c37,c39,c40,c41,c42x,c43y,zT⟩ rfl xf8 zc8_ok fun call zh hF=>?_
 have t_31:=@t31 _ zh.1
 have t_32:=@t32 _ zh.2.1
 have t_33:=@t33 _ zh.2.2.1
 have t_34:=@t34 _ zh.2.2.2.1
 have t_36y:=@t36y _ zh.2.2.2.2.1
 have t_37:=@t37 _ zh.2.2.2.2.2.1
 have t_39:=@t39 _ zh.2.2.2.2.2.2.1
 have t_40:=@t40 _ zh.2.2.2.2.2.2.2.1
 have t_41:=@t41 _ zh.2.2.2.2.2.2.2.2.1
 have t_42x:=@t42x _ zh.2.2.2.2.2.2.2.2.2.1
 have t_43y:=@t43y _ zh.2.2.2.2.2.2.2.2.2.2.1
 clear zh
 have hl:=cfg_len x
 have hL:=cfg_legal x
 have hP:=(Z0i hL).1
 generalize hC:cfgOf x=c at hl hL hP
 obtain⟨hl1,hl2⟩:=hl
 generalize hSS:stateOf c l.l=S
 have main3:∀ρ q,L8 c p ρ q->W C true noExt call (ZC.seq Y1d (ZC.seq V1e (ZC.seq V1f ZC.ret))) ρ q (endQ C (xfOf Try.f8).rs fun r'=>ShrR p r' (.ret (Bo true) p)):=by
  rintro ρ q ⟨a,B,e19,g1,hz,hBl,hBb,hpa,han,hle⟩
  rcases hz with⟨ez,rfl⟩|⟨j,ez,hB0,hpj,hjq,g2⟩
  ·rcases Z1x c []with h|⟨t,h,hr,hl⟩
   ·have r1:(readState c []).1=V0a.zero:=by rw[h]
    have r2:(readState c []).2=2:=by rw[h]
    have hde:decide (V0a.zero=V0a.zero)=true:=decide_eq_true rfl
    (have zx:=zA e19 (zA ez (zA g1 (zA r1 (zA r2 hde))));refine zq8 ?_;try exact zT)
    repeat'(apply zK.s<;>intro hc<;>(try simp only[zhd]at hc)<;>(try have hw:=K0a hc)<;>(refine zq8 ?_;try exact zT))
    all_goals(try clear zx)
    exact K0d hF (fun k o h=>by have hd:=hF.dom k o h;have hq:=hle k o h;simp (disch:=first|exact zdl|fail) only[zheap];exact hq) (Q0c rfl (Z0c (by intro jj;simp[CV.has])))
   ·have r1:(readState c []).1=t:=by rw[h]
    have r2:(readState c []).2=0:=by rw[h]
    have hde:decide (t=t)=true:=decide_eq_true rfl
    (have zx:=zA e19 (zA ez (zA g1 (zA r1 (zA r2 hde))));refine zq8 ?_;try exact zT)
    repeat'(apply zK.s<;>intro hc<;>(try simp only[zhd]at hc)<;>(try have hw:=K0a hc)<;>(refine zq8 ?_;try exact zT))
    all_goals(try clear zx)
    exact K0d hF (fun k o h=>by have hd:=hF.dom k o h;have hq:=hle k o h;simp (disch:=first|exact zdl|fail) only[zheap];exact hq) (Q0c rfl (Z0c (by intro jj;simp[CV.has])))
  ·have t1:=fun p=>t_36y.1 c j B B.length (p:=p) hl1 hl2 rfl hB0 hBl hBb
   have t2:=fun p=>t_43y.1 c j B B.length (p:=p) hl1 hl2 rfl hBl hBb
   rcases Z1x c B with h|⟨t,h,hr,hl⟩
   ·have r1:(readState c B).1=V0a.zero:=by rw[h]
    have r2:(readState c B).2=2:=by rw[h]
    have hde:decide (V0a.zero=V0a.zero)=true:=decide_eq_true rfl
    (have zx:=zA e19 (zA ez (zA g1 (zA t1 (zA t2 (zA g2 (zA r1 (zA r2 hde)))))));refine zq8 ?_;try exact zT)
    repeat'(apply zK.s<;>intro hc<;>(try simp only[zhd]at hc)<;>(try have hw:=K0a hc)<;>(refine zq8 ?_;try exact zT))
    all_goals(try clear zx)
    exact K0d hF (fun k o h=>by have hd:=hF.dom k o h;have hq:=hle k o h;simp (disch:=first|exact zdl|fail) only[zheap];exact hq) (Q0c rfl (Z0c (by intro jj;simp[CV.has])))
   ·have r1:(readState c B).1=t:=by rw[h]
    have r2:(readState c B).2=0:=by rw[h]
    have hde:decide (t=t)=true:=decide_eq_true rfl
    (have zx:=zA e19 (zA ez (zA g1 (zA t1 (zA t2 (zA g2 (zA r1 (zA r2 hde)))))));refine zq8 ?_;try exact zT)
    repeat'(apply zK.s<;>intro hc<;>(try simp only[zhd]at hc)<;>(try have hw:=K0a hc)<;>(refine zq8 ?_;try exact zT))
    all_goals(try clear zx)
    exact K0d hF (fun k o h=>by have hd:=hF.dom k o h;have hq:=hle k o h;simp (disch:=first|exact zdl|fail) only[zheap];exact hq) (Q0c rfl (Z0c (by intro jj;simp[CV.has])))
 have hloop:∀(m:Nat),0<m->m<=400->∀Q:ZQ,(∀ρ q,L8 c p ρ q->Q (.exit 1) ρ q)->∀ρ q,J8 c m ats w p 2 ρ q->W C true noExt call (ZC.loop Z1d) ρ q Q:=by
  intro m hm0 hm4 Q hQ ρ q hJ
  refine Y0g C true noExt call Z1d _ _ _ (J8 c m ats w p) 2 hJ ?_
  clear hJ ρ q
  rintro n ρ q ⟨k,B,a,j,rfl,hk2,hkl,hBm,hBb,e7,e8,e19,e25,e26,g1,g2,hpa,haq,hpj,hjq,haj,hle⟩
  have hQ':∀ρ' q',ρ' 19=.ptr a []->ρ' 25=.slc j [] 0 m->q'=q->Q (.exit 1) ρ' q':=fun ρ' q' h1 h2 h3=>by
   subst h3
   exact hQ _ _ ⟨a,B,h1,g1,.inr ⟨j,by rw[h2,hBm],fun e=>by rw[e]at hBm;simp at hBm;omega,hpj,hjq,g2⟩,by omega,hBb,hpa,haq,hle⟩
  by_cases hlt:(k:Int)<ats.l.length
  ·by_cases h2:(k:Int)<2
   ·have hpk:=V0g (n:=nth ats.l k) (m:=(m:Int)) (by omega)
    have hne:¬(m:Int)=0:=by omega
    have hkn:(pick (nth ats.l k) (m:Int)).toNat<m:=by omega
    have g2':q.t.get j=some (.var (.n (List.replicate m .s)) (.agg (B.map Y8))):=by rw[g2,Wrow_e,hBm]
    (have zx:=zA e7 (zA e8 (zA e19 (zA e25 (zA e26 (zA g1 (zA g2' (zA hlt (zA h2 (zA hne hkn)))))))));refine zq8 ?_;try exact zT)
    repeat'(apply zK.s<;>intro hc<;>(try simp only[zhd]at hc)<;>(try have hw:=K0a hc)<;>(refine zq8 ?_;try exact zT))
    all_goals(try clear zx)
    refine⟨2-(k+1),by omega,k+1,turned B (pick (nth ats.l k) (m:Int)).toNat w,a,j,rfl,by omega,by omega,by rw[turned,List.length_set];exact hBm,turned_byte hBb _ _,zev,zev,zev,zev,zev,zg9,?_,hpa,zdl,hpj,zdl,haj,fun k o h=>by have hd:=hF.dom k o h;have hq:=hle k o h;simp (disch:=first|exact zdl|fail) only[zheap];exact hq⟩
    rw[Wrow_e,turned,List.length_set,hBm];simp (disch:=first|exact zdl|fail) only[zheap]
   ·(have zx:=zA e7 (zA e8 (zA e19 (zA e25 (zA e26 (zA g1 (zA g2 (zA hlt h2)))))));refine zq8 ?_;try exact zT)
    repeat'(apply zK.s<;>intro hc<;>(try simp only[zhd]at hc)<;>(try have hw:=K0a hc)<;>(refine zq8 ?_;try exact zT))
    all_goals(try clear zx)
    exact hQ' _ _ (zev) (zev) rfl
  ·(have zx:=zA e7 (zA e8 (zA e19 (zA e25 (zA e26 (zA g1 (zA g2 hlt))))));refine zq8 ?_;try exact zT)
   repeat'(apply zK.s<;>intro hc<;>(try simp only[zhd]at hc)<;>(try have hw:=K0a hc)<;>(refine zq8 ?_;try exact zT))
   all_goals(try clear zx)
   exact hQ' _ _ (zev) (zev) rfl
 have main2:∀T ρ q,K8 c T raw near ats w p ρ q->W C true noExt call (ZC.seq K1v (ZC.seq V1y (ZC.seq (ZC.seq Y1v (ZC.cond (Tm 96) (ZC.seq X1y ZC.ret) ZC.skip)) (ZC.seq X1x (ZC.seq (ZC.seq Z1u (ZC.cond (Tm 104) (ZC.seq Q1z (ZC.seq V1x (ZC.block 1 (ZC.loop Z1d)))) ZC.skip)) (ZC.seq Y1d (ZC.seq V1e (ZC.seq V1f ZC.ret)))))))) ρ q (endQ C (xfOf Try.f8).rs fun r'=>ShrR p r' (.ret (Bo true) p)):=by
  rintro T ρ q ⟨e5,e6,e7,e8,a,b,e19,e20,g1,g2,hpa,hpb,haq,hbq,hle⟩
  show W C true noExt call (ZC.seq K1v (ZC.seq V1y (ZC.seq (ZC.seq Y1v (ZC.cond (Tm 96) (ZC.seq X1y ZC.ret) ZC.skip)) (ZC.seq X1x (ZC.seq (ZC.seq Z1u (ZC.cond (Tm 104) (ZC.seq Q1z (ZC.seq V1x (ZC.block 1 (ZC.loop Z1d)))) ZC.skip)) (ZC.seq Y1d (ZC.seq V1e (ZC.seq V1f ZC.ret)))))))) _ _ _
  obtain⟨R,hRR⟩:∃R,R=(ZC.seq Y1d (ZC.seq V1e (ZC.seq V1f ZC.ret))):=⟨_,rfl⟩
  rw[<- hRR]at main3 ⊢
  have b1:inB (layS c T):=X05 c T
  cases hR:stateRight c T with
  |true=>
   have lS:=V1o hR
   have hsl:=Z1m hR
   cases near with
   |false=>
    by_cases h0:raw.l=[]
    ·(have zx:=zA e5 (zA e6 (zA e7 (zA e8 (zA e19 (zA e20 (zA g1 (zA g2 (zA hR h0))))))));refine zq8 ?_;try exact zT)
     repeat'(apply zK.s<;>intro hc<;>(try simp only[zhd]at hc)<;>(try have hw:=K0a hc)<;>(refine zq8 ?_;try exact zT))
     all_goals(try clear zx)
     exact main3 _ _ ⟨a,[],zev,(zg9),.inl ⟨zev,rfl⟩,by simp,nofun,hpa,zdl,(fun k o h=>by have hd:=hF.dom k o h;have hq:=hle k o h;first|exact hq|(simp (disch:=first|exact zdl|fail) only[zheap];exact hq))⟩
    ·(have zx:=zA e5 (zA e6 (zA e7 (zA e8 (zA e19 (zA e20 (zA g1 (zA g2 (zA hR h0))))))));refine zq8 ?_;try exact zT)
     repeat'(apply zK.s<;>intro hc<;>(try simp only[zhd]at hc)<;>(try have hw:=K0a hc)<;>(refine zq8 ?_;try exact zT))
     all_goals(try clear zx)
     exact main3 _ _ ⟨a,raw.l,zev,(zg9),.inr ⟨q.n+28,zev,h0,by omega,zdl,by simp (disch:=first|exact zdl|fail) only[zheap];rfl⟩,hw1,hw2,hpa,zdl,(fun k o h=>by have hd:=hF.dom k o h;have hq:=hle k o h;first|exact hq|(simp (disch:=first|exact zdl|fail) only[zheap];exact hq))⟩
   |true=>
    have hbl:(layS c T).length=((stateBits c T).length+7)/8:=by unfold layS;rw[V0i]
    have hl0:0<(layS c T).length:=by omega
    have hbn:¬layS c T=[]:=fun e=>by rw[e]at hl0;simp at hl0
    by_cases h0:raw.l=[]
    ·(have zx:=zA e5 (zA e6 (zA e7 (zA e8 (zA e19 (zA e20 (zA g1 (zA g2 (zA hR (zA h0 hbn)))))))));refine zq8 ?_;try exact zT)
     repeat'(apply zK.s<;>intro hc<;>(try simp only[zhd]at hc)<;>(try have hw:=K0a hc)<;>(refine zq8 ?_;try exact zT))
     all_goals(try clear zx)
     refine hloop _ (by omega) lS _ (fun ρ q h=>main3 ρ q h) _ _ ⟨0,layS c T,a,q.n+28,rfl,by omega,by omega,rfl,b1,zev,zev,zev,zev,zev,zg9,by simp (disch:=first|exact zdl|fail) only[zheap];rfl,hpa,zdl,by omega,zdl,by omega,(fun k o h=>by have hd:=hF.dom k o h;have hq:=hle k o h;first|exact hq|(simp (disch:=first|exact zdl|fail) only[zheap];exact hq))⟩
    ·(have zx:=zA e5 (zA e6 (zA e7 (zA e8 (zA e19 (zA e20 (zA g1 (zA g2 (zA hR (zA h0 hbn)))))))));refine zq8 ?_;try exact zT)
     repeat'(apply zK.s<;>intro hc<;>(try simp only[zhd]at hc)<;>(try have hw:=K0a hc)<;>(refine zq8 ?_;try exact zT))
     all_goals(try clear zx)
     refine hloop _ (by omega) lS _ (fun ρ q h=>main3 ρ q h) _ _ ⟨0,layS c T,a,q.n+28+1,rfl,by omega,by omega,rfl,b1,zev,zev,zev,zev,zev,zg9,by simp (disch:=first|exact zdl|fail) only[zheap];rfl,hpa,zdl,by omega,zdl,by omega,(fun k o h=>by have hd:=hF.dom k o h;have hq:=hle k o h;first|exact hq|(simp (disch:=first|exact zdl|fail) only[zheap];exact hq))⟩
  |false=>
   cases near with
   |false=>
    by_cases h0:raw.l=[]
    ·(have zx:=zA e5 (zA e6 (zA e7 (zA e8 (zA e19 (zA e20 (zA g1 (zA g2 (zA hR h0))))))));refine zq8 ?_;try exact zT)
     repeat'(apply zK.s<;>intro hc<;>(try simp only[zhd]at hc)<;>(try have hw:=K0a hc)<;>(refine zq8 ?_;try exact zT))
     all_goals(try clear zx)
     exact main3 _ _ ⟨a,[],zev,(zg9),.inl ⟨zev,rfl⟩,by simp,nofun,hpa,zdl,(fun k o h=>by have hd:=hF.dom k o h;have hq:=hle k o h;first|exact hq|(simp (disch:=first|exact zdl|fail) only[zheap];exact hq))⟩
    ·(have zx:=zA e5 (zA e6 (zA e7 (zA e8 (zA e19 (zA e20 (zA g1 (zA g2 (zA hR h0))))))));refine zq8 ?_;try exact zT)
     repeat'(apply zK.s<;>intro hc<;>(try simp only[zhd]at hc)<;>(try have hw:=K0a hc)<;>(refine zq8 ?_;try exact zT))
     all_goals(try clear zx)
     exact main3 _ _ ⟨a,raw.l,zev,(zg9),.inr ⟨q.n+28,zev,h0,by omega,zdl,by simp (disch:=first|exact zdl|fail) only[zheap];rfl⟩,hw1,hw2,hpa,zdl,(fun k o h=>by have hd:=hF.dom k o h;have hq:=hle k o h;first|exact hq|(simp (disch:=first|exact zdl|fail) only[zheap];exact hq))⟩
   |true=>
    by_cases h0:raw.l=[]
    ·(have zx:=zA e5 (zA e6 (zA e7 (zA e8 (zA e19 (zA e20 (zA g1 (zA g2 (zA hR h0))))))));refine zq8 ?_;try exact zT)
     repeat'(apply zK.s<;>intro hc<;>(try simp only[zhd]at hc)<;>(try have hw:=K0a hc)<;>(refine zq8 ?_;try exact zT))
     all_goals(try clear zx)
     exact main3 _ _ ⟨a,[],zev,(zg9),.inl ⟨zev,rfl⟩,by simp,nofun,hpa,zdl,(fun k o h=>by have hd:=hF.dom k o h;have hq:=hle k o h;first|exact hq|(simp (disch:=first|exact zdl|fail) only[zheap];exact hq))⟩
    ·(have zx:=zA e5 (zA e6 (zA e7 (zA e8 (zA e19 (zA e20 (zA g1 (zA g2 (zA hR h0))))))));refine zq8 ?_;try exact zT)
     repeat'(apply zK.s<;>intro hc<;>(try simp only[zhd]at hc)<;>(try have hw:=K0a hc)<;>(refine zq8 ?_;try exact zT))
     all_goals(try clear zx)
     exact main3 _ _ ⟨a,raw.l,zev,(zg9),.inr ⟨q.n+28,zev,h0,by omega,zdl,by simp (disch:=first|exact zdl|fail) only[zheap];rfl⟩,hw1,hw2,hpa,zdl,(fun k o h=>by have hd:=hF.dom k o h;have hq:=hle k o h;first|exact hq|(simp (disch:=first|exact zdl|fail) only[zheap];exact hq))⟩
 show W C true noExt call (ZC.seq zn8_1 (ZC.seq zn8_3 (ZC.seq zn8_5 (ZC.seq (ZC.seq zn8_8 (ZC.block 0 (ZC.seq zn8_11 (ZC.cond (Tm 38) zn8_13 (ZC.seq zn8_15 (ZC.cond (Tm 46) zn8_17 (ZC.seq zn8_19 (ZC.cond (Tm 53) zn8_21 ZC.skip)))))))) (ZC.seq K1v (ZC.seq V1y (ZC.seq (ZC.seq Y1v (ZC.cond (Tm 96) (ZC.seq X1y ZC.ret) ZC.skip)) (ZC.seq X1x (ZC.seq (ZC.seq Z1u (ZC.cond (Tm 104) (ZC.seq Q1z (ZC.seq V1x (ZC.block 1 (ZC.loop Z1d)))) ZC.skip)) (ZC.seq Y1d (ZC.seq V1e (ZC.seq V1f ZC.ret)))))))))))) _ _ _
 obtain⟨R,hRR⟩:∃R,R=(ZC.seq K1v (ZC.seq V1y (ZC.seq (ZC.seq Y1v (ZC.cond (Tm 96) (ZC.seq X1y ZC.ret) ZC.skip)) (ZC.seq X1x (ZC.seq (ZC.seq Z1u (ZC.cond (Tm 104) (ZC.seq Q1z (ZC.seq V1x (ZC.block 1 (ZC.loop Z1d)))) ZC.skip)) (ZC.seq Y1d (ZC.seq V1e (ZC.seq V1f ZC.ret)))))))):=⟨_,rfl⟩
 rw[<- hRR]at main2 ⊢
 clear hRR main3 hloop
 have hk:=V0g (n:=how) (m:=12) (by omega)
 have hh:pick how 12=0\/pick how 12=1\/pick how 12=2\/(¬pick how 12=0/\¬pick how 12=1/\¬pick how 12=2):=by omega
 rcases hh with h0|h0|h0|⟨h0,h1,h2⟩
 ·have hka:=V0g (n:=at_) (m:=16) (by omega)
  obtain⟨k,hk⟩:∃k:Nat,pick at_ 16=k:=⟨(pick at_ 16).toNat,by omega⟩
  have hk16:k<16:=by omega
  (have zx:=zA hC (zA hSS (zA h0 (zA hk hk16)));refine zq8 ?_;try exact zT)
  repeat'(apply zK.s<;>intro hc<;>(try simp only[zhd]at hc)<;>(try have hw:=K0a hc)<;>(refine zq8 ?_;try exact zT))
  all_goals(try clear zx)
  exact main2 _ _ _ ⟨by simp[put_at,K0c,K0e,Z0k],by simp[put_at,K0c,K0e,Z0k],by simp[put_at,K0c,K0e,Z0k],by simp[put_at,K0c,K0e,Z0k],p.n+1,p.n+2,zev,zev,zg9,by simp (disch:=first|exact zdl|fail) only[zheap]<;>rfl,by omega,by omega,zdl,zdl,(fun k o h=>by have hd:=hF.dom k o h;simp (disch:=first|exact zdl|fail) only[zheap];exact h)⟩
 ·have hka:=V0g (n:=at_) (m:=8) (by omega)
  obtain⟨k,hk⟩:∃k:Nat,pick at_ 8=k:=⟨(pick at_ 8).toNat,by omega⟩
  have hk16:k<8:=by omega
  (have zx:=zA hC (zA hSS (zA h0 (zA hk hk16)));refine zq8 ?_;try exact zT)
  repeat'(apply zK.s<;>intro hc<;>(try simp only[zhd]at hc)<;>(try have hw:=K0a hc)<;>(refine zq8 ?_;try exact zT))
  all_goals(try clear zx)
  exact main2 _ _ _ ⟨by simp[put_at,K0c,K0e,Z0k],by simp[put_at,K0c,K0e,Z0k],by simp[put_at,K0c,K0e,Z0k],by simp[put_at,K0c,K0e,Z0k],p.n+1,p.n+2,zev,zev,zg9,by simp (disch:=first|exact zdl|fail) only[zheap]<;>rfl,by omega,by omega,zdl,zdl,(fun k o h=>by have hd:=hF.dom k o h;simp (disch:=first|exact zdl|fail) only[zheap];exact h)⟩
 ·(have zx:=zA hC (zA hSS h0);refine zq8 ?_;try exact zT)
  repeat'(apply zK.s<;>intro hc<;>(try simp only[zhd]at hc)<;>(try have hw:=K0a hc)<;>(refine zq8 ?_;try exact zT))
  all_goals(try clear zx)
  exact main2 _ _ _ ⟨by simp[put_at,K0c,K0e,Z0k],by simp[put_at,K0c,K0e,Z0k],by simp[put_at,K0c,K0e,Z0k],by simp[put_at,K0c,K0e,Z0k],p.n+1,p.n+2,zev,zev,zg9,by simp (disch:=first|exact zdl|fail) only[zheap]<;>rfl,by omega,by omega,zdl,zdl,(fun k o h=>by have hd:=hF.dom k o h;simp (disch:=first|exact zdl|fail) only[zheap];exact h)⟩
 ·(have zx:=zA hC (zA hSS (zA h0 (zA h1 h2)));refine zq8 ?_;try exact zT)
  repeat'(apply zK.s<;>intro hc<;>(try simp only[zhd]at hc)<;>(try have hw:=K0a hc)<;>(refine zq8 ?_;try exact zT))
  all_goals(try clear zx)
  exact main2 _ _ _ ⟨by simp[put_at,K0c,K0e,Z0k],by simp[put_at,K0c,K0e,Z0k],by simp[put_at,K0c,K0e,Z0k],by simp[put_at,K0c,K0e,Z0k],p.n+1,p.n+2,zev,zev,zg9,by simp (disch:=first|exact zdl|fail) only[zheap]<;>rfl,by omega,by omega,zdl,zdl,(fun k o h=>by have hd:=hF.dom k o h;simp (disch:=first|exact zdl|fail) only[zheap];exact h)⟩
end Go.Proofs.Ytpchcfkebljopaa
end
section
namespace Go.Proofs.Ytpchcfkebljopaa
open Go.Cl Go Go.ChangeShapes Go.WideShapes Go.ChangeAt Go.RowKit
set_option maxRecDepth 100000
set_option linter.constructorNameAsVariable false
theorem a58{n:Nat}{v:CV}(h:Ty2 Try.prog (n+3) 58 v): ∃s:Lst (Lst Int),v=s.cv (Lst.cv I)/\(s.tl=.view\/s.tl=.nil):=Z1g Try.underlying58 (fun _ h=>let⟨i,e,_⟩:=a24 h;⟨i,e⟩) h
theorem a57{n:Nat}{v:CV}(h:Ty2 Try.prog (n+4) 57 v): ∃x:Y0a,v=x.cv/\inI x.Players:=by
 obtain⟨l,rfl,hs⟩:=of_struct Try.underlying57 h
 replace h:=hs
 obtain⟨v0,l0,rfl,h0,h⟩:=Y0m h
 obtain⟨v1,l1,rfl,h1,h⟩:=Y0m h
 obtain⟨v2,l2,rfl,h2,h⟩:=Y0m h
 obtain⟨v3,l3,rfl,h3,h⟩:=Y0m h
 obtain⟨v4,l4,rfl,h4,h⟩:=Y0m h
 obtain⟨v5,l5,rfl,h5,h⟩:=Y0m h
 obtain⟨v6,l6,rfl,h6,h⟩:=Y0m h
 obtain⟨v7,l7,rfl,h7,h⟩:=Y0m h
 obtain rfl:=all2_nil h
 obtain⟨x0,rfl,w0⟩:=a3 (n:=n+2) h0
 obtain⟨x1,rfl,_⟩:=a3 (n:=n+2) h1
 obtain⟨x2,rfl,_⟩:=a3 (n:=n+2) h2
 obtain⟨x3,rfl,_⟩:=a3 (n:=n+2) h3
 obtain⟨x4,rfl,_⟩:=a3 (n:=n+2) h4
 obtain⟨x5,rfl,_⟩:=a3 (n:=n+2) h5
 obtain⟨x6,rfl,_⟩:=a3 (n:=n+2) h6
 obtain⟨x7,rfl,_⟩:=a22 (n:=n) h7
 exact⟨⟨x0,x1,x2,x3,x4,x5,x6,x7⟩,rfl,w0⟩
theorem of_bool{P:Program}{n:Nat}{t:TypeId}{v:CV}(hu:P.underlying t=some .bool)(h:Ty2 P (n+1) t v): ∃b,v=Bo b:=by
 simp only[Ty2,hu]at h
 exact h
end Go.Proofs.Ytpchcfkebljopaa
end
section
namespace Go.Proofs.Ytpchcfkebljopaa
open Go.Cl Go Go.RowKit
set_option maxRecDepth 100000
set_option linter.constructorNameAsVariable false
theorem of_u8{P:Program}{n:Nat}{t:TypeId}{v:CV}(hu:P.underlying t=some (.int .u8))(h:Ty2 P (n+1) t v): ∃i,v=Y8 i/\(0<=i/\i<=255):=by
 simp only[Ty2,hu]at h
 obtain⟨i,rfl,hw⟩:=h
 simp only[Lit.wf,Bool.and_eq_true,decide_eq_true_eq]at hw
 exact⟨i,rfl,hw⟩
theorem a5{n:Nat}{v:CV}(h:Ty2 Try.prog (n+1) 5 v): ∃i,v=Y8 i/\(0<=i/\i<=255):=of_u8 Try.underlying5 h
end Go.Proofs.Ytpchcfkebljopaa
end
section
namespace Go.Cl
open Go.RowKit Go.ChangeShapes Go.WideShapes Go.ChangeAt
variable {H:Type} {enc:TypeId×Value->H} {P:Program} {w:World} {base:Nat} {held:Bool}
theorem arg_len{t e:TypeId}{v:Value}{d:DataW H}{ps:List MemPlace}{tl:Tail}{l:List CV}(hu:P.underlying t=some (.slice e))(hc:VR (S0 w) (.lst tl l) v)
  (h:DataW.Trod enc P w base (fun _=>true) held t v d ps):l=[]\/∃elems sp,d=.slice elems sp/\elems.length=l.length:=by
 obtain⟨fuel,hf⟩:=h
 obtain⟨hc,_⟩:=hc
 simp only[FR]at hc
 rcases hc with⟨h1,_⟩|⟨b,o,cap,sz,es,h1,_⟩
 ·exact .inl h1
 ·right
  rw[h1]at hf
  cases fuel with
  |zero=>simp[DataW.trod]at hf
  |succ n=>
   simp only[DataW.trod,hu]at hf
   split at hf
   ·rw[Option.bind_eq_some_iff]at hf
    obtain⟨xs,hx,hr⟩:=hf
    simp only[if_true,Option.map_eq_some_iff]at hr
    obtain⟨rs,_,e1⟩:=hr
    have:=mapM_some_length hx
    simp only[Prod.mk.injEq]at e1
    exact⟨_,_,e1.1.symm,by simpa using this⟩
   ·cases hf
end Go.Cl
end
section
namespace Go.Proofs.Ytpchcfkebljopaa
open Go.Cl Go Go.RowKit
set_option maxRecDepth 100000
set_option linter.constructorNameAsVariable false
theorem a4{n:Nat}{v:CV}(h:Ty2 Try.prog (n+1) 4 v): ∃b,v=Bo b:=of_bool Try.underlying4 h
theorem y68{n:Nat}{v:CV}(h:Ty2 Try.prog (n+2) 68 v): ∃s:Lst Int,v=s.cv Y8/\∀x∈s.l,0<=x/\x<=255:=by
 obtain⟨s,rfl,_⟩:=Z1g (f:=Y8) Try.underlying68 (fun _ h=>let⟨i,e,_⟩:=a5 h;⟨i,e⟩) h
 refine⟨s,rfl,fun x hx=>?_⟩
 simp only[Ty2,Try.underlying68]at h
 obtain⟨tl,l,e,hl,_⟩:=h
 simp only[Lst.cv,CV.lst.injEq]at e
 obtain⟨i,ei,hi⟩:=a5 (n:=n) (hl (Y8 x) (by rw[<- e.2];exact List.mem_map_of_mem hx))
 simp only[Y8,CV.sc.injEq,Value.int.injEq,true_and]at ei
 rw[ei];exact hi
end Go.Proofs.Ytpchcfkebljopaa
end
