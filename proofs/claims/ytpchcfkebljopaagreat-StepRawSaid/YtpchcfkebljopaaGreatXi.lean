import Derived.Test.YtpchcfkebljopaaGreatXh
set_option linter.unusedSimpArgs false
set_option linter.unusedVariables false
set_option linter.constructorNameAsVariable false
set_option linter.defProp false
set_option maxHeartbeats 8000000
section
namespace Go.Proofs.YtpchcfkebljopaaGreat
open Go.Cl Go Go.RowKit
set_option maxRecDepth 100000
set_option linter.constructorNameAsVariable false
def J31(x:V0a)(p:Hp)(n:Nat)(ρ:Env)(q:Hp): Prop:=
 ∃(k:Nat) (tk:Lst Int),n=(cfgP x).toNat-k/\k<=(cfgP x).toNat/\ρ 1=.ptr p.n []/\ρ 2=.ptr (p.n+1) []/\ρ 3=.ptr (p.n+1+1+22) []/\ρ 4=I k/\q.t.get p.n=some (.var sh57 x.cv)/\q.t.get (p.n+1)=some (.var sh61 K0a.zero.cv)/\q.t.get (p.n+1+1+22)=some (.var sh61 (cfgWith x tk).cv)/\tk.l=cfgTok x k/\(tk.tl=.nil\/∃j,tk.tl=.own j/\p.n+1+1+22<j/\j<q.n/\q.t.get j=some (.tail tk.l.length)/\0<tk.l.length)/\p.n+1+1+22<q.n/\HpLe p q
def R31: Rel:=fun args p r=>∃(x:V0a),args=[x.cv]/\r=.ret (cfgOf x).cv p
theorem t31{T:XCall}(h:Has T 4 R31)(x:V0a){p:Hp}:T 4 [x.cv] p=.ret (cfgOf x).cv p:=h _ _ _ ⟨x,rfl,rfl⟩
theorem zq31{A B:Prop}(k:B)(h:A=B:=by have zy:=zA @zw31<|zA @rs31<|zA @tt3<|zA @tt22<|zA @tt23<|zA @tt24<|zA @tt57<|zA @tt59<|zA @tt61<|zA ti3.eq_1<|zA ti22.eq_1<|zA ti23.eq_1<|zA ti24.eq_1<|zA ti57.eq_1<|zA ti59.eq_1<|zA ti61.eq_1<|zA @t_37<|zA @t_86<|zA @Q0t<|zA @X0e<|zA @zsl22<|zA @zsl23<|@zsl24;exact zQf): A:=h▸k
theorem zge31{P:Prop}(h:P:=by simp (disch:=first|exact zdl|fail) only[zheap];first|done|rfl): P:=h
theorem c31: Con C 4 R31:=by
 refine K0e C ?_ ?_ ?_
 ·rintro args p r r' ⟨x,h,e⟩ ⟨x',h',e'⟩
  subst e;subst e';simp_all[V0a.inj_iff,K0a.inj_iff,Z1q,V0i,X0p,Z1q]
 ·rintro args p r ⟨x,h,rfl⟩;exact zr1
 ·rintro args p r ⟨x,rfl,rfl⟩
  refine zW C false [(6,R37),(17,R86)] ⟨c37,c86,zT⟩ rfl xf31 zc31_ok fun call zh hF=>?_
  have t_37:=@t37 _ zh.1
  have t_86:=@t86 _ zh.2.1
  clear zh
  have p1:=Z0e (n:=x.Period) (m:=3) (by omega)
  have p2:=Z0e (n:=x.Frames) (m:=90) (by omega)
  have p3:=Z0e (n:=x.Players) (m:=4) (by omega)
  have p4:=Z0e (n:=w64 (x.Players.tdiv 11)) (m:=8) (by omega)
  have p5:=Z0e (n:=x.Rate) (m:=9) (by omega)
  have p6:=Z0e (n:=w64 (x.Rate.tdiv 9)) (m:=40) (by omega)
  have p7:=Z0e (n:=w64 (x.Seed.tdiv 3)) (m:=1000000) (by omega)
  have r1:=(rate_ok p5).1
  have r2:=(dept_ok p6).1
  have r3:=(dept_ok p6).2.1
  simp only[w64]at p4 p6 p7 r2 r3
  have hP:=K05 x
  have hPn:(((cfgP x).toNat:Nat):Int)=cfgP x:=by omega
  suffices hloop:∀(ρ:Env) (q:Hp),ρ 1=.ptr p.n []->ρ 2=.ptr (p.n+1) []->ρ 3=.ptr (p.n+1+1+22) []->ρ 4=I 0->q.t.get p.n=some (.var sh57 x.cv)->q.t.get (p.n+1)=some (.var sh61 K0a.zero.cv)->q.t.get (p.n+1+1+22)=some (.var sh61 (cfgWith x ⟨.nil,[],fun _=>rfl⟩).cv)->p.n+1+1+22<q.n->HpLe p q->W C false noExt call (ZC.loop K1c) ρ q (blkQ 0 (seqQ (W C false noExt call zn31_35) (endQ C [ResultVar.cell 2 31] fun r'=>ShrR p r' (XRes.ret (cfgOf x).cv p)))) by
   by_cases h11:x.Players.tmod 11=10
   ·have hcp:cfgP x=1+pick (w64 (x.Players.tdiv 11)) 8:=by simp[cfgP,h11]
    by_cases h3:0<x.Rate.tmod 3
    ·have hcr:cfgRate x=4613937818241073152:=by simp[cfgRate,h3]
     have hcd:cfgDepth x=4632233691727265792:=by simp[cfgDepth,h3]
     (have zx:=zA h11 (zA h3 (zA r1 (zA r2 r3)));refine zq31 ?_;try exact zT)
     repeat'(apply zK.s<;>intro hc<;>(try simp only[zhd]at hc)<;>(try have hw:=X0a hc)<;>(refine zq31 ?_;try exact zT))
     all_goals(try clear zx)
     refine hloop _ _ (by simp[put_at,Q0d,Z0d]) (by simp[put_at,Q0d,Z0d]) (by simp[put_at,Q0d,Z0d]) (by simp[put_at,Q0d,Z0d]) zge31 zge31 ?_ (zb9) zle
     simp (disch:=first|exact zdl|fail) only[zheap]
     simp only[cfgWith,hcp,hcr,hcd]
    ·have hcr:cfgRate x=rateF (pick x.Rate 9):=by simp[cfgRate,h3]
     have hcd:cfgDepth x=deptF (pick (w64 (x.Rate.tdiv 9)) 40):=by simp[cfgDepth,h3]
     (have zx:=zA h11 (zA h3 (zA r1 (zA r2 r3)));refine zq31 ?_;try exact zT)
     repeat'(apply zK.s<;>intro hc<;>(try simp only[zhd]at hc)<;>(try have hw:=X0a hc)<;>(refine zq31 ?_;try exact zT))
     all_goals(try clear zx)
     refine hloop _ _ (by simp[put_at,Q0d,Z0d]) (by simp[put_at,Q0d,Z0d]) (by simp[put_at,Q0d,Z0d]) (by simp[put_at,Q0d,Z0d]) zge31 zge31 ?_ (zb9) zle
     simp (disch:=first|exact zdl|fail) only[zheap]
     simp only[cfgWith,hcp,hcr,hcd]
   ·have hcp:cfgP x=1+pick x.Players 4:=by simp[cfgP,h11]
    by_cases h3:0<x.Rate.tmod 3
    ·have hcr:cfgRate x=4613937818241073152:=by simp[cfgRate,h3]
     have hcd:cfgDepth x=4632233691727265792:=by simp[cfgDepth,h3]
     (have zx:=zA h11 (zA h3 (zA r1 (zA r2 r3)));refine zq31 ?_;try exact zT)
     repeat'(apply zK.s<;>intro hc<;>(try simp only[zhd]at hc)<;>(try have hw:=X0a hc)<;>(refine zq31 ?_;try exact zT))
     all_goals(try clear zx)
     refine hloop _ _ (by simp[put_at,Q0d,Z0d]) (by simp[put_at,Q0d,Z0d]) (by simp[put_at,Q0d,Z0d]) (by simp[put_at,Q0d,Z0d]) zge31 zge31 ?_ (zb9) zle
     simp (disch:=first|exact zdl|fail) only[zheap]
     simp only[cfgWith,hcp,hcr,hcd]
    ·have hcr:cfgRate x=rateF (pick x.Rate 9):=by simp[cfgRate,h3]
     have hcd:cfgDepth x=deptF (pick (w64 (x.Rate.tdiv 9)) 40):=by simp[cfgDepth,h3]
     (have zx:=zA h11 (zA h3 (zA r1 (zA r2 r3)));refine zq31 ?_;try exact zT)
     repeat'(apply zK.s<;>intro hc<;>(try simp only[zhd]at hc)<;>(try have hw:=X0a hc)<;>(refine zq31 ?_;try exact zT))
     all_goals(try clear zx)
     refine hloop _ _ (by simp[put_at,Q0d,Z0d]) (by simp[put_at,Q0d,Z0d]) (by simp[put_at,Q0d,Z0d]) (by simp[put_at,Q0d,Z0d]) zge31 zge31 ?_ (zb9) zle
     simp (disch:=first|exact zdl|fail) only[zheap]
     simp only[cfgWith,hcp,hcr,hcd]
  intro ρ q e1 e2 e3 e4 g1 g2 g3 hn hle
  (show W C false noExt call (ZC.loop K1c) _ _ _);refine Q0i C false noExt call K1c _ _ _ (J31 x p) (cfgP x).toNat ⟨0,⟨.nil,[],fun _=>rfl⟩,rfl,by omega,e1,e2,e3,e4,g1,g2,g3,rfl,.inl rfl,hn,hle⟩ ?_
  clear e1 e2 e3 e4 g1 g2 g3 hn hle
  rintro n ρ q ⟨k,⟨tl,al,ao⟩,rfl,hk,e1,e2,e3,e4,g1,g2,g3,hal,happ,hn,hle⟩
  have hln:al.length=k:=by simp only at hal;rw[hal,Y03]
  by_cases hlt:(k:Int)<cfgP x
  ·have hpl:(cfgWith x ⟨tl,al,ao⟩).Players=cfgP x:=rfl
   have htk:(cfgWith x ⟨tl,al,ao⟩).Tokens=⟨tl,al,ao⟩:=rfl
   rcases happ with ht|⟨j,ht,hj1,hj2,g4,hj4⟩
   ·simp only at ht
    subst ht
    (have zx:=zA e1 (zA e2 (zA e3 (zA e4 (zA g1 (zA g2 (zA g3 (zA hlt (zA hpl htk))))))));refine zq31 ?_;try exact zT)
    repeat'(apply zK.s<;>intro hc<;>(try simp only[zhd]at hc)<;>(try have hw:=X0a hc)<;>(refine zq31 ?_;try exact zT))
    all_goals(try clear zx)
    exact⟨(cfgP x).toNat-(k+1),by omega,k+1,⟨.own (q.n+13),al++[tokAt x k],nofun⟩,rfl,by omega,zev,zev,zev,zev,zg9,zg9,zg9,by simp only at hal;rw[hal,Z1d],.inr ⟨q.n+13,rfl,by omega,zb9,by simp (disch:=first|exact zdl|fail) only[zheap,List.length_append,List.length_cons,List.length_nil],by simp⟩,zb9,zlq⟩
   ·simp only at ht g4 hj4
    subst ht
    (have zx:=zA e1 (zA e2 (zA e3 (zA e4 (zA g1 (zA g2 (zA g3 (zA hlt (zA g4 (zA hpl htk)))))))));refine zq31 ?_;try exact zT)
    repeat'(apply zK.s<;>intro hc<;>(try simp only[zhd]at hc)<;>(try have hw:=X0a hc)<;>(refine zq31 ?_;try exact zT))
    all_goals(try clear zx)
    exact⟨(cfgP x).toNat-(k+1),by omega,k+1,⟨.own (q.n+13),al++[tokAt x k],nofun⟩,rfl,by omega,zev,zev,zev,zev,zg9,zg9,zg9,by simp only at hal;rw[hal,Z1d],.inr ⟨q.n+13,rfl,by omega,zb9,by simp (disch:=first|exact zdl|fail) only[zheap,List.length_append,List.length_cons,List.length_nil],by simp⟩,zb9,zlq⟩
  ·have hpl:(cfgWith x ⟨tl,al,ao⟩).Players=cfgP x:=rfl
   have hk2:k=(cfgP x).toNat:=by omega
   (have zx:=zA e1 (zA e2 (zA e3 (zA e4 (zA g1 (zA g2 (zA g3 (zA hlt hpl)))))));refine zq31 ?_;try exact zT)
   repeat'(apply zK.s<;>intro hc<;>(try simp only[zhd]at hc)<;>(try have hw:=X0a hc)<;>(refine zq31 ?_;try exact zT))
   all_goals(try clear zx)
   refine K0d hF zlq ?_
   have hw:=weak_cfg x ⟨tl,al,ao⟩ p.n (happ.imp id fun⟨j,h1,_,_,_,h5⟩=>⟨⟨j,h1⟩,h5⟩)
   simp only at hal
   subst hk2
   subst hal
   exact hw
end Go.Proofs.YtpchcfkebljopaaGreat
end
section
namespace Go.Proofs.YtpchcfkebljopaaGreat
open Go.Cl Go Go.RowKit
set_option maxRecDepth 100000
def zn32_1:=ZC.reg [zu 2 (.box 31 (Tm 0)),zv 4 (.alloc 40)]
def zn32_3:=ZC.draw 9 [] [zdd 0 5 (zld 31 2) false [] [2,6] false,zdd 1 6 (zld 31 2) false [] [] false,zdd 2 7 (zcf 14 [Tm 6] [31]) false [] [] true,zdd 3 8 (zfa 31 2 0) false [2] [] false,zdd 4 9 (zld 3 8) false [2] [] false,zdd 5 10 (zmv 1) true [] [] false,zdd 6 11 (zcf 19 [Tm 9,Tm 10] [3,25]) true [] [] false,zdd 7 12 (zcf 18 [Tm 5,Tm 7,Tm 11] [31,40,54]) true [] [] false,zd0 8 (.store 40 (Tm 4) (Tm 12)) true [] [] false]
def zn32_2:=ZC.seq zn32_3 ZC.ret
def zn32_0:=ZC.seq zn32_1 zn32_2
def zc32: ZC:=zn32_0
theorem zc32_ok: zcode (xfOf Tryz.f5).code=some zc32:=by kernel_rfl
def zw32:=zU C zc32.eq_1<|zU C zn32_1.eq_1<|zU C zn32_3.eq_1<|zU C zn32_2.eq_1<|(zunf C zn32_0.eq_1)
theorem rs32: (xfOf Tryz.f5).rs=[.cell 4 40]:=by kernel_rfl
theorem xf32: XFok C 5 (xfOf Tryz.f5):=by refine⟨Tryz.f5,?_,?_,?_,?_,?_,?_,?_⟩<;>kernel_rfl
end Go.Proofs.YtpchcfkebljopaaGreat
end
section
namespace Go.Proofs.YtpchcfkebljopaaGreat
open Go.Cl Go Go.RowKit
theorem K0r{n lo hi:Int}(h:lo<=n/\n<=hi): within n lo hi=true:=by simp[within,h.1,h.2]
theorem tokGo_map(f:Nat->Int)(hf:∀i j,f i=f j->i=j)(hw:∀i,i<9->within (f i) 0 2147483646=true): ∀(m k:Nat),k+m<=9->tokGo ((List.range k).map f) ((List.range' k m).map f)=true
 |0,k,_=>rfl
 |m+1,k,h=>by
  simp only[List.range'_succ,List.map_cons,tokGo,Bool.and_eq_true]
  refine⟨⟨hw k (by omega),?_⟩,?_⟩
  ·simp only[Bool.not_eq_true',List.contains_eq_mem,decide_eq_false_iff_not,List.mem_map,List.mem_range,not_exists,not_and]
   intro i hi e
   have:=hf _ _ e
   omega
  ·have:=tokGo_map f hf hw m (k+1) (by omega)
   rwa [List.range_succ,List.map_append]at this
theorem cfg_legal(x:V0a): legalC (cfgOf x)=true:=by
 have hP:=K05 x
 have p1:=Z0e (n:=x.Period) (m:=3) (by omega)
 have p2:=Z0e (n:=x.Grace) (m:=8) (by omega)
 have p3:=Z0e (n:=x.Start) (m:=6) (by omega)
 have p4:=Z0e (n:=x.Frames) (m:=90) (by omega)
 have p5:=Z0e (n:=x.Seed) (m:=2147483648) (by omega)
 have p6:=Z0e (n:=x.Rate) (m:=9) (by omega)
 have p7:=Z0e (n:=w64 (x.Rate.tdiv 9)) (m:=40) (by omega)
 have p8:=Z0e (n:=w64 (x.Seed.tdiv 3)) (m:=1000000) (by omega)
 have hb:bucketOk (cfgRate x) (cfgDepth x)=true:=by
  unfold cfgRate cfgDepth
  by_cases h:0<x.Rate.tmod 3
  ·rw[if_pos h,if_pos h];exact Z1b (by kernel_rfl) (by kernel_rfl)
  ·rw[if_neg h,if_neg h];exact Z1b (rate_ok p6).2 (dept_ok p7).2.2
 have ht:tokGo [] (cfgTok x (cfgP x).toNat)=true:=by
  have:=tokGo_map (tokAt x) (fun i j h=>by simp only[tokAt]at h;omega) (fun i hi=>K0r (by simp only[tokAt];omega)) (cfgP x).toNat 0 (by omega)
  simpa[cfgTok,List.range_eq_range']using this
 have hr:=K1u x.Rules.l
 have hlen:decide (((cfgTok x (cfgP x).toNat).length:Int)=cfgP x)=true:=by rw[Y03];simp;omega
 simp only[legalC,cfgOf,cfgWith,Bool.and_eq_true,partL_l]
 exact⟨⟨⟨⟨⟨K0r hP,⟨⟨⟨K0r (by omega),K0r (by omega)⟩,K0r (by omega)⟩,K0r (by omega)⟩⟩,K0r (by omega)⟩,hb⟩,hr⟩,ht,hlen⟩
theorem cfg_len(x:V0a): (cfgOf x).Tokens.l.length<=1000000/\(cfgOf x).Rules.l.length<=1000000:=by
 have hP:=K05 x
 simp only[cfgOf,cfgWith,partL_l,Y03]
 refine⟨by omega,?_⟩
 simp[rulesOf];omega
theorem rowsOf_len(players:Int)(l:List (Lst Int)): (rowsOf players l).length<=40:=by simp[rowsOf];omega
def stateOf(c:K0a)(l:List (Lst Int)): Y0a:=gameFold c ((rowsOf c.Players l).map Lst.l) (firstS c)
end Go.Proofs.YtpchcfkebljopaaGreat
end
section
namespace Go.Proofs.YtpchcfkebljopaaGreat
open Go.Cl Go Go.RowKit
set_option maxRecDepth 100000
set_option linter.constructorNameAsVariable false
def J87(c:K0a)(s:Y0a)(rows:Lst (Lst Q0b))(p:Hp)(n:Nat)(ρ:Env)(q:Hp): Prop:=
 ∃(k:Nat) (st:Y0a),n=rows.l.length-k/\k<=rows.l.length/\ρ 2=rows.cv (Lst.cv Q0b.cv)/\ρ 3=.ptr p.n []/\ρ 4=.ptr (p.n+1) []/\ρ 6=.ptr (p.n+2) []/\ρ 7=I k/\q.t.get p.n=some (.var sh61 c.cv)/\q.t.get (p.n+1)=some (.var sh66 st.cv)/\q.t.get (p.n+2)=some (.var sh66 Y0a.zero.cv)/\gameFold c ((rows.l.drop k).map Lst.l) st=gameFold c (rows.l.map Lst.l) s/\p.n+2<q.n/\HpLe p q
def R87: Rel:=fun args p r=>∃(c:K0a) (s:Y0a) (rows:Lst (Lst Q0b)),args=[c.cv,s.cv,rows.cv (Lst.cv Q0b.cv)]/\(c.Tokens.l.length<=1000000)/\(c.Rules.l.length<=1000000)/\(rows.l.length<=1000000)/\r=.ret (gameFold c (rows.l.map Lst.l) s).cv p
theorem t87{T:XCall}(h:Has T 18 R87)(c:K0a)(s:Y0a)(rows:Lst (Lst Q0b)){p:Hp}(hl:c.Tokens.l.length<=1000000)(hr:c.Rules.l.length<=1000000)(hn0:rows.l.length<=1000000): T 18 [c.cv,s.cv,rows.cv (Lst.cv Q0b.cv)] p=.ret (gameFold c (rows.l.map Lst.l) s).cv p:=h _ _ _ ⟨c,s,rows,rfl,hl,hr,hn0,rfl⟩
theorem zq87{A B:Prop}(k:B)(h:A=B:=by have zy:=zA @zw87<|zA @rs87<|zA @tt3<|zA @tt61<|zA @tt66<|zA @tt92<|zA @tt108<|zA ti3.eq_1<|zA ti61.eq_1<|zA ti66.eq_1<|zA ti92.eq_1<|zA ti108.eq_1<|zA @t_67<|zA @X0e<|zA @Q0f<|zA @zsl92<|zA @zsl108<|zA @hl<|zA @hr<|@hn0;exact zQ): A:=h▸k
theorem zno87{P:Prop}(h:P:=by intro jj;simp[CV.has,CV.hasL,fault,Z0b.nohas,Y0a.nohas]): P:=h
theorem zge87{P:Prop}(h:P:=by simp (disch:=first|exact zdl|fail) only[zheap];first|done|rfl): P:=h
theorem c87: Con C 18 R87:=by
 refine K0e C ?_ ?_ ?_
 ·rintro args p r r' ⟨c,s,rows,h,hl,hr,hn0,e⟩ ⟨c',s',rows',h',hl',hr',hn0',e'⟩
  subst e;subst e';simp_all[K0a.inj_iff,Y0a.inj_iff,X10,Y0o,X10]
 ·rintro args p r ⟨c,s,rows,h,hl,hr,hn0,rfl⟩;exact zr1
 ·rintro args p r ⟨c,s,rows,rfl,hl,hr,hn0,rfl⟩
  refine zW C false [(16,R67)] ⟨c67,zT⟩ rfl xf87 zc87_ok fun call zh hF=>?_
  have t_67:=@t67 _ zh.1
  clear zh
  (have zx:=zT;refine zq87 ?_;try exact zT)
  repeat'(apply zK.s<;>intro hc<;>(try simp only[zhd]at hc)<;>(try have hw:=X0a hc)<;>(refine zq87 ?_;try exact zT))
  all_goals(try clear zx)
  (show W C false noExt call (ZC.loop zn87_7) _ _ _);refine Q0i C false noExt call zn87_7 _ _ _ (J87 c s rows p) rows.l.length ⟨0,s,rfl,by omega,by simp[put_at,Q0d,Z0d,X0l],(by simp[put_at,Q0d,Z0d]),(by simp[put_at,Q0d,Z0d]),(by simp[put_at,Q0d,Z0d]),(by simp[put_at,Q0d,Z0d]),zge87,zge87,zge87,rfl,(zb9),zle⟩ ?_
  rintro n ρ q ⟨k,st,rfl,hk,e2,e3,e4,e6,e7,g1,g2,g3,hj,hn,hle⟩
  by_cases hlt:(k:Int)<rows.l.length
  ·rw[Z0r (l:=rows.l) (k:=k) (by omega)]at hj
   (have zx:=zA e2 (zA e3 (zA e4 (zA e6 (zA e7 (zA g1 (zA g2 (zA g3 hlt)))))));refine zq87 ?_;try exact zT)
   repeat'(apply zK.s<;>intro hc<;>(try simp only[zhd]at hc)<;>(try have hw:=X0a hc)<;>(refine zq87 ?_;try exact zT))
   all_goals(try clear zx)
   exact⟨rows.l.length-(k+1),by omega,k+1,stepS c (nth rows.l k).l st,rfl,by omega,zev,zev,zev,zev,zev,zg9,zg9,zg9,hj,zb9,zlq⟩
  ·have hk8:k=rows.l.length:=by omega
   subst hk8
   rw[List.drop_eq_nil_of_le (Nat.le_refl _)]at hj
   have hj:st=gameFold c (rows.l.map Lst.l) s:=hj
   (have zx:=zA e2 (zA e3 (zA e4 (zA e6 (zA e7 (zA g1 (zA g2 (zA g3 hlt)))))));refine zq87 ?_;try exact zT)
   repeat'(apply zK.s<;>intro hc<;>(try simp only[zhd]at hc)<;>(try have hw:=X0a hc)<;>(refine zq87 ?_;try exact zT))
   all_goals(try clear zx)
   refine K0d hF zlq (Y0c ?_ (Z0c zno87))
   rw[hj]
def R32: Rel:=fun args p r=>∃(c:K0a) (l:Lst (Lst Int)),args=[c.cv,Lst.cv (Lst.cv I) l]/\(c.Tokens.l.length<=1000000)/\(c.Rules.l.length<=1000000)/\(1<=c.Players/\c.Players<=100)/\r=.ret (stateOf c l.l).cv p
theorem t32{T:XCall}(h:Has T 5 R32)(c:K0a)(l:Lst (Lst Int)){p:Hp}(hl:c.Tokens.l.length<=1000000)(hr:c.Rules.l.length<=1000000)(hp:1<=c.Players/\c.Players<=100): T 5 [c.cv,Lst.cv (Lst.cv I) l] p=.ret (stateOf c l.l).cv p:=h _ _ _ ⟨c,l,rfl,hl,hr,hp,rfl⟩
theorem zq32{A B:Prop}(k:B)(h:A=B:=by have zy:=zA @zw32<|zA @rs32<|zA @tt3<|zA @tt61<|zA @tt66<|zA ti3.eq_1<|zA ti61.eq_1<|zA ti66.eq_1<|zA @t_61<|zA @t_66<|zA @t_87<|zA @X0e<|zA @Q0f<|zA @ownL_nil<|zA @ownL_cons<|zA @ownH_nil<|zA @ownH_cons<|zA @hl<|zA @hr<|@hp;exact zQ): A:=h▸k
theorem zno32{P:Prop}(h:P:=by intro jj;simp[CV.has,CV.hasL,fault,Z0b.nohas,Y0a.nohas]): P:=h
theorem c32: Con C 5 R32:=by
 refine K0e C ?_ ?_ ?_
 ·rintro args p r r' ⟨c,l,h,hl,hr,hp,e⟩ ⟨c',l',h',hl',hr',hp',e'⟩
  subst e;subst e';simp_all[K0a.inj_iff,Y0a.inj_iff,K1t]
 ·rintro args p r ⟨c,l,h,hl,hr,hp,rfl⟩;exact zr1
 ·rintro args p r ⟨c,l,rfl,hl,hr,hp,rfl⟩
  refine zW C false [(19,R61),(14,R66),(18,R87)] ⟨c61,c66,c87,zT⟩ rfl xf32 zc32_ok fun call zh hF=>?_
  have t_61:=@t61 _ zh.1
  have t_66:=@t66 _ zh.2.1
  have t_87:=@t87 _ zh.2.2.1
  clear zh
  have hrl:=rowsOf_len c.Players l.l
  have hst:stateOf c l.l=gameFold c ((rowsOf c.Players l.l).map Lst.l) (firstS c):=rfl
  generalize hR:rowsOf c.Players l.l=R at hrl hst
  cases R with
  |nil=>
   (have zx:=hR;refine zq32 ?_;try exact zT)
   repeat'(apply zK.s<;>intro hc<;>(try simp only[zhd]at hc)<;>(try have hw:=X0a hc)<;>(refine zq32 ?_;try exact zT))
   all_goals(try clear zx)
   rw[hst]
   exact K0d hF zle (Y0c rfl (Z0c zno32))
  |cons r R=>
   have hrr:R.length<=39:=by simpa using hrl
   (have zx:=hR;refine zq32 ?_;try exact zT)
   repeat'(apply zK.s<;>intro hc<;>(try simp only[zhd]at hc)<;>(try have hw:=X0a hc)<;>(refine zq32 ?_;try exact zT))
   all_goals(try clear zx)
   rw[hst]
   exact K0d hF zle (Y0c rfl (Z0c zno32))
theorem bld4(a0 a1 a2 a3 a4:Int): qbuild C 36 [(0,I a0),(1,I a1),(2,I a2),(3,I a3),(4,I a4)]=some (({Kind:=a0,Owner:=a1,X:=a2,Y:=a3,VX:=a4,VY:=0,Age:=0,Mem:=(List.replicate 4 0),hMem:=List.length_replicate,Faults:=0}:Q0a).cv):=Y0f C tt34 (by simp only[partsOk,setAll,CV.shape,sh34,List.all_cons,List.all_nil,List.getElem?_cons_zero,List.getElem?_cons_succ,Bool.and_true,decide_true]) rfl
def R1003: Rel:=fun args p r=>∃(x:V0a) (l:Lst (Lst Int)) (how at_ by_:Int) (row:Lst Q0b) (f:Nat),args=[x.cv,Lst.cv (Lst.cv I) l,I how,I at_,I by_,row.cv Q0b.cv,Fl f]/\r=.ret (Bo true) p
theorem zq1003{A B:Prop}(k:B)(h:A=B:=by have zy:=zA @zw1003<|zA @rs1003<|zA @tt3<|zA @tt4<|zA @tt57<|zA @tt59<|zA @tt23<|zA @tt24<|zA @tt61<|zA @tt34<|zA @tt63<|zA @tt64<|zA @tt66<|zA @tt29<|zA ti3.eq_1<|zA ti4.eq_1<|zA ti57.eq_1<|zA ti59.eq_1<|zA ti23.eq_1<|zA ti24.eq_1<|zA ti61.eq_1<|zA ti34.eq_1<|zA ti63.eq_1<|zA ti64.eq_1<|zA ti66.eq_1<|zA ti29.eq_1<|zA @t_31<|zA @t_32<|zA @t_37<|zA @t_1007<|zA @t_59<|zA @t_60<|zA @t_97<|zA @t_44<|zA @t_38<|zA @t_58<|zA @t_66<|zA @t_62<|zA @t_67<|zA @Q0t<|zA @X0e<|zA @Q0f<|zA @Q0e<|zA @Q0m<|zA @K0i<|zA @zsl23<|zA @zsl24<|zA @zsl63<|@zsl64;exact zQ): A:=h▸k
theorem c1003: Con C 3 R1003:=by
 refine K0e C ?_ ?_ ?_
 ·rintro args p r r' ⟨x,l,how,at_,by_,row,f,h,e⟩ ⟨x',l',how',at_',by_',row',f',h',e'⟩
  subst e;subst e';simp_all[V0a.inj_iff,K0a.inj_iff,Y0a.inj_iff,Q0a.inj_iff,Q0b.inj_iff,K0c.inj_iff,V0i,X0p,Y0o]
 ·rintro args p r ⟨x,l,how,at_,by_,row,f,h,rfl⟩;exact zr1
 ·rintro args p r ⟨x,l,how,at_,by_,row,f,rfl,rfl⟩
  refine zW C false [(4,R31),(5,R32),(6,R37),(7,R1007),(8,R59),(9,R60),(10,R97),(11,R44),(12,R38),(13,R58),(14,R66),(15,R62),(16,R67)] ⟨c31,c32,c37,c1007,c59,c60,c97,c44,c38,c58,c66,c62,c67,zT⟩ rfl xf1003 zc1003_ok fun call zh hF=>?_
  have t_31:=@t31 _ zh.1
  have t_32:=@t32 _ zh.2.1
  have t_37:=@t37 _ zh.2.2.1
  have t_1007:=@t1007 _ zh.2.2.2.1
  have t_59:=@t59 _ zh.2.2.2.2.1
  have t_60:=@t60 _ zh.2.2.2.2.2.1
  have t_97:=@t97 _ zh.2.2.2.2.2.2.1
  have t_44:=@t44 _ zh.2.2.2.2.2.2.2.1
  have t_38:=@t38 _ zh.2.2.2.2.2.2.2.2.1
  have t_58:=@t58 _ zh.2.2.2.2.2.2.2.2.2.1
  have t_66:=@t66 _ zh.2.2.2.2.2.2.2.2.2.2.1
  have t_62:=@t62 _ zh.2.2.2.2.2.2.2.2.2.2.2.1
  have t_67:=@t67 _ zh.2.2.2.2.2.2.2.2.2.2.2.2.1
  clear zh
  have hl:=cfg_len x
  have hL:=cfg_legal x
  have hP:=(Z0k hL).1
  generalize hC:cfgOf x=c at hl hL hP
  have hT:¬c.Tokens.l=[]:=fun e=>by
   simp only[legalC,Bool.and_eq_true,decide_eq_true_eq]at hL
   have:=hL.2.2
   rw[e]at this;simp at this;omega
  obtain⟨hl1,hl2⟩:=hl
  have hT1:c.Tokens.l.length<=999999:=by
   simp only[legalC,Bool.and_eq_true,decide_eq_true_eq]at hL
   have:=hL.2.2
   omega
  have hR1:=(Z0k hL).2
  have hb1:¬ [by_]=[]:=by simp
  have hb2:¬ [(⟨by_,at_,how⟩:K0c)]=[]:=by simp
  have hka8:=Z0e (n:=at_) (m:=8) (by omega)
  obtain⟨k8,hk8⟩:∃k:Nat,pick at_ 8=k:=⟨(pick at_ 8).toNat,by omega⟩
  have hk88:k8<8:=by omega
  generalize hSS:stateOf c l.l=S
  have hka:=Z0e (n:=at_) (m:=16) (by omega)
  obtain⟨k,hk⟩:∃k:Nat,pick at_ 16=k:=⟨(pick at_ 16).toNat,by omega⟩
  have hk16:k<16:=by omega
  have hkh:=Z0e (n:=how) (m:=24) (by omega)
  generalize hH:pick how 24=h at hkh
  have main:∀(c:K0a) (s:Y0a) (ρ:Env) (q:Hp),c.Tokens.l.length<=1000000->c.Rules.l.length<=1000000->ρ 15=.ptr (p.n+1) []->ρ 16=.ptr (p.n+2) []->ρ 5=row.cv Q0b.cv->q.t.get (p.n+1)=some (.var sh61 c.cv)->q.t.get (p.n+2)=some (.var sh66 s.cv)->HpLe p q->W C false noExt call X0v ρ q (endQ C (xfOf Tryz.f3).rs fun r'=>ShrR p r' (.ret (Bo true) p)):=by
   intro c s ρ q h1 h2 e15 e16 e5 g1 g2 hle
   have d1:decide (legalC c=legalC c)=true:=decide_eq_true rfl
   have d2:decide (stateRight c s=stateRight c s)=true:=decide_eq_true rfl
   have d3:decide (firstS c=firstS c)=true:=decide_eq_true rfl
   have d4:decide (stepS c row.l s=stepS c row.l s)=true:=decide_eq_true rfl
   (have zx:=zA e15 (zA e16 (zA e5 (zA g1 (zA g2 (zA h1 (zA h2 (zA d1 (zA d2 (zA d3 d4)))))))));refine zq1003 ?_;try exact zT)
   repeat'(apply zK.s<;>intro hc<;>(try simp only[zhd]at hc)<;>(try have hw:=X0a hc)<;>(refine zq1003 ?_;try exact zT))
   all_goals(try clear zx)
   exact K0d hF zlq (Y0c rfl (Z0c (by intro jj;simp[CV.has])))
  obtain⟨R,hRR⟩:∃R,R=X0v:=⟨_,rfl⟩
  rw[<- hRR]at main
  show W C false noExt call (ZC.seq Z1u (ZC.seq Q1z (ZC.seq K10 (ZC.seq V1z (ZC.seq Z1w X0v))))) _ _ _
  rw[<- hRR]
  clear hRR
  rcases(by omega:h=0\/h=1\/h=2\/h=3\/h=4\/h=5\/h=6\/h=7\/h=8\/h=9\/h=10\/h=11\/h=12\/h=13\/h=14\/h=15\/h=16\/17<=h)with h0|h0|h0|h0|h0|h0|h0|h0|h0|h0|h0|h0|h0|h0|h0|h0|h0|h0
  ·subst h0
   (have zx:=zA hC (zA hSS (zA hH (zA hk hk16)));refine zq1003 ?_;try exact zT)
   repeat'(apply zK.s<;>intro hc<;>(try simp only[zhd]at hc)<;>(try have hw:=X0a hc)<;>(refine zq1003 ?_;try exact zT))
   all_goals(try clear zx)
   exact main {c with Players:=by_} S _ _ hl1 hl2 (zev) (zev) (by simp[put_at,Q0d,Z0d,X0l]) (zg9) (by change Cl.T.get _ (p.n+1+1)=_;simp (disch:=first|exact zdl|fail) only[zheap]) (fun k o h=>by have hd:=hF.dom k o h;simp (disch:=first|exact zdl|fail) only[zheap];exact h)
  ·subst h0
   (have zx:=zA hC (zA hSS (zA hH (zA hk hk16)));refine zq1003 ?_;try exact zT)
   repeat'(apply zK.s<;>intro hc<;>(try simp only[zhd]at hc)<;>(try have hw:=X0a hc)<;>(refine zq1003 ?_;try exact zT))
   all_goals(try clear zx)
   exact main {c with Period:=by_} S _ _ hl1 hl2 (zev) (zev) (by simp[put_at,Q0d,Z0d,X0l]) (zg9) (by change Cl.T.get _ (p.n+1+1)=_;simp (disch:=first|exact zdl|fail) only[zheap]) (fun k o h=>by have hd:=hF.dom k o h;simp (disch:=first|exact zdl|fail) only[zheap];exact h)
  ·subst h0
   (have zx:=zA hC (zA hSS (zA hH (zA hk hk16)));refine zq1003 ?_;try exact zT)
   repeat'(apply zK.s<;>intro hc<;>(try simp only[zhd]at hc)<;>(try have hw:=X0a hc)<;>(refine zq1003 ?_;try exact zT))
   all_goals(try clear zx)
   exact main {c with Grace:=by_} S _ _ hl1 hl2 (zev) (zev) (by simp[put_at,Q0d,Z0d,X0l]) (zg9) (by change Cl.T.get _ (p.n+1+1)=_;simp (disch:=first|exact zdl|fail) only[zheap]) (fun k o h=>by have hd:=hF.dom k o h;simp (disch:=first|exact zdl|fail) only[zheap];exact h)
  ·subst h0
   (have zx:=zA hC (zA hSS (zA hH (zA hk hk16)));refine zq1003 ?_;try exact zT)
   repeat'(apply zK.s<;>intro hc<;>(try simp only[zhd]at hc)<;>(try have hw:=X0a hc)<;>(refine zq1003 ?_;try exact zT))
   all_goals(try clear zx)
   exact main {c with Frames:=by_} S _ _ hl1 hl2 (zev) (zev) (by simp[put_at,Q0d,Z0d,X0l]) (zg9) (by change Cl.T.get _ (p.n+1+1)=_;simp (disch:=first|exact zdl|fail) only[zheap]) (fun k o h=>by have hd:=hF.dom k o h;simp (disch:=first|exact zdl|fail) only[zheap];exact h)
  ·subst h0
   (have zx:=zA hC (zA hSS (zA hH (zA hk hk16)));refine zq1003 ?_;try exact zT)
   repeat'(apply zK.s<;>intro hc<;>(try simp only[zhd]at hc)<;>(try have hw:=X0a hc)<;>(refine zq1003 ?_;try exact zT))
   all_goals(try clear zx)
   exact main {c with Seed:=by_} S _ _ hl1 hl2 (zev) (zev) (by simp[put_at,Q0d,Z0d,X0l]) (zg9) (by change Cl.T.get _ (p.n+1+1)=_;simp (disch:=first|exact zdl|fail) only[zheap]) (fun k o h=>by have hd:=hF.dom k o h;simp (disch:=first|exact zdl|fail) only[zheap];exact h)
  ·subst h0
   (have zx:=zA hC (zA hSS (zA hH (zA hk hk16)));refine zq1003 ?_;try exact zT)
   repeat'(apply zK.s<;>intro hc<;>(try simp only[zhd]at hc)<;>(try have hw:=X0a hc)<;>(refine zq1003 ?_;try exact zT))
   all_goals(try clear zx)
   exact main {c with Rate:=floatOf by_ f} S _ _ hl1 hl2 (zev) (zev) (by simp[put_at,Q0d,Z0d,X0l]) (zg9) (by change Cl.T.get _ (p.n+1+1)=_;simp (disch:=first|exact zdl|fail) only[zheap]) (fun k o h=>by have hd:=hF.dom k o h;simp (disch:=first|exact zdl|fail) only[zheap];exact h)
  ·subst h0
   (have zx:=zA hC (zA hSS (zA hH (zA hk hk16)));refine zq1003 ?_;try exact zT)
   repeat'(apply zK.s<;>intro hc<;>(try simp only[zhd]at hc)<;>(try have hw:=X0a hc)<;>(refine zq1003 ?_;try exact zT))
   all_goals(try clear zx)
   exact main {c with Depth:=floatOf by_ f} S _ _ hl1 hl2 (zev) (zev) (by simp[put_at,Q0d,Z0d,X0l]) (zg9) (by change Cl.T.get _ (p.n+1+1)=_;simp (disch:=first|exact zdl|fail) only[zheap]) (fun k o h=>by have hd:=hF.dom k o h;simp (disch:=first|exact zdl|fail) only[zheap];exact h)
  ·subst h0
   have hz:=Nat.zero_add c.Tokens.l.length
   have hp:=List.length_pos_iff.2 hT
   (have zx:=zA hC (zA hSS (zA hH (zA hk (zA hk16 (zA hT (zA hb1 (zA hz hp)))))));refine zq1003 ?_;try exact zT)
   repeat'(apply zK.s<;>intro hc<;>(try simp only[zhd]at hc)<;>(try have hw:=X0a hc)<;>(refine zq1003 ?_;try exact zT))
   all_goals(try clear zx)
   all_goals try exact absurd hc hb1
   all_goals try exact absurd ⟨Nat.zero_add _,List.length_pos_iff.2 hT⟩ hc
   exact main {c with Tokens:=⟨.own (p.n+1+1+1+1),c.Tokens.l++[by_],nofun⟩} S _ _ (by show(c.Tokens.l++[by_]).length<=_;rw[List.length_append];simp;omega) hl2 (zev) (zev) (by simp[put_at,Q0d,Z0d,X0l]) (zg9) (by change Cl.T.get _ (p.n+1+1)=_;simp (disch:=first|exact zdl|fail) only[zheap]) (fun k o h=>by have hd:=hF.dom k o h;simp (disch:=first|exact zdl|fail) only[zheap];exact h)
  ·subst h0
   by_cases hR0:c.Rules.l=[]
   ·(have zx:=zA hC (zA hSS (zA hH (zA hk (zA hk16 (zA hR0 hb2)))));refine zq1003 ?_;try exact zT)
    repeat'(apply zK.s<;>intro hc<;>(try simp only[zhd]at hc)<;>(try have hw:=X0a hc)<;>(refine zq1003 ?_;try exact zT))
    all_goals(try clear zx)
    exact main {c with Rules:=⟨.own (p.n+1+1+1),[⟨by_,at_,how⟩],nofun⟩} S _ _ hl1 (by show 1<=1000000;omega) (zev) (zev) (by simp[put_at,Q0d,Z0d,X0l]) (zg9) (by change Cl.T.get _ (p.n+1+1)=_;simp (disch:=first|exact zdl|fail) only[zheap]) (fun k o h=>by have hd:=hF.dom k o h;simp (disch:=first|exact zdl|fail) only[zheap];exact h)
   ·have hz:=Nat.zero_add c.Rules.l.length
    have hp:=List.length_pos_iff.2 hR0
    (have zx:=zA hC (zA hSS (zA hH (zA hk (zA hk16 (zA hR0 (zA hb2 (zA hz hp)))))));refine zq1003 ?_;try exact zT)
    repeat'(apply zK.s<;>intro hc<;>(try simp only[zhd]at hc)<;>(try have hw:=X0a hc)<;>(refine zq1003 ?_;try exact zT))
    all_goals(try clear zx)
    all_goals try exact absurd hc hb2
    all_goals try exact absurd ⟨Nat.zero_add _,List.length_pos_iff.2 hR0⟩ hc
    exact main {c with Rules:=⟨.own (p.n+1+1+1+1),c.Rules.l++[⟨by_,at_,how⟩],nofun⟩} S _ _ hl1 (by show(c.Rules.l++[_]).length<=_;rw[List.length_append];simp;omega) (zev) (zev) (by simp[put_at,Q0d,Z0d,X0l]) (zg9) (by change Cl.T.get _ (p.n+1+1)=_;simp (disch:=first|exact zdl|fail) only[zheap]) (fun k o h=>by have hd:=hF.dom k o h;simp (disch:=first|exact zdl|fail) only[zheap];exact h)
  ·subst h0
   (have zx:=zA hC (zA hSS (zA hH (zA hk hk16)));refine zq1003 ?_;try exact zT)
   repeat'(apply zK.s<;>intro hc<;>(try simp only[zhd]at hc)<;>(try have hw:=X0a hc)<;>(refine zq1003 ?_;try exact zT))
   all_goals(try clear zx)
   exact main {c with Start:=by_} S _ _ hl1 hl2 (zev) (zev) (by simp[put_at,Q0d,Z0d,X0l]) (zg9) (by change Cl.T.get _ (p.n+1+1)=_;simp (disch:=first|exact zdl|fail) only[zheap]) (fun k o h=>by have hd:=hF.dom k o h;simp (disch:=first|exact zdl|fail) only[zheap];exact h)
  ·subst h0
   (have zx:=zA hC (zA hSS (zA hH (zA hk hk16)));refine zq1003 ?_;try exact zT)
   repeat'(apply zK.s<;>intro hc<;>(try simp only[zhd]at hc)<;>(try have hw:=X0a hc)<;>(refine zq1003 ?_;try exact zT))
   all_goals(try clear zx)
   exact main c (S.put_2k k {nth S.Bodies k with Kind:=pick by_ 4}) _ _ hl1 hl2 (zev) (zev) (by simp[put_at,Q0d,Z0d,X0l]) (zg9) (by change Cl.T.get _ (p.n+1+1)=_;simp (disch:=first|exact zdl|fail) only[zheap]) (fun k o h=>by have hd:=hF.dom k o h;simp (disch:=first|exact zdl|fail) only[zheap];exact h)
  ·subst h0
   (have zx:=zA hC (zA hSS (zA hH (zA hk hk16)));refine zq1003 ?_;try exact zT)
   repeat'(apply zK.s<;>intro hc<;>(try simp only[zhd]at hc)<;>(try have hw:=X0a hc)<;>(refine zq1003 ?_;try exact zT))
   all_goals(try clear zx)
   exact main c (S.put_2k k {nth S.Bodies k with Owner:=by_}) _ _ hl1 hl2 (zev) (zev) (by simp[put_at,Q0d,Z0d,X0l]) (zg9) (by change Cl.T.get _ (p.n+1+1)=_;simp (disch:=first|exact zdl|fail) only[zheap]) (fun k o h=>by have hd:=hF.dom k o h;simp (disch:=first|exact zdl|fail) only[zheap];exact h)
  ·subst h0
   (have zx:=zA hC (zA hSS (zA hH (zA hk hk16)));refine zq1003 ?_;try exact zT)
   repeat'(apply zK.s<;>intro hc<;>(try simp only[zhd]at hc)<;>(try have hw:=X0a hc)<;>(refine zq1003 ?_;try exact zT))
   all_goals(try clear zx)
   exact main c (S.put_2k k {nth S.Bodies k with X:=by_}) _ _ hl1 hl2 (zev) (zev) (by simp[put_at,Q0d,Z0d,X0l]) (zg9) (by change Cl.T.get _ (p.n+1+1)=_;simp (disch:=first|exact zdl|fail) only[zheap]) (fun k o h=>by have hd:=hF.dom k o h;simp (disch:=first|exact zdl|fail) only[zheap];exact h)
  ·subst h0
   (have zx:=zA hC (zA hSS (zA hH (zA hk (zA hk16 (zA hk8 hk88)))));refine zq1003 ?_;try exact zT)
   repeat'(apply zK.s<;>intro hc<;>(try simp only[zhd]at hc)<;>(try have hw:=X0a hc)<;>(refine zq1003 ?_;try exact zT))
   all_goals(try clear zx)
   exact main c (S.put_3k k8 by_) _ _ hl1 hl2 (zev) (zev) (by simp[put_at,Q0d,Z0d,X0l]) (zg9) (by change Cl.T.get _ (p.n+1+1)=_;simp (disch:=first|exact zdl|fail) only[zheap]) (fun k o h=>by have hd:=hF.dom k o h;simp (disch:=first|exact zdl|fail) only[zheap];exact h)
  ·subst h0
   (have zx:=zA hC (zA hSS (zA hH (zA hk hk16)));refine zq1003 ?_;try exact zT)
   repeat'(apply zK.s<;>intro hc<;>(try simp only[zhd]at hc)<;>(try have hw:=X0a hc)<;>(refine zq1003 ?_;try exact zT))
   all_goals(try clear zx)
   exact main c {S with Frame:=by_} _ _ hl1 hl2 (zev) (zev) (by simp[put_at,Q0d,Z0d,X0l]) (zg9) (by change Cl.T.get _ (p.n+1+1)=_;simp (disch:=first|exact zdl|fail) only[zheap]) (fun k o h=>by have hd:=hF.dom k o h;simp (disch:=first|exact zdl|fail) only[zheap];exact h)
  ·subst h0
   (have zx:=zA hC (zA hSS (zA hH (zA hk hk16)));refine zq1003 ?_;try exact zT)
   repeat'(apply zK.s<;>intro hc<;>(try simp only[zhd]at hc)<;>(try have hw:=X0a hc)<;>(refine zq1003 ?_;try exact zT))
   all_goals(try clear zx)
   exact main c {S with Frame:=600} _ _ hl1 hl2 (zev) (zev) (by simp[put_at,Q0d,Z0d,X0l]) (zg9) (by change Cl.T.get _ (p.n+1+1)=_;simp (disch:=first|exact zdl|fail) only[zheap]) (fun k o h=>by have hd:=hF.dom k o h;simp (disch:=first|exact zdl|fail) only[zheap];exact h)
  ·subst h0
   (have zx:=zA hC (zA hSS (zA hH (zA hk (zA hk16 bld4))));refine zq1003 ?_;try exact zT)
   repeat'(apply zK.s<;>intro hc<;>(try simp only[zhd]at hc)<;>(try have hw:=X0a hc)<;>(refine zq1003 ?_;try exact zT))
   all_goals(try clear zx)
   exact main c (S.put_2k k ⟨2,pick by_ 9,100,100,3,0,0,List.replicate 4 0,List.length_replicate,0⟩) _ _ hl1 hl2 (zev) (zev) (by simp[put_at,Q0d,Z0d,X0l]) (zg9) (by change Cl.T.get _ (p.n+1+1)=_;simp (disch:=first|exact zdl|fail) only[zheap]) (fun k o h=>by have hd:=hF.dom k o h;simp (disch:=first|exact zdl|fail) only[zheap];exact h)
  ·have n0:¬h=0:=by omega
   have n1:¬h=1:=by omega
   have n2:¬h=2:=by omega
   have n3:¬h=3:=by omega
   have n4:¬h=4:=by omega
   have n5:¬h=5:=by omega
   have n6:¬h=6:=by omega
   have n7:¬h=7:=by omega
   have n8:¬h=8:=by omega
   have n9:¬h=9:=by omega
   have n10:¬h=10:=by omega
   have n11:¬h=11:=by omega
   have n12:¬h=12:=by omega
   have n13:¬h=13:=by omega
   have n14:¬h=14:=by omega
   have n15:¬h=15:=by omega
   have n16:¬h=16:=by omega
   (have zx:=zA hC (zA hSS (zA hH (zA hk (zA hk16 (zA n0 (zA n1 (zA n2 (zA n3 (zA n4 (zA n5 (zA n6 (zA n7 (zA n8 (zA n9 (zA n10 (zA n11 (zA n12 (zA n13 (zA n14 (zA n15 n16))))))))))))))))))));refine zq1003 ?_;try exact zT)
   repeat'(apply zK.s<;>intro hc<;>(try simp only[zhd]at hc)<;>(try have hw:=X0a hc)<;>(refine zq1003 ?_;try exact zT))
   all_goals(try clear zx)
   exact main c S _ _ hl1 hl2 (zev) (zev) (by simp[put_at,Q0d,Z0d,X0l]) (zg9) (by change Cl.T.get _ (p.n+1+1)=_;simp (disch:=first|exact zdl|fail) only[zheap]) (fun k o h=>by have hd:=hF.dom k o h;simp (disch:=first|exact zdl|fail) only[zheap];exact h)
end Go.Proofs.YtpchcfkebljopaaGreat
end
