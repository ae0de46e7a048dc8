import Derived.Test.YtpchcfkebljopaaXg
set_option linter.unusedSimpArgs false
set_option linter.unusedVariables false
set_option linter.constructorNameAsVariable false
set_option linter.defProp false
set_option maxHeartbeats 8000000
section
namespace Go.Proofs.Ytpchcfkebljopaa
open Go.Cl Go Go.RowKit
def Mach.withL(m:Q0b)(s:Lst Z0b): Q0b:={m with l_:=s}
theorem reckon_withL(m:Q0b)(s:Lst Z0b)(o:Z0b): Mach.reckon (Mach.withL m s) o=match Mach.reckon m o with|.ok r=>.ok (Mach.withL r s)|.error c=>.error c:=by
 have h1:∀k,Mach.reg (Mach.withL m s) k=Mach.reg m k:=fun _=>rfl
 unfold Mach.reckon
 simp only[h1]
 by_cases c2:o.Code=2
 ·simp only[if_pos c2];rfl
 by_cases c3:o.Code=3
 ·simp only[if_neg c2,if_pos c3];rfl
 by_cases c4:o.Code=4
 ·simp only[if_neg c2,if_neg c3,if_pos c4];rfl
 by_cases c5:o.Code=5
 ·simp only[if_neg c2,if_neg c3,if_neg c4,if_pos c5];rfl
 by_cases c6:o.Code=6
 ·simp only[if_neg c2,if_neg c3,if_neg c4,if_neg c5,if_pos c6]
  by_cases z:Mach.reg m o.B.toNat=0
  ·simp only[if_pos z]
  ·simp only[if_neg z];rfl
 by_cases c11:o.Code=11
 ·simp only[if_neg c2,if_neg c3,if_neg c4,if_neg c5,if_neg c6,if_pos c11]
  by_cases z:Mach.reg m o.B.toNat<1
  ·simp only[if_pos z]
  ·simp only[if_neg z];rfl
 simp only[if_neg c2,if_neg c3,if_neg c4,if_neg c5,if_neg c6,if_neg c11]
 by_cases z:(m.e_.Shots.l.length:Int)<m.e_.Room
 ·rw[if_pos z,if_pos (show((Mach.withL m s).e_.Shots.l.length:Int)<(Mach.withL m s).e_.Room from z)];rfl
 ·rw[if_neg z,if_neg (show ¬((Mach.withL m s).e_.Shots.l.length:Int)<(Mach.withL m s).e_.Room from z)]
theorem doOp_withL(m:Q0b)(s:Lst Z0b)(o:Z0b)(h:s.l=m.l_.l): Mach.doOp (Mach.withL m s) o=match Mach.doOp m o with|.ok r=>.ok (Mach.withL r.1 s,r.2)|.error c=>.error c:=by
 have h1:∀k,Mach.reg (Mach.withL m s) k=Mach.reg m k:=fun _=>rfl
 have h2:∀k,Mach.field (Mach.withL m s) k=Mach.field m k:=fun _=>rfl
 have h3:(Mach.withL m s).l_.l=m.l_.l:=h
 unfold Mach.doOp
 simp only[h1,h2,h3,reckon_withL]
 by_cases c1:within o.Code 1 13=false
 ·simp only[if_pos c1]
 by_cases c2:namedOk o=false
 ·simp only[if_neg c1,if_pos c2]
 by_cases c3:o.Code=1
 ·simp only[if_neg c1,if_neg c2,if_pos c3];rfl
 by_cases c4:o.Code=7
 ·simp only[if_neg c1,if_neg c2,if_neg c3,if_pos c4]
  by_cases z:within o.B 0 7=false
  ·simp only[if_pos z]
  ·simp only[if_neg z];rfl
 by_cases c5:o.Code=8
 ·simp only[if_neg c1,if_neg c2,if_neg c3,if_neg c4,if_pos c5]
  by_cases z:within o.A 0 3=false
  ·simp only[if_pos z]
  ·simp only[if_neg z];rfl
 by_cases c6:o.Code=9
 ·simp only[if_neg c1,if_neg c2,if_neg c3,if_neg c4,if_neg c5,if_pos c6]
  by_cases z:Mach.reg m o.A.toNat=0
  ·simp only[if_pos z]
   by_cases y:within o.B 0 m.l_.l.length=false
   ·simp only[if_pos y]
   ·simp only[if_neg y]
  ·simp only[if_neg z];rfl
 by_cases c7:o.Code=10
 ·simp only[if_neg c1,if_neg c2,if_neg c3,if_neg c4,if_neg c5,if_neg c6,if_pos c7]
  by_cases y:within o.B 0 m.l_.l.length=false
  ·simp only[if_pos y]
  ·simp only[if_neg y]
 by_cases c8:o.Code=13
 ·simp only[if_neg c1,if_neg c2,if_neg c3,if_neg c4,if_neg c5,if_neg c6,if_neg c7,if_pos c8]
 simp only[if_neg c1,if_neg c2,if_neg c3,if_neg c4,if_neg c5,if_neg c6,if_neg c7,if_neg c8]
 cases Mach.reckon m o<;>rfl
theorem run_withL(s:Lst Z0b): ∀(k:Nat) (m:Q0b),s.l=m.l_.l->0<=m.at_->Mach.run k (Mach.withL m s)=match Mach.run k m with|.ok r=>.ok (Mach.withL r s)|.error c=>.error c
 |k,m,h,ha=>by
  have h3:(Mach.withL m s).l_.l=m.l_.l:=h
  have h4:(Mach.withL m s).at_=m.at_:=rfl
  unfold Mach.run
  rw[h3,h4]
  by_cases hlt:m.at_<m.l_.l.length
  ·rw[if_pos hlt,if_pos hlt]
   cases k with
   |zero=>rfl
   |succ k=>
    simp only[doOp_withL m s _ h]
    cases hd:Mach.doOp m (nth m.l_.l m.at_.toNat) with
    |error c=>rfl
    |ok r=>
     obtain⟨m2,n⟩:=r
     simp only
     have kk:=Mach.doOp_keeps hd ha hlt
     exact run_withL s k {m2 with at_:=n} (by simp only;rw[kk.2.1];exact h) kk.2.2.2.2.1
  ·rw[if_neg hlt,if_neg hlt]
theorem ruleRun_l{l s:Lst Z0b}(h:s.l=l.l)(e:V0d): ruleRun s e=ruleRun l e:=by
 have:=run_withL s 64 ⟨copiedE e,l,0⟩ h (by simp)
 unfold ruleRun
 rw[show(⟨copiedE e,s,0⟩:Q0b)=Mach.withL ⟨copiedE e,l,0⟩ s from rfl,this]
 cases Mach.run 64 ⟨copiedE e,l,0⟩<;>rfl
def runL(L:List Z0b)(e:V0d): V0d×X0c×Bool:=ruleRun ⟨.view,L,nofun⟩ e
def namesA(c:Int): Bool:=decide (c=1) || decide (c=7) || decide (c=9) || decide (c=2) || decide (c=3) || decide (c=4) || decide (c=5) || decide (c=6) || decide (c=11) || decide (c=12)
def namesB(c:Int): Bool:=decide (c=2) || decide (c=3) || decide (c=4) || decide (c=5) || decide (c=6) || decide (c=11) || decide (c=12) || decide (c=8)
def rfault(o:Z0b)(e:Y0c)(n:Int): Int:=
 if within o.Code 1 13=false then 4
 else if(namesA o.Code&&!within o.A 0 3 || namesB o.Code&&!within o.B 0 3)=true then 2
 else if(decide (o.Code=7)&&!within o.B 0 7 || decide (o.Code=8)&&!within o.A 0 3)=true then 3
 else if(decide (o.Code=6)&&decide (nth e.Body.Mem o.B.toNat=0))=true then 1
 else if(decide (o.Code=11)&&decide (nth e.Body.Mem o.B.toNat<1))=true then 6
 else if(decide (o.Code=12)&&decide (e.Room<=e.Shots.l.length))=true then 7
 else if(decide (o.Code=10)&&!within o.B 0 n)=true then 4
 else if(decide (o.Code=9)&&decide (nth e.Body.Mem o.A.toNat=0)&&!within o.B 0 n)=true then 4
 else 0
def partS{α:Type}(s:Lst α): Lst α:=
 match s.tl with
 |.own _=>⟨.part,s.l,nofun⟩
 |_=>s
theorem partS_l{α:Type}(s:Lst α): (partS s).l=s.l:=by
 obtain⟨tl,l,o⟩:=s;cases tl<;>rfl
def partE(e:Y0c): V0d:=⟨e.Body,e.In,e.Dice,e.Room,partS e.Shots⟩
def ruleOf(e:Y0c): V0d:=⟨e.Body,e.In,e.Dice,e.Room,e.Shots⟩
def envR(e:V0d): Y0c:=⟨e.Body,e.In,e.Dice,e.Room,e.Shots⟩
theorem weak_partS{α:Type}{f:α->CV}(hf:∀x j,¬(f x).has j)(s:Lst α)(n:Nat)(h:s.tl=.nil\/∃j,s.tl=.own j): CV.weak (fun k=>k) n (Lst.cv f s) (Lst.cv f (partS s)):=by
 have hl:∀l:List α,CV.weakL (fun k=>k) n (l.map f) (l.map f):=fun l=>CV.weakL_refl _ fun j hj=>(X0m hf l j hj).elim
 obtain⟨tl,l,o⟩:=s
 rcases h with h|⟨j,h⟩<;>simp only at h<;>subst h<;>simp only[partS,Lst.cv,CV.weak,Tail.weak,true_and]<;>exact hl _
theorem weak_envR(e:Y0c)(n:Nat)(h:e.Shots.tl=.nil\/∃j,e.Shots.tl=.own j): CV.weak (fun k=>k) n e.cv (envR (partE e)).cv:=by
 have h1:CV.weak (fun k=>k) n e.Body.cv e.Body.cv:=V0f (Z0c (Q0a.nohas _))
 have h2:CV.weak (fun k=>k) n e.In.cv e.In.cv:=V0f (Z0c (Z0a.nohas _))
 have h3:=weak_partS Q0a.nohas e.Shots n h
 simp only[Y0c.cv,envR,partE,CV.weak,CV.weakL]
 exact⟨h1,h2,trivial,trivial,h3,trivial⟩
theorem copiedE_nil{e:Y0c}(h:e.Shots.tl=.nil): copiedE (ruleOf e)=ruleOf e:=by
 obtain⟨b,i,d,r,tl,l,o⟩:=e
 simp only at h;subst h
 have:=o rfl;subst this
 rfl
theorem partE_nil{e:Y0c}(h:e.Shots.tl=.nil): partE e=ruleOf e:=by
 obtain⟨b,i,d,r,tl,l,o⟩:=e
 simp only at h;subst h
 rfl
theorem K1c{c:Int}(h:within c 1 13=true): c=1\/c=2\/c=3\/c=4\/c=5\/c=6\/c=7\/c=8\/c=9\/c=10\/c=11\/c=12\/c=13:=by
 have:=K0a h;omega
theorem rfault_eq(o:Z0b)(e:Y0c)(l:Lst Z0b)(a:Int): rfault o e l.l.length=match Mach.doOp ⟨partE e,l,a⟩ o with|.error c=>c|.ok _=>0:=by
 have hr:∀k,Mach.reg ⟨partE e,l,a⟩ k=nth e.Body.Mem k:=fun _=>rfl
 have hs:((⟨partE e,l,a⟩:Q0b).e_.Shots.l.length:Int)=e.Shots.l.length:=by simp[partE,partS_l]
 have hm:(⟨partE e,l,a⟩:Q0b).e_.Room=e.Room:=rfl
 unfold rfault Mach.doOp
 cases hw:within o.Code 1 13 with
 |false=>simp
 |true=>
  simp only[Bool.true_eq_false,if_false,hr,Mach.reckon,hs,hm]
  rcases K1c hw with h|h|h|h|h|h|h|h|h|h|h|h|h
  all_goals simp only[h,namesA,namesB,namedOk,needA,needB]
  all_goals cases hA:within o.A 0 3<;>cases hB:within o.B 0 3
  all_goals simp
  all_goals(repeat' split)
  all_goals first
   |rfl
   |(simp_all;done)
   |(rename_i hx _ _ hq;rw[show(partE e).Room=e.Room from rfl,if_neg (by omega)]at hq;cases hq;done)
   |(rename_i hx _ _ hq;rw[show(partE e).Room=e.Room from rfl,if_neg (by omega)]at hq;cases hq;rfl)
   |(rename_i hx _ _ hq;rw[show(partE e).Room=e.Room from rfl,if_pos (by omega)]at hq;cases hq;done)
   |(rename_i hx _ _ hq;rw[show(partE e).Room=e.Room from rfl,if_pos (by omega)]at hq;cases hq;rfl)
   |(rename_i hx _ _ hq;split at hq<;>first|(cases hq;done)|(split at hq<;>first|(cases hq;done)|(cases hq;simp_all))|(cases hq;simp_all))
   |omega
   |trace_state
theorem doOp_code{o:Z0b}{m:Q0b}{c:Int}(h:Mach.doOp m o=.error c): c≠0:=by
 have hr:∀c',Mach.reckon m o=.error c'->c'≠0:=by
  intro c' h'
  unfold Mach.reckon at h'
  simp only at h'
  repeat'(split at h')
  all_goals first|(cases h';done)|(cases h';decide)
 unfold Mach.doOp at h
 repeat'(split at h)
 all_goals first|(cases h;done)|(cases h;decide)|(rename_i hq;cases h;exact hr _ hq)
theorem doOp_1{o:Z0b}{m m2:Q0b}{n:Int}(h:Mach.doOp m o=.ok (m2,n))(hC:o.Code=1): m2=Mach.set m o.A.toNat o.B/\n=m.at_+1:=by
 have hw:within o.Code 1 13=true:=by rw[hC];rfl
 have hw2:within 1 1 13=true:=rfl
 unfold Mach.doOp Mach.reckon at h
 cases hn:namedOk o with
 |false=>simp only[hw,hn,Bool.true_eq_false,if_true,if_false]at h;cases h
 |true=>
  simp only[hw2,hn,hC,Int.reduceEq,Bool.true_eq_false,if_true,if_false]at h
  cases h;exact⟨rfl,rfl⟩
theorem doOp_2{o:Z0b}{m m2:Q0b}{n:Int}(h:Mach.doOp m o=.ok (m2,n))(hC:o.Code=2): m2=Mach.set m o.A.toNat (Mach.reg m o.B.toNat)/\n=m.at_+1:=by
 have hw:within o.Code 1 13=true:=by rw[hC];rfl
 have hw2:within 2 1 13=true:=rfl
 unfold Mach.doOp Mach.reckon at h
 cases hn:namedOk o with
 |false=>simp only[hw,hn,Bool.true_eq_false,if_true,if_false]at h;cases h
 |true=>
  simp only[hw2,hn,hC,Int.reduceEq,Bool.true_eq_false,if_true,if_false]at h
  cases h;exact⟨rfl,rfl⟩
theorem doOp_3{o:Z0b}{m m2:Q0b}{n:Int}(h:Mach.doOp m o=.ok (m2,n))(hC:o.Code=3): m2=Mach.set m o.A.toNat (w64 (Mach.reg m o.A.toNat+Mach.reg m o.B.toNat))/\n=m.at_+1:=by
 have hw:within o.Code 1 13=true:=by rw[hC];rfl
 have hw2:within 3 1 13=true:=rfl
 unfold Mach.doOp Mach.reckon at h
 cases hn:namedOk o with
 |false=>simp only[hw,hn,Bool.true_eq_false,if_true,if_false]at h;cases h
 |true=>
  simp only[hw2,hn,hC,Int.reduceEq,Bool.true_eq_false,if_true,if_false]at h
  cases h;exact⟨rfl,rfl⟩
theorem doOp_4{o:Z0b}{m m2:Q0b}{n:Int}(h:Mach.doOp m o=.ok (m2,n))(hC:o.Code=4): m2=Mach.set m o.A.toNat (w64 (Mach.reg m o.A.toNat-Mach.reg m o.B.toNat))/\n=m.at_+1:=by
 have hw:within o.Code 1 13=true:=by rw[hC];rfl
 have hw2:within 4 1 13=true:=rfl
 unfold Mach.doOp Mach.reckon at h
 cases hn:namedOk o with
 |false=>simp only[hw,hn,Bool.true_eq_false,if_true,if_false]at h;cases h
 |true=>
  simp only[hw2,hn,hC,Int.reduceEq,Bool.true_eq_false,if_true,if_false]at h
  cases h;exact⟨rfl,rfl⟩
theorem doOp_5{o:Z0b}{m m2:Q0b}{n:Int}(h:Mach.doOp m o=.ok (m2,n))(hC:o.Code=5): m2=Mach.set m o.A.toNat (w64 (Mach.reg m o.A.toNat*Mach.reg m o.B.toNat))/\n=m.at_+1:=by
 have hw:within o.Code 1 13=true:=by rw[hC];rfl
 have hw2:within 5 1 13=true:=rfl
 unfold Mach.doOp Mach.reckon at h
 cases hn:namedOk o with
 |false=>simp only[hw,hn,Bool.true_eq_false,if_true,if_false]at h;cases h
 |true=>
  simp only[hw2,hn,hC,Int.reduceEq,Bool.true_eq_false,if_true,if_false]at h
  cases h;exact⟨rfl,rfl⟩
theorem doOp_6{o:Z0b}{m m2:Q0b}{n:Int}(h:Mach.doOp m o=.ok (m2,n))(hC:o.Code=6): Mach.reg m o.B.toNat≠0/\m2=Mach.set m o.A.toNat (w64 ((Mach.reg m o.A.toNat).tdiv (Mach.reg m o.B.toNat)))/\n=m.at_+1:=by
 have hw:within o.Code 1 13=true:=by rw[hC];rfl
 have hw2:within 6 1 13=true:=rfl
 unfold Mach.doOp Mach.reckon at h
 cases hn:namedOk o with
 |false=>simp only[hw,hn,Bool.true_eq_false,if_true,if_false]at h;cases h
 |true=>
  by_cases hz:Mach.reg m o.B.toNat=0
  ·simp only[hw2,hn,hC,hz,Int.reduceEq,Bool.true_eq_false,if_true,if_false]at h
   cases h
  ·simp only[hw2,hn,hC,hz,Int.reduceEq,Bool.true_eq_false,if_true,if_false]at h
   cases h;exact⟨hz,rfl,rfl⟩
theorem doOp_7{o:Z0b}{m m2:Q0b}{n:Int}(h:Mach.doOp m o=.ok (m2,n))(hC:o.Code=7): within o.B 0 7=true/\m2=Mach.set m o.A.toNat (Mach.field m o.B.toNat)/\n=m.at_+1:=by
 have hw:within o.Code 1 13=true:=by rw[hC];rfl
 have hw2:within 7 1 13=true:=rfl
 unfold Mach.doOp Mach.reckon at h
 cases hn:namedOk o with
 |false=>simp only[hw,hn,Bool.true_eq_false,if_true,if_false]at h;cases h
 |true=>
  simp only[hw2,hn,hC,Int.reduceEq,Bool.true_eq_false,if_true,if_false]at h
  split at h
  ·cases h
  ·rename_i hq;cases h;exact⟨by simpa using hq,rfl,rfl⟩
theorem doOp_8{o:Z0b}{m m2:Q0b}{n:Int}(h:Mach.doOp m o=.ok (m2,n))(hC:o.Code=8): within o.A 0 3=true/\m2=Mach.put m o.A (Mach.reg m o.B.toNat)/\n=m.at_+1:=by
 have hw:within o.Code 1 13=true:=by rw[hC];rfl
 have hw2:within 8 1 13=true:=rfl
 unfold Mach.doOp Mach.reckon at h
 cases hn:namedOk o with
 |false=>simp only[hw,hn,Bool.true_eq_false,if_true,if_false]at h;cases h
 |true=>
  simp only[hw2,hn,hC,Int.reduceEq,Bool.true_eq_false,if_true,if_false]at h
  split at h
  ·cases h
  ·rename_i hq;cases h;exact⟨by simpa using hq,rfl,rfl⟩
theorem doOp_9{o:Z0b}{m m2:Q0b}{n:Int}(h:Mach.doOp m o=.ok (m2,n))(hC:o.Code=9): m2=m/\n=(if Mach.reg m o.A.toNat=0 then o.B else m.at_+1):=by
 have hw:within o.Code 1 13=true:=by rw[hC];rfl
 have hw2:within 9 1 13=true:=rfl
 unfold Mach.doOp Mach.reckon at h
 cases hn:namedOk o with
 |false=>simp only[hw,hn,Bool.true_eq_false,if_true,if_false]at h;cases h
 |true=>
  simp only[hw2,hn,hC,Int.reduceEq,Bool.true_eq_false,if_true,if_false]at h
  split at h
  ·rename_i hz
   split at h
   ·cases h
   ·cases h;exact⟨rfl,by rw[if_pos hz]⟩
  ·rename_i hz;cases h;exact⟨rfl,by rw[if_neg hz]⟩
theorem doOp_10{o:Z0b}{m m2:Q0b}{n:Int}(h:Mach.doOp m o=.ok (m2,n))(hC:o.Code=10): m2=m/\n=o.B:=by
 have hw:within o.Code 1 13=true:=by rw[hC];rfl
 have hw2:within 10 1 13=true:=rfl
 unfold Mach.doOp Mach.reckon at h
 cases hn:namedOk o with
 |false=>simp only[hw,hn,Bool.true_eq_false,if_true,if_false]at h;cases h
 |true=>
  simp only[hw2,hn,hC,Int.reduceEq,Bool.true_eq_false,if_true,if_false]at h
  split at h
  ·cases h
  ·cases h;exact⟨rfl,rfl⟩
theorem doOp_11{o:Z0b}{m m2:Q0b}{n:Int}(h:Mach.doOp m o=.ok (m2,n))(hC:o.Code=11): ¬Mach.reg m o.B.toNat<1/\m2=Mach.set {m with e_:={m.e_ with Dice:=(diceRoll m.e_.Dice (Mach.reg m o.B.toNat)).1}} o.A.toNat (diceRoll m.e_.Dice (Mach.reg m o.B.toNat)).2/\n=m.at_+1:=by
 have hw:within o.Code 1 13=true:=by rw[hC];rfl
 have hw2:within 11 1 13=true:=rfl
 unfold Mach.doOp Mach.reckon at h
 cases hn:namedOk o with
 |false=>simp only[hw,hn,Bool.true_eq_false,if_true,if_false]at h;cases h
 |true=>
  by_cases hz:Mach.reg m o.B.toNat<1
  ·simp only[hw2,hn,hC,hz,Int.reduceEq,Bool.true_eq_false,if_true,if_false]at h
   cases h
  ·simp only[hw2,hn,hC,hz,Int.reduceEq,Bool.true_eq_false,if_true,if_false]at h
   cases h;exact⟨hz,rfl,rfl⟩
theorem doOp_12{o:Z0b}{m m2:Q0b}{n:Int}(h:Mach.doOp m o=.ok (m2,n))(hC:o.Code=12): m2={m with e_:={m.e_ with Shots:=⟨.part,m.e_.Shots.l++[bodyShoot m.e_.Body (Mach.reg m o.A.toNat) (Mach.reg m o.B.toNat)],nofun⟩}}/\n=m.at_+1:=by
 have hw:within o.Code 1 13=true:=by rw[hC];rfl
 have hw2:within 12 1 13=true:=rfl
 unfold Mach.doOp Mach.reckon at h
 cases hn:namedOk o with
 |false=>simp only[hw,hn,Bool.true_eq_false,if_true,if_false]at h;cases h
 |true=>
  by_cases hz:(m.e_.Shots.l.length:Int)<m.e_.Room
  ·simp only[hw2,hn,hC,hz,Int.reduceEq,Bool.true_eq_false,if_true,if_false]at h
   cases h;exact⟨rfl,rfl⟩
  ·simp only[hw2,hn,hC,hz,Int.reduceEq,Bool.true_eq_false,if_true,if_false]at h
   cases h
theorem doOp_13{o:Z0b}{m m2:Q0b}{n:Int}(h:Mach.doOp m o=.ok (m2,n))(hC:o.Code=13): m2=m/\n=m.l_.l.length:=by
 have hw:within o.Code 1 13=true:=by rw[hC];rfl
 have hw2:within 13 1 13=true:=rfl
 unfold Mach.doOp Mach.reckon at h
 cases hn:namedOk o with
 |false=>simp only[hw,hn,Bool.true_eq_false,if_true,if_false]at h;cases h
 |true=>
  simp only[hw2,hn,hC,Int.reduceEq,Bool.true_eq_false,if_true,if_false]at h
  cases h;exact⟨rfl,rfl⟩
theorem doOp_n{o:Z0b}{m m2:Q0b}{n:Int}(h:Mach.doOp m o=.ok (m2,n)): namedOk o=true/\within o.Code 1 13=true:=by
 unfold Mach.doOp at h
 constructor
 ·cases hn:namedOk o with
  |true=>rfl
  |false=>rw[hn]at h;simp at h;split at h<;>cases h
 ·cases hn:within o.Code 1 13 with
  |true=>rfl
  |false=>rw[hn]at h;simp at h
def firstW{α:Type}(f:α->Bool): List α->Nat->Int
 |[],_=>-1
 |x::l,k=>if f x=true then k else firstW f l (k+1)
theorem K1z{α:Type}(f:α->Bool): ∀(l:List α) (k:Nat),decide (0<=firstW f l k)=l.any f
 |[],k=>rfl
 |x::l,k=>by
  simp only[firstW,List.any_cons]
  by_cases h:f x=true
  ·simp[h]
  ·have:=K1z f l (k+1);simp[h,<- this]
theorem X0y{α:Type}[Inhabited α]{l:List α}{k:Nat}(h:k<l.length): l.drop k=nth l k::l.drop (k+1):=by
 rw[X0i h];exact List.drop_eq_getElem_cons h
def opRight(o:Z0b): Bool:=within o.Code 1 13&&within o.A (-1000000) 1000000&&within o.B (-1000000) 1000000
def ruleRight(l:List Z0b): Bool:=decide (l.length<=16)&&l.all opRight
theorem any_opRight(l:List Z0b): (l.any fun o=>!opRight o) = !l.all opRight:=by
 induction l with
 |nil=>rfl
 |cons x l ih=>simp[ih]
def bounce(a v:Int): Int×Int:=if brought a 0 4095=a then(a,v) else(brought a 0 4095,w64 (-v))
def bodyPush(b:Q0a)(x y:Int): Q0a:=
 if Body.right b=true/\b.Kind≠0 then {b with VX:=brought (b.VX+brought x (-1000) 1000) (-64) 64,VY:=brought (b.VY+brought y (-1000) 1000) (-64) 64} else Q0a.zero
def bodyMove(b:Q0a): Q0a×Bool:=
 if Body.right b=true/\b.Kind≠0 then
  if b.Kind=1 then({b with Age:=min (b.Age+1) 600,X:=(bounce (b.X+b.VX) b.VX).1,VX:=(bounce (b.X+b.VX) b.VX).2,Y:=(bounce (b.Y+b.VY) b.VY).1,VY:=(bounce (b.Y+b.VY) b.VY).2},true)
  else if 40<min (b.Age+1) 600\/within (b.X+b.VX) 0 4095=false\/within (b.Y+b.VY) 0 4095=false then(Q0a.zero,false)
  else({b with Age:=min (b.Age+1) 600,X:=b.X+b.VX,Y:=b.Y+b.VY},true)
 else(Q0a.zero,false)
def bodyStrikes(a b:Q0a): Bool:=
 Body.right a&&Body.right b&&decide (a.Kind=1)&&decide (b.Kind=2)&&decide (a.Owner≠b.Owner)&&within (a.X-b.X) (-32) 32&&within (a.Y-b.Y) (-32) 32
def bodyHit(a b:Q0a): Bool:=if a.Kind=2 then bodyStrikes b a else bodyStrikes a b
theorem X0l{b:Q0a}(h:Body.right b=true)(hk:b.Kind≠0): (0<=b.Owner/\b.Owner<=7)/\(0<=b.X/\b.X<=4095)/\(0<=b.Y/\b.Y<=4095)/\(-64<=b.VX/\b.VX<=64)/\(-64<=b.VY/\b.VY<=64)/\(0<=b.Age/\b.Age<=600)/\(0<=b.Faults/\b.Faults<=65535)/\(b.Kind=1\/b.Kind=2):=by
 have r:=(Q0h hk).1 h
 exact⟨r.2.2.1,r.2.2.2.1,r.2.2.2.2.1,r.2.2.2.2.2.1,r.2.2.2.2.2.2.1,r.2.2.2.2.2.2.2.1,r.2.2.2.2.2.2.2.2,r.2.1⟩
theorem X1k{b:Q0a}(h:Body.right b=true)(hk:b.Kind=0): b=Q0a.zero:=by
 unfold Body.right at h;rw[if_pos hk]at h;simpa using h
abbrev f64:=FloatKind.f64.format
def nanF(n:Nat): Bool:=f64.order n n != some .eq
def absF(n:Nat): Nat:=(IntKind.u64.wrap (BitVec.ofInt IntKind.u64.bits (n:Int) &&&~~~BitVec.ofInt IntKind.u64.bits (9223372036854775808:Int)).toNat).toNat
def infF(n:Nat): Bool:=f64.order (absF n) 9218868437227405311==some .gt
def oddF(n:Nat): Bool:=nanF n || infF n
def bucketOk(r d:Nat): Bool:=!(oddF r || oddF d || (f64.order r 0==some .lt) || (f64.order d 4607182418800017408==some .lt) || (f64.order d 4652007308841189376==some .gt))
def seedOf(n:Int): Int:=IntKind.u64.wrap (IntKind.u64.wrap (IntKind.u64.wrap n*2)+1)
def tokGo(seen:List Int): List Int->Bool
 |[]=>true
 |n::l=>within n 0 2147483646&&!seen.contains n&&tokGo (seen++[n]) l
def legalC(c:X0a): Bool:=
 within c.Players 1 8&&(within c.Period 1 8&&within c.Grace 0 60&&within c.Start 0 100&&within c.Frames 1 600)&&within c.Seed 0 2147483647&&bucketOk c.Rate c.Depth&&ruleRight c.Rules.l&&(tokGo [] c.Tokens.l&&decide ((c.Tokens.l.length:Int)=c.Players))
def rightAt(players:Int)(k:Nat)(b:Q0a): Bool:=
 Body.right b&&(if(k:Int)<players then decide (b.Kind=1)&&decide (b.Owner=k)else decide (b.Kind=0) || decide (b.Kind=2)&&decide (b.Owner<players))
def scoreAt(players:Int)(k:Nat)(n:Int): Bool:=within n 0 2147483647&&!(decide (players<=k)&&decide (n≠0))
def allFrom{α:Type}(f:Nat->α->Bool): List α->Nat->Bool
 |[],_=>true
 |x::l,k=>f k x&&allFrom f l (k+1)
def stateRight(c:X0a)(s:V0a): Bool:=
 allFrom (rightAt c.Players) s.Bodies 0&&allFrom (scoreAt c.Players) s.Score 0&&legalC c&&within s.Frame 0 600
def freeN(l:List Q0a): Nat:=(l.filter fun b=>decide (b.Kind=0)).length
def clampIn(x:Z0a): Z0a:=⟨brought x.Buttons 0 255,brought x.X (-64) 64,brought x.Y (-64) 64⟩
def rowInput(row:List V0b)(o:Int): Z0a:=if(row.length:Int)<=o then Z0a.zero else clampIn (nth row o.toNat).In
structure Turn where
 dice:Int
 shots:List Q0a
 body:Q0a
def playerEnv(row:List V0b)(dice room:Int)(b:Q0a): V0d:=
 ⟨bodyPush b ((rowInput row b.Owner).X.tdiv 16) ((rowInput row b.Owner).Y.tdiv 16),rowInput row b.Owner,dice,room,⟨.nil,[],fun _=>rfl⟩⟩
def playerTurn(rules:List Z0b)(row:List V0b)(dice room:Int)(b:Q0a): Turn:=
 if(runL rules (playerEnv row dice room b)).2.2=true then⟨(runL rules (playerEnv row dice room b)).1.Dice,(runL rules (playerEnv row dice room b)).1.Shots.l,(runL rules (playerEnv row dice room b)).1.Body⟩
 else⟨dice,[],{b with Faults:=min (b.Faults+1) 65535}⟩
def bodyTurn(rules:List Z0b)(row:List V0b)(dice room:Int)(b:Q0a): Turn:=
 if b.Kind=1 then playerTurn rules row dice room b else⟨dice,[],b⟩
def turnStep(rules:List Z0b)(row:List V0b)(was:List Q0a)(st:V0a×List Q0a)(k:Nat): V0a×List Q0a:=
 let t:=bodyTurn rules row st.1.Dice (freeN st.1.Bodies-st.2.length) (nth was k)
 (({st.1 with Dice:=t.dice}:V0a).put_2k k (bodyMove t.body).1,st.2++t.shots)
def turnsS(rules:List Z0b)(row:List V0b)(s:V0a): Nat->V0a×List Q0a
 |0=>(s,[])
 |k+1=>turnStep rules row s.Bodies (turnsS rules row s k) k
def setStep(st:V0a×List Q0a)(k:Nat): V0a×List Q0a:=
 match st.2 with
 |[]=>st
 |x::sh=>if(nth st.1.Bodies k).Kind=0 then(st.1.put_2k k x,sh)else st
def setsS(st:V0a×List Q0a): Nat->V0a×List Q0a
 |0=>st
 |k+1=>setStep (setsS st k) k
def struckL(bodies:List Q0a)(shot:Q0a): Int:=firstW (fun b=>decide (b.Kind=1)&&bodyHit b shot) bodies 0
def again(players:Int)(v:Q0a): Q0a:={bodyBorn v.Owner players with Faults:=v.Faults}
def hitStep(players:Int)(s:V0a)(k:Nat): V0a:=
 let shot:=nth s.Bodies k
 if shot.Kind≠2 then s else
 let at_:=struckL s.Bodies shot
 if at_<0 then s else
 let s2:=(s.put_3k shot.Owner.toNat (min (nth s.Score shot.Owner.toNat+1) 2147483647)).put_2k k Q0a.zero
 s2.put_2k at_.toNat (again players (nth s2.Bodies at_.toNat))
def hitsS(players:Int)(s:V0a): Nat->V0a
 |0=>s
 |k+1=>hitStep players (hitsS players s k) k
def stepS(c:X0a)(row:List V0b)(s:V0a): V0a:=
 if stateRight c s=false then V0a.zero else
 let h:=hitsS c.Players (setsS (turnsS c.Rules.l row s 16) 16).1 16
 {h with Frame:=min (h.Frame+1) 600}
def gameFold(c:X0a)(rows:List (List V0b))(s:V0a): V0a:=rows.foldl (fun s row=>stepS c row s) s
theorem X0u{α:Type}[Inhabited α](f:Nat->α->Bool): ∀(l:List α) (k:Nat),allFrom f l k=true ↔ ∀j,j<l.length->f (k+j) (nth l j)=true
 |[],k=>by simp[allFrom]
 |x::l,k=>by
  simp only[allFrom,Bool.and_eq_true,X0u f l (k+1),List.length_cons]
  constructor
  ·rintro⟨h1,h2⟩ j hj
   cases j with
   |zero=>simpa[nth]using h1
   |succ j=>have:=h2 j (by omega);rw[show k+(j+1)=k+1+j by omega];simpa[nth]using this
  ·intro h
   refine⟨by simpa[nth]using h 0 (by omega),fun j hj=>?_⟩
   have:=h (j+1) (by omega)
   rw[show k+(j+1)=k+1+j by omega]at this;simpa[nth]using this
theorem K0u{α:Type}[Inhabited α](f:Nat->α->Bool){l:List α}{k:Nat}(h:k<l.length): allFrom f (l.drop k) k=(f k (nth l k)&&allFrom f (l.drop (k+1)) (k+1)):=by
 rw[X0y h];rfl
def ren(a J k:Nat): Nat:=if k=a then J else k
theorem Y01{args:List CV}{p p' q0:Hp}{v u:CV}{J:Nat}{oT:XObj}(hF:Fine args p)(hn:q0.n=p.n)
  (hq:∀k o,q0.t.get k=some o->k<p.n/\k≠J/\((p.t.get k=some o/\p'.t.get k=some o)\/∃o',p'.t.get k=some o'/\XObj.weak (ren p.n J) (p.n+1) o' o))
  (hT:∃o',p'.t.get J=some o'/\XObj.weak (ren p.n J) (p.n+1) o' oT) (hv:CV.weak (ren p.n J) (p.n+1) v u):ShrR p (.ret v p') (.ret u (q0.new oT)):=by
 have hnn:(q0.new oT).n=p.n+1:=by rw[Hp.znew_n,hn]
 have hs:∀k,k<p.n->ren p.n J k=k:=fun k hk=>if_neg (Nat.ne_of_lt hk)
 have hsp:ren p.n J p.n=J:=if_pos rfl
 have hg:∀k o,(q0.new oT).t.get k=some o->(k=p.n/\o=oT)\/(k<p.n/\q0.t.get k=some o):=by
  intro k o h
  by_cases hk:k=q0.n
  ·subst hk;rw[Hp.get_new_self]at h;cases h;exact .inl ⟨hn,rfl⟩
  ·rw[Hp.get_new_ne _ _ hk]at h;exact .inr ⟨(hq k o h).1,h⟩
 refine⟨ren p.n J,⟨by rw[hnn];omega,hs,?_,?_⟩,by rw[hnn];exact hv⟩
 ·intro j k oj ok h1 h2 e
  rcases hg j oj h1 with⟨rfl,_⟩|⟨hj,hj'⟩<;>rcases hg k ok h2 with⟨rfl,_⟩|⟨hk,hk'⟩
  ·rfl
  ·rw[hsp,hs k hk]at e;exact absurd e.symm (hq k ok hk').2.1
  ·rw[hsp,hs j hj]at e;exact absurd e (hq j oj hj').2.1
  ·rw[hs j hj,hs k hk]at e;exact e
 ·intro k o h
  rw[hnn]
  rcases hg k o h with⟨rfl,rfl⟩|⟨hk,hk'⟩
  ·refine⟨Nat.lt_succ_self _,.inr ?_⟩
   rw[hsp];exact hT
  ·refine⟨Nat.lt_succ_of_lt hk,?_⟩
   rcases(hq k o hk').2.2 with h|h
   ·exact .inl ⟨hk,h.1,h.2⟩
   ·rw[hs k hk];exact .inr h
theorem tdiv16{x:Int}(h:-64<=x/\x<=64): -4<=x.tdiv 16/\x.tdiv 16<=4:=by
 rcases Int.le_total 0 x with h0|h0
 ·rw[Int.tdiv_eq_ediv_of_nonneg h0];omega
 ·have:x.tdiv 16=-((-x).tdiv 16):=by rw[Int.neg_tdiv,Int.neg_neg]
  rw[this,Int.tdiv_eq_ediv_of_nonneg (by omega)];omega
theorem Q1t(row:List V0b)(o:Int): (0<=(rowInput row o).Buttons/\(rowInput row o).Buttons<=255)/\(-64<=(rowInput row o).X/\(rowInput row o).X<=64)/\(-64<=(rowInput row o).Y/\(rowInput row o).Y<=64):=by
 unfold rowInput
 split
 ·simp[Z0a.zero]
 ·exact⟨K0g (by omega),K0g (by omega),K0g (by omega)⟩
theorem run_len64: ∀(k:Nat) (m r:Q0b),Mach.run k m=.ok r->0<=m.at_->r.e_.Shots.l.length<=m.e_.Shots.l.length+k
 |k,m,r,h,ha=>by
  unfold Mach.run at h
  by_cases hlt:m.at_<m.l_.l.length
  ·rw[if_pos hlt]at h
   cases k with
   |zero=>cases h
   |succ k=>
    simp only at h
    cases hd:Mach.doOp m (nth m.l_.l m.at_.toNat) with
    |error c=>rw[hd]at h;cases h
    |ok x=>
     obtain⟨m2,n⟩:=x
     rw[hd]at h
     simp only at h
     have kk:=Mach.doOp_keeps hd ha hlt
     have:=run_len64 k _ r h kk.2.2.2.2.1
     simp only at this
     omega
  ·rw[if_neg hlt]at h;cases h;omega
theorem Y1y(L:List Z0b)(e:V0d): (runL L e).1.Shots.l.length<=e.Shots.l.length+64:=by
 have hc:(copiedE e).Shots.l.length=e.Shots.l.length:=by simp[copiedE,Y0w]
 unfold runL ruleRun
 split
 ·simp only[hc];omega
 ·cases hq:Mach.run 64 ⟨copiedE e,⟨.view,L,nofun⟩,0⟩ with
  |error c=>simp only[hc];omega
  |ok m=>have:=run_len64 64 _ m hq (by simp);simp only[hc]at this;exact this
theorem X1u(rules:List Z0b)(row:List V0b)(dice room:Int)(b:Q0a): (playerTurn rules row dice room b).shots.length<=64:=by
 unfold playerTurn
 split
 ·have:=Y1y rules (playerEnv row dice room b)
  simpa[playerEnv]using this
 ·simp
theorem X10(rules:List Z0b)(row:List V0b)(s:V0a): ∀k,(turnsS rules row s k).2.length<=64*k
 |0=>by simp[turnsS]
 |k+1=>by
  have ih:=X10 rules row s k
  have hb:∀d r,(bodyTurn rules row d r (nth s.Bodies k)).shots.length<=64:=by
   intro d r
   unfold bodyTurn
   split
   ·exact X1u ..
   ·simp
  simp only[turnsS,turnStep,List.length_append]
  have:=hb (turnsS rules row s k).1.Dice (freeN (turnsS rules row s k).1.Bodies-(turnsS rules row s k).2.length)
  omega
theorem V0j{α:Type}[Inhabited α]{l:List α}{k j:Nat}{x:α}(h:j≠k): nth (l.set k x) j=nth l j:=by
 simp only[nth,List.getElem?_set_ne (Ne.symm h)]
theorem K0i{α:Type}[Inhabited α]{l:List α}{k:Nat}{x:α}(h:k<l.length): nth (l.set k x) k=x:=by
 simp[nth,h]
structure HitOk(s:V0a): Prop where
 own:∀j,j<16->(nth s.Bodies j).Kind=2->0<=(nth s.Bodies j).Owner/\(nth s.Bodies j).Owner<=7
 score:∀j,j<8->0<=nth s.Score j/\nth s.Score j<=2147483647
theorem HitOk.put{s:V0a}(h:HitOk s)(k:Nat)(b:Q0a)(hb:b.Kind=2->0<=b.Owner/\b.Owner<=7): HitOk (s.put_2k k b):=by
 refine⟨fun j hj=>?_,h.score⟩
 show(nth (s.Bodies.set k b) j).Kind=2->_/\(nth (s.Bodies.set k b) j).Owner<=7
 by_cases e:j=k
 ·subst e
  show _->0<=(nth (s.Bodies.set j b) j).Owner/\_
  rw[K0i (by rw[s.hBodies];exact hj)];exact hb
 ·show _->0<=(nth (s.Bodies.set k b) j).Owner/\_
  rw[V0j e];exact h.own j hj
theorem HitOk.putS{s:V0a}(h:HitOk s)(k:Nat)(n:Int)(hn:0<=n/\n<=2147483647): HitOk (s.put_3k k n):=by
 refine⟨h.own,fun j hj=>?_⟩
 show 0<=nth (s.Score.set k n) j/\nth (s.Score.set k n) j<=_
 by_cases e:j=k
 ·subst e;rw[K0i (by rw[s.hScore];exact hj)];exact hn
 ·rw[V0j e];exact h.score j hj
theorem hitStep_ok(players:Int){s:V0a}(h:HitOk s){k:Nat}(hk:k<16): HitOk (hitStep players s k):=by
 unfold hitStep
 simp only
 split
 ·exact h
 ·rename_i hK
  have hK:(nth s.Bodies k).Kind=2:=by simpa using hK
  split
  ·exact h
  ·have ho:=h.own k hk hK
   refine HitOk.put (HitOk.put (HitOk.putS h _ _ ?_) _ _ (by simp[Q0a.zero])) _ _ (by simp[again,bodyBorn])
   have:=h.score (nth s.Bodies k).Owner.toNat (by omega)
   omega
theorem hitsS_ok(players:Int){s:V0a}(h:HitOk s): ∀k,k<=16->HitOk (hitsS players s k)
 |0,_=>h
 |k+1,hk=>hitStep_ok players (hitsS_ok players h k (by omega)) (by omega)
theorem V09: Body.right Q0a.zero=true:=by decide
theorem X1d{a v:Int}(hv:-64<=v/\v<=64): (0<=(bounce a v).1/\(bounce a v).1<=4095)/\(-64<=(bounce a v).2/\(bounce a v).2<=64):=by
 have hb:=K0g (n:=a) (lo:=0) (hi:=4095) (by omega)
 unfold bounce
 split
 ·rename_i h;rw[h]at hb;exact⟨hb,hv⟩
 ·have:w64 (-v)=-v:=Z0l (by omega) (by omega)
  simp only[this];exact⟨hb,by omega⟩
theorem Q1y{b:Q0a}(h:Body.right b=true): Body.right (bodyMove b).1=true/\((bodyMove b).1=Q0a.zero/\b.Kind≠1\/(bodyMove b).1.Kind=b.Kind/\(bodyMove b).1.Owner=b.Owner):=by
 by_cases hk:b.Kind=0
 ·have:bodyMove b=(Q0a.zero,false):=by simp[bodyMove,hk]
  rw[this];exact⟨V09,.inl ⟨rfl,by omega⟩⟩
 ·have r:=(Q0h hk).1 h
  obtain⟨r1,r2,r3,r4,r5,r6,r7,r8,r9⟩:=r
  unfold bodyMove
  rw[if_pos ⟨h,hk⟩]
  have hx:=X1d (a:=b.X+b.VX) r6
  have hy:=X1d (a:=b.Y+b.VY) r7
  split
  ·rename_i h1
   exact⟨(Q0h (by simpa using hk)).2 ⟨r1,r2,r3,hx.1,hy.1,hx.2,hy.2,by simp only;omega,r9⟩,.inr ⟨rfl,rfl⟩⟩
  ·rename_i h1
   split
   ·exact⟨V09,.inl ⟨rfl,h1⟩⟩
   ·rename_i h2
    simp only[not_or,Bool.not_eq_false]at h2
    have w1:=K0a h2.2.1
    have w2:=K0a h2.2.2
    exact⟨(Q0h (by simpa using hk)).2 ⟨r1,r2,r3,w1,w2,r6,r7,by simp only;omega,r9⟩,.inr ⟨rfl,rfl⟩⟩
theorem push_right{b:Q0a}(h:Body.right b=true)(hk:b.Kind≠0)(x y:Int): Body.right (bodyPush b x y)=true/\(bodyPush b x y).Kind=b.Kind/\(bodyPush b x y).Owner=b.Owner:=by
 obtain⟨r1,r2,r3,r4,r5,r6,r7,r8,r9⟩:=(Q0h hk).1 h
 unfold bodyPush
 rw[if_pos ⟨h,hk⟩]
 exact⟨(Q0h (by simpa using hk)).2 ⟨r1,r2,r3,r4,r5,K0g (by omega),K0g (by omega),r8,r9⟩,rfl,rfl⟩
theorem Z1f(rules:List Z0b)(row:List V0b)(dice room:Int){b:Q0a}(h:Body.right b=true)(hk:b.Kind=1)(hr:0<=room):
  Body.right (playerTurn rules row dice room b).body=true/\(playerTurn rules row dice room b).body.Kind=1/\(playerTurn rules row dice room b).body.Owner=b.Owner /\
  ((playerTurn rules row dice room b).shots.length:Int)<=room/\∀s∈(playerTurn rules row dice room b).shots,Body.right s=true/\s.Kind=2/\s.Owner=b.Owner:=by
 have hp:=push_right h (by omega) ((rowInput row b.Owner).X.tdiv 16) ((rowInput row b.Owner).Y.tdiv 16)
 have hek:(playerEnv row dice room b).Body.Kind≠0:=by show(bodyPush _ _ _).Kind≠0;rw[hp.2.1];omega
 have hi:InvE (playerEnv row dice room b) (copiedE (playerEnv row dice room b)):=by
  refine⟨hp.1,rfl,rfl,rfl,rfl,rfl,rfl,?_,?_⟩
  ·simpa[copiedE,Y0w,playerEnv]using hr
  ·intro s hs;simp[copiedE,Y0w,playerEnv]at hs
 have iv:=run_inv hek 64 ⟨copiedE (playerEnv row dice room b),⟨.view,rules,nofun⟩,0⟩ hi (by simp)
 unfold playerTurn
 by_cases ho:(runL rules (playerEnv row dice room b)).2.2=true
 ·simp only[ho,if_true]
  have hq:∃m,Mach.run 64 ⟨copiedE (playerEnv row dice room b),⟨.view,rules,nofun⟩,0⟩=.ok m/\(runL rules (playerEnv row dice room b)).1=m.e_:=by
   unfold runL ruleRun at ho ⊢
   split at ho
   ·cases ho
   ·rename_i hn
    rw[if_neg hn]
    cases hm:Mach.run 64 ⟨copiedE (playerEnv row dice room b),⟨.view,rules,nofun⟩,0⟩ with
    |error c=>rw[hm]at ho;cases ho
    |ok m=>exact⟨m,rfl,rfl⟩
  obtain⟨m,hm,he⟩:=hq
  rw[hm]at iv
  rw[he]
  have hb1:(playerEnv row dice room b).Body.Kind=1:=by show(bodyPush _ _ _).Kind=1;rw[hp.2.1,hk]
  have hb2:(playerEnv row dice room b).Body.Owner=b.Owner:=hp.2.2
  exact⟨iv.right,by rw[iv.kind,hb1],by rw[iv.owner,hb2],iv.len,fun s hs=>⟨(iv.shots s hs).1,(iv.shots s hs).2.1,by rw[(iv.shots s hs).2.2,hb2]⟩⟩
 ·simp only[ho,Bool.false_eq_true,if_false]
  obtain⟨r1,r2,r3,r4,r5,r6,r7,r8,r9⟩:=(Q0h (by omega)).1 h
  refine⟨(Q0h (by simp only;omega)).2 ⟨r1,r2,r3,r4,r5,r6,r7,r8,by simp only;omega⟩,hk,trivial,by simpa using hr,by simp⟩
theorem freeN_set{l:List Q0a}{k:Nat}{x:Q0a}(hk:k<l.length)(h:(nth l k).Kind=0->x.Kind=0): freeN l<=freeN (l.set k x):=by
 induction l generalizing k with
 |nil=>simp at hk
 |cons a l ih=>
  cases k with
  |zero=>
   have h:a.Kind=0->x.Kind=0:=h
   simp only[List.set_cons_zero,freeN,List.filter_cons]
   by_cases ha:a.Kind=0
   ·simp[ha,h ha]
   ·simp only[ha,decide_false,Bool.false_eq_true,if_false]
    by_cases hx:x.Kind=0
    ·simp only[hx,decide_true,if_true,List.length_cons];omega
    ·simp[hx]
  |succ k=>
   have:=ih (k:=k) (by simpa using hk) h
   simp only[List.set_cons_succ,freeN,List.filter_cons]at this ⊢
   by_cases ha:a.Kind=0
   ·simp only[ha,decide_true,if_true,List.length_cons];omega
   ·simpa[ha]using this
def Placed(players:Int)(l:List Q0a): Prop:=∀k,k<16->rightAt players k (nth l k)=true
theorem Q0x{players:Int}{k:Nat}{b:Q0a}(h:rightAt players k b=true): Body.right b=true:=by
 simp only[rightAt,Bool.and_eq_true]at h;exact h.1
structure TurnOk(players:Int)(was:List Q0a)(k:Nat)(st:V0a×List Q0a): Prop where
 placed:Placed players st.1.Bodies
 rest:∀j,k<=j->nth st.1.Bodies j=nth was j
 shots:∀s∈st.2,Body.right s=true/\s.Kind=2/\s.Owner<players
 room:st.2.length<=freeN st.1.Bodies
theorem rightAt_move{players:Int}{k:Nat}{b b':Q0a}(h:rightAt players k b=true)(hr:Body.right b'=true)(hk:b'.Kind=b.Kind)(ho:b'.Owner=b.Owner): rightAt players k (bodyMove b').1=true:=by
 have hm:=Q1y hr
 unfold rightAt at h ⊢
 simp only[Bool.and_eq_true]at h ⊢
 refine⟨hm.1,?_⟩
 by_cases hp:(k:Int)<players
 ·rw[if_pos hp]at h ⊢
  simp only[Bool.and_eq_true,decide_eq_true_eq]at h ⊢
  rcases hm.2 with⟨_,h2⟩|⟨h1,h2⟩
  ·omega
  ·rw[h1,h2,hk,ho];exact h.2
 ·rw[if_neg hp]at h ⊢
  simp only[Bool.or_eq_true,Bool.and_eq_true,decide_eq_true_eq]at h ⊢
  rcases hm.2 with⟨h1,_⟩|⟨h1,h2⟩
  ·left;rw[h1];rfl
  ·rw[h1,h2,hk,ho];exact h.2
theorem Q1u(rules:List Z0b)(row:List V0b)(dice room:Int){b:Q0a}(h:Body.right b=true)(hr:0<=room):
  Body.right (bodyTurn rules row dice room b).body=true/\(bodyTurn rules row dice room b).body.Kind=b.Kind/\(bodyTurn rules row dice room b).body.Owner=b.Owner /\
  ((bodyTurn rules row dice room b).shots.length:Int)<=room/\∀s∈(bodyTurn rules row dice room b).shots,Body.right s=true/\s.Kind=2/\s.Owner=b.Owner/\b.Kind=1:=by
 unfold bodyTurn
 split
 ·rename_i hk
  obtain⟨h1,h2,h3,h4,h5⟩:=Z1f rules row dice room h hk hr
  exact⟨h1,by rw[h2,hk],h3,h4,fun s hs=>⟨(h5 s hs).1,(h5 s hs).2.1,(h5 s hs).2.2,hk⟩⟩
 ·exact⟨h,rfl,rfl,by simpa using hr,by simp⟩
theorem turnStep_ok{players:Int}(rules:List Z0b)(row:List V0b){was:List Q0a}{k:Nat}(hk:k<16){st:V0a×List Q0a}(h:TurnOk players was k st): TurnOk players was (k+1) (turnStep rules row was st k):=by
 have hb:=st.1.hBodies
 have hw:=h.rest k (Nat.le_refl _)
 have hpl:=h.placed k hk
 rw[hw]at hpl
 have hroom:(0:Int)<=(freeN st.1.Bodies:Int)-st.2.length:=by have:=h.room;omega
 obtain⟨t1,t2,t3,t4,t5⟩:=Q1u rules row st.1.Dice (freeN st.1.Bodies-st.2.length) (Q0x hpl) hroom
 have hmv:=rightAt_move hpl t1 t2 t3
 have hm:=Q1y t1
 refine⟨fun j hj=>?_,fun j hj=>?_,fun s hs=>?_,?_⟩
 ·show rightAt players j (nth (st.1.Bodies.set k _) j)=true
  by_cases e:j=k
  ·subst e;rw[K0i (by omega)];exact hmv
  ·rw[V0j e];exact h.placed j hj
 ·show nth (st.1.Bodies.set k _) j=_
  rw[V0j (by omega)];exact h.rest j (by omega)
 ·rcases List.mem_append.1 hs with h1|h1
  ·exact h.shots s h1
  ·obtain⟨a1,a2,a3,a4⟩:=t5 s h1
   refine⟨a1,a2,?_⟩
   rw[a3]
   unfold rightAt at hpl
   simp only[Bool.and_eq_true]at hpl
   have:=hpl.2
   by_cases hp:(k:Int)<players
   ·rw[if_pos hp]at this;simp only[Bool.and_eq_true,decide_eq_true_eq]at this;omega
   ·rw[if_neg hp]at this;simp only[Bool.or_eq_true,Bool.and_eq_true,decide_eq_true_eq]at this;omega
 ·show(st.2++_).length<=freeN (st.1.Bodies.set k _)
  rw[List.length_append]
  have hf:=freeN_set (l:=st.1.Bodies) (k:=k) (x:=(bodyMove (bodyTurn rules row st.1.Dice (freeN st.1.Bodies-st.2.length) (nth was k)).body).1) (by omega) (fun h0=>by
   rw[hw]at h0
   rcases hm.2 with⟨e,_⟩|⟨e,_⟩
   ·rw[e];rfl
   ·rw[e,t2];exact h0)
  omega
theorem X1n{players:Int}(rules:List Z0b)(row:List V0b){s:V0a}(h:Placed players s.Bodies): ∀k,k<=16->TurnOk players s.Bodies k (turnsS rules row s k)
 |0,_=>⟨h,fun _ _=>rfl,by simp[turnsS],by simp[turnsS]⟩
 |k+1,hk=>turnStep_ok rules row (by omega) (X1n rules row h k (by omega))
structure SetOk(players:Int)(st:V0a×List Q0a): Prop where
 placed:Placed players st.1.Bodies
 shots:∀s∈st.2,Body.right s=true/\s.Kind=2/\s.Owner<players
theorem setStep_ok{players:Int}{st:V0a×List Q0a}(h:SetOk players st){k:Nat}(hk:k<16): SetOk players (setStep st k):=by
 have hb:=st.1.hBodies
 unfold setStep
 split
 ·exact h
 ·rename_i x sh he
  split
  ·rename_i h0
   have hx:=h.shots x (by rw[he];simp)
   refine⟨fun j hj=>?_,fun s hs=>h.shots s (by rw[he];simp[hs])⟩
   show rightAt players j (nth (st.1.Bodies.set k x) j)=true
   by_cases e:j=k
   ·subst e
    rw[K0i (by omega)]
    have hp:=h.placed j hj
    unfold rightAt at hp ⊢
    simp only[Bool.and_eq_true]at hp ⊢
    refine⟨hx.1,?_⟩
    have hp:=hp.2
    by_cases hpl:(j:Int)<players
    ·rw[if_pos hpl]at hp;simp only[Bool.and_eq_true,decide_eq_true_eq]at hp;omega
    ·rw[if_neg hpl];simp[hx.2.1,hx.2.2]
   ·rw[V0j e];exact h.placed j hj
  ·exact h
theorem setsS_ok{players:Int}{st:V0a×List Q0a}(h:SetOk players st): ∀k,k<=16->SetOk players (setsS st k)
 |0,_=>h
 |k+1,hk=>setStep_ok (setsS_ok h k (by omega)) (by omega)
theorem Q00(rules:List Z0b)(row:List V0b)(s:V0a): ∀k,(turnsS rules row s k).1.Score=s.Score/\(turnsS rules row s k).1.Frame=s.Frame
 |0=>⟨rfl,rfl⟩
 |k+1=>Q00 rules row s k
theorem Y03(st:V0a×List Q0a): ∀k,(setsS st k).1.Score=st.1.Score/\(setsS st k).1.Frame=st.1.Frame/\(setsS st k).1.Dice=st.1.Dice
 |0=>⟨rfl,rfl,rfl⟩
 |k+1=>by
  have ih:=Y03 st k
  simp only[setsS,setStep]
  split
  ·exact ih
  ·split
   ·exact ih
   ·exact ih
theorem K11{players:Int}{s:V0a}(h:Placed players s.Bodies)(hs:∀j,j<8->0<=nth s.Score j/\nth s.Score j<=2147483647): HitOk s:=by
 refine⟨fun j hj hk=>?_,hs⟩
 have hr:=Q0x (h j hj)
 have:=X0l hr (by omega)
 exact this.1
theorem Q0i{c:X0a}{s:V0a}(h:stateRight c s=true): Placed c.Players s.Bodies/\(∀j,j<8->scoreAt c.Players j (nth s.Score j)=true)/\legalC c=true/\0<=s.Frame/\s.Frame<=600:=by
 simp only[stateRight,Bool.and_eq_true]at h
 obtain⟨⟨⟨h1,h2⟩,h3⟩,h4⟩:=h
 rw[X0u]at h1 h2
 refine⟨fun k hk=>?_,fun j hj=>?_,h3,K0a h4⟩
 ·have:=h1 k (by rw[s.hBodies];exact hk);simpa using this
 ·have:=h2 j (by rw[s.hScore];exact hj);simpa using this
theorem Z03{players:Int}{j:Nat}{n:Int}(h:scoreAt players j n=true): 0<=n/\n<=2147483647:=by
 simp only[scoreAt,Bool.and_eq_true]at h;exact K0a h.1
theorem step_hit{c:X0a}{s:V0a}(h:stateRight c s=true)(row:List V0b): HitOk (setsS (turnsS c.Rules.l row s 16) 16).1:=by
 obtain⟨h1,h2,_,_⟩:=Q0i h
 have ht:=X1n c.Rules.l row h1 16 (Nat.le_refl _)
 have hs:=setsS_ok (st:=turnsS c.Rules.l row s 16) ⟨ht.placed,ht.shots⟩ 16 (Nat.le_refl _)
 refine K11 hs.placed fun j hj=>?_
 rw[(Y03 _ 16).1,(Q00 _ _ _ 16).1]
 exact Z03 (h2 j hj)
def firstK(c:X0a): Nat->V0a
 |0=>{V0a.zero with Dice:=seedOf c.Seed}
 |k+1=>(firstK c k).put_2k k (bodyBorn k c.Players)
def firstS(c:X0a): V0a:=if legalC c=true then firstK c c.Players.toNat else V0a.zero
theorem Z0i{c:X0a}(h:legalC c=true): (1<=c.Players/\c.Players<=8)/\c.Rules.l.length<=16:=by
 simp only[legalC,Bool.and_eq_true]at h
 refine⟨K0a h.1.1.1.1.1,?_⟩
 have:=h.1.2
 simp only[ruleRight,Bool.and_eq_true,decide_eq_true_eq]at this
 exact this.1
theorem partL_l{α:Type}(l:List α): (partL l).l=l:=by
 unfold partL
 split
 ·rename_i h;rw[h]
 ·rfl
theorem right_all{c:X0a}{s:V0a}(h:stateRight c s=true): ∀b∈s.Bodies,Body.right b=true:=by
 intro b hb
 obtain⟨i,hi,rfl⟩:=List.getElem_of_mem hb
 have:=(Q0i h).1 i (by rw[<- s.hBodies];exact hi)
 rw[X0i hi]at this
 exact Q0x this
theorem Z10(p:Int)(t:V0a): ∀k,(hitsS p t k).Frame=t.Frame
 |0=>rfl
 |k+1=>by
  have ih:=Z10 p t k
  simp only[hitsS,hitStep]
  split
  ·exact ih
  ·split
   ·exact ih
   ·exact ih
def freeF(b:Q0a): Bool:=decide (b.Kind=0)
def placeOne(s:V0a)(x:Q0a): V0a:=if firstW freeF s.Bodies 0<0 then s else s.put_2k (firstW freeF s.Bodies 0).toNat x
def placeAll(s:V0a)(l:List Q0a): V0a:=l.foldl placeOne s
theorem Y0q{α:Type}[Inhabited α](f:α->Bool){l:List α}{k:Nat}(h:k<l.length): firstW f (l.drop k) k=if f (nth l k)=true then(k:Int)else firstW f (l.drop (k+1)) (k+1):=by
 rw[X0y h];rfl
theorem Z04{α:Type}[Inhabited α](f:α->Bool)(l:List α): ∀k,k<=l.length->(∀j,j<k->f (nth l j)=false)->firstW f (l.drop k) k=firstW f l 0
 |0,_,_=>rfl
 |k+1,hk,h=>by
  rw[<- Z04 f l k (by omega) fun j hj=>h j (by omega),Y0q f (by omega:k<l.length),if_neg (by rw[h k (by omega)];simp)]
theorem firstW_here{α:Type}[Inhabited α](f:α->Bool)(l:List α){k:Nat}(hk:k<l.length)(h:∀j,j<k->f (nth l j)=false)(hf:f (nth l k)=true): firstW f l 0=k:=by
 rw[<- Z04 f l k (by omega) h,Y0q f hk,if_pos hf]
theorem firstW_none{α:Type}[Inhabited α](f:α->Bool)(l:List α)(h:∀j,j<l.length->f (nth l j)=false): firstW f l 0=-1:=by
 rw[<- Z04 f l l.length (Nat.le_refl _) h,List.drop_length];rfl
theorem Y08{s:V0a}(h:∀j,j<16->(nth s.Bodies j).Kind≠0): ∀l,placeAll s l=s
 |[]=>rfl
 |x::l=>by
  have hp:placeOne s x=s:=by
   unfold placeOne
   rw[firstW_none freeF s.Bodies (fun j hj=>by simp[freeF,h j (by rw[s.hBodies]at hj;exact hj)]),if_pos (by omega)]
  show placeAll (placeOne s x) l=s
  rw[hp];exact Y08 h l
theorem place_inv(s:V0a)(sh:List Q0a)(h:∀x∈sh,x.Kind≠0): ∀k,k<=16->placeAll (setsS (s,sh) k).1 (setsS (s,sh) k).2=placeAll s sh/\(∀x∈(setsS (s,sh) k).2,x.Kind≠0)/\((setsS (s,sh) k).2=[]\/∀j,j<k->(nth (setsS (s,sh) k).1.Bodies j).Kind≠0)
 |0,_=>⟨rfl,h,.inr fun j hj=>absurd hj (by omega)⟩
 |k+1,hk=>by
  obtain⟨h1,h2,h3⟩:=place_inv s sh h k (by omega)
  show placeAll (setStep (setsS (s,sh) k) k).1 (setStep (setsS (s,sh) k) k).2=_/\(∀x∈(setStep (setsS (s,sh) k) k).2,_)/\((setStep (setsS (s,sh) k) k).2=[]\/∀j,j<k+1->(nth (setStep (setsS (s,sh) k) k).1.Bodies j).Kind≠0)
  generalize setsS (s,sh) k=st at h1 h2 h3
  obtain⟨t,l⟩:=st
  cases l with
  |nil=>exact⟨h1,h2,.inl rfl⟩
  |cons x l=>
   have h3:∀j,j<k->(nth t.Bodies j).Kind≠0:=h3.resolve_left (by simp)
   have hb:=t.hBodies
   simp only[setStep]
   by_cases h0:(nth t.Bodies k).Kind=0
   ·rw[if_pos h0]
    have hf:firstW freeF t.Bodies 0=k:=firstW_here freeF t.Bodies (by omega) (fun j hj=>by simp[freeF,h3 j hj]) (by simp[freeF,h0])
    refine⟨?_,fun y hy=>h2 y (by simp[hy]),.inr fun j hj=>?_⟩
    ·rw[<- h1]
     show _=placeAll (placeOne t x) l
     unfold placeOne
     rw[hf,if_neg (by omega)];rfl
    ·show(nth (t.Bodies.set k x) j).Kind≠0
     by_cases e:j=k
     ·subst e;rw[K0i (by omega)];exact h2 x (by simp)
     ·rw[V0j e];exact h3 j (by omega)
   ·rw[if_neg h0]
    refine⟨h1,h2,.inr fun j hj=>?_⟩
    by_cases e:j=k
    ·subst e;exact h0
    ·exact h3 j (by omega)
theorem place_sets(s:V0a)(sh:List Q0a)(h:∀x∈sh,x.Kind≠0): (setsS (s,sh) 16).1=placeAll s sh:=by
 obtain⟨h1,_,h3⟩:=place_inv s sh h 16 (by omega)
 rw[<- h1]
 rcases h3 with h3|h3
 ·rw[h3];rfl
 ·exact(Y08 h3 _).symm
theorem X07(s:V0a)(l:List Q0a)(x:Q0a): placeAll s (l++[x])=placeOne (placeAll s l) x:=by simp[placeAll]
theorem Y0v{α:Type}[Inhabited α]{l:List α}{k:Nat}(h:k<l.length): l.take (k+1)=l.take k++[nth l k]:=by
 rw[List.take_add_one,Q0s h];rfl
theorem hit_swap{x b:Q0a}(h1:x.Kind=1)(h2:b.Kind=2): bodyHit b x=bodyHit x b:=by simp[bodyHit,h1,h2]
def strikeF(b:Q0a)(a:Q0a): Bool:=decide (a.Kind=1)&&bodyHit a b
def HitAt(players:Int)(s:V0a)(i k:Nat)(t:V0a): Prop:=
 (t=s/\firstW (strikeF (nth s.Bodies i)) (s.Bodies.drop k) k=struckL s.Bodies (nth s.Bodies i))\/(t=hitStep players s i/\(nth t.Bodies i).Kind≠2)
theorem HitAt.start(players:Int)(s:V0a)(i:Nat): HitAt players s i 0 s:=.inl ⟨rfl,rfl⟩
theorem HitAt.ended{players:Int}{s:V0a}{i k:Nat}{t:V0a}(h:HitAt players s i k t)(he:(nth t.Bodies i).Kind≠2\/k=16): t=hitStep players s i:=by
 rcases h with⟨rfl,h⟩|⟨h,_⟩
 ·unfold hitStep
  simp only
  by_cases hK:(nth t.Bodies i).Kind=2
  ·have hk:k=16:=he.resolve_left (by simp[hK])
   rw[hk,List.drop_eq_nil_of_le (by rw[t.hBodies];omega)]at h
   rw[if_neg (by simp[hK]),<- h,if_pos (by simp[firstW])]
  ·rw[if_pos hK]
 ·exact h
theorem HitAt.miss{players:Int}{s:V0a}{i k:Nat}{t:V0a}(h:HitAt players s i k t)(hk:k<16)(hK:(nth t.Bodies i).Kind=2)(hx:strikeF (nth t.Bodies i) (nth t.Bodies k)=false): HitAt players s i (k+1) t:=by
 rcases h with⟨rfl,h⟩|⟨_,h⟩
 ·refine .inl ⟨rfl,?_⟩
  rw[Y0q _ (by rw[t.hBodies];omega),if_neg (by rw[hx];simp)]at h
  exact h
 ·exact absurd hK h
theorem HitAt.hit{players:Int}{s:V0a}{i k:Nat}{t:V0a}(h:HitAt players s i k t)(hi:i<16)(hk:k<16)(hK:(nth t.Bodies i).Kind=2)(hx:strikeF (nth t.Bodies i) (nth t.Bodies k)=true):
  t=s/\HitAt players s i (k+1) (((t.put_3k (nth t.Bodies i).Owner.toNat (min (nth t.Score (nth t.Bodies i).Owner.toNat+1) 2147483647)).put_2k i Q0a.zero).put_2k k (again players (nth t.Bodies k))):=by
 rcases h with⟨rfl,h⟩|⟨_,h⟩
 ·refine⟨rfl,.inr ?_⟩
  rw[Y0q _ (by rw[t.hBodies];omega),if_pos hx]at h
  have hx1:(nth t.Bodies k).Kind=1:=by simp only[strikeF,Bool.and_eq_true,decide_eq_true_eq]at hx;exact hx.1
  have hne:k≠i:=by intro e;subst e;omega
  have hb:=t.hBodies
  have hn:nth (t.Bodies.set i Q0a.zero) k=nth t.Bodies k:=V0j hne
  have hs:hitStep players t i=(((t.put_3k (nth t.Bodies i).Owner.toNat (min (nth t.Score (nth t.Bodies i).Owner.toNat+1) 2147483647)).put_2k i Q0a.zero).put_2k k (again players (nth t.Bodies k))):=by
   unfold hitStep
   simp only
   rw[if_neg (by simp[hK]),<- h,if_neg (by omega)]
   simp only[Int.toNat_natCast]
   show V0a.put_2k _ k (again players (nth (t.Bodies.set i Q0a.zero) k))=_
   rw[hn]
  refine⟨hs.symm,?_⟩
  show(nth ((t.Bodies.set i Q0a.zero).set k _) i).Kind≠2
  rw[V0j (Ne.symm hne),K0i (by omega)]
  simp[Q0a.zero]
 ·exact absurd hK h
def PlaceAt(s:V0a)(x:Q0a)(k:Nat)(d:Bool)(t:V0a): Prop:=
 (d=false/\t=s/\firstW freeF (s.Bodies.drop k) k=firstW freeF s.Bodies 0)\/(d=true/\t=placeOne s x)
theorem PlaceAt.start(s:V0a)(x:Q0a): PlaceAt s x 0 false s:=.inl ⟨rfl,rfl,rfl⟩
theorem PlaceAt.ended{s:V0a}{x:Q0a}{k:Nat}{d:Bool}{t:V0a}(h:PlaceAt s x k d t)(he:d=true\/k=16): t=placeOne s x:=by
 rcases h with⟨rfl,rfl,h⟩|⟨_,h⟩
 ·have hk:k=16:=he.resolve_left (by simp)
  rw[hk,List.drop_eq_nil_of_le (by rw[t.hBodies];omega)]at h
  unfold placeOne
  rw[<- h,if_pos (by simp[firstW])]
 ·exact h
theorem PlaceAt.miss{s:V0a}{x:Q0a}{k:Nat}{t:V0a}(h:PlaceAt s x k false t)(hk:k<16)(hK:(nth t.Bodies k).Kind≠0): PlaceAt s x (k+1) false t:=by
 rcases h with⟨_,rfl,h⟩|⟨h,_⟩
 ·refine .inl ⟨rfl,rfl,?_⟩
  rw[Y0q _ (by rw[t.hBodies];omega),if_neg (by simp[freeF,hK])]at h
  exact h
 ·cases h
theorem PlaceAt.hit{s:V0a}{x:Q0a}{k:Nat}{t:V0a}(h:PlaceAt s x k false t)(hk:k<16)(hK:(nth t.Bodies k).Kind=0): PlaceAt s x (k+1) true (t.put_2k k x):=by
 rcases h with⟨_,rfl,h⟩|⟨h,_⟩
 ·refine .inr ⟨rfl,?_⟩
  rw[Y0q _ (by rw[t.hBodies];omega),if_pos (by simp[freeF,hK])]at h
  unfold placeOne
  rw[<- h,if_neg (by omega)];rfl
 ·cases h
theorem step_place{c:X0a}{s:V0a}(h:stateRight c s=true)(row:List V0b): (setsS (turnsS c.Rules.l row s 16) 16).1=placeAll (turnsS c.Rules.l row s 16).1 (turnsS c.Rules.l row s 16).2:=by
 have ht:=(X1n c.Rules.l row (Q0i h).1 16 (Nat.le_refl _)).shots
 exact place_sets _ _ fun x hx=>by rw[(ht x hx).2.1];omega
theorem freeN_le(s:V0a): freeN s.Bodies<=16:=by
 have:=List.length_filter_le (fun b:Q0a=>decide (b.Kind=0)) s.Bodies
 rw[s.hBodies]at this;exact this
theorem K1p(players:Int)(k:Nat)(b:Q0a): rightAt players k b=true ↔ Body.right b=true/\(b.Kind=0\/¬players<=b.Owner)/\(decide (b.Kind=1)=decide ((k:Int)<players))/\(¬(k:Int)<players\/b.Owner=k):=by
 have hk3:Body.right b=true->b.Kind=0\/b.Kind=1\/b.Kind=2:=fun h=>by
  by_cases h0:b.Kind=0
  ·exact .inl h0
  ·exact .inr (X0l h h0).2.2.2.2.2.2.2
 unfold rightAt
 rw[Bool.and_eq_true]
 refine and_congr_right fun h1=>?_
 have h3:=hk3 h1
 by_cases hp:(k:Int)<players
 ·rw[if_pos hp]
  simp only[Bool.and_eq_true,decide_eq_true_eq,hp,decide_true]
  constructor
  ·rintro⟨a,e⟩;exact⟨.inr (by omega),a,.inr e⟩
  ·rintro⟨_,a,e⟩
   refine⟨a,?_⟩
   rcases e with e|e
   ·exact absurd trivial e
   ·exact e
 ·rw[if_neg hp]
  simp only[Bool.or_eq_true,Bool.and_eq_true,decide_eq_true_eq,hp,decide_false,decide_eq_false_iff_not]
  constructor
  ·rintro(a|⟨a,e⟩)
   ·exact⟨.inl a,by omega,.inl (by simp)⟩
   ·exact⟨.inr (by omega),by omega,.inl (by simp)⟩
  ·rintro⟨a,e,_⟩
   rcases h3 with h|h|h
   ·exact .inl h
   ·exact absurd h e
   ·exact .inr ⟨h,by omega⟩
theorem tok_step{l:List Int}{i:Nat}(h:i<l.length): tokGo (l.take i) (l.drop i)=(within (nth l i) 0 2147483646&&!(l.take i).contains (nth l i)&&tokGo (l.take (i+1)) (l.drop (i+1))):=by
 rw[X0y h,Y0v h];rfl
theorem tok_in{l:List Int}{i k:Nat}(hk:k<i)(hi:i<l.length)(h:nth l k=nth l i): tokGo (l.take i) (l.drop i)=false:=by
 rw[tok_step hi]
 have:(l.take i).contains (nth l i)=true:=by
  rw[List.contains_iff_mem,<- h,X0i (by omega:k<l.length)]
  exact List.mem_take_iff_getElem.2 ⟨k,by omega,rfl⟩
 rw[this];simp
theorem tok_out{l:List Int}{i:Nat}(hi:i<l.length)(h:∀k,k<i->nth l k≠nth l i): (l.take i).contains (nth l i)=false:=by
 cases e:(l.take i).contains (nth l i) with
 |false=>rfl
 |true=>
  rw[List.contains_iff_mem]at e
  obtain⟨k,hk,he⟩:=List.mem_take_iff_getElem.1 e
  have hk2:k<i:=by omega
  exact absurd (by rw[X0i (by omega:k<l.length)];exact he) (h k hk2)
def bitAt(v:Int)(i:Nat): Bool:=decide (v/2^i % 2=1)
def bitsOf(v:Int): Nat->List Bool
 |0=>[]
 |n+1=>bitAt v n::bitsOf v n
theorem Y0e(v:Int): ∀n,(bitsOf v n).length=n
 |0=>rfl
 |n+1=>by simp[bitsOf,Y0e v n]
def b2i(b:Bool): Int:=if b then 1 else 0
def gb(l:List Bool)(k:Nat): Bool:=l[k]?.getD false
theorem X03{l:List Bool}{k:Nat}(h:l.length<=k): gb l k=false:=by simp[gb,List.getElem?_eq_none h]
theorem gb_snoc(l:List Bool)(b:Bool)(k:Nat): gb (l++[b]) k=if k=l.length then b else gb l k:=by
 unfold gb
 by_cases h:k<l.length
 ·rw[List.getElem?_append_left h,if_neg (by omega)]
 ·by_cases e:k=l.length
  ·subst e;simp
  ·rw[if_neg e,List.getElem?_eq_none (by simp;omega),List.getElem?_eq_none (by omega)]
theorem gb_app(l m:List Bool)(k:Nat): gb (l++m) k=if k<l.length then gb l k else gb m (k-l.length):=by
 unfold gb
 by_cases h:k<l.length
 ·rw[List.getElem?_append_left h,if_pos h]
 ·rw[List.getElem?_append_right (by omega),if_neg h]
def byteAt(l:List Bool)(i:Nat): Int:=b2i (gb l (8*i))*128+b2i (gb l (8*i+1))*64+b2i (gb l (8*i+2))*32+b2i (gb l (8*i+3))*16+b2i (gb l (8*i+4))*8+b2i (gb l (8*i+5))*4+b2i (gb l (8*i+6))*2+b2i (gb l (8*i+7))
theorem K0o(b:Bool): 0<=b2i b/\b2i b<=1:=by cases b<;>simp[b2i]
theorem Y00(l:List Bool)(i:Nat): 0<=byteAt l i/\byteAt l i<=255:=by
 unfold byteAt
 have h0:=K0o (gb l (8*i));have h1:=K0o (gb l (8*i+1));have h2:=K0o (gb l (8*i+2));have h3:=K0o (gb l (8*i+3))
 have h4:=K0o (gb l (8*i+4));have h5:=K0o (gb l (8*i+5));have h6:=K0o (gb l (8*i+6));have h7:=K0o (gb l (8*i+7))
 omega
def packB(l:List Bool): List Int:=(List.range ((l.length+7)/8)).map (byteAt l)
theorem V0i(l:List Bool): (packB l).length=(l.length+7)/8:=by simp[packB]
def roomB(l:List Bool): List Int:=if l.length % 8=0 then packB l++[0]else packB l
theorem K15(l:List Bool): roomB l=(List.range (l.length/8+1)).map (byteAt l):=by
 unfold roomB packB
 by_cases h:l.length % 8=0
 ·rw[if_pos h,show(l.length+7)/8=l.length/8 by omega,List.range_succ,List.map_append]
  congr 1
  simp only[List.map_cons,List.map_nil,byteAt]
  rw[X03 (by omega),X03 (by omega),X03 (by omega),X03 (by omega),X03 (by omega),X03 (by omega),X03 (by omega),X03 (by omega)];rfl
 ·rw[if_neg h,show(l.length+7)/8=l.length/8+1 by omega]
theorem K1i(l:List Bool): (roomB l).length=l.length/8+1:=by rw[K15];simp
theorem roomB_at(l:List Bool): nth (roomB l) (l.length/8)=byteAt l (l.length/8):=by
 rw[X0i (by rw[K1i];omega)]
 simp only[K15,List.getElem_map,List.getElem_range]
theorem byte_snoc_ne(l:List Bool)(b:Bool){i:Nat}(h:i<l.length/8): byteAt (l++[b]) i=byteAt l i:=by
 simp only[byteAt,gb_snoc]
 repeat rw[if_neg (by omega)]
theorem byte_snoc(l:List Bool)(b:Bool): byteAt (l++[b]) (l.length/8)=byteAt l (l.length/8)+b2i b*2^(7-l.length % 8):=by
 have hz:b2i false=0:=rfl
 have hg:∀k,l.length<=k->gb l k=false:=fun k hk=>X03 hk
 generalize hi:l.length/8=i
 simp only[byteAt,gb_snoc]
 obtain h|h|h|h|h|h|h|h:l.length % 8=0\/l.length % 8=1\/l.length % 8=2\/l.length % 8=3\/l.length % 8=4\/l.length % 8=5\/l.length % 8=6\/l.length % 8=7:=by omega
 ·rw[if_pos (show 8*i=l.length by omega)]
  repeat rw[if_neg (by omega)]
  rw[hg (8*i) (by omega),h,hz];omega
 ·rw[if_pos (show 8*i+1=l.length by omega)]
  repeat rw[if_neg (by omega)]
  rw[hg (8*i+1) (by omega),h,hz];omega
 ·rw[if_pos (show 8*i+2=l.length by omega)]
  repeat rw[if_neg (by omega)]
  rw[hg (8*i+2) (by omega),h,hz];omega
 ·rw[if_pos (show 8*i+3=l.length by omega)]
  repeat rw[if_neg (by omega)]
  rw[hg (8*i+3) (by omega),h,hz];omega
 ·rw[if_pos (show 8*i+4=l.length by omega)]
  repeat rw[if_neg (by omega)]
  rw[hg (8*i+4) (by omega),h,hz];omega
 ·rw[if_pos (show 8*i+5=l.length by omega)]
  repeat rw[if_neg (by omega)]
  rw[hg (8*i+5) (by omega),h,hz];omega
 ·rw[if_pos (show 8*i+6=l.length by omega)]
  repeat rw[if_neg (by omega)]
  rw[hg (8*i+6) (by omega),h,hz];omega
 ·rw[if_pos (show 8*i+7=l.length by omega)]
  repeat rw[if_neg (by omega)]
  rw[hg (8*i+7) (by omega),h,hz];omega
theorem pack_snoc(l:List Bool)(b:Bool): packB (l++[b])=(roomB l).set (l.length/8) (byteAt l (l.length/8)+b2i b*2^(7-l.length % 8)):=by
 have hn:((l++[b]).length+7)/8=l.length/8+1:=by simp;omega
 apply List.ext_getElem
 ·rw[V0i,List.length_set,K1i,hn]
 ·intro i h1 h2
  rw[V0i,hn]at h1
  rw[List.getElem_set]
  simp only[packB,K15,List.getElem_map,List.getElem_range]
  by_cases e:l.length/8=i
  ·rw[if_pos e,<- e,byte_snoc]
  ·rw[if_neg e,byte_snoc_ne _ _ (by omega)]
theorem byte_room(l:List Bool): byteAt l (l.length/8) % 2^(8-l.length % 8)=0:=by
 have hz:b2i false=0:=rfl
 have hg:∀k,l.length<=k->gb l k=false:=fun k hk=>X03 hk
 generalize hi:l.length/8=i
 unfold byteAt
 obtain h|h|h|h|h|h|h|h:l.length % 8=0\/l.length % 8=1\/l.length % 8=2\/l.length % 8=3\/l.length % 8=4\/l.length % 8=5\/l.length % 8=6\/l.length % 8=7:=by omega
 ·rw[h,hg (8*i) (by omega),hg (8*i+1) (by omega),hg (8*i+2) (by omega),hg (8*i+3) (by omega),hg (8*i+4) (by omega),hg (8*i+5) (by omega),hg (8*i+6) (by omega),hg (8*i+7) (by omega),hz];omega
 ·rw[h,hg (8*i+1) (by omega),hg (8*i+2) (by omega),hg (8*i+3) (by omega),hg (8*i+4) (by omega),hg (8*i+5) (by omega),hg (8*i+6) (by omega),hg (8*i+7) (by omega),hz];omega
 ·rw[h,hg (8*i+2) (by omega),hg (8*i+3) (by omega),hg (8*i+4) (by omega),hg (8*i+5) (by omega),hg (8*i+6) (by omega),hg (8*i+7) (by omega),hz];omega
 ·rw[h,hg (8*i+3) (by omega),hg (8*i+4) (by omega),hg (8*i+5) (by omega),hg (8*i+6) (by omega),hg (8*i+7) (by omega),hz];omega
 ·rw[h,hg (8*i+4) (by omega),hg (8*i+5) (by omega),hg (8*i+6) (by omega),hg (8*i+7) (by omega),hz];omega
 ·rw[h,hg (8*i+5) (by omega),hg (8*i+6) (by omega),hg (8*i+7) (by omega),hz];omega
 ·rw[h,hg (8*i+6) (by omega),hg (8*i+7) (by omega),hz];omega
 ·rw[h,hg (8*i+7) (by omega),hz];omega
def bitB(b:List Int)(k:Nat): Bool:=bitAt (nth b (k/8)) (7-k % 8)
theorem byte_bits: ∀b0 b1 b2 b3 b4 b5 b6 b7:Bool,bitAt (b2i b0*128+b2i b1*64+b2i b2*32+b2i b3*16+b2i b4*8+b2i b5*4+b2i b6*2+b2i b7) 7=b0/\bitAt (b2i b0*128+b2i b1*64+b2i b2*32+b2i b3*16+b2i b4*8+b2i b5*4+b2i b6*2+b2i b7) 6=b1/\bitAt (b2i b0*128+b2i b1*64+b2i b2*32+b2i b3*16+b2i b4*8+b2i b5*4+b2i b6*2+b2i b7) 5=b2/\bitAt (b2i b0*128+b2i b1*64+b2i b2*32+b2i b3*16+b2i b4*8+b2i b5*4+b2i b6*2+b2i b7) 4=b3/\bitAt (b2i b0*128+b2i b1*64+b2i b2*32+b2i b3*16+b2i b4*8+b2i b5*4+b2i b6*2+b2i b7) 3=b4/\bitAt (b2i b0*128+b2i b1*64+b2i b2*32+b2i b3*16+b2i b4*8+b2i b5*4+b2i b6*2+b2i b7) 2=b5/\bitAt (b2i b0*128+b2i b1*64+b2i b2*32+b2i b3*16+b2i b4*8+b2i b5*4+b2i b6*2+b2i b7) 1=b6/\bitAt (b2i b0*128+b2i b1*64+b2i b2*32+b2i b3*16+b2i b4*8+b2i b5*4+b2i b6*2+b2i b7) 0=b7:=by decide +kernel
theorem V1s(l:List Bool){k:Nat}(h:k<8*(packB l).length): bitB (packB l) k=gb l k:=by
 have hk:k/8<(packB l).length:=by omega
 unfold bitB
 rw[X0i hk]
 simp only[packB,List.getElem_map,List.getElem_range]
 have hb:=byte_bits (gb l (8*(k/8))) (gb l (8*(k/8)+1)) (gb l (8*(k/8)+2)) (gb l (8*(k/8)+3)) (gb l (8*(k/8)+4)) (gb l (8*(k/8)+5)) (gb l (8*(k/8)+6)) (gb l (8*(k/8)+7))
 unfold byteAt
 obtain⟨h0,h1,h2,h3,h4,h5,h6,h7⟩:=hb
 obtain e|e|e|e|e|e|e|e:k % 8=0\/k % 8=1\/k % 8=2\/k % 8=3\/k % 8=4\/k % 8=5\/k % 8=6\/k % 8=7:=by omega
 ·rw[e,h0];congr 1;omega
 ·rw[e,h1];congr 1;omega
 ·rw[e,h2];congr 1;omega
 ·rw[e,h3];congr 1;omega
 ·rw[e,h4];congr 1;omega
 ·rw[e,h5];congr 1;omega
 ·rw[e,h6];congr 1;omega
 ·rw[e,h7];congr 1;omega
def valB(g:Nat->Bool)(a:Nat): Nat->Int
 |0=>0
 |n+1=>2*valB g a n+b2i (g (a+n))
theorem Q0w(g:Nat->Bool)(a:Nat): ∀n,0<=valB g a n/\valB g a n<2^n
 |0=>by simp[valB]
 |n+1=>by
  have h:=Q0w g a n
  have hb:=K0o (g (a+n))
  simp only[valB]
  rw[Int.pow_succ]
  omega
theorem Z1z{g h:Nat->Bool}{a b:Nat}: ∀n,(∀i,i<n->g (a+i)=h (b+i))->valB g a n=valB h b n
 |0,_=>rfl
 |n+1,e=>by simp only[valB];rw[Z1z n fun i hi=>e i (by omega),e n (by omega)]
theorem gb_bits(v:Int): ∀n i,i<n->gb (bitsOf v n) i=bitAt v (n-1-i)
 |0,i,h=>by omega
 |n+1,0,_=>by simp[gb,bitsOf]
 |n+1,i+1,h=>by
  have ih:=gb_bits v n i (by omega)
  unfold gb at ih ⊢
  simp only[bitsOf,List.getElem?_cons_succ]
  rw[ih];congr 1;omega
theorem b2i_bit(v:Int)(i:Nat): b2i (bitAt v i)=v/2^i % 2:=by
 unfold b2i bitAt
 by_cases h:v/2^i % 2=1
 ·simp[h]
 ·have:v/2^i % 2=0:=by omega
  simp[this]
theorem emod_two(w M:Int)(hM:0<M): w % (2*M)=2*((w/2) % M)+w % 2:=by
 have h1:w=2*(w/2)+w % 2:=by omega
 have h2:w/2=M*(w/2/M)+(w/2) % M:=(Int.mul_ediv_add_emod _ _).symm
 have h3:=Int.emod_nonneg (w/2) (Int.ne_of_gt hM)
 have h4:=Int.emod_lt_of_pos (w/2) hM
 generalize (w/2) % M=r at *
 generalize w/2/M=q at *
 have h5:w=(2*r+w % 2)+(2*M)*q:=by
  rw[Int.mul_assoc];generalize M*q=z at *;omega
 have h6:w % (2*M)=(2*r+w % 2) % (2*M):=by
  conv=>lhs;rw[h5]
  exact Int.add_mul_emod_self_left ..
 rw[h6,Int.emod_eq_of_lt (by omega) (by omega)]
theorem valB_top(v:Int)(n:Nat): ∀m,m<=n->valB (gb (bitsOf v n)) 0 m=v/2^(n-m) % 2^m
 |0,_=>by simp[valB,Int.emod_one]
 |m+1,h=>by
  have ih:=valB_top v n m (by omega)
  simp only[valB,Nat.zero_add]
  rw[ih,gb_bits v n m (by omega),b2i_bit]
  have e1:n-m=n-(m+1)+1:=by omega
  have e2:n-1-m=n-(m+1):=by omega
  rw[e2,e1,Int.pow_succ,<- Int.ediv_ediv_of_nonneg (Int.le_of_lt (Int.pow_pos (by omega))),Int.pow_succ,Int.mul_comm (2^m) 2]
  exact(emod_two _ _ (Int.pow_pos (by omega))).symm
theorem valB_bits(v:Int)(n:Nat): valB (gb (bitsOf v n)) 0 n=v % 2^n:=by
 rw[valB_top v n n (Nat.le_refl _)];simp
theorem valB_of{g:Nat->Bool}{a n:Nat}{v:Int}(h:∀i,i<n->g (a+i)=gb (bitsOf v n) i): valB g a n=v % 2^n:=by
 rw[<- valB_bits]
 exact Z1z n fun i hi=>by rw[h i hi,Nat.zero_add]
def sgnB(u:Int)(n:Nat): Int:=if u<2^(n-1)then u else u-2^n
theorem sgnB_of{v:Int}{n:Nat}(hn:1<=n)(h:-(2^(n-1))<=v/\v<2^(n-1)): sgnB (v % 2^n) n=v:=by
 obtain⟨m,rfl⟩:∃m,n=m+1:=⟨n-1,by omega⟩
 simp only[Nat.add_sub_cancel]at h
 have hp:(0:Int)<2^m:=Int.pow_pos (by omega)
 unfold sgnB
 simp only[Nat.add_sub_cancel,Int.pow_succ]
 generalize (2:Int)^m=M at h hp
 by_cases h0:0<=v
 ·rw[Int.emod_eq_of_lt h0 (by omega),if_pos h.2]
 ·have e:v % (M*2)=v+M*2:=by
   rw[<- Int.add_emod_right,Int.emod_eq_of_lt (by omega) (by omega)]
  rw[e,if_neg (by omega)];omega
def orB(x:Int)(m:Nat)(b:Int): Int:=IntKind.u8.wrap (BitVec.ofInt IntKind.u8.bits x ||| BitVec.ofInt IntKind.u8.bits (IntKind.u8.wrap (IntKind.u64.wrap (b*2^min (7-(m:Int)).toNat IntKind.u64.bits)))).toNat
theorem orB_all: ∀(x:Fin 256) (m:Fin 8) (b:Bool),(x.val:Int) % 2^(8-m.val)=0->orB x.val m.val (b2i b)=x.val+b2i b*2^(7-m.val):=by decide +kernel
theorem orB_eq{x:Int}{m:Nat}{b:Bool}(hx:0<=x/\x<=255)(hm:m<8)(h:x % 2^(8-m)=0): orB x m (b2i b)=x+b2i b*2^(7-m):=by
 obtain⟨n,rfl⟩:=Int.eq_ofNat_of_zero_le hx.1
 exact orB_all ⟨n,by omega⟩ ⟨m,hm⟩ b h
theorem orB_pack(l:List Bool)(b:Bool): (roomB l).set (l.length/8) (orB (nth (roomB l) (l.length/8)) (l.length % 8) (b2i b))=packB (l++[b]):=by
 rw[pack_snoc,roomB_at,orB_eq (Y00 _ _) (by omega) (byte_room l)]
def andB(x:Int): Int:=IntKind.u64.wrap (BitVec.ofInt IntKind.u64.bits x &&&BitVec.ofInt IntKind.u64.bits 1).toNat
theorem andB_eq(x:Int): andB x=x % 2:=by
 unfold andB
 have h:(BitVec.ofInt 64 x &&&BitVec.ofInt 64 1).toNat=(x % 2).toNat:=by
  rw[BitVec.toNat_and]
  have e:(BitVec.ofInt 64 1).toNat=2^1-1:=by decide
  rw[e,Nat.and_two_pow_sub_one_eq_mod]
  simp only[BitVec.toNat_ofInt]
  omega
 show(((BitVec.ofInt 64 x &&&BitVec.ofInt 64 1).toNat:Int)) % 2^64=x % 2
 rw[h]
 omega
theorem bit_of(v:Int)(i:Nat)(h:i<=63): andB (v.fdiv (2^min i IntKind.u64.bits))=b2i (bitAt v i):=by
 have hm:min i IntKind.u64.bits=i:=Nat.min_eq_left (by show i<=64;omega)
 rw[andB_eq,hm,Int.fdiv_eq_ediv_of_nonneg _ (Int.le_of_lt (Int.pow_pos (by omega))),b2i_bit]
theorem Z1c{v w:Int}: ∀n,(∀i,i<n->bitAt v i=bitAt w i)->bitsOf v n=bitsOf w n
 |0,_=>rfl
 |n+1,h=>by simp only[bitsOf];rw[h n (by omega),Z1c n fun i hi=>h i (by omega)]
theorem bitAt_mod(v:Int){i n:Nat}(h:i<n): bitAt (v % 2^n) i=bitAt v i:=by
 unfold bitAt
 congr 1
 apply propext
 have e:(2:Int)^n=2^i*2^(n-i):=by rw[<- Int.pow_add];congr 1;omega
 have hp:(0:Int)<2^i:=Int.pow_pos (by omega)
 have h1:v % 2^n/2^i=(v/2^i) % 2^(n-i):=by
  rw[e]
  have h2:=Int.mul_ediv_add_emod v (2^i*2^(n-i))
  have h3:=Int.emod_nonneg v (b:=2^i*2^(n-i)) (by rw[<- e];exact Int.ne_of_gt (Int.pow_pos (by omega)))
  have h4:=Int.emod_lt_of_pos v (b:=2^i*2^(n-i)) (by rw[<- e];exact Int.pow_pos (by omega))
  generalize v % (2^i*2^(n-i))=r at *
  generalize v/(2^i*2^(n-i))=q at *
  have h5:v/2^i=r/2^i+2^(n-i)*q:=by
   rw[<- h2,Int.mul_assoc,Int.add_comm,Int.add_mul_ediv_left _ _ (Int.ne_of_gt hp)]
  rw[h5,Int.add_mul_emod_self_left,Int.emod_eq_of_lt (Int.ediv_nonneg h3 (Int.le_of_lt hp)) (Int.ediv_lt_of_lt_mul hp (by rw[Int.mul_comm];exact h4))]
 rw[h1]
 have h6:(2:Int)^(n-i)=2*2^(n-i-1):=by
  rw[show n-i=n-i-1+1 by omega,Int.pow_succ,Int.mul_comm];simp
 rw[h6]
 generalize v/2^i=w
 rw[Int.emod_emod_of_dvd w (Int.dvd_mul_right 2 _)]
theorem V01(v:Int){n:Nat}(h:n<=64): bitsOf (IntKind.u64.wrap v) n=bitsOf v n:=by
 refine Z1c n fun i hi=>?_
 show bitAt (v % 2^64) i=_
 exact bitAt_mod v (by omega)
theorem packB_inj{l m:List Bool}(h:l.length=m.length)(e:packB l=packB m): l=m:=by
 apply List.ext_getElem h
 intro i h1 h2
 have hk:i<8*(packB l).length:=by rw[V0i];omega
 have a:=V1s l hk
 rw[e,V1s m (by rw[<- e];exact hk)]at a
 simp only[gb,List.getElem?_eq_getElem h1,List.getElem?_eq_getElem h2,Option.getD_some]at a
 exact a.symm
def shl1(v b:Int): Int:=IntKind.u64.wrap (BitVec.ofInt IntKind.u64.bits (IntKind.u64.wrap (v*2)) ||| BitVec.ofInt IntKind.u64.bits b).toNat
theorem shl1_eq{v:Int}(h:0<=v/\v<2^63)(b:Bool): shl1 v (b2i b)=2*v+b2i b:=by
 obtain⟨n,rfl⟩:=Int.eq_ofNat_of_zero_le h.1
 have hn:n<2^63:=by have:=h.2;omega
 have e1:IntKind.u64.wrap ((n:Int)*2)=((2*n:Nat):Int):=by
  show(n:Int)*2 % 2^64=_
  omega
 unfold shl1
 rw[e1]
 have e2:(BitVec.ofInt IntKind.u64.bits ((2*n:Nat):Int) ||| BitVec.ofInt IntKind.u64.bits (b2i b)).toNat=2*n+(b2i b).toNat:=by
  show(BitVec.ofInt 64 ((2*n:Nat):Int) ||| BitVec.ofInt 64 (b2i b)).toNat=_
  rw[BitVec.toNat_or]
  simp only[BitVec.toNat_ofInt]
  have e3:(((2*n:Nat):Int) % ((2^64:Nat):Int)).toNat=2*n:=by omega
  rw[e3]
  cases b with
  |false=>simp[b2i]
  |true=>
   have e4:(b2i true % ((2^64:Nat):Int)).toNat=1:=by decide
   rw[e4]
   have:=Nat.two_pow_add_eq_or_of_lt (i:=1) (b:=1) (by decide) n
   simp only[Nat.pow_one]at this
   rw[<- this];rfl
 rw[e2]
 have hb:=K0o b
 show((2*n+(b2i b).toNat:Nat):Int) % 2^64=_
 omega
def bit8(x:Int)(m:Nat): Int:=IntKind.u8.wrap (BitVec.ofInt IntKind.u8.bits (x.fdiv (2^min (7-(m:Int)).toNat IntKind.u8.bits)) &&&BitVec.ofInt IntKind.u8.bits 1).toNat
theorem bit8_all: ∀(x:Fin 256) (m:Fin 8),bit8 x.val m.val=b2i (bitAt x.val (7-m.val)):=by decide +kernel
theorem bit8_eq{x:Int}{m:Nat}(hx:0<=x/\x<=255)(hm:m<8): bit8 x m=b2i (bitAt x (7-m)):=by
 obtain⟨n,rfl⟩:=Int.eq_ofNat_of_zero_le hx.1
 exact bit8_all ⟨n,by omega⟩ ⟨m,hm⟩
theorem sgn_of{u:Int}{n:Nat}(hn:1<=n/\n<=64)(hu:0<=u/\u<2^n): (IntKind.i64.wrap (IntKind.u64.wrap (u*2^(64-n)))).fdiv (2^(64-n))=sgnB u n:=by
 have hK:(0:Int)<2^(64-n):=Int.pow_pos (by omega)
 have e1:(2:Int)^n*2^(64-n)=18446744073709551616:=by rw[<- Int.pow_add,show n+(64-n)=64 by omega];rfl
 have e2:(2:Int)^n=2*2^(n-1):=by rw[show n=n-1+1 by omega,Int.pow_succ,Int.mul_comm];simp
 unfold sgnB
 rw[Int.fdiv_eq_ediv_of_nonneg _ (Int.le_of_lt hK)]
 generalize (2:Int)^(64-n)=K at *
 generalize (2:Int)^n=N at *
 generalize (2:Int)^(n-1)=M at *
 subst e2
 have h1:u*K<18446744073709551616:=by rw[<- e1];exact Int.mul_lt_mul_of_pos_right hu.2 hK
 have h0:0<=u*K:=Int.mul_nonneg hu.1 (Int.le_of_lt hK)
 have e3:IntKind.u64.wrap (u*K)=u*K:=by show u*K % 2^64=_;exact Int.emod_eq_of_lt h0 (by omega)
 have e4:M*K=9223372036854775808:=by
  have:2*(M*K)=18446744073709551616:=by rw[<- Int.mul_assoc];exact e1
  omega
 rw[e3]
 by_cases hc:u<M
 ·rw[if_pos hc]
  have h2:u*K<9223372036854775808:=by rw[<- e4];exact Int.mul_lt_mul_of_pos_right hc hK
  have e5:IntKind.i64.wrap (u*K)=u*K:=Z0l (by omega) (by omega)
  rw[e5,Int.mul_ediv_cancel _ (Int.ne_of_gt hK)]
 ·rw[if_neg hc]
  have h2:9223372036854775808<=u*K:=by rw[<- e4];exact Int.mul_le_mul_of_nonneg_right (by omega) (Int.le_of_lt hK)
  have e5:IntKind.i64.wrap (u*K)=u*K-18446744073709551616:=by
   have h3:u*K % (2^IntKind.i64.bits:Int)=(u*K-18446744073709551616) % (2^IntKind.i64.bits:Int):=by
    show u*K % 2^64=(u*K-18446744073709551616) % 2^64
    omega
   have h4:IntKind.i64.wrap (u*K)=IntKind.i64.wrap (u*K-18446744073709551616):=by simp only[IntKind.wrap,h3]
   rw[h4];exact Z0l (by omega) (by omega)
  have e6:u*K-18446744073709551616=(u-2*M)*K:=by rw[Int.sub_mul];rw[e1]
  rw[e5,e6,Int.mul_ediv_cancel _ (Int.ne_of_gt hK)]
end Go.Proofs.Ytpchcfkebljopaa
end
section
namespace Go.Cl
open Go.RowKit
section
variable (C:Ctx)
def St.frz(S:St)(rb:Nat)(cs:List Value): St:={S with K:=fun b o=>if b=rb then(match cs[o]? with|some v=>some v|none=>S.K b o)else S.K b o}
theorem St.frz_le{S:St}{rb:Nat}{cs:List Value}(h:∀o,S.K rb o=none): S.le (S.frz rb cs) where
 K b o v hk:=by
  show(if b=rb then _ else S.K b o)=some v
  by_cases e:b=rb
  ·subst e;rw[h o]at hk;cases hk
  ·rw[if_neg e];exact hk
 μ _ _ h:=h
 n:=Nat.le_refl _
theorem R.frz{w0:World}{B:Nat}{S:St}{h:Heap}{w:World}(r:R w0 B S h w){j:Nat}{v:CV}{rb:Nat}{sh:Shape}{tot:Nat}(hj:h j=some (.var v))(hμ:S.μ j=some (.var rb sh tot)):
  ∃cs,FR S v cs/\S.le (S.frz rb cs)/\R w0 B (S.frz rb cs) (upd h j none) w/\(S.frz rb cs).lies rb 0 cs:=by
 obtain⟨hl,hB⟩:=r.live j _ _ hj hμ
 obtain⟨hs,⟨arr,e,cs,junk,hw,ha,hz,hf⟩,hk⟩:=hl
 have hle:=St.frz_le (cs:=cs) hk
 have hcell:∀o,w.cell? ⟨rb,o,none⟩=arr[o]?:=Q0n hw
 have hlies:(S.frz rb cs).lies rb 0 cs:=by
  intro o u hu
  show(if rb=rb then _ else _)=some u
  rw[if_pos rfl,Nat.zero_add,hu]
 refine⟨cs,hf,hle,⟨r.below,r.size,?_,?_,?_,?_⟩,hlies⟩
 ·intro b o u hu
  by_cases eb:b=rb
  ·subst eb
   have hu:(match cs[o]? with|some v=>some v|none=>S.K b o)=some u:=by
    have hu:(if b=b then _ else _)=some u:=hu
    rw[if_pos rfl]at hu;exact hu
   cases hc:cs[o]? with
   |none=>rw[hc,hk o]at hu;cases hu
   |some x=>
    rw[hc]at hu
    have hxu:x=u:=by simpa using hu
    subst hxu
    rw[hcell o,<- Array.getElem?_toList,ha,List.getElem?_append_left (List.getElem?_eq_some_iff.1 hc).1]
    exact hc
  ·have hu:(if b=rb then _ else S.K b o)=some u:=hu
   rw[if_neg eb]at hu
   exact r.kcell b o u hu
 ·intro i hi
  refine⟨(r.fresh i hi).1,?_⟩
  unfold upd
  split
  ·rfl
  ·exact(r.fresh i hi).2
 ·intro i obj loc h1 h2
  have hij:i≠j:=by intro e;subst e;rw[K0j]at h1;cases h1
  rw[Z0g _ _ hij]at h1
  obtain⟨l1,l2⟩:=r.live i obj loc h1 h2
  refine⟨l1.mono hle rfl fun o ho=>?_,l2⟩
  have hb:loc.block≠rb:=r.inj i j _ _ _ _ hij h1 hj h2 hμ
  show(if loc.block=rb then _ else S.K loc.block o)=none
  rw[if_neg hb];exact ho
 ·intro i k oi ok li lk hik h1 h2 h3 h4
  have hi:i≠j:=by intro e;subst e;rw[K0j]at h1;cases h1
  have hk':k≠j:=by intro e;subst e;rw[K0j]at h2;cases h2
  rw[Z0g _ _ hi]at h1
  rw[Z0g _ _ hk']at h2
  exact r.inj i k oi ok li lk hik h1 h2 h3 h4
theorem Q11{f:FuncId}{args:List CV}{p:Hp}{sh:Shape}{l:List CV}{sz:Nat}(hsz:∀x∈l,x.size=sz)(hno:∀j,¬CV.hasL j l)(h:AnsAt C f args p (.ret (.slc p.n [] 0 l.length) (p.new (.var sh (.agg l))))): AnsAt C f args p (.ret (.lst .part l) p):=by
 refine⟨h.1,fun w0 B S w vals r0 hV=>?_⟩
 have ha:=h.2 w0 B S w vals r0 hV
 have hF:=fine_of r0 hV
 have hmid:Ans C w0 B S f vals w (.ret (.lst .part l) (p.bump 1)):=by
  refine Calls.mono ha fun en w' ⟨S',x,k1,k2,k3,k4⟩=>?_
  have hg:(p.new (.var sh (.agg l))).h p.n=some (.var (.agg l)):=by simp only[Hp.h,Hp.get_new_self];rfl
  obtain⟨k3a,k3b⟩:=k3
  simp only[FR]at k3a
  obtain⟨rb,sh',l',o,cap,e1,⟨tot,hμ,_⟩,e2,e3,e4,e5⟩:=k3a
  obtain⟨cs,hf,hle,hr,hli⟩:=R.frz k2.r hg hμ
  have ho:o=0:=by simp only[Shape.off,Option.some.injEq]at e3;exact e3.symm
  subst ho
  refine⟨S'.frz rb cs,x,k1.trans ⟨hle,fun _ _ h=>h⟩,⟨?_,?_,?_⟩,⟨?_,?_⟩,k4⟩
  ·refine hr.drop fun i=>?_
   by_cases hi:i=p.n
   ·left;subst hi
    exact(r0.r.fresh p.n (by rw[r0.n];exact Nat.le_refl _)).2
   ·right
    rw[Z0g _ _ hi]
    simp only[Hp.h,Hp.bump_get,Hp.get_new_ne _ _ hi]
  ·show S'.n=p.n+1
   rw[k2.n,Hp.znew_n]
  ·intro i sh0 v0 hi
   exact r0.good i sh0 v0 hi
  ·simp only[FR]
   refine .inr ⟨rb,0,cap,sz,cs,?_,e4,?_,hli,hsz,trivial⟩
   ·rw[e1];simp[Shape.sizes]
   ·simp only[FR]at hf
    exact FRs.mono hle _ _ hf
  ·simpa[CV.isAgg]using k3b
 refine Ans.shr C r0 hmid ?_
 refine K0d hF (fun k o h=>h) (V0f fun j hj=>?_)
 simp only[CV.has]at hj
 rcases hj with hj|hj
 ·cases hj
 ·exact(hno j hj).elim
end
end Go.Cl
end
section
namespace Go.Proofs.Ytpchcfkebljopaa
open Go.Cl Go Go.RowKit
def cellOf(n:Int): V0b:=⟨true,handInput (w64 (n.tdiv 4)) (w64 (n.tdiv 7))⟩
def rowK(players:Int)(l:List Int): Nat->List V0b
 |0=>List.replicate players.toNat V0b.zero
 |k+1=>if 0<(nth l k).tmod 4 then(rowK players l k).set k (cellOf (nth l k))else rowK players l k
theorem X2c(players:Int)(l:List Int): ∀k,(rowK players l k).length=players.toNat
 |0=>by simp[rowK]
 |k+1=>by
  have ih:=X2c players l k
  simp only[rowK]
  split
  ·simpa using ih
  ·exact ih
def rowOf(players:Int)(l:List Int): List V0b:=rowK players l (min players.toNat l.length)
theorem rowOf_len(players:Int)(l:List Int): (rowOf players l).length=players.toNat:=X2c ..
theorem mk108(p:Hp)(n:Int)(h:1<=n/\n<=100): xmake C p 108 (I n) (I n)=.ret (.slc p.n [] 0 n.toNat) (p.new (.var (.n (List.replicate n.toNat sh110)) (.agg ((List.replicate n.toNat V0b.zero).map V0b.cv)))):=by
 have hz:ti110.zero=V0b.zero.cv:=V0b.zcv
 have hb:(ti110.bytes*n.toNat)<=281474976710656:=by show 32*n.toNat<=_;omega
 simp only[xmake,tt108,ti108,tt110,List.map_replicate]
 rw[show(decide True&&decide (0<n)&&decide (n<=9223372036854775807)&&Nat.blt 0 ti110.sh.size&&Nat.ble (ti110.bytes*n.toNat) 281474976710656)=true by
  simp only[decide_true,Bool.true_and,Bool.and_eq_true,decide_eq_true_eq]
  exact⟨⟨⟨by omega,by omega⟩,rfl⟩,Nat.ble_eq_true_of_le hb⟩]
 rw[hz];rfl
theorem ix108(p:Hp)(j n:Nat)(L:List V0b)(k:Int)(hg:p.t.get j=some (.var (.n (List.replicate n sh110)) (.agg (L.map V0b.cv))))(hL:L.length=n)(hk:0<=k/\k<n): qindexAddr C p.h 108 (.slc j [] 0 n) (I k)=some (.ptr j [k.toNat]):=by
 have ht:tgt p.h (.ptr j [])=some (.agg (L.map V0b.cv)):=by
  simp only[tgt,Hp.h,hg,Option.map_some,XObj.obj,CV.at]
 have hs:CV.shape (.agg (L.map V0b.cv))=.n (List.replicate (L.map V0b.cv).length sh110):=by
  simp only[CV.shape,Z0h (f:=V0b.cv) (s:=sh110) V0b.shape,List.length_map]
 simp only[qindexAddr,tt108,ti108,tt110,ht]
 rw[if_pos ⟨hs,hk⟩]
 simp
theorem sa108(L:List V0b)(k:Nat)(c:V0b)(h:k<L.length): CV.set (.agg (L.map V0b.cv)) [k] c.cv=.agg ((L.set k c).map V0b.cv):=by
 rw[Z1r V0b.cv h,List.map_set];rfl
theorem take_nx{α:Type}[Inhabited α]{l:List α}{k:Nat}(h:k<l.length): l.take (k+1)=l.take k++[nth l k]:=by
 rw[List.take_add_one,Q0s h];rfl
def rowL(players:Int)(r:Lst Int): Lst V0b:=⟨.part,rowOf players r.l,nofun⟩
def rowsOf(players:Int)(l:List (Lst Int)): List (Lst V0b):=(l.take 40).map (rowL players)
def ownL{α:Type}(l:List α)(n:Nat): Lst α:=if h:l=[] then⟨.nil,[],fun _=>rfl⟩ else⟨.own n,l,nofun⟩
theorem ownL_nil{α:Type}(n:Nat): ownL ([]:List α) n=⟨.nil,[],fun _=>rfl⟩:=by simp[ownL]
theorem ownL_cons{α:Type}(x:α)(m:List α)(n:Nat): ownL (x::m) n=⟨.own n,x::m,nofun⟩:=by simp[ownL]
noncomputable def ownH{α:Type}(l:List α)(p:Hp): Hp:=if l=[]then p else p.new (.tail l.length)
theorem ownH_nil{α:Type}(p:Hp): ownH ([]:List α) p=p:=by simp[ownH]
theorem ownH_cons{α:Type}(x:α)(m:List α)(p:Hp): ownH (x::m) p=p.new (.tail (m.length+1)):=by simp[ownH]
theorem weakL_mem{α:Type}{f:α->CV}{σ:Nat->Nat}{n:Nat}: ∀l:List α,(∀x∈l,∀j,¬(f x).has j)->CV.weakL σ n (l.map f) (l.map f)
 |[],_=>trivial
 |x::l,h=>⟨CV.weak_refl _ fun j hj=>(h x (by simp) j hj).elim,weakL_mem l fun y hy=>h y (by simp[hy])⟩
theorem shr_ownL{α:Type}{f:α->CV}{args:List CV}{p q:Hp}(hF:Fine args p)(acc:Lst α)(hle:HpLe p q)(happ:acc.tl=.nil\/∃j,acc.tl=.own j/\p.n<=j/\q.t.get j=some (.tail acc.l.length)/\0<acc.l.length)(hf:∀x∈acc.l,∀j,¬(f x).has j): ShrR p (.ret (Lst.cv f acc) q) (.ret (Lst.cv f (ownL acc.l p.n)) (ownH acc.l p)):=by
 obtain⟨tl,l,o⟩:=acc
 simp only at happ hf
 rcases happ with h|⟨j,h,hj,hg,h0⟩
 ·subst h
  have:=o rfl;subst this
  simp only[ownL_nil,ownH_nil]
  exact K0d hF hle (V0f fun j hj=>by simp[Lst.cv,CV.has,CV.hasL]at hj)
 ·subst h
  have hne:l≠[]:=by intro e;subst e;simp at h0
  simp only[ownL,ownH,dif_neg hne,if_neg hne]
  refine Y01 hF (J:=j) rfl (fun k o h=>?_) ⟨_,hg,rfl⟩ ?_
  ·have hd:=hF.dom k o h
   exact⟨hd,by omega,.inl ⟨h,hle k o h⟩⟩
  ·simp only[Lst.cv,CV.weak,Tail.weak]
   exact⟨⟨(if_pos rfl).symm,Nat.lt_succ_self _⟩,weakL_mem l hf⟩
end Go.Proofs.Ytpchcfkebljopaa
end
section
namespace Go.Cl
open Go.RowKit
section
variable (C:Ctx)
theorem VRs_snoc{S:St}{v:CV}: ∀{a:List CV} {vals:List Value},VRs S (a++[v]) vals->∃va x,vals=va++[x]/\VRs S a va/\VR S v x
 |[],vals,h=>by
  simp only[List.nil_append,VRs]at h
  obtain⟨x,xs,rfl,h1,h2⟩:=h
  subst h2
  exact⟨[],x,rfl,by simp[VRs],h1⟩
 |u::a,vals,h=>by
  simp only[List.cons_append,VRs]at h
  obtain⟨y,ys,rfl,h1,h2⟩:=h
  obtain⟨va,x,rfl,h3,h4⟩:=VRs_snoc h2
  exact⟨y::va,x,rfl,Q0g.2 ⟨h1,h3⟩,h4⟩
theorem VRs_snoc'{S:St}{v:CV}{x:Value}: ∀{a:List CV} {va:List Value},VRs S a va->VR S v x->VRs S (a++[v]) (va++[x])
 |[],va,h,k=>by
  simp only[VRs]at h
  subst h
  exact Q0g.2 ⟨k,by simp[VRs]⟩
 |u::a,va,h,k=>by
  simp only[VRs]at h
  obtain⟨y,ys,rfl,h1,h2⟩:=h
  exact Q0g.2 ⟨h1,VRs_snoc' h2 k⟩
def RFrz(R:Rel): Rel:=fun args p r=>∃(a:List CV) (j:Nat) (sh:Shape) (l:List CV) (sz:Nat),args=a++[.slc j [] 0 l.length]/\p.t.get j=some (.var sh (.agg l))/\(∀x∈l,x.size=sz)/\R (a++[.lst .part l]) (p.set j none) r
theorem con_frz{f:FuncId}{R:Rel}(h:Con C f R): Con C f (RFrz R) where
 un:=by
  rintro args p r r' ⟨a,j,sh,l,sz,rfl,h2,_,h4⟩ ⟨a',j',sh',l',sz',e,h2',_,h4'⟩
  obtain⟨rfl,e2⟩:=List.append_inj' e rfl
  simp only[List.cons.injEq,CV.slc.injEq,and_true,true_and]at e2
  obtain⟨rfl,_⟩:=e2
  rw[h2]at h2'
  simp only[Option.some.injEq,XObj.var.injEq,CV.agg.injEq]at h2'
  obtain⟨_,rfl⟩:=h2'
  exact h.un _ _ _ _ h4 h4'
 ok:=by
  rintro args p r ⟨a,j,sh,l,sz,rfl,hg,hsz,hR⟩
  obtain⟨hne,hfn,ha⟩:=h.ok _ _ _ hR
  refine⟨hne,hfn,fun w0 B S w vals r0 hV=>?_⟩
  obtain⟨va,x,rfl,hVa,hx⟩:=VRs_snoc hV
  obtain⟨hx1,hx2⟩:=hx
  simp only[FR]at hx1
  obtain⟨rb,sh',l',o,cap,e1,⟨tot,hμ,_⟩,e2,e3,e4,e5⟩:=hx1
  have hgh:p.h j=some (.var (.agg l)):=by simp only[Hp.h,hg];rfl
  obtain⟨cs,hf,hle,hr,hli⟩:=Go.Cl.R.frz r0.r hgh hμ
  have ho:o=0:=by simp only[Shape.off,Option.some.injEq]at e3;exact e3.symm
  subst ho
  have hX:XRel w0 B (S.frz rb cs) (p.set j none) w:=by
   refine⟨?_,r0.n,?_⟩
   ·refine hr.drop fun i=>?_
    by_cases hi:i=j
    ·left;subst hi;simp only[Hp.h,Hp.get_set_self];rfl
    ·right;rw[Z0g _ _ hi];simp only[Hp.h,Hp.get_set_ne _ _ _ hi]
   ·intro i sh0 v0 hi
    by_cases e:i=j
    ·subst e;rw[Hp.get_set_self]at hi;cases hi
    ·rw[Hp.get_set_ne _ _ _ e]at hi;exact r0.good i sh0 v0 hi
  have hv:VR (S.frz rb cs) (.lst .part l) x:=by
   refine⟨?_,by simpa[CV.isAgg]using hx2⟩
   simp only[FR]
   refine .inr ⟨rb,0,cap,sz,cs,?_,e4,?_,hli,hsz,trivial⟩
   ·rw[e1];simp[Shape.sizes]
   ·simp only[FR]at hf
    exact FRs.mono hle _ _ hf
  have hfin:=ha w0 B (S.frz rb cs) w (va++[x]) hX (VRs_snoc' (VRs.mono hle _ _ hVa) hv)
  have hext:S.ext (S.frz rb cs):=⟨hle,fun _ _ h=>h⟩
  cases r with
  |ret v p'=>exact Calls.mono hfin fun en w' ⟨S',y,k1,k2,k3,k4⟩=>⟨S',y,hext.trans k1,k2,k3,k4⟩
  |pan v p'=>exact Calls.mono hfin fun en w' ⟨S',y,k1,k2,k3,k4⟩=>⟨S',y,hext.trans k1,k2,k3,k4⟩
  |stuck=>trivial
theorem con_or{f:FuncId}{R Q:Rel}(h:Con C f R)(k:Con C f Q)(hd:∀args p r r',R args p r->Q args p r'->r=r'): Con C f (fun args p r=>R args p r\/Q args p r) where
 un:=by
  rintro args p r r' (h1|h1) (h2|h2)
  ·exact h.un _ _ _ _ h1 h2
  ·exact hd _ _ _ _ h1 h2
  ·exact(hd _ _ _ _ h2 h1).symm
  ·exact k.un _ _ _ _ h1 h2
 ok:=by
  rintro args p r (h1|h1)
  ·exact h.ok _ _ _ h1
  ·exact k.ok _ _ _ h1
end
end Go.Cl
end
section
namespace Go.Proofs.Ytpchcfkebljopaa
open Go.Cl Go Go.RowKit
set_option maxRecDepth 100000
set_option linter.constructorNameAsVariable false
def Wv(j:Nat)(l:List Bool): CV:=if l=[]then .lst .nil []else .slc j [] 0 (packB l).length
def Wrow(B:List Int): XObj:=.var (.n (List.replicate B.length .s)) (.agg (B.map Y8))
theorem Wv_sh(j:Nat)(l:List Bool): (Wv j l).shape=.s:=by unfold Wv;split<;>rfl
def W1(j:Nat)(l:List Bool): XObj:=.var sh203 (X0d.mk (Wv j l) (Wv_sh j l) l.length).cv
def W2(i j:Nat)(l:List Bool)(p:Hp): Prop:=l=[]\/j≠i/\p.t.get j=some (Wrow (packB l))
noncomputable def wDrop(j:Nat)(l:List Bool)(p:Hp): Hp:=if l=[]then p else p.set j none
noncomputable def wHp(i j:Nat)(l l':List Bool)(p:Hp): Hp:=((wDrop j l p).set i (some (W1 p.n l'))).new (Wrow (packB l'))
theorem packB_nil{l:List Bool}: packB l=[] ↔ l=[]:=by
 constructor
 ·intro h
  have:=congrArg List.length h
  rw[V0i]at this
  exact List.length_eq_zero_iff.1 (by simp at this;omega)
 ·rintro rfl;rfl
theorem Y0x{A B:List Int}(h:Wrow A=Wrow B): A=B:=by
 simp only[Wrow,XObj.var.injEq,CV.agg.injEq]at h
 have h2:=h.2
 clear h
 induction A generalizing B with
 |nil=>cases B with
  |nil=>rfl
  |cons b B=>simp at h2
 |cons a A ih=>cases B with
  |nil=>simp at h2
  |cons b B=>
   simp only[List.map_cons,List.cons.injEq]at h2
   rw[Y8_inj _ _ h2.1,ih h2.2]
theorem W_uniq{p:Hp}{i j j':Nat}{l l':List Bool}(h:p.t.get i=some (W1 j l))(h2:W2 i j l p)(k:p.t.get i=some (W1 j' l'))(k2:W2 i j' l' p): l=l'/\(l≠[]->j=j'):=by
 rw[h]at k
 simp only[Option.some.injEq,W1,X0d.cv,XObj.var.injEq,CV.agg.injEq,List.cons.injEq,and_true,true_and]at k
 obtain⟨e1,e2⟩:=k
 have e2:l.length=l'.length:=by have:=I_inj _ _ e2;omega
 by_cases hl:l=[]
 ·subst hl
  have:l'=[]:=List.length_eq_zero_iff.1 (by rw[<- e2];rfl)
  exact⟨this.symm,fun h=>absurd rfl h⟩
 ·have hl':l'≠[]:=by intro e;subst e;exact hl (List.length_eq_zero_iff.1 e2)
  simp only[Wv,if_neg hl,if_neg hl',CV.slc.injEq,true_and,and_true]at e1
  obtain⟨rfl,_⟩:=e1
  have a:=h2.resolve_left hl
  have b:=k2.resolve_left hl'
  have:=a.2.symm.trans b.2
  simp only[Option.some.injEq]at this
  exact⟨packB_inj e2 (Y0x this),fun _=>rfl⟩
theorem Q1h{p:Hp}{i j j':Nat}{l l':List Bool}(m:List Bool)(h:l=l'/\(l≠[]->j=j')): wHp i j l m p=wHp i j' l' m p:=by
 obtain⟨rfl,h⟩:=h
 unfold wHp wDrop
 by_cases hl:l=[]
 ·rw[if_pos hl,if_pos hl]
 ·rw[if_neg hl,if_neg hl,h hl]
theorem wHp_n(i j:Nat)(l m:List Bool)(p:Hp): (wHp i j l m p).n=p.n+1:=by
 unfold wHp wDrop
 split<;>simp[Hp.znew_n,Hp.zset_n]
theorem wHp_i{i j:Nat}(l m:List Bool){p:Hp}(h:i<p.n): (wHp i j l m p).t.get i=some (W1 p.n m):=by
 unfold wHp wDrop
 split
 ·rw[Hp.get_new_ne _ _ (by rw[Hp.zset_n];omega),Hp.get_set_self]
 ·rw[Hp.get_new_ne _ _ (by rw[Hp.zset_n,Hp.zset_n];omega),Hp.get_set_self]
theorem wHp_new{i j:Nat}(l m:List Bool){p:Hp}: (wHp i j l m p).t.get p.n=some (Wrow (packB m)):=by
 unfold wHp wDrop
 split
 ·exact Hp.get_new_self (p.set i (some (W1 p.n m))) _
 ·exact Hp.get_new_self ((p.set j none).set i (some (W1 p.n m))) _
theorem wHp_ne{i j:Nat}{l m:List Bool}{p:Hp}{k:Nat}(h1:k≠i)(h2:l=[]\/k≠j)(h3:k≠p.n): (wHp i j l m p).t.get k=p.t.get k:=by
 unfold wHp wDrop
 split
 ·rw[Hp.get_new_ne _ _ (show k≠(p.set i (some (W1 p.n m))).n from h3),Hp.get_set_ne _ _ _ h1]
 ·rename_i hl
  rw[Hp.get_new_ne _ _ (show k≠((p.set j none).set i (some (W1 p.n m))).n from h3),Hp.get_set_ne _ _ _ h1,Hp.get_set_ne _ _ _ (h2.resolve_left hl)]
theorem W2_nil(i j:Nat)(p:Hp): W2 i j [] p:=.inl rfl
theorem W2_in{i j:Nat}{l:List Bool}{p:Hp}(h1:j≠i)(h2:p.t.get j=some (Wrow (packB l))): W2 i j l p:=.inr ⟨h1,h2⟩
theorem Q1n(σ:Nat->Nat)(n:Nat)(B:List Int): XObj.weak σ n (Wrow B) (Wrow B):=⟨rfl,by simp only[CV.weak];exact CV.weakL_refl _ fun j hj=>(X0m (f:=Y8) (fun x j=>Z00 x j) B j hj).elim⟩
theorem shr_w{args:List CV}{p q:Hp}{i j J:Nat}{l m:List Bool}(hF:Fine args p)(hm:m≠[])(h1:p.t.get i=some (W1 j l))(h2:W2 i j l p)(g1:q.t.get i=some (W1 J m))(g2:q.t.get J=some (Wrow (packB m)))(hJi:J≠i)(hJ:(l≠[]/\J=j)\/p.n<=J)
  (hle:∀k o,k≠i->(l=[]\/k≠j)->p.t.get k=some o->q.t.get k=some o) {v u:CV} (hv:CV.weak (ren p.n J) (p.n+1) v u):ShrR p (.ret v q) (.ret u (wHp i j l m p)):=by
 have hi:=hF.dom _ _ h1
 have hw:XObj.weak (ren p.n J) (p.n+1) (W1 J m) (W1 p.n m):=by
  refine⟨rfl,?_⟩
  simp only[X0d.cv,Wv,if_neg hm,CV.weak,CV.weakL,and_true]
  exact⟨by simp[ren],by omega⟩
 unfold wHp wDrop
 split
 ·rename_i hl
  refine Y01 hF (J:=J) rfl (fun k o h=>?_) ⟨_,g2,Q1n _ _ _⟩ hv
  by_cases hk:k=i
  ·subst hk
   rw[Hp.get_set_self]at h;cases h
   exact⟨hi,Ne.symm hJi,.inr ⟨_,g1,hw⟩⟩
  ·rw[Hp.get_set_ne _ _ _ hk]at h
   have hd:=hF.dom _ _ h
   exact⟨hd,by rcases hJ with hJ|hJ;exact absurd hl hJ.1;omega,.inl ⟨h,hle k o hk (.inl hl) h⟩⟩
 ·rename_i hl
  have hj:=(h2.resolve_left hl)
  have hjd:=hF.dom _ _ hj.2
  refine Y01 hF (J:=J) rfl (fun k o h=>?_) ⟨_,g2,Q1n _ _ _⟩ hv
  by_cases hk:k=i
  ·subst hk
   rw[Hp.get_set_self]at h;cases h
   exact⟨hi,Ne.symm hJi,.inr ⟨_,g1,hw⟩⟩
  ·rw[Hp.get_set_ne _ _ _ hk]at h
   by_cases hkj:k=j
   ·subst hkj;rw[Hp.get_set_self]at h;cases h
   ·rw[Hp.get_set_ne _ _ _ hkj]at h
    have hd:=hF.dom _ _ h
    exact⟨hd,by rcases hJ with hJ|hJ;rw[hJ.2];exact hkj;omega,.inl ⟨h,hle k o hk (.inr hkj) h⟩⟩
theorem Z0p(σ:Nat->Nat)(n:Nat): CV.weak σ n (.tup []) (.tup []):=by simp[CV.weak,CV.weakL]
theorem ix68(p:Hp)(j n:Nat)(B:List Int)(k:Int)(hg:p.t.get j=some (.var (.n (List.replicate n .s)) (.agg (B.map Y8))))(hB:B.length=n)(hk:0<=k/\k<n): qindexAddr C p.h 68 (.slc j [] 0 n) (I k)=some (.ptr j [k.toNat]):=by
 have ht:tgt p.h (.ptr j [])=some (.agg (B.map Y8)):=by
  simp only[tgt,Hp.h,hg,Option.map_some,XObj.obj,CV.at]
 have hs:CV.shape (.agg (B.map Y8))=.n (List.replicate (B.map Y8).length sh5):=by
  simp only[CV.shape,Z0h (f:=Y8) (s:=sh5) Y8_shape,List.length_map]
 simp only[qindexAddr,tt68,ti68,tt5,ht]
 rw[if_pos ⟨hs,hk⟩]
 simp
theorem a68(B:List Int)(k:Nat)(h:k<B.length): (CV.agg (B.map Y8)).at [k]=Y8 (nth B k):=by rw[Z1w Y8 h];rfl
theorem sa68(B:List Int)(k:Nat)(c:Int)(h:k<B.length): CV.set (.agg (B.map Y8)) [k] (Y8 c)=.agg ((B.set k c).map Y8):=by
 rw[Z1r Y8 h,List.map_set];rfl
def R156: Rel:=fun args p r=>∃(n:Int),args=[I n]/\r=.ret (I (max 0 (min n 64))) p
theorem t156{T:XCall}(h:Has T 156 R156)(n:Int){p:Hp}:T 156 [I n] p=.ret (I (max 0 (min n 64))) p:=h _ _ _ ⟨n,rfl,rfl⟩
theorem zq156{A B:Prop}(k:B)(h:A=B:=by have zy:=zA @zw156<|zA @rs156<|zA @tt3<|ti3.eq_1;exact zQ): A:=h▸k
theorem zno156{P:Prop}(h:P:=by intro jj;simp[CV.has,CV.hasL,fault,K0b.nohas]): P:=h
theorem c156: Con C 156 R156:=by
 refine V0e C ?_ ?_ ?_
 ·rintro args p r r' ⟨n,h,e⟩ ⟨n',h',e'⟩
  subst e;subst e';simp_all
 ·rintro args p r ⟨n,h,rfl⟩;exact zr1
 rintro args p r ⟨n,rfl,rfl⟩
 refine zW C false [] zT rfl xf156 zc156_ok fun call zh hF=>?_
 clear zh
 (have zx:=zT;refine zq156 ?_;try exact zT)
 repeat'(apply zK.s<;>intro hc<;>(try simp only[zhd]at hc)<;>(try have hw:=K0a hc)<;>(refine zq156 ?_;try exact zT))
 all_goals(try clear zx)
 exact K0d hF zle (Q0c rfl (Z0c zno156))
theorem bs68(p:Hp): xbuildS C p 68 1 [(0,Y8 0)]=.ret (.slc p.n [] 0 1) (p.new (.var (.n [.s]) (.agg [Y8 0]))):=by
 simp only[xbuildS,tt68,ti68,tt5,ti5];rfl
theorem app68n(p:Hp)(k:Nat)(hk:p.t.get k=some (.var (.n [.s]) (.agg [Y8 0]))): xappend C true p 68 68 (.lst .nil []) (.slc k [] 0 1)=.ret (.slc p.n [] 0 1) (p.new (.var (.n (List.replicate 1 .s)) (.agg ((roomB []).map Y8)))):=by
 have hs:xsrc C p.h 5 68 (.slc k [] 0 1)=some [Y8 0]:=by
  simp only[xsrc,tt68,ti68,srcOf,tgt,Hp.h,hk,Option.map_some,XObj.obj,CV.at];rfl
 simp only[xappend,tt68,ti68,tt5,ti5,cond_true,hs];rfl
theorem app68s(p:Hp)(j k:Nat)(B:List Int)(hj:p.t.get j=some (.var (.n (List.replicate B.length .s)) (.agg (B.map Y8))))(hk:p.t.get k=some (.var (.n [.s]) (.agg [Y8 0])))(h0:0<B.length)(hl:B.length<=1000000): xappend C true p 68 68 (.slc j [] 0 B.length) (.slc k [] 0 1)=.ret (.slc p.n [] 0 (B.length+1)) ((p.set j none).new (.var (.n (List.replicate (B.length+1) .s)) (.agg ((B++[0]).map Y8)))):=by
 have hs:xsrc C p.h 5 68 (.slc k [] 0 1)=some [Y8 0]:=by
  simp only[xsrc,tt68,ti68,srcOf,tgt,Hp.h,hk,Option.map_some,XObj.obj,CV.at];rfl
 have ha:allSh (B.map Y8) sh5=true:=Z1j (fun x=>rfl) B
 simp only[xappend,tt68,ti68,tt5,ti5,cond_true,hs,xappmut,hj]
 have h1:Nat.ble B.length (B.map Y8).length=true:=Nat.ble_eq_true_of_le (by simp)
 have h2:Nat.blt 0 (B.map Y8).length=true:=K0z (by simpa using h0)
 have h3:Nat.ble (((B.map Y8).length+1)*1) 140737488355328=true:=Nat.ble_eq_true_of_le (by simp;omega)
 have h4:Nat.ble ((B.map Y8).length+1) 9223372036854775807=true:=Nat.ble_eq_true_of_le (by simp;omega)
 have h5:Nat.ble (B.length+1) (B.map Y8).length=false:=by
  rw[Bool.eq_false_iff];intro h;have:=Nat.le_of_ble_eq_true h;rw[List.length_map]at this;omega
 have h6:(B.map Y8).take B.length=B.map Y8:=List.take_of_length_le (by simp)
 have h7:allSh [Y8 0] sh5=true:=rfl
 simp only[List.length_cons,List.length_nil,Nat.zero_add,h1,h2,h3,h4,h5,h6,h7,ha,Bool.and_self,cond_true,cond_false,List.map_append]
 rfl
theorem slc_sh(a:Nat)(q:List Nat)(o m:Nat): (CV.slc a q o m).shape=.s:=rfl
theorem lst_sh(t:Tail)(l:List CV): (CV.lst t l).shape=.s:=rfl
theorem wr_fold(v:CV)(hv:v.shape=.s)(n:Int)(a:Nat)(q:List Nat)(o m:Nat): X0d.upd_0 ⟨v,hv,n⟩ (.slc a q o m)=(X0d.mk (.slc a q o m) (slc_sh a q o m) n).cv:=rfl
theorem b2i_inj{a b:Bool}(h:b2i a=b2i b): a=b:=by cases a<;>cases b<;>first|rfl|(simp[b2i]at h)
theorem W1_slc{J:Nat}{m:List Bool}{k:Nat}{n:Int}(hm:m≠[])(h1:(packB m).length=k)(h2:(m.length:Int)=n): W1 J m=.var sh203 (X0d.mk (.slc J [] 0 k) (slc_sh _ _ _ _) n).cv:=by
 subst h1;subst h2
 simp only[W1,Wv,if_neg hm]
theorem Wrow_of{B:List Int}{m:List Bool}{n:Nat}(h:B=packB m)(hn:B.length=n): Wrow (packB m)=.var (.n (List.replicate n .s)) (.agg (B.map Y8)):=by
 subst hn;subst h;rfl
def R157: Rel:=fun args p r=>∃(i j:Nat) (l:List Bool) (b:Bool),args=[.ptr i [],U (b2i b)]/\(p.t.get i=some (W1 j l))/\(W2 i j l p)/\(l.length<=1000000)/\r=.ret (.tup []) (wHp i j l (l++[b]) p)
theorem t157{T:XCall}(h:Has T 157 R157)(i j:Nat)(l:List Bool)(b:Bool){p:Hp}(h1:p.t.get i=some (W1 j l))(h2:W2 i j l p)(h3:l.length<=1000000): T 157 [.ptr i [],U (b2i b)] p=.ret (.tup []) (wHp i j l (l++[b]) p):=h _ _ _ ⟨i,j,l,b,rfl,h1,h2,h3,rfl⟩
theorem zq157{A B:Prop}(k:B)(h:A=B:=by have zy:=zA @zw157<|zA @rs157<|zA @tt3<|zA @tt5<|zA @tt25<|zA @tt68<|zA @tt203<|zA ti3.eq_1<|zA ti5.eq_1<|zA ti25.eq_1<|zA ti68.eq_1<|zA ti203.eq_1<|zA @Q0r<|zA @zsl68<|zA @wr_fold<|zA @bs68<|zA @app68n<|zA @app68s<|zA @ix68<|zA @a68<|zA @sa68<|zA @Z0y<|zA @h1<|zA @h2<|@h3;exact zQ): A:=h▸k
theorem c157: Con C 157 R157:=by
 refine V0e C ?_ ?_ ?_
 ·rintro args p r r' ⟨i,j,l,b,h,h1,h2,h3,e⟩ ⟨i',j',l',b',h',h1',h2',h3',e'⟩
  subst e;subst e';(subst h;simp only[List.cons.injEq,CV.ptr.injEq,CV.sc.injEq,Value.int.injEq,and_true,true_and]at h';obtain⟨e1,hb⟩:=h';subst e1;have hb:=b2i_inj hb;subst hb;have hu:=W_uniq h1 h2 h1' h2';rw[Q1h _ hu,hu.1])
 ·rintro args p r ⟨i,j,l,b,h,h1,h2,h3,rfl⟩;exact zr1
 rintro args p r ⟨i,j,l,b,rfl,h1,h2,h3,rfl⟩
 refine zW C true [] zT rfl xf157 zc157_ok fun call zh hF=>?_
 clear zh
 have hd_h1:=hF.dom _ _ h1
 have hi:=hF.dom _ _ h1
 have k1:=h1
 have k2:=h2
 have ht:((l.length:Nat):Int).tmod 8=((l.length % 8:Nat):Int):=by rw[Int.tmod_eq_emod_of_nonneg (by omega)];omega
 have hd:((l.length:Nat):Int).tdiv 8=((l.length/8:Nat):Int):=by rw[Int.tdiv_eq_ediv_of_nonneg (by omega)];omega
 have hB:=K1i l
 have hpk:=V0i l
 have hor:=orB_pack l b
 have hne:l++[b]≠[]:=by simp
 by_cases hl:l=[]
 ·subst hl
  replace h1:p.t.get i=some (.var sh203 (X0d.mk (.lst .nil []) (lst_sh .nil []) 0).cv):=h1
  have hB1:(roomB []).length=1:=rfl
  have z1:Int.tmod 0 8=0:=rfl
  have z2:Int.tdiv 0 8=0:=rfl
  (have zx:=zA z1 (zA z2 h1);refine zq157 ?_;try exact zT)
  repeat'(apply zK.s<;>intro hc<;>(try simp only[zhd]at hc)<;>(try have hw:=K0a hc)<;>(refine zq157 ?_;try exact zT))
  all_goals(try clear zx)
  have hpm:(packB ([]++[b])).length=1:=by rw[V0i];simp
  refine shr_w (J:=p.n+1) (l:=[]) hF hne k1 k2 ?_ ?_ (by omega) (.inr (by omega)) (fun k o hk hk2 h=>?_) (Z0p _ _)
  ·rw[W1_slc hne hpm (n:=1) rfl];simp (disch:=first|exact zdl|fail) only[zheap]
  ·rw[Wrow_of hor (n:=1) rfl];simp (disch:=first|exact zdl|fail) only[zheap];rfl
  ·have hd:=hF.dom _ _ h;simp (disch:=first|exact zdl|fail) only[Hp.bump_get,Hp.get_set_ne,Hp.get_new_ne];exact h
 ·have g2:=(h2.resolve_left hl).2
  have hji:=(h2.resolve_left hl).1
  have hpl:0<(packB l).length:=by rw[V0i];have:=List.length_pos_iff.2 hl;omega
  have hpl2:(packB l).length<=1000000:=by rw[V0i];omega
  unfold Wrow at g2
  have hjd:=hF.dom _ _ g2
  by_cases hm:l.length % 8=0
  ·have hm2:((l.length % 8:Nat):Int)=0:=by omega
   have hr:packB l++[0]=roomB l:=by rw[roomB,if_pos hm]
   have hWv:Wv j l=.slc j [] 0 (packB l).length:=if_neg hl
   replace h1:p.t.get i=some (.var sh203 (X0d.mk (.slc j [] 0 (packB l).length) (slc_sh _ _ _ _) l.length).cv):=by rw[h1];simp only[W1,hWv]
   (have zx:=zA ht (zA hd (zA hm2 (zA hr (zA g2 h1))));refine zq157 ?_;try exact zT)
   repeat'(apply zK.s<;>intro hc<;>(try simp only[zhd]at hc)<;>(try have hw:=K0a hc)<;>(refine zq157 ?_;try exact zT))
   all_goals(try clear zx)
   have hpm:(packB (l++[b])).length=(packB l).length+1:=by rw[V0i,V0i,List.length_append,List.length_singleton];omega
   refine shr_w (J:=p.n+1) hF hne k1 k2 ?_ ?_ (by omega) (.inr (by omega)) (fun k o hk hk2 h=>?_) (Z0p _ _)
   ·rw[W1_slc hne hpm (n:=(l.length:Int)+1) (by simp)];simp (disch:=first|exact zdl|fail) only[zheap]
   ·rw[Wrow_of hor (n:=(packB l).length+1) (by rw[List.length_set];omega)];simp (disch:=first|exact zdl|fail) only[zheap];rw[hm];rfl
   ·have hd:=hF.dom _ _ h;have hkj:=hk2.resolve_left hl;simp (disch:=first|exact zdl|fail) only[Hp.bump_get,Hp.get_set_ne,Hp.get_new_ne];exact h
  ·have hm2:¬((l.length % 8:Nat):Int)=0:=by omega
   have hr:packB l=roomB l:=by rw[roomB,if_neg hm]
   have hWv:Wv j l=.slc j [] 0 (roomB l).length:=by rw[Wv,if_neg hl,hr]
   replace h1:p.t.get i=some (.var sh203 (X0d.mk (.slc j [] 0 (roomB l).length) (slc_sh _ _ _ _) l.length).cv):=by rw[h1];simp only[W1,hWv]
   rw[hr]at g2 hpl hpl2
   (have zx:=zA ht (zA hd (zA hm2 (zA g2 h1)));refine zq157 ?_;try exact zT)
   repeat'(apply zK.s<;>intro hc<;>(try simp only[zhd]at hc)<;>(try have hw:=K0a hc)<;>(refine zq157 ?_;try exact zT))
   all_goals(try clear zx)
   have hpm:(packB (l++[b])).length=(roomB l).length:=by rw[V0i,hB,List.length_append,List.length_singleton];omega
   refine shr_w (J:=j) hF hne k1 k2 ?_ ?_ hji (.inl ⟨hl,rfl⟩) (fun k o hk hk2 h=>?_) (Z0p _ _)
   ·rw[W1_slc hne hpm (n:=(l.length:Int)+1) (by simp)];simp (disch:=first|exact zdl|fail) only[zheap]
   ·rw[Wrow_of hor (n:=(roomB l).length) (by rw[List.length_set])];simp (disch:=first|exact zdl|fail) only[zheap];rfl
   ·have hd:=hF.dom _ _ h;have hkj:=hk2.resolve_left hl;simp (disch:=first|exact zdl|fail) only[Hp.bump_get,Hp.get_set_ne,Hp.get_new_ne];exact h
theorem X06(v:Int): ∀(n k:Nat),k<n->(bitsOf v n).take (k+1)=(bitsOf v n).take k++[bitAt v (n-1-k)]
 |0,k,h=>by omega
 |n+1,0,_=>by simp[bitsOf]
 |n+1,k+1,h=>by
  have ih:=X06 v n k (by omega)
  simp only[bitsOf,List.take_succ_cons,List.cons_append,ih]
  rw[show n+1-1-(k+1)=n-1-k by omega]
structure WSt(i j:Nat)(l:List Bool)(p:Hp)(J:Nat)(m:List Bool)(q:Hp): Prop where
 g:q.t.get i=some (W1 J m)
 w:W2 i J m q
 hJ:(m=l/\J=j)\/(p.n<=J/\J<q.n)
 hi:i<p.n
 hn:p.n<=q.n
 hle:∀k o,k≠i->(l=[]\/k≠j)->p.t.get k=some o->q.t.get k=some o
theorem WSt.start{i j:Nat}{l:List Bool}{p:Hp}(h1:p.t.get i=some (W1 j l))(h2:W2 i j l p)(hi:i<p.n): WSt i j l p j l p:=⟨h1,h2,.inl ⟨rfl,rfl⟩,hi,Nat.le_refl _,fun _ _ _ _ h=>h⟩
theorem WSt.bump{i j J:Nat}{l m:List Bool}{p q:Hp}(h:WSt i j l p J m q)(n:Nat): WSt i j l p J m (q.bump n):=by
 refine⟨by rw[Hp.bump_get];exact h.g,?_,h.hJ.imp id fun x=>⟨x.1,by rw[Hp.bump_n];omega⟩,h.hi,by rw[Hp.bump_n];have:=h.hn;omega,fun k o a b c=>by rw[Hp.bump_get];exact h.hle k o a b c⟩
 rcases h.w with w|⟨w1,w2⟩
 ·exact .inl w
 ·exact .inr ⟨w1,by rw[Hp.bump_get];exact w2⟩
theorem WSt.step{i j J:Nat}{l m:List Bool}{p q:Hp}(hd:∀k o,p.t.get k=some o->k<p.n)(h:WSt i j l p J m q)(m':List Bool): WSt i j l p q.n m' (wHp i J m m' q):=by
 have hi:i<q.n:=Nat.lt_of_lt_of_le h.hi h.hn
 refine⟨wHp_i _ _ hi,.inr ⟨by omega,wHp_new _ _⟩,.inr ⟨h.hn,by rw[wHp_n];omega⟩,h.hi,by rw[wHp_n];have:=h.hn;omega,fun k o a b c=>?_⟩
 have hk:=hd k o c
 have hn:=h.hn
 rw[wHp_ne a ?_ (by omega)]
 ·exact h.hle k o a b c
 ·rcases h.hJ with⟨e1,e2⟩|e
  ·subst e1;subst e2;exact b
  ·exact .inr (by omega)
theorem WSt.fin{args:List CV}{i j J:Nat}{l m:List Bool}{p q:Hp}(hF:Fine args p)(h1:p.t.get i=some (W1 j l))(h2:W2 i j l p)(h:WSt i j l p J m q)(hm:m≠[]){v u:CV}(hv:CV.weak (ren p.n J) (p.n+1) v u): ShrR p (.ret v q) (.ret u (wHp i j l m p)):=by
 have w:=h.w.resolve_left hm
 refine shr_w hF hm h1 h2 h.g w.2 w.1 ?_ h.hle hv
 rcases h.hJ with⟨e1,e2⟩|e
 ·exact .inl ⟨by rw[<- e1];exact hm,e2⟩
 ·exact .inr e.1
def J89(i j:Nat)(l:List Bool)(v:Int)(N:Nat)(p:Hp)(n:Nat)(ρ:Env)(q:Hp): Prop:=
 ∃(k J:Nat),n=N-k/\k<=N/\ρ 0=.ptr i []/\ρ 1=U v/\ρ 6=I ((N:Int)-1-k)/\WSt i j l p J (l++(bitsOf v N).take k) q
def R89: Rel:=fun args p r=>∃(i j:Nat) (l:List Bool) (v n:Int),args=[.ptr i [],U v,I n]/\(p.t.get i=some (W1 j l))/\(W2 i j l p)/\(l.length<=900000)/\(1<=n/\n<=64)/\r=.ret (.tup []) (wHp i j l (l++bitsOf v n.toNat) p)
theorem t89{T:XCall}(h:Has T 89 R89)(i j:Nat)(l:List Bool)(v n:Int){p:Hp}(h1:p.t.get i=some (W1 j l))(h2:W2 i j l p)(h3:l.length<=900000)(h4:1<=n/\n<=64): T 89 [.ptr i [],U v,I n] p=.ret (.tup []) (wHp i j l (l++bitsOf v n.toNat) p):=h _ _ _ ⟨i,j,l,v,n,rfl,h1,h2,h3,h4,rfl⟩
theorem zdis89{P:Prop}(h:P:=by first|exact zdis|(exact W2_nil _ _ _)|(refine W2_in ?_ ?_<;>exact zdis)|(simp only[Hp.bump_n,Hp.znew_n,Hp.zset_n,List.length_nil,List.length_cons,List.length_append,List.length_map];(first|done|omega))|(simp (disch:=first|exact zd1|(simp only[Hp.bump_n,Hp.znew_n,Hp.zset_n,List.length_nil,List.length_cons,List.length_append,List.length_map];(first|done|omega))) only[zheap,zx];(first|done|rfl))|fail): P:=h
theorem zq89{A B:Prop}(k:B)(h:A=B:=by have zy:=zA @zw89<|zA @rs89<|zA @tt3<|zA @tt25<|zA ti3.eq_1<|zA ti25.eq_1<|zA @t_156<|zA @t_157<|zA @Q0r<|zA @h1<|zA @h2<|zA @h3<|@h4;have zd:=@zdis89;exact zQd): A:=h▸k
theorem c89: Con C 89 R89:=by
 refine V0e C ?_ ?_ ?_
 ·rintro args p r r' ⟨i,j,l,v,n,h,h1,h2,h3,h4,e⟩ ⟨i',j',l',v',n',h',h1',h2',h3',h4',e'⟩
  subst e;subst e';(subst h;simp only[List.cons.injEq,CV.ptr.injEq,CV.sc.injEq,Value.int.injEq,and_true,true_and]at h';obtain⟨e1,e2,e3⟩:=h';subst e1;subst e2;subst e3;have hu:=W_uniq h1 h2 h1' h2';rw[Q1h _ hu,hu.1])
 ·rintro args p r ⟨i,j,l,v,n,h,h1,h2,h3,h4,rfl⟩;exact zr1
 rintro args p r ⟨i,j,l,v,n,rfl,h1,h2,h3,h4,rfl⟩
 refine zW C false [(156,R156),(157,R157)] ⟨c156,c157,zT⟩ rfl xf89 zc89_ok fun call zh hF=>?_
 have t_156:=@t156 _ zh.1
 have t_157:=@t157 _ zh.2.1
 clear zh
 have hd_h1:=hF.dom _ _ h1
 have hi:=hF.dom _ _ h1
 have k1:=h1
 have k2:=h2
 obtain⟨N,rfl⟩:=Int.eq_ofNat_of_zero_le (show 0<=n by omega)
 have hmm:max 0 (min (N:Int) 64)=N:=by omega
 have hw:=hF.dom
 (have zx:=zA hmm h1;refine zq89 ?_;try exact zT)
 repeat'(apply zK.s<;>intro hc<;>(try simp only[zhd]at hc)<;>(try have hw:=K0a hc)<;>(refine zq89 ?_;try exact zT))
 all_goals(try clear zx)
 (show W C false noExt call (ZC.loop zn89_4) _ _ _);refine Y0g C false noExt call zn89_4 _ _ _ (J89 i j l v N p) N ⟨0,j,rfl,by omega,(by simp[put_at,K0c,K0e]),by simp[put_at,K0c,K0e,Z0k],zev,by simpa using WSt.start k1 k2 hi⟩ ?_
 rintro n ρ q ⟨k,J,rfl,hk,e0,e1,e6,hS⟩
 by_cases hlt:k<N
 ·have hb:=bit_of v (N-1-k) (by omega)
  unfold andB at hb
  have e6:ρ 6=I ((N-1-k:Nat):Int):=by rw[e6];congr 2;omega
  have hlen:(l++(bitsOf v N).take k).length<=1000000:=by rw[List.length_append,List.length_take,Y0e];omega
  have g1:=hS.g
  have g2:=hS.w
  have hst:=hS.step hw (l++(bitsOf v N).take (k+1))
  rw[X06 v N k hlt,<- List.append_assoc]at hst
  have hge:0<=((N-1-k:Nat):Int):=by omega
  (have zx:=zA e0 (zA e1 (zA e6 (zA hb (zA g1 (zA hge h1)))));refine zq89 ?_;try exact zT)
  repeat'(apply zK.s<;>intro hc<;>(try simp only[zhd]at hc)<;>(try have hw:=K0a hc)<;>(refine zq89 ?_;try exact zT))
  all_goals(try clear zx)
  refine⟨N-(k+1),by omega,k+1,q.n,rfl,by omega,zev,zev,by simp[put_at,K0c];omega,?_⟩
  rw[X06 v N k hlt,<- List.append_assoc]
  exact hst
 ·have hkN:k=N:=by omega
  have e6:ρ 6=I (-1):=by rw[e6,hkN];congr 2;omega
  rw[hkN,List.take_of_length_le (by rw[Y0e];exact Nat.le_refl _)]at hS
  (have zx:=zA e0 (zA e1 (zA e6 h1));refine zq89 ?_;try exact zT)
  repeat'(apply zK.s<;>intro hc<;>(try simp only[zhd]at hc)<;>(try have hw:=K0a hc)<;>(refine zq89 ?_;try exact zT))
  all_goals(try clear zx)
  refine hS.fin hF k1 k2 ?_ (Z0p _ _)
  intro e
  have:=congrArg List.length e
  rw[List.length_append,Y0e,List.length_nil]at this
  omega
end Go.Proofs.Ytpchcfkebljopaa
end
section
namespace Go.Proofs.Ytpchcfkebljopaa
open Go.Cl Go Go.RowKit
def fixOp(x:X0b): Z0b:=if opRight (handOp x)=true then handOp x else⟨13,0,0⟩
def rulesOf(l:List X0b): List Z0b:=(l.take 16).map fixOp
theorem fixOp_right(x:X0b): opRight (fixOp x)=true:=by
 unfold fixOp
 split
 ·assumption
 ·decide
theorem Z14(l:List X0b): ruleRight (rulesOf l)=true:=by
 simp only[ruleRight,Bool.and_eq_true,decide_eq_true_eq]
 refine⟨by simp[rulesOf];omega,?_⟩
 rw[List.all_eq_true]
 intro o ho
 obtain⟨x,_,rfl⟩:=List.mem_map.1 ho
 exact fixOp_right x
def rateF(n:Int): Nat:=(f64.div (FloatKind.f64.nearest n) 4616189618054758400).getD 0
def halfF(n:Int): Nat:=(f64.div (FloatKind.f64.nearest n) 4611686018427387904).getD 0
def deptF(n:Int): Nat:=(f64.add 4607182418800017408 (halfF n)).getD 0
def rOk(r:Nat): Bool:=!(oddF r || (f64.order r 0==some .lt))
def dOk(d:Nat): Bool:=!(oddF d || (f64.order d 4607182418800017408==some .lt) || (f64.order d 4652007308841189376==some .gt))
theorem V1k{r d:Nat}(h1:rOk r=true)(h2:dOk d=true): bucketOk r d=true:=by
 simp only[rOk,dOk,Bool.not_eq_true',Bool.or_eq_false_iff]at h1 h2
 simp[bucketOk,h1.1,h1.2,h2.1.1,h2.1.2,h2.2]
theorem rate_all: (List.range 9).all (fun k=>(f64.div (FloatKind.f64.nearest (Int.ofNat k)) 4616189618054758400).isSome&&rOk (rateF (Int.ofNat k)))=true:=by kernel_rfl
theorem dept_all: (List.range 40).all (fun k=>(f64.div (FloatKind.f64.nearest (Int.ofNat k)) 4611686018427387904).isSome&&(f64.add 4607182418800017408 (halfF (Int.ofNat k))).isSome&&dOk (deptF (Int.ofNat k)))=true:=by kernel_rfl
theorem Y1p{o:Option Nat}(h:o.isSome=true): o=some (o.getD 0):=by cases o<;>simp at h ⊢
theorem rate_ok{n:Int}(h:0<=n/\n<9): f64.div (FloatKind.f64.nearest n) 4616189618054758400=some (rateF n)/\rOk (rateF n)=true:=by
 have:=List.all_eq_true.1 rate_all n.toNat (by simp;omega)
 rw[show Int.ofNat n.toNat=n by simp;omega,Bool.and_eq_true]at this
 exact⟨Y1p this.1,this.2⟩
theorem dept_ok{n:Int}(h:0<=n/\n<40): f64.div (FloatKind.f64.nearest n) 4611686018427387904=some (halfF n)/\f64.add 4607182418800017408 (halfF n)=some (deptF n)/\dOk (deptF n)=true:=by
 have:=List.all_eq_true.1 dept_all n.toNat (by simp;omega)
 rw[show Int.ofNat n.toNat=n by simp;omega,Bool.and_eq_true,Bool.and_eq_true]at this
 exact⟨Y1p this.1.1,Y1p this.1.2,this.2⟩
def cfgP(x:Y0a): Int:=if x.Players.tmod 11=10 then 1+pick (w64 (x.Players.tdiv 11)) 8 else 1+pick x.Players 4
def cfgRate(x:Y0a): Nat:=if 0<x.Rate.tmod 3 then 4613937818241073152 else rateF (pick x.Rate 9)
def cfgDepth(x:Y0a): Nat:=if 0<x.Rate.tmod 3 then 4632233691727265792 else deptF (pick (w64 (x.Rate.tdiv 9)) 40)
def tokAt(x:Y0a)(i:Nat): Int:=pick (w64 (x.Seed.tdiv 3)) 1000000*10+i
def cfgTok(x:Y0a)(k:Nat): List Int:=(List.range k).map (tokAt x)
def cfgWith(x:Y0a)(tk:Lst Int): X0a:=
 ⟨cfgP x,1+pick x.Period 3,pick x.Grace 8,pick x.Start 6,5+pick x.Frames 90,pick x.Seed 2147483648,cfgRate x,cfgDepth x,partL (rulesOf x.Rules.l),tk⟩
def cfgOf(x:Y0a): X0a:=cfgWith x (partL (cfgTok x (cfgP x).toNat))
theorem Y1b(x:Y0a): 1<=cfgP x/\cfgP x<=8:=by
 unfold cfgP
 split
 ·have:=V0g (n:=w64 (x.Players.tdiv 11)) (m:=8) (by omega);omega
 ·have:=V0g (n:=x.Players) (m:=4) (by omega);omega
theorem K1o(x:Y0a)(k:Nat): cfgTok x (k+1)=cfgTok x k++[tokAt x k]:=by simp[cfgTok,List.range_succ]
theorem V1b(x:Y0a)(k:Nat): (cfgTok x k).length=k:=by simp[cfgTok]
theorem weak_cfg(x:Y0a)(tk:Lst Int)(n:Nat)(h:tk.tl=.nil\/(∃j,tk.tl=.own j)/\0<tk.l.length): CV.weak (fun k=>k) n (cfgWith x tk).cv (cfgWith x (partL tk.l)).cv:=by
 have h1:CV.weak (fun k=>k) n (Lst.cv Z0b.cv (partL (rulesOf x.Rules.l))) (Lst.cv Z0b.cv (partL (rulesOf x.Rules.l))):=V0f fun j hj=>by
  have hj:=(Lst.has _ Z0b.nohas _ j).1 hj
  unfold partL at hj
  split at hj<;>simp at hj
 have h2:=Q1v (f:=I) I_has tk n h
 simp only[cfgWith,X0a.cv,CV.weak,CV.weakL]
 exact⟨trivial,trivial,trivial,trivial,trivial,trivial,trivial,trivial,h1,h2,trivial⟩
theorem nth_rep{α:Type}[Inhabited α]{n j:Nat}(x:α)(h:j<n): nth (List.replicate n x) j=x:=by
 unfold nth;rw[List.getElem?_replicate,if_pos h];rfl
theorem born_facts{P o:Int}(hP:1<=P/\P<=8)(ho:0<=o/\o<P): (bodyBorn o P).Kind=1/\(bodyBorn o P).Owner=o/\(0<=(bodyBorn o P).X/\(bodyBorn o P).X<=4095):=by
 have h1:brought P 1 8=P:=by unfold brought;omega
 have h2:brought o 0 (P-1)=o:=by unfold brought;omega
 have hx:(bodyBorn o P).X=w64 (((2*o+1)*4096).tdiv (2*P)):=by simp only[bodyBorn,h1,h2]
 refine⟨rfl,by simp only[bodyBorn,h1,h2],?_⟩
 rw[hx,Int.tdiv_eq_ediv_of_nonneg (by omega)]
 have hb:0<=((2*o+1)*4096)/(2*P)/\((2*o+1)*4096)/(2*P)<=4095:=by
  have:P=1\/P=2\/P=3\/P=4\/P=5\/P=6\/P=7\/P=8:=by omega
  rcases this with h|h|h|h|h|h|h|h<;>subst h<;>omega
 rw[show w64 (((2*o+1)*4096)/(2*P))=((2*o+1)*4096)/(2*P) from Z0l (by omega) (by omega)]
 exact hb
theorem again_right{P:Int}(hP:1<=P/\P<=8){v:Q0a}(ho:0<=v.Owner/\v.Owner<P)(hf:0<=v.Faults/\v.Faults<=65535): Body.right (again P v)=true/\(again P v).Kind=1/\(again P v).Owner=v.Owner:=by
 obtain⟨b1,b2,b3⟩:=born_facts hP ho
 refine⟨(Q0h (by show(bodyBorn v.Owner P).Kind≠0;omega)).2 ⟨?_,.inl b1,by show 0<=(bodyBorn v.Owner P).Owner/\(bodyBorn v.Owner P).Owner<=7;omega,b3,by simp[again,bodyBorn],by simp[again,bodyBorn,Q0a.zero],by simp[again,bodyBorn,Q0a.zero],by simp[again,bodyBorn,Q0a.zero],hf⟩,b1,b2⟩
 intro n hn
 have:n=0:=by simpa[again,bodyBorn,Q0a.zero]using hn
 omega
structure GameOk(P:Int)(s:V0a): Prop where
 placed:Placed P s.Bodies
 score:∀j,j<8->scoreAt P j (nth s.Score j)=true
theorem GameOk.hit{P:Int}{s:V0a}(h:GameOk P s): HitOk s:=K11 h.placed fun j hj=>Z03 (h.score j hj)
theorem right_of{c:X0a}{s:V0a}(h:GameOk c.Players s)(hl:legalC c=true)(hf:0<=s.Frame/\s.Frame<=600): stateRight c s=true:=by
 simp only[stateRight,Bool.and_eq_true]
 refine⟨⟨⟨(X0u _ _ _).2 fun j hj=>?_,(X0u _ _ _).2 fun j hj=>?_⟩,hl⟩,by simp[within,hf.1,hf.2]⟩
 ·rw[Nat.zero_add];exact h.placed j (by rw[<- s.hBodies];exact hj)
 ·rw[Nat.zero_add];exact h.score j (by rw[<- s.hScore];exact hj)
theorem firstK_at(c:X0a): ∀k,k<=16->∀j,j<16->nth (firstK c k).Bodies j=if j<k then bodyBorn j c.Players else Q0a.zero
 |0,_,j,hj=>by
  rw[if_neg (by omega)]
  exact nth_rep Q0a.zero hj
 |k+1,hk,j,hj=>by
  have ih:=firstK_at c k (by omega) j hj
  show nth ((firstK c k).Bodies.set k (bodyBorn k c.Players)) j=_
  by_cases e:j=k
  ·subst e;rw[K0i (by rw[(firstK c j).hBodies];omega),if_pos (by omega)]
  ·rw[V0j e,ih]
   by_cases hlt:j<k
   ·rw[if_pos hlt,if_pos (by omega)]
   ·rw[if_neg hlt,if_neg (by omega)]
theorem Y1e(c:X0a): ∀k,(firstK c k).Score=List.replicate 8 0/\(firstK c k).Frame=0
 |0=>⟨rfl,rfl⟩
 |k+1=>Y1e c k
theorem firstS_right{c:X0a}(h:legalC c=true): stateRight c (firstS c)=true/\(firstS c).Frame=0:=by
 have hP:=(Z0i h).1
 have he:firstS c=firstK c c.Players.toNat:=by simp[firstS,h]
 rw[he]
 have hs:=Y1e c c.Players.toNat
 refine⟨right_of ⟨fun j hj=>?_,fun j hj=>?_⟩ h (by rw[hs.2];omega),hs.2⟩
 ·rw[firstK_at c _ (by omega) j hj]
  unfold rightAt
  by_cases hlt:j<c.Players.toNat
  ·have hjP:(j:Int)<c.Players:=by omega
   rw[if_pos hlt,if_pos hjP]
   obtain⟨b1,b2,b3⟩:=born_facts hP (o:=(j:Int)) (by omega)
   have hr:Body.right (bodyBorn j c.Players)=true:=by
    have:=again_right hP (v:={Q0a.zero with Owner:=(j:Int)}) ⟨by simp only;omega,hjP⟩ (by simp[Q0a.zero])
    exact this.1
   simp[hr,b1,b2]
  ·have hjP:¬(j:Int)<c.Players:=by omega
   rw[if_neg hlt,if_neg hjP,V09];rfl
 ·rw[hs.1]
  have:nth (List.replicate 8 (0:Int)) j=0:=nth_rep 0 hj
  rw[this]
  simp[scoreAt,within]
theorem Y0t{n lo hi:Int}(h:lo<=n/\n<=hi): within n lo hi=true:=by simp[within,h.1,h.2]
theorem tokGo_map(f:Nat->Int)(hf:∀i j,f i=f j->i=j)(hw:∀i,i<9->within (f i) 0 2147483646=true): ∀(m k:Nat),k+m<=9->tokGo ((List.range k).map f) ((List.range' k m).map f)=true
 |0,k,_=>rfl
 |m+1,k,h=>by
  simp only[List.range'_succ,List.map_cons,tokGo,Bool.and_eq_true]
  refine⟨⟨hw k (by omega),?_⟩,?_⟩
  ·simp only[Bool.not_eq_true',List.contains_eq_mem,decide_eq_false_iff_not,List.mem_map,List.mem_range,not_exists,not_and]
   intro i hi e
   have:=hf _ _ e
   omega
  ·have:=tokGo_map f hf hw m (k+1) (by omega)
   rwa [List.range_succ,List.map_append]at this
theorem cfg_legal(x:Y0a): legalC (cfgOf x)=true:=by
 have hP:=Y1b x
 have p1:=V0g (n:=x.Period) (m:=3) (by omega)
 have p2:=V0g (n:=x.Grace) (m:=8) (by omega)
 have p3:=V0g (n:=x.Start) (m:=6) (by omega)
 have p4:=V0g (n:=x.Frames) (m:=90) (by omega)
 have p5:=V0g (n:=x.Seed) (m:=2147483648) (by omega)
 have p6:=V0g (n:=x.Rate) (m:=9) (by omega)
 have p7:=V0g (n:=w64 (x.Rate.tdiv 9)) (m:=40) (by omega)
 have p8:=V0g (n:=w64 (x.Seed.tdiv 3)) (m:=1000000) (by omega)
 have hb:bucketOk (cfgRate x) (cfgDepth x)=true:=by
  unfold cfgRate cfgDepth
  by_cases h:0<x.Rate.tmod 3
  ·rw[if_pos h,if_pos h];exact V1k (by kernel_rfl) (by kernel_rfl)
  ·rw[if_neg h,if_neg h];exact V1k (rate_ok p6).2 (dept_ok p7).2.2
 have ht:tokGo [] (cfgTok x (cfgP x).toNat)=true:=by
  have:=tokGo_map (tokAt x) (fun i j h=>by simp only[tokAt]at h;omega) (fun i hi=>Y0t (by simp only[tokAt];omega)) (cfgP x).toNat 0 (by omega)
  simpa[cfgTok,List.range_eq_range']using this
 have hr:=Z14 x.Rules.l
 have hlen:decide (((cfgTok x (cfgP x).toNat).length:Int)=cfgP x)=true:=by rw[V1b];simp;omega
 simp only[legalC,cfgOf,cfgWith,Bool.and_eq_true,partL_l]
 exact⟨⟨⟨⟨⟨Y0t hP,⟨⟨⟨Y0t (by omega),Y0t (by omega)⟩,Y0t (by omega)⟩,Y0t (by omega)⟩⟩,Y0t (by omega)⟩,hb⟩,hr⟩,ht,hlen⟩
theorem cfg_len(x:Y0a): (cfgOf x).Tokens.l.length<=1000000/\(cfgOf x).Rules.l.length<=1000000:=by
 have hP:=Y1b x
 simp only[cfgOf,cfgWith,partL_l,V1b]
 refine⟨by omega,?_⟩
 simp[rulesOf];omega
theorem rowsOf_len(players:Int)(l:List (Lst Int)): (rowsOf players l).length<=40:=by simp[rowsOf];omega
theorem shapes_s{α:Type}{f:α->CV}{sh:Shape}(h:∀x,(f x).shape=sh)(l:List α): (l.map f).all (fun v=>decide (v.shape=sh))=true:=by
 simp[h]
def bodyBits(b:Q0a): List Bool:=
 bitsOf b.Kind 2++(if b.Kind=0 then []else bitsOf b.Owner 3++(bitsOf b.X 12++(bitsOf b.Y 12++(bitsOf b.VX 8++(bitsOf b.VY 8++(bitsOf b.Age 10++(b.Mem.flatMap (bitsOf · 21)++bitsOf b.Faults 16)))))))
def stateBits(c:X0a)(s:V0a): List Bool:=
 bitsOf s.Frame 10++(bitsOf s.Dice 64++(s.Bodies.flatMap bodyBits++(s.Score.take c.Players.toNat).flatMap (bitsOf · 31)))
def layS(c:X0a)(s:V0a): List Int:=packB (stateBits c s)
def bindE{α β:Type}(r:Except Int (α×Nat))(f:α->Nat->Except Int (β×Nat)): Except Int (β×Nat):=match r with|.ok (x,a)=>f x a|.error e=>.error e
theorem K0f{α β:Type}(x:α)(a:Nat)(f:α->Nat->Except Int (β×Nat)): bindE (.ok (x,a)) f=f x a:=rfl
theorem Y0k{α β:Type}(e:Int)(f:α->Nat->Except Int (β×Nat)): bindE (.error e) f=.error e:=rfl
def getB(b:List Int)(n a:Nat): Except Int (Int×Nat):=if a+n<=8*b.length then .ok (valB (bitB b) a n,a+n)else .error a
def sgetB(b:List Int)(n a:Nat): Except Int (Int×Nat):=bindE (getB b n a) fun u a=>.ok (sgnB u n,a)
def memB(b:List Int)(x:Q0a)(a:Nat): Nat->Except Int (Q0a×Nat)
 |0=>.ok (x,a)
 |k+1=>bindE (memB b x a k) fun y a=>bindE (sgetB b 21 a) fun v a=>.ok (y.put_7k k v,a)
def readBody(b:List Int)(a:Nat): Except Int (Q0a×Nat):=
 bindE (getB b 2 a) fun k a=>if k=0 then .ok ({Q0a.zero with Kind:=k},a) else
 bindE (getB b 3 a) fun o a=>bindE (getB b 12 a) fun x a=>bindE (getB b 12 a) fun y a=>bindE (sgetB b 8 a) fun vx a=>bindE (sgetB b 8 a) fun vy a=>bindE (getB b 10 a) fun g a=>
 bindE (memB b {Q0a.zero with Kind:=k,Owner:=o,X:=x,Y:=y,VX:=vx,VY:=vy,Age:=g} a 4) fun z a=>bindE (getB b 16 a) fun f a=>.ok ({z with Faults:=f},a)
def bodiesB(b:List Int)(s:V0a)(a:Nat): Nat->Except Int (V0a×Nat)
 |0=>.ok (s,a)
 |k+1=>bindE (bodiesB b s a k) fun t a=>bindE (readBody b a) fun x a=>.ok (t.put_2k k x,a)
def scoresB(b:List Int)(s:V0a)(a:Nat): Nat->Except Int (V0a×Nat)
 |0=>.ok (s,a)
 |k+1=>bindE (scoresB b s a k) fun t a=>bindE (getB b 31 a) fun v a=>.ok (t.put_3k k v,a)
def readersN(c:X0a): Nat:=(max 0 (min c.Players 8)).toNat
def readAllB(c:X0a)(b:List Int)(a:Nat): Except Int (V0a×Nat):=
 bindE (getB b 10 a) fun f a=>bindE (getB b 64 a) fun d a=>bindE (bodiesB b {V0a.zero with Frame:=f,Dice:=d} a 16) fun t a=>scoresB b t a (readersN c)
def readState(c:X0a)(b:List Int): V0a×Int:=match readAllB c b 0 with
 |.error _=>(V0a.zero,2)
 |.ok (s,_)=>if stateRight c s=true/\layS c s=b then(s,0) else(V0a.zero,2)
def At(b:List Int)(a:Nat)(l:List Bool): Prop:=a+l.length<=8*b.length/\∀i,i<l.length->bitB b (a+i)=gb l i
theorem At.left{b:List Int}{a:Nat}{l m:List Bool}(h:At b a (l++m)): At b a l:=by
 have h1:=h.1
 rw[List.length_append]at h1
 refine⟨by omega,fun i hi=>?_⟩
 have:=h.2 i (by rw[List.length_append];omega)
 rw[gb_app,if_pos hi]at this;exact this
theorem At.right{b:List Int}{a:Nat}{l m:List Bool}(h:At b a (l++m)): At b (a+l.length) m:=by
 have h1:=h.1
 rw[List.length_append]at h1
 refine⟨by omega,fun i hi=>?_⟩
 have:=h.2 (l.length+i) (by rw[List.length_append];omega)
 rw[gb_app,if_neg (by omega),Nat.add_sub_cancel_left]at this
 rw[Nat.add_assoc];exact this
theorem getB_at{b:List Int}{a n:Nat}{v:Int}(h:At b a (bitsOf v n)): getB b n a=.ok (v % 2^n,a+n):=by
 have h1:=h.1
 rw[Y0e]at h1
 unfold getB
 rw[if_pos h1,valB_of fun i hi=>h.2 i (by rw[Y0e];exact hi)]
theorem K0r{b:List Int}{a n:Nat}{v:Int}(h:At b a (bitsOf v n))(h0:0<=v/\v<2^n): getB b n a=.ok (v,a+n):=by
 rw[getB_at h,Int.emod_eq_of_lt h0.1 h0.2]
theorem Q16{b:List Int}{a n:Nat}{v:Int}(h:At b a (bitsOf v n))(hn:1<=n)(h0:-(2^(n-1))<=v/\v<2^(n-1)): sgetB b n a=.ok (v,a+n):=by
 unfold sgetB
 rw[getB_at h,K0f,sgnB_of hn h0]
theorem K0l{α:Type}[Inhabited α](f:α->List Bool)(l:List α){k:Nat}(h:k<l.length): (l.take (k+1)).flatMap f=(l.take k).flatMap f++f (nth l k):=by
 rw[Y0v h,List.flatMap_append];simp
theorem Q18{α:Type}(f:α->List Bool)(l:List α)(k:Nat): ∃m,l.flatMap f=(l.take k).flatMap f++m:=⟨(l.drop k).flatMap f,by rw[<- List.flatMap_append,List.take_append_drop]⟩
def memK(x y:Q0a): Nat->Q0a
 |0=>x
 |k+1=>(memK x y k).put_7k k (nth y.Mem k)
theorem memB_at{b:List Int}{x y:Q0a}{a:Nat}(h:At b a (y.Mem.flatMap (bitsOf · 21)))(hy:∀n∈y.Mem,-1000000<=n/\n<=1000000): ∀k,k<=4->memB b x a k=.ok (memK x y k,a+((y.Mem.take k).flatMap (bitsOf · 21)).length)
 |0,_=>by simp[memB,memK]
 |k+1,hk=>by
  have hl:=y.hMem
  have hlt:k<y.Mem.length:=by omega
  obtain⟨m,hm⟩:=Q18 (bitsOf · 21) y.Mem (k+1)
  rw[hm,K0l _ _ hlt,List.append_assoc]at h
  have hv:=hy (nth y.Mem k) (by rw[X0i hlt];exact List.getElem_mem _)
  simp only[memB]
  rw[memB_at (by rw[hm,K0l _ _ hlt,List.append_assoc];exact h) hy k (by omega),K0f,Q16 h.right.left (by omega) (by omega),K0f,K0l _ _ hlt,List.length_append,Y0e,Nat.add_assoc]
  rfl
theorem memK_mem(x y:Q0a): ∀k j,j<k->k<=4->nth (memK x y k).Mem j=nth y.Mem j
 |0,j,h,_=>by omega
 |k+1,j,h,hk=>by
  show nth ((memK x y k).Mem.set k (nth y.Mem k)) j=_
  by_cases e:j=k
  ·subst e;rw[K0i (by rw[(memK x y j).hMem];omega)]
  ·rw[V0j e];exact memK_mem x y k j (by omega) (by omega)
theorem memK_rest(x y:Q0a): ∀k,(memK x y k).Kind=x.Kind/\(memK x y k).Owner=x.Owner/\(memK x y k).X=x.X/\(memK x y k).Y=x.Y/\(memK x y k).VX=x.VX/\(memK x y k).VY=x.VY/\(memK x y k).Age=x.Age
 |0=>⟨rfl,rfl,rfl,rfl,rfl,rfl,rfl⟩
 |k+1=>memK_rest x y k
theorem readBody_at{b:List Int}{x:Q0a}{a:Nat}(h:At b a (bodyBits x))(hr:Body.right x=true): readBody b a=.ok (x,a+(bodyBits x).length):=by
 unfold readBody
 unfold bodyBits at h ⊢
 by_cases hk:x.Kind=0
 ·have hz:=X1k hr hk
  rw[K0r h.left (by omega),K0f,if_pos hk,if_pos hk]
  simp only[List.append_nil,Y0e]
  rw[hz]
 ·have hb:=X0l hr hk
  have hm:=((Q0h hk).1 hr).1
  rw[if_neg hk]at h ⊢
  have k1:=h.right
  have k2:=k1.right
  have k3:=k2.right
  have k4:=k3.right
  have k5:=k4.right
  have k6:=k5.right
  have k7:=k6.right
  have k8:=k7.right
  simp only[Y0e]at k1 k2 k3 k4 k5 k6 k7 k8
  rw[K0r h.left (by omega),K0f,if_neg hk,K0r k1.left (by omega),K0f,K0r k2.left (by omega),K0f,K0r k3.left (by omega),K0f,Q16 k4.left (by omega) (by omega),K0f,Q16 k5.left (by omega) (by omega),K0f,K0r k6.left (by omega),K0f,memB_at k7.left hm 4 (by omega),K0f,List.take_of_length_le (by rw[x.hMem];omega),K0r k8 (by omega),K0f]
  simp only[List.length_append,Y0e,Except.ok.injEq,Prod.mk.injEq]
  refine⟨?_,by omega⟩
  obtain⟨z,hz⟩:∃z:Q0a,z={Q0a.zero with Kind:=x.Kind,Owner:=x.Owner,X:=x.X,Y:=x.Y,VX:=x.VX,VY:=x.VY,Age:=x.Age}:=⟨_,rfl⟩
  rw[<- hz]
  obtain⟨e1,e2,e3,e4,e5,e6,e7⟩:=memK_rest z x 4
  have e8:=memK_mem z x 4
  have hM:(memK z x 4).Mem=x.Mem:=X04 (by rw[(memK z x 4).hMem,x.hMem]) fun j hj=>e8 j (by rw[(memK z x 4).hMem]at hj;exact hj) (by omega)
  apply Q0a.ext'
  ·exact e1.trans (by rw[hz])
  ·exact e2.trans (by rw[hz])
  ·exact e3.trans (by rw[hz])
  ·exact e4.trans (by rw[hz])
  ·exact e5.trans (by rw[hz])
  ·exact e6.trans (by rw[hz])
  ·exact e7.trans (by rw[hz])
  ·exact hM
  ·rfl
def bodK(s0 s:V0a): Nat->V0a
 |0=>s0
 |k+1=>(bodK s0 s k).put_2k k (nth s.Bodies k)
theorem V11{b:List Int}{s0 s:V0a}{a:Nat}(h:At b a (s.Bodies.flatMap bodyBits))(hr:∀x∈s.Bodies,Body.right x=true): ∀k,k<=16->bodiesB b s0 a k=.ok (bodK s0 s k,a+((s.Bodies.take k).flatMap bodyBits).length)
 |0,_=>by simp[bodiesB,bodK]
 |k+1,hk=>by
  have hl:=s.hBodies
  have hlt:k<s.Bodies.length:=by omega
  obtain⟨m,hm⟩:=Q18 bodyBits s.Bodies (k+1)
  have h2:=h
  rw[hm,K0l _ _ hlt,List.append_assoc]at h2
  have hv:=hr (nth s.Bodies k) (by rw[X0i hlt];exact List.getElem_mem _)
  simp only[bodiesB]
  rw[V11 h hr k (by omega),K0f,readBody_at h2.right.left hv,K0f,K0l _ _ hlt,List.length_append]
  simp only[bodK,Nat.add_assoc]
theorem bodK_at(s0 s:V0a): ∀k j,j<k->k<=16->nth (bodK s0 s k).Bodies j=nth s.Bodies j
 |0,j,h,_=>by omega
 |k+1,j,h,hk=>by
  show nth ((bodK s0 s k).Bodies.set k (nth s.Bodies k)) j=_
  by_cases e:j=k
  ·subst e;rw[K0i (by rw[(bodK s0 s j).hBodies];omega)]
  ·rw[V0j e];exact bodK_at s0 s k j (by omega) (by omega)
theorem bodK_rest(s0 s:V0a): ∀k,(bodK s0 s k).Frame=s0.Frame/\(bodK s0 s k).Dice=s0.Dice/\(bodK s0 s k).Score=s0.Score
 |0=>⟨rfl,rfl,rfl⟩
 |k+1=>bodK_rest s0 s k
def scoK(s0:V0a)(l:List Int): Nat->V0a
 |0=>s0
 |k+1=>(scoK s0 l k).put_3k k (nth l k)
theorem V10{b:List Int}{s0:V0a}{l:List Int}{a:Nat}(h:At b a (l.flatMap (bitsOf · 31)))(hr:∀x∈l,0<=x/\x<=2147483647): ∀k,k<=l.length->scoresB b s0 a k=.ok (scoK s0 l k,a+((l.take k).flatMap (bitsOf · 31)).length)
 |0,_=>by simp[scoresB,scoK]
 |k+1,hk=>by
  have hlt:k<l.length:=by omega
  obtain⟨m,hm⟩:=Q18 (bitsOf · 31) l (k+1)
  have h2:=h
  rw[hm,K0l _ _ hlt,List.append_assoc]at h2
  have hv:=hr (nth l k) (by rw[X0i hlt];exact List.getElem_mem _)
  simp only[scoresB]
  rw[V10 h hr k (by omega),K0f,K0r h2.right.left (by omega),K0f,K0l _ _ hlt,List.length_append,Y0e]
  simp only[scoK,Nat.add_assoc]
theorem scoK_at(s0:V0a)(l:List Int): ∀k j,j<k->k<=8->nth (scoK s0 l k).Score j=nth l j
 |0,j,h,_=>by omega
 |k+1,j,h,hk=>by
  show nth ((scoK s0 l k).Score.set k (nth l k)) j=_
  by_cases e:j=k
  ·subst e;rw[K0i (by rw[(scoK s0 l j).hScore];omega)]
  ·rw[V0j e];exact scoK_at s0 l k j (by omega) (by omega)
theorem scoK_out(s0:V0a)(l:List Int): ∀k j,k<=j->nth (scoK s0 l k).Score j=nth s0.Score j
 |0,j,_=>rfl
 |k+1,j,h=>by
  show nth ((scoK s0 l k).Score.set k (nth l k)) j=_
  rw[V0j (by omega)];exact scoK_out s0 l k j (by omega)
theorem scoK_rest(s0:V0a)(l:List Int): ∀k,(scoK s0 l k).Frame=s0.Frame/\(scoK s0 l k).Dice=s0.Dice/\(scoK s0 l k).Bodies=s0.Bodies
 |0=>⟨rfl,rfl,rfl⟩
 |k+1=>scoK_rest s0 l k
def diceOk(s:V0a): Prop:=0<=s.Dice/\s.Dice<18446744073709551616
theorem zero_score(j:Nat): nth V0a.zero.Score j=0:=by
 show nth (List.replicate 8 (0:Int)) j=0
 by_cases h:j<8
 ·rw[X0i (by simp;exact h),List.getElem_replicate]
 ·simp only[nth]
  rw[List.getElem?_eq_none (by simp;omega)];rfl
theorem readAll_at{c:X0a}{s:V0a}{b:List Int}{a:Nat}(hs:stateRight c s=true)(hd:diceOk s)(h:At b a (stateBits c s)): readAllB c b a=.ok (s,a+(stateBits c s).length):=by
 obtain⟨hpl,hsc,hL,hfr⟩:=Q0i hs
 have hP:=(Z0i hL).1
 have hfw:=(Q0i hs).2.2.2
 have hall:=right_all hs
 have hlS:=s.hScore
 unfold stateBits at h ⊢
 have k1:=h.right
 have k2:=k1.right
 have k3:=k2.right
 simp only[Y0e]at k1 k2 k3
 have hN:readersN c=c.Players.toNat:=by unfold readersN;omega
 have htl:(s.Score.take c.Players.toNat).length=c.Players.toNat:=by rw[List.length_take];omega
 have hTm:∀x∈s.Score.take c.Players.toNat,0<=x/\x<=2147483647:=fun x hx=>by
  obtain⟨i,hi,rfl⟩:=List.mem_take_iff_getElem.1 hx
  have:=Z03 (hsc i (by omega))
  rw[X0i (by omega)]at this;exact this
 have hTn:∀j,j<c.Players.toNat->nth (s.Score.take c.Players.toNat) j=nth s.Score j:=fun j hj=>by
  rw[X0i (by omega),X0i (by omega),List.getElem_take]
 generalize s.Score.take c.Players.toNat=T at k3 htl hTm hTn
 unfold readAllB
 have hsA:=V10 (s0:=bodK {V0a.zero with Frame:=s.Frame,Dice:=s.Dice} s 16) k3 hTm c.Players.toNat (by omega)
 rw[List.take_of_length_le (by omega)]at hsA
 have hbA:=V11 (s0:={V0a.zero with Frame:=s.Frame,Dice:=s.Dice}) k2.left hall 16 (by omega)
 rw[List.take_of_length_le (by rw[s.hBodies];omega)]at hbA
 rw[K0r h.left (by omega),K0f,K0r k1.left hd,K0f,hbA,K0f,hN,hsA]
 simp only[List.length_append,Y0e,Except.ok.injEq,Prod.mk.injEq]
 refine⟨?_,by omega⟩
 generalize hz:({V0a.zero with Frame:=s.Frame,Dice:=s.Dice}:V0a)=z
 have hz1:z.Frame=s.Frame:=by rw[<- hz]
 have hz2:z.Dice=s.Dice:=by rw[<- hz]
 have hz3:z.Score=V0a.zero.Score:=by rw[<- hz]
 obtain⟨b1,b2,b3⟩:=bodK_rest z s 16
 obtain⟨c1,c2,c3⟩:=scoK_rest (bodK z s 16) T c.Players.toNat
 apply V0a.ext'
 ·rw[c1,b1,hz1]
 ·rw[c2,b2,hz2]
 ·rw[c3]
  exact X04 (by rw[(bodK z s 16).hBodies,s.hBodies]) fun j hj=>bodK_at z s 16 j (by rw[(bodK z s 16).hBodies]at hj;exact hj) (by omega)
 ·refine X04 (by rw[hlS];exact V0a.hScore _) fun j hj=>?_
  rw[V0a.hScore]at hj
  by_cases hjp:j<c.Players.toNat
  ·rw[scoK_at _ _ _ _ hjp (by omega),hTn j hjp]
  ·rw[scoK_out _ _ _ _ (by omega),b3,hz3,zero_score]
   have:=hsc j hj
   simp only[scoreAt,Bool.and_eq_true,Bool.not_eq_true',Bool.and_eq_false_iff,decide_eq_false_iff_not]at this
   omega
theorem lay_at(c:X0a)(s:V0a): At (layS c s) 0 (stateBits c s):=by
 refine⟨?_,fun i hi=>?_⟩
 ·unfold layS;rw[V0i];omega
 ·unfold layS
  rw[Nat.zero_add,V1s _ (by rw[V0i];omega)]
theorem read_lay{c:X0a}{s:V0a}(hs:stateRight c s=true)(hd:diceOk s): readState c (layS c s)=(s,0):=by
 unfold readState
 rw[readAll_at hs hd (lay_at c s)]
 simp only
 rw[if_pos ⟨hs,trivial⟩]
theorem zero_dice: diceOk V0a.zero:=by
 have h:V0a.zero.Dice=0:=rfl
 unfold diceOk;rw[h];omega
theorem first_dice(c:X0a): diceOk (firstS c):=by
 have hK:∀k,(firstK c k).Dice=seedOf c.Seed:=fun k=>by induction k with|zero=>rfl|succ k ih=>exact ih
 unfold firstS
 split
 ·unfold diceOk;rw[hK]
  unfold seedOf
  generalize (IntKind.u64.wrap (IntKind.u64.wrap c.Seed*2)+1:Int)=x
  show 0<=x % 2^64/\x % 2^64<_
  omega
 ·exact zero_dice
theorem Z1x(c:X0a)(b:List Int): readState c b=(V0a.zero,2)\/∃t,readState c b=(t,0)/\stateRight c t=true/\layS c t=b:=by
 unfold readState
 split
 ·exact .inl rfl
 ·split
  ·rename_i h;exact .inr ⟨_,rfl,h⟩
  ·exact .inl rfl
def bodyN(b:Q0a): Nat:=2+if b.Kind=0 then 0 else 153
theorem Q0y{α:Type}(f:α->List Bool)(n:Nat): ∀l:List α,(∀x∈l,(f x).length=n)->(l.flatMap f).length=n*l.length
 |[],_=>by simp
 |x::l,h=>by
  rw[List.flatMap_cons,List.length_append,h x (by simp),Q0y f n l fun y hy=>h y (by simp[hy]),List.length_cons,Nat.mul_succ];omega
theorem bodyBits_len(b:Q0a): (bodyBits b).length=bodyN b:=by
 unfold bodyBits bodyN
 split
 ·simp[Y0e]
 ·simp only[List.length_append,Y0e]
  rw[Q0y _ 21 b.Mem fun x _=>Y0e x 21,b.hMem]
def bodiesN(l:List Q0a): Nat:=(l.map bodyN).foldr (· + ·) 0
theorem Y02: ∀l:List Q0a,(l.flatMap bodyBits).length=bodiesN l
 |[]=>rfl
 |b::l=>by rw[List.flatMap_cons,List.length_append,bodyBits_len,Y02 l];rfl
theorem Z1m{c:X0a}{s:V0a}(h:stateRight c s=true): (stateBits c s).length=74+31*c.Players.toNat+bodiesN s.Bodies:=by
 have hP:=(Z0i (Q0i h).2.2.1).1
 unfold stateBits
 simp only[List.length_append,Y0e,Y02]
 rw[Q0y _ 31 _ fun x _=>Y0e x 31,List.length_take,s.hScore]
 omega
theorem Z02: ∀l:List Q0a,bodiesN l<=155*l.length
 |[]=>by simp[bodiesN]
 |b::l=>by
  have:=Z02 l
  have hb:bodyN b<=155:=by unfold bodyN;split<;>omega
  show bodyN b+bodiesN l<=_
  rw[List.length_cons];omega
end Go.Proofs.Ytpchcfkebljopaa
end
section
namespace Go.Proofs.Ytpchcfkebljopaa
open Go.Cl Go Go.RowKit
set_option maxRecDepth 100000
set_option linter.constructorNameAsVariable false
theorem WSt.new{i j J:Nat}{l m:List Bool}{p q:Hp}(hd:∀k o,p.t.get k=some o->k<p.n)(h:WSt i j l p J m q)(hj:J<q.n)(o:XObj): WSt i j l p J m (q.new o):=by
 have hi:i<q.n:=Nat.lt_of_lt_of_le h.hi h.hn
 refine⟨by rw[Hp.get_new_ne _ _ (by omega)];exact h.g,?_,h.hJ.imp id fun x=>⟨x.1,by rw[Hp.znew_n];omega⟩,h.hi,by rw[Hp.znew_n];have:=h.hn;omega,fun k o' a b c=>?_⟩
 ·rcases h.w with w|⟨w1,w2⟩
  ·exact .inl w
  ·exact .inr ⟨w1,by rw[Hp.get_new_ne _ _ (by omega)];exact w2⟩
 ·have hk:=hd k o' c
  have hn:=h.hn
  rw[Hp.get_new_ne _ _ (by omega)];exact h.hle k o' a b c
theorem WSt.new0{i j:Nat}{l:List Bool}{p:Hp}(hd:∀k o,p.t.get k=some o->k<p.n)(h1:p.t.get i=some (W1 j l))(h2:W2 i j l p)(hi:i<p.n)(o:XObj): WSt i j l p j l (p.new o):=by
 refine⟨by rw[Hp.get_new_ne _ _ (by omega)];exact h1,?_,.inl ⟨rfl,rfl⟩,hi,by rw[Hp.znew_n];omega,fun k o' a b c=>by rw[Hp.get_new_ne _ _ (by have:=hd k o' c;omega)];exact c⟩
 rcases h2 with w|⟨w1,w2⟩
 ·exact .inl w
 ·exact .inr ⟨w1,by rw[Hp.get_new_ne _ _ (by have:=hd _ _ w2;omega)];exact w2⟩
theorem V0w{i j:Nat}{l m:List Bool}{p:Hp}{k:Nat}(h1:k≠i)(h2:k≠j)(h3:k≠p.n): (wHp i j l m p).t.get k=p.t.get k:=wHp_ne h1 (.inr h2) h3
theorem Q1x{i j:Nat}{l m:List Bool}{p:Hp}{k:Nat}(h:k=p.n): (wHp i j l m p).t.get k=some (Wrow (packB m)):=by subst h;exact wHp_new _ _
theorem zdw1{P:Prop}(h:P:=by first|omega|(simp only[wHp_n,Hp.bump_n,Hp.znew_n,Hp.zset_n];(first|done|omega))): P:=h
theorem zdw{P:Prop}(h:P:=by first|exact zdis|(simp (disch:=first|exact zdw1|fail) only[zheap,wHp_i,Q1x,V0w,wHp_n,zx];(first|done|rfl))): P:=h
def R158: Rel:=fun args p r=>∃(i j:Nat) (l:List Bool) (v n:Int),args=[.ptr i [],I v,I n]/\(p.t.get i=some (W1 j l))/\(W2 i j l p)/\(l.length<=900000)/\(1<=n/\n<=64)/\r=.ret (.tup []) (wHp i j l (l++bitsOf v n.toNat) p)
theorem t158{T:XCall}(h:Has T 158 R158)(i j:Nat)(l:List Bool)(v n:Int){p:Hp}(h1:p.t.get i=some (W1 j l))(h2:W2 i j l p)(h3:l.length<=900000)(h4:1<=n/\n<=64): T 158 [.ptr i [],I v,I n] p=.ret (.tup []) (wHp i j l (l++bitsOf v n.toNat) p):=h _ _ _ ⟨i,j,l,v,n,rfl,h1,h2,h3,h4,rfl⟩
theorem zq158{A B:Prop}(k:B)(h:A=B:=by have zy:=zA @zw158<|zA @rs158<|zA @tt3<|zA @tt25<|zA ti3.eq_1<|zA ti25.eq_1<|zA @t_89<|zA @h1<|zA @h2<|zA @h3<|@h4;exact zQ): A:=h▸k
theorem c158: Con C 158 R158:=by
 refine V0e C ?_ ?_ ?_
 ·rintro args p r r' ⟨i,j,l,v,n,h,h1,h2,h3,h4,e⟩ ⟨i',j',l',v',n',h',h1',h2',h3',h4',e'⟩
  subst e;subst e';(subst h;simp only[List.cons.injEq,CV.ptr.injEq,CV.sc.injEq,Value.int.injEq,and_true,true_and]at h';obtain⟨e1,e2,e3⟩:=h';subst e1;subst e2;subst e3;have hu:=W_uniq h1 h2 h1' h2';rw[Q1h _ hu,hu.1])
 ·rintro args p r ⟨i,j,l,v,n,h,h1,h2,h3,h4,rfl⟩;exact zr1
 rintro args p r ⟨i,j,l,v,n,rfl,h1,h2,h3,h4,rfl⟩
 refine zW C false [(89,R89)] ⟨c89,zT⟩ rfl xf158 zc158_ok fun call zh hF=>?_
 have t_89:=@t89 _ zh.1
 clear zh
 have hd_h1:=hF.dom _ _ h1
 have hi:=hF.dom _ _ h1
 (have zx:=h1;refine zq158 ?_;try exact zT)
 repeat'(apply zK.s<;>intro hc<;>(try simp only[zhd]at hc)<;>(try have hw:=K0a hc)<;>(refine zq158 ?_;try exact zT))
 all_goals(try clear zx)
 rw[V01 _ (by omega)]
 refine((WSt.start h1 h2 hi).step hF.dom _).fin hF h1 h2 ?_ (Z0p _ _)
 intro e
 have:=congrArg List.length e
 rw[List.length_append,Y0e,List.length_nil]at this
 omega
theorem WSt.step2{i j J J':Nat}{l m m':List Bool}{p q:Hp}(hd:∀k o,p.t.get k=some o->k<p.n)(e:J'=q.n)(h:WSt i j l p J m q): WSt i j l p J' m' (wHp i J m m' q):=by subst e;exact h.step hd m'
theorem app_ne{l m:List Bool}{n:Nat}(h:m.length=n+1): l++m≠[]:=fun e=>by
 have:=congrArg List.length e
 rw[List.length_append,h,List.length_nil]at this
 omega
def J90(i j:Nat)(l:List Bool)(b:Q0a)(a:Nat)(p:Hp)(n:Nat)(ρ:Env)(q:Hp): Prop:=
 ∃(k J:Nat),n=4-k/\k<=4/\ρ 0=.ptr i []/\ρ 3=.ptr a []/\ρ 43=.agg (b.Mem.map I)/\ρ 44=I k/\q.t.get a=some (.var sh34 b.cv)/\p.n<=a/\a<q.n/\J≠a/\WSt i j l p J (l++bitsOf b.Kind 2++bitsOf b.Owner 3++bitsOf b.X 12++bitsOf b.Y 12++bitsOf b.VX 8++bitsOf b.VY 8++bitsOf b.Age 10++(b.Mem.take k).flatMap (bitsOf · 21)) q
def R90: Rel:=fun args p r=>∃(i j:Nat) (l:List Bool) (b:Q0a),args=[.ptr i [],b.cv]/\(p.t.get i=some (W1 j l))/\(W2 i j l p)/\(l.length<=800000)/\r=.ret (.tup []) (wHp i j l (l++bodyBits b) p)
theorem t90{T:XCall}(h:Has T 90 R90)(i j:Nat)(l:List Bool)(b:Q0a){p:Hp}(h1:p.t.get i=some (W1 j l))(h2:W2 i j l p)(h3:l.length<=800000): T 90 [.ptr i [],b.cv] p=.ret (.tup []) (wHp i j l (l++bodyBits b) p):=h _ _ _ ⟨i,j,l,b,rfl,h1,h2,h3,rfl⟩
theorem zdis90{P:Prop}(h:P:=by first|exact zdis|(exact zdw1)|(exact zdw)|(exact W2_nil _ _ _)|(refine W2_in ?_ ?_<;>exact zdw)|(simp only[Hp.bump_n,Hp.znew_n,Hp.zset_n,List.length_nil,List.length_cons,List.length_append,List.length_map,Y0e];(first|done|omega))|(simp (disch:=first|exact zd1|(simp only[Hp.bump_n,Hp.znew_n,Hp.zset_n,List.length_nil,List.length_cons,List.length_append,List.length_map,Y0e];(first|done|omega))) only[zheap,zx];(first|done|rfl))|fail): P:=h
theorem zq90{A B:Prop}(k:B)(h:A=B:=by have zy:=zA @zw90<|zA @rs90<|zA @tt3<|zA @tt25<|zA @tt32<|zA @tt34<|zA ti3.eq_1<|zA ti25.eq_1<|zA ti32.eq_1<|zA ti34.eq_1<|zA @t_89<|zA @t_158<|zA @Q0f<|zA @zsl32<|zA @V01<|zA @wHp_i<|zA @Q1x<|zA @V0w<|zA @wHp_n<|zA @h1<|zA @h2<|@h3;have zd:=@zdis90;exact zQd): A:=h▸k
theorem c90: Con C 90 R90:=by
 refine V0e C ?_ ?_ ?_
 ·rintro args p r r' ⟨i,j,l,b,h,h1,h2,h3,e⟩ ⟨i',j',l',b',h',h1',h2',h3',e'⟩
  subst e;subst e';(subst h;simp only[List.cons.injEq,CV.ptr.injEq,Q0a.inj_iff,and_true,true_and]at h';obtain⟨e1,e2⟩:=h';subst e1;subst e2;have hu:=W_uniq h1 h2 h1' h2';rw[Q1h _ hu,hu.1])
 ·rintro args p r ⟨i,j,l,b,h,h1,h2,h3,rfl⟩;exact zr1
 rintro args p r ⟨i,j,l,b,rfl,h1,h2,h3,rfl⟩
 refine zW C false [(89,R89),(158,R158)] ⟨c89,c158,zT⟩ rfl xf90 zc90_ok fun call zh hF=>?_
 have t_89:=@t89 _ zh.1
 have t_158:=@t158 _ zh.2.1
 clear zh
 have hd_h1:=hF.dom _ _ h1
 have hi:=hF.dom _ _ h1
 have hw:=hF.dom
 have hm:=b.hMem
 have hjn:l=[]\/j<p.n:=by
  rcases h2 with h|h
  ·exact .inl h
  ·exact .inr (hw _ _ h.2)
 have hS0:=WSt.new0 hw h1 h2 hi (.var sh34 b.cv)
 have hW0:=hS0.w
 have hbx:∀m,(wHp i j l m (p.new (.var sh34 b.cv))).t.get p.n=some (.var sh34 b.cv):=fun m=>by rw[wHp_ne (by omega) (hjn.imp id fun h=>by omega) (by rw[Hp.znew_n];omega),Hp.get_new_self]
 by_cases hK:b.Kind=0
 ·(have zx:=zA hK (zA hbx h1);refine zq90 ?_;try exact zT)
  repeat'(apply zK.s<;>intro hc<;>(try simp only[zhd]at hc)<;>(try have hw:=K0a hc)<;>(refine zq90 ?_;try exact zT))
  all_goals(try clear zx)
  have hbb:bodyBits b=bitsOf 0 2:=by simp[bodyBits,hK]
  rw[hbb]
  exact(hS0.step hw _).fin hF h1 h2 (app_ne (Y0e 0 2)) (Z0p _ _)
 ·have hbb:∀z,l++bitsOf b.Kind 2++bitsOf b.Owner 3++bitsOf b.X 12++bitsOf b.Y 12++bitsOf b.VX 8++bitsOf b.VY 8++bitsOf b.Age 10++b.Mem.flatMap (bitsOf · 21)++z=l++(bitsOf b.Kind 2++(bitsOf b.Owner 3++(bitsOf b.X 12++(bitsOf b.Y 12++(bitsOf b.VX 8++(bitsOf b.VY 8++(bitsOf b.Age 10++(b.Mem.flatMap (bitsOf · 21)++z)))))))):=fun z=>by simp only[List.append_assoc]
  have hb2:bodyBits b=bitsOf b.Kind 2++(bitsOf b.Owner 3++(bitsOf b.X 12++(bitsOf b.Y 12++(bitsOf b.VX 8++(bitsOf b.VY 8++(bitsOf b.Age 10++(b.Mem.flatMap (bitsOf · 21)++bitsOf b.Faults 16))))))):=by simp[bodyBits,hK]
  (have zx:=zA hK (zA hbx h1);refine zq90 ?_;try exact zT)
  repeat'(apply zK.s<;>intro hc<;>(try simp only[zhd]at hc)<;>(try have hw:=K0a hc)<;>(refine zq90 ?_;try exact zT))
  all_goals(try clear zx)
  (show W C false noExt call (ZC.loop X2a) _ _ _);refine Y0g C false noExt call X2a _ _ _ (J90 i j l b p.n p) 4 ⟨0,p.n+1+1+1+1+1+1+1,rfl,by omega,by simp[put_at,K0c,K0e],zev,zev,zev,by simp (disch:=first|exact zdw1|fail) only[zheap,V0w,hbx],Nat.le_refl _,zdw1,by omega,?_⟩ ?_
  ·rw[List.take_zero,List.flatMap_nil,List.append_nil]
   exact WSt.step2 hw zdw1 (WSt.step2 hw zdw1 (WSt.step2 hw zdw1 (WSt.step2 hw zdw1 (WSt.step2 hw zdw1 (WSt.step2 hw zdw1 (WSt.step2 hw zdw1 hS0))))))
  rintro n ρ q ⟨k,J,rfl,hk,e0,e3,e43,e44,g1,hpa,haq,hJa,hS⟩
  have hia:p.n≠i:=by omega
  have hlen:∀k,((b.Mem.take k).flatMap (bitsOf · 21)).length<=84:=fun k=>by
   rw[Q0y _ 21 _ fun x _=>Y0e x 21,List.length_take];omega
  have hlk:=hlen k
  have g2:=hS.g
  have hW:=hS.w
  by_cases hlt:(k:Int)<4
  ·have hft:=K0l (bitsOf · 21) b.Mem (k:=k) (by omega)
   (have zx:=zA e0 (zA e3 (zA e43 (zA e44 (zA g1 (zA g2 (zA hlt h1))))));refine zq90 ?_;try exact zT)
   repeat'(apply zK.s<;>intro hc<;>(try simp only[zhd]at hc)<;>(try have hw:=K0a hc)<;>(refine zq90 ?_;try exact zT))
   all_goals(try clear zx)
   have hn:=hS.hn
   refine⟨4-(k+1),by omega,k+1,q.n,rfl,by omega,zev,zev,zev,zev,by rw[V0w hia (Ne.symm hJa) (by omega)];exact g1,hpa,by rw[wHp_n];omega,by omega,?_⟩
   rw[hft,<- List.append_assoc]
   exact hS.step hw _
  ·have hk4:k=4:=by omega
   subst hk4
   rw[List.take_of_length_le (by omega)]at hS g2 hW hlk
   (have zx:=zA e0 (zA e3 (zA e43 (zA e44 (zA g1 (zA g2 (zA hlt h1))))));refine zq90 ?_;try exact zT)
   repeat'(apply zK.s<;>intro hc<;>(try simp only[zhd]at hc)<;>(try have hw:=K0a hc)<;>(refine zq90 ?_;try exact zT))
   all_goals(try clear zx)
   rw[hb2,<- hbb]
   exact(hS.step hw _).fin hF h1 h2 (app_ne (Y0e _ 16)) (Z0p _ _)
end Go.Proofs.Ytpchcfkebljopaa
end
section
namespace Go.Proofs.Ytpchcfkebljopaa
open Go.Cl Go Go.RowKit
set_option maxRecDepth 100000
def zn106_1:=ZC.reg [zv 6 (.assign (.const (.bool false)))]
def zn106_3:=ZC.reg [zu 7 (zmv 0),zu 8 (zmv 1),zu 9 (.binOp .geq 3 (Tm 7) (Tm 8) 3),zu 10 (zmv 9),zug 11 (zmv 0) 10 true false,zug 12 (zmv 2) 10 true false,zug 13 (.binOp .leq 3 (Tm 11) (Tm 12) 3) 10 true false,zu 14 (.pick (Tm 10) (Tm 13) (.const (.bool false))),zv 6 (zas 14)]
def zn106_0:=ZC.seq zn106_1 (ZC.seq zn106_3 ZC.ret)
def zc106: ZC:=zn106_0
theorem zc106_ok: zcode (xfOf Try.f106).code=some zc106:=by kernel_rfl
def zw106:=zU C zc106.eq_1<|zU C zn106_1.eq_1<|zU C zn106_3.eq_1<|(zunf C zn106_0.eq_1)
theorem rs106: (xfOf Try.f106).rs=[.tmp 6]:=by kernel_rfl
def xf106:=zF C 106 Try.f106
def zn105_1:=ZC.reg [zu 3 (.box 61 (Tm 0)),zu 5 (.box 34 (Tm 2)),zv 6 (.assign (.const (.bool false)))]
def zn105_5:=ZC.reg [zu 8 (zld 34 5),zu 9 (zcf 24 [Tm 8] [34]),zu 10 (.unOp .not 4 (Tm 9)),zv 7 (zas 10)]
def zn105_8:=ZC.reg [zv 6 (.assign (.const (.bool false)))]
def zn105_10:=ZC.reg [zu 12 (zmv 1),zu 13 (zfa 61 3 0),zu 14 (zld 3 13),zu 15 (.binOp .lss 3 (Tm 12) (Tm 14) 3),zv 11 (zas 15)]
def zn105_13:=ZC.reg [zu 16 (zfa 34 5 0),zu 17 (zld 3 16),zu 18 (.binOp .eql 3 (Tm 17) (Kn 1) 3),zu 19 (zmv 18),zug 20 (zfa 34 5 1) 19 true false,zug 21 (zld 3 20) 19 true false,zug 22 (zmv 1) 19 true false,zug 23 (.binOp .eql 3 (Tm 21) (Tm 22) 3) 19 true false,zu 24 (.pick (Tm 19) (Tm 23) (.const (.bool false))),zv 6 (zas 24)]
def zn105_15:=ZC.reg [zu 25 (zfa 34 5 0),zu 26 (zld 3 25),zu 27 (.binOp .eql 3 (Tm 26) (Kn 0) 3),zu 28 (zmv 27),zug 29 (zfa 34 5 0) 28 false false,zug 30 (zld 3 29) 28 false false,zug 31 (.binOp .eql 3 (Tm 30) (Kn 2) 3) 28 false false,zug 32 (zmv 31) 28 false false,zug 33 (zfa 34 5 1) 32 true false,zug 34 (zld 3 33) 32 true false,zug 35 (zfa 61 3 0) 32 true false,zug 36 (zld 3 35) 32 true false,zug 37 (.binOp .lss 3 (Tm 34) (Tm 36) 3) 32 true false,zug 38 (.pick (Tm 32) (Tm 37) (.const (.bool false))) 28 false false,zu 39 (.pick (Tm 28) (.const (.bool true)) (Tm 38)),zv 6 (zas 39)]
def zn105_0:=ZC.seq zn105_1 (ZC.seq (ZC.block 0 (ZC.seq zn105_5 (ZC.cond (Tm 7) (ZC.seq zn105_8 ZC.ret) (ZC.seq zn105_10 (ZC.cond (Tm 11) (ZC.seq zn105_13 ZC.ret) ZC.skip))))) (ZC.seq zn105_15 ZC.ret))
def zc105: ZC:=zn105_0
theorem zc105_ok: zcode (xfOf Try.f105).code=some zc105:=by kernel_rfl
def zw105:=zU C zc105.eq_1<|zU C zn105_1.eq_1<|zU C zn105_5.eq_1<|zU C zn105_8.eq_1<|zU C zn105_10.eq_1<|zU C zn105_13.eq_1<|zU C zn105_15.eq_1<|(zunf C zn105_0.eq_1)
theorem rs105: (xfOf Try.f105).rs=[.tmp 6]:=by kernel_rfl
def xf105:=zF C 105 Try.f105
def zn176_1:=ZC.reg [zv 2 (.assign (.const (.bool false)))]
def zn176_3:=ZC.reg [zu 3 (zmv 0),zu 4 (zcf 193 [Tm 3] [59]),zu 5 (zmv 4),zug 6 (zmv 0) 5 false false,zug 7 (zcf 194 [Tm 6,Kn 0] [59,3]) 5 false false,zu 8 (.pick (Tm 5) (.const (.bool true)) (Tm 7)),zv 2 (zas 8)]
def zn176_0:=ZC.seq zn176_1 (ZC.seq zn176_3 ZC.ret)
def zc176: ZC:=zn176_0
theorem zc176_ok: zcode (xfOf Try.f176).code=some zc176:=by kernel_rfl
def zw176:=zU C zc176.eq_1<|zU C zn176_1.eq_1<|zU C zn176_3.eq_1<|(zunf C zn176_0.eq_1)
theorem rs176: (xfOf Try.f176).rs=[.tmp 2]:=by kernel_rfl
def xf176:=zF C 176 Try.f176
def zn193_1:=ZC.reg [zv 2 (.assign (.const (.bool false)))]
def zn193_3:=ZC.reg [zu 3 (zmv 0),zu 4 (zmv 0),zu 5 (.binOp .neq 59 (Tm 3) (Tm 4) 59),zv 2 (zas 5)]
def zn193_0:=ZC.seq zn193_1 (ZC.seq zn193_3 ZC.ret)
def zc193: ZC:=zn193_0
theorem zc193_ok: zcode (xfOf Try.f193).code=some zc193:=by kernel_rfl
def zw193:=zU C zc193.eq_1<|zU C zn193_1.eq_1<|zU C zn193_3.eq_1<|(zunf C zn193_0.eq_1)
theorem rs193: (xfOf Try.f193).rs=[.tmp 2]:=by kernel_rfl
def xf193:=zF C 193 Try.f193
def zn194_1:=ZC.reg [zv 4 (.assign (.const (.bool false)))]
def zn194_4:=ZC.reg [zu 5 (zmv 1),zv 6 (.binOp .eql 3 (Tm 5) (Kn 0) 3)]
def zn194_6:=ZC.reg [zu 7 (zmv 0),zu 8 (zcf 205 [Tm 7] [59]),zv 0 (zas 8)]
def zn194_8:=ZC.reg [zu 9 (zmv 1),zv 10 (.binOp .lss 3 (Tm 9) (Kn 0) 3)]
def zn194_10:=ZC.reg [zu 11 (zmv 0),zu 12 (.unOp .neg 59 (Tm 11)),zv 0 (zas 12)]
def zn194_12:=ZC.reg [zu 13 (zmv 0),zu 14 (.binOp .gtr 59 (Tm 13) (.const (.float .f64 9218868437227405311)) 59),zv 4 (zas 14)]
def zn194_0:=ZC.seq zn194_1 (ZC.seq (ZC.seq zn194_4 (ZC.cond (Tm 6) zn194_6 (ZC.seq zn194_8 (ZC.cond (Tm 10) zn194_10 ZC.skip)))) (ZC.seq zn194_12 ZC.ret))
def zc194: ZC:=zn194_0
theorem zc194_ok: zcode (xfOf Try.f194).code=some zc194:=by kernel_rfl
def zw194:=zU C zc194.eq_1<|zU C zn194_1.eq_1<|zU C zn194_4.eq_1<|zU C zn194_6.eq_1<|zU C zn194_8.eq_1<|zU C zn194_10.eq_1<|zU C zn194_12.eq_1<|(zunf C zn194_0.eq_1)
theorem rs194: (xfOf Try.f194).rs=[.tmp 4]:=by kernel_rfl
def xf194:=zF C 194 Try.f194
def zn205_1:=ZC.reg [zv 2 (.assign (.const (.float .f64 0)))]
def zn205_3:=ZC.reg [zu 3 (zmv 0),zu 4 (zcf 209 [Tm 3] [59]),zu 5 (.binOp .andNot 25 (Tm 4) (.const (.int .u64 9223372036854775808)) 25),zu 6 (zcf 208 [Tm 5] [25]),zv 2 (zas 6)]
def zn205_0:=ZC.seq zn205_1 (ZC.seq zn205_3 ZC.ret)
def zc205: ZC:=zn205_0
theorem zc205_ok: zcode (xfOf Try.f205).code=some zc205:=by kernel_rfl
def zw205:=zU C zc205.eq_1<|zU C zn205_1.eq_1<|zU C zn205_3.eq_1<|(zunf C zn205_0.eq_1)
theorem rs205: (xfOf Try.f205).rs=[.tmp 2]:=by kernel_rfl
def xf205:=zF C 205 Try.f205
def zn135_1:=ZC.reg [zu 4 (.assign (.const (.pointer none))),zv 5 (.assign (Kn 0))]
def zn135_4:=ZC.reg [zu 6 (zmv 0),zu 7 (zcf 176 [Tm 6] [59]),zu 8 (zmv 7),zug 9 (zmv 1) 8 false false,zug 10 (zcf 176 [Tm 9] [59]) 8 false false,zu 11 (.pick (Tm 8) (.const (.bool true)) (Tm 10)),zu 12 (zmv 11),zug 13 (zmv 0) 12 false false,zug 14 (.binOp .lss 59 (Tm 13) (.const (.float .f64 0)) 59) 12 false false,zu 15 (.pick (Tm 12) (.const (.bool true)) (Tm 14)),zu 16 (zmv 15),zug 17 (zmv 1) 16 false false,zug 18 (.binOp .lss 59 (Tm 17) (.const (.float .f64 4607182418800017408)) 59) 16 false false,zu 19 (.pick (Tm 16) (.const (.bool true)) (Tm 18)),zu 20 (zmv 19),zug 21 (zmv 1) 20 false false,zug 22 (.binOp .gtr 59 (Tm 21) (.const (.float .f64 4652007308841189376)) 59) 20 false false,zv 23 (.pick (Tm 20) (.const (.bool true)) (Tm 22))]
def zn135_7:=ZC.reg [zu 4 (.assign (.const (.pointer none))),zv 5 (.assign (Kn 1))]
def zn135_9:=ZC.reg [zu 24 (zmv 0),zu 25 (zmv 1),zu 26 (zmv 1),⟨some 27,.build 223 ⟨[(0,.tmp 24),(1,.tmp 25),(2,.tmp 26)]⟩,none,false⟩,zu 28 (.box 223 (Tm 27)),zu 4 (zas 28),zv 5 (.assign (Kn 0))]
def zn135_0:=ZC.seq zn135_1 (ZC.seq (ZC.seq zn135_4 (ZC.cond (Tm 23) (ZC.seq zn135_7 ZC.ret) ZC.skip)) (ZC.seq zn135_9 ZC.ret))
def zc135: ZC:=zn135_0
theorem zc135_ok: zcode (xfOf Try.f135).code=some zc135:=by kernel_rfl
def zw135:=zU C zc135.eq_1<|zU C zn135_1.eq_1<|zU C zn135_4.eq_1<|zU C zn135_7.eq_1<|zU C zn135_9.eq_1<|(zunf C zn135_0.eq_1)
theorem rs135: (xfOf Try.f135).rs=[.tmp 4,.tmp 5]:=by kernel_rfl
def xf135:=zF C 135 Try.f135
def zn136_1:=ZC.reg [zu 1 (.box 61 (Tm 0)),zv 2 (.assign (.const (.bool false)))]
def zn136_3:=ZC.reg [zu 6 (.makeMap 224 none),zv 3 (zas 6)]
def zn136_6:=ZC.reg [zu 7 (zfa 61 1 9),zu 8 (zld 24 7),zu 9 (zcb .len [Tm 8] [24]),zv 10 (.move (Kn 0))]
def zn136_10:=ZC.reg [zv 11 (.binOp .lss 3 (Tm 10) (Tm 9) 3)]
def zn136_16:=ZC.reg [zu 12 (zia 24 8 10),zu 13 (zld 3 12),zv 5 (zas 13)]
def zn136_19:=ZC.reg [zu 14 (zmv 5),zu 15 (zcf 106 [Tm 14,Kn 0,Kn 2147483646] [3,3,3]),zu 16 (.unOp .not 4 (Tm 15)),zu 17 (zmv 16),zug 18 (zmv 3) 17 false false,zug 19 (zmv 5) 17 false false,zug 20 (.lookup 224 (Tm 18) (Tm 19) false) 17 false false,zv 21 (.pick (Tm 17) (.const (.bool true)) (Tm 20))]
def zn136_22:=ZC.reg [zv 2 (.assign (.const (.bool false)))]
def zn136_23:=ZC.reg [zu 22 (zmv 3),zu 23 (zmv 5),zv0 (.mapUpdate 224 (Tm 22) (Tm 23) (.const (.bool true)))]
def zn136_24:=ZC.reg [zu 24 (.binOp .add 3 (Tm 10) (Kn 1) 3),zv 10 (zmv 24)]
def Y11:=ZC.seq zn136_10 (ZC.seq (ZC.cond (Tm 11) ZC.skip (ZC.exit 0)) (ZC.seq (ZC.block 1 (ZC.seq zn136_16 (ZC.seq (ZC.seq zn136_19 (ZC.cond (Tm 21) (ZC.seq zn136_22 ZC.ret) ZC.skip)) zn136_23))) zn136_24))
def zn136_26:=ZC.reg [zu 25 (zfa 61 1 9),zu 26 (zld 24 25),zu 27 (zcb .len [Tm 26] [24]),zu 28 (zfa 61 1 0),zu 29 (zld 3 28),zu 30 (.binOp .eql 3 (Tm 27) (Tm 29) 3),zv 2 (zas 30)]
def zn136_0:=ZC.seq zn136_1 (ZC.seq zn136_3 (ZC.seq (ZC.seq zn136_6 (ZC.block 0 (ZC.loop Y11))) (ZC.seq zn136_26 ZC.ret)))
def zc136: ZC:=zn136_0
theorem zc136_ok: zcode (xfOf Try.f136).code=some zc136:=by kernel_rfl
def zw136:=zU C zc136.eq_1<|zU C zn136_1.eq_1<|zU C zn136_3.eq_1<|zU C zn136_6.eq_1<|zU C zn136_10.eq_1<|zU C zn136_16.eq_1<|zU C zn136_19.eq_1<|zU C zn136_22.eq_1<|zU C zn136_23.eq_1<|zU C zn136_24.eq_1<|zU C Y11.eq_1<|zU C zn136_26.eq_1<|(zunf C zn136_0.eq_1)
theorem rs136: (xfOf Try.f136).rs=[.tmp 2]:=by kernel_rfl
def xf136:=zF C 136 Try.f136
def zn133_1:=ZC.reg [zv 2 (.assign (.const (.int .u64 0)))]
def zn133_3:=ZC.reg [zu 3 (zmv 0),zu 4 (.convert 3 25 (Tm 3)),zu 5 (.binOp .mul 25 (Tm 4) (.const (.int .u64 2)) 25),zu 6 (.binOp .add 25 (Tm 5) (.const (.int .u64 1)) 25),zv 2 (zas 6)]
def zn133_0:=ZC.seq zn133_1 (ZC.seq zn133_3 ZC.ret)
def zc133: ZC:=zn133_0
theorem zc133_ok: zcode (xfOf Try.f133).code=some zc133:=by kernel_rfl
def zw133:=zU C zc133.eq_1<|zU C zn133_1.eq_1<|zU C zn133_3.eq_1<|(zunf C zn133_0.eq_1)
theorem rs133: (xfOf Try.f133).rs=[.tmp 2]:=by kernel_rfl
def xf133:=zF C 133 Try.f133
def zn60_1:=ZC.reg [zu 1 (.box 61 (Tm 0)),zv 2 (.assign (.const (.bool false)))]
def zn60_3:=ZC.reg [zu 6 (zfa 61 1 1),zu 7 (zld 3 6),zu 8 (zcf 106 [Tm 7,Kn 1,Kn 8] [3,3,3]),zu 9 (zmv 8),zug 10 (zfa 61 1 2) 9 true false,zug 11 (zld 3 10) 9 true false,zug 12 (zcf 106 [Tm 11,Kn 0,Kn 60] [3,3,3]) 9 true false,zu 13 (.pick (Tm 9) (Tm 12) (.const (.bool false))),zu 14 (zmv 13),zug 15 (zfa 61 1 3) 14 true false,zug 16 (zld 3 15) 14 true false,zug 17 (zcf 106 [Tm 16,Kn 0,Kn 100] [3,3,3]) 14 true false,zu 18 (.pick (Tm 14) (Tm 17) (.const (.bool false))),zu 19 (zmv 18),zug 20 (zfa 61 1 4) 19 true false,zug 21 (zld 3 20) 19 true false,zug 22 (zcf 106 [Tm 21,Kn 1,Kn 600] [3,3,3]) 19 true false,zu 23 (.pick (Tm 19) (Tm 22) (.const (.bool false))),zv 3 (zas 23)]
def zn60_5:=ZC.reg [zu 25 (zfa 61 1 6),zu 26 (zld 59 25),zu 27 (zfa 61 1 7),zu 28 (zld 59 27),zu 29 (zcf 135 [Tm 26,Tm 28] [59,59]),zu 24 (zmv 29),zu 30 (.extract (Tm 24) 0),zu 31 (.extract (Tm 24) 1),zu 4 (zas 30),zv 5 (zas 31)]
def zn60_7:=ZC.reg [zu 32 (zfa 61 1 0),zu 33 (zld 3 32),zu 34 (zcf 106 [Tm 33,Kn 1,Kn 8] [3,3,3]),zu 35 (zmv 34),zug 36 (zmv 3) 35 true false,zu 37 (.pick (Tm 35) (Tm 36) (.const (.bool false))),zu 38 (zmv 37),zug 39 (zfa 61 1 5) 38 true false,zug 40 (zld 3 39) 38 true false,zug 41 (zcf 106 [Tm 40,Kn 0,Kn 2147483647] [3,3,3]) 38 true false,zu 42 (.pick (Tm 38) (Tm 41) (.const (.bool false))),zu 43 (zmv 42),zug 44 (zmv 5) 43 true false,zug 45 (.binOp .eql 69 (Tm 44) (Kn 0) 69) 43 true false,zu 46 (.pick (Tm 43) (Tm 45) (.const (.bool false))),zu 47 (zmv 46),zug 48 (zfa 61 1 8) 47 true false,zug 49 (zld 23 48) 47 true false,zug 50 (zcf 29 [Tm 49] [23]) 47 true false,zu 51 (.pick (Tm 47) (Tm 50) (.const (.bool false))),zu 52 (zmv 51),zug 53 (zld 61 1) 52 true false,zug 54 (zcf 136 [Tm 53] [61]) 52 true false,zu 55 (.pick (Tm 52) (Tm 54) (.const (.bool false))),zv 2 (zas 55)]
def zn60_0:=ZC.seq zn60_1 (ZC.seq zn60_3 (ZC.seq zn60_5 (ZC.seq zn60_7 ZC.ret)))
def zc60: ZC:=zn60_0
theorem zc60_ok: zcode (xfOf Try.f60).code=some zc60:=by kernel_rfl
def zw60:=zU C zc60.eq_1<|zU C zn60_1.eq_1<|zU C zn60_3.eq_1<|zU C zn60_5.eq_1<|zU C zn60_7.eq_1<|(zunf C zn60_0.eq_1)
theorem rs60: (xfOf Try.f60).rs=[.tmp 2]:=by kernel_rfl
def xf60:=zF C 60 Try.f60
def zn58_1:=ZC.reg [zu 1 (.box 61 (Tm 0)),zv 2 (.alloc 66)]
def zn58_4:=ZC.reg [zu 5 (zld 61 1),zu 6 (zcf 60 [Tm 5] [61]),zv 7 (.unOp .not 4 (Tm 6))]
def zn58_7:=ZC.reg [⟨some 8,.build 66 ⟨[]⟩,none,false⟩,zv0 (.store 66 (Tm 2) (Tm 8))]
def zn58_9:=ZC.reg [zu 9 (zfa 61 1 5),zu 10 (zld 3 9),zu 11 (zcf 133 [Tm 10] [3]),⟨some 12,.build 66 ⟨[(1,.tmp 11)]⟩,none,false⟩,zu 3 (.alloc 66),zv0 (.store 66 (Tm 3) (Tm 12))]
def zn58_12:=ZC.reg [zu 13 (zfa 61 1 0),zu 14 (zld 3 13),zv 15 (.move (Kn 0))]
def zn58_16:=ZC.reg [zv 16 (.binOp .lss 3 (Tm 15) (Tm 14) 3)]
def zn58_22:=ZC.reg [zu 17 (zmv 15),zv 4 (zas 17)]
def zn58_23:=ZC.reg [zu 18 (zmv 4),zu 19 (zmv 4),zu 20 (zfa 61 1 0),zu 21 (zld 3 20),zu 22 (zcf 64 [Tm 19,Tm 21] [3,3]),zu 23 (zfa 66 3 2),zu 24 (zia 63 23 18),zv0 (.store 34 (Tm 24) (Tm 22))]
def zn58_24:=ZC.reg [zu 25 (.binOp .add 3 (Tm 15) (Kn 1) 3),zv 15 (zmv 25)]
def Z16:=ZC.seq zn58_16 (ZC.seq (ZC.cond (Tm 16) ZC.skip (ZC.exit 0)) (ZC.seq (ZC.block 1 (ZC.seq zn58_22 zn58_23)) zn58_24))
def zn58_26:=ZC.reg [zu 26 (zld 66 3),zv0 (.store 66 (Tm 2) (Tm 26))]
def zn58_0:=ZC.seq zn58_1 (ZC.seq (ZC.seq zn58_4 (ZC.cond (Tm 7) (ZC.seq zn58_7 ZC.ret) ZC.skip)) (ZC.seq zn58_9 (ZC.seq (ZC.seq zn58_12 (ZC.block 0 (ZC.loop Z16))) (ZC.seq zn58_26 ZC.ret))))
def zc58: ZC:=zn58_0
theorem zc58_ok: zcode (xfOf Try.f58).code=some zc58:=by kernel_rfl
def zw58:=zU C zc58.eq_1<|zU C zn58_1.eq_1<|zU C zn58_4.eq_1<|zU C zn58_7.eq_1<|zU C zn58_9.eq_1<|zU C zn58_12.eq_1<|zU C zn58_16.eq_1<|zU C zn58_22.eq_1<|zU C zn58_23.eq_1<|zU C zn58_24.eq_1<|zU C Z16.eq_1<|zU C zn58_26.eq_1<|(zunf C zn58_0.eq_1)
theorem rs58: (xfOf Try.f58).rs=[.cell 2 66]:=by kernel_rfl
def xf58:=zF C 58 Try.f58
def zn44_1:=ZC.reg [zu 2 (.box 61 (Tm 0)),zu 3 (.box 66 (Tm 1)),zv 4 (.assign (.const (.bool false)))]
def zn44_4:=ZC.reg [zu 9 (zfa 66 3 2),zu 10 (zld 63 9),zv 11 (.move (Kn 0))]
def zn44_8:=ZC.reg [zv 12 (.binOp .lss 3 (Tm 11) (Kn 16) 3)]
def zn44_14:=ZC.reg [zu 13 (zmv 11),zu 14 (.index 63 (Tm 10) (Tm 11)),zu 6 (.alloc 34),zu 5 (zas 13),zv0 (.store 34 (Tm 6) (Tm 14))]
def zn44_16:=ZC.reg [zu 15 (zld 61 2),zu 16 (zmv 5),zu 17 (zld 34 6),zu 18 (zcf 105 [Tm 15,Tm 16,Tm 17] [61,3,34]),zv 19 (.unOp .not 4 (Tm 18))]
def zn44_19:=ZC.reg [zv 4 (.assign (.const (.bool false)))]
def zn44_20:=ZC.reg [zu 20 (.binOp .add 3 (Tm 11) (Kn 1) 3),zv 11 (zmv 20)]
def zn44_7:=ZC.seq zn44_8 (ZC.seq (ZC.cond (Tm 12) ZC.skip (ZC.exit 0)) (ZC.seq (ZC.block 1 (ZC.seq zn44_14 (ZC.seq zn44_16 (ZC.cond (Tm 19) (ZC.seq zn44_19 ZC.ret) ZC.skip)))) zn44_20))
def zn44_23:=ZC.reg [zu 21 (zfa 66 3 3),zu 22 (zld 64 21),zv 23 (.move (Kn 0))]
def zn44_27:=ZC.reg [zv 24 (.binOp .lss 3 (Tm 23) (Kn 8) 3)]
def zn44_33:=ZC.reg [zu 25 (zmv 23),zu 26 (.index 64 (Tm 22) (Tm 23)),zu 7 (zas 25),zv 8 (zas 26)]
def zn44_35:=ZC.reg [zu 27 (zmv 8),zu 28 (zcf 106 [Tm 27,Kn 0,Kn 2147483647] [3,3,3]),zu 29 (.unOp .not 4 (Tm 28)),zu 30 (zmv 29),zug 31 (zmv 7) 30 false false,zug 32 (zfa 61 2 0) 30 false false,zug 33 (zld 3 32) 30 false false,zug 34 (.binOp .geq 3 (Tm 31) (Tm 33) 3) 30 false false,zug 35 (zmv 34) 30 false false,zug 36 (zmv 8) 35 true false,zug 37 (.binOp .neq 3 (Tm 36) (Kn 0) 3) 35 true false,zug 38 (.pick (Tm 35) (Tm 37) (.const (.bool false))) 30 false false,zv 39 (.pick (Tm 30) (.const (.bool true)) (Tm 38))]
def zn44_38:=ZC.reg [zv 4 (.assign (.const (.bool false)))]
def zn44_39:=ZC.reg [zu 40 (.binOp .add 3 (Tm 23) (Kn 1) 3),zv 23 (zmv 40)]
def Z15:=ZC.seq zn44_27 (ZC.seq (ZC.cond (Tm 24) ZC.skip (ZC.exit 2)) (ZC.seq (ZC.block 3 (ZC.seq zn44_33 (ZC.seq zn44_35 (ZC.cond (Tm 39) (ZC.seq zn44_38 ZC.ret) ZC.skip)))) zn44_39))
def zn44_41:=ZC.reg [zu 41 (zld 61 2),zu 42 (zcf 60 [Tm 41] [61]),zu 43 (zmv 42),zug 44 (zfa 66 3 0) 43 true false,zug 45 (zld 3 44) 43 true false,zug 46 (zcf 106 [Tm 45,Kn 0,Kn 600] [3,3,3]) 43 true false,zu 47 (.pick (Tm 43) (Tm 46) (.const (.bool false))),zv 4 (zas 47)]
def zn44_0:=ZC.seq zn44_1 (ZC.seq (ZC.seq zn44_4 (ZC.block 0 (ZC.loop zn44_7))) (ZC.seq (ZC.seq zn44_23 (ZC.block 2 (ZC.loop Z15))) (ZC.seq zn44_41 ZC.ret)))
def zc44: ZC:=zn44_0
theorem zc44_ok: zcode (xfOf Try.f44).code=some zc44:=by kernel_rfl
def zw44:=zU C zc44.eq_1<|zU C zn44_1.eq_1<|zU C zn44_4.eq_1<|zU C zn44_8.eq_1<|zU C zn44_14.eq_1<|zU C zn44_16.eq_1<|zU C zn44_19.eq_1<|zU C zn44_20.eq_1<|zU C zn44_7.eq_1<|zU C zn44_23.eq_1<|zU C zn44_27.eq_1<|zU C zn44_33.eq_1<|zU C zn44_35.eq_1<|zU C zn44_38.eq_1<|zU C zn44_39.eq_1<|zU C Z15.eq_1<|zU C zn44_41.eq_1<|(zunf C zn44_0.eq_1)
theorem rs44: (xfOf Try.f44).rs=[.tmp 4]:=by kernel_rfl
def xf44:=zF C 44 Try.f44
def zn86_1:=ZC.reg [zv 2 (.assign (.const (.slice none 0 0)))]
def zn86_3:=ZC.reg [zv 3 (.assign (.const (.slice none 0 0)))]
def zn86_6:=ZC.reg [zv 4 (.assign (Kn 0))]
def zn86_11:=ZC.reg [zu 6 (zmv 4),zu 7 (zmv 0),zu 8 (zcb .len [Tm 7] [22]),zu 9 (.binOp .lss 3 (Tm 6) (Tm 8) 3),zu 10 (zmv 9),zug 11 (zmv 4) 10 true false,zug 12 (.binOp .lss 3 (Tm 11) (Kn 16) 3) 10 true false,zv 13 (.pick (Tm 10) (Tm 12) (.const (.bool false)))]
def zn86_16:=ZC.reg [zu 16 (zmv 0),zu 17 (zmv 4),zu 18 (zia 22 16 17),zu 19 (zld 31 18),zu 20 (zcf 21 [Tm 19] [31]),zu 5 (.alloc 29),zv0 (.store 29 (Tm 5) (Tm 20))]
def zn86_19:=ZC.reg [zu 21 (zfa 29 5 0),zu 22 (zld 3 21),zu 23 (.binOp .lss 3 (Tm 22) (Kn 1) 3),zu 24 (zmv 23),zug 25 (zfa 29 5 0) 24 false false,zug 26 (zld 3 25) 24 false false,zug 27 (.binOp .gtr 3 (Tm 26) (Kn 13) 3) 24 false false,zu 28 (.pick (Tm 24) (.const (.bool true)) (Tm 27)),zu 29 (zmv 28),zug 30 (zfa 29 5 1) 29 false false,zug 31 (zld 3 30) 29 false false,zug 32 (.binOp .lss 3 (Tm 31) (Kn (-1000000)) 3) 29 false false,zu 33 (.pick (Tm 29) (.const (.bool true)) (Tm 32)),zu 34 (zmv 33),zug 35 (zfa 29 5 1) 34 false false,zug 36 (zld 3 35) 34 false false,zug 37 (.binOp .gtr 3 (Tm 36) (Kn 1000000) 3) 34 false false,zu 38 (.pick (Tm 34) (.const (.bool true)) (Tm 37)),zu 39 (zmv 38),zug 40 (zfa 29 5 2) 39 false false,zug 41 (zld 3 40) 39 false false,zug 42 (.binOp .lss 3 (Tm 41) (Kn (-1000000)) 3) 39 false false,zu 43 (.pick (Tm 39) (.const (.bool true)) (Tm 42)),zu 44 (zmv 43),zug 45 (zfa 29 5 2) 44 false false,zug 46 (zld 3 45) 44 false false,zug 47 (.binOp .gtr 3 (Tm 46) (Kn 1000000) 3) 44 false false,zv 48 (.pick (Tm 44) (.const (.bool true)) (Tm 47))]
def zn86_21:=ZC.reg [⟨some 49,.build 29 ⟨[(0,.const (.int .i64 13))]⟩,none,false⟩,zv0 (.store 29 (Tm 5) (Tm 49))]
def zn86_22:=ZC.reg [zu 50 (zmv 3),zu 51 (zld 29 5),⟨some 52,.buildSlice 23 1 ⟨[(0,.tmp 51)]⟩,none,false⟩,zu 53 (zcb .append [Tm 50,Tm 52] [23,23]),zv 3 (zas 53)]
def zn86_23:=ZC.reg [zu 14 (zmv 4),zu 15 (.binOp .add 3 (Tm 14) (Kn 1) 3),zv 4 (zas 15)]
def zn86_9:=ZC.seq (ZC.seq zn86_11 (ZC.cond (Tm 13) ZC.skip (ZC.exit 0))) (ZC.seq (ZC.block 1 (ZC.seq zn86_16 (ZC.seq (ZC.seq zn86_19 (ZC.cond (Tm 48) zn86_21 ZC.skip)) zn86_22))) zn86_23)
def zn86_25:=ZC.reg [zu 54 (zmv 3),zv 2 (zas 54)]
def zn86_0:=ZC.seq zn86_1 (ZC.seq zn86_3 (ZC.seq (ZC.seq zn86_6 (ZC.block 0 (ZC.loop zn86_9))) (ZC.seq zn86_25 ZC.ret)))
def zc86: ZC:=zn86_0
theorem zc86_ok: zcode (xfOf Try.f86).code=some zc86:=by kernel_rfl
def zw86:=zU C zc86.eq_1<|zU C zn86_1.eq_1<|zU C zn86_3.eq_1<|zU C zn86_6.eq_1<|zU C zn86_11.eq_1<|zU C zn86_16.eq_1<|zU C zn86_19.eq_1<|zU C zn86_21.eq_1<|zU C zn86_22.eq_1<|zU C zn86_23.eq_1<|zU C zn86_9.eq_1<|zU C zn86_25.eq_1<|(zunf C zn86_0.eq_1)
theorem rs86: (xfOf Try.f86).rs=[.tmp 2]:=by kernel_rfl
def xf86:=zF C 86 Try.f86
def zn31_1:=ZC.reg [zu 1 (.box 57 (Tm 0)),zv 2 (.alloc 61)]
def zn31_3:=ZC.draw 24 [(22,.alloc 61)] [zdd 0 5 (zfa 57 1 0) false [] [] false,zdd 1 6 (zld 3 5) false [] [] false,zdd 2 7 (zcf 37 [Tm 6,Kn 4] [3,3]) false [] [] true,zdd 3 8 (.binOp .add 3 (Kn 1) (Tm 7) 3) false [] [] false,zdd 4 9 (zfa 57 1 1) false [2] [] false,zdd 5 10 (zld 3 9) false [2] [] false,zdd 6 11 (zcf 37 [Tm 10,Kn 3] [3,3]) false [] [] true,zdd 7 12 (.binOp .add 3 (Kn 1) (Tm 11) 3) false [] [] false,zdd 8 13 (zfa 57 1 2) false [2,6] [] false,zdd 9 14 (zld 3 13) false [2,6] [] false,zdd 10 15 (zcf 37 [Tm 14,Kn 8] [3,3]) false [] [] true,zdd 11 16 (zfa 57 1 3) false [2,6,10] [] false,zdd 12 17 (zld 3 16) false [2,6,10] [] false,zdd 13 18 (zcf 37 [Tm 17,Kn 6] [3,3]) false [] [] true,zdd 14 19 (zfa 57 1 4) false [2,6,10,13] [] false,zdd 15 20 (zld 3 19) false [2,6,10,13] [] false,zdd 16 21 (zcf 37 [Tm 20,Kn 90] [3,3]) false [] [] true,zdd 17 22 (.binOp .add 3 (Kn 5) (Tm 21) 3) false [] [] false,zdd 18 23 (zfa 57 1 5) false [2,6,10,13,16] [] false,zdd 19 24 (zld 3 23) false [2,6,10,13,16] [] false,zdd 20 25 (zcf 37 [Tm 24,Kn 2147483648] [3,3]) false [] [] true,⟨21,some 26,.build 61 ⟨[(0,.tmp 8),(1,.tmp 12),(2,.tmp 15),(3,.tmp 18),(4,.tmp 22),(5,.tmp 25)]⟩,none,false,[],[],false⟩,zdd 22 3 (.alloc 61) true [2,6,10,13,16,20] [] false,zd0 23 (.store 61 (Tm 3) (Tm 26)) true [] [] false]
def zn31_6:=ZC.reg [zu 27 (zfa 57 1 0),zu 28 (zld 3 27),zu 29 (.binOp .rem 3 (Tm 28) (Kn 11) 3),zv 30 (.binOp .eql 3 (Tm 29) (Kn 10) 3)]
def zn31_8:=ZC.reg [zu 31 (zfa 57 1 0),zu 32 (zld 3 31),zu 33 (.binOp .quo 3 (Tm 32) (Kn 11) 3),zu 34 (zcf 37 [Tm 33,Kn 8] [3,3]),zu 35 (.binOp .add 3 (Kn 1) (Tm 34) 3),zu 36 (zfa 61 3 0),zv0 (.store 3 (Tm 36) (Tm 35))]
def zn31_10:=ZC.reg [zu 37 (zfa 57 1 6),zu 38 (zld 3 37),zu 39 (zcf 37 [Tm 38,Kn 9] [3,3]),zu 40 (.convert 3 59 (Tm 39)),zu 41 (.binOp .quo 59 (Tm 40) (.const (.float .f64 4616189618054758400)) 59),zu 42 (zfa 61 3 6),zv0 (.store 59 (Tm 42) (Tm 41))]
def zn31_12:=ZC.reg [zu 43 (zfa 57 1 6),zu 44 (zld 3 43),zu 45 (.binOp .quo 3 (Tm 44) (Kn 9) 3),zu 46 (zcf 37 [Tm 45,Kn 40] [3,3]),zu 47 (.convert 3 59 (Tm 46)),zu 48 (.binOp .quo 59 (Tm 47) (.const (.float .f64 4611686018427387904)) 59),zu 49 (.binOp .add 59 (.const (.float .f64 4607182418800017408)) (Tm 48) 59),zu 50 (zfa 61 3 7),zv0 (.store 59 (Tm 50) (Tm 49))]
def zn31_15:=ZC.reg [zu 51 (zfa 57 1 6),zu 52 (zld 3 51),zu 53 (.binOp .rem 3 (Tm 52) (Kn 3) 3),zv 54 (.binOp .gtr 3 (Tm 53) (Kn 0) 3)]
def zn31_18:=ZC.reg [zu 55 (zfa 61 3 6),zv0 (.store 59 (Tm 55) (.const (.float .f64 4613937818241073152)))]
def zn31_19:=ZC.reg [zu 56 (zfa 61 3 7),zv0 (.store 59 (Tm 56) (.const (.float .f64 4632233691727265792)))]
def zn31_21:=ZC.reg [zu 57 (zfa 57 1 7),zu 58 (zld 22 57),zu 59 (zcf 86 [Tm 58] [22]),zu 60 (zfa 61 3 8),zv0 (.store 23 (Tm 60) (Tm 59))]
def zn31_24:=ZC.reg [zv 4 (.assign (Kn 0))]
def zn31_29:=ZC.reg [zu 61 (zmv 4),zu 62 (zfa 61 3 0),zu 63 (zld 3 62),zv 64 (.binOp .lss 3 (Tm 61) (Tm 63) 3)]
def zn31_33:=ZC.draw 13 [] [zdd 0 67 (zfa 61 3 9) false [] [5] false,zdd 1 68 (zld 24 67) false [] [5] false,zdd 2 69 (zfa 57 1 5) false [] [] false,zdd 3 70 (zld 3 69) false [] [] false,zdd 4 71 (.binOp .quo 3 (Tm 70) (Kn 3) 3) false [] [] false,zdd 5 72 (zcf 37 [Tm 71,Kn 1000000] [3,3]) false [] [] false,zdd 6 73 (.binOp .mul 3 (Tm 72) (Kn 10) 3) false [] [] false,zdd 7 74 (zmv 4) true [] [] false,zdd 8 75 (.binOp .add 3 (Tm 73) (Tm 74) 3) true [] [] false,⟨9,some 76,.buildSlice 24 1 ⟨[(0,.tmp 75)]⟩,none,true,[],[],false⟩,zdd 10 77 (zcb .append [Tm 68,Tm 76] [24,24]) true [] [] false,zdd 11 78 (zfa 61 3 9) true [] [] false,zd0 12 (.store 24 (Tm 78) (Tm 77)) true [] [] false]
def zn31_34:=ZC.reg [zu 65 (zmv 4),zu 66 (.binOp .add 3 (Tm 65) (Kn 1) 3),zv 4 (zas 66)]
def V1i:=ZC.seq (ZC.seq zn31_29 (ZC.cond (Tm 64) ZC.skip (ZC.exit 0))) (ZC.seq (ZC.block 1 zn31_33) zn31_34)
def zn31_36:=ZC.reg [zu 79 (zld 61 3),zv0 (.store 61 (Tm 2) (Tm 79))]
def zn31_0:=ZC.seq zn31_1 (ZC.seq zn31_3 (ZC.seq (ZC.seq zn31_6 (ZC.cond (Tm 30) zn31_8 ZC.skip)) (ZC.seq zn31_10 (ZC.seq zn31_12 (ZC.seq (ZC.seq zn31_15 (ZC.cond (Tm 54) (ZC.seq zn31_18 zn31_19) ZC.skip)) (ZC.seq zn31_21 (ZC.seq (ZC.seq zn31_24 (ZC.block 0 (ZC.loop V1i))) (ZC.seq zn31_36 ZC.ret))))))))
def zc31: ZC:=zn31_0
theorem zc31_ok: zcode (xfOf Try.f31).code=some zc31:=by kernel_rfl
def zw31:=zU C zc31.eq_1<|zU C zn31_1.eq_1<|zU C zn31_3.eq_1<|zU C zn31_6.eq_1<|zU C zn31_8.eq_1<|zU C zn31_10.eq_1<|zU C zn31_12.eq_1<|zU C zn31_15.eq_1<|zU C zn31_18.eq_1<|zU C zn31_19.eq_1<|zU C zn31_21.eq_1<|zU C zn31_24.eq_1<|zU C zn31_29.eq_1<|zU C zn31_33.eq_1<|zU C zn31_34.eq_1<|zU C V1i.eq_1<|zU C zn31_36.eq_1<|(zunf C zn31_0.eq_1)
theorem rs31: (xfOf Try.f31).rs=[.cell 2 61]:=by kernel_rfl
def xf31:=zF C 31 Try.f31
def zn65_1:=ZC.reg [zv 4 (.assign (.const (.slice none 0 0)))]
def zn65_3:=ZC.reg [zu 7 (zmv 0),zu 8 (.makeSlice 108 (Tm 7) (Tm 7)),zv 5 (zas 8)]
def zn65_6:=ZC.reg [zv 6 (.assign (Kn 0))]
def zn65_11:=ZC.reg [zu 9 (zmv 6),zu 10 (zmv 0),zu 11 (.binOp .lss 3 (Tm 9) (Tm 10) 3),zu 12 (zmv 11),zug 13 (zmv 6) 12 true false,zug 14 (zmv 1) 12 true false,zug 15 (zcb .len [Tm 14] [24]) 12 true false,zug 16 (.binOp .lss 3 (Tm 13) (Tm 15) 3) 12 true false,zv 17 (.pick (Tm 12) (Tm 16) (.const (.bool false)))]
def zn65_16:=ZC.reg [zu 20 (zmv 1),zu 21 (zmv 6),zu 22 (zia 24 20 21),zu 23 (zld 3 22),zu 24 (.binOp .rem 3 (Tm 23) (Kn 4) 3),zv 25 (.binOp .gtr 3 (Tm 24) (Kn 0) 3)]
def zn65_18:=ZC.draw 16 [] [zdd 0 26 (zmv 5) false [] [] false,zdd 1 27 (zmv 6) false [] [] false,zdd 2 28 (zmv 1) false [] [] false,zdd 3 29 (zmv 6) false [] [] false,zdd 4 30 (zia 24 28 29) false [] [] false,zdd 5 31 (zld 3 30) false [] [] false,zdd 6 32 (.binOp .quo 3 (Tm 31) (Kn 4) 3) false [] [] false,zdd 7 33 (zmv 1) false [] [] false,zdd 8 34 (zmv 6) true [] [] false,zdd 9 35 (zia 24 33 34) true [] [] false,zdd 10 36 (zld 3 35) true [] [] false,zdd 11 37 (.binOp .quo 3 (Tm 36) (Kn 7) 3) true [] [] false,zdd 12 38 (zcf 69 [Tm 32,Tm 37] [3,3]) true [] [] false,⟨13,some 39,.build 110 ⟨[(0,.const (.bool true)),(1,.tmp 38)]⟩,none,true,[],[],false⟩,zdd 14 40 (zia 108 26 27) true [] [] false,zd0 15 (.store 110 (Tm 40) (Tm 39)) true [] [] false]
def zn65_19:=ZC.reg [zu 18 (zmv 6),zu 19 (.binOp .add 3 (Tm 18) (Kn 1) 3),zv 6 (zas 19)]
def zn65_9:=ZC.seq (ZC.seq zn65_11 (ZC.cond (Tm 17) ZC.skip (ZC.exit 0))) (ZC.seq (ZC.block 1 (ZC.seq zn65_16 (ZC.cond (Tm 25) zn65_18 ZC.skip))) zn65_19)
def zn65_21:=ZC.reg [zu 41 (zmv 5),zv 4 (zas 41)]
def zn65_0:=ZC.seq zn65_1 (ZC.seq zn65_3 (ZC.seq (ZC.seq zn65_6 (ZC.block 0 (ZC.loop zn65_9))) (ZC.seq zn65_21 ZC.ret)))
def zc65: ZC:=zn65_0
theorem zc65_ok: zcode (xfOf Try.f65).code=some zc65:=by kernel_rfl
def zw65:=zU C zc65.eq_1<|zU C zn65_1.eq_1<|zU C zn65_3.eq_1<|zU C zn65_6.eq_1<|zU C zn65_11.eq_1<|zU C zn65_16.eq_1<|zU C zn65_18.eq_1<|zU C zn65_19.eq_1<|zU C zn65_9.eq_1<|zU C zn65_21.eq_1<|(zunf C zn65_0.eq_1)
theorem rs65: (xfOf Try.f65).rs=[.tmp 4]:=by kernel_rfl
def xf65:=zF C 65 Try.f65
def zn61_1:=ZC.reg [zv 4 (.assign (.const (.slice none 0 0)))]
def zn61_3:=ZC.reg [zv 5 (.assign (.const (.slice none 0 0)))]
def zn61_6:=ZC.reg [zv 6 (.assign (Kn 0))]
def zn61_11:=ZC.reg [zu 7 (zmv 6),zu 8 (zmv 1),zu 9 (zcb .len [Tm 8] [58]),zu 10 (.binOp .lss 3 (Tm 7) (Tm 9) 3),zu 11 (zmv 10),zug 12 (zmv 6) 11 true false,zug 13 (.binOp .lss 3 (Tm 12) (Kn 40) 3) 11 true false,zv 14 (.pick (Tm 11) (Tm 13) (.const (.bool false)))]
def zn61_15:=ZC.reg [zu 17 (zmv 5),zu 18 (zmv 0),zu 19 (zmv 1),zu 20 (zmv 6),zu 21 (zia 58 19 20),zu 22 (zld 24 21),zu 23 (zcf 65 [Tm 18,Tm 22] [3,24]),⟨some 24,.buildSlice 92 1 ⟨[(0,.tmp 23)]⟩,none,false⟩,zu 25 (zcb .append [Tm 17,Tm 24] [92,92]),zv 5 (zas 25)]
def zn61_16:=ZC.reg [zu 15 (zmv 6),zu 16 (.binOp .add 3 (Tm 15) (Kn 1) 3),zv 6 (zas 16)]
def zn61_9:=ZC.seq (ZC.seq zn61_11 (ZC.cond (Tm 14) ZC.skip (ZC.exit 0))) (ZC.seq (ZC.block 1 zn61_15) zn61_16)
def zn61_18:=ZC.reg [zu 26 (zmv 5),zv 4 (zas 26)]
def zn61_0:=ZC.seq zn61_1 (ZC.seq zn61_3 (ZC.seq (ZC.seq zn61_6 (ZC.block 0 (ZC.loop zn61_9))) (ZC.seq zn61_18 ZC.ret)))
def zc61: ZC:=zn61_0
theorem zc61_ok: zcode (xfOf Try.f61).code=some zc61:=by kernel_rfl
def zw61:=zU C zc61.eq_1<|zU C zn61_1.eq_1<|zU C zn61_3.eq_1<|zU C zn61_6.eq_1<|zU C zn61_11.eq_1<|zU C zn61_15.eq_1<|zU C zn61_16.eq_1<|zU C zn61_9.eq_1<|zU C zn61_18.eq_1<|(zunf C zn61_0.eq_1)
theorem rs61: (xfOf Try.f61).rs=[.tmp 4]:=by kernel_rfl
def xf61:=zF C 61 Try.f61
end Go.Proofs.Ytpchcfkebljopaa
end
section
namespace Go.Proofs.Ytpchcfkebljopaa
open Go.Cl Go Go.RowKit
set_option maxRecDepth 100000
set_option linter.constructorNameAsVariable false
def R106: Rel:=fun args p r=>∃(n lo hi:Int),args=[I n,I lo,I hi]/\r=.ret (Bo (within n lo hi)) p
theorem t106{T:XCall}(h:Has T 106 R106)(n lo hi:Int){p:Hp}:T 106 [I n,I lo,I hi] p=.ret (Bo (within n lo hi)) p:=h _ _ _ ⟨n,lo,hi,rfl,rfl⟩
theorem zq106{A B:Prop}(k:B)(h:A=B:=by have zy:=zA @zw106<|zA @rs106<|zA @tt3<|ti3.eq_1;exact zQ): A:=h▸k
theorem zno106{P:Prop}(h:P:=by intro jj;simp[CV.has,CV.hasL,fault,K0b.nohas]): P:=h
theorem c106: Con C 106 R106:=by
 refine V0e C ?_ ?_ ?_
 ·rintro args p r r' ⟨n,lo,hi,h,e⟩ ⟨n',lo',hi',h',e'⟩
  subst e;subst e';simp_all
 ·rintro args p r ⟨n,lo,hi,h,rfl⟩;exact zr1
 rintro args p r ⟨n,lo,hi,rfl,rfl⟩
 refine zW C false [] zT rfl xf106 zc106_ok fun call zh hF=>?_
 clear zh
 (have zx:=zT;refine zq106 ?_;try exact zT)
 repeat'(apply zK.s<;>intro hc<;>(try simp only[zhd]at hc)<;>(try have hw:=K0a hc)<;>(refine zq106 ?_;try exact zT))
 all_goals(try clear zx)
 all_goals refine K0d hF zle (Q0c ?_ (Z0c zno106))
 all_goals simp[within,hc]
def extF: FuncId->List CV->Option CV:=extBits 209 208
theorem ext_a: ExtFn C.P 209 Extern.MathFloatBits.float64bits:=⟨Try.f209,Try.func209,by kernel_rfl,by kernel_rfl,by kernel_rfl,by kernel_rfl⟩
theorem ext_b: ExtFn C.P 208 Extern.MathFloatBits.float64frombits:=⟨Try.f208,Try.func208,by kernel_rfl,by kernel_rfl,by kernel_rfl,by kernel_rfl⟩
theorem ext_ok: ExtOk C extF:=extBits_ok ext_a ext_b
theorem extF_a(n:Nat): extF 209 [Fl n]=some (U n):=rfl
theorem extF_b(n:Int): extF 208 [U n]=some (Fl n.toNat):=rfl
def R193: Rel:=fun args p r=>∃(n:Nat),args=[Fl n]/\r=.ret (Bo (nanF n)) p
theorem t193{T:XCall}(h:Has T 193 R193)(n:Nat){p:Hp}:T 193 [Fl n] p=.ret (Bo (nanF n)) p:=h _ _ _ ⟨n,rfl,rfl⟩
theorem zq193{A B:Prop}(k:B)(h:A=B:=by have zy:=zA @zw193<|zA @rs193<|zA @tt59<|ti59.eq_1;exact zQf): A:=h▸k
theorem zno193{P:Prop}(h:P:=by intro jj;simp[CV.has,CV.hasL,fault,K0b.nohas]): P:=h
theorem c193: Con C 193 R193:=by
 refine V0e C ?_ ?_ ?_
 ·rintro args p r r' ⟨n,h,e⟩ ⟨n',h',e'⟩
  subst e;subst e';simp_all
 ·rintro args p r ⟨n,h,rfl⟩;exact zr1
 rintro args p r ⟨n,rfl,rfl⟩
 refine zW C false [] zT rfl xf193 zc193_ok fun call zh hF=>?_
 clear zh
 (have zx:=zT;refine zq193 ?_;try exact zT)
 repeat'(apply zK.s<;>intro hc<;>(try simp only[zhd]at hc)<;>(try have hw:=K0a hc)<;>(refine zq193 ?_;try exact zT))
 all_goals(try clear zx)
 exact K0d hF zle (Q0c rfl (Z0c zno193))
def R205: Rel:=fun args p r=>∃(n:Nat),args=[Fl n]/\r=.ret (Fl (absF n)) p
theorem t205{T:XCall}(h:Has T 205 R205)(n:Nat){p:Hp}:T 205 [Fl n] p=.ret (Fl (absF n)) p:=h _ _ _ ⟨n,rfl,rfl⟩
theorem zq205{A B:Prop}(k:B)(h:A=B:=by have zy:=zA @zw205<|zA @rs205<|zA @tt25<|zA ti25.eq_1<|zA @extF_a<|@extF_b;exact zQ): A:=h▸k
theorem zno205{P:Prop}(h:P:=by intro jj;simp[CV.has,CV.hasL,fault,K0b.nohas]): P:=h
theorem c205: Con C 205 R205:=by
 refine V0e C ?_ ?_ ?_
 ·rintro args p r r' ⟨n,h,e⟩ ⟨n',h',e'⟩
  subst e;subst e';simp_all
 ·rintro args p r ⟨n,h,rfl⟩;exact zr1
 rintro args p r ⟨n,rfl,rfl⟩
 refine ans_walk C false extF (tabL C []) xf205 ext_ok (K04 C _) zc205_ok (Nat.le_of_ble_eq_true (by kernel_rfl)) fun hF=>?_
 generalize tabL C []=call
 show W C false extF call zc205 (argE [Fl n]) p (endQ C _ _)
 (have zx:=zT;refine zq205 ?_;try exact zT)
 repeat'(apply zK.s<;>intro hc<;>(try simp only[zhd]at hc)<;>(try have hw:=K0a hc)<;>(refine zq205 ?_;try exact zT))
 all_goals(try clear zx)
 exact K0d hF zle (Q0c rfl (Z0c zno205))
def R194: Rel:=fun args p r=>∃(n:Nat),args=[Fl n,I 0]/\r=.ret (Bo (infF n)) p
theorem t194{T:XCall}(h:Has T 194 R194)(n:Nat){p:Hp}:T 194 [Fl n,I 0] p=.ret (Bo (infF n)) p:=h _ _ _ ⟨n,rfl,rfl⟩
theorem zq194{A B:Prop}(k:B)(h:A=B:=by have zy:=zA @zw194<|zA @rs194<|zA @tt3<|zA @tt59<|zA ti3.eq_1<|zA ti59.eq_1<|@t_205;exact zQf): A:=h▸k
theorem zno194{P:Prop}(h:P:=by intro jj;simp[CV.has,CV.hasL,fault,K0b.nohas]): P:=h
theorem c194: Con C 194 R194:=by
 refine V0e C ?_ ?_ ?_
 ·rintro args p r r' ⟨n,h,e⟩ ⟨n',h',e'⟩
  subst e;subst e';simp_all
 ·rintro args p r ⟨n,h,rfl⟩;exact zr1
 rintro args p r ⟨n,rfl,rfl⟩
 refine zW C false [(205,R205)] ⟨c205,zT⟩ rfl xf194 zc194_ok fun call zh hF=>?_
 have t_205:=@t205 _ zh.1
 clear zh
 (have zx:=zT;refine zq194 ?_;try exact zT)
 repeat'(apply zK.s<;>intro hc<;>(try simp only[zhd]at hc)<;>(try have hw:=K0a hc)<;>(refine zq194 ?_;try exact zT))
 all_goals(try clear zx)
 exact K0d hF zle (Q0c rfl (Z0c zno194))
def R176: Rel:=fun args p r=>∃(n:Nat),args=[Fl n]/\r=.ret (Bo (oddF n)) p
theorem t176{T:XCall}(h:Has T 176 R176)(n:Nat){p:Hp}:T 176 [Fl n] p=.ret (Bo (oddF n)) p:=h _ _ _ ⟨n,rfl,rfl⟩
theorem zq176{A B:Prop}(k:B)(h:A=B:=by have zy:=zA @zw176<|zA @rs176<|zA @t_193<|@t_194;exact zQ): A:=h▸k
theorem zno176{P:Prop}(h:P:=by intro jj;simp[CV.has,CV.hasL,fault,K0b.nohas]): P:=h
theorem c176: Con C 176 R176:=by
 refine V0e C ?_ ?_ ?_
 ·rintro args p r r' ⟨n,h,e⟩ ⟨n',h',e'⟩
  subst e;subst e';simp_all
 ·rintro args p r ⟨n,h,rfl⟩;exact zr1
 rintro args p r ⟨n,rfl,rfl⟩
 refine zW C false [(193,R193),(194,R194)] ⟨c193,c194,zT⟩ rfl xf176 zc176_ok fun call zh hF=>?_
 have t_193:=@t193 _ zh.1
 have t_194:=@t194 _ zh.2.1
 clear zh
 (have zx:=zT;refine zq176 ?_;try exact zT)
 repeat'(apply zK.s<;>intro hc<;>(try simp only[zhd]at hc)<;>(try have hw:=K0a hc)<;>(refine zq176 ?_;try exact zT))
 all_goals(try clear zx)
 all_goals refine K0d hF zle (Q0c ?_ (Z0c zno176))
 all_goals simp[oddF,hc]
def R133: Rel:=fun args p r=>∃(n:Int),args=[I n]/\r=.ret (U (seedOf n)) p
theorem t133{T:XCall}(h:Has T 133 R133)(n:Int){p:Hp}:T 133 [I n] p=.ret (U (seedOf n)) p:=h _ _ _ ⟨n,rfl,rfl⟩
theorem zq133{A B:Prop}(k:B)(h:A=B:=by have zy:=zA @zw133<|zA @rs133<|zA @tt3<|zA @tt25<|zA ti3.eq_1<|ti25.eq_1;exact zQ): A:=h▸k
theorem zno133{P:Prop}(h:P:=by intro jj;simp[CV.has,CV.hasL,fault,K0b.nohas]): P:=h
theorem c133: Con C 133 R133:=by
 refine V0e C ?_ ?_ ?_
 ·rintro args p r r' ⟨n,h,e⟩ ⟨n',h',e'⟩
  subst e;subst e';simp_all
 ·rintro args p r ⟨n,h,rfl⟩;exact zr1
 rintro args p r ⟨n,rfl,rfl⟩
 refine zW C false [] zT rfl xf133 zc133_ok fun call zh hF=>?_
 clear zh
 (have zx:=zT;refine zq133 ?_;try exact zT)
 repeat'(apply zK.s<;>intro hc<;>(try simp only[zhd]at hc)<;>(try have hw:=K0a hc)<;>(refine zq133 ?_;try exact zT))
 all_goals(try clear zx)
 exact K0d hF zle (Q0c rfl (Z0c zno133))
def R135: Rel:=fun args p r=>∃(ra de:Nat),args=[Fl ra,Fl de]/\r=(if bucketOk ra de=true then .ret (.tup [.ptr p.n [],I 0]) (p.bump 1)else .ret (.tup [.sc (.pointer none),I 1]) p)
theorem t135{T:XCall}(h:Has T 135 R135)(ra de:Nat){p:Hp}:T 135 [Fl ra,Fl de] p=(if bucketOk ra de=true then .ret (.tup [.ptr p.n [],I 0]) (p.bump 1)else .ret (.tup [.sc (.pointer none),I 1]) p):=h _ _ _ ⟨ra,de,rfl,rfl⟩
theorem zq135{A B:Prop}(k:B)(h:A=B:=by have zy:=zA @zw135<|zA @rs135<|zA @tt59<|zA @tt223<|zA ti59.eq_1<|zA ti223.eq_1<|zA @t_176<|@Y1f;exact zQf): A:=h▸k
theorem zno135{P:Prop}(h:P:=by intro jj;simp[CV.has,CV.hasL,fault,K0b.nohas,Y0b.nohas]): P:=h
theorem c135: Con C 135 R135:=by
 refine V0e C ?_ ?_ ?_
 ·rintro args p r r' ⟨ra,de,h,e⟩ ⟨ra',de',h',e'⟩
  subst e;subst e';simp_all[Y0b.inj_iff]
 ·rintro args p r ⟨ra,de,h,rfl⟩;exact zr1
 rintro args p r ⟨ra,de,rfl,rfl⟩
 refine zW C false [(176,R176)] ⟨c176,zT⟩ rfl xf135 zc135_ok fun call zh hF=>?_
 have t_176:=@t176 _ zh.1
 clear zh
 (have zx:=zT;refine zq135 ?_;try exact zT)
 repeat'(apply zK.s<;>intro hc<;>(try simp only[zhd]at hc)<;>(try have hw:=K0a hc)<;>(refine zq135 ?_;try exact zT))
 all_goals(try clear zx)
 all_goals first
  |(rw[if_neg (by simp[bucketOk, *])];exact K0d hF zle (Q0c rfl (Z0c zno135)))
  |(rw[if_pos (by simp[bucketOk, *])];exact K1d (Nat.le_succ _) (fun k o h=>⟨Nat.lt_succ_of_lt (hF.dom k o h),.inl ⟨hF.dom k o h,h,by rw[Hp.get_new_ne _ _ (Nat.ne_of_lt (hF.dom k o h))];exact h⟩⟩) (Q0c rfl (fun j hj=>by simp[CV.has,CV.hasL]at hj;subst hj;exact Nat.lt_succ_self _)))
def R105: Rel:=fun args p r=>∃(c:X0a) (k:Int) (b:Q0a),args=[c.cv,I k,b.cv]/\(0<=k)/\r=.ret (Bo (rightAt c.Players k.toNat b)) p
theorem t105{T:XCall}(h:Has T 105 R105)(c:X0a)(k:Int)(b:Q0a){p:Hp}(h1:0<=k): T 105 [c.cv,I k,b.cv] p=.ret (Bo (rightAt c.Players k.toNat b)) p:=h _ _ _ ⟨c,k,b,rfl,h1,rfl⟩
theorem zq105{A B:Prop}(k:B)(h:A=B:=by have zy:=zA @zw105<|zA @rs105<|zA @tt3<|zA @tt34<|zA @tt61<|zA ti3.eq_1<|zA ti34.eq_1<|zA ti61.eq_1<|zA @t_24<|zA @Z0e<|zA @Q0f<|@h1;exact zQ): A:=h▸k
theorem zno105{P:Prop}(h:P:=by intro jj;simp[CV.has,CV.hasL,fault,K0b.nohas,Q0a.nohas]): P:=h
theorem c105: Con C 105 R105:=by
 refine V0e C ?_ ?_ ?_
 ·rintro args p r r' ⟨c,k,b,h,h1,e⟩ ⟨c',k',b',h',h1',e'⟩
  subst e;subst e';simp_all[X0a.inj_iff,Q0a.inj_iff]
 ·rintro args p r ⟨c,k,b,h,h1,rfl⟩;exact zr1
 rintro args p r ⟨c,k,b,rfl,h1,rfl⟩
 refine zW C false [(24,R24)] ⟨c24,zT⟩ rfl xf105 zc105_ok fun call zh hF=>?_
 have t_24:=@t24 _ zh.1
 clear zh
 have hk:((k.toNat:Nat):Int)=k:=by omega
 cases hb:Body.right b with
 |false=>
  (have zx:=hb;refine zq105 ?_;try exact zT)
  repeat'(apply zK.s<;>intro hc<;>(try simp only[zhd]at hc)<;>(try have hw:=K0a hc)<;>(refine zq105 ?_;try exact zT))
  all_goals(try clear zx)
  refine K0d hF zle (Q0c ?_ (Z0c zno105))
  simp[rightAt,hb]
 |true=>
  (have zx:=hb;refine zq105 ?_;try exact zT)
  repeat'(apply zK.s<;>intro hc<;>(try simp only[zhd]at hc)<;>(try have hw:=K0a hc)<;>(refine zq105 ?_;try exact zT))
  all_goals(try clear zx)
  all_goals refine K0d hF zle (Q0c ?_ (Z0c zno105))
  all_goals simp[rightAt,hb,hk, *]
theorem freeN_take{l:List Q0a}{k:Nat}(h:k<l.length): freeN (l.take (k+1))=if(nth l k).Kind=0 then freeN (l.take k)+1 else freeN (l.take k):=by
 unfold freeN
 rw[List.take_add_one,Q0s h,List.filter_append,List.length_append]
 by_cases hk:(nth l k).Kind=0<;>simp[hk]
def R75: Rel:=fun args p r=>∃(b:Q0a),args=[b.cv]/\r=.ret (Bo (Body.right b)) p
theorem t75{T:XCall}(h:Has T 75 R75)(b:Q0a){p:Hp}:T 75 [b.cv] p=.ret (Bo (Body.right b)) p:=h _ _ _ ⟨b,rfl,rfl⟩
theorem zq75{A B:Prop}(k:B)(h:A=B:=by have zy:=zA @zw75<|zA @rs75<|zA @tt3<|zA @tt32<|zA @tt34<|zA ti3.eq_1<|zA ti32.eq_1<|zA ti34.eq_1<|zA @t_85<|zA @Q0f<|@zsl32;exact zQ): A:=h▸k
theorem zno75{P:Prop}(h:P:=by intro jj;simp[CV.has,CV.hasL,fault,K0b.nohas,Q0a.nohas]): P:=h
theorem c75: Con C 75 R75:=by
 refine V0e C ?_ ?_ ?_
 ·rintro args p r r' ⟨b,h,e⟩ ⟨b',h',e'⟩
  subst e;subst e';simp_all[Q0a.inj_iff]
 ·rintro args p r ⟨b,h,rfl⟩;exact zr1
 rintro args p r ⟨b,rfl,rfl⟩
 refine zW C false [(85,R85)] ⟨c85,zT⟩ rfl xf75 zc75_ok fun call zh hF=>?_
 have t_85:=@t85 _ zh.1
 clear zh
 have hm:=b.hMem
 (have zx:=zT;refine zq75 ?_;try exact zT)
 repeat'(apply zK.s<;>intro hc<;>(try simp only[zhd]at hc)<;>(try have hw:=K0a hc)<;>(refine zq75 ?_;try exact zT))
 all_goals(try clear zx)
 ·refine K0d hF zle (Q0c ?_ (Z0c zno75))
  simp only[Body.right,hc,if_true]
  rfl
 refine⟨5,?_⟩
 simp only[Wn_succ]
 (have zx:=zT;refine zq75 ?_;try exact zT)
 repeat'(apply zK.s<;>intro hc<;>(try simp only[zhd]at hc)<;>(try have hw:=K0a hc)<;>(refine zq75 ?_;try exact zT))
 all_goals(try clear zx)
 all_goals(refine K0d hF zle (Q0c ?_ (Z0c zno75)))
 all_goals simp[Body.right,all_nth4 hm, *]
def R152: Rel:=fun args p r=>∃(c:Int),args=[I c]/\r=.ret (.tup [Bo (namesA c),Bo (namesB c)]) p
theorem t152{T:XCall}(h:Has T 152 R152)(c:Int){p:Hp}:T 152 [I c] p=.ret (.tup [Bo (namesA c),Bo (namesB c)]) p:=h _ _ _ ⟨c,rfl,rfl⟩
theorem zq152{A B:Prop}(k:B)(h:A=B:=by have zy:=zA @zw152<|zA @rs152<|zA @tt3<|ti3.eq_1;exact zQ): A:=h▸k
theorem zno152{P:Prop}(h:P:=by intro jj;simp[CV.has,CV.hasL,fault,K0b.nohas]): P:=h
theorem c152: Con C 152 R152:=by
 refine V0e C ?_ ?_ ?_
 ·rintro args p r r' ⟨c,h,e⟩ ⟨c',h',e'⟩
  subst e;subst e';simp_all
 ·rintro args p r ⟨c,h,rfl⟩;exact zr1
 rintro args p r ⟨c,rfl,rfl⟩
 refine zW C false [] zT rfl xf152 zc152_ok fun call zh hF=>?_
 clear zh
 (have zx:=zT;refine zq152 ?_;try exact zT)
 repeat'(apply zK.s<;>intro hc<;>(try simp only[zhd]at hc)<;>(try have hw:=K0a hc)<;>(refine zq152 ?_;try exact zT))
 all_goals(try clear zx)
 all_goals(refine K0d hF zle (Q0c ?_ (Z0c zno152)))
 all_goals simp[namesA,namesB, *]
def R153: Rel:=fun args p r=>∃(n:Int),args=[I n]/\r=.ret (Bo (within n 0 3)) p
theorem t153{T:XCall}(h:Has T 153 R153)(n:Int){p:Hp}:T 153 [I n] p=.ret (Bo (within n 0 3)) p:=h _ _ _ ⟨n,rfl,rfl⟩
theorem zq153{A B:Prop}(k:B)(h:A=B:=by have zy:=zA @zw153<|zA @rs153<|@t_85;exact zQ): A:=h▸k
theorem zno153{P:Prop}(h:P:=by intro jj;simp[CV.has,CV.hasL,fault,K0b.nohas]): P:=h
theorem c153: Con C 153 R153:=by
 refine V0e C ?_ ?_ ?_
 ·rintro args p r r' ⟨n,h,e⟩ ⟨n',h',e'⟩
  subst e;subst e';simp_all
 ·rintro args p r ⟨n,h,rfl⟩;exact zr1
 rintro args p r ⟨n,rfl,rfl⟩
 refine zW C false [(85,R85)] ⟨c85,zT⟩ rfl xf153 zc153_ok fun call zh hF=>?_
 have t_85:=@t85 _ zh.1
 clear zh
 (have zx:=zT;refine zq153 ?_;try exact zT)
 repeat'(apply zK.s<;>intro hc<;>(try simp only[zhd]at hc)<;>(try have hw:=K0a hc)<;>(refine zq153 ?_;try exact zT))
 all_goals(try clear zx)
 exact K0d hF zle (Q0c rfl (Z0c zno153))
def R154: Rel:=fun args p r=>∃(d:Int),args=[U d]/\r=.ret (.tup [U (diceNext d),I (diceNum (diceNext d))]) p
theorem t154{T:XCall}(h:Has T 154 R154)(d:Int){p:Hp}:T 154 [U d] p=.ret (.tup [U (diceNext d),I (diceNum (diceNext d))]) p:=h _ _ _ ⟨d,rfl,rfl⟩
theorem zq154{A B:Prop}(k:B)(h:A=B:=by have zy:=zA @zw154<|zA @rs154<|zA @tt3<|zA @tt25<|zA @tt178<|zA ti3.eq_1<|zA ti25.eq_1<|ti178.eq_1;exact zQ): A:=h▸k
theorem zno154{P:Prop}(h:P:=by intro jj;simp[CV.has,CV.hasL,fault,K0b.nohas]): P:=h
theorem c154: Con C 154 R154:=by
 refine V0e C ?_ ?_ ?_
 ·rintro args p r r' ⟨d,h,e⟩ ⟨d',h',e'⟩
  subst e;subst e';simp_all
 ·rintro args p r ⟨d,h,rfl⟩;exact zr1
 rintro args p r ⟨d,rfl,rfl⟩
 refine zW C false [] zT rfl xf154 zc154_ok fun call zh hF=>?_
 clear zh
 (have zx:=zT;refine zq154 ?_;try exact zT)
 repeat'(apply zK.s<;>intro hc<;>(try simp only[zhd]at hc)<;>(try have hw:=K0a hc)<;>(refine zq154 ?_;try exact zT))
 all_goals(try clear zx)
 exact K0d hF zle (Q0c rfl (Z0c zno154))
def R78: Rel:=fun args p r=>∃(d n:Int),args=[U d,I n]/\r=.ret (.tup [U (diceRoll d n).1,I (diceRoll d n).2]) p
theorem t78{T:XCall}(h:Has T 78 R78)(d n:Int){p:Hp}:T 78 [U d,I n] p=.ret (.tup [U (diceRoll d n).1,I (diceRoll d n).2]) p:=h _ _ _ ⟨d,n,rfl,rfl⟩
theorem zq78{A B:Prop}(k:B)(h:A=B:=by have zy:=zA @zw78<|zA @rs78<|zA @tt3<|zA ti3.eq_1<|@t_154;exact zQ): A:=h▸k
theorem zno78{P:Prop}(h:P:=by intro jj;simp[CV.has,CV.hasL,fault,K0b.nohas]): P:=h
theorem c78: Con C 78 R78:=by
 refine V0e C ?_ ?_ ?_
 ·rintro args p r r' ⟨d,n,h,e⟩ ⟨d',n',h',e'⟩
  subst e;subst e';simp_all
 ·rintro args p r ⟨d,n,h,rfl⟩;exact zr1
 rintro args p r ⟨d,n,rfl,rfl⟩
 refine zW C false [(154,R154)] ⟨c154,zT⟩ rfl xf78 zc78_ok fun call zh hF=>?_
 have t_154:=@t154 _ zh.1
 clear zh
 (have zx:=zT;refine zq78 ?_;try exact zT)
 repeat'(apply zK.s<;>intro hc<;>(try simp only[zhd]at hc)<;>(try have hw:=K0a hc)<;>(refine zq78 ?_;try exact zT))
 all_goals(try clear zx)
 all_goals refine K0d hF zle (Q0c ?_ (Z0c zno78))
 all_goals simp[diceRoll,hc]
def R79: Rel:=fun args p r=>∃(o:Z0b) (e:Y0c),args=[o.cv,e.cv]/\(0<=o.B/\o.B<4)/\r=.ret (I (nth e.Body.Mem o.B.toNat)) p
theorem t79{T:XCall}(h:Has T 79 R79)(o:Z0b)(e:Y0c){p:Hp}(h1:0<=o.B/\o.B<4): T 79 [o.cv,e.cv] p=.ret (I (nth e.Body.Mem o.B.toNat)) p:=h _ _ _ ⟨o,e,rfl,h1,rfl⟩
theorem zq79{A B:Prop}(k:B)(h:A=B:=by have zy:=zA @zw79<|zA @rs79<|zA @tt3<|zA @tt29<|zA @tt32<|zA @tt34<|zA @tt51<|zA ti3.eq_1<|zA ti29.eq_1<|zA ti32.eq_1<|zA ti34.eq_1<|zA ti51.eq_1<|zA @K0q<|zA @Y0r<|zA @Q0f<|zA @zsl32<|@h1;exact zQ): A:=h▸k
theorem zno79{P:Prop}(h:P:=by intro jj;simp[CV.has,CV.hasL,fault,K0b.nohas,Z0b.nohas,Q0a.nohas]): P:=h
theorem c79: Con C 79 R79:=by
 refine V0e C ?_ ?_ ?_
 ·rintro args p r r' ⟨o,e,h,h1,e⟩ ⟨o',e',h',h1',e'⟩
  subst e;subst e';simp_all[Z0b.inj_iff,Y0c.inj_iff,Q0a.inj_iff]
 ·rintro args p r ⟨o,e,h,h1,rfl⟩;exact zr1
 rintro args p r ⟨o,e,rfl,h1,rfl⟩
 refine zW C false [] zT rfl xf79 zc79_ok fun call zh hF=>?_
 clear zh
 have hm:=e.Body.hMem
 (have zx:=zT;refine zq79 ?_;try exact zT)
 repeat'(apply zK.s<;>intro hc<;>(try simp only[zhd]at hc)<;>(try have hw:=K0a hc)<;>(refine zq79 ?_;try exact zT))
 all_goals(try clear zx)
 exact K0d hF zle (Q0c rfl (Z0c zno79))
theorem qbuild_ar(C:Ctx){t n w:Nat}{e:TypeId}{shs:List Shape}{b:Nat}{z:List CV}{parts:List (Nat×CV)}{v:CV}(ht:C.tt t=some ⟨.ar n e w,.n shs,b,.agg z⟩)(hp:partsOk shs parts=true)(hv:.agg (setAll z parts)=v): qbuild C t parts=some v:=by
 simp only[qbuild,ht,hp,if_true,hv]
theorem bld64(a0 a1 a2 a3 a4 a5 a6 a7:Int): qbuild C 64 [(0,I a0),(1,I a1),(2,I a2),(3,I a3),(4,I a4),(5,I a5),(6,I a6),(7,I a7)]=some (.agg ([a0,a1,a2,a3,a4,a5,a6,a7].map I)):=qbuild_ar C tt64 (by simp[partsOk,CV.shape,sh3,List.replicate]) rfl
theorem idx64(a0 a1 a2 a3 a4 a5 a6 a7 n:Int)(hn:0<=n/\n<8): qindex C 64 (.agg [I a0,I a1,I a2,I a3,I a4,I a5,I a6,I a7]) (I n)=some (I (nth [a0,a1,a2,a3,a4,a5,a6,a7] n.toNat)):=zsl64 [a0,a1,a2,a3,a4,a5,a6,a7] n rfl hn
def R77: Rel:=fun args p r=>∃(e:Y0c) (n:Int),args=[e.cv,I n]/\(0<=n/\n<8)/\r=.ret (I (nth [e.Body.X,e.Body.Y,e.Body.VX,e.Body.VY,e.Body.Age,e.In.Buttons,e.In.X,e.In.Y] n.toNat)) p
theorem t77{T:XCall}(h:Has T 77 R77)(e:Y0c)(n:Int){p:Hp}(h1:0<=n/\n<8): T 77 [e.cv,I n] p=.ret (I (nth [e.Body.X,e.Body.Y,e.Body.VX,e.Body.VY,e.Body.Age,e.In.Buttons,e.In.X,e.In.Y] n.toNat)) p:=h _ _ _ ⟨e,n,rfl,h1,rfl⟩
theorem zq77{A B:Prop}(k:B)(h:A=B:=by have zy:=zA @zw77<|zA @rs77<|zA @tt3<|zA @tt34<|zA @tt36<|zA @tt51<|zA @tt64<|zA ti3.eq_1<|zA ti34.eq_1<|zA ti36.eq_1<|zA ti51.eq_1<|zA ti64.eq_1<|zA @Z0o<|zA @Y0r<|zA @Q0f<|zA @zsl64<|zA @bld64<|zA @idx64<|@h1;exact zQ): A:=h▸k
theorem zno77{P:Prop}(h:P:=by intro jj;simp[CV.has,CV.hasL,fault,K0b.nohas,Z0a.nohas,Q0a.nohas]): P:=h
theorem c77: Con C 77 R77:=by
 refine V0e C ?_ ?_ ?_
 ·rintro args p r r' ⟨e,n,h,h1,e⟩ ⟨e',n',h',h1',e'⟩
  subst e;subst e';simp_all[Z0a.inj_iff,Y0c.inj_iff,Q0a.inj_iff]
 ·rintro args p r ⟨e,n,h,h1,rfl⟩;exact zr1
 rintro args p r ⟨e,n,rfl,h1,rfl⟩
 refine zW C false [] zT rfl xf77 zc77_ok fun call zh hF=>?_
 clear zh
 (have zx:=zT;refine zq77 ?_;try exact zT)
 repeat'(apply zK.s<;>intro hc<;>(try simp only[zhd]at hc)<;>(try have hw:=K0a hc)<;>(refine zq77 ?_;try exact zT))
 all_goals(try clear zx)
 exact K0d hF zle (Q0c rfl (Z0c zno77))
def R81: Rel:=fun args p r=>∃(b:Q0a) (x y:Int),args=[b.cv,I x,I y]/\r=.ret (bodyShoot b x y).cv p
theorem t81{T:XCall}(h:Has T 81 R81)(b:Q0a)(x y:Int){p:Hp}:T 81 [b.cv,I x,I y] p=.ret (bodyShoot b x y).cv p:=h _ _ _ ⟨b,x,y,rfl,rfl⟩
theorem zq81{A B:Prop}(k:B)(h:A=B:=by have zy:=zA @zw81<|zA @rs81<|zA @tt3<|zA @tt34<|zA ti3.eq_1<|zA ti34.eq_1<|zA @t_75<|zA @t_80<|@Q0f;exact zQ): A:=h▸k
theorem zno81{P:Prop}(h:P:=by intro jj;simp[CV.has,CV.hasL,fault,K0b.nohas,Q0a.nohas]): P:=h
theorem c81: Con C 81 R81:=by
 refine V0e C ?_ ?_ ?_
 ·rintro args p r r' ⟨b,x,y,h,e⟩ ⟨b',x',y',h',e'⟩
  subst e;subst e';simp_all[Q0a.inj_iff]
 ·rintro args p r ⟨b,x,y,h,rfl⟩;exact zr1
 rintro args p r ⟨b,x,y,rfl,rfl⟩
 refine zW C false [(75,R75),(80,R80)] ⟨c75,c80,zT⟩ rfl xf81 zc81_ok fun call zh hF=>?_
 have t_75:=@t75 _ zh.1
 have t_80:=@t80 _ zh.2.1
 clear zh
 (have zx:=zT;refine zq81 ?_;try exact zT)
 repeat'(apply zK.s<;>intro hc<;>(try simp only[zhd]at hc)<;>(try have hw:=K0a hc)<;>(refine zq81 ?_;try exact zT))
 all_goals(try clear zx)
 all_goals refine K0d hF zle (Q0c ?_ (Z0c zno81))
 all_goals simp[bodyShoot,Q0a.zero, *]
def R76: Rel:=fun args p r=>∃(o:Z0b) (e:Y0c) (n:Int),args=[o.cv,e.cv,I n]/\r=.ret (I (rfault o e n)) p
theorem t76{T:XCall}(h:Has T 76 R76)(o:Z0b)(e:Y0c)(n:Int){p:Hp}:T 76 [o.cv,e.cv,I n] p=.ret (I (rfault o e n)) p:=h _ _ _ ⟨o,e,n,rfl,rfl⟩
theorem zq76{A B:Prop}(k:B)(h:A=B:=by((try simp -dsimp (disch:=first|exact zdis|fail) only[zcore,zall,zopm,zop,zcallOp,qop,qbuiltin,ofOpt,List.map,reduceCtorEq,if_true,if_false,↓reduceIte,zbin,eqRes,qassert,qnum,qshift,qun,kindOf,allocV,List.nil_append,List.append_nil,List.cons_append,List.length_cons,List.length_nil,Nat.reduceAdd,Nat.reduceEqDiff,Nat.reduceLT,Nat.reduceSub,Nat.reduceMul,Int.reduceToNat,Int.reduceLE,Int.reduceLT,Int.reduceEq,Int.reduceNeg,Int.reduceAdd,Int.reduceSub,beq_self_eq_true,cond_true,cond_false,isConstOpd,xpanic,xconv,isBytes,qconv,List.length_map,List.map_nil,List.map_cons,concrete,Option.some.injEq,exists_eq',Option.map_some,Option.map_none,List.getElem?_cons_zero,List.getElem?_cons_succ,zw76,rs76,tt3,tt29,tt32,tt34,tt37,tt51,ti3,ti29,ti32,ti34,ti37,ti51,t_152,t_153,t_85,t_79,K0q,Y0r,Q0f,zsl32,zsl37,namesA,namesB,Bool.or_false,Bool.false_or,Bool.or_true,Bool.true_or,zx,hc]);rfl)): A:=h▸k
theorem zno76{P:Prop}(h:P:=by intro jj;simp[CV.has,CV.hasL,fault,K0b.nohas,Z0b.nohas,Q0a.nohas]): P:=h
theorem c76: Con C 76 R76:=by
 refine V0e C ?_ ?_ ?_
 ·rintro args p r r' ⟨o,e,n,h,e⟩ ⟨o',e',n',h',e'⟩
  subst e;subst e';simp_all[Z0b.inj_iff,Y0c.inj_iff,Q0a.inj_iff,Y17]
 ·rintro args p r ⟨o,e,n,h,rfl⟩;exact zr1
 rintro args p r ⟨o,e,n,rfl,rfl⟩
 refine zW C false [(152,R152),(153,R153),(85,R85),(79,R79)] ⟨c152,c153,c85,c79,zT⟩ rfl xf76 zc76_ok fun call zh hF=>?_
 have t_152:=@t152 _ zh.1
 have t_153:=@t153 _ zh.2.1
 have t_85:=@t85 _ zh.2.2.1
 have t_79:=@t79 _ zh.2.2.2.1
 clear zh
 have hm:=e.Body.hMem
 cases hw:within o.Code 1 13 with
 |false=>
  (have zx:=hw;refine zq76 ?_;try exact zT)
  repeat'(apply zK.s<;>intro hc<;>(try simp only[zhd]at hc)<;>(try have hw:=K0a hc)<;>(refine zq76 ?_;try exact zT))
  all_goals(try clear zx)
  all_goals refine K0d hF zle (Q0c ?_ (Z0c zno76))
  all_goals simp[rfault,hw]
 |true=>
  rcases K1c hw with hC|hC|hC|hC|hC|hC|hC|hC|hC|hC|hC|hC|hC
  all_goals have hw2:=hw
  all_goals rw[hC]at hw2
  all_goals cases hA:within o.A 0 3<;>cases hB:within o.B 0 3
  all_goals(try have hA':=K0a hA)
  all_goals(try have hB':=K0a hB)
  all_goals(have zx:=zA hC (zA hw2 (zA hA hB));refine zq76 ?_;try exact zT)
  repeat'(apply zK.s<;>intro hc<;>(try simp only[zhd]at hc)<;>(try have hw:=K0a hc)<;>(refine zq76 ?_;try exact zT))
  all_goals(try clear zx)
  all_goals refine K0d hF zle (Q0c ?_ (Z0c zno76))
  all_goals simp[rfault,namesA,namesB, *]
end Go.Proofs.Ytpchcfkebljopaa
end
section
namespace Go.Proofs.Ytpchcfkebljopaa
open Go.Cl Go Go.RowKit
theorem x32_alloc(p:Hp): xalloc C p 32=.ret (.ptr p.n []) (p.new (.var sh32 (.agg ((List.replicate 4 (0:Int)).map I)))):=by simp only[Cl.xalloc,tt32,ti32,z32,z3,List.map_replicate]
theorem s32_sub: subEq sh32 [] sh32=true:=by simp[subEq,Shape.sub]
theorem s32_subk(k:Nat)(q:List Nat)(z:Shape): subEq sh32 (k::q) z=(decide (k<4)&&subEq sh3 q z):=Z0y 4 k q sh3 z
theorem s32_ok(l:List Int)(h:l.length=4): shOk (.agg (l.map I)) sh32=true:=Z0m (sh:=sh32) (by simp only[CV.shape,Z0h (f:=I) (s:=Shape.s) (fun _=>rfl),h,sh32]) rfl
theorem s32_at(l:List Int)(h:l.length=4)(k:Nat)(q:List Nat)(hk:k<4): (CV.agg (l.map I)).at (k::q)=(I (nth l k)).at q:=Z1w _ (by rw[h];exact hk) q
end Go.Proofs.Ytpchcfkebljopaa
end
section
namespace Go.Proofs.Ytpchcfkebljopaa
open Go.Cl Go Go.RowKit
set_option maxRecDepth 100000
set_option linter.constructorNameAsVariable false
def J28(l:Lst Z0b)(e:Y0c)(p:Hp)(k:Nat)(ρ:Env)(q:Hp): Prop:=
 ∃(er:Y0c) (a:Int),ρ 0=l.cv Z0b.cv/\ρ 3=.ptr p.n []/\ρ 4=.ptr (p.n+1) []/\ρ 8=.ptr (p.n+2) []/\ρ 9=I a/\ρ 10=I (64-k)/\k<=64/\q.t.get p.n=some (.var sh51 er.cv)/\q.t.get (p.n+1)=some (.var sh51 Y0c.zero.cv)/\q.t.get (p.n+2)=some (.var sh51 e.cv)/\Mach.run k ⟨partE er,l,a⟩=Mach.run 64 ⟨ruleOf e,l,0⟩/\0<=a/\a<=l.l.length/\er.Shots.l.length<=64-k/\(er.Shots.tl=.nil\/∃j,er.Shots.tl=.own j)/\p.n+2<q.n/\HpLe p q
theorem own_nil{α:Type}{s:Lst α}(h:s.tl=.nil): s.l=[]:=s.ok h
def R28: Rel:=fun args p r=>∃(l:Lst Z0b) (e:Y0c),args=[l.cv Z0b.cv,e.cv]/\(l.l.length<=100000)/\(e.Shots.tl=.nil)/\r=.ret (.tup [(envR (ruleRun l (ruleOf e)).1).cv,I (ruleRun l (ruleOf e)).2.1.Code,I (ruleRun l (ruleOf e)).2.1.At,Bo (ruleRun l (ruleOf e)).2.2]) p
theorem t28{T:XCall}(h:Has T 28 R28)(l:Lst Z0b)(e:Y0c){p:Hp}(hl:l.l.length<=100000)(h1:e.Shots.tl=.nil): T 28 [l.cv Z0b.cv,e.cv] p=.ret (.tup [(envR (ruleRun l (ruleOf e)).1).cv,I (ruleRun l (ruleOf e)).2.1.Code,I (ruleRun l (ruleOf e)).2.1.At,Bo (ruleRun l (ruleOf e)).2.2]) p:=h _ _ _ ⟨l,e,rfl,hl,h1,rfl⟩
theorem zq28{A B:Prop}(k:B)(h:A=B:=by have zy:=zA @zw28<|zA @rs28<|zA @tt3<|zA @tt23<|zA @tt25<|zA @tt29<|zA @tt32<|zA @tt34<|zA @tt37<|zA @tt51<|zA ti3.eq_1<|zA ti23.eq_1<|zA ti25.eq_1<|zA ti29.eq_1<|zA ti32.eq_1<|zA ti34.eq_1<|zA ti37.eq_1<|zA ti51.eq_1<|zA @t_75<|zA @t_76<|zA @t_77<|zA @t_78<|zA @t_79<|zA @t_80<|zA @t_81<|zA @Y0r<|zA @Q0f<|zA @Z0o<|zA @K0q<|zA @zsl23<|zA @zsl32<|zA @zsl37<|zA @x32_alloc<|zA @s32_sub<|zA @s32_subk<|zA @s32_ok<|zA @s32_at<|zA @hl<|@h1;exact zQ): A:=h▸k
theorem zge28{P:Prop}(h:P:=by simp (disch:=first|exact zdl|fail) only[zheap];first|done|rfl): P:=h
theorem c28: Con C 28 R28:=by
 refine V0e C ?_ ?_ ?_
 ·rintro args p r r' ⟨l,e,h,hl,h1,e⟩ ⟨l',e',h',hl',h1',e'⟩
  subst e;subst e';simp_all[Y0c.inj_iff,Q0a.inj_iff,Z0a.inj_iff,Z0b.inj_iff,V0r,Y17]
 ·rintro args p r ⟨l,e,h,hl,h1,rfl⟩;exact zr1
 rintro args p r ⟨l,e,rfl,hl,h1,rfl⟩
 refine zW C false [(75,R75),(76,R76),(77,R77),(78,R78),(79,R79),(80,R80),(81,R81)] ⟨c75,c76,c77,c78,c79,c80,c81,zT⟩ rfl xf28 zc28_ok fun call zh hF=>?_
 have t_75:=@t75 _ zh.1
 have t_76:=@t76 _ zh.2.1
 have t_77:=@t77 _ zh.2.2.1
 have t_78:=@t78 _ zh.2.2.2.1
 have t_79:=@t79 _ zh.2.2.2.2.1
 have t_80:=@t80 _ zh.2.2.2.2.2.1
 have t_81:=@t81 _ zh.2.2.2.2.2.2.1
 clear zh
 have hcp:copiedE (ruleOf e)=ruleOf e:=copiedE_nil h1
 have hno:∀j,¬e.cv.has j:=fun j hj=>by rw[Y0c.has,h1]at hj;cases hj
 have hnt:∀(a b:Int) (c:Bool) j,¬(CV.tup [e.cv,I a,I b,Bo c]).has j:=fun a b c j hj=>by simp[CV.has,CV.hasL,hno]at hj
 by_cases hb:Body.right e.Body=true
 ·by_cases hk:e.Body.Kind=0
  ·have hR:ruleRun l (ruleOf e)=(ruleOf e,⟨0,0⟩,false):=by unfold ruleRun;rw[if_pos (.inr hk),hcp]
   (have zx:=zA hb hk;refine zq28 ?_;try exact zT)
   repeat'((first|refine Q0k ?_ ?_|refine K0k ?_ ?_|refine Y0j _ _ _ _ ?_ ?_|refine Z0j ?_ ?_|refine X0j _ _ _ _ ?_ ?_)<;>intro hc<;>(try simp only[zhd]at hc)<;>(try have hw:=K0a hc)<;>(refine zq28 ?_;try exact zT))
   all_goals(try clear zx)
   rw[hR]
   exact K0d hF zle (Q0c rfl (Z0c (hnt _ _ _)))
  ·have hR:ruleRun l (ruleOf e)=match Mach.run 64 ⟨ruleOf e,l,0⟩ with|.ok m=>(m.e_,⟨0,0⟩,true)|.error c=>(ruleOf e,⟨c.1,c.2⟩,false):=by
    have hnn:¬(Body.right (ruleOf e).Body=false\/(ruleOf e).Body.Kind=0):=by
     rw[show(ruleOf e).Body=e.Body from rfl,hb];simp[hk]
    unfold ruleRun;rw[if_neg hnn,hcp];cases Mach.run 64 ⟨ruleOf e,l,0⟩<;>rfl
   (have zx:=zA hb hk;refine zq28 ?_;try exact zT)
   repeat'((first|refine Q0k ?_ ?_|refine K0k ?_ ?_|refine Y0j _ _ _ _ ?_ ?_|refine Z0j ?_ ?_|refine X0j _ _ _ _ ?_ ?_)<;>intro hc<;>(try simp only[zhd]at hc)<;>(try have hw:=K0a hc)<;>(refine zq28 ?_;try exact zT))
   all_goals(try clear zx)
   show W C false noExt call (ZC.block 0 (ZC.loop Q1q)) _ _ (seqQ _ _)
   show W C false noExt call (ZC.loop Q1q) _ _ _
   refine Y0g C false noExt call Q1q _ _ _ (J28 l e p) 64 ⟨e,0,(by simp[put_at,K0c,K0e]),(by simp[put_at,K0c,K0e]),(by simp[put_at,K0c,K0e]),(by simp[put_at,K0c,K0e]),(by simp[put_at,K0c,K0e]),(by simp[put_at,K0c,K0e]),by omega,zge28,zge28,zge28,by rw[partE_nil h1],by omega,by omega,by rw[own_nil h1];simp,.inl h1,(zb9),zle⟩ ?_
   rintro k ρ q ⟨er,a,e0,e3,e4,e8,e9,e10,hk6,g1,g2,g3,hrun,ha,ha',hsl,htl,hn,hle⟩
   by_cases hlt:a<l.l.length
   ·cases k with
    |zero=>
     have hs:¬(64-((0:Nat):Int)<64):=by omega
     have hs2:64<=64-((0:Nat):Int):=by omega
     (have zx:=zA e0 (zA e3 (zA e4 (zA e8 (zA e9 (zA e10 (zA g1 (zA g2 (zA g3 (zA hlt (zA hs hs2))))))))));refine zq28 ?_;try exact zT)
     repeat'((first|refine Q0k ?_ ?_|refine K0k ?_ ?_|refine Y0j _ _ _ _ ?_ ?_|refine Z0j ?_ ?_|refine X0j _ _ _ _ ?_ ?_)<;>intro hc<;>(try simp only[zhd]at hc)<;>(try have hw:=K0a hc)<;>(refine zq28 ?_;try exact zT))
     all_goals(try clear zx)
     have hr:Mach.run 0 ⟨partE er,l,a⟩=.error (5,a):=by simp[Mach.run,hlt]
     rw[hR,<- hrun,hr]
     exact K0d hF zlq (Q0c rfl (Z0c (hnt _ _ _)))
    |succ k=>
     have hs:¬64<=64-((k+1:Nat):Int):=by omega
     have hf:=rfault_eq (nth l.l a.toNat) er l a
     have hmem:=er.Body.hMem
     cases hdo:Mach.doOp ⟨partE er,l,a⟩ (nth l.l a.toNat) with
     |error c=>
      have hc0:=doOp_code hdo
      rw[hdo]at hf
      simp only at hf
      (have zx:=zA e0 (zA e3 (zA e4 (zA e8 (zA e9 (zA e10 (zA g1 (zA g2 (zA g3 (zA hlt (zA hs (zA hf hc0)))))))))));refine zq28 ?_;try exact zT)
      repeat'((first|refine Q0k ?_ ?_|refine K0k ?_ ?_|refine Y0j _ _ _ _ ?_ ?_|refine Z0j ?_ ?_|refine X0j _ _ _ _ ?_ ?_)<;>intro hc<;>(try simp only[zhd]at hc)<;>(try have hw:=K0a hc)<;>(refine zq28 ?_;try exact zT))
      all_goals(try clear zx)
      have hr:Mach.run (k+1) ⟨partE er,l,a⟩=.error (c,a):=by simp[Mach.run,hlt,hdo]
      rw[hR,<- hrun,hr]
      exact K0d hF zlq (Q0c rfl (Z0c (hnt _ _ _)))
     |ok r=>
      obtain⟨m2,n⟩:=r
      rw[hdo]at hf
      simp only at hf
      have hst:Mach.run k {m2 with at_:=n}=Mach.run 64 ⟨ruleOf e,l,0⟩:=by rw[<- hrun,Mach.run];simp[hlt,hdo]
      have hkp:=Mach.doOp_keeps hdo ha hlt
      have hn0:=hkp.2.2.2.2.1
      have hn1:=hkp.2.2.2.2.2
      simp only at hn1
      have hnm:=doOp_n hdo
      have hA:=namedOk_A hnm.1
      have hB:=namedOk_B hnm.1
      have hco:=K1c hnm.2
      generalize ho:nth l.l a.toNat=o at hf hdo hnm hA hB hco
      rcases hco with hC|hC|hC|hC|hC|hC|hC|hC|hC|hC|hC|hC|hC
      ·have hd:=doOp_1 hdo hC
       obtain⟨rfl,rfl⟩:=hd
       (have zx:=zA e0 (zA e3 (zA e4 (zA e8 (zA e9 (zA e10 (zA g1 (zA g2 (zA g3 (zA hlt (zA hs (zA ho (zA hf hC))))))))))));refine zq28 ?_;try exact zT)
       repeat'((first|refine Q0k ?_ ?_|refine K0k ?_ ?_|refine Y0j _ _ _ _ ?_ ?_|refine Z0j ?_ ?_|refine X0j _ _ _ _ ?_ ?_)<;>intro hc<;>(try simp only[zhd]at hc)<;>(try have hw:=K0a hc)<;>(refine zq28 ?_;try exact zT))
       all_goals(try clear zx)
       exact⟨k,Nat.lt_succ_self k,{er with Body:=er.Body.put_7k o.A.toNat (brought (o.B) (-1000000) 1000000)},a+1,zev,zev,zev,zev,zev,by simp[put_at,K0c];omega,by omega,zg8,zg8,zg8,hst,by omega,by omega,by(try simp only);omega,htl,(zb9),zlq⟩
      ·have hd:=doOp_2 hdo hC
       obtain⟨rfl,rfl⟩:=hd
       (have zx:=zA e0 (zA e3 (zA e4 (zA e8 (zA e9 (zA e10 (zA g1 (zA g2 (zA g3 (zA hlt (zA hs (zA ho (zA hf hC))))))))))));refine zq28 ?_;try exact zT)
       repeat'((first|refine Q0k ?_ ?_|refine K0k ?_ ?_|refine Y0j _ _ _ _ ?_ ?_|refine Z0j ?_ ?_|refine X0j _ _ _ _ ?_ ?_)<;>intro hc<;>(try simp only[zhd]at hc)<;>(try have hw:=K0a hc)<;>(refine zq28 ?_;try exact zT))
       all_goals(try clear zx)
       exact⟨k,Nat.lt_succ_self k,{er with Body:=er.Body.put_7k o.A.toNat (brought (nth er.Body.Mem o.B.toNat) (-1000000) 1000000)},a+1,zev,zev,zev,zev,zev,by simp[put_at,K0c];omega,by omega,zg8,zg8,zg8,hst,by omega,by omega,by(try simp only);omega,htl,(zb9),zlq⟩
      ·have hd:=doOp_3 hdo hC
       obtain⟨rfl,rfl⟩:=hd
       (have zx:=zA e0 (zA e3 (zA e4 (zA e8 (zA e9 (zA e10 (zA g1 (zA g2 (zA g3 (zA hlt (zA hs (zA ho (zA hf hC))))))))))));refine zq28 ?_;try exact zT)
       repeat'((first|refine Q0k ?_ ?_|refine K0k ?_ ?_|refine Y0j _ _ _ _ ?_ ?_|refine Z0j ?_ ?_|refine X0j _ _ _ _ ?_ ?_)<;>intro hc<;>(try simp only[zhd]at hc)<;>(try have hw:=K0a hc)<;>(refine zq28 ?_;try exact zT))
       all_goals(try clear zx)
       exact⟨k,Nat.lt_succ_self k,{er with Body:=er.Body.put_7k o.A.toNat (brought (w64 (nth er.Body.Mem o.A.toNat+nth er.Body.Mem o.B.toNat)) (-1000000) 1000000)},a+1,zev,zev,zev,zev,zev,by simp[put_at,K0c];omega,by omega,zg8,zg8,zg8,hst,by omega,by omega,by(try simp only);omega,htl,(zb9),zlq⟩
      ·have hd:=doOp_4 hdo hC
       obtain⟨rfl,rfl⟩:=hd
       (have zx:=zA e0 (zA e3 (zA e4 (zA e8 (zA e9 (zA e10 (zA g1 (zA g2 (zA g3 (zA hlt (zA hs (zA ho (zA hf hC))))))))))));refine zq28 ?_;try exact zT)
       repeat'((first|refine Q0k ?_ ?_|refine K0k ?_ ?_|refine Y0j _ _ _ _ ?_ ?_|refine Z0j ?_ ?_|refine X0j _ _ _ _ ?_ ?_)<;>intro hc<;>(try simp only[zhd]at hc)<;>(try have hw:=K0a hc)<;>(refine zq28 ?_;try exact zT))
       all_goals(try clear zx)
       exact⟨k,Nat.lt_succ_self k,{er with Body:=er.Body.put_7k o.A.toNat (brought (w64 (nth er.Body.Mem o.A.toNat-nth er.Body.Mem o.B.toNat)) (-1000000) 1000000)},a+1,zev,zev,zev,zev,zev,by simp[put_at,K0c];omega,by omega,zg8,zg8,zg8,hst,by omega,by omega,by(try simp only);omega,htl,(zb9),zlq⟩
      ·have hd:=doOp_5 hdo hC
       obtain⟨rfl,rfl⟩:=hd
       (have zx:=zA e0 (zA e3 (zA e4 (zA e8 (zA e9 (zA e10 (zA g1 (zA g2 (zA g3 (zA hlt (zA hs (zA ho (zA hf hC))))))))))));refine zq28 ?_;try exact zT)
       repeat'((first|refine Q0k ?_ ?_|refine K0k ?_ ?_|refine Y0j _ _ _ _ ?_ ?_|refine Z0j ?_ ?_|refine X0j _ _ _ _ ?_ ?_)<;>intro hc<;>(try simp only[zhd]at hc)<;>(try have hw:=K0a hc)<;>(refine zq28 ?_;try exact zT))
       all_goals(try clear zx)
       exact⟨k,Nat.lt_succ_self k,{er with Body:=er.Body.put_7k o.A.toNat (brought (w64 (nth er.Body.Mem o.A.toNat*nth er.Body.Mem o.B.toNat)) (-1000000) 1000000)},a+1,zev,zev,zev,zev,zev,by simp[put_at,K0c];omega,by omega,zg8,zg8,zg8,hst,by omega,by omega,by(try simp only);omega,htl,(zb9),zlq⟩
      ·have hd:=doOp_6 hdo hC
       obtain⟨hz,rfl,rfl⟩:=hd
       have hz:¬nth er.Body.Mem o.B.toNat=0:=hz
       (have zx:=zA e0 (zA e3 (zA e4 (zA e8 (zA e9 (zA e10 (zA g1 (zA g2 (zA g3 (zA hlt (zA hs (zA ho (zA hf (zA hC hz)))))))))))));refine zq28 ?_;try exact zT)
       repeat'((first|refine Q0k ?_ ?_|refine K0k ?_ ?_|refine Y0j _ _ _ _ ?_ ?_|refine Z0j ?_ ?_|refine X0j _ _ _ _ ?_ ?_)<;>intro hc<;>(try simp only[zhd]at hc)<;>(try have hw:=K0a hc)<;>(refine zq28 ?_;try exact zT))
       all_goals(try clear zx)
       exact⟨k,Nat.lt_succ_self k,{er with Body:=er.Body.put_7k o.A.toNat (brought (w64 ((nth er.Body.Mem o.A.toNat).tdiv (nth er.Body.Mem o.B.toNat))) (-1000000) 1000000)},a+1,zev,zev,zev,zev,zev,by simp[put_at,K0c];omega,by omega,zg8,zg8,zg8,hst,by omega,by omega,by(try simp only);omega,htl,(zb9),zlq⟩
      ·have hd:=doOp_7 hdo hC
       obtain⟨hw,rfl,rfl⟩:=hd
       have hw:=K0a hw
       (have zx:=zA e0 (zA e3 (zA e4 (zA e8 (zA e9 (zA e10 (zA g1 (zA g2 (zA g3 (zA hlt (zA hs (zA ho (zA hf hC))))))))))));refine zq28 ?_;try exact zT)
       repeat'((first|refine Q0k ?_ ?_|refine K0k ?_ ?_|refine Y0j _ _ _ _ ?_ ?_|refine Z0j ?_ ?_|refine X0j _ _ _ _ ?_ ?_)<;>intro hc<;>(try simp only[zhd]at hc)<;>(try have hw:=K0a hc)<;>(refine zq28 ?_;try exact zT))
       all_goals(try clear zx)
       exact⟨k,Nat.lt_succ_self k,{er with Body:=er.Body.put_7k o.A.toNat (brought (nth [er.Body.X,er.Body.Y,er.Body.VX,er.Body.VY,er.Body.Age,er.In.Buttons,er.In.X,er.In.Y] o.B.toNat) (-1000000) 1000000)},a+1,zev,zev,zev,zev,zev,by simp[put_at,K0c];omega,by omega,zg8,zg8,zg8,hst,by omega,by omega,by(try simp only);omega,htl,(zb9),zlq⟩
      ·have hd:=doOp_8 hdo hC
       obtain⟨hw,rfl,rfl⟩:=hd
       have hw:=K0a hw
       have hq:o.A=0\/o.A=1\/o.A=2\/o.A=3:=by omega
       rcases hq with hq|hq|hq|hq
       ·(have zx:=zA e0 (zA e3 (zA e4 (zA e8 (zA e9 (zA e10 (zA g1 (zA g2 (zA g3 (zA hlt (zA hs (zA ho (zA hf (zA hC hq)))))))))))));refine zq28 ?_;try exact zT)
        repeat'((first|refine Q0k ?_ ?_|refine K0k ?_ ?_|refine Y0j _ _ _ _ ?_ ?_|refine Z0j ?_ ?_|refine X0j _ _ _ _ ?_ ?_)<;>intro hc<;>(try simp only[zhd]at hc)<;>(try have hw:=K0a hc)<;>(refine zq28 ?_;try exact zT))
        all_goals(try clear zx)
        exact⟨k,Nat.lt_succ_self k,{er with Body:={er.Body with X:=brought (nth er.Body.Mem o.B.toNat) (0) 4095}},a+1,zev,zev,zev,zev,zev,by simp[put_at,K0c];omega,by omega,zg8,zg8,zg8,by rw[<- hst];simp only[Mach.put,Mach.body,hq,Int.reduceEq,if_true,if_false];rfl,by omega,by omega,by(try simp only);omega,htl,(zb9),zlq⟩
       ·(have zx:=zA e0 (zA e3 (zA e4 (zA e8 (zA e9 (zA e10 (zA g1 (zA g2 (zA g3 (zA hlt (zA hs (zA ho (zA hf (zA hC hq)))))))))))));refine zq28 ?_;try exact zT)
        repeat'((first|refine Q0k ?_ ?_|refine K0k ?_ ?_|refine Y0j _ _ _ _ ?_ ?_|refine Z0j ?_ ?_|refine X0j _ _ _ _ ?_ ?_)<;>intro hc<;>(try simp only[zhd]at hc)<;>(try have hw:=K0a hc)<;>(refine zq28 ?_;try exact zT))
        all_goals(try clear zx)
        exact⟨k,Nat.lt_succ_self k,{er with Body:={er.Body with Y:=brought (nth er.Body.Mem o.B.toNat) (0) 4095}},a+1,zev,zev,zev,zev,zev,by simp[put_at,K0c];omega,by omega,zg8,zg8,zg8,by rw[<- hst];simp only[Mach.put,Mach.body,hq,Int.reduceEq,if_true,if_false];rfl,by omega,by omega,by(try simp only);omega,htl,(zb9),zlq⟩
       ·(have zx:=zA e0 (zA e3 (zA e4 (zA e8 (zA e9 (zA e10 (zA g1 (zA g2 (zA g3 (zA hlt (zA hs (zA ho (zA hf (zA hC hq)))))))))))));refine zq28 ?_;try exact zT)
        repeat'((first|refine Q0k ?_ ?_|refine K0k ?_ ?_|refine Y0j _ _ _ _ ?_ ?_|refine Z0j ?_ ?_|refine X0j _ _ _ _ ?_ ?_)<;>intro hc<;>(try simp only[zhd]at hc)<;>(try have hw:=K0a hc)<;>(refine zq28 ?_;try exact zT))
        all_goals(try clear zx)
        exact⟨k,Nat.lt_succ_self k,{er with Body:={er.Body with VX:=brought (nth er.Body.Mem o.B.toNat) (-64) 64}},a+1,zev,zev,zev,zev,zev,by simp[put_at,K0c];omega,by omega,zg8,zg8,zg8,by rw[<- hst];simp only[Mach.put,Mach.body,hq,Int.reduceEq,if_true,if_false];rfl,by omega,by omega,by(try simp only);omega,htl,(zb9),zlq⟩
       ·(have zx:=zA e0 (zA e3 (zA e4 (zA e8 (zA e9 (zA e10 (zA g1 (zA g2 (zA g3 (zA hlt (zA hs (zA ho (zA hf (zA hC hq)))))))))))));refine zq28 ?_;try exact zT)
        repeat'((first|refine Q0k ?_ ?_|refine K0k ?_ ?_|refine Y0j _ _ _ _ ?_ ?_|refine Z0j ?_ ?_|refine X0j _ _ _ _ ?_ ?_)<;>intro hc<;>(try simp only[zhd]at hc)<;>(try have hw:=K0a hc)<;>(refine zq28 ?_;try exact zT))
        all_goals(try clear zx)
        exact⟨k,Nat.lt_succ_self k,{er with Body:={er.Body with VY:=brought (nth er.Body.Mem o.B.toNat) (-64) 64}},a+1,zev,zev,zev,zev,zev,by simp[put_at,K0c];omega,by omega,zg8,zg8,zg8,by rw[<- hst];simp only[Mach.put,Mach.body,hq,Int.reduceEq,if_true,if_false];rfl,by omega,by omega,by(try simp only);omega,htl,(zb9),zlq⟩
      ·have hd:=doOp_9 hdo hC
       obtain⟨rfl,rfl⟩:=hd
       have hre:Mach.reg ⟨partE er,l,a⟩ o.A.toNat=nth er.Body.Mem o.A.toNat:=rfl
       rw[hre]at hn0 hn1 hst
       by_cases hz:nth er.Body.Mem o.A.toNat=0
       ·rw[if_pos hz]at hn0 hn1 hst
        (have zx:=zA e0 (zA e3 (zA e4 (zA e8 (zA e9 (zA e10 (zA g1 (zA g2 (zA g3 (zA hlt (zA hs (zA ho (zA hf (zA hC hz)))))))))))));refine zq28 ?_;try exact zT)
        repeat'((first|refine Q0k ?_ ?_|refine K0k ?_ ?_|refine Y0j _ _ _ _ ?_ ?_|refine Z0j ?_ ?_|refine X0j _ _ _ _ ?_ ?_)<;>intro hc<;>(try simp only[zhd]at hc)<;>(try have hw:=K0a hc)<;>(refine zq28 ?_;try exact zT))
        all_goals(try clear zx)
        exact⟨k,Nat.lt_succ_self k,er,o.B,zev,zev,zev,zev,zev,by simp[put_at,K0c];omega,by omega,zg8,zg8,zg8,hst,by omega,by omega,by(try simp only);omega,htl,(zb9),zlq⟩
       ·rw[if_neg hz]at hn0 hn1 hst
        (have zx:=zA e0 (zA e3 (zA e4 (zA e8 (zA e9 (zA e10 (zA g1 (zA g2 (zA g3 (zA hlt (zA hs (zA ho (zA hf (zA hC hz)))))))))))));refine zq28 ?_;try exact zT)
        repeat'((first|refine Q0k ?_ ?_|refine K0k ?_ ?_|refine Y0j _ _ _ _ ?_ ?_|refine Z0j ?_ ?_|refine X0j _ _ _ _ ?_ ?_)<;>intro hc<;>(try simp only[zhd]at hc)<;>(try have hw:=K0a hc)<;>(refine zq28 ?_;try exact zT))
        all_goals(try clear zx)
        exact⟨k,Nat.lt_succ_self k,er,a+1,zev,zev,zev,zev,zev,by simp[put_at,K0c];omega,by omega,zg8,zg8,zg8,hst,by omega,by omega,by(try simp only);omega,htl,(zb9),zlq⟩
      ·have hd:=doOp_10 hdo hC
       obtain⟨rfl,rfl⟩:=hd
       (have zx:=zA e0 (zA e3 (zA e4 (zA e8 (zA e9 (zA e10 (zA g1 (zA g2 (zA g3 (zA hlt (zA hs (zA ho (zA hf hC))))))))))));refine zq28 ?_;try exact zT)
       repeat'((first|refine Q0k ?_ ?_|refine K0k ?_ ?_|refine Y0j _ _ _ _ ?_ ?_|refine Z0j ?_ ?_|refine X0j _ _ _ _ ?_ ?_)<;>intro hc<;>(try simp only[zhd]at hc)<;>(try have hw:=K0a hc)<;>(refine zq28 ?_;try exact zT))
       all_goals(try clear zx)
       exact⟨k,Nat.lt_succ_self k,er,o.B,zev,zev,zev,zev,zev,by simp[put_at,K0c];omega,by omega,zg8,zg8,zg8,hst,by omega,by omega,by(try simp only);omega,htl,(zb9),zlq⟩
      ·have hd:=doOp_11 hdo hC
       obtain⟨hz,rfl,rfl⟩:=hd
       have hz:¬nth er.Body.Mem o.B.toNat<1:=hz
       (have zx:=zA e0 (zA e3 (zA e4 (zA e8 (zA e9 (zA e10 (zA g1 (zA g2 (zA g3 (zA hlt (zA hs (zA ho (zA hf (zA hC hz)))))))))))));refine zq28 ?_;try exact zT)
       repeat'((first|refine Q0k ?_ ?_|refine K0k ?_ ?_|refine Y0j _ _ _ _ ?_ ?_|refine Z0j ?_ ?_|refine X0j _ _ _ _ ?_ ?_)<;>intro hc<;>(try simp only[zhd]at hc)<;>(try have hw:=K0a hc)<;>(refine zq28 ?_;try exact zT))
       all_goals(try clear zx)
       exact⟨k,Nat.lt_succ_self k,{er with Body:=er.Body.put_7k o.A.toNat (brought ((diceRoll er.Dice (nth er.Body.Mem o.B.toNat)).2) (-1000000) 1000000),Dice:=(diceRoll er.Dice (nth er.Body.Mem o.B.toNat)).1},a+1,zev,zev,zev,zev,zev,by simp[put_at,K0c];omega,by omega,zg8,zg8,zg8,hst,by omega,by omega,by(try simp only);omega,htl,(zb9),zlq⟩
      ·have hd:=doOp_12 hdo hC
       obtain⟨rfl,rfl⟩:=hd
       have hsx:Mach.run k ⟨⟨er.Body,er.In,er.Dice,er.Room,⟨.part,er.Shots.l++[bodyShoot er.Body (nth er.Body.Mem o.A.toNat) (nth er.Body.Mem o.B.toNat)],nofun⟩⟩,l,a+1⟩=Mach.run 64 ⟨ruleOf e,l,0⟩:=by rw[<- hst];simp only[partE,partS_l];rfl
       by_cases hs0:er.Shots.l=[]
       ·rw[hs0]at hsx
        (have zx:=zA e0 (zA e3 (zA e4 (zA e8 (zA e9 (zA e10 (zA g1 (zA g2 (zA g3 (zA hlt (zA hs (zA ho (zA hf (zA hC hs0)))))))))))));refine zq28 ?_;try exact zT)
        repeat'((first|refine Q0k ?_ ?_|refine K0k ?_ ?_|refine Y0j _ _ _ _ ?_ ?_|refine Z0j ?_ ?_|refine X0j _ _ _ _ ?_ ?_)<;>intro hc<;>(try simp only[zhd]at hc)<;>(try have hw:=K0a hc)<;>(refine zq28 ?_;try exact zT))
        all_goals(try clear zx)
        all_goals first|(exfalso;cases hc;done)|(exfalso;omega)|skip
        exact⟨k,Nat.lt_succ_self k,{er with Shots:=⟨.own (q.n+1+1+19),[bodyShoot er.Body (nth er.Body.Mem o.A.toNat) (nth er.Body.Mem o.B.toNat)],nofun⟩},a+1,zev,zev,zev,zev,zev,by simp[put_at,K0c];omega,by omega,zg8,zg8,zg8,hsx,by omega,by omega,by simp;omega,.inr ⟨_,rfl⟩,(zb9),zlq⟩
       ·have hs1:0<er.Shots.l.length:=List.length_pos_iff.2 hs0
        (have zx:=zA e0 (zA e3 (zA e4 (zA e8 (zA e9 (zA e10 (zA g1 (zA g2 (zA g3 (zA hlt (zA hs (zA ho (zA hf (zA hC hs0)))))))))))));refine zq28 ?_;try exact zT)
        repeat'((first|refine Q0k ?_ ?_|refine K0k ?_ ?_|refine Y0j _ _ _ _ ?_ ?_|refine Z0j ?_ ?_|refine X0j _ _ _ _ ?_ ?_)<;>intro hc<;>(try simp only[zhd]at hc)<;>(try have hw:=K0a hc)<;>(refine zq28 ?_;try exact zT))
        all_goals(try clear zx)
        all_goals first|(exfalso;cases hc;done)|(exfalso;omega)|skip
        exact⟨k,Nat.lt_succ_self k,{er with Shots:=⟨.own (q.n+1+1+19+1),er.Shots.l++[bodyShoot er.Body (nth er.Body.Mem o.A.toNat) (nth er.Body.Mem o.B.toNat)],nofun⟩},a+1,zev,zev,zev,zev,zev,by simp[put_at,K0c];omega,by omega,zg8,zg8,zg8,hsx,by omega,by omega,by simp;omega,.inr ⟨_,rfl⟩,(zb9),zlq⟩
      ·have hd:=doOp_13 hdo hC
       obtain⟨rfl,rfl⟩:=hd
       (have zx:=zA e0 (zA e3 (zA e4 (zA e8 (zA e9 (zA e10 (zA g1 (zA g2 (zA g3 (zA hlt (zA hs (zA ho (zA hf hC))))))))))));refine zq28 ?_;try exact zT)
       repeat'((first|refine Q0k ?_ ?_|refine K0k ?_ ?_|refine Y0j _ _ _ _ ?_ ?_|refine Z0j ?_ ?_|refine X0j _ _ _ _ ?_ ?_)<;>intro hc<;>(try simp only[zhd]at hc)<;>(try have hw:=K0a hc)<;>(refine zq28 ?_;try exact zT))
       all_goals(try clear zx)
       exact⟨k,Nat.lt_succ_self k,er,(l.l.length:Int),zev,zev,zev,zev,zev,by simp[put_at,K0c];omega,by omega,zg8,zg8,zg8,hst,by omega,by omega,by(try simp only);omega,htl,(zb9),zlq⟩
   ·(have zx:=zA e0 (zA e3 (zA e4 (zA e8 (zA e9 (zA e10 (zA g1 (zA g2 (zA g3 hlt))))))));refine zq28 ?_;try exact zT)
    repeat'((first|refine Q0k ?_ ?_|refine K0k ?_ ?_|refine Y0j _ _ _ _ ?_ ?_|refine Z0j ?_ ?_|refine X0j _ _ _ _ ?_ ?_)<;>intro hc<;>(try simp only[zhd]at hc)<;>(try have hw:=K0a hc)<;>(refine zq28 ?_;try exact zT))
    all_goals(try clear zx)
    have hr:Mach.run k ⟨partE er,l,a⟩=.ok ⟨partE er,l,a⟩:=by cases k<;>simp[Mach.run,hlt]
    rw[hR,<- hrun,hr]
    refine K0d hF zlq ?_
    have hw:=weak_envR er p.n htl
    simp only[CV.weak,CV.weakL]
    exact⟨hw,trivial,trivial,trivial,trivial⟩
 ·have hR:ruleRun l (ruleOf e)=(ruleOf e,⟨0,0⟩,false):=by unfold ruleRun;rw[if_pos (.inl (by rw[show(ruleOf e).Body=e.Body from rfl];simpa using hb)),hcp]
  (have zx:=hb;refine zq28 ?_;try exact zT)
  repeat'((first|refine Q0k ?_ ?_|refine K0k ?_ ?_|refine Y0j _ _ _ _ ?_ ?_|refine Z0j ?_ ?_|refine X0j _ _ _ _ ?_ ?_)<;>intro hc<;>(try simp only[zhd]at hc)<;>(try have hw:=K0a hc)<;>(refine zq28 ?_;try exact zT))
  all_goals(try clear zx)
  rw[hR]
  exact K0d hF zle (Q0c rfl (Z0c (hnt _ _ _)))
def R83: Rel:=fun args p r=>∃(o:Z0b),args=[o.cv]/\r=.ret (Bo (!opRight o)) p
theorem t83{T:XCall}(h:Has T 83 R83)(o:Z0b){p:Hp}:T 83 [o.cv] p=.ret (Bo (!opRight o)) p:=h _ _ _ ⟨o,rfl,rfl⟩
theorem zq83{A B:Prop}(k:B)(h:A=B:=by have zy:=zA @zw83<|zA @rs83<|zA @tt3<|zA @tt29<|zA ti3.eq_1<|zA ti29.eq_1<|zA @t_84<|@K0q;exact zQ): A:=h▸k
theorem zno83{P:Prop}(h:P:=by intro jj;simp[CV.has,CV.hasL,fault,K0b.nohas,Z0b.nohas]): P:=h
theorem c83: Con C 83 R83:=by
 refine V0e C ?_ ?_ ?_
 ·rintro args p r r' ⟨o,h,e⟩ ⟨o',h',e'⟩
  subst e;subst e';simp_all[Z0b.inj_iff]
 ·rintro args p r ⟨o,h,rfl⟩;exact zr1
 rintro args p r ⟨o,rfl,rfl⟩
 refine zW C false [(84,R84)] ⟨c84,zT⟩ rfl xf83 zc83_ok fun call zh hF=>?_
 have t_84:=@t84 _ zh.1
 clear zh
 (have zx:=zT;refine zq83 ?_;try exact zT)
 repeat'(apply zK.s<;>intro hc<;>(try simp only[zhd,zhn]at hc)<;>(try have hw:=K0a hc)<;>(refine zq83 ?_;try exact zT))
 all_goals(try clear zx)
 all_goals refine K0d hF zle (Q0c ?_ (Z0c zno83))
 all_goals simp_all[opRight]
def J155(l:Lst Z0b)(p:Hp)(n:Nat)(ρ:Env)(q:Hp): Prop:=
 ∃(k:Nat),n=l.l.length-k/\k<=l.l.length/\ρ 0=l.cv Z0b.cv/\ρ 1=.fn 83 [] []/\ρ 7=I l.l.length/\ρ 8=I k/\firstW (fun o=>!opRight o) (l.l.drop k) k=firstW (fun o=>!opRight o) l.l 0/\HpLe p q
def R155: Rel:=fun args p r=>∃(l:Lst Z0b),args=[l.cv Z0b.cv,.fn 83 [] []]/\(l.l.length<=1000000)/\r=.ret (I (firstW (fun o=>!opRight o) l.l 0)) p
theorem t155{T:XCall}(h:Has T 155 R155)(l:Lst Z0b){p:Hp}(hl:l.l.length<=1000000): T 155 [l.cv Z0b.cv,.fn 83 [] []] p=.ret (I (firstW (fun o=>!opRight o) l.l 0)) p:=h _ _ _ ⟨l,rfl,hl,rfl⟩
theorem zq155{A B:Prop}(k:B)(h:A=B:=by have zy:=zA @zw155<|zA @rs155<|zA @tt3<|zA @tt23<|zA @tt29<|zA ti3.eq_1<|zA ti23.eq_1<|zA ti29.eq_1<|zA @t_83<|zA @K0q<|zA @zsl23<|@hl;exact zQ): A:=h▸k
theorem zno155{P:Prop}(h:P:=by intro jj;simp[CV.has,CV.hasL,fault,K0b.nohas,Z0b.nohas]): P:=h
theorem c155: Con C 155 R155:=by
 refine V0e C ?_ ?_ ?_
 ·rintro args p r r' ⟨l,h,hl,e⟩ ⟨l',h',hl',e'⟩
  subst e;subst e';simp_all[Z0b.inj_iff,V0r]
 ·rintro args p r ⟨l,h,hl,rfl⟩;exact zr1
 rintro args p r ⟨l,rfl,hl,rfl⟩
 refine zW C false [(83,R83)] ⟨c83,zT⟩ rfl xf155 zc155_ok fun call zh hF=>?_
 have t_83:=@t83 _ zh.1
 clear zh
 (have zx:=zT;refine zq155 ?_;try exact zT)
 repeat'(apply zK.s<;>intro hc<;>(try simp only[zhd,zhn]at hc)<;>(try have hw:=K0a hc)<;>(refine zq155 ?_;try exact zT))
 all_goals(try clear zx)
 show W C false noExt call (ZC.block 0 (ZC.loop V1n)) _ _ (seqQ _ _)
 show W C false noExt call (ZC.loop V1n) _ _ _
 refine Y0g C false noExt call V1n _ _ _ (J155 l p) l.l.length ⟨0,rfl,by omega,(by simp[put_at,K0c,K0e]),(by simp[put_at,K0c];rfl),(by simp[put_at,K0c,K0e]),(by simp[put_at,K0c,K0e]),by simp,zle⟩ ?_
 rintro n ρ q ⟨k,rfl,hk,e0,e1,e7,e8,hj,hle⟩
 by_cases hlt:(k:Int)<l.l.length
 ·have hd:=X0y (l:=l.l) (k:=k) (by omega)
  rw[hd]at hj
  simp only[firstW]at hj
  cases hr:opRight (nth l.l k) with
  |true=>
   rw[if_neg (by simp[hr])]at hj
   (have zx:=zA e0 (zA e1 (zA e7 (zA e8 (zA hlt hr))));refine zq155 ?_;try exact zT)
   repeat'(apply zK.s<;>intro hc<;>(try simp only[zhd,zhn]at hc)<;>(try have hw:=K0a hc)<;>(refine zq155 ?_;try exact zT))
   all_goals(try clear zx)
   exact⟨l.l.length-(k+1),by omega,k+1,rfl,by omega,zev,zev,zev,zev,by simpa using hj,zlq⟩
  |false=>
   rw[if_pos (by simp[hr])]at hj
   (have zx:=zA e0 (zA e1 (zA e7 (zA e8 (zA hlt hr))));refine zq155 ?_;try exact zT)
   repeat'(apply zK.s<;>intro hc<;>(try simp only[zhd,zhn]at hc)<;>(try have hw:=K0a hc)<;>(refine zq155 ?_;try exact zT))
   all_goals(try clear zx)
   refine K0d hF zlq (Q0c ?_ (Z0c zno155))
   rw[<- hj]
 ·(have zx:=zA e0 (zA e1 (zA e7 (zA e8 hlt)));refine zq155 ?_;try exact zT)
  repeat'(apply zK.s<;>intro hc<;>(try simp only[zhd,zhn]at hc)<;>(try have hw:=K0a hc)<;>(refine zq155 ?_;try exact zT))
  all_goals(try clear zx)
  refine K0d hF zlq (Q0c ?_ (Z0c zno155))
  rw[<- hj,List.drop_eq_nil_of_le (by omega)];rfl
def R82: Rel:=fun args p r=>∃(l:Lst Z0b),args=[l.cv Z0b.cv,.fn 83 [] []]/\(l.l.length<=1000000)/\r=.ret (Bo (!l.l.all opRight)) p
theorem t82{T:XCall}(h:Has T 82 R82)(l:Lst Z0b){p:Hp}(hl:l.l.length<=1000000): T 82 [l.cv Z0b.cv,.fn 83 [] []] p=.ret (Bo (!l.l.all opRight)) p:=h _ _ _ ⟨l,rfl,hl,rfl⟩
theorem zq82{A B:Prop}(k:B)(h:A=B:=by have zy:=zA @zw82<|zA @rs82<|zA @tt3<|zA ti3.eq_1<|zA @t_155<|@hl;exact zQ): A:=h▸k
theorem zno82{P:Prop}(h:P:=by intro jj;simp[CV.has,CV.hasL,fault,K0b.nohas]): P:=h
theorem c82: Con C 82 R82:=by
 refine V0e C ?_ ?_ ?_
 ·rintro args p r r' ⟨l,h,hl,e⟩ ⟨l',h',hl',e'⟩
  subst e;subst e';simp_all[V0r]
 ·rintro args p r ⟨l,h,hl,rfl⟩;exact zr1
 rintro args p r ⟨l,rfl,hl,rfl⟩
 refine zW C false [(155,R155)] ⟨c155,zT⟩ rfl xf82 zc82_ok fun call zh hF=>?_
 have t_155:=@t155 _ zh.1
 clear zh
 (have zx:=zT;refine zq82 ?_;try exact zT)
 repeat'(apply zK.s<;>intro hc<;>(try simp only[zhd,zhn]at hc)<;>(try have hw:=K0a hc)<;>(refine zq82 ?_;try exact zT))
 all_goals(try clear zx)
 refine K0d hF zle (Q0c ?_ (Z0c zno82))
 rw[<- any_opRight,<- K1z _ _ 0]
def R29: Rel:=fun args p r=>∃(l:Lst Z0b),args=[l.cv Z0b.cv]/\(l.l.length<=1000000)/\r=.ret (Bo (ruleRight l.l)) p
theorem t29{T:XCall}(h:Has T 29 R29)(l:Lst Z0b){p:Hp}(hl:l.l.length<=1000000): T 29 [l.cv Z0b.cv] p=.ret (Bo (ruleRight l.l)) p:=h _ _ _ ⟨l,rfl,hl,rfl⟩
theorem zq29{A B:Prop}(k:B)(h:A=B:=by have zy:=zA @zw29<|zA @rs29<|zA @tt3<|zA @tt23<|zA ti3.eq_1<|zA ti23.eq_1<|zA @t_82<|zA @K0q<|zA @zsl23<|@hl;exact zQ): A:=h▸k
theorem zno29{P:Prop}(h:P:=by intro jj;simp[CV.has,CV.hasL,fault,K0b.nohas,Z0b.nohas]): P:=h
theorem c29: Con C 29 R29:=by
 refine V0e C ?_ ?_ ?_
 ·rintro args p r r' ⟨l,h,hl,e⟩ ⟨l',h',hl',e'⟩
  subst e;subst e';simp_all[Z0b.inj_iff,V0r]
 ·rintro args p r ⟨l,h,hl,rfl⟩;exact zr1
 rintro args p r ⟨l,rfl,hl,rfl⟩
 refine zW C false [(82,R82)] ⟨c82,zT⟩ rfl xf29 zc29_ok fun call zh hF=>?_
 have t_82:=@t82 _ zh.1
 clear zh
 by_cases h16:(l.l.length:Int)<=16
 ·(have zx:=h16;refine zq29 ?_;try exact zT)
  repeat'(apply zK.s<;>intro hc<;>(try simp only[zhd,zhn]at hc)<;>(try have hw:=K0a hc)<;>(refine zq29 ?_;try exact zT))
  all_goals(try clear zx)
  refine K0d hF zle (Q0c ?_ (Z0c zno29))
  have h':l.l.length<=16:=by omega
  simp[ruleRight,h']
 ·(have zx:=h16;refine zq29 ?_;try exact zT)
  repeat'(apply zK.s<;>intro hc<;>(try simp only[zhd,zhn]at hc)<;>(try have hw:=K0a hc)<;>(refine zq29 ?_;try exact zT))
  all_goals(try clear zx)
  refine K0d hF zle (Q0c ?_ (Z0c zno29))
  have h':¬l.l.length<=16:=by omega
  simp[ruleRight,h']
def J30(l:Lst Z0b)(p:Hp)(n:Nat)(ρ:Env)(q:Hp): Prop:=
 ∃(k:Nat),n=l.l.length-k/\k<=l.l.length/\ρ 0=l.cv Z0b.cv/\ρ 3=I k/\(l.l.drop k).all opRight=l.l.all opRight/\HpLe p q
def R30: Rel:=fun args p r=>∃(l:Lst Z0b),args=[l.cv Z0b.cv]/\(l.l.length<=1000000)/\r=.ret (Bo (ruleRight l.l)) p
theorem t30{T:XCall}(h:Has T 30 R30)(l:Lst Z0b){p:Hp}(hl:l.l.length<=1000000): T 30 [l.cv Z0b.cv] p=.ret (Bo (ruleRight l.l)) p:=h _ _ _ ⟨l,rfl,hl,rfl⟩
theorem zq30{A B:Prop}(k:B)(h:A=B:=by have zy:=zA @zw30<|zA @rs30<|zA @tt3<|zA @tt23<|zA @tt29<|zA ti3.eq_1<|zA ti23.eq_1<|zA ti29.eq_1<|zA @t_85<|zA @K0q<|zA @zsl23<|@hl;exact zQ): A:=h▸k
theorem zno30{P:Prop}(h:P:=by intro jj;simp[CV.has,CV.hasL,fault,K0b.nohas,Z0b.nohas]): P:=h
theorem c30: Con C 30 R30:=by
 refine V0e C ?_ ?_ ?_
 ·rintro args p r r' ⟨l,h,hl,e⟩ ⟨l',h',hl',e'⟩
  subst e;subst e';simp_all[Z0b.inj_iff,V0r]
 ·rintro args p r ⟨l,h,hl,rfl⟩;exact zr1
 rintro args p r ⟨l,rfl,hl,rfl⟩
 refine zW C false [(85,R85)] ⟨c85,zT⟩ rfl xf30 zc30_ok fun call zh hF=>?_
 have t_85:=@t85 _ zh.1
 clear zh
 (have zx:=zT;refine zq30 ?_;try exact zT)
 repeat'(apply zK.s<;>intro hc<;>(try simp only[zhd,zhn]at hc)<;>(try have hw:=K0a hc)<;>(refine zq30 ?_;try exact zT))
 all_goals(try clear zx)
 show W C false noExt call (ZC.block 0 (ZC.loop zn30_7)) _ _ (seqQ _ _)
 show W C false noExt call (ZC.loop zn30_7) _ _ _
 refine Y0g C false noExt call zn30_7 _ _ _ (J30 l p) l.l.length ⟨0,rfl,by omega,(by simp[put_at,K0c,K0e]),(by simp[put_at,K0c,K0e]),by simp,zle⟩ ?_
 rintro n ρ q ⟨k,rfl,hk,e0,e3,hj,hle⟩
 by_cases hlt:(k:Int)<l.l.length
 ·have hd:=X0y (l:=l.l) (k:=k) (by omega)
  rw[hd]at hj
  simp only[List.all_cons]at hj
  cases hw:opRight (nth l.l k) with
  |true=>
   have hw':=hw
   simp only[opRight,Bool.and_eq_true]at hw'
   obtain⟨⟨w1,w2⟩,w3⟩:=hw'
   rw[hw]at hj
   (have zx:=zA e0 (zA e3 (zA hlt (zA w1 (zA w2 w3))));refine zq30 ?_;try exact zT)
   repeat'(apply zK.s<;>intro hc<;>(try simp only[zhd,zhn]at hc)<;>(try have hw:=K0a hc)<;>(refine zq30 ?_;try exact zT))
   all_goals(try clear zx)
   exact⟨l.l.length-(k+1),by omega,k+1,rfl,by omega,zev,zev,by simpa using hj,zlq⟩
  |false=>
   rw[hw]at hj
   (have zx:=zA e0 (zA e3 hlt);refine zq30 ?_;try exact zT)
   repeat'(apply zK.s<;>intro hc<;>(try simp only[zhd,zhn]at hc)<;>(try have hw:=K0a hc)<;>(refine zq30 ?_;try exact zT))
   all_goals(try clear zx)
   all_goals first
    |(exfalso;simp_all[opRight];done)
    |(refine K0d hF zlq (Q0c ?_ (Z0c zno30));simp[ruleRight,<- hj];done)
 ·(have zx:=zA e0 (zA e3 hlt);refine zq30 ?_;try exact zT)
  repeat'(apply zK.s<;>intro hc<;>(try simp only[zhd,zhn]at hc)<;>(try have hw:=K0a hc)<;>(refine zq30 ?_;try exact zT))
  all_goals(try clear zx)
  refine K0d hF zlq (Q0c ?_ (Z0c zno30))
  rw[List.drop_eq_nil_of_le (by omega)]at hj
  simp[ruleRight,<- hj]<;>omega
def mapE(seen:List Int): List (CV×CV):=seen.map fun n=>(I n,Bo true)
theorem X1b(n:Int): ∀(seen:List Int) (k:Nat),(seen.contains n=false/\findK .i64 n k (mapE seen)=some none)\/(seen.contains n=true/\∃j,findK .i64 n k (mapE seen)=some (some (j,Bo true)))
 |[],k=>.inl ⟨rfl,rfl⟩
 |x::l,k=>by
  have hf:findK .i64 n k (mapE (x::l))=bif decide (n=x)then some (some (k,Bo true))else findK .i64 n (k+1) (mapE l):=by
   simp only[mapE,List.map_cons,findK,if_true]
  by_cases h:n=x
  ·right;rw[hf];simp[h]
  ·rcases X1b n l (k+1) with⟨h1,h2⟩|⟨h1,j,h2⟩
   ·left;rw[hf];simp only[h,decide_false,cond_false];exact⟨by simp only[List.contains_cons,h1,Bool.or_false];simp[h],h2⟩
   ·right;rw[hf];simp only[h,decide_false,cond_false];exact⟨by simp only[List.contains_cons,h1,Bool.or_true],j,h2⟩
theorem look224(p:Hp)(i:Nat)(n:Int)(seen:List Int)(h:p.t.get i=some (.map (mapE seen))): xlookup C p 224 (.mapr i) (I n) false=.ret (Bo (seen.contains n)) p:=by
 have hm:mapKV C 224=some (4,ti4):=by simp only[mapKV,tt224,ti224,tt3,ti3,tt4]
 simp only[xlookup,hm,entriesOf,h]
 rcases X1b n seen 0 with⟨h1,h2⟩|⟨h1,j,h2⟩
 ·rw[h2,h1];rfl
 ·rw[h2,h1];rfl
theorem upd224(p:Hp)(i:Nat)(n:Int)(seen:List Int)(h:p.t.get i=some (.map (mapE seen)))(hn:seen.contains n=false): xupdate C p 224 (.mapr i) (I n) (Bo true)=.ret (.tup []) (p.set i (some (.map (mapE (seen++[n]))))):=by
 have hm:mapKV C 224=some (4,ti4):=by simp only[mapKV,tt224,ti224,tt3,ti3,tt4]
 simp only[xupdate,hm,h]
 rcases X1b n seen 0 with⟨h1,h2⟩|⟨h1,j,h2⟩
 ·rw[h2];simp[mapE]
 ·rw[hn]at h1;cases h1
theorem mkmap(p:Hp): xmakeMap p=.ret (.mapr p.n) (p.new (.map (mapE []))):=rfl
def J136(c:X0a)(p:Hp)(n:Nat)(ρ:Env)(q:Hp): Prop:=
 ∃(k:Nat),n=c.Tokens.l.length-k/\k<=c.Tokens.l.length/\ρ 1=.ptr p.n []/\ρ 3=.mapr (p.n+1)/\ρ 8=Lst.cv I c.Tokens/\ρ 9=I c.Tokens.l.length/\ρ 10=I k/\q.t.get p.n=some (.var sh61 c.cv)/\q.t.get (p.n+1)=some (.map (mapE (c.Tokens.l.take k)))/\tokGo (c.Tokens.l.take k) (c.Tokens.l.drop k)=tokGo [] c.Tokens.l/\p.n+1<q.n/\HpLe p q
def R136: Rel:=fun args p r=>∃(c:X0a),args=[c.cv]/\(c.Tokens.l.length<=1000000)/\r=.ret (Bo (tokGo [] c.Tokens.l&&decide ((c.Tokens.l.length:Int)=c.Players))) p
theorem t136{T:XCall}(h:Has T 136 R136)(c:X0a){p:Hp}(hl:c.Tokens.l.length<=1000000): T 136 [c.cv] p=.ret (Bo (tokGo [] c.Tokens.l&&decide ((c.Tokens.l.length:Int)=c.Players))) p:=h _ _ _ ⟨c,rfl,hl,rfl⟩
theorem zq136{A B:Prop}(k:B)(h:A=B:=by have zy:=zA @zw136<|zA @rs136<|zA @tt3<|zA @tt24<|zA @tt61<|zA @tt224<|zA ti3.eq_1<|zA ti24.eq_1<|zA ti61.eq_1<|zA ti224.eq_1<|zA @t_106<|zA @Z0e<|zA @zsl24<|zA @look224<|zA @upd224<|zA @mkmap<|@hl;exact zQ): A:=h▸k
theorem zno136{P:Prop}(h:P:=by intro jj;simp[CV.has,CV.hasL,fault,K0b.nohas]): P:=h
theorem zge136{P:Prop}(h:P:=by simp (disch:=first|exact zdl|fail) only[zheap];first|done|rfl): P:=h
theorem c136: Con C 136 R136:=by
 refine V0e C ?_ ?_ ?_
 ·rintro args p r r' ⟨c,h,hl,e⟩ ⟨c',h',hl',e'⟩
  subst e;subst e';simp_all[X0a.inj_iff,K0s]
 ·rintro args p r ⟨c,h,hl,rfl⟩;exact zr1
 rintro args p r ⟨c,rfl,hl,rfl⟩
 refine zW C false [(106,R106)] ⟨c106,zT⟩ rfl xf136 zc136_ok fun call zh hF=>?_
 have t_106:=@t106 _ zh.1
 clear zh
 (have zx:=zT;refine zq136 ?_;try exact zT)
 repeat'(apply zK.s<;>intro hc<;>(try simp only[zhd]at hc)<;>(try have hw:=K0a hc)<;>(refine zq136 ?_;try exact zT))
 all_goals(try clear zx)
 (show W C false noExt call (ZC.loop Y11) _ _ _);refine Y0g C false noExt call Y11 _ _ _ (J136 c p) c.Tokens.l.length ⟨0,rfl,by omega,(by simp[put_at,K0c,K0e]),(by simp[put_at,K0c,K0e]),(by simp[put_at,K0c,K0e]),(by simp[put_at,K0c,K0e]),(by simp[put_at,K0c,K0e]),zge136,zge136,rfl,(zb9),zle⟩ ?_
 rintro n ρ q ⟨k,rfl,hk,e1,e3,e8,e9,e10,g1,g2,hj,hn,hle⟩
 by_cases hlt:(k:Int)<c.Tokens.l.length
 ·have htk:=take_nth (l:=c.Tokens.l) (k:=k) (by omega)
  rw[X0y (l:=c.Tokens.l) (k:=k) (by omega)]at hj
  simp only[tokGo]at hj
  cases hw:within (nth c.Tokens.l k) 0 2147483646 with
  |false=>
   rw[hw]at hj
   (have zx:=zA e1 (zA e3 (zA e8 (zA e9 (zA e10 (zA g1 (zA g2 (zA hlt hw)))))));refine zq136 ?_;try exact zT)
   repeat'(apply zK.s<;>intro hc<;>(try simp only[zhd]at hc)<;>(try have hw:=K0a hc)<;>(refine zq136 ?_;try exact zT))
   all_goals(try clear zx)
   refine K0d hF zlq (Q0c ?_ (Z0c zno136))
   rw[<- hj];simp
  |true=>
   rw[hw]at hj
   cases hc2:(c.Tokens.l.take k).contains (nth c.Tokens.l k) with
   |true=>
    rw[hc2]at hj
    (have zx:=zA e1 (zA e3 (zA e8 (zA e9 (zA e10 (zA g1 (zA g2 (zA hlt (zA hw hc2))))))));refine zq136 ?_;try exact zT)
    repeat'(apply zK.s<;>intro hc<;>(try simp only[zhd]at hc)<;>(try have hw:=K0a hc)<;>(refine zq136 ?_;try exact zT))
    all_goals(try clear zx)
    refine K0d hF zlq (Q0c ?_ (Z0c zno136))
    rw[<- hj];simp
   |false=>
    rw[hc2]at hj
    simp only[Bool.true_and,Bool.not_false]at hj
    (have zx:=zA e1 (zA e3 (zA e8 (zA e9 (zA e10 (zA g1 (zA g2 (zA hlt (zA hw hc2))))))));refine zq136 ?_;try exact zT)
    repeat'(apply zK.s<;>intro hc<;>(try simp only[zhd]at hc)<;>(try have hw:=K0a hc)<;>(refine zq136 ?_;try exact zT))
    all_goals(try clear zx)
    exact⟨c.Tokens.l.length-(k+1),by omega,k+1,rfl,by omega,zev,zev,zev,zev,zev,zg9,by rw[htk];simp (disch:=first|exact zdl|fail) only[zheap],by rw[htk];exact hj,zb9,zlq⟩
 ·have hk2:k=c.Tokens.l.length:=by omega
  rw[hk2,List.drop_eq_nil_of_le (Nat.le_refl _)]at hj
  (have zx:=zA e1 (zA e3 (zA e8 (zA e9 (zA e10 (zA g1 (zA g2 hlt))))));refine zq136 ?_;try exact zT)
  repeat'(apply zK.s<;>intro hc<;>(try simp only[zhd]at hc)<;>(try have hw:=K0a hc)<;>(refine zq136 ?_;try exact zT))
  all_goals(try clear zx)
  all_goals refine K0d hF zlq (Q0c ?_ (Z0c zno136))
  all_goals(rw[<- hj];simp[tokGo, *])
def R60: Rel:=fun args p r=>∃(c:X0a),args=[c.cv]/\(c.Tokens.l.length<=1000000)/\(c.Rules.l.length<=1000000)/\r=.ret (Bo (legalC c)) p
theorem t60{T:XCall}(h:Has T 60 R60)(c:X0a){p:Hp}(hl:c.Tokens.l.length<=1000000)(hr:c.Rules.l.length<=1000000): T 60 [c.cv] p=.ret (Bo (legalC c)) p:=h _ _ _ ⟨c,rfl,hl,hr,rfl⟩
theorem zq60{A B:Prop}(k:B)(h:A=B:=by have zy:=zA @zw60<|zA @rs60<|zA @tt3<|zA @tt23<|zA @tt59<|zA @tt61<|zA @tt69<|zA ti3.eq_1<|zA ti23.eq_1<|zA ti59.eq_1<|zA ti61.eq_1<|zA ti69.eq_1<|zA @t_29<|zA @t_106<|zA @t_135<|zA @t_136<|zA @Z0e<|zA @zsl23<|zA @hl<|@hr;exact zQ): A:=h▸k
theorem zno60{P:Prop}(h:P:=by intro jj;simp[CV.has,CV.hasL,fault,K0b.nohas]): P:=h
theorem c60: Con C 60 R60:=by
 refine V0e C ?_ ?_ ?_
 ·rintro args p r r' ⟨c,h,hl,hr,e⟩ ⟨c',h',hl',hr',e'⟩
  subst e;subst e';simp_all[X0a.inj_iff,V0r]
 ·rintro args p r ⟨c,h,hl,hr,rfl⟩;exact zr1
 rintro args p r ⟨c,rfl,hl,hr,rfl⟩
 refine zW C false [(29,R29),(106,R106),(135,R135),(136,R136)] ⟨c29,c106,c135,c136,zT⟩ rfl xf60 zc60_ok fun call zh hF=>?_
 have t_29:=@t29 _ zh.1
 have t_106:=@t106 _ zh.2.1
 have t_135:=@t135 _ zh.2.2.1
 have t_136:=@t136 _ zh.2.2.2.1
 clear zh
 (have zx:=zT;refine zq60 ?_;try exact zT)
 repeat'(apply zK.s<;>intro hc<;>(try simp only[zhd]at hc)<;>(try have hw:=K0a hc)<;>(refine zq60 ?_;try exact zT))
 all_goals(try clear zx)
 all_goals refine K0d hF zle (Q0c ?_ (Z0c zno60))
 all_goals simp[legalC, *]
def J44(c:X0a)(s:V0a)(p:Hp)(n:Nat)(ρ:Env)(q:Hp): Prop:=
 ∃(k:Nat),n=16-k/\k<=16/\ρ 2=.ptr p.n []/\ρ 3=.ptr (p.n+1) []/\ρ 10=.agg (s.Bodies.map Q0a.cv)/\ρ 11=I k/\q.t.get p.n=some (.var sh61 c.cv)/\q.t.get (p.n+1)=some (.var sh66 s.cv)/\allFrom (rightAt c.Players) (s.Bodies.drop k) k=allFrom (rightAt c.Players) s.Bodies 0/\p.n+1<q.n/\HpLe p q
def L44(c:X0a)(s:V0a)(p:Hp)(n:Nat)(ρ:Env)(q:Hp): Prop:=
 ∃(k:Nat),n=8-k/\k<=8/\ρ 2=.ptr p.n []/\ρ 3=.ptr (p.n+1) []/\ρ 22=.agg (s.Score.map I)/\ρ 23=I k/\q.t.get p.n=some (.var sh61 c.cv)/\q.t.get (p.n+1)=some (.var sh66 s.cv)/\allFrom (scoreAt c.Players) (s.Score.drop k) k=allFrom (scoreAt c.Players) s.Score 0/\p.n+1<q.n/\HpLe p q
def R44: Rel:=fun args p r=>∃(c:X0a) (s:V0a),args=[c.cv,s.cv]/\(c.Tokens.l.length<=1000000)/\(c.Rules.l.length<=1000000)/\r=.ret (Bo (stateRight c s)) p
theorem t44{T:XCall}(h:Has T 44 R44)(c:X0a)(s:V0a){p:Hp}(hl:c.Tokens.l.length<=1000000)(hr:c.Rules.l.length<=1000000): T 44 [c.cv,s.cv] p=.ret (Bo (stateRight c s)) p:=h _ _ _ ⟨c,s,rfl,hl,hr,rfl⟩
theorem zq44{A B:Prop}(k:B)(h:A=B:=by have zy:=zA @zw44<|zA @rs44<|zA @tt3<|zA @tt34<|zA @tt61<|zA @tt63<|zA @tt64<|zA @tt66<|zA ti3.eq_1<|zA ti34.eq_1<|zA ti61.eq_1<|zA ti63.eq_1<|zA ti64.eq_1<|zA ti66.eq_1<|zA @t_60<|zA @t_105<|zA @t_106<|zA @Z0e<|zA @X0f<|zA @Q0f<|zA @zsl63<|zA @zsl64<|zA @hl<|@hr;exact zQ): A:=h▸k
theorem zno44{P:Prop}(h:P:=by intro jj;simp[CV.has,CV.hasL,fault,K0b.nohas,V0a.nohas,Q0a.nohas]): P:=h
theorem zge44{P:Prop}(h:P:=by simp (disch:=first|exact zdl|fail) only[zheap];first|done|rfl): P:=h
theorem c44: Con C 44 R44:=by
 refine V0e C ?_ ?_ ?_
 ·rintro args p r r' ⟨c,s,h,hl,hr,e⟩ ⟨c',s',h',hl',hr',e'⟩
  subst e;subst e';simp_all[X0a.inj_iff,V0a.inj_iff,Q0a.inj_iff]
 ·rintro args p r ⟨c,s,h,hl,hr,rfl⟩;exact zr1
 rintro args p r ⟨c,s,rfl,hl,hr,rfl⟩
 refine zW C false [(60,R60),(105,R105),(106,R106)] ⟨c60,c105,c106,zT⟩ rfl xf44 zc44_ok fun call zh hF=>?_
 have t_60:=@t60 _ zh.1
 have t_105:=@t105 _ zh.2.1
 have t_106:=@t106 _ zh.2.2.1
 clear zh
 have hb:=s.hBodies
 have hsc:=s.hScore
 (have zx:=zT;refine zq44 ?_;try exact zT)
 repeat'(apply zK.s<;>intro hc<;>(try simp only[zhd]at hc)<;>(try have hw:=K0a hc)<;>(refine zq44 ?_;try exact zT))
 all_goals(try clear zx)
 (show W C false noExt call (ZC.loop zn44_7) _ _ _);refine Y0g C false noExt call zn44_7 _ _ _ (J44 c s p) 16 ⟨0,rfl,by omega,(by simp[put_at,K0c,K0e]),(by simp[put_at,K0c,K0e]),(by simp[put_at,K0c,K0e]),(by simp[put_at,K0c,K0e]),zge44,zge44,rfl,(zb9),zle⟩ ?_
 rintro n ρ q ⟨k,rfl,hk,e2,e3,e10,e11,g1,g2,hj,hn,hle⟩
 by_cases hlt:(k:Int)<16
 ·rw[K0u _ (l:=s.Bodies) (k:=k) (by omega)]at hj
  cases hw:rightAt c.Players k (nth s.Bodies k) with
  |false=>
   rw[hw]at hj
   (have zx:=zA e2 (zA e3 (zA e10 (zA e11 (zA g1 (zA g2 (zA hlt hw))))));refine zq44 ?_;try exact zT)
   repeat'(apply zK.s<;>intro hc<;>(try simp only[zhd]at hc)<;>(try have hw:=K0a hc)<;>(refine zq44 ?_;try exact zT))
   all_goals(try clear zx)
   refine K0d hF zlq (Q0c ?_ (Z0c zno44))
   simp[stateRight,<- hj]
  |true=>
   rw[hw,Bool.true_and]at hj
   (have zx:=zA e2 (zA e3 (zA e10 (zA e11 (zA g1 (zA g2 (zA hlt hw))))));refine zq44 ?_;try exact zT)
   repeat'(apply zK.s<;>intro hc<;>(try simp only[zhd]at hc)<;>(try have hw:=K0a hc)<;>(refine zq44 ?_;try exact zT))
   all_goals(try clear zx)
   exact⟨16-(k+1),by omega,k+1,rfl,by omega,zev,zev,zev,zev,zg9,zg9,hj,zb9,zlq⟩
 ·have hk16:k=16:=by omega
  subst hk16
  rw[List.drop_eq_nil_of_le (by omega)]at hj
  have hA:allFrom (rightAt c.Players) s.Bodies 0=true:=hj.symm
  (have zx:=zA e2 (zA e3 (zA e10 (zA e11 (zA g1 (zA g2 hlt)))));refine zq44 ?_;try exact zT)
  repeat'(apply zK.s<;>intro hc<;>(try simp only[zhd]at hc)<;>(try have hw:=K0a hc)<;>(refine zq44 ?_;try exact zT))
  all_goals(try clear zx)
  (show W C false noExt call (ZC.loop Z15) _ _ _);refine Y0g C false noExt call Z15 _ _ _ (L44 c s p) 8 ⟨0,rfl,by omega,zev,zev,zev,zev,g1,g2,rfl,hn,hle⟩ ?_
  clear e2 e3 e10 e11 g1 g2 hn hle hj hlt
  rintro n ρ q ⟨k,rfl,hk,e2,e3,e22,e23,g1,g2,hj,hn,hle⟩
  by_cases hlt:(k:Int)<8
  ·rw[K0u _ (l:=s.Score) (k:=k) (by omega)]at hj
   cases hw:scoreAt c.Players k (nth s.Score k) with
   |false=>
    rw[hw]at hj
    simp only[scoreAt]at hw
    (have zx:=zA e2 (zA e3 (zA e22 (zA e23 (zA g1 (zA g2 hlt)))));refine zq44 ?_;try exact zT)
    repeat'(apply zK.s<;>intro hc<;>(try simp only[zhd]at hc)<;>(try have hw:=K0a hc)<;>(refine zq44 ?_;try exact zT))
    all_goals(try clear zx)
    all_goals first
     |(exfalso;simp_all;done)
     |(exfalso;simp_all;omega)
     |(refine K0d hF zlq (Q0c ?_ (Z0c zno44));simp[stateRight,<- hj];done)
   |true=>
    rw[hw,Bool.true_and]at hj
    simp only[scoreAt]at hw
    (have zx:=zA e2 (zA e3 (zA e22 (zA e23 (zA g1 (zA g2 hlt)))));refine zq44 ?_;try exact zT)
    repeat'(apply zK.s<;>intro hc<;>(try simp only[zhd]at hc)<;>(try have hw:=K0a hc)<;>(refine zq44 ?_;try exact zT))
    all_goals(try clear zx)
    all_goals first
     |exact⟨8-(k+1),by omega,k+1,rfl,by omega,zev,zev,zev,zev,zg9,zg9,hj,zb9,zlq⟩
     |exact⟨8-(k+1),by omega,k+1,rfl,by omega,zev,zev,zev,zev,g1,g2,hj,hn,hle⟩
     |(exfalso;simp_all;done)
     |(exfalso;simp_all;omega)
  ·have hk8:k=8:=by omega
   subst hk8
   rw[List.drop_eq_nil_of_le (by omega)]at hj
   have hB:allFrom (scoreAt c.Players) s.Score 0=true:=hj.symm
   (have zx:=zA e2 (zA e3 (zA e22 (zA e23 (zA g1 (zA g2 hlt)))));refine zq44 ?_;try exact zT)
   repeat'(apply zK.s<;>intro hc<;>(try simp only[zhd]at hc)<;>(try have hw:=K0a hc)<;>(refine zq44 ?_;try exact zT))
   all_goals(try clear zx)
   all_goals refine K0d hF zlq (Q0c ?_ (Z0c zno44))
   all_goals simp[stateRight,hA,hB, *]
def nilB: Lst Int:=⟨.nil,[],fun _=>rfl⟩
def partB(l:List Int): Lst Int:=⟨.part,l,nofun⟩
theorem bld203: qbuild C 203 []=some (X0d.mk (.lst .nil []) (lst_sh .nil []) 0).cv:=by
 simp only[qbuild,tt203,ti203,partsOk,setAll];rfl
def R88: Rel:=fun args p r=>args=[]/\r=.ret (.ptr p.n []) (p.new (W1 0 []))
theorem t88{T:XCall}(h:Has T 88 R88) {p:Hp}:T 88 [] p=.ret (.ptr p.n []) (p.new (W1 0 [])):=h _ _ _ ⟨rfl,rfl⟩
theorem zq88{A B:Prop}(k:B)(h:A=B:=by have zy:=zA @zw88<|zA @rs88<|zA @tt203<|zA ti203.eq_1<|zA @Q0r<|@bld203;exact zQ): A:=h▸k
theorem c88: Con C 88 R88:=by
 refine V0e C ?_ ?_ ?_
 ·rintro args p r r' ⟨h,e⟩ ⟨h',e'⟩
  subst e;subst e';simp_all[X0d.inj_iff]
 ·rintro args p r ⟨h,rfl⟩;exact zr1
 rintro args p r ⟨rfl,rfl⟩
 refine zW C false [] zT rfl xf88 zc88_ok fun call zh hF=>?_
 clear zh
 (have zx:=zT;refine zq88 ?_;try exact zT)
 repeat'(apply zK.s<;>intro hc<;>(try simp only[zhd]at hc)<;>(try have hw:=K0a hc)<;>(refine zq88 ?_;try exact zT))
 all_goals(try clear zx)
 refine K1d (by rw[Hp.znew_n];omega) (fun k o h=>?_) (by simp[CV.weak,Hp.znew_n])
 by_cases hk:k=p.n
 ·subst hk
  rw[Hp.get_new_self]at h;cases h
  exact⟨by rw[Hp.znew_n];omega,.inr ⟨W1 0 [],by rw[Hp.get_new_self];rfl,Y0i fun j hj=>by simp[W1,Wv,X0d.cv,XObj.has,CV.has,CV.hasL]at hj⟩⟩
 ·rw[Hp.get_new_ne _ _ hk]at h
  have hd:=hF.dom _ _ h
  exact⟨by rw[Hp.znew_n];omega,.inl ⟨hd,h,by rw[Hp.get_new_ne _ _ hk];exact h⟩⟩
def R159: Rel:=fun args p r=>∃(s:Lst Int),args=[s.cv Y8]/\(s.tl≠.view)/\(s.l.length<=140737488355328)/\r=.ret (Lst.cv Y8 (cloneP s)) p
theorem t159{T:XCall}(h:Has T 159 R159)(s:Lst Int){p:Hp}(h1:s.tl≠.view)(h2:s.l.length<=140737488355328): T 159 [s.cv Y8] p=.ret (Lst.cv Y8 (cloneP s)) p:=h _ _ _ ⟨s,rfl,h1,h2,rfl⟩
theorem zq159{A B:Prop}(k:B)(h:A=B:=by have zy:=zA @zw159<|zA @rs159<|zA @tt68<|zA ti68.eq_1<|zA @zsl68<|zA @h1<|@h2;exact zQ): A:=h▸k
theorem c159: Con C 159 R159:=by
 refine V0e C ?_ ?_ ?_
 ·rintro args p r r' ⟨s,h,h1,h2,e⟩ ⟨s',h',h1',h2',e'⟩
  subst e;subst e';simp_all[X0h]
 ·rintro args p r ⟨s,h,h1,h2,rfl⟩;exact zr1
 rintro args p r ⟨s,rfl,h1,h2,rfl⟩
 refine zW C false [] zT rfl xf159 zc159_ok fun call zh hF=>?_
 clear zh
 obtain⟨tl,l,o⟩:=s
 simp only at h2 h1
 cases tl with
 |view=>exact absurd rfl h1
 |nil=>
  have:=o rfl
  subst this
  (have zx:=zT;refine zq159 ?_;try exact zT)
  repeat'(apply zK.s<;>intro hc<;>(try simp only[zhd]at hc)<;>(try have hw:=K0a hc)<;>(refine zq159 ?_;try exact zT))
  all_goals(try clear zx)
  exact K0d hF zle (X09 Z00 ⟨.nil,[],o⟩ 0 _)
 |_=>
  cases l with
  |nil=>
   (have zx:=zT;refine zq159 ?_;try exact zT)
   repeat'(apply zK.s<;>intro hc<;>(try simp only[zhd]at hc)<;>(try have hw:=K0a hc)<;>(refine zq159 ?_;try exact zT))
   all_goals(try clear zx)
   exact K0d hF zle (V0f (Z0c (by intro jj;simp[Lst.cv,cloneP,CV.has,CV.hasL])))
  |cons x l=>
   simp only[List.length_cons]at h2
   (have zx:=zT;refine zq159 ?_;try exact zT)
   repeat'(apply zK.s<;>intro hc<;>(try simp only[zhd]at hc)<;>(try have hw:=K0a hc)<;>(refine zq159 ?_;try exact zT))
   all_goals(try clear zx)
   exact K0d hF zle (X09 Z00 ⟨.exact,x::l,nofun⟩ _ _)
def R159x: Rel:=fun args p r=>R159 args p r\/RFrz R159 args p r
theorem c159x: Con C 159 R159x:=con_or C c159 (con_frz C c159) (by
 rintro args p r r' ⟨s,rfl,_⟩ ⟨a,j,sh,l,sz,e,_⟩
 have:=congrArg List.getLast? e
 simp[Lst.cv]at this)
theorem t159x{T:XCall}(h:Has T 159 R159x): (∀(s:Lst Int) {p:Hp},s.tl≠.view->s.l.length<=140737488355328->T 159 [s.cv Y8] p=.ret (Lst.cv Y8 (cloneP s)) p) /\
  ∀(B:List Int) (j:Nat) {p:Hp},B≠[]->B.length<=140737488355328->p.t.get j=some (.var (.n (List.replicate B.length .s)) (.agg (B.map Y8)))->T 159 [.slc j [] 0 B.length] p=.ret (Lst.cv Y8 (partB B)) (p.set j none):=by
 refine⟨fun s p h1 h2=>h _ _ _ (.inl ⟨s,rfl,h1,h2,rfl⟩),fun B j p hne h1 hg=>h _ _ _ (.inr ⟨[],j,_,B.map Y8,1,?_,hg,fun x hx=>?_,⟨⟨.part,B,nofun⟩,rfl,by simp,h1,?_⟩⟩)⟩
 ·rw[List.length_map];rfl
 ·obtain⟨y,_,rfl⟩:=List.mem_map.1 hx;rfl
 ·cases B with
  |nil=>exact absurd rfl hne
  |cons b B=>rfl
def R91: Rel:=fun args p r=>∃(i j:Nat) (l:List Bool),args=[.ptr i []]/\(p.t.get i=some (W1 j l))/\(W2 i j l p)/\(l.length<=1000000)/\(l≠[])/\r=.ret (Lst.cv Y8 (partB (packB l))) (p.set j none)
theorem t91{T:XCall}(h:Has T 91 R91)(i j:Nat)(l:List Bool){p:Hp}(h1:p.t.get i=some (W1 j l))(h2:W2 i j l p)(h3:l.length<=1000000)(h4:l≠[]): T 91 [.ptr i []] p=.ret (Lst.cv Y8 (partB (packB l))) (p.set j none):=h _ _ _ ⟨i,j,l,rfl,h1,h2,h3,h4,rfl⟩
theorem zq91{A B:Prop}(k:B)(h:A=B:=by have zy:=zA @zw91<|zA @rs91<|zA @tt68<|zA @tt203<|zA ti68.eq_1<|zA ti203.eq_1<|zA @t_159x<|zA @Q0r<|zA @zsl68<|zA @h1<|zA @h2<|zA @h3<|@h4;exact zQ): A:=h▸k
theorem c91: Con C 91 R91:=by
 refine V0e C ?_ ?_ ?_
 ·rintro args p r r' ⟨i,j,l,h,h1,h2,h3,h4,e⟩ ⟨i',j',l',h',h1',h2',h3',h4',e'⟩
  subst e;subst e';(subst h;simp only[List.cons.injEq,CV.ptr.injEq,and_true,true_and]at h';subst h';have hu:=W_uniq h1 h2 h1' h2';obtain⟨e1,e2⟩:=hu;subst e1;rw[e2 h4])
 ·rintro args p r ⟨i,j,l,h,h1,h2,h3,h4,rfl⟩;exact zr1
 rintro args p r ⟨i,j,l,rfl,h1,h2,h3,h4,rfl⟩
 refine zW C false [(159,R159x)] ⟨c159x,zT⟩ rfl xf91 zc91_ok fun call zh hF=>?_
 have t_159x:=@t159x _ zh.1
 clear zh
 have hd_h1:=hF.dom _ _ h1
 have k1:=h1
 have hi:=hF.dom _ _ h1
 have g2:=(h2.resolve_left h4).2
 have hji:=(h2.resolve_left h4).1
 have hpk:=V0i l
 have hpl:packB l≠[]:=fun e=>h4 (packB_nil.1 e)
 unfold Wrow at g2
 have hWv:Wv j l=.slc j [] 0 (packB l).length:=if_neg h4
 replace h1:p.t.get i=some (.var sh203 (X0d.mk (.slc j [] 0 (packB l).length) (slc_sh _ _ _ _) l.length).cv):=by rw[h1];simp only[W1,hWv]
 have t2:=t_159x.2 (packB l) j (p:=p) hpl (by omega) g2
 (have zx:=zA t2 h1;refine zq91 ?_;try exact zT)
 repeat'(apply zK.s<;>intro hc<;>(try simp only[zhd]at hc)<;>(try have hw:=K0a hc)<;>(refine zq91 ?_;try exact zT))
 all_goals(try clear zx)
 refine K1d (Nat.le_refl _) (fun k o h=>?_) (V0f (Z0c (fun jj hj=>by have:=(Lst.has _ Z00 (partB (packB l)) jj).1 hj;cases this)))
 by_cases hk:k=j
 ·subst hk;rw[Hp.get_set_self]at h;cases h
 ·have h':=h
  rw[Hp.get_set_ne _ _ _ hk]at h'
  exact⟨hF.dom _ _ h',.inl ⟨hF.dom _ _ h',h',h⟩⟩
theorem wHp_n0{i j:Nat}{m:List Bool}{p:Hp}{k:Nat}(h1:k≠i)(h3:k≠p.n): (wHp i j [] m p).t.get k=p.t.get k:=wHp_ne h1 (.inl rfl) h3
theorem sl64(p:Hp)(a:Nat)(s:V0a)(n:Int)(hg:p.t.get a=some (.var sh66 s.cv))(hn:0<=n/\n<=8): qslice C p.h 64 (.ptr a [3]) none (some (I n)) none=some (.slc a [3] 0 n.toNat):=by
 have ht:tgt p.h (.ptr a [3])=some (.agg (s.Score.map I)):=by
  simp only[tgt,Hp.h,hg,Option.map_some,XObj.obj];rfl
 have hs:CV.shape (.agg (s.Score.map I))=.n (List.replicate 8 sh3):=by
  simp only[CV.shape,Z0h (f:=I) (s:=sh3) (fun _=>rfl),s.hScore]
 have hq:qbnd (some (I n)) 8 8=some n.toNat:=by simp only[qbnd];rw[if_pos (show 0<=n/\n<=((8:Nat):Int) by omega)]
 simp only[qslice,tt64,ti64,ht,hq,sh64]
 rw[if_pos hs]
theorem ix24(p:Hp)(a:Nat)(s:V0a)(n:Nat)(k:Int)(hg:p.t.get a=some (.var sh66 s.cv))(hn:n<=8)(hk:0<=k/\k<n): qindexAddr C p.h 24 (.slc a [3] 0 n) (I k)=some (.ptr a [3,k.toNat]):=by
 have ht:tgt p.h (.ptr a [3])=some (.agg (s.Score.map I)):=by
  simp only[tgt,Hp.h,hg,Option.map_some,XObj.obj];rfl
 have hs:CV.shape (.agg (s.Score.map I))=.n (List.replicate (s.Score.map I).length sh3):=by
  simp only[CV.shape,Z0h (f:=I) (s:=sh3) (fun _=>rfl),List.length_map]
 simp only[qindexAddr,tt24,ti24,tt3,ti3,ht]
 rw[if_pos ⟨hs,hk⟩]
 simp
def J33(c:X0a)(s:V0a)(i:Nat)(p:Hp)(n:Nat)(ρ:Env)(q:Hp): Prop:=
 ∃(k J:Nat),n=16-k/\k<=16/\ρ 2=.ptr p.n []/\ρ 3=.ptr (p.n+1) []/\ρ 6=.ptr i []/\ρ 26=.agg (s.Bodies.map Q0a.cv)/\ρ 27=I k/\q.t.get p.n=some (.var sh61 c.cv)/\q.t.get (p.n+1)=some (.var sh66 s.cv)/\q.t.get i=some (W1 J (bitsOf s.Frame 10++bitsOf s.Dice 64++(s.Bodies.take k).flatMap bodyBits))/\q.t.get J=some (Wrow (packB (bitsOf s.Frame 10++bitsOf s.Dice 64++(s.Bodies.take k).flatMap bodyBits)))/\p.n+1<i/\i<J/\J<q.n/\HpLe p q
def L33(c:X0a)(s:V0a)(i:Nat)(p:Hp)(n:Nat)(ρ:Env)(q:Hp): Prop:=
 ∃(k J:Nat),n=c.Players.toNat-k/\k<=c.Players.toNat/\ρ 3=.ptr (p.n+1) []/\ρ 6=.ptr i []/\ρ 37=.slc (p.n+1) [3] 0 c.Players.toNat/\ρ 38=I c.Players.toNat/\ρ 39=I k/\q.t.get (p.n+1)=some (.var sh66 s.cv)/\q.t.get i=some (W1 J (bitsOf s.Frame 10++bitsOf s.Dice 64++s.Bodies.flatMap bodyBits++((s.Score.take c.Players.toNat).take k).flatMap (bitsOf · 31)))/\q.t.get J=some (Wrow (packB (bitsOf s.Frame 10++bitsOf s.Dice 64++s.Bodies.flatMap bodyBits++((s.Score.take c.Players.toNat).take k).flatMap (bitsOf · 31))))/\p.n+1<i/\i<J/\J<q.n/\HpLe p q
def R33: Rel:=fun args p r=>∃(c:X0a) (s:V0a),args=[c.cv,s.cv]/\(c.Tokens.l.length<=1000000)/\(c.Rules.l.length<=1000000)/\r=if stateRight c s=true then .ret (.tup [Lst.cv Y8 (partB (layS c s)),I 0]) p else .ret (.tup [Lst.cv Y8 nilB,I 1]) p
theorem t33{T:XCall}(h:Has T 33 R33)(c:X0a)(s:V0a){p:Hp}(hl:c.Tokens.l.length<=1000000)(hr:c.Rules.l.length<=1000000): T 33 [c.cv,s.cv] p=if stateRight c s=true then .ret (.tup [Lst.cv Y8 (partB (layS c s)),I 0]) p else .ret (.tup [Lst.cv Y8 nilB,I 1]) p:=h _ _ _ ⟨c,s,rfl,hl,hr,rfl⟩
theorem zdis33{P:Prop}(h:P:=by first|exact zdis|(exact zdw1)|(exact zdw)|(exact W2_nil _ _ _)|(refine W2_in ?_ ?_<;>exact zdw)|(simp only[Hp.bump_n,Hp.znew_n,Hp.zset_n,List.length_nil,List.length_cons,List.length_append,List.length_map,Y0e];(first|done|omega))|(simp (disch:=first|exact zd1|(simp only[Hp.bump_n,Hp.znew_n,Hp.zset_n,List.length_nil,List.length_cons,List.length_append,List.length_map,Y0e];(first|done|omega))) only[zheap,zx];(first|done|rfl))|fail): P:=h
theorem zq33{A B:Prop}(k:B)(h:A=B:=by have zy:=zA @zw33<|zA @rs33<|zA @tt3<|zA @tt24<|zA @tt25<|zA @tt34<|zA @tt61<|zA @tt63<|zA @tt64<|zA @tt66<|zA ti3.eq_1<|zA ti24.eq_1<|zA ti25.eq_1<|zA ti34.eq_1<|zA ti61.eq_1<|zA ti63.eq_1<|zA ti64.eq_1<|zA ti66.eq_1<|zA @t_44<|zA @t_88<|zA @t_89<|zA @t_90<|zA @t_91<|zA @Z0e<|zA @X0f<|zA @Q0f<|zA @zsl24<|zA @zsl63<|zA @zsl64<|zA @V01<|zA @wHp_i<|zA @Q1x<|zA @wHp_n0<|zA @V0w<|zA @wHp_n<|zA @sl64<|zA @ix24<|zA @hl<|@hr;have zd:=@zdis33;exact zQd): A:=h▸k
theorem c33: Con C 33 R33:=by
 refine V0e C ?_ ?_ ?_
 ·rintro args p r r' ⟨c,s,h,hl,hr,e⟩ ⟨c',s',h',hl',hr',e'⟩
  subst e;subst e';simp_all[X0a.inj_iff,V0a.inj_iff,Q0a.inj_iff,K0s]
 ·rintro args p r ⟨c,s,h,hl,hr,rfl⟩;exact zr1
 rintro args p r ⟨c,s,rfl,hl,hr,rfl⟩
 refine zW C false [(44,R44),(88,R88),(89,R89),(90,R90),(91,R91)] ⟨c44,c88,c89,c90,c91,zT⟩ rfl xf33 zc33_ok fun call zh hF=>?_
 have t_44:=@t44 _ zh.1
 have t_88:=@t88 _ zh.2.1
 have t_89:=@t89 _ zh.2.2.1
 have t_90:=@t90 _ zh.2.2.2.1
 have t_91:=@t91 _ zh.2.2.2.2.1
 clear zh
 have hb:=s.hBodies
 have hsc:=s.hScore
 cases hR:stateRight c s with
 |false=>
  (have zx:=hR;refine zq33 ?_;try exact zT)
  repeat'(apply zK.s<;>intro hc<;>(try simp only[zhd]at hc)<;>(try have hw:=K0a hc)<;>(refine zq33 ?_;try exact zT))
  all_goals(try clear zx)
  exact K0d hF zle (V0f (Z0c (by intro jj;simp[CV.has,CV.hasL,Lst.cv,nilB])))
 |true=>
  have hP:=(Z0i (Q0i hR).2.2.1).1
  have hPn:((c.Players.toNat:Nat):Int)=c.Players:=by omega
  rw[if_pos rfl]
  have hn0:readersN c=c.Players.toNat:=by unfold readersN;omega
  have hlb:∀k,((s.Bodies.take k).flatMap bodyBits).length<=2480:=fun k=>by
   rw[Y02]
   have:=Z02 (s.Bodies.take k)
   rw[List.length_take]at this;omega
  have hls:∀k,(((s.Score.take c.Players.toNat).take k).flatMap (bitsOf · 31)).length<=248:=fun k=>by
   rw[Q0y _ 31 _ fun x _=>Y0e x 31,List.length_take,List.length_take];omega
  (have zx:=hR;refine zq33 ?_;try exact zT)
  repeat'(apply zK.s<;>intro hc<;>(try simp only[zhd]at hc)<;>(try have hw:=K0a hc)<;>(refine zq33 ?_;try exact zT))
  all_goals(try clear zx)
  (show W C false noExt call (ZC.loop V18) _ _ _);refine Y0g C false noExt call V18 _ _ _ (J33 c s (p.n+1+1) p) 16 ⟨0,p.n+1+1+1+1,rfl,by omega,zev,zev,zev,zev,zev,by simp (disch:=first|exact zdw1|fail) only[zheap,wHp_n0,V0w],by simp (disch:=first|exact zdw1|fail) only[zheap,wHp_n0,V0w],by rw[List.take_zero,List.flatMap_nil,List.append_nil];simp (disch:=first|exact zdw1|fail) only[zheap,wHp_i,wHp_n],by rw[List.take_zero,List.flatMap_nil,List.append_nil];simp (disch:=first|exact zdw1|fail) only[zheap,Q1x,wHp_n],by omega,by omega,zdw1,fun k o h=>by have hd:=hF.dom k o h;simp (disch:=first|exact zdw1|fail) only[zheap,wHp_n0,V0w];exact h⟩ ?_
  rintro n ρ q ⟨k,J,rfl,hk,e2,e3,e6,e26,e27,g1,g2,g3,g4,hia,hiJ,hJq,hle⟩
  have hlk:=hlb k
  by_cases hlt:(k:Int)<16
  ·have hft:=K0l bodyBits s.Bodies (k:=k) (by omega)
   (have zx:=zA e2 (zA e3 (zA e6 (zA e26 (zA e27 (zA g1 (zA g2 (zA g3 (zA g4 hlt))))))));refine zq33 ?_;try exact zT)
   repeat'(apply zK.s<;>intro hc<;>(try simp only[zhd]at hc)<;>(try have hw:=K0a hc)<;>(refine zq33 ?_;try exact zT))
   all_goals(try clear zx)
   refine⟨16-(k+1),by omega,k+1,q.n+1,rfl,by omega,zev,zev,zev,zev,zev,by simp (disch:=first|exact zdw1|fail) only[zheap,V0w,g1],by simp (disch:=first|exact zdw1|fail) only[zheap,V0w,g2],?_,?_,by omega,by omega,zdw1,fun a o h=>by have hd:=hF.dom a o h;simp (disch:=first|exact zdw1|fail) only[zheap,V0w];exact hle a o h⟩
   ·rw[hft,<- List.append_assoc];simp (disch:=first|exact zdw1|fail) only[zheap,wHp_i,wHp_n]
   ·rw[hft,<- List.append_assoc];simp (disch:=first|exact zdw1|fail) only[zheap,Q1x,wHp_n]
  ·have hk16:k=16:=by omega
   subst hk16
   rw[List.take_of_length_le (by omega)]at g3 g4 hlk
   (have zx:=zA e2 (zA e3 (zA e6 (zA e26 (zA e27 (zA g1 (zA g2 (zA g3 (zA g4 hlt))))))));refine zq33 ?_;try exact zT)
   repeat'(apply zK.s<;>intro hc<;>(try simp only[zhd]at hc)<;>(try have hw:=K0a hc)<;>(refine zq33 ?_;try exact zT))
   all_goals(try clear zx)
   (show W C false noExt call (ZC.loop Y16) _ _ _);refine Y0g C false noExt call Y16 _ _ _ (L33 c s (p.n+1+1) p) c.Players.toNat ⟨0,J,rfl,by omega,zev,zev,zev,zev,zev,g2,by rw[List.take_zero,List.flatMap_nil,List.append_nil];exact g3,by rw[List.take_zero,List.flatMap_nil,List.append_nil];exact g4,hia,hiJ,hJq,hle⟩ ?_
   clear e2 e3 e6 e26 e27 g1 g2 g3 g4 hia hiJ hJq hle hlt
   rintro n ρ q ⟨k,J,rfl,hk,e3,e6,e37,e38,e39,g2,g3,g4,hia,hiJ,hJq,hle⟩
   have htl:(s.Score.take c.Players.toNat).length=c.Players.toNat:=by rw[List.length_take];omega
   have hlk2:=hls k
   by_cases hlt:k<c.Players.toNat
   ·have hft:=K0l (bitsOf · 31) (s.Score.take c.Players.toNat) (k:=k) (by omega)
    have hnt:nth (s.Score.take c.Players.toNat) k=nth s.Score k:=by rw[X0i (by omega),X0i (by omega),List.getElem_take]
    rw[hnt]at hft
    have hlt2:(k:Int)<(c.Players.toNat:Int):=by omega
    (have zx:=zA e3 (zA e6 (zA e37 (zA e38 (zA e39 (zA g2 (zA g3 (zA g4 hlt2)))))));refine zq33 ?_;try exact zT)
    repeat'(apply zK.s<;>intro hc<;>(try simp only[zhd]at hc)<;>(try have hw:=K0a hc)<;>(refine zq33 ?_;try exact zT))
    all_goals(try clear zx)
    refine⟨c.Players.toNat-(k+1),by omega,k+1,q.n,rfl,by omega,zev,zev,zev,zev,zev,by simp (disch:=first|exact zdw1|fail) only[zheap,V0w,g2],?_,?_,by omega,by omega,zdw1,fun a o h=>by have hd:=hF.dom a o h;simp (disch:=first|exact zdw1|fail) only[zheap,V0w];exact hle a o h⟩
    ·rw[hft,<- List.append_assoc];simp (disch:=first|exact zdw1|fail) only[zheap,wHp_i,wHp_n]
    ·rw[hft,<- List.append_assoc];simp (disch:=first|exact zdw1|fail) only[zheap,Q1x,wHp_n]
   ·have hkP:k=c.Players.toNat:=by omega
    rw[hkP,List.take_of_length_le (by omega)]at g3 g4 hlk2
    have hlt2:¬(k:Int)<(c.Players.toNat:Int):=by omega
    have hne:bitsOf s.Frame 10++bitsOf s.Dice 64++s.Bodies.flatMap bodyBits++(s.Score.take c.Players.toNat).flatMap (bitsOf · 31)≠[]:=by
     intro e
     have:=congrArg List.length e
     rw[List.length_append,List.length_append,List.length_append,Y0e,List.length_nil]at this
     omega
    have hst:stateBits c s=bitsOf s.Frame 10++bitsOf s.Dice 64++s.Bodies.flatMap bodyBits++(s.Score.take c.Players.toNat).flatMap (bitsOf · 31):=by simp only[stateBits,List.append_assoc]
    (have zx:=zA e3 (zA e6 (zA e37 (zA e38 (zA e39 (zA g2 (zA g3 (zA g4 hlt2)))))));refine zq33 ?_;try exact zT)
    repeat'(apply zK.s<;>intro hc<;>(try simp only[zhd]at hc)<;>(try have hw:=K0a hc)<;>(refine zq33 ?_;try exact zT))
    all_goals(try clear zx)
    unfold layS
    rw[hst]
    refine K0d hF (fun a o h=>?_) (V0f (Z0c (by intro jj;simp[CV.has,CV.hasL,Lst.cv,partB,X0m Z00])))
    have hd:=hF.dom a o h
    rw[Hp.get_set_ne _ _ _ (by omega)]
    exact hle a o h
def rdr(B:Lst Int)(a:Nat): XObj:=.var sh208 (Q0d.mk B a).cv
theorem rdr_inj{B B':Lst Int}{a a':Nat}(h:rdr B a=rdr B' a'): B=B'/\a=a':=by
 simp only[rdr,XObj.var.injEq,Q0d.inj_iff,Q0d.mk.injEq,true_and]at h
 exact⟨h.1,by omega⟩
theorem V1q{p:Hp}{i:Nat}{B B':Lst Int}{a a':Nat}(h:p.t.get i=some (rdr B a))(h':p.t.get i=some (rdr B' a')): B=B'/\a=a':=rdr_inj (by rw[h]at h';exact Option.some.inj h')
theorem wrap_b2i(b:Bool): IntKind.u64.wrap (b2i b)=b2i b:=by cases b<;>rfl
theorem shr_newo{args:List CV}{p:Hp}(hF:Fine args p)(o:XObj)(ho:∀j,¬o.has j): ShrR p (.ret (.ptr p.n []) (p.new o)) (.ret (.ptr p.n []) (p.new o)):=by
 refine K1d (by rw[Hp.znew_n];omega) (fun k o' h=>?_) (by simp[CV.weak,Hp.znew_n])
 by_cases hk:k=p.n
 ·subst hk
  rw[Hp.get_new_self]at h;cases h
  exact⟨by rw[Hp.znew_n];omega,.inr ⟨o,Hp.get_new_self _ _,Y0i fun j hj=>(ho j hj).elim⟩⟩
 ·rw[Hp.get_new_ne _ _ hk]at h
  have hd:=hF.dom _ _ h
  exact⟨by rw[Hp.znew_n];omega,.inl ⟨hd,h,by rw[Hp.get_new_ne _ _ hk];exact h⟩⟩
theorem rdr_has{s:Lst Int}(h:∀j,s.tl≠.own j)(a j:Nat): ¬(rdr s a).has j:=fun hj=>by
 simp only[rdr,XObj.has,Q0d.has]at hj
 exact h j hj
def R95: Rel:=fun args p r=>∃(s:Lst Int),args=[s.cv Y8]/\(s.tl≠.view)/\(s.l.length<=140737488355328)/\r=.ret (.ptr p.n []) (p.new (rdr (cloneP s) 0))
theorem t95{T:XCall}(h:Has T 95 R95)(s:Lst Int){p:Hp}(h1:s.tl≠.view)(h2:s.l.length<=140737488355328): T 95 [s.cv Y8] p=.ret (.ptr p.n []) (p.new (rdr (cloneP s) 0)):=h _ _ _ ⟨s,rfl,h1,h2,rfl⟩
theorem zq95{A B:Prop}(k:B)(h:A=B:=by have zy:=zA @zw95<|zA @rs95<|zA @tt208<|zA ti208.eq_1<|zA @t_159<|zA @Q0o<|zA @h1<|@h2;exact zQ): A:=h▸k
theorem c95: Con C 95 R95:=by
 refine V0e C ?_ ?_ ?_
 ·rintro args p r r' ⟨s,h,h1,h2,e⟩ ⟨s',h',h1',h2',e'⟩
  subst e;subst e';simp_all[Q0d.inj_iff,X0h]
 ·rintro args p r ⟨s,h,h1,h2,rfl⟩;exact zr1
 rintro args p r ⟨s,rfl,h1,h2,rfl⟩
 refine zW C false [(159,R159)] ⟨c159,zT⟩ rfl xf95 zc95_ok fun call zh hF=>?_
 have t_159:=@t159 _ zh.1
 clear zh
 (have zx:=zT;refine zq95 ?_;try exact zT)
 repeat'(apply zK.s<;>intro hc<;>(try simp only[zhd]at hc)<;>(try have hw:=K0a hc)<;>(refine zq95 ?_;try exact zT))
 all_goals(try clear zx)
 exact shr_newo hF (rdr (cloneP s) 0) (rdr_has (cloneP_no s) 0)
def R189: Rel:=fun args p r=>∃(i:Nat) (B:Lst Int) (a:Nat),args=[.ptr i []]/\(p.t.get i=some (rdr B a))/\(B.l.length<=140737488355328)/\(a<=8*B.l.length)/\r=.ret (I (8*B.l.length-a)) p
theorem t189{T:XCall}(h:Has T 189 R189)(i:Nat)(B:Lst Int)(a:Nat){p:Hp}(h1:p.t.get i=some (rdr B a))(h2:B.l.length<=140737488355328)(h3:a<=8*B.l.length): T 189 [.ptr i []] p=.ret (I (8*B.l.length-a)) p:=h _ _ _ ⟨i,B,a,rfl,h1,h2,h3,rfl⟩
theorem zq189{A B:Prop}(k:B)(h:A=B:=by have zy:=zA @zw189<|zA @rs189<|zA @tt3<|zA @tt68<|zA @tt208<|zA ti3.eq_1<|zA ti68.eq_1<|zA ti208.eq_1<|zA @Q0o<|zA @zsl68<|zA @h1<|zA @h2<|@h3;exact zQ): A:=h▸k
theorem zno189{P:Prop}(h:P:=by intro jj;simp[CV.has,CV.hasL,fault,K0b.nohas]): P:=h
theorem c189: Con C 189 R189:=by
 refine V0e C ?_ ?_ ?_
 ·rintro args p r r' ⟨i,B,a,h,h1,h2,h3,e⟩ ⟨i',B',a',h',h1',h2',h3',e'⟩
  subst e;subst e';(subst h;simp only[List.cons.injEq,CV.ptr.injEq,and_true,true_and]at h';subst h';obtain⟨e1,e2⟩:=V1q h1 h1';rw[e1,e2])
 ·rintro args p r ⟨i,B,a,h,h1,h2,h3,rfl⟩;exact zr1
 rintro args p r ⟨i,B,a,rfl,h1,h2,h3,rfl⟩
 refine zW C false [] zT rfl xf189 zc189_ok fun call zh hF=>?_
 clear zh
 have hd_h1:=hF.dom _ _ h1
 have hi:=hF.dom _ _ h1
 replace h1:p.t.get i=some (.var sh208 (Q0d.mk B a).cv):=h1
 (have zx:=h1;refine zq189 ?_;try exact zT)
 repeat'(apply zK.s<;>intro hc<;>(try simp only[zhd]at hc)<;>(try have hw:=K0a hc)<;>(refine zq189 ?_;try exact zT))
 all_goals(try clear zx)
 exact K0d hF zle (Q0c rfl (Z0c zno189))
theorem valB_63(g:Nat->Bool)(a:Nat){k:Nat}(h:k<=63): 0<=valB g a k/\valB g a k<2^63:=by
 have hr:=Q0w g a k
 have h2:(2:Nat)^k<=2^63:=Nat.pow_le_pow_right (by omega) h
 have h3:(2:Int)^k<=2^63:=by exact_mod_cast h2
 omega
def J160(i:Nat)(B:Lst Int)(a:Nat)(N:Nat)(p:Hp)(n:Nat)(ρ:Env)(q:Hp): Prop:=
 ∃k:Nat,n=N-k/\k<=N/\ρ 0=.ptr i []/\ρ 5=U (valB (bitB B.l) a k)/\ρ 18=I N/\ρ 19=I k/\q.t.get i=some (.var sh208 (Q0d.mk B (a+k:Nat)).cv)/\p.n<=q.n/\∀j o,j≠i->p.t.get j=some o->q.t.get j=some o
def R160: Rel:=fun args p r=>∃(i:Nat) (B:Lst Int) (a:Nat) (n:Int),args=[.ptr i [],I n]/\(p.t.get i=some (rdr B a))/\(B.l.length<=140737488355328)/\(a<=8*B.l.length)/\(1<=n/\n<=64)/\(∀x∈B.l,0<=x/\x<=255)/\r=if a+n.toNat<=8*B.l.length then .ret (U (valB (bitB B.l) a n.toNat)) (p.set i (some (rdr B (a+n.toNat))))else .pan (fault 100 a) (p.set i none)
theorem t160{T:XCall}(h:Has T 160 R160)(i:Nat)(B:Lst Int)(a:Nat)(n:Int){p:Hp}(h1:p.t.get i=some (rdr B a))(h2:B.l.length<=140737488355328)(h3:a<=8*B.l.length)(h4:1<=n/\n<=64)(h5:∀x∈B.l,0<=x/\x<=255): T 160 [.ptr i [],I n] p=if a+n.toNat<=8*B.l.length then .ret (U (valB (bitB B.l) a n.toNat)) (p.set i (some (rdr B (a+n.toNat))))else .pan (fault 100 a) (p.set i none):=h _ _ _ ⟨i,B,a,n,rfl,h1,h2,h3,h4,h5,rfl⟩
theorem zq160{A B:Prop}(k:B)(h:A=B:=by have zy:=zA @zw160<|zA @rs160<|zA @tt3<|zA @tt5<|zA @tt25<|zA @tt68<|zA @tt178<|zA @tt208<|zA ti3.eq_1<|zA ti5.eq_1<|zA ti25.eq_1<|zA ti68.eq_1<|zA ti178.eq_1<|zA ti208.eq_1<|zA @t_156<|zA @t_181<|zA @t_189<|zA @Q0o<|zA @zsl68<|zA @wrap_b2i<|zA @h1<|zA @h2<|zA @h3<|zA @h4<|@h5;exact zQ): A:=h▸k
theorem c160: Con C 160 R160:=by
 refine V0e C ?_ ?_ ?_
 ·rintro args p r r' ⟨i,B,a,n,h,h1,h2,h3,h4,h5,e⟩ ⟨i',B',a',n',h',h1',h2',h3',h4',h5',e'⟩
  subst e;subst e';(subst h;simp only[List.cons.injEq,CV.ptr.injEq,CV.sc.injEq,Value.int.injEq,and_true,true_and]at h';obtain⟨e0,e3⟩:=h';subst e0;subst e3;obtain⟨e1,e2⟩:=V1q h1 h1';rw[e1,e2])
 ·rintro args p r ⟨i,B,a,n,h,h1,h2,h3,h4,h5,rfl⟩;exact zr1
 rintro args p r ⟨i,B,a,n,rfl,h1,h2,h3,h4,h5,rfl⟩
 refine zW C false [(156,R156),(181,R181),(189,R189)] ⟨c156,c181,c189,zT⟩ rfl xf160 zc160_ok fun call zh hF=>?_
 have t_156:=@t156 _ zh.1
 have t_181:=@t181 _ zh.2.1
 have t_189:=@t189 _ zh.2.2.1
 clear zh
 have hd_h1:=hF.dom _ _ h1
 have hi:=hF.dom _ _ h1
 have k1:=h1
 obtain⟨N,rfl⟩:=Int.eq_ofNat_of_zero_le (show 0<=n by omega)
 have hmm:max 0 (min (N:Int) 64)=N:=by omega
 replace h1:p.t.get i=some (.var sh208 (Q0d.mk B a).cv):=h1
 by_cases hroom:a+N<=8*B.l.length
 ·have hr2:(N:Int)<=8*B.l.length-a:=by omega
  (have zx:=zA hmm (zA hr2 h1);refine zq160 ?_;try exact zT)
  repeat'(apply zK.s<;>intro hc<;>(try simp only[zhd]at hc)<;>(try have hw:=K0a hc)<;>(refine zq160 ?_;try exact zT))
  all_goals(try clear zx)
  (show W C false noExt call (ZC.loop X1g) _ _ _);refine Y0g C false noExt call X1g _ _ _ (J160 i B a N p) N ⟨0,rfl,by omega,by simp[put_at,K0c,K0e],by simp[put_at,K0c,valB],zev,zev,by rw[Hp.bump_get];exact h1,by rw[Hp.bump_n];omega,fun j o _ h=>by rw[Hp.bump_get];exact h⟩ ?_
  rintro n ρ q ⟨k,rfl,hk,e0,e5,e18,e19,g1,hn,hle⟩
  by_cases hlt:(k:Int)<N
  ·have ht:(((a+k:Nat)):Int).tmod 8=(((a+k) % 8:Nat):Int):=by rw[Int.tmod_eq_emod_of_nonneg (by omega)];omega
   have hd:(((a+k:Nat)):Int).tdiv 8=(((a+k)/8:Nat):Int):=by rw[Int.tdiv_eq_ediv_of_nonneg (by omega)];omega
   have hix:(a+k)/8<B.l.length:=by omega
   have hy:=h5 (nth B.l ((a+k)/8)) (by rw[X0i hix];exact List.getElem_mem _)
   have hb8:=bit8_eq hy (show(a+k) % 8<8 by omega)
   unfold bit8 at hb8
   rw[show bitAt (nth B.l ((a+k)/8)) (7-(a+k) % 8)=bitB B.l (a+k) from rfl]at hb8
   have hsh:=shl1_eq (valB_63 (bitB B.l) a (k:=k) (by omega)) (bitB B.l (a+k))
   unfold shl1 at hsh
   replace hsh:IntKind.u64.wrap (BitVec.ofInt IntKind.u64.bits (IntKind.u64.wrap (valB (bitB B.l) a k*2^min 1 IntKind.u64.bits)) ||| BitVec.ofInt IntKind.u64.bits (b2i (bitB B.l (a+k)))).toNat=2*valB (bitB B.l) a k+b2i (bitB B.l (a+k)):=hsh
   have hv:valB (bitB B.l) a (k+1)=2*valB (bitB B.l) a k+b2i (bitB B.l (a+k)):=rfl
   (have zx:=zA e0 (zA e5 (zA e18 (zA e19 (zA g1 (zA hlt (zA ht (zA hd (zA hb8 (zA hsh h1)))))))));refine zq160 ?_;try exact zT)
   repeat'(apply zK.s<;>intro hc<;>(try simp only[zhd]at hc)<;>(try have hw:=K0a hc)<;>(refine zq160 ?_;try exact zT))
   all_goals(try clear zx)
   refine⟨N-(k+1),by omega,k+1,rfl,by omega,zev,by rw[hv];simp[put_at,K0c],zev,zev,?_,by simp only[Hp.bump_n,Hp.zset_n];omega,fun j o hj h=>?_⟩
   ·rw[Hp.get_set_self,show((a+(k+1):Nat):Int)=((a+k:Nat):Int)+1 by omega]
   ·rw[Hp.get_set_ne _ _ _ hj,Hp.bump_get];exact hle j o hj h
  ·have hkN:k=N:=by omega
   (have zx:=zA e0 (zA e5 (zA e18 (zA e19 (zA g1 (zA hlt h1)))));refine zq160 ?_;try exact zT)
   repeat'(apply zK.s<;>intro hc<;>(try simp only[zhd]at hc)<;>(try have hw:=K0a hc)<;>(refine zq160 ?_;try exact zT))
   all_goals(try clear zx)
   rw[if_pos hroom]
   subst hkN
   exact Q0u hF hi hle ⟨_,g1,Y0i fun j hj=>hF.lt_obj (.arg (a:=CV.ptr i []) (by simp) rfl) k1 j hj⟩ (V0f (Z0c (fun j hj=>by simp[CV.has]at hj)))
 ·have hr2:¬(N:Int)<=8*B.l.length-a:=by omega
  (have zx:=zA hmm (zA hr2 h1);refine zq160 ?_;try exact zT)
  repeat'(apply zK.s<;>intro hc<;>(try simp only[zhd]at hc)<;>(try have hw:=K0a hc)<;>(refine zq160 ?_;try exact zT))
  all_goals(try clear zx)
  rw[if_neg hroom]
  exact shr_dropP hF (fun j o hj h=>by rw[Hp.bump_get];exact h) (V0f (Z0c (by intro jj;simp[CV.has,fault,K0b.nohas])))
theorem Q15(c a:Int)(j:Nat): ¬(fault c a).has j:=by simp[CV.has,fault,K0b.nohas]
theorem shr_rd{args:List CV}{p:Hp}{i a a':Nat}{B:Lst Int}(hF:Fine args p)(h1:p.t.get i=some (rdr B a))(ha:∀j,(CV.ptr i []).has j->∃x∈args,x.has j){q:Hp}(hg:q.t.get i=some (rdr B a'))(hle:∀k o,k≠i->p.t.get k=some o->q.t.get k=some o){v u:CV}(e:v=u)(hv:∀j,¬u.has j): ShrR p (.ret v q) (.ret u (p.set i (some (rdr B a')))):=by
 subst e
 have hi:=hF.dom _ _ h1
 obtain⟨x,hx,hj⟩:=ha i rfl
 refine Q0u hF hi hle ⟨_,hg,Y0i fun j hj'=>?_⟩ (V0f fun j hj=>absurd hj (hv j))
 exact hF.lt_obj (.arg hx hj) h1 j hj'
theorem Q0q{args:List CV}{p:Hp}{i:Nat}(hF:Fine args p){q:Hp}(hle:∀k o,k≠i->p.t.get k=some o->q.t.get k=some o)(c a:Int): ShrR p (.pan (fault c a) q) (.pan (fault c a) (p.set i none)):=
 shr_dropP hF (fun j o hj h=>hle j o hj h) (V0f (Z0c (Q15 c a)))
def R190: Rel:=fun args p r=>∃(i:Nat) (B:Lst Int) (a:Nat) (n:Int),args=[.ptr i [],I n]/\(p.t.get i=some (rdr B a))/\(B.l.length<=140737488355328)/\(a<=8*B.l.length)/\(1<=n/\n<=64)/\(∀x∈B.l,0<=x/\x<=255)/\r=if a+n.toNat<=8*B.l.length then .ret (I (sgnB (valB (bitB B.l) a n.toNat) n.toNat)) (p.set i (some (rdr B (a+n.toNat))))else .pan (fault 100 a) (p.set i none)
theorem t190{T:XCall}(h:Has T 190 R190)(i:Nat)(B:Lst Int)(a:Nat)(n:Int){p:Hp}(h1:p.t.get i=some (rdr B a))(h2:B.l.length<=140737488355328)(h3:a<=8*B.l.length)(h4:1<=n/\n<=64)(h5:∀x∈B.l,0<=x/\x<=255): T 190 [.ptr i [],I n] p=if a+n.toNat<=8*B.l.length then .ret (I (sgnB (valB (bitB B.l) a n.toNat) n.toNat)) (p.set i (some (rdr B (a+n.toNat))))else .pan (fault 100 a) (p.set i none):=h _ _ _ ⟨i,B,a,n,rfl,h1,h2,h3,h4,h5,rfl⟩
theorem zq190{A B:Prop}(k:B)(h:A=B:=by have zy:=zA @zw190<|zA @rs190<|zA @tt3<|zA @tt25<|zA ti3.eq_1<|zA ti25.eq_1<|zA @t_156<|zA @t_160<|zA @Q0o<|zA @h1<|zA @h2<|zA @h3<|zA @h4<|@h5;exact zQ): A:=h▸k
theorem c190: Con C 190 R190:=by
 refine V0e C ?_ ?_ ?_
 ·rintro args p r r' ⟨i,B,a,n,h,h1,h2,h3,h4,h5,e⟩ ⟨i',B',a',n',h',h1',h2',h3',h4',h5',e'⟩
  subst e;subst e';(subst h;simp only[List.cons.injEq,CV.ptr.injEq,CV.sc.injEq,Value.int.injEq,and_true,true_and]at h';obtain⟨e0,e3⟩:=h';subst e0;subst e3;obtain⟨e1,e2⟩:=V1q h1 h1';rw[e1,e2])
 ·rintro args p r ⟨i,B,a,n,h,h1,h2,h3,h4,h5,rfl⟩;exact zr1
 rintro args p r ⟨i,B,a,n,rfl,h1,h2,h3,h4,h5,rfl⟩
 refine zW C false [(156,R156),(160,R160)] ⟨c156,c160,zT⟩ rfl xf190 zc190_ok fun call zh hF=>?_
 have t_156:=@t156 _ zh.1
 have t_160:=@t160 _ zh.2.1
 clear zh
 have hd_h1:=hF.dom _ _ h1
 have hi:=hF.dom _ _ h1
 obtain⟨N,rfl⟩:=Int.eq_ofNat_of_zero_le (show 0<=n by omega)
 have hmm:max 0 (min (N:Int) 64)=N:=by omega
 have hN:1<=N/\N<=64:=by omega
 have hn0:¬(N:Int)=0:=by omega
 have h64:(64:Int)-N=((64-N:Nat):Int):=by omega
 have hsg:=sgn_of hN (Q0w (bitB B.l) a N)
 by_cases hroom:a+N<=8*B.l.length
 ·(have zx:=zA hmm (zA hn0 (zA h64 (zA hroom h1)));refine zq190 ?_;try exact zT)
  repeat'(apply zK.s<;>intro hc<;>(try simp only[zhd]at hc)<;>(try have hw:=K0a hc)<;>(refine zq190 ?_;try exact zT))
  all_goals(try clear zx)
  rw[show min (64-N) IntKind.u64.bits=64-N from Nat.min_eq_left (by show 64-N<=64;omega),show min (64-N) IntKind.i64.bits=64-N from Nat.min_eq_left (by show 64-N<=64;omega),hsg]
  exact shr_rd hF h1 (fun j hj=>⟨_,by simp,hj⟩) (Hp.get_set_self _ _ _) (fun k o hk h=>by rw[Hp.get_set_ne _ _ _ hk];exact h) rfl (by intro jj;simp[CV.has])
 ·(have zx:=zA hmm (zA hn0 (zA h64 (zA hroom h1)));refine zq190 ?_;try exact zT)
  repeat'(apply zK.s<;>intro hc<;>(try simp only[zhd]at hc)<;>(try have hw:=K0a hc)<;>(refine zq190 ?_;try exact zT))
  all_goals(try clear zx)
  exact Q0q hF (fun k o hk h=>by rw[Hp.get_set_ne _ _ _ hk];exact h) _ _
noncomputable def resRB(i:Nat)(B:Lst Int)(p:Hp)(r:Except Int (Q0a×Nat)): XRes:=
 match r with
 |.ok (x,a)=>.ret x.cv (p.set i (some (rdr B a)))
 |.error e=>.pan (fault 100 e) (p.set i none)
theorem K1f(g:Nat->Bool)(a n:Nat)(M:Int)(h:(2:Int)^n=M): 0<=valB g a n/\valB g a n<M:=by subst h;exact Q0w g a n
theorem memB_err{b:List Int}{x:Q0a}{a k:Nat}{e:Int}(h:memB b x a k=.error e): ∀m,memB b x a (k+m)=.error e
 |0=>h
 |m+1=>by
  show bindE (memB b x a (k+m)) _=_
  rw[memB_err h m];rfl
def J161(i:Nat)(B:Lst Int)(a0:Nat)(x0:Q0a)(v:Nat)(p:Hp)(n:Nat)(ρ:Env)(q:Hp): Prop:=
 ∃(k a:Nat) (x:Q0a),n=4-k/\k<=4/\ρ 0=.ptr i []/\ρ 2=.ptr p.n []/\ρ 3=.ptr v []/\ρ 35=I k/\memB B.l x0 a0 k=.ok (x,a)/\a<=8*B.l.length/\q.t.get i=some (rdr B a)/\q.t.get p.n=some (.var sh34 Q0a.zero.cv)/\q.t.get v=some (.var sh34 x.cv)/\p.n<v/\v<q.n/\∀j o,j≠i->p.t.get j=some o->q.t.get j=some o
def R161: Rel:=fun args p r=>∃(i:Nat) (B:Lst Int) (a:Nat),args=[.ptr i []]/\(p.t.get i=some (rdr B a))/\(B.l.length<=140737488355328)/\(a<=8*B.l.length)/\(∀x∈B.l,0<=x/\x<=255)/\r=resRB i B p (readBody B.l a)
theorem t161{T:XCall}(h:Has T 161 R161)(i:Nat)(B:Lst Int)(a:Nat){p:Hp}(h1:p.t.get i=some (rdr B a))(h2:B.l.length<=140737488355328)(h3:a<=8*B.l.length)(h5:∀x∈B.l,0<=x/\x<=255): T 161 [.ptr i []] p=resRB i B p (readBody B.l a):=h _ _ _ ⟨i,B,a,rfl,h1,h2,h3,h5,rfl⟩
theorem zq161{A B:Prop}(k:B)(h:A=B:=by have zy:=zA @zw161<|zA @rs161<|zA @tt3<|zA @tt25<|zA @tt32<|zA @tt34<|zA ti3.eq_1<|zA ti25.eq_1<|zA ti32.eq_1<|zA ti34.eq_1<|zA @t_160<|zA @t_190<|zA @Q0f<|zA @zsl32<|zA @h1<|zA @h2<|zA @h3<|@h5;exact zQ): A:=h▸k
theorem c161: Con C 161 R161:=by
 refine V0e C ?_ ?_ ?_
 ·rintro args p r r' ⟨i,B,a,h,h1,h2,h3,h5,e⟩ ⟨i',B',a',h',h1',h2',h3',h5',e'⟩
  subst e;subst e';(subst h;simp only[List.cons.injEq,CV.ptr.injEq,and_true,true_and]at h';subst h';obtain⟨e1,e2⟩:=V1q h1 h1';rw[e1,e2])
 ·rintro args p r ⟨i,B,a,h,h1,h2,h3,h5,rfl⟩;first|(split<;>simp;done)|(simp;done)|(simp only[resM];split<;>simp;done)|(simp only[resD];split<;>simp;done)  | (unfold resRB;split<;>simp;done)
 rintro args p r ⟨i,B,a,rfl,h1,h2,h3,h5,rfl⟩
 refine zW C false [(160,R160),(190,R190)] ⟨c160,c190,zT⟩ rfl xf161 zc161_ok fun call zh hF=>?_
 have t_160:=@t160 _ zh.1
 have t_190:=@t190 _ zh.2.1
 clear zh
 have hd_h1:=hF.dom _ _ h1
 have hi:=hF.dom _ _ h1
 have hB:Q0a.zero.Mem.length=4:=rfl
 have v1:=K1f (bitB B.l) a 2 4 rfl
 have v2:=K1f (bitB B.l) (a+2) 3 8 rfl
 have v3:=K1f (bitB B.l) (a+2+3) 12 4096 rfl
 have v4:=K1f (bitB B.l) (a+2+3+12) 12 4096 rfl
 have v5:=K1f (bitB B.l) (a+2+3+12+12+8+8) 10 1024 rfl
 by_cases c1:a+2<=8*B.l.length
 ·by_cases hK:valB (bitB B.l) a 2=0
  ·(have zx:=zA c1 (zA hK h1);refine zq161 ?_;try exact zT)
   repeat'(apply zK.s<;>intro hc<;>(try simp only[zhd]at hc)<;>(try have hw:=K0a hc)<;>(refine zq161 ?_;try exact zT))
   all_goals(try clear zx)
   have hrb:readBody B.l a=.ok ({Q0a.zero with Kind:=0},a+2):=by unfold readBody;simp only[getB,c1,hK,if_true,K0f]
   rw[hrb]
   exact shr_rd hF h1 (fun j hj=>⟨_,by simp,hj⟩) (zg9) (fun k o hk h=>by have hd:=hF.dom _ _ h;simp (disch:=first|exact zdl|fail) only[Hp.bump_get,Hp.get_set_ne,Hp.get_new_ne];exact h) rfl (by intro jj;exact Q0a.nohas _ jj)
  ·by_cases c2:a+2+3<=8*B.l.length
   ·by_cases c3:a+2+3+12<=8*B.l.length
    ·by_cases c4:a+2+3+12+12<=8*B.l.length
     ·by_cases c5:a+2+3+12+12+8<=8*B.l.length
      ·by_cases c6:a+2+3+12+12+8+8<=8*B.l.length
       ·by_cases c7:a+2+3+12+12+8+8+10<=8*B.l.length
        ·obtain⟨x0,hx0⟩:∃x:Q0a,x={Q0a.zero with Kind:=valB (bitB B.l) a 2,Owner:=valB (bitB B.l) (a+2) 3,X:=valB (bitB B.l) (a+2+3) 12,Y:=valB (bitB B.l) (a+2+3+12) 12,VX:=sgnB (valB (bitB B.l) (a+2+3+12+12) 8) 8,VY:=sgnB (valB (bitB B.l) (a+2+3+12+12+8) 8) 8,Age:=valB (bitB B.l) (a+2+3+12+12+8+8) 10}:=⟨_,rfl⟩
         have hmem:readBody B.l a=bindE (memB B.l x0 (a+2+3+12+12+8+8+10) 4) fun z a=>bindE (getB B.l 16 a) fun f a=>.ok ({z with Faults:=f},a):=by unfold readBody;rw[hx0];simp only[sgetB,getB,c1,hK,c2,c3,c4,c5,c6,c7,if_true,if_false,K0f]
         (have zx:=zA c1 (zA hK (zA c2 (zA c3 (zA c4 (zA c5 (zA c6 (zA c7 h1)))))));refine zq161 ?_;try exact zT)
         repeat'(apply zK.s<;>intro hc<;>(try simp only[zhd]at hc)<;>(try have hw:=K0a hc)<;>(refine zq161 ?_;try exact zT))
         all_goals(try clear zx)
         (show W C false noExt call (ZC.loop Z1h) _ _ _);refine Y0g C false noExt call Z1h _ _ _ (J161 i B (a+2+3+12+12+8+8+10) x0 (p.n+1) p) 4 ⟨0,a+2+3+12+12+8+8+10,x0,rfl,by omega,by simp[put_at,K0c,K0e],zev,zev,zev,rfl,by omega,zg9,zg9,by rw[hx0];simp (disch:=first|exact zdl|fail) only[zheap];first|done|rfl,by omega,zb9,fun k o hk h=>by have hd:=hF.dom _ _ h;simp (disch:=first|exact zdl|fail) only[Hp.bump_get,Hp.get_set_ne,Hp.get_new_ne];exact h⟩ ?_
         clear hx0
         rintro n ρ q ⟨k,a',x,rfl,hk,e0,e2,e3,e35,hm,ha',g1,g2,g3,hpv,hvq,hle⟩
         have hxm:=x.hMem
         by_cases hlt:(k:Int)<4
         ·by_cases c8:a'+21<=8*B.l.length
          ·(have zx:=zA e0 (zA e2 (zA e3 (zA e35 (zA g1 (zA g2 (zA g3 (zA hlt (zA c8 h1))))))));refine zq161 ?_;try exact zT)
           repeat'(apply zK.s<;>intro hc<;>(try simp only[zhd]at hc)<;>(try have hw:=K0a hc)<;>(refine zq161 ?_;try exact zT))
           all_goals(try clear zx)
           refine⟨4-(k+1),by omega,k+1,a'+21,x.put_7k k (sgnB (valB (bitB B.l) a' 21) 21),rfl,by omega,zev,zev,zev,zev,?_,c8,zg9,zg9,zg9,hpv,zb9,fun j o hj h=>by have hd:=hF.dom _ _ h;simp (disch:=first|exact zdl|fail) only[Hp.bump_get,Hp.get_set_ne,Hp.get_new_ne];exact hle j o hj h⟩
           show bindE (memB B.l x0 _ k) _=_
           rw[hm];simp only[K0f,sgetB,getB,if_pos c8]
          ·(have zx:=zA e0 (zA e2 (zA e3 (zA e35 (zA g1 (zA g2 (zA g3 (zA hlt (zA c8 h1))))))));refine zq161 ?_;try exact zT)
           repeat'(apply zK.s<;>intro hc<;>(try simp only[zhd]at hc)<;>(try have hw:=K0a hc)<;>(refine zq161 ?_;try exact zT))
           all_goals(try clear zx)
           have hme:memB B.l x0 (a+2+3+12+12+8+8+10) (k+1)=.error (a':Int):=by
            show bindE (memB B.l x0 _ k) _=_
            rw[hm];simp only[K0f,sgetB,getB,if_neg c8,Y0k]
           have hrb:readBody B.l a=.error (a':Int):=by
            have h4:=memB_err hme (4-(k+1))
            rw[show k+1+(4-(k+1))=4 by omega]at h4
            rw[hmem,h4,Y0k]
           rw[hrb]
           exact Q0q hF (fun j o hj h=>by rw[Hp.get_set_ne _ _ _ hj];exact hle j o hj h) _ _
         ·have hk4:k=4:=by omega
          subst hk4
          have v6:=K1f (bitB B.l) a' 16 65536 rfl
          by_cases c8:a'+16<=8*B.l.length
          ·(have zx:=zA e0 (zA e2 (zA e3 (zA e35 (zA g1 (zA g2 (zA g3 (zA hlt (zA c8 h1))))))));refine zq161 ?_;try exact zT)
           repeat'(apply zK.s<;>intro hc<;>(try simp only[zhd]at hc)<;>(try have hw:=K0a hc)<;>(refine zq161 ?_;try exact zT))
           all_goals(try clear zx)
           have hrb:readBody B.l a=.ok ({x with Faults:=valB (bitB B.l) a' 16},a'+16):=by rw[hmem,hm,K0f];simp only[getB,if_pos c8,K0f]
           rw[hrb]
           exact shr_rd hF h1 (fun j hj=>⟨_,by simp,hj⟩) (zg9) (fun j o hj h=>by have hd:=hF.dom _ _ h;simp (disch:=first|exact zdl|fail) only[Hp.bump_get,Hp.get_set_ne,Hp.get_new_ne];exact hle j o hj h) rfl (by intro jj;exact Q0a.nohas _ jj)
          ·(have zx:=zA e0 (zA e2 (zA e3 (zA e35 (zA g1 (zA g2 (zA g3 (zA hlt (zA c8 h1))))))));refine zq161 ?_;try exact zT)
           repeat'(apply zK.s<;>intro hc<;>(try simp only[zhd]at hc)<;>(try have hw:=K0a hc)<;>(refine zq161 ?_;try exact zT))
           all_goals(try clear zx)
           have hrb:readBody B.l a=.error (a':Int):=by rw[hmem,hm,K0f];simp only[getB,if_neg c8,Y0k]
           rw[hrb]
           exact Q0q hF (fun j o hj h=>by rw[Hp.get_set_ne _ _ _ hj];exact hle j o hj h) _ _
        ·(have zx:=zA c1 (zA hK (zA c2 (zA c3 (zA c4 (zA c5 (zA c6 (zA c7 h1)))))));refine zq161 ?_;try exact zT)
         repeat'(apply zK.s<;>intro hc<;>(try simp only[zhd]at hc)<;>(try have hw:=K0a hc)<;>(refine zq161 ?_;try exact zT))
         all_goals(try clear zx)
         have hrb:readBody B.l a=.error (a+2+3+12+12+8+8:Nat):=by unfold readBody;simp only[sgetB,getB,c1,hK,c2,c3,c4,c5,c6,c7,if_true,if_false,K0f,Y0k]
         rw[hrb]
         exact Q0q hF (fun k o hk h=>by have hd:=hF.dom _ _ h;simp (disch:=first|exact zdl|fail) only[Hp.bump_get,Hp.get_set_ne,Hp.get_new_ne];exact h) _ _
       ·(have zx:=zA c1 (zA hK (zA c2 (zA c3 (zA c4 (zA c5 (zA c6 h1))))));refine zq161 ?_;try exact zT)
        repeat'(apply zK.s<;>intro hc<;>(try simp only[zhd]at hc)<;>(try have hw:=K0a hc)<;>(refine zq161 ?_;try exact zT))
        all_goals(try clear zx)
        have hrb:readBody B.l a=.error (a+2+3+12+12+8:Nat):=by unfold readBody;simp only[sgetB,getB,c1,hK,c2,c3,c4,c5,c6,if_true,if_false,K0f,Y0k]
        rw[hrb]
        exact Q0q hF (fun k o hk h=>by have hd:=hF.dom _ _ h;simp (disch:=first|exact zdl|fail) only[Hp.bump_get,Hp.get_set_ne,Hp.get_new_ne];exact h) _ _
      ·(have zx:=zA c1 (zA hK (zA c2 (zA c3 (zA c4 (zA c5 h1)))));refine zq161 ?_;try exact zT)
       repeat'(apply zK.s<;>intro hc<;>(try simp only[zhd]at hc)<;>(try have hw:=K0a hc)<;>(refine zq161 ?_;try exact zT))
       all_goals(try clear zx)
       have hrb:readBody B.l a=.error (a+2+3+12+12:Nat):=by unfold readBody;simp only[sgetB,getB,c1,hK,c2,c3,c4,c5,if_true,if_false,K0f,Y0k]
       rw[hrb]
       exact Q0q hF (fun k o hk h=>by have hd:=hF.dom _ _ h;simp (disch:=first|exact zdl|fail) only[Hp.bump_get,Hp.get_set_ne,Hp.get_new_ne];exact h) _ _
     ·(have zx:=zA c1 (zA hK (zA c2 (zA c3 (zA c4 h1))));refine zq161 ?_;try exact zT)
      repeat'(apply zK.s<;>intro hc<;>(try simp only[zhd]at hc)<;>(try have hw:=K0a hc)<;>(refine zq161 ?_;try exact zT))
      all_goals(try clear zx)
      have hrb:readBody B.l a=.error (a+2+3+12:Nat):=by unfold readBody;simp only[sgetB,getB,c1,hK,c2,c3,c4,if_true,if_false,K0f,Y0k]
      rw[hrb]
      exact Q0q hF (fun k o hk h=>by have hd:=hF.dom _ _ h;simp (disch:=first|exact zdl|fail) only[Hp.bump_get,Hp.get_set_ne,Hp.get_new_ne];exact h) _ _
    ·(have zx:=zA c1 (zA hK (zA c2 (zA c3 h1)));refine zq161 ?_;try exact zT)
     repeat'(apply zK.s<;>intro hc<;>(try simp only[zhd]at hc)<;>(try have hw:=K0a hc)<;>(refine zq161 ?_;try exact zT))
     all_goals(try clear zx)
     have hrb:readBody B.l a=.error (a+2+3:Nat):=by unfold readBody;simp only[sgetB,getB,c1,hK,c2,c3,if_true,if_false,K0f,Y0k]
     rw[hrb]
     exact Q0q hF (fun k o hk h=>by have hd:=hF.dom _ _ h;simp (disch:=first|exact zdl|fail) only[Hp.bump_get,Hp.get_set_ne,Hp.get_new_ne];exact h) _ _
   ·(have zx:=zA c1 (zA hK (zA c2 h1));refine zq161 ?_;try exact zT)
    repeat'(apply zK.s<;>intro hc<;>(try simp only[zhd]at hc)<;>(try have hw:=K0a hc)<;>(refine zq161 ?_;try exact zT))
    all_goals(try clear zx)
    have hrb:readBody B.l a=.error (a+2:Nat):=by unfold readBody;simp only[sgetB,getB,c1,hK,c2,if_true,if_false,K0f,Y0k]
    rw[hrb]
    exact Q0q hF (fun k o hk h=>by have hd:=hF.dom _ _ h;simp (disch:=first|exact zdl|fail) only[Hp.bump_get,Hp.get_set_ne,Hp.get_new_ne];exact h) _ _
 ·(have zx:=zA c1 h1;refine zq161 ?_;try exact zT)
  repeat'(apply zK.s<;>intro hc<;>(try simp only[zhd]at hc)<;>(try have hw:=K0a hc)<;>(refine zq161 ?_;try exact zT))
  all_goals(try clear zx)
  have hrb:readBody B.l a=.error (a:Nat):=by unfold readBody;simp only[sgetB,getB,c1,if_true,if_false,K0f,Y0k]
  rw[hrb]
  exact Q0q hF (fun k o hk h=>by have hd:=hF.dom _ _ h;simp (disch:=first|exact zdl|fail) only[Hp.bump_get,Hp.get_set_ne,Hp.get_new_ne];exact h) _ _
end Go.Proofs.Ytpchcfkebljopaa
end
