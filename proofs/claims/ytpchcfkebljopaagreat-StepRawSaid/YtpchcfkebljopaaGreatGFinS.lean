import Derived.Test.YtpchcfkebljopaaGreatXi
set_option linter.unusedSimpArgs false
set_option linter.unusedVariables false
set_option linter.constructorNameAsVariable false
set_option linter.defProp false
set_option maxHeartbeats 8000000
section
namespace Go.Proofs.YtpchcfkebljopaaGreat
open Go.Cl Go Go.ChangeShapes Go.WideShapes Go.ChangeAt Go.RowKit
theorem stepRaw_facts: joinedFacts Tryz.prog 3 Tryz.f3 Rows.stepRawSpec Rows.stepRawRow=true:=by
 unfold joinedFacts
 simp only[Bool.and_eq_true]
 with_reducible repeat' apply zA
 all_goals first|with_reducible exact fact_enter|with_reducible exact Z1m|with_reducible exact fact_make|exact(by rw[show Rows.stepRawRow.lifted=Rows.ruleTotalRow.lifted from rfl];exact Z1m)|exact(by rw[show Rows.stepRawRow.make=Rows.ruleTotalRow.make from rfl];exact fact_make)|kernel_rfl
set_option maxRecDepth 100000 in
theorem stepRaw_lifted(os:Os)(started:os.Started)(H:Type)(enc:TypeId×Value->H):
  ReturnsInHanded {} Tryz.checked os 3 .any (Rows.stepRawSpec.pre6 enc Tryz.prog Tryz.f3 Rows.stepRawRow.domain false) (Rows.stepRawSpec.post enc Tryz.prog Tryz.f3 false true false false):=by
 refine returnsInHanded_of_change (C:=Tryz.checked) Tryz.own started (by kernel_rfl) Tryz.func3
  (ChangeSpec.witness6 (enc:=enc) (C:=Tryz.checked) false ⟨#[],#[.agg #[.int .i64 0,.int .i64 0,.int .i64 0,.int .i64 0,.int .i64 0,.int .i64 0,.int .i64 0,.slice none 0 0],.slice none 0 0,.int .i64 0,.int .i64 0,.int .i64 0,.slice none 0 0,.float .f64 0],[]⟩ 8 (by kernel_rfl) (by kernel_rfl) (by kernel_rfl) (by kernel_rfl)) ?_
 intro W base args ds gs before hval0 hW hcnd _
 have hval:∀(j:Nat) t v,Tryz.f3.params[j]?=some t->args[j]?=some v->Value.okWide Tryz.prog W .any base t v:=hval0
 have hW':=hW
 obtain⟨p,q,hA0,hV,rfl,hfz,hnd⟩:=hW
 have hA:DataW.TrodAll enc Tryz.prog W 0 (fun _=>true) true Tryz.f3.params.toList args.toList ds p:=hA0
 rw[Tryz.params3]at hA hval
 obtain⟨v0,vs0,d0,ds0,p0,q0,ha0,rfl,rfl,h0,hA⟩:=trodAll_cons hA
 obtain⟨v1,vs1,d1,ds1,p1,q1,rfl,rfl,rfl,h1,hA⟩:=trodAll_cons hA
 obtain⟨v2,vs2,d2,ds2,p2,q2,rfl,rfl,rfl,h2,hA⟩:=trodAll_cons hA
 obtain⟨v3,vs3,d3,ds3,p3,q3,rfl,rfl,rfl,h3,hA⟩:=trodAll_cons hA
 obtain⟨v4,vs4,d4,ds4,p4,q4,rfl,rfl,rfl,h4,hA⟩:=trodAll_cons hA
 obtain⟨v5,vs5,d5,ds5,p5,q5,rfl,rfl,rfl,h5,hA⟩:=trodAll_cons hA
 obtain⟨v6,vs6,d6,ds6,p6,q6,rfl,rfl,rfl,h6,hA⟩:=trodAll_cons hA
 obtain⟨rfl,rfl,rfl⟩:=trodAll_nil hA
 obtain rfl:args=#[v0,v1,v2,v3,v4,v5,v6]:=by cases args;simp_all
 obtain⟨rfl,rfl⟩:=trodVars_none hV
 obtain⟨u0,k0,y0⟩:=Z0z (n:=4) (by kernel_rfl) (hval 0 24 v0 rfl rfl) h0
 obtain⟨u1,k1,y1⟩:=Z0z (n:=4) (by kernel_rfl) (hval 1 25 v1 rfl rfl) h1
 obtain⟨u2,k2,y2⟩:=Z0z (n:=4) (by kernel_rfl) (hval 2 3 v2 rfl rfl) h2
 obtain⟨u3,k3,y3⟩:=Z0z (n:=4) (by kernel_rfl) (hval 3 3 v3 rfl rfl) h3
 obtain⟨u4,k4,y4⟩:=Z0z (n:=4) (by kernel_rfl) (hval 4 3 v4 rfl rfl) h4
 obtain⟨u5,k5,y5⟩:=Z0z (n:=4) (by kernel_rfl) (hval 5 26 v5 rfl rfl) h5
 obtain⟨u6,k6,y6⟩:=Z0z (n:=4) (by kernel_rfl) (hval 6 27 v6 rfl rfl) h6
 clear hA0 hval0
 obtain⟨x,rfl,_⟩:=b24 (n:=0) y0
 obtain⟨l,rfl,_⟩:=b25 (n:=1) y1
 obtain⟨how,rfl,_⟩:=b3 (n:=3) y2
 obtain⟨at_,rfl,_⟩:=b3 (n:=3) y3
 obtain⟨by_,rfl,_⟩:=b3 (n:=3) y4
 obtain⟨row,rfl,_⟩:=b26 (n:=0) y5
 obtain⟨f,rfl,_⟩:=b27 (n:=3) y6
 have hc:=con_true (w:=W) (vals:=[v0,v1,v2,v3,v4,v5,v6]) c1003 ⟨x,l,how,at_,by_,row,f,rfl,rfl⟩ (V0f.2 ⟨k0,V0f.2 ⟨k1,V0f.2 ⟨k2,V0f.2 ⟨k3,V0f.2 ⟨k4,V0f.2 ⟨k5,V0f.2 ⟨k6,VRs_nil _⟩⟩⟩⟩⟩⟩⟩)
 refine Calls.mono hc fun e W' ⟨he,hw⟩=>?_
 subst he
 exact⟨_,rfl,post_true (bt:=4) Tryz.laidOut hW' rfl hw (fun t ht=>by
  have e:t=24\/t=25\/t=3\/t=26\/t=27:=by simp[Tryz.params3]at ht;exact ht
  rcases e with rfl|rfl|rfl|rfl|rfl<;>exact⟨by kernel_rfl,of_decide_eq_true (by kernel_rfl)⟩) (by kernel_rfl) Tryz.underlying4 rfl⟩
theorem stepRaw_holds: Rows.StepRawSaid:=
 OpenClaim.holds_of_wide 3 Tryz.f3 rfl rfl rfl rfl rfl rfl rfl ⟨rfl,rfl,rfl,rfl,rfl⟩ rfl rfl rfl rfl rfl (by kernel_rfl) Tryz.func3 stepRaw_facts
  (of_decide_eq_true (by kernel_rfl)) (by unfold Func.isWrapper;first|(rw[if_pos (by decide +kernel)];kernel_rfl)|(rw[if_neg (by decide +kernel)];exact⟨rfl,rfl⟩))
  (fun os started H enc _=>stepRaw_lifted os started H enc)
end Go.Proofs.YtpchcfkebljopaaGreat
end
