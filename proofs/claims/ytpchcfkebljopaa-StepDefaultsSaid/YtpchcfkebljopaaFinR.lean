import Derived.Test.YtpchcfkebljopaaXi
set_option linter.unusedSimpArgs false
set_option linter.unusedVariables false
set_option linter.constructorNameAsVariable false
set_option linter.defProp false
set_option maxHeartbeats 8000000
section
namespace Go.Proofs.Ytpchcfkebljopaa
open Go.Cl Go Go.ChangeShapes Go.WideShapes Go.ChangeAt Go.RowKit
theorem stepDefaults_facts: joinedFacts Try.prog 18 Try.f18 Rows.stepDefaultsSpec Rows.stepDefaultsRow=true:=by
 unfold joinedFacts
 simp only[Bool.and_eq_true]
 with_reducible repeat' apply zA
 all_goals first|with_reducible exact fact_enter|with_reducible exact K1o|with_reducible exact fact_make|exact(by rw[show Rows.stepDefaultsRow.lifted=Rows.ruleTotalRow.lifted from rfl];exact K1o)|exact(by rw[show Rows.stepDefaultsRow.make=Rows.ruleTotalRow.make from rfl];exact fact_make)|kernel_rfl
set_option maxRecDepth 100000 in
theorem stepDefaults_lifted(os:Os)(started:os.Started)(H:Type)(enc:TypeId×Value->H):
  ReturnsInHanded {} Try.checked os 18 .any (Rows.stepDefaultsSpec.pre6 enc Try.prog Try.f18 Rows.stepDefaultsRow.domain false) (Rows.stepDefaultsSpec.post enc Try.prog Try.f18 false true false false):=by
 refine returnsInHanded_of_change (C:=Try.checked) Try.own started (by kernel_rfl) Try.func18
  (ChangeSpec.witness6 (enc:=enc) (C:=Try.checked) false ⟨#[],#[.agg #[.int .i64 0,.int .i64 0,.int .i64 0,.int .i64 0,.int .i64 0,.int .i64 0,.int .i64 0,.slice none 0 0],.slice none 0 0,.slice none 0 0,.int .i64 0],[]⟩ 8 (by kernel_rfl) (by kernel_rfl) (by kernel_rfl) (by kernel_rfl)) ?_
 intro W base args ds gs before hval0 hW hcnd _
 have hval:∀(j:Nat) t v,Try.f18.params[j]?=some t->args[j]?=some v->Value.okWide Try.prog W .any base t v:=hval0
 have hW':=hW
 obtain⟨p,q,hA0,hV,rfl,hfz,hnd⟩:=hW
 have hA:DataW.TrodAll enc Try.prog W 0 (fun _=>true) true Try.f18.params.toList args.toList ds p:=hA0
 rw[Try.params18]at hA hval
 obtain⟨v0,vs0,d0,ds0,p0,q0,ha0,rfl,rfl,h0,hA⟩:=trodAll_cons hA
 obtain⟨v1,vs1,d1,ds1,p1,q1,rfl,rfl,rfl,h1,hA⟩:=trodAll_cons hA
 obtain⟨v2,vs2,d2,ds2,p2,q2,rfl,rfl,rfl,h2,hA⟩:=trodAll_cons hA
 obtain⟨v3,vs3,d3,ds3,p3,q3,rfl,rfl,rfl,h3,hA⟩:=trodAll_cons hA
 obtain⟨rfl,rfl,rfl⟩:=trodAll_nil hA
 obtain rfl:args=#[v0,v1,v2,v3]:=by cases args;simp_all
 obtain⟨rfl,rfl⟩:=trodVars_none hV
 obtain⟨u0,k0,y0⟩:=X1w (n:=4) (by kernel_rfl) (hval 0 57 v0 rfl rfl) h0
 obtain⟨u1,k1,y1⟩:=X1w (n:=4) (by kernel_rfl) (hval 1 58 v1 rfl rfl) h1
 obtain⟨u2,k2,y2⟩:=X1w (n:=4) (by kernel_rfl) (hval 2 24 v2 rfl rfl) h2
 obtain⟨u3,k3,y3⟩:=X1w (n:=4) (by kernel_rfl) (hval 3 3 v3 rfl rfl) h3
 clear hA0 hval0
 obtain⟨x,rfl,_⟩:=a57 (n:=0) y0
 obtain⟨l,rfl,_⟩:=a58 (n:=1) y1
 obtain⟨row,rfl,_⟩:=a24 (n:=2) y2
 obtain⟨m,rfl,_⟩:=a3 (n:=3) y3
 have hc:=con_true (w:=W) (vals:=[v0,v1,v2,v3]) c18 ⟨x,l,row,m,rfl,rfl⟩ (V0f.2 ⟨k0,V0f.2 ⟨k1,V0f.2 ⟨k2,V0f.2 ⟨k3,VRs_nil _⟩⟩⟩⟩)
 refine Calls.mono hc fun e W' ⟨he,hw⟩=>?_
 subst he
 exact⟨_,rfl,post_true (bt:=4) Try.laidOut hW' rfl hw (fun t ht=>by
  have e:t=57\/t=58\/t=24\/t=3:=by simp[Try.params18]at ht;exact ht
  rcases e with rfl|rfl|rfl|rfl<;>exact⟨by kernel_rfl,of_decide_eq_true (by kernel_rfl)⟩) (by kernel_rfl) Try.underlying4 rfl⟩
theorem stepDefaults_holds: Rows.StepDefaultsSaid:=
 OpenClaim.holds_of_wide 18 Try.f18 rfl rfl rfl rfl rfl rfl rfl ⟨rfl,rfl,rfl,rfl,rfl⟩ rfl rfl rfl rfl rfl (by kernel_rfl) Try.func18 stepDefaults_facts
  (of_decide_eq_true (by kernel_rfl)) (by unfold Func.isWrapper;first|(rw[if_pos (by decide +kernel)];kernel_rfl)|(rw[if_neg (by decide +kernel)];exact⟨rfl,rfl⟩))
  (fun os started H enc _=>stepDefaults_lifted os started H enc)
end Go.Proofs.Ytpchcfkebljopaa
end
