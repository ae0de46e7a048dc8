import Derived.Test.YtpchcfkebljopaaXi
set_option linter.unusedSimpArgs false
set_option linter.unusedVariables false
set_option linter.constructorNameAsVariable false
set_option linter.defProp false
set_option maxHeartbeats 8000000
section
namespace Go.Proofs.Ytpchcfkebljopaa
open Go.Cl Go Go.ChangeShapes Go.WideShapes Go.ChangeAt Go.RowKit
theorem packetForms_facts: joinedFacts Try.prog 12 Try.f12 Rows.packetFormsSpec Rows.packetFormsRow=true:=by
 unfold joinedFacts
 simp only[Bool.and_eq_true]
 with_reducible repeat' apply zA
 all_goals first|with_reducible exact Z1t|with_reducible exact Z0y|with_reducible exact Q06|exact(by rw[show Rows.packetFormsRow.lifted=Rows.ruleTotalRow.lifted from rfl];exact Z0y)|exact(by rw[show Rows.packetFormsRow.make=Rows.ruleTotalRow.make from rfl];exact Q06)|kernel_rfl
set_option maxRecDepth 100000 in
theorem packetForms_lifted(os:Os)(started:os.Started)(H:Type)(enc:TypeId×Value->H):
  ReturnsInHanded {} Try.checked os 12 .any (Rows.packetFormsSpec.pre6 enc Try.prog Try.f12 Rows.packetFormsRow.domain false) (Rows.packetFormsSpec.post enc Try.prog Try.f12 false true false false):=by
 refine returnsInHanded_of_change (C:=Try.checked) Try.own started (by kernel_rfl) Try.func12
  (ChangeSpec.witness6 (enc:=enc) (C:=Try.checked) false ⟨#[],#[.agg #[.int .i64 0,.int .i64 0,.int .i64 0,.int .i64 0,.int .i64 0,.int .i64 0,.int .i64 0,.int .i64 0,.int .i64 0,.int .i64 0,.bool false,.int .u64 0,.slice none 0 0,.slice none 0 0],.int .i64 0],[]⟩ 8 (by kernel_rfl) (by kernel_rfl) (by kernel_rfl) (by kernel_rfl)) ?_
 intro W base args ds gs before hval0 hW hcnd _
 have hval:∀(j:Nat) t v,Try.f12.params[j]?=some t->args[j]?=some v->Value.okWide Try.prog W .any base t v:=hval0
 have hW':=hW
 obtain⟨p,q,hA0,hV,rfl,hfz,hnd⟩:=hW
 have hA:DataW.TrodAll enc Try.prog W 0 (fun _=>true) true Try.f12.params.toList args.toList ds p:=hA0
 rw[Try.params12]at hA hval
 obtain⟨v0,vs0,d0,ds0,p0,q0,ha0,rfl,rfl,h0,hA⟩:=trodAll_cons hA
 obtain⟨v1,vs1,d1,ds1,p1,q1,rfl,rfl,rfl,h1,hA⟩:=trodAll_cons hA
 obtain⟨rfl,rfl,rfl⟩:=trodAll_nil hA
 obtain rfl:args=#[v0,v1]:=by cases args;simp_all
 obtain⟨rfl,rfl⟩:=trodVars_none hV
 obtain⟨u0,k0,y0⟩:=V13 (n:=4) (by kernel_rfl) (hval 0 90 v0 rfl rfl) h0
 obtain⟨u1,k1,y1⟩:=V13 (n:=4) (by kernel_rfl) (hval 1 3 v1 rfl rfl) h1
 clear hA0 hval0
 obtain⟨x,rfl,_⟩:=a90 (n:=0) y0
 obtain⟨how,rfl,_⟩:=a3 (n:=3) y1
 have hc:=con_true (w:=W) (vals:=[v0,v1]) c12 ⟨x,how,rfl,rfl⟩ (Q0f.2 ⟨k0,Q0f.2 ⟨k1,VRs_nil _⟩⟩)
 refine Calls.mono hc fun e W' ⟨he,hw⟩=>?_
 subst he
 exact⟨_,rfl,post_true (bt:=4) Try.laidOut hW' rfl hw (fun t ht=>by
  have e:t=90\/t=3:=by simp[Try.params12]at ht;exact ht
  rcases e with rfl|rfl<;>exact⟨by kernel_rfl,of_decide_eq_true (by kernel_rfl)⟩) (by kernel_rfl) Try.underlying4 rfl⟩
theorem packetForms_holds: Rows.PacketFormsSaid:=
 OpenClaim.holds_of_wide 12 Try.f12 rfl rfl rfl rfl rfl rfl rfl ⟨rfl,rfl,rfl,rfl,rfl⟩ rfl rfl rfl rfl rfl (by kernel_rfl) Try.func12 packetForms_facts
  (of_decide_eq_true (by kernel_rfl)) (by unfold Func.isWrapper;first|(rw[if_pos (by decide +kernel)];kernel_rfl)|(rw[if_neg (by decide +kernel)];exact⟨rfl,rfl⟩))
  (fun os started H enc _=>packetForms_lifted os started H enc)
end Go.Proofs.Ytpchcfkebljopaa
end
