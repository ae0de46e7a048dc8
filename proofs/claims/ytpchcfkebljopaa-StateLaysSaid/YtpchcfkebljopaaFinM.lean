import Derived.Test.YtpchcfkebljopaaXj
set_option linter.unusedSimpArgs false
set_option linter.unusedVariables false
set_option linter.constructorNameAsVariable false
set_option linter.defProp false
set_option maxHeartbeats 8000000
section
namespace Go.Proofs.Ytpchcfkebljopaa
open Go.Cl Go Go.ChangeShapes Go.WideShapes Go.ChangeAt Go.RowKit
theorem stateLays_facts: joinedFacts Try.prog 8 Try.f8 Rows.stateLaysSpec Rows.stateLaysRow=true:=by
 unfold joinedFacts
 simp only[Bool.and_eq_true]
 with_reducible repeat' apply zA
 all_goals first|with_reducible exact fact_enter|with_reducible exact K1y|with_reducible exact fact_make|exact(by rw[show Rows.stateLaysRow.lifted=Rows.ruleTotalRow.lifted from rfl];exact K1y)|exact(by rw[show Rows.stateLaysRow.make=Rows.ruleTotalRow.make from rfl];exact fact_make)|kernel_rfl
set_option maxRecDepth 100000 in
theorem stateLays_lifted(os:Os)(started:os.Started)(H:Type)(enc:TypeId×Value->H):
  ReturnsInHanded {} Try.checked os 8 .any (Rows.stateLaysSpec.pre6 enc Try.prog Try.f8 Rows.stateLaysRow.domain false) (Rows.stateLaysSpec.post enc Try.prog Try.f8 false true false false):=by
 refine returnsInHanded_of_change_sized (C:=Try.checked) Try.own started (by kernel_rfl) Try.func8
  (ChangeSpec.witness6 (enc:=enc) (C:=Try.checked) false ⟨#[],#[.agg #[.int .i64 0,.int .i64 0,.int .i64 0,.int .i64 0,.int .i64 0,.int .i64 0,.int .i64 0,.slice none 0 0],.slice none 0 0,.int .i64 0,.int .i64 0,.int .i64 0,.slice none 0 0,.bool false,.slice none 0 0,.int .u8 0],[]⟩ 8 (by kernel_rfl) (by kernel_rfl) (by kernel_rfl) (by kernel_rfl)) ?_
 intro W base args ds gs before hval0 hW hcnd hsz0 _
 have hval:∀(j:Nat) t v,Try.f8.params[j]?=some t->args[j]?=some v->Value.okWide Try.prog W .any base t v:=hval0
 have hW':=hW
 obtain⟨p,q,hA0,hV,rfl,hfz,hnd⟩:=hW
 have hA:DataW.TrodAll enc Try.prog W 0 (fun _=>true) true Try.f8.params.toList args.toList ds p:=hA0
 have hsz:(DataW.weightsEach Try.prog (Try.f8.params.toList++Rows.stateLaysSpec.plain.varTypes Try.prog) (ds++gs)).all (·<=reachBytes)=true:=hsz0
 rw[Try.params8]at hA hval hsz
 obtain⟨v0,vs0,d0,ds0,p0,q0,ha0,rfl,rfl,h0,hA⟩:=trodAll_cons hA
 obtain⟨v1,vs1,d1,ds1,p1,q1,rfl,rfl,rfl,h1,hA⟩:=trodAll_cons hA
 obtain⟨v2,vs2,d2,ds2,p2,q2,rfl,rfl,rfl,h2,hA⟩:=trodAll_cons hA
 obtain⟨v3,vs3,d3,ds3,p3,q3,rfl,rfl,rfl,h3,hA⟩:=trodAll_cons hA
 obtain⟨v4,vs4,d4,ds4,p4,q4,rfl,rfl,rfl,h4,hA⟩:=trodAll_cons hA
 obtain⟨v5,vs5,d5,ds5,p5,q5,rfl,rfl,rfl,h5,hA⟩:=trodAll_cons hA
 obtain⟨v6,vs6,d6,ds6,p6,q6,rfl,rfl,rfl,h6,hA⟩:=trodAll_cons hA
 obtain⟨v7,vs7,d7,ds7,p7,q7,rfl,rfl,rfl,h7,hA⟩:=trodAll_cons hA
 obtain⟨v8,vs8,d8,ds8,p8,q8,rfl,rfl,rfl,h8,hA⟩:=trodAll_cons hA
 obtain⟨rfl,rfl,rfl⟩:=trodAll_nil hA
 obtain rfl:args=#[v0,v1,v2,v3,v4,v5,v6,v7,v8]:=by cases args;simp_all
 obtain⟨rfl,rfl⟩:=trodVars_none hV
 obtain⟨u0,k0,y0⟩:=Z0w (n:=4) (by kernel_rfl) (hval 0 57 v0 rfl rfl) h0
 obtain⟨u1,k1,y1⟩:=Z0w (n:=4) (by kernel_rfl) (hval 1 58 v1 rfl rfl) h1
 obtain⟨u2,k2,y2⟩:=Z0w (n:=4) (by kernel_rfl) (hval 2 3 v2 rfl rfl) h2
 obtain⟨u3,k3,y3⟩:=Z0w (n:=4) (by kernel_rfl) (hval 3 3 v3 rfl rfl) h3
 obtain⟨u4,k4,y4⟩:=Z0w (n:=4) (by kernel_rfl) (hval 4 3 v4 rfl rfl) h4
 obtain⟨u5,k5,y5⟩:=Z0w (n:=4) (by kernel_rfl) (hval 5 68 v5 rfl rfl) h5
 obtain⟨u6,k6,y6⟩:=Z0w (n:=4) (by kernel_rfl) (hval 6 4 v6 rfl rfl) h6
 obtain⟨u7,k7,y7⟩:=Z0w (n:=4) (by kernel_rfl) (hval 7 24 v7 rfl rfl) h7
 obtain⟨u8,k8,y8⟩:=Z0w (n:=4) (by kernel_rfl) (hval 8 5 v8 rfl rfl) h8
 clear hA0 hval0
 obtain⟨x,rfl,_⟩:=a57 (n:=0) y0
 obtain⟨l,rfl,_⟩:=a58 (n:=1) y1
 obtain⟨how,rfl,_⟩:=a3 (n:=3) y2
 obtain⟨at_,rfl,_⟩:=a3 (n:=3) y3
 obtain⟨by_,rfl,_⟩:=a3 (n:=3) y4
 obtain⟨raw,rfl,hb⟩:=y68 (n:=2) y5
 obtain⟨near,rfl⟩:=a4 (n:=3) y6
 obtain⟨ats,rfl,_⟩:=a24 (n:=2) y7
 obtain⟨wi,rfl,hw⟩:=a5 (n:=3) y8
 have hl:raw.l.length<=140737488355328:=by
  rcases arg_len Try.underlying68 k5 h5 with e|⟨el,sp,rfl,hn⟩
  ·have:=congrArg List.length e;simp at this;simp[this]
  ·have hb:=sized_slice hsz (j:=5) rfl rfl Try.underlying68
   rw[show Try.prog.bytesOf 5=1 from by kernel_rfl]at hb
   simp only[List.length_map,reachBytes]at hn hb
   omega
 have hc:=con_true (w:=W) (vals:=[v0,v1,v2,v3,v4,v5,v6,v7,v8]) c8 ⟨x,l,how,at_,by_,raw,near,ats,wi,rfl,hw,hl,hb,rfl⟩ (Q0g.2 ⟨k0,Q0g.2 ⟨k1,Q0g.2 ⟨k2,Q0g.2 ⟨k3,Q0g.2 ⟨k4,Q0g.2 ⟨k5,Q0g.2 ⟨k6,Q0g.2 ⟨k7,Q0g.2 ⟨k8,VRs_nil _⟩⟩⟩⟩⟩⟩⟩⟩⟩)
 refine Calls.mono hc fun e W' ⟨he,hw⟩=>?_
 subst he
 exact⟨_,rfl,post_true (bt:=4) Try.laidOut hW' rfl hw (fun t ht=>by
  have e:t=57\/t=58\/t=3\/t=68\/t=4\/t=24\/t=5:=by simp[Try.params8]at ht;exact ht
  rcases e with rfl|rfl|rfl|rfl|rfl|rfl|rfl<;>exact⟨by kernel_rfl,of_decide_eq_true (by kernel_rfl)⟩) (by kernel_rfl) Try.underlying4 rfl⟩
theorem stateLays_holds: Rows.StateLaysSaid:=
 OpenClaim.holds_of_wide 8 Try.f8 rfl rfl rfl rfl rfl rfl rfl ⟨rfl,rfl,rfl,rfl,rfl⟩ rfl rfl rfl rfl rfl (by kernel_rfl) Try.func8 stateLays_facts
  (of_decide_eq_true (by kernel_rfl)) (by unfold Func.isWrapper;first|(rw[if_pos (by decide +kernel)];kernel_rfl)|(rw[if_neg (by decide +kernel)];exact⟨rfl,rfl⟩))
  (fun os started H enc _=>stateLays_lifted os started H enc)
end Go.Proofs.Ytpchcfkebljopaa
end
