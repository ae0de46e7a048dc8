import Derived.Test.YtpchcfkebljopaaXj
set_option linter.unusedSimpArgs false
set_option linter.unusedVariables false
set_option linter.constructorNameAsVariable false
set_option linter.defProp false
set_option maxHeartbeats 8000000
section
namespace Go.Proofs.Ytpchcfkebljopaa
open Go.Cl Go Go.ChangeShapes Go.WideShapes Go.ChangeAt Go.RowKit
theorem packetLays_facts: joinedFacts Try.prog 13 Try.f13 Rows.packetLaysSpec Rows.packetLaysRow=true:=by
 unfold joinedFacts
 simp only[Bool.and_eq_true]
 with_reducible repeat' apply zA
 all_goals first|with_reducible exact fact_enter|with_reducible exact K19|with_reducible exact fact_make|exact(by rw[show Rows.packetLaysRow.lifted=Rows.ruleTotalRow.lifted from rfl];exact K19)|exact(by rw[show Rows.packetLaysRow.make=Rows.ruleTotalRow.make from rfl];exact fact_make)|kernel_rfl
set_option maxRecDepth 100000 in
theorem packetLays_lifted(os:Os)(started:os.Started)(H:Type)(enc:TypeId×Value->H):
  ReturnsInHanded {} Try.checked os 13 .any (Rows.packetLaysSpec.pre6 enc Try.prog Try.f13 Rows.packetLaysRow.domain false) (Rows.packetLaysSpec.post enc Try.prog Try.f13 false true false false):=by
 refine returnsInHanded_of_change_sized (C:=Try.checked) Try.own started (by kernel_rfl) Try.func13
  (ChangeSpec.witness6 (enc:=enc) (C:=Try.checked) false ⟨#[],#[.agg #[.int .i64 0,.int .i64 0,.int .i64 0,.int .i64 0,.int .i64 0,.int .i64 0,.int .i64 0,.int .i64 0,.int .i64 0,.int .i64 0,.bool false,.int .u64 0,.slice none 0 0,.slice none 0 0],.int .i64 0,.slice none 0 0,.int .i64 0,.slice none 0 0,.int .u8 0],[]⟩ 8 (by kernel_rfl) (by kernel_rfl) (by kernel_rfl) (by kernel_rfl)) ?_
 intro W base args ds gs before hval0 hW hcnd hsz0 _
 have hval:∀(j:Nat) t v,Try.f13.params[j]?=some t->args[j]?=some v->Value.okWide Try.prog W .any base t v:=hval0
 have hW':=hW
 obtain⟨p,q,hA0,hV,rfl,hfz,hnd⟩:=hW
 have hA:DataW.TrodAll enc Try.prog W 0 (fun _=>true) true Try.f13.params.toList args.toList ds p:=hA0
 have hsz:(DataW.weightsEach Try.prog (Try.f13.params.toList++Rows.packetLaysSpec.plain.varTypes Try.prog) (ds++gs)).all (·<=reachBytes)=true:=hsz0
 rw[Try.params13]at hA hval hsz
 obtain⟨v0,vs0,d0,ds0,p0,q0,ha0,rfl,rfl,h0,hA⟩:=trodAll_cons hA
 obtain⟨v1,vs1,d1,ds1,p1,q1,rfl,rfl,rfl,h1,hA⟩:=trodAll_cons hA
 obtain⟨v2,vs2,d2,ds2,p2,q2,rfl,rfl,rfl,h2,hA⟩:=trodAll_cons hA
 obtain⟨v3,vs3,d3,ds3,p3,q3,rfl,rfl,rfl,h3,hA⟩:=trodAll_cons hA
 obtain⟨v4,vs4,d4,ds4,p4,q4,rfl,rfl,rfl,h4,hA⟩:=trodAll_cons hA
 obtain⟨v5,vs5,d5,ds5,p5,q5,rfl,rfl,rfl,h5,hA⟩:=trodAll_cons hA
 obtain⟨rfl,rfl,rfl⟩:=trodAll_nil hA
 obtain rfl:args=#[v0,v1,v2,v3,v4,v5]:=by cases args;simp_all
 obtain⟨rfl,rfl⟩:=trodVars_none hV
 obtain⟨u0,k0,y0⟩:=V1f (n:=4) (by kernel_rfl) (hval 0 90 v0 rfl rfl) h0
 obtain⟨u1,k1,y1⟩:=V1f (n:=4) (by kernel_rfl) (hval 1 3 v1 rfl rfl) h1
 obtain⟨u2,k2,y2⟩:=V1f (n:=4) (by kernel_rfl) (hval 2 68 v2 rfl rfl) h2
 obtain⟨u3,k3,y3⟩:=V1f (n:=4) (by kernel_rfl) (hval 3 3 v3 rfl rfl) h3
 obtain⟨u4,k4,y4⟩:=V1f (n:=4) (by kernel_rfl) (hval 4 24 v4 rfl rfl) h4
 obtain⟨u5,k5,y5⟩:=V1f (n:=4) (by kernel_rfl) (hval 5 5 v5 rfl rfl) h5
 clear hA0 hval0
 obtain⟨x,rfl,_⟩:=a90 (n:=0) y0
 obtain⟨tok,rfl,_⟩:=a3 (n:=3) y1
 obtain⟨raw,rfl,hb⟩:=y68 (n:=2) y2
 obtain⟨how,rfl,hh⟩:=a3 (n:=3) y3
 obtain⟨ats,rfl,_⟩:=a24 (n:=2) y4
 obtain⟨wi,rfl,hw⟩:=a5 (n:=3) y5
 have hl:raw.l.length<=140737488355328:=by
  rcases arg_len Try.underlying68 k2 h2 with e|⟨el,sp,rfl,hn⟩
  ·have:=congrArg List.length e;simp at this;simp[this]
  ·have hb:=sized_slice hsz (j:=2) rfl rfl Try.underlying68
   rw[show Try.prog.bytesOf 5=1 from by kernel_rfl]at hb
   simp only[List.length_map,reachBytes]at hn hb
   omega
 have hc:=con_true (w:=W) (vals:=[v0,v1,v2,v3,v4,v5]) c13 ⟨x,tok,raw,how,ats,wi,rfl,hw,hh,hl,hb,rfl⟩ (Z0f.2 ⟨k0,Z0f.2 ⟨k1,Z0f.2 ⟨k2,Z0f.2 ⟨k3,Z0f.2 ⟨k4,Z0f.2 ⟨k5,VRs_nil _⟩⟩⟩⟩⟩⟩)
 refine Calls.mono hc fun e W' ⟨he,hw⟩=>?_
 subst he
 exact⟨_,rfl,post_true (bt:=4) Try.laidOut hW' rfl hw (fun t ht=>by
  have e:t=90\/t=3\/t=68\/t=24\/t=5:=by simp[Try.params13]at ht;rcases ht with h|h|h|h|h|h<;>simp[h]
  rcases e with rfl|rfl|rfl|rfl|rfl<;>exact⟨by kernel_rfl,of_decide_eq_true (by kernel_rfl)⟩) (by kernel_rfl) Try.underlying4 rfl⟩
theorem packetLays_holds: Rows.PacketLaysSaid:=
 OpenClaim.holds_of_wide 13 Try.f13 rfl rfl rfl rfl rfl rfl rfl ⟨rfl,rfl,rfl,rfl,rfl⟩ rfl rfl rfl rfl rfl (by kernel_rfl) Try.func13 packetLays_facts
  (of_decide_eq_true (by kernel_rfl)) (by unfold Func.isWrapper;first|(rw[if_pos (by decide +kernel)];kernel_rfl)|(rw[if_neg (by decide +kernel)];exact⟨rfl,rfl⟩))
  (fun os started H enc _=>packetLays_lifted os started H enc)
end Go.Proofs.Ytpchcfkebljopaa
end
