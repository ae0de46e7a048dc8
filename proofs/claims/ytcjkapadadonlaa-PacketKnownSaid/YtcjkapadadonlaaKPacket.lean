/- The closed law PacketKnown returns true: the interpreter over clean values runs it to its end, in parts, and is sound. No condition. -/
import Derived.Test.YtcjkapadadonlaaKPacket2
import Derived.Test.YtcjkapadadonlaaRows
import Derived.ProofKit
set_option linter.unusedSimpArgs false
set_option linter.unusedVariables false
namespace Go.Proofs.Ytcjkapadadonlaa
open Go.Cl Go Go.ChangeShapes Go.WideShapes Go.ChangeAt Go.RowKit

noncomputable def known : XCall := memo 42 a0 68 p0 (resOf true v0 3588 q0) (memo 42 a1 3668 p1 (resOf true v1 7076 q1) (memo 42 a2 7128 p2 (resOf true v2 11178 q2) (memo 16 a3 13609 p3 (resOf true v3 18517 q3) (memo 45 a4 18735 p4 (resOf true v4 22039 q4) (memo 42 a5 22117 p5 (resOf true v5 25637 q5) (memo 45 a6 26026 p6 (resOf true v6 29268 q6) (memo 42 a7 29359 p7 (resOf true v7 32767 q7) (memo 45 a8 33183 p8 (resOf true v8 36853 q8) (memo 42 a9 36916 p9 (resOf true v9 40966 q9) (noCall))))))))))
theorem known_ok : CallOk C known := memo_ok C k0 (memo_ok C k1 (memo_ok C k2 (memo_ok C k3 (memo_ok C k4 (memo_ok C k5 (memo_ok C k6 (memo_ok C k7 (memo_ok C k8 (memo_ok C k9 (noCall_ok C))))))))))
set_option maxRecDepth 1000000 in
theorem runs : isTrue (trun C xp known 100000 4 [] ⟨0, .e⟩) = true := by kernel_rfl

set_option maxRecDepth 100000 in
theorem packetKnown_lifted (os : Os) (started : os.Started) (H : Type) (enc : TypeId × Value → H) :
    ReturnsInHanded {} Try.checked os 4 .any (Rows.packetKnownSpec.pre6 enc Try.prog Try.f4 Rows.packetKnownRow.domain false) (Rows.packetKnownSpec.post enc Try.prog Try.f4 false true false false) := by
  refine returnsInHanded_of_change (C := Try.checked) Try.own started (by kernel_rfl) Try.func4
    (ChangeSpec.witness6 (enc := enc) (C := Try.checked) false ⟨#[], #[], []⟩ 8 (by kernel_rfl) (by kernel_rfl) (by kernel_rfl) (by kernel_rfl)) ?_
  intro W base args ds gs before hval0 hW hcnd _
  have hW' := hW
  obtain ⟨p, q, hA0, hV, rfl, hfz, hnd⟩ := hW
  have hA : DataW.TrodAll enc Try.prog W 0 (fun _ => true) true Try.f4.params.toList args.toList ds p := hA0
  rw [Try.params4] at hA
  have hargs : args = #[] ∧ ds = [] := by
    cases hl : args.toList with
    | nil =>
      rw [hl] at hA
      cases ds with
      | nil => exact ⟨by apply Array.ext'; simpa using hl, rfl⟩
      | cons d ds => exact hA.elim
    | cons v l => rw [hl] at hA; exact hA.elim
  obtain ⟨rfl, rfl⟩ := hargs
  obtain ⟨rfl, rfl⟩ := trodVars_none hV
  refine Calls.mono (closed_table C xp_ok xp_name known_ok runs W) fun e W' ⟨he, hw⟩ => ?_
  subst he
  exact ⟨_, rfl, post_true (bt := _) Try.laidOut hW' rfl hw (fun t ht => by simp [Try.params4] at ht) (by kernel_rfl) Try.underlying4 rfl⟩

theorem packetKnown_holds : Rows.PacketKnownSaid :=
  OpenClaim.holds_of_wide 4 Try.f4 rfl rfl rfl rfl rfl rfl rfl ⟨rfl, rfl, rfl, rfl, rfl⟩ rfl rfl rfl rfl rfl (by kernel_rfl) Try.func4 (by kernel_rfl)
    (of_decide_eq_true (by kernel_rfl)) (by unfold Func.isWrapper; first | (rw [if_pos (by decide +kernel)]; kernel_rfl) | (rw [if_neg (by decide +kernel)]; exact ⟨rfl, rfl⟩))
    (fun os started H enc _ => packetKnown_lifted os started H enc)
end Go.Proofs.Ytcjkapadadonlaa
