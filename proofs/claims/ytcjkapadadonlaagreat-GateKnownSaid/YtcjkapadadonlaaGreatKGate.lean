/- The closed law GateKnown returns true: the interpreter over clean values runs it to its end, in parts, and is sound. No condition. -/
import Derived.Test.YtcjkapadadonlaaGreatKGate2
import Derived.Test.YtcjkapadadonlaaGreatRows
import Derived.ProofKit
set_option linter.unusedSimpArgs false
set_option linter.unusedVariables false
namespace Go.Proofs.YtcjkapadadonlaaGreat
open Go.Cl Go Go.ChangeShapes Go.WideShapes Go.ChangeAt Go.RowKit

noncomputable def known : XCall := memo 143 a0 162 p0 (resOf true v0 5070 q0) (memo 10 a1 5357 p1 (resOf true v1 5467 q1) (memo 12 a2 5615 p2 (resOf true v2 5725 q2) (memo 143 a3 5728 p3 (resOf true v3 10636 q3) (memo 10 a4 10651 p4 (resOf true v4 10761 q4) (memo 143 a5 10764 p5 (resOf true v5 15672 q5) (memo 10 a6 15704 p6 (resOf true v6 15814 q6) (memo 143 a7 15817 p7 (resOf true v7 20725 q7) (memo 12 a8 20771 p8 (resOf true v8 20881 q8) (memo 143 a9 20884 p9 (resOf true v9 25792 q9) (memo 10 a10 25837 p10 (resOf true v10 25947 q10) (memo 143 a11 25950 p11 (resOf true v11 30858 q11) (memo 14 a12 30873 p12 (resOf true v12 33425 q12) (memo 15 a13 33463 p13 (resOf true v13 36281 q13) (noCall))))))))))))))
theorem known_ok : CallOk C known := memo_ok C k0 (memo_ok C k1 (memo_ok C k2 (memo_ok C k3 (memo_ok C k4 (memo_ok C k5 (memo_ok C k6 (memo_ok C k7 (memo_ok C k8 (memo_ok C k9 (memo_ok C k10 (memo_ok C k11 (memo_ok C k12 (memo_ok C k13 (noCall_ok C))))))))))))))
set_option maxRecDepth 1000000 in
theorem runs : isTrue (trun C xp known 100000 3 [] ⟨0, .e⟩) = true := by kernel_rfl

set_option maxRecDepth 100000 in
theorem gateKnown_lifted (os : Os) (started : os.Started) (H : Type) (enc : TypeId × Value → H) :
    ReturnsInHanded {} Tryz.checked os 3 .any (Rows.gateKnownSpec.pre6 enc Tryz.prog Tryz.f3 Rows.gateKnownRow.domain false) (Rows.gateKnownSpec.post enc Tryz.prog Tryz.f3 false true false false) := by
  refine returnsInHanded_of_change (C := Tryz.checked) Tryz.own started (by kernel_rfl) Tryz.func3
    (ChangeSpec.witness6 (enc := enc) (C := Tryz.checked) false ⟨#[], #[], []⟩ 8 (by kernel_rfl) (by kernel_rfl) (by kernel_rfl) (by kernel_rfl)) ?_
  intro W base args ds gs before hval0 hW hcnd _
  have hW' := hW
  obtain ⟨p, q, hA0, hV, rfl, hfz, hnd⟩ := hW
  have hA : DataW.TrodAll enc Tryz.prog W 0 (fun _ => true) true Tryz.f3.params.toList args.toList ds p := hA0
  rw [Tryz.params3] at hA
  have hargs : args = #[] ∧ ds = [] := by
    cases hl : args.toList with
    | nil =>
      rw [hl] at hA
      cases ds with
      | nil => exact ⟨by apply Array.ext'; simpa using hl, rfl⟩
      | cons d ds => exact hA.elim
    | cons v l => rw [hl] at hA; exact hA.elim
  obtain ⟨rfl, rfl⟩ := hargs
  obtain ⟨rfl, rfl⟩ := trodVars_none hV
  refine Calls.mono (closed_table C xp_ok xp_name known_ok runs W) fun e W' ⟨he, hw⟩ => ?_
  subst he
  exact ⟨_, rfl, post_true (bt := _) Tryz.laidOut hW' rfl hw (fun t ht => by simp [Tryz.params3] at ht) (by kernel_rfl) Tryz.underlying4 rfl⟩

theorem gateKnown_holds : Rows.GateKnownSaid :=
  OpenClaim.holds_of_wide 3 Tryz.f3 rfl rfl rfl rfl rfl rfl rfl ⟨rfl, rfl, rfl, rfl, rfl⟩ rfl rfl rfl rfl rfl (by kernel_rfl) Tryz.func3 (by kernel_rfl)
    (of_decide_eq_true (by kernel_rfl)) (by unfold Func.isWrapper; first | (rw [if_pos (by decide +kernel)]; kernel_rfl) | (rw [if_neg (by decide +kernel)]; exact ⟨rfl, rfl⟩))
    (fun os started H enc _ => gateKnown_lifted os started H enc)
end Go.Proofs.YtcjkapadadonlaaGreat
