/- For all two raw bodies and every slice of pushes, the law BodyStays of the package doubletakelaw11 returns true, and its arguments read as before. No condition. -/
import Derived.Test.YtbjbhoggbbhblaaRows
import Derived.Test.YtbjbhoggbbhblaaBod7
import Derived.Test.YtbjbhoggbbhblaaArgs
import Derived.Test.YtbjbhoggbbhblaaCl23
set_option linter.unusedSimpArgs false
set_option linter.unusedVariables false
namespace Go.Proofs.Ytbjbhoggbbhblaa
open Go.Cl Go Go.ChangeShapes Go.WideShapes Go.ChangeAt Go.RowKit

theorem Try.own : ownKnob Try.prog.godebug = none := by kernel_rfl
theorem Try.laidOut : laidOutB Try.prog = true := by kernel_rfl
theorem C_prog : C.P = Try.prog := rfl

set_option maxRecDepth 100000 in
theorem bodyStays_lifted (os : Os) (started : os.Started) (H : Type) (enc : TypeId × Value → H) :
    ReturnsInHanded {} Try.checked os 3 .any (Rows.bodyStaysSpec.pre6 enc Try.prog Try.f3 Rows.bodyStaysRow.domain false) (Rows.bodyStaysSpec.post enc Try.prog Try.f3 false true false false) := by
  refine returnsInHanded_of_change (C := Try.checked) Try.own started (by kernel_rfl) Try.func3
    (ChangeSpec.witness6 (enc := enc) (C := Try.checked) false ⟨#[], #[.agg #[.int .i64 0, .int .i64 0, .int .i64 0, .int .i64 0, .int .i64 0, .int .i64 0, .int .i64 0, .int .i64 0, .int .i64 0, .int .i64 0], .agg #[.int .i64 0, .int .i64 0, .int .i64 0, .int .i64 0, .int .i64 0, .int .i64 0, .int .i64 0, .int .i64 0, .int .i64 0, .int .i64 0], .slice none 0 0], []⟩ 8 (by kernel_rfl) (by kernel_rfl) (by kernel_rfl) (by kernel_rfl)) ?_
  intro W base args ds gs before hval0 hW hcnd _
  have hval : ∀ (j : Nat) t v, Try.f3.params[j]? = some t → args[j]? = some v → Value.okWide Try.prog W .any base t v := hval0
  have hW' := hW
  obtain ⟨p, q, hA0, hV, rfl, hfz, hnd⟩ := hW
  have hA : DataW.TrodAll enc Try.prog W 0 (fun _ => true) true Try.f3.params.toList args.toList ds p := hA0
  rw [Try.params3] at hA hval
  obtain ⟨v0, vs0, d0, ds0, p0, q0, ha0, rfl, rfl, h0, hA⟩ := trodAll_cons hA
  obtain ⟨v1, vs1, d1, ds1, p1, q1, rfl, rfl, rfl, h1, hA⟩ := trodAll_cons hA
  obtain ⟨v2, vs2, d2, ds2, p2, q2, rfl, rfl, rfl, h2, hA⟩ := trodAll_cons hA
  obtain ⟨rfl, rfl, rfl⟩ := trodAll_nil hA
  obtain rfl : args = #[v0, v1, v2] := by cases args; simp_all
  obtain ⟨rfl, rfl⟩ := trodVars_none hV
  obtain ⟨c0, r0, t0⟩ := arg_plain (n := 3) (by kernel_rfl) (hval 0 23 v0 rfl rfl) h0
  obtain ⟨c1, r1, t1⟩ := arg_plain (n := 3) (by kernel_rfl) (hval 1 23 v1 rfl rfl) h1
  obtain ⟨tl, l, r2, t2, _⟩ := arg_slice (n := 1) Try.underlying24 (by kernel_rfl) (hval 2 24 v2 rfl rfl) h2
  obtain ⟨x0, x1, x2, x3, x4, x5, x6, x7, x8, x9, rfl⟩ := raw_of t0
  obtain ⟨y0, y1, y2, y3, y4, y5, y6, y7, y8, y9, rfl⟩ := raw_of t1
  obtain ⟨xs, rfl⟩ := ints_of l t2
  have hc := calls_true (w := W) (stays_ok x0 x1 x2 x3 x4 x5 x6 x7 x8 x9 y0 y1 y2 y3 y4 y5 y6 y7 y8 y9 tl xs) (vals := [v0, v1, v2])
    (VRs_cons.2 ⟨r0, VRs_cons.2 ⟨r1, VRs_cons.2 ⟨r2, VRs_nil _⟩⟩⟩)
  refine Calls.mono hc fun e W' ⟨he, hw⟩ => ?_
  subst he
  exact ⟨_, rfl, post_true (bt := 4) Try.laidOut hW' rfl hw (fun t ht => by
    have e : t = 23 ∨ t = 24 := by simpa [Try.params3] using ht
    rcases e with rfl | rfl <;> exact ⟨by kernel_rfl, of_decide_eq_true (by kernel_rfl)⟩) (by kernel_rfl) Try.underlying4 rfl⟩

theorem bodyStays_holds : Rows.BodyStaysSaid :=
  OpenClaim.holds_of_wide 3 Try.f3 rfl rfl rfl rfl rfl rfl rfl ⟨rfl, rfl, rfl, rfl, rfl⟩ rfl rfl rfl rfl rfl (by kernel_rfl) Try.func3 (by kernel_rfl)
    (of_decide_eq_true (by kernel_rfl)) (by unfold Func.isWrapper; first | (rw [if_pos (by decide +kernel)]; kernel_rfl) | (rw [if_neg (by decide +kernel)]; exact ⟨rfl, rfl⟩))
    (fun os started H enc _ => bodyStays_lifted os started H enc)
end Go.Proofs.Ytbjbhoggbbhblaa
