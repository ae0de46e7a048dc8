import Derived.Test.YtbjbhoggbbhblaaBod3
set_option linter.unusedSimpArgs false
set_option linter.unusedVariables false
namespace Go.Proofs.Ytbjbhoggbbhblaa
open Go.Cl Go

theorem e1 : born 0 1 = ⟨1, 0, 2048, 2048, 0, 0, 0, 0, 0, 0, 0, 0⟩ := by decide
theorem e2 : Body.push ⟨1, 0, 2048, 2048, 0, 0, 0, 0, 0, 0, 0, 0⟩ 3 (-200) = ⟨1, 0, 2048, 2048, 3, -64, 0, 0, 0, 0, 0, 0⟩ := by decide
theorem e3 : Body.move ⟨1, 0, 2048, 2048, 3, -64, 0, 0, 0, 0, 0, 0⟩ = (⟨1, 0, 2051, 1984, 3, -64, 1, 0, 0, 0, 0, 0⟩, true) := by decide
theorem e4 : Body.right ⟨1, 0, 2051, 1984, 3, -64, 1, 0, 0, 0, 0, 0⟩ = true := by decide
set_option maxHeartbeats 4000000 in
theorem known_ok  : OkP C 11 [] (Bo true) := by
  refine okP_of (c := Try.f11.body.getD .skip) (rs := Try.f11.results.toList) (n := Try.f11.ntmps) ⟨⟨Try.f11, Try.func11, rfl, rfl, rfl, rfl⟩, by kernel_rfl, by kernel_rfl⟩ (by simp [Try.ntmps11]) ?_
  intro h Q hq
  unfold Try.f11
  simp only [Option.getD_some]
  all_goals repeat' (first
    | with_reducible refine wp_seq' ?_
    | with_reducible refine then_normal ?_
    | with_reducible refine then_ret ?_
    | with_reducible refine then_exit ?_
    | with_reducible refine then_pan ?_
    | with_reducible refine in_normal ?_
    | with_reducible refine in_ret ?_
    | with_reducible refine in_exit ?_
    | ((with_reducible apply in_far); (solve | rfl))
    | with_reducible refine in_pan ?_
    | ((with_reducible refine wp_region' ?_); simp only [])
    | with_reducible refine wp_ret' ?_
    | with_reducible refine wp_skip' ?_
    | with_reducible refine wp_block' ?_
    | with_reducible refine wp_exit' ?_
    | with_reducible refine turns_in ?_
    | with_reducible refine turns_next ?_
    | with_reducible refine ops_nil ?_
    | ((with_reducible refine wp_cond' (t := true) ?_ (fun _ => ?_) (fun hb => absurd hb (by decide))); (solve | (simp [*, wrap_i64, enc, e1, e2, e3, e4]; done)))
    | ((with_reducible refine wp_cond' (t := false) ?_ (fun hb => absurd hb (by decide)) (fun _ => ?_)); (solve | (simp [*, wrap_i64, enc, e1, e2, e3, e4]; done)))
    | ((with_reducible apply wp_condv); (solve | (simp [*, wrap_i64, enc, e1, e2, e3, e4]; done) | (simp [*, wrap_i64, enc, e1, e2, e3, e4]; rfl) | rfl); (solve | rfl); (fail_if_success (with_reducible show true = true → _)); (fail_if_success (with_reducible show false = true → _)); (rotate_left 1; intro hb; (try simp only [Bool.not_eq_true', Bool.not_eq_false'] at hb); rotate_right 1; intro hb; (try simp only [Bool.not_eq_true', Bool.not_eq_false'] at hb)))
    | ((with_reducible apply ops_on); (solve | simp [*, wrap_i64, enc, e1, e2, e3, e4]); (solve | (simp [*, wrap_i64, enc, e1, e2, e3, e4]; done) | (simp [*, wrap_i64, enc, e1, e2, e3, e4]; rfl) | rfl))
    | ((with_reducible apply ops_off); (solve | simp [*, wrap_i64, enc, e1, e2, e3, e4]))
    | ((with_reducible apply ops_pcall); (solve | simp [*, wrap_i64, enc, e1, e2, e3, e4]); (solve | rfl); (solve | (simp [*, wrap_i64, enc, e1, e2, e3, e4]; done) | (simp [*, wrap_i64, enc, e1, e2, e3, e4]; rfl) | rfl); (solve | (simp [*, wrap_i64, enc, e1, e2, e3, e4]; done) | (simp [*, wrap_i64, enc, e1, e2, e3, e4]; rfl) | rfl); (solve | apply born_ok | (apply born_ok; (solve | decide | simp [*, wrap_i64, enc, e1, e2, e3, e4]))))
    | ((with_reducible apply ops_pcall); (solve | simp [*, wrap_i64, enc, e1, e2, e3, e4]); (solve | rfl); (solve | (simp [*, wrap_i64, enc, e1, e2, e3, e4]; done) | (simp [*, wrap_i64, enc, e1, e2, e3, e4]; rfl) | rfl); (solve | (simp [*, wrap_i64, enc, e1, e2, e3, e4]; done) | (simp [*, wrap_i64, enc, e1, e2, e3, e4]; rfl) | rfl); (solve | apply (right_ok ⟨_, _, _, _, _, _, _, _, _, _, _, _⟩) | (apply (right_ok ⟨_, _, _, _, _, _, _, _, _, _, _, _⟩); (solve | decide | simp [*, wrap_i64, enc, e1, e2, e3, e4]))))
    | ((with_reducible apply ops_pcall); (solve | simp [*, wrap_i64, enc, e1, e2, e3, e4]); (solve | rfl); (solve | (simp [*, wrap_i64, enc, e1, e2, e3, e4]; done) | (simp [*, wrap_i64, enc, e1, e2, e3, e4]; rfl) | rfl); (solve | (simp [*, wrap_i64, enc, e1, e2, e3, e4]; done) | (simp [*, wrap_i64, enc, e1, e2, e3, e4]; rfl) | rfl); (solve | apply (push_ok ⟨_, _, _, _, _, _, _, _, _, _, _, _⟩) | (apply (push_ok ⟨_, _, _, _, _, _, _, _, _, _, _, _⟩); (solve | decide | simp [*, wrap_i64, enc, e1, e2, e3, e4]))))
    | ((with_reducible apply ops_pcall); (solve | simp [*, wrap_i64, enc, e1, e2, e3, e4]); (solve | rfl); (solve | (simp [*, wrap_i64, enc, e1, e2, e3, e4]; done) | (simp [*, wrap_i64, enc, e1, e2, e3, e4]; rfl) | rfl); (solve | (simp [*, wrap_i64, enc, e1, e2, e3, e4]; done) | (simp [*, wrap_i64, enc, e1, e2, e3, e4]; rfl) | rfl); (solve | apply (move_ok ⟨_, _, _, _, _, _, _, _, _, _, _, _⟩) | (apply (move_ok ⟨_, _, _, _, _, _, _, _, _, _, _, _⟩); (solve | decide | simp [*, wrap_i64, enc, e1, e2, e3, e4]))))
    | ((with_reducible apply ops_alloc); (solve | simp [*, wrap_i64, enc, e1, e2, e3, e4]); (solve | rfl); (solve | rfl | simp); (intro i_ hi_; (try simp only [upd_none] at hi_)))
    | ((with_reducible apply ops_box); (solve | simp [*, wrap_i64, enc, e1, e2, e3, e4]); (solve | rfl); (solve | rfl | simp); (solve | (simp [*, wrap_i64, enc, e1, e2, e3, e4]; done) | (simp [*, wrap_i64, enc, e1, e2, e3, e4]; rfl) | rfl); (solve | rfl | simp [*, wrap_i64, enc, e1, e2, e3, e4]); (intro i_ hi_; (try simp only [upd_none] at hi_)))
    | ((with_reducible apply ops_store); (solve | simp [*, wrap_i64, enc, e1, e2, e3, e4]); (solve | rfl); (solve | rfl | simp); (solve | (simp [*, wrap_i64, enc, e1, e2, e3, e4]; done) | (simp [*, wrap_i64, enc, e1, e2, e3, e4]; rfl) | rfl); (solve | (simp [*, wrap_i64, enc, e1, e2, e3, e4]; done) | (simp [*, wrap_i64, enc, e1, e2, e3, e4]; rfl) | rfl); (solve | (simp [*, wrap_i64, enc, e1, e2, e3, e4]; done) | (simp [*, wrap_i64, enc, e1, e2, e3, e4]; rfl) | rfl); (solve | (simp [*, wrap_i64, enc, e1, e2, e3, e4]; done) | (simp [*, wrap_i64, enc, e1, e2, e3, e4]; rfl) | rfl); (solve | (simp [*, wrap_i64, enc, e1, e2, e3, e4]; done) | (simp [*, wrap_i64, enc, e1, e2, e3, e4]; rfl) | rfl); (solve | (simp [*, wrap_i64, enc, e1, e2, e3, e4]; done) | (simp [*, wrap_i64, enc, e1, e2, e3, e4]; rfl) | rfl))
    | ((with_reducible apply ops_splitv); (solve | (simp [*, wrap_i64, enc, e1, e2, e3, e4]; done) | (simp [*, wrap_i64, enc, e1, e2, e3, e4]; rfl) | rfl); (solve | rfl); (fail_if_success (with_reducible show true = true → _)); (fail_if_success (with_reducible show false = true → _)); (rotate_left 1; intro hb; (try simp only [Bool.not_eq_true', Bool.not_eq_false'] at hb); rotate_right 1; intro hb; (try simp only [Bool.not_eq_true', Bool.not_eq_false'] at hb)))
    | with_reducible refine dr_nil ?_
    | ((with_reducible apply dr_on); (solve | simp [*, wrap_i64, enc, e1, e2, e3, e4]); (solve | (simp [*, wrap_i64, enc, e1, e2, e3, e4]; done) | (simp [*, wrap_i64, enc, e1, e2, e3, e4]; rfl) | rfl))
    | ((with_reducible apply dr_off); (solve | simp [*, wrap_i64, enc, e1, e2, e3, e4]))
    | ((with_reducible apply dr_alloc); (solve | simp [*, wrap_i64, enc, e1, e2, e3, e4]); (solve | rfl); (solve | (simp [*, wrap_i64, enc, e1, e2, e3, e4]; done) | (simp [*, wrap_i64, enc, e1, e2, e3, e4]; rfl) | rfl))
    | ((with_reducible apply dr_pcall); (solve | simp [*, wrap_i64, enc, e1, e2, e3, e4]); (solve | rfl); (solve | (simp [*, wrap_i64, enc, e1, e2, e3, e4]; done) | (simp [*, wrap_i64, enc, e1, e2, e3, e4]; rfl) | rfl); (solve | (simp [*, wrap_i64, enc, e1, e2, e3, e4]; done) | (simp [*, wrap_i64, enc, e1, e2, e3, e4]; rfl) | rfl); (solve | apply born_ok | (apply born_ok; (solve | decide | simp [*, wrap_i64, enc, e1, e2, e3, e4]))))
    | ((with_reducible apply dr_pcall); (solve | simp [*, wrap_i64, enc, e1, e2, e3, e4]); (solve | rfl); (solve | (simp [*, wrap_i64, enc, e1, e2, e3, e4]; done) | (simp [*, wrap_i64, enc, e1, e2, e3, e4]; rfl) | rfl); (solve | (simp [*, wrap_i64, enc, e1, e2, e3, e4]; done) | (simp [*, wrap_i64, enc, e1, e2, e3, e4]; rfl) | rfl); (solve | apply (right_ok ⟨_, _, _, _, _, _, _, _, _, _, _, _⟩) | (apply (right_ok ⟨_, _, _, _, _, _, _, _, _, _, _, _⟩); (solve | decide | simp [*, wrap_i64, enc, e1, e2, e3, e4]))))
    | ((with_reducible apply dr_pcall); (solve | simp [*, wrap_i64, enc, e1, e2, e3, e4]); (solve | rfl); (solve | (simp [*, wrap_i64, enc, e1, e2, e3, e4]; done) | (simp [*, wrap_i64, enc, e1, e2, e3, e4]; rfl) | rfl); (solve | (simp [*, wrap_i64, enc, e1, e2, e3, e4]; done) | (simp [*, wrap_i64, enc, e1, e2, e3, e4]; rfl) | rfl); (solve | apply (push_ok ⟨_, _, _, _, _, _, _, _, _, _, _, _⟩) | (apply (push_ok ⟨_, _, _, _, _, _, _, _, _, _, _, _⟩); (solve | decide | simp [*, wrap_i64, enc, e1, e2, e3, e4]))))
    | ((with_reducible apply dr_pcall); (solve | simp [*, wrap_i64, enc, e1, e2, e3, e4]); (solve | rfl); (solve | (simp [*, wrap_i64, enc, e1, e2, e3, e4]; done) | (simp [*, wrap_i64, enc, e1, e2, e3, e4]; rfl) | rfl); (solve | (simp [*, wrap_i64, enc, e1, e2, e3, e4]; done) | (simp [*, wrap_i64, enc, e1, e2, e3, e4]; rfl) | rfl); (solve | apply (move_ok ⟨_, _, _, _, _, _, _, _, _, _, _, _⟩) | (apply (move_ok ⟨_, _, _, _, _, _, _, _, _, _, _, _⟩); (solve | decide | simp [*, wrap_i64, enc, e1, e2, e3, e4]))))
    | ((with_reducible apply dr_splitv); (solve | (simp [*, wrap_i64, enc, e1, e2, e3, e4]; done) | (simp [*, wrap_i64, enc, e1, e2, e3, e4]; rfl) | rfl); (solve | rfl); (fail_if_success (with_reducible show true = true → _)); (fail_if_success (with_reducible show false = true → _)); (rotate_left 1; intro hb; (try simp only [Bool.not_eq_true', Bool.not_eq_false'] at hb); rotate_right 1; intro hb; (try simp only [Bool.not_eq_true', Bool.not_eq_false'] at hb)))
    | ((with_reducible apply pre_skip); (solve | rfl))
    | with_reducible refine pre_nil ?_
    | ((with_reducible apply pre_alloc); (solve | rfl); (solve | rfl | simp); (intro i_ hi_; (try simp only [upd_none] at hi_)))
    | ((with_reducible apply body_ret); (solve | (simp [*, wrap_i64, enc, e1, e2, e3, e4]; done) | (simp [*, wrap_i64, enc, e1, e2, e3, e4]; rfl)); simp only [pack])
    | ((with_reducible apply body_normal); (solve | (simp [*, wrap_i64, enc, e1, e2, e3, e4]; done) | (simp [*, wrap_i64, enc, e1, e2, e3, e4]; rfl)); simp only [pack]))
  all_goals (refine leaf hq ?_ ?_)
  all_goals first | (solve | (repeat' (first | exact HLe.refl _ | ((with_reducible refine hle_upd ?_ ?_); (solve | simp [*]))))) | (simp [*]; done) | (simp_all []; done) | (simp_all []; omega) | (simp_all [Int.not_lt.mpr, Int.not_le.mpr]; done) | skip
end Go.Proofs.Ytbjbhoggbbhblaa
