import Derived.Test.YtbjbhoggbbhblaaBod3
set_option linter.unusedSimpArgs false
set_option linter.unusedVariables false
namespace Go.Proofs.Ytbjbhoggbbhblaa
open Go.Cl Go

theorem pick4 (x : Int) : pick x 4 = 0 ∨ pick x 4 = 1 ∨ pick x 4 = 2 ∨ pick x 4 = 3 := by
  have := Int.tmod_lt_of_pos x (b := 4) (by decide)
  have := Int.lt_tmod_of_pos x (b := 4) (by decide)
  unfold pick
  split
  · have h := wrap_i64 (n := x.tmod 4 + 4) (by omega) (by omega)
    simp only [w, h]
    omega
  · omega
theorem pick_ok_c (n m : Int) (hm : decide (m = 0) = false := by decide) : OkP C 17 [I n, I m] (I (pick n m)) := pick_ok n m (by simpa using hm)
set_option maxHeartbeats 4000000 in
theorem of_ok (x0 x1 x2 x3 x4 x5 x6 x7 x8 x9 : Int) : OkR C 10 [.agg [I x0, I x1, I x2, I x3, I x4, I x5, I x6, I x7, I x8, I x9]] (fun v => ∃ b, v = enc b) := by
  refine okR_of (c := Try.f10.body.getD .skip) (rs := Try.f10.results.toList) (n := Try.f10.ntmps) ⟨⟨Try.f10, Try.func10, rfl, rfl, rfl, rfl⟩, by kernel_rfl, by kernel_rfl⟩ (by simp [Try.ntmps10]) ?_
  intro h Q hq
  unfold Try.f10
  simp only [Option.getD_some]
  all_goals repeat' (first
    | with_reducible refine wp_seq' ?_
    | with_reducible refine then_normal ?_
    | with_reducible refine then_ret ?_
    | with_reducible refine then_exit ?_
    | with_reducible refine then_pan ?_
    | with_reducible refine in_normal ?_
    | with_reducible refine in_ret ?_
    | with_reducible refine in_exit ?_
    | ((with_reducible apply in_far); (solve | rfl))
    | with_reducible refine in_pan ?_
    | ((with_reducible refine wp_region' ?_); simp only [])
    | with_reducible refine wp_ret' ?_
    | with_reducible refine wp_skip' ?_
    | with_reducible refine wp_block' ?_
    | with_reducible refine wp_exit' ?_
    | with_reducible refine turns_in ?_
    | with_reducible refine turns_next ?_
    | with_reducible refine ops_nil ?_
    | ((with_reducible refine wp_cond' (t := true) ?_ (fun _ => ?_) (fun hb => absurd hb (by decide))); (solve | (simp [*, wrap_i64]; done)))
    | ((with_reducible refine wp_cond' (t := false) ?_ (fun hb => absurd hb (by decide)) (fun _ => ?_)); (solve | (simp [*, wrap_i64]; done)))
    | ((with_reducible apply wp_condv); (solve | (simp [*, wrap_i64]; done) | (simp [*, wrap_i64]; rfl) | rfl); (solve | rfl); (fail_if_success (with_reducible show true = true → _)); (fail_if_success (with_reducible show false = true → _)); (rotate_left 1; intro hb; (try simp only [Bool.not_eq_true', Bool.not_eq_false'] at hb); rotate_right 1; intro hb; (try simp only [Bool.not_eq_true', Bool.not_eq_false'] at hb)))
    | ((with_reducible apply ops_on); (solve | simp [*, wrap_i64]); (solve | (simp [*, wrap_i64]; done) | (simp [*, wrap_i64]; rfl) | rfl))
    | ((with_reducible apply ops_off); (solve | simp [*, wrap_i64]))
    | ((with_reducible apply ops_pcall); (solve | simp [*, wrap_i64]); (solve | rfl); (solve | (simp [*, wrap_i64]; done) | (simp [*, wrap_i64]; rfl) | rfl); (solve | (simp [*, wrap_i64]; done) | (simp [*, wrap_i64]; rfl) | rfl); (solve | apply pick_ok_c | (apply pick_ok_c; (solve | decide | simp [*, wrap_i64]))))
    | ((with_reducible apply ops_alloc); (solve | simp [*, wrap_i64]); (solve | rfl); (solve | rfl | simp); (intro i_ hi_; (try simp only [upd_none] at hi_)))
    | ((with_reducible apply ops_box); (solve | simp [*, wrap_i64]); (solve | rfl); (solve | rfl | simp); (solve | (simp [*, wrap_i64]; done) | (simp [*, wrap_i64]; rfl) | rfl); (solve | rfl | simp [*, wrap_i64]); (intro i_ hi_; (try simp only [upd_none] at hi_)))
    | ((with_reducible apply ops_store); (solve | simp [*, wrap_i64]); (solve | rfl); (solve | rfl | simp); (solve | (simp [*, wrap_i64]; done) | (simp [*, wrap_i64]; rfl) | rfl); (solve | (simp [*, wrap_i64]; done) | (simp [*, wrap_i64]; rfl) | rfl); (solve | (simp [*, wrap_i64]; done) | (simp [*, wrap_i64]; rfl) | rfl); (solve | (simp [*, wrap_i64]; done) | (simp [*, wrap_i64]; rfl) | rfl); (solve | (simp [*, wrap_i64]; done) | (simp [*, wrap_i64]; rfl) | rfl); (solve | (simp [*, wrap_i64]; done) | (simp [*, wrap_i64]; rfl) | rfl))
    | ((with_reducible apply ops_splitv); (solve | (simp [*, wrap_i64]; done) | (simp [*, wrap_i64]; rfl) | rfl); (solve | rfl); (fail_if_success (with_reducible show true = true → _)); (fail_if_success (with_reducible show false = true → _)); (rotate_left 1; intro hb; (try simp only [Bool.not_eq_true', Bool.not_eq_false'] at hb); rotate_right 1; intro hb; (try simp only [Bool.not_eq_true', Bool.not_eq_false'] at hb)))
    | ((with_reducible refine wp_draw (i := 1) 29 (by kernel_rfl) ?_); simp only [List.take_succ_cons, List.take_zero, List.drop_succ_cons, List.drop_zero])
    | ((with_reducible refine wp_draw (i := 2) 9 (by kernel_rfl) ?_); simp only [List.take_succ_cons, List.take_zero, List.drop_succ_cons, List.drop_zero])
    | with_reducible refine dr_nil ?_
    | ((with_reducible apply dr_on); (solve | simp [*, wrap_i64]); (solve | (simp [*, wrap_i64]; done) | (simp [*, wrap_i64]; rfl) | rfl))
    | ((with_reducible apply dr_off); (solve | simp [*, wrap_i64]))
    | ((with_reducible apply dr_alloc); (solve | simp [*, wrap_i64]); (solve | rfl); (solve | (simp [*, wrap_i64]; done) | (simp [*, wrap_i64]; rfl) | rfl))
    | ((with_reducible apply dr_pcall); (solve | simp [*, wrap_i64]); (solve | rfl); (solve | (simp [*, wrap_i64]; done) | (simp [*, wrap_i64]; rfl) | rfl); (solve | (simp [*, wrap_i64]; done) | (simp [*, wrap_i64]; rfl) | rfl); (solve | apply pick_ok_c | (apply pick_ok_c; (solve | decide | simp [*, wrap_i64]))))
    | ((with_reducible apply dr_splitv); (solve | (simp [*, wrap_i64]; done) | (simp [*, wrap_i64]; rfl) | rfl); (solve | rfl); (fail_if_success (with_reducible show true = true → _)); (fail_if_success (with_reducible show false = true → _)); (rotate_left 1; intro hb; (try simp only [Bool.not_eq_true', Bool.not_eq_false'] at hb); rotate_right 1; intro hb; (try simp only [Bool.not_eq_true', Bool.not_eq_false'] at hb)))
    | ((with_reducible apply pre_skip); (solve | rfl))
    | with_reducible refine pre_nil ?_
    | ((with_reducible apply pre_alloc); (solve | rfl); (solve | rfl | simp); (intro i_ hi_; (try simp only [upd_none] at hi_)))
    | ((with_reducible apply body_ret); (solve | (simp [*, wrap_i64]; done) | (simp [*, wrap_i64]; rfl)); simp only [pack])
    | ((with_reducible apply body_normal); (solve | (simp [*, wrap_i64]; done) | (simp [*, wrap_i64]; rfl)); simp only [pack]))
  rcases pick4 x7 with hp | hp | hp | hp
  all_goals repeat' (first
    | with_reducible refine wp_seq' ?_
    | with_reducible refine then_normal ?_
    | with_reducible refine then_ret ?_
    | with_reducible refine then_exit ?_
    | with_reducible refine then_pan ?_
    | with_reducible refine in_normal ?_
    | with_reducible refine in_ret ?_
    | with_reducible refine in_exit ?_
    | ((with_reducible apply in_far); (solve | rfl))
    | with_reducible refine in_pan ?_
    | ((with_reducible refine wp_region' ?_); simp only [])
    | with_reducible refine wp_ret' ?_
    | with_reducible refine wp_skip' ?_
    | with_reducible refine wp_block' ?_
    | with_reducible refine wp_exit' ?_
    | with_reducible refine turns_in ?_
    | with_reducible refine turns_next ?_
    | with_reducible refine ops_nil ?_
    | ((with_reducible refine wp_cond' (t := true) ?_ (fun _ => ?_) (fun hb => absurd hb (by decide))); (solve | (simp [*, wrap_i64]; done)))
    | ((with_reducible refine wp_cond' (t := false) ?_ (fun hb => absurd hb (by decide)) (fun _ => ?_)); (solve | (simp [*, wrap_i64]; done)))
    | ((with_reducible apply wp_condv); (solve | (simp [*, wrap_i64]; done) | (simp [*, wrap_i64]; rfl) | rfl); (solve | rfl); (fail_if_success (with_reducible show true = true → _)); (fail_if_success (with_reducible show false = true → _)); (rotate_left 1; intro hb; (try simp only [Bool.not_eq_true', Bool.not_eq_false'] at hb); rotate_right 1; intro hb; (try simp only [Bool.not_eq_true', Bool.not_eq_false'] at hb)))
    | ((with_reducible apply ops_on); (solve | simp [*, wrap_i64]); (solve | (simp [*, wrap_i64]; done) | (simp [*, wrap_i64]; rfl) | rfl))
    | ((with_reducible apply ops_off); (solve | simp [*, wrap_i64]))
    | ((with_reducible apply ops_pcall); (solve | simp [*, wrap_i64]); (solve | rfl); (solve | (simp [*, wrap_i64]; done) | (simp [*, wrap_i64]; rfl) | rfl); (solve | (simp [*, wrap_i64]; done) | (simp [*, wrap_i64]; rfl) | rfl); (solve | apply pick_ok_c | (apply pick_ok_c; (solve | decide | simp [*, wrap_i64]))))
    | ((with_reducible apply ops_alloc); (solve | simp [*, wrap_i64]); (solve | rfl); (solve | rfl | simp); (intro i_ hi_; (try simp only [upd_none] at hi_)))
    | ((with_reducible apply ops_box); (solve | simp [*, wrap_i64]); (solve | rfl); (solve | rfl | simp); (solve | (simp [*, wrap_i64]; done) | (simp [*, wrap_i64]; rfl) | rfl); (solve | rfl | simp [*, wrap_i64]); (intro i_ hi_; (try simp only [upd_none] at hi_)))
    | ((with_reducible apply ops_store); (solve | simp [*, wrap_i64]); (solve | rfl); (solve | rfl | simp); (solve | (simp [*, wrap_i64]; done) | (simp [*, wrap_i64]; rfl) | rfl); (solve | (simp [*, wrap_i64]; done) | (simp [*, wrap_i64]; rfl) | rfl); (solve | (simp [*, wrap_i64]; done) | (simp [*, wrap_i64]; rfl) | rfl); (solve | (simp [*, wrap_i64]; done) | (simp [*, wrap_i64]; rfl) | rfl); (solve | (simp [*, wrap_i64]; done) | (simp [*, wrap_i64]; rfl) | rfl); (solve | (simp [*, wrap_i64]; done) | (simp [*, wrap_i64]; rfl) | rfl))
    | ((with_reducible apply ops_splitv); (solve | (simp [*, wrap_i64]; done) | (simp [*, wrap_i64]; rfl) | rfl); (solve | rfl); (fail_if_success (with_reducible show true = true → _)); (fail_if_success (with_reducible show false = true → _)); (rotate_left 1; intro hb; (try simp only [Bool.not_eq_true', Bool.not_eq_false'] at hb); rotate_right 1; intro hb; (try simp only [Bool.not_eq_true', Bool.not_eq_false'] at hb)))
    | ((with_reducible refine wp_draw (i := 1) 29 (by kernel_rfl) ?_); simp only [List.take_succ_cons, List.take_zero, List.drop_succ_cons, List.drop_zero])
    | ((with_reducible refine wp_draw (i := 2) 9 (by kernel_rfl) ?_); simp only [List.take_succ_cons, List.take_zero, List.drop_succ_cons, List.drop_zero])
    | with_reducible refine dr_nil ?_
    | ((with_reducible apply dr_on); (solve | simp [*, wrap_i64]); (solve | (simp [*, wrap_i64]; done) | (simp [*, wrap_i64]; rfl) | rfl))
    | ((with_reducible apply dr_off); (solve | simp [*, wrap_i64]))
    | ((with_reducible apply dr_alloc); (solve | simp [*, wrap_i64]); (solve | rfl); (solve | (simp [*, wrap_i64]; done) | (simp [*, wrap_i64]; rfl) | rfl))
    | ((with_reducible apply dr_pcall); (solve | simp [*, wrap_i64]); (solve | rfl); (solve | (simp [*, wrap_i64]; done) | (simp [*, wrap_i64]; rfl) | rfl); (solve | (simp [*, wrap_i64]; done) | (simp [*, wrap_i64]; rfl) | rfl); (solve | apply pick_ok_c | (apply pick_ok_c; (solve | decide | simp [*, wrap_i64]))))
    | ((with_reducible apply dr_splitv); (solve | (simp [*, wrap_i64]; done) | (simp [*, wrap_i64]; rfl) | rfl); (solve | rfl); (fail_if_success (with_reducible show true = true → _)); (fail_if_success (with_reducible show false = true → _)); (rotate_left 1; intro hb; (try simp only [Bool.not_eq_true', Bool.not_eq_false'] at hb); rotate_right 1; intro hb; (try simp only [Bool.not_eq_true', Bool.not_eq_false'] at hb)))
    | ((with_reducible apply pre_skip); (solve | rfl))
    | with_reducible refine pre_nil ?_
    | ((with_reducible apply pre_alloc); (solve | rfl); (solve | rfl | simp); (intro i_ hi_; (try simp only [upd_none] at hi_)))
    | ((with_reducible apply body_ret); (solve | (simp [*, wrap_i64]; done) | (simp [*, wrap_i64]; rfl)); simp only [pack])
    | ((with_reducible apply body_normal); (solve | (simp [*, wrap_i64]; done) | (simp [*, wrap_i64]; rfl)); simp only [pack]))
  all_goals (refine leafR hq ?_ ?_)
  all_goals first | (solve | (repeat' (first | exact HLe.refl _ | ((with_reducible refine hle_upd ?_ ?_); (solve | simp [*]))))) | exact ⟨⟨_, _, _, _, _, _, _, _, _, _, _, _⟩, rfl⟩ | skip
  all_goals trace_state
end Go.Proofs.Ytbjbhoggbbhblaa
