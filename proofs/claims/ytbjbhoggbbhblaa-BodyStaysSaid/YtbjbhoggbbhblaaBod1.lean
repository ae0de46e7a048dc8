import Derived.Test.YtbjbhoggbbhblaaBod0
set_option linter.unusedSimpArgs false
set_option linter.unusedVariables false
namespace Go.Proofs.Ytbjbhoggbbhblaa
open Go.Cl Go
def Body.right (b : Body) : Bool :=
  if b.k = 0 then decide (b = nobody) else
  within b.m0 (-1000000) 1000000 && within b.m1 (-1000000) 1000000 && within b.m2 (-1000000) 1000000 && within b.m3 (-1000000) 1000000 &&
  ((decide (b.k = 1) || decide (b.k = 2)) && within b.o 0 7 && (within b.x 0 4095 && within b.y 0 4095) && (within b.vx (-64) 64 && within b.vy (-64) 64) && within b.age 0 600 && within b.f 0 65535)
set_option maxHeartbeats 4000000 in
theorem right_ok (b : Body) : OkP C 12 [enc b] (Bo b.right) := by
  refine okP_of (c := Try.f12.body.getD .skip) (rs := Try.f12.results.toList) (n := Try.f12.ntmps) ⟨⟨Try.f12, Try.func12, rfl, rfl, rfl, rfl⟩, by kernel_rfl, by kernel_rfl⟩ (by simp [Try.ntmps12]) ?_
  intro h Q hq
  unfold Try.f12
  simp only [Option.getD_some]
  repeat' (first
    | with_reducible refine wp_seq' ?_
    | with_reducible refine then_normal ?_
    | with_reducible refine then_ret ?_
    | with_reducible refine then_exit ?_
    | with_reducible refine then_pan ?_
    | with_reducible refine in_normal ?_
    | with_reducible refine in_ret ?_
    | with_reducible refine in_exit ?_
    | ((with_reducible apply in_far); (solve | rfl))
    | with_reducible refine in_pan ?_
    | ((with_reducible refine wp_region' ?_); simp only [])
    | with_reducible refine wp_ret' ?_
    | with_reducible refine wp_skip' ?_
    | with_reducible refine wp_block' ?_
    | with_reducible refine wp_exit' ?_
    | with_reducible refine turns_in ?_
    | with_reducible refine turns_next ?_
    | with_reducible refine ops_nil ?_
    | ((with_reducible refine wp_cond' (t := true) ?_ (fun _ => ?_) (fun hb => absurd hb (by decide))); (solve | (simp [*, enc, wrap_i64]; done)))
    | ((with_reducible refine wp_cond' (t := false) ?_ (fun hb => absurd hb (by decide)) (fun _ => ?_)); (solve | (simp [*, enc, wrap_i64]; done)))
    | ((with_reducible apply wp_condv); (solve | (simp [*, enc, wrap_i64]; done) | (simp [*, enc, wrap_i64]; rfl) | rfl); (solve | rfl); (fail_if_success (with_reducible show true = true → _)); (fail_if_success (with_reducible show false = true → _)); (rotate_left 1; intro hb; (try simp only [Bool.not_eq_true', Bool.not_eq_false'] at hb); rotate_right 1; intro hb; (try simp only [Bool.not_eq_true', Bool.not_eq_false'] at hb)))
    | ((with_reducible apply ops_on); (solve | simp [*, enc, wrap_i64]); (solve | (simp [*, enc, wrap_i64]; done) | (simp [*, enc, wrap_i64]; rfl) | rfl))
    | ((with_reducible apply ops_off); (solve | simp [*, enc, wrap_i64]))
    | ((with_reducible apply ops_pcall); (solve | simp [*, enc, wrap_i64]); (solve | rfl); (solve | (simp [*, enc, wrap_i64]; done) | (simp [*, enc, wrap_i64]; rfl) | rfl); (solve | (simp [*, enc, wrap_i64]; done) | (simp [*, enc, wrap_i64]; rfl) | rfl); (solve | apply within_ok))
    | ((with_reducible apply ops_alloc); (solve | simp [*, enc, wrap_i64]); (solve | rfl); (solve | rfl | simp); (intro i_ hi_; (try simp only [upd_none] at hi_)))
    | ((with_reducible apply ops_box); (solve | simp [*, enc, wrap_i64]); (solve | rfl); (solve | rfl | simp); (solve | (simp [*, enc, wrap_i64]; done) | (simp [*, enc, wrap_i64]; rfl) | rfl); (solve | rfl | simp [*, enc, wrap_i64]); (intro i_ hi_; (try simp only [upd_none] at hi_)))
    | ((with_reducible apply ops_store); (solve | simp [*, enc, wrap_i64]); (solve | rfl); (solve | rfl | simp); (solve | (simp [*, enc, wrap_i64]; done) | (simp [*, enc, wrap_i64]; rfl) | rfl); (solve | (simp [*, enc, wrap_i64]; done) | (simp [*, enc, wrap_i64]; rfl) | rfl); (solve | (simp [*, enc, wrap_i64]; done) | (simp [*, enc, wrap_i64]; rfl) | rfl); (solve | (simp [*, enc, wrap_i64]; done) | (simp [*, enc, wrap_i64]; rfl) | rfl); (solve | (simp [*, enc, wrap_i64]; done) | (simp [*, enc, wrap_i64]; rfl) | rfl); (solve | (simp [*, enc, wrap_i64]; done) | (simp [*, enc, wrap_i64]; rfl) | rfl))
    | ((with_reducible apply ops_splitv); (solve | (simp [*, enc, wrap_i64]; done) | (simp [*, enc, wrap_i64]; rfl) | rfl); (solve | rfl); (fail_if_success (with_reducible show true = true → _)); (fail_if_success (with_reducible show false = true → _)); (rotate_left 1; intro hb; (try simp only [Bool.not_eq_true', Bool.not_eq_false'] at hb); rotate_right 1; intro hb; (try simp only [Bool.not_eq_true', Bool.not_eq_false'] at hb)))
    | with_reducible refine dr_nil ?_
    | ((with_reducible apply dr_on); (solve | simp [*, enc, wrap_i64]); (solve | (simp [*, enc, wrap_i64]; done) | (simp [*, enc, wrap_i64]; rfl) | rfl))
    | ((with_reducible apply dr_off); (solve | simp [*, enc, wrap_i64]))
    | ((with_reducible apply dr_alloc); (solve | simp [*, enc, wrap_i64]); (solve | rfl); (solve | (simp [*, enc, wrap_i64]; done) | (simp [*, enc, wrap_i64]; rfl) | rfl))
    | ((with_reducible apply dr_pcall); (solve | simp [*, enc, wrap_i64]); (solve | rfl); (solve | (simp [*, enc, wrap_i64]; done) | (simp [*, enc, wrap_i64]; rfl) | rfl); (solve | (simp [*, enc, wrap_i64]; done) | (simp [*, enc, wrap_i64]; rfl) | rfl); (solve | apply within_ok))
    | ((with_reducible apply dr_splitv); (solve | (simp [*, enc, wrap_i64]; done) | (simp [*, enc, wrap_i64]; rfl) | rfl); (solve | rfl); (fail_if_success (with_reducible show true = true → _)); (fail_if_success (with_reducible show false = true → _)); (rotate_left 1; intro hb; (try simp only [Bool.not_eq_true', Bool.not_eq_false'] at hb); rotate_right 1; intro hb; (try simp only [Bool.not_eq_true', Bool.not_eq_false'] at hb)))
    | ((with_reducible apply pre_skip); (solve | rfl))
    | with_reducible refine pre_nil ?_
    | ((with_reducible apply pre_alloc); (solve | rfl); (solve | rfl | simp); (intro i_ hi_; (try simp only [upd_none] at hi_)))
    | with_reducible refine wp_turns 5 ?_
    | ((with_reducible apply body_ret); (solve | (simp [*, enc, wrap_i64]; done) | (simp [*, enc, wrap_i64]; rfl)); simp only [pack])
    | ((with_reducible apply body_normal); (solve | (simp [*, enc, wrap_i64]; done) | (simp [*, enc, wrap_i64]; rfl)); simp only [pack]))
  all_goals (refine leaf hq ?_ ?_)
  all_goals first | (solve | (repeat' (first | exact HLe.refl _ | ((with_reducible refine hle_upd ?_ ?_); (solve | simp [*]))))) | (cases b; simp_all [Body.right, nobody, Bool.and_assoc])

end Go.Proofs.Ytbjbhoggbbhblaa
