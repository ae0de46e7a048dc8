import Derived.Test.YtbjbhoggbbhblaaBod1
set_option linter.unusedSimpArgs false
set_option linter.unusedVariables false
namespace Go.Proofs.Ytbjbhoggbbhblaa
open Go.Cl Go

def Body.push (b : Body) (x y : Int) : Body :=
  if (!b.right) || decide (b.k = 0) then nobody else
  { b with vx := brought (w (b.vx + brought x (-1000) 1000)) (-64) 64, vy := brought (w (b.vy + brought y (-1000) 1000)) (-64) 64 }
set_option maxHeartbeats 4000000 in
theorem push_ok (b : Body) (x y : Int) : OkP C 14 [enc b, I x, I y] (enc (b.push x y)) := by
  refine okP_of (c := Try.f14.body.getD .skip) (rs := Try.f14.results.toList) (n := Try.f14.ntmps) ⟨⟨Try.f14, Try.func14, rfl, rfl, rfl, rfl⟩, by kernel_rfl, by kernel_rfl⟩ (by simp [Try.ntmps14]) ?_
  intro h Q hq
  unfold Try.f14
  simp only [Option.getD_some]
  repeat' (first
    | with_reducible refine wp_seq' ?_
    | with_reducible refine then_normal ?_
    | with_reducible refine then_ret ?_
    | with_reducible refine then_exit ?_
    | with_reducible refine then_pan ?_
    | with_reducible refine in_normal ?_
    | with_reducible refine in_ret ?_
    | with_reducible refine in_exit ?_
    | ((with_reducible apply in_far); (solve | rfl))
    | with_reducible refine in_pan ?_
    | ((with_reducible refine wp_region' ?_); simp only [])
    | with_reducible refine wp_ret' ?_
    | with_reducible refine wp_skip' ?_
    | with_reducible refine wp_block' ?_
    | with_reducible refine wp_exit' ?_
    | with_reducible refine turns_in ?_
    | with_reducible refine turns_next ?_
    | with_reducible refine ops_nil ?_
    | ((with_reducible refine wp_cond' (t := true) ?_ (fun _ => ?_) (fun hb => absurd hb (by decide))); (solve | (simp [*, enc, wrap_i64]; done)))
    | ((with_reducible refine wp_cond' (t := false) ?_ (fun hb => absurd hb (by decide)) (fun _ => ?_)); (solve | (simp [*, enc, wrap_i64]; done)))
    | ((with_reducible apply wp_condv); (solve | (simp [*, enc, wrap_i64]; done) | (simp [*, enc, wrap_i64]; rfl) | rfl); (solve | rfl); (fail_if_success (with_reducible show true = true → _)); (fail_if_success (with_reducible show false = true → _)); (rotate_left 1; intro hb; (try simp only [Bool.not_eq_true', Bool.not_eq_false'] at hb); rotate_right 1; intro hb; (try simp only [Bool.not_eq_true', Bool.not_eq_false'] at hb)))
    | ((with_reducible apply ops_on); (solve | simp [*, enc, wrap_i64]); (solve | (simp [*, enc, wrap_i64]; done) | (simp [*, enc, wrap_i64]; rfl) | rfl))
    | ((with_reducible apply ops_off); (solve | simp [*, enc, wrap_i64]))
    | ((with_reducible apply ops_pcall); (solve | simp [*, enc, wrap_i64]); (solve | rfl); (solve | (simp [*, enc, wrap_i64]; done) | (simp [*, enc, wrap_i64]; rfl) | rfl); (solve | (simp [*, enc, wrap_i64]; done) | (simp [*, enc, wrap_i64]; rfl) | rfl); (solve | apply right_ok))
    | ((with_reducible apply ops_pcall); (solve | simp [*, enc, wrap_i64]); (solve | rfl); (solve | (simp [*, enc, wrap_i64]; done) | (simp [*, enc, wrap_i64]; rfl) | rfl); (solve | (simp [*, enc, wrap_i64]; done) | (simp [*, enc, wrap_i64]; rfl) | rfl); (solve | apply (right_ok ⟨_, _, _, _, _, _, _, _, _, _, _, _⟩)))
    | ((with_reducible apply ops_pcall); (solve | simp [*, enc, wrap_i64]); (solve | rfl); (solve | (simp [*, enc, wrap_i64]; done) | (simp [*, enc, wrap_i64]; rfl) | rfl); (solve | (simp [*, enc, wrap_i64]; done) | (simp [*, enc, wrap_i64]; rfl) | rfl); (solve | apply brought_ok))
    | ((with_reducible apply ops_alloc); (solve | simp [*, enc, wrap_i64]); (solve | rfl); (solve | rfl | simp); (intro i_ hi_; (try simp only [upd_none] at hi_)))
    | ((with_reducible apply ops_box); (solve | simp [*, enc, wrap_i64]); (solve | rfl); (solve | rfl | simp); (solve | (simp [*, enc, wrap_i64]; done) | (simp [*, enc, wrap_i64]; rfl) | rfl); (solve | rfl | simp [*, enc, wrap_i64]); (intro i_ hi_; (try simp only [upd_none] at hi_)))
    | ((with_reducible apply ops_store); (solve | simp [*, enc, wrap_i64]); (solve | rfl); (solve | rfl | simp); (solve | (simp [*, enc, wrap_i64]; done) | (simp [*, enc, wrap_i64]; rfl) | rfl); (solve | (simp [*, enc, wrap_i64]; done) | (simp [*, enc, wrap_i64]; rfl) | rfl); (solve | (simp [*, enc, wrap_i64]; done) | (simp [*, enc, wrap_i64]; rfl) | rfl); (solve | (simp [*, enc, wrap_i64]; done) | (simp [*, enc, wrap_i64]; rfl) | rfl); (solve | (simp [*, enc, wrap_i64]; done) | (simp [*, enc, wrap_i64]; rfl) | rfl); (solve | (simp [*, enc, wrap_i64]; done) | (simp [*, enc, wrap_i64]; rfl) | rfl))
    | ((with_reducible apply ops_splitv); (solve | (simp [*, enc, wrap_i64]; done) | (simp [*, enc, wrap_i64]; rfl) | rfl); (solve | rfl); (fail_if_success (with_reducible show true = true → _)); (fail_if_success (with_reducible show false = true → _)); (rotate_left 1; intro hb; (try simp only [Bool.not_eq_true', Bool.not_eq_false'] at hb); rotate_right 1; intro hb; (try simp only [Bool.not_eq_true', Bool.not_eq_false'] at hb)))
    | ((with_reducible refine wp_draw (i := 3) 7 (by kernel_rfl) ?_); simp only [List.take_succ_cons, List.take_zero, List.drop_succ_cons, List.drop_zero])
    | ((with_reducible refine wp_draw (i := 4) 7 (by kernel_rfl) ?_); simp only [List.take_succ_cons, List.take_zero, List.drop_succ_cons, List.drop_zero])
    | with_reducible refine dr_nil ?_
    | ((with_reducible apply dr_on); (solve | simp [*, enc, wrap_i64]); (solve | (simp [*, enc, wrap_i64]; done) | (simp [*, enc, wrap_i64]; rfl) | rfl))
    | ((with_reducible apply dr_off); (solve | simp [*, enc, wrap_i64]))
    | ((with_reducible apply dr_alloc); (solve | simp [*, enc, wrap_i64]); (solve | rfl); (solve | (simp [*, enc, wrap_i64]; done) | (simp [*, enc, wrap_i64]; rfl) | rfl))
    | ((with_reducible apply dr_pcall); (solve | simp [*, enc, wrap_i64]); (solve | rfl); (solve | (simp [*, enc, wrap_i64]; done) | (simp [*, enc, wrap_i64]; rfl) | rfl); (solve | (simp [*, enc, wrap_i64]; done) | (simp [*, enc, wrap_i64]; rfl) | rfl); (solve | apply right_ok))
    | ((with_reducible apply dr_pcall); (solve | simp [*, enc, wrap_i64]); (solve | rfl); (solve | (simp [*, enc, wrap_i64]; done) | (simp [*, enc, wrap_i64]; rfl) | rfl); (solve | (simp [*, enc, wrap_i64]; done) | (simp [*, enc, wrap_i64]; rfl) | rfl); (solve | apply (right_ok ⟨_, _, _, _, _, _, _, _, _, _, _, _⟩)))
    | ((with_reducible apply dr_pcall); (solve | simp [*, enc, wrap_i64]); (solve | rfl); (solve | (simp [*, enc, wrap_i64]; done) | (simp [*, enc, wrap_i64]; rfl) | rfl); (solve | (simp [*, enc, wrap_i64]; done) | (simp [*, enc, wrap_i64]; rfl) | rfl); (solve | apply brought_ok))
    | ((with_reducible apply dr_splitv); (solve | (simp [*, enc, wrap_i64]; done) | (simp [*, enc, wrap_i64]; rfl) | rfl); (solve | rfl); (fail_if_success (with_reducible show true = true → _)); (fail_if_success (with_reducible show false = true → _)); (rotate_left 1; intro hb; (try simp only [Bool.not_eq_true', Bool.not_eq_false'] at hb); rotate_right 1; intro hb; (try simp only [Bool.not_eq_true', Bool.not_eq_false'] at hb)))
    | ((with_reducible apply pre_skip); (solve | rfl))
    | with_reducible refine pre_nil ?_
    | ((with_reducible apply pre_alloc); (solve | rfl); (solve | rfl | simp); (intro i_ hi_; (try simp only [upd_none] at hi_)))
    | ((with_reducible apply body_ret); (solve | (simp [*, enc, wrap_i64]; done) | (simp [*, enc, wrap_i64]; rfl)); simp only [pack])
    | ((with_reducible apply body_normal); (solve | (simp [*, enc, wrap_i64]; done) | (simp [*, enc, wrap_i64]; rfl)); simp only [pack]))
  all_goals (refine leaf hq ?_ ?_)
  all_goals first | (solve | (repeat' (first | exact HLe.refl _ | ((with_reducible refine hle_upd ?_ ?_); (solve | simp [*]))))) | (simp [Body.push, nobody, enc, *]; done) | (simp_all [Body.push, nobody, enc]; done) | (simp_all [Body.push, nobody, enc]; omega) | (simp_all [Body.push, nobody, enc, Int.not_lt.mpr, Int.not_le.mpr]; done) | skip

def Body.shoot (b : Body) (x y : Int) : Body :=
  if (!b.right) || decide (b.k = 0) then nobody else
  ⟨2, b.o, b.x, b.y, brought x (-64) 64, brought y (-64) 64, 0, 0, 0, 0, 0, 0⟩
set_option maxHeartbeats 4000000 in
theorem shoot_ok (b : Body) (x y : Int) : OkP C 18 [enc b, I x, I y] (enc (b.shoot x y)) := by
  refine okP_of (c := Try.f18.body.getD .skip) (rs := Try.f18.results.toList) (n := Try.f18.ntmps) ⟨⟨Try.f18, Try.func18, rfl, rfl, rfl, rfl⟩, by kernel_rfl, by kernel_rfl⟩ (by simp [Try.ntmps18]) ?_
  intro h Q hq
  unfold Try.f18
  simp only [Option.getD_some]
  repeat' (first
    | with_reducible refine wp_seq' ?_
    | with_reducible refine then_normal ?_
    | with_reducible refine then_ret ?_
    | with_reducible refine then_exit ?_
    | with_reducible refine then_pan ?_
    | with_reducible refine in_normal ?_
    | with_reducible refine in_ret ?_
    | with_reducible refine in_exit ?_
    | ((with_reducible apply in_far); (solve | rfl))
    | with_reducible refine in_pan ?_
    | ((with_reducible refine wp_region' ?_); simp only [])
    | with_reducible refine wp_ret' ?_
    | with_reducible refine wp_skip' ?_
    | with_reducible refine wp_block' ?_
    | with_reducible refine wp_exit' ?_
    | with_reducible refine turns_in ?_
    | with_reducible refine turns_next ?_
    | with_reducible refine ops_nil ?_
    | ((with_reducible refine wp_cond' (t := true) ?_ (fun _ => ?_) (fun hb => absurd hb (by decide))); (solve | (simp [*, enc, wrap_i64]; done)))
    | ((with_reducible refine wp_cond' (t := false) ?_ (fun hb => absurd hb (by decide)) (fun _ => ?_)); (solve | (simp [*, enc, wrap_i64]; done)))
    | ((with_reducible apply wp_condv); (solve | (simp [*, enc, wrap_i64]; done) | (simp [*, enc, wrap_i64]; rfl) | rfl); (solve | rfl); (fail_if_success (with_reducible show true = true → _)); (fail_if_success (with_reducible show false = true → _)); (rotate_left 1; intro hb; (try simp only [Bool.not_eq_true', Bool.not_eq_false'] at hb); rotate_right 1; intro hb; (try simp only [Bool.not_eq_true', Bool.not_eq_false'] at hb)))
    | ((with_reducible apply ops_on); (solve | simp [*, enc, wrap_i64]); (solve | (simp [*, enc, wrap_i64]; done) | (simp [*, enc, wrap_i64]; rfl) | rfl))
    | ((with_reducible apply ops_off); (solve | simp [*, enc, wrap_i64]))
    | ((with_reducible apply ops_pcall); (solve | simp [*, enc, wrap_i64]); (solve | rfl); (solve | (simp [*, enc, wrap_i64]; done) | (simp [*, enc, wrap_i64]; rfl) | rfl); (solve | (simp [*, enc, wrap_i64]; done) | (simp [*, enc, wrap_i64]; rfl) | rfl); (solve | apply right_ok))
    | ((with_reducible apply ops_pcall); (solve | simp [*, enc, wrap_i64]); (solve | rfl); (solve | (simp [*, enc, wrap_i64]; done) | (simp [*, enc, wrap_i64]; rfl) | rfl); (solve | (simp [*, enc, wrap_i64]; done) | (simp [*, enc, wrap_i64]; rfl) | rfl); (solve | apply (right_ok ⟨_, _, _, _, _, _, _, _, _, _, _, _⟩)))
    | ((with_reducible apply ops_pcall); (solve | simp [*, enc, wrap_i64]); (solve | rfl); (solve | (simp [*, enc, wrap_i64]; done) | (simp [*, enc, wrap_i64]; rfl) | rfl); (solve | (simp [*, enc, wrap_i64]; done) | (simp [*, enc, wrap_i64]; rfl) | rfl); (solve | apply brought_ok))
    | ((with_reducible apply ops_alloc); (solve | simp [*, enc, wrap_i64]); (solve | rfl); (solve | rfl | simp); (intro i_ hi_; (try simp only [upd_none] at hi_)))
    | ((with_reducible apply ops_box); (solve | simp [*, enc, wrap_i64]); (solve | rfl); (solve | rfl | simp); (solve | (simp [*, enc, wrap_i64]; done) | (simp [*, enc, wrap_i64]; rfl) | rfl); (solve | rfl | simp [*, enc, wrap_i64]); (intro i_ hi_; (try simp only [upd_none] at hi_)))
    | ((with_reducible apply ops_store); (solve | simp [*, enc, wrap_i64]); (solve | rfl); (solve | rfl | simp); (solve | (simp [*, enc, wrap_i64]; done) | (simp [*, enc, wrap_i64]; rfl) | rfl); (solve | (simp [*, enc, wrap_i64]; done) | (simp [*, enc, wrap_i64]; rfl) | rfl); (solve | (simp [*, enc, wrap_i64]; done) | (simp [*, enc, wrap_i64]; rfl) | rfl); (solve | (simp [*, enc, wrap_i64]; done) | (simp [*, enc, wrap_i64]; rfl) | rfl); (solve | (simp [*, enc, wrap_i64]; done) | (simp [*, enc, wrap_i64]; rfl) | rfl); (solve | (simp [*, enc, wrap_i64]; done) | (simp [*, enc, wrap_i64]; rfl) | rfl))
    | ((with_reducible apply ops_splitv); (solve | (simp [*, enc, wrap_i64]; done) | (simp [*, enc, wrap_i64]; rfl) | rfl); (solve | rfl); (fail_if_success (with_reducible show true = true → _)); (fail_if_success (with_reducible show false = true → _)); (rotate_left 1; intro hb; (try simp only [Bool.not_eq_true', Bool.not_eq_false'] at hb); rotate_right 1; intro hb; (try simp only [Bool.not_eq_true', Bool.not_eq_false'] at hb)))
    | ((with_reducible refine wp_draw (i := 3) 11 (by kernel_rfl) ?_); simp only [List.take_succ_cons, List.take_zero, List.drop_succ_cons, List.drop_zero])
    | with_reducible refine dr_nil ?_
    | ((with_reducible apply dr_on); (solve | simp [*, enc, wrap_i64]); (solve | (simp [*, enc, wrap_i64]; done) | (simp [*, enc, wrap_i64]; rfl) | rfl))
    | ((with_reducible apply dr_off); (solve | simp [*, enc, wrap_i64]))
    | ((with_reducible apply dr_alloc); (solve | simp [*, enc, wrap_i64]); (solve | rfl); (solve | (simp [*, enc, wrap_i64]; done) | (simp [*, enc, wrap_i64]; rfl) | rfl))
    | ((with_reducible apply dr_pcall); (solve | simp [*, enc, wrap_i64]); (solve | rfl); (solve | (simp [*, enc, wrap_i64]; done) | (simp [*, enc, wrap_i64]; rfl) | rfl); (solve | (simp [*, enc, wrap_i64]; done) | (simp [*, enc, wrap_i64]; rfl) | rfl); (solve | apply right_ok))
    | ((with_reducible apply dr_pcall); (solve | simp [*, enc, wrap_i64]); (solve | rfl); (solve | (simp [*, enc, wrap_i64]; done) | (simp [*, enc, wrap_i64]; rfl) | rfl); (solve | (simp [*, enc, wrap_i64]; done) | (simp [*, enc, wrap_i64]; rfl) | rfl); (solve | apply (right_ok ⟨_, _, _, _, _, _, _, _, _, _, _, _⟩)))
    | ((with_reducible apply dr_pcall); (solve | simp [*, enc, wrap_i64]); (solve | rfl); (solve | (simp [*, enc, wrap_i64]; done) | (simp [*, enc, wrap_i64]; rfl) | rfl); (solve | (simp [*, enc, wrap_i64]; done) | (simp [*, enc, wrap_i64]; rfl) | rfl); (solve | apply brought_ok))
    | ((with_reducible apply dr_splitv); (solve | (simp [*, enc, wrap_i64]; done) | (simp [*, enc, wrap_i64]; rfl) | rfl); (solve | rfl); (fail_if_success (with_reducible show true = true → _)); (fail_if_success (with_reducible show false = true → _)); (rotate_left 1; intro hb; (try simp only [Bool.not_eq_true', Bool.not_eq_false'] at hb); rotate_right 1; intro hb; (try simp only [Bool.not_eq_true', Bool.not_eq_false'] at hb)))
    | ((with_reducible apply pre_skip); (solve | rfl))
    | with_reducible refine pre_nil ?_
    | ((with_reducible apply pre_alloc); (solve | rfl); (solve | rfl | simp); (intro i_ hi_; (try simp only [upd_none] at hi_)))
    | ((with_reducible apply body_ret); (solve | (simp [*, enc, wrap_i64]; done) | (simp [*, enc, wrap_i64]; rfl)); simp only [pack])
    | ((with_reducible apply body_normal); (solve | (simp [*, enc, wrap_i64]; done) | (simp [*, enc, wrap_i64]; rfl)); simp only [pack]))
  all_goals (refine leaf hq ?_ ?_)
  all_goals first | (solve | (repeat' (first | exact HLe.refl _ | ((with_reducible refine hle_upd ?_ ?_); (solve | simp [*]))))) | (simp [Body.shoot, nobody, enc, *]; done) | (simp_all [Body.shoot, nobody, enc]; done) | (simp_all [Body.shoot, nobody, enc]; omega) | (simp_all [Body.shoot, nobody, enc, Int.not_lt.mpr, Int.not_le.mpr]; done) | skip
def Body.move (b : Body) : Body × Bool :=
  if (!b.right) || decide (b.k = 0) then (nobody, false) else
  let age := if 600 < w (b.age + 1) then 600 else w (b.age + 1)
  let x := w (b.x + b.vx)
  let y := w (b.y + b.vy)
  if b.k = 1 then ({ b with age := age, x := (bounce x b.vx).1, vx := (bounce x b.vx).2, y := (bounce y b.vy).1, vy := (bounce y b.vy).2 }, true) else
  if decide (40 < age) || !(within x 0 4095) || !(within y 0 4095) then (nobody, false) else ({ b with age := age, x := x, y := y }, true)
set_option maxHeartbeats 4000000 in
theorem move_ok (b : Body) : OkP C 15 [enc b] (.tup [enc b.move.1, Bo b.move.2]) := by
  refine okP_of (c := Try.f15.body.getD .skip) (rs := Try.f15.results.toList) (n := Try.f15.ntmps) ⟨⟨Try.f15, Try.func15, rfl, rfl, rfl, rfl⟩, by kernel_rfl, by kernel_rfl⟩ (by simp [Try.ntmps15]) ?_
  intro h Q hq
  unfold Try.f15
  simp only [Option.getD_some]
  repeat' (first
    | with_reducible refine wp_seq' ?_
    | with_reducible refine then_normal ?_
    | with_reducible refine then_ret ?_
    | with_reducible refine then_exit ?_
    | with_reducible refine then_pan ?_
    | with_reducible refine in_normal ?_
    | with_reducible refine in_ret ?_
    | with_reducible refine in_exit ?_
    | ((with_reducible apply in_far); (solve | rfl))
    | with_reducible refine in_pan ?_
    | ((with_reducible refine wp_region' ?_); simp only [])
    | with_reducible refine wp_ret' ?_
    | with_reducible refine wp_skip' ?_
    | with_reducible refine wp_block' ?_
    | with_reducible refine wp_exit' ?_
    | with_reducible refine turns_in ?_
    | with_reducible refine turns_next ?_
    | with_reducible refine ops_nil ?_
    | ((with_reducible refine wp_cond' (t := true) ?_ (fun _ => ?_) (fun hb => absurd hb (by decide))); (solve | (simp [*, enc, wrap_i64]; done)))
    | ((with_reducible refine wp_cond' (t := false) ?_ (fun hb => absurd hb (by decide)) (fun _ => ?_)); (solve | (simp [*, enc, wrap_i64]; done)))
    | ((with_reducible apply wp_condv); (solve | (simp [*, enc, wrap_i64]; done) | (simp [*, enc, wrap_i64]; rfl) | rfl); (solve | rfl); (fail_if_success (with_reducible show true = true → _)); (fail_if_success (with_reducible show false = true → _)); (rotate_left 1; intro hb; (try simp only [Bool.not_eq_true', Bool.not_eq_false'] at hb); rotate_right 1; intro hb; (try simp only [Bool.not_eq_true', Bool.not_eq_false'] at hb)))
    | ((with_reducible apply ops_on); (solve | simp [*, enc, wrap_i64]); (solve | (simp [*, enc, wrap_i64]; done) | (simp [*, enc, wrap_i64]; rfl) | rfl))
    | ((with_reducible apply ops_off); (solve | simp [*, enc, wrap_i64]))
    | ((with_reducible apply ops_pcall); (solve | simp [*, enc, wrap_i64]); (solve | rfl); (solve | (simp [*, enc, wrap_i64]; done) | (simp [*, enc, wrap_i64]; rfl) | rfl); (solve | (simp [*, enc, wrap_i64]; done) | (simp [*, enc, wrap_i64]; rfl) | rfl); (solve | apply right_ok))
    | ((with_reducible apply ops_pcall); (solve | simp [*, enc, wrap_i64]); (solve | rfl); (solve | (simp [*, enc, wrap_i64]; done) | (simp [*, enc, wrap_i64]; rfl) | rfl); (solve | (simp [*, enc, wrap_i64]; done) | (simp [*, enc, wrap_i64]; rfl) | rfl); (solve | apply (right_ok ⟨_, _, _, _, _, _, _, _, _, _, _, _⟩)))
    | ((with_reducible apply ops_pcall); (solve | simp [*, enc, wrap_i64]); (solve | rfl); (solve | (simp [*, enc, wrap_i64]; done) | (simp [*, enc, wrap_i64]; rfl) | rfl); (solve | (simp [*, enc, wrap_i64]; done) | (simp [*, enc, wrap_i64]; rfl) | rfl); (solve | apply within_ok))
    | ((with_reducible apply ops_pcall); (solve | simp [*, enc, wrap_i64]); (solve | rfl); (solve | (simp [*, enc, wrap_i64]; done) | (simp [*, enc, wrap_i64]; rfl) | rfl); (solve | (simp [*, enc, wrap_i64]; done) | (simp [*, enc, wrap_i64]; rfl) | rfl); (solve | apply bounce_ok))
    | ((with_reducible apply ops_alloc); (solve | simp [*, enc, wrap_i64]); (solve | rfl); (solve | rfl | simp); (intro i_ hi_; (try simp only [upd_none] at hi_)))
    | ((with_reducible apply ops_box); (solve | simp [*, enc, wrap_i64]); (solve | rfl); (solve | rfl | simp); (solve | (simp [*, enc, wrap_i64]; done) | (simp [*, enc, wrap_i64]; rfl) | rfl); (solve | rfl | simp [*, enc, wrap_i64]); (intro i_ hi_; (try simp only [upd_none] at hi_)))
    | ((with_reducible apply ops_store); (solve | simp [*, enc, wrap_i64]); (solve | rfl); (solve | rfl | simp); (solve | (simp [*, enc, wrap_i64]; done) | (simp [*, enc, wrap_i64]; rfl) | rfl); (solve | (simp [*, enc, wrap_i64]; done) | (simp [*, enc, wrap_i64]; rfl) | rfl); (solve | (simp [*, enc, wrap_i64]; done) | (simp [*, enc, wrap_i64]; rfl) | rfl); (solve | (simp [*, enc, wrap_i64]; done) | (simp [*, enc, wrap_i64]; rfl) | rfl); (solve | (simp [*, enc, wrap_i64]; done) | (simp [*, enc, wrap_i64]; rfl) | rfl); (solve | (simp [*, enc, wrap_i64]; done) | (simp [*, enc, wrap_i64]; rfl) | rfl))
    | ((with_reducible apply ops_splitv); (solve | (simp [*, enc, wrap_i64]; done) | (simp [*, enc, wrap_i64]; rfl) | rfl); (solve | rfl); (fail_if_success (with_reducible show true = true → _)); (fail_if_success (with_reducible show false = true → _)); (rotate_left 1; intro hb; (try simp only [Bool.not_eq_true', Bool.not_eq_false'] at hb); rotate_right 1; intro hb; (try simp only [Bool.not_eq_true', Bool.not_eq_false'] at hb)))
    | with_reducible refine dr_nil ?_
    | ((with_reducible apply dr_on); (solve | simp [*, enc, wrap_i64]); (solve | (simp [*, enc, wrap_i64]; done) | (simp [*, enc, wrap_i64]; rfl) | rfl))
    | ((with_reducible apply dr_off); (solve | simp [*, enc, wrap_i64]))
    | ((with_reducible apply dr_alloc); (solve | simp [*, enc, wrap_i64]); (solve | rfl); (solve | (simp [*, enc, wrap_i64]; done) | (simp [*, enc, wrap_i64]; rfl) | rfl))
    | ((with_reducible apply dr_pcall); (solve | simp [*, enc, wrap_i64]); (solve | rfl); (solve | (simp [*, enc, wrap_i64]; done) | (simp [*, enc, wrap_i64]; rfl) | rfl); (solve | (simp [*, enc, wrap_i64]; done) | (simp [*, enc, wrap_i64]; rfl) | rfl); (solve | apply right_ok))
    | ((with_reducible apply dr_pcall); (solve | simp [*, enc, wrap_i64]); (solve | rfl); (solve | (simp [*, enc, wrap_i64]; done) | (simp [*, enc, wrap_i64]; rfl) | rfl); (solve | (simp [*, enc, wrap_i64]; done) | (simp [*, enc, wrap_i64]; rfl) | rfl); (solve | apply (right_ok ⟨_, _, _, _, _, _, _, _, _, _, _, _⟩)))
    | ((with_reducible apply dr_pcall); (solve | simp [*, enc, wrap_i64]); (solve | rfl); (solve | (simp [*, enc, wrap_i64]; done) | (simp [*, enc, wrap_i64]; rfl) | rfl); (solve | (simp [*, enc, wrap_i64]; done) | (simp [*, enc, wrap_i64]; rfl) | rfl); (solve | apply within_ok))
    | ((with_reducible apply dr_pcall); (solve | simp [*, enc, wrap_i64]); (solve | rfl); (solve | (simp [*, enc, wrap_i64]; done) | (simp [*, enc, wrap_i64]; rfl) | rfl); (solve | (simp [*, enc, wrap_i64]; done) | (simp [*, enc, wrap_i64]; rfl) | rfl); (solve | apply bounce_ok))
    | ((with_reducible apply dr_splitv); (solve | (simp [*, enc, wrap_i64]; done) | (simp [*, enc, wrap_i64]; rfl) | rfl); (solve | rfl); (fail_if_success (with_reducible show true = true → _)); (fail_if_success (with_reducible show false = true → _)); (rotate_left 1; intro hb; (try simp only [Bool.not_eq_true', Bool.not_eq_false'] at hb); rotate_right 1; intro hb; (try simp only [Bool.not_eq_true', Bool.not_eq_false'] at hb)))
    | ((with_reducible apply pre_skip); (solve | rfl))
    | with_reducible refine pre_nil ?_
    | ((with_reducible apply pre_alloc); (solve | rfl); (solve | rfl | simp); (intro i_ hi_; (try simp only [upd_none] at hi_)))
    | ((with_reducible apply body_ret); (solve | (simp [*, enc, wrap_i64]; done) | (simp [*, enc, wrap_i64]; rfl)); simp only [pack])
    | ((with_reducible apply body_normal); (solve | (simp [*, enc, wrap_i64]; done) | (simp [*, enc, wrap_i64]; rfl)); simp only [pack]))
  all_goals (refine leaf hq ?_ ?_)
  all_goals first | (solve | (repeat' (first | exact HLe.refl _ | ((with_reducible refine hle_upd ?_ ?_); (solve | simp [*]))))) | (simp [Body.move, nobody, enc, *]; done) | (simp_all [Body.move, nobody, enc]; done) | (simp_all [Body.move, nobody, enc]; omega) | (simp_all [Body.move, nobody, enc, Int.not_lt.mpr, Int.not_le.mpr]; done) | skip
end Go.Proofs.Ytbjbhoggbbhblaa
