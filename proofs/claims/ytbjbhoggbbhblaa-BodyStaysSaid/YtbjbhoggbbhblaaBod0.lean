import Derived.Test.YtbjbhoggbbhblaaTabYtb
import Derived.Test.YtbjbhoggbbhblaaCl21
set_option linter.unusedSimpArgs false
set_option linter.unusedVariables false
namespace Go.Proofs.Ytbjbhoggbbhblaa
open Go.Cl Go

abbrev I (n : Int) : CV := .sc (.int .i64 n)
abbrev Bo (b : Bool) : CV := .sc (.bool b)
abbrev w (n : Int) : Int := IntKind.i64.wrap n
structure Body where
  k : Int
  o : Int
  x : Int
  y : Int
  vx : Int
  vy : Int
  age : Int
  m0 : Int
  m1 : Int
  m2 : Int
  m3 : Int
  f : Int
deriving DecidableEq
def enc (b : Body) : CV := .agg [I b.k, I b.o, I b.x, I b.y, I b.vx, I b.vy, I b.age, .agg [I b.m0, I b.m1, I b.m2, I b.m3], I b.f]
def nobody : Body := ⟨0, 0, 0, 0, 0, 0, 0, 0, 0, 0, 0, 0⟩
theorem enc_shape (b : Body) : (enc b).shape = sh27 := rfl
theorem z27_enc : z27 = enc nobody := rfl
theorem eq_body (a b : Body) : eqCV C 12 27 (enc a) (enc b) = some (decide (a = b)) := by
  cases a; cases b
  simp [enc, eqCV, eqList, eqSc, tt27, ti27, tt25, ti25, tt3, ti3, CV.shape, CV.shapes, sh27, sh25, Bool.and_assoc]

def within (n lo hi : Int) : Bool := decide (lo ≤ n) && decide (n ≤ hi)
def brought (n lo hi : Int) : Int := if lo < if hi < n then hi else n then if hi < n then hi else n else lo

theorem within_ok (n lo hi : Int) : OkP C 30 [I n, I lo, I hi] (Bo (within n lo hi)) := by
  refine okP_of (c := Try.f30.body.getD .skip) (rs := Try.f30.results.toList) (n := Try.f30.ntmps) ⟨⟨Try.f30, Try.func30, rfl, rfl, rfl, rfl⟩, by kernel_rfl, by kernel_rfl⟩ (by simp [Try.ntmps30]) ?_
  intro h Q hq
  unfold Try.f30
  simp only [Option.getD_some]
  repeat' (first
    | with_reducible refine wp_seq' ?_
    | with_reducible refine then_normal ?_
    | with_reducible refine then_ret ?_
    | with_reducible refine then_exit ?_
    | with_reducible refine then_pan ?_
    | with_reducible refine in_normal ?_
    | with_reducible refine in_ret ?_
    | with_reducible refine in_exit ?_
    | ((with_reducible apply in_far); (solve | rfl))
    | with_reducible refine in_pan ?_
    | ((with_reducible refine wp_region' ?_); simp only [])
    | with_reducible refine wp_ret' ?_
    | with_reducible refine wp_skip' ?_
    | with_reducible refine wp_block' ?_
    | with_reducible refine wp_exit' ?_
    | with_reducible refine turns_in ?_
    | with_reducible refine turns_next ?_
    | with_reducible refine ops_nil ?_
    | ((with_reducible refine wp_cond' (t := true) ?_ (fun _ => ?_) (fun hb => absurd hb (by decide))); (solve | (simp [*]; done)))
    | ((with_reducible refine wp_cond' (t := false) ?_ (fun hb => absurd hb (by decide)) (fun _ => ?_)); (solve | (simp [*]; done)))
    | ((with_reducible apply wp_condv); (solve | (simp [*]; done) | (simp [*]; rfl) | rfl); (solve | rfl); (fail_if_success (with_reducible show true = true → _)); (fail_if_success (with_reducible show false = true → _)); (rotate_left 1; intro hb; (try simp only [Bool.not_eq_true', Bool.not_eq_false'] at hb); rotate_right 1; intro hb; (try simp only [Bool.not_eq_true', Bool.not_eq_false'] at hb)))
    | ((with_reducible apply ops_on); (solve | simp [*]); (solve | (simp [*]; done) | (simp [*]; rfl) | rfl))
    | ((with_reducible apply ops_off); (solve | simp [*]))
    | ((with_reducible apply ops_alloc); (solve | simp [*]); (solve | rfl); (solve | rfl | simp); (intro i_ hi_; (try simp only [upd_none] at hi_)))
    | ((with_reducible apply ops_box); (solve | simp [*]); (solve | rfl); (solve | rfl | simp); (solve | (simp [*]; done) | (simp [*]; rfl) | rfl); (solve | rfl | simp [*]); (intro i_ hi_; (try simp only [upd_none] at hi_)))
    | ((with_reducible apply ops_store); (solve | simp [*]); (solve | rfl); (solve | rfl | simp); (solve | (simp [*]; done) | (simp [*]; rfl) | rfl); (solve | (simp [*]; done) | (simp [*]; rfl) | rfl); (solve | (simp [*]; done) | (simp [*]; rfl) | rfl); (solve | (simp [*]; done) | (simp [*]; rfl) | rfl); (solve | (simp [*]; done) | (simp [*]; rfl) | rfl); (solve | (simp [*]; done) | (simp [*]; rfl) | rfl))
    | ((with_reducible apply ops_splitv); (solve | (simp [*]; done) | (simp [*]; rfl) | rfl); (solve | rfl); (fail_if_success (with_reducible show true = true → _)); (fail_if_success (with_reducible show false = true → _)); (rotate_left 1; intro hb; (try simp only [Bool.not_eq_true', Bool.not_eq_false'] at hb); rotate_right 1; intro hb; (try simp only [Bool.not_eq_true', Bool.not_eq_false'] at hb)))
    | with_reducible refine dr_nil ?_
    | ((with_reducible apply dr_on); (solve | simp [*]); (solve | (simp [*]; done) | (simp [*]; rfl) | rfl))
    | ((with_reducible apply dr_off); (solve | simp [*]))
    | ((with_reducible apply dr_alloc); (solve | simp [*]); (solve | rfl); (solve | (simp [*]; done) | (simp [*]; rfl) | rfl))
    | ((with_reducible apply dr_splitv); (solve | (simp [*]; done) | (simp [*]; rfl) | rfl); (solve | rfl); (fail_if_success (with_reducible show true = true → _)); (fail_if_success (with_reducible show false = true → _)); (rotate_left 1; intro hb; (try simp only [Bool.not_eq_true', Bool.not_eq_false'] at hb); rotate_right 1; intro hb; (try simp only [Bool.not_eq_true', Bool.not_eq_false'] at hb)))
    | ((with_reducible apply pre_skip); (solve | rfl))
    | with_reducible refine pre_nil ?_
    | ((with_reducible apply pre_alloc); (solve | rfl); (solve | rfl | simp); (intro i_ hi_; (try simp only [upd_none] at hi_)))
    | ((with_reducible apply body_ret); (solve | (simp [*]; done) | (simp [*]; rfl)); simp only [pack])
    | ((with_reducible apply body_normal); (solve | (simp [*]; done) | (simp [*]; rfl)); simp only [pack]))
  all_goals (refine leaf hq ?_ ?_)
  all_goals first | (solve | (repeat' (first | exact HLe.refl _ | ((with_reducible refine hle_upd ?_ ?_); (solve | simp [*]))))) | (simp [within, *]; done) | (simp_all [within]; done) | (simp_all [within]; omega) | (simp_all [within, Int.not_lt.mpr, Int.not_le.mpr]; done) | skip

theorem brought_ok (n lo hi : Int) : OkP C 31 [I n, I lo, I hi] (I (brought n lo hi)) := by
  refine okP_of (c := Try.f31.body.getD .skip) (rs := Try.f31.results.toList) (n := Try.f31.ntmps) ⟨⟨Try.f31, Try.func31, rfl, rfl, rfl, rfl⟩, by kernel_rfl, by kernel_rfl⟩ (by simp [Try.ntmps31]) ?_
  intro h Q hq
  unfold Try.f31
  simp only [Option.getD_some]
  repeat' (first
    | with_reducible refine wp_seq' ?_
    | with_reducible refine then_normal ?_
    | with_reducible refine then_ret ?_
    | with_reducible refine then_exit ?_
    | with_reducible refine then_pan ?_
    | with_reducible refine in_normal ?_
    | with_reducible refine in_ret ?_
    | with_reducible refine in_exit ?_
    | ((with_reducible apply in_far); (solve | rfl))
    | with_reducible refine in_pan ?_
    | ((with_reducible refine wp_region' ?_); simp only [])
    | with_reducible refine wp_ret' ?_
    | with_reducible refine wp_skip' ?_
    | with_reducible refine wp_block' ?_
    | with_reducible refine wp_exit' ?_
    | with_reducible refine turns_in ?_
    | with_reducible refine turns_next ?_
    | with_reducible refine ops_nil ?_
    | ((with_reducible refine wp_cond' (t := true) ?_ (fun _ => ?_) (fun hb => absurd hb (by decide))); (solve | (simp [*]; done)))
    | ((with_reducible refine wp_cond' (t := false) ?_ (fun hb => absurd hb (by decide)) (fun _ => ?_)); (solve | (simp [*]; done)))
    | ((with_reducible apply wp_condv); (solve | (simp [*]; done) | (simp [*]; rfl) | rfl); (solve | rfl); (fail_if_success (with_reducible show true = true → _)); (fail_if_success (with_reducible show false = true → _)); (rotate_left 1; intro hb; (try simp only [Bool.not_eq_true', Bool.not_eq_false'] at hb); rotate_right 1; intro hb; (try simp only [Bool.not_eq_true', Bool.not_eq_false'] at hb)))
    | ((with_reducible apply ops_on); (solve | simp [*]); (solve | (simp [*]; done) | (simp [*]; rfl) | rfl))
    | ((with_reducible apply ops_off); (solve | simp [*]))
    | ((with_reducible apply ops_alloc); (solve | simp [*]); (solve | rfl); (solve | rfl | simp); (intro i_ hi_; (try simp only [upd_none] at hi_)))
    | ((with_reducible apply ops_box); (solve | simp [*]); (solve | rfl); (solve | rfl | simp); (solve | (simp [*]; done) | (simp [*]; rfl) | rfl); (solve | rfl | simp [*]); (intro i_ hi_; (try simp only [upd_none] at hi_)))
    | ((with_reducible apply ops_store); (solve | simp [*]); (solve | rfl); (solve | rfl | simp); (solve | (simp [*]; done) | (simp [*]; rfl) | rfl); (solve | (simp [*]; done) | (simp [*]; rfl) | rfl); (solve | (simp [*]; done) | (simp [*]; rfl) | rfl); (solve | (simp [*]; done) | (simp [*]; rfl) | rfl); (solve | (simp [*]; done) | (simp [*]; rfl) | rfl); (solve | (simp [*]; done) | (simp [*]; rfl) | rfl))
    | ((with_reducible apply ops_splitv); (solve | (simp [*]; done) | (simp [*]; rfl) | rfl); (solve | rfl); (fail_if_success (with_reducible show true = true → _)); (fail_if_success (with_reducible show false = true → _)); (rotate_left 1; intro hb; (try simp only [Bool.not_eq_true', Bool.not_eq_false'] at hb); rotate_right 1; intro hb; (try simp only [Bool.not_eq_true', Bool.not_eq_false'] at hb)))
    | with_reducible refine dr_nil ?_
    | ((with_reducible apply dr_on); (solve | simp [*]); (solve | (simp [*]; done) | (simp [*]; rfl) | rfl))
    | ((with_reducible apply dr_off); (solve | simp [*]))
    | ((with_reducible apply dr_alloc); (solve | simp [*]); (solve | rfl); (solve | (simp [*]; done) | (simp [*]; rfl) | rfl))
    | ((with_reducible apply dr_splitv); (solve | (simp [*]; done) | (simp [*]; rfl) | rfl); (solve | rfl); (fail_if_success (with_reducible show true = true → _)); (fail_if_success (with_reducible show false = true → _)); (rotate_left 1; intro hb; (try simp only [Bool.not_eq_true', Bool.not_eq_false'] at hb); rotate_right 1; intro hb; (try simp only [Bool.not_eq_true', Bool.not_eq_false'] at hb)))
    | ((with_reducible apply pre_skip); (solve | rfl))
    | with_reducible refine pre_nil ?_
    | ((with_reducible apply pre_alloc); (solve | rfl); (solve | rfl | simp); (intro i_ hi_; (try simp only [upd_none] at hi_)))
    | ((with_reducible apply body_ret); (solve | (simp [*]; done) | (simp [*]; rfl)); simp only [pack])
    | ((with_reducible apply body_normal); (solve | (simp [*]; done) | (simp [*]; rfl)); simp only [pack]))
  all_goals (refine leaf hq ?_ ?_)
  all_goals first | (solve | (repeat' (first | exact HLe.refl _ | ((with_reducible refine hle_upd ?_ ?_); (solve | simp [*]))))) | rfl

def pick (n m : Int) : Int := if n.tmod m < 0 then w (n.tmod m + m) else n.tmod m
theorem pick_ok (n m : Int) (hm : m ≠ 0) : OkP C 17 [I n, I m] (I (pick n m)) := by
  refine okP_of (c := Try.f17.body.getD .skip) (rs := Try.f17.results.toList) (n := Try.f17.ntmps) ⟨⟨Try.f17, Try.func17, rfl, rfl, rfl, rfl⟩, by kernel_rfl, by kernel_rfl⟩ (by simp [Try.ntmps17]) ?_
  intro h Q hq
  unfold Try.f17
  simp only [Option.getD_some]
  repeat' (first
    | with_reducible refine wp_seq' ?_
    | with_reducible refine then_normal ?_
    | with_reducible refine then_ret ?_
    | with_reducible refine then_exit ?_
    | with_reducible refine then_pan ?_
    | with_reducible refine in_normal ?_
    | with_reducible refine in_ret ?_
    | with_reducible refine in_exit ?_
    | ((with_reducible apply in_far); (solve | rfl))
    | with_reducible refine in_pan ?_
    | ((with_reducible refine wp_region' ?_); simp only [])
    | with_reducible refine wp_ret' ?_
    | with_reducible refine wp_skip' ?_
    | with_reducible refine wp_block' ?_
    | with_reducible refine wp_exit' ?_
    | with_reducible refine turns_in ?_
    | with_reducible refine turns_next ?_
    | with_reducible refine ops_nil ?_
    | ((with_reducible refine wp_cond' (t := true) ?_ (fun _ => ?_) (fun hb => absurd hb (by decide))); (solve | (simp [*]; done)))
    | ((with_reducible refine wp_cond' (t := false) ?_ (fun hb => absurd hb (by decide)) (fun _ => ?_)); (solve | (simp [*]; done)))
    | ((with_reducible apply wp_condv); (solve | (simp [*]; done) | (simp [*]; rfl) | rfl); (solve | rfl); (fail_if_success (with_reducible show true = true → _)); (fail_if_success (with_reducible show false = true → _)); (rotate_left 1; intro hb; (try simp only [Bool.not_eq_true', Bool.not_eq_false'] at hb); rotate_right 1; intro hb; (try simp only [Bool.not_eq_true', Bool.not_eq_false'] at hb)))
    | ((with_reducible apply ops_on); (solve | simp [*]); (solve | (simp [*]; done) | (simp [*]; rfl) | rfl))
    | ((with_reducible apply ops_off); (solve | simp [*]))
    | ((with_reducible apply ops_alloc); (solve | simp [*]); (solve | rfl); (solve | rfl | simp); (intro i_ hi_; (try simp only [upd_none] at hi_)))
    | ((with_reducible apply ops_box); (solve | simp [*]); (solve | rfl); (solve | rfl | simp); (solve | (simp [*]; done) | (simp [*]; rfl) | rfl); (solve | rfl | simp [*]); (intro i_ hi_; (try simp only [upd_none] at hi_)))
    | ((with_reducible apply ops_store); (solve | simp [*]); (solve | rfl); (solve | rfl | simp); (solve | (simp [*]; done) | (simp [*]; rfl) | rfl); (solve | (simp [*]; done) | (simp [*]; rfl) | rfl); (solve | (simp [*]; done) | (simp [*]; rfl) | rfl); (solve | (simp [*]; done) | (simp [*]; rfl) | rfl); (solve | (simp [*]; done) | (simp [*]; rfl) | rfl); (solve | (simp [*]; done) | (simp [*]; rfl) | rfl))
    | ((with_reducible apply ops_splitv); (solve | (simp [*]; done) | (simp [*]; rfl) | rfl); (solve | rfl); (fail_if_success (with_reducible show true = true → _)); (fail_if_success (with_reducible show false = true → _)); (rotate_left 1; intro hb; (try simp only [Bool.not_eq_true', Bool.not_eq_false'] at hb); rotate_right 1; intro hb; (try simp only [Bool.not_eq_true', Bool.not_eq_false'] at hb)))
    | with_reducible refine dr_nil ?_
    | ((with_reducible apply dr_on); (solve | simp [*]); (solve | (simp [*]; done) | (simp [*]; rfl) | rfl))
    | ((with_reducible apply dr_off); (solve | simp [*]))
    | ((with_reducible apply dr_alloc); (solve | simp [*]); (solve | rfl); (solve | (simp [*]; done) | (simp [*]; rfl) | rfl))
    | ((with_reducible apply dr_splitv); (solve | (simp [*]; done) | (simp [*]; rfl) | rfl); (solve | rfl); (fail_if_success (with_reducible show true = true → _)); (fail_if_success (with_reducible show false = true → _)); (rotate_left 1; intro hb; (try simp only [Bool.not_eq_true', Bool.not_eq_false'] at hb); rotate_right 1; intro hb; (try simp only [Bool.not_eq_true', Bool.not_eq_false'] at hb)))
    | ((with_reducible apply pre_skip); (solve | rfl))
    | with_reducible refine pre_nil ?_
    | ((with_reducible apply pre_alloc); (solve | rfl); (solve | rfl | simp); (intro i_ hi_; (try simp only [upd_none] at hi_)))
    | ((with_reducible apply body_ret); (solve | (simp [*]; done) | (simp [*]; rfl)); simp only [pack])
    | ((with_reducible apply body_normal); (solve | (simp [*]; done) | (simp [*]; rfl)); simp only [pack]))
  all_goals (refine leaf hq ?_ ?_)
  all_goals first | (solve | (repeat' (first | exact HLe.refl _ | ((with_reducible refine hle_upd ?_ ?_); (solve | simp [*]))))) | (simp [pick, *]; done) | (simp_all [pick]; done) | (simp_all [pick]; omega) | (simp_all [pick, Int.not_lt.mpr, Int.not_le.mpr]; done) | skip

def bounce (a s : Int) : Int × Int := if brought a 0 4095 = a then (a, s) else (brought a 0 4095, w (-s))
theorem bounce_ok (a s : Int) : OkP C 32 [I a, I s] (.tup [I (bounce a s).1, I (bounce a s).2]) := by
  refine okP_of (c := Try.f32.body.getD .skip) (rs := Try.f32.results.toList) (n := Try.f32.ntmps) ⟨⟨Try.f32, Try.func32, rfl, rfl, rfl, rfl⟩, by kernel_rfl, by kernel_rfl⟩ (by simp [Try.ntmps32]) ?_
  intro h Q hq
  unfold Try.f32
  simp only [Option.getD_some]
  repeat' (first
    | with_reducible refine wp_seq' ?_
    | with_reducible refine then_normal ?_
    | with_reducible refine then_ret ?_
    | with_reducible refine then_exit ?_
    | with_reducible refine then_pan ?_
    | with_reducible refine in_normal ?_
    | with_reducible refine in_ret ?_
    | with_reducible refine in_exit ?_
    | ((with_reducible apply in_far); (solve | rfl))
    | with_reducible refine in_pan ?_
    | ((with_reducible refine wp_region' ?_); simp only [])
    | with_reducible refine wp_ret' ?_
    | with_reducible refine wp_skip' ?_
    | with_reducible refine wp_block' ?_
    | with_reducible refine wp_exit' ?_
    | with_reducible refine turns_in ?_
    | with_reducible refine turns_next ?_
    | with_reducible refine ops_nil ?_
    | ((with_reducible refine wp_cond' (t := true) ?_ (fun _ => ?_) (fun hb => absurd hb (by decide))); (solve | (simp [*]; done)))
    | ((with_reducible refine wp_cond' (t := false) ?_ (fun hb => absurd hb (by decide)) (fun _ => ?_)); (solve | (simp [*]; done)))
    | ((with_reducible apply wp_condv); (solve | (simp [*]; done) | (simp [*]; rfl) | rfl); (solve | rfl); (fail_if_success (with_reducible show true = true → _)); (fail_if_success (with_reducible show false = true → _)); (rotate_left 1; intro hb; (try simp only [Bool.not_eq_true', Bool.not_eq_false'] at hb); rotate_right 1; intro hb; (try simp only [Bool.not_eq_true', Bool.not_eq_false'] at hb)))
    | ((with_reducible apply ops_on); (solve | simp [*]); (solve | (simp [*]; done) | (simp [*]; rfl) | rfl))
    | ((with_reducible apply ops_off); (solve | simp [*]))
    | ((with_reducible apply ops_pcall); (solve | simp [*]); (solve | rfl); (solve | (simp [*]; done) | (simp [*]; rfl) | rfl); (solve | (simp [*]; done) | (simp [*]; rfl) | rfl); (solve | apply brought_ok))
    | ((with_reducible apply ops_alloc); (solve | simp [*]); (solve | rfl); (solve | rfl | simp); (intro i_ hi_; (try simp only [upd_none] at hi_)))
    | ((with_reducible apply ops_box); (solve | simp [*]); (solve | rfl); (solve | rfl | simp); (solve | (simp [*]; done) | (simp [*]; rfl) | rfl); (solve | rfl | simp [*]); (intro i_ hi_; (try simp only [upd_none] at hi_)))
    | ((with_reducible apply ops_store); (solve | simp [*]); (solve | rfl); (solve | rfl | simp); (solve | (simp [*]; done) | (simp [*]; rfl) | rfl); (solve | (simp [*]; done) | (simp [*]; rfl) | rfl); (solve | (simp [*]; done) | (simp [*]; rfl) | rfl); (solve | (simp [*]; done) | (simp [*]; rfl) | rfl); (solve | (simp [*]; done) | (simp [*]; rfl) | rfl); (solve | (simp [*]; done) | (simp [*]; rfl) | rfl))
    | ((with_reducible apply ops_splitv); (solve | (simp [*]; done) | (simp [*]; rfl) | rfl); (solve | rfl); (fail_if_success (with_reducible show true = true → _)); (fail_if_success (with_reducible show false = true → _)); (rotate_left 1; intro hb; (try simp only [Bool.not_eq_true', Bool.not_eq_false'] at hb); rotate_right 1; intro hb; (try simp only [Bool.not_eq_true', Bool.not_eq_false'] at hb)))
    | with_reducible refine dr_nil ?_
    | ((with_reducible apply dr_on); (solve | simp [*]); (solve | (simp [*]; done) | (simp [*]; rfl) | rfl))
    | ((with_reducible apply dr_off); (solve | simp [*]))
    | ((with_reducible apply dr_alloc); (solve | simp [*]); (solve | rfl); (solve | (simp [*]; done) | (simp [*]; rfl) | rfl))
    | ((with_reducible apply dr_pcall); (solve | simp [*]); (solve | rfl); (solve | (simp [*]; done) | (simp [*]; rfl) | rfl); (solve | (simp [*]; done) | (simp [*]; rfl) | rfl); (solve | apply brought_ok))
    | ((with_reducible apply dr_splitv); (solve | (simp [*]; done) | (simp [*]; rfl) | rfl); (solve | rfl); (fail_if_success (with_reducible show true = true → _)); (fail_if_success (with_reducible show false = true → _)); (rotate_left 1; intro hb; (try simp only [Bool.not_eq_true', Bool.not_eq_false'] at hb); rotate_right 1; intro hb; (try simp only [Bool.not_eq_true', Bool.not_eq_false'] at hb)))
    | ((with_reducible apply pre_skip); (solve | rfl))
    | with_reducible refine pre_nil ?_
    | ((with_reducible apply pre_alloc); (solve | rfl); (solve | rfl | simp); (intro i_ hi_; (try simp only [upd_none] at hi_)))
    | ((with_reducible apply body_ret); (solve | (simp [*]; done) | (simp [*]; rfl)); simp only [pack])
    | ((with_reducible apply body_normal); (solve | (simp [*]; done) | (simp [*]; rfl)); simp only [pack]))
  all_goals (refine leaf hq ?_ ?_)
  all_goals first | (solve | (repeat' (first | exact HLe.refl _ | ((with_reducible refine hle_upd ?_ ?_); (solve | simp [*]))))) | (simp [bounce, *]; done) | (simp_all [bounce]; done) | (simp_all [bounce]; omega) | (simp_all [bounce, Int.not_lt.mpr, Int.not_le.mpr]; done) | skip
end Go.Proofs.Ytbjbhoggbbhblaa
