import Derived.Test.YtbjbhoggbbhblaaBod2
set_option linter.unusedSimpArgs false
set_option linter.unusedVariables false
namespace Go.Proofs.Ytbjbhoggbbhblaa
open Go.Cl Go

def hitOf (a b : Body) : Bool := a.right && b.right && decide (a.k = 1) && decide (b.k = 2) && !decide (a.o = b.o) && within (w (a.x - b.x)) (-32) 32 && within (w (a.y - b.y)) (-32) 32
def Body.hit (a b : Body) : Bool := if a.k = 2 then hitOf b a else hitOf a b
set_option maxHeartbeats 4000000 in
theorem hit_ok (a b : Body) : OkP C 13 [enc a, enc b] (Bo (a.hit b)) := by
  refine okP_of (c := Try.f13.body.getD .skip) (rs := Try.f13.results.toList) (n := Try.f13.ntmps) ⟨⟨Try.f13, Try.func13, rfl, rfl, rfl, rfl⟩, by kernel_rfl, by kernel_rfl⟩ (by simp [Try.ntmps13]) ?_
  intro h Q hq
  unfold Try.f13
  simp only [Option.getD_some]
  repeat' (first
    | with_reducible refine wp_seq' ?_
    | with_reducible refine then_normal ?_
    | with_reducible refine then_ret ?_
    | with_reducible refine then_exit ?_
    | with_reducible refine then_pan ?_
    | with_reducible refine in_normal ?_
    | with_reducible refine in_ret ?_
    | with_reducible refine in_exit ?_
    | ((with_reducible apply in_far); (solve | rfl))
    | with_reducible refine in_pan ?_
    | ((with_reducible refine wp_region' ?_); simp only [])
    | with_reducible refine wp_ret' ?_
    | with_reducible refine wp_skip' ?_
    | with_reducible refine wp_block' ?_
    | with_reducible refine wp_exit' ?_
    | with_reducible refine turns_in ?_
    | with_reducible refine turns_next ?_
    | with_reducible refine ops_nil ?_
    | ((with_reducible refine wp_cond' (t := true) ?_ (fun _ => ?_) (fun hb => absurd hb (by decide))); (solve | (simp [*, enc, wrap_i64]; done)))
    | ((with_reducible refine wp_cond' (t := false) ?_ (fun hb => absurd hb (by decide)) (fun _ => ?_)); (solve | (simp [*, enc, wrap_i64]; done)))
    | ((with_reducible apply wp_condv); (solve | (simp [*, enc, wrap_i64]; done) | (simp [*, enc, wrap_i64]; rfl) | rfl); (solve | rfl); (fail_if_success (with_reducible show true = true → _)); (fail_if_success (with_reducible show false = true → _)); (rotate_left 1; intro hb; (try simp only [Bool.not_eq_true', Bool.not_eq_false'] at hb); rotate_right 1; intro hb; (try simp only [Bool.not_eq_true', Bool.not_eq_false'] at hb)))
    | ((with_reducible apply ops_on); (solve | simp [*, enc, wrap_i64]); (solve | (simp [*, enc, wrap_i64]; done) | (simp [*, enc, wrap_i64]; rfl) | rfl))
    | ((with_reducible apply ops_off); (solve | simp [*, enc, wrap_i64]))
    | ((with_reducible apply ops_pcall); (solve | simp [*, enc, wrap_i64]); (solve | rfl); (solve | (simp [*, enc, wrap_i64]; done) | (simp [*, enc, wrap_i64]; rfl) | rfl); (solve | (simp [*, enc, wrap_i64]; done) | (simp [*, enc, wrap_i64]; rfl) | rfl); (solve | apply right_ok))
    | ((with_reducible apply ops_pcall); (solve | simp [*, enc, wrap_i64]); (solve | rfl); (solve | (simp [*, enc, wrap_i64]; done) | (simp [*, enc, wrap_i64]; rfl) | rfl); (solve | (simp [*, enc, wrap_i64]; done) | (simp [*, enc, wrap_i64]; rfl) | rfl); (solve | apply (right_ok ⟨_, _, _, _, _, _, _, _, _, _, _, _⟩)))
    | ((with_reducible apply ops_pcall); (solve | simp [*, enc, wrap_i64]); (solve | rfl); (solve | (simp [*, enc, wrap_i64]; done) | (simp [*, enc, wrap_i64]; rfl) | rfl); (solve | (simp [*, enc, wrap_i64]; done) | (simp [*, enc, wrap_i64]; rfl) | rfl); (solve | apply within_ok))
    | ((with_reducible apply ops_alloc); (solve | simp [*, enc, wrap_i64]); (solve | rfl); (solve | rfl | simp); (intro i_ hi_; (try simp only [upd_none] at hi_)))
    | ((with_reducible apply ops_box); (solve | simp [*, enc, wrap_i64]); (solve | rfl); (solve | rfl | simp); (solve | (simp [*, enc, wrap_i64]; done) | (simp [*, enc, wrap_i64]; rfl) | rfl); (solve | rfl | simp [*, enc, wrap_i64]); (intro i_ hi_; (try simp only [upd_none] at hi_)))
    | ((with_reducible apply ops_store); (solve | simp [*, enc, wrap_i64]); (solve | rfl); (solve | rfl | simp); (solve | (simp [*, enc, wrap_i64]; done) | (simp [*, enc, wrap_i64]; rfl) | rfl); (solve | (simp [*, enc, wrap_i64]; done) | (simp [*, enc, wrap_i64]; rfl) | rfl); (solve | (simp [*, enc, wrap_i64]; done) | (simp [*, enc, wrap_i64]; rfl) | rfl); (solve | (simp [*, enc, wrap_i64]; done) | (simp [*, enc, wrap_i64]; rfl) | rfl); (solve | (simp [*, enc, wrap_i64]; done) | (simp [*, enc, wrap_i64]; rfl) | rfl); (solve | (simp [*, enc, wrap_i64]; done) | (simp [*, enc, wrap_i64]; rfl) | rfl))
    | ((with_reducible apply ops_splitv); (solve | (simp [*, enc, wrap_i64]; done) | (simp [*, enc, wrap_i64]; rfl) | rfl); (solve | rfl); (fail_if_success (with_reducible show true = true → _)); (fail_if_success (with_reducible show false = true → _)); (rotate_left 1; intro hb; (try simp only [Bool.not_eq_true', Bool.not_eq_false'] at hb); rotate_right 1; intro hb; (try simp only [Bool.not_eq_true', Bool.not_eq_false'] at hb)))
    | with_reducible refine dr_nil ?_
    | ((with_reducible apply dr_on); (solve | simp [*, enc, wrap_i64]); (solve | (simp [*, enc, wrap_i64]; done) | (simp [*, enc, wrap_i64]; rfl) | rfl))
    | ((with_reducible apply dr_off); (solve | simp [*, enc, wrap_i64]))
    | ((with_reducible apply dr_alloc); (solve | simp [*, enc, wrap_i64]); (solve | rfl); (solve | (simp [*, enc, wrap_i64]; done) | (simp [*, enc, wrap_i64]; rfl) | rfl))
    | ((with_reducible apply dr_pcall); (solve | simp [*, enc, wrap_i64]); (solve | rfl); (solve | (simp [*, enc, wrap_i64]; done) | (simp [*, enc, wrap_i64]; rfl) | rfl); (solve | (simp [*, enc, wrap_i64]; done) | (simp [*, enc, wrap_i64]; rfl) | rfl); (solve | apply right_ok))
    | ((with_reducible apply dr_pcall); (solve | simp [*, enc, wrap_i64]); (solve | rfl); (solve | (simp [*, enc, wrap_i64]; done) | (simp [*, enc, wrap_i64]; rfl) | rfl); (solve | (simp [*, enc, wrap_i64]; done) | (simp [*, enc, wrap_i64]; rfl) | rfl); (solve | apply (right_ok ⟨_, _, _, _, _, _, _, _, _, _, _, _⟩)))
    | ((with_reducible apply dr_pcall); (solve | simp [*, enc, wrap_i64]); (solve | rfl); (solve | (simp [*, enc, wrap_i64]; done) | (simp [*, enc, wrap_i64]; rfl) | rfl); (solve | (simp [*, enc, wrap_i64]; done) | (simp [*, enc, wrap_i64]; rfl) | rfl); (solve | apply within_ok))
    | ((with_reducible apply dr_splitv); (solve | (simp [*, enc, wrap_i64]; done) | (simp [*, enc, wrap_i64]; rfl) | rfl); (solve | rfl); (fail_if_success (with_reducible show true = true → _)); (fail_if_success (with_reducible show false = true → _)); (rotate_left 1; intro hb; (try simp only [Bool.not_eq_true', Bool.not_eq_false'] at hb); rotate_right 1; intro hb; (try simp only [Bool.not_eq_true', Bool.not_eq_false'] at hb)))
    | ((with_reducible apply pre_skip); (solve | rfl))
    | with_reducible refine pre_nil ?_
    | ((with_reducible apply pre_alloc); (solve | rfl); (solve | rfl | simp); (intro i_ hi_; (try simp only [upd_none] at hi_)))
    | ((with_reducible apply body_ret); (solve | (simp [*, enc, wrap_i64]; done) | (simp [*, enc, wrap_i64]; rfl)); simp only [pack])
    | ((with_reducible apply body_normal); (solve | (simp [*, enc, wrap_i64]; done) | (simp [*, enc, wrap_i64]; rfl)); simp only [pack]))
  all_goals (refine leaf hq ?_ ?_)
  all_goals first | (solve | (repeat' (first | exact HLe.refl _ | ((with_reducible refine hle_upd ?_ ?_); (solve | simp [*]))))) | (simp [Body.hit, hitOf, *]; done) | (simp_all [Body.hit, hitOf]; done) | (simp_all [Body.hit, hitOf]; omega) | (simp_all [Body.hit, hitOf, Int.not_lt.mpr, Int.not_le.mpr]; done) | skip

theorem brought_range {n lo hi : Int} (h : lo ≤ hi) : lo ≤ brought n lo hi ∧ brought n lo hi ≤ hi := by
  unfold brought; split <;> split <;> omega
def born (o p : Int) : Body :=
  let p' := brought p 1 8
  let o' := brought o 0 (w (p' - 1))
  ⟨1, o', w ((w (w (w (2 * o') + 1) * 4096)).tdiv (w (2 * p'))), 2048, 0, 0, 0, 0, 0, 0, 0, 0⟩
set_option maxHeartbeats 4000000 in
theorem born_ok (o p : Int) : OkP C 16 [I o, I p] (enc (born o p)) := by
  refine okP_of (c := Try.f16.body.getD .skip) (rs := Try.f16.results.toList) (n := Try.f16.ntmps) ⟨⟨Try.f16, Try.func16, rfl, rfl, rfl, rfl⟩, by kernel_rfl, by kernel_rfl⟩ (by simp [Try.ntmps16]) ?_
  intro h Q hq
  unfold Try.f16
  simp only [Option.getD_some]
  have hp := brought_range (n := p) (lo := 1) (hi := 8) (by decide)
  have hne : ¬ IntKind.i64.wrap (2 * brought p 1 8) = 0 := by rw [wrap_i64] <;> omega
  repeat' (first
    | with_reducible refine wp_seq' ?_
    | with_reducible refine then_normal ?_
    | with_reducible refine then_ret ?_
    | with_reducible refine then_exit ?_
    | with_reducible refine then_pan ?_
    | with_reducible refine in_normal ?_
    | with_reducible refine in_ret ?_
    | with_reducible refine in_exit ?_
    | ((with_reducible apply in_far); (solve | rfl))
    | with_reducible refine in_pan ?_
    | ((with_reducible refine wp_region' ?_); simp only [])
    | with_reducible refine wp_ret' ?_
    | with_reducible refine wp_skip' ?_
    | with_reducible refine wp_block' ?_
    | with_reducible refine wp_exit' ?_
    | with_reducible refine turns_in ?_
    | with_reducible refine turns_next ?_
    | with_reducible refine ops_nil ?_
    | ((with_reducible refine wp_cond' (t := true) ?_ (fun _ => ?_) (fun hb => absurd hb (by decide))); (solve | (simp [*, enc]; done)))
    | ((with_reducible refine wp_cond' (t := false) ?_ (fun hb => absurd hb (by decide)) (fun _ => ?_)); (solve | (simp [*, enc]; done)))
    | ((with_reducible apply wp_condv); (solve | (simp [*, enc]; done) | (simp [*, enc]; rfl) | rfl); (solve | rfl); (fail_if_success (with_reducible show true = true → _)); (fail_if_success (with_reducible show false = true → _)); (rotate_left 1; intro hb; (try simp only [Bool.not_eq_true', Bool.not_eq_false'] at hb); rotate_right 1; intro hb; (try simp only [Bool.not_eq_true', Bool.not_eq_false'] at hb)))
    | ((with_reducible apply ops_on); (solve | simp [*, enc]); (solve | (simp [*, enc]; done) | (simp [*, enc]; rfl) | rfl))
    | ((with_reducible apply ops_off); (solve | simp [*, enc]))
    | ((with_reducible apply ops_pcall); (solve | simp [*, enc]); (solve | rfl); (solve | (simp [*, enc]; done) | (simp [*, enc]; rfl) | rfl); (solve | (simp [*, enc]; done) | (simp [*, enc]; rfl) | rfl); (solve | apply brought_ok))
    | ((with_reducible apply ops_alloc); (solve | simp [*, enc]); (solve | rfl); (solve | rfl | simp); (intro i_ hi_; (try simp only [upd_none] at hi_)))
    | ((with_reducible apply ops_box); (solve | simp [*, enc]); (solve | rfl); (solve | rfl | simp); (solve | (simp [*, enc]; done) | (simp [*, enc]; rfl) | rfl); (solve | rfl | simp [*, enc]); (intro i_ hi_; (try simp only [upd_none] at hi_)))
    | ((with_reducible apply ops_store); (solve | simp [*, enc]); (solve | rfl); (solve | rfl | simp); (solve | (simp [*, enc]; done) | (simp [*, enc]; rfl) | rfl); (solve | (simp [*, enc]; done) | (simp [*, enc]; rfl) | rfl); (solve | (simp [*, enc]; done) | (simp [*, enc]; rfl) | rfl); (solve | (simp [*, enc]; done) | (simp [*, enc]; rfl) | rfl); (solve | (simp [*, enc]; done) | (simp [*, enc]; rfl) | rfl); (solve | (simp [*, enc]; done) | (simp [*, enc]; rfl) | rfl))
    | ((with_reducible apply ops_splitv); (solve | (simp [*, enc]; done) | (simp [*, enc]; rfl) | rfl); (solve | rfl); (fail_if_success (with_reducible show true = true → _)); (fail_if_success (with_reducible show false = true → _)); (rotate_left 1; intro hb; (try simp only [Bool.not_eq_true', Bool.not_eq_false'] at hb); rotate_right 1; intro hb; (try simp only [Bool.not_eq_true', Bool.not_eq_false'] at hb)))
    | with_reducible refine dr_nil ?_
    | ((with_reducible apply dr_on); (solve | simp [*, enc]); (solve | (simp [*, enc]; done) | (simp [*, enc]; rfl) | rfl))
    | ((with_reducible apply dr_off); (solve | simp [*, enc]))
    | ((with_reducible apply dr_alloc); (solve | simp [*, enc]); (solve | rfl); (solve | (simp [*, enc]; done) | (simp [*, enc]; rfl) | rfl))
    | ((with_reducible apply dr_pcall); (solve | simp [*, enc]); (solve | rfl); (solve | (simp [*, enc]; done) | (simp [*, enc]; rfl) | rfl); (solve | (simp [*, enc]; done) | (simp [*, enc]; rfl) | rfl); (solve | apply brought_ok))
    | ((with_reducible apply dr_splitv); (solve | (simp [*, enc]; done) | (simp [*, enc]; rfl) | rfl); (solve | rfl); (fail_if_success (with_reducible show true = true → _)); (fail_if_success (with_reducible show false = true → _)); (rotate_left 1; intro hb; (try simp only [Bool.not_eq_true', Bool.not_eq_false'] at hb); rotate_right 1; intro hb; (try simp only [Bool.not_eq_true', Bool.not_eq_false'] at hb)))
    | ((with_reducible apply pre_skip); (solve | rfl))
    | with_reducible refine pre_nil ?_
    | ((with_reducible apply pre_alloc); (solve | rfl); (solve | rfl | simp); (intro i_ hi_; (try simp only [upd_none] at hi_)))
    | ((with_reducible apply body_ret); (solve | (simp [*, enc]; done) | (simp [*, enc]; rfl)); simp only [pack])
    | ((with_reducible apply body_normal); (solve | (simp [*, enc]; done) | (simp [*, enc]; rfl)); simp only [pack]))
  all_goals (refine leaf hq ?_ ?_)
  all_goals first | (solve | (repeat' (first | exact HLe.refl _ | ((with_reducible refine hle_upd ?_ ?_); (solve | simp [*]))))) | (simp [born, enc, *]; done) | (simp_all [born, enc]; done) | (simp_all [born, enc]; omega) | (simp_all [born, enc, Int.not_lt.mpr, Int.not_le.mpr]; done) | skip
end Go.Proofs.Ytbjbhoggbbhblaa
