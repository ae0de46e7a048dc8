import Derived.Test.YtbjbhoggbbhblaaBod5
import Derived.Test.YtbjbhoggbbhblaaCl22
set_option linter.unusedSimpArgs false
set_option linter.unusedVariables false
namespace Go.Proofs.Ytbjbhoggbbhblaa
open Go.Cl Go

theorem pick_range {x m : Int} (hm : 0 < m) (hm' : m ≤ 4611686018427387904) : 0 ≤ pick x m ∧ pick x m < m := by
  have := Int.tmod_lt_of_pos x (b := m) hm
  have := Int.lt_tmod_of_pos x (b := m) hm
  unfold pick
  split
  · have h := wrap_i64 (n := x.tmod m + m) (by omega) (by omega)
    simp only [w, h]
    omega
  · omega
theorem pick_ok_c (n m : Int) (hm : decide (m = 0) = false := by decide) : OkP C 17 [I n, I m] (I (pick n m)) := pick_ok n m (by simpa using hm)

def bornRow (n i j : Nat) : Bool :=
  let a := born i n
  let b := born j n
  a.right && decide (a.o = i) && decide (a.k = 1) && decide ((w (a.x * n)).tdiv 4096 = i) && decide (w ((w (a.x * n)).tdiv 4096) = i) && (!decide (j < i) || (decide (b.x < a.x) && decide (b.y = a.y) && (a.hit b == false) && (a.hit (b.shoot 0 0) == false)))
theorem born_rows : ∀ n : Fin 8, ∀ i : Fin 8, ∀ j : Fin 8, (!decide (i.1 < n.1 + 1) || bornRow (n.1 + 1) i.1 j.1) = true := by decide +kernel
theorem born_facts {n i : Int} (h1 : n ≤ 8) (h2 : 0 ≤ i) (h3 : i < n) : (born i n).right = true ∧ (born i n).o = i ∧ (born i n).k = 1 ∧ IntKind.i64.wrap ((IntKind.i64.wrap ((born i n).x * n)).tdiv 4096) = i ∧
    ∀ j : Int, 0 ≤ j → j < i → ¬ (born i n).x ≤ (born j n).x ∧ (born j n).y = (born i n).y ∧ (born i n).hit (born j n) = false ∧ (born i n).hit ((born j n).shoot 0 0) = false := by
  obtain ⟨n, rfl⟩ := Int.eq_ofNat_of_zero_le (a := n) (by omega)
  obtain ⟨i, rfl⟩ := Int.eq_ofNat_of_zero_le (a := i) (by omega)
  have key : ∀ j : Nat, j < 8 → bornRow n i j = true := fun j hj => by
    have := born_rows ⟨n - 1, by omega⟩ ⟨i, by omega⟩ ⟨j, hj⟩
    simp only [Bool.or_eq_true, Bool.not_eq_true', decide_eq_false_iff_not] at this
    have e : n - 1 + 1 = n := by omega
    rw [e] at this
    exact this.resolve_left (fun h => h (by omega))
  have k0 := key 0 (by omega)
  simp only [bornRow, Bool.and_eq_true, decide_eq_true_eq] at k0
  refine ⟨k0.1.1.1.1.1, k0.1.1.1.1.2, k0.1.1.1.2, k0.1.2, fun j hj0 hji => ?_⟩
  obtain ⟨j, rfl⟩ := Int.eq_ofNat_of_zero_le hj0
  have kj := key j (by omega)
  simp only [bornRow, Bool.and_eq_true, decide_eq_true_eq, Bool.or_eq_true, Bool.not_eq_true', decide_eq_false_iff_not, beq_iff_eq] at kj
  have := kj.2.resolve_left (fun h => h (by omega))
  exact ⟨by omega, this.1.1.2, this.1.2, this.2⟩

set_option maxHeartbeats 8000000 in
theorem bornlaw_ok (x : Int) : OkP C 5 [I x] (Bo true) := by
  refine okP_of (c := Try.f5.body.getD .skip) (rs := Try.f5.results.toList) (n := Try.f5.ntmps) ⟨⟨Try.f5, Try.func5, rfl, rfl, rfl, rfl⟩, by kernel_rfl, by kernel_rfl⟩ (by simp [Try.ntmps5]) ?_
  intro h Q hq
  unfold Try.f5
  simp only [Option.getD_some]
  have hp := pick_range (x := x) (m := 8) (by decide) (by decide)
  have hn := wrap_i64 (n := 1 + pick x 8) (by omega) (by omega)
  all_goals repeat' (first
    | with_reducible refine wp_seq' ?_
    | with_reducible refine then_normal ?_
    | with_reducible refine then_ret ?_
    | with_reducible refine then_exit ?_
    | with_reducible refine then_pan ?_
    | with_reducible refine in_normal ?_
    | with_reducible refine in_ret ?_
    | with_reducible refine in_exit ?_
    | ((with_reducible apply in_far); (solve | rfl))
    | with_reducible refine in_pan ?_
    | ((with_reducible refine wp_region' ?_); simp only [])
    | with_reducible refine wp_ret' ?_
    | with_reducible refine wp_skip' ?_
    | with_reducible refine wp_block' ?_
    | with_reducible refine wp_exit' ?_
    | with_reducible refine turns_in ?_
    | with_reducible refine turns_next ?_
    | with_reducible refine ops_nil ?_
    | ((with_reducible refine wp_cond' (t := true) ?_ (fun _ => ?_) (fun hb => absurd hb (by decide))); (solve | (simp [*, enc]; done)))
    | ((with_reducible refine wp_cond' (t := false) ?_ (fun hb => absurd hb (by decide)) (fun _ => ?_)); (solve | (simp [*, enc]; done)))
    | ((with_reducible apply wp_condv); (solve | (simp [*, enc]; done) | (simp [*, enc]; rfl) | rfl); (solve | rfl); (fail_if_success (with_reducible show true = true → _)); (fail_if_success (with_reducible show false = true → _)); (rotate_left 1; intro hb; (try simp only [Bool.not_eq_true', Bool.not_eq_false'] at hb); rotate_right 1; intro hb; (try simp only [Bool.not_eq_true', Bool.not_eq_false'] at hb)))
    | ((with_reducible apply ops_on); (solve | simp [*, enc]); (solve | (simp [*, enc]; done) | (simp [*, enc]; rfl) | rfl))
    | ((with_reducible apply ops_onv); (solve | simp [*, enc]); (solve | (simp [*, enc]; done) | (simp [*, enc]; rfl) | rfl); (solve | rfl))
    | ((with_reducible apply ops_off); (solve | simp [*, enc]))
    | ((with_reducible apply ops_pcall); (solve | simp [*, enc]); (solve | rfl); (solve | (simp [*, enc]; done) | (simp [*, enc]; rfl) | rfl); (solve | (simp [*, enc]; done) | (simp [*, enc]; rfl) | rfl); (solve | apply known_ok | (apply known_ok; (solve | decide | simp [*, enc]))))
    | ((with_reducible apply ops_pcall); (solve | simp [*, enc]); (solve | rfl); (solve | (simp [*, enc]; done) | (simp [*, enc]; rfl) | rfl); (solve | (simp [*, enc]; done) | (simp [*, enc]; rfl) | rfl); (solve | apply pick_ok_c | (apply pick_ok_c; (solve | decide | simp [*, enc]))))
    | ((with_reducible apply ops_alloc); (solve | simp [*, enc]); (solve | rfl); (solve | rfl | simp); (intro i_ hi_; (try simp only [upd_none] at hi_)))
    | ((with_reducible apply ops_box); (solve | simp [*, enc]); (solve | rfl); (solve | rfl | simp); (solve | (simp [*, enc]; done) | (simp [*, enc]; rfl) | rfl); (solve | rfl | simp [*, enc]); (intro i_ hi_; (try simp only [upd_none] at hi_)))
    | ((with_reducible apply ops_store); (solve | simp [*, enc]); (solve | rfl); (solve | rfl | simp); (solve | (simp [*, enc]; done) | (simp [*, enc]; rfl) | rfl); (solve | (simp [*, enc]; done) | (simp [*, enc]; rfl) | rfl); (solve | (simp [*, enc]; done) | (simp [*, enc]; rfl) | rfl); (solve | (simp [*, enc]; done) | (simp [*, enc]; rfl) | rfl); (solve | (simp [*, enc]; done) | (simp [*, enc]; rfl) | rfl); (solve | (simp [*, enc]; done) | (simp [*, enc]; rfl) | rfl))
    | ((with_reducible apply ops_storev); (solve | simp [*, enc]); (solve | rfl); (solve | rfl | simp); (solve | (simp [*, enc]; done) | (simp [*, enc]; rfl) | rfl); (solve | rfl); (solve | (simp [*, enc]; done) | (simp [*, enc]; rfl) | rfl); (solve | rfl); (solve | (simp [*, enc]; done) | (simp [*, enc]; rfl) | rfl); (solve | rfl); (solve | (simp [*, enc]; done) | (simp [*, enc]; rfl) | rfl); (solve | (simp [*, enc]; done) | (simp [*, enc]; rfl) | rfl); (solve | (simp [*, enc]; done) | (simp [*, enc]; rfl) | rfl))
    | ((with_reducible apply ops_splitv); (solve | (simp [*, enc]; done) | (simp [*, enc]; rfl) | rfl); (solve | rfl); (fail_if_success (with_reducible show true = true → _)); (fail_if_success (with_reducible show false = true → _)); (rotate_left 1; intro hb; (try simp only [Bool.not_eq_true', Bool.not_eq_false'] at hb); rotate_right 1; intro hb; (try simp only [Bool.not_eq_true', Bool.not_eq_false'] at hb)))
    | ((with_reducible refine wp_draw (i := 14) 23 (by kernel_rfl) ?_); simp only [List.take_succ_cons, List.take_zero, List.drop_succ_cons, List.drop_zero])
    | with_reducible refine dr_nil ?_
    | ((with_reducible apply dr_on); (solve | simp [*, enc]); (solve | (simp [*, enc]; done) | (simp [*, enc]; rfl) | rfl))
    | ((with_reducible apply dr_onv); (solve | simp [*, enc]); (solve | (simp [*, enc]; done) | (simp [*, enc]; rfl) | rfl); (solve | rfl))
    | ((with_reducible apply dr_off); (solve | simp [*, enc]))
    | ((with_reducible apply dr_alloc); (solve | simp [*, enc]); (solve | rfl); (solve | (simp [*, enc]; done) | (simp [*, enc]; rfl) | rfl))
    | ((with_reducible apply dr_pcall); (solve | simp [*, enc]); (solve | rfl); (solve | (simp [*, enc]; done) | (simp [*, enc]; rfl) | rfl); (solve | (simp [*, enc]; done) | (simp [*, enc]; rfl) | rfl); (solve | apply known_ok | (apply known_ok; (solve | decide | simp [*, enc]))))
    | ((with_reducible apply dr_pcall); (solve | simp [*, enc]); (solve | rfl); (solve | (simp [*, enc]; done) | (simp [*, enc]; rfl) | rfl); (solve | (simp [*, enc]; done) | (simp [*, enc]; rfl) | rfl); (solve | apply pick_ok_c | (apply pick_ok_c; (solve | decide | simp [*, enc]))))
    | ((with_reducible apply dr_splitv); (solve | (simp [*, enc]; done) | (simp [*, enc]; rfl) | rfl); (solve | rfl); (fail_if_success (with_reducible show true = true → _)); (fail_if_success (with_reducible show false = true → _)); (rotate_left 1; intro hb; (try simp only [Bool.not_eq_true', Bool.not_eq_false'] at hb); rotate_right 1; intro hb; (try simp only [Bool.not_eq_true', Bool.not_eq_false'] at hb)))
    | ((with_reducible apply pre_skip); (solve | rfl))
    | with_reducible refine pre_nil ?_
    | ((with_reducible apply pre_alloc); (solve | rfl); (solve | rfl | simp); (intro i_ hi_; (try simp only [upd_none] at hi_)))
    | ((with_reducible apply body_ret); (solve | (simp [*, enc]; done) | (simp [*, enc]; rfl)); simp only [pack])
    | ((with_reducible apply body_normal); (solve | (simp [*, enc]; done) | (simp [*, enc]; rfl)); simp only [pack]))
  all_goals try (solve | ((refine leaf hq ?_ ?_); (repeat' (first | assumption | exact HLe.refl _ | ((with_reducible refine hle_upd ?_ ?_); (solve | simp [*])))); (first | rfl | (simp [*]; done) | (simp_all []; done))))
  have hn1 : 1 ≤ 1 + pick x 8 := by omega
  have hn8 : 1 + pick x 8 ≤ 8 := by omega
  generalize 1 + pick x 8 = n at *
  refine wp_loop' (fun m env h' => ∃ (i : Int), env 3 = I n ∧ env 4 = I i ∧ HLe h h' ∧ 0 ≤ i ∧ i ≤ n ∧ (m : Int) = 8 - i) 8 ?_ ?_
  · refine ⟨0, by simp [*], by simp [*], ?_, by decide, by omega, by decide⟩
    repeat' (first | exact HLe.refl _ | ((with_reducible refine hle_upd ?_ ?_); (solve | simp [*])))
  · rintro m env h1 ⟨i, e3, e4, hle, hi0, hi8, hm⟩
    by_cases hin : i < n
    · have hw := wrap_i64 (n := i + 1) (by omega) (by omega)
      obtain ⟨f1, f2, f3, f4, f5⟩ := born_facts (n := n) hn8 hi0 hin
      rcases hb : born i n with ⟨k, o, bx, by_, vx, vy, age, m0, m1, m2, m3, f⟩
      rw [hb] at f1 f2 f3 f4 f5
      simp only at f2 f3 f4 f5
      have f2 := f2.symm
      have f3 := f3.symm
      subst f2 f3
      all_goals repeat' (first
        | with_reducible refine wp_seq' ?_
        | with_reducible refine then_normal ?_
        | with_reducible refine then_ret ?_
        | with_reducible refine then_exit ?_
        | with_reducible refine then_pan ?_
        | with_reducible refine in_normal ?_
        | with_reducible refine in_ret ?_
        | with_reducible refine in_exit ?_
        | ((with_reducible apply in_far); (solve | rfl))
        | with_reducible refine in_pan ?_
        | ((with_reducible refine wp_region' ?_); simp only [])
        | with_reducible refine wp_ret' ?_
        | with_reducible refine wp_skip' ?_
        | with_reducible refine wp_block' ?_
        | with_reducible refine wp_exit' ?_
        | with_reducible refine turns_in ?_
        | with_reducible refine turns_next ?_
        | with_reducible refine ops_nil ?_
        | ((with_reducible refine wp_cond' (t := true) ?_ (fun _ => ?_) (fun hb => absurd hb (by decide))); (solve | (simp [*, enc]; done)))
        | ((with_reducible refine wp_cond' (t := false) ?_ (fun hb => absurd hb (by decide)) (fun _ => ?_)); (solve | (simp [*, enc]; done)))
        | ((with_reducible apply wp_condv); (solve | (simp [*, enc]; done) | (simp [*, enc]; rfl) | rfl); (solve | rfl); (fail_if_success (with_reducible show true = true → _)); (fail_if_success (with_reducible show false = true → _)); (rotate_left 1; intro hb; (try simp only [Bool.not_eq_true', Bool.not_eq_false'] at hb); rotate_right 1; intro hb; (try simp only [Bool.not_eq_true', Bool.not_eq_false'] at hb)))
        | ((with_reducible apply ops_on); (solve | simp [*, enc]); (solve | (simp [*, enc]; done) | (simp [*, enc]; rfl) | rfl))
        | ((with_reducible apply ops_onv); (solve | simp [*, enc]); (solve | (simp [*, enc]; done) | (simp [*, enc]; rfl) | rfl); (solve | rfl))
        | ((with_reducible apply ops_off); (solve | simp [*, enc]))
        | ((with_reducible apply ops_pcall); (solve | simp [*, enc]); (solve | rfl); (solve | (simp [*, enc]; done) | (simp [*, enc]; rfl) | rfl); (solve | (simp [*, enc]; done) | (simp [*, enc]; rfl) | rfl); (solve | apply known_ok | (apply known_ok; (solve | decide | simp [*, enc]))))
        | ((with_reducible apply ops_pcall); (solve | simp [*, enc]); (solve | rfl); (solve | (simp [*, enc]; done) | (simp [*, enc]; rfl) | rfl); (solve | (simp [*, enc]; done) | (simp [*, enc]; rfl) | rfl); (solve | apply (right_ok ⟨_, _, _, _, _, _, _, _, _, _, _, _⟩) | (apply (right_ok ⟨_, _, _, _, _, _, _, _, _, _, _, _⟩); (solve | decide | simp [*, enc]))))
        | ((with_reducible apply ops_pcall); (solve | simp [*, enc]); (solve | rfl); (solve | (simp [*, enc]; done) | (simp [*, enc]; rfl) | rfl); (solve | (simp [*, enc]; done) | (simp [*, enc]; rfl) | rfl); (solve | apply born_ok | (apply born_ok; (solve | decide | simp [*, enc]))))
        | ((with_reducible apply ops_alloc); (solve | simp [*, enc]); (solve | rfl); (solve | rfl | simp); (intro i_ hi_; (try simp only [upd_none] at hi_)))
        | ((with_reducible apply ops_box); (solve | simp [*, enc]); (solve | rfl); (solve | rfl | simp); (solve | (simp [*, enc]; done) | (simp [*, enc]; rfl) | rfl); (solve | rfl | simp [*, enc]); (intro i_ hi_; (try simp only [upd_none] at hi_)))
        | ((with_reducible apply ops_store); (solve | simp [*, enc]); (solve | rfl); (solve | rfl | simp); (solve | (simp [*, enc]; done) | (simp [*, enc]; rfl) | rfl); (solve | (simp [*, enc]; done) | (simp [*, enc]; rfl) | rfl); (solve | (simp [*, enc]; done) | (simp [*, enc]; rfl) | rfl); (solve | (simp [*, enc]; done) | (simp [*, enc]; rfl) | rfl); (solve | (simp [*, enc]; done) | (simp [*, enc]; rfl) | rfl); (solve | (simp [*, enc]; done) | (simp [*, enc]; rfl) | rfl))
        | ((with_reducible apply ops_storev); (solve | simp [*, enc]); (solve | rfl); (solve | rfl | simp); (solve | (simp [*, enc]; done) | (simp [*, enc]; rfl) | rfl); (solve | rfl); (solve | (simp [*, enc]; done) | (simp [*, enc]; rfl) | rfl); (solve | rfl); (solve | (simp [*, enc]; done) | (simp [*, enc]; rfl) | rfl); (solve | rfl); (solve | (simp [*, enc]; done) | (simp [*, enc]; rfl) | rfl); (solve | (simp [*, enc]; done) | (simp [*, enc]; rfl) | rfl); (solve | (simp [*, enc]; done) | (simp [*, enc]; rfl) | rfl))
        | ((with_reducible apply ops_splitv); (solve | (simp [*, enc]; done) | (simp [*, enc]; rfl) | rfl); (solve | rfl); (fail_if_success (with_reducible show true = true → _)); (fail_if_success (with_reducible show false = true → _)); (rotate_left 1; intro hb; (try simp only [Bool.not_eq_true', Bool.not_eq_false'] at hb); rotate_right 1; intro hb; (try simp only [Bool.not_eq_true', Bool.not_eq_false'] at hb)))
        | ((with_reducible refine wp_draw (i := 14) 23 (by kernel_rfl) ?_); simp only [List.take_succ_cons, List.take_zero, List.drop_succ_cons, List.drop_zero])
        | with_reducible refine dr_nil ?_
        | ((with_reducible apply dr_on); (solve | simp [*, enc]); (solve | (simp [*, enc]; done) | (simp [*, enc]; rfl) | rfl))
        | ((with_reducible apply dr_onv); (solve | simp [*, enc]); (solve | (simp [*, enc]; done) | (simp [*, enc]; rfl) | rfl); (solve | rfl))
        | ((with_reducible apply dr_off); (solve | simp [*, enc]))
        | ((with_reducible apply dr_alloc); (solve | simp [*, enc]); (solve | rfl); (solve | (simp [*, enc]; done) | (simp [*, enc]; rfl) | rfl))
        | ((with_reducible apply dr_pcall); (solve | simp [*, enc]); (solve | rfl); (solve | (simp [*, enc]; done) | (simp [*, enc]; rfl) | rfl); (solve | (simp [*, enc]; done) | (simp [*, enc]; rfl) | rfl); (solve | apply known_ok | (apply known_ok; (solve | decide | simp [*, enc]))))
        | ((with_reducible apply dr_pcall); (solve | simp [*, enc]); (solve | rfl); (solve | (simp [*, enc]; done) | (simp [*, enc]; rfl) | rfl); (solve | (simp [*, enc]; done) | (simp [*, enc]; rfl) | rfl); (solve | apply (right_ok ⟨_, _, _, _, _, _, _, _, _, _, _, _⟩) | (apply (right_ok ⟨_, _, _, _, _, _, _, _, _, _, _, _⟩); (solve | decide | simp [*, enc]))))
        | ((with_reducible apply dr_pcall); (solve | simp [*, enc]); (solve | rfl); (solve | (simp [*, enc]; done) | (simp [*, enc]; rfl) | rfl); (solve | (simp [*, enc]; done) | (simp [*, enc]; rfl) | rfl); (solve | apply born_ok | (apply born_ok; (solve | decide | simp [*, enc]))))
        | ((with_reducible apply dr_splitv); (solve | (simp [*, enc]; done) | (simp [*, enc]; rfl) | rfl); (solve | rfl); (fail_if_success (with_reducible show true = true → _)); (fail_if_success (with_reducible show false = true → _)); (rotate_left 1; intro hb; (try simp only [Bool.not_eq_true', Bool.not_eq_false'] at hb); rotate_right 1; intro hb; (try simp only [Bool.not_eq_true', Bool.not_eq_false'] at hb)))
        | ((with_reducible apply pre_skip); (solve | rfl))
        | with_reducible refine pre_nil ?_
        | ((with_reducible apply pre_alloc); (solve | rfl); (solve | rfl | simp); (intro i_ hi_; (try simp only [upd_none] at hi_)))
        | ((with_reducible apply body_ret); (solve | (simp [*, enc]; done) | (simp [*, enc]; rfl)); simp only [pack])
        | ((with_reducible apply body_normal); (solve | (simp [*, enc]; done) | (simp [*, enc]; rfl)); simp only [pack]))
      all_goals try (solve | ((refine leaf hq ?_ ?_); (repeat' (first | assumption | exact HLe.refl _ | ((with_reducible refine hle_upd ?_ ?_); (solve | simp [*])))); (first | rfl | (simp [*]; done) | (simp_all []; done))))
      have hz := hle_none (i := i_) hle (by simp [hi_])
      refine wp_loop' (fun q2 env2 h2 => ∃ (j : Int), env2 3 = I n ∧ env2 4 = I i ∧ env2 5 = .ptr i_ [] ∧ env2 6 = I j ∧ h2 i_ = some (.var (enc ⟨1, i, bx, by_, vx, vy, age, m0, m1, m2, m3, f⟩)) ∧ HLe h h2 ∧ 0 ≤ j ∧ j ≤ i ∧ (q2 : Int) = 8 - j) 8 ?_ ?_
      · refine ⟨0, by simp [*], by simp [*], by simp [*], by simp [*], by simp [*, enc], ?_, by decide, hi0, by decide⟩
        repeat' (first | assumption | exact HLe.refl _ | ((with_reducible refine hle_upd ?_ ?_); (solve | simp [*])))
      · generalize hp5 : i_ = p5 at *
        rintro q2 env2 h2 ⟨j, g3, g4, g5, g6, gh, gle, hj0, hji, hq2⟩
        by_cases hjn : j < i
        · have hw2 := wrap_i64 (n := j + 1) (by omega) (by omega)
          obtain ⟨k1, k2, k3, k4⟩ := f5 j hj0 hjn
          rcases hc : born j n with ⟨ck, co, cx, cy, cvx, cvy, cage, cm0, cm1, cm2, cm3, cf⟩
          rw [hc] at k1 k2 k3 k4
          simp only at k1 k2
          have k2 := k2.symm
          subst k2
          all_goals repeat' (first
            | with_reducible refine wp_seq' ?_
            | with_reducible refine then_normal ?_
            | with_reducible refine then_ret ?_
            | with_reducible refine then_exit ?_
            | with_reducible refine then_pan ?_
            | with_reducible refine in_normal ?_
            | with_reducible refine in_ret ?_
            | with_reducible refine in_exit ?_
            | ((with_reducible apply in_far); (solve | rfl))
            | with_reducible refine in_pan ?_
            | ((with_reducible refine wp_region' ?_); simp only [])
            | with_reducible refine wp_ret' ?_
            | with_reducible refine wp_skip' ?_
            | with_reducible refine wp_block' ?_
            | with_reducible refine wp_exit' ?_
            | with_reducible refine turns_in ?_
            | with_reducible refine turns_next ?_
            | with_reducible refine ops_nil ?_
            | ((with_reducible refine wp_cond' (t := true) ?_ (fun _ => ?_) (fun hb => absurd hb (by decide))); (solve | (simp [*, enc]; done)))
            | ((with_reducible refine wp_cond' (t := false) ?_ (fun hb => absurd hb (by decide)) (fun _ => ?_)); (solve | (simp [*, enc]; done)))
            | ((with_reducible apply wp_condv); (solve | (simp [*, enc]; done) | (simp [*, enc]; rfl) | rfl); (solve | rfl); (fail_if_success (with_reducible show true = true → _)); (fail_if_success (with_reducible show false = true → _)); (rotate_left 1; intro hb; (try simp only [Bool.not_eq_true', Bool.not_eq_false'] at hb); rotate_right 1; intro hb; (try simp only [Bool.not_eq_true', Bool.not_eq_false'] at hb)))
            | ((with_reducible apply ops_on); (solve | simp [*, enc]); (solve | (simp [*, enc]; done) | (simp [*, enc]; rfl) | rfl))
            | ((with_reducible apply ops_onv); (solve | simp [*, enc]); (solve | (simp [*, enc]; done) | (simp [*, enc]; rfl) | rfl); (solve | rfl))
            | ((with_reducible apply ops_off); (solve | simp [*, enc]))
            | ((with_reducible apply ops_pcall); (solve | simp [*, enc]); (solve | rfl); (solve | (simp [*, enc]; done) | (simp [*, enc]; rfl) | rfl); (solve | (simp [*, enc]; done) | (simp [*, enc]; rfl) | rfl); (solve | apply known_ok | (apply known_ok; (solve | decide | simp [*, enc]))))
            | ((with_reducible apply ops_pcall); (solve | simp [*, enc]); (solve | rfl); (solve | (simp [*, enc]; done) | (simp [*, enc]; rfl) | rfl); (solve | (simp [*, enc]; done) | (simp [*, enc]; rfl) | rfl); (solve | apply (right_ok ⟨_, _, _, _, _, _, _, _, _, _, _, _⟩) | (apply (right_ok ⟨_, _, _, _, _, _, _, _, _, _, _, _⟩); (solve | decide | simp [*, enc]))))
            | ((with_reducible apply ops_pcall); (solve | simp [*, enc]); (solve | rfl); (solve | (simp [*, enc]; done) | (simp [*, enc]; rfl) | rfl); (solve | (simp [*, enc]; done) | (simp [*, enc]; rfl) | rfl); (solve | apply born_ok | (apply born_ok; (solve | decide | simp [*, enc]))))
            | ((with_reducible apply ops_pcall); (solve | simp [*, enc]); (solve | rfl); (solve | (simp [*, enc]; done) | (simp [*, enc]; rfl) | rfl); (solve | (simp [*, enc]; done) | (simp [*, enc]; rfl) | rfl); (solve | apply (hit_ok ⟨_, _, _, _, _, _, _, _, _, _, _, _⟩) | (apply (hit_ok ⟨_, _, _, _, _, _, _, _, _, _, _, _⟩); (solve | decide | simp [*, enc]))))
            | ((with_reducible apply ops_pcall); (solve | simp [*, enc]); (solve | rfl); (solve | (simp [*, enc]; done) | (simp [*, enc]; rfl) | rfl); (solve | (simp [*, enc]; done) | (simp [*, enc]; rfl) | rfl); (solve | apply (hit_ok ⟨_, _, _, _, _, _, _, _, _, _, _, _⟩ ⟨_, _, _, _, _, _, _, _, _, _, _, _⟩) | (apply (hit_ok ⟨_, _, _, _, _, _, _, _, _, _, _, _⟩ ⟨_, _, _, _, _, _, _, _, _, _, _, _⟩); (solve | decide | simp [*, enc]))))
            | ((with_reducible apply ops_pcall); (solve | simp [*, enc]); (solve | rfl); (solve | (simp [*, enc]; done) | (simp [*, enc]; rfl) | rfl); (solve | (simp [*, enc]; done) | (simp [*, enc]; rfl) | rfl); (solve | apply (shoot_ok ⟨_, _, _, _, _, _, _, _, _, _, _, _⟩) | (apply (shoot_ok ⟨_, _, _, _, _, _, _, _, _, _, _, _⟩); (solve | decide | simp [*, enc]))))
            | ((with_reducible apply ops_alloc); (solve | simp [*, enc]); (solve | rfl); (solve | rfl | simp); (intro i_ hi_; (try simp only [upd_none] at hi_); (try have hn_ := ne_live (i := i_) gh (by simp [hi_])); (try have hz_ := hle_none (i := i_) gle (by simp [hi_]))))
            | ((with_reducible apply ops_box); (solve | simp [*, enc]); (solve | rfl); (solve | rfl | simp); (solve | (simp [*, enc]; done) | (simp [*, enc]; rfl) | rfl); (solve | rfl | simp [*, enc]); (intro i_ hi_; (try simp only [upd_none] at hi_); (try have hn_ := ne_live (i := i_) gh (by simp [hi_])); (try have hz_ := hle_none (i := i_) gle (by simp [hi_]))))
            | ((with_reducible apply ops_store); (solve | simp [*, enc]); (solve | rfl); (solve | rfl | simp); (solve | (simp [*, enc]; done) | (simp [*, enc]; rfl) | rfl); (solve | (simp [*, enc]; done) | (simp [*, enc]; rfl) | rfl); (solve | (simp [*, enc]; done) | (simp [*, enc]; rfl) | rfl); (solve | (simp [*, enc]; done) | (simp [*, enc]; rfl) | rfl); (solve | (simp [*, enc]; done) | (simp [*, enc]; rfl) | rfl); (solve | (simp [*, enc]; done) | (simp [*, enc]; rfl) | rfl))
            | ((with_reducible apply ops_storev); (solve | simp [*, enc]); (solve | rfl); (solve | rfl | simp); (solve | (simp [*, enc]; done) | (simp [*, enc]; rfl) | rfl); (solve | rfl); (solve | (simp [*, enc]; done) | (simp [*, enc]; rfl) | rfl); (solve | rfl); (solve | (simp [*, enc]; done) | (simp [*, enc]; rfl) | rfl); (solve | rfl); (solve | (simp [*, enc]; done) | (simp [*, enc]; rfl) | rfl); (solve | (simp [*, enc]; done) | (simp [*, enc]; rfl) | rfl); (solve | (simp [*, enc]; done) | (simp [*, enc]; rfl) | rfl))
            | ((with_reducible apply ops_splitv); (solve | (simp [*, enc]; done) | (simp [*, enc]; rfl) | rfl); (solve | rfl); (fail_if_success (with_reducible show true = true → _)); (fail_if_success (with_reducible show false = true → _)); (rotate_left 1; intro hb; (try simp only [Bool.not_eq_true', Bool.not_eq_false'] at hb); rotate_right 1; intro hb; (try simp only [Bool.not_eq_true', Bool.not_eq_false'] at hb)))
            | ((with_reducible refine wp_draw (i := 14) 23 (by kernel_rfl) ?_); simp only [List.take_succ_cons, List.take_zero, List.drop_succ_cons, List.drop_zero])
            | with_reducible refine dr_nil ?_
            | ((with_reducible apply dr_on); (solve | simp [*, enc]); (solve | (simp [*, enc]; done) | (simp [*, enc]; rfl) | rfl))
            | ((with_reducible apply dr_onv); (solve | simp [*, enc]); (solve | (simp [*, enc]; done) | (simp [*, enc]; rfl) | rfl); (solve | rfl))
            | ((with_reducible apply dr_off); (solve | simp [*, enc]))
            | ((with_reducible apply dr_alloc); (solve | simp [*, enc]); (solve | rfl); (solve | (simp [*, enc]; done) | (simp [*, enc]; rfl) | rfl))
            | ((with_reducible apply dr_pcall); (solve | simp [*, enc]); (solve | rfl); (solve | (simp [*, enc]; done) | (simp [*, enc]; rfl) | rfl); (solve | (simp [*, enc]; done) | (simp [*, enc]; rfl) | rfl); (solve | apply known_ok | (apply known_ok; (solve | decide | simp [*, enc]))))
            | ((with_reducible apply dr_pcall); (solve | simp [*, enc]); (solve | rfl); (solve | (simp [*, enc]; done) | (simp [*, enc]; rfl) | rfl); (solve | (simp [*, enc]; done) | (simp [*, enc]; rfl) | rfl); (solve | apply (right_ok ⟨_, _, _, _, _, _, _, _, _, _, _, _⟩) | (apply (right_ok ⟨_, _, _, _, _, _, _, _, _, _, _, _⟩); (solve | decide | simp [*, enc]))))
            | ((with_reducible apply dr_pcall); (solve | simp [*, enc]); (solve | rfl); (solve | (simp [*, enc]; done) | (simp [*, enc]; rfl) | rfl); (solve | (simp [*, enc]; done) | (simp [*, enc]; rfl) | rfl); (solve | apply born_ok | (apply born_ok; (solve | decide | simp [*, enc]))))
            | ((with_reducible apply dr_pcall); (solve | simp [*, enc]); (solve | rfl); (solve | (simp [*, enc]; done) | (simp [*, enc]; rfl) | rfl); (solve | (simp [*, enc]; done) | (simp [*, enc]; rfl) | rfl); (solve | apply (hit_ok ⟨_, _, _, _, _, _, _, _, _, _, _, _⟩) | (apply (hit_ok ⟨_, _, _, _, _, _, _, _, _, _, _, _⟩); (solve | decide | simp [*, enc]))))
            | ((with_reducible apply dr_pcall); (solve | simp [*, enc]); (solve | rfl); (solve | (simp [*, enc]; done) | (simp [*, enc]; rfl) | rfl); (solve | (simp [*, enc]; done) | (simp [*, enc]; rfl) | rfl); (solve | apply (hit_ok ⟨_, _, _, _, _, _, _, _, _, _, _, _⟩ ⟨_, _, _, _, _, _, _, _, _, _, _, _⟩) | (apply (hit_ok ⟨_, _, _, _, _, _, _, _, _, _, _, _⟩ ⟨_, _, _, _, _, _, _, _, _, _, _, _⟩); (solve | decide | simp [*, enc]))))
            | ((with_reducible apply dr_pcall); (solve | simp [*, enc]); (solve | rfl); (solve | (simp [*, enc]; done) | (simp [*, enc]; rfl) | rfl); (solve | (simp [*, enc]; done) | (simp [*, enc]; rfl) | rfl); (solve | apply (shoot_ok ⟨_, _, _, _, _, _, _, _, _, _, _, _⟩) | (apply (shoot_ok ⟨_, _, _, _, _, _, _, _, _, _, _, _⟩); (solve | decide | simp [*, enc]))))
            | ((with_reducible apply dr_splitv); (solve | (simp [*, enc]; done) | (simp [*, enc]; rfl) | rfl); (solve | rfl); (fail_if_success (with_reducible show true = true → _)); (fail_if_success (with_reducible show false = true → _)); (rotate_left 1; intro hb; (try simp only [Bool.not_eq_true', Bool.not_eq_false'] at hb); rotate_right 1; intro hb; (try simp only [Bool.not_eq_true', Bool.not_eq_false'] at hb)))
            | ((with_reducible apply pre_skip); (solve | rfl))
            | with_reducible refine pre_nil ?_
            | ((with_reducible apply pre_alloc); (solve | rfl); (solve | rfl | simp); (intro i_ hi_; (try simp only [upd_none] at hi_); (try have hn_ := ne_live (i := i_) gh (by simp [hi_])); (try have hz_ := hle_none (i := i_) gle (by simp [hi_]))))
            | ((with_reducible apply body_ret); (solve | (simp [*, enc]; done) | (simp [*, enc]; rfl)); simp only [pack])
            | ((with_reducible apply body_normal); (solve | (simp [*, enc]; done) | (simp [*, enc]; rfl)); simp only [pack]))
          all_goals try (solve | ((refine leaf hq ?_ ?_); (repeat' (first | assumption | exact HLe.refl _ | ((with_reducible refine hle_upd ?_ ?_); (solve | simp [*])))); (first | rfl | (simp [*]; done) | (simp_all []; done))))
          refine ⟨q2 - 1, by omega, j + 1, by simp [*], by simp [*], by simp [*], by simp [*], by simp [*, enc], ?_, by omega, by omega, by omega⟩
          repeat' (first | assumption | exact HLe.refl _ | ((with_reducible refine hle_upd ?_ ?_); (solve | simp [*])))
        · have hjn' : decide (j < i) = false := by simpa using hjn
          all_goals repeat' (first
            | with_reducible refine wp_seq' ?_
            | with_reducible refine then_normal ?_
            | with_reducible refine then_ret ?_
            | with_reducible refine then_exit ?_
            | with_reducible refine then_pan ?_
            | with_reducible refine in_normal ?_
            | with_reducible refine in_ret ?_
            | with_reducible refine in_exit ?_
            | ((with_reducible apply in_far); (solve | rfl))
            | with_reducible refine in_pan ?_
            | ((with_reducible refine wp_region' ?_); simp only [])
            | with_reducible refine wp_ret' ?_
            | with_reducible refine wp_skip' ?_
            | with_reducible refine wp_block' ?_
            | with_reducible refine wp_exit' ?_
            | with_reducible refine turns_in ?_
            | with_reducible refine turns_next ?_
            | with_reducible refine ops_nil ?_
            | ((with_reducible refine wp_cond' (t := true) ?_ (fun _ => ?_) (fun hb => absurd hb (by decide))); (solve | (simp [*, enc]; done)))
            | ((with_reducible refine wp_cond' (t := false) ?_ (fun hb => absurd hb (by decide)) (fun _ => ?_)); (solve | (simp [*, enc]; done)))
            | ((with_reducible apply wp_condv); (solve | (simp [*, enc]; done) | (simp [*, enc]; rfl) | rfl); (solve | rfl); (fail_if_success (with_reducible show true = true → _)); (fail_if_success (with_reducible show false = true → _)); (rotate_left 1; intro hb; (try simp only [Bool.not_eq_true', Bool.not_eq_false'] at hb); rotate_right 1; intro hb; (try simp only [Bool.not_eq_true', Bool.not_eq_false'] at hb)))
            | ((with_reducible apply ops_on); (solve | simp [*, enc]); (solve | (simp [*, enc]; done) | (simp [*, enc]; rfl) | rfl))
            | ((with_reducible apply ops_onv); (solve | simp [*, enc]); (solve | (simp [*, enc]; done) | (simp [*, enc]; rfl) | rfl); (solve | rfl))
            | ((with_reducible apply ops_off); (solve | simp [*, enc]))
            | ((with_reducible apply ops_pcall); (solve | simp [*, enc]); (solve | rfl); (solve | (simp [*, enc]; done) | (simp [*, enc]; rfl) | rfl); (solve | (simp [*, enc]; done) | (simp [*, enc]; rfl) | rfl); (solve | apply known_ok | (apply known_ok; (solve | decide | simp [*, enc]))))
            | ((with_reducible apply ops_pcall); (solve | simp [*, enc]); (solve | rfl); (solve | (simp [*, enc]; done) | (simp [*, enc]; rfl) | rfl); (solve | (simp [*, enc]; done) | (simp [*, enc]; rfl) | rfl); (solve | apply right_ok | (apply right_ok; (solve | decide | simp [*, enc]))))
            | ((with_reducible apply ops_pcall); (solve | simp [*, enc]); (solve | rfl); (solve | (simp [*, enc]; done) | (simp [*, enc]; rfl) | rfl); (solve | (simp [*, enc]; done) | (simp [*, enc]; rfl) | rfl); (solve | apply born_ok | (apply born_ok; (solve | decide | simp [*, enc]))))
            | ((with_reducible apply ops_alloc); (solve | simp [*, enc]); (solve | rfl); (solve | rfl | simp); (intro i_ hi_; (try simp only [upd_none] at hi_); (try have hn_ := ne_live (i := i_) gh (by simp [hi_])); (try have hz_ := hle_none (i := i_) gle (by simp [hi_]))))
            | ((with_reducible apply ops_box); (solve | simp [*, enc]); (solve | rfl); (solve | rfl | simp); (solve | (simp [*, enc]; done) | (simp [*, enc]; rfl) | rfl); (solve | rfl | simp [*, enc]); (intro i_ hi_; (try simp only [upd_none] at hi_); (try have hn_ := ne_live (i := i_) gh (by simp [hi_])); (try have hz_ := hle_none (i := i_) gle (by simp [hi_]))))
            | ((with_reducible apply ops_store); (solve | simp [*, enc]); (solve | rfl); (solve | rfl | simp); (solve | (simp [*, enc]; done) | (simp [*, enc]; rfl) | rfl); (solve | (simp [*, enc]; done) | (simp [*, enc]; rfl) | rfl); (solve | (simp [*, enc]; done) | (simp [*, enc]; rfl) | rfl); (solve | (simp [*, enc]; done) | (simp [*, enc]; rfl) | rfl); (solve | (simp [*, enc]; done) | (simp [*, enc]; rfl) | rfl); (solve | (simp [*, enc]; done) | (simp [*, enc]; rfl) | rfl))
            | ((with_reducible apply ops_storev); (solve | simp [*, enc]); (solve | rfl); (solve | rfl | simp); (solve | (simp [*, enc]; done) | (simp [*, enc]; rfl) | rfl); (solve | rfl); (solve | (simp [*, enc]; done) | (simp [*, enc]; rfl) | rfl); (solve | rfl); (solve | (simp [*, enc]; done) | (simp [*, enc]; rfl) | rfl); (solve | rfl); (solve | (simp [*, enc]; done) | (simp [*, enc]; rfl) | rfl); (solve | (simp [*, enc]; done) | (simp [*, enc]; rfl) | rfl); (solve | (simp [*, enc]; done) | (simp [*, enc]; rfl) | rfl))
            | ((with_reducible apply ops_splitv); (solve | (simp [*, enc]; done) | (simp [*, enc]; rfl) | rfl); (solve | rfl); (fail_if_success (with_reducible show true = true → _)); (fail_if_success (with_reducible show false = true → _)); (rotate_left 1; intro hb; (try simp only [Bool.not_eq_true', Bool.not_eq_false'] at hb); rotate_right 1; intro hb; (try simp only [Bool.not_eq_true', Bool.not_eq_false'] at hb)))
            | ((with_reducible refine wp_draw (i := 14) 23 (by kernel_rfl) ?_); simp only [List.take_succ_cons, List.take_zero, List.drop_succ_cons, List.drop_zero])
            | with_reducible refine dr_nil ?_
            | ((with_reducible apply dr_on); (solve | simp [*, enc]); (solve | (simp [*, enc]; done) | (simp [*, enc]; rfl) | rfl))
            | ((with_reducible apply dr_onv); (solve | simp [*, enc]); (solve | (simp [*, enc]; done) | (simp [*, enc]; rfl) | rfl); (solve | rfl))
            | ((with_reducible apply dr_off); (solve | simp [*, enc]))
            | ((with_reducible apply dr_alloc); (solve | simp [*, enc]); (solve | rfl); (solve | (simp [*, enc]; done) | (simp [*, enc]; rfl) | rfl))
            | ((with_reducible apply dr_pcall); (solve | simp [*, enc]); (solve | rfl); (solve | (simp [*, enc]; done) | (simp [*, enc]; rfl) | rfl); (solve | (simp [*, enc]; done) | (simp [*, enc]; rfl) | rfl); (solve | apply known_ok | (apply known_ok; (solve | decide | simp [*, enc]))))
            | ((with_reducible apply dr_pcall); (solve | simp [*, enc]); (solve | rfl); (solve | (simp [*, enc]; done) | (simp [*, enc]; rfl) | rfl); (solve | (simp [*, enc]; done) | (simp [*, enc]; rfl) | rfl); (solve | apply right_ok | (apply right_ok; (solve | decide | simp [*, enc]))))
            | ((with_reducible apply dr_pcall); (solve | simp [*, enc]); (solve | rfl); (solve | (simp [*, enc]; done) | (simp [*, enc]; rfl) | rfl); (solve | (simp [*, enc]; done) | (simp [*, enc]; rfl) | rfl); (solve | apply born_ok | (apply born_ok; (solve | decide | simp [*, enc]))))
            | ((with_reducible apply dr_splitv); (solve | (simp [*, enc]; done) | (simp [*, enc]; rfl) | rfl); (solve | rfl); (fail_if_success (with_reducible show true = true → _)); (fail_if_success (with_reducible show false = true → _)); (rotate_left 1; intro hb; (try simp only [Bool.not_eq_true', Bool.not_eq_false'] at hb); rotate_right 1; intro hb; (try simp only [Bool.not_eq_true', Bool.not_eq_false'] at hb)))
            | ((with_reducible apply pre_skip); (solve | rfl))
            | with_reducible refine pre_nil ?_
            | ((with_reducible apply pre_alloc); (solve | rfl); (solve | rfl | simp); (intro i_ hi_; (try simp only [upd_none] at hi_); (try have hn_ := ne_live (i := i_) gh (by simp [hi_])); (try have hz_ := hle_none (i := i_) gle (by simp [hi_]))))
            | ((with_reducible apply body_ret); (solve | (simp [*, enc]; done) | (simp [*, enc]; rfl)); simp only [pack])
            | ((with_reducible apply body_normal); (solve | (simp [*, enc]; done) | (simp [*, enc]; rfl)); simp only [pack]))
          all_goals try (solve | ((refine leaf hq ?_ ?_); (repeat' (first | assumption | exact HLe.refl _ | ((with_reducible refine hle_upd ?_ ?_); (solve | simp [*])))); (first | rfl | (simp [*]; done) | (simp_all []; done))))
          refine ⟨m - 1, by omega, i + 1, by simp [*], by simp [*], by assumption, by omega, by omega, by omega⟩
    · have hin' : decide (i < n) = false := by simpa using hin
      all_goals repeat' (first
        | with_reducible refine wp_seq' ?_
        | with_reducible refine then_normal ?_
        | with_reducible refine then_ret ?_
        | with_reducible refine then_exit ?_
        | with_reducible refine then_pan ?_
        | with_reducible refine in_normal ?_
        | with_reducible refine in_ret ?_
        | with_reducible refine in_exit ?_
        | ((with_reducible apply in_far); (solve | rfl))
        | with_reducible refine in_pan ?_
        | ((with_reducible refine wp_region' ?_); simp only [])
        | with_reducible refine wp_ret' ?_
        | with_reducible refine wp_skip' ?_
        | with_reducible refine wp_block' ?_
        | with_reducible refine wp_exit' ?_
        | with_reducible refine turns_in ?_
        | with_reducible refine turns_next ?_
        | with_reducible refine ops_nil ?_
        | ((with_reducible refine wp_cond' (t := true) ?_ (fun _ => ?_) (fun hb => absurd hb (by decide))); (solve | (simp [*, enc]; done)))
        | ((with_reducible refine wp_cond' (t := false) ?_ (fun hb => absurd hb (by decide)) (fun _ => ?_)); (solve | (simp [*, enc]; done)))
        | ((with_reducible apply wp_condv); (solve | (simp [*, enc]; done) | (simp [*, enc]; rfl) | rfl); (solve | rfl); (fail_if_success (with_reducible show true = true → _)); (fail_if_success (with_reducible show false = true → _)); (rotate_left 1; intro hb; (try simp only [Bool.not_eq_true', Bool.not_eq_false'] at hb); rotate_right 1; intro hb; (try simp only [Bool.not_eq_true', Bool.not_eq_false'] at hb)))
        | ((with_reducible apply ops_on); (solve | simp [*, enc]); (solve | (simp [*, enc]; done) | (simp [*, enc]; rfl) | rfl))
        | ((with_reducible apply ops_onv); (solve | simp [*, enc]); (solve | (simp [*, enc]; done) | (simp [*, enc]; rfl) | rfl); (solve | rfl))
        | ((with_reducible apply ops_off); (solve | simp [*, enc]))
        | ((with_reducible apply ops_pcall); (solve | simp [*, enc]); (solve | rfl); (solve | (simp [*, enc]; done) | (simp [*, enc]; rfl) | rfl); (solve | (simp [*, enc]; done) | (simp [*, enc]; rfl) | rfl); (solve | apply known_ok | (apply known_ok; (solve | decide | simp [*, enc]))))
        | ((with_reducible apply ops_pcall); (solve | simp [*, enc]); (solve | rfl); (solve | (simp [*, enc]; done) | (simp [*, enc]; rfl) | rfl); (solve | (simp [*, enc]; done) | (simp [*, enc]; rfl) | rfl); (solve | apply (right_ok ⟨_, _, _, _, _, _, _, _, _, _, _, _⟩) | (apply (right_ok ⟨_, _, _, _, _, _, _, _, _, _, _, _⟩); (solve | decide | simp [*, enc]))))
        | ((with_reducible apply ops_pcall); (solve | simp [*, enc]); (solve | rfl); (solve | (simp [*, enc]; done) | (simp [*, enc]; rfl) | rfl); (solve | (simp [*, enc]; done) | (simp [*, enc]; rfl) | rfl); (solve | apply born_ok | (apply born_ok; (solve | decide | simp [*, enc]))))
        | ((with_reducible apply ops_alloc); (solve | simp [*, enc]); (solve | rfl); (solve | rfl | simp); (intro i_ hi_; (try simp only [upd_none] at hi_)))
        | ((with_reducible apply ops_box); (solve | simp [*, enc]); (solve | rfl); (solve | rfl | simp); (solve | (simp [*, enc]; done) | (simp [*, enc]; rfl) | rfl); (solve | rfl | simp [*, enc]); (intro i_ hi_; (try simp only [upd_none] at hi_)))
        | ((with_reducible apply ops_store); (solve | simp [*, enc]); (solve | rfl); (solve | rfl | simp); (solve | (simp [*, enc]; done) | (simp [*, enc]; rfl) | rfl); (solve | (simp [*, enc]; done) | (simp [*, enc]; rfl) | rfl); (solve | (simp [*, enc]; done) | (simp [*, enc]; rfl) | rfl); (solve | (simp [*, enc]; done) | (simp [*, enc]; rfl) | rfl); (solve | (simp [*, enc]; done) | (simp [*, enc]; rfl) | rfl); (solve | (simp [*, enc]; done) | (simp [*, enc]; rfl) | rfl))
        | ((with_reducible apply ops_storev); (solve | simp [*, enc]); (solve | rfl); (solve | rfl | simp); (solve | (simp [*, enc]; done) | (simp [*, enc]; rfl) | rfl); (solve | rfl); (solve | (simp [*, enc]; done) | (simp [*, enc]; rfl) | rfl); (solve | rfl); (solve | (simp [*, enc]; done) | (simp [*, enc]; rfl) | rfl); (solve | rfl); (solve | (simp [*, enc]; done) | (simp [*, enc]; rfl) | rfl); (solve | (simp [*, enc]; done) | (simp [*, enc]; rfl) | rfl); (solve | (simp [*, enc]; done) | (simp [*, enc]; rfl) | rfl))
        | ((with_reducible apply ops_splitv); (solve | (simp [*, enc]; done) | (simp [*, enc]; rfl) | rfl); (solve | rfl); (fail_if_success (with_reducible show true = true → _)); (fail_if_success (with_reducible show false = true → _)); (rotate_left 1; intro hb; (try simp only [Bool.not_eq_true', Bool.not_eq_false'] at hb); rotate_right 1; intro hb; (try simp only [Bool.not_eq_true', Bool.not_eq_false'] at hb)))
        | ((with_reducible refine wp_draw (i := 14) 23 (by kernel_rfl) ?_); simp only [List.take_succ_cons, List.take_zero, List.drop_succ_cons, List.drop_zero])
        | with_reducible refine dr_nil ?_
        | ((with_reducible apply dr_on); (solve | simp [*, enc]); (solve | (simp [*, enc]; done) | (simp [*, enc]; rfl) | rfl))
        | ((with_reducible apply dr_onv); (solve | simp [*, enc]); (solve | (simp [*, enc]; done) | (simp [*, enc]; rfl) | rfl); (solve | rfl))
        | ((with_reducible apply dr_off); (solve | simp [*, enc]))
        | ((with_reducible apply dr_alloc); (solve | simp [*, enc]); (solve | rfl); (solve | (simp [*, enc]; done) | (simp [*, enc]; rfl) | rfl))
        | ((with_reducible apply dr_pcall); (solve | simp [*, enc]); (solve | rfl); (solve | (simp [*, enc]; done) | (simp [*, enc]; rfl) | rfl); (solve | (simp [*, enc]; done) | (simp [*, enc]; rfl) | rfl); (solve | apply known_ok | (apply known_ok; (solve | decide | simp [*, enc]))))
        | ((with_reducible apply dr_pcall); (solve | simp [*, enc]); (solve | rfl); (solve | (simp [*, enc]; done) | (simp [*, enc]; rfl) | rfl); (solve | (simp [*, enc]; done) | (simp [*, enc]; rfl) | rfl); (solve | apply (right_ok ⟨_, _, _, _, _, _, _, _, _, _, _, _⟩) | (apply (right_ok ⟨_, _, _, _, _, _, _, _, _, _, _, _⟩); (solve | decide | simp [*, enc]))))
        | ((with_reducible apply dr_pcall); (solve | simp [*, enc]); (solve | rfl); (solve | (simp [*, enc]; done) | (simp [*, enc]; rfl) | rfl); (solve | (simp [*, enc]; done) | (simp [*, enc]; rfl) | rfl); (solve | apply born_ok | (apply born_ok; (solve | decide | simp [*, enc]))))
        | ((with_reducible apply dr_splitv); (solve | (simp [*, enc]; done) | (simp [*, enc]; rfl) | rfl); (solve | rfl); (fail_if_success (with_reducible show true = true → _)); (fail_if_success (with_reducible show false = true → _)); (rotate_left 1; intro hb; (try simp only [Bool.not_eq_true', Bool.not_eq_false'] at hb); rotate_right 1; intro hb; (try simp only [Bool.not_eq_true', Bool.not_eq_false'] at hb)))
        | ((with_reducible apply pre_skip); (solve | rfl))
        | with_reducible refine pre_nil ?_
        | ((with_reducible apply pre_alloc); (solve | rfl); (solve | rfl | simp); (intro i_ hi_; (try simp only [upd_none] at hi_)))
        | ((with_reducible apply body_ret); (solve | (simp [*, enc]; done) | (simp [*, enc]; rfl)); simp only [pack])
        | ((with_reducible apply body_normal); (solve | (simp [*, enc]; done) | (simp [*, enc]; rfl)); simp only [pack]))
      all_goals try (solve | ((refine leaf hq ?_ ?_); (repeat' (first | assumption | exact HLe.refl _ | ((with_reducible refine hle_upd ?_ ?_); (solve | simp [*])))); (first | rfl | (simp [*]; done) | (simp_all []; done))))
end Go.Proofs.Ytbjbhoggbbhblaa
