import Derived.Test.YtbjbhoggbbhblaaBod8
import Derived.Test.YtbjbhoggbbhblaaBod6
set_option linter.unusedSimpArgs false
set_option linter.unusedVariables false
namespace Go.Proofs.Ytbjbhoggbbhblaa
open Go.Cl Go

theorem brought_id {n lo hi : Int} (h1 : lo ≤ n) (h2 : n ≤ hi) : brought n lo hi = n := by
  unfold brought; split <;> split <;> omega
def shot (o x y vx vy g : Int) : Body := ⟨2, o, x, y, vx, vy, g, 0, 0, 0, 0, 0⟩
theorem shot_right {o x y vx vy g : Int} (ho : 0 ≤ o ∧ o ≤ 7) (hx : 0 ≤ x ∧ x ≤ 4095) (hy : 0 ≤ y ∧ y ≤ 4095) (hvx : -64 ≤ vx ∧ vx ≤ 64) (hvy : -64 ≤ vy ∧ vy ≤ 64) (hg : 0 ≤ g ∧ g ≤ 600) : (shot o x y vx vy g).right = true :=
  (right_iff (by show (2 : Int) ≠ 0; decide)).2 ⟨.inr rfl, ho, hx, hy, hvx, hvy, hg, by simp [shot], by simp [shot], by simp [shot], by simp [shot], by simp [shot]⟩
theorem move_shot {o x y vx vy g : Int} (ho : 0 ≤ o ∧ o ≤ 7) (hx : 0 ≤ x ∧ x ≤ 4095) (hy : 0 ≤ y ∧ y ≤ 4095) (hvx : -64 ≤ vx ∧ vx ≤ 64) (hvy : -64 ≤ vy ∧ vy ≤ 64) (hg : 0 ≤ g ∧ g ≤ 100) :
    Body.move ⟨2, o, x, y, vx, vy, g, 0, 0, 0, 0, 0⟩ = if 0 ≤ x + vx ∧ x + vx < 4096 ∧ 0 ≤ y + vy ∧ y + vy < 4096 ∧ g + 1 ≤ 40 then (shot o (x + vx) (y + vy) vx vy (g + 1), true) else (nobody, false) := by
  have hr := shot_right ho hx hy hvx hvy ⟨hg.1, by omega⟩
  have h1 := wrap_i64 (n := x + vx) (by omega) (by omega)
  have h2 := wrap_i64 (n := y + vy) (by omega) (by omega)
  have h3 := wrap_i64 (n := g + 1) (by omega) (by omega)
  simp only [shot] at hr
  simp only [Body.move, hr, w, h1, h2, h3, within]
  have h4 : ¬ 600 < g + 1 := by omega
  simp only [h4, if_false]
  simp only [Bool.not_true, Bool.false_or, decide_eq_true_eq, show ¬ (2 : Int) = 0 by decide, show ¬ (2 : Int) = 1 by decide, if_false, Bool.or_eq_true, Bool.not_eq_true', Bool.and_eq_false_iff, decide_eq_false_iff_not]
  split
  · rename_i hc
    rw [if_neg (by omega)]
  · rename_i hc
    rw [if_pos (by omega)]
    rfl
theorem shoot_player {o x y m0 m1 vx vy : Int} (ho : 0 ≤ o ∧ o ≤ 7) (hx : 0 ≤ x ∧ x ≤ 4095) (hy : 0 ≤ y ∧ y ≤ 4095) (hvx : -64 ≤ vx ∧ vx ≤ 64) (hvy : -64 ≤ vy ∧ vy ≤ 64) :
    Body.shoot ⟨1, o, x, y, 0, 0, 0, 0, 0, 0, 0, 0⟩ vx vy = ⟨2, o, x, y, vx, vy, 0, 0, 0, 0, 0, 0⟩ := by
  have hr : Body.right ⟨1, o, x, y, 0, 0, 0, 0, 0, 0, 0, 0⟩ = true := (right_iff (by show (1 : Int) ≠ 0; decide)).2 ⟨.inl rfl, ho, hx, hy, by simp, by simp, by simp, by simp, by simp, by simp, by simp, by simp⟩
  simp [Body.shoot, hr, brought_id hvx.1 hvx.2, brought_id hvy.1 hvy.2]
theorem born4 {o : Int} (h : 0 ≤ o) (h4 : o < 4) : ∃ x, born o 4 = ⟨1, o, x, 2048, 0, 0, 0, 0, 0, 0, 0, 0⟩ := by
  have : o = 0 ∨ o = 1 ∨ o = 2 ∨ o = 3 := by omega
  rcases this with rfl | rfl | rfl | rfl
  · exact ⟨512, by decide⟩
  · exact ⟨1536, by decide⟩
  · exact ⟨2560, by decide⟩
  · exact ⟨3584, by decide⟩

set_option maxHeartbeats 8000000 in
theorem shots_ok (ow x y vx vy : Int) : OkP C 4 [I ow, I x, I y, I vx, I vy] (Bo true) := by
  refine okP_of (c := Try.f4.body.getD .skip) (rs := Try.f4.results.toList) (n := Try.f4.ntmps) ⟨⟨Try.f4, Try.func4, rfl, rfl, rfl, rfl⟩, by kernel_rfl, by kernel_rfl⟩ (by simp [Try.ntmps4]) ?_
  intro h Q hq
  unfold Try.f4
  simp only [Option.getD_some]
  have ho := pick_range (x := ow) (m := 4) (by decide) (by decide)
  have hx := pick_range (x := x) (m := 4096) (by decide) (by decide)
  have hy := pick_range (x := y) (m := 4096) (by decide) (by decide)
  have hvx := pick_range (x := vx) (m := 129) (by decide) (by decide)
  have hvy := pick_range (x := vy) (m := 129) (by decide) (by decide)
  obtain ⟨O, hO⟩ : ∃ O, pick ow 4 = O := ⟨_, rfl⟩
  obtain ⟨X, hX⟩ : ∃ O, pick x 4096 = O := ⟨_, rfl⟩
  obtain ⟨Y, hY⟩ : ∃ O, pick y 4096 = O := ⟨_, rfl⟩
  obtain ⟨PX, hPX⟩ : ∃ O, pick vx 129 = O := ⟨_, rfl⟩
  obtain ⟨PY, hPY⟩ : ∃ O, pick vy 129 = O := ⟨_, rfl⟩
  rw [hO] at ho
  rw [hX] at hx
  rw [hY] at hy
  rw [hPX] at hvx
  rw [hPY] at hvy
  have w1 := wrap_i64 (n := PX - 64) (by omega) (by omega)
  have w2 := wrap_i64 (n := PY - 64) (by omega) (by omega)
  have hVX : -64 ≤ PX - 64 ∧ PX - 64 ≤ 64 := by omega
  have hVY : -64 ≤ PY - 64 ∧ PY - 64 ≤ 64 := by omega
  obtain ⟨VX, hV⟩ : ∃ V, PX - 64 = V := ⟨_, rfl⟩
  obtain ⟨VY, hV2⟩ : ∃ V, PY - 64 = V := ⟨_, rfl⟩
  rw [hV] at w1 hVX
  rw [hV2] at w2 hVY
  obtain ⟨bx, hb0⟩ := born4 ho.1 ho.2
  have hs := shoot_player (o := O) (x := X) (y := Y) (vx := VX) (vy := VY) (m0 := 0) (m1 := 0) ⟨ho.1, by omega⟩ ⟨hx.1, by omega⟩ ⟨hy.1, by omega⟩ hVX hVY
  all_goals repeat' (first
    | with_reducible refine wp_seq' ?_
    | with_reducible refine then_normal ?_
    | with_reducible refine then_ret ?_
    | with_reducible refine then_exit ?_
    | with_reducible refine then_pan ?_
    | with_reducible refine in_normal ?_
    | with_reducible refine in_ret ?_
    | with_reducible refine in_exit ?_
    | ((with_reducible apply in_far); (solve | rfl))
    | with_reducible refine in_pan ?_
    | ((with_reducible refine wp_region' ?_); simp only [])
    | with_reducible refine wp_ret' ?_
    | with_reducible refine wp_skip' ?_
    | with_reducible refine wp_block' ?_
    | with_reducible refine wp_exit' ?_
    | with_reducible refine turns_in ?_
    | with_reducible refine turns_next ?_
    | with_reducible refine ops_nil ?_
    | ((with_reducible refine wp_cond' (t := true) ?_ (fun _ => ?_) (fun hb => absurd hb (by decide))); (solve | (simp [*, enc]; done)))
    | ((with_reducible refine wp_cond' (t := false) ?_ (fun hb => absurd hb (by decide)) (fun _ => ?_)); (solve | (simp [*, enc]; done)))
    | ((with_reducible apply wp_condv); (solve | (simp [*, enc]; done) | (simp [*, enc]; rfl) | rfl); (solve | rfl); (fail_if_success (with_reducible show true = true → _)); (fail_if_success (with_reducible show false = true → _)); (rotate_left 1; intro hb; (try simp only [Bool.not_eq_true', Bool.not_eq_false'] at hb); rotate_right 1; intro hb; (try simp only [Bool.not_eq_true', Bool.not_eq_false'] at hb)))
    | ((with_reducible apply ops_on); (solve | simp [*, enc]); (solve | (simp [*, enc]; done) | (simp [*, enc]; rfl) | rfl))
    | ((with_reducible apply ops_onv); (solve | simp [*, enc]); (solve | (simp [*, enc]; done) | (simp [*, enc]; rfl) | rfl); (solve | rfl))
    | ((with_reducible apply ops_off); (solve | simp [*, enc]))
    | ((with_reducible apply ops_pcall); (solve | simp [*, enc]); (solve | rfl); (solve | (simp [*, enc]; done) | (simp [*, enc]; rfl) | rfl); (solve | (simp [*, enc]; done) | (simp [*, enc]; rfl) | rfl); (solve | apply known_ok | (apply known_ok; (solve | decide | simp [*, enc]))))
    | ((with_reducible apply ops_pcall); (solve | simp [*, enc]); (solve | rfl); (solve | (simp [*, enc]; done) | (simp [*, enc]; rfl) | rfl); (solve | (simp [*, enc]; done) | (simp [*, enc]; rfl) | rfl); (solve | apply pick_ok_c | (apply pick_ok_c; (solve | decide | simp [*, enc]))))
    | ((with_reducible apply ops_pcall); (solve | simp [*, enc]); (solve | rfl); (solve | (simp [*, enc]; done) | (simp [*, enc]; rfl) | rfl); (solve | (simp [*, enc]; done) | (simp [*, enc]; rfl) | rfl); (solve | apply born_ok | (apply born_ok; (solve | decide | simp [*, enc]))))
    | ((with_reducible apply ops_pcall); (solve | simp [*, enc]); (solve | rfl); (solve | (simp [*, enc]; done) | (simp [*, enc]; rfl) | rfl); (solve | (simp [*, enc]; done) | (simp [*, enc]; rfl) | rfl); (solve | apply (shoot_ok ⟨_, _, _, _, _, _, _, _, _, _, _, _⟩) | (apply (shoot_ok ⟨_, _, _, _, _, _, _, _, _, _, _, _⟩); (solve | decide | simp [*, enc]))))
    | ((with_reducible apply ops_alloc); (solve | simp [*, enc]); (solve | rfl); (solve | rfl | simp); (intro i_ hi_; (try simp only [upd_none] at hi_)))
    | ((with_reducible apply ops_box); (solve | simp [*, enc]); (solve | rfl); (solve | rfl | simp); (solve | (simp [*, enc]; done) | (simp [*, enc]; rfl) | rfl); (solve | rfl | simp [*, enc]); (intro i_ hi_; (try simp only [upd_none] at hi_)))
    | ((with_reducible apply ops_store); (solve | simp [*, enc]); (solve | rfl); (solve | rfl | simp); (solve | (simp [*, enc]; done) | (simp [*, enc]; rfl) | rfl); (solve | (simp [*, enc]; done) | (simp [*, enc]; rfl) | rfl); (solve | (simp [*, enc]; done) | (simp [*, enc]; rfl) | rfl); (solve | (simp [*, enc]; done) | (simp [*, enc]; rfl) | rfl); (solve | (simp [*, enc]; done) | (simp [*, enc]; rfl) | rfl); (solve | (simp [*, enc]; done) | (simp [*, enc]; rfl) | rfl))
    | ((with_reducible apply ops_storev); (solve | simp [*, enc]); (solve | rfl); (solve | rfl | simp); (solve | (simp [*, enc]; done) | (simp [*, enc]; rfl) | rfl); (solve | rfl); (solve | (simp [*, enc]; done) | (simp [*, enc]; rfl) | rfl); (solve | rfl); (solve | (simp [*, enc]; done) | (simp [*, enc]; rfl) | rfl); (solve | rfl); (solve | (simp [*, enc]; done) | (simp [*, enc]; rfl) | rfl); (solve | (simp [*, enc]; done) | (simp [*, enc]; rfl) | rfl); (solve | (simp [*, enc]; done) | (simp [*, enc]; rfl) | rfl))
    | ((with_reducible apply ops_splitv); (solve | (simp [*, enc]; done) | (simp [*, enc]; rfl) | rfl); (solve | rfl); (fail_if_success (with_reducible show true = true → _)); (fail_if_success (with_reducible show false = true → _)); (rotate_left 1; intro hb; (try simp only [Bool.not_eq_true', Bool.not_eq_false'] at hb); rotate_right 1; intro hb; (try simp only [Bool.not_eq_true', Bool.not_eq_false'] at hb)))
    | ((with_reducible refine wp_draw (i := 6) 9 (by kernel_rfl) ?_); simp only [List.take_succ_cons, List.take_zero, List.drop_succ_cons, List.drop_zero])
    | with_reducible refine dr_nil ?_
    | ((with_reducible apply dr_on); (solve | simp [*, enc]); (solve | (simp [*, enc]; done) | (simp [*, enc]; rfl) | rfl))
    | ((with_reducible apply dr_onv); (solve | simp [*, enc]); (solve | (simp [*, enc]; done) | (simp [*, enc]; rfl) | rfl); (solve | rfl))
    | ((with_reducible apply dr_off); (solve | simp [*, enc]))
    | ((with_reducible apply dr_alloc); (solve | simp [*, enc]); (solve | rfl); (solve | (simp [*, enc]; done) | (simp [*, enc]; rfl) | rfl))
    | ((with_reducible apply dr_pcall); (solve | simp [*, enc]); (solve | rfl); (solve | (simp [*, enc]; done) | (simp [*, enc]; rfl) | rfl); (solve | (simp [*, enc]; done) | (simp [*, enc]; rfl) | rfl); (solve | apply known_ok | (apply known_ok; (solve | decide | simp [*, enc]))))
    | ((with_reducible apply dr_pcall); (solve | simp [*, enc]); (solve | rfl); (solve | (simp [*, enc]; done) | (simp [*, enc]; rfl) | rfl); (solve | (simp [*, enc]; done) | (simp [*, enc]; rfl) | rfl); (solve | apply pick_ok_c | (apply pick_ok_c; (solve | decide | simp [*, enc]))))
    | ((with_reducible apply dr_pcall); (solve | simp [*, enc]); (solve | rfl); (solve | (simp [*, enc]; done) | (simp [*, enc]; rfl) | rfl); (solve | (simp [*, enc]; done) | (simp [*, enc]; rfl) | rfl); (solve | apply born_ok | (apply born_ok; (solve | decide | simp [*, enc]))))
    | ((with_reducible apply dr_pcall); (solve | simp [*, enc]); (solve | rfl); (solve | (simp [*, enc]; done) | (simp [*, enc]; rfl) | rfl); (solve | (simp [*, enc]; done) | (simp [*, enc]; rfl) | rfl); (solve | apply (shoot_ok ⟨_, _, _, _, _, _, _, _, _, _, _, _⟩) | (apply (shoot_ok ⟨_, _, _, _, _, _, _, _, _, _, _, _⟩); (solve | decide | simp [*, enc]))))
    | ((with_reducible apply dr_splitv); (solve | (simp [*, enc]; done) | (simp [*, enc]; rfl) | rfl); (solve | rfl); (fail_if_success (with_reducible show true = true → _)); (fail_if_success (with_reducible show false = true → _)); (rotate_left 1; intro hb; (try simp only [Bool.not_eq_true', Bool.not_eq_false'] at hb); rotate_right 1; intro hb; (try simp only [Bool.not_eq_true', Bool.not_eq_false'] at hb)))
    | ((with_reducible apply pre_skip); (solve | rfl))
    | with_reducible refine pre_nil ?_
    | ((with_reducible apply pre_alloc); (solve | rfl); (solve | rfl | simp); (intro i_ hi_; (try simp only [upd_none] at hi_)))
    | ((with_reducible apply body_ret); (solve | (simp [*, enc]; done) | (simp [*, enc]; rfl)); simp only [pack])
    | ((with_reducible apply body_normal); (solve | (simp [*, enc]; done) | (simp [*, enc]; rfl)); simp only [pack]))
  all_goals try (solve | ((refine leaf hq ?_ ?_); (repeat' (first | assumption | exact HLe.refl _ | ((with_reducible refine hle_upd ?_ ?_); (solve | simp [*])))); (first | rfl | (simp [*]; done) | (simp_all []; done))))
  rename_i hx0 p11 hp11
  generalize hp12 : i_ = p12 at *
  refine wp_loop' (fun m env2 h2 => ∃ n g sx sy : Int, env2 13 = I n ∧ env2 11 = .ptr p11 [] ∧ env2 12 = .ptr p12 [] ∧ h2 p11 = some (.var (enc ⟨1, O, X, Y, 0, 0, 0, 0, 0, 0, 0, 0⟩)) ∧
    h2 p12 = some (.var (enc ⟨2, O, sx, sy, VX, VY, g, 0, 0, 0, 0, 0⟩)) ∧ HLe h h2 ∧ 1 ≤ n ∧ n ≤ 41 ∧ (0 ≤ sx ∧ sx ≤ 4095) ∧ (0 ≤ sy ∧ sy ≤ 4095) ∧ g + 1 = n ∧
    sx + VX = X + n * VX ∧ sy + VY = Y + n * VY ∧ (m : Int) = 60 - n) 59 ?_ ?_
  · refine ⟨1, 0, X, Y, by simp [*], by simp [*], by simp [*], by simp [*, enc], by simp [*, enc], ?_, by decide, by decide, by omega, by omega, by decide, by omega, by omega, by decide⟩
    repeat' (first | assumption | exact HLe.refl _ | ((with_reducible refine hle_upd ?_ ?_); (solve | simp [*])))
  · clear hs w1 w2 hb0 hO hX hY hPX hPY hvx hvy hV hV2
    rintro m env2 h2 ⟨n, g, sx, sy, g13, g11, g12, gh1, gh2, gle, hn1, hn2, hsx, hsy, hg, e1, e2, hm⟩
    have hmv := move_shot (o := O) (g := g) ⟨ho.1, by omega⟩ hsx hsy hVX hVY (by omega)
    have w3 := wrap_i64 (n := n * VX) (by omega) (by omega)
    have w4 := wrap_i64 (n := n * VY) (by omega) (by omega)
    have w5 := wrap_i64 (n := X + n * VX) (by omega) (by omega)
    have w6 := wrap_i64 (n := Y + n * VY) (by omega) (by omega)
    have w7 := wrap_i64 (n := n + 1) (by omega) (by omega)
    have n60 : n < 60 := by omega
    rw [e1, e2, hg] at hmv
    by_cases hin : 0 ≤ X + n * VX ∧ X + n * VX < 4096 ∧ 0 ≤ Y + n * VY ∧ Y + n * VY < 4096 ∧ n ≤ 40
    · rw [if_pos hin] at hmv
      obtain ⟨c1, c2, c3, c4, c5⟩ := hin
      simp only [shot] at hmv
      all_goals repeat' (first
        | with_reducible refine wp_seq' ?_
        | with_reducible refine then_normal ?_
        | with_reducible refine then_ret ?_
        | with_reducible refine then_exit ?_
        | with_reducible refine then_pan ?_
        | with_reducible refine in_normal ?_
        | with_reducible refine in_ret ?_
        | with_reducible refine in_exit ?_
        | ((with_reducible apply in_far); (solve | rfl))
        | with_reducible refine in_pan ?_
        | ((with_reducible refine wp_region' ?_); simp only [])
        | with_reducible refine wp_ret' ?_
        | with_reducible refine wp_skip' ?_
        | with_reducible refine wp_block' ?_
        | with_reducible refine wp_exit' ?_
        | with_reducible refine turns_in ?_
        | with_reducible refine turns_next ?_
        | with_reducible refine ops_nil ?_
        | ((with_reducible refine wp_cond' (t := true) ?_ (fun _ => ?_) (fun hb => absurd hb (by decide))); (solve | (simp [*, enc, nobody]; done)))
        | ((with_reducible refine wp_cond' (t := false) ?_ (fun hb => absurd hb (by decide)) (fun _ => ?_)); (solve | (simp [*, enc, nobody]; done)))
        | ((with_reducible apply wp_condv); (solve | (simp [*, enc, nobody]; done) | (simp [*, enc, nobody]; rfl) | rfl); (solve | rfl); (fail_if_success (with_reducible show true = true → _)); (fail_if_success (with_reducible show false = true → _)); (rotate_left 1; intro hb; (try simp only [Bool.not_eq_true', Bool.not_eq_false'] at hb); rotate_right 1; intro hb; (try simp only [Bool.not_eq_true', Bool.not_eq_false'] at hb)))
        | ((with_reducible apply ops_on); (solve | simp [*, enc, nobody]); (solve | (simp [*, enc, nobody]; done) | (simp [*, enc, nobody]; rfl) | rfl))
        | ((with_reducible apply ops_onv); (solve | simp [*, enc, nobody]); (solve | (simp [*, enc, nobody]; done) | (simp [*, enc, nobody]; rfl) | rfl); (solve | rfl))
        | ((with_reducible apply ops_off); (solve | simp [*, enc, nobody]))
        | ((with_reducible apply ops_pcall); (solve | simp [*, enc, nobody]); (solve | rfl); (solve | (simp [*, enc, nobody]; done) | (simp [*, enc, nobody]; rfl) | rfl); (solve | (simp [*, enc, nobody]; done) | (simp [*, enc, nobody]; rfl) | rfl); (solve | apply known_ok | (apply known_ok; (solve | decide | simp [*, enc, nobody]))))
        | ((with_reducible apply ops_pcall); (solve | simp [*, enc, nobody]); (solve | rfl); (solve | (simp [*, enc, nobody]; done) | (simp [*, enc, nobody]; rfl) | rfl); (solve | (simp [*, enc, nobody]; done) | (simp [*, enc, nobody]; rfl) | rfl); (solve | apply pick_ok_c | (apply pick_ok_c; (solve | decide | simp [*, enc, nobody]))))
        | ((with_reducible apply ops_pcall); (solve | simp [*, enc, nobody]); (solve | rfl); (solve | (simp [*, enc, nobody]; done) | (simp [*, enc, nobody]; rfl) | rfl); (solve | (simp [*, enc, nobody]; done) | (simp [*, enc, nobody]; rfl) | rfl); (solve | apply (move_ok ⟨_, _, _, _, _, _, _, _, _, _, _, _⟩) | (apply (move_ok ⟨_, _, _, _, _, _, _, _, _, _, _, _⟩); (solve | decide | simp [*, enc, nobody]))))
        | ((with_reducible apply ops_alloc); (solve | simp [*, enc, nobody]); (solve | rfl); (solve | rfl | simp); (intro i_ hi_; (try simp only [upd_none] at hi_); (try have hn_ := ne_live (i := i_) gh1 (by simp [hi_])); (try have hn_ := ne_live (i := i_) gh2 (by simp [hi_])); (try have hz_ := hle_none (i := i_) gle (by simp [hi_]))))
        | ((with_reducible apply ops_box); (solve | simp [*, enc, nobody]); (solve | rfl); (solve | rfl | simp); (solve | (simp [*, enc, nobody]; done) | (simp [*, enc, nobody]; rfl) | rfl); (solve | rfl | simp [*, enc, nobody]); (intro i_ hi_; (try simp only [upd_none] at hi_); (try have hn_ := ne_live (i := i_) gh1 (by simp [hi_])); (try have hn_ := ne_live (i := i_) gh2 (by simp [hi_])); (try have hz_ := hle_none (i := i_) gle (by simp [hi_]))))
        | ((with_reducible apply ops_store); (solve | simp [*, enc, nobody]); (solve | rfl); (solve | rfl | simp); (solve | (simp [*, enc, nobody]; done) | (simp [*, enc, nobody]; rfl) | rfl); (solve | (simp [*, enc, nobody]; done) | (simp [*, enc, nobody]; rfl) | rfl); (solve | (simp [*, enc, nobody]; done) | (simp [*, enc, nobody]; rfl) | rfl); (solve | (simp [*, enc, nobody]; done) | (simp [*, enc, nobody]; rfl) | rfl); (solve | (simp [*, enc, nobody]; done) | (simp [*, enc, nobody]; rfl) | rfl); (solve | (simp [*, enc, nobody]; done) | (simp [*, enc, nobody]; rfl) | rfl))
        | ((with_reducible apply ops_storev); (solve | simp [*, enc, nobody]); (solve | rfl); (solve | rfl | simp); (solve | (simp [*, enc, nobody]; done) | (simp [*, enc, nobody]; rfl) | rfl); (solve | rfl); (solve | (simp [*, enc, nobody]; done) | (simp [*, enc, nobody]; rfl) | rfl); (solve | rfl); (solve | (simp [*, enc, nobody]; done) | (simp [*, enc, nobody]; rfl) | rfl); (solve | rfl); (solve | (simp [*, enc, nobody]; done) | (simp [*, enc, nobody]; rfl) | rfl); (solve | (simp [*, enc, nobody]; done) | (simp [*, enc, nobody]; rfl) | rfl); (solve | (simp [*, enc, nobody]; done) | (simp [*, enc, nobody]; rfl) | rfl))
        | ((with_reducible apply ops_splitv); (solve | (simp [*, enc, nobody]; done) | (simp [*, enc, nobody]; rfl) | rfl); (solve | rfl); (fail_if_success (with_reducible show true = true → _)); (fail_if_success (with_reducible show false = true → _)); (rotate_left 1; intro hb; (try simp only [Bool.not_eq_true', Bool.not_eq_false'] at hb); rotate_right 1; intro hb; (try simp only [Bool.not_eq_true', Bool.not_eq_false'] at hb)))
        | ((with_reducible refine wp_draw (i := 6) 9 (by kernel_rfl) ?_); simp only [List.take_succ_cons, List.take_zero, List.drop_succ_cons, List.drop_zero])
        | with_reducible refine dr_nil ?_
        | ((with_reducible apply dr_on); (solve | simp [*, enc, nobody]); (solve | (simp [*, enc, nobody]; done) | (simp [*, enc, nobody]; rfl) | rfl))
        | ((with_reducible apply dr_onv); (solve | simp [*, enc, nobody]); (solve | (simp [*, enc, nobody]; done) | (simp [*, enc, nobody]; rfl) | rfl); (solve | rfl))
        | ((with_reducible apply dr_off); (solve | simp [*, enc, nobody]))
        | ((with_reducible apply dr_alloc); (solve | simp [*, enc, nobody]); (solve | rfl); (solve | (simp [*, enc, nobody]; done) | (simp [*, enc, nobody]; rfl) | rfl))
        | ((with_reducible apply dr_pcall); (solve | simp [*, enc, nobody]); (solve | rfl); (solve | (simp [*, enc, nobody]; done) | (simp [*, enc, nobody]; rfl) | rfl); (solve | (simp [*, enc, nobody]; done) | (simp [*, enc, nobody]; rfl) | rfl); (solve | apply known_ok | (apply known_ok; (solve | decide | simp [*, enc, nobody]))))
        | ((with_reducible apply dr_pcall); (solve | simp [*, enc, nobody]); (solve | rfl); (solve | (simp [*, enc, nobody]; done) | (simp [*, enc, nobody]; rfl) | rfl); (solve | (simp [*, enc, nobody]; done) | (simp [*, enc, nobody]; rfl) | rfl); (solve | apply pick_ok_c | (apply pick_ok_c; (solve | decide | simp [*, enc, nobody]))))
        | ((with_reducible apply dr_pcall); (solve | simp [*, enc, nobody]); (solve | rfl); (solve | (simp [*, enc, nobody]; done) | (simp [*, enc, nobody]; rfl) | rfl); (solve | (simp [*, enc, nobody]; done) | (simp [*, enc, nobody]; rfl) | rfl); (solve | apply (move_ok ⟨_, _, _, _, _, _, _, _, _, _, _, _⟩) | (apply (move_ok ⟨_, _, _, _, _, _, _, _, _, _, _, _⟩); (solve | decide | simp [*, enc, nobody]))))
        | ((with_reducible apply dr_splitv); (solve | (simp [*, enc, nobody]; done) | (simp [*, enc, nobody]; rfl) | rfl); (solve | rfl); (fail_if_success (with_reducible show true = true → _)); (fail_if_success (with_reducible show false = true → _)); (rotate_left 1; intro hb; (try simp only [Bool.not_eq_true', Bool.not_eq_false'] at hb); rotate_right 1; intro hb; (try simp only [Bool.not_eq_true', Bool.not_eq_false'] at hb)))
        | ((with_reducible apply pre_skip); (solve | rfl))
        | with_reducible refine pre_nil ?_
        | ((with_reducible apply pre_alloc); (solve | rfl); (solve | rfl | simp); (intro i_ hi_; (try simp only [upd_none] at hi_); (try have hn_ := ne_live (i := i_) gh1 (by simp [hi_])); (try have hn_ := ne_live (i := i_) gh2 (by simp [hi_])); (try have hz_ := hle_none (i := i_) gle (by simp [hi_]))))
        | ((with_reducible apply body_ret); (solve | (simp [*, enc, nobody]; done) | (simp [*, enc, nobody]; rfl)); simp only [pack])
        | ((with_reducible apply body_normal); (solve | (simp [*, enc, nobody]; done) | (simp [*, enc, nobody]; rfl)); simp only [pack]))
      all_goals try (solve | ((refine leaf hq ?_ ?_); (repeat' (first | assumption | exact HLe.refl _ | ((with_reducible refine hle_upd ?_ ?_); (solve | simp [*])))); (first | rfl | (simp [*]; done) | (simp_all []; done))))
      refine ⟨m - 1, by omega, n + 1, n, X + n * VX, Y + n * VY, by simp [*], by simp [*], by simp [*], by simp [*, enc], by simp [*, enc], ?_, by omega, by omega, by omega, by omega, rfl, by rw [Int.add_mul]; omega, by rw [Int.add_mul]; omega, by omega⟩
      repeat' (first | assumption | exact HLe.refl _ | ((with_reducible refine hle_upd ?_ ?_); (solve | simp [*])))
    · rw [if_neg hin] at hmv
      all_goals repeat' (first
        | with_reducible refine wp_seq' ?_
        | with_reducible refine then_normal ?_
        | with_reducible refine then_ret ?_
        | with_reducible refine then_exit ?_
        | with_reducible refine then_pan ?_
        | with_reducible refine in_normal ?_
        | with_reducible refine in_ret ?_
        | with_reducible refine in_exit ?_
        | ((with_reducible apply in_far); (solve | rfl))
        | with_reducible refine in_pan ?_
        | ((with_reducible refine wp_region' ?_); simp only [])
        | with_reducible refine wp_ret' ?_
        | with_reducible refine wp_skip' ?_
        | with_reducible refine wp_block' ?_
        | with_reducible refine wp_exit' ?_
        | with_reducible refine turns_in ?_
        | with_reducible refine turns_next ?_
        | with_reducible refine ops_nil ?_
        | ((with_reducible refine wp_cond' (t := true) ?_ (fun _ => ?_) (fun hb => absurd hb (by decide))); (solve | (simp [*, enc, nobody]; done)))
        | ((with_reducible refine wp_cond' (t := false) ?_ (fun hb => absurd hb (by decide)) (fun _ => ?_)); (solve | (simp [*, enc, nobody]; done)))
        | ((with_reducible apply wp_condv); (solve | (simp [*, enc, nobody]; done) | (simp [*, enc, nobody]; rfl) | rfl); (solve | rfl); (fail_if_success (with_reducible show true = true → _)); (fail_if_success (with_reducible show false = true → _)); (rotate_left 1; intro hb; (try simp only [Bool.not_eq_true', Bool.not_eq_false'] at hb); rotate_right 1; intro hb; (try simp only [Bool.not_eq_true', Bool.not_eq_false'] at hb)))
        | ((with_reducible apply ops_on); (solve | simp [*, enc, nobody]); (solve | (simp [*, enc, nobody]; done) | (simp [*, enc, nobody]; rfl) | rfl))
        | ((with_reducible apply ops_onv); (solve | simp [*, enc, nobody]); (solve | (simp [*, enc, nobody]; done) | (simp [*, enc, nobody]; rfl) | rfl); (solve | rfl))
        | ((with_reducible apply ops_off); (solve | simp [*, enc, nobody]))
        | ((with_reducible apply ops_pcall); (solve | simp [*, enc, nobody]); (solve | rfl); (solve | (simp [*, enc, nobody]; done) | (simp [*, enc, nobody]; rfl) | rfl); (solve | (simp [*, enc, nobody]; done) | (simp [*, enc, nobody]; rfl) | rfl); (solve | apply known_ok | (apply known_ok; (solve | decide | simp [*, enc, nobody]))))
        | ((with_reducible apply ops_pcall); (solve | simp [*, enc, nobody]); (solve | rfl); (solve | (simp [*, enc, nobody]; done) | (simp [*, enc, nobody]; rfl) | rfl); (solve | (simp [*, enc, nobody]; done) | (simp [*, enc, nobody]; rfl) | rfl); (solve | apply pick_ok_c | (apply pick_ok_c; (solve | decide | simp [*, enc, nobody]))))
        | ((with_reducible apply ops_pcall); (solve | simp [*, enc, nobody]); (solve | rfl); (solve | (simp [*, enc, nobody]; done) | (simp [*, enc, nobody]; rfl) | rfl); (solve | (simp [*, enc, nobody]; done) | (simp [*, enc, nobody]; rfl) | rfl); (solve | apply (move_ok ⟨_, _, _, _, _, _, _, _, _, _, _, _⟩) | (apply (move_ok ⟨_, _, _, _, _, _, _, _, _, _, _, _⟩); (solve | decide | simp [*, enc, nobody]))))
        | ((with_reducible apply ops_alloc); (solve | simp [*, enc, nobody]); (solve | rfl); (solve | rfl | simp); (intro i_ hi_; (try simp only [upd_none] at hi_); (try have hn_ := ne_live (i := i_) gh1 (by simp [hi_])); (try have hn_ := ne_live (i := i_) gh2 (by simp [hi_])); (try have hz_ := hle_none (i := i_) gle (by simp [hi_]))))
        | ((with_reducible apply ops_box); (solve | simp [*, enc, nobody]); (solve | rfl); (solve | rfl | simp); (solve | (simp [*, enc, nobody]; done) | (simp [*, enc, nobody]; rfl) | rfl); (solve | rfl | simp [*, enc, nobody]); (intro i_ hi_; (try simp only [upd_none] at hi_); (try have hn_ := ne_live (i := i_) gh1 (by simp [hi_])); (try have hn_ := ne_live (i := i_) gh2 (by simp [hi_])); (try have hz_ := hle_none (i := i_) gle (by simp [hi_]))))
        | ((with_reducible apply ops_store); (solve | simp [*, enc, nobody]); (solve | rfl); (solve | rfl | simp); (solve | (simp [*, enc, nobody]; done) | (simp [*, enc, nobody]; rfl) | rfl); (solve | (simp [*, enc, nobody]; done) | (simp [*, enc, nobody]; rfl) | rfl); (solve | (simp [*, enc, nobody]; done) | (simp [*, enc, nobody]; rfl) | rfl); (solve | (simp [*, enc, nobody]; done) | (simp [*, enc, nobody]; rfl) | rfl); (solve | (simp [*, enc, nobody]; done) | (simp [*, enc, nobody]; rfl) | rfl); (solve | (simp [*, enc, nobody]; done) | (simp [*, enc, nobody]; rfl) | rfl))
        | ((with_reducible apply ops_storev); (solve | simp [*, enc, nobody]); (solve | rfl); (solve | rfl | simp); (solve | (simp [*, enc, nobody]; done) | (simp [*, enc, nobody]; rfl) | rfl); (solve | rfl); (solve | (simp [*, enc, nobody]; done) | (simp [*, enc, nobody]; rfl) | rfl); (solve | rfl); (solve | (simp [*, enc, nobody]; done) | (simp [*, enc, nobody]; rfl) | rfl); (solve | rfl); (solve | (simp [*, enc, nobody]; done) | (simp [*, enc, nobody]; rfl) | rfl); (solve | (simp [*, enc, nobody]; done) | (simp [*, enc, nobody]; rfl) | rfl); (solve | (simp [*, enc, nobody]; done) | (simp [*, enc, nobody]; rfl) | rfl))
        | ((with_reducible apply ops_splitv); (solve | (simp [*, enc, nobody]; done) | (simp [*, enc, nobody]; rfl) | rfl); (solve | rfl); (fail_if_success (with_reducible show true = true → _)); (fail_if_success (with_reducible show false = true → _)); (rotate_left 1; intro hb; (try simp only [Bool.not_eq_true', Bool.not_eq_false'] at hb); rotate_right 1; intro hb; (try simp only [Bool.not_eq_true', Bool.not_eq_false'] at hb)))
        | ((with_reducible refine wp_draw (i := 6) 9 (by kernel_rfl) ?_); simp only [List.take_succ_cons, List.take_zero, List.drop_succ_cons, List.drop_zero])
        | with_reducible refine dr_nil ?_
        | ((with_reducible apply dr_on); (solve | simp [*, enc, nobody]); (solve | (simp [*, enc, nobody]; done) | (simp [*, enc, nobody]; rfl) | rfl))
        | ((with_reducible apply dr_onv); (solve | simp [*, enc, nobody]); (solve | (simp [*, enc, nobody]; done) | (simp [*, enc, nobody]; rfl) | rfl); (solve | rfl))
        | ((with_reducible apply dr_off); (solve | simp [*, enc, nobody]))
        | ((with_reducible apply dr_alloc); (solve | simp [*, enc, nobody]); (solve | rfl); (solve | (simp [*, enc, nobody]; done) | (simp [*, enc, nobody]; rfl) | rfl))
        | ((with_reducible apply dr_pcall); (solve | simp [*, enc, nobody]); (solve | rfl); (solve | (simp [*, enc, nobody]; done) | (simp [*, enc, nobody]; rfl) | rfl); (solve | (simp [*, enc, nobody]; done) | (simp [*, enc, nobody]; rfl) | rfl); (solve | apply known_ok | (apply known_ok; (solve | decide | simp [*, enc, nobody]))))
        | ((with_reducible apply dr_pcall); (solve | simp [*, enc, nobody]); (solve | rfl); (solve | (simp [*, enc, nobody]; done) | (simp [*, enc, nobody]; rfl) | rfl); (solve | (simp [*, enc, nobody]; done) | (simp [*, enc, nobody]; rfl) | rfl); (solve | apply pick_ok_c | (apply pick_ok_c; (solve | decide | simp [*, enc, nobody]))))
        | ((with_reducible apply dr_pcall); (solve | simp [*, enc, nobody]); (solve | rfl); (solve | (simp [*, enc, nobody]; done) | (simp [*, enc, nobody]; rfl) | rfl); (solve | (simp [*, enc, nobody]; done) | (simp [*, enc, nobody]; rfl) | rfl); (solve | apply (move_ok ⟨_, _, _, _, _, _, _, _, _, _, _, _⟩) | (apply (move_ok ⟨_, _, _, _, _, _, _, _, _, _, _, _⟩); (solve | decide | simp [*, enc, nobody]))))
        | ((with_reducible apply dr_splitv); (solve | (simp [*, enc, nobody]; done) | (simp [*, enc, nobody]; rfl) | rfl); (solve | rfl); (fail_if_success (with_reducible show true = true → _)); (fail_if_success (with_reducible show false = true → _)); (rotate_left 1; intro hb; (try simp only [Bool.not_eq_true', Bool.not_eq_false'] at hb); rotate_right 1; intro hb; (try simp only [Bool.not_eq_true', Bool.not_eq_false'] at hb)))
        | ((with_reducible apply pre_skip); (solve | rfl))
        | with_reducible refine pre_nil ?_
        | ((with_reducible apply pre_alloc); (solve | rfl); (solve | rfl | simp); (intro i_ hi_; (try simp only [upd_none] at hi_); (try have hn_ := ne_live (i := i_) gh1 (by simp [hi_])); (try have hn_ := ne_live (i := i_) gh2 (by simp [hi_])); (try have hz_ := hle_none (i := i_) gle (by simp [hi_]))))
        | ((with_reducible apply body_ret); (solve | (simp [*, enc, nobody]; done) | (simp [*, enc, nobody]; rfl)); simp only [pack])
        | ((with_reducible apply body_normal); (solve | (simp [*, enc, nobody]; done) | (simp [*, enc, nobody]; rfl)); simp only [pack]))
      all_goals try (solve | ((refine leaf hq ?_ ?_); (repeat' (first | assumption | exact HLe.refl _ | ((with_reducible refine hle_upd ?_ ?_); (solve | simp [*])))); (first | rfl | (simp [*]; done) | (simp_all []; done))))
end Go.Proofs.Ytbjbhoggbbhblaa
