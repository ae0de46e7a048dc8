import Derived.Test.YtbjbhoggbbhblaaBod4
import Derived.Test.YtbjbhoggbbhblaaCl22
import Derived.Test.YtbjbhoggbbhblaaBod5
import Derived.Test.YtbjbhoggbbhblaaBod6
set_option linter.unusedSimpArgs false
set_option linter.unusedVariables false
namespace Go.Proofs.Ytbjbhoggbbhblaa
open Go.Cl Go

set_option maxHeartbeats 8000000 in
theorem stays_ok (x0 x1 x2 x3 x4 x5 x6 x7 x8 x9 y0 y1 y2 y3 y4 y5 y6 y7 y8 y9 : Int) (tl : Tail) (xs : List Int) : OkP C 3 [.agg [I x0, I x1, I x2, I x3, I x4, I x5, I x6, I x7, I x8, I x9], .agg [I y0, I y1, I y2, I y3, I y4, I y5, I y6, I y7, I y8, I y9], .lst tl (xs.map I)] (Bo true) := by
  refine okP_of (c := Try.f3.body.getD .skip) (rs := Try.f3.results.toList) (n := Try.f3.ntmps) ⟨⟨Try.f3, Try.func3, rfl, rfl, rfl, rfl⟩, by kernel_rfl, by kernel_rfl⟩ (by simp [Try.ntmps3]) ?_
  intro h Q hq
  unfold Try.f3
  simp only [Option.getD_some]
  all_goals repeat' (first
    | with_reducible refine wp_seq' ?_
    | with_reducible refine then_normal ?_
    | with_reducible refine then_ret ?_
    | with_reducible refine then_exit ?_
    | with_reducible refine then_pan ?_
    | with_reducible refine in_normal ?_
    | with_reducible refine in_ret ?_
    | with_reducible refine in_exit ?_
    | ((with_reducible apply in_far); (solve | rfl))
    | with_reducible refine in_pan ?_
    | ((with_reducible refine wp_region' ?_); simp only [])
    | with_reducible refine wp_ret' ?_
    | with_reducible refine wp_skip' ?_
    | with_reducible refine wp_block' ?_
    | with_reducible refine wp_exit' ?_
    | with_reducible refine turns_in ?_
    | with_reducible refine turns_next ?_
    | with_reducible refine ops_nil ?_
    | ((with_reducible refine wp_cond' (t := true) ?_ (fun _ => ?_) (fun hb => absurd hb (by decide))); (solve | (simp [*, enc, hit_self]; done)))
    | ((with_reducible refine wp_cond' (t := false) ?_ (fun hb => absurd hb (by decide)) (fun _ => ?_)); (solve | (simp [*, enc, hit_self]; done)))
    | ((with_reducible apply wp_condv); (solve | (simp [*, enc, hit_self]; done) | (simp [*, enc, hit_self]; rfl) | rfl); (solve | rfl); (fail_if_success (with_reducible show true = true → _)); (fail_if_success (with_reducible show false = true → _)); (rotate_left 1; intro hb; (try simp only [Bool.not_eq_true', Bool.not_eq_false'] at hb); rotate_right 1; intro hb; (try simp only [Bool.not_eq_true', Bool.not_eq_false'] at hb)))
    | ((with_reducible apply ops_on); (solve | simp [*, enc, hit_self]); (solve | (simp [*, enc, hit_self]; done) | (simp [*, enc, hit_self]; rfl) | rfl))
    | ((with_reducible apply ops_onv); (solve | simp [*, enc, hit_self]); (solve | (simp [*, enc, hit_self]; done) | (simp [*, enc, hit_self]; rfl) | rfl); (solve | rfl))
    | ((with_reducible apply ops_off); (solve | simp [*, enc, hit_self]))
    | ((with_reducible apply ops_pcall); (solve | simp [*, enc, hit_self]); (solve | rfl); (solve | (simp [*, enc, hit_self]; done) | (simp [*, enc, hit_self]; rfl) | rfl); (solve | (simp [*, enc, hit_self]; done) | (simp [*, enc, hit_self]; rfl) | rfl); (solve | apply known_ok | (apply known_ok; (solve | decide | simp [*, enc, hit_self]))))
    | ((with_reducible apply ops_pcall); (solve | simp [*, enc, hit_self]); (solve | rfl); (solve | (simp [*, enc, hit_self]; done) | (simp [*, enc, hit_self]; rfl) | rfl); (solve | (simp [*, enc, hit_self]; done) | (simp [*, enc, hit_self]; rfl) | rfl); (solve | apply right_ok | (apply right_ok; (solve | decide | simp [*, enc, hit_self]))))
    | ((with_reducible apply ops_pcall); (solve | simp [*, enc, hit_self]); (solve | rfl); (solve | (simp [*, enc, hit_self]; done) | (simp [*, enc, hit_self]; rfl) | rfl); (solve | (simp [*, enc, hit_self]; done) | (simp [*, enc, hit_self]; rfl) | rfl); (solve | apply hit_ok | (apply hit_ok; (solve | decide | simp [*, enc, hit_self]))))
    | ((with_reducible apply ops_alloc); (solve | simp [*, enc, hit_self]); (solve | rfl); (solve | rfl | simp); (intro i_ hi_; (try simp only [upd_none] at hi_)))
    | ((with_reducible apply ops_box); (solve | simp [*, enc, hit_self]); (solve | rfl); (solve | rfl | simp); (solve | (simp [*, enc, hit_self]; done) | (simp [*, enc, hit_self]; rfl) | rfl); (solve | rfl | simp [*, enc, hit_self]); (intro i_ hi_; (try simp only [upd_none] at hi_)))
    | ((with_reducible apply ops_store); (solve | simp [*, enc, hit_self]); (solve | rfl); (solve | rfl | simp); (solve | (simp [*, enc, hit_self]; done) | (simp [*, enc, hit_self]; rfl) | rfl); (solve | (simp [*, enc, hit_self]; done) | (simp [*, enc, hit_self]; rfl) | rfl); (solve | (simp [*, enc, hit_self]; done) | (simp [*, enc, hit_self]; rfl) | rfl); (solve | (simp [*, enc, hit_self]; done) | (simp [*, enc, hit_self]; rfl) | rfl); (solve | (simp [*, enc, hit_self]; done) | (simp [*, enc, hit_self]; rfl) | rfl); (solve | (simp [*, enc, hit_self]; done) | (simp [*, enc, hit_self]; rfl) | rfl))
    | ((with_reducible apply ops_storev); (solve | simp [*, enc, hit_self]); (solve | rfl); (solve | rfl | simp); (solve | (simp [*, enc, hit_self]; done) | (simp [*, enc, hit_self]; rfl) | rfl); (solve | rfl); (solve | (simp [*, enc, hit_self]; done) | (simp [*, enc, hit_self]; rfl) | rfl); (solve | rfl); (solve | (simp [*, enc, hit_self]; done) | (simp [*, enc, hit_self]; rfl) | rfl); (solve | rfl); (solve | (simp [*, enc, hit_self]; done) | (simp [*, enc, hit_self]; rfl) | rfl); (solve | (simp [*, enc, hit_self]; done) | (simp [*, enc, hit_self]; rfl) | rfl); (solve | (simp [*, enc, hit_self]; done) | (simp [*, enc, hit_self]; rfl) | rfl))
    | ((with_reducible apply ops_splitv); (solve | (simp [*, enc, hit_self]; done) | (simp [*, enc, hit_self]; rfl) | rfl); (solve | rfl); (fail_if_success (with_reducible show true = true → _)); (fail_if_success (with_reducible show false = true → _)); (rotate_left 1; intro hb; (try simp only [Bool.not_eq_true', Bool.not_eq_false'] at hb); rotate_right 1; intro hb; (try simp only [Bool.not_eq_true', Bool.not_eq_false'] at hb)))
    | ((with_reducible apply ops_rcall); (solve | simp [*, enc, hit_self]); (solve | rfl); (solve | (simp [*, enc, hit_self]; done) | (simp [*, enc, hit_self]; rfl) | rfl); (solve | (simp [*, enc, hit_self]; done) | (simp [*, enc, hit_self]; rfl) | rfl); (solve | apply of_ok | (apply of_ok; (solve | decide | simp [*, enc, hit_self]))); (rintro _ ⟨b_, rfl⟩))
    | ((with_reducible refine wp_draw (i := 5) 12 (by kernel_rfl) ?_); simp only [List.take_succ_cons, List.take_zero, List.drop_succ_cons, List.drop_zero])
    | ((with_reducible refine wp_draw (i := 11) 11 (by kernel_rfl) ?_); simp only [List.take_succ_cons, List.take_zero, List.drop_succ_cons, List.drop_zero])
    | with_reducible refine dr_nil ?_
    | ((with_reducible apply dr_on); (solve | simp [*, enc, hit_self]); (solve | (simp [*, enc, hit_self]; done) | (simp [*, enc, hit_self]; rfl) | rfl))
    | ((with_reducible apply dr_onv); (solve | simp [*, enc, hit_self]); (solve | (simp [*, enc, hit_self]; done) | (simp [*, enc, hit_self]; rfl) | rfl); (solve | rfl))
    | ((with_reducible apply dr_off); (solve | simp [*, enc, hit_self]))
    | ((with_reducible apply dr_alloc); (solve | simp [*, enc, hit_self]); (solve | rfl); (solve | (simp [*, enc, hit_self]; done) | (simp [*, enc, hit_self]; rfl) | rfl))
    | ((with_reducible apply dr_pcall); (solve | simp [*, enc, hit_self]); (solve | rfl); (solve | (simp [*, enc, hit_self]; done) | (simp [*, enc, hit_self]; rfl) | rfl); (solve | (simp [*, enc, hit_self]; done) | (simp [*, enc, hit_self]; rfl) | rfl); (solve | apply known_ok | (apply known_ok; (solve | decide | simp [*, enc, hit_self]))))
    | ((with_reducible apply dr_pcall); (solve | simp [*, enc, hit_self]); (solve | rfl); (solve | (simp [*, enc, hit_self]; done) | (simp [*, enc, hit_self]; rfl) | rfl); (solve | (simp [*, enc, hit_self]; done) | (simp [*, enc, hit_self]; rfl) | rfl); (solve | apply right_ok | (apply right_ok; (solve | decide | simp [*, enc, hit_self]))))
    | ((with_reducible apply dr_pcall); (solve | simp [*, enc, hit_self]); (solve | rfl); (solve | (simp [*, enc, hit_self]; done) | (simp [*, enc, hit_self]; rfl) | rfl); (solve | (simp [*, enc, hit_self]; done) | (simp [*, enc, hit_self]; rfl) | rfl); (solve | apply hit_ok | (apply hit_ok; (solve | decide | simp [*, enc, hit_self]))))
    | ((with_reducible apply dr_splitv); (solve | (simp [*, enc, hit_self]; done) | (simp [*, enc, hit_self]; rfl) | rfl); (solve | rfl); (fail_if_success (with_reducible show true = true → _)); (fail_if_success (with_reducible show false = true → _)); (rotate_left 1; intro hb; (try simp only [Bool.not_eq_true', Bool.not_eq_false'] at hb); rotate_right 1; intro hb; (try simp only [Bool.not_eq_true', Bool.not_eq_false'] at hb)))
    | ((with_reducible apply pre_skip); (solve | rfl))
    | with_reducible refine pre_nil ?_
    | ((with_reducible apply pre_alloc); (solve | rfl); (solve | rfl | simp); (intro i_ hi_; (try simp only [upd_none] at hi_)))
    | ((with_reducible apply body_ret); (solve | (simp [*, enc, hit_self]; done) | (simp [*, enc, hit_self]; rfl)); simp only [pack])
    | ((with_reducible apply body_normal); (solve | (simp [*, enc, hit_self]; done) | (simp [*, enc, hit_self]; rfl)); simp only [pack]))
  all_goals try (solve | ((refine leaf hq ?_ ?_); (repeat' (first | assumption | exact HLe.refl _ | ((with_reducible refine hle_upd ?_ ?_); (solve | simp [*])))); (first | rfl | (simp [hit_comm, *]; done) | (simp_all [hit_comm]; done))))
  all_goals try (exfalso; simp [hit_comm] at hb; done)
  rename_i i3 hi3 i4 hi4 b7 p7 hi7 hr7 hr8 hx
  refine wp_loop' (fun n env h' => ∃ (a : Body) (i : Int), env 7 = .ptr p7 [] ∧ env 9 = I i ∧ env 2 = .lst tl (xs.map I) ∧ h' p7 = some (.var (enc a)) ∧ HLe h h' ∧ a.right = true ∧ 0 ≤ i ∧ i ≤ 50 ∧ (n : Int) = 50 - i) 50 ?_ ?_
  · refine ⟨b7, 0, by simp [*], by simp [*], by simp [*], by simp [*, enc], ?_, ?_⟩
    · repeat' (first | exact HLe.refl _ | ((with_reducible refine hle_upd ?_ ?_); (solve | simp [*])))
    · exact ⟨hr7, by decide, by decide, by decide⟩
  · clear hb hr8 hi_ hi4 hi3
    rintro n env h1 ⟨⟨ak, ao, ax, ay, avx, avy, aage, am0, am1, am2, am3, af⟩, i, e7, e9, e2, eh, hle, har, hi0, hi50, hn⟩
    all_goals repeat' (first
      | with_reducible refine wp_seq' ?_
      | with_reducible refine then_normal ?_
      | with_reducible refine then_ret ?_
      | with_reducible refine then_exit ?_
      | with_reducible refine then_pan ?_
      | with_reducible refine in_normal ?_
      | with_reducible refine in_ret ?_
      | with_reducible refine in_exit ?_
      | ((with_reducible apply in_far); (solve | rfl))
      | with_reducible refine in_pan ?_
      | ((with_reducible refine wp_region' ?_); simp only [])
      | with_reducible refine wp_ret' ?_
      | with_reducible refine wp_skip' ?_
      | with_reducible refine wp_block' ?_
      | with_reducible refine wp_exit' ?_
      | with_reducible refine turns_in ?_
      | with_reducible refine turns_next ?_
      | with_reducible refine ops_nil ?_
      | ((with_reducible refine wp_cond' (t := true) ?_ (fun _ => ?_) (fun hb => absurd hb (by decide))); (solve | (simp [*, enc, hit_self]; done)))
      | ((with_reducible refine wp_cond' (t := false) ?_ (fun hb => absurd hb (by decide)) (fun _ => ?_)); (solve | (simp [*, enc, hit_self]; done)))
      | ((with_reducible apply wp_condv); (solve | (simp [*, enc, hit_self]; done) | (simp [*, enc, hit_self]; rfl) | rfl); (solve | rfl); (fail_if_success (with_reducible show true = true → _)); (fail_if_success (with_reducible show false = true → _)); (rotate_left 1; intro hb; (try simp only [Bool.not_eq_true', Bool.not_eq_false'] at hb); rotate_right 1; intro hb; (try simp only [Bool.not_eq_true', Bool.not_eq_false'] at hb)))
      | ((with_reducible apply ops_on); (solve | simp [*, enc, hit_self]); (solve | (simp [*, enc, hit_self]; done) | (simp [*, enc, hit_self]; rfl) | rfl))
      | ((with_reducible apply ops_onv); (solve | simp [*, enc, hit_self]); (solve | (simp [*, enc, hit_self]; done) | (simp [*, enc, hit_self]; rfl) | rfl); (solve | rfl))
      | ((with_reducible apply ops_off); (solve | simp [*, enc, hit_self]))
      | ((with_reducible apply ops_pcall); (solve | simp [*, enc, hit_self]); (solve | rfl); (solve | (simp [*, enc, hit_self]; done) | (simp [*, enc, hit_self]; rfl) | rfl); (solve | (simp [*, enc, hit_self]; done) | (simp [*, enc, hit_self]; rfl) | rfl); (solve | apply known_ok | (apply known_ok; (solve | decide | simp [*, enc, hit_self]))))
      | ((with_reducible apply ops_pcall); (solve | simp [*, enc, hit_self]); (solve | rfl); (solve | (simp [*, enc, hit_self]; done) | (simp [*, enc, hit_self]; rfl) | rfl); (solve | (simp [*, enc, hit_self]; done) | (simp [*, enc, hit_self]; rfl) | rfl); (solve | apply right_ok | (apply right_ok; (solve | decide | simp [*, enc, hit_self]))))
      | ((with_reducible apply ops_pcall); (solve | simp [*, enc, hit_self]); (solve | rfl); (solve | (simp [*, enc, hit_self]; done) | (simp [*, enc, hit_self]; rfl) | rfl); (solve | (simp [*, enc, hit_self]; done) | (simp [*, enc, hit_self]; rfl) | rfl); (solve | apply hit_ok | (apply hit_ok; (solve | decide | simp [*, enc, hit_self]))))
      | ((with_reducible apply ops_alloc); (solve | simp [*, enc, hit_self]); (solve | rfl); (solve | rfl | simp); (intro i_ hi_; (try simp only [upd_none] at hi_); (try have hn_ := ne_live (i := i_) eh (by simp [hi_])); (try have hz_ := hle_none (i := i_) hle (by simp [hi_]))))
      | ((with_reducible apply ops_box); (solve | simp [*, enc, hit_self]); (solve | rfl); (solve | rfl | simp); (solve | (simp [*, enc, hit_self]; done) | (simp [*, enc, hit_self]; rfl) | rfl); (solve | rfl | simp [*, enc, hit_self]); (intro i_ hi_; (try simp only [upd_none] at hi_); (try have hn_ := ne_live (i := i_) eh (by simp [hi_])); (try have hz_ := hle_none (i := i_) hle (by simp [hi_]))))
      | ((with_reducible apply ops_store); (solve | simp [*, enc, hit_self]); (solve | rfl); (solve | rfl | simp); (solve | (simp [*, enc, hit_self]; done) | (simp [*, enc, hit_self]; rfl) | rfl); (solve | (simp [*, enc, hit_self]; done) | (simp [*, enc, hit_self]; rfl) | rfl); (solve | (simp [*, enc, hit_self]; done) | (simp [*, enc, hit_self]; rfl) | rfl); (solve | (simp [*, enc, hit_self]; done) | (simp [*, enc, hit_self]; rfl) | rfl); (solve | (simp [*, enc, hit_self]; done) | (simp [*, enc, hit_self]; rfl) | rfl); (solve | (simp [*, enc, hit_self]; done) | (simp [*, enc, hit_self]; rfl) | rfl))
      | ((with_reducible apply ops_storev); (solve | simp [*, enc, hit_self]); (solve | rfl); (solve | rfl | simp); (solve | (simp [*, enc, hit_self]; done) | (simp [*, enc, hit_self]; rfl) | rfl); (solve | rfl); (solve | (simp [*, enc, hit_self]; done) | (simp [*, enc, hit_self]; rfl) | rfl); (solve | rfl); (solve | (simp [*, enc, hit_self]; done) | (simp [*, enc, hit_self]; rfl) | rfl); (solve | rfl); (solve | (simp [*, enc, hit_self]; done) | (simp [*, enc, hit_self]; rfl) | rfl); (solve | (simp [*, enc, hit_self]; done) | (simp [*, enc, hit_self]; rfl) | rfl); (solve | (simp [*, enc, hit_self]; done) | (simp [*, enc, hit_self]; rfl) | rfl))
      | ((with_reducible apply ops_splitv); (solve | (simp [*, enc, hit_self]; done) | (simp [*, enc, hit_self]; rfl) | rfl); (solve | rfl); (fail_if_success (with_reducible show true = true → _)); (fail_if_success (with_reducible show false = true → _)); (rotate_left 1; intro hb; (try simp only [Bool.not_eq_true', Bool.not_eq_false'] at hb); rotate_right 1; intro hb; (try simp only [Bool.not_eq_true', Bool.not_eq_false'] at hb)))
      | ((with_reducible apply ops_rcall); (solve | simp [*, enc, hit_self]); (solve | rfl); (solve | (simp [*, enc, hit_self]; done) | (simp [*, enc, hit_self]; rfl) | rfl); (solve | (simp [*, enc, hit_self]; done) | (simp [*, enc, hit_self]; rfl) | rfl); (solve | apply of_ok | (apply of_ok; (solve | decide | simp [*, enc, hit_self]))); (rintro _ ⟨b_, rfl⟩))
      | ((with_reducible refine wp_draw (i := 5) 12 (by kernel_rfl) ?_); simp only [List.take_succ_cons, List.take_zero, List.drop_succ_cons, List.drop_zero])
      | ((with_reducible refine wp_draw (i := 11) 11 (by kernel_rfl) ?_); simp only [List.take_succ_cons, List.take_zero, List.drop_succ_cons, List.drop_zero])
      | with_reducible refine dr_nil ?_
      | ((with_reducible apply dr_on); (solve | simp [*, enc, hit_self]); (solve | (simp [*, enc, hit_self]; done) | (simp [*, enc, hit_self]; rfl) | rfl))
      | ((with_reducible apply dr_onv); (solve | simp [*, enc, hit_self]); (solve | (simp [*, enc, hit_self]; done) | (simp [*, enc, hit_self]; rfl) | rfl); (solve | rfl))
      | ((with_reducible apply dr_off); (solve | simp [*, enc, hit_self]))
      | ((with_reducible apply dr_alloc); (solve | simp [*, enc, hit_self]); (solve | rfl); (solve | (simp [*, enc, hit_self]; done) | (simp [*, enc, hit_self]; rfl) | rfl))
      | ((with_reducible apply dr_pcall); (solve | simp [*, enc, hit_self]); (solve | rfl); (solve | (simp [*, enc, hit_self]; done) | (simp [*, enc, hit_self]; rfl) | rfl); (solve | (simp [*, enc, hit_self]; done) | (simp [*, enc, hit_self]; rfl) | rfl); (solve | apply known_ok | (apply known_ok; (solve | decide | simp [*, enc, hit_self]))))
      | ((with_reducible apply dr_pcall); (solve | simp [*, enc, hit_self]); (solve | rfl); (solve | (simp [*, enc, hit_self]; done) | (simp [*, enc, hit_self]; rfl) | rfl); (solve | (simp [*, enc, hit_self]; done) | (simp [*, enc, hit_self]; rfl) | rfl); (solve | apply right_ok | (apply right_ok; (solve | decide | simp [*, enc, hit_self]))))
      | ((with_reducible apply dr_pcall); (solve | simp [*, enc, hit_self]); (solve | rfl); (solve | (simp [*, enc, hit_self]; done) | (simp [*, enc, hit_self]; rfl) | rfl); (solve | (simp [*, enc, hit_self]; done) | (simp [*, enc, hit_self]; rfl) | rfl); (solve | apply hit_ok | (apply hit_ok; (solve | decide | simp [*, enc, hit_self]))))
      | ((with_reducible apply dr_splitv); (solve | (simp [*, enc, hit_self]; done) | (simp [*, enc, hit_self]; rfl) | rfl); (solve | rfl); (fail_if_success (with_reducible show true = true → _)); (fail_if_success (with_reducible show false = true → _)); (rotate_left 1; intro hb; (try simp only [Bool.not_eq_true', Bool.not_eq_false'] at hb); rotate_right 1; intro hb; (try simp only [Bool.not_eq_true', Bool.not_eq_false'] at hb)))
      | ((with_reducible apply pre_skip); (solve | rfl))
      | with_reducible refine pre_nil ?_
      | ((with_reducible apply pre_alloc); (solve | rfl); (solve | rfl | simp); (intro i_ hi_; (try simp only [upd_none] at hi_); (try have hn_ := ne_live (i := i_) eh (by simp [hi_])); (try have hz_ := hle_none (i := i_) hle (by simp [hi_]))))
      | ((with_reducible apply body_ret); (solve | (simp [*, enc, hit_self]; done) | (simp [*, enc, hit_self]; rfl)); simp only [pack])
      | ((with_reducible apply body_normal); (solve | (simp [*, enc, hit_self]; done) | (simp [*, enc, hit_self]; rfl)); simp only [pack]))
    all_goals try (solve | ((refine leaf hq ?_ ?_); (repeat' (first | assumption | exact HLe.refl _ | ((with_reducible refine hle_upd ?_ ?_); (solve | simp [*])))); (first | rfl | (simp [*]; done) | (simp_all []; done))))
    rename_i hl h50
    have hl' : i < xs.length := by simpa using hl
    have h50' : i < 50 := by simpa using h50
    have hak : ak ≠ 0 := by simpa using hb
    have hlt : i.toNat < xs.length := by omega
    have hx : xs[i.toNat]? = some (xs[i.toNat]'hlt) := List.getElem?_eq_getElem hlt
    obtain ⟨f1, f2, f3, f4, f5, f6, f7⟩ := push_right har hak (xs[i.toNat]'hlt) (IntKind.i64.wrap ((xs[i.toNat]'hlt).tdiv 3))
    obtain ⟨g1, g2, g3, g4⟩ := move_facts f1 (by rw [f2]; exact hak)
    have hw := wrap_i64 (n := i + 1) (by omega) (by omega)
    rcases hc : Body.push ⟨ak, ao, ax, ay, avx, avy, aage, am0, am1, am2, am3, af⟩ (xs[i.toNat]'hlt) (IntKind.i64.wrap ((xs[i.toNat]'hlt).tdiv 3)) with ⟨k, o, cx, cy, cvx, cvy, cage, m0, m1, m2, m3, f⟩
    rw [hc] at f1 f2 f3 f4 f5 f6 f7 g1 g2 g3 g4
    simp only at f2 f3 f4 f5 f6 f7 g3
    have f2 := f2.symm
    have f3 := f3.symm
    have f4 := f4.symm
    have f5 := f5.symm
    have f6 := f6.symm
    have f7 := f7.symm
    subst f2 f3 f4 f5 f6 f7
    rcases hm : Body.move ⟨ak, ao, cx, cy, cvx, cvy, cage, am0, am1, am2, am3, f⟩ with ⟨⟨mk, mo, mx, my, mvx, mvy, mage, mm0, mm1, mm2, mm3, mf⟩, ok⟩
    rw [hm] at g1 g2 g3 g4
    simp only [w] at g1 g2 g3 g4
    by_cases h1 : ak = 1
    · subst h1
      obtain ⟨rfl, rfl, rfl, rfl, rfl, rfl⟩ := g3 rfl
      clear g3 g4
      all_goals repeat' (first
        | with_reducible refine wp_seq' ?_
        | with_reducible refine then_normal ?_
        | with_reducible refine then_ret ?_
        | with_reducible refine then_exit ?_
        | with_reducible refine then_pan ?_
        | with_reducible refine in_normal ?_
        | with_reducible refine in_ret ?_
        | with_reducible refine in_exit ?_
        | ((with_reducible apply in_far); (solve | rfl))
        | with_reducible refine in_pan ?_
        | ((with_reducible refine wp_region' ?_); simp only [])
        | with_reducible refine wp_ret' ?_
        | with_reducible refine wp_skip' ?_
        | with_reducible refine wp_block' ?_
        | with_reducible refine wp_exit' ?_
        | with_reducible refine turns_in ?_
        | with_reducible refine turns_next ?_
        | with_reducible refine ops_nil ?_
        | ((with_reducible refine wp_cond' (t := true) ?_ (fun _ => ?_) (fun hb => absurd hb (by decide))); (solve | (simp [*, enc]; done)))
        | ((with_reducible refine wp_cond' (t := false) ?_ (fun hb => absurd hb (by decide)) (fun _ => ?_)); (solve | (simp [*, enc]; done)))
        | ((with_reducible apply wp_condv); (solve | (simp [*, enc]; done) | (simp [*, enc]; rfl) | rfl); (solve | rfl); (fail_if_success (with_reducible show true = true → _)); (fail_if_success (with_reducible show false = true → _)); (rotate_left 1; intro hb; (try simp only [Bool.not_eq_true', Bool.not_eq_false'] at hb); rotate_right 1; intro hb; (try simp only [Bool.not_eq_true', Bool.not_eq_false'] at hb)))
        | ((with_reducible apply ops_on); (solve | simp [*, enc]); (solve | (simp [*, enc]; done) | (simp [*, enc]; rfl) | rfl))
        | ((with_reducible apply ops_onv); (solve | simp [*, enc]); (solve | (simp [*, enc]; done) | (simp [*, enc]; rfl) | rfl); (solve | rfl))
        | ((with_reducible apply ops_off); (solve | simp [*, enc]))
        | ((with_reducible apply ops_pcall); (solve | simp [*, enc]); (solve | rfl); (solve | (simp [*, enc]; done) | (simp [*, enc]; rfl) | rfl); (solve | (simp [*, enc]; done) | (simp [*, enc]; rfl) | rfl); (solve | apply known_ok | (apply known_ok; (solve | decide | simp [*, enc]))))
        | ((with_reducible apply ops_pcall); (solve | simp [*, enc]); (solve | rfl); (solve | (simp [*, enc]; done) | (simp [*, enc]; rfl) | rfl); (solve | (simp [*, enc]; done) | (simp [*, enc]; rfl) | rfl); (solve | apply (right_ok ⟨_, _, _, _, _, _, _, _, _, _, _, _⟩) | (apply (right_ok ⟨_, _, _, _, _, _, _, _, _, _, _, _⟩); (solve | decide | simp [*, enc]))))
        | ((with_reducible apply ops_pcall); (solve | simp [*, enc]); (solve | rfl); (solve | (simp [*, enc]; done) | (simp [*, enc]; rfl) | rfl); (solve | (simp [*, enc]; done) | (simp [*, enc]; rfl) | rfl); (solve | apply hit_ok | (apply hit_ok; (solve | decide | simp [*, enc]))))
        | ((with_reducible apply ops_pcall); (solve | simp [*, enc]); (solve | rfl); (solve | (simp [*, enc]; done) | (simp [*, enc]; rfl) | rfl); (solve | (simp [*, enc]; done) | (simp [*, enc]; rfl) | rfl); (solve | apply (push_ok ⟨_, _, _, _, _, _, _, _, _, _, _, _⟩) | (apply (push_ok ⟨_, _, _, _, _, _, _, _, _, _, _, _⟩); (solve | decide | simp [*, enc]))))
        | ((with_reducible apply ops_pcall); (solve | simp [*, enc]); (solve | rfl); (solve | (simp [*, enc]; done) | (simp [*, enc]; rfl) | rfl); (solve | (simp [*, enc]; done) | (simp [*, enc]; rfl) | rfl); (solve | apply (move_ok ⟨_, _, _, _, _, _, _, _, _, _, _, _⟩) | (apply (move_ok ⟨_, _, _, _, _, _, _, _, _, _, _, _⟩); (solve | decide | simp [*, enc]))))
        | ((with_reducible apply ops_alloc); (solve | simp [*, enc]); (solve | rfl); (solve | rfl | simp); (intro i_ hi_; (try simp only [upd_none] at hi_); (try have hn_ := ne_live (i := i_) eh (by simp [hi_])); (try have hz_ := hle_none (i := i_) hle (by simp [hi_]))))
        | ((with_reducible apply ops_box); (solve | simp [*, enc]); (solve | rfl); (solve | rfl | simp); (solve | (simp [*, enc]; done) | (simp [*, enc]; rfl) | rfl); (solve | rfl | simp [*, enc]); (intro i_ hi_; (try simp only [upd_none] at hi_); (try have hn_ := ne_live (i := i_) eh (by simp [hi_])); (try have hz_ := hle_none (i := i_) hle (by simp [hi_]))))
        | ((with_reducible apply ops_store); (solve | simp [*, enc]); (solve | rfl); (solve | rfl | simp); (solve | (simp [*, enc]; done) | (simp [*, enc]; rfl) | rfl); (solve | (simp [*, enc]; done) | (simp [*, enc]; rfl) | rfl); (solve | (simp [*, enc]; done) | (simp [*, enc]; rfl) | rfl); (solve | (simp [*, enc]; done) | (simp [*, enc]; rfl) | rfl); (solve | (simp [*, enc]; done) | (simp [*, enc]; rfl) | rfl); (solve | (simp [*, enc]; done) | (simp [*, enc]; rfl) | rfl))
        | ((with_reducible apply ops_storev); (solve | simp [*, enc]); (solve | rfl); (solve | rfl | simp); (solve | (simp [*, enc]; done) | (simp [*, enc]; rfl) | rfl); (solve | rfl); (solve | (simp [*, enc]; done) | (simp [*, enc]; rfl) | rfl); (solve | rfl); (solve | (simp [*, enc]; done) | (simp [*, enc]; rfl) | rfl); (solve | rfl); (solve | (simp [*, enc]; done) | (simp [*, enc]; rfl) | rfl); (solve | (simp [*, enc]; done) | (simp [*, enc]; rfl) | rfl); (solve | (simp [*, enc]; done) | (simp [*, enc]; rfl) | rfl))
        | ((with_reducible apply ops_splitv); (solve | (simp [*, enc]; done) | (simp [*, enc]; rfl) | rfl); (solve | rfl); (fail_if_success (with_reducible show true = true → _)); (fail_if_success (with_reducible show false = true → _)); (rotate_left 1; intro hb; (try simp only [Bool.not_eq_true', Bool.not_eq_false'] at hb); rotate_right 1; intro hb; (try simp only [Bool.not_eq_true', Bool.not_eq_false'] at hb)))
        | ((with_reducible apply ops_rcall); (solve | simp [*, enc]); (solve | rfl); (solve | (simp [*, enc]; done) | (simp [*, enc]; rfl) | rfl); (solve | (simp [*, enc]; done) | (simp [*, enc]; rfl) | rfl); (solve | apply of_ok | (apply of_ok; (solve | decide | simp [*, enc]))); (rintro _ ⟨b_, rfl⟩))
        | ((with_reducible refine wp_draw (i := 5) 12 (by kernel_rfl) ?_); simp only [List.take_succ_cons, List.take_zero, List.drop_succ_cons, List.drop_zero])
        | ((with_reducible refine wp_draw (i := 11) 11 (by kernel_rfl) ?_); simp only [List.take_succ_cons, List.take_zero, List.drop_succ_cons, List.drop_zero])
        | with_reducible refine dr_nil ?_
        | ((with_reducible apply dr_on); (solve | simp [*, enc]); (solve | (simp [*, enc]; done) | (simp [*, enc]; rfl) | rfl))
        | ((with_reducible apply dr_onv); (solve | simp [*, enc]); (solve | (simp [*, enc]; done) | (simp [*, enc]; rfl) | rfl); (solve | rfl))
        | ((with_reducible apply dr_off); (solve | simp [*, enc]))
        | ((with_reducible apply dr_alloc); (solve | simp [*, enc]); (solve | rfl); (solve | (simp [*, enc]; done) | (simp [*, enc]; rfl) | rfl))
        | ((with_reducible apply dr_pcall); (solve | simp [*, enc]); (solve | rfl); (solve | (simp [*, enc]; done) | (simp [*, enc]; rfl) | rfl); (solve | (simp [*, enc]; done) | (simp [*, enc]; rfl) | rfl); (solve | apply known_ok | (apply known_ok; (solve | decide | simp [*, enc]))))
        | ((with_reducible apply dr_pcall); (solve | simp [*, enc]); (solve | rfl); (solve | (simp [*, enc]; done) | (simp [*, enc]; rfl) | rfl); (solve | (simp [*, enc]; done) | (simp [*, enc]; rfl) | rfl); (solve | apply (right_ok ⟨_, _, _, _, _, _, _, _, _, _, _, _⟩) | (apply (right_ok ⟨_, _, _, _, _, _, _, _, _, _, _, _⟩); (solve | decide | simp [*, enc]))))
        | ((with_reducible apply dr_pcall); (solve | simp [*, enc]); (solve | rfl); (solve | (simp [*, enc]; done) | (simp [*, enc]; rfl) | rfl); (solve | (simp [*, enc]; done) | (simp [*, enc]; rfl) | rfl); (solve | apply hit_ok | (apply hit_ok; (solve | decide | simp [*, enc]))))
        | ((with_reducible apply dr_pcall); (solve | simp [*, enc]); (solve | rfl); (solve | (simp [*, enc]; done) | (simp [*, enc]; rfl) | rfl); (solve | (simp [*, enc]; done) | (simp [*, enc]; rfl) | rfl); (solve | apply (push_ok ⟨_, _, _, _, _, _, _, _, _, _, _, _⟩) | (apply (push_ok ⟨_, _, _, _, _, _, _, _, _, _, _, _⟩); (solve | decide | simp [*, enc]))))
        | ((with_reducible apply dr_pcall); (solve | simp [*, enc]); (solve | rfl); (solve | (simp [*, enc]; done) | (simp [*, enc]; rfl) | rfl); (solve | (simp [*, enc]; done) | (simp [*, enc]; rfl) | rfl); (solve | apply (move_ok ⟨_, _, _, _, _, _, _, _, _, _, _, _⟩) | (apply (move_ok ⟨_, _, _, _, _, _, _, _, _, _, _, _⟩); (solve | decide | simp [*, enc]))))
        | ((with_reducible apply dr_splitv); (solve | (simp [*, enc]; done) | (simp [*, enc]; rfl) | rfl); (solve | rfl); (fail_if_success (with_reducible show true = true → _)); (fail_if_success (with_reducible show false = true → _)); (rotate_left 1; intro hb; (try simp only [Bool.not_eq_true', Bool.not_eq_false'] at hb); rotate_right 1; intro hb; (try simp only [Bool.not_eq_true', Bool.not_eq_false'] at hb)))
        | ((with_reducible apply pre_skip); (solve | rfl))
        | with_reducible refine pre_nil ?_
        | ((with_reducible apply pre_alloc); (solve | rfl); (solve | rfl | simp); (intro i_ hi_; (try simp only [upd_none] at hi_); (try have hn_ := ne_live (i := i_) eh (by simp [hi_])); (try have hz_ := hle_none (i := i_) hle (by simp [hi_]))))
        | ((with_reducible apply body_ret); (solve | (simp [*, enc]; done) | (simp [*, enc]; rfl)); simp only [pack])
        | ((with_reducible apply body_normal); (solve | (simp [*, enc]; done) | (simp [*, enc]; rfl)); simp only [pack]))
      all_goals try (solve | ((refine leaf hq ?_ ?_); (repeat' (first | assumption | exact HLe.refl _ | ((with_reducible refine hle_upd ?_ ?_); (solve | simp [*])))); (first | rfl | (simp [*]; done) | (simp_all []; done))))
      refine ⟨n - 1, by omega, ⟨_, _, _, _, _, _, _, _, _, _, _, _⟩, i + 1, by first | (simp [e7]; done) | (simp [*]; done), by first | (simp [e9, hw]; done) | (simp [*]; done), by first | (simp [e2]; done) | (simp [*]; done), by first | (simp [enc]; exact ⟨rfl, rfl, rfl, rfl, rfl, rfl, rfl, ⟨rfl, rfl, rfl, rfl⟩, rfl⟩) | simp [*, enc]; exact ⟨rfl, rfl, rfl, rfl, rfl, rfl, rfl, ⟨rfl, rfl, rfl, rfl⟩, rfl⟩, ?_, by assumption, by omega, by omega, by omega⟩
      repeat' (first | assumption | exact HLe.refl _ | ((with_reducible refine hle_upd ?_ ?_); (solve | simp [*])))
    · clear g3
      by_cases h2 : mk = 2
      · subst h2
        obtain ⟨g6, g7, g5⟩ := g4 rfl
        replace g6 := g6.symm
        replace g7 := g7.symm
        clear g4
        all_goals repeat' (first
          | with_reducible refine wp_seq' ?_
          | with_reducible refine then_normal ?_
          | with_reducible refine then_ret ?_
          | with_reducible refine then_exit ?_
          | with_reducible refine then_pan ?_
          | with_reducible refine in_normal ?_
          | with_reducible refine in_ret ?_
          | with_reducible refine in_exit ?_
          | ((with_reducible apply in_far); (solve | rfl))
          | with_reducible refine in_pan ?_
          | ((with_reducible refine wp_region' ?_); simp only [])
          | with_reducible refine wp_ret' ?_
          | with_reducible refine wp_skip' ?_
          | with_reducible refine wp_block' ?_
          | with_reducible refine wp_exit' ?_
          | with_reducible refine turns_in ?_
          | with_reducible refine turns_next ?_
          | with_reducible refine ops_nil ?_
          | ((with_reducible refine wp_cond' (t := true) ?_ (fun _ => ?_) (fun hb => absurd hb (by decide))); (solve | (simp [*, enc]; done)))
          | ((with_reducible refine wp_cond' (t := false) ?_ (fun hb => absurd hb (by decide)) (fun _ => ?_)); (solve | (simp [*, enc]; done)))
          | ((with_reducible apply wp_condv); (solve | (simp [*, enc]; done) | (simp [*, enc]; rfl) | rfl); (solve | rfl); (fail_if_success (with_reducible show true = true → _)); (fail_if_success (with_reducible show false = true → _)); (rotate_left 1; intro hb; (try simp only [Bool.not_eq_true', Bool.not_eq_false'] at hb); rotate_right 1; intro hb; (try simp only [Bool.not_eq_true', Bool.not_eq_false'] at hb)))
          | ((with_reducible apply ops_on); (solve | simp [*, enc]); (solve | (simp [*, enc]; done) | (simp [*, enc]; rfl) | rfl))
          | ((with_reducible apply ops_onv); (solve | simp [*, enc]); (solve | (simp [*, enc]; done) | (simp [*, enc]; rfl) | rfl); (solve | rfl))
          | ((with_reducible apply ops_off); (solve | simp [*, enc]))
          | ((with_reducible apply ops_pcall); (solve | simp [*, enc]); (solve | rfl); (solve | (simp [*, enc]; done) | (simp [*, enc]; rfl) | rfl); (solve | (simp [*, enc]; done) | (simp [*, enc]; rfl) | rfl); (solve | apply known_ok | (apply known_ok; (solve | decide | simp [*, enc]))))
          | ((with_reducible apply ops_pcall); (solve | simp [*, enc]); (solve | rfl); (solve | (simp [*, enc]; done) | (simp [*, enc]; rfl) | rfl); (solve | (simp [*, enc]; done) | (simp [*, enc]; rfl) | rfl); (solve | apply (right_ok ⟨_, _, _, _, _, _, _, _, _, _, _, _⟩) | (apply (right_ok ⟨_, _, _, _, _, _, _, _, _, _, _, _⟩); (solve | decide | simp [*, enc]))))
          | ((with_reducible apply ops_pcall); (solve | simp [*, enc]); (solve | rfl); (solve | (simp [*, enc]; done) | (simp [*, enc]; rfl) | rfl); (solve | (simp [*, enc]; done) | (simp [*, enc]; rfl) | rfl); (solve | apply hit_ok | (apply hit_ok; (solve | decide | simp [*, enc]))))
          | ((with_reducible apply ops_pcall); (solve | simp [*, enc]); (solve | rfl); (solve | (simp [*, enc]; done) | (simp [*, enc]; rfl) | rfl); (solve | (simp [*, enc]; done) | (simp [*, enc]; rfl) | rfl); (solve | apply (push_ok ⟨_, _, _, _, _, _, _, _, _, _, _, _⟩) | (apply (push_ok ⟨_, _, _, _, _, _, _, _, _, _, _, _⟩); (solve | decide | simp [*, enc]))))
          | ((with_reducible apply ops_pcall); (solve | simp [*, enc]); (solve | rfl); (solve | (simp [*, enc]; done) | (simp [*, enc]; rfl) | rfl); (solve | (simp [*, enc]; done) | (simp [*, enc]; rfl) | rfl); (solve | apply (move_ok ⟨_, _, _, _, _, _, _, _, _, _, _, _⟩) | (apply (move_ok ⟨_, _, _, _, _, _, _, _, _, _, _, _⟩); (solve | decide | simp [*, enc]))))
          | ((with_reducible apply ops_alloc); (solve | simp [*, enc]); (solve | rfl); (solve | rfl | simp); (intro i_ hi_; (try simp only [upd_none] at hi_); (try have hn_ := ne_live (i := i_) eh (by simp [hi_])); (try have hz_ := hle_none (i := i_) hle (by simp [hi_]))))
          | ((with_reducible apply ops_box); (solve | simp [*, enc]); (solve | rfl); (solve | rfl | simp); (solve | (simp [*, enc]; done) | (simp [*, enc]; rfl) | rfl); (solve | rfl | simp [*, enc]); (intro i_ hi_; (try simp only [upd_none] at hi_); (try have hn_ := ne_live (i := i_) eh (by simp [hi_])); (try have hz_ := hle_none (i := i_) hle (by simp [hi_]))))
          | ((with_reducible apply ops_store); (solve | simp [*, enc]); (solve | rfl); (solve | rfl | simp); (solve | (simp [*, enc]; done) | (simp [*, enc]; rfl) | rfl); (solve | (simp [*, enc]; done) | (simp [*, enc]; rfl) | rfl); (solve | (simp [*, enc]; done) | (simp [*, enc]; rfl) | rfl); (solve | (simp [*, enc]; done) | (simp [*, enc]; rfl) | rfl); (solve | (simp [*, enc]; done) | (simp [*, enc]; rfl) | rfl); (solve | (simp [*, enc]; done) | (simp [*, enc]; rfl) | rfl))
          | ((with_reducible apply ops_storev); (solve | simp [*, enc]); (solve | rfl); (solve | rfl | simp); (solve | (simp [*, enc]; done) | (simp [*, enc]; rfl) | rfl); (solve | rfl); (solve | (simp [*, enc]; done) | (simp [*, enc]; rfl) | rfl); (solve | rfl); (solve | (simp [*, enc]; done) | (simp [*, enc]; rfl) | rfl); (solve | rfl); (solve | (simp [*, enc]; done) | (simp [*, enc]; rfl) | rfl); (solve | (simp [*, enc]; done) | (simp [*, enc]; rfl) | rfl); (solve | (simp [*, enc]; done) | (simp [*, enc]; rfl) | rfl))
          | ((with_reducible apply ops_splitv); (solve | (simp [*, enc]; done) | (simp [*, enc]; rfl) | rfl); (solve | rfl); (fail_if_success (with_reducible show true = true → _)); (fail_if_success (with_reducible show false = true → _)); (rotate_left 1; intro hb; (try simp only [Bool.not_eq_true', Bool.not_eq_false'] at hb); rotate_right 1; intro hb; (try simp only [Bool.not_eq_true', Bool.not_eq_false'] at hb)))
          | ((with_reducible apply ops_rcall); (solve | simp [*, enc]); (solve | rfl); (solve | (simp [*, enc]; done) | (simp [*, enc]; rfl) | rfl); (solve | (simp [*, enc]; done) | (simp [*, enc]; rfl) | rfl); (solve | apply of_ok | (apply of_ok; (solve | decide | simp [*, enc]))); (rintro _ ⟨b_, rfl⟩))
          | ((with_reducible refine wp_draw (i := 5) 12 (by kernel_rfl) ?_); simp only [List.take_succ_cons, List.take_zero, List.drop_succ_cons, List.drop_zero])
          | ((with_reducible refine wp_draw (i := 11) 11 (by kernel_rfl) ?_); simp only [List.take_succ_cons, List.take_zero, List.drop_succ_cons, List.drop_zero])
          | with_reducible refine dr_nil ?_
          | ((with_reducible apply dr_on); (solve | simp [*, enc]); (solve | (simp [*, enc]; done) | (simp [*, enc]; rfl) | rfl))
          | ((with_reducible apply dr_onv); (solve | simp [*, enc]); (solve | (simp [*, enc]; done) | (simp [*, enc]; rfl) | rfl); (solve | rfl))
          | ((with_reducible apply dr_off); (solve | simp [*, enc]))
          | ((with_reducible apply dr_alloc); (solve | simp [*, enc]); (solve | rfl); (solve | (simp [*, enc]; done) | (simp [*, enc]; rfl) | rfl))
          | ((with_reducible apply dr_pcall); (solve | simp [*, enc]); (solve | rfl); (solve | (simp [*, enc]; done) | (simp [*, enc]; rfl) | rfl); (solve | (simp [*, enc]; done) | (simp [*, enc]; rfl) | rfl); (solve | apply known_ok | (apply known_ok; (solve | decide | simp [*, enc]))))
          | ((with_reducible apply dr_pcall); (solve | simp [*, enc]); (solve | rfl); (solve | (simp [*, enc]; done) | (simp [*, enc]; rfl) | rfl); (solve | (simp [*, enc]; done) | (simp [*, enc]; rfl) | rfl); (solve | apply (right_ok ⟨_, _, _, _, _, _, _, _, _, _, _, _⟩) | (apply (right_ok ⟨_, _, _, _, _, _, _, _, _, _, _, _⟩); (solve | decide | simp [*, enc]))))
          | ((with_reducible apply dr_pcall); (solve | simp [*, enc]); (solve | rfl); (solve | (simp [*, enc]; done) | (simp [*, enc]; rfl) | rfl); (solve | (simp [*, enc]; done) | (simp [*, enc]; rfl) | rfl); (solve | apply hit_ok | (apply hit_ok; (solve | decide | simp [*, enc]))))
          | ((with_reducible apply dr_pcall); (solve | simp [*, enc]); (solve | rfl); (solve | (simp [*, enc]; done) | (simp [*, enc]; rfl) | rfl); (solve | (simp [*, enc]; done) | (simp [*, enc]; rfl) | rfl); (solve | apply (push_ok ⟨_, _, _, _, _, _, _, _, _, _, _, _⟩) | (apply (push_ok ⟨_, _, _, _, _, _, _, _, _, _, _, _⟩); (solve | decide | simp [*, enc]))))
          | ((with_reducible apply dr_pcall); (solve | simp [*, enc]); (solve | rfl); (solve | (simp [*, enc]; done) | (simp [*, enc]; rfl) | rfl); (solve | (simp [*, enc]; done) | (simp [*, enc]; rfl) | rfl); (solve | apply (move_ok ⟨_, _, _, _, _, _, _, _, _, _, _, _⟩) | (apply (move_ok ⟨_, _, _, _, _, _, _, _, _, _, _, _⟩); (solve | decide | simp [*, enc]))))
          | ((with_reducible apply dr_splitv); (solve | (simp [*, enc]; done) | (simp [*, enc]; rfl) | rfl); (solve | rfl); (fail_if_success (with_reducible show true = true → _)); (fail_if_success (with_reducible show false = true → _)); (rotate_left 1; intro hb; (try simp only [Bool.not_eq_true', Bool.not_eq_false'] at hb); rotate_right 1; intro hb; (try simp only [Bool.not_eq_true', Bool.not_eq_false'] at hb)))
          | ((with_reducible apply pre_skip); (solve | rfl))
          | with_reducible refine pre_nil ?_
          | ((with_reducible apply pre_alloc); (solve | rfl); (solve | rfl | simp); (intro i_ hi_; (try simp only [upd_none] at hi_); (try have hn_ := ne_live (i := i_) eh (by simp [hi_])); (try have hz_ := hle_none (i := i_) hle (by simp [hi_]))))
          | ((with_reducible apply body_ret); (solve | (simp [*, enc]; done) | (simp [*, enc]; rfl)); simp only [pack])
          | ((with_reducible apply body_normal); (solve | (simp [*, enc]; done) | (simp [*, enc]; rfl)); simp only [pack]))
        all_goals try (solve | ((refine leaf hq ?_ ?_); (repeat' (first | assumption | exact HLe.refl _ | ((with_reducible refine hle_upd ?_ ?_); (solve | simp [*])))); (first | rfl | (simp [*]; done) | (simp_all []; done))))
        refine ⟨n - 1, by omega, ⟨_, _, _, _, _, _, _, _, _, _, _, _⟩, i + 1, by first | (simp [e7]; done) | (simp [*]; done), by first | (simp [e9, hw]; done) | (simp [*]; done), by first | (simp [e2]; done) | (simp [*]; done), by first | (simp [enc]; exact ⟨rfl, rfl, rfl, rfl, rfl, rfl, rfl, ⟨rfl, rfl, rfl, rfl⟩, rfl⟩) | simp [*, enc]; exact ⟨rfl, rfl, rfl, rfl, rfl, rfl, rfl, ⟨rfl, rfl, rfl, rfl⟩, rfl⟩, ?_, by assumption, by omega, by omega, by omega⟩
        repeat' (first | assumption | exact HLe.refl _ | ((with_reducible refine hle_upd ?_ ?_); (solve | simp [*])))
      · clear g4
        by_cases h0 : mk = 0
        · subst h0
          all_goals repeat' (first
            | with_reducible refine wp_seq' ?_
            | with_reducible refine then_normal ?_
            | with_reducible refine then_ret ?_
            | with_reducible refine then_exit ?_
            | with_reducible refine then_pan ?_
            | with_reducible refine in_normal ?_
            | with_reducible refine in_ret ?_
            | with_reducible refine in_exit ?_
            | ((with_reducible apply in_far); (solve | rfl))
            | with_reducible refine in_pan ?_
            | ((with_reducible refine wp_region' ?_); simp only [])
            | with_reducible refine wp_ret' ?_
            | with_reducible refine wp_skip' ?_
            | with_reducible refine wp_block' ?_
            | with_reducible refine wp_exit' ?_
            | with_reducible refine turns_in ?_
            | with_reducible refine turns_next ?_
            | with_reducible refine ops_nil ?_
            | ((with_reducible refine wp_cond' (t := true) ?_ (fun _ => ?_) (fun hb => absurd hb (by decide))); (solve | (simp [*, enc]; done)))
            | ((with_reducible refine wp_cond' (t := false) ?_ (fun hb => absurd hb (by decide)) (fun _ => ?_)); (solve | (simp [*, enc]; done)))
            | ((with_reducible apply wp_condv); (solve | (simp [*, enc]; done) | (simp [*, enc]; rfl) | rfl); (solve | rfl); (fail_if_success (with_reducible show true = true → _)); (fail_if_success (with_reducible show false = true → _)); (rotate_left 1; intro hb; (try simp only [Bool.not_eq_true', Bool.not_eq_false'] at hb); rotate_right 1; intro hb; (try simp only [Bool.not_eq_true', Bool.not_eq_false'] at hb)))
            | ((with_reducible apply ops_on); (solve | simp [*, enc]); (solve | (simp [*, enc]; done) | (simp [*, enc]; rfl) | rfl))
            | ((with_reducible apply ops_onv); (solve | simp [*, enc]); (solve | (simp [*, enc]; done) | (simp [*, enc]; rfl) | rfl); (solve | rfl))
            | ((with_reducible apply ops_off); (solve | simp [*, enc]))
            | ((with_reducible apply ops_pcall); (solve | simp [*, enc]); (solve | rfl); (solve | (simp [*, enc]; done) | (simp [*, enc]; rfl) | rfl); (solve | (simp [*, enc]; done) | (simp [*, enc]; rfl) | rfl); (solve | apply known_ok | (apply known_ok; (solve | decide | simp [*, enc]))))
            | ((with_reducible apply ops_pcall); (solve | simp [*, enc]); (solve | rfl); (solve | (simp [*, enc]; done) | (simp [*, enc]; rfl) | rfl); (solve | (simp [*, enc]; done) | (simp [*, enc]; rfl) | rfl); (solve | apply (right_ok ⟨_, _, _, _, _, _, _, _, _, _, _, _⟩) | (apply (right_ok ⟨_, _, _, _, _, _, _, _, _, _, _, _⟩); (solve | decide | simp [*, enc]))))
            | ((with_reducible apply ops_pcall); (solve | simp [*, enc]); (solve | rfl); (solve | (simp [*, enc]; done) | (simp [*, enc]; rfl) | rfl); (solve | (simp [*, enc]; done) | (simp [*, enc]; rfl) | rfl); (solve | apply hit_ok | (apply hit_ok; (solve | decide | simp [*, enc]))))
            | ((with_reducible apply ops_pcall); (solve | simp [*, enc]); (solve | rfl); (solve | (simp [*, enc]; done) | (simp [*, enc]; rfl) | rfl); (solve | (simp [*, enc]; done) | (simp [*, enc]; rfl) | rfl); (solve | apply (push_ok ⟨_, _, _, _, _, _, _, _, _, _, _, _⟩) | (apply (push_ok ⟨_, _, _, _, _, _, _, _, _, _, _, _⟩); (solve | decide | simp [*, enc]))))
            | ((with_reducible apply ops_pcall); (solve | simp [*, enc]); (solve | rfl); (solve | (simp [*, enc]; done) | (simp [*, enc]; rfl) | rfl); (solve | (simp [*, enc]; done) | (simp [*, enc]; rfl) | rfl); (solve | apply (move_ok ⟨_, _, _, _, _, _, _, _, _, _, _, _⟩) | (apply (move_ok ⟨_, _, _, _, _, _, _, _, _, _, _, _⟩); (solve | decide | simp [*, enc]))))
            | ((with_reducible apply ops_alloc); (solve | simp [*, enc]); (solve | rfl); (solve | rfl | simp); (intro i_ hi_; (try simp only [upd_none] at hi_); (try have hn_ := ne_live (i := i_) eh (by simp [hi_])); (try have hz_ := hle_none (i := i_) hle (by simp [hi_]))))
            | ((with_reducible apply ops_box); (solve | simp [*, enc]); (solve | rfl); (solve | rfl | simp); (solve | (simp [*, enc]; done) | (simp [*, enc]; rfl) | rfl); (solve | rfl | simp [*, enc]); (intro i_ hi_; (try simp only [upd_none] at hi_); (try have hn_ := ne_live (i := i_) eh (by simp [hi_])); (try have hz_ := hle_none (i := i_) hle (by simp [hi_]))))
            | ((with_reducible apply ops_store); (solve | simp [*, enc]); (solve | rfl); (solve | rfl | simp); (solve | (simp [*, enc]; done) | (simp [*, enc]; rfl) | rfl); (solve | (simp [*, enc]; done) | (simp [*, enc]; rfl) | rfl); (solve | (simp [*, enc]; done) | (simp [*, enc]; rfl) | rfl); (solve | (simp [*, enc]; done) | (simp [*, enc]; rfl) | rfl); (solve | (simp [*, enc]; done) | (simp [*, enc]; rfl) | rfl); (solve | (simp [*, enc]; done) | (simp [*, enc]; rfl) | rfl))
            | ((with_reducible apply ops_storev); (solve | simp [*, enc]); (solve | rfl); (solve | rfl | simp); (solve | (simp [*, enc]; done) | (simp [*, enc]; rfl) | rfl); (solve | rfl); (solve | (simp [*, enc]; done) | (simp [*, enc]; rfl) | rfl); (solve | rfl); (solve | (simp [*, enc]; done) | (simp [*, enc]; rfl) | rfl); (solve | rfl); (solve | (simp [*, enc]; done) | (simp [*, enc]; rfl) | rfl); (solve | (simp [*, enc]; done) | (simp [*, enc]; rfl) | rfl); (solve | (simp [*, enc]; done) | (simp [*, enc]; rfl) | rfl))
            | ((with_reducible apply ops_splitv); (solve | (simp [*, enc]; done) | (simp [*, enc]; rfl) | rfl); (solve | rfl); (fail_if_success (with_reducible show true = true → _)); (fail_if_success (with_reducible show false = true → _)); (rotate_left 1; intro hb; (try simp only [Bool.not_eq_true', Bool.not_eq_false'] at hb); rotate_right 1; intro hb; (try simp only [Bool.not_eq_true', Bool.not_eq_false'] at hb)))
            | ((with_reducible apply ops_rcall); (solve | simp [*, enc]); (solve | rfl); (solve | (simp [*, enc]; done) | (simp [*, enc]; rfl) | rfl); (solve | (simp [*, enc]; done) | (simp [*, enc]; rfl) | rfl); (solve | apply of_ok | (apply of_ok; (solve | decide | simp [*, enc]))); (rintro _ ⟨b_, rfl⟩))
            | ((with_reducible refine wp_draw (i := 5) 12 (by kernel_rfl) ?_); simp only [List.take_succ_cons, List.take_zero, List.drop_succ_cons, List.drop_zero])
            | ((with_reducible refine wp_draw (i := 11) 11 (by kernel_rfl) ?_); simp only [List.take_succ_cons, List.take_zero, List.drop_succ_cons, List.drop_zero])
            | with_reducible refine dr_nil ?_
            | ((with_reducible apply dr_on); (solve | simp [*, enc]); (solve | (simp [*, enc]; done) | (simp [*, enc]; rfl) | rfl))
            | ((with_reducible apply dr_onv); (solve | simp [*, enc]); (solve | (simp [*, enc]; done) | (simp [*, enc]; rfl) | rfl); (solve | rfl))
            | ((with_reducible apply dr_off); (solve | simp [*, enc]))
            | ((with_reducible apply dr_alloc); (solve | simp [*, enc]); (solve | rfl); (solve | (simp [*, enc]; done) | (simp [*, enc]; rfl) | rfl))
            | ((with_reducible apply dr_pcall); (solve | simp [*, enc]); (solve | rfl); (solve | (simp [*, enc]; done) | (simp [*, enc]; rfl) | rfl); (solve | (simp [*, enc]; done) | (simp [*, enc]; rfl) | rfl); (solve | apply known_ok | (apply known_ok; (solve | decide | simp [*, enc]))))
            | ((with_reducible apply dr_pcall); (solve | simp [*, enc]); (solve | rfl); (solve | (simp [*, enc]; done) | (simp [*, enc]; rfl) | rfl); (solve | (simp [*, enc]; done) | (simp [*, enc]; rfl) | rfl); (solve | apply (right_ok ⟨_, _, _, _, _, _, _, _, _, _, _, _⟩) | (apply (right_ok ⟨_, _, _, _, _, _, _, _, _, _, _, _⟩); (solve | decide | simp [*, enc]))))
            | ((with_reducible apply dr_pcall); (solve | simp [*, enc]); (solve | rfl); (solve | (simp [*, enc]; done) | (simp [*, enc]; rfl) | rfl); (solve | (simp [*, enc]; done) | (simp [*, enc]; rfl) | rfl); (solve | apply hit_ok | (apply hit_ok; (solve | decide | simp [*, enc]))))
            | ((with_reducible apply dr_pcall); (solve | simp [*, enc]); (solve | rfl); (solve | (simp [*, enc]; done) | (simp [*, enc]; rfl) | rfl); (solve | (simp [*, enc]; done) | (simp [*, enc]; rfl) | rfl); (solve | apply (push_ok ⟨_, _, _, _, _, _, _, _, _, _, _, _⟩) | (apply (push_ok ⟨_, _, _, _, _, _, _, _, _, _, _, _⟩); (solve | decide | simp [*, enc]))))
            | ((with_reducible apply dr_pcall); (solve | simp [*, enc]); (solve | rfl); (solve | (simp [*, enc]; done) | (simp [*, enc]; rfl) | rfl); (solve | (simp [*, enc]; done) | (simp [*, enc]; rfl) | rfl); (solve | apply (move_ok ⟨_, _, _, _, _, _, _, _, _, _, _, _⟩) | (apply (move_ok ⟨_, _, _, _, _, _, _, _, _, _, _, _⟩); (solve | decide | simp [*, enc]))))
            | ((with_reducible apply dr_splitv); (solve | (simp [*, enc]; done) | (simp [*, enc]; rfl) | rfl); (solve | rfl); (fail_if_success (with_reducible show true = true → _)); (fail_if_success (with_reducible show false = true → _)); (rotate_left 1; intro hb; (try simp only [Bool.not_eq_true', Bool.not_eq_false'] at hb); rotate_right 1; intro hb; (try simp only [Bool.not_eq_true', Bool.not_eq_false'] at hb)))
            | ((with_reducible apply pre_skip); (solve | rfl))
            | with_reducible refine pre_nil ?_
            | ((with_reducible apply pre_alloc); (solve | rfl); (solve | rfl | simp); (intro i_ hi_; (try simp only [upd_none] at hi_); (try have hn_ := ne_live (i := i_) eh (by simp [hi_])); (try have hz_ := hle_none (i := i_) hle (by simp [hi_]))))
            | ((with_reducible apply body_ret); (solve | (simp [*, enc]; done) | (simp [*, enc]; rfl)); simp only [pack])
            | ((with_reducible apply body_normal); (solve | (simp [*, enc]; done) | (simp [*, enc]; rfl)); simp only [pack]))
          all_goals try (solve | ((refine leaf hq ?_ ?_); (repeat' (first | assumption | exact HLe.refl _ | ((with_reducible refine hle_upd ?_ ?_); (solve | simp [*])))); (first | rfl | (simp [*]; done) | (simp_all []; done))))
          refine ⟨n - 1, by omega, ⟨_, _, _, _, _, _, _, _, _, _, _, _⟩, i + 1, by first | (simp [e7]; done) | (simp [*]; done), by first | (simp [e9, hw]; done) | (simp [*]; done), by first | (simp [e2]; done) | (simp [*]; done), by first | (simp [enc]; exact ⟨rfl, rfl, rfl, rfl, rfl, rfl, rfl, ⟨rfl, rfl, rfl, rfl⟩, rfl⟩) | simp [*, enc]; exact ⟨rfl, rfl, rfl, rfl, rfl, rfl, rfl, ⟨rfl, rfl, rfl, rfl⟩, rfl⟩, ?_, by assumption, by omega, by omega, by omega⟩
          repeat' (first | assumption | exact HLe.refl _ | ((with_reducible refine hle_upd ?_ ?_); (solve | simp [*])))
        ·
          all_goals repeat' (first
            | with_reducible refine wp_seq' ?_
            | with_reducible refine then_normal ?_
            | with_reducible refine then_ret ?_
            | with_reducible refine then_exit ?_
            | with_reducible refine then_pan ?_
            | with_reducible refine in_normal ?_
            | with_reducible refine in_ret ?_
            | with_reducible refine in_exit ?_
            | ((with_reducible apply in_far); (solve | rfl))
            | with_reducible refine in_pan ?_
            | ((with_reducible refine wp_region' ?_); simp only [])
            | with_reducible refine wp_ret' ?_
            | with_reducible refine wp_skip' ?_
            | with_reducible refine wp_block' ?_
            | with_reducible refine wp_exit' ?_
            | with_reducible refine turns_in ?_
            | with_reducible refine turns_next ?_
            | with_reducible refine ops_nil ?_
            | ((with_reducible refine wp_cond' (t := true) ?_ (fun _ => ?_) (fun hb => absurd hb (by decide))); (solve | (simp [*, enc]; done)))
            | ((with_reducible refine wp_cond' (t := false) ?_ (fun hb => absurd hb (by decide)) (fun _ => ?_)); (solve | (simp [*, enc]; done)))
            | ((with_reducible apply wp_condv); (solve | (simp [*, enc]; done) | (simp [*, enc]; rfl) | rfl); (solve | rfl); (fail_if_success (with_reducible show true = true → _)); (fail_if_success (with_reducible show false = true → _)); (rotate_left 1; intro hb; (try simp only [Bool.not_eq_true', Bool.not_eq_false'] at hb); rotate_right 1; intro hb; (try simp only [Bool.not_eq_true', Bool.not_eq_false'] at hb)))
            | ((with_reducible apply ops_on); (solve | simp [*, enc]); (solve | (simp [*, enc]; done) | (simp [*, enc]; rfl) | rfl))
            | ((with_reducible apply ops_onv); (solve | simp [*, enc]); (solve | (simp [*, enc]; done) | (simp [*, enc]; rfl) | rfl); (solve | rfl))
            | ((with_reducible apply ops_off); (solve | simp [*, enc]))
            | ((with_reducible apply ops_pcall); (solve | simp [*, enc]); (solve | rfl); (solve | (simp [*, enc]; done) | (simp [*, enc]; rfl) | rfl); (solve | (simp [*, enc]; done) | (simp [*, enc]; rfl) | rfl); (solve | apply known_ok | (apply known_ok; (solve | decide | simp [*, enc]))))
            | ((with_reducible apply ops_pcall); (solve | simp [*, enc]); (solve | rfl); (solve | (simp [*, enc]; done) | (simp [*, enc]; rfl) | rfl); (solve | (simp [*, enc]; done) | (simp [*, enc]; rfl) | rfl); (solve | apply (right_ok ⟨_, _, _, _, _, _, _, _, _, _, _, _⟩) | (apply (right_ok ⟨_, _, _, _, _, _, _, _, _, _, _, _⟩); (solve | decide | simp [*, enc]))))
            | ((with_reducible apply ops_pcall); (solve | simp [*, enc]); (solve | rfl); (solve | (simp [*, enc]; done) | (simp [*, enc]; rfl) | rfl); (solve | (simp [*, enc]; done) | (simp [*, enc]; rfl) | rfl); (solve | apply hit_ok | (apply hit_ok; (solve | decide | simp [*, enc]))))
            | ((with_reducible apply ops_pcall); (solve | simp [*, enc]); (solve | rfl); (solve | (simp [*, enc]; done) | (simp [*, enc]; rfl) | rfl); (solve | (simp [*, enc]; done) | (simp [*, enc]; rfl) | rfl); (solve | apply (push_ok ⟨_, _, _, _, _, _, _, _, _, _, _, _⟩) | (apply (push_ok ⟨_, _, _, _, _, _, _, _, _, _, _, _⟩); (solve | decide | simp [*, enc]))))
            | ((with_reducible apply ops_pcall); (solve | simp [*, enc]); (solve | rfl); (solve | (simp [*, enc]; done) | (simp [*, enc]; rfl) | rfl); (solve | (simp [*, enc]; done) | (simp [*, enc]; rfl) | rfl); (solve | apply (move_ok ⟨_, _, _, _, _, _, _, _, _, _, _, _⟩) | (apply (move_ok ⟨_, _, _, _, _, _, _, _, _, _, _, _⟩); (solve | decide | simp [*, enc]))))
            | ((with_reducible apply ops_alloc); (solve | simp [*, enc]); (solve | rfl); (solve | rfl | simp); (intro i_ hi_; (try simp only [upd_none] at hi_); (try have hn_ := ne_live (i := i_) eh (by simp [hi_])); (try have hz_ := hle_none (i := i_) hle (by simp [hi_]))))
            | ((with_reducible apply ops_box); (solve | simp [*, enc]); (solve | rfl); (solve | rfl | simp); (solve | (simp [*, enc]; done) | (simp [*, enc]; rfl) | rfl); (solve | rfl | simp [*, enc]); (intro i_ hi_; (try simp only [upd_none] at hi_); (try have hn_ := ne_live (i := i_) eh (by simp [hi_])); (try have hz_ := hle_none (i := i_) hle (by simp [hi_]))))
            | ((with_reducible apply ops_store); (solve | simp [*, enc]); (solve | rfl); (solve | rfl | simp); (solve | (simp [*, enc]; done) | (simp [*, enc]; rfl) | rfl); (solve | (simp [*, enc]; done) | (simp [*, enc]; rfl) | rfl); (solve | (simp [*, enc]; done) | (simp [*, enc]; rfl) | rfl); (solve | (simp [*, enc]; done) | (simp [*, enc]; rfl) | rfl); (solve | (simp [*, enc]; done) | (simp [*, enc]; rfl) | rfl); (solve | (simp [*, enc]; done) | (simp [*, enc]; rfl) | rfl))
            | ((with_reducible apply ops_storev); (solve | simp [*, enc]); (solve | rfl); (solve | rfl | simp); (solve | (simp [*, enc]; done) | (simp [*, enc]; rfl) | rfl); (solve | rfl); (solve | (simp [*, enc]; done) | (simp [*, enc]; rfl) | rfl); (solve | rfl); (solve | (simp [*, enc]; done) | (simp [*, enc]; rfl) | rfl); (solve | rfl); (solve | (simp [*, enc]; done) | (simp [*, enc]; rfl) | rfl); (solve | (simp [*, enc]; done) | (simp [*, enc]; rfl) | rfl); (solve | (simp [*, enc]; done) | (simp [*, enc]; rfl) | rfl))
            | ((with_reducible apply ops_splitv); (solve | (simp [*, enc]; done) | (simp [*, enc]; rfl) | rfl); (solve | rfl); (fail_if_success (with_reducible show true = true → _)); (fail_if_success (with_reducible show false = true → _)); (rotate_left 1; intro hb; (try simp only [Bool.not_eq_true', Bool.not_eq_false'] at hb); rotate_right 1; intro hb; (try simp only [Bool.not_eq_true', Bool.not_eq_false'] at hb)))
            | ((with_reducible apply ops_rcall); (solve | simp [*, enc]); (solve | rfl); (solve | (simp [*, enc]; done) | (simp [*, enc]; rfl) | rfl); (solve | (simp [*, enc]; done) | (simp [*, enc]; rfl) | rfl); (solve | apply of_ok | (apply of_ok; (solve | decide | simp [*, enc]))); (rintro _ ⟨b_, rfl⟩))
            | ((with_reducible refine wp_draw (i := 5) 12 (by kernel_rfl) ?_); simp only [List.take_succ_cons, List.take_zero, List.drop_succ_cons, List.drop_zero])
            | ((with_reducible refine wp_draw (i := 11) 11 (by kernel_rfl) ?_); simp only [List.take_succ_cons, List.take_zero, List.drop_succ_cons, List.drop_zero])
            | with_reducible refine dr_nil ?_
            | ((with_reducible apply dr_on); (solve | simp [*, enc]); (solve | (simp [*, enc]; done) | (simp [*, enc]; rfl) | rfl))
            | ((with_reducible apply dr_onv); (solve | simp [*, enc]); (solve | (simp [*, enc]; done) | (simp [*, enc]; rfl) | rfl); (solve | rfl))
            | ((with_reducible apply dr_off); (solve | simp [*, enc]))
            | ((with_reducible apply dr_alloc); (solve | simp [*, enc]); (solve | rfl); (solve | (simp [*, enc]; done) | (simp [*, enc]; rfl) | rfl))
            | ((with_reducible apply dr_pcall); (solve | simp [*, enc]); (solve | rfl); (solve | (simp [*, enc]; done) | (simp [*, enc]; rfl) | rfl); (solve | (simp [*, enc]; done) | (simp [*, enc]; rfl) | rfl); (solve | apply known_ok | (apply known_ok; (solve | decide | simp [*, enc]))))
            | ((with_reducible apply dr_pcall); (solve | simp [*, enc]); (solve | rfl); (solve | (simp [*, enc]; done) | (simp [*, enc]; rfl) | rfl); (solve | (simp [*, enc]; done) | (simp [*, enc]; rfl) | rfl); (solve | apply (right_ok ⟨_, _, _, _, _, _, _, _, _, _, _, _⟩) | (apply (right_ok ⟨_, _, _, _, _, _, _, _, _, _, _, _⟩); (solve | decide | simp [*, enc]))))
            | ((with_reducible apply dr_pcall); (solve | simp [*, enc]); (solve | rfl); (solve | (simp [*, enc]; done) | (simp [*, enc]; rfl) | rfl); (solve | (simp [*, enc]; done) | (simp [*, enc]; rfl) | rfl); (solve | apply hit_ok | (apply hit_ok; (solve | decide | simp [*, enc]))))
            | ((with_reducible apply dr_pcall); (solve | simp [*, enc]); (solve | rfl); (solve | (simp [*, enc]; done) | (simp [*, enc]; rfl) | rfl); (solve | (simp [*, enc]; done) | (simp [*, enc]; rfl) | rfl); (solve | apply (push_ok ⟨_, _, _, _, _, _, _, _, _, _, _, _⟩) | (apply (push_ok ⟨_, _, _, _, _, _, _, _, _, _, _, _⟩); (solve | decide | simp [*, enc]))))
            | ((with_reducible apply dr_pcall); (solve | simp [*, enc]); (solve | rfl); (solve | (simp [*, enc]; done) | (simp [*, enc]; rfl) | rfl); (solve | (simp [*, enc]; done) | (simp [*, enc]; rfl) | rfl); (solve | apply (move_ok ⟨_, _, _, _, _, _, _, _, _, _, _, _⟩) | (apply (move_ok ⟨_, _, _, _, _, _, _, _, _, _, _, _⟩); (solve | decide | simp [*, enc]))))
            | ((with_reducible apply dr_splitv); (solve | (simp [*, enc]; done) | (simp [*, enc]; rfl) | rfl); (solve | rfl); (fail_if_success (with_reducible show true = true → _)); (fail_if_success (with_reducible show false = true → _)); (rotate_left 1; intro hb; (try simp only [Bool.not_eq_true', Bool.not_eq_false'] at hb); rotate_right 1; intro hb; (try simp only [Bool.not_eq_true', Bool.not_eq_false'] at hb)))
            | ((with_reducible apply pre_skip); (solve | rfl))
            | with_reducible refine pre_nil ?_
            | ((with_reducible apply pre_alloc); (solve | rfl); (solve | rfl | simp); (intro i_ hi_; (try simp only [upd_none] at hi_); (try have hn_ := ne_live (i := i_) eh (by simp [hi_])); (try have hz_ := hle_none (i := i_) hle (by simp [hi_]))))
            | ((with_reducible apply body_ret); (solve | (simp [*, enc]; done) | (simp [*, enc]; rfl)); simp only [pack])
            | ((with_reducible apply body_normal); (solve | (simp [*, enc]; done) | (simp [*, enc]; rfl)); simp only [pack]))
          all_goals try (solve | ((refine leaf hq ?_ ?_); (repeat' (first | assumption | exact HLe.refl _ | ((with_reducible refine hle_upd ?_ ?_); (solve | simp [*])))); (first | rfl | (simp [*]; done) | (simp_all []; done))))
          refine ⟨n - 1, by omega, ⟨_, _, _, _, _, _, _, _, _, _, _, _⟩, i + 1, by first | (simp [e7]; done) | (simp [*]; done), by first | (simp [e9, hw]; done) | (simp [*]; done), by first | (simp [e2]; done) | (simp [*]; done), by first | (simp [enc]; exact ⟨rfl, rfl, rfl, rfl, rfl, rfl, rfl, ⟨rfl, rfl, rfl, rfl⟩, rfl⟩) | simp [*, enc]; exact ⟨rfl, rfl, rfl, rfl, rfl, rfl, rfl, ⟨rfl, rfl, rfl, rfl⟩, rfl⟩, ?_, by assumption, by omega, by omega, by omega⟩
          repeat' (first | assumption | exact HLe.refl _ | ((with_reducible refine hle_upd ?_ ?_); (solve | simp [*])))
end Go.Proofs.Ytbjbhoggbbhblaa
