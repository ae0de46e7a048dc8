import Derived.Test.YtbjbhoggbbhblaaBod3
set_option linter.unusedSimpArgs false
set_option linter.unusedVariables false
namespace Go.Proofs.Ytbjbhoggbbhblaa
open Go.Cl Go

theorem brought_le {n lo hi : Int} : brought n lo hi ≤ max lo hi := by unfold brought; split <;> split <;> omega
theorem right_iff {b : Body} (hk : b.k ≠ 0) : b.right = true ↔ (b.k = 1 ∨ b.k = 2) ∧ (0 ≤ b.o ∧ b.o ≤ 7) ∧ (0 ≤ b.x ∧ b.x ≤ 4095) ∧ (0 ≤ b.y ∧ b.y ≤ 4095) ∧ (-64 ≤ b.vx ∧ b.vx ≤ 64) ∧ (-64 ≤ b.vy ∧ b.vy ≤ 64) ∧ (0 ≤ b.age ∧ b.age ≤ 600) ∧ (0 ≤ b.f ∧ b.f ≤ 65535) ∧
    (-1000000 ≤ b.m0 ∧ b.m0 ≤ 1000000) ∧ (-1000000 ≤ b.m1 ∧ b.m1 ≤ 1000000) ∧ (-1000000 ≤ b.m2 ∧ b.m2 ≤ 1000000) ∧ (-1000000 ≤ b.m3 ∧ b.m3 ≤ 1000000) := by
  simp only [Body.right, hk, if_false, within, Bool.and_eq_true, Bool.or_eq_true, decide_eq_true_eq]
  constructor <;> rintro h <;> simp_all
theorem nobody_right : nobody.right = true := by decide
theorem hit_comm (a b : Body) : a.hit b = b.hit a := by
  unfold Body.hit
  by_cases h1 : a.k = 2 <;> by_cases h2 : b.k = 2 <;> simp [h1, h2, hitOf]
theorem hit_self (a : Body) : a.hit a = false := by
  unfold Body.hit hitOf
  split <;> simp
theorem push_right {b : Body} (hr : b.right = true) (hk : b.k ≠ 0) (x y : Int) : (b.push x y).right = true ∧ (b.push x y).k = b.k ∧ (b.push x y).o = b.o ∧ (b.push x y).m0 = b.m0 ∧ (b.push x y).m1 = b.m1 ∧ (b.push x y).m2 = b.m2 ∧ (b.push x y).m3 = b.m3 := by
  have hb := (right_iff hk).1 hr
  have hp : b.push x y = { b with vx := brought (w (b.vx + brought x (-1000) 1000)) (-64) 64, vy := brought (w (b.vy + brought y (-1000) 1000)) (-64) 64 } := by
    simp [Body.push, hr, hk]
  rw [hp]
  refine ⟨?_, rfl, rfl, rfl, rfl, rfl, rfl⟩
  refine (right_iff (by exact hk)).2 ?_
  have h1 := brought_range (n := w (b.vx + brought x (-1000) 1000)) (lo := -64) (hi := 64) (by decide)
  have h2 := brought_range (n := w (b.vy + brought y (-1000) 1000)) (lo := -64) (hi := 64) (by decide)
  obtain ⟨k1, k2, k3, k4, k5, k6, k7⟩ := hb
  exact ⟨k1, k2, k3, k4, h1, h2, k7⟩
theorem bounce_range {a s : Int} (hs : -64 ≤ s ∧ s ≤ 64) : (0 ≤ (bounce a s).1 ∧ (bounce a s).1 ≤ 4095) ∧ (-64 ≤ (bounce a s).2 ∧ (bounce a s).2 ≤ 64) := by
  have h := brought_range (n := a) (lo := 0) (hi := 4095) (by decide)
  have hw := wrap_i64 (n := -s) (by omega) (by omega)
  unfold bounce
  split
  · rename_i e; exact ⟨by simp only; omega, hs⟩
  · simp only [w, hw]; omega
theorem move_facts {c : Body} (hr : c.right = true) (hk : c.k ≠ 0) : c.move.1.right = true ∧ c.move.2 = !decide (c.move.1.k = 0) ∧
    (c.k = 1 → c.move.1.k = 1 ∧ c.move.1.o = c.o ∧ c.move.1.m0 = c.m0 ∧ c.move.1.m1 = c.m1 ∧ c.move.1.m2 = c.m2 ∧ c.move.1.m3 = c.m3) ∧
    (c.move.1.k = 2 → c.move.1.x = w (c.x + c.vx) ∧ c.move.1.y = w (c.y + c.vy) ∧ ¬ 40 < c.move.1.age) := by
  obtain ⟨k1, k2, k3, k4, k5, k6, k7, k8, k9⟩ := (right_iff hk).1 hr
  have ha := wrap_i64 (n := c.age + 1) (by omega) (by omega)
  have hage : 0 ≤ (if 600 < w (c.age + 1) then 600 else w (c.age + 1)) ∧ (if 600 < w (c.age + 1) then 600 else w (c.age + 1)) ≤ 600 := by
    simp only [w, ha]; split <;> omega
  simp only [Body.move, hr, hk]
  generalize (if 600 < w (c.age + 1) then 600 else w (c.age + 1)) = age at *
  by_cases h1 : c.k = 1
  · have bx := bounce_range (a := w (c.x + c.vx)) k5
    have by' := bounce_range (a := w (c.y + c.vy)) k6
    simp only [h1, Bool.not_true, decide_false, Bool.or_self, Bool.false_eq_true, if_false, if_true]
    refine ⟨(right_iff (by simp [h1])).2 ⟨.inl rfl, k2, bx.1, by'.1, bx.2, by'.2, hage, k8, k9⟩, by simp [h1], ?_, ?_⟩ <;> simp [h1]
  · simp only [h1, Bool.not_true, decide_false, Bool.or_self, Bool.false_eq_true, if_false]
    split
    · simp [nobody_right]; simp [nobody]
    · rename_i hc
      simp only [Bool.or_eq_true, decide_eq_true_eq, Bool.not_eq_true', not_or, Bool.not_eq_false, within, Bool.and_eq_true] at hc
      refine ⟨(right_iff (by exact hk)).2 ⟨k1, k2, hc.1.2, hc.2, k5, k6, hage, k8, k9⟩, by simp [hk], fun e => absurd e (by simp), fun _ => ⟨rfl, rfl, hc.1.1⟩⟩
end Go.Proofs.Ytbjbhoggbbhblaa
