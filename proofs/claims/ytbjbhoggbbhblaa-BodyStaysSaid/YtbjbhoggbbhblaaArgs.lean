/- The arguments of the seat's laws. -/
import Derived.Test.YtbjbhoggbbhblaaChecked
import Derived.Test.YtbjbhoggbbhblaaCl24
import Derived.Test.YtbjbhoggbbhblaaBod0
set_option linter.unusedSimpArgs false
set_option linter.unusedVariables false
namespace Go.Proofs.Ytbjbhoggbbhblaa
open Go.Cl Go Go.ChangeShapes Go.WideShapes Go.ChangeAt Go.RowKit
theorem all2_cons {r : TypeId → CV → Prop} {t : TypeId} {ts : List TypeId} {l : List CV} (h : All2 r (t :: ts) l) : ∃ v l', l = v :: l' ∧ r t v ∧ All2 r ts l' := by
  cases l with
  | nil => exact h.elim
  | cons v l' => exact ⟨v, l', rfl, h⟩
theorem all2_nil {r : TypeId → CV → Prop} {l : List CV} (h : All2 r [] l) : l = [] := by
  cases l with
  | nil => rfl
  | cons v l' => exact h.elim
set_option maxRecDepth 100000 in
theorem int_of {n : Nat} {v : CV} (h : Ty Try.prog (n + 1) 3 v) : ∃ x, v = I x := by
  simp only [Ty, Try.underlying3] at h
  obtain ⟨i, rfl, _⟩ := h
  exact ⟨i, rfl⟩
set_option maxRecDepth 100000 in
theorem ints_of {n : Nat} : ∀ (l : List CV), (∀ x ∈ l, Ty Try.prog (n + 1) 3 x) → ∃ xs : List Int, l = xs.map I
  | [], _ => ⟨[], rfl⟩
  | v :: l, h => by
    obtain ⟨x, rfl⟩ := int_of (h v (.head _))
    obtain ⟨xs, rfl⟩ := ints_of l (fun y hy => h y (.tail _ hy))
    exact ⟨x :: xs, rfl⟩
set_option maxRecDepth 100000 in
theorem raw_of {v : CV} (h : Ty Try.prog 3 23 v) : ∃ x0 x1 x2 x3 x4 x5 x6 x7 x8 x9, v = .agg [I x0, I x1, I x2, I x3, I x4, I x5, I x6, I x7, I x8, I x9] := by
  unfold Ty at h
  rw [Try.underlying23] at h
  obtain ⟨l, rfl, h⟩ := h
  obtain ⟨v0, l0, rfl, h0, h⟩ := all2_cons h
  obtain ⟨v1, l1, rfl, h1, h⟩ := all2_cons h
  obtain ⟨v2, l2, rfl, h2, h⟩ := all2_cons h
  obtain ⟨v3, l3, rfl, h3, h⟩ := all2_cons h
  obtain ⟨v4, l4, rfl, h4, h⟩ := all2_cons h
  obtain ⟨v5, l5, rfl, h5, h⟩ := all2_cons h
  obtain ⟨v6, l6, rfl, h6, h⟩ := all2_cons h
  obtain ⟨v7, l7, rfl, h7, h⟩ := all2_cons h
  obtain ⟨v8, l8, rfl, h8, h⟩ := all2_cons h
  obtain ⟨v9, l9, rfl, h9, h⟩ := all2_cons h
  obtain rfl := all2_nil h
  obtain ⟨x0, rfl⟩ := int_of (n := 1) h0
  obtain ⟨x1, rfl⟩ := int_of (n := 1) h1
  obtain ⟨x2, rfl⟩ := int_of (n := 1) h2
  obtain ⟨x3, rfl⟩ := int_of (n := 1) h3
  obtain ⟨x4, rfl⟩ := int_of (n := 1) h4
  obtain ⟨x5, rfl⟩ := int_of (n := 1) h5
  obtain ⟨x6, rfl⟩ := int_of (n := 1) h6
  obtain ⟨x7, rfl⟩ := int_of (n := 1) h7
  obtain ⟨x8, rfl⟩ := int_of (n := 1) h8
  obtain ⟨x9, rfl⟩ := int_of (n := 1) h9
  exact ⟨x0, x1, x2, x3, x4, x5, x6, x7, x8, x9, rfl⟩
end Go.Proofs.Ytbjbhoggbbhblaa
