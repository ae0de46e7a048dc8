/-
  An interpreter over clean values: append and make.
-/
import Derived.Test.YtcjkapadadonlaaGreatY3
set_option linter.unusedSimpArgs false
set_option linter.unusedVariables false
namespace Go.Cl
open Go.RowKit

/-- What append takes from its second argument: elements, or so many zeros. -/
structure SrcX (P : Program) (size : Nat) (tx : TypeId) (e : TypeId) (x : Value) (n : Nat) (news : List Value) (w : World) : Prop where
  src : Src P size tx x n news w ∨ ((∃ k, P.underlying tx = some (.int k)) ∧ x = .int .i64 n ∧ (n : Int) ≤ 140737488355328 ∧ news.length = n * size ∧ ∃ i z, P.info? e = some i ∧ i.size = size ∧ i.zero = some z ∧ n * i.bytes ≤ 281474976710656 ∧ news = (List.replicate n z.cells.toList).flatten ∧ z.cells.size = size ∧ 0 < size)
  one : ∀ u ∈ news, u.oneCell' = true
  len : news.length = n * size

section
variable {P : Program} (w : World)

theorem wrap_small {n : Nat} (h : (n : Int) ≤ 140737488355328) : IntKind.i64.wrap (n : Int) = n := by
  have e : IntKind.bits .i64 = 64 := rfl
  have e2 : IntKind.signed .i64 = true := rfl
  simp only [IntKind.wrap, e, e2, Bool.true_and]
  split <;> rename_i h <;> simp at h <;> omega

theorem zeroCells_eq (z : Value) (n : Nat) : (Builtin.zeroCells z.cells n) = (List.replicate n z.cells.toList).flatten.toArray := by
  apply Array.ext'
  have := rep_cells z.cells n
  simp only [Builtin.zeroCells]
  rw [this]

theorem run_append_room_x (t tx ty e : TypeId) (i : TypeInfo) (ht : P.underlying t = some (.slice e)) (hi : P.info? e = some i) (b off sLen sCap : Nat) (x : Value) (n : Nat) (news : List Value) (hs : SrcX P i.size tx e x n news w)
    (hroom : sLen + n ≤ sCap) (hc : ∀ j, j < news.length → (w.cell? ⟨b, off + sLen * i.size + j, none⟩).isSome = true) (hf : ∀ j, j < news.length → w.frozen? ⟨b, off + sLen * i.size + j, none⟩ = false) :
    (Builtin.append_ #[t, tx] ty #[.slice (some ⟨b, off, none⟩) sLen sCap, x]).run P w = .ok (.slice (some ⟨b, off, none⟩) (sLen + n) sCap) (w.setCells b (off + sLen * i.size) news) := by
  rcases hs.src with h | ⟨⟨k, hk⟩, rfl, hn, _, i', z, hi', hsz, hz, hb, hnews, hzs, hpos⟩
  · exact run_append_room_src w t tx ty e i ht hi b off sLen sCap x n news h hroom hc hf
  · rw [hi] at hi'; cases hi'
    have hst := run_storeCells_cells (P := P) b (off + sLen * i.size) news 0 w (by simpa using hc) (by simpa using hf) hs.one
    simp only [Nat.add_zero] at hst
    have h1 : ¬ ((n : Int) < 0) := by omega
    have h2 : ¬ ((281474976710656 : Int) < (n : Int) * ↑i.bytes) := by
      have : ((n * i.bytes : Nat) : Int) = (n : Int) * ↑i.bytes := by push_cast; rfl
      omega
    by_cases h0 : n = 0
    · have hnil : news = [] := by rw [hnews, h0]; rfl
      subst hnil
      have hw0 : IntKind.i64.wrap 0 = 0 := by have := wrap_small (n := 0) (by decide); simpa using this
      subst h0
      simp at hroom
      simp [Builtin.append_, run_underlying ht, run_underlying hk, sizeOf, typeInfo, hi, asInt, asIntOf, hw0, hroom, storeCells, World.setCells]
    · have h3 : ¬ (n * i.size = 0) := fun h => by rcases Nat.mul_eq_zero.1 h with h | h <;> omega
      simp only [hnews] at hst ⊢
      simp [Builtin.append_, run_underlying ht, run_underlying hk, sizeOf, typeInfo, zeroValue, hi, hz, asInt, asIntOf, wrap_small hn, h1, h2, h3, hroom, zeroCells_eq, Addr.add_lit, hst]

theorem run_append_grow_x (t tx ty e : TypeId) (i : TypeInfo) (z : Value) (ht : P.underlying t = some (.slice e)) (hi : P.info? e = some i) (hz : i.zero = some z) (base : Option Addr) (sLen sCap : Nat) (olds : List Value)
    (hold : (Builtin.firstCells i.size sLen (.slice base sLen sCap)).run P w.drew = .ok olds.toArray w.drew) (x : Value) (n : Nat) (news : List Value) (hs : SrcX P i.size tx e x n news w)
    (hg : sCap < sLen + n) (h63 : ((sLen + n : Nat) : Int) ≤ 9223372036854775807) (hfit : Builtin.nextslicecap (sLen + n) sCap * i.bytes ≤ 281474976710656) :
    (Builtin.append_ #[t, tx] ty #[.slice base sLen sCap, x]).run P w =
      .ok (.slice (some ⟨w.heap.size, 0, none⟩) (sLen + n) (grownCap w (sLen + n) sCap e))
        (w.drew.alloc (.cells ((olds ++ news).toArray ++ Builtin.zeroCells z.cells (grownCap w (sLen + n) sCap e - (sLen + n))) e)) := by
  rcases hs.src with h | ⟨⟨k, hk⟩, rfl, hn, _, i', z', hi', hsz, hz', hb, hnews, hzs, hpos⟩
  · exact run_append_grow_src w t tx ty e i z ht hi hz base sLen sCap olds hold x n news h hg h63 hfit
  · rw [hi] at hi'; cases hi'
    rw [hz] at hz'; cases hz'
    have h1 : ¬ ((n : Int) < 0) := by omega
    have h2 : ¬ ((281474976710656 : Int) < (n : Int) * ↑i.bytes) := by
      have : ((n * i.bytes : Nat) : Int) = (n : Int) * ↑i.bytes := by push_cast; rfl
      omega
    have hn0 : ¬ (sLen + n ≤ sCap) := by omega
    have h63' : ¬ (9223372036854775807 < ((sLen : Int) + (n : Int))) := by omega
    have h48' : ¬ (281474976710656 < Builtin.nextslicecap (sLen + n) sCap * i.bytes) := by omega
    by_cases h0 : n = 0
    · have hnil : news = [] := by rw [hnews, h0]; rfl
      subst hnil
      have hw0 : IntKind.i64.wrap 0 = 0 := by have := wrap_small (n := 0) (by decide); simpa using this
      subst h0
      simp only [Nat.add_zero] at hn0 h48' ⊢
      simp only [Int.natCast_zero, Int.add_zero] at h63'
      simp [Builtin.append_, run_underlying ht, run_underlying hk, sizeOf, typeInfo, zeroValue, hi, hz, asInt, asIntOf, hw0, hn0, h63', h48', Question.forced, hold, newRow, grownCap]
    · have h3 : ¬ (n * i.size = 0) := fun h => by rcases Nat.mul_eq_zero.1 h with h | h <;> omega
      simp [Builtin.append_, run_underlying ht, run_underlying hk, sizeOf, typeInfo, zeroValue, hi, hz, asInt, asIntOf, wrap_small hn, h1, h2, h3, hn0, h63', h48', Question.forced, hold, newRow, grownCap, zeroCells_eq, hnews]
end
end Go.Cl
