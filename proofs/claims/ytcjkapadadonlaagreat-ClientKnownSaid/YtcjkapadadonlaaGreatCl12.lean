/-
  append: the list that is handed back, and who may grow it in place.
-/
import Derived.Test.YtcjkapadadonlaaGreatCl9
set_option linter.unusedSimpArgs false
set_option linter.unusedVariables false
namespace Go.Cl
open Go.RowKit

structure St.ext (S S' : St) : Prop where
  le : S.le S'
  ph : ∀ i, i < S.n → S.μ i = none → S'.μ i = none
theorem St.ext.refl (S : St) : S.ext S := ⟨St.le.refl S, fun _ _ h => h⟩
theorem St.ext.trans {a b c : St} (h : a.ext b) (k : b.ext c) : a.ext c :=
  ⟨h.le.trans k.le, fun i hi h0 => k.ph i (Nat.lt_of_lt_of_le hi h.le.n) (h.ph i hi h0)⟩
theorem St.ext_named {S : St} {i : Nat} {l : Loc} (hi : S.n ≤ i) (h0 : S.μ i = none) : S.ext (S.named i l) :=
  ⟨St.le_named h0, fun j hj hn => by
    show (if j = i then some l else S.μ j) = none
    rw [if_neg (by omega)]; exact hn⟩

/-- What is known now of the cells of one block from an offset on. -/
def St.grow (S : St) (b o : Nat) (cs : List Value) : St := { S with K := fun b' j => if b' = b ∧ o ≤ j ∧ j < o + cs.length then cs[j - o]? else S.K b' j }
theorem St.le_grow {S : St} {b o : Nat} {cs : List Value} (h : ∀ j, o ≤ j → S.K b j = none) : S.le (S.grow b o cs) where
  K b' j v hk := by
    show (if b' = b ∧ o ≤ j ∧ j < o + cs.length then cs[j - o]? else S.K b' j) = some v
    rw [if_neg (fun ⟨h1, h2, _⟩ => by rw [h1, h j h2] at hk; cases hk)]; exact hk
  μ _ _ h := h
  n := Nat.le_refl _
theorem St.grow_lies {S : St} {b o : Nat} {cs : List Value} : (S.grow b o cs).lies b o cs := fun j u hu => by
  have hj := (List.getElem?_eq_some_iff.1 hu).1
  show (if b = b ∧ o ≤ o + j ∧ o + j < o + cs.length then cs[o + j - o]? else S.K b (o + j)) = some u
  rw [if_pos ⟨rfl, by omega, by omega⟩, Nat.add_sub_cancel_left]; exact hu

theorem lies_append {S : St} {b o : Nat} {xs ys : List Value} (h : S.lies b o xs) (k : S.lies b (o + xs.length) ys) : S.lies b o (xs ++ ys) := fun j u hu => by
  by_cases hj : j < xs.length
  · rw [List.getElem?_append_left hj] at hu; exact h j u hu
  · rw [List.getElem?_append_right (by omega)] at hu
    have := k (j - xs.length) u hu
    rw [← this]; congr 1; omega

section ops
variable (C : Ctx)

/-- The elements that a slice or a string hands to append. -/
def srcOf (h : Heap) (t : TypeId) (x : CV) : Option (List CV) :=
  match C.tt t, x with
  | some ⟨.base (.slice _), _, _, _⟩, .lst _ l => some l
  | some ⟨.base .string, _, _, _⟩, .sc (.string s) => some (s.data.toList.map fun b => .sc (.int .u8 b.toNat))
  | some ⟨.base (.slice _), _, _, _⟩, .slc i p o n =>
    match tgt h (.ptr i p) with
    | some (.agg l) => if o + n ≤ l.length then some ((l.drop o).take n) else none
    | _ => none
  | _, _ => none

theorem FRs_map_bytes {S : St} : ∀ (l : List UInt8), FRs S (l.map fun b => .sc (.int .u8 b.toNat)) (l.map fun b => Value.int .u8 b.toNat)
  | [] => by simp [FRs]
  | b :: l => by simp only [List.map_cons, FRs]; exact ⟨[_], _, rfl, by simp [FR, plain], FRs_map_bytes l⟩

theorem sizes_all {sh : Shape} : ∀ (l : List CV), (∀ x ∈ l, x.shape = sh) → Shape.sizes (CV.shapes l) = l.length * sh.size
  | [], _ => by simp [CV.shapes, Shape.sizes]
  | x :: l, h => by simp [CV.shapes, Shape.sizes, h x (by simp), sizes_all l (fun y hy => h y (by simp [hy])), Nat.succ_mul, Nat.add_comm]
theorem goods_all {sh : Shape} (hg : sh.good = true) : ∀ (l : List CV), (∀ x ∈ l, x.shape = sh) → Shape.goods (CV.shapes l) = true
  | [], _ => by simp [CV.shapes, Shape.goods]
  | x :: l, h => by simp [CV.shapes, Shape.goods, h x (by simp), hg, goods_all hg l (fun y hy => h y (by simp [hy]))]

/-- What append takes from its second argument, in the model. -/
theorem src_sound {w0 : World} {B : Nat} {S : St} {h : Heap} {w : World} (r : R w0 B S h w) {t : TypeId} {x : CV} {y : Value} {xs : List CV} {te : TI} (hte : te.sh.good = true) (hx : VR S x y) (hs : srcOf C h t x = some xs) (hsh : ∀ v ∈ xs, v.shape = te.sh) :
    ∃ news, FRs S xs news ∧ Src C.P te.sh.size t y xs.length news w := by
  unfold srcOf at hs
  have hlen : ∀ news, FRs S xs news → news.length = xs.length * te.sh.size := fun news hn => by rw [FRs.length _ _ hn, sizes_all _ hsh]
  have hone : ∀ news, FRs S xs news → ∀ u ∈ news, u.oneCell' = true := fun news hn => FRs.one _ _ hn (goods_all hte _ hsh)
  split at hs <;> try (cases hs; done)
  · rename_i e sh by_ ze tl l h1
    cases hs
    have hu := (C.htt _ _ h1).d.1
    rw [VR_nonagg rfl] at hx; simp only [FR] at hx
    obtain ⟨hx, _⟩ := hx
    rcases hx with ⟨rfl, _, hx⟩ | ⟨b, off, cap, sz, es, hx, hcap, hes, hlies, hun, _⟩
    · have hxe := (List.cons.inj hx).1
      refine ⟨[], by simp [FRs], ?_⟩
      rw [hxe]; exact Src.ofNil w hu 0
    · have hxe := (List.cons.inj hx).1
      refine ⟨es, hes, ?_⟩
      rw [hxe]
      exact Src.ofSlice w hu ⟨b, off, none⟩ _ cap es (hlen es hes) (fun j u hj => by rw [Addr.add_mid]; exact r.lies hlies j u hj) (hone es hes)
  · rename_i sh by_ ze s h1
    cases hs
    have hu := (C.htt _ _ h1).d.1
    obtain ⟨rfl, _⟩ := VR_sc.1 hx
    have hF := FRs_map_bytes (S := S) s.data.toList
    refine ⟨byteCells s, hF, ?_⟩
    have := Src.ofString (P := C.P) w hu s
    by_cases hnil : s.data.toList = []
    · -- no byte: the size of an element is not asked
      have hs0 : s.size = 0 := by
        have : s.data.size = 0 := by rw [← Array.length_toList, hnil]; rfl
        exact this
      obtain ⟨k1, k2, k3, k4, k5, k6⟩ := this
      have hb : byteCells s = [] := by simp [byteCells, hnil]
      refine ⟨k1, fun w' => by rw [k2 w']; simp [hnil, hs0], ?_, ?_, by simp [hnil, hb], by simp [hb]⟩
      · simp [Builtin.firstCells, hnil, hb]
      · simp [Builtin.firstCells, hnil, hb]
    · have hsz : te.sh.size = 1 := by
        cases hd : s.data.toList with
        | nil => exact absurd hd hnil
        | cons b l =>
          have := hsh (.sc (.int .u8 b.toNat)) (by simp [hd])
          rw [← this]; rfl
      rw [hsz]
      have hl : (s.data.toList.map fun b => (CV.sc (.int .u8 b.toNat))).length = s.size := by simp
      rw [hl]; exact this
  · rename_i e sh by_ ze i p o n h1
    split at hs <;> try (cases hs; done)
    rename_i l h2
    split at hs <;> try (cases hs; done)
    rename_i hon
    cases hs
    have hu := (C.htt _ _ h1).d.1
    rw [VR_nonagg rfl] at hx; simp only [FR] at hx
    obtain ⟨⟨rb, sh0, l0, o0, cap, hx, ⟨tot, hμ, _⟩, hsub0, ho, hcap, hol⟩, _⟩ := hx
    have hxe := (List.cons.inj hx).1
    simp only [tgt] at h2
    cases hi : h i with
    | none => simp [hi] at h2
    | some obj =>
      cases obj <;> simp [hi] at h2
      obtain ⟨c, hc, hr⟩ := r.load hi hμ h2 ho
      simp only [FR] at hc
      have hl0 := (r.live i _ _ hi hμ).1.1
      have hsub := CV.sub_at p _ _ h2
      rw [hl0, hsub0] at hsub
      simp only [CV.shape, Option.some.injEq, Shape.n.injEq] at hsub
      obtain ⟨a, b, rfl, h3, h4, h5⟩ := FRs_split l o c hc
      obtain ⟨a2, b2, rfl, h6, h7, h8⟩ := FRs_split (l.drop o) n b h4
      have hlen' : ((l.drop o).take n).length = n := by simp; omega
      refine ⟨a2, h6, ?_⟩
      rw [hxe, hlen']
      subst hsub
      refine Src.ofSlice w hu _ n cap a2 (by rw [hlen a2 h6, hlen']) (fun j u hj => ?_) (hone a2 h6)
      rw [Addr.add_mid]
      have := hr (a.length + j) u (by
        rw [List.getElem?_append_right (by omega), Nat.add_sub_cancel_left, List.getElem?_append_left (by have := (List.getElem?_eq_some_iff.1 hj).1; omega)]
        exact hj)
      rw [← this, h5, Nat.add_assoc]

end ops
end Go.Cl
