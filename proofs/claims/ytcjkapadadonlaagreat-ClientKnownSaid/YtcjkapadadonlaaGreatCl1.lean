/-
  A clean layer over the model: values as trees, what they stand for in memory.
-/
import Derived.WalkKit
import Derived.WalkLawsBesides
import Derived.Deep.MidRow
import Derived.Deep.AppendSrc
import Derived.Deep.AppendLies
import Derived.Defers
import Derived.Deep.Quiet
import Derived.KernelRfl
set_option linter.unusedSimpArgs false
set_option linter.unusedVariables false
namespace Go.Cl
open Go.RowKit

inductive Tail where
  | nil
  | view
  | part
  | exact
  | own (id : Nat)

/-- Clean values. -/
inductive CV where
  | sc (v : Value)
  | agg (l : List CV)
  | tup (l : List CV)
  | lst (t : Tail) (l : List CV)
  | slc (id : Nat) (path : List Nat) (off len : Nat)
  | ptr (id : Nat) (path : List Nat)
  | rptr (v : CV)
  | mapr (id : Nat)
  | fn (f : FuncId) (first captured : List CV)
  | ifc (t : TypeId) (v : CV)

instance : Inhabited CV := ⟨.tup []⟩

inductive Shape where
  | s
  | t
  | n (l : List Shape)

mutual
def Shape.size : Shape → Nat
  | .s => 1
  | .t => 1
  | .n l => Shape.sizes l
def Shape.sizes : List Shape → Nat
  | [] => 0
  | x :: l => x.size + Shape.sizes l
end

mutual
def CV.shape : CV → Shape
  | .agg l => .n (CV.shapes l)
  | .tup _ => .t
  | .sc _ | .lst _ _ | .slc _ _ _ _ | .ptr _ _ | .rptr _ | .mapr _ | .fn _ _ _ | .ifc _ _ => .s
def CV.shapes : List CV → List Shape
  | [] => []
  | x :: l => x.shape :: CV.shapes l
end

theorem CV.shapes_eq : ∀ l : List CV, CV.shapes l = l.map CV.shape
  | [] => rfl
  | x :: l => by simp [CV.shapes, CV.shapes_eq l]
theorem Shape.sizes_eq : ∀ l : List Shape, Shape.sizes l = (l.map Shape.size).sum
  | [] => rfl
  | x :: l => by simp [Shape.sizes, Shape.sizes_eq l]

/-- How many cells. -/
def CV.size (v : CV) : Nat := v.shape.size

def CV.isAgg : CV → Bool
  | .agg _ => true
  | _ => false

mutual
def Shape.dec : (a b : Shape) → Decidable (a = b)
  | .s, .s => isTrue rfl
  | .t, .t => isTrue rfl
  | .s, .t => isFalse (by simp)
  | .t, .s => isFalse (by simp)
  | .s, .n _ => isFalse (by simp)
  | .n _, .s => isFalse (by simp)
  | .t, .n _ => isFalse (by simp)
  | .n _, .t => isFalse (by simp)
  | .n l, .n m => match Shape.decs l m with
    | isTrue h => isTrue (by rw [h])
    | isFalse h => isFalse (by simpa using h)
def Shape.decs : (a b : List Shape) → Decidable (a = b)
  | [], [] => isTrue rfl
  | [], _ :: _ => isFalse (by simp)
  | _ :: _, [] => isFalse (by simp)
  | x :: l, y :: m => match Shape.dec x y, Shape.decs l m with
    | isTrue h, isTrue k => isTrue (by rw [h, k])
    | isFalse h, _ => isFalse (fun e => h (List.cons.inj e).1)
    | _, isFalse k => isFalse (fun e => k (List.cons.inj e).2)
end
instance : DecidableEq Shape := Shape.dec

/-- Where a path leads, in cells. -/
def Shape.off : Shape → List Nat → Option Nat
  | _, [] => some 0
  | .n l, i :: p => match l[i]? with
    | some x => (x.off p).map (Shape.sizes (l.take i) + ·)
    | none => none
  | .s, _ :: _ => none
  | .t, _ :: _ => none

mutual
/-- No tuple among the cells. -/
def Shape.good : Shape → Bool
  | .s => true
  | .t => false
  | .n l => Shape.goods l
def Shape.goods : List Shape → Bool
  | [] => true
  | x :: l => x.good && Shape.goods l
end

def Shape.sub : Shape → List Nat → Option Shape
  | x, [] => some x
  | .n l, i :: p => match l[i]? with
    | some x => x.sub p
    | none => none
  | .s, _ :: _ => none
  | .t, _ :: _ => none

def CV.at : CV → List Nat → Option CV
  | v, [] => some v
  | .agg l, i :: p => match l[i]? with
    | some x => x.at p
    | none => none
  | _, _ :: _ => none

def CV.set : CV → List Nat → CV → CV
  | _, [], x => x
  | .agg l, i :: p, x => match l[i]? with
    | some y => .agg (l.set i (y.set p x))
    | none => .agg l
  | v, _ :: _, _ => v

def plain : Value → Bool
  | .bool _ | .int _ _ | .float _ _ | .string _ | .pointer none | .map none | .chan none | .nilFunc | .nilIface => true
  | _ => false

inductive Loc where
  | var (rb : Nat) (sh : Shape) (tot : Nat)
  | tail (rb cap sz : Nat)
  | map (rb : Nat)

def Loc.block : Loc → Nat
  | .var rb _ _ | .tail rb _ _ | .map rb => rb

/-- What is known of memory: constant cells, where the named objects lie, how many names there were. -/
structure St where
  K : Nat → Nat → Option Value
  μ : Nat → Option Loc
  n : Nat

structure St.le (S S' : St) : Prop where
  K : ∀ b o v, S.K b o = some v → S'.K b o = some v
  μ : ∀ i l, S.μ i = some l → S'.μ i = some l
  n : S.n ≤ S'.n
theorem St.le.refl (S : St) : S.le S := ⟨fun _ _ _ h => h, fun _ _ h => h, Nat.le_refl _⟩
theorem St.le.trans {a b c : St} (h : a.le b) (k : b.le c) : a.le c :=
  ⟨fun _ _ _ x => k.K _ _ _ (h.K _ _ _ x), fun _ _ x => k.μ _ _ (h.μ _ _ x), Nat.le_trans h.n k.n⟩

def St.lies (S : St) (b o : Nat) (cs : List Value) : Prop := ∀ j u, cs[j]? = some u → S.K b (o + j) = some u

/-- May the slice be nil? -/
def Tail.mayNil : Tail → Bool
  | .nil | .view => true
  | .part | .exact | .own _ => false

def Tail.fits (S : St) (b off len cap sz : Nat) : Tail → Prop
  | .nil => False
  | .view => True
  | .part => True
  | .exact => cap = len
  | .own id => S.μ id = some (.tail b cap sz) ∧ off = 0

mutual
/-- The cells that a clean value stands for. -/
def FR (S : St) : CV → List Value → Prop
  | .sc v, cs => cs = [v] ∧ plain v = true
  | .agg l, cs => FRs S l cs
  | .tup l, cs => ∃ vs : List Value, cs = [.tuple vs.toArray] ∧ VRs S l vs
  | .lst t l, cs => (l = [] ∧ t.mayNil = true ∧ cs = [.slice none 0 0]) ∨
      ∃ b off cap sz es, cs = [.slice (some ⟨b, off, none⟩) l.length cap] ∧ l.length ≤ cap ∧ FRs S l es ∧ S.lies b off es ∧ (∀ x ∈ l, x.size = sz) ∧ t.fits S b off l.length cap sz
  | .slc id path off len, cs => ∃ rb sh l o cap, cs = [.slice (some ⟨rb, o + Shape.sizes (l.take off), none⟩) len cap] ∧ (∃ tot, S.μ id = some (.var rb sh tot) ∧ (path = [] → off = 0 → l.length ≤ cap ∧ ∃ sz, (∀ x ∈ l, x.size = sz) ∧ cap * sz ≤ tot)) ∧ sh.sub path = some (.n l) ∧ sh.off path = some o ∧ len ≤ cap ∧ off + len ≤ l.length
  | .ptr id path, cs => ∃ rb sh o, cs = [.pointer (some ⟨rb, o, none⟩)] ∧ (∃ tot, S.μ id = some (.var rb sh tot)) ∧ sh.off path = some o
  | .rptr v, cs => ∃ b o es, cs = [.pointer (some ⟨b, o, none⟩)] ∧ FR S v es ∧ S.lies b o es
  | .mapr id, cs => ∃ rb, cs = [.map (some rb)] ∧ S.μ id = some (.map rb)
  | .fn f k l, cs => ∃ us vs : List Value, cs = [.func (.func f) us.toArray vs.toArray] ∧ VRs S k us ∧ VRs S l vs
  | .ifc t v, cs => ∃ x : Value, cs = [.iface t x] ∧ FR S v x.cells.toList ∧ ((∃ c, x = .agg c) ↔ v.isAgg = true)
def FRs (S : St) : List CV → List Value → Prop
  | [], cs => cs = []
  | v :: l, cs => ∃ c ds, cs = c ++ ds ∧ FR S v c ∧ FRs S l ds
def VRs (S : St) : List CV → List Value → Prop
  | [], vs => vs = []
  | v :: l, vs => ∃ x xs, vs = x :: xs ∧ (FR S v x.cells.toList ∧ ((∃ c, x = .agg c) ↔ v.isAgg = true)) ∧ VRs S l xs
end

/-- The value that a clean value stands for. -/
def VR (S : St) (v : CV) (x : Value) : Prop := FR S v x.cells.toList ∧ ((∃ c, x = .agg c) ↔ v.isAgg = true)

theorem Tail.fits_mono {S S' : St} (h : S.le S') {b off len cap sz : Nat} : ∀ {t : Tail}, t.fits S b off len cap sz → t.fits S' b off len cap sz
  | .nil, k => k
  | .view, _ => trivial
  | .part, _ => trivial
  | .exact, k => k
  | .own _, k => ⟨h.μ _ _ k.1, k.2⟩

theorem St.lies_mono {S S' : St} (h : S.le S') {b o : Nat} {cs : List Value} (k : S.lies b o cs) : S'.lies b o cs := fun j u hu => h.K _ _ _ (k j u hu)

mutual
theorem FR.mono {S S' : St} (h : S.le S') : ∀ (v : CV) (cs : List Value), FR S v cs → FR S' v cs
  | .sc _, _, k => by simp only [FR] at *; exact k
  | .agg l, cs, k => by simp only [FR] at *; exact FRs.mono h l cs k
  | .tup l, _, k => by simp only [FR] at *; obtain ⟨vs, e, k⟩ := k; exact ⟨vs, e, VRs.mono h l vs k⟩
  | .lst t l, _, k => by
    simp only [FR] at *
    rcases k with k | ⟨b, off, cap, sz, es, e, h1, h2, h3, h4, h5⟩
    · exact .inl k
    · exact .inr ⟨b, off, cap, sz, es, e, h1, FRs.mono h l es h2, St.lies_mono h h3, h4, Tail.fits_mono h h5⟩
  | .slc _ _ _ _, _, k => by simp only [FR] at *; obtain ⟨rb, sh, l, o, cap, e, ⟨tot, k1, k3⟩, k2⟩ := k; exact ⟨rb, sh, l, o, cap, e, ⟨tot, h.μ _ _ k1, k3⟩, k2⟩
  | .ptr _ _, _, k => by simp only [FR] at *; obtain ⟨rb, sh, o, e, ⟨tot, k1⟩, k2⟩ := k; exact ⟨rb, sh, o, e, ⟨tot, h.μ _ _ k1⟩, k2⟩
  | .rptr v, _, k => by simp only [FR] at *; obtain ⟨b, o, es, e, k1, k2⟩ := k; exact ⟨b, o, es, e, FR.mono h v es k1, St.lies_mono h k2⟩
  | .mapr _, _, k => by simp only [FR] at *; obtain ⟨rb, e, k1⟩ := k; exact ⟨rb, e, h.μ _ _ k1⟩
  | .fn _ k0 l, _, k => by simp only [FR] at *; obtain ⟨us, vs, e, k1, k⟩ := k; exact ⟨us, vs, e, VRs.mono h k0 us k1, VRs.mono h l vs k⟩
  | .ifc _ v, _, k => by simp only [FR] at *; obtain ⟨x, e, k, k2⟩ := k; exact ⟨x, e, FR.mono h v _ k, k2⟩
theorem FRs.mono {S S' : St} (h : S.le S') : ∀ (l : List CV) (cs : List Value), FRs S l cs → FRs S' l cs
  | [], _, k => by simp only [FRs] at *; exact k
  | v :: l, _, k => by simp only [FRs] at *; obtain ⟨c, ds, e, k1, k2⟩ := k; exact ⟨c, ds, e, FR.mono h v c k1, FRs.mono h l ds k2⟩
theorem VRs.mono {S S' : St} (h : S.le S') : ∀ (l : List CV) (vs : List Value), VRs S l vs → VRs S' l vs
  | [], _, k => by simp only [VRs] at *; exact k
  | v :: l, _, k => by simp only [VRs] at *; obtain ⟨x, xs, e, ⟨k1, k2⟩, k3⟩ := k; exact ⟨x, xs, e, ⟨FR.mono h v _ k1, k2⟩, VRs.mono h l xs k3⟩
end

theorem VR.mono {S S' : St} (h : S.le S') {v : CV} {x : Value} (k : VR S v x) : VR S' v x := ⟨FR.mono h v _ k.1, k.2⟩

theorem VRs_cons {S : St} {v : CV} {l : List CV} {x : Value} {xs : List Value} : VRs S (v :: l) (x :: xs) ↔ VR S v x ∧ VRs S l xs := by
  simp only [VRs, VR]
  constructor
  · rintro ⟨y, ys, e, h1, h2⟩; cases e; exact ⟨h1, h2⟩
  · rintro ⟨h1, h2⟩; exact ⟨x, xs, rfl, h1, h2⟩

mutual
theorem FR.length {S : St} : ∀ (v : CV) (cs : List Value), FR S v cs → cs.length = v.size
  | .sc _, _, k => by simp only [FR] at k; simp [k.1, CV.size, CV.shape, Shape.size]
  | .agg l, cs, k => by simp only [FR] at k; simpa [CV.size, CV.shape, Shape.size] using FRs.length l cs k
  | .tup l, _, k => by simp only [FR] at k; obtain ⟨vs, e, k⟩ := k; simp [e, CV.size, CV.shape, Shape.size]
  | .lst t l, _, k => by
    simp only [FR] at k
    rcases k with k | ⟨b, off, cap, sz, es, e, _⟩
    · simp [k.2, CV.size, CV.shape, Shape.size]
    · simp [e, CV.size, CV.shape, Shape.size]
  | .slc _ _ _ _, _, k => by simp only [FR] at k; obtain ⟨rb, sh, l, o, cap, e, _⟩ := k; simp [e, CV.size, CV.shape, Shape.size]
  | .ptr _ _, _, k => by simp only [FR] at k; obtain ⟨rb, sh, o, e, _⟩ := k; simp [e, CV.size, CV.shape, Shape.size]
  | .rptr v, _, k => by simp only [FR] at k; obtain ⟨b, o, es, e, _⟩ := k; simp [e, CV.size, CV.shape, Shape.size]
  | .mapr _, _, k => by simp only [FR] at k; obtain ⟨rb, e, _⟩ := k; simp [e, CV.size, CV.shape, Shape.size]
  | .fn _ _ l, _, k => by simp only [FR] at k; obtain ⟨us, vs, e, k⟩ := k; simp [e, CV.size, CV.shape, Shape.size]
  | .ifc _ v, _, k => by simp only [FR] at k; obtain ⟨x, e, k, k2⟩ := k; simp [e, CV.size, CV.shape, Shape.size]
theorem FRs.length {S : St} : ∀ (l : List CV) (cs : List Value), FRs S l cs → cs.length = Shape.sizes (CV.shapes l)
  | [], _, k => by simp only [FRs] at k; simp [k, CV.shapes, Shape.sizes]
  | v :: l, _, k => by
    simp only [FRs] at k
    obtain ⟨c, ds, e, k1, k2⟩ := k
    have h1 := FR.length v c k1
    have h2 := FRs.length l ds k2
    simp only [CV.size] at h1
    simp [e, CV.shapes, Shape.sizes, h1, h2]
end

theorem one_of_plain {v : Value} (h : plain v = true) : v.oneCell' = true := by cases v <;> simp [plain, Value.oneCell'] at h ⊢

mutual
theorem FR.one {S : St} : ∀ (v : CV) (cs : List Value), FR S v cs → v.shape.good = true → ∀ u ∈ cs, u.oneCell' = true
  | .sc _, _, k, _ => by simp only [FR] at k; rw [k.1]; simpa using one_of_plain k.2
  | .agg l, cs, k, g => by simp only [FR] at k; exact FRs.one l cs k (by simpa [CV.shape, Shape.good] using g)
  | .tup l, _, _, g => by simp [CV.shape, Shape.good] at g
  | .lst t l, _, k, _ => by
    simp only [FR] at k
    rcases k with k | ⟨b, off, cap, sz, es, e, _⟩
    · simp [k.2, Value.oneCell']
    · simp [e, Value.oneCell']
  | .slc _ _ _ _, _, k, _ => by simp only [FR] at k; obtain ⟨rb, sh, l, o, cap, e, _⟩ := k; simp [e, Value.oneCell']
  | .ptr _ _, _, k, _ => by simp only [FR] at k; obtain ⟨rb, sh, o, e, _⟩ := k; simp [e, Value.oneCell']
  | .rptr v, _, k, _ => by simp only [FR] at k; obtain ⟨b, o, es, e, _⟩ := k; simp [e, Value.oneCell']
  | .mapr _, _, k, _ => by simp only [FR] at k; obtain ⟨rb, e, _⟩ := k; simp [e, Value.oneCell']
  | .fn _ _ l, _, k, _ => by simp only [FR] at k; obtain ⟨us, vs, e, k⟩ := k; simp [e, Value.oneCell']
  | .ifc _ v, _, k, _ => by simp only [FR] at k; obtain ⟨x, e, k, k2⟩ := k; simp [e, Value.oneCell']
theorem FRs.one {S : St} : ∀ (l : List CV) (cs : List Value), FRs S l cs → Shape.goods (CV.shapes l) = true → ∀ u ∈ cs, u.oneCell' = true
  | [], _, k, _ => by simp only [FRs] at k; simp [k]
  | v :: l, _, k, g => by
    simp only [FRs] at k
    simp only [CV.shapes, Shape.goods, Bool.and_eq_true] at g
    obtain ⟨c, ds, e, k1, k2⟩ := k
    subst e
    intro u hu
    rcases List.mem_append.1 hu with hu | hu
    · exact FR.one v c k1 g.1 u hu
    · exact FRs.one l ds k2 g.2 u hu
end

/-- One of a list's values. -/
theorem FRs.focus {S : St} : ∀ (l : List CV) (cs : List Value) (i : Nat) (x : CV), FRs S l cs → l[i]? = some x →
    ∃ pre c post, cs = pre ++ c ++ post ∧ pre.length = Shape.sizes ((CV.shapes l).take i) ∧ FR S x c ∧ ∀ (S' : St) y c', S.le S' → FR S' y c' → FRs S' (l.set i y) (pre ++ c' ++ post)
  | [], _, _, _, _, hi => by simp at hi
  | v :: l, cs, 0, x, k, hi => by
    simp only [FRs] at k
    obtain ⟨c, ds, rfl, k1, k2⟩ := k
    simp at hi
    subst hi
    refine ⟨[], c, ds, by simp, by simp [Shape.sizes], k1, fun S' y c' hS h => ?_⟩
    simp only [List.set_cons_zero, FRs, List.nil_append]
    exact ⟨c', ds, rfl, h, FRs.mono hS _ _ k2⟩
  | v :: l, cs, i + 1, x, k, hi => by
    simp only [FRs] at k
    obtain ⟨c, ds, rfl, k1, k2⟩ := k
    obtain ⟨pre, c0, post, rfl, hp, hx, hs⟩ := FRs.focus l ds i x k2 (by simpa using hi)
    have hl := FR.length v c k1
    refine ⟨c ++ pre, c0, post, by simp, ?_, hx, fun S' y c' hS h => ?_⟩
    · simp only [CV.size] at hl
      simp [CV.shapes, Shape.sizes, hp, hl]
    · simp only [List.set_cons_succ, FRs]
      exact ⟨c, pre ++ c' ++ post, by simp, FR.mono hS _ _ k1, hs S' y c' hS h⟩

/-- What lies at a path. -/
theorem FR.focus {S : St} : ∀ (p : List Nat) (v : CV) (cs : List Value) (x : CV), FR S v cs → v.at p = some x →
    ∃ pre c post, cs = pre ++ c ++ post ∧ v.shape.off p = some pre.length ∧ FR S x c ∧ ∀ (S' : St) y c', S.le S' → FR S' y c' → FR S' (v.set p y) (pre ++ c' ++ post)
  | [], v, cs, x, k, hx => by
    simp [CV.at] at hx
    subst hx
    exact ⟨[], cs, [], by simp, by cases v <;> simp [Shape.off], k, fun S' y c' _ h => by simpa [CV.set] using h⟩
  | i :: p, v, cs, x, k, hx => by
    cases v <;> simp only [CV.at] at hx <;> try (exact absurd hx (by simp))
    rename_i l
    cases hl : l[i]? with
    | none => simp [hl] at hx
    | some y =>
      simp [hl] at hx
      simp only [FR] at k
      obtain ⟨pre, c, post, rfl, hp, hy, hs⟩ := FRs.focus l cs i y k hl
      obtain ⟨pre2, c2, post2, rfl, hp2, hx2, hs2⟩ := FR.focus p y c x hy hx
      refine ⟨pre ++ pre2, c2, post2 ++ post, by simp, ?_, hx2, fun S' z c' hS h => ?_⟩
      · simp only [CV.shape, Shape.off]
        rw [CV.shapes_eq] at *
        simp [hl, hp2, hp]
      · simp only [CV.set, hl, FR]
        have := hs S' (y.set p z) (pre2 ++ c' ++ post2) hS (hs2 S' z c' hS h)
        simpa using this

theorem CV.shape_set : ∀ (p : List Nat) (v x y : CV), v.at p = some x → y.shape = x.shape → (v.set p y).shape = v.shape
  | [], v, x, y, hx, h => by simp [CV.at] at hx; subst hx; simpa [CV.set] using h
  | i :: p, v, x, y, hx, h => by
    cases v <;> simp only [CV.at] at hx <;> try (exact absurd hx (by simp))
    rename_i l
    cases hl : l[i]? with
    | none => simp [hl] at hx
    | some z =>
      simp [hl] at hx
      have := CV.shape_set p z x y hx h
      simp only [CV.set, hl, CV.shape, CV.shapes_eq]
      congr 1
      rw [List.map_set, this]
      apply List.ext_getElem?
      intro j
      by_cases hj : i = j
      · subst hj
        have : i < (l.map CV.shape).length := by
          have := (List.getElem?_eq_some_iff.1 hl).1
          simpa using this
        simp [List.getElem?_set, hl]
        simpa using this
      · simp [hj]
end Go.Cl
