/-
  An interpreter over clean values: loads, addresses, stores; how an operation goes.
-/
import Derived.Test.YtcjkapadadonlaaGreatY1
import Derived.Deep.Upon
set_option linter.unusedSimpArgs false
set_option linter.unusedVariables false
namespace Go.Cl
open Go.RowKit

/-- The heap that the interpreter holds is the model's. -/
structure XRel (w0 : World) (B : Nat) (S : St) (p : Hp) (w : World) : Prop where
  r : R w0 B S p.h w
  n : S.n = p.n
  good : p.good

inductive XRes where
  | ret (v : CV) (p : Hp)
  | pan (v : CV) (p : Hp)
  | stuck

def ofOpt (p : Hp) : Option CV → XRes
  | some v => .ret v p
  | none => .stuck

def subEq (sh : Shape) (q : List Nat) (sh' : Shape) : Bool :=
  match sh.sub q with
  | some sq => decide (sq = sh')
  | none => false
theorem subEq_spec {sh : Shape} {q : List Nat} {sh' : Shape} (h : subEq sh q sh' = true) : sh.sub q = some sh' := by
  unfold subEq at h
  split at h
  · rename_i sq hs; rw [hs, of_decide_eq_true h]
  · cases h

def shOk (v : CV) (sh : Shape) : Bool :=
  match sh with
  | .s => match v with
    | .agg _ => false
    | .tup _ => false
    | _ => true
  | _ => decide (v.shape = sh)
theorem shOk_spec {v : CV} {sh : Shape} (h : shOk v sh = true) : v.shape = sh := by
  unfold shOk at h
  split at h
  · split at h <;> first | cases h | skip
    cases v <;> first | rfl | (rename_i h1 h2; first | exact absurd rfl (h1 _) | exact absurd rfl (h2 _))
  · exact of_decide_eq_true h

/-- What a shape tells of a value. -/
theorem CV.at_sub : ∀ (q : List Nat) (v : CV) (sq : Shape), v.shape.sub q = some sq → ∃ y, v.at q = some y ∧ y.shape = sq
  | [], v, sq, h => by
    have : v.shape = sq := by cases hv : v.shape <;> rw [hv] at h <;> simpa [Shape.sub] using h
    exact ⟨v, by cases v <;> rfl, this⟩
  | i :: q, v, sq, h => by
    cases v <;> simp only [CV.shape, Shape.sub] at h <;> try (cases h; done)
    rename_i l
    rw [CV.shapes_eq] at h
    cases hl : l[i]? with
    | none => simp [hl] at h
    | some x =>
      simp [hl] at h
      obtain ⟨y, h1, h2⟩ := CV.at_sub q x sq h
      exact ⟨y, by simp only [CV.at, hl]; exact h1, h2⟩

theorem agg_of_shape {v : CV} {shs : List Shape} (h : v.shape = .n shs) : ∃ l, v = .agg l ∧ CV.shapes l = shs := by
  cases v <;> simp [CV.shape] at h
  exact ⟨_, rfl, h⟩

def inR (n : Int) (k : Nat) : Bool :=
  match n with
  | .ofNat m => Nat.blt m k
  | .negSucc _ => false
theorem inR_spec {n : Int} {k : Nat} (h : inR n k = true) : 0 ≤ n ∧ n < k ∧ n.toNat < k := by
  cases n with
  | ofNat m =>
    have : m < k := by simpa [inR] using h
    exact ⟨Int.natCast_nonneg m, Int.ofNat_lt.2 this, this⟩
  | negSucc m => cases h

section
variable (C : Ctx)

noncomputable def xload (p : Hp) (t : TypeId) (a : CV) : Option CV :=
  match a with
  | .ptr i q => match p.t.get i with
    | some (.var sh v) => match C.tt t with
      | some ti => bif subEq sh q ti.sh then v.at q else none
      | none => none
    | _ => none
  | .rptr v => match C.tt t with
    | some ti => bif shOk v ti.sh then some v else none
    | none => none
  | _ => none

theorem get_h {p : Hp} {i : Nat} {sh : Shape} {v : CV} (hi : p.t.get i = some (.var sh v)) : p.h i = some (.var v) := by
  simp [Hp.h, hi, XObj.obj]

theorem xload_spec {p : Hp} (hp : p.good) {t : TypeId} {a v : CV} (h : xload C p t a = some v) : qload C p.h t a = some v := by
  unfold xload at h
  split at h
  · rename_i i q
    split at h <;> try (cases h; done)
    rename_i sh u hi
    split at h <;> try (cases h; done)
    rename_i ti ht
    cases hb : subEq sh q ti.sh with
    | false => rw [hb] at h; cases h
    | true =>
      rw [hb] at h
      simp only [cond_true] at h
      have hs := subEq_spec hb
      have hu := hp i sh u hi
      rw [← hu] at hs
      obtain ⟨y, h1, h2⟩ := CV.at_sub _ _ _ hs
      rw [h] at h1; cases h1
      unfold qload
      simp [tgt, get_h hi, h, ht, h2]
  · split at h <;> try (cases h; done)
    rename_i ti ht
    cases hb : shOk _ ti.sh with
    | false => rw [hb] at h; cases h
    | true =>
      rw [hb] at h
      simp only [cond_true, Option.some.injEq] at h
      subst h
      unfold qload
      simp [tgt, ht, shOk_spec hb]
  · cases h

noncomputable def xfieldAddr (p : Hp) (s : TypeId) (a : CV) (f : Nat) : Option CV :=
  match a with
  | .ptr i q => match p.t.get i with
    | some (.var sho _) => match C.tt s with
      | some ⟨.st fs, sh, _, _⟩ => bif subEq sho q sh && Nat.blt f fs.length then some (.ptr i (q ++ [f])) else none
      | _ => none
    | _ => none
  | _ => qfieldAddr C p.h s a f

theorem xfieldAddr_spec {p : Hp} (hp : p.good) {s f : Nat} {a v : CV} (h : xfieldAddr C p s a f = some v) : qfieldAddr C p.h s a f = some v := by
  unfold xfieldAddr at h
  split at h
  · rename_i i q
    split at h <;> try (cases h; done)
    rename_i sho u hi
    split at h <;> try (cases h; done)
    rename_i fs sh by_ ze ht
    cases hb : (subEq sho q sh && Nat.blt f fs.length) with
    | false => rw [hb] at h; cases h
    | true =>
      rw [hb] at h
      simp only [cond_true, Option.some.injEq] at h
      subst h
      rw [Bool.and_eq_true] at hb
      have hs := subEq_spec hb.1
      have hf : f < fs.length := by simpa using hb.2
      have hu := hp i sho u hi
      rw [← hu] at hs
      obtain ⟨y, h1, h2⟩ := CV.at_sub _ _ _ hs
      obtain ⟨flds, shs, _, _, hsn, hlen, _⟩ := (C.htt _ _ ht).d
      simp only at hsn
      rw [hsn] at h2
      obtain ⟨l, rfl, hl⟩ := agg_of_shape h2
      have hfl : f < l.length := by
        have := congrArg List.length hl
        simp [CV.shapes_eq] at this; omega
      unfold qfieldAddr
      simp [ht, tgt, get_h hi, h1, CV.shape, hsn, hl, hfl]
  · exact h

noncomputable def xindexAddr (p : Hp) (t : TypeId) (x i : CV) : Option CV :=
  match x with
  | .ptr j q => match p.t.get j with
    | some (.var sho _) => match C.tt t with
      | some ⟨.ar cnt _ _, sh, _, _⟩ => match i with
        | .sc (.int _ n) => bif inR n cnt && subEq sho q sh then some (.ptr j (q ++ [n.toNat])) else none
        | _ => none
      | _ => none
    | _ => none
  | _ => qindexAddr C p.h t x i

theorem xindexAddr_spec {p : Hp} (hp : p.good) {t : TypeId} {x i v : CV} (h : xindexAddr C p t x i = some v) : qindexAddr C p.h t x i = some v := by
  unfold xindexAddr at h
  split at h
  · rename_i j q
    split at h <;> try (cases h; done)
    rename_i sho u hj
    split at h <;> try (cases h; done)
    rename_i cnt esz e sh by_ ze ht
    split at h <;> try (cases h; done)
    rename_i k n
    cases hb : (inR n cnt && subEq sho q sh) with
    | false => rw [hb] at h; cases h
    | true =>
      rw [hb] at h
      simp only [cond_true, Option.some.injEq] at h
      subst h
      rw [Bool.and_eq_true] at hb
      have hs := subEq_spec hb.2
      obtain ⟨h0, hn, _⟩ := inR_spec hb.1
      have hu := hp j sho u hj
      rw [← hu] at hs
      obtain ⟨y, h1, h2⟩ := CV.at_sub _ _ _ hs
      obtain ⟨she, _, _, hsn, _⟩ := (C.htt _ _ ht).d
      simp only at hsn
      rw [hsn] at h2
      obtain ⟨l, rfl, hl⟩ := agg_of_shape h2
      unfold qindexAddr
      simp [ht, tgt, get_h hj, h1, CV.shape, hsn, hl, h0, hn]
  · exact h

/-- A field of a struct that is a value. -/
def qfield (t : TypeId) (x : CV) (f : Nat) : Option CV :=
  match C.tt t, x with
  | some ⟨.st fs, sh, _, _⟩, .agg l => match fs[f]? with
    | some d => match C.tt d.2.2, l[f]? with
      | some tf, some v => bif decide (CV.shape (.agg l) = sh) && shOk v tf.sh then some v else none
      | _, _ => none
    | none => none
  | _, _ => none

theorem qfield_sound {S : St} {w : World} {t f : Nat} {x v : CV} {a : Value} (hx : VR S x a) (h : qfield C t x f = some v) : ∃ y, (Instr.field t a f).run C.P w = .ok y w ∧ VR S v y := by
  unfold qfield at h
  split at h <;> try (cases h; done)
  rename_i fs sh by_ ze l ht
  split at h <;> try (cases h; done)
  rename_i d hd
  split at h <;> try (cases h; done)
  rename_i tf u hf hu
  cases hb : (decide (CV.shape (.agg l) = sh) && shOk u tf.sh) with
  | false => rw [hb] at h; cases h
  | true =>
    rw [hb] at h
    simp only [cond_true, Option.some.injEq] at h
    subst h
    rw [Bool.and_eq_true] at hb
    have hsh := of_decide_eq_true hb.1
    obtain ⟨c, rfl, hc⟩ := VR_agg.1 hx
    obtain ⟨flds, fld, shs, hun, hfld, hoff, hty, _, hsn, ho, _⟩ := st_field C (C.htt _ _ ht) rfl hd
    simp only at hsn
    rw [hsn] at hsh
    simp only [CV.shape, Shape.n.injEq] at hsh
    obtain ⟨y, hy, hv⟩ := part_VR C (w := w) (C.htt _ _ hf) hc hu (shOk_spec hb.2) (off := fld.offset) (by rw [hoff, ho, hsh])
    refine ⟨y, ?_, hv⟩
    rw [← hty] at hy
    simp [Instr.field, run_underlying hun, hfld, hy, asAgg]
end
end Go.Cl
