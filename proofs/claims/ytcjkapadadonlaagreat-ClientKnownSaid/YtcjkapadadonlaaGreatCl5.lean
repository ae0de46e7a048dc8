/-
  Quiet operations, continued: parts of values, equality, literals.
-/
import Derived.Test.YtcjkapadadonlaaGreatCl4
import Derived.Laws.StructEq
import Derived.ChangeKeysEq
set_option linter.unusedSimpArgs false
set_option linter.unusedVariables false
namespace Go.Cl
open Go.RowKit

theorem sub_of_focus {pre c post : List Value} {arr : Array Value} (h : arr.toList = pre ++ c ++ post) : (arr.extract pre.length (pre.length + c.length)).toList = c := by
  rw [Array.toList_extract, h]
  simp [List.extract]

section ops
variable (C : Ctx)

/-- A part of an aggregate. -/
theorem part_VR {S : St} {w : World} {t : TypeId} {ti : TI} (h : ti.ok C.P t) {l : List CV} {arr : Array Value} {i : Nat} {v : CV} (hl : FRs S l arr.toList) (hi : l[i]? = some v) (hs : v.shape = ti.sh) {off : Nat}
    (ho : off = Shape.sizes ((CV.shapes l).take i)) : ∃ y, (part t arr off).run C.P w = .ok y w ∧ VR S v y := by
  obtain ⟨pre, c, post, harr, hpre, hc, _⟩ := FRs.focus l arr.toList i v hl hi
  obtain ⟨d, hu, hrow⟩ := TI.row h
  obtain ⟨ii, z, hii, hsz, _⟩ := h.info
  have hlen := FR.length _ _ hc
  simp only [CV.size, hs] at hlen
  rw [← hpre] at ho
  by_cases hd : d.isRow = true
  · refine ⟨.agg (arr.extract off (off + ii.size)), by simp [part, run_isAgg_of hu w, hd, sizeOf, typeInfo, hii], ?_⟩
    have : v.isAgg = true := by rw [isAgg_shape, hs]; exact hrow.1 hd
    cases v <;> simp [CV.isAgg] at this
    rw [VR_agg]
    refine ⟨_, rfl, ?_⟩
    rw [ho, hsz, ← hlen, sub_of_focus harr]
    simpa [FR] using hc
  · have hd' : d.isRow = false := by simpa using hd
    have hsh : ti.sh = .s := good_not_row h.good (fun hl => hd (hrow.2 hl))
    have hna : v.isAgg = false := by
      cases hh : v.isAgg with
      | false => rfl
      | true => obtain ⟨l, hl⟩ := (isAgg_shape v).1 hh; rw [hs, hsh] at hl; cases hl
    rw [hsh] at hlen
    obtain ⟨x, rfl⟩ : ∃ x, c = [x] := by
      match c, hlen with
      | [x], _ => exact ⟨x, rfl⟩
      | [], h => simp [Shape.size] at h
      | _ :: _ :: _, h => simp [Shape.size] at h
    have hx : arr[off]? = some x := by
      rw [← Array.getElem?_toList, harr, ho]; simp
    refine ⟨x, by simp [part, run_isAgg_of hu w, hd', hx], ?_⟩
    rw [VR_nonagg hna]
    refine ⟨hc, fun cc e => ?_⟩
    subst e
    cases v <;> simp [FR, CV.isAgg] at hc hna
    obtain ⟨rfl, hp⟩ := hc
    simp [plain] at hp

/-- The struct's fields, by the table. -/
theorem st_field {t : TypeId} {ti : TI} (h : ti.ok C.P t) {fs : List (Nat × Nat × TypeId)} (hd : ti.d = .st fs) {i : Nat} {x : Nat × Nat × TypeId} (hx : fs[i]? = some x) :
    ∃ f fld shs, C.P.underlying t = some (.struct f) ∧ f[i]? = some fld ∧ fld.offset = x.1 ∧ fld.type = x.2.2 ∧ (C.P.info? fld.type).map (·.size) = some x.2.1 ∧ ti.sh = .n shs ∧ x.1 = Shape.sizes (shs.take i) ∧ (shs[i]?).map Shape.size = some x.2.1 := by
  have hok := h.d
  rw [hd] at hok
  obtain ⟨f, shs, hu, hfs, hsn, hlen, hoffs, _⟩ := hok
  obtain ⟨ho, hz, hsz⟩ := hoffs i x hx
  have : fs[i]? = (f[i]?).map (fun x => (x.offset, ((C.P.info? x.type).map (·.size)).getD 0, x.type)) := by
    rw [← hfs, List.getElem?_map, Array.getElem?_toList]
  rw [hx] at this
  cases hf : f[i]? with
  | none => simp [hf] at this
  | some fld =>
    simp [hf] at this
    subst this
    refine ⟨f, fld, shs, hu, hf, rfl, rfl, ?_, hsn, ho, hsz⟩
    cases hq : C.P.info? fld.type with
    | none => simp [hq] at hz
    | some i => simp

def eqSc (u : TypeDesc) (a b : Value) : Option Bool :=
  match u, a, b with
  | .bool, .bool a, .bool b => some (decide (a = b))
  | .int _, .int k a, .int k' b => if k = k' then some (decide (a = b)) else none
  | .string, .string a, .string b => some (a == b)
  | .float _, .float k a, .float k' b => if k = k' then some (Op.floatEq k a b) else none
  | _, _, _ => none

def eqList (f : TypeId → CV → CV → Option Bool) : List TypeId → List CV → List CV → Option Bool
  | [], [], [] => some true
  | t :: ts, x :: l, y :: m =>
    match f t x y, eqList f ts l m with
    | some a, some b => some (a && b)
    | _, _ => none
  | _, _, _ => none

def eqCV : Nat → TypeId → CV → CV → Option Bool
  | 0, _, _, _ => none
  | d + 1, t, x, y =>
    match C.tt t, x, y with
    | some ⟨.base u, _, _, _⟩, .sc a, .sc b => eqSc u a b
    | some ⟨.st fs, sh, _, _⟩, .agg l, .agg m => if CV.shape (.agg l) = sh ∧ CV.shape (.agg m) = sh then eqList (eqCV d) (fs.map (·.2.2)) l m else none
    | some ⟨.ar n _ e, sh, _, _⟩, .agg l, .agg m => if CV.shape (.agg l) = sh ∧ CV.shape (.agg m) = sh then eqList (eqCV d) (List.replicate n e) l m else none
    | _, _, _ => none

theorem eqSc_sound {u : TypeDesc} {a b : Value} {r : Bool} {t : TypeId} (hu : C.P.underlying t = some u) (h : eqSc u a b = some r) (D : Nat) (w : World) : (Op.equalIn (D + 1) t a b).run C.P w = .ok r w := by
  unfold eqSc at h
  split at h
  · cases h; simp [Op.equalIn, run_underlying hu]; rfl
  · split at h
    · cases h; rename_i e; simp [Op.equalIn, run_underlying hu, e]; rfl
    · cases h
  · cases h; simp [Op.equalIn, run_underlying hu]
  · split at h
    · cases h; rename_i e; simp [Op.equalIn, run_underlying hu, e]
    · cases h
  · cases h

/-- The shape that a part has is the table's. -/
theorem eqCV_shape : ∀ (d : Nat) (t : TypeId) (x y : CV) (r : Bool), eqCV C d t x y = some r → ∃ ti, C.tt t = some ti ∧ x.shape = ti.sh ∧ y.shape = ti.sh
  | 0, _, _, _, _, h => by simp [eqCV] at h
  | d + 1, t, x, y, r, h => by
    unfold eqCV at h
    split at h
    · rename_i u sh by_ ze a b h1
      have := (C.htt _ _ h1).d.2.2
      simp only at this
      exact ⟨_, h1, by rw [this]; rfl, by rw [this]; rfl⟩
    · rename_i h1
      split at h
      · rename_i hs; exact ⟨_, h1, hs⟩
      · cases h
    · rename_i h1
      split at h
      · rename_i hs; exact ⟨_, h1, hs⟩
      · cases h
    · cases h

def EqOk (D d : Nat) : Prop := ∀ (S : St) (t : TypeId) (x y : CV) (a b : Value) (r : Bool) (w : World), eqCV C d t x y = some r → VR S x a → VR S y b → (Op.equalIn D t a b).run C.P w = .ok r w

theorem eqFields_sound {D d : Nat} (IH : EqOk C D d) {S : St} {xs ys : Array Value} {shs : List Shape} {L M : List CV} (hx : FRs S L xs.toList) (hy : FRs S M ys.toList) (hL : CV.shapes L = shs) (hM : CV.shapes M = shs) (w : World) :
    ∀ (fl : List Field) (k : Nat) (l m : List CV) (r : Bool), L.drop k = l → M.drop k = m → (∀ (i : Nat) f, fl[i]? = some f → f.name ≠ "_" ∧ f.offset = Shape.sizes (shs.take (k + i))) → eqList (eqCV C d) (fl.map (·.type)) l m = some r →
      (Op.eqFields D xs ys fl).run C.P w = .ok r w
  | [], k, l, m, r, hl, hm, hf, h => by
    cases l <;> cases m <;> simp [eqList] at h
    simp [Op.eqFields, h]
  | f :: fl, k, l, m, r, hl, hm, hf, h => by
    cases l <;> cases m <;> simp only [List.map_cons, eqList] at h <;> try (cases h; done)
    rename_i x l y m
    split at h <;> try (cases h; done)
    rename_i r1 r2 h1 h2
    cases h
    obtain ⟨hn, ho⟩ := hf 0 f rfl
    obtain ⟨ti, hti, hsx, hsy⟩ := eqCV_shape C d _ _ _ _ h1
    have hLx : L[k]? = some x := by
      have := congrArg (·[0]?) hl
      simpa using this
    have hMy : M[k]? = some y := by
      have := congrArg (·[0]?) hm
      simpa using this
    obtain ⟨a, ha, hva⟩ := part_VR C (w := w) (C.htt _ _ hti) hx hLx hsx (off := f.offset) (by rw [hL]; simpa using ho)
    obtain ⟨b, hb, hvb⟩ := part_VR C (w := w) (C.htt _ _ hti) hy hMy hsy (off := f.offset) (by rw [hM]; simpa using ho)
    have he := IH S _ x y a b r1 w h1 hva hvb
    have ih := eqFields_sound IH hx hy hL hM w fl (k + 1) l m r2 (by rw [← List.tail_drop, hl]; rfl) (by rw [← List.tail_drop, hm]; rfl) (fun i g hg => by
      have := hf (i + 1) g (by simpa using hg)
      rwa [Nat.add_assoc, Nat.add_comm 1 i]) h2
    simp only [Op.eqFields, hn, ne_eq, not_false_eq_true, if_true, Sem.run_bind, ha, hb, he, Result.andThen_ok]
    cases r1
    · simp
    · simpa using ih

theorem eqItems_sound {D d : Nat} (IH : EqOk C D d) {S : St} {xs ys : Array Value} {e : TypeId} {she : Shape} {n : Nat} {L M : List CV} (hx : FRs S L xs.toList) (hy : FRs S M ys.toList) (hL : CV.shapes L = List.replicate n she) (hM : CV.shapes M = List.replicate n she)
    (hsz : C.P.cellsOf e = she.size) (w : World) :
    ∀ (is : List Nat) (k : Nat) (l m : List CV) (r : Bool), L.drop k = l → M.drop k = m → k + is.length ≤ n → (∀ (i : Nat) j, is[i]? = some j → j = k + i) → eqList (eqCV C d) (List.replicate is.length e) l m = some r →
      (Op.eqItems D e (C.P.cellsOf e) xs ys is).run C.P w = .ok r w
  | [], k, l, m, r, hl, hm, hk, hf, h => by
    cases l <;> cases m <;> simp [eqList] at h
    simp [Op.eqItems, h]
  | j :: is, k, l, m, r, hl, hm, hk, hf, h => by
    cases l <;> cases m <;> simp only [List.length_cons, List.replicate_succ, eqList] at h <;> try (cases h; done)
    rename_i x l y m
    split at h <;> try (cases h; done)
    rename_i r1 r2 h1 h2
    cases h
    have hj := hf 0 j rfl
    simp only [Nat.add_zero] at hj
    subst hj
    simp only [List.length_cons] at hk
    obtain ⟨ti, hti, hsx, hsy⟩ := eqCV_shape C d _ _ _ _ h1
    have hLx : L[j]? = some x := by
      have := congrArg (·[0]?) hl
      simpa using this
    have hMy : M[j]? = some y := by
      have := congrArg (·[0]?) hm
      simpa using this
    have hoff : j * C.P.cellsOf e = Shape.sizes ((List.replicate n she).take j) := by rw [hsz, sizes_replicate_take _ _ _ (by omega)]
    obtain ⟨a, ha, hva⟩ := part_VR C (w := w) (C.htt _ _ hti) hx hLx hsx (off := j * C.P.cellsOf e) (by rw [hL]; exact hoff)
    obtain ⟨b, hb, hvb⟩ := part_VR C (w := w) (C.htt _ _ hti) hy hMy hsy (off := j * C.P.cellsOf e) (by rw [hM]; exact hoff)
    have he := IH S _ x y a b r1 w h1 hva hvb
    have ih := eqItems_sound IH hx hy hL hM hsz w is (j + 1) l m r2 (by rw [← List.tail_drop, hl]; rfl) (by rw [← List.tail_drop, hm]; rfl) (by omega) (fun i g hg => by
      have := hf (i + 1) g (by simpa using hg)
      rwa [Nat.add_assoc, Nat.add_comm 1 i]) h2
    simp only [Op.eqItems, Sem.run_bind, ha, hb, he, Result.andThen_ok]
    cases r1
    · simp
    · simpa using ih

theorem eqCV_sound : ∀ (d D : Nat), d ≤ D → EqOk C D d
  | 0, _, _ => fun S t x y a b r w h => by simp [eqCV] at h
  | d + 1, 0, h => absurd h (by omega)
  | d + 1, D + 1, hD => fun S t x y a b r w h hx hy => by
    have IH := eqCV_sound d D (by omega)
    unfold eqCV at h
    split at h
    · rename_i u sh by_ ze a' b' h1
      obtain ⟨rfl, _⟩ := VR_sc.1 hx
      obtain ⟨rfl, _⟩ := VR_sc.1 hy
      exact eqSc_sound C (C.htt _ _ h1).d.1 h D w
    · rename_i fs sh by_ ze l m h1
      split at h <;> try (cases h; done)
      rename_i hs
      obtain ⟨f, shs, hu, hfs, hsn, hlen, hoffs, hnm, hst, _⟩ := (C.htt _ _ h1).d
      simp only at hsn
      rw [hsn] at hs
      simp only [CV.shape, Shape.n.injEq] at hs
      obtain ⟨xs, rfl, hxs⟩ := VR_agg.1 hx
      obtain ⟨ys, rfl, hys⟩ := VR_agg.1 hy
      have hfo : C.P.fieldsOf t = f := by simp [Program.fieldsOf, hu]
      rw [run_equalIn_struct w D t xs ys (by rw [hfo]; exact hu) hst, hfo]
      refine eqFields_sound C IH hxs hys hs.1 hs.2 w f.toList 0 l m r (by simp) (by simp) ?_ ?_
      · intro i g hg
        refine ⟨by have := (Array.all_eq_true_iff_forall_mem.1 hnm) g (by rw [Array.getElem?_toList] at hg; exact Array.mem_of_getElem? hg); simpa using this, ?_⟩
        have : fs[i]? = some (g.offset, ((C.P.info? g.type).map (·.size)).getD 0, g.type) := by rw [← hfs, List.getElem?_map, hg]; rfl
        simpa using (hoffs i _ this).1
      · rw [← hfs, List.map_map] at h
        exact h
    · rename_i n esz e sh by_ ze l m h1
      split at h <;> try (cases h; done)
      rename_i hs
      obtain ⟨she, hu, hesz, hsn, hsz, _⟩ := (C.htt _ _ h1).d
      simp only at hsn
      rw [hsn] at hs
      simp only [CV.shape, Shape.n.injEq] at hs
      obtain ⟨xs, rfl, hxs⟩ := VR_agg.1 hx
      obtain ⟨ys, rfl, hys⟩ := VR_agg.1 hy
      obtain ⟨i, hi, hisz⟩ : ∃ i, C.P.info? e = some i ∧ i.size = esz := by
        cases hq : C.P.info? e with
        | none => simp [hq] at hesz
        | some i => simp [hq] at hesz; exact ⟨i, rfl, hesz⟩
      rw [run_equalIn_array w D xs ys hu hi]
      refine eqItems_sound C IH hxs hys hs.1 hs.2 (by simp [Program.cellsOf, hi, hisz, hsz]) w (List.range n) 0 l m r (by simp) (by simp) (by simp) ?_ ?_
      · intro i j hj
        obtain ⟨h1, h2⟩ := List.getElem?_eq_some_iff.1 hj
        simp at h2
        omega
      · simpa using h
    · cases h
end ops
end Go.Cl
