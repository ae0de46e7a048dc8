/-
  Quiet operations, continued: literals, slices, and all of them in one.
-/
import Derived.Test.YtcjkapadadonlaaGreatCl5
set_option linter.unusedSimpArgs false
set_option linter.unusedVariables false
namespace Go.Cl
open Go.RowKit

/-- A new block whose cells are known from now on. -/
def St.know (S : St) (b : Nat) (arr : Array Value) : St := { S with K := fun b' o => if b' = b then arr[o]? else S.K b' o }
theorem R.know {w0 : World} {B : Nat} {S : St} {h : Heap} {w : World} (r : R w0 B S h w) (arr : Array Value) (e : TypeId) :
    S.le (S.know w.heap.size arr) ∧ R w0 B (S.know w.heap.size arr) h (w.alloc (.cells arr e)) ∧ (S.know w.heap.size arr).lies w.heap.size 0 arr.toList := by
  have hle : S.le (S.know w.heap.size arr) := ⟨fun b o v hk => by
    have := lt_of_cell (r.kcell b o v hk)
    show (if b = w.heap.size then arr[o]? else S.K b o) = some v
    rw [if_neg (by omega)]; exact hk, fun _ _ h => h, Nat.le_refl _⟩
  refine ⟨hle, ⟨r.below.alloc r.size _, ?_, ?_, r.fresh, ?_, r.inj⟩, ?_⟩
  · have := r.size; rw [show (w.alloc (.cells arr e)).heap = w.heap.push (.cells arr e) from rfl, Array.size_push]; omega
  · intro b o v hk
    have hk : (if b = w.heap.size then arr[o]? else S.K b o) = some v := hk
    have hk' : (if b = w.heap.size then arr[o]? else S.K b o) = some v := hk
    clear hk
    by_cases hb : b = w.heap.size
    · rw [if_pos hb] at hk'
      subst hb
      rw [cell_cells (arr := arr) (e := e) (fr := (0, 0)) (by rw [show (w.alloc (.cells arr e)).heap = w.heap.push (.cells arr e) from rfl]; simp)]
      exact hk'
    · rw [if_neg hb] at hk'
      have := r.kcell b o v hk'
      rw [cell_of_block (Below.heap_alloc w _ b (lt_of_cell this))]; exact this
  · intro i obj loc h1 h2
    have := r.live i obj loc h1 h2
    refine ⟨this.1.mono hle (Below.heap_alloc w _ _ this.1.lt) (fun o ho => ?_), this.2⟩
    show (if loc.block = w.heap.size then arr[o]? else S.K loc.block o) = none
    rw [if_neg (by have := this.1.lt; omega)]; exact ho
  · intro j u hu
    show (if w.heap.size = w.heap.size then arr[0 + j]? else S.K _ _) = some u
    rw [if_pos rfl]; simpa using hu

theorem FRs_append {S : St} : ∀ (l : List CV) {m : List CV} {cs ds : List Value}, FRs S l cs → FRs S m ds → FRs S (l ++ m) (cs ++ ds)
  | [], _, _, _, h, k => by simp only [FRs] at h; subst h; simpa using k
  | v :: l, _, _, _, h, k => by
    simp only [FRs] at h
    obtain ⟨c, ds', rfl, h1, h2⟩ := h
    simp only [List.cons_append, FRs]
    exact ⟨c, _, by simp, h1, FRs_append l h2 k⟩

theorem FRs_replicate {S : St} {v : CV} {c : List Value} (h : FR S v c) : ∀ n : Nat, FRs S (List.replicate n v) (List.replicate n c).flatten
  | 0 => by simp [FRs]
  | n + 1 => by simp only [List.replicate_succ, FRs, List.flatten_cons]; exact ⟨c, _, rfl, h, FRs_replicate h n⟩

theorem FRs_split {S : St} : ∀ (l : List CV) (i : Nat) (cs : List Value), FRs S l cs → ∃ a b, cs = a ++ b ∧ FRs S (l.take i) a ∧ FRs S (l.drop i) b ∧ a.length = Shape.sizes ((CV.shapes l).take i)
  | l, 0, cs, h => ⟨[], cs, rfl, by simp [FRs], by simpa using h, by simp [Shape.sizes]⟩
  | [], i + 1, cs, h => by simp only [FRs] at h; subst h; exact ⟨[], [], rfl, by simp [FRs], by simp [FRs], by simp [CV.shapes, Shape.sizes]⟩
  | v :: l, i + 1, cs, h => by
    simp only [FRs] at h
    obtain ⟨c, ds, rfl, h1, h2⟩ := h
    obtain ⟨a, b, rfl, h3, h4, h5⟩ := FRs_split l i ds h2
    refine ⟨c ++ a, b, by simp, ?_, by simpa using h4, ?_⟩
    · simp only [List.take_succ_cons, FRs]; exact ⟨c, a, rfl, h1, h3⟩
    · have := FR.length _ _ h1
      simp only [CV.size] at this
      simp [CV.shapes, Shape.sizes, h5, this]

/-- The cells of a fill. -/
theorem fold_set : ∀ (vs : List Value) (k : Nat) (pre c post : List Value) (arr : Array Value), arr.toList = pre ++ c ++ post → c.length = vs.length →
    (((vs.zipIdx k).foldl (fun cs (x : Value × Nat) => cs.setIfInBounds (pre.length + (x.2 - k)) x.1) arr)).toList = pre ++ vs ++ post
  | [], k, pre, c, post, arr, h, hc => by
    have : c = [] := List.length_eq_zero_iff.1 (by simpa using hc)
    subst this; simpa using h
  | v :: vs, k, pre, [], post, arr, h, hc => by simp at hc
  | v :: vs, k, pre, c :: cs, post, arr, h, hc => by
    have h2 : (arr.setIfInBounds pre.length v).toList = (pre ++ [v]) ++ cs ++ post := by
      rw [Array.toList_setIfInBounds, h]; simp
    have ih := fold_set vs (k + 1) (pre ++ [v]) cs post _ h2 (by simpa using hc)
    simp only [List.zipIdx_cons, List.foldl_cons, Nat.sub_self, Nat.add_zero]
    rw [show pre ++ v :: vs ++ post = (pre ++ [v]) ++ vs ++ post by simp, ← ih]
    congr 1
    clear ih h2 h hc
    generalize arr.setIfInBounds pre.length v = arr'
    have key : ∀ (l : List (Value × Nat)) (a : Array Value), (∀ x ∈ l, k + 1 ≤ x.2) → List.foldl (fun cs (x : Value × Nat) => cs.setIfInBounds (pre.length + (x.2 - k)) x.1) a l = List.foldl (fun cs (x : Value × Nat) => cs.setIfInBounds ((pre ++ [v]).length + (x.2 - (k + 1))) x.1) a l := by
      intro l
      induction l with
      | nil => intros; rfl
      | cons x l ih =>
        intro a hx
        have h1 := hx x (by simp)
        simp only [List.foldl_cons, List.length_append, List.length_cons, List.length_nil]
        rw [show pre.length + (x.2 - k) = pre.length + (0 + 1) + (x.2 - (k + 1)) by omega]
        have := ih (a.setIfInBounds (pre.length + (0 + 1) + (x.2 - (k + 1))) x.1) (fun y hy => hx y (by simp [hy]))
        simpa using this
    exact key _ _ fun x hx => by have := List.le_snd_of_mem_zipIdx hx; omega

theorem VR.cells_length {S : St} {v : CV} {x : Value} (h : VR S v x) : x.cells.size = v.size := by
  rw [← Array.length_toList]; exact FR.length _ _ h.1

/-- A literal's parts are filled in. -/
theorem fill_sound {S : St} (place : Nat → Option (Nat × Nat)) (shs : List Shape) (hp : ∀ i sh, shs[i]? = some sh → place i = some (Shape.sizes (shs.take i), sh.size)) :
    ∀ (parts : List (Nat × CV)) (vals : List (Nat × Value)) (l : List CV) (arr : Array Value), parts.length = vals.length → (∀ (k : Nat) (p : Nat × CV) (q : Nat × Value), parts[k]? = some p → vals[k]? = some q → p.1 = q.1 ∧ VR S p.2 q.2 ∧ shs[p.1]? = some p.2.shape) →
      FRs S l arr.toList → CV.shapes l = shs → ∃ arr', Instr.fill place arr vals = some arr' ∧ FRs S (parts.foldl (fun l p => l.set p.1 p.2) l) arr'.toList ∧ CV.shapes (parts.foldl (fun l p => l.set p.1 p.2) l) = shs
  | [], [], l, arr, _, _, hl, hs => ⟨arr, rfl, hl, hs⟩
  | [], _ :: _, _, _, h, _, _, _ => by simp at h
  | _ :: _, [], _, _, h, _, _, _ => by simp at h
  | (i, v) :: parts, (j, x) :: vals, l, arr, hlen, hpv, hl, hs => by
    obtain ⟨hij, hv, hsh⟩ := hpv 0 _ _ rfl rfl
    simp only at hij hv hsh
    subst hij
    have hll : i < l.length := by
      have := (List.getElem?_eq_some_iff.1 hsh).1
      rw [← hs, CV.shapes_eq] at this; simpa using this
    obtain ⟨pre, c, post, harr, hpre, hc, hset⟩ := FRs.focus l arr.toList i l[i] hl (by simp [hll])
    rw [hs] at hpre
    have hsz := VR.cells_length hv
    have hcl : c.length = x.cells.toList.length := by
      rw [FR.length _ _ hc, Array.length_toList, hsz]
      have : (CV.shapes l)[i]? = some l[i].shape := shapes_get (by simp [hll])
      rw [hs, hsh] at this
      simp only [Option.some.injEq] at this
      simp only [CV.size, ← this]
    have hfit : ¬ (pre.length + x.cells.size > arr.size) := by
      have : arr.toList.length = pre.length + (c.length + post.length) := by rw [harr]; simp
      rw [Array.length_toList] at this
      have hcl2 : c.length = x.cells.size := hcl.trans (Array.length_toList)
      omega
    have hshapes : CV.shapes (l.set i v) = shs := by
      rw [CV.shapes_eq, List.map_set, ← CV.shapes_eq, hs]
      apply List.ext_getElem?
      intro k
      by_cases hk : i = k
      · subst hk; rw [List.getElem?_set]; simp [hsh]; exact (List.getElem?_eq_some_iff.1 hsh).1
      · rw [List.getElem?_set]; simp [hk]
    have hnew := hset S v x.cells.toList (St.le.refl _) hv.1
    obtain ⟨arr', h1, h2, h3⟩ := fill_sound place shs hp parts vals (l.set i v) (⟨pre ++ x.cells.toList ++ post⟩ : Array Value) (by simpa using hlen) (fun k p q hk hq => hpv (k + 1) p q (by simpa using hk) (by simpa using hq)) hnew hshapes
    refine ⟨arr', ?_, h2, h3⟩
    simp only [Instr.fill, hp i _ hsh]
    rw [← hpre]
    have hsz' : x.cells.size = v.shape.size := hsz
    rw [if_neg (by simp [hsz']; rw [← hsz']; omega), ← h1]
    congr 1
    apply Array.ext'
    have := fold_set x.cells.toList 0 pre c post arr harr hcl
    simp only [Nat.sub_zero] at this
    rw [← this]
    rw [← Array.foldl_toList]
    simp

section ops
variable (C : Ctx)

def setAll (l : List CV) (parts : List (Nat × CV)) : List CV := parts.foldl (fun l p => l.set p.1 p.2) l

def partsOk (shs : List Shape) (parts : List (Nat × CV)) : Bool := parts.all fun p => decide (shs[p.1]? = some p.2.shape)

def qbuild (t : TypeId) (parts : List (Nat × CV)) : Option CV :=
  match C.tt t with
  | some ⟨.st _, .n shs, _, .agg z⟩ => if partsOk shs parts = true then some (.agg (setAll z parts)) else none
  | some ⟨.ar _ _ _, .n shs, _, .agg z⟩ => if partsOk shs parts = true then some (.agg (setAll z parts)) else none
  | _ => none

theorem run_zeroValue {P : Program} {t : TypeId} {i : TypeInfo} {z : Value} (hi : P.info? t = some i) (hz : i.zero = some z) (w : World) : (zeroValue t).run P w = .ok z w := by
  simp [zeroValue, typeInfo, hi, hz]

theorem run_mapM_pure {α β : Type} {P : Program} {w : World} (f : α → Sem β) (g : α → β) (l : List α) (h : ∀ x ∈ l, (f x).run P w = .ok (g x) w) : (l.mapM f).run P w = .ok (l.map g) w := by
  induction l with
  | nil => simp
  | cons x l ih =>
    rw [List.mapM_cons]
    simp [h x (by simp), ih (fun y hy => h y (by simp [hy]))]

theorem qbuild_sound {S : St} {w : World} {t : TypeId} {parts : List (Nat × CV)} {vals : List (Nat × Value)} {v : CV} (hlen : parts.length = vals.length)
    (hpv : ∀ (k : Nat) (p : Nat × CV) (q : Nat × Value), parts[k]? = some p → vals[k]? = some q → p.1 = q.1 ∧ VR S p.2 q.2) (h : qbuild C t parts = some v) :
    ∃ y, (Instr.build t vals.toArray).run C.P w = .ok y w ∧ VR S v y := by
  unfold qbuild at h
  split at h <;> try (cases h; done)
  · rename_i fs shs by_ z h1
    split at h <;> try (cases h; done)
    rename_i hok
    cases h
    have hti := C.htt _ _ h1
    obtain ⟨i, zv, hi, _, _, hz, hfz⟩ := hti.info
    obtain ⟨f, shs', hu, hfs, hsn, hlen', hoffs, _⟩ := hti.d
    simp only [Shape.n.injEq] at hsn
    subst hsn
    have hzsh := hti.zsh
    simp only [CV.shape, Shape.n.injEq] at hzsh
    have hFz : FRs S z zv.cells.toList := by have := FR_flatC (S := S) _ _ hfz; simpa [FR] using this
    have hplaces : (f.mapM fun x => do pure (x.offset, ← sizeOf x.type) : Sem _).run C.P w = .ok (f.map fun x => (x.offset, ((C.P.info? x.type).map (·.size)).getD 0)) w := by
      rw [Array.mapM_eq_mapM_toList]
      simp only [Sem.run_map]
      rw [run_mapM_pure _ (fun x => (x.offset, ((C.P.info? x.type).map (·.size)).getD 0)) f.toList]
      · simp only [Result.andThen_ok]
        congr 1
        apply Array.ext'
        simp
      · intro x hx
        obtain ⟨k, hk⟩ := List.getElem?_of_mem hx
        have : fs[k]? = some (x.offset, ((C.P.info? x.type).map (·.size)).getD 0, x.type) := by rw [← hfs, List.getElem?_map, hk]; rfl
        have := (hoffs k _ this).2.1
        cases hq : C.P.info? x.type with
        | none => simp [hq] at this
        | some i => simp [sizeOf, typeInfo, hq]
    obtain ⟨arr', k1, k2, k3⟩ := fill_sound (S := S) (fun i => (f.map fun x => (x.offset, ((C.P.info? x.type).map (·.size)).getD 0))[i]?) shs (fun i sh hsh => by
      have hil : i < fs.length := by rw [← hlen']; exact (List.getElem?_eq_some_iff.1 hsh).1
      obtain ⟨ho, _, hsz⟩ := hoffs i fs[i] (by simp [hil])
      have : fs[i]? = (f[i]?).map (fun x => (x.offset, ((C.P.info? x.type).map (·.size)).getD 0, x.type)) := by rw [← hfs, List.getElem?_map, Array.getElem?_toList]
      rw [Array.getElem?_map]
      cases hq : f[i]? with
      | none => simp [hq, hil] at this
      | some x =>
        simp [hq, hil] at this
        rw [this] at ho hsz
        rw [hsh] at hsz
        simp only [Option.map_some, Option.some.injEq] at hsz ho ⊢
        rw [ho, hsz]) parts vals z zv.cells hlen (fun k p q hk hq => by
          obtain ⟨e1, e2⟩ := hpv k p q hk hq
          refine ⟨e1, e2, ?_⟩
          have := List.all_eq_true.1 hok p (List.mem_of_getElem? hk)
          simpa using this) hFz hzsh
    refine ⟨.agg arr', ?_, VR_agg.2 ⟨_, rfl, k2⟩⟩
    simp only [Instr.build, Sem.run_bind, run_zeroValue hi hz, Result.andThen_ok, run_underlying hu, hplaces]
    simp only [k1, Sem.run_pure]
  · rename_i n esz e shs by_ z h1
    split at h <;> try (cases h; done)
    rename_i hok
    cases h
    have hti := C.htt _ _ h1
    obtain ⟨i, zv, hi, _, _, hz, hfz⟩ := hti.info
    obtain ⟨she, hu, hesz, hsn, hsz, _⟩ := hti.d
    simp only [Shape.n.injEq] at hsn
    subst hsn
    have hzsh := hti.zsh
    simp only [CV.shape, Shape.n.injEq] at hzsh
    have hFz : FRs S z zv.cells.toList := by have := FR_flatC (S := S) _ _ hfz; simpa [FR] using this
    have hsize : (sizeOf e).run C.P w = .ok esz w := by
      cases hq : C.P.info? e with
      | none => simp [hq] at hesz
      | some i => simp [hq] at hesz; simp [sizeOf, typeInfo, hq, hesz]
    obtain ⟨arr', k1, k2, k3⟩ := fill_sound (S := S) (fun i => some (i * esz, esz)) (List.replicate n she) (fun i sh hsh => by
      obtain ⟨hil, hh⟩ := List.getElem?_eq_some_iff.1 hsh
      simp only [List.length_replicate] at hil
      simp only [List.getElem_replicate] at hh
      rw [sizes_replicate_take _ _ _ (by omega), ← hh, hsz]) parts vals z zv.cells hlen (fun k p q hk hq => by
          obtain ⟨e1, e2⟩ := hpv k p q hk hq
          refine ⟨e1, e2, ?_⟩
          have := List.all_eq_true.1 hok p (List.mem_of_getElem? hk)
          simpa using this) hFz hzsh
    refine ⟨.agg arr', ?_, VR_agg.2 ⟨_, rfl, k2⟩⟩
    simp only [Instr.build, Sem.run_bind, run_zeroValue hi hz, Result.andThen_ok, run_underlying hu, hsize]
    simp only [k1, Sem.run_pure]
end ops
end Go.Cl
