/-
  An interpreter over clean values: maps from whole numbers.
-/
import Derived.Test.YtcjkapadadonlaaGreatY6
import Derived.MapKept
set_option linter.unusedSimpArgs false
set_option linter.unusedVariables false
namespace Go.Cl
open Go.RowKit

def World.putMap (w : World) (rb : Nat) (o : Go.Obj) : World := { w with heap := w.heap.setIfInBounds rb o }

theorem putMap_ne {w : World} {rb b : Nat} {o : Go.Obj} (h : b ≠ rb) : (World.putMap w rb o).heap[b]? = w.heap[b]? := by
  simp [World.putMap, Array.getElem?_setIfInBounds_ne (Ne.symm h)]
theorem putMap_same {w : World} {rb : Nat} {o : Go.Obj} (h : rb < w.heap.size) : (World.putMap w rb o).heap[rb]? = some o := by
  simp [World.putMap, h]

/-- A map is written. -/
theorem R.remap {w0 : World} {B : Nat} {S : St} {h : Heap} {w : World} (r : R w0 B S h w) {i rb : Nat} {l l' : List (CV × CV)} {es' : Array MapEntry} {clock' : Nat} (hi : h i = some (.map l)) (hμ : S.μ i = some (.map rb)) (he : Entries S l' es'.toList) :
    R w0 B S (upd h i (some (.map l'))) (World.putMap w rb (.map es' clock')) := by
  obtain ⟨⟨⟨es, clock, hh, _⟩, hK⟩, hB⟩ := r.live i _ _ hi hμ
  simp only [Loc.block] at hB
  have hlt : rb < w.heap.size := (Array.getElem?_eq_some_iff.1 hh).1
  have hbel : Below B w0 (World.putMap w rb (.map es' clock')) := r.below.trans ⟨rfl, rfl, rfl, by simp [World.putMap], fun k hk => putMap_ne (by omega)⟩
  refine ⟨hbel, by simpa [World.putMap] using r.size, fun b o u hk => ?_, fun j hj => ?_, fun j obj loc h1 h2 => ?_, fun j k oj ok lj lk hjk h1 h2 h3 h4 => ?_⟩
  · have hbr : b ≠ rb := fun e => by subst e; rw [hK] at hk; cases hk
    rw [cell_of_block (putMap_ne hbr)]; exact r.kcell b o u hk
  · refine ⟨(r.fresh j hj).1, ?_⟩
    have hji : j ≠ i := fun e => by subst e; rw [(r.fresh _ hj).1] at hμ; cases hμ
    rw [upd_ne _ _ hji]; exact (r.fresh j hj).2
  · by_cases hj : j = i
    · subst hj
      rw [upd_same] at h1; cases h1
      rw [hμ] at h2; cases h2
      exact ⟨⟨⟨es', clock', putMap_same hlt, he⟩, hK⟩, hB⟩
    · rw [upd_ne _ _ hj] at h1
      have k := r.live j obj loc h1 h2
      exact ⟨k.1.mono (St.le.refl _) (putMap_ne (r.inj j i obj _ loc _ hj h1 hi h2 hμ)) (fun _ h => h), k.2⟩
  · have get : ∀ j oj, upd h i (some (.map l')) j = some oj → ∃ oj', h j = some oj' := fun j oj hj => by
      by_cases e : j = i
      · subst e; exact ⟨_, hi⟩
      · rw [upd_ne _ _ e] at hj; exact ⟨_, hj⟩
    obtain ⟨_, h1'⟩ := get j oj h1
    obtain ⟨_, h2'⟩ := get k ok h2
    exact r.inj j k _ _ lj lk hjk h1' h2' h3 h4

/-- A new map. -/
theorem XRel.newMap {w0 : World} {B : Nat} {S : St} {p : Hp} {w : World} (r : XRel w0 B S p w) :
    S.ext (S.named S.n (.map w.heap.size)) ∧ XRel w0 B (S.named S.n (.map w.heap.size)) (p.new (.map [])) (w.alloc (.map #[] 0)) ∧ VR (S.named S.n (.map w.heap.size)) (.mapr p.n) (.map (some w.heap.size)) := by
  have hf := r.r.fresh S.n (Nat.le_refl _)
  have hle := St.le_named (l := .map w.heap.size) hf.1
  have hheap : ∀ b, b < w.heap.size → (w.alloc (.map #[] 0)).heap[b]? = w.heap[b]? := fun b hb => Below.heap_alloc w _ b hb
  refine ⟨St.ext_named (Nat.le_refl _) hf.1, ⟨?_, ?_, Hp.good_new r.good fun sh' v' e' => by cases e'⟩, ?_⟩
  · rw [Hp.new_h, ← r.n]
    refine ⟨r.r.below.alloc r.r.size _, ?_, fun b o u hk => ?_, fun j hj => ?_, fun j obj lo h1 h2 => ?_, fun j k oj ok lj lk hjk h1 h2 h3 h4 => ?_⟩
    · have := r.r.size; rw [show (w.alloc (.map #[] 0)).heap = w.heap.push (.map #[] 0) from rfl, Array.size_push]; omega
    · have := r.r.kcell b o u hk
      rw [cell_of_block (w := w) (hheap b (lt_of_cell this))]; exact this
    · have hj' : S.n + 1 ≤ j := Nat.le_trans (Nat.le_max_right _ _) hj
      exact ⟨by rw [St.named_ne (by omega)]; exact (r.r.fresh j (by omega)).1, by rw [upd_ne _ _ (by omega)]; exact (r.r.fresh j (by omega)).2⟩
    · by_cases hj : j = S.n
      · subst hj
        rw [upd_same] at h1; cases h1
        rw [St.named_μ] at h2; cases h2
        refine ⟨⟨⟨#[], 0, by rw [show (w.alloc (.map #[] 0)).heap = w.heap.push (.map #[] 0) from rfl]; simp, rfl, fun i x e h => by simp at h⟩, fun o => ?_⟩, r.r.size⟩
        cases hk : S.K w.heap.size o with
        | none => exact hk
        | some x => have := lt_of_cell (r.r.kcell _ _ _ hk); omega
      · rw [upd_ne _ _ hj] at h1
        rw [St.named_ne hj] at h2
        have k := r.r.live j obj lo h1 h2
        exact ⟨k.1.mono hle (hheap _ k.1.lt) (fun _ h => h), k.2⟩
    · by_cases hj : j = S.n
      · subst hj
        have hk := Ne.symm hjk
        rw [St.named_μ] at h3; cases h3
        rw [upd_ne _ _ hk] at h2
        rw [St.named_ne hk] at h4
        have := (r.r.live k ok lk h2 h4).1.lt
        show w.heap.size ≠ _; omega
      · rw [upd_ne _ _ hj] at h1
        rw [St.named_ne hj] at h3
        by_cases hk : k = S.n
        · subst hk
          rw [St.named_μ] at h4; cases h4
          have := (r.r.live j oj lj h1 h3).1.lt
          show _ ≠ w.heap.size; omega
        · rw [upd_ne _ _ hk] at h2
          rw [St.named_ne hk] at h4
          exact r.r.inj j k oj ok lj lk hjk h1 h2 h3 h4
  · show max S.n (S.n + 1) = Nat.succ p.n
    have := r.n; omega
  · rw [VR_nonagg rfl]; simp only [FR]
    exact ⟨⟨_, rfl, by rw [← r.n]; exact St.named_μ⟩, by simp⟩

/-- Where a number stands in a map: its place, and what it leads to. -/
def findK (q : IntKind) (k : Int) : Nat → List (CV × CV) → Option (Option (Nat × CV))
  | _, [] => some none
  | i, (a, v) :: l => match a with
    | .sc (.int q' b) => if q' = q then (bif decide (k = b) then some (some (i, v)) else findK q k (i + 1) l) else none
    | _ => none

theorem findK_sound {S : St} {q : IntKind} {k : Int} {qt : IntKind} : ∀ (l : List (CV × CV)) (es : List MapEntry) (i : Nat) (res : Option (Nat × CV)), Entries S l es → findK q k i l = some res →
    match res with
    | none => Instr.findNow (.int qt) (.int q k) es i = some none
    | some (j, v) => ∃ x, Instr.findNow (.int qt) (.int q k) es i = some (some (j, x)) ∧ VR S v x ∧ i ≤ j ∧ ∃ e, es[j - i]? = some e ∧ e.key = .int q k ∧ ∃ a, l[j - i]? = some (a, v)
  | [], [], i, res, _, h => by simp only [findK, Option.some.injEq] at h; subst h; rfl
  | [], _ :: _, _, _, he, _ => by have := he.1; simp at this
  | _ :: _, [], _, _, he, _ => by have := he.1; simp at this
  | (a, v) :: l, e :: es, i, res, he, h => by
    have h0 := he.2 0 (a, v) e rfl rfl
    have he' : Entries S l es := ⟨by have := he.1; simpa using this, fun j x e' h1 h2 => he.2 (j + 1) x e' h1 h2⟩
    simp only [findK] at h
    split at h <;> try (cases h; done)
    rename_i q' b
    split at h <;> try (cases h; done)
    rename_i hq
    subst hq
    have hk := (VR_sc.1 h0.1).1
    cases hb : decide (k = b) with
    | true =>
      rw [hb] at h
      simp only [cond_true, Option.some.injEq] at h
      subst h
      have hkb := of_decide_eq_true hb
      subst hkb
      refine ⟨e.val, ?_, h0.2, Nat.le_refl _, e, by simp, hk, .sc (.int q' k), by simp⟩
      simp [Instr.findNow, hk, Instr.sameNow]
    | false =>
      rw [hb] at h
      simp only [cond_false] at h
      have hkb : k ≠ b := of_decide_eq_false hb
      have ih := findK_sound (qt := qt) l es (i + 1) res he' h
      have hstep : Instr.findNow (.int qt) (.int q' k) (e :: es) i = Instr.findNow (.int qt) (.int q' k) es (i + 1) := by
        have hkb' : (k == b) = false := by simpa using hkb
        simp [Instr.findNow, hk, Instr.sameNow, hkb']
      cases res with
      | none => simp only at ih ⊢; rw [hstep]; exact ih
      | some jv =>
        obtain ⟨j, u⟩ := jv
        simp only at ih ⊢
        obtain ⟨x, k1, k2, k3, e', k4, k5, a', k6⟩ := ih
        refine ⟨x, by rw [hstep]; exact k1, k2, by omega, e', ?_, k5, a', ?_⟩
        · rw [show j - i = (j - (i + 1)) + 1 by omega]; simpa using k4
        · rw [show j - i = (j - (i + 1)) + 1 by omega]; simpa using k6

section
variable (C : Ctx)

def mapKV (t : TypeId) : Option (TypeId × TI) :=
  match C.tt t with
  | some ⟨.base (.map kt e), _, _, _⟩ => match C.tt kt, C.tt e with
    | some ⟨.base (.int _), _, _, _⟩, some te => some (e, te)
    | _, _ => none
  | _ => none
theorem mapKV_spec {t e : TypeId} {te : TI} (h : mapKV C t = some (e, te)) : ∃ kt q, C.P.underlying t = some (.map kt e) ∧ C.P.underlying kt = some (.int q) ∧ C.tt e = some te := by
  unfold mapKV at h
  split at h <;> try (cases h; done)
  rename_i kt e' sh by_ ze h1
  split at h <;> try (cases h; done)
  rename_i q sh' by' ze' te' h2 h3
  cases h
  exact ⟨kt, q, (C.htt _ _ h1).d.1, (C.htt _ _ h2).d.1, h3⟩

noncomputable def entriesOf (p : Hp) (x : CV) : Option (List (CV × CV)) :=
  match x with
  | .sc (.map none) => some []
  | .mapr i => match p.t.get i with
    | some (.map l) => some l
    | _ => none
  | _ => none

theorem get_hm {p : Hp} {i : Nat} {l : List (CV × CV)} (hi : p.t.get i = some (.map l)) : p.h i = some (.map l) := by
  simp [Hp.h, hi, XObj.obj]

def xfound (te : TI) (ok : Bool) : Option (Nat × CV) → Option CV
  | some (_, v) => bif shOk v te.sh then some (bif ok then .tup [v, .sc (.bool true)] else v) else none
  | none => some (bif ok then .tup [te.zero, .sc (.bool false)] else te.zero)

noncomputable def xlookup (p : Hp) (t : TypeId) (x k : CV) (ok : Bool) : XRes :=
  match mapKV C t, k with
  | some (_, te), .sc (.int q n) => match entriesOf p x with
    | some l => match findK q n 0 l with
      | some res => ofOpt p (xfound te ok res)
      | none => .stuck
    | none => .stuck
  | _, _ => .stuck

theorem checkKey_int {kt : TypeId} {q : IntKind} (h : C.P.underlying kt = some (.int q)) (b : Bool) (n : Nat) (v : Value) (w : World) : (Instr.checkKey b (n + 1) kt v).run C.P w = .ok () w := by
  unfold Instr.checkKey
  simp only [Sem.run_bind, run_underlying h, Result.andThen_ok]
  rfl

theorem xlookup_sound {w0 : World} {B : Nat} {S : St} {p : Hp} {w : World} (r : XRel w0 B S p w) {dst : Option Tmp} {t ty : TypeId} {x k : Operand} {ok : Bool} {xv kv : CV} {pos : String} {aft : Array Edge} {gd : Option (Nat × Bool)} {a : Act} (hx : VR S xv (a.eval x)) (hk : VR S kv (a.eval k)) :
    XGoes C w0 B S ⟨dst, .lookup t x k ok, ty, pos, aft, gd⟩ a w (xlookup C p t xv kv ok) := by
  unfold xlookup
  split <;> try trivial
  rename_i e te q n hkv
  split <;> try trivial
  rename_i l hl
  split <;> try trivial
  rename_i res hres
  obtain ⟨kt, qt, hu, huk, hte⟩ := mapKV_spec C hkv
  have hk' := (VR_sc.1 hk).1
  have hes : ∃ es : Array MapEntry, ((a.eval x = .map none ∧ es = #[]) ∨ ∃ rb clock, a.eval x = .map (some rb) ∧ (getObj rb).run C.P w = .ok (.map es clock) w) ∧ Entries S l es.toList := by
    unfold entriesOf at hl
    split at hl <;> try (cases hl; done)
    · cases hl
      have hx' := (VR_sc.1 hx).1
      exact ⟨#[], .inl ⟨hx', rfl⟩, rfl, fun i x e h => by simp at h⟩
    · rename_i i
      split at hl <;> try (cases hl; done)
      rename_i l' hi
      cases hl
      rw [VR_nonagg rfl] at hx; simp only [FR] at hx
      obtain ⟨⟨rb, hxe, hμ⟩, _⟩ := hx
      have hxe := (List.cons.inj hxe).1
      obtain ⟨⟨⟨es, clock, hh, hent⟩, _⟩, _⟩ := r.r.live i _ _ (get_hm hi) hμ
      exact ⟨es, .inr ⟨rb, clock, hxe, by simp [getObj, Sem.run, hh]⟩, hent⟩
  obtain ⟨es, hes, hent⟩ := hes
  have hfind := findK_sound (qt := qt) l es.toList 0 res hent hres
  -- the model's run
  have hrun : ∀ (v : Value) (b : Bool), (match (generalizing := false) res with
      | none => (∃ z, (zeroValue e).run C.P w = .ok z w ∧ v = z) ∧ b = false
      | some _ => (∃ j, Instr.findNow (.int qt) (.int q n) es.toList 0 = some (some (j, v))) ∧ b = true) →
      (execOp a.eval ⟨dst, .lookup t x k ok, ty, pos, aft, gd⟩).run C.P w = .ok (.value (if ok then .tuple #[v, .bool b] else v)) w := by
    intro v b hvb
    show (do pure (.value (← Instr.lookup t (a.eval x) (a.eval k) ok)) : Sem Next).run C.P w = _
    rcases hes with ⟨hxe, rfl⟩ | ⟨rb, clock, hxe, hg⟩ <;> rw [hxe, hk'] <;> cases res
    · obtain ⟨⟨z, hz, rfl⟩, rfl⟩ := hvb
      simp only at hfind
      simp [Instr.lookup, run_underlying hu, checkKey_int C huk, Instr.findKey, run_underlying huk, hfind, hz]
    · rename_i jv
      obtain ⟨⟨j, hj⟩, rfl⟩ := hvb
      simp [Instr.lookup, run_underlying hu, checkKey_int C huk, Instr.findKey, run_underlying huk, hj]
    · obtain ⟨⟨z, hz, rfl⟩, rfl⟩ := hvb
      simp only at hfind
      simp [Instr.lookup, run_underlying hu, hg, checkKey_int C huk, Instr.findKey, run_underlying huk, hfind, hz]
    · rename_i jv
      obtain ⟨⟨j, hj⟩, rfl⟩ := hvb
      simp [Instr.lookup, run_underlying hu, hg, checkKey_int C huk, Instr.findKey, run_underlying huk, hj]
  cases res with
  | none =>
    obtain ⟨z, hz, hvz⟩ := VR_zero C (S := S) hte (w := w)
    have := hrun z false ⟨⟨z, hz, rfl⟩, rfl⟩
    simp only [xfound, ofOpt]
    cases ok with
    | true => exact XGoes.still C r this (VR_tup2 hvz (VR_sc.2 ⟨rfl, rfl⟩))
    | false => exact XGoes.still C r this hvz
  | some jv =>
    obtain ⟨j, v⟩ := jv
    simp only at hfind
    obtain ⟨y, h1, h2, _⟩ := hfind
    have := hrun y true ⟨⟨j, h1⟩, rfl⟩
    simp only [xfound]
    cases hb : shOk v te.sh with
    | false => trivial
    | true =>
      simp only [cond_true, ofOpt]
      cases ok with
      | true => exact XGoes.still C r this (VR_tup2 h2 (VR_sc.2 ⟨rfl, rfl⟩))
      | false => exact XGoes.still C r this h2
end
end Go.Cl
