/-
  append, continued: its runs.
-/
import Derived.Test.YtcjkapadadonlaaGreatCl12
import Derived.Deep.Upon
set_option linter.unusedSimpArgs false
set_option linter.unusedVariables false
namespace Go.Cl
open Go.RowKit

theorem lies_prefix {S : St} {b o : Nat} {xs ys : List Value} (h : S.lies b o (xs ++ ys)) : S.lies b o xs := fun j u hu => h j u (by rw [List.getElem?_append_left (List.getElem?_eq_some_iff.1 hu).1]; exact hu)

theorem St.named_ne {S : St} {i j : Nat} {l : Loc} (h : j ≠ i) : (S.named i l).μ j = S.μ j := if_neg h

/-- A name for a tail: where the old world's facts carry over. -/
theorem R.tailed {w0 : World} {B : Nat} {S S1 : St} {h h' : Heap} {w w1 : World} (r : R w0 B S h w) (hle : S.le S1) (hμ : S1.μ = S.μ) (hn : S1.n = S.n) {i : Nat} (hi : S.n ≤ i) {rb cap sz n : Nat}
    (hb : Below B w0 w1) (hsz : B ≤ w1.heap.size) (hk : ∀ b o v, S1.K b o = some v → w1.cell? ⟨b, o, none⟩ = some v)
    (hi' : h' i = some (.tail n)) (hh : ∀ j, j ≠ i → h' j = none ∨ h' j = h j) (hrb : B ≤ rb)
    (hlive : (∃ arr e, w1.heap[rb]? = some (.cells arr e (0, 0)) ∧ arr.size = cap * sz ∧ n ≤ cap) ∧ ∀ o, n * sz ≤ o → S1.K rb o = none)
    (hoth : ∀ j obj loc, j ≠ i → h' j = some obj → S.μ j = some loc → loc.block ≠ rb ∧ w1.heap[loc.block]? = w.heap[loc.block]? ∧ ∀ o, S.K loc.block o = none → S1.K loc.block o = none) :
    R w0 B (S1.named i (.tail rb cap sz)) h' w1 := by
  have hs : S1.le (S1.named i (.tail rb cap sz)) := St.le_named (by rw [hμ]; exact (r.fresh i hi).1)
  have back : ∀ j obj, j ≠ i → h' j = some obj → h j = some obj := fun j obj hj h1 => by
    rcases hh j hj with e | e
    · rw [e] at h1; cases h1
    · rw [← e]; exact h1
  refine ⟨hb, hsz, hk, ?_, ?_, ?_⟩
  · intro j hj
    have h1 : S1.n ≤ j := Nat.le_trans (Nat.le_max_left _ _) hj
    have h2 : j ≠ i := by have := Nat.le_trans (Nat.le_max_right S1.n (i + 1)) hj; omega
    rw [hn] at h1
    refine ⟨by rw [St.named_ne h2, hμ]; exact (r.fresh j h1).1, ?_⟩
    rcases hh j h2 with e | e
    · exact e
    · rw [e]; exact (r.fresh j h1).2
  · intro j obj loc h1 h2
    by_cases hj : j = i
    · subst hj
      rw [hi'] at h1; cases h1
      rw [St.named_μ] at h2; cases h2
      exact ⟨hlive, hrb⟩
    · rw [St.named_ne hj, hμ] at h2
      have k := r.live j obj loc (back j obj hj h1) h2
      obtain ⟨_, k2, k3⟩ := hoth j obj loc hj h1 h2
      exact ⟨k.1.mono (hle.trans hs) k2 k3, k.2⟩
  · intro j k oj ok lj lk hjk h1 h2 h3 h4
    by_cases hj : j = i
    · subst hj
      have hk' := Ne.symm hjk
      rw [St.named_μ] at h3; cases h3
      rw [St.named_ne hk', hμ] at h4
      exact Ne.symm (hoth k ok lk hk' h2 h4).1
    · rw [St.named_ne hj, hμ] at h3
      by_cases hk' : k = i
      · subst hk'
        rw [St.named_μ] at h4; cases h4
        exact (hoth j oj lj hj h1 h3).1
      · rw [St.named_ne hk', hμ] at h4
        exact r.inj j k oj ok lj lk hjk (back j oj hj h1) (back k ok hk' h2) h3 h4

section ops
variable (C : Ctx)

structure AppArgs (w0 : World) (B : Nat) (S : St) (h : Heap) (w : World) (t tx : TypeId) (te : TI) (e : TypeId) (xs : List CV) (y : Value) : Prop where
  r : R w0 B S h w
  hu : C.P.underlying t = some (.slice e)
  hte : C.tt e = some te
  src : ∃ news, FRs S xs news ∧ Src C.P te.sh.size tx y xs.length news w

/-- A new row, where there is no room. -/
theorem append_grow {w0 : World} {B : Nat} {S : St} {h : Heap} {w : World} {t tx ty e : TypeId} {te : TI} {xs : List CV} {y : Value} (A : AppArgs C w0 B S h w t tx te e xs y) {l : List CV} {base : Option Addr} {cap : Nat} {olds : List Value}
    (hol : FRs S l olds) (holn : olds.length = l.length * te.sh.size) (hold : ∀ j u, olds[j]? = some u → ∀ a, base = some a → a.spot = none ∧ S.K a.block (a.off + j) = some u) (hnone : base = none → l = [])
    (hg : cap < l.length + xs.length) (hfit : (l.length + xs.length) * te.bytes ≤ 140737488355328) (h63 : l.length + xs.length ≤ 9223372036854775807) :
    ∃ news rest cap', FRs S xs news ∧ (∀ x ∈ xs, True) ∧ (Builtin.append_ #[t, tx] ty #[.slice base l.length cap, y]).run C.P w =
        .ok (.slice (some ⟨w.heap.size, 0, none⟩) (l.length + xs.length) cap') (w.drew.alloc (.cells ((olds ++ news).toArray ++ rest) e)) ∧ l.length + xs.length ≤ cap' ∧ ((olds ++ news).toArray ++ rest).size = cap' * te.sh.size := by
  obtain ⟨news, hnews, hsrc⟩ := A.src
  have hok := C.htt _ _ A.hte
  obtain ⟨i, z, hi, hisz, hby, hz, hfz⟩ := hok.info
  have hzs : z.cells.size = te.sh.size := by rw [← Array.length_toList, FR.length (S := S) _ _ (FR_flatC _ _ hfz), CV.size, hok.zsh]
  have hold' : (Builtin.firstCells i.size l.length (.slice base l.length cap)).run C.P w.drew = .ok olds.toArray w.drew := by
    cases base with
    | none =>
      have : l = [] := hnone rfl
      subst this
      have : olds = [] := by simp [FRs] at hol; exact hol
      subst this
      exact run_firstCells_none w.drew i.size _ _ cap
    | some a =>
      refine run_firstCells_some w.drew i.size _ a _ cap olds (by rw [hisz]; exact holn) (fun j u hu => ?_)
      obtain ⟨hsp, hk⟩ := hold j u hu a rfl
      obtain ⟨b, o, s⟩ := a
      simp only at hsp hk
      subst hsp
      rw [Addr.add_mid]
      exact A.r.kcell _ _ _ hk
  have hrun := run_append_grow_src (P := C.P) w t tx ty e i z A.hu hi hz base l.length cap olds hold' y xs.length news (by rw [hisz]; exact hsrc) hg (by omega) (by rw [hby]; exact growslice_fits hg hfit)
  refine ⟨news, _, _, hnews, fun _ _ => trivial, hrun, grownCap_ge _ _ _ _, ?_⟩
  have hge := grownCap_ge w (l.length + xs.length) cap e
  rw [Array.size_append, size_zeroCells, hzs]
  have hl : (olds ++ news).toArray.size = (l.length + xs.length) * te.sh.size := by
    simp [holn, hsrc.newsLen, Nat.add_mul]
  rw [hl, ← Nat.add_mul]
  congr 1
  omega

/-- Nothing lies behind its elements. -/
def Tail.full : Tail → Bool
  | .nil | .exact => true
  | _ => false

/-- What append hands back where nobody goes on to grow it. -/
def qappend (h : Heap) (t tx : TypeId) (b x : CV) : Option CV :=
  match C.tt t, b, srcOf C h tx x with
  | some ⟨.base (.slice e), _, _, _⟩, .lst tl l, some xs =>
    match C.tt e with
    | some te => if tl.full = true ∧ (∀ v ∈ l, v.shape = te.sh) ∧ (∀ v ∈ xs, v.shape = te.sh) ∧ (l.length + xs.length) * te.bytes ≤ 140737488355328 ∧ l.length + xs.length ≤ 9223372036854775807 then some (.lst .view (l ++ xs)) else none
    | none => none
  | _, _, _ => none

theorem lst_parts {S : St} {tl : Tail} {l : List CV} {x : Value} {te : TI} (hx : VR S (.lst tl l) x) (hl : ∀ v ∈ l, v.shape = te.sh) :
    ∃ base cap olds, x = .slice base l.length cap ∧ l.length ≤ cap ∧ FRs S l olds ∧ olds.length = l.length * te.sh.size ∧ (∀ j u, olds[j]? = some u → ∀ a, base = some a → a.spot = none ∧ S.K a.block (a.off + j) = some u) ∧ (base = none → l = []) ∧ (tl.full = true → cap = l.length) ∧
      (∀ id, tl = .own id → l ≠ [] → ∃ rb sz, base = some ⟨rb, 0, none⟩ ∧ S.μ id = some (.tail rb cap sz) ∧ sz = te.sh.size) := by
  rw [VR_nonagg rfl] at hx; simp only [FR] at hx
  obtain ⟨hx, _⟩ := hx
  rcases hx with ⟨rfl, _, hx⟩ | ⟨b, off, cap, sz, es, hx, hcap, hes, hlies, hun, hf⟩
  · have hxe := (List.cons.inj hx).1
    exact ⟨none, 0, [], by rw [hxe]; rfl, by simp, by simp [FRs], by simp, by simp, fun _ => rfl, fun _ => rfl, fun _ _ h => absurd rfl h⟩
  · have hxe := (List.cons.inj hx).1
    refine ⟨some ⟨b, off, none⟩, cap, es, hxe, hcap, hes, by rw [FRs.length _ _ hes, sizes_all _ hl], fun j u hu a ha => by cases ha; exact ⟨rfl, hlies j u hu⟩, by simp, fun h => by
      cases tl <;> simp only [Tail.full, Bool.false_eq_true] at h
      · exact hf.elim
      · exact hf, ?_⟩
    intro id hid hne
    subst hid
    obtain ⟨h1, rfl⟩ := hf
    refine ⟨b, sz, rfl, h1, ?_⟩
    cases l with
    | nil => exact absurd rfl hne
    | cons v l => rw [← hun v (by simp), CV.size, hl v (by simp)]

theorem run_append_same {w0 : World} {B : Nat} {S : St} {h : Heap} {w : World} {t tx ty e : TypeId} {te : TI} {y : Value} (A : AppArgs C w0 B S h w t tx te e [] y) {base : Option Addr} {n cap : Nat} (hle : n ≤ cap) :
    (Builtin.append_ #[t, tx] ty #[.slice base n cap, y]).run C.P w = .ok (.slice base n cap) w := by
  obtain ⟨news, hnews, hsrc⟩ := A.src
  simp only [FRs] at hnews; subst hnews
  obtain ⟨i, z, hi, hisz, _⟩ := (C.htt _ _ A.hte).info
  exact run_append_nothing w t tx ty e i A.hu hi base n cap hle y (by rw [hisz]; exact hsrc)

theorem VR_view {S : St} {tl : Tail} {l : List CV} {x : Value} (h : VR S (.lst tl l) x) : VR S (.lst .view l) x := by
  rw [VR_nonagg rfl] at h ⊢; simp only [FR] at h ⊢
  obtain ⟨h1, h2⟩ := h
  refine ⟨?_, h2⟩
  rcases h1 with h1 | ⟨b, off, cap, sz, es, hx, hcap, hes, hlies, hun, _⟩
  · exact .inl ⟨h1.1, rfl, h1.2.2⟩
  · exact .inr ⟨b, off, cap, sz, es, hx, hcap, hes, hlies, hun, trivial⟩

theorem qappend_sound {w0 : World} {B : Nat} {S : St} {h : Heap} {w : World} (r : R w0 B S h w) {t tx ty : TypeId} {b x v : CV} {b' x' : Value} (hb : VR S b b') (hx : VR S x x') (hv : qappend C h t tx b x = some v) :
    QSound C w0 B S h w v (Builtin.append_ #[t, tx] ty #[b', x']) := by
  unfold qappend at hv
  split at hv <;> try (cases hv; done)
  rename_i e sh by_ ze tl l xs h1 h2
  split at hv <;> try (cases hv; done)
  rename_i te h3
  split at hv <;> try (cases hv; done)
  rename_i hc
  obtain ⟨hfull, hl, hxs, hfit, h63⟩ := hc
  cases hv
  have hok := C.htt _ _ h3
  have A : AppArgs C w0 B S h w t tx te e xs x' := ⟨r, (C.htt _ _ h1).d.1, h3, src_sound C r hok.good hx h2 hxs⟩
  obtain ⟨base, cap, olds, rfl, hcap, hol, holn, hold, hnone, hex, _⟩ := lst_parts hb hl
  have hcap' := hex hfull
  cases xs with
  | nil =>
    refine ⟨_, w, S, run_append_same C A hcap, St.le.refl _, rfl, rfl, r, ?_⟩
    rw [List.append_nil]; exact VR_view hb
  | cons z zs =>
    obtain ⟨news, rest, cap', hnews, _, hrun, hge, hsize⟩ := append_grow C (ty := ty) A hol holn hold hnone (show cap < l.length + (z :: zs).length by rw [hcap']; simp) hfit h63
    obtain ⟨hle, hr', hlies⟩ := r.drew.know ((olds ++ news).toArray ++ rest) e
    refine ⟨_, _, _, hrun, hle, rfl, rfl, hr', ?_⟩
    rw [VR_nonagg rfl]; simp only [FR]
    refine ⟨.inr ⟨w.heap.size, 0, cap', te.sh.size, olds ++ news, by simp, by simpa using hge, FRs.mono hle _ _ (FRs_append l hol hnews), ?_, ?_, trivial⟩, by simp⟩
    · have : ((olds ++ news).toArray ++ rest).toList = (olds ++ news) ++ rest.toList := by simp
      rw [this] at hlies
      exact lies_prefix hlies
    · intro u hu
      rcases List.mem_append.1 hu with hu | hu
      · rw [CV.size, hl u hu]
      · rw [CV.size, hxs u hu]

/-- Who may grow it. -/
def appTl (h : Heap) (tl : Tail) (l xs : List CV) (K : CV → Heap → Prop) : Prop :=
  match tl with
  | .nil | .exact => ∀ i, h i = none → K (.lst (.own i) (l ++ xs)) (upd h i (some (.tail (l.length + xs.length))))
  | .own j => l ≠ [] ∧ h j = some (.tail l.length) ∧ ∀ i, h i = none → K (.lst (.own i) (l ++ xs)) (upd (upd h j none) i (some (.tail (l.length + xs.length))))
  | .view => False
  | .part => False

/-- append where the list that comes of it may be grown again. -/
def cappend (h : Heap) (t tx : TypeId) (b x : CV) (K : CV → Heap → Prop) : Prop :=
  match C.tt t, b, srcOf C h tx x with
  | some ⟨.base (.slice e), _, _, _⟩, .lst tl l, some xs =>
    match C.tt e with
    | some te => (∀ v ∈ l, v.shape = te.sh) ∧ (∀ v ∈ xs, v.shape = te.sh) ∧ (l.length + xs.length) * te.bytes ≤ 140737488355328 ∧ l.length + xs.length ≤ 9223372036854775807 ∧
        (xs = [] → K (.lst tl l) h) ∧
        (xs ≠ [] → appTl h tl l xs K)
    | none => False
  | _, _, _ => False

/-- The heap behind an append that names its list `i`. -/
def appH (h : Heap) (tl : Tail) (i n : Nat) : Heap :=
  match tl with
  | .own j => upd (upd h j none) i (some (.tail n))
  | _ => upd h i (some (.tail n))

theorem cappend_sound2 {w0 : World} {B : Nat} {S : St} {h : Heap} {w : World} (r : R w0 B S h w) {t tx ty : TypeId} {b x : CV} {b' x' : Value} (hb : VR S b b') (hx : VR S x x') {K : CV → Heap → Prop} (hv : cappend C h t tx b x K) :
    ∃ y w' S' v h', (Builtin.append_ #[t, tx] ty #[b', x']).run C.P w = .ok y w' ∧ S.ext S' ∧ R w0 B S' h' w' ∧ VR S' v y ∧ K v h' ∧
      ∃ tl l xs, b = .lst tl l ∧ srcOf C h tx x = some xs ∧ ((xs = [] ∧ v = .lst tl l ∧ h' = h ∧ S'.n = S.n) ∨ (xs ≠ [] ∧ v = .lst (.own S.n) (l ++ xs) ∧ h' = appH h tl S.n (l.length + xs.length) ∧ S'.n = S.n + 1)) := by
  unfold cappend at hv
  split at hv <;> try (exact hv.elim)
  rename_i e sh by_ ze tl l xs h1 h2
  split at hv <;> try (exact hv.elim)
  rename_i te h3
  obtain ⟨hl, hxs, hfit, h63, hk0, hk1⟩ := hv
  have hok := C.htt _ _ h3
  have A : AppArgs C w0 B S h w t tx te e xs x' := ⟨r, (C.htt _ _ h1).d.1, h3, src_sound C r hok.good hx h2 hxs⟩
  obtain ⟨base, cap, olds, rfl, hcap, hol, holn, hold, hnone, hex, hown⟩ := lst_parts hb hl
  by_cases hnil : xs = []
  · subst hnil
    exact ⟨_, w, S, _, h, run_append_same C A hcap, St.ext.refl _, r, hb, hk0 rfl, tl, l, [], rfl, h2, .inl ⟨rfl, rfl, rfl, rfl⟩⟩
  · have hk1 := hk1 hnil
    have hpos : 0 < xs.length := List.length_pos_iff.2 hnil
    have hsz : ∀ u ∈ l ++ xs, u.size = te.sh.size := fun u hu => by
      rcases List.mem_append.1 hu with hu | hu
      · rw [CV.size, hl u hu]
      · rw [CV.size, hxs u hu]
    have hfresh := r.fresh S.n (Nat.le_refl _)
    -- a new row, and a name for its tail
    have grow : cap < l.length + xs.length → ∀ h' : Heap, h' S.n = some (.tail (l.length + xs.length)) → (∀ j, j ≠ S.n → h' j = none ∨ h' j = h j) →
        ∃ y w' S', (Builtin.append_ #[t, tx] ty #[.slice base l.length cap, x']).run C.P w = .ok y w' ∧ S.ext S' ∧ R w0 B S' h' w' ∧ VR S' (.lst (.own S.n) (l ++ xs)) y ∧ S'.n = S.n + 1 := by
      intro hg h' hi' hh
      obtain ⟨news, rest, cap', hnews, _, hrun, hge, hsize⟩ := append_grow C (ty := ty) A hol holn hold hnone hg hfit h63
      have hKn : ∀ o, S.K w.heap.size o = none := fun o => by
        cases hk : S.K w.heap.size o with
        | none => rfl
        | some v => have := lt_of_cell (r.kcell _ _ _ hk); omega
      have hle := St.le_grow (S := S) (b := w.heap.size) (o := 0) (cs := olds ++ news) (fun j _ => hKn j)
      have hnl : (olds ++ news).length = (l.length + xs.length) * te.sh.size := by
        rw [List.length_append, holn, FRs.length _ _ hnews, sizes_all _ hxs, Nat.add_mul]
      have hr' := R.tailed r hle rfl rfl (Nat.le_refl S.n) (rb := w.heap.size) (cap := cap') (sz := te.sh.size) (n := l.length + xs.length) (w1 := w.drew.alloc (.cells ((olds ++ news).toArray ++ rest) e)) (r.drew.below.alloc r.size _)
        (by have := r.size; rw [show (w.drew.alloc (.cells ((olds ++ news).toArray ++ rest) e)).heap = w.heap.push (.cells ((olds ++ news).toArray ++ rest) e) from rfl, Array.size_push]; omega)
        (fun b o v hk => by
          have hk' : (if b = w.heap.size ∧ 0 ≤ o ∧ o < 0 + (olds ++ news).length then (olds ++ news)[o - 0]? else S.K b o) = some v := hk
          clear hk
          split at hk'
          · rename_i hc
            obtain ⟨rfl, _, ho⟩ := hc
            rw [cell_cells (arr := (olds ++ news).toArray ++ rest) (e := e) (fr := (0, 0)) (by rw [show (w.drew.alloc (.cells ((olds ++ news).toArray ++ rest) e)).heap = w.heap.push (.cells ((olds ++ news).toArray ++ rest) e) from rfl]; simp)]
            rw [Array.getElem?_append_left (by simpa using ho)]
            simpa using hk'
          · have := r.kcell b o v hk'
            rw [cell_of_block (w := w) (Below.heap_alloc w.drew _ b (lt_of_cell this))]; exact this)
        hi' hh r.size
        ⟨⟨_, e, by rw [show (w.drew.alloc (.cells ((olds ++ news).toArray ++ rest) e)).heap = w.heap.push (.cells ((olds ++ news).toArray ++ rest) e) from rfl]; simp, hsize, hge⟩, fun o ho => by
          show (if w.heap.size = w.heap.size ∧ 0 ≤ o ∧ o < 0 + (olds ++ news).length then _ else S.K w.heap.size o) = none
          rw [if_neg (by rw [hnl]; omega)]; exact hKn o⟩
        (fun j obj loc hj h1 h2 => by
          have hb : h j = some obj := by
            rcases hh j hj with e | e
            · rw [e] at h1; cases h1
            · rw [← e]; exact h1
          have hlt := (r.live j obj loc hb h2).1.lt
          refine ⟨by omega, Below.heap_alloc w.drew _ _ hlt, fun o ho => ?_⟩
          show (if loc.block = w.heap.size ∧ 0 ≤ o ∧ o < 0 + (olds ++ news).length then _ else S.K loc.block o) = none
          rw [if_neg (by omega)]; exact ho)
      have hext : S.ext ((S.grow w.heap.size 0 (olds ++ news)).named S.n (.tail w.heap.size cap' te.sh.size)) :=
        St.ext.trans ⟨hle, fun _ _ h => h⟩ (St.ext_named (Nat.le_refl _) hfresh.1)
      refine ⟨_, _, _, hrun, hext, hr', ?_, Nat.max_eq_right (Nat.le_succ _)⟩
      rw [VR_nonagg rfl]; simp only [FR]
      refine ⟨.inr ⟨w.heap.size, 0, cap', te.sh.size, olds ++ news, by simp, by simpa using hge, FRs.mono hext.le _ _ (FRs_append l hol hnews), St.lies_mono (St.le_named (S := S.grow w.heap.size 0 (olds ++ news)) hfresh.1) St.grow_lies, hsz, St.named_μ, rfl⟩, by simp⟩
    cases tl with
    | view => exact hk1.elim
    | part => exact hk1.elim
    | nil =>
      have hcap' := hex rfl
      obtain ⟨y, w', S', k1, k2, k3, k4, k5⟩ := grow (by omega) _ (upd_same _ _ _) (fun j hj => .inr (upd_ne _ _ hj))
      exact ⟨y, w', S', _, _, k1, k2, k3, k4, hk1 S.n hfresh.2, _, l, xs, rfl, h2, .inr ⟨hnil, rfl, rfl, k5⟩⟩
    | exact =>
      have hcap' := hex rfl
      obtain ⟨y, w', S', k1, k2, k3, k4, k5⟩ := grow (by omega) _ (upd_same _ _ _) (fun j hj => .inr (upd_ne _ _ hj))
      exact ⟨y, w', S', _, _, k1, k2, k3, k4, hk1 S.n hfresh.2, _, l, xs, rfl, h2, .inr ⟨hnil, rfl, rfl, k5⟩⟩
    | own id =>
      obtain ⟨hne, hid, hk1⟩ := hk1
      have hidn : id ≠ S.n := fun e => by rw [e, hfresh.2] at hid; cases hid
      have hupd : ∀ j, j ≠ S.n → upd (upd h id none) S.n (some (.tail (l.length + xs.length))) j = none ∨ upd (upd h id none) S.n (some (.tail (l.length + xs.length))) j = h j := fun j hj => by
        rw [upd_ne _ _ hj]
        by_cases e : j = id
        · subst e; exact .inl (upd_same _ _ _)
        · exact .inr (upd_ne _ _ e)
      by_cases hroom : l.length + xs.length ≤ cap
      · obtain ⟨rb, sz, rfl, hμ, hsze⟩ := hown id rfl hne
        obtain ⟨⟨⟨arr, e', ha, hasz, hnc⟩, hKt⟩, hB⟩ := r.live id _ _ hid hμ
        simp only [Loc.block] at hB
        obtain ⟨news, hnews, hsrc⟩ := A.src
        obtain ⟨i, z, hi, hisz, _⟩ := hok.info
        subst hsze
        have hnl : news.length = xs.length * te.sh.size := hsrc.newsLen
        have hcells : ∀ j, j < news.length → l.length * te.sh.size + j < arr.size := fun j hj => by
          rw [hasz]
          have : (l.length + xs.length) * te.sh.size ≤ cap * te.sh.size := Nat.mul_le_mul_right _ hroom
          rw [Nat.add_mul] at this
          omega
        have hrun := run_append_room_src (P := C.P) w t tx ty e i A.hu hi rb 0 l.length cap x' xs.length news (by rw [hisz]; exact hsrc) hroom
          (fun j hj => by rw [hisz, cell_cells ha]; simp; have := hcells j hj; omega) (fun j hj => by simp [World.frozen?, ha])
        rw [hisz] at hrun
        simp only [Nat.zero_add] at hrun
        have hle := St.le_grow (S := S) (b := rb) (o := l.length * te.sh.size) (cs := news) (fun j hj => hKt j hj)
        obtain ⟨arr', ha', harr'⟩ := heap_setCells (b := rb) (e := e') news (arr.toList.take (l.length * te.sh.size)) ((arr.toList.drop (l.length * te.sh.size)).take news.length) ((arr.toList.drop (l.length * te.sh.size)).drop news.length) w arr ha (by rw [List.append_assoc, List.take_append_drop, List.take_append_drop]) (by
          simp
          have : (l.length + xs.length) * te.sh.size ≤ arr.size := by rw [hasz]; exact Nat.mul_le_mul_right _ hroom
          rw [Nat.add_mul] at this
          omega)
        have htl : (arr.toList.take (l.length * te.sh.size)).length = l.length * te.sh.size := by
          simp
          rw [hasz]; exact Nat.min_eq_left (Nat.mul_le_mul_right _ hnc)
        rw [htl] at ha'
        have hr' := R.tailed r hle rfl rfl (Nat.le_refl S.n) (rb := rb) (cap := cap) (sz := te.sh.size) (n := l.length + xs.length) (h' := upd (upd h id none) S.n (some (.tail (l.length + xs.length)))) (w1 := w.setCells rb (l.length * te.sh.size) news) (below_setCells hB _ _ _ r.below) (by rw [size_setCells]; exact r.size)
          (fun b o v hk => by
            have hk' : (if b = rb ∧ l.length * te.sh.size ≤ o ∧ o < l.length * te.sh.size + news.length then news[o - l.length * te.sh.size]? else S.K b o) = some v := hk
            clear hk
            split at hk'
            · rename_i hc
              obtain ⟨rfl, ho1, ho2⟩ := hc
              have := World.cell?_setCells_in b news (l.length * te.sh.size) w (fun j hj => by rw [cell_cells ha]; simp; exact hcells j hj) (o - l.length * te.sh.size) (by omega)
              rw [show l.length * te.sh.size + (o - l.length * te.sh.size) = o by omega] at this
              rw [this]
              rw [List.getElem?_eq_getElem (by omega)] at hk'
              exact hk'
            · rename_i hc
              have := r.kcell b o v hk'
              rw [World.cell?_setCells_out rb news (l.length * te.sh.size) w ⟨b, o, none⟩ (fun h1 _ => by simp at h1 ⊢; by_cases hlt : o < l.length * te.sh.size; exact .inl hlt; exact .inr (by have := fun h2 h3 => hc ⟨h1, h2, h3⟩; omega))]
              exact this)
          (upd_same _ _ _) hupd hB
          ⟨⟨arr', e', ha', by
            have : arr'.toList.length = arr.toList.length := by
              rw [harr']
              simp
              have : (l.length + xs.length) * te.sh.size ≤ arr.size := by rw [hasz]; exact Nat.mul_le_mul_right _ hroom
              rw [Nat.add_mul] at this
              omega
            rw [Array.length_toList, Array.length_toList] at this
            rw [this, hasz], hroom⟩, fun o ho => by
            show (if rb = rb ∧ l.length * te.sh.size ≤ o ∧ o < l.length * te.sh.size + news.length then _ else S.K rb o) = none
            rw [Nat.add_mul] at ho
            rw [if_neg (by omega)]; exact hKt o (by omega)⟩
          (fun j obj loc hj h1 h2 => by
            rw [upd_ne _ _ hj] at h1
            have hji : j ≠ id := fun e => by subst e; rw [upd_same] at h1; cases h1
            rw [upd_ne _ _ hji] at h1
            have hne' : loc.block ≠ rb := r.inj j id obj _ loc _ hji h1 hid h2 hμ
            refine ⟨hne', heap_setCells_ne hne' _ _ _, fun o ho => ?_⟩
            show (if loc.block = rb ∧ l.length * te.sh.size ≤ o ∧ o < l.length * te.sh.size + news.length then _ else S.K loc.block o) = none
            rw [if_neg (fun h => hne' h.1)]; exact ho)
        have hext : S.ext ((S.grow rb (l.length * te.sh.size) news).named S.n (.tail rb cap te.sh.size)) :=
          St.ext.trans ⟨hle, fun _ _ h => h⟩ (St.ext_named (Nat.le_refl _) hfresh.1)
        refine ⟨_, _, _, _, _, hrun, hext, hr', ?_, hk1 S.n hfresh.2, _, l, xs, rfl, h2, .inr ⟨hnil, rfl, rfl, Nat.max_eq_right (Nat.le_succ _)⟩⟩
        rw [VR_nonagg rfl]; simp only [FR]
        refine ⟨.inr ⟨rb, 0, cap, te.sh.size, olds ++ news, by simp, by simpa using hroom, FRs.mono hext.le _ _ (FRs_append l hol hnews), ?_, hsz, St.named_μ, rfl⟩, by simp⟩
        refine lies_append ?_ ?_
        · exact St.lies_mono hext.le (fun j u hu => by have := (hold j u hu _ rfl).2; simpa using this)
        · rw [holn, Nat.zero_add]; exact St.lies_mono (St.le_named (S := S.grow rb (l.length * te.sh.size) news) hfresh.1) St.grow_lies
      · obtain ⟨y, w', S', k1, k2, k3, k4, k5⟩ := grow (by omega) _ (upd_same _ _ _) hupd
        exact ⟨y, w', S', _, _, k1, k2, k3, k4, hk1 S.n hfresh.2, _, l, xs, rfl, h2, .inr ⟨hnil, rfl, rfl, k5⟩⟩

theorem cappend_sound {w0 : World} {B : Nat} {S : St} {h : Heap} {w : World} (r : R w0 B S h w) {t tx ty : TypeId} {b x : CV} {b' x' : Value} (hb : VR S b b') (hx : VR S x x') {K : CV → Heap → Prop} (hv : cappend C h t tx b x K) :
    ∃ y w' S' v h', (Builtin.append_ #[t, tx] ty #[b', x']).run C.P w = .ok y w' ∧ S.ext S' ∧ R w0 B S' h' w' ∧ VR S' v y ∧ K v h' := by
  obtain ⟨y, w', S', v, h', k1, k2, k3, k4, k5, _⟩ := cappend_sound2 C r (ty := ty) hb hx hv
  exact ⟨y, w', S', v, h', k1, k2, k3, k4, k5⟩
end ops
end Go.Cl
