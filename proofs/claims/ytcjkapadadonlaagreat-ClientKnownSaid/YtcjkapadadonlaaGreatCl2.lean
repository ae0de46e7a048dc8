/-
  The clean heap and what it says of the model's world.
-/
import Derived.Test.YtcjkapadadonlaaGreatCl1
set_option linter.unusedSimpArgs false
set_option linter.unusedVariables false
namespace Go.Cl
open Go.RowKit

/-- Objects of the clean heap: a variable (an array, a struct) with all it has; how long the longest list is that may grow in place; a map. -/
inductive Obj where
  | var (v : CV)
  | tail (n : Nat)
  | map (l : List (CV × CV))

abbrev Heap := Nat → Option Obj

def upd (h : Heap) (i : Nat) (o : Option Obj) : Heap := fun j => if j = i then o else h j
theorem upd_same (h : Heap) (i : Nat) (o : Option Obj) : upd h i o i = o := if_pos rfl
theorem upd_ne (h : Heap) {i j : Nat} (o : Option Obj) (hj : j ≠ i) : upd h i o j = h j := if_neg hj
theorem upd_upd (h : Heap) (i : Nat) (o o' : Option Obj) : upd (upd h i o) i o' = upd h i o' := by
  funext j; unfold upd; split <;> rfl
theorem upd_back {h : Heap} {i : Nat} {o : Option Obj} (hi : h i = none) : upd (upd h i o) i none = h := by
  funext j; unfold upd; split <;> simp_all
theorem upd_self {h : Heap} {i : Nat} {o : Option Obj} (hi : h i = o) : upd h i o = h := by
  funext j; unfold upd; split <;> simp_all
theorem upd_comm (h : Heap) {i j : Nat} (o o' : Option Obj) (hij : i ≠ j) : upd (upd h i o) j o' = upd (upd h j o') i o := by
  funext k; unfold upd; by_cases h1 : k = i <;> by_cases h2 : k = j <;> simp_all

def Entries (S : St) (l : List (CV × CV)) (es : List MapEntry) : Prop :=
  l.length = es.length ∧ ∀ (i : Nat) (x : CV × CV) (e : MapEntry), l[i]? = some x → es[i]? = some e → VR S x.1 e.key ∧ VR S x.2 e.val

def Live (S : St) (w : World) : Obj → Loc → Prop
  | .var v, .var rb sh tot => v.shape = sh ∧ (∃ arr e cs junk, w.heap[rb]? = some (.cells arr e (0, 0)) ∧ arr.toList = cs ++ junk ∧ arr.size = tot ∧ FR S v cs) ∧ ∀ o, S.K rb o = none
  | .tail n, .tail rb cap sz => (∃ arr e, w.heap[rb]? = some (.cells arr e (0, 0)) ∧ arr.size = cap * sz ∧ n ≤ cap) ∧ ∀ o, n * sz ≤ o → S.K rb o = none
  | .map l, .map rb => (∃ es clock, w.heap[rb]? = some (.map es clock) ∧ Entries S l es.toList) ∧ ∀ o, S.K rb o = none
  | _, _ => False

structure R (w0 : World) (B : Nat) (S : St) (h : Heap) (w : World) : Prop where
  below : Below B w0 w
  size : B ≤ w.heap.size
  kcell : ∀ b o v, S.K b o = some v → w.cell? ⟨b, o, none⟩ = some v
  fresh : ∀ i, S.n ≤ i → S.μ i = none ∧ h i = none
  live : ∀ i obj loc, h i = some obj → S.μ i = some loc → Live S w obj loc ∧ B ≤ loc.block
  inj : ∀ i j oi oj li lj, i ≠ j → h i = some oi → h j = some oj → S.μ i = some li → S.μ j = some lj → li.block ≠ lj.block

theorem cell_of_block {w w' : World} {b : Nat} (h : w'.heap[b]? = w.heap[b]?) (o : Nat) : w'.cell? ⟨b, o, none⟩ = w.cell? ⟨b, o, none⟩ := by simp [World.cell?, h]

theorem cell_cells {w : World} {b : Nat} {arr : Array Value} {e : TypeId} {fr : Nat × Nat} (h : w.heap[b]? = some (.cells arr e fr)) (o : Nat) : w.cell? ⟨b, o, none⟩ = arr[o]? := by
  simp [World.cell?, h]

theorem lt_of_cell {w : World} {b o : Nat} {v : Value} (h : w.cell? ⟨b, o, none⟩ = some v) : b < w.heap.size := by
  unfold World.cell? at h
  by_cases hb : b < w.heap.size
  · exact hb
  · simp [Array.getElem?_eq_none (Nat.le_of_not_lt hb)] at h

theorem Entries.mono {S S' : St} (h : S.le S') {l : List (CV × CV)} {es : List MapEntry} (k : Entries S l es) : Entries S' l es :=
  ⟨k.1, fun i x e h1 h2 => ⟨VR.mono h (k.2 i x e h1 h2).1, VR.mono h (k.2 i x e h1 h2).2⟩⟩

/-- What lives on, where its block is as it was and nothing more is known of it. -/
theorem Live.mono {S S' : St} {w w' : World} (hS : S.le S') {obj : Obj} {loc : Loc} (hw : w'.heap[loc.block]? = w.heap[loc.block]?)
    (hk : ∀ o, S.K loc.block o = none → S'.K loc.block o = none) (h : Live S w obj loc) : Live S' w' obj loc := by
  cases obj <;> cases loc <;> simp only [Live] at h ⊢ <;> try (exact h.elim)
  · obtain ⟨h1, ⟨arr, e, cs, junk, h2, ha, hz, h3⟩, h4⟩ := h
    exact ⟨h1, ⟨arr, e, cs, junk, by rw [← h2]; exact hw, ha, hz, FR.mono hS _ _ h3⟩, fun o => hk o (h4 o)⟩
  · obtain ⟨⟨arr, e, h2, h3⟩, h4⟩ := h
    exact ⟨⟨arr, e, by rw [← h2]; exact hw, h3⟩, fun o ho => hk o (h4 o ho)⟩
  · obtain ⟨⟨es, clock, h2, h3⟩, h4⟩ := h
    exact ⟨⟨es, clock, by rw [← h2]; exact hw, h3.mono hS⟩, fun o => hk o (h4 o)⟩

theorem Live.lt {S : St} {w : World} {obj : Obj} {loc : Loc} (h : Live S w obj loc) : loc.block < w.heap.size := by
  have key : ∀ (b : Nat) (o : Go.Obj), w.heap[b]? = some o → b < w.heap.size := fun b o hb => (Array.getElem?_eq_some_iff.1 hb).1
  cases obj <;> cases loc <;> simp only [Live] at h <;> try (exact h.elim)
  · obtain ⟨_, ⟨arr, e, cs, junk, h2, _⟩, _⟩ := h; exact key _ _ h2
  · obtain ⟨⟨arr, e, h2, _⟩, _⟩ := h; exact key _ _ h2
  · obtain ⟨⟨es, clock, h2, _⟩, _⟩ := h; exact key _ _ h2

/-- A step of the world in which nothing that was there turns, and nothing more is known. -/
theorem R.same {w0 : World} {B : Nat} {S : St} {h : Heap} {w w' : World} (r : R w0 B S h w) (hb : Below B w0 w') (hs : B ≤ w'.heap.size) (hw : ∀ b, b < w.heap.size → w'.heap[b]? = w.heap[b]?) : R w0 B S h w' where
  below := hb
  size := hs
  kcell b o v hk := by
    have := r.kcell b o v hk
    rw [cell_of_block (hw b (lt_of_cell this))]; exact this
  fresh := r.fresh
  live i obj loc h1 h2 := by
    have := r.live i obj loc h1 h2
    exact ⟨this.1.mono (St.le.refl _) (hw _ this.1.lt) (fun _ h => h), this.2⟩
  inj := r.inj

theorem R.drew {w0 : World} {B : Nat} {S : St} {h : Heap} {w : World} (r : R w0 B S h w) : R w0 B S h w.drew :=
  r.same (r.below.drew) r.size (fun _ _ => rfl)

/-- Less heap is no less true. -/
theorem R.drop {w0 : World} {B : Nat} {S : St} {h h' : Heap} {w : World} (r : R w0 B S h w) (hh : ∀ i, h' i = none ∨ h' i = h i) : R w0 B S h' w where
  below := r.below
  size := r.size
  kcell := r.kcell
  fresh i hi := ⟨(r.fresh i hi).1, by rcases hh i with e | e; exact e; rw [e]; exact (r.fresh i hi).2⟩
  live i obj loc h1 h2 := by
    rcases hh i with e | e
    · rw [e] at h1; cases h1
    · exact r.live i obj loc (by rw [← e]; exact h1) h2
  inj i j oi oj li lj hij h1 h2 h3 h4 := by
    rcases hh i with e | e
    · rw [e] at h1; cases h1
    rcases hh j with e' | e'
    · rw [e'] at h2; cases h2
    exact r.inj i j oi oj li lj hij (by rw [← e]; exact h1) (by rw [← e']; exact h2) h3 h4

/-- The name is laid out for a new object. -/
def St.named (S : St) (i : Nat) (l : Loc) : St := { K := S.K, μ := fun j => if j = i then some l else S.μ j, n := max S.n (i + 1) }
theorem St.le_named {S : St} {i : Nat} {l : Loc} (hi : S.μ i = none) : S.le (S.named i l) where
  K _ _ _ h := h
  μ j x hj := by
    show (if j = i then some l else S.μ j) = some x
    rw [if_neg (fun e => by rw [e, hi] at hj; cases hj)]; exact hj
  n := Nat.le_max_left _ _
theorem St.named_μ {S : St} {i : Nat} {l : Loc} : (S.named i l).μ i = some l := if_pos rfl

/-- A new block, of a variable, behind a name that has none yet. -/
theorem R.alloc {w0 : World} {B : Nat} {S : St} {h h' : Heap} {w : World} (r : R w0 B S h w) {i : Nat} {v : CV} {arr : Array Value} {e : TypeId}
    (hi : S.μ i = none) (hv : FR S v arr.toList) (hi' : h' i = some (.var v)) (hh : ∀ j, j ≠ i → h' j = h j) :
    R w0 B (S.named i (.var w.heap.size v.shape arr.size)) h' (w.alloc (.cells arr e)) where
  below := r.below.alloc r.size _
  size := by have := r.size; rw [show (w.alloc (.cells arr e)).heap = w.heap.push (.cells arr e) from rfl, Array.size_push]; omega
  kcell b o x hk := by
    have := r.kcell b o x hk
    rw [cell_of_block (Below.heap_alloc w _ b (lt_of_cell this))]; exact this
  fresh j hj := by
    have h1 : S.n ≤ j := Nat.le_trans (Nat.le_max_left _ _) hj
    have h2 : j ≠ i := by have := Nat.le_trans (Nat.le_max_right S.n (i + 1)) hj; omega
    refine ⟨?_, by rw [hh j h2]; exact (r.fresh j h1).2⟩
    show (if j = i then some _ else S.μ j) = none
    rw [if_neg h2]; exact (r.fresh j h1).1
  live j obj loc h1 h2 := by
    by_cases hj : j = i
    · subst hj
      rw [hi'] at h1; cases h1
      rw [St.named_μ] at h2; cases h2
      refine ⟨⟨rfl, ⟨arr, e, arr.toList, [], by rw [show (w.alloc (.cells arr e)).heap = w.heap.push (.cells arr e) from rfl]; simp, by simp, rfl, FR.mono (St.le_named hi) _ _ hv⟩, fun o => ?_⟩, r.size⟩
      cases hk : S.K w.heap.size o with
      | none => exact hk
      | some x => have := lt_of_cell (r.kcell _ _ _ hk); omega
    · rw [hh j hj] at h1
      have h2' : S.μ j = some loc := by
        have : (if j = i then some (Loc.var w.heap.size v.shape arr.size) else S.μ j) = some loc := h2
        rwa [if_neg hj] at this
      have := r.live j obj loc h1 h2'
      exact ⟨this.1.mono (St.le_named hi) (Below.heap_alloc w _ _ this.1.lt) (fun _ h => h), this.2⟩
  inj j k oj ok lj lk hjk h1 h2 h3 h4 := by
    have get : ∀ j l, j ≠ i → (S.named i (.var w.heap.size v.shape arr.size)).μ j = some l → S.μ j = some l := fun j l hj h => by
      have : (if j = i then some (Loc.var w.heap.size v.shape arr.size) else S.μ j) = some l := h
      rwa [if_neg hj] at this
    by_cases hj : j = i
    · subst hj
      have hk := Ne.symm hjk
      rw [St.named_μ] at h3; cases h3
      rw [hh k hk] at h2
      have := (r.live k ok lk h2 (get k _ hk h4)).1.lt
      show w.heap.size ≠ _; omega
    · rw [hh j hj] at h1
      by_cases hk : k = i
      · subst hk
        rw [St.named_μ] at h4; cases h4
        have := (r.live j oj lj h1 (get j _ hj h3)).1.lt
        show _ ≠ w.heap.size; omega
      · rw [hh k hk] at h2
        exact r.inj j k oj ok lj lk hjk h1 h2 (get j _ hj h3) (get k _ hk h4)

theorem heap_setCells {b : Nat} {e : TypeId} : ∀ (vs : List Value) (pre c post : List Value) (w : World) (arr : Array Value), w.heap[b]? = some (.cells arr e (0, 0)) → arr.toList = pre ++ c ++ post → c.length = vs.length →
    ∃ arr', (w.setCells b pre.length vs).heap[b]? = some (.cells arr' e (0, 0)) ∧ arr'.toList = pre ++ vs ++ post
  | [], pre, c, post, w, arr, h, ha, hc => ⟨arr, h, by have : c = [] := List.length_eq_zero_iff.1 (by simpa using hc); subst this; simpa using ha⟩
  | v :: vs, pre, [], post, w, arr, h, ha, hc => by simp at hc
  | v :: vs, pre, c :: cs, post, w, arr, h, ha, hc => by
    have h1 : (w.setCell ⟨b, pre.length, none⟩ v).heap[b]? = some (.cells (arr.setIfInBounds pre.length v) e (0, 0)) := by
      simp [World.setCell, Array.getElem?_modify, h]
    have h2 : (arr.setIfInBounds pre.length v).toList = (pre ++ [v]) ++ cs ++ post := by
      rw [Array.toList_setIfInBounds, ha]
      simp
    obtain ⟨arr', k1, k2⟩ := heap_setCells vs (pre ++ [v]) cs post _ _ h1 h2 (by simpa using hc)
    refine ⟨arr', ?_, by simpa using k2⟩
    simpa [World.setCells] using k1

theorem heap_setCells_ne {b b' : Nat} (hb : b' ≠ b) : ∀ (vs : List Value) (o : Nat) (w : World), (w.setCells b o vs).heap[b']? = w.heap[b']?
  | [], _, _ => rfl
  | v :: vs, _, _ => by
    simp only [World.setCells]
    rw [heap_setCells_ne hb vs]
    exact Below.heap_setCell _ _ v b' hb

theorem below_setCells {B b : Nat} {w0 : World} (hb : B ≤ b) : ∀ (vs : List Value) (o : Nat) (w : World), Below B w0 w → Below B w0 (w.setCells b o vs)
  | [], _, _, h => h
  | v :: vs, o, _, h => below_setCells hb vs (o + 1) _ (h.setCell hb v)

theorem size_setCells {b : Nat} : ∀ (vs : List Value) (o : Nat) (w : World), (w.setCells b o vs).heap.size = w.heap.size
  | [], _, _ => rfl
  | v :: vs, _, _ => by simp only [World.setCells]; rw [size_setCells vs]; simp [World.setCell]

/-- A store into a variable. -/
theorem R.store {w0 : World} {B : Nat} {S : St} {h : Heap} {w : World} (r : R w0 B S h w) {i rb tot : Nat} {sh : Shape} {v x y : CV} {p : List Nat} {c' : List Value} {o : Nat}
    (hi : h i = some (.var v)) (hμ : S.μ i = some (.var rb sh tot)) (hp : v.at p = some x) (ho : sh.off p = some o) (hy : FR S y c') (hs : y.shape = x.shape) :
    R w0 B S (upd h i (some (.var (v.set p y)))) (w.setCells rb o c') ∧ w.there rb o c'.length := by
  have hl := r.live i _ _ hi hμ
  obtain ⟨⟨hsh, ⟨arr, e, cs0, junk, ha, hj, hz, hf⟩, hK⟩, hB⟩ := hl
  simp only [Loc.block] at hB
  obtain ⟨pre, c, post, hc, hoff, hx, hset⟩ := FR.focus p v cs0 x hf hp
  rw [hsh, ho] at hoff
  cases hoff
  have hlen : c.length = c'.length := by rw [FR.length _ _ hx, FR.length _ _ hy, CV.size, CV.size, hs]
  have hc : arr.toList = pre ++ c ++ (post ++ junk) := by rw [hj, hc]; simp
  obtain ⟨arr', k1, k2⟩ := heap_setCells c' pre c (post ++ junk) w arr ha hc hlen
  have other : ∀ j obj loc, j ≠ i → h j = some obj → S.μ j = some loc → loc.block ≠ rb := fun j obj loc hj h1 h2 =>
    r.inj j i obj _ loc _ hj h1 hi h2 hμ
  refine ⟨⟨below_setCells hB _ _ _ r.below, by rw [size_setCells]; exact r.size, ?_, ?_, ?_, ?_⟩, ?_⟩
  · intro b o v hk
    have hb : b ≠ rb := fun e => by subst e; rw [hK] at hk; cases hk
    rw [cell_of_block (heap_setCells_ne hb _ _ _)]
    exact r.kcell b o v hk
  · intro j hj
    refine ⟨(r.fresh j hj).1, ?_⟩
    have hji : j ≠ i := fun e => by subst e; rw [(r.fresh _ hj).1] at hμ; cases hμ
    rw [upd_ne _ _ hji]; exact (r.fresh j hj).2
  · intro j obj loc h1 h2
    by_cases hj : j = i
    · subst hj
      rw [upd_same] at h1; cases h1
      rw [hμ] at h2; cases h2
      refine ⟨⟨by rw [CV.shape_set p v x y hp hs]; exact hsh, ⟨arr', e, pre ++ c' ++ post, junk, k1, by rw [k2]; simp, ?_, hset S y c' (St.le.refl _) hy⟩, hK⟩, hB⟩
      rw [← hz, ← Array.length_toList, ← Array.length_toList, k2, hc]
      simp [hlen]
    · rw [upd_ne _ _ hj] at h1
      have := r.live j obj loc h1 h2
      exact ⟨this.1.mono (St.le.refl _) (heap_setCells_ne (other j obj loc hj h1 h2) _ _ _) (fun _ h => h), this.2⟩
  · intro j k oj ok lj lk hjk h1 h2 h3 h4
    have get : ∀ j oj, upd h i (some (.var (v.set p y))) j = some oj → ∃ oj', h j = some oj' := fun j oj hj => by
      by_cases e : j = i
      · subst e; exact ⟨_, hi⟩
      · rw [upd_ne _ _ e] at hj; exact ⟨_, hj⟩
    obtain ⟨_, h1'⟩ := get j oj h1
    obtain ⟨_, h2'⟩ := get k ok h2
    exact r.inj j k _ _ lj lk hjk h1' h2' h3 h4
  · intro j hj
    have hlt : pre.length + j < arr.size := by
      have : arr.toList.length = pre.length + c.length + (post ++ junk).length := by rw [hc]; simp only [List.length_append, Nat.add_assoc]
      rw [← Array.length_toList, this]; omega
    refine ⟨by rw [cell_cells ha]; simp [hlt], by simp [World.frozen?, ha]⟩

/-- What a pointer to a variable reads. -/
theorem R.load {w0 : World} {B : Nat} {S : St} {h : Heap} {w : World} (r : R w0 B S h w) {i rb tot : Nat} {sh : Shape} {v x : CV} {p : List Nat} {o : Nat}
    (hi : h i = some (.var v)) (hμ : S.μ i = some (.var rb sh tot)) (hp : v.at p = some x) (ho : sh.off p = some o) : ∃ c, FR S x c ∧ w.rangeAt rb o c := by
  obtain ⟨⟨hsh, ⟨arr, e, cs0, junk, ha, hj, hz, hf⟩, hK⟩, hB⟩ := r.live i _ _ hi hμ
  obtain ⟨pre, c, post, hc, hoff, hx, hset⟩ := FR.focus p v cs0 x hf hp
  have hc : arr.toList = pre ++ c ++ (post ++ junk) := by rw [hj, hc]; simp
  rw [hsh, ho] at hoff
  cases hoff
  refine ⟨c, hx, fun j u hu => ?_⟩
  rw [cell_cells ha, ← Array.getElem?_toList, hc, List.getElem?_append_left (by simp; have := (List.getElem?_eq_some_iff.1 hu).1; omega), List.getElem?_append_right (by omega)]
  simpa using hu

theorem R.lies {w0 : World} {B : Nat} {S : St} {h : Heap} {w : World} (r : R w0 B S h w) {b o : Nat} {c : List Value} (hl : S.lies b o c) : w.rangeAt b o c := fun j u hu => r.kcell _ _ _ (hl j u hu)
end Go.Cl
