/-
  An interpreter over clean values: append to what may be written, in place or in a new block.
-/
import Derived.Test.YtcjkapadadonlaaGreatY4
set_option linter.unusedSimpArgs false
set_option linter.unusedVariables false
namespace Go.Cl
open Go.RowKit

/-- A variable's cells are written anew, its shape stays. -/
theorem R.recell {w0 : World} {B : Nat} {S : St} {h : Heap} {w w' : World} (r : R w0 B S h w) {i rb tot : Nat} {sh : Shape} {v v' : CV} (hi : h i = some (.var v)) (hμ : S.μ i = some (.var rb sh tot))
    (hb : Below B w0 w') (hsz : w'.heap.size = w.heap.size) (hoth : ∀ b, b ≠ rb → w'.heap[b]? = w.heap[b]?)
    (hcell : ∃ arr e cs junk, w'.heap[rb]? = some (.cells arr e (0, 0)) ∧ arr.toList = cs ++ junk ∧ arr.size = tot ∧ FR S v' cs) (hsh : v'.shape = sh) : R w0 B S (upd h i (some (.var v'))) w' := by
  obtain ⟨⟨_, _, hK⟩, hB⟩ := r.live i _ _ hi hμ
  simp only [Loc.block] at hB
  refine ⟨hb, by rw [hsz]; exact r.size, fun b o u hk => ?_, fun j hj => ?_, fun j obj loc h1 h2 => ?_, fun j k oj ok lj lk hjk h1 h2 h3 h4 => ?_⟩
  · have hbr : b ≠ rb := fun e => by subst e; rw [hK] at hk; cases hk
    rw [cell_of_block (hoth b hbr)]; exact r.kcell b o u hk
  · refine ⟨(r.fresh j hj).1, ?_⟩
    have hji : j ≠ i := fun e => by subst e; rw [(r.fresh _ hj).1] at hμ; cases hμ
    rw [upd_ne _ _ hji]; exact (r.fresh j hj).2
  · by_cases hj : j = i
    · subst hj
      rw [upd_same] at h1; cases h1
      rw [hμ] at h2; cases h2
      exact ⟨⟨hsh, hcell, hK⟩, hB⟩
    · rw [upd_ne _ _ hj] at h1
      have k := r.live j obj loc h1 h2
      exact ⟨k.1.mono (St.le.refl _) (hoth _ (r.inj j i obj _ loc _ hj h1 hi h2 hμ)) (fun _ h => h), k.2⟩
  · have get : ∀ j oj, upd h i (some (.var v')) j = some oj → ∃ oj', h j = some oj' := fun j oj hj => by
      by_cases e : j = i
      · subst e; exact ⟨_, hi⟩
      · rw [upd_ne _ _ e] at hj; exact ⟨_, hj⟩
    obtain ⟨_, h1'⟩ := get j oj h1
    obtain ⟨_, h2'⟩ := get k ok h2
    exact r.inj j k _ _ lj lk hjk h1' h2' h3 h4

/-- A variable's block becomes that of a new name. -/
theorem R.regrow {w0 : World} {B : Nat} {S : St} {h : Heap} {w w' : World} (r : R w0 B S h w) {i rb tot : Nat} {sh : Shape} {v v' : CV} (hi : h i = some (.var v)) (hμ : S.μ i = some (.var rb sh tot))
    (hb : Below B w0 w') (hsz : w'.heap.size = w.heap.size) (hoth : ∀ b, b ≠ rb → w'.heap[b]? = w.heap[b]?)
    (hcell : ∃ arr e cs junk, w'.heap[rb]? = some (.cells arr e (0, 0)) ∧ arr.toList = cs ++ junk ∧ arr.size = tot ∧ FR S v' cs) :
    R w0 B (S.named S.n (.var rb v'.shape tot)) (upd (upd h i none) S.n (some (.var v'))) w' := by
  obtain ⟨⟨_, _, hK⟩, hB⟩ := r.live i _ _ hi hμ
  simp only [Loc.block] at hB
  have hf := r.fresh S.n (Nat.le_refl _)
  have hle := St.le_named (l := .var rb v'.shape tot) hf.1
  have hin : i ≠ S.n := fun e => by rw [e, hf.1] at hμ; cases hμ
  have back : ∀ j oj, j ≠ S.n → upd (upd h i none) S.n (some (.var v')) j = some oj → j ≠ i ∧ h j = some oj := fun j oj hj hh => by
    rw [upd_ne _ _ hj] at hh
    by_cases e : j = i
    · subst e; rw [upd_same] at hh; cases hh
    · rw [upd_ne _ _ e] at hh; exact ⟨e, hh⟩
  refine ⟨hb, by rw [hsz]; exact r.size, fun b o u hk => ?_, fun j hj => ?_, fun j obj loc h1 h2 => ?_, fun j k oj ok lj lk hjk h1 h2 h3 h4 => ?_⟩
  · have hbr : b ≠ rb := fun e => by subst e; rw [show (S.named S.n (.var b v'.shape tot)).K = S.K from rfl, hK] at hk; cases hk
    rw [cell_of_block (hoth b hbr)]; exact r.kcell b o u hk
  · have hj' : S.n + 1 ≤ j := Nat.le_trans (Nat.le_max_right _ _) hj
    have hjn : j ≠ S.n := by omega
    refine ⟨by rw [St.named_ne hjn]; exact (r.fresh j (by omega)).1, ?_⟩
    rw [upd_ne _ _ hjn]
    by_cases e : j = i
    · subst e; exact upd_same _ _ _
    · rw [upd_ne _ _ e]; exact (r.fresh j (by omega)).2
  · by_cases hj : j = S.n
    · subst hj
      rw [upd_same] at h1; cases h1
      rw [St.named_μ] at h2; cases h2
      obtain ⟨arr, e, cs, junk, k1, k2, k3, k4⟩ := hcell
      exact ⟨⟨rfl, ⟨arr, e, cs, junk, k1, k2, k3, FR.mono hle _ _ k4⟩, hK⟩, hB⟩
    · obtain ⟨hji, hh⟩ := back j obj hj h1
      rw [St.named_ne hj] at h2
      have k := r.live j obj loc hh h2
      exact ⟨k.1.mono hle (hoth _ (r.inj j i obj _ loc _ hji hh hi h2 hμ)) (fun _ h => h), k.2⟩
  · by_cases hj : j = S.n
    · subst hj
      have hk := Ne.symm hjk
      rw [St.named_μ] at h3; cases h3
      rw [St.named_ne hk] at h4
      obtain ⟨hki, hh⟩ := back k ok hk h2
      have hne := r.inj k i _ _ _ _ hki hh hi h4 hμ
      exact fun e => hne e.symm
    · obtain ⟨hji, hh⟩ := back j oj hj h1
      rw [St.named_ne hj] at h3
      by_cases hk : k = S.n
      · subst hk
        rw [St.named_μ] at h4; cases h4
        have hne := r.inj j i _ _ _ _ hji hh hi h3 hμ
        exact fun e => hne e
      · obtain ⟨hki, hh'⟩ := back k ok hk h2
        rw [St.named_ne hk] at h4
        exact r.inj j k _ _ _ _ hjk hh hh' h3 h4

section
variable (C : Ctx)

/-- What append takes: of a number so many zeros. -/
def xsrc (h : Heap) (e : TypeId) (tx : TypeId) (x : CV) : Option (List CV) :=
  match C.tt tx, x with
  | some ⟨.base (.int _), _, _, _⟩, .sc (.int .i64 n) => match C.tt e with
    | some te => bif decide (0 ≤ n) && decide (n ≤ 140737488355328) && Nat.ble (n.toNat * te.bytes) 281474976710656 && Nat.blt 0 te.sh.size then some (List.replicate n.toNat te.zero) else none
    | none => none
  | _, _ => srcOf C h tx x

theorem xsrc_sound {w0 : World} {B : Nat} {S : St} {h : Heap} {w : World} (r : R w0 B S h w) {e tx : TypeId} {x : CV} {y : Value} {xs : List CV} {te : TI} (hte : C.tt e = some te) (hx : VR S x y) (hs : xsrc C h e tx x = some xs) (hsh : ∀ v ∈ xs, v.shape = te.sh) :
    ∃ news, FRs S xs news ∧ SrcX C.P te.sh.size tx e y xs.length news w := by
  have hok := C.htt _ _ hte
  unfold xsrc at hs
  split at hs
  · rename_i k sh by_ ze n h1
    split at hs <;> try (cases hs; done)
    rename_i te' h2
    rw [hte] at h2; cases h2
    cases hb : (decide (0 ≤ n) && decide (n ≤ 140737488355328) && Nat.ble (n.toNat * te.bytes) 281474976710656 && Nat.blt 0 te.sh.size) with
    | false => rw [hb] at hs; cases hs
    | true =>
      rw [hb] at hs
      simp only [cond_true, Option.some.injEq] at hs
      subst hs
      simp only [Bool.and_eq_true, decide_eq_true_eq] at hb
      obtain ⟨⟨⟨h0, hn⟩, hby⟩, hpos⟩ := hb
      have hby := Nat.le_of_ble_eq_true hby
      have hpos : 0 < te.sh.size := by simpa using hpos
      obtain ⟨i, z, hi, hisz, hbytes, hz, hfz⟩ := hok.info
      have hFz : FR S te.zero z.cells.toList := FR_flatC _ _ hfz
      have hzs : z.cells.size = te.sh.size := by rw [← Array.length_toList, FR.length _ _ hFz, CV.size, hok.zsh]
      obtain ⟨rfl, _⟩ := VR_sc.1 hx
      have hF := FRs_replicate hFz n.toNat
      have hlen : (List.replicate n.toNat z.cells.toList).flatten.length = n.toNat * te.sh.size := by
        simp [hzs]
      refine ⟨_, hF, ?_, ?_, ?_⟩
      · rw [List.length_replicate]
        exact .inr ⟨⟨k, (C.htt _ _ h1).d.1⟩, by rw [Int.toNat_of_nonneg h0], by omega, hlen, i, z, hi, hisz, hz, by rw [hbytes]; exact hby, rfl, hzs, hpos⟩
      · exact FRs.one _ _ hF (goods_all hok.good _ hsh)
      · rw [List.length_replicate]; exact hlen
  · obtain ⟨news, h1, h2⟩ := src_sound C r hok.good hx hs hsh
    exact ⟨news, h1, .inl h2, h2.one, h2.newsLen⟩

def allSh (l : List CV) (sh : Shape) : Bool := l.all fun v => shOk v sh
theorem allSh_spec {l : List CV} {sh : Shape} (h : allSh l sh = true) : ∀ v ∈ l, v.shape = sh := fun v hv => shOk_spec (List.all_eq_true.1 h v hv)
theorem allSh_shapes {l : List CV} {sh : Shape} (h : ∀ v ∈ l, v.shape = sh) : CV.shapes l = List.replicate l.length sh := by
  rw [CV.shapes_eq]
  exact List.eq_replicate_iff.2 ⟨by simp, fun x hx => by obtain ⟨v, hv, rfl⟩ := List.mem_map.1 hx; exact h v hv⟩

/-- A list that is full grows into a variable of its own; one that lies in a variable grows there, or moves. -/
noncomputable def xappmut (p : Hp) (te : TI) (b : CV) (xs : List CV) : XRes :=
  match b with
  | .lst tl l => bif tl.full && allSh l te.sh && Nat.ble ((l.length + xs.length) * te.bytes) 140737488355328 && Nat.ble (l.length + xs.length) 9223372036854775807 then
      .ret (.slc p.n [] 0 (l.length + xs.length)) (p.new (.var (.n (List.replicate (l.length + xs.length) te.sh)) (.agg (l ++ xs)))) else .stuck
  | .slc j [] 0 n => match p.t.get j with
    | some (.var sh (.agg l)) => bif Nat.ble n l.length && Nat.blt 0 l.length && allSh l te.sh && Nat.ble ((l.length + xs.length) * te.bytes) 140737488355328 && Nat.ble (l.length + xs.length) 9223372036854775807 then
        bif Nat.ble (n + xs.length) l.length then .ret (.slc j [] 0 (n + xs.length)) (p.set j (some (.var sh (.agg (l.take n ++ xs ++ l.drop (n + xs.length))))))
        else .ret (.slc p.n [] 0 (n + xs.length)) ((p.set j none).new (.var (.n (List.replicate (n + xs.length) te.sh)) (.agg (l.take n ++ xs)))) else .stuck
    | _ => .stuck
  | _ => .stuck

/-- A new row, where there is no room; the old elements are read from memory. -/
theorem append_grow_x {w0 : World} {B : Nat} {S : St} {h : Heap} {w : World} (_r : R w0 B S h w) {t tx ty e : TypeId} {te : TI} (hu : C.P.underlying t = some (.slice e)) (hte : C.tt e = some te) {y : Value} {n m : Nat} {news : List Value} (hsrc : SrcX C.P te.sh.size tx e y m news w) {base : Option Addr} {cap : Nat} {olds : List Value}
    (holn : olds.length = n * te.sh.size) (hold : ∀ j u, olds[j]? = some u → ∀ a, base = some a → a.spot = none ∧ w.cell? ⟨a.block, a.off + j, none⟩ = some u) (hnone : base = none → n = 0)
    (hg : cap < n + m) (hfit : (n + m) * te.bytes ≤ 140737488355328) (h63 : n + m ≤ 9223372036854775807) :
    ∃ rest cap', (Builtin.append_ #[t, tx] ty #[.slice base n cap, y]).run C.P w =
        .ok (.slice (some ⟨w.heap.size, 0, none⟩) (n + m) cap') (w.drew.alloc (.cells ((olds ++ news).toArray ++ rest) e)) ∧ n + m ≤ cap' ∧ ((olds ++ news).toArray ++ rest).size = cap' * te.sh.size := by
  have hok := C.htt _ _ hte
  obtain ⟨i, z, hi, hisz, hby, hz, hfz⟩ := hok.info
  have hzs : z.cells.size = te.sh.size := by rw [← Array.length_toList, FR.length (S := S) _ _ (FR_flatC _ _ hfz), CV.size, hok.zsh]
  have hold' : (Builtin.firstCells i.size n (.slice base n cap)).run C.P w.drew = .ok olds.toArray w.drew := by
    cases base with
    | none =>
      have : n = 0 := hnone rfl
      subst this
      have : olds = [] := by simpa using holn
      subst this
      exact run_firstCells_none w.drew i.size _ _ cap
    | some a =>
      refine run_firstCells_some w.drew i.size _ a _ cap olds (by rw [hisz]; exact holn) (fun j u hu => ?_)
      obtain ⟨hsp, hk⟩ := hold j u hu a rfl
      obtain ⟨b, o, s⟩ := a
      simp only at hsp hk
      subst hsp
      rw [Addr.add_mid]
      exact hk
  have hrun := run_append_grow_x (P := C.P) w t tx ty e i z hu hi hz base n cap olds hold' y m news (by rw [hisz]; exact hsrc) hg (by omega) (by rw [hby]; exact growslice_fits hg hfit)
  refine ⟨_, _, hrun, grownCap_ge _ _ _ _, ?_⟩
  have hge := grownCap_ge w (n + m) cap e
  rw [Array.size_append, size_zeroCells, hzs]
  have hl : (olds ++ news).toArray.size = (n + m) * te.sh.size := by
    simp [holn, hsrc.len, Nat.add_mul]
  rw [hl, ← Nat.add_mul]
  congr 1
  omega

theorem R.drewX {w0 : World} {B : Nat} {S : St} {p : Hp} {w : World} (r : XRel w0 B S p w) : XRel w0 B S p w.drew := ⟨r.r.drew, r.n, r.good⟩

/-- Behind a new row: a variable of its own. -/
theorem grown_var {w0 : World} {B : Nat} {S : St} {p : Hp} {w : World} (r : XRel w0 B S p w) {te : TI} {l : List CV} {vs rest : List Value} {e : TypeId} {n cap : Nat} (hl : l.length = n) (hsh : ∀ v ∈ l, v.shape = te.sh) (hv : FRs S l vs) {arr : Array Value} (harr : arr.toList = vs ++ rest) (hcap : n ≤ cap) (hsz : arr.size = cap * te.sh.size) :
    ∃ S', S.ext S' ∧ XRel w0 B S' (p.new (.var (.n (List.replicate n te.sh)) (.agg l))) (w.drew.alloc (.cells arr e)) ∧ VR S' (.slc p.n [] 0 n) (.slice (some ⟨w.heap.size, 0, none⟩) n cap) := by
  have hf := r.r.fresh S.n (Nat.le_refl _)
  have hs : CV.shape (.agg l) = .n (List.replicate n te.sh) := by rw [CV.shape, allSh_shapes hsh, hl]
  let loc : Loc := .var w.heap.size (CV.shape (.agg l)) arr.size
  have hle : S.le (S.named S.n loc) := St.le_named hf.1
  have hext : S.ext (S.named S.n loc) := St.ext_named (Nat.le_refl _) hf.1
  have hK : ∀ o, S.K w.heap.size o = none := fun o => by
    cases hk : S.K w.heap.size o with
    | none => rfl
    | some x => have := lt_of_cell (r.r.kcell _ _ _ hk); omega
  have hheap : ∀ b, b < w.heap.size → (w.drew.alloc (.cells arr e)).heap[b]? = w.heap[b]? := fun b hb => Below.heap_alloc w.drew _ b hb
  have hnew : (w.drew.alloc (.cells arr e)).heap[w.heap.size]? = some (.cells arr e (0, 0)) := by
    rw [show (w.drew.alloc (.cells arr e)).heap = w.heap.push (.cells arr e) from rfl]; simp
  refine ⟨S.named S.n loc, hext, ⟨?_, ?_, Hp.good_new r.good fun sh v e' => by cases e'; exact hs⟩, ?_⟩
  · rw [Hp.new_h, ← r.n]
    refine ⟨r.r.drew.below.alloc r.r.size _, ?_, fun b o u hk => ?_, fun j hj => ?_, fun j obj lo h1 h2 => ?_, fun j k oj ok lj lk hjk h1 h2 h3 h4 => ?_⟩
    · have := r.r.size; rw [show (w.drew.alloc (.cells arr e)).heap = w.heap.push (.cells arr e) from rfl, Array.size_push]; omega
    · have := r.r.kcell b o u hk
      rw [cell_of_block (w := w) (hheap b (lt_of_cell this))]; exact this
    · have hj' : S.n + 1 ≤ j := Nat.le_trans (Nat.le_max_right _ _) hj
      refine ⟨by rw [St.named_ne (by omega)]; exact (r.r.fresh j (by omega)).1, by rw [upd_ne _ _ (by omega)]; exact (r.r.fresh j (by omega)).2⟩
    · by_cases hj : j = S.n
      · subst hj
        rw [upd_same] at h1; cases h1
        rw [St.named_μ] at h2; cases h2
        exact ⟨⟨rfl, ⟨arr, e, vs, rest, hnew, harr, rfl, by simp only [FR]; exact FRs.mono hle _ _ hv⟩, hK⟩, r.r.size⟩
      · rw [upd_ne _ _ hj] at h1
        rw [St.named_ne hj] at h2
        have k := r.r.live j obj lo h1 h2
        exact ⟨k.1.mono hle (hheap _ k.1.lt) (fun _ h => h), k.2⟩
    · by_cases hj : j = S.n
      · subst hj
        have hk := Ne.symm hjk
        rw [St.named_μ] at h3; cases h3
        rw [upd_ne _ _ hk] at h2
        rw [St.named_ne hk] at h4
        have := (r.r.live k ok lk h2 h4).1.lt
        show w.heap.size ≠ _; omega
      · rw [upd_ne _ _ hj] at h1
        rw [St.named_ne hj] at h3
        by_cases hk : k = S.n
        · subst hk
          rw [St.named_μ] at h4; cases h4
          have := (r.r.live j oj lj h1 h3).1.lt
          show _ ≠ w.heap.size; omega
        · rw [upd_ne _ _ hk] at h2
          rw [St.named_ne hk] at h4
          exact r.r.inj j k oj ok lj lk hjk h1 h2 h3 h4
  · show max S.n (S.n + 1) = Nat.succ p.n
    have := r.n; omega
  · rw [VR_nonagg rfl]; simp only [FR]
    refine ⟨⟨w.heap.size, _, List.replicate n te.sh, 0, cap, by simp [Shape.sizes], ⟨arr.size, by rw [← r.n]; exact St.named_μ, fun _ _ => ⟨by simpa using hcap, te.sh.size, fun x hx => by rw [List.eq_of_mem_replicate hx], by rw [hsz]; exact Nat.le_refl _⟩⟩, ?_, ?_, hcap, by simp⟩, by simp⟩
    · rw [hs]; simp [Shape.sub]
    · rw [hs]; simp [Shape.off]
end
end Go.Cl
