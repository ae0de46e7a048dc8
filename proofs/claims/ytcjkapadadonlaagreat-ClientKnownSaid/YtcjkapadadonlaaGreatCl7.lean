/-
  Quiet operations, all of them in one.
-/
import Derived.Test.YtcjkapadadonlaaGreatCl6
set_option linter.unusedSimpArgs false
set_option linter.unusedVariables false
namespace Go.Cl
open Go.RowKit

theorem rep_cells (c : Array Value) : ∀ n : Nat, ((Array.range (n * c.size)).map fun i => c[i % c.size]!).toList = (List.replicate n c.toList).flatten
  | 0 => by simp
  | n + 1 => by
    have ih := rep_cells c n
    rw [List.replicate_succ, List.flatten_cons, ← ih]
    simp only [Array.toList_map, Array.toList_range]
    rw [Nat.succ_mul, Nat.add_comm, List.range_add, List.map_append, List.map_map]
    congr 1
    · apply List.ext_getElem?
      intro j
      rw [List.getElem?_map]
      by_cases hj : j < c.size
      · simp [hj, Nat.mod_eq_of_lt hj]
      · simp [hj]
    · apply List.map_congr_left
      intro i _
      simp

theorem VRs_get {S : St} : ∀ (l : List CV) (vs : List Value), VRs S l vs → l.length = vs.length ∧ ∀ (i : Nat) v x, l[i]? = some v → vs[i]? = some x → VR S v x
  | [], vs, h => by simp only [VRs] at h; subst h; simp
  | v :: l, vs, h => by
    simp only [VRs] at h
    obtain ⟨x, xs, rfl, h1, h2⟩ := h
    obtain ⟨h3, h4⟩ := VRs_get l xs h2
    refine ⟨by simp [h3], fun i u y hu hy => ?_⟩
    cases i with
    | zero => simp at hu hy; subst hu; subst hy; exact h1
    | succ i => exact h4 i u y (by simpa using hu) (by simpa using hy)

theorem VRs_of {S : St} : ∀ (l : List CV) (vs : List Value), l.length = vs.length → (∀ (i : Nat) v x, l[i]? = some v → vs[i]? = some x → VR S v x) → VRs S l vs
  | [], [], _, _ => by simp [VRs]
  | [], _ :: _, h, _ => by simp at h
  | _ :: _, [], h, _ => by simp at h
  | v :: l, x :: xs, h, k => VRs_cons.2 ⟨k 0 v x rfl rfl, VRs_of l xs (by simpa using h) (fun i u y hu hy => k (i + 1) u y (by simpa using hu) (by simpa using hy))⟩

section ops
variable (C : Ctx)

def qbuildSlice (t : TypeId) (len : Nat) (parts : List (Nat × CV)) : Option CV :=
  match C.tt t with
  | some ⟨.base (.slice e), _, _, _⟩ =>
    match C.tt e with
    | some te => if len * te.sh.size ≤ 16777216 ∧ te.sh.size ≠ 0 ∧ partsOk (List.replicate len te.sh) parts = true then some (.lst .exact (setAll (List.replicate len te.zero) parts)) else none
    | none => none
  | _ => none

def QSound (w0 : World) (B : Nat) (S : St) (h : Heap) (w : World) (v : CV) (s : Sem Value) : Prop :=
  ∃ y w' S', s.run C.P w = .ok y w' ∧ S.le S' ∧ S'.μ = S.μ ∧ S'.n = S.n ∧ R w0 B S' h w' ∧ VR S' v y

theorem QSound.still {w0 : World} {B : Nat} {S : St} {h : Heap} {w : World} (r : R w0 B S h w) {v : CV} {s : Sem Value} (k : ∃ y, s.run C.P w = .ok y w ∧ VR S v y) : QSound C w0 B S h w v s :=
  let ⟨y, h1, h2⟩ := k; ⟨y, w, S, h1, St.le.refl _, rfl, rfl, r, h2⟩

theorem qbuildSlice_sound {w0 : World} {B : Nat} {S : St} {h : Heap} {w : World} (r : R w0 B S h w) {t : TypeId} {len : Nat} {parts : List (Nat × CV)} {vals : List (Nat × Value)} {v : CV} (hlen : parts.length = vals.length)
    (hpv : ∀ (k : Nat) (p : Nat × CV) (q : Nat × Value), parts[k]? = some p → vals[k]? = some q → p.1 = q.1 ∧ VR S p.2 q.2) (hv : qbuildSlice C t len parts = some v) :
    QSound C w0 B S h w v (Instr.buildSlice t len vals.toArray) := by
  unfold qbuildSlice at hv
  split at hv <;> try (cases hv; done)
  rename_i e sh by_ ze h1
  split at hv <;> try (cases hv; done)
  rename_i te h2
  split at hv <;> try (cases hv; done)
  rename_i hc
  obtain ⟨hsmall, hnz, hok⟩ := hc
  cases hv
  have hu := (C.htt _ _ h1).d.1
  have hte := C.htt _ _ h2
  obtain ⟨i, z, hi, hisz, _, hz, hfz⟩ := hte.info
  have hFz : FR S te.zero z.cells.toList := FR_flatC _ _ hfz
  have hzs : z.cells.size = te.sh.size := by
    rw [← Array.length_toList, FR.length _ _ hFz, CV.size, hte.zsh]
  let arr0 : Array Value := (Array.range (len * te.sh.size)).map fun i => z.cells[i % z.cells.size]!
  have harr0 : arr0.toList = (List.replicate len z.cells.toList).flatten := by
    have := rep_cells z.cells len
    rw [hzs] at this
    simp only [arr0, hzs]; exact this
  have hF0 : FRs S (List.replicate len te.zero) arr0.toList := by rw [harr0]; exact FRs_replicate hFz len
  have hshapes : CV.shapes (List.replicate len te.zero) = List.replicate len te.sh := by rw [CV.shapes_eq, List.map_replicate, hte.zsh]
  obtain ⟨arr', k1, k2, k3⟩ := fill_sound (S := S) (fun i => some (i * te.sh.size, te.sh.size)) (List.replicate len te.sh) (fun i sh hsh => by
      obtain ⟨hil, hh⟩ := List.getElem?_eq_some_iff.1 hsh
      simp only [List.length_replicate] at hil
      simp only [List.getElem_replicate] at hh
      rw [sizes_replicate_take _ _ _ (by omega), ← hh]) parts vals _ arr0 hlen (fun k p q hk hq => by
          obtain ⟨e1, e2⟩ := hpv k p q hk hq
          refine ⟨e1, e2, ?_⟩
          have := List.all_eq_true.1 hok p (List.mem_of_getElem? hk)
          simpa using this) hF0 hshapes
  obtain ⟨hle, hr', hlies⟩ := r.know arr' e
  have hlen2 : (setAll (List.replicate len te.zero) parts).length = len := by
    have := congrArg List.length k3
    simpa [CV.shapes_eq, setAll] using this
  have hrun : (Instr.buildSlice t len vals.toArray).run C.P w = .ok (.slice (some ⟨w.heap.size, 0, none⟩) len len) (w.alloc (.cells arr' e)) := by
    have hnb : ¬ (len * te.sh.size > 16777216) := by omega
    by_cases hl0 : len * te.sh.size = 0
    · have hl : len = 0 := by
        rcases Nat.mul_eq_zero.1 hl0 with h | h
        · exact h
        · exact absurd h hnz
      subst hl
      have : arr0 = #[] := by simp [arr0]
      rw [this] at k1
      simp [Instr.buildSlice, run_underlying hu, sizeOf, typeInfo, hi, hisz, newRow, show Array.range 0 = #[] from rfl, k1]
    · simp only [arr0] at k1
      simp [Instr.buildSlice, run_underlying hu, sizeOf, typeInfo, hi, hisz, hnb, hl0, run_zeroValue hi hz, k1, newRow]
  refine ⟨_, _, _, hrun, hle, rfl, rfl, hr', ?_⟩
  rw [VR_nonagg rfl]
  simp only [FR]
  refine ⟨.inr ⟨w.heap.size, 0, len, te.sh.size, arr'.toList, by rw [hlen2], by rw [hlen2]; exact Nat.le_refl _, FRs.mono hle _ _ k2, hlies, ?_, ?_⟩, by simp⟩
  · intro x hx
    obtain ⟨k, hk⟩ := List.getElem?_of_mem hx
    have := shapes_get hk
    rw [show CV.shapes (setAll (List.replicate len te.zero) parts) = List.replicate len te.sh from k3] at this
    obtain ⟨hil, hh⟩ := List.getElem?_eq_some_iff.1 this
    simp only [List.getElem_replicate] at hh
    rw [CV.size, ← hh]
  · exact hlen2.symm

/-- A bound of a slice expression. -/
def qbnd (x : Option CV) (dflt lim : Nat) : Option Nat :=
  match x with
  | none => some dflt
  | some (.sc (.int _ n)) => if 0 ≤ n ∧ n ≤ lim then some n.toNat else none
  | some _ => none

def qslice (h : Heap) (t : TypeId) (x : CV) (lo hi mx : Option CV) : Option CV :=
  match C.tt t, x with
  | some ⟨.base .string, _, _, _⟩, .sc (.string s) =>
    match mx, qbnd hi s.size s.size with
    | none, some b => (qbnd lo 0 b).map fun a => .sc (.string (s.extract a b))
    | _, _ => none
  | some ⟨.base (.slice e), _, _, _⟩, .lst tl l =>
    match C.tt e with
    | none => none
    | some te =>
      if l.all (fun v => decide (v.shape = te.sh)) = true then
        match mx with
        | none => match qbnd hi l.length l.length with
          | some b => match qbnd lo 0 b with
            | some a => some (.lst (match tl with | .exact => if b = l.length then .exact else .part | .nil => .nil | .view => .view | _ => .part) ((l.take b).drop a))
            | none => none
          | none => none
        | some m => match qbnd (some m) 0 l.length, hi with
          | some c, some _ => match qbnd hi 0 c with
            | some b => match qbnd lo 0 b with
              | some a => some (.lst (match tl with | .nil => .nil | .view => .view | _ => if b = c then .exact else .part) ((l.take b).drop a))
              | none => none
            | none => none
          | _, _ => none
      else none
  | some ⟨.base (.slice e), _, _, _⟩, .slc j p off len =>
    match C.tt e, tgt h (.ptr j p), mx with
    | some te, some (.agg l), none =>
      if CV.shape (.agg l) = .n (List.replicate l.length te.sh) then
        match qbnd hi len len with
        | some b => match qbnd lo 0 b with
          | some a => some (if a = b ∧ a ≠ 0 then .lst .part [] else .slc j p (off + a) (b - a))
          | none => none
        | none => none
      else none
    | _, _, _ => none
  | some ⟨.ar n _ _, .n shs, _, _⟩, .ptr j p =>
    match lo, mx, tgt h (.ptr j p), qbnd hi n n with
    | none, none, some (.agg l), some b => if CV.shape (.agg l) = .n shs then some (.slc j p 0 b) else none
    | _, _, _, _ => none
  | _, _ => none

def OVR (S : St) : Option CV → Option Value → Prop
  | none, none => True
  | some v, some x => VR S v x
  | _, _ => False

theorem qbnd_sound {S : St} {x : Option CV} {y : Option Value} {dflt lim r : Nat} {w : World} (hx : OVR S x y) (h : qbnd x dflt lim = some r) :
    (x = none ∧ y = none ∧ r = dflt) ∨ ∃ k n, y = some (.int k n) ∧ x ≠ none ∧ 0 ≤ n ∧ n ≤ lim ∧ r = n.toNat ∧ ∀ code, (Instr.sliceBound (.int k n) lim code).run C.P w = .ok r w := by
  unfold qbnd at h
  split at h
  · cases h
    cases y <;> simp [OVR] at hx ⊢
  · split at h
    · rename_i k n hn
      cases h
      cases y <;> simp only [OVR] at hx
      obtain ⟨rfl, _⟩ := VR_sc.1 hx
      exact .inr ⟨k, n, rfl, by simp, hn.1, hn.2, rfl, fun code => by simp [Instr.sliceBound, asIntOf, hn.1, hn.2]⟩
    · cases h
  · cases h

theorem take_drop_uniform {l : List CV} {a b : Nat} {p : CV → Prop} (h : ∀ x ∈ l, p x) : ∀ x ∈ (l.take b).drop a, p x :=
  fun x hx => h x (List.mem_of_mem_take (List.mem_of_mem_drop hx))

/-- A piece of a list. -/
theorem piece {S : St} {e : TypeId} {sz : Nat} {l : List CV} {b off a c : Nat} {es : List Value} (hes : FRs S l es) (hl : S.lies b off es) (hun : ∀ x ∈ l, x.size = sz) (hac : a ≤ c) (hcl : c ≤ l.length) (_he : e = e) :
    ∃ es', FRs S ((l.take c).drop a) es' ∧ S.lies b (off + a * sz) es' := by
  obtain ⟨x, y, rfl, h1, _, h3⟩ := FRs_split l c es hes
  obtain ⟨x1, x2, rfl, _, h5, h6⟩ := FRs_split (l.take c) a x h1
  refine ⟨x2, h5, ?_⟩
  rw [sizes_take_uniform (l.take c) a (fun z hz => hun z (List.mem_of_mem_take hz)) (by simp; omega)] at h6
  have := lies_focus (S := S) (b := b) (o := off) (pre := x1) (c := x2) (post := y) hl
  rwa [h6] at this

theorem qslice_sound {w0 : World} {B : Nat} {S : St} {h : Heap} {w : World} (r : R w0 B S h w) {t : TypeId} {x v : CV} {lo hi mx : Option CV} {x' : Value} {lo' hi' mx' : Option Value}
    (hx : VR S x x') (hlo : OVR S lo lo') (hhi : OVR S hi hi') (hmx : OVR S mx mx') (hv : qslice C h t x lo hi mx = some v) :
    ∃ y, (Instr.sliceAt t x' lo' hi' mx').run C.P w = .ok y w ∧ VR S v y := by
  unfold qslice at hv
  split at hv <;> try (cases hv; done)
  · rename_i sh by_ ze s h1
    obtain ⟨rfl, _⟩ := VR_sc.1 hx
    have hu := (C.htt _ _ h1).d.1
    split at hv <;> try (cases hv; done)
    rename_i b hb
    cases mx' <;> simp only [OVR] at hmx
    cases ha : qbnd lo 0 b with
    | none => simp [ha] at hv
    | some a =>
      simp [ha] at hv
      subst hv
      refine ⟨.string (s.extract a b), ?_, VR_sc.2 ⟨rfl, rfl⟩⟩
      rcases qbnd_sound C (w := w) hhi hb with ⟨rfl, rfl, rfl⟩ | ⟨k, n, rfl, _, _, _, rfl, hrh⟩ <;>
        rcases qbnd_sound C (w := w) hlo ha with ⟨rfl, rfl, rfl⟩ | ⟨k2, n2, rfl, _, _, _, rfl, hrl⟩ <;>
          simp [Instr.sliceAt, run_underlying hu, Instr.slice, Instr.sliceBounds, *]
  · rename_i e sh by_ ze tl l h1
    have hu := (C.htt _ _ h1).d.1
    split at hv <;> try (cases hv; done)
    rename_i te h2
    split at hv <;> try (cases hv; done)
    rename_i hall
    have hun : ∀ x ∈ l, x.size = te.sh.size := fun x hx => by
      have := List.all_eq_true.1 hall x hx
      simp at this
      rw [CV.size, this]
    obtain ⟨ie, zz, hie, hse, _⟩ := (C.htt _ _ h2).info
    have hsize : ∀ w, (sizeOf e).run C.P w = .ok te.sh.size w := fun w => by simp [sizeOf, typeInfo, hie, hse]
    rw [VR_nonagg rfl] at hx
    simp only [FR] at hx
    obtain ⟨hx, _⟩ := hx
    -- the bounds, and what the model answers
    have main : ∀ (a b c cap : Nat) (base : Option Addr), x' = .slice base l.length cap → a ≤ b → b ≤ l.length → b ≤ c → c ≤ cap →
        (Instr.sliceBounds true l.length cap lo' hi' mx').run C.P w = .ok (a, b, c) w →
        (Instr.sliceAt t x' lo' hi' mx').run C.P w = .ok (.slice (if c = a then base else base.map (·.add (a * te.sh.size))) (b - a) (c - a)) w := by
      intro a b c cap base hxe _ _ _ _ hb
      subst hxe
      simp [Instr.sliceAt, run_underlying hu, Instr.slice, hb, hsize]
    have fin : ∀ (a b c cap : Nat) (base : Option Addr) (tl' : Tail), x' = .slice base l.length cap → a ≤ b → b ≤ l.length → b ≤ c → c ≤ cap → (∀ id, tl' ≠ .own id) → (tl' = .exact → b = c ∧ base ≠ none) → (tl' = .nil → tl = .nil) → (tl.mayNil = true → tl'.mayNil = true) →
        VR S (.lst tl' ((l.take b).drop a)) (.slice (if c = a then base else base.map (·.add (a * te.sh.size))) (b - a) (c - a)) := by
      intro a b c cap base tl' hxe hab hbl hbc hcc hno hex hnl hmay
      rw [VR_nonagg rfl]
      simp only [FR]
      refine ⟨?_, by simp⟩
      have hlen : ((l.take b).drop a).length = b - a := by simp; omega
      rcases hx with ⟨rfl, hm, hx⟩ | ⟨bb, off, cap2, sz, es, hx, hcap, hes, hlies, hunz, hfit0⟩
      · rw [(List.cons.inj hx).1] at hxe
        cases hxe
        simp at hbl
        left
        have : a = 0 := by omega
        have : c = 0 := by omega
        have := hmay hm
        simp_all
      · rw [(List.cons.inj hx).1] at hxe
        cases hxe
        right
        obtain ⟨es', h5, h6⟩ := piece (e := e) hes hlies hunz hab hbl rfl
        have hfits : ∀ off', tl'.fits S bb off' ((l.take b).drop a).length (c - a) sz := fun off' => by
          cases tl' with
          | nil => rw [hnl rfl] at hfit0; exact hfit0.elim
          | view => trivial
          | part => trivial
          | exact => rw [Tail.fits, hlen]; have := (hex rfl).1; omega
          | own id => exact absurd rfl (hno id)
        by_cases hca : c = a
        · have : b - a = 0 := by omega
          have hnil : (l.take b).drop a = [] := List.length_eq_zero_iff.1 (by omega)
          refine ⟨bb, off, c - a, sz, [], ?_, by omega, by rw [hnil]; simp [FRs], fun j u hu => by simp at hu, take_drop_uniform hunz, hfits _⟩
          rw [if_pos hca, hlen]
        · have hsz : sz = te.sh.size ∨ l = [] := by
            cases l with
            | nil => exact .inr rfl
            | cons z l => exact .inl (by rw [← hunz z (by simp), hun z (by simp)])
          rcases hsz with rfl | rfl
          · refine ⟨bb, off + a * te.sh.size, c - a, te.sh.size, es', ?_, by omega, h5, h6, take_drop_uniform hunz, hfits _⟩
            rw [if_neg hca, hlen]
            simp [Addr.add_mid]
          · refine ⟨bb, off + a * te.sh.size, c - a, sz, [], ?_, by omega, by simp [FRs], fun j u hu => by simp at hu, by simp, by simpa using hfits _⟩
            rw [if_neg hca]
            simp at hbl
            simp [Addr.add_mid, hbl]
    obtain ⟨base, cap, hxe, hcapl⟩ : ∃ base cap, x' = .slice base l.length cap ∧ l.length ≤ cap := by
      rcases hx with ⟨rfl, _, hx⟩ | ⟨bb, off, cap, sz, es, hx, hcap, _⟩
      · exact ⟨none, 0, by cases hx; rfl, by simp⟩
      · exact ⟨_, cap, by cases hx; rfl, hcap⟩
    have hnn : tl.mayNil = false → base ≠ none := by
      intro htl
      rcases hx with ⟨rfl, hm, hx⟩ | ⟨bb, off, cap2, sz, es, hx, hcap, _, _, _, hf⟩
      · rw [htl] at hm; cases hm
      · rw [(List.cons.inj hx).1] at hxe; cases hxe; simp
    have hexact : tl = .exact → cap = l.length ∧ base ≠ none := by
      intro htl
      subst htl
      rcases hx with ⟨rfl, hm, hx⟩ | ⟨bb, off, cap2, sz, es, hx, hcap, _, _, _, hf⟩
      · cases hm
      · rw [(List.cons.inj hx).1] at hxe; cases hxe; exact ⟨hf, by simp⟩
    split at hv
    · cases mx' <;> simp only [OVR] at hmx
      split at hv <;> try (cases hv; done)
      rename_i b hb
      split at hv <;> try (cases hv; done)
      rename_i a ha
      cases hv
      have hb' : b ≤ l.length := by
        rcases qbnd_sound C (w := w) hhi hb with ⟨_, _, rfl⟩ | ⟨k, n, _, _, _, h4, rfl, _⟩ <;> omega
      have ha' : a ≤ b := by
        rcases qbnd_sound C (w := w) hlo ha with ⟨_, _, rfl⟩ | ⟨k, n, _, _, _, h4, rfl, _⟩ <;> omega
      refine ⟨_, main a b cap cap base hxe ha' hb' (by omega) (Nat.le_refl _) ?_, fin a b cap cap base _ hxe ha' hb' (by omega) (Nat.le_refl _) ?_ ?_ ?_ ?_⟩
      · have hh : ∀ code, ∀ k n, 0 ≤ n → n ≤ (l.length : Int) → (Instr.sliceBound (.int k n) cap code).run C.P w = .ok n.toNat w := fun code k n h0 hn => by
          simp [Instr.sliceBound, asIntOf, h0, show n ≤ (cap : Int) by omega]
        rcases qbnd_sound C (w := w) hhi hb with ⟨rfl, rfl, rfl⟩ | ⟨k, n, rfl, _, h3, h4, rfl, hrh⟩ <;>
          rcases qbnd_sound C (w := w) hlo ha with ⟨rfl, rfl, rfl⟩ | ⟨k2, n2, rfl, _, _, _, rfl, hrl⟩ <;>
            simp [Instr.sliceBounds, *]
      · intro id; split <;> (try split) <;> simp
      · intro he
        split at he
        · split at he
          · rename_i hbl; rw [hbl]; exact ⟨(hexact rfl).1.symm, (hexact rfl).2⟩
          · cases he
        · cases he
        · cases he
        · cases he
      · cases tl <;> simp
        split <;> simp
      · cases tl <;> simp [Tail.mayNil]
    · rename_i m
      split at hv <;> try (cases hv; done)
      rename_i hi0 c hi1 hc
      split at hv <;> try (cases hv; done)
      rename_i b hb
      split at hv <;> try (cases hv; done)
      rename_i a ha
      cases hv
      rcases qbnd_sound C (w := w) hmx hc with ⟨h0, _⟩ | ⟨km, nm, rfl, _, h1m, h2m, rfl, hrm⟩
      · cases h0
      rcases qbnd_sound C (w := w) hhi hb with ⟨h0, _⟩ | ⟨kh, nh, rfl, _, h1h, h2h, rfl, hrh⟩
      · cases h0
      have ha' : a ≤ nh.toNat := by
        rcases qbnd_sound C (w := w) hlo ha with ⟨_, _, rfl⟩ | ⟨k, n, _, _, _, h4, rfl, _⟩ <;> omega
      refine ⟨_, main a nh.toNat nm.toNat cap base hxe ha' (by omega) (by omega) (by omega) ?_, fin a nh.toNat nm.toNat cap base _ hxe ha' (by omega) (by omega) (by omega) ?_ ?_ ?_ ?_⟩
      · have hh : ∀ code, (Instr.sliceBound (.int km nm) cap code).run C.P w = .ok nm.toNat w := fun code => by
          simp [Instr.sliceBound, asIntOf, h1m, show nm ≤ (cap : Int) by omega]
        rcases qbnd_sound C (w := w) hlo ha with ⟨rfl, rfl, rfl⟩ | ⟨k2, n2, rfl, _, _, _, rfl, hrl⟩ <;>
          simp [Instr.sliceBounds, *]
      · intro id; cases tl <;> simp <;> split <;> simp
      · intro he
        cases tl with
        | nil => cases he
        | view => cases he
        | part =>
          simp only at he
          split at he
          · exact ⟨by assumption, hnn rfl⟩
          · cases he
        | exact =>
          simp only at he
          split at he
          · exact ⟨by assumption, hnn rfl⟩
          · cases he
        | own i =>
          simp only at he
          split at he
          · exact ⟨by assumption, hnn rfl⟩
          · cases he
      · cases tl <;> simp <;> split <;> simp
      · cases tl <;> simp [Tail.mayNil]
  · rename_i e sh by_ ze j p off len h1
    have hu := (C.htt _ _ h1).d.1
    split at hv <;> try (cases hv; done)
    rename_i te l h2 h3
    split at hv <;> try (cases hv; done)
    rename_i hsh
    split at hv <;> try (cases hv; done)
    rename_i b hb
    split at hv <;> try (cases hv; done)
    rename_i a ha
    cases hv
    cases mx' <;> simp only [OVR] at hmx
    obtain ⟨ie, zz, hie, hse, _⟩ := (C.htt _ _ h2).info
    have hsize : ∀ w, (sizeOf e).run C.P w = .ok te.sh.size w := fun w => by simp [sizeOf, typeInfo, hie, hse]
    rw [VR_nonagg rfl] at hx
    simp only [FR] at hx
    obtain ⟨⟨rb, sh0, l0, o, cap, hxe, ⟨tot, hμ, htot⟩, hsub0, ho, hcap, hol⟩, _⟩ := hx
    cases hxe
    have hb' : b ≤ len := by
      rcases qbnd_sound C (w := w) hhi hb with ⟨_, _, rfl⟩ | ⟨k, n, _, _, _, h4, rfl, _⟩ <;> omega
    have ha' : a ≤ b := by
      rcases qbnd_sound C (w := w) hlo ha with ⟨_, _, rfl⟩ | ⟨k, n, _, _, _, h4, rfl, _⟩ <;> omega
    simp only [tgt] at h3
    cases hi : h j with
    | none => simp [hi] at h3
    | some obj =>
      cases obj <;> simp [hi] at h3
      have hl0 := (r.live j _ _ hi hμ).1.1
      have hsub := CV.sub_at p _ _ h3
      rw [hl0, hsub0] at hsub
      rw [hsh] at hsub
      simp only [Option.some.injEq, Shape.n.injEq] at hsub
      subst hsub
      simp only [List.length_replicate] at hol
      have hbd : (Instr.sliceBounds true len cap lo' hi' none).run C.P w = .ok (a, b, cap) w := by
        have hh : ∀ code, ∀ k n, 0 ≤ n → n ≤ (len : Int) → (Instr.sliceBound (.int k n) cap code).run C.P w = .ok n.toNat w := fun code k n h0 hn => by
          simp [Instr.sliceBound, asIntOf, h0, show n ≤ (cap : Int) by omega]
        rcases qbnd_sound C (w := w) hhi hb with ⟨rfl, rfl, rfl⟩ | ⟨k, n, rfl, _, h3, h4, rfl, hrh⟩ <;>
          rcases qbnd_sound C (w := w) hlo ha with ⟨rfl, rfl, rfl⟩ | ⟨k2, n2, rfl, _, _, _, rfl, hrl⟩ <;>
            simp [Instr.sliceBounds, *]
      have hrun : (Instr.sliceAt t (.slice (some ⟨rb, o + Shape.sizes ((List.replicate l.length te.sh).take off), none⟩) len cap) lo' hi' none).run C.P w = .ok (.slice (if cap = a then some ⟨rb, o + Shape.sizes ((List.replicate l.length te.sh).take off), none⟩ else (some (Addr.add ⟨rb, o + Shape.sizes ((List.replicate l.length te.sh).take off), none⟩ (a * te.sh.size)))) (b - a) (cap - a)) w := by
        simp [Instr.sliceAt, run_underlying hu, Instr.slice, hbd, hsize]
      refine ⟨_, hrun, ?_⟩
      by_cases hab : a = b ∧ a ≠ 0
      · obtain ⟨hab, ha0⟩ := hab
        subst hab
        rw [if_pos ⟨rfl, ha0⟩, VR_nonagg rfl]
        refine ⟨?_, by simp⟩
        simp only [FR]
        right
        by_cases hca : cap = a
        · refine ⟨rb, o + Shape.sizes ((List.replicate l.length te.sh).take off), cap - a, te.sh.size, [], ?_, by simp, by simp [FRs], fun j u hu => by simp at hu, by simp, trivial⟩
          rw [if_pos hca]; simp
        · refine ⟨rb, o + Shape.sizes ((List.replicate l.length te.sh).take off) + a * te.sh.size, cap - a, te.sh.size, [], ?_, by simp, by simp [FRs], fun j u hu => by simp at hu, by simp, trivial⟩
          rw [if_neg hca]; simp [Addr.add_mid]
      · rw [if_neg hab, VR_nonagg rfl]
        refine ⟨?_, by simp⟩
        simp only [FR]
        refine ⟨rb, sh0, List.replicate l.length te.sh, o, cap - a, ?_, ⟨tot, hμ, fun hp hoa => ?_⟩, hsub0, ho, by omega, by simp; omega⟩
        · by_cases ha0 : a = 0
          · subst ha0
            simp [Addr.add]
          · rw [if_neg (by omega)]
            rw [sizes_replicate_take _ _ _ (by omega), sizes_replicate_take _ _ _ (by omega)]
            simp [Addr.add_mid, Nat.add_mul, Nat.add_assoc]
        · obtain ⟨k0, sz, k1, k2⟩ := htot hp (by omega)
          exact ⟨by omega, sz, k1, by rw [show a = 0 by omega]; simpa using k2⟩
  · rename_i n esz e shs by_ ze j p h1
    split at hv <;> try (cases hv; done)
    rename_i l b h2 hb
    split at hv <;> try (cases hv; done)
    rename_i hsh
    cases hv
    cases lo' <;> simp only [OVR] at hlo
    cases mx' <;> simp only [OVR] at hmx
    obtain ⟨she, hu, hesz, hsn, hsz, hnz, _⟩ := (C.htt _ _ h1).d
    simp only [Shape.n.injEq] at hsn
    subst hsn
    rw [VR_nonagg rfl] at hx
    simp only [FR] at hx
    obtain ⟨⟨rb, sh0, o, hxe, ⟨tot, hμ⟩, ho⟩, _⟩ := hx
    cases hxe
    have hsize : (sizeOf e).run C.P w = .ok esz w := by
      cases hq : C.P.info? e with
      | none => simp [hq] at hesz
      | some i => simp [hq] at hesz; simp [sizeOf, typeInfo, hq, hesz]
    have hb' : b ≤ n := by
      rcases qbnd_sound C (w := w) hhi hb with ⟨_, _, rfl⟩ | ⟨k, n, _, _, _, h4, rfl, _⟩ <;> omega
    have hrun : (Instr.sliceAt t (.pointer (some ⟨rb, o, none⟩)) none hi' none).run C.P w = .ok (.slice (some ⟨rb, o, none⟩) b n) w := by
      rcases qbnd_sound C (w := w) hhi hb with ⟨rfl, rfl, rfl⟩ | ⟨k, n, rfl, _, h3, h4, rfl, hrh⟩ <;>
        simp [Instr.sliceAt, run_underlying hu, Instr.sureAddr, Instr.sliceBounds, hsize, Addr.add, *]
    refine ⟨_, hrun, ?_⟩
    rw [VR_nonagg rfl]
    simp only [FR]
    simp only [tgt] at h2
    cases hi : h j with
    | none => simp [hi] at h2
    | some obj =>
      cases obj <;> simp [hi] at h2
      have hl0 := (r.live j _ _ hi hμ).1.1
      have hsub := CV.sub_at p _ _ h2
      rw [hl0, hsh] at hsub
      refine ⟨⟨rb, sh0, List.replicate n she, o, n, by simp [Shape.sizes], ⟨tot, hμ, fun hp _ => ⟨by simp, she.size, fun x hx => by rw [List.eq_of_mem_replicate hx], ?_⟩⟩, hsub, ho, hb', by simpa using hb'⟩, by simp⟩
      subst hp
      obtain ⟨⟨hs1, ⟨arr, ee, cs, junk, hh, hj, hz, hf⟩, _⟩, _⟩ := r.live j _ _ hi hμ
      have hlen := FR.length _ _ hf
      simp only [Shape.sub, Option.some.injEq] at hsub
      rw [CV.size, hs1, hsub] at hlen
      have h2 := sizes_replicate_take n n she (Nat.le_refl _)
      simp only [List.take_replicate, Nat.min_self] at h2
      simp only [Shape.size, h2] at hlen
      rw [← hz, ← Array.length_toList, hj, List.length_append, hlen]
      exact Nat.le_add_right _ _
end ops
end Go.Cl
