/-
  The quiet operations in one function; each is sound.
-/
import Derived.Test.YtcjkapadadonlaaGreatCl7
set_option linter.unusedSimpArgs false
set_option linter.unusedVariables false
namespace Go.Cl
open Go.RowKit

section ops
variable (C : Ctx)

/-- A slice that is made, for reading alone. -/
def qmake (t : TypeId) (l c : CV) : Option CV :=
  match C.tt t, l, c with
  | some ⟨.base (.slice e), _, _, _⟩, .sc (.int .i64 n), .sc (.int .i64 m) =>
    match C.tt e with
    | some te => if n = m ∧ 0 ≤ n ∧ n ≤ 9223372036854775807 ∧ te.sh.size ≠ 0 ∧ te.bytes * n.toNat ≤ 281474976710656 then some (.lst .exact (List.replicate n.toNat te.zero)) else none
    | none => none
  | _, _, _ => none

theorem run_makeSlice {P : Program} {w : World} {t e : TypeId} {i : TypeInfo} {z : Value} {n : Int} (hu : P.underlying t = some (.slice e)) (hi : P.info? e = some i) (hz : i.zero = some z) (hs : i.size = z.cells.size)
    (h0 : 0 ≤ n) (hn : n ≤ 9223372036854775807) (hb : i.bytes * n.toNat ≤ 281474976710656) :
    (Instr.makeSlice t (.int .i64 n) (.int .i64 n)).run P w = .ok (.slice (some ⟨w.heap.size, 0, none⟩) n.toNat n.toNat) (w.alloc (.cells (List.replicate n.toNat z.cells.toList).flatten.toArray e)) := by
  have hw : IntKind.i64.wrap n = n := by
    have : (IntKind.i64.wrap n : Int) = n := by
      unfold IntKind.wrap
      simp [IntKind.bits, IntKind.signed]
      omega
    exact this
  have hb' : ¬ ((281474976710656 : Int) < ↑i.bytes * n) := by
    have : ((i.bytes * n.toNat : Nat) : Int) = ↑i.bytes * n := by rw [Int.natCast_mul, Int.toNat_of_nonneg h0]
    omega
  have hr := rep_cells z.cells n.toNat
  have harr : (Array.range (n.toNat * z.cells.size)).map (fun i => z.cells[i % z.cells.size]!) = (List.replicate n.toNat z.cells.toList).flatten.toArray := by
    apply Array.ext'; rw [hr]
  by_cases hnn : n.toNat * z.cells.size = 0
  · have hnil : (List.replicate n.toNat z.cells.toList).flatten.toArray = #[] := by rw [← harr, hnn]; simp [Array.range]
    have h1 : ¬ n < 0 := by omega
    simp [Instr.makeSlice, run_underlying hu, asInt, asIntOf, typeInfo, sizeOf, hi, hw, h1, hb', hs, hnn, newRow, hnil, show ∀ f : Nat → Value, Array.map f (Array.range 0) = #[] from fun _ => by simp [Array.range]]
  · have h1 : ¬ n < 0 := by omega
    simp [Instr.makeSlice, run_underlying hu, asInt, asIntOf, typeInfo, sizeOf, hi, hw, h1, hb', hs, hnn, newRow, run_zeroValue hi hz, harr]

theorem qmake_sound {w0 : World} {B : Nat} {S : St} {h : Heap} {w : World} (r : R w0 B S h w) {t : TypeId} {l c v : CV} {x y : Value} (hl : VR S l x) (hc : VR S c y) (hv : qmake C t l c = some v) :
    QSound C w0 B S h w v (Instr.makeSlice t x y) := by
  unfold qmake at hv
  split at hv <;> try (cases hv; done)
  rename_i e sh by_ ze n m h1
  split at hv <;> try (cases hv; done)
  rename_i te h2
  split at hv <;> try (cases hv; done)
  rename_i hc0
  obtain ⟨rfl, h0, hn, hnz, hb⟩ := hc0
  cases hv
  obtain ⟨rfl, _⟩ := VR_sc.1 hl
  obtain ⟨rfl, _⟩ := VR_sc.1 hc
  have hte := C.htt _ _ h2
  obtain ⟨i, z, hi, hisz, hby, hz, hfz⟩ := hte.info
  have hFz : FR S te.zero z.cells.toList := FR_flatC _ _ hfz
  have hzs : z.cells.size = te.sh.size := by rw [← Array.length_toList, FR.length _ _ hFz, CV.size, hte.zsh]
  obtain ⟨hle, hr', hlies⟩ := r.know (List.replicate n.toNat z.cells.toList).flatten.toArray e
  refine ⟨_, _, _, run_makeSlice (C.htt _ _ h1).d.1 hi hz (by rw [hisz, hzs]) h0 hn (by rw [hby]; exact hb), hle, rfl, rfl, hr', ?_⟩
  rw [VR_nonagg rfl]
  simp only [FR]
  refine ⟨.inr ⟨w.heap.size, 0, n.toNat, te.sh.size, _, by simp, by simp, FRs_replicate (FR.mono hle _ _ hFz) _, by simpa using hlies, ?_, by simp [Tail.fits]⟩, by simp⟩
  intro x hx
  rw [List.eq_of_mem_replicate hx, CV.size, hte.zsh]

def qlen (h : Heap) (t : TypeId) (x : CV) : Option CV :=
  match C.tt t, x with
  | some ⟨.base .string, _, _, _⟩, .sc (.string s) => some (.sc (.int .i64 s.size))
  | some ⟨.base (.slice _), _, _, _⟩, .lst _ l => some (.sc (.int .i64 l.length))
  | some ⟨.base (.slice _), _, _, _⟩, .slc _ _ _ n => some (.sc (.int .i64 n))
  | some ⟨.base (.map _ _), _, _, _⟩, .sc (.map none) => some (.sc (.int .i64 0))
  | some ⟨.base (.map _ _), _, _, _⟩, .mapr i => match h i with
    | some (.map l) => some (.sc (.int .i64 l.length))
    | _ => none
  | _, _ => none

theorem qlen_sound {w0 : World} {B : Nat} {S : St} {h : Heap} {w : World} (r : R w0 B S h w) {t ty : TypeId} {ts : Array TypeId} (hts : ts[0]? = some t) {x v : CV} {y : Value} (hx : VR S x y) (hv : qlen C h t x = some v) :
    ∃ z, (Builtin.len_ ts ty #[y]).run C.P w = .ok z w ∧ VR S v z := by
  unfold qlen at hv
  split at hv <;> try (cases hv; done)
  · rename_i sh by_ ze s h1
    have hu := (C.htt _ _ h1).d.1
    cases hv
    obtain ⟨rfl, _⟩ := VR_sc.1 hx
    exact ⟨_, by simp [Builtin.len_, hts, run_underlying hu, goInt], VR_sc.2 ⟨rfl, rfl⟩⟩
  · rename_i e sh by_ ze tl l h1
    have hu := (C.htt _ _ h1).d.1
    cases hv
    rw [VR_nonagg rfl] at hx
    simp only [FR] at hx
    obtain ⟨hx, _⟩ := hx
    refine ⟨.int .i64 l.length, ?_, VR_sc.2 ⟨rfl, rfl⟩⟩
    rcases hx with ⟨rfl, _, hx⟩ | ⟨bb, off, cap, sz, es, hx, _⟩ <;> cases hx <;> simp [Builtin.len_, hts, run_underlying hu, goInt]
  · rename_i e sh by_ ze i p o n h1
    have hu := (C.htt _ _ h1).d.1
    cases hv
    rw [VR_nonagg rfl] at hx
    simp only [FR] at hx
    obtain ⟨⟨rb, sh, l, o', cap, hx, _⟩, _⟩ := hx
    cases hx
    exact ⟨_, by simp [Builtin.len_, hts, run_underlying hu, goInt], VR_sc.2 ⟨rfl, rfl⟩⟩
  · rename_i k e sh by_ ze h1
    have hu := (C.htt _ _ h1).d.1
    cases hv
    obtain ⟨rfl, _⟩ := VR_sc.1 hx
    exact ⟨_, by simp [Builtin.len_, hts, run_underlying hu, goInt], VR_sc.2 ⟨rfl, rfl⟩⟩
  · rename_i k e sh by_ ze i h1
    have hu := (C.htt _ _ h1).d.1
    cases hi : h i with
    | none => simp [hi] at hv
    | some obj =>
      cases obj <;> simp [hi] at hv
      subst hv
      rename_i l
      rw [VR_nonagg rfl] at hx
      simp only [FR] at hx
      obtain ⟨⟨rb, hx, hμ⟩, _⟩ := hx
      cases hx
      obtain ⟨⟨⟨es, clock, hh, hent⟩, _⟩, _⟩ := r.live i _ _ hi hμ
      refine ⟨.int .i64 l.length, ?_, VR_sc.2 ⟨rfl, rfl⟩⟩
      have hrun : (getObj rb).run C.P w = .ok (.map es clock) w := by simp [getObj, Sem.run, hh]
      have hl := hent.1
      simp [Builtin.len_, hts, run_underlying hu, goInt, hrun, hl]

def qminmax (mx : Bool) : List CV → Option CV
  | [.sc (.int k a), .sc (.int _ b)] => some (.sc (.int k (if mx then (if b > a then b else a) else (if b < a then b else a))))
  | [.sc (.float k a), .sc (.float _ b)] =>
    match k.format.order a b with
    | none => none
    | some .lt => some (.sc (.float k (if mx then b else a)))
    | some .gt => some (.sc (.float k (if mx then a else b)))
    | some .eq => some (.sc (.float k (if (k.decode a).neg then (if mx then b else a) else (if mx then a else b))))
  | [.sc (.int k a), .sc (.int _ b), .sc (.int _ c)] =>
    let d := if mx then (if b > a then b else a) else (if b < a then b else a)
    some (.sc (.int k (if mx then (if c > d then c else d) else (if c < d then c else d))))
  | _ => none

theorem qminmax_sound {S : St} {w : World} {mx : Bool} {l : List CV} {vs : List Value} {v : CV} (ts : Array TypeId) (t : TypeId) (hl : VRs S l vs) (hv : qminmax mx l = some v) :
    ∃ y, (if mx then Builtin.max_ ts t vs.toArray else Builtin.min_ ts t vs.toArray).run C.P w = .ok y w ∧ VR S v y := by
  unfold qminmax at hv
  split at hv <;> try (cases hv; done)
  · rename_i k a k' b
    cases hv
    cases vs with
    | nil => simp [VRs] at hl
    | cons x vs =>
      rw [VRs_cons] at hl
      cases vs with
      | nil => simp [VRs] at hl
      | cons y vs =>
        rw [VRs_cons] at hl
        obtain ⟨h1, h2, h3⟩ := hl
        obtain ⟨rfl, _⟩ := VR_sc.1 h1
        obtain ⟨rfl, _⟩ := VR_sc.1 h2
        simp only [VRs] at h3; subst h3
        cases mx
        · exact ⟨_, by simp [Builtin.min_, Builtin.min2], VR_sc.2 ⟨rfl, rfl⟩⟩
        · exact ⟨_, by simp [Builtin.max_, Builtin.max2], VR_sc.2 ⟨rfl, rfl⟩⟩
  · rename_i k a k' b
    cases vs with
    | nil => simp [VRs] at hl
    | cons x vs =>
      rw [VRs_cons] at hl
      cases vs with
      | nil => simp [VRs] at hl
      | cons y vs =>
        rw [VRs_cons] at hl
        obtain ⟨h1, h2, h3⟩ := hl
        obtain ⟨rfl, _⟩ := VR_sc.1 h1
        obtain ⟨rfl, _⟩ := VR_sc.1 h2
        simp only [VRs] at h3; subst h3
        cases ho : k.format.order a b with
        | none => simp [ho] at hv
        | some o =>
          cases o <;> simp only [ho, Option.some.injEq] at hv <;> subst hv <;> cases mx
          · exact ⟨_, by simp [Builtin.min_, Builtin.min2, ho], VR_sc.2 ⟨rfl, rfl⟩⟩
          · exact ⟨_, by simp [Builtin.max_, Builtin.max2, ho], VR_sc.2 ⟨rfl, rfl⟩⟩
          · exact ⟨_, by simp [Builtin.min_, Builtin.min2, ho], VR_sc.2 ⟨rfl, rfl⟩⟩
          · exact ⟨_, by simp [Builtin.max_, Builtin.max2, ho], VR_sc.2 ⟨rfl, rfl⟩⟩
          · exact ⟨_, by simp [Builtin.min_, Builtin.min2, ho], VR_sc.2 ⟨rfl, rfl⟩⟩
          · exact ⟨_, by simp [Builtin.max_, Builtin.max2, ho], VR_sc.2 ⟨rfl, rfl⟩⟩
  · rename_i k a k' b k'' c
    cases hv
    cases vs with
    | nil => simp [VRs] at hl
    | cons x vs =>
      rw [VRs_cons] at hl
      cases vs with
      | nil => simp [VRs] at hl
      | cons y vs =>
        rw [VRs_cons] at hl
        cases vs with
        | nil => simp [VRs] at hl
        | cons z vs =>
          rw [VRs_cons] at hl
          obtain ⟨h1, h2, h3, h4⟩ := hl
          obtain ⟨rfl, _⟩ := VR_sc.1 h1
          obtain ⟨rfl, _⟩ := VR_sc.1 h2
          obtain ⟨rfl, _⟩ := VR_sc.1 h3
          simp only [VRs] at h4; subst h4
          cases mx
          · exact ⟨_, by simp [Builtin.min_, Builtin.min2], VR_sc.2 ⟨rfl, rfl⟩⟩
          · exact ⟨_, by simp [Builtin.max_, Builtin.max2], VR_sc.2 ⟨rfl, rfl⟩⟩
end ops
end Go.Cl
