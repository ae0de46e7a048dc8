/-
  What a row reads of an argument of plain data gives its clean value.
-/
import Derived.Test.YtbjbhoggbbhblaaCl23
set_option linter.unusedSimpArgs false
set_option linter.unusedVariables false
namespace Go.Cl
open Go.RowKit Go.ChangeShapes Go.WideShapes Go.ChangeAt

def consB (P : Program) : Nat → List Field → Nat → Bool
  | off, [], tot => off == tot
  | off, f :: l, tot => f.offset == off && consB P (off + P.cellsOf f.type) l tot

/-- The plain data types: no slice, no pointer. -/
def sup (P : Program) : Nat → TypeId → Bool
  | 0, _ => false
  | n + 1, t => match P.underlying t with
    | some (.int _) | some .bool | some (.float _) | some .string => true
    | some (.struct fs) => consB P 0 fs.toList (P.cellsOf t) && fs.toList.all fun f => sup P n f.type
    | some (.array c e) => (P.cellsOf t == c * P.cellsOf e) && sup P n e
    | _ => false

def All2 (r : TypeId → CV → Prop) : List TypeId → List CV → Prop
  | [], [] => True
  | t :: ts, v :: l => r t v ∧ All2 r ts l
  | _, _ => False

def Ty (P : Program) : Nat → TypeId → CV → Prop
  | 0, _, _ => False
  | n + 1, t, v => match P.underlying t with
    | some (.int k) => ∃ i, v = .sc (.int k i) ∧ (Lit.int k i).wf = true
    | some .bool => ∃ b, v = .sc (.bool b)
    | some (.float k) => ∃ b, v = .sc (.float k b) ∧ (Lit.float k b).wf = true
    | some .string => ∃ s, v = .sc (.string s) ∧ s.size ≤ maxLen
    | some (.struct fs) => ∃ l, v = .agg l ∧ All2 (Ty P n) (fs.toList.map (·.type)) l
    | some (.array c e) => ∃ l, v = .agg l ∧ l.length = c ∧ ∀ x ∈ l, Ty P n e x
    | _ => False

variable {H : Type} {enc : TypeId × Value → H} {P : Program} {w : World} {base : Nat} {spare : Nat → Bool} {held : Bool}

theorem read_fields {n fuel : Nat} (S : St) (ih : ∀ t cs x, sup P n t = true → DataW.trod enc P w base spare held fuel t cs = some x → ∃ v, FR S v cs ∧ Ty P n t v) (cs : List Value) :
    ∀ (fl : List Field) (off tot : Nat) (xs : List (DataW H × List MemPlace)), consB P off fl tot = true → cs.length = tot → (fl.all fun f => sup P n f.type) = true →
      (fl.mapM fun f => DataW.trod enc P w base spare held fuel f.type ((cs.drop f.offset).take (P.cellsOf f.type))) = some xs → ∃ l, FRs S l (cs.drop off) ∧ All2 (Ty P n) (fl.map (·.type)) l
  | [], off, tot, xs, hc, hl, _, _ => by
    simp only [consB, beq_iff_eq] at hc
    subst hc
    exact ⟨[], by simp [FRs, hl], trivial⟩
  | f :: fl, off, tot, xs, hc, hl, ha, hm => by
    simp only [consB, Bool.and_eq_true, beq_iff_eq] at hc
    simp only [List.all_cons, Bool.and_eq_true] at ha
    simp only [List.mapM_cons, Option.pure_def, Option.bind_eq_bind, Option.bind_eq_some_iff] at hm
    obtain ⟨y, hy, ys, hys, _⟩ := hm
    obtain ⟨v, hv, tv⟩ := ih _ _ _ ha.1 hy
    obtain ⟨l, hl', tl⟩ := read_fields S ih cs fl _ tot ys hc.2 hl ha.2 hys
    refine ⟨v :: l, ?_, tv, tl⟩
    simp only [FRs]
    refine ⟨_, _, ?_, hv, hl'⟩
    rw [hc.1, ← List.drop_drop, List.take_append_drop]

theorem read_elems {n fuel sz : Nat} {e : TypeId} (S : St) (ih : ∀ t cs x, sup P n t = true → DataW.trod enc P w base spare held fuel t cs = some x → ∃ v, FR S v cs ∧ Ty P n t v) (he : sup P n e = true) (cs : List Value) :
    ∀ (c k : Nat) (xs : List (DataW H × List MemPlace)), cs.length = (k + c) * sz →
      ((List.range' k c).mapM fun i => DataW.trod enc P w base spare held fuel e ((cs.drop (i * sz)).take sz)) = some xs → ∃ l, FRs S l (cs.drop (k * sz)) ∧ l.length = c ∧ ∀ x ∈ l, Ty P n e x
  | 0, k, xs, hl, _ => ⟨[], by simp [FRs, hl], rfl, by simp⟩
  | c + 1, k, xs, hl, hm => by
    rw [List.range'_succ] at hm
    simp only [List.mapM_cons, Option.pure_def, Option.bind_eq_bind, Option.bind_eq_some_iff] at hm
    obtain ⟨y, hy, ys, hys, _⟩ := hm
    obtain ⟨v, hv, tv⟩ := ih _ _ _ he hy
    obtain ⟨l, hl', hn, tl⟩ := read_elems S ih he cs c (k + 1) ys (by rw [hl]; congr 1; omega) hys
    refine ⟨v :: l, ?_, by simp [hn], by simpa using ⟨tv, tl⟩⟩
    simp only [FRs]
    refine ⟨_, _, ?_, hv, hl'⟩
    rw [Nat.succ_mul, ← List.drop_drop, List.take_append_drop]

theorem read (S : St) : ∀ (n : Nat) (t : TypeId) (fuel : Nat) (cs : List Value) (x : DataW H × List MemPlace), sup P n t = true → DataW.trod enc P w base spare held fuel t cs = some x → ∃ v, FR S v cs ∧ Ty P n t v
  | 0, t, _, _, _, hs, _ => by simp [sup] at hs
  | n + 1, t, 0, _, _, _, h => by simp [DataW.trod] at h
  | n + 1, t, fuel + 1, cs, x, hs, h => by
    have h0 := h
    unfold DataW.trod at h
    simp only [sup] at hs
    cases hu : P.underlying t with
    | none => rw [hu] at hs; simp at hs
    | some u =>
      rw [hu] at hs h
      cases u with
      | int k =>
        obtain ⟨i, rfl, _, hw⟩ := DataW.trod_int hu h0
        exact ⟨.sc (.int k i), by simp [FR, plain], by simp only [Ty, hu]; exact ⟨i, rfl, hw⟩⟩
      | bool =>
        obtain ⟨b, rfl, _⟩ := DataW.trod_bool hu h0
        exact ⟨.sc (.bool b), by simp [FR, plain], by simp only [Ty, hu]; exact ⟨b, rfl⟩⟩
      | string =>
        obtain ⟨s, rfl, _, hw⟩ := DataW.trod_string hu h0
        exact ⟨.sc (.string s), by simp [FR, plain], by simp only [Ty, hu]; exact ⟨s, rfl, hw⟩⟩
      | float k =>
        simp only at h
        have hc : ∃ b, cs = [.float k b] ∧ (Lit.float k b).wf = true := by
          clear hs h0
          split at h <;> try (rename_i e; cases e; done)
          all_goals first | (cases h; done) | skip
          · rename_i k1 k2 b e
            split at h
            · rename_i hk
              cases e
              obtain ⟨rfl, hw⟩ := hk
              exact ⟨b, rfl, hw⟩
            · cases h
        obtain ⟨b, rfl, hw⟩ := hc
        exact ⟨.sc (.float k b), by simp [FR, plain], by simp only [Ty, hu]; exact ⟨b, rfl, hw⟩⟩
      | struct fs =>
        simp only [Bool.and_eq_true] at hs
        simp only at h
        split at h
        · rename_i hlen
          simp only [Option.map_eq_some_iff] at h
          obtain ⟨xs, hx, _⟩ := h
          obtain ⟨l, hl, tl⟩ := read_fields S (fun t cs x => read S n t fuel cs x) cs fs.toList 0 _ xs hs.1 hlen hs.2 hx
          exact ⟨.agg l, by simpa [FR] using hl, by simp only [Ty, hu]; exact ⟨l, rfl, tl⟩⟩
        · cases h
      | array c e =>
        simp only [Bool.and_eq_true, beq_iff_eq] at hs
        simp only at h
        split at h
        · rename_i hlen
          simp only [Option.map_eq_some_iff] at h
          obtain ⟨xs, hx, _⟩ := h
          rw [List.range_eq_range'] at hx
          obtain ⟨l, hl, hn, tl⟩ := read_elems S (fun t cs x => read S n t fuel cs x) hs.2 cs c 0 xs (by rw [hlen, hs.1]; simp) hx
          exact ⟨.agg l, by simpa [FR] using hl, by simp only [Ty, hu]; exact ⟨l, rfl, hn, tl⟩⟩
        · cases h
      | _ => simp at hs

/-- An argument of plain data. -/
theorem arg_plain {n : Nat} {t : TypeId} {v : Value} {d : DataW H} {ps : List MemPlace} {r : Reach} {b0 : Nat} (hs : sup P n t = true) (hv : Value.okWide P w r b0 t v) (h : DataW.Trod enc P w base spare held t v d ps) : ∃ c, VR (S0 w) c v ∧ Ty P n t c := by
  obtain ⟨fuel, hf⟩ := h
  obtain ⟨c, hc, ht⟩ := read (S0 w) n t fuel _ _ hs hf
  refine ⟨c, ⟨hc, ?_⟩, ht⟩
  cases n with
  | zero => simp [sup] at hs
  | succ n =>
    simp only [sup] at hs
    simp only [Ty] at ht
    unfold Value.okWide at hv
    cases hu : P.underlying t with
    | none => rw [hu] at hs; simp at hs
    | some u =>
      rw [hu] at hs ht hv
      cases u with
      | int k => obtain ⟨i, rfl, _⟩ := ht; simp only [Cell.okWide, Cell.ok, hu] at hv; cases v <;> simp_all [CV.isAgg]
      | bool => obtain ⟨i, rfl⟩ := ht; simp only [Cell.okWide, Cell.ok, hu] at hv; cases v <;> simp_all [CV.isAgg]
      | float k => obtain ⟨i, rfl, _⟩ := ht; simp only [Cell.okWide, Cell.ok, hu] at hv; cases v <;> simp_all [CV.isAgg]
      | string => obtain ⟨i, rfl, _⟩ := ht; simp only [Cell.okWide, Cell.ok, hu] at hv; cases v <;> simp_all [CV.isAgg]
      | struct fs => obtain ⟨l, rfl, _⟩ := ht; obtain ⟨cs, rfl, _⟩ := hv; simp [CV.isAgg]
      | array c e => obtain ⟨l, rfl, _⟩ := ht; obtain ⟨cs, rfl, _⟩ := hv; simp [CV.isAgg]
      | _ => simp at hs

theorem add_none {a : Addr} (ha : a.spot = none) (n : Nat) : a.add n = ⟨a.block, a.off + n, none⟩ := by
  cases a; simp only at ha; subst ha; unfold Addr.add; split <;> simp_all

theorem lies_cells {a : Addr} (ha : a.spot = none) {m : Nat} {cs : List Value} (h : w.cells? base a m = some cs) : (S0 w).lies a.block a.off cs ∧ cs.length = m := by
  unfold World.cells? at h
  split at h
  · refine ⟨fun j u hu => ?_, by simpa using mapM_some_length h⟩
    have hj : j < cs.length := by
      rcases Nat.lt_or_ge j cs.length with q | q
      · exact q
      · rw [List.getElem?_eq_none q] at hu; cases hu
    have hl : cs.length = m := by simpa using mapM_some_length h
    have := mapM_some_get h j j (List.getElem?_range (by omega))
    rw [hu] at this
    simp only [S0]
    rw [← this]
    rw [add_none ha]
  · cases h

theorem read_slice {n fuel sz : Nat} {e : TypeId} {a : Addr} (he : sup P n e = true) (hsz : P.cellsOf e = sz) (ha : a.spot = none) :
    ∀ (c k : Nat) (xs : List (DataW H × List MemPlace)),
      ((List.range' k c).mapM fun i => (w.cells? base (a.add (i * sz)) sz).bind (DataW.trod enc P w base spare held fuel e)) = some xs →
        ∃ l es, FRs (S0 w) l es ∧ l.length = c ∧ (∀ x ∈ l, Ty P n e x) ∧ (S0 w).lies a.block (a.off + k * sz) es ∧ es.length = c * sz ∧ ∀ x ∈ l, x.size = sz
  | 0, k, xs, _ => ⟨[], [], by simp [FRs], rfl, by simp, fun j u hu => by simp at hu, by simp, by simp⟩
  | c + 1, k, xs, hm => by
    rw [List.range'_succ] at hm
    simp only [List.mapM_cons, Option.pure_def, Option.bind_eq_bind, Option.bind_eq_some_iff] at hm
    obtain ⟨y, ⟨cs, hcs, hy⟩, ys, hys, _⟩ := hm
    obtain ⟨v, hv, tv⟩ := read (S0 w) n e fuel cs y he hy
    obtain ⟨l, es, h1, h2, h3, h4, h5, h6⟩ := read_slice he hsz ha c (k + 1) ys hys
    obtain ⟨hl, hn⟩ := lies_cells (a := a.add (k * sz)) (by rw [add_none ha]) hcs
    rw [add_none ha] at hl
    refine ⟨v :: l, cs ++ es, by simp only [FRs]; exact ⟨_, _, rfl, hv, h1⟩, by simp [h2], by simpa using ⟨tv, h3⟩, fun j u hu => ?_, by simp [hn, h5, Nat.succ_mul]; omega, ?_⟩
    · rw [List.getElem?_append] at hu
      split at hu
      · have := hl j u hu
        simpa [Nat.add_assoc] using this
      · rename_i hj
        have := h4 _ u hu
        rw [hn] at this hj
        rw [← this]
        congr 1
        rw [Nat.succ_mul]; omega
    · intro x hx
      rcases List.mem_cons.1 hx with rfl | hx
      · rw [← FR.length _ _ hv, hn]
      · exact h6 x hx

/-- An argument that is a slice of plain data. -/
theorem arg_slice {n : Nat} {t e : TypeId} {v : Value} {d : DataW H} {ps : List MemPlace} {r : Reach} {b0 : Nat} (ht : P.underlying t = some (.slice e)) (hs : sup P n e = true) (hv : Value.okWide P w r b0 t v) (h : DataW.Trod enc P w base spare held t v d ps) :
    ∃ tl l, VR (S0 w) (.lst tl l) v ∧ (∀ x ∈ l, Ty P n e x) ∧ (tl = .view ∨ tl = .exact ∧ l = []) := by
  obtain ⟨fuel, hf⟩ := h
  simp only [Value.okWide, ht, Cell.okWide] at hv
  cases v with
  | slice base? len cap =>
    cases base? with
    | none =>
      have hz : len = 0 ∧ cap = 0 := by
        simp only [Cell.ok, ht] at hv
        split at hv <;> simp_all
      obtain ⟨rfl, rfl⟩ := hz
      refine ⟨.exact, [], (VR_nonagg rfl).2 ⟨by simp [FR], fun _ h => by cases h⟩, by simp, .inr ⟨rfl, rfl⟩⟩
    | some a =>
      simp only [Cell.ok, ht] at hv
      have ha : a.spot = none := hv.2.2.2.1
      have hlc : len ≤ cap := hv.1
      cases fuel with
      | zero => simp [DataW.trod] at hf
      | succ fuel =>
        simp only [DataW.trod, ht, Value.cells] at hf
        split at hf
        · rw [Option.bind_eq_some_iff] at hf
          obtain ⟨xs, hx, _⟩ := hf
          rw [List.range_eq_range'] at hx
          obtain ⟨l, es, h1, h2, h3, h4, h5, h6⟩ := read_slice hs rfl ha len 0 xs hx
          subst h2
          refine ⟨.view, l, (VR_nonagg rfl).2 ⟨?_, fun _ h => by cases h⟩, h3, .inl rfl⟩
          simp only [FR]
          refine .inr ⟨a.block, a.off, cap, P.cellsOf e, es, ?_, hlc, h1, by simpa using h4, h6, trivial⟩
          cases a; simp only at ha; subst ha; rfl
        · cases hf
  | _ => simp [Cell.ok, ht] at hv
end Go.Cl
