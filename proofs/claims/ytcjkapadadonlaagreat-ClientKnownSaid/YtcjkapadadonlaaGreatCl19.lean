/-
  The table of types, by a check that the kernel runs.
-/
import Derived.Test.YtcjkapadadonlaaGreatCl18
set_option linter.unusedSimpArgs false
set_option linter.unusedVariables false
namespace Go.Cl
open Go.RowKit

def baseEq : TypeDesc → TypeDesc → Bool
  | .bool, .bool => true
  | .int a, .int b => decide (a = b)
  | .float a, .float b => decide (a = b)
  | .string, .string => true
  | .pointer a, .pointer b => Nat.beq a b
  | .slice a, .slice b => Nat.beq a b
  | .map a b, .map c d => Nat.beq a c && Nat.beq b d
  | .func a b c, .func d e f => decide (a = d) && decide (b = e) && decide (c = f)
  | .interface a, .interface b => decide (a = b)
  | _, _ => false

theorem baseEq_spec {a b : TypeDesc} (h : baseEq a b = true) : a = b ∧ a.isRow = false := by
  unfold baseEq at h
  split at h <;> try (cases h; done)
  all_goals simp_all [TypeDesc.isRow]

def valEq : Value → Value → Bool
  | .bool a, .bool b => decide (a = b)
  | .int k a, .int l b => decide (k = l) && decide (a = b)
  | .float k a, .float l b => decide (k = l) && Nat.beq a b
  | .string a, .string b => decide (a.data.toList = b.data.toList)
  | .pointer none, .pointer none => true
  | .map none, .map none => true
  | .nilFunc, .nilFunc => true
  | .nilIface, .nilIface => true
  | .slice none a b, .slice none c d => Nat.beq a c && Nat.beq b d
  | _, _ => false
theorem valEq_spec {a b : Value} (h : valEq a b = true) : a = b := by
  unfold valEq at h
  split at h <;> try (cases h; done)
  all_goals simp_all
  rename_i a b
  cases a; cases b
  simp at h
  rename_i x y
  cases x; cases y
  simp at h
  simp [h]
def valsEq : List Value → List Value → Bool
  | [], [] => true
  | a :: l, b :: m => valEq a b && valsEq l m
  | _, _ => false
theorem valsEq_spec : ∀ {l m : List Value}, valsEq l m = true → l = m
  | [], [], _ => rfl
  | [], _ :: _, h => by simp [valsEq] at h
  | _ :: _, [], h => by simp [valsEq] at h
  | a :: l, b :: m, h => by simp only [valsEq, Bool.and_eq_true] at h; rw [valEq_spec h.1, valsEq_spec h.2]

def tiInfo (P : Program) (t : TypeId) (ti : TI) : Bool :=
  match P.info? t with
  | some i => Nat.beq i.size ti.sh.size && Nat.beq i.bytes ti.bytes && (match i.zero, flatC ti.zero with
      | some z, some l => valsEq l z.cells.toList && (aggB z == ti.zero.isAgg)
      | _, _ => false)
  | none => false

def tiD (P : Program) (t : TypeId) (ti : TI) : Bool :=
  match ti.d, P.underlying t with
  | .base u, some v => baseEq v u && decide (ti.sh = .s)
  | .st fs, some (.struct f) =>
    decide (f.toList.map (fun x => (x.offset, ((P.info? x.type).map (·.size)).getD 0, x.type)) = fs) && (f.all (fun x => x.name != "_")) && !P.stoodInHeld t && !P.eqGuardType P.depth t &&
    (match ti.sh with
      | .n shs => Nat.beq shs.length fs.length && fs.zipIdx.all fun p => Nat.beq p.1.1 (Shape.sizes (shs.take p.2)) && !Nat.beq p.1.2.1 0 && decide ((shs[p.2]?).map Shape.size = some p.1.2.1)
      | _ => false)
  | .ar n esz e, some (.array m f) => Nat.beq m n && Nat.beq f e && decide ((P.info? e).map (·.size) = some esz) && !Nat.beq esz 0 && !P.eqGuardType P.depth t &&
    (match ti.sh with
      | .n shs => match shs with
        | she :: _ => decide (shs = List.replicate n she) && Nat.beq she.size esz
        | [] => false
      | _ => false)
  | _, _ => false

def tiB (P : Program) (p : TypeId × TI) : Bool := tiInfo P p.1 p.2 && tiD P p.1 p.2 && decide (p.2.zero.shape = p.2.sh) && p.2.sh.good

theorem tiB_spec {P : Program} {t : TypeId} {ti : TI} (h : tiB P (t, ti) = true) : ti.ok P t := by
  simp only [tiB, Bool.and_eq_true] at h
  obtain ⟨⟨⟨h1, h2⟩, h3⟩, h4⟩ := h
  have hi : ∃ i z, P.info? t = some i ∧ i.size = ti.sh.size ∧ i.bytes = ti.bytes ∧ i.zero = some z ∧ flatC ti.zero = some z.cells.toList ∧ aggB z = ti.zero.isAgg := by
    unfold tiInfo at h1
    split at h1 <;> try (cases h1; done)
    rename_i i hi
    simp only [Bool.and_eq_true] at h1
    obtain ⟨⟨a1, a2⟩, a3⟩ := h1
    split at a3 <;> try (cases a3; done)
    rename_i z l hz hl
    simp only [Bool.and_eq_true, beq_iff_eq] at a3
    exact ⟨i, z, hi, Nat.eq_of_beq_eq_true a1, Nat.eq_of_beq_eq_true a2, hz, by rw [hl, valsEq_spec a3.1], a3.2⟩
  obtain ⟨i, z, k1, k2, k3, k4, k5, k6⟩ := hi
  refine ⟨⟨i, z, k1, k2, k3, k4, k5⟩, of_decide_eq_true h3, h4, by simp [k1, k4, k6], ?_⟩
  unfold tiD at h2
  split at h2 <;> try (cases h2; done)
  · rename_i u v hd hu
    rw [hd]
    simp only [Bool.and_eq_true] at h2
    obtain ⟨b1, b2⟩ := baseEq_spec h2.1
    exact ⟨by rw [hu, b1], by rw [← b1]; exact b2, of_decide_eq_true h2.2⟩
  · rename_i fs f hd hu
    rw [hd]
    simp only [Bool.and_eq_true] at h2
    obtain ⟨⟨⟨⟨c1, c2⟩, c3⟩, c4⟩, c5⟩ := h2
    split at c5 <;> try (cases c5; done)
    rename_i shs hsh
    simp only [Bool.and_eq_true] at c5
    refine ⟨f, shs, hu, of_decide_eq_true c1, hsh, Nat.eq_of_beq_eq_true c5.1, fun j x hx => ?_, c2, by simpa using c3, by simpa using c4⟩
    have := List.all_eq_true.1 c5.2 (x, j) (by rw [List.mem_zipIdx_iff_getElem?]; exact hx)
    simp only [Bool.and_eq_true] at this
    obtain ⟨⟨d1, d2⟩, d3⟩ := this
    exact ⟨Nat.eq_of_beq_eq_true d1, fun e => by rw [e] at d2; simp at d2, of_decide_eq_true d3⟩
  · rename_i n esz e m f hd hu
    rw [hd]
    simp only [Bool.and_eq_true] at h2
    obtain ⟨⟨⟨⟨⟨c1, c2⟩, c3⟩, c4⟩, c5⟩, c6⟩ := h2
    split at c6 <;> try (cases c6; done)
    rename_i shs hsh
    split at c6 <;> try (cases c6; done)
    rename_i she rest
    simp only [Bool.and_eq_true] at c6
    refine ⟨she, by rw [hu, Nat.eq_of_beq_eq_true c1, Nat.eq_of_beq_eq_true c2], of_decide_eq_true c3, by rw [hsh]; congr 1; exact of_decide_eq_true c6.1, Nat.eq_of_beq_eq_true c6.2, fun e0 => by rw [e0] at c4; simp at c4, by simpa using c5⟩

def look : List (TypeId × TI) → TypeId → Option TI
  | [], _ => none
  | (u, ti) :: l, t => bif Nat.beq t u then some ti else look l t
theorem look_mem : ∀ {l : List (TypeId × TI)} {t : TypeId} {ti : TI}, look l t = some ti → (t, ti) ∈ l
  | [], _, _, h => by simp [look] at h
  | (u, tu) :: l, t, ti, h => by
    simp only [look] at h
    cases e : Nat.beq t u with
    | true => rw [e] at h; simp at h; subst h; rw [Nat.eq_of_beq_eq_true e]; simp
    | false => rw [e] at h; exact List.mem_cons_of_mem _ (look_mem h)

def mkCtx (P : Program) (hm : P.follows .mixedOrders = true) (tab : List (TypeId × TI)) (h : tab.all (tiB P) = true) : Ctx where
  P := P
  mixed := hm
  tt := look tab
  htt t ti ht := tiB_spec (List.all_eq_true.1 h (t, ti) (look_mem ht))
end Go.Cl
