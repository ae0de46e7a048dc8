/-
  Quiet operations, continued: indices, fields, numbers, literals.
-/
import Derived.Test.YtcjkapadadonlaaGreatCl3
set_option linter.unusedSimpArgs false
set_option linter.unusedVariables false
namespace Go.Cl
open Go.RowKit

theorem sizes_replicate_take (n i : Nat) (sh : Shape) (h : i ≤ n) : Shape.sizes ((List.replicate n sh).take i) = i * sh.size := by
  rw [Shape.sizes_eq, List.take_replicate, Nat.min_eq_left h]
  simp

theorem sizes_take_uniform {sz : Nat} : ∀ (l : List CV) (i : Nat), (∀ x ∈ l, x.size = sz) → i ≤ l.length → Shape.sizes ((CV.shapes l).take i) = i * sz
  | _, 0, _, _ => by simp [Shape.sizes]
  | [], i + 1, _, h => by simp at h
  | x :: l, i + 1, hx, h => by
    have h1 := sizes_take_uniform l i (fun y hy => hx y (by simp [hy])) (by simpa using h)
    have h2 := hx x (by simp)
    simp only [CV.size] at h2
    simp [CV.shapes, Shape.sizes, h1, h2, Nat.succ_mul, Nat.add_comm]

theorem lies_focus {S : St} {b o : Nat} {pre c post : List Value} (h : S.lies b o (pre ++ c ++ post)) : S.lies b (o + pre.length) c := fun j u hu => by
  have := h (pre.length + j) u (by
    rw [List.append_assoc, List.getElem?_append_right (by omega), List.getElem?_append_left (by have := (List.getElem?_eq_some_iff.1 hu).1; omega)]
    simpa using hu)
  rw [← this]; congr 1; omega

section ops
variable (C : Ctx)

def qindexAddr (h : Heap) (t : TypeId) (x i : CV) : Option CV :=
  match i, C.tt t with
  | .sc (.int _ n), some ⟨.ar cnt _ _, sh, _, _⟩ =>
    match tgt h x with
    | some (.agg l) =>
      if CV.shape (.agg l) = sh ∧ 0 ≤ n ∧ n < cnt then
        match x with
        | .ptr j p => some (.ptr j (p ++ [n.toNat]))
        | .rptr _ => (l[n.toNat]?).map .rptr
        | _ => none
      else none
    | _ => none
  | .sc (.int _ n), some ⟨.base (.slice e), _, _, _⟩ =>
    match C.tt e with
    | some te =>
      match x with
      | .lst _ l =>
        if 0 ≤ n ∧ n < l.length then
          match l[n.toNat]? with
          | some v => if v.shape = te.sh then some (.rptr v) else none
          | none => none
        else none
      | .slc j p off len =>
        match tgt h (.ptr j p) with
        | some (.agg l) => if CV.shape (.agg l) = .n (List.replicate l.length te.sh) ∧ 0 ≤ n ∧ n < len then some (.ptr j (p ++ [off + n.toNat])) else none
        | _ => none
      | _ => none
    | none => none
  | _, _ => none

theorem qindexAddr_sound {w0 : World} {B : Nat} {S : St} {h : Heap} {w : World} (r : R w0 B S h w) {t : TypeId} {a i v : CV} {x y : Value} (ha : VR S a x) (hi : VR S i y) (hv : qindexAddr C h t a i = some v) :
    ∃ z, (Instr.indexAt t x y).run C.P w = .ok z w ∧ VR S v z := by
  unfold qindexAddr at hv
  split at hv <;> try (cases hv; done)
  · rename_i k n cnt esz e sh by_ ze h1
    rw [VR_sc] at hi
    obtain ⟨rfl, _⟩ := hi
    split at hv <;> try (cases hv; done)
    rename_i l h2
    split at hv <;> try (cases hv; done)
    rename_i hc
    obtain ⟨hsh, h0, hn⟩ := hc
    obtain ⟨she, hu, hesz, hshn, hsz, hz, _⟩ := (C.htt _ _ h1).d
    simp only at hshn
    rw [hshn] at hsh
    simp only [CV.shape, Shape.n.injEq] at hsh
    obtain ⟨b, o, c, rfl, hcc, hr⟩ := tgt_spec r ha h2
    have hnn : n.toNat < cnt := by omega
    have hsize : (sizeOf e).run C.P w = .ok esz w := by
      cases hq : C.P.info? e with
      | none => simp [hq] at hesz
      | some i => simp [hq] at hesz; simp [sizeOf, typeInfo, hq, hesz]
    have hrun : (Instr.indexAt t (.pointer (some ⟨b, o, none⟩)) (.int k n)).run C.P w = .ok (.pointer (some ⟨b, o + n.toNat * esz, none⟩)) w := by
      simp [Instr.indexAt, asIntOf, run_underlying hu, Instr.sureAddr, hsize, h0, hn, Addr.add_mid]
    refine ⟨_, hrun, ?_⟩
    have hlen : l.length = cnt := by
      have := congrArg List.length hsh
      simpa [CV.shapes_eq] using this
    cases a <;> simp only at hv <;> try (cases hv; done)
    · rename_i j p
      cases hv
      rw [VR_nonagg rfl] at ha ⊢
      simp only [FR] at ha ⊢
      obtain ⟨⟨rb, sh0, o0, hx, ⟨tot, hμ⟩, ho0⟩, _⟩ := ha
      cases hx
      refine ⟨⟨b, sh0, o + n.toNat * esz, rfl, ⟨tot, hμ⟩, ?_⟩, by simp⟩
      simp only [tgt] at h2
      cases hi : h j with
      | none => simp [hi] at h2
      | some obj =>
        cases obj <;> simp [hi] at h2
        have hl0 := (r.live j _ _ hi hμ).1.1
        have hsub := CV.sub_at p _ _ h2
        rw [hl0] at hsub
        rw [Shape.off_append p sh0 _ [n.toNat] hsub, ho0]
        simp only [CV.shape, Shape.off, Option.bind_some]
        rw [hsh, List.getElem?_replicate, if_pos hnn, sizes_replicate_take _ _ _ (by omega), hsz]
        cases she <;> simp
    · rename_i z
      simp only [tgt, Option.some.injEq] at h2
      subst h2
      have hll : n.toNat < l.length := by omega
      simp [hll] at hv
      subst hv
      rw [VR_nonagg rfl] at ha ⊢
      simp only [FR] at ha ⊢
      obtain ⟨⟨b0, o0, es, hx, hes, hlies⟩, _⟩ := ha
      cases hx
      obtain ⟨pre, cc, post, rfl, hpre, hy, _⟩ := FRs.focus l es n.toNat l[n.toNat] hes (by simp [hll])
      rw [hsh, sizes_replicate_take _ _ _ (by omega), hsz] at hpre
      exact ⟨⟨b, o + n.toNat * esz, cc, rfl, hy, by rw [← hpre]; exact lies_focus hlies⟩, by simp⟩
  · rename_i k n e sh by_ ze h1
    rw [VR_sc] at hi
    obtain ⟨rfl, _⟩ := hi
    split at hv <;> try (cases hv; done)
    rename_i te h3
    have hu := (C.htt _ _ h1).d.1
    obtain ⟨ie, zz, hie, hse, _⟩ := (C.htt _ _ h3).info
    have hsize : (sizeOf e).run C.P w = .ok te.sh.size w := by simp [sizeOf, typeInfo, hie, hse]
    split at hv <;> try (cases hv; done)
    · rename_i tl l
      split at hv <;> try (cases hv; done)
      rename_i hb
      split at hv <;> try (cases hv; done)
      rename_i u hu2
      split at hv <;> try (cases hv; done)
      rename_i hsu
      cases hv
      rw [VR_nonagg rfl] at ha
      simp only [FR] at ha
      obtain ⟨ha, _⟩ := ha
      rcases ha with ⟨rfl, _⟩ | ⟨b, off, cap, sz, es, hx, hcap, hes, hlies, hun, _⟩
      · simp at hu2
      cases hx
      have hmem : u ∈ l := List.mem_of_getElem? hu2
      have hszu := hun u hmem
      simp only [CV.size, hsu] at hszu
      obtain ⟨pre, cc, post, rfl, hpre, hy, _⟩ := FRs.focus l es n.toNat u hes hu2
      rw [sizes_take_uniform l n.toNat hun (by omega)] at hpre
      refine ⟨.pointer (some ⟨b, off + n.toNat * te.sh.size, none⟩), ?_, ?_⟩
      · simp [Instr.indexAt, asIntOf, run_underlying hu, hsize, hb.1, hb.2, Addr.add_mid]
      · rw [VR_nonagg rfl]
        simp only [FR]
        exact ⟨⟨b, off + n.toNat * te.sh.size, cc, rfl, hy, by rw [hszu, ← hpre]; exact lies_focus hlies⟩, by simp⟩
    · rename_i j p off len
      split at hv <;> try (cases hv; done)
      rename_i l h2
      split at hv <;> try (cases hv; done)
      rename_i hc
      obtain ⟨hsh, h0, hn⟩ := hc
      cases hv
      rw [VR_nonagg rfl] at ha
      simp only [FR] at ha
      obtain ⟨⟨rb, sh0, l0, o, cap, hx, ⟨tot, hμ, _⟩, hsub0, ho, hcap, hol⟩, _⟩ := ha
      cases hx
      simp only [CV.shape, Shape.n.injEq] at hsh
      simp only [tgt] at h2
      cases hi : h j with
      | none => simp [hi] at h2
      | some obj =>
        cases obj <;> simp [hi] at h2
        have hl0 := (r.live j _ _ hi hμ).1.1
        have hsub := CV.sub_at p _ _ h2
        rw [hl0, hsub0] at hsub
        simp only [CV.shape, hsh, Option.some.injEq, Shape.n.injEq] at hsub
        subst hsub
        simp only [List.length_replicate] at hol
        have hnn : n.toNat < len := by omega
        refine ⟨.pointer (some ⟨rb, o + Shape.sizes ((List.replicate l.length te.sh).take off) + n.toNat * te.sh.size, none⟩), ?_, ?_⟩
        · simp [Instr.indexAt, asIntOf, run_underlying hu, hsize, h0, hn, Addr.add_mid]
        · rw [VR_nonagg rfl]
          simp only [FR]
          refine ⟨⟨rb, sh0, _, rfl, ⟨tot, hμ⟩, ?_⟩, by simp⟩
          rw [Shape.off_append p sh0 _ _ hsub0, ho]
          simp only [Shape.off, Option.bind_some]
          rw [List.getElem?_replicate, if_pos (by omega), sizes_replicate_take _ _ _ (by omega), sizes_replicate_take _ _ _ (by omega)]
          simp [Nat.add_mul, Nat.add_assoc]

def qnum (op : BinOp) (k : IntKind) (a b : Int) : Option CV :=
  match op with
  | .add => some (.sc (.int k (k.wrap (a + b))))
  | .sub => some (.sc (.int k (k.wrap (a - b))))
  | .mul => some (.sc (.int k (k.wrap (a * b))))
  | .quo => if b = 0 then none else some (.sc (.int k (k.wrap (a.tdiv b))))
  | .rem => if b = 0 then none else some (.sc (.int k (a.tmod b)))
  | .and => some (.sc (.int k (k.wrap (BitVec.ofInt k.bits a &&& BitVec.ofInt k.bits b).toNat)))
  | .or => some (.sc (.int k (k.wrap (BitVec.ofInt k.bits a ||| BitVec.ofInt k.bits b).toNat)))
  | .xor => some (.sc (.int k (k.wrap (BitVec.ofInt k.bits a ^^^ BitVec.ofInt k.bits b).toNat)))
  | .andNot => some (.sc (.int k (k.wrap (BitVec.ofInt k.bits a &&& ~~~BitVec.ofInt k.bits b).toNat)))
  | .eql => some (.sc (.bool (decide (a = b))))
  | .neq => some (.sc (.bool (!decide (a = b))))
  | .lss => some (.sc (.bool (decide (a < b))))
  | .leq => some (.sc (.bool (decide (a ≤ b))))
  | .gtr => some (.sc (.bool (decide (b < a))))
  | .geq => some (.sc (.bool (decide (b ≤ a))))
  | _ => none

def qshift (op : BinOp) (k : IntKind) (a b : Int) : Option CV :=
  if b < 0 then none else
  match op with
  | .shl => some (.sc (.int k (k.wrap (a * 2 ^ min b.toNat k.bits))))
  | .shr => some (.sc (.int k (a.fdiv (2 ^ min b.toNat k.bits))))
  | _ => none

theorem qnum_sound {S : St} {op : BinOp} {k : IntKind} {a b : Int} {v : CV} (t : TypeId) (w : World) (hop : op ≠ .shl ∧ op ≠ .shr) (h : qnum op k a b = some v) :
    ∃ y, (binOp op t (.int k a) (.int k b)).run C.P w = .ok y w ∧ VR S v y := by
  cases op <;> simp only [qnum] at h <;> (try (cases h; done)) <;> (try (exact absurd rfl hop.1)) <;> (try (exact absurd rfl hop.2)) <;>
    simp only [binOp, ne_eq, not_true, if_false]
  case quo => split at h; cases h; rename_i h0; cases h; exact ⟨_, by simp only [Op.intDiv, if_neg h0]; rfl, VR_sc.2 ⟨rfl, rfl⟩⟩
  case rem => split at h; cases h; rename_i h0; cases h; exact ⟨_, by simp only [Op.intDiv, if_neg h0]; rfl, VR_sc.2 ⟨rfl, rfl⟩⟩
  case eql => cases h; exact ⟨_, rfl, VR_sc.2 ⟨rfl, rfl⟩⟩
  case neq => cases h; exact ⟨_, rfl, VR_sc.2 ⟨rfl, rfl⟩⟩
  all_goals (cases h; exact ⟨_, rfl, VR_sc.2 ⟨rfl, rfl⟩⟩)

theorem qshift_sound {S : St} {op : BinOp} {k k' : IntKind} {a b : Int} {v : CV} (t : TypeId) (w : World) (hop : op = .shl ∨ op = .shr) (h : qshift op k a b = some v) :
    ∃ y, (binOp op t (.int k a) (.int k' b)).run C.P w = .ok y w ∧ VR S v y := by
  unfold qshift at h
  split at h
  · cases h
  rename_i hb
  rcases hop with rfl | rfl <;> simp at h <;> subst h <;> exact ⟨_, by simp [binOp, Op.shift, hb], VR_sc.2 ⟨rfl, rfl⟩⟩

end ops
end Go.Cl
