/-
  Every operation in the clean layer.
-/
import Derived.Test.YtcjkapadadonlaaGreatCl13
set_option linter.unusedSimpArgs false
set_option linter.unusedVariables false
namespace Go.Cl
open Go.RowKit

/-- How a call ends. -/
inductive Out where
  | ret (v : CV)
  | pan (v : CV)

def OutR (S : St) : Out → Ending → Prop
  | .ret v, .returned x => VR S v x
  | .pan v, .panicked chain => ∃ x, chain = [⟨x, false, false⟩] ∧ VR S v x
  | _, _ => False

abbrev Spec := List CV → Heap → (Out → Heap → Prop) → Prop

/-- A function keeps its contract. -/
def Ok (C : Ctx) (f : FuncId) (spec : Spec) : Prop :=
  (∃ fn, C.P.funcs[f]? = some fn ∧ fn.body.isNone = false ∧ (fn.name == "runtime.NumGoroutine") = false) ∧ ∀ (w0 : World) (B : Nat) (S : St) (h : Heap) (w : World) (args : List CV) (vals : List Value) (Q : Out → Heap → Prop), R w0 B S h w → VRs S args vals → spec args h Q →
    Calls C.P f vals.toArray w fun e w' => ∃ S' out h', S.ext S' ∧ R w0 B S' h' w' ∧ OutR S' out e ∧ Q out h'

section ops
variable (C : Ctx)

def concrete (t : TypeId) : Bool :=
  match C.tt t with
  | some ⟨.base (.interface _), _, _, _⟩ => false
  | some _ => true
  | none => false

def qindex (t : TypeId) (x i : CV) : Option CV :=
  match C.tt t, x, i with
  | some ⟨.base .string, _, _, _⟩, .sc (.string s), .sc (.int _ n) => if 0 ≤ n then (s[n.toNat]?).map fun b => .sc (.int .u8 b.toNat) else none
  | some ⟨.ar cnt _ e, sh, _, _⟩, .agg l, .sc (.int _ n) =>
    match C.tt e with
    | some te => if CV.shape (.agg l) = sh ∧ 0 ≤ n ∧ n < cnt then
        match l[n.toNat]? with
        | some v => if v.shape = te.sh then some v else none
        | none => none
      else none
    | none => none
  | _, _, _ => none

def qassert (x : CV) (asserted : TypeId) (ok : Bool) : Option CV :=
  match C.tt asserted, x, ok with
  | some ti, .ifc t v, true => if concrete C asserted = true then (if t = asserted then some (.tup [v, .sc (.bool true)]) else some (.tup [ti.zero, .sc (.bool false)])) else none
  | some _, .ifc t v, false => if concrete C asserted = true ∧ t = asserted then some v else none
  | some ti, .sc .nilIface, true => if concrete C asserted = true then some (.tup [ti.zero, .sc (.bool false)]) else none
  | _, _, _ => none

def qbuiltin (ρ : Operand → CV) (h : Heap) (b : Builtin) (args : List Operand) (ts : List TypeId) : Option CV :=
  match b, args, ts with
  | .len, [x], [t] => qlen C h t (ρ x)
  | .min, l, _ => qminmax false (l.map ρ)
  | .max, l, _ => qminmax true (l.map ρ)
  | .append, [b, x], [t, tx] => qappend C h t tx (ρ b) (ρ x)
  | _, _, _ => none

def qop (ρ : Operand → CV) (h : Heap) : Op → Option CV
  | .move x | .assign x => some (ρ x)
  | .pick c a b => match ρ c with
    | .sc (.bool true) => some (ρ a)
    | .sc (.bool false) => some (ρ b)
    | _ => none
  | .build t ps => qbuild C t (ps.toList.map fun p => (p.1, ρ p.2))
  | .buildSlice t n ps => qbuildSlice C t n (ps.toList.map fun p => (p.1, ρ p.2))
  | .load t a => qload C h t (ρ a)
  | .nilCheck x => match ρ x with
    | .ptr i p => some (.ptr i p)
    | .rptr v => some (.rptr v)
    | _ => none
  | .binOp op t x y _ => qbin C op t (isConstOpd y) (ρ x) (ρ y)
  | .unOp op _ x => qun op (ρ x)
  | .convert s d x => qconv C s d (ρ x)
  | .fieldAddr s x f => qfieldAddr C h s (ρ x) f
  | .indexAddr t x i => qindexAddr C h t (ρ x) (ρ i)
  | .index t x i => qindex C t (ρ x) (ρ i)
  | .slice t x lo hi mx => qslice C h t (ρ x) (lo.map ρ) (hi.map ρ) (mx.map ρ)
  | .makeSlice t l c => qmake C t (ρ l) (ρ c)
  | .makeInterface t x => if concrete C t = true then some (.ifc t (ρ x)) else none
  | .makeFunc (.func f) first cap => some (.fn f (first.toList.map ρ) (cap.toList.map ρ))
  | .typeAssert x _ asserted ok => qassert C (ρ x) asserted ok
  | .extract x i => match ρ x with
    | .tup l => l[i]?
    | _ => none
  | .call ⟨.builtin b, args, ts⟩ => qbuiltin C ρ h b args.toList ts.toList
  | _ => none

def QNext (w0 : World) (B : Nat) (S : St) (h : Heap) (w : World) (v : CV) (s : Sem Next) : Prop :=
  ∃ y w' S', s.run C.P w = .ok (.value y) w' ∧ S.le S' ∧ S'.μ = S.μ ∧ S'.n = S.n ∧ R w0 B S' h w' ∧ VR S' v y

theorem QNext.of {w0 : World} {B : Nat} {S : St} {h : Heap} {w : World} {v : CV} {s : Sem Value} (k : QSound C w0 B S h w v s) : QNext C w0 B S h w v (do pure (.value (← s))) := by
  obtain ⟨y, w', S', h1, h2⟩ := k
  exact ⟨y, w', S', by simp [h1], h2⟩

theorem QNext.still {w0 : World} {B : Nat} {S : St} {h : Heap} {w : World} (r : R w0 B S h w) {v : CV} {s : Sem Value} (k : ∃ y, s.run C.P w = .ok y w ∧ VR S v y) : QNext C w0 B S h w v (do pure (.value (← s))) :=
  QNext.of C (QSound.still C r k)

theorem qindex_sound {S : St} {w : World} {t : TypeId} {x i v : CV} {a b : Value} (hx : VR S x a) (hi : VR S i b) (hv : qindex C t x i = some v) : ∃ y, (Instr.index t a b).run C.P w = .ok y w ∧ VR S v y := by
  unfold qindex at hv
  split at hv <;> try (cases hv; done)
  · rename_i sh by_ ze s k n h1
    obtain ⟨rfl, _⟩ := VR_sc.1 hx
    obtain ⟨rfl, _⟩ := VR_sc.1 hi
    have hu := (C.htt _ _ h1).d.1
    split at hv <;> try (cases hv; done)
    rename_i h0
    cases hs : s[n.toNat]? with
    | none => simp [hs] at hv
    | some u =>
      simp [hs] at hv; subst hv
      exact ⟨_, by simp [Instr.index, asIntOf, run_underlying hu, h0, hs], VR_sc.2 ⟨rfl, rfl⟩⟩
  · rename_i cnt esz e sh by_ ze l k n h1
    obtain ⟨rfl, _⟩ := VR_sc.1 hi
    split at hv <;> try (cases hv; done)
    rename_i te h2
    split at hv <;> try (cases hv; done)
    rename_i hc
    obtain ⟨hsh, h0, hn⟩ := hc
    split at hv <;> try (cases hv; done)
    rename_i u hu2
    split at hv <;> try (cases hv; done)
    rename_i hus
    cases hv
    obtain ⟨she, hu, hesz, hshn, hsz, hz, _⟩ := (C.htt _ _ h1).d
    simp only at hshn
    rw [hshn] at hsh
    simp only [CV.shape, Shape.n.injEq] at hsh
    obtain ⟨c, rfl, hc⟩ := VR_agg.1 hx
    have hsize : (sizeOf e).run C.P w = .ok esz w := by
      cases hq : C.P.info? e with
      | none => simp [hq] at hesz
      | some i => simp [hq] at hesz; simp [sizeOf, typeInfo, hq, hesz]
    obtain ⟨y, hy, hvr⟩ := part_VR C (w := w) (C.htt _ _ h2) hc hu2 hus (off := n.toNat * esz) (by rw [hsh, sizes_replicate_take _ _ _ (by omega), hsz])
    exact ⟨y, by simp [Instr.index, asIntOf, run_underlying hu, h0, hn, hsize, hy], hvr⟩

theorem concrete_spec {t : TypeId} (h : concrete C t = true) : ∃ u, C.P.underlying t = some u ∧ ∀ ms, u ≠ .interface ms := by
  unfold concrete at h
  split at h
  · cases h
  · rename_i ti hne hti
    have hd := (C.htt _ _ hti).d
    obtain ⟨d, sh, by_, ze⟩ := ti
    cases d with
    | base u => exact ⟨u, hd.1, fun ms e => by subst e; exact hne _ _ _ _ rfl⟩
    | st fs => obtain ⟨f, shs, h1, _⟩ := hd; exact ⟨_, h1, by simp⟩
    | ar n esz e => obtain ⟨she, h1, _⟩ := hd; exact ⟨_, h1, by simp⟩
  · cases h

theorem VR_tup2 {S : St} {u v : CV} {x y : Value} (h1 : VR S u x) (h2 : VR S v y) : VR S (.tup [u, v]) (.tuple #[x, y]) := by
  rw [VR_nonagg rfl]
  simp only [FR]
  exact ⟨⟨[x, y], by simp, VRs_cons.2 ⟨h1, VRs_cons.2 ⟨h2, by simp [VRs]⟩⟩⟩, by simp⟩

theorem VR_zero {S : St} {t : TypeId} {ti : TI} (h : C.tt t = some ti) {w : World} : ∃ z, (zeroValue t).run C.P w = .ok z w ∧ VR S ti.zero z := by
  have hok := C.htt _ _ h
  obtain ⟨i, z, hi, hsz, _, hz, hfz⟩ := hok.info
  have hz2 := hok.zagg
  simp [hi, hz] at hz2
  refine ⟨z, run_zeroValue hi hz w, FR_flatC _ _ hfz, ?_⟩
  rw [← hz2]
  cases z <;> simp [aggB]

theorem qassert_sound {S : St} {w : World} {x v : CV} {a : Value} {t asserted : TypeId} {ok : Bool} (hx : VR S x a) (hv : qassert C x asserted ok = some v) : ∃ y, (Instr.typeAssert a t asserted ok).run C.P w = .ok y w ∧ VR S v y := by
  unfold qassert at hv
  split at hv <;> try (cases hv; done)
  · rename_i ti tt u h1
    split at hv <;> try (cases hv; done)
    rename_i hc
    obtain ⟨d, hu, hne⟩ := concrete_spec C hc
    rw [VR_nonagg rfl] at hx; simp only [FR] at hx
    obtain ⟨⟨z, hx, hz1, hz2⟩, _⟩ := hx; cases hx
    split at hv
    · rename_i e; cases hv
      exact ⟨.tuple #[z, .bool true], by cases d <;> simp_all [Instr.typeAssert, run_underlying hu], VR_tup2 ⟨hz1, hz2⟩ (VR_sc.2 ⟨rfl, rfl⟩)⟩
    · rename_i e; cases hv
      obtain ⟨zz, hzz, hvz⟩ := VR_zero C (S := S) h1 (w := w)
      exact ⟨.tuple #[zz, .bool false], by cases d <;> simp_all [Instr.typeAssert, run_underlying hu], VR_tup2 hvz (VR_sc.2 ⟨rfl, rfl⟩)⟩
  · rename_i ti tt u h1
    split at hv <;> try (cases hv; done)
    rename_i hc
    obtain ⟨hc, rfl⟩ := hc
    cases hv
    obtain ⟨d, hu, hne⟩ := concrete_spec C hc
    rw [VR_nonagg rfl] at hx; simp only [FR] at hx
    obtain ⟨⟨z, hx, hz1, hz2⟩, _⟩ := hx; cases hx
    exact ⟨z, by cases d <;> simp_all [Instr.typeAssert, run_underlying hu], ⟨hz1, hz2⟩⟩
  · rename_i ti h1
    split at hv <;> try (cases hv; done)
    rename_i hc
    cases hv
    obtain ⟨d, hu, hne⟩ := concrete_spec C hc
    obtain ⟨rfl, _⟩ := VR_sc.1 hx
    obtain ⟨zz, hzz, hvz⟩ := VR_zero C (S := S) h1 (w := w)
    exact ⟨.tuple #[zz, .bool false], by cases d <;> simp_all [Instr.typeAssert, run_underlying hu], VR_tup2 hvz (VR_sc.2 ⟨rfl, rfl⟩)⟩
end ops
end Go.Cl
