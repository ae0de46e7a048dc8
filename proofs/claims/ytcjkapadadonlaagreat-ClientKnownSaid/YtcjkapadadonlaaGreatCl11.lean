/-
  Every operation in the clean layer: what each asks, and that the model does so.
-/
import Derived.Test.YtcjkapadadonlaaGreatCl10
set_option linter.unusedSimpArgs false
set_option linter.unusedVariables false
namespace Go.Cl
open Go.RowKit

section ops
variable (C : Ctx)

theorem VRs_map {S : St} {ρ : Operand → CV} {ρ' : Operand → Value} : ∀ (l : List Operand), (∀ x ∈ l, VR S (ρ x) (ρ' x)) → VRs S (l.map ρ) (l.map ρ')
  | [], _ => by simp [VRs]
  | x :: l, h => VRs_cons.2 ⟨h x (by simp), VRs_map l (fun y hy => h y (by simp [hy]))⟩

theorem OVR_map {S : St} {ρ : Operand → CV} {ρ' : Operand → Value} {x : Option Operand} (h : ∀ y, x = some y → VR S (ρ y) (ρ' y)) : OVR S (x.map ρ) (x.map ρ') := by
  cases x with
  | none => trivial
  | some y => exact h y rfl

theorem parts_of {S : St} {ρ : Operand → CV} {ρ' : Operand → Value} (ps : Array (Nat × Operand)) (h : ∀ p ∈ ps.toList, VR S (ρ p.2) (ρ' p.2)) :
    (ps.toList.map fun p => (p.1, ρ p.2)).length = (ps.toList.map fun p => (p.1, ρ' p.2)).length ∧
    ∀ (k : Nat) (p : Nat × CV) (q : Nat × Value), (ps.toList.map fun p => (p.1, ρ p.2))[k]? = some p → (ps.toList.map fun p => (p.1, ρ' p.2))[k]? = some q → p.1 = q.1 ∧ VR S p.2 q.2 := by
  refine ⟨by simp, fun k p q hp hq => ?_⟩
  rw [List.getElem?_map] at hp hq
  cases hk : ps.toList[k]? with
  | none => simp [hk] at hp
  | some z =>
    simp [hk] at hp hq
    subst hp; subst hq
    exact ⟨rfl, h z (List.mem_of_getElem? hk)⟩

theorem qop_sound {w0 : World} {B : Nat} {S : St} {h : Heap} {w : World} (r : R w0 B S h w) {ρ : Operand → CV} {ρ' : Operand → Value} {o : Oper} {v : CV} (hρ : ∀ x ∈ o.op.operands.toList, VR S (ρ x) (ρ' x)) (hv : qop C ρ h o.op = some v) :
    QNext C w0 B S h w v (execOp ρ' o) := by
  obtain ⟨dst, op, ty, pos, aft, gd⟩ := o
  simp only at hρ hv
  unfold qop at hv
  split at hv <;> try (cases hv; done)
  · rename_i x
    cases hv
    exact ⟨_, w, S, rfl, St.le.refl _, rfl, rfl, r, hρ x (by simp [Op.operands])⟩
  · rename_i x
    cases hv
    exact ⟨_, w, S, rfl, St.le.refl _, rfl, rfl, r, hρ x (by simp [Op.operands])⟩
  · rename_i c a b
    have hc := hρ c (by simp [Op.operands])
    have ha := hρ a (by simp [Op.operands])
    have hb := hρ b (by simp [Op.operands])
    split at hv <;> try (cases hv; done)
    · rename_i e; rw [e] at hc; obtain ⟨hc, _⟩ := VR_sc.1 hc; cases hv
      exact ⟨_, w, S, by simp [execOp, hc, asBool], St.le.refl _, rfl, rfl, r, ha⟩
    · rename_i e; rw [e] at hc; obtain ⟨hc, _⟩ := VR_sc.1 hc; cases hv
      exact ⟨_, w, S, by simp [execOp, hc, asBool], St.le.refl _, rfl, rfl, r, hb⟩
  · rename_i t ps
    obtain ⟨h1, h2⟩ := parts_of (S := S) (ρ := ρ) (ρ' := ρ') ps (fun p hp => hρ p.2 (by simp [Op.operands]; exact ⟨p.1, by simpa using hp⟩))
    have := QNext.still C r (qbuild_sound C (w := w) h1 h2 hv)
    simpa [execOp, ← Array.toList_map] using this
  · rename_i t n ps
    obtain ⟨h1, h2⟩ := parts_of (S := S) (ρ := ρ) (ρ' := ρ') ps (fun p hp => hρ p.2 (by simp [Op.operands]; exact ⟨p.1, by simpa using hp⟩))
    have := QNext.of C (qbuildSlice_sound C r h1 h2 hv)
    simpa [execOp, ← Array.toList_map] using this
  · rename_i t a
    exact QNext.still C r (qload_sound C r (hρ a (by simp [Op.operands])) hv)
  · rename_i x
    have hx := hρ x (by simp [Op.operands])
    split at hv <;> try (cases hv; done)
    · rename_i i p e; rw [e] at hx; cases hv
      have hx' := hx
      rw [VR_nonagg rfl] at hx'; simp only [FR] at hx'; obtain ⟨⟨rb, sh, o, hx', _⟩, _⟩ := hx'
      have hxe := (List.cons.inj hx').1
      exact ⟨ρ' x, w, S, by simp [execOp, hxe], St.le.refl _, rfl, rfl, r, hx⟩
    · rename_i u e; rw [e] at hx; cases hv
      have hx' := hx
      rw [VR_nonagg rfl] at hx'; simp only [FR] at hx'; obtain ⟨⟨rb, o, es, hx', _⟩, _⟩ := hx'
      have hxe := (List.cons.inj hx').1
      exact ⟨ρ' x, w, S, by simp [execOp, hxe], St.le.refl _, rfl, rfl, r, hx⟩
  · rename_i op t x y yt
    exact QNext.still C r (qbin_sound C (hρ x (by simp [Op.operands])) (hρ y (by simp [Op.operands])) hv)
  · rename_i op t x
    exact QNext.still C r (qun_sound C (hρ x (by simp [Op.operands])) hv)
  · rename_i s d x
    exact QNext.still C r (qconv_sound C (hρ x (by simp [Op.operands])) hv)
  · rename_i s x f
    exact QNext.still C r (qfieldAddr_sound C r (hρ x (by simp [Op.operands])) hv)
  · rename_i t x i
    exact QNext.still C r (qindexAddr_sound C r (hρ x (by simp [Op.operands])) (hρ i (by simp [Op.operands])) hv)
  · rename_i t x i
    exact QNext.still C r (qindex_sound C (hρ x (by simp [Op.operands])) (hρ i (by simp [Op.operands])) hv)
  · rename_i t x lo hi mx
    exact QNext.still C r (qslice_sound C r (hρ x (by simp [Op.operands])) (OVR_map fun y hy => hρ y (by simp [Op.operands, hy])) (OVR_map fun y hy => hρ y (by simp [Op.operands, hy])) (OVR_map fun y hy => hρ y (by simp [Op.operands, hy])) hv)
  · rename_i t l c
    exact QNext.of C (qmake_sound C r (hρ l (by simp [Op.operands])) (hρ c (by simp [Op.operands])) hv)
  · rename_i t x
    split at hv <;> try (cases hv; done)
    rename_i hc
    cases hv
    have hx := hρ x (by simp [Op.operands])
    obtain ⟨u, hu, hne⟩ := concrete_spec C hc
    refine QNext.still C r ⟨.iface t (ρ' x), by cases u <;> simp_all [Instr.makeInterface, run_underlying hu], ?_⟩
    rw [VR_nonagg rfl]; simp only [FR]; exact ⟨⟨_, rfl, hx⟩, by simp⟩
  · rename_i f first cap
    cases hv
    refine QNext.still C r ⟨.func (.func f) (first.map ρ') (cap.map ρ'), rfl, ?_⟩
    rw [VR_nonagg rfl]; simp only [FR]
    exact ⟨⟨first.toList.map ρ', cap.toList.map ρ', by simp [← Array.toList_map], VRs_map _ fun x hx => hρ x (by simp [Op.operands]; exact .inl (by simpa using hx)), VRs_map _ fun x hx => hρ x (by simp [Op.operands]; exact .inr (by simpa using hx))⟩, by simp⟩
  · rename_i x xt asserted ok
    exact QNext.still C r (qassert_sound C (hρ x (by simp [Op.operands])) hv)
  · rename_i x i
    have hx := hρ x (by simp [Op.operands])
    split at hv <;> try (cases hv; done)
    rename_i l e; rw [e] at hx
    rw [VR_nonagg rfl] at hx; simp only [FR] at hx; obtain ⟨⟨vs, hx, hvs⟩, _⟩ := hx
    have hxe := (List.cons.inj hx).1
    obtain ⟨hlen, hget⟩ := VRs_get l vs hvs
    have hi : i < vs.length := by rw [← hlen]; exact (List.getElem?_eq_some_iff.1 hv).1
    refine QNext.still C r ⟨vs[i], by simp [Instr.extract, hxe, hi], hget i v vs[i] hv (by simp [hi])⟩
  · rename_i b args ts
    unfold qbuiltin at hv
    obtain ⟨cs, hexec⟩ : ∃ cs, execOp ρ' ⟨dst, .call ⟨.builtin b, args, ts⟩, ty, pos, aft, gd⟩ = builtin b ts ty cs (args.map ρ') := ⟨_, rfl⟩
    rw [hexec]
    have hargs : args.map ρ' = (args.toList.map ρ').toArray := by simp [← Array.toList_map]
    split at hv <;> try (cases hv; done)
    · rename_i x t ha ht
      have hx := hρ x (by simp [Op.operands, Call.operands]; rw [← Array.mem_toList_iff, ha]; simp)
      have hts : ts[0]? = some t := by rw [← Array.getElem?_toList, ht]; rfl
      have := QNext.still C r (qlen_sound C r (ty := ty) hts hx hv)
      simp only [builtin]
      rw [hargs, ha]; exact this
    · rename_i l
      have hl := VRs_map (S := S) (ρ := ρ) (ρ' := ρ') args.toList (fun x hx => hρ x (by simp [Op.operands, Call.operands]; simpa using hx))
      have := QNext.still C r (qminmax_sound C (w := w) (mx := false) ts ty hl hv)
      simp only [builtin]
      rw [hargs]; simpa using this
    · rename_i l
      have hl := VRs_map (S := S) (ρ := ρ) (ρ' := ρ') args.toList (fun x hx => hρ x (by simp [Op.operands, Call.operands]; simpa using hx))
      have := QNext.still C r (qminmax_sound C (w := w) (mx := true) ts ty hl hv)
      simp only [builtin]
      rw [hargs]; simpa using this
    · rename_i x1 x2 t tx ha ht
      have h1 := hρ x1 (by simp [Op.operands, Call.operands]; rw [← Array.mem_toList_iff, ha]; simp)
      have h2 := hρ x2 (by simp [Op.operands, Call.operands]; rw [← Array.mem_toList_iff, ha]; simp)
      have := QNext.of C (qappend_sound C r (ty := ty) h1 h2 hv)
      simp only [builtin]
      have hts : ts = #[t, tx] := by apply Array.ext'; rw [ht]
      rw [hargs, ha, hts]; exact this
end ops
end Go.Cl
