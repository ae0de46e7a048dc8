/-
  The quiet operations in one function; each is sound.
-/
import Derived.Test.YtcjkapadadonlaaGreatCl8
set_option linter.unusedSimpArgs false
set_option linter.unusedVariables false
namespace Go.Cl
open Go.RowKit

section ops
variable (C : Ctx)

def qun (op : UnOp) : CV → Option CV
  | .sc (.bool b) => match op with
    | .not => some (.sc (.bool (!b)))
    | _ => none
  | .sc (.int k n) => match op with
    | .neg => some (.sc (.int k (k.wrap (0 - n))))
    | _ => none
  | .sc (.float k b) => match op with
    | .neg => some (.sc (.float k (Op.negFloat k b)))
    | _ => none
  | _ => none

theorem qun_sound {S : St} {w : World} {op : UnOp} {x v : CV} {y : Value} (hx : VR S x y) (hv : qun op x = some v) : ∃ z, (Op.unary op y).run C.P w = .ok z w ∧ VR S v z := by
  unfold qun at hv
  split at hv <;> try (cases hv; done)
  all_goals
    split at hv <;> try (cases hv; done)
    cases hv
    obtain ⟨rfl, _⟩ := VR_sc.1 hx
    exact ⟨_, rfl, VR_sc.2 ⟨rfl, rfl⟩⟩

def qconv (s d : TypeId) (x : CV) : Option CV :=
  match C.tt s, C.tt d, x with
  | some ⟨.base us, _, _, _⟩, some ⟨.base (.int k), _, _, _⟩, .sc (.int _ n) => match us with
    | .int _ => some (.sc (.int k (k.wrap n)))
    | _ => none
  | some ⟨.base us, _, _, _⟩, some ⟨.base (.float k), _, _, _⟩, .sc (.int _ n) => match us with
    | .int _ => some (.sc (.float k (k.nearest n)))
    | _ => none
  | some ⟨.base us, _, _, _⟩, some ⟨.base .string, _, _, _⟩, .sc (.string b) => match us with
    | .string => some (.sc (.string b))
    | _ => none
  | _, _, _ => none

theorem qconv_sound {S : St} {w : World} {s d : TypeId} {x v : CV} {y : Value} (hx : VR S x y) (hv : qconv C s d x = some v) : ∃ z, (convert s d y).run C.P w = .ok z w ∧ VR S v z := by
  unfold qconv at hv
  split at hv <;> try (cases hv; done)
  all_goals
    rename_i h1 h2
    split at hv <;> try (cases hv; done)
    cases hv
    obtain ⟨rfl, _⟩ := VR_sc.1 hx
    have hu1 := (C.htt _ _ h1).d.1
    have hu2 := (C.htt _ _ h2).d.1
    exact ⟨_, by simp only [convert, Sem.run_bind, run_underlying hu1, run_underlying hu2, Result.andThen_ok]; rfl, VR_sc.2 ⟨rfl, rfl⟩⟩

def qfloat (op : BinOp) (k : FloatKind) (a b : Nat) : Option CV :=
  match op with
  | .add => (k.format.add a b).map fun r => .sc (.float k r)
  | .sub => (k.format.sub a b).map fun r => .sc (.float k r)
  | .mul => (k.format.mul a b).map fun r => .sc (.float k r)
  | .quo => (k.format.div a b).map fun r => .sc (.float k r)
  | .eql => some (.sc (.bool (k.format.order a b == some .eq)))
  | .neq => some (.sc (.bool (k.format.order a b != some .eq)))
  | .lss => some (.sc (.bool (k.format.order a b == some .lt)))
  | .leq => some (.sc (.bool (k.format.order a b == some .lt || k.format.order a b == some .eq)))
  | .gtr => some (.sc (.bool (k.format.order a b == some .gt)))
  | .geq => some (.sc (.bool (k.format.order a b == some .gt || k.format.order a b == some .eq)))
  | _ => none

theorem qfloat_sound {S : St} {op : BinOp} {k : FloatKind} {a b : Nat} {v : CV} (t : TypeId) (w : World) (h : qfloat op k a b = some v) :
    ∃ y, (binOp op t (.float k a) (.float k b)).run C.P w = .ok y w ∧ VR S v y := by
  cases op <;> simp only [qfloat] at h <;> (try (cases h; done)) <;> simp only [binOp, ne_eq, not_true, if_false]
  case add => cases hr : k.format.add a b with
    | none => simp [hr] at h
    | some r => simp [hr] at h; subst h; exact ⟨_, by simp only [Op.floatArith, Sem.run_bind, Sem.run_pure, Result.andThen_ok, hr], VR_sc.2 ⟨rfl, rfl⟩⟩
  case sub => cases hr : k.format.sub a b with
    | none => simp [hr] at h
    | some r => simp [hr] at h; subst h; exact ⟨_, by simp only [Op.floatArith, Sem.run_bind, Sem.run_pure, Result.andThen_ok, hr], VR_sc.2 ⟨rfl, rfl⟩⟩
  case mul => cases hr : k.format.mul a b with
    | none => simp [hr] at h
    | some r => simp [hr] at h; subst h; exact ⟨_, by simp only [Op.floatArith, Sem.run_bind, Sem.run_pure, Result.andThen_ok, hr], VR_sc.2 ⟨rfl, rfl⟩⟩
  case quo => cases hr : k.format.div a b with
    | none => simp [hr] at h
    | some r => simp [hr] at h; subst h; exact ⟨_, by simp only [Op.floatArith, Sem.run_bind, Sem.run_pure, Result.andThen_ok, hr], VR_sc.2 ⟨rfl, rfl⟩⟩
  all_goals (cases h; exact ⟨_, rfl, VR_sc.2 ⟨rfl, rfl⟩⟩)

def eqRes (op : BinOp) (r : Bool) : Option CV :=
  match op with
  | .eql => some (.sc (.bool r))
  | .neq => some (.sc (.bool (!r)))
  | _ => none

def qbin (op : BinOp) (t : TypeId) (cy : Bool) (x y : CV) : Option CV :=
  match x, y with
  | .sc (.int k a), .sc (.int k' b) =>
    match op with
    | .shl | .shr => qshift op k a b
    | _ => if k = k' then qnum op k a b else none
  | .sc (.float k a), .sc (.float k' b) => if k = k' then qfloat op k a b else none
  | .sc (.bool a), .sc (.bool b) =>
    match C.tt t, op with
    | some ⟨.base .bool, _, _, _⟩, .eql => some (.sc (.bool (decide (a = b))))
    | some ⟨.base .bool, _, _, _⟩, .neq => some (.sc (.bool (!decide (a = b))))
    | _, _ => none
  | .sc (.string a), .sc (.string b) =>
    match op with
    | .eql => some (.sc (.bool (a.toList == b.toList)))
    | .neq => some (.sc (.bool (!(a.toList == b.toList))))
    | .add => if a.size + b.size ≤ 9223372036854775807 then some (.sc (.string (a ++ b))) else none
    | _ => none
  | .agg _, .agg _ =>
    match op with
    | .eql => (eqCV C 12 t x y).map fun r => .sc (.bool r)
    | .neq => (eqCV C 12 t x y).map fun r => .sc (.bool (!r))
    | _ => none
  | .sc .nilIface, .sc .nilIface =>
    match C.tt t, cy with
    | some ⟨.base (.interface _), _, _, _⟩, true => eqRes op true
    | _, _ => none
  | .ifc _ _, .sc .nilIface =>
    match C.tt t with
    | some ⟨.base (.interface _), _, _, _⟩ => eqRes op false
    | _ => none
  | .sc .nilFunc, .sc .nilFunc =>
    match C.tt t with
    | some ⟨.base (.func _ _ _), _, _, _⟩ => eqRes op true
    | _ => none
  | .fn _ _ _, .sc .nilFunc =>
    match C.tt t with
    | some ⟨.base (.func _ _ _), _, _, _⟩ => eqRes op false
    | _ => none
  | .sc (.pointer none), .sc (.pointer none) =>
    match C.tt t with
    | some ⟨.base (.pointer _), _, _, _⟩ => eqRes op true
    | _ => none
  | .ptr _ _, .sc (.pointer none) =>
    match C.tt t with
    | some ⟨.base (.pointer _), _, _, _⟩ => eqRes op false
    | _ => none
  | .rptr _, .sc (.pointer none) =>
    match C.tt t with
    | some ⟨.base (.pointer _), _, _, _⟩ => eqRes op false
    | _ => none
  | _, _ => none

theorem eqGuard_other {P : Program} {w : World} {op : BinOp} {t : TypeId} {x y : Operand} {a b : Value} (h1 : a ≠ .nilIface ∨ b ≠ .nilIface) (h2 : (∀ c, a ≠ .agg c) ∨ (∀ c, b ≠ .agg c)) : (eqGuard op t x y a b).run P w = .ok () w := by
  unfold eqGuard
  cases op <;> cases a <;> cases b <;> simp_all

def nilPair (u : TypeDesc) (a b : Value) (r : Bool) : Prop :=
  match u, a, b with
  | .interface _, .nilIface, .nilIface => r = true
  | .interface _, .iface _ _, .nilIface => r = false
  | .func _ _ _, .nilFunc, .nilFunc => r = true
  | .func _ _ _, .func _ _ _, .nilFunc => r = false
  | .pointer _, .pointer none, .pointer none => r = true
  | .pointer _, .pointer (some _), .pointer none => r = false
  | _, _, _ => False
theorem nilEqIn {t : TypeId} {u : TypeDesc} {a b : Value} {r : Bool} (hu : C.P.underlying t = some u) (h : nilPair u a b r) (d : Nat) (w : World) : (Op.equalIn (d + 1) t a b).run C.P w = .ok r w := by
  unfold nilPair at h
  split at h <;> try (exact h.elim)
  all_goals (subst h; simp [Op.equalIn, run_underlying hu])
theorem nilEq {t : TypeId} {u : TypeDesc} {a b : Value} {r : Bool} (hu : C.P.underlying t = some u) (h : nilPair u a b r) (w : World) : (Op.equal t a b).run C.P w = .ok r w := nilEqIn C hu h 9999 w
theorem eqRes_sound {S : St} {w : World} {op : BinOp} {t : TypeId} {ox oy : Operand} {v : CV} {a b : Value} {r : Bool} (hv : eqRes op r = some v) (hg : (eqGuard op t ox oy a b).run C.P w = .ok () w) (he : (Op.equal t a b).run C.P w = .ok r w)
    (h1 : binOp .eql t a b = (do pure (.bool (← Op.equal t a b)))) (h2 : binOp .neq t a b = (do pure (.bool (!(← Op.equal t a b))))) :
    ∃ z, (do eqGuard op t ox oy a b; binOp op t a b : Sem Value).run C.P w = .ok z w ∧ VR S v z := by
  cases op <;> simp only [eqRes] at hv <;> (try (cases hv; done)) <;> cases hv
  · exact ⟨.bool r, by simp only [Sem.run_bind, hg, Result.andThen_ok, h1, he, Sem.run_pure], VR_sc.2 ⟨rfl, rfl⟩⟩
  · exact ⟨.bool (!r), by simp only [Sem.run_bind, hg, Result.andThen_ok, h2, he, Sem.run_pure], VR_sc.2 ⟨rfl, rfl⟩⟩

def isConstOpd : Operand → Bool
  | .const _ => true
  | _ => false

theorem qbin_sound {S : St} {w : World} {op : BinOp} {t : TypeId} {ox oy : Operand} {x y v : CV} {a b : Value} (hx : VR S x a) (hy : VR S y b) (hv : qbin C op t (isConstOpd oy) x y = some v) :
    ∃ z, (do eqGuard op t ox oy a b; binOp op t a b : Sem Value).run C.P w = .ok z w ∧ VR S v z := by
  unfold qbin at hv
  split at hv <;> try (cases hv; done)
  · rename_i k p k' q
    obtain ⟨rfl, _⟩ := VR_sc.1 hx
    obtain ⟨rfl, _⟩ := VR_sc.1 hy
    have hg : (eqGuard op t ox oy (.int k p) (.int k' q)).run C.P w = .ok () w := eqGuard_other (by simp) (by simp)
    simp only [Sem.run_bind, hg, Result.andThen_ok]
    split at hv
    · exact qshift_sound C t w (.inl rfl) hv
    · exact qshift_sound C t w (.inr rfl) hv
    · rename_i h1 h2
      split at hv <;> try (cases hv; done)
      rename_i hk; subst hk
      exact qnum_sound C t w ⟨fun e => h1 e, fun e => h2 e⟩ hv
  · rename_i k p k' q
    obtain ⟨rfl, _⟩ := VR_sc.1 hx
    obtain ⟨rfl, _⟩ := VR_sc.1 hy
    have hg : (eqGuard op t ox oy (.float k p) (.float k' q)).run C.P w = .ok () w := eqGuard_other (by simp) (by simp)
    simp only [Sem.run_bind, hg, Result.andThen_ok]
    split at hv <;> try (cases hv; done)
    rename_i hk; subst hk
    exact qfloat_sound C t w hv
  · rename_i p q
    obtain ⟨rfl, _⟩ := VR_sc.1 hx
    obtain ⟨rfl, _⟩ := VR_sc.1 hy
    have hg : (eqGuard op t ox oy (.bool p) (.bool q)).run C.P w = .ok () w := eqGuard_other (by simp) (by simp)
    simp only [Sem.run_bind, hg, Result.andThen_ok]
    split at hv <;> try (cases hv; done)
    · rename_i h1
      cases hv
      have hu := (C.htt _ _ h1).d.1
      exact ⟨_, by simp only [binOp, Op.equal, Op.maxDepth, Sem.run_bind, run_equalIn_bool w 9999 t p q hu, Result.andThen_ok, Sem.run_pure]; rfl, VR_sc.2 ⟨rfl, rfl⟩⟩
    · rename_i h1
      cases hv
      have hu := (C.htt _ _ h1).d.1
      exact ⟨_, by simp only [binOp, Op.equal, Op.maxDepth, Sem.run_bind, run_equalIn_bool w 9999 t p q hu, Result.andThen_ok, Sem.run_pure]; rfl, VR_sc.2 ⟨rfl, rfl⟩⟩
  · rename_i p q
    obtain ⟨rfl, _⟩ := VR_sc.1 hx
    obtain ⟨rfl, _⟩ := VR_sc.1 hy
    have hg : (eqGuard op t ox oy (.string p) (.string q)).run C.P w = .ok () w := eqGuard_other (by simp) (by simp)
    simp only [Sem.run_bind, hg, Result.andThen_ok]
    split at hv <;> try (cases hv; done)
    · cases hv; exact ⟨_, rfl, VR_sc.2 ⟨rfl, rfl⟩⟩
    · cases hv; exact ⟨_, rfl, VR_sc.2 ⟨rfl, rfl⟩⟩
    · split at hv <;> try (cases hv; done)
      rename_i hsz
      cases hv
      refine ⟨.string (p ++ q), ?_, VR_sc.2 ⟨rfl, rfl⟩⟩
      have : ¬ (((p.size + q.size : Nat) : Int) > IntKind.i64.max) := by
        have : IntKind.i64.max = 9223372036854775807 := by decide
        rw [this]; omega
      simp only [binOp, Op.stringOp, if_neg this, Sem.run_pure]
  · rename_i l m
    obtain ⟨cx, rfl, _⟩ := VR_agg.1 hx
    obtain ⟨cy, rfl, _⟩ := VR_agg.1 hy
    have key : ∀ r, eqCV C 12 t (.agg l) (.agg m) = some r → (eqGuard op t ox oy (.agg cx) (.agg cy)).run C.P w = .ok () w ∧ (Op.equalIn 10000 t (.agg cx) (.agg cy)).run C.P w = .ok r w := fun r hr => by
      obtain ⟨ti, hti, hs, _⟩ := eqCV_shape C _ _ _ _ _ hr
      refine ⟨run_eqGuard_agg w op t ox oy cx cy ?_, eqCV_sound C 12 10000 (by omega) S t _ _ _ _ r w hr hx hy⟩
      have hd := (C.htt _ _ hti).d
      cases hk : ti.d with
      | base u => rw [hk] at hd; rw [hd.2.2] at hs; simp [CV.shape] at hs
      | st fs => rw [hk] at hd; obtain ⟨f, shs, _, _, _, _, _, _, _, h⟩ := hd; exact h
      | ar n esz e => rw [hk] at hd; obtain ⟨she, _, _, _, _, _, h⟩ := hd; exact h
    split at hv <;> try (cases hv; done)
    · cases hr : eqCV C 12 t (.agg l) (.agg m) with
      | none => simp [hr] at hv
      | some r =>
        simp [hr] at hv; subst hv
        obtain ⟨h1, h2⟩ := key r hr
        exact ⟨_, by simp only [Sem.run_bind, h1, Result.andThen_ok, run_eql_struct, h2], VR_sc.2 ⟨rfl, rfl⟩⟩
    · cases hr : eqCV C 12 t (.agg l) (.agg m) with
      | none => simp [hr] at hv
      | some r =>
        simp [hr] at hv; subst hv
        obtain ⟨h1, h2⟩ := key r hr
        exact ⟨_, by simp only [Sem.run_bind, h1, Result.andThen_ok, run_neq_struct, h2], VR_sc.2 ⟨rfl, rfl⟩⟩
  · obtain ⟨rfl, _⟩ := VR_sc.1 hx
    obtain ⟨rfl, _⟩ := VR_sc.1 hy
    split at hv <;> try (cases hv; done)
    rename_i ms sh by_ ze h1 hc
    have hu := (C.htt _ _ h1).d.1
    refine eqRes_sound C hv ?_ (nilEq C hu (by exact rfl) w) rfl rfl
    cases oy <;> simp [isConstOpd] at hc
    cases op <;> simp [eqGuard]
  · rename_i tt x
    obtain ⟨rfl, _⟩ := VR_sc.1 hy
    rw [VR_nonagg rfl] at hx; simp only [FR] at hx; obtain ⟨⟨z, hx, _⟩, _⟩ := hx; cases hx
    split at hv <;> try (cases hv; done)
    rename_i ms sh by_ ze h1
    have hu := (C.htt _ _ h1).d.1
    exact eqRes_sound C hv (eqGuard_other (by simp) (by simp)) (nilEq C hu (by exact rfl) w) rfl rfl
  · obtain ⟨rfl, _⟩ := VR_sc.1 hx
    obtain ⟨rfl, _⟩ := VR_sc.1 hy
    split at hv <;> try (cases hv; done)
    rename_i h1
    have hu := (C.htt _ _ h1).d.1
    exact eqRes_sound C hv (eqGuard_other (by simp) (by simp)) (nilEq C hu (by exact rfl) w) rfl rfl
  · obtain ⟨rfl, _⟩ := VR_sc.1 hy
    rw [VR_nonagg rfl] at hx; simp only [FR] at hx; obtain ⟨⟨us, vs, hx, _⟩, _⟩ := hx; cases hx
    split at hv <;> try (cases hv; done)
    rename_i h1
    have hu := (C.htt _ _ h1).d.1
    exact eqRes_sound C hv (eqGuard_other (by simp) (by simp)) (nilEq C hu (by exact rfl) w) rfl rfl
  · obtain ⟨rfl, _⟩ := VR_sc.1 hx
    obtain ⟨rfl, _⟩ := VR_sc.1 hy
    split at hv <;> try (cases hv; done)
    rename_i h1
    have hu := (C.htt _ _ h1).d.1
    exact eqRes_sound C hv (eqGuard_other (by simp) (by simp)) (nilEq C hu (by exact rfl) w) rfl rfl
  · obtain ⟨rfl, _⟩ := VR_sc.1 hy
    rw [VR_nonagg rfl] at hx; simp only [FR] at hx; obtain ⟨⟨rb, sh, o, hx, _⟩, _⟩ := hx; cases hx
    split at hv <;> try (cases hv; done)
    rename_i h1
    have hu := (C.htt _ _ h1).d.1
    exact eqRes_sound C hv (eqGuard_other (by simp) (by simp)) (nilEq C hu (by exact rfl) w) rfl rfl
  · obtain ⟨rfl, _⟩ := VR_sc.1 hy
    rw [VR_nonagg rfl] at hx; simp only [FR] at hx; obtain ⟨⟨rb, o, es, hx, _⟩, _⟩ := hx; cases hx
    split at hv <;> try (cases hv; done)
    rename_i h1
    have hu := (C.htt _ _ h1).d.1
    exact eqRes_sound C hv (eqGuard_other (by simp) (by simp)) (nilEq C hu (by exact rfl) w) rfl rfl
end ops
end Go.Cl
