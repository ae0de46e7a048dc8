/-
  An interpreter over clean values: functions, a function that catches, the run of a program.
-/
import Derived.Test.YtcjkapadadonlaaGreatY17
import Derived.Recover
set_option linter.unusedSimpArgs false
set_option linter.unusedVariables false
namespace Go.Cl
open Go.RowKit

section
variable (C : Ctx)

noncomputable def putAll : Nat → List CV → XEnv → XEnv
  | _, [], m => m
  | k, v :: l, m => putAll (k + 1) l (T.set (some v) (Nat.succ k) m k)

theorem putAll_at : ∀ (l : List CV) (k : Nat) (m : XEnv) (t : Nat), (putAll k l m).at t = if k ≤ t ∧ t < k + l.length then (l[t - k]?).getD (.tup []) else m.at t
  | [], k, m, t => by simp [putAll]; omega
  | v :: l, k, m, t => by
    simp only [putAll]
    rw [putAll_at l (k + 1)]
    have hset : XEnv.at (T.set (some v) (Nat.succ k) m k) t = if t = k then v else m.at t := by
      simp only [XEnv.at, T.get_set (some v) _ _ k (Nat.lt_succ_self k)]
      by_cases h : t = k
      · rw [if_pos h, if_pos h]
      · rw [if_neg h, if_neg h]
    by_cases h1 : k + 1 ≤ t ∧ t < k + 1 + l.length
    · rw [if_pos h1, if_pos (by simp only [List.length_cons]; omega)]
      rw [show t - k = (t - (k + 1)) + 1 by omega]; simp
    · rw [if_neg h1, hset]
      by_cases h2 : t = k
      · subst h2
        rw [if_pos rfl, if_pos (by simp only [List.length_cons]; omega)]
        simp
      · rw [if_neg h2, if_neg (by simp only [List.length_cons]; omega)]

theorem putAll_env (l : List CV) : (putAll 0 l .e).at = envOf l := by
  funext t
  rw [putAll_at]
  unfold envOf
  by_cases h : t < l.length
  · rw [if_pos ⟨Nat.zero_le _, by omega⟩]; simp [h]
  · rw [if_neg (by omega)]; simp [show l.length ≤ t by omega]; rfl

noncomputable def xres (env : XEnv) (p : Hp) : List ResultVar → Option (List CV)
  | [] => some []
  | .tmp t :: l => match xres env p l with
    | some vs => some (env.at t :: vs)
    | none => none
  | .cell a t :: l => match xload C p t (env.at a), xres env p l with
    | some v, some vs => some (v :: vs)
    | _, _ => none
theorem xres_spec {env : XEnv} {p : Hp} (hp : p.good) : ∀ (rs : List ResultVar) (l : List CV), xres C env p rs = some l → cres C env.at p.h rs = some l
  | [], l, h => h
  | .tmp t :: rs, l, h => by
    simp only [xres] at h
    cases h1 : xres C env p rs with
    | none => simp [h1] at h
    | some vs =>
      simp [h1] at h
      simp only [cres, xres_spec hp rs vs h1, Option.map_some]
      rw [← h]
  | .cell a t :: rs, l, h => by
    simp only [xres] at h
    cases h2 : xload C p t (env.at a) with
    | none => simp [h2] at h
    | some v =>
      cases h1 : xres C env p rs with
      | none => simp [h1, h2] at h
      | some vs =>
        simp [h1, h2] at h
        simp only [cres, xres_spec hp rs vs h1, xload_spec C hp h2]
        rw [← h]

structure XF where
  code : Code
  rs : List ResultVar
  n : Nat

/-- What is asked of a function once. -/
def XFok (f : FuncId) (x : XF) : Prop := ∃ fn, C.P.funcs[f]? = some fn ∧ fn.body = some x.code ∧ fn.results.toList = x.rs ∧ fn.ntmps = x.n ∧ (fn.name == "runtime.NumGoroutine") = false ∧ okCode x.n x.code = true ∧ x.rs.all (okRes x.n) = true

def xfin (p : Hp) : Option (List CV) → XRes
  | some l => .ret (pack l) p
  | none => .stuck

noncomputable def xfun (mu : Bool) (ext : FuncId → List CV → Option CV) (call : XCall) (fuel : Nat) (x : XF) (args : List CV) (p : Hp) : XRes :=
  bif Nat.ble args.length x.n then
    match xcode C mu ext call fuel x.code (putAll 0 args .e) p with
    | .ok .normal env' p' => xfin p' (xres C env' p' x.rs)
    | .ok .ret env' p' => xfin p' (xres C env' p' x.rs)
    | .ok (.pan v) _ p' => .pan v p'
    | .ok (.panU v) _ p' => .pan v p'
    | _ => .stuck
  else .stuck

def Ans (w0 : World) (B : Nat) (S : St) (f : FuncId) (vals : List Value) (w : World) : XRes → Prop
  | .ret v p' => Calls C.P f vals.toArray w fun e w' => ∃ S' x, S.ext S' ∧ XRel w0 B S' p' w' ∧ VR S' v x ∧ e = .returned x
  | .pan v p' => Calls C.P f vals.toArray w fun e w' => ∃ S' x, S.ext S' ∧ XRel w0 B S' p' w' ∧ VR S' v x ∧ e = .panicked [⟨x, false, false⟩]
  | .stuck => True

theorem xfun_sound {ext : FuncId → List CV → Option CV} {call : XCall} (hext : ExtOk C ext) (hcall : CallOk C call) {mu : Bool} {fuel : Nat} {f : FuncId} {x : XF} (hf : XFok C f x) {w0 : World} {B : Nat} {S : St} {p : Hp} {w : World} {args : List CV} {vals : List Value} (r : XRel w0 B S p w) (hV : VRs S args vals) :
    Ans C w0 B S f vals w (xfun C mu ext call fuel x args p) := by
  obtain ⟨fn, h1, h2, h3, h4, h5, h6, h7⟩ := hf
  unfold xfun
  cases hl : Nat.ble args.length x.n with
  | false => trivial
  | true =>
    have hlen := Nat.le_of_ble_eq_true hl
    obtain ⟨hvl, _⟩ := VRs_get _ _ hV
    have hsz : (vals.toArray ++ Array.replicate (x.n - vals.toArray.size) undef).size = x.n := by simp; omega
    have he : ER S (putAll 0 args .e).at (vals.toArray ++ Array.replicate (x.n - vals.toArray.size) undef) := by rw [putAll_env]; exact ER_envOf hV _
    simp only [cond_true]
    cases hx : xcode C mu ext call fuel x.code (putAll 0 args .e) p with
    | stuck => trivial
    | ok e env' p' =>
      have hw := xcode_sound C hext hcall (mu := mu) (fuel := fuel) (ds := []) x.code S (putAll 0 args .e) p ⟨vals.toArray ++ Array.replicate (x.n - vals.toArray.size) undef, []⟩ w e env' p' h6 r he hsz rfl hx
      have fin : ∀ l, xres C env' p' x.rs = some l → ∀ (a : Act) (w' : World) (S' : St), S.ext S' → XRel w0 B S' p' w' → ER S' env'.at a.tmps → a.tmps.size = x.n → a.defers = [] → a.defers = [] ∧ ∃ v, (results fn a.tmps).run C.P w' = .ok v w' ∧ ∃ S' y, S.ext S' ∧ XRel w0 B S' p' w' ∧ VR S' (pack l) y ∧ Ending.returned v = .returned y := by
        intro l hl a w' S' k1 k2 k3 k4 k5
        obtain ⟨vs, hvs, hV'⟩ := results_sound C k2.r k3 x.rs l (by rw [k4]; exact h7) (xres_spec C k2.good _ _ hl)
        exact ⟨k5, _, results_run (by rw [h3]; exact hvs), S', _, k1, k2, VR_pack hV', rfl⟩
      cases e with
      | exit i => trivial
      | normal =>
        simp only
        cases hr : xres C env' p' x.rs with
        | none => trivial
        | some l =>
          refine calls_of_wp h1 h2 ?_
          rw [h4]
          refine wp_mono hw ?_
          rintro ex a w' ⟨S', k1, k2, k3, k4, k5, k6⟩
          cases ex <;> simp only [XE.ex, ExitR] at k6
          exact fin l hr a w' S' k1 k2 (k3 (by simp)) k4 k5
      | ret =>
        simp only
        cases hr : xres C env' p' x.rs with
        | none => trivial
        | some l =>
          refine calls_of_wp h1 h2 ?_
          rw [h4]
          refine wp_mono hw ?_
          rintro ex a w' ⟨S', k1, k2, k3, k4, k5, k6⟩
          cases ex <;> simp only [XE.ex, ExitR] at k6
          exact fin l hr a w' S' k1 k2 (k3 (by simp)) k4 k5
      | pan v =>
        refine calls_of_wp h1 h2 ?_
        rw [h4]
        refine wp_mono hw ?_
        rintro ex a w' ⟨S', k1, k2, k3, k4, k5, k6⟩
        cases ex <;> simp only [XE.ex, ExitR] at k6
        obtain ⟨y, rfl, hy⟩ := k6
        exact ⟨k5, S', y, k1, k2, hy, rfl⟩
      | panU v =>
        refine calls_of_wp h1 h2 ?_
        rw [h4]
        refine wp_mono hw ?_
        rintro ex a w' ⟨S', k1, k2, k3, k4, k5, k6⟩
        cases ex <;> simp only [XE.ex, ExitR] at k6
        obtain ⟨y, rfl, hy⟩ := k6
        exact ⟨k5, S', y, k1, k2, hy, rfl⟩

/-! A function that defers one closure, which recovers. -/
structure XC where
  a : Code
  b : Code
  post : Code
  rs : List ResultVar
  n : Nat
  k : Tmp
  g : FuncId
  caps : List Tmp
  gd : Tmp
  rest : Code
  gn : Nat

/-- The two functions have this form. -/
structure XCok (f : FuncId) (x : XC) : Prop where
  fn : ∃ fn id ty1 ty2 p1 p2 e1 e2 ts, C.P.funcs[f]? = some fn ∧ fn.body = some (.seq x.a (.seq x.b (.seq (.region id #[⟨some x.k, .makeFunc (.func x.g) #[] (x.caps.map Operand.tmp).toArray, ty1, p1, e1, none⟩, ⟨none, .defer ⟨.value (.tmp x.k), #[], ts⟩, ty2, p2, e2, none⟩] false) x.post))) ∧ fn.results.toList = x.rs ∧ fn.ntmps = x.n
  cl : ∃ fn id ty pp e ts, C.P.funcs[x.g]? = some fn ∧ fn.body = some (.seq (.region id #[⟨some x.gd, .call ⟨.builtin .recover, #[], ts⟩, ty, pp, e, none⟩] false) x.rest) ∧ fn.results.toList = [] ∧ fn.ntmps = x.gn ∧ (fn.name == "runtime.NumGoroutine") = false
  ok : okCode x.n x.a = true ∧ okCode x.n x.b = true ∧ okCode x.n x.post = true ∧ x.rs.all (okRes x.n) = true ∧ okCode x.gn x.rest = true
  lt : x.k < x.n ∧ x.gd < x.gn ∧ (∀ t ∈ x.caps, t < x.n) ∧ x.caps.length ≤ x.gn ∧ x.caps.length ≤ x.gd

noncomputable def xcatchEnd (mu : Bool) (ext : FuncId → List CV → Option CV) (call : XCall) (fuel : Nat) (x : XC) (cv : List CV) (rec : CV) (env : XEnv) (p : Hp) : XRes :=
  match xcode C mu ext call fuel x.rest ((putAll 0 cv .e).put (some x.gd) rec) p with
  | .ok .normal _ q => xfin q (xres C env q x.rs)
  | .ok .ret _ q => xfin q (xres C env q x.rs)
  | _ => .stuck

noncomputable def xcatch (mu : Bool) (ext : FuncId → List CV → Option CV) (call : XCall) (fuel : Nat) (x : XC) (args : List CV) (p : Hp) : XRes :=
  bif Nat.ble args.length x.n then
    match xcode C mu ext call fuel x.a (putAll 0 args .e) p with
    | .ok .normal env1 p1 => match xcode C mu ext call fuel x.b env1 p1 with
      | .ok .normal env2 p2 => match xcode C mu ext call fuel x.post (env2.put (some x.k) (.fn x.g [] (x.caps.map env2.at))) p2 with
        | .ok .normal env3 p3 => xcatchEnd C mu ext call fuel x (x.caps.map env2.at) (.sc .nilIface) env3 p3
        | .ok .ret env3 p3 => xcatchEnd C mu ext call fuel x (x.caps.map env2.at) (.sc .nilIface) env3 p3
        | .ok (.pan v) env3 p3 => xcatchEnd C mu ext call fuel x (x.caps.map env2.at) v env3 p3
        | _ => .stuck
      | _ => .stuck
    | _ => .stuck
  else .stuck
end
end Go.Cl
