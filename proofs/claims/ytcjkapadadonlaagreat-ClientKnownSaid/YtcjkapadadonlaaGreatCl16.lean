/-
  Functions: a contract out of a walk of the body.
-/
import Derived.Test.YtcjkapadadonlaaGreatCl15
set_option linter.unusedSimpArgs false
set_option linter.unusedVariables false
namespace Go.Cl
open Go.RowKit

section ops
variable (C : Ctx)

def cres (env : Env) (h : Heap) : List ResultVar → Option (List CV)
  | [] => some []
  | .tmp t :: l => (cres env h l).map (env t :: ·)
  | .cell a t :: l => match qload C h t (env a), cres env h l with
    | some v, some vs => some (v :: vs)
    | _, _ => none

def pack : List CV → CV
  | [v] => v
  | l => .tup l

def okRes (n : Nat) : ResultVar → Bool
  | .tmp t => Nat.blt t n
  | .cell a _ => Nat.blt a n

def envOf (args : List CV) : Env := fun t => match args[t]? with
  | some v => v
  | none => .tup []

/-- What a body has to come to. -/
def bodyQ (rs : List ResultVar) (Q : Out → Heap → Prop) : CPost
  | .normal, env, h => ∃ l, cres C env h rs = some l ∧ Q (.ret (pack l)) h
  | .ret, env, h => ∃ l, cres C env h rs = some l ∧ Q (.ret (pack l)) h
  | .pan v, _, h => Q (.pan v) h
  | .exit _, _, _ => False

def resOne (tmps : Array Value) : ResultVar → Sem Value
  | .tmp t => pure (tmps.getD t undef)
  | .cell a t => do loadVar t (← asAddr (tmps.getD a undef))

theorem results_sound {w0 : World} {B : Nat} {S : St} {h : Heap} {w : World} (r : R w0 B S h w) {env : Env} {tmps : Array Value} (he : ER S env tmps) : ∀ (rs : List ResultVar) (l : List CV), rs.all (okRes tmps.size) = true → cres C env h rs = some l →
    ∃ vs : List Value, (rs.mapM (resOne tmps)).run C.P w = .ok vs w ∧ VRs S l vs
  | [], l, _, h1 => by simp [cres] at h1; subst h1; exact ⟨[], by simp, by simp [VRs]⟩
  | .tmp t :: rs, l, hok, h1 => by
    simp only [List.all_cons, Bool.and_eq_true] at hok
    simp only [cres] at h1
    cases hl : cres C env h rs with
    | none => simp [hl] at h1
    | some l' =>
      simp [hl] at h1
      subst h1
      obtain ⟨vs, hvs, hV⟩ := results_sound r he rs l' hok.2 hl
      have ht : t < tmps.size := by simpa [okRes] using hok.1
      refine ⟨tmps[t] :: vs, ?_, VRs_cons.2 ⟨he t _ (by simp [ht]), hV⟩⟩
      rw [List.mapM_cons]
      simp [resOne, hvs, ht]
  | .cell a t :: rs, l, hok, h1 => by
    simp only [List.all_cons, Bool.and_eq_true] at hok
    simp only [cres] at h1
    cases hq : qload C h t (env a) with
    | none => simp [hq] at h1
    | some v =>
      cases hl : cres C env h rs with
      | none => simp [hq, hl] at h1
      | some l' =>
        simp [hq, hl] at h1
        subst h1
        obtain ⟨vs, hvs, hV⟩ := results_sound r he rs l' hok.2 hl
        have ht : a < tmps.size := by simpa [okRes] using hok.1
        have hv := he a _ (show tmps[a]? = some tmps[a] by simp [ht])
        obtain ⟨y, hy, hvy⟩ := qload_sound C r hv hq
        refine ⟨y :: vs, ?_, VRs_cons.2 ⟨hvy, hV⟩⟩
        have hload : (do loadVar t (← asAddr (tmps.getD a undef)) : Sem Value).run C.P w = .ok y w := by
          have hg : tmps.getD a undef = tmps[a] := by simp [ht]
          rw [hg]
          have hy' := hy
          cases htm : tmps[a] with
          | pointer p =>
            cases p with
            | none => rw [htm] at hy'; simp [Instr.loadAt, Instr.sureAddr] at hy'
            | some p => rw [htm] at hy'; simpa [Instr.loadAt, Instr.sureAddr, asAddr] using hy'
          | _ => rw [htm] at hy'; simp [Instr.loadAt, Instr.sureAddr] at hy'
        rw [List.mapM_cons]
        rw [Sem.run_bind, show resOne tmps (.cell a t) = (do loadVar t (← asAddr (tmps.getD a undef)) : Sem Value) from rfl, hload]
        simp [hvs]

def packV : List Value → Value
  | [v] => v
  | l => .tuple l.toArray

theorem results_run {fn : Func} {tmps : Array Value} {w : World} {P : Program} {vs : List Value} (h : (fn.results.toList.mapM (resOne tmps)).run P w = .ok vs w) :
    (results fn tmps).run P w = .ok (packV vs) w := by
  have hr : results fn tmps = (do let vs ← fn.results.mapM (resOne tmps); pure (if h : vs.size = 1 then vs[0] else .tuple vs)) := rfl
  rw [hr, Array.mapM_eq_mapM_toList]
  simp only [Sem.run_bind, Sem.run_map, h, Result.andThen_ok, Sem.run_pure]
  match vs with
  | [] => rfl
  | [v] => rfl
  | a :: b :: l => simp [packV]

theorem VR_pack {S : St} {l : List CV} {vs : List Value} (h : VRs S l vs) : VR S (pack l) (packV vs) := by
  match l, vs, h with
  | [], [], _ => rw [show pack [] = .tup [] from rfl, VR_nonagg rfl]; exact ⟨by simp [FR, VRs, packV], by simp [packV]⟩
  | [], _ :: _, h => simp [VRs] at h
  | [v], [], h => simp [VRs] at h
  | [v], [x], h => exact (VRs_cons.1 h).1
  | [v], x :: y :: l, h => have := (VRs_cons.1 h).2; simp [VRs] at this
  | v :: u :: l, [], h => simp [VRs] at h
  | v :: u :: l, [x], h => have := (VRs_cons.1 h).2; simp [VRs] at this
  | v :: u :: l, x :: y :: vs, h =>
    rw [show pack (v :: u :: l) = .tup (v :: u :: l) from rfl, VR_nonagg rfl]
    exact ⟨by simp only [FR]; exact ⟨_, rfl, h⟩, by simp [packV]⟩

theorem ER_envOf {S : St} {args : List CV} {vals : List Value} (h : VRs S args vals) (n : Nat) : ER S (envOf args) (vals.toArray ++ Array.replicate n undef) := by
  intro t x ht
  obtain ⟨hl, hg⟩ := VRs_get _ _ h
  unfold envOf
  by_cases h1 : t < vals.length
  · rw [Array.getElem?_append_left (by simpa using h1)] at ht
    have h2 : args[t]? = some (args[t]'(by omega)) := by simp [show t < args.length by omega]
    rw [h2]
    exact hg t _ x h2 (by simpa using ht)
  · have h2 : args[t]? = none := by simp; omega
    rw [h2]
    rw [Array.getElem?_append_right (by simpa using h1)] at ht
    rw [Array.getElem?_replicate] at ht
    split at ht
    · cases ht; exact VR_undef
    · cases ht

/-- What is asked of a function once. -/
structure FnOk (D : Draws) (f : FuncId) (c : Code) (rs : List ResultVar) (n : Nat) : Prop where
  fn : ∃ fn, C.P.funcs[f]? = some fn ∧ fn.body = some c ∧ fn.results.toList = rs ∧ fn.ntmps = n ∧ (fn.name == "runtime.NumGoroutine") = false
  code : okCode n c = true
  res : rs.all (okRes n) = true

theorem ok_of {D : Draws} (hD : DSound C D) {f : FuncId} {c : Code} {rs : List ResultVar} {n : Nat} (hf : FnOk C D f c rs n) {spec : Spec}
    (h : ∀ args h Q, spec args h Q → args.length ≤ n ∧ cwp C D c (bodyQ C rs Q) (envOf args) h) : Ok C f spec := by
  obtain ⟨fn, h1, h2, h3, h4, h5⟩ := hf.fn
  refine ⟨⟨fn, h1, by rw [h2]; rfl, h5⟩, fun w0 B S hp w args vals Q r hV hs => ?_⟩
  obtain ⟨hlen, hc⟩ := h args hp Q hs
  obtain ⟨hl, _⟩ := VRs_get _ _ hV
  refine calls_of_wp h1 h2 ?_
  rw [h4]
  have hsz : (vals.toArray ++ Array.replicate (n - vals.toArray.size) undef).size = n := by simp; omega
  refine wp_mono (cwp_sound C hD c _ S _ hp _ w hf.code r (ER_envOf hV _) hsz rfl hc) ?_
  rintro e a w' ⟨S', ce, env, h', k1, k2, k3, k4, k5, k6, k7⟩
  have fin : (∃ l, cres C env h' rs = some l ∧ Q (.ret (pack l)) h') → a.defers = [] ∧ ∃ v, (results fn a.tmps).run C.P w' = .ok v w' ∧ ∃ S' out h', S.ext S' ∧ R w0 B S' h' w' ∧ OutR S' out (.returned v) ∧ Q out h' := by
    rintro ⟨l, hl, hq⟩
    obtain ⟨vs, hvs, hV'⟩ := results_sound C k2 k3 rs l (by rw [k4]; exact hf.res) hl
    refine ⟨k5, _, results_run (by rw [h3]; exact hvs), S', .ret (pack l), h', k1, k2, VR_pack hV', hq⟩
  cases ce <;> cases e <;> simp only [ExitR] at k6
  · exact fin k7
  · exact k7.elim
  · exact fin k7
  · obtain ⟨x, rfl, hx⟩ := k6
    exact ⟨k5, S', .pan _, h', k1, k2, ⟨x, rfl, hx⟩, k7⟩

/-- A contract that says less. -/
theorem Ok.mono {f : FuncId} {spec spec' : Spec} (h : Ok C f spec) (hs : ∀ args hp Q, spec' args hp Q → spec args hp Q) : Ok C f spec' :=
  ⟨h.1, fun w0 B S hp w args vals Q r hV k => h.2 w0 B S hp w args vals Q r hV (hs _ _ _ k)⟩

/-- What a state says less of: objects are dropped. -/
def HLe (h h' : Heap) : Prop := ∀ i, h i = none ∨ h i = h' i
theorem HLe.refl (h : Heap) : HLe h h := fun _ => .inr rfl
theorem HLe.trans {a b c : Heap} (h : HLe a b) (k : HLe b c) : HLe a c := fun i => by
  rcases h i with e | e
  · exact .inl e
  · rcases k i with e' | e'
    · exact .inl (e.trans e')
    · exact .inr (e.trans e')
theorem HLe.upd {h h' : Heap} {i : Nat} (o : Option Obj) (k : HLe h h') (hi : h i = none) : HLe h (upd h' i o) := fun j => by
  by_cases e : j = i
  · subst e; exact .inl hi
  · rw [upd_ne _ _ e]; exact k j

/-- Behind a call, objects that nobody asks for may go. -/
theorem Ok.drop {f : FuncId} {spec : Spec} (h : Ok C f spec) : Ok C f (fun args hp Q => spec args hp fun out h' => ∃ h'', HLe h'' h' ∧ Q out h'') :=
  ⟨h.1, fun w0 B S hp w args vals _ r hV k => (h.2 w0 B S hp w args vals _ r hV k).mono fun _ _ ⟨S', out, _, k1, k2, k3, h'', k4, k5⟩ => ⟨S', out, h'', k1, k2.drop k4, k3, k5⟩⟩
end ops
end Go.Cl
