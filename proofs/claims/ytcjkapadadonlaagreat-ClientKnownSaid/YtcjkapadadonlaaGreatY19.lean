/-
  An interpreter over clean values: a function that catches, the proof; the run of a program.
-/
import Derived.Test.YtcjkapadadonlaaGreatY18
set_option linter.unusedSimpArgs false
set_option linter.unusedVariables false
namespace Go.Cl
open Go.RowKit

section
variable (C : Ctx)

theorem run_invoke {P : Program} {w : World} {g : FuncId} {fn : Func} {cap : Array Value} (h1 : P.funcs[g]? = some fn) (h2 : fn.body.isNone = false) (h3 : (fn.name == "runtime.NumGoroutine") = false) : (invoke (.fn (.func g) cap) #[]).run P w = .ok (.enter g cap) w := by
  have h : (invoke (.fn (.func g) cap) #[]).run P w = (callFunc g (#[] ++ cap)).run P w := rfl
  rw [h, run_callFunc h1 h2 h3]
  simp

/-- The deferred closure, in a frame that returns or that panics. -/
theorem closure_sound {ext : FuncId → List CV → Option CV} {call : XCall} (hext : ExtOk C ext) (hcall : CallOk C call) {mu : Bool} {fuel : Nat} {f : FuncId} {x : XC} (hx : XCok C f x) {w0 : World} {B : Nat} {S : St} {p : Hp} {w : World} (r : XRel w0 B S p w)
    {cv : List CV} {cap : List Value} (hcv : VRs S cv cap) (hlen : cv.length = x.caps.length) {rec : CV} {y : Value} (hy : VR S rec y) {u u' : FrameMode} (hu : (u = .returning ∧ y = .nilIface ∧ u' = .returning) ∨ (u = .panicking [⟨y, false, false⟩] ∧ u' = .panicking [⟨y, true, false⟩]))
    {e : XE} {env' : XEnv} {q : Hp} (he : e = .normal ∨ e = .ret) (hrun : xcode C mu ext call fuel x.rest ((putAll 0 cv .e).put (some x.gd) rec) p = .ok e env' q) :
    CallsD C.P x.g cap.toArray u w fun en v' w' => ∃ z, en = .returned z ∧ v' = u' ∧ ∃ S', S.ext S' ∧ XRel w0 B S' q w' := by
  obtain ⟨fn, id, ty, pp, ed, ts, h1, h2, h3, h4, h5⟩ := hx.cl
  obtain ⟨_, _, _, _, hok⟩ := hx.ok
  obtain ⟨_, hgd, _, hcl, _⟩ := hx.lt
  obtain ⟨hvl, _⟩ := VRs_get _ _ hcv
  refine callsD_of_wpS h1 h2 fun c₀ cs hm => ?_
  rw [h4]
  have hsz : (cap.toArray ++ Array.replicate (x.gn - cap.toArray.size) undef).size = x.gn := by simp; omega
  have hE : ER S (putAll 0 cv .e).at (cap.toArray ++ Array.replicate (x.gn - cap.toArray.size) undef) := by rw [putAll_env]; exact ER_envOf hcv _
  refine wpS_seq (wpS_region ?_)
  -- what recover hands back
  have key : ∀ cs' : List Frame, cs' = { c₀ with mode := u' } :: cs → x.rest.wpS C.P (bodyPostS C.P fn c₀ cs fun en v' w' => ∃ z, en = .returned z ∧ v' = u' ∧ ∃ S', S.ext S' ∧ XRel w0 B S' q w') ((Act.mk (cap.toArray ++ Array.replicate (x.gn - cap.toArray.size) undef) []).put (some x.gd) y) cs' w := by
    intro cs' hcs
    refine wpS_of_wp ?_
    have hw := xcode_sound C hext hcall (mu := mu) (fuel := fuel) (ds := []) x.rest S _ p ((Act.mk (cap.toArray ++ Array.replicate (x.gn - cap.toArray.size) undef) []).put (some x.gd) y) w e env' q hok r (by rw [XEnv.at_put]; exact ER.put (a := Act.mk _ []) hE hy) (by rw [put_size]; exact hsz) rfl hrun
    refine wp_mono hw ?_
    rintro ex a w' ⟨S', k1, k2, k3, k4, k5, k6⟩
    have hres : (results fn a.tmps).run C.P w' = .ok (.tuple #[]) w' := results_run (vs := []) (by rw [h3]; rfl)
    rcases he with rfl | rfl
    · cases ex <;> simp only [XE.ex, ExitR] at k6
      exact ⟨k5, u', hcs, _, hres, _, rfl, rfl, S', k1, k2⟩
    · cases ex <;> simp only [XE.ex, ExitR] at k6
      exact ⟨k5, u', hcs, _, hres, _, rfl, rfl, S', k1, k2⟩
  have hr : List.range (#[(⟨some x.gd, .call ⟨.builtin .recover, #[], ts⟩, ty, pp, ed, none⟩ : Oper)]).size = [0] := rfl
  rw [hr]
  simp only [wpOpsS]
  have hop : (#[(⟨some x.gd, .call ⟨.builtin .recover, #[], ts⟩, ty, pp, ed, none⟩ : Oper)])[0]? = some ⟨some x.gd, .call ⟨.builtin .recover, #[], ts⟩, ty, pp, ed, none⟩ := rfl
  rw [hop]
  simp only [Region.wanted, if_true]
  have hex : ∀ (ρ : Operand → Value), (execOp ρ ⟨some x.gd, .call ⟨.builtin .recover, #[], ts⟩, ty, pp, ed, none⟩).run C.P w = .ok .recover w := fun _ => rfl
  rw [hex]
  simp only
  rcases hu with ⟨rfl, rfl, rfl⟩ | ⟨rfl, rfl⟩
  · have hrec : recoverD (c₀ :: cs) = none := by simp [recoverD, hm]
    rw [hrec]
    refine key _ ?_
    have : ({ c₀ with mode := FrameMode.returning } : Frame) = c₀ := by rw [← hm]
    rw [this]
  · have hrec : recoverD (c₀ :: cs) = some (y, { c₀ with mode := .panicking [⟨y, true, false⟩] } :: cs) := by simp [recoverD, hm]
    rw [hrec]
    exact key _ rfl

theorem catchEnd_sound {ext : FuncId → List CV → Option CV} {call : XCall} (hext : ExtOk C ext) (hcall : CallOk C call) {mu : Bool} {fuel : Nat} {f : FuncId} {x : XC} (hx : XCok C f x) {fn : Func} (hres : fn.results.toList = x.rs) {w0 : World} {B : Nat} {S : St} {p : Hp} {w : World} (r : XRel w0 B S p w)
    {cv : List CV} {cap : List Value} (hcv : VRs S cv cap) (hlen : cv.length = x.caps.length) {rec : CV} {y : Value} (hy : VR S rec y) {u u' : FrameMode} (hu : (u = .returning ∧ y = .nilIface ∧ u' = .returning) ∨ (u = .panicking [⟨y, false, false⟩] ∧ u' = .panicking [⟨y, true, false⟩]))
    {env : XEnv} {tmps : Array Value} (hE : ER S env.at tmps) (htn : tmps.size = x.n) {v : CV} {q : Hp} (hrun : xcatchEnd C mu ext call fuel x cv rec env p = .ret v q) {d : Deferred} (hd : d = { target := .fn (.func x.g) cap.toArray, args := #[] }) :
    Leaves C.P fn tmps (fun e w' => ∃ S' z, S.ext S' ∧ XRel w0 B S' q w' ∧ VR S' v z ∧ e = .returned z) [d] u w := by
  subst hd
  obtain ⟨fg, id, ty, pp, ed, ts, h1, h2, h3, h4, h5⟩ := hx.cl
  have fin : ∀ (e : XE) (env' : XEnv) (q1 : Hp), (e = .normal ∨ e = .ret) → xcode C mu ext call fuel x.rest ((putAll 0 cv .e).put (some x.gd) rec) p = .ok e env' q1 → xfin q1 (xres C env q1 x.rs) = .ret v q →
      Leaves C.P fn tmps (fun e w' => ∃ S' z, S.ext S' ∧ XRel w0 B S' q w' ∧ VR S' v z ∧ e = .returned z) [{ target := .fn (.func x.g) cap.toArray, args := #[] }] u w := by
    intro e env' q1 he hc hf
    have hu0 : u ≠ .run := by rcases hu with ⟨rfl, _⟩ | ⟨rfl, _⟩ <;> simp
    refine leaves_cons (args := cap.toArray) hu0 (run_invoke h1 (by rw [h2]; rfl) h5) ?_
    refine (closure_sound C hext hcall hx r hcv hlen hy hu he hc).mono ?_
    rintro en v' w' ⟨z, rfl, rfl, S', k1, k2⟩
    have hset : settle v' = .returning := by
      rcases hu with ⟨_, _, rfl⟩ | ⟨_, rfl⟩ <;> simp [settle]
    simp only [hset, Leaves]
    cases hr : xres C env q1 x.rs with
    | none => rw [hr] at hf; cases hf
    | some l =>
      rw [hr] at hf
      simp only [xfin, XRes.ret.injEq] at hf
      obtain ⟨rfl, rfl⟩ := hf
      obtain ⟨vs, hvs, hV'⟩ := results_sound C k2.r (hE.mono k1.le) x.rs l (by rw [htn]; exact hx.ok.2.2.2.1) (xres_spec C k2.good _ _ hr)
      exact ⟨_, results_run (by rw [hres]; exact hvs), S', _, k1, k2, VR_pack hV', rfl⟩
  unfold xcatchEnd at hrun
  split at hrun
  · rename_i env' q1 hc; exact fin _ _ _ (.inl rfl) hc hrun
  · rename_i env' q1 hc; exact fin _ _ _ (.inr rfl) hc hrun
  · cases hrun

theorem ends_of {w0 : World} {B : Nat} {S S1 : St} {q : Hp} {v : CV} (hS : S.ext S1) {e : Ending} {w' : World} (h : ∃ S' z, S1.ext S' ∧ XRel w0 B S' q w' ∧ VR S' v z ∧ e = .returned z) : ∃ S' z, S.ext S' ∧ XRel w0 B S' q w' ∧ VR S' v z ∧ e = .returned z := by
  obtain ⟨S', z, k1, k2⟩ := h
  exact ⟨S', z, hS.trans k1, k2⟩

theorem Leaves.mono1 {P : Program} {fn : Func} {tmps : Array Value} {R R' : Ending → World → Prop} (hR : ∀ e w, R e w → R' e w) : ∀ (ds : List Deferred) (u : FrameMode) (w : World), Leaves P fn tmps R ds u w → Leaves P fn tmps R' ds u w
  | [], .returning, w, h => by obtain ⟨v, h1, h2⟩ := h; exact ⟨v, h1, hR _ _ h2⟩
  | [], .panicking c, w, h => hR _ _ h
  | [], .run, w, h => h
  | d :: ds, u, w, h => by
    obtain ⟨h1, fv, cap, f, args, h2, h3, h4⟩ := h
    refine ⟨h1, fv, cap, f, args, h2, h3, h4.mono ?_⟩
    intro e u' w' he
    cases e with
    | returned v => exact Leaves.mono1 hR ds _ _ he
    | panicked c => exact Leaves.mono1 hR ds _ _ he
    | outgrown => exact hR _ _ he

theorem caps_VRs {S : St} {env : XEnv} {a : Act} (he : ER S env.at a.tmps) : ∀ (caps : List Tmp), (∀ t ∈ caps, t < a.tmps.size) → VRs S (caps.map env.at) (caps.map fun t => a.eval (.tmp t))
  | [], _ => by simp [VRs]
  | t :: l, h => VRs_cons.2 ⟨he.eval (x := .tmp t) (by simpa [okOpd] using h t (by simp)), caps_VRs he l fun u hu => h u (by simp [hu])⟩

theorem xcatch_sound {ext : FuncId → List CV → Option CV} {call : XCall} (hext : ExtOk C ext) (hcall : CallOk C call) {mu : Bool} {fuel : Nat} {f : FuncId} {x : XC} (hx : XCok C f x) {w0 : World} {B : Nat} {S : St} {p : Hp} {w : World} {args : List CV} {vals : List Value} (r : XRel w0 B S p w) (hV : VRs S args vals) :
    Ans C w0 B S f vals w (xcatch C mu ext call fuel x args p) := by
  obtain ⟨fn, id, ty1, ty2, p1, p2, e1, e2, ts, h1, h2, h3, h4⟩ := hx.fn
  obtain ⟨ka, kb, kp, kr, _⟩ := hx.ok
  obtain ⟨hk, _, hcaps, _, _⟩ := hx.lt
  unfold xcatch
  cases hl : Nat.ble args.length x.n with
  | false => trivial
  | true =>
    have hlen := Nat.le_of_ble_eq_true hl
    obtain ⟨hvl, _⟩ := VRs_get _ _ hV
    have hsz : (vals.toArray ++ Array.replicate (x.n - vals.toArray.size) undef).size = x.n := by simp; omega
    have he : ER S (putAll 0 args .e).at (vals.toArray ++ Array.replicate (x.n - vals.toArray.size) undef) := by rw [putAll_env]; exact ER_envOf hV _
    simp only [cond_true]
    -- the whole, from what comes behind
    have go : ∀ (env1 : XEnv) (q1 : Hp) (env2 : XEnv) (q2 : Hp) (ep : XE) (env3 : XEnv) (q3 : Hp) (rec v : CV) (q : Hp), xcode C mu ext call fuel x.a (putAll 0 args .e) p = .ok .normal env1 q1 → xcode C mu ext call fuel x.b env1 q1 = .ok .normal env2 q2 →
        xcode C mu ext call fuel x.post (env2.put (some x.k) (.fn x.g [] (x.caps.map env2.at))) q2 = .ok ep env3 q3 → ((ep = .normal ∨ ep = .ret) ∧ rec = .sc .nilIface ∨ ep = .pan rec) → xcatchEnd C mu ext call fuel x (x.caps.map env2.at) rec env3 q3 = .ret v q →
        Ans C w0 B S f vals w (.ret v q) := by
      intro env1 q1 env2 q2 ep env3 q3 rec v q c1 c2 c3 hep hend
      show Calls C.P f vals.toArray w _
      refine calls_of_wp_defers h1 h2 ?_
      rw [h4]
      have w1 := xcode_sound C hext hcall (mu := mu) (fuel := fuel) (ds := []) x.a S (putAll 0 args .e) p ⟨vals.toArray ++ Array.replicate (x.n - vals.toArray.size) undef, []⟩ w _ _ _ ka r he hsz rfl c1
      refine wp_seq (wp_mono w1 ?_)
      rintro ex a1 wa ⟨S1, g1, g2, g3, g4, g5, g6⟩
      cases ex <;> simp only [XE.ex, ExitR] at g6
      have w2 := xcode_sound C hext hcall (mu := mu) (fuel := fuel) (ds := []) x.b S1 env1 q1 a1 wa _ _ _ kb g2 (g3 (by simp)) g4 g5 c2
      refine wp_seq (wp_mono w2 ?_)
      rintro ex a2 wb ⟨S2, m1, m2, m3, m4, m5, m6⟩
      cases ex <;> simp only [XE.ex, ExitR] at m6
      have hE2 := m3 (by simp)
      have hcv := caps_VRs hE2 x.caps (fun t ht => by rw [m4]; exact hcaps t ht)
      let cap : List Value := x.caps.map fun t => a2.eval (.tmp t)
      let d : Deferred := { target := .fn (.func x.g) cap.toArray, args := #[] }
      let fv : Value := .func (.func x.g) #[] cap.toArray
      have hfv : VR S2 (.fn x.g [] (x.caps.map env2.at)) fv := by
        rw [VR_nonagg rfl]; simp only [FR]
        exact ⟨⟨[], cap, rfl, by simp [VRs], hcv⟩, by simp [fv]⟩
      let a3 : Act := { (a2.put (some x.k) fv) with defers := d :: (a2.put (some x.k) fv).defers }
      refine wp_seq (wp_region ?_)
      have hrange : ∀ o1 o2 : Oper, List.range (#[o1, o2] : Array Oper).size = [0, 1] := fun _ _ => rfl
      rw [hrange]
      simp only [wpOps]
      have i0 : ∀ o1 o2 : Oper, (#[o1, o2] : Array Oper)[0]? = some o1 := fun _ _ => rfl
      have i1 : ∀ o1 o2 : Oper, (#[o1, o2] : Array Oper)[1]? = some o2 := fun _ _ => rfl
      rw [i0]
      simp only [Region.wanted, if_true]
      left
      unfold Oper.wp
      have x1 : (execOp a2.eval ⟨some x.k, .makeFunc (.func x.g) #[] (x.caps.map Operand.tmp).toArray, ty1, p1, e1, none⟩).run C.P wb = .ok (.value fv) wb := by
        have : (execOp a2.eval ⟨some x.k, .makeFunc (.func x.g) #[] (x.caps.map Operand.tmp).toArray, ty1, p1, e1, none⟩).run C.P wb = .ok (.value (.func (.func x.g) (#[].map a2.eval) ((x.caps.map Operand.tmp).toArray.map a2.eval))) wb := rfl
        rw [this]
        have hm : (x.caps.map Operand.tmp).toArray.map a2.eval = cap.toArray := by
          simp only [cap, List.map_toArray, List.map_map]
          rfl
        rw [hm, show Array.map a2.eval #[] = #[] from by simp]
      rw [x1]
      rw [Oper.upon_value]
      rw [i1]
      simp only [Region.wanted, if_true]
      left
      have hkv : (a2.put (some x.k) fv).eval (.tmp x.k) = fv := by
        simp [Act.put, Act.eval, show x.k < a2.tmps.size by rw [m4]; exact hk]
      have x2 : (execOp (a2.put (some x.k) fv).eval ⟨none, .defer ⟨.value (.tmp x.k), #[], ts⟩, ty2, p2, e2, none⟩).run C.P wb = .ok (.defer d) wb := by
        simp only [execOp, resolve, hkv, Deferred.ofValue, fv, Sem.run_bind, Sem.run_pure, Result.andThen_ok]
        simp [d]
      rw [x2, Oper.upon_defer]
      show Code.wp C.P x.post (bodyPostD C.P fn _) (a3.put none undef) wb
      have hE3 : ER S2 (env2.put (some x.k) (.fn x.g [] (x.caps.map env2.at))).at (a3.put none undef).tmps := by
        rw [XEnv.at_put]
        exact ER.put (d := some x.k) hE2 hfv
      have w3 := xcode_sound C hext hcall (mu := mu) (fuel := fuel) (ds := [d]) x.post S2 _ q2 (a3.put none undef) wb _ _ _ kp m2 hE3 (by
        show (a2.put (some x.k) fv).tmps.size = x.n
        rw [put_size]; exact m4) (by
        show d :: (a2.put (some x.k) fv).defers = [d]
        rw [put_defers, m5]) c3
      refine wp_mono w3 ?_
      rintro ex a4 wc ⟨S3, n1, n2, n3, n4, n5, n6⟩
      have hE4 := n3 (by rcases hep with ⟨rfl | rfl, _⟩ | rfl <;> simp)
      have hS3 : S.ext S3 := (g1.trans m1).trans n1
      have last : ∀ (y : Value) (u u' : FrameMode), VR S3 rec y → ((u = .returning ∧ y = .nilIface ∧ u' = .returning) ∨ (u = .panicking [⟨y, false, false⟩] ∧ u' = .panicking [⟨y, true, false⟩])) →
          Leaves C.P fn a4.tmps (fun e w' => ∃ S' z, S.ext S' ∧ XRel w0 B S' q w' ∧ VR S' v z ∧ e = .returned z) a4.defers u wc := fun y u u' hy hu => by
        rw [n5]
        exact Leaves.mono1 (fun e w' h => ends_of hS3 h) _ _ _ (catchEnd_sound C hext hcall hx h3 n2 (VRs.mono n1.le _ _ hcv) (by simp) hy hu hE4 n4 hend rfl)
      rcases hep with ⟨rfl | rfl, rfl⟩ | rfl
      · cases ex <;> simp only [XE.ex, ExitR] at n6
        exact last .nilIface .returning .returning (VR_sc.2 ⟨rfl, rfl⟩) (.inl ⟨rfl, rfl, rfl⟩)
      · cases ex <;> simp only [XE.ex, ExitR] at n6
        exact last .nilIface .returning .returning (VR_sc.2 ⟨rfl, rfl⟩) (.inl ⟨rfl, rfl, rfl⟩)
      · cases ex <;> simp only [XE.ex, ExitR] at n6
        obtain ⟨y, rfl, hy⟩ := n6
        exact last y _ _ hy (.inr ⟨rfl, rfl⟩)
    cases c1 : xcode C mu ext call fuel x.a (putAll 0 args .e) p with
    | stuck => trivial
    | ok ea env1 q1 =>
      cases ea with
      | normal =>
        simp only
        cases c2 : xcode C mu ext call fuel x.b env1 q1 with
        | stuck => trivial
        | ok eb env2 q2 =>
          cases eb with
          | normal =>
            simp only
            cases c3 : xcode C mu ext call fuel x.post (env2.put (some x.k) (.fn x.g [] (x.caps.map env2.at))) q2 with
            | stuck => trivial
            | ok ep env3 q3 =>
              have endd : ∀ rec, ((ep = .normal ∨ ep = .ret) ∧ rec = .sc .nilIface ∨ ep = .pan rec) → Ans C w0 B S f vals w (xcatchEnd C mu ext call fuel x (x.caps.map env2.at) rec env3 q3) := fun rec hep => by
                cases hend : xcatchEnd C mu ext call fuel x (x.caps.map env2.at) rec env3 q3 with
                | ret v q => exact go env1 q1 env2 q2 ep env3 q3 rec v q c1 c2 c3 hep hend
                | stuck => trivial
                | pan v q =>
                  exfalso
                  have hno : ∀ (o : Option (List CV)) (q1 : Hp), xfin q1 o ≠ .pan v q := fun o q1 => by cases o <;> simp [xfin]
                  unfold xcatchEnd at hend
                  split at hend
                  · exact hno _ _ hend
                  · exact hno _ _ hend
                  · cases hend
              cases ep with
              | normal => exact endd _ (.inl ⟨.inl rfl, rfl⟩)
              | ret => exact endd _ (.inl ⟨.inr rfl, rfl⟩)
              | pan v => exact endd _ (.inr rfl)
              | panU v => trivial
              | exit i => trivial
          | _ => trivial
      | _ => trivial

/-! The run of a program. -/
structure XP where
  ext : FuncId → List CV → Option CV
  mu : FuncId → Bool
  tab : FuncId → Option XF
  cat : FuncId → Option XC

structure XPok (X : XP) : Prop where
  ext : ExtOk C X.ext
  tab : ∀ f x, X.tab f = some x → XFok C f x
  cat : ∀ f x, X.cat f = some x → XCok C f x

noncomputable def xrun (X : XP) (fuel : Nat) : XCall :=
  Nat.rec (motive := fun _ => XCall) (fun _ _ _ => .stuck) (fun k ih f args p => match X.cat f with
    | some x => xcatch C (X.mu f) X.ext ih k x args p
    | none => match X.tab f with
      | some x => xfun C (X.mu f) X.ext ih k x args p
      | none => .stuck) fuel
theorem xrun_succ (X : XP) (k : Nat) (f : FuncId) (args : List CV) (p : Hp) : xrun C X (k + 1) f args p = match X.cat f with
    | some x => xcatch C (X.mu f) X.ext (xrun C X k) k x args p
    | none => match X.tab f with
      | some x => xfun C (X.mu f) X.ext (xrun C X k) k x args p
      | none => .stuck := rfl

theorem callOk_of_ans {call : XCall} (h : ∀ (f : FuncId) (args : List CV) (p : Hp), (call f args p ≠ .stuck → ∃ fn, C.P.funcs[f]? = some fn ∧ fn.body.isNone = false ∧ (fn.name == "runtime.NumGoroutine") = false) ∧
    ∀ (w0 : World) (B : Nat) (S : St) (w : World) (vals : List Value), XRel w0 B S p w → VRs S args vals → Ans C w0 B S f vals w (call f args p)) : CallOk C call := by
  intro f args p
  obtain ⟨h1, h2⟩ := h f args p
  cases hc : call f args p with
  | stuck => trivial
  | ret v p' =>
    rw [hc] at h1 h2
    exact ⟨h1 (by simp), fun w0 B S w vals r hV => h2 w0 B S w vals r hV⟩
  | pan v p' =>
    rw [hc] at h1 h2
    exact ⟨h1 (by simp), fun w0 B S w vals r hV => h2 w0 B S w vals r hV⟩

theorem xrun_sound {X : XP} (hX : XPok C X) (hname : ∀ f x, X.cat f = some x → ∃ fn, C.P.funcs[f]? = some fn ∧ fn.body.isNone = false ∧ (fn.name == "runtime.NumGoroutine") = false) : ∀ fuel, CallOk C (xrun C X fuel) := by
  intro fuel
  induction fuel with
  | zero => exact fun f args p => trivial
  | succ k ih =>
    refine callOk_of_ans C fun f args p => ?_
    rw [xrun_succ]
    cases hc : X.cat f with
    | some x => exact ⟨fun _ => hname f x hc, fun w0 B S w vals r hV => xcatch_sound C hX.ext ih (hX.cat f x hc) r hV⟩
    | none =>
      simp only
      cases ht : X.tab f with
      | none => exact ⟨fun h => absurd rfl h, fun w0 B S w vals r hV => trivial⟩
      | some x =>
        have hf := hX.tab f x ht
        refine ⟨fun _ => ?_, fun w0 B S w vals r hV => xfun_sound C hX.ext ih hf r hV⟩
        obtain ⟨fn, h1, h2, _, _, h5, _⟩ := hf
        exact ⟨fn, h1, by rw [h2]; rfl, h5⟩
end
end Go.Cl
