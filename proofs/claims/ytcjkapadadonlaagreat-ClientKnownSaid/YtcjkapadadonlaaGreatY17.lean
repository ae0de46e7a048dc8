/-
  An interpreter over clean values: code.
-/
import Derived.Test.YtcjkapadadonlaaGreatY16
set_option linter.unusedSimpArgs false
set_option linter.unusedVariables false
namespace Go.Cl
open Go.RowKit

section
variable (C : Ctx)

theorem xdraw_sound {ext : FuncId → List CV → Option CV} {call : XCall} (hext : ExtOk C ext) (hcall : CallOk C call) {mu : Bool} {w0 : World} {B : Nat} {id : Nat} {ops : Array Oper} {ds : List Deferred} {n : Nat} {S : St} {env : XEnv} {p : Hp} {a : Act} {w : World}
    (hok : ops.toList.all (okOper n) = true) (r : XRel w0 B S p w) (he : ER S env.at a.tmps) (hn : a.tmps.size = n) (hd : a.defers = ds) {e : XE} {env' : XEnv} {p' : Hp} (hx : xdraw C mu ext call ops.toList (ancs ops.toList []) env p = .ok e env' p') :
    (Code.region id ops true).wp C.P (XPost w0 B S n ds e env' p') a w := by
  unfold xdraw at hx
  cases hst : drawStat ops.toList (ancs ops.toList []) with
  | false => rw [hst] at hx; cases hx
  | true =>
    rw [hst, cond_true] at hx
    simp only [drawStat, Bool.and_eq_true] at hst
    obtain ⟨⟨hlow, hch⟩, hcf⟩ := hst
    have hrk := xtr_ok C (mu := mu) (ext := ext) (call := call) (ops := ops.toList) (A := ancs ops.toList []) (n0 := p.n) ops.toList 0 env (layA C p.n ops.toList 0 ⟨p.n + ops.toList.length, p.t⟩)
    obtain ⟨g1, g2, g3⟩ := layA_spec C (n0 := p.n) ops.toList 0 ⟨p.n + ops.toList.length, p.t⟩ r.good
    let S1 : St := { S with n := S.n + ops.toList.length }
    have hext1 : S.ext S1 := ⟨⟨fun _ _ _ h => h, fun _ _ h => h, Nat.le_add_right _ _⟩, fun _ _ h => h⟩
    have hlt : ∀ i loc, S.μ i = some loc → i < p.n := fun i loc hi => by
      rw [← r.n]
      rcases Nat.lt_or_ge i S.n with h | h
      · exact h
      · rw [(r.r.fresh i h).1] at hi; cases hi
    have hsame : ∀ k, (k < p.n ∨ p.n + ops.toList.length ≤ k) → (layA C p.n ops.toList 0 ⟨p.n + ops.toList.length, p.t⟩).h k = p.h k := fun k hk => by
      rw [g3 k (by omega)]; rfl
    have r1 : XRel w0 B S1 (layA C p.n ops.toList 0 ⟨p.n + ops.toList.length, p.t⟩) w := by
      refine ⟨⟨r.r.below, r.r.size, r.r.kcell, fun i hi => ?_, fun i obj loc k1 k2 => ?_, fun i j oi oj li lj hij k1 k2 k3 k4 => ?_⟩, by rw [g2]; show S.n + _ = p.n + _; rw [r.n], g1⟩
      · have hi : S.n + ops.toList.length ≤ i := hi
        have hpn := r.n
        exact ⟨(r.r.fresh i (by omega)).1, by rw [hsame i (by omega)]; exact (r.r.fresh i (by omega)).2⟩
      · have := hlt i loc k2
        rw [hsame i (.inl this)] at k1
        have k := r.r.live i obj loc k1 k2
        exact ⟨k.1.mono hext1.le rfl (fun _ h => h), k.2⟩
      · have a1 := hlt i li k3
        have a2 := hlt j lj k4
        rw [hsame i (.inl a1)] at k1
        rw [hsame j (.inl a2)] at k2
        exact r.r.inj i j oi oj li lj hij k1 k2 k3 k4
    refine wp_region_any C.mixed ?_
    have hops : ops.toList.toArray = ops := by simp
    have hlen0 : ∀ j, (Array.replicate ops.size false).getD j false = false := fun j => by
      simp only [Array.getD_eq_getD_getElem?, Array.getElem?_replicate]
      split <;> rfl
    have fin : ∀ (es : List Ent) (hs : List Hp) (fn : Fin) (Q' : Exit → Act → World → Prop), RunOk C mu ext call ops.toList p.n ops.toList 0 env (layA C p.n ops.toList 0 ⟨p.n + ops.toList.length, p.t⟩) es hs → chkAll C mu ext call (ancs ops.toList []) p.n (flags ops.toList es) hs 0 ops.toList es = true →
        FinOk C mu ext call ops.toList es hs env.at fn → FinPost w0 B S n ds hs (cntF (flags ops.toList es) 0 (fun _ => true)) Q' fn → wpAny C.P .any ops Q' ops.size (Array.replicate ops.size false) a { w with drawn := w.drawn + 1 } := by
      intro es hs fn Q' hrun hchk hfin hQ
      have hwp := any_x C hext hcall hok hlow hch hcf (S0 := S) (n0 := p.n) r.n (fun j o x h1 h2 => by
        obtain ⟨q, q', k1, k2, k3⟩ := hrun.ent j o x h1 h2
        rw [Nat.zero_add] at k3
        exact ⟨q, q', k1, k2, k3⟩) hrun.pre hrun.len hchk hfin hQ ops.size (Array.replicate ops.size false) S1 a { w with drawn := w.drawn + 1 } (by rw [Array.length_toList]; omega) ?_
      · rw [hops] at hwp; exact hwp
      · have hz : ∀ (l : List Bool) (i : Nat), cntF l i (fun k => (Array.replicate ops.size false).getD k false) = 0 := fun l => by
          induction l with
          | nil => intro i; rfl
          | cons b l ih =>
            intro i
            show (bif b && (Array.replicate ops.size false).getD i false then 1 else 0) + cntF l (i + 1) (fun k => (Array.replicate ops.size false).getD k false) = 0
            rw [ih (i + 1), hlen0, Bool.and_false]; rfl
        refine ⟨hext1, ⟨_, by rw [hz]; exact hrun.h0, ⟨r1.r.drew, r1.n, r1.good⟩⟩, ?_, hn, hd, by show p.n + _ ≤ S.n + _; rw [r.n]; exact Nat.le_refl _, ⟨by simp, (fun j o hj => by rw [hlen0] at hj; cases hj)⟩, (fun j hj => by rw [hlen0] at hj; cases hj), fun j o _ _ _ => ?_⟩
        · have : lstE (fun k => (Array.replicate ops.size false).getD k false) ops.toList es 0 env.at = env.at := by
            have key : ∀ (ops' : List Oper) (es : List Ent) (i : Nat) (env : Env), lstE (fun k => (Array.replicate ops.size false).getD k false) ops' es i env = env := by
              intro ops'
              induction ops' with
              | nil => intro es i env; simp [lstE]
              | cons o l ih =>
                intro es i env
                cases es with
                | nil => simp [lstE]
                | cons x es =>
                  show lstE (fun k => (Array.replicate ops.size false).getD k false) l es (i + 1) (bif (Array.replicate ops.size false).getD i false then put env o.dst x.v else env) = env
                  rw [hlen0]; exact ih es (i + 1) env
            exact key _ _ _ _
          rw [this]
          exact he.mono hext1.le
        · exact (r.r.fresh _ (by rw [r.n]; omega)).1
    split at hx
    · rename_i env1 es hs ht
      rw [ht] at hrk
      obtain ⟨h1, h2, h3⟩ := hrk
      cases hc : chkAll C mu ext call (ancs ops.toList []) p.n (flags ops.toList es) hs 0 ops.toList es with
      | false => rw [hc] at hx; cases hx
      | true =>
        rw [hc, cond_true] at hx
        split at hx <;> try (cases hx; done)
        rename_i q hq
        simp only [XR.ok.injEq] at hx
        obtain ⟨rfl, rfl, rfl⟩ := hx
        refine fin es hs (.done env1) _ h1 hc ⟨h2, h3⟩ fun q1 hq1 ex a w hp => ?_
        have : q1 = q := by
          rw [List.getLast?_eq_getElem?, h1.hlen, Nat.add_sub_cancel, hq1] at hq
          exact Option.some.inj hq
        subst this
        exact hp
    · rename_i v q es hs ht
      rw [ht] at hrk
      obtain ⟨h1, o, x, q1, k1, k2, k3, k4, k5, k6, k7⟩ := hrk
      cases hc : chkAll C mu ext call (ancs ops.toList []) p.n (flags ops.toList es) hs 0 ops.toList es with
      | false => rw [hc] at hx; cases hx
      | true =>
        rw [hc, cond_true] at hx
        simp only [XR.ok.injEq] at hx
        obtain ⟨rfl, rfl, rfl⟩ := hx
        refine fin es hs (.pan v q) _ h1 hc ⟨o, x, q1, k1, k2, k3, k4, k5, k6, fun j hj hj' => ?_⟩ fun env2 ex a w hp => ?_
        · have := k7 j hj hj'
          simpa using this
        · obtain ⟨S', g1, g2, g3, g4⟩ := hp
          exact ⟨S', g1, g2, fun h => absurd rfl (h v), g4⟩
    · cases hx

noncomputable def xloop (body : XEnv → Hp → XR) (fuel : Nat) : XEnv → Hp → XR :=
  Nat.rec (motive := fun _ => XEnv → Hp → XR) (fun _ _ => .stuck) (fun _ ih env p => match body env p with
    | .ok .normal env' p' => ih env' p'
    | r => r) fuel
theorem xloop_succ (body : XEnv → Hp → XR) (f : Nat) (env : XEnv) (p : Hp) : xloop body (f + 1) env p = match body env p with
    | .ok .normal env' p' => xloop body f env' p'
    | r => r := rfl

noncomputable def xcode (mu : Bool) (ext : FuncId → List CV → Option CV) (call : XCall) (fuel : Nat) : Code → XEnv → Hp → XR
  | .skip, env, p => .ok .normal env p
  | .label _, env, p => .ok .normal env p
  | .region _ ops draw, env, p => bif draw then xdraw C mu ext call ops.toList (ancs ops.toList []) env p else xops C mu ext call ops.toList ops.toList env p
  | .seq a b, env, p => match xcode mu ext call fuel a env p with
    | .ok .normal env' p' => xcode mu ext call fuel b env' p'
    | r => r
  | .cond c a b, env, p => match xev env c with
    | .sc (.bool t) => bif t then xcode mu ext call fuel a env p else xcode mu ext call fuel b env p
    | _ => .stuck
  | .block id c, env, p => match xcode mu ext call fuel c env p with
    | .ok (.exit j) env' p' => bif Nat.beq j id then .ok .normal env' p' else .ok (.exit j) env' p'
    | r => r
  | .loop c, env, p => xloop (xcode mu ext call fuel c) fuel env p
  | .exit id, env, p => .ok (.exit id) env p
  | .ret, env, p => .ok .ret env p
  | _, _, _ => .stuck

theorem xpost_mono {w0 : World} {B : Nat} {S S' : St} {n : Nat} {ds : List Deferred} (hS : S'.ext S) {e : XE} {env : XEnv} {p : Hp} {c : Code} {a : Act} {w : World} (h : c.wp C.P (XPost w0 B S n ds e env p) a w) : c.wp C.P (XPost w0 B S' n ds e env p) a w :=
  wp_mono h fun _ _ _ k => k.mono hS

theorem xcode_sound {ext : FuncId → List CV → Option CV} {call : XCall} (hext : ExtOk C ext) (hcall : CallOk C call) {mu : Bool} {fuel : Nat} {w0 : World} {B : Nat} {ds : List Deferred} {n : Nat} : ∀ (c : Code) (S : St) (env : XEnv) (p : Hp) (a : Act) (w : World) (e : XE) (env' : XEnv) (p' : Hp), okCode n c = true → XRel w0 B S p w → ER S env.at a.tmps → a.tmps.size = n → a.defers = ds →
    xcode C mu ext call fuel c env p = .ok e env' p' → c.wp C.P (XPost w0 B S n ds e env' p') a w := by
  intro c
  induction c with
  | skip =>
    intro S env p a w e env' p' _ r he hn hd hx
    simp only [xcode, XR.ok.injEq] at hx
    obtain ⟨rfl, rfl, rfl⟩ := hx
    exact wp_skip ⟨S, St.ext.refl _, r, fun _ => he, hn, hd, trivial⟩
  | label l =>
    intro S env p a w e env' p' _ r he hn hd hx
    simp only [xcode, XR.ok.injEq] at hx
    obtain ⟨rfl, rfl, rfl⟩ := hx
    exact wp_label ⟨S, St.ext.refl _, r, fun _ => he, hn, hd, trivial⟩
  | region id ops draw =>
    intro S env p a w e env' p' hok r he hn hd hx
    cases draw with
    | false =>
      simp only [xcode, cond_false] at hx
      refine wp_region ?_
      have := xops_sound C hext hcall (Q' := XPost w0 B S n ds e env' p') ops.toList 0 S env p a w rfl (by simpa [okCode] using hok) r he hn hd e env' p' hx (fun _ _ _ h => h)
      simpa [List.range_eq_range'] using this
    | true =>
      simp only [xcode, cond_true] at hx
      exact xdraw_sound C hext hcall (by simpa [okCode] using hok) r he hn hd hx
  | seq x y ihx ihy =>
    intro S env p a w e env' p' hok r he hn hd hx
    simp only [okCode, Bool.and_eq_true] at hok
    simp only [xcode] at hx
    cases h1 : xcode C mu ext call fuel x env p with
    | stuck => rw [h1] at hx; cases hx
    | ok e1 env1 p1 =>
      rw [h1] at hx
      have hw := ihx S env p a w e1 env1 p1 hok.1 r he hn hd h1
      refine wp_seq (wp_mono hw ?_)
      rintro ex a' w' ⟨S', k1, k2, k3, k4, k5, k6⟩
      cases e1 with
      | normal =>
        simp only at hx
        cases ex <;> simp only [XE.ex, ExitR] at k6
        exact xpost_mono C k1 (ihy S' env1 p1 a' w' e env' p' hok.2 k2 (k3 (by simp)) k4 k5 hx)
      | exit id =>
        simp only [XR.ok.injEq] at hx
        obtain ⟨rfl, rfl, rfl⟩ := hx
        cases ex <;> simp only [XE.ex, ExitR] at k6
        exact ⟨S', k1, k2, k3, k4, k5, k6⟩
      | ret =>
        simp only [XR.ok.injEq] at hx
        obtain ⟨rfl, rfl, rfl⟩ := hx
        cases ex <;> simp only [XE.ex, ExitR] at k6
        exact ⟨S', k1, k2, k3, k4, k5, trivial⟩
      | pan v =>
        simp only [XR.ok.injEq] at hx
        obtain ⟨rfl, rfl, rfl⟩ := hx
        cases ex <;> simp only [XE.ex, ExitR] at k6
        exact ⟨S', k1, k2, k3, k4, k5, k6⟩
      | panU v =>
        simp only [XR.ok.injEq] at hx
        obtain ⟨rfl, rfl, rfl⟩ := hx
        cases ex <;> simp only [XE.ex, ExitR] at k6
        exact ⟨S', k1, k2, k3, k4, k5, k6⟩
  | cond c x y ihx ihy =>
    intro S env p a w e env' p' hok r he hn hd hx
    simp only [okCode, Bool.and_eq_true] at hok
    simp only [xcode] at hx
    split at hx <;> try (cases hx; done)
    rename_i t ht
    have hv := he.eval (x := c) (a := a) (by rw [hn]; exact hok.1.1)
    rw [← xev_eq, ht] at hv
    refine wp_cond_split (VR_sc.1 hv).1 (fun ht => ?_) (fun ht => ?_)
    · subst ht; exact ihx S env p a w e env' p' hok.1.2 r he hn hd hx
    · subst ht; exact ihy S env p a w e env' p' hok.2 r he hn hd hx
  | block id c ih =>
    intro S env p a w e env' p' hok r he hn hd hx
    simp only [xcode] at hx
    cases h1 : xcode C mu ext call fuel c env p with
    | stuck => rw [h1] at hx; cases hx
    | ok e1 env1 p1 =>
      rw [h1] at hx
      refine wp_block (wp_mono (ih S env p a w e1 env1 p1 hok r he hn hd h1) ?_)
      rintro ex a' w' ⟨S', k1, k2, k3, k4, k5, k6⟩
      cases e1 with
      | exit j =>
        cases ex <;> simp only [XE.ex, ExitR] at k6
        subst k6
        simp only at hx
        simp only [Exit.inBlock]
        cases hb : Nat.beq j id with
        | true =>
          rw [hb, cond_true] at hx
          simp only [XR.ok.injEq] at hx
          obtain ⟨rfl, rfl, rfl⟩ := hx
          rw [if_pos (Nat.eq_of_beq_eq_true hb)]
          exact ⟨S', k1, k2, fun _ => k3 (by simp), k4, k5, trivial⟩
        | false =>
          rw [hb, cond_false] at hx
          simp only [XR.ok.injEq] at hx
          obtain ⟨rfl, rfl, rfl⟩ := hx
          rw [if_neg (Nat.ne_of_beq_eq_false hb)]
          exact ⟨S', k1, k2, k3, k4, k5, rfl⟩
      | normal =>
        simp only [XR.ok.injEq] at hx
        obtain ⟨rfl, rfl, rfl⟩ := hx
        cases ex <;> simp only [XE.ex, ExitR] at k6
        exact ⟨S', k1, k2, k3, k4, k5, trivial⟩
      | ret =>
        simp only [XR.ok.injEq] at hx
        obtain ⟨rfl, rfl, rfl⟩ := hx
        cases ex <;> simp only [XE.ex, ExitR] at k6
        exact ⟨S', k1, k2, k3, k4, k5, trivial⟩
      | pan v =>
        simp only [XR.ok.injEq] at hx
        obtain ⟨rfl, rfl, rfl⟩ := hx
        cases ex <;> simp only [XE.ex, ExitR] at k6
        exact ⟨S', k1, k2, k3, k4, k5, k6⟩
      | panU v =>
        simp only [XR.ok.injEq] at hx
        obtain ⟨rfl, rfl, rfl⟩ := hx
        cases ex <;> simp only [XE.ex, ExitR] at k6
        exact ⟨S', k1, k2, k3, k4, k5, k6⟩
  | loop c ih =>
    intro S env p a w e env' p' hok r he hn hd hx
    have hx : xloop (xcode C mu ext call fuel c) fuel env p = .ok e env' p' := hx
    have key : ∀ (f : Nat) (S : St) (env : XEnv) (p : Hp) (a : Act) (w : World), XRel w0 B S p w → ER S env.at a.tmps → a.tmps.size = n → a.defers = ds → xloop (xcode C mu ext call fuel c) f env p = .ok e env' p' →
        ∀ b k cs, ∃ ex a' w', XPost w0 B S n ds e env' p' ex a' w' ∧ Arrives C.P (lone (b.at a (.code c :: .inLoop c :: k)) cs w) b k cs ex a' w' := by
      intro f
      induction f with
      | zero => intro S env p a w _ _ _ _ h; cases h
      | succ f ihf =>
        intro S env p a w r he hn hd hx b k cs
        rw [xloop_succ] at hx
        cases h1 : xcode C mu ext call fuel c env p with
        | stuck => rw [h1] at hx; cases hx
        | ok e1 env1 p1 =>
          rw [h1] at hx
          obtain ⟨ex, a1, w1, ⟨S', k1, k2, k3, k4, k5, k6⟩, harr⟩ := ih S env p a w e1 env1 p1 hok r he hn hd h1 b (.inLoop c :: k) cs
          cases e1 with
          | normal =>
            cases ex <;> simp only [XE.ex, ExitR] at k6
            obtain ⟨e2, a2, w2, hq2, harr2⟩ := ihf S' env1 p1 a1 w1 k2 (k3 (by simp)) k4 k5 hx b k cs
            exact ⟨e2, a2, w2, hq2.mono k1, .of_steps (Steps.trans harr (.one step_inLoop)) harr2⟩
          | exit id =>
            simp only [XR.ok.injEq] at hx
            obtain ⟨rfl, rfl, rfl⟩ := hx
            cases ex <;> simp only [XE.ex, ExitR] at k6
            exact ⟨.exit _, a1, w1, ⟨S', k1, k2, k3, k4, k5, k6⟩, .pass (x := .inLoop c) rfl (fun _ _ => .inl (by simp)) harr⟩
          | ret =>
            simp only [XR.ok.injEq] at hx
            obtain ⟨rfl, rfl, rfl⟩ := hx
            cases ex <;> simp only [XE.ex, ExitR] at k6
            exact ⟨.ret, a1, w1, ⟨S', k1, k2, k3, k4, k5, trivial⟩, .pass (x := .inLoop c) rfl (fun _ _ => .inl (by simp)) harr⟩
          | pan v =>
            simp only [XR.ok.injEq] at hx
            obtain ⟨rfl, rfl, rfl⟩ := hx
            cases ex <;> simp only [XE.ex, ExitR] at k6
            exact ⟨.panic _, a1, w1, ⟨S', k1, k2, k3, k4, k5, k6⟩, .pass (x := .inLoop c) rfl (fun _ _ => .inl (by simp)) harr⟩
          | panU v =>
            simp only [XR.ok.injEq] at hx
            obtain ⟨rfl, rfl, rfl⟩ := hx
            cases ex <;> simp only [XE.ex, ExitR] at k6
            exact ⟨.panic _, a1, w1, ⟨S', k1, k2, k3, k4, k5, k6⟩, .pass (x := .inLoop c) rfl (fun _ _ => .inl (by simp)) harr⟩
    intro b k cs
    obtain ⟨ex, a', w', hq, harr⟩ := key fuel S env p a w r he hn hd hx b k cs
    exact ⟨ex, a', w', hq, .of_steps (.one step_loop) harr⟩
  | exit id =>
    intro S env p a w e env' p' _ r he hn hd hx
    simp only [xcode, XR.ok.injEq] at hx
    obtain ⟨rfl, rfl, rfl⟩ := hx
    exact wp_exit ⟨S, St.ext.refl _, r, fun _ => he, hn, hd, rfl⟩
  | ret =>
    intro S env p a w e env' p' _ r he hn hd hx
    simp only [xcode, XR.ok.injEq] at hx
    obtain ⟨rfl, rfl, rfl⟩ := hx
    exact wp_ret ⟨S, St.ext.refl _, r, fun _ => he, hn, hd, trivial⟩
  | rangeFunc f ps x y _ _ => intro S env p a w e env' p' _ _ _ _ _ hx; simp [xcode] at hx
  | scope c _ => intro S env p a w e env' p' _ _ _ _ _ hx; simp [xcode] at hx
  | goto l => intro S env p a w e env' p' _ _ _ _ _ hx; simp [xcode] at hx
  | refuse why => intro S env p a w e env' p' _ _ _ _ _ hx; simp [xcode] at hx
end
end Go.Cl
