/-
  An interpreter over clean values: drawn regions, the theorem.
-/
import Derived.Test.YtcjkapadadonlaaGreatY15
set_option linter.unusedSimpArgs false
set_option linter.unusedVariables false
namespace Go.Cl
open Go.RowKit

section
variable (C : Ctx)
variable {ext : FuncId → List CV → Option CV} {call : XCall} {mu : Bool} {w0 : World} {B : Nat} {ops : List Oper} {ds : List Deferred} {n : Nat} {S0 : St} {n0 : Nat} {es : List Ent} {hs : List Hp} {env0 : Env}

theorem bef_lt (hlow : lowB ops = true) : ∀ (j i : Nat), j < ops.length → bef (ancs ops []) j i = true → i < j := by
  intro j
  induction j using Nat.strongRecOn with
  | _ j ih =>
    intro i hj hb
    have ho : ops[j]? = some ops[j] := by simp [hj]
    obtain ⟨acc', k1, k2⟩ := (ancs_spec ops []).2 j _ ho
    simp only [List.length_nil, Nat.zero_add] at k1
    unfold bef at hb
    rw [k1] at hb
    obtain ⟨e, he, hbind, h⟩ := ancOf_spec acc' _ i hb
    have hlt : e.on < j := by
      have h2 := List.all_eq_true.1 hlow (ops[j], j) (by rw [List.mem_zipIdx_iff_getElem?]; exact ho)
      have h3 := List.all_eq_true.1 h2 e he
      simpa [hbind] using h3
    rcases h with h | h
    · omega
    · have hlen : e.on < acc'.length := by
        rcases Nat.lt_or_ge e.on acc'.length with h' | h'
        · exact h'
        · rw [List.getD_eq_getElem?_getD, List.getElem?_eq_none h'] at h
          simp at h
      have := ih e.on hlt i (by omega) (by unfold bef; rw [← k2 e.on hlen]; exact h)
      omega

theorem cntF_le : ∀ (l : List Bool) (i : Nat) (P : Nat → Bool), cntF l i P ≤ l.length
  | [], _, _ => Nat.le_refl _
  | b :: l, i, P => by
    simp only [cntF, List.length_cons]
    have := cntF_le l (i + 1) P
    cases b <;> cases P i <;> simp <;> omega

/-- How the run of the region ends. -/
inductive Fin where
  | done (env : XEnv)
  | pan (v : CV) (p : Hp)

def FinOk (C : Ctx) (mu : Bool) (ext : FuncId → List CV → Option CV) (call : XCall) (ops : List Oper) (es : List Ent) (hs : List Hp) (env0 : Env) : Fin → Prop
  | .done env => es.length = ops.length ∧ env.at = preE ops es env0 ops.length
  | .pan v p => ∃ o x q, ops[es.length]? = some o ∧ kindOf o.op = .eff ∧ xwanted ops o x = some true ∧ x.at = preE ops es env0 es.length ∧ hs[cntF (flags ops es) 0 (fun _ => true)]? = some q ∧ xop C mu ext call x q o.op = .pan v p ∧ ∀ j, es.length < j → j < ops.length → bef (ancs ops []) j es.length = true

def FinPost (w0 : World) (B : Nat) (S0 : St) (n : Nat) (ds : List Deferred) (hs : List Hp) (cnt : Nat) (Q' : Exit → Act → World → Prop) : Fin → Prop
  | .done env => ∀ q, hs[cnt]? = some q → ∀ ex a w, XPost w0 B S0 n ds .normal env q ex a w → Q' ex a w
  | .pan v p => ∀ env ex a w, XPost w0 B S0 n ds (.panU v) env p ex a w → Q' ex a w

theorem any_x (hext : ExtOk C ext) (hcall : CallOk C call) (hok : ops.all (okOper n) = true) (hlow : lowB ops = true) (hch : chainB ops (ancs ops []) = true) (hcf : conflB ops (ancs ops []) = true) (hn0 : S0.n = n0)
    (hrun : ∀ j o x, ops[j]? = some o → es[j]? = some x → ∃ q q', hs[cntF (flags ops es) 0 (fun k => Nat.blt k j)]? = some q ∧ (isEff o x = true → hs[cntF (flags ops es) 0 (fun k => Nat.blt k j) + 1]? = some q') ∧ EntOk C mu ext call ops n0 o j x q q')
    (hpre : ∀ j x, es[j]? = some x → x.env.at = preE ops es env0 j) (hlen : es.length ≤ ops.length)
    (hchk : chkAll C mu ext call (ancs ops []) n0 (flags ops es) hs 0 ops es = true) {fin : Fin} (hfin : FinOk C mu ext call ops es hs env0 fin) {Q' : Exit → Act → World → Prop} (hQ : FinPost w0 B S0 n ds hs (cntF (flags ops es) 0 (fun _ => true)) Q' fin) :
    ∀ (fuel : Nat) (listed : Array Bool) (S : St) (a : Act) (w : World), ops.length ≤ fuel + cntF (List.replicate ops.length true) 0 (fun k => listed.getD k false) → XInv w0 B ops ds n S0 n0 es hs env0 listed S a w → wpAny C.P .any ops.toArray Q' fuel listed a w := by
  -- all is listed
  have fini : ∀ (listed : Array Bool) (S : St) (a : Act) (w : World), (∀ j, j < ops.length → listed.getD j false = true) → XInv w0 B ops ds n S0 n0 es hs env0 listed S a w → Q' .normal a w := by
    intro listed S a w hall I
    cases fin with
    | pan v p =>
      obtain ⟨o, x, q, ho, _⟩ := hfin
      have h1 := (List.getElem?_eq_some_iff.1 ho).1
      have := I.low _ (hall _ h1)
      omega
    | done env =>
      obtain ⟨h1, h2⟩ := hfin
      obtain ⟨q, hq, r⟩ := I.r
      have hc : cntF (flags ops es) 0 (fun k => listed.getD k false) = cntF (flags ops es) 0 (fun _ => true) := cntF_congr _ 0 fun k hk => by
        obtain ⟨o, x, ho, _⟩ := flags_get hk
        rw [Nat.zero_add]; exact hall k (List.getElem?_eq_some_iff.1 ho).1
      rw [hc] at hq
      refine hQ q hq _ _ _ ⟨S, I.ext, r, fun _ => ?_, I.tn, I.td, trivial⟩
      have he : env.at = lstE (fun k => listed.getD k false) ops es 0 env0 := by
        rw [h2, preE_lstE ops es 0 env0]
        funext t
        refine lstE_agree ops es 0 env0 env0 rfl fun j o ho _ _ => ?_
        have hj := (List.getElem?_eq_some_iff.1 ho).1
        rw [Nat.zero_add, hall j hj]
        exact blt_of (by omega)
      rw [he]; exact I.er
  have full : ∀ (listed : Array Bool), ops.length ≤ cntF (List.replicate ops.length true) 0 (fun k => listed.getD k false) → ∀ j, j < ops.length → listed.getD j false = true := by
    intro listed h j hj
    cases hv : listed.getD j false with
    | true => rfl
    | false =>
      have h1 := cntF_add (P := fun k => listed.getD k false) (x := j) (List.replicate ops.length true) 0 (Nat.zero_le _) hv (by simp [hj])
      have h2 := cntF_le (List.replicate ops.length true) 0 (fun k => listed.getD k false || Nat.beq k j)
      rw [List.length_replicate] at h2
      omega
  intro fuel
  induction fuel with
  | zero =>
    intro listed S a w hf I
    have hall := full listed (by omega)
    refine ⟨?_, fini listed S a w hall I⟩
    unfold Region.ready
    rw [List.filter_eq_nil_iff]
    intro i hi
    have hi : i < ops.length := by simpa using hi
    have := hall i hi
    have hs' : i < listed.size := by rw [I.down.size]; exact hi
    simp [hs'] at this
    simp [hs', this]
  | succ fuel ih =>
    intro listed S a w hf I
    refine ⟨fun hr => fini listed S a w (all_done hlow I.down hr) I, fun i hi => ?_⟩
    obtain ⟨hiu, oi, hoi, hall⟩ := mem_ready.1 hi
    have hoi' : ops[i]? = some oi := by simpa using hoi
    have hil : i < ops.length := (List.getElem?_eq_some_iff.1 hoi').1
    obtain ⟨hun, hls⟩ := getD_false hiu
    obtain ⟨look, up, dn, eff⟩ := ready_known hlow hch hcf I.down hoi' hun hall
    have hcnt : ops.length ≤ fuel + cntF (List.replicate ops.length true) 0 (fun k => (listed.setIfInBounds i true).getD k false) := by
      rw [getD_set hls, cntF_add (P := fun k => listed.getD k false) (x := i) _ 0 (Nat.zero_le _) hun (by simp [hil])]
      omega
    obtain ⟨q, hq, r⟩ := I.r
    unfold wpOp
    simp only [List.getElem?_toArray, hoi']
    -- what changes the heap: those ahead of it are done, no other one
    have ecnt : kindOf oi.op = .eff → cntF (flags ops es) 0 (fun k => listed.getD k false) = cntF (flags ops es) 0 (fun k => Nat.blt k i) := fun hk => cntF_congr _ 0 fun k hkf => by
      obtain ⟨o, x, ho, hx, he⟩ := flags_get hkf
      rw [Nat.zero_add]
      by_cases e : k = i
      · subst e
        rw [hun]
        cases hb : Nat.blt k k with
        | false => rfl
        | true => have := of_blt hb; omega
      · exact eff hk k o ho (isEff_kind he).1 e
    rcases Nat.lt_trichotomy i es.length with hlt | heq | hgt
    · -- one that the run came by
      have hx : es[i]? = some es[i] := by simp [hlt]
      obtain ⟨q1, q1', hq1, hq1', E⟩ := hrun i oi _ hoi' hx
      have hc := chkAll_spec C ops es 0 hchk i oi _ hoi' hx
      rw [Nat.zero_add] at hc
      obtain ⟨s1, s2⟩ := I.sees hlow hch hcf hok hoi' (hpre i _ hx) hun hall
      rw [xwanted_sound s2 E.want]
      have bnd : ∀ (P : Nat → Bool), (∀ k, bef (ancs ops []) i k = true → P k = true) → (∀ k o, ops[k]? = some o → P k = true → bef (ancs ops []) k i = false) →
          (cntF (flags ops es) 0 fun j => bef (ancs ops []) i j) ≤ cntF (flags ops es) 0 P ∧ cntF (flags ops es) 0 P ≤ cntF (flags ops es) 0 fun j => !bef (ancs ops []) j i := fun P h1 h2 =>
        ⟨cntF_mono _ 0 fun k hk hp => by rw [Nat.zero_add] at hp ⊢; exact h1 k hp, cntF_mono _ 0 fun k hk hp => by
          obtain ⟨o, x, ho, _⟩ := flags_get hk
          rw [Nat.zero_add] at hp ⊢
          rw [h2 k o ho hp]; rfl⟩
      have hbL := bnd (fun k => listed.getD k false) up (fun k o ho hp => by
        cases hb : bef (ancs ops []) k i with
        | false => rfl
        | true => rw [dn k o ho hb] at hp; cases hp)
      have hbI := bnd (fun k => Nat.blt k i) (fun k hb => blt_of (bef_lt hlow i k hil hb)) (fun k o ho hp => by
        cases hb : bef (ancs ops []) k i with
        | false => rfl
        | true =>
          have h1 := bef_lt hlow k i (List.getElem?_eq_some_iff.1 ho).1 hb
          have h2 := of_blt hp
          omega)
      cases hw : es[i].wanted with
      | false =>
        simp only [Bool.false_eq_true, if_false]
        refine ih _ S _ _ hcnt (I.next hlow hch hcf hoi' hx hun hall (St.le.refl S) I.ext (q' := q) (by
          have : isEff oi es[i] = false := by unfold isEff; split <;> first | exact hw | rfl
          rw [this]; simpa using hq) r (by rw [E.off hw]; exact VR_undef) fun j o ho hk _ hj => I.free j o ho hk hj)
      | true =>
        simp only [if_true]
        left
        cases hk : kindOf oi.op with
        | quiet =>
          have hop := quiet_at C hw hk hc hq1 (E.quiet hw hk) hbI hq hbL
          have hg := xop_sound C hext hcall (mu := mu) r (o := oi) (a := a) (env := es[i].env) s1
          rw [hop] at hg
          refine hg _ _ fun S' x w' k1 k2 k3 => ih _ S' _ _ hcnt (I.next hlow hch hcf hoi' hx hun hall k1.le (I.ext.trans k1) (q' := q) (by
            have : isEff oi es[i] = false := by unfold isEff; rw [hk]
            rw [this]; simpa using hq) k2 k3 fun j o ho hk' _ hj => k1.ph _ (by have := I.sn; have := (List.getElem?_eq_some_iff.1 ho).1; omega) (I.free j o ho hk' hj))
        | eff =>
          rw [ecnt hk] at hq
          have hqq : q1 = q := by rw [hq] at hq1; exact (Option.some.inj hq1).symm
          subst hqq
          have he : isEff oi es[i] = true := by unfold isEff; rw [hk]; exact hw
          have hop := E.eff hw hk
          have hg := xop_sound C hext hcall (mu := mu) r (o := oi) (a := a) (env := es[i].env) s1
          rw [hop] at hg
          refine hg _ _ fun S' x w' k1 k2 k3 => ih _ S' _ _ hcnt (I.next hlow hch hcf hoi' hx hun hall k1.le (I.ext.trans k1) (q' := q1') (by
            rw [he, ecnt hk]; exact hq1' he) k2 k3 fun j o ho hk' _ hj => k1.ph _ (by have := I.sn; have := (List.getElem?_eq_some_iff.1 ho).1; omega) (I.free j o ho hk' hj))
        | alloc =>
          have hobj : ∃ ob, q.t.get (n0 + i) = some ob ∧ allocObj C oi.op = some ob := by
            unfold chkOne at hc
            rw [hw, cond_true, hk] at hc
            simp only at hc
            have h1 := List.all_eq_true.1 hc (cntF (flags ops es) 0 fun k => listed.getD k false) (by rw [List.mem_range']; exact ⟨(cntF (flags ops es) 0 fun k => listed.getD k false) - (cntF (flags ops es) 0 fun j => bef (ancs ops []) i j), by omega, by omega⟩)
            unfold chkAt at h1
            rw [hq, hk] at h1
            simp only at h1
            split at h1 <;> try (cases h1; done)
            rename_i a' b' ha' hb'
            rw [objEq_spec h1] at ha'
            exact ⟨_, ha', hb'⟩
          obtain ⟨ob, hget, hob⟩ := hobj
          have hfree := I.free i oi hoi' hk hun
          have hsn := I.sn
          have hev : isEff oi es[i] = false := by unfold isEff; rw [hk]
          have hv := E.alloc hw hk
          have nxt : ∀ (l : Loc) (y : Value) (w' : World), R w0 B (S.named (n0 + i) l) q.h w' → VR (S.named (n0 + i) l) (allocV oi.op (n0 + i)) y → wpAny C.P .any ops.toArray Q' fuel (listed.setIfInBounds i true) (a.put oi.dst y) w' := fun l y w' hR hV => by
            refine ih _ (S.named (n0 + i) l) _ _ hcnt (I.next hlow hch hcf hoi' hx hun hall (St.le_named hfree) ⟨I.ext.le.trans (St.le_named hfree), fun k hk' hk0 => ?_⟩ (q' := q) (by rw [hev]; simpa using hq) ⟨hR, ?_, r.good⟩ (by rw [hv]; exact hV) fun j o ho hk' hji hj => ?_)
            · rw [St.named_ne (by omega)]; exact I.ext.ph k hk' hk0
            · show max S.n (n0 + i + 1) = q.n
              have := r.n
              omega
            · rw [St.named_ne (by omega)]; exact I.free j o ho hk' hj
          obtain ⟨dst, op, ty, pos, aft, gd⟩ := oi
          simp only at hk hob hv nxt ⊢
          cases op <;> simp only [kindOf] at hk <;> try (cases hk; done)
          · rename_i t
            unfold allocObj at hob
            simp only at hob
            split at hob <;> try (cases hob; done)
            rename_i ti hti
            cases hob
            obtain ⟨z, hz, hfz⟩ := zero_FR C (S := S) (C.htt _ _ hti)
            have hR := r.r.alloc (h' := q.h) (e := t) (arr := z.cells) hfree hfz (get_h hget) (fun _ _ => rfl)
            unfold Oper.wp
            have hrun : (execOp a.eval ⟨dst, .alloc t, ty, pos, aft, gd⟩).run C.P w = .ok (.value (.pointer (some ⟨w.heap.size, 0, none⟩))) (w.alloc (.cells z.cells t)) := by
              simp [execOp, Instr.alloc, hz, run_newVar]
            rw [hrun]
            refine nxt _ _ _ hR ?_
            rw [VR_nonagg rfl]; simp only [FR, allocV]
            exact ⟨⟨_, _, 0, rfl, ⟨_, St.named_μ⟩, by cases ti.zero.shape <;> rfl⟩, by simp⟩
          · rename_i t res
            cases res with
            | some v => simp [isNoneB] at hk
            | none =>
              unfold allocObj at hob
              simp only [Option.some.injEq] at hob
              subst hob
              have hR := R.newMapAt r.r hfree (get_hm hget)
              unfold Oper.wp
              have hrun : (execOp a.eval ⟨dst, .makeMap t none, ty, pos, aft, gd⟩).run C.P w = .ok (.value (.map (some w.heap.size))) (w.alloc (.map #[] 0)) := by
                simp [execOp, Instr.makeMap, newObj]
                rfl
              rw [hrun]
              refine nxt _ _ _ hR ?_
              rw [VR_nonagg rfl]; simp only [FR, allocV]
              exact ⟨⟨_, rfl, St.named_μ⟩, by simp⟩
          · rename_i c
            obtain ⟨callee, args, ts⟩ := c
            cases callee with
            | value f => simp at hk
            | invoke x m => simp at hk
            | builtin b => cases b <;> simp at hk
    · -- the one that panics
      cases fin with
      | done env => have := hfin.1; omega
      | pan v p =>
        obtain ⟨o, x, q2, ho, hk, hwant, henv, hq2, hop, haft⟩ := hfin
        rw [← heq] at ho henv haft
        rw [hoi'] at ho; cases ho
        obtain ⟨s1, s2⟩ := I.sees hlow hch hcf hok hoi' henv hun hall
        rw [xwanted_sound s2 hwant]
        simp only [if_true]
        left
        have hc : cntF (flags ops es) 0 (fun k => listed.getD k false) = cntF (flags ops es) 0 (fun _ => true) := cntF_congr _ 0 fun k hkf => by
          obtain ⟨o', x', ho', hx', he'⟩ := flags_get hkf
          have hkl := (List.getElem?_eq_some_iff.1 hx').1
          rw [Nat.zero_add, eff hk k o' ho' (isEff_kind he').1 (by omega)]
          exact blt_of (by omega)
        rw [hc] at hq
        have hqq : q2 = q := by rw [hq] at hq2; exact (Option.some.inj hq2).symm
        subst hqq
        have hg := xop_sound C hext hcall (mu := mu) r (o := oi) (a := a) (env := x) s1
        rw [hop] at hg
        exact hg _ _ fun S' y w' k1 k2 k3 => hQ x _ _ _ ⟨S', I.ext.trans k1, k2, fun hu => absurd rfl (hu v), I.tn, I.td, ⟨y, rfl, k3⟩⟩
    · -- behind the one that panics: it waits
      exfalso
      cases fin with
      | done env => have := hfin.1; omega
      | pan v p =>
        obtain ⟨o, x, q2, ho, hk, hwant, henv, hq2, hop, haft⟩ := hfin
        have := up es.length (haft i hgt hil)
        have := I.low _ this
        omega
end
end Go.Cl
