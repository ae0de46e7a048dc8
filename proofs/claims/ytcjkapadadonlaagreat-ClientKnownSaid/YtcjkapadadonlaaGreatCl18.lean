/-
  Regions that draw their order, continued: the model's run.
-/
import Derived.Test.YtcjkapadadonlaaGreatCl17
set_option linter.unusedSimpArgs false
set_option linter.unusedVariables false
namespace Go.Cl
open Go.RowKit

def mask (n k : Nat) : Array Bool := (List.replicate k true ++ List.replicate (n - k) false).toArray

section chk
variable (ops : List Oper)
def lowB : Bool := ops.zipIdx.all fun (p : Oper × Nat) => p.1.after.toList.all fun e => !Region.binds .any e || Nat.blt e.on p.2
def waits : Nat → Nat → Nat → Bool
  | 0, _, _ => false
  | f + 1, j, i => match ops[j]? with
    | some o => o.after.toList.any fun e => Region.binds .any e && (Nat.beq e.on i || waits f e.on i)
    | none => false
def drawOk (m : Nat) : Bool :=
  Nat.ble m ops.length && lowB ops && lexM ops m m 0 (Array.replicate ops.length false) && ((List.range' m (ops.length - m)).all fun j => (List.range m).all fun i => waits ops 8 j i) &&
  (List.range' m (ops.length - m)).all fun k => Region.ready .any ops.toArray (mask ops.length k) == [k]

structure Down (listed : Array Bool) : Prop where
  size : listed.size = ops.length
  down : ∀ j o, listed.getD j false = true → ops[j]? = some o → ∀ e ∈ o.after, Region.binds .any e = true → listed.getD e.on false = true

theorem waits_listed {listed : Array Bool} (hd : Down ops listed) : ∀ (f j i : Nat) (o : Oper), ops[j]? = some o → (∀ e ∈ o.after, Region.binds .any e = true → listed.getD e.on false = true) → waits ops f j i = true → listed.getD i false = true
  | 0, _, _, _, _, _, h => by simp [waits] at h
  | f + 1, j, i, o, ho, hall, h => by
    simp only [waits, ho, List.any_eq_true, Bool.and_eq_true, Bool.or_eq_true] at h
    obtain ⟨e, he, hb, h⟩ := h
    have hl := hall e (by simpa using he) hb
    rcases h with h | h
    · have : e.on = i := Nat.eq_of_beq_eq_true h
      rw [← this]; exact hl
    · have hlt : e.on < ops.length := by
        rw [← hd.size]
        rcases Nat.lt_or_ge e.on listed.size with h' | h'
        · exact h'
        · simp [Array.getElem?_eq_none h'] at hl
      have ho' : ops[e.on]? = some ops[e.on] := by simp [hlt]
      exact waits_listed hd f e.on i _ ho' (fun e' he' hb' => hd.down e.on _ hl ho' e' he' hb') h
end chk

section draw
variable (C : Ctx)

def preAlloc : Nat → List Oper → (Nat → Option Nat) → Heap → ((Nat → Option Nat) → Heap → Prop) → Prop
  | _, [], al, h, K => K al h
  | k, o :: l, al, h, K => match o.op with
    | .alloc t => match C.tt t with
      | some ti => ∀ i, h i = none → preAlloc (k + 1) l (fun j => if j = k then some i else al j) (upd h i (some (.var ti.zero))) K
      | none => False
    | _ => preAlloc (k + 1) l al h K

/-- The clean rule for a region that draws its order. -/
def cdraw : Draws := fun ops Q env h => ∃ m, drawOk ops m = true ∧ preAlloc C 0 (ops.take m) (fun _ => none) h fun al h1 => walkQ C ops al h1 (fun env' => cwpOps C ops Q (ops.drop m) env' h1) 0 (ops.take m) env

theorem preAlloc_inst {n0 : Nat} : ∀ (l : List Oper) (k : Nat) (al : Nat → Option Nat) (h : Heap) (K : (Nat → Option Nat) → Heap → Prop), (∀ i, n0 + k ≤ i → h i = none) → preAlloc C k l al h K →
    ∃ al' h', K al' h' ∧ (∀ j, j < k → al' j = al j) ∧ (∀ i, (i < n0 + k ∨ n0 + k + l.length ≤ i) → h' i = h i) ∧
      (∀ j o t, l[j]? = some o → o.op = .alloc t → ∃ ti, C.tt t = some ti ∧ al' (k + j) = some (n0 + k + j) ∧ h' (n0 + k + j) = some (.var ti.zero))
  | [], k, al, h, K, _, hp => ⟨al, h, hp, fun _ _ => rfl, fun _ _ => rfl, fun j o t hj => by simp at hj⟩
  | o :: l, k, al, h, K, hf, hp => by
    simp only [preAlloc] at hp
    split at hp
    · rename_i t hop
      split at hp <;> try (exact hp.elim)
      rename_i ti hti
      have hp := hp (n0 + k) (hf _ (Nat.le_refl _))
      obtain ⟨al', h', k1, k2, k3, k4⟩ := preAlloc_inst (n0 := n0) l (k + 1) _ _ K (fun i hi => by rw [upd_ne _ _ (by omega)]; exact hf i (by omega)) hp
      refine ⟨al', h', k1, fun j hj => by rw [k2 j (by omega), if_neg (by omega)], fun i hi => ?_, fun j o' t' hj ho' => ?_⟩
      · simp only [List.length_cons] at hi
        rw [k3 i (by omega), upd_ne _ _ (by omega)]
      · cases j with
        | zero =>
          simp at hj; subst hj
          rw [hop] at ho'; cases ho'
          refine ⟨ti, hti, ?_, ?_⟩
          · rw [Nat.add_zero, k2 k (by omega), if_pos rfl]; rfl
          · rw [Nat.add_zero, k3 (n0 + k) (by omega), upd_same]
        | succ j =>
          obtain ⟨ti', m1, m2, m3⟩ := k4 j o' t' (by simpa using hj) ho'
          refine ⟨ti', m1, ?_, ?_⟩
          · rw [show k + (j + 1) = k + 1 + j by omega, m2]; congr 1; omega
          · rw [show n0 + k + (j + 1) = n0 + (k + 1) + j by omega, m3]
    · rename_i hne
      obtain ⟨al', h', k1, k2, k3, k4⟩ := preAlloc_inst (n0 := n0) l (k + 1) al h K (fun i hi => hf i (by omega)) hp
      refine ⟨al', h', k1, fun j hj => k2 j (by omega), fun i hi => ?_, fun j o' t' hj ho' => ?_⟩
      · simp only [List.length_cons] at hi
        exact k3 i (by omega)
      · cases j with
        | zero => simp at hj; subst hj; exact absurd ho' (hne t')
        | succ j =>
          obtain ⟨ti', m1, m2, m3⟩ := k4 j o' t' (by simpa using hj) ho'
          refine ⟨ti', m1, ?_, ?_⟩
          · rw [show k + (j + 1) = k + 1 + j by omega, m2]; congr 1; omega
          · rw [show n0 + k + (j + 1) = n0 + (k + 1) + j by omega, m3]

theorem getD_false_of {listed : Array Bool} {j : Nat} (h : listed.getD j false = false) (hj : j < listed.size) : listed.getD j true = false := by simpa [hj] using h

theorem down_set {ops : List Oper} {listed : Array Bool} (hd : Down ops listed) {i : Nat} {o : Oper} (hi : ops[i]? = some o) (hall : ∀ e ∈ o.after, Region.binds .any e = true → listed.getD e.on false = true) : Down ops (listed.setIfInBounds i true) where
  size := by simpa using hd.size
  down j oj hj ho e he hb := by
    by_cases hji : j = i
    · subst hji
      rw [hi] at ho; cases ho
      exact getD_set_true (hall e he hb)
    · rw [getD_set_ne false (Ne.symm hji)] at hj
      exact getD_set_true (hd.down j oj hj ho e he hb)

variable {w0 : World} {B : Nat} {ops : List Oper} {Q : CPost} {ds : List Deferred} {n : Nat} {Q' : Exit → Act → World → Prop} {S0 : St}

/-- One order from here on. -/
theorem tail_sim (hok : ops.all (okOper n) = true) (hQ : ∀ e a w, Post w0 B S0 n ds Q e a w → Q' e a w) {m : Nat} (hseq : ∀ k, m ≤ k → k < ops.length → Region.ready .any ops.toArray (mask ops.length k) = [k]) :
    ∀ (l : List Oper) (k : Nat) (fuel : Nat) (S : St) (env : Env) (h : Heap) (a : Act) (w : World), m ≤ k → ops.drop k = l → k + l.length = ops.length → l.length ≤ fuel → S0.ext S → R w0 B S h w → ER S env a.tmps → a.tmps.size = n → a.defers = ds →
      cwpOps C ops Q l env h → wpAny C.P .any ops.toArray Q' fuel (mask ops.length k) a w
  | [], k, fuel, S, env, h, a, w, hmk, hl, hkl, hfu, hS, r, he, hn, hd, hc => by
    have hk : k = ops.length := by simpa using hkl
    have hr : Region.ready .any ops.toArray (mask ops.length k) = [] := by
      unfold Region.ready
      rw [List.filter_eq_nil_iff]
      intro i hi
      have : i < ops.length := by simpa using hi
      simp [mask, hk, this]
    have hq : Q' .normal a w := hQ _ _ _ ⟨S, .normal, env, h, hS, r, he, hn, hd, trivial, hc⟩
    cases fuel with
    | zero => exact ⟨hr, hq⟩
    | succ f => exact ⟨fun _ => hq, fun i hi => by rw [hr] at hi; cases hi⟩
  | o :: l, k, fuel, S, env, h, a, w, hmk, hl, hkl, hfu, hS, r, he, hn, hd, hc => by
    have hkk : ops[k]? = some o := by
      have := congrArg (·[0]?) hl
      simpa using this
    have hl' : ops.drop (k + 1) = l := by rw [← List.tail_drop, hl]; rfl
    have hlt : k < ops.length := (List.getElem?_eq_some_iff.1 hkk).1
    simp only [List.length_cons] at hfu hkl
    obtain ⟨f, rfl⟩ : ∃ f, fuel = f + 1 := ⟨fuel - 1, by omega⟩
    have hr := hseq k hmk hlt
    have hset : (mask ops.length k).setIfInBounds k true = mask ops.length (k + 1) := by
      apply Array.ext'
      unfold mask
      rw [Array.toList_setIfInBounds]
      simp only
      rw [List.set_append_right _ _ (by simp)]
      simp only [List.length_replicate, Nat.sub_self]
      rw [show ops.length - k = (ops.length - (k + 1)) + 1 by omega, List.replicate_succ, List.set_cons_zero, List.replicate_succ']
      simp
    refine ⟨fun h0 => (by rw [hr] at h0; cases h0), fun i hi => ?_⟩
    rw [hr] at hi
    have : i = k := by simpa using hi
    subst this
    rw [hset]
    unfold wpOp
    simp only [List.getElem?_toArray, hkk]
    simp only [cwpOps] at hc
    have hoo := List.all_eq_true.1 hok o (List.mem_of_getElem? hkk)
    split at hc <;> try (exact hc.elim)
    · rename_i hw
      rw [cwanted_sound he (by rw [hn]; exact hok) hw]
      simp only [if_true]
      left
      have hg := cop_sound C r (o := o) (a := a) (ρ := ev env) (fun x hx => he.eval (by
        rw [hn]
        unfold okOper at hoo
        simp only [Bool.and_eq_true] at hoo
        exact List.all_eq_true.1 hoo.2 x hx)) hc
      refine hg _ _ (fun S' v h' x w' k1 k2 k3 k4 => ?_) (fun S' v h' x w' k1 k2 k3 k4 => ?_)
      · exact tail_sim hok hQ hseq l (i + 1) f S' _ h' _ w' (by omega) hl' (by omega) (by omega) (hS.trans k1) k2 ((he.mono k1.le).put k3) (by rw [put_size]; exact hn) (by rw [put_defers]; exact hd) k4
      · exact hQ _ _ _ ⟨S', .pan v, env, h', hS.trans k1, k2, he.mono k1.le, hn, hd, ⟨x, rfl, k3⟩, k4⟩
    · rename_i hw
      rw [cwanted_sound he (by rw [hn]; exact hok) hw]
      simp only [Bool.false_eq_true, if_false]
      exact tail_sim hok hQ hseq l (i + 1) f S _ h _ w (by omega) hl' (by omega) (by omega) hS r (he.put VR_undef) (by rw [put_size]; exact hn) (by rw [put_defers]; exact hd) hc

structure DInv (C : Ctx) (w0 : World) (B : Nat) (ops : List Oper) (ds : List Deferred) (n : Nat) (S0 : St) (al : Nat → Option Nat) (h1 : Heap) (m n0 : Nat) (listed : Array Bool) (S : St) (env : Env) (a : Act) (w : World) : Prop where
  ext : S0.ext S
  hn0 : S0.n = n0
  r : R w0 B S h1 w
  er : ER S env a.tmps
  tn : a.tmps.size = n
  td : a.defers = ds
  sn : n0 + m ≤ S.n
  down : Down ops listed
  high : ∀ j, m ≤ j → j < ops.length → listed.getD j false = false
  free : ∀ j, j < m → listed.getD j false = false → S.μ (n0 + j) = none
  al : ∀ j o t, j < m → ops[j]? = some o → o.op = .alloc t → ∃ ti, C.tt t = some ti ∧ al j = some (n0 + j) ∧ h1 (n0 + j) = some (.var ti.zero)

/-- The quiet beginning, in whatever order. -/
theorem any_sim (hok : ops.all (okOper n) = true) (hQ : ∀ e a w, Post w0 B S0 n ds Q e a w → Q' e a w) {m n0 : Nat} (hm : m ≤ ops.length) (hlow : lowB ops = true) (hwait : ∀ j i, m ≤ j → j < ops.length → i < m → waits ops 8 j i = true)
    (hseq : ∀ k, m ≤ k → k < ops.length → Region.ready .any ops.toArray (mask ops.length k) = [k]) {al : Nat → Option Nat} {h1 : Heap} :
    ∀ (fq : Nat) (listed : Array Bool) (S : St) (env : Env) (a : Act) (w : World) (fuel : Nat), fq + (ops.length - m) ≤ fuel → DInv C w0 B ops ds n S0 al h1 m n0 listed S env a w →
      anyQ C ops al h1 m (fun env' => cwpOps C ops Q (ops.drop m) env' h1) fq listed env → wpAny C.P .any ops.toArray Q' fuel listed a w := by
  -- all of the beginning is done where none of it is ready
  have done : ∀ (listed : Array Bool), Down ops listed → readyM ops m listed = [] → ∀ j, j < m → listed.getD j false = true := by
    intro listed hd hr j
    induction j using Nat.strongRecOn with
    | _ j ih =>
      intro hj
      cases hv : listed.getD j false with
      | true => rfl
      | false =>
        have ho : ops[j]? = some ops[j] := by simp [show j < ops.length by omega]
        have : j ∈ readyM ops m listed := by
          rw [mem_readyM, mem_ready]
          refine ⟨⟨getD_false_of hv (by rw [hd.size]; omega), ops[j], by simp [show j < ops.length by omega], fun e he hb => ?_⟩, hj⟩
          have h2 := List.all_eq_true.1 hlow (ops[j], j) (by rw [List.mem_zipIdx_iff_getElem?]; simp [show j < ops.length by omega])
          have h3 := List.all_eq_true.1 h2 e (by simpa using he)
          simp only [hb, Bool.not_true, Bool.false_or] at h3
          have h4 : e.on < j := by simpa using h3
          exact ih e.on h4 (by omega)
        rw [hr] at this; cases this
  have tail : ∀ (listed : Array Bool) (S : St) (env : Env) (a : Act) (w : World) (fuel : Nat), ops.length - m ≤ fuel → DInv C w0 B ops ds n S0 al h1 m n0 listed S env a w → readyM ops m listed = [] →
      cwpOps C ops Q (ops.drop m) env h1 → wpAny C.P .any ops.toArray Q' fuel listed a w := by
    intro listed S env a w fuel hf I hr hc
    have hl : listed = mask ops.length m := by
      have hall := done listed I.down hr
      apply Array.ext
      · rw [I.down.size]; simp [mask]; omega
      · intro j h1 h2
        have h1' := h1
        rw [I.down.size] at h1
        have hmk : (mask ops.length m)[j] = decide (j < m) := by
          have : (mask ops.length m)[j]? = some (decide (j < m)) := by
            unfold mask
            rw [List.getElem?_toArray]
            by_cases hj : j < m
            · rw [List.getElem?_append_left (by simpa using hj)]; simp [hj]
            · rw [List.getElem?_append_right (by simp; omega)]; rw [List.getElem?_replicate, if_pos (by simp; omega)]; simp [hj]
          rw [Array.getElem?_eq_getElem h2] at this
          exact Option.some.inj this
        rw [hmk]
        by_cases hj : j < m
        · have := hall j hj
          simp [h1'] at this
          simp [this, hj]
        · have := I.high j (by omega) h1
          simp [h1'] at this
          simp [this, hj]
    rw [hl]
    exact tail_sim C hok hQ hseq (ops.drop m) m fuel S env h1 a w (Nat.le_refl _) rfl (by simp; omega) (by simp; omega) I.ext I.r I.er I.tn I.td hc
  intro fq
  induction fq with
  | zero => intro listed S env a w fuel hf I hq; exact tail listed S env a w fuel (by omega) I hq.1 hq.2
  | succ fq ih =>
    intro listed S env a w fuel hf I hq
    by_cases hr : readyM ops m listed = []
    · exact tail listed S env a w fuel (by omega) I hr (hq.1 hr)
    · obtain ⟨f, rfl⟩ : ∃ f, fuel = f + 1 := ⟨fuel - 1, by omega⟩
      have hsub : ∀ i, i ∈ Region.ready .any ops.toArray listed → i < m := by
        intro i hi
        rcases Nat.lt_or_ge i m with h | h
        · exact h
        · obtain ⟨hiu, oi, hoi, hall⟩ := mem_ready.1 hi
          have hoi' : ops[i]? = some oi := by simpa using hoi
          have hil : i < ops.length := (List.getElem?_eq_some_iff.1 hoi').1
          obtain ⟨j, hj⟩ := List.exists_mem_of_ne_nil _ hr
          obtain ⟨hj1, hj2⟩ := (mem_readyM ops).1 hj
          have hju := (mem_ready.1 hj1).1
          have := waits_listed ops I.down 8 i j oi hoi' hall (hwait i j h hil hj2)
          have hjs : j < listed.size := by rw [I.down.size]; omega
          simp [hjs] at hju this
          rw [hju] at this; cases this
      refine ⟨fun h0 => ?_, fun i hi => ?_⟩
      · obtain ⟨j, hj⟩ := List.exists_mem_of_ne_nil _ hr
        have := ((mem_readyM ops).1 hj).1
        rw [h0] at this; cases this
      · have him := hsub i hi
        have hst := hq.2 i ((mem_readyM ops).2 ⟨hi, him⟩)
        obtain ⟨hiu, oi, hoi, hall⟩ := mem_ready.1 hi
        have hoi' : ops[i]? = some oi := by simpa using hoi
        have hil : i < ops.length := (List.getElem?_eq_some_iff.1 hoi').1
        have hdown' := down_set I.down hoi' hall
        have hhigh' : ∀ j, m ≤ j → j < ops.length → (listed.setIfInBounds i true).getD j false = false := fun j h1 h2 => by rw [getD_set_ne false (by omega)]; exact I.high j h1 h2
        have hun : ∀ j, j < m → (listed.setIfInBounds i true).getD j false = false → j ≠ i ∧ listed.getD j false = false := fun j hj hv => by
          have hji : j ≠ i := fun e => by
            subst e
            simp [I.down.size, hil] at hv
          exact ⟨hji, by rw [getD_set_ne false (Ne.symm hji)] at hv; exact hv⟩
        have hiun : listed.getD i false = false := by simpa [I.down.size, hil] using hiu
        have hoo := List.all_eq_true.1 hok oi (List.mem_of_getElem? hoi')
        unfold wpOp
        simp only [List.getElem?_toArray, hoi']
        unfold qstep at hst
        simp only [hoi'] at hst
        split at hst <;> try (exact hst.elim)
        · rename_i hw
          rw [cwanted_sound I.er (by rw [I.tn]; exact hok) hw]
          simp only [if_true]
          left
          split at hst
          · rename_i t hop
            split at hst <;> try (exact hst.elim)
            rename_i id hid
            obtain ⟨ti, hti, hal, hh1⟩ := I.al i oi t him hoi' hop
            rw [hal] at hid; cases hid
            obtain ⟨z, hz, hfz⟩ := zero_FR C (S := S) (C.htt _ _ hti)
            have hfree := I.free i him hiun
            have hr' := I.r.alloc (h' := h1) (e := t) (arr := z.cells) hfree hfz hh1 (fun _ _ => rfl)
            unfold Oper.wp
            have hrun : (execOp a.eval oi).run C.P w = .ok (.value (.pointer (some ⟨w.heap.size, 0, none⟩))) (w.alloc (.cells z.cells t)) := by
              simp [execOp, hop, Instr.alloc, hz, run_newVar]
            rw [hrun]
            refine ih _ (S.named (n0 + i) (.var w.heap.size ti.zero.shape z.cells.size)) _ _ _ f (by omega) ?_ hst
            refine ⟨⟨I.ext.le.trans (St.le_named hfree), fun k hk hk0 => ?_⟩, I.hn0, hr', (I.er.mono (St.le_named hfree)).put ?_, by rw [put_size]; exact I.tn, by rw [put_defers]; exact I.td, Nat.le_trans I.sn (St.le_named hfree).n, hdown', hhigh', fun j hj hv => ?_, I.al⟩
            · rw [St.named_ne (by have := I.hn0; omega)]; exact I.ext.ph k hk hk0
            · rw [VR_nonagg rfl]; simp only [FR]
              exact ⟨⟨_, _, 0, rfl, ⟨_, St.named_μ⟩, by cases ti.zero.shape <;> rfl⟩, by simp⟩
            · obtain ⟨h1, h2⟩ := hun j hj hv
              rw [St.named_ne (by omega)]; exact I.free j hj h2
          · obtain ⟨v, hv, hk⟩ := hst
            have hg := cop_sound C I.r (o := oi) (a := a) (ρ := ev env) (fun x hx => I.er.eval (by
              rw [I.tn]
              unfold okOper at hoo
              simp only [Bool.and_eq_true] at hoo
              exact List.all_eq_true.1 hoo.2 x hx)) (hv (fun v' h' => v' = v ∧ h' = h1) (fun _ _ => False) ⟨rfl, rfl⟩)
            refine hg _ _ (fun S' v' h' x w' k1 k2 k3 k4 => ?_) (fun S' v h' x w' k1 k2 k3 k4 => k4.elim)
            obtain ⟨rfl, rfl⟩ := k4
            refine ih _ S' _ _ _ f (by omega) ?_ hk
            exact ⟨I.ext.trans k1, I.hn0, k2, (I.er.mono k1.le).put k3, by rw [put_size]; exact I.tn, by rw [put_defers]; exact I.td, Nat.le_trans I.sn k1.le.n, hdown', hhigh', fun j hj hv => by
              obtain ⟨h1, h2⟩ := hun j hj hv
              exact k1.ph _ (by have := I.sn; omega) (I.free j hj h2), I.al⟩
        · rename_i hw
          rw [cwanted_sound I.er (by rw [I.tn]; exact hok) hw]
          simp only [Bool.false_eq_true, if_false]
          refine ih _ S _ _ _ f (by omega) ?_ hst
          exact ⟨I.ext, I.hn0, I.r, I.er.put VR_undef, by rw [put_size]; exact I.tn, by rw [put_defers]; exact I.td, I.sn, hdown', hhigh', fun j hj hv => I.free j hj (hun j hj hv).2, I.al⟩

theorem cdraw_sound : DSound C (cdraw C) := by
  intro w0 B id ops Q ds n S env h a w Q' hok r he hn hd hQ hc
  obtain ⟨m, hdo, hp⟩ := hc
  simp only [drawOk, Bool.and_eq_true] at hdo
  obtain ⟨⟨⟨⟨hm, hlow⟩, hlex⟩, hwait⟩, hseq⟩ := hdo
  have hm : m ≤ ops.toList.length := Nat.le_of_ble_eq_true hm
  obtain ⟨al, h1, hwalk, _, hsame, hal⟩ := preAlloc_inst C (n0 := S.n) (ops.toList.take m) 0 _ h _ (fun i hi => (r.fresh i (by omega)).2) hp
  have hlen : (ops.toList.take m).length = m := by rw [List.length_take]; omega
  rw [hlen] at hsame
  let S1 : St := { S with n := S.n + m }
  have hext : S.ext S1 := ⟨⟨fun _ _ _ h => h, fun _ _ h => h, Nat.le_add_right _ _⟩, fun _ _ h => h⟩
  have hlt : ∀ i loc, S.μ i = some loc → i < S.n := fun i loc hi => by
    rcases Nat.lt_or_ge i S.n with h | h
    · exact h
    · rw [(r.fresh i h).1] at hi; cases hi
  have r1 : R w0 B S1 h1 w := by
    refine ⟨r.below, r.size, r.kcell, fun i hi => ?_, fun i obj loc k1 k2 => ?_, fun i j oi oj li lj hij k1 k2 k3 k4 => ?_⟩
    · have hi : S.n + m ≤ i := hi
      exact ⟨(r.fresh i (by omega)).1, by rw [hsame i (by omega)]; exact (r.fresh i (by omega)).2⟩
    · have := hlt i loc k2
      rw [hsame i (by omega)] at k1
      have k := r.live i obj loc k1 k2
      exact ⟨k.1.mono hext.le rfl (fun _ h => h), k.2⟩
    · have a1 := hlt i li k3
      have a2 := hlt j lj k4
      rw [hsame i (by omega)] at k1
      rw [hsame j (by omega)] at k2
      exact r.inj i j oi oj li lj hij k1 k2 k3 k4
  refine wp_region_any C.mixed ?_
  have hops : ops.toList.toArray = ops := by simp
  have hwaits : ∀ j i, m ≤ j → j < ops.toList.length → i < m → waits ops.toList 8 j i = true := fun j i hj hjl hi => by
    have h1 := List.all_eq_true.1 hwait j (by rw [List.mem_range']; exact ⟨j - m, by omega, by omega⟩)
    exact List.all_eq_true.1 h1 i (by simpa using hi)
  have hseq' : ∀ k, m ≤ k → k < ops.toList.length → Region.ready .any ops.toList.toArray (mask ops.toList.length k) = [k] := fun k hk hkl => by
    have h1 := List.all_eq_true.1 hseq k (by rw [List.mem_range']; exact ⟨k - m, by omega, by omega⟩)
    simpa using h1
  have hany := anyQ_lex C ops.toList al h1 (m := m) (Q := fun env' => cwpOps C ops.toList Q (ops.toList.drop m) env' h1) (ops.toList.take m) 0 (Array.replicate ops.toList.length false) env
    (fun j o hj => by
      rw [Nat.zero_add]
      have hjm : j < m := by have := (List.getElem?_eq_some_iff.1 hj).1; omega
      rwa [List.getElem?_take_of_lt hjm] at hj) (by rw [hlen]; exact hlex) hwalk
  rw [hlen] at hany
  have := any_sim C (S0 := S) hok hQ hm hlow hwaits hseq' m (Array.replicate ops.toList.length false) S1 env a { w with drawn := w.drawn + 1 } ops.size (by simp; simp at hm; omega)
    ⟨hext, rfl, r1.drew, he.mono hext.le, hn, hd, Nat.le_refl _, ⟨by simp, fun j o hj => by
      exfalso
      simp [Array.getElem?_replicate] at hj
      by_cases hjs : j < ops.size <;> simp [hjs] at hj⟩, fun j _ hj => by simp at hj; simp [hj], fun j hj _ => (r.fresh _ (Nat.le_add_right _ _)).1, fun j o t hj ho hop => by
      have hjt : (ops.toList.take m)[j]? = some o := by rw [List.getElem?_take_of_lt hj]; exact ho
      obtain ⟨ti, m1, m2, m3⟩ := hal j o t hjt hop
      exact ⟨ti, m1, by simpa using m2, by simpa using m3⟩⟩ hany
  simpa using this
end draw
end Go.Cl
