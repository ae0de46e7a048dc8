/-
  The clean weakest precondition of code, and that the model's follows from it.
-/
import Derived.Test.YtcjkapadadonlaaGreatCl11
set_option linter.unusedSimpArgs false
set_option linter.unusedVariables false
namespace Go.Cl
open Go.RowKit

/-- How a piece of code ends. -/
inductive CExit where
  | normal
  | exit (id : Nat)
  | ret
  | pan (v : CV)

def ExitR (S : St) : CExit → Exit → Prop
  | .normal, .normal => True
  | .exit i, .exit j => i = j
  | .ret, .ret => True
  | .pan v, .panic chain => ∃ x, chain = [⟨x, false, false⟩] ∧ VR S v x
  | _, _ => False

abbrev CPost := CExit → Env → Heap → Prop

/-- What a slice that is made for writing has. -/
def cmake (C : Ctx) (h : Heap) (t : TypeId) (l c : CV) (K : CV → Heap → Prop) : Prop :=
  match C.tt t, l, c with
  | some ⟨.base (.slice e), _, _, _⟩, .sc (.int .i64 n), .sc (.int .i64 m) =>
    match C.tt e with
    | some te => n = m ∧ 0 ≤ n ∧ n ≤ 9223372036854775807 ∧ te.sh.size ≠ 0 ∧ te.bytes * n.toNat ≤ 281474976710656 ∧
        ∀ i, h i = none → K (.slc i [] 0 n.toNat) (upd h i (some (.var (.agg (List.replicate n.toNat te.zero)))))
    | none => False
  | _, _, _ => False

def quietly (C : Ctx) (o : Op) (ρ : Operand → CV) (h : Heap) (K : CV → Heap → Prop) : Prop :=
  match qop C ρ h o with
  | some v => K v h
  | none => False

/-- One operation. -/
theorem run_equalIn_nil {P : Program} {t e : TypeId} (ht : P.underlying t = some (.slice e)) (D : Nat) (b : Option Addr) (n c : Nat) (w : World) : (Op.equalIn (D + 1) t (.slice b n c) (.slice none 0 0)).run P w = .ok b.isNone w := by
  cases b <;> simp [Op.equalIn, run_underlying ht]
theorem run_equal_nil {P : Program} {t e : TypeId} (ht : P.underlying t = some (.slice e)) (b : Option Addr) (n c : Nat) (w : World) : (Op.equal t (.slice b n c) (.slice none 0 0)).run P w = .ok b.isNone w :=
  run_equalIn_nil ht 9999 b n c w
theorem run_eql_nil {P : Program} {t e : TypeId} (ht : P.underlying t = some (.slice e)) (b : Option Addr) (n c : Nat) (ox oy : Operand) (w : World) :
    (do eqGuard .eql t ox oy (.slice b n c) (.slice none 0 0); binOp .eql t (.slice b n c) (.slice none 0 0) : Sem Value).run P w = .ok (.bool b.isNone) w := by
  have hg : (eqGuard .eql t ox oy (.slice b n c) (.slice none 0 0)).run P w = .ok () w := rfl
  simp only [Sem.run_bind, hg, Result.andThen_ok]
  simp [binOp, run_equal_nil ht]
theorem run_neq_nil {P : Program} {t e : TypeId} (ht : P.underlying t = some (.slice e)) (b : Option Addr) (n c : Nat) (ox oy : Operand) (w : World) :
    (do eqGuard .neq t ox oy (.slice b n c) (.slice none 0 0); binOp .neq t (.slice b n c) (.slice none 0 0) : Sem Value).run P w = .ok (.bool (!b.isNone)) w := by
  have hg : (eqGuard .neq t ox oy (.slice b n c) (.slice none 0 0)).run P w = .ok () w := rfl
  simp only [Sem.run_bind, hg, Result.andThen_ok]
  simp [binOp, run_equal_nil ht]
/-- A slice against the constant nil: an empty one may be nil or not. -/
def nilCmp (C : Ctx) (op : BinOp) (t : TypeId) (y : Operand) (v : CV) (h : Heap) (K : CV → Heap → Prop) : Prop :=
  y = .const (.slice none 0 0) ∧ (∃ e sh by_ ze, C.tt t = some ⟨.base (.slice e), sh, by_, ze⟩) ∧ (op = .eql ∨ op = .neq) ∧ ∃ tl l, v = .lst tl l ∧ (l = [] → ∀ b, K (.sc (.bool b)) h) ∧ (l ≠ [] → K (.sc (.bool (op == .neq))) h)

def cop (C : Ctx) (o : Op) (ρ : Operand → CV) (h : Heap) (K : CV → Heap → Prop) (Kp : CV → Heap → Prop) : Prop :=
  match o with
  | .alloc t => match C.tt t with
    | some ti => ∀ i, h i = none → K (.ptr i []) (upd h i (some (.var ti.zero)))
    | none => False
  | .box t x => match C.tt t with
    | some ti => (ρ x).shape = ti.sh ∧ ∀ i, h i = none → K (.ptr i []) (upd h i (some (.var (ρ x))))
    | none => False
  | .store t a x => match C.tt t, ρ a with
    | some ti, .ptr i p => match h i with
      | some (.var v) => (∃ y, v.at p = some y ∧ y.shape = ti.sh) ∧ (ρ x).shape = ti.sh ∧ K (.tup []) (upd h i (some (.var (v.set p (ρ x)))))
      | _ => False
    | _, _ => False
  | .panic x => match ρ x with
    | .ifc t v => Kp (.ifc t v) h
    | _ => False
  | .call ⟨.value f, args, _⟩ => match ρ f with
    | .fn g first cap => ∃ spec, Ok C g spec ∧ spec (first ++ args.toList.map ρ ++ cap) h fun out h' => match out with
      | .ret v => K v h'
      | .pan v => Kp v h'
    | _ => False
  | .call ⟨.builtin .append, args, ts⟩ => quietly C (.call ⟨.builtin .append, args, ts⟩) ρ h K ∨ match args.toList, ts.toList with
    | [b, x], [t, tx] => cappend C h t tx (ρ b) (ρ x) K
    | _, _ => False
  | .makeSlice t l c => quietly C (.makeSlice t l c) ρ h K ∨ cmake C h t (ρ l) (ρ c) K
  | .binOp op t x y yt => quietly C (.binOp op t x y yt) ρ h K ∨ nilCmp C op t y (ρ x) h K
  | o => quietly C o ρ h K

section ops
variable (C : Ctx)

/-- The model's operation goes on as the clean one does. -/
def Goes (w0 : World) (B : Nat) (S : St) (K Kp : CV → Heap → Prop) (o : Oper) (a : Act) (w : World) : Prop :=
  ∀ (next : Act → World → Prop) (Q : Exit → Act → World → Prop),
    (∀ S' v h' x w', S.ext S' → R w0 B S' h' w' → VR S' v x → K v h' → next (a.put o.dst x) w') →
    (∀ S' v h' x w', S.ext S' → R w0 B S' h' w' → VR S' v x → Kp v h' → Q (.panic [⟨x, false, false⟩]) a w') → o.wp C.P a w next Q

theorem Goes.quiet {w0 : World} {B : Nat} {S : St} {h : Heap} {w : World} (r : R w0 B S h w) {K Kp : CV → Heap → Prop} {o : Oper} {a : Act} {ρ : Operand → CV} (hρ : ∀ x ∈ o.op.operands.toList, VR S (ρ x) (a.eval x))
    (hv : quietly C o.op ρ h K) : Goes C w0 B S K Kp o a w := by
  intro next Q hn _
  unfold quietly at hv
  split at hv <;> try (exact hv.elim)
  rename_i v hq
  obtain ⟨y, w', S', h1, h2, h3, h4, h5, h6⟩ := qop_sound C r hρ hq
  unfold Oper.wp
  rw [h1]
  exact hn S' v h y w' ⟨h2, fun i hi h0 => by rw [h3]; exact h0⟩ h5 h6 hv

theorem run_newVar (w : World) (t : TypeId) (v : Value) : (newVar t v).run C.P w = .ok ⟨w.heap.size, 0, none⟩ (w.alloc (.cells v.cells t)) := by
  simp [newVar, newRow]

theorem Goes.alloc {w0 : World} {B : Nat} {S : St} {h : Heap} {w : World} (r : R w0 B S h w) {K Kp : CV → Heap → Prop} {o : Oper} {a : Act} {v : CV} {x : Value} {t : TypeId} (hv : FR S v x.cells.toList)
    (hrun : (execOp a.eval o).run C.P w = .ok (.value (.pointer (some ⟨w.heap.size, 0, none⟩))) (w.alloc (.cells x.cells t))) (hk : ∀ i, h i = none → K (.ptr i []) (upd h i (some (.var v)))) : Goes C w0 B S K Kp o a w := by
  intro next Q hn _
  have hf := r.fresh S.n (Nat.le_refl _)
  have hr := r.alloc (h' := upd h S.n (some (.var v))) (e := t) hf.1 hv (upd_same _ _ _) (fun j hj => upd_ne _ _ hj)
  unfold Oper.wp
  rw [hrun]
  refine hn _ _ _ _ _ (St.ext_named (Nat.le_refl _) hf.1) hr ?_ (hk S.n hf.2)
  rw [VR_nonagg rfl]; simp only [FR]
  exact ⟨⟨_, _, 0, rfl, ⟨_, St.named_μ⟩, by cases v.shape <;> rfl⟩, by simp⟩

theorem zero_FR {S : St} {t : TypeId} {ti : TI} (h : ti.ok C.P t) : ∃ z, (∀ w, (zeroValue t).run C.P w = .ok z w) ∧ FR S ti.zero z.cells.toList := by
  obtain ⟨i, z, hi, _, _, hz, hfz⟩ := h.info
  exact ⟨z, fun w => run_zeroValue hi hz w, FR_flatC _ _ hfz⟩

theorem run_storeVar_VR {S : St} {w : World} {t : TypeId} {ti : TI} (h : ti.ok C.P t) {v : CV} {x : Value} {b o : Nat} (hv : VR S v x) (hs : v.shape = ti.sh) (ht : w.there b o x.cells.toList.length) :
    (storeVar t ⟨b, o, none⟩ x).run C.P w = .ok () (w.setCells b o x.cells.toList) := by
  obtain ⟨i, z, hi, hsz, _⟩ := h.info
  have hl := VR.cells_length hv
  rw [CV.size, hs] at hl
  have hone := FR.one _ _ hv.1 (by rw [hs]; exact h.good)
  have hst := run_storeCells_cells (P := C.P) b o x.cells.toList 0 w (fun j hj => by simpa using (ht j hj).1) (fun j hj => by simpa using (ht j hj).2) hone
  simp only [Nat.add_zero] at hst
  simp [storeVar, sizeOf, typeInfo, hi, hl, hsz, hst]

theorem exec_builtin (ρ' : Operand → Value) (b : Builtin) (args : Array Operand) (ts : Array TypeId) (dst : Option Tmp) (ty : TypeId) (pos : String) (aft : Array Edge) (gd : Option (Nat × Bool)) :
    ∃ cs, execOp ρ' ⟨dst, .call ⟨.builtin b, args, ts⟩, ty, pos, aft, gd⟩ = builtin b ts ty cs (args.map ρ') := ⟨_, rfl⟩

theorem run_callFunc {P : Program} {f : FuncId} {fn : Func} {args : Array Value} {w : World} (h1 : P.funcs[f]? = some fn) (h2 : fn.body.isNone = false) (h3 : (fn.name == "runtime.NumGoroutine") = false) :
    (callFunc f args).run P w = .ok (.enter f args) w := by
  simp only [callFunc, Sem.run_bind, run_program, Result.andThen_ok, h1, h2, h3, Bool.false_eq_true, if_false, Sem.run_pure]

theorem cop_sound {w0 : World} {B : Nat} {S : St} {h : Heap} {w : World} (r : R w0 B S h w) {K Kp : CV → Heap → Prop} {o : Oper} {a : Act} {ρ : Operand → CV} (hρ : ∀ x ∈ o.op.operands.toList, VR S (ρ x) (a.eval x))
    (hv : cop C o.op ρ h K Kp) : Goes C w0 B S K Kp o a w := by
  obtain ⟨dst, op, ty, pos, aft, gd⟩ := o
  simp only at hρ hv
  unfold cop at hv
  split at hv <;> try (exact hv.elim)
  all_goals try (exact Goes.quiet C r hρ hv)
  · -- alloc
    rename_i t
    split at hv <;> try (exact hv.elim)
    rename_i ti hti
    obtain ⟨z, hz, hfz⟩ := zero_FR C (S := S) (C.htt _ _ hti)
    exact Goes.alloc C r (x := z) (t := t) hfz (by simp [execOp, Instr.alloc, hz, run_newVar]) hv
  · -- box
    rename_i t x
    split at hv <;> try (exact hv.elim)
    rename_i ti hti
    have hx := hρ x (by simp [Op.operands])
    exact Goes.alloc C r (x := a.eval x) (t := t) hx.1 (by simp [execOp, Instr.box, run_newVar]) hv.2
  · -- store
    rename_i t p x
    split at hv <;> try (exact hv.elim)
    rename_i ti i pth hti hp
    split at hv <;> try (exact hv.elim)
    rename_i v hi
    obtain ⟨⟨y, hy, hys⟩, hxs, hk⟩ := hv
    have hpv := hρ p (by simp [Op.operands])
    have hx := hρ x (by simp [Op.operands])
    rw [hp] at hpv
    rw [VR_nonagg rfl] at hpv; simp only [FR] at hpv
    obtain ⟨⟨rb, sh, o, hpe, ⟨tot, hμ⟩, ho⟩, _⟩ := hpv
    have hpe := (List.cons.inj hpe).1
    obtain ⟨hr', hthere⟩ := r.store hi hμ hy ho hx.1 (by rw [hxs, hys])
    intro next Q hn _
    unfold Oper.wp
    have hrun : (execOp a.eval ⟨dst, .store t p x, ty, pos, aft, gd⟩).run C.P w = .ok .skip (w.setCells rb o (a.eval x).cells.toList) := by
      simp [execOp, hpe, Instr.storeAt, Instr.sureAddr, run_storeVar_VR C (C.htt _ _ hti) hx hxs hthere]
    rw [hrun]
    exact hn S _ _ undef _ (St.ext.refl _) hr' (by rw [VR_nonagg rfl]; exact ⟨by simp [FR, VRs, undef], by simp [undef]⟩) hk
  · -- panic
    rename_i x
    split at hv <;> try (exact hv.elim)
    rename_i t v hx
    have hxv := hρ x (by simp [Op.operands])
    rw [hx] at hxv
    have hxv' := hxv
    rw [VR_nonagg rfl] at hxv'; simp only [FR] at hxv'
    obtain ⟨⟨z, hxe, _⟩, _⟩ := hxv'
    have hxe := (List.cons.inj hxe).1
    intro next Q _ hp
    unfold Oper.wp
    have hrun : (execOp a.eval ⟨dst, .panic x, ty, pos, aft, gd⟩).run C.P w = .halt (.panic (a.eval x)) w := by
      simp [execOp, hxe, Instr.panic]
    rw [hrun]
    exact hp S _ h _ w (St.ext.refl _) r hxv hv
  · -- call
    rename_i f args ts
    split at hv <;> try (exact hv.elim)
    rename_i g first cap hf
    obtain ⟨spec, hok, hsp⟩ := hv
    have hfv := hρ f (by simp [Op.operands, Call.operands])
    rw [hf] at hfv
    rw [VR_nonagg rfl] at hfv; simp only [FR] at hfv
    obtain ⟨⟨us, vs, hfe, hus, hvs⟩, _⟩ := hfv
    have hfe := (List.cons.inj hfe).1
    have hargs := VRs_map (S := S) (ρ := ρ) (ρ' := a.eval) args.toList (fun x hx => hρ x (by simp [Op.operands, Call.operands]; right; simpa using hx))
    have hall : VRs S (first ++ args.toList.map ρ ++ cap) (us ++ args.toList.map a.eval ++ vs) := by
      refine VRs_of _ _ ?_ ?_
      · simp [(VRs_get _ _ hus).1, (VRs_get _ _ hvs).1]
      · intro i v x h1 h2
        have l1 := (VRs_get _ _ hus).1
        have l2 := (VRs_get _ _ hargs).1
        rw [List.append_assoc] at h1 h2
        by_cases c1 : i < first.length
        · rw [List.getElem?_append_left c1] at h1
          rw [List.getElem?_append_left (by omega)] at h2
          exact (VRs_get _ _ hus).2 i v x h1 h2
        · rw [List.getElem?_append_right (by omega)] at h1 h2
          rw [l1] at h1
          by_cases c2 : i - us.length < (args.toList.map ρ).length
          · rw [List.getElem?_append_left c2] at h1
            rw [List.getElem?_append_left (by omega)] at h2
            exact (VRs_get _ _ hargs).2 _ v x h1 h2
          · rw [List.getElem?_append_right (by omega)] at h1 h2
            rw [l2] at h1
            exact (VRs_get _ _ hvs).2 _ v x h1 h2
    intro next Q hn hp
    unfold Oper.wp
    have hcall := hok.2 w0 B S h w _ _ _ r hall hsp
    obtain ⟨fn, hfn, hbody, hname⟩ := hok.1
    have hrun : (execOp a.eval ⟨dst, .call ⟨.value f, args, ts⟩, ty, pos, aft, gd⟩).run C.P w = .ok (.enter g (us ++ args.toList.map a.eval ++ vs).toArray) w := by
      have hargs' : us.toArray ++ args.map a.eval ++ vs.toArray = (us ++ args.toList.map a.eval ++ vs).toArray := by
        apply Array.ext'; simp
      simp only [execOp, resolve, hfe, Deferred.ofValue, Sem.run_bind, Sem.run_pure, Result.andThen_ok, invoke, hargs']
      exact run_callFunc hfn hbody hname
    rw [hrun]
    simp only [Oper.upon_enter]
    refine hcall.mono fun e w' hh => ?_
    obtain ⟨S', out, h', k1, k2, k3, k4⟩ := hh
    cases out with
    | ret v =>
      cases e <;> simp only [OutR] at k3
      exact hn S' v h' _ w' k1 k2 k3 k4
    | pan v =>
      cases e <;> simp only [OutR] at k3
      obtain ⟨x, rfl, k3⟩ := k3
      exact hp S' v h' x w' k1 k2 k3 k4
  · -- append
    rename_i args ts
    rcases hv with hv | hv
    · exact Goes.quiet C r hρ hv
    · split at hv <;> try (exact hv.elim)
      rename_i b x t tx ha ht
      have h1 := hρ b (by simp [Op.operands, Call.operands]; rw [← Array.mem_toList_iff, ha]; simp)
      have h2 := hρ x (by simp [Op.operands, Call.operands]; rw [← Array.mem_toList_iff, ha]; simp)
      obtain ⟨y, w', S', v, h', k1, k2, k3, k4, k5⟩ := cappend_sound C r (ty := ty) h1 h2 hv
      intro next Q hn _
      unfold Oper.wp
      obtain ⟨cs, hexec⟩ := exec_builtin a.eval .append args ts dst ty pos aft gd
      have hargs : args.map a.eval = #[a.eval b, a.eval x] := by apply Array.ext'; simp [ha]
      have hts : ts = #[t, tx] := by apply Array.ext'; rw [ht]
      rw [hexec, hargs, hts]
      simp only [builtin, Sem.run_bind, k1, Result.andThen_ok, Sem.run_pure]
      exact hn S' v h' y w' k2 k3 k4 k5
  · -- a slice that is made for writing
    rename_i t l c
    rcases hv with hv | hv
    · exact Goes.quiet C r hρ hv
    · have hl := hρ l (by simp [Op.operands])
      have hc := hρ c (by simp [Op.operands])
      unfold cmake at hv
      split at hv <;> try (exact hv.elim)
      rename_i e sh by_ ze n m h1 e1 e2
      split at hv <;> try (exact hv.elim)
      rename_i te h2
      obtain ⟨rfl, h0, hn, hnz, hb, hk⟩ := hv
      rw [e1] at hl; rw [e2] at hc
      have hl := (VR_sc.1 hl).1
      have hc := (VR_sc.1 hc).1
      have hte := C.htt _ _ h2
      obtain ⟨i, z, hi, hisz, hby, hz, hfz⟩ := hte.info
      have hFz : FR S te.zero z.cells.toList := FR_flatC _ _ hfz
      have hzs : z.cells.size = te.sh.size := by rw [← Array.length_toList, FR.length _ _ hFz, CV.size, hte.zsh]
      have hrun := run_makeSlice (w := w) (C.htt _ _ h1).d.1 hi hz (by rw [hisz, hzs]) h0 hn (by rw [hby]; exact hb)
      have hf := r.fresh S.n (Nat.le_refl _)
      have hr := r.alloc (h' := upd h S.n (some (.var (.agg (List.replicate n.toNat te.zero))))) (e := e) (arr := (List.replicate n.toNat z.cells.toList).flatten.toArray) hf.1 (by simp only [FR]; simpa using FRs_replicate hFz n.toNat) (upd_same _ _ _) (fun j hj => upd_ne _ _ hj)
      intro next Q hn' _
      unfold Oper.wp
      have hexec : (execOp a.eval ⟨dst, .makeSlice t l c, ty, pos, aft, gd⟩).run C.P w = .ok (.value (.slice (some ⟨w.heap.size, 0, none⟩) n.toNat n.toNat)) (w.alloc (.cells (List.replicate n.toNat z.cells.toList).flatten.toArray e)) := by
        simp only [execOp, hl, hc, Sem.run_bind, hrun, Result.andThen_ok, Sem.run_pure]
      rw [hexec]
      refine hn' _ _ _ _ _ (St.ext_named (Nat.le_refl _) hf.1) hr ?_ (hk S.n hf.2)
      rw [VR_nonagg rfl]; simp only [FR]
      refine ⟨⟨w.heap.size, _, CV.shapes (List.replicate n.toNat te.zero), 0, n.toNat, by simp [Shape.sizes], ⟨_, St.named_μ, fun _ _ => ⟨by simp [CV.shapes_eq], te.sh.size, fun x hx => ?_, ?_⟩⟩, by simp [CV.shape, Shape.sub], by simp [CV.shape, Shape.off], Nat.le_refl _, ?_⟩, by simp⟩
      · rw [CV.shapes_eq, List.map_replicate] at hx
        rw [List.eq_of_mem_replicate hx, hte.zsh]
      · have hl := FR.length _ _ hFz
        rw [CV.size, hte.zsh] at hl
        simp [hl]
      · simp [CV.shapes_eq]
  · -- a slice against nil
    rename_i op t x y yt
    rcases hv with hv | hv
    · exact Goes.quiet C r hρ hv
    · obtain ⟨rfl, ⟨e, sh, by_, ze, ht⟩, hop, tl, l, hx, h0, h1⟩ := hv
      have hu := (C.htt _ _ ht).d.1
      have hxv := hρ x (by simp [Op.operands])
      rw [hx] at hxv
      have hval : ∃ (b : Option Addr) (n c : Nat), a.eval x = .slice b n c ∧ (l ≠ [] → b.isNone = false) := by
        have k := (VR_nonagg rfl).1 hxv
        simp only [FR] at k
        rcases k.1 with ⟨hl0, _, k2⟩ | ⟨b, off, cap, sz, es, k2, _⟩
        · exact ⟨none, 0, 0, (List.cons.inj k2).1, fun q => absurd hl0 q⟩
        · exact ⟨_, _, _, (List.cons.inj k2).1, fun _ => rfl⟩
      obtain ⟨b, n, c, hb, hnb⟩ := hval
      intro next Q hn' _
      unfold Oper.wp
      have hb' : ∀ q : Bool, (l ≠ [] → q = (op == .neq)) → K (.sc (.bool q)) h := fun q hq => by
        by_cases hl : l = []
        · exact h0 hl q
        · rw [hq hl]; exact h1 hl
      rcases hop with rfl | rfl
      · have hexec : (execOp a.eval ⟨dst, .binOp .eql t x (.const (.slice none 0 0)) yt, ty, pos, aft, gd⟩).run C.P w = .ok (.value (.bool b.isNone)) w := by
          have hrun := run_eql_nil hu b n c x (.const (.slice none 0 0)) w
          have hx : execOp a.eval ⟨dst, .binOp .eql t x (.const (.slice none 0 0)) yt, ty, pos, aft, gd⟩ = (do pure (.value (← (do eqGuard .eql t x (.const (.slice none 0 0)) (a.eval x) (.slice none 0 0); binOp .eql t (a.eval x) (.slice none 0 0) : Sem Value)))) := rfl
          rw [hx, hb, Sem.run_bind, hrun]
          rfl
        rw [hexec]
        exact hn' S _ h _ w (St.ext.refl _) r (VR_sc.2 ⟨rfl, rfl⟩) (hb' _ fun q => by rw [hnb q]; rfl)
      · have hexec : (execOp a.eval ⟨dst, .binOp .neq t x (.const (.slice none 0 0)) yt, ty, pos, aft, gd⟩).run C.P w = .ok (.value (.bool (!b.isNone))) w := by
          have hrun := run_neq_nil hu b n c x (.const (.slice none 0 0)) w
          have hx : execOp a.eval ⟨dst, .binOp .neq t x (.const (.slice none 0 0)) yt, ty, pos, aft, gd⟩ = (do pure (.value (← (do eqGuard .neq t x (.const (.slice none 0 0)) (a.eval x) (.slice none 0 0); binOp .neq t (a.eval x) (.slice none 0 0) : Sem Value)))) := rfl
          rw [hx, hb, Sem.run_bind, hrun]
          rfl
        rw [hexec]
        exact hn' S _ h _ w (St.ext.refl _) r (VR_sc.2 ⟨rfl, rfl⟩) (hb' _ fun q => by rw [hnb q]; rfl)
end ops
end Go.Cl
