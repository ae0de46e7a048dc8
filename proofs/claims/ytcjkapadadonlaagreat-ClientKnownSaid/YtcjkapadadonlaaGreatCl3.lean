/-
  Quiet operations: what they yield in the clean layer, and that the model yields the same.
-/
import Derived.Test.YtcjkapadadonlaaGreatCl2
set_option linter.unusedSimpArgs false
set_option linter.unusedVariables false
namespace Go.Cl
open Go.RowKit

inductive TD where
  | base (u : TypeDesc)
  | st (fs : List (Nat × Nat × TypeId))
  | ar (n esz : Nat) (e : TypeId)

structure TI where
  d : TD
  sh : Shape
  bytes : Nat
  zero : CV

mutual
def flatC : CV → Option (List Value)
  | .sc v => if plain v then some [v] else none
  | .agg l => flatCs l
  | .lst .nil [] => some [.slice none 0 0]
  | _ => none
def flatCs : List CV → Option (List Value)
  | [] => some []
  | v :: l => match flatC v, flatCs l with
    | some a, some b => some (a ++ b)
    | _, _ => none
end

mutual
theorem FR_flatC {S : St} : ∀ (v : CV) (cs : List Value), flatC v = some cs → FR S v cs
  | .sc v, cs, h => by simp [flatC] at h; simp [FR, h.1, h.2]
  | .agg l, cs, h => by simp only [flatC] at h; simp only [FR]; exact FRs_flatCs l cs h
  | .lst .nil [], cs, h => by simp [flatC] at h; simp [FR, ← h, Tail.mayNil]
  | .lst .nil (_ :: _), cs, h => by simp [flatC] at h
  | .lst .exact _, cs, h => by simp [flatC] at h
  | .lst .view _, cs, h => by simp [flatC] at h
  | .lst .part _, cs, h => by simp [flatC] at h
  | .lst (.own _) _, cs, h => by simp [flatC] at h
  | .tup _, cs, h => by simp [flatC] at h
  | .slc _ _ _ _, cs, h => by simp [flatC] at h
  | .ptr _ _, cs, h => by simp [flatC] at h
  | .rptr _, cs, h => by simp [flatC] at h
  | .mapr _, cs, h => by simp [flatC] at h
  | .fn _ _ _, cs, h => by simp [flatC] at h
  | .ifc _ _, cs, h => by simp [flatC] at h
theorem FRs_flatCs {S : St} : ∀ (l : List CV) (cs : List Value), flatCs l = some cs → FRs S l cs
  | [], cs, h => by simp [flatCs] at h; simp [FRs, h]
  | v :: l, cs, h => by
    simp only [flatCs] at h
    cases h1 : flatC v <;> cases h2 : flatCs l <;> simp [h1, h2] at h
    rename_i a b
    simp only [FRs]
    exact ⟨a, b, h.symm, FR_flatC v a h1, FRs_flatCs l b h2⟩
end

def TD.ok (P : Program) (t : TypeId) (sh : Shape) : TD → Prop
  | .base u => P.underlying t = some u ∧ u.isRow = false ∧ sh = .s
  | .st fs => ∃ f shs, P.underlying t = some (.struct f) ∧ f.toList.map (fun x => (x.offset, ((P.info? x.type).map (·.size)).getD 0, x.type)) = fs ∧
      sh = .n shs ∧ shs.length = fs.length ∧ (∀ i x, fs[i]? = some x → x.1 = Shape.sizes (shs.take i) ∧ x.2.1 ≠ 0 ∧ (shs[i]?).map Shape.size = some x.2.1) ∧
      (f.all (fun x => x.name != "_")) = true ∧ P.stoodInHeld t = false ∧ P.eqGuardType P.depth t = false
  | .ar n esz e => ∃ she, P.underlying t = some (.array n e) ∧ (P.info? e).map (·.size) = some esz ∧ sh = .n (List.replicate n she) ∧ she.size = esz ∧ esz ≠ 0 ∧ P.eqGuardType P.depth t = false

def aggB : Value → Bool
  | .agg _ => true
  | _ => false

structure TI.ok (P : Program) (t : TypeId) (ti : TI) : Prop where
  info : ∃ i z, P.info? t = some i ∧ i.size = ti.sh.size ∧ i.bytes = ti.bytes ∧ i.zero = some z ∧ flatC ti.zero = some z.cells.toList
  zsh : ti.zero.shape = ti.sh
  good : ti.sh.good = true
  zagg : ((P.info? t).bind (·.zero)).map aggB = some ti.zero.isAgg
  d : ti.d.ok P t ti.sh

structure Ctx where
  P : Program
  mixed : P.follows .mixedOrders = true
  tt : TypeId → Option TI
  htt : ∀ t ti, tt t = some ti → ti.ok P t

abbrev Env := Nat → CV

def ER (S : St) (env : Env) (tmps : Array Value) : Prop := ∀ t x, tmps[t]? = some x → VR S (env t) x

def ofConst : Value → CV
  | .slice none 0 0 => .lst .nil []
  | v => .sc v

def okConst : Value → Bool
  | .slice none 0 0 => true
  | v => plain v

def ev (env : Env) : Operand → CV
  | .tmp t => env t
  | .const v => ofConst v
  | .global _ => .tup []
  | .func f => .fn f [] []

def okOpd (n : Nat) : Operand → Bool
  | .tmp t => Nat.blt t n
  | .const v => okConst v
  | .global _ => false
  | .func _ => true

theorem plain_cells {x : Value} (h : plain x = true) : x.cells.toList = [x] ∧ ∀ c, x ≠ .agg c := by
  cases x <;> first | exact ⟨rfl, fun _ e => by cases e⟩ | (simp [plain] at h)

theorem VR_sc {S : St} {v x : Value} : VR S (.sc v) x ↔ x = v ∧ plain v = true := by
  simp only [VR, FR, CV.isAgg]
  constructor
  · rintro ⟨⟨h1, h2⟩, h3⟩
    refine ⟨?_, h2⟩
    cases x <;> simp [Value.cells] at h1 h3 <;> first | exact h1 | skip
  · rintro ⟨rfl, h2⟩
    exact ⟨⟨(plain_cells h2).1, h2⟩, by simpa using (plain_cells h2).2⟩

theorem VR_nonagg {S : St} {v : CV} {x : Value} (h : v.isAgg = false) : VR S v x ↔ FR S v [x] ∧ ∀ c, x ≠ .agg c := by
  simp only [VR, h]
  constructor
  · rintro ⟨h1, h2⟩
    have : ∀ c, x ≠ .agg c := fun c e => by simp at h2; exact h2 c e
    refine ⟨?_, this⟩
    cases x <;> simp [Value.cells] at h1 <;> first | exact h1 | skip
    exact absurd rfl (this _)
  · rintro ⟨h1, h2⟩
    refine ⟨?_, by simpa using h2⟩
    cases x <;> simp [Value.cells] <;> first | exact h1 | skip
    exact absurd rfl (h2 _)

theorem VR_agg {S : St} {l : List CV} {x : Value} : VR S (.agg l) x ↔ ∃ c, x = .agg c ∧ FRs S l c.toList := by
  simp only [VR, CV.isAgg, FR]
  constructor
  · rintro ⟨h1, h2⟩
    obtain ⟨c, rfl⟩ := h2.2 trivial
    exact ⟨c, rfl, h1⟩
  · rintro ⟨c, rfl, h⟩
    exact ⟨h, ⟨fun _ => trivial, fun _ => ⟨c, rfl⟩⟩⟩

theorem VR_ofConst {S : St} {v : Value} (h : okConst v = true) : VR S (ofConst v) v := by
  unfold ofConst
  split
  · rw [VR_nonagg rfl]; exact ⟨by simp [FR, Tail.mayNil], by simp⟩
  · rename_i h1
    rw [VR_sc]
    refine ⟨rfl, ?_⟩
    unfold okConst at h
    split at h
    · exact absurd rfl h1
    · exact h

theorem VR_fn0 {S : St} {f : FuncId} : VR S (.fn f [] []) (.func (.func f) #[] #[]) := by
  rw [VR_nonagg rfl]; exact ⟨⟨[], [], by simp, by simp [VRs], by simp [VRs]⟩, by simp⟩

theorem ER.eval {S : St} {env : Env} {a : Act} (h : ER S env a.tmps) {x : Operand} (hx : okOpd a.tmps.size x = true) : VR S (ev env x) (a.eval x) := by
  cases x with
  | tmp t =>
    have ht : t < a.tmps.size := by simpa [okOpd] using hx
    have : a.tmps.getD t undef = a.tmps[t] := by simp [ht]
    show VR S (env t) (a.tmps.getD t undef)
    rw [this]
    exact h t _ (by simp [ht])
  | const v => exact VR_ofConst hx
  | global g => simp [okOpd] at hx
  | func f => exact VR_fn0

theorem ER.mono {S S' : St} (h : S.le S') {env : Env} {tmps : Array Value} (k : ER S env tmps) : ER S' env tmps := fun t x ht => VR.mono h (k t x ht)

def put (env : Env) (d : Option Tmp) (v : CV) : Env :=
  match d with
  | some t => fun k => if k = t then v else env k
  | none => env

theorem ER.put {S : St} {env : Env} {a : Act} (h : ER S env a.tmps) {d : Option Tmp} {v : CV} {x : Value} (hv : VR S v x) : ER S (Cl.put env d v) (a.put d x).tmps := by
  cases d with
  | none => exact h
  | some t =>
    intro k y hk
    simp only [Act.put] at hk
    simp only [Cl.put]
    by_cases e : k = t
    · subst e
      rw [Array.getElem?_setIfInBounds] at hk
      simp at hk
      obtain ⟨_, rfl⟩ := hk
      simpa using hv
    · rw [if_neg e]
      rw [Array.getElem?_setIfInBounds_ne (fun h => e h.symm)] at hk
      exact h k y hk

/-- What lies where a pointer leads. -/
def tgt (h : Heap) : CV → Option CV
  | .ptr i p => match h i with
    | some (.var v) => v.at p
    | _ => none
  | .rptr v => some v
  | _ => none

theorem Shape.off_append : ∀ (p : List Nat) (sh s' : Shape) (q : List Nat), sh.sub p = some s' → sh.off (p ++ q) = (sh.off p).bind fun a => (s'.off q).map (a + ·)
  | [], sh, s', q, h => by
    simp [Shape.sub] at h; subst h
    cases sh <;> cases q <;> simp [Shape.off]
  | i :: p, .n l, s', q, h => by
    simp only [Shape.sub] at h
    simp only [List.cons_append, Shape.off]
    cases hl : l[i]? with
    | none => simp [hl] at h
    | some x =>
      simp [hl] at h
      show Option.map _ (x.off (p ++ q)) = (Option.map _ (x.off p)).bind _
      rw [Shape.off_append p x s' q h]
      cases x.off p <;> simp
      cases s'.off q <;> simp [Nat.add_assoc]
  | i :: p, .s, s', q, h => by simp [Shape.sub] at h
  | i :: p, .t, s', q, h => by simp [Shape.sub] at h

theorem CV.sub_at : ∀ (p : List Nat) (v x : CV), v.at p = some x → v.shape.sub p = some x.shape
  | [], v, x, h => by simp [CV.at] at h; subst h; cases v.shape <;> simp [Shape.sub]
  | i :: p, v, x, h => by
    cases v <;> simp only [CV.at] at h <;> try (cases h; done)
    rename_i l
    cases hl : l[i]? with
    | none => simp [hl] at h
    | some y =>
      simp [hl] at h
      simp only [CV.shape, Shape.sub, CV.shapes_eq]
      simp [hl, CV.sub_at p y x h]

theorem CV.at_append : ∀ (p : List Nat) (v x : CV) (q : List Nat), v.at p = some x → v.at (p ++ q) = x.at q
  | [], v, x, q, h => by simp [CV.at] at h; subst h; rfl
  | i :: p, v, x, q, h => by
    cases v <;> simp only [CV.at] at h <;> try (cases h; done)
    rename_i l
    cases hl : l[i]? with
    | none => simp [hl] at h
    | some y =>
      simp [hl] at h
      simp only [List.cons_append, CV.at, hl]
      exact CV.at_append p y x q h

/-- A pointer's cells, wherever it leads. -/
theorem tgt_spec {w0 : World} {B : Nat} {S : St} {h : Heap} {w : World} (r : R w0 B S h w) {a : CV} {x : Value} {v : CV} (ha : VR S a x) (hv : tgt h a = some v) :
    ∃ b o c, x = .pointer (some ⟨b, o, none⟩) ∧ FR S v c ∧ w.rangeAt b o c := by
  cases a <;> simp only [tgt] at hv <;> try (cases hv; done)
  · rename_i i p
    rw [VR_nonagg rfl] at ha
    simp only [FR] at ha
    obtain ⟨⟨rb, sh, o, hx, ⟨tot, hμ⟩, ho⟩, _⟩ := ha
    cases hx
    cases hi : h i with
    | none => simp [hi] at hv
    | some obj =>
      cases obj <;> simp [hi] at hv
      obtain ⟨c, h1, h2⟩ := r.load hi hμ hv ho
      exact ⟨rb, o, c, rfl, h1, h2⟩
  · rename_i y
    rw [VR_nonagg rfl] at ha
    simp only [FR] at ha
    obtain ⟨⟨b, o, es, hx, h1, h2⟩, _⟩ := ha
    cases hx
    cases hv
    exact ⟨b, o, es, rfl, h1, r.lies h2⟩

section ops
variable (C : Ctx)

def qload (h : Heap) (t : TypeId) (a : CV) : Option CV :=
  match tgt h a, C.tt t with
  | some v, some ti => if v.shape = ti.sh then some v else none
  | _, _ => none

theorem isAgg_shape (v : CV) : v.isAgg = true ↔ ∃ l, v.shape = .n l := by cases v <;> simp [CV.isAgg, CV.shape]

theorem good_not_row {sh : Shape} (h : sh.good = true) (hn : ¬ ∃ l, sh = .n l) : sh = .s := by
  cases sh with
  | s => rfl
  | t => simp [Shape.good] at h
  | n l => exact absurd ⟨l, rfl⟩ hn

theorem TI.row {P : Program} {t : TypeId} {ti : TI} (h : ti.ok P t) : ∃ d, P.underlying t = some d ∧ (d.isRow = true ↔ ∃ l, ti.sh = .n l) := by
  have hd := h.d
  cases hk : ti.d with
  | base u => rw [hk] at hd; exact ⟨u, hd.1, by rw [hd.2.1, hd.2.2]; simp⟩
  | st fs => rw [hk] at hd; obtain ⟨f, shs, h1, _, h2, _⟩ := hd; exact ⟨_, h1, by rw [h2]; simp [TypeDesc.isRow]⟩
  | ar n esz e => rw [hk] at hd; obtain ⟨she, h1, _, h2, _⟩ := hd; exact ⟨_, h1, by rw [h2]; simp [TypeDesc.isRow]⟩

theorem run_isAgg_of {P : Program} {t : TypeId} {d : TypeDesc} (h : P.underlying t = some d) (w : World) : (isAgg t).run P w = .ok d.isRow w := by
  unfold isAgg
  rw [Sem.run_bind, run_underlying h w]
  cases d <;> rfl

/-- One variable is read. -/
theorem run_loadVar_VR {S : St} {w : World} {t : TypeId} {ti : TI} (h : ti.ok C.P t) {v : CV} {b o : Nat} {c : List Value} (hc : FR S v c) (hr : w.rangeAt b o c) (hs : v.shape = ti.sh) :
    ∃ x, (loadVar t ⟨b, o, none⟩).run C.P w = .ok x w ∧ VR S v x := by
  obtain ⟨d, hu, hrow⟩ := TI.row h
  obtain ⟨i, z, hi, hsz, _⟩ := h.info
  have hl := FR.length _ _ hc
  simp only [CV.size, hs] at hl
  by_cases hd : d.isRow = true
  · refine ⟨.agg c.toArray, run_loadVar_mid w b o t c d hr hu hd (by simp [hi, hsz, hl]), ?_⟩
    have : v.isAgg = true := by rw [isAgg_shape, hs]; exact hrow.1 hd
    cases v <;> simp [CV.isAgg] at this
    rw [VR_agg]; exact ⟨_, rfl, by simpa [FR] using hc⟩
  · have hd' : d.isRow = false := by simpa using hd
    have hsh : ti.sh = .s := good_not_row h.good (fun hl => hd (hrow.2 hl))
    have hna : v.isAgg = false := by
      cases hh : v.isAgg with
      | false => rfl
      | true => obtain ⟨l, hl⟩ := (isAgg_shape v).1 hh; rw [hs, hsh] at hl; cases hl
    rw [hsh] at hl
    obtain ⟨x, rfl⟩ : ∃ x, c = [x] := by
      match c, hl with
      | [x], _ => exact ⟨x, rfl⟩
      | [], h => simp [Shape.size] at h
      | _ :: _ :: _, h => simp [Shape.size] at h
    have h0 : w.cell? ⟨b, o, none⟩ = some x := by simpa using hr 0 x rfl
    refine ⟨x, by simp [loadVar, run_isAgg_of hu w, hd', h0], ?_⟩
    rw [VR_nonagg hna]
    refine ⟨hc, fun cc e => ?_⟩
    subst e
    cases v <;> simp [FR, CV.isAgg] at hc hna
    obtain ⟨rfl, hp⟩ := hc
    simp [plain] at hp

theorem qload_sound {w0 : World} {B : Nat} {S : St} {h : Heap} {w : World} (r : R w0 B S h w) {t : TypeId} {a v : CV} {x : Value} (ha : VR S a x) (hv : qload C h t a = some v) :
    ∃ y, (Instr.loadAt t x).run C.P w = .ok y w ∧ VR S v y := by
  unfold qload at hv
  cases h1 : tgt h a <;> cases h2 : C.tt t <;> simp [h1, h2] at hv
  rename_i u ti
  obtain ⟨hs, rfl⟩ := hv
  obtain ⟨b, o, c, rfl, hc, hr⟩ := tgt_spec r ha h1
  obtain ⟨y, hy, hvr⟩ := run_loadVar_VR C (C.htt _ _ h2) hc hr hs
  exact ⟨y, by simp [Instr.loadAt, Instr.sureAddr, hy], hvr⟩

def qfieldAddr (h : Heap) (s : TypeId) (a : CV) (f : Nat) : Option CV :=
  match C.tt s, tgt h a with
  | some ⟨.st _, sh, _, _⟩, some (.agg l) =>
    if CV.shape (.agg l) = sh then
      match l[f]?, a with
      | some _, .ptr i p => some (.ptr i (p ++ [f]))
      | some x, .rptr _ => some (.rptr x)
      | _, _ => none
    else none
  | _, _ => none

theorem shapes_get {l : List CV} {i : Nat} {x : CV} (h : l[i]? = some x) : (CV.shapes l)[i]? = some x.shape := by rw [CV.shapes_eq]; simp [h]

theorem qfieldAddr_sound {w0 : World} {B : Nat} {S : St} {h : Heap} {w : World} (r : R w0 B S h w) {s f : Nat} {a v : CV} {x : Value} (ha : VR S a x) (hv : qfieldAddr C h s a f = some v) :
    ∃ y, (Instr.fieldAt s x f).run C.P w = .ok y w ∧ VR S v y := by
  unfold qfieldAddr at hv
  split at hv <;> try (cases hv; done)
  rename_i fs sh by_ ze l h1 h2
  split at hv <;> try (cases hv; done)
  rename_i hsh
  have hok := C.htt _ _ h1
  obtain ⟨flds, shs, hu, hfs, hsn, hlen, hoffs, _⟩ := hok.d
  simp only at hsn
  subst hsn
  simp only [CV.shape, Shape.n.injEq] at hsh
  obtain ⟨b, o, c, rfl, hc, hr⟩ := tgt_spec r ha h2
  cases hl : l[f]? with
  | none => simp [hl] at hv
  | some y =>
    have hshf := shapes_get hl
    rw [hsh] at hshf
    have hf : f < fs.length := by rw [← hlen]; exact (List.getElem?_eq_some_iff.1 hshf).1
    have hff : fs[f]? = some fs[f] := by simp [hf]
    obtain ⟨ho, hz, hsz⟩ := hoffs f _ hff
    have hfs' : f < flds.size := by rw [← hfs] at hf; simpa using hf
    obtain ⟨fld, hfld⟩ : ∃ fld, flds[f]? = some fld := ⟨flds[f], by simp [hfs']⟩
    have hpair : fs[f]? = some (fld.offset, ((C.P.info? fld.type).map (·.size)).getD 0, fld.type) := by
      rw [← hfs, List.getElem?_map, Array.getElem?_toList, hfld]; rfl
    rw [hff] at hpair
    have hpair := Option.some.inj hpair
    rw [hpair] at ho hz hsz
    simp only at ho hz hsz
    have hsize : (sizeOf fld.type).run C.P w = .ok (((C.P.info? fld.type).map (·.size)).getD 0) w := by
      cases hq : C.P.info? fld.type with
      | none => simp [hq] at hz
      | some i => simp [sizeOf, typeInfo, hq]
    have hrun : (Instr.fieldAt s (.pointer (some ⟨b, o, none⟩)) f).run C.P w = .ok (.pointer (some ⟨b, o + fld.offset, none⟩)) w := by
      simp [Instr.fieldAt, run_underlying hu, hfld, Instr.sureAddr, fieldPlace, hsize, hz, Addr.add_mid]
    refine ⟨_, hrun, ?_⟩
    rw [hl] at hv
    cases a <;> simp only at hv <;> try (cases hv; done)
    · rename_i i p
      cases hv
      rw [VR_nonagg rfl] at ha ⊢
      simp only [FR] at ha ⊢
      obtain ⟨⟨rb, sh0, o0, hx, ⟨tot, hμ⟩, ho0⟩, _⟩ := ha
      cases hx
      refine ⟨⟨b, sh0, o + fld.offset, rfl, ⟨tot, hμ⟩, ?_⟩, by simp⟩
      simp only [tgt] at h2
      cases hi : h i with
      | none => simp [hi] at h2
      | some obj =>
        cases obj <;> simp [hi] at h2
        rename_i ov
        have hl0 := (r.live i _ _ hi hμ).1.1
        have hsub := CV.sub_at p _ _ h2
        rw [hl0] at hsub
        rw [Shape.off_append p sh0 _ [f] hsub, ho0]
        simp only [CV.shape, Shape.off, Option.bind_some]
        rw [hsh, hshf]
        simp [← ho]
    · rename_i z
      simp only [tgt, Option.some.injEq] at h2
      subst h2
      cases hv
      rw [VR_nonagg rfl] at ha ⊢
      simp only [FR] at ha ⊢
      obtain ⟨⟨b0, o0, es, hx, hes, hlies⟩, _⟩ := ha
      cases hx
      obtain ⟨pre, cc, post, rfl, hpre, hy, _⟩ := FRs.focus l es f y hes hl
      rw [hsh] at hpre
      refine ⟨⟨b, o + fld.offset, cc, rfl, hy, fun j u hu => ?_⟩, by simp⟩
      have := hlies (pre.length + j) u (by
        rw [List.append_assoc, List.getElem?_append_right (by omega), List.getElem?_append_left (by have := (List.getElem?_eq_some_iff.1 hu).1; omega)]
        simpa using hu)
      rw [hpre, ← ho] at this
      rw [← this]; congr 1; omega
end ops
end Go.Cl
