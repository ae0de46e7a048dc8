/-
  An interpreter over clean values: maps are written; slices against nil; bytes and strings.
-/
import Derived.Test.YtcjkapadadonlaaGreatY7
set_option linter.unusedSimpArgs false
set_option linter.unusedVariables false
namespace Go.Cl
open Go.RowKit

section
variable (C : Ctx)

theorem Entries.set {S : St} {l : List (CV × CV)} {es : Array MapEntry} (he : Entries S l es.toList) {j : Nat} {kv v : CV} {f : MapEntry → MapEntry} (hf : ∀ e, VR S kv (f e).key ∧ VR S v (f e).val) : Entries S (l.set j (kv, v)) (es.modify j f).toList := by
  refine ⟨by have := he.1; simpa using this, fun i x e h1 h2 => ?_⟩
  rw [Array.getElem?_toList, Array.getElem?_modify] at h2
  by_cases hij : j = i
  · subst hij
    rw [if_pos rfl] at h2
    have hx : x = (kv, v) := by
      rw [List.getElem?_set] at h1
      split at h1
      · split at h1
        · exact (Option.some.inj h1).symm
        · cases h1
      · rename_i h; exact absurd rfl h
    subst hx
    cases hes : es[j]? with
    | none => simp [hes] at h2
    | some e0 => simp [hes] at h2; subst h2; exact hf e0
  · rw [if_neg hij] at h2
    rw [List.getElem?_set_ne hij] at h1
    exact he.2 i x e h1 (by rw [Array.getElem?_toList]; exact h2)

theorem Entries.push {S : St} {l : List (CV × CV)} {es : Array MapEntry} (he : Entries S l es.toList) {kv v : CV} {e : MapEntry} (hk : VR S kv e.key) (hv : VR S v e.val) : Entries S (l ++ [(kv, v)]) (es.push e).toList := by
  have hl := he.1
  refine ⟨by simp [hl], fun i x e' h1 h2 => ?_⟩
  rw [Array.toList_push] at h2
  rcases Nat.lt_or_ge i l.length with hi | hi
  · rw [List.getElem?_append_left hi] at h1
    rw [List.getElem?_append_left (by omega)] at h2
    exact he.2 i x e' h1 h2
  · rw [List.getElem?_append_right hi] at h1
    rw [List.getElem?_append_right (by omega)] at h2
    rw [hl] at h1
    cases hd : i - es.toList.length with
    | zero =>
      rw [hd] at h1 h2
      simp at h1 h2
      subst h1; subst h2
      exact ⟨hk, hv⟩
    | succ n => rw [hd] at h1; simp at h1

theorem Entries.erase {S : St} {l : List (CV × CV)} {es : Array MapEntry} (he : Entries S l es.toList) (j : Nat) : Entries S (l.eraseIdx j) (es.eraseIdxIfInBounds j).toList := by
  have hl := he.1
  rw [Array.toList_eraseIdxIfInBounds]
  refine ⟨by rw [List.length_eraseIdx, List.length_eraseIdx, hl], fun i x e h1 h2 => ?_⟩
  rw [List.getElem?_eraseIdx] at h1 h2
  split at h1 <;> rename_i hij
  · rw [if_pos hij] at h2; exact he.2 i x e h1 h2
  · rw [if_neg hij] at h2; exact he.2 _ x e h1 h2

noncomputable def xupdate (p : Hp) (t : TypeId) (x k v : CV) : XRes :=
  match mapKV C t, k, x with
  | some (_, _), .sc (.int q n), .mapr i => match p.t.get i with
    | some (.map l) => match findK q n 0 l with
      | some (some (j, _)) => .ret (.tup []) (p.set i (some (.map (l.set j (.sc (.int q n), v)))))
      | some none => .ret (.tup []) (p.set i (some (.map (l ++ [(.sc (.int q n), v)]))))
      | none => .stuck
    | _ => .stuck
  | _, _, _ => .stuck

theorem run_setObj_map' {P : Program} {w : World} {r : Nat} {es : Array MapEntry} {clock : Nat} (o : Go.Obj) (hb : w.heap[r]? = some (.map es clock)) : (setObj r o).run P w = .ok () (World.putMap w r o) := by
  simp [setObj, Sem.run, hb, World.putMap]

theorem run_keyStays {P : Program} {w : World} {q : IntKind} {n : Int} : (Instr.keyThatStays (.int q n) (.int q n)).run P w = .ok (.int q n) w := by
  simp [Instr.keyThatStays, Instr.sameBits]

theorem xupdate_sound {w0 : World} {B : Nat} {S : St} {p : Hp} {w : World} (r : XRel w0 B S p w) {dst : Option Tmp} {t ty : TypeId} {x k y : Operand} {xv kv yv : CV} {pos : String} {aft : Array Edge} {gd : Option (Nat × Bool)} {a : Act} (hx : VR S xv (a.eval x)) (hk : VR S kv (a.eval k)) (hy : VR S yv (a.eval y)) :
    XGoes C w0 B S ⟨dst, .mapUpdate t x k y, ty, pos, aft, gd⟩ a w (xupdate C p t xv kv yv) := by
  unfold xupdate
  split <;> try trivial
  rename_i e te q n i hkv
  split <;> try trivial
  rename_i l hi
  obtain ⟨kt, qt, hu, huk, hte⟩ := mapKV_spec C hkv
  have hk' := (VR_sc.1 hk).1
  rw [VR_nonagg rfl] at hx; simp only [FR] at hx
  obtain ⟨⟨rb, hxe, hμ⟩, _⟩ := hx
  have hxe := (List.cons.inj hxe).1
  obtain ⟨⟨⟨es, clock, hh, hent⟩, _⟩, _⟩ := r.r.live i _ _ (get_hm hi) hμ
  have hg : (getObj rb).run C.P w = .ok (.map es clock) w := by simp [getObj, Sem.run, hh]
  split <;> try trivial
  · rename_i j v hres
    have hfind := findK_sound (qt := qt) l es.toList 0 _ hent hres
    simp only at hfind
    obtain ⟨z, h1, _, _, e0, h2, h3, _⟩ := hfind
    simp only [Nat.sub_zero, Array.getElem?_toList] at h2
    intro next Q hn
    have hrun : (execOp a.eval ⟨dst, .mapUpdate t x k y, ty, pos, aft, gd⟩).run C.P w = .ok .skip (World.putMap w rb (.map (es.modify j fun e => { e with key := .int q n, val := a.eval y }) clock)) := by
      show (do Instr.mapUpdate t (a.eval x) (a.eval k) (a.eval y); pure Next.skip : Sem Next).run C.P w = _
      rw [hxe, hk']
      simp [Instr.mapUpdate, run_underlying hu, hg, checkKey_int C huk, Instr.findKey, run_underlying huk, h1, h2, h3, run_keyStays, run_setObj_map' _ hh]
    unfold Oper.wp
    rw [hrun]
    refine hn S undef _ (St.ext.refl _) ⟨by rw [Hp.set_h]; exact r.r.remap (get_hm hi) hμ (Entries.set hent fun e => ⟨VR_sc.2 ⟨rfl, rfl⟩, hy⟩), r.n, Hp.good_set r.good fun sh v e => by cases e⟩ VR_undef
  · rename_i hres
    have hfind := findK_sound (qt := qt) l es.toList 0 _ hent hres
    simp only at hfind
    intro next Q hn
    have hrun : (execOp a.eval ⟨dst, .mapUpdate t x k y, ty, pos, aft, gd⟩).run C.P w = .ok .skip (World.putMap w rb (.map (es.push { key := .int q n, val := a.eval y, born := clock }) (clock + 1))) := by
      show (do Instr.mapUpdate t (a.eval x) (a.eval k) (a.eval y); pure Next.skip : Sem Next).run C.P w = _
      rw [hxe, hk']
      simp [Instr.mapUpdate, run_underlying hu, hg, checkKey_int C huk, Instr.findKey, run_underlying huk, hfind, run_setObj_map' _ hh]
    unfold Oper.wp
    rw [hrun]
    refine hn S undef _ (St.ext.refl _) ⟨by rw [Hp.set_h]; exact r.r.remap (get_hm hi) hμ (Entries.push hent (VR_sc.2 ⟨rfl, rfl⟩) hy), r.n, Hp.good_set r.good fun sh v e => by cases e⟩ VR_undef

noncomputable def xdelete (p : Hp) (t : TypeId) (x k : CV) : XRes :=
  match mapKV C t, k, x with
  | some (_, _), .sc (.int q n), .mapr i => match p.t.get i with
    | some (.map l) => match findK q n 0 l with
      | some (some (j, _)) => .ret (.tup []) (p.set i (some (.map (l.eraseIdx j))))
      | some none => .ret (.tup []) (p.set i (some (.map l)))
      | none => .stuck
    | _ => .stuck
  | _, _, _ => .stuck

theorem xdelete_sound {w0 : World} {B : Nat} {S : St} {p : Hp} {w : World} (r : XRel w0 B S p w) {dst : Option Tmp} {t ty : TypeId} {x k : Operand} {args : Array Operand} {ts : Array TypeId} {xv kv : CV} {pos : String} {aft : Array Edge} {gd : Option (Nat × Bool)} {a : Act} (ha : args = #[x, k]) (hts : ts[0]? = some t) (hx : VR S xv (a.eval x)) (hk : VR S kv (a.eval k)) :
    XGoes C w0 B S ⟨dst, .call ⟨.builtin .delete, args, ts⟩, ty, pos, aft, gd⟩ a w (xdelete C p t xv kv) := by
  subst ha
  unfold xdelete
  split <;> try trivial
  rename_i e te q n i hkv
  split <;> try trivial
  rename_i l hi
  obtain ⟨kt, qt, hu, huk, hte⟩ := mapKV_spec C hkv
  have hk' := (VR_sc.1 hk).1
  rw [VR_nonagg rfl] at hx; simp only [FR] at hx
  obtain ⟨⟨rb, hxe, hμ⟩, _⟩ := hx
  have hxe := (List.cons.inj hxe).1
  obtain ⟨⟨⟨es, clock, hh, hent⟩, _⟩, _⟩ := r.r.live i _ _ (get_hm hi) hμ
  have hg : (getObj rb).run C.P w = .ok (.map es clock) w := by simp [getObj, Sem.run, hh]
  split <;> try trivial
  · rename_i j v hres
    have hfind := findK_sound (qt := qt) l es.toList 0 _ hent hres
    simp only at hfind
    obtain ⟨z, h1, _⟩ := hfind
    intro next Q hn
    have hrun : (execOp a.eval ⟨dst, .call ⟨.builtin .delete, #[x, k], ts⟩, ty, pos, aft, gd⟩).run C.P w = .ok (.value (.tuple #[])) (World.putMap w rb (.map (es.eraseIdxIfInBounds j) clock)) := by
      obtain ⟨cs, hexec⟩ := exec_builtin a.eval .delete #[x, k] ts dst ty pos aft gd
      rw [hexec]
      simp only [builtin, Sem.run_bind]
      simp [hxe, hk', Builtin.delete_, hts, run_underlying hu, hg, checkKey_int C huk, Instr.findKey, run_underlying huk, h1, run_setObj_map' _ hh]
    unfold Oper.wp
    rw [hrun]
    refine hn S undef _ (St.ext.refl _) ⟨by rw [Hp.set_h]; exact r.r.remap (get_hm hi) hμ (Entries.erase hent j), r.n, Hp.good_set r.good fun sh v e => by cases e⟩ VR_undef
  · rename_i hres
    have hfind := findK_sound (qt := qt) l es.toList 0 _ hent hres
    simp only at hfind
    intro next Q hn
    have hrun : (execOp a.eval ⟨dst, .call ⟨.builtin .delete, #[x, k], ts⟩, ty, pos, aft, gd⟩).run C.P w = .ok (.value (.tuple #[])) (World.putMap w rb (.map es clock)) := by
      obtain ⟨cs, hexec⟩ := exec_builtin a.eval .delete #[x, k] ts dst ty pos aft gd
      rw [hexec]
      simp only [builtin, Sem.run_bind]
      simp [hxe, hk', Builtin.delete_, hts, run_underlying hu, hg, checkKey_int C huk, Instr.findKey, run_underlying huk, hfind, run_setObj_map' _ hh]
    unfold Oper.wp
    rw [hrun]
    refine hn S undef _ (St.ext.refl _) ⟨by rw [Hp.set_h]; exact r.r.remap (get_hm hi) hμ hent, r.n, Hp.good_set r.good fun sh v e => by cases e⟩ VR_undef

noncomputable def xmakeMap (p : Hp) : XRes := .ret (.mapr p.n) (p.new (.map []))
theorem xmakeMap_sound {w0 : World} {B : Nat} {S : St} {p : Hp} {w : World} (r : XRel w0 B S p w) {dst : Option Tmp} {t ty : TypeId} {pos : String} {aft : Array Edge} {gd : Option (Nat × Bool)} {a : Act} :
    XGoes C w0 B S ⟨dst, .makeMap t none, ty, pos, aft, gd⟩ a w (xmakeMap p) := by
  intro next Q hn
  have hrun : (execOp a.eval ⟨dst, .makeMap t none, ty, pos, aft, gd⟩).run C.P w = .ok (.value (.map (some w.heap.size))) (w.alloc (.map #[] 0)) := by
    simp [execOp, Instr.makeMap, newObj]
    rfl
  unfold Oper.wp
  rw [hrun]
  obtain ⟨h1, h2, h3⟩ := r.newMap
  exact hn _ _ _ h1 h2 h3

/-! A slice against nil. -/
def nilness (v : CV) : Option Bool :=
  match v with
  | .lst tl l => match tl, l with
    | .nil, _ => some true
    | .exact, _ => some false
    | .own _, _ => some false
    | .part, _ => some false
    | .view, _ :: _ => some false
    | .view, [] => none
  | .slc _ _ _ _ => some false
  | _ => none

theorem nilness_sound {S : St} {v : CV} {x : Value} {b : Bool} (hv : VR S v x) (h : nilness v = some b) : ∃ base n c, x = .slice base n c ∧ base.isNone = b := by
  unfold nilness at h
  split at h
  · rename_i tl l
    rw [VR_nonagg rfl] at hv; simp only [FR] at hv
    obtain ⟨hv, _⟩ := hv
    rcases hv with ⟨rfl, hm, hx⟩ | ⟨bb, off, cap, sz, es, hx, _, _, _, _, hf⟩
    · have hx := (List.cons.inj hx).1
      refine ⟨none, 0, 0, hx, ?_⟩
      cases tl <;> simp [Tail.mayNil] at hm h
      exact h.symm
    · have hx := (List.cons.inj hx).1
      refine ⟨_, _, _, hx, ?_⟩
      cases tl <;> simp at h
      · exact hf.elim
      · cases l <;> simp at h; exact h.symm
      · exact h.symm
      · exact h.symm
      · exact h.symm
  · rw [VR_nonagg rfl] at hv; simp only [FR] at hv
    obtain ⟨⟨rb, sh, l, o, cap, hx, _⟩, _⟩ := hv
    cases h
    exact ⟨_, _, _, (List.cons.inj hx).1, rfl⟩
  · cases h

def isSliceT (t : TypeId) : Bool :=
  match C.tt t with
  | some ⟨.base (.slice _), _, _, _⟩ => true
  | _ => false
theorem isSliceT_spec {t : TypeId} (h : isSliceT C t = true) : ∃ e, C.P.underlying t = some (.slice e) := by
  unfold isSliceT at h
  split at h
  · rename_i e sh by_ ze h1; exact ⟨e, (C.htt _ _ h1).d.1⟩
  · cases h

/-- Comparisons with the constant nil. -/
def xnil (op : BinOp) (t : TypeId) (v : CV) : Option CV :=
  bif isSliceT C t then match op with
    | .eql => (nilness v).map fun b => .sc (.bool b)
    | .neq => (nilness v).map fun b => .sc (.bool !b)
    | _ => none
  else none

theorem xnil_sound {S : St} {w : World} {dst : Option Tmp} {op : BinOp} {t ty yt : TypeId} {x : Operand} {v u : CV} {pos : String} {aft : Array Edge} {gd : Option (Nat × Bool)} {a : Act} (hx : VR S v (a.eval x)) (h : xnil C op t v = some u) :
    ∃ y, (execOp a.eval ⟨dst, .binOp op t x (.const (.slice none 0 0)) yt, ty, pos, aft, gd⟩).run C.P w = .ok (.value y) w ∧ VR S u y := by
  unfold xnil at h
  cases hb : isSliceT C t with
  | false => rw [hb] at h; cases h
  | true =>
    rw [hb] at h
    simp only [cond_true] at h
    obtain ⟨e, hu⟩ := isSliceT_spec C hb
    split at h
    · cases hn : nilness v with
      | none => simp [hn] at h
      | some b =>
        simp [hn] at h; subst h
        obtain ⟨base, n, c, hxe, hbb⟩ := nilness_sound hx hn
        refine ⟨.bool b, ?_, VR_sc.2 ⟨rfl, rfl⟩⟩
        have hrun := run_eql_nil hu base n c x (.const (.slice none 0 0)) w
        have hx : execOp a.eval ⟨dst, .binOp .eql t x (.const (.slice none 0 0)) yt, ty, pos, aft, gd⟩ = (do pure (.value (← (do eqGuard .eql t x (.const (.slice none 0 0)) (a.eval x) (.slice none 0 0); binOp .eql t (a.eval x) (.slice none 0 0) : Sem Value)))) := rfl
        rw [hx, hxe, Sem.run_bind, hrun, hbb]
        rfl
    · cases hn : nilness v with
      | none => simp [hn] at h
      | some b =>
        simp [hn] at h; subst h
        obtain ⟨base, n, c, hxe, hbb⟩ := nilness_sound hx hn
        refine ⟨.bool !b, ?_, VR_sc.2 ⟨rfl, rfl⟩⟩
        have hrun := run_neq_nil hu base n c x (.const (.slice none 0 0)) w
        have hx : execOp a.eval ⟨dst, .binOp .neq t x (.const (.slice none 0 0)) yt, ty, pos, aft, gd⟩ = (do pure (.value (← (do eqGuard .neq t x (.const (.slice none 0 0)) (a.eval x) (.slice none 0 0); binOp .neq t (a.eval x) (.slice none 0 0) : Sem Value)))) := rfl
        rw [hx, hxe, Sem.run_bind, hrun, hbb]
        rfl
    · cases h
end
end Go.Cl
