/-
  From a clean contract to a row's statement: what a row reads of an argument gives its clean value; what has not turned below the heap's old end reads as before.
-/
import Derived.Test.YtcjkapadadonlaaGreatCl22
import Derived.ProofKit
set_option linter.unusedSimpArgs false
set_option linter.unusedVariables false
namespace Go.Cl
open Go.RowKit Go.ChangeShapes Go.WideShapes Go.ChangeAt

/-- All cells of a world are known. -/
def S0 (w : World) : St := ⟨fun b o => w.cell? ⟨b, o, none⟩, fun _ => none, 0⟩
theorem R_init (w : World) : R w w.heap.size (S0 w) (fun _ => none) w where
  below := Below.refl _ _
  size := Nat.le_refl _
  kcell := fun _ _ _ h => h
  fresh := fun _ _ => ⟨rfl, rfl⟩
  live := fun _ _ _ h => by cases h
  inj := fun _ _ _ _ _ _ _ h => by cases h

theorem calls_true {C : Ctx} {f : FuncId} {args : List CV} {vals : List Value} {w : World} (hok : OkP C f args (.sc (.bool true))) (hV : VRs (S0 w) args vals) :
    Calls C.P f vals.toArray w fun e w' => e = .returned (.bool true) ∧ Below w.heap.size w w' := by
  refine (hok.2 w w.heap.size (S0 w) _ w args vals (fun out _ => out = .ret (.sc (.bool true))) (R_init w) hV ⟨rfl, rfl⟩).mono ?_
  rintro e w' ⟨S', out, h', _, r, ho, rfl⟩
  refine ⟨?_, r.below⟩
  cases e with
  | returned x =>
    have ho' : VR S' (.sc (.bool true)) x := ho
    rw [(VR_sc.1 ho').1]
  | _ => exact ho.elim

theorem VRs_nil (S : St) : VRs S [] [] := by simp [VRs]
theorem VR_int (S : St) (k : IntKind) (n : Int) : VR S (.sc (.int k n)) (.int k n) := VR_sc.2 ⟨rfl, rfl⟩

theorem trodAll_below {H : Type} {enc : TypeId × Value → H} {P : Program} (hl : laidOutB P = true) {W W' : World} (hb : Below W.heap.size W W') (sp : Nat → Bool) :
    ∀ (ts : List TypeId) (vs : List Value) (ds : List (DataW H)) (ps : List MemPlace), (∀ t ∈ ts, P.readableRec t = true ∧ t < P.types.size) → (∀ x ∈ ps, x.block < W.heap.size ∧ sp x.block = true) →
      DataW.TrodAll enc P W 0 (fun _ => true) true ts vs ds ps → DataW.TrodAll enc P W' 0 sp true ts vs ds ps
  | [], [], [], ps, _, _, h => h
  | t :: ts, v :: vs, d :: ds, ps, ht, hp, h => by
    obtain ⟨p, q, h1, h2, rfl⟩ := h
    refine ⟨p, q, ?_, trodAll_below hl hb sp ts vs ds q (fun t h => ht t (.tail _ h)) (fun x hx => hp x (List.mem_append_right _ hx)) h2, rfl⟩
    exact WideElems.Trod_stays hl (ht t (.head _)).1 (ht t (.head _)).2 h1 (fun x hx => hb.same (hp x (List.mem_append_left _ hx)).1) (fun x hx => (hp x (List.mem_append_left _ hx)).2)
  | [], _ :: _, _, _, _, _, h => h.elim
  | [], [], _ :: _, _, _, _, h => h.elim
  | _ :: _, [], _, _, _, _, h => h.elim
  | _ :: _, _ :: _, [], _, _, _, h => h.elim

/-- A law that answers true and turns nothing below the heap's old end. -/
theorem post_true {H : Type} {enc : TypeId × Value → H} {P : Program} {f : Func} {s : ChangeSpec} {apart fresh handsOn again : Bool} {W W' : World} {args : Array Value} {ds gs : List (DataW H)} {before : List MemPlace} {bt : TypeId}
    (hl : laidOutB P = true) (hW : DataW.Whole enc P f.params.toList s.vars apart W args.toList ds gs before) (hv : s.vars = []) (hb : Below W.heap.size W W')
    (hread : ∀ t ∈ f.params.toList, P.readableRec t = true ∧ t < P.types.size) (hr : f.resultTypes = #[bt]) (hbt : P.underlying bt = some .bool)
    (hfn : s.fn H (ds ++ gs) = { results := [.lit (.bool true)], args := ds }) : s.post enc P f apart fresh handsOn again W args (.bool true) W' := by
  have hlt := hW.lt
  obtain ⟨p, q, hA, hV, rfl, hz, hn⟩ := id hW
  rw [hv] at hV
  obtain ⟨hgs, rfl⟩ := trodVars_none hV
  have hold : ∀ x ∈ p ++ [], x.block < W.heap.size := fun x hx => by simpa using hlt x hx
  have hargs : ∀ sp : Nat → Bool, (∀ x ∈ p ++ [], sp x.block = true) → DataW.TrodAll enc P W' 0 sp true f.params.toList args.toList (s.fn H (ds ++ gs)).args p := fun sp hsp => by
    rw [hfn]
    exact trodAll_below hl hb sp _ _ _ _ hread (fun x hx => ⟨hold x (List.mem_append_left _ hx), hsp x (List.mem_append_left _ hx)⟩) hA
  have hres : ∀ (b : Nat) (sp : Nat → Bool) (hd : Bool), DataW.TrodAll enc P W' b sp hd f.resultTypes.toList ((Value.bool true).resultList f.resultTypes.size) (s.fn H (ds ++ gs)).results [] := fun b sp hd => by
    rw [hfn, hr]
    exact trodAll_mk1 (shut_bool hbt true)
  have hvars : ∀ sp : Nat → Bool, DataW.TrodVars enc P W' sp s.vars (s.fn H (ds ++ gs)).vars [] := fun sp => by
    rw [hfn, hv]; exact rfl
  have hok := ok_one (P := P) (W' := W') (f := f) hr rfl (okWide_bool_mk hbt true)
  refine ⟨ds, gs, p ++ [], [], p, [], hW, hres _ _ _, hargs _ (fun x hx => by simpa using hold x hx), hvars _, hb.frame _, fun _ => ?_⟩
  refine ⟨hok, _, _, ([] ++ p) ++ [], ⟨[] ++ p, [], trodAll_append (hargs _ (fun _ _ => rfl)) (hres _ _ _), hvars _, rfl, ?_, ?_⟩, ?_⟩
  · intro b off hp
    rw [hb.frozen (p := ⟨b, off, none⟩) (hold (.cell b off) (by simpa using hp))]
    exact hz b off (by simpa using hp)
  · intro ha
    simpa using hn ha
  · intro x hx _
    simpa using hx
end Go.Cl
