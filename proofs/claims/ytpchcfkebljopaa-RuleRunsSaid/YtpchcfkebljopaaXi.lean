import Derived.Test.YtpchcfkebljopaaXh
set_option linter.unusedSimpArgs false
set_option linter.unusedVariables false
set_option linter.constructorNameAsVariable false
section
namespace Go.Proofs.Ytpchcfkebljopaa
open Go.Cl
set_option linter.constructorNameAsVariable false
structure Law12_RawEnv where
  X : Int
  Y : Int
  VX : Int
  Buttons : Int
  StickX : Int
  Room : Int
  Mem : Lst Int
  Dice : Int
  Bend : Int
def Law12_RawEnv.cv (x : Law12_RawEnv) : CV := .agg [I x.X, I x.Y, I x.VX, I x.Buttons, I x.StickX, I x.Room, (Lst.cv I) x.Mem, U x.Dice, I x.Bend]
@[ext] theorem Law12_RawEnv.ext' {x y : Law12_RawEnv} (h_X : x.X = y.X) (h_Y : x.Y = y.Y) (h_VX : x.VX = y.VX) (h_Buttons : x.Buttons = y.Buttons) (h_StickX : x.StickX = y.StickX) (h_Room : x.Room = y.Room) (h_Mem : x.Mem = y.Mem) (h_Dice : x.Dice = y.Dice) (h_Bend : x.Bend = y.Bend) : x = y := by
  obtain ⟨a0, a1, a2, a3, a4, a5, a6, a7, a8⟩ := x
  obtain ⟨c0, c1, c2, c3, c4, c5, c6, c7, c8⟩ := y
  simp only at h_X h_Y h_VX h_Buttons h_StickX h_Room h_Mem h_Dice h_Bend
  subst h_X h_Y h_VX h_Buttons h_StickX h_Room h_Mem h_Dice h_Bend
  rfl
def Law12_RawEnv.zero : Law12_RawEnv := { X := 0, Y := 0, VX := 0, Buttons := 0, StickX := 0, Room := 0, Mem := ⟨.nil, [], fun _ => rfl⟩, Dice := 0, Bend := 0 }
instance : Inhabited Law12_RawEnv := ⟨Law12_RawEnv.zero⟩
theorem Law12_RawEnv.zcv : z27 = Law12_RawEnv.zero.cv := by
  simp only [z27, Law12_RawEnv.zero, Law12_RawEnv.cv, List.map_replicate, Lst.cv, List.map_nil]
theorem Law12_RawEnv.shape (x : Law12_RawEnv) : x.cv.shape = sh27 := by simp only [Law12_RawEnv.cv, sh27, CV.shape, CV.shapes, Lst.shape]
theorem Law12_RawEnv.has (x : Law12_RawEnv) (j : Nat) : x.cv.has j ↔ x.Mem.tl = .own j := by simp [Law12_RawEnv.cv, CV.has, CV.hasL, Lst.has _ I_has]
theorem Law12_RawEnv.inj {x y : Law12_RawEnv} (h : x.cv = y.cv) : x = y := by
  simp only [Law12_RawEnv.cv, CV.agg.injEq, List.cons.injEq, and_true] at h
  obtain ⟨h0, h1, h2, h3, h4, h5, h6, h7, h8⟩ := h
  refine Law12_RawEnv.ext' (I_inj _ _ h0) (I_inj _ _ h1) (I_inj _ _ h2) (I_inj _ _ h3) (I_inj _ _ h4) (I_inj _ _ h5) ((Lst.injF I_inj) _ _ h6) (U_inj _ _ h7) (I_inj _ _ h8)
theorem Law12_RawEnv.injF (x y : Law12_RawEnv) (h : x.cv = y.cv) : x = y := Law12_RawEnv.inj h
theorem Law12_RawEnv.inj_iff (x y : Law12_RawEnv) : x.cv = y.cv ↔ x = y := ⟨Law12_RawEnv.inj, fun h => by rw [h]⟩
theorem Law12_RawEnv.shOk (x : Law12_RawEnv) : Cl.shOk x.cv sh27 = true := shOk_n (Law12_RawEnv.shape x) rfl
theorem Law12_RawEnv.at_0 (x : Law12_RawEnv) (q : List Nat) : x.cv.at (0 :: q) = (I x.X).at q := rfl
def Law12_RawEnv.upd_0 (x : Law12_RawEnv) (v : CV) : CV := .agg [v, I x.Y, I x.VX, I x.Buttons, I x.StickX, I x.Room, (Lst.cv I) x.Mem, U x.Dice, I x.Bend]
theorem Law12_RawEnv.set_0 (x : Law12_RawEnv) (q : List Nat) (v : CV) : x.cv.set (0 :: q) v = Law12_RawEnv.upd_0 x ((I x.X).set q v) := rfl
theorem Law12_RawEnv.fold_0 (x : Law12_RawEnv) (y : Int) : Law12_RawEnv.upd_0 x (I y) = ({ x with X := y } : Law12_RawEnv).cv := rfl
theorem Law12_RawEnv.fld_0 (x : Law12_RawEnv) : qfield C 27 x.cv 0 = some (I x.X) := qfield_of C tt27 (Law12_RawEnv.shape x) rfl tt3 rfl rfl
theorem Law12_RawEnv.rfa_0 (x : Law12_RawEnv) (h : Heap) : qfieldAddr C h 27 (.rptr x.cv) 0 = some (.rptr (I x.X)) := by
  have hs := Law12_RawEnv.shape x
  unfold Law12_RawEnv.cv at hs ⊢
  simp only [qfieldAddr, tt27, ti27, tgt, hs, if_true, List.getElem?_cons_zero, List.getElem?_cons_succ]
theorem Law12_RawEnv.sub_0 (q : List Nat) (z : Shape) : subEq sh27 (0 :: q) z = subEq sh3 q z := rfl
theorem Law12_RawEnv.at_1 (x : Law12_RawEnv) (q : List Nat) : x.cv.at (1 :: q) = (I x.Y).at q := rfl
def Law12_RawEnv.upd_1 (x : Law12_RawEnv) (v : CV) : CV := .agg [I x.X, v, I x.VX, I x.Buttons, I x.StickX, I x.Room, (Lst.cv I) x.Mem, U x.Dice, I x.Bend]
theorem Law12_RawEnv.set_1 (x : Law12_RawEnv) (q : List Nat) (v : CV) : x.cv.set (1 :: q) v = Law12_RawEnv.upd_1 x ((I x.Y).set q v) := rfl
theorem Law12_RawEnv.fold_1 (x : Law12_RawEnv) (y : Int) : Law12_RawEnv.upd_1 x (I y) = ({ x with Y := y } : Law12_RawEnv).cv := rfl
theorem Law12_RawEnv.fld_1 (x : Law12_RawEnv) : qfield C 27 x.cv 1 = some (I x.Y) := qfield_of C tt27 (Law12_RawEnv.shape x) rfl tt3 rfl rfl
theorem Law12_RawEnv.rfa_1 (x : Law12_RawEnv) (h : Heap) : qfieldAddr C h 27 (.rptr x.cv) 1 = some (.rptr (I x.Y)) := by
  have hs := Law12_RawEnv.shape x
  unfold Law12_RawEnv.cv at hs ⊢
  simp only [qfieldAddr, tt27, ti27, tgt, hs, if_true, List.getElem?_cons_zero, List.getElem?_cons_succ]
theorem Law12_RawEnv.sub_1 (q : List Nat) (z : Shape) : subEq sh27 (1 :: q) z = subEq sh3 q z := rfl
theorem Law12_RawEnv.at_2 (x : Law12_RawEnv) (q : List Nat) : x.cv.at (2 :: q) = (I x.VX).at q := rfl
def Law12_RawEnv.upd_2 (x : Law12_RawEnv) (v : CV) : CV := .agg [I x.X, I x.Y, v, I x.Buttons, I x.StickX, I x.Room, (Lst.cv I) x.Mem, U x.Dice, I x.Bend]
theorem Law12_RawEnv.set_2 (x : Law12_RawEnv) (q : List Nat) (v : CV) : x.cv.set (2 :: q) v = Law12_RawEnv.upd_2 x ((I x.VX).set q v) := rfl
theorem Law12_RawEnv.fold_2 (x : Law12_RawEnv) (y : Int) : Law12_RawEnv.upd_2 x (I y) = ({ x with VX := y } : Law12_RawEnv).cv := rfl
theorem Law12_RawEnv.fld_2 (x : Law12_RawEnv) : qfield C 27 x.cv 2 = some (I x.VX) := qfield_of C tt27 (Law12_RawEnv.shape x) rfl tt3 rfl rfl
theorem Law12_RawEnv.rfa_2 (x : Law12_RawEnv) (h : Heap) : qfieldAddr C h 27 (.rptr x.cv) 2 = some (.rptr (I x.VX)) := by
  have hs := Law12_RawEnv.shape x
  unfold Law12_RawEnv.cv at hs ⊢
  simp only [qfieldAddr, tt27, ti27, tgt, hs, if_true, List.getElem?_cons_zero, List.getElem?_cons_succ]
theorem Law12_RawEnv.sub_2 (q : List Nat) (z : Shape) : subEq sh27 (2 :: q) z = subEq sh3 q z := rfl
theorem Law12_RawEnv.at_3 (x : Law12_RawEnv) (q : List Nat) : x.cv.at (3 :: q) = (I x.Buttons).at q := rfl
def Law12_RawEnv.upd_3 (x : Law12_RawEnv) (v : CV) : CV := .agg [I x.X, I x.Y, I x.VX, v, I x.StickX, I x.Room, (Lst.cv I) x.Mem, U x.Dice, I x.Bend]
theorem Law12_RawEnv.set_3 (x : Law12_RawEnv) (q : List Nat) (v : CV) : x.cv.set (3 :: q) v = Law12_RawEnv.upd_3 x ((I x.Buttons).set q v) := rfl
theorem Law12_RawEnv.fold_3 (x : Law12_RawEnv) (y : Int) : Law12_RawEnv.upd_3 x (I y) = ({ x with Buttons := y } : Law12_RawEnv).cv := rfl
theorem Law12_RawEnv.fld_3 (x : Law12_RawEnv) : qfield C 27 x.cv 3 = some (I x.Buttons) := qfield_of C tt27 (Law12_RawEnv.shape x) rfl tt3 rfl rfl
theorem Law12_RawEnv.rfa_3 (x : Law12_RawEnv) (h : Heap) : qfieldAddr C h 27 (.rptr x.cv) 3 = some (.rptr (I x.Buttons)) := by
  have hs := Law12_RawEnv.shape x
  unfold Law12_RawEnv.cv at hs ⊢
  simp only [qfieldAddr, tt27, ti27, tgt, hs, if_true, List.getElem?_cons_zero, List.getElem?_cons_succ]
theorem Law12_RawEnv.sub_3 (q : List Nat) (z : Shape) : subEq sh27 (3 :: q) z = subEq sh3 q z := rfl
theorem Law12_RawEnv.at_4 (x : Law12_RawEnv) (q : List Nat) : x.cv.at (4 :: q) = (I x.StickX).at q := rfl
def Law12_RawEnv.upd_4 (x : Law12_RawEnv) (v : CV) : CV := .agg [I x.X, I x.Y, I x.VX, I x.Buttons, v, I x.Room, (Lst.cv I) x.Mem, U x.Dice, I x.Bend]
theorem Law12_RawEnv.set_4 (x : Law12_RawEnv) (q : List Nat) (v : CV) : x.cv.set (4 :: q) v = Law12_RawEnv.upd_4 x ((I x.StickX).set q v) := rfl
theorem Law12_RawEnv.fold_4 (x : Law12_RawEnv) (y : Int) : Law12_RawEnv.upd_4 x (I y) = ({ x with StickX := y } : Law12_RawEnv).cv := rfl
theorem Law12_RawEnv.fld_4 (x : Law12_RawEnv) : qfield C 27 x.cv 4 = some (I x.StickX) := qfield_of C tt27 (Law12_RawEnv.shape x) rfl tt3 rfl rfl
theorem Law12_RawEnv.rfa_4 (x : Law12_RawEnv) (h : Heap) : qfieldAddr C h 27 (.rptr x.cv) 4 = some (.rptr (I x.StickX)) := by
  have hs := Law12_RawEnv.shape x
  unfold Law12_RawEnv.cv at hs ⊢
  simp only [qfieldAddr, tt27, ti27, tgt, hs, if_true, List.getElem?_cons_zero, List.getElem?_cons_succ]
theorem Law12_RawEnv.sub_4 (q : List Nat) (z : Shape) : subEq sh27 (4 :: q) z = subEq sh3 q z := rfl
theorem Law12_RawEnv.at_5 (x : Law12_RawEnv) (q : List Nat) : x.cv.at (5 :: q) = (I x.Room).at q := rfl
def Law12_RawEnv.upd_5 (x : Law12_RawEnv) (v : CV) : CV := .agg [I x.X, I x.Y, I x.VX, I x.Buttons, I x.StickX, v, (Lst.cv I) x.Mem, U x.Dice, I x.Bend]
theorem Law12_RawEnv.set_5 (x : Law12_RawEnv) (q : List Nat) (v : CV) : x.cv.set (5 :: q) v = Law12_RawEnv.upd_5 x ((I x.Room).set q v) := rfl
theorem Law12_RawEnv.fold_5 (x : Law12_RawEnv) (y : Int) : Law12_RawEnv.upd_5 x (I y) = ({ x with Room := y } : Law12_RawEnv).cv := rfl
theorem Law12_RawEnv.fld_5 (x : Law12_RawEnv) : qfield C 27 x.cv 5 = some (I x.Room) := qfield_of C tt27 (Law12_RawEnv.shape x) rfl tt3 rfl rfl
theorem Law12_RawEnv.rfa_5 (x : Law12_RawEnv) (h : Heap) : qfieldAddr C h 27 (.rptr x.cv) 5 = some (.rptr (I x.Room)) := by
  have hs := Law12_RawEnv.shape x
  unfold Law12_RawEnv.cv at hs ⊢
  simp only [qfieldAddr, tt27, ti27, tgt, hs, if_true, List.getElem?_cons_zero, List.getElem?_cons_succ]
theorem Law12_RawEnv.sub_5 (q : List Nat) (z : Shape) : subEq sh27 (5 :: q) z = subEq sh3 q z := rfl
theorem Law12_RawEnv.at_6 (x : Law12_RawEnv) (q : List Nat) : x.cv.at (6 :: q) = ((Lst.cv I) x.Mem).at q := rfl
def Law12_RawEnv.upd_6 (x : Law12_RawEnv) (v : CV) : CV := .agg [I x.X, I x.Y, I x.VX, I x.Buttons, I x.StickX, I x.Room, v, U x.Dice, I x.Bend]
theorem Law12_RawEnv.set_6 (x : Law12_RawEnv) (q : List Nat) (v : CV) : x.cv.set (6 :: q) v = Law12_RawEnv.upd_6 x (((Lst.cv I) x.Mem).set q v) := rfl
theorem Law12_RawEnv.fold_6 (x : Law12_RawEnv) (y : Lst Int) : Law12_RawEnv.upd_6 x ((Lst.cv I) y) = ({ x with Mem := y } : Law12_RawEnv).cv := rfl
theorem Law12_RawEnv.fld_6 (x : Law12_RawEnv) : qfield C 27 x.cv 6 = some ((Lst.cv I) x.Mem) := qfield_of C tt27 (Law12_RawEnv.shape x) rfl tt24 rfl rfl
theorem Law12_RawEnv.rfa_6 (x : Law12_RawEnv) (h : Heap) : qfieldAddr C h 27 (.rptr x.cv) 6 = some (.rptr ((Lst.cv I) x.Mem)) := by
  have hs := Law12_RawEnv.shape x
  unfold Law12_RawEnv.cv at hs ⊢
  simp only [qfieldAddr, tt27, ti27, tgt, hs, if_true, List.getElem?_cons_zero, List.getElem?_cons_succ]
theorem Law12_RawEnv.sub_6 (q : List Nat) (z : Shape) : subEq sh27 (6 :: q) z = subEq sh24 q z := rfl
theorem Law12_RawEnv.at_7 (x : Law12_RawEnv) (q : List Nat) : x.cv.at (7 :: q) = (U x.Dice).at q := rfl
def Law12_RawEnv.upd_7 (x : Law12_RawEnv) (v : CV) : CV := .agg [I x.X, I x.Y, I x.VX, I x.Buttons, I x.StickX, I x.Room, (Lst.cv I) x.Mem, v, I x.Bend]
theorem Law12_RawEnv.set_7 (x : Law12_RawEnv) (q : List Nat) (v : CV) : x.cv.set (7 :: q) v = Law12_RawEnv.upd_7 x ((U x.Dice).set q v) := rfl
theorem Law12_RawEnv.fold_7 (x : Law12_RawEnv) (y : Int) : Law12_RawEnv.upd_7 x (U y) = ({ x with Dice := y } : Law12_RawEnv).cv := rfl
theorem Law12_RawEnv.fld_7 (x : Law12_RawEnv) : qfield C 27 x.cv 7 = some (U x.Dice) := qfield_of C tt27 (Law12_RawEnv.shape x) rfl tt25 rfl rfl
theorem Law12_RawEnv.rfa_7 (x : Law12_RawEnv) (h : Heap) : qfieldAddr C h 27 (.rptr x.cv) 7 = some (.rptr (U x.Dice)) := by
  have hs := Law12_RawEnv.shape x
  unfold Law12_RawEnv.cv at hs ⊢
  simp only [qfieldAddr, tt27, ti27, tgt, hs, if_true, List.getElem?_cons_zero, List.getElem?_cons_succ]
theorem Law12_RawEnv.sub_7 (q : List Nat) (z : Shape) : subEq sh27 (7 :: q) z = subEq sh25 q z := rfl
theorem Law12_RawEnv.at_8 (x : Law12_RawEnv) (q : List Nat) : x.cv.at (8 :: q) = (I x.Bend).at q := rfl
def Law12_RawEnv.upd_8 (x : Law12_RawEnv) (v : CV) : CV := .agg [I x.X, I x.Y, I x.VX, I x.Buttons, I x.StickX, I x.Room, (Lst.cv I) x.Mem, U x.Dice, v]
theorem Law12_RawEnv.set_8 (x : Law12_RawEnv) (q : List Nat) (v : CV) : x.cv.set (8 :: q) v = Law12_RawEnv.upd_8 x ((I x.Bend).set q v) := rfl
theorem Law12_RawEnv.fold_8 (x : Law12_RawEnv) (y : Int) : Law12_RawEnv.upd_8 x (I y) = ({ x with Bend := y } : Law12_RawEnv).cv := rfl
theorem Law12_RawEnv.fld_8 (x : Law12_RawEnv) : qfield C 27 x.cv 8 = some (I x.Bend) := qfield_of C tt27 (Law12_RawEnv.shape x) rfl tt3 rfl rfl
theorem Law12_RawEnv.rfa_8 (x : Law12_RawEnv) (h : Heap) : qfieldAddr C h 27 (.rptr x.cv) 8 = some (.rptr (I x.Bend)) := by
  have hs := Law12_RawEnv.shape x
  unfold Law12_RawEnv.cv at hs ⊢
  simp only [qfieldAddr, tt27, ti27, tgt, hs, if_true, List.getElem?_cons_zero, List.getElem?_cons_succ]
theorem Law12_RawEnv.sub_8 (q : List Nat) (z : Shape) : subEq sh27 (8 :: q) z = subEq sh3 q z := rfl
theorem Law12_RawEnv.sub_nil : subEq sh27 [] sh27 = true := by simp [subEq, Shape.sub]
theorem Law12_RawEnv.alloc : allocObj C (.alloc 27) = some (.var sh27 Law12_RawEnv.zero.cv) := by simp only [allocObj, tt27, ti27, Law12_RawEnv.zcv]
theorem Law12_RawEnv.xalloc (p : Hp) : xalloc C p 27 = .ret (.ptr p.n []) (p.new (.var sh27 Law12_RawEnv.zero.cv)) := by simp only [Cl.xalloc, tt27, ti27, Law12_RawEnv.zcv]
theorem Law12_RawEnv.xbox (p : Hp) (x : Law12_RawEnv) : xbox C p 27 x.cv = .ret (.ptr p.n []) (p.new (.var sh27 x.cv)) := by
  have h : Cl.shOk x.cv ti27.sh = true := Law12_RawEnv.shOk x
  simp only [Cl.xbox, tt27, h, cond_true]; rfl
structure Api_Op where
  Code : Int
  A : Int
  B : Int
def Api_Op.cv (x : Api_Op) : CV := .agg [I x.Code, I x.A, I x.B]
@[ext] theorem Api_Op.ext' {x y : Api_Op} (h_Code : x.Code = y.Code) (h_A : x.A = y.A) (h_B : x.B = y.B) : x = y := by
  obtain ⟨a0, a1, a2⟩ := x
  obtain ⟨c0, c1, c2⟩ := y
  simp only at h_Code h_A h_B
  subst h_Code h_A h_B
  rfl
def Api_Op.zero : Api_Op := { Code := 0, A := 0, B := 0 }
instance : Inhabited Api_Op := ⟨Api_Op.zero⟩
theorem Api_Op.zcv : z29 = Api_Op.zero.cv := by
  simp only [z29, Api_Op.zero, Api_Op.cv, List.map_replicate, Lst.cv, List.map_nil]
theorem Api_Op.shape (x : Api_Op) : x.cv.shape = sh29 := by simp only [Api_Op.cv, sh29, CV.shape, CV.shapes, Lst.shape]
theorem Api_Op.nohas (x : Api_Op) (j : Nat) : ¬ x.cv.has j := by simp [Api_Op.cv, CV.has, CV.hasL]
instance : DecidableEq Api_Op := fun x y => decidable_of_iff (x.Code = y.Code ∧ x.A = y.A ∧ x.B = y.B) ⟨fun h => Api_Op.ext' h.1 h.2.1 h.2.2, fun h => by subst h; simp⟩
theorem Api_Op.inj {x y : Api_Op} (h : x.cv = y.cv) : x = y := by
  simp only [Api_Op.cv, CV.agg.injEq, List.cons.injEq, and_true] at h
  obtain ⟨h0, h1, h2⟩ := h
  refine Api_Op.ext' (I_inj _ _ h0) (I_inj _ _ h1) (I_inj _ _ h2)
theorem Api_Op.injF (x y : Api_Op) (h : x.cv = y.cv) : x = y := Api_Op.inj h
theorem Api_Op.inj_iff (x y : Api_Op) : x.cv = y.cv ↔ x = y := ⟨Api_Op.inj, fun h => by rw [h]⟩
theorem Api_Op.shOk (x : Api_Op) : Cl.shOk x.cv sh29 = true := shOk_n (Api_Op.shape x) rfl
theorem Api_Op.eq (d : Nat) (x y : Api_Op) : eqCV C (d + 2) 29 x.cv y.cv = some (decide (x = y)) := by
  refine (eqCV_st C (d := d + 1) tt29 (Api_Op.shape x) (Api_Op.shape y) (eqList_c (eqCV_int C tt3 (d + 0) _ _) (eqList_c (eqCV_int C tt3 (d + 0) _ _) (eqList_c (eqCV_int C tt3 (d + 0) _ _) rfl)))).trans (congrArg some ?_)
  rw [Bool.eq_iff_iff]
  simp only [Bool.and_eq_true, decide_eq_true_eq, and_true]
  exact ⟨fun h => Api_Op.ext' h.1 h.2.1 h.2.2, fun h => by subst h; simp⟩
theorem Api_Op.eql (x y : Api_Op) (b : Bool) : qbin C .eql 29 b x.cv y.cv = some (Bo (decide (x = y))) := by
  have h := Api_Op.eq 10 x y
  unfold Api_Op.cv at h ⊢
  simp only [qbin]
  rw [h]; rfl
theorem Api_Op.neq (x y : Api_Op) (b : Bool) : qbin C .neq 29 b x.cv y.cv = some (Bo (!decide (x = y))) := by
  have h := Api_Op.eq 10 x y
  unfold Api_Op.cv at h ⊢
  simp only [qbin]
  rw [h]; rfl
theorem Api_Op.at_0 (x : Api_Op) (q : List Nat) : x.cv.at (0 :: q) = (I x.Code).at q := rfl
def Api_Op.upd_0 (x : Api_Op) (v : CV) : CV := .agg [v, I x.A, I x.B]
theorem Api_Op.set_0 (x : Api_Op) (q : List Nat) (v : CV) : x.cv.set (0 :: q) v = Api_Op.upd_0 x ((I x.Code).set q v) := rfl
theorem Api_Op.fold_0 (x : Api_Op) (y : Int) : Api_Op.upd_0 x (I y) = ({ x with Code := y } : Api_Op).cv := rfl
theorem Api_Op.fld_0 (x : Api_Op) : qfield C 29 x.cv 0 = some (I x.Code) := qfield_of C tt29 (Api_Op.shape x) rfl tt3 rfl rfl
theorem Api_Op.rfa_0 (x : Api_Op) (h : Heap) : qfieldAddr C h 29 (.rptr x.cv) 0 = some (.rptr (I x.Code)) := by
  have hs := Api_Op.shape x
  unfold Api_Op.cv at hs ⊢
  simp only [qfieldAddr, tt29, ti29, tgt, hs, if_true, List.getElem?_cons_zero, List.getElem?_cons_succ]
theorem Api_Op.sub_0 (q : List Nat) (z : Shape) : subEq sh29 (0 :: q) z = subEq sh3 q z := rfl
theorem Api_Op.at_1 (x : Api_Op) (q : List Nat) : x.cv.at (1 :: q) = (I x.A).at q := rfl
def Api_Op.upd_1 (x : Api_Op) (v : CV) : CV := .agg [I x.Code, v, I x.B]
theorem Api_Op.set_1 (x : Api_Op) (q : List Nat) (v : CV) : x.cv.set (1 :: q) v = Api_Op.upd_1 x ((I x.A).set q v) := rfl
theorem Api_Op.fold_1 (x : Api_Op) (y : Int) : Api_Op.upd_1 x (I y) = ({ x with A := y } : Api_Op).cv := rfl
theorem Api_Op.fld_1 (x : Api_Op) : qfield C 29 x.cv 1 = some (I x.A) := qfield_of C tt29 (Api_Op.shape x) rfl tt3 rfl rfl
theorem Api_Op.rfa_1 (x : Api_Op) (h : Heap) : qfieldAddr C h 29 (.rptr x.cv) 1 = some (.rptr (I x.A)) := by
  have hs := Api_Op.shape x
  unfold Api_Op.cv at hs ⊢
  simp only [qfieldAddr, tt29, ti29, tgt, hs, if_true, List.getElem?_cons_zero, List.getElem?_cons_succ]
theorem Api_Op.sub_1 (q : List Nat) (z : Shape) : subEq sh29 (1 :: q) z = subEq sh3 q z := rfl
theorem Api_Op.at_2 (x : Api_Op) (q : List Nat) : x.cv.at (2 :: q) = (I x.B).at q := rfl
def Api_Op.upd_2 (x : Api_Op) (v : CV) : CV := .agg [I x.Code, I x.A, v]
theorem Api_Op.set_2 (x : Api_Op) (q : List Nat) (v : CV) : x.cv.set (2 :: q) v = Api_Op.upd_2 x ((I x.B).set q v) := rfl
theorem Api_Op.fold_2 (x : Api_Op) (y : Int) : Api_Op.upd_2 x (I y) = ({ x with B := y } : Api_Op).cv := rfl
theorem Api_Op.fld_2 (x : Api_Op) : qfield C 29 x.cv 2 = some (I x.B) := qfield_of C tt29 (Api_Op.shape x) rfl tt3 rfl rfl
theorem Api_Op.rfa_2 (x : Api_Op) (h : Heap) : qfieldAddr C h 29 (.rptr x.cv) 2 = some (.rptr (I x.B)) := by
  have hs := Api_Op.shape x
  unfold Api_Op.cv at hs ⊢
  simp only [qfieldAddr, tt29, ti29, tgt, hs, if_true, List.getElem?_cons_zero, List.getElem?_cons_succ]
theorem Api_Op.sub_2 (q : List Nat) (z : Shape) : subEq sh29 (2 :: q) z = subEq sh3 q z := rfl
theorem Api_Op.sub_nil : subEq sh29 [] sh29 = true := by simp [subEq, Shape.sub]
theorem Api_Op.alloc : allocObj C (.alloc 29) = some (.var sh29 Api_Op.zero.cv) := by simp only [allocObj, tt29, ti29, Api_Op.zcv]
theorem Api_Op.xalloc (p : Hp) : xalloc C p 29 = .ret (.ptr p.n []) (p.new (.var sh29 Api_Op.zero.cv)) := by simp only [Cl.xalloc, tt29, ti29, Api_Op.zcv]
theorem Api_Op.xbox (p : Hp) (x : Api_Op) : xbox C p 29 x.cv = .ret (.ptr p.n []) (p.new (.var sh29 x.cv)) := by
  have h : Cl.shOk x.cv ti29.sh = true := Api_Op.shOk x
  simp only [Cl.xbox, tt29, h, cond_true]; rfl
theorem Api_Op.bld_0 (a0 : Int) : qbuild C 29 [(0, I a0)] = some (({ Code := a0, A := 0, B := 0 } : Api_Op).cv) := qbuild_of C tt29 (by simp only [partsOk, setAll, CV.shape, sh29, List.all_cons, List.all_nil, List.getElem?_cons_zero, List.getElem?_cons_succ, Bool.and_true, decide_true]) rfl
theorem Api_Op.bld_0_1 (a0 : Int) (a1 : Int) : qbuild C 29 [(0, I a0), (1, I a1)] = some (({ Code := a0, A := a1, B := 0 } : Api_Op).cv) := qbuild_of C tt29 (by simp only [partsOk, setAll, CV.shape, sh29, List.all_cons, List.all_nil, List.getElem?_cons_zero, List.getElem?_cons_succ, Bool.and_true, decide_true]) rfl
theorem Api_Op.bld_0_1_2 (a0 : Int) (a1 : Int) (a2 : Int) : qbuild C 29 [(0, I a0), (1, I a1), (2, I a2)] = some (({ Code := a0, A := a1, B := a2 } : Api_Op).cv) := qbuild_of C tt29 (by simp only [partsOk, setAll, CV.shape, sh29, List.all_cons, List.all_nil, List.getElem?_cons_zero, List.getElem?_cons_succ, Bool.and_true, decide_true]) rfl
structure Hand_RawOp where
  Code : Int
  A : Int
  B : Int
def Hand_RawOp.cv (x : Hand_RawOp) : CV := .agg [I x.Code, I x.A, I x.B]
@[ext] theorem Hand_RawOp.ext' {x y : Hand_RawOp} (h_Code : x.Code = y.Code) (h_A : x.A = y.A) (h_B : x.B = y.B) : x = y := by
  obtain ⟨a0, a1, a2⟩ := x
  obtain ⟨c0, c1, c2⟩ := y
  simp only at h_Code h_A h_B
  subst h_Code h_A h_B
  rfl
def Hand_RawOp.zero : Hand_RawOp := { Code := 0, A := 0, B := 0 }
instance : Inhabited Hand_RawOp := ⟨Hand_RawOp.zero⟩
theorem Hand_RawOp.zcv : z31 = Hand_RawOp.zero.cv := by
  simp only [z31, Hand_RawOp.zero, Hand_RawOp.cv, List.map_replicate, Lst.cv, List.map_nil]
theorem Hand_RawOp.shape (x : Hand_RawOp) : x.cv.shape = sh31 := by simp only [Hand_RawOp.cv, sh31, CV.shape, CV.shapes, Lst.shape]
theorem Hand_RawOp.nohas (x : Hand_RawOp) (j : Nat) : ¬ x.cv.has j := by simp [Hand_RawOp.cv, CV.has, CV.hasL]
instance : DecidableEq Hand_RawOp := fun x y => decidable_of_iff (x.Code = y.Code ∧ x.A = y.A ∧ x.B = y.B) ⟨fun h => Hand_RawOp.ext' h.1 h.2.1 h.2.2, fun h => by subst h; simp⟩
theorem Hand_RawOp.inj {x y : Hand_RawOp} (h : x.cv = y.cv) : x = y := by
  simp only [Hand_RawOp.cv, CV.agg.injEq, List.cons.injEq, and_true] at h
  obtain ⟨h0, h1, h2⟩ := h
  refine Hand_RawOp.ext' (I_inj _ _ h0) (I_inj _ _ h1) (I_inj _ _ h2)
theorem Hand_RawOp.injF (x y : Hand_RawOp) (h : x.cv = y.cv) : x = y := Hand_RawOp.inj h
theorem Hand_RawOp.inj_iff (x y : Hand_RawOp) : x.cv = y.cv ↔ x = y := ⟨Hand_RawOp.inj, fun h => by rw [h]⟩
theorem Hand_RawOp.shOk (x : Hand_RawOp) : Cl.shOk x.cv sh31 = true := shOk_n (Hand_RawOp.shape x) rfl
theorem Hand_RawOp.eq (d : Nat) (x y : Hand_RawOp) : eqCV C (d + 2) 31 x.cv y.cv = some (decide (x = y)) := by
  refine (eqCV_st C (d := d + 1) tt31 (Hand_RawOp.shape x) (Hand_RawOp.shape y) (eqList_c (eqCV_int C tt3 (d + 0) _ _) (eqList_c (eqCV_int C tt3 (d + 0) _ _) (eqList_c (eqCV_int C tt3 (d + 0) _ _) rfl)))).trans (congrArg some ?_)
  rw [Bool.eq_iff_iff]
  simp only [Bool.and_eq_true, decide_eq_true_eq, and_true]
  exact ⟨fun h => Hand_RawOp.ext' h.1 h.2.1 h.2.2, fun h => by subst h; simp⟩
theorem Hand_RawOp.eql (x y : Hand_RawOp) (b : Bool) : qbin C .eql 31 b x.cv y.cv = some (Bo (decide (x = y))) := by
  have h := Hand_RawOp.eq 10 x y
  unfold Hand_RawOp.cv at h ⊢
  simp only [qbin]
  rw [h]; rfl
theorem Hand_RawOp.neq (x y : Hand_RawOp) (b : Bool) : qbin C .neq 31 b x.cv y.cv = some (Bo (!decide (x = y))) := by
  have h := Hand_RawOp.eq 10 x y
  unfold Hand_RawOp.cv at h ⊢
  simp only [qbin]
  rw [h]; rfl
theorem Hand_RawOp.at_0 (x : Hand_RawOp) (q : List Nat) : x.cv.at (0 :: q) = (I x.Code).at q := rfl
def Hand_RawOp.upd_0 (x : Hand_RawOp) (v : CV) : CV := .agg [v, I x.A, I x.B]
theorem Hand_RawOp.set_0 (x : Hand_RawOp) (q : List Nat) (v : CV) : x.cv.set (0 :: q) v = Hand_RawOp.upd_0 x ((I x.Code).set q v) := rfl
theorem Hand_RawOp.fold_0 (x : Hand_RawOp) (y : Int) : Hand_RawOp.upd_0 x (I y) = ({ x with Code := y } : Hand_RawOp).cv := rfl
theorem Hand_RawOp.fld_0 (x : Hand_RawOp) : qfield C 31 x.cv 0 = some (I x.Code) := qfield_of C tt31 (Hand_RawOp.shape x) rfl tt3 rfl rfl
theorem Hand_RawOp.rfa_0 (x : Hand_RawOp) (h : Heap) : qfieldAddr C h 31 (.rptr x.cv) 0 = some (.rptr (I x.Code)) := by
  have hs := Hand_RawOp.shape x
  unfold Hand_RawOp.cv at hs ⊢
  simp only [qfieldAddr, tt31, ti31, tgt, hs, if_true, List.getElem?_cons_zero, List.getElem?_cons_succ]
theorem Hand_RawOp.sub_0 (q : List Nat) (z : Shape) : subEq sh31 (0 :: q) z = subEq sh3 q z := rfl
theorem Hand_RawOp.at_1 (x : Hand_RawOp) (q : List Nat) : x.cv.at (1 :: q) = (I x.A).at q := rfl
def Hand_RawOp.upd_1 (x : Hand_RawOp) (v : CV) : CV := .agg [I x.Code, v, I x.B]
theorem Hand_RawOp.set_1 (x : Hand_RawOp) (q : List Nat) (v : CV) : x.cv.set (1 :: q) v = Hand_RawOp.upd_1 x ((I x.A).set q v) := rfl
theorem Hand_RawOp.fold_1 (x : Hand_RawOp) (y : Int) : Hand_RawOp.upd_1 x (I y) = ({ x with A := y } : Hand_RawOp).cv := rfl
theorem Hand_RawOp.fld_1 (x : Hand_RawOp) : qfield C 31 x.cv 1 = some (I x.A) := qfield_of C tt31 (Hand_RawOp.shape x) rfl tt3 rfl rfl
theorem Hand_RawOp.rfa_1 (x : Hand_RawOp) (h : Heap) : qfieldAddr C h 31 (.rptr x.cv) 1 = some (.rptr (I x.A)) := by
  have hs := Hand_RawOp.shape x
  unfold Hand_RawOp.cv at hs ⊢
  simp only [qfieldAddr, tt31, ti31, tgt, hs, if_true, List.getElem?_cons_zero, List.getElem?_cons_succ]
theorem Hand_RawOp.sub_1 (q : List Nat) (z : Shape) : subEq sh31 (1 :: q) z = subEq sh3 q z := rfl
theorem Hand_RawOp.at_2 (x : Hand_RawOp) (q : List Nat) : x.cv.at (2 :: q) = (I x.B).at q := rfl
def Hand_RawOp.upd_2 (x : Hand_RawOp) (v : CV) : CV := .agg [I x.Code, I x.A, v]
theorem Hand_RawOp.set_2 (x : Hand_RawOp) (q : List Nat) (v : CV) : x.cv.set (2 :: q) v = Hand_RawOp.upd_2 x ((I x.B).set q v) := rfl
theorem Hand_RawOp.fold_2 (x : Hand_RawOp) (y : Int) : Hand_RawOp.upd_2 x (I y) = ({ x with B := y } : Hand_RawOp).cv := rfl
theorem Hand_RawOp.fld_2 (x : Hand_RawOp) : qfield C 31 x.cv 2 = some (I x.B) := qfield_of C tt31 (Hand_RawOp.shape x) rfl tt3 rfl rfl
theorem Hand_RawOp.rfa_2 (x : Hand_RawOp) (h : Heap) : qfieldAddr C h 31 (.rptr x.cv) 2 = some (.rptr (I x.B)) := by
  have hs := Hand_RawOp.shape x
  unfold Hand_RawOp.cv at hs ⊢
  simp only [qfieldAddr, tt31, ti31, tgt, hs, if_true, List.getElem?_cons_zero, List.getElem?_cons_succ]
theorem Hand_RawOp.sub_2 (q : List Nat) (z : Shape) : subEq sh31 (2 :: q) z = subEq sh3 q z := rfl
theorem Hand_RawOp.sub_nil : subEq sh31 [] sh31 = true := by simp [subEq, Shape.sub]
theorem Hand_RawOp.alloc : allocObj C (.alloc 31) = some (.var sh31 Hand_RawOp.zero.cv) := by simp only [allocObj, tt31, ti31, Hand_RawOp.zcv]
theorem Hand_RawOp.xalloc (p : Hp) : xalloc C p 31 = .ret (.ptr p.n []) (p.new (.var sh31 Hand_RawOp.zero.cv)) := by simp only [Cl.xalloc, tt31, ti31, Hand_RawOp.zcv]
theorem Hand_RawOp.xbox (p : Hp) (x : Hand_RawOp) : xbox C p 31 x.cv = .ret (.ptr p.n []) (p.new (.var sh31 x.cv)) := by
  have h : Cl.shOk x.cv ti31.sh = true := Hand_RawOp.shOk x
  simp only [Cl.xbox, tt31, h, cond_true]; rfl
structure Api_Body where
  Kind : Int
  Owner : Int
  X : Int
  Y : Int
  VX : Int
  VY : Int
  Age : Int
  Mem : List Int
  hMem : Mem.length = 4
  Faults : Int
def Api_Body.cv (x : Api_Body) : CV := .agg [I x.Kind, I x.Owner, I x.X, I x.Y, I x.VX, I x.VY, I x.Age, .agg (x.Mem.map I), I x.Faults]
@[ext] theorem Api_Body.ext' {x y : Api_Body} (h_Kind : x.Kind = y.Kind) (h_Owner : x.Owner = y.Owner) (h_X : x.X = y.X) (h_Y : x.Y = y.Y) (h_VX : x.VX = y.VX) (h_VY : x.VY = y.VY) (h_Age : x.Age = y.Age) (h_Mem : x.Mem = y.Mem) (h_Faults : x.Faults = y.Faults) : x = y := by
  obtain ⟨a0, a1, a2, a3, a4, a5, a6, a7, ha, a8⟩ := x
  obtain ⟨c0, c1, c2, c3, c4, c5, c6, c7, hc, c8⟩ := y
  simp only at h_Kind h_Owner h_X h_Y h_VX h_VY h_Age h_Mem h_Faults
  subst h_Kind h_Owner h_X h_Y h_VX h_VY h_Age h_Mem h_Faults
  rfl
def Api_Body.zero : Api_Body := { Kind := 0, Owner := 0, X := 0, Y := 0, VX := 0, VY := 0, Age := 0, Mem := (List.replicate 4 0), hMem := List.length_replicate, Faults := 0 }
instance : Inhabited Api_Body := ⟨Api_Body.zero⟩
theorem Api_Body.zcv : z34 = Api_Body.zero.cv := by
  simp only [z34, Api_Body.zero, Api_Body.cv, z32, List.map_replicate, Lst.cv, List.map_nil]
theorem Api_Body.shape (x : Api_Body) : x.cv.shape = sh34 := by simp only [Api_Body.cv, sh34, CV.shape, CV.shapes, Lst.shape, shapes_map (f := I) (s := Shape.s) (fun _ => rfl), x.hMem, sh32]
theorem Api_Body.nohas (x : Api_Body) (j : Nat) : ¬ x.cv.has j := by simp [Api_Body.cv, CV.has, CV.hasL, hasL_map I_has]
instance : DecidableEq Api_Body := fun x y => decidable_of_iff (x.Kind = y.Kind ∧ x.Owner = y.Owner ∧ x.X = y.X ∧ x.Y = y.Y ∧ x.VX = y.VX ∧ x.VY = y.VY ∧ x.Age = y.Age ∧ x.Mem = y.Mem ∧ x.Faults = y.Faults) ⟨fun h => Api_Body.ext' h.1 h.2.1 h.2.2.1 h.2.2.2.1 h.2.2.2.2.1 h.2.2.2.2.2.1 h.2.2.2.2.2.2.1 h.2.2.2.2.2.2.2.1 h.2.2.2.2.2.2.2.2, fun h => by subst h; simp⟩
theorem Api_Body.inj {x y : Api_Body} (h : x.cv = y.cv) : x = y := by
  simp only [Api_Body.cv, CV.agg.injEq, List.cons.injEq, and_true] at h
  obtain ⟨h0, h1, h2, h3, h4, h5, h6, h7, h8⟩ := h
  refine Api_Body.ext' (I_inj _ _ h0) (I_inj _ _ h1) (I_inj _ _ h2) (I_inj _ _ h3) (I_inj _ _ h4) (I_inj _ _ h5) (I_inj _ _ h6) (map_inj I_inj h7) (I_inj _ _ h8)
theorem Api_Body.injF (x y : Api_Body) (h : x.cv = y.cv) : x = y := Api_Body.inj h
theorem Api_Body.inj_iff (x y : Api_Body) : x.cv = y.cv ↔ x = y := ⟨Api_Body.inj, fun h => by rw [h]⟩
theorem Api_Body.shOk (x : Api_Body) : Cl.shOk x.cv sh34 = true := shOk_n (Api_Body.shape x) rfl
theorem Api_Body.eq (d : Nat) (x y : Api_Body) : eqCV C (d + 3) 34 x.cv y.cv = some (decide (x = y)) := by
  refine (eqCV_st C (d := d + 2) tt34 (Api_Body.shape x) (Api_Body.shape y) (eqList_c (eqCV_int C tt3 (d + 1) _ _) (eqList_c (eqCV_int C tt3 (d + 1) _ _) (eqList_c (eqCV_int C tt3 (d + 1) _ _) (eqList_c (eqCV_int C tt3 (d + 1) _ _) (eqList_c (eqCV_int C tt3 (d + 1) _ _) (eqList_c (eqCV_int C tt3 (d + 1) _ _) (eqList_c (eqCV_int C tt3 (d + 1) _ _) (eqList_c (eqCV_ar C (g := I) (d := d + 1) tt32 rfl (fun _ => rfl) x.hMem y.hMem (eqCV_int C tt3 (d + 0))) (eqList_c (eqCV_int C tt3 (d + 1) _ _) rfl)))))))))).trans (congrArg some ?_)
  rw [Bool.eq_iff_iff]
  simp only [Bool.and_eq_true, decide_eq_true_eq, and_true]
  exact ⟨fun h => Api_Body.ext' h.1 h.2.1 h.2.2.1 h.2.2.2.1 h.2.2.2.2.1 h.2.2.2.2.2.1 h.2.2.2.2.2.2.1 h.2.2.2.2.2.2.2.1 h.2.2.2.2.2.2.2.2, fun h => by subst h; simp⟩
theorem Api_Body.eql (x y : Api_Body) (b : Bool) : qbin C .eql 34 b x.cv y.cv = some (Bo (decide (x = y))) := by
  have h := Api_Body.eq 9 x y
  unfold Api_Body.cv at h ⊢
  simp only [qbin]
  rw [h]; rfl
theorem Api_Body.neq (x y : Api_Body) (b : Bool) : qbin C .neq 34 b x.cv y.cv = some (Bo (!decide (x = y))) := by
  have h := Api_Body.eq 9 x y
  unfold Api_Body.cv at h ⊢
  simp only [qbin]
  rw [h]; rfl
theorem Api_Body.at_0 (x : Api_Body) (q : List Nat) : x.cv.at (0 :: q) = (I x.Kind).at q := rfl
def Api_Body.upd_0 (x : Api_Body) (v : CV) : CV := .agg [v, I x.Owner, I x.X, I x.Y, I x.VX, I x.VY, I x.Age, .agg (x.Mem.map I), I x.Faults]
theorem Api_Body.set_0 (x : Api_Body) (q : List Nat) (v : CV) : x.cv.set (0 :: q) v = Api_Body.upd_0 x ((I x.Kind).set q v) := rfl
theorem Api_Body.fold_0 (x : Api_Body) (y : Int) : Api_Body.upd_0 x (I y) = ({ x with Kind := y } : Api_Body).cv := rfl
theorem Api_Body.fld_0 (x : Api_Body) : qfield C 34 x.cv 0 = some (I x.Kind) := qfield_of C tt34 (Api_Body.shape x) rfl tt3 rfl rfl
theorem Api_Body.rfa_0 (x : Api_Body) (h : Heap) : qfieldAddr C h 34 (.rptr x.cv) 0 = some (.rptr (I x.Kind)) := by
  have hs := Api_Body.shape x
  unfold Api_Body.cv at hs ⊢
  simp only [qfieldAddr, tt34, ti34, tgt, hs, if_true, List.getElem?_cons_zero, List.getElem?_cons_succ]
theorem Api_Body.sub_0 (q : List Nat) (z : Shape) : subEq sh34 (0 :: q) z = subEq sh3 q z := rfl
theorem Api_Body.at_1 (x : Api_Body) (q : List Nat) : x.cv.at (1 :: q) = (I x.Owner).at q := rfl
def Api_Body.upd_1 (x : Api_Body) (v : CV) : CV := .agg [I x.Kind, v, I x.X, I x.Y, I x.VX, I x.VY, I x.Age, .agg (x.Mem.map I), I x.Faults]
theorem Api_Body.set_1 (x : Api_Body) (q : List Nat) (v : CV) : x.cv.set (1 :: q) v = Api_Body.upd_1 x ((I x.Owner).set q v) := rfl
theorem Api_Body.fold_1 (x : Api_Body) (y : Int) : Api_Body.upd_1 x (I y) = ({ x with Owner := y } : Api_Body).cv := rfl
theorem Api_Body.fld_1 (x : Api_Body) : qfield C 34 x.cv 1 = some (I x.Owner) := qfield_of C tt34 (Api_Body.shape x) rfl tt3 rfl rfl
theorem Api_Body.rfa_1 (x : Api_Body) (h : Heap) : qfieldAddr C h 34 (.rptr x.cv) 1 = some (.rptr (I x.Owner)) := by
  have hs := Api_Body.shape x
  unfold Api_Body.cv at hs ⊢
  simp only [qfieldAddr, tt34, ti34, tgt, hs, if_true, List.getElem?_cons_zero, List.getElem?_cons_succ]
theorem Api_Body.sub_1 (q : List Nat) (z : Shape) : subEq sh34 (1 :: q) z = subEq sh3 q z := rfl
theorem Api_Body.at_2 (x : Api_Body) (q : List Nat) : x.cv.at (2 :: q) = (I x.X).at q := rfl
def Api_Body.upd_2 (x : Api_Body) (v : CV) : CV := .agg [I x.Kind, I x.Owner, v, I x.Y, I x.VX, I x.VY, I x.Age, .agg (x.Mem.map I), I x.Faults]
theorem Api_Body.set_2 (x : Api_Body) (q : List Nat) (v : CV) : x.cv.set (2 :: q) v = Api_Body.upd_2 x ((I x.X).set q v) := rfl
theorem Api_Body.fold_2 (x : Api_Body) (y : Int) : Api_Body.upd_2 x (I y) = ({ x with X := y } : Api_Body).cv := rfl
theorem Api_Body.fld_2 (x : Api_Body) : qfield C 34 x.cv 2 = some (I x.X) := qfield_of C tt34 (Api_Body.shape x) rfl tt3 rfl rfl
theorem Api_Body.rfa_2 (x : Api_Body) (h : Heap) : qfieldAddr C h 34 (.rptr x.cv) 2 = some (.rptr (I x.X)) := by
  have hs := Api_Body.shape x
  unfold Api_Body.cv at hs ⊢
  simp only [qfieldAddr, tt34, ti34, tgt, hs, if_true, List.getElem?_cons_zero, List.getElem?_cons_succ]
theorem Api_Body.sub_2 (q : List Nat) (z : Shape) : subEq sh34 (2 :: q) z = subEq sh3 q z := rfl
theorem Api_Body.at_3 (x : Api_Body) (q : List Nat) : x.cv.at (3 :: q) = (I x.Y).at q := rfl
def Api_Body.upd_3 (x : Api_Body) (v : CV) : CV := .agg [I x.Kind, I x.Owner, I x.X, v, I x.VX, I x.VY, I x.Age, .agg (x.Mem.map I), I x.Faults]
theorem Api_Body.set_3 (x : Api_Body) (q : List Nat) (v : CV) : x.cv.set (3 :: q) v = Api_Body.upd_3 x ((I x.Y).set q v) := rfl
theorem Api_Body.fold_3 (x : Api_Body) (y : Int) : Api_Body.upd_3 x (I y) = ({ x with Y := y } : Api_Body).cv := rfl
theorem Api_Body.fld_3 (x : Api_Body) : qfield C 34 x.cv 3 = some (I x.Y) := qfield_of C tt34 (Api_Body.shape x) rfl tt3 rfl rfl
theorem Api_Body.rfa_3 (x : Api_Body) (h : Heap) : qfieldAddr C h 34 (.rptr x.cv) 3 = some (.rptr (I x.Y)) := by
  have hs := Api_Body.shape x
  unfold Api_Body.cv at hs ⊢
  simp only [qfieldAddr, tt34, ti34, tgt, hs, if_true, List.getElem?_cons_zero, List.getElem?_cons_succ]
theorem Api_Body.sub_3 (q : List Nat) (z : Shape) : subEq sh34 (3 :: q) z = subEq sh3 q z := rfl
theorem Api_Body.at_4 (x : Api_Body) (q : List Nat) : x.cv.at (4 :: q) = (I x.VX).at q := rfl
def Api_Body.upd_4 (x : Api_Body) (v : CV) : CV := .agg [I x.Kind, I x.Owner, I x.X, I x.Y, v, I x.VY, I x.Age, .agg (x.Mem.map I), I x.Faults]
theorem Api_Body.set_4 (x : Api_Body) (q : List Nat) (v : CV) : x.cv.set (4 :: q) v = Api_Body.upd_4 x ((I x.VX).set q v) := rfl
theorem Api_Body.fold_4 (x : Api_Body) (y : Int) : Api_Body.upd_4 x (I y) = ({ x with VX := y } : Api_Body).cv := rfl
theorem Api_Body.fld_4 (x : Api_Body) : qfield C 34 x.cv 4 = some (I x.VX) := qfield_of C tt34 (Api_Body.shape x) rfl tt3 rfl rfl
theorem Api_Body.rfa_4 (x : Api_Body) (h : Heap) : qfieldAddr C h 34 (.rptr x.cv) 4 = some (.rptr (I x.VX)) := by
  have hs := Api_Body.shape x
  unfold Api_Body.cv at hs ⊢
  simp only [qfieldAddr, tt34, ti34, tgt, hs, if_true, List.getElem?_cons_zero, List.getElem?_cons_succ]
theorem Api_Body.sub_4 (q : List Nat) (z : Shape) : subEq sh34 (4 :: q) z = subEq sh3 q z := rfl
theorem Api_Body.at_5 (x : Api_Body) (q : List Nat) : x.cv.at (5 :: q) = (I x.VY).at q := rfl
def Api_Body.upd_5 (x : Api_Body) (v : CV) : CV := .agg [I x.Kind, I x.Owner, I x.X, I x.Y, I x.VX, v, I x.Age, .agg (x.Mem.map I), I x.Faults]
theorem Api_Body.set_5 (x : Api_Body) (q : List Nat) (v : CV) : x.cv.set (5 :: q) v = Api_Body.upd_5 x ((I x.VY).set q v) := rfl
theorem Api_Body.fold_5 (x : Api_Body) (y : Int) : Api_Body.upd_5 x (I y) = ({ x with VY := y } : Api_Body).cv := rfl
theorem Api_Body.fld_5 (x : Api_Body) : qfield C 34 x.cv 5 = some (I x.VY) := qfield_of C tt34 (Api_Body.shape x) rfl tt3 rfl rfl
theorem Api_Body.rfa_5 (x : Api_Body) (h : Heap) : qfieldAddr C h 34 (.rptr x.cv) 5 = some (.rptr (I x.VY)) := by
  have hs := Api_Body.shape x
  unfold Api_Body.cv at hs ⊢
  simp only [qfieldAddr, tt34, ti34, tgt, hs, if_true, List.getElem?_cons_zero, List.getElem?_cons_succ]
theorem Api_Body.sub_5 (q : List Nat) (z : Shape) : subEq sh34 (5 :: q) z = subEq sh3 q z := rfl
theorem Api_Body.at_6 (x : Api_Body) (q : List Nat) : x.cv.at (6 :: q) = (I x.Age).at q := rfl
def Api_Body.upd_6 (x : Api_Body) (v : CV) : CV := .agg [I x.Kind, I x.Owner, I x.X, I x.Y, I x.VX, I x.VY, v, .agg (x.Mem.map I), I x.Faults]
theorem Api_Body.set_6 (x : Api_Body) (q : List Nat) (v : CV) : x.cv.set (6 :: q) v = Api_Body.upd_6 x ((I x.Age).set q v) := rfl
theorem Api_Body.fold_6 (x : Api_Body) (y : Int) : Api_Body.upd_6 x (I y) = ({ x with Age := y } : Api_Body).cv := rfl
theorem Api_Body.fld_6 (x : Api_Body) : qfield C 34 x.cv 6 = some (I x.Age) := qfield_of C tt34 (Api_Body.shape x) rfl tt3 rfl rfl
theorem Api_Body.rfa_6 (x : Api_Body) (h : Heap) : qfieldAddr C h 34 (.rptr x.cv) 6 = some (.rptr (I x.Age)) := by
  have hs := Api_Body.shape x
  unfold Api_Body.cv at hs ⊢
  simp only [qfieldAddr, tt34, ti34, tgt, hs, if_true, List.getElem?_cons_zero, List.getElem?_cons_succ]
theorem Api_Body.sub_6 (q : List Nat) (z : Shape) : subEq sh34 (6 :: q) z = subEq sh3 q z := rfl
theorem Api_Body.at_7 (x : Api_Body) : x.cv.at [7] = some (.agg (x.Mem.map I)) := rfl
theorem Api_Body.at_7k (x : Api_Body) (k : Nat) (q : List Nat) (h : k < 4) : x.cv.at (7 :: k :: q) = (I (nth x.Mem k)).at q := by
  show (CV.agg (x.Mem.map I)).at (k :: q) = _
  exact arr_at _ (by rw [x.hMem]; exact h) q
def Api_Body.upd_7 (x : Api_Body) (v : CV) : CV := .agg [I x.Kind, I x.Owner, I x.X, I x.Y, I x.VX, I x.VY, I x.Age, v, I x.Faults]
def Api_Body.upd_7k (x : Api_Body) (k : Nat) (v : CV) : CV := .agg [I x.Kind, I x.Owner, I x.X, I x.Y, I x.VX, I x.VY, I x.Age, .agg ((x.Mem.map I).set k v), I x.Faults]
theorem Api_Body.set_7 (x : Api_Body) (v : CV) : x.cv.set [7] v = Api_Body.upd_7 x v := by simp [Api_Body.cv, Api_Body.upd_7, CV.set, set_nil]
theorem Api_Body.set_7k (x : Api_Body) (k : Nat) (q : List Nat) (v : CV) (h : k < 4) : x.cv.set (7 :: k :: q) v = Api_Body.upd_7k x k ((I (nth x.Mem k)).set q v) := by
  have e : x.cv.set (7 :: k :: q) v = Api_Body.upd_7 x ((CV.agg (x.Mem.map I)).set (k :: q) v) := rfl
  rw [e, arr_set _ (by rw [x.hMem]; exact h)]; rfl
def Api_Body.put_7k (x : Api_Body) (k : Nat) (y : Int) : Api_Body := { x with Mem := x.Mem.set k y, hMem := by rw [List.length_set]; exact x.hMem }
theorem Api_Body.fold_7k (x : Api_Body) (k : Nat) (y : Int) : Api_Body.upd_7k x k (I y) = (Api_Body.put_7k x k y).cv := by simp only [Api_Body.upd_7k, Api_Body.put_7k, Api_Body.cv, List.map_set]
theorem Api_Body.fold_7 (x : Api_Body) (l : List Int) (h : l.length = 4) : Api_Body.upd_7 x (.agg (l.map I)) = ({ x with Mem := l, hMem := h } : Api_Body).cv := rfl
theorem Api_Body.fld_7 (x : Api_Body) : qfield C 34 x.cv 7 = some (.agg (x.Mem.map I)) := qfield_of C tt34 (Api_Body.shape x) rfl tt32 rfl (shOk_n (sh := sh32) (by simp only [CV.shape, shapes_map (f := I) (s := Shape.s) (fun _ => rfl), x.hMem, sh32]) rfl)
theorem Api_Body.rfa_7 (x : Api_Body) (h : Heap) : qfieldAddr C h 34 (.rptr x.cv) 7 = some (.rptr (.agg (x.Mem.map I))) := by
  have hs := Api_Body.shape x
  unfold Api_Body.cv at hs ⊢
  simp only [qfieldAddr, tt34, ti34, tgt, hs, if_true, List.getElem?_cons_zero, List.getElem?_cons_succ]
theorem Api_Body.sub_7k (k : Nat) (q : List Nat) (z : Shape) : subEq sh34 (7 :: k :: q) z = (decide (k < 4) && subEq sh3 q z) := sub_rep 4 k q sh3 z
theorem Api_Body.sub_7 (z : Shape) : subEq sh34 [7] z = subEq sh32 [] z := rfl
theorem Api_Body.at_8 (x : Api_Body) (q : List Nat) : x.cv.at (8 :: q) = (I x.Faults).at q := rfl
def Api_Body.upd_8 (x : Api_Body) (v : CV) : CV := .agg [I x.Kind, I x.Owner, I x.X, I x.Y, I x.VX, I x.VY, I x.Age, .agg (x.Mem.map I), v]
theorem Api_Body.set_8 (x : Api_Body) (q : List Nat) (v : CV) : x.cv.set (8 :: q) v = Api_Body.upd_8 x ((I x.Faults).set q v) := rfl
theorem Api_Body.fold_8 (x : Api_Body) (y : Int) : Api_Body.upd_8 x (I y) = ({ x with Faults := y } : Api_Body).cv := rfl
theorem Api_Body.fld_8 (x : Api_Body) : qfield C 34 x.cv 8 = some (I x.Faults) := qfield_of C tt34 (Api_Body.shape x) rfl tt3 rfl rfl
theorem Api_Body.rfa_8 (x : Api_Body) (h : Heap) : qfieldAddr C h 34 (.rptr x.cv) 8 = some (.rptr (I x.Faults)) := by
  have hs := Api_Body.shape x
  unfold Api_Body.cv at hs ⊢
  simp only [qfieldAddr, tt34, ti34, tgt, hs, if_true, List.getElem?_cons_zero, List.getElem?_cons_succ]
theorem Api_Body.sub_8 (q : List Nat) (z : Shape) : subEq sh34 (8 :: q) z = subEq sh3 q z := rfl
theorem Api_Body.sub_nil : subEq sh34 [] sh34 = true := by simp [subEq, Shape.sub]
theorem Api_Body.alloc : allocObj C (.alloc 34) = some (.var sh34 Api_Body.zero.cv) := by simp only [allocObj, tt34, ti34, Api_Body.zcv]
theorem Api_Body.xalloc (p : Hp) : xalloc C p 34 = .ret (.ptr p.n []) (p.new (.var sh34 Api_Body.zero.cv)) := by simp only [Cl.xalloc, tt34, ti34, Api_Body.zcv]
theorem Api_Body.xbox (p : Hp) (x : Api_Body) : xbox C p 34 x.cv = .ret (.ptr p.n []) (p.new (.var sh34 x.cv)) := by
  have h : Cl.shOk x.cv ti34.sh = true := Api_Body.shOk x
  simp only [Cl.xbox, tt34, h, cond_true]; rfl
theorem Api_Body.bld_none  : qbuild C 34 [] = some (({ Kind := 0, Owner := 0, X := 0, Y := 0, VX := 0, VY := 0, Age := 0, Mem := (List.replicate 4 0), hMem := List.length_replicate, Faults := 0 } : Api_Body).cv) := qbuild_of C tt34 (by simp only [partsOk, setAll, CV.shape, sh34, List.all_cons, List.all_nil, List.getElem?_cons_zero, List.getElem?_cons_succ, Bool.and_true, decide_true]) rfl
theorem Api_Body.bld_0 (a0 : Int) : qbuild C 34 [(0, I a0)] = some (({ Kind := a0, Owner := 0, X := 0, Y := 0, VX := 0, VY := 0, Age := 0, Mem := (List.replicate 4 0), hMem := List.length_replicate, Faults := 0 } : Api_Body).cv) := qbuild_of C tt34 (by simp only [partsOk, setAll, CV.shape, sh34, List.all_cons, List.all_nil, List.getElem?_cons_zero, List.getElem?_cons_succ, Bool.and_true, decide_true]) rfl
theorem Api_Body.bld_0_1_2_3 (a0 : Int) (a1 : Int) (a2 : Int) (a3 : Int) : qbuild C 34 [(0, I a0), (1, I a1), (2, I a2), (3, I a3)] = some (({ Kind := a0, Owner := a1, X := a2, Y := a3, VX := 0, VY := 0, Age := 0, Mem := (List.replicate 4 0), hMem := List.length_replicate, Faults := 0 } : Api_Body).cv) := qbuild_of C tt34 (by simp only [partsOk, setAll, CV.shape, sh34, List.all_cons, List.all_nil, List.getElem?_cons_zero, List.getElem?_cons_succ, Bool.and_true, decide_true]) rfl
theorem Api_Body.bld_0_1_2_3_4_5 (a0 : Int) (a1 : Int) (a2 : Int) (a3 : Int) (a4 : Int) (a5 : Int) : qbuild C 34 [(0, I a0), (1, I a1), (2, I a2), (3, I a3), (4, I a4), (5, I a5)] = some (({ Kind := a0, Owner := a1, X := a2, Y := a3, VX := a4, VY := a5, Age := 0, Mem := (List.replicate 4 0), hMem := List.length_replicate, Faults := 0 } : Api_Body).cv) := qbuild_of C tt34 (by simp only [partsOk, setAll, CV.shape, sh34, List.all_cons, List.all_nil, List.getElem?_cons_zero, List.getElem?_cons_succ, Bool.and_true, decide_true]) rfl
structure Api_Input where
  Buttons : Int
  X : Int
  Y : Int
def Api_Input.cv (x : Api_Input) : CV := .agg [I x.Buttons, I x.X, I x.Y]
@[ext] theorem Api_Input.ext' {x y : Api_Input} (h_Buttons : x.Buttons = y.Buttons) (h_X : x.X = y.X) (h_Y : x.Y = y.Y) : x = y := by
  obtain ⟨a0, a1, a2⟩ := x
  obtain ⟨c0, c1, c2⟩ := y
  simp only at h_Buttons h_X h_Y
  subst h_Buttons h_X h_Y
  rfl
def Api_Input.zero : Api_Input := { Buttons := 0, X := 0, Y := 0 }
instance : Inhabited Api_Input := ⟨Api_Input.zero⟩
theorem Api_Input.zcv : z36 = Api_Input.zero.cv := by
  simp only [z36, Api_Input.zero, Api_Input.cv, List.map_replicate, Lst.cv, List.map_nil]
theorem Api_Input.shape (x : Api_Input) : x.cv.shape = sh36 := by simp only [Api_Input.cv, sh36, CV.shape, CV.shapes, Lst.shape]
theorem Api_Input.nohas (x : Api_Input) (j : Nat) : ¬ x.cv.has j := by simp [Api_Input.cv, CV.has, CV.hasL]
instance : DecidableEq Api_Input := fun x y => decidable_of_iff (x.Buttons = y.Buttons ∧ x.X = y.X ∧ x.Y = y.Y) ⟨fun h => Api_Input.ext' h.1 h.2.1 h.2.2, fun h => by subst h; simp⟩
theorem Api_Input.inj {x y : Api_Input} (h : x.cv = y.cv) : x = y := by
  simp only [Api_Input.cv, CV.agg.injEq, List.cons.injEq, and_true] at h
  obtain ⟨h0, h1, h2⟩ := h
  refine Api_Input.ext' (I_inj _ _ h0) (I_inj _ _ h1) (I_inj _ _ h2)
theorem Api_Input.injF (x y : Api_Input) (h : x.cv = y.cv) : x = y := Api_Input.inj h
theorem Api_Input.inj_iff (x y : Api_Input) : x.cv = y.cv ↔ x = y := ⟨Api_Input.inj, fun h => by rw [h]⟩
theorem Api_Input.shOk (x : Api_Input) : Cl.shOk x.cv sh36 = true := shOk_n (Api_Input.shape x) rfl
theorem Api_Input.eq (d : Nat) (x y : Api_Input) : eqCV C (d + 2) 36 x.cv y.cv = some (decide (x = y)) := by
  refine (eqCV_st C (d := d + 1) tt36 (Api_Input.shape x) (Api_Input.shape y) (eqList_c (eqCV_int C tt3 (d + 0) _ _) (eqList_c (eqCV_int C tt3 (d + 0) _ _) (eqList_c (eqCV_int C tt3 (d + 0) _ _) rfl)))).trans (congrArg some ?_)
  rw [Bool.eq_iff_iff]
  simp only [Bool.and_eq_true, decide_eq_true_eq, and_true]
  exact ⟨fun h => Api_Input.ext' h.1 h.2.1 h.2.2, fun h => by subst h; simp⟩
theorem Api_Input.eql (x y : Api_Input) (b : Bool) : qbin C .eql 36 b x.cv y.cv = some (Bo (decide (x = y))) := by
  have h := Api_Input.eq 10 x y
  unfold Api_Input.cv at h ⊢
  simp only [qbin]
  rw [h]; rfl
theorem Api_Input.neq (x y : Api_Input) (b : Bool) : qbin C .neq 36 b x.cv y.cv = some (Bo (!decide (x = y))) := by
  have h := Api_Input.eq 10 x y
  unfold Api_Input.cv at h ⊢
  simp only [qbin]
  rw [h]; rfl
theorem Api_Input.at_0 (x : Api_Input) (q : List Nat) : x.cv.at (0 :: q) = (I x.Buttons).at q := rfl
def Api_Input.upd_0 (x : Api_Input) (v : CV) : CV := .agg [v, I x.X, I x.Y]
theorem Api_Input.set_0 (x : Api_Input) (q : List Nat) (v : CV) : x.cv.set (0 :: q) v = Api_Input.upd_0 x ((I x.Buttons).set q v) := rfl
theorem Api_Input.fold_0 (x : Api_Input) (y : Int) : Api_Input.upd_0 x (I y) = ({ x with Buttons := y } : Api_Input).cv := rfl
theorem Api_Input.fld_0 (x : Api_Input) : qfield C 36 x.cv 0 = some (I x.Buttons) := qfield_of C tt36 (Api_Input.shape x) rfl tt3 rfl rfl
theorem Api_Input.rfa_0 (x : Api_Input) (h : Heap) : qfieldAddr C h 36 (.rptr x.cv) 0 = some (.rptr (I x.Buttons)) := by
  have hs := Api_Input.shape x
  unfold Api_Input.cv at hs ⊢
  simp only [qfieldAddr, tt36, ti36, tgt, hs, if_true, List.getElem?_cons_zero, List.getElem?_cons_succ]
theorem Api_Input.sub_0 (q : List Nat) (z : Shape) : subEq sh36 (0 :: q) z = subEq sh3 q z := rfl
theorem Api_Input.at_1 (x : Api_Input) (q : List Nat) : x.cv.at (1 :: q) = (I x.X).at q := rfl
def Api_Input.upd_1 (x : Api_Input) (v : CV) : CV := .agg [I x.Buttons, v, I x.Y]
theorem Api_Input.set_1 (x : Api_Input) (q : List Nat) (v : CV) : x.cv.set (1 :: q) v = Api_Input.upd_1 x ((I x.X).set q v) := rfl
theorem Api_Input.fold_1 (x : Api_Input) (y : Int) : Api_Input.upd_1 x (I y) = ({ x with X := y } : Api_Input).cv := rfl
theorem Api_Input.fld_1 (x : Api_Input) : qfield C 36 x.cv 1 = some (I x.X) := qfield_of C tt36 (Api_Input.shape x) rfl tt3 rfl rfl
theorem Api_Input.rfa_1 (x : Api_Input) (h : Heap) : qfieldAddr C h 36 (.rptr x.cv) 1 = some (.rptr (I x.X)) := by
  have hs := Api_Input.shape x
  unfold Api_Input.cv at hs ⊢
  simp only [qfieldAddr, tt36, ti36, tgt, hs, if_true, List.getElem?_cons_zero, List.getElem?_cons_succ]
theorem Api_Input.sub_1 (q : List Nat) (z : Shape) : subEq sh36 (1 :: q) z = subEq sh3 q z := rfl
theorem Api_Input.at_2 (x : Api_Input) (q : List Nat) : x.cv.at (2 :: q) = (I x.Y).at q := rfl
def Api_Input.upd_2 (x : Api_Input) (v : CV) : CV := .agg [I x.Buttons, I x.X, v]
theorem Api_Input.set_2 (x : Api_Input) (q : List Nat) (v : CV) : x.cv.set (2 :: q) v = Api_Input.upd_2 x ((I x.Y).set q v) := rfl
theorem Api_Input.fold_2 (x : Api_Input) (y : Int) : Api_Input.upd_2 x (I y) = ({ x with Y := y } : Api_Input).cv := rfl
theorem Api_Input.fld_2 (x : Api_Input) : qfield C 36 x.cv 2 = some (I x.Y) := qfield_of C tt36 (Api_Input.shape x) rfl tt3 rfl rfl
theorem Api_Input.rfa_2 (x : Api_Input) (h : Heap) : qfieldAddr C h 36 (.rptr x.cv) 2 = some (.rptr (I x.Y)) := by
  have hs := Api_Input.shape x
  unfold Api_Input.cv at hs ⊢
  simp only [qfieldAddr, tt36, ti36, tgt, hs, if_true, List.getElem?_cons_zero, List.getElem?_cons_succ]
theorem Api_Input.sub_2 (q : List Nat) (z : Shape) : subEq sh36 (2 :: q) z = subEq sh3 q z := rfl
theorem Api_Input.sub_nil : subEq sh36 [] sh36 = true := by simp [subEq, Shape.sub]
theorem Api_Input.alloc : allocObj C (.alloc 36) = some (.var sh36 Api_Input.zero.cv) := by simp only [allocObj, tt36, ti36, Api_Input.zcv]
theorem Api_Input.xalloc (p : Hp) : xalloc C p 36 = .ret (.ptr p.n []) (p.new (.var sh36 Api_Input.zero.cv)) := by simp only [Cl.xalloc, tt36, ti36, Api_Input.zcv]
theorem Api_Input.xbox (p : Hp) (x : Api_Input) : xbox C p 36 x.cv = .ret (.ptr p.n []) (p.new (.var sh36 x.cv)) := by
  have h : Cl.shOk x.cv ti36.sh = true := Api_Input.shOk x
  simp only [Cl.xbox, tt36, h, cond_true]; rfl
theorem Api_Input.bld_none  : qbuild C 36 [] = some (({ Buttons := 0, X := 0, Y := 0 } : Api_Input).cv) := qbuild_of C tt36 (by simp only [partsOk, setAll, CV.shape, sh36, List.all_cons, List.all_nil, List.getElem?_cons_zero, List.getElem?_cons_succ, Bool.and_true, decide_true]) rfl
theorem Api_Input.bld_0_1 (a0 : Int) (a1 : Int) : qbuild C 36 [(0, I a0), (1, I a1)] = some (({ Buttons := a0, X := a1, Y := 0 } : Api_Input).cv) := qbuild_of C tt36 (by simp only [partsOk, setAll, CV.shape, sh36, List.all_cons, List.all_nil, List.getElem?_cons_zero, List.getElem?_cons_succ, Bool.and_true, decide_true]) rfl
theorem Api_Input.bld_0_1_2 (a0 : Int) (a1 : Int) (a2 : Int) : qbuild C 36 [(0, I a0), (1, I a1), (2, I a2)] = some (({ Buttons := a0, X := a1, Y := a2 } : Api_Input).cv) := qbuild_of C tt36 (by simp only [partsOk, setAll, CV.shape, sh36, List.all_cons, List.all_nil, List.getElem?_cons_zero, List.getElem?_cons_succ, Bool.and_true, decide_true]) rfl
theorem Api_Input.bld_1 (a1 : Int) : qbuild C 36 [(1, I a1)] = some (({ Buttons := 0, X := a1, Y := 0 } : Api_Input).cv) := qbuild_of C tt36 (by simp only [partsOk, setAll, CV.shape, sh36, List.all_cons, List.all_nil, List.getElem?_cons_zero, List.getElem?_cons_succ, Bool.and_true, decide_true]) rfl
structure Rule_Env where
  Body : Api_Body
  In : Api_Input
  Dice : Int
  Room : Int
  Shots : Lst Api_Body
def Rule_Env.cv (x : Rule_Env) : CV := .agg [Api_Body.cv x.Body, Api_Input.cv x.In, U x.Dice, I x.Room, (Lst.cv Api_Body.cv) x.Shots]
@[ext] theorem Rule_Env.ext' {x y : Rule_Env} (h_Body : x.Body = y.Body) (h_In : x.In = y.In) (h_Dice : x.Dice = y.Dice) (h_Room : x.Room = y.Room) (h_Shots : x.Shots = y.Shots) : x = y := by
  obtain ⟨a0, a1, a2, a3, a4⟩ := x
  obtain ⟨c0, c1, c2, c3, c4⟩ := y
  simp only at h_Body h_In h_Dice h_Room h_Shots
  subst h_Body h_In h_Dice h_Room h_Shots
  rfl
def Rule_Env.zero : Rule_Env := { Body := Api_Body.zero, In := Api_Input.zero, Dice := 0, Room := 0, Shots := ⟨.nil, [], fun _ => rfl⟩ }
instance : Inhabited Rule_Env := ⟨Rule_Env.zero⟩
theorem Rule_Env.zcv : z39 = Rule_Env.zero.cv := by
  simp only [z39, Rule_Env.zero, Rule_Env.cv, Api_Body.zcv, Api_Input.zcv, List.map_replicate, Lst.cv, List.map_nil]
theorem Rule_Env.shape (x : Rule_Env) : x.cv.shape = sh39 := by simp only [Rule_Env.cv, sh39, CV.shape, CV.shapes, Api_Body.shape, Api_Input.shape, Lst.shape]
theorem Rule_Env.has (x : Rule_Env) (j : Nat) : x.cv.has j ↔ x.Shots.tl = .own j := by simp [Rule_Env.cv, CV.has, CV.hasL, Api_Body.nohas, Api_Input.nohas, Lst.has _ Api_Body.nohas]
theorem Rule_Env.inj {x y : Rule_Env} (h : x.cv = y.cv) : x = y := by
  simp only [Rule_Env.cv, CV.agg.injEq, List.cons.injEq, and_true] at h
  obtain ⟨h0, h1, h2, h3, h4⟩ := h
  refine Rule_Env.ext' (Api_Body.injF _ _ h0) (Api_Input.injF _ _ h1) (U_inj _ _ h2) (I_inj _ _ h3) ((Lst.injF Api_Body.injF) _ _ h4)
theorem Rule_Env.injF (x y : Rule_Env) (h : x.cv = y.cv) : x = y := Rule_Env.inj h
theorem Rule_Env.inj_iff (x y : Rule_Env) : x.cv = y.cv ↔ x = y := ⟨Rule_Env.inj, fun h => by rw [h]⟩
theorem Rule_Env.shOk (x : Rule_Env) : Cl.shOk x.cv sh39 = true := shOk_n (Rule_Env.shape x) rfl
theorem Rule_Env.at_0 (x : Rule_Env) (q : List Nat) : x.cv.at (0 :: q) = (Api_Body.cv x.Body).at q := rfl
def Rule_Env.upd_0 (x : Rule_Env) (v : CV) : CV := .agg [v, Api_Input.cv x.In, U x.Dice, I x.Room, (Lst.cv Api_Body.cv) x.Shots]
theorem Rule_Env.set_0 (x : Rule_Env) (q : List Nat) (v : CV) : x.cv.set (0 :: q) v = Rule_Env.upd_0 x ((Api_Body.cv x.Body).set q v) := rfl
theorem Rule_Env.fold_0 (x : Rule_Env) (y : Api_Body) : Rule_Env.upd_0 x (Api_Body.cv y) = ({ x with Body := y } : Rule_Env).cv := rfl
theorem Rule_Env.fld_0 (x : Rule_Env) : qfield C 39 x.cv 0 = some (Api_Body.cv x.Body) := qfield_of C tt39 (Rule_Env.shape x) rfl tt34 rfl (Api_Body.shOk _)
theorem Rule_Env.rfa_0 (x : Rule_Env) (h : Heap) : qfieldAddr C h 39 (.rptr x.cv) 0 = some (.rptr (Api_Body.cv x.Body)) := by
  have hs := Rule_Env.shape x
  unfold Rule_Env.cv at hs ⊢
  simp only [qfieldAddr, tt39, ti39, tgt, hs, if_true, List.getElem?_cons_zero, List.getElem?_cons_succ]
theorem Rule_Env.sub_0 (q : List Nat) (z : Shape) : subEq sh39 (0 :: q) z = subEq sh34 q z := rfl
theorem Rule_Env.at_1 (x : Rule_Env) (q : List Nat) : x.cv.at (1 :: q) = (Api_Input.cv x.In).at q := rfl
def Rule_Env.upd_1 (x : Rule_Env) (v : CV) : CV := .agg [Api_Body.cv x.Body, v, U x.Dice, I x.Room, (Lst.cv Api_Body.cv) x.Shots]
theorem Rule_Env.set_1 (x : Rule_Env) (q : List Nat) (v : CV) : x.cv.set (1 :: q) v = Rule_Env.upd_1 x ((Api_Input.cv x.In).set q v) := rfl
theorem Rule_Env.fold_1 (x : Rule_Env) (y : Api_Input) : Rule_Env.upd_1 x (Api_Input.cv y) = ({ x with In := y } : Rule_Env).cv := rfl
theorem Rule_Env.fld_1 (x : Rule_Env) : qfield C 39 x.cv 1 = some (Api_Input.cv x.In) := qfield_of C tt39 (Rule_Env.shape x) rfl tt36 rfl (Api_Input.shOk _)
theorem Rule_Env.rfa_1 (x : Rule_Env) (h : Heap) : qfieldAddr C h 39 (.rptr x.cv) 1 = some (.rptr (Api_Input.cv x.In)) := by
  have hs := Rule_Env.shape x
  unfold Rule_Env.cv at hs ⊢
  simp only [qfieldAddr, tt39, ti39, tgt, hs, if_true, List.getElem?_cons_zero, List.getElem?_cons_succ]
theorem Rule_Env.sub_1 (q : List Nat) (z : Shape) : subEq sh39 (1 :: q) z = subEq sh36 q z := rfl
theorem Rule_Env.at_2 (x : Rule_Env) (q : List Nat) : x.cv.at (2 :: q) = (U x.Dice).at q := rfl
def Rule_Env.upd_2 (x : Rule_Env) (v : CV) : CV := .agg [Api_Body.cv x.Body, Api_Input.cv x.In, v, I x.Room, (Lst.cv Api_Body.cv) x.Shots]
theorem Rule_Env.set_2 (x : Rule_Env) (q : List Nat) (v : CV) : x.cv.set (2 :: q) v = Rule_Env.upd_2 x ((U x.Dice).set q v) := rfl
theorem Rule_Env.fold_2 (x : Rule_Env) (y : Int) : Rule_Env.upd_2 x (U y) = ({ x with Dice := y } : Rule_Env).cv := rfl
theorem Rule_Env.fld_2 (x : Rule_Env) : qfield C 39 x.cv 2 = some (U x.Dice) := qfield_of C tt39 (Rule_Env.shape x) rfl tt25 rfl rfl
theorem Rule_Env.rfa_2 (x : Rule_Env) (h : Heap) : qfieldAddr C h 39 (.rptr x.cv) 2 = some (.rptr (U x.Dice)) := by
  have hs := Rule_Env.shape x
  unfold Rule_Env.cv at hs ⊢
  simp only [qfieldAddr, tt39, ti39, tgt, hs, if_true, List.getElem?_cons_zero, List.getElem?_cons_succ]
theorem Rule_Env.sub_2 (q : List Nat) (z : Shape) : subEq sh39 (2 :: q) z = subEq sh25 q z := rfl
theorem Rule_Env.at_3 (x : Rule_Env) (q : List Nat) : x.cv.at (3 :: q) = (I x.Room).at q := rfl
def Rule_Env.upd_3 (x : Rule_Env) (v : CV) : CV := .agg [Api_Body.cv x.Body, Api_Input.cv x.In, U x.Dice, v, (Lst.cv Api_Body.cv) x.Shots]
theorem Rule_Env.set_3 (x : Rule_Env) (q : List Nat) (v : CV) : x.cv.set (3 :: q) v = Rule_Env.upd_3 x ((I x.Room).set q v) := rfl
theorem Rule_Env.fold_3 (x : Rule_Env) (y : Int) : Rule_Env.upd_3 x (I y) = ({ x with Room := y } : Rule_Env).cv := rfl
theorem Rule_Env.fld_3 (x : Rule_Env) : qfield C 39 x.cv 3 = some (I x.Room) := qfield_of C tt39 (Rule_Env.shape x) rfl tt3 rfl rfl
theorem Rule_Env.rfa_3 (x : Rule_Env) (h : Heap) : qfieldAddr C h 39 (.rptr x.cv) 3 = some (.rptr (I x.Room)) := by
  have hs := Rule_Env.shape x
  unfold Rule_Env.cv at hs ⊢
  simp only [qfieldAddr, tt39, ti39, tgt, hs, if_true, List.getElem?_cons_zero, List.getElem?_cons_succ]
theorem Rule_Env.sub_3 (q : List Nat) (z : Shape) : subEq sh39 (3 :: q) z = subEq sh3 q z := rfl
theorem Rule_Env.at_4 (x : Rule_Env) (q : List Nat) : x.cv.at (4 :: q) = ((Lst.cv Api_Body.cv) x.Shots).at q := rfl
def Rule_Env.upd_4 (x : Rule_Env) (v : CV) : CV := .agg [Api_Body.cv x.Body, Api_Input.cv x.In, U x.Dice, I x.Room, v]
theorem Rule_Env.set_4 (x : Rule_Env) (q : List Nat) (v : CV) : x.cv.set (4 :: q) v = Rule_Env.upd_4 x (((Lst.cv Api_Body.cv) x.Shots).set q v) := rfl
theorem Rule_Env.fold_4 (x : Rule_Env) (y : Lst Api_Body) : Rule_Env.upd_4 x ((Lst.cv Api_Body.cv) y) = ({ x with Shots := y } : Rule_Env).cv := rfl
theorem Rule_Env.fld_4 (x : Rule_Env) : qfield C 39 x.cv 4 = some ((Lst.cv Api_Body.cv) x.Shots) := qfield_of C tt39 (Rule_Env.shape x) rfl tt37 rfl rfl
theorem Rule_Env.rfa_4 (x : Rule_Env) (h : Heap) : qfieldAddr C h 39 (.rptr x.cv) 4 = some (.rptr ((Lst.cv Api_Body.cv) x.Shots)) := by
  have hs := Rule_Env.shape x
  unfold Rule_Env.cv at hs ⊢
  simp only [qfieldAddr, tt39, ti39, tgt, hs, if_true, List.getElem?_cons_zero, List.getElem?_cons_succ]
theorem Rule_Env.sub_4 (q : List Nat) (z : Shape) : subEq sh39 (4 :: q) z = subEq sh37 q z := rfl
theorem Rule_Env.sub_nil : subEq sh39 [] sh39 = true := by simp [subEq, Shape.sub]
theorem Rule_Env.alloc : allocObj C (.alloc 39) = some (.var sh39 Rule_Env.zero.cv) := by simp only [allocObj, tt39, ti39, Rule_Env.zcv]
theorem Rule_Env.xalloc (p : Hp) : xalloc C p 39 = .ret (.ptr p.n []) (p.new (.var sh39 Rule_Env.zero.cv)) := by simp only [Cl.xalloc, tt39, ti39, Rule_Env.zcv]
theorem Rule_Env.xbox (p : Hp) (x : Rule_Env) : xbox C p 39 x.cv = .ret (.ptr p.n []) (p.new (.var sh39 x.cv)) := by
  have h : Cl.shOk x.cv ti39.sh = true := Rule_Env.shOk x
  simp only [Cl.xbox, tt39, h, cond_true]; rfl
theorem Rule_Env.bld_0_1_2_3 (a0 : Api_Body) (a1 : Api_Input) (a2 : Int) (a3 : Int) : qbuild C 39 [(0, Api_Body.cv a0), (1, Api_Input.cv a1), (2, U a2), (3, I a3)] = some (({ Body := a0, In := a1, Dice := a2, Room := a3, Shots := ⟨.nil, [], fun _ => rfl⟩ } : Rule_Env).cv) := qbuild_of C tt39 (by simp only [partsOk, setAll, CV.shape, Api_Body.shape, Api_Input.shape, sh39, List.all_cons, List.all_nil, List.getElem?_cons_zero, List.getElem?_cons_succ, Bool.and_true, decide_true]) rfl
theorem Rule_Env.bld_0_1_2_3_4 (a0 : Api_Body) (a1 : Api_Input) (a2 : Int) (a3 : Int) (a4 : Lst Api_Body) : qbuild C 39 [(0, Api_Body.cv a0), (1, Api_Input.cv a1), (2, U a2), (3, I a3), (4, (Lst.cv Api_Body.cv) a4)] = some (({ Body := a0, In := a1, Dice := a2, Room := a3, Shots := a4 } : Rule_Env).cv) := qbuild_of C tt39 (by simp only [partsOk, setAll, CV.shape, Api_Body.shape, Api_Input.shape, Lst.shape, sh39, List.all_cons, List.all_nil, List.getElem?_cons_zero, List.getElem?_cons_succ, Bool.and_true, decide_true]) rfl
structure Trap_Fault where
  Code : Int
  At : Int
def Trap_Fault.cv (x : Trap_Fault) : CV := .agg [I x.Code, I x.At]
@[ext] theorem Trap_Fault.ext' {x y : Trap_Fault} (h_Code : x.Code = y.Code) (h_At : x.At = y.At) : x = y := by
  obtain ⟨a0, a1⟩ := x
  obtain ⟨c0, c1⟩ := y
  simp only at h_Code h_At
  subst h_Code h_At
  rfl
def Trap_Fault.zero : Trap_Fault := { Code := 0, At := 0 }
instance : Inhabited Trap_Fault := ⟨Trap_Fault.zero⟩
theorem Trap_Fault.zcv : z44 = Trap_Fault.zero.cv := by
  simp only [z44, Trap_Fault.zero, Trap_Fault.cv, List.map_replicate, Lst.cv, List.map_nil]
theorem Trap_Fault.shape (x : Trap_Fault) : x.cv.shape = sh44 := by simp only [Trap_Fault.cv, sh44, CV.shape, CV.shapes, Lst.shape]
theorem Trap_Fault.nohas (x : Trap_Fault) (j : Nat) : ¬ x.cv.has j := by simp [Trap_Fault.cv, CV.has, CV.hasL]
instance : DecidableEq Trap_Fault := fun x y => decidable_of_iff (x.Code = y.Code ∧ x.At = y.At) ⟨fun h => Trap_Fault.ext' h.1 h.2, fun h => by subst h; simp⟩
theorem Trap_Fault.inj {x y : Trap_Fault} (h : x.cv = y.cv) : x = y := by
  simp only [Trap_Fault.cv, CV.agg.injEq, List.cons.injEq, and_true] at h
  obtain ⟨h0, h1⟩ := h
  refine Trap_Fault.ext' (I_inj _ _ h0) (I_inj _ _ h1)
theorem Trap_Fault.injF (x y : Trap_Fault) (h : x.cv = y.cv) : x = y := Trap_Fault.inj h
theorem Trap_Fault.inj_iff (x y : Trap_Fault) : x.cv = y.cv ↔ x = y := ⟨Trap_Fault.inj, fun h => by rw [h]⟩
theorem Trap_Fault.shOk (x : Trap_Fault) : Cl.shOk x.cv sh44 = true := shOk_n (Trap_Fault.shape x) rfl
theorem Trap_Fault.eq (d : Nat) (x y : Trap_Fault) : eqCV C (d + 2) 44 x.cv y.cv = some (decide (x = y)) := by
  refine (eqCV_st C (d := d + 1) tt44 (Trap_Fault.shape x) (Trap_Fault.shape y) (eqList_c (eqCV_int C tt3 (d + 0) _ _) (eqList_c (eqCV_int C tt3 (d + 0) _ _) rfl))).trans (congrArg some ?_)
  rw [Bool.eq_iff_iff]
  simp only [Bool.and_eq_true, decide_eq_true_eq, and_true]
  exact ⟨fun h => Trap_Fault.ext' h.1 h.2, fun h => by subst h; simp⟩
theorem Trap_Fault.eql (x y : Trap_Fault) (b : Bool) : qbin C .eql 44 b x.cv y.cv = some (Bo (decide (x = y))) := by
  have h := Trap_Fault.eq 10 x y
  unfold Trap_Fault.cv at h ⊢
  simp only [qbin]
  rw [h]; rfl
theorem Trap_Fault.neq (x y : Trap_Fault) (b : Bool) : qbin C .neq 44 b x.cv y.cv = some (Bo (!decide (x = y))) := by
  have h := Trap_Fault.eq 10 x y
  unfold Trap_Fault.cv at h ⊢
  simp only [qbin]
  rw [h]; rfl
theorem Trap_Fault.at_0 (x : Trap_Fault) (q : List Nat) : x.cv.at (0 :: q) = (I x.Code).at q := rfl
def Trap_Fault.upd_0 (x : Trap_Fault) (v : CV) : CV := .agg [v, I x.At]
theorem Trap_Fault.set_0 (x : Trap_Fault) (q : List Nat) (v : CV) : x.cv.set (0 :: q) v = Trap_Fault.upd_0 x ((I x.Code).set q v) := rfl
theorem Trap_Fault.fold_0 (x : Trap_Fault) (y : Int) : Trap_Fault.upd_0 x (I y) = ({ x with Code := y } : Trap_Fault).cv := rfl
theorem Trap_Fault.fld_0 (x : Trap_Fault) : qfield C 44 x.cv 0 = some (I x.Code) := qfield_of C tt44 (Trap_Fault.shape x) rfl tt3 rfl rfl
theorem Trap_Fault.rfa_0 (x : Trap_Fault) (h : Heap) : qfieldAddr C h 44 (.rptr x.cv) 0 = some (.rptr (I x.Code)) := by
  have hs := Trap_Fault.shape x
  unfold Trap_Fault.cv at hs ⊢
  simp only [qfieldAddr, tt44, ti44, tgt, hs, if_true, List.getElem?_cons_zero, List.getElem?_cons_succ]
theorem Trap_Fault.sub_0 (q : List Nat) (z : Shape) : subEq sh44 (0 :: q) z = subEq sh3 q z := rfl
theorem Trap_Fault.at_1 (x : Trap_Fault) (q : List Nat) : x.cv.at (1 :: q) = (I x.At).at q := rfl
def Trap_Fault.upd_1 (x : Trap_Fault) (v : CV) : CV := .agg [I x.Code, v]
theorem Trap_Fault.set_1 (x : Trap_Fault) (q : List Nat) (v : CV) : x.cv.set (1 :: q) v = Trap_Fault.upd_1 x ((I x.At).set q v) := rfl
theorem Trap_Fault.fold_1 (x : Trap_Fault) (y : Int) : Trap_Fault.upd_1 x (I y) = ({ x with At := y } : Trap_Fault).cv := rfl
theorem Trap_Fault.fld_1 (x : Trap_Fault) : qfield C 44 x.cv 1 = some (I x.At) := qfield_of C tt44 (Trap_Fault.shape x) rfl tt3 rfl rfl
theorem Trap_Fault.rfa_1 (x : Trap_Fault) (h : Heap) : qfieldAddr C h 44 (.rptr x.cv) 1 = some (.rptr (I x.At)) := by
  have hs := Trap_Fault.shape x
  unfold Trap_Fault.cv at hs ⊢
  simp only [qfieldAddr, tt44, ti44, tgt, hs, if_true, List.getElem?_cons_zero, List.getElem?_cons_succ]
theorem Trap_Fault.sub_1 (q : List Nat) (z : Shape) : subEq sh44 (1 :: q) z = subEq sh3 q z := rfl
theorem Trap_Fault.sub_nil : subEq sh44 [] sh44 = true := by simp [subEq, Shape.sub]
theorem Trap_Fault.alloc : allocObj C (.alloc 44) = some (.var sh44 Trap_Fault.zero.cv) := by simp only [allocObj, tt44, ti44, Trap_Fault.zcv]
theorem Trap_Fault.xalloc (p : Hp) : xalloc C p 44 = .ret (.ptr p.n []) (p.new (.var sh44 Trap_Fault.zero.cv)) := by simp only [Cl.xalloc, tt44, ti44, Trap_Fault.zcv]
theorem Trap_Fault.xbox (p : Hp) (x : Trap_Fault) : xbox C p 44 x.cv = .ret (.ptr p.n []) (p.new (.var sh44 x.cv)) := by
  have h : Cl.shOk x.cv ti44.sh = true := Trap_Fault.shOk x
  simp only [Cl.xbox, tt44, h, cond_true]; rfl
theorem Trap_Fault.bld_none  : qbuild C 44 [] = some (({ Code := 0, At := 0 } : Trap_Fault).cv) := qbuild_of C tt44 (by simp only [partsOk, setAll, CV.shape, sh44, List.all_cons, List.all_nil, List.getElem?_cons_zero, List.getElem?_cons_succ, Bool.and_true, decide_true]) rfl
theorem Trap_Fault.bld_0 (a0 : Int) : qbuild C 44 [(0, I a0)] = some (({ Code := a0, At := 0 } : Trap_Fault).cv) := qbuild_of C tt44 (by simp only [partsOk, setAll, CV.shape, sh44, List.all_cons, List.all_nil, List.getElem?_cons_zero, List.getElem?_cons_succ, Bool.and_true, decide_true]) rfl
theorem Trap_Fault.bld_0_1 (a0 : Int) (a1 : Int) : qbuild C 44 [(0, I a0), (1, I a1)] = some (({ Code := a0, At := a1 } : Trap_Fault).cv) := qbuild_of C tt44 (by simp only [partsOk, setAll, CV.shape, sh44, List.all_cons, List.all_nil, List.getElem?_cons_zero, List.getElem?_cons_succ, Bool.and_true, decide_true]) rfl
structure Ref11_Env where
  Body : Api_Body
  In : Api_Input
  Dice : Int
  Room : Int
  Shots : Lst Api_Body
def Ref11_Env.cv (x : Ref11_Env) : CV := .agg [Api_Body.cv x.Body, Api_Input.cv x.In, U x.Dice, I x.Room, (Lst.cv Api_Body.cv) x.Shots]
@[ext] theorem Ref11_Env.ext' {x y : Ref11_Env} (h_Body : x.Body = y.Body) (h_In : x.In = y.In) (h_Dice : x.Dice = y.Dice) (h_Room : x.Room = y.Room) (h_Shots : x.Shots = y.Shots) : x = y := by
  obtain ⟨a0, a1, a2, a3, a4⟩ := x
  obtain ⟨c0, c1, c2, c3, c4⟩ := y
  simp only at h_Body h_In h_Dice h_Room h_Shots
  subst h_Body h_In h_Dice h_Room h_Shots
  rfl
def Ref11_Env.zero : Ref11_Env := { Body := Api_Body.zero, In := Api_Input.zero, Dice := 0, Room := 0, Shots := ⟨.nil, [], fun _ => rfl⟩ }
instance : Inhabited Ref11_Env := ⟨Ref11_Env.zero⟩
theorem Ref11_Env.zcv : z51 = Ref11_Env.zero.cv := by
  simp only [z51, Ref11_Env.zero, Ref11_Env.cv, Api_Body.zcv, Api_Input.zcv, List.map_replicate, Lst.cv, List.map_nil]
theorem Ref11_Env.shape (x : Ref11_Env) : x.cv.shape = sh51 := by simp only [Ref11_Env.cv, sh51, CV.shape, CV.shapes, Api_Body.shape, Api_Input.shape, Lst.shape]
theorem Ref11_Env.has (x : Ref11_Env) (j : Nat) : x.cv.has j ↔ x.Shots.tl = .own j := by simp [Ref11_Env.cv, CV.has, CV.hasL, Api_Body.nohas, Api_Input.nohas, Lst.has _ Api_Body.nohas]
theorem Ref11_Env.inj {x y : Ref11_Env} (h : x.cv = y.cv) : x = y := by
  simp only [Ref11_Env.cv, CV.agg.injEq, List.cons.injEq, and_true] at h
  obtain ⟨h0, h1, h2, h3, h4⟩ := h
  refine Ref11_Env.ext' (Api_Body.injF _ _ h0) (Api_Input.injF _ _ h1) (U_inj _ _ h2) (I_inj _ _ h3) ((Lst.injF Api_Body.injF) _ _ h4)
theorem Ref11_Env.injF (x y : Ref11_Env) (h : x.cv = y.cv) : x = y := Ref11_Env.inj h
theorem Ref11_Env.inj_iff (x y : Ref11_Env) : x.cv = y.cv ↔ x = y := ⟨Ref11_Env.inj, fun h => by rw [h]⟩
theorem Ref11_Env.shOk (x : Ref11_Env) : Cl.shOk x.cv sh51 = true := shOk_n (Ref11_Env.shape x) rfl
theorem Ref11_Env.at_0 (x : Ref11_Env) (q : List Nat) : x.cv.at (0 :: q) = (Api_Body.cv x.Body).at q := rfl
def Ref11_Env.upd_0 (x : Ref11_Env) (v : CV) : CV := .agg [v, Api_Input.cv x.In, U x.Dice, I x.Room, (Lst.cv Api_Body.cv) x.Shots]
theorem Ref11_Env.set_0 (x : Ref11_Env) (q : List Nat) (v : CV) : x.cv.set (0 :: q) v = Ref11_Env.upd_0 x ((Api_Body.cv x.Body).set q v) := rfl
theorem Ref11_Env.fold_0 (x : Ref11_Env) (y : Api_Body) : Ref11_Env.upd_0 x (Api_Body.cv y) = ({ x with Body := y } : Ref11_Env).cv := rfl
theorem Ref11_Env.fld_0 (x : Ref11_Env) : qfield C 51 x.cv 0 = some (Api_Body.cv x.Body) := qfield_of C tt51 (Ref11_Env.shape x) rfl tt34 rfl (Api_Body.shOk _)
theorem Ref11_Env.rfa_0 (x : Ref11_Env) (h : Heap) : qfieldAddr C h 51 (.rptr x.cv) 0 = some (.rptr (Api_Body.cv x.Body)) := by
  have hs := Ref11_Env.shape x
  unfold Ref11_Env.cv at hs ⊢
  simp only [qfieldAddr, tt51, ti51, tgt, hs, if_true, List.getElem?_cons_zero, List.getElem?_cons_succ]
theorem Ref11_Env.sub_0 (q : List Nat) (z : Shape) : subEq sh51 (0 :: q) z = subEq sh34 q z := rfl
theorem Ref11_Env.at_1 (x : Ref11_Env) (q : List Nat) : x.cv.at (1 :: q) = (Api_Input.cv x.In).at q := rfl
def Ref11_Env.upd_1 (x : Ref11_Env) (v : CV) : CV := .agg [Api_Body.cv x.Body, v, U x.Dice, I x.Room, (Lst.cv Api_Body.cv) x.Shots]
theorem Ref11_Env.set_1 (x : Ref11_Env) (q : List Nat) (v : CV) : x.cv.set (1 :: q) v = Ref11_Env.upd_1 x ((Api_Input.cv x.In).set q v) := rfl
theorem Ref11_Env.fold_1 (x : Ref11_Env) (y : Api_Input) : Ref11_Env.upd_1 x (Api_Input.cv y) = ({ x with In := y } : Ref11_Env).cv := rfl
theorem Ref11_Env.fld_1 (x : Ref11_Env) : qfield C 51 x.cv 1 = some (Api_Input.cv x.In) := qfield_of C tt51 (Ref11_Env.shape x) rfl tt36 rfl (Api_Input.shOk _)
theorem Ref11_Env.rfa_1 (x : Ref11_Env) (h : Heap) : qfieldAddr C h 51 (.rptr x.cv) 1 = some (.rptr (Api_Input.cv x.In)) := by
  have hs := Ref11_Env.shape x
  unfold Ref11_Env.cv at hs ⊢
  simp only [qfieldAddr, tt51, ti51, tgt, hs, if_true, List.getElem?_cons_zero, List.getElem?_cons_succ]
theorem Ref11_Env.sub_1 (q : List Nat) (z : Shape) : subEq sh51 (1 :: q) z = subEq sh36 q z := rfl
theorem Ref11_Env.at_2 (x : Ref11_Env) (q : List Nat) : x.cv.at (2 :: q) = (U x.Dice).at q := rfl
def Ref11_Env.upd_2 (x : Ref11_Env) (v : CV) : CV := .agg [Api_Body.cv x.Body, Api_Input.cv x.In, v, I x.Room, (Lst.cv Api_Body.cv) x.Shots]
theorem Ref11_Env.set_2 (x : Ref11_Env) (q : List Nat) (v : CV) : x.cv.set (2 :: q) v = Ref11_Env.upd_2 x ((U x.Dice).set q v) := rfl
theorem Ref11_Env.fold_2 (x : Ref11_Env) (y : Int) : Ref11_Env.upd_2 x (U y) = ({ x with Dice := y } : Ref11_Env).cv := rfl
theorem Ref11_Env.fld_2 (x : Ref11_Env) : qfield C 51 x.cv 2 = some (U x.Dice) := qfield_of C tt51 (Ref11_Env.shape x) rfl tt25 rfl rfl
theorem Ref11_Env.rfa_2 (x : Ref11_Env) (h : Heap) : qfieldAddr C h 51 (.rptr x.cv) 2 = some (.rptr (U x.Dice)) := by
  have hs := Ref11_Env.shape x
  unfold Ref11_Env.cv at hs ⊢
  simp only [qfieldAddr, tt51, ti51, tgt, hs, if_true, List.getElem?_cons_zero, List.getElem?_cons_succ]
theorem Ref11_Env.sub_2 (q : List Nat) (z : Shape) : subEq sh51 (2 :: q) z = subEq sh25 q z := rfl
theorem Ref11_Env.at_3 (x : Ref11_Env) (q : List Nat) : x.cv.at (3 :: q) = (I x.Room).at q := rfl
def Ref11_Env.upd_3 (x : Ref11_Env) (v : CV) : CV := .agg [Api_Body.cv x.Body, Api_Input.cv x.In, U x.Dice, v, (Lst.cv Api_Body.cv) x.Shots]
theorem Ref11_Env.set_3 (x : Ref11_Env) (q : List Nat) (v : CV) : x.cv.set (3 :: q) v = Ref11_Env.upd_3 x ((I x.Room).set q v) := rfl
theorem Ref11_Env.fold_3 (x : Ref11_Env) (y : Int) : Ref11_Env.upd_3 x (I y) = ({ x with Room := y } : Ref11_Env).cv := rfl
theorem Ref11_Env.fld_3 (x : Ref11_Env) : qfield C 51 x.cv 3 = some (I x.Room) := qfield_of C tt51 (Ref11_Env.shape x) rfl tt3 rfl rfl
theorem Ref11_Env.rfa_3 (x : Ref11_Env) (h : Heap) : qfieldAddr C h 51 (.rptr x.cv) 3 = some (.rptr (I x.Room)) := by
  have hs := Ref11_Env.shape x
  unfold Ref11_Env.cv at hs ⊢
  simp only [qfieldAddr, tt51, ti51, tgt, hs, if_true, List.getElem?_cons_zero, List.getElem?_cons_succ]
theorem Ref11_Env.sub_3 (q : List Nat) (z : Shape) : subEq sh51 (3 :: q) z = subEq sh3 q z := rfl
theorem Ref11_Env.at_4 (x : Ref11_Env) (q : List Nat) : x.cv.at (4 :: q) = ((Lst.cv Api_Body.cv) x.Shots).at q := rfl
def Ref11_Env.upd_4 (x : Ref11_Env) (v : CV) : CV := .agg [Api_Body.cv x.Body, Api_Input.cv x.In, U x.Dice, I x.Room, v]
theorem Ref11_Env.set_4 (x : Ref11_Env) (q : List Nat) (v : CV) : x.cv.set (4 :: q) v = Ref11_Env.upd_4 x (((Lst.cv Api_Body.cv) x.Shots).set q v) := rfl
theorem Ref11_Env.fold_4 (x : Ref11_Env) (y : Lst Api_Body) : Ref11_Env.upd_4 x ((Lst.cv Api_Body.cv) y) = ({ x with Shots := y } : Ref11_Env).cv := rfl
theorem Ref11_Env.fld_4 (x : Ref11_Env) : qfield C 51 x.cv 4 = some ((Lst.cv Api_Body.cv) x.Shots) := qfield_of C tt51 (Ref11_Env.shape x) rfl tt37 rfl rfl
theorem Ref11_Env.rfa_4 (x : Ref11_Env) (h : Heap) : qfieldAddr C h 51 (.rptr x.cv) 4 = some (.rptr ((Lst.cv Api_Body.cv) x.Shots)) := by
  have hs := Ref11_Env.shape x
  unfold Ref11_Env.cv at hs ⊢
  simp only [qfieldAddr, tt51, ti51, tgt, hs, if_true, List.getElem?_cons_zero, List.getElem?_cons_succ]
theorem Ref11_Env.sub_4 (q : List Nat) (z : Shape) : subEq sh51 (4 :: q) z = subEq sh37 q z := rfl
theorem Ref11_Env.sub_nil : subEq sh51 [] sh51 = true := by simp [subEq, Shape.sub]
theorem Ref11_Env.alloc : allocObj C (.alloc 51) = some (.var sh51 Ref11_Env.zero.cv) := by simp only [allocObj, tt51, ti51, Ref11_Env.zcv]
theorem Ref11_Env.xalloc (p : Hp) : xalloc C p 51 = .ret (.ptr p.n []) (p.new (.var sh51 Ref11_Env.zero.cv)) := by simp only [Cl.xalloc, tt51, ti51, Ref11_Env.zcv]
theorem Ref11_Env.xbox (p : Hp) (x : Ref11_Env) : xbox C p 51 x.cv = .ret (.ptr p.n []) (p.new (.var sh51 x.cv)) := by
  have h : Cl.shOk x.cv ti51.sh = true := Ref11_Env.shOk x
  simp only [Cl.xbox, tt51, h, cond_true]; rfl
theorem Ref11_Env.bld_0_1_2_3 (a0 : Api_Body) (a1 : Api_Input) (a2 : Int) (a3 : Int) : qbuild C 51 [(0, Api_Body.cv a0), (1, Api_Input.cv a1), (2, U a2), (3, I a3)] = some (({ Body := a0, In := a1, Dice := a2, Room := a3, Shots := ⟨.nil, [], fun _ => rfl⟩ } : Ref11_Env).cv) := qbuild_of C tt51 (by simp only [partsOk, setAll, CV.shape, Api_Body.shape, Api_Input.shape, sh51, List.all_cons, List.all_nil, List.getElem?_cons_zero, List.getElem?_cons_succ, Bool.and_true, decide_true]) rfl
structure Rule_machine where
  e_ : Rule_Env
  l_ : Lst Api_Op
  at_ : Int
def Rule_machine.cv (x : Rule_machine) : CV := .agg [Rule_Env.cv x.e_, (Lst.cv Api_Op.cv) x.l_, I x.at_]
@[ext] theorem Rule_machine.ext' {x y : Rule_machine} (h_e_ : x.e_ = y.e_) (h_l_ : x.l_ = y.l_) (h_at_ : x.at_ = y.at_) : x = y := by
  obtain ⟨a0, a1, a2⟩ := x
  obtain ⟨c0, c1, c2⟩ := y
  simp only at h_e_ h_l_ h_at_
  subst h_e_ h_l_ h_at_
  rfl
def Rule_machine.zero : Rule_machine := { e_ := Rule_Env.zero, l_ := ⟨.nil, [], fun _ => rfl⟩, at_ := 0 }
instance : Inhabited Rule_machine := ⟨Rule_machine.zero⟩
theorem Rule_machine.zcv : z131 = Rule_machine.zero.cv := by
  simp only [z131, Rule_machine.zero, Rule_machine.cv, Rule_Env.zcv, List.map_replicate, Lst.cv, List.map_nil]
theorem Rule_machine.shape (x : Rule_machine) : x.cv.shape = sh131 := by simp only [Rule_machine.cv, sh131, CV.shape, CV.shapes, Rule_Env.shape, Lst.shape]
theorem Rule_machine.has (x : Rule_machine) (j : Nat) : x.cv.has j ↔ x.e_.cv.has j ∨ x.l_.tl = .own j := by simp [Rule_machine.cv, CV.has, CV.hasL, Lst.has _ Api_Op.nohas]
theorem Rule_machine.inj {x y : Rule_machine} (h : x.cv = y.cv) : x = y := by
  simp only [Rule_machine.cv, CV.agg.injEq, List.cons.injEq, and_true] at h
  obtain ⟨h0, h1, h2⟩ := h
  refine Rule_machine.ext' (Rule_Env.injF _ _ h0) ((Lst.injF Api_Op.injF) _ _ h1) (I_inj _ _ h2)
theorem Rule_machine.injF (x y : Rule_machine) (h : x.cv = y.cv) : x = y := Rule_machine.inj h
theorem Rule_machine.inj_iff (x y : Rule_machine) : x.cv = y.cv ↔ x = y := ⟨Rule_machine.inj, fun h => by rw [h]⟩
theorem Rule_machine.shOk (x : Rule_machine) : Cl.shOk x.cv sh131 = true := shOk_n (Rule_machine.shape x) rfl
theorem Rule_machine.at_0 (x : Rule_machine) (q : List Nat) : x.cv.at (0 :: q) = (Rule_Env.cv x.e_).at q := rfl
def Rule_machine.upd_0 (x : Rule_machine) (v : CV) : CV := .agg [v, (Lst.cv Api_Op.cv) x.l_, I x.at_]
theorem Rule_machine.set_0 (x : Rule_machine) (q : List Nat) (v : CV) : x.cv.set (0 :: q) v = Rule_machine.upd_0 x ((Rule_Env.cv x.e_).set q v) := rfl
theorem Rule_machine.fold_0 (x : Rule_machine) (y : Rule_Env) : Rule_machine.upd_0 x (Rule_Env.cv y) = ({ x with e_ := y } : Rule_machine).cv := rfl
theorem Rule_machine.fld_0 (x : Rule_machine) : qfield C 131 x.cv 0 = some (Rule_Env.cv x.e_) := qfield_of C tt131 (Rule_machine.shape x) rfl tt39 rfl (Rule_Env.shOk _)
theorem Rule_machine.rfa_0 (x : Rule_machine) (h : Heap) : qfieldAddr C h 131 (.rptr x.cv) 0 = some (.rptr (Rule_Env.cv x.e_)) := by
  have hs := Rule_machine.shape x
  unfold Rule_machine.cv at hs ⊢
  simp only [qfieldAddr, tt131, ti131, tgt, hs, if_true, List.getElem?_cons_zero, List.getElem?_cons_succ]
theorem Rule_machine.sub_0 (q : List Nat) (z : Shape) : subEq sh131 (0 :: q) z = subEq sh39 q z := rfl
theorem Rule_machine.at_1 (x : Rule_machine) (q : List Nat) : x.cv.at (1 :: q) = ((Lst.cv Api_Op.cv) x.l_).at q := rfl
def Rule_machine.upd_1 (x : Rule_machine) (v : CV) : CV := .agg [Rule_Env.cv x.e_, v, I x.at_]
theorem Rule_machine.set_1 (x : Rule_machine) (q : List Nat) (v : CV) : x.cv.set (1 :: q) v = Rule_machine.upd_1 x (((Lst.cv Api_Op.cv) x.l_).set q v) := rfl
theorem Rule_machine.fold_1 (x : Rule_machine) (y : Lst Api_Op) : Rule_machine.upd_1 x ((Lst.cv Api_Op.cv) y) = ({ x with l_ := y } : Rule_machine).cv := rfl
theorem Rule_machine.fld_1 (x : Rule_machine) : qfield C 131 x.cv 1 = some ((Lst.cv Api_Op.cv) x.l_) := qfield_of C tt131 (Rule_machine.shape x) rfl tt23 rfl rfl
theorem Rule_machine.rfa_1 (x : Rule_machine) (h : Heap) : qfieldAddr C h 131 (.rptr x.cv) 1 = some (.rptr ((Lst.cv Api_Op.cv) x.l_)) := by
  have hs := Rule_machine.shape x
  unfold Rule_machine.cv at hs ⊢
  simp only [qfieldAddr, tt131, ti131, tgt, hs, if_true, List.getElem?_cons_zero, List.getElem?_cons_succ]
theorem Rule_machine.sub_1 (q : List Nat) (z : Shape) : subEq sh131 (1 :: q) z = subEq sh23 q z := rfl
theorem Rule_machine.at_2 (x : Rule_machine) (q : List Nat) : x.cv.at (2 :: q) = (I x.at_).at q := rfl
def Rule_machine.upd_2 (x : Rule_machine) (v : CV) : CV := .agg [Rule_Env.cv x.e_, (Lst.cv Api_Op.cv) x.l_, v]
theorem Rule_machine.set_2 (x : Rule_machine) (q : List Nat) (v : CV) : x.cv.set (2 :: q) v = Rule_machine.upd_2 x ((I x.at_).set q v) := rfl
theorem Rule_machine.fold_2 (x : Rule_machine) (y : Int) : Rule_machine.upd_2 x (I y) = ({ x with at_ := y } : Rule_machine).cv := rfl
theorem Rule_machine.fld_2 (x : Rule_machine) : qfield C 131 x.cv 2 = some (I x.at_) := qfield_of C tt131 (Rule_machine.shape x) rfl tt3 rfl rfl
theorem Rule_machine.rfa_2 (x : Rule_machine) (h : Heap) : qfieldAddr C h 131 (.rptr x.cv) 2 = some (.rptr (I x.at_)) := by
  have hs := Rule_machine.shape x
  unfold Rule_machine.cv at hs ⊢
  simp only [qfieldAddr, tt131, ti131, tgt, hs, if_true, List.getElem?_cons_zero, List.getElem?_cons_succ]
theorem Rule_machine.sub_2 (q : List Nat) (z : Shape) : subEq sh131 (2 :: q) z = subEq sh3 q z := rfl
theorem Rule_machine.sub_nil : subEq sh131 [] sh131 = true := by simp [subEq, Shape.sub]
theorem Rule_machine.alloc : allocObj C (.alloc 131) = some (.var sh131 Rule_machine.zero.cv) := by simp only [allocObj, tt131, ti131, Rule_machine.zcv]
theorem Rule_machine.xalloc (p : Hp) : xalloc C p 131 = .ret (.ptr p.n []) (p.new (.var sh131 Rule_machine.zero.cv)) := by simp only [Cl.xalloc, tt131, ti131, Rule_machine.zcv]
theorem Rule_machine.xbox (p : Hp) (x : Rule_machine) : xbox C p 131 x.cv = .ret (.ptr p.n []) (p.new (.var sh131 x.cv)) := by
  have h : Cl.shOk x.cv ti131.sh = true := Rule_machine.shOk x
  simp only [Cl.xbox, tt131, h, cond_true]; rfl
theorem Rule_machine.bld_0_1 (a0 : Rule_Env) (a1 : Lst Api_Op) : qbuild C 131 [(0, Rule_Env.cv a0), (1, (Lst.cv Api_Op.cv) a1)] = some (({ e_ := a0, l_ := a1, at_ := 0 } : Rule_machine).cv) := qbuild_of C tt131 (by simp only [partsOk, setAll, CV.shape, Rule_Env.shape, Lst.shape, sh131, List.all_cons, List.all_nil, List.getElem?_cons_zero, List.getElem?_cons_succ, Bool.and_true, decide_true]) rfl
structure Trap_thrown where
  f_ : Trap_Fault
def Trap_thrown.cv (x : Trap_thrown) : CV := .agg [Trap_Fault.cv x.f_]
@[ext] theorem Trap_thrown.ext' {x y : Trap_thrown} (h_f_ : x.f_ = y.f_) : x = y := by
  obtain ⟨a0⟩ := x
  obtain ⟨c0⟩ := y
  simp only at h_f_
  subst h_f_
  rfl
def Trap_thrown.zero : Trap_thrown := { f_ := Trap_Fault.zero }
instance : Inhabited Trap_thrown := ⟨Trap_thrown.zero⟩
theorem Trap_thrown.zcv : z194 = Trap_thrown.zero.cv := by
  simp only [z194, Trap_thrown.zero, Trap_thrown.cv, Trap_Fault.zcv, List.map_replicate, Lst.cv, List.map_nil]
theorem Trap_thrown.shape (x : Trap_thrown) : x.cv.shape = sh194 := by simp only [Trap_thrown.cv, sh194, CV.shape, CV.shapes, Trap_Fault.shape, Lst.shape]
theorem Trap_thrown.nohas (x : Trap_thrown) (j : Nat) : ¬ x.cv.has j := by simp [Trap_thrown.cv, CV.has, CV.hasL, Trap_Fault.nohas]
instance : DecidableEq Trap_thrown := fun x y => decidable_of_iff (x.f_ = y.f_) ⟨fun h => Trap_thrown.ext' h, fun h => by subst h; simp⟩
theorem Trap_thrown.inj {x y : Trap_thrown} (h : x.cv = y.cv) : x = y := by
  simp only [Trap_thrown.cv, CV.agg.injEq, List.cons.injEq, and_true] at h
  have h0 := h
  refine Trap_thrown.ext' (Trap_Fault.injF _ _ h0)
theorem Trap_thrown.injF (x y : Trap_thrown) (h : x.cv = y.cv) : x = y := Trap_thrown.inj h
theorem Trap_thrown.inj_iff (x y : Trap_thrown) : x.cv = y.cv ↔ x = y := ⟨Trap_thrown.inj, fun h => by rw [h]⟩
theorem Trap_thrown.shOk (x : Trap_thrown) : Cl.shOk x.cv sh194 = true := shOk_n (Trap_thrown.shape x) rfl
theorem Trap_thrown.eq (d : Nat) (x y : Trap_thrown) : eqCV C (d + 3) 194 x.cv y.cv = some (decide (x = y)) := by
  refine (eqCV_st C (d := d + 2) tt194 (Trap_thrown.shape x) (Trap_thrown.shape y) (eqList_c (Trap_Fault.eq (d + 0) _ _) rfl)).trans (congrArg some ?_)
  rw [Bool.eq_iff_iff]
  simp only [Bool.and_eq_true, decide_eq_true_eq, and_true]
  exact ⟨fun h => Trap_thrown.ext' h, fun h => by subst h; simp⟩
theorem Trap_thrown.eql (x y : Trap_thrown) (b : Bool) : qbin C .eql 194 b x.cv y.cv = some (Bo (decide (x = y))) := by
  have h := Trap_thrown.eq 9 x y
  unfold Trap_thrown.cv at h ⊢
  simp only [qbin]
  rw [h]; rfl
theorem Trap_thrown.neq (x y : Trap_thrown) (b : Bool) : qbin C .neq 194 b x.cv y.cv = some (Bo (!decide (x = y))) := by
  have h := Trap_thrown.eq 9 x y
  unfold Trap_thrown.cv at h ⊢
  simp only [qbin]
  rw [h]; rfl
theorem Trap_thrown.at_0 (x : Trap_thrown) (q : List Nat) : x.cv.at (0 :: q) = (Trap_Fault.cv x.f_).at q := rfl
def Trap_thrown.upd_0 (x : Trap_thrown) (v : CV) : CV := .agg [v]
theorem Trap_thrown.set_0 (x : Trap_thrown) (q : List Nat) (v : CV) : x.cv.set (0 :: q) v = Trap_thrown.upd_0 x ((Trap_Fault.cv x.f_).set q v) := rfl
theorem Trap_thrown.fold_0 (x : Trap_thrown) (y : Trap_Fault) : Trap_thrown.upd_0 x (Trap_Fault.cv y) = ({ x with f_ := y } : Trap_thrown).cv := rfl
theorem Trap_thrown.fld_0 (x : Trap_thrown) : qfield C 194 x.cv 0 = some (Trap_Fault.cv x.f_) := qfield_of C tt194 (Trap_thrown.shape x) rfl tt44 rfl (Trap_Fault.shOk _)
theorem Trap_thrown.rfa_0 (x : Trap_thrown) (h : Heap) : qfieldAddr C h 194 (.rptr x.cv) 0 = some (.rptr (Trap_Fault.cv x.f_)) := by
  have hs := Trap_thrown.shape x
  unfold Trap_thrown.cv at hs ⊢
  simp only [qfieldAddr, tt194, ti194, tgt, hs, if_true, List.getElem?_cons_zero, List.getElem?_cons_succ]
theorem Trap_thrown.sub_0 (q : List Nat) (z : Shape) : subEq sh194 (0 :: q) z = subEq sh44 q z := rfl
theorem Trap_thrown.sub_nil : subEq sh194 [] sh194 = true := by simp [subEq, Shape.sub]
theorem Trap_thrown.alloc : allocObj C (.alloc 194) = some (.var sh194 Trap_thrown.zero.cv) := by simp only [allocObj, tt194, ti194, Trap_thrown.zcv]
theorem Trap_thrown.xalloc (p : Hp) : xalloc C p 194 = .ret (.ptr p.n []) (p.new (.var sh194 Trap_thrown.zero.cv)) := by simp only [Cl.xalloc, tt194, ti194, Trap_thrown.zcv]
theorem Trap_thrown.xbox (p : Hp) (x : Trap_thrown) : xbox C p 194 x.cv = .ret (.ptr p.n []) (p.new (.var sh194 x.cv)) := by
  have h : Cl.shOk x.cv ti194.sh = true := Trap_thrown.shOk x
  simp only [Cl.xbox, tt194, h, cond_true]; rfl
theorem Trap_thrown.bld_0 (a0 : Trap_Fault) : qbuild C 194 [(0, Trap_Fault.cv a0)] = some (({ f_ := a0 } : Trap_thrown).cv) := qbuild_of C tt194 (by simp only [partsOk, setAll, CV.shape, Trap_Fault.shape, sh194, List.all_cons, List.all_nil, List.getElem?_cons_zero, List.getElem?_cons_succ, Bool.and_true, decide_true]) rfl
theorem zs_Law12_RawEnv : (∀ (x : Law12_RawEnv), x.cv.shape = sh27) ∧ (∀ (x : Law12_RawEnv), Cl.shOk x.cv sh27 = true) ∧ (∀ (x : Law12_RawEnv) (q : List Nat), x.cv.at (0 :: q) = (I x.X).at q) ∧ (∀ (x : Law12_RawEnv) (q : List Nat) (v : CV), x.cv.set (0 :: q) v = Law12_RawEnv.upd_0 x ((I x.X).set q v)) ∧ (∀ (x : Law12_RawEnv) (y : Int), Law12_RawEnv.upd_0 x (I y) = ({ x with X := y } : Law12_RawEnv).cv) ∧ (∀ (x : Law12_RawEnv), qfield C 27 x.cv 0 = some (I x.X)) ∧ (∀ (x : Law12_RawEnv) (h : Heap), qfieldAddr C h 27 (.rptr x.cv) 0 = some (.rptr (I x.X))) ∧ (∀ (q : List Nat) (z : Shape), subEq sh27 (0 :: q) z = subEq sh3 q z) ∧ (∀ (x : Law12_RawEnv) (q : List Nat), x.cv.at (1 :: q) = (I x.Y).at q) ∧ (∀ (x : Law12_RawEnv) (q : List Nat) (v : CV), x.cv.set (1 :: q) v = Law12_RawEnv.upd_1 x ((I x.Y).set q v)) ∧ (∀ (x : Law12_RawEnv) (y : Int), Law12_RawEnv.upd_1 x (I y) = ({ x with Y := y } : Law12_RawEnv).cv) ∧ (∀ (x : Law12_RawEnv), qfield C 27 x.cv 1 = some (I x.Y)) ∧ (∀ (x : Law12_RawEnv) (h : Heap), qfieldAddr C h 27 (.rptr x.cv) 1 = some (.rptr (I x.Y))) ∧ (∀ (q : List Nat) (z : Shape), subEq sh27 (1 :: q) z = subEq sh3 q z) ∧ (∀ (x : Law12_RawEnv) (q : List Nat), x.cv.at (2 :: q) = (I x.VX).at q) ∧ (∀ (x : Law12_RawEnv) (q : List Nat) (v : CV), x.cv.set (2 :: q) v = Law12_RawEnv.upd_2 x ((I x.VX).set q v)) ∧ (∀ (x : Law12_RawEnv) (y : Int), Law12_RawEnv.upd_2 x (I y) = ({ x with VX := y } : Law12_RawEnv).cv) ∧ (∀ (x : Law12_RawEnv), qfield C 27 x.cv 2 = some (I x.VX)) ∧ (∀ (x : Law12_RawEnv) (h : Heap), qfieldAddr C h 27 (.rptr x.cv) 2 = some (.rptr (I x.VX))) ∧ (∀ (q : List Nat) (z : Shape), subEq sh27 (2 :: q) z = subEq sh3 q z) ∧ (∀ (x : Law12_RawEnv) (q : List Nat), x.cv.at (3 :: q) = (I x.Buttons).at q) ∧ (∀ (x : Law12_RawEnv) (q : List Nat) (v : CV), x.cv.set (3 :: q) v = Law12_RawEnv.upd_3 x ((I x.Buttons).set q v)) ∧ (∀ (x : Law12_RawEnv) (y : Int), Law12_RawEnv.upd_3 x (I y) = ({ x with Buttons := y } : Law12_RawEnv).cv) ∧ (∀ (x : Law12_RawEnv), qfield C 27 x.cv 3 = some (I x.Buttons)) ∧ (∀ (x : Law12_RawEnv) (h : Heap), qfieldAddr C h 27 (.rptr x.cv) 3 = some (.rptr (I x.Buttons))) ∧ (∀ (q : List Nat) (z : Shape), subEq sh27 (3 :: q) z = subEq sh3 q z) ∧ (∀ (x : Law12_RawEnv) (q : List Nat), x.cv.at (4 :: q) = (I x.StickX).at q) ∧ (∀ (x : Law12_RawEnv) (q : List Nat) (v : CV), x.cv.set (4 :: q) v = Law12_RawEnv.upd_4 x ((I x.StickX).set q v)) ∧ (∀ (x : Law12_RawEnv) (y : Int), Law12_RawEnv.upd_4 x (I y) = ({ x with StickX := y } : Law12_RawEnv).cv) ∧ (∀ (x : Law12_RawEnv), qfield C 27 x.cv 4 = some (I x.StickX)) ∧ (∀ (x : Law12_RawEnv) (h : Heap), qfieldAddr C h 27 (.rptr x.cv) 4 = some (.rptr (I x.StickX))) ∧ (∀ (q : List Nat) (z : Shape), subEq sh27 (4 :: q) z = subEq sh3 q z) ∧ (∀ (x : Law12_RawEnv) (q : List Nat), x.cv.at (5 :: q) = (I x.Room).at q) ∧ (∀ (x : Law12_RawEnv) (q : List Nat) (v : CV), x.cv.set (5 :: q) v = Law12_RawEnv.upd_5 x ((I x.Room).set q v)) ∧ (∀ (x : Law12_RawEnv) (y : Int), Law12_RawEnv.upd_5 x (I y) = ({ x with Room := y } : Law12_RawEnv).cv) ∧ (∀ (x : Law12_RawEnv), qfield C 27 x.cv 5 = some (I x.Room)) ∧ (∀ (x : Law12_RawEnv) (h : Heap), qfieldAddr C h 27 (.rptr x.cv) 5 = some (.rptr (I x.Room))) ∧ (∀ (q : List Nat) (z : Shape), subEq sh27 (5 :: q) z = subEq sh3 q z) ∧ (∀ (x : Law12_RawEnv) (q : List Nat), x.cv.at (6 :: q) = ((Lst.cv I) x.Mem).at q) ∧ (∀ (x : Law12_RawEnv) (q : List Nat) (v : CV), x.cv.set (6 :: q) v = Law12_RawEnv.upd_6 x (((Lst.cv I) x.Mem).set q v)) ∧ (∀ (x : Law12_RawEnv) (y : Lst Int), Law12_RawEnv.upd_6 x ((Lst.cv I) y) = ({ x with Mem := y } : Law12_RawEnv).cv) ∧ (∀ (x : Law12_RawEnv), qfield C 27 x.cv 6 = some ((Lst.cv I) x.Mem)) ∧ (∀ (x : Law12_RawEnv) (h : Heap), qfieldAddr C h 27 (.rptr x.cv) 6 = some (.rptr ((Lst.cv I) x.Mem))) ∧ (∀ (q : List Nat) (z : Shape), subEq sh27 (6 :: q) z = subEq sh24 q z) ∧ (∀ (x : Law12_RawEnv) (q : List Nat), x.cv.at (7 :: q) = (U x.Dice).at q) ∧ (∀ (x : Law12_RawEnv) (q : List Nat) (v : CV), x.cv.set (7 :: q) v = Law12_RawEnv.upd_7 x ((U x.Dice).set q v)) ∧ (∀ (x : Law12_RawEnv) (y : Int), Law12_RawEnv.upd_7 x (U y) = ({ x with Dice := y } : Law12_RawEnv).cv) ∧ (∀ (x : Law12_RawEnv), qfield C 27 x.cv 7 = some (U x.Dice)) ∧ (∀ (x : Law12_RawEnv) (h : Heap), qfieldAddr C h 27 (.rptr x.cv) 7 = some (.rptr (U x.Dice))) ∧ (∀ (q : List Nat) (z : Shape), subEq sh27 (7 :: q) z = subEq sh25 q z) ∧ (∀ (x : Law12_RawEnv) (q : List Nat), x.cv.at (8 :: q) = (I x.Bend).at q) ∧ (∀ (x : Law12_RawEnv) (q : List Nat) (v : CV), x.cv.set (8 :: q) v = Law12_RawEnv.upd_8 x ((I x.Bend).set q v)) ∧ (∀ (x : Law12_RawEnv) (y : Int), Law12_RawEnv.upd_8 x (I y) = ({ x with Bend := y } : Law12_RawEnv).cv) ∧ (∀ (x : Law12_RawEnv), qfield C 27 x.cv 8 = some (I x.Bend)) ∧ (∀ (x : Law12_RawEnv) (h : Heap), qfieldAddr C h 27 (.rptr x.cv) 8 = some (.rptr (I x.Bend))) ∧ (∀ (q : List Nat) (z : Shape), subEq sh27 (8 :: q) z = subEq sh3 q z) ∧ (subEq sh27 [] sh27 = true) ∧ (allocObj C (.alloc 27) = some (.var sh27 Law12_RawEnv.zero.cv)) ∧ (∀ (p : Hp), xalloc C p 27 = .ret (.ptr p.n []) (p.new (.var sh27 Law12_RawEnv.zero.cv))) ∧ (∀ (p : Hp) (x : Law12_RawEnv), xbox C p 27 x.cv = .ret (.ptr p.n []) (p.new (.var sh27 x.cv))) := ⟨Law12_RawEnv.shape, Law12_RawEnv.shOk, Law12_RawEnv.at_0, Law12_RawEnv.set_0, Law12_RawEnv.fold_0, Law12_RawEnv.fld_0, Law12_RawEnv.rfa_0, Law12_RawEnv.sub_0, Law12_RawEnv.at_1, Law12_RawEnv.set_1, Law12_RawEnv.fold_1, Law12_RawEnv.fld_1, Law12_RawEnv.rfa_1, Law12_RawEnv.sub_1, Law12_RawEnv.at_2, Law12_RawEnv.set_2, Law12_RawEnv.fold_2, Law12_RawEnv.fld_2, Law12_RawEnv.rfa_2, Law12_RawEnv.sub_2, Law12_RawEnv.at_3, Law12_RawEnv.set_3, Law12_RawEnv.fold_3, Law12_RawEnv.fld_3, Law12_RawEnv.rfa_3, Law12_RawEnv.sub_3, Law12_RawEnv.at_4, Law12_RawEnv.set_4, Law12_RawEnv.fold_4, Law12_RawEnv.fld_4, Law12_RawEnv.rfa_4, Law12_RawEnv.sub_4, Law12_RawEnv.at_5, Law12_RawEnv.set_5, Law12_RawEnv.fold_5, Law12_RawEnv.fld_5, Law12_RawEnv.rfa_5, Law12_RawEnv.sub_5, Law12_RawEnv.at_6, Law12_RawEnv.set_6, Law12_RawEnv.fold_6, Law12_RawEnv.fld_6, Law12_RawEnv.rfa_6, Law12_RawEnv.sub_6, Law12_RawEnv.at_7, Law12_RawEnv.set_7, Law12_RawEnv.fold_7, Law12_RawEnv.fld_7, Law12_RawEnv.rfa_7, Law12_RawEnv.sub_7, Law12_RawEnv.at_8, Law12_RawEnv.set_8, Law12_RawEnv.fold_8, Law12_RawEnv.fld_8, Law12_RawEnv.rfa_8, Law12_RawEnv.sub_8, Law12_RawEnv.sub_nil, Law12_RawEnv.alloc, Law12_RawEnv.xalloc, Law12_RawEnv.xbox⟩
theorem zs_Api_Op : (∀ (x : Api_Op), x.cv.shape = sh29) ∧ (∀ (x : Api_Op), Cl.shOk x.cv sh29 = true) ∧ (∀ (x y : Api_Op) (b : Bool), qbin C .eql 29 b x.cv y.cv = some (Bo (decide (x = y)))) ∧ (∀ (x y : Api_Op) (b : Bool), qbin C .neq 29 b x.cv y.cv = some (Bo (!decide (x = y)))) ∧ (∀ (x : Api_Op) (q : List Nat), x.cv.at (0 :: q) = (I x.Code).at q) ∧ (∀ (x : Api_Op) (q : List Nat) (v : CV), x.cv.set (0 :: q) v = Api_Op.upd_0 x ((I x.Code).set q v)) ∧ (∀ (x : Api_Op) (y : Int), Api_Op.upd_0 x (I y) = ({ x with Code := y } : Api_Op).cv) ∧ (∀ (x : Api_Op), qfield C 29 x.cv 0 = some (I x.Code)) ∧ (∀ (x : Api_Op) (h : Heap), qfieldAddr C h 29 (.rptr x.cv) 0 = some (.rptr (I x.Code))) ∧ (∀ (q : List Nat) (z : Shape), subEq sh29 (0 :: q) z = subEq sh3 q z) ∧ (∀ (x : Api_Op) (q : List Nat), x.cv.at (1 :: q) = (I x.A).at q) ∧ (∀ (x : Api_Op) (q : List Nat) (v : CV), x.cv.set (1 :: q) v = Api_Op.upd_1 x ((I x.A).set q v)) ∧ (∀ (x : Api_Op) (y : Int), Api_Op.upd_1 x (I y) = ({ x with A := y } : Api_Op).cv) ∧ (∀ (x : Api_Op), qfield C 29 x.cv 1 = some (I x.A)) ∧ (∀ (x : Api_Op) (h : Heap), qfieldAddr C h 29 (.rptr x.cv) 1 = some (.rptr (I x.A))) ∧ (∀ (q : List Nat) (z : Shape), subEq sh29 (1 :: q) z = subEq sh3 q z) ∧ (∀ (x : Api_Op) (q : List Nat), x.cv.at (2 :: q) = (I x.B).at q) ∧ (∀ (x : Api_Op) (q : List Nat) (v : CV), x.cv.set (2 :: q) v = Api_Op.upd_2 x ((I x.B).set q v)) ∧ (∀ (x : Api_Op) (y : Int), Api_Op.upd_2 x (I y) = ({ x with B := y } : Api_Op).cv) ∧ (∀ (x : Api_Op), qfield C 29 x.cv 2 = some (I x.B)) ∧ (∀ (x : Api_Op) (h : Heap), qfieldAddr C h 29 (.rptr x.cv) 2 = some (.rptr (I x.B))) ∧ (∀ (q : List Nat) (z : Shape), subEq sh29 (2 :: q) z = subEq sh3 q z) ∧ (subEq sh29 [] sh29 = true) ∧ (allocObj C (.alloc 29) = some (.var sh29 Api_Op.zero.cv)) ∧ (∀ (p : Hp), xalloc C p 29 = .ret (.ptr p.n []) (p.new (.var sh29 Api_Op.zero.cv))) ∧ (∀ (p : Hp) (x : Api_Op), xbox C p 29 x.cv = .ret (.ptr p.n []) (p.new (.var sh29 x.cv))) ∧ (∀ (a0 : Int), qbuild C 29 [(0, I a0)] = some (({ Code := a0, A := 0, B := 0 } : Api_Op).cv)) ∧ (∀ (a0 : Int) (a1 : Int), qbuild C 29 [(0, I a0), (1, I a1)] = some (({ Code := a0, A := a1, B := 0 } : Api_Op).cv)) ∧ (∀ (a0 : Int) (a1 : Int) (a2 : Int), qbuild C 29 [(0, I a0), (1, I a1), (2, I a2)] = some (({ Code := a0, A := a1, B := a2 } : Api_Op).cv)) := ⟨Api_Op.shape, Api_Op.shOk, Api_Op.eql, Api_Op.neq, Api_Op.at_0, Api_Op.set_0, Api_Op.fold_0, Api_Op.fld_0, Api_Op.rfa_0, Api_Op.sub_0, Api_Op.at_1, Api_Op.set_1, Api_Op.fold_1, Api_Op.fld_1, Api_Op.rfa_1, Api_Op.sub_1, Api_Op.at_2, Api_Op.set_2, Api_Op.fold_2, Api_Op.fld_2, Api_Op.rfa_2, Api_Op.sub_2, Api_Op.sub_nil, Api_Op.alloc, Api_Op.xalloc, Api_Op.xbox, Api_Op.bld_0, Api_Op.bld_0_1, Api_Op.bld_0_1_2⟩
theorem zs_Hand_RawOp : (∀ (x : Hand_RawOp), x.cv.shape = sh31) ∧ (∀ (x : Hand_RawOp), Cl.shOk x.cv sh31 = true) ∧ (∀ (x y : Hand_RawOp) (b : Bool), qbin C .eql 31 b x.cv y.cv = some (Bo (decide (x = y)))) ∧ (∀ (x y : Hand_RawOp) (b : Bool), qbin C .neq 31 b x.cv y.cv = some (Bo (!decide (x = y)))) ∧ (∀ (x : Hand_RawOp) (q : List Nat), x.cv.at (0 :: q) = (I x.Code).at q) ∧ (∀ (x : Hand_RawOp) (q : List Nat) (v : CV), x.cv.set (0 :: q) v = Hand_RawOp.upd_0 x ((I x.Code).set q v)) ∧ (∀ (x : Hand_RawOp) (y : Int), Hand_RawOp.upd_0 x (I y) = ({ x with Code := y } : Hand_RawOp).cv) ∧ (∀ (x : Hand_RawOp), qfield C 31 x.cv 0 = some (I x.Code)) ∧ (∀ (x : Hand_RawOp) (h : Heap), qfieldAddr C h 31 (.rptr x.cv) 0 = some (.rptr (I x.Code))) ∧ (∀ (q : List Nat) (z : Shape), subEq sh31 (0 :: q) z = subEq sh3 q z) ∧ (∀ (x : Hand_RawOp) (q : List Nat), x.cv.at (1 :: q) = (I x.A).at q) ∧ (∀ (x : Hand_RawOp) (q : List Nat) (v : CV), x.cv.set (1 :: q) v = Hand_RawOp.upd_1 x ((I x.A).set q v)) ∧ (∀ (x : Hand_RawOp) (y : Int), Hand_RawOp.upd_1 x (I y) = ({ x with A := y } : Hand_RawOp).cv) ∧ (∀ (x : Hand_RawOp), qfield C 31 x.cv 1 = some (I x.A)) ∧ (∀ (x : Hand_RawOp) (h : Heap), qfieldAddr C h 31 (.rptr x.cv) 1 = some (.rptr (I x.A))) ∧ (∀ (q : List Nat) (z : Shape), subEq sh31 (1 :: q) z = subEq sh3 q z) ∧ (∀ (x : Hand_RawOp) (q : List Nat), x.cv.at (2 :: q) = (I x.B).at q) ∧ (∀ (x : Hand_RawOp) (q : List Nat) (v : CV), x.cv.set (2 :: q) v = Hand_RawOp.upd_2 x ((I x.B).set q v)) ∧ (∀ (x : Hand_RawOp) (y : Int), Hand_RawOp.upd_2 x (I y) = ({ x with B := y } : Hand_RawOp).cv) ∧ (∀ (x : Hand_RawOp), qfield C 31 x.cv 2 = some (I x.B)) ∧ (∀ (x : Hand_RawOp) (h : Heap), qfieldAddr C h 31 (.rptr x.cv) 2 = some (.rptr (I x.B))) ∧ (∀ (q : List Nat) (z : Shape), subEq sh31 (2 :: q) z = subEq sh3 q z) ∧ (subEq sh31 [] sh31 = true) ∧ (allocObj C (.alloc 31) = some (.var sh31 Hand_RawOp.zero.cv)) ∧ (∀ (p : Hp), xalloc C p 31 = .ret (.ptr p.n []) (p.new (.var sh31 Hand_RawOp.zero.cv))) ∧ (∀ (p : Hp) (x : Hand_RawOp), xbox C p 31 x.cv = .ret (.ptr p.n []) (p.new (.var sh31 x.cv))) := ⟨Hand_RawOp.shape, Hand_RawOp.shOk, Hand_RawOp.eql, Hand_RawOp.neq, Hand_RawOp.at_0, Hand_RawOp.set_0, Hand_RawOp.fold_0, Hand_RawOp.fld_0, Hand_RawOp.rfa_0, Hand_RawOp.sub_0, Hand_RawOp.at_1, Hand_RawOp.set_1, Hand_RawOp.fold_1, Hand_RawOp.fld_1, Hand_RawOp.rfa_1, Hand_RawOp.sub_1, Hand_RawOp.at_2, Hand_RawOp.set_2, Hand_RawOp.fold_2, Hand_RawOp.fld_2, Hand_RawOp.rfa_2, Hand_RawOp.sub_2, Hand_RawOp.sub_nil, Hand_RawOp.alloc, Hand_RawOp.xalloc, Hand_RawOp.xbox⟩
theorem zs_Api_Body : (∀ (x : Api_Body), x.cv.shape = sh34) ∧ (∀ (x : Api_Body), Cl.shOk x.cv sh34 = true) ∧ (∀ (x y : Api_Body) (b : Bool), qbin C .eql 34 b x.cv y.cv = some (Bo (decide (x = y)))) ∧ (∀ (x y : Api_Body) (b : Bool), qbin C .neq 34 b x.cv y.cv = some (Bo (!decide (x = y)))) ∧ (∀ (x : Api_Body) (q : List Nat), x.cv.at (0 :: q) = (I x.Kind).at q) ∧ (∀ (x : Api_Body) (q : List Nat) (v : CV), x.cv.set (0 :: q) v = Api_Body.upd_0 x ((I x.Kind).set q v)) ∧ (∀ (x : Api_Body) (y : Int), Api_Body.upd_0 x (I y) = ({ x with Kind := y } : Api_Body).cv) ∧ (∀ (x : Api_Body), qfield C 34 x.cv 0 = some (I x.Kind)) ∧ (∀ (x : Api_Body) (h : Heap), qfieldAddr C h 34 (.rptr x.cv) 0 = some (.rptr (I x.Kind))) ∧ (∀ (q : List Nat) (z : Shape), subEq sh34 (0 :: q) z = subEq sh3 q z) ∧ (∀ (x : Api_Body) (q : List Nat), x.cv.at (1 :: q) = (I x.Owner).at q) ∧ (∀ (x : Api_Body) (q : List Nat) (v : CV), x.cv.set (1 :: q) v = Api_Body.upd_1 x ((I x.Owner).set q v)) ∧ (∀ (x : Api_Body) (y : Int), Api_Body.upd_1 x (I y) = ({ x with Owner := y } : Api_Body).cv) ∧ (∀ (x : Api_Body), qfield C 34 x.cv 1 = some (I x.Owner)) ∧ (∀ (x : Api_Body) (h : Heap), qfieldAddr C h 34 (.rptr x.cv) 1 = some (.rptr (I x.Owner))) ∧ (∀ (q : List Nat) (z : Shape), subEq sh34 (1 :: q) z = subEq sh3 q z) ∧ (∀ (x : Api_Body) (q : List Nat), x.cv.at (2 :: q) = (I x.X).at q) ∧ (∀ (x : Api_Body) (q : List Nat) (v : CV), x.cv.set (2 :: q) v = Api_Body.upd_2 x ((I x.X).set q v)) ∧ (∀ (x : Api_Body) (y : Int), Api_Body.upd_2 x (I y) = ({ x with X := y } : Api_Body).cv) ∧ (∀ (x : Api_Body), qfield C 34 x.cv 2 = some (I x.X)) ∧ (∀ (x : Api_Body) (h : Heap), qfieldAddr C h 34 (.rptr x.cv) 2 = some (.rptr (I x.X))) ∧ (∀ (q : List Nat) (z : Shape), subEq sh34 (2 :: q) z = subEq sh3 q z) ∧ (∀ (x : Api_Body) (q : List Nat), x.cv.at (3 :: q) = (I x.Y).at q) ∧ (∀ (x : Api_Body) (q : List Nat) (v : CV), x.cv.set (3 :: q) v = Api_Body.upd_3 x ((I x.Y).set q v)) ∧ (∀ (x : Api_Body) (y : Int), Api_Body.upd_3 x (I y) = ({ x with Y := y } : Api_Body).cv) ∧ (∀ (x : Api_Body), qfield C 34 x.cv 3 = some (I x.Y)) ∧ (∀ (x : Api_Body) (h : Heap), qfieldAddr C h 34 (.rptr x.cv) 3 = some (.rptr (I x.Y))) ∧ (∀ (q : List Nat) (z : Shape), subEq sh34 (3 :: q) z = subEq sh3 q z) ∧ (∀ (x : Api_Body) (q : List Nat), x.cv.at (4 :: q) = (I x.VX).at q) ∧ (∀ (x : Api_Body) (q : List Nat) (v : CV), x.cv.set (4 :: q) v = Api_Body.upd_4 x ((I x.VX).set q v)) ∧ (∀ (x : Api_Body) (y : Int), Api_Body.upd_4 x (I y) = ({ x with VX := y } : Api_Body).cv) ∧ (∀ (x : Api_Body), qfield C 34 x.cv 4 = some (I x.VX)) ∧ (∀ (x : Api_Body) (h : Heap), qfieldAddr C h 34 (.rptr x.cv) 4 = some (.rptr (I x.VX))) ∧ (∀ (q : List Nat) (z : Shape), subEq sh34 (4 :: q) z = subEq sh3 q z) ∧ (∀ (x : Api_Body) (q : List Nat), x.cv.at (5 :: q) = (I x.VY).at q) ∧ (∀ (x : Api_Body) (q : List Nat) (v : CV), x.cv.set (5 :: q) v = Api_Body.upd_5 x ((I x.VY).set q v)) ∧ (∀ (x : Api_Body) (y : Int), Api_Body.upd_5 x (I y) = ({ x with VY := y } : Api_Body).cv) ∧ (∀ (x : Api_Body), qfield C 34 x.cv 5 = some (I x.VY)) ∧ (∀ (x : Api_Body) (h : Heap), qfieldAddr C h 34 (.rptr x.cv) 5 = some (.rptr (I x.VY))) ∧ (∀ (q : List Nat) (z : Shape), subEq sh34 (5 :: q) z = subEq sh3 q z) ∧ (∀ (x : Api_Body) (q : List Nat), x.cv.at (6 :: q) = (I x.Age).at q) ∧ (∀ (x : Api_Body) (q : List Nat) (v : CV), x.cv.set (6 :: q) v = Api_Body.upd_6 x ((I x.Age).set q v)) ∧ (∀ (x : Api_Body) (y : Int), Api_Body.upd_6 x (I y) = ({ x with Age := y } : Api_Body).cv) ∧ (∀ (x : Api_Body), qfield C 34 x.cv 6 = some (I x.Age)) ∧ (∀ (x : Api_Body) (h : Heap), qfieldAddr C h 34 (.rptr x.cv) 6 = some (.rptr (I x.Age))) ∧ (∀ (q : List Nat) (z : Shape), subEq sh34 (6 :: q) z = subEq sh3 q z) ∧ (∀ (x : Api_Body), x.cv.at [7] = some (.agg (x.Mem.map I))) ∧ (∀ (x : Api_Body) (k : Nat) (q : List Nat) (h : k < 4), x.cv.at (7 :: k :: q) = (I (nth x.Mem k)).at q) ∧ (∀ (x : Api_Body) (v : CV), x.cv.set [7] v = Api_Body.upd_7 x v) ∧ (∀ (x : Api_Body) (k : Nat) (q : List Nat) (v : CV) (h : k < 4), x.cv.set (7 :: k :: q) v = Api_Body.upd_7k x k ((I (nth x.Mem k)).set q v)) ∧ (∀ (x : Api_Body) (k : Nat) (y : Int), Api_Body.upd_7k x k (I y) = (Api_Body.put_7k x k y).cv) ∧ (∀ (x : Api_Body) (l : List Int) (h : l.length = 4), Api_Body.upd_7 x (.agg (l.map I)) = ({ x with Mem := l, hMem := h } : Api_Body).cv) ∧ (∀ (x : Api_Body), qfield C 34 x.cv 7 = some (.agg (x.Mem.map I))) ∧ (∀ (x : Api_Body) (h : Heap), qfieldAddr C h 34 (.rptr x.cv) 7 = some (.rptr (.agg (x.Mem.map I)))) ∧ (∀ (k : Nat) (q : List Nat) (z : Shape), subEq sh34 (7 :: k :: q) z = (decide (k < 4) && subEq sh3 q z)) ∧ (∀ (z : Shape), subEq sh34 [7] z = subEq sh32 [] z) ∧ (∀ (x : Api_Body) (q : List Nat), x.cv.at (8 :: q) = (I x.Faults).at q) ∧ (∀ (x : Api_Body) (q : List Nat) (v : CV), x.cv.set (8 :: q) v = Api_Body.upd_8 x ((I x.Faults).set q v)) ∧ (∀ (x : Api_Body) (y : Int), Api_Body.upd_8 x (I y) = ({ x with Faults := y } : Api_Body).cv) ∧ (∀ (x : Api_Body), qfield C 34 x.cv 8 = some (I x.Faults)) ∧ (∀ (x : Api_Body) (h : Heap), qfieldAddr C h 34 (.rptr x.cv) 8 = some (.rptr (I x.Faults))) ∧ (∀ (q : List Nat) (z : Shape), subEq sh34 (8 :: q) z = subEq sh3 q z) ∧ (subEq sh34 [] sh34 = true) ∧ (allocObj C (.alloc 34) = some (.var sh34 Api_Body.zero.cv)) ∧ (∀ (p : Hp), xalloc C p 34 = .ret (.ptr p.n []) (p.new (.var sh34 Api_Body.zero.cv))) ∧ (∀ (p : Hp) (x : Api_Body), xbox C p 34 x.cv = .ret (.ptr p.n []) (p.new (.var sh34 x.cv))) ∧ (qbuild C 34 [] = some (({ Kind := 0, Owner := 0, X := 0, Y := 0, VX := 0, VY := 0, Age := 0, Mem := (List.replicate 4 0), hMem := List.length_replicate, Faults := 0 } : Api_Body).cv)) ∧ (∀ (a0 : Int), qbuild C 34 [(0, I a0)] = some (({ Kind := a0, Owner := 0, X := 0, Y := 0, VX := 0, VY := 0, Age := 0, Mem := (List.replicate 4 0), hMem := List.length_replicate, Faults := 0 } : Api_Body).cv)) ∧ (∀ (a0 : Int) (a1 : Int) (a2 : Int) (a3 : Int), qbuild C 34 [(0, I a0), (1, I a1), (2, I a2), (3, I a3)] = some (({ Kind := a0, Owner := a1, X := a2, Y := a3, VX := 0, VY := 0, Age := 0, Mem := (List.replicate 4 0), hMem := List.length_replicate, Faults := 0 } : Api_Body).cv)) ∧ (∀ (a0 : Int) (a1 : Int) (a2 : Int) (a3 : Int) (a4 : Int) (a5 : Int), qbuild C 34 [(0, I a0), (1, I a1), (2, I a2), (3, I a3), (4, I a4), (5, I a5)] = some (({ Kind := a0, Owner := a1, X := a2, Y := a3, VX := a4, VY := a5, Age := 0, Mem := (List.replicate 4 0), hMem := List.length_replicate, Faults := 0 } : Api_Body).cv)) := ⟨Api_Body.shape, Api_Body.shOk, Api_Body.eql, Api_Body.neq, Api_Body.at_0, Api_Body.set_0, Api_Body.fold_0, Api_Body.fld_0, Api_Body.rfa_0, Api_Body.sub_0, Api_Body.at_1, Api_Body.set_1, Api_Body.fold_1, Api_Body.fld_1, Api_Body.rfa_1, Api_Body.sub_1, Api_Body.at_2, Api_Body.set_2, Api_Body.fold_2, Api_Body.fld_2, Api_Body.rfa_2, Api_Body.sub_2, Api_Body.at_3, Api_Body.set_3, Api_Body.fold_3, Api_Body.fld_3, Api_Body.rfa_3, Api_Body.sub_3, Api_Body.at_4, Api_Body.set_4, Api_Body.fold_4, Api_Body.fld_4, Api_Body.rfa_4, Api_Body.sub_4, Api_Body.at_5, Api_Body.set_5, Api_Body.fold_5, Api_Body.fld_5, Api_Body.rfa_5, Api_Body.sub_5, Api_Body.at_6, Api_Body.set_6, Api_Body.fold_6, Api_Body.fld_6, Api_Body.rfa_6, Api_Body.sub_6, Api_Body.at_7, Api_Body.at_7k, Api_Body.set_7, Api_Body.set_7k, Api_Body.fold_7k, Api_Body.fold_7, Api_Body.fld_7, Api_Body.rfa_7, Api_Body.sub_7k, Api_Body.sub_7, Api_Body.at_8, Api_Body.set_8, Api_Body.fold_8, Api_Body.fld_8, Api_Body.rfa_8, Api_Body.sub_8, Api_Body.sub_nil, Api_Body.alloc, Api_Body.xalloc, Api_Body.xbox, Api_Body.bld_none, Api_Body.bld_0, Api_Body.bld_0_1_2_3, Api_Body.bld_0_1_2_3_4_5⟩
theorem zs_Api_Input : (∀ (x : Api_Input), x.cv.shape = sh36) ∧ (∀ (x : Api_Input), Cl.shOk x.cv sh36 = true) ∧ (∀ (x y : Api_Input) (b : Bool), qbin C .eql 36 b x.cv y.cv = some (Bo (decide (x = y)))) ∧ (∀ (x y : Api_Input) (b : Bool), qbin C .neq 36 b x.cv y.cv = some (Bo (!decide (x = y)))) ∧ (∀ (x : Api_Input) (q : List Nat), x.cv.at (0 :: q) = (I x.Buttons).at q) ∧ (∀ (x : Api_Input) (q : List Nat) (v : CV), x.cv.set (0 :: q) v = Api_Input.upd_0 x ((I x.Buttons).set q v)) ∧ (∀ (x : Api_Input) (y : Int), Api_Input.upd_0 x (I y) = ({ x with Buttons := y } : Api_Input).cv) ∧ (∀ (x : Api_Input), qfield C 36 x.cv 0 = some (I x.Buttons)) ∧ (∀ (x : Api_Input) (h : Heap), qfieldAddr C h 36 (.rptr x.cv) 0 = some (.rptr (I x.Buttons))) ∧ (∀ (q : List Nat) (z : Shape), subEq sh36 (0 :: q) z = subEq sh3 q z) ∧ (∀ (x : Api_Input) (q : List Nat), x.cv.at (1 :: q) = (I x.X).at q) ∧ (∀ (x : Api_Input) (q : List Nat) (v : CV), x.cv.set (1 :: q) v = Api_Input.upd_1 x ((I x.X).set q v)) ∧ (∀ (x : Api_Input) (y : Int), Api_Input.upd_1 x (I y) = ({ x with X := y } : Api_Input).cv) ∧ (∀ (x : Api_Input), qfield C 36 x.cv 1 = some (I x.X)) ∧ (∀ (x : Api_Input) (h : Heap), qfieldAddr C h 36 (.rptr x.cv) 1 = some (.rptr (I x.X))) ∧ (∀ (q : List Nat) (z : Shape), subEq sh36 (1 :: q) z = subEq sh3 q z) ∧ (∀ (x : Api_Input) (q : List Nat), x.cv.at (2 :: q) = (I x.Y).at q) ∧ (∀ (x : Api_Input) (q : List Nat) (v : CV), x.cv.set (2 :: q) v = Api_Input.upd_2 x ((I x.Y).set q v)) ∧ (∀ (x : Api_Input) (y : Int), Api_Input.upd_2 x (I y) = ({ x with Y := y } : Api_Input).cv) ∧ (∀ (x : Api_Input), qfield C 36 x.cv 2 = some (I x.Y)) ∧ (∀ (x : Api_Input) (h : Heap), qfieldAddr C h 36 (.rptr x.cv) 2 = some (.rptr (I x.Y))) ∧ (∀ (q : List Nat) (z : Shape), subEq sh36 (2 :: q) z = subEq sh3 q z) ∧ (subEq sh36 [] sh36 = true) ∧ (allocObj C (.alloc 36) = some (.var sh36 Api_Input.zero.cv)) ∧ (∀ (p : Hp), xalloc C p 36 = .ret (.ptr p.n []) (p.new (.var sh36 Api_Input.zero.cv))) ∧ (∀ (p : Hp) (x : Api_Input), xbox C p 36 x.cv = .ret (.ptr p.n []) (p.new (.var sh36 x.cv))) ∧ (qbuild C 36 [] = some (({ Buttons := 0, X := 0, Y := 0 } : Api_Input).cv)) ∧ (∀ (a0 : Int) (a1 : Int), qbuild C 36 [(0, I a0), (1, I a1)] = some (({ Buttons := a0, X := a1, Y := 0 } : Api_Input).cv)) ∧ (∀ (a0 : Int) (a1 : Int) (a2 : Int), qbuild C 36 [(0, I a0), (1, I a1), (2, I a2)] = some (({ Buttons := a0, X := a1, Y := a2 } : Api_Input).cv)) ∧ (∀ (a1 : Int), qbuild C 36 [(1, I a1)] = some (({ Buttons := 0, X := a1, Y := 0 } : Api_Input).cv)) := ⟨Api_Input.shape, Api_Input.shOk, Api_Input.eql, Api_Input.neq, Api_Input.at_0, Api_Input.set_0, Api_Input.fold_0, Api_Input.fld_0, Api_Input.rfa_0, Api_Input.sub_0, Api_Input.at_1, Api_Input.set_1, Api_Input.fold_1, Api_Input.fld_1, Api_Input.rfa_1, Api_Input.sub_1, Api_Input.at_2, Api_Input.set_2, Api_Input.fold_2, Api_Input.fld_2, Api_Input.rfa_2, Api_Input.sub_2, Api_Input.sub_nil, Api_Input.alloc, Api_Input.xalloc, Api_Input.xbox, Api_Input.bld_none, Api_Input.bld_0_1, Api_Input.bld_0_1_2, Api_Input.bld_1⟩
theorem zs_Rule_Env : (∀ (x : Rule_Env), x.cv.shape = sh39) ∧ (∀ (x : Rule_Env), Cl.shOk x.cv sh39 = true) ∧ (∀ (x : Rule_Env) (q : List Nat), x.cv.at (0 :: q) = (Api_Body.cv x.Body).at q) ∧ (∀ (x : Rule_Env) (q : List Nat) (v : CV), x.cv.set (0 :: q) v = Rule_Env.upd_0 x ((Api_Body.cv x.Body).set q v)) ∧ (∀ (x : Rule_Env) (y : Api_Body), Rule_Env.upd_0 x (Api_Body.cv y) = ({ x with Body := y } : Rule_Env).cv) ∧ (∀ (x : Rule_Env), qfield C 39 x.cv 0 = some (Api_Body.cv x.Body)) ∧ (∀ (x : Rule_Env) (h : Heap), qfieldAddr C h 39 (.rptr x.cv) 0 = some (.rptr (Api_Body.cv x.Body))) ∧ (∀ (q : List Nat) (z : Shape), subEq sh39 (0 :: q) z = subEq sh34 q z) ∧ (∀ (x : Rule_Env) (q : List Nat), x.cv.at (1 :: q) = (Api_Input.cv x.In).at q) ∧ (∀ (x : Rule_Env) (q : List Nat) (v : CV), x.cv.set (1 :: q) v = Rule_Env.upd_1 x ((Api_Input.cv x.In).set q v)) ∧ (∀ (x : Rule_Env) (y : Api_Input), Rule_Env.upd_1 x (Api_Input.cv y) = ({ x with In := y } : Rule_Env).cv) ∧ (∀ (x : Rule_Env), qfield C 39 x.cv 1 = some (Api_Input.cv x.In)) ∧ (∀ (x : Rule_Env) (h : Heap), qfieldAddr C h 39 (.rptr x.cv) 1 = some (.rptr (Api_Input.cv x.In))) ∧ (∀ (q : List Nat) (z : Shape), subEq sh39 (1 :: q) z = subEq sh36 q z) ∧ (∀ (x : Rule_Env) (q : List Nat), x.cv.at (2 :: q) = (U x.Dice).at q) ∧ (∀ (x : Rule_Env) (q : List Nat) (v : CV), x.cv.set (2 :: q) v = Rule_Env.upd_2 x ((U x.Dice).set q v)) ∧ (∀ (x : Rule_Env) (y : Int), Rule_Env.upd_2 x (U y) = ({ x with Dice := y } : Rule_Env).cv) ∧ (∀ (x : Rule_Env), qfield C 39 x.cv 2 = some (U x.Dice)) ∧ (∀ (x : Rule_Env) (h : Heap), qfieldAddr C h 39 (.rptr x.cv) 2 = some (.rptr (U x.Dice))) ∧ (∀ (q : List Nat) (z : Shape), subEq sh39 (2 :: q) z = subEq sh25 q z) ∧ (∀ (x : Rule_Env) (q : List Nat), x.cv.at (3 :: q) = (I x.Room).at q) ∧ (∀ (x : Rule_Env) (q : List Nat) (v : CV), x.cv.set (3 :: q) v = Rule_Env.upd_3 x ((I x.Room).set q v)) ∧ (∀ (x : Rule_Env) (y : Int), Rule_Env.upd_3 x (I y) = ({ x with Room := y } : Rule_Env).cv) ∧ (∀ (x : Rule_Env), qfield C 39 x.cv 3 = some (I x.Room)) ∧ (∀ (x : Rule_Env) (h : Heap), qfieldAddr C h 39 (.rptr x.cv) 3 = some (.rptr (I x.Room))) ∧ (∀ (q : List Nat) (z : Shape), subEq sh39 (3 :: q) z = subEq sh3 q z) ∧ (∀ (x : Rule_Env) (q : List Nat), x.cv.at (4 :: q) = ((Lst.cv Api_Body.cv) x.Shots).at q) ∧ (∀ (x : Rule_Env) (q : List Nat) (v : CV), x.cv.set (4 :: q) v = Rule_Env.upd_4 x (((Lst.cv Api_Body.cv) x.Shots).set q v)) ∧ (∀ (x : Rule_Env) (y : Lst Api_Body), Rule_Env.upd_4 x ((Lst.cv Api_Body.cv) y) = ({ x with Shots := y } : Rule_Env).cv) ∧ (∀ (x : Rule_Env), qfield C 39 x.cv 4 = some ((Lst.cv Api_Body.cv) x.Shots)) ∧ (∀ (x : Rule_Env) (h : Heap), qfieldAddr C h 39 (.rptr x.cv) 4 = some (.rptr ((Lst.cv Api_Body.cv) x.Shots))) ∧ (∀ (q : List Nat) (z : Shape), subEq sh39 (4 :: q) z = subEq sh37 q z) ∧ (subEq sh39 [] sh39 = true) ∧ (allocObj C (.alloc 39) = some (.var sh39 Rule_Env.zero.cv)) ∧ (∀ (p : Hp), xalloc C p 39 = .ret (.ptr p.n []) (p.new (.var sh39 Rule_Env.zero.cv))) ∧ (∀ (p : Hp) (x : Rule_Env), xbox C p 39 x.cv = .ret (.ptr p.n []) (p.new (.var sh39 x.cv))) ∧ (∀ (a0 : Api_Body) (a1 : Api_Input) (a2 : Int) (a3 : Int), qbuild C 39 [(0, Api_Body.cv a0), (1, Api_Input.cv a1), (2, U a2), (3, I a3)] = some (({ Body := a0, In := a1, Dice := a2, Room := a3, Shots := ⟨.nil, [], fun _ => rfl⟩ } : Rule_Env).cv)) ∧ (∀ (a0 : Api_Body) (a1 : Api_Input) (a2 : Int) (a3 : Int) (a4 : Lst Api_Body), qbuild C 39 [(0, Api_Body.cv a0), (1, Api_Input.cv a1), (2, U a2), (3, I a3), (4, (Lst.cv Api_Body.cv) a4)] = some (({ Body := a0, In := a1, Dice := a2, Room := a3, Shots := a4 } : Rule_Env).cv)) := ⟨Rule_Env.shape, Rule_Env.shOk, Rule_Env.at_0, Rule_Env.set_0, Rule_Env.fold_0, Rule_Env.fld_0, Rule_Env.rfa_0, Rule_Env.sub_0, Rule_Env.at_1, Rule_Env.set_1, Rule_Env.fold_1, Rule_Env.fld_1, Rule_Env.rfa_1, Rule_Env.sub_1, Rule_Env.at_2, Rule_Env.set_2, Rule_Env.fold_2, Rule_Env.fld_2, Rule_Env.rfa_2, Rule_Env.sub_2, Rule_Env.at_3, Rule_Env.set_3, Rule_Env.fold_3, Rule_Env.fld_3, Rule_Env.rfa_3, Rule_Env.sub_3, Rule_Env.at_4, Rule_Env.set_4, Rule_Env.fold_4, Rule_Env.fld_4, Rule_Env.rfa_4, Rule_Env.sub_4, Rule_Env.sub_nil, Rule_Env.alloc, Rule_Env.xalloc, Rule_Env.xbox, Rule_Env.bld_0_1_2_3, Rule_Env.bld_0_1_2_3_4⟩
theorem zs_Trap_Fault : (∀ (x : Trap_Fault), x.cv.shape = sh44) ∧ (∀ (x : Trap_Fault), Cl.shOk x.cv sh44 = true) ∧ (∀ (x y : Trap_Fault) (b : Bool), qbin C .eql 44 b x.cv y.cv = some (Bo (decide (x = y)))) ∧ (∀ (x y : Trap_Fault) (b : Bool), qbin C .neq 44 b x.cv y.cv = some (Bo (!decide (x = y)))) ∧ (∀ (x : Trap_Fault) (q : List Nat), x.cv.at (0 :: q) = (I x.Code).at q) ∧ (∀ (x : Trap_Fault) (q : List Nat) (v : CV), x.cv.set (0 :: q) v = Trap_Fault.upd_0 x ((I x.Code).set q v)) ∧ (∀ (x : Trap_Fault) (y : Int), Trap_Fault.upd_0 x (I y) = ({ x with Code := y } : Trap_Fault).cv) ∧ (∀ (x : Trap_Fault), qfield C 44 x.cv 0 = some (I x.Code)) ∧ (∀ (x : Trap_Fault) (h : Heap), qfieldAddr C h 44 (.rptr x.cv) 0 = some (.rptr (I x.Code))) ∧ (∀ (q : List Nat) (z : Shape), subEq sh44 (0 :: q) z = subEq sh3 q z) ∧ (∀ (x : Trap_Fault) (q : List Nat), x.cv.at (1 :: q) = (I x.At).at q) ∧ (∀ (x : Trap_Fault) (q : List Nat) (v : CV), x.cv.set (1 :: q) v = Trap_Fault.upd_1 x ((I x.At).set q v)) ∧ (∀ (x : Trap_Fault) (y : Int), Trap_Fault.upd_1 x (I y) = ({ x with At := y } : Trap_Fault).cv) ∧ (∀ (x : Trap_Fault), qfield C 44 x.cv 1 = some (I x.At)) ∧ (∀ (x : Trap_Fault) (h : Heap), qfieldAddr C h 44 (.rptr x.cv) 1 = some (.rptr (I x.At))) ∧ (∀ (q : List Nat) (z : Shape), subEq sh44 (1 :: q) z = subEq sh3 q z) ∧ (subEq sh44 [] sh44 = true) ∧ (allocObj C (.alloc 44) = some (.var sh44 Trap_Fault.zero.cv)) ∧ (∀ (p : Hp), xalloc C p 44 = .ret (.ptr p.n []) (p.new (.var sh44 Trap_Fault.zero.cv))) ∧ (∀ (p : Hp) (x : Trap_Fault), xbox C p 44 x.cv = .ret (.ptr p.n []) (p.new (.var sh44 x.cv))) ∧ (qbuild C 44 [] = some (({ Code := 0, At := 0 } : Trap_Fault).cv)) ∧ (∀ (a0 : Int), qbuild C 44 [(0, I a0)] = some (({ Code := a0, At := 0 } : Trap_Fault).cv)) ∧ (∀ (a0 : Int) (a1 : Int), qbuild C 44 [(0, I a0), (1, I a1)] = some (({ Code := a0, At := a1 } : Trap_Fault).cv)) := ⟨Trap_Fault.shape, Trap_Fault.shOk, Trap_Fault.eql, Trap_Fault.neq, Trap_Fault.at_0, Trap_Fault.set_0, Trap_Fault.fold_0, Trap_Fault.fld_0, Trap_Fault.rfa_0, Trap_Fault.sub_0, Trap_Fault.at_1, Trap_Fault.set_1, Trap_Fault.fold_1, Trap_Fault.fld_1, Trap_Fault.rfa_1, Trap_Fault.sub_1, Trap_Fault.sub_nil, Trap_Fault.alloc, Trap_Fault.xalloc, Trap_Fault.xbox, Trap_Fault.bld_none, Trap_Fault.bld_0, Trap_Fault.bld_0_1⟩
theorem zs_Ref11_Env : (∀ (x : Ref11_Env), x.cv.shape = sh51) ∧ (∀ (x : Ref11_Env), Cl.shOk x.cv sh51 = true) ∧ (∀ (x : Ref11_Env) (q : List Nat), x.cv.at (0 :: q) = (Api_Body.cv x.Body).at q) ∧ (∀ (x : Ref11_Env) (q : List Nat) (v : CV), x.cv.set (0 :: q) v = Ref11_Env.upd_0 x ((Api_Body.cv x.Body).set q v)) ∧ (∀ (x : Ref11_Env) (y : Api_Body), Ref11_Env.upd_0 x (Api_Body.cv y) = ({ x with Body := y } : Ref11_Env).cv) ∧ (∀ (x : Ref11_Env), qfield C 51 x.cv 0 = some (Api_Body.cv x.Body)) ∧ (∀ (x : Ref11_Env) (h : Heap), qfieldAddr C h 51 (.rptr x.cv) 0 = some (.rptr (Api_Body.cv x.Body))) ∧ (∀ (q : List Nat) (z : Shape), subEq sh51 (0 :: q) z = subEq sh34 q z) ∧ (∀ (x : Ref11_Env) (q : List Nat), x.cv.at (1 :: q) = (Api_Input.cv x.In).at q) ∧ (∀ (x : Ref11_Env) (q : List Nat) (v : CV), x.cv.set (1 :: q) v = Ref11_Env.upd_1 x ((Api_Input.cv x.In).set q v)) ∧ (∀ (x : Ref11_Env) (y : Api_Input), Ref11_Env.upd_1 x (Api_Input.cv y) = ({ x with In := y } : Ref11_Env).cv) ∧ (∀ (x : Ref11_Env), qfield C 51 x.cv 1 = some (Api_Input.cv x.In)) ∧ (∀ (x : Ref11_Env) (h : Heap), qfieldAddr C h 51 (.rptr x.cv) 1 = some (.rptr (Api_Input.cv x.In))) ∧ (∀ (q : List Nat) (z : Shape), subEq sh51 (1 :: q) z = subEq sh36 q z) ∧ (∀ (x : Ref11_Env) (q : List Nat), x.cv.at (2 :: q) = (U x.Dice).at q) ∧ (∀ (x : Ref11_Env) (q : List Nat) (v : CV), x.cv.set (2 :: q) v = Ref11_Env.upd_2 x ((U x.Dice).set q v)) ∧ (∀ (x : Ref11_Env) (y : Int), Ref11_Env.upd_2 x (U y) = ({ x with Dice := y } : Ref11_Env).cv) ∧ (∀ (x : Ref11_Env), qfield C 51 x.cv 2 = some (U x.Dice)) ∧ (∀ (x : Ref11_Env) (h : Heap), qfieldAddr C h 51 (.rptr x.cv) 2 = some (.rptr (U x.Dice))) ∧ (∀ (q : List Nat) (z : Shape), subEq sh51 (2 :: q) z = subEq sh25 q z) ∧ (∀ (x : Ref11_Env) (q : List Nat), x.cv.at (3 :: q) = (I x.Room).at q) ∧ (∀ (x : Ref11_Env) (q : List Nat) (v : CV), x.cv.set (3 :: q) v = Ref11_Env.upd_3 x ((I x.Room).set q v)) ∧ (∀ (x : Ref11_Env) (y : Int), Ref11_Env.upd_3 x (I y) = ({ x with Room := y } : Ref11_Env).cv) ∧ (∀ (x : Ref11_Env), qfield C 51 x.cv 3 = some (I x.Room)) ∧ (∀ (x : Ref11_Env) (h : Heap), qfieldAddr C h 51 (.rptr x.cv) 3 = some (.rptr (I x.Room))) ∧ (∀ (q : List Nat) (z : Shape), subEq sh51 (3 :: q) z = subEq sh3 q z) ∧ (∀ (x : Ref11_Env) (q : List Nat), x.cv.at (4 :: q) = ((Lst.cv Api_Body.cv) x.Shots).at q) ∧ (∀ (x : Ref11_Env) (q : List Nat) (v : CV), x.cv.set (4 :: q) v = Ref11_Env.upd_4 x (((Lst.cv Api_Body.cv) x.Shots).set q v)) ∧ (∀ (x : Ref11_Env) (y : Lst Api_Body), Ref11_Env.upd_4 x ((Lst.cv Api_Body.cv) y) = ({ x with Shots := y } : Ref11_Env).cv) ∧ (∀ (x : Ref11_Env), qfield C 51 x.cv 4 = some ((Lst.cv Api_Body.cv) x.Shots)) ∧ (∀ (x : Ref11_Env) (h : Heap), qfieldAddr C h 51 (.rptr x.cv) 4 = some (.rptr ((Lst.cv Api_Body.cv) x.Shots))) ∧ (∀ (q : List Nat) (z : Shape), subEq sh51 (4 :: q) z = subEq sh37 q z) ∧ (subEq sh51 [] sh51 = true) ∧ (allocObj C (.alloc 51) = some (.var sh51 Ref11_Env.zero.cv)) ∧ (∀ (p : Hp), xalloc C p 51 = .ret (.ptr p.n []) (p.new (.var sh51 Ref11_Env.zero.cv))) ∧ (∀ (p : Hp) (x : Ref11_Env), xbox C p 51 x.cv = .ret (.ptr p.n []) (p.new (.var sh51 x.cv))) ∧ (∀ (a0 : Api_Body) (a1 : Api_Input) (a2 : Int) (a3 : Int), qbuild C 51 [(0, Api_Body.cv a0), (1, Api_Input.cv a1), (2, U a2), (3, I a3)] = some (({ Body := a0, In := a1, Dice := a2, Room := a3, Shots := ⟨.nil, [], fun _ => rfl⟩ } : Ref11_Env).cv)) := ⟨Ref11_Env.shape, Ref11_Env.shOk, Ref11_Env.at_0, Ref11_Env.set_0, Ref11_Env.fold_0, Ref11_Env.fld_0, Ref11_Env.rfa_0, Ref11_Env.sub_0, Ref11_Env.at_1, Ref11_Env.set_1, Ref11_Env.fold_1, Ref11_Env.fld_1, Ref11_Env.rfa_1, Ref11_Env.sub_1, Ref11_Env.at_2, Ref11_Env.set_2, Ref11_Env.fold_2, Ref11_Env.fld_2, Ref11_Env.rfa_2, Ref11_Env.sub_2, Ref11_Env.at_3, Ref11_Env.set_3, Ref11_Env.fold_3, Ref11_Env.fld_3, Ref11_Env.rfa_3, Ref11_Env.sub_3, Ref11_Env.at_4, Ref11_Env.set_4, Ref11_Env.fold_4, Ref11_Env.fld_4, Ref11_Env.rfa_4, Ref11_Env.sub_4, Ref11_Env.sub_nil, Ref11_Env.alloc, Ref11_Env.xalloc, Ref11_Env.xbox, Ref11_Env.bld_0_1_2_3⟩
theorem zs_Rule_machine : (∀ (x : Rule_machine), x.cv.shape = sh131) ∧ (∀ (x : Rule_machine), Cl.shOk x.cv sh131 = true) ∧ (∀ (x : Rule_machine) (q : List Nat), x.cv.at (0 :: q) = (Rule_Env.cv x.e_).at q) ∧ (∀ (x : Rule_machine) (q : List Nat) (v : CV), x.cv.set (0 :: q) v = Rule_machine.upd_0 x ((Rule_Env.cv x.e_).set q v)) ∧ (∀ (x : Rule_machine) (y : Rule_Env), Rule_machine.upd_0 x (Rule_Env.cv y) = ({ x with e_ := y } : Rule_machine).cv) ∧ (∀ (x : Rule_machine), qfield C 131 x.cv 0 = some (Rule_Env.cv x.e_)) ∧ (∀ (x : Rule_machine) (h : Heap), qfieldAddr C h 131 (.rptr x.cv) 0 = some (.rptr (Rule_Env.cv x.e_))) ∧ (∀ (q : List Nat) (z : Shape), subEq sh131 (0 :: q) z = subEq sh39 q z) ∧ (∀ (x : Rule_machine) (q : List Nat), x.cv.at (1 :: q) = ((Lst.cv Api_Op.cv) x.l_).at q) ∧ (∀ (x : Rule_machine) (q : List Nat) (v : CV), x.cv.set (1 :: q) v = Rule_machine.upd_1 x (((Lst.cv Api_Op.cv) x.l_).set q v)) ∧ (∀ (x : Rule_machine) (y : Lst Api_Op), Rule_machine.upd_1 x ((Lst.cv Api_Op.cv) y) = ({ x with l_ := y } : Rule_machine).cv) ∧ (∀ (x : Rule_machine), qfield C 131 x.cv 1 = some ((Lst.cv Api_Op.cv) x.l_)) ∧ (∀ (x : Rule_machine) (h : Heap), qfieldAddr C h 131 (.rptr x.cv) 1 = some (.rptr ((Lst.cv Api_Op.cv) x.l_))) ∧ (∀ (q : List Nat) (z : Shape), subEq sh131 (1 :: q) z = subEq sh23 q z) ∧ (∀ (x : Rule_machine) (q : List Nat), x.cv.at (2 :: q) = (I x.at_).at q) ∧ (∀ (x : Rule_machine) (q : List Nat) (v : CV), x.cv.set (2 :: q) v = Rule_machine.upd_2 x ((I x.at_).set q v)) ∧ (∀ (x : Rule_machine) (y : Int), Rule_machine.upd_2 x (I y) = ({ x with at_ := y } : Rule_machine).cv) ∧ (∀ (x : Rule_machine), qfield C 131 x.cv 2 = some (I x.at_)) ∧ (∀ (x : Rule_machine) (h : Heap), qfieldAddr C h 131 (.rptr x.cv) 2 = some (.rptr (I x.at_))) ∧ (∀ (q : List Nat) (z : Shape), subEq sh131 (2 :: q) z = subEq sh3 q z) ∧ (subEq sh131 [] sh131 = true) ∧ (allocObj C (.alloc 131) = some (.var sh131 Rule_machine.zero.cv)) ∧ (∀ (p : Hp), xalloc C p 131 = .ret (.ptr p.n []) (p.new (.var sh131 Rule_machine.zero.cv))) ∧ (∀ (p : Hp) (x : Rule_machine), xbox C p 131 x.cv = .ret (.ptr p.n []) (p.new (.var sh131 x.cv))) ∧ (∀ (a0 : Rule_Env) (a1 : Lst Api_Op), qbuild C 131 [(0, Rule_Env.cv a0), (1, (Lst.cv Api_Op.cv) a1)] = some (({ e_ := a0, l_ := a1, at_ := 0 } : Rule_machine).cv)) := ⟨Rule_machine.shape, Rule_machine.shOk, Rule_machine.at_0, Rule_machine.set_0, Rule_machine.fold_0, Rule_machine.fld_0, Rule_machine.rfa_0, Rule_machine.sub_0, Rule_machine.at_1, Rule_machine.set_1, Rule_machine.fold_1, Rule_machine.fld_1, Rule_machine.rfa_1, Rule_machine.sub_1, Rule_machine.at_2, Rule_machine.set_2, Rule_machine.fold_2, Rule_machine.fld_2, Rule_machine.rfa_2, Rule_machine.sub_2, Rule_machine.sub_nil, Rule_machine.alloc, Rule_machine.xalloc, Rule_machine.xbox, Rule_machine.bld_0_1⟩
theorem zs_Trap_thrown : (∀ (x : Trap_thrown), x.cv.shape = sh194) ∧ (∀ (x : Trap_thrown), Cl.shOk x.cv sh194 = true) ∧ (∀ (x y : Trap_thrown) (b : Bool), qbin C .eql 194 b x.cv y.cv = some (Bo (decide (x = y)))) ∧ (∀ (x y : Trap_thrown) (b : Bool), qbin C .neq 194 b x.cv y.cv = some (Bo (!decide (x = y)))) ∧ (∀ (x : Trap_thrown) (q : List Nat), x.cv.at (0 :: q) = (Trap_Fault.cv x.f_).at q) ∧ (∀ (x : Trap_thrown) (q : List Nat) (v : CV), x.cv.set (0 :: q) v = Trap_thrown.upd_0 x ((Trap_Fault.cv x.f_).set q v)) ∧ (∀ (x : Trap_thrown) (y : Trap_Fault), Trap_thrown.upd_0 x (Trap_Fault.cv y) = ({ x with f_ := y } : Trap_thrown).cv) ∧ (∀ (x : Trap_thrown), qfield C 194 x.cv 0 = some (Trap_Fault.cv x.f_)) ∧ (∀ (x : Trap_thrown) (h : Heap), qfieldAddr C h 194 (.rptr x.cv) 0 = some (.rptr (Trap_Fault.cv x.f_))) ∧ (∀ (q : List Nat) (z : Shape), subEq sh194 (0 :: q) z = subEq sh44 q z) ∧ (subEq sh194 [] sh194 = true) ∧ (allocObj C (.alloc 194) = some (.var sh194 Trap_thrown.zero.cv)) ∧ (∀ (p : Hp), xalloc C p 194 = .ret (.ptr p.n []) (p.new (.var sh194 Trap_thrown.zero.cv))) ∧ (∀ (p : Hp) (x : Trap_thrown), xbox C p 194 x.cv = .ret (.ptr p.n []) (p.new (.var sh194 x.cv))) ∧ (∀ (a0 : Trap_Fault), qbuild C 194 [(0, Trap_Fault.cv a0)] = some (({ f_ := a0 } : Trap_thrown).cv)) := ⟨Trap_thrown.shape, Trap_thrown.shOk, Trap_thrown.eql, Trap_thrown.neq, Trap_thrown.at_0, Trap_thrown.set_0, Trap_thrown.fold_0, Trap_thrown.fld_0, Trap_thrown.rfa_0, Trap_thrown.sub_0, Trap_thrown.sub_nil, Trap_thrown.alloc, Trap_thrown.xalloc, Trap_thrown.xbox, Trap_thrown.bld_0⟩
theorem zsl32 (l : List Int) (n : Int) (h : l.length = 4) (hn : 0 ≤ n ∧ n < 4) : qindex C 32 (.agg (l.map I)) (I n) = some (I (nth l n.toNat)) := qindex_of C I tt32 rfl tt3 (fun _ => rfl) l n h hn
theorem zsl64 (l : List Int) (n : Int) (h : l.length = 8) (hn : 0 ≤ n ∧ n < 8) : qindex C 64 (.agg (l.map I)) (I n) = some (I (nth l n.toNat)) := qindex_of C I tt64 rfl tt3 (fun _ => rfl) l n h hn
theorem sl_len22 (s : Lst Hand_RawOp) (h : Heap) : qlen C h 22 (Lst.cv Hand_RawOp.cv s) = some (I s.l.length) := by simp only [qlen, tt22, ti22, Lst.cv, List.length_map]
theorem sl_idx22 (s : Lst Hand_RawOp) (p : Hp) (n : Int) (h : 0 ≤ n ∧ n < s.l.length) : xindexAddr C p 22 (Lst.cv Hand_RawOp.cv s) (I n) = some (.rptr (Hand_RawOp.cv (nth s.l n.toNat))) := by
  have hl : n.toNat < s.l.length := by omega
  show qindexAddr C p.h 22 (.lst s.tl (s.l.map Hand_RawOp.cv)) (I n) = _
  simp only [qindexAddr, tt22, ti22, tt31, List.length_map, h, and_self, if_true, List.getElem?_map, nth_lt hl, Option.map_some]
  rw [if_pos]
  exact Hand_RawOp.shape _
theorem sl_src22 (s : Lst Hand_RawOp) (h : Heap) : srcOf C h 22 (Lst.cv Hand_RawOp.cv s) = some (s.l.map Hand_RawOp.cv) := by simp only [srcOf, tt22, ti22, Lst.cv]
theorem sl_isS22 : isSliceT C 22 = true := by simp only [isSliceT, tt22, ti22]
theorem sl_app22 (p : Hp) (b s : Lst Hand_RawOp) (h : b.l.length + s.l.length ≤ 5864062014805) : xappend C false p 22 22 (Lst.cv Hand_RawOp.cv b) (Lst.cv Hand_RawOp.cv s) = appT Hand_RawOp.cv p b s := xappend_of C Hand_RawOp.cv tt22 tt31 Hand_RawOp.shOk p b s (by show _ * 24 ≤ _; omega) (by omega)
theorem sl_inj22 (b s : Lst Hand_RawOp) : Lst.cv Hand_RawOp.cv b = Lst.cv Hand_RawOp.cv s ↔ b = s := ⟨fun h => Lst.inj Hand_RawOp.injF h, fun h => by rw [h]⟩
theorem sl_lenl22 (tl : Tail) (l : List CV) (h : Heap) : qlen C h 22 (.lst tl l) = some (I l.length) := by simp only [qlen, tt22, ti22]
theorem sl_lens22 (i : Nat) (q : List Nat) (o n : Nat) (h : Heap) : qlen C h 22 (.slc i q o n) = some (I n) := by simp only [qlen, tt22, ti22]
theorem zsl22 : (∀ (tl : Tail) (l : List CV) (h : Heap), qlen C h 22 (.lst tl l) = some (I l.length)) ∧ (∀ (i : Nat) (q : List Nat) (o n : Nat) (h : Heap), qlen C h 22 (.slc i q o n) = some (I n)) ∧ (∀ (s : Lst Hand_RawOp) (h : Heap), qlen C h 22 (Lst.cv Hand_RawOp.cv s) = some (I s.l.length)) ∧ (∀ (s : Lst Hand_RawOp) (p : Hp) (n : Int), 0 ≤ n ∧ n < s.l.length → xindexAddr C p 22 (Lst.cv Hand_RawOp.cv s) (I n) = some (.rptr (Hand_RawOp.cv (nth s.l n.toNat)))) ∧ (∀ (s : Lst Hand_RawOp) (h : Heap), srcOf C h 22 (Lst.cv Hand_RawOp.cv s) = some (s.l.map Hand_RawOp.cv)) ∧ (∀ (p : Hp) (b s : Lst Hand_RawOp), b.l.length + s.l.length ≤ 5864062014805 → xappend C false p 22 22 (Lst.cv Hand_RawOp.cv b) (Lst.cv Hand_RawOp.cv s) = appT Hand_RawOp.cv p b s) ∧ (∀ (v : CV), xnil C .eql 22 v = (nilness v).map fun b => Bo b) ∧ (∀ (v : CV), xnil C .neq 22 v = (nilness v).map fun b => Bo (!b)) ∧ isSliceT C 22 = true := ⟨sl_lenl22, sl_lens22, sl_len22, sl_idx22, sl_src22, sl_app22, xnil_e C sl_isS22, xnil_ne C sl_isS22, sl_isS22⟩
theorem sl_len23 (s : Lst Api_Op) (h : Heap) : qlen C h 23 (Lst.cv Api_Op.cv s) = some (I s.l.length) := by simp only [qlen, tt23, ti23, Lst.cv, List.length_map]
theorem sl_idx23 (s : Lst Api_Op) (p : Hp) (n : Int) (h : 0 ≤ n ∧ n < s.l.length) : xindexAddr C p 23 (Lst.cv Api_Op.cv s) (I n) = some (.rptr (Api_Op.cv (nth s.l n.toNat))) := by
  have hl : n.toNat < s.l.length := by omega
  show qindexAddr C p.h 23 (.lst s.tl (s.l.map Api_Op.cv)) (I n) = _
  simp only [qindexAddr, tt23, ti23, tt29, List.length_map, h, and_self, if_true, List.getElem?_map, nth_lt hl, Option.map_some]
  rw [if_pos]
  exact Api_Op.shape _
theorem sl_src23 (s : Lst Api_Op) (h : Heap) : srcOf C h 23 (Lst.cv Api_Op.cv s) = some (s.l.map Api_Op.cv) := by simp only [srcOf, tt23, ti23, Lst.cv]
theorem sl_isS23 : isSliceT C 23 = true := by simp only [isSliceT, tt23, ti23]
theorem sl_b23_0 : qbuildSlice C 23 0 [] = some (Lst.cv Api_Op.cv ⟨.exact, [], nofun⟩) := qbuildSlice_of C tt23 tt29 (by decide) (by decide) rfl rfl
theorem sl_b23_1 : ∀ (a0 : Api_Op), qbuildSlice C 23 1 [(0, Api_Op.cv a0)] = some (Lst.cv Api_Op.cv ⟨.exact, [a0], nofun⟩) := fun a0 => qbuildSlice_of C tt23 tt29 (by decide) (by decide) (by simp only [partsOk, List.all_cons, List.all_nil, List.replicate_succ, List.replicate_zero, List.getElem?_cons_zero, List.getElem?_cons_succ, CV.shape, Api_Op.shape, Bool.and_true, decide_true]; try rfl) rfl
theorem sl_b23_2 : ∀ (a0 : Api_Op) (a1 : Api_Op), qbuildSlice C 23 2 [(0, Api_Op.cv a0), (1, Api_Op.cv a1)] = some (Lst.cv Api_Op.cv ⟨.exact, [a0, a1], nofun⟩) := fun a0 a1 => qbuildSlice_of C tt23 tt29 (by decide) (by decide) (by simp only [partsOk, List.all_cons, List.all_nil, List.replicate_succ, List.replicate_zero, List.getElem?_cons_zero, List.getElem?_cons_succ, CV.shape, Api_Op.shape, Bool.and_true, decide_true]; try rfl) rfl
theorem sl_b23_3 : ∀ (a0 : Api_Op) (a1 : Api_Op) (a2 : Api_Op), qbuildSlice C 23 3 [(0, Api_Op.cv a0), (1, Api_Op.cv a1), (2, Api_Op.cv a2)] = some (Lst.cv Api_Op.cv ⟨.exact, [a0, a1, a2], nofun⟩) := fun a0 a1 a2 => qbuildSlice_of C tt23 tt29 (by decide) (by decide) (by simp only [partsOk, List.all_cons, List.all_nil, List.replicate_succ, List.replicate_zero, List.getElem?_cons_zero, List.getElem?_cons_succ, CV.shape, Api_Op.shape, Bool.and_true, decide_true]; try rfl) rfl
theorem sl_b23_4 : ∀ (a0 : Api_Op) (a1 : Api_Op) (a2 : Api_Op) (a3 : Api_Op), qbuildSlice C 23 4 [(0, Api_Op.cv a0), (1, Api_Op.cv a1), (2, Api_Op.cv a2), (3, Api_Op.cv a3)] = some (Lst.cv Api_Op.cv ⟨.exact, [a0, a1, a2, a3], nofun⟩) := fun a0 a1 a2 a3 => qbuildSlice_of C tt23 tt29 (by decide) (by decide) (by simp only [partsOk, List.all_cons, List.all_nil, List.replicate_succ, List.replicate_zero, List.getElem?_cons_zero, List.getElem?_cons_succ, CV.shape, Api_Op.shape, Bool.and_true, decide_true]; try rfl) rfl
theorem sl_app23 (p : Hp) (b s : Lst Api_Op) (h : b.l.length + s.l.length ≤ 5864062014805) : xappend C false p 23 23 (Lst.cv Api_Op.cv b) (Lst.cv Api_Op.cv s) = appT Api_Op.cv p b s := xappend_of C Api_Op.cv tt23 tt29 Api_Op.shOk p b s (by show _ * 24 ≤ _; omega) (by omega)
theorem sl_inj23 (b s : Lst Api_Op) : Lst.cv Api_Op.cv b = Lst.cv Api_Op.cv s ↔ b = s := ⟨fun h => Lst.inj Api_Op.injF h, fun h => by rw [h]⟩
theorem sl_lenl23 (tl : Tail) (l : List CV) (h : Heap) : qlen C h 23 (.lst tl l) = some (I l.length) := by simp only [qlen, tt23, ti23]
theorem sl_lens23 (i : Nat) (q : List Nat) (o n : Nat) (h : Heap) : qlen C h 23 (.slc i q o n) = some (I n) := by simp only [qlen, tt23, ti23]
theorem zsl23 : (∀ (tl : Tail) (l : List CV) (h : Heap), qlen C h 23 (.lst tl l) = some (I l.length)) ∧ (∀ (i : Nat) (q : List Nat) (o n : Nat) (h : Heap), qlen C h 23 (.slc i q o n) = some (I n)) ∧ (∀ (s : Lst Api_Op) (h : Heap), qlen C h 23 (Lst.cv Api_Op.cv s) = some (I s.l.length)) ∧ (∀ (s : Lst Api_Op) (p : Hp) (n : Int), 0 ≤ n ∧ n < s.l.length → xindexAddr C p 23 (Lst.cv Api_Op.cv s) (I n) = some (.rptr (Api_Op.cv (nth s.l n.toNat)))) ∧ (∀ (s : Lst Api_Op) (h : Heap), srcOf C h 23 (Lst.cv Api_Op.cv s) = some (s.l.map Api_Op.cv)) ∧ (∀ (p : Hp) (b s : Lst Api_Op), b.l.length + s.l.length ≤ 5864062014805 → xappend C false p 23 23 (Lst.cv Api_Op.cv b) (Lst.cv Api_Op.cv s) = appT Api_Op.cv p b s) ∧ (∀ (v : CV), xnil C .eql 23 v = (nilness v).map fun b => Bo b) ∧ (∀ (v : CV), xnil C .neq 23 v = (nilness v).map fun b => Bo (!b)) ∧ (qbuildSlice C 23 0 [] = some (Lst.cv Api_Op.cv ⟨.exact, [], nofun⟩)) ∧ (∀ (a0 : Api_Op), qbuildSlice C 23 1 [(0, Api_Op.cv a0)] = some (Lst.cv Api_Op.cv ⟨.exact, [a0], nofun⟩)) ∧ (∀ (a0 : Api_Op) (a1 : Api_Op), qbuildSlice C 23 2 [(0, Api_Op.cv a0), (1, Api_Op.cv a1)] = some (Lst.cv Api_Op.cv ⟨.exact, [a0, a1], nofun⟩)) ∧ (∀ (a0 : Api_Op) (a1 : Api_Op) (a2 : Api_Op), qbuildSlice C 23 3 [(0, Api_Op.cv a0), (1, Api_Op.cv a1), (2, Api_Op.cv a2)] = some (Lst.cv Api_Op.cv ⟨.exact, [a0, a1, a2], nofun⟩)) ∧ (∀ (a0 : Api_Op) (a1 : Api_Op) (a2 : Api_Op) (a3 : Api_Op), qbuildSlice C 23 4 [(0, Api_Op.cv a0), (1, Api_Op.cv a1), (2, Api_Op.cv a2), (3, Api_Op.cv a3)] = some (Lst.cv Api_Op.cv ⟨.exact, [a0, a1, a2, a3], nofun⟩)) ∧ isSliceT C 23 = true := ⟨sl_lenl23, sl_lens23, sl_len23, sl_idx23, sl_src23, sl_app23, xnil_e C sl_isS23, xnil_ne C sl_isS23, sl_b23_0, sl_b23_1, sl_b23_2, sl_b23_3, sl_b23_4, sl_isS23⟩
theorem sl_len24 (s : Lst Int) (h : Heap) : qlen C h 24 (Lst.cv I s) = some (I s.l.length) := by simp only [qlen, tt24, ti24, Lst.cv, List.length_map]
theorem sl_idx24 (s : Lst Int) (p : Hp) (n : Int) (h : 0 ≤ n ∧ n < s.l.length) : xindexAddr C p 24 (Lst.cv I s) (I n) = some (.rptr (I (nth s.l n.toNat))) := by
  have hl : n.toNat < s.l.length := by omega
  show qindexAddr C p.h 24 (.lst s.tl (s.l.map I)) (I n) = _
  simp only [qindexAddr, tt24, ti24, tt3, List.length_map, h, and_self, if_true, List.getElem?_map, nth_lt hl, Option.map_some]
  rw [if_pos]
  exact rfl
theorem sl_src24 (s : Lst Int) (h : Heap) : srcOf C h 24 (Lst.cv I s) = some (s.l.map I) := by simp only [srcOf, tt24, ti24, Lst.cv]
theorem sl_isS24 : isSliceT C 24 = true := by simp only [isSliceT, tt24, ti24]
theorem sl_b24_1 : ∀ (a0 : Int), qbuildSlice C 24 1 [(0, I a0)] = some (Lst.cv I ⟨.exact, [a0], nofun⟩) := fun a0 => qbuildSlice_of C tt24 tt3 (by decide) (by decide) (by simp only [partsOk, List.all_cons, List.all_nil, List.replicate_succ, List.replicate_zero, List.getElem?_cons_zero, List.getElem?_cons_succ, CV.shape, Bool.and_true, decide_true]; try rfl) rfl
theorem sl_b24_8 : ∀ (a0 : Int) (a1 : Int) (a2 : Int) (a3 : Int) (a4 : Int) (a5 : Int) (a6 : Int) (a7 : Int), qbuildSlice C 24 8 [(0, I a0), (1, I a1), (2, I a2), (3, I a3), (4, I a4), (5, I a5), (6, I a6), (7, I a7)] = some (Lst.cv I ⟨.exact, [a0, a1, a2, a3, a4, a5, a6, a7], nofun⟩) := fun a0 a1 a2 a3 a4 a5 a6 a7 => qbuildSlice_of C tt24 tt3 (by decide) (by decide) (by simp only [partsOk, List.all_cons, List.all_nil, List.replicate_succ, List.replicate_zero, List.getElem?_cons_zero, List.getElem?_cons_succ, CV.shape, Bool.and_true, decide_true]; try rfl) rfl
theorem sl_app24 (p : Hp) (b s : Lst Int) (h : b.l.length + s.l.length ≤ 17592186044416) : xappend C false p 24 24 (Lst.cv I b) (Lst.cv I s) = appT I p b s := xappend_of C I tt24 tt3 (fun _ => rfl) p b s (by show _ * 8 ≤ _; omega) (by omega)
theorem sl_inj24 (b s : Lst Int) : Lst.cv I b = Lst.cv I s ↔ b = s := ⟨fun h => Lst.inj I_inj h, fun h => by rw [h]⟩
theorem sl_lenl24 (tl : Tail) (l : List CV) (h : Heap) : qlen C h 24 (.lst tl l) = some (I l.length) := by simp only [qlen, tt24, ti24]
theorem sl_lens24 (i : Nat) (q : List Nat) (o n : Nat) (h : Heap) : qlen C h 24 (.slc i q o n) = some (I n) := by simp only [qlen, tt24, ti24]
theorem zsl24 : (∀ (tl : Tail) (l : List CV) (h : Heap), qlen C h 24 (.lst tl l) = some (I l.length)) ∧ (∀ (i : Nat) (q : List Nat) (o n : Nat) (h : Heap), qlen C h 24 (.slc i q o n) = some (I n)) ∧ (∀ (s : Lst Int) (h : Heap), qlen C h 24 (Lst.cv I s) = some (I s.l.length)) ∧ (∀ (s : Lst Int) (p : Hp) (n : Int), 0 ≤ n ∧ n < s.l.length → xindexAddr C p 24 (Lst.cv I s) (I n) = some (.rptr (I (nth s.l n.toNat)))) ∧ (∀ (s : Lst Int) (h : Heap), srcOf C h 24 (Lst.cv I s) = some (s.l.map I)) ∧ (∀ (p : Hp) (b s : Lst Int), b.l.length + s.l.length ≤ 17592186044416 → xappend C false p 24 24 (Lst.cv I b) (Lst.cv I s) = appT I p b s) ∧ (∀ (v : CV), xnil C .eql 24 v = (nilness v).map fun b => Bo b) ∧ (∀ (v : CV), xnil C .neq 24 v = (nilness v).map fun b => Bo (!b)) ∧ (∀ (a0 : Int), qbuildSlice C 24 1 [(0, I a0)] = some (Lst.cv I ⟨.exact, [a0], nofun⟩)) ∧ (∀ (a0 : Int) (a1 : Int) (a2 : Int) (a3 : Int) (a4 : Int) (a5 : Int) (a6 : Int) (a7 : Int), qbuildSlice C 24 8 [(0, I a0), (1, I a1), (2, I a2), (3, I a3), (4, I a4), (5, I a5), (6, I a6), (7, I a7)] = some (Lst.cv I ⟨.exact, [a0, a1, a2, a3, a4, a5, a6, a7], nofun⟩)) ∧ isSliceT C 24 = true := ⟨sl_lenl24, sl_lens24, sl_len24, sl_idx24, sl_src24, sl_app24, xnil_e C sl_isS24, xnil_ne C sl_isS24, sl_b24_1, sl_b24_8, sl_isS24⟩
theorem sl_len37 (s : Lst Api_Body) (h : Heap) : qlen C h 37 (Lst.cv Api_Body.cv s) = some (I s.l.length) := by simp only [qlen, tt37, ti37, Lst.cv, List.length_map]
theorem sl_idx37 (s : Lst Api_Body) (p : Hp) (n : Int) (h : 0 ≤ n ∧ n < s.l.length) : xindexAddr C p 37 (Lst.cv Api_Body.cv s) (I n) = some (.rptr (Api_Body.cv (nth s.l n.toNat))) := by
  have hl : n.toNat < s.l.length := by omega
  show qindexAddr C p.h 37 (.lst s.tl (s.l.map Api_Body.cv)) (I n) = _
  simp only [qindexAddr, tt37, ti37, tt34, List.length_map, h, and_self, if_true, List.getElem?_map, nth_lt hl, Option.map_some]
  rw [if_pos]
  exact Api_Body.shape _
theorem sl_src37 (s : Lst Api_Body) (h : Heap) : srcOf C h 37 (Lst.cv Api_Body.cv s) = some (s.l.map Api_Body.cv) := by simp only [srcOf, tt37, ti37, Lst.cv]
theorem sl_isS37 : isSliceT C 37 = true := by simp only [isSliceT, tt37, ti37]
theorem sl_b37_0 : qbuildSlice C 37 0 [] = some (Lst.cv Api_Body.cv ⟨.exact, [], nofun⟩) := qbuildSlice_of C tt37 tt34 (by decide) (by decide) rfl rfl
theorem sl_b37_1 : ∀ (a0 : Api_Body), qbuildSlice C 37 1 [(0, Api_Body.cv a0)] = some (Lst.cv Api_Body.cv ⟨.exact, [a0], nofun⟩) := fun a0 => qbuildSlice_of C tt37 tt34 (by decide) (by decide) (by simp only [partsOk, List.all_cons, List.all_nil, List.replicate_succ, List.replicate_zero, List.getElem?_cons_zero, List.getElem?_cons_succ, CV.shape, Api_Body.shape, Bool.and_true, decide_true]; try rfl) rfl
theorem sl_app37 (p : Hp) (b s : Lst Api_Body) (h : b.l.length + s.l.length ≤ 1466015503701) : xappend C false p 37 37 (Lst.cv Api_Body.cv b) (Lst.cv Api_Body.cv s) = appT Api_Body.cv p b s := xappend_of C Api_Body.cv tt37 tt34 Api_Body.shOk p b s (by show _ * 96 ≤ _; omega) (by omega)
theorem sl_inj37 (b s : Lst Api_Body) : Lst.cv Api_Body.cv b = Lst.cv Api_Body.cv s ↔ b = s := ⟨fun h => Lst.inj Api_Body.injF h, fun h => by rw [h]⟩
theorem sl_lenl37 (tl : Tail) (l : List CV) (h : Heap) : qlen C h 37 (.lst tl l) = some (I l.length) := by simp only [qlen, tt37, ti37]
theorem sl_lens37 (i : Nat) (q : List Nat) (o n : Nat) (h : Heap) : qlen C h 37 (.slc i q o n) = some (I n) := by simp only [qlen, tt37, ti37]
theorem zsl37 : (∀ (tl : Tail) (l : List CV) (h : Heap), qlen C h 37 (.lst tl l) = some (I l.length)) ∧ (∀ (i : Nat) (q : List Nat) (o n : Nat) (h : Heap), qlen C h 37 (.slc i q o n) = some (I n)) ∧ (∀ (s : Lst Api_Body) (h : Heap), qlen C h 37 (Lst.cv Api_Body.cv s) = some (I s.l.length)) ∧ (∀ (s : Lst Api_Body) (p : Hp) (n : Int), 0 ≤ n ∧ n < s.l.length → xindexAddr C p 37 (Lst.cv Api_Body.cv s) (I n) = some (.rptr (Api_Body.cv (nth s.l n.toNat)))) ∧ (∀ (s : Lst Api_Body) (h : Heap), srcOf C h 37 (Lst.cv Api_Body.cv s) = some (s.l.map Api_Body.cv)) ∧ (∀ (p : Hp) (b s : Lst Api_Body), b.l.length + s.l.length ≤ 1466015503701 → xappend C false p 37 37 (Lst.cv Api_Body.cv b) (Lst.cv Api_Body.cv s) = appT Api_Body.cv p b s) ∧ (∀ (v : CV), xnil C .eql 37 v = (nilness v).map fun b => Bo b) ∧ (∀ (v : CV), xnil C .neq 37 v = (nilness v).map fun b => Bo (!b)) ∧ (qbuildSlice C 37 0 [] = some (Lst.cv Api_Body.cv ⟨.exact, [], nofun⟩)) ∧ (∀ (a0 : Api_Body), qbuildSlice C 37 1 [(0, Api_Body.cv a0)] = some (Lst.cv Api_Body.cv ⟨.exact, [a0], nofun⟩)) ∧ isSliceT C 37 = true := ⟨sl_lenl37, sl_lens37, sl_len37, sl_idx37, sl_src37, sl_app37, xnil_e C sl_isS37, xnil_ne C sl_isS37, sl_b37_0, sl_b37_1, sl_isS37⟩
end Go.Proofs.Ytpchcfkebljopaa
end
section
namespace Go.Proofs.Ytpchcfkebljopaa
open Go.Cl Go Go.RowKit
abbrev w64 (n : Int) : Int := IntKind.i64.wrap n
def brought (n lo hi : Int) : Int := max lo (min n hi)
def within (n lo hi : Int) : Bool := decide (lo ≤ n) && decide (n ≤ hi)
theorem within_spec {n lo hi : Int} (h : within n lo hi = true) : lo ≤ n ∧ n ≤ hi := by simpa [within] using h
abbrev Body := Api_Body
abbrev Mach := Rule_machine
def Body.right (b : Api_Body) : Bool :=
  if b.Kind = 0 then decide (b = Api_Body.zero) else
  b.Mem.all (fun n => within n (-1000000) 1000000) && (decide (b.Kind = 1) || decide (b.Kind = 2)) && within b.Owner 0 7 && within b.X 0 4095 && within b.Y 0 4095 && within b.VX (-64) 64 && within b.VY (-64) 64 && within b.Age 0 600 && within b.Faults 0 65535
def bodyShoot (b : Api_Body) (vx vy : Int) : Api_Body :=
  if Body.right b = true ∧ b.Kind ≠ 0 then { Api_Body.zero with Kind := 2, Owner := b.Owner, X := b.X, Y := b.Y, VX := brought vx (-64) 64, VY := brought vy (-64) 64 } else Api_Body.zero
def fault (c at_ : Int) : CV := .ifc 194 (Trap_thrown.cv ⟨⟨c, at_⟩⟩)
def Mach.body (m : Rule_machine) (f : Api_Body → Api_Body) : Rule_machine := { m with e_ := { m.e_ with Body := f m.e_.Body } }
def Mach.set (m : Rule_machine) (k : Nat) (n : Int) : Rule_machine := Mach.body m fun b => b.put_7k k (brought n (-1000000) 1000000)
def Mach.reg (m : Rule_machine) (k : Nat) : Int := nth m.e_.Body.Mem k
def needA (c : Int) : Bool := !(decide (c = 8) || decide (c = 10) || decide (c = 13))
def needB (c : Int) : Bool := !(decide (c = 1) || decide (c = 7) || decide (c = 9) || decide (c = 10) || decide (c = 13))
def namedOk (o : Api_Op) : Bool := (!needA o.Code || within o.A 0 3) && (!needB o.Code || within o.B 0 3)
theorem namedOk_A {o : Api_Op} (h : namedOk o = true) : o.Code = 8 ∨ o.Code = 10 ∨ o.Code = 13 ∨ (0 ≤ o.A ∧ o.A < 4) := by
  simp [namedOk, needA, within] at h; omega
theorem namedOk_B {o : Api_Op} (h : namedOk o = true) : o.Code = 1 ∨ o.Code = 7 ∨ o.Code = 9 ∨ o.Code = 10 ∨ o.Code = 13 ∨ (0 ≤ o.B ∧ o.B < 4) := by
  simp [namedOk, needB, within] at h; omega
def Mach.field (m : Rule_machine) (k : Nat) : Int := nth [m.e_.Body.X, m.e_.Body.Y, m.e_.Body.VX, m.e_.Body.VY, m.e_.Body.Age, m.e_.In.Buttons, m.e_.In.X, m.e_.In.Y] k
def Mach.put (m : Rule_machine) (k n : Int) : Rule_machine := Mach.body m fun b =>
  if k = 0 then { b with X := brought n 0 4095 } else if k = 1 then { b with Y := brought n 0 4095 } else if k = 2 then { b with VX := brought n (-64) 64 } else { b with VY := brought n (-64) 64 }
def diceNext (d : Int) : Int := IntKind.u64.wrap (IntKind.u64.wrap (d * 6364136223846793005) + 1442695040888963407)
def diceNum (d : Int) : Int := IntKind.i64.wrap (d.fdiv (2 ^ 33))
def diceRoll (d n : Int) : Int × Int := if n < 1 then (d, 0) else (diceNext d, (diceNum (diceNext d)).tmod n)
def Mach.reckon (m : Rule_machine) (o : Api_Op) : Except Int Rule_machine :=
  let a := Mach.reg m o.A.toNat
  let b := Mach.reg m o.B.toNat
  let k := o.A.toNat
  if o.Code = 2 then .ok (Mach.set m k b)
  else if o.Code = 3 then .ok (Mach.set m k (w64 (a + b)))
  else if o.Code = 4 then .ok (Mach.set m k (w64 (a - b)))
  else if o.Code = 5 then .ok (Mach.set m k (w64 (a * b)))
  else if o.Code = 6 then (if b = 0 then .error 1 else .ok (Mach.set m k (w64 (a.tdiv b))))
  else if o.Code = 11 then (if b < 1 then .error 6 else .ok (Mach.set { m with e_ := { m.e_ with Dice := (diceRoll m.e_.Dice b).1 } } k (diceRoll m.e_.Dice b).2))
  else (if (m.e_.Shots.l.length : Int) < m.e_.Room then .ok { m with e_ := { m.e_ with Shots := ⟨.part, m.e_.Shots.l ++ [bodyShoot m.e_.Body a b], nofun⟩ } } else .error 7)
theorem Mach.set_at (m : Rule_machine) (k : Nat) (n : Int) : (Mach.set m k n).at_ = m.at_ := nd rfl
theorem Mach.put_at (m : Rule_machine) (k n : Int) : (Mach.put m k n).at_ = m.at_ := nd rfl
theorem Mach.reckon_keeps {m m' : Rule_machine} {o : Api_Op} (h : Mach.reckon m o = .ok m') : (m'.e_.Shots.tl = m.e_.Shots.tl ∨ m'.e_.Shots.tl = .part) ∧ m'.l_ = m.l_ ∧ m'.at_ = m.at_ ∧ m'.e_.Shots.l.length ≤ m.e_.Shots.l.length + 1 := by
  unfold Mach.reckon at h
  simp only at h
  repeat' (split at h)
  all_goals first
    | (cases h; done)
    | (cases h; simp [Mach.set, Mach.body])
def Mach.doOp (m : Rule_machine) (o : Api_Op) : Except Int (Rule_machine × Int) :=
  if within o.Code 1 13 = false then .error 4
  else if namedOk o = false then .error 2
  else if o.Code = 1 then .ok (Mach.set m o.A.toNat o.B, m.at_ + 1)
  else if o.Code = 7 then (if within o.B 0 7 = false then .error 3 else .ok (Mach.set m o.A.toNat (Mach.field m o.B.toNat), m.at_ + 1))
  else if o.Code = 8 then (if within o.A 0 3 = false then .error 3 else .ok (Mach.put m o.A (Mach.reg m o.B.toNat), m.at_ + 1))
  else if o.Code = 9 then (if Mach.reg m o.A.toNat = 0 then (if within o.B 0 m.l_.l.length = false then .error 4 else .ok (m, o.B)) else .ok (m, m.at_ + 1))
  else if o.Code = 10 then (if within o.B 0 m.l_.l.length = false then .error 4 else .ok (m, o.B))
  else if o.Code = 13 then .ok (m, m.l_.l.length)
  else match Mach.reckon m o with
    | .error c => .error c
    | .ok m' => .ok (m', m.at_ + 1)
theorem Mach.doOp_keeps {m m' : Rule_machine} {o : Api_Op} {n : Int} (h : Mach.doOp m o = .ok (m', n)) (h1 : 0 ≤ m.at_) (h2 : m.at_ < m.l_.l.length) : (m'.e_.Shots.tl = m.e_.Shots.tl ∨ m'.e_.Shots.tl = .part) ∧ m'.l_ = m.l_ ∧ m'.at_ = m.at_ ∧ m'.e_.Shots.l.length ≤ m.e_.Shots.l.length + 1 ∧ 0 ≤ n ∧ n ≤ m.l_.l.length := by
  unfold Mach.doOp at h
  repeat' (split at h)
  all_goals first
    | (cases h; done)
    | (rename_i hr; cases h; have := Mach.reckon_keeps hr; exact ⟨this.1, this.2.1, this.2.2.1, this.2.2.2, by omega, by omega⟩)
    | (cases h; refine ⟨.inl ?_, ?_, ?_, ?_, ?_, ?_⟩ <;> first | rfl | omega | (simp [Mach.set, Mach.put, Mach.body]; done))
    | (rename_i hw; cases h; have hw := within_spec (by simpa using hw); exact ⟨.inl rfl, rfl, rfl, by omega, hw.1, hw.2⟩)
def Mach.run : Nat → Rule_machine → Except (Int × Int) Rule_machine
  | k, m => if m.at_ < m.l_.l.length then
      match k with
      | 0 => .error (5, m.at_)
      | k + 1 => match Mach.doOp m (nth m.l_.l m.at_.toNat) with
        | .error c => .error (c, m.at_)
        | .ok (m', n) => Mach.run k { m' with at_ := n }
    else .ok m
theorem Mach.run_keeps : ∀ (k : Nat) (m m' : Rule_machine), Mach.run k m = .ok m' → 0 ≤ m.at_ → (m'.e_.Shots.tl = m.e_.Shots.tl ∨ m'.e_.Shots.tl = .part) ∧ m'.l_ = m.l_
  | k, m, m', h, ha => by
    unfold Mach.run at h
    by_cases hlt : m.at_ < m.l_.l.length
    · rw [if_pos hlt] at h
      cases k with
      | zero => cases h
      | succ k =>
        simp only at h
        cases hd : Mach.doOp m (nth m.l_.l m.at_.toNat) with
        | error c => rw [hd] at h; cases h
        | ok r =>
          obtain ⟨m2, n⟩ := r
          rw [hd] at h
          simp only at h
          obtain ⟨k1, k2, _, _, k5, _⟩ := Mach.doOp_keeps hd ha hlt
          have ih := Mach.run_keeps k _ m' h k5
          refine ⟨?_, by rw [ih.2]; exact k2⟩
          rcases ih.1 with e | e
          · rw [e]; exact k1
          · exact .inr e
    · rw [if_neg hlt] at h; cases h; exact ⟨.inl rfl, rfl⟩
def cloneL {α : Type} (s : Lst α) (n : Nat) : Lst α :=
  match s.tl with
  | .nil => ⟨.nil, [], fun _ => rfl⟩
  | _ => match s.l with
    | [] => ⟨.exact, [], nofun⟩
    | x :: l => ⟨.own n, x :: l, nofun⟩
def cloneP {α : Type} (s : Lst α) : Lst α :=
  match s.tl with
  | .nil => ⟨.nil, [], fun _ => rfl⟩
  | _ => match s.l with
    | [] => ⟨.exact, [], nofun⟩
    | x :: l => ⟨.part, x :: l, nofun⟩
def cloneOwn {α : Type} (s : Lst α) : Bool :=
  match s.tl with
  | .nil => false
  | _ => !s.l.isEmpty
theorem appT_cl0 {α : Type} (f : α → CV) (p : Hp) (s : Lst α) (n : Nat) (u : Tail) (x : α) (m : List α) (o : _) (h : cloneOwn s = false) : appT f p (cloneL s n) ⟨u, x :: m, o⟩ = .ret (Lst.cv f ⟨.own p.n, s.l ++ x :: m, nofun⟩) (p.new (.tail (s.l.length + (m.length + 1)))) := by
  obtain ⟨tl, l, o'⟩ := s
  cases tl <;> cases l <;> simp_all [cloneL, cloneOwn, appT]
theorem appT_cl1 {α : Type} (f : α → CV) (p : Hp) (s : Lst α) (n : Nat) (u : Tail) (x : α) (m : List α) (o : _) (h : cloneOwn s = true) (hg : p.t.get n = some (.tail s.l.length)) : appT f p (cloneL s n) ⟨u, x :: m, o⟩ = .ret (Lst.cv f ⟨.own p.n, s.l ++ x :: m, nofun⟩) ((p.set n none).new (.tail (s.l.length + (m.length + 1)))) := by
  obtain ⟨tl, l, o'⟩ := s
  cases tl <;> cases l <;> simp_all [cloneL, cloneOwn, appT]
theorem cloneL_l {α : Type} (s : Lst α) (n : Nat) : (cloneL s n).l = s.l := by
  obtain ⟨tl, l, o⟩ := s
  cases tl <;> cases l <;> simp_all [cloneL]
theorem cloneP_l {α : Type} (s : Lst α) : (cloneP s).l = s.l := by
  obtain ⟨tl, l, o⟩ := s
  cases tl <;> cases l <;> simp_all [cloneP]
theorem cloneP_tl {α : Type} (s : Lst α) : (cloneP s).tl = .nil ∨ (cloneP s).tl = .exact ∨ (cloneP s).tl = .part := by
  obtain ⟨tl, l, o⟩ := s
  cases tl <;> cases l <;> simp_all [cloneP]
theorem cloneP_nv {α : Type} (s : Lst α) : (cloneP s).tl ≠ .view := by rcases cloneP_tl s with h | h | h <;> rw [h] <;> simp
theorem cloneP_no {α : Type} (s : Lst α) (j : Nat) : (cloneP s).tl ≠ .own j := by rcases cloneP_tl s with h | h | h <;> rw [h] <;> simp
theorem weak_clone {α : Type} {f : α → CV} (hf : ∀ x j, ¬ (f x).has j) (s : Lst α) (n k : Nat) : CV.weak (fun k => k) k (Lst.cv f (cloneL s n)) (Lst.cv f (cloneP s)) := by
  have hl : ∀ l : List α, CV.weakL (fun k => k) k (l.map f) (l.map f) := fun l => CV.weakL_refl _ fun j hj => (hasL_map hf l j hj).elim
  obtain ⟨tl, l, o⟩ := s
  cases tl <;> cases l <;> simp only [cloneL, cloneP, Lst.cv, CV.weak, Tail.weak, true_and] <;> exact hl _
def copiedE (e : Rule_Env) : Rule_Env := { e with Shots := cloneP e.Shots }
def ruleRun (l : Lst Api_Op) (e : Rule_Env) : Rule_Env × Trap_Fault × Bool :=
  if Body.right e.Body = false ∨ e.Body.Kind = 0 then (copiedE e, ⟨0, 0⟩, false)
  else match Mach.run 64 ⟨copiedE e, l, 0⟩ with
    | .ok m => (m.e_, ⟨0, 0⟩, true)
    | .error c => (copiedE e, ⟨c.1, c.2⟩, false)
end Go.Proofs.Ytpchcfkebljopaa
end
section
-- @nole
namespace Go.Proofs.Ytpchcfkebljopaa
open Go.Cl Go Go.RowKit
set_option maxRecDepth 100000
set_option linter.constructorNameAsVariable false
def R201 : Rel := fun args p r => ∃ (n lo hi : Int), args = [I n, I lo, I hi] ∧ r = .ret (I (brought n lo hi)) p
theorem t201 {T : XCall} (h : Has T 201 R201) (n lo hi : Int) {p : Hp}  : T 201 [I n, I lo, I hi] p = .ret (I (brought n lo hi)) p := h _ _ _ ⟨n, lo, hi, rfl, rfl⟩
theorem zq201 {A B : Prop} (h : A = B := by ((try simp -dsimp (disch := first | exact zdis | fail) only [zcore, zall, zopm, zop, zcallOp, qop, qbuiltin, ofOpt, List.map, reduceCtorEq, if_true, if_false, ↓reduceIte, zbin, eqRes, qassert, qnum, qshift, qun, kindOf, allocV, List.nil_append, List.append_nil, List.cons_append, List.length_cons, List.length_nil, Nat.reduceAdd, Nat.reduceEqDiff, Nat.reduceLT, Nat.reduceSub, Nat.reduceMul, Int.reduceToNat, Int.reduceLE, Int.reduceLT, Int.reduceEq, Int.reduceNeg, Int.reduceAdd, Int.reduceSub, beq_self_eq_true, cond_true, cond_false, isConstOpd, xpanic, xconv, isBytes, qconv, List.length_map, List.map_nil, List.map_cons, concrete, Option.some.injEq, exists_eq', Option.map_some, Option.map_none, List.getElem?_cons_zero, List.getElem?_cons_succ, zw201, rs201, tt3, ti3, zx, hc]); rfl)) (k : B) : A := h ▸ k
set_option maxHeartbeats 8000000 in
theorem c201 : Con C 201 R201 := by
  refine con_of C ?_ ?_ ?_
  · rintro args p r r' ⟨n, lo, hi, h, e⟩ ⟨n', lo', hi', h', e'⟩
    subst e; subst e'; simp_all
  · rintro args p r ⟨n, lo, hi, h, rfl⟩; first | (split <;> simp; done) | (simp; done) | (simp only [resM]; split <;> simp; done) | (simp only [resD]; split <;> simp; done) 
  · rintro args p r ⟨n, lo, hi, rfl, rfl⟩
    refine ans_walk C false noExt (tabL C []) xf201 (noExt_ok C) (tabL_ok C _) zc201_ok (Nat.le_of_ble_eq_true (by kernel_rfl)) fun hF => ?_
    generalize tabL C [] = call
    show W C false noExt call zc201 (argE [I n, I lo, I hi]) p (endQ C _ _)
    (have zx := True.intro; have hc := True.intro; refine zq201 (k := ?_); clear hc zx; try exact True.intro)
    exact shr_keep hF (fun _ _ h => h) (weak_I _ _)
def R140 : Rel := fun args p r => ∃ (n lo hi : Int), args = [I n, I lo, I hi] ∧ r = .ret (I (brought n lo hi)) p
theorem t140 {T : XCall} (h : Has T 140 R140) (n lo hi : Int) {p : Hp}  : T 140 [I n, I lo, I hi] p = .ret (I (brought n lo hi)) p := h _ _ _ ⟨n, lo, hi, rfl, rfl⟩
theorem zq140 {A B : Prop} (h : A = B := by ((try simp -dsimp (disch := first | exact zdis | fail) only [zcore, zall, zopm, zop, zcallOp, qop, qbuiltin, ofOpt, List.map, reduceCtorEq, if_true, if_false, ↓reduceIte, zbin, eqRes, qassert, qnum, qshift, qun, kindOf, allocV, List.nil_append, List.append_nil, List.cons_append, List.length_cons, List.length_nil, Nat.reduceAdd, Nat.reduceEqDiff, Nat.reduceLT, Nat.reduceSub, Nat.reduceMul, Int.reduceToNat, Int.reduceLE, Int.reduceLT, Int.reduceEq, Int.reduceNeg, Int.reduceAdd, Int.reduceSub, beq_self_eq_true, cond_true, cond_false, isConstOpd, xpanic, xconv, isBytes, qconv, List.length_map, List.map_nil, List.map_cons, concrete, Option.some.injEq, exists_eq', Option.map_some, Option.map_none, List.getElem?_cons_zero, List.getElem?_cons_succ, zw140, rs140, tt3, ti3, zx, hc]); rfl)) (k : B) : A := h ▸ k
set_option maxHeartbeats 8000000 in
theorem c140 : Con C 140 R140 := by
  refine con_of C ?_ ?_ ?_
  · rintro args p r r' ⟨n, lo, hi, h, e⟩ ⟨n', lo', hi', h', e'⟩
    subst e; subst e'; simp_all
  · rintro args p r ⟨n, lo, hi, h, rfl⟩; first | (split <;> simp; done) | (simp; done) | (simp only [resM]; split <;> simp; done) | (simp only [resD]; split <;> simp; done) 
  · rintro args p r ⟨n, lo, hi, rfl, rfl⟩
    refine ans_walk C false noExt (tabL C []) xf140 (noExt_ok C) (tabL_ok C _) zc140_ok (Nat.le_of_ble_eq_true (by kernel_rfl)) fun hF => ?_
    generalize tabL C [] = call
    show W C false noExt call zc140 (argE [I n, I lo, I hi]) p (endQ C _ _)
    (have zx := True.intro; have hc := True.intro; refine zq140 (k := ?_); clear hc zx; try exact True.intro)
    exact shr_keep hF (fun _ _ h => h) (weak_I _ _)
def R80 : Rel := fun args p r => ∃ (n lo hi : Int), args = [I n, I lo, I hi] ∧ r = .ret (I (brought n lo hi)) p
theorem t80 {T : XCall} (h : Has T 80 R80) (n lo hi : Int) {p : Hp}  : T 80 [I n, I lo, I hi] p = .ret (I (brought n lo hi)) p := h _ _ _ ⟨n, lo, hi, rfl, rfl⟩
theorem zq80 {A B : Prop} (h : A = B := by ((try simp -dsimp (disch := first | exact zdis | fail) only [zcore, zall, zopm, zop, zcallOp, qop, qbuiltin, ofOpt, List.map, reduceCtorEq, if_true, if_false, ↓reduceIte, zbin, eqRes, qassert, qnum, qshift, qun, kindOf, allocV, List.nil_append, List.append_nil, List.cons_append, List.length_cons, List.length_nil, Nat.reduceAdd, Nat.reduceEqDiff, Nat.reduceLT, Nat.reduceSub, Nat.reduceMul, Int.reduceToNat, Int.reduceLE, Int.reduceLT, Int.reduceEq, Int.reduceNeg, Int.reduceAdd, Int.reduceSub, beq_self_eq_true, cond_true, cond_false, isConstOpd, xpanic, xconv, isBytes, qconv, List.length_map, List.map_nil, List.map_cons, concrete, Option.some.injEq, exists_eq', Option.map_some, Option.map_none, List.getElem?_cons_zero, List.getElem?_cons_succ, zw80, rs80, tt3, ti3, zx, hc]); rfl)) (k : B) : A := h ▸ k
set_option maxHeartbeats 8000000 in
theorem c80 : Con C 80 R80 := by
  refine con_of C ?_ ?_ ?_
  · rintro args p r r' ⟨n, lo, hi, h, e⟩ ⟨n', lo', hi', h', e'⟩
    subst e; subst e'; simp_all
  · rintro args p r ⟨n, lo, hi, h, rfl⟩; first | (split <;> simp; done) | (simp; done) | (simp only [resM]; split <;> simp; done) | (simp only [resD]; split <;> simp; done) 
  · rintro args p r ⟨n, lo, hi, rfl, rfl⟩
    refine ans_walk C false noExt (tabL C []) xf80 (noExt_ok C) (tabL_ok C _) zc80_ok (Nat.le_of_ble_eq_true (by kernel_rfl)) fun hF => ?_
    generalize tabL C [] = call
    show W C false noExt call zc80 (argE [I n, I lo, I hi]) p (endQ C _ _)
    (have zx := True.intro; have hc := True.intro; refine zq80 (k := ?_); clear hc zx; try exact True.intro)
    refine shr_keep hF (fun _ _ h => h) (weak_of_eq ?_ (lt_of_no (I_has _)))
    simp [brought, Int.min_comm]
def R84 : Rel := fun args p r => ∃ (n lo hi : Int), args = [I n, I lo, I hi] ∧ r = .ret (Bo (within n lo hi)) p
theorem t84 {T : XCall} (h : Has T 84 R84) (n lo hi : Int) {p : Hp}  : T 84 [I n, I lo, I hi] p = .ret (Bo (within n lo hi)) p := h _ _ _ ⟨n, lo, hi, rfl, rfl⟩
theorem zq84 {A B : Prop} (h : A = B := by ((try simp -dsimp (disch := first | exact zdis | fail) only [zcore, zall, zopm, zop, zcallOp, qop, qbuiltin, ofOpt, List.map, reduceCtorEq, if_true, if_false, ↓reduceIte, zbin, eqRes, qassert, qnum, qshift, qun, kindOf, allocV, List.nil_append, List.append_nil, List.cons_append, List.length_cons, List.length_nil, Nat.reduceAdd, Nat.reduceEqDiff, Nat.reduceLT, Nat.reduceSub, Nat.reduceMul, Int.reduceToNat, Int.reduceLE, Int.reduceLT, Int.reduceEq, Int.reduceNeg, Int.reduceAdd, Int.reduceSub, beq_self_eq_true, cond_true, cond_false, isConstOpd, xpanic, xconv, isBytes, qconv, List.length_map, List.map_nil, List.map_cons, concrete, Option.some.injEq, exists_eq', Option.map_some, Option.map_none, List.getElem?_cons_zero, List.getElem?_cons_succ, zw84, rs84, tt3, ti3, zx, hc]); rfl)) (k : B) : A := h ▸ k
set_option maxHeartbeats 8000000 in
theorem c84 : Con C 84 R84 := by
  refine con_of C ?_ ?_ ?_
  · rintro args p r r' ⟨n, lo, hi, h, e⟩ ⟨n', lo', hi', h', e'⟩
    subst e; subst e'; simp_all
  · rintro args p r ⟨n, lo, hi, h, rfl⟩; first | (split <;> simp; done) | (simp; done) | (simp only [resM]; split <;> simp; done) | (simp only [resD]; split <;> simp; done) 
  · rintro args p r ⟨n, lo, hi, rfl, rfl⟩
    refine ans_walk C false noExt (tabL C []) xf84 (noExt_ok C) (tabL_ok C _) zc84_ok (Nat.le_of_ble_eq_true (by kernel_rfl)) fun hF => ?_
    generalize tabL C [] = call
    show W C false noExt call zc84 (argE [I n, I lo, I hi]) p (endQ C _ _)
    (have zx := True.intro; have hc := True.intro; refine zq84 (k := ?_); clear hc; try exact True.intro)
    repeat' ((first | refine condW_b ?_ ?_ | refine wantO_s ?_ ?_ | refine wantD_s _ _ _ _ ?_ ?_ | refine bindO_i ?_ ?_ | refine bindE_i _ _ _ _ ?_ ?_) <;> intro hc <;> (try simp only [zhd] at hc) <;> (try have hw := within_spec hc) <;> (refine zq84 (k := ?_); try exact True.intro))
    all_goals (try clear zx)
    all_goals (refine shr_keep hF (fun _ _ h => h) (weak_of_eq ?_ (lt_of_no (Bo_has _))))
    all_goals simp [within]; try omega
def R71 : Rel := fun args p r => ∃ (n lo hi : Int), args = [I n, I lo, I hi] ∧ r = .ret (Bo (within n lo hi)) p
theorem t71 {T : XCall} (h : Has T 71 R71) (n lo hi : Int) {p : Hp}  : T 71 [I n, I lo, I hi] p = .ret (Bo (within n lo hi)) p := h _ _ _ ⟨n, lo, hi, rfl, rfl⟩
theorem zq71 {A B : Prop} (h : A = B := by ((try simp -dsimp (disch := first | exact zdis | fail) only [zcore, zall, zopm, zop, zcallOp, qop, qbuiltin, ofOpt, List.map, reduceCtorEq, if_true, if_false, ↓reduceIte, zbin, eqRes, qassert, qnum, qshift, qun, kindOf, allocV, List.nil_append, List.append_nil, List.cons_append, List.length_cons, List.length_nil, Nat.reduceAdd, Nat.reduceEqDiff, Nat.reduceLT, Nat.reduceSub, Nat.reduceMul, Int.reduceToNat, Int.reduceLE, Int.reduceLT, Int.reduceEq, Int.reduceNeg, Int.reduceAdd, Int.reduceSub, beq_self_eq_true, cond_true, cond_false, isConstOpd, xpanic, xconv, isBytes, qconv, List.length_map, List.map_nil, List.map_cons, concrete, Option.some.injEq, exists_eq', Option.map_some, Option.map_none, List.getElem?_cons_zero, List.getElem?_cons_succ, zw71, rs71, tt3, ti3, zx, hc]); rfl)) (k : B) : A := h ▸ k
set_option maxHeartbeats 8000000 in
theorem c71 : Con C 71 R71 := by
  refine con_of C ?_ ?_ ?_
  · rintro args p r r' ⟨n, lo, hi, h, e⟩ ⟨n', lo', hi', h', e'⟩
    subst e; subst e'; simp_all
  · rintro args p r ⟨n, lo, hi, h, rfl⟩; first | (split <;> simp; done) | (simp; done) | (simp only [resM]; split <;> simp; done) | (simp only [resD]; split <;> simp; done) 
  · rintro args p r ⟨n, lo, hi, rfl, rfl⟩
    refine ans_walk C false noExt (tabL C []) xf71 (noExt_ok C) (tabL_ok C _) zc71_ok (Nat.le_of_ble_eq_true (by kernel_rfl)) fun hF => ?_
    generalize tabL C [] = call
    show W C false noExt call zc71 (argE [I n, I lo, I hi]) p (endQ C _ _)
    (have zx := True.intro; have hc := True.intro; refine zq71 (k := ?_); clear hc; try exact True.intro)
    repeat' ((first | refine condW_b ?_ ?_ | refine wantO_s ?_ ?_ | refine wantD_s _ _ _ _ ?_ ?_ | refine bindO_i ?_ ?_ | refine bindE_i _ _ _ _ ?_ ?_) <;> intro hc <;> (try simp only [zhd] at hc) <;> (try have hw := within_spec hc) <;> (refine zq71 (k := ?_); try exact True.intro))
    all_goals (try clear zx)
    all_goals (refine shr_keep hF (fun _ _ h => h) (weak_of_eq ?_ (lt_of_no (Bo_has _))))
    all_goals simp [within]; try omega
def R85 : Rel := fun args p r => ∃ (n lo hi : Int), args = [I n, I lo, I hi] ∧ r = .ret (Bo (within n lo hi)) p
theorem t85 {T : XCall} (h : Has T 85 R85) (n lo hi : Int) {p : Hp}  : T 85 [I n, I lo, I hi] p = .ret (Bo (within n lo hi)) p := h _ _ _ ⟨n, lo, hi, rfl, rfl⟩
theorem zq85 {A B : Prop} (h : A = B := by ((try simp -dsimp (disch := first | exact zdis | fail) only [zcore, zall, zopm, zop, zcallOp, qop, qbuiltin, ofOpt, List.map, reduceCtorEq, if_true, if_false, ↓reduceIte, zbin, eqRes, qassert, qnum, qshift, qun, kindOf, allocV, List.nil_append, List.append_nil, List.cons_append, List.length_cons, List.length_nil, Nat.reduceAdd, Nat.reduceEqDiff, Nat.reduceLT, Nat.reduceSub, Nat.reduceMul, Int.reduceToNat, Int.reduceLE, Int.reduceLT, Int.reduceEq, Int.reduceNeg, Int.reduceAdd, Int.reduceSub, beq_self_eq_true, cond_true, cond_false, isConstOpd, xpanic, xconv, isBytes, qconv, List.length_map, List.map_nil, List.map_cons, concrete, Option.some.injEq, exists_eq', Option.map_some, Option.map_none, List.getElem?_cons_zero, List.getElem?_cons_succ, zw85, rs85, tt3, ti3, zx, hc]); rfl)) (k : B) : A := h ▸ k
set_option maxHeartbeats 8000000 in
theorem c85 : Con C 85 R85 := by
  refine con_of C ?_ ?_ ?_
  · rintro args p r r' ⟨n, lo, hi, h, e⟩ ⟨n', lo', hi', h', e'⟩
    subst e; subst e'; simp_all
  · rintro args p r ⟨n, lo, hi, h, rfl⟩; first | (split <;> simp; done) | (simp; done) | (simp only [resM]; split <;> simp; done) | (simp only [resD]; split <;> simp; done) 
  · rintro args p r ⟨n, lo, hi, rfl, rfl⟩
    refine ans_walk C false noExt (tabL C []) xf85 (noExt_ok C) (tabL_ok C _) zc85_ok (Nat.le_of_ble_eq_true (by kernel_rfl)) fun hF => ?_
    generalize tabL C [] = call
    show W C false noExt call zc85 (argE [I n, I lo, I hi]) p (endQ C _ _)
    (have zx := True.intro; have hc := True.intro; refine zq85 (k := ?_); clear hc; try exact True.intro)
    repeat' ((first | refine condW_b ?_ ?_ | refine wantO_s ?_ ?_ | refine wantD_s _ _ _ _ ?_ ?_ | refine bindO_i ?_ ?_ | refine bindE_i _ _ _ _ ?_ ?_) <;> intro hc <;> (try simp only [zhd] at hc) <;> (try have hw := within_spec hc) <;> (refine zq85 (k := ?_); try exact True.intro))
    all_goals (try clear zx)
    all_goals (refine shr_keep hF (fun _ _ h => h) (weak_of_eq ?_ (lt_of_no (Bo_has _))))
    all_goals simp [within]; try omega
def R200 : Rel := fun args p r => ∃ (c a : Int), args = [I c, I a] ∧ r = .pan (fault c a) p
theorem t200 {T : XCall} (h : Has T 200 R200) (c a : Int) {p : Hp}  : T 200 [I c, I a] p = .pan (fault c a) p := h _ _ _ ⟨c, a, rfl, rfl⟩
theorem zq200 {A B : Prop} (h : A = B := by ((try simp -dsimp (disch := first | exact zdis | fail) only [zcore, zall, zopm, zop, zcallOp, qop, qbuiltin, ofOpt, List.map, reduceCtorEq, if_true, if_false, ↓reduceIte, zbin, eqRes, qassert, qnum, qshift, qun, kindOf, allocV, List.nil_append, List.append_nil, List.cons_append, List.length_cons, List.length_nil, Nat.reduceAdd, Nat.reduceEqDiff, Nat.reduceLT, Nat.reduceSub, Nat.reduceMul, Int.reduceToNat, Int.reduceLE, Int.reduceLT, Int.reduceEq, Int.reduceNeg, Int.reduceAdd, Int.reduceSub, beq_self_eq_true, cond_true, cond_false, isConstOpd, xpanic, xconv, isBytes, qconv, List.length_map, List.map_nil, List.map_cons, concrete, Option.some.injEq, exists_eq', Option.map_some, Option.map_none, List.getElem?_cons_zero, List.getElem?_cons_succ, zw200, rs200, tt44, tt194, ti44, ti194, zs_Trap_Fault, zs_Trap_thrown, zx, hc]); rfl)) (k : B) : A := h ▸ k
set_option maxHeartbeats 8000000 in
theorem c200 : Con C 200 R200 := by
  refine con_of C ?_ ?_ ?_
  · rintro args p r r' ⟨c, a, h, e⟩ ⟨c', a', h', e'⟩
    subst e; subst e'; simp_all [Trap_Fault.inj_iff, Trap_thrown.inj_iff]
  · rintro args p r ⟨c, a, h, rfl⟩; first | (split <;> simp; done) | (simp; done) | (simp only [resM]; split <;> simp; done) | (simp only [resD]; split <;> simp; done) 
  · rintro args p r ⟨c, a, rfl, rfl⟩
    refine ans_walk C false noExt (tabL C []) xf200 (noExt_ok C) (tabL_ok C _) zc200_ok (Nat.le_of_ble_eq_true (by kernel_rfl)) fun hF => ?_
    generalize tabL C [] = call
    show W C false noExt call zc200 (argE [I c, I a]) p (endQ C _ _)
    (have zx := True.intro; have hc := True.intro; refine zq200 (k := ?_); clear hc zx; try exact True.intro)
    exact shr_keepP hF (fun _ _ h => h) (weak_self (lt_of_no (by simp [CV.has, fault, Trap_thrown.nohas])))
def R181 : Rel := fun args p r => ∃ (ok : Bool) (c a : Int), args = [Bo ok, I c, I a] ∧ r = (if ok = true then .ret (.tup []) p else .pan (fault c a) p)
theorem t181 {T : XCall} (h : Has T 181 R181) (ok : Bool) (c a : Int) {p : Hp}  : T 181 [Bo ok, I c, I a] p = (if ok = true then .ret (.tup []) p else .pan (fault c a) p) := h _ _ _ ⟨ok, c, a, rfl, rfl⟩
theorem zq181 {A B : Prop} (h : A = B := by ((try simp -dsimp (disch := first | exact zdis | fail) only [zcore, zall, zopm, zop, zcallOp, qop, qbuiltin, ofOpt, List.map, reduceCtorEq, if_true, if_false, ↓reduceIte, zbin, eqRes, qassert, qnum, qshift, qun, kindOf, allocV, List.nil_append, List.append_nil, List.cons_append, List.length_cons, List.length_nil, Nat.reduceAdd, Nat.reduceEqDiff, Nat.reduceLT, Nat.reduceSub, Nat.reduceMul, Int.reduceToNat, Int.reduceLE, Int.reduceLT, Int.reduceEq, Int.reduceNeg, Int.reduceAdd, Int.reduceSub, beq_self_eq_true, cond_true, cond_false, isConstOpd, xpanic, xconv, isBytes, qconv, List.length_map, List.map_nil, List.map_cons, concrete, Option.some.injEq, exists_eq', Option.map_some, Option.map_none, List.getElem?_cons_zero, List.getElem?_cons_succ, zw181, rs181, t_200, zx, hc]); rfl)) (k : B) : A := h ▸ k
set_option maxHeartbeats 8000000 in
theorem c181 : Con C 181 R181 := by
  refine con_of C ?_ ?_ ?_
  · rintro args p r r' ⟨ok, c, a, h, e⟩ ⟨ok', c', a', h', e'⟩
    subst e; subst e'; simp_all
  · rintro args p r ⟨ok, c, a, h, rfl⟩; first | (split <;> simp; done) | (simp; done) | (simp only [resM]; split <;> simp; done) | (simp only [resD]; split <;> simp; done) 
  · rintro args p r ⟨ok, c, a, rfl, rfl⟩
    refine ans_walk C false noExt (tabL C [(200, R200)]) xf181 (noExt_ok C) (tabL_ok C _) zc181_ok (Nat.le_of_ble_eq_true (by kernel_rfl)) fun hF => ?_
    have t_200 := @t200 (tabL C [(200, R200)]) (has_head C c200 [])
    generalize tabL C [(200, R200)] = call at t_200 ⊢
    show W C false noExt call zc181 (argE [Bo ok, I c, I a]) p (endQ C _ _)
    (have zx := True.intro; have hc := True.intro; refine zq181 (k := ?_); clear hc; try exact True.intro)
    repeat' ((first | refine condW_b ?_ ?_ | refine wantO_s ?_ ?_ | refine wantD_s _ _ _ _ ?_ ?_ | refine bindO_i ?_ ?_ | refine bindE_i _ _ _ _ ?_ ?_) <;> intro hc <;> (try simp only [zhd] at hc) <;> (try have hw := within_spec hc) <;> (refine zq181 (k := ?_); try exact True.intro))
    all_goals (try clear zx)
    · exact shr_keep hF zle (weak_self (lt_of_no tup0_no))
    · exact shr_keepP hF zle (weak_self (lt_of_no (by simp [CV.has, fault, Trap_thrown.nohas])))
def R150 : Rel := fun args p r => ∃ (i : Nat) (m : Rule_machine) (ok : Bool) (c : Int), args = [.ptr i [], Bo ok, I c] ∧ (p.t.get i = some (.var sh131 m.cv)) ∧ r = (if ok = true then .ret (.tup []) p else .pan (fault c m.at_) p)
theorem t150 {T : XCall} (h : Has T 150 R150) (i : Nat) (m : Rule_machine) (ok : Bool) (c : Int) {p : Hp} (h1 : p.t.get i = some (.var sh131 m.cv)) : T 150 [.ptr i [], Bo ok, I c] p = (if ok = true then .ret (.tup []) p else .pan (fault c m.at_) p) := h _ _ _ ⟨i, m, ok, c, rfl, h1, rfl⟩
theorem zq150 {A B : Prop} (h : A = B := by ((try simp -dsimp (disch := first | exact zdis | fail) only [zcore, zall, zopm, zop, zcallOp, qop, qbuiltin, ofOpt, List.map, reduceCtorEq, if_true, if_false, ↓reduceIte, zbin, eqRes, qassert, qnum, qshift, qun, kindOf, allocV, List.nil_append, List.append_nil, List.cons_append, List.length_cons, List.length_nil, Nat.reduceAdd, Nat.reduceEqDiff, Nat.reduceLT, Nat.reduceSub, Nat.reduceMul, Int.reduceToNat, Int.reduceLE, Int.reduceLT, Int.reduceEq, Int.reduceNeg, Int.reduceAdd, Int.reduceSub, beq_self_eq_true, cond_true, cond_false, isConstOpd, xpanic, xconv, isBytes, qconv, List.length_map, List.map_nil, List.map_cons, concrete, Option.some.injEq, exists_eq', Option.map_some, Option.map_none, List.getElem?_cons_zero, List.getElem?_cons_succ, zw150, rs150, tt3, tt131, ti3, ti131, t_181, zs_Rule_machine, h1, zx, hc]); rfl)) (k : B) : A := h ▸ k
set_option maxHeartbeats 8000000 in
theorem c150 : Con C 150 R150 := by
  refine con_of C ?_ ?_ ?_
  · rintro args p r r' ⟨i, m, ok, c, h, h1, e⟩ ⟨i', m', ok', c', h', h1', e'⟩
    subst e; subst e'; simp_all [Rule_machine.inj_iff]
  · rintro args p r ⟨i, m, ok, c, h, h1, rfl⟩; first | (split <;> simp; done) | (simp; done) | (simp only [resM]; split <;> simp; done) | (simp only [resD]; split <;> simp; done) 
  · rintro args p r ⟨i, m, ok, c, rfl, h1, rfl⟩
    refine ans_walk C false noExt (tabL C [(181, R181)]) xf150 (noExt_ok C) (tabL_ok C _) zc150_ok (Nat.le_of_ble_eq_true (by kernel_rfl)) fun hF => ?_
    have t_181 := @t181 (tabL C [(181, R181)]) (has_head C c181 [])
    generalize tabL C [(181, R181)] = call at t_181 ⊢
    have hd_h1 := hF.dom _ _ h1
    show W C false noExt call zc150 (argE [.ptr i [], Bo ok, I c]) p (endQ C _ _)
    (have zx := h1; have hc := True.intro; refine zq150 (k := ?_); clear hc; try exact True.intro)
    repeat' ((first | refine condW_b ?_ ?_ | refine wantO_s ?_ ?_ | refine wantD_s _ _ _ _ ?_ ?_ | refine bindO_i ?_ ?_ | refine bindE_i _ _ _ _ ?_ ?_) <;> intro hc <;> (try simp only [zhd] at hc) <;> (try have hw := within_spec hc) <;> (refine zq150 (k := ?_); try exact True.intro))
    all_goals (try clear zx)
    · exact shr_keep hF zle (weak_self (lt_of_no tup0_no))
    · exact shr_keepP hF zle (weak_self (lt_of_no (by simp [CV.has, fault, Trap_thrown.nohas])))
def R183 : Rel := fun args p r => ∃ (i : Nat) (m : Rule_machine) (k n : Int), args = [.ptr i [], I k, I n] ∧ (p.t.get i = some (.var sh131 m.cv)) ∧ (0 ≤ k) ∧ (k < 4) ∧ r = .ret (.tup []) (p.set i (some (.var sh131 (Mach.set m k.toNat n).cv)))
theorem t183 {T : XCall} (h : Has T 183 R183) (i : Nat) (m : Rule_machine) (k n : Int) {p : Hp} (h1 : p.t.get i = some (.var sh131 m.cv)) (h2 : 0 ≤ k) (h3 : k < 4) : T 183 [.ptr i [], I k, I n] p = .ret (.tup []) (p.set i (some (.var sh131 (Mach.set m k.toNat n).cv))) := h _ _ _ ⟨i, m, k, n, rfl, h1, h2, h3, rfl⟩
theorem zq183 {A B : Prop} (h : A = B := by ((try simp -dsimp (disch := first | exact zdis | fail) only [zcore, zall, zopm, zop, zcallOp, qop, qbuiltin, ofOpt, List.map, reduceCtorEq, if_true, if_false, ↓reduceIte, zbin, eqRes, qassert, qnum, qshift, qun, kindOf, allocV, List.nil_append, List.append_nil, List.cons_append, List.length_cons, List.length_nil, Nat.reduceAdd, Nat.reduceEqDiff, Nat.reduceLT, Nat.reduceSub, Nat.reduceMul, Int.reduceToNat, Int.reduceLE, Int.reduceLT, Int.reduceEq, Int.reduceNeg, Int.reduceAdd, Int.reduceSub, beq_self_eq_true, cond_true, cond_false, isConstOpd, xpanic, xconv, isBytes, qconv, List.length_map, List.map_nil, List.map_cons, concrete, Option.some.injEq, exists_eq', Option.map_some, Option.map_none, List.getElem?_cons_zero, List.getElem?_cons_succ, zw183, rs183, tt3, tt32, tt34, tt39, tt131, ti3, ti32, ti34, ti39, ti131, t_201, zs_Rule_machine, zs_Rule_Env, zs_Api_Body, zsl32, h1, h2, h3, zx, hc]); rfl)) (k : B) : A := h ▸ k
set_option maxHeartbeats 8000000 in
theorem c183 : Con C 183 R183 := by
  refine con_of C ?_ ?_ ?_
  · rintro args p r r' ⟨i, m, k, n, h, h1, h2, h3, e⟩ ⟨i', m', k', n', h', h1', h2', h3', e'⟩
    subst e; subst e'; simp_all [Rule_machine.inj_iff, Rule_Env.inj_iff, Api_Body.inj_iff]
  · rintro args p r ⟨i, m, k, n, h, h1, h2, h3, rfl⟩; first | (split <;> simp; done) | (simp; done) | (simp only [resM]; split <;> simp; done) | (simp only [resD]; split <;> simp; done) 
  · rintro args p r ⟨i, m, k, n, rfl, h1, h2, h3, rfl⟩
    refine ans_walk C false noExt (tabL C [(201, R201)]) xf183 (noExt_ok C) (tabL_ok C _) zc183_ok (Nat.le_of_ble_eq_true (by kernel_rfl)) fun hF => ?_
    have t_201 := @t201 (tabL C [(201, R201)]) (has_head C c201 [])
    generalize tabL C [(201, R201)] = call at t_201 ⊢
    have hd_h1 := hF.dom _ _ h1
    show W C false noExt call zc183 (argE [.ptr i [], I k, I n]) p (endQ C _ _)
    (have zx := h1; have hc := True.intro; refine zq183 (k := ?_); clear hc; try exact True.intro)
    repeat' ((first | refine condW_b ?_ ?_ | refine wantO_s ?_ ?_ | refine wantD_s _ _ _ _ ?_ ?_ | refine bindO_i ?_ ?_ | refine bindE_i _ _ _ _ ?_ ?_) <;> intro hc <;> (try simp only [zhd] at hc) <;> (try have hw := within_spec hc) <;> (refine zq183 (k := ?_); try exact True.intro))
    all_goals (try clear zx)
    refine shr_set hF (hF.dom _ _ h1) zlm ⟨_, Hp.get_set_self _ _ _, oweak_of_eq rfl (fun j hj => hF.lt_obj (.arg (a := CV.ptr i []) (by simp) rfl) h1 j ?_)⟩ (weak_self (lt_of_no (by simp [CV.has, CV.hasL])))
    simpa [XObj.has, Rule_machine.has, Rule_Env.has, Mach.set, Mach.body] using hj
def R186 : Rel := fun args p r => ∃ (i : Nat) (m : Rule_machine) (k : Int), args = [.ptr i [], I k] ∧ (p.t.get i = some (.var sh131 m.cv)) ∧ (0 ≤ k) ∧ (k < 4) ∧ r = .ret (I (Mach.reg m k.toNat)) p
theorem t186 {T : XCall} (h : Has T 186 R186) (i : Nat) (m : Rule_machine) (k : Int) {p : Hp} (h1 : p.t.get i = some (.var sh131 m.cv)) (h2 : 0 ≤ k) (h3 : k < 4) : T 186 [.ptr i [], I k] p = .ret (I (Mach.reg m k.toNat)) p := h _ _ _ ⟨i, m, k, rfl, h1, h2, h3, rfl⟩
theorem zq186 {A B : Prop} (h : A = B := by ((try simp -dsimp (disch := first | exact zdis | fail) only [zcore, zall, zopm, zop, zcallOp, qop, qbuiltin, ofOpt, List.map, reduceCtorEq, if_true, if_false, ↓reduceIte, zbin, eqRes, qassert, qnum, qshift, qun, kindOf, allocV, List.nil_append, List.append_nil, List.cons_append, List.length_cons, List.length_nil, Nat.reduceAdd, Nat.reduceEqDiff, Nat.reduceLT, Nat.reduceSub, Nat.reduceMul, Int.reduceToNat, Int.reduceLE, Int.reduceLT, Int.reduceEq, Int.reduceNeg, Int.reduceAdd, Int.reduceSub, beq_self_eq_true, cond_true, cond_false, isConstOpd, xpanic, xconv, isBytes, qconv, List.length_map, List.map_nil, List.map_cons, concrete, Option.some.injEq, exists_eq', Option.map_some, Option.map_none, List.getElem?_cons_zero, List.getElem?_cons_succ, zw186, rs186, tt3, tt32, tt34, tt39, tt131, ti3, ti32, ti34, ti39, ti131, zs_Rule_machine, zs_Rule_Env, zs_Api_Body, zsl32, h1, h2, h3, zx, hc]); rfl)) (k : B) : A := h ▸ k
set_option maxHeartbeats 8000000 in
theorem c186 : Con C 186 R186 := by
  refine con_of C ?_ ?_ ?_
  · rintro args p r r' ⟨i, m, k, h, h1, h2, h3, e⟩ ⟨i', m', k', h', h1', h2', h3', e'⟩
    subst e; subst e'; simp_all [Rule_machine.inj_iff, Rule_Env.inj_iff, Api_Body.inj_iff]
  · rintro args p r ⟨i, m, k, h, h1, h2, h3, rfl⟩; first | (split <;> simp; done) | (simp; done) | (simp only [resM]; split <;> simp; done) | (simp only [resD]; split <;> simp; done) 
  · rintro args p r ⟨i, m, k, rfl, h1, h2, h3, rfl⟩
    refine ans_walk C false noExt (tabL C []) xf186 (noExt_ok C) (tabL_ok C _) zc186_ok (Nat.le_of_ble_eq_true (by kernel_rfl)) fun hF => ?_
    generalize tabL C [] = call
    have hd_h1 := hF.dom _ _ h1
    show W C false noExt call zc186 (argE [.ptr i [], I k]) p (endQ C _ _)
    (have zx := h1; have hc := True.intro; refine zq186 (k := ?_); clear hc; try exact True.intro)
    repeat' ((first | refine condW_b ?_ ?_ | refine wantO_s ?_ ?_ | refine wantD_s _ _ _ _ ?_ ?_ | refine bindO_i ?_ ?_ | refine bindE_i _ _ _ _ ?_ ?_) <;> intro hc <;> (try simp only [zhd] at hc) <;> (try have hw := within_spec hc) <;> (refine zq186 (k := ?_); try exact True.intro))
    all_goals (try clear zx)
    exact shr_keep hF zle (weak_I _ _)
def R187 : Rel := fun args p r => ∃ (i : Nat) (m : Rule_machine) (k : Int), args = [.ptr i [], I k] ∧ (p.t.get i = some (.var sh131 m.cv)) ∧ r = (if within k 0 m.l_.l.length = true then .ret (I k) p else .pan (fault 4 m.at_) p)
theorem t187 {T : XCall} (h : Has T 187 R187) (i : Nat) (m : Rule_machine) (k : Int) {p : Hp} (h1 : p.t.get i = some (.var sh131 m.cv)) : T 187 [.ptr i [], I k] p = (if within k 0 m.l_.l.length = true then .ret (I k) p else .pan (fault 4 m.at_) p) := h _ _ _ ⟨i, m, k, rfl, h1, rfl⟩
theorem zq187 {A B : Prop} (h : A = B := by ((try simp -dsimp (disch := first | exact zdis | fail) only [zcore, zall, zopm, zop, zcallOp, qop, qbuiltin, ofOpt, List.map, reduceCtorEq, if_true, if_false, ↓reduceIte, zbin, eqRes, qassert, qnum, qshift, qun, kindOf, allocV, List.nil_append, List.append_nil, List.cons_append, List.length_cons, List.length_nil, Nat.reduceAdd, Nat.reduceEqDiff, Nat.reduceLT, Nat.reduceSub, Nat.reduceMul, Int.reduceToNat, Int.reduceLE, Int.reduceLT, Int.reduceEq, Int.reduceNeg, Int.reduceAdd, Int.reduceSub, beq_self_eq_true, cond_true, cond_false, isConstOpd, xpanic, xconv, isBytes, qconv, List.length_map, List.map_nil, List.map_cons, concrete, Option.some.injEq, exists_eq', Option.map_some, Option.map_none, List.getElem?_cons_zero, List.getElem?_cons_succ, zw187, rs187, tt23, tt131, ti23, ti131, t_84, t_150, zs_Rule_machine, zsl23, h1, zx, hc]); rfl)) (k : B) : A := h ▸ k
theorem zno187 {P : Prop} (h : P := by intro jj; simp [CV.has, CV.hasL, fault, Trap_thrown.nohas]) : P := h
set_option maxHeartbeats 8000000 in
theorem c187 : Con C 187 R187 := by
  refine con_of C ?_ ?_ ?_
  · rintro args p r r' ⟨i, m, k, h, h1, e⟩ ⟨i', m', k', h', h1', e'⟩
    subst e; subst e'; simp_all [Rule_machine.inj_iff, sl_inj23]
  · rintro args p r ⟨i, m, k, h, h1, rfl⟩; first | (split <;> simp; done) | (simp; done) | (simp only [resM]; split <;> simp; done) | (simp only [resD]; split <;> simp; done) 
  · rintro args p r ⟨i, m, k, rfl, h1, rfl⟩
    refine ans_walk C false noExt (tabL C [(84, R84), (150, R150)]) xf187 (noExt_ok C) (tabL_ok C _) zc187_ok (Nat.le_of_ble_eq_true (by kernel_rfl)) fun hF => ?_
    have t_84 := @t84 (tabL C [(84, R84), (150, R150)]) (has_head C c84 [(150, R150)])
    have t_150 := @t150 (tabL C [(84, R84), (150, R150)]) (has_tail C _ rfl (has_head C c150 []))
    generalize tabL C [(84, R84), (150, R150)] = call at t_84 t_150 ⊢
    have hd_h1 := hF.dom _ _ h1
    show W C false noExt call zc187 (argE [.ptr i [], I k]) p (endQ C _ _)
    (have zx := h1; have hc := True.intro; refine zq187 (k := ?_); clear hc; try exact True.intro)
    repeat' ((first | refine condW_b ?_ ?_ | refine wantO_s ?_ ?_ | refine wantD_s _ _ _ _ ?_ ?_ | refine bindO_i ?_ ?_ | refine bindE_i _ _ _ _ ?_ ?_) <;> intro hc <;> (try simp only [zhd] at hc) <;> (try have hw := within_spec hc) <;> (refine zq187 (k := ?_); try exact True.intro))
    all_goals (try clear zx)
    all_goals (first | exact shr_keep hF zle (weak_self (lt_of_no zno187)) | exact shr_keepP hF zle (weak_self (lt_of_no zno187)))
end Go.Proofs.Ytpchcfkebljopaa
end
section
-- @nole
namespace Go.Proofs.Ytpchcfkebljopaa
open Go.Cl Go Go.RowKit
set_option maxRecDepth 100000
set_option linter.constructorNameAsVariable false
def R24 : Rel := fun args p r => ∃ (b : Api_Body), args = [b.cv] ∧ r = .ret (Bo (Body.right b)) p
theorem t24 {T : XCall} (h : Has T 24 R24) (b : Api_Body) {p : Hp}  : T 24 [b.cv] p = .ret (Bo (Body.right b)) p := h _ _ _ ⟨b, rfl, rfl⟩
theorem zq24 {A B : Prop} (h : A = B := by ((try simp -dsimp (disch := first | exact zdis | fail) only [zcore, zall, zopm, zop, zcallOp, qop, qbuiltin, ofOpt, List.map, reduceCtorEq, if_true, if_false, ↓reduceIte, zbin, eqRes, qassert, qnum, qshift, qun, kindOf, allocV, List.nil_append, List.append_nil, List.cons_append, List.length_cons, List.length_nil, Nat.reduceAdd, Nat.reduceEqDiff, Nat.reduceLT, Nat.reduceSub, Nat.reduceMul, Int.reduceToNat, Int.reduceLE, Int.reduceLT, Int.reduceEq, Int.reduceNeg, Int.reduceAdd, Int.reduceSub, beq_self_eq_true, cond_true, cond_false, isConstOpd, xpanic, xconv, isBytes, qconv, List.length_map, List.map_nil, List.map_cons, concrete, Option.some.injEq, exists_eq', Option.map_some, Option.map_none, List.getElem?_cons_zero, List.getElem?_cons_succ, zw24, rs24, tt3, tt32, tt34, ti3, ti32, ti34, t_71, zs_Api_Body, zsl32, zx, hc]); rfl)) (k : B) : A := h ▸ k
theorem zno24 {P : Prop} (h : P := by intro jj; simp [CV.has, CV.hasL, fault, Trap_thrown.nohas, Api_Body.nohas]) : P := h
set_option maxHeartbeats 8000000 in
theorem c24 : Con C 24 R24 := by
  refine con_of C ?_ ?_ ?_
  · rintro args p r r' ⟨b, h, e⟩ ⟨b', h', e'⟩
    subst e; subst e'; simp_all [Api_Body.inj_iff]
  · rintro args p r ⟨b, h, rfl⟩; first | (split <;> simp; done) | (simp; done) | (simp only [resM]; split <;> simp; done) | (simp only [resD]; split <;> simp; done) 
  · rintro args p r ⟨b, rfl, rfl⟩
    refine ans_walk C false noExt (tabL C [(71, R71)]) xf24 (noExt_ok C) (tabL_ok C _) zc24_ok (Nat.le_of_ble_eq_true (by kernel_rfl)) fun hF => ?_
    have t_71 := @t71 (tabL C [(71, R71)]) (has_head C c71 [])
    generalize tabL C [(71, R71)] = call at t_71 ⊢
    show W C false noExt call zc24 (argE [b.cv]) p (endQ C _ _)
    have hm := b.hMem
    (have zx := True.intro; have hc := True.intro; refine zq24 (k := ?_); clear hc; try exact True.intro)
    repeat' ((first | refine condW_b ?_ ?_ | refine wantO_s ?_ ?_ | refine wantD_s _ _ _ _ ?_ ?_ | refine bindO_i ?_ ?_ | refine bindE_i _ _ _ _ ?_ ?_) <;> intro hc <;> (try simp only [zhd] at hc) <;> (try have hw := within_spec hc) <;> (refine zq24 (k := ?_); try exact True.intro))
    all_goals (try clear zx)
    · refine shr_keep hF zle (weak_of_eq ?_ (lt_of_no zno24))
      simp only [Body.right, hc, if_true]
      rfl
    refine ⟨5, ?_⟩
    simp only [Wn_succ]
    (have zx := True.intro; have hc := True.intro; refine zq24 (k := ?_); clear hc; try exact True.intro)
    repeat' ((first | refine condW_b ?_ ?_ | refine wantO_s ?_ ?_ | refine wantD_s _ _ _ _ ?_ ?_ | refine bindO_i ?_ ?_ | refine bindE_i _ _ _ _ ?_ ?_) <;> intro hc <;> (try simp only [zhd] at hc) <;> (try have hw := within_spec hc) <;> (refine zq24 (k := ?_); try exact True.intro))
    all_goals (try clear zx)
    all_goals (refine shr_keep hF zle (weak_of_eq ?_ (lt_of_no zno24)))
    all_goals simp [Body.right, all_nth4 hm, *]
end Go.Proofs.Ytpchcfkebljopaa
end
section
-- @nole
namespace Go.Proofs.Ytpchcfkebljopaa
open Go.Cl Go Go.RowKit
set_option maxRecDepth 100000
set_option linter.constructorNameAsVariable false
def R182 : Rel := fun args p r => ∃ (i : Nat) (m : Rule_machine) (o : Api_Op), args = [.ptr i [], o.cv] ∧ (p.t.get i = some (.var sh131 m.cv)) ∧ r = (if namedOk o = true then .ret (.tup []) p else .pan (fault 2 m.at_) p)
theorem t182 {T : XCall} (h : Has T 182 R182) (i : Nat) (m : Rule_machine) (o : Api_Op) {p : Hp} (h1 : p.t.get i = some (.var sh131 m.cv)) : T 182 [.ptr i [], o.cv] p = (if namedOk o = true then .ret (.tup []) p else .pan (fault 2 m.at_) p) := h _ _ _ ⟨i, m, o, rfl, h1, rfl⟩
theorem zq182 {A B : Prop} (h : A = B := by ((try simp -dsimp (disch := first | exact zdis | fail) only [zcore, zall, zopm, zop, zcallOp, qop, qbuiltin, ofOpt, List.map, reduceCtorEq, if_true, if_false, ↓reduceIte, zbin, eqRes, qassert, qnum, qshift, qun, kindOf, allocV, List.nil_append, List.append_nil, List.cons_append, List.length_cons, List.length_nil, Nat.reduceAdd, Nat.reduceEqDiff, Nat.reduceLT, Nat.reduceSub, Nat.reduceMul, Int.reduceToNat, Int.reduceLE, Int.reduceLT, Int.reduceEq, Int.reduceNeg, Int.reduceAdd, Int.reduceSub, beq_self_eq_true, cond_true, cond_false, isConstOpd, xpanic, xconv, isBytes, qconv, List.length_map, List.map_nil, List.map_cons, concrete, Option.some.injEq, exists_eq', Option.map_some, Option.map_none, List.getElem?_cons_zero, List.getElem?_cons_succ, zw182, rs182, tt3, tt29, ti3, ti29, t_84, t_150, zs_Rule_machine, zs_Api_Op, h1, zx, hc]); rfl)) (k : B) : A := h ▸ k
theorem zno182 {P : Prop} (h : P := by intro jj; simp [CV.has, CV.hasL, fault, Trap_thrown.nohas, Api_Op.nohas]) : P := h
set_option maxHeartbeats 8000000 in
theorem c182 : Con C 182 R182 := by
  refine con_of C ?_ ?_ ?_
  · rintro args p r r' ⟨i, m, o, h, h1, e⟩ ⟨i', m', o', h', h1', e'⟩
    subst e; subst e'; simp_all [Rule_machine.inj_iff, Api_Op.inj_iff]
  · rintro args p r ⟨i, m, o, h, h1, rfl⟩; first | (split <;> simp; done) | (simp; done) | (simp only [resM]; split <;> simp; done) | (simp only [resD]; split <;> simp; done) 
  · rintro args p r ⟨i, m, o, rfl, h1, rfl⟩
    refine ans_walk C false noExt (tabL C [(84, R84), (150, R150)]) xf182 (noExt_ok C) (tabL_ok C _) zc182_ok (Nat.le_of_ble_eq_true (by kernel_rfl)) fun hF => ?_
    have t_84 := @t84 (tabL C [(84, R84), (150, R150)]) (has_head C c84 [(150, R150)])
    have t_150 := @t150 (tabL C [(84, R84), (150, R150)]) (has_tail C _ rfl (has_head C c150 []))
    generalize tabL C [(84, R84), (150, R150)] = call at t_84 t_150 ⊢
    have hd_h1 := hF.dom _ _ h1
    show W C false noExt call zc182 (argE [.ptr i [], o.cv]) p (endQ C _ _)
    (have zx := h1; have hc := True.intro; refine zq182 (k := ?_); clear hc; try exact True.intro)
    repeat' ((first | refine condW_b ?_ ?_ | refine wantO_s ?_ ?_ | refine wantD_s _ _ _ _ ?_ ?_ | refine bindO_i ?_ ?_ | refine bindE_i _ _ _ _ ?_ ?_) <;> intro hc <;> (try simp only [zhd] at hc) <;> (try have hw := within_spec hc) <;> (refine zq182 (k := ?_); try exact True.intro))
    all_goals (try clear zx)
    all_goals (cases e : (namedOk o) <;> first | (exfalso; revert e; simp [namedOk, needA, needB, *]; done) | (exfalso; simp [namedOk, needA, needB] at e; omega) | skip)
    all_goals (try simp only [if_true, if_false, Bool.false_eq_true])
    all_goals (first | exact shr_keep hF zle (weak_self (lt_of_no zno182)) | exact shr_keepP hF zle (weak_self (lt_of_no zno182)))
def R184 : Rel := fun args p r => ∃ (i : Nat) (m : Rule_machine) (k : Int), args = [.ptr i [], I k] ∧ (p.t.get i = some (.var sh131 m.cv)) ∧ r = (if within k 0 7 = true then .ret (I (Mach.field m k.toNat)) p else .pan (fault 3 m.at_) p)
theorem t184 {T : XCall} (h : Has T 184 R184) (i : Nat) (m : Rule_machine) (k : Int) {p : Hp} (h1 : p.t.get i = some (.var sh131 m.cv)) : T 184 [.ptr i [], I k] p = (if within k 0 7 = true then .ret (I (Mach.field m k.toNat)) p else .pan (fault 3 m.at_) p) := h _ _ _ ⟨i, m, k, rfl, h1, rfl⟩
theorem zq184 {A B : Prop} (h : A = B := by ((try simp -dsimp (disch := first | exact zdis | fail) only [zcore, zall, zopm, zop, zcallOp, qop, qbuiltin, ofOpt, List.map, reduceCtorEq, if_true, if_false, ↓reduceIte, zbin, eqRes, qassert, qnum, qshift, qun, kindOf, allocV, List.nil_append, List.append_nil, List.cons_append, List.length_cons, List.length_nil, Nat.reduceAdd, Nat.reduceEqDiff, Nat.reduceLT, Nat.reduceSub, Nat.reduceMul, Int.reduceToNat, Int.reduceLE, Int.reduceLT, Int.reduceEq, Int.reduceNeg, Int.reduceAdd, Int.reduceSub, beq_self_eq_true, cond_true, cond_false, isConstOpd, xpanic, xconv, isBytes, qconv, List.length_map, List.map_nil, List.map_cons, concrete, Option.some.injEq, exists_eq', Option.map_some, Option.map_none, List.getElem?_cons_zero, List.getElem?_cons_succ, zw184, rs184, tt3, tt24, tt34, tt36, tt39, tt131, ti3, ti24, ti34, ti36, ti39, ti131, t_84, t_150, zs_Rule_machine, zs_Rule_Env, zs_Api_Body, zs_Api_Input, zsl24, h1, zx, hc]); rfl)) (k : B) : A := h ▸ k
theorem zno184 {P : Prop} (h : P := by intro jj; simp [CV.has, CV.hasL, fault, Trap_thrown.nohas, Api_Body.nohas, Api_Input.nohas]) : P := h
set_option maxHeartbeats 8000000 in
theorem c184 : Con C 184 R184 := by
  refine con_of C ?_ ?_ ?_
  · rintro args p r r' ⟨i, m, k, h, h1, e⟩ ⟨i', m', k', h', h1', e'⟩
    subst e; subst e'; simp_all [Rule_machine.inj_iff, Rule_Env.inj_iff, Api_Body.inj_iff, Api_Input.inj_iff, sl_inj24]
  · rintro args p r ⟨i, m, k, h, h1, rfl⟩; first | (split <;> simp; done) | (simp; done) | (simp only [resM]; split <;> simp; done) | (simp only [resD]; split <;> simp; done) 
  · rintro args p r ⟨i, m, k, rfl, h1, rfl⟩
    refine ans_walk C false noExt (tabL C [(84, R84), (150, R150)]) xf184 (noExt_ok C) (tabL_ok C _) zc184_ok (Nat.le_of_ble_eq_true (by kernel_rfl)) fun hF => ?_
    have t_84 := @t84 (tabL C [(84, R84), (150, R150)]) (has_head C c84 [(150, R150)])
    have t_150 := @t150 (tabL C [(84, R84), (150, R150)]) (has_tail C _ rfl (has_head C c150 []))
    generalize tabL C [(84, R84), (150, R150)] = call at t_84 t_150 ⊢
    have hd_h1 := hF.dom _ _ h1
    show W C false noExt call zc184 (argE [.ptr i [], I k]) p (endQ C _ _)
    (have zx := h1; have hc := True.intro; refine zq184 (k := ?_); clear hc; try exact True.intro)
    repeat' ((first | refine condW_b ?_ ?_ | refine wantO_s ?_ ?_ | refine wantD_s _ _ _ _ ?_ ?_ | refine bindO_i ?_ ?_ | refine bindE_i _ _ _ _ ?_ ?_) <;> intro hc <;> (try simp only [zhd] at hc) <;> (try have hw := within_spec hc) <;> (refine zq184 (k := ?_); try exact True.intro))
    all_goals (try clear zx)
    all_goals (first | exact shr_keep hF zle (weak_self (lt_of_no zno184)) | exact shr_keepP hF zle (weak_self (lt_of_no zno184)))
def R185 : Rel := fun args p r => ∃ (i : Nat) (m : Rule_machine) (k n : Int), args = [.ptr i [], I k, I n] ∧ (p.t.get i = some (.var sh131 m.cv)) ∧ r = (if within k 0 3 = true then .ret (.tup []) (p.set i (some (.var sh131 (Mach.put m k n).cv))) else .pan (fault 3 m.at_) p)
theorem t185 {T : XCall} (h : Has T 185 R185) (i : Nat) (m : Rule_machine) (k n : Int) {p : Hp} (h1 : p.t.get i = some (.var sh131 m.cv)) : T 185 [.ptr i [], I k, I n] p = (if within k 0 3 = true then .ret (.tup []) (p.set i (some (.var sh131 (Mach.put m k n).cv))) else .pan (fault 3 m.at_) p) := h _ _ _ ⟨i, m, k, n, rfl, h1, rfl⟩
theorem zq185 {A B : Prop} (h : A = B := by ((try simp -dsimp (disch := first | exact zdis | fail) only [zcore, zall, zopm, zop, zcallOp, qop, qbuiltin, ofOpt, List.map, reduceCtorEq, if_true, if_false, ↓reduceIte, zbin, eqRes, qassert, qnum, qshift, qun, kindOf, allocV, List.nil_append, List.append_nil, List.cons_append, List.length_cons, List.length_nil, Nat.reduceAdd, Nat.reduceEqDiff, Nat.reduceLT, Nat.reduceSub, Nat.reduceMul, Int.reduceToNat, Int.reduceLE, Int.reduceLT, Int.reduceEq, Int.reduceNeg, Int.reduceAdd, Int.reduceSub, beq_self_eq_true, cond_true, cond_false, isConstOpd, xpanic, xconv, isBytes, qconv, List.length_map, List.map_nil, List.map_cons, concrete, Option.some.injEq, exists_eq', Option.map_some, Option.map_none, List.getElem?_cons_zero, List.getElem?_cons_succ, zw185, rs185, tt3, tt34, tt39, tt131, ti3, ti34, ti39, ti131, t_201, t_150, zs_Rule_machine, zs_Rule_Env, zs_Api_Body, zs_Api_Input, h1, zx, hc]); rfl)) (k : B) : A := h ▸ k
theorem zno185 {P : Prop} (h : P := by intro jj; simp [CV.has, CV.hasL, fault, Trap_thrown.nohas, Api_Body.nohas, Api_Input.nohas]) : P := h
set_option maxHeartbeats 8000000 in
theorem c185 : Con C 185 R185 := by
  refine con_of C ?_ ?_ ?_
  · rintro args p r r' ⟨i, m, k, n, h, h1, e⟩ ⟨i', m', k', n', h', h1', e'⟩
    subst e; subst e'; simp_all [Rule_machine.inj_iff, Rule_Env.inj_iff, Api_Body.inj_iff, Api_Input.inj_iff]
  · rintro args p r ⟨i, m, k, n, h, h1, rfl⟩; first | (split <;> simp; done) | (simp; done) | (simp only [resM]; split <;> simp; done) | (simp only [resD]; split <;> simp; done) 
  · rintro args p r ⟨i, m, k, n, rfl, h1, rfl⟩
    refine ans_walk C false noExt (tabL C [(201, R201), (150, R150)]) xf185 (noExt_ok C) (tabL_ok C _) zc185_ok (Nat.le_of_ble_eq_true (by kernel_rfl)) fun hF => ?_
    have t_201 := @t201 (tabL C [(201, R201), (150, R150)]) (has_head C c201 [(150, R150)])
    have t_150 := @t150 (tabL C [(201, R201), (150, R150)]) (has_tail C _ rfl (has_head C c150 []))
    generalize tabL C [(201, R201), (150, R150)] = call at t_201 t_150 ⊢
    have hd_h1 := hF.dom _ _ h1
    show W C false noExt call zc185 (argE [.ptr i [], I k, I n]) p (endQ C _ _)
    (have zx := h1; have hc := True.intro; refine zq185 (k := ?_); clear hc; try exact True.intro)
    repeat' ((first | refine condW_b ?_ ?_ | refine wantO_s ?_ ?_ | refine wantD_s _ _ _ _ ?_ ?_ | refine bindO_i ?_ ?_ | refine bindE_i _ _ _ _ ?_ ?_) <;> intro hc <;> (try simp only [zhd] at hc) <;> (try have hw := within_spec hc) <;> (refine zq185 (k := ?_); try exact True.intro))
    all_goals (try clear zx)
    all_goals (cases e : (within k 0 3) <;> first | (exfalso; revert e; simp [within, *]; done) | (exfalso; simp [within] at e; omega) | skip)
    all_goals (try simp only [if_true, if_false, Bool.false_eq_true])
    any_goals (first | exact shr_keep hF zle (weak_self (lt_of_no zno185)) | exact shr_keepP hF zle (weak_self (lt_of_no zno185)))
    all_goals refine shr_set hF (hF.dom _ _ h1) zlm ⟨_, Hp.get_set_self _ _ _, oweak_of_eq ?_ (fun j hj => hF.lt_obj (.arg (a := CV.ptr i []) (by simp) rfl) h1 j ?_)⟩ (weak_self (lt_of_no tup0_no))
    all_goals simp_all [Mach.put, Mach.body, XObj.has, Rule_machine.has, Rule_Env.has]
def R207 : Rel := fun args p r => ∃ (d : Int), args = [U d] ∧ r = .ret (.tup [U (diceNext d), I (diceNum (diceNext d))]) p
theorem t207 {T : XCall} (h : Has T 207 R207) (d : Int) {p : Hp}  : T 207 [U d] p = .ret (.tup [U (diceNext d), I (diceNum (diceNext d))]) p := h _ _ _ ⟨d, rfl, rfl⟩
theorem zq207 {A B : Prop} (h : A = B := by ((try simp -dsimp (disch := first | exact zdis | fail) only [zcore, zall, zopm, zop, zcallOp, qop, qbuiltin, ofOpt, List.map, reduceCtorEq, if_true, if_false, ↓reduceIte, zbin, eqRes, qassert, qnum, qshift, qun, kindOf, allocV, List.nil_append, List.append_nil, List.cons_append, List.length_cons, List.length_nil, Nat.reduceAdd, Nat.reduceEqDiff, Nat.reduceLT, Nat.reduceSub, Nat.reduceMul, Int.reduceToNat, Int.reduceLE, Int.reduceLT, Int.reduceEq, Int.reduceNeg, Int.reduceAdd, Int.reduceSub, beq_self_eq_true, cond_true, cond_false, isConstOpd, xpanic, xconv, isBytes, qconv, List.length_map, List.map_nil, List.map_cons, concrete, Option.some.injEq, exists_eq', Option.map_some, Option.map_none, List.getElem?_cons_zero, List.getElem?_cons_succ, zw207, rs207, tt3, tt25, tt178, ti3, ti25, ti178, zx, hc]); rfl)) (k : B) : A := h ▸ k
theorem zno207 {P : Prop} (h : P := by intro jj; simp [CV.has, CV.hasL, fault, Trap_thrown.nohas]) : P := h
set_option maxHeartbeats 8000000 in
theorem c207 : Con C 207 R207 := by
  refine con_of C ?_ ?_ ?_
  · rintro args p r r' ⟨d, h, e⟩ ⟨d', h', e'⟩
    subst e; subst e'; simp_all
  · rintro args p r ⟨d, h, rfl⟩; first | (split <;> simp; done) | (simp; done) | (simp only [resM]; split <;> simp; done) | (simp only [resD]; split <;> simp; done) 
  · rintro args p r ⟨d, rfl, rfl⟩
    refine ans_walk C false noExt (tabL C []) xf207 (noExt_ok C) (tabL_ok C _) zc207_ok (Nat.le_of_ble_eq_true (by kernel_rfl)) fun hF => ?_
    generalize tabL C [] = call
    show W C false noExt call zc207 (argE [U d]) p (endQ C _ _)
    (have zx := True.intro; have hc := True.intro; refine zq207 (k := ?_); clear hc; try exact True.intro)
    repeat' ((first | refine condW_b ?_ ?_ | refine wantO_s ?_ ?_ | refine wantD_s _ _ _ _ ?_ ?_ | refine bindO_i ?_ ?_ | refine bindE_i _ _ _ _ ?_ ?_) <;> intro hc <;> (try simp only [zhd] at hc) <;> (try have hw := within_spec hc) <;> (refine zq207 (k := ?_); try exact True.intro))
    all_goals (try clear zx)
    exact shr_keep hF zle (weak_of_eq rfl (lt_of_no zno207))
def R202 : Rel := fun args p r => ∃ (d n : Int), args = [U d, I n] ∧ r = .ret (.tup [U (diceRoll d n).1, I (diceRoll d n).2]) p
theorem t202 {T : XCall} (h : Has T 202 R202) (d n : Int) {p : Hp}  : T 202 [U d, I n] p = .ret (.tup [U (diceRoll d n).1, I (diceRoll d n).2]) p := h _ _ _ ⟨d, n, rfl, rfl⟩
theorem zq202 {A B : Prop} (h : A = B := by ((try simp -dsimp (disch := first | exact zdis | fail) only [zcore, zall, zopm, zop, zcallOp, qop, qbuiltin, ofOpt, List.map, reduceCtorEq, if_true, if_false, ↓reduceIte, zbin, eqRes, qassert, qnum, qshift, qun, kindOf, allocV, List.nil_append, List.append_nil, List.cons_append, List.length_cons, List.length_nil, Nat.reduceAdd, Nat.reduceEqDiff, Nat.reduceLT, Nat.reduceSub, Nat.reduceMul, Int.reduceToNat, Int.reduceLE, Int.reduceLT, Int.reduceEq, Int.reduceNeg, Int.reduceAdd, Int.reduceSub, beq_self_eq_true, cond_true, cond_false, isConstOpd, xpanic, xconv, isBytes, qconv, List.length_map, List.map_nil, List.map_cons, concrete, Option.some.injEq, exists_eq', Option.map_some, Option.map_none, List.getElem?_cons_zero, List.getElem?_cons_succ, zw202, rs202, tt3, ti3, t_207, zx, hc]); rfl)) (k : B) : A := h ▸ k
theorem zno202 {P : Prop} (h : P := by intro jj; simp [CV.has, CV.hasL, fault, Trap_thrown.nohas]) : P := h
set_option maxHeartbeats 8000000 in
theorem c202 : Con C 202 R202 := by
  refine con_of C ?_ ?_ ?_
  · rintro args p r r' ⟨d, n, h, e⟩ ⟨d', n', h', e'⟩
    subst e; subst e'; simp_all
  · rintro args p r ⟨d, n, h, rfl⟩; first | (split <;> simp; done) | (simp; done) | (simp only [resM]; split <;> simp; done) | (simp only [resD]; split <;> simp; done) 
  · rintro args p r ⟨d, n, rfl, rfl⟩
    refine ans_walk C false noExt (tabL C [(207, R207)]) xf202 (noExt_ok C) (tabL_ok C _) zc202_ok (Nat.le_of_ble_eq_true (by kernel_rfl)) fun hF => ?_
    have t_207 := @t207 (tabL C [(207, R207)]) (has_head C c207 [])
    generalize tabL C [(207, R207)] = call at t_207 ⊢
    show W C false noExt call zc202 (argE [U d, I n]) p (endQ C _ _)
    (have zx := True.intro; have hc := True.intro; refine zq202 (k := ?_); clear hc; try exact True.intro)
    repeat' ((first | refine condW_b ?_ ?_ | refine wantO_s ?_ ?_ | refine wantD_s _ _ _ _ ?_ ?_ | refine bindO_i ?_ ?_ | refine bindE_i _ _ _ _ ?_ ?_) <;> intro hc <;> (try simp only [zhd] at hc) <;> (try have hw := within_spec hc) <;> (refine zq202 (k := ?_); try exact True.intro))
    all_goals (try clear zx)
    all_goals refine shr_keep hF zle (weak_of_eq ?_ (lt_of_no zno202))
    all_goals simp [diceRoll, hc]
def R203 : Rel := fun args p r => ∃ (b : Api_Body) (x y : Int), args = [b.cv, I x, I y] ∧ r = .ret (bodyShoot b x y).cv p
theorem t203 {T : XCall} (h : Has T 203 R203) (b : Api_Body) (x y : Int) {p : Hp}  : T 203 [b.cv, I x, I y] p = .ret (bodyShoot b x y).cv p := h _ _ _ ⟨b, x, y, rfl, rfl⟩
theorem zq203 {A B : Prop} (h : A = B := by ((try simp -dsimp (disch := first | exact zdis | fail) only [zcore, zall, zopm, zop, zcallOp, qop, qbuiltin, ofOpt, List.map, reduceCtorEq, if_true, if_false, ↓reduceIte, zbin, eqRes, qassert, qnum, qshift, qun, kindOf, allocV, List.nil_append, List.append_nil, List.cons_append, List.length_cons, List.length_nil, Nat.reduceAdd, Nat.reduceEqDiff, Nat.reduceLT, Nat.reduceSub, Nat.reduceMul, Int.reduceToNat, Int.reduceLE, Int.reduceLT, Int.reduceEq, Int.reduceNeg, Int.reduceAdd, Int.reduceSub, beq_self_eq_true, cond_true, cond_false, isConstOpd, xpanic, xconv, isBytes, qconv, List.length_map, List.map_nil, List.map_cons, concrete, Option.some.injEq, exists_eq', Option.map_some, Option.map_none, List.getElem?_cons_zero, List.getElem?_cons_succ, zw203, rs203, tt3, tt34, ti3, ti34, t_24, t_140, zs_Api_Body, zx, hc]); rfl)) (k : B) : A := h ▸ k
theorem zno203 {P : Prop} (h : P := by intro jj; simp [CV.has, CV.hasL, fault, Trap_thrown.nohas, Api_Body.nohas]) : P := h
set_option maxHeartbeats 8000000 in
theorem c203 : Con C 203 R203 := by
  refine con_of C ?_ ?_ ?_
  · rintro args p r r' ⟨b, x, y, h, e⟩ ⟨b', x', y', h', e'⟩
    subst e; subst e'; simp_all [Api_Body.inj_iff]
  · rintro args p r ⟨b, x, y, h, rfl⟩; first | (split <;> simp; done) | (simp; done) | (simp only [resM]; split <;> simp; done) | (simp only [resD]; split <;> simp; done) 
  · rintro args p r ⟨b, x, y, rfl, rfl⟩
    refine ans_walk C false noExt (tabL C [(24, R24), (140, R140)]) xf203 (noExt_ok C) (tabL_ok C _) zc203_ok (Nat.le_of_ble_eq_true (by kernel_rfl)) fun hF => ?_
    have t_24 := @t24 (tabL C [(24, R24), (140, R140)]) (has_head C c24 [(140, R140)])
    have t_140 := @t140 (tabL C [(24, R24), (140, R140)]) (has_tail C _ rfl (has_head C c140 []))
    generalize tabL C [(24, R24), (140, R140)] = call at t_24 t_140 ⊢
    show W C false noExt call zc203 (argE [b.cv, I x, I y]) p (endQ C _ _)
    (have zx := True.intro; have hc := True.intro; refine zq203 (k := ?_); clear hc; try exact True.intro)
    repeat' ((first | refine condW_b ?_ ?_ | refine wantO_s ?_ ?_ | refine wantD_s _ _ _ _ ?_ ?_ | refine bindO_i ?_ ?_ | refine bindE_i _ _ _ _ ?_ ?_) <;> intro hc <;> (try simp only [zhd] at hc) <;> (try have hw := within_spec hc) <;> (refine zq203 (k := ?_); try exact True.intro))
    all_goals (try clear zx)
    all_goals refine shr_keep hF zle (weak_of_eq ?_ (lt_of_no zno203))
    all_goals simp [bodyShoot, Api_Body.zero, *]
def R148 : Rel := fun args p r => ∃ (s : Lst Api_Body), args = [s.cv Api_Body.cv] ∧ (s.tl ≠ .view) ∧ (s.l.length ≤ 1000000000) ∧ r = .ret (Lst.cv Api_Body.cv (cloneL s p.n)) (if cloneOwn s = true then p.new (.tail s.l.length) else p)
theorem t148 {T : XCall} (h : Has T 148 R148) (s : Lst Api_Body) {p : Hp} (h1 : s.tl ≠ .view) (h2 : s.l.length ≤ 1000000000) : T 148 [s.cv Api_Body.cv] p = .ret (Lst.cv Api_Body.cv (cloneL s p.n)) (if cloneOwn s = true then p.new (.tail s.l.length) else p) := h _ _ _ ⟨s, rfl, h1, h2, rfl⟩
theorem zq148 {A B : Prop} (h : A = B := by ((try simp -dsimp (disch := first | exact zdis | fail) only [zcore, zall, zopm, zop, zcallOp, qop, qbuiltin, ofOpt, List.map, reduceCtorEq, if_true, if_false, ↓reduceIte, zbin, eqRes, qassert, qnum, qshift, qun, kindOf, allocV, List.nil_append, List.append_nil, List.cons_append, List.length_cons, List.length_nil, Nat.reduceAdd, Nat.reduceEqDiff, Nat.reduceLT, Nat.reduceSub, Nat.reduceMul, Int.reduceToNat, Int.reduceLE, Int.reduceLT, Int.reduceEq, Int.reduceNeg, Int.reduceAdd, Int.reduceSub, beq_self_eq_true, cond_true, cond_false, isConstOpd, xpanic, xconv, isBytes, qconv, List.length_map, List.map_nil, List.map_cons, concrete, Option.some.injEq, exists_eq', Option.map_some, Option.map_none, List.getElem?_cons_zero, List.getElem?_cons_succ, zw148, rs148, tt37, ti37, zs_Api_Body, zsl37, h1, h2, zx, hc]); rfl)) (k : B) : A := h ▸ k
set_option maxHeartbeats 8000000 in
theorem c148 : Con C 148 R148 := by
  refine con_of C ?_ ?_ ?_
  · rintro args p r r' ⟨s, h, h1, h2, e⟩ ⟨s', h', h1', h2', e'⟩
    subst e; subst e'; simp_all [Api_Body.inj_iff, sl_inj37]
  · rintro args p r ⟨s, h, h1, h2, rfl⟩; first | (split <;> simp; done) | (simp; done) | (simp only [resM]; split <;> simp; done) | (simp only [resD]; split <;> simp; done) 
  · rintro args p r ⟨s, rfl, h1, h2, rfl⟩
    refine ans_walk C false noExt (tabL C []) xf148 (noExt_ok C) (tabL_ok C _) zc148_ok (Nat.le_of_ble_eq_true (by kernel_rfl)) fun hF => ?_
    generalize tabL C [] = call
    show W C false noExt call zc148 (argE [s.cv Api_Body.cv]) p (endQ C _ _)
    obtain ⟨tl, l, o⟩ := s
    simp only at h2 h1
    cases tl with
    | view => exact absurd rfl h1
    | nil =>
      have := o rfl
      subst this
      (have zx := True.intro; have hc := True.intro; refine zq148 (k := ?_); clear hc; try exact True.intro)
      repeat' ((first | refine condW_b ?_ ?_ | refine wantO_s ?_ ?_ | refine wantD_s _ _ _ _ ?_ ?_ | refine bindO_i ?_ ?_ | refine bindE_i _ _ _ _ ?_ ?_) <;> intro hc <;> (try simp only [zhd] at hc) <;> (try have hw := within_spec hc) <;> (refine zq148 (k := ?_); try exact True.intro))
      all_goals (try clear zx)
      exact shr_keep hF zle (weak_self (lt_of_no (by intro jj; simp [Lst.cv, cloneL, CV.has, CV.hasL])))
    | _ =>
      cases l with
      | nil =>
        (have zx := True.intro; have hc := True.intro; refine zq148 (k := ?_); clear hc; try exact True.intro)
        repeat' ((first | refine condW_b ?_ ?_ | refine wantO_s ?_ ?_ | refine wantD_s _ _ _ _ ?_ ?_ | refine bindO_i ?_ ?_ | refine bindE_i _ _ _ _ ?_ ?_) <;> intro hc <;> (try simp only [zhd] at hc) <;> (try have hw := within_spec hc) <;> (refine zq148 (k := ?_); try exact True.intro))
        all_goals (try clear zx)
        exact shr_keep hF zle (weak_self (lt_of_no (by intro jj; simp [Lst.cv, cloneL, CV.has, CV.hasL])))
      | cons x l =>
        simp only [List.length_cons] at h2
        (have zx := True.intro; have hc := True.intro; refine zq148 (k := ?_); clear hc; try exact True.intro)
        repeat' ((first | refine condW_b ?_ ?_ | refine wantO_s ?_ ?_ | refine wantD_s _ _ _ _ ?_ ?_ | refine bindO_i ?_ ?_ | refine bindE_i _ _ _ _ ?_ ?_) <;> intro hc <;> (try simp only [zhd] at hc) <;> (try have hw := within_spec hc) <;> (refine zq148 (k := ?_); try exact True.intro))
        all_goals (try clear zx)
        simp only [cloneL, cloneOwn, List.isEmpty_cons, Bool.not_false, if_true]
        refine shr_id ?_ (fun k ob h => ?_) (weak_self fun jj hj => ?_)
        · show p.n ≤ p.n + 1; omega
        · by_cases hk : k = p.n
          · subst hk
            rw [Hp.get_new_self] at h; cases h
            exact ⟨Nat.lt_succ_self _, .inr ⟨_, Hp.get_new_self _ _, by simp [XObj.weak]⟩⟩
          · rw [Hp.get_new_ne _ _ hk] at h
            have := hF.dom _ _ h
            exact ⟨Nat.lt_succ_of_lt this, .inl ⟨this, h, by rw [Hp.get_new_ne _ _ hk]; exact h⟩⟩
        · rw [Lst.has _ Api_Body.nohas] at hj
          simp only [Tail.own.injEq] at hj
          subst hj; exact Nat.lt_succ_self _
end Go.Proofs.Ytpchcfkebljopaa
end
section
-- @nole
namespace Go.Proofs.Ytpchcfkebljopaa
open Go.Cl Go Go.RowKit
set_option maxRecDepth 100000
set_option linter.constructorNameAsVariable false
theorem weakL_self {α : Type} {f : α → CV} (h : ∀ x j, ¬ (f x).has j) (n : Nat) (l : List α) : CV.weakL (fun k => k) n (l.map f) (l.map f) := CV.weakL_refl _ fun j hj => (hasL_map h l j hj).elim
theorem Mach.weakS (m : Rule_machine) (n j : Nat) (l : List Api_Body) (hl : ∀ k, m.l_.tl = .own k → k < n) : CV.weak (fun k => k) n ({ m with e_ := { m.e_ with Shots := ⟨.own j, l, nofun⟩ } } : Rule_machine).cv ({ m with e_ := { m.e_ with Shots := ⟨.part, l, nofun⟩ } } : Rule_machine).cv := by
  have h1 : CV.weak (fun k => k) n m.e_.Body.cv m.e_.Body.cv := weak_self (lt_of_no (Api_Body.nohas _))
  have h2 : CV.weak (fun k => k) n m.e_.In.cv m.e_.In.cv := weak_self (lt_of_no (Api_Input.nohas _))
  have h3 : CV.weak (fun k => k) n (Lst.cv Api_Op.cv m.l_) (Lst.cv Api_Op.cv m.l_) := weak_self fun k hk => hl k ((Lst.has _ Api_Op.nohas _ _).1 hk)
  have h4 := weakL_self Api_Body.nohas n l
  have h5 : CV.weak (fun k => k) n (Lst.cv Api_Body.cv ⟨.own j, l, nofun⟩) (Lst.cv Api_Body.cv ⟨.part, l, nofun⟩) := by
    simp only [Lst.cv, CV.weak, Tail.weak, true_and]; exact h4
  simp only [Rule_machine.cv, Rule_Env.cv, CV.weak, CV.weakL]
  exact ⟨⟨h1, h2, trivial, trivial, h5, trivial⟩, h3, trivial, trivial⟩
noncomputable def resM (i : Nat) (m : Rule_machine) (p : Hp) (r : Except Int Rule_machine) : XRes :=
  match r with
  | .ok m' => .ret (.tup []) (p.set i (some (.var sh131 m'.cv)))
  | .error c => .pan (fault c m.at_) p
def R188 : Rel := fun args p r => ∃ (i : Nat) (m : Rule_machine) (o : Api_Op), args = [.ptr i [], o.cv] ∧ (p.t.get i = some (.var sh131 m.cv)) ∧ (0 ≤ o.A ∧ o.A < 4) ∧ (0 ≤ o.B ∧ o.B < 4) ∧ (m.e_.Shots.tl ≠ .view) ∧ (m.e_.Shots.l.length ≤ 1000000) ∧ r = resM i m p (Mach.reckon m o)
theorem t188 {T : XCall} (h : Has T 188 R188) (i : Nat) (m : Rule_machine) (o : Api_Op) {p : Hp} (h1 : p.t.get i = some (.var sh131 m.cv)) (hA : 0 ≤ o.A ∧ o.A < 4) (hB : 0 ≤ o.B ∧ o.B < 4) (h3 : m.e_.Shots.tl ≠ .view) (h4 : m.e_.Shots.l.length ≤ 1000000) : T 188 [.ptr i [], o.cv] p = resM i m p (Mach.reckon m o) := h _ _ _ ⟨i, m, o, rfl, h1, hA, hB, h3, h4, rfl⟩
theorem zdis188 {P : Prop} (h : P := by first | exact zdis | (simp only [Hp.bump_n, Hp.znew_n, Hp.zset_n, List.length_nil, List.length_cons, List.length_append, List.length_map, cloneL_l]; (first | done | omega)) | (simp (disch := first | exact zd1 | (simp only [Hp.bump_n, Hp.znew_n, Hp.zset_n, List.length_nil, List.length_cons, List.length_append, List.length_map, cloneL_l]; (first | done | omega))) only [zheap, zx]; (first | done | rfl)) | fail) : P := h
theorem zq188 {A B : Prop} (h : A = B := by ((try simp -dsimp (disch := first | exact zdis188 | fail) only [zcore, zall, zopm, zop, zcallOp, qop, qbuiltin, ofOpt, List.map, reduceCtorEq, if_true, if_false, ↓reduceIte, zbin, eqRes, qassert, qnum, qshift, qun, kindOf, allocV, List.nil_append, List.append_nil, List.cons_append, List.length_cons, List.length_nil, Nat.reduceAdd, Nat.reduceEqDiff, Nat.reduceLT, Nat.reduceSub, Nat.reduceMul, Int.reduceToNat, Int.reduceLE, Int.reduceLT, Int.reduceEq, Int.reduceNeg, Int.reduceAdd, Int.reduceSub, beq_self_eq_true, cond_true, cond_false, isConstOpd, xpanic, xconv, isBytes, qconv, List.length_map, List.map_nil, List.map_cons, concrete, Option.some.injEq, exists_eq', Option.map_some, Option.map_none, List.getElem?_cons_zero, List.getElem?_cons_succ, zw188, rs188, tt3, tt25, tt29, tt34, tt37, tt39, tt131, ti3, ti25, ti29, ti34, ti37, ti39, ti131, t_186, t_183, t_150, t_202, t_148, t_203, zs_Rule_machine, zs_Rule_Env, zs_Api_Body, zs_Api_Op, zsl37, appT_cl0, appT_cl1, cloneL_l, h1, hA, hB, h3, h4, zx, hc]); rfl)) (k : B) : A := h ▸ k
theorem zno188 {P : Prop} (h : P := by intro jj; simp [CV.has, CV.hasL, fault, Trap_thrown.nohas, Api_Body.nohas, Api_Op.nohas]) : P := h
set_option maxHeartbeats 8000000 in
theorem c188 : Con C 188 R188 := by
  refine con_of C ?_ ?_ ?_
  · rintro args p r r' ⟨i, m, o, h, h1, hA, hB, h3, h4, e⟩ ⟨i', m', o', h', h1', hA', hB', h3', h4', e'⟩
    subst e; subst e'; simp_all [Rule_machine.inj_iff, Rule_Env.inj_iff, Api_Body.inj_iff, Api_Op.inj_iff, sl_inj37]
  · rintro args p r ⟨i, m, o, h, h1, hA, hB, h3, h4, rfl⟩; first | (split <;> simp; done) | (simp; done) | (simp only [resM]; split <;> simp; done) | (simp only [resD]; split <;> simp; done) 
  · rintro args p r ⟨i, m, o, rfl, h1, hA, hB, h3, h4, rfl⟩
    refine ans_walk C false noExt (tabL C [(186, R186), (183, R183), (150, R150), (202, R202), (148, R148), (203, R203)]) xf188 (noExt_ok C) (tabL_ok C _) zc188_ok (Nat.le_of_ble_eq_true (by kernel_rfl)) fun hF => ?_
    have t_186 := @t186 (tabL C [(186, R186), (183, R183), (150, R150), (202, R202), (148, R148), (203, R203)]) (has_head C c186 [(183, R183), (150, R150), (202, R202), (148, R148), (203, R203)])
    have t_183 := @t183 (tabL C [(186, R186), (183, R183), (150, R150), (202, R202), (148, R148), (203, R203)]) (has_tail C _ rfl (has_head C c183 [(150, R150), (202, R202), (148, R148), (203, R203)]))
    have t_150 := @t150 (tabL C [(186, R186), (183, R183), (150, R150), (202, R202), (148, R148), (203, R203)]) (has_tail C _ rfl (has_tail C _ rfl (has_head C c150 [(202, R202), (148, R148), (203, R203)])))
    have t_202 := @t202 (tabL C [(186, R186), (183, R183), (150, R150), (202, R202), (148, R148), (203, R203)]) (has_tail C _ rfl (has_tail C _ rfl (has_tail C _ rfl (has_head C c202 [(148, R148), (203, R203)]))))
    have t_148 := @t148 (tabL C [(186, R186), (183, R183), (150, R150), (202, R202), (148, R148), (203, R203)]) (has_tail C _ rfl (has_tail C _ rfl (has_tail C _ rfl (has_tail C _ rfl (has_head C c148 [(203, R203)])))))
    have t_203 := @t203 (tabL C [(186, R186), (183, R183), (150, R150), (202, R202), (148, R148), (203, R203)]) (has_tail C _ rfl (has_tail C _ rfl (has_tail C _ rfl (has_tail C _ rfl (has_tail C _ rfl (has_head C c203 []))))))
    generalize tabL C [(186, R186), (183, R183), (150, R150), (202, R202), (148, R148), (203, R203)] = call at t_186 t_183 t_150 t_202 t_148 t_203 ⊢
    have hd_h1 := hF.dom _ _ h1
    show W C false noExt call zc188 (argE [.ptr i [], o.cv]) p (endQ C _ _)
    have hlt : ∀ m' : Rule_machine, (m'.e_.Shots.tl = m.e_.Shots.tl ∨ m'.e_.Shots.tl = .part) → m'.l_.tl = m.l_.tl → (XObj.var sh131 m'.cv).lt p.n := by
      intro m' e1 e2 j hj
      refine hF.lt_obj (.arg (a := CV.ptr i []) (by simp) rfl) h1 j ?_
      simp only [XObj.has, Rule_machine.has, Rule_Env.has] at hj ⊢
      rw [e2] at hj
      rcases e1 with e1 | e1 <;> simp_all
    cases hco : cloneOwn m.e_.Shots
    all_goals (have zx := And.intro hco h1; have hc := True.intro; refine zq188 (k := ?_); clear hc; try exact True.intro)
    repeat' ((first | refine condW_b ?_ ?_ | refine wantO_s ?_ ?_ | refine wantD_s _ _ _ _ ?_ ?_ | refine bindO_i ?_ ?_ | refine bindE_i _ _ _ _ ?_ ?_) <;> intro hc <;> (try simp only [zhd] at hc) <;> (try have hw := within_spec hc) <;> (refine zq188 (k := ?_); try exact True.intro))
    all_goals (try clear zx)
    all_goals simp [Mach.reckon, resM, *]
    all_goals (try simp (disch := omega) only [if_pos, if_neg])
    any_goals (first | exact shr_keep hF zle (weak_self (lt_of_no zno188)) | exact shr_keepP hF zle (weak_self (lt_of_no zno188)))
    any_goals (refine shr_set hF (hF.dom _ _ h1) zlm ⟨_, Hp.get_set_self _ _ _, oweak_of_eq rfl (hlt _ (by simp [Mach.set, Mach.body]) (by simp [Mach.set, Mach.body]))⟩ (weak_self (lt_of_no tup0_no)); done)
    all_goals
      refine shr_set hF (hF.dom _ _ h1) zlm ⟨_, Hp.get_set_self _ _ _, rfl, Mach.weakS m _ _ _ fun k hk => ?_⟩ (weak_self (lt_of_no tup0_no))
      exact hF.lt_obj (.arg (a := CV.ptr i []) (by simp) rfl) h1 k (by simp [XObj.has, Rule_machine.has, hk])
noncomputable def resD (i : Nat) (m : Rule_machine) (p : Hp) (r : Except Int (Rule_machine × Int)) : XRes :=
  match r with
  | .ok m' => .ret (I m'.2) (p.set i (some (.var sh131 m'.1.cv)))
  | .error c => .pan (fault c m.at_) p
def R151 : Rel := fun args p r => ∃ (i : Nat) (m : Rule_machine) (o : Api_Op), args = [.ptr i [], o.cv] ∧ (p.t.get i = some (.var sh131 m.cv)) ∧ (0 ≤ m.at_ ∧ m.at_ ≤ 1000000) ∧ (m.e_.Shots.tl ≠ .view) ∧ (m.e_.Shots.l.length ≤ 1000000) ∧ r = resD i m p (Mach.doOp m o)
theorem t151 {T : XCall} (h : Has T 151 R151) (i : Nat) (m : Rule_machine) (o : Api_Op) {p : Hp} (h1 : p.t.get i = some (.var sh131 m.cv)) (h2 : 0 ≤ m.at_ ∧ m.at_ ≤ 1000000) (h3 : m.e_.Shots.tl ≠ .view) (h4 : m.e_.Shots.l.length ≤ 1000000) : T 151 [.ptr i [], o.cv] p = resD i m p (Mach.doOp m o) := h _ _ _ ⟨i, m, o, rfl, h1, h2, h3, h4, rfl⟩
theorem zq151 {A B : Prop} (h : A = B := by ((try simp -dsimp (disch := first | exact zdis | fail) only [zcore, zall, zopm, zop, zcallOp, qop, qbuiltin, ofOpt, List.map, reduceCtorEq, if_true, if_false, ↓reduceIte, zbin, eqRes, qassert, qnum, qshift, qun, kindOf, allocV, List.nil_append, List.append_nil, List.cons_append, List.length_cons, List.length_nil, Nat.reduceAdd, Nat.reduceEqDiff, Nat.reduceLT, Nat.reduceSub, Nat.reduceMul, Int.reduceToNat, Int.reduceLE, Int.reduceLT, Int.reduceEq, Int.reduceNeg, Int.reduceAdd, Int.reduceSub, beq_self_eq_true, cond_true, cond_false, isConstOpd, xpanic, xconv, isBytes, qconv, List.length_map, List.map_nil, List.map_cons, concrete, Option.some.injEq, exists_eq', Option.map_some, Option.map_none, List.getElem?_cons_zero, List.getElem?_cons_succ, zw151, rs151, tt3, tt23, tt29, tt131, ti3, ti23, ti29, ti131, t_84, t_150, t_182, t_183, t_184, t_185, t_186, t_187, t_188, zs_Rule_machine, zs_Rule_Env, zs_Api_Body, zs_Api_Op, zsl23, Mach.set_at, Mach.put_at, resM, h1, h2, h3, h4, zx, hc]); rfl)) (k : B) : A := h ▸ k
theorem zno151 {P : Prop} (h : P := by intro jj; simp [CV.has, CV.hasL, fault, Trap_thrown.nohas, Api_Body.nohas, Api_Op.nohas]) : P := h
set_option maxHeartbeats 8000000 in
theorem c151 : Con C 151 R151 := by
  refine con_of C ?_ ?_ ?_
  · rintro args p r r' ⟨i, m, o, h, h1, h2, h3, h4, e⟩ ⟨i', m', o', h', h1', h2', h3', h4', e'⟩
    subst e; subst e'; simp_all [Rule_machine.inj_iff, Rule_Env.inj_iff, Api_Body.inj_iff, Api_Op.inj_iff, sl_inj23]
  · rintro args p r ⟨i, m, o, h, h1, h2, h3, h4, rfl⟩; first | (split <;> simp; done) | (simp; done) | (simp only [resM]; split <;> simp; done) | (simp only [resD]; split <;> simp; done) 
  · rintro args p r ⟨i, m, o, rfl, h1, h2, h3, h4, rfl⟩
    refine ans_walk C false noExt (tabL C [(84, R84), (150, R150), (182, R182), (183, R183), (184, R184), (185, R185), (186, R186), (187, R187), (188, R188)]) xf151 (noExt_ok C) (tabL_ok C _) zc151_ok (Nat.le_of_ble_eq_true (by kernel_rfl)) fun hF => ?_
    have t_84 := @t84 (tabL C [(84, R84), (150, R150), (182, R182), (183, R183), (184, R184), (185, R185), (186, R186), (187, R187), (188, R188)]) (has_head C c84 [(150, R150), (182, R182), (183, R183), (184, R184), (185, R185), (186, R186), (187, R187), (188, R188)])
    have t_150 := @t150 (tabL C [(84, R84), (150, R150), (182, R182), (183, R183), (184, R184), (185, R185), (186, R186), (187, R187), (188, R188)]) (has_tail C _ rfl (has_head C c150 [(182, R182), (183, R183), (184, R184), (185, R185), (186, R186), (187, R187), (188, R188)]))
    have t_182 := @t182 (tabL C [(84, R84), (150, R150), (182, R182), (183, R183), (184, R184), (185, R185), (186, R186), (187, R187), (188, R188)]) (has_tail C _ rfl (has_tail C _ rfl (has_head C c182 [(183, R183), (184, R184), (185, R185), (186, R186), (187, R187), (188, R188)])))
    have t_183 := @t183 (tabL C [(84, R84), (150, R150), (182, R182), (183, R183), (184, R184), (185, R185), (186, R186), (187, R187), (188, R188)]) (has_tail C _ rfl (has_tail C _ rfl (has_tail C _ rfl (has_head C c183 [(184, R184), (185, R185), (186, R186), (187, R187), (188, R188)]))))
    have t_184 := @t184 (tabL C [(84, R84), (150, R150), (182, R182), (183, R183), (184, R184), (185, R185), (186, R186), (187, R187), (188, R188)]) (has_tail C _ rfl (has_tail C _ rfl (has_tail C _ rfl (has_tail C _ rfl (has_head C c184 [(185, R185), (186, R186), (187, R187), (188, R188)])))))
    have t_185 := @t185 (tabL C [(84, R84), (150, R150), (182, R182), (183, R183), (184, R184), (185, R185), (186, R186), (187, R187), (188, R188)]) (has_tail C _ rfl (has_tail C _ rfl (has_tail C _ rfl (has_tail C _ rfl (has_tail C _ rfl (has_head C c185 [(186, R186), (187, R187), (188, R188)]))))))
    have t_186 := @t186 (tabL C [(84, R84), (150, R150), (182, R182), (183, R183), (184, R184), (185, R185), (186, R186), (187, R187), (188, R188)]) (has_tail C _ rfl (has_tail C _ rfl (has_tail C _ rfl (has_tail C _ rfl (has_tail C _ rfl (has_tail C _ rfl (has_head C c186 [(187, R187), (188, R188)])))))))
    have t_187 := @t187 (tabL C [(84, R84), (150, R150), (182, R182), (183, R183), (184, R184), (185, R185), (186, R186), (187, R187), (188, R188)]) (has_tail C _ rfl (has_tail C _ rfl (has_tail C _ rfl (has_tail C _ rfl (has_tail C _ rfl (has_tail C _ rfl (has_tail C _ rfl (has_head C c187 [(188, R188)]))))))))
    have t_188 := @t188 (tabL C [(84, R84), (150, R150), (182, R182), (183, R183), (184, R184), (185, R185), (186, R186), (187, R187), (188, R188)]) (has_tail C _ rfl (has_tail C _ rfl (has_tail C _ rfl (has_tail C _ rfl (has_tail C _ rfl (has_tail C _ rfl (has_tail C _ rfl (has_tail C _ rfl (has_head C c188 [])))))))))
    generalize tabL C [(84, R84), (150, R150), (182, R182), (183, R183), (184, R184), (185, R185), (186, R186), (187, R187), (188, R188)] = call at t_84 t_150 t_182 t_183 t_184 t_185 t_186 t_187 t_188 ⊢
    have hd_h1 := hF.dom _ _ h1
    show W C false noExt call zc151 (argE [.ptr i [], o.cv]) p (endQ C _ _)
    have hlt : ∀ m' : Rule_machine, (m'.e_.Shots.tl = m.e_.Shots.tl ∨ m'.e_.Shots.tl = .part) → m'.l_.tl = m.l_.tl → (XObj.var sh131 m'.cv).lt p.n := by
      intro m' e1 e2 j hj
      refine hF.lt_obj (.arg (a := CV.ptr i []) (by simp) rfl) h1 j ?_
      simp only [XObj.has, Rule_machine.has, Rule_Env.has] at hj ⊢
      rw [e2] at hj
      rcases e1 with e1 | e1 <;> simp_all
    cases hn : namedOk o with
    | false =>
      (have zx := And.intro hn h1; have hc := True.intro; refine zq151 (k := ?_); clear hc; try exact True.intro)
      repeat' ((first | refine condW_b ?_ ?_ | refine wantO_s ?_ ?_ | refine wantD_s _ _ _ _ ?_ ?_ | refine bindO_i ?_ ?_ | refine bindE_i _ _ _ _ ?_ ?_) <;> intro hc <;> (try simp only [zhd] at hc) <;> (try have hw := within_spec hc) <;> (refine zq151 (k := ?_); try exact True.intro))
      all_goals (try clear zx)
      all_goals simp [Mach.doOp, resD, *]
      all_goals first
        | (first | exact shr_keep hF zle (weak_self (lt_of_no zno151)) | exact shr_keepP hF zle (weak_self (lt_of_no zno151)))
        | exact shr_set hF hd_h1 zlm ⟨_, Hp.get_set_self _ _ _, oweak_of_eq rfl (hlt _ (by first | exact hk.1 | simp [Mach.set, Mach.put, Mach.body]) (by first | (rw [hk.2.1]; done) | simp [Mach.set, Mach.put, Mach.body]))⟩ (weak_self (lt_of_no zno151))
        | exact shr_set hF hd_h1 zlm ⟨_, (by rw [Hp.get_new_ne _ _ (Nat.ne_of_lt hd_h1)]; exact h1), oweak_self (hlt _ (.inl rfl) rfl)⟩ (weak_self (lt_of_no zno151))
        | skip
    | true =>
      have hA := namedOk_A hn
      have hB := namedOk_B hn
      cases hr : Mach.reckon m o with
      | error c =>
        (have zx := And.intro hn (And.intro hr h1); have hc := True.intro; refine zq151 (k := ?_); clear hc; try exact True.intro)
        repeat' ((first | refine condW_b ?_ ?_ | refine wantO_s ?_ ?_ | refine wantD_s _ _ _ _ ?_ ?_ | refine bindO_i ?_ ?_ | refine bindE_i _ _ _ _ ?_ ?_) <;> intro hc <;> (try simp only [zhd] at hc) <;> (try have hw := within_spec hc) <;> (refine zq151 (k := ?_); try exact True.intro))
        all_goals (try clear zx)
        all_goals simp [Mach.doOp, resD, *]
        all_goals first
          | (first | exact shr_keep hF zle (weak_self (lt_of_no zno151)) | exact shr_keepP hF zle (weak_self (lt_of_no zno151)))
          | exact shr_set hF hd_h1 zlm ⟨_, Hp.get_set_self _ _ _, oweak_of_eq rfl (hlt _ (by first | exact hk.1 | simp [Mach.set, Mach.put, Mach.body]) (by first | (rw [hk.2.1]; done) | simp [Mach.set, Mach.put, Mach.body]))⟩ (weak_self (lt_of_no zno151))
          | exact shr_set hF hd_h1 zlm ⟨_, (by rw [Hp.get_new_ne _ _ (Nat.ne_of_lt hd_h1)]; exact h1), oweak_self (hlt _ (.inl rfl) rfl)⟩ (weak_self (lt_of_no zno151))
          | skip
      | ok m' =>
        have hk := Mach.reckon_keeps hr
        have hka := hk.2.2.1
        (have zx := And.intro hn (And.intro hr (And.intro hka h1)); have hc := True.intro; refine zq151 (k := ?_); clear hc; try exact True.intro)
        repeat' ((first | refine condW_b ?_ ?_ | refine wantO_s ?_ ?_ | refine wantD_s _ _ _ _ ?_ ?_ | refine bindO_i ?_ ?_ | refine bindE_i _ _ _ _ ?_ ?_) <;> intro hc <;> (try simp only [zhd] at hc) <;> (try have hw := within_spec hc) <;> (refine zq151 (k := ?_); try exact True.intro))
        all_goals (try clear zx)
        all_goals simp [Mach.doOp, resD, *]
        all_goals first
          | (first | exact shr_keep hF zle (weak_self (lt_of_no zno151)) | exact shr_keepP hF zle (weak_self (lt_of_no zno151)))
          | exact shr_set hF hd_h1 zlm ⟨_, Hp.get_set_self _ _ _, oweak_of_eq rfl (hlt _ (by first | exact hk.1 | simp [Mach.set, Mach.put, Mach.body]) (by first | (rw [hk.2.1]; done) | simp [Mach.set, Mach.put, Mach.body]))⟩ (weak_self (lt_of_no zno151))
          | exact shr_set hF hd_h1 zlm ⟨_, (by rw [Hp.get_new_ne _ _ (Nat.ne_of_lt hd_h1)]; exact h1), oweak_self (hlt _ (.inl rfl) rfl)⟩ (weak_self (lt_of_no zno151))
          | skip
end Go.Proofs.Ytpchcfkebljopaa
end
section
-- @nole
namespace Go.Proofs.Ytpchcfkebljopaa
open Go.Cl Go Go.RowKit
set_option maxRecDepth 100000
set_option linter.constructorNameAsVariable false
noncomputable def resR (i : Nat) (p : Hp) (r : Except (Int × Int) Rule_machine) : XRes :=
  match r with
  | .ok m' => .ret (.tup []) (p.set i (some (.var sh131 m'.cv)))
  | .error c => .pan (fault c.1 c.2) (p.set i none)
def J74 (i : Nat) (p0 : Hp) (m0 : Rule_machine) (k : Nat) (ρ : Env) (p : Hp) : Prop :=
  ∃ (m : Rule_machine), ρ 0 = .ptr i [] ∧ ρ 2 = I (64 - k) ∧ k ≤ 64 ∧ p.t.get i = some (.var sh131 m.cv) ∧ p0.n ≤ p.n ∧ (∀ j o, j ≠ i → p0.t.get j = some o → p.t.get j = some o) ∧ Mach.run k m = Mach.run 64 m0 ∧ 0 ≤ m.at_ ∧ m.at_ ≤ m.l_.l.length ∧ m.l_ = m0.l_ ∧ (m.e_.Shots.tl = m0.e_.Shots.tl ∨ m.e_.Shots.tl = .part) ∧ m.e_.Shots.l.length ≤ m0.e_.Shots.l.length + (64 - k)
def R74 : Rel := fun args p r => ∃ (i : Nat) (m : Rule_machine), args = [.ptr i []] ∧ (p.t.get i = some (.var sh131 m.cv)) ∧ (0 ≤ m.at_ ∧ m.at_ ≤ m.l_.l.length) ∧ (m.l_.l.length ≤ 100000) ∧ (m.e_.Shots.tl ≠ .view) ∧ (m.e_.Shots.l.length ≤ 100000) ∧ r = resR i p (Mach.run 64 m)
theorem t74 {T : XCall} (h : Has T 74 R74) (i : Nat) (m : Rule_machine) {p : Hp} (h1 : p.t.get i = some (.var sh131 m.cv)) (h2 : 0 ≤ m.at_ ∧ m.at_ ≤ m.l_.l.length) (hl : m.l_.l.length ≤ 100000) (h3 : m.e_.Shots.tl ≠ .view) (h4 : m.e_.Shots.l.length ≤ 100000) : T 74 [.ptr i []] p = resR i p (Mach.run 64 m) := h _ _ _ ⟨i, m, rfl, h1, h2, hl, h3, h4, rfl⟩
theorem zq74 {A B : Prop} (h : A = B := by ((try simp -dsimp (disch := first | exact zdis | fail) only [zcore, zall, zopm, zop, zcallOp, qop, qbuiltin, ofOpt, List.map, reduceCtorEq, if_true, if_false, ↓reduceIte, zbin, eqRes, qassert, qnum, qshift, qun, kindOf, allocV, List.nil_append, List.append_nil, List.cons_append, List.length_cons, List.length_nil, Nat.reduceAdd, Nat.reduceEqDiff, Nat.reduceLT, Nat.reduceSub, Nat.reduceMul, Int.reduceToNat, Int.reduceLE, Int.reduceLT, Int.reduceEq, Int.reduceNeg, Int.reduceAdd, Int.reduceSub, beq_self_eq_true, cond_true, cond_false, isConstOpd, xpanic, xconv, isBytes, qconv, List.length_map, List.map_nil, List.map_cons, concrete, Option.some.injEq, exists_eq', Option.map_some, Option.map_none, List.getElem?_cons_zero, List.getElem?_cons_succ, zw74, rs74, tt3, tt23, tt29, tt131, ti3, ti23, ti29, ti131, t_150, t_151, zs_Rule_machine, zs_Api_Op, zsl23, resD, h1, h2, hl, h3, h4, zx, hc]); rfl)) (k : B) : A := h ▸ k
theorem zno74 {P : Prop} (h : P := by intro jj; simp [CV.has, CV.hasL, fault, Trap_thrown.nohas, Api_Op.nohas]) : P := h
set_option maxHeartbeats 8000000 in
theorem c74 : Con C 74 R74 := by
  refine con_of C ?_ ?_ ?_
  · rintro args p r r' ⟨i, m, h, h1, h2, hl, h3, h4, e⟩ ⟨i', m', h', h1', h2', hl', h3', h4', e'⟩
    subst e; subst e'; simp_all [Rule_machine.inj_iff, Api_Op.inj_iff, sl_inj23]
  · rintro args p r ⟨i, m, h, h1, h2, hl, h3, h4, rfl⟩; first | (split <;> simp; done) | (simp; done) | (simp only [resM]; split <;> simp; done) | (simp only [resD]; split <;> simp; done)  | (unfold resR; split <;> simp; done)
  · rintro args p r ⟨i, m, rfl, h1, h2, hl, h3, h4, rfl⟩
    refine ans_walk C false noExt (tabL C [(150, R150), (151, R151)]) xf74 (noExt_ok C) (tabL_ok C _) zc74_ok (Nat.le_of_ble_eq_true (by kernel_rfl)) fun hF => ?_
    have t_150 := @t150 (tabL C [(150, R150), (151, R151)]) (has_head C c150 [(151, R151)])
    have t_151 := @t151 (tabL C [(150, R150), (151, R151)]) (has_tail C _ rfl (has_head C c151 []))
    generalize tabL C [(150, R150), (151, R151)] = call at t_150 t_151 ⊢
    have hd_h1 := hF.dom _ _ h1
    show W C false noExt call zc74 (argE [.ptr i []]) p (endQ C _ _)
    (have zx := h1; have hc := True.intro; refine zq74 (k := ?_); clear hc; try exact True.intro)
    repeat' ((first | refine condW_b ?_ ?_ | refine wantO_s ?_ ?_ | refine wantD_s _ _ _ _ ?_ ?_ | refine bindO_i ?_ ?_ | refine bindE_i _ _ _ _ ?_ ?_) <;> intro hc <;> (try simp only [zhd] at hc) <;> (try have hw := within_spec hc) <;> (refine zq74 (k := ?_); try exact True.intro))
    all_goals (try clear zx)
    show W C false noExt call (ZC.loop zn74_4) _ _ _
    refine W_loop C false noExt call zn74_4 _ _ _ (J74 i p m) 64 ⟨m, rfl, rfl, by omega, h1, Nat.le_refl _, fun _ _ _ h => h, rfl, h2.1, h2.2, rfl, .inl rfl, by omega⟩ ?_
    rintro k ρ q ⟨m', e0, e2, hk, hg, hn, hle, hrun, ha, ha', hml, htl, hsl⟩
    have hi : i < q.n := Nat.lt_of_lt_of_le hd_h1 hn
    have htv : m'.e_.Shots.tl ≠ .view := by rcases htl with h | h <;> rw [h] <;> first | exact h3 | simp
    by_cases hlt : m'.at_ < m'.l_.l.length
    all_goals rw [hml] at hlt ha'
    · cases k with
      | zero =>
        have hs : ¬ (64 - ((0 : Nat) : Int) < 64) := by omega
        (have zx := And.intro e0 (And.intro e2 (And.intro hg (And.intro hml (And.intro hlt (And.intro hs h1))))); have hc := True.intro; refine zq74 (k := ?_); clear hc; try exact True.intro)
        repeat' ((first | refine condW_b ?_ ?_ | refine wantO_s ?_ ?_ | refine wantD_s _ _ _ _ ?_ ?_ | refine bindO_i ?_ ?_ | refine bindE_i _ _ _ _ ?_ ?_) <;> intro hc <;> (try simp only [zhd] at hc) <;> (try have hw := within_spec hc) <;> (refine zq74 (k := ?_); try exact True.intro))
        all_goals (try clear zx)
        have hr : Mach.run 0 m' = .error (5, m'.at_) := by simp [Mach.run, hml, hlt]
        rw [← hrun, hr]
        exact shr_dropP hF (fun j o hj h => hle j o hj h) (weak_self (lt_of_no zno74))
      | succ k =>
        have hs : 64 - ((k + 1 : Nat) : Int) < 64 := by omega
        cases hdo : Mach.doOp m' (nth m.l_.l m'.at_.toNat) with
        | error c =>
          (have zx := And.intro e0 (And.intro e2 (And.intro hg (And.intro hml (And.intro hlt (And.intro hs (And.intro hdo h1)))))); have hc := True.intro; refine zq74 (k := ?_); clear hc; try exact True.intro)
          repeat' ((first | refine condW_b ?_ ?_ | refine wantO_s ?_ ?_ | refine wantD_s _ _ _ _ ?_ ?_ | refine bindO_i ?_ ?_ | refine bindE_i _ _ _ _ ?_ ?_) <;> intro hc <;> (try simp only [zhd] at hc) <;> (try have hw := within_spec hc) <;> (refine zq74 (k := ?_); try exact True.intro))
          all_goals (try clear zx)
          have hr : Mach.run (k + 1) m' = .error (c, m'.at_) := by simp [Mach.run, hml, hlt, hdo]
          rw [← hrun, hr]
          exact shr_dropP hF (fun j o hj h => hle j o hj h) (weak_self (lt_of_no zno74))
        | ok r =>
          obtain ⟨m2, n⟩ := r
          have hk2 := Mach.doOp_keeps hdo ha (by rw [hml]; exact hlt)
          (have zx := And.intro e0 (And.intro e2 (And.intro hg (And.intro hml (And.intro hlt (And.intro hs (And.intro hdo h1)))))); have hc := True.intro; refine zq74 (k := ?_); clear hc; try exact True.intro)
          repeat' ((first | refine condW_b ?_ ?_ | refine wantO_s ?_ ?_ | refine wantD_s _ _ _ _ ?_ ?_ | refine bindO_i ?_ ?_ | refine bindE_i _ _ _ _ ?_ ?_) <;> intro hc <;> (try simp only [zhd] at hc) <;> (try have hw := within_spec hc) <;> (refine zq74 (k := ?_); try exact True.intro))
          all_goals (try clear zx)
          have hr : Mach.run (k + 1) m' = Mach.run k { m2 with at_ := n } := by
            rw [Mach.run]; simp [hml, hlt, hdo]
          obtain ⟨k1, k2, k3, k4, k5, k6⟩ := hk2
          refine ⟨k, Nat.lt_succ_self k, { m2 with at_ := n }, by simp [put_at, zput_none, e0], by simp [put_at, zput_none]; omega, by omega, by simp only [Hp.bump_get, Hp.get_set_self], by simp only [Hp.bump_n, Hp.zset_n]; omega, fun j o hj h => ?_, by rw [← hr, hrun], k5, by rw [k2]; exact k6, by rw [k2, hml], ?_, by show m2.e_.Shots.l.length ≤ _; omega⟩
          · simp (disch := assumption) only [Hp.bump_get, Hp.get_set_ne]
            exact hle j o hj h
          · show m2.e_.Shots.tl = _ ∨ m2.e_.Shots.tl = _
            rcases k1 with h | h
            · rw [h]; exact htl
            · exact .inr h
    · (have zx := And.intro e0 (And.intro e2 (And.intro hg (And.intro hml (And.intro hlt h1)))); have hc := True.intro; refine zq74 (k := ?_); clear hc; try exact True.intro)
      repeat' ((first | refine condW_b ?_ ?_ | refine wantO_s ?_ ?_ | refine wantD_s _ _ _ _ ?_ ?_ | refine bindO_i ?_ ?_ | refine bindE_i _ _ _ _ ?_ ?_) <;> intro hc <;> (try simp only [zhd] at hc) <;> (try have hw := within_spec hc) <;> (refine zq74 (k := ?_); try exact True.intro))
      all_goals (try clear zx)
      have hr : Mach.run k m' = .ok m' := by cases k <;> simp [Mach.run, hml, hlt]
      rw [← hrun, hr]
      refine shr_set hF hd_h1 (fun j o hj h => hle j o hj h) ⟨_, hg, oweak_self fun j hj => hF.lt_obj (.arg (a := CV.ptr i []) (by simp) rfl) h1 j ?_⟩ (weak_self (lt_of_no zno74))
      simp only [XObj.has, Rule_machine.has, Rule_Env.has] at hj ⊢
      rw [hml] at hj
      rcases htl with e | e <;> simp_all
end Go.Proofs.Ytpchcfkebljopaa
end
section
namespace Go.Proofs.Ytpchcfkebljopaa
open Go.Cl Go Go.RowKit
set_option maxRecDepth 100000
noncomputable def zn73_1 : ZC := ZC.reg [⟨some 2, .alloc 44, none, false⟩, ⟨some 3, .alloc 4, none, true⟩]
noncomputable def zn73_4 : ZC := ZC.reg [⟨some 4, .move (.tmp 0), none, false⟩, ⟨some 5, .binOp .eql 1 (.tmp 4) (.const .nilFunc) 1, none, true⟩]
noncomputable def zn73_7 : ZC := ZC.reg [⟨some 6, .build 44 ⟨[]⟩, none, false⟩, ⟨none, .store 44 (.tmp 2) (.tmp 6), none, false⟩, ⟨none, .store 4 (.tmp 3) (.const (.bool false)), none, true⟩]
noncomputable def zn73_6 : ZC := ZC.seq zn73_7 ZC.ret
noncomputable def zn73_5 : ZC := ZC.cond (.tmp 5) zn73_6 ZC.skip
noncomputable def zn73_3 : ZC := ZC.seq zn73_4 zn73_5
noncomputable def zn73_9 : ZC := ZC.reg [⟨some 7, .makeFunc (.func 149) ⟨[]⟩ ⟨[.tmp 2, .tmp 3]⟩, none, false⟩, ⟨none, .defer ⟨.value (.tmp 7), ⟨[]⟩, ⟨[]⟩⟩, none, true⟩]
noncomputable def zn73_11 : ZC := ZC.reg [⟨some 8, .move (.tmp 0), none, false⟩, ⟨some 9, .call ⟨.value (.tmp 8), ⟨[]⟩, ⟨[]⟩⟩, none, true⟩]
noncomputable def zn73_13 : ZC := ZC.reg [⟨some 10, .build 44 ⟨[]⟩, none, false⟩, ⟨none, .store 44 (.tmp 2) (.tmp 10), none, false⟩, ⟨none, .store 4 (.tmp 3) (.const (.bool false)), none, true⟩]
noncomputable def zn73_12 : ZC := ZC.seq zn73_13 ZC.ret
noncomputable def zn73_10 : ZC := ZC.seq zn73_11 zn73_12
noncomputable def zn73_8 : ZC := ZC.seq zn73_9 zn73_10
noncomputable def zn73_2 : ZC := ZC.seq zn73_3 zn73_8
noncomputable def zn73_0 : ZC := ZC.seq zn73_1 zn73_2
noncomputable def zc73 : ZC := zn73_0
set_option linter.defProp false in
def zw73 := And.intro (zunf C zc73.eq_1) <| And.intro (zunf C zn73_1.eq_1) <| And.intro (zunf C zn73_4.eq_1) <| And.intro (zunf C zn73_7.eq_1) <| And.intro (zunf C zn73_6.eq_1) <| And.intro (zunf C zn73_5.eq_1) <| And.intro (zunf C zn73_3.eq_1) <| And.intro (zunf C zn73_9.eq_1) <| And.intro (zunf C zn73_11.eq_1) <| And.intro (zunf C zn73_13.eq_1) <| And.intro (zunf C zn73_12.eq_1) <| And.intro (zunf C zn73_10.eq_1) <| And.intro (zunf C zn73_8.eq_1) <| And.intro (zunf C zn73_2.eq_1) <| (zunf C zn73_0.eq_1)
theorem rs73 : (xfOf Try.f73).rs = [.cell 2 44, .cell 3 4] := by kernel_rfl
noncomputable def zn149_1 : ZC := ZC.reg [⟨some 5, .call ⟨.builtin .recover, ⟨[]⟩, ⟨[]⟩⟩, none, true⟩]
noncomputable def zn149_4 : ZC := ZC.reg [⟨some 7, .binOp .eql 20 (.tmp 5) (.const .nilIface) 20, none, true⟩]
noncomputable def zn149_6 : ZC := ZC.reg [⟨some 2, .assign (.tmp 5), none, true⟩]
noncomputable def zn149_8 : ZC := ZC.reg [⟨some 8, .typeAssert (.tmp 5) 20 194 true, none, false⟩, ⟨some 9, .extract (.tmp 8) 1, none, false⟩, ⟨some 10, .extract (.tmp 8) 0, none, true⟩]
noncomputable def zn149_11 : ZC := ZC.reg [⟨some 3, .alloc 194, none, false⟩, ⟨none, .store 194 (.tmp 3) (.tmp 10), none, true⟩]
noncomputable def zn149_12 : ZC := ZC.reg [⟨some 11, .fieldAddr 194 (.tmp 3) 0, none, false⟩, ⟨some 12, .load 44 (.tmp 11), none, false⟩, ⟨none, .store 44 (.tmp 0) (.tmp 12), none, false⟩, ⟨none, .store 4 (.tmp 1) (.const (.bool true)), none, true⟩]
noncomputable def zn149_10 : ZC := ZC.seq zn149_11 zn149_12
noncomputable def zn149_14 : ZC := ZC.reg [⟨some 4, .assign (.tmp 5), none, true⟩]
noncomputable def zn149_15 : ZC := ZC.reg [⟨some 6, .move (.tmp 4), none, false⟩, ⟨none, .panic (.tmp 6), none, true⟩]
noncomputable def zn149_13 : ZC := ZC.seq zn149_14 zn149_15
noncomputable def zn149_9 : ZC := ZC.cond (.tmp 9) zn149_10 zn149_13
noncomputable def zn149_7 : ZC := ZC.seq zn149_8 zn149_9
noncomputable def zn149_5 : ZC := ZC.cond (.tmp 7) zn149_6 zn149_7
noncomputable def zn149_3 : ZC := ZC.seq zn149_4 zn149_5
noncomputable def zn149_2 : ZC := ZC.block 0 zn149_3
noncomputable def zn149_0 : ZC := ZC.seq zn149_1 zn149_2
noncomputable def zc149 : ZC := zn149_0
set_option linter.defProp false in
def zw149 := And.intro (zunf C zc149.eq_1) <| And.intro (zunf C zn149_1.eq_1) <| And.intro (zunf C zn149_4.eq_1) <| And.intro (zunf C zn149_6.eq_1) <| And.intro (zunf C zn149_8.eq_1) <| And.intro (zunf C zn149_11.eq_1) <| And.intro (zunf C zn149_12.eq_1) <| And.intro (zunf C zn149_10.eq_1) <| And.intro (zunf C zn149_14.eq_1) <| And.intro (zunf C zn149_15.eq_1) <| And.intro (zunf C zn149_13.eq_1) <| And.intro (zunf C zn149_9.eq_1) <| And.intro (zunf C zn149_7.eq_1) <| And.intro (zunf C zn149_5.eq_1) <| And.intro (zunf C zn149_3.eq_1) <| And.intro (zunf C zn149_2.eq_1) <| (zunf C zn149_0.eq_1)
end Go.Proofs.Ytpchcfkebljopaa
end
section
namespace Go.Proofs.Ytpchcfkebljopaa
open Go.Cl Go Go.RowKit
noncomputable def xc73 : XC := ⟨catA (Try.f73.body.getD .skip), catB (Try.f73.body.getD .skip), catP (Try.f73.body.getD .skip), Try.f73.results.toList, Try.f73.ntmps, 7, 149, [2, 3], 5, catR (Try.f149.body.getD .skip), Try.f149.ntmps⟩
theorem xc73_ok : XCok C 73 xc73 where
  fn := ⟨Try.f73, _, _, _, _, _, _, _, _, by kernel_rfl, rfl, rfl, rfl⟩
  cl := ⟨Try.f149, _, _, _, _, _, by kernel_rfl, rfl, rfl, rfl, by kernel_rfl⟩
  ok := ⟨by kernel_rfl, by kernel_rfl, by kernel_rfl, by kernel_rfl, by kernel_rfl⟩
  lt := ⟨of_decide_eq_true (by kernel_rfl), of_decide_eq_true (by kernel_rfl), fun t ht => of_decide_eq_true (List.all_eq_true.1 (show xc73.caps.all (fun t => decide (t < xc73.n)) = true by kernel_rfl) t ht), of_decide_eq_true (by kernel_rfl), of_decide_eq_true (by kernel_rfl)⟩
theorem xc73_n : ∃ fn, C.P.funcs[73]? = some fn ∧ fn.body.isNone = false ∧ (fn.name == "runtime.NumGoroutine") = false := ⟨Try.f73, by kernel_rfl, by kernel_rfl, by kernel_rfl⟩
theorem xc73_a : zcode xc73.a = some zn73_1 := by kernel_rfl
theorem xc73_b : zcode xc73.b = some zn73_3 := by kernel_rfl
theorem xc73_p : zcode xc73.post = some zn73_10 := by kernel_rfl
theorem xc73_r : zcode xc73.rest = some zn149_2 := by kernel_rfl
theorem xc73_rs : xc73.rs = [.cell 2 44, .cell 3 4] := by kernel_rfl
theorem xc73_z : xc73.k = 7 ∧ xc73.g = 149 ∧ xc73.caps = [2, 3] ∧ xc73.gd = 5 ∧ xc73.rs = [.cell 2 44, .cell 3 4] ∧ (∀ p : Hp, Cl.xalloc C p 4 = .ret (.ptr p.n []) (p.new (.var .s (Bo false)))) := ⟨rfl, rfl, rfl, rfl, xc73_rs, fun p => by simp only [Cl.xalloc, tt4, ti4]⟩
end Go.Proofs.Ytpchcfkebljopaa
end
section
-- @nole
namespace Go.Proofs.Ytpchcfkebljopaa
open Go.Cl Go Go.RowKit
set_option maxRecDepth 100000
set_option linter.constructorNameAsVariable false
noncomputable def resC (i : Nat) (p : Hp) (r : Except (Int × Int) Rule_machine) : XRes :=
  match r with
  | .ok m' => .ret (.tup [(Trap_Fault.mk 0 0).cv, Bo false]) (p.set i (some (.var sh131 m'.cv)))
  | .error c => .ret (.tup [(Trap_Fault.mk c.1 c.2).cv, Bo true]) (p.set i none)
def R73 : Rel := fun args p r => ∃ (i : Nat) (m : Rule_machine), args = [.fn 74 [.ptr i []] []] ∧ (p.t.get i = some (.var sh131 m.cv)) ∧ (0 ≤ m.at_ ∧ m.at_ ≤ m.l_.l.length) ∧ (m.l_.l.length ≤ 100000) ∧ (m.e_.Shots.tl ≠ .view) ∧ (m.e_.Shots.l.length ≤ 100000) ∧ r = resC i p (Mach.run 64 m)
theorem t73 {T : XCall} (h : Has T 73 R73) (i : Nat) (m : Rule_machine) {p : Hp} (h1 : p.t.get i = some (.var sh131 m.cv)) (h2 : 0 ≤ m.at_ ∧ m.at_ ≤ m.l_.l.length) (hl : m.l_.l.length ≤ 100000) (h3 : m.e_.Shots.tl ≠ .view) (h4 : m.e_.Shots.l.length ≤ 100000) : T 73 [.fn 74 [.ptr i []] []] p = resC i p (Mach.run 64 m) := h _ _ _ ⟨i, m, rfl, h1, h2, hl, h3, h4, rfl⟩
theorem zq73 {A B : Prop} (h : A = B := by ((try simp -dsimp (disch := first | exact zdis | fail) only [zcore, zall, zopm, zop, zcallOp, qop, qbuiltin, ofOpt, List.map, reduceCtorEq, if_true, if_false, ↓reduceIte, zbin, eqRes, qassert, qnum, qshift, qun, kindOf, allocV, List.nil_append, List.append_nil, List.cons_append, List.length_cons, List.length_nil, Nat.reduceAdd, Nat.reduceEqDiff, Nat.reduceLT, Nat.reduceSub, Nat.reduceMul, Int.reduceToNat, Int.reduceLE, Int.reduceLT, Int.reduceEq, Int.reduceNeg, Int.reduceAdd, Int.reduceSub, beq_self_eq_true, cond_true, cond_false, isConstOpd, xpanic, xconv, isBytes, qconv, List.length_map, List.map_nil, List.map_cons, concrete, Option.some.injEq, exists_eq', Option.map_some, Option.map_none, List.getElem?_cons_zero, List.getElem?_cons_succ, zw73, rs73, xc73_z, zw149, qcA_n, qcB_n, qcP_n, qcP_r, qcP_p, qcE_n, qcE_r, tt1, tt4, tt5, tt20, tt44, tt194, ti1, ti4, ti5, ti20, ti44, ti194, t_74, zs_Trap_Fault, zs_Trap_thrown, zs_Rule_machine, resR, fault, h1, h2, hl, h3, h4, zx, hc]); rfl)) (k : B) : A := h ▸ k
theorem zno73 {P : Prop} (h : P := by intro jj; simp [CV.has, CV.hasL, fault, Trap_thrown.nohas, Trap_Fault.nohas, Trap_thrown.nohas]) : P := h
theorem zge73 {P : Prop} (h : P := by simp (disch := first | exact zdl | fail) only [zheap, h1]; first | done | rfl) : P := h
set_option maxHeartbeats 8000000 in
theorem c73 : Con C 73 R73 := by
  refine con_of C ?_ ?_ ?_
  · rintro args p r r' ⟨i, m, h, h1, h2, hl, h3, h4, e⟩ ⟨i', m', h', h1', h2', hl', h3', h4', e'⟩
    subst e; subst e'; simp_all [Trap_Fault.inj_iff, Trap_thrown.inj_iff, Rule_machine.inj_iff]
  · rintro args p r ⟨i, m, h, h1, h2, hl, h3, h4, rfl⟩; first | (split <;> simp; done) | (simp; done) | (simp only [resM]; split <;> simp; done) | (simp only [resD]; split <;> simp; done)  | (unfold resC; split <;> simp; done)
  · rintro args p r ⟨i, m, rfl, h1, h2, hl, h3, h4, rfl⟩
    refine ans_catch C false noExt (tabL C [(74, R74)]) xc73_ok (noExt_ok C) (tabL_ok C _) xc73_a xc73_b xc73_p xc73_r (by kernel_rfl) (Nat.le_of_ble_eq_true (by kernel_rfl)) xc73_n fun hF => ?_
    have t_74 := @t74 (tabL C [(74, R74)]) (has_head C c74 [])
    generalize tabL C [(74, R74)] = call at t_74 ⊢
    have hd_h1 := hF.dom _ _ h1
    show W C false noExt call zn73_1 (argE [.fn 74 [.ptr i []] []]) p (qcA C false noExt call zn73_3 zn73_10 zn149_2 xc73 _)
    cases hr : Mach.run 64 m with
    | ok m' =>
      (have zx := And.intro hr h1; have hc := True.intro; refine zq73 (k := ?_); clear hc; try exact True.intro)
      repeat' ((first | refine condW_b ?_ ?_ | refine wantO_s ?_ ?_ | refine wantD_s _ _ _ _ ?_ ?_ | refine bindO_i ?_ ?_ | refine bindE_i _ _ _ _ ?_ ?_) <;> intro hc <;> (try simp only [zhd] at hc) <;> (try have hw := within_spec hc) <;> (refine zq73 (k := ?_); try exact True.intro))
      all_goals (try clear zx)
      obtain ⟨k1, k2⟩ := Mach.run_keeps 64 m m' hr h2.1
      refine shr_set hF hd_h1 zlm ⟨_, zge73, oweak_self fun j hj => hF.lt_obj (.arg (a := CV.fn 74 [CV.ptr i []] []) (by simp) (by simp [CV.has, CV.hasL])) h1 j ?_⟩ (weak_self (lt_of_no zno73))
      simp only [XObj.has, Rule_machine.has, Rule_Env.has] at hj ⊢
      rw [k2] at hj
      rcases k1 with e | e <;> simp_all
    | error c =>
      (have zx := And.intro hr h1; have hc := True.intro; refine zq73 (k := ?_); clear hc; try exact True.intro)
      repeat' ((first | refine condW_b ?_ ?_ | refine wantO_s ?_ ?_ | refine wantD_s _ _ _ _ ?_ ?_ | refine bindO_i ?_ ?_ | refine bindE_i _ _ _ _ ?_ ?_) <;> intro hc <;> (try simp only [zhd] at hc) <;> (try have hw := within_spec hc) <;> (refine zq73 (k := ?_); try exact True.intro))
      all_goals (try clear zx)
      exact shr_drop hF zlm (weak_self (lt_of_no zno73))
def R72 : Rel := fun args p r => ∃ (e : Rule_Env), args = [e.cv] ∧ (e.Shots.tl ≠ .view) ∧ (e.Shots.l.length ≤ 1000000) ∧ r = .ret (copiedE e).cv p
theorem t72 {T : XCall} (h : Has T 72 R72) (e : Rule_Env) {p : Hp} (h1 : e.Shots.tl ≠ .view) (h2 : e.Shots.l.length ≤ 1000000) : T 72 [e.cv] p = .ret (copiedE e).cv p := h _ _ _ ⟨e, rfl, h1, h2, rfl⟩
theorem zq72 {A B : Prop} (h : A = B := by ((try simp -dsimp (disch := first | exact zdis | fail) only [zcore, zall, zopm, zop, zcallOp, qop, qbuiltin, ofOpt, List.map, reduceCtorEq, if_true, if_false, ↓reduceIte, zbin, eqRes, qassert, qnum, qshift, qun, kindOf, allocV, List.nil_append, List.append_nil, List.cons_append, List.length_cons, List.length_nil, Nat.reduceAdd, Nat.reduceEqDiff, Nat.reduceLT, Nat.reduceSub, Nat.reduceMul, Int.reduceToNat, Int.reduceLE, Int.reduceLT, Int.reduceEq, Int.reduceNeg, Int.reduceAdd, Int.reduceSub, beq_self_eq_true, cond_true, cond_false, isConstOpd, xpanic, xconv, isBytes, qconv, List.length_map, List.map_nil, List.map_cons, concrete, Option.some.injEq, exists_eq', Option.map_some, Option.map_none, List.getElem?_cons_zero, List.getElem?_cons_succ, zw72, rs72, tt37, tt39, ti37, ti39, t_148, zs_Rule_Env, zs_Api_Body, zsl37, h1, h2, zx, hc]); rfl)) (k : B) : A := h ▸ k
set_option maxHeartbeats 8000000 in
theorem c72 : Con C 72 R72 := by
  refine con_of C ?_ ?_ ?_
  · rintro args p r r' ⟨e, h, h1, h2, e⟩ ⟨e', h', h1', h2', e'⟩
    subst e; subst e'; simp_all [Rule_Env.inj_iff, Api_Body.inj_iff, sl_inj37]
  · rintro args p r ⟨e, h, h1, h2, rfl⟩; first | (split <;> simp; done) | (simp; done) | (simp only [resM]; split <;> simp; done) | (simp only [resD]; split <;> simp; done) 
  · rintro args p r ⟨e, rfl, h1, h2, rfl⟩
    refine ans_walk C false noExt (tabL C [(148, R148)]) xf72 (noExt_ok C) (tabL_ok C _) zc72_ok (Nat.le_of_ble_eq_true (by kernel_rfl)) fun hF => ?_
    have t_148 := @t148 (tabL C [(148, R148)]) (has_head C c148 [])
    generalize tabL C [(148, R148)] = call at t_148 ⊢
    show W C false noExt call zc72 (argE [e.cv]) p (endQ C _ _)
    cases hco : cloneOwn e.Shots
    all_goals (have zx := hco; have hc := True.intro; refine zq72 (k := ?_); clear hc; try exact True.intro)
    repeat' ((first | refine condW_b ?_ ?_ | refine wantO_s ?_ ?_ | refine wantD_s _ _ _ _ ?_ ?_ | refine bindO_i ?_ ?_ | refine bindE_i _ _ _ _ ?_ ?_) <;> intro hc <;> (try simp only [zhd] at hc) <;> (try have hw := within_spec hc) <;> (refine zq72 (k := ?_); try exact True.intro))
    all_goals (try clear zx)
    all_goals
      refine shr_keep hF zle ?_
      have h1 : CV.weak (fun k => k) p.n e.Body.cv e.Body.cv := weak_self (lt_of_no (Api_Body.nohas _))
      have h2 : CV.weak (fun k => k) p.n e.In.cv e.In.cv := weak_self (lt_of_no (Api_Input.nohas _))
      have h5 := weak_clone Api_Body.nohas e.Shots (p.n + 1 + 1) p.n
      simp only [copiedE, Rule_Env.cv, CV.weak, CV.weakL]
      exact ⟨h1, h2, trivial, trivial, h5, trivial⟩
def R25 : Rel := fun args p r => ∃ (l : Lst Api_Op) (e : Rule_Env), args = [l.cv Api_Op.cv, e.cv] ∧ (l.l.length ≤ 100000) ∧ (e.Shots.tl ≠ .view) ∧ (e.Shots.l.length ≤ 100000) ∧ r = .ret (.tup [(ruleRun l e).1.cv, (ruleRun l e).2.1.cv, Bo (ruleRun l e).2.2]) p
theorem t25 {T : XCall} (h : Has T 25 R25) (l : Lst Api_Op) (e : Rule_Env) {p : Hp} (hl : l.l.length ≤ 100000) (h1 : e.Shots.tl ≠ .view) (h2 : e.Shots.l.length ≤ 100000) : T 25 [l.cv Api_Op.cv, e.cv] p = .ret (.tup [(ruleRun l e).1.cv, (ruleRun l e).2.1.cv, Bo (ruleRun l e).2.2]) p := h _ _ _ ⟨l, e, rfl, hl, h1, h2, rfl⟩
theorem zdis25 {P : Prop} (h : P := by first | exact zdis | (simp only [Hp.bump_n, Hp.znew_n, Hp.zset_n, List.length_nil, List.length_cons, List.length_append, List.length_map, cloneP_l]; (first | done | omega)) | (simp (disch := first | exact zd1 | (simp only [Hp.bump_n, Hp.znew_n, Hp.zset_n, List.length_nil, List.length_cons, List.length_append, List.length_map, cloneP_l]; (first | done | omega))) only [zheap, zx]; (first | done | rfl)) | fail) : P := h
theorem zq25 {A B : Prop} (h : A = B := by ((try simp -dsimp (disch := first | exact zdis25 | fail) only [zcore, zall, zopm, zop, zcallOp, qop, qbuiltin, ofOpt, List.map, reduceCtorEq, if_true, if_false, ↓reduceIte, zbin, eqRes, qassert, qnum, qshift, qun, kindOf, allocV, List.nil_append, List.append_nil, List.cons_append, List.length_cons, List.length_nil, Nat.reduceAdd, Nat.reduceEqDiff, Nat.reduceLT, Nat.reduceSub, Nat.reduceMul, Int.reduceToNat, Int.reduceLE, Int.reduceLT, Int.reduceEq, Int.reduceNeg, Int.reduceAdd, Int.reduceSub, beq_self_eq_true, cond_true, cond_false, isConstOpd, xpanic, xconv, isBytes, qconv, List.length_map, List.map_nil, List.map_cons, concrete, Option.some.injEq, exists_eq', Option.map_some, Option.map_none, List.getElem?_cons_zero, List.getElem?_cons_succ, zw25, rs25, tt3, tt34, tt39, tt44, tt131, ti3, ti34, ti39, ti44, ti131, t_24, t_72, t_73, zs_Rule_machine, zs_Rule_Env, zs_Api_Body, zs_Trap_Fault, resC, hl, h1, h2, zx, hc]); rfl)) (k : B) : A := h ▸ k
set_option maxHeartbeats 8000000 in
theorem c25 : Con C 25 R25 := by
  refine con_of C ?_ ?_ ?_
  · rintro args p r r' ⟨l, e, h, hl, h1, h2, e⟩ ⟨l', e', h', hl', h1', h2', e'⟩
    subst e; subst e'; simp_all [Rule_machine.inj_iff, Rule_Env.inj_iff, Api_Body.inj_iff, Trap_Fault.inj_iff, sl_inj23]
  · rintro args p r ⟨l, e, h, hl, h1, h2, rfl⟩; first | (split <;> simp; done) | (simp; done) | (simp only [resM]; split <;> simp; done) | (simp only [resD]; split <;> simp; done) 
  · rintro args p r ⟨l, e, rfl, hl, h1, h2, rfl⟩
    refine ans_walk C false noExt (tabL C [(24, R24), (72, R72), (73, R73)]) xf25 (noExt_ok C) (tabL_ok C _) zc25_ok (Nat.le_of_ble_eq_true (by kernel_rfl)) fun hF => ?_
    have t_24 := @t24 (tabL C [(24, R24), (72, R72), (73, R73)]) (has_head C c24 [(72, R72), (73, R73)])
    have t_72 := @t72 (tabL C [(24, R24), (72, R72), (73, R73)]) (has_tail C _ rfl (has_head C c72 [(73, R73)]))
    have t_73 := @t73 (tabL C [(24, R24), (72, R72), (73, R73)]) (has_tail C _ rfl (has_tail C _ rfl (has_head C c73 [])))
    generalize tabL C [(24, R24), (72, R72), (73, R73)] = call at t_24 t_72 t_73 ⊢
    show W C false noExt call zc25 (argE [l.cv Api_Op.cv, e.cv]) p (endQ C _ _)
    have hv : (copiedE e).Shots.tl ≠ .view := cloneP_nv e.Shots
    have hv2 : (copiedE e).Shots.l.length ≤ 100000 := by show (cloneP e.Shots).l.length ≤ _; rw [cloneP_l]; exact h2
    have hn : ∀ j, ¬ (copiedE e).cv.has j := fun j h => cloneP_no e.Shots j ((Rule_Env.has _ j).1 h)
    cases hr : Mach.run 64 ⟨copiedE e, l, 0⟩ with
    | error c =>
      (have zx := hr; have hc := True.intro; refine zq25 (k := ?_); clear hc; try exact True.intro)
      repeat' ((first | refine condW_b ?_ ?_ | refine wantO_s ?_ ?_ | refine wantD_s _ _ _ _ ?_ ?_ | refine bindO_i ?_ ?_ | refine bindE_i _ _ _ _ ?_ ?_) <;> intro hc <;> (try simp only [zhd] at hc) <;> (try have hw := within_spec hc) <;> (refine zq25 (k := ?_); try exact True.intro))
      all_goals (try clear zx)
      all_goals
        simp [ruleRun, *]
        refine shr_keep hF zle (weak_self (lt_of_no fun j hj => ?_))
        simp [CV.has, CV.hasL, Trap_Fault.nohas] at hj
        exact hn j hj
    | ok m' =>
      have hn' : ∀ j, ¬ m'.e_.cv.has j := fun j h => by
        have h := (Rule_Env.has _ j).1 h
        rcases (Mach.run_keeps 64 _ m' hr (Int.le_refl _)).1 with k | k
        · rw [k] at h; exact cloneP_no e.Shots j h
        · rw [k] at h; cases h
      (have zx := hr; have hc := True.intro; refine zq25 (k := ?_); clear hc; try exact True.intro)
      repeat' ((first | refine condW_b ?_ ?_ | refine wantO_s ?_ ?_ | refine wantD_s _ _ _ _ ?_ ?_ | refine bindO_i ?_ ?_ | refine bindE_i _ _ _ _ ?_ ?_) <;> intro hc <;> (try simp only [zhd] at hc) <;> (try have hw := within_spec hc) <;> (refine zq25 (k := ?_); try exact True.intro))
      all_goals (try clear zx)
      all_goals
        simp [ruleRun, *]
        refine shr_keep hF zle (weak_self (lt_of_no fun j hj => ?_))
        simp [CV.has, CV.hasL, Trap_Fault.nohas] at hj
        first | exact hn j hj | exact hn' j hj
end Go.Proofs.Ytpchcfkebljopaa
end
section
namespace Go.Proofs.Ytpchcfkebljopaa
open Go.Cl Go Go.RowKit
set_option maxRecDepth 100000
noncomputable def zn70_1 : ZC := ZC.reg [⟨some 0, .alloc 39, none, true⟩]
noncomputable def zn70_3 : ZC := ZC.reg [⟨some 1, .call ⟨.value (.func 64), ⟨[.const (.int .i64 0), .const (.int .i64 1)]⟩, ⟨[3, 3]⟩⟩, none, false⟩, ⟨some 2, .build 36 ⟨[(0, .const (.int .i64 3)), (1, .const (.int .i64 (-64))), (2, .const (.int .i64 7))]⟩, none, false⟩, ⟨some 3, .build 39 ⟨[(0, .tmp 1), (1, .tmp 2), (2, .const (.int .u64 5)), (3, .const (.int .i64 2))]⟩, none, false⟩, ⟨none, .store 39 (.tmp 0) (.tmp 3), none, true⟩]
noncomputable def zn70_2 : ZC := ZC.seq zn70_3 ZC.ret
noncomputable def zn70_0 : ZC := ZC.seq zn70_1 zn70_2
noncomputable def zc70 : ZC := zn70_0
theorem zc70_ok : zcode (xfOf Try.f70).code = some zc70 := by kernel_rfl
set_option linter.defProp false in
def zw70 := And.intro (zunf C zc70.eq_1) <| And.intro (zunf C zn70_1.eq_1) <| And.intro (zunf C zn70_3.eq_1) <| And.intro (zunf C zn70_2.eq_1) <| (zunf C zn70_0.eq_1)
theorem rs70 : (xfOf Try.f70).rs = [.cell 0 39] := by kernel_rfl
theorem xf70 : XFok C 70 (xfOf Try.f70) := ⟨Try.f70, by kernel_rfl, by kernel_rfl, by kernel_rfl, by kernel_rfl, by kernel_rfl, by kernel_rfl, by kernel_rfl⟩
noncomputable def zn23_1 : ZC := ZC.reg [⟨some 0, .assign (.const (.bool false)), none, true⟩]
noncomputable def zn23_3 : ZC := ZC.reg [⟨some 8, .build 29 ⟨[(0, .const (.int .i64 6))]⟩, none, false⟩, ⟨some 9, .buildSlice 23 1 ⟨[(0, .tmp 8)]⟩, none, false⟩, ⟨some 10, .call ⟨.value (.func 70), ⟨[]⟩, ⟨[]⟩⟩, none, false⟩, ⟨some 11, .call ⟨.value (.func 25), ⟨[.tmp 9, .tmp 10]⟩, ⟨[23, 39]⟩⟩, none, false⟩, ⟨some 7, .move (.tmp 11), none, false⟩, ⟨some 12, .extract (.tmp 7) 0, none, false⟩, ⟨some 13, .extract (.tmp 7) 1, none, false⟩, ⟨some 14, .extract (.tmp 7) 2, none, false⟩, ⟨some 1, .alloc 39, none, false⟩, ⟨some 2, .alloc 44, none, false⟩, ⟨none, .store 39 (.tmp 1) (.tmp 12), none, false⟩, ⟨none, .store 44 (.tmp 2) (.tmp 13), none, false⟩, ⟨some 3, .assign (.tmp 14), none, true⟩]
noncomputable def zn23_5 : ZC := ZC.reg [⟨some 16, .build 29 ⟨[(0, .const (.int .i64 1)), (1, .const (.int .i64 1)), (2, .const (.int .i64 5))]⟩, none, false⟩, ⟨some 17, .build 29 ⟨[(0, .const (.int .i64 3)), (1, .const (.int .i64 1)), (2, .const (.int .i64 1))]⟩, none, false⟩, ⟨some 18, .buildSlice 23 2 ⟨[(0, .tmp 16), (1, .tmp 17)]⟩, none, false⟩, ⟨some 19, .call ⟨.value (.func 70), ⟨[]⟩, ⟨[]⟩⟩, none, false⟩, ⟨some 20, .call ⟨.value (.func 25), ⟨[.tmp 18, .tmp 19]⟩, ⟨[23, 39]⟩⟩, none, false⟩, ⟨some 15, .move (.tmp 20), none, false⟩, ⟨some 21, .extract (.tmp 15) 0, none, false⟩, ⟨some 22, .extract (.tmp 15) 1, none, false⟩, ⟨some 23, .extract (.tmp 15) 2, none, false⟩, ⟨some 4, .alloc 39, none, false⟩, ⟨some 5, .alloc 44, none, false⟩, ⟨none, .store 39 (.tmp 4) (.tmp 21), none, false⟩, ⟨none, .store 44 (.tmp 5) (.tmp 22), none, false⟩, ⟨some 6, .assign (.tmp 23), none, true⟩]
noncomputable def zn23_7 : ZC := ZC.reg [⟨some 24, .move (.tmp 3), none, false⟩, ⟨some 25, .unOp .not 4 (.tmp 24), none, false⟩, ⟨some 26, .move (.tmp 25), none, false⟩, ⟨some 27, .load 44 (.tmp 2), some (26, true), false⟩, ⟨some 28, .build 44 ⟨[(0, .const (.int .i64 1))]⟩, some (26, true), false⟩, ⟨some 29, .binOp .eql 44 (.tmp 27) (.tmp 28) 44, some (26, true), false⟩, ⟨some 30, .pick (.tmp 26) (.tmp 29) (.const (.bool false)), none, false⟩, ⟨some 31, .move (.tmp 30), none, false⟩, ⟨some 32, .move (.tmp 6), some (31, true), false⟩, ⟨some 33, .pick (.tmp 31) (.tmp 32) (.const (.bool false)), none, false⟩, ⟨some 34, .move (.tmp 33), none, false⟩, ⟨some 35, .fieldAddr 39 (.tmp 4) 0, some (34, true), false⟩, ⟨some 36, .fieldAddr 34 (.tmp 35) 7, some (34, true), false⟩, ⟨some 37, .indexAddr 32 (.tmp 36) (.const (.int .i64 1)), some (34, true), false⟩, ⟨some 38, .load 3 (.tmp 37), some (34, true), false⟩, ⟨some 39, .binOp .eql 3 (.tmp 38) (.const (.int .i64 10)) 3, some (34, true), false⟩, ⟨some 40, .pick (.tmp 34) (.tmp 39) (.const (.bool false)), none, false⟩, ⟨some 0, .assign (.tmp 40), none, true⟩]
noncomputable def zn23_6 : ZC := ZC.seq zn23_7 ZC.ret
noncomputable def zn23_4 : ZC := ZC.seq zn23_5 zn23_6
noncomputable def zn23_2 : ZC := ZC.seq zn23_3 zn23_4
noncomputable def zn23_0 : ZC := ZC.seq zn23_1 zn23_2
noncomputable def zc23 : ZC := zn23_0
theorem zc23_ok : zcode (xfOf Try.f23).code = some zc23 := by kernel_rfl
set_option linter.defProp false in
def zw23 := And.intro (zunf C zc23.eq_1) <| And.intro (zunf C zn23_1.eq_1) <| And.intro (zunf C zn23_3.eq_1) <| And.intro (zunf C zn23_5.eq_1) <| And.intro (zunf C zn23_7.eq_1) <| And.intro (zunf C zn23_6.eq_1) <| And.intro (zunf C zn23_4.eq_1) <| And.intro (zunf C zn23_2.eq_1) <| (zunf C zn23_0.eq_1)
theorem rs23 : (xfOf Try.f23).rs = [.tmp 0] := by kernel_rfl
theorem xf23 : XFok C 23 (xfOf Try.f23) := ⟨Try.f23, by kernel_rfl, by kernel_rfl, by kernel_rfl, by kernel_rfl, by kernel_rfl, by kernel_rfl, by kernel_rfl⟩
end Go.Proofs.Ytpchcfkebljopaa
end
section
namespace Go.Proofs.Ytpchcfkebljopaa
open Go.Cl Go Go.RowKit
def pick (n m : Int) : Int := if n.tmod m < 0 then n.tmod m + m else n.tmod m
theorem pick_range {n m : Int} (h : 0 < m) : 0 ≤ pick n m ∧ pick n m < m := by
  unfold pick
  have h1 := Int.tmod_lt_of_pos n h
  have h2 : -m < n.tmod m := by
    have := Int.lt_tmod_of_pos n h
    omega
  split <;> omega
def bodyBorn (owner players : Int) : Api_Body :=
  { Api_Body.zero with Kind := 1, Owner := brought owner 0 (brought players 1 8 - 1), X := w64 (((2 * brought owner 0 (brought players 1 8 - 1) + 1) * 4096).tdiv (2 * brought players 1 8)), Y := 2048 }
def handInput (n m : Int) : Api_Input := ⟨pick n 256, w64 (pick m 129 - 64), w64 (pick (w64 (m.tdiv 129)) 129 - 64)⟩
def handOp (x : Hand_RawOp) : Api_Op :=
  let c := w64 (1 + pick x.Code 13)
  let b := if c = 1 then w64 (pick x.B 90 - 30) else if c = 7 then pick x.B 8 else if c = 9 ∨ c = 10 then pick x.B 9 else pick x.B 4
  let k := pick x.Code 101
  if k = 97 then ⟨c, x.A, b⟩ else if k = 98 then ⟨c, pick x.A 4, x.B⟩ else if k = 99 then ⟨x.B, pick x.A 4, b⟩ else if k = 100 then ⟨c, pick x.A 9, b⟩ else ⟨c, pick x.A 4, b⟩
def memVal (v : Int) : Int := if v.tmod 9 = 8 then w64 (pick v 2000001 - 1000000) else w64 (pick v 41 - 20)
def memN (l : List Int) : Nat → Api_Body → Api_Body
  | 0, b => b
  | k + 1, b => (memN l k b).put_7k k (memVal (nth l k))
def envOf (x : Law12_RawEnv) : Rule_Env :=
  let b := bodyBorn (pick x.X 4) 4
  let b := { b with X := pick x.X 4096, Y := pick x.Y 4096, VX := w64 (pick x.VX 129 - 64) }
  let b := memN x.Mem.l (min x.Mem.l.length 4) b
  { Rule_Env.zero with Body := if x.Bend.tmod 23 = 22 then { b with Y := x.Y } else b, In := handInput x.Buttons x.StickX, Dice := x.Dice, Room := pick x.Room 8 }
def env0 : Rule_Env := { Rule_Env.zero with Body := bodyBorn 0 1, In := ⟨3, -64, 7⟩, Dice := 5, Room := 2 }
def sameE (a b : Rule_Env) : Bool := decide (a.Body = b.Body) && decide (a.In = b.In) && decide (a.Dice = b.Dice) && decide (a.Room = b.Room) && decide (a.Shots.l = b.Shots.l)
end Go.Proofs.Ytpchcfkebljopaa
end
section
namespace Go.Proofs.Ytpchcfkebljopaa
open Go.Cl Go Go.RowKit
set_option maxRecDepth 100000
set_option linter.constructorNameAsVariable false
def R37 : Rel := fun args p r => ∃ (n m : Int), args = [I n, I m] ∧ (0 < m) ∧ (m ≤ 9223372036854775807) ∧ r = .ret (I (pick n m)) p
theorem t37 {T : XCall} (h : Has T 37 R37) (n m : Int) {p : Hp} (h1 : 0 < m) (h2 : m ≤ 9223372036854775807) : T 37 [I n, I m] p = .ret (I (pick n m)) p := h _ _ _ ⟨n, m, rfl, h1, h2, rfl⟩
theorem zq37 {A B : Prop} (h : A = B := by ((try simp -dsimp (disch := first | exact zdis | fail) only [zcore, zall, zopm, zop, zcallOp, qop, qbuiltin, ofOpt, List.map, reduceCtorEq, if_true, if_false, ↓reduceIte, zbin, eqRes, qassert, qnum, qshift, qun, kindOf, allocV, List.nil_append, List.append_nil, List.cons_append, List.length_cons, List.length_nil, Nat.reduceAdd, Nat.reduceEqDiff, Nat.reduceLT, Nat.reduceSub, Nat.reduceMul, Int.reduceToNat, Int.reduceLE, Int.reduceLT, Int.reduceEq, Int.reduceNeg, Int.reduceAdd, Int.reduceSub, beq_self_eq_true, cond_true, cond_false, isConstOpd, xpanic, xconv, isBytes, qconv, List.length_map, List.map_nil, List.map_cons, concrete, Option.some.injEq, exists_eq', Option.map_some, Option.map_none, List.getElem?_cons_zero, List.getElem?_cons_succ, zw37, rs37, tt3, ti3, h1, h2, zx, hc]); rfl)) (k : B) : A := h ▸ k
theorem zno37 {P : Prop} (h : P := by intro jj; simp [CV.has, CV.hasL, fault, Trap_thrown.nohas]) : P := h
set_option maxHeartbeats 8000000 in
theorem c37 : Con C 37 R37 := by
  refine con_of C ?_ ?_ ?_
  · rintro args p r r' ⟨n, m, h, h1, h2, e⟩ ⟨n', m', h', h1', h2', e'⟩
    subst e; subst e'; simp_all
  · rintro args p r ⟨n, m, h, h1, h2, rfl⟩; first | (split <;> simp; done) | (simp; done) | (simp only [resM]; split <;> simp; done) | (simp only [resD]; split <;> simp; done) 
  · rintro args p r ⟨n, m, rfl, h1, h2, rfl⟩
    refine ans_walk C false noExt (tabL C []) xf37 (noExt_ok C) (tabL_ok C _) zc37_ok (Nat.le_of_ble_eq_true (by kernel_rfl)) fun hF => ?_
    generalize tabL C [] = call
    show W C false noExt call zc37 (argE [I n, I m]) p (endQ C _ _)
    have hm := Int.tmod_lt_of_pos n h1
    have hm2 := Int.lt_tmod_of_pos n h1
    (have zx := True.intro; have hc := True.intro; refine zq37 (k := ?_); clear hc; try exact True.intro)
    repeat' ((first | refine condW_b ?_ ?_ | refine wantO_s ?_ ?_ | refine wantD_s _ _ _ _ ?_ ?_ | refine bindO_i ?_ ?_ | refine bindE_i _ _ _ _ ?_ ?_) <;> intro hc <;> (try simp only [zhd, zhn] at hc) <;> (try have hw := within_spec hc) <;> (refine zq37 (k := ?_); try exact True.intro))
    all_goals (try clear zx)
    all_goals refine shr_keep hF zle (weak_of_eq ?_ (lt_of_no zno37))
    all_goals (simp [pick, hc] <;> omega)
def R64 : Rel := fun args p r => ∃ (o k : Int), args = [I o, I k] ∧ r = .ret (bodyBorn o k).cv p
theorem t64 {T : XCall} (h : Has T 64 R64) (o k : Int) {p : Hp}  : T 64 [I o, I k] p = .ret (bodyBorn o k).cv p := h _ _ _ ⟨o, k, rfl, rfl⟩
theorem zq64 {A B : Prop} (h : A = B := by ((try simp -dsimp (disch := first | exact zdis | fail) only [zcore, zall, zopm, zop, zcallOp, qop, qbuiltin, ofOpt, List.map, reduceCtorEq, if_true, if_false, ↓reduceIte, zbin, eqRes, qassert, qnum, qshift, qun, kindOf, allocV, List.nil_append, List.append_nil, List.cons_append, List.length_cons, List.length_nil, Nat.reduceAdd, Nat.reduceEqDiff, Nat.reduceLT, Nat.reduceSub, Nat.reduceMul, Int.reduceToNat, Int.reduceLE, Int.reduceLT, Int.reduceEq, Int.reduceNeg, Int.reduceAdd, Int.reduceSub, beq_self_eq_true, cond_true, cond_false, isConstOpd, xpanic, xconv, isBytes, qconv, List.length_map, List.map_nil, List.map_cons, concrete, Option.some.injEq, exists_eq', Option.map_some, Option.map_none, List.getElem?_cons_zero, List.getElem?_cons_succ, zw64, rs64, tt3, tt34, ti3, ti34, t_140, zs_Api_Body, zx, hc]); rfl)) (k : B) : A := h ▸ k
theorem zno64 {P : Prop} (h : P := by intro jj; simp [CV.has, CV.hasL, fault, Trap_thrown.nohas, Api_Body.nohas]) : P := h
set_option maxHeartbeats 8000000 in
theorem c64 : Con C 64 R64 := by
  refine con_of C ?_ ?_ ?_
  · rintro args p r r' ⟨o, k, h, e⟩ ⟨o', k', h', e'⟩
    subst e; subst e'; simp_all [Api_Body.inj_iff]
  · rintro args p r ⟨o, k, h, rfl⟩; first | (split <;> simp; done) | (simp; done) | (simp only [resM]; split <;> simp; done) | (simp only [resD]; split <;> simp; done) 
  · rintro args p r ⟨o, k, rfl, rfl⟩
    refine ans_walk C false noExt (tabL C [(140, R140)]) xf64 (noExt_ok C) (tabL_ok C _) zc64_ok (Nat.le_of_ble_eq_true (by kernel_rfl)) fun hF => ?_
    have t_140 := @t140 (tabL C [(140, R140)]) (has_head C c140 [])
    generalize tabL C [(140, R140)] = call at t_140 ⊢
    show W C false noExt call zc64 (argE [I o, I k]) p (endQ C _ _)
    have h1 : 1 ≤ brought k 1 8 ∧ brought k 1 8 ≤ 8 := by unfold brought; omega
    have h2 : 0 ≤ brought o 0 (brought k 1 8 - 1) ∧ brought o 0 (brought k 1 8 - 1) ≤ 7 := by
      have : ∀ a b : Int, 0 ≤ b → b ≤ 7 → 0 ≤ brought a 0 b ∧ brought a 0 b ≤ 7 := by intro a b _ _; unfold brought; omega
      exact this _ _ (by omega) (by omega)
    (have zx := True.intro; have hc := True.intro; refine zq64 (k := ?_); clear hc; try exact True.intro)
    repeat' ((first | refine condW_b ?_ ?_ | refine wantO_s ?_ ?_ | refine wantD_s _ _ _ _ ?_ ?_ | refine bindO_i ?_ ?_ | refine bindE_i _ _ _ _ ?_ ?_) <;> intro hc <;> (try simp only [zhd, zhn] at hc) <;> (try have hw := within_spec hc) <;> (refine zq64 (k := ?_); try exact True.intro))
    all_goals (try clear zx)
    exact shr_keep hF zle (weak_of_eq rfl (lt_of_no zno64))
def R69 : Rel := fun args p r => ∃ (n k : Int), args = [I n, I k] ∧ (-9223372036854775808 ≤ k ∧ k ≤ 9223372036854775807) ∧ r = .ret (handInput n k).cv p
theorem t69 {T : XCall} (h : Has T 69 R69) (n k : Int) {p : Hp} (h1 : -9223372036854775808 ≤ k ∧ k ≤ 9223372036854775807) : T 69 [I n, I k] p = .ret (handInput n k).cv p := h _ _ _ ⟨n, k, rfl, h1, rfl⟩
theorem zq69 {A B : Prop} (h : A = B := by ((try simp -dsimp (disch := first | exact zdis | fail) only [zcore, zall, zopm, zop, zcallOp, qop, qbuiltin, ofOpt, List.map, reduceCtorEq, if_true, if_false, ↓reduceIte, zbin, eqRes, qassert, qnum, qshift, qun, kindOf, allocV, List.nil_append, List.append_nil, List.cons_append, List.length_cons, List.length_nil, Nat.reduceAdd, Nat.reduceEqDiff, Nat.reduceLT, Nat.reduceSub, Nat.reduceMul, Int.reduceToNat, Int.reduceLE, Int.reduceLT, Int.reduceEq, Int.reduceNeg, Int.reduceAdd, Int.reduceSub, beq_self_eq_true, cond_true, cond_false, isConstOpd, xpanic, xconv, isBytes, qconv, List.length_map, List.map_nil, List.map_cons, concrete, Option.some.injEq, exists_eq', Option.map_some, Option.map_none, List.getElem?_cons_zero, List.getElem?_cons_succ, zw69, rs69, tt3, tt36, ti3, ti36, t_37, zs_Api_Input, h1, zx, hc]); rfl)) (k : B) : A := h ▸ k
theorem zno69 {P : Prop} (h : P := by intro jj; simp [CV.has, CV.hasL, fault, Trap_thrown.nohas, Api_Input.nohas]) : P := h
set_option maxHeartbeats 8000000 in
theorem c69 : Con C 69 R69 := by
  refine con_of C ?_ ?_ ?_
  · rintro args p r r' ⟨n, k, h, h1, e⟩ ⟨n', k', h', h1', e'⟩
    subst e; subst e'; simp_all [Api_Input.inj_iff]
  · rintro args p r ⟨n, k, h, h1, rfl⟩; first | (split <;> simp; done) | (simp; done) | (simp only [resM]; split <;> simp; done) | (simp only [resD]; split <;> simp; done) 
  · rintro args p r ⟨n, k, rfl, h1, rfl⟩
    refine ans_walk C false noExt (tabL C [(37, R37)]) xf69 (noExt_ok C) (tabL_ok C _) zc69_ok (Nat.le_of_ble_eq_true (by kernel_rfl)) fun hF => ?_
    have t_37 := @t37 (tabL C [(37, R37)]) (has_head C c37 [])
    generalize tabL C [(37, R37)] = call at t_37 ⊢
    show W C false noExt call zc69 (argE [I n, I k]) p (endQ C _ _)
    (have zx := True.intro; have hc := True.intro; refine zq69 (k := ?_); clear hc; try exact True.intro)
    repeat' ((first | refine condW_b ?_ ?_ | refine wantO_s ?_ ?_ | refine wantD_s _ _ _ _ ?_ ?_ | refine bindO_i ?_ ?_ | refine bindE_i _ _ _ _ ?_ ?_) <;> intro hc <;> (try simp only [zhd, zhn] at hc) <;> (try have hw := within_spec hc) <;> (refine zq69 (k := ?_); try exact True.intro))
    all_goals (try clear zx)
    exact shr_keep hF zle (weak_of_eq rfl (lt_of_no zno69))
def R70 : Rel := fun args p r => args = [] ∧ r = .ret env0.cv p
theorem t70 {T : XCall} (h : Has T 70 R70)  {p : Hp}  : T 70 [] p = .ret env0.cv p := h _ _ _ ⟨rfl, rfl⟩
theorem zq70 {A B : Prop} (h : A = B := by ((try simp -dsimp (disch := first | exact zdis | fail) only [zcore, zall, zopm, zop, zcallOp, qop, qbuiltin, ofOpt, List.map, reduceCtorEq, if_true, if_false, ↓reduceIte, zbin, eqRes, qassert, qnum, qshift, qun, kindOf, allocV, List.nil_append, List.append_nil, List.cons_append, List.length_cons, List.length_nil, Nat.reduceAdd, Nat.reduceEqDiff, Nat.reduceLT, Nat.reduceSub, Nat.reduceMul, Int.reduceToNat, Int.reduceLE, Int.reduceLT, Int.reduceEq, Int.reduceNeg, Int.reduceAdd, Int.reduceSub, beq_self_eq_true, cond_true, cond_false, isConstOpd, xpanic, xconv, isBytes, qconv, List.length_map, List.map_nil, List.map_cons, concrete, Option.some.injEq, exists_eq', Option.map_some, Option.map_none, List.getElem?_cons_zero, List.getElem?_cons_succ, zw70, rs70, tt36, tt39, ti36, ti39, t_64, zs_Rule_Env, zs_Api_Body, zs_Api_Input, zx, hc]); rfl)) (k : B) : A := h ▸ k
set_option maxHeartbeats 8000000 in
theorem c70 : Con C 70 R70 := by
  refine con_of C ?_ ?_ ?_
  · rintro args p r r' ⟨h, e⟩ ⟨h', e'⟩
    subst e; subst e'; simp_all [Rule_Env.inj_iff, Api_Body.inj_iff, Api_Input.inj_iff]
  · rintro args p r ⟨h, rfl⟩; first | (split <;> simp; done) | (simp; done) | (simp only [resM]; split <;> simp; done) | (simp only [resD]; split <;> simp; done) 
  · rintro args p r ⟨rfl, rfl⟩
    refine ans_walk C false noExt (tabL C [(64, R64)]) xf70 (noExt_ok C) (tabL_ok C _) zc70_ok (Nat.le_of_ble_eq_true (by kernel_rfl)) fun hF => ?_
    have t_64 := @t64 (tabL C [(64, R64)]) (has_head C c64 [])
    generalize tabL C [(64, R64)] = call at t_64 ⊢
    show W C false noExt call zc70 (argE []) p (endQ C _ _)
    (have zx := True.intro; have hc := True.intro; refine zq70 (k := ?_); clear hc; try exact True.intro)
    repeat' ((first | refine condW_b ?_ ?_ | refine wantO_s ?_ ?_ | refine wantD_s _ _ _ _ ?_ ?_ | refine bindO_i ?_ ?_ | refine bindE_i _ _ _ _ ?_ ?_) <;> intro hc <;> (try simp only [zhd, zhn] at hc) <;> (try have hw := within_spec hc) <;> (refine zq70 (k := ?_); try exact True.intro))
    all_goals (try clear zx)
    exact shr_keep hF zle (weak_of_eq rfl (lt_of_no fun j hj => by simp [Rule_Env.has, env0, Rule_Env.zero] at hj))
def R21 : Rel := fun args p r => ∃ (x : Hand_RawOp), args = [x.cv] ∧ r = .ret (handOp x).cv p
theorem t21 {T : XCall} (h : Has T 21 R21) (x : Hand_RawOp) {p : Hp}  : T 21 [x.cv] p = .ret (handOp x).cv p := h _ _ _ ⟨x, rfl, rfl⟩
theorem zq21 {A B : Prop} (h : A = B := by ((try simp -dsimp (disch := first | exact zdis | fail) only [zcore, zall, zopm, zop, zcallOp, qop, qbuiltin, ofOpt, List.map, reduceCtorEq, if_true, if_false, ↓reduceIte, zbin, eqRes, qassert, qnum, qshift, qun, kindOf, allocV, List.nil_append, List.append_nil, List.cons_append, List.length_cons, List.length_nil, Nat.reduceAdd, Nat.reduceEqDiff, Nat.reduceLT, Nat.reduceSub, Nat.reduceMul, Int.reduceToNat, Int.reduceLE, Int.reduceLT, Int.reduceEq, Int.reduceNeg, Int.reduceAdd, Int.reduceSub, beq_self_eq_true, cond_true, cond_false, isConstOpd, xpanic, xconv, isBytes, qconv, List.length_map, List.map_nil, List.map_cons, concrete, Option.some.injEq, exists_eq', Option.map_some, Option.map_none, List.getElem?_cons_zero, List.getElem?_cons_succ, zw21, rs21, tt3, tt29, tt31, ti3, ti29, ti31, t_37, zs_Hand_RawOp, zs_Api_Op, zx, hc]); rfl)) (k : B) : A := h ▸ k
theorem zno21 {P : Prop} (h : P := by intro jj; simp [CV.has, CV.hasL, fault, Trap_thrown.nohas, Hand_RawOp.nohas, Api_Op.nohas]) : P := h
set_option maxHeartbeats 8000000 in
theorem c21 : Con C 21 R21 := by
  refine con_of C ?_ ?_ ?_
  · rintro args p r r' ⟨x, h, e⟩ ⟨x', h', e'⟩
    subst e; subst e'; simp_all [Hand_RawOp.inj_iff, Api_Op.inj_iff]
  · rintro args p r ⟨x, h, rfl⟩; first | (split <;> simp; done) | (simp; done) | (simp only [resM]; split <;> simp; done) | (simp only [resD]; split <;> simp; done) 
  · rintro args p r ⟨x, rfl, rfl⟩
    refine ans_walk C false noExt (tabL C [(37, R37)]) xf21 (noExt_ok C) (tabL_ok C _) zc21_ok (Nat.le_of_ble_eq_true (by kernel_rfl)) fun hF => ?_
    have t_37 := @t37 (tabL C [(37, R37)]) (has_head C c37 [])
    generalize tabL C [(37, R37)] = call at t_37 ⊢
    show W C false noExt call zc21 (argE [x.cv]) p (endQ C _ _)
    (have zx := True.intro; have hc := True.intro; refine zq21 (k := ?_); clear hc; try exact True.intro)
    repeat' ((first | refine condW_b ?_ ?_ | refine wantO_s ?_ ?_ | refine wantD_s _ _ _ _ ?_ ?_ | refine bindO_i ?_ ?_ | refine bindE_i _ _ _ _ ?_ ?_) <;> intro hc <;> (try simp only [zhd, zhn] at hc) <;> (try have hw := within_spec hc) <;> (refine zq21 (k := ?_); try exact True.intro))
    all_goals (try clear zx)
    all_goals refine shr_keep hF zle (weak_of_eq ?_ (lt_of_no zno21))
    all_goals simp [handOp, *]
end Go.Proofs.Ytpchcfkebljopaa
end
