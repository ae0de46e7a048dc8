import Derived.Test.YtpchcfkebljopaaXg
set_option linter.unusedSimpArgs false
set_option linter.unusedVariables false
set_option linter.constructorNameAsVariable false
section
namespace Go.Proofs.Ytpchcfkebljopaa
open Go.Cl
set_option linter.constructorNameAsVariable false
structure Law12_RawEnv where
  X : Int
  Y : Int
  VX : Int
  Buttons : Int
  StickX : Int
  Room : Int
  Mem : Lst Int
  Dice : Int
  Bend : Int
def Law12_RawEnv.cv (x : Law12_RawEnv) : CV := .agg [I x.X, I x.Y, I x.VX, I x.Buttons, I x.StickX, I x.Room, (Lst.cv I) x.Mem, U x.Dice, I x.Bend]
@[ext] theorem Law12_RawEnv.ext' {x y : Law12_RawEnv} (h_X : x.X = y.X) (h_Y : x.Y = y.Y) (h_VX : x.VX = y.VX) (h_Buttons : x.Buttons = y.Buttons) (h_StickX : x.StickX = y.StickX) (h_Room : x.Room = y.Room) (h_Mem : x.Mem = y.Mem) (h_Dice : x.Dice = y.Dice) (h_Bend : x.Bend = y.Bend) : x = y := by
  obtain ⟨a0, a1, a2, a3, a4, a5, a6, a7, a8⟩ := x
  obtain ⟨c0, c1, c2, c3, c4, c5, c6, c7, c8⟩ := y
  simp only at h_X h_Y h_VX h_Buttons h_StickX h_Room h_Mem h_Dice h_Bend
  subst h_X h_Y h_VX h_Buttons h_StickX h_Room h_Mem h_Dice h_Bend
  rfl
def Law12_RawEnv.zero : Law12_RawEnv := { X := 0, Y := 0, VX := 0, Buttons := 0, StickX := 0, Room := 0, Mem := ⟨.nil, [], fun _ => rfl⟩, Dice := 0, Bend := 0 }
instance : Inhabited Law12_RawEnv := ⟨Law12_RawEnv.zero⟩
theorem Law12_RawEnv.zcv : z27 = Law12_RawEnv.zero.cv := by
  simp only [z27, Law12_RawEnv.zero, Law12_RawEnv.cv, List.map_replicate, Lst.cv, List.map_nil]
theorem Law12_RawEnv.shape (x : Law12_RawEnv) : x.cv.shape = sh27 := by simp only [Law12_RawEnv.cv, sh27, CV.shape, CV.shapes, Lst.shape]
theorem Law12_RawEnv.has (x : Law12_RawEnv) (j : Nat) : x.cv.has j ↔ x.Mem.tl = .own j := by simp [Law12_RawEnv.cv, CV.has, CV.hasL, Lst.has _ I_has]
theorem Law12_RawEnv.inj {x y : Law12_RawEnv} (h : x.cv = y.cv) : x = y := by
  simp only [Law12_RawEnv.cv, CV.agg.injEq, List.cons.injEq, and_true] at h
  obtain ⟨h0, h1, h2, h3, h4, h5, h6, h7, h8⟩ := h
  refine Law12_RawEnv.ext' (I_inj _ _ h0) (I_inj _ _ h1) (I_inj _ _ h2) (I_inj _ _ h3) (I_inj _ _ h4) (I_inj _ _ h5) ((Lst.injF I_inj) _ _ h6) (U_inj _ _ h7) (I_inj _ _ h8)
theorem Law12_RawEnv.injF (x y : Law12_RawEnv) (h : x.cv = y.cv) : x = y := Law12_RawEnv.inj h
theorem Law12_RawEnv.inj_iff (x y : Law12_RawEnv) : x.cv = y.cv ↔ x = y := ⟨Law12_RawEnv.inj, fun h => by rw [h]⟩
theorem Law12_RawEnv.shOk (x : Law12_RawEnv) : Cl.shOk x.cv sh27 = true := shOk_n (Law12_RawEnv.shape x) rfl
theorem Law12_RawEnv.at_0 (x : Law12_RawEnv) (q : List Nat) : x.cv.at (0 :: q) = (I x.X).at q := rfl
def Law12_RawEnv.upd_0 (x : Law12_RawEnv) (v : CV) : CV := .agg [v, I x.Y, I x.VX, I x.Buttons, I x.StickX, I x.Room, (Lst.cv I) x.Mem, U x.Dice, I x.Bend]
theorem Law12_RawEnv.set_0 (x : Law12_RawEnv) (q : List Nat) (v : CV) : x.cv.set (0 :: q) v = Law12_RawEnv.upd_0 x ((I x.X).set q v) := rfl
theorem Law12_RawEnv.fold_0 (x : Law12_RawEnv) (y : Int) : Law12_RawEnv.upd_0 x (I y) = ({ x with X := y } : Law12_RawEnv).cv := rfl
theorem Law12_RawEnv.fld_0 (x : Law12_RawEnv) : qfield C 27 x.cv 0 = some (I x.X) := qfield_of C tt27 (Law12_RawEnv.shape x) rfl tt3 rfl rfl
theorem Law12_RawEnv.rfa_0 (x : Law12_RawEnv) (h : Heap) : qfieldAddr C h 27 (.rptr x.cv) 0 = some (.rptr (I x.X)) := by
  have hs := Law12_RawEnv.shape x
  unfold Law12_RawEnv.cv at hs ⊢
  simp only [qfieldAddr, tt27, ti27, tgt, hs, if_true, List.getElem?_cons_zero, List.getElem?_cons_succ]
theorem Law12_RawEnv.sub_0 (q : List Nat) (z : Shape) : subEq sh27 (0 :: q) z = subEq sh3 q z := rfl
theorem Law12_RawEnv.at_1 (x : Law12_RawEnv) (q : List Nat) : x.cv.at (1 :: q) = (I x.Y).at q := rfl
def Law12_RawEnv.upd_1 (x : Law12_RawEnv) (v : CV) : CV := .agg [I x.X, v, I x.VX, I x.Buttons, I x.StickX, I x.Room, (Lst.cv I) x.Mem, U x.Dice, I x.Bend]
theorem Law12_RawEnv.set_1 (x : Law12_RawEnv) (q : List Nat) (v : CV) : x.cv.set (1 :: q) v = Law12_RawEnv.upd_1 x ((I x.Y).set q v) := rfl
theorem Law12_RawEnv.fold_1 (x : Law12_RawEnv) (y : Int) : Law12_RawEnv.upd_1 x (I y) = ({ x with Y := y } : Law12_RawEnv).cv := rfl
theorem Law12_RawEnv.fld_1 (x : Law12_RawEnv) : qfield C 27 x.cv 1 = some (I x.Y) := qfield_of C tt27 (Law12_RawEnv.shape x) rfl tt3 rfl rfl
theorem Law12_RawEnv.rfa_1 (x : Law12_RawEnv) (h : Heap) : qfieldAddr C h 27 (.rptr x.cv) 1 = some (.rptr (I x.Y)) := by
  have hs := Law12_RawEnv.shape x
  unfold Law12_RawEnv.cv at hs ⊢
  simp only [qfieldAddr, tt27, ti27, tgt, hs, if_true, List.getElem?_cons_zero, List.getElem?_cons_succ]
theorem Law12_RawEnv.sub_1 (q : List Nat) (z : Shape) : subEq sh27 (1 :: q) z = subEq sh3 q z := rfl
theorem Law12_RawEnv.at_2 (x : Law12_RawEnv) (q : List Nat) : x.cv.at (2 :: q) = (I x.VX).at q := rfl
def Law12_RawEnv.upd_2 (x : Law12_RawEnv) (v : CV) : CV := .agg [I x.X, I x.Y, v, I x.Buttons, I x.StickX, I x.Room, (Lst.cv I) x.Mem, U x.Dice, I x.Bend]
theorem Law12_RawEnv.set_2 (x : Law12_RawEnv) (q : List Nat) (v : CV) : x.cv.set (2 :: q) v = Law12_RawEnv.upd_2 x ((I x.VX).set q v) := rfl
theorem Law12_RawEnv.fold_2 (x : Law12_RawEnv) (y : Int) : Law12_RawEnv.upd_2 x (I y) = ({ x with VX := y } : Law12_RawEnv).cv := rfl
theorem Law12_RawEnv.fld_2 (x : Law12_RawEnv) : qfield C 27 x.cv 2 = some (I x.VX) := qfield_of C tt27 (Law12_RawEnv.shape x) rfl tt3 rfl rfl
theorem Law12_RawEnv.rfa_2 (x : Law12_RawEnv) (h : Heap) : qfieldAddr C h 27 (.rptr x.cv) 2 = some (.rptr (I x.VX)) := by
  have hs := Law12_RawEnv.shape x
  unfold Law12_RawEnv.cv at hs ⊢
  simp only [qfieldAddr, tt27, ti27, tgt, hs, if_true, List.getElem?_cons_zero, List.getElem?_cons_succ]
theorem Law12_RawEnv.sub_2 (q : List Nat) (z : Shape) : subEq sh27 (2 :: q) z = subEq sh3 q z := rfl
theorem Law12_RawEnv.at_3 (x : Law12_RawEnv) (q : List Nat) : x.cv.at (3 :: q) = (I x.Buttons).at q := rfl
def Law12_RawEnv.upd_3 (x : Law12_RawEnv) (v : CV) : CV := .agg [I x.X, I x.Y, I x.VX, v, I x.StickX, I x.Room, (Lst.cv I) x.Mem, U x.Dice, I x.Bend]
theorem Law12_RawEnv.set_3 (x : Law12_RawEnv) (q : List Nat) (v : CV) : x.cv.set (3 :: q) v = Law12_RawEnv.upd_3 x ((I x.Buttons).set q v) := rfl
theorem Law12_RawEnv.fold_3 (x : Law12_RawEnv) (y : Int) : Law12_RawEnv.upd_3 x (I y) = ({ x with Buttons := y } : Law12_RawEnv).cv := rfl
theorem Law12_RawEnv.fld_3 (x : Law12_RawEnv) : qfield C 27 x.cv 3 = some (I x.Buttons) := qfield_of C tt27 (Law12_RawEnv.shape x) rfl tt3 rfl rfl
theorem Law12_RawEnv.rfa_3 (x : Law12_RawEnv) (h : Heap) : qfieldAddr C h 27 (.rptr x.cv) 3 = some (.rptr (I x.Buttons)) := by
  have hs := Law12_RawEnv.shape x
  unfold Law12_RawEnv.cv at hs ⊢
  simp only [qfieldAddr, tt27, ti27, tgt, hs, if_true, List.getElem?_cons_zero, List.getElem?_cons_succ]
theorem Law12_RawEnv.sub_3 (q : List Nat) (z : Shape) : subEq sh27 (3 :: q) z = subEq sh3 q z := rfl
theorem Law12_RawEnv.at_4 (x : Law12_RawEnv) (q : List Nat) : x.cv.at (4 :: q) = (I x.StickX).at q := rfl
def Law12_RawEnv.upd_4 (x : Law12_RawEnv) (v : CV) : CV := .agg [I x.X, I x.Y, I x.VX, I x.Buttons, v, I x.Room, (Lst.cv I) x.Mem, U x.Dice, I x.Bend]
theorem Law12_RawEnv.set_4 (x : Law12_RawEnv) (q : List Nat) (v : CV) : x.cv.set (4 :: q) v = Law12_RawEnv.upd_4 x ((I x.StickX).set q v) := rfl
theorem Law12_RawEnv.fold_4 (x : Law12_RawEnv) (y : Int) : Law12_RawEnv.upd_4 x (I y) = ({ x with StickX := y } : Law12_RawEnv).cv := rfl
theorem Law12_RawEnv.fld_4 (x : Law12_RawEnv) : qfield C 27 x.cv 4 = some (I x.StickX) := qfield_of C tt27 (Law12_RawEnv.shape x) rfl tt3 rfl rfl
theorem Law12_RawEnv.rfa_4 (x : Law12_RawEnv) (h : Heap) : qfieldAddr C h 27 (.rptr x.cv) 4 = some (.rptr (I x.StickX)) := by
  have hs := Law12_RawEnv.shape x
  unfold Law12_RawEnv.cv at hs ⊢
  simp only [qfieldAddr, tt27, ti27, tgt, hs, if_true, List.getElem?_cons_zero, List.getElem?_cons_succ]
theorem Law12_RawEnv.sub_4 (q : List Nat) (z : Shape) : subEq sh27 (4 :: q) z = subEq sh3 q z := rfl
theorem Law12_RawEnv.at_5 (x : Law12_RawEnv) (q : List Nat) : x.cv.at (5 :: q) = (I x.Room).at q := rfl
def Law12_RawEnv.upd_5 (x : Law12_RawEnv) (v : CV) : CV := .agg [I x.X, I x.Y, I x.VX, I x.Buttons, I x.StickX, v, (Lst.cv I) x.Mem, U x.Dice, I x.Bend]
theorem Law12_RawEnv.set_5 (x : Law12_RawEnv) (q : List Nat) (v : CV) : x.cv.set (5 :: q) v = Law12_RawEnv.upd_5 x ((I x.Room).set q v) := rfl
theorem Law12_RawEnv.fold_5 (x : Law12_RawEnv) (y : Int) : Law12_RawEnv.upd_5 x (I y) = ({ x with Room := y } : Law12_RawEnv).cv := rfl
theorem Law12_RawEnv.fld_5 (x : Law12_RawEnv) : qfield C 27 x.cv 5 = some (I x.Room) := qfield_of C tt27 (Law12_RawEnv.shape x) rfl tt3 rfl rfl
theorem Law12_RawEnv.rfa_5 (x : Law12_RawEnv) (h : Heap) : qfieldAddr C h 27 (.rptr x.cv) 5 = some (.rptr (I x.Room)) := by
  have hs := Law12_RawEnv.shape x
  unfold Law12_RawEnv.cv at hs ⊢
  simp only [qfieldAddr, tt27, ti27, tgt, hs, if_true, List.getElem?_cons_zero, List.getElem?_cons_succ]
theorem Law12_RawEnv.sub_5 (q : List Nat) (z : Shape) : subEq sh27 (5 :: q) z = subEq sh3 q z := rfl
theorem Law12_RawEnv.at_6 (x : Law12_RawEnv) (q : List Nat) : x.cv.at (6 :: q) = ((Lst.cv I) x.Mem).at q := rfl
def Law12_RawEnv.upd_6 (x : Law12_RawEnv) (v : CV) : CV := .agg [I x.X, I x.Y, I x.VX, I x.Buttons, I x.StickX, I x.Room, v, U x.Dice, I x.Bend]
theorem Law12_RawEnv.set_6 (x : Law12_RawEnv) (q : List Nat) (v : CV) : x.cv.set (6 :: q) v = Law12_RawEnv.upd_6 x (((Lst.cv I) x.Mem).set q v) := rfl
theorem Law12_RawEnv.fold_6 (x : Law12_RawEnv) (y : Lst Int) : Law12_RawEnv.upd_6 x ((Lst.cv I) y) = ({ x with Mem := y } : Law12_RawEnv).cv := rfl
theorem Law12_RawEnv.fld_6 (x : Law12_RawEnv) : qfield C 27 x.cv 6 = some ((Lst.cv I) x.Mem) := qfield_of C tt27 (Law12_RawEnv.shape x) rfl tt24 rfl rfl
theorem Law12_RawEnv.rfa_6 (x : Law12_RawEnv) (h : Heap) : qfieldAddr C h 27 (.rptr x.cv) 6 = some (.rptr ((Lst.cv I) x.Mem)) := by
  have hs := Law12_RawEnv.shape x
  unfold Law12_RawEnv.cv at hs ⊢
  simp only [qfieldAddr, tt27, ti27, tgt, hs, if_true, List.getElem?_cons_zero, List.getElem?_cons_succ]
theorem Law12_RawEnv.sub_6 (q : List Nat) (z : Shape) : subEq sh27 (6 :: q) z = subEq sh24 q z := rfl
theorem Law12_RawEnv.at_7 (x : Law12_RawEnv) (q : List Nat) : x.cv.at (7 :: q) = (U x.Dice).at q := rfl
def Law12_RawEnv.upd_7 (x : Law12_RawEnv) (v : CV) : CV := .agg [I x.X, I x.Y, I x.VX, I x.Buttons, I x.StickX, I x.Room, (Lst.cv I) x.Mem, v, I x.Bend]
theorem Law12_RawEnv.set_7 (x : Law12_RawEnv) (q : List Nat) (v : CV) : x.cv.set (7 :: q) v = Law12_RawEnv.upd_7 x ((U x.Dice).set q v) := rfl
theorem Law12_RawEnv.fold_7 (x : Law12_RawEnv) (y : Int) : Law12_RawEnv.upd_7 x (U y) = ({ x with Dice := y } : Law12_RawEnv).cv := rfl
theorem Law12_RawEnv.fld_7 (x : Law12_RawEnv) : qfield C 27 x.cv 7 = some (U x.Dice) := qfield_of C tt27 (Law12_RawEnv.shape x) rfl tt25 rfl rfl
theorem Law12_RawEnv.rfa_7 (x : Law12_RawEnv) (h : Heap) : qfieldAddr C h 27 (.rptr x.cv) 7 = some (.rptr (U x.Dice)) := by
  have hs := Law12_RawEnv.shape x
  unfold Law12_RawEnv.cv at hs ⊢
  simp only [qfieldAddr, tt27, ti27, tgt, hs, if_true, List.getElem?_cons_zero, List.getElem?_cons_succ]
theorem Law12_RawEnv.sub_7 (q : List Nat) (z : Shape) : subEq sh27 (7 :: q) z = subEq sh25 q z := rfl
theorem Law12_RawEnv.at_8 (x : Law12_RawEnv) (q : List Nat) : x.cv.at (8 :: q) = (I x.Bend).at q := rfl
def Law12_RawEnv.upd_8 (x : Law12_RawEnv) (v : CV) : CV := .agg [I x.X, I x.Y, I x.VX, I x.Buttons, I x.StickX, I x.Room, (Lst.cv I) x.Mem, U x.Dice, v]
theorem Law12_RawEnv.set_8 (x : Law12_RawEnv) (q : List Nat) (v : CV) : x.cv.set (8 :: q) v = Law12_RawEnv.upd_8 x ((I x.Bend).set q v) := rfl
theorem Law12_RawEnv.fold_8 (x : Law12_RawEnv) (y : Int) : Law12_RawEnv.upd_8 x (I y) = ({ x with Bend := y } : Law12_RawEnv).cv := rfl
theorem Law12_RawEnv.fld_8 (x : Law12_RawEnv) : qfield C 27 x.cv 8 = some (I x.Bend) := qfield_of C tt27 (Law12_RawEnv.shape x) rfl tt3 rfl rfl
theorem Law12_RawEnv.rfa_8 (x : Law12_RawEnv) (h : Heap) : qfieldAddr C h 27 (.rptr x.cv) 8 = some (.rptr (I x.Bend)) := by
  have hs := Law12_RawEnv.shape x
  unfold Law12_RawEnv.cv at hs ⊢
  simp only [qfieldAddr, tt27, ti27, tgt, hs, if_true, List.getElem?_cons_zero, List.getElem?_cons_succ]
theorem Law12_RawEnv.sub_8 (q : List Nat) (z : Shape) : subEq sh27 (8 :: q) z = subEq sh3 q z := rfl
theorem Law12_RawEnv.sub_nil : subEq sh27 [] sh27 = true := by simp [subEq, Shape.sub]
theorem Law12_RawEnv.alloc : allocObj C (.alloc 27) = some (.var sh27 Law12_RawEnv.zero.cv) := by simp only [allocObj, tt27, ti27, Law12_RawEnv.zcv]
theorem Law12_RawEnv.xalloc (p : Hp) : xalloc C p 27 = .ret (.ptr p.n []) (p.new (.var sh27 Law12_RawEnv.zero.cv)) := by simp only [Cl.xalloc, tt27, ti27, Law12_RawEnv.zcv]
theorem Law12_RawEnv.xbox (p : Hp) (x : Law12_RawEnv) : xbox C p 27 x.cv = .ret (.ptr p.n []) (p.new (.var sh27 x.cv)) := by
  have h : Cl.shOk x.cv ti27.sh = true := Law12_RawEnv.shOk x
  simp only [Cl.xbox, tt27, h, cond_true]; rfl
structure Api_Op where
  Code : Int
  A : Int
  B : Int
def Api_Op.cv (x : Api_Op) : CV := .agg [I x.Code, I x.A, I x.B]
@[ext] theorem Api_Op.ext' {x y : Api_Op} (h_Code : x.Code = y.Code) (h_A : x.A = y.A) (h_B : x.B = y.B) : x = y := by
  obtain ⟨a0, a1, a2⟩ := x
  obtain ⟨c0, c1, c2⟩ := y
  simp only at h_Code h_A h_B
  subst h_Code h_A h_B
  rfl
def Api_Op.zero : Api_Op := { Code := 0, A := 0, B := 0 }
instance : Inhabited Api_Op := ⟨Api_Op.zero⟩
theorem Api_Op.zcv : z29 = Api_Op.zero.cv := by
  simp only [z29, Api_Op.zero, Api_Op.cv, List.map_replicate, Lst.cv, List.map_nil]
theorem Api_Op.shape (x : Api_Op) : x.cv.shape = sh29 := by simp only [Api_Op.cv, sh29, CV.shape, CV.shapes, Lst.shape]
theorem Api_Op.nohas (x : Api_Op) (j : Nat) : ¬ x.cv.has j := by simp [Api_Op.cv, CV.has, CV.hasL]
instance : DecidableEq Api_Op := fun x y => decidable_of_iff (x.Code = y.Code ∧ x.A = y.A ∧ x.B = y.B) ⟨fun h => Api_Op.ext' h.1 h.2.1 h.2.2, fun h => by subst h; simp⟩
theorem Api_Op.inj {x y : Api_Op} (h : x.cv = y.cv) : x = y := by
  simp only [Api_Op.cv, CV.agg.injEq, List.cons.injEq, and_true] at h
  obtain ⟨h0, h1, h2⟩ := h
  refine Api_Op.ext' (I_inj _ _ h0) (I_inj _ _ h1) (I_inj _ _ h2)
theorem Api_Op.injF (x y : Api_Op) (h : x.cv = y.cv) : x = y := Api_Op.inj h
theorem Api_Op.inj_iff (x y : Api_Op) : x.cv = y.cv ↔ x = y := ⟨Api_Op.inj, fun h => by rw [h]⟩
theorem Api_Op.shOk (x : Api_Op) : Cl.shOk x.cv sh29 = true := shOk_n (Api_Op.shape x) rfl
theorem Api_Op.eq (d : Nat) (x y : Api_Op) : eqCV C (d + 2) 29 x.cv y.cv = some (decide (x = y)) := by
  refine (eqCV_st C (d := d + 1) tt29 (Api_Op.shape x) (Api_Op.shape y) (eqList_c (eqCV_int C tt3 (d + 0) _ _) (eqList_c (eqCV_int C tt3 (d + 0) _ _) (eqList_c (eqCV_int C tt3 (d + 0) _ _) rfl)))).trans (congrArg some ?_)
  rw [Bool.eq_iff_iff]
  simp only [Bool.and_eq_true, decide_eq_true_eq, and_true]
  exact ⟨fun h => Api_Op.ext' h.1 h.2.1 h.2.2, fun h => by subst h; simp⟩
theorem Api_Op.eql (x y : Api_Op) (b : Bool) : qbin C .eql 29 b x.cv y.cv = some (Bo (decide (x = y))) := by
  have h := Api_Op.eq 10 x y
  unfold Api_Op.cv at h ⊢
  simp only [qbin]
  rw [h]; rfl
theorem Api_Op.neq (x y : Api_Op) (b : Bool) : qbin C .neq 29 b x.cv y.cv = some (Bo (!decide (x = y))) := by
  have h := Api_Op.eq 10 x y
  unfold Api_Op.cv at h ⊢
  simp only [qbin]
  rw [h]; rfl
theorem Api_Op.at_0 (x : Api_Op) (q : List Nat) : x.cv.at (0 :: q) = (I x.Code).at q := rfl
def Api_Op.upd_0 (x : Api_Op) (v : CV) : CV := .agg [v, I x.A, I x.B]
theorem Api_Op.set_0 (x : Api_Op) (q : List Nat) (v : CV) : x.cv.set (0 :: q) v = Api_Op.upd_0 x ((I x.Code).set q v) := rfl
theorem Api_Op.fold_0 (x : Api_Op) (y : Int) : Api_Op.upd_0 x (I y) = ({ x with Code := y } : Api_Op).cv := rfl
theorem Api_Op.fld_0 (x : Api_Op) : qfield C 29 x.cv 0 = some (I x.Code) := qfield_of C tt29 (Api_Op.shape x) rfl tt3 rfl rfl
theorem Api_Op.rfa_0 (x : Api_Op) (h : Heap) : qfieldAddr C h 29 (.rptr x.cv) 0 = some (.rptr (I x.Code)) := by
  have hs := Api_Op.shape x
  unfold Api_Op.cv at hs ⊢
  simp only [qfieldAddr, tt29, ti29, tgt, hs, if_true, List.getElem?_cons_zero, List.getElem?_cons_succ]
theorem Api_Op.sub_0 (q : List Nat) (z : Shape) : subEq sh29 (0 :: q) z = subEq sh3 q z := rfl
theorem Api_Op.at_1 (x : Api_Op) (q : List Nat) : x.cv.at (1 :: q) = (I x.A).at q := rfl
def Api_Op.upd_1 (x : Api_Op) (v : CV) : CV := .agg [I x.Code, v, I x.B]
theorem Api_Op.set_1 (x : Api_Op) (q : List Nat) (v : CV) : x.cv.set (1 :: q) v = Api_Op.upd_1 x ((I x.A).set q v) := rfl
theorem Api_Op.fold_1 (x : Api_Op) (y : Int) : Api_Op.upd_1 x (I y) = ({ x with A := y } : Api_Op).cv := rfl
theorem Api_Op.fld_1 (x : Api_Op) : qfield C 29 x.cv 1 = some (I x.A) := qfield_of C tt29 (Api_Op.shape x) rfl tt3 rfl rfl
theorem Api_Op.rfa_1 (x : Api_Op) (h : Heap) : qfieldAddr C h 29 (.rptr x.cv) 1 = some (.rptr (I x.A)) := by
  have hs := Api_Op.shape x
  unfold Api_Op.cv at hs ⊢
  simp only [qfieldAddr, tt29, ti29, tgt, hs, if_true, List.getElem?_cons_zero, List.getElem?_cons_succ]
theorem Api_Op.sub_1 (q : List Nat) (z : Shape) : subEq sh29 (1 :: q) z = subEq sh3 q z := rfl
theorem Api_Op.at_2 (x : Api_Op) (q : List Nat) : x.cv.at (2 :: q) = (I x.B).at q := rfl
def Api_Op.upd_2 (x : Api_Op) (v : CV) : CV := .agg [I x.Code, I x.A, v]
theorem Api_Op.set_2 (x : Api_Op) (q : List Nat) (v : CV) : x.cv.set (2 :: q) v = Api_Op.upd_2 x ((I x.B).set q v) := rfl
theorem Api_Op.fold_2 (x : Api_Op) (y : Int) : Api_Op.upd_2 x (I y) = ({ x with B := y } : Api_Op).cv := rfl
theorem Api_Op.fld_2 (x : Api_Op) : qfield C 29 x.cv 2 = some (I x.B) := qfield_of C tt29 (Api_Op.shape x) rfl tt3 rfl rfl
theorem Api_Op.rfa_2 (x : Api_Op) (h : Heap) : qfieldAddr C h 29 (.rptr x.cv) 2 = some (.rptr (I x.B)) := by
  have hs := Api_Op.shape x
  unfold Api_Op.cv at hs ⊢
  simp only [qfieldAddr, tt29, ti29, tgt, hs, if_true, List.getElem?_cons_zero, List.getElem?_cons_succ]
theorem Api_Op.sub_2 (q : List Nat) (z : Shape) : subEq sh29 (2 :: q) z = subEq sh3 q z := rfl
theorem Api_Op.sub_nil : subEq sh29 [] sh29 = true := by simp [subEq, Shape.sub]
theorem Api_Op.alloc : allocObj C (.alloc 29) = some (.var sh29 Api_Op.zero.cv) := by simp only [allocObj, tt29, ti29, Api_Op.zcv]
theorem Api_Op.xalloc (p : Hp) : xalloc C p 29 = .ret (.ptr p.n []) (p.new (.var sh29 Api_Op.zero.cv)) := by simp only [Cl.xalloc, tt29, ti29, Api_Op.zcv]
theorem Api_Op.xbox (p : Hp) (x : Api_Op) : xbox C p 29 x.cv = .ret (.ptr p.n []) (p.new (.var sh29 x.cv)) := by
  have h : Cl.shOk x.cv ti29.sh = true := Api_Op.shOk x
  simp only [Cl.xbox, tt29, h, cond_true]; rfl
theorem Api_Op.bld_0 (a0 : Int) : qbuild C 29 [(0, I a0)] = some (({ Code := a0, A := 0, B := 0 } : Api_Op).cv) := qbuild_of C tt29 (by simp only [partsOk, setAll, CV.shape, sh29, List.all_cons, List.all_nil, List.getElem?_cons_zero, List.getElem?_cons_succ, Bool.and_true, decide_true]) rfl
theorem Api_Op.bld_0_1 (a0 : Int) (a1 : Int) : qbuild C 29 [(0, I a0), (1, I a1)] = some (({ Code := a0, A := a1, B := 0 } : Api_Op).cv) := qbuild_of C tt29 (by simp only [partsOk, setAll, CV.shape, sh29, List.all_cons, List.all_nil, List.getElem?_cons_zero, List.getElem?_cons_succ, Bool.and_true, decide_true]) rfl
theorem Api_Op.bld_0_1_2 (a0 : Int) (a1 : Int) (a2 : Int) : qbuild C 29 [(0, I a0), (1, I a1), (2, I a2)] = some (({ Code := a0, A := a1, B := a2 } : Api_Op).cv) := qbuild_of C tt29 (by simp only [partsOk, setAll, CV.shape, sh29, List.all_cons, List.all_nil, List.getElem?_cons_zero, List.getElem?_cons_succ, Bool.and_true, decide_true]) rfl
structure Hand_RawOp where
  Code : Int
  A : Int
  B : Int
def Hand_RawOp.cv (x : Hand_RawOp) : CV := .agg [I x.Code, I x.A, I x.B]
@[ext] theorem Hand_RawOp.ext' {x y : Hand_RawOp} (h_Code : x.Code = y.Code) (h_A : x.A = y.A) (h_B : x.B = y.B) : x = y := by
  obtain ⟨a0, a1, a2⟩ := x
  obtain ⟨c0, c1, c2⟩ := y
  simp only at h_Code h_A h_B
  subst h_Code h_A h_B
  rfl
def Hand_RawOp.zero : Hand_RawOp := { Code := 0, A := 0, B := 0 }
instance : Inhabited Hand_RawOp := ⟨Hand_RawOp.zero⟩
theorem Hand_RawOp.zcv : z31 = Hand_RawOp.zero.cv := by
  simp only [z31, Hand_RawOp.zero, Hand_RawOp.cv, List.map_replicate, Lst.cv, List.map_nil]
theorem Hand_RawOp.shape (x : Hand_RawOp) : x.cv.shape = sh31 := by simp only [Hand_RawOp.cv, sh31, CV.shape, CV.shapes, Lst.shape]
theorem Hand_RawOp.nohas (x : Hand_RawOp) (j : Nat) : ¬ x.cv.has j := by simp [Hand_RawOp.cv, CV.has, CV.hasL]
instance : DecidableEq Hand_RawOp := fun x y => decidable_of_iff (x.Code = y.Code ∧ x.A = y.A ∧ x.B = y.B) ⟨fun h => Hand_RawOp.ext' h.1 h.2.1 h.2.2, fun h => by subst h; simp⟩
theorem Hand_RawOp.inj {x y : Hand_RawOp} (h : x.cv = y.cv) : x = y := by
  simp only [Hand_RawOp.cv, CV.agg.injEq, List.cons.injEq, and_true] at h
  obtain ⟨h0, h1, h2⟩ := h
  refine Hand_RawOp.ext' (I_inj _ _ h0) (I_inj _ _ h1) (I_inj _ _ h2)
theorem Hand_RawOp.injF (x y : Hand_RawOp) (h : x.cv = y.cv) : x = y := Hand_RawOp.inj h
theorem Hand_RawOp.inj_iff (x y : Hand_RawOp) : x.cv = y.cv ↔ x = y := ⟨Hand_RawOp.inj, fun h => by rw [h]⟩
theorem Hand_RawOp.shOk (x : Hand_RawOp) : Cl.shOk x.cv sh31 = true := shOk_n (Hand_RawOp.shape x) rfl
theorem Hand_RawOp.eq (d : Nat) (x y : Hand_RawOp) : eqCV C (d + 2) 31 x.cv y.cv = some (decide (x = y)) := by
  refine (eqCV_st C (d := d + 1) tt31 (Hand_RawOp.shape x) (Hand_RawOp.shape y) (eqList_c (eqCV_int C tt3 (d + 0) _ _) (eqList_c (eqCV_int C tt3 (d + 0) _ _) (eqList_c (eqCV_int C tt3 (d + 0) _ _) rfl)))).trans (congrArg some ?_)
  rw [Bool.eq_iff_iff]
  simp only [Bool.and_eq_true, decide_eq_true_eq, and_true]
  exact ⟨fun h => Hand_RawOp.ext' h.1 h.2.1 h.2.2, fun h => by subst h; simp⟩
theorem Hand_RawOp.eql (x y : Hand_RawOp) (b : Bool) : qbin C .eql 31 b x.cv y.cv = some (Bo (decide (x = y))) := by
  have h := Hand_RawOp.eq 10 x y
  unfold Hand_RawOp.cv at h ⊢
  simp only [qbin]
  rw [h]; rfl
theorem Hand_RawOp.neq (x y : Hand_RawOp) (b : Bool) : qbin C .neq 31 b x.cv y.cv = some (Bo (!decide (x = y))) := by
  have h := Hand_RawOp.eq 10 x y
  unfold Hand_RawOp.cv at h ⊢
  simp only [qbin]
  rw [h]; rfl
theorem Hand_RawOp.at_0 (x : Hand_RawOp) (q : List Nat) : x.cv.at (0 :: q) = (I x.Code).at q := rfl
def Hand_RawOp.upd_0 (x : Hand_RawOp) (v : CV) : CV := .agg [v, I x.A, I x.B]
theorem Hand_RawOp.set_0 (x : Hand_RawOp) (q : List Nat) (v : CV) : x.cv.set (0 :: q) v = Hand_RawOp.upd_0 x ((I x.Code).set q v) := rfl
theorem Hand_RawOp.fold_0 (x : Hand_RawOp) (y : Int) : Hand_RawOp.upd_0 x (I y) = ({ x with Code := y } : Hand_RawOp).cv := rfl
theorem Hand_RawOp.fld_0 (x : Hand_RawOp) : qfield C 31 x.cv 0 = some (I x.Code) := qfield_of C tt31 (Hand_RawOp.shape x) rfl tt3 rfl rfl
theorem Hand_RawOp.rfa_0 (x : Hand_RawOp) (h : Heap) : qfieldAddr C h 31 (.rptr x.cv) 0 = some (.rptr (I x.Code)) := by
  have hs := Hand_RawOp.shape x
  unfold Hand_RawOp.cv at hs ⊢
  simp only [qfieldAddr, tt31, ti31, tgt, hs, if_true, List.getElem?_cons_zero, List.getElem?_cons_succ]
theorem Hand_RawOp.sub_0 (q : List Nat) (z : Shape) : subEq sh31 (0 :: q) z = subEq sh3 q z := rfl
theorem Hand_RawOp.at_1 (x : Hand_RawOp) (q : List Nat) : x.cv.at (1 :: q) = (I x.A).at q := rfl
def Hand_RawOp.upd_1 (x : Hand_RawOp) (v : CV) : CV := .agg [I x.Code, v, I x.B]
theorem Hand_RawOp.set_1 (x : Hand_RawOp) (q : List Nat) (v : CV) : x.cv.set (1 :: q) v = Hand_RawOp.upd_1 x ((I x.A).set q v) := rfl
theorem Hand_RawOp.fold_1 (x : Hand_RawOp) (y : Int) : Hand_RawOp.upd_1 x (I y) = ({ x with A := y } : Hand_RawOp).cv := rfl
theorem Hand_RawOp.fld_1 (x : Hand_RawOp) : qfield C 31 x.cv 1 = some (I x.A) := qfield_of C tt31 (Hand_RawOp.shape x) rfl tt3 rfl rfl
theorem Hand_RawOp.rfa_1 (x : Hand_RawOp) (h : Heap) : qfieldAddr C h 31 (.rptr x.cv) 1 = some (.rptr (I x.A)) := by
  have hs := Hand_RawOp.shape x
  unfold Hand_RawOp.cv at hs ⊢
  simp only [qfieldAddr, tt31, ti31, tgt, hs, if_true, List.getElem?_cons_zero, List.getElem?_cons_succ]
theorem Hand_RawOp.sub_1 (q : List Nat) (z : Shape) : subEq sh31 (1 :: q) z = subEq sh3 q z := rfl
theorem Hand_RawOp.at_2 (x : Hand_RawOp) (q : List Nat) : x.cv.at (2 :: q) = (I x.B).at q := rfl
def Hand_RawOp.upd_2 (x : Hand_RawOp) (v : CV) : CV := .agg [I x.Code, I x.A, v]
theorem Hand_RawOp.set_2 (x : Hand_RawOp) (q : List Nat) (v : CV) : x.cv.set (2 :: q) v = Hand_RawOp.upd_2 x ((I x.B).set q v) := rfl
theorem Hand_RawOp.fold_2 (x : Hand_RawOp) (y : Int) : Hand_RawOp.upd_2 x (I y) = ({ x with B := y } : Hand_RawOp).cv := rfl
theorem Hand_RawOp.fld_2 (x : Hand_RawOp) : qfield C 31 x.cv 2 = some (I x.B) := qfield_of C tt31 (Hand_RawOp.shape x) rfl tt3 rfl rfl
theorem Hand_RawOp.rfa_2 (x : Hand_RawOp) (h : Heap) : qfieldAddr C h 31 (.rptr x.cv) 2 = some (.rptr (I x.B)) := by
  have hs := Hand_RawOp.shape x
  unfold Hand_RawOp.cv at hs ⊢
  simp only [qfieldAddr, tt31, ti31, tgt, hs, if_true, List.getElem?_cons_zero, List.getElem?_cons_succ]
theorem Hand_RawOp.sub_2 (q : List Nat) (z : Shape) : subEq sh31 (2 :: q) z = subEq sh3 q z := rfl
theorem Hand_RawOp.sub_nil : subEq sh31 [] sh31 = true := by simp [subEq, Shape.sub]
theorem Hand_RawOp.alloc : allocObj C (.alloc 31) = some (.var sh31 Hand_RawOp.zero.cv) := by simp only [allocObj, tt31, ti31, Hand_RawOp.zcv]
theorem Hand_RawOp.xalloc (p : Hp) : xalloc C p 31 = .ret (.ptr p.n []) (p.new (.var sh31 Hand_RawOp.zero.cv)) := by simp only [Cl.xalloc, tt31, ti31, Hand_RawOp.zcv]
theorem Hand_RawOp.xbox (p : Hp) (x : Hand_RawOp) : xbox C p 31 x.cv = .ret (.ptr p.n []) (p.new (.var sh31 x.cv)) := by
  have h : Cl.shOk x.cv ti31.sh = true := Hand_RawOp.shOk x
  simp only [Cl.xbox, tt31, h, cond_true]; rfl
structure Api_Body where
  Kind : Int
  Owner : Int
  X : Int
  Y : Int
  VX : Int
  VY : Int
  Age : Int
  Mem : List Int
  hMem : Mem.length = 4
  Faults : Int
def Api_Body.cv (x : Api_Body) : CV := .agg [I x.Kind, I x.Owner, I x.X, I x.Y, I x.VX, I x.VY, I x.Age, .agg (x.Mem.map I), I x.Faults]
@[ext] theorem Api_Body.ext' {x y : Api_Body} (h_Kind : x.Kind = y.Kind) (h_Owner : x.Owner = y.Owner) (h_X : x.X = y.X) (h_Y : x.Y = y.Y) (h_VX : x.VX = y.VX) (h_VY : x.VY = y.VY) (h_Age : x.Age = y.Age) (h_Mem : x.Mem = y.Mem) (h_Faults : x.Faults = y.Faults) : x = y := by
  obtain ⟨a0, a1, a2, a3, a4, a5, a6, a7, ha, a8⟩ := x
  obtain ⟨c0, c1, c2, c3, c4, c5, c6, c7, hc, c8⟩ := y
  simp only at h_Kind h_Owner h_X h_Y h_VX h_VY h_Age h_Mem h_Faults
  subst h_Kind h_Owner h_X h_Y h_VX h_VY h_Age h_Mem h_Faults
  rfl
def Api_Body.zero : Api_Body := { Kind := 0, Owner := 0, X := 0, Y := 0, VX := 0, VY := 0, Age := 0, Mem := (List.replicate 4 0), hMem := List.length_replicate, Faults := 0 }
instance : Inhabited Api_Body := ⟨Api_Body.zero⟩
theorem Api_Body.zcv : z34 = Api_Body.zero.cv := by
  simp only [z34, Api_Body.zero, Api_Body.cv, z32, List.map_replicate, Lst.cv, List.map_nil]
theorem Api_Body.shape (x : Api_Body) : x.cv.shape = sh34 := by simp only [Api_Body.cv, sh34, CV.shape, CV.shapes, Lst.shape, shapes_map (f := I) (s := Shape.s) (fun _ => rfl), x.hMem, sh32]
theorem Api_Body.nohas (x : Api_Body) (j : Nat) : ¬ x.cv.has j := by simp [Api_Body.cv, CV.has, CV.hasL, hasL_map I_has]
instance : DecidableEq Api_Body := fun x y => decidable_of_iff (x.Kind = y.Kind ∧ x.Owner = y.Owner ∧ x.X = y.X ∧ x.Y = y.Y ∧ x.VX = y.VX ∧ x.VY = y.VY ∧ x.Age = y.Age ∧ x.Mem = y.Mem ∧ x.Faults = y.Faults) ⟨fun h => Api_Body.ext' h.1 h.2.1 h.2.2.1 h.2.2.2.1 h.2.2.2.2.1 h.2.2.2.2.2.1 h.2.2.2.2.2.2.1 h.2.2.2.2.2.2.2.1 h.2.2.2.2.2.2.2.2, fun h => by subst h; simp⟩
theorem Api_Body.inj {x y : Api_Body} (h : x.cv = y.cv) : x = y := by
  simp only [Api_Body.cv, CV.agg.injEq, List.cons.injEq, and_true] at h
  obtain ⟨h0, h1, h2, h3, h4, h5, h6, h7, h8⟩ := h
  refine Api_Body.ext' (I_inj _ _ h0) (I_inj _ _ h1) (I_inj _ _ h2) (I_inj _ _ h3) (I_inj _ _ h4) (I_inj _ _ h5) (I_inj _ _ h6) (map_inj I_inj h7) (I_inj _ _ h8)
theorem Api_Body.injF (x y : Api_Body) (h : x.cv = y.cv) : x = y := Api_Body.inj h
theorem Api_Body.inj_iff (x y : Api_Body) : x.cv = y.cv ↔ x = y := ⟨Api_Body.inj, fun h => by rw [h]⟩
theorem Api_Body.shOk (x : Api_Body) : Cl.shOk x.cv sh34 = true := shOk_n (Api_Body.shape x) rfl
theorem Api_Body.eq (d : Nat) (x y : Api_Body) : eqCV C (d + 3) 34 x.cv y.cv = some (decide (x = y)) := by
  refine (eqCV_st C (d := d + 2) tt34 (Api_Body.shape x) (Api_Body.shape y) (eqList_c (eqCV_int C tt3 (d + 1) _ _) (eqList_c (eqCV_int C tt3 (d + 1) _ _) (eqList_c (eqCV_int C tt3 (d + 1) _ _) (eqList_c (eqCV_int C tt3 (d + 1) _ _) (eqList_c (eqCV_int C tt3 (d + 1) _ _) (eqList_c (eqCV_int C tt3 (d + 1) _ _) (eqList_c (eqCV_int C tt3 (d + 1) _ _) (eqList_c (eqCV_ar C (g := I) (d := d + 1) tt32 rfl (fun _ => rfl) x.hMem y.hMem (eqCV_int C tt3 (d + 0))) (eqList_c (eqCV_int C tt3 (d + 1) _ _) rfl)))))))))).trans (congrArg some ?_)
  rw [Bool.eq_iff_iff]
  simp only [Bool.and_eq_true, decide_eq_true_eq, and_true]
  exact ⟨fun h => Api_Body.ext' h.1 h.2.1 h.2.2.1 h.2.2.2.1 h.2.2.2.2.1 h.2.2.2.2.2.1 h.2.2.2.2.2.2.1 h.2.2.2.2.2.2.2.1 h.2.2.2.2.2.2.2.2, fun h => by subst h; simp⟩
theorem Api_Body.eql (x y : Api_Body) (b : Bool) : qbin C .eql 34 b x.cv y.cv = some (Bo (decide (x = y))) := by
  have h := Api_Body.eq 9 x y
  unfold Api_Body.cv at h ⊢
  simp only [qbin]
  rw [h]; rfl
theorem Api_Body.neq (x y : Api_Body) (b : Bool) : qbin C .neq 34 b x.cv y.cv = some (Bo (!decide (x = y))) := by
  have h := Api_Body.eq 9 x y
  unfold Api_Body.cv at h ⊢
  simp only [qbin]
  rw [h]; rfl
theorem Api_Body.at_0 (x : Api_Body) (q : List Nat) : x.cv.at (0 :: q) = (I x.Kind).at q := rfl
def Api_Body.upd_0 (x : Api_Body) (v : CV) : CV := .agg [v, I x.Owner, I x.X, I x.Y, I x.VX, I x.VY, I x.Age, .agg (x.Mem.map I), I x.Faults]
theorem Api_Body.set_0 (x : Api_Body) (q : List Nat) (v : CV) : x.cv.set (0 :: q) v = Api_Body.upd_0 x ((I x.Kind).set q v) := rfl
theorem Api_Body.fold_0 (x : Api_Body) (y : Int) : Api_Body.upd_0 x (I y) = ({ x with Kind := y } : Api_Body).cv := rfl
theorem Api_Body.fld_0 (x : Api_Body) : qfield C 34 x.cv 0 = some (I x.Kind) := qfield_of C tt34 (Api_Body.shape x) rfl tt3 rfl rfl
theorem Api_Body.rfa_0 (x : Api_Body) (h : Heap) : qfieldAddr C h 34 (.rptr x.cv) 0 = some (.rptr (I x.Kind)) := by
  have hs := Api_Body.shape x
  unfold Api_Body.cv at hs ⊢
  simp only [qfieldAddr, tt34, ti34, tgt, hs, if_true, List.getElem?_cons_zero, List.getElem?_cons_succ]
theorem Api_Body.sub_0 (q : List Nat) (z : Shape) : subEq sh34 (0 :: q) z = subEq sh3 q z := rfl
theorem Api_Body.at_1 (x : Api_Body) (q : List Nat) : x.cv.at (1 :: q) = (I x.Owner).at q := rfl
def Api_Body.upd_1 (x : Api_Body) (v : CV) : CV := .agg [I x.Kind, v, I x.X, I x.Y, I x.VX, I x.VY, I x.Age, .agg (x.Mem.map I), I x.Faults]
theorem Api_Body.set_1 (x : Api_Body) (q : List Nat) (v : CV) : x.cv.set (1 :: q) v = Api_Body.upd_1 x ((I x.Owner).set q v) := rfl
theorem Api_Body.fold_1 (x : Api_Body) (y : Int) : Api_Body.upd_1 x (I y) = ({ x with Owner := y } : Api_Body).cv := rfl
theorem Api_Body.fld_1 (x : Api_Body) : qfield C 34 x.cv 1 = some (I x.Owner) := qfield_of C tt34 (Api_Body.shape x) rfl tt3 rfl rfl
theorem Api_Body.rfa_1 (x : Api_Body) (h : Heap) : qfieldAddr C h 34 (.rptr x.cv) 1 = some (.rptr (I x.Owner)) := by
  have hs := Api_Body.shape x
  unfold Api_Body.cv at hs ⊢
  simp only [qfieldAddr, tt34, ti34, tgt, hs, if_true, List.getElem?_cons_zero, List.getElem?_cons_succ]
theorem Api_Body.sub_1 (q : List Nat) (z : Shape) : subEq sh34 (1 :: q) z = subEq sh3 q z := rfl
theorem Api_Body.at_2 (x : Api_Body) (q : List Nat) : x.cv.at (2 :: q) = (I x.X).at q := rfl
def Api_Body.upd_2 (x : Api_Body) (v : CV) : CV := .agg [I x.Kind, I x.Owner, v, I x.Y, I x.VX, I x.VY, I x.Age, .agg (x.Mem.map I), I x.Faults]
theorem Api_Body.set_2 (x : Api_Body) (q : List Nat) (v : CV) : x.cv.set (2 :: q) v = Api_Body.upd_2 x ((I x.X).set q v) := rfl
theorem Api_Body.fold_2 (x : Api_Body) (y : Int) : Api_Body.upd_2 x (I y) = ({ x with X := y } : Api_Body).cv := rfl
theorem Api_Body.fld_2 (x : Api_Body) : qfield C 34 x.cv 2 = some (I x.X) := qfield_of C tt34 (Api_Body.shape x) rfl tt3 rfl rfl
theorem Api_Body.rfa_2 (x : Api_Body) (h : Heap) : qfieldAddr C h 34 (.rptr x.cv) 2 = some (.rptr (I x.X)) := by
  have hs := Api_Body.shape x
  unfold Api_Body.cv at hs ⊢
  simp only [qfieldAddr, tt34, ti34, tgt, hs, if_true, List.getElem?_cons_zero, List.getElem?_cons_succ]
theorem Api_Body.sub_2 (q : List Nat) (z : Shape) : subEq sh34 (2 :: q) z = subEq sh3 q z := rfl
theorem Api_Body.at_3 (x : Api_Body) (q : List Nat) : x.cv.at (3 :: q) = (I x.Y).at q := rfl
def Api_Body.upd_3 (x : Api_Body) (v : CV) : CV := .agg [I x.Kind, I x.Owner, I x.X, v, I x.VX, I x.VY, I x.Age, .agg (x.Mem.map I), I x.Faults]
theorem Api_Body.set_3 (x : Api_Body) (q : List Nat) (v : CV) : x.cv.set (3 :: q) v = Api_Body.upd_3 x ((I x.Y).set q v) := rfl
theorem Api_Body.fold_3 (x : Api_Body) (y : Int) : Api_Body.upd_3 x (I y) = ({ x with Y := y } : Api_Body).cv := rfl
theorem Api_Body.fld_3 (x : Api_Body) : qfield C 34 x.cv 3 = some (I x.Y) := qfield_of C tt34 (Api_Body.shape x) rfl tt3 rfl rfl
theorem Api_Body.rfa_3 (x : Api_Body) (h : Heap) : qfieldAddr C h 34 (.rptr x.cv) 3 = some (.rptr (I x.Y)) := by
  have hs := Api_Body.shape x
  unfold Api_Body.cv at hs ⊢
  simp only [qfieldAddr, tt34, ti34, tgt, hs, if_true, List.getElem?_cons_zero, List.getElem?_cons_succ]
theorem Api_Body.sub_3 (q : List Nat) (z : Shape) : subEq sh34 (3 :: q) z = subEq sh3 q z := rfl
theorem Api_Body.at_4 (x : Api_Body) (q : List Nat) : x.cv.at (4 :: q) = (I x.VX).at q := rfl
def Api_Body.upd_4 (x : Api_Body) (v : CV) : CV := .agg [I x.Kind, I x.Owner, I x.X, I x.Y, v, I x.VY, I x.Age, .agg (x.Mem.map I), I x.Faults]
theorem Api_Body.set_4 (x : Api_Body) (q : List Nat) (v : CV) : x.cv.set (4 :: q) v = Api_Body.upd_4 x ((I x.VX).set q v) := rfl
theorem Api_Body.fold_4 (x : Api_Body) (y : Int) : Api_Body.upd_4 x (I y) = ({ x with VX := y } : Api_Body).cv := rfl
theorem Api_Body.fld_4 (x : Api_Body) : qfield C 34 x.cv 4 = some (I x.VX) := qfield_of C tt34 (Api_Body.shape x) rfl tt3 rfl rfl
theorem Api_Body.rfa_4 (x : Api_Body) (h : Heap) : qfieldAddr C h 34 (.rptr x.cv) 4 = some (.rptr (I x.VX)) := by
  have hs := Api_Body.shape x
  unfold Api_Body.cv at hs ⊢
  simp only [qfieldAddr, tt34, ti34, tgt, hs, if_true, List.getElem?_cons_zero, List.getElem?_cons_succ]
theorem Api_Body.sub_4 (q : List Nat) (z : Shape) : subEq sh34 (4 :: q) z = subEq sh3 q z := rfl
theorem Api_Body.at_5 (x : Api_Body) (q : List Nat) : x.cv.at (5 :: q) = (I x.VY).at q := rfl
def Api_Body.upd_5 (x : Api_Body) (v : CV) : CV := .agg [I x.Kind, I x.Owner, I x.X, I x.Y, I x.VX, v, I x.Age, .agg (x.Mem.map I), I x.Faults]
theorem Api_Body.set_5 (x : Api_Body) (q : List Nat) (v : CV) : x.cv.set (5 :: q) v = Api_Body.upd_5 x ((I x.VY).set q v) := rfl
theorem Api_Body.fold_5 (x : Api_Body) (y : Int) : Api_Body.upd_5 x (I y) = ({ x with VY := y } : Api_Body).cv := rfl
theorem Api_Body.fld_5 (x : Api_Body) : qfield C 34 x.cv 5 = some (I x.VY) := qfield_of C tt34 (Api_Body.shape x) rfl tt3 rfl rfl
theorem Api_Body.rfa_5 (x : Api_Body) (h : Heap) : qfieldAddr C h 34 (.rptr x.cv) 5 = some (.rptr (I x.VY)) := by
  have hs := Api_Body.shape x
  unfold Api_Body.cv at hs ⊢
  simp only [qfieldAddr, tt34, ti34, tgt, hs, if_true, List.getElem?_cons_zero, List.getElem?_cons_succ]
theorem Api_Body.sub_5 (q : List Nat) (z : Shape) : subEq sh34 (5 :: q) z = subEq sh3 q z := rfl
theorem Api_Body.at_6 (x : Api_Body) (q : List Nat) : x.cv.at (6 :: q) = (I x.Age).at q := rfl
def Api_Body.upd_6 (x : Api_Body) (v : CV) : CV := .agg [I x.Kind, I x.Owner, I x.X, I x.Y, I x.VX, I x.VY, v, .agg (x.Mem.map I), I x.Faults]
theorem Api_Body.set_6 (x : Api_Body) (q : List Nat) (v : CV) : x.cv.set (6 :: q) v = Api_Body.upd_6 x ((I x.Age).set q v) := rfl
theorem Api_Body.fold_6 (x : Api_Body) (y : Int) : Api_Body.upd_6 x (I y) = ({ x with Age := y } : Api_Body).cv := rfl
theorem Api_Body.fld_6 (x : Api_Body) : qfield C 34 x.cv 6 = some (I x.Age) := qfield_of C tt34 (Api_Body.shape x) rfl tt3 rfl rfl
theorem Api_Body.rfa_6 (x : Api_Body) (h : Heap) : qfieldAddr C h 34 (.rptr x.cv) 6 = some (.rptr (I x.Age)) := by
  have hs := Api_Body.shape x
  unfold Api_Body.cv at hs ⊢
  simp only [qfieldAddr, tt34, ti34, tgt, hs, if_true, List.getElem?_cons_zero, List.getElem?_cons_succ]
theorem Api_Body.sub_6 (q : List Nat) (z : Shape) : subEq sh34 (6 :: q) z = subEq sh3 q z := rfl
theorem Api_Body.at_7 (x : Api_Body) : x.cv.at [7] = some (.agg (x.Mem.map I)) := rfl
theorem Api_Body.at_7k (x : Api_Body) (k : Nat) (q : List Nat) (h : k < 4) : x.cv.at (7 :: k :: q) = (I (nth x.Mem k)).at q := by
  show (CV.agg (x.Mem.map I)).at (k :: q) = _
  exact arr_at _ (by rw [x.hMem]; exact h) q
def Api_Body.upd_7 (x : Api_Body) (v : CV) : CV := .agg [I x.Kind, I x.Owner, I x.X, I x.Y, I x.VX, I x.VY, I x.Age, v, I x.Faults]
def Api_Body.upd_7k (x : Api_Body) (k : Nat) (v : CV) : CV := .agg [I x.Kind, I x.Owner, I x.X, I x.Y, I x.VX, I x.VY, I x.Age, .agg ((x.Mem.map I).set k v), I x.Faults]
theorem Api_Body.set_7 (x : Api_Body) (v : CV) : x.cv.set [7] v = Api_Body.upd_7 x v := by simp [Api_Body.cv, Api_Body.upd_7, CV.set, set_nil]
theorem Api_Body.set_7k (x : Api_Body) (k : Nat) (q : List Nat) (v : CV) (h : k < 4) : x.cv.set (7 :: k :: q) v = Api_Body.upd_7k x k ((I (nth x.Mem k)).set q v) := by
  have e : x.cv.set (7 :: k :: q) v = Api_Body.upd_7 x ((CV.agg (x.Mem.map I)).set (k :: q) v) := rfl
  rw [e, arr_set _ (by rw [x.hMem]; exact h)]; rfl
def Api_Body.put_7k (x : Api_Body) (k : Nat) (y : Int) : Api_Body := { x with Mem := x.Mem.set k y, hMem := by rw [List.length_set]; exact x.hMem }
theorem Api_Body.fold_7k (x : Api_Body) (k : Nat) (y : Int) : Api_Body.upd_7k x k (I y) = (Api_Body.put_7k x k y).cv := by simp only [Api_Body.upd_7k, Api_Body.put_7k, Api_Body.cv, List.map_set]
theorem Api_Body.fold_7 (x : Api_Body) (l : List Int) (h : l.length = 4) : Api_Body.upd_7 x (.agg (l.map I)) = ({ x with Mem := l, hMem := h } : Api_Body).cv := rfl
theorem Api_Body.fld_7 (x : Api_Body) : qfield C 34 x.cv 7 = some (.agg (x.Mem.map I)) := qfield_of C tt34 (Api_Body.shape x) rfl tt32 rfl (shOk_n (sh := sh32) (by simp only [CV.shape, shapes_map (f := I) (s := Shape.s) (fun _ => rfl), x.hMem, sh32]) rfl)
theorem Api_Body.rfa_7 (x : Api_Body) (h : Heap) : qfieldAddr C h 34 (.rptr x.cv) 7 = some (.rptr (.agg (x.Mem.map I))) := by
  have hs := Api_Body.shape x
  unfold Api_Body.cv at hs ⊢
  simp only [qfieldAddr, tt34, ti34, tgt, hs, if_true, List.getElem?_cons_zero, List.getElem?_cons_succ]
theorem Api_Body.sub_7k (k : Nat) (q : List Nat) (z : Shape) : subEq sh34 (7 :: k :: q) z = (decide (k < 4) && subEq sh3 q z) := sub_rep 4 k q sh3 z
theorem Api_Body.sub_7 (z : Shape) : subEq sh34 [7] z = subEq sh32 [] z := rfl
theorem Api_Body.at_8 (x : Api_Body) (q : List Nat) : x.cv.at (8 :: q) = (I x.Faults).at q := rfl
def Api_Body.upd_8 (x : Api_Body) (v : CV) : CV := .agg [I x.Kind, I x.Owner, I x.X, I x.Y, I x.VX, I x.VY, I x.Age, .agg (x.Mem.map I), v]
theorem Api_Body.set_8 (x : Api_Body) (q : List Nat) (v : CV) : x.cv.set (8 :: q) v = Api_Body.upd_8 x ((I x.Faults).set q v) := rfl
theorem Api_Body.fold_8 (x : Api_Body) (y : Int) : Api_Body.upd_8 x (I y) = ({ x with Faults := y } : Api_Body).cv := rfl
theorem Api_Body.fld_8 (x : Api_Body) : qfield C 34 x.cv 8 = some (I x.Faults) := qfield_of C tt34 (Api_Body.shape x) rfl tt3 rfl rfl
theorem Api_Body.rfa_8 (x : Api_Body) (h : Heap) : qfieldAddr C h 34 (.rptr x.cv) 8 = some (.rptr (I x.Faults)) := by
  have hs := Api_Body.shape x
  unfold Api_Body.cv at hs ⊢
  simp only [qfieldAddr, tt34, ti34, tgt, hs, if_true, List.getElem?_cons_zero, List.getElem?_cons_succ]
theorem Api_Body.sub_8 (q : List Nat) (z : Shape) : subEq sh34 (8 :: q) z = subEq sh3 q z := rfl
theorem Api_Body.sub_nil : subEq sh34 [] sh34 = true := by simp [subEq, Shape.sub]
theorem Api_Body.alloc : allocObj C (.alloc 34) = some (.var sh34 Api_Body.zero.cv) := by simp only [allocObj, tt34, ti34, Api_Body.zcv]
theorem Api_Body.xalloc (p : Hp) : xalloc C p 34 = .ret (.ptr p.n []) (p.new (.var sh34 Api_Body.zero.cv)) := by simp only [Cl.xalloc, tt34, ti34, Api_Body.zcv]
theorem Api_Body.xbox (p : Hp) (x : Api_Body) : xbox C p 34 x.cv = .ret (.ptr p.n []) (p.new (.var sh34 x.cv)) := by
  have h : Cl.shOk x.cv ti34.sh = true := Api_Body.shOk x
  simp only [Cl.xbox, tt34, h, cond_true]; rfl
theorem Api_Body.bld_none  : qbuild C 34 [] = some (({ Kind := 0, Owner := 0, X := 0, Y := 0, VX := 0, VY := 0, Age := 0, Mem := (List.replicate 4 0), hMem := List.length_replicate, Faults := 0 } : Api_Body).cv) := qbuild_of C tt34 (by simp only [partsOk, setAll, CV.shape, sh34, List.all_cons, List.all_nil, List.getElem?_cons_zero, List.getElem?_cons_succ, Bool.and_true, decide_true]) rfl
theorem Api_Body.bld_0 (a0 : Int) : qbuild C 34 [(0, I a0)] = some (({ Kind := a0, Owner := 0, X := 0, Y := 0, VX := 0, VY := 0, Age := 0, Mem := (List.replicate 4 0), hMem := List.length_replicate, Faults := 0 } : Api_Body).cv) := qbuild_of C tt34 (by simp only [partsOk, setAll, CV.shape, sh34, List.all_cons, List.all_nil, List.getElem?_cons_zero, List.getElem?_cons_succ, Bool.and_true, decide_true]) rfl
theorem Api_Body.bld_0_1_2_3 (a0 : Int) (a1 : Int) (a2 : Int) (a3 : Int) : qbuild C 34 [(0, I a0), (1, I a1), (2, I a2), (3, I a3)] = some (({ Kind := a0, Owner := a1, X := a2, Y := a3, VX := 0, VY := 0, Age := 0, Mem := (List.replicate 4 0), hMem := List.length_replicate, Faults := 0 } : Api_Body).cv) := qbuild_of C tt34 (by simp only [partsOk, setAll, CV.shape, sh34, List.all_cons, List.all_nil, List.getElem?_cons_zero, List.getElem?_cons_succ, Bool.and_true, decide_true]) rfl
theorem Api_Body.bld_0_1_2_3_4_5 (a0 : Int) (a1 : Int) (a2 : Int) (a3 : Int) (a4 : Int) (a5 : Int) : qbuild C 34 [(0, I a0), (1, I a1), (2, I a2), (3, I a3), (4, I a4), (5, I a5)] = some (({ Kind := a0, Owner := a1, X := a2, Y := a3, VX := a4, VY := a5, Age := 0, Mem := (List.replicate 4 0), hMem := List.length_replicate, Faults := 0 } : Api_Body).cv) := qbuild_of C tt34 (by simp only [partsOk, setAll, CV.shape, sh34, List.all_cons, List.all_nil, List.getElem?_cons_zero, List.getElem?_cons_succ, Bool.and_true, decide_true]) rfl
structure Api_Input where
  Buttons : Int
  X : Int
  Y : Int
def Api_Input.cv (x : Api_Input) : CV := .agg [I x.Buttons, I x.X, I x.Y]
@[ext] theorem Api_Input.ext' {x y : Api_Input} (h_Buttons : x.Buttons = y.Buttons) (h_X : x.X = y.X) (h_Y : x.Y = y.Y) : x = y := by
  obtain ⟨a0, a1, a2⟩ := x
  obtain ⟨c0, c1, c2⟩ := y
  simp only at h_Buttons h_X h_Y
  subst h_Buttons h_X h_Y
  rfl
def Api_Input.zero : Api_Input := { Buttons := 0, X := 0, Y := 0 }
instance : Inhabited Api_Input := ⟨Api_Input.zero⟩
theorem Api_Input.zcv : z36 = Api_Input.zero.cv := by
  simp only [z36, Api_Input.zero, Api_Input.cv, List.map_replicate, Lst.cv, List.map_nil]
theorem Api_Input.shape (x : Api_Input) : x.cv.shape = sh36 := by simp only [Api_Input.cv, sh36, CV.shape, CV.shapes, Lst.shape]
theorem Api_Input.nohas (x : Api_Input) (j : Nat) : ¬ x.cv.has j := by simp [Api_Input.cv, CV.has, CV.hasL]
instance : DecidableEq Api_Input := fun x y => decidable_of_iff (x.Buttons = y.Buttons ∧ x.X = y.X ∧ x.Y = y.Y) ⟨fun h => Api_Input.ext' h.1 h.2.1 h.2.2, fun h => by subst h; simp⟩
theorem Api_Input.inj {x y : Api_Input} (h : x.cv = y.cv) : x = y := by
  simp only [Api_Input.cv, CV.agg.injEq, List.cons.injEq, and_true] at h
  obtain ⟨h0, h1, h2⟩ := h
  refine Api_Input.ext' (I_inj _ _ h0) (I_inj _ _ h1) (I_inj _ _ h2)
theorem Api_Input.injF (x y : Api_Input) (h : x.cv = y.cv) : x = y := Api_Input.inj h
theorem Api_Input.inj_iff (x y : Api_Input) : x.cv = y.cv ↔ x = y := ⟨Api_Input.inj, fun h => by rw [h]⟩
theorem Api_Input.shOk (x : Api_Input) : Cl.shOk x.cv sh36 = true := shOk_n (Api_Input.shape x) rfl
theorem Api_Input.eq (d : Nat) (x y : Api_Input) : eqCV C (d + 2) 36 x.cv y.cv = some (decide (x = y)) := by
  refine (eqCV_st C (d := d + 1) tt36 (Api_Input.shape x) (Api_Input.shape y) (eqList_c (eqCV_int C tt3 (d + 0) _ _) (eqList_c (eqCV_int C tt3 (d + 0) _ _) (eqList_c (eqCV_int C tt3 (d + 0) _ _) rfl)))).trans (congrArg some ?_)
  rw [Bool.eq_iff_iff]
  simp only [Bool.and_eq_true, decide_eq_true_eq, and_true]
  exact ⟨fun h => Api_Input.ext' h.1 h.2.1 h.2.2, fun h => by subst h; simp⟩
theorem Api_Input.eql (x y : Api_Input) (b : Bool) : qbin C .eql 36 b x.cv y.cv = some (Bo (decide (x = y))) := by
  have h := Api_Input.eq 10 x y
  unfold Api_Input.cv at h ⊢
  simp only [qbin]
  rw [h]; rfl
theorem Api_Input.neq (x y : Api_Input) (b : Bool) : qbin C .neq 36 b x.cv y.cv = some (Bo (!decide (x = y))) := by
  have h := Api_Input.eq 10 x y
  unfold Api_Input.cv at h ⊢
  simp only [qbin]
  rw [h]; rfl
theorem Api_Input.at_0 (x : Api_Input) (q : List Nat) : x.cv.at (0 :: q) = (I x.Buttons).at q := rfl
def Api_Input.upd_0 (x : Api_Input) (v : CV) : CV := .agg [v, I x.X, I x.Y]
theorem Api_Input.set_0 (x : Api_Input) (q : List Nat) (v : CV) : x.cv.set (0 :: q) v = Api_Input.upd_0 x ((I x.Buttons).set q v) := rfl
theorem Api_Input.fold_0 (x : Api_Input) (y : Int) : Api_Input.upd_0 x (I y) = ({ x with Buttons := y } : Api_Input).cv := rfl
theorem Api_Input.fld_0 (x : Api_Input) : qfield C 36 x.cv 0 = some (I x.Buttons) := qfield_of C tt36 (Api_Input.shape x) rfl tt3 rfl rfl
theorem Api_Input.rfa_0 (x : Api_Input) (h : Heap) : qfieldAddr C h 36 (.rptr x.cv) 0 = some (.rptr (I x.Buttons)) := by
  have hs := Api_Input.shape x
  unfold Api_Input.cv at hs ⊢
  simp only [qfieldAddr, tt36, ti36, tgt, hs, if_true, List.getElem?_cons_zero, List.getElem?_cons_succ]
theorem Api_Input.sub_0 (q : List Nat) (z : Shape) : subEq sh36 (0 :: q) z = subEq sh3 q z := rfl
theorem Api_Input.at_1 (x : Api_Input) (q : List Nat) : x.cv.at (1 :: q) = (I x.X).at q := rfl
def Api_Input.upd_1 (x : Api_Input) (v : CV) : CV := .agg [I x.Buttons, v, I x.Y]
theorem Api_Input.set_1 (x : Api_Input) (q : List Nat) (v : CV) : x.cv.set (1 :: q) v = Api_Input.upd_1 x ((I x.X).set q v) := rfl
theorem Api_Input.fold_1 (x : Api_Input) (y : Int) : Api_Input.upd_1 x (I y) = ({ x with X := y } : Api_Input).cv := rfl
theorem Api_Input.fld_1 (x : Api_Input) : qfield C 36 x.cv 1 = some (I x.X) := qfield_of C tt36 (Api_Input.shape x) rfl tt3 rfl rfl
theorem Api_Input.rfa_1 (x : Api_Input) (h : Heap) : qfieldAddr C h 36 (.rptr x.cv) 1 = some (.rptr (I x.X)) := by
  have hs := Api_Input.shape x
  unfold Api_Input.cv at hs ⊢
  simp only [qfieldAddr, tt36, ti36, tgt, hs, if_true, List.getElem?_cons_zero, List.getElem?_cons_succ]
theorem Api_Input.sub_1 (q : List Nat) (z : Shape) : subEq sh36 (1 :: q) z = subEq sh3 q z := rfl
theorem Api_Input.at_2 (x : Api_Input) (q : List Nat) : x.cv.at (2 :: q) = (I x.Y).at q := rfl
def Api_Input.upd_2 (x : Api_Input) (v : CV) : CV := .agg [I x.Buttons, I x.X, v]
theorem Api_Input.set_2 (x : Api_Input) (q : List Nat) (v : CV) : x.cv.set (2 :: q) v = Api_Input.upd_2 x ((I x.Y).set q v) := rfl
theorem Api_Input.fold_2 (x : Api_Input) (y : Int) : Api_Input.upd_2 x (I y) = ({ x with Y := y } : Api_Input).cv := rfl
theorem Api_Input.fld_2 (x : Api_Input) : qfield C 36 x.cv 2 = some (I x.Y) := qfield_of C tt36 (Api_Input.shape x) rfl tt3 rfl rfl
theorem Api_Input.rfa_2 (x : Api_Input) (h : Heap) : qfieldAddr C h 36 (.rptr x.cv) 2 = some (.rptr (I x.Y)) := by
  have hs := Api_Input.shape x
  unfold Api_Input.cv at hs ⊢
  simp only [qfieldAddr, tt36, ti36, tgt, hs, if_true, List.getElem?_cons_zero, List.getElem?_cons_succ]
theorem Api_Input.sub_2 (q : List Nat) (z : Shape) : subEq sh36 (2 :: q) z = subEq sh3 q z := rfl
theorem Api_Input.sub_nil : subEq sh36 [] sh36 = true := by simp [subEq, Shape.sub]
theorem Api_Input.alloc : allocObj C (.alloc 36) = some (.var sh36 Api_Input.zero.cv) := by simp only [allocObj, tt36, ti36, Api_Input.zcv]
theorem Api_Input.xalloc (p : Hp) : xalloc C p 36 = .ret (.ptr p.n []) (p.new (.var sh36 Api_Input.zero.cv)) := by simp only [Cl.xalloc, tt36, ti36, Api_Input.zcv]
theorem Api_Input.xbox (p : Hp) (x : Api_Input) : xbox C p 36 x.cv = .ret (.ptr p.n []) (p.new (.var sh36 x.cv)) := by
  have h : Cl.shOk x.cv ti36.sh = true := Api_Input.shOk x
  simp only [Cl.xbox, tt36, h, cond_true]; rfl
theorem Api_Input.bld_none  : qbuild C 36 [] = some (({ Buttons := 0, X := 0, Y := 0 } : Api_Input).cv) := qbuild_of C tt36 (by simp only [partsOk, setAll, CV.shape, sh36, List.all_cons, List.all_nil, List.getElem?_cons_zero, List.getElem?_cons_succ, Bool.and_true, decide_true]) rfl
theorem Api_Input.bld_0_1 (a0 : Int) (a1 : Int) : qbuild C 36 [(0, I a0), (1, I a1)] = some (({ Buttons := a0, X := a1, Y := 0 } : Api_Input).cv) := qbuild_of C tt36 (by simp only [partsOk, setAll, CV.shape, sh36, List.all_cons, List.all_nil, List.getElem?_cons_zero, List.getElem?_cons_succ, Bool.and_true, decide_true]) rfl
theorem Api_Input.bld_0_1_2 (a0 : Int) (a1 : Int) (a2 : Int) : qbuild C 36 [(0, I a0), (1, I a1), (2, I a2)] = some (({ Buttons := a0, X := a1, Y := a2 } : Api_Input).cv) := qbuild_of C tt36 (by simp only [partsOk, setAll, CV.shape, sh36, List.all_cons, List.all_nil, List.getElem?_cons_zero, List.getElem?_cons_succ, Bool.and_true, decide_true]) rfl
theorem Api_Input.bld_1 (a1 : Int) : qbuild C 36 [(1, I a1)] = some (({ Buttons := 0, X := a1, Y := 0 } : Api_Input).cv) := qbuild_of C tt36 (by simp only [partsOk, setAll, CV.shape, sh36, List.all_cons, List.all_nil, List.getElem?_cons_zero, List.getElem?_cons_succ, Bool.and_true, decide_true]) rfl
structure Rule_Env where
  Body : Api_Body
  In : Api_Input
  Dice : Int
  Room : Int
  Shots : Lst Api_Body
def Rule_Env.cv (x : Rule_Env) : CV := .agg [Api_Body.cv x.Body, Api_Input.cv x.In, U x.Dice, I x.Room, (Lst.cv Api_Body.cv) x.Shots]
@[ext] theorem Rule_Env.ext' {x y : Rule_Env} (h_Body : x.Body = y.Body) (h_In : x.In = y.In) (h_Dice : x.Dice = y.Dice) (h_Room : x.Room = y.Room) (h_Shots : x.Shots = y.Shots) : x = y := by
  obtain ⟨a0, a1, a2, a3, a4⟩ := x
  obtain ⟨c0, c1, c2, c3, c4⟩ := y
  simp only at h_Body h_In h_Dice h_Room h_Shots
  subst h_Body h_In h_Dice h_Room h_Shots
  rfl
def Rule_Env.zero : Rule_Env := { Body := Api_Body.zero, In := Api_Input.zero, Dice := 0, Room := 0, Shots := ⟨.nil, [], fun _ => rfl⟩ }
instance : Inhabited Rule_Env := ⟨Rule_Env.zero⟩
theorem Rule_Env.zcv : z39 = Rule_Env.zero.cv := by
  simp only [z39, Rule_Env.zero, Rule_Env.cv, Api_Body.zcv, Api_Input.zcv, List.map_replicate, Lst.cv, List.map_nil]
theorem Rule_Env.shape (x : Rule_Env) : x.cv.shape = sh39 := by simp only [Rule_Env.cv, sh39, CV.shape, CV.shapes, Api_Body.shape, Api_Input.shape, Lst.shape]
theorem Rule_Env.has (x : Rule_Env) (j : Nat) : x.cv.has j ↔ x.Shots.tl = .own j := by simp [Rule_Env.cv, CV.has, CV.hasL, Api_Body.nohas, Api_Input.nohas, Lst.has _ Api_Body.nohas]
theorem Rule_Env.inj {x y : Rule_Env} (h : x.cv = y.cv) : x = y := by
  simp only [Rule_Env.cv, CV.agg.injEq, List.cons.injEq, and_true] at h
  obtain ⟨h0, h1, h2, h3, h4⟩ := h
  refine Rule_Env.ext' (Api_Body.injF _ _ h0) (Api_Input.injF _ _ h1) (U_inj _ _ h2) (I_inj _ _ h3) ((Lst.injF Api_Body.injF) _ _ h4)
theorem Rule_Env.injF (x y : Rule_Env) (h : x.cv = y.cv) : x = y := Rule_Env.inj h
theorem Rule_Env.inj_iff (x y : Rule_Env) : x.cv = y.cv ↔ x = y := ⟨Rule_Env.inj, fun h => by rw [h]⟩
theorem Rule_Env.shOk (x : Rule_Env) : Cl.shOk x.cv sh39 = true := shOk_n (Rule_Env.shape x) rfl
theorem Rule_Env.at_0 (x : Rule_Env) (q : List Nat) : x.cv.at (0 :: q) = (Api_Body.cv x.Body).at q := rfl
def Rule_Env.upd_0 (x : Rule_Env) (v : CV) : CV := .agg [v, Api_Input.cv x.In, U x.Dice, I x.Room, (Lst.cv Api_Body.cv) x.Shots]
theorem Rule_Env.set_0 (x : Rule_Env) (q : List Nat) (v : CV) : x.cv.set (0 :: q) v = Rule_Env.upd_0 x ((Api_Body.cv x.Body).set q v) := rfl
theorem Rule_Env.fold_0 (x : Rule_Env) (y : Api_Body) : Rule_Env.upd_0 x (Api_Body.cv y) = ({ x with Body := y } : Rule_Env).cv := rfl
theorem Rule_Env.fld_0 (x : Rule_Env) : qfield C 39 x.cv 0 = some (Api_Body.cv x.Body) := qfield_of C tt39 (Rule_Env.shape x) rfl tt34 rfl (Api_Body.shOk _)
theorem Rule_Env.rfa_0 (x : Rule_Env) (h : Heap) : qfieldAddr C h 39 (.rptr x.cv) 0 = some (.rptr (Api_Body.cv x.Body)) := by
  have hs := Rule_Env.shape x
  unfold Rule_Env.cv at hs ⊢
  simp only [qfieldAddr, tt39, ti39, tgt, hs, if_true, List.getElem?_cons_zero, List.getElem?_cons_succ]
theorem Rule_Env.sub_0 (q : List Nat) (z : Shape) : subEq sh39 (0 :: q) z = subEq sh34 q z := rfl
theorem Rule_Env.at_1 (x : Rule_Env) (q : List Nat) : x.cv.at (1 :: q) = (Api_Input.cv x.In).at q := rfl
def Rule_Env.upd_1 (x : Rule_Env) (v : CV) : CV := .agg [Api_Body.cv x.Body, v, U x.Dice, I x.Room, (Lst.cv Api_Body.cv) x.Shots]
theorem Rule_Env.set_1 (x : Rule_Env) (q : List Nat) (v : CV) : x.cv.set (1 :: q) v = Rule_Env.upd_1 x ((Api_Input.cv x.In).set q v) := rfl
theorem Rule_Env.fold_1 (x : Rule_Env) (y : Api_Input) : Rule_Env.upd_1 x (Api_Input.cv y) = ({ x with In := y } : Rule_Env).cv := rfl
theorem Rule_Env.fld_1 (x : Rule_Env) : qfield C 39 x.cv 1 = some (Api_Input.cv x.In) := qfield_of C tt39 (Rule_Env.shape x) rfl tt36 rfl (Api_Input.shOk _)
theorem Rule_Env.rfa_1 (x : Rule_Env) (h : Heap) : qfieldAddr C h 39 (.rptr x.cv) 1 = some (.rptr (Api_Input.cv x.In)) := by
  have hs := Rule_Env.shape x
  unfold Rule_Env.cv at hs ⊢
  simp only [qfieldAddr, tt39, ti39, tgt, hs, if_true, List.getElem?_cons_zero, List.getElem?_cons_succ]
theorem Rule_Env.sub_1 (q : List Nat) (z : Shape) : subEq sh39 (1 :: q) z = subEq sh36 q z := rfl
theorem Rule_Env.at_2 (x : Rule_Env) (q : List Nat) : x.cv.at (2 :: q) = (U x.Dice).at q := rfl
def Rule_Env.upd_2 (x : Rule_Env) (v : CV) : CV := .agg [Api_Body.cv x.Body, Api_Input.cv x.In, v, I x.Room, (Lst.cv Api_Body.cv) x.Shots]
theorem Rule_Env.set_2 (x : Rule_Env) (q : List Nat) (v : CV) : x.cv.set (2 :: q) v = Rule_Env.upd_2 x ((U x.Dice).set q v) := rfl
theorem Rule_Env.fold_2 (x : Rule_Env) (y : Int) : Rule_Env.upd_2 x (U y) = ({ x with Dice := y } : Rule_Env).cv := rfl
theorem Rule_Env.fld_2 (x : Rule_Env) : qfield C 39 x.cv 2 = some (U x.Dice) := qfield_of C tt39 (Rule_Env.shape x) rfl tt25 rfl rfl
theorem Rule_Env.rfa_2 (x : Rule_Env) (h : Heap) : qfieldAddr C h 39 (.rptr x.cv) 2 = some (.rptr (U x.Dice)) := by
  have hs := Rule_Env.shape x
  unfold Rule_Env.cv at hs ⊢
  simp only [qfieldAddr, tt39, ti39, tgt, hs, if_true, List.getElem?_cons_zero, List.getElem?_cons_succ]
theorem Rule_Env.sub_2 (q : List Nat) (z : Shape) : subEq sh39 (2 :: q) z = subEq sh25 q z := rfl
theorem Rule_Env.at_3 (x : Rule_Env) (q : List Nat) : x.cv.at (3 :: q) = (I x.Room).at q := rfl
def Rule_Env.upd_3 (x : Rule_Env) (v : CV) : CV := .agg [Api_Body.cv x.Body, Api_Input.cv x.In, U x.Dice, v, (Lst.cv Api_Body.cv) x.Shots]
theorem Rule_Env.set_3 (x : Rule_Env) (q : List Nat) (v : CV) : x.cv.set (3 :: q) v = Rule_Env.upd_3 x ((I x.Room).set q v) := rfl
theorem Rule_Env.fold_3 (x : Rule_Env) (y : Int) : Rule_Env.upd_3 x (I y) = ({ x with Room := y } : Rule_Env).cv := rfl
theorem Rule_Env.fld_3 (x : Rule_Env) : qfield C 39 x.cv 3 = some (I x.Room) := qfield_of C tt39 (Rule_Env.shape x) rfl tt3 rfl rfl
theorem Rule_Env.rfa_3 (x : Rule_Env) (h : Heap) : qfieldAddr C h 39 (.rptr x.cv) 3 = some (.rptr (I x.Room)) := by
  have hs := Rule_Env.shape x
  unfold Rule_Env.cv at hs ⊢
  simp only [qfieldAddr, tt39, ti39, tgt, hs, if_true, List.getElem?_cons_zero, List.getElem?_cons_succ]
theorem Rule_Env.sub_3 (q : List Nat) (z : Shape) : subEq sh39 (3 :: q) z = subEq sh3 q z := rfl
theorem Rule_Env.at_4 (x : Rule_Env) (q : List Nat) : x.cv.at (4 :: q) = ((Lst.cv Api_Body.cv) x.Shots).at q := rfl
def Rule_Env.upd_4 (x : Rule_Env) (v : CV) : CV := .agg [Api_Body.cv x.Body, Api_Input.cv x.In, U x.Dice, I x.Room, v]
theorem Rule_Env.set_4 (x : Rule_Env) (q : List Nat) (v : CV) : x.cv.set (4 :: q) v = Rule_Env.upd_4 x (((Lst.cv Api_Body.cv) x.Shots).set q v) := rfl
theorem Rule_Env.fold_4 (x : Rule_Env) (y : Lst Api_Body) : Rule_Env.upd_4 x ((Lst.cv Api_Body.cv) y) = ({ x with Shots := y } : Rule_Env).cv := rfl
theorem Rule_Env.fld_4 (x : Rule_Env) : qfield C 39 x.cv 4 = some ((Lst.cv Api_Body.cv) x.Shots) := qfield_of C tt39 (Rule_Env.shape x) rfl tt37 rfl rfl
theorem Rule_Env.rfa_4 (x : Rule_Env) (h : Heap) : qfieldAddr C h 39 (.rptr x.cv) 4 = some (.rptr ((Lst.cv Api_Body.cv) x.Shots)) := by
  have hs := Rule_Env.shape x
  unfold Rule_Env.cv at hs ⊢
  simp only [qfieldAddr, tt39, ti39, tgt, hs, if_true, List.getElem?_cons_zero, List.getElem?_cons_succ]
theorem Rule_Env.sub_4 (q : List Nat) (z : Shape) : subEq sh39 (4 :: q) z = subEq sh37 q z := rfl
theorem Rule_Env.sub_nil : subEq sh39 [] sh39 = true := by simp [subEq, Shape.sub]
theorem Rule_Env.alloc : allocObj C (.alloc 39) = some (.var sh39 Rule_Env.zero.cv) := by simp only [allocObj, tt39, ti39, Rule_Env.zcv]
theorem Rule_Env.xalloc (p : Hp) : xalloc C p 39 = .ret (.ptr p.n []) (p.new (.var sh39 Rule_Env.zero.cv)) := by simp only [Cl.xalloc, tt39, ti39, Rule_Env.zcv]
theorem Rule_Env.xbox (p : Hp) (x : Rule_Env) : xbox C p 39 x.cv = .ret (.ptr p.n []) (p.new (.var sh39 x.cv)) := by
  have h : Cl.shOk x.cv ti39.sh = true := Rule_Env.shOk x
  simp only [Cl.xbox, tt39, h, cond_true]; rfl
theorem Rule_Env.bld_0_1_2_3 (a0 : Api_Body) (a1 : Api_Input) (a2 : Int) (a3 : Int) : qbuild C 39 [(0, Api_Body.cv a0), (1, Api_Input.cv a1), (2, U a2), (3, I a3)] = some (({ Body := a0, In := a1, Dice := a2, Room := a3, Shots := ⟨.nil, [], fun _ => rfl⟩ } : Rule_Env).cv) := qbuild_of C tt39 (by simp only [partsOk, setAll, CV.shape, Api_Body.shape, Api_Input.shape, sh39, List.all_cons, List.all_nil, List.getElem?_cons_zero, List.getElem?_cons_succ, Bool.and_true, decide_true]) rfl
theorem Rule_Env.bld_0_1_2_3_4 (a0 : Api_Body) (a1 : Api_Input) (a2 : Int) (a3 : Int) (a4 : Lst Api_Body) : qbuild C 39 [(0, Api_Body.cv a0), (1, Api_Input.cv a1), (2, U a2), (3, I a3), (4, (Lst.cv Api_Body.cv) a4)] = some (({ Body := a0, In := a1, Dice := a2, Room := a3, Shots := a4 } : Rule_Env).cv) := qbuild_of C tt39 (by simp only [partsOk, setAll, CV.shape, Api_Body.shape, Api_Input.shape, Lst.shape, sh39, List.all_cons, List.all_nil, List.getElem?_cons_zero, List.getElem?_cons_succ, Bool.and_true, decide_true]) rfl
structure Trap_Fault where
  Code : Int
  At : Int
def Trap_Fault.cv (x : Trap_Fault) : CV := .agg [I x.Code, I x.At]
@[ext] theorem Trap_Fault.ext' {x y : Trap_Fault} (h_Code : x.Code = y.Code) (h_At : x.At = y.At) : x = y := by
  obtain ⟨a0, a1⟩ := x
  obtain ⟨c0, c1⟩ := y
  simp only at h_Code h_At
  subst h_Code h_At
  rfl
def Trap_Fault.zero : Trap_Fault := { Code := 0, At := 0 }
instance : Inhabited Trap_Fault := ⟨Trap_Fault.zero⟩
theorem Trap_Fault.zcv : z44 = Trap_Fault.zero.cv := by
  simp only [z44, Trap_Fault.zero, Trap_Fault.cv, List.map_replicate, Lst.cv, List.map_nil]
theorem Trap_Fault.shape (x : Trap_Fault) : x.cv.shape = sh44 := by simp only [Trap_Fault.cv, sh44, CV.shape, CV.shapes, Lst.shape]
theorem Trap_Fault.nohas (x : Trap_Fault) (j : Nat) : ¬ x.cv.has j := by simp [Trap_Fault.cv, CV.has, CV.hasL]
instance : DecidableEq Trap_Fault := fun x y => decidable_of_iff (x.Code = y.Code ∧ x.At = y.At) ⟨fun h => Trap_Fault.ext' h.1 h.2, fun h => by subst h; simp⟩
theorem Trap_Fault.inj {x y : Trap_Fault} (h : x.cv = y.cv) : x = y := by
  simp only [Trap_Fault.cv, CV.agg.injEq, List.cons.injEq, and_true] at h
  obtain ⟨h0, h1⟩ := h
  refine Trap_Fault.ext' (I_inj _ _ h0) (I_inj _ _ h1)
theorem Trap_Fault.injF (x y : Trap_Fault) (h : x.cv = y.cv) : x = y := Trap_Fault.inj h
theorem Trap_Fault.inj_iff (x y : Trap_Fault) : x.cv = y.cv ↔ x = y := ⟨Trap_Fault.inj, fun h => by rw [h]⟩
theorem Trap_Fault.shOk (x : Trap_Fault) : Cl.shOk x.cv sh44 = true := shOk_n (Trap_Fault.shape x) rfl
theorem Trap_Fault.eq (d : Nat) (x y : Trap_Fault) : eqCV C (d + 2) 44 x.cv y.cv = some (decide (x = y)) := by
  refine (eqCV_st C (d := d + 1) tt44 (Trap_Fault.shape x) (Trap_Fault.shape y) (eqList_c (eqCV_int C tt3 (d + 0) _ _) (eqList_c (eqCV_int C tt3 (d + 0) _ _) rfl))).trans (congrArg some ?_)
  rw [Bool.eq_iff_iff]
  simp only [Bool.and_eq_true, decide_eq_true_eq, and_true]
  exact ⟨fun h => Trap_Fault.ext' h.1 h.2, fun h => by subst h; simp⟩
theorem Trap_Fault.eql (x y : Trap_Fault) (b : Bool) : qbin C .eql 44 b x.cv y.cv = some (Bo (decide (x = y))) := by
  have h := Trap_Fault.eq 10 x y
  unfold Trap_Fault.cv at h ⊢
  simp only [qbin]
  rw [h]; rfl
theorem Trap_Fault.neq (x y : Trap_Fault) (b : Bool) : qbin C .neq 44 b x.cv y.cv = some (Bo (!decide (x = y))) := by
  have h := Trap_Fault.eq 10 x y
  unfold Trap_Fault.cv at h ⊢
  simp only [qbin]
  rw [h]; rfl
theorem Trap_Fault.at_0 (x : Trap_Fault) (q : List Nat) : x.cv.at (0 :: q) = (I x.Code).at q := rfl
def Trap_Fault.upd_0 (x : Trap_Fault) (v : CV) : CV := .agg [v, I x.At]
theorem Trap_Fault.set_0 (x : Trap_Fault) (q : List Nat) (v : CV) : x.cv.set (0 :: q) v = Trap_Fault.upd_0 x ((I x.Code).set q v) := rfl
theorem Trap_Fault.fold_0 (x : Trap_Fault) (y : Int) : Trap_Fault.upd_0 x (I y) = ({ x with Code := y } : Trap_Fault).cv := rfl
theorem Trap_Fault.fld_0 (x : Trap_Fault) : qfield C 44 x.cv 0 = some (I x.Code) := qfield_of C tt44 (Trap_Fault.shape x) rfl tt3 rfl rfl
theorem Trap_Fault.rfa_0 (x : Trap_Fault) (h : Heap) : qfieldAddr C h 44 (.rptr x.cv) 0 = some (.rptr (I x.Code)) := by
  have hs := Trap_Fault.shape x
  unfold Trap_Fault.cv at hs ⊢
  simp only [qfieldAddr, tt44, ti44, tgt, hs, if_true, List.getElem?_cons_zero, List.getElem?_cons_succ]
theorem Trap_Fault.sub_0 (q : List Nat) (z : Shape) : subEq sh44 (0 :: q) z = subEq sh3 q z := rfl
theorem Trap_Fault.at_1 (x : Trap_Fault) (q : List Nat) : x.cv.at (1 :: q) = (I x.At).at q := rfl
def Trap_Fault.upd_1 (x : Trap_Fault) (v : CV) : CV := .agg [I x.Code, v]
theorem Trap_Fault.set_1 (x : Trap_Fault) (q : List Nat) (v : CV) : x.cv.set (1 :: q) v = Trap_Fault.upd_1 x ((I x.At).set q v) := rfl
theorem Trap_Fault.fold_1 (x : Trap_Fault) (y : Int) : Trap_Fault.upd_1 x (I y) = ({ x with At := y } : Trap_Fault).cv := rfl
theorem Trap_Fault.fld_1 (x : Trap_Fault) : qfield C 44 x.cv 1 = some (I x.At) := qfield_of C tt44 (Trap_Fault.shape x) rfl tt3 rfl rfl
theorem Trap_Fault.rfa_1 (x : Trap_Fault) (h : Heap) : qfieldAddr C h 44 (.rptr x.cv) 1 = some (.rptr (I x.At)) := by
  have hs := Trap_Fault.shape x
  unfold Trap_Fault.cv at hs ⊢
  simp only [qfieldAddr, tt44, ti44, tgt, hs, if_true, List.getElem?_cons_zero, List.getElem?_cons_succ]
theorem Trap_Fault.sub_1 (q : List Nat) (z : Shape) : subEq sh44 (1 :: q) z = subEq sh3 q z := rfl
theorem Trap_Fault.sub_nil : subEq sh44 [] sh44 = true := by simp [subEq, Shape.sub]
theorem Trap_Fault.alloc : allocObj C (.alloc 44) = some (.var sh44 Trap_Fault.zero.cv) := by simp only [allocObj, tt44, ti44, Trap_Fault.zcv]
theorem Trap_Fault.xalloc (p : Hp) : xalloc C p 44 = .ret (.ptr p.n []) (p.new (.var sh44 Trap_Fault.zero.cv)) := by simp only [Cl.xalloc, tt44, ti44, Trap_Fault.zcv]
theorem Trap_Fault.xbox (p : Hp) (x : Trap_Fault) : xbox C p 44 x.cv = .ret (.ptr p.n []) (p.new (.var sh44 x.cv)) := by
  have h : Cl.shOk x.cv ti44.sh = true := Trap_Fault.shOk x
  simp only [Cl.xbox, tt44, h, cond_true]; rfl
theorem Trap_Fault.bld_none  : qbuild C 44 [] = some (({ Code := 0, At := 0 } : Trap_Fault).cv) := qbuild_of C tt44 (by simp only [partsOk, setAll, CV.shape, sh44, List.all_cons, List.all_nil, List.getElem?_cons_zero, List.getElem?_cons_succ, Bool.and_true, decide_true]) rfl
theorem Trap_Fault.bld_0 (a0 : Int) : qbuild C 44 [(0, I a0)] = some (({ Code := a0, At := 0 } : Trap_Fault).cv) := qbuild_of C tt44 (by simp only [partsOk, setAll, CV.shape, sh44, List.all_cons, List.all_nil, List.getElem?_cons_zero, List.getElem?_cons_succ, Bool.and_true, decide_true]) rfl
theorem Trap_Fault.bld_0_1 (a0 : Int) (a1 : Int) : qbuild C 44 [(0, I a0), (1, I a1)] = some (({ Code := a0, At := a1 } : Trap_Fault).cv) := qbuild_of C tt44 (by simp only [partsOk, setAll, CV.shape, sh44, List.all_cons, List.all_nil, List.getElem?_cons_zero, List.getElem?_cons_succ, Bool.and_true, decide_true]) rfl
structure Ref11_Env where
  Body : Api_Body
  In : Api_Input
  Dice : Int
  Room : Int
  Shots : Lst Api_Body
def Ref11_Env.cv (x : Ref11_Env) : CV := .agg [Api_Body.cv x.Body, Api_Input.cv x.In, U x.Dice, I x.Room, (Lst.cv Api_Body.cv) x.Shots]
@[ext] theorem Ref11_Env.ext' {x y : Ref11_Env} (h_Body : x.Body = y.Body) (h_In : x.In = y.In) (h_Dice : x.Dice = y.Dice) (h_Room : x.Room = y.Room) (h_Shots : x.Shots = y.Shots) : x = y := by
  obtain ⟨a0, a1, a2, a3, a4⟩ := x
  obtain ⟨c0, c1, c2, c3, c4⟩ := y
  simp only at h_Body h_In h_Dice h_Room h_Shots
  subst h_Body h_In h_Dice h_Room h_Shots
  rfl
def Ref11_Env.zero : Ref11_Env := { Body := Api_Body.zero, In := Api_Input.zero, Dice := 0, Room := 0, Shots := ⟨.nil, [], fun _ => rfl⟩ }
instance : Inhabited Ref11_Env := ⟨Ref11_Env.zero⟩
theorem Ref11_Env.zcv : z51 = Ref11_Env.zero.cv := by
  simp only [z51, Ref11_Env.zero, Ref11_Env.cv, Api_Body.zcv, Api_Input.zcv, List.map_replicate, Lst.cv, List.map_nil]
theorem Ref11_Env.shape (x : Ref11_Env) : x.cv.shape = sh51 := by simp only [Ref11_Env.cv, sh51, CV.shape, CV.shapes, Api_Body.shape, Api_Input.shape, Lst.shape]
theorem Ref11_Env.has (x : Ref11_Env) (j : Nat) : x.cv.has j ↔ x.Shots.tl = .own j := by simp [Ref11_Env.cv, CV.has, CV.hasL, Api_Body.nohas, Api_Input.nohas, Lst.has _ Api_Body.nohas]
theorem Ref11_Env.inj {x y : Ref11_Env} (h : x.cv = y.cv) : x = y := by
  simp only [Ref11_Env.cv, CV.agg.injEq, List.cons.injEq, and_true] at h
  obtain ⟨h0, h1, h2, h3, h4⟩ := h
  refine Ref11_Env.ext' (Api_Body.injF _ _ h0) (Api_Input.injF _ _ h1) (U_inj _ _ h2) (I_inj _ _ h3) ((Lst.injF Api_Body.injF) _ _ h4)
theorem Ref11_Env.injF (x y : Ref11_Env) (h : x.cv = y.cv) : x = y := Ref11_Env.inj h
theorem Ref11_Env.inj_iff (x y : Ref11_Env) : x.cv = y.cv ↔ x = y := ⟨Ref11_Env.inj, fun h => by rw [h]⟩
theorem Ref11_Env.shOk (x : Ref11_Env) : Cl.shOk x.cv sh51 = true := shOk_n (Ref11_Env.shape x) rfl
theorem Ref11_Env.at_0 (x : Ref11_Env) (q : List Nat) : x.cv.at (0 :: q) = (Api_Body.cv x.Body).at q := rfl
def Ref11_Env.upd_0 (x : Ref11_Env) (v : CV) : CV := .agg [v, Api_Input.cv x.In, U x.Dice, I x.Room, (Lst.cv Api_Body.cv) x.Shots]
theorem Ref11_Env.set_0 (x : Ref11_Env) (q : List Nat) (v : CV) : x.cv.set (0 :: q) v = Ref11_Env.upd_0 x ((Api_Body.cv x.Body).set q v) := rfl
theorem Ref11_Env.fold_0 (x : Ref11_Env) (y : Api_Body) : Ref11_Env.upd_0 x (Api_Body.cv y) = ({ x with Body := y } : Ref11_Env).cv := rfl
theorem Ref11_Env.fld_0 (x : Ref11_Env) : qfield C 51 x.cv 0 = some (Api_Body.cv x.Body) := qfield_of C tt51 (Ref11_Env.shape x) rfl tt34 rfl (Api_Body.shOk _)
theorem Ref11_Env.rfa_0 (x : Ref11_Env) (h : Heap) : qfieldAddr C h 51 (.rptr x.cv) 0 = some (.rptr (Api_Body.cv x.Body)) := by
  have hs := Ref11_Env.shape x
  unfold Ref11_Env.cv at hs ⊢
  simp only [qfieldAddr, tt51, ti51, tgt, hs, if_true, List.getElem?_cons_zero, List.getElem?_cons_succ]
theorem Ref11_Env.sub_0 (q : List Nat) (z : Shape) : subEq sh51 (0 :: q) z = subEq sh34 q z := rfl
theorem Ref11_Env.at_1 (x : Ref11_Env) (q : List Nat) : x.cv.at (1 :: q) = (Api_Input.cv x.In).at q := rfl
def Ref11_Env.upd_1 (x : Ref11_Env) (v : CV) : CV := .agg [Api_Body.cv x.Body, v, U x.Dice, I x.Room, (Lst.cv Api_Body.cv) x.Shots]
theorem Ref11_Env.set_1 (x : Ref11_Env) (q : List Nat) (v : CV) : x.cv.set (1 :: q) v = Ref11_Env.upd_1 x ((Api_Input.cv x.In).set q v) := rfl
theorem Ref11_Env.fold_1 (x : Ref11_Env) (y : Api_Input) : Ref11_Env.upd_1 x (Api_Input.cv y) = ({ x with In := y } : Ref11_Env).cv := rfl
theorem Ref11_Env.fld_1 (x : Ref11_Env) : qfield C 51 x.cv 1 = some (Api_Input.cv x.In) := qfield_of C tt51 (Ref11_Env.shape x) rfl tt36 rfl (Api_Input.shOk _)
theorem Ref11_Env.rfa_1 (x : Ref11_Env) (h : Heap) : qfieldAddr C h 51 (.rptr x.cv) 1 = some (.rptr (Api_Input.cv x.In)) := by
  have hs := Ref11_Env.shape x
  unfold Ref11_Env.cv at hs ⊢
  simp only [qfieldAddr, tt51, ti51, tgt, hs, if_true, List.getElem?_cons_zero, List.getElem?_cons_succ]
theorem Ref11_Env.sub_1 (q : List Nat) (z : Shape) : subEq sh51 (1 :: q) z = subEq sh36 q z := rfl
theorem Ref11_Env.at_2 (x : Ref11_Env) (q : List Nat) : x.cv.at (2 :: q) = (U x.Dice).at q := rfl
def Ref11_Env.upd_2 (x : Ref11_Env) (v : CV) : CV := .agg [Api_Body.cv x.Body, Api_Input.cv x.In, v, I x.Room, (Lst.cv Api_Body.cv) x.Shots]
theorem Ref11_Env.set_2 (x : Ref11_Env) (q : List Nat) (v : CV) : x.cv.set (2 :: q) v = Ref11_Env.upd_2 x ((U x.Dice).set q v) := rfl
theorem Ref11_Env.fold_2 (x : Ref11_Env) (y : Int) : Ref11_Env.upd_2 x (U y) = ({ x with Dice := y } : Ref11_Env).cv := rfl
theorem Ref11_Env.fld_2 (x : Ref11_Env) : qfield C 51 x.cv 2 = some (U x.Dice) := qfield_of C tt51 (Ref11_Env.shape x) rfl tt25 rfl rfl
theorem Ref11_Env.rfa_2 (x : Ref11_Env) (h : Heap) : qfieldAddr C h 51 (.rptr x.cv) 2 = some (.rptr (U x.Dice)) := by
  have hs := Ref11_Env.shape x
  unfold Ref11_Env.cv at hs ⊢
  simp only [qfieldAddr, tt51, ti51, tgt, hs, if_true, List.getElem?_cons_zero, List.getElem?_cons_succ]
theorem Ref11_Env.sub_2 (q : List Nat) (z : Shape) : subEq sh51 (2 :: q) z = subEq sh25 q z := rfl
theorem Ref11_Env.at_3 (x : Ref11_Env) (q : List Nat) : x.cv.at (3 :: q) = (I x.Room).at q := rfl
def Ref11_Env.upd_3 (x : Ref11_Env) (v : CV) : CV := .agg [Api_Body.cv x.Body, Api_Input.cv x.In, U x.Dice, v, (Lst.cv Api_Body.cv) x.Shots]
theorem Ref11_Env.set_3 (x : Ref11_Env) (q : List Nat) (v : CV) : x.cv.set (3 :: q) v = Ref11_Env.upd_3 x ((I x.Room).set q v) := rfl
theorem Ref11_Env.fold_3 (x : Ref11_Env) (y : Int) : Ref11_Env.upd_3 x (I y) = ({ x with Room := y } : Ref11_Env).cv := rfl
theorem Ref11_Env.fld_3 (x : Ref11_Env) : qfield C 51 x.cv 3 = some (I x.Room) := qfield_of C tt51 (Ref11_Env.shape x) rfl tt3 rfl rfl
theorem Ref11_Env.rfa_3 (x : Ref11_Env) (h : Heap) : qfieldAddr C h 51 (.rptr x.cv) 3 = some (.rptr (I x.Room)) := by
  have hs := Ref11_Env.shape x
  unfold Ref11_Env.cv at hs ⊢
  simp only [qfieldAddr, tt51, ti51, tgt, hs, if_true, List.getElem?_cons_zero, List.getElem?_cons_succ]
theorem Ref11_Env.sub_3 (q : List Nat) (z : Shape) : subEq sh51 (3 :: q) z = subEq sh3 q z := rfl
theorem Ref11_Env.at_4 (x : Ref11_Env) (q : List Nat) : x.cv.at (4 :: q) = ((Lst.cv Api_Body.cv) x.Shots).at q := rfl
def Ref11_Env.upd_4 (x : Ref11_Env) (v : CV) : CV := .agg [Api_Body.cv x.Body, Api_Input.cv x.In, U x.Dice, I x.Room, v]
theorem Ref11_Env.set_4 (x : Ref11_Env) (q : List Nat) (v : CV) : x.cv.set (4 :: q) v = Ref11_Env.upd_4 x (((Lst.cv Api_Body.cv) x.Shots).set q v) := rfl
theorem Ref11_Env.fold_4 (x : Ref11_Env) (y : Lst Api_Body) : Ref11_Env.upd_4 x ((Lst.cv Api_Body.cv) y) = ({ x with Shots := y } : Ref11_Env).cv := rfl
theorem Ref11_Env.fld_4 (x : Ref11_Env) : qfield C 51 x.cv 4 = some ((Lst.cv Api_Body.cv) x.Shots) := qfield_of C tt51 (Ref11_Env.shape x) rfl tt37 rfl rfl
theorem Ref11_Env.rfa_4 (x : Ref11_Env) (h : Heap) : qfieldAddr C h 51 (.rptr x.cv) 4 = some (.rptr ((Lst.cv Api_Body.cv) x.Shots)) := by
  have hs := Ref11_Env.shape x
  unfold Ref11_Env.cv at hs ⊢
  simp only [qfieldAddr, tt51, ti51, tgt, hs, if_true, List.getElem?_cons_zero, List.getElem?_cons_succ]
theorem Ref11_Env.sub_4 (q : List Nat) (z : Shape) : subEq sh51 (4 :: q) z = subEq sh37 q z := rfl
theorem Ref11_Env.sub_nil : subEq sh51 [] sh51 = true := by simp [subEq, Shape.sub]
theorem Ref11_Env.alloc : allocObj C (.alloc 51) = some (.var sh51 Ref11_Env.zero.cv) := by simp only [allocObj, tt51, ti51, Ref11_Env.zcv]
theorem Ref11_Env.xalloc (p : Hp) : xalloc C p 51 = .ret (.ptr p.n []) (p.new (.var sh51 Ref11_Env.zero.cv)) := by simp only [Cl.xalloc, tt51, ti51, Ref11_Env.zcv]
theorem Ref11_Env.xbox (p : Hp) (x : Ref11_Env) : xbox C p 51 x.cv = .ret (.ptr p.n []) (p.new (.var sh51 x.cv)) := by
  have h : Cl.shOk x.cv ti51.sh = true := Ref11_Env.shOk x
  simp only [Cl.xbox, tt51, h, cond_true]; rfl
theorem Ref11_Env.bld_0_1_2_3 (a0 : Api_Body) (a1 : Api_Input) (a2 : Int) (a3 : Int) : qbuild C 51 [(0, Api_Body.cv a0), (1, Api_Input.cv a1), (2, U a2), (3, I a3)] = some (({ Body := a0, In := a1, Dice := a2, Room := a3, Shots := ⟨.nil, [], fun _ => rfl⟩ } : Ref11_Env).cv) := qbuild_of C tt51 (by simp only [partsOk, setAll, CV.shape, Api_Body.shape, Api_Input.shape, sh51, List.all_cons, List.all_nil, List.getElem?_cons_zero, List.getElem?_cons_succ, Bool.and_true, decide_true]) rfl
structure Hand_RawConfig where
  Players : Int
  Period : Int
  Grace : Int
  Start : Int
  Frames : Int
  Seed : Int
  Rate : Int
  Rules : Lst Hand_RawOp
def Hand_RawConfig.cv (x : Hand_RawConfig) : CV := .agg [I x.Players, I x.Period, I x.Grace, I x.Start, I x.Frames, I x.Seed, I x.Rate, (Lst.cv Hand_RawOp.cv) x.Rules]
@[ext] theorem Hand_RawConfig.ext' {x y : Hand_RawConfig} (h_Players : x.Players = y.Players) (h_Period : x.Period = y.Period) (h_Grace : x.Grace = y.Grace) (h_Start : x.Start = y.Start) (h_Frames : x.Frames = y.Frames) (h_Seed : x.Seed = y.Seed) (h_Rate : x.Rate = y.Rate) (h_Rules : x.Rules = y.Rules) : x = y := by
  obtain ⟨a0, a1, a2, a3, a4, a5, a6, a7⟩ := x
  obtain ⟨c0, c1, c2, c3, c4, c5, c6, c7⟩ := y
  simp only at h_Players h_Period h_Grace h_Start h_Frames h_Seed h_Rate h_Rules
  subst h_Players h_Period h_Grace h_Start h_Frames h_Seed h_Rate h_Rules
  rfl
def Hand_RawConfig.zero : Hand_RawConfig := { Players := 0, Period := 0, Grace := 0, Start := 0, Frames := 0, Seed := 0, Rate := 0, Rules := ⟨.nil, [], fun _ => rfl⟩ }
instance : Inhabited Hand_RawConfig := ⟨Hand_RawConfig.zero⟩
theorem Hand_RawConfig.zcv : z57 = Hand_RawConfig.zero.cv := by
  simp only [z57, Hand_RawConfig.zero, Hand_RawConfig.cv, List.map_replicate, Lst.cv, List.map_nil]
theorem Hand_RawConfig.shape (x : Hand_RawConfig) : x.cv.shape = sh57 := by simp only [Hand_RawConfig.cv, sh57, CV.shape, CV.shapes, Lst.shape]
theorem Hand_RawConfig.has (x : Hand_RawConfig) (j : Nat) : x.cv.has j ↔ x.Rules.tl = .own j := by simp [Hand_RawConfig.cv, CV.has, CV.hasL, Lst.has _ Hand_RawOp.nohas]
theorem Hand_RawConfig.inj {x y : Hand_RawConfig} (h : x.cv = y.cv) : x = y := by
  simp only [Hand_RawConfig.cv, CV.agg.injEq, List.cons.injEq, and_true] at h
  obtain ⟨h0, h1, h2, h3, h4, h5, h6, h7⟩ := h
  refine Hand_RawConfig.ext' (I_inj _ _ h0) (I_inj _ _ h1) (I_inj _ _ h2) (I_inj _ _ h3) (I_inj _ _ h4) (I_inj _ _ h5) (I_inj _ _ h6) ((Lst.injF Hand_RawOp.injF) _ _ h7)
theorem Hand_RawConfig.injF (x y : Hand_RawConfig) (h : x.cv = y.cv) : x = y := Hand_RawConfig.inj h
theorem Hand_RawConfig.inj_iff (x y : Hand_RawConfig) : x.cv = y.cv ↔ x = y := ⟨Hand_RawConfig.inj, fun h => by rw [h]⟩
theorem Hand_RawConfig.shOk (x : Hand_RawConfig) : Cl.shOk x.cv sh57 = true := shOk_n (Hand_RawConfig.shape x) rfl
theorem Hand_RawConfig.at_0 (x : Hand_RawConfig) (q : List Nat) : x.cv.at (0 :: q) = (I x.Players).at q := rfl
def Hand_RawConfig.upd_0 (x : Hand_RawConfig) (v : CV) : CV := .agg [v, I x.Period, I x.Grace, I x.Start, I x.Frames, I x.Seed, I x.Rate, (Lst.cv Hand_RawOp.cv) x.Rules]
theorem Hand_RawConfig.set_0 (x : Hand_RawConfig) (q : List Nat) (v : CV) : x.cv.set (0 :: q) v = Hand_RawConfig.upd_0 x ((I x.Players).set q v) := rfl
theorem Hand_RawConfig.fold_0 (x : Hand_RawConfig) (y : Int) : Hand_RawConfig.upd_0 x (I y) = ({ x with Players := y } : Hand_RawConfig).cv := rfl
theorem Hand_RawConfig.fld_0 (x : Hand_RawConfig) : qfield C 57 x.cv 0 = some (I x.Players) := qfield_of C tt57 (Hand_RawConfig.shape x) rfl tt3 rfl rfl
theorem Hand_RawConfig.rfa_0 (x : Hand_RawConfig) (h : Heap) : qfieldAddr C h 57 (.rptr x.cv) 0 = some (.rptr (I x.Players)) := by
  have hs := Hand_RawConfig.shape x
  unfold Hand_RawConfig.cv at hs ⊢
  simp only [qfieldAddr, tt57, ti57, tgt, hs, if_true, List.getElem?_cons_zero, List.getElem?_cons_succ]
theorem Hand_RawConfig.sub_0 (q : List Nat) (z : Shape) : subEq sh57 (0 :: q) z = subEq sh3 q z := rfl
theorem Hand_RawConfig.at_1 (x : Hand_RawConfig) (q : List Nat) : x.cv.at (1 :: q) = (I x.Period).at q := rfl
def Hand_RawConfig.upd_1 (x : Hand_RawConfig) (v : CV) : CV := .agg [I x.Players, v, I x.Grace, I x.Start, I x.Frames, I x.Seed, I x.Rate, (Lst.cv Hand_RawOp.cv) x.Rules]
theorem Hand_RawConfig.set_1 (x : Hand_RawConfig) (q : List Nat) (v : CV) : x.cv.set (1 :: q) v = Hand_RawConfig.upd_1 x ((I x.Period).set q v) := rfl
theorem Hand_RawConfig.fold_1 (x : Hand_RawConfig) (y : Int) : Hand_RawConfig.upd_1 x (I y) = ({ x with Period := y } : Hand_RawConfig).cv := rfl
theorem Hand_RawConfig.fld_1 (x : Hand_RawConfig) : qfield C 57 x.cv 1 = some (I x.Period) := qfield_of C tt57 (Hand_RawConfig.shape x) rfl tt3 rfl rfl
theorem Hand_RawConfig.rfa_1 (x : Hand_RawConfig) (h : Heap) : qfieldAddr C h 57 (.rptr x.cv) 1 = some (.rptr (I x.Period)) := by
  have hs := Hand_RawConfig.shape x
  unfold Hand_RawConfig.cv at hs ⊢
  simp only [qfieldAddr, tt57, ti57, tgt, hs, if_true, List.getElem?_cons_zero, List.getElem?_cons_succ]
theorem Hand_RawConfig.sub_1 (q : List Nat) (z : Shape) : subEq sh57 (1 :: q) z = subEq sh3 q z := rfl
theorem Hand_RawConfig.at_2 (x : Hand_RawConfig) (q : List Nat) : x.cv.at (2 :: q) = (I x.Grace).at q := rfl
def Hand_RawConfig.upd_2 (x : Hand_RawConfig) (v : CV) : CV := .agg [I x.Players, I x.Period, v, I x.Start, I x.Frames, I x.Seed, I x.Rate, (Lst.cv Hand_RawOp.cv) x.Rules]
theorem Hand_RawConfig.set_2 (x : Hand_RawConfig) (q : List Nat) (v : CV) : x.cv.set (2 :: q) v = Hand_RawConfig.upd_2 x ((I x.Grace).set q v) := rfl
theorem Hand_RawConfig.fold_2 (x : Hand_RawConfig) (y : Int) : Hand_RawConfig.upd_2 x (I y) = ({ x with Grace := y } : Hand_RawConfig).cv := rfl
theorem Hand_RawConfig.fld_2 (x : Hand_RawConfig) : qfield C 57 x.cv 2 = some (I x.Grace) := qfield_of C tt57 (Hand_RawConfig.shape x) rfl tt3 rfl rfl
theorem Hand_RawConfig.rfa_2 (x : Hand_RawConfig) (h : Heap) : qfieldAddr C h 57 (.rptr x.cv) 2 = some (.rptr (I x.Grace)) := by
  have hs := Hand_RawConfig.shape x
  unfold Hand_RawConfig.cv at hs ⊢
  simp only [qfieldAddr, tt57, ti57, tgt, hs, if_true, List.getElem?_cons_zero, List.getElem?_cons_succ]
theorem Hand_RawConfig.sub_2 (q : List Nat) (z : Shape) : subEq sh57 (2 :: q) z = subEq sh3 q z := rfl
theorem Hand_RawConfig.at_3 (x : Hand_RawConfig) (q : List Nat) : x.cv.at (3 :: q) = (I x.Start).at q := rfl
def Hand_RawConfig.upd_3 (x : Hand_RawConfig) (v : CV) : CV := .agg [I x.Players, I x.Period, I x.Grace, v, I x.Frames, I x.Seed, I x.Rate, (Lst.cv Hand_RawOp.cv) x.Rules]
theorem Hand_RawConfig.set_3 (x : Hand_RawConfig) (q : List Nat) (v : CV) : x.cv.set (3 :: q) v = Hand_RawConfig.upd_3 x ((I x.Start).set q v) := rfl
theorem Hand_RawConfig.fold_3 (x : Hand_RawConfig) (y : Int) : Hand_RawConfig.upd_3 x (I y) = ({ x with Start := y } : Hand_RawConfig).cv := rfl
theorem Hand_RawConfig.fld_3 (x : Hand_RawConfig) : qfield C 57 x.cv 3 = some (I x.Start) := qfield_of C tt57 (Hand_RawConfig.shape x) rfl tt3 rfl rfl
theorem Hand_RawConfig.rfa_3 (x : Hand_RawConfig) (h : Heap) : qfieldAddr C h 57 (.rptr x.cv) 3 = some (.rptr (I x.Start)) := by
  have hs := Hand_RawConfig.shape x
  unfold Hand_RawConfig.cv at hs ⊢
  simp only [qfieldAddr, tt57, ti57, tgt, hs, if_true, List.getElem?_cons_zero, List.getElem?_cons_succ]
theorem Hand_RawConfig.sub_3 (q : List Nat) (z : Shape) : subEq sh57 (3 :: q) z = subEq sh3 q z := rfl
theorem Hand_RawConfig.at_4 (x : Hand_RawConfig) (q : List Nat) : x.cv.at (4 :: q) = (I x.Frames).at q := rfl
def Hand_RawConfig.upd_4 (x : Hand_RawConfig) (v : CV) : CV := .agg [I x.Players, I x.Period, I x.Grace, I x.Start, v, I x.Seed, I x.Rate, (Lst.cv Hand_RawOp.cv) x.Rules]
theorem Hand_RawConfig.set_4 (x : Hand_RawConfig) (q : List Nat) (v : CV) : x.cv.set (4 :: q) v = Hand_RawConfig.upd_4 x ((I x.Frames).set q v) := rfl
theorem Hand_RawConfig.fold_4 (x : Hand_RawConfig) (y : Int) : Hand_RawConfig.upd_4 x (I y) = ({ x with Frames := y } : Hand_RawConfig).cv := rfl
theorem Hand_RawConfig.fld_4 (x : Hand_RawConfig) : qfield C 57 x.cv 4 = some (I x.Frames) := qfield_of C tt57 (Hand_RawConfig.shape x) rfl tt3 rfl rfl
theorem Hand_RawConfig.rfa_4 (x : Hand_RawConfig) (h : Heap) : qfieldAddr C h 57 (.rptr x.cv) 4 = some (.rptr (I x.Frames)) := by
  have hs := Hand_RawConfig.shape x
  unfold Hand_RawConfig.cv at hs ⊢
  simp only [qfieldAddr, tt57, ti57, tgt, hs, if_true, List.getElem?_cons_zero, List.getElem?_cons_succ]
theorem Hand_RawConfig.sub_4 (q : List Nat) (z : Shape) : subEq sh57 (4 :: q) z = subEq sh3 q z := rfl
theorem Hand_RawConfig.at_5 (x : Hand_RawConfig) (q : List Nat) : x.cv.at (5 :: q) = (I x.Seed).at q := rfl
def Hand_RawConfig.upd_5 (x : Hand_RawConfig) (v : CV) : CV := .agg [I x.Players, I x.Period, I x.Grace, I x.Start, I x.Frames, v, I x.Rate, (Lst.cv Hand_RawOp.cv) x.Rules]
theorem Hand_RawConfig.set_5 (x : Hand_RawConfig) (q : List Nat) (v : CV) : x.cv.set (5 :: q) v = Hand_RawConfig.upd_5 x ((I x.Seed).set q v) := rfl
theorem Hand_RawConfig.fold_5 (x : Hand_RawConfig) (y : Int) : Hand_RawConfig.upd_5 x (I y) = ({ x with Seed := y } : Hand_RawConfig).cv := rfl
theorem Hand_RawConfig.fld_5 (x : Hand_RawConfig) : qfield C 57 x.cv 5 = some (I x.Seed) := qfield_of C tt57 (Hand_RawConfig.shape x) rfl tt3 rfl rfl
theorem Hand_RawConfig.rfa_5 (x : Hand_RawConfig) (h : Heap) : qfieldAddr C h 57 (.rptr x.cv) 5 = some (.rptr (I x.Seed)) := by
  have hs := Hand_RawConfig.shape x
  unfold Hand_RawConfig.cv at hs ⊢
  simp only [qfieldAddr, tt57, ti57, tgt, hs, if_true, List.getElem?_cons_zero, List.getElem?_cons_succ]
theorem Hand_RawConfig.sub_5 (q : List Nat) (z : Shape) : subEq sh57 (5 :: q) z = subEq sh3 q z := rfl
theorem Hand_RawConfig.at_6 (x : Hand_RawConfig) (q : List Nat) : x.cv.at (6 :: q) = (I x.Rate).at q := rfl
def Hand_RawConfig.upd_6 (x : Hand_RawConfig) (v : CV) : CV := .agg [I x.Players, I x.Period, I x.Grace, I x.Start, I x.Frames, I x.Seed, v, (Lst.cv Hand_RawOp.cv) x.Rules]
theorem Hand_RawConfig.set_6 (x : Hand_RawConfig) (q : List Nat) (v : CV) : x.cv.set (6 :: q) v = Hand_RawConfig.upd_6 x ((I x.Rate).set q v) := rfl
theorem Hand_RawConfig.fold_6 (x : Hand_RawConfig) (y : Int) : Hand_RawConfig.upd_6 x (I y) = ({ x with Rate := y } : Hand_RawConfig).cv := rfl
theorem Hand_RawConfig.fld_6 (x : Hand_RawConfig) : qfield C 57 x.cv 6 = some (I x.Rate) := qfield_of C tt57 (Hand_RawConfig.shape x) rfl tt3 rfl rfl
theorem Hand_RawConfig.rfa_6 (x : Hand_RawConfig) (h : Heap) : qfieldAddr C h 57 (.rptr x.cv) 6 = some (.rptr (I x.Rate)) := by
  have hs := Hand_RawConfig.shape x
  unfold Hand_RawConfig.cv at hs ⊢
  simp only [qfieldAddr, tt57, ti57, tgt, hs, if_true, List.getElem?_cons_zero, List.getElem?_cons_succ]
theorem Hand_RawConfig.sub_6 (q : List Nat) (z : Shape) : subEq sh57 (6 :: q) z = subEq sh3 q z := rfl
theorem Hand_RawConfig.at_7 (x : Hand_RawConfig) (q : List Nat) : x.cv.at (7 :: q) = ((Lst.cv Hand_RawOp.cv) x.Rules).at q := rfl
def Hand_RawConfig.upd_7 (x : Hand_RawConfig) (v : CV) : CV := .agg [I x.Players, I x.Period, I x.Grace, I x.Start, I x.Frames, I x.Seed, I x.Rate, v]
theorem Hand_RawConfig.set_7 (x : Hand_RawConfig) (q : List Nat) (v : CV) : x.cv.set (7 :: q) v = Hand_RawConfig.upd_7 x (((Lst.cv Hand_RawOp.cv) x.Rules).set q v) := rfl
theorem Hand_RawConfig.fold_7 (x : Hand_RawConfig) (y : Lst Hand_RawOp) : Hand_RawConfig.upd_7 x ((Lst.cv Hand_RawOp.cv) y) = ({ x with Rules := y } : Hand_RawConfig).cv := rfl
theorem Hand_RawConfig.fld_7 (x : Hand_RawConfig) : qfield C 57 x.cv 7 = some ((Lst.cv Hand_RawOp.cv) x.Rules) := qfield_of C tt57 (Hand_RawConfig.shape x) rfl tt22 rfl rfl
theorem Hand_RawConfig.rfa_7 (x : Hand_RawConfig) (h : Heap) : qfieldAddr C h 57 (.rptr x.cv) 7 = some (.rptr ((Lst.cv Hand_RawOp.cv) x.Rules)) := by
  have hs := Hand_RawConfig.shape x
  unfold Hand_RawConfig.cv at hs ⊢
  simp only [qfieldAddr, tt57, ti57, tgt, hs, if_true, List.getElem?_cons_zero, List.getElem?_cons_succ]
theorem Hand_RawConfig.sub_7 (q : List Nat) (z : Shape) : subEq sh57 (7 :: q) z = subEq sh22 q z := rfl
theorem Hand_RawConfig.sub_nil : subEq sh57 [] sh57 = true := by simp [subEq, Shape.sub]
theorem Hand_RawConfig.alloc : allocObj C (.alloc 57) = some (.var sh57 Hand_RawConfig.zero.cv) := by simp only [allocObj, tt57, ti57, Hand_RawConfig.zcv]
theorem Hand_RawConfig.xalloc (p : Hp) : xalloc C p 57 = .ret (.ptr p.n []) (p.new (.var sh57 Hand_RawConfig.zero.cv)) := by simp only [Cl.xalloc, tt57, ti57, Hand_RawConfig.zcv]
theorem Hand_RawConfig.xbox (p : Hp) (x : Hand_RawConfig) : xbox C p 57 x.cv = .ret (.ptr p.n []) (p.new (.var sh57 x.cv)) := by
  have h : Cl.shOk x.cv ti57.sh = true := Hand_RawConfig.shOk x
  simp only [Cl.xbox, tt57, h, cond_true]; rfl
structure Api_Config where
  Players : Int
  Period : Int
  Grace : Int
  Start : Int
  Frames : Int
  Seed : Int
  Rate : Nat
  Depth : Nat
  Rules : Lst Api_Op
  Tokens : Lst Int
def Api_Config.cv (x : Api_Config) : CV := .agg [I x.Players, I x.Period, I x.Grace, I x.Start, I x.Frames, I x.Seed, Fl x.Rate, Fl x.Depth, (Lst.cv Api_Op.cv) x.Rules, (Lst.cv I) x.Tokens]
@[ext] theorem Api_Config.ext' {x y : Api_Config} (h_Players : x.Players = y.Players) (h_Period : x.Period = y.Period) (h_Grace : x.Grace = y.Grace) (h_Start : x.Start = y.Start) (h_Frames : x.Frames = y.Frames) (h_Seed : x.Seed = y.Seed) (h_Rate : x.Rate = y.Rate) (h_Depth : x.Depth = y.Depth) (h_Rules : x.Rules = y.Rules) (h_Tokens : x.Tokens = y.Tokens) : x = y := by
  obtain ⟨a0, a1, a2, a3, a4, a5, a6, a7, a8, a9⟩ := x
  obtain ⟨c0, c1, c2, c3, c4, c5, c6, c7, c8, c9⟩ := y
  simp only at h_Players h_Period h_Grace h_Start h_Frames h_Seed h_Rate h_Depth h_Rules h_Tokens
  subst h_Players h_Period h_Grace h_Start h_Frames h_Seed h_Rate h_Depth h_Rules h_Tokens
  rfl
def Api_Config.zero : Api_Config := { Players := 0, Period := 0, Grace := 0, Start := 0, Frames := 0, Seed := 0, Rate := 0, Depth := 0, Rules := ⟨.nil, [], fun _ => rfl⟩, Tokens := ⟨.nil, [], fun _ => rfl⟩ }
instance : Inhabited Api_Config := ⟨Api_Config.zero⟩
theorem Api_Config.zcv : z61 = Api_Config.zero.cv := by
  simp only [z61, Api_Config.zero, Api_Config.cv, List.map_replicate, Lst.cv, List.map_nil]
theorem Api_Config.shape (x : Api_Config) : x.cv.shape = sh61 := by simp only [Api_Config.cv, sh61, CV.shape, CV.shapes, Lst.shape]
theorem Api_Config.has (x : Api_Config) (j : Nat) : x.cv.has j ↔ x.Rules.tl = .own j ∨ x.Tokens.tl = .own j := by simp [Api_Config.cv, CV.has, CV.hasL, Lst.has _ Api_Op.nohas, Lst.has _ I_has]
theorem Api_Config.inj {x y : Api_Config} (h : x.cv = y.cv) : x = y := by
  simp only [Api_Config.cv, CV.agg.injEq, List.cons.injEq, and_true] at h
  obtain ⟨h0, h1, h2, h3, h4, h5, h6, h7, h8, h9⟩ := h
  refine Api_Config.ext' (I_inj _ _ h0) (I_inj _ _ h1) (I_inj _ _ h2) (I_inj _ _ h3) (I_inj _ _ h4) (I_inj _ _ h5) (Fl_inj _ _ h6) (Fl_inj _ _ h7) ((Lst.injF Api_Op.injF) _ _ h8) ((Lst.injF I_inj) _ _ h9)
theorem Api_Config.injF (x y : Api_Config) (h : x.cv = y.cv) : x = y := Api_Config.inj h
theorem Api_Config.inj_iff (x y : Api_Config) : x.cv = y.cv ↔ x = y := ⟨Api_Config.inj, fun h => by rw [h]⟩
theorem Api_Config.shOk (x : Api_Config) : Cl.shOk x.cv sh61 = true := shOk_n (Api_Config.shape x) rfl
theorem Api_Config.at_0 (x : Api_Config) (q : List Nat) : x.cv.at (0 :: q) = (I x.Players).at q := rfl
def Api_Config.upd_0 (x : Api_Config) (v : CV) : CV := .agg [v, I x.Period, I x.Grace, I x.Start, I x.Frames, I x.Seed, Fl x.Rate, Fl x.Depth, (Lst.cv Api_Op.cv) x.Rules, (Lst.cv I) x.Tokens]
theorem Api_Config.set_0 (x : Api_Config) (q : List Nat) (v : CV) : x.cv.set (0 :: q) v = Api_Config.upd_0 x ((I x.Players).set q v) := rfl
theorem Api_Config.fold_0 (x : Api_Config) (y : Int) : Api_Config.upd_0 x (I y) = ({ x with Players := y } : Api_Config).cv := rfl
theorem Api_Config.fld_0 (x : Api_Config) : qfield C 61 x.cv 0 = some (I x.Players) := qfield_of C tt61 (Api_Config.shape x) rfl tt3 rfl rfl
theorem Api_Config.rfa_0 (x : Api_Config) (h : Heap) : qfieldAddr C h 61 (.rptr x.cv) 0 = some (.rptr (I x.Players)) := by
  have hs := Api_Config.shape x
  unfold Api_Config.cv at hs ⊢
  simp only [qfieldAddr, tt61, ti61, tgt, hs, if_true, List.getElem?_cons_zero, List.getElem?_cons_succ]
theorem Api_Config.sub_0 (q : List Nat) (z : Shape) : subEq sh61 (0 :: q) z = subEq sh3 q z := rfl
theorem Api_Config.at_1 (x : Api_Config) (q : List Nat) : x.cv.at (1 :: q) = (I x.Period).at q := rfl
def Api_Config.upd_1 (x : Api_Config) (v : CV) : CV := .agg [I x.Players, v, I x.Grace, I x.Start, I x.Frames, I x.Seed, Fl x.Rate, Fl x.Depth, (Lst.cv Api_Op.cv) x.Rules, (Lst.cv I) x.Tokens]
theorem Api_Config.set_1 (x : Api_Config) (q : List Nat) (v : CV) : x.cv.set (1 :: q) v = Api_Config.upd_1 x ((I x.Period).set q v) := rfl
theorem Api_Config.fold_1 (x : Api_Config) (y : Int) : Api_Config.upd_1 x (I y) = ({ x with Period := y } : Api_Config).cv := rfl
theorem Api_Config.fld_1 (x : Api_Config) : qfield C 61 x.cv 1 = some (I x.Period) := qfield_of C tt61 (Api_Config.shape x) rfl tt3 rfl rfl
theorem Api_Config.rfa_1 (x : Api_Config) (h : Heap) : qfieldAddr C h 61 (.rptr x.cv) 1 = some (.rptr (I x.Period)) := by
  have hs := Api_Config.shape x
  unfold Api_Config.cv at hs ⊢
  simp only [qfieldAddr, tt61, ti61, tgt, hs, if_true, List.getElem?_cons_zero, List.getElem?_cons_succ]
theorem Api_Config.sub_1 (q : List Nat) (z : Shape) : subEq sh61 (1 :: q) z = subEq sh3 q z := rfl
theorem Api_Config.at_2 (x : Api_Config) (q : List Nat) : x.cv.at (2 :: q) = (I x.Grace).at q := rfl
def Api_Config.upd_2 (x : Api_Config) (v : CV) : CV := .agg [I x.Players, I x.Period, v, I x.Start, I x.Frames, I x.Seed, Fl x.Rate, Fl x.Depth, (Lst.cv Api_Op.cv) x.Rules, (Lst.cv I) x.Tokens]
theorem Api_Config.set_2 (x : Api_Config) (q : List Nat) (v : CV) : x.cv.set (2 :: q) v = Api_Config.upd_2 x ((I x.Grace).set q v) := rfl
theorem Api_Config.fold_2 (x : Api_Config) (y : Int) : Api_Config.upd_2 x (I y) = ({ x with Grace := y } : Api_Config).cv := rfl
theorem Api_Config.fld_2 (x : Api_Config) : qfield C 61 x.cv 2 = some (I x.Grace) := qfield_of C tt61 (Api_Config.shape x) rfl tt3 rfl rfl
theorem Api_Config.rfa_2 (x : Api_Config) (h : Heap) : qfieldAddr C h 61 (.rptr x.cv) 2 = some (.rptr (I x.Grace)) := by
  have hs := Api_Config.shape x
  unfold Api_Config.cv at hs ⊢
  simp only [qfieldAddr, tt61, ti61, tgt, hs, if_true, List.getElem?_cons_zero, List.getElem?_cons_succ]
theorem Api_Config.sub_2 (q : List Nat) (z : Shape) : subEq sh61 (2 :: q) z = subEq sh3 q z := rfl
theorem Api_Config.at_3 (x : Api_Config) (q : List Nat) : x.cv.at (3 :: q) = (I x.Start).at q := rfl
def Api_Config.upd_3 (x : Api_Config) (v : CV) : CV := .agg [I x.Players, I x.Period, I x.Grace, v, I x.Frames, I x.Seed, Fl x.Rate, Fl x.Depth, (Lst.cv Api_Op.cv) x.Rules, (Lst.cv I) x.Tokens]
theorem Api_Config.set_3 (x : Api_Config) (q : List Nat) (v : CV) : x.cv.set (3 :: q) v = Api_Config.upd_3 x ((I x.Start).set q v) := rfl
theorem Api_Config.fold_3 (x : Api_Config) (y : Int) : Api_Config.upd_3 x (I y) = ({ x with Start := y } : Api_Config).cv := rfl
theorem Api_Config.fld_3 (x : Api_Config) : qfield C 61 x.cv 3 = some (I x.Start) := qfield_of C tt61 (Api_Config.shape x) rfl tt3 rfl rfl
theorem Api_Config.rfa_3 (x : Api_Config) (h : Heap) : qfieldAddr C h 61 (.rptr x.cv) 3 = some (.rptr (I x.Start)) := by
  have hs := Api_Config.shape x
  unfold Api_Config.cv at hs ⊢
  simp only [qfieldAddr, tt61, ti61, tgt, hs, if_true, List.getElem?_cons_zero, List.getElem?_cons_succ]
theorem Api_Config.sub_3 (q : List Nat) (z : Shape) : subEq sh61 (3 :: q) z = subEq sh3 q z := rfl
theorem Api_Config.at_4 (x : Api_Config) (q : List Nat) : x.cv.at (4 :: q) = (I x.Frames).at q := rfl
def Api_Config.upd_4 (x : Api_Config) (v : CV) : CV := .agg [I x.Players, I x.Period, I x.Grace, I x.Start, v, I x.Seed, Fl x.Rate, Fl x.Depth, (Lst.cv Api_Op.cv) x.Rules, (Lst.cv I) x.Tokens]
theorem Api_Config.set_4 (x : Api_Config) (q : List Nat) (v : CV) : x.cv.set (4 :: q) v = Api_Config.upd_4 x ((I x.Frames).set q v) := rfl
theorem Api_Config.fold_4 (x : Api_Config) (y : Int) : Api_Config.upd_4 x (I y) = ({ x with Frames := y } : Api_Config).cv := rfl
theorem Api_Config.fld_4 (x : Api_Config) : qfield C 61 x.cv 4 = some (I x.Frames) := qfield_of C tt61 (Api_Config.shape x) rfl tt3 rfl rfl
theorem Api_Config.rfa_4 (x : Api_Config) (h : Heap) : qfieldAddr C h 61 (.rptr x.cv) 4 = some (.rptr (I x.Frames)) := by
  have hs := Api_Config.shape x
  unfold Api_Config.cv at hs ⊢
  simp only [qfieldAddr, tt61, ti61, tgt, hs, if_true, List.getElem?_cons_zero, List.getElem?_cons_succ]
theorem Api_Config.sub_4 (q : List Nat) (z : Shape) : subEq sh61 (4 :: q) z = subEq sh3 q z := rfl
theorem Api_Config.at_5 (x : Api_Config) (q : List Nat) : x.cv.at (5 :: q) = (I x.Seed).at q := rfl
def Api_Config.upd_5 (x : Api_Config) (v : CV) : CV := .agg [I x.Players, I x.Period, I x.Grace, I x.Start, I x.Frames, v, Fl x.Rate, Fl x.Depth, (Lst.cv Api_Op.cv) x.Rules, (Lst.cv I) x.Tokens]
theorem Api_Config.set_5 (x : Api_Config) (q : List Nat) (v : CV) : x.cv.set (5 :: q) v = Api_Config.upd_5 x ((I x.Seed).set q v) := rfl
theorem Api_Config.fold_5 (x : Api_Config) (y : Int) : Api_Config.upd_5 x (I y) = ({ x with Seed := y } : Api_Config).cv := rfl
theorem Api_Config.fld_5 (x : Api_Config) : qfield C 61 x.cv 5 = some (I x.Seed) := qfield_of C tt61 (Api_Config.shape x) rfl tt3 rfl rfl
theorem Api_Config.rfa_5 (x : Api_Config) (h : Heap) : qfieldAddr C h 61 (.rptr x.cv) 5 = some (.rptr (I x.Seed)) := by
  have hs := Api_Config.shape x
  unfold Api_Config.cv at hs ⊢
  simp only [qfieldAddr, tt61, ti61, tgt, hs, if_true, List.getElem?_cons_zero, List.getElem?_cons_succ]
theorem Api_Config.sub_5 (q : List Nat) (z : Shape) : subEq sh61 (5 :: q) z = subEq sh3 q z := rfl
theorem Api_Config.at_6 (x : Api_Config) (q : List Nat) : x.cv.at (6 :: q) = (Fl x.Rate).at q := rfl
def Api_Config.upd_6 (x : Api_Config) (v : CV) : CV := .agg [I x.Players, I x.Period, I x.Grace, I x.Start, I x.Frames, I x.Seed, v, Fl x.Depth, (Lst.cv Api_Op.cv) x.Rules, (Lst.cv I) x.Tokens]
theorem Api_Config.set_6 (x : Api_Config) (q : List Nat) (v : CV) : x.cv.set (6 :: q) v = Api_Config.upd_6 x ((Fl x.Rate).set q v) := rfl
theorem Api_Config.fold_6 (x : Api_Config) (y : Nat) : Api_Config.upd_6 x (Fl y) = ({ x with Rate := y } : Api_Config).cv := rfl
theorem Api_Config.fld_6 (x : Api_Config) : qfield C 61 x.cv 6 = some (Fl x.Rate) := qfield_of C tt61 (Api_Config.shape x) rfl tt59 rfl rfl
theorem Api_Config.rfa_6 (x : Api_Config) (h : Heap) : qfieldAddr C h 61 (.rptr x.cv) 6 = some (.rptr (Fl x.Rate)) := by
  have hs := Api_Config.shape x
  unfold Api_Config.cv at hs ⊢
  simp only [qfieldAddr, tt61, ti61, tgt, hs, if_true, List.getElem?_cons_zero, List.getElem?_cons_succ]
theorem Api_Config.sub_6 (q : List Nat) (z : Shape) : subEq sh61 (6 :: q) z = subEq sh59 q z := rfl
theorem Api_Config.at_7 (x : Api_Config) (q : List Nat) : x.cv.at (7 :: q) = (Fl x.Depth).at q := rfl
def Api_Config.upd_7 (x : Api_Config) (v : CV) : CV := .agg [I x.Players, I x.Period, I x.Grace, I x.Start, I x.Frames, I x.Seed, Fl x.Rate, v, (Lst.cv Api_Op.cv) x.Rules, (Lst.cv I) x.Tokens]
theorem Api_Config.set_7 (x : Api_Config) (q : List Nat) (v : CV) : x.cv.set (7 :: q) v = Api_Config.upd_7 x ((Fl x.Depth).set q v) := rfl
theorem Api_Config.fold_7 (x : Api_Config) (y : Nat) : Api_Config.upd_7 x (Fl y) = ({ x with Depth := y } : Api_Config).cv := rfl
theorem Api_Config.fld_7 (x : Api_Config) : qfield C 61 x.cv 7 = some (Fl x.Depth) := qfield_of C tt61 (Api_Config.shape x) rfl tt59 rfl rfl
theorem Api_Config.rfa_7 (x : Api_Config) (h : Heap) : qfieldAddr C h 61 (.rptr x.cv) 7 = some (.rptr (Fl x.Depth)) := by
  have hs := Api_Config.shape x
  unfold Api_Config.cv at hs ⊢
  simp only [qfieldAddr, tt61, ti61, tgt, hs, if_true, List.getElem?_cons_zero, List.getElem?_cons_succ]
theorem Api_Config.sub_7 (q : List Nat) (z : Shape) : subEq sh61 (7 :: q) z = subEq sh59 q z := rfl
theorem Api_Config.at_8 (x : Api_Config) (q : List Nat) : x.cv.at (8 :: q) = ((Lst.cv Api_Op.cv) x.Rules).at q := rfl
def Api_Config.upd_8 (x : Api_Config) (v : CV) : CV := .agg [I x.Players, I x.Period, I x.Grace, I x.Start, I x.Frames, I x.Seed, Fl x.Rate, Fl x.Depth, v, (Lst.cv I) x.Tokens]
theorem Api_Config.set_8 (x : Api_Config) (q : List Nat) (v : CV) : x.cv.set (8 :: q) v = Api_Config.upd_8 x (((Lst.cv Api_Op.cv) x.Rules).set q v) := rfl
theorem Api_Config.fold_8 (x : Api_Config) (y : Lst Api_Op) : Api_Config.upd_8 x ((Lst.cv Api_Op.cv) y) = ({ x with Rules := y } : Api_Config).cv := rfl
theorem Api_Config.fld_8 (x : Api_Config) : qfield C 61 x.cv 8 = some ((Lst.cv Api_Op.cv) x.Rules) := qfield_of C tt61 (Api_Config.shape x) rfl tt23 rfl rfl
theorem Api_Config.rfa_8 (x : Api_Config) (h : Heap) : qfieldAddr C h 61 (.rptr x.cv) 8 = some (.rptr ((Lst.cv Api_Op.cv) x.Rules)) := by
  have hs := Api_Config.shape x
  unfold Api_Config.cv at hs ⊢
  simp only [qfieldAddr, tt61, ti61, tgt, hs, if_true, List.getElem?_cons_zero, List.getElem?_cons_succ]
theorem Api_Config.sub_8 (q : List Nat) (z : Shape) : subEq sh61 (8 :: q) z = subEq sh23 q z := rfl
theorem Api_Config.sub_nil : subEq sh61 [] sh61 = true := by simp [subEq, Shape.sub]
theorem Api_Config.alloc : allocObj C (.alloc 61) = some (.var sh61 Api_Config.zero.cv) := by simp only [allocObj, tt61, ti61, Api_Config.zcv]
theorem Api_Config.xalloc (p : Hp) : xalloc C p 61 = .ret (.ptr p.n []) (p.new (.var sh61 Api_Config.zero.cv)) := by simp only [Cl.xalloc, tt61, ti61, Api_Config.zcv]
theorem Api_Config.xbox (p : Hp) (x : Api_Config) : xbox C p 61 x.cv = .ret (.ptr p.n []) (p.new (.var sh61 x.cv)) := by
  have h : Cl.shOk x.cv ti61.sh = true := Api_Config.shOk x
  simp only [Cl.xbox, tt61, h, cond_true]; rfl
theorem Api_Config.bld_0_1_2_3_4_5 (a0 : Int) (a1 : Int) (a2 : Int) (a3 : Int) (a4 : Int) (a5 : Int) : qbuild C 61 [(0, I a0), (1, I a1), (2, I a2), (3, I a3), (4, I a4), (5, I a5)] = some (({ Players := a0, Period := a1, Grace := a2, Start := a3, Frames := a4, Seed := a5, Rate := 0, Depth := 0, Rules := ⟨.nil, [], fun _ => rfl⟩, Tokens := ⟨.nil, [], fun _ => rfl⟩ } : Api_Config).cv) := qbuild_of C tt61 (by simp only [partsOk, setAll, CV.shape, sh61, List.all_cons, List.all_nil, List.getElem?_cons_zero, List.getElem?_cons_succ, Bool.and_true, decide_true]) rfl
structure Api_State where
  Frame : Int
  Dice : Int
  Bodies : List Api_Body
  hBodies : Bodies.length = 16
  Score : List Int
  hScore : Score.length = 8
def Api_State.cv (x : Api_State) : CV := .agg [I x.Frame, U x.Dice, .agg (x.Bodies.map Api_Body.cv), .agg (x.Score.map I)]
@[ext] theorem Api_State.ext' {x y : Api_State} (h_Frame : x.Frame = y.Frame) (h_Dice : x.Dice = y.Dice) (h_Bodies : x.Bodies = y.Bodies) (h_Score : x.Score = y.Score) : x = y := by
  obtain ⟨a0, a1, a2, ha, a3, ha⟩ := x
  obtain ⟨c0, c1, c2, hc, c3, hc⟩ := y
  simp only at h_Frame h_Dice h_Bodies h_Score
  subst h_Frame h_Dice h_Bodies h_Score
  rfl
def Api_State.zero : Api_State := { Frame := 0, Dice := 0, Bodies := (List.replicate 16 Api_Body.zero), hBodies := List.length_replicate, Score := (List.replicate 8 0), hScore := List.length_replicate }
instance : Inhabited Api_State := ⟨Api_State.zero⟩
theorem Api_State.zcv : z66 = Api_State.zero.cv := by
  simp only [z66, Api_State.zero, Api_State.cv, z63, Api_Body.zcv, z64, List.map_replicate, Lst.cv, List.map_nil]
theorem Api_State.shape (x : Api_State) : x.cv.shape = sh66 := by simp only [Api_State.cv, sh66, CV.shape, CV.shapes, Lst.shape, shapes_map (f := Api_Body.cv) Api_Body.shape, x.hBodies, sh63, shapes_map (f := I) (s := Shape.s) (fun _ => rfl), x.hScore, sh64]
theorem Api_State.nohas (x : Api_State) (j : Nat) : ¬ x.cv.has j := by simp [Api_State.cv, CV.has, CV.hasL, hasL_map Api_Body.nohas, hasL_map I_has]
instance : DecidableEq Api_State := fun x y => decidable_of_iff (x.Frame = y.Frame ∧ x.Dice = y.Dice ∧ x.Bodies = y.Bodies ∧ x.Score = y.Score) ⟨fun h => Api_State.ext' h.1 h.2.1 h.2.2.1 h.2.2.2, fun h => by subst h; simp⟩
theorem Api_State.inj {x y : Api_State} (h : x.cv = y.cv) : x = y := by
  simp only [Api_State.cv, CV.agg.injEq, List.cons.injEq, and_true] at h
  obtain ⟨h0, h1, h2, h3⟩ := h
  refine Api_State.ext' (I_inj _ _ h0) (U_inj _ _ h1) (map_inj Api_Body.injF h2) (map_inj I_inj h3)
theorem Api_State.injF (x y : Api_State) (h : x.cv = y.cv) : x = y := Api_State.inj h
theorem Api_State.inj_iff (x y : Api_State) : x.cv = y.cv ↔ x = y := ⟨Api_State.inj, fun h => by rw [h]⟩
theorem Api_State.shOk (x : Api_State) : Cl.shOk x.cv sh66 = true := shOk_n (Api_State.shape x) rfl
theorem Api_State.eq (d : Nat) (x y : Api_State) : eqCV C (d + 5) 66 x.cv y.cv = some (decide (x = y)) := by
  refine (eqCV_st C (d := d + 4) tt66 (Api_State.shape x) (Api_State.shape y) (eqList_c (eqCV_int C tt3 (d + 3) _ _) (eqList_c (eqCV_int C tt25 (d + 3) _ _) (eqList_c (eqCV_ar C (g := Api_Body.cv) (d := d + 3) tt63 rfl Api_Body.shape x.hBodies y.hBodies (fun a b => Api_Body.eq (d + 0) a b)) (eqList_c (eqCV_ar C (g := I) (d := d + 3) tt64 rfl (fun _ => rfl) x.hScore y.hScore (eqCV_int C tt3 (d + 2))) rfl))))).trans (congrArg some ?_)
  rw [Bool.eq_iff_iff]
  simp only [Bool.and_eq_true, decide_eq_true_eq, and_true]
  exact ⟨fun h => Api_State.ext' h.1 h.2.1 h.2.2.1 h.2.2.2, fun h => by subst h; simp⟩
theorem Api_State.eql (x y : Api_State) (b : Bool) : qbin C .eql 66 b x.cv y.cv = some (Bo (decide (x = y))) := by
  have h := Api_State.eq 7 x y
  unfold Api_State.cv at h ⊢
  simp only [qbin]
  rw [h]; rfl
theorem Api_State.neq (x y : Api_State) (b : Bool) : qbin C .neq 66 b x.cv y.cv = some (Bo (!decide (x = y))) := by
  have h := Api_State.eq 7 x y
  unfold Api_State.cv at h ⊢
  simp only [qbin]
  rw [h]; rfl
theorem Api_State.at_0 (x : Api_State) (q : List Nat) : x.cv.at (0 :: q) = (I x.Frame).at q := rfl
def Api_State.upd_0 (x : Api_State) (v : CV) : CV := .agg [v, U x.Dice, .agg (x.Bodies.map Api_Body.cv), .agg (x.Score.map I)]
theorem Api_State.set_0 (x : Api_State) (q : List Nat) (v : CV) : x.cv.set (0 :: q) v = Api_State.upd_0 x ((I x.Frame).set q v) := rfl
theorem Api_State.fold_0 (x : Api_State) (y : Int) : Api_State.upd_0 x (I y) = ({ x with Frame := y } : Api_State).cv := rfl
theorem Api_State.fld_0 (x : Api_State) : qfield C 66 x.cv 0 = some (I x.Frame) := qfield_of C tt66 (Api_State.shape x) rfl tt3 rfl rfl
theorem Api_State.rfa_0 (x : Api_State) (h : Heap) : qfieldAddr C h 66 (.rptr x.cv) 0 = some (.rptr (I x.Frame)) := by
  have hs := Api_State.shape x
  unfold Api_State.cv at hs ⊢
  simp only [qfieldAddr, tt66, ti66, tgt, hs, if_true, List.getElem?_cons_zero, List.getElem?_cons_succ]
theorem Api_State.sub_0 (q : List Nat) (z : Shape) : subEq sh66 (0 :: q) z = subEq sh3 q z := rfl
theorem Api_State.at_1 (x : Api_State) (q : List Nat) : x.cv.at (1 :: q) = (U x.Dice).at q := rfl
def Api_State.upd_1 (x : Api_State) (v : CV) : CV := .agg [I x.Frame, v, .agg (x.Bodies.map Api_Body.cv), .agg (x.Score.map I)]
theorem Api_State.set_1 (x : Api_State) (q : List Nat) (v : CV) : x.cv.set (1 :: q) v = Api_State.upd_1 x ((U x.Dice).set q v) := rfl
theorem Api_State.fold_1 (x : Api_State) (y : Int) : Api_State.upd_1 x (U y) = ({ x with Dice := y } : Api_State).cv := rfl
theorem Api_State.fld_1 (x : Api_State) : qfield C 66 x.cv 1 = some (U x.Dice) := qfield_of C tt66 (Api_State.shape x) rfl tt25 rfl rfl
theorem Api_State.rfa_1 (x : Api_State) (h : Heap) : qfieldAddr C h 66 (.rptr x.cv) 1 = some (.rptr (U x.Dice)) := by
  have hs := Api_State.shape x
  unfold Api_State.cv at hs ⊢
  simp only [qfieldAddr, tt66, ti66, tgt, hs, if_true, List.getElem?_cons_zero, List.getElem?_cons_succ]
theorem Api_State.sub_1 (q : List Nat) (z : Shape) : subEq sh66 (1 :: q) z = subEq sh25 q z := rfl
theorem Api_State.at_2 (x : Api_State) : x.cv.at [2] = some (.agg (x.Bodies.map Api_Body.cv)) := rfl
def Api_State.upd_2 (x : Api_State) (v : CV) : CV := .agg [I x.Frame, U x.Dice, v, .agg (x.Score.map I)]
theorem Api_State.set_2 (x : Api_State) (v : CV) : x.cv.set [2] v = Api_State.upd_2 x v := by simp [Api_State.cv, Api_State.upd_2, CV.set, set_nil]
theorem Api_State.fold_2 (x : Api_State) (l : List Api_Body) (h : l.length = 16) : Api_State.upd_2 x (.agg (l.map Api_Body.cv)) = ({ x with Bodies := l, hBodies := h } : Api_State).cv := rfl
theorem Api_State.fld_2 (x : Api_State) : qfield C 66 x.cv 2 = some (.agg (x.Bodies.map Api_Body.cv)) := qfield_of C tt66 (Api_State.shape x) rfl tt63 rfl (shOk_n (sh := sh63) (by simp only [CV.shape, shapes_map (f := Api_Body.cv) Api_Body.shape, x.hBodies, sh63]) rfl)
theorem Api_State.rfa_2 (x : Api_State) (h : Heap) : qfieldAddr C h 66 (.rptr x.cv) 2 = some (.rptr (.agg (x.Bodies.map Api_Body.cv))) := by
  have hs := Api_State.shape x
  unfold Api_State.cv at hs ⊢
  simp only [qfieldAddr, tt66, ti66, tgt, hs, if_true, List.getElem?_cons_zero, List.getElem?_cons_succ]
theorem Api_State.sub_2 (z : Shape) : subEq sh66 [2] z = subEq sh63 [] z := rfl
theorem Api_State.at_3 (x : Api_State) : x.cv.at [3] = some (.agg (x.Score.map I)) := rfl
def Api_State.upd_3 (x : Api_State) (v : CV) : CV := .agg [I x.Frame, U x.Dice, .agg (x.Bodies.map Api_Body.cv), v]
theorem Api_State.set_3 (x : Api_State) (v : CV) : x.cv.set [3] v = Api_State.upd_3 x v := by simp [Api_State.cv, Api_State.upd_3, CV.set, set_nil]
theorem Api_State.fold_3 (x : Api_State) (l : List Int) (h : l.length = 8) : Api_State.upd_3 x (.agg (l.map I)) = ({ x with Score := l, hScore := h } : Api_State).cv := rfl
theorem Api_State.fld_3 (x : Api_State) : qfield C 66 x.cv 3 = some (.agg (x.Score.map I)) := qfield_of C tt66 (Api_State.shape x) rfl tt64 rfl (shOk_n (sh := sh64) (by simp only [CV.shape, shapes_map (f := I) (s := Shape.s) (fun _ => rfl), x.hScore, sh64]) rfl)
theorem Api_State.rfa_3 (x : Api_State) (h : Heap) : qfieldAddr C h 66 (.rptr x.cv) 3 = some (.rptr (.agg (x.Score.map I))) := by
  have hs := Api_State.shape x
  unfold Api_State.cv at hs ⊢
  simp only [qfieldAddr, tt66, ti66, tgt, hs, if_true, List.getElem?_cons_zero, List.getElem?_cons_succ]
theorem Api_State.sub_3 (z : Shape) : subEq sh66 [3] z = subEq sh64 [] z := rfl
theorem Api_State.sub_nil : subEq sh66 [] sh66 = true := by simp [subEq, Shape.sub]
theorem Api_State.alloc : allocObj C (.alloc 66) = some (.var sh66 Api_State.zero.cv) := by simp only [allocObj, tt66, ti66, Api_State.zcv]
theorem Api_State.xalloc (p : Hp) : xalloc C p 66 = .ret (.ptr p.n []) (p.new (.var sh66 Api_State.zero.cv)) := by simp only [Cl.xalloc, tt66, ti66, Api_State.zcv]
theorem Api_State.xbox (p : Hp) (x : Api_State) : xbox C p 66 x.cv = .ret (.ptr p.n []) (p.new (.var sh66 x.cv)) := by
  have h : Cl.shOk x.cv ti66.sh = true := Api_State.shOk x
  simp only [Cl.xbox, tt66, h, cond_true]; rfl
theorem Api_State.bld_none  : qbuild C 66 [] = some (({ Frame := 0, Dice := 0, Bodies := (List.replicate 16 Api_Body.zero), hBodies := List.length_replicate, Score := (List.replicate 8 0), hScore := List.length_replicate } : Api_State).cv) := qbuild_of C tt66 (by simp only [partsOk, setAll, CV.shape, sh66, List.all_cons, List.all_nil, List.getElem?_cons_zero, List.getElem?_cons_succ, Bool.and_true, decide_true]) rfl
theorem Api_State.bld_0_1 (a0 : Int) (a1 : Int) : qbuild C 66 [(0, I a0), (1, U a1)] = some (({ Frame := a0, Dice := a1, Bodies := (List.replicate 16 Api_Body.zero), hBodies := List.length_replicate, Score := (List.replicate 8 0), hScore := List.length_replicate } : Api_State).cv) := qbuild_of C tt66 (by simp only [partsOk, setAll, CV.shape, sh66, List.all_cons, List.all_nil, List.getElem?_cons_zero, List.getElem?_cons_succ, Bool.and_true, decide_true]) rfl
theorem Api_State.bld_1 (a1 : Int) : qbuild C 66 [(1, U a1)] = some (({ Frame := 0, Dice := a1, Bodies := (List.replicate 16 Api_Body.zero), hBodies := List.length_replicate, Score := (List.replicate 8 0), hScore := List.length_replicate } : Api_State).cv) := qbuild_of C tt66 (by simp only [partsOk, setAll, CV.shape, sh66, List.all_cons, List.all_nil, List.getElem?_cons_zero, List.getElem?_cons_succ, Bool.and_true, decide_true]) rfl
structure Hand_RawPacket where
  Kind : Int
  Slot : Int
  Seq : Int
  Last : Int
  Got : Int
  First : Int
  Frame : Int
  Mark : Int
  Players : Int
  Bend : Int
  Any : Bool
  Acks : Int
  Inputs : Lst Int
  Rows : Lst (Lst Int)
def Hand_RawPacket.cv (x : Hand_RawPacket) : CV := .agg [I x.Kind, I x.Slot, I x.Seq, I x.Last, I x.Got, I x.First, I x.Frame, I x.Mark, I x.Players, I x.Bend, Bo x.Any, U x.Acks, (Lst.cv I) x.Inputs, (Lst.cv (Lst.cv I)) x.Rows]
@[ext] theorem Hand_RawPacket.ext' {x y : Hand_RawPacket} (h_Kind : x.Kind = y.Kind) (h_Slot : x.Slot = y.Slot) (h_Seq : x.Seq = y.Seq) (h_Last : x.Last = y.Last) (h_Got : x.Got = y.Got) (h_First : x.First = y.First) (h_Frame : x.Frame = y.Frame) (h_Mark : x.Mark = y.Mark) (h_Players : x.Players = y.Players) (h_Bend : x.Bend = y.Bend) (h_Any : x.Any = y.Any) (h_Acks : x.Acks = y.Acks) (h_Inputs : x.Inputs = y.Inputs) (h_Rows : x.Rows = y.Rows) : x = y := by
  obtain ⟨a0, a1, a2, a3, a4, a5, a6, a7, a8, a9, a10, a11, a12, a13⟩ := x
  obtain ⟨c0, c1, c2, c3, c4, c5, c6, c7, c8, c9, c10, c11, c12, c13⟩ := y
  simp only at h_Kind h_Slot h_Seq h_Last h_Got h_First h_Frame h_Mark h_Players h_Bend h_Any h_Acks h_Inputs h_Rows
  subst h_Kind h_Slot h_Seq h_Last h_Got h_First h_Frame h_Mark h_Players h_Bend h_Any h_Acks h_Inputs h_Rows
  rfl
def Hand_RawPacket.zero : Hand_RawPacket := { Kind := 0, Slot := 0, Seq := 0, Last := 0, Got := 0, First := 0, Frame := 0, Mark := 0, Players := 0, Bend := 0, Any := false, Acks := 0, Inputs := ⟨.nil, [], fun _ => rfl⟩, Rows := ⟨.nil, [], fun _ => rfl⟩ }
instance : Inhabited Hand_RawPacket := ⟨Hand_RawPacket.zero⟩
theorem Hand_RawPacket.zcv : z90 = Hand_RawPacket.zero.cv := by
  simp only [z90, Hand_RawPacket.zero, Hand_RawPacket.cv, List.map_replicate, Lst.cv, List.map_nil]
theorem Hand_RawPacket.shape (x : Hand_RawPacket) : x.cv.shape = sh90 := by simp only [Hand_RawPacket.cv, sh90, CV.shape, CV.shapes, Lst.shape]
theorem Hand_RawPacket.has (x : Hand_RawPacket) (j : Nat) : x.cv.has j ↔ x.Inputs.tl = .own j ∨ ((Lst.cv (Lst.cv I)) x.Rows).has j := by simp [Hand_RawPacket.cv, CV.has, CV.hasL, Lst.has _ I_has]
theorem Hand_RawPacket.inj {x y : Hand_RawPacket} (h : x.cv = y.cv) : x = y := by
  simp only [Hand_RawPacket.cv, CV.agg.injEq, List.cons.injEq, and_true] at h
  obtain ⟨h0, h1, h2, h3, h4, h5, h6, h7, h8, h9, h10, h11, h12, h13⟩ := h
  refine Hand_RawPacket.ext' (I_inj _ _ h0) (I_inj _ _ h1) (I_inj _ _ h2) (I_inj _ _ h3) (I_inj _ _ h4) (I_inj _ _ h5) (I_inj _ _ h6) (I_inj _ _ h7) (I_inj _ _ h8) (I_inj _ _ h9) (Bo_inj _ _ h10) (U_inj _ _ h11) ((Lst.injF I_inj) _ _ h12) ((Lst.injF (Lst.injF I_inj)) _ _ h13)
theorem Hand_RawPacket.injF (x y : Hand_RawPacket) (h : x.cv = y.cv) : x = y := Hand_RawPacket.inj h
theorem Hand_RawPacket.inj_iff (x y : Hand_RawPacket) : x.cv = y.cv ↔ x = y := ⟨Hand_RawPacket.inj, fun h => by rw [h]⟩
theorem Hand_RawPacket.shOk (x : Hand_RawPacket) : Cl.shOk x.cv sh90 = true := shOk_n (Hand_RawPacket.shape x) rfl
theorem Hand_RawPacket.at_0 (x : Hand_RawPacket) (q : List Nat) : x.cv.at (0 :: q) = (I x.Kind).at q := rfl
def Hand_RawPacket.upd_0 (x : Hand_RawPacket) (v : CV) : CV := .agg [v, I x.Slot, I x.Seq, I x.Last, I x.Got, I x.First, I x.Frame, I x.Mark, I x.Players, I x.Bend, Bo x.Any, U x.Acks, (Lst.cv I) x.Inputs, (Lst.cv (Lst.cv I)) x.Rows]
theorem Hand_RawPacket.set_0 (x : Hand_RawPacket) (q : List Nat) (v : CV) : x.cv.set (0 :: q) v = Hand_RawPacket.upd_0 x ((I x.Kind).set q v) := rfl
theorem Hand_RawPacket.fold_0 (x : Hand_RawPacket) (y : Int) : Hand_RawPacket.upd_0 x (I y) = ({ x with Kind := y } : Hand_RawPacket).cv := rfl
theorem Hand_RawPacket.fld_0 (x : Hand_RawPacket) : qfield C 90 x.cv 0 = some (I x.Kind) := qfield_of C tt90 (Hand_RawPacket.shape x) rfl tt3 rfl rfl
theorem Hand_RawPacket.rfa_0 (x : Hand_RawPacket) (h : Heap) : qfieldAddr C h 90 (.rptr x.cv) 0 = some (.rptr (I x.Kind)) := by
  have hs := Hand_RawPacket.shape x
  unfold Hand_RawPacket.cv at hs ⊢
  simp only [qfieldAddr, tt90, ti90, tgt, hs, if_true, List.getElem?_cons_zero, List.getElem?_cons_succ]
theorem Hand_RawPacket.sub_0 (q : List Nat) (z : Shape) : subEq sh90 (0 :: q) z = subEq sh3 q z := rfl
theorem Hand_RawPacket.at_1 (x : Hand_RawPacket) (q : List Nat) : x.cv.at (1 :: q) = (I x.Slot).at q := rfl
def Hand_RawPacket.upd_1 (x : Hand_RawPacket) (v : CV) : CV := .agg [I x.Kind, v, I x.Seq, I x.Last, I x.Got, I x.First, I x.Frame, I x.Mark, I x.Players, I x.Bend, Bo x.Any, U x.Acks, (Lst.cv I) x.Inputs, (Lst.cv (Lst.cv I)) x.Rows]
theorem Hand_RawPacket.set_1 (x : Hand_RawPacket) (q : List Nat) (v : CV) : x.cv.set (1 :: q) v = Hand_RawPacket.upd_1 x ((I x.Slot).set q v) := rfl
theorem Hand_RawPacket.fold_1 (x : Hand_RawPacket) (y : Int) : Hand_RawPacket.upd_1 x (I y) = ({ x with Slot := y } : Hand_RawPacket).cv := rfl
theorem Hand_RawPacket.fld_1 (x : Hand_RawPacket) : qfield C 90 x.cv 1 = some (I x.Slot) := qfield_of C tt90 (Hand_RawPacket.shape x) rfl tt3 rfl rfl
theorem Hand_RawPacket.rfa_1 (x : Hand_RawPacket) (h : Heap) : qfieldAddr C h 90 (.rptr x.cv) 1 = some (.rptr (I x.Slot)) := by
  have hs := Hand_RawPacket.shape x
  unfold Hand_RawPacket.cv at hs ⊢
  simp only [qfieldAddr, tt90, ti90, tgt, hs, if_true, List.getElem?_cons_zero, List.getElem?_cons_succ]
theorem Hand_RawPacket.sub_1 (q : List Nat) (z : Shape) : subEq sh90 (1 :: q) z = subEq sh3 q z := rfl
theorem Hand_RawPacket.at_2 (x : Hand_RawPacket) (q : List Nat) : x.cv.at (2 :: q) = (I x.Seq).at q := rfl
def Hand_RawPacket.upd_2 (x : Hand_RawPacket) (v : CV) : CV := .agg [I x.Kind, I x.Slot, v, I x.Last, I x.Got, I x.First, I x.Frame, I x.Mark, I x.Players, I x.Bend, Bo x.Any, U x.Acks, (Lst.cv I) x.Inputs, (Lst.cv (Lst.cv I)) x.Rows]
theorem Hand_RawPacket.set_2 (x : Hand_RawPacket) (q : List Nat) (v : CV) : x.cv.set (2 :: q) v = Hand_RawPacket.upd_2 x ((I x.Seq).set q v) := rfl
theorem Hand_RawPacket.fold_2 (x : Hand_RawPacket) (y : Int) : Hand_RawPacket.upd_2 x (I y) = ({ x with Seq := y } : Hand_RawPacket).cv := rfl
theorem Hand_RawPacket.fld_2 (x : Hand_RawPacket) : qfield C 90 x.cv 2 = some (I x.Seq) := qfield_of C tt90 (Hand_RawPacket.shape x) rfl tt3 rfl rfl
theorem Hand_RawPacket.rfa_2 (x : Hand_RawPacket) (h : Heap) : qfieldAddr C h 90 (.rptr x.cv) 2 = some (.rptr (I x.Seq)) := by
  have hs := Hand_RawPacket.shape x
  unfold Hand_RawPacket.cv at hs ⊢
  simp only [qfieldAddr, tt90, ti90, tgt, hs, if_true, List.getElem?_cons_zero, List.getElem?_cons_succ]
theorem Hand_RawPacket.sub_2 (q : List Nat) (z : Shape) : subEq sh90 (2 :: q) z = subEq sh3 q z := rfl
theorem Hand_RawPacket.at_3 (x : Hand_RawPacket) (q : List Nat) : x.cv.at (3 :: q) = (I x.Last).at q := rfl
def Hand_RawPacket.upd_3 (x : Hand_RawPacket) (v : CV) : CV := .agg [I x.Kind, I x.Slot, I x.Seq, v, I x.Got, I x.First, I x.Frame, I x.Mark, I x.Players, I x.Bend, Bo x.Any, U x.Acks, (Lst.cv I) x.Inputs, (Lst.cv (Lst.cv I)) x.Rows]
theorem Hand_RawPacket.set_3 (x : Hand_RawPacket) (q : List Nat) (v : CV) : x.cv.set (3 :: q) v = Hand_RawPacket.upd_3 x ((I x.Last).set q v) := rfl
theorem Hand_RawPacket.fold_3 (x : Hand_RawPacket) (y : Int) : Hand_RawPacket.upd_3 x (I y) = ({ x with Last := y } : Hand_RawPacket).cv := rfl
theorem Hand_RawPacket.fld_3 (x : Hand_RawPacket) : qfield C 90 x.cv 3 = some (I x.Last) := qfield_of C tt90 (Hand_RawPacket.shape x) rfl tt3 rfl rfl
theorem Hand_RawPacket.rfa_3 (x : Hand_RawPacket) (h : Heap) : qfieldAddr C h 90 (.rptr x.cv) 3 = some (.rptr (I x.Last)) := by
  have hs := Hand_RawPacket.shape x
  unfold Hand_RawPacket.cv at hs ⊢
  simp only [qfieldAddr, tt90, ti90, tgt, hs, if_true, List.getElem?_cons_zero, List.getElem?_cons_succ]
theorem Hand_RawPacket.sub_3 (q : List Nat) (z : Shape) : subEq sh90 (3 :: q) z = subEq sh3 q z := rfl
theorem Hand_RawPacket.at_4 (x : Hand_RawPacket) (q : List Nat) : x.cv.at (4 :: q) = (I x.Got).at q := rfl
def Hand_RawPacket.upd_4 (x : Hand_RawPacket) (v : CV) : CV := .agg [I x.Kind, I x.Slot, I x.Seq, I x.Last, v, I x.First, I x.Frame, I x.Mark, I x.Players, I x.Bend, Bo x.Any, U x.Acks, (Lst.cv I) x.Inputs, (Lst.cv (Lst.cv I)) x.Rows]
theorem Hand_RawPacket.set_4 (x : Hand_RawPacket) (q : List Nat) (v : CV) : x.cv.set (4 :: q) v = Hand_RawPacket.upd_4 x ((I x.Got).set q v) := rfl
theorem Hand_RawPacket.fold_4 (x : Hand_RawPacket) (y : Int) : Hand_RawPacket.upd_4 x (I y) = ({ x with Got := y } : Hand_RawPacket).cv := rfl
theorem Hand_RawPacket.fld_4 (x : Hand_RawPacket) : qfield C 90 x.cv 4 = some (I x.Got) := qfield_of C tt90 (Hand_RawPacket.shape x) rfl tt3 rfl rfl
theorem Hand_RawPacket.rfa_4 (x : Hand_RawPacket) (h : Heap) : qfieldAddr C h 90 (.rptr x.cv) 4 = some (.rptr (I x.Got)) := by
  have hs := Hand_RawPacket.shape x
  unfold Hand_RawPacket.cv at hs ⊢
  simp only [qfieldAddr, tt90, ti90, tgt, hs, if_true, List.getElem?_cons_zero, List.getElem?_cons_succ]
theorem Hand_RawPacket.sub_4 (q : List Nat) (z : Shape) : subEq sh90 (4 :: q) z = subEq sh3 q z := rfl
theorem Hand_RawPacket.at_5 (x : Hand_RawPacket) (q : List Nat) : x.cv.at (5 :: q) = (I x.First).at q := rfl
def Hand_RawPacket.upd_5 (x : Hand_RawPacket) (v : CV) : CV := .agg [I x.Kind, I x.Slot, I x.Seq, I x.Last, I x.Got, v, I x.Frame, I x.Mark, I x.Players, I x.Bend, Bo x.Any, U x.Acks, (Lst.cv I) x.Inputs, (Lst.cv (Lst.cv I)) x.Rows]
theorem Hand_RawPacket.set_5 (x : Hand_RawPacket) (q : List Nat) (v : CV) : x.cv.set (5 :: q) v = Hand_RawPacket.upd_5 x ((I x.First).set q v) := rfl
theorem Hand_RawPacket.fold_5 (x : Hand_RawPacket) (y : Int) : Hand_RawPacket.upd_5 x (I y) = ({ x with First := y } : Hand_RawPacket).cv := rfl
theorem Hand_RawPacket.fld_5 (x : Hand_RawPacket) : qfield C 90 x.cv 5 = some (I x.First) := qfield_of C tt90 (Hand_RawPacket.shape x) rfl tt3 rfl rfl
theorem Hand_RawPacket.rfa_5 (x : Hand_RawPacket) (h : Heap) : qfieldAddr C h 90 (.rptr x.cv) 5 = some (.rptr (I x.First)) := by
  have hs := Hand_RawPacket.shape x
  unfold Hand_RawPacket.cv at hs ⊢
  simp only [qfieldAddr, tt90, ti90, tgt, hs, if_true, List.getElem?_cons_zero, List.getElem?_cons_succ]
theorem Hand_RawPacket.sub_5 (q : List Nat) (z : Shape) : subEq sh90 (5 :: q) z = subEq sh3 q z := rfl
theorem Hand_RawPacket.at_6 (x : Hand_RawPacket) (q : List Nat) : x.cv.at (6 :: q) = (I x.Frame).at q := rfl
def Hand_RawPacket.upd_6 (x : Hand_RawPacket) (v : CV) : CV := .agg [I x.Kind, I x.Slot, I x.Seq, I x.Last, I x.Got, I x.First, v, I x.Mark, I x.Players, I x.Bend, Bo x.Any, U x.Acks, (Lst.cv I) x.Inputs, (Lst.cv (Lst.cv I)) x.Rows]
theorem Hand_RawPacket.set_6 (x : Hand_RawPacket) (q : List Nat) (v : CV) : x.cv.set (6 :: q) v = Hand_RawPacket.upd_6 x ((I x.Frame).set q v) := rfl
theorem Hand_RawPacket.fold_6 (x : Hand_RawPacket) (y : Int) : Hand_RawPacket.upd_6 x (I y) = ({ x with Frame := y } : Hand_RawPacket).cv := rfl
theorem Hand_RawPacket.fld_6 (x : Hand_RawPacket) : qfield C 90 x.cv 6 = some (I x.Frame) := qfield_of C tt90 (Hand_RawPacket.shape x) rfl tt3 rfl rfl
theorem Hand_RawPacket.rfa_6 (x : Hand_RawPacket) (h : Heap) : qfieldAddr C h 90 (.rptr x.cv) 6 = some (.rptr (I x.Frame)) := by
  have hs := Hand_RawPacket.shape x
  unfold Hand_RawPacket.cv at hs ⊢
  simp only [qfieldAddr, tt90, ti90, tgt, hs, if_true, List.getElem?_cons_zero, List.getElem?_cons_succ]
theorem Hand_RawPacket.sub_6 (q : List Nat) (z : Shape) : subEq sh90 (6 :: q) z = subEq sh3 q z := rfl
theorem Hand_RawPacket.at_7 (x : Hand_RawPacket) (q : List Nat) : x.cv.at (7 :: q) = (I x.Mark).at q := rfl
def Hand_RawPacket.upd_7 (x : Hand_RawPacket) (v : CV) : CV := .agg [I x.Kind, I x.Slot, I x.Seq, I x.Last, I x.Got, I x.First, I x.Frame, v, I x.Players, I x.Bend, Bo x.Any, U x.Acks, (Lst.cv I) x.Inputs, (Lst.cv (Lst.cv I)) x.Rows]
theorem Hand_RawPacket.set_7 (x : Hand_RawPacket) (q : List Nat) (v : CV) : x.cv.set (7 :: q) v = Hand_RawPacket.upd_7 x ((I x.Mark).set q v) := rfl
theorem Hand_RawPacket.fold_7 (x : Hand_RawPacket) (y : Int) : Hand_RawPacket.upd_7 x (I y) = ({ x with Mark := y } : Hand_RawPacket).cv := rfl
theorem Hand_RawPacket.fld_7 (x : Hand_RawPacket) : qfield C 90 x.cv 7 = some (I x.Mark) := qfield_of C tt90 (Hand_RawPacket.shape x) rfl tt3 rfl rfl
theorem Hand_RawPacket.rfa_7 (x : Hand_RawPacket) (h : Heap) : qfieldAddr C h 90 (.rptr x.cv) 7 = some (.rptr (I x.Mark)) := by
  have hs := Hand_RawPacket.shape x
  unfold Hand_RawPacket.cv at hs ⊢
  simp only [qfieldAddr, tt90, ti90, tgt, hs, if_true, List.getElem?_cons_zero, List.getElem?_cons_succ]
theorem Hand_RawPacket.sub_7 (q : List Nat) (z : Shape) : subEq sh90 (7 :: q) z = subEq sh3 q z := rfl
theorem Hand_RawPacket.at_8 (x : Hand_RawPacket) (q : List Nat) : x.cv.at (8 :: q) = (I x.Players).at q := rfl
def Hand_RawPacket.upd_8 (x : Hand_RawPacket) (v : CV) : CV := .agg [I x.Kind, I x.Slot, I x.Seq, I x.Last, I x.Got, I x.First, I x.Frame, I x.Mark, v, I x.Bend, Bo x.Any, U x.Acks, (Lst.cv I) x.Inputs, (Lst.cv (Lst.cv I)) x.Rows]
theorem Hand_RawPacket.set_8 (x : Hand_RawPacket) (q : List Nat) (v : CV) : x.cv.set (8 :: q) v = Hand_RawPacket.upd_8 x ((I x.Players).set q v) := rfl
theorem Hand_RawPacket.fold_8 (x : Hand_RawPacket) (y : Int) : Hand_RawPacket.upd_8 x (I y) = ({ x with Players := y } : Hand_RawPacket).cv := rfl
theorem Hand_RawPacket.fld_8 (x : Hand_RawPacket) : qfield C 90 x.cv 8 = some (I x.Players) := qfield_of C tt90 (Hand_RawPacket.shape x) rfl tt3 rfl rfl
theorem Hand_RawPacket.rfa_8 (x : Hand_RawPacket) (h : Heap) : qfieldAddr C h 90 (.rptr x.cv) 8 = some (.rptr (I x.Players)) := by
  have hs := Hand_RawPacket.shape x
  unfold Hand_RawPacket.cv at hs ⊢
  simp only [qfieldAddr, tt90, ti90, tgt, hs, if_true, List.getElem?_cons_zero, List.getElem?_cons_succ]
theorem Hand_RawPacket.sub_8 (q : List Nat) (z : Shape) : subEq sh90 (8 :: q) z = subEq sh3 q z := rfl
theorem Hand_RawPacket.sub_nil : subEq sh90 [] sh90 = true := by simp [subEq, Shape.sub]
theorem Hand_RawPacket.alloc : allocObj C (.alloc 90) = some (.var sh90 Hand_RawPacket.zero.cv) := by simp only [allocObj, tt90, ti90, Hand_RawPacket.zcv]
theorem Hand_RawPacket.xalloc (p : Hp) : xalloc C p 90 = .ret (.ptr p.n []) (p.new (.var sh90 Hand_RawPacket.zero.cv)) := by simp only [Cl.xalloc, tt90, ti90, Hand_RawPacket.zcv]
theorem Hand_RawPacket.xbox (p : Hp) (x : Hand_RawPacket) : xbox C p 90 x.cv = .ret (.ptr p.n []) (p.new (.var sh90 x.cv)) := by
  have h : Cl.shOk x.cv ti90.sh = true := Hand_RawPacket.shOk x
  simp only [Cl.xbox, tt90, h, cond_true]; rfl
structure Api_Cell where
  Real : Bool
  In : Api_Input
def Api_Cell.cv (x : Api_Cell) : CV := .agg [Bo x.Real, Api_Input.cv x.In]
@[ext] theorem Api_Cell.ext' {x y : Api_Cell} (h_Real : x.Real = y.Real) (h_In : x.In = y.In) : x = y := by
  obtain ⟨a0, a1⟩ := x
  obtain ⟨c0, c1⟩ := y
  simp only at h_Real h_In
  subst h_Real h_In
  rfl
def Api_Cell.zero : Api_Cell := { Real := false, In := Api_Input.zero }
instance : Inhabited Api_Cell := ⟨Api_Cell.zero⟩
theorem Api_Cell.zcv : z110 = Api_Cell.zero.cv := by
  simp only [z110, Api_Cell.zero, Api_Cell.cv, Api_Input.zcv, List.map_replicate, Lst.cv, List.map_nil]
theorem Api_Cell.shape (x : Api_Cell) : x.cv.shape = sh110 := by simp only [Api_Cell.cv, sh110, CV.shape, CV.shapes, Api_Input.shape, Lst.shape]
theorem Api_Cell.nohas (x : Api_Cell) (j : Nat) : ¬ x.cv.has j := by simp [Api_Cell.cv, CV.has, CV.hasL, Api_Input.nohas]
instance : DecidableEq Api_Cell := fun x y => decidable_of_iff (x.Real = y.Real ∧ x.In = y.In) ⟨fun h => Api_Cell.ext' h.1 h.2, fun h => by subst h; simp⟩
theorem Api_Cell.inj {x y : Api_Cell} (h : x.cv = y.cv) : x = y := by
  simp only [Api_Cell.cv, CV.agg.injEq, List.cons.injEq, and_true] at h
  obtain ⟨h0, h1⟩ := h
  refine Api_Cell.ext' (Bo_inj _ _ h0) (Api_Input.injF _ _ h1)
theorem Api_Cell.injF (x y : Api_Cell) (h : x.cv = y.cv) : x = y := Api_Cell.inj h
theorem Api_Cell.inj_iff (x y : Api_Cell) : x.cv = y.cv ↔ x = y := ⟨Api_Cell.inj, fun h => by rw [h]⟩
theorem Api_Cell.shOk (x : Api_Cell) : Cl.shOk x.cv sh110 = true := shOk_n (Api_Cell.shape x) rfl
theorem Api_Cell.eq (d : Nat) (x y : Api_Cell) : eqCV C (d + 3) 110 x.cv y.cv = some (decide (x = y)) := by
  refine (eqCV_st C (d := d + 2) tt110 (Api_Cell.shape x) (Api_Cell.shape y) (eqList_c (eqCV_bool C tt4 (d + 1) _ _) (eqList_c (Api_Input.eq (d + 0) _ _) rfl))).trans (congrArg some ?_)
  rw [Bool.eq_iff_iff]
  simp only [Bool.and_eq_true, decide_eq_true_eq, and_true]
  exact ⟨fun h => Api_Cell.ext' h.1 h.2, fun h => by subst h; simp⟩
theorem Api_Cell.eql (x y : Api_Cell) (b : Bool) : qbin C .eql 110 b x.cv y.cv = some (Bo (decide (x = y))) := by
  have h := Api_Cell.eq 9 x y
  unfold Api_Cell.cv at h ⊢
  simp only [qbin]
  rw [h]; rfl
theorem Api_Cell.neq (x y : Api_Cell) (b : Bool) : qbin C .neq 110 b x.cv y.cv = some (Bo (!decide (x = y))) := by
  have h := Api_Cell.eq 9 x y
  unfold Api_Cell.cv at h ⊢
  simp only [qbin]
  rw [h]; rfl
theorem Api_Cell.at_0 (x : Api_Cell) (q : List Nat) : x.cv.at (0 :: q) = (Bo x.Real).at q := rfl
def Api_Cell.upd_0 (x : Api_Cell) (v : CV) : CV := .agg [v, Api_Input.cv x.In]
theorem Api_Cell.set_0 (x : Api_Cell) (q : List Nat) (v : CV) : x.cv.set (0 :: q) v = Api_Cell.upd_0 x ((Bo x.Real).set q v) := rfl
theorem Api_Cell.fold_0 (x : Api_Cell) (y : Bool) : Api_Cell.upd_0 x (Bo y) = ({ x with Real := y } : Api_Cell).cv := rfl
theorem Api_Cell.fld_0 (x : Api_Cell) : qfield C 110 x.cv 0 = some (Bo x.Real) := qfield_of C tt110 (Api_Cell.shape x) rfl tt4 rfl rfl
theorem Api_Cell.rfa_0 (x : Api_Cell) (h : Heap) : qfieldAddr C h 110 (.rptr x.cv) 0 = some (.rptr (Bo x.Real)) := by
  have hs := Api_Cell.shape x
  unfold Api_Cell.cv at hs ⊢
  simp only [qfieldAddr, tt110, ti110, tgt, hs, if_true, List.getElem?_cons_zero, List.getElem?_cons_succ]
theorem Api_Cell.sub_0 (q : List Nat) (z : Shape) : subEq sh110 (0 :: q) z = subEq sh4 q z := rfl
theorem Api_Cell.at_1 (x : Api_Cell) (q : List Nat) : x.cv.at (1 :: q) = (Api_Input.cv x.In).at q := rfl
def Api_Cell.upd_1 (x : Api_Cell) (v : CV) : CV := .agg [Bo x.Real, v]
theorem Api_Cell.set_1 (x : Api_Cell) (q : List Nat) (v : CV) : x.cv.set (1 :: q) v = Api_Cell.upd_1 x ((Api_Input.cv x.In).set q v) := rfl
theorem Api_Cell.fold_1 (x : Api_Cell) (y : Api_Input) : Api_Cell.upd_1 x (Api_Input.cv y) = ({ x with In := y } : Api_Cell).cv := rfl
theorem Api_Cell.fld_1 (x : Api_Cell) : qfield C 110 x.cv 1 = some (Api_Input.cv x.In) := qfield_of C tt110 (Api_Cell.shape x) rfl tt36 rfl (Api_Input.shOk _)
theorem Api_Cell.rfa_1 (x : Api_Cell) (h : Heap) : qfieldAddr C h 110 (.rptr x.cv) 1 = some (.rptr (Api_Input.cv x.In)) := by
  have hs := Api_Cell.shape x
  unfold Api_Cell.cv at hs ⊢
  simp only [qfieldAddr, tt110, ti110, tgt, hs, if_true, List.getElem?_cons_zero, List.getElem?_cons_succ]
theorem Api_Cell.sub_1 (q : List Nat) (z : Shape) : subEq sh110 (1 :: q) z = subEq sh36 q z := rfl
theorem Api_Cell.sub_nil : subEq sh110 [] sh110 = true := by simp [subEq, Shape.sub]
theorem Api_Cell.alloc : allocObj C (.alloc 110) = some (.var sh110 Api_Cell.zero.cv) := by simp only [allocObj, tt110, ti110, Api_Cell.zcv]
theorem Api_Cell.xalloc (p : Hp) : xalloc C p 110 = .ret (.ptr p.n []) (p.new (.var sh110 Api_Cell.zero.cv)) := by simp only [Cl.xalloc, tt110, ti110, Api_Cell.zcv]
theorem Api_Cell.xbox (p : Hp) (x : Api_Cell) : xbox C p 110 x.cv = .ret (.ptr p.n []) (p.new (.var sh110 x.cv)) := by
  have h : Cl.shOk x.cv ti110.sh = true := Api_Cell.shOk x
  simp only [Cl.xbox, tt110, h, cond_true]; rfl
theorem Api_Cell.bld_0 (a0 : Bool) : qbuild C 110 [(0, Bo a0)] = some (({ Real := a0, In := Api_Input.zero } : Api_Cell).cv) := qbuild_of C tt110 (by simp only [partsOk, setAll, CV.shape, sh110, List.all_cons, List.all_nil, List.getElem?_cons_zero, List.getElem?_cons_succ, Bool.and_true, decide_true]) rfl
theorem Api_Cell.bld_0_1 (a0 : Bool) (a1 : Api_Input) : qbuild C 110 [(0, Bo a0), (1, Api_Input.cv a1)] = some (({ Real := a0, In := a1 } : Api_Cell).cv) := qbuild_of C tt110 (by simp only [partsOk, setAll, CV.shape, Api_Input.shape, sh110, List.all_cons, List.all_nil, List.getElem?_cons_zero, List.getElem?_cons_succ, Bool.and_true, decide_true]) rfl
structure Packet_Packet where
  Kind : Int
  Slot : Int
  Seq : Int
  Last : Int
  Any : Bool
  Acks : Int
  Got : Int
  First : Int
  Inputs : Lst Api_Input
  Players : Int
  Rows : Lst (Lst Api_Cell)
  Frame : Int
  Mark : Int
def Packet_Packet.cv (x : Packet_Packet) : CV := .agg [I x.Kind, I x.Slot, I x.Seq, I x.Last, Bo x.Any, U x.Acks, I x.Got, I x.First, (Lst.cv Api_Input.cv) x.Inputs, I x.Players, (Lst.cv (Lst.cv Api_Cell.cv)) x.Rows, I x.Frame, I x.Mark]
@[ext] theorem Packet_Packet.ext' {x y : Packet_Packet} (h_Kind : x.Kind = y.Kind) (h_Slot : x.Slot = y.Slot) (h_Seq : x.Seq = y.Seq) (h_Last : x.Last = y.Last) (h_Any : x.Any = y.Any) (h_Acks : x.Acks = y.Acks) (h_Got : x.Got = y.Got) (h_First : x.First = y.First) (h_Inputs : x.Inputs = y.Inputs) (h_Players : x.Players = y.Players) (h_Rows : x.Rows = y.Rows) (h_Frame : x.Frame = y.Frame) (h_Mark : x.Mark = y.Mark) : x = y := by
  obtain ⟨a0, a1, a2, a3, a4, a5, a6, a7, a8, a9, a10, a11, a12⟩ := x
  obtain ⟨c0, c1, c2, c3, c4, c5, c6, c7, c8, c9, c10, c11, c12⟩ := y
  simp only at h_Kind h_Slot h_Seq h_Last h_Any h_Acks h_Got h_First h_Inputs h_Players h_Rows h_Frame h_Mark
  subst h_Kind h_Slot h_Seq h_Last h_Any h_Acks h_Got h_First h_Inputs h_Players h_Rows h_Frame h_Mark
  rfl
def Packet_Packet.zero : Packet_Packet := { Kind := 0, Slot := 0, Seq := 0, Last := 0, Any := false, Acks := 0, Got := 0, First := 0, Inputs := ⟨.nil, [], fun _ => rfl⟩, Players := 0, Rows := ⟨.nil, [], fun _ => rfl⟩, Frame := 0, Mark := 0 }
instance : Inhabited Packet_Packet := ⟨Packet_Packet.zero⟩
theorem Packet_Packet.zcv : z94 = Packet_Packet.zero.cv := by
  simp only [z94, Packet_Packet.zero, Packet_Packet.cv, List.map_replicate, Lst.cv, List.map_nil]
theorem Packet_Packet.shape (x : Packet_Packet) : x.cv.shape = sh94 := by simp only [Packet_Packet.cv, sh94, CV.shape, CV.shapes, Lst.shape]
theorem Packet_Packet.has (x : Packet_Packet) (j : Nat) : x.cv.has j ↔ x.Inputs.tl = .own j ∨ ((Lst.cv (Lst.cv Api_Cell.cv)) x.Rows).has j := by simp [Packet_Packet.cv, CV.has, CV.hasL, Lst.has _ Api_Input.nohas]
theorem Packet_Packet.inj {x y : Packet_Packet} (h : x.cv = y.cv) : x = y := by
  simp only [Packet_Packet.cv, CV.agg.injEq, List.cons.injEq, and_true] at h
  obtain ⟨h0, h1, h2, h3, h4, h5, h6, h7, h8, h9, h10, h11, h12⟩ := h
  refine Packet_Packet.ext' (I_inj _ _ h0) (I_inj _ _ h1) (I_inj _ _ h2) (I_inj _ _ h3) (Bo_inj _ _ h4) (U_inj _ _ h5) (I_inj _ _ h6) (I_inj _ _ h7) ((Lst.injF Api_Input.injF) _ _ h8) (I_inj _ _ h9) ((Lst.injF (Lst.injF Api_Cell.injF)) _ _ h10) (I_inj _ _ h11) (I_inj _ _ h12)
theorem Packet_Packet.injF (x y : Packet_Packet) (h : x.cv = y.cv) : x = y := Packet_Packet.inj h
theorem Packet_Packet.inj_iff (x y : Packet_Packet) : x.cv = y.cv ↔ x = y := ⟨Packet_Packet.inj, fun h => by rw [h]⟩
theorem Packet_Packet.shOk (x : Packet_Packet) : Cl.shOk x.cv sh94 = true := shOk_n (Packet_Packet.shape x) rfl
theorem Packet_Packet.at_0 (x : Packet_Packet) (q : List Nat) : x.cv.at (0 :: q) = (I x.Kind).at q := rfl
def Packet_Packet.upd_0 (x : Packet_Packet) (v : CV) : CV := .agg [v, I x.Slot, I x.Seq, I x.Last, Bo x.Any, U x.Acks, I x.Got, I x.First, (Lst.cv Api_Input.cv) x.Inputs, I x.Players, (Lst.cv (Lst.cv Api_Cell.cv)) x.Rows, I x.Frame, I x.Mark]
theorem Packet_Packet.set_0 (x : Packet_Packet) (q : List Nat) (v : CV) : x.cv.set (0 :: q) v = Packet_Packet.upd_0 x ((I x.Kind).set q v) := rfl
theorem Packet_Packet.fold_0 (x : Packet_Packet) (y : Int) : Packet_Packet.upd_0 x (I y) = ({ x with Kind := y } : Packet_Packet).cv := rfl
theorem Packet_Packet.fld_0 (x : Packet_Packet) : qfield C 94 x.cv 0 = some (I x.Kind) := qfield_of C tt94 (Packet_Packet.shape x) rfl tt3 rfl rfl
theorem Packet_Packet.rfa_0 (x : Packet_Packet) (h : Heap) : qfieldAddr C h 94 (.rptr x.cv) 0 = some (.rptr (I x.Kind)) := by
  have hs := Packet_Packet.shape x
  unfold Packet_Packet.cv at hs ⊢
  simp only [qfieldAddr, tt94, ti94, tgt, hs, if_true, List.getElem?_cons_zero, List.getElem?_cons_succ]
theorem Packet_Packet.sub_0 (q : List Nat) (z : Shape) : subEq sh94 (0 :: q) z = subEq sh3 q z := rfl
theorem Packet_Packet.at_1 (x : Packet_Packet) (q : List Nat) : x.cv.at (1 :: q) = (I x.Slot).at q := rfl
def Packet_Packet.upd_1 (x : Packet_Packet) (v : CV) : CV := .agg [I x.Kind, v, I x.Seq, I x.Last, Bo x.Any, U x.Acks, I x.Got, I x.First, (Lst.cv Api_Input.cv) x.Inputs, I x.Players, (Lst.cv (Lst.cv Api_Cell.cv)) x.Rows, I x.Frame, I x.Mark]
theorem Packet_Packet.set_1 (x : Packet_Packet) (q : List Nat) (v : CV) : x.cv.set (1 :: q) v = Packet_Packet.upd_1 x ((I x.Slot).set q v) := rfl
theorem Packet_Packet.fold_1 (x : Packet_Packet) (y : Int) : Packet_Packet.upd_1 x (I y) = ({ x with Slot := y } : Packet_Packet).cv := rfl
theorem Packet_Packet.fld_1 (x : Packet_Packet) : qfield C 94 x.cv 1 = some (I x.Slot) := qfield_of C tt94 (Packet_Packet.shape x) rfl tt3 rfl rfl
theorem Packet_Packet.rfa_1 (x : Packet_Packet) (h : Heap) : qfieldAddr C h 94 (.rptr x.cv) 1 = some (.rptr (I x.Slot)) := by
  have hs := Packet_Packet.shape x
  unfold Packet_Packet.cv at hs ⊢
  simp only [qfieldAddr, tt94, ti94, tgt, hs, if_true, List.getElem?_cons_zero, List.getElem?_cons_succ]
theorem Packet_Packet.sub_1 (q : List Nat) (z : Shape) : subEq sh94 (1 :: q) z = subEq sh3 q z := rfl
theorem Packet_Packet.at_2 (x : Packet_Packet) (q : List Nat) : x.cv.at (2 :: q) = (I x.Seq).at q := rfl
def Packet_Packet.upd_2 (x : Packet_Packet) (v : CV) : CV := .agg [I x.Kind, I x.Slot, v, I x.Last, Bo x.Any, U x.Acks, I x.Got, I x.First, (Lst.cv Api_Input.cv) x.Inputs, I x.Players, (Lst.cv (Lst.cv Api_Cell.cv)) x.Rows, I x.Frame, I x.Mark]
theorem Packet_Packet.set_2 (x : Packet_Packet) (q : List Nat) (v : CV) : x.cv.set (2 :: q) v = Packet_Packet.upd_2 x ((I x.Seq).set q v) := rfl
theorem Packet_Packet.fold_2 (x : Packet_Packet) (y : Int) : Packet_Packet.upd_2 x (I y) = ({ x with Seq := y } : Packet_Packet).cv := rfl
theorem Packet_Packet.fld_2 (x : Packet_Packet) : qfield C 94 x.cv 2 = some (I x.Seq) := qfield_of C tt94 (Packet_Packet.shape x) rfl tt3 rfl rfl
theorem Packet_Packet.rfa_2 (x : Packet_Packet) (h : Heap) : qfieldAddr C h 94 (.rptr x.cv) 2 = some (.rptr (I x.Seq)) := by
  have hs := Packet_Packet.shape x
  unfold Packet_Packet.cv at hs ⊢
  simp only [qfieldAddr, tt94, ti94, tgt, hs, if_true, List.getElem?_cons_zero, List.getElem?_cons_succ]
theorem Packet_Packet.sub_2 (q : List Nat) (z : Shape) : subEq sh94 (2 :: q) z = subEq sh3 q z := rfl
theorem Packet_Packet.at_3 (x : Packet_Packet) (q : List Nat) : x.cv.at (3 :: q) = (I x.Last).at q := rfl
def Packet_Packet.upd_3 (x : Packet_Packet) (v : CV) : CV := .agg [I x.Kind, I x.Slot, I x.Seq, v, Bo x.Any, U x.Acks, I x.Got, I x.First, (Lst.cv Api_Input.cv) x.Inputs, I x.Players, (Lst.cv (Lst.cv Api_Cell.cv)) x.Rows, I x.Frame, I x.Mark]
theorem Packet_Packet.set_3 (x : Packet_Packet) (q : List Nat) (v : CV) : x.cv.set (3 :: q) v = Packet_Packet.upd_3 x ((I x.Last).set q v) := rfl
theorem Packet_Packet.fold_3 (x : Packet_Packet) (y : Int) : Packet_Packet.upd_3 x (I y) = ({ x with Last := y } : Packet_Packet).cv := rfl
theorem Packet_Packet.fld_3 (x : Packet_Packet) : qfield C 94 x.cv 3 = some (I x.Last) := qfield_of C tt94 (Packet_Packet.shape x) rfl tt3 rfl rfl
theorem Packet_Packet.rfa_3 (x : Packet_Packet) (h : Heap) : qfieldAddr C h 94 (.rptr x.cv) 3 = some (.rptr (I x.Last)) := by
  have hs := Packet_Packet.shape x
  unfold Packet_Packet.cv at hs ⊢
  simp only [qfieldAddr, tt94, ti94, tgt, hs, if_true, List.getElem?_cons_zero, List.getElem?_cons_succ]
theorem Packet_Packet.sub_3 (q : List Nat) (z : Shape) : subEq sh94 (3 :: q) z = subEq sh3 q z := rfl
theorem Packet_Packet.at_4 (x : Packet_Packet) (q : List Nat) : x.cv.at (4 :: q) = (Bo x.Any).at q := rfl
def Packet_Packet.upd_4 (x : Packet_Packet) (v : CV) : CV := .agg [I x.Kind, I x.Slot, I x.Seq, I x.Last, v, U x.Acks, I x.Got, I x.First, (Lst.cv Api_Input.cv) x.Inputs, I x.Players, (Lst.cv (Lst.cv Api_Cell.cv)) x.Rows, I x.Frame, I x.Mark]
theorem Packet_Packet.set_4 (x : Packet_Packet) (q : List Nat) (v : CV) : x.cv.set (4 :: q) v = Packet_Packet.upd_4 x ((Bo x.Any).set q v) := rfl
theorem Packet_Packet.fold_4 (x : Packet_Packet) (y : Bool) : Packet_Packet.upd_4 x (Bo y) = ({ x with Any := y } : Packet_Packet).cv := rfl
theorem Packet_Packet.fld_4 (x : Packet_Packet) : qfield C 94 x.cv 4 = some (Bo x.Any) := qfield_of C tt94 (Packet_Packet.shape x) rfl tt4 rfl rfl
theorem Packet_Packet.rfa_4 (x : Packet_Packet) (h : Heap) : qfieldAddr C h 94 (.rptr x.cv) 4 = some (.rptr (Bo x.Any)) := by
  have hs := Packet_Packet.shape x
  unfold Packet_Packet.cv at hs ⊢
  simp only [qfieldAddr, tt94, ti94, tgt, hs, if_true, List.getElem?_cons_zero, List.getElem?_cons_succ]
theorem Packet_Packet.sub_4 (q : List Nat) (z : Shape) : subEq sh94 (4 :: q) z = subEq sh4 q z := rfl
theorem Packet_Packet.at_5 (x : Packet_Packet) (q : List Nat) : x.cv.at (5 :: q) = (U x.Acks).at q := rfl
def Packet_Packet.upd_5 (x : Packet_Packet) (v : CV) : CV := .agg [I x.Kind, I x.Slot, I x.Seq, I x.Last, Bo x.Any, v, I x.Got, I x.First, (Lst.cv Api_Input.cv) x.Inputs, I x.Players, (Lst.cv (Lst.cv Api_Cell.cv)) x.Rows, I x.Frame, I x.Mark]
theorem Packet_Packet.set_5 (x : Packet_Packet) (q : List Nat) (v : CV) : x.cv.set (5 :: q) v = Packet_Packet.upd_5 x ((U x.Acks).set q v) := rfl
theorem Packet_Packet.fold_5 (x : Packet_Packet) (y : Int) : Packet_Packet.upd_5 x (U y) = ({ x with Acks := y } : Packet_Packet).cv := rfl
theorem Packet_Packet.fld_5 (x : Packet_Packet) : qfield C 94 x.cv 5 = some (U x.Acks) := qfield_of C tt94 (Packet_Packet.shape x) rfl tt25 rfl rfl
theorem Packet_Packet.rfa_5 (x : Packet_Packet) (h : Heap) : qfieldAddr C h 94 (.rptr x.cv) 5 = some (.rptr (U x.Acks)) := by
  have hs := Packet_Packet.shape x
  unfold Packet_Packet.cv at hs ⊢
  simp only [qfieldAddr, tt94, ti94, tgt, hs, if_true, List.getElem?_cons_zero, List.getElem?_cons_succ]
theorem Packet_Packet.sub_5 (q : List Nat) (z : Shape) : subEq sh94 (5 :: q) z = subEq sh25 q z := rfl
theorem Packet_Packet.at_6 (x : Packet_Packet) (q : List Nat) : x.cv.at (6 :: q) = (I x.Got).at q := rfl
def Packet_Packet.upd_6 (x : Packet_Packet) (v : CV) : CV := .agg [I x.Kind, I x.Slot, I x.Seq, I x.Last, Bo x.Any, U x.Acks, v, I x.First, (Lst.cv Api_Input.cv) x.Inputs, I x.Players, (Lst.cv (Lst.cv Api_Cell.cv)) x.Rows, I x.Frame, I x.Mark]
theorem Packet_Packet.set_6 (x : Packet_Packet) (q : List Nat) (v : CV) : x.cv.set (6 :: q) v = Packet_Packet.upd_6 x ((I x.Got).set q v) := rfl
theorem Packet_Packet.fold_6 (x : Packet_Packet) (y : Int) : Packet_Packet.upd_6 x (I y) = ({ x with Got := y } : Packet_Packet).cv := rfl
theorem Packet_Packet.fld_6 (x : Packet_Packet) : qfield C 94 x.cv 6 = some (I x.Got) := qfield_of C tt94 (Packet_Packet.shape x) rfl tt3 rfl rfl
theorem Packet_Packet.rfa_6 (x : Packet_Packet) (h : Heap) : qfieldAddr C h 94 (.rptr x.cv) 6 = some (.rptr (I x.Got)) := by
  have hs := Packet_Packet.shape x
  unfold Packet_Packet.cv at hs ⊢
  simp only [qfieldAddr, tt94, ti94, tgt, hs, if_true, List.getElem?_cons_zero, List.getElem?_cons_succ]
theorem Packet_Packet.sub_6 (q : List Nat) (z : Shape) : subEq sh94 (6 :: q) z = subEq sh3 q z := rfl
theorem Packet_Packet.at_7 (x : Packet_Packet) (q : List Nat) : x.cv.at (7 :: q) = (I x.First).at q := rfl
def Packet_Packet.upd_7 (x : Packet_Packet) (v : CV) : CV := .agg [I x.Kind, I x.Slot, I x.Seq, I x.Last, Bo x.Any, U x.Acks, I x.Got, v, (Lst.cv Api_Input.cv) x.Inputs, I x.Players, (Lst.cv (Lst.cv Api_Cell.cv)) x.Rows, I x.Frame, I x.Mark]
theorem Packet_Packet.set_7 (x : Packet_Packet) (q : List Nat) (v : CV) : x.cv.set (7 :: q) v = Packet_Packet.upd_7 x ((I x.First).set q v) := rfl
theorem Packet_Packet.fold_7 (x : Packet_Packet) (y : Int) : Packet_Packet.upd_7 x (I y) = ({ x with First := y } : Packet_Packet).cv := rfl
theorem Packet_Packet.fld_7 (x : Packet_Packet) : qfield C 94 x.cv 7 = some (I x.First) := qfield_of C tt94 (Packet_Packet.shape x) rfl tt3 rfl rfl
theorem Packet_Packet.rfa_7 (x : Packet_Packet) (h : Heap) : qfieldAddr C h 94 (.rptr x.cv) 7 = some (.rptr (I x.First)) := by
  have hs := Packet_Packet.shape x
  unfold Packet_Packet.cv at hs ⊢
  simp only [qfieldAddr, tt94, ti94, tgt, hs, if_true, List.getElem?_cons_zero, List.getElem?_cons_succ]
theorem Packet_Packet.sub_7 (q : List Nat) (z : Shape) : subEq sh94 (7 :: q) z = subEq sh3 q z := rfl
theorem Packet_Packet.at_8 (x : Packet_Packet) (q : List Nat) : x.cv.at (8 :: q) = ((Lst.cv Api_Input.cv) x.Inputs).at q := rfl
def Packet_Packet.upd_8 (x : Packet_Packet) (v : CV) : CV := .agg [I x.Kind, I x.Slot, I x.Seq, I x.Last, Bo x.Any, U x.Acks, I x.Got, I x.First, v, I x.Players, (Lst.cv (Lst.cv Api_Cell.cv)) x.Rows, I x.Frame, I x.Mark]
theorem Packet_Packet.set_8 (x : Packet_Packet) (q : List Nat) (v : CV) : x.cv.set (8 :: q) v = Packet_Packet.upd_8 x (((Lst.cv Api_Input.cv) x.Inputs).set q v) := rfl
theorem Packet_Packet.fold_8 (x : Packet_Packet) (y : Lst Api_Input) : Packet_Packet.upd_8 x ((Lst.cv Api_Input.cv) y) = ({ x with Inputs := y } : Packet_Packet).cv := rfl
theorem Packet_Packet.fld_8 (x : Packet_Packet) : qfield C 94 x.cv 8 = some ((Lst.cv Api_Input.cv) x.Inputs) := qfield_of C tt94 (Packet_Packet.shape x) rfl tt91 rfl rfl
theorem Packet_Packet.rfa_8 (x : Packet_Packet) (h : Heap) : qfieldAddr C h 94 (.rptr x.cv) 8 = some (.rptr ((Lst.cv Api_Input.cv) x.Inputs)) := by
  have hs := Packet_Packet.shape x
  unfold Packet_Packet.cv at hs ⊢
  simp only [qfieldAddr, tt94, ti94, tgt, hs, if_true, List.getElem?_cons_zero, List.getElem?_cons_succ]
theorem Packet_Packet.sub_8 (q : List Nat) (z : Shape) : subEq sh94 (8 :: q) z = subEq sh91 q z := rfl
theorem Packet_Packet.sub_nil : subEq sh94 [] sh94 = true := by simp [subEq, Shape.sub]
theorem Packet_Packet.alloc : allocObj C (.alloc 94) = some (.var sh94 Packet_Packet.zero.cv) := by simp only [allocObj, tt94, ti94, Packet_Packet.zcv]
theorem Packet_Packet.xalloc (p : Hp) : xalloc C p 94 = .ret (.ptr p.n []) (p.new (.var sh94 Packet_Packet.zero.cv)) := by simp only [Cl.xalloc, tt94, ti94, Packet_Packet.zcv]
theorem Packet_Packet.xbox (p : Hp) (x : Packet_Packet) : xbox C p 94 x.cv = .ret (.ptr p.n []) (p.new (.var sh94 x.cv)) := by
  have h : Cl.shOk x.cv ti94.sh = true := Packet_Packet.shOk x
  simp only [Cl.xbox, tt94, h, cond_true]; rfl
theorem Packet_Packet.bld_none  : qbuild C 94 [] = some (({ Kind := 0, Slot := 0, Seq := 0, Last := 0, Any := false, Acks := 0, Got := 0, First := 0, Inputs := ⟨.nil, [], fun _ => rfl⟩, Players := 0, Rows := ⟨.nil, [], fun _ => rfl⟩, Frame := 0, Mark := 0 } : Packet_Packet).cv) := qbuild_of C tt94 (by simp only [partsOk, setAll, CV.shape, sh94, List.all_cons, List.all_nil, List.getElem?_cons_zero, List.getElem?_cons_succ, Bool.and_true, decide_true]) rfl
theorem Packet_Packet.bld_0 (a0 : Int) : qbuild C 94 [(0, I a0)] = some (({ Kind := a0, Slot := 0, Seq := 0, Last := 0, Any := false, Acks := 0, Got := 0, First := 0, Inputs := ⟨.nil, [], fun _ => rfl⟩, Players := 0, Rows := ⟨.nil, [], fun _ => rfl⟩, Frame := 0, Mark := 0 } : Packet_Packet).cv) := qbuild_of C tt94 (by simp only [partsOk, setAll, CV.shape, sh94, List.all_cons, List.all_nil, List.getElem?_cons_zero, List.getElem?_cons_succ, Bool.and_true, decide_true]) rfl
theorem Packet_Packet.bld_0_1_2_3_4_5 (a0 : Int) (a1 : Int) (a2 : Int) (a3 : Int) (a4 : Bool) (a5 : Int) : qbuild C 94 [(0, I a0), (1, I a1), (2, I a2), (3, I a3), (4, Bo a4), (5, U a5)] = some (({ Kind := a0, Slot := a1, Seq := a2, Last := a3, Any := a4, Acks := a5, Got := 0, First := 0, Inputs := ⟨.nil, [], fun _ => rfl⟩, Players := 0, Rows := ⟨.nil, [], fun _ => rfl⟩, Frame := 0, Mark := 0 } : Packet_Packet).cv) := qbuild_of C tt94 (by simp only [partsOk, setAll, CV.shape, sh94, List.all_cons, List.all_nil, List.getElem?_cons_zero, List.getElem?_cons_succ, Bool.and_true, decide_true]) rfl
structure Rule_machine where
  e_ : Rule_Env
  l_ : Lst Api_Op
  at_ : Int
def Rule_machine.cv (x : Rule_machine) : CV := .agg [Rule_Env.cv x.e_, (Lst.cv Api_Op.cv) x.l_, I x.at_]
@[ext] theorem Rule_machine.ext' {x y : Rule_machine} (h_e_ : x.e_ = y.e_) (h_l_ : x.l_ = y.l_) (h_at_ : x.at_ = y.at_) : x = y := by
  obtain ⟨a0, a1, a2⟩ := x
  obtain ⟨c0, c1, c2⟩ := y
  simp only at h_e_ h_l_ h_at_
  subst h_e_ h_l_ h_at_
  rfl
def Rule_machine.zero : Rule_machine := { e_ := Rule_Env.zero, l_ := ⟨.nil, [], fun _ => rfl⟩, at_ := 0 }
instance : Inhabited Rule_machine := ⟨Rule_machine.zero⟩
theorem Rule_machine.zcv : z131 = Rule_machine.zero.cv := by
  simp only [z131, Rule_machine.zero, Rule_machine.cv, Rule_Env.zcv, List.map_replicate, Lst.cv, List.map_nil]
theorem Rule_machine.shape (x : Rule_machine) : x.cv.shape = sh131 := by simp only [Rule_machine.cv, sh131, CV.shape, CV.shapes, Rule_Env.shape, Lst.shape]
theorem Rule_machine.has (x : Rule_machine) (j : Nat) : x.cv.has j ↔ x.e_.cv.has j ∨ x.l_.tl = .own j := by simp [Rule_machine.cv, CV.has, CV.hasL, Lst.has _ Api_Op.nohas]
theorem Rule_machine.inj {x y : Rule_machine} (h : x.cv = y.cv) : x = y := by
  simp only [Rule_machine.cv, CV.agg.injEq, List.cons.injEq, and_true] at h
  obtain ⟨h0, h1, h2⟩ := h
  refine Rule_machine.ext' (Rule_Env.injF _ _ h0) ((Lst.injF Api_Op.injF) _ _ h1) (I_inj _ _ h2)
theorem Rule_machine.injF (x y : Rule_machine) (h : x.cv = y.cv) : x = y := Rule_machine.inj h
theorem Rule_machine.inj_iff (x y : Rule_machine) : x.cv = y.cv ↔ x = y := ⟨Rule_machine.inj, fun h => by rw [h]⟩
theorem Rule_machine.shOk (x : Rule_machine) : Cl.shOk x.cv sh131 = true := shOk_n (Rule_machine.shape x) rfl
theorem Rule_machine.at_0 (x : Rule_machine) (q : List Nat) : x.cv.at (0 :: q) = (Rule_Env.cv x.e_).at q := rfl
def Rule_machine.upd_0 (x : Rule_machine) (v : CV) : CV := .agg [v, (Lst.cv Api_Op.cv) x.l_, I x.at_]
theorem Rule_machine.set_0 (x : Rule_machine) (q : List Nat) (v : CV) : x.cv.set (0 :: q) v = Rule_machine.upd_0 x ((Rule_Env.cv x.e_).set q v) := rfl
theorem Rule_machine.fold_0 (x : Rule_machine) (y : Rule_Env) : Rule_machine.upd_0 x (Rule_Env.cv y) = ({ x with e_ := y } : Rule_machine).cv := rfl
theorem Rule_machine.fld_0 (x : Rule_machine) : qfield C 131 x.cv 0 = some (Rule_Env.cv x.e_) := qfield_of C tt131 (Rule_machine.shape x) rfl tt39 rfl (Rule_Env.shOk _)
theorem Rule_machine.rfa_0 (x : Rule_machine) (h : Heap) : qfieldAddr C h 131 (.rptr x.cv) 0 = some (.rptr (Rule_Env.cv x.e_)) := by
  have hs := Rule_machine.shape x
  unfold Rule_machine.cv at hs ⊢
  simp only [qfieldAddr, tt131, ti131, tgt, hs, if_true, List.getElem?_cons_zero, List.getElem?_cons_succ]
theorem Rule_machine.sub_0 (q : List Nat) (z : Shape) : subEq sh131 (0 :: q) z = subEq sh39 q z := rfl
theorem Rule_machine.at_1 (x : Rule_machine) (q : List Nat) : x.cv.at (1 :: q) = ((Lst.cv Api_Op.cv) x.l_).at q := rfl
def Rule_machine.upd_1 (x : Rule_machine) (v : CV) : CV := .agg [Rule_Env.cv x.e_, v, I x.at_]
theorem Rule_machine.set_1 (x : Rule_machine) (q : List Nat) (v : CV) : x.cv.set (1 :: q) v = Rule_machine.upd_1 x (((Lst.cv Api_Op.cv) x.l_).set q v) := rfl
theorem Rule_machine.fold_1 (x : Rule_machine) (y : Lst Api_Op) : Rule_machine.upd_1 x ((Lst.cv Api_Op.cv) y) = ({ x with l_ := y } : Rule_machine).cv := rfl
theorem Rule_machine.fld_1 (x : Rule_machine) : qfield C 131 x.cv 1 = some ((Lst.cv Api_Op.cv) x.l_) := qfield_of C tt131 (Rule_machine.shape x) rfl tt23 rfl rfl
theorem Rule_machine.rfa_1 (x : Rule_machine) (h : Heap) : qfieldAddr C h 131 (.rptr x.cv) 1 = some (.rptr ((Lst.cv Api_Op.cv) x.l_)) := by
  have hs := Rule_machine.shape x
  unfold Rule_machine.cv at hs ⊢
  simp only [qfieldAddr, tt131, ti131, tgt, hs, if_true, List.getElem?_cons_zero, List.getElem?_cons_succ]
theorem Rule_machine.sub_1 (q : List Nat) (z : Shape) : subEq sh131 (1 :: q) z = subEq sh23 q z := rfl
theorem Rule_machine.at_2 (x : Rule_machine) (q : List Nat) : x.cv.at (2 :: q) = (I x.at_).at q := rfl
def Rule_machine.upd_2 (x : Rule_machine) (v : CV) : CV := .agg [Rule_Env.cv x.e_, (Lst.cv Api_Op.cv) x.l_, v]
theorem Rule_machine.set_2 (x : Rule_machine) (q : List Nat) (v : CV) : x.cv.set (2 :: q) v = Rule_machine.upd_2 x ((I x.at_).set q v) := rfl
theorem Rule_machine.fold_2 (x : Rule_machine) (y : Int) : Rule_machine.upd_2 x (I y) = ({ x with at_ := y } : Rule_machine).cv := rfl
theorem Rule_machine.fld_2 (x : Rule_machine) : qfield C 131 x.cv 2 = some (I x.at_) := qfield_of C tt131 (Rule_machine.shape x) rfl tt3 rfl rfl
theorem Rule_machine.rfa_2 (x : Rule_machine) (h : Heap) : qfieldAddr C h 131 (.rptr x.cv) 2 = some (.rptr (I x.at_)) := by
  have hs := Rule_machine.shape x
  unfold Rule_machine.cv at hs ⊢
  simp only [qfieldAddr, tt131, ti131, tgt, hs, if_true, List.getElem?_cons_zero, List.getElem?_cons_succ]
theorem Rule_machine.sub_2 (q : List Nat) (z : Shape) : subEq sh131 (2 :: q) z = subEq sh3 q z := rfl
theorem Rule_machine.sub_nil : subEq sh131 [] sh131 = true := by simp [subEq, Shape.sub]
theorem Rule_machine.alloc : allocObj C (.alloc 131) = some (.var sh131 Rule_machine.zero.cv) := by simp only [allocObj, tt131, ti131, Rule_machine.zcv]
theorem Rule_machine.xalloc (p : Hp) : xalloc C p 131 = .ret (.ptr p.n []) (p.new (.var sh131 Rule_machine.zero.cv)) := by simp only [Cl.xalloc, tt131, ti131, Rule_machine.zcv]
theorem Rule_machine.xbox (p : Hp) (x : Rule_machine) : xbox C p 131 x.cv = .ret (.ptr p.n []) (p.new (.var sh131 x.cv)) := by
  have h : Cl.shOk x.cv ti131.sh = true := Rule_machine.shOk x
  simp only [Cl.xbox, tt131, h, cond_true]; rfl
theorem Rule_machine.bld_0_1 (a0 : Rule_Env) (a1 : Lst Api_Op) : qbuild C 131 [(0, Rule_Env.cv a0), (1, (Lst.cv Api_Op.cv) a1)] = some (({ e_ := a0, l_ := a1, at_ := 0 } : Rule_machine).cv) := qbuild_of C tt131 (by simp only [partsOk, setAll, CV.shape, Rule_Env.shape, Lst.shape, sh131, List.all_cons, List.all_nil, List.getElem?_cons_zero, List.getElem?_cons_succ, Bool.and_true, decide_true]) rfl
structure Ref1_Reader where
  B : Lst Int
  At : Int
  Short : Bool
def Ref1_Reader.cv (x : Ref1_Reader) : CV := .agg [(Lst.cv Y8) x.B, I x.At, Bo x.Short]
@[ext] theorem Ref1_Reader.ext' {x y : Ref1_Reader} (h_B : x.B = y.B) (h_At : x.At = y.At) (h_Short : x.Short = y.Short) : x = y := by
  obtain ⟨a0, a1, a2⟩ := x
  obtain ⟨c0, c1, c2⟩ := y
  simp only at h_B h_At h_Short
  subst h_B h_At h_Short
  rfl
def Ref1_Reader.zero : Ref1_Reader := { B := ⟨.nil, [], fun _ => rfl⟩, At := 0, Short := false }
instance : Inhabited Ref1_Reader := ⟨Ref1_Reader.zero⟩
theorem Ref1_Reader.zcv : z161 = Ref1_Reader.zero.cv := by
  simp only [z161, Ref1_Reader.zero, Ref1_Reader.cv, List.map_replicate, Lst.cv, List.map_nil]
theorem Ref1_Reader.shape (x : Ref1_Reader) : x.cv.shape = sh161 := by simp only [Ref1_Reader.cv, sh161, CV.shape, CV.shapes, Lst.shape]
theorem Ref1_Reader.has (x : Ref1_Reader) (j : Nat) : x.cv.has j ↔ x.B.tl = .own j := by simp [Ref1_Reader.cv, CV.has, CV.hasL, Lst.has _ Y8_has]
theorem Ref1_Reader.inj {x y : Ref1_Reader} (h : x.cv = y.cv) : x = y := by
  simp only [Ref1_Reader.cv, CV.agg.injEq, List.cons.injEq, and_true] at h
  obtain ⟨h0, h1, h2⟩ := h
  refine Ref1_Reader.ext' ((Lst.injF Y8_inj) _ _ h0) (I_inj _ _ h1) (Bo_inj _ _ h2)
theorem Ref1_Reader.injF (x y : Ref1_Reader) (h : x.cv = y.cv) : x = y := Ref1_Reader.inj h
theorem Ref1_Reader.inj_iff (x y : Ref1_Reader) : x.cv = y.cv ↔ x = y := ⟨Ref1_Reader.inj, fun h => by rw [h]⟩
theorem Ref1_Reader.shOk (x : Ref1_Reader) : Cl.shOk x.cv sh161 = true := shOk_n (Ref1_Reader.shape x) rfl
theorem Ref1_Reader.at_0 (x : Ref1_Reader) (q : List Nat) : x.cv.at (0 :: q) = ((Lst.cv Y8) x.B).at q := rfl
def Ref1_Reader.upd_0 (x : Ref1_Reader) (v : CV) : CV := .agg [v, I x.At, Bo x.Short]
theorem Ref1_Reader.set_0 (x : Ref1_Reader) (q : List Nat) (v : CV) : x.cv.set (0 :: q) v = Ref1_Reader.upd_0 x (((Lst.cv Y8) x.B).set q v) := rfl
theorem Ref1_Reader.fold_0 (x : Ref1_Reader) (y : Lst Int) : Ref1_Reader.upd_0 x ((Lst.cv Y8) y) = ({ x with B := y } : Ref1_Reader).cv := rfl
theorem Ref1_Reader.fld_0 (x : Ref1_Reader) : qfield C 161 x.cv 0 = some ((Lst.cv Y8) x.B) := qfield_of C tt161 (Ref1_Reader.shape x) rfl tt68 rfl rfl
theorem Ref1_Reader.rfa_0 (x : Ref1_Reader) (h : Heap) : qfieldAddr C h 161 (.rptr x.cv) 0 = some (.rptr ((Lst.cv Y8) x.B)) := by
  have hs := Ref1_Reader.shape x
  unfold Ref1_Reader.cv at hs ⊢
  simp only [qfieldAddr, tt161, ti161, tgt, hs, if_true, List.getElem?_cons_zero, List.getElem?_cons_succ]
theorem Ref1_Reader.sub_0 (q : List Nat) (z : Shape) : subEq sh161 (0 :: q) z = subEq sh68 q z := rfl
theorem Ref1_Reader.at_1 (x : Ref1_Reader) (q : List Nat) : x.cv.at (1 :: q) = (I x.At).at q := rfl
def Ref1_Reader.upd_1 (x : Ref1_Reader) (v : CV) : CV := .agg [(Lst.cv Y8) x.B, v, Bo x.Short]
theorem Ref1_Reader.set_1 (x : Ref1_Reader) (q : List Nat) (v : CV) : x.cv.set (1 :: q) v = Ref1_Reader.upd_1 x ((I x.At).set q v) := rfl
theorem Ref1_Reader.fold_1 (x : Ref1_Reader) (y : Int) : Ref1_Reader.upd_1 x (I y) = ({ x with At := y } : Ref1_Reader).cv := rfl
theorem Ref1_Reader.fld_1 (x : Ref1_Reader) : qfield C 161 x.cv 1 = some (I x.At) := qfield_of C tt161 (Ref1_Reader.shape x) rfl tt3 rfl rfl
theorem Ref1_Reader.rfa_1 (x : Ref1_Reader) (h : Heap) : qfieldAddr C h 161 (.rptr x.cv) 1 = some (.rptr (I x.At)) := by
  have hs := Ref1_Reader.shape x
  unfold Ref1_Reader.cv at hs ⊢
  simp only [qfieldAddr, tt161, ti161, tgt, hs, if_true, List.getElem?_cons_zero, List.getElem?_cons_succ]
theorem Ref1_Reader.sub_1 (q : List Nat) (z : Shape) : subEq sh161 (1 :: q) z = subEq sh3 q z := rfl
theorem Ref1_Reader.at_2 (x : Ref1_Reader) (q : List Nat) : x.cv.at (2 :: q) = (Bo x.Short).at q := rfl
def Ref1_Reader.upd_2 (x : Ref1_Reader) (v : CV) : CV := .agg [(Lst.cv Y8) x.B, I x.At, v]
theorem Ref1_Reader.set_2 (x : Ref1_Reader) (q : List Nat) (v : CV) : x.cv.set (2 :: q) v = Ref1_Reader.upd_2 x ((Bo x.Short).set q v) := rfl
theorem Ref1_Reader.fold_2 (x : Ref1_Reader) (y : Bool) : Ref1_Reader.upd_2 x (Bo y) = ({ x with Short := y } : Ref1_Reader).cv := rfl
theorem Ref1_Reader.fld_2 (x : Ref1_Reader) : qfield C 161 x.cv 2 = some (Bo x.Short) := qfield_of C tt161 (Ref1_Reader.shape x) rfl tt4 rfl rfl
theorem Ref1_Reader.rfa_2 (x : Ref1_Reader) (h : Heap) : qfieldAddr C h 161 (.rptr x.cv) 2 = some (.rptr (Bo x.Short)) := by
  have hs := Ref1_Reader.shape x
  unfold Ref1_Reader.cv at hs ⊢
  simp only [qfieldAddr, tt161, ti161, tgt, hs, if_true, List.getElem?_cons_zero, List.getElem?_cons_succ]
theorem Ref1_Reader.sub_2 (q : List Nat) (z : Shape) : subEq sh161 (2 :: q) z = subEq sh4 q z := rfl
theorem Ref1_Reader.sub_nil : subEq sh161 [] sh161 = true := by simp [subEq, Shape.sub]
theorem Ref1_Reader.alloc : allocObj C (.alloc 161) = some (.var sh161 Ref1_Reader.zero.cv) := by simp only [allocObj, tt161, ti161, Ref1_Reader.zcv]
theorem Ref1_Reader.xalloc (p : Hp) : xalloc C p 161 = .ret (.ptr p.n []) (p.new (.var sh161 Ref1_Reader.zero.cv)) := by simp only [Cl.xalloc, tt161, ti161, Ref1_Reader.zcv]
theorem Ref1_Reader.xbox (p : Hp) (x : Ref1_Reader) : xbox C p 161 x.cv = .ret (.ptr p.n []) (p.new (.var sh161 x.cv)) := by
  have h : Cl.shOk x.cv ti161.sh = true := Ref1_Reader.shOk x
  simp only [Cl.xbox, tt161, h, cond_true]; rfl
theorem Ref1_Reader.bld_0 (a0 : Lst Int) : qbuild C 161 [(0, (Lst.cv Y8) a0)] = some (({ B := a0, At := 0, Short := false } : Ref1_Reader).cv) := qbuild_of C tt161 (by simp only [partsOk, setAll, CV.shape, Lst.shape, sh161, List.all_cons, List.all_nil, List.getElem?_cons_zero, List.getElem?_cons_succ, Bool.and_true, decide_true]) rfl
structure Step_frame where
  c_ : Api_Config
  s_ : Api_State
  row : Lst Api_Cell
  shots : Lst Api_Body
def Step_frame.cv (x : Step_frame) : CV := .agg [Api_Config.cv x.c_, Api_State.cv x.s_, (Lst.cv Api_Cell.cv) x.row, (Lst.cv Api_Body.cv) x.shots]
@[ext] theorem Step_frame.ext' {x y : Step_frame} (h_c_ : x.c_ = y.c_) (h_s_ : x.s_ = y.s_) (h_row : x.row = y.row) (h_shots : x.shots = y.shots) : x = y := by
  obtain ⟨a0, a1, a2, a3⟩ := x
  obtain ⟨c0, c1, c2, c3⟩ := y
  simp only at h_c_ h_s_ h_row h_shots
  subst h_c_ h_s_ h_row h_shots
  rfl
def Step_frame.zero : Step_frame := { c_ := Api_Config.zero, s_ := Api_State.zero, row := ⟨.nil, [], fun _ => rfl⟩, shots := ⟨.nil, [], fun _ => rfl⟩ }
instance : Inhabited Step_frame := ⟨Step_frame.zero⟩
theorem Step_frame.zcv : z186 = Step_frame.zero.cv := by
  simp only [z186, Step_frame.zero, Step_frame.cv, Api_Config.zcv, Api_State.zcv, List.map_replicate, Lst.cv, List.map_nil]
theorem Step_frame.shape (x : Step_frame) : x.cv.shape = sh186 := by simp only [Step_frame.cv, sh186, CV.shape, CV.shapes, Api_Config.shape, Api_State.shape, Lst.shape]
theorem Step_frame.has (x : Step_frame) (j : Nat) : x.cv.has j ↔ x.c_.cv.has j ∨ x.row.tl = .own j ∨ x.shots.tl = .own j := by simp [Step_frame.cv, CV.has, CV.hasL, Api_State.nohas, Lst.has _ Api_Cell.nohas, Lst.has _ Api_Body.nohas]
theorem Step_frame.inj {x y : Step_frame} (h : x.cv = y.cv) : x = y := by
  simp only [Step_frame.cv, CV.agg.injEq, List.cons.injEq, and_true] at h
  obtain ⟨h0, h1, h2, h3⟩ := h
  refine Step_frame.ext' (Api_Config.injF _ _ h0) (Api_State.injF _ _ h1) ((Lst.injF Api_Cell.injF) _ _ h2) ((Lst.injF Api_Body.injF) _ _ h3)
theorem Step_frame.injF (x y : Step_frame) (h : x.cv = y.cv) : x = y := Step_frame.inj h
theorem Step_frame.inj_iff (x y : Step_frame) : x.cv = y.cv ↔ x = y := ⟨Step_frame.inj, fun h => by rw [h]⟩
theorem Step_frame.shOk (x : Step_frame) : Cl.shOk x.cv sh186 = true := shOk_n (Step_frame.shape x) rfl
theorem Step_frame.at_0 (x : Step_frame) (q : List Nat) : x.cv.at (0 :: q) = (Api_Config.cv x.c_).at q := rfl
def Step_frame.upd_0 (x : Step_frame) (v : CV) : CV := .agg [v, Api_State.cv x.s_, (Lst.cv Api_Cell.cv) x.row, (Lst.cv Api_Body.cv) x.shots]
theorem Step_frame.set_0 (x : Step_frame) (q : List Nat) (v : CV) : x.cv.set (0 :: q) v = Step_frame.upd_0 x ((Api_Config.cv x.c_).set q v) := rfl
theorem Step_frame.fold_0 (x : Step_frame) (y : Api_Config) : Step_frame.upd_0 x (Api_Config.cv y) = ({ x with c_ := y } : Step_frame).cv := rfl
theorem Step_frame.fld_0 (x : Step_frame) : qfield C 186 x.cv 0 = some (Api_Config.cv x.c_) := qfield_of C tt186 (Step_frame.shape x) rfl tt61 rfl (Api_Config.shOk _)
theorem Step_frame.rfa_0 (x : Step_frame) (h : Heap) : qfieldAddr C h 186 (.rptr x.cv) 0 = some (.rptr (Api_Config.cv x.c_)) := by
  have hs := Step_frame.shape x
  unfold Step_frame.cv at hs ⊢
  simp only [qfieldAddr, tt186, ti186, tgt, hs, if_true, List.getElem?_cons_zero, List.getElem?_cons_succ]
theorem Step_frame.sub_0 (q : List Nat) (z : Shape) : subEq sh186 (0 :: q) z = subEq sh61 q z := rfl
theorem Step_frame.at_1 (x : Step_frame) (q : List Nat) : x.cv.at (1 :: q) = (Api_State.cv x.s_).at q := rfl
def Step_frame.upd_1 (x : Step_frame) (v : CV) : CV := .agg [Api_Config.cv x.c_, v, (Lst.cv Api_Cell.cv) x.row, (Lst.cv Api_Body.cv) x.shots]
theorem Step_frame.set_1 (x : Step_frame) (q : List Nat) (v : CV) : x.cv.set (1 :: q) v = Step_frame.upd_1 x ((Api_State.cv x.s_).set q v) := rfl
theorem Step_frame.fold_1 (x : Step_frame) (y : Api_State) : Step_frame.upd_1 x (Api_State.cv y) = ({ x with s_ := y } : Step_frame).cv := rfl
theorem Step_frame.fld_1 (x : Step_frame) : qfield C 186 x.cv 1 = some (Api_State.cv x.s_) := qfield_of C tt186 (Step_frame.shape x) rfl tt66 rfl (Api_State.shOk _)
theorem Step_frame.rfa_1 (x : Step_frame) (h : Heap) : qfieldAddr C h 186 (.rptr x.cv) 1 = some (.rptr (Api_State.cv x.s_)) := by
  have hs := Step_frame.shape x
  unfold Step_frame.cv at hs ⊢
  simp only [qfieldAddr, tt186, ti186, tgt, hs, if_true, List.getElem?_cons_zero, List.getElem?_cons_succ]
theorem Step_frame.sub_1 (q : List Nat) (z : Shape) : subEq sh186 (1 :: q) z = subEq sh66 q z := rfl
theorem Step_frame.at_2 (x : Step_frame) (q : List Nat) : x.cv.at (2 :: q) = ((Lst.cv Api_Cell.cv) x.row).at q := rfl
def Step_frame.upd_2 (x : Step_frame) (v : CV) : CV := .agg [Api_Config.cv x.c_, Api_State.cv x.s_, v, (Lst.cv Api_Body.cv) x.shots]
theorem Step_frame.set_2 (x : Step_frame) (q : List Nat) (v : CV) : x.cv.set (2 :: q) v = Step_frame.upd_2 x (((Lst.cv Api_Cell.cv) x.row).set q v) := rfl
theorem Step_frame.fold_2 (x : Step_frame) (y : Lst Api_Cell) : Step_frame.upd_2 x ((Lst.cv Api_Cell.cv) y) = ({ x with row := y } : Step_frame).cv := rfl
theorem Step_frame.fld_2 (x : Step_frame) : qfield C 186 x.cv 2 = some ((Lst.cv Api_Cell.cv) x.row) := qfield_of C tt186 (Step_frame.shape x) rfl tt108 rfl rfl
theorem Step_frame.rfa_2 (x : Step_frame) (h : Heap) : qfieldAddr C h 186 (.rptr x.cv) 2 = some (.rptr ((Lst.cv Api_Cell.cv) x.row)) := by
  have hs := Step_frame.shape x
  unfold Step_frame.cv at hs ⊢
  simp only [qfieldAddr, tt186, ti186, tgt, hs, if_true, List.getElem?_cons_zero, List.getElem?_cons_succ]
theorem Step_frame.sub_2 (q : List Nat) (z : Shape) : subEq sh186 (2 :: q) z = subEq sh108 q z := rfl
theorem Step_frame.at_3 (x : Step_frame) (q : List Nat) : x.cv.at (3 :: q) = ((Lst.cv Api_Body.cv) x.shots).at q := rfl
def Step_frame.upd_3 (x : Step_frame) (v : CV) : CV := .agg [Api_Config.cv x.c_, Api_State.cv x.s_, (Lst.cv Api_Cell.cv) x.row, v]
theorem Step_frame.set_3 (x : Step_frame) (q : List Nat) (v : CV) : x.cv.set (3 :: q) v = Step_frame.upd_3 x (((Lst.cv Api_Body.cv) x.shots).set q v) := rfl
theorem Step_frame.fold_3 (x : Step_frame) (y : Lst Api_Body) : Step_frame.upd_3 x ((Lst.cv Api_Body.cv) y) = ({ x with shots := y } : Step_frame).cv := rfl
theorem Step_frame.fld_3 (x : Step_frame) : qfield C 186 x.cv 3 = some ((Lst.cv Api_Body.cv) x.shots) := qfield_of C tt186 (Step_frame.shape x) rfl tt37 rfl rfl
theorem Step_frame.rfa_3 (x : Step_frame) (h : Heap) : qfieldAddr C h 186 (.rptr x.cv) 3 = some (.rptr ((Lst.cv Api_Body.cv) x.shots)) := by
  have hs := Step_frame.shape x
  unfold Step_frame.cv at hs ⊢
  simp only [qfieldAddr, tt186, ti186, tgt, hs, if_true, List.getElem?_cons_zero, List.getElem?_cons_succ]
theorem Step_frame.sub_3 (q : List Nat) (z : Shape) : subEq sh186 (3 :: q) z = subEq sh37 q z := rfl
theorem Step_frame.sub_nil : subEq sh186 [] sh186 = true := by simp [subEq, Shape.sub]
theorem Step_frame.alloc : allocObj C (.alloc 186) = some (.var sh186 Step_frame.zero.cv) := by simp only [allocObj, tt186, ti186, Step_frame.zcv]
theorem Step_frame.xalloc (p : Hp) : xalloc C p 186 = .ret (.ptr p.n []) (p.new (.var sh186 Step_frame.zero.cv)) := by simp only [Cl.xalloc, tt186, ti186, Step_frame.zcv]
theorem Step_frame.xbox (p : Hp) (x : Step_frame) : xbox C p 186 x.cv = .ret (.ptr p.n []) (p.new (.var sh186 x.cv)) := by
  have h : Cl.shOk x.cv ti186.sh = true := Step_frame.shOk x
  simp only [Cl.xbox, tt186, h, cond_true]; rfl
theorem Step_frame.bld_0_1_2 (a0 : Api_Config) (a1 : Api_State) (a2 : Lst Api_Cell) : qbuild C 186 [(0, Api_Config.cv a0), (1, Api_State.cv a1), (2, (Lst.cv Api_Cell.cv) a2)] = some (({ c_ := a0, s_ := a1, row := a2, shots := ⟨.nil, [], fun _ => rfl⟩ } : Step_frame).cv) := qbuild_of C tt186 (by simp only [partsOk, setAll, CV.shape, Api_Config.shape, Api_State.shape, Lst.shape, sh186, List.all_cons, List.all_nil, List.getElem?_cons_zero, List.getElem?_cons_succ, Bool.and_true, decide_true]) rfl
structure Trap_thrown where
  f_ : Trap_Fault
def Trap_thrown.cv (x : Trap_thrown) : CV := .agg [Trap_Fault.cv x.f_]
@[ext] theorem Trap_thrown.ext' {x y : Trap_thrown} (h_f_ : x.f_ = y.f_) : x = y := by
  obtain ⟨a0⟩ := x
  obtain ⟨c0⟩ := y
  simp only at h_f_
  subst h_f_
  rfl
def Trap_thrown.zero : Trap_thrown := { f_ := Trap_Fault.zero }
instance : Inhabited Trap_thrown := ⟨Trap_thrown.zero⟩
theorem Trap_thrown.zcv : z194 = Trap_thrown.zero.cv := by
  simp only [z194, Trap_thrown.zero, Trap_thrown.cv, Trap_Fault.zcv, List.map_replicate, Lst.cv, List.map_nil]
theorem Trap_thrown.shape (x : Trap_thrown) : x.cv.shape = sh194 := by simp only [Trap_thrown.cv, sh194, CV.shape, CV.shapes, Trap_Fault.shape, Lst.shape]
theorem Trap_thrown.nohas (x : Trap_thrown) (j : Nat) : ¬ x.cv.has j := by simp [Trap_thrown.cv, CV.has, CV.hasL, Trap_Fault.nohas]
instance : DecidableEq Trap_thrown := fun x y => decidable_of_iff (x.f_ = y.f_) ⟨fun h => Trap_thrown.ext' h, fun h => by subst h; simp⟩
theorem Trap_thrown.inj {x y : Trap_thrown} (h : x.cv = y.cv) : x = y := by
  simp only [Trap_thrown.cv, CV.agg.injEq, List.cons.injEq, and_true] at h
  have h0 := h
  refine Trap_thrown.ext' (Trap_Fault.injF _ _ h0)
theorem Trap_thrown.injF (x y : Trap_thrown) (h : x.cv = y.cv) : x = y := Trap_thrown.inj h
theorem Trap_thrown.inj_iff (x y : Trap_thrown) : x.cv = y.cv ↔ x = y := ⟨Trap_thrown.inj, fun h => by rw [h]⟩
theorem Trap_thrown.shOk (x : Trap_thrown) : Cl.shOk x.cv sh194 = true := shOk_n (Trap_thrown.shape x) rfl
theorem Trap_thrown.eq (d : Nat) (x y : Trap_thrown) : eqCV C (d + 3) 194 x.cv y.cv = some (decide (x = y)) := by
  refine (eqCV_st C (d := d + 2) tt194 (Trap_thrown.shape x) (Trap_thrown.shape y) (eqList_c (Trap_Fault.eq (d + 0) _ _) rfl)).trans (congrArg some ?_)
  rw [Bool.eq_iff_iff]
  simp only [Bool.and_eq_true, decide_eq_true_eq, and_true]
  exact ⟨fun h => Trap_thrown.ext' h, fun h => by subst h; simp⟩
theorem Trap_thrown.eql (x y : Trap_thrown) (b : Bool) : qbin C .eql 194 b x.cv y.cv = some (Bo (decide (x = y))) := by
  have h := Trap_thrown.eq 9 x y
  unfold Trap_thrown.cv at h ⊢
  simp only [qbin]
  rw [h]; rfl
theorem Trap_thrown.neq (x y : Trap_thrown) (b : Bool) : qbin C .neq 194 b x.cv y.cv = some (Bo (!decide (x = y))) := by
  have h := Trap_thrown.eq 9 x y
  unfold Trap_thrown.cv at h ⊢
  simp only [qbin]
  rw [h]; rfl
theorem Trap_thrown.at_0 (x : Trap_thrown) (q : List Nat) : x.cv.at (0 :: q) = (Trap_Fault.cv x.f_).at q := rfl
def Trap_thrown.upd_0 (x : Trap_thrown) (v : CV) : CV := .agg [v]
theorem Trap_thrown.set_0 (x : Trap_thrown) (q : List Nat) (v : CV) : x.cv.set (0 :: q) v = Trap_thrown.upd_0 x ((Trap_Fault.cv x.f_).set q v) := rfl
theorem Trap_thrown.fold_0 (x : Trap_thrown) (y : Trap_Fault) : Trap_thrown.upd_0 x (Trap_Fault.cv y) = ({ x with f_ := y } : Trap_thrown).cv := rfl
theorem Trap_thrown.fld_0 (x : Trap_thrown) : qfield C 194 x.cv 0 = some (Trap_Fault.cv x.f_) := qfield_of C tt194 (Trap_thrown.shape x) rfl tt44 rfl (Trap_Fault.shOk _)
theorem Trap_thrown.rfa_0 (x : Trap_thrown) (h : Heap) : qfieldAddr C h 194 (.rptr x.cv) 0 = some (.rptr (Trap_Fault.cv x.f_)) := by
  have hs := Trap_thrown.shape x
  unfold Trap_thrown.cv at hs ⊢
  simp only [qfieldAddr, tt194, ti194, tgt, hs, if_true, List.getElem?_cons_zero, List.getElem?_cons_succ]
theorem Trap_thrown.sub_0 (q : List Nat) (z : Shape) : subEq sh194 (0 :: q) z = subEq sh44 q z := rfl
theorem Trap_thrown.sub_nil : subEq sh194 [] sh194 = true := by simp [subEq, Shape.sub]
theorem Trap_thrown.alloc : allocObj C (.alloc 194) = some (.var sh194 Trap_thrown.zero.cv) := by simp only [allocObj, tt194, ti194, Trap_thrown.zcv]
theorem Trap_thrown.xalloc (p : Hp) : xalloc C p 194 = .ret (.ptr p.n []) (p.new (.var sh194 Trap_thrown.zero.cv)) := by simp only [Cl.xalloc, tt194, ti194, Trap_thrown.zcv]
theorem Trap_thrown.xbox (p : Hp) (x : Trap_thrown) : xbox C p 194 x.cv = .ret (.ptr p.n []) (p.new (.var sh194 x.cv)) := by
  have h : Cl.shOk x.cv ti194.sh = true := Trap_thrown.shOk x
  simp only [Cl.xbox, tt194, h, cond_true]; rfl
theorem Trap_thrown.bld_0 (a0 : Trap_Fault) : qbuild C 194 [(0, Trap_Fault.cv a0)] = some (({ f_ := a0 } : Trap_thrown).cv) := qbuild_of C tt194 (by simp only [partsOk, setAll, CV.shape, Trap_Fault.shape, sh194, List.all_cons, List.all_nil, List.getElem?_cons_zero, List.getElem?_cons_succ, Bool.and_true, decide_true]) rfl
structure Bits_Reader where
  b_ : Lst Int
  at_ : Int
def Bits_Reader.cv (x : Bits_Reader) : CV := .agg [(Lst.cv Y8) x.b_, I x.at_]
@[ext] theorem Bits_Reader.ext' {x y : Bits_Reader} (h_b_ : x.b_ = y.b_) (h_at_ : x.at_ = y.at_) : x = y := by
  obtain ⟨a0, a1⟩ := x
  obtain ⟨c0, c1⟩ := y
  simp only at h_b_ h_at_
  subst h_b_ h_at_
  rfl
def Bits_Reader.zero : Bits_Reader := { b_ := ⟨.nil, [], fun _ => rfl⟩, at_ := 0 }
instance : Inhabited Bits_Reader := ⟨Bits_Reader.zero⟩
theorem Bits_Reader.zcv : z208 = Bits_Reader.zero.cv := by
  simp only [z208, Bits_Reader.zero, Bits_Reader.cv, List.map_replicate, Lst.cv, List.map_nil]
theorem Bits_Reader.shape (x : Bits_Reader) : x.cv.shape = sh208 := by simp only [Bits_Reader.cv, sh208, CV.shape, CV.shapes, Lst.shape]
theorem Bits_Reader.has (x : Bits_Reader) (j : Nat) : x.cv.has j ↔ x.b_.tl = .own j := by simp [Bits_Reader.cv, CV.has, CV.hasL, Lst.has _ Y8_has]
theorem Bits_Reader.inj {x y : Bits_Reader} (h : x.cv = y.cv) : x = y := by
  simp only [Bits_Reader.cv, CV.agg.injEq, List.cons.injEq, and_true] at h
  obtain ⟨h0, h1⟩ := h
  refine Bits_Reader.ext' ((Lst.injF Y8_inj) _ _ h0) (I_inj _ _ h1)
theorem Bits_Reader.injF (x y : Bits_Reader) (h : x.cv = y.cv) : x = y := Bits_Reader.inj h
theorem Bits_Reader.inj_iff (x y : Bits_Reader) : x.cv = y.cv ↔ x = y := ⟨Bits_Reader.inj, fun h => by rw [h]⟩
theorem Bits_Reader.shOk (x : Bits_Reader) : Cl.shOk x.cv sh208 = true := shOk_n (Bits_Reader.shape x) rfl
theorem Bits_Reader.at_0 (x : Bits_Reader) (q : List Nat) : x.cv.at (0 :: q) = ((Lst.cv Y8) x.b_).at q := rfl
def Bits_Reader.upd_0 (x : Bits_Reader) (v : CV) : CV := .agg [v, I x.at_]
theorem Bits_Reader.set_0 (x : Bits_Reader) (q : List Nat) (v : CV) : x.cv.set (0 :: q) v = Bits_Reader.upd_0 x (((Lst.cv Y8) x.b_).set q v) := rfl
theorem Bits_Reader.fold_0 (x : Bits_Reader) (y : Lst Int) : Bits_Reader.upd_0 x ((Lst.cv Y8) y) = ({ x with b_ := y } : Bits_Reader).cv := rfl
theorem Bits_Reader.fld_0 (x : Bits_Reader) : qfield C 208 x.cv 0 = some ((Lst.cv Y8) x.b_) := qfield_of C tt208 (Bits_Reader.shape x) rfl tt68 rfl rfl
theorem Bits_Reader.rfa_0 (x : Bits_Reader) (h : Heap) : qfieldAddr C h 208 (.rptr x.cv) 0 = some (.rptr ((Lst.cv Y8) x.b_)) := by
  have hs := Bits_Reader.shape x
  unfold Bits_Reader.cv at hs ⊢
  simp only [qfieldAddr, tt208, ti208, tgt, hs, if_true, List.getElem?_cons_zero, List.getElem?_cons_succ]
theorem Bits_Reader.sub_0 (q : List Nat) (z : Shape) : subEq sh208 (0 :: q) z = subEq sh68 q z := rfl
theorem Bits_Reader.at_1 (x : Bits_Reader) (q : List Nat) : x.cv.at (1 :: q) = (I x.at_).at q := rfl
def Bits_Reader.upd_1 (x : Bits_Reader) (v : CV) : CV := .agg [(Lst.cv Y8) x.b_, v]
theorem Bits_Reader.set_1 (x : Bits_Reader) (q : List Nat) (v : CV) : x.cv.set (1 :: q) v = Bits_Reader.upd_1 x ((I x.at_).set q v) := rfl
theorem Bits_Reader.fold_1 (x : Bits_Reader) (y : Int) : Bits_Reader.upd_1 x (I y) = ({ x with at_ := y } : Bits_Reader).cv := rfl
theorem Bits_Reader.fld_1 (x : Bits_Reader) : qfield C 208 x.cv 1 = some (I x.at_) := qfield_of C tt208 (Bits_Reader.shape x) rfl tt3 rfl rfl
theorem Bits_Reader.rfa_1 (x : Bits_Reader) (h : Heap) : qfieldAddr C h 208 (.rptr x.cv) 1 = some (.rptr (I x.at_)) := by
  have hs := Bits_Reader.shape x
  unfold Bits_Reader.cv at hs ⊢
  simp only [qfieldAddr, tt208, ti208, tgt, hs, if_true, List.getElem?_cons_zero, List.getElem?_cons_succ]
theorem Bits_Reader.sub_1 (q : List Nat) (z : Shape) : subEq sh208 (1 :: q) z = subEq sh3 q z := rfl
theorem Bits_Reader.sub_nil : subEq sh208 [] sh208 = true := by simp [subEq, Shape.sub]
theorem Bits_Reader.alloc : allocObj C (.alloc 208) = some (.var sh208 Bits_Reader.zero.cv) := by simp only [allocObj, tt208, ti208, Bits_Reader.zcv]
theorem Bits_Reader.xalloc (p : Hp) : xalloc C p 208 = .ret (.ptr p.n []) (p.new (.var sh208 Bits_Reader.zero.cv)) := by simp only [Cl.xalloc, tt208, ti208, Bits_Reader.zcv]
theorem Bits_Reader.xbox (p : Hp) (x : Bits_Reader) : xbox C p 208 x.cv = .ret (.ptr p.n []) (p.new (.var sh208 x.cv)) := by
  have h : Cl.shOk x.cv ti208.sh = true := Bits_Reader.shOk x
  simp only [Cl.xbox, tt208, h, cond_true]; rfl
theorem Bits_Reader.bld_0 (a0 : Lst Int) : qbuild C 208 [(0, (Lst.cv Y8) a0)] = some (({ b_ := a0, at_ := 0 } : Bits_Reader).cv) := qbuild_of C tt208 (by simp only [partsOk, setAll, CV.shape, Lst.shape, sh208, List.all_cons, List.all_nil, List.getElem?_cons_zero, List.getElem?_cons_succ, Bool.and_true, decide_true]) rfl
structure Bucket_Bucket where
  rate : Nat
  depth : Nat
  level : Nat
  last : Int
def Bucket_Bucket.cv (x : Bucket_Bucket) : CV := .agg [Fl x.rate, Fl x.depth, Fl x.level, I x.last]
@[ext] theorem Bucket_Bucket.ext' {x y : Bucket_Bucket} (h_rate : x.rate = y.rate) (h_depth : x.depth = y.depth) (h_level : x.level = y.level) (h_last : x.last = y.last) : x = y := by
  obtain ⟨a0, a1, a2, a3⟩ := x
  obtain ⟨c0, c1, c2, c3⟩ := y
  simp only at h_rate h_depth h_level h_last
  subst h_rate h_depth h_level h_last
  rfl
def Bucket_Bucket.zero : Bucket_Bucket := { rate := 0, depth := 0, level := 0, last := 0 }
instance : Inhabited Bucket_Bucket := ⟨Bucket_Bucket.zero⟩
theorem Bucket_Bucket.zcv : z223 = Bucket_Bucket.zero.cv := by
  simp only [z223, Bucket_Bucket.zero, Bucket_Bucket.cv, List.map_replicate, Lst.cv, List.map_nil]
theorem Bucket_Bucket.shape (x : Bucket_Bucket) : x.cv.shape = sh223 := by simp only [Bucket_Bucket.cv, sh223, CV.shape, CV.shapes, Lst.shape]
theorem Bucket_Bucket.nohas (x : Bucket_Bucket) (j : Nat) : ¬ x.cv.has j := by simp [Bucket_Bucket.cv, CV.has, CV.hasL]
instance : DecidableEq Bucket_Bucket := fun x y => decidable_of_iff (x.rate = y.rate ∧ x.depth = y.depth ∧ x.level = y.level ∧ x.last = y.last) ⟨fun h => Bucket_Bucket.ext' h.1 h.2.1 h.2.2.1 h.2.2.2, fun h => by subst h; simp⟩
theorem Bucket_Bucket.inj {x y : Bucket_Bucket} (h : x.cv = y.cv) : x = y := by
  simp only [Bucket_Bucket.cv, CV.agg.injEq, List.cons.injEq, and_true] at h
  obtain ⟨h0, h1, h2, h3⟩ := h
  refine Bucket_Bucket.ext' (Fl_inj _ _ h0) (Fl_inj _ _ h1) (Fl_inj _ _ h2) (I_inj _ _ h3)
theorem Bucket_Bucket.injF (x y : Bucket_Bucket) (h : x.cv = y.cv) : x = y := Bucket_Bucket.inj h
theorem Bucket_Bucket.inj_iff (x y : Bucket_Bucket) : x.cv = y.cv ↔ x = y := ⟨Bucket_Bucket.inj, fun h => by rw [h]⟩
theorem Bucket_Bucket.shOk (x : Bucket_Bucket) : Cl.shOk x.cv sh223 = true := shOk_n (Bucket_Bucket.shape x) rfl
theorem Bucket_Bucket.at_0 (x : Bucket_Bucket) (q : List Nat) : x.cv.at (0 :: q) = (Fl x.rate).at q := rfl
def Bucket_Bucket.upd_0 (x : Bucket_Bucket) (v : CV) : CV := .agg [v, Fl x.depth, Fl x.level, I x.last]
theorem Bucket_Bucket.set_0 (x : Bucket_Bucket) (q : List Nat) (v : CV) : x.cv.set (0 :: q) v = Bucket_Bucket.upd_0 x ((Fl x.rate).set q v) := rfl
theorem Bucket_Bucket.fold_0 (x : Bucket_Bucket) (y : Nat) : Bucket_Bucket.upd_0 x (Fl y) = ({ x with rate := y } : Bucket_Bucket).cv := rfl
theorem Bucket_Bucket.fld_0 (x : Bucket_Bucket) : qfield C 223 x.cv 0 = some (Fl x.rate) := qfield_of C tt223 (Bucket_Bucket.shape x) rfl tt59 rfl rfl
theorem Bucket_Bucket.rfa_0 (x : Bucket_Bucket) (h : Heap) : qfieldAddr C h 223 (.rptr x.cv) 0 = some (.rptr (Fl x.rate)) := by
  have hs := Bucket_Bucket.shape x
  unfold Bucket_Bucket.cv at hs ⊢
  simp only [qfieldAddr, tt223, ti223, tgt, hs, if_true, List.getElem?_cons_zero, List.getElem?_cons_succ]
theorem Bucket_Bucket.sub_0 (q : List Nat) (z : Shape) : subEq sh223 (0 :: q) z = subEq sh59 q z := rfl
theorem Bucket_Bucket.at_1 (x : Bucket_Bucket) (q : List Nat) : x.cv.at (1 :: q) = (Fl x.depth).at q := rfl
def Bucket_Bucket.upd_1 (x : Bucket_Bucket) (v : CV) : CV := .agg [Fl x.rate, v, Fl x.level, I x.last]
theorem Bucket_Bucket.set_1 (x : Bucket_Bucket) (q : List Nat) (v : CV) : x.cv.set (1 :: q) v = Bucket_Bucket.upd_1 x ((Fl x.depth).set q v) := rfl
theorem Bucket_Bucket.fold_1 (x : Bucket_Bucket) (y : Nat) : Bucket_Bucket.upd_1 x (Fl y) = ({ x with depth := y } : Bucket_Bucket).cv := rfl
theorem Bucket_Bucket.fld_1 (x : Bucket_Bucket) : qfield C 223 x.cv 1 = some (Fl x.depth) := qfield_of C tt223 (Bucket_Bucket.shape x) rfl tt59 rfl rfl
theorem Bucket_Bucket.rfa_1 (x : Bucket_Bucket) (h : Heap) : qfieldAddr C h 223 (.rptr x.cv) 1 = some (.rptr (Fl x.depth)) := by
  have hs := Bucket_Bucket.shape x
  unfold Bucket_Bucket.cv at hs ⊢
  simp only [qfieldAddr, tt223, ti223, tgt, hs, if_true, List.getElem?_cons_zero, List.getElem?_cons_succ]
theorem Bucket_Bucket.sub_1 (q : List Nat) (z : Shape) : subEq sh223 (1 :: q) z = subEq sh59 q z := rfl
theorem Bucket_Bucket.at_2 (x : Bucket_Bucket) (q : List Nat) : x.cv.at (2 :: q) = (Fl x.level).at q := rfl
def Bucket_Bucket.upd_2 (x : Bucket_Bucket) (v : CV) : CV := .agg [Fl x.rate, Fl x.depth, v, I x.last]
theorem Bucket_Bucket.set_2 (x : Bucket_Bucket) (q : List Nat) (v : CV) : x.cv.set (2 :: q) v = Bucket_Bucket.upd_2 x ((Fl x.level).set q v) := rfl
theorem Bucket_Bucket.fold_2 (x : Bucket_Bucket) (y : Nat) : Bucket_Bucket.upd_2 x (Fl y) = ({ x with level := y } : Bucket_Bucket).cv := rfl
theorem Bucket_Bucket.fld_2 (x : Bucket_Bucket) : qfield C 223 x.cv 2 = some (Fl x.level) := qfield_of C tt223 (Bucket_Bucket.shape x) rfl tt59 rfl rfl
theorem Bucket_Bucket.rfa_2 (x : Bucket_Bucket) (h : Heap) : qfieldAddr C h 223 (.rptr x.cv) 2 = some (.rptr (Fl x.level)) := by
  have hs := Bucket_Bucket.shape x
  unfold Bucket_Bucket.cv at hs ⊢
  simp only [qfieldAddr, tt223, ti223, tgt, hs, if_true, List.getElem?_cons_zero, List.getElem?_cons_succ]
theorem Bucket_Bucket.sub_2 (q : List Nat) (z : Shape) : subEq sh223 (2 :: q) z = subEq sh59 q z := rfl
theorem Bucket_Bucket.at_3 (x : Bucket_Bucket) (q : List Nat) : x.cv.at (3 :: q) = (I x.last).at q := rfl
def Bucket_Bucket.upd_3 (x : Bucket_Bucket) (v : CV) : CV := .agg [Fl x.rate, Fl x.depth, Fl x.level, v]
theorem Bucket_Bucket.set_3 (x : Bucket_Bucket) (q : List Nat) (v : CV) : x.cv.set (3 :: q) v = Bucket_Bucket.upd_3 x ((I x.last).set q v) := rfl
theorem Bucket_Bucket.fold_3 (x : Bucket_Bucket) (y : Int) : Bucket_Bucket.upd_3 x (I y) = ({ x with last := y } : Bucket_Bucket).cv := rfl
theorem Bucket_Bucket.fld_3 (x : Bucket_Bucket) : qfield C 223 x.cv 3 = some (I x.last) := qfield_of C tt223 (Bucket_Bucket.shape x) rfl tt3 rfl rfl
theorem Bucket_Bucket.rfa_3 (x : Bucket_Bucket) (h : Heap) : qfieldAddr C h 223 (.rptr x.cv) 3 = some (.rptr (I x.last)) := by
  have hs := Bucket_Bucket.shape x
  unfold Bucket_Bucket.cv at hs ⊢
  simp only [qfieldAddr, tt223, ti223, tgt, hs, if_true, List.getElem?_cons_zero, List.getElem?_cons_succ]
theorem Bucket_Bucket.sub_3 (q : List Nat) (z : Shape) : subEq sh223 (3 :: q) z = subEq sh3 q z := rfl
theorem Bucket_Bucket.sub_nil : subEq sh223 [] sh223 = true := by simp [subEq, Shape.sub]
theorem Bucket_Bucket.alloc : allocObj C (.alloc 223) = some (.var sh223 Bucket_Bucket.zero.cv) := by simp only [allocObj, tt223, ti223, Bucket_Bucket.zcv]
theorem Bucket_Bucket.xalloc (p : Hp) : xalloc C p 223 = .ret (.ptr p.n []) (p.new (.var sh223 Bucket_Bucket.zero.cv)) := by simp only [Cl.xalloc, tt223, ti223, Bucket_Bucket.zcv]
theorem Bucket_Bucket.xbox (p : Hp) (x : Bucket_Bucket) : xbox C p 223 x.cv = .ret (.ptr p.n []) (p.new (.var sh223 x.cv)) := by
  have h : Cl.shOk x.cv ti223.sh = true := Bucket_Bucket.shOk x
  simp only [Cl.xbox, tt223, h, cond_true]; rfl
theorem Bucket_Bucket.bld_0_1_2 (a0 : Nat) (a1 : Nat) (a2 : Nat) : qbuild C 223 [(0, Fl a0), (1, Fl a1), (2, Fl a2)] = some (({ rate := a0, depth := a1, level := a2, last := 0 } : Bucket_Bucket).cv) := qbuild_of C tt223 (by simp only [partsOk, setAll, CV.shape, sh223, List.all_cons, List.all_nil, List.getElem?_cons_zero, List.getElem?_cons_succ, Bool.and_true, decide_true]) rfl
theorem zs_Law12_RawEnv : (∀ (x : Law12_RawEnv), x.cv.shape = sh27) ∧ (∀ (x : Law12_RawEnv), Cl.shOk x.cv sh27 = true) ∧ (∀ (x : Law12_RawEnv) (q : List Nat), x.cv.at (0 :: q) = (I x.X).at q) ∧ (∀ (x : Law12_RawEnv) (q : List Nat) (v : CV), x.cv.set (0 :: q) v = Law12_RawEnv.upd_0 x ((I x.X).set q v)) ∧ (∀ (x : Law12_RawEnv) (y : Int), Law12_RawEnv.upd_0 x (I y) = ({ x with X := y } : Law12_RawEnv).cv) ∧ (∀ (x : Law12_RawEnv), qfield C 27 x.cv 0 = some (I x.X)) ∧ (∀ (x : Law12_RawEnv) (h : Heap), qfieldAddr C h 27 (.rptr x.cv) 0 = some (.rptr (I x.X))) ∧ (∀ (q : List Nat) (z : Shape), subEq sh27 (0 :: q) z = subEq sh3 q z) ∧ (∀ (x : Law12_RawEnv) (q : List Nat), x.cv.at (1 :: q) = (I x.Y).at q) ∧ (∀ (x : Law12_RawEnv) (q : List Nat) (v : CV), x.cv.set (1 :: q) v = Law12_RawEnv.upd_1 x ((I x.Y).set q v)) ∧ (∀ (x : Law12_RawEnv) (y : Int), Law12_RawEnv.upd_1 x (I y) = ({ x with Y := y } : Law12_RawEnv).cv) ∧ (∀ (x : Law12_RawEnv), qfield C 27 x.cv 1 = some (I x.Y)) ∧ (∀ (x : Law12_RawEnv) (h : Heap), qfieldAddr C h 27 (.rptr x.cv) 1 = some (.rptr (I x.Y))) ∧ (∀ (q : List Nat) (z : Shape), subEq sh27 (1 :: q) z = subEq sh3 q z) ∧ (∀ (x : Law12_RawEnv) (q : List Nat), x.cv.at (2 :: q) = (I x.VX).at q) ∧ (∀ (x : Law12_RawEnv) (q : List Nat) (v : CV), x.cv.set (2 :: q) v = Law12_RawEnv.upd_2 x ((I x.VX).set q v)) ∧ (∀ (x : Law12_RawEnv) (y : Int), Law12_RawEnv.upd_2 x (I y) = ({ x with VX := y } : Law12_RawEnv).cv) ∧ (∀ (x : Law12_RawEnv), qfield C 27 x.cv 2 = some (I x.VX)) ∧ (∀ (x : Law12_RawEnv) (h : Heap), qfieldAddr C h 27 (.rptr x.cv) 2 = some (.rptr (I x.VX))) ∧ (∀ (q : List Nat) (z : Shape), subEq sh27 (2 :: q) z = subEq sh3 q z) ∧ (∀ (x : Law12_RawEnv) (q : List Nat), x.cv.at (3 :: q) = (I x.Buttons).at q) ∧ (∀ (x : Law12_RawEnv) (q : List Nat) (v : CV), x.cv.set (3 :: q) v = Law12_RawEnv.upd_3 x ((I x.Buttons).set q v)) ∧ (∀ (x : Law12_RawEnv) (y : Int), Law12_RawEnv.upd_3 x (I y) = ({ x with Buttons := y } : Law12_RawEnv).cv) ∧ (∀ (x : Law12_RawEnv), qfield C 27 x.cv 3 = some (I x.Buttons)) ∧ (∀ (x : Law12_RawEnv) (h : Heap), qfieldAddr C h 27 (.rptr x.cv) 3 = some (.rptr (I x.Buttons))) ∧ (∀ (q : List Nat) (z : Shape), subEq sh27 (3 :: q) z = subEq sh3 q z) ∧ (∀ (x : Law12_RawEnv) (q : List Nat), x.cv.at (4 :: q) = (I x.StickX).at q) ∧ (∀ (x : Law12_RawEnv) (q : List Nat) (v : CV), x.cv.set (4 :: q) v = Law12_RawEnv.upd_4 x ((I x.StickX).set q v)) ∧ (∀ (x : Law12_RawEnv) (y : Int), Law12_RawEnv.upd_4 x (I y) = ({ x with StickX := y } : Law12_RawEnv).cv) ∧ (∀ (x : Law12_RawEnv), qfield C 27 x.cv 4 = some (I x.StickX)) ∧ (∀ (x : Law12_RawEnv) (h : Heap), qfieldAddr C h 27 (.rptr x.cv) 4 = some (.rptr (I x.StickX))) ∧ (∀ (q : List Nat) (z : Shape), subEq sh27 (4 :: q) z = subEq sh3 q z) ∧ (∀ (x : Law12_RawEnv) (q : List Nat), x.cv.at (5 :: q) = (I x.Room).at q) ∧ (∀ (x : Law12_RawEnv) (q : List Nat) (v : CV), x.cv.set (5 :: q) v = Law12_RawEnv.upd_5 x ((I x.Room).set q v)) ∧ (∀ (x : Law12_RawEnv) (y : Int), Law12_RawEnv.upd_5 x (I y) = ({ x with Room := y } : Law12_RawEnv).cv) ∧ (∀ (x : Law12_RawEnv), qfield C 27 x.cv 5 = some (I x.Room)) ∧ (∀ (x : Law12_RawEnv) (h : Heap), qfieldAddr C h 27 (.rptr x.cv) 5 = some (.rptr (I x.Room))) ∧ (∀ (q : List Nat) (z : Shape), subEq sh27 (5 :: q) z = subEq sh3 q z) ∧ (∀ (x : Law12_RawEnv) (q : List Nat), x.cv.at (6 :: q) = ((Lst.cv I) x.Mem).at q) ∧ (∀ (x : Law12_RawEnv) (q : List Nat) (v : CV), x.cv.set (6 :: q) v = Law12_RawEnv.upd_6 x (((Lst.cv I) x.Mem).set q v)) ∧ (∀ (x : Law12_RawEnv) (y : Lst Int), Law12_RawEnv.upd_6 x ((Lst.cv I) y) = ({ x with Mem := y } : Law12_RawEnv).cv) ∧ (∀ (x : Law12_RawEnv), qfield C 27 x.cv 6 = some ((Lst.cv I) x.Mem)) ∧ (∀ (x : Law12_RawEnv) (h : Heap), qfieldAddr C h 27 (.rptr x.cv) 6 = some (.rptr ((Lst.cv I) x.Mem))) ∧ (∀ (q : List Nat) (z : Shape), subEq sh27 (6 :: q) z = subEq sh24 q z) ∧ (∀ (x : Law12_RawEnv) (q : List Nat), x.cv.at (7 :: q) = (U x.Dice).at q) ∧ (∀ (x : Law12_RawEnv) (q : List Nat) (v : CV), x.cv.set (7 :: q) v = Law12_RawEnv.upd_7 x ((U x.Dice).set q v)) ∧ (∀ (x : Law12_RawEnv) (y : Int), Law12_RawEnv.upd_7 x (U y) = ({ x with Dice := y } : Law12_RawEnv).cv) ∧ (∀ (x : Law12_RawEnv), qfield C 27 x.cv 7 = some (U x.Dice)) ∧ (∀ (x : Law12_RawEnv) (h : Heap), qfieldAddr C h 27 (.rptr x.cv) 7 = some (.rptr (U x.Dice))) ∧ (∀ (q : List Nat) (z : Shape), subEq sh27 (7 :: q) z = subEq sh25 q z) ∧ (∀ (x : Law12_RawEnv) (q : List Nat), x.cv.at (8 :: q) = (I x.Bend).at q) ∧ (∀ (x : Law12_RawEnv) (q : List Nat) (v : CV), x.cv.set (8 :: q) v = Law12_RawEnv.upd_8 x ((I x.Bend).set q v)) ∧ (∀ (x : Law12_RawEnv) (y : Int), Law12_RawEnv.upd_8 x (I y) = ({ x with Bend := y } : Law12_RawEnv).cv) ∧ (∀ (x : Law12_RawEnv), qfield C 27 x.cv 8 = some (I x.Bend)) ∧ (∀ (x : Law12_RawEnv) (h : Heap), qfieldAddr C h 27 (.rptr x.cv) 8 = some (.rptr (I x.Bend))) ∧ (∀ (q : List Nat) (z : Shape), subEq sh27 (8 :: q) z = subEq sh3 q z) ∧ (subEq sh27 [] sh27 = true) ∧ (allocObj C (.alloc 27) = some (.var sh27 Law12_RawEnv.zero.cv)) ∧ (∀ (p : Hp), xalloc C p 27 = .ret (.ptr p.n []) (p.new (.var sh27 Law12_RawEnv.zero.cv))) ∧ (∀ (p : Hp) (x : Law12_RawEnv), xbox C p 27 x.cv = .ret (.ptr p.n []) (p.new (.var sh27 x.cv))) := ⟨Law12_RawEnv.shape, Law12_RawEnv.shOk, Law12_RawEnv.at_0, Law12_RawEnv.set_0, Law12_RawEnv.fold_0, Law12_RawEnv.fld_0, Law12_RawEnv.rfa_0, Law12_RawEnv.sub_0, Law12_RawEnv.at_1, Law12_RawEnv.set_1, Law12_RawEnv.fold_1, Law12_RawEnv.fld_1, Law12_RawEnv.rfa_1, Law12_RawEnv.sub_1, Law12_RawEnv.at_2, Law12_RawEnv.set_2, Law12_RawEnv.fold_2, Law12_RawEnv.fld_2, Law12_RawEnv.rfa_2, Law12_RawEnv.sub_2, Law12_RawEnv.at_3, Law12_RawEnv.set_3, Law12_RawEnv.fold_3, Law12_RawEnv.fld_3, Law12_RawEnv.rfa_3, Law12_RawEnv.sub_3, Law12_RawEnv.at_4, Law12_RawEnv.set_4, Law12_RawEnv.fold_4, Law12_RawEnv.fld_4, Law12_RawEnv.rfa_4, Law12_RawEnv.sub_4, Law12_RawEnv.at_5, Law12_RawEnv.set_5, Law12_RawEnv.fold_5, Law12_RawEnv.fld_5, Law12_RawEnv.rfa_5, Law12_RawEnv.sub_5, Law12_RawEnv.at_6, Law12_RawEnv.set_6, Law12_RawEnv.fold_6, Law12_RawEnv.fld_6, Law12_RawEnv.rfa_6, Law12_RawEnv.sub_6, Law12_RawEnv.at_7, Law12_RawEnv.set_7, Law12_RawEnv.fold_7, Law12_RawEnv.fld_7, Law12_RawEnv.rfa_7, Law12_RawEnv.sub_7, Law12_RawEnv.at_8, Law12_RawEnv.set_8, Law12_RawEnv.fold_8, Law12_RawEnv.fld_8, Law12_RawEnv.rfa_8, Law12_RawEnv.sub_8, Law12_RawEnv.sub_nil, Law12_RawEnv.alloc, Law12_RawEnv.xalloc, Law12_RawEnv.xbox⟩
theorem zs_Api_Op : (∀ (x : Api_Op), x.cv.shape = sh29) ∧ (∀ (x : Api_Op), Cl.shOk x.cv sh29 = true) ∧ (∀ (x y : Api_Op) (b : Bool), qbin C .eql 29 b x.cv y.cv = some (Bo (decide (x = y)))) ∧ (∀ (x y : Api_Op) (b : Bool), qbin C .neq 29 b x.cv y.cv = some (Bo (!decide (x = y)))) ∧ (∀ (x : Api_Op) (q : List Nat), x.cv.at (0 :: q) = (I x.Code).at q) ∧ (∀ (x : Api_Op) (q : List Nat) (v : CV), x.cv.set (0 :: q) v = Api_Op.upd_0 x ((I x.Code).set q v)) ∧ (∀ (x : Api_Op) (y : Int), Api_Op.upd_0 x (I y) = ({ x with Code := y } : Api_Op).cv) ∧ (∀ (x : Api_Op), qfield C 29 x.cv 0 = some (I x.Code)) ∧ (∀ (x : Api_Op) (h : Heap), qfieldAddr C h 29 (.rptr x.cv) 0 = some (.rptr (I x.Code))) ∧ (∀ (q : List Nat) (z : Shape), subEq sh29 (0 :: q) z = subEq sh3 q z) ∧ (∀ (x : Api_Op) (q : List Nat), x.cv.at (1 :: q) = (I x.A).at q) ∧ (∀ (x : Api_Op) (q : List Nat) (v : CV), x.cv.set (1 :: q) v = Api_Op.upd_1 x ((I x.A).set q v)) ∧ (∀ (x : Api_Op) (y : Int), Api_Op.upd_1 x (I y) = ({ x with A := y } : Api_Op).cv) ∧ (∀ (x : Api_Op), qfield C 29 x.cv 1 = some (I x.A)) ∧ (∀ (x : Api_Op) (h : Heap), qfieldAddr C h 29 (.rptr x.cv) 1 = some (.rptr (I x.A))) ∧ (∀ (q : List Nat) (z : Shape), subEq sh29 (1 :: q) z = subEq sh3 q z) ∧ (∀ (x : Api_Op) (q : List Nat), x.cv.at (2 :: q) = (I x.B).at q) ∧ (∀ (x : Api_Op) (q : List Nat) (v : CV), x.cv.set (2 :: q) v = Api_Op.upd_2 x ((I x.B).set q v)) ∧ (∀ (x : Api_Op) (y : Int), Api_Op.upd_2 x (I y) = ({ x with B := y } : Api_Op).cv) ∧ (∀ (x : Api_Op), qfield C 29 x.cv 2 = some (I x.B)) ∧ (∀ (x : Api_Op) (h : Heap), qfieldAddr C h 29 (.rptr x.cv) 2 = some (.rptr (I x.B))) ∧ (∀ (q : List Nat) (z : Shape), subEq sh29 (2 :: q) z = subEq sh3 q z) ∧ (subEq sh29 [] sh29 = true) ∧ (allocObj C (.alloc 29) = some (.var sh29 Api_Op.zero.cv)) ∧ (∀ (p : Hp), xalloc C p 29 = .ret (.ptr p.n []) (p.new (.var sh29 Api_Op.zero.cv))) ∧ (∀ (p : Hp) (x : Api_Op), xbox C p 29 x.cv = .ret (.ptr p.n []) (p.new (.var sh29 x.cv))) ∧ (∀ (a0 : Int), qbuild C 29 [(0, I a0)] = some (({ Code := a0, A := 0, B := 0 } : Api_Op).cv)) ∧ (∀ (a0 : Int) (a1 : Int), qbuild C 29 [(0, I a0), (1, I a1)] = some (({ Code := a0, A := a1, B := 0 } : Api_Op).cv)) ∧ (∀ (a0 : Int) (a1 : Int) (a2 : Int), qbuild C 29 [(0, I a0), (1, I a1), (2, I a2)] = some (({ Code := a0, A := a1, B := a2 } : Api_Op).cv)) := ⟨Api_Op.shape, Api_Op.shOk, Api_Op.eql, Api_Op.neq, Api_Op.at_0, Api_Op.set_0, Api_Op.fold_0, Api_Op.fld_0, Api_Op.rfa_0, Api_Op.sub_0, Api_Op.at_1, Api_Op.set_1, Api_Op.fold_1, Api_Op.fld_1, Api_Op.rfa_1, Api_Op.sub_1, Api_Op.at_2, Api_Op.set_2, Api_Op.fold_2, Api_Op.fld_2, Api_Op.rfa_2, Api_Op.sub_2, Api_Op.sub_nil, Api_Op.alloc, Api_Op.xalloc, Api_Op.xbox, Api_Op.bld_0, Api_Op.bld_0_1, Api_Op.bld_0_1_2⟩
theorem zs_Hand_RawOp : (∀ (x : Hand_RawOp), x.cv.shape = sh31) ∧ (∀ (x : Hand_RawOp), Cl.shOk x.cv sh31 = true) ∧ (∀ (x y : Hand_RawOp) (b : Bool), qbin C .eql 31 b x.cv y.cv = some (Bo (decide (x = y)))) ∧ (∀ (x y : Hand_RawOp) (b : Bool), qbin C .neq 31 b x.cv y.cv = some (Bo (!decide (x = y)))) ∧ (∀ (x : Hand_RawOp) (q : List Nat), x.cv.at (0 :: q) = (I x.Code).at q) ∧ (∀ (x : Hand_RawOp) (q : List Nat) (v : CV), x.cv.set (0 :: q) v = Hand_RawOp.upd_0 x ((I x.Code).set q v)) ∧ (∀ (x : Hand_RawOp) (y : Int), Hand_RawOp.upd_0 x (I y) = ({ x with Code := y } : Hand_RawOp).cv) ∧ (∀ (x : Hand_RawOp), qfield C 31 x.cv 0 = some (I x.Code)) ∧ (∀ (x : Hand_RawOp) (h : Heap), qfieldAddr C h 31 (.rptr x.cv) 0 = some (.rptr (I x.Code))) ∧ (∀ (q : List Nat) (z : Shape), subEq sh31 (0 :: q) z = subEq sh3 q z) ∧ (∀ (x : Hand_RawOp) (q : List Nat), x.cv.at (1 :: q) = (I x.A).at q) ∧ (∀ (x : Hand_RawOp) (q : List Nat) (v : CV), x.cv.set (1 :: q) v = Hand_RawOp.upd_1 x ((I x.A).set q v)) ∧ (∀ (x : Hand_RawOp) (y : Int), Hand_RawOp.upd_1 x (I y) = ({ x with A := y } : Hand_RawOp).cv) ∧ (∀ (x : Hand_RawOp), qfield C 31 x.cv 1 = some (I x.A)) ∧ (∀ (x : Hand_RawOp) (h : Heap), qfieldAddr C h 31 (.rptr x.cv) 1 = some (.rptr (I x.A))) ∧ (∀ (q : List Nat) (z : Shape), subEq sh31 (1 :: q) z = subEq sh3 q z) ∧ (∀ (x : Hand_RawOp) (q : List Nat), x.cv.at (2 :: q) = (I x.B).at q) ∧ (∀ (x : Hand_RawOp) (q : List Nat) (v : CV), x.cv.set (2 :: q) v = Hand_RawOp.upd_2 x ((I x.B).set q v)) ∧ (∀ (x : Hand_RawOp) (y : Int), Hand_RawOp.upd_2 x (I y) = ({ x with B := y } : Hand_RawOp).cv) ∧ (∀ (x : Hand_RawOp), qfield C 31 x.cv 2 = some (I x.B)) ∧ (∀ (x : Hand_RawOp) (h : Heap), qfieldAddr C h 31 (.rptr x.cv) 2 = some (.rptr (I x.B))) ∧ (∀ (q : List Nat) (z : Shape), subEq sh31 (2 :: q) z = subEq sh3 q z) ∧ (subEq sh31 [] sh31 = true) ∧ (allocObj C (.alloc 31) = some (.var sh31 Hand_RawOp.zero.cv)) ∧ (∀ (p : Hp), xalloc C p 31 = .ret (.ptr p.n []) (p.new (.var sh31 Hand_RawOp.zero.cv))) ∧ (∀ (p : Hp) (x : Hand_RawOp), xbox C p 31 x.cv = .ret (.ptr p.n []) (p.new (.var sh31 x.cv))) := ⟨Hand_RawOp.shape, Hand_RawOp.shOk, Hand_RawOp.eql, Hand_RawOp.neq, Hand_RawOp.at_0, Hand_RawOp.set_0, Hand_RawOp.fold_0, Hand_RawOp.fld_0, Hand_RawOp.rfa_0, Hand_RawOp.sub_0, Hand_RawOp.at_1, Hand_RawOp.set_1, Hand_RawOp.fold_1, Hand_RawOp.fld_1, Hand_RawOp.rfa_1, Hand_RawOp.sub_1, Hand_RawOp.at_2, Hand_RawOp.set_2, Hand_RawOp.fold_2, Hand_RawOp.fld_2, Hand_RawOp.rfa_2, Hand_RawOp.sub_2, Hand_RawOp.sub_nil, Hand_RawOp.alloc, Hand_RawOp.xalloc, Hand_RawOp.xbox⟩
theorem zs_Api_Body : (∀ (x : Api_Body), x.cv.shape = sh34) ∧ (∀ (x : Api_Body), Cl.shOk x.cv sh34 = true) ∧ (∀ (x y : Api_Body) (b : Bool), qbin C .eql 34 b x.cv y.cv = some (Bo (decide (x = y)))) ∧ (∀ (x y : Api_Body) (b : Bool), qbin C .neq 34 b x.cv y.cv = some (Bo (!decide (x = y)))) ∧ (∀ (x : Api_Body) (q : List Nat), x.cv.at (0 :: q) = (I x.Kind).at q) ∧ (∀ (x : Api_Body) (q : List Nat) (v : CV), x.cv.set (0 :: q) v = Api_Body.upd_0 x ((I x.Kind).set q v)) ∧ (∀ (x : Api_Body) (y : Int), Api_Body.upd_0 x (I y) = ({ x with Kind := y } : Api_Body).cv) ∧ (∀ (x : Api_Body), qfield C 34 x.cv 0 = some (I x.Kind)) ∧ (∀ (x : Api_Body) (h : Heap), qfieldAddr C h 34 (.rptr x.cv) 0 = some (.rptr (I x.Kind))) ∧ (∀ (q : List Nat) (z : Shape), subEq sh34 (0 :: q) z = subEq sh3 q z) ∧ (∀ (x : Api_Body) (q : List Nat), x.cv.at (1 :: q) = (I x.Owner).at q) ∧ (∀ (x : Api_Body) (q : List Nat) (v : CV), x.cv.set (1 :: q) v = Api_Body.upd_1 x ((I x.Owner).set q v)) ∧ (∀ (x : Api_Body) (y : Int), Api_Body.upd_1 x (I y) = ({ x with Owner := y } : Api_Body).cv) ∧ (∀ (x : Api_Body), qfield C 34 x.cv 1 = some (I x.Owner)) ∧ (∀ (x : Api_Body) (h : Heap), qfieldAddr C h 34 (.rptr x.cv) 1 = some (.rptr (I x.Owner))) ∧ (∀ (q : List Nat) (z : Shape), subEq sh34 (1 :: q) z = subEq sh3 q z) ∧ (∀ (x : Api_Body) (q : List Nat), x.cv.at (2 :: q) = (I x.X).at q) ∧ (∀ (x : Api_Body) (q : List Nat) (v : CV), x.cv.set (2 :: q) v = Api_Body.upd_2 x ((I x.X).set q v)) ∧ (∀ (x : Api_Body) (y : Int), Api_Body.upd_2 x (I y) = ({ x with X := y } : Api_Body).cv) ∧ (∀ (x : Api_Body), qfield C 34 x.cv 2 = some (I x.X)) ∧ (∀ (x : Api_Body) (h : Heap), qfieldAddr C h 34 (.rptr x.cv) 2 = some (.rptr (I x.X))) ∧ (∀ (q : List Nat) (z : Shape), subEq sh34 (2 :: q) z = subEq sh3 q z) ∧ (∀ (x : Api_Body) (q : List Nat), x.cv.at (3 :: q) = (I x.Y).at q) ∧ (∀ (x : Api_Body) (q : List Nat) (v : CV), x.cv.set (3 :: q) v = Api_Body.upd_3 x ((I x.Y).set q v)) ∧ (∀ (x : Api_Body) (y : Int), Api_Body.upd_3 x (I y) = ({ x with Y := y } : Api_Body).cv) ∧ (∀ (x : Api_Body), qfield C 34 x.cv 3 = some (I x.Y)) ∧ (∀ (x : Api_Body) (h : Heap), qfieldAddr C h 34 (.rptr x.cv) 3 = some (.rptr (I x.Y))) ∧ (∀ (q : List Nat) (z : Shape), subEq sh34 (3 :: q) z = subEq sh3 q z) ∧ (∀ (x : Api_Body) (q : List Nat), x.cv.at (4 :: q) = (I x.VX).at q) ∧ (∀ (x : Api_Body) (q : List Nat) (v : CV), x.cv.set (4 :: q) v = Api_Body.upd_4 x ((I x.VX).set q v)) ∧ (∀ (x : Api_Body) (y : Int), Api_Body.upd_4 x (I y) = ({ x with VX := y } : Api_Body).cv) ∧ (∀ (x : Api_Body), qfield C 34 x.cv 4 = some (I x.VX)) ∧ (∀ (x : Api_Body) (h : Heap), qfieldAddr C h 34 (.rptr x.cv) 4 = some (.rptr (I x.VX))) ∧ (∀ (q : List Nat) (z : Shape), subEq sh34 (4 :: q) z = subEq sh3 q z) ∧ (∀ (x : Api_Body) (q : List Nat), x.cv.at (5 :: q) = (I x.VY).at q) ∧ (∀ (x : Api_Body) (q : List Nat) (v : CV), x.cv.set (5 :: q) v = Api_Body.upd_5 x ((I x.VY).set q v)) ∧ (∀ (x : Api_Body) (y : Int), Api_Body.upd_5 x (I y) = ({ x with VY := y } : Api_Body).cv) ∧ (∀ (x : Api_Body), qfield C 34 x.cv 5 = some (I x.VY)) ∧ (∀ (x : Api_Body) (h : Heap), qfieldAddr C h 34 (.rptr x.cv) 5 = some (.rptr (I x.VY))) ∧ (∀ (q : List Nat) (z : Shape), subEq sh34 (5 :: q) z = subEq sh3 q z) ∧ (∀ (x : Api_Body) (q : List Nat), x.cv.at (6 :: q) = (I x.Age).at q) ∧ (∀ (x : Api_Body) (q : List Nat) (v : CV), x.cv.set (6 :: q) v = Api_Body.upd_6 x ((I x.Age).set q v)) ∧ (∀ (x : Api_Body) (y : Int), Api_Body.upd_6 x (I y) = ({ x with Age := y } : Api_Body).cv) ∧ (∀ (x : Api_Body), qfield C 34 x.cv 6 = some (I x.Age)) ∧ (∀ (x : Api_Body) (h : Heap), qfieldAddr C h 34 (.rptr x.cv) 6 = some (.rptr (I x.Age))) ∧ (∀ (q : List Nat) (z : Shape), subEq sh34 (6 :: q) z = subEq sh3 q z) ∧ (∀ (x : Api_Body), x.cv.at [7] = some (.agg (x.Mem.map I))) ∧ (∀ (x : Api_Body) (k : Nat) (q : List Nat) (h : k < 4), x.cv.at (7 :: k :: q) = (I (nth x.Mem k)).at q) ∧ (∀ (x : Api_Body) (v : CV), x.cv.set [7] v = Api_Body.upd_7 x v) ∧ (∀ (x : Api_Body) (k : Nat) (q : List Nat) (v : CV) (h : k < 4), x.cv.set (7 :: k :: q) v = Api_Body.upd_7k x k ((I (nth x.Mem k)).set q v)) ∧ (∀ (x : Api_Body) (k : Nat) (y : Int), Api_Body.upd_7k x k (I y) = (Api_Body.put_7k x k y).cv) ∧ (∀ (x : Api_Body) (l : List Int) (h : l.length = 4), Api_Body.upd_7 x (.agg (l.map I)) = ({ x with Mem := l, hMem := h } : Api_Body).cv) ∧ (∀ (x : Api_Body), qfield C 34 x.cv 7 = some (.agg (x.Mem.map I))) ∧ (∀ (x : Api_Body) (h : Heap), qfieldAddr C h 34 (.rptr x.cv) 7 = some (.rptr (.agg (x.Mem.map I)))) ∧ (∀ (k : Nat) (q : List Nat) (z : Shape), subEq sh34 (7 :: k :: q) z = (decide (k < 4) && subEq sh3 q z)) ∧ (∀ (z : Shape), subEq sh34 [7] z = subEq sh32 [] z) ∧ (∀ (x : Api_Body) (q : List Nat), x.cv.at (8 :: q) = (I x.Faults).at q) ∧ (∀ (x : Api_Body) (q : List Nat) (v : CV), x.cv.set (8 :: q) v = Api_Body.upd_8 x ((I x.Faults).set q v)) ∧ (∀ (x : Api_Body) (y : Int), Api_Body.upd_8 x (I y) = ({ x with Faults := y } : Api_Body).cv) ∧ (∀ (x : Api_Body), qfield C 34 x.cv 8 = some (I x.Faults)) ∧ (∀ (x : Api_Body) (h : Heap), qfieldAddr C h 34 (.rptr x.cv) 8 = some (.rptr (I x.Faults))) ∧ (∀ (q : List Nat) (z : Shape), subEq sh34 (8 :: q) z = subEq sh3 q z) ∧ (subEq sh34 [] sh34 = true) ∧ (allocObj C (.alloc 34) = some (.var sh34 Api_Body.zero.cv)) ∧ (∀ (p : Hp), xalloc C p 34 = .ret (.ptr p.n []) (p.new (.var sh34 Api_Body.zero.cv))) ∧ (∀ (p : Hp) (x : Api_Body), xbox C p 34 x.cv = .ret (.ptr p.n []) (p.new (.var sh34 x.cv))) ∧ (qbuild C 34 [] = some (({ Kind := 0, Owner := 0, X := 0, Y := 0, VX := 0, VY := 0, Age := 0, Mem := (List.replicate 4 0), hMem := List.length_replicate, Faults := 0 } : Api_Body).cv)) ∧ (∀ (a0 : Int), qbuild C 34 [(0, I a0)] = some (({ Kind := a0, Owner := 0, X := 0, Y := 0, VX := 0, VY := 0, Age := 0, Mem := (List.replicate 4 0), hMem := List.length_replicate, Faults := 0 } : Api_Body).cv)) ∧ (∀ (a0 : Int) (a1 : Int) (a2 : Int) (a3 : Int), qbuild C 34 [(0, I a0), (1, I a1), (2, I a2), (3, I a3)] = some (({ Kind := a0, Owner := a1, X := a2, Y := a3, VX := 0, VY := 0, Age := 0, Mem := (List.replicate 4 0), hMem := List.length_replicate, Faults := 0 } : Api_Body).cv)) ∧ (∀ (a0 : Int) (a1 : Int) (a2 : Int) (a3 : Int) (a4 : Int) (a5 : Int), qbuild C 34 [(0, I a0), (1, I a1), (2, I a2), (3, I a3), (4, I a4), (5, I a5)] = some (({ Kind := a0, Owner := a1, X := a2, Y := a3, VX := a4, VY := a5, Age := 0, Mem := (List.replicate 4 0), hMem := List.length_replicate, Faults := 0 } : Api_Body).cv)) := ⟨Api_Body.shape, Api_Body.shOk, Api_Body.eql, Api_Body.neq, Api_Body.at_0, Api_Body.set_0, Api_Body.fold_0, Api_Body.fld_0, Api_Body.rfa_0, Api_Body.sub_0, Api_Body.at_1, Api_Body.set_1, Api_Body.fold_1, Api_Body.fld_1, Api_Body.rfa_1, Api_Body.sub_1, Api_Body.at_2, Api_Body.set_2, Api_Body.fold_2, Api_Body.fld_2, Api_Body.rfa_2, Api_Body.sub_2, Api_Body.at_3, Api_Body.set_3, Api_Body.fold_3, Api_Body.fld_3, Api_Body.rfa_3, Api_Body.sub_3, Api_Body.at_4, Api_Body.set_4, Api_Body.fold_4, Api_Body.fld_4, Api_Body.rfa_4, Api_Body.sub_4, Api_Body.at_5, Api_Body.set_5, Api_Body.fold_5, Api_Body.fld_5, Api_Body.rfa_5, Api_Body.sub_5, Api_Body.at_6, Api_Body.set_6, Api_Body.fold_6, Api_Body.fld_6, Api_Body.rfa_6, Api_Body.sub_6, Api_Body.at_7, Api_Body.at_7k, Api_Body.set_7, Api_Body.set_7k, Api_Body.fold_7k, Api_Body.fold_7, Api_Body.fld_7, Api_Body.rfa_7, Api_Body.sub_7k, Api_Body.sub_7, Api_Body.at_8, Api_Body.set_8, Api_Body.fold_8, Api_Body.fld_8, Api_Body.rfa_8, Api_Body.sub_8, Api_Body.sub_nil, Api_Body.alloc, Api_Body.xalloc, Api_Body.xbox, Api_Body.bld_none, Api_Body.bld_0, Api_Body.bld_0_1_2_3, Api_Body.bld_0_1_2_3_4_5⟩
theorem zs_Api_Input : (∀ (x : Api_Input), x.cv.shape = sh36) ∧ (∀ (x : Api_Input), Cl.shOk x.cv sh36 = true) ∧ (∀ (x y : Api_Input) (b : Bool), qbin C .eql 36 b x.cv y.cv = some (Bo (decide (x = y)))) ∧ (∀ (x y : Api_Input) (b : Bool), qbin C .neq 36 b x.cv y.cv = some (Bo (!decide (x = y)))) ∧ (∀ (x : Api_Input) (q : List Nat), x.cv.at (0 :: q) = (I x.Buttons).at q) ∧ (∀ (x : Api_Input) (q : List Nat) (v : CV), x.cv.set (0 :: q) v = Api_Input.upd_0 x ((I x.Buttons).set q v)) ∧ (∀ (x : Api_Input) (y : Int), Api_Input.upd_0 x (I y) = ({ x with Buttons := y } : Api_Input).cv) ∧ (∀ (x : Api_Input), qfield C 36 x.cv 0 = some (I x.Buttons)) ∧ (∀ (x : Api_Input) (h : Heap), qfieldAddr C h 36 (.rptr x.cv) 0 = some (.rptr (I x.Buttons))) ∧ (∀ (q : List Nat) (z : Shape), subEq sh36 (0 :: q) z = subEq sh3 q z) ∧ (∀ (x : Api_Input) (q : List Nat), x.cv.at (1 :: q) = (I x.X).at q) ∧ (∀ (x : Api_Input) (q : List Nat) (v : CV), x.cv.set (1 :: q) v = Api_Input.upd_1 x ((I x.X).set q v)) ∧ (∀ (x : Api_Input) (y : Int), Api_Input.upd_1 x (I y) = ({ x with X := y } : Api_Input).cv) ∧ (∀ (x : Api_Input), qfield C 36 x.cv 1 = some (I x.X)) ∧ (∀ (x : Api_Input) (h : Heap), qfieldAddr C h 36 (.rptr x.cv) 1 = some (.rptr (I x.X))) ∧ (∀ (q : List Nat) (z : Shape), subEq sh36 (1 :: q) z = subEq sh3 q z) ∧ (∀ (x : Api_Input) (q : List Nat), x.cv.at (2 :: q) = (I x.Y).at q) ∧ (∀ (x : Api_Input) (q : List Nat) (v : CV), x.cv.set (2 :: q) v = Api_Input.upd_2 x ((I x.Y).set q v)) ∧ (∀ (x : Api_Input) (y : Int), Api_Input.upd_2 x (I y) = ({ x with Y := y } : Api_Input).cv) ∧ (∀ (x : Api_Input), qfield C 36 x.cv 2 = some (I x.Y)) ∧ (∀ (x : Api_Input) (h : Heap), qfieldAddr C h 36 (.rptr x.cv) 2 = some (.rptr (I x.Y))) ∧ (∀ (q : List Nat) (z : Shape), subEq sh36 (2 :: q) z = subEq sh3 q z) ∧ (subEq sh36 [] sh36 = true) ∧ (allocObj C (.alloc 36) = some (.var sh36 Api_Input.zero.cv)) ∧ (∀ (p : Hp), xalloc C p 36 = .ret (.ptr p.n []) (p.new (.var sh36 Api_Input.zero.cv))) ∧ (∀ (p : Hp) (x : Api_Input), xbox C p 36 x.cv = .ret (.ptr p.n []) (p.new (.var sh36 x.cv))) ∧ (qbuild C 36 [] = some (({ Buttons := 0, X := 0, Y := 0 } : Api_Input).cv)) ∧ (∀ (a0 : Int) (a1 : Int), qbuild C 36 [(0, I a0), (1, I a1)] = some (({ Buttons := a0, X := a1, Y := 0 } : Api_Input).cv)) ∧ (∀ (a0 : Int) (a1 : Int) (a2 : Int), qbuild C 36 [(0, I a0), (1, I a1), (2, I a2)] = some (({ Buttons := a0, X := a1, Y := a2 } : Api_Input).cv)) ∧ (∀ (a1 : Int), qbuild C 36 [(1, I a1)] = some (({ Buttons := 0, X := a1, Y := 0 } : Api_Input).cv)) := ⟨Api_Input.shape, Api_Input.shOk, Api_Input.eql, Api_Input.neq, Api_Input.at_0, Api_Input.set_0, Api_Input.fold_0, Api_Input.fld_0, Api_Input.rfa_0, Api_Input.sub_0, Api_Input.at_1, Api_Input.set_1, Api_Input.fold_1, Api_Input.fld_1, Api_Input.rfa_1, Api_Input.sub_1, Api_Input.at_2, Api_Input.set_2, Api_Input.fold_2, Api_Input.fld_2, Api_Input.rfa_2, Api_Input.sub_2, Api_Input.sub_nil, Api_Input.alloc, Api_Input.xalloc, Api_Input.xbox, Api_Input.bld_none, Api_Input.bld_0_1, Api_Input.bld_0_1_2, Api_Input.bld_1⟩
theorem zs_Rule_Env : (∀ (x : Rule_Env), x.cv.shape = sh39) ∧ (∀ (x : Rule_Env), Cl.shOk x.cv sh39 = true) ∧ (∀ (x : Rule_Env) (q : List Nat), x.cv.at (0 :: q) = (Api_Body.cv x.Body).at q) ∧ (∀ (x : Rule_Env) (q : List Nat) (v : CV), x.cv.set (0 :: q) v = Rule_Env.upd_0 x ((Api_Body.cv x.Body).set q v)) ∧ (∀ (x : Rule_Env) (y : Api_Body), Rule_Env.upd_0 x (Api_Body.cv y) = ({ x with Body := y } : Rule_Env).cv) ∧ (∀ (x : Rule_Env), qfield C 39 x.cv 0 = some (Api_Body.cv x.Body)) ∧ (∀ (x : Rule_Env) (h : Heap), qfieldAddr C h 39 (.rptr x.cv) 0 = some (.rptr (Api_Body.cv x.Body))) ∧ (∀ (q : List Nat) (z : Shape), subEq sh39 (0 :: q) z = subEq sh34 q z) ∧ (∀ (x : Rule_Env) (q : List Nat), x.cv.at (1 :: q) = (Api_Input.cv x.In).at q) ∧ (∀ (x : Rule_Env) (q : List Nat) (v : CV), x.cv.set (1 :: q) v = Rule_Env.upd_1 x ((Api_Input.cv x.In).set q v)) ∧ (∀ (x : Rule_Env) (y : Api_Input), Rule_Env.upd_1 x (Api_Input.cv y) = ({ x with In := y } : Rule_Env).cv) ∧ (∀ (x : Rule_Env), qfield C 39 x.cv 1 = some (Api_Input.cv x.In)) ∧ (∀ (x : Rule_Env) (h : Heap), qfieldAddr C h 39 (.rptr x.cv) 1 = some (.rptr (Api_Input.cv x.In))) ∧ (∀ (q : List Nat) (z : Shape), subEq sh39 (1 :: q) z = subEq sh36 q z) ∧ (∀ (x : Rule_Env) (q : List Nat), x.cv.at (2 :: q) = (U x.Dice).at q) ∧ (∀ (x : Rule_Env) (q : List Nat) (v : CV), x.cv.set (2 :: q) v = Rule_Env.upd_2 x ((U x.Dice).set q v)) ∧ (∀ (x : Rule_Env) (y : Int), Rule_Env.upd_2 x (U y) = ({ x with Dice := y } : Rule_Env).cv) ∧ (∀ (x : Rule_Env), qfield C 39 x.cv 2 = some (U x.Dice)) ∧ (∀ (x : Rule_Env) (h : Heap), qfieldAddr C h 39 (.rptr x.cv) 2 = some (.rptr (U x.Dice))) ∧ (∀ (q : List Nat) (z : Shape), subEq sh39 (2 :: q) z = subEq sh25 q z) ∧ (∀ (x : Rule_Env) (q : List Nat), x.cv.at (3 :: q) = (I x.Room).at q) ∧ (∀ (x : Rule_Env) (q : List Nat) (v : CV), x.cv.set (3 :: q) v = Rule_Env.upd_3 x ((I x.Room).set q v)) ∧ (∀ (x : Rule_Env) (y : Int), Rule_Env.upd_3 x (I y) = ({ x with Room := y } : Rule_Env).cv) ∧ (∀ (x : Rule_Env), qfield C 39 x.cv 3 = some (I x.Room)) ∧ (∀ (x : Rule_Env) (h : Heap), qfieldAddr C h 39 (.rptr x.cv) 3 = some (.rptr (I x.Room))) ∧ (∀ (q : List Nat) (z : Shape), subEq sh39 (3 :: q) z = subEq sh3 q z) ∧ (∀ (x : Rule_Env) (q : List Nat), x.cv.at (4 :: q) = ((Lst.cv Api_Body.cv) x.Shots).at q) ∧ (∀ (x : Rule_Env) (q : List Nat) (v : CV), x.cv.set (4 :: q) v = Rule_Env.upd_4 x (((Lst.cv Api_Body.cv) x.Shots).set q v)) ∧ (∀ (x : Rule_Env) (y : Lst Api_Body), Rule_Env.upd_4 x ((Lst.cv Api_Body.cv) y) = ({ x with Shots := y } : Rule_Env).cv) ∧ (∀ (x : Rule_Env), qfield C 39 x.cv 4 = some ((Lst.cv Api_Body.cv) x.Shots)) ∧ (∀ (x : Rule_Env) (h : Heap), qfieldAddr C h 39 (.rptr x.cv) 4 = some (.rptr ((Lst.cv Api_Body.cv) x.Shots))) ∧ (∀ (q : List Nat) (z : Shape), subEq sh39 (4 :: q) z = subEq sh37 q z) ∧ (subEq sh39 [] sh39 = true) ∧ (allocObj C (.alloc 39) = some (.var sh39 Rule_Env.zero.cv)) ∧ (∀ (p : Hp), xalloc C p 39 = .ret (.ptr p.n []) (p.new (.var sh39 Rule_Env.zero.cv))) ∧ (∀ (p : Hp) (x : Rule_Env), xbox C p 39 x.cv = .ret (.ptr p.n []) (p.new (.var sh39 x.cv))) ∧ (∀ (a0 : Api_Body) (a1 : Api_Input) (a2 : Int) (a3 : Int), qbuild C 39 [(0, Api_Body.cv a0), (1, Api_Input.cv a1), (2, U a2), (3, I a3)] = some (({ Body := a0, In := a1, Dice := a2, Room := a3, Shots := ⟨.nil, [], fun _ => rfl⟩ } : Rule_Env).cv)) ∧ (∀ (a0 : Api_Body) (a1 : Api_Input) (a2 : Int) (a3 : Int) (a4 : Lst Api_Body), qbuild C 39 [(0, Api_Body.cv a0), (1, Api_Input.cv a1), (2, U a2), (3, I a3), (4, (Lst.cv Api_Body.cv) a4)] = some (({ Body := a0, In := a1, Dice := a2, Room := a3, Shots := a4 } : Rule_Env).cv)) := ⟨Rule_Env.shape, Rule_Env.shOk, Rule_Env.at_0, Rule_Env.set_0, Rule_Env.fold_0, Rule_Env.fld_0, Rule_Env.rfa_0, Rule_Env.sub_0, Rule_Env.at_1, Rule_Env.set_1, Rule_Env.fold_1, Rule_Env.fld_1, Rule_Env.rfa_1, Rule_Env.sub_1, Rule_Env.at_2, Rule_Env.set_2, Rule_Env.fold_2, Rule_Env.fld_2, Rule_Env.rfa_2, Rule_Env.sub_2, Rule_Env.at_3, Rule_Env.set_3, Rule_Env.fold_3, Rule_Env.fld_3, Rule_Env.rfa_3, Rule_Env.sub_3, Rule_Env.at_4, Rule_Env.set_4, Rule_Env.fold_4, Rule_Env.fld_4, Rule_Env.rfa_4, Rule_Env.sub_4, Rule_Env.sub_nil, Rule_Env.alloc, Rule_Env.xalloc, Rule_Env.xbox, Rule_Env.bld_0_1_2_3, Rule_Env.bld_0_1_2_3_4⟩
theorem zs_Trap_Fault : (∀ (x : Trap_Fault), x.cv.shape = sh44) ∧ (∀ (x : Trap_Fault), Cl.shOk x.cv sh44 = true) ∧ (∀ (x y : Trap_Fault) (b : Bool), qbin C .eql 44 b x.cv y.cv = some (Bo (decide (x = y)))) ∧ (∀ (x y : Trap_Fault) (b : Bool), qbin C .neq 44 b x.cv y.cv = some (Bo (!decide (x = y)))) ∧ (∀ (x : Trap_Fault) (q : List Nat), x.cv.at (0 :: q) = (I x.Code).at q) ∧ (∀ (x : Trap_Fault) (q : List Nat) (v : CV), x.cv.set (0 :: q) v = Trap_Fault.upd_0 x ((I x.Code).set q v)) ∧ (∀ (x : Trap_Fault) (y : Int), Trap_Fault.upd_0 x (I y) = ({ x with Code := y } : Trap_Fault).cv) ∧ (∀ (x : Trap_Fault), qfield C 44 x.cv 0 = some (I x.Code)) ∧ (∀ (x : Trap_Fault) (h : Heap), qfieldAddr C h 44 (.rptr x.cv) 0 = some (.rptr (I x.Code))) ∧ (∀ (q : List Nat) (z : Shape), subEq sh44 (0 :: q) z = subEq sh3 q z) ∧ (∀ (x : Trap_Fault) (q : List Nat), x.cv.at (1 :: q) = (I x.At).at q) ∧ (∀ (x : Trap_Fault) (q : List Nat) (v : CV), x.cv.set (1 :: q) v = Trap_Fault.upd_1 x ((I x.At).set q v)) ∧ (∀ (x : Trap_Fault) (y : Int), Trap_Fault.upd_1 x (I y) = ({ x with At := y } : Trap_Fault).cv) ∧ (∀ (x : Trap_Fault), qfield C 44 x.cv 1 = some (I x.At)) ∧ (∀ (x : Trap_Fault) (h : Heap), qfieldAddr C h 44 (.rptr x.cv) 1 = some (.rptr (I x.At))) ∧ (∀ (q : List Nat) (z : Shape), subEq sh44 (1 :: q) z = subEq sh3 q z) ∧ (subEq sh44 [] sh44 = true) ∧ (allocObj C (.alloc 44) = some (.var sh44 Trap_Fault.zero.cv)) ∧ (∀ (p : Hp), xalloc C p 44 = .ret (.ptr p.n []) (p.new (.var sh44 Trap_Fault.zero.cv))) ∧ (∀ (p : Hp) (x : Trap_Fault), xbox C p 44 x.cv = .ret (.ptr p.n []) (p.new (.var sh44 x.cv))) ∧ (qbuild C 44 [] = some (({ Code := 0, At := 0 } : Trap_Fault).cv)) ∧ (∀ (a0 : Int), qbuild C 44 [(0, I a0)] = some (({ Code := a0, At := 0 } : Trap_Fault).cv)) ∧ (∀ (a0 : Int) (a1 : Int), qbuild C 44 [(0, I a0), (1, I a1)] = some (({ Code := a0, At := a1 } : Trap_Fault).cv)) := ⟨Trap_Fault.shape, Trap_Fault.shOk, Trap_Fault.eql, Trap_Fault.neq, Trap_Fault.at_0, Trap_Fault.set_0, Trap_Fault.fold_0, Trap_Fault.fld_0, Trap_Fault.rfa_0, Trap_Fault.sub_0, Trap_Fault.at_1, Trap_Fault.set_1, Trap_Fault.fold_1, Trap_Fault.fld_1, Trap_Fault.rfa_1, Trap_Fault.sub_1, Trap_Fault.sub_nil, Trap_Fault.alloc, Trap_Fault.xalloc, Trap_Fault.xbox, Trap_Fault.bld_none, Trap_Fault.bld_0, Trap_Fault.bld_0_1⟩
theorem zs_Rule_machine : (∀ (x : Rule_machine), x.cv.shape = sh131) ∧ (∀ (x : Rule_machine), Cl.shOk x.cv sh131 = true) ∧ (∀ (x : Rule_machine) (q : List Nat), x.cv.at (0 :: q) = (Rule_Env.cv x.e_).at q) ∧ (∀ (x : Rule_machine) (q : List Nat) (v : CV), x.cv.set (0 :: q) v = Rule_machine.upd_0 x ((Rule_Env.cv x.e_).set q v)) ∧ (∀ (x : Rule_machine) (y : Rule_Env), Rule_machine.upd_0 x (Rule_Env.cv y) = ({ x with e_ := y } : Rule_machine).cv) ∧ (∀ (x : Rule_machine), qfield C 131 x.cv 0 = some (Rule_Env.cv x.e_)) ∧ (∀ (x : Rule_machine) (h : Heap), qfieldAddr C h 131 (.rptr x.cv) 0 = some (.rptr (Rule_Env.cv x.e_))) ∧ (∀ (q : List Nat) (z : Shape), subEq sh131 (0 :: q) z = subEq sh39 q z) ∧ (∀ (x : Rule_machine) (q : List Nat), x.cv.at (1 :: q) = ((Lst.cv Api_Op.cv) x.l_).at q) ∧ (∀ (x : Rule_machine) (q : List Nat) (v : CV), x.cv.set (1 :: q) v = Rule_machine.upd_1 x (((Lst.cv Api_Op.cv) x.l_).set q v)) ∧ (∀ (x : Rule_machine) (y : Lst Api_Op), Rule_machine.upd_1 x ((Lst.cv Api_Op.cv) y) = ({ x with l_ := y } : Rule_machine).cv) ∧ (∀ (x : Rule_machine), qfield C 131 x.cv 1 = some ((Lst.cv Api_Op.cv) x.l_)) ∧ (∀ (x : Rule_machine) (h : Heap), qfieldAddr C h 131 (.rptr x.cv) 1 = some (.rptr ((Lst.cv Api_Op.cv) x.l_))) ∧ (∀ (q : List Nat) (z : Shape), subEq sh131 (1 :: q) z = subEq sh23 q z) ∧ (∀ (x : Rule_machine) (q : List Nat), x.cv.at (2 :: q) = (I x.at_).at q) ∧ (∀ (x : Rule_machine) (q : List Nat) (v : CV), x.cv.set (2 :: q) v = Rule_machine.upd_2 x ((I x.at_).set q v)) ∧ (∀ (x : Rule_machine) (y : Int), Rule_machine.upd_2 x (I y) = ({ x with at_ := y } : Rule_machine).cv) ∧ (∀ (x : Rule_machine), qfield C 131 x.cv 2 = some (I x.at_)) ∧ (∀ (x : Rule_machine) (h : Heap), qfieldAddr C h 131 (.rptr x.cv) 2 = some (.rptr (I x.at_))) ∧ (∀ (q : List Nat) (z : Shape), subEq sh131 (2 :: q) z = subEq sh3 q z) ∧ (subEq sh131 [] sh131 = true) ∧ (allocObj C (.alloc 131) = some (.var sh131 Rule_machine.zero.cv)) ∧ (∀ (p : Hp), xalloc C p 131 = .ret (.ptr p.n []) (p.new (.var sh131 Rule_machine.zero.cv))) ∧ (∀ (p : Hp) (x : Rule_machine), xbox C p 131 x.cv = .ret (.ptr p.n []) (p.new (.var sh131 x.cv))) ∧ (∀ (a0 : Rule_Env) (a1 : Lst Api_Op), qbuild C 131 [(0, Rule_Env.cv a0), (1, (Lst.cv Api_Op.cv) a1)] = some (({ e_ := a0, l_ := a1, at_ := 0 } : Rule_machine).cv)) := ⟨Rule_machine.shape, Rule_machine.shOk, Rule_machine.at_0, Rule_machine.set_0, Rule_machine.fold_0, Rule_machine.fld_0, Rule_machine.rfa_0, Rule_machine.sub_0, Rule_machine.at_1, Rule_machine.set_1, Rule_machine.fold_1, Rule_machine.fld_1, Rule_machine.rfa_1, Rule_machine.sub_1, Rule_machine.at_2, Rule_machine.set_2, Rule_machine.fold_2, Rule_machine.fld_2, Rule_machine.rfa_2, Rule_machine.sub_2, Rule_machine.sub_nil, Rule_machine.alloc, Rule_machine.xalloc, Rule_machine.xbox, Rule_machine.bld_0_1⟩
theorem zs_Trap_thrown : (∀ (x : Trap_thrown), x.cv.shape = sh194) ∧ (∀ (x : Trap_thrown), Cl.shOk x.cv sh194 = true) ∧ (∀ (x y : Trap_thrown) (b : Bool), qbin C .eql 194 b x.cv y.cv = some (Bo (decide (x = y)))) ∧ (∀ (x y : Trap_thrown) (b : Bool), qbin C .neq 194 b x.cv y.cv = some (Bo (!decide (x = y)))) ∧ (∀ (x : Trap_thrown) (q : List Nat), x.cv.at (0 :: q) = (Trap_Fault.cv x.f_).at q) ∧ (∀ (x : Trap_thrown) (q : List Nat) (v : CV), x.cv.set (0 :: q) v = Trap_thrown.upd_0 x ((Trap_Fault.cv x.f_).set q v)) ∧ (∀ (x : Trap_thrown) (y : Trap_Fault), Trap_thrown.upd_0 x (Trap_Fault.cv y) = ({ x with f_ := y } : Trap_thrown).cv) ∧ (∀ (x : Trap_thrown), qfield C 194 x.cv 0 = some (Trap_Fault.cv x.f_)) ∧ (∀ (x : Trap_thrown) (h : Heap), qfieldAddr C h 194 (.rptr x.cv) 0 = some (.rptr (Trap_Fault.cv x.f_))) ∧ (∀ (q : List Nat) (z : Shape), subEq sh194 (0 :: q) z = subEq sh44 q z) ∧ (subEq sh194 [] sh194 = true) ∧ (allocObj C (.alloc 194) = some (.var sh194 Trap_thrown.zero.cv)) ∧ (∀ (p : Hp), xalloc C p 194 = .ret (.ptr p.n []) (p.new (.var sh194 Trap_thrown.zero.cv))) ∧ (∀ (p : Hp) (x : Trap_thrown), xbox C p 194 x.cv = .ret (.ptr p.n []) (p.new (.var sh194 x.cv))) ∧ (∀ (a0 : Trap_Fault), qbuild C 194 [(0, Trap_Fault.cv a0)] = some (({ f_ := a0 } : Trap_thrown).cv)) := ⟨Trap_thrown.shape, Trap_thrown.shOk, Trap_thrown.eql, Trap_thrown.neq, Trap_thrown.at_0, Trap_thrown.set_0, Trap_thrown.fold_0, Trap_thrown.fld_0, Trap_thrown.rfa_0, Trap_thrown.sub_0, Trap_thrown.sub_nil, Trap_thrown.alloc, Trap_thrown.xalloc, Trap_thrown.xbox, Trap_thrown.bld_0⟩
theorem zsl32 (l : List Int) (n : Int) (h : l.length = 4) (hn : 0 ≤ n ∧ n < 4) : qindex C 32 (.agg (l.map I)) (I n) = some (I (nth l n.toNat)) := qindex_of C I tt32 rfl tt3 (fun _ => rfl) l n h hn
theorem sl_len22 (s : Lst Hand_RawOp) (h : Heap) : qlen C h 22 (Lst.cv Hand_RawOp.cv s) = some (I s.l.length) := by simp only [qlen, tt22, ti22, Lst.cv, List.length_map]
theorem sl_idx22 (s : Lst Hand_RawOp) (p : Hp) (n : Int) (h : 0 ≤ n ∧ n < s.l.length) : xindexAddr C p 22 (Lst.cv Hand_RawOp.cv s) (I n) = some (.rptr (Hand_RawOp.cv (nth s.l n.toNat))) := by
  have hl : n.toNat < s.l.length := by omega
  show qindexAddr C p.h 22 (.lst s.tl (s.l.map Hand_RawOp.cv)) (I n) = _
  simp only [qindexAddr, tt22, ti22, tt31, List.length_map, h, and_self, if_true, List.getElem?_map, nth_lt hl, Option.map_some]
  rw [if_pos]
  exact Hand_RawOp.shape _
theorem sl_src22 (s : Lst Hand_RawOp) (h : Heap) : srcOf C h 22 (Lst.cv Hand_RawOp.cv s) = some (s.l.map Hand_RawOp.cv) := by simp only [srcOf, tt22, ti22, Lst.cv]
theorem sl_isS22 : isSliceT C 22 = true := by simp only [isSliceT, tt22, ti22]
theorem sl_app22 (p : Hp) (b s : Lst Hand_RawOp) (h : b.l.length + s.l.length ≤ 5864062014805) : xappend C false p 22 22 (Lst.cv Hand_RawOp.cv b) (Lst.cv Hand_RawOp.cv s) = appT Hand_RawOp.cv p b s := xappend_of C Hand_RawOp.cv tt22 tt31 Hand_RawOp.shOk p b s (by show _ * 24 ≤ _; omega) (by omega)
theorem sl_inj22 (b s : Lst Hand_RawOp) : Lst.cv Hand_RawOp.cv b = Lst.cv Hand_RawOp.cv s ↔ b = s := ⟨fun h => Lst.inj Hand_RawOp.injF h, fun h => by rw [h]⟩
theorem sl_lenl22 (tl : Tail) (l : List CV) (h : Heap) : qlen C h 22 (.lst tl l) = some (I l.length) := by simp only [qlen, tt22, ti22]
theorem sl_lens22 (i : Nat) (q : List Nat) (o n : Nat) (h : Heap) : qlen C h 22 (.slc i q o n) = some (I n) := by simp only [qlen, tt22, ti22]
theorem zsl22 : (∀ (tl : Tail) (l : List CV) (h : Heap), qlen C h 22 (.lst tl l) = some (I l.length)) ∧ (∀ (i : Nat) (q : List Nat) (o n : Nat) (h : Heap), qlen C h 22 (.slc i q o n) = some (I n)) ∧ (∀ (s : Lst Hand_RawOp) (h : Heap), qlen C h 22 (Lst.cv Hand_RawOp.cv s) = some (I s.l.length)) ∧ (∀ (s : Lst Hand_RawOp) (p : Hp) (n : Int), 0 ≤ n ∧ n < s.l.length → xindexAddr C p 22 (Lst.cv Hand_RawOp.cv s) (I n) = some (.rptr (Hand_RawOp.cv (nth s.l n.toNat)))) ∧ (∀ (s : Lst Hand_RawOp) (h : Heap), srcOf C h 22 (Lst.cv Hand_RawOp.cv s) = some (s.l.map Hand_RawOp.cv)) ∧ (∀ (p : Hp) (b s : Lst Hand_RawOp), b.l.length + s.l.length ≤ 5864062014805 → xappend C false p 22 22 (Lst.cv Hand_RawOp.cv b) (Lst.cv Hand_RawOp.cv s) = appT Hand_RawOp.cv p b s) ∧ (∀ (v : CV), xnil C .eql 22 v = (nilness v).map fun b => Bo b) ∧ (∀ (v : CV), xnil C .neq 22 v = (nilness v).map fun b => Bo (!b)) ∧ isSliceT C 22 = true := ⟨sl_lenl22, sl_lens22, sl_len22, sl_idx22, sl_src22, sl_app22, xnil_e C sl_isS22, xnil_ne C sl_isS22, sl_isS22⟩
theorem sl_len23 (s : Lst Api_Op) (h : Heap) : qlen C h 23 (Lst.cv Api_Op.cv s) = some (I s.l.length) := by simp only [qlen, tt23, ti23, Lst.cv, List.length_map]
theorem sl_idx23 (s : Lst Api_Op) (p : Hp) (n : Int) (h : 0 ≤ n ∧ n < s.l.length) : xindexAddr C p 23 (Lst.cv Api_Op.cv s) (I n) = some (.rptr (Api_Op.cv (nth s.l n.toNat))) := by
  have hl : n.toNat < s.l.length := by omega
  show qindexAddr C p.h 23 (.lst s.tl (s.l.map Api_Op.cv)) (I n) = _
  simp only [qindexAddr, tt23, ti23, tt29, List.length_map, h, and_self, if_true, List.getElem?_map, nth_lt hl, Option.map_some]
  rw [if_pos]
  exact Api_Op.shape _
theorem sl_src23 (s : Lst Api_Op) (h : Heap) : srcOf C h 23 (Lst.cv Api_Op.cv s) = some (s.l.map Api_Op.cv) := by simp only [srcOf, tt23, ti23, Lst.cv]
theorem sl_isS23 : isSliceT C 23 = true := by simp only [isSliceT, tt23, ti23]
theorem sl_b23_0 : qbuildSlice C 23 0 [] = some (Lst.cv Api_Op.cv ⟨.exact, [], nofun⟩) := qbuildSlice_of C tt23 tt29 (by decide) (by decide) rfl rfl
theorem sl_b23_1 : ∀ (a0 : Api_Op), qbuildSlice C 23 1 [(0, Api_Op.cv a0)] = some (Lst.cv Api_Op.cv ⟨.exact, [a0], nofun⟩) := fun a0 => qbuildSlice_of C tt23 tt29 (by decide) (by decide) (by simp only [partsOk, List.all_cons, List.all_nil, List.replicate_succ, List.replicate_zero, List.getElem?_cons_zero, List.getElem?_cons_succ, CV.shape, Api_Op.shape, Bool.and_true, decide_true]; try rfl) rfl
theorem sl_b23_2 : ∀ (a0 : Api_Op) (a1 : Api_Op), qbuildSlice C 23 2 [(0, Api_Op.cv a0), (1, Api_Op.cv a1)] = some (Lst.cv Api_Op.cv ⟨.exact, [a0, a1], nofun⟩) := fun a0 a1 => qbuildSlice_of C tt23 tt29 (by decide) (by decide) (by simp only [partsOk, List.all_cons, List.all_nil, List.replicate_succ, List.replicate_zero, List.getElem?_cons_zero, List.getElem?_cons_succ, CV.shape, Api_Op.shape, Bool.and_true, decide_true]; try rfl) rfl
theorem sl_b23_3 : ∀ (a0 : Api_Op) (a1 : Api_Op) (a2 : Api_Op), qbuildSlice C 23 3 [(0, Api_Op.cv a0), (1, Api_Op.cv a1), (2, Api_Op.cv a2)] = some (Lst.cv Api_Op.cv ⟨.exact, [a0, a1, a2], nofun⟩) := fun a0 a1 a2 => qbuildSlice_of C tt23 tt29 (by decide) (by decide) (by simp only [partsOk, List.all_cons, List.all_nil, List.replicate_succ, List.replicate_zero, List.getElem?_cons_zero, List.getElem?_cons_succ, CV.shape, Api_Op.shape, Bool.and_true, decide_true]; try rfl) rfl
theorem sl_b23_4 : ∀ (a0 : Api_Op) (a1 : Api_Op) (a2 : Api_Op) (a3 : Api_Op), qbuildSlice C 23 4 [(0, Api_Op.cv a0), (1, Api_Op.cv a1), (2, Api_Op.cv a2), (3, Api_Op.cv a3)] = some (Lst.cv Api_Op.cv ⟨.exact, [a0, a1, a2, a3], nofun⟩) := fun a0 a1 a2 a3 => qbuildSlice_of C tt23 tt29 (by decide) (by decide) (by simp only [partsOk, List.all_cons, List.all_nil, List.replicate_succ, List.replicate_zero, List.getElem?_cons_zero, List.getElem?_cons_succ, CV.shape, Api_Op.shape, Bool.and_true, decide_true]; try rfl) rfl
theorem sl_app23 (p : Hp) (b s : Lst Api_Op) (h : b.l.length + s.l.length ≤ 5864062014805) : xappend C false p 23 23 (Lst.cv Api_Op.cv b) (Lst.cv Api_Op.cv s) = appT Api_Op.cv p b s := xappend_of C Api_Op.cv tt23 tt29 Api_Op.shOk p b s (by show _ * 24 ≤ _; omega) (by omega)
theorem sl_inj23 (b s : Lst Api_Op) : Lst.cv Api_Op.cv b = Lst.cv Api_Op.cv s ↔ b = s := ⟨fun h => Lst.inj Api_Op.injF h, fun h => by rw [h]⟩
theorem sl_lenl23 (tl : Tail) (l : List CV) (h : Heap) : qlen C h 23 (.lst tl l) = some (I l.length) := by simp only [qlen, tt23, ti23]
theorem sl_lens23 (i : Nat) (q : List Nat) (o n : Nat) (h : Heap) : qlen C h 23 (.slc i q o n) = some (I n) := by simp only [qlen, tt23, ti23]
theorem zsl23 : (∀ (tl : Tail) (l : List CV) (h : Heap), qlen C h 23 (.lst tl l) = some (I l.length)) ∧ (∀ (i : Nat) (q : List Nat) (o n : Nat) (h : Heap), qlen C h 23 (.slc i q o n) = some (I n)) ∧ (∀ (s : Lst Api_Op) (h : Heap), qlen C h 23 (Lst.cv Api_Op.cv s) = some (I s.l.length)) ∧ (∀ (s : Lst Api_Op) (p : Hp) (n : Int), 0 ≤ n ∧ n < s.l.length → xindexAddr C p 23 (Lst.cv Api_Op.cv s) (I n) = some (.rptr (Api_Op.cv (nth s.l n.toNat)))) ∧ (∀ (s : Lst Api_Op) (h : Heap), srcOf C h 23 (Lst.cv Api_Op.cv s) = some (s.l.map Api_Op.cv)) ∧ (∀ (p : Hp) (b s : Lst Api_Op), b.l.length + s.l.length ≤ 5864062014805 → xappend C false p 23 23 (Lst.cv Api_Op.cv b) (Lst.cv Api_Op.cv s) = appT Api_Op.cv p b s) ∧ (∀ (v : CV), xnil C .eql 23 v = (nilness v).map fun b => Bo b) ∧ (∀ (v : CV), xnil C .neq 23 v = (nilness v).map fun b => Bo (!b)) ∧ (qbuildSlice C 23 0 [] = some (Lst.cv Api_Op.cv ⟨.exact, [], nofun⟩)) ∧ (∀ (a0 : Api_Op), qbuildSlice C 23 1 [(0, Api_Op.cv a0)] = some (Lst.cv Api_Op.cv ⟨.exact, [a0], nofun⟩)) ∧ (∀ (a0 : Api_Op) (a1 : Api_Op), qbuildSlice C 23 2 [(0, Api_Op.cv a0), (1, Api_Op.cv a1)] = some (Lst.cv Api_Op.cv ⟨.exact, [a0, a1], nofun⟩)) ∧ (∀ (a0 : Api_Op) (a1 : Api_Op) (a2 : Api_Op), qbuildSlice C 23 3 [(0, Api_Op.cv a0), (1, Api_Op.cv a1), (2, Api_Op.cv a2)] = some (Lst.cv Api_Op.cv ⟨.exact, [a0, a1, a2], nofun⟩)) ∧ (∀ (a0 : Api_Op) (a1 : Api_Op) (a2 : Api_Op) (a3 : Api_Op), qbuildSlice C 23 4 [(0, Api_Op.cv a0), (1, Api_Op.cv a1), (2, Api_Op.cv a2), (3, Api_Op.cv a3)] = some (Lst.cv Api_Op.cv ⟨.exact, [a0, a1, a2, a3], nofun⟩)) ∧ isSliceT C 23 = true := ⟨sl_lenl23, sl_lens23, sl_len23, sl_idx23, sl_src23, sl_app23, xnil_e C sl_isS23, xnil_ne C sl_isS23, sl_b23_0, sl_b23_1, sl_b23_2, sl_b23_3, sl_b23_4, sl_isS23⟩
theorem sl_len24 (s : Lst Int) (h : Heap) : qlen C h 24 (Lst.cv I s) = some (I s.l.length) := by simp only [qlen, tt24, ti24, Lst.cv, List.length_map]
theorem sl_idx24 (s : Lst Int) (p : Hp) (n : Int) (h : 0 ≤ n ∧ n < s.l.length) : xindexAddr C p 24 (Lst.cv I s) (I n) = some (.rptr (I (nth s.l n.toNat))) := by
  have hl : n.toNat < s.l.length := by omega
  show qindexAddr C p.h 24 (.lst s.tl (s.l.map I)) (I n) = _
  simp only [qindexAddr, tt24, ti24, tt3, List.length_map, h, and_self, if_true, List.getElem?_map, nth_lt hl, Option.map_some]
  rw [if_pos]
  exact rfl
theorem sl_src24 (s : Lst Int) (h : Heap) : srcOf C h 24 (Lst.cv I s) = some (s.l.map I) := by simp only [srcOf, tt24, ti24, Lst.cv]
theorem sl_isS24 : isSliceT C 24 = true := by simp only [isSliceT, tt24, ti24]
theorem sl_b24_1 : ∀ (a0 : Int), qbuildSlice C 24 1 [(0, I a0)] = some (Lst.cv I ⟨.exact, [a0], nofun⟩) := fun a0 => qbuildSlice_of C tt24 tt3 (by decide) (by decide) (by simp only [partsOk, List.all_cons, List.all_nil, List.replicate_succ, List.replicate_zero, List.getElem?_cons_zero, List.getElem?_cons_succ, CV.shape, Bool.and_true, decide_true]; try rfl) rfl
theorem sl_b24_8 : ∀ (a0 : Int) (a1 : Int) (a2 : Int) (a3 : Int) (a4 : Int) (a5 : Int) (a6 : Int) (a7 : Int), qbuildSlice C 24 8 [(0, I a0), (1, I a1), (2, I a2), (3, I a3), (4, I a4), (5, I a5), (6, I a6), (7, I a7)] = some (Lst.cv I ⟨.exact, [a0, a1, a2, a3, a4, a5, a6, a7], nofun⟩) := fun a0 a1 a2 a3 a4 a5 a6 a7 => qbuildSlice_of C tt24 tt3 (by decide) (by decide) (by simp only [partsOk, List.all_cons, List.all_nil, List.replicate_succ, List.replicate_zero, List.getElem?_cons_zero, List.getElem?_cons_succ, CV.shape, Bool.and_true, decide_true]; try rfl) rfl
theorem sl_app24 (p : Hp) (b s : Lst Int) (h : b.l.length + s.l.length ≤ 17592186044416) : xappend C false p 24 24 (Lst.cv I b) (Lst.cv I s) = appT I p b s := xappend_of C I tt24 tt3 (fun _ => rfl) p b s (by show _ * 8 ≤ _; omega) (by omega)
theorem sl_inj24 (b s : Lst Int) : Lst.cv I b = Lst.cv I s ↔ b = s := ⟨fun h => Lst.inj I_inj h, fun h => by rw [h]⟩
theorem sl_lenl24 (tl : Tail) (l : List CV) (h : Heap) : qlen C h 24 (.lst tl l) = some (I l.length) := by simp only [qlen, tt24, ti24]
theorem sl_lens24 (i : Nat) (q : List Nat) (o n : Nat) (h : Heap) : qlen C h 24 (.slc i q o n) = some (I n) := by simp only [qlen, tt24, ti24]
theorem zsl24 : (∀ (tl : Tail) (l : List CV) (h : Heap), qlen C h 24 (.lst tl l) = some (I l.length)) ∧ (∀ (i : Nat) (q : List Nat) (o n : Nat) (h : Heap), qlen C h 24 (.slc i q o n) = some (I n)) ∧ (∀ (s : Lst Int) (h : Heap), qlen C h 24 (Lst.cv I s) = some (I s.l.length)) ∧ (∀ (s : Lst Int) (p : Hp) (n : Int), 0 ≤ n ∧ n < s.l.length → xindexAddr C p 24 (Lst.cv I s) (I n) = some (.rptr (I (nth s.l n.toNat)))) ∧ (∀ (s : Lst Int) (h : Heap), srcOf C h 24 (Lst.cv I s) = some (s.l.map I)) ∧ (∀ (p : Hp) (b s : Lst Int), b.l.length + s.l.length ≤ 17592186044416 → xappend C false p 24 24 (Lst.cv I b) (Lst.cv I s) = appT I p b s) ∧ (∀ (v : CV), xnil C .eql 24 v = (nilness v).map fun b => Bo b) ∧ (∀ (v : CV), xnil C .neq 24 v = (nilness v).map fun b => Bo (!b)) ∧ (∀ (a0 : Int), qbuildSlice C 24 1 [(0, I a0)] = some (Lst.cv I ⟨.exact, [a0], nofun⟩)) ∧ (∀ (a0 : Int) (a1 : Int) (a2 : Int) (a3 : Int) (a4 : Int) (a5 : Int) (a6 : Int) (a7 : Int), qbuildSlice C 24 8 [(0, I a0), (1, I a1), (2, I a2), (3, I a3), (4, I a4), (5, I a5), (6, I a6), (7, I a7)] = some (Lst.cv I ⟨.exact, [a0, a1, a2, a3, a4, a5, a6, a7], nofun⟩)) ∧ isSliceT C 24 = true := ⟨sl_lenl24, sl_lens24, sl_len24, sl_idx24, sl_src24, sl_app24, xnil_e C sl_isS24, xnil_ne C sl_isS24, sl_b24_1, sl_b24_8, sl_isS24⟩
theorem sl_len37 (s : Lst Api_Body) (h : Heap) : qlen C h 37 (Lst.cv Api_Body.cv s) = some (I s.l.length) := by simp only [qlen, tt37, ti37, Lst.cv, List.length_map]
theorem sl_idx37 (s : Lst Api_Body) (p : Hp) (n : Int) (h : 0 ≤ n ∧ n < s.l.length) : xindexAddr C p 37 (Lst.cv Api_Body.cv s) (I n) = some (.rptr (Api_Body.cv (nth s.l n.toNat))) := by
  have hl : n.toNat < s.l.length := by omega
  show qindexAddr C p.h 37 (.lst s.tl (s.l.map Api_Body.cv)) (I n) = _
  simp only [qindexAddr, tt37, ti37, tt34, List.length_map, h, and_self, if_true, List.getElem?_map, nth_lt hl, Option.map_some]
  rw [if_pos]
  exact Api_Body.shape _
theorem sl_src37 (s : Lst Api_Body) (h : Heap) : srcOf C h 37 (Lst.cv Api_Body.cv s) = some (s.l.map Api_Body.cv) := by simp only [srcOf, tt37, ti37, Lst.cv]
theorem sl_isS37 : isSliceT C 37 = true := by simp only [isSliceT, tt37, ti37]
theorem sl_b37_0 : qbuildSlice C 37 0 [] = some (Lst.cv Api_Body.cv ⟨.exact, [], nofun⟩) := qbuildSlice_of C tt37 tt34 (by decide) (by decide) rfl rfl
theorem sl_b37_1 : ∀ (a0 : Api_Body), qbuildSlice C 37 1 [(0, Api_Body.cv a0)] = some (Lst.cv Api_Body.cv ⟨.exact, [a0], nofun⟩) := fun a0 => qbuildSlice_of C tt37 tt34 (by decide) (by decide) (by simp only [partsOk, List.all_cons, List.all_nil, List.replicate_succ, List.replicate_zero, List.getElem?_cons_zero, List.getElem?_cons_succ, CV.shape, Api_Body.shape, Bool.and_true, decide_true]; try rfl) rfl
theorem sl_app37 (p : Hp) (b s : Lst Api_Body) (h : b.l.length + s.l.length ≤ 1466015503701) : xappend C false p 37 37 (Lst.cv Api_Body.cv b) (Lst.cv Api_Body.cv s) = appT Api_Body.cv p b s := xappend_of C Api_Body.cv tt37 tt34 Api_Body.shOk p b s (by show _ * 96 ≤ _; omega) (by omega)
theorem sl_inj37 (b s : Lst Api_Body) : Lst.cv Api_Body.cv b = Lst.cv Api_Body.cv s ↔ b = s := ⟨fun h => Lst.inj Api_Body.injF h, fun h => by rw [h]⟩
theorem sl_lenl37 (tl : Tail) (l : List CV) (h : Heap) : qlen C h 37 (.lst tl l) = some (I l.length) := by simp only [qlen, tt37, ti37]
theorem sl_lens37 (i : Nat) (q : List Nat) (o n : Nat) (h : Heap) : qlen C h 37 (.slc i q o n) = some (I n) := by simp only [qlen, tt37, ti37]
theorem zsl37 : (∀ (tl : Tail) (l : List CV) (h : Heap), qlen C h 37 (.lst tl l) = some (I l.length)) ∧ (∀ (i : Nat) (q : List Nat) (o n : Nat) (h : Heap), qlen C h 37 (.slc i q o n) = some (I n)) ∧ (∀ (s : Lst Api_Body) (h : Heap), qlen C h 37 (Lst.cv Api_Body.cv s) = some (I s.l.length)) ∧ (∀ (s : Lst Api_Body) (p : Hp) (n : Int), 0 ≤ n ∧ n < s.l.length → xindexAddr C p 37 (Lst.cv Api_Body.cv s) (I n) = some (.rptr (Api_Body.cv (nth s.l n.toNat)))) ∧ (∀ (s : Lst Api_Body) (h : Heap), srcOf C h 37 (Lst.cv Api_Body.cv s) = some (s.l.map Api_Body.cv)) ∧ (∀ (p : Hp) (b s : Lst Api_Body), b.l.length + s.l.length ≤ 1466015503701 → xappend C false p 37 37 (Lst.cv Api_Body.cv b) (Lst.cv Api_Body.cv s) = appT Api_Body.cv p b s) ∧ (∀ (v : CV), xnil C .eql 37 v = (nilness v).map fun b => Bo b) ∧ (∀ (v : CV), xnil C .neq 37 v = (nilness v).map fun b => Bo (!b)) ∧ (qbuildSlice C 37 0 [] = some (Lst.cv Api_Body.cv ⟨.exact, [], nofun⟩)) ∧ (∀ (a0 : Api_Body), qbuildSlice C 37 1 [(0, Api_Body.cv a0)] = some (Lst.cv Api_Body.cv ⟨.exact, [a0], nofun⟩)) ∧ isSliceT C 37 = true := ⟨sl_lenl37, sl_lens37, sl_len37, sl_idx37, sl_src37, sl_app37, xnil_e C sl_isS37, xnil_ne C sl_isS37, sl_b37_0, sl_b37_1, sl_isS37⟩
end Go.Proofs.Ytpchcfkebljopaa
end
section
namespace Go.Proofs.Ytpchcfkebljopaa
open Go.Cl Go Go.RowKit
abbrev w64 (n : Int) : Int := IntKind.i64.wrap n
def brought (n lo hi : Int) : Int := max lo (min n hi)
def within (n lo hi : Int) : Bool := decide (lo ≤ n) && decide (n ≤ hi)
theorem within_spec {n lo hi : Int} (h : within n lo hi = true) : lo ≤ n ∧ n ≤ hi := by simpa [within] using h
abbrev Body := Api_Body
abbrev Mach := Rule_machine
def Body.right (b : Api_Body) : Bool :=
  if b.Kind = 0 then decide (b = Api_Body.zero) else
  b.Mem.all (fun n => within n (-1000000) 1000000) && (decide (b.Kind = 1) || decide (b.Kind = 2)) && within b.Owner 0 7 && within b.X 0 4095 && within b.Y 0 4095 && within b.VX (-64) 64 && within b.VY (-64) 64 && within b.Age 0 600 && within b.Faults 0 65535
def bodyShoot (b : Api_Body) (vx vy : Int) : Api_Body :=
  if Body.right b = true ∧ b.Kind ≠ 0 then { Api_Body.zero with Kind := 2, Owner := b.Owner, X := b.X, Y := b.Y, VX := brought vx (-64) 64, VY := brought vy (-64) 64 } else Api_Body.zero
def fault (c at_ : Int) : CV := .ifc 194 (Trap_thrown.cv ⟨⟨c, at_⟩⟩)
def Mach.body (m : Rule_machine) (f : Api_Body → Api_Body) : Rule_machine := { m with e_ := { m.e_ with Body := f m.e_.Body } }
def Mach.set (m : Rule_machine) (k : Nat) (n : Int) : Rule_machine := Mach.body m fun b => b.put_7k k (brought n (-1000000) 1000000)
def Mach.reg (m : Rule_machine) (k : Nat) : Int := nth m.e_.Body.Mem k
def needA (c : Int) : Bool := !(decide (c = 8) || decide (c = 10) || decide (c = 13))
def needB (c : Int) : Bool := !(decide (c = 1) || decide (c = 7) || decide (c = 9) || decide (c = 10) || decide (c = 13))
def namedOk (o : Api_Op) : Bool := (!needA o.Code || within o.A 0 3) && (!needB o.Code || within o.B 0 3)
theorem namedOk_A {o : Api_Op} (h : namedOk o = true) : o.Code = 8 ∨ o.Code = 10 ∨ o.Code = 13 ∨ (0 ≤ o.A ∧ o.A < 4) := by
  simp [namedOk, needA, within] at h; omega
theorem namedOk_B {o : Api_Op} (h : namedOk o = true) : o.Code = 1 ∨ o.Code = 7 ∨ o.Code = 9 ∨ o.Code = 10 ∨ o.Code = 13 ∨ (0 ≤ o.B ∧ o.B < 4) := by
  simp [namedOk, needB, within] at h; omega
def Mach.field (m : Rule_machine) (k : Nat) : Int := nth [m.e_.Body.X, m.e_.Body.Y, m.e_.Body.VX, m.e_.Body.VY, m.e_.Body.Age, m.e_.In.Buttons, m.e_.In.X, m.e_.In.Y] k
def Mach.put (m : Rule_machine) (k n : Int) : Rule_machine := Mach.body m fun b =>
  if k = 0 then { b with X := brought n 0 4095 } else if k = 1 then { b with Y := brought n 0 4095 } else if k = 2 then { b with VX := brought n (-64) 64 } else { b with VY := brought n (-64) 64 }
def diceNext (d : Int) : Int := IntKind.u64.wrap (IntKind.u64.wrap (d * 6364136223846793005) + 1442695040888963407)
def diceNum (d : Int) : Int := IntKind.i64.wrap (d.fdiv (2 ^ 33))
def diceRoll (d n : Int) : Int × Int := if n < 1 then (d, 0) else (diceNext d, (diceNum (diceNext d)).tmod n)
def Mach.reckon (m : Rule_machine) (o : Api_Op) : Except Int Rule_machine :=
  let a := Mach.reg m o.A.toNat
  let b := Mach.reg m o.B.toNat
  let k := o.A.toNat
  if o.Code = 2 then .ok (Mach.set m k b)
  else if o.Code = 3 then .ok (Mach.set m k (w64 (a + b)))
  else if o.Code = 4 then .ok (Mach.set m k (w64 (a - b)))
  else if o.Code = 5 then .ok (Mach.set m k (w64 (a * b)))
  else if o.Code = 6 then (if b = 0 then .error 1 else .ok (Mach.set m k (w64 (a.tdiv b))))
  else if o.Code = 11 then (if b < 1 then .error 6 else .ok (Mach.set { m with e_ := { m.e_ with Dice := (diceRoll m.e_.Dice b).1 } } k (diceRoll m.e_.Dice b).2))
  else (if (m.e_.Shots.l.length : Int) < m.e_.Room then .ok { m with e_ := { m.e_ with Shots := ⟨.part, m.e_.Shots.l ++ [bodyShoot m.e_.Body a b], nofun⟩ } } else .error 7)
theorem Mach.set_at (m : Rule_machine) (k : Nat) (n : Int) : (Mach.set m k n).at_ = m.at_ := nd rfl
theorem Mach.put_at (m : Rule_machine) (k n : Int) : (Mach.put m k n).at_ = m.at_ := nd rfl
theorem Mach.reckon_keeps {m m' : Rule_machine} {o : Api_Op} (h : Mach.reckon m o = .ok m') : (m'.e_.Shots.tl = m.e_.Shots.tl ∨ m'.e_.Shots.tl = .part) ∧ m'.l_ = m.l_ ∧ m'.at_ = m.at_ ∧ m'.e_.Shots.l.length ≤ m.e_.Shots.l.length + 1 := by
  unfold Mach.reckon at h
  simp only at h
  repeat' (split at h)
  all_goals first
    | (cases h; done)
    | (cases h; simp [Mach.set, Mach.body])
def Mach.doOp (m : Rule_machine) (o : Api_Op) : Except Int (Rule_machine × Int) :=
  if within o.Code 1 13 = false then .error 4
  else if namedOk o = false then .error 2
  else if o.Code = 1 then .ok (Mach.set m o.A.toNat o.B, m.at_ + 1)
  else if o.Code = 7 then (if within o.B 0 7 = false then .error 3 else .ok (Mach.set m o.A.toNat (Mach.field m o.B.toNat), m.at_ + 1))
  else if o.Code = 8 then (if within o.A 0 3 = false then .error 3 else .ok (Mach.put m o.A (Mach.reg m o.B.toNat), m.at_ + 1))
  else if o.Code = 9 then (if Mach.reg m o.A.toNat = 0 then (if within o.B 0 m.l_.l.length = false then .error 4 else .ok (m, o.B)) else .ok (m, m.at_ + 1))
  else if o.Code = 10 then (if within o.B 0 m.l_.l.length = false then .error 4 else .ok (m, o.B))
  else if o.Code = 13 then .ok (m, m.l_.l.length)
  else match Mach.reckon m o with
    | .error c => .error c
    | .ok m' => .ok (m', m.at_ + 1)
theorem Mach.doOp_keeps {m m' : Rule_machine} {o : Api_Op} {n : Int} (h : Mach.doOp m o = .ok (m', n)) (h1 : 0 ≤ m.at_) (h2 : m.at_ < m.l_.l.length) : (m'.e_.Shots.tl = m.e_.Shots.tl ∨ m'.e_.Shots.tl = .part) ∧ m'.l_ = m.l_ ∧ m'.at_ = m.at_ ∧ m'.e_.Shots.l.length ≤ m.e_.Shots.l.length + 1 ∧ 0 ≤ n ∧ n ≤ m.l_.l.length := by
  unfold Mach.doOp at h
  repeat' (split at h)
  all_goals first
    | (cases h; done)
    | (rename_i hr; cases h; have := Mach.reckon_keeps hr; exact ⟨this.1, this.2.1, this.2.2.1, this.2.2.2, by omega, by omega⟩)
    | (cases h; refine ⟨.inl ?_, ?_, ?_, ?_, ?_, ?_⟩ <;> first | rfl | omega | (simp [Mach.set, Mach.put, Mach.body]; done))
    | (rename_i hw; cases h; have hw := within_spec (by simpa using hw); exact ⟨.inl rfl, rfl, rfl, by omega, hw.1, hw.2⟩)
def Mach.run : Nat → Rule_machine → Except (Int × Int) Rule_machine
  | k, m => if m.at_ < m.l_.l.length then
      match k with
      | 0 => .error (5, m.at_)
      | k + 1 => match Mach.doOp m (nth m.l_.l m.at_.toNat) with
        | .error c => .error (c, m.at_)
        | .ok (m', n) => Mach.run k { m' with at_ := n }
    else .ok m
theorem Mach.run_keeps : ∀ (k : Nat) (m m' : Rule_machine), Mach.run k m = .ok m' → 0 ≤ m.at_ → (m'.e_.Shots.tl = m.e_.Shots.tl ∨ m'.e_.Shots.tl = .part) ∧ m'.l_ = m.l_
  | k, m, m', h, ha => by
    unfold Mach.run at h
    by_cases hlt : m.at_ < m.l_.l.length
    · rw [if_pos hlt] at h
      cases k with
      | zero => cases h
      | succ k =>
        simp only at h
        cases hd : Mach.doOp m (nth m.l_.l m.at_.toNat) with
        | error c => rw [hd] at h; cases h
        | ok r =>
          obtain ⟨m2, n⟩ := r
          rw [hd] at h
          simp only at h
          obtain ⟨k1, k2, _, _, k5, _⟩ := Mach.doOp_keeps hd ha hlt
          have ih := Mach.run_keeps k _ m' h k5
          refine ⟨?_, by rw [ih.2]; exact k2⟩
          rcases ih.1 with e | e
          · rw [e]; exact k1
          · exact .inr e
    · rw [if_neg hlt] at h; cases h; exact ⟨.inl rfl, rfl⟩
def cloneL {α : Type} (s : Lst α) (n : Nat) : Lst α :=
  match s.tl with
  | .nil => ⟨.nil, [], fun _ => rfl⟩
  | _ => match s.l with
    | [] => ⟨.exact, [], nofun⟩
    | x :: l => ⟨.own n, x :: l, nofun⟩
def cloneP {α : Type} (s : Lst α) : Lst α :=
  match s.tl with
  | .nil => ⟨.nil, [], fun _ => rfl⟩
  | _ => match s.l with
    | [] => ⟨.exact, [], nofun⟩
    | x :: l => ⟨.part, x :: l, nofun⟩
def cloneOwn {α : Type} (s : Lst α) : Bool :=
  match s.tl with
  | .nil => false
  | _ => !s.l.isEmpty
theorem appT_cl0 {α : Type} (f : α → CV) (p : Hp) (s : Lst α) (n : Nat) (u : Tail) (x : α) (m : List α) (o : _) (h : cloneOwn s = false) : appT f p (cloneL s n) ⟨u, x :: m, o⟩ = .ret (Lst.cv f ⟨.own p.n, s.l ++ x :: m, nofun⟩) (p.new (.tail (s.l.length + (m.length + 1)))) := by
  obtain ⟨tl, l, o'⟩ := s
  cases tl <;> cases l <;> simp_all [cloneL, cloneOwn, appT]
theorem appT_cl1 {α : Type} (f : α → CV) (p : Hp) (s : Lst α) (n : Nat) (u : Tail) (x : α) (m : List α) (o : _) (h : cloneOwn s = true) (hg : p.t.get n = some (.tail s.l.length)) : appT f p (cloneL s n) ⟨u, x :: m, o⟩ = .ret (Lst.cv f ⟨.own p.n, s.l ++ x :: m, nofun⟩) ((p.set n none).new (.tail (s.l.length + (m.length + 1)))) := by
  obtain ⟨tl, l, o'⟩ := s
  cases tl <;> cases l <;> simp_all [cloneL, cloneOwn, appT]
theorem cloneL_l {α : Type} (s : Lst α) (n : Nat) : (cloneL s n).l = s.l := by
  obtain ⟨tl, l, o⟩ := s
  cases tl <;> cases l <;> simp_all [cloneL]
theorem cloneP_l {α : Type} (s : Lst α) : (cloneP s).l = s.l := by
  obtain ⟨tl, l, o⟩ := s
  cases tl <;> cases l <;> simp_all [cloneP]
theorem cloneP_tl {α : Type} (s : Lst α) : (cloneP s).tl = .nil ∨ (cloneP s).tl = .exact ∨ (cloneP s).tl = .part := by
  obtain ⟨tl, l, o⟩ := s
  cases tl <;> cases l <;> simp_all [cloneP]
theorem cloneP_nv {α : Type} (s : Lst α) : (cloneP s).tl ≠ .view := by rcases cloneP_tl s with h | h | h <;> rw [h] <;> simp
theorem cloneP_no {α : Type} (s : Lst α) (j : Nat) : (cloneP s).tl ≠ .own j := by rcases cloneP_tl s with h | h | h <;> rw [h] <;> simp
theorem weak_clone {α : Type} {f : α → CV} (hf : ∀ x j, ¬ (f x).has j) (s : Lst α) (n k : Nat) : CV.weak (fun k => k) k (Lst.cv f (cloneL s n)) (Lst.cv f (cloneP s)) := by
  have hl : ∀ l : List α, CV.weakL (fun k => k) k (l.map f) (l.map f) := fun l => CV.weakL_refl _ fun j hj => (hasL_map hf l j hj).elim
  obtain ⟨tl, l, o⟩ := s
  cases tl <;> cases l <;> simp only [cloneL, cloneP, Lst.cv, CV.weak, Tail.weak, true_and] <;> exact hl _
def copiedE (e : Rule_Env) : Rule_Env := { e with Shots := cloneP e.Shots }
def ruleRun (l : Lst Api_Op) (e : Rule_Env) : Rule_Env × Trap_Fault × Bool :=
  if Body.right e.Body = false ∨ e.Body.Kind = 0 then (copiedE e, ⟨0, 0⟩, false)
  else match Mach.run 64 ⟨copiedE e, l, 0⟩ with
    | .ok m => (m.e_, ⟨0, 0⟩, true)
    | .error c => (copiedE e, ⟨c.1, c.2⟩, false)
end Go.Proofs.Ytpchcfkebljopaa
end
