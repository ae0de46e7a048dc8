import Derived.Test.YtpchcfkebljopaaXg
set_option linter.unusedSimpArgs false
set_option linter.unusedVariables false
set_option linter.constructorNameAsVariable false
section
namespace Go.Proofs.Ytpchcfkebljopaa
open Go.Cl
set_option linter.constructorNameAsVariable false
structure V0a where
  X : Int
  Y : Int
  VX : Int
  Buttons : Int
  StickX : Int
  Room : Int
  Mem : Lst Int
  Dice : Int
  Bend : Int
def V0a.cv (x : V0a) : CV := .agg [I x.X, I x.Y, I x.VX, I x.Buttons, I x.StickX, I x.Room, (Lst.cv I) x.Mem, U x.Dice, I x.Bend]
@[ext] theorem V0a.ext' {x y : V0a} (h_X : x.X = y.X) (h_Y : x.Y = y.Y) (h_VX : x.VX = y.VX) (h_Buttons : x.Buttons = y.Buttons) (h_StickX : x.StickX = y.StickX) (h_Room : x.Room = y.Room) (h_Mem : x.Mem = y.Mem) (h_Dice : x.Dice = y.Dice) (h_Bend : x.Bend = y.Bend) : x = y := by
  obtain ⟨a0, a1, a2, a3, a4, a5, a6, a7, a8⟩ := x
  obtain ⟨c0, c1, c2, c3, c4, c5, c6, c7, c8⟩ := y
  simp only at h_X h_Y h_VX h_Buttons h_StickX h_Room h_Mem h_Dice h_Bend
  subst h_X h_Y h_VX h_Buttons h_StickX h_Room h_Mem h_Dice h_Bend
  rfl
def V0a.zero : V0a := { X := 0, Y := 0, VX := 0, Buttons := 0, StickX := 0, Room := 0, Mem := ⟨.nil, [], fun _ => rfl⟩, Dice := 0, Bend := 0 }
instance : Inhabited V0a := ⟨V0a.zero⟩
theorem V0a.zcv : z27 = V0a.zero.cv := by
  simp only [z27, V0a.zero, V0a.cv, List.map_replicate, Lst.cv, List.map_nil]
theorem V0a.shape (x : V0a) : x.cv.shape = sh27 := by simp only [V0a.cv, sh27, CV.shape, CV.shapes, Lst.shape]
theorem V0a.has (x : V0a) (j : Nat) : x.cv.has j ↔ x.Mem.tl = .own j := by simp [V0a.cv, CV.has, CV.hasL, Lst.has _ I_has]
theorem V0a.inj {x y : V0a} (h : x.cv = y.cv) : x = y := by
  simp only [V0a.cv, CV.agg.injEq, List.cons.injEq, and_true] at h
  obtain ⟨h0, h1, h2, h3, h4, h5, h6, h7, h8⟩ := h
  refine V0a.ext' (I_inj _ _ h0) (I_inj _ _ h1) (I_inj _ _ h2) (I_inj _ _ h3) (I_inj _ _ h4) (I_inj _ _ h5) ((Lst.injF I_inj) _ _ h6) (U_inj _ _ h7) (I_inj _ _ h8)
theorem V0a.injF (x y : V0a) (h : x.cv = y.cv) : x = y := V0a.inj h
theorem V0a.inj_iff (x y : V0a) : x.cv = y.cv ↔ x = y := ⟨V0a.inj, fun h => by rw [h]⟩
theorem V0a.shOk (x : V0a) : Cl.shOk x.cv sh27 = true := Y0p (V0a.shape x) rfl
theorem V0a.at_0 (x : V0a) (q : List Nat) : x.cv.at (0 :: q) = (I x.X).at q := rfl
def V0a.upd_0 (x : V0a) (v : CV) : CV := .agg [v, I x.Y, I x.VX, I x.Buttons, I x.StickX, I x.Room, (Lst.cv I) x.Mem, U x.Dice, I x.Bend]
theorem V0a.set_0 (x : V0a) (q : List Nat) (v : CV) : x.cv.set (0 :: q) v = V0a.upd_0 x ((I x.X).set q v) := rfl
theorem V0a.fold_0 (x : V0a) (y : Int) : V0a.upd_0 x (I y) = ({ x with X := y } : V0a).cv := rfl
theorem V0a.fld_0 (x : V0a) : qfield C 27 x.cv 0 = some (I x.X) := Y0e C tt27 (V0a.shape x) rfl tt3 rfl rfl
theorem V0a.rfa_0 (x : V0a) (h : Heap) : qfieldAddr C h 27 (.rptr x.cv) 0 = some (.rptr (I x.X)) := by
  have hs := V0a.shape x
  unfold V0a.cv at hs ⊢
  simp only [qfieldAddr, tt27, ti27, tgt, hs, if_true, List.getElem?_cons_zero, List.getElem?_cons_succ]
theorem V0a.sub_0 (q : List Nat) (z : Shape) : subEq sh27 (0 :: q) z = subEq sh3 q z := rfl
theorem V0a.at_1 (x : V0a) (q : List Nat) : x.cv.at (1 :: q) = (I x.Y).at q := rfl
def V0a.upd_1 (x : V0a) (v : CV) : CV := .agg [I x.X, v, I x.VX, I x.Buttons, I x.StickX, I x.Room, (Lst.cv I) x.Mem, U x.Dice, I x.Bend]
theorem V0a.set_1 (x : V0a) (q : List Nat) (v : CV) : x.cv.set (1 :: q) v = V0a.upd_1 x ((I x.Y).set q v) := rfl
theorem V0a.fold_1 (x : V0a) (y : Int) : V0a.upd_1 x (I y) = ({ x with Y := y } : V0a).cv := rfl
theorem V0a.fld_1 (x : V0a) : qfield C 27 x.cv 1 = some (I x.Y) := Y0e C tt27 (V0a.shape x) rfl tt3 rfl rfl
theorem V0a.rfa_1 (x : V0a) (h : Heap) : qfieldAddr C h 27 (.rptr x.cv) 1 = some (.rptr (I x.Y)) := by
  have hs := V0a.shape x
  unfold V0a.cv at hs ⊢
  simp only [qfieldAddr, tt27, ti27, tgt, hs, if_true, List.getElem?_cons_zero, List.getElem?_cons_succ]
theorem V0a.sub_1 (q : List Nat) (z : Shape) : subEq sh27 (1 :: q) z = subEq sh3 q z := rfl
theorem V0a.at_2 (x : V0a) (q : List Nat) : x.cv.at (2 :: q) = (I x.VX).at q := rfl
def V0a.upd_2 (x : V0a) (v : CV) : CV := .agg [I x.X, I x.Y, v, I x.Buttons, I x.StickX, I x.Room, (Lst.cv I) x.Mem, U x.Dice, I x.Bend]
theorem V0a.set_2 (x : V0a) (q : List Nat) (v : CV) : x.cv.set (2 :: q) v = V0a.upd_2 x ((I x.VX).set q v) := rfl
theorem V0a.fold_2 (x : V0a) (y : Int) : V0a.upd_2 x (I y) = ({ x with VX := y } : V0a).cv := rfl
theorem V0a.fld_2 (x : V0a) : qfield C 27 x.cv 2 = some (I x.VX) := Y0e C tt27 (V0a.shape x) rfl tt3 rfl rfl
theorem V0a.rfa_2 (x : V0a) (h : Heap) : qfieldAddr C h 27 (.rptr x.cv) 2 = some (.rptr (I x.VX)) := by
  have hs := V0a.shape x
  unfold V0a.cv at hs ⊢
  simp only [qfieldAddr, tt27, ti27, tgt, hs, if_true, List.getElem?_cons_zero, List.getElem?_cons_succ]
theorem V0a.sub_2 (q : List Nat) (z : Shape) : subEq sh27 (2 :: q) z = subEq sh3 q z := rfl
theorem V0a.at_3 (x : V0a) (q : List Nat) : x.cv.at (3 :: q) = (I x.Buttons).at q := rfl
def V0a.upd_3 (x : V0a) (v : CV) : CV := .agg [I x.X, I x.Y, I x.VX, v, I x.StickX, I x.Room, (Lst.cv I) x.Mem, U x.Dice, I x.Bend]
theorem V0a.set_3 (x : V0a) (q : List Nat) (v : CV) : x.cv.set (3 :: q) v = V0a.upd_3 x ((I x.Buttons).set q v) := rfl
theorem V0a.fold_3 (x : V0a) (y : Int) : V0a.upd_3 x (I y) = ({ x with Buttons := y } : V0a).cv := rfl
theorem V0a.fld_3 (x : V0a) : qfield C 27 x.cv 3 = some (I x.Buttons) := Y0e C tt27 (V0a.shape x) rfl tt3 rfl rfl
theorem V0a.rfa_3 (x : V0a) (h : Heap) : qfieldAddr C h 27 (.rptr x.cv) 3 = some (.rptr (I x.Buttons)) := by
  have hs := V0a.shape x
  unfold V0a.cv at hs ⊢
  simp only [qfieldAddr, tt27, ti27, tgt, hs, if_true, List.getElem?_cons_zero, List.getElem?_cons_succ]
theorem V0a.sub_3 (q : List Nat) (z : Shape) : subEq sh27 (3 :: q) z = subEq sh3 q z := rfl
theorem V0a.at_4 (x : V0a) (q : List Nat) : x.cv.at (4 :: q) = (I x.StickX).at q := rfl
def V0a.upd_4 (x : V0a) (v : CV) : CV := .agg [I x.X, I x.Y, I x.VX, I x.Buttons, v, I x.Room, (Lst.cv I) x.Mem, U x.Dice, I x.Bend]
theorem V0a.set_4 (x : V0a) (q : List Nat) (v : CV) : x.cv.set (4 :: q) v = V0a.upd_4 x ((I x.StickX).set q v) := rfl
theorem V0a.fold_4 (x : V0a) (y : Int) : V0a.upd_4 x (I y) = ({ x with StickX := y } : V0a).cv := rfl
theorem V0a.fld_4 (x : V0a) : qfield C 27 x.cv 4 = some (I x.StickX) := Y0e C tt27 (V0a.shape x) rfl tt3 rfl rfl
theorem V0a.rfa_4 (x : V0a) (h : Heap) : qfieldAddr C h 27 (.rptr x.cv) 4 = some (.rptr (I x.StickX)) := by
  have hs := V0a.shape x
  unfold V0a.cv at hs ⊢
  simp only [qfieldAddr, tt27, ti27, tgt, hs, if_true, List.getElem?_cons_zero, List.getElem?_cons_succ]
theorem V0a.sub_4 (q : List Nat) (z : Shape) : subEq sh27 (4 :: q) z = subEq sh3 q z := rfl
theorem V0a.at_5 (x : V0a) (q : List Nat) : x.cv.at (5 :: q) = (I x.Room).at q := rfl
def V0a.upd_5 (x : V0a) (v : CV) : CV := .agg [I x.X, I x.Y, I x.VX, I x.Buttons, I x.StickX, v, (Lst.cv I) x.Mem, U x.Dice, I x.Bend]
theorem V0a.set_5 (x : V0a) (q : List Nat) (v : CV) : x.cv.set (5 :: q) v = V0a.upd_5 x ((I x.Room).set q v) := rfl
theorem V0a.fold_5 (x : V0a) (y : Int) : V0a.upd_5 x (I y) = ({ x with Room := y } : V0a).cv := rfl
theorem V0a.fld_5 (x : V0a) : qfield C 27 x.cv 5 = some (I x.Room) := Y0e C tt27 (V0a.shape x) rfl tt3 rfl rfl
theorem V0a.rfa_5 (x : V0a) (h : Heap) : qfieldAddr C h 27 (.rptr x.cv) 5 = some (.rptr (I x.Room)) := by
  have hs := V0a.shape x
  unfold V0a.cv at hs ⊢
  simp only [qfieldAddr, tt27, ti27, tgt, hs, if_true, List.getElem?_cons_zero, List.getElem?_cons_succ]
theorem V0a.sub_5 (q : List Nat) (z : Shape) : subEq sh27 (5 :: q) z = subEq sh3 q z := rfl
theorem V0a.at_6 (x : V0a) (q : List Nat) : x.cv.at (6 :: q) = ((Lst.cv I) x.Mem).at q := rfl
def V0a.upd_6 (x : V0a) (v : CV) : CV := .agg [I x.X, I x.Y, I x.VX, I x.Buttons, I x.StickX, I x.Room, v, U x.Dice, I x.Bend]
theorem V0a.set_6 (x : V0a) (q : List Nat) (v : CV) : x.cv.set (6 :: q) v = V0a.upd_6 x (((Lst.cv I) x.Mem).set q v) := rfl
theorem V0a.fold_6 (x : V0a) (y : Lst Int) : V0a.upd_6 x ((Lst.cv I) y) = ({ x with Mem := y } : V0a).cv := rfl
theorem V0a.fld_6 (x : V0a) : qfield C 27 x.cv 6 = some ((Lst.cv I) x.Mem) := Y0e C tt27 (V0a.shape x) rfl tt24 rfl rfl
theorem V0a.rfa_6 (x : V0a) (h : Heap) : qfieldAddr C h 27 (.rptr x.cv) 6 = some (.rptr ((Lst.cv I) x.Mem)) := by
  have hs := V0a.shape x
  unfold V0a.cv at hs ⊢
  simp only [qfieldAddr, tt27, ti27, tgt, hs, if_true, List.getElem?_cons_zero, List.getElem?_cons_succ]
theorem V0a.sub_6 (q : List Nat) (z : Shape) : subEq sh27 (6 :: q) z = subEq sh24 q z := rfl
theorem V0a.at_7 (x : V0a) (q : List Nat) : x.cv.at (7 :: q) = (U x.Dice).at q := rfl
def V0a.upd_7 (x : V0a) (v : CV) : CV := .agg [I x.X, I x.Y, I x.VX, I x.Buttons, I x.StickX, I x.Room, (Lst.cv I) x.Mem, v, I x.Bend]
theorem V0a.set_7 (x : V0a) (q : List Nat) (v : CV) : x.cv.set (7 :: q) v = V0a.upd_7 x ((U x.Dice).set q v) := rfl
theorem V0a.fold_7 (x : V0a) (y : Int) : V0a.upd_7 x (U y) = ({ x with Dice := y } : V0a).cv := rfl
theorem V0a.fld_7 (x : V0a) : qfield C 27 x.cv 7 = some (U x.Dice) := Y0e C tt27 (V0a.shape x) rfl tt25 rfl rfl
theorem V0a.rfa_7 (x : V0a) (h : Heap) : qfieldAddr C h 27 (.rptr x.cv) 7 = some (.rptr (U x.Dice)) := by
  have hs := V0a.shape x
  unfold V0a.cv at hs ⊢
  simp only [qfieldAddr, tt27, ti27, tgt, hs, if_true, List.getElem?_cons_zero, List.getElem?_cons_succ]
theorem V0a.sub_7 (q : List Nat) (z : Shape) : subEq sh27 (7 :: q) z = subEq sh25 q z := rfl
theorem V0a.at_8 (x : V0a) (q : List Nat) : x.cv.at (8 :: q) = (I x.Bend).at q := rfl
def V0a.upd_8 (x : V0a) (v : CV) : CV := .agg [I x.X, I x.Y, I x.VX, I x.Buttons, I x.StickX, I x.Room, (Lst.cv I) x.Mem, U x.Dice, v]
theorem V0a.set_8 (x : V0a) (q : List Nat) (v : CV) : x.cv.set (8 :: q) v = V0a.upd_8 x ((I x.Bend).set q v) := rfl
theorem V0a.fold_8 (x : V0a) (y : Int) : V0a.upd_8 x (I y) = ({ x with Bend := y } : V0a).cv := rfl
theorem V0a.fld_8 (x : V0a) : qfield C 27 x.cv 8 = some (I x.Bend) := Y0e C tt27 (V0a.shape x) rfl tt3 rfl rfl
theorem V0a.rfa_8 (x : V0a) (h : Heap) : qfieldAddr C h 27 (.rptr x.cv) 8 = some (.rptr (I x.Bend)) := by
  have hs := V0a.shape x
  unfold V0a.cv at hs ⊢
  simp only [qfieldAddr, tt27, ti27, tgt, hs, if_true, List.getElem?_cons_zero, List.getElem?_cons_succ]
theorem V0a.sub_8 (q : List Nat) (z : Shape) : subEq sh27 (8 :: q) z = subEq sh3 q z := rfl
theorem V0a.sub_nil : subEq sh27 [] sh27 = true := by simp [subEq, Shape.sub]
theorem V0a.alloc : allocObj C (.alloc 27) = some (.var sh27 V0a.zero.cv) := by simp only [allocObj, tt27, ti27, V0a.zcv]
theorem V0a.xalloc (p : Hp) : xalloc C p 27 = .ret (.ptr p.n []) (p.new (.var sh27 V0a.zero.cv)) := by simp only [Cl.xalloc, tt27, ti27, V0a.zcv]
theorem V0a.xbox (p : Hp) (x : V0a) : xbox C p 27 x.cv = .ret (.ptr p.n []) (p.new (.var sh27 x.cv)) := by
  have h : Cl.shOk x.cv ti27.sh = true := V0a.shOk x
  simp only [Cl.xbox, tt27, h, cond_true]; rfl
structure X0c where
  Code : Int
  A : Int
  B : Int
def X0c.cv (x : X0c) : CV := .agg [I x.Code, I x.A, I x.B]
@[ext] theorem X0c.ext' {x y : X0c} (h_Code : x.Code = y.Code) (h_A : x.A = y.A) (h_B : x.B = y.B) : x = y := by
  obtain ⟨a0, a1, a2⟩ := x
  obtain ⟨c0, c1, c2⟩ := y
  simp only at h_Code h_A h_B
  subst h_Code h_A h_B
  rfl
def X0c.zero : X0c := { Code := 0, A := 0, B := 0 }
instance : Inhabited X0c := ⟨X0c.zero⟩
theorem X0c.zcv : z29 = X0c.zero.cv := by
  simp only [z29, X0c.zero, X0c.cv, List.map_replicate, Lst.cv, List.map_nil]
theorem X0c.shape (x : X0c) : x.cv.shape = sh29 := by simp only [X0c.cv, sh29, CV.shape, CV.shapes, Lst.shape]
theorem X0c.nohas (x : X0c) (j : Nat) : ¬ x.cv.has j := by simp [X0c.cv, CV.has, CV.hasL]
instance : DecidableEq X0c := fun x y => decidable_of_iff (x.Code = y.Code ∧ x.A = y.A ∧ x.B = y.B) ⟨fun h => X0c.ext' h.1 h.2.1 h.2.2, fun h => by subst h; simp⟩
theorem X0c.inj {x y : X0c} (h : x.cv = y.cv) : x = y := by
  simp only [X0c.cv, CV.agg.injEq, List.cons.injEq, and_true] at h
  obtain ⟨h0, h1, h2⟩ := h
  refine X0c.ext' (I_inj _ _ h0) (I_inj _ _ h1) (I_inj _ _ h2)
theorem X0c.injF (x y : X0c) (h : x.cv = y.cv) : x = y := X0c.inj h
theorem X0c.inj_iff (x y : X0c) : x.cv = y.cv ↔ x = y := ⟨X0c.inj, fun h => by rw [h]⟩
theorem X0c.shOk (x : X0c) : Cl.shOk x.cv sh29 = true := Y0p (X0c.shape x) rfl
theorem X0c.eq (d : Nat) (x y : X0c) : eqCV C (d + 2) 29 x.cv y.cv = some (decide (x = y)) := by
  refine (Z0v C (d := d + 1) tt29 (X0c.shape x) (X0c.shape y) (V0g (Y0h C tt3 (d + 0) _ _) (V0g (Y0h C tt3 (d + 0) _ _) (V0g (Y0h C tt3 (d + 0) _ _) rfl)))).trans (congrArg some ?_)
  rw [Bool.eq_iff_iff]
  simp only [Bool.and_eq_true, decide_eq_true_eq, and_true]
  exact ⟨fun h => X0c.ext' h.1 h.2.1 h.2.2, fun h => by subst h; simp⟩
theorem X0c.eql (x y : X0c) (b : Bool) : qbin C .eql 29 b x.cv y.cv = some (Bo (decide (x = y))) := by
  have h := X0c.eq 10 x y
  unfold X0c.cv at h ⊢
  simp only [qbin]
  rw [h]; rfl
theorem X0c.neq (x y : X0c) (b : Bool) : qbin C .neq 29 b x.cv y.cv = some (Bo (!decide (x = y))) := by
  have h := X0c.eq 10 x y
  unfold X0c.cv at h ⊢
  simp only [qbin]
  rw [h]; rfl
theorem X0c.at_0 (x : X0c) (q : List Nat) : x.cv.at (0 :: q) = (I x.Code).at q := rfl
def X0c.upd_0 (x : X0c) (v : CV) : CV := .agg [v, I x.A, I x.B]
theorem X0c.set_0 (x : X0c) (q : List Nat) (v : CV) : x.cv.set (0 :: q) v = X0c.upd_0 x ((I x.Code).set q v) := rfl
theorem X0c.fold_0 (x : X0c) (y : Int) : X0c.upd_0 x (I y) = ({ x with Code := y } : X0c).cv := rfl
theorem X0c.fld_0 (x : X0c) : qfield C 29 x.cv 0 = some (I x.Code) := Y0e C tt29 (X0c.shape x) rfl tt3 rfl rfl
theorem X0c.rfa_0 (x : X0c) (h : Heap) : qfieldAddr C h 29 (.rptr x.cv) 0 = some (.rptr (I x.Code)) := by
  have hs := X0c.shape x
  unfold X0c.cv at hs ⊢
  simp only [qfieldAddr, tt29, ti29, tgt, hs, if_true, List.getElem?_cons_zero, List.getElem?_cons_succ]
theorem X0c.sub_0 (q : List Nat) (z : Shape) : subEq sh29 (0 :: q) z = subEq sh3 q z := rfl
theorem X0c.at_1 (x : X0c) (q : List Nat) : x.cv.at (1 :: q) = (I x.A).at q := rfl
def X0c.upd_1 (x : X0c) (v : CV) : CV := .agg [I x.Code, v, I x.B]
theorem X0c.set_1 (x : X0c) (q : List Nat) (v : CV) : x.cv.set (1 :: q) v = X0c.upd_1 x ((I x.A).set q v) := rfl
theorem X0c.fold_1 (x : X0c) (y : Int) : X0c.upd_1 x (I y) = ({ x with A := y } : X0c).cv := rfl
theorem X0c.fld_1 (x : X0c) : qfield C 29 x.cv 1 = some (I x.A) := Y0e C tt29 (X0c.shape x) rfl tt3 rfl rfl
theorem X0c.rfa_1 (x : X0c) (h : Heap) : qfieldAddr C h 29 (.rptr x.cv) 1 = some (.rptr (I x.A)) := by
  have hs := X0c.shape x
  unfold X0c.cv at hs ⊢
  simp only [qfieldAddr, tt29, ti29, tgt, hs, if_true, List.getElem?_cons_zero, List.getElem?_cons_succ]
theorem X0c.sub_1 (q : List Nat) (z : Shape) : subEq sh29 (1 :: q) z = subEq sh3 q z := rfl
theorem X0c.at_2 (x : X0c) (q : List Nat) : x.cv.at (2 :: q) = (I x.B).at q := rfl
def X0c.upd_2 (x : X0c) (v : CV) : CV := .agg [I x.Code, I x.A, v]
theorem X0c.set_2 (x : X0c) (q : List Nat) (v : CV) : x.cv.set (2 :: q) v = X0c.upd_2 x ((I x.B).set q v) := rfl
theorem X0c.fold_2 (x : X0c) (y : Int) : X0c.upd_2 x (I y) = ({ x with B := y } : X0c).cv := rfl
theorem X0c.fld_2 (x : X0c) : qfield C 29 x.cv 2 = some (I x.B) := Y0e C tt29 (X0c.shape x) rfl tt3 rfl rfl
theorem X0c.rfa_2 (x : X0c) (h : Heap) : qfieldAddr C h 29 (.rptr x.cv) 2 = some (.rptr (I x.B)) := by
  have hs := X0c.shape x
  unfold X0c.cv at hs ⊢
  simp only [qfieldAddr, tt29, ti29, tgt, hs, if_true, List.getElem?_cons_zero, List.getElem?_cons_succ]
theorem X0c.sub_2 (q : List Nat) (z : Shape) : subEq sh29 (2 :: q) z = subEq sh3 q z := rfl
theorem X0c.sub_nil : subEq sh29 [] sh29 = true := by simp [subEq, Shape.sub]
theorem X0c.alloc : allocObj C (.alloc 29) = some (.var sh29 X0c.zero.cv) := by simp only [allocObj, tt29, ti29, X0c.zcv]
theorem X0c.xalloc (p : Hp) : xalloc C p 29 = .ret (.ptr p.n []) (p.new (.var sh29 X0c.zero.cv)) := by simp only [Cl.xalloc, tt29, ti29, X0c.zcv]
theorem X0c.xbox (p : Hp) (x : X0c) : xbox C p 29 x.cv = .ret (.ptr p.n []) (p.new (.var sh29 x.cv)) := by
  have h : Cl.shOk x.cv ti29.sh = true := X0c.shOk x
  simp only [Cl.xbox, tt29, h, cond_true]; rfl
theorem X0c.bld_0 (a0 : Int) : qbuild C 29 [(0, I a0)] = some (({ Code := a0, A := 0, B := 0 } : X0c).cv) := Q0g C tt29 (by simp only [partsOk, setAll, CV.shape, sh29, List.all_cons, List.all_nil, List.getElem?_cons_zero, List.getElem?_cons_succ, Bool.and_true, decide_true]) rfl
theorem X0c.bld_0_1 (a0 : Int) (a1 : Int) : qbuild C 29 [(0, I a0), (1, I a1)] = some (({ Code := a0, A := a1, B := 0 } : X0c).cv) := Q0g C tt29 (by simp only [partsOk, setAll, CV.shape, sh29, List.all_cons, List.all_nil, List.getElem?_cons_zero, List.getElem?_cons_succ, Bool.and_true, decide_true]) rfl
theorem X0c.bld_0_1_2 (a0 : Int) (a1 : Int) (a2 : Int) : qbuild C 29 [(0, I a0), (1, I a1), (2, I a2)] = some (({ Code := a0, A := a1, B := a2 } : X0c).cv) := Q0g C tt29 (by simp only [partsOk, setAll, CV.shape, sh29, List.all_cons, List.all_nil, List.getElem?_cons_zero, List.getElem?_cons_succ, Bool.and_true, decide_true]) rfl
structure Q0c where
  Code : Int
  A : Int
  B : Int
def Q0c.cv (x : Q0c) : CV := .agg [I x.Code, I x.A, I x.B]
@[ext] theorem Q0c.ext' {x y : Q0c} (h_Code : x.Code = y.Code) (h_A : x.A = y.A) (h_B : x.B = y.B) : x = y := by
  obtain ⟨a0, a1, a2⟩ := x
  obtain ⟨c0, c1, c2⟩ := y
  simp only at h_Code h_A h_B
  subst h_Code h_A h_B
  rfl
def Q0c.zero : Q0c := { Code := 0, A := 0, B := 0 }
instance : Inhabited Q0c := ⟨Q0c.zero⟩
theorem Q0c.zcv : z31 = Q0c.zero.cv := by
  simp only [z31, Q0c.zero, Q0c.cv, List.map_replicate, Lst.cv, List.map_nil]
theorem Q0c.shape (x : Q0c) : x.cv.shape = sh31 := by simp only [Q0c.cv, sh31, CV.shape, CV.shapes, Lst.shape]
theorem Q0c.nohas (x : Q0c) (j : Nat) : ¬ x.cv.has j := by simp [Q0c.cv, CV.has, CV.hasL]
instance : DecidableEq Q0c := fun x y => decidable_of_iff (x.Code = y.Code ∧ x.A = y.A ∧ x.B = y.B) ⟨fun h => Q0c.ext' h.1 h.2.1 h.2.2, fun h => by subst h; simp⟩
theorem Q0c.inj {x y : Q0c} (h : x.cv = y.cv) : x = y := by
  simp only [Q0c.cv, CV.agg.injEq, List.cons.injEq, and_true] at h
  obtain ⟨h0, h1, h2⟩ := h
  refine Q0c.ext' (I_inj _ _ h0) (I_inj _ _ h1) (I_inj _ _ h2)
theorem Q0c.injF (x y : Q0c) (h : x.cv = y.cv) : x = y := Q0c.inj h
theorem Q0c.inj_iff (x y : Q0c) : x.cv = y.cv ↔ x = y := ⟨Q0c.inj, fun h => by rw [h]⟩
theorem Q0c.shOk (x : Q0c) : Cl.shOk x.cv sh31 = true := Y0p (Q0c.shape x) rfl
theorem Q0c.eq (d : Nat) (x y : Q0c) : eqCV C (d + 2) 31 x.cv y.cv = some (decide (x = y)) := by
  refine (Z0v C (d := d + 1) tt31 (Q0c.shape x) (Q0c.shape y) (V0g (Y0h C tt3 (d + 0) _ _) (V0g (Y0h C tt3 (d + 0) _ _) (V0g (Y0h C tt3 (d + 0) _ _) rfl)))).trans (congrArg some ?_)
  rw [Bool.eq_iff_iff]
  simp only [Bool.and_eq_true, decide_eq_true_eq, and_true]
  exact ⟨fun h => Q0c.ext' h.1 h.2.1 h.2.2, fun h => by subst h; simp⟩
theorem Q0c.eql (x y : Q0c) (b : Bool) : qbin C .eql 31 b x.cv y.cv = some (Bo (decide (x = y))) := by
  have h := Q0c.eq 10 x y
  unfold Q0c.cv at h ⊢
  simp only [qbin]
  rw [h]; rfl
theorem Q0c.neq (x y : Q0c) (b : Bool) : qbin C .neq 31 b x.cv y.cv = some (Bo (!decide (x = y))) := by
  have h := Q0c.eq 10 x y
  unfold Q0c.cv at h ⊢
  simp only [qbin]
  rw [h]; rfl
theorem Q0c.at_0 (x : Q0c) (q : List Nat) : x.cv.at (0 :: q) = (I x.Code).at q := rfl
def Q0c.upd_0 (x : Q0c) (v : CV) : CV := .agg [v, I x.A, I x.B]
theorem Q0c.set_0 (x : Q0c) (q : List Nat) (v : CV) : x.cv.set (0 :: q) v = Q0c.upd_0 x ((I x.Code).set q v) := rfl
theorem Q0c.fold_0 (x : Q0c) (y : Int) : Q0c.upd_0 x (I y) = ({ x with Code := y } : Q0c).cv := rfl
theorem Q0c.fld_0 (x : Q0c) : qfield C 31 x.cv 0 = some (I x.Code) := Y0e C tt31 (Q0c.shape x) rfl tt3 rfl rfl
theorem Q0c.rfa_0 (x : Q0c) (h : Heap) : qfieldAddr C h 31 (.rptr x.cv) 0 = some (.rptr (I x.Code)) := by
  have hs := Q0c.shape x
  unfold Q0c.cv at hs ⊢
  simp only [qfieldAddr, tt31, ti31, tgt, hs, if_true, List.getElem?_cons_zero, List.getElem?_cons_succ]
theorem Q0c.sub_0 (q : List Nat) (z : Shape) : subEq sh31 (0 :: q) z = subEq sh3 q z := rfl
theorem Q0c.at_1 (x : Q0c) (q : List Nat) : x.cv.at (1 :: q) = (I x.A).at q := rfl
def Q0c.upd_1 (x : Q0c) (v : CV) : CV := .agg [I x.Code, v, I x.B]
theorem Q0c.set_1 (x : Q0c) (q : List Nat) (v : CV) : x.cv.set (1 :: q) v = Q0c.upd_1 x ((I x.A).set q v) := rfl
theorem Q0c.fold_1 (x : Q0c) (y : Int) : Q0c.upd_1 x (I y) = ({ x with A := y } : Q0c).cv := rfl
theorem Q0c.fld_1 (x : Q0c) : qfield C 31 x.cv 1 = some (I x.A) := Y0e C tt31 (Q0c.shape x) rfl tt3 rfl rfl
theorem Q0c.rfa_1 (x : Q0c) (h : Heap) : qfieldAddr C h 31 (.rptr x.cv) 1 = some (.rptr (I x.A)) := by
  have hs := Q0c.shape x
  unfold Q0c.cv at hs ⊢
  simp only [qfieldAddr, tt31, ti31, tgt, hs, if_true, List.getElem?_cons_zero, List.getElem?_cons_succ]
theorem Q0c.sub_1 (q : List Nat) (z : Shape) : subEq sh31 (1 :: q) z = subEq sh3 q z := rfl
theorem Q0c.at_2 (x : Q0c) (q : List Nat) : x.cv.at (2 :: q) = (I x.B).at q := rfl
def Q0c.upd_2 (x : Q0c) (v : CV) : CV := .agg [I x.Code, I x.A, v]
theorem Q0c.set_2 (x : Q0c) (q : List Nat) (v : CV) : x.cv.set (2 :: q) v = Q0c.upd_2 x ((I x.B).set q v) := rfl
theorem Q0c.fold_2 (x : Q0c) (y : Int) : Q0c.upd_2 x (I y) = ({ x with B := y } : Q0c).cv := rfl
theorem Q0c.fld_2 (x : Q0c) : qfield C 31 x.cv 2 = some (I x.B) := Y0e C tt31 (Q0c.shape x) rfl tt3 rfl rfl
theorem Q0c.rfa_2 (x : Q0c) (h : Heap) : qfieldAddr C h 31 (.rptr x.cv) 2 = some (.rptr (I x.B)) := by
  have hs := Q0c.shape x
  unfold Q0c.cv at hs ⊢
  simp only [qfieldAddr, tt31, ti31, tgt, hs, if_true, List.getElem?_cons_zero, List.getElem?_cons_succ]
theorem Q0c.sub_2 (q : List Nat) (z : Shape) : subEq sh31 (2 :: q) z = subEq sh3 q z := rfl
theorem Q0c.sub_nil : subEq sh31 [] sh31 = true := by simp [subEq, Shape.sub]
theorem Q0c.alloc : allocObj C (.alloc 31) = some (.var sh31 Q0c.zero.cv) := by simp only [allocObj, tt31, ti31, Q0c.zcv]
theorem Q0c.xalloc (p : Hp) : xalloc C p 31 = .ret (.ptr p.n []) (p.new (.var sh31 Q0c.zero.cv)) := by simp only [Cl.xalloc, tt31, ti31, Q0c.zcv]
theorem Q0c.xbox (p : Hp) (x : Q0c) : xbox C p 31 x.cv = .ret (.ptr p.n []) (p.new (.var sh31 x.cv)) := by
  have h : Cl.shOk x.cv ti31.sh = true := Q0c.shOk x
  simp only [Cl.xbox, tt31, h, cond_true]; rfl
structure Q0a where
  Kind : Int
  Owner : Int
  X : Int
  Y : Int
  VX : Int
  VY : Int
  Age : Int
  Mem : List Int
  hMem : Mem.length = 4
  Faults : Int
def Q0a.cv (x : Q0a) : CV := .agg [I x.Kind, I x.Owner, I x.X, I x.Y, I x.VX, I x.VY, I x.Age, .agg (x.Mem.map I), I x.Faults]
@[ext] theorem Q0a.ext' {x y : Q0a} (h_Kind : x.Kind = y.Kind) (h_Owner : x.Owner = y.Owner) (h_X : x.X = y.X) (h_Y : x.Y = y.Y) (h_VX : x.VX = y.VX) (h_VY : x.VY = y.VY) (h_Age : x.Age = y.Age) (h_Mem : x.Mem = y.Mem) (h_Faults : x.Faults = y.Faults) : x = y := by
  obtain ⟨a0, a1, a2, a3, a4, a5, a6, a7, ha, a8⟩ := x
  obtain ⟨c0, c1, c2, c3, c4, c5, c6, c7, hc, c8⟩ := y
  simp only at h_Kind h_Owner h_X h_Y h_VX h_VY h_Age h_Mem h_Faults
  subst h_Kind h_Owner h_X h_Y h_VX h_VY h_Age h_Mem h_Faults
  rfl
def Q0a.zero : Q0a := { Kind := 0, Owner := 0, X := 0, Y := 0, VX := 0, VY := 0, Age := 0, Mem := (List.replicate 4 0), hMem := List.length_replicate, Faults := 0 }
instance : Inhabited Q0a := ⟨Q0a.zero⟩
theorem Q0a.zcv : z34 = Q0a.zero.cv := by
  simp only [z34, Q0a.zero, Q0a.cv, z32, List.map_replicate, Lst.cv, List.map_nil]
theorem Q0a.shape (x : Q0a) : x.cv.shape = sh34 := by simp only [Q0a.cv, sh34, CV.shape, CV.shapes, Lst.shape, V0k (f := I) (s := Shape.s) (fun _ => rfl), x.hMem, sh32]
theorem Q0a.nohas (x : Q0a) (j : Nat) : ¬ x.cv.has j := by simp [Q0a.cv, CV.has, CV.hasL, V0p I_has]
instance : DecidableEq Q0a := fun x y => decidable_of_iff (x.Kind = y.Kind ∧ x.Owner = y.Owner ∧ x.X = y.X ∧ x.Y = y.Y ∧ x.VX = y.VX ∧ x.VY = y.VY ∧ x.Age = y.Age ∧ x.Mem = y.Mem ∧ x.Faults = y.Faults) ⟨fun h => Q0a.ext' h.1 h.2.1 h.2.2.1 h.2.2.2.1 h.2.2.2.2.1 h.2.2.2.2.2.1 h.2.2.2.2.2.2.1 h.2.2.2.2.2.2.2.1 h.2.2.2.2.2.2.2.2, fun h => by subst h; simp⟩
theorem Q0a.inj {x y : Q0a} (h : x.cv = y.cv) : x = y := by
  simp only [Q0a.cv, CV.agg.injEq, List.cons.injEq, and_true] at h
  obtain ⟨h0, h1, h2, h3, h4, h5, h6, h7, h8⟩ := h
  refine Q0a.ext' (I_inj _ _ h0) (I_inj _ _ h1) (I_inj _ _ h2) (I_inj _ _ h3) (I_inj _ _ h4) (I_inj _ _ h5) (I_inj _ _ h6) (Y08 I_inj h7) (I_inj _ _ h8)
theorem Q0a.injF (x y : Q0a) (h : x.cv = y.cv) : x = y := Q0a.inj h
theorem Q0a.inj_iff (x y : Q0a) : x.cv = y.cv ↔ x = y := ⟨Q0a.inj, fun h => by rw [h]⟩
theorem Q0a.shOk (x : Q0a) : Cl.shOk x.cv sh34 = true := Y0p (Q0a.shape x) rfl
theorem Q0a.eq (d : Nat) (x y : Q0a) : eqCV C (d + 3) 34 x.cv y.cv = some (decide (x = y)) := by
  refine (Z0v C (d := d + 2) tt34 (Q0a.shape x) (Q0a.shape y) (V0g (Y0h C tt3 (d + 1) _ _) (V0g (Y0h C tt3 (d + 1) _ _) (V0g (Y0h C tt3 (d + 1) _ _) (V0g (Y0h C tt3 (d + 1) _ _) (V0g (Y0h C tt3 (d + 1) _ _) (V0g (Y0h C tt3 (d + 1) _ _) (V0g (Y0h C tt3 (d + 1) _ _) (V0g (eqCV_ar C (g := I) (d := d + 1) tt32 rfl (fun _ => rfl) x.hMem y.hMem (Y0h C tt3 (d + 0))) (V0g (Y0h C tt3 (d + 1) _ _) rfl)))))))))).trans (congrArg some ?_)
  rw [Bool.eq_iff_iff]
  simp only [Bool.and_eq_true, decide_eq_true_eq, and_true]
  exact ⟨fun h => Q0a.ext' h.1 h.2.1 h.2.2.1 h.2.2.2.1 h.2.2.2.2.1 h.2.2.2.2.2.1 h.2.2.2.2.2.2.1 h.2.2.2.2.2.2.2.1 h.2.2.2.2.2.2.2.2, fun h => by subst h; simp⟩
theorem Q0a.eql (x y : Q0a) (b : Bool) : qbin C .eql 34 b x.cv y.cv = some (Bo (decide (x = y))) := by
  have h := Q0a.eq 9 x y
  unfold Q0a.cv at h ⊢
  simp only [qbin]
  rw [h]; rfl
theorem Q0a.neq (x y : Q0a) (b : Bool) : qbin C .neq 34 b x.cv y.cv = some (Bo (!decide (x = y))) := by
  have h := Q0a.eq 9 x y
  unfold Q0a.cv at h ⊢
  simp only [qbin]
  rw [h]; rfl
theorem Q0a.at_0 (x : Q0a) (q : List Nat) : x.cv.at (0 :: q) = (I x.Kind).at q := rfl
def Q0a.upd_0 (x : Q0a) (v : CV) : CV := .agg [v, I x.Owner, I x.X, I x.Y, I x.VX, I x.VY, I x.Age, .agg (x.Mem.map I), I x.Faults]
theorem Q0a.set_0 (x : Q0a) (q : List Nat) (v : CV) : x.cv.set (0 :: q) v = Q0a.upd_0 x ((I x.Kind).set q v) := rfl
theorem Q0a.fold_0 (x : Q0a) (y : Int) : Q0a.upd_0 x (I y) = ({ x with Kind := y } : Q0a).cv := rfl
theorem Q0a.fld_0 (x : Q0a) : qfield C 34 x.cv 0 = some (I x.Kind) := Y0e C tt34 (Q0a.shape x) rfl tt3 rfl rfl
theorem Q0a.rfa_0 (x : Q0a) (h : Heap) : qfieldAddr C h 34 (.rptr x.cv) 0 = some (.rptr (I x.Kind)) := by
  have hs := Q0a.shape x
  unfold Q0a.cv at hs ⊢
  simp only [qfieldAddr, tt34, ti34, tgt, hs, if_true, List.getElem?_cons_zero, List.getElem?_cons_succ]
theorem Q0a.sub_0 (q : List Nat) (z : Shape) : subEq sh34 (0 :: q) z = subEq sh3 q z := rfl
theorem Q0a.at_1 (x : Q0a) (q : List Nat) : x.cv.at (1 :: q) = (I x.Owner).at q := rfl
def Q0a.upd_1 (x : Q0a) (v : CV) : CV := .agg [I x.Kind, v, I x.X, I x.Y, I x.VX, I x.VY, I x.Age, .agg (x.Mem.map I), I x.Faults]
theorem Q0a.set_1 (x : Q0a) (q : List Nat) (v : CV) : x.cv.set (1 :: q) v = Q0a.upd_1 x ((I x.Owner).set q v) := rfl
theorem Q0a.fold_1 (x : Q0a) (y : Int) : Q0a.upd_1 x (I y) = ({ x with Owner := y } : Q0a).cv := rfl
theorem Q0a.fld_1 (x : Q0a) : qfield C 34 x.cv 1 = some (I x.Owner) := Y0e C tt34 (Q0a.shape x) rfl tt3 rfl rfl
theorem Q0a.rfa_1 (x : Q0a) (h : Heap) : qfieldAddr C h 34 (.rptr x.cv) 1 = some (.rptr (I x.Owner)) := by
  have hs := Q0a.shape x
  unfold Q0a.cv at hs ⊢
  simp only [qfieldAddr, tt34, ti34, tgt, hs, if_true, List.getElem?_cons_zero, List.getElem?_cons_succ]
theorem Q0a.sub_1 (q : List Nat) (z : Shape) : subEq sh34 (1 :: q) z = subEq sh3 q z := rfl
theorem Q0a.at_2 (x : Q0a) (q : List Nat) : x.cv.at (2 :: q) = (I x.X).at q := rfl
def Q0a.upd_2 (x : Q0a) (v : CV) : CV := .agg [I x.Kind, I x.Owner, v, I x.Y, I x.VX, I x.VY, I x.Age, .agg (x.Mem.map I), I x.Faults]
theorem Q0a.set_2 (x : Q0a) (q : List Nat) (v : CV) : x.cv.set (2 :: q) v = Q0a.upd_2 x ((I x.X).set q v) := rfl
theorem Q0a.fold_2 (x : Q0a) (y : Int) : Q0a.upd_2 x (I y) = ({ x with X := y } : Q0a).cv := rfl
theorem Q0a.fld_2 (x : Q0a) : qfield C 34 x.cv 2 = some (I x.X) := Y0e C tt34 (Q0a.shape x) rfl tt3 rfl rfl
theorem Q0a.rfa_2 (x : Q0a) (h : Heap) : qfieldAddr C h 34 (.rptr x.cv) 2 = some (.rptr (I x.X)) := by
  have hs := Q0a.shape x
  unfold Q0a.cv at hs ⊢
  simp only [qfieldAddr, tt34, ti34, tgt, hs, if_true, List.getElem?_cons_zero, List.getElem?_cons_succ]
theorem Q0a.sub_2 (q : List Nat) (z : Shape) : subEq sh34 (2 :: q) z = subEq sh3 q z := rfl
theorem Q0a.at_3 (x : Q0a) (q : List Nat) : x.cv.at (3 :: q) = (I x.Y).at q := rfl
def Q0a.upd_3 (x : Q0a) (v : CV) : CV := .agg [I x.Kind, I x.Owner, I x.X, v, I x.VX, I x.VY, I x.Age, .agg (x.Mem.map I), I x.Faults]
theorem Q0a.set_3 (x : Q0a) (q : List Nat) (v : CV) : x.cv.set (3 :: q) v = Q0a.upd_3 x ((I x.Y).set q v) := rfl
theorem Q0a.fold_3 (x : Q0a) (y : Int) : Q0a.upd_3 x (I y) = ({ x with Y := y } : Q0a).cv := rfl
theorem Q0a.fld_3 (x : Q0a) : qfield C 34 x.cv 3 = some (I x.Y) := Y0e C tt34 (Q0a.shape x) rfl tt3 rfl rfl
theorem Q0a.rfa_3 (x : Q0a) (h : Heap) : qfieldAddr C h 34 (.rptr x.cv) 3 = some (.rptr (I x.Y)) := by
  have hs := Q0a.shape x
  unfold Q0a.cv at hs ⊢
  simp only [qfieldAddr, tt34, ti34, tgt, hs, if_true, List.getElem?_cons_zero, List.getElem?_cons_succ]
theorem Q0a.sub_3 (q : List Nat) (z : Shape) : subEq sh34 (3 :: q) z = subEq sh3 q z := rfl
theorem Q0a.at_4 (x : Q0a) (q : List Nat) : x.cv.at (4 :: q) = (I x.VX).at q := rfl
def Q0a.upd_4 (x : Q0a) (v : CV) : CV := .agg [I x.Kind, I x.Owner, I x.X, I x.Y, v, I x.VY, I x.Age, .agg (x.Mem.map I), I x.Faults]
theorem Q0a.set_4 (x : Q0a) (q : List Nat) (v : CV) : x.cv.set (4 :: q) v = Q0a.upd_4 x ((I x.VX).set q v) := rfl
theorem Q0a.fold_4 (x : Q0a) (y : Int) : Q0a.upd_4 x (I y) = ({ x with VX := y } : Q0a).cv := rfl
theorem Q0a.fld_4 (x : Q0a) : qfield C 34 x.cv 4 = some (I x.VX) := Y0e C tt34 (Q0a.shape x) rfl tt3 rfl rfl
theorem Q0a.rfa_4 (x : Q0a) (h : Heap) : qfieldAddr C h 34 (.rptr x.cv) 4 = some (.rptr (I x.VX)) := by
  have hs := Q0a.shape x
  unfold Q0a.cv at hs ⊢
  simp only [qfieldAddr, tt34, ti34, tgt, hs, if_true, List.getElem?_cons_zero, List.getElem?_cons_succ]
theorem Q0a.sub_4 (q : List Nat) (z : Shape) : subEq sh34 (4 :: q) z = subEq sh3 q z := rfl
theorem Q0a.at_5 (x : Q0a) (q : List Nat) : x.cv.at (5 :: q) = (I x.VY).at q := rfl
def Q0a.upd_5 (x : Q0a) (v : CV) : CV := .agg [I x.Kind, I x.Owner, I x.X, I x.Y, I x.VX, v, I x.Age, .agg (x.Mem.map I), I x.Faults]
theorem Q0a.set_5 (x : Q0a) (q : List Nat) (v : CV) : x.cv.set (5 :: q) v = Q0a.upd_5 x ((I x.VY).set q v) := rfl
theorem Q0a.fold_5 (x : Q0a) (y : Int) : Q0a.upd_5 x (I y) = ({ x with VY := y } : Q0a).cv := rfl
theorem Q0a.fld_5 (x : Q0a) : qfield C 34 x.cv 5 = some (I x.VY) := Y0e C tt34 (Q0a.shape x) rfl tt3 rfl rfl
theorem Q0a.rfa_5 (x : Q0a) (h : Heap) : qfieldAddr C h 34 (.rptr x.cv) 5 = some (.rptr (I x.VY)) := by
  have hs := Q0a.shape x
  unfold Q0a.cv at hs ⊢
  simp only [qfieldAddr, tt34, ti34, tgt, hs, if_true, List.getElem?_cons_zero, List.getElem?_cons_succ]
theorem Q0a.sub_5 (q : List Nat) (z : Shape) : subEq sh34 (5 :: q) z = subEq sh3 q z := rfl
theorem Q0a.at_6 (x : Q0a) (q : List Nat) : x.cv.at (6 :: q) = (I x.Age).at q := rfl
def Q0a.upd_6 (x : Q0a) (v : CV) : CV := .agg [I x.Kind, I x.Owner, I x.X, I x.Y, I x.VX, I x.VY, v, .agg (x.Mem.map I), I x.Faults]
theorem Q0a.set_6 (x : Q0a) (q : List Nat) (v : CV) : x.cv.set (6 :: q) v = Q0a.upd_6 x ((I x.Age).set q v) := rfl
theorem Q0a.fold_6 (x : Q0a) (y : Int) : Q0a.upd_6 x (I y) = ({ x with Age := y } : Q0a).cv := rfl
theorem Q0a.fld_6 (x : Q0a) : qfield C 34 x.cv 6 = some (I x.Age) := Y0e C tt34 (Q0a.shape x) rfl tt3 rfl rfl
theorem Q0a.rfa_6 (x : Q0a) (h : Heap) : qfieldAddr C h 34 (.rptr x.cv) 6 = some (.rptr (I x.Age)) := by
  have hs := Q0a.shape x
  unfold Q0a.cv at hs ⊢
  simp only [qfieldAddr, tt34, ti34, tgt, hs, if_true, List.getElem?_cons_zero, List.getElem?_cons_succ]
theorem Q0a.sub_6 (q : List Nat) (z : Shape) : subEq sh34 (6 :: q) z = subEq sh3 q z := rfl
theorem Q0a.at_7 (x : Q0a) : x.cv.at [7] = some (.agg (x.Mem.map I)) := rfl
theorem Q0a.at_7k (x : Q0a) (k : Nat) (q : List Nat) (h : k < 4) : x.cv.at (7 :: k :: q) = (I (nth x.Mem k)).at q := by
  show (CV.agg (x.Mem.map I)).at (k :: q) = _
  exact arr_at _ (by rw [x.hMem]; exact h) q
def Q0a.upd_7 (x : Q0a) (v : CV) : CV := .agg [I x.Kind, I x.Owner, I x.X, I x.Y, I x.VX, I x.VY, I x.Age, v, I x.Faults]
def Q0a.upd_7k (x : Q0a) (k : Nat) (v : CV) : CV := .agg [I x.Kind, I x.Owner, I x.X, I x.Y, I x.VX, I x.VY, I x.Age, .agg ((x.Mem.map I).set k v), I x.Faults]
theorem Q0a.set_7 (x : Q0a) (v : CV) : x.cv.set [7] v = Q0a.upd_7 x v := by simp [Q0a.cv, Q0a.upd_7, CV.set, Z1n]
theorem Q0a.set_7k (x : Q0a) (k : Nat) (q : List Nat) (v : CV) (h : k < 4) : x.cv.set (7 :: k :: q) v = Q0a.upd_7k x k ((I (nth x.Mem k)).set q v) := by
  have e : x.cv.set (7 :: k :: q) v = Q0a.upd_7 x ((CV.agg (x.Mem.map I)).set (k :: q) v) := rfl
  rw [e, K1n _ (by rw [x.hMem]; exact h)]; rfl
def Q0a.put_7k (x : Q0a) (k : Nat) (y : Int) : Q0a := { x with Mem := x.Mem.set k y, hMem := by rw [List.length_set]; exact x.hMem }
theorem Q0a.fold_7k (x : Q0a) (k : Nat) (y : Int) : Q0a.upd_7k x k (I y) = (Q0a.put_7k x k y).cv := by simp only [Q0a.upd_7k, Q0a.put_7k, Q0a.cv, List.map_set]
theorem Q0a.fold_7 (x : Q0a) (l : List Int) (h : l.length = 4) : Q0a.upd_7 x (.agg (l.map I)) = ({ x with Mem := l, hMem := h } : Q0a).cv := rfl
theorem Q0a.fld_7 (x : Q0a) : qfield C 34 x.cv 7 = some (.agg (x.Mem.map I)) := Y0e C tt34 (Q0a.shape x) rfl tt32 rfl (Y0p (sh := sh32) (by simp only [CV.shape, V0k (f := I) (s := Shape.s) (fun _ => rfl), x.hMem, sh32]) rfl)
theorem Q0a.rfa_7 (x : Q0a) (h : Heap) : qfieldAddr C h 34 (.rptr x.cv) 7 = some (.rptr (.agg (x.Mem.map I))) := by
  have hs := Q0a.shape x
  unfold Q0a.cv at hs ⊢
  simp only [qfieldAddr, tt34, ti34, tgt, hs, if_true, List.getElem?_cons_zero, List.getElem?_cons_succ]
theorem Q0a.sub_7k (k : Nat) (q : List Nat) (z : Shape) : subEq sh34 (7 :: k :: q) z = (decide (k < 4) && subEq sh3 q z) := X07 4 k q sh3 z
theorem Q0a.sub_7 (z : Shape) : subEq sh34 [7] z = subEq sh32 [] z := rfl
theorem Q0a.at_8 (x : Q0a) (q : List Nat) : x.cv.at (8 :: q) = (I x.Faults).at q := rfl
def Q0a.upd_8 (x : Q0a) (v : CV) : CV := .agg [I x.Kind, I x.Owner, I x.X, I x.Y, I x.VX, I x.VY, I x.Age, .agg (x.Mem.map I), v]
theorem Q0a.set_8 (x : Q0a) (q : List Nat) (v : CV) : x.cv.set (8 :: q) v = Q0a.upd_8 x ((I x.Faults).set q v) := rfl
theorem Q0a.fold_8 (x : Q0a) (y : Int) : Q0a.upd_8 x (I y) = ({ x with Faults := y } : Q0a).cv := rfl
theorem Q0a.fld_8 (x : Q0a) : qfield C 34 x.cv 8 = some (I x.Faults) := Y0e C tt34 (Q0a.shape x) rfl tt3 rfl rfl
theorem Q0a.rfa_8 (x : Q0a) (h : Heap) : qfieldAddr C h 34 (.rptr x.cv) 8 = some (.rptr (I x.Faults)) := by
  have hs := Q0a.shape x
  unfold Q0a.cv at hs ⊢
  simp only [qfieldAddr, tt34, ti34, tgt, hs, if_true, List.getElem?_cons_zero, List.getElem?_cons_succ]
theorem Q0a.sub_8 (q : List Nat) (z : Shape) : subEq sh34 (8 :: q) z = subEq sh3 q z := rfl
theorem Q0a.sub_nil : subEq sh34 [] sh34 = true := by simp [subEq, Shape.sub]
theorem Q0a.alloc : allocObj C (.alloc 34) = some (.var sh34 Q0a.zero.cv) := by simp only [allocObj, tt34, ti34, Q0a.zcv]
theorem Q0a.xalloc (p : Hp) : xalloc C p 34 = .ret (.ptr p.n []) (p.new (.var sh34 Q0a.zero.cv)) := by simp only [Cl.xalloc, tt34, ti34, Q0a.zcv]
theorem Q0a.xbox (p : Hp) (x : Q0a) : xbox C p 34 x.cv = .ret (.ptr p.n []) (p.new (.var sh34 x.cv)) := by
  have h : Cl.shOk x.cv ti34.sh = true := Q0a.shOk x
  simp only [Cl.xbox, tt34, h, cond_true]; rfl
theorem Q0a.bld_none  : qbuild C 34 [] = some (({ Kind := 0, Owner := 0, X := 0, Y := 0, VX := 0, VY := 0, Age := 0, Mem := (List.replicate 4 0), hMem := List.length_replicate, Faults := 0 } : Q0a).cv) := Q0g C tt34 (by simp only [partsOk, setAll, CV.shape, sh34, List.all_cons, List.all_nil, List.getElem?_cons_zero, List.getElem?_cons_succ, Bool.and_true, decide_true]) rfl
theorem Q0a.bld_0 (a0 : Int) : qbuild C 34 [(0, I a0)] = some (({ Kind := a0, Owner := 0, X := 0, Y := 0, VX := 0, VY := 0, Age := 0, Mem := (List.replicate 4 0), hMem := List.length_replicate, Faults := 0 } : Q0a).cv) := Q0g C tt34 (by simp only [partsOk, setAll, CV.shape, sh34, List.all_cons, List.all_nil, List.getElem?_cons_zero, List.getElem?_cons_succ, Bool.and_true, decide_true]) rfl
theorem Q0a.bld_0_1_2_3 (a0 : Int) (a1 : Int) (a2 : Int) (a3 : Int) : qbuild C 34 [(0, I a0), (1, I a1), (2, I a2), (3, I a3)] = some (({ Kind := a0, Owner := a1, X := a2, Y := a3, VX := 0, VY := 0, Age := 0, Mem := (List.replicate 4 0), hMem := List.length_replicate, Faults := 0 } : Q0a).cv) := Q0g C tt34 (by simp only [partsOk, setAll, CV.shape, sh34, List.all_cons, List.all_nil, List.getElem?_cons_zero, List.getElem?_cons_succ, Bool.and_true, decide_true]) rfl
theorem Q0a.bld_0_1_2_3_4_5 (a0 : Int) (a1 : Int) (a2 : Int) (a3 : Int) (a4 : Int) (a5 : Int) : qbuild C 34 [(0, I a0), (1, I a1), (2, I a2), (3, I a3), (4, I a4), (5, I a5)] = some (({ Kind := a0, Owner := a1, X := a2, Y := a3, VX := a4, VY := a5, Age := 0, Mem := (List.replicate 4 0), hMem := List.length_replicate, Faults := 0 } : Q0a).cv) := Q0g C tt34 (by simp only [partsOk, setAll, CV.shape, sh34, List.all_cons, List.all_nil, List.getElem?_cons_zero, List.getElem?_cons_succ, Bool.and_true, decide_true]) rfl
structure Y0b where
  Buttons : Int
  X : Int
  Y : Int
def Y0b.cv (x : Y0b) : CV := .agg [I x.Buttons, I x.X, I x.Y]
@[ext] theorem Y0b.ext' {x y : Y0b} (h_Buttons : x.Buttons = y.Buttons) (h_X : x.X = y.X) (h_Y : x.Y = y.Y) : x = y := by
  obtain ⟨a0, a1, a2⟩ := x
  obtain ⟨c0, c1, c2⟩ := y
  simp only at h_Buttons h_X h_Y
  subst h_Buttons h_X h_Y
  rfl
def Y0b.zero : Y0b := { Buttons := 0, X := 0, Y := 0 }
instance : Inhabited Y0b := ⟨Y0b.zero⟩
theorem Y0b.zcv : z36 = Y0b.zero.cv := by
  simp only [z36, Y0b.zero, Y0b.cv, List.map_replicate, Lst.cv, List.map_nil]
theorem Y0b.shape (x : Y0b) : x.cv.shape = sh36 := by simp only [Y0b.cv, sh36, CV.shape, CV.shapes, Lst.shape]
theorem Y0b.nohas (x : Y0b) (j : Nat) : ¬ x.cv.has j := by simp [Y0b.cv, CV.has, CV.hasL]
instance : DecidableEq Y0b := fun x y => decidable_of_iff (x.Buttons = y.Buttons ∧ x.X = y.X ∧ x.Y = y.Y) ⟨fun h => Y0b.ext' h.1 h.2.1 h.2.2, fun h => by subst h; simp⟩
theorem Y0b.inj {x y : Y0b} (h : x.cv = y.cv) : x = y := by
  simp only [Y0b.cv, CV.agg.injEq, List.cons.injEq, and_true] at h
  obtain ⟨h0, h1, h2⟩ := h
  refine Y0b.ext' (I_inj _ _ h0) (I_inj _ _ h1) (I_inj _ _ h2)
theorem Y0b.injF (x y : Y0b) (h : x.cv = y.cv) : x = y := Y0b.inj h
theorem Y0b.inj_iff (x y : Y0b) : x.cv = y.cv ↔ x = y := ⟨Y0b.inj, fun h => by rw [h]⟩
theorem Y0b.shOk (x : Y0b) : Cl.shOk x.cv sh36 = true := Y0p (Y0b.shape x) rfl
theorem Y0b.eq (d : Nat) (x y : Y0b) : eqCV C (d + 2) 36 x.cv y.cv = some (decide (x = y)) := by
  refine (Z0v C (d := d + 1) tt36 (Y0b.shape x) (Y0b.shape y) (V0g (Y0h C tt3 (d + 0) _ _) (V0g (Y0h C tt3 (d + 0) _ _) (V0g (Y0h C tt3 (d + 0) _ _) rfl)))).trans (congrArg some ?_)
  rw [Bool.eq_iff_iff]
  simp only [Bool.and_eq_true, decide_eq_true_eq, and_true]
  exact ⟨fun h => Y0b.ext' h.1 h.2.1 h.2.2, fun h => by subst h; simp⟩
theorem Y0b.eql (x y : Y0b) (b : Bool) : qbin C .eql 36 b x.cv y.cv = some (Bo (decide (x = y))) := by
  have h := Y0b.eq 10 x y
  unfold Y0b.cv at h ⊢
  simp only [qbin]
  rw [h]; rfl
theorem Y0b.neq (x y : Y0b) (b : Bool) : qbin C .neq 36 b x.cv y.cv = some (Bo (!decide (x = y))) := by
  have h := Y0b.eq 10 x y
  unfold Y0b.cv at h ⊢
  simp only [qbin]
  rw [h]; rfl
theorem Y0b.at_0 (x : Y0b) (q : List Nat) : x.cv.at (0 :: q) = (I x.Buttons).at q := rfl
def Y0b.upd_0 (x : Y0b) (v : CV) : CV := .agg [v, I x.X, I x.Y]
theorem Y0b.set_0 (x : Y0b) (q : List Nat) (v : CV) : x.cv.set (0 :: q) v = Y0b.upd_0 x ((I x.Buttons).set q v) := rfl
theorem Y0b.fold_0 (x : Y0b) (y : Int) : Y0b.upd_0 x (I y) = ({ x with Buttons := y } : Y0b).cv := rfl
theorem Y0b.fld_0 (x : Y0b) : qfield C 36 x.cv 0 = some (I x.Buttons) := Y0e C tt36 (Y0b.shape x) rfl tt3 rfl rfl
theorem Y0b.rfa_0 (x : Y0b) (h : Heap) : qfieldAddr C h 36 (.rptr x.cv) 0 = some (.rptr (I x.Buttons)) := by
  have hs := Y0b.shape x
  unfold Y0b.cv at hs ⊢
  simp only [qfieldAddr, tt36, ti36, tgt, hs, if_true, List.getElem?_cons_zero, List.getElem?_cons_succ]
theorem Y0b.sub_0 (q : List Nat) (z : Shape) : subEq sh36 (0 :: q) z = subEq sh3 q z := rfl
theorem Y0b.at_1 (x : Y0b) (q : List Nat) : x.cv.at (1 :: q) = (I x.X).at q := rfl
def Y0b.upd_1 (x : Y0b) (v : CV) : CV := .agg [I x.Buttons, v, I x.Y]
theorem Y0b.set_1 (x : Y0b) (q : List Nat) (v : CV) : x.cv.set (1 :: q) v = Y0b.upd_1 x ((I x.X).set q v) := rfl
theorem Y0b.fold_1 (x : Y0b) (y : Int) : Y0b.upd_1 x (I y) = ({ x with X := y } : Y0b).cv := rfl
theorem Y0b.fld_1 (x : Y0b) : qfield C 36 x.cv 1 = some (I x.X) := Y0e C tt36 (Y0b.shape x) rfl tt3 rfl rfl
theorem Y0b.rfa_1 (x : Y0b) (h : Heap) : qfieldAddr C h 36 (.rptr x.cv) 1 = some (.rptr (I x.X)) := by
  have hs := Y0b.shape x
  unfold Y0b.cv at hs ⊢
  simp only [qfieldAddr, tt36, ti36, tgt, hs, if_true, List.getElem?_cons_zero, List.getElem?_cons_succ]
theorem Y0b.sub_1 (q : List Nat) (z : Shape) : subEq sh36 (1 :: q) z = subEq sh3 q z := rfl
theorem Y0b.at_2 (x : Y0b) (q : List Nat) : x.cv.at (2 :: q) = (I x.Y).at q := rfl
def Y0b.upd_2 (x : Y0b) (v : CV) : CV := .agg [I x.Buttons, I x.X, v]
theorem Y0b.set_2 (x : Y0b) (q : List Nat) (v : CV) : x.cv.set (2 :: q) v = Y0b.upd_2 x ((I x.Y).set q v) := rfl
theorem Y0b.fold_2 (x : Y0b) (y : Int) : Y0b.upd_2 x (I y) = ({ x with Y := y } : Y0b).cv := rfl
theorem Y0b.fld_2 (x : Y0b) : qfield C 36 x.cv 2 = some (I x.Y) := Y0e C tt36 (Y0b.shape x) rfl tt3 rfl rfl
theorem Y0b.rfa_2 (x : Y0b) (h : Heap) : qfieldAddr C h 36 (.rptr x.cv) 2 = some (.rptr (I x.Y)) := by
  have hs := Y0b.shape x
  unfold Y0b.cv at hs ⊢
  simp only [qfieldAddr, tt36, ti36, tgt, hs, if_true, List.getElem?_cons_zero, List.getElem?_cons_succ]
theorem Y0b.sub_2 (q : List Nat) (z : Shape) : subEq sh36 (2 :: q) z = subEq sh3 q z := rfl
theorem Y0b.sub_nil : subEq sh36 [] sh36 = true := by simp [subEq, Shape.sub]
theorem Y0b.alloc : allocObj C (.alloc 36) = some (.var sh36 Y0b.zero.cv) := by simp only [allocObj, tt36, ti36, Y0b.zcv]
theorem Y0b.xalloc (p : Hp) : xalloc C p 36 = .ret (.ptr p.n []) (p.new (.var sh36 Y0b.zero.cv)) := by simp only [Cl.xalloc, tt36, ti36, Y0b.zcv]
theorem Y0b.xbox (p : Hp) (x : Y0b) : xbox C p 36 x.cv = .ret (.ptr p.n []) (p.new (.var sh36 x.cv)) := by
  have h : Cl.shOk x.cv ti36.sh = true := Y0b.shOk x
  simp only [Cl.xbox, tt36, h, cond_true]; rfl
theorem Y0b.bld_none  : qbuild C 36 [] = some (({ Buttons := 0, X := 0, Y := 0 } : Y0b).cv) := Q0g C tt36 (by simp only [partsOk, setAll, CV.shape, sh36, List.all_cons, List.all_nil, List.getElem?_cons_zero, List.getElem?_cons_succ, Bool.and_true, decide_true]) rfl
theorem Y0b.bld_0_1 (a0 : Int) (a1 : Int) : qbuild C 36 [(0, I a0), (1, I a1)] = some (({ Buttons := a0, X := a1, Y := 0 } : Y0b).cv) := Q0g C tt36 (by simp only [partsOk, setAll, CV.shape, sh36, List.all_cons, List.all_nil, List.getElem?_cons_zero, List.getElem?_cons_succ, Bool.and_true, decide_true]) rfl
theorem Y0b.bld_0_1_2 (a0 : Int) (a1 : Int) (a2 : Int) : qbuild C 36 [(0, I a0), (1, I a1), (2, I a2)] = some (({ Buttons := a0, X := a1, Y := a2 } : Y0b).cv) := Q0g C tt36 (by simp only [partsOk, setAll, CV.shape, sh36, List.all_cons, List.all_nil, List.getElem?_cons_zero, List.getElem?_cons_succ, Bool.and_true, decide_true]) rfl
theorem Y0b.bld_1 (a1 : Int) : qbuild C 36 [(1, I a1)] = some (({ Buttons := 0, X := a1, Y := 0 } : Y0b).cv) := Q0g C tt36 (by simp only [partsOk, setAll, CV.shape, sh36, List.all_cons, List.all_nil, List.getElem?_cons_zero, List.getElem?_cons_succ, Bool.and_true, decide_true]) rfl
structure Z0b where
  Body : Q0a
  In : Y0b
  Dice : Int
  Room : Int
  Shots : Lst Q0a
def Z0b.cv (x : Z0b) : CV := .agg [Q0a.cv x.Body, Y0b.cv x.In, U x.Dice, I x.Room, (Lst.cv Q0a.cv) x.Shots]
@[ext] theorem Z0b.ext' {x y : Z0b} (h_Body : x.Body = y.Body) (h_In : x.In = y.In) (h_Dice : x.Dice = y.Dice) (h_Room : x.Room = y.Room) (h_Shots : x.Shots = y.Shots) : x = y := by
  obtain ⟨a0, a1, a2, a3, a4⟩ := x
  obtain ⟨c0, c1, c2, c3, c4⟩ := y
  simp only at h_Body h_In h_Dice h_Room h_Shots
  subst h_Body h_In h_Dice h_Room h_Shots
  rfl
def Z0b.zero : Z0b := { Body := Q0a.zero, In := Y0b.zero, Dice := 0, Room := 0, Shots := ⟨.nil, [], fun _ => rfl⟩ }
instance : Inhabited Z0b := ⟨Z0b.zero⟩
theorem Z0b.zcv : z39 = Z0b.zero.cv := by
  simp only [z39, Z0b.zero, Z0b.cv, Q0a.zcv, Y0b.zcv, List.map_replicate, Lst.cv, List.map_nil]
theorem Z0b.shape (x : Z0b) : x.cv.shape = sh39 := by simp only [Z0b.cv, sh39, CV.shape, CV.shapes, Q0a.shape, Y0b.shape, Lst.shape]
theorem Z0b.has (x : Z0b) (j : Nat) : x.cv.has j ↔ x.Shots.tl = .own j := by simp [Z0b.cv, CV.has, CV.hasL, Q0a.nohas, Y0b.nohas, Lst.has _ Q0a.nohas]
theorem Z0b.inj {x y : Z0b} (h : x.cv = y.cv) : x = y := by
  simp only [Z0b.cv, CV.agg.injEq, List.cons.injEq, and_true] at h
  obtain ⟨h0, h1, h2, h3, h4⟩ := h
  refine Z0b.ext' (Q0a.injF _ _ h0) (Y0b.injF _ _ h1) (U_inj _ _ h2) (I_inj _ _ h3) ((Lst.injF Q0a.injF) _ _ h4)
theorem Z0b.injF (x y : Z0b) (h : x.cv = y.cv) : x = y := Z0b.inj h
theorem Z0b.inj_iff (x y : Z0b) : x.cv = y.cv ↔ x = y := ⟨Z0b.inj, fun h => by rw [h]⟩
theorem Z0b.shOk (x : Z0b) : Cl.shOk x.cv sh39 = true := Y0p (Z0b.shape x) rfl
theorem Z0b.at_0 (x : Z0b) (q : List Nat) : x.cv.at (0 :: q) = (Q0a.cv x.Body).at q := rfl
def Z0b.upd_0 (x : Z0b) (v : CV) : CV := .agg [v, Y0b.cv x.In, U x.Dice, I x.Room, (Lst.cv Q0a.cv) x.Shots]
theorem Z0b.set_0 (x : Z0b) (q : List Nat) (v : CV) : x.cv.set (0 :: q) v = Z0b.upd_0 x ((Q0a.cv x.Body).set q v) := rfl
theorem Z0b.fold_0 (x : Z0b) (y : Q0a) : Z0b.upd_0 x (Q0a.cv y) = ({ x with Body := y } : Z0b).cv := rfl
theorem Z0b.fld_0 (x : Z0b) : qfield C 39 x.cv 0 = some (Q0a.cv x.Body) := Y0e C tt39 (Z0b.shape x) rfl tt34 rfl (Q0a.shOk _)
theorem Z0b.rfa_0 (x : Z0b) (h : Heap) : qfieldAddr C h 39 (.rptr x.cv) 0 = some (.rptr (Q0a.cv x.Body)) := by
  have hs := Z0b.shape x
  unfold Z0b.cv at hs ⊢
  simp only [qfieldAddr, tt39, ti39, tgt, hs, if_true, List.getElem?_cons_zero, List.getElem?_cons_succ]
theorem Z0b.sub_0 (q : List Nat) (z : Shape) : subEq sh39 (0 :: q) z = subEq sh34 q z := rfl
theorem Z0b.at_1 (x : Z0b) (q : List Nat) : x.cv.at (1 :: q) = (Y0b.cv x.In).at q := rfl
def Z0b.upd_1 (x : Z0b) (v : CV) : CV := .agg [Q0a.cv x.Body, v, U x.Dice, I x.Room, (Lst.cv Q0a.cv) x.Shots]
theorem Z0b.set_1 (x : Z0b) (q : List Nat) (v : CV) : x.cv.set (1 :: q) v = Z0b.upd_1 x ((Y0b.cv x.In).set q v) := rfl
theorem Z0b.fold_1 (x : Z0b) (y : Y0b) : Z0b.upd_1 x (Y0b.cv y) = ({ x with In := y } : Z0b).cv := rfl
theorem Z0b.fld_1 (x : Z0b) : qfield C 39 x.cv 1 = some (Y0b.cv x.In) := Y0e C tt39 (Z0b.shape x) rfl tt36 rfl (Y0b.shOk _)
theorem Z0b.rfa_1 (x : Z0b) (h : Heap) : qfieldAddr C h 39 (.rptr x.cv) 1 = some (.rptr (Y0b.cv x.In)) := by
  have hs := Z0b.shape x
  unfold Z0b.cv at hs ⊢
  simp only [qfieldAddr, tt39, ti39, tgt, hs, if_true, List.getElem?_cons_zero, List.getElem?_cons_succ]
theorem Z0b.sub_1 (q : List Nat) (z : Shape) : subEq sh39 (1 :: q) z = subEq sh36 q z := rfl
theorem Z0b.at_2 (x : Z0b) (q : List Nat) : x.cv.at (2 :: q) = (U x.Dice).at q := rfl
def Z0b.upd_2 (x : Z0b) (v : CV) : CV := .agg [Q0a.cv x.Body, Y0b.cv x.In, v, I x.Room, (Lst.cv Q0a.cv) x.Shots]
theorem Z0b.set_2 (x : Z0b) (q : List Nat) (v : CV) : x.cv.set (2 :: q) v = Z0b.upd_2 x ((U x.Dice).set q v) := rfl
theorem Z0b.fold_2 (x : Z0b) (y : Int) : Z0b.upd_2 x (U y) = ({ x with Dice := y } : Z0b).cv := rfl
theorem Z0b.fld_2 (x : Z0b) : qfield C 39 x.cv 2 = some (U x.Dice) := Y0e C tt39 (Z0b.shape x) rfl tt25 rfl rfl
theorem Z0b.rfa_2 (x : Z0b) (h : Heap) : qfieldAddr C h 39 (.rptr x.cv) 2 = some (.rptr (U x.Dice)) := by
  have hs := Z0b.shape x
  unfold Z0b.cv at hs ⊢
  simp only [qfieldAddr, tt39, ti39, tgt, hs, if_true, List.getElem?_cons_zero, List.getElem?_cons_succ]
theorem Z0b.sub_2 (q : List Nat) (z : Shape) : subEq sh39 (2 :: q) z = subEq sh25 q z := rfl
theorem Z0b.at_3 (x : Z0b) (q : List Nat) : x.cv.at (3 :: q) = (I x.Room).at q := rfl
def Z0b.upd_3 (x : Z0b) (v : CV) : CV := .agg [Q0a.cv x.Body, Y0b.cv x.In, U x.Dice, v, (Lst.cv Q0a.cv) x.Shots]
theorem Z0b.set_3 (x : Z0b) (q : List Nat) (v : CV) : x.cv.set (3 :: q) v = Z0b.upd_3 x ((I x.Room).set q v) := rfl
theorem Z0b.fold_3 (x : Z0b) (y : Int) : Z0b.upd_3 x (I y) = ({ x with Room := y } : Z0b).cv := rfl
theorem Z0b.fld_3 (x : Z0b) : qfield C 39 x.cv 3 = some (I x.Room) := Y0e C tt39 (Z0b.shape x) rfl tt3 rfl rfl
theorem Z0b.rfa_3 (x : Z0b) (h : Heap) : qfieldAddr C h 39 (.rptr x.cv) 3 = some (.rptr (I x.Room)) := by
  have hs := Z0b.shape x
  unfold Z0b.cv at hs ⊢
  simp only [qfieldAddr, tt39, ti39, tgt, hs, if_true, List.getElem?_cons_zero, List.getElem?_cons_succ]
theorem Z0b.sub_3 (q : List Nat) (z : Shape) : subEq sh39 (3 :: q) z = subEq sh3 q z := rfl
theorem Z0b.at_4 (x : Z0b) (q : List Nat) : x.cv.at (4 :: q) = ((Lst.cv Q0a.cv) x.Shots).at q := rfl
def Z0b.upd_4 (x : Z0b) (v : CV) : CV := .agg [Q0a.cv x.Body, Y0b.cv x.In, U x.Dice, I x.Room, v]
theorem Z0b.set_4 (x : Z0b) (q : List Nat) (v : CV) : x.cv.set (4 :: q) v = Z0b.upd_4 x (((Lst.cv Q0a.cv) x.Shots).set q v) := rfl
theorem Z0b.fold_4 (x : Z0b) (y : Lst Q0a) : Z0b.upd_4 x ((Lst.cv Q0a.cv) y) = ({ x with Shots := y } : Z0b).cv := rfl
theorem Z0b.fld_4 (x : Z0b) : qfield C 39 x.cv 4 = some ((Lst.cv Q0a.cv) x.Shots) := Y0e C tt39 (Z0b.shape x) rfl tt37 rfl rfl
theorem Z0b.rfa_4 (x : Z0b) (h : Heap) : qfieldAddr C h 39 (.rptr x.cv) 4 = some (.rptr ((Lst.cv Q0a.cv) x.Shots)) := by
  have hs := Z0b.shape x
  unfold Z0b.cv at hs ⊢
  simp only [qfieldAddr, tt39, ti39, tgt, hs, if_true, List.getElem?_cons_zero, List.getElem?_cons_succ]
theorem Z0b.sub_4 (q : List Nat) (z : Shape) : subEq sh39 (4 :: q) z = subEq sh37 q z := rfl
theorem Z0b.sub_nil : subEq sh39 [] sh39 = true := by simp [subEq, Shape.sub]
theorem Z0b.alloc : allocObj C (.alloc 39) = some (.var sh39 Z0b.zero.cv) := by simp only [allocObj, tt39, ti39, Z0b.zcv]
theorem Z0b.xalloc (p : Hp) : xalloc C p 39 = .ret (.ptr p.n []) (p.new (.var sh39 Z0b.zero.cv)) := by simp only [Cl.xalloc, tt39, ti39, Z0b.zcv]
theorem Z0b.xbox (p : Hp) (x : Z0b) : xbox C p 39 x.cv = .ret (.ptr p.n []) (p.new (.var sh39 x.cv)) := by
  have h : Cl.shOk x.cv ti39.sh = true := Z0b.shOk x
  simp only [Cl.xbox, tt39, h, cond_true]; rfl
theorem Z0b.bld_0_1_2_3 (a0 : Q0a) (a1 : Y0b) (a2 : Int) (a3 : Int) : qbuild C 39 [(0, Q0a.cv a0), (1, Y0b.cv a1), (2, U a2), (3, I a3)] = some (({ Body := a0, In := a1, Dice := a2, Room := a3, Shots := ⟨.nil, [], fun _ => rfl⟩ } : Z0b).cv) := Q0g C tt39 (by simp only [partsOk, setAll, CV.shape, Q0a.shape, Y0b.shape, sh39, List.all_cons, List.all_nil, List.getElem?_cons_zero, List.getElem?_cons_succ, Bool.and_true, decide_true]) rfl
theorem Z0b.bld_0_1_2_3_4 (a0 : Q0a) (a1 : Y0b) (a2 : Int) (a3 : Int) (a4 : Lst Q0a) : qbuild C 39 [(0, Q0a.cv a0), (1, Y0b.cv a1), (2, U a2), (3, I a3), (4, (Lst.cv Q0a.cv) a4)] = some (({ Body := a0, In := a1, Dice := a2, Room := a3, Shots := a4 } : Z0b).cv) := Q0g C tt39 (by simp only [partsOk, setAll, CV.shape, Q0a.shape, Y0b.shape, Lst.shape, sh39, List.all_cons, List.all_nil, List.getElem?_cons_zero, List.getElem?_cons_succ, Bool.and_true, decide_true]) rfl
structure V0c where
  Code : Int
  At : Int
def V0c.cv (x : V0c) : CV := .agg [I x.Code, I x.At]
@[ext] theorem V0c.ext' {x y : V0c} (h_Code : x.Code = y.Code) (h_At : x.At = y.At) : x = y := by
  obtain ⟨a0, a1⟩ := x
  obtain ⟨c0, c1⟩ := y
  simp only at h_Code h_At
  subst h_Code h_At
  rfl
def V0c.zero : V0c := { Code := 0, At := 0 }
instance : Inhabited V0c := ⟨V0c.zero⟩
theorem V0c.zcv : z44 = V0c.zero.cv := by
  simp only [z44, V0c.zero, V0c.cv, List.map_replicate, Lst.cv, List.map_nil]
theorem V0c.shape (x : V0c) : x.cv.shape = sh44 := by simp only [V0c.cv, sh44, CV.shape, CV.shapes, Lst.shape]
theorem V0c.nohas (x : V0c) (j : Nat) : ¬ x.cv.has j := by simp [V0c.cv, CV.has, CV.hasL]
instance : DecidableEq V0c := fun x y => decidable_of_iff (x.Code = y.Code ∧ x.At = y.At) ⟨fun h => V0c.ext' h.1 h.2, fun h => by subst h; simp⟩
theorem V0c.inj {x y : V0c} (h : x.cv = y.cv) : x = y := by
  simp only [V0c.cv, CV.agg.injEq, List.cons.injEq, and_true] at h
  obtain ⟨h0, h1⟩ := h
  refine V0c.ext' (I_inj _ _ h0) (I_inj _ _ h1)
theorem V0c.injF (x y : V0c) (h : x.cv = y.cv) : x = y := V0c.inj h
theorem V0c.inj_iff (x y : V0c) : x.cv = y.cv ↔ x = y := ⟨V0c.inj, fun h => by rw [h]⟩
theorem V0c.shOk (x : V0c) : Cl.shOk x.cv sh44 = true := Y0p (V0c.shape x) rfl
theorem V0c.eq (d : Nat) (x y : V0c) : eqCV C (d + 2) 44 x.cv y.cv = some (decide (x = y)) := by
  refine (Z0v C (d := d + 1) tt44 (V0c.shape x) (V0c.shape y) (V0g (Y0h C tt3 (d + 0) _ _) (V0g (Y0h C tt3 (d + 0) _ _) rfl))).trans (congrArg some ?_)
  rw [Bool.eq_iff_iff]
  simp only [Bool.and_eq_true, decide_eq_true_eq, and_true]
  exact ⟨fun h => V0c.ext' h.1 h.2, fun h => by subst h; simp⟩
theorem V0c.eql (x y : V0c) (b : Bool) : qbin C .eql 44 b x.cv y.cv = some (Bo (decide (x = y))) := by
  have h := V0c.eq 10 x y
  unfold V0c.cv at h ⊢
  simp only [qbin]
  rw [h]; rfl
theorem V0c.neq (x y : V0c) (b : Bool) : qbin C .neq 44 b x.cv y.cv = some (Bo (!decide (x = y))) := by
  have h := V0c.eq 10 x y
  unfold V0c.cv at h ⊢
  simp only [qbin]
  rw [h]; rfl
theorem V0c.at_0 (x : V0c) (q : List Nat) : x.cv.at (0 :: q) = (I x.Code).at q := rfl
def V0c.upd_0 (x : V0c) (v : CV) : CV := .agg [v, I x.At]
theorem V0c.set_0 (x : V0c) (q : List Nat) (v : CV) : x.cv.set (0 :: q) v = V0c.upd_0 x ((I x.Code).set q v) := rfl
theorem V0c.fold_0 (x : V0c) (y : Int) : V0c.upd_0 x (I y) = ({ x with Code := y } : V0c).cv := rfl
theorem V0c.fld_0 (x : V0c) : qfield C 44 x.cv 0 = some (I x.Code) := Y0e C tt44 (V0c.shape x) rfl tt3 rfl rfl
theorem V0c.rfa_0 (x : V0c) (h : Heap) : qfieldAddr C h 44 (.rptr x.cv) 0 = some (.rptr (I x.Code)) := by
  have hs := V0c.shape x
  unfold V0c.cv at hs ⊢
  simp only [qfieldAddr, tt44, ti44, tgt, hs, if_true, List.getElem?_cons_zero, List.getElem?_cons_succ]
theorem V0c.sub_0 (q : List Nat) (z : Shape) : subEq sh44 (0 :: q) z = subEq sh3 q z := rfl
theorem V0c.at_1 (x : V0c) (q : List Nat) : x.cv.at (1 :: q) = (I x.At).at q := rfl
def V0c.upd_1 (x : V0c) (v : CV) : CV := .agg [I x.Code, v]
theorem V0c.set_1 (x : V0c) (q : List Nat) (v : CV) : x.cv.set (1 :: q) v = V0c.upd_1 x ((I x.At).set q v) := rfl
theorem V0c.fold_1 (x : V0c) (y : Int) : V0c.upd_1 x (I y) = ({ x with At := y } : V0c).cv := rfl
theorem V0c.fld_1 (x : V0c) : qfield C 44 x.cv 1 = some (I x.At) := Y0e C tt44 (V0c.shape x) rfl tt3 rfl rfl
theorem V0c.rfa_1 (x : V0c) (h : Heap) : qfieldAddr C h 44 (.rptr x.cv) 1 = some (.rptr (I x.At)) := by
  have hs := V0c.shape x
  unfold V0c.cv at hs ⊢
  simp only [qfieldAddr, tt44, ti44, tgt, hs, if_true, List.getElem?_cons_zero, List.getElem?_cons_succ]
theorem V0c.sub_1 (q : List Nat) (z : Shape) : subEq sh44 (1 :: q) z = subEq sh3 q z := rfl
theorem V0c.sub_nil : subEq sh44 [] sh44 = true := by simp [subEq, Shape.sub]
theorem V0c.alloc : allocObj C (.alloc 44) = some (.var sh44 V0c.zero.cv) := by simp only [allocObj, tt44, ti44, V0c.zcv]
theorem V0c.xalloc (p : Hp) : xalloc C p 44 = .ret (.ptr p.n []) (p.new (.var sh44 V0c.zero.cv)) := by simp only [Cl.xalloc, tt44, ti44, V0c.zcv]
theorem V0c.xbox (p : Hp) (x : V0c) : xbox C p 44 x.cv = .ret (.ptr p.n []) (p.new (.var sh44 x.cv)) := by
  have h : Cl.shOk x.cv ti44.sh = true := V0c.shOk x
  simp only [Cl.xbox, tt44, h, cond_true]; rfl
theorem V0c.bld_none  : qbuild C 44 [] = some (({ Code := 0, At := 0 } : V0c).cv) := Q0g C tt44 (by simp only [partsOk, setAll, CV.shape, sh44, List.all_cons, List.all_nil, List.getElem?_cons_zero, List.getElem?_cons_succ, Bool.and_true, decide_true]) rfl
theorem V0c.bld_0 (a0 : Int) : qbuild C 44 [(0, I a0)] = some (({ Code := a0, At := 0 } : V0c).cv) := Q0g C tt44 (by simp only [partsOk, setAll, CV.shape, sh44, List.all_cons, List.all_nil, List.getElem?_cons_zero, List.getElem?_cons_succ, Bool.and_true, decide_true]) rfl
theorem V0c.bld_0_1 (a0 : Int) (a1 : Int) : qbuild C 44 [(0, I a0), (1, I a1)] = some (({ Code := a0, At := a1 } : V0c).cv) := Q0g C tt44 (by simp only [partsOk, setAll, CV.shape, sh44, List.all_cons, List.all_nil, List.getElem?_cons_zero, List.getElem?_cons_succ, Bool.and_true, decide_true]) rfl
structure K0a where
  Players : Int
  Period : Int
  Grace : Int
  Start : Int
  Frames : Int
  Seed : Int
  Rate : Nat
  Depth : Nat
  Rules : Lst X0c
  Tokens : Lst Int
def K0a.cv (x : K0a) : CV := .agg [I x.Players, I x.Period, I x.Grace, I x.Start, I x.Frames, I x.Seed, Fl x.Rate, Fl x.Depth, (Lst.cv X0c.cv) x.Rules, (Lst.cv I) x.Tokens]
@[ext] theorem K0a.ext' {x y : K0a} (h_Players : x.Players = y.Players) (h_Period : x.Period = y.Period) (h_Grace : x.Grace = y.Grace) (h_Start : x.Start = y.Start) (h_Frames : x.Frames = y.Frames) (h_Seed : x.Seed = y.Seed) (h_Rate : x.Rate = y.Rate) (h_Depth : x.Depth = y.Depth) (h_Rules : x.Rules = y.Rules) (h_Tokens : x.Tokens = y.Tokens) : x = y := by
  obtain ⟨a0, a1, a2, a3, a4, a5, a6, a7, a8, a9⟩ := x
  obtain ⟨c0, c1, c2, c3, c4, c5, c6, c7, c8, c9⟩ := y
  simp only at h_Players h_Period h_Grace h_Start h_Frames h_Seed h_Rate h_Depth h_Rules h_Tokens
  subst h_Players h_Period h_Grace h_Start h_Frames h_Seed h_Rate h_Depth h_Rules h_Tokens
  rfl
def K0a.zero : K0a := { Players := 0, Period := 0, Grace := 0, Start := 0, Frames := 0, Seed := 0, Rate := 0, Depth := 0, Rules := ⟨.nil, [], fun _ => rfl⟩, Tokens := ⟨.nil, [], fun _ => rfl⟩ }
instance : Inhabited K0a := ⟨K0a.zero⟩
theorem K0a.zcv : z61 = K0a.zero.cv := by
  simp only [z61, K0a.zero, K0a.cv, List.map_replicate, Lst.cv, List.map_nil]
theorem K0a.shape (x : K0a) : x.cv.shape = sh61 := by simp only [K0a.cv, sh61, CV.shape, CV.shapes, Lst.shape]
theorem K0a.has (x : K0a) (j : Nat) : x.cv.has j ↔ x.Rules.tl = .own j ∨ x.Tokens.tl = .own j := by simp [K0a.cv, CV.has, CV.hasL, Lst.has _ X0c.nohas, Lst.has _ I_has]
theorem K0a.inj {x y : K0a} (h : x.cv = y.cv) : x = y := by
  simp only [K0a.cv, CV.agg.injEq, List.cons.injEq, and_true] at h
  obtain ⟨h0, h1, h2, h3, h4, h5, h6, h7, h8, h9⟩ := h
  refine K0a.ext' (I_inj _ _ h0) (I_inj _ _ h1) (I_inj _ _ h2) (I_inj _ _ h3) (I_inj _ _ h4) (I_inj _ _ h5) (Fl_inj _ _ h6) (Fl_inj _ _ h7) ((Lst.injF X0c.injF) _ _ h8) ((Lst.injF I_inj) _ _ h9)
theorem K0a.injF (x y : K0a) (h : x.cv = y.cv) : x = y := K0a.inj h
theorem K0a.inj_iff (x y : K0a) : x.cv = y.cv ↔ x = y := ⟨K0a.inj, fun h => by rw [h]⟩
theorem K0a.shOk (x : K0a) : Cl.shOk x.cv sh61 = true := Y0p (K0a.shape x) rfl
theorem K0a.at_0 (x : K0a) (q : List Nat) : x.cv.at (0 :: q) = (I x.Players).at q := rfl
def K0a.upd_0 (x : K0a) (v : CV) : CV := .agg [v, I x.Period, I x.Grace, I x.Start, I x.Frames, I x.Seed, Fl x.Rate, Fl x.Depth, (Lst.cv X0c.cv) x.Rules, (Lst.cv I) x.Tokens]
theorem K0a.set_0 (x : K0a) (q : List Nat) (v : CV) : x.cv.set (0 :: q) v = K0a.upd_0 x ((I x.Players).set q v) := rfl
theorem K0a.fold_0 (x : K0a) (y : Int) : K0a.upd_0 x (I y) = ({ x with Players := y } : K0a).cv := rfl
theorem K0a.fld_0 (x : K0a) : qfield C 61 x.cv 0 = some (I x.Players) := Y0e C tt61 (K0a.shape x) rfl tt3 rfl rfl
theorem K0a.rfa_0 (x : K0a) (h : Heap) : qfieldAddr C h 61 (.rptr x.cv) 0 = some (.rptr (I x.Players)) := by
  have hs := K0a.shape x
  unfold K0a.cv at hs ⊢
  simp only [qfieldAddr, tt61, ti61, tgt, hs, if_true, List.getElem?_cons_zero, List.getElem?_cons_succ]
theorem K0a.sub_0 (q : List Nat) (z : Shape) : subEq sh61 (0 :: q) z = subEq sh3 q z := rfl
theorem K0a.at_1 (x : K0a) (q : List Nat) : x.cv.at (1 :: q) = (I x.Period).at q := rfl
def K0a.upd_1 (x : K0a) (v : CV) : CV := .agg [I x.Players, v, I x.Grace, I x.Start, I x.Frames, I x.Seed, Fl x.Rate, Fl x.Depth, (Lst.cv X0c.cv) x.Rules, (Lst.cv I) x.Tokens]
theorem K0a.set_1 (x : K0a) (q : List Nat) (v : CV) : x.cv.set (1 :: q) v = K0a.upd_1 x ((I x.Period).set q v) := rfl
theorem K0a.fold_1 (x : K0a) (y : Int) : K0a.upd_1 x (I y) = ({ x with Period := y } : K0a).cv := rfl
theorem K0a.fld_1 (x : K0a) : qfield C 61 x.cv 1 = some (I x.Period) := Y0e C tt61 (K0a.shape x) rfl tt3 rfl rfl
theorem K0a.rfa_1 (x : K0a) (h : Heap) : qfieldAddr C h 61 (.rptr x.cv) 1 = some (.rptr (I x.Period)) := by
  have hs := K0a.shape x
  unfold K0a.cv at hs ⊢
  simp only [qfieldAddr, tt61, ti61, tgt, hs, if_true, List.getElem?_cons_zero, List.getElem?_cons_succ]
theorem K0a.sub_1 (q : List Nat) (z : Shape) : subEq sh61 (1 :: q) z = subEq sh3 q z := rfl
theorem K0a.at_2 (x : K0a) (q : List Nat) : x.cv.at (2 :: q) = (I x.Grace).at q := rfl
def K0a.upd_2 (x : K0a) (v : CV) : CV := .agg [I x.Players, I x.Period, v, I x.Start, I x.Frames, I x.Seed, Fl x.Rate, Fl x.Depth, (Lst.cv X0c.cv) x.Rules, (Lst.cv I) x.Tokens]
theorem K0a.set_2 (x : K0a) (q : List Nat) (v : CV) : x.cv.set (2 :: q) v = K0a.upd_2 x ((I x.Grace).set q v) := rfl
theorem K0a.fold_2 (x : K0a) (y : Int) : K0a.upd_2 x (I y) = ({ x with Grace := y } : K0a).cv := rfl
theorem K0a.fld_2 (x : K0a) : qfield C 61 x.cv 2 = some (I x.Grace) := Y0e C tt61 (K0a.shape x) rfl tt3 rfl rfl
theorem K0a.rfa_2 (x : K0a) (h : Heap) : qfieldAddr C h 61 (.rptr x.cv) 2 = some (.rptr (I x.Grace)) := by
  have hs := K0a.shape x
  unfold K0a.cv at hs ⊢
  simp only [qfieldAddr, tt61, ti61, tgt, hs, if_true, List.getElem?_cons_zero, List.getElem?_cons_succ]
theorem K0a.sub_2 (q : List Nat) (z : Shape) : subEq sh61 (2 :: q) z = subEq sh3 q z := rfl
theorem K0a.at_3 (x : K0a) (q : List Nat) : x.cv.at (3 :: q) = (I x.Start).at q := rfl
def K0a.upd_3 (x : K0a) (v : CV) : CV := .agg [I x.Players, I x.Period, I x.Grace, v, I x.Frames, I x.Seed, Fl x.Rate, Fl x.Depth, (Lst.cv X0c.cv) x.Rules, (Lst.cv I) x.Tokens]
theorem K0a.set_3 (x : K0a) (q : List Nat) (v : CV) : x.cv.set (3 :: q) v = K0a.upd_3 x ((I x.Start).set q v) := rfl
theorem K0a.fold_3 (x : K0a) (y : Int) : K0a.upd_3 x (I y) = ({ x with Start := y } : K0a).cv := rfl
theorem K0a.fld_3 (x : K0a) : qfield C 61 x.cv 3 = some (I x.Start) := Y0e C tt61 (K0a.shape x) rfl tt3 rfl rfl
theorem K0a.rfa_3 (x : K0a) (h : Heap) : qfieldAddr C h 61 (.rptr x.cv) 3 = some (.rptr (I x.Start)) := by
  have hs := K0a.shape x
  unfold K0a.cv at hs ⊢
  simp only [qfieldAddr, tt61, ti61, tgt, hs, if_true, List.getElem?_cons_zero, List.getElem?_cons_succ]
theorem K0a.sub_3 (q : List Nat) (z : Shape) : subEq sh61 (3 :: q) z = subEq sh3 q z := rfl
theorem K0a.at_4 (x : K0a) (q : List Nat) : x.cv.at (4 :: q) = (I x.Frames).at q := rfl
def K0a.upd_4 (x : K0a) (v : CV) : CV := .agg [I x.Players, I x.Period, I x.Grace, I x.Start, v, I x.Seed, Fl x.Rate, Fl x.Depth, (Lst.cv X0c.cv) x.Rules, (Lst.cv I) x.Tokens]
theorem K0a.set_4 (x : K0a) (q : List Nat) (v : CV) : x.cv.set (4 :: q) v = K0a.upd_4 x ((I x.Frames).set q v) := rfl
theorem K0a.fold_4 (x : K0a) (y : Int) : K0a.upd_4 x (I y) = ({ x with Frames := y } : K0a).cv := rfl
theorem K0a.fld_4 (x : K0a) : qfield C 61 x.cv 4 = some (I x.Frames) := Y0e C tt61 (K0a.shape x) rfl tt3 rfl rfl
theorem K0a.rfa_4 (x : K0a) (h : Heap) : qfieldAddr C h 61 (.rptr x.cv) 4 = some (.rptr (I x.Frames)) := by
  have hs := K0a.shape x
  unfold K0a.cv at hs ⊢
  simp only [qfieldAddr, tt61, ti61, tgt, hs, if_true, List.getElem?_cons_zero, List.getElem?_cons_succ]
theorem K0a.sub_4 (q : List Nat) (z : Shape) : subEq sh61 (4 :: q) z = subEq sh3 q z := rfl
theorem K0a.at_5 (x : K0a) (q : List Nat) : x.cv.at (5 :: q) = (I x.Seed).at q := rfl
def K0a.upd_5 (x : K0a) (v : CV) : CV := .agg [I x.Players, I x.Period, I x.Grace, I x.Start, I x.Frames, v, Fl x.Rate, Fl x.Depth, (Lst.cv X0c.cv) x.Rules, (Lst.cv I) x.Tokens]
theorem K0a.set_5 (x : K0a) (q : List Nat) (v : CV) : x.cv.set (5 :: q) v = K0a.upd_5 x ((I x.Seed).set q v) := rfl
theorem K0a.fold_5 (x : K0a) (y : Int) : K0a.upd_5 x (I y) = ({ x with Seed := y } : K0a).cv := rfl
theorem K0a.fld_5 (x : K0a) : qfield C 61 x.cv 5 = some (I x.Seed) := Y0e C tt61 (K0a.shape x) rfl tt3 rfl rfl
theorem K0a.rfa_5 (x : K0a) (h : Heap) : qfieldAddr C h 61 (.rptr x.cv) 5 = some (.rptr (I x.Seed)) := by
  have hs := K0a.shape x
  unfold K0a.cv at hs ⊢
  simp only [qfieldAddr, tt61, ti61, tgt, hs, if_true, List.getElem?_cons_zero, List.getElem?_cons_succ]
theorem K0a.sub_5 (q : List Nat) (z : Shape) : subEq sh61 (5 :: q) z = subEq sh3 q z := rfl
theorem K0a.at_6 (x : K0a) (q : List Nat) : x.cv.at (6 :: q) = (Fl x.Rate).at q := rfl
def K0a.upd_6 (x : K0a) (v : CV) : CV := .agg [I x.Players, I x.Period, I x.Grace, I x.Start, I x.Frames, I x.Seed, v, Fl x.Depth, (Lst.cv X0c.cv) x.Rules, (Lst.cv I) x.Tokens]
theorem K0a.set_6 (x : K0a) (q : List Nat) (v : CV) : x.cv.set (6 :: q) v = K0a.upd_6 x ((Fl x.Rate).set q v) := rfl
theorem K0a.fold_6 (x : K0a) (y : Nat) : K0a.upd_6 x (Fl y) = ({ x with Rate := y } : K0a).cv := rfl
theorem K0a.fld_6 (x : K0a) : qfield C 61 x.cv 6 = some (Fl x.Rate) := Y0e C tt61 (K0a.shape x) rfl tt59 rfl rfl
theorem K0a.rfa_6 (x : K0a) (h : Heap) : qfieldAddr C h 61 (.rptr x.cv) 6 = some (.rptr (Fl x.Rate)) := by
  have hs := K0a.shape x
  unfold K0a.cv at hs ⊢
  simp only [qfieldAddr, tt61, ti61, tgt, hs, if_true, List.getElem?_cons_zero, List.getElem?_cons_succ]
theorem K0a.sub_6 (q : List Nat) (z : Shape) : subEq sh61 (6 :: q) z = subEq sh59 q z := rfl
theorem K0a.at_7 (x : K0a) (q : List Nat) : x.cv.at (7 :: q) = (Fl x.Depth).at q := rfl
def K0a.upd_7 (x : K0a) (v : CV) : CV := .agg [I x.Players, I x.Period, I x.Grace, I x.Start, I x.Frames, I x.Seed, Fl x.Rate, v, (Lst.cv X0c.cv) x.Rules, (Lst.cv I) x.Tokens]
theorem K0a.set_7 (x : K0a) (q : List Nat) (v : CV) : x.cv.set (7 :: q) v = K0a.upd_7 x ((Fl x.Depth).set q v) := rfl
theorem K0a.fold_7 (x : K0a) (y : Nat) : K0a.upd_7 x (Fl y) = ({ x with Depth := y } : K0a).cv := rfl
theorem K0a.fld_7 (x : K0a) : qfield C 61 x.cv 7 = some (Fl x.Depth) := Y0e C tt61 (K0a.shape x) rfl tt59 rfl rfl
theorem K0a.rfa_7 (x : K0a) (h : Heap) : qfieldAddr C h 61 (.rptr x.cv) 7 = some (.rptr (Fl x.Depth)) := by
  have hs := K0a.shape x
  unfold K0a.cv at hs ⊢
  simp only [qfieldAddr, tt61, ti61, tgt, hs, if_true, List.getElem?_cons_zero, List.getElem?_cons_succ]
theorem K0a.sub_7 (q : List Nat) (z : Shape) : subEq sh61 (7 :: q) z = subEq sh59 q z := rfl
theorem K0a.at_8 (x : K0a) (q : List Nat) : x.cv.at (8 :: q) = ((Lst.cv X0c.cv) x.Rules).at q := rfl
def K0a.upd_8 (x : K0a) (v : CV) : CV := .agg [I x.Players, I x.Period, I x.Grace, I x.Start, I x.Frames, I x.Seed, Fl x.Rate, Fl x.Depth, v, (Lst.cv I) x.Tokens]
theorem K0a.set_8 (x : K0a) (q : List Nat) (v : CV) : x.cv.set (8 :: q) v = K0a.upd_8 x (((Lst.cv X0c.cv) x.Rules).set q v) := rfl
theorem K0a.fold_8 (x : K0a) (y : Lst X0c) : K0a.upd_8 x ((Lst.cv X0c.cv) y) = ({ x with Rules := y } : K0a).cv := rfl
theorem K0a.fld_8 (x : K0a) : qfield C 61 x.cv 8 = some ((Lst.cv X0c.cv) x.Rules) := Y0e C tt61 (K0a.shape x) rfl tt23 rfl rfl
theorem K0a.rfa_8 (x : K0a) (h : Heap) : qfieldAddr C h 61 (.rptr x.cv) 8 = some (.rptr ((Lst.cv X0c.cv) x.Rules)) := by
  have hs := K0a.shape x
  unfold K0a.cv at hs ⊢
  simp only [qfieldAddr, tt61, ti61, tgt, hs, if_true, List.getElem?_cons_zero, List.getElem?_cons_succ]
theorem K0a.sub_8 (q : List Nat) (z : Shape) : subEq sh61 (8 :: q) z = subEq sh23 q z := rfl
theorem K0a.at_9 (x : K0a) (q : List Nat) : x.cv.at (9 :: q) = ((Lst.cv I) x.Tokens).at q := rfl
def K0a.upd_9 (x : K0a) (v : CV) : CV := .agg [I x.Players, I x.Period, I x.Grace, I x.Start, I x.Frames, I x.Seed, Fl x.Rate, Fl x.Depth, (Lst.cv X0c.cv) x.Rules, v]
theorem K0a.set_9 (x : K0a) (q : List Nat) (v : CV) : x.cv.set (9 :: q) v = K0a.upd_9 x (((Lst.cv I) x.Tokens).set q v) := rfl
theorem K0a.fold_9 (x : K0a) (y : Lst Int) : K0a.upd_9 x ((Lst.cv I) y) = ({ x with Tokens := y } : K0a).cv := rfl
theorem K0a.fld_9 (x : K0a) : qfield C 61 x.cv 9 = some ((Lst.cv I) x.Tokens) := Y0e C tt61 (K0a.shape x) rfl tt24 rfl rfl
theorem K0a.rfa_9 (x : K0a) (h : Heap) : qfieldAddr C h 61 (.rptr x.cv) 9 = some (.rptr ((Lst.cv I) x.Tokens)) := by
  have hs := K0a.shape x
  unfold K0a.cv at hs ⊢
  simp only [qfieldAddr, tt61, ti61, tgt, hs, if_true, List.getElem?_cons_zero, List.getElem?_cons_succ]
theorem K0a.sub_9 (q : List Nat) (z : Shape) : subEq sh61 (9 :: q) z = subEq sh24 q z := rfl
theorem K0a.sub_nil : subEq sh61 [] sh61 = true := by simp [subEq, Shape.sub]
theorem K0a.alloc : allocObj C (.alloc 61) = some (.var sh61 K0a.zero.cv) := by simp only [allocObj, tt61, ti61, K0a.zcv]
theorem K0a.xalloc (p : Hp) : xalloc C p 61 = .ret (.ptr p.n []) (p.new (.var sh61 K0a.zero.cv)) := by simp only [Cl.xalloc, tt61, ti61, K0a.zcv]
theorem K0a.xbox (p : Hp) (x : K0a) : xbox C p 61 x.cv = .ret (.ptr p.n []) (p.new (.var sh61 x.cv)) := by
  have h : Cl.shOk x.cv ti61.sh = true := K0a.shOk x
  simp only [Cl.xbox, tt61, h, cond_true]; rfl
theorem K0a.bld_0_1_2_3_4_5 (a0 : Int) (a1 : Int) (a2 : Int) (a3 : Int) (a4 : Int) (a5 : Int) : qbuild C 61 [(0, I a0), (1, I a1), (2, I a2), (3, I a3), (4, I a4), (5, I a5)] = some (({ Players := a0, Period := a1, Grace := a2, Start := a3, Frames := a4, Seed := a5, Rate := 0, Depth := 0, Rules := ⟨.nil, [], fun _ => rfl⟩, Tokens := ⟨.nil, [], fun _ => rfl⟩ } : K0a).cv) := Q0g C tt61 (by simp only [partsOk, setAll, CV.shape, sh61, List.all_cons, List.all_nil, List.getElem?_cons_zero, List.getElem?_cons_succ, Bool.and_true, decide_true]) rfl
theorem K0a.bld_0_1_4_6_7_8 (a0 : Int) (a1 : Int) (a4 : Int) (a6 : Nat) (a7 : Nat) (a8 : Lst X0c) : qbuild C 61 [(0, I a0), (1, I a1), (4, I a4), (6, Fl a6), (7, Fl a7), (8, (Lst.cv X0c.cv) a8)] = some (({ Players := a0, Period := a1, Grace := 0, Start := 0, Frames := a4, Seed := 0, Rate := a6, Depth := a7, Rules := a8, Tokens := ⟨.nil, [], fun _ => rfl⟩ } : K0a).cv) := Q0g C tt61 (by simp only [partsOk, setAll, CV.shape, Lst.shape, sh61, List.all_cons, List.all_nil, List.getElem?_cons_zero, List.getElem?_cons_succ, Bool.and_true, decide_true]) rfl
theorem K0a.bld_0_1_4_6_7_9 (a0 : Int) (a1 : Int) (a4 : Int) (a6 : Nat) (a7 : Nat) (a9 : Lst Int) : qbuild C 61 [(0, I a0), (1, I a1), (4, I a4), (6, Fl a6), (7, Fl a7), (9, (Lst.cv I) a9)] = some (({ Players := a0, Period := a1, Grace := 0, Start := 0, Frames := a4, Seed := 0, Rate := a6, Depth := a7, Rules := ⟨.nil, [], fun _ => rfl⟩, Tokens := a9 } : K0a).cv) := Q0g C tt61 (by simp only [partsOk, setAll, CV.shape, Lst.shape, sh61, List.all_cons, List.all_nil, List.getElem?_cons_zero, List.getElem?_cons_succ, Bool.and_true, decide_true]) rfl
structure X0a where
  Frame : Int
  Dice : Int
  Bodies : List Q0a
  hBodies : Bodies.length = 16
  Score : List Int
  hScore : Score.length = 8
def X0a.cv (x : X0a) : CV := .agg [I x.Frame, U x.Dice, .agg (x.Bodies.map Q0a.cv), .agg (x.Score.map I)]
@[ext] theorem X0a.ext' {x y : X0a} (h_Frame : x.Frame = y.Frame) (h_Dice : x.Dice = y.Dice) (h_Bodies : x.Bodies = y.Bodies) (h_Score : x.Score = y.Score) : x = y := by
  obtain ⟨a0, a1, a2, ha, a3, ha⟩ := x
  obtain ⟨c0, c1, c2, hc, c3, hc⟩ := y
  simp only at h_Frame h_Dice h_Bodies h_Score
  subst h_Frame h_Dice h_Bodies h_Score
  rfl
def X0a.zero : X0a := { Frame := 0, Dice := 0, Bodies := (List.replicate 16 Q0a.zero), hBodies := List.length_replicate, Score := (List.replicate 8 0), hScore := List.length_replicate }
instance : Inhabited X0a := ⟨X0a.zero⟩
theorem X0a.zcv : z66 = X0a.zero.cv := by
  simp only [z66, X0a.zero, X0a.cv, z63, Q0a.zcv, z64, List.map_replicate, Lst.cv, List.map_nil]
theorem X0a.shape (x : X0a) : x.cv.shape = sh66 := by simp only [X0a.cv, sh66, CV.shape, CV.shapes, Lst.shape, V0k (f := Q0a.cv) Q0a.shape, x.hBodies, sh63, V0k (f := I) (s := Shape.s) (fun _ => rfl), x.hScore, sh64]
theorem X0a.nohas (x : X0a) (j : Nat) : ¬ x.cv.has j := by simp [X0a.cv, CV.has, CV.hasL, V0p Q0a.nohas, V0p I_has]
instance : DecidableEq X0a := fun x y => decidable_of_iff (x.Frame = y.Frame ∧ x.Dice = y.Dice ∧ x.Bodies = y.Bodies ∧ x.Score = y.Score) ⟨fun h => X0a.ext' h.1 h.2.1 h.2.2.1 h.2.2.2, fun h => by subst h; simp⟩
theorem X0a.inj {x y : X0a} (h : x.cv = y.cv) : x = y := by
  simp only [X0a.cv, CV.agg.injEq, List.cons.injEq, and_true] at h
  obtain ⟨h0, h1, h2, h3⟩ := h
  refine X0a.ext' (I_inj _ _ h0) (U_inj _ _ h1) (Y08 Q0a.injF h2) (Y08 I_inj h3)
theorem X0a.injF (x y : X0a) (h : x.cv = y.cv) : x = y := X0a.inj h
theorem X0a.inj_iff (x y : X0a) : x.cv = y.cv ↔ x = y := ⟨X0a.inj, fun h => by rw [h]⟩
theorem X0a.shOk (x : X0a) : Cl.shOk x.cv sh66 = true := Y0p (X0a.shape x) rfl
theorem X0a.eq (d : Nat) (x y : X0a) : eqCV C (d + 5) 66 x.cv y.cv = some (decide (x = y)) := by
  refine (Z0v C (d := d + 4) tt66 (X0a.shape x) (X0a.shape y) (V0g (Y0h C tt3 (d + 3) _ _) (V0g (Y0h C tt25 (d + 3) _ _) (V0g (eqCV_ar C (g := Q0a.cv) (d := d + 3) tt63 rfl Q0a.shape x.hBodies y.hBodies (fun a b => Q0a.eq (d + 0) a b)) (V0g (eqCV_ar C (g := I) (d := d + 3) tt64 rfl (fun _ => rfl) x.hScore y.hScore (Y0h C tt3 (d + 2))) rfl))))).trans (congrArg some ?_)
  rw [Bool.eq_iff_iff]
  simp only [Bool.and_eq_true, decide_eq_true_eq, and_true]
  exact ⟨fun h => X0a.ext' h.1 h.2.1 h.2.2.1 h.2.2.2, fun h => by subst h; simp⟩
theorem X0a.eql (x y : X0a) (b : Bool) : qbin C .eql 66 b x.cv y.cv = some (Bo (decide (x = y))) := by
  have h := X0a.eq 7 x y
  unfold X0a.cv at h ⊢
  simp only [qbin]
  rw [h]; rfl
theorem X0a.neq (x y : X0a) (b : Bool) : qbin C .neq 66 b x.cv y.cv = some (Bo (!decide (x = y))) := by
  have h := X0a.eq 7 x y
  unfold X0a.cv at h ⊢
  simp only [qbin]
  rw [h]; rfl
theorem X0a.at_0 (x : X0a) (q : List Nat) : x.cv.at (0 :: q) = (I x.Frame).at q := rfl
def X0a.upd_0 (x : X0a) (v : CV) : CV := .agg [v, U x.Dice, .agg (x.Bodies.map Q0a.cv), .agg (x.Score.map I)]
theorem X0a.set_0 (x : X0a) (q : List Nat) (v : CV) : x.cv.set (0 :: q) v = X0a.upd_0 x ((I x.Frame).set q v) := rfl
theorem X0a.fold_0 (x : X0a) (y : Int) : X0a.upd_0 x (I y) = ({ x with Frame := y } : X0a).cv := rfl
theorem X0a.fld_0 (x : X0a) : qfield C 66 x.cv 0 = some (I x.Frame) := Y0e C tt66 (X0a.shape x) rfl tt3 rfl rfl
theorem X0a.rfa_0 (x : X0a) (h : Heap) : qfieldAddr C h 66 (.rptr x.cv) 0 = some (.rptr (I x.Frame)) := by
  have hs := X0a.shape x
  unfold X0a.cv at hs ⊢
  simp only [qfieldAddr, tt66, ti66, tgt, hs, if_true, List.getElem?_cons_zero, List.getElem?_cons_succ]
theorem X0a.sub_0 (q : List Nat) (z : Shape) : subEq sh66 (0 :: q) z = subEq sh3 q z := rfl
theorem X0a.at_1 (x : X0a) (q : List Nat) : x.cv.at (1 :: q) = (U x.Dice).at q := rfl
def X0a.upd_1 (x : X0a) (v : CV) : CV := .agg [I x.Frame, v, .agg (x.Bodies.map Q0a.cv), .agg (x.Score.map I)]
theorem X0a.set_1 (x : X0a) (q : List Nat) (v : CV) : x.cv.set (1 :: q) v = X0a.upd_1 x ((U x.Dice).set q v) := rfl
theorem X0a.fold_1 (x : X0a) (y : Int) : X0a.upd_1 x (U y) = ({ x with Dice := y } : X0a).cv := rfl
theorem X0a.fld_1 (x : X0a) : qfield C 66 x.cv 1 = some (U x.Dice) := Y0e C tt66 (X0a.shape x) rfl tt25 rfl rfl
theorem X0a.rfa_1 (x : X0a) (h : Heap) : qfieldAddr C h 66 (.rptr x.cv) 1 = some (.rptr (U x.Dice)) := by
  have hs := X0a.shape x
  unfold X0a.cv at hs ⊢
  simp only [qfieldAddr, tt66, ti66, tgt, hs, if_true, List.getElem?_cons_zero, List.getElem?_cons_succ]
theorem X0a.sub_1 (q : List Nat) (z : Shape) : subEq sh66 (1 :: q) z = subEq sh25 q z := rfl
theorem X0a.at_2 (x : X0a) : x.cv.at [2] = some (.agg (x.Bodies.map Q0a.cv)) := rfl
theorem X0a.at_2k (x : X0a) (k : Nat) (q : List Nat) (h : k < 16) : x.cv.at (2 :: k :: q) = (Q0a.cv (nth x.Bodies k)).at q := by
  show (CV.agg (x.Bodies.map Q0a.cv)).at (k :: q) = _
  exact arr_at _ (by rw [x.hBodies]; exact h) q
def X0a.upd_2 (x : X0a) (v : CV) : CV := .agg [I x.Frame, U x.Dice, v, .agg (x.Score.map I)]
def X0a.upd_2k (x : X0a) (k : Nat) (v : CV) : CV := .agg [I x.Frame, U x.Dice, .agg ((x.Bodies.map Q0a.cv).set k v), .agg (x.Score.map I)]
theorem X0a.set_2 (x : X0a) (v : CV) : x.cv.set [2] v = X0a.upd_2 x v := by simp [X0a.cv, X0a.upd_2, CV.set, Z1n]
theorem X0a.set_2k (x : X0a) (k : Nat) (q : List Nat) (v : CV) (h : k < 16) : x.cv.set (2 :: k :: q) v = X0a.upd_2k x k ((Q0a.cv (nth x.Bodies k)).set q v) := by
  have e : x.cv.set (2 :: k :: q) v = X0a.upd_2 x ((CV.agg (x.Bodies.map Q0a.cv)).set (k :: q) v) := rfl
  rw [e, K1n _ (by rw [x.hBodies]; exact h)]; rfl
def X0a.put_2k (x : X0a) (k : Nat) (y : Q0a) : X0a := { x with Bodies := x.Bodies.set k y, hBodies := by rw [List.length_set]; exact x.hBodies }
theorem X0a.fold_2k (x : X0a) (k : Nat) (y : Q0a) : X0a.upd_2k x k (Q0a.cv y) = (X0a.put_2k x k y).cv := by simp only [X0a.upd_2k, X0a.put_2k, X0a.cv, List.map_set]
theorem X0a.fold_2 (x : X0a) (l : List Q0a) (h : l.length = 16) : X0a.upd_2 x (.agg (l.map Q0a.cv)) = ({ x with Bodies := l, hBodies := h } : X0a).cv := rfl
theorem X0a.fld_2 (x : X0a) : qfield C 66 x.cv 2 = some (.agg (x.Bodies.map Q0a.cv)) := Y0e C tt66 (X0a.shape x) rfl tt63 rfl (Y0p (sh := sh63) (by simp only [CV.shape, V0k (f := Q0a.cv) Q0a.shape, x.hBodies, sh63]) rfl)
theorem X0a.rfa_2 (x : X0a) (h : Heap) : qfieldAddr C h 66 (.rptr x.cv) 2 = some (.rptr (.agg (x.Bodies.map Q0a.cv))) := by
  have hs := X0a.shape x
  unfold X0a.cv at hs ⊢
  simp only [qfieldAddr, tt66, ti66, tgt, hs, if_true, List.getElem?_cons_zero, List.getElem?_cons_succ]
theorem X0a.sub_2k (k : Nat) (q : List Nat) (z : Shape) : subEq sh66 (2 :: k :: q) z = (decide (k < 16) && subEq sh34 q z) := X07 16 k q sh34 z
theorem X0a.sub_2 (z : Shape) : subEq sh66 [2] z = subEq sh63 [] z := rfl
theorem X0a.at_3 (x : X0a) : x.cv.at [3] = some (.agg (x.Score.map I)) := rfl
theorem X0a.at_3k (x : X0a) (k : Nat) (q : List Nat) (h : k < 8) : x.cv.at (3 :: k :: q) = (I (nth x.Score k)).at q := by
  show (CV.agg (x.Score.map I)).at (k :: q) = _
  exact arr_at _ (by rw [x.hScore]; exact h) q
def X0a.upd_3 (x : X0a) (v : CV) : CV := .agg [I x.Frame, U x.Dice, .agg (x.Bodies.map Q0a.cv), v]
def X0a.upd_3k (x : X0a) (k : Nat) (v : CV) : CV := .agg [I x.Frame, U x.Dice, .agg (x.Bodies.map Q0a.cv), .agg ((x.Score.map I).set k v)]
theorem X0a.set_3 (x : X0a) (v : CV) : x.cv.set [3] v = X0a.upd_3 x v := by simp [X0a.cv, X0a.upd_3, CV.set, Z1n]
theorem X0a.set_3k (x : X0a) (k : Nat) (q : List Nat) (v : CV) (h : k < 8) : x.cv.set (3 :: k :: q) v = X0a.upd_3k x k ((I (nth x.Score k)).set q v) := by
  have e : x.cv.set (3 :: k :: q) v = X0a.upd_3 x ((CV.agg (x.Score.map I)).set (k :: q) v) := rfl
  rw [e, K1n _ (by rw [x.hScore]; exact h)]; rfl
def X0a.put_3k (x : X0a) (k : Nat) (y : Int) : X0a := { x with Score := x.Score.set k y, hScore := by rw [List.length_set]; exact x.hScore }
theorem X0a.fold_3k (x : X0a) (k : Nat) (y : Int) : X0a.upd_3k x k (I y) = (X0a.put_3k x k y).cv := by simp only [X0a.upd_3k, X0a.put_3k, X0a.cv, List.map_set]
theorem X0a.fold_3 (x : X0a) (l : List Int) (h : l.length = 8) : X0a.upd_3 x (.agg (l.map I)) = ({ x with Score := l, hScore := h } : X0a).cv := rfl
theorem X0a.fld_3 (x : X0a) : qfield C 66 x.cv 3 = some (.agg (x.Score.map I)) := Y0e C tt66 (X0a.shape x) rfl tt64 rfl (Y0p (sh := sh64) (by simp only [CV.shape, V0k (f := I) (s := Shape.s) (fun _ => rfl), x.hScore, sh64]) rfl)
theorem X0a.rfa_3 (x : X0a) (h : Heap) : qfieldAddr C h 66 (.rptr x.cv) 3 = some (.rptr (.agg (x.Score.map I))) := by
  have hs := X0a.shape x
  unfold X0a.cv at hs ⊢
  simp only [qfieldAddr, tt66, ti66, tgt, hs, if_true, List.getElem?_cons_zero, List.getElem?_cons_succ]
theorem X0a.sub_3k (k : Nat) (q : List Nat) (z : Shape) : subEq sh66 (3 :: k :: q) z = (decide (k < 8) && subEq sh3 q z) := X07 8 k q sh3 z
theorem X0a.sub_3 (z : Shape) : subEq sh66 [3] z = subEq sh64 [] z := rfl
theorem X0a.sub_nil : subEq sh66 [] sh66 = true := by simp [subEq, Shape.sub]
theorem X0a.alloc : allocObj C (.alloc 66) = some (.var sh66 X0a.zero.cv) := by simp only [allocObj, tt66, ti66, X0a.zcv]
theorem X0a.xalloc (p : Hp) : xalloc C p 66 = .ret (.ptr p.n []) (p.new (.var sh66 X0a.zero.cv)) := by simp only [Cl.xalloc, tt66, ti66, X0a.zcv]
theorem X0a.xbox (p : Hp) (x : X0a) : xbox C p 66 x.cv = .ret (.ptr p.n []) (p.new (.var sh66 x.cv)) := by
  have h : Cl.shOk x.cv ti66.sh = true := X0a.shOk x
  simp only [Cl.xbox, tt66, h, cond_true]; rfl
theorem X0a.bld_none  : qbuild C 66 [] = some (({ Frame := 0, Dice := 0, Bodies := (List.replicate 16 Q0a.zero), hBodies := List.length_replicate, Score := (List.replicate 8 0), hScore := List.length_replicate } : X0a).cv) := Q0g C tt66 (by simp only [partsOk, setAll, CV.shape, sh66, List.all_cons, List.all_nil, List.getElem?_cons_zero, List.getElem?_cons_succ, Bool.and_true, decide_true]) rfl
theorem X0a.bld_0_1 (a0 : Int) (a1 : Int) : qbuild C 66 [(0, I a0), (1, U a1)] = some (({ Frame := a0, Dice := a1, Bodies := (List.replicate 16 Q0a.zero), hBodies := List.length_replicate, Score := (List.replicate 8 0), hScore := List.length_replicate } : X0a).cv) := Q0g C tt66 (by simp only [partsOk, setAll, CV.shape, sh66, List.all_cons, List.all_nil, List.getElem?_cons_zero, List.getElem?_cons_succ, Bool.and_true, decide_true]) rfl
theorem X0a.bld_1 (a1 : Int) : qbuild C 66 [(1, U a1)] = some (({ Frame := 0, Dice := a1, Bodies := (List.replicate 16 Q0a.zero), hBodies := List.length_replicate, Score := (List.replicate 8 0), hScore := List.length_replicate } : X0a).cv) := Q0g C tt66 (by simp only [partsOk, setAll, CV.shape, sh66, List.all_cons, List.all_nil, List.getElem?_cons_zero, List.getElem?_cons_succ, Bool.and_true, decide_true]) rfl
structure V0b where
  Real : Bool
  In : Y0b
def V0b.cv (x : V0b) : CV := .agg [Bo x.Real, Y0b.cv x.In]
@[ext] theorem V0b.ext' {x y : V0b} (h_Real : x.Real = y.Real) (h_In : x.In = y.In) : x = y := by
  obtain ⟨a0, a1⟩ := x
  obtain ⟨c0, c1⟩ := y
  simp only at h_Real h_In
  subst h_Real h_In
  rfl
def V0b.zero : V0b := { Real := false, In := Y0b.zero }
instance : Inhabited V0b := ⟨V0b.zero⟩
theorem V0b.zcv : z110 = V0b.zero.cv := by
  simp only [z110, V0b.zero, V0b.cv, Y0b.zcv, List.map_replicate, Lst.cv, List.map_nil]
theorem V0b.shape (x : V0b) : x.cv.shape = sh110 := by simp only [V0b.cv, sh110, CV.shape, CV.shapes, Y0b.shape, Lst.shape]
theorem V0b.nohas (x : V0b) (j : Nat) : ¬ x.cv.has j := by simp [V0b.cv, CV.has, CV.hasL, Y0b.nohas]
instance : DecidableEq V0b := fun x y => decidable_of_iff (x.Real = y.Real ∧ x.In = y.In) ⟨fun h => V0b.ext' h.1 h.2, fun h => by subst h; simp⟩
theorem V0b.inj {x y : V0b} (h : x.cv = y.cv) : x = y := by
  simp only [V0b.cv, CV.agg.injEq, List.cons.injEq, and_true] at h
  obtain ⟨h0, h1⟩ := h
  refine V0b.ext' (Bo_inj _ _ h0) (Y0b.injF _ _ h1)
theorem V0b.injF (x y : V0b) (h : x.cv = y.cv) : x = y := V0b.inj h
theorem V0b.inj_iff (x y : V0b) : x.cv = y.cv ↔ x = y := ⟨V0b.inj, fun h => by rw [h]⟩
theorem V0b.shOk (x : V0b) : Cl.shOk x.cv sh110 = true := Y0p (V0b.shape x) rfl
theorem V0b.eq (d : Nat) (x y : V0b) : eqCV C (d + 3) 110 x.cv y.cv = some (decide (x = y)) := by
  refine (Z0v C (d := d + 2) tt110 (V0b.shape x) (V0b.shape y) (V0g (eqCV_bool C tt4 (d + 1) _ _) (V0g (Y0b.eq (d + 0) _ _) rfl))).trans (congrArg some ?_)
  rw [Bool.eq_iff_iff]
  simp only [Bool.and_eq_true, decide_eq_true_eq, and_true]
  exact ⟨fun h => V0b.ext' h.1 h.2, fun h => by subst h; simp⟩
theorem V0b.eql (x y : V0b) (b : Bool) : qbin C .eql 110 b x.cv y.cv = some (Bo (decide (x = y))) := by
  have h := V0b.eq 9 x y
  unfold V0b.cv at h ⊢
  simp only [qbin]
  rw [h]; rfl
theorem V0b.neq (x y : V0b) (b : Bool) : qbin C .neq 110 b x.cv y.cv = some (Bo (!decide (x = y))) := by
  have h := V0b.eq 9 x y
  unfold V0b.cv at h ⊢
  simp only [qbin]
  rw [h]; rfl
theorem V0b.at_0 (x : V0b) (q : List Nat) : x.cv.at (0 :: q) = (Bo x.Real).at q := rfl
def V0b.upd_0 (x : V0b) (v : CV) : CV := .agg [v, Y0b.cv x.In]
theorem V0b.set_0 (x : V0b) (q : List Nat) (v : CV) : x.cv.set (0 :: q) v = V0b.upd_0 x ((Bo x.Real).set q v) := rfl
theorem V0b.fold_0 (x : V0b) (y : Bool) : V0b.upd_0 x (Bo y) = ({ x with Real := y } : V0b).cv := rfl
theorem V0b.fld_0 (x : V0b) : qfield C 110 x.cv 0 = some (Bo x.Real) := Y0e C tt110 (V0b.shape x) rfl tt4 rfl rfl
theorem V0b.rfa_0 (x : V0b) (h : Heap) : qfieldAddr C h 110 (.rptr x.cv) 0 = some (.rptr (Bo x.Real)) := by
  have hs := V0b.shape x
  unfold V0b.cv at hs ⊢
  simp only [qfieldAddr, tt110, ti110, tgt, hs, if_true, List.getElem?_cons_zero, List.getElem?_cons_succ]
theorem V0b.sub_0 (q : List Nat) (z : Shape) : subEq sh110 (0 :: q) z = subEq sh4 q z := rfl
theorem V0b.at_1 (x : V0b) (q : List Nat) : x.cv.at (1 :: q) = (Y0b.cv x.In).at q := rfl
def V0b.upd_1 (x : V0b) (v : CV) : CV := .agg [Bo x.Real, v]
theorem V0b.set_1 (x : V0b) (q : List Nat) (v : CV) : x.cv.set (1 :: q) v = V0b.upd_1 x ((Y0b.cv x.In).set q v) := rfl
theorem V0b.fold_1 (x : V0b) (y : Y0b) : V0b.upd_1 x (Y0b.cv y) = ({ x with In := y } : V0b).cv := rfl
theorem V0b.fld_1 (x : V0b) : qfield C 110 x.cv 1 = some (Y0b.cv x.In) := Y0e C tt110 (V0b.shape x) rfl tt36 rfl (Y0b.shOk _)
theorem V0b.rfa_1 (x : V0b) (h : Heap) : qfieldAddr C h 110 (.rptr x.cv) 1 = some (.rptr (Y0b.cv x.In)) := by
  have hs := V0b.shape x
  unfold V0b.cv at hs ⊢
  simp only [qfieldAddr, tt110, ti110, tgt, hs, if_true, List.getElem?_cons_zero, List.getElem?_cons_succ]
theorem V0b.sub_1 (q : List Nat) (z : Shape) : subEq sh110 (1 :: q) z = subEq sh36 q z := rfl
theorem V0b.sub_nil : subEq sh110 [] sh110 = true := by simp [subEq, Shape.sub]
theorem V0b.alloc : allocObj C (.alloc 110) = some (.var sh110 V0b.zero.cv) := by simp only [allocObj, tt110, ti110, V0b.zcv]
theorem V0b.xalloc (p : Hp) : xalloc C p 110 = .ret (.ptr p.n []) (p.new (.var sh110 V0b.zero.cv)) := by simp only [Cl.xalloc, tt110, ti110, V0b.zcv]
theorem V0b.xbox (p : Hp) (x : V0b) : xbox C p 110 x.cv = .ret (.ptr p.n []) (p.new (.var sh110 x.cv)) := by
  have h : Cl.shOk x.cv ti110.sh = true := V0b.shOk x
  simp only [Cl.xbox, tt110, h, cond_true]; rfl
theorem V0b.bld_0 (a0 : Bool) : qbuild C 110 [(0, Bo a0)] = some (({ Real := a0, In := Y0b.zero } : V0b).cv) := Q0g C tt110 (by simp only [partsOk, setAll, CV.shape, sh110, List.all_cons, List.all_nil, List.getElem?_cons_zero, List.getElem?_cons_succ, Bool.and_true, decide_true]) rfl
theorem V0b.bld_0_1 (a0 : Bool) (a1 : Y0b) : qbuild C 110 [(0, Bo a0), (1, Y0b.cv a1)] = some (({ Real := a0, In := a1 } : V0b).cv) := Q0g C tt110 (by simp only [partsOk, setAll, CV.shape, Y0b.shape, sh110, List.all_cons, List.all_nil, List.getElem?_cons_zero, List.getElem?_cons_succ, Bool.and_true, decide_true]) rfl
structure Y0a where
  e_ : Z0b
  l_ : Lst X0c
  at_ : Int
def Y0a.cv (x : Y0a) : CV := .agg [Z0b.cv x.e_, (Lst.cv X0c.cv) x.l_, I x.at_]
@[ext] theorem Y0a.ext' {x y : Y0a} (h_e_ : x.e_ = y.e_) (h_l_ : x.l_ = y.l_) (h_at_ : x.at_ = y.at_) : x = y := by
  obtain ⟨a0, a1, a2⟩ := x
  obtain ⟨c0, c1, c2⟩ := y
  simp only at h_e_ h_l_ h_at_
  subst h_e_ h_l_ h_at_
  rfl
def Y0a.zero : Y0a := { e_ := Z0b.zero, l_ := ⟨.nil, [], fun _ => rfl⟩, at_ := 0 }
instance : Inhabited Y0a := ⟨Y0a.zero⟩
theorem Y0a.zcv : z131 = Y0a.zero.cv := by
  simp only [z131, Y0a.zero, Y0a.cv, Z0b.zcv, List.map_replicate, Lst.cv, List.map_nil]
theorem Y0a.shape (x : Y0a) : x.cv.shape = sh131 := by simp only [Y0a.cv, sh131, CV.shape, CV.shapes, Z0b.shape, Lst.shape]
theorem Y0a.has (x : Y0a) (j : Nat) : x.cv.has j ↔ x.e_.cv.has j ∨ x.l_.tl = .own j := by simp [Y0a.cv, CV.has, CV.hasL, Lst.has _ X0c.nohas]
theorem Y0a.inj {x y : Y0a} (h : x.cv = y.cv) : x = y := by
  simp only [Y0a.cv, CV.agg.injEq, List.cons.injEq, and_true] at h
  obtain ⟨h0, h1, h2⟩ := h
  refine Y0a.ext' (Z0b.injF _ _ h0) ((Lst.injF X0c.injF) _ _ h1) (I_inj _ _ h2)
theorem Y0a.injF (x y : Y0a) (h : x.cv = y.cv) : x = y := Y0a.inj h
theorem Y0a.inj_iff (x y : Y0a) : x.cv = y.cv ↔ x = y := ⟨Y0a.inj, fun h => by rw [h]⟩
theorem Y0a.shOk (x : Y0a) : Cl.shOk x.cv sh131 = true := Y0p (Y0a.shape x) rfl
theorem Y0a.at_0 (x : Y0a) (q : List Nat) : x.cv.at (0 :: q) = (Z0b.cv x.e_).at q := rfl
def Y0a.upd_0 (x : Y0a) (v : CV) : CV := .agg [v, (Lst.cv X0c.cv) x.l_, I x.at_]
theorem Y0a.set_0 (x : Y0a) (q : List Nat) (v : CV) : x.cv.set (0 :: q) v = Y0a.upd_0 x ((Z0b.cv x.e_).set q v) := rfl
theorem Y0a.fold_0 (x : Y0a) (y : Z0b) : Y0a.upd_0 x (Z0b.cv y) = ({ x with e_ := y } : Y0a).cv := rfl
theorem Y0a.fld_0 (x : Y0a) : qfield C 131 x.cv 0 = some (Z0b.cv x.e_) := Y0e C tt131 (Y0a.shape x) rfl tt39 rfl (Z0b.shOk _)
theorem Y0a.rfa_0 (x : Y0a) (h : Heap) : qfieldAddr C h 131 (.rptr x.cv) 0 = some (.rptr (Z0b.cv x.e_)) := by
  have hs := Y0a.shape x
  unfold Y0a.cv at hs ⊢
  simp only [qfieldAddr, tt131, ti131, tgt, hs, if_true, List.getElem?_cons_zero, List.getElem?_cons_succ]
theorem Y0a.sub_0 (q : List Nat) (z : Shape) : subEq sh131 (0 :: q) z = subEq sh39 q z := rfl
theorem Y0a.at_1 (x : Y0a) (q : List Nat) : x.cv.at (1 :: q) = ((Lst.cv X0c.cv) x.l_).at q := rfl
def Y0a.upd_1 (x : Y0a) (v : CV) : CV := .agg [Z0b.cv x.e_, v, I x.at_]
theorem Y0a.set_1 (x : Y0a) (q : List Nat) (v : CV) : x.cv.set (1 :: q) v = Y0a.upd_1 x (((Lst.cv X0c.cv) x.l_).set q v) := rfl
theorem Y0a.fold_1 (x : Y0a) (y : Lst X0c) : Y0a.upd_1 x ((Lst.cv X0c.cv) y) = ({ x with l_ := y } : Y0a).cv := rfl
theorem Y0a.fld_1 (x : Y0a) : qfield C 131 x.cv 1 = some ((Lst.cv X0c.cv) x.l_) := Y0e C tt131 (Y0a.shape x) rfl tt23 rfl rfl
theorem Y0a.rfa_1 (x : Y0a) (h : Heap) : qfieldAddr C h 131 (.rptr x.cv) 1 = some (.rptr ((Lst.cv X0c.cv) x.l_)) := by
  have hs := Y0a.shape x
  unfold Y0a.cv at hs ⊢
  simp only [qfieldAddr, tt131, ti131, tgt, hs, if_true, List.getElem?_cons_zero, List.getElem?_cons_succ]
theorem Y0a.sub_1 (q : List Nat) (z : Shape) : subEq sh131 (1 :: q) z = subEq sh23 q z := rfl
theorem Y0a.at_2 (x : Y0a) (q : List Nat) : x.cv.at (2 :: q) = (I x.at_).at q := rfl
def Y0a.upd_2 (x : Y0a) (v : CV) : CV := .agg [Z0b.cv x.e_, (Lst.cv X0c.cv) x.l_, v]
theorem Y0a.set_2 (x : Y0a) (q : List Nat) (v : CV) : x.cv.set (2 :: q) v = Y0a.upd_2 x ((I x.at_).set q v) := rfl
theorem Y0a.fold_2 (x : Y0a) (y : Int) : Y0a.upd_2 x (I y) = ({ x with at_ := y } : Y0a).cv := rfl
theorem Y0a.fld_2 (x : Y0a) : qfield C 131 x.cv 2 = some (I x.at_) := Y0e C tt131 (Y0a.shape x) rfl tt3 rfl rfl
theorem Y0a.rfa_2 (x : Y0a) (h : Heap) : qfieldAddr C h 131 (.rptr x.cv) 2 = some (.rptr (I x.at_)) := by
  have hs := Y0a.shape x
  unfold Y0a.cv at hs ⊢
  simp only [qfieldAddr, tt131, ti131, tgt, hs, if_true, List.getElem?_cons_zero, List.getElem?_cons_succ]
theorem Y0a.sub_2 (q : List Nat) (z : Shape) : subEq sh131 (2 :: q) z = subEq sh3 q z := rfl
theorem Y0a.sub_nil : subEq sh131 [] sh131 = true := by simp [subEq, Shape.sub]
theorem Y0a.alloc : allocObj C (.alloc 131) = some (.var sh131 Y0a.zero.cv) := by simp only [allocObj, tt131, ti131, Y0a.zcv]
theorem Y0a.xalloc (p : Hp) : xalloc C p 131 = .ret (.ptr p.n []) (p.new (.var sh131 Y0a.zero.cv)) := by simp only [Cl.xalloc, tt131, ti131, Y0a.zcv]
theorem Y0a.xbox (p : Hp) (x : Y0a) : xbox C p 131 x.cv = .ret (.ptr p.n []) (p.new (.var sh131 x.cv)) := by
  have h : Cl.shOk x.cv ti131.sh = true := Y0a.shOk x
  simp only [Cl.xbox, tt131, h, cond_true]; rfl
theorem Y0a.bld_0_1 (a0 : Z0b) (a1 : Lst X0c) : qbuild C 131 [(0, Z0b.cv a0), (1, (Lst.cv X0c.cv) a1)] = some (({ e_ := a0, l_ := a1, at_ := 0 } : Y0a).cv) := Q0g C tt131 (by simp only [partsOk, setAll, CV.shape, Z0b.shape, Lst.shape, sh131, List.all_cons, List.all_nil, List.getElem?_cons_zero, List.getElem?_cons_succ, Bool.and_true, decide_true]) rfl
structure K0b where
  c_ : K0a
  s_ : X0a
  row : Lst V0b
  shots : Lst Q0a
def K0b.cv (x : K0b) : CV := .agg [K0a.cv x.c_, X0a.cv x.s_, (Lst.cv V0b.cv) x.row, (Lst.cv Q0a.cv) x.shots]
@[ext] theorem K0b.ext' {x y : K0b} (h_c_ : x.c_ = y.c_) (h_s_ : x.s_ = y.s_) (h_row : x.row = y.row) (h_shots : x.shots = y.shots) : x = y := by
  obtain ⟨a0, a1, a2, a3⟩ := x
  obtain ⟨c0, c1, c2, c3⟩ := y
  simp only at h_c_ h_s_ h_row h_shots
  subst h_c_ h_s_ h_row h_shots
  rfl
def K0b.zero : K0b := { c_ := K0a.zero, s_ := X0a.zero, row := ⟨.nil, [], fun _ => rfl⟩, shots := ⟨.nil, [], fun _ => rfl⟩ }
instance : Inhabited K0b := ⟨K0b.zero⟩
theorem K0b.zcv : z186 = K0b.zero.cv := by
  simp only [z186, K0b.zero, K0b.cv, K0a.zcv, X0a.zcv, List.map_replicate, Lst.cv, List.map_nil]
theorem K0b.shape (x : K0b) : x.cv.shape = sh186 := by simp only [K0b.cv, sh186, CV.shape, CV.shapes, K0a.shape, X0a.shape, Lst.shape]
theorem K0b.has (x : K0b) (j : Nat) : x.cv.has j ↔ x.c_.cv.has j ∨ x.row.tl = .own j ∨ x.shots.tl = .own j := by simp [K0b.cv, CV.has, CV.hasL, X0a.nohas, Lst.has _ V0b.nohas, Lst.has _ Q0a.nohas]
theorem K0b.inj {x y : K0b} (h : x.cv = y.cv) : x = y := by
  simp only [K0b.cv, CV.agg.injEq, List.cons.injEq, and_true] at h
  obtain ⟨h0, h1, h2, h3⟩ := h
  refine K0b.ext' (K0a.injF _ _ h0) (X0a.injF _ _ h1) ((Lst.injF V0b.injF) _ _ h2) ((Lst.injF Q0a.injF) _ _ h3)
theorem K0b.injF (x y : K0b) (h : x.cv = y.cv) : x = y := K0b.inj h
theorem K0b.inj_iff (x y : K0b) : x.cv = y.cv ↔ x = y := ⟨K0b.inj, fun h => by rw [h]⟩
theorem K0b.shOk (x : K0b) : Cl.shOk x.cv sh186 = true := Y0p (K0b.shape x) rfl
theorem K0b.at_0 (x : K0b) (q : List Nat) : x.cv.at (0 :: q) = (K0a.cv x.c_).at q := rfl
def K0b.upd_0 (x : K0b) (v : CV) : CV := .agg [v, X0a.cv x.s_, (Lst.cv V0b.cv) x.row, (Lst.cv Q0a.cv) x.shots]
theorem K0b.set_0 (x : K0b) (q : List Nat) (v : CV) : x.cv.set (0 :: q) v = K0b.upd_0 x ((K0a.cv x.c_).set q v) := rfl
theorem K0b.fold_0 (x : K0b) (y : K0a) : K0b.upd_0 x (K0a.cv y) = ({ x with c_ := y } : K0b).cv := rfl
theorem K0b.fld_0 (x : K0b) : qfield C 186 x.cv 0 = some (K0a.cv x.c_) := Y0e C tt186 (K0b.shape x) rfl tt61 rfl (K0a.shOk _)
theorem K0b.rfa_0 (x : K0b) (h : Heap) : qfieldAddr C h 186 (.rptr x.cv) 0 = some (.rptr (K0a.cv x.c_)) := by
  have hs := K0b.shape x
  unfold K0b.cv at hs ⊢
  simp only [qfieldAddr, tt186, ti186, tgt, hs, if_true, List.getElem?_cons_zero, List.getElem?_cons_succ]
theorem K0b.sub_0 (q : List Nat) (z : Shape) : subEq sh186 (0 :: q) z = subEq sh61 q z := rfl
theorem K0b.at_1 (x : K0b) (q : List Nat) : x.cv.at (1 :: q) = (X0a.cv x.s_).at q := rfl
def K0b.upd_1 (x : K0b) (v : CV) : CV := .agg [K0a.cv x.c_, v, (Lst.cv V0b.cv) x.row, (Lst.cv Q0a.cv) x.shots]
theorem K0b.set_1 (x : K0b) (q : List Nat) (v : CV) : x.cv.set (1 :: q) v = K0b.upd_1 x ((X0a.cv x.s_).set q v) := rfl
theorem K0b.fold_1 (x : K0b) (y : X0a) : K0b.upd_1 x (X0a.cv y) = ({ x with s_ := y } : K0b).cv := rfl
theorem K0b.fld_1 (x : K0b) : qfield C 186 x.cv 1 = some (X0a.cv x.s_) := Y0e C tt186 (K0b.shape x) rfl tt66 rfl (X0a.shOk _)
theorem K0b.rfa_1 (x : K0b) (h : Heap) : qfieldAddr C h 186 (.rptr x.cv) 1 = some (.rptr (X0a.cv x.s_)) := by
  have hs := K0b.shape x
  unfold K0b.cv at hs ⊢
  simp only [qfieldAddr, tt186, ti186, tgt, hs, if_true, List.getElem?_cons_zero, List.getElem?_cons_succ]
theorem K0b.sub_1 (q : List Nat) (z : Shape) : subEq sh186 (1 :: q) z = subEq sh66 q z := rfl
theorem K0b.at_2 (x : K0b) (q : List Nat) : x.cv.at (2 :: q) = ((Lst.cv V0b.cv) x.row).at q := rfl
def K0b.upd_2 (x : K0b) (v : CV) : CV := .agg [K0a.cv x.c_, X0a.cv x.s_, v, (Lst.cv Q0a.cv) x.shots]
theorem K0b.set_2 (x : K0b) (q : List Nat) (v : CV) : x.cv.set (2 :: q) v = K0b.upd_2 x (((Lst.cv V0b.cv) x.row).set q v) := rfl
theorem K0b.fold_2 (x : K0b) (y : Lst V0b) : K0b.upd_2 x ((Lst.cv V0b.cv) y) = ({ x with row := y } : K0b).cv := rfl
theorem K0b.fld_2 (x : K0b) : qfield C 186 x.cv 2 = some ((Lst.cv V0b.cv) x.row) := Y0e C tt186 (K0b.shape x) rfl tt108 rfl rfl
theorem K0b.rfa_2 (x : K0b) (h : Heap) : qfieldAddr C h 186 (.rptr x.cv) 2 = some (.rptr ((Lst.cv V0b.cv) x.row)) := by
  have hs := K0b.shape x
  unfold K0b.cv at hs ⊢
  simp only [qfieldAddr, tt186, ti186, tgt, hs, if_true, List.getElem?_cons_zero, List.getElem?_cons_succ]
theorem K0b.sub_2 (q : List Nat) (z : Shape) : subEq sh186 (2 :: q) z = subEq sh108 q z := rfl
theorem K0b.at_3 (x : K0b) (q : List Nat) : x.cv.at (3 :: q) = ((Lst.cv Q0a.cv) x.shots).at q := rfl
def K0b.upd_3 (x : K0b) (v : CV) : CV := .agg [K0a.cv x.c_, X0a.cv x.s_, (Lst.cv V0b.cv) x.row, v]
theorem K0b.set_3 (x : K0b) (q : List Nat) (v : CV) : x.cv.set (3 :: q) v = K0b.upd_3 x (((Lst.cv Q0a.cv) x.shots).set q v) := rfl
theorem K0b.fold_3 (x : K0b) (y : Lst Q0a) : K0b.upd_3 x ((Lst.cv Q0a.cv) y) = ({ x with shots := y } : K0b).cv := rfl
theorem K0b.fld_3 (x : K0b) : qfield C 186 x.cv 3 = some ((Lst.cv Q0a.cv) x.shots) := Y0e C tt186 (K0b.shape x) rfl tt37 rfl rfl
theorem K0b.rfa_3 (x : K0b) (h : Heap) : qfieldAddr C h 186 (.rptr x.cv) 3 = some (.rptr ((Lst.cv Q0a.cv) x.shots)) := by
  have hs := K0b.shape x
  unfold K0b.cv at hs ⊢
  simp only [qfieldAddr, tt186, ti186, tgt, hs, if_true, List.getElem?_cons_zero, List.getElem?_cons_succ]
theorem K0b.sub_3 (q : List Nat) (z : Shape) : subEq sh186 (3 :: q) z = subEq sh37 q z := rfl
theorem K0b.sub_nil : subEq sh186 [] sh186 = true := by simp [subEq, Shape.sub]
theorem K0b.alloc : allocObj C (.alloc 186) = some (.var sh186 K0b.zero.cv) := by simp only [allocObj, tt186, ti186, K0b.zcv]
theorem K0b.xalloc (p : Hp) : xalloc C p 186 = .ret (.ptr p.n []) (p.new (.var sh186 K0b.zero.cv)) := by simp only [Cl.xalloc, tt186, ti186, K0b.zcv]
theorem K0b.xbox (p : Hp) (x : K0b) : xbox C p 186 x.cv = .ret (.ptr p.n []) (p.new (.var sh186 x.cv)) := by
  have h : Cl.shOk x.cv ti186.sh = true := K0b.shOk x
  simp only [Cl.xbox, tt186, h, cond_true]; rfl
theorem K0b.bld_0_1_2 (a0 : K0a) (a1 : X0a) (a2 : Lst V0b) : qbuild C 186 [(0, K0a.cv a0), (1, X0a.cv a1), (2, (Lst.cv V0b.cv) a2)] = some (({ c_ := a0, s_ := a1, row := a2, shots := ⟨.nil, [], fun _ => rfl⟩ } : K0b).cv) := Q0g C tt186 (by simp only [partsOk, setAll, CV.shape, K0a.shape, X0a.shape, Lst.shape, sh186, List.all_cons, List.all_nil, List.getElem?_cons_zero, List.getElem?_cons_succ, Bool.and_true, decide_true]) rfl
structure K0c where
  f_ : V0c
def K0c.cv (x : K0c) : CV := .agg [V0c.cv x.f_]
@[ext] theorem K0c.ext' {x y : K0c} (h_f_ : x.f_ = y.f_) : x = y := by
  obtain ⟨a0⟩ := x
  obtain ⟨c0⟩ := y
  simp only at h_f_
  subst h_f_
  rfl
def K0c.zero : K0c := { f_ := V0c.zero }
instance : Inhabited K0c := ⟨K0c.zero⟩
theorem K0c.zcv : z194 = K0c.zero.cv := by
  simp only [z194, K0c.zero, K0c.cv, V0c.zcv, List.map_replicate, Lst.cv, List.map_nil]
theorem K0c.shape (x : K0c) : x.cv.shape = sh194 := by simp only [K0c.cv, sh194, CV.shape, CV.shapes, V0c.shape, Lst.shape]
theorem K0c.nohas (x : K0c) (j : Nat) : ¬ x.cv.has j := by simp [K0c.cv, CV.has, CV.hasL, V0c.nohas]
instance : DecidableEq K0c := fun x y => decidable_of_iff (x.f_ = y.f_) ⟨fun h => K0c.ext' h, fun h => by subst h; simp⟩
theorem K0c.inj {x y : K0c} (h : x.cv = y.cv) : x = y := by
  simp only [K0c.cv, CV.agg.injEq, List.cons.injEq, and_true] at h
  have h0 := h
  refine K0c.ext' (V0c.injF _ _ h0)
theorem K0c.injF (x y : K0c) (h : x.cv = y.cv) : x = y := K0c.inj h
theorem K0c.inj_iff (x y : K0c) : x.cv = y.cv ↔ x = y := ⟨K0c.inj, fun h => by rw [h]⟩
theorem K0c.shOk (x : K0c) : Cl.shOk x.cv sh194 = true := Y0p (K0c.shape x) rfl
theorem K0c.eq (d : Nat) (x y : K0c) : eqCV C (d + 3) 194 x.cv y.cv = some (decide (x = y)) := by
  refine (Z0v C (d := d + 2) tt194 (K0c.shape x) (K0c.shape y) (V0g (V0c.eq (d + 0) _ _) rfl)).trans (congrArg some ?_)
  rw [Bool.eq_iff_iff]
  simp only [Bool.and_eq_true, decide_eq_true_eq, and_true]
  exact ⟨fun h => K0c.ext' h, fun h => by subst h; simp⟩
theorem K0c.eql (x y : K0c) (b : Bool) : qbin C .eql 194 b x.cv y.cv = some (Bo (decide (x = y))) := by
  have h := K0c.eq 9 x y
  unfold K0c.cv at h ⊢
  simp only [qbin]
  rw [h]; rfl
theorem K0c.neq (x y : K0c) (b : Bool) : qbin C .neq 194 b x.cv y.cv = some (Bo (!decide (x = y))) := by
  have h := K0c.eq 9 x y
  unfold K0c.cv at h ⊢
  simp only [qbin]
  rw [h]; rfl
theorem K0c.at_0 (x : K0c) (q : List Nat) : x.cv.at (0 :: q) = (V0c.cv x.f_).at q := rfl
def K0c.upd_0 (x : K0c) (v : CV) : CV := .agg [v]
theorem K0c.set_0 (x : K0c) (q : List Nat) (v : CV) : x.cv.set (0 :: q) v = K0c.upd_0 x ((V0c.cv x.f_).set q v) := rfl
theorem K0c.fold_0 (x : K0c) (y : V0c) : K0c.upd_0 x (V0c.cv y) = ({ x with f_ := y } : K0c).cv := rfl
theorem K0c.fld_0 (x : K0c) : qfield C 194 x.cv 0 = some (V0c.cv x.f_) := Y0e C tt194 (K0c.shape x) rfl tt44 rfl (V0c.shOk _)
theorem K0c.rfa_0 (x : K0c) (h : Heap) : qfieldAddr C h 194 (.rptr x.cv) 0 = some (.rptr (V0c.cv x.f_)) := by
  have hs := K0c.shape x
  unfold K0c.cv at hs ⊢
  simp only [qfieldAddr, tt194, ti194, tgt, hs, if_true, List.getElem?_cons_zero, List.getElem?_cons_succ]
theorem K0c.sub_0 (q : List Nat) (z : Shape) : subEq sh194 (0 :: q) z = subEq sh44 q z := rfl
theorem K0c.sub_nil : subEq sh194 [] sh194 = true := by simp [subEq, Shape.sub]
theorem K0c.alloc : allocObj C (.alloc 194) = some (.var sh194 K0c.zero.cv) := by simp only [allocObj, tt194, ti194, K0c.zcv]
theorem K0c.xalloc (p : Hp) : xalloc C p 194 = .ret (.ptr p.n []) (p.new (.var sh194 K0c.zero.cv)) := by simp only [Cl.xalloc, tt194, ti194, K0c.zcv]
theorem K0c.xbox (p : Hp) (x : K0c) : xbox C p 194 x.cv = .ret (.ptr p.n []) (p.new (.var sh194 x.cv)) := by
  have h : Cl.shOk x.cv ti194.sh = true := K0c.shOk x
  simp only [Cl.xbox, tt194, h, cond_true]; rfl
theorem K0c.bld_0 (a0 : V0c) : qbuild C 194 [(0, V0c.cv a0)] = some (({ f_ := a0 } : K0c).cv) := Q0g C tt194 (by simp only [partsOk, setAll, CV.shape, V0c.shape, sh194, List.all_cons, List.all_nil, List.getElem?_cons_zero, List.getElem?_cons_succ, Bool.and_true, decide_true]) rfl
structure Q0b where
  rate : Nat
  depth : Nat
  level : Nat
  last : Int
def Q0b.cv (x : Q0b) : CV := .agg [Fl x.rate, Fl x.depth, Fl x.level, I x.last]
@[ext] theorem Q0b.ext' {x y : Q0b} (h_rate : x.rate = y.rate) (h_depth : x.depth = y.depth) (h_level : x.level = y.level) (h_last : x.last = y.last) : x = y := by
  obtain ⟨a0, a1, a2, a3⟩ := x
  obtain ⟨c0, c1, c2, c3⟩ := y
  simp only at h_rate h_depth h_level h_last
  subst h_rate h_depth h_level h_last
  rfl
def Q0b.zero : Q0b := { rate := 0, depth := 0, level := 0, last := 0 }
instance : Inhabited Q0b := ⟨Q0b.zero⟩
theorem Q0b.zcv : z223 = Q0b.zero.cv := by
  simp only [z223, Q0b.zero, Q0b.cv, List.map_replicate, Lst.cv, List.map_nil]
theorem Q0b.shape (x : Q0b) : x.cv.shape = sh223 := by simp only [Q0b.cv, sh223, CV.shape, CV.shapes, Lst.shape]
theorem Q0b.nohas (x : Q0b) (j : Nat) : ¬ x.cv.has j := by simp [Q0b.cv, CV.has, CV.hasL]
instance : DecidableEq Q0b := fun x y => decidable_of_iff (x.rate = y.rate ∧ x.depth = y.depth ∧ x.level = y.level ∧ x.last = y.last) ⟨fun h => Q0b.ext' h.1 h.2.1 h.2.2.1 h.2.2.2, fun h => by subst h; simp⟩
theorem Q0b.inj {x y : Q0b} (h : x.cv = y.cv) : x = y := by
  simp only [Q0b.cv, CV.agg.injEq, List.cons.injEq, and_true] at h
  obtain ⟨h0, h1, h2, h3⟩ := h
  refine Q0b.ext' (Fl_inj _ _ h0) (Fl_inj _ _ h1) (Fl_inj _ _ h2) (I_inj _ _ h3)
theorem Q0b.injF (x y : Q0b) (h : x.cv = y.cv) : x = y := Q0b.inj h
theorem Q0b.inj_iff (x y : Q0b) : x.cv = y.cv ↔ x = y := ⟨Q0b.inj, fun h => by rw [h]⟩
theorem Q0b.shOk (x : Q0b) : Cl.shOk x.cv sh223 = true := Y0p (Q0b.shape x) rfl
theorem Q0b.at_0 (x : Q0b) (q : List Nat) : x.cv.at (0 :: q) = (Fl x.rate).at q := rfl
def Q0b.upd_0 (x : Q0b) (v : CV) : CV := .agg [v, Fl x.depth, Fl x.level, I x.last]
theorem Q0b.set_0 (x : Q0b) (q : List Nat) (v : CV) : x.cv.set (0 :: q) v = Q0b.upd_0 x ((Fl x.rate).set q v) := rfl
theorem Q0b.fold_0 (x : Q0b) (y : Nat) : Q0b.upd_0 x (Fl y) = ({ x with rate := y } : Q0b).cv := rfl
theorem Q0b.fld_0 (x : Q0b) : qfield C 223 x.cv 0 = some (Fl x.rate) := Y0e C tt223 (Q0b.shape x) rfl tt59 rfl rfl
theorem Q0b.rfa_0 (x : Q0b) (h : Heap) : qfieldAddr C h 223 (.rptr x.cv) 0 = some (.rptr (Fl x.rate)) := by
  have hs := Q0b.shape x
  unfold Q0b.cv at hs ⊢
  simp only [qfieldAddr, tt223, ti223, tgt, hs, if_true, List.getElem?_cons_zero, List.getElem?_cons_succ]
theorem Q0b.sub_0 (q : List Nat) (z : Shape) : subEq sh223 (0 :: q) z = subEq sh59 q z := rfl
theorem Q0b.at_1 (x : Q0b) (q : List Nat) : x.cv.at (1 :: q) = (Fl x.depth).at q := rfl
def Q0b.upd_1 (x : Q0b) (v : CV) : CV := .agg [Fl x.rate, v, Fl x.level, I x.last]
theorem Q0b.set_1 (x : Q0b) (q : List Nat) (v : CV) : x.cv.set (1 :: q) v = Q0b.upd_1 x ((Fl x.depth).set q v) := rfl
theorem Q0b.fold_1 (x : Q0b) (y : Nat) : Q0b.upd_1 x (Fl y) = ({ x with depth := y } : Q0b).cv := rfl
theorem Q0b.fld_1 (x : Q0b) : qfield C 223 x.cv 1 = some (Fl x.depth) := Y0e C tt223 (Q0b.shape x) rfl tt59 rfl rfl
theorem Q0b.rfa_1 (x : Q0b) (h : Heap) : qfieldAddr C h 223 (.rptr x.cv) 1 = some (.rptr (Fl x.depth)) := by
  have hs := Q0b.shape x
  unfold Q0b.cv at hs ⊢
  simp only [qfieldAddr, tt223, ti223, tgt, hs, if_true, List.getElem?_cons_zero, List.getElem?_cons_succ]
theorem Q0b.sub_1 (q : List Nat) (z : Shape) : subEq sh223 (1 :: q) z = subEq sh59 q z := rfl
theorem Q0b.at_2 (x : Q0b) (q : List Nat) : x.cv.at (2 :: q) = (Fl x.level).at q := rfl
def Q0b.upd_2 (x : Q0b) (v : CV) : CV := .agg [Fl x.rate, Fl x.depth, v, I x.last]
theorem Q0b.set_2 (x : Q0b) (q : List Nat) (v : CV) : x.cv.set (2 :: q) v = Q0b.upd_2 x ((Fl x.level).set q v) := rfl
theorem Q0b.fold_2 (x : Q0b) (y : Nat) : Q0b.upd_2 x (Fl y) = ({ x with level := y } : Q0b).cv := rfl
theorem Q0b.fld_2 (x : Q0b) : qfield C 223 x.cv 2 = some (Fl x.level) := Y0e C tt223 (Q0b.shape x) rfl tt59 rfl rfl
theorem Q0b.rfa_2 (x : Q0b) (h : Heap) : qfieldAddr C h 223 (.rptr x.cv) 2 = some (.rptr (Fl x.level)) := by
  have hs := Q0b.shape x
  unfold Q0b.cv at hs ⊢
  simp only [qfieldAddr, tt223, ti223, tgt, hs, if_true, List.getElem?_cons_zero, List.getElem?_cons_succ]
theorem Q0b.sub_2 (q : List Nat) (z : Shape) : subEq sh223 (2 :: q) z = subEq sh59 q z := rfl
theorem Q0b.at_3 (x : Q0b) (q : List Nat) : x.cv.at (3 :: q) = (I x.last).at q := rfl
def Q0b.upd_3 (x : Q0b) (v : CV) : CV := .agg [Fl x.rate, Fl x.depth, Fl x.level, v]
theorem Q0b.set_3 (x : Q0b) (q : List Nat) (v : CV) : x.cv.set (3 :: q) v = Q0b.upd_3 x ((I x.last).set q v) := rfl
theorem Q0b.fold_3 (x : Q0b) (y : Int) : Q0b.upd_3 x (I y) = ({ x with last := y } : Q0b).cv := rfl
theorem Q0b.fld_3 (x : Q0b) : qfield C 223 x.cv 3 = some (I x.last) := Y0e C tt223 (Q0b.shape x) rfl tt3 rfl rfl
theorem Q0b.rfa_3 (x : Q0b) (h : Heap) : qfieldAddr C h 223 (.rptr x.cv) 3 = some (.rptr (I x.last)) := by
  have hs := Q0b.shape x
  unfold Q0b.cv at hs ⊢
  simp only [qfieldAddr, tt223, ti223, tgt, hs, if_true, List.getElem?_cons_zero, List.getElem?_cons_succ]
theorem Q0b.sub_3 (q : List Nat) (z : Shape) : subEq sh223 (3 :: q) z = subEq sh3 q z := rfl
theorem Q0b.sub_nil : subEq sh223 [] sh223 = true := by simp [subEq, Shape.sub]
theorem Q0b.alloc : allocObj C (.alloc 223) = some (.var sh223 Q0b.zero.cv) := by simp only [allocObj, tt223, ti223, Q0b.zcv]
theorem Q0b.xalloc (p : Hp) : xalloc C p 223 = .ret (.ptr p.n []) (p.new (.var sh223 Q0b.zero.cv)) := by simp only [Cl.xalloc, tt223, ti223, Q0b.zcv]
theorem Q0b.xbox (p : Hp) (x : Q0b) : xbox C p 223 x.cv = .ret (.ptr p.n []) (p.new (.var sh223 x.cv)) := by
  have h : Cl.shOk x.cv ti223.sh = true := Q0b.shOk x
  simp only [Cl.xbox, tt223, h, cond_true]; rfl
theorem Q0b.bld_0_1_2 (a0 : Nat) (a1 : Nat) (a2 : Nat) : qbuild C 223 [(0, Fl a0), (1, Fl a1), (2, Fl a2)] = some (({ rate := a0, depth := a1, level := a2, last := 0 } : Q0b).cv) := Q0g C tt223 (by simp only [partsOk, setAll, CV.shape, sh223, List.all_cons, List.all_nil, List.getElem?_cons_zero, List.getElem?_cons_succ, Bool.and_true, decide_true]) rfl
set_option linter.defProp false in
def Y0w := And.intro @V0a.shape <| And.intro @V0a.shOk <| And.intro @V0a.at_0 <| And.intro @V0a.set_0 <| And.intro @V0a.fold_0 <| And.intro @V0a.fld_0 <| And.intro @V0a.rfa_0 <| And.intro @V0a.sub_0 <| And.intro @V0a.at_1 <| And.intro @V0a.set_1 <| And.intro @V0a.fold_1 <| And.intro @V0a.fld_1 <| And.intro @V0a.rfa_1 <| And.intro @V0a.sub_1 <| And.intro @V0a.at_2 <| And.intro @V0a.set_2 <| And.intro @V0a.fold_2 <| And.intro @V0a.fld_2 <| And.intro @V0a.rfa_2 <| And.intro @V0a.sub_2 <| And.intro @V0a.at_3 <| And.intro @V0a.set_3 <| And.intro @V0a.fold_3 <| And.intro @V0a.fld_3 <| And.intro @V0a.rfa_3 <| And.intro @V0a.sub_3 <| And.intro @V0a.at_4 <| And.intro @V0a.set_4 <| And.intro @V0a.fold_4 <| And.intro @V0a.fld_4 <| And.intro @V0a.rfa_4 <| And.intro @V0a.sub_4 <| And.intro @V0a.at_5 <| And.intro @V0a.set_5 <| And.intro @V0a.fold_5 <| And.intro @V0a.fld_5 <| And.intro @V0a.rfa_5 <| And.intro @V0a.sub_5 <| And.intro @V0a.at_6 <| And.intro @V0a.set_6 <| And.intro @V0a.fold_6 <| And.intro @V0a.fld_6 <| And.intro @V0a.rfa_6 <| And.intro @V0a.sub_6 <| And.intro @V0a.at_7 <| And.intro @V0a.set_7 <| And.intro @V0a.fold_7 <| And.intro @V0a.fld_7 <| And.intro @V0a.rfa_7 <| And.intro @V0a.sub_7 <| And.intro @V0a.at_8 <| And.intro @V0a.set_8 <| And.intro @V0a.fold_8 <| And.intro @V0a.fld_8 <| And.intro @V0a.rfa_8 <| And.intro @V0a.sub_8 <| And.intro @V0a.sub_nil <| And.intro @V0a.alloc <| And.intro @V0a.xalloc <| @V0a.xbox
set_option linter.defProp false in
def Y0l := And.intro @X0c.shape <| And.intro @X0c.shOk <| And.intro @X0c.eql <| And.intro @X0c.neq <| And.intro @X0c.at_0 <| And.intro @X0c.set_0 <| And.intro @X0c.fold_0 <| And.intro @X0c.fld_0 <| And.intro @X0c.rfa_0 <| And.intro @X0c.sub_0 <| And.intro @X0c.at_1 <| And.intro @X0c.set_1 <| And.intro @X0c.fold_1 <| And.intro @X0c.fld_1 <| And.intro @X0c.rfa_1 <| And.intro @X0c.sub_1 <| And.intro @X0c.at_2 <| And.intro @X0c.set_2 <| And.intro @X0c.fold_2 <| And.intro @X0c.fld_2 <| And.intro @X0c.rfa_2 <| And.intro @X0c.sub_2 <| And.intro @X0c.sub_nil <| And.intro @X0c.alloc <| And.intro @X0c.xalloc <| And.intro @X0c.xbox <| And.intro @X0c.bld_0 <| And.intro @X0c.bld_0_1 <| @X0c.bld_0_1_2
set_option linter.defProp false in
def Z01 := And.intro @Q0c.shape <| And.intro @Q0c.shOk <| And.intro @Q0c.eql <| And.intro @Q0c.neq <| And.intro @Q0c.at_0 <| And.intro @Q0c.set_0 <| And.intro @Q0c.fold_0 <| And.intro @Q0c.fld_0 <| And.intro @Q0c.rfa_0 <| And.intro @Q0c.sub_0 <| And.intro @Q0c.at_1 <| And.intro @Q0c.set_1 <| And.intro @Q0c.fold_1 <| And.intro @Q0c.fld_1 <| And.intro @Q0c.rfa_1 <| And.intro @Q0c.sub_1 <| And.intro @Q0c.at_2 <| And.intro @Q0c.set_2 <| And.intro @Q0c.fold_2 <| And.intro @Q0c.fld_2 <| And.intro @Q0c.rfa_2 <| And.intro @Q0c.sub_2 <| And.intro @Q0c.sub_nil <| And.intro @Q0c.alloc <| And.intro @Q0c.xalloc <| @Q0c.xbox
set_option linter.defProp false in
def Y0f := And.intro @Q0a.shape <| And.intro @Q0a.shOk <| And.intro @Q0a.eql <| And.intro @Q0a.neq <| And.intro @Q0a.at_0 <| And.intro @Q0a.set_0 <| And.intro @Q0a.fold_0 <| And.intro @Q0a.fld_0 <| And.intro @Q0a.rfa_0 <| And.intro @Q0a.sub_0 <| And.intro @Q0a.at_1 <| And.intro @Q0a.set_1 <| And.intro @Q0a.fold_1 <| And.intro @Q0a.fld_1 <| And.intro @Q0a.rfa_1 <| And.intro @Q0a.sub_1 <| And.intro @Q0a.at_2 <| And.intro @Q0a.set_2 <| And.intro @Q0a.fold_2 <| And.intro @Q0a.fld_2 <| And.intro @Q0a.rfa_2 <| And.intro @Q0a.sub_2 <| And.intro @Q0a.at_3 <| And.intro @Q0a.set_3 <| And.intro @Q0a.fold_3 <| And.intro @Q0a.fld_3 <| And.intro @Q0a.rfa_3 <| And.intro @Q0a.sub_3 <| And.intro @Q0a.at_4 <| And.intro @Q0a.set_4 <| And.intro @Q0a.fold_4 <| And.intro @Q0a.fld_4 <| And.intro @Q0a.rfa_4 <| And.intro @Q0a.sub_4 <| And.intro @Q0a.at_5 <| And.intro @Q0a.set_5 <| And.intro @Q0a.fold_5 <| And.intro @Q0a.fld_5 <| And.intro @Q0a.rfa_5 <| And.intro @Q0a.sub_5 <| And.intro @Q0a.at_6 <| And.intro @Q0a.set_6 <| And.intro @Q0a.fold_6 <| And.intro @Q0a.fld_6 <| And.intro @Q0a.rfa_6 <| And.intro @Q0a.sub_6 <| And.intro @Q0a.at_7 <| And.intro @Q0a.at_7k <| And.intro @Q0a.set_7 <| And.intro @Q0a.set_7k <| And.intro @Q0a.fold_7k <| And.intro @Q0a.fold_7 <| And.intro @Q0a.fld_7 <| And.intro @Q0a.rfa_7 <| And.intro @Q0a.sub_7k <| And.intro @Q0a.sub_7 <| And.intro @Q0a.at_8 <| And.intro @Q0a.set_8 <| And.intro @Q0a.fold_8 <| And.intro @Q0a.fld_8 <| And.intro @Q0a.rfa_8 <| And.intro @Q0a.sub_8 <| And.intro @Q0a.sub_nil <| And.intro @Q0a.alloc <| And.intro @Q0a.xalloc <| And.intro @Q0a.xbox <| And.intro @Q0a.bld_none <| And.intro @Q0a.bld_0 <| And.intro @Q0a.bld_0_1_2_3 <| @Q0a.bld_0_1_2_3_4_5
set_option linter.defProp false in
def Q0i := And.intro @Y0b.shape <| And.intro @Y0b.shOk <| And.intro @Y0b.eql <| And.intro @Y0b.neq <| And.intro @Y0b.at_0 <| And.intro @Y0b.set_0 <| And.intro @Y0b.fold_0 <| And.intro @Y0b.fld_0 <| And.intro @Y0b.rfa_0 <| And.intro @Y0b.sub_0 <| And.intro @Y0b.at_1 <| And.intro @Y0b.set_1 <| And.intro @Y0b.fold_1 <| And.intro @Y0b.fld_1 <| And.intro @Y0b.rfa_1 <| And.intro @Y0b.sub_1 <| And.intro @Y0b.at_2 <| And.intro @Y0b.set_2 <| And.intro @Y0b.fold_2 <| And.intro @Y0b.fld_2 <| And.intro @Y0b.rfa_2 <| And.intro @Y0b.sub_2 <| And.intro @Y0b.sub_nil <| And.intro @Y0b.alloc <| And.intro @Y0b.xalloc <| And.intro @Y0b.xbox <| And.intro @Y0b.bld_none <| And.intro @Y0b.bld_0_1 <| And.intro @Y0b.bld_0_1_2 <| @Y0b.bld_1
set_option linter.defProp false in
def Q0h := And.intro @Z0b.shape <| And.intro @Z0b.shOk <| And.intro @Z0b.at_0 <| And.intro @Z0b.set_0 <| And.intro @Z0b.fold_0 <| And.intro @Z0b.fld_0 <| And.intro @Z0b.rfa_0 <| And.intro @Z0b.sub_0 <| And.intro @Z0b.at_1 <| And.intro @Z0b.set_1 <| And.intro @Z0b.fold_1 <| And.intro @Z0b.fld_1 <| And.intro @Z0b.rfa_1 <| And.intro @Z0b.sub_1 <| And.intro @Z0b.at_2 <| And.intro @Z0b.set_2 <| And.intro @Z0b.fold_2 <| And.intro @Z0b.fld_2 <| And.intro @Z0b.rfa_2 <| And.intro @Z0b.sub_2 <| And.intro @Z0b.at_3 <| And.intro @Z0b.set_3 <| And.intro @Z0b.fold_3 <| And.intro @Z0b.fld_3 <| And.intro @Z0b.rfa_3 <| And.intro @Z0b.sub_3 <| And.intro @Z0b.at_4 <| And.intro @Z0b.set_4 <| And.intro @Z0b.fold_4 <| And.intro @Z0b.fld_4 <| And.intro @Z0b.rfa_4 <| And.intro @Z0b.sub_4 <| And.intro @Z0b.sub_nil <| And.intro @Z0b.alloc <| And.intro @Z0b.xalloc <| And.intro @Z0b.xbox <| And.intro @Z0b.bld_0_1_2_3 <| @Z0b.bld_0_1_2_3_4
set_option linter.defProp false in
def X0m := And.intro @V0c.shape <| And.intro @V0c.shOk <| And.intro @V0c.eql <| And.intro @V0c.neq <| And.intro @V0c.at_0 <| And.intro @V0c.set_0 <| And.intro @V0c.fold_0 <| And.intro @V0c.fld_0 <| And.intro @V0c.rfa_0 <| And.intro @V0c.sub_0 <| And.intro @V0c.at_1 <| And.intro @V0c.set_1 <| And.intro @V0c.fold_1 <| And.intro @V0c.fld_1 <| And.intro @V0c.rfa_1 <| And.intro @V0c.sub_1 <| And.intro @V0c.sub_nil <| And.intro @V0c.alloc <| And.intro @V0c.xalloc <| And.intro @V0c.xbox <| And.intro @V0c.bld_none <| And.intro @V0c.bld_0 <| @V0c.bld_0_1
set_option linter.defProp false in
def X0h := And.intro @K0a.shape <| And.intro @K0a.shOk <| And.intro @K0a.at_0 <| And.intro @K0a.set_0 <| And.intro @K0a.fold_0 <| And.intro @K0a.fld_0 <| And.intro @K0a.rfa_0 <| And.intro @K0a.sub_0 <| And.intro @K0a.at_1 <| And.intro @K0a.set_1 <| And.intro @K0a.fold_1 <| And.intro @K0a.fld_1 <| And.intro @K0a.rfa_1 <| And.intro @K0a.sub_1 <| And.intro @K0a.at_2 <| And.intro @K0a.set_2 <| And.intro @K0a.fold_2 <| And.intro @K0a.fld_2 <| And.intro @K0a.rfa_2 <| And.intro @K0a.sub_2 <| And.intro @K0a.at_3 <| And.intro @K0a.set_3 <| And.intro @K0a.fold_3 <| And.intro @K0a.fld_3 <| And.intro @K0a.rfa_3 <| And.intro @K0a.sub_3 <| And.intro @K0a.at_4 <| And.intro @K0a.set_4 <| And.intro @K0a.fold_4 <| And.intro @K0a.fld_4 <| And.intro @K0a.rfa_4 <| And.intro @K0a.sub_4 <| And.intro @K0a.at_5 <| And.intro @K0a.set_5 <| And.intro @K0a.fold_5 <| And.intro @K0a.fld_5 <| And.intro @K0a.rfa_5 <| And.intro @K0a.sub_5 <| And.intro @K0a.at_6 <| And.intro @K0a.set_6 <| And.intro @K0a.fold_6 <| And.intro @K0a.fld_6 <| And.intro @K0a.rfa_6 <| And.intro @K0a.sub_6 <| And.intro @K0a.at_7 <| And.intro @K0a.set_7 <| And.intro @K0a.fold_7 <| And.intro @K0a.fld_7 <| And.intro @K0a.rfa_7 <| And.intro @K0a.sub_7 <| And.intro @K0a.at_8 <| And.intro @K0a.set_8 <| And.intro @K0a.fold_8 <| And.intro @K0a.fld_8 <| And.intro @K0a.rfa_8 <| And.intro @K0a.sub_8 <| And.intro @K0a.at_9 <| And.intro @K0a.set_9 <| And.intro @K0a.fold_9 <| And.intro @K0a.fld_9 <| And.intro @K0a.rfa_9 <| And.intro @K0a.sub_9 <| And.intro @K0a.sub_nil <| And.intro @K0a.alloc <| And.intro @K0a.xalloc <| And.intro @K0a.xbox <| And.intro @K0a.bld_0_1_2_3_4_5 <| And.intro @K0a.bld_0_1_4_6_7_8 <| @K0a.bld_0_1_4_6_7_9
set_option linter.defProp false in
def Z0i := And.intro @X0a.shape <| And.intro @X0a.shOk <| And.intro @X0a.eql <| And.intro @X0a.neq <| And.intro @X0a.at_0 <| And.intro @X0a.set_0 <| And.intro @X0a.fold_0 <| And.intro @X0a.fld_0 <| And.intro @X0a.rfa_0 <| And.intro @X0a.sub_0 <| And.intro @X0a.at_1 <| And.intro @X0a.set_1 <| And.intro @X0a.fold_1 <| And.intro @X0a.fld_1 <| And.intro @X0a.rfa_1 <| And.intro @X0a.sub_1 <| And.intro @X0a.at_2 <| And.intro @X0a.at_2k <| And.intro @X0a.set_2 <| And.intro @X0a.set_2k <| And.intro @X0a.fold_2k <| And.intro @X0a.fold_2 <| And.intro @X0a.fld_2 <| And.intro @X0a.rfa_2 <| And.intro @X0a.sub_2k <| And.intro @X0a.sub_2 <| And.intro @X0a.at_3 <| And.intro @X0a.at_3k <| And.intro @X0a.set_3 <| And.intro @X0a.set_3k <| And.intro @X0a.fold_3k <| And.intro @X0a.fold_3 <| And.intro @X0a.fld_3 <| And.intro @X0a.rfa_3 <| And.intro @X0a.sub_3k <| And.intro @X0a.sub_3 <| And.intro @X0a.sub_nil <| And.intro @X0a.alloc <| And.intro @X0a.xalloc <| And.intro @X0a.xbox <| And.intro @X0a.bld_none <| And.intro @X0a.bld_0_1 <| @X0a.bld_1
set_option linter.defProp false in
def K0p := And.intro @V0b.shape <| And.intro @V0b.shOk <| And.intro @V0b.eql <| And.intro @V0b.neq <| And.intro @V0b.at_0 <| And.intro @V0b.set_0 <| And.intro @V0b.fold_0 <| And.intro @V0b.fld_0 <| And.intro @V0b.rfa_0 <| And.intro @V0b.sub_0 <| And.intro @V0b.at_1 <| And.intro @V0b.set_1 <| And.intro @V0b.fold_1 <| And.intro @V0b.fld_1 <| And.intro @V0b.rfa_1 <| And.intro @V0b.sub_1 <| And.intro @V0b.sub_nil <| And.intro @V0b.alloc <| And.intro @V0b.xalloc <| And.intro @V0b.xbox <| And.intro @V0b.bld_0 <| @V0b.bld_0_1
set_option linter.defProp false in
def K0g := And.intro @Y0a.shape <| And.intro @Y0a.shOk <| And.intro @Y0a.at_0 <| And.intro @Y0a.set_0 <| And.intro @Y0a.fold_0 <| And.intro @Y0a.fld_0 <| And.intro @Y0a.rfa_0 <| And.intro @Y0a.sub_0 <| And.intro @Y0a.at_1 <| And.intro @Y0a.set_1 <| And.intro @Y0a.fold_1 <| And.intro @Y0a.fld_1 <| And.intro @Y0a.rfa_1 <| And.intro @Y0a.sub_1 <| And.intro @Y0a.at_2 <| And.intro @Y0a.set_2 <| And.intro @Y0a.fold_2 <| And.intro @Y0a.fld_2 <| And.intro @Y0a.rfa_2 <| And.intro @Y0a.sub_2 <| And.intro @Y0a.sub_nil <| And.intro @Y0a.alloc <| And.intro @Y0a.xalloc <| And.intro @Y0a.xbox <| @Y0a.bld_0_1
set_option linter.defProp false in
def Q0k := And.intro @K0b.shape <| And.intro @K0b.shOk <| And.intro @K0b.at_0 <| And.intro @K0b.set_0 <| And.intro @K0b.fold_0 <| And.intro @K0b.fld_0 <| And.intro @K0b.rfa_0 <| And.intro @K0b.sub_0 <| And.intro @K0b.at_1 <| And.intro @K0b.set_1 <| And.intro @K0b.fold_1 <| And.intro @K0b.fld_1 <| And.intro @K0b.rfa_1 <| And.intro @K0b.sub_1 <| And.intro @K0b.at_2 <| And.intro @K0b.set_2 <| And.intro @K0b.fold_2 <| And.intro @K0b.fld_2 <| And.intro @K0b.rfa_2 <| And.intro @K0b.sub_2 <| And.intro @K0b.at_3 <| And.intro @K0b.set_3 <| And.intro @K0b.fold_3 <| And.intro @K0b.fld_3 <| And.intro @K0b.rfa_3 <| And.intro @K0b.sub_3 <| And.intro @K0b.sub_nil <| And.intro @K0b.alloc <| And.intro @K0b.xalloc <| And.intro @K0b.xbox <| @K0b.bld_0_1_2
set_option linter.defProp false in
def X0y := And.intro @K0c.shape <| And.intro @K0c.shOk <| And.intro @K0c.eql <| And.intro @K0c.neq <| And.intro @K0c.at_0 <| And.intro @K0c.set_0 <| And.intro @K0c.fold_0 <| And.intro @K0c.fld_0 <| And.intro @K0c.rfa_0 <| And.intro @K0c.sub_0 <| And.intro @K0c.sub_nil <| And.intro @K0c.alloc <| And.intro @K0c.xalloc <| And.intro @K0c.xbox <| @K0c.bld_0
set_option linter.defProp false in
def V06 := And.intro @Q0b.shape <| And.intro @Q0b.shOk <| And.intro @Q0b.at_0 <| And.intro @Q0b.set_0 <| And.intro @Q0b.fold_0 <| And.intro @Q0b.fld_0 <| And.intro @Q0b.rfa_0 <| And.intro @Q0b.sub_0 <| And.intro @Q0b.at_1 <| And.intro @Q0b.set_1 <| And.intro @Q0b.fold_1 <| And.intro @Q0b.fld_1 <| And.intro @Q0b.rfa_1 <| And.intro @Q0b.sub_1 <| And.intro @Q0b.at_2 <| And.intro @Q0b.set_2 <| And.intro @Q0b.fold_2 <| And.intro @Q0b.fld_2 <| And.intro @Q0b.rfa_2 <| And.intro @Q0b.sub_2 <| And.intro @Q0b.at_3 <| And.intro @Q0b.set_3 <| And.intro @Q0b.fold_3 <| And.intro @Q0b.fld_3 <| And.intro @Q0b.rfa_3 <| And.intro @Q0b.sub_3 <| And.intro @Q0b.sub_nil <| And.intro @Q0b.alloc <| And.intro @Q0b.xalloc <| And.intro @Q0b.xbox <| @Q0b.bld_0_1_2
theorem zsl32 (l : List Int) (n : Int) (h : l.length = 4) (hn : 0 ≤ n ∧ n < 4) : qindex C 32 (.agg (l.map I)) (I n) = some (I (nth l n.toNat)) := K1d C I tt32 rfl tt3 (fun _ => rfl) l n h hn
theorem zsl63 (l : List Q0a) (n : Int) (h : l.length = 16) (hn : 0 ≤ n ∧ n < 16) : qindex C 63 (.agg (l.map Q0a.cv)) (I n) = some (Q0a.cv (nth l n.toNat)) := K1d C Q0a.cv tt63 rfl tt34 Q0a.shape l n h hn
theorem zsl64 (l : List Int) (n : Int) (h : l.length = 8) (hn : 0 ≤ n ∧ n < 8) : qindex C 64 (.agg (l.map I)) (I n) = some (I (nth l n.toNat)) := K1d C I tt64 rfl tt3 (fun _ => rfl) l n h hn
theorem sl_len22 (s : Lst Q0c) (h : Heap) : qlen C h 22 (Lst.cv Q0c.cv s) = some (I s.l.length) := by simp only [qlen, tt22, ti22, Lst.cv, List.length_map]
theorem sl_idx22 (s : Lst Q0c) (p : Hp) (n : Int) (h : 0 ≤ n ∧ n < s.l.length) : xindexAddr C p 22 (Lst.cv Q0c.cv s) (I n) = some (.rptr (Q0c.cv (nth s.l n.toNat))) := by
  have hl : n.toNat < s.l.length := by omega
  show qindexAddr C p.h 22 (.lst s.tl (s.l.map Q0c.cv)) (I n) = _
  simp only [qindexAddr, tt22, ti22, tt31, List.length_map, h, and_self, if_true, List.getElem?_map, Q0s hl, Option.map_some]
  rw [if_pos]
  exact Q0c.shape _
theorem sl_src22 (s : Lst Q0c) (h : Heap) : srcOf C h 22 (Lst.cv Q0c.cv s) = some (s.l.map Q0c.cv) := by simp only [srcOf, tt22, ti22, Lst.cv]
theorem X1s : isSliceT C 22 = true := by simp only [isSliceT, tt22, ti22]
theorem sl_app22 (p : Hp) (b s : Lst Q0c) (h : b.l.length + s.l.length ≤ 5864062014805) : xappend C false p 22 22 (Lst.cv Q0c.cv b) (Lst.cv Q0c.cv s) = appT Q0c.cv p b s := Q0p C Q0c.cv tt22 tt31 Q0c.shOk p b s (by show _ * 24 ≤ _; omega) (by omega)
theorem sl_inj22 (b s : Lst Q0c) : Lst.cv Q0c.cv b = Lst.cv Q0c.cv s ↔ b = s := ⟨fun h => Lst.inj Q0c.injF h, fun h => by rw [h]⟩
theorem sl_lenl22 (tl : Tail) (l : List CV) (h : Heap) : qlen C h 22 (.lst tl l) = some (I l.length) := by simp only [qlen, tt22, ti22]
theorem sl_lens22 (i : Nat) (q : List Nat) (o n : Nat) (h : Heap) : qlen C h 22 (.slc i q o n) = some (I n) := by simp only [qlen, tt22, ti22]
set_option linter.defProp false in
def zsl22 := And.intro @sl_lenl22 <| And.intro @sl_lens22 <| And.intro @sl_len22 <| And.intro @sl_idx22 <| And.intro @sl_src22 <| And.intro @sl_app22 <| And.intro (V1f C X1s) <| And.intro (Z0y C X1s) <| X1s
theorem sl_len23 (s : Lst X0c) (h : Heap) : qlen C h 23 (Lst.cv X0c.cv s) = some (I s.l.length) := by simp only [qlen, tt23, ti23, Lst.cv, List.length_map]
theorem sl_idx23 (s : Lst X0c) (p : Hp) (n : Int) (h : 0 ≤ n ∧ n < s.l.length) : xindexAddr C p 23 (Lst.cv X0c.cv s) (I n) = some (.rptr (X0c.cv (nth s.l n.toNat))) := by
  have hl : n.toNat < s.l.length := by omega
  show qindexAddr C p.h 23 (.lst s.tl (s.l.map X0c.cv)) (I n) = _
  simp only [qindexAddr, tt23, ti23, tt29, List.length_map, h, and_self, if_true, List.getElem?_map, Q0s hl, Option.map_some]
  rw [if_pos]
  exact X0c.shape _
theorem sl_src23 (s : Lst X0c) (h : Heap) : srcOf C h 23 (Lst.cv X0c.cv s) = some (s.l.map X0c.cv) := by simp only [srcOf, tt23, ti23, Lst.cv]
theorem Y1o : isSliceT C 23 = true := by simp only [isSliceT, tt23, ti23]
theorem sl_b23_0 : qbuildSlice C 23 0 [] = some (Lst.cv X0c.cv ⟨.exact, [], nofun⟩) := Y0g C tt23 tt29 (by decide) (by decide) rfl rfl
theorem sl_b23_1 : ∀ (a0 : X0c), qbuildSlice C 23 1 [(0, X0c.cv a0)] = some (Lst.cv X0c.cv ⟨.exact, [a0], nofun⟩) := fun a0 => Y0g C tt23 tt29 (by decide) (by decide) (by simp only [partsOk, List.all_cons, List.all_nil, List.replicate_succ, List.replicate_zero, List.getElem?_cons_zero, List.getElem?_cons_succ, CV.shape, X0c.shape, Bool.and_true, decide_true]; try rfl) rfl
theorem sl_b23_2 : ∀ (a0 : X0c) (a1 : X0c), qbuildSlice C 23 2 [(0, X0c.cv a0), (1, X0c.cv a1)] = some (Lst.cv X0c.cv ⟨.exact, [a0, a1], nofun⟩) := fun a0 a1 => Y0g C tt23 tt29 (by decide) (by decide) (by simp only [partsOk, List.all_cons, List.all_nil, List.replicate_succ, List.replicate_zero, List.getElem?_cons_zero, List.getElem?_cons_succ, CV.shape, X0c.shape, Bool.and_true, decide_true]; try rfl) rfl
theorem sl_b23_3 : ∀ (a0 : X0c) (a1 : X0c) (a2 : X0c), qbuildSlice C 23 3 [(0, X0c.cv a0), (1, X0c.cv a1), (2, X0c.cv a2)] = some (Lst.cv X0c.cv ⟨.exact, [a0, a1, a2], nofun⟩) := fun a0 a1 a2 => Y0g C tt23 tt29 (by decide) (by decide) (by simp only [partsOk, List.all_cons, List.all_nil, List.replicate_succ, List.replicate_zero, List.getElem?_cons_zero, List.getElem?_cons_succ, CV.shape, X0c.shape, Bool.and_true, decide_true]; try rfl) rfl
theorem sl_b23_4 : ∀ (a0 : X0c) (a1 : X0c) (a2 : X0c) (a3 : X0c), qbuildSlice C 23 4 [(0, X0c.cv a0), (1, X0c.cv a1), (2, X0c.cv a2), (3, X0c.cv a3)] = some (Lst.cv X0c.cv ⟨.exact, [a0, a1, a2, a3], nofun⟩) := fun a0 a1 a2 a3 => Y0g C tt23 tt29 (by decide) (by decide) (by simp only [partsOk, List.all_cons, List.all_nil, List.replicate_succ, List.replicate_zero, List.getElem?_cons_zero, List.getElem?_cons_succ, CV.shape, X0c.shape, Bool.and_true, decide_true]; try rfl) rfl
theorem sl_app23 (p : Hp) (b s : Lst X0c) (h : b.l.length + s.l.length ≤ 5864062014805) : xappend C false p 23 23 (Lst.cv X0c.cv b) (Lst.cv X0c.cv s) = appT X0c.cv p b s := Q0p C X0c.cv tt23 tt29 X0c.shOk p b s (by show _ * 24 ≤ _; omega) (by omega)
theorem K0m (b s : Lst X0c) : Lst.cv X0c.cv b = Lst.cv X0c.cv s ↔ b = s := ⟨fun h => Lst.inj X0c.injF h, fun h => by rw [h]⟩
theorem sl_lenl23 (tl : Tail) (l : List CV) (h : Heap) : qlen C h 23 (.lst tl l) = some (I l.length) := by simp only [qlen, tt23, ti23]
theorem sl_lens23 (i : Nat) (q : List Nat) (o n : Nat) (h : Heap) : qlen C h 23 (.slc i q o n) = some (I n) := by simp only [qlen, tt23, ti23]
set_option linter.defProp false in
def zsl23 := And.intro @sl_lenl23 <| And.intro @sl_lens23 <| And.intro @sl_len23 <| And.intro @sl_idx23 <| And.intro @sl_src23 <| And.intro @sl_app23 <| And.intro (V1f C Y1o) <| And.intro (Z0y C Y1o) <| And.intro @sl_b23_0 <| And.intro @sl_b23_1 <| And.intro @sl_b23_2 <| And.intro @sl_b23_3 <| And.intro @sl_b23_4 <| Y1o
theorem sl_len24 (s : Lst Int) (h : Heap) : qlen C h 24 (Lst.cv I s) = some (I s.l.length) := by simp only [qlen, tt24, ti24, Lst.cv, List.length_map]
theorem sl_idx24 (s : Lst Int) (p : Hp) (n : Int) (h : 0 ≤ n ∧ n < s.l.length) : xindexAddr C p 24 (Lst.cv I s) (I n) = some (.rptr (I (nth s.l n.toNat))) := by
  have hl : n.toNat < s.l.length := by omega
  show qindexAddr C p.h 24 (.lst s.tl (s.l.map I)) (I n) = _
  simp only [qindexAddr, tt24, ti24, tt3, List.length_map, h, and_self, if_true, List.getElem?_map, Q0s hl, Option.map_some]
  rw [if_pos]
  exact rfl
theorem sl_src24 (s : Lst Int) (h : Heap) : srcOf C h 24 (Lst.cv I s) = some (s.l.map I) := by simp only [srcOf, tt24, ti24, Lst.cv]
theorem V1n : isSliceT C 24 = true := by simp only [isSliceT, tt24, ti24]
theorem sl_b24_1 : ∀ (a0 : Int), qbuildSlice C 24 1 [(0, I a0)] = some (Lst.cv I ⟨.exact, [a0], nofun⟩) := fun a0 => Y0g C tt24 tt3 (by decide) (by decide) (by simp only [partsOk, List.all_cons, List.all_nil, List.replicate_succ, List.replicate_zero, List.getElem?_cons_zero, List.getElem?_cons_succ, CV.shape, Bool.and_true, decide_true]; try rfl) rfl
theorem sl_b24_8 : ∀ (a0 : Int) (a1 : Int) (a2 : Int) (a3 : Int) (a4 : Int) (a5 : Int) (a6 : Int) (a7 : Int), qbuildSlice C 24 8 [(0, I a0), (1, I a1), (2, I a2), (3, I a3), (4, I a4), (5, I a5), (6, I a6), (7, I a7)] = some (Lst.cv I ⟨.exact, [a0, a1, a2, a3, a4, a5, a6, a7], nofun⟩) := fun a0 a1 a2 a3 a4 a5 a6 a7 => Y0g C tt24 tt3 (by decide) (by decide) (by simp only [partsOk, List.all_cons, List.all_nil, List.replicate_succ, List.replicate_zero, List.getElem?_cons_zero, List.getElem?_cons_succ, CV.shape, Bool.and_true, decide_true]; try rfl) rfl
theorem sl_app24 (p : Hp) (b s : Lst Int) (h : b.l.length + s.l.length ≤ 17592186044416) : xappend C false p 24 24 (Lst.cv I b) (Lst.cv I s) = appT I p b s := Q0p C I tt24 tt3 (fun _ => rfl) p b s (by show _ * 8 ≤ _; omega) (by omega)
theorem X0t (b s : Lst Int) : Lst.cv I b = Lst.cv I s ↔ b = s := ⟨fun h => Lst.inj I_inj h, fun h => by rw [h]⟩
theorem sl_lenl24 (tl : Tail) (l : List CV) (h : Heap) : qlen C h 24 (.lst tl l) = some (I l.length) := by simp only [qlen, tt24, ti24]
theorem sl_lens24 (i : Nat) (q : List Nat) (o n : Nat) (h : Heap) : qlen C h 24 (.slc i q o n) = some (I n) := by simp only [qlen, tt24, ti24]
set_option linter.defProp false in
def zsl24 := And.intro @sl_lenl24 <| And.intro @sl_lens24 <| And.intro @sl_len24 <| And.intro @sl_idx24 <| And.intro @sl_src24 <| And.intro @sl_app24 <| And.intro (V1f C V1n) <| And.intro (Z0y C V1n) <| And.intro @sl_b24_1 <| And.intro @sl_b24_8 <| V1n
theorem sl_len37 (s : Lst Q0a) (h : Heap) : qlen C h 37 (Lst.cv Q0a.cv s) = some (I s.l.length) := by simp only [qlen, tt37, ti37, Lst.cv, List.length_map]
theorem sl_idx37 (s : Lst Q0a) (p : Hp) (n : Int) (h : 0 ≤ n ∧ n < s.l.length) : xindexAddr C p 37 (Lst.cv Q0a.cv s) (I n) = some (.rptr (Q0a.cv (nth s.l n.toNat))) := by
  have hl : n.toNat < s.l.length := by omega
  show qindexAddr C p.h 37 (.lst s.tl (s.l.map Q0a.cv)) (I n) = _
  simp only [qindexAddr, tt37, ti37, tt34, List.length_map, h, and_self, if_true, List.getElem?_map, Q0s hl, Option.map_some]
  rw [if_pos]
  exact Q0a.shape _
theorem sl_src37 (s : Lst Q0a) (h : Heap) : srcOf C h 37 (Lst.cv Q0a.cv s) = some (s.l.map Q0a.cv) := by simp only [srcOf, tt37, ti37, Lst.cv]
theorem X1r : isSliceT C 37 = true := by simp only [isSliceT, tt37, ti37]
theorem sl_b37_0 : qbuildSlice C 37 0 [] = some (Lst.cv Q0a.cv ⟨.exact, [], nofun⟩) := Y0g C tt37 tt34 (by decide) (by decide) rfl rfl
theorem sl_b37_1 : ∀ (a0 : Q0a), qbuildSlice C 37 1 [(0, Q0a.cv a0)] = some (Lst.cv Q0a.cv ⟨.exact, [a0], nofun⟩) := fun a0 => Y0g C tt37 tt34 (by decide) (by decide) (by simp only [partsOk, List.all_cons, List.all_nil, List.replicate_succ, List.replicate_zero, List.getElem?_cons_zero, List.getElem?_cons_succ, CV.shape, Q0a.shape, Bool.and_true, decide_true]; try rfl) rfl
theorem sl_app37 (p : Hp) (b s : Lst Q0a) (h : b.l.length + s.l.length ≤ 1466015503701) : xappend C false p 37 37 (Lst.cv Q0a.cv b) (Lst.cv Q0a.cv s) = appT Q0a.cv p b s := Q0p C Q0a.cv tt37 tt34 Q0a.shOk p b s (by show _ * 96 ≤ _; omega) (by omega)
theorem Z0r (b s : Lst Q0a) : Lst.cv Q0a.cv b = Lst.cv Q0a.cv s ↔ b = s := ⟨fun h => Lst.inj Q0a.injF h, fun h => by rw [h]⟩
theorem sl_lenl37 (tl : Tail) (l : List CV) (h : Heap) : qlen C h 37 (.lst tl l) = some (I l.length) := by simp only [qlen, tt37, ti37]
theorem sl_lens37 (i : Nat) (q : List Nat) (o n : Nat) (h : Heap) : qlen C h 37 (.slc i q o n) = some (I n) := by simp only [qlen, tt37, ti37]
set_option linter.defProp false in
def zsl37 := And.intro @sl_lenl37 <| And.intro @sl_lens37 <| And.intro @sl_len37 <| And.intro @sl_idx37 <| And.intro @sl_src37 <| And.intro @sl_app37 <| And.intro (V1f C X1r) <| And.intro (Z0y C X1r) <| And.intro @sl_b37_0 <| And.intro @sl_b37_1 <| X1r
theorem sl_len58 (s : Lst (Lst Int)) (h : Heap) : qlen C h 58 (Lst.cv (Lst.cv I) s) = some (I s.l.length) := by simp only [qlen, tt58, ti58, Lst.cv, List.length_map]
theorem sl_idx58 (s : Lst (Lst Int)) (p : Hp) (n : Int) (h : 0 ≤ n ∧ n < s.l.length) : xindexAddr C p 58 (Lst.cv (Lst.cv I) s) (I n) = some (.rptr ((Lst.cv I) (nth s.l n.toNat))) := by
  have hl : n.toNat < s.l.length := by omega
  show qindexAddr C p.h 58 (.lst s.tl (s.l.map (Lst.cv I))) (I n) = _
  simp only [qindexAddr, tt58, ti58, tt24, List.length_map, h, and_self, if_true, List.getElem?_map, Q0s hl, Option.map_some]
  rw [if_pos]
  exact rfl
theorem sl_src58 (s : Lst (Lst Int)) (h : Heap) : srcOf C h 58 (Lst.cv (Lst.cv I) s) = some (s.l.map (Lst.cv I)) := by simp only [srcOf, tt58, ti58, Lst.cv]
theorem V1p : isSliceT C 58 = true := by simp only [isSliceT, tt58, ti58]
theorem sl_app58 (p : Hp) (b s : Lst (Lst Int)) (h : b.l.length + s.l.length ≤ 5864062014805) : xappend C false p 58 58 (Lst.cv (Lst.cv I) b) (Lst.cv (Lst.cv I) s) = appT (Lst.cv I) p b s := Q0p C (Lst.cv I) tt58 tt24 (fun _ => rfl) p b s (by show _ * 24 ≤ _; omega) (by omega)
theorem Z1p (b s : Lst (Lst Int)) : Lst.cv (Lst.cv I) b = Lst.cv (Lst.cv I) s ↔ b = s := ⟨fun h => Lst.inj (Lst.injF I_inj) h, fun h => by rw [h]⟩
theorem sl_lenl58 (tl : Tail) (l : List CV) (h : Heap) : qlen C h 58 (.lst tl l) = some (I l.length) := by simp only [qlen, tt58, ti58]
theorem sl_lens58 (i : Nat) (q : List Nat) (o n : Nat) (h : Heap) : qlen C h 58 (.slc i q o n) = some (I n) := by simp only [qlen, tt58, ti58]
set_option linter.defProp false in
def zsl58 := And.intro @sl_lenl58 <| And.intro @sl_lens58 <| And.intro @sl_len58 <| And.intro @sl_idx58 <| And.intro @sl_src58 <| And.intro @sl_app58 <| And.intro (V1f C V1p) <| And.intro (Z0y C V1p) <| V1p
theorem sl_len92 (s : Lst (Lst V0b)) (h : Heap) : qlen C h 92 (Lst.cv (Lst.cv V0b.cv) s) = some (I s.l.length) := by simp only [qlen, tt92, ti92, Lst.cv, List.length_map]
theorem sl_idx92 (s : Lst (Lst V0b)) (p : Hp) (n : Int) (h : 0 ≤ n ∧ n < s.l.length) : xindexAddr C p 92 (Lst.cv (Lst.cv V0b.cv) s) (I n) = some (.rptr ((Lst.cv V0b.cv) (nth s.l n.toNat))) := by
  have hl : n.toNat < s.l.length := by omega
  show qindexAddr C p.h 92 (.lst s.tl (s.l.map (Lst.cv V0b.cv))) (I n) = _
  simp only [qindexAddr, tt92, ti92, tt108, List.length_map, h, and_self, if_true, List.getElem?_map, Q0s hl, Option.map_some]
  rw [if_pos]
  exact rfl
theorem sl_src92 (s : Lst (Lst V0b)) (h : Heap) : srcOf C h 92 (Lst.cv (Lst.cv V0b.cv) s) = some (s.l.map (Lst.cv V0b.cv)) := by simp only [srcOf, tt92, ti92, Lst.cv]
theorem Z1r : isSliceT C 92 = true := by simp only [isSliceT, tt92, ti92]
theorem sl_b92_1 : ∀ (a0 : (Lst V0b)), qbuildSlice C 92 1 [(0, (Lst.cv V0b.cv) a0)] = some (Lst.cv (Lst.cv V0b.cv) ⟨.exact, [a0], nofun⟩) := fun a0 => Y0g C tt92 tt108 (by decide) (by decide) (by simp only [partsOk, List.all_cons, List.all_nil, List.replicate_succ, List.replicate_zero, List.getElem?_cons_zero, List.getElem?_cons_succ, CV.shape, Lst.shape, Bool.and_true, decide_true]; try rfl) rfl
theorem sl_app92 (p : Hp) (b s : Lst (Lst V0b)) (h : b.l.length + s.l.length ≤ 5864062014805) : xappend C false p 92 92 (Lst.cv (Lst.cv V0b.cv) b) (Lst.cv (Lst.cv V0b.cv) s) = appT (Lst.cv V0b.cv) p b s := Q0p C (Lst.cv V0b.cv) tt92 tt108 (fun _ => rfl) p b s (by show _ * 24 ≤ _; omega) (by omega)
theorem sl_inj92 (b s : Lst (Lst V0b)) : Lst.cv (Lst.cv V0b.cv) b = Lst.cv (Lst.cv V0b.cv) s ↔ b = s := ⟨fun h => Lst.inj (Lst.injF V0b.injF) h, fun h => by rw [h]⟩
theorem sl_lenl92 (tl : Tail) (l : List CV) (h : Heap) : qlen C h 92 (.lst tl l) = some (I l.length) := by simp only [qlen, tt92, ti92]
theorem sl_lens92 (i : Nat) (q : List Nat) (o n : Nat) (h : Heap) : qlen C h 92 (.slc i q o n) = some (I n) := by simp only [qlen, tt92, ti92]
set_option linter.defProp false in
def zsl92 := And.intro @sl_lenl92 <| And.intro @sl_lens92 <| And.intro @sl_len92 <| And.intro @sl_idx92 <| And.intro @sl_src92 <| And.intro @sl_app92 <| And.intro (V1f C Z1r) <| And.intro (Z0y C Z1r) <| And.intro @sl_b92_1 <| Z1r
theorem sl_len108 (s : Lst V0b) (h : Heap) : qlen C h 108 (Lst.cv V0b.cv s) = some (I s.l.length) := by simp only [qlen, tt108, ti108, Lst.cv, List.length_map]
theorem sl_idx108 (s : Lst V0b) (p : Hp) (n : Int) (h : 0 ≤ n ∧ n < s.l.length) : xindexAddr C p 108 (Lst.cv V0b.cv s) (I n) = some (.rptr (V0b.cv (nth s.l n.toNat))) := by
  have hl : n.toNat < s.l.length := by omega
  show qindexAddr C p.h 108 (.lst s.tl (s.l.map V0b.cv)) (I n) = _
  simp only [qindexAddr, tt108, ti108, tt110, List.length_map, h, and_self, if_true, List.getElem?_map, Q0s hl, Option.map_some]
  rw [if_pos]
  exact V0b.shape _
theorem sl_src108 (s : Lst V0b) (h : Heap) : srcOf C h 108 (Lst.cv V0b.cv s) = some (s.l.map V0b.cv) := by simp only [srcOf, tt108, ti108, Lst.cv]
theorem Y1d : isSliceT C 108 = true := by simp only [isSliceT, tt108, ti108]
theorem sl_b108_0 : qbuildSlice C 108 0 [] = some (Lst.cv V0b.cv ⟨.exact, [], nofun⟩) := Y0g C tt108 tt110 (by decide) (by decide) rfl rfl
theorem sl_b108_1 : ∀ (a0 : V0b), qbuildSlice C 108 1 [(0, V0b.cv a0)] = some (Lst.cv V0b.cv ⟨.exact, [a0], nofun⟩) := fun a0 => Y0g C tt108 tt110 (by decide) (by decide) (by simp only [partsOk, List.all_cons, List.all_nil, List.replicate_succ, List.replicate_zero, List.getElem?_cons_zero, List.getElem?_cons_succ, CV.shape, V0b.shape, Bool.and_true, decide_true]; try rfl) rfl
theorem sl_app108 (p : Hp) (b s : Lst V0b) (h : b.l.length + s.l.length ≤ 4398046511104) : xappend C false p 108 108 (Lst.cv V0b.cv b) (Lst.cv V0b.cv s) = appT V0b.cv p b s := Q0p C V0b.cv tt108 tt110 V0b.shOk p b s (by show _ * 32 ≤ _; omega) (by omega)
theorem Q0w (b s : Lst V0b) : Lst.cv V0b.cv b = Lst.cv V0b.cv s ↔ b = s := ⟨fun h => Lst.inj V0b.injF h, fun h => by rw [h]⟩
theorem sl_lenl108 (tl : Tail) (l : List CV) (h : Heap) : qlen C h 108 (.lst tl l) = some (I l.length) := by simp only [qlen, tt108, ti108]
theorem sl_lens108 (i : Nat) (q : List Nat) (o n : Nat) (h : Heap) : qlen C h 108 (.slc i q o n) = some (I n) := by simp only [qlen, tt108, ti108]
set_option linter.defProp false in
def zsl108 := And.intro @sl_lenl108 <| And.intro @sl_lens108 <| And.intro @sl_len108 <| And.intro @sl_idx108 <| And.intro @sl_src108 <| And.intro @sl_app108 <| And.intro (V1f C Y1d) <| And.intro (Z0y C Y1d) <| And.intro @sl_b108_0 <| And.intro @sl_b108_1 <| Y1d
end Go.Proofs.Ytpchcfkebljopaa
end
section
namespace Go.Proofs.Ytpchcfkebljopaa
open Go.Cl Go Go.RowKit
abbrev w64 (n : Int) : Int := IntKind.i64.wrap n
def brought (n lo hi : Int) : Int := max lo (min n hi)
def within (n lo hi : Int) : Bool := decide (lo ≤ n) && decide (n ≤ hi)
theorem X0b {n lo hi : Int} (h : within n lo hi = true) : lo ≤ n ∧ n ≤ hi := by simpa [within] using h
abbrev Body := Q0a
abbrev Mach := Y0a
def Body.right (b : Q0a) : Bool :=
  if b.Kind = 0 then decide (b = Q0a.zero) else
  b.Mem.all (fun n => within n (-1000000) 1000000) && (decide (b.Kind = 1) || decide (b.Kind = 2)) && within b.Owner 0 7 && within b.X 0 4095 && within b.Y 0 4095 && within b.VX (-64) 64 && within b.VY (-64) 64 && within b.Age 0 600 && within b.Faults 0 65535
def bodyShoot (b : Q0a) (vx vy : Int) : Q0a :=
  if Body.right b = true ∧ b.Kind ≠ 0 then { Q0a.zero with Kind := 2, Owner := b.Owner, X := b.X, Y := b.Y, VX := brought vx (-64) 64, VY := brought vy (-64) 64 } else Q0a.zero
def fault (c at_ : Int) : CV := .ifc 194 (K0c.cv ⟨⟨c, at_⟩⟩)
def Mach.body (m : Y0a) (f : Q0a → Q0a) : Y0a := { m with e_ := { m.e_ with Body := f m.e_.Body } }
def Mach.set (m : Y0a) (k : Nat) (n : Int) : Y0a := Mach.body m fun b => b.put_7k k (brought n (-1000000) 1000000)
def Mach.reg (m : Y0a) (k : Nat) : Int := nth m.e_.Body.Mem k
def needA (c : Int) : Bool := !(decide (c = 8) || decide (c = 10) || decide (c = 13))
def needB (c : Int) : Bool := !(decide (c = 1) || decide (c = 7) || decide (c = 9) || decide (c = 10) || decide (c = 13))
def namedOk (o : X0c) : Bool := (!needA o.Code || within o.A 0 3) && (!needB o.Code || within o.B 0 3)
theorem namedOk_A {o : X0c} (h : namedOk o = true) : o.Code = 8 ∨ o.Code = 10 ∨ o.Code = 13 ∨ (0 ≤ o.A ∧ o.A < 4) := by
  simp [namedOk, needA, within] at h; omega
theorem namedOk_B {o : X0c} (h : namedOk o = true) : o.Code = 1 ∨ o.Code = 7 ∨ o.Code = 9 ∨ o.Code = 10 ∨ o.Code = 13 ∨ (0 ≤ o.B ∧ o.B < 4) := by
  simp [namedOk, needB, within] at h; omega
def Mach.field (m : Y0a) (k : Nat) : Int := nth [m.e_.Body.X, m.e_.Body.Y, m.e_.Body.VX, m.e_.Body.VY, m.e_.Body.Age, m.e_.In.Buttons, m.e_.In.X, m.e_.In.Y] k
def Mach.put (m : Y0a) (k n : Int) : Y0a := Mach.body m fun b =>
  if k = 0 then { b with X := brought n 0 4095 } else if k = 1 then { b with Y := brought n 0 4095 } else if k = 2 then { b with VX := brought n (-64) 64 } else { b with VY := brought n (-64) 64 }
def diceNext (d : Int) : Int := IntKind.u64.wrap (IntKind.u64.wrap (d * 6364136223846793005) + 1442695040888963407)
def diceNum (d : Int) : Int := IntKind.i64.wrap (d.fdiv (2 ^ 33))
def diceRoll (d n : Int) : Int × Int := if n < 1 then (d, 0) else (diceNext d, (diceNum (diceNext d)).tmod n)
def Mach.reckon (m : Y0a) (o : X0c) : Except Int Y0a :=
  let a := Mach.reg m o.A.toNat
  let b := Mach.reg m o.B.toNat
  let k := o.A.toNat
  if o.Code = 2 then .ok (Mach.set m k b)
  else if o.Code = 3 then .ok (Mach.set m k (w64 (a + b)))
  else if o.Code = 4 then .ok (Mach.set m k (w64 (a - b)))
  else if o.Code = 5 then .ok (Mach.set m k (w64 (a * b)))
  else if o.Code = 6 then (if b = 0 then .error 1 else .ok (Mach.set m k (w64 (a.tdiv b))))
  else if o.Code = 11 then (if b < 1 then .error 6 else .ok (Mach.set { m with e_ := { m.e_ with Dice := (diceRoll m.e_.Dice b).1 } } k (diceRoll m.e_.Dice b).2))
  else (if (m.e_.Shots.l.length : Int) < m.e_.Room then .ok { m with e_ := { m.e_ with Shots := ⟨.part, m.e_.Shots.l ++ [bodyShoot m.e_.Body a b], nofun⟩ } } else .error 7)
theorem Mach.set_at (m : Y0a) (k : Nat) (n : Int) : (Mach.set m k n).at_ = m.at_ := nd rfl
theorem Mach.put_at (m : Y0a) (k n : Int) : (Mach.put m k n).at_ = m.at_ := nd rfl
theorem Mach.reckon_keeps {m m' : Y0a} {o : X0c} (h : Mach.reckon m o = .ok m') : (m'.e_.Shots.tl = m.e_.Shots.tl ∨ m'.e_.Shots.tl = .part) ∧ m'.l_ = m.l_ ∧ m'.at_ = m.at_ ∧ m'.e_.Shots.l.length ≤ m.e_.Shots.l.length + 1 := by
  unfold Mach.reckon at h
  simp only at h
  repeat' (split at h)
  all_goals first
    | (cases h; done)
    | (cases h; simp [Mach.set, Mach.body])
def Mach.doOp (m : Y0a) (o : X0c) : Except Int (Y0a × Int) :=
  if within o.Code 1 13 = false then .error 4
  else if namedOk o = false then .error 2
  else if o.Code = 1 then .ok (Mach.set m o.A.toNat o.B, m.at_ + 1)
  else if o.Code = 7 then (if within o.B 0 7 = false then .error 3 else .ok (Mach.set m o.A.toNat (Mach.field m o.B.toNat), m.at_ + 1))
  else if o.Code = 8 then (if within o.A 0 3 = false then .error 3 else .ok (Mach.put m o.A (Mach.reg m o.B.toNat), m.at_ + 1))
  else if o.Code = 9 then (if Mach.reg m o.A.toNat = 0 then (if within o.B 0 m.l_.l.length = false then .error 4 else .ok (m, o.B)) else .ok (m, m.at_ + 1))
  else if o.Code = 10 then (if within o.B 0 m.l_.l.length = false then .error 4 else .ok (m, o.B))
  else if o.Code = 13 then .ok (m, m.l_.l.length)
  else match Mach.reckon m o with
    | .error c => .error c
    | .ok m' => .ok (m', m.at_ + 1)
theorem Mach.doOp_keeps {m m' : Y0a} {o : X0c} {n : Int} (h : Mach.doOp m o = .ok (m', n)) (h1 : 0 ≤ m.at_) (h2 : m.at_ < m.l_.l.length) : (m'.e_.Shots.tl = m.e_.Shots.tl ∨ m'.e_.Shots.tl = .part) ∧ m'.l_ = m.l_ ∧ m'.at_ = m.at_ ∧ m'.e_.Shots.l.length ≤ m.e_.Shots.l.length + 1 ∧ 0 ≤ n ∧ n ≤ m.l_.l.length := by
  unfold Mach.doOp at h
  repeat' (split at h)
  all_goals first
    | (cases h; done)
    | (rename_i hr; cases h; have := Mach.reckon_keeps hr; exact ⟨this.1, this.2.1, this.2.2.1, this.2.2.2, by omega, by omega⟩)
    | (cases h; refine ⟨.inl ?_, ?_, ?_, ?_, ?_, ?_⟩ <;> first | rfl | omega | (simp [Mach.set, Mach.put, Mach.body]; done))
    | (rename_i hw; cases h; have hw := X0b (by simpa using hw); exact ⟨.inl rfl, rfl, rfl, by omega, hw.1, hw.2⟩)
def Mach.run : Nat → Y0a → Except (Int × Int) Y0a
  | k, m => if m.at_ < m.l_.l.length then
      match k with
      | 0 => .error (5, m.at_)
      | k + 1 => match Mach.doOp m (nth m.l_.l m.at_.toNat) with
        | .error c => .error (c, m.at_)
        | .ok (m', n) => Mach.run k { m' with at_ := n }
    else .ok m
theorem Mach.run_keeps : ∀ (k : Nat) (m m' : Y0a), Mach.run k m = .ok m' → 0 ≤ m.at_ → (m'.e_.Shots.tl = m.e_.Shots.tl ∨ m'.e_.Shots.tl = .part) ∧ m'.l_ = m.l_
  | k, m, m', h, ha => by
    unfold Mach.run at h
    by_cases hlt : m.at_ < m.l_.l.length
    · rw [if_pos hlt] at h
      cases k with
      | zero => cases h
      | succ k =>
        simp only at h
        cases hd : Mach.doOp m (nth m.l_.l m.at_.toNat) with
        | error c => rw [hd] at h; cases h
        | ok r =>
          obtain ⟨m2, n⟩ := r
          rw [hd] at h
          simp only at h
          obtain ⟨k1, k2, _, _, k5, _⟩ := Mach.doOp_keeps hd ha hlt
          have ih := Mach.run_keeps k _ m' h k5
          refine ⟨?_, by rw [ih.2]; exact k2⟩
          rcases ih.1 with e | e
          · rw [e]; exact k1
          · exact .inr e
    · rw [if_neg hlt] at h; cases h; exact ⟨.inl rfl, rfl⟩
def cloneL {α : Type} (s : Lst α) (n : Nat) : Lst α :=
  match s.tl with
  | .nil => ⟨.nil, [], fun _ => rfl⟩
  | _ => match s.l with
    | [] => ⟨.exact, [], nofun⟩
    | x :: l => ⟨.own n, x :: l, nofun⟩
def cloneP {α : Type} (s : Lst α) : Lst α :=
  match s.tl with
  | .nil => ⟨.nil, [], fun _ => rfl⟩
  | _ => match s.l with
    | [] => ⟨.exact, [], nofun⟩
    | x :: l => ⟨.part, x :: l, nofun⟩
def cloneOwn {α : Type} (s : Lst α) : Bool :=
  match s.tl with
  | .nil => false
  | _ => !s.l.isEmpty
theorem appT_cl0 {α : Type} (f : α → CV) (p : Hp) (s : Lst α) (n : Nat) (u : Tail) (x : α) (m : List α) (o : _) (h : cloneOwn s = false) : appT f p (cloneL s n) ⟨u, x :: m, o⟩ = .ret (Lst.cv f ⟨.own p.n, s.l ++ x :: m, nofun⟩) (p.new (.tail (s.l.length + (m.length + 1)))) := by
  obtain ⟨tl, l, o'⟩ := s
  cases tl <;> cases l <;> simp_all [cloneL, cloneOwn, appT]
theorem appT_cl1 {α : Type} (f : α → CV) (p : Hp) (s : Lst α) (n : Nat) (u : Tail) (x : α) (m : List α) (o : _) (h : cloneOwn s = true) (hg : p.t.get n = some (.tail s.l.length)) : appT f p (cloneL s n) ⟨u, x :: m, o⟩ = .ret (Lst.cv f ⟨.own p.n, s.l ++ x :: m, nofun⟩) ((p.set n none).new (.tail (s.l.length + (m.length + 1)))) := by
  obtain ⟨tl, l, o'⟩ := s
  cases tl <;> cases l <;> simp_all [cloneL, cloneOwn, appT]
theorem K1q {α : Type} (s : Lst α) (n : Nat) : (cloneL s n).l = s.l := by
  obtain ⟨tl, l, o⟩ := s
  cases tl <;> cases l <;> simp_all [cloneL]
theorem V0t {α : Type} (s : Lst α) : (cloneP s).l = s.l := by
  obtain ⟨tl, l, o⟩ := s
  cases tl <;> cases l <;> simp_all [cloneP]
theorem cloneP_tl {α : Type} (s : Lst α) : (cloneP s).tl = .nil ∨ (cloneP s).tl = .exact ∨ (cloneP s).tl = .part := by
  obtain ⟨tl, l, o⟩ := s
  cases tl <;> cases l <;> simp_all [cloneP]
theorem cloneP_nv {α : Type} (s : Lst α) : (cloneP s).tl ≠ .view := by rcases cloneP_tl s with h | h | h <;> rw [h] <;> simp
theorem cloneP_no {α : Type} (s : Lst α) (j : Nat) : (cloneP s).tl ≠ .own j := by rcases cloneP_tl s with h | h | h <;> rw [h] <;> simp
theorem weak_clone {α : Type} {f : α → CV} (hf : ∀ x j, ¬ (f x).has j) (s : Lst α) (n k : Nat) : CV.weak (fun k => k) k (Lst.cv f (cloneL s n)) (Lst.cv f (cloneP s)) := by
  have hl : ∀ l : List α, CV.weakL (fun k => k) k (l.map f) (l.map f) := fun l => CV.weakL_refl _ fun j hj => (V0p hf l j hj).elim
  obtain ⟨tl, l, o⟩ := s
  cases tl <;> cases l <;> simp only [cloneL, cloneP, Lst.cv, CV.weak, Tail.weak, true_and] <;> exact hl _
def copiedE (e : Z0b) : Z0b := { e with Shots := cloneP e.Shots }
def ruleRun (l : Lst X0c) (e : Z0b) : Z0b × V0c × Bool :=
  if Body.right e.Body = false ∨ e.Body.Kind = 0 then (copiedE e, ⟨0, 0⟩, false)
  else match Mach.run 64 ⟨copiedE e, l, 0⟩ with
    | .ok m => (m.e_, ⟨0, 0⟩, true)
    | .error c => (copiedE e, ⟨c.1, c.2⟩, false)
end Go.Proofs.Ytpchcfkebljopaa
end
section
-- @nole
namespace Go.Proofs.Ytpchcfkebljopaa
open Go.Cl Go Go.RowKit
set_option maxRecDepth 100000
set_option linter.constructorNameAsVariable false
def R201 : Rel := fun args p r => ∃ (n lo hi : Int), args = [I n, I lo, I hi] ∧ r = .ret (I (brought n lo hi)) p
theorem t201 {T : XCall} (h : Has T 201 R201) (n lo hi : Int) {p : Hp}  : T 201 [I n, I lo, I hi] p = .ret (I (brought n lo hi)) p := h _ _ _ ⟨n, lo, hi, rfl, rfl⟩
theorem zq201 {A B : Prop} (h : A = B := by ((try simp -dsimp (disch := first | exact zdis | fail) only [zcore, zall, zopm, zop, zcallOp, qop, qbuiltin, ofOpt, List.map, reduceCtorEq, if_true, if_false, ↓reduceIte, zbin, eqRes, qassert, qnum, qshift, qun, kindOf, allocV, List.nil_append, List.append_nil, List.cons_append, List.length_cons, List.length_nil, Nat.reduceAdd, Nat.reduceEqDiff, Nat.reduceLT, Nat.reduceSub, Nat.reduceMul, Int.reduceToNat, Int.reduceLE, Int.reduceLT, Int.reduceEq, Int.reduceNeg, Int.reduceAdd, Int.reduceSub, beq_self_eq_true, cond_true, cond_false, isConstOpd, xpanic, xconv, isBytes, qconv, List.length_map, List.map_nil, List.map_cons, concrete, Option.some.injEq, exists_eq', Option.map_some, Option.map_none, List.getElem?_cons_zero, List.getElem?_cons_succ, zw201, rs201, tt3, ti3, zx, hc]); rfl)) (k : B) : A := h ▸ k
set_option maxHeartbeats 8000000 in
theorem c201 : Con C 201 R201 := by
  refine Z0f C ?_ ?_ ?_
  · rintro args p r r' ⟨n, lo, hi, h, e⟩ ⟨n', lo', hi', h', e'⟩
    subst e; subst e'; simp_all
  · rintro args p r ⟨n, lo, hi, h, rfl⟩; first | (split <;> simp; done) | (simp; done) | (simp only [resM]; split <;> simp; done) | (simp only [resD]; split <;> simp; done) 
  · rintro args p r ⟨n, lo, hi, rfl, rfl⟩
    refine Z0e C false noExt (tabL C []) xf201 (Q0f C) (K0f C _) zc201_ok (Nat.le_of_ble_eq_true (by kernel_rfl)) fun hF => ?_
    generalize tabL C [] = call
    show W C false noExt call zc201 (argE [I n, I lo, I hi]) p (endQ C _ _)
    (have zx := True.intro; have hc := True.intro; refine zq201 (k := ?_); clear hc zx; try exact True.intro)
    exact K0e hF (fun _ _ h => h) (weak_I _ _)
def R140 : Rel := fun args p r => ∃ (n lo hi : Int), args = [I n, I lo, I hi] ∧ r = .ret (I (brought n lo hi)) p
theorem t140 {T : XCall} (h : Has T 140 R140) (n lo hi : Int) {p : Hp}  : T 140 [I n, I lo, I hi] p = .ret (I (brought n lo hi)) p := h _ _ _ ⟨n, lo, hi, rfl, rfl⟩
theorem zq140 {A B : Prop} (h : A = B := by ((try simp -dsimp (disch := first | exact zdis | fail) only [zcore, zall, zopm, zop, zcallOp, qop, qbuiltin, ofOpt, List.map, reduceCtorEq, if_true, if_false, ↓reduceIte, zbin, eqRes, qassert, qnum, qshift, qun, kindOf, allocV, List.nil_append, List.append_nil, List.cons_append, List.length_cons, List.length_nil, Nat.reduceAdd, Nat.reduceEqDiff, Nat.reduceLT, Nat.reduceSub, Nat.reduceMul, Int.reduceToNat, Int.reduceLE, Int.reduceLT, Int.reduceEq, Int.reduceNeg, Int.reduceAdd, Int.reduceSub, beq_self_eq_true, cond_true, cond_false, isConstOpd, xpanic, xconv, isBytes, qconv, List.length_map, List.map_nil, List.map_cons, concrete, Option.some.injEq, exists_eq', Option.map_some, Option.map_none, List.getElem?_cons_zero, List.getElem?_cons_succ, zw140, rs140, tt3, ti3, zx, hc]); rfl)) (k : B) : A := h ▸ k
set_option maxHeartbeats 8000000 in
theorem c140 : Con C 140 R140 := by
  refine Z0f C ?_ ?_ ?_
  · rintro args p r r' ⟨n, lo, hi, h, e⟩ ⟨n', lo', hi', h', e'⟩
    subst e; subst e'; simp_all
  · rintro args p r ⟨n, lo, hi, h, rfl⟩; first | (split <;> simp; done) | (simp; done) | (simp only [resM]; split <;> simp; done) | (simp only [resD]; split <;> simp; done) 
  · rintro args p r ⟨n, lo, hi, rfl, rfl⟩
    refine Z0e C false noExt (tabL C []) xf140 (Q0f C) (K0f C _) zc140_ok (Nat.le_of_ble_eq_true (by kernel_rfl)) fun hF => ?_
    generalize tabL C [] = call
    show W C false noExt call zc140 (argE [I n, I lo, I hi]) p (endQ C _ _)
    (have zx := True.intro; have hc := True.intro; refine zq140 (k := ?_); clear hc zx; try exact True.intro)
    exact K0e hF (fun _ _ h => h) (weak_I _ _)
def R84 : Rel := fun args p r => ∃ (n lo hi : Int), args = [I n, I lo, I hi] ∧ r = .ret (Bo (within n lo hi)) p
theorem t84 {T : XCall} (h : Has T 84 R84) (n lo hi : Int) {p : Hp}  : T 84 [I n, I lo, I hi] p = .ret (Bo (within n lo hi)) p := h _ _ _ ⟨n, lo, hi, rfl, rfl⟩
theorem zq84 {A B : Prop} (h : A = B := by ((try simp -dsimp (disch := first | exact zdis | fail) only [zcore, zall, zopm, zop, zcallOp, qop, qbuiltin, ofOpt, List.map, reduceCtorEq, if_true, if_false, ↓reduceIte, zbin, eqRes, qassert, qnum, qshift, qun, kindOf, allocV, List.nil_append, List.append_nil, List.cons_append, List.length_cons, List.length_nil, Nat.reduceAdd, Nat.reduceEqDiff, Nat.reduceLT, Nat.reduceSub, Nat.reduceMul, Int.reduceToNat, Int.reduceLE, Int.reduceLT, Int.reduceEq, Int.reduceNeg, Int.reduceAdd, Int.reduceSub, beq_self_eq_true, cond_true, cond_false, isConstOpd, xpanic, xconv, isBytes, qconv, List.length_map, List.map_nil, List.map_cons, concrete, Option.some.injEq, exists_eq', Option.map_some, Option.map_none, List.getElem?_cons_zero, List.getElem?_cons_succ, zw84, rs84, tt3, ti3, zx, hc]); rfl)) (k : B) : A := h ▸ k
set_option maxHeartbeats 8000000 in
theorem c84 : Con C 84 R84 := by
  refine Z0f C ?_ ?_ ?_
  · rintro args p r r' ⟨n, lo, hi, h, e⟩ ⟨n', lo', hi', h', e'⟩
    subst e; subst e'; simp_all
  · rintro args p r ⟨n, lo, hi, h, rfl⟩; first | (split <;> simp; done) | (simp; done) | (simp only [resM]; split <;> simp; done) | (simp only [resD]; split <;> simp; done) 
  · rintro args p r ⟨n, lo, hi, rfl, rfl⟩
    refine Z0e C false noExt (tabL C []) xf84 (Q0f C) (K0f C _) zc84_ok (Nat.le_of_ble_eq_true (by kernel_rfl)) fun hF => ?_
    generalize tabL C [] = call
    show W C false noExt call zc84 (argE [I n, I lo, I hi]) p (endQ C _ _)
    (have zx := True.intro; have hc := True.intro; refine zq84 (k := ?_); clear hc; try exact True.intro)
    repeat' ((first | refine K0d ?_ ?_ | refine Z0c ?_ ?_ | refine X0d _ _ _ _ ?_ ?_ | refine Q0d ?_ ?_ | refine V0d _ _ _ _ ?_ ?_) <;> intro hc <;> (try simp only [zhd] at hc) <;> (try have hw := X0b hc) <;> (refine zq84 (k := ?_); try exact True.intro))
    all_goals (try clear zx)
    all_goals (refine K0e hF (fun _ _ h => h) (Q0e ?_ (Y0d (Bo_has _))))
    all_goals simp [within]; try omega
def R71 : Rel := fun args p r => ∃ (n lo hi : Int), args = [I n, I lo, I hi] ∧ r = .ret (Bo (within n lo hi)) p
theorem t71 {T : XCall} (h : Has T 71 R71) (n lo hi : Int) {p : Hp}  : T 71 [I n, I lo, I hi] p = .ret (Bo (within n lo hi)) p := h _ _ _ ⟨n, lo, hi, rfl, rfl⟩
theorem zq71 {A B : Prop} (h : A = B := by ((try simp -dsimp (disch := first | exact zdis | fail) only [zcore, zall, zopm, zop, zcallOp, qop, qbuiltin, ofOpt, List.map, reduceCtorEq, if_true, if_false, ↓reduceIte, zbin, eqRes, qassert, qnum, qshift, qun, kindOf, allocV, List.nil_append, List.append_nil, List.cons_append, List.length_cons, List.length_nil, Nat.reduceAdd, Nat.reduceEqDiff, Nat.reduceLT, Nat.reduceSub, Nat.reduceMul, Int.reduceToNat, Int.reduceLE, Int.reduceLT, Int.reduceEq, Int.reduceNeg, Int.reduceAdd, Int.reduceSub, beq_self_eq_true, cond_true, cond_false, isConstOpd, xpanic, xconv, isBytes, qconv, List.length_map, List.map_nil, List.map_cons, concrete, Option.some.injEq, exists_eq', Option.map_some, Option.map_none, List.getElem?_cons_zero, List.getElem?_cons_succ, zw71, rs71, tt3, ti3, zx, hc]); rfl)) (k : B) : A := h ▸ k
set_option maxHeartbeats 8000000 in
theorem c71 : Con C 71 R71 := by
  refine Z0f C ?_ ?_ ?_
  · rintro args p r r' ⟨n, lo, hi, h, e⟩ ⟨n', lo', hi', h', e'⟩
    subst e; subst e'; simp_all
  · rintro args p r ⟨n, lo, hi, h, rfl⟩; first | (split <;> simp; done) | (simp; done) | (simp only [resM]; split <;> simp; done) | (simp only [resD]; split <;> simp; done) 
  · rintro args p r ⟨n, lo, hi, rfl, rfl⟩
    refine Z0e C false noExt (tabL C []) xf71 (Q0f C) (K0f C _) zc71_ok (Nat.le_of_ble_eq_true (by kernel_rfl)) fun hF => ?_
    generalize tabL C [] = call
    show W C false noExt call zc71 (argE [I n, I lo, I hi]) p (endQ C _ _)
    (have zx := True.intro; have hc := True.intro; refine zq71 (k := ?_); clear hc; try exact True.intro)
    repeat' ((first | refine K0d ?_ ?_ | refine Z0c ?_ ?_ | refine X0d _ _ _ _ ?_ ?_ | refine Q0d ?_ ?_ | refine V0d _ _ _ _ ?_ ?_) <;> intro hc <;> (try simp only [zhd] at hc) <;> (try have hw := X0b hc) <;> (refine zq71 (k := ?_); try exact True.intro))
    all_goals (try clear zx)
    all_goals (refine K0e hF (fun _ _ h => h) (Q0e ?_ (Y0d (Bo_has _))))
    all_goals simp [within]; try omega
def R200 : Rel := fun args p r => ∃ (c a : Int), args = [I c, I a] ∧ r = .pan (fault c a) p
theorem t200 {T : XCall} (h : Has T 200 R200) (c a : Int) {p : Hp}  : T 200 [I c, I a] p = .pan (fault c a) p := h _ _ _ ⟨c, a, rfl, rfl⟩
theorem zq200 {A B : Prop} (h : A = B := by ((try simp -dsimp (disch := first | exact zdis | fail) only [zcore, zall, zopm, zop, zcallOp, qop, qbuiltin, ofOpt, List.map, reduceCtorEq, if_true, if_false, ↓reduceIte, zbin, eqRes, qassert, qnum, qshift, qun, kindOf, allocV, List.nil_append, List.append_nil, List.cons_append, List.length_cons, List.length_nil, Nat.reduceAdd, Nat.reduceEqDiff, Nat.reduceLT, Nat.reduceSub, Nat.reduceMul, Int.reduceToNat, Int.reduceLE, Int.reduceLT, Int.reduceEq, Int.reduceNeg, Int.reduceAdd, Int.reduceSub, beq_self_eq_true, cond_true, cond_false, isConstOpd, xpanic, xconv, isBytes, qconv, List.length_map, List.map_nil, List.map_cons, concrete, Option.some.injEq, exists_eq', Option.map_some, Option.map_none, List.getElem?_cons_zero, List.getElem?_cons_succ, zw200, rs200, tt44, tt194, ti44, ti194, X0m, X0y, zx, hc]); rfl)) (k : B) : A := h ▸ k
set_option maxHeartbeats 8000000 in
theorem c200 : Con C 200 R200 := by
  refine Z0f C ?_ ?_ ?_
  · rintro args p r r' ⟨c, a, h, e⟩ ⟨c', a', h', e'⟩
    subst e; subst e'; simp_all [V0c.inj_iff, K0c.inj_iff]
  · rintro args p r ⟨c, a, h, rfl⟩; first | (split <;> simp; done) | (simp; done) | (simp only [resM]; split <;> simp; done) | (simp only [resD]; split <;> simp; done) 
  · rintro args p r ⟨c, a, rfl, rfl⟩
    refine Z0e C false noExt (tabL C []) xf200 (Q0f C) (K0f C _) zc200_ok (Nat.le_of_ble_eq_true (by kernel_rfl)) fun hF => ?_
    generalize tabL C [] = call
    show W C false noExt call zc200 (argE [I c, I a]) p (endQ C _ _)
    (have zx := True.intro; have hc := True.intro; refine zq200 (k := ?_); clear hc zx; try exact True.intro)
    exact Z0l hF (fun _ _ h => h) (X0e (Y0d (by simp [CV.has, fault, K0c.nohas])))
def R181 : Rel := fun args p r => ∃ (ok : Bool) (c a : Int), args = [Bo ok, I c, I a] ∧ r = (if ok = true then .ret (.tup []) p else .pan (fault c a) p)
theorem t181 {T : XCall} (h : Has T 181 R181) (ok : Bool) (c a : Int) {p : Hp}  : T 181 [Bo ok, I c, I a] p = (if ok = true then .ret (.tup []) p else .pan (fault c a) p) := h _ _ _ ⟨ok, c, a, rfl, rfl⟩
theorem zq181 {A B : Prop} (h : A = B := by ((try simp -dsimp (disch := first | exact zdis | fail) only [zcore, zall, zopm, zop, zcallOp, qop, qbuiltin, ofOpt, List.map, reduceCtorEq, if_true, if_false, ↓reduceIte, zbin, eqRes, qassert, qnum, qshift, qun, kindOf, allocV, List.nil_append, List.append_nil, List.cons_append, List.length_cons, List.length_nil, Nat.reduceAdd, Nat.reduceEqDiff, Nat.reduceLT, Nat.reduceSub, Nat.reduceMul, Int.reduceToNat, Int.reduceLE, Int.reduceLT, Int.reduceEq, Int.reduceNeg, Int.reduceAdd, Int.reduceSub, beq_self_eq_true, cond_true, cond_false, isConstOpd, xpanic, xconv, isBytes, qconv, List.length_map, List.map_nil, List.map_cons, concrete, Option.some.injEq, exists_eq', Option.map_some, Option.map_none, List.getElem?_cons_zero, List.getElem?_cons_succ, zw181, rs181, t_200, zx, hc]); rfl)) (k : B) : A := h ▸ k
set_option maxHeartbeats 8000000 in
theorem c181 : Con C 181 R181 := by
  refine Z0f C ?_ ?_ ?_
  · rintro args p r r' ⟨ok, c, a, h, e⟩ ⟨ok', c', a', h', e'⟩
    subst e; subst e'; simp_all
  · rintro args p r ⟨ok, c, a, h, rfl⟩; first | (split <;> simp; done) | (simp; done) | (simp only [resM]; split <;> simp; done) | (simp only [resD]; split <;> simp; done) 
  · rintro args p r ⟨ok, c, a, rfl, rfl⟩
    refine Z0e C false noExt (tabL C [(200, R200)]) xf181 (Q0f C) (K0f C _) zc181_ok (Nat.le_of_ble_eq_true (by kernel_rfl)) fun hF => ?_
    have t_200 := @t200 (tabL C [(200, R200)]) (Z0d C c200 [])
    generalize tabL C [(200, R200)] = call at t_200 ⊢
    show W C false noExt call zc181 (argE [Bo ok, I c, I a]) p (endQ C _ _)
    (have zx := True.intro; have hc := True.intro; refine zq181 (k := ?_); clear hc; try exact True.intro)
    repeat' ((first | refine K0d ?_ ?_ | refine Z0c ?_ ?_ | refine X0d _ _ _ _ ?_ ?_ | refine Q0d ?_ ?_ | refine V0d _ _ _ _ ?_ ?_) <;> intro hc <;> (try simp only [zhd] at hc) <;> (try have hw := X0b hc) <;> (refine zq181 (k := ?_); try exact True.intro))
    all_goals (try clear zx)
    · exact K0e hF zle (X0e (Y0d Z1e))
    · exact Z0l hF zle (X0e (Y0d (by simp [CV.has, fault, K0c.nohas])))
def R150 : Rel := fun args p r => ∃ (i : Nat) (m : Y0a) (ok : Bool) (c : Int), args = [.ptr i [], Bo ok, I c] ∧ (p.t.get i = some (.var sh131 m.cv)) ∧ r = (if ok = true then .ret (.tup []) p else .pan (fault c m.at_) p)
theorem t150 {T : XCall} (h : Has T 150 R150) (i : Nat) (m : Y0a) (ok : Bool) (c : Int) {p : Hp} (h1 : p.t.get i = some (.var sh131 m.cv)) : T 150 [.ptr i [], Bo ok, I c] p = (if ok = true then .ret (.tup []) p else .pan (fault c m.at_) p) := h _ _ _ ⟨i, m, ok, c, rfl, h1, rfl⟩
theorem zq150 {A B : Prop} (h : A = B := by ((try simp -dsimp (disch := first | exact zdis | fail) only [zcore, zall, zopm, zop, zcallOp, qop, qbuiltin, ofOpt, List.map, reduceCtorEq, if_true, if_false, ↓reduceIte, zbin, eqRes, qassert, qnum, qshift, qun, kindOf, allocV, List.nil_append, List.append_nil, List.cons_append, List.length_cons, List.length_nil, Nat.reduceAdd, Nat.reduceEqDiff, Nat.reduceLT, Nat.reduceSub, Nat.reduceMul, Int.reduceToNat, Int.reduceLE, Int.reduceLT, Int.reduceEq, Int.reduceNeg, Int.reduceAdd, Int.reduceSub, beq_self_eq_true, cond_true, cond_false, isConstOpd, xpanic, xconv, isBytes, qconv, List.length_map, List.map_nil, List.map_cons, concrete, Option.some.injEq, exists_eq', Option.map_some, Option.map_none, List.getElem?_cons_zero, List.getElem?_cons_succ, zw150, rs150, tt3, tt131, ti3, ti131, t_181, K0g, h1, zx, hc]); rfl)) (k : B) : A := h ▸ k
set_option maxHeartbeats 8000000 in
theorem c150 : Con C 150 R150 := by
  refine Z0f C ?_ ?_ ?_
  · rintro args p r r' ⟨i, m, ok, c, h, h1, e⟩ ⟨i', m', ok', c', h', h1', e'⟩
    subst e; subst e'; simp_all [Y0a.inj_iff]
  · rintro args p r ⟨i, m, ok, c, h, h1, rfl⟩; first | (split <;> simp; done) | (simp; done) | (simp only [resM]; split <;> simp; done) | (simp only [resD]; split <;> simp; done) 
  · rintro args p r ⟨i, m, ok, c, rfl, h1, rfl⟩
    refine Z0e C false noExt (tabL C [(181, R181)]) xf150 (Q0f C) (K0f C _) zc150_ok (Nat.le_of_ble_eq_true (by kernel_rfl)) fun hF => ?_
    have t_181 := @t181 (tabL C [(181, R181)]) (Z0d C c181 [])
    generalize tabL C [(181, R181)] = call at t_181 ⊢
    have hd_h1 := hF.dom _ _ h1
    show W C false noExt call zc150 (argE [.ptr i [], Bo ok, I c]) p (endQ C _ _)
    (have zx := h1; have hc := True.intro; refine zq150 (k := ?_); clear hc; try exact True.intro)
    repeat' ((first | refine K0d ?_ ?_ | refine Z0c ?_ ?_ | refine X0d _ _ _ _ ?_ ?_ | refine Q0d ?_ ?_ | refine V0d _ _ _ _ ?_ ?_) <;> intro hc <;> (try simp only [zhd] at hc) <;> (try have hw := X0b hc) <;> (refine zq150 (k := ?_); try exact True.intro))
    all_goals (try clear zx)
    · exact K0e hF zle (X0e (Y0d Z1e))
    · exact Z0l hF zle (X0e (Y0d (by simp [CV.has, fault, K0c.nohas])))
def R183 : Rel := fun args p r => ∃ (i : Nat) (m : Y0a) (k n : Int), args = [.ptr i [], I k, I n] ∧ (p.t.get i = some (.var sh131 m.cv)) ∧ (0 ≤ k) ∧ (k < 4) ∧ r = .ret (.tup []) (p.set i (some (.var sh131 (Mach.set m k.toNat n).cv)))
theorem t183 {T : XCall} (h : Has T 183 R183) (i : Nat) (m : Y0a) (k n : Int) {p : Hp} (h1 : p.t.get i = some (.var sh131 m.cv)) (h2 : 0 ≤ k) (h3 : k < 4) : T 183 [.ptr i [], I k, I n] p = .ret (.tup []) (p.set i (some (.var sh131 (Mach.set m k.toNat n).cv))) := h _ _ _ ⟨i, m, k, n, rfl, h1, h2, h3, rfl⟩
theorem zq183 {A B : Prop} (h : A = B := by ((try simp -dsimp (disch := first | exact zdis | fail) only [zcore, zall, zopm, zop, zcallOp, qop, qbuiltin, ofOpt, List.map, reduceCtorEq, if_true, if_false, ↓reduceIte, zbin, eqRes, qassert, qnum, qshift, qun, kindOf, allocV, List.nil_append, List.append_nil, List.cons_append, List.length_cons, List.length_nil, Nat.reduceAdd, Nat.reduceEqDiff, Nat.reduceLT, Nat.reduceSub, Nat.reduceMul, Int.reduceToNat, Int.reduceLE, Int.reduceLT, Int.reduceEq, Int.reduceNeg, Int.reduceAdd, Int.reduceSub, beq_self_eq_true, cond_true, cond_false, isConstOpd, xpanic, xconv, isBytes, qconv, List.length_map, List.map_nil, List.map_cons, concrete, Option.some.injEq, exists_eq', Option.map_some, Option.map_none, List.getElem?_cons_zero, List.getElem?_cons_succ, zw183, rs183, tt3, tt32, tt34, tt39, tt131, ti3, ti32, ti34, ti39, ti131, t_201, K0g, Q0h, Y0f, zsl32, h1, h2, h3, zx, hc]); rfl)) (k : B) : A := h ▸ k
set_option maxHeartbeats 8000000 in
theorem c183 : Con C 183 R183 := by
  refine Z0f C ?_ ?_ ?_
  · rintro args p r r' ⟨i, m, k, n, h, h1, h2, h3, e⟩ ⟨i', m', k', n', h', h1', h2', h3', e'⟩
    subst e; subst e'; simp_all [Y0a.inj_iff, Z0b.inj_iff, Q0a.inj_iff]
  · rintro args p r ⟨i, m, k, n, h, h1, h2, h3, rfl⟩; first | (split <;> simp; done) | (simp; done) | (simp only [resM]; split <;> simp; done) | (simp only [resD]; split <;> simp; done) 
  · rintro args p r ⟨i, m, k, n, rfl, h1, h2, h3, rfl⟩
    refine Z0e C false noExt (tabL C [(201, R201)]) xf183 (Q0f C) (K0f C _) zc183_ok (Nat.le_of_ble_eq_true (by kernel_rfl)) fun hF => ?_
    have t_201 := @t201 (tabL C [(201, R201)]) (Z0d C c201 [])
    generalize tabL C [(201, R201)] = call at t_201 ⊢
    have hd_h1 := hF.dom _ _ h1
    show W C false noExt call zc183 (argE [.ptr i [], I k, I n]) p (endQ C _ _)
    (have zx := h1; have hc := True.intro; refine zq183 (k := ?_); clear hc; try exact True.intro)
    repeat' ((first | refine K0d ?_ ?_ | refine Z0c ?_ ?_ | refine X0d _ _ _ _ ?_ ?_ | refine Q0d ?_ ?_ | refine V0d _ _ _ _ ?_ ?_) <;> intro hc <;> (try simp only [zhd] at hc) <;> (try have hw := X0b hc) <;> (refine zq183 (k := ?_); try exact True.intro))
    all_goals (try clear zx)
    refine X0l hF (hF.dom _ _ h1) zlm ⟨_, Hp.get_set_self _ _ _, Q0l rfl (fun j hj => hF.lt_obj (.arg (a := CV.ptr i []) (by simp) rfl) h1 j ?_)⟩ (X0e (Y0d (by simp [CV.has, CV.hasL])))
    simpa [XObj.has, Y0a.has, Z0b.has, Mach.set, Mach.body] using hj
def R186 : Rel := fun args p r => ∃ (i : Nat) (m : Y0a) (k : Int), args = [.ptr i [], I k] ∧ (p.t.get i = some (.var sh131 m.cv)) ∧ (0 ≤ k) ∧ (k < 4) ∧ r = .ret (I (Mach.reg m k.toNat)) p
theorem t186 {T : XCall} (h : Has T 186 R186) (i : Nat) (m : Y0a) (k : Int) {p : Hp} (h1 : p.t.get i = some (.var sh131 m.cv)) (h2 : 0 ≤ k) (h3 : k < 4) : T 186 [.ptr i [], I k] p = .ret (I (Mach.reg m k.toNat)) p := h _ _ _ ⟨i, m, k, rfl, h1, h2, h3, rfl⟩
theorem zq186 {A B : Prop} (h : A = B := by ((try simp -dsimp (disch := first | exact zdis | fail) only [zcore, zall, zopm, zop, zcallOp, qop, qbuiltin, ofOpt, List.map, reduceCtorEq, if_true, if_false, ↓reduceIte, zbin, eqRes, qassert, qnum, qshift, qun, kindOf, allocV, List.nil_append, List.append_nil, List.cons_append, List.length_cons, List.length_nil, Nat.reduceAdd, Nat.reduceEqDiff, Nat.reduceLT, Nat.reduceSub, Nat.reduceMul, Int.reduceToNat, Int.reduceLE, Int.reduceLT, Int.reduceEq, Int.reduceNeg, Int.reduceAdd, Int.reduceSub, beq_self_eq_true, cond_true, cond_false, isConstOpd, xpanic, xconv, isBytes, qconv, List.length_map, List.map_nil, List.map_cons, concrete, Option.some.injEq, exists_eq', Option.map_some, Option.map_none, List.getElem?_cons_zero, List.getElem?_cons_succ, zw186, rs186, tt3, tt32, tt34, tt39, tt131, ti3, ti32, ti34, ti39, ti131, K0g, Q0h, Y0f, zsl32, h1, h2, h3, zx, hc]); rfl)) (k : B) : A := h ▸ k
set_option maxHeartbeats 8000000 in
theorem c186 : Con C 186 R186 := by
  refine Z0f C ?_ ?_ ?_
  · rintro args p r r' ⟨i, m, k, h, h1, h2, h3, e⟩ ⟨i', m', k', h', h1', h2', h3', e'⟩
    subst e; subst e'; simp_all [Y0a.inj_iff, Z0b.inj_iff, Q0a.inj_iff]
  · rintro args p r ⟨i, m, k, h, h1, h2, h3, rfl⟩; first | (split <;> simp; done) | (simp; done) | (simp only [resM]; split <;> simp; done) | (simp only [resD]; split <;> simp; done) 
  · rintro args p r ⟨i, m, k, rfl, h1, h2, h3, rfl⟩
    refine Z0e C false noExt (tabL C []) xf186 (Q0f C) (K0f C _) zc186_ok (Nat.le_of_ble_eq_true (by kernel_rfl)) fun hF => ?_
    generalize tabL C [] = call
    have hd_h1 := hF.dom _ _ h1
    show W C false noExt call zc186 (argE [.ptr i [], I k]) p (endQ C _ _)
    (have zx := h1; have hc := True.intro; refine zq186 (k := ?_); clear hc; try exact True.intro)
    repeat' ((first | refine K0d ?_ ?_ | refine Z0c ?_ ?_ | refine X0d _ _ _ _ ?_ ?_ | refine Q0d ?_ ?_ | refine V0d _ _ _ _ ?_ ?_) <;> intro hc <;> (try simp only [zhd] at hc) <;> (try have hw := X0b hc) <;> (refine zq186 (k := ?_); try exact True.intro))
    all_goals (try clear zx)
    exact K0e hF zle (weak_I _ _)
def R187 : Rel := fun args p r => ∃ (i : Nat) (m : Y0a) (k : Int), args = [.ptr i [], I k] ∧ (p.t.get i = some (.var sh131 m.cv)) ∧ r = (if within k 0 m.l_.l.length = true then .ret (I k) p else .pan (fault 4 m.at_) p)
theorem t187 {T : XCall} (h : Has T 187 R187) (i : Nat) (m : Y0a) (k : Int) {p : Hp} (h1 : p.t.get i = some (.var sh131 m.cv)) : T 187 [.ptr i [], I k] p = (if within k 0 m.l_.l.length = true then .ret (I k) p else .pan (fault 4 m.at_) p) := h _ _ _ ⟨i, m, k, rfl, h1, rfl⟩
theorem zq187 {A B : Prop} (h : A = B := by ((try simp -dsimp (disch := first | exact zdis | fail) only [zcore, zall, zopm, zop, zcallOp, qop, qbuiltin, ofOpt, List.map, reduceCtorEq, if_true, if_false, ↓reduceIte, zbin, eqRes, qassert, qnum, qshift, qun, kindOf, allocV, List.nil_append, List.append_nil, List.cons_append, List.length_cons, List.length_nil, Nat.reduceAdd, Nat.reduceEqDiff, Nat.reduceLT, Nat.reduceSub, Nat.reduceMul, Int.reduceToNat, Int.reduceLE, Int.reduceLT, Int.reduceEq, Int.reduceNeg, Int.reduceAdd, Int.reduceSub, beq_self_eq_true, cond_true, cond_false, isConstOpd, xpanic, xconv, isBytes, qconv, List.length_map, List.map_nil, List.map_cons, concrete, Option.some.injEq, exists_eq', Option.map_some, Option.map_none, List.getElem?_cons_zero, List.getElem?_cons_succ, zw187, rs187, tt23, tt131, ti23, ti131, t_84, t_150, K0g, zsl23, h1, zx, hc]); rfl)) (k : B) : A := h ▸ k
theorem zno187 {P : Prop} (h : P := by intro jj; simp [CV.has, CV.hasL, fault, K0c.nohas]) : P := h
set_option maxHeartbeats 8000000 in
theorem c187 : Con C 187 R187 := by
  refine Z0f C ?_ ?_ ?_
  · rintro args p r r' ⟨i, m, k, h, h1, e⟩ ⟨i', m', k', h', h1', e'⟩
    subst e; subst e'; simp_all [Y0a.inj_iff, K0m]
  · rintro args p r ⟨i, m, k, h, h1, rfl⟩; first | (split <;> simp; done) | (simp; done) | (simp only [resM]; split <;> simp; done) | (simp only [resD]; split <;> simp; done) 
  · rintro args p r ⟨i, m, k, rfl, h1, rfl⟩
    refine Z0e C false noExt (tabL C [(84, R84), (150, R150)]) xf187 (Q0f C) (K0f C _) zc187_ok (Nat.le_of_ble_eq_true (by kernel_rfl)) fun hF => ?_
    have t_84 := @t84 (tabL C [(84, R84), (150, R150)]) (Z0d C c84 [(150, R150)])
    have t_150 := @t150 (tabL C [(84, R84), (150, R150)]) (Y0c C _ rfl (Z0d C c150 []))
    generalize tabL C [(84, R84), (150, R150)] = call at t_84 t_150 ⊢
    have hd_h1 := hF.dom _ _ h1
    show W C false noExt call zc187 (argE [.ptr i [], I k]) p (endQ C _ _)
    (have zx := h1; have hc := True.intro; refine zq187 (k := ?_); clear hc; try exact True.intro)
    repeat' ((first | refine K0d ?_ ?_ | refine Z0c ?_ ?_ | refine X0d _ _ _ _ ?_ ?_ | refine Q0d ?_ ?_ | refine V0d _ _ _ _ ?_ ?_) <;> intro hc <;> (try simp only [zhd] at hc) <;> (try have hw := X0b hc) <;> (refine zq187 (k := ?_); try exact True.intro))
    all_goals (try clear zx)
    all_goals (first | exact K0e hF zle (X0e (Y0d zno187)) | exact Z0l hF zle (X0e (Y0d zno187)))
end Go.Proofs.Ytpchcfkebljopaa
end
section
-- @nole
namespace Go.Proofs.Ytpchcfkebljopaa
open Go.Cl Go Go.RowKit
set_option maxRecDepth 100000
set_option linter.constructorNameAsVariable false
def R24 : Rel := fun args p r => ∃ (b : Q0a), args = [b.cv] ∧ r = .ret (Bo (Body.right b)) p
theorem t24 {T : XCall} (h : Has T 24 R24) (b : Q0a) {p : Hp}  : T 24 [b.cv] p = .ret (Bo (Body.right b)) p := h _ _ _ ⟨b, rfl, rfl⟩
theorem zq24 {A B : Prop} (h : A = B := by ((try simp -dsimp (disch := first | exact zdis | fail) only [zcore, zall, zopm, zop, zcallOp, qop, qbuiltin, ofOpt, List.map, reduceCtorEq, if_true, if_false, ↓reduceIte, zbin, eqRes, qassert, qnum, qshift, qun, kindOf, allocV, List.nil_append, List.append_nil, List.cons_append, List.length_cons, List.length_nil, Nat.reduceAdd, Nat.reduceEqDiff, Nat.reduceLT, Nat.reduceSub, Nat.reduceMul, Int.reduceToNat, Int.reduceLE, Int.reduceLT, Int.reduceEq, Int.reduceNeg, Int.reduceAdd, Int.reduceSub, beq_self_eq_true, cond_true, cond_false, isConstOpd, xpanic, xconv, isBytes, qconv, List.length_map, List.map_nil, List.map_cons, concrete, Option.some.injEq, exists_eq', Option.map_some, Option.map_none, List.getElem?_cons_zero, List.getElem?_cons_succ, zw24, rs24, tt3, tt32, tt34, ti3, ti32, ti34, t_71, Y0f, zsl32, zx, hc]); rfl)) (k : B) : A := h ▸ k
theorem zno24 {P : Prop} (h : P := by intro jj; simp [CV.has, CV.hasL, fault, K0c.nohas, Q0a.nohas]) : P := h
set_option maxHeartbeats 8000000 in
theorem c24 : Con C 24 R24 := by
  refine Z0f C ?_ ?_ ?_
  · rintro args p r r' ⟨b, h, e⟩ ⟨b', h', e'⟩
    subst e; subst e'; simp_all [Q0a.inj_iff]
  · rintro args p r ⟨b, h, rfl⟩; first | (split <;> simp; done) | (simp; done) | (simp only [resM]; split <;> simp; done) | (simp only [resD]; split <;> simp; done) 
  · rintro args p r ⟨b, rfl, rfl⟩
    refine Z0e C false noExt (tabL C [(71, R71)]) xf24 (Q0f C) (K0f C _) zc24_ok (Nat.le_of_ble_eq_true (by kernel_rfl)) fun hF => ?_
    have t_71 := @t71 (tabL C [(71, R71)]) (Z0d C c71 [])
    generalize tabL C [(71, R71)] = call at t_71 ⊢
    show W C false noExt call zc24 (argE [b.cv]) p (endQ C _ _)
    have hm := b.hMem
    (have zx := True.intro; have hc := True.intro; refine zq24 (k := ?_); clear hc; try exact True.intro)
    repeat' ((first | refine K0d ?_ ?_ | refine Z0c ?_ ?_ | refine X0d _ _ _ _ ?_ ?_ | refine Q0d ?_ ?_ | refine V0d _ _ _ _ ?_ ?_) <;> intro hc <;> (try simp only [zhd] at hc) <;> (try have hw := X0b hc) <;> (refine zq24 (k := ?_); try exact True.intro))
    all_goals (try clear zx)
    · refine K0e hF zle (Q0e ?_ (Y0d zno24))
      simp only [Body.right, hc, if_true]
      rfl
    refine ⟨5, ?_⟩
    simp only [Wn_succ]
    (have zx := True.intro; have hc := True.intro; refine zq24 (k := ?_); clear hc; try exact True.intro)
    repeat' ((first | refine K0d ?_ ?_ | refine Z0c ?_ ?_ | refine X0d _ _ _ _ ?_ ?_ | refine Q0d ?_ ?_ | refine V0d _ _ _ _ ?_ ?_) <;> intro hc <;> (try simp only [zhd] at hc) <;> (try have hw := X0b hc) <;> (refine zq24 (k := ?_); try exact True.intro))
    all_goals (try clear zx)
    all_goals (refine K0e hF zle (Q0e ?_ (Y0d zno24)))
    all_goals simp [Body.right, all_nth4 hm, *]
end Go.Proofs.Ytpchcfkebljopaa
end
section
-- @nole
namespace Go.Proofs.Ytpchcfkebljopaa
open Go.Cl Go Go.RowKit
set_option maxRecDepth 100000
set_option linter.constructorNameAsVariable false
def R182 : Rel := fun args p r => ∃ (i : Nat) (m : Y0a) (o : X0c), args = [.ptr i [], o.cv] ∧ (p.t.get i = some (.var sh131 m.cv)) ∧ r = (if namedOk o = true then .ret (.tup []) p else .pan (fault 2 m.at_) p)
theorem t182 {T : XCall} (h : Has T 182 R182) (i : Nat) (m : Y0a) (o : X0c) {p : Hp} (h1 : p.t.get i = some (.var sh131 m.cv)) : T 182 [.ptr i [], o.cv] p = (if namedOk o = true then .ret (.tup []) p else .pan (fault 2 m.at_) p) := h _ _ _ ⟨i, m, o, rfl, h1, rfl⟩
theorem zq182 {A B : Prop} (h : A = B := by ((try simp -dsimp (disch := first | exact zdis | fail) only [zcore, zall, zopm, zop, zcallOp, qop, qbuiltin, ofOpt, List.map, reduceCtorEq, if_true, if_false, ↓reduceIte, zbin, eqRes, qassert, qnum, qshift, qun, kindOf, allocV, List.nil_append, List.append_nil, List.cons_append, List.length_cons, List.length_nil, Nat.reduceAdd, Nat.reduceEqDiff, Nat.reduceLT, Nat.reduceSub, Nat.reduceMul, Int.reduceToNat, Int.reduceLE, Int.reduceLT, Int.reduceEq, Int.reduceNeg, Int.reduceAdd, Int.reduceSub, beq_self_eq_true, cond_true, cond_false, isConstOpd, xpanic, xconv, isBytes, qconv, List.length_map, List.map_nil, List.map_cons, concrete, Option.some.injEq, exists_eq', Option.map_some, Option.map_none, List.getElem?_cons_zero, List.getElem?_cons_succ, zw182, rs182, tt3, tt29, ti3, ti29, t_84, t_150, K0g, Y0l, h1, zx, hc]); rfl)) (k : B) : A := h ▸ k
theorem zno182 {P : Prop} (h : P := by intro jj; simp [CV.has, CV.hasL, fault, K0c.nohas, X0c.nohas]) : P := h
set_option maxHeartbeats 8000000 in
theorem c182 : Con C 182 R182 := by
  refine Z0f C ?_ ?_ ?_
  · rintro args p r r' ⟨i, m, o, h, h1, e⟩ ⟨i', m', o', h', h1', e'⟩
    subst e; subst e'; simp_all [Y0a.inj_iff, X0c.inj_iff]
  · rintro args p r ⟨i, m, o, h, h1, rfl⟩; first | (split <;> simp; done) | (simp; done) | (simp only [resM]; split <;> simp; done) | (simp only [resD]; split <;> simp; done) 
  · rintro args p r ⟨i, m, o, rfl, h1, rfl⟩
    refine Z0e C false noExt (tabL C [(84, R84), (150, R150)]) xf182 (Q0f C) (K0f C _) zc182_ok (Nat.le_of_ble_eq_true (by kernel_rfl)) fun hF => ?_
    have t_84 := @t84 (tabL C [(84, R84), (150, R150)]) (Z0d C c84 [(150, R150)])
    have t_150 := @t150 (tabL C [(84, R84), (150, R150)]) (Y0c C _ rfl (Z0d C c150 []))
    generalize tabL C [(84, R84), (150, R150)] = call at t_84 t_150 ⊢
    have hd_h1 := hF.dom _ _ h1
    show W C false noExt call zc182 (argE [.ptr i [], o.cv]) p (endQ C _ _)
    (have zx := h1; have hc := True.intro; refine zq182 (k := ?_); clear hc; try exact True.intro)
    repeat' ((first | refine K0d ?_ ?_ | refine Z0c ?_ ?_ | refine X0d _ _ _ _ ?_ ?_ | refine Q0d ?_ ?_ | refine V0d _ _ _ _ ?_ ?_) <;> intro hc <;> (try simp only [zhd] at hc) <;> (try have hw := X0b hc) <;> (refine zq182 (k := ?_); try exact True.intro))
    all_goals (try clear zx)
    all_goals (cases e : (namedOk o) <;> first | (exfalso; revert e; simp [namedOk, needA, needB, *]; done) | (exfalso; simp [namedOk, needA, needB] at e; omega) | skip)
    all_goals (try simp only [if_true, if_false, Bool.false_eq_true])
    all_goals (first | exact K0e hF zle (X0e (Y0d zno182)) | exact Z0l hF zle (X0e (Y0d zno182)))
def R184 : Rel := fun args p r => ∃ (i : Nat) (m : Y0a) (k : Int), args = [.ptr i [], I k] ∧ (p.t.get i = some (.var sh131 m.cv)) ∧ r = (if within k 0 7 = true then .ret (I (Mach.field m k.toNat)) p else .pan (fault 3 m.at_) p)
theorem t184 {T : XCall} (h : Has T 184 R184) (i : Nat) (m : Y0a) (k : Int) {p : Hp} (h1 : p.t.get i = some (.var sh131 m.cv)) : T 184 [.ptr i [], I k] p = (if within k 0 7 = true then .ret (I (Mach.field m k.toNat)) p else .pan (fault 3 m.at_) p) := h _ _ _ ⟨i, m, k, rfl, h1, rfl⟩
theorem zq184 {A B : Prop} (h : A = B := by ((try simp -dsimp (disch := first | exact zdis | fail) only [zcore, zall, zopm, zop, zcallOp, qop, qbuiltin, ofOpt, List.map, reduceCtorEq, if_true, if_false, ↓reduceIte, zbin, eqRes, qassert, qnum, qshift, qun, kindOf, allocV, List.nil_append, List.append_nil, List.cons_append, List.length_cons, List.length_nil, Nat.reduceAdd, Nat.reduceEqDiff, Nat.reduceLT, Nat.reduceSub, Nat.reduceMul, Int.reduceToNat, Int.reduceLE, Int.reduceLT, Int.reduceEq, Int.reduceNeg, Int.reduceAdd, Int.reduceSub, beq_self_eq_true, cond_true, cond_false, isConstOpd, xpanic, xconv, isBytes, qconv, List.length_map, List.map_nil, List.map_cons, concrete, Option.some.injEq, exists_eq', Option.map_some, Option.map_none, List.getElem?_cons_zero, List.getElem?_cons_succ, zw184, rs184, tt3, tt24, tt34, tt36, tt39, tt131, ti3, ti24, ti34, ti36, ti39, ti131, t_84, t_150, K0g, Q0h, Y0f, Q0i, zsl24, h1, zx, hc]); rfl)) (k : B) : A := h ▸ k
theorem zno184 {P : Prop} (h : P := by intro jj; simp [CV.has, CV.hasL, fault, K0c.nohas, Q0a.nohas, Y0b.nohas]) : P := h
set_option maxHeartbeats 8000000 in
theorem c184 : Con C 184 R184 := by
  refine Z0f C ?_ ?_ ?_
  · rintro args p r r' ⟨i, m, k, h, h1, e⟩ ⟨i', m', k', h', h1', e'⟩
    subst e; subst e'; simp_all [Y0a.inj_iff, Z0b.inj_iff, Q0a.inj_iff, Y0b.inj_iff, X0t]
  · rintro args p r ⟨i, m, k, h, h1, rfl⟩; first | (split <;> simp; done) | (simp; done) | (simp only [resM]; split <;> simp; done) | (simp only [resD]; split <;> simp; done) 
  · rintro args p r ⟨i, m, k, rfl, h1, rfl⟩
    refine Z0e C false noExt (tabL C [(84, R84), (150, R150)]) xf184 (Q0f C) (K0f C _) zc184_ok (Nat.le_of_ble_eq_true (by kernel_rfl)) fun hF => ?_
    have t_84 := @t84 (tabL C [(84, R84), (150, R150)]) (Z0d C c84 [(150, R150)])
    have t_150 := @t150 (tabL C [(84, R84), (150, R150)]) (Y0c C _ rfl (Z0d C c150 []))
    generalize tabL C [(84, R84), (150, R150)] = call at t_84 t_150 ⊢
    have hd_h1 := hF.dom _ _ h1
    show W C false noExt call zc184 (argE [.ptr i [], I k]) p (endQ C _ _)
    (have zx := h1; have hc := True.intro; refine zq184 (k := ?_); clear hc; try exact True.intro)
    repeat' ((first | refine K0d ?_ ?_ | refine Z0c ?_ ?_ | refine X0d _ _ _ _ ?_ ?_ | refine Q0d ?_ ?_ | refine V0d _ _ _ _ ?_ ?_) <;> intro hc <;> (try simp only [zhd] at hc) <;> (try have hw := X0b hc) <;> (refine zq184 (k := ?_); try exact True.intro))
    all_goals (try clear zx)
    all_goals (first | exact K0e hF zle (X0e (Y0d zno184)) | exact Z0l hF zle (X0e (Y0d zno184)))
def R185 : Rel := fun args p r => ∃ (i : Nat) (m : Y0a) (k n : Int), args = [.ptr i [], I k, I n] ∧ (p.t.get i = some (.var sh131 m.cv)) ∧ r = (if within k 0 3 = true then .ret (.tup []) (p.set i (some (.var sh131 (Mach.put m k n).cv))) else .pan (fault 3 m.at_) p)
theorem t185 {T : XCall} (h : Has T 185 R185) (i : Nat) (m : Y0a) (k n : Int) {p : Hp} (h1 : p.t.get i = some (.var sh131 m.cv)) : T 185 [.ptr i [], I k, I n] p = (if within k 0 3 = true then .ret (.tup []) (p.set i (some (.var sh131 (Mach.put m k n).cv))) else .pan (fault 3 m.at_) p) := h _ _ _ ⟨i, m, k, n, rfl, h1, rfl⟩
theorem zq185 {A B : Prop} (h : A = B := by ((try simp -dsimp (disch := first | exact zdis | fail) only [zcore, zall, zopm, zop, zcallOp, qop, qbuiltin, ofOpt, List.map, reduceCtorEq, if_true, if_false, ↓reduceIte, zbin, eqRes, qassert, qnum, qshift, qun, kindOf, allocV, List.nil_append, List.append_nil, List.cons_append, List.length_cons, List.length_nil, Nat.reduceAdd, Nat.reduceEqDiff, Nat.reduceLT, Nat.reduceSub, Nat.reduceMul, Int.reduceToNat, Int.reduceLE, Int.reduceLT, Int.reduceEq, Int.reduceNeg, Int.reduceAdd, Int.reduceSub, beq_self_eq_true, cond_true, cond_false, isConstOpd, xpanic, xconv, isBytes, qconv, List.length_map, List.map_nil, List.map_cons, concrete, Option.some.injEq, exists_eq', Option.map_some, Option.map_none, List.getElem?_cons_zero, List.getElem?_cons_succ, zw185, rs185, tt3, tt34, tt39, tt131, ti3, ti34, ti39, ti131, t_201, t_150, K0g, Q0h, Y0f, Q0i, h1, zx, hc]); rfl)) (k : B) : A := h ▸ k
theorem zno185 {P : Prop} (h : P := by intro jj; simp [CV.has, CV.hasL, fault, K0c.nohas, Q0a.nohas, Y0b.nohas]) : P := h
set_option maxHeartbeats 8000000 in
theorem c185 : Con C 185 R185 := by
  refine Z0f C ?_ ?_ ?_
  · rintro args p r r' ⟨i, m, k, n, h, h1, e⟩ ⟨i', m', k', n', h', h1', e'⟩
    subst e; subst e'; simp_all [Y0a.inj_iff, Z0b.inj_iff, Q0a.inj_iff, Y0b.inj_iff]
  · rintro args p r ⟨i, m, k, n, h, h1, rfl⟩; first | (split <;> simp; done) | (simp; done) | (simp only [resM]; split <;> simp; done) | (simp only [resD]; split <;> simp; done) 
  · rintro args p r ⟨i, m, k, n, rfl, h1, rfl⟩
    refine Z0e C false noExt (tabL C [(201, R201), (150, R150)]) xf185 (Q0f C) (K0f C _) zc185_ok (Nat.le_of_ble_eq_true (by kernel_rfl)) fun hF => ?_
    have t_201 := @t201 (tabL C [(201, R201), (150, R150)]) (Z0d C c201 [(150, R150)])
    have t_150 := @t150 (tabL C [(201, R201), (150, R150)]) (Y0c C _ rfl (Z0d C c150 []))
    generalize tabL C [(201, R201), (150, R150)] = call at t_201 t_150 ⊢
    have hd_h1 := hF.dom _ _ h1
    show W C false noExt call zc185 (argE [.ptr i [], I k, I n]) p (endQ C _ _)
    (have zx := h1; have hc := True.intro; refine zq185 (k := ?_); clear hc; try exact True.intro)
    repeat' ((first | refine K0d ?_ ?_ | refine Z0c ?_ ?_ | refine X0d _ _ _ _ ?_ ?_ | refine Q0d ?_ ?_ | refine V0d _ _ _ _ ?_ ?_) <;> intro hc <;> (try simp only [zhd] at hc) <;> (try have hw := X0b hc) <;> (refine zq185 (k := ?_); try exact True.intro))
    all_goals (try clear zx)
    all_goals (cases e : (within k 0 3) <;> first | (exfalso; revert e; simp [within, *]; done) | (exfalso; simp [within] at e; omega) | skip)
    all_goals (try simp only [if_true, if_false, Bool.false_eq_true])
    any_goals (first | exact K0e hF zle (X0e (Y0d zno185)) | exact Z0l hF zle (X0e (Y0d zno185)))
    all_goals refine X0l hF (hF.dom _ _ h1) zlm ⟨_, Hp.get_set_self _ _ _, Q0l ?_ (fun j hj => hF.lt_obj (.arg (a := CV.ptr i []) (by simp) rfl) h1 j ?_)⟩ (X0e (Y0d Z1e))
    all_goals simp_all [Mach.put, Mach.body, XObj.has, Y0a.has, Z0b.has]
def R207 : Rel := fun args p r => ∃ (d : Int), args = [U d] ∧ r = .ret (.tup [U (diceNext d), I (diceNum (diceNext d))]) p
theorem t207 {T : XCall} (h : Has T 207 R207) (d : Int) {p : Hp}  : T 207 [U d] p = .ret (.tup [U (diceNext d), I (diceNum (diceNext d))]) p := h _ _ _ ⟨d, rfl, rfl⟩
theorem zq207 {A B : Prop} (h : A = B := by ((try simp -dsimp (disch := first | exact zdis | fail) only [zcore, zall, zopm, zop, zcallOp, qop, qbuiltin, ofOpt, List.map, reduceCtorEq, if_true, if_false, ↓reduceIte, zbin, eqRes, qassert, qnum, qshift, qun, kindOf, allocV, List.nil_append, List.append_nil, List.cons_append, List.length_cons, List.length_nil, Nat.reduceAdd, Nat.reduceEqDiff, Nat.reduceLT, Nat.reduceSub, Nat.reduceMul, Int.reduceToNat, Int.reduceLE, Int.reduceLT, Int.reduceEq, Int.reduceNeg, Int.reduceAdd, Int.reduceSub, beq_self_eq_true, cond_true, cond_false, isConstOpd, xpanic, xconv, isBytes, qconv, List.length_map, List.map_nil, List.map_cons, concrete, Option.some.injEq, exists_eq', Option.map_some, Option.map_none, List.getElem?_cons_zero, List.getElem?_cons_succ, zw207, rs207, tt3, tt25, tt178, ti3, ti25, ti178, zx, hc]); rfl)) (k : B) : A := h ▸ k
theorem zno207 {P : Prop} (h : P := by intro jj; simp [CV.has, CV.hasL, fault, K0c.nohas]) : P := h
set_option maxHeartbeats 8000000 in
theorem c207 : Con C 207 R207 := by
  refine Z0f C ?_ ?_ ?_
  · rintro args p r r' ⟨d, h, e⟩ ⟨d', h', e'⟩
    subst e; subst e'; simp_all
  · rintro args p r ⟨d, h, rfl⟩; first | (split <;> simp; done) | (simp; done) | (simp only [resM]; split <;> simp; done) | (simp only [resD]; split <;> simp; done) 
  · rintro args p r ⟨d, rfl, rfl⟩
    refine Z0e C false noExt (tabL C []) xf207 (Q0f C) (K0f C _) zc207_ok (Nat.le_of_ble_eq_true (by kernel_rfl)) fun hF => ?_
    generalize tabL C [] = call
    show W C false noExt call zc207 (argE [U d]) p (endQ C _ _)
    (have zx := True.intro; have hc := True.intro; refine zq207 (k := ?_); clear hc; try exact True.intro)
    repeat' ((first | refine K0d ?_ ?_ | refine Z0c ?_ ?_ | refine X0d _ _ _ _ ?_ ?_ | refine Q0d ?_ ?_ | refine V0d _ _ _ _ ?_ ?_) <;> intro hc <;> (try simp only [zhd] at hc) <;> (try have hw := X0b hc) <;> (refine zq207 (k := ?_); try exact True.intro))
    all_goals (try clear zx)
    exact K0e hF zle (Q0e rfl (Y0d zno207))
def R202 : Rel := fun args p r => ∃ (d n : Int), args = [U d, I n] ∧ r = .ret (.tup [U (diceRoll d n).1, I (diceRoll d n).2]) p
theorem t202 {T : XCall} (h : Has T 202 R202) (d n : Int) {p : Hp}  : T 202 [U d, I n] p = .ret (.tup [U (diceRoll d n).1, I (diceRoll d n).2]) p := h _ _ _ ⟨d, n, rfl, rfl⟩
theorem zq202 {A B : Prop} (h : A = B := by ((try simp -dsimp (disch := first | exact zdis | fail) only [zcore, zall, zopm, zop, zcallOp, qop, qbuiltin, ofOpt, List.map, reduceCtorEq, if_true, if_false, ↓reduceIte, zbin, eqRes, qassert, qnum, qshift, qun, kindOf, allocV, List.nil_append, List.append_nil, List.cons_append, List.length_cons, List.length_nil, Nat.reduceAdd, Nat.reduceEqDiff, Nat.reduceLT, Nat.reduceSub, Nat.reduceMul, Int.reduceToNat, Int.reduceLE, Int.reduceLT, Int.reduceEq, Int.reduceNeg, Int.reduceAdd, Int.reduceSub, beq_self_eq_true, cond_true, cond_false, isConstOpd, xpanic, xconv, isBytes, qconv, List.length_map, List.map_nil, List.map_cons, concrete, Option.some.injEq, exists_eq', Option.map_some, Option.map_none, List.getElem?_cons_zero, List.getElem?_cons_succ, zw202, rs202, tt3, ti3, t_207, zx, hc]); rfl)) (k : B) : A := h ▸ k
theorem zno202 {P : Prop} (h : P := by intro jj; simp [CV.has, CV.hasL, fault, K0c.nohas]) : P := h
set_option maxHeartbeats 8000000 in
theorem c202 : Con C 202 R202 := by
  refine Z0f C ?_ ?_ ?_
  · rintro args p r r' ⟨d, n, h, e⟩ ⟨d', n', h', e'⟩
    subst e; subst e'; simp_all
  · rintro args p r ⟨d, n, h, rfl⟩; first | (split <;> simp; done) | (simp; done) | (simp only [resM]; split <;> simp; done) | (simp only [resD]; split <;> simp; done) 
  · rintro args p r ⟨d, n, rfl, rfl⟩
    refine Z0e C false noExt (tabL C [(207, R207)]) xf202 (Q0f C) (K0f C _) zc202_ok (Nat.le_of_ble_eq_true (by kernel_rfl)) fun hF => ?_
    have t_207 := @t207 (tabL C [(207, R207)]) (Z0d C c207 [])
    generalize tabL C [(207, R207)] = call at t_207 ⊢
    show W C false noExt call zc202 (argE [U d, I n]) p (endQ C _ _)
    (have zx := True.intro; have hc := True.intro; refine zq202 (k := ?_); clear hc; try exact True.intro)
    repeat' ((first | refine K0d ?_ ?_ | refine Z0c ?_ ?_ | refine X0d _ _ _ _ ?_ ?_ | refine Q0d ?_ ?_ | refine V0d _ _ _ _ ?_ ?_) <;> intro hc <;> (try simp only [zhd] at hc) <;> (try have hw := X0b hc) <;> (refine zq202 (k := ?_); try exact True.intro))
    all_goals (try clear zx)
    all_goals refine K0e hF zle (Q0e ?_ (Y0d zno202))
    all_goals simp [diceRoll, hc]
def R203 : Rel := fun args p r => ∃ (b : Q0a) (x y : Int), args = [b.cv, I x, I y] ∧ r = .ret (bodyShoot b x y).cv p
theorem t203 {T : XCall} (h : Has T 203 R203) (b : Q0a) (x y : Int) {p : Hp}  : T 203 [b.cv, I x, I y] p = .ret (bodyShoot b x y).cv p := h _ _ _ ⟨b, x, y, rfl, rfl⟩
theorem zq203 {A B : Prop} (h : A = B := by ((try simp -dsimp (disch := first | exact zdis | fail) only [zcore, zall, zopm, zop, zcallOp, qop, qbuiltin, ofOpt, List.map, reduceCtorEq, if_true, if_false, ↓reduceIte, zbin, eqRes, qassert, qnum, qshift, qun, kindOf, allocV, List.nil_append, List.append_nil, List.cons_append, List.length_cons, List.length_nil, Nat.reduceAdd, Nat.reduceEqDiff, Nat.reduceLT, Nat.reduceSub, Nat.reduceMul, Int.reduceToNat, Int.reduceLE, Int.reduceLT, Int.reduceEq, Int.reduceNeg, Int.reduceAdd, Int.reduceSub, beq_self_eq_true, cond_true, cond_false, isConstOpd, xpanic, xconv, isBytes, qconv, List.length_map, List.map_nil, List.map_cons, concrete, Option.some.injEq, exists_eq', Option.map_some, Option.map_none, List.getElem?_cons_zero, List.getElem?_cons_succ, zw203, rs203, tt3, tt34, ti3, ti34, t_24, t_140, Y0f, zx, hc]); rfl)) (k : B) : A := h ▸ k
theorem zno203 {P : Prop} (h : P := by intro jj; simp [CV.has, CV.hasL, fault, K0c.nohas, Q0a.nohas]) : P := h
set_option maxHeartbeats 8000000 in
theorem c203 : Con C 203 R203 := by
  refine Z0f C ?_ ?_ ?_
  · rintro args p r r' ⟨b, x, y, h, e⟩ ⟨b', x', y', h', e'⟩
    subst e; subst e'; simp_all [Q0a.inj_iff]
  · rintro args p r ⟨b, x, y, h, rfl⟩; first | (split <;> simp; done) | (simp; done) | (simp only [resM]; split <;> simp; done) | (simp only [resD]; split <;> simp; done) 
  · rintro args p r ⟨b, x, y, rfl, rfl⟩
    refine Z0e C false noExt (tabL C [(24, R24), (140, R140)]) xf203 (Q0f C) (K0f C _) zc203_ok (Nat.le_of_ble_eq_true (by kernel_rfl)) fun hF => ?_
    have t_24 := @t24 (tabL C [(24, R24), (140, R140)]) (Z0d C c24 [(140, R140)])
    have t_140 := @t140 (tabL C [(24, R24), (140, R140)]) (Y0c C _ rfl (Z0d C c140 []))
    generalize tabL C [(24, R24), (140, R140)] = call at t_24 t_140 ⊢
    show W C false noExt call zc203 (argE [b.cv, I x, I y]) p (endQ C _ _)
    (have zx := True.intro; have hc := True.intro; refine zq203 (k := ?_); clear hc; try exact True.intro)
    repeat' ((first | refine K0d ?_ ?_ | refine Z0c ?_ ?_ | refine X0d _ _ _ _ ?_ ?_ | refine Q0d ?_ ?_ | refine V0d _ _ _ _ ?_ ?_) <;> intro hc <;> (try simp only [zhd] at hc) <;> (try have hw := X0b hc) <;> (refine zq203 (k := ?_); try exact True.intro))
    all_goals (try clear zx)
    all_goals refine K0e hF zle (Q0e ?_ (Y0d zno203))
    all_goals simp [bodyShoot, Q0a.zero, *]
def R148 : Rel := fun args p r => ∃ (s : Lst Q0a), args = [s.cv Q0a.cv] ∧ (s.tl ≠ .view) ∧ (s.l.length ≤ 1000000000) ∧ r = .ret (Lst.cv Q0a.cv (cloneL s p.n)) (if cloneOwn s = true then p.new (.tail s.l.length) else p)
theorem t148 {T : XCall} (h : Has T 148 R148) (s : Lst Q0a) {p : Hp} (h1 : s.tl ≠ .view) (h2 : s.l.length ≤ 1000000000) : T 148 [s.cv Q0a.cv] p = .ret (Lst.cv Q0a.cv (cloneL s p.n)) (if cloneOwn s = true then p.new (.tail s.l.length) else p) := h _ _ _ ⟨s, rfl, h1, h2, rfl⟩
theorem zq148 {A B : Prop} (h : A = B := by ((try simp -dsimp (disch := first | exact zdis | fail) only [zcore, zall, zopm, zop, zcallOp, qop, qbuiltin, ofOpt, List.map, reduceCtorEq, if_true, if_false, ↓reduceIte, zbin, eqRes, qassert, qnum, qshift, qun, kindOf, allocV, List.nil_append, List.append_nil, List.cons_append, List.length_cons, List.length_nil, Nat.reduceAdd, Nat.reduceEqDiff, Nat.reduceLT, Nat.reduceSub, Nat.reduceMul, Int.reduceToNat, Int.reduceLE, Int.reduceLT, Int.reduceEq, Int.reduceNeg, Int.reduceAdd, Int.reduceSub, beq_self_eq_true, cond_true, cond_false, isConstOpd, xpanic, xconv, isBytes, qconv, List.length_map, List.map_nil, List.map_cons, concrete, Option.some.injEq, exists_eq', Option.map_some, Option.map_none, List.getElem?_cons_zero, List.getElem?_cons_succ, zw148, rs148, tt37, ti37, Y0f, zsl37, h1, h2, zx, hc]); rfl)) (k : B) : A := h ▸ k
set_option maxHeartbeats 8000000 in
theorem c148 : Con C 148 R148 := by
  refine Z0f C ?_ ?_ ?_
  · rintro args p r r' ⟨s, h, h1, h2, e⟩ ⟨s', h', h1', h2', e'⟩
    subst e; subst e'; simp_all [Q0a.inj_iff, Z0r]
  · rintro args p r ⟨s, h, h1, h2, rfl⟩; first | (split <;> simp; done) | (simp; done) | (simp only [resM]; split <;> simp; done) | (simp only [resD]; split <;> simp; done) 
  · rintro args p r ⟨s, rfl, h1, h2, rfl⟩
    refine Z0e C false noExt (tabL C []) xf148 (Q0f C) (K0f C _) zc148_ok (Nat.le_of_ble_eq_true (by kernel_rfl)) fun hF => ?_
    generalize tabL C [] = call
    show W C false noExt call zc148 (argE [s.cv Q0a.cv]) p (endQ C _ _)
    obtain ⟨tl, l, o⟩ := s
    simp only at h2 h1
    cases tl with
    | view => exact absurd rfl h1
    | nil =>
      have := o rfl
      subst this
      (have zx := True.intro; have hc := True.intro; refine zq148 (k := ?_); clear hc; try exact True.intro)
      repeat' ((first | refine K0d ?_ ?_ | refine Z0c ?_ ?_ | refine X0d _ _ _ _ ?_ ?_ | refine Q0d ?_ ?_ | refine V0d _ _ _ _ ?_ ?_) <;> intro hc <;> (try simp only [zhd] at hc) <;> (try have hw := X0b hc) <;> (refine zq148 (k := ?_); try exact True.intro))
      all_goals (try clear zx)
      exact K0e hF zle (X0e (Y0d (by intro jj; simp [Lst.cv, cloneL, CV.has, CV.hasL])))
    | _ =>
      cases l with
      | nil =>
        (have zx := True.intro; have hc := True.intro; refine zq148 (k := ?_); clear hc; try exact True.intro)
        repeat' ((first | refine K0d ?_ ?_ | refine Z0c ?_ ?_ | refine X0d _ _ _ _ ?_ ?_ | refine Q0d ?_ ?_ | refine V0d _ _ _ _ ?_ ?_) <;> intro hc <;> (try simp only [zhd] at hc) <;> (try have hw := X0b hc) <;> (refine zq148 (k := ?_); try exact True.intro))
        all_goals (try clear zx)
        exact K0e hF zle (X0e (Y0d (by intro jj; simp [Lst.cv, cloneL, CV.has, CV.hasL])))
      | cons x l =>
        simp only [List.length_cons] at h2
        (have zx := True.intro; have hc := True.intro; refine zq148 (k := ?_); clear hc; try exact True.intro)
        repeat' ((first | refine K0d ?_ ?_ | refine Z0c ?_ ?_ | refine X0d _ _ _ _ ?_ ?_ | refine Q0d ?_ ?_ | refine V0d _ _ _ _ ?_ ?_) <;> intro hc <;> (try simp only [zhd] at hc) <;> (try have hw := X0b hc) <;> (refine zq148 (k := ?_); try exact True.intro))
        all_goals (try clear zx)
        simp only [cloneL, cloneOwn, List.isEmpty_cons, Bool.not_false, if_true]
        refine V1m ?_ (fun k ob h => ?_) (X0e fun jj hj => ?_)
        · show p.n ≤ p.n + 1; omega
        · by_cases hk : k = p.n
          · subst hk
            rw [Hp.get_new_self] at h; cases h
            exact ⟨Nat.lt_succ_self _, .inr ⟨_, Hp.get_new_self _ _, by simp [XObj.weak]⟩⟩
          · rw [Hp.get_new_ne _ _ hk] at h
            have := hF.dom _ _ h
            exact ⟨Nat.lt_succ_of_lt this, .inl ⟨this, h, by rw [Hp.get_new_ne _ _ hk]; exact h⟩⟩
        · rw [Lst.has _ Q0a.nohas] at hj
          simp only [Tail.own.injEq] at hj
          subst hj; exact Nat.lt_succ_self _
end Go.Proofs.Ytpchcfkebljopaa
end
section
-- @nole
namespace Go.Proofs.Ytpchcfkebljopaa
open Go.Cl Go Go.RowKit
set_option maxRecDepth 100000
set_option linter.constructorNameAsVariable false
theorem weakL_self {α : Type} {f : α → CV} (h : ∀ x j, ¬ (f x).has j) (n : Nat) (l : List α) : CV.weakL (fun k => k) n (l.map f) (l.map f) := CV.weakL_refl _ fun j hj => (V0p h l j hj).elim
theorem Mach.weakS (m : Y0a) (n j : Nat) (l : List Q0a) (hl : ∀ k, m.l_.tl = .own k → k < n) : CV.weak (fun k => k) n ({ m with e_ := { m.e_ with Shots := ⟨.own j, l, nofun⟩ } } : Y0a).cv ({ m with e_ := { m.e_ with Shots := ⟨.part, l, nofun⟩ } } : Y0a).cv := by
  have h1 : CV.weak (fun k => k) n m.e_.Body.cv m.e_.Body.cv := X0e (Y0d (Q0a.nohas _))
  have h2 : CV.weak (fun k => k) n m.e_.In.cv m.e_.In.cv := X0e (Y0d (Y0b.nohas _))
  have h3 : CV.weak (fun k => k) n (Lst.cv X0c.cv m.l_) (Lst.cv X0c.cv m.l_) := X0e fun k hk => hl k ((Lst.has _ X0c.nohas _ _).1 hk)
  have h4 := weakL_self Q0a.nohas n l
  have h5 : CV.weak (fun k => k) n (Lst.cv Q0a.cv ⟨.own j, l, nofun⟩) (Lst.cv Q0a.cv ⟨.part, l, nofun⟩) := by
    simp only [Lst.cv, CV.weak, Tail.weak, true_and]; exact h4
  simp only [Y0a.cv, Z0b.cv, CV.weak, CV.weakL]
  exact ⟨⟨h1, h2, trivial, trivial, h5, trivial⟩, h3, trivial, trivial⟩
noncomputable def resM (i : Nat) (m : Y0a) (p : Hp) (r : Except Int Y0a) : XRes :=
  match r with
  | .ok m' => .ret (.tup []) (p.set i (some (.var sh131 m'.cv)))
  | .error c => .pan (fault c m.at_) p
def R188 : Rel := fun args p r => ∃ (i : Nat) (m : Y0a) (o : X0c), args = [.ptr i [], o.cv] ∧ (p.t.get i = some (.var sh131 m.cv)) ∧ (0 ≤ o.A ∧ o.A < 4) ∧ (0 ≤ o.B ∧ o.B < 4) ∧ (m.e_.Shots.tl ≠ .view) ∧ (m.e_.Shots.l.length ≤ 1000000) ∧ r = resM i m p (Mach.reckon m o)
theorem t188 {T : XCall} (h : Has T 188 R188) (i : Nat) (m : Y0a) (o : X0c) {p : Hp} (h1 : p.t.get i = some (.var sh131 m.cv)) (hA : 0 ≤ o.A ∧ o.A < 4) (hB : 0 ≤ o.B ∧ o.B < 4) (h3 : m.e_.Shots.tl ≠ .view) (h4 : m.e_.Shots.l.length ≤ 1000000) : T 188 [.ptr i [], o.cv] p = resM i m p (Mach.reckon m o) := h _ _ _ ⟨i, m, o, rfl, h1, hA, hB, h3, h4, rfl⟩
theorem zdis188 {P : Prop} (h : P := by first | exact zdis | (simp only [Hp.bump_n, Hp.znew_n, Hp.zset_n, List.length_nil, List.length_cons, List.length_append, List.length_map, K1q]; (first | done | omega)) | (simp (disch := first | exact zd1 | (simp only [Hp.bump_n, Hp.znew_n, Hp.zset_n, List.length_nil, List.length_cons, List.length_append, List.length_map, K1q]; (first | done | omega))) only [zheap, zx]; (first | done | rfl)) | fail) : P := h
theorem zq188 {A B : Prop} (h : A = B := by ((try simp -dsimp (disch := first | exact zdis188 | fail) only [zcore, zall, zopm, zop, zcallOp, qop, qbuiltin, ofOpt, List.map, reduceCtorEq, if_true, if_false, ↓reduceIte, zbin, eqRes, qassert, qnum, qshift, qun, kindOf, allocV, List.nil_append, List.append_nil, List.cons_append, List.length_cons, List.length_nil, Nat.reduceAdd, Nat.reduceEqDiff, Nat.reduceLT, Nat.reduceSub, Nat.reduceMul, Int.reduceToNat, Int.reduceLE, Int.reduceLT, Int.reduceEq, Int.reduceNeg, Int.reduceAdd, Int.reduceSub, beq_self_eq_true, cond_true, cond_false, isConstOpd, xpanic, xconv, isBytes, qconv, List.length_map, List.map_nil, List.map_cons, concrete, Option.some.injEq, exists_eq', Option.map_some, Option.map_none, List.getElem?_cons_zero, List.getElem?_cons_succ, zw188, rs188, tt3, tt25, tt29, tt34, tt37, tt39, tt131, ti3, ti25, ti29, ti34, ti37, ti39, ti131, t_186, t_183, t_150, t_202, t_148, t_203, K0g, Q0h, Y0f, Y0l, zsl37, appT_cl0, appT_cl1, K1q, h1, hA, hB, h3, h4, zx, hc]); rfl)) (k : B) : A := h ▸ k
theorem zno188 {P : Prop} (h : P := by intro jj; simp [CV.has, CV.hasL, fault, K0c.nohas, Q0a.nohas, X0c.nohas]) : P := h
set_option maxHeartbeats 8000000 in
theorem c188 : Con C 188 R188 := by
  refine Z0f C ?_ ?_ ?_
  · rintro args p r r' ⟨i, m, o, h, h1, hA, hB, h3, h4, e⟩ ⟨i', m', o', h', h1', hA', hB', h3', h4', e'⟩
    subst e; subst e'; simp_all [Y0a.inj_iff, Z0b.inj_iff, Q0a.inj_iff, X0c.inj_iff, Z0r]
  · rintro args p r ⟨i, m, o, h, h1, hA, hB, h3, h4, rfl⟩; first | (split <;> simp; done) | (simp; done) | (simp only [resM]; split <;> simp; done) | (simp only [resD]; split <;> simp; done) 
  · rintro args p r ⟨i, m, o, rfl, h1, hA, hB, h3, h4, rfl⟩
    refine Z0e C false noExt (tabL C [(186, R186), (183, R183), (150, R150), (202, R202), (148, R148), (203, R203)]) xf188 (Q0f C) (K0f C _) zc188_ok (Nat.le_of_ble_eq_true (by kernel_rfl)) fun hF => ?_
    have t_186 := @t186 (tabL C [(186, R186), (183, R183), (150, R150), (202, R202), (148, R148), (203, R203)]) (Z0d C c186 [(183, R183), (150, R150), (202, R202), (148, R148), (203, R203)])
    have t_183 := @t183 (tabL C [(186, R186), (183, R183), (150, R150), (202, R202), (148, R148), (203, R203)]) (Y0c C _ rfl (Z0d C c183 [(150, R150), (202, R202), (148, R148), (203, R203)]))
    have t_150 := @t150 (tabL C [(186, R186), (183, R183), (150, R150), (202, R202), (148, R148), (203, R203)]) (Y0c C _ rfl (Y0c C _ rfl (Z0d C c150 [(202, R202), (148, R148), (203, R203)])))
    have t_202 := @t202 (tabL C [(186, R186), (183, R183), (150, R150), (202, R202), (148, R148), (203, R203)]) (Y0c C _ rfl (Y0c C _ rfl (Y0c C _ rfl (Z0d C c202 [(148, R148), (203, R203)]))))
    have t_148 := @t148 (tabL C [(186, R186), (183, R183), (150, R150), (202, R202), (148, R148), (203, R203)]) (Y0c C _ rfl (Y0c C _ rfl (Y0c C _ rfl (Y0c C _ rfl (Z0d C c148 [(203, R203)])))))
    have t_203 := @t203 (tabL C [(186, R186), (183, R183), (150, R150), (202, R202), (148, R148), (203, R203)]) (Y0c C _ rfl (Y0c C _ rfl (Y0c C _ rfl (Y0c C _ rfl (Y0c C _ rfl (Z0d C c203 []))))))
    generalize tabL C [(186, R186), (183, R183), (150, R150), (202, R202), (148, R148), (203, R203)] = call at t_186 t_183 t_150 t_202 t_148 t_203 ⊢
    have hd_h1 := hF.dom _ _ h1
    show W C false noExt call zc188 (argE [.ptr i [], o.cv]) p (endQ C _ _)
    have hlt : ∀ m' : Y0a, (m'.e_.Shots.tl = m.e_.Shots.tl ∨ m'.e_.Shots.tl = .part) → m'.l_.tl = m.l_.tl → (XObj.var sh131 m'.cv).lt p.n := by
      intro m' e1 e2 j hj
      refine hF.lt_obj (.arg (a := CV.ptr i []) (by simp) rfl) h1 j ?_
      simp only [XObj.has, Y0a.has, Z0b.has] at hj ⊢
      rw [e2] at hj
      rcases e1 with e1 | e1 <;> simp_all
    cases hco : cloneOwn m.e_.Shots
    all_goals (have zx := And.intro hco h1; have hc := True.intro; refine zq188 (k := ?_); clear hc; try exact True.intro)
    repeat' ((first | refine K0d ?_ ?_ | refine Z0c ?_ ?_ | refine X0d _ _ _ _ ?_ ?_ | refine Q0d ?_ ?_ | refine V0d _ _ _ _ ?_ ?_) <;> intro hc <;> (try simp only [zhd] at hc) <;> (try have hw := X0b hc) <;> (refine zq188 (k := ?_); try exact True.intro))
    all_goals (try clear zx)
    all_goals simp [Mach.reckon, resM, *]
    all_goals (try simp (disch := omega) only [if_pos, if_neg])
    any_goals (first | exact K0e hF zle (X0e (Y0d zno188)) | exact Z0l hF zle (X0e (Y0d zno188)))
    any_goals (refine X0l hF (hF.dom _ _ h1) zlm ⟨_, Hp.get_set_self _ _ _, Q0l rfl (hlt _ (by simp [Mach.set, Mach.body]) (by simp [Mach.set, Mach.body]))⟩ (X0e (Y0d Z1e)); done)
    all_goals
      refine X0l hF (hF.dom _ _ h1) zlm ⟨_, Hp.get_set_self _ _ _, rfl, Mach.weakS m _ _ _ fun k hk => ?_⟩ (X0e (Y0d Z1e))
      exact hF.lt_obj (.arg (a := CV.ptr i []) (by simp) rfl) h1 k (by simp [XObj.has, Y0a.has, hk])
noncomputable def resD (i : Nat) (m : Y0a) (p : Hp) (r : Except Int (Y0a × Int)) : XRes :=
  match r with
  | .ok m' => .ret (I m'.2) (p.set i (some (.var sh131 m'.1.cv)))
  | .error c => .pan (fault c m.at_) p
def R151 : Rel := fun args p r => ∃ (i : Nat) (m : Y0a) (o : X0c), args = [.ptr i [], o.cv] ∧ (p.t.get i = some (.var sh131 m.cv)) ∧ (0 ≤ m.at_ ∧ m.at_ ≤ 1000000) ∧ (m.e_.Shots.tl ≠ .view) ∧ (m.e_.Shots.l.length ≤ 1000000) ∧ r = resD i m p (Mach.doOp m o)
theorem t151 {T : XCall} (h : Has T 151 R151) (i : Nat) (m : Y0a) (o : X0c) {p : Hp} (h1 : p.t.get i = some (.var sh131 m.cv)) (h2 : 0 ≤ m.at_ ∧ m.at_ ≤ 1000000) (h3 : m.e_.Shots.tl ≠ .view) (h4 : m.e_.Shots.l.length ≤ 1000000) : T 151 [.ptr i [], o.cv] p = resD i m p (Mach.doOp m o) := h _ _ _ ⟨i, m, o, rfl, h1, h2, h3, h4, rfl⟩
theorem zq151 {A B : Prop} (h : A = B := by ((try simp -dsimp (disch := first | exact zdis | fail) only [zcore, zall, zopm, zop, zcallOp, qop, qbuiltin, ofOpt, List.map, reduceCtorEq, if_true, if_false, ↓reduceIte, zbin, eqRes, qassert, qnum, qshift, qun, kindOf, allocV, List.nil_append, List.append_nil, List.cons_append, List.length_cons, List.length_nil, Nat.reduceAdd, Nat.reduceEqDiff, Nat.reduceLT, Nat.reduceSub, Nat.reduceMul, Int.reduceToNat, Int.reduceLE, Int.reduceLT, Int.reduceEq, Int.reduceNeg, Int.reduceAdd, Int.reduceSub, beq_self_eq_true, cond_true, cond_false, isConstOpd, xpanic, xconv, isBytes, qconv, List.length_map, List.map_nil, List.map_cons, concrete, Option.some.injEq, exists_eq', Option.map_some, Option.map_none, List.getElem?_cons_zero, List.getElem?_cons_succ, zw151, rs151, tt3, tt23, tt29, tt131, ti3, ti23, ti29, ti131, t_84, t_150, t_182, t_183, t_184, t_185, t_186, t_187, t_188, K0g, Q0h, Y0f, Y0l, zsl23, Mach.set_at, Mach.put_at, resM, h1, h2, h3, h4, zx, hc]); rfl)) (k : B) : A := h ▸ k
theorem zno151 {P : Prop} (h : P := by intro jj; simp [CV.has, CV.hasL, fault, K0c.nohas, Q0a.nohas, X0c.nohas]) : P := h
set_option maxHeartbeats 8000000 in
theorem c151 : Con C 151 R151 := by
  refine Z0f C ?_ ?_ ?_
  · rintro args p r r' ⟨i, m, o, h, h1, h2, h3, h4, e⟩ ⟨i', m', o', h', h1', h2', h3', h4', e'⟩
    subst e; subst e'; simp_all [Y0a.inj_iff, Z0b.inj_iff, Q0a.inj_iff, X0c.inj_iff, K0m]
  · rintro args p r ⟨i, m, o, h, h1, h2, h3, h4, rfl⟩; first | (split <;> simp; done) | (simp; done) | (simp only [resM]; split <;> simp; done) | (simp only [resD]; split <;> simp; done) 
  · rintro args p r ⟨i, m, o, rfl, h1, h2, h3, h4, rfl⟩
    refine Z0e C false noExt (tabL C [(84, R84), (150, R150), (182, R182), (183, R183), (184, R184), (185, R185), (186, R186), (187, R187), (188, R188)]) xf151 (Q0f C) (K0f C _) zc151_ok (Nat.le_of_ble_eq_true (by kernel_rfl)) fun hF => ?_
    have t_84 := @t84 (tabL C [(84, R84), (150, R150), (182, R182), (183, R183), (184, R184), (185, R185), (186, R186), (187, R187), (188, R188)]) (Z0d C c84 [(150, R150), (182, R182), (183, R183), (184, R184), (185, R185), (186, R186), (187, R187), (188, R188)])
    have t_150 := @t150 (tabL C [(84, R84), (150, R150), (182, R182), (183, R183), (184, R184), (185, R185), (186, R186), (187, R187), (188, R188)]) (Y0c C _ rfl (Z0d C c150 [(182, R182), (183, R183), (184, R184), (185, R185), (186, R186), (187, R187), (188, R188)]))
    have t_182 := @t182 (tabL C [(84, R84), (150, R150), (182, R182), (183, R183), (184, R184), (185, R185), (186, R186), (187, R187), (188, R188)]) (Y0c C _ rfl (Y0c C _ rfl (Z0d C c182 [(183, R183), (184, R184), (185, R185), (186, R186), (187, R187), (188, R188)])))
    have t_183 := @t183 (tabL C [(84, R84), (150, R150), (182, R182), (183, R183), (184, R184), (185, R185), (186, R186), (187, R187), (188, R188)]) (Y0c C _ rfl (Y0c C _ rfl (Y0c C _ rfl (Z0d C c183 [(184, R184), (185, R185), (186, R186), (187, R187), (188, R188)]))))
    have t_184 := @t184 (tabL C [(84, R84), (150, R150), (182, R182), (183, R183), (184, R184), (185, R185), (186, R186), (187, R187), (188, R188)]) (Y0c C _ rfl (Y0c C _ rfl (Y0c C _ rfl (Y0c C _ rfl (Z0d C c184 [(185, R185), (186, R186), (187, R187), (188, R188)])))))
    have t_185 := @t185 (tabL C [(84, R84), (150, R150), (182, R182), (183, R183), (184, R184), (185, R185), (186, R186), (187, R187), (188, R188)]) (Y0c C _ rfl (Y0c C _ rfl (Y0c C _ rfl (Y0c C _ rfl (Y0c C _ rfl (Z0d C c185 [(186, R186), (187, R187), (188, R188)]))))))
    have t_186 := @t186 (tabL C [(84, R84), (150, R150), (182, R182), (183, R183), (184, R184), (185, R185), (186, R186), (187, R187), (188, R188)]) (Y0c C _ rfl (Y0c C _ rfl (Y0c C _ rfl (Y0c C _ rfl (Y0c C _ rfl (Y0c C _ rfl (Z0d C c186 [(187, R187), (188, R188)])))))))
    have t_187 := @t187 (tabL C [(84, R84), (150, R150), (182, R182), (183, R183), (184, R184), (185, R185), (186, R186), (187, R187), (188, R188)]) (Y0c C _ rfl (Y0c C _ rfl (Y0c C _ rfl (Y0c C _ rfl (Y0c C _ rfl (Y0c C _ rfl (Y0c C _ rfl (Z0d C c187 [(188, R188)]))))))))
    have t_188 := @t188 (tabL C [(84, R84), (150, R150), (182, R182), (183, R183), (184, R184), (185, R185), (186, R186), (187, R187), (188, R188)]) (Y0c C _ rfl (Y0c C _ rfl (Y0c C _ rfl (Y0c C _ rfl (Y0c C _ rfl (Y0c C _ rfl (Y0c C _ rfl (Y0c C _ rfl (Z0d C c188 [])))))))))
    generalize tabL C [(84, R84), (150, R150), (182, R182), (183, R183), (184, R184), (185, R185), (186, R186), (187, R187), (188, R188)] = call at t_84 t_150 t_182 t_183 t_184 t_185 t_186 t_187 t_188 ⊢
    have hd_h1 := hF.dom _ _ h1
    show W C false noExt call zc151 (argE [.ptr i [], o.cv]) p (endQ C _ _)
    have hlt : ∀ m' : Y0a, (m'.e_.Shots.tl = m.e_.Shots.tl ∨ m'.e_.Shots.tl = .part) → m'.l_.tl = m.l_.tl → (XObj.var sh131 m'.cv).lt p.n := by
      intro m' e1 e2 j hj
      refine hF.lt_obj (.arg (a := CV.ptr i []) (by simp) rfl) h1 j ?_
      simp only [XObj.has, Y0a.has, Z0b.has] at hj ⊢
      rw [e2] at hj
      rcases e1 with e1 | e1 <;> simp_all
    cases hn : namedOk o with
    | false =>
      (have zx := And.intro hn h1; have hc := True.intro; refine zq151 (k := ?_); clear hc; try exact True.intro)
      repeat' ((first | refine K0d ?_ ?_ | refine Z0c ?_ ?_ | refine X0d _ _ _ _ ?_ ?_ | refine Q0d ?_ ?_ | refine V0d _ _ _ _ ?_ ?_) <;> intro hc <;> (try simp only [zhd] at hc) <;> (try have hw := X0b hc) <;> (refine zq151 (k := ?_); try exact True.intro))
      all_goals (try clear zx)
      all_goals simp [Mach.doOp, resD, *]
      all_goals first
        | (first | exact K0e hF zle (X0e (Y0d zno151)) | exact Z0l hF zle (X0e (Y0d zno151)))
        | exact X0l hF hd_h1 zlm ⟨_, Hp.get_set_self _ _ _, Q0l rfl (hlt _ (by first | exact hk.1 | simp [Mach.set, Mach.put, Mach.body]) (by first | (rw [hk.2.1]; done) | simp [Mach.set, Mach.put, Mach.body]))⟩ (X0e (Y0d zno151))
        | exact X0l hF hd_h1 zlm ⟨_, (by rw [Hp.get_new_ne _ _ (Nat.ne_of_lt hd_h1)]; exact h1), Z0o (hlt _ (.inl rfl) rfl)⟩ (X0e (Y0d zno151))
        | skip
    | true =>
      have hA := namedOk_A hn
      have hB := namedOk_B hn
      cases hr : Mach.reckon m o with
      | error c =>
        (have zx := And.intro hn (And.intro hr h1); have hc := True.intro; refine zq151 (k := ?_); clear hc; try exact True.intro)
        repeat' ((first | refine K0d ?_ ?_ | refine Z0c ?_ ?_ | refine X0d _ _ _ _ ?_ ?_ | refine Q0d ?_ ?_ | refine V0d _ _ _ _ ?_ ?_) <;> intro hc <;> (try simp only [zhd] at hc) <;> (try have hw := X0b hc) <;> (refine zq151 (k := ?_); try exact True.intro))
        all_goals (try clear zx)
        all_goals simp [Mach.doOp, resD, *]
        all_goals first
          | (first | exact K0e hF zle (X0e (Y0d zno151)) | exact Z0l hF zle (X0e (Y0d zno151)))
          | exact X0l hF hd_h1 zlm ⟨_, Hp.get_set_self _ _ _, Q0l rfl (hlt _ (by first | exact hk.1 | simp [Mach.set, Mach.put, Mach.body]) (by first | (rw [hk.2.1]; done) | simp [Mach.set, Mach.put, Mach.body]))⟩ (X0e (Y0d zno151))
          | exact X0l hF hd_h1 zlm ⟨_, (by rw [Hp.get_new_ne _ _ (Nat.ne_of_lt hd_h1)]; exact h1), Z0o (hlt _ (.inl rfl) rfl)⟩ (X0e (Y0d zno151))
          | skip
      | ok m' =>
        have hk := Mach.reckon_keeps hr
        have hka := hk.2.2.1
        (have zx := And.intro hn (And.intro hr (And.intro hka h1)); have hc := True.intro; refine zq151 (k := ?_); clear hc; try exact True.intro)
        repeat' ((first | refine K0d ?_ ?_ | refine Z0c ?_ ?_ | refine X0d _ _ _ _ ?_ ?_ | refine Q0d ?_ ?_ | refine V0d _ _ _ _ ?_ ?_) <;> intro hc <;> (try simp only [zhd] at hc) <;> (try have hw := X0b hc) <;> (refine zq151 (k := ?_); try exact True.intro))
        all_goals (try clear zx)
        all_goals simp [Mach.doOp, resD, *]
        all_goals first
          | (first | exact K0e hF zle (X0e (Y0d zno151)) | exact Z0l hF zle (X0e (Y0d zno151)))
          | exact X0l hF hd_h1 zlm ⟨_, Hp.get_set_self _ _ _, Q0l rfl (hlt _ (by first | exact hk.1 | simp [Mach.set, Mach.put, Mach.body]) (by first | (rw [hk.2.1]; done) | simp [Mach.set, Mach.put, Mach.body]))⟩ (X0e (Y0d zno151))
          | exact X0l hF hd_h1 zlm ⟨_, (by rw [Hp.get_new_ne _ _ (Nat.ne_of_lt hd_h1)]; exact h1), Z0o (hlt _ (.inl rfl) rfl)⟩ (X0e (Y0d zno151))
          | skip
end Go.Proofs.Ytpchcfkebljopaa
end
section
-- @nole
namespace Go.Proofs.Ytpchcfkebljopaa
open Go.Cl Go Go.RowKit
set_option maxRecDepth 100000
set_option linter.constructorNameAsVariable false
noncomputable def resR (i : Nat) (p : Hp) (r : Except (Int × Int) Y0a) : XRes :=
  match r with
  | .ok m' => .ret (.tup []) (p.set i (some (.var sh131 m'.cv)))
  | .error c => .pan (fault c.1 c.2) (p.set i none)
def J74 (i : Nat) (p0 : Hp) (m0 : Y0a) (k : Nat) (ρ : Env) (p : Hp) : Prop :=
  ∃ (m : Y0a), ρ 0 = .ptr i [] ∧ ρ 2 = I (64 - k) ∧ k ≤ 64 ∧ p.t.get i = some (.var sh131 m.cv) ∧ p0.n ≤ p.n ∧ (∀ j o, j ≠ i → p0.t.get j = some o → p.t.get j = some o) ∧ Mach.run k m = Mach.run 64 m0 ∧ 0 ≤ m.at_ ∧ m.at_ ≤ m.l_.l.length ∧ m.l_ = m0.l_ ∧ (m.e_.Shots.tl = m0.e_.Shots.tl ∨ m.e_.Shots.tl = .part) ∧ m.e_.Shots.l.length ≤ m0.e_.Shots.l.length + (64 - k)
def R74 : Rel := fun args p r => ∃ (i : Nat) (m : Y0a), args = [.ptr i []] ∧ (p.t.get i = some (.var sh131 m.cv)) ∧ (0 ≤ m.at_ ∧ m.at_ ≤ m.l_.l.length) ∧ (m.l_.l.length ≤ 100000) ∧ (m.e_.Shots.tl ≠ .view) ∧ (m.e_.Shots.l.length ≤ 100000) ∧ r = resR i p (Mach.run 64 m)
theorem t74 {T : XCall} (h : Has T 74 R74) (i : Nat) (m : Y0a) {p : Hp} (h1 : p.t.get i = some (.var sh131 m.cv)) (h2 : 0 ≤ m.at_ ∧ m.at_ ≤ m.l_.l.length) (hl : m.l_.l.length ≤ 100000) (h3 : m.e_.Shots.tl ≠ .view) (h4 : m.e_.Shots.l.length ≤ 100000) : T 74 [.ptr i []] p = resR i p (Mach.run 64 m) := h _ _ _ ⟨i, m, rfl, h1, h2, hl, h3, h4, rfl⟩
theorem zq74 {A B : Prop} (h : A = B := by ((try simp -dsimp (disch := first | exact zdis | fail) only [zcore, zall, zopm, zop, zcallOp, qop, qbuiltin, ofOpt, List.map, reduceCtorEq, if_true, if_false, ↓reduceIte, zbin, eqRes, qassert, qnum, qshift, qun, kindOf, allocV, List.nil_append, List.append_nil, List.cons_append, List.length_cons, List.length_nil, Nat.reduceAdd, Nat.reduceEqDiff, Nat.reduceLT, Nat.reduceSub, Nat.reduceMul, Int.reduceToNat, Int.reduceLE, Int.reduceLT, Int.reduceEq, Int.reduceNeg, Int.reduceAdd, Int.reduceSub, beq_self_eq_true, cond_true, cond_false, isConstOpd, xpanic, xconv, isBytes, qconv, List.length_map, List.map_nil, List.map_cons, concrete, Option.some.injEq, exists_eq', Option.map_some, Option.map_none, List.getElem?_cons_zero, List.getElem?_cons_succ, zw74, rs74, tt3, tt23, tt29, tt131, ti3, ti23, ti29, ti131, t_150, t_151, K0g, Y0l, zsl23, resD, h1, h2, hl, h3, h4, zx, hc]); rfl)) (k : B) : A := h ▸ k
theorem zno74 {P : Prop} (h : P := by intro jj; simp [CV.has, CV.hasL, fault, K0c.nohas, X0c.nohas]) : P := h
set_option maxHeartbeats 8000000 in
theorem c74 : Con C 74 R74 := by
  refine Z0f C ?_ ?_ ?_
  · rintro args p r r' ⟨i, m, h, h1, h2, hl, h3, h4, e⟩ ⟨i', m', h', h1', h2', hl', h3', h4', e'⟩
    subst e; subst e'; simp_all [Y0a.inj_iff, X0c.inj_iff, K0m]
  · rintro args p r ⟨i, m, h, h1, h2, hl, h3, h4, rfl⟩; first | (split <;> simp; done) | (simp; done) | (simp only [resM]; split <;> simp; done) | (simp only [resD]; split <;> simp; done)  | (unfold resR; split <;> simp; done)
  · rintro args p r ⟨i, m, rfl, h1, h2, hl, h3, h4, rfl⟩
    refine Z0e C false noExt (tabL C [(150, R150), (151, R151)]) xf74 (Q0f C) (K0f C _) zc74_ok (Nat.le_of_ble_eq_true (by kernel_rfl)) fun hF => ?_
    have t_150 := @t150 (tabL C [(150, R150), (151, R151)]) (Z0d C c150 [(151, R151)])
    have t_151 := @t151 (tabL C [(150, R150), (151, R151)]) (Y0c C _ rfl (Z0d C c151 []))
    generalize tabL C [(150, R150), (151, R151)] = call at t_150 t_151 ⊢
    have hd_h1 := hF.dom _ _ h1
    show W C false noExt call zc74 (argE [.ptr i []]) p (endQ C _ _)
    (have zx := h1; have hc := True.intro; refine zq74 (k := ?_); clear hc; try exact True.intro)
    repeat' ((first | refine K0d ?_ ?_ | refine Z0c ?_ ?_ | refine X0d _ _ _ _ ?_ ?_ | refine Q0d ?_ ?_ | refine V0d _ _ _ _ ?_ ?_) <;> intro hc <;> (try simp only [zhd] at hc) <;> (try have hw := X0b hc) <;> (refine zq74 (k := ?_); try exact True.intro))
    all_goals (try clear zx)
    show W C false noExt call (ZC.loop zn74_4) _ _ _
    refine V0n C false noExt call zn74_4 _ _ _ (J74 i p m) 64 ⟨m, rfl, rfl, by omega, h1, Nat.le_refl _, fun _ _ _ h => h, rfl, h2.1, h2.2, rfl, .inl rfl, by omega⟩ ?_
    rintro k ρ q ⟨m', e0, e2, hk, hg, hn, hle, hrun, ha, ha', hml, htl, hsl⟩
    have hi : i < q.n := Nat.lt_of_lt_of_le hd_h1 hn
    have htv : m'.e_.Shots.tl ≠ .view := by rcases htl with h | h <;> rw [h] <;> first | exact h3 | simp
    by_cases hlt : m'.at_ < m'.l_.l.length
    all_goals rw [hml] at hlt ha'
    · cases k with
      | zero =>
        have hs : ¬ (64 - ((0 : Nat) : Int) < 64) := by omega
        (have zx := And.intro e0 (And.intro e2 (And.intro hg (And.intro hml (And.intro hlt (And.intro hs h1))))); have hc := True.intro; refine zq74 (k := ?_); clear hc; try exact True.intro)
        repeat' ((first | refine K0d ?_ ?_ | refine Z0c ?_ ?_ | refine X0d _ _ _ _ ?_ ?_ | refine Q0d ?_ ?_ | refine V0d _ _ _ _ ?_ ?_) <;> intro hc <;> (try simp only [zhd] at hc) <;> (try have hw := X0b hc) <;> (refine zq74 (k := ?_); try exact True.intro))
        all_goals (try clear zx)
        have hr : Mach.run 0 m' = .error (5, m'.at_) := by simp [Mach.run, hml, hlt]
        rw [← hrun, hr]
        exact shr_dropP hF (fun j o hj h => hle j o hj h) (X0e (Y0d zno74))
      | succ k =>
        have hs : 64 - ((k + 1 : Nat) : Int) < 64 := by omega
        cases hdo : Mach.doOp m' (nth m.l_.l m'.at_.toNat) with
        | error c =>
          (have zx := And.intro e0 (And.intro e2 (And.intro hg (And.intro hml (And.intro hlt (And.intro hs (And.intro hdo h1)))))); have hc := True.intro; refine zq74 (k := ?_); clear hc; try exact True.intro)
          repeat' ((first | refine K0d ?_ ?_ | refine Z0c ?_ ?_ | refine X0d _ _ _ _ ?_ ?_ | refine Q0d ?_ ?_ | refine V0d _ _ _ _ ?_ ?_) <;> intro hc <;> (try simp only [zhd] at hc) <;> (try have hw := X0b hc) <;> (refine zq74 (k := ?_); try exact True.intro))
          all_goals (try clear zx)
          have hr : Mach.run (k + 1) m' = .error (c, m'.at_) := by simp [Mach.run, hml, hlt, hdo]
          rw [← hrun, hr]
          exact shr_dropP hF (fun j o hj h => hle j o hj h) (X0e (Y0d zno74))
        | ok r =>
          obtain ⟨m2, n⟩ := r
          have hk2 := Mach.doOp_keeps hdo ha (by rw [hml]; exact hlt)
          (have zx := And.intro e0 (And.intro e2 (And.intro hg (And.intro hml (And.intro hlt (And.intro hs (And.intro hdo h1)))))); have hc := True.intro; refine zq74 (k := ?_); clear hc; try exact True.intro)
          repeat' ((first | refine K0d ?_ ?_ | refine Z0c ?_ ?_ | refine X0d _ _ _ _ ?_ ?_ | refine Q0d ?_ ?_ | refine V0d _ _ _ _ ?_ ?_) <;> intro hc <;> (try simp only [zhd] at hc) <;> (try have hw := X0b hc) <;> (refine zq74 (k := ?_); try exact True.intro))
          all_goals (try clear zx)
          have hr : Mach.run (k + 1) m' = Mach.run k { m2 with at_ := n } := by
            rw [Mach.run]; simp [hml, hlt, hdo]
          obtain ⟨k1, k2, k3, k4, k5, k6⟩ := hk2
          refine ⟨k, Nat.lt_succ_self k, { m2 with at_ := n }, by simp [put_at, Z0a, e0], by simp [put_at, Z0a]; omega, by omega, by simp only [Hp.bump_get, Hp.get_set_self], by simp only [Hp.bump_n, Hp.zset_n]; omega, fun j o hj h => ?_, by rw [← hr, hrun], k5, by rw [k2]; exact k6, by rw [k2, hml], ?_, by show m2.e_.Shots.l.length ≤ _; omega⟩
          · simp (disch := assumption) only [Hp.bump_get, Hp.get_set_ne]
            exact hle j o hj h
          · show m2.e_.Shots.tl = _ ∨ m2.e_.Shots.tl = _
            rcases k1 with h | h
            · rw [h]; exact htl
            · exact .inr h
    · (have zx := And.intro e0 (And.intro e2 (And.intro hg (And.intro hml (And.intro hlt h1)))); have hc := True.intro; refine zq74 (k := ?_); clear hc; try exact True.intro)
      repeat' ((first | refine K0d ?_ ?_ | refine Z0c ?_ ?_ | refine X0d _ _ _ _ ?_ ?_ | refine Q0d ?_ ?_ | refine V0d _ _ _ _ ?_ ?_) <;> intro hc <;> (try simp only [zhd] at hc) <;> (try have hw := X0b hc) <;> (refine zq74 (k := ?_); try exact True.intro))
      all_goals (try clear zx)
      have hr : Mach.run k m' = .ok m' := by cases k <;> simp [Mach.run, hml, hlt]
      rw [← hrun, hr]
      refine X0l hF hd_h1 (fun j o hj h => hle j o hj h) ⟨_, hg, Z0o fun j hj => hF.lt_obj (.arg (a := CV.ptr i []) (by simp) rfl) h1 j ?_⟩ (X0e (Y0d zno74))
      simp only [XObj.has, Y0a.has, Z0b.has] at hj ⊢
      rw [hml] at hj
      rcases htl with e | e <;> simp_all
end Go.Proofs.Ytpchcfkebljopaa
end
section
namespace Go.Proofs.Ytpchcfkebljopaa
open Go.Cl Go Go.RowKit
set_option maxRecDepth 100000
noncomputable def zn73_1 : ZC := ZC.reg [⟨some 2, .alloc 44, none, false⟩, ⟨some 3, .alloc 4, none, true⟩]
noncomputable def zn73_4 : ZC := ZC.reg [⟨some 4, .move (.tmp 0), none, false⟩, ⟨some 5, .binOp .eql 1 (.tmp 4) (.const .nilFunc) 1, none, true⟩]
noncomputable def zn73_7 : ZC := ZC.reg [⟨some 6, .build 44 ⟨[]⟩, none, false⟩, ⟨none, .store 44 (.tmp 2) (.tmp 6), none, false⟩, ⟨none, .store 4 (.tmp 3) (.const (.bool false)), none, true⟩]
noncomputable def zn73_6 : ZC := ZC.seq zn73_7 ZC.ret
noncomputable def zn73_5 : ZC := ZC.cond (.tmp 5) zn73_6 ZC.skip
noncomputable def zn73_3 : ZC := ZC.seq zn73_4 zn73_5
noncomputable def zn73_9 : ZC := ZC.reg [⟨some 7, .makeFunc (.func 149) ⟨[]⟩ ⟨[.tmp 2, .tmp 3]⟩, none, false⟩, ⟨none, .defer ⟨.value (.tmp 7), ⟨[]⟩, ⟨[]⟩⟩, none, true⟩]
noncomputable def zn73_11 : ZC := ZC.reg [⟨some 8, .move (.tmp 0), none, false⟩, ⟨some 9, .call ⟨.value (.tmp 8), ⟨[]⟩, ⟨[]⟩⟩, none, true⟩]
noncomputable def zn73_13 : ZC := ZC.reg [⟨some 10, .build 44 ⟨[]⟩, none, false⟩, ⟨none, .store 44 (.tmp 2) (.tmp 10), none, false⟩, ⟨none, .store 4 (.tmp 3) (.const (.bool false)), none, true⟩]
noncomputable def zn73_12 : ZC := ZC.seq zn73_13 ZC.ret
noncomputable def zn73_10 : ZC := ZC.seq zn73_11 zn73_12
noncomputable def zn73_8 : ZC := ZC.seq zn73_9 zn73_10
noncomputable def zn73_2 : ZC := ZC.seq zn73_3 zn73_8
noncomputable def zn73_0 : ZC := ZC.seq zn73_1 zn73_2
noncomputable def zc73 : ZC := zn73_0
set_option linter.defProp false in
def zw73 := And.intro (zunf C zc73.eq_1) <| And.intro (zunf C zn73_1.eq_1) <| And.intro (zunf C zn73_4.eq_1) <| And.intro (zunf C zn73_7.eq_1) <| And.intro (zunf C zn73_6.eq_1) <| And.intro (zunf C zn73_5.eq_1) <| And.intro (zunf C zn73_3.eq_1) <| And.intro (zunf C zn73_9.eq_1) <| And.intro (zunf C zn73_11.eq_1) <| And.intro (zunf C zn73_13.eq_1) <| And.intro (zunf C zn73_12.eq_1) <| And.intro (zunf C zn73_10.eq_1) <| And.intro (zunf C zn73_8.eq_1) <| And.intro (zunf C zn73_2.eq_1) <| (zunf C zn73_0.eq_1)
theorem rs73 : (xfOf Try.f73).rs = [.cell 2 44, .cell 3 4] := by kernel_rfl
noncomputable def zn149_1 : ZC := ZC.reg [⟨some 5, .call ⟨.builtin .recover, ⟨[]⟩, ⟨[]⟩⟩, none, true⟩]
noncomputable def zn149_4 : ZC := ZC.reg [⟨some 7, .binOp .eql 20 (.tmp 5) (.const .nilIface) 20, none, true⟩]
noncomputable def zn149_6 : ZC := ZC.reg [⟨some 2, .assign (.tmp 5), none, true⟩]
noncomputable def zn149_8 : ZC := ZC.reg [⟨some 8, .typeAssert (.tmp 5) 20 194 true, none, false⟩, ⟨some 9, .extract (.tmp 8) 1, none, false⟩, ⟨some 10, .extract (.tmp 8) 0, none, true⟩]
noncomputable def zn149_11 : ZC := ZC.reg [⟨some 3, .alloc 194, none, false⟩, ⟨none, .store 194 (.tmp 3) (.tmp 10), none, true⟩]
noncomputable def zn149_12 : ZC := ZC.reg [⟨some 11, .fieldAddr 194 (.tmp 3) 0, none, false⟩, ⟨some 12, .load 44 (.tmp 11), none, false⟩, ⟨none, .store 44 (.tmp 0) (.tmp 12), none, false⟩, ⟨none, .store 4 (.tmp 1) (.const (.bool true)), none, true⟩]
noncomputable def zn149_10 : ZC := ZC.seq zn149_11 zn149_12
noncomputable def zn149_14 : ZC := ZC.reg [⟨some 4, .assign (.tmp 5), none, true⟩]
noncomputable def zn149_15 : ZC := ZC.reg [⟨some 6, .move (.tmp 4), none, false⟩, ⟨none, .panic (.tmp 6), none, true⟩]
noncomputable def zn149_13 : ZC := ZC.seq zn149_14 zn149_15
noncomputable def zn149_9 : ZC := ZC.cond (.tmp 9) zn149_10 zn149_13
noncomputable def zn149_7 : ZC := ZC.seq zn149_8 zn149_9
noncomputable def zn149_5 : ZC := ZC.cond (.tmp 7) zn149_6 zn149_7
noncomputable def zn149_3 : ZC := ZC.seq zn149_4 zn149_5
noncomputable def zn149_2 : ZC := ZC.block 0 zn149_3
noncomputable def zn149_0 : ZC := ZC.seq zn149_1 zn149_2
noncomputable def zc149 : ZC := zn149_0
set_option linter.defProp false in
def zw149 := And.intro (zunf C zc149.eq_1) <| And.intro (zunf C zn149_1.eq_1) <| And.intro (zunf C zn149_4.eq_1) <| And.intro (zunf C zn149_6.eq_1) <| And.intro (zunf C zn149_8.eq_1) <| And.intro (zunf C zn149_11.eq_1) <| And.intro (zunf C zn149_12.eq_1) <| And.intro (zunf C zn149_10.eq_1) <| And.intro (zunf C zn149_14.eq_1) <| And.intro (zunf C zn149_15.eq_1) <| And.intro (zunf C zn149_13.eq_1) <| And.intro (zunf C zn149_9.eq_1) <| And.intro (zunf C zn149_7.eq_1) <| And.intro (zunf C zn149_5.eq_1) <| And.intro (zunf C zn149_3.eq_1) <| And.intro (zunf C zn149_2.eq_1) <| (zunf C zn149_0.eq_1)
end Go.Proofs.Ytpchcfkebljopaa
end
section
namespace Go.Proofs.Ytpchcfkebljopaa
open Go.Cl Go Go.RowKit
noncomputable def xc73 : XC := ⟨catA (Try.f73.body.getD .skip), catB (Try.f73.body.getD .skip), catP (Try.f73.body.getD .skip), Try.f73.results.toList, Try.f73.ntmps, 7, 149, [2, 3], 5, catR (Try.f149.body.getD .skip), Try.f149.ntmps⟩
theorem xc73_ok : XCok C 73 xc73 where
  fn := ⟨Try.f73, _, _, _, _, _, _, _, _, by kernel_rfl, rfl, rfl, rfl⟩
  cl := ⟨Try.f149, _, _, _, _, _, by kernel_rfl, rfl, rfl, rfl, by kernel_rfl⟩
  ok := ⟨by kernel_rfl, by kernel_rfl, by kernel_rfl, by kernel_rfl, by kernel_rfl⟩
  lt := ⟨of_decide_eq_true (by kernel_rfl), of_decide_eq_true (by kernel_rfl), fun t ht => of_decide_eq_true (List.all_eq_true.1 (show xc73.caps.all (fun t => decide (t < xc73.n)) = true by kernel_rfl) t ht), of_decide_eq_true (by kernel_rfl), of_decide_eq_true (by kernel_rfl)⟩
theorem xc73_n : ∃ fn, C.P.funcs[73]? = some fn ∧ fn.body.isNone = false ∧ (fn.name == "runtime.NumGoroutine") = false := ⟨Try.f73, by kernel_rfl, by kernel_rfl, by kernel_rfl⟩
theorem xc73_a : zcode xc73.a = some zn73_1 := by kernel_rfl
theorem xc73_b : zcode xc73.b = some zn73_3 := by kernel_rfl
theorem xc73_p : zcode xc73.post = some zn73_10 := by kernel_rfl
theorem xc73_r : zcode xc73.rest = some zn149_2 := by kernel_rfl
theorem xc73_rs : xc73.rs = [.cell 2 44, .cell 3 4] := by kernel_rfl
theorem xc73_z : xc73.k = 7 ∧ xc73.g = 149 ∧ xc73.caps = [2, 3] ∧ xc73.gd = 5 ∧ xc73.rs = [.cell 2 44, .cell 3 4] ∧ (∀ p : Hp, Cl.xalloc C p 4 = .ret (.ptr p.n []) (p.new (.var .s (Bo false)))) := ⟨rfl, rfl, rfl, rfl, xc73_rs, fun p => by simp only [Cl.xalloc, tt4, ti4]⟩
end Go.Proofs.Ytpchcfkebljopaa
end
section
-- @nole
namespace Go.Proofs.Ytpchcfkebljopaa
open Go.Cl Go Go.RowKit
set_option maxRecDepth 100000
set_option linter.constructorNameAsVariable false
noncomputable def resC (i : Nat) (p : Hp) (r : Except (Int × Int) Y0a) : XRes :=
  match r with
  | .ok m' => .ret (.tup [(V0c.mk 0 0).cv, Bo false]) (p.set i (some (.var sh131 m'.cv)))
  | .error c => .ret (.tup [(V0c.mk c.1 c.2).cv, Bo true]) (p.set i none)
def R73 : Rel := fun args p r => ∃ (i : Nat) (m : Y0a), args = [.fn 74 [.ptr i []] []] ∧ (p.t.get i = some (.var sh131 m.cv)) ∧ (0 ≤ m.at_ ∧ m.at_ ≤ m.l_.l.length) ∧ (m.l_.l.length ≤ 100000) ∧ (m.e_.Shots.tl ≠ .view) ∧ (m.e_.Shots.l.length ≤ 100000) ∧ r = resC i p (Mach.run 64 m)
theorem t73 {T : XCall} (h : Has T 73 R73) (i : Nat) (m : Y0a) {p : Hp} (h1 : p.t.get i = some (.var sh131 m.cv)) (h2 : 0 ≤ m.at_ ∧ m.at_ ≤ m.l_.l.length) (hl : m.l_.l.length ≤ 100000) (h3 : m.e_.Shots.tl ≠ .view) (h4 : m.e_.Shots.l.length ≤ 100000) : T 73 [.fn 74 [.ptr i []] []] p = resC i p (Mach.run 64 m) := h _ _ _ ⟨i, m, rfl, h1, h2, hl, h3, h4, rfl⟩
theorem zq73 {A B : Prop} (h : A = B := by ((try simp -dsimp (disch := first | exact zdis | fail) only [zcore, zall, zopm, zop, zcallOp, qop, qbuiltin, ofOpt, List.map, reduceCtorEq, if_true, if_false, ↓reduceIte, zbin, eqRes, qassert, qnum, qshift, qun, kindOf, allocV, List.nil_append, List.append_nil, List.cons_append, List.length_cons, List.length_nil, Nat.reduceAdd, Nat.reduceEqDiff, Nat.reduceLT, Nat.reduceSub, Nat.reduceMul, Int.reduceToNat, Int.reduceLE, Int.reduceLT, Int.reduceEq, Int.reduceNeg, Int.reduceAdd, Int.reduceSub, beq_self_eq_true, cond_true, cond_false, isConstOpd, xpanic, xconv, isBytes, qconv, List.length_map, List.map_nil, List.map_cons, concrete, Option.some.injEq, exists_eq', Option.map_some, Option.map_none, List.getElem?_cons_zero, List.getElem?_cons_succ, zw73, rs73, xc73_z, zw149, qcA_n, qcB_n, qcP_n, qcP_r, qcP_p, qcE_n, qcE_r, tt1, tt4, tt5, tt20, tt44, tt194, ti1, ti4, ti5, ti20, ti44, ti194, t_74, X0m, X0y, K0g, resR, fault, h1, h2, hl, h3, h4, zx, hc]); rfl)) (k : B) : A := h ▸ k
theorem zno73 {P : Prop} (h : P := by intro jj; simp [CV.has, CV.hasL, fault, K0c.nohas, V0c.nohas, K0c.nohas]) : P := h
theorem zge73 {P : Prop} (h : P := by simp (disch := first | exact zdl | fail) only [zheap, h1]; first | done | rfl) : P := h
set_option maxHeartbeats 8000000 in
theorem c73 : Con C 73 R73 := by
  refine Z0f C ?_ ?_ ?_
  · rintro args p r r' ⟨i, m, h, h1, h2, hl, h3, h4, e⟩ ⟨i', m', h', h1', h2', hl', h3', h4', e'⟩
    subst e; subst e'; simp_all [V0c.inj_iff, K0c.inj_iff, Y0a.inj_iff]
  · rintro args p r ⟨i, m, h, h1, h2, hl, h3, h4, rfl⟩; first | (split <;> simp; done) | (simp; done) | (simp only [resM]; split <;> simp; done) | (simp only [resD]; split <;> simp; done)  | (unfold resC; split <;> simp; done)
  · rintro args p r ⟨i, m, rfl, h1, h2, hl, h3, h4, rfl⟩
    refine ans_catch C false noExt (tabL C [(74, R74)]) xc73_ok (Q0f C) (K0f C _) xc73_a xc73_b xc73_p xc73_r (by kernel_rfl) (Nat.le_of_ble_eq_true (by kernel_rfl)) xc73_n fun hF => ?_
    have t_74 := @t74 (tabL C [(74, R74)]) (Z0d C c74 [])
    generalize tabL C [(74, R74)] = call at t_74 ⊢
    have hd_h1 := hF.dom _ _ h1
    show W C false noExt call zn73_1 (argE [.fn 74 [.ptr i []] []]) p (qcA C false noExt call zn73_3 zn73_10 zn149_2 xc73 _)
    cases hr : Mach.run 64 m with
    | ok m' =>
      (have zx := And.intro hr h1; have hc := True.intro; refine zq73 (k := ?_); clear hc; try exact True.intro)
      repeat' ((first | refine K0d ?_ ?_ | refine Z0c ?_ ?_ | refine X0d _ _ _ _ ?_ ?_ | refine Q0d ?_ ?_ | refine V0d _ _ _ _ ?_ ?_) <;> intro hc <;> (try simp only [zhd] at hc) <;> (try have hw := X0b hc) <;> (refine zq73 (k := ?_); try exact True.intro))
      all_goals (try clear zx)
      obtain ⟨k1, k2⟩ := Mach.run_keeps 64 m m' hr h2.1
      refine X0l hF hd_h1 zlm ⟨_, zge73, Z0o fun j hj => hF.lt_obj (.arg (a := CV.fn 74 [CV.ptr i []] []) (by simp) (by simp [CV.has, CV.hasL])) h1 j ?_⟩ (X0e (Y0d zno73))
      simp only [XObj.has, Y0a.has, Z0b.has] at hj ⊢
      rw [k2] at hj
      rcases k1 with e | e <;> simp_all
    | error c =>
      (have zx := And.intro hr h1; have hc := True.intro; refine zq73 (k := ?_); clear hc; try exact True.intro)
      repeat' ((first | refine K0d ?_ ?_ | refine Z0c ?_ ?_ | refine X0d _ _ _ _ ?_ ?_ | refine Q0d ?_ ?_ | refine V0d _ _ _ _ ?_ ?_) <;> intro hc <;> (try simp only [zhd] at hc) <;> (try have hw := X0b hc) <;> (refine zq73 (k := ?_); try exact True.intro))
      all_goals (try clear zx)
      exact shr_drop hF zlm (X0e (Y0d zno73))
def R72 : Rel := fun args p r => ∃ (e : Z0b), args = [e.cv] ∧ (e.Shots.tl ≠ .view) ∧ (e.Shots.l.length ≤ 1000000) ∧ r = .ret (copiedE e).cv p
theorem t72 {T : XCall} (h : Has T 72 R72) (e : Z0b) {p : Hp} (h1 : e.Shots.tl ≠ .view) (h2 : e.Shots.l.length ≤ 1000000) : T 72 [e.cv] p = .ret (copiedE e).cv p := h _ _ _ ⟨e, rfl, h1, h2, rfl⟩
theorem zq72 {A B : Prop} (h : A = B := by ((try simp -dsimp (disch := first | exact zdis | fail) only [zcore, zall, zopm, zop, zcallOp, qop, qbuiltin, ofOpt, List.map, reduceCtorEq, if_true, if_false, ↓reduceIte, zbin, eqRes, qassert, qnum, qshift, qun, kindOf, allocV, List.nil_append, List.append_nil, List.cons_append, List.length_cons, List.length_nil, Nat.reduceAdd, Nat.reduceEqDiff, Nat.reduceLT, Nat.reduceSub, Nat.reduceMul, Int.reduceToNat, Int.reduceLE, Int.reduceLT, Int.reduceEq, Int.reduceNeg, Int.reduceAdd, Int.reduceSub, beq_self_eq_true, cond_true, cond_false, isConstOpd, xpanic, xconv, isBytes, qconv, List.length_map, List.map_nil, List.map_cons, concrete, Option.some.injEq, exists_eq', Option.map_some, Option.map_none, List.getElem?_cons_zero, List.getElem?_cons_succ, zw72, rs72, tt37, tt39, ti37, ti39, t_148, Q0h, Y0f, zsl37, h1, h2, zx, hc]); rfl)) (k : B) : A := h ▸ k
set_option maxHeartbeats 8000000 in
theorem c72 : Con C 72 R72 := by
  refine Z0f C ?_ ?_ ?_
  · rintro args p r r' ⟨e, h, h1, h2, e⟩ ⟨e', h', h1', h2', e'⟩
    subst e; subst e'; simp_all [Z0b.inj_iff, Q0a.inj_iff, Z0r]
  · rintro args p r ⟨e, h, h1, h2, rfl⟩; first | (split <;> simp; done) | (simp; done) | (simp only [resM]; split <;> simp; done) | (simp only [resD]; split <;> simp; done) 
  · rintro args p r ⟨e, rfl, h1, h2, rfl⟩
    refine Z0e C false noExt (tabL C [(148, R148)]) xf72 (Q0f C) (K0f C _) zc72_ok (Nat.le_of_ble_eq_true (by kernel_rfl)) fun hF => ?_
    have t_148 := @t148 (tabL C [(148, R148)]) (Z0d C c148 [])
    generalize tabL C [(148, R148)] = call at t_148 ⊢
    show W C false noExt call zc72 (argE [e.cv]) p (endQ C _ _)
    cases hco : cloneOwn e.Shots
    all_goals (have zx := hco; have hc := True.intro; refine zq72 (k := ?_); clear hc; try exact True.intro)
    repeat' ((first | refine K0d ?_ ?_ | refine Z0c ?_ ?_ | refine X0d _ _ _ _ ?_ ?_ | refine Q0d ?_ ?_ | refine V0d _ _ _ _ ?_ ?_) <;> intro hc <;> (try simp only [zhd] at hc) <;> (try have hw := X0b hc) <;> (refine zq72 (k := ?_); try exact True.intro))
    all_goals (try clear zx)
    all_goals
      refine K0e hF zle ?_
      have h1 : CV.weak (fun k => k) p.n e.Body.cv e.Body.cv := X0e (Y0d (Q0a.nohas _))
      have h2 : CV.weak (fun k => k) p.n e.In.cv e.In.cv := X0e (Y0d (Y0b.nohas _))
      have h5 := weak_clone Q0a.nohas e.Shots (p.n + 1 + 1) p.n
      simp only [copiedE, Z0b.cv, CV.weak, CV.weakL]
      exact ⟨h1, h2, trivial, trivial, h5, trivial⟩
def R25 : Rel := fun args p r => ∃ (l : Lst X0c) (e : Z0b), args = [l.cv X0c.cv, e.cv] ∧ (l.l.length ≤ 100000) ∧ (e.Shots.tl ≠ .view) ∧ (e.Shots.l.length ≤ 100000) ∧ r = .ret (.tup [(ruleRun l e).1.cv, (ruleRun l e).2.1.cv, Bo (ruleRun l e).2.2]) p
theorem t25 {T : XCall} (h : Has T 25 R25) (l : Lst X0c) (e : Z0b) {p : Hp} (hl : l.l.length ≤ 100000) (h1 : e.Shots.tl ≠ .view) (h2 : e.Shots.l.length ≤ 100000) : T 25 [l.cv X0c.cv, e.cv] p = .ret (.tup [(ruleRun l e).1.cv, (ruleRun l e).2.1.cv, Bo (ruleRun l e).2.2]) p := h _ _ _ ⟨l, e, rfl, hl, h1, h2, rfl⟩
theorem zdis25 {P : Prop} (h : P := by first | exact zdis | (simp only [Hp.bump_n, Hp.znew_n, Hp.zset_n, List.length_nil, List.length_cons, List.length_append, List.length_map, V0t]; (first | done | omega)) | (simp (disch := first | exact zd1 | (simp only [Hp.bump_n, Hp.znew_n, Hp.zset_n, List.length_nil, List.length_cons, List.length_append, List.length_map, V0t]; (first | done | omega))) only [zheap, zx]; (first | done | rfl)) | fail) : P := h
theorem zq25 {A B : Prop} (h : A = B := by ((try simp -dsimp (disch := first | exact zdis25 | fail) only [zcore, zall, zopm, zop, zcallOp, qop, qbuiltin, ofOpt, List.map, reduceCtorEq, if_true, if_false, ↓reduceIte, zbin, eqRes, qassert, qnum, qshift, qun, kindOf, allocV, List.nil_append, List.append_nil, List.cons_append, List.length_cons, List.length_nil, Nat.reduceAdd, Nat.reduceEqDiff, Nat.reduceLT, Nat.reduceSub, Nat.reduceMul, Int.reduceToNat, Int.reduceLE, Int.reduceLT, Int.reduceEq, Int.reduceNeg, Int.reduceAdd, Int.reduceSub, beq_self_eq_true, cond_true, cond_false, isConstOpd, xpanic, xconv, isBytes, qconv, List.length_map, List.map_nil, List.map_cons, concrete, Option.some.injEq, exists_eq', Option.map_some, Option.map_none, List.getElem?_cons_zero, List.getElem?_cons_succ, zw25, rs25, tt3, tt34, tt39, tt44, tt131, ti3, ti34, ti39, ti44, ti131, t_24, t_72, t_73, K0g, Q0h, Y0f, X0m, resC, hl, h1, h2, zx, hc]); rfl)) (k : B) : A := h ▸ k
set_option maxHeartbeats 8000000 in
theorem c25 : Con C 25 R25 := by
  refine Z0f C ?_ ?_ ?_
  · rintro args p r r' ⟨l, e, h, hl, h1, h2, e⟩ ⟨l', e', h', hl', h1', h2', e'⟩
    subst e; subst e'; simp_all [Y0a.inj_iff, Z0b.inj_iff, Q0a.inj_iff, V0c.inj_iff, K0m]
  · rintro args p r ⟨l, e, h, hl, h1, h2, rfl⟩; first | (split <;> simp; done) | (simp; done) | (simp only [resM]; split <;> simp; done) | (simp only [resD]; split <;> simp; done) 
  · rintro args p r ⟨l, e, rfl, hl, h1, h2, rfl⟩
    refine Z0e C false noExt (tabL C [(24, R24), (72, R72), (73, R73)]) xf25 (Q0f C) (K0f C _) zc25_ok (Nat.le_of_ble_eq_true (by kernel_rfl)) fun hF => ?_
    have t_24 := @t24 (tabL C [(24, R24), (72, R72), (73, R73)]) (Z0d C c24 [(72, R72), (73, R73)])
    have t_72 := @t72 (tabL C [(24, R24), (72, R72), (73, R73)]) (Y0c C _ rfl (Z0d C c72 [(73, R73)]))
    have t_73 := @t73 (tabL C [(24, R24), (72, R72), (73, R73)]) (Y0c C _ rfl (Y0c C _ rfl (Z0d C c73 [])))
    generalize tabL C [(24, R24), (72, R72), (73, R73)] = call at t_24 t_72 t_73 ⊢
    show W C false noExt call zc25 (argE [l.cv X0c.cv, e.cv]) p (endQ C _ _)
    have hv : (copiedE e).Shots.tl ≠ .view := cloneP_nv e.Shots
    have hv2 : (copiedE e).Shots.l.length ≤ 100000 := by show (cloneP e.Shots).l.length ≤ _; rw [V0t]; exact h2
    have hn : ∀ j, ¬ (copiedE e).cv.has j := fun j h => cloneP_no e.Shots j ((Z0b.has _ j).1 h)
    cases hr : Mach.run 64 ⟨copiedE e, l, 0⟩ with
    | error c =>
      (have zx := hr; have hc := True.intro; refine zq25 (k := ?_); clear hc; try exact True.intro)
      repeat' ((first | refine K0d ?_ ?_ | refine Z0c ?_ ?_ | refine X0d _ _ _ _ ?_ ?_ | refine Q0d ?_ ?_ | refine V0d _ _ _ _ ?_ ?_) <;> intro hc <;> (try simp only [zhd] at hc) <;> (try have hw := X0b hc) <;> (refine zq25 (k := ?_); try exact True.intro))
      all_goals (try clear zx)
      all_goals
        simp [ruleRun, *]
        refine K0e hF zle (X0e (Y0d fun j hj => ?_))
        simp [CV.has, CV.hasL, V0c.nohas] at hj
        exact hn j hj
    | ok m' =>
      have hn' : ∀ j, ¬ m'.e_.cv.has j := fun j h => by
        have h := (Z0b.has _ j).1 h
        rcases (Mach.run_keeps 64 _ m' hr (Int.le_refl _)).1 with k | k
        · rw [k] at h; exact cloneP_no e.Shots j h
        · rw [k] at h; cases h
      (have zx := hr; have hc := True.intro; refine zq25 (k := ?_); clear hc; try exact True.intro)
      repeat' ((first | refine K0d ?_ ?_ | refine Z0c ?_ ?_ | refine X0d _ _ _ _ ?_ ?_ | refine Q0d ?_ ?_ | refine V0d _ _ _ _ ?_ ?_) <;> intro hc <;> (try simp only [zhd] at hc) <;> (try have hw := X0b hc) <;> (refine zq25 (k := ?_); try exact True.intro))
      all_goals (try clear zx)
      all_goals
        simp [ruleRun, *]
        refine K0e hF zle (X0e (Y0d fun j hj => ?_))
        simp [CV.has, CV.hasL, V0c.nohas] at hj
        first | exact hn j hj | exact hn' j hj
end Go.Proofs.Ytpchcfkebljopaa
end
section
namespace Go.Proofs.Ytpchcfkebljopaa
open Go.Cl Go Go.RowKit
set_option maxRecDepth 100000
noncomputable def zn70_1 : ZC := ZC.reg [⟨some 0, .alloc 39, none, true⟩]
noncomputable def zn70_3 : ZC := ZC.reg [⟨some 1, .call ⟨.value (.func 64), ⟨[.const (.int .i64 0), .const (.int .i64 1)]⟩, ⟨[3, 3]⟩⟩, none, false⟩, ⟨some 2, .build 36 ⟨[(0, .const (.int .i64 3)), (1, .const (.int .i64 (-64))), (2, .const (.int .i64 7))]⟩, none, false⟩, ⟨some 3, .build 39 ⟨[(0, .tmp 1), (1, .tmp 2), (2, .const (.int .u64 5)), (3, .const (.int .i64 2))]⟩, none, false⟩, ⟨none, .store 39 (.tmp 0) (.tmp 3), none, true⟩]
noncomputable def zn70_2 : ZC := ZC.seq zn70_3 ZC.ret
noncomputable def zn70_0 : ZC := ZC.seq zn70_1 zn70_2
noncomputable def zc70 : ZC := zn70_0
theorem zc70_ok : zcode (xfOf Try.f70).code = some zc70 := by kernel_rfl
set_option linter.defProp false in
def zw70 := And.intro (zunf C zc70.eq_1) <| And.intro (zunf C zn70_1.eq_1) <| And.intro (zunf C zn70_3.eq_1) <| And.intro (zunf C zn70_2.eq_1) <| (zunf C zn70_0.eq_1)
theorem rs70 : (xfOf Try.f70).rs = [.cell 0 39] := by kernel_rfl
theorem xf70 : XFok C 70 (xfOf Try.f70) := ⟨Try.f70, by kernel_rfl, by kernel_rfl, by kernel_rfl, by kernel_rfl, by kernel_rfl, by kernel_rfl, by kernel_rfl⟩
noncomputable def zn23_1 : ZC := ZC.reg [⟨some 0, .assign (.const (.bool false)), none, true⟩]
noncomputable def zn23_3 : ZC := ZC.reg [⟨some 8, .build 29 ⟨[(0, .const (.int .i64 6))]⟩, none, false⟩, ⟨some 9, .buildSlice 23 1 ⟨[(0, .tmp 8)]⟩, none, false⟩, ⟨some 10, .call ⟨.value (.func 70), ⟨[]⟩, ⟨[]⟩⟩, none, false⟩, ⟨some 11, .call ⟨.value (.func 25), ⟨[.tmp 9, .tmp 10]⟩, ⟨[23, 39]⟩⟩, none, false⟩, ⟨some 7, .move (.tmp 11), none, false⟩, ⟨some 12, .extract (.tmp 7) 0, none, false⟩, ⟨some 13, .extract (.tmp 7) 1, none, false⟩, ⟨some 14, .extract (.tmp 7) 2, none, false⟩, ⟨some 1, .alloc 39, none, false⟩, ⟨some 2, .alloc 44, none, false⟩, ⟨none, .store 39 (.tmp 1) (.tmp 12), none, false⟩, ⟨none, .store 44 (.tmp 2) (.tmp 13), none, false⟩, ⟨some 3, .assign (.tmp 14), none, true⟩]
noncomputable def zn23_5 : ZC := ZC.reg [⟨some 16, .build 29 ⟨[(0, .const (.int .i64 1)), (1, .const (.int .i64 1)), (2, .const (.int .i64 5))]⟩, none, false⟩, ⟨some 17, .build 29 ⟨[(0, .const (.int .i64 3)), (1, .const (.int .i64 1)), (2, .const (.int .i64 1))]⟩, none, false⟩, ⟨some 18, .buildSlice 23 2 ⟨[(0, .tmp 16), (1, .tmp 17)]⟩, none, false⟩, ⟨some 19, .call ⟨.value (.func 70), ⟨[]⟩, ⟨[]⟩⟩, none, false⟩, ⟨some 20, .call ⟨.value (.func 25), ⟨[.tmp 18, .tmp 19]⟩, ⟨[23, 39]⟩⟩, none, false⟩, ⟨some 15, .move (.tmp 20), none, false⟩, ⟨some 21, .extract (.tmp 15) 0, none, false⟩, ⟨some 22, .extract (.tmp 15) 1, none, false⟩, ⟨some 23, .extract (.tmp 15) 2, none, false⟩, ⟨some 4, .alloc 39, none, false⟩, ⟨some 5, .alloc 44, none, false⟩, ⟨none, .store 39 (.tmp 4) (.tmp 21), none, false⟩, ⟨none, .store 44 (.tmp 5) (.tmp 22), none, false⟩, ⟨some 6, .assign (.tmp 23), none, true⟩]
noncomputable def zn23_7 : ZC := ZC.reg [⟨some 24, .move (.tmp 3), none, false⟩, ⟨some 25, .unOp .not 4 (.tmp 24), none, false⟩, ⟨some 26, .move (.tmp 25), none, false⟩, ⟨some 27, .load 44 (.tmp 2), some (26, true), false⟩, ⟨some 28, .build 44 ⟨[(0, .const (.int .i64 1))]⟩, some (26, true), false⟩, ⟨some 29, .binOp .eql 44 (.tmp 27) (.tmp 28) 44, some (26, true), false⟩, ⟨some 30, .pick (.tmp 26) (.tmp 29) (.const (.bool false)), none, false⟩, ⟨some 31, .move (.tmp 30), none, false⟩, ⟨some 32, .move (.tmp 6), some (31, true), false⟩, ⟨some 33, .pick (.tmp 31) (.tmp 32) (.const (.bool false)), none, false⟩, ⟨some 34, .move (.tmp 33), none, false⟩, ⟨some 35, .fieldAddr 39 (.tmp 4) 0, some (34, true), false⟩, ⟨some 36, .fieldAddr 34 (.tmp 35) 7, some (34, true), false⟩, ⟨some 37, .indexAddr 32 (.tmp 36) (.const (.int .i64 1)), some (34, true), false⟩, ⟨some 38, .load 3 (.tmp 37), some (34, true), false⟩, ⟨some 39, .binOp .eql 3 (.tmp 38) (.const (.int .i64 10)) 3, some (34, true), false⟩, ⟨some 40, .pick (.tmp 34) (.tmp 39) (.const (.bool false)), none, false⟩, ⟨some 0, .assign (.tmp 40), none, true⟩]
noncomputable def zn23_6 : ZC := ZC.seq zn23_7 ZC.ret
noncomputable def zn23_4 : ZC := ZC.seq zn23_5 zn23_6
noncomputable def zn23_2 : ZC := ZC.seq zn23_3 zn23_4
noncomputable def zn23_0 : ZC := ZC.seq zn23_1 zn23_2
noncomputable def zc23 : ZC := zn23_0
theorem zc23_ok : zcode (xfOf Try.f23).code = some zc23 := by kernel_rfl
set_option linter.defProp false in
def zw23 := And.intro (zunf C zc23.eq_1) <| And.intro (zunf C zn23_1.eq_1) <| And.intro (zunf C zn23_3.eq_1) <| And.intro (zunf C zn23_5.eq_1) <| And.intro (zunf C zn23_7.eq_1) <| And.intro (zunf C zn23_6.eq_1) <| And.intro (zunf C zn23_4.eq_1) <| And.intro (zunf C zn23_2.eq_1) <| (zunf C zn23_0.eq_1)
theorem rs23 : (xfOf Try.f23).rs = [.tmp 0] := by kernel_rfl
theorem xf23 : XFok C 23 (xfOf Try.f23) := ⟨Try.f23, by kernel_rfl, by kernel_rfl, by kernel_rfl, by kernel_rfl, by kernel_rfl, by kernel_rfl, by kernel_rfl⟩
end Go.Proofs.Ytpchcfkebljopaa
end
section
namespace Go.Proofs.Ytpchcfkebljopaa
open Go.Cl Go Go.RowKit
def pick (n m : Int) : Int := if n.tmod m < 0 then n.tmod m + m else n.tmod m
theorem K0x {n m : Int} (h : 0 < m) : 0 ≤ pick n m ∧ pick n m < m := by
  unfold pick
  have h1 := Int.tmod_lt_of_pos n h
  have h2 : -m < n.tmod m := by
    have := Int.lt_tmod_of_pos n h
    omega
  split <;> omega
def bodyBorn (owner players : Int) : Q0a :=
  { Q0a.zero with Kind := 1, Owner := brought owner 0 (brought players 1 8 - 1), X := w64 (((2 * brought owner 0 (brought players 1 8 - 1) + 1) * 4096).tdiv (2 * brought players 1 8)), Y := 2048 }
def handInput (n m : Int) : Y0b := ⟨pick n 256, w64 (pick m 129 - 64), w64 (pick (w64 (m.tdiv 129)) 129 - 64)⟩
def handOp (x : Q0c) : X0c :=
  let c := w64 (1 + pick x.Code 13)
  let b := if c = 1 then w64 (pick x.B 90 - 30) else if c = 7 then pick x.B 8 else if c = 9 ∨ c = 10 then pick x.B 9 else pick x.B 4
  let k := pick x.Code 101
  if k = 97 then ⟨c, x.A, b⟩ else if k = 98 then ⟨c, pick x.A 4, x.B⟩ else if k = 99 then ⟨x.B, pick x.A 4, b⟩ else if k = 100 then ⟨c, pick x.A 9, b⟩ else ⟨c, pick x.A 4, b⟩
def memVal (v : Int) : Int := if v.tmod 9 = 8 then w64 (pick v 2000001 - 1000000) else w64 (pick v 41 - 20)
def memN (l : List Int) : Nat → Q0a → Q0a
  | 0, b => b
  | k + 1, b => (memN l k b).put_7k k (memVal (nth l k))
def envOf (x : V0a) : Z0b :=
  let b := bodyBorn (pick x.X 4) 4
  let b := { b with X := pick x.X 4096, Y := pick x.Y 4096, VX := w64 (pick x.VX 129 - 64) }
  let b := memN x.Mem.l (min x.Mem.l.length 4) b
  { Z0b.zero with Body := if x.Bend.tmod 23 = 22 then { b with Y := x.Y } else b, In := handInput x.Buttons x.StickX, Dice := x.Dice, Room := pick x.Room 8 }
def env0 : Z0b := { Z0b.zero with Body := bodyBorn 0 1, In := ⟨3, -64, 7⟩, Dice := 5, Room := 2 }
def sameE (a b : Z0b) : Bool := decide (a.Body = b.Body) && decide (a.In = b.In) && decide (a.Dice = b.Dice) && decide (a.Room = b.Room) && decide (a.Shots.l = b.Shots.l)
end Go.Proofs.Ytpchcfkebljopaa
end
section
namespace Go.Proofs.Ytpchcfkebljopaa
open Go.Cl Go Go.RowKit
set_option maxRecDepth 100000
set_option linter.constructorNameAsVariable false
def R37 : Rel := fun args p r => ∃ (n m : Int), args = [I n, I m] ∧ (0 < m) ∧ (m ≤ 9223372036854775807) ∧ r = .ret (I (pick n m)) p
theorem t37 {T : XCall} (h : Has T 37 R37) (n m : Int) {p : Hp} (h1 : 0 < m) (h2 : m ≤ 9223372036854775807) : T 37 [I n, I m] p = .ret (I (pick n m)) p := h _ _ _ ⟨n, m, rfl, h1, h2, rfl⟩
theorem zq37 {A B : Prop} (h : A = B := by ((try simp -dsimp (disch := first | exact zdis | fail) only [zcore, zall, zopm, zop, zcallOp, qop, qbuiltin, ofOpt, List.map, reduceCtorEq, if_true, if_false, ↓reduceIte, zbin, eqRes, qassert, qnum, qshift, qun, kindOf, allocV, List.nil_append, List.append_nil, List.cons_append, List.length_cons, List.length_nil, Nat.reduceAdd, Nat.reduceEqDiff, Nat.reduceLT, Nat.reduceSub, Nat.reduceMul, Int.reduceToNat, Int.reduceLE, Int.reduceLT, Int.reduceEq, Int.reduceNeg, Int.reduceAdd, Int.reduceSub, beq_self_eq_true, cond_true, cond_false, isConstOpd, xpanic, xconv, isBytes, qconv, List.length_map, List.map_nil, List.map_cons, concrete, Option.some.injEq, exists_eq', Option.map_some, Option.map_none, List.getElem?_cons_zero, List.getElem?_cons_succ, zw37, rs37, tt3, ti3, h1, h2, zx, hc]); rfl)) (k : B) : A := h ▸ k
theorem zno37 {P : Prop} (h : P := by intro jj; simp [CV.has, CV.hasL, fault, K0c.nohas]) : P := h
set_option maxHeartbeats 8000000 in
theorem c37 : Con C 37 R37 := by
  refine Z0f C ?_ ?_ ?_
  · rintro args p r r' ⟨n, m, h, h1, h2, e⟩ ⟨n', m', h', h1', h2', e'⟩
    subst e; subst e'; simp_all
  · rintro args p r ⟨n, m, h, h1, h2, rfl⟩; first | (split <;> simp; done) | (simp; done) | (simp only [resM]; split <;> simp; done) | (simp only [resD]; split <;> simp; done) 
  · rintro args p r ⟨n, m, rfl, h1, h2, rfl⟩
    refine Z0e C false noExt (tabL C []) xf37 (Q0f C) (K0f C _) zc37_ok (Nat.le_of_ble_eq_true (by kernel_rfl)) fun hF => ?_
    generalize tabL C [] = call
    show W C false noExt call zc37 (argE [I n, I m]) p (endQ C _ _)
    have hm := Int.tmod_lt_of_pos n h1
    have hm2 := Int.lt_tmod_of_pos n h1
    (have zx := True.intro; have hc := True.intro; refine zq37 (k := ?_); clear hc; try exact True.intro)
    repeat' ((first | refine K0d ?_ ?_ | refine Z0c ?_ ?_ | refine X0d _ _ _ _ ?_ ?_ | refine Q0d ?_ ?_ | refine V0d _ _ _ _ ?_ ?_) <;> intro hc <;> (try simp only [zhd, zhn] at hc) <;> (try have hw := X0b hc) <;> (refine zq37 (k := ?_); try exact True.intro))
    all_goals (try clear zx)
    all_goals refine K0e hF zle (Q0e ?_ (Y0d zno37))
    all_goals (simp [pick, hc] <;> omega)
def R64 : Rel := fun args p r => ∃ (o k : Int), args = [I o, I k] ∧ r = .ret (bodyBorn o k).cv p
theorem t64 {T : XCall} (h : Has T 64 R64) (o k : Int) {p : Hp}  : T 64 [I o, I k] p = .ret (bodyBorn o k).cv p := h _ _ _ ⟨o, k, rfl, rfl⟩
theorem zq64 {A B : Prop} (h : A = B := by ((try simp -dsimp (disch := first | exact zdis | fail) only [zcore, zall, zopm, zop, zcallOp, qop, qbuiltin, ofOpt, List.map, reduceCtorEq, if_true, if_false, ↓reduceIte, zbin, eqRes, qassert, qnum, qshift, qun, kindOf, allocV, List.nil_append, List.append_nil, List.cons_append, List.length_cons, List.length_nil, Nat.reduceAdd, Nat.reduceEqDiff, Nat.reduceLT, Nat.reduceSub, Nat.reduceMul, Int.reduceToNat, Int.reduceLE, Int.reduceLT, Int.reduceEq, Int.reduceNeg, Int.reduceAdd, Int.reduceSub, beq_self_eq_true, cond_true, cond_false, isConstOpd, xpanic, xconv, isBytes, qconv, List.length_map, List.map_nil, List.map_cons, concrete, Option.some.injEq, exists_eq', Option.map_some, Option.map_none, List.getElem?_cons_zero, List.getElem?_cons_succ, zw64, rs64, tt3, tt34, ti3, ti34, t_140, Y0f, zx, hc]); rfl)) (k : B) : A := h ▸ k
theorem zno64 {P : Prop} (h : P := by intro jj; simp [CV.has, CV.hasL, fault, K0c.nohas, Q0a.nohas]) : P := h
set_option maxHeartbeats 8000000 in
theorem c64 : Con C 64 R64 := by
  refine Z0f C ?_ ?_ ?_
  · rintro args p r r' ⟨o, k, h, e⟩ ⟨o', k', h', e'⟩
    subst e; subst e'; simp_all [Q0a.inj_iff]
  · rintro args p r ⟨o, k, h, rfl⟩; first | (split <;> simp; done) | (simp; done) | (simp only [resM]; split <;> simp; done) | (simp only [resD]; split <;> simp; done) 
  · rintro args p r ⟨o, k, rfl, rfl⟩
    refine Z0e C false noExt (tabL C [(140, R140)]) xf64 (Q0f C) (K0f C _) zc64_ok (Nat.le_of_ble_eq_true (by kernel_rfl)) fun hF => ?_
    have t_140 := @t140 (tabL C [(140, R140)]) (Z0d C c140 [])
    generalize tabL C [(140, R140)] = call at t_140 ⊢
    show W C false noExt call zc64 (argE [I o, I k]) p (endQ C _ _)
    have h1 : 1 ≤ brought k 1 8 ∧ brought k 1 8 ≤ 8 := by unfold brought; omega
    have h2 : 0 ≤ brought o 0 (brought k 1 8 - 1) ∧ brought o 0 (brought k 1 8 - 1) ≤ 7 := by
      have : ∀ a b : Int, 0 ≤ b → b ≤ 7 → 0 ≤ brought a 0 b ∧ brought a 0 b ≤ 7 := by intro a b _ _; unfold brought; omega
      exact this _ _ (by omega) (by omega)
    (have zx := True.intro; have hc := True.intro; refine zq64 (k := ?_); clear hc; try exact True.intro)
    repeat' ((first | refine K0d ?_ ?_ | refine Z0c ?_ ?_ | refine X0d _ _ _ _ ?_ ?_ | refine Q0d ?_ ?_ | refine V0d _ _ _ _ ?_ ?_) <;> intro hc <;> (try simp only [zhd, zhn] at hc) <;> (try have hw := X0b hc) <;> (refine zq64 (k := ?_); try exact True.intro))
    all_goals (try clear zx)
    exact K0e hF zle (Q0e rfl (Y0d zno64))
def R69 : Rel := fun args p r => ∃ (n k : Int), args = [I n, I k] ∧ (-9223372036854775808 ≤ k ∧ k ≤ 9223372036854775807) ∧ r = .ret (handInput n k).cv p
theorem t69 {T : XCall} (h : Has T 69 R69) (n k : Int) {p : Hp} (h1 : -9223372036854775808 ≤ k ∧ k ≤ 9223372036854775807) : T 69 [I n, I k] p = .ret (handInput n k).cv p := h _ _ _ ⟨n, k, rfl, h1, rfl⟩
theorem zq69 {A B : Prop} (h : A = B := by ((try simp -dsimp (disch := first | exact zdis | fail) only [zcore, zall, zopm, zop, zcallOp, qop, qbuiltin, ofOpt, List.map, reduceCtorEq, if_true, if_false, ↓reduceIte, zbin, eqRes, qassert, qnum, qshift, qun, kindOf, allocV, List.nil_append, List.append_nil, List.cons_append, List.length_cons, List.length_nil, Nat.reduceAdd, Nat.reduceEqDiff, Nat.reduceLT, Nat.reduceSub, Nat.reduceMul, Int.reduceToNat, Int.reduceLE, Int.reduceLT, Int.reduceEq, Int.reduceNeg, Int.reduceAdd, Int.reduceSub, beq_self_eq_true, cond_true, cond_false, isConstOpd, xpanic, xconv, isBytes, qconv, List.length_map, List.map_nil, List.map_cons, concrete, Option.some.injEq, exists_eq', Option.map_some, Option.map_none, List.getElem?_cons_zero, List.getElem?_cons_succ, zw69, rs69, tt3, tt36, ti3, ti36, t_37, Q0i, h1, zx, hc]); rfl)) (k : B) : A := h ▸ k
theorem zno69 {P : Prop} (h : P := by intro jj; simp [CV.has, CV.hasL, fault, K0c.nohas, Y0b.nohas]) : P := h
set_option maxHeartbeats 8000000 in
theorem c69 : Con C 69 R69 := by
  refine Z0f C ?_ ?_ ?_
  · rintro args p r r' ⟨n, k, h, h1, e⟩ ⟨n', k', h', h1', e'⟩
    subst e; subst e'; simp_all [Y0b.inj_iff]
  · rintro args p r ⟨n, k, h, h1, rfl⟩; first | (split <;> simp; done) | (simp; done) | (simp only [resM]; split <;> simp; done) | (simp only [resD]; split <;> simp; done) 
  · rintro args p r ⟨n, k, rfl, h1, rfl⟩
    refine Z0e C false noExt (tabL C [(37, R37)]) xf69 (Q0f C) (K0f C _) zc69_ok (Nat.le_of_ble_eq_true (by kernel_rfl)) fun hF => ?_
    have t_37 := @t37 (tabL C [(37, R37)]) (Z0d C c37 [])
    generalize tabL C [(37, R37)] = call at t_37 ⊢
    show W C false noExt call zc69 (argE [I n, I k]) p (endQ C _ _)
    (have zx := True.intro; have hc := True.intro; refine zq69 (k := ?_); clear hc; try exact True.intro)
    repeat' ((first | refine K0d ?_ ?_ | refine Z0c ?_ ?_ | refine X0d _ _ _ _ ?_ ?_ | refine Q0d ?_ ?_ | refine V0d _ _ _ _ ?_ ?_) <;> intro hc <;> (try simp only [zhd, zhn] at hc) <;> (try have hw := X0b hc) <;> (refine zq69 (k := ?_); try exact True.intro))
    all_goals (try clear zx)
    exact K0e hF zle (Q0e rfl (Y0d zno69))
def R70 : Rel := fun args p r => args = [] ∧ r = .ret env0.cv p
theorem t70 {T : XCall} (h : Has T 70 R70)  {p : Hp}  : T 70 [] p = .ret env0.cv p := h _ _ _ ⟨rfl, rfl⟩
theorem zq70 {A B : Prop} (h : A = B := by ((try simp -dsimp (disch := first | exact zdis | fail) only [zcore, zall, zopm, zop, zcallOp, qop, qbuiltin, ofOpt, List.map, reduceCtorEq, if_true, if_false, ↓reduceIte, zbin, eqRes, qassert, qnum, qshift, qun, kindOf, allocV, List.nil_append, List.append_nil, List.cons_append, List.length_cons, List.length_nil, Nat.reduceAdd, Nat.reduceEqDiff, Nat.reduceLT, Nat.reduceSub, Nat.reduceMul, Int.reduceToNat, Int.reduceLE, Int.reduceLT, Int.reduceEq, Int.reduceNeg, Int.reduceAdd, Int.reduceSub, beq_self_eq_true, cond_true, cond_false, isConstOpd, xpanic, xconv, isBytes, qconv, List.length_map, List.map_nil, List.map_cons, concrete, Option.some.injEq, exists_eq', Option.map_some, Option.map_none, List.getElem?_cons_zero, List.getElem?_cons_succ, zw70, rs70, tt36, tt39, ti36, ti39, t_64, Q0h, Y0f, Q0i, zx, hc]); rfl)) (k : B) : A := h ▸ k
set_option maxHeartbeats 8000000 in
theorem c70 : Con C 70 R70 := by
  refine Z0f C ?_ ?_ ?_
  · rintro args p r r' ⟨h, e⟩ ⟨h', e'⟩
    subst e; subst e'; simp_all [Z0b.inj_iff, Q0a.inj_iff, Y0b.inj_iff]
  · rintro args p r ⟨h, rfl⟩; first | (split <;> simp; done) | (simp; done) | (simp only [resM]; split <;> simp; done) | (simp only [resD]; split <;> simp; done) 
  · rintro args p r ⟨rfl, rfl⟩
    refine Z0e C false noExt (tabL C [(64, R64)]) xf70 (Q0f C) (K0f C _) zc70_ok (Nat.le_of_ble_eq_true (by kernel_rfl)) fun hF => ?_
    have t_64 := @t64 (tabL C [(64, R64)]) (Z0d C c64 [])
    generalize tabL C [(64, R64)] = call at t_64 ⊢
    show W C false noExt call zc70 (argE []) p (endQ C _ _)
    (have zx := True.intro; have hc := True.intro; refine zq70 (k := ?_); clear hc; try exact True.intro)
    repeat' ((first | refine K0d ?_ ?_ | refine Z0c ?_ ?_ | refine X0d _ _ _ _ ?_ ?_ | refine Q0d ?_ ?_ | refine V0d _ _ _ _ ?_ ?_) <;> intro hc <;> (try simp only [zhd, zhn] at hc) <;> (try have hw := X0b hc) <;> (refine zq70 (k := ?_); try exact True.intro))
    all_goals (try clear zx)
    exact K0e hF zle (Q0e rfl (Y0d fun j hj => by simp [Z0b.has, env0, Z0b.zero] at hj))
def R21 : Rel := fun args p r => ∃ (x : Q0c), args = [x.cv] ∧ r = .ret (handOp x).cv p
theorem t21 {T : XCall} (h : Has T 21 R21) (x : Q0c) {p : Hp}  : T 21 [x.cv] p = .ret (handOp x).cv p := h _ _ _ ⟨x, rfl, rfl⟩
theorem zq21 {A B : Prop} (h : A = B := by ((try simp -dsimp (disch := first | exact zdis | fail) only [zcore, zall, zopm, zop, zcallOp, qop, qbuiltin, ofOpt, List.map, reduceCtorEq, if_true, if_false, ↓reduceIte, zbin, eqRes, qassert, qnum, qshift, qun, kindOf, allocV, List.nil_append, List.append_nil, List.cons_append, List.length_cons, List.length_nil, Nat.reduceAdd, Nat.reduceEqDiff, Nat.reduceLT, Nat.reduceSub, Nat.reduceMul, Int.reduceToNat, Int.reduceLE, Int.reduceLT, Int.reduceEq, Int.reduceNeg, Int.reduceAdd, Int.reduceSub, beq_self_eq_true, cond_true, cond_false, isConstOpd, xpanic, xconv, isBytes, qconv, List.length_map, List.map_nil, List.map_cons, concrete, Option.some.injEq, exists_eq', Option.map_some, Option.map_none, List.getElem?_cons_zero, List.getElem?_cons_succ, zw21, rs21, tt3, tt29, tt31, ti3, ti29, ti31, t_37, Z01, Y0l, zx, hc]); rfl)) (k : B) : A := h ▸ k
theorem zno21 {P : Prop} (h : P := by intro jj; simp [CV.has, CV.hasL, fault, K0c.nohas, Q0c.nohas, X0c.nohas]) : P := h
set_option maxHeartbeats 8000000 in
theorem c21 : Con C 21 R21 := by
  refine Z0f C ?_ ?_ ?_
  · rintro args p r r' ⟨x, h, e⟩ ⟨x', h', e'⟩
    subst e; subst e'; simp_all [Q0c.inj_iff, X0c.inj_iff]
  · rintro args p r ⟨x, h, rfl⟩; first | (split <;> simp; done) | (simp; done) | (simp only [resM]; split <;> simp; done) | (simp only [resD]; split <;> simp; done) 
  · rintro args p r ⟨x, rfl, rfl⟩
    refine Z0e C false noExt (tabL C [(37, R37)]) xf21 (Q0f C) (K0f C _) zc21_ok (Nat.le_of_ble_eq_true (by kernel_rfl)) fun hF => ?_
    have t_37 := @t37 (tabL C [(37, R37)]) (Z0d C c37 [])
    generalize tabL C [(37, R37)] = call at t_37 ⊢
    show W C false noExt call zc21 (argE [x.cv]) p (endQ C _ _)
    (have zx := True.intro; have hc := True.intro; refine zq21 (k := ?_); clear hc; try exact True.intro)
    repeat' ((first | refine K0d ?_ ?_ | refine Z0c ?_ ?_ | refine X0d _ _ _ _ ?_ ?_ | refine Q0d ?_ ?_ | refine V0d _ _ _ _ ?_ ?_) <;> intro hc <;> (try simp only [zhd, zhn] at hc) <;> (try have hw := X0b hc) <;> (refine zq21 (k := ?_); try exact True.intro))
    all_goals (try clear zx)
    all_goals refine K0e hF zle (Q0e ?_ (Y0d zno21))
    all_goals simp [handOp, *]
def envB (x : V0a) : Q0a := { bodyBorn (pick x.X 4) 4 with X := pick x.X 4096, Y := pick x.Y 4096, VX := w64 (pick x.VX 129 - 64) }
def envK (x : V0a) (k : Nat) : Z0b := { Z0b.zero with Body := memN x.Mem.l k (envB x), In := handInput x.Buttons x.StickX, Dice := x.Dice, Room := pick x.Room 8 }
def J22 (x : V0a) (p : Hp) (n : Nat) (ρ : Env) (q : Hp) : Prop :=
  ∃ (k a : Nat), n = 4 - k ∧ k ≤ 4 ∧ k ≤ x.Mem.l.length ∧ ρ 1 = .ptr p.n [] ∧ ρ 2 = .ptr (p.n + 1) [] ∧ ρ 3 = .ptr a [] ∧ ρ 4 = I k ∧ p.n + 1 < a ∧ q.t.get p.n = some (.var sh27 x.cv) ∧ q.t.get (p.n + 1) = some (.var sh39 Z0b.zero.cv) ∧ q.t.get a = some (.var sh39 (envK x k).cv) ∧ HpLe p q
def R22 : Rel := fun args p r => ∃ (x : V0a), args = [x.cv] ∧ (-9223372036854775808 ≤ x.StickX ∧ x.StickX ≤ 9223372036854775807) ∧ r = .ret (envOf x).cv p
theorem t22 {T : XCall} (h : Has T 22 R22) (x : V0a) {p : Hp} (h1 : -9223372036854775808 ≤ x.StickX ∧ x.StickX ≤ 9223372036854775807) : T 22 [x.cv] p = .ret (envOf x).cv p := h _ _ _ ⟨x, rfl, h1, rfl⟩
theorem zq22 {A B : Prop} (h : A = B := by ((try simp -dsimp (disch := first | exact zdis | fail) only [zcore, zall, zopm, zop, zcallOp, qop, qbuiltin, ofOpt, List.map, reduceCtorEq, if_true, if_false, ↓reduceIte, zbin, eqRes, qassert, qnum, qshift, qun, kindOf, allocV, List.nil_append, List.append_nil, List.cons_append, List.length_cons, List.length_nil, Nat.reduceAdd, Nat.reduceEqDiff, Nat.reduceLT, Nat.reduceSub, Nat.reduceMul, Int.reduceToNat, Int.reduceLE, Int.reduceLT, Int.reduceEq, Int.reduceNeg, Int.reduceAdd, Int.reduceSub, beq_self_eq_true, cond_true, cond_false, isConstOpd, xpanic, xconv, isBytes, qconv, List.length_map, List.map_nil, List.map_cons, concrete, Option.some.injEq, exists_eq', Option.map_some, Option.map_none, List.getElem?_cons_zero, List.getElem?_cons_succ, zw22, rs22, tt3, tt24, tt25, tt27, tt32, tt34, tt39, ti3, ti24, ti25, ti27, ti32, ti34, ti39, t_37, t_64, t_69, Y0w, Q0h, Y0f, Q0i, zsl24, zsl32, h1, zx, hc]); rfl)) (k : B) : A := h ▸ k
theorem zge22 {P : Prop} (h : P := by simp (disch := first | exact zdl | fail) only [zheap]; first | done | rfl) : P := h
set_option maxHeartbeats 8000000 in
theorem c22 : Con C 22 R22 := by
  refine Z0f C ?_ ?_ ?_
  · rintro args p r r' ⟨x, h, h1, e⟩ ⟨x', h', h1', e'⟩
    subst e; subst e'; simp_all [V0a.inj_iff, Z0b.inj_iff, Q0a.inj_iff, Y0b.inj_iff, X0t]
  · rintro args p r ⟨x, h, h1, rfl⟩; first | (split <;> simp; done) | (simp; done) | (simp only [resM]; split <;> simp; done) | (simp only [resD]; split <;> simp; done) 
  · rintro args p r ⟨x, rfl, h1, rfl⟩
    refine Z0e C false noExt (tabL C [(37, R37), (64, R64), (69, R69)]) xf22 (Q0f C) (K0f C _) zc22_ok (Nat.le_of_ble_eq_true (by kernel_rfl)) fun hF => ?_
    have t_37 := @t37 (tabL C [(37, R37), (64, R64), (69, R69)]) (Z0d C c37 [(64, R64), (69, R69)])
    have t_64 := @t64 (tabL C [(37, R37), (64, R64), (69, R69)]) (Y0c C _ rfl (Z0d C c64 [(69, R69)]))
    have t_69 := @t69 (tabL C [(37, R37), (64, R64), (69, R69)]) (Y0c C _ rfl (Y0c C _ rfl (Z0d C c69 [])))
    generalize tabL C [(37, R37), (64, R64), (69, R69)] = call at t_37 t_64 t_69 ⊢
    show W C false noExt call zc22 (argE [x.cv]) p (endQ C _ _)
    (have zx := True.intro; have hc := True.intro; refine zq22 (k := ?_); clear hc; try exact True.intro)
    repeat' ((first | refine K0d ?_ ?_ | refine Z0c ?_ ?_ | refine X0d _ _ _ _ ?_ ?_ | refine Q0d ?_ ?_ | refine V0d _ _ _ _ ?_ ?_) <;> intro hc <;> (try simp only [zhd, zhn] at hc) <;> (try have hw := X0b hc) <;> (refine zq22 (k := ?_); try exact True.intro))
    all_goals (try clear zx)
    show W C false noExt call (ZC.loop zn22_15) _ _ _
    refine V0n C false noExt call zn22_15 _ _ _ (J22 x p) 4 ⟨0, p.n + 1 + 1 + 15, rfl, by omega, by omega, (by simp [put_at, Z0a, V0f]), (by simp [put_at, Z0a, V0f]), (by simp [put_at, Z0a, V0f]), (by simp [put_at, Z0a, V0f]), by omega, zge22, zge22, zge22, zle⟩ ?_
    rintro n ρ q ⟨k, a, rfl, hk, hkl, e1, e2, e3, e4, ha, g1, g2, g3, hle⟩
    have hap : a ≠ p.n := by omega
    have hap1 : a ≠ p.n + 1 := by omega
    by_cases hlt : (k : Int) < x.Mem.l.length
    · by_cases h4 : (k : Int) < 4
      · have hk4 : k < 4 := by omega
        by_cases h8 : (nth x.Mem.l k).tmod 9 = 8
        · (have zx := And.intro e1 (And.intro e2 (And.intro e3 (And.intro e4 (And.intro g1 (And.intro g2 (And.intro g3 (And.intro hlt (And.intro h4 h8)))))))); have hc := True.intro; refine zq22 (k := ?_); clear hc; try exact True.intro)
          repeat' ((first | refine K0d ?_ ?_ | refine Z0c ?_ ?_ | refine X0d _ _ _ _ ?_ ?_ | refine Q0d ?_ ?_ | refine V0d _ _ _ _ ?_ ?_) <;> intro hc <;> (try simp only [zhd, zhn] at hc) <;> (try have hw := X0b hc) <;> (refine zq22 (k := ?_); try exact True.intro))
          all_goals (try clear zx)
          refine ⟨4 - (k + 1), by omega, k + 1, a, rfl, by omega, by omega, by simp [put_at, Z0a, e1], by simp [put_at, Z0a, e2], by simp [put_at, Z0a, e3], by simp [put_at, Z0a], ha, ?_, ?_, ?_, ?_⟩
          · simp (disch := omega) only [Hp.bump_get, Hp.get_set_ne, g1]
          · simp (disch := omega) only [Hp.bump_get, Hp.get_set_ne, g2]
          · simp only [Hp.bump_get, Hp.get_set_self]
            simp [envK, memN, memVal, h8, Q0a.put_7k]
          · exact zlq
        · (have zx := And.intro e1 (And.intro e2 (And.intro e3 (And.intro e4 (And.intro g1 (And.intro g2 (And.intro g3 (And.intro hlt (And.intro h4 h8)))))))); have hc := True.intro; refine zq22 (k := ?_); clear hc; try exact True.intro)
          repeat' ((first | refine K0d ?_ ?_ | refine Z0c ?_ ?_ | refine X0d _ _ _ _ ?_ ?_ | refine Q0d ?_ ?_ | refine V0d _ _ _ _ ?_ ?_) <;> intro hc <;> (try simp only [zhd, zhn] at hc) <;> (try have hw := X0b hc) <;> (refine zq22 (k := ?_); try exact True.intro))
          all_goals (try clear zx)
          refine ⟨4 - (k + 1), by omega, k + 1, a, rfl, by omega, by omega, by simp [put_at, Z0a, e1], by simp [put_at, Z0a, e2], by simp [put_at, Z0a, e3], by simp [put_at, Z0a], ha, ?_, ?_, ?_, ?_⟩
          · simp (disch := omega) only [Hp.bump_get, Hp.get_set_ne, g1]
          · simp (disch := omega) only [Hp.bump_get, Hp.get_set_ne, g2]
          · simp only [Hp.bump_get, Hp.get_set_self]
            simp [envK, memN, memVal, h8, Q0a.put_7k]
          · exact zlq
      · (have zx := And.intro e1 (And.intro e2 (And.intro e3 (And.intro e4 (And.intro g1 (And.intro g2 (And.intro g3 (And.intro hlt h4))))))); have hc := True.intro; refine zq22 (k := ?_); clear hc; try exact True.intro)
        repeat' ((first | refine K0d ?_ ?_ | refine Z0c ?_ ?_ | refine X0d _ _ _ _ ?_ ?_ | refine Q0d ?_ ?_ | refine V0d _ _ _ _ ?_ ?_) <;> intro hc <;> (try simp only [zhd, zhn] at hc) <;> (try have hw := X0b hc) <;> (refine zq22 (k := ?_); try exact True.intro))
        all_goals (try clear zx)
        all_goals
          have hk' : min x.Mem.l.length 4 = k := by omega
          refine K0e hF zlq (Q0e ?_ (Y0d fun j hj => by simp [Z0b.has, envOf, Z0b.zero] at hj))
          simp [envOf, envK, envB, hk', hc]
    · (have zx := And.intro e1 (And.intro e2 (And.intro e3 (And.intro e4 (And.intro g1 (And.intro g2 (And.intro g3 hlt)))))); have hc := True.intro; refine zq22 (k := ?_); clear hc; try exact True.intro)
      repeat' ((first | refine K0d ?_ ?_ | refine Z0c ?_ ?_ | refine X0d _ _ _ _ ?_ ?_ | refine Q0d ?_ ?_ | refine V0d _ _ _ _ ?_ ?_) <;> intro hc <;> (try simp only [zhd, zhn] at hc) <;> (try have hw := X0b hc) <;> (refine zq22 (k := ?_); try exact True.intro))
      all_goals (try clear zx)
      all_goals
        have hk' : min x.Mem.l.length 4 = k := by omega
        refine K0e hF zlq (Q0e ?_ (Y0d fun j hj => by simp [Z0b.has, envOf, Z0b.zero] at hj))
        simp [envOf, envK, envB, hk', hc]
def J26 (a b : Z0b) (p : Hp) (n : Nat) (ρ : Env) (q : Hp) : Prop :=
  ∃ k, n = a.Shots.l.length - k ∧ k ≤ a.Shots.l.length ∧ ρ 2 = .ptr p.n [] ∧ ρ 3 = .ptr (p.n + 1) [] ∧ ρ 43 = I a.Shots.l.length ∧ ρ 44 = I k ∧ q.t.get p.n = some (.var sh39 a.cv) ∧ q.t.get (p.n + 1) = some (.var sh39 b.cv) ∧ HpLe p q ∧ (∀ j, j < k → nth a.Shots.l j = nth b.Shots.l j)
def R26 : Rel := fun args p r => ∃ (a b : Z0b), args = [a.cv, b.cv] ∧ (a.Shots.l.length ≤ 1000000) ∧ r = .ret (Bo (sameE a b)) p
theorem t26 {T : XCall} (h : Has T 26 R26) (a b : Z0b) {p : Hp} (h1 : a.Shots.l.length ≤ 1000000) : T 26 [a.cv, b.cv] p = .ret (Bo (sameE a b)) p := h _ _ _ ⟨a, b, rfl, h1, rfl⟩
theorem zq26 {A B : Prop} (h : A = B := by ((try simp -dsimp (disch := first | exact zdis | fail) only [zcore, zall, zopm, zop, zcallOp, qop, qbuiltin, ofOpt, List.map, reduceCtorEq, if_true, if_false, ↓reduceIte, zbin, eqRes, qassert, qnum, qshift, qun, kindOf, allocV, List.nil_append, List.append_nil, List.cons_append, List.length_cons, List.length_nil, Nat.reduceAdd, Nat.reduceEqDiff, Nat.reduceLT, Nat.reduceSub, Nat.reduceMul, Int.reduceToNat, Int.reduceLE, Int.reduceLT, Int.reduceEq, Int.reduceNeg, Int.reduceAdd, Int.reduceSub, beq_self_eq_true, cond_true, cond_false, isConstOpd, xpanic, xconv, isBytes, qconv, List.length_map, List.map_nil, List.map_cons, concrete, Option.some.injEq, exists_eq', Option.map_some, Option.map_none, List.getElem?_cons_zero, List.getElem?_cons_succ, zw26, rs26, tt3, tt25, tt34, tt36, tt37, tt39, ti3, ti25, ti34, ti36, ti37, ti39, Q0h, Y0f, Q0i, zsl37, h1, zx, hc]); rfl)) (k : B) : A := h ▸ k
theorem zno26 {P : Prop} (h : P := by intro jj; simp [CV.has, CV.hasL, fault, K0c.nohas, Q0a.nohas, Y0b.nohas]) : P := h
theorem zge26 {P : Prop} (h : P := by simp (disch := first | exact zdl | fail) only [zheap]; first | done | rfl) : P := h
set_option maxHeartbeats 8000000 in
theorem c26 : Con C 26 R26 := by
  refine Z0f C ?_ ?_ ?_
  · rintro args p r r' ⟨a, b, h, h1, e⟩ ⟨a', b', h', h1', e'⟩
    subst e; subst e'; simp_all [Z0b.inj_iff, Q0a.inj_iff, Y0b.inj_iff, Z0r]
  · rintro args p r ⟨a, b, h, h1, rfl⟩; first | (split <;> simp; done) | (simp; done) | (simp only [resM]; split <;> simp; done) | (simp only [resD]; split <;> simp; done) 
  · rintro args p r ⟨a, b, rfl, h1, rfl⟩
    refine Z0e C false noExt (tabL C []) xf26 (Q0f C) (K0f C _) zc26_ok (Nat.le_of_ble_eq_true (by kernel_rfl)) fun hF => ?_
    generalize tabL C [] = call
    show W C false noExt call zc26 (argE [a.cv, b.cv]) p (endQ C _ _)
    (have zx := True.intro; have hc := True.intro; refine zq26 (k := ?_); clear hc; try exact True.intro)
    repeat' ((first | refine K0d ?_ ?_ | refine Z0c ?_ ?_ | refine X0d _ _ _ _ ?_ ?_ | refine Q0d ?_ ?_ | refine V0d _ _ _ _ ?_ ?_) <;> intro hc <;> (try simp only [zhd, zhn] at hc) <;> (try have hw := X0b hc) <;> (refine zq26 (k := ?_); try exact True.intro))
    all_goals (try clear zx)
    · have hlen : a.Shots.l.length = b.Shots.l.length := by omega
      show W C false noExt call (ZC.loop zn26_13) _ _ _
      refine V0n C false noExt call zn26_13 _ _ _ (J26 a b p) a.Shots.l.length ⟨0, rfl, by omega, (by simp [put_at, Z0a, V0f]), (by simp [put_at, Z0a, V0f]), by simp [put_at, Z0a, hlen], (by simp [put_at, Z0a, V0f]), ?_, ?_, ?_, fun j hj => by omega⟩ ?_
      · exact zge26
      · exact zge26
      · exact zle
      rintro n ρ q ⟨k, rfl, hk, e2, e3, e43, e44, g1, g2, hle, hj⟩
      by_cases hlt : (k : Int) < a.Shots.l.length
      · have hlt2 : (k : Int) < b.Shots.l.length := by omega
        by_cases hne : nth a.Shots.l k = nth b.Shots.l k
        · (have zx := And.intro e2 (And.intro e3 (And.intro e43 (And.intro e44 (And.intro g1 (And.intro g2 (And.intro hlt hne)))))); have hc := True.intro; refine zq26 (k := ?_); clear hc; try exact True.intro)
          repeat' ((first | refine K0d ?_ ?_ | refine Z0c ?_ ?_ | refine X0d _ _ _ _ ?_ ?_ | refine Q0d ?_ ?_ | refine V0d _ _ _ _ ?_ ?_) <;> intro hc <;> (try simp only [zhd, zhn] at hc) <;> (try have hw := X0b hc) <;> (refine zq26 (k := ?_); try exact True.intro))
          all_goals (try clear zx)
          refine ⟨a.Shots.l.length - (k + 1), by omega, k + 1, rfl, by omega, by simp [put_at, Z0a, e2], by simp [put_at, Z0a, e3], by simp [put_at, Z0a, e43], by simp [put_at, Z0a], by simp only [Hp.bump_get, g1], by simp only [Hp.bump_get, g2], zlq, fun j hjk => ?_⟩
          by_cases h : j = k
          · rw [h]; exact hne
          · exact hj j (by omega)
        · (have zx := And.intro e2 (And.intro e3 (And.intro e43 (And.intro e44 (And.intro g1 (And.intro g2 (And.intro hlt hne)))))); have hc := True.intro; refine zq26 (k := ?_); clear hc; try exact True.intro)
          repeat' ((first | refine K0d ?_ ?_ | refine Z0c ?_ ?_ | refine X0d _ _ _ _ ?_ ?_ | refine Q0d ?_ ?_ | refine V0d _ _ _ _ ?_ ?_) <;> intro hc <;> (try simp only [zhd, zhn] at hc) <;> (try have hw := X0b hc) <;> (refine zq26 (k := ?_); try exact True.intro))
          all_goals (try clear zx)
          have hl : ¬ a.Shots.l = b.Shots.l := fun h => hne (by rw [h])
          refine K0e hF zlq (Q0e ?_ (Y0d zno26))
          simp [sameE, hl]
      · (have zx := And.intro e2 (And.intro e3 (And.intro e43 (And.intro e44 (And.intro g1 (And.intro g2 hlt))))); have hc := True.intro; refine zq26 (k := ?_); clear hc; try exact True.intro)
        repeat' ((first | refine K0d ?_ ?_ | refine Z0c ?_ ?_ | refine X0d _ _ _ _ ?_ ?_ | refine Q0d ?_ ?_ | refine V0d _ _ _ _ ?_ ?_) <;> intro hc <;> (try simp only [zhd, zhn] at hc) <;> (try have hw := X0b hc) <;> (refine zq26 (k := ?_); try exact True.intro))
        all_goals (try clear zx)
        have hl : a.Shots.l = b.Shots.l := nth_ext hlen fun j h => hj j (by omega)
        refine K0e hF zlq (Q0e ?_ (Y0d zno26))
        simp [sameE, *]
    all_goals refine K0e hF zle (Q0e ?_ (Y0d zno26))
    all_goals simp [sameE, *]
    intro h
    rw [h] at hc
    exact hc rfl
def R23 : Rel := fun args p r => args = [] ∧ r = .ret (Bo true) p
theorem t23 {T : XCall} (h : Has T 23 R23)  {p : Hp}  : T 23 [] p = .ret (Bo true) p := h _ _ _ ⟨rfl, rfl⟩
theorem zq23 {A B : Prop} (h : A = B := by ((try simp -dsimp (disch := first | exact zdis | fail) only [zcore, zall, zopm, zop, zcallOp, qop, qbuiltin, ofOpt, List.map, reduceCtorEq, if_true, if_false, ↓reduceIte, zbin, eqRes, qassert, qnum, qshift, qun, kindOf, allocV, List.nil_append, List.append_nil, List.cons_append, List.length_cons, List.length_nil, Nat.reduceAdd, Nat.reduceEqDiff, Nat.reduceLT, Nat.reduceSub, Nat.reduceMul, Int.reduceToNat, Int.reduceLE, Int.reduceLT, Int.reduceEq, Int.reduceNeg, Int.reduceAdd, Int.reduceSub, beq_self_eq_true, cond_true, cond_false, isConstOpd, xpanic, xconv, isBytes, qconv, List.length_map, List.map_nil, List.map_cons, concrete, Option.some.injEq, exists_eq', Option.map_some, Option.map_none, List.getElem?_cons_zero, List.getElem?_cons_succ, zw23, rs23, tt3, tt23, tt29, tt32, tt34, tt39, tt44, ti3, ti23, ti29, ti32, ti34, ti39, ti44, t_70, t_25, Q0h, Y0f, Q0i, X0m, Y0l, zsl23, zsl32, zx, hc]); rfl)) (k : B) : A := h ▸ k
theorem zno23 {P : Prop} (h : P := by intro jj; simp [CV.has, CV.hasL, fault, K0c.nohas, Q0a.nohas, Y0b.nohas, V0c.nohas, X0c.nohas]) : P := h
set_option maxHeartbeats 8000000 in
theorem c23 : Con C 23 R23 := by
  refine Z0f C ?_ ?_ ?_
  · rintro args p r r' ⟨h, e⟩ ⟨h', e'⟩
    subst e; subst e'; simp_all [Z0b.inj_iff, Q0a.inj_iff, Y0b.inj_iff, V0c.inj_iff, X0c.inj_iff, K0m]
  · rintro args p r ⟨h, rfl⟩; first | (split <;> simp; done) | (simp; done) | (simp only [resM]; split <;> simp; done) | (simp only [resD]; split <;> simp; done) 
  · rintro args p r ⟨rfl, rfl⟩
    refine Z0e C false noExt (tabL C [(70, R70), (25, R25)]) xf23 (Q0f C) (K0f C _) zc23_ok (Nat.le_of_ble_eq_true (by kernel_rfl)) fun hF => ?_
    have t_70 := @t70 (tabL C [(70, R70), (25, R25)]) (Z0d C c70 [(25, R25)])
    have t_25 := @t25 (tabL C [(70, R70), (25, R25)]) (Y0c C _ rfl (Z0d C c25 []))
    generalize tabL C [(70, R70), (25, R25)] = call at t_70 t_25 ⊢
    show W C false noExt call zc23 (argE []) p (endQ C _ _)
    have r1 : ruleRun ⟨.exact, [⟨6, 0, 0⟩], nofun⟩ env0 = ((copiedE env0), ⟨1, 0⟩, false) := by rfl
    have r2 : (ruleRun ⟨.exact, [⟨1, 1, 5⟩, ⟨3, 1, 1⟩], nofun⟩ env0).2.2 = true ∧ nth (ruleRun ⟨.exact, [⟨1, 1, 5⟩, ⟨3, 1, 1⟩], nofun⟩ env0).1.Body.Mem 1 = 10 := by constructor <;> rfl
    have hv : env0.Shots.tl ≠ .view := by simp [env0, Z0b.zero]
    have hv2 : env0.Shots.l.length ≤ 100000 := by simp [env0, Z0b.zero]
    (have zx := And.intro r1 (And.intro r2.1 r2.2); have hc := True.intro; refine zq23 (k := ?_); clear hc; try exact True.intro)
    repeat' ((first | refine K0d ?_ ?_ | refine Z0c ?_ ?_ | refine X0d _ _ _ _ ?_ ?_ | refine Q0d ?_ ?_ | refine V0d _ _ _ _ ?_ ?_) <;> intro hc <;> (try simp only [zhd, zhn] at hc) <;> (try have hw := X0b hc) <;> (refine zq23 (k := ?_); try exact True.intro))
    all_goals (try clear zx)
    exact K0e hF zle (X0e (Y0d zno23))
end Go.Proofs.Ytpchcfkebljopaa
end
