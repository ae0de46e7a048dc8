/- The table of the types of the seat. Printed by tools/cltab.py. -/
import Derived.Test.YtbjbhoggbbhblaaChecked
import Derived.Test.YtbjbhoggbbhblaaCl19
set_option linter.unusedSimpArgs false
set_option linter.unusedVariables false
namespace Go.Proofs.Ytbjbhoggbbhblaa
open Go.Cl

abbrev sh1 : Shape := .s
abbrev z1 : CV := .sc .nilFunc
def ti1 : TI := ⟨.base (.func #[] #[] false), sh1, 8, z1⟩
abbrev sh2 : Shape := .s
abbrev z2 : CV := .sc (.int .i64 0)
def ti2 : TI := ⟨.base (.int .i64), sh2, 8, z2⟩
abbrev sh3 : Shape := .s
abbrev z3 : CV := .sc (.int .i64 0)
def ti3 : TI := ⟨.base (.int .i64), sh3, 8, z3⟩
abbrev sh4 : Shape := .s
abbrev z4 : CV := .sc (.bool false)
def ti4 : TI := ⟨.base (.bool), sh4, 1, z4⟩
abbrev sh5 : Shape := .s
abbrev z5 : CV := .sc (.int .u8 0)
def ti5 : TI := ⟨.base (.int .u8), sh5, 1, z5⟩
abbrev sh9 : Shape := .s
abbrev z9 : CV := .sc (.string ⟨#[]⟩)
def ti9 : TI := ⟨.base (.string), sh9, 16, z9⟩
abbrev sh12 : Shape := .s
abbrev z12 : CV := .sc (.int .u64 0)
def ti12 : TI := ⟨.base (.int .u64), sh12, 8, z12⟩
abbrev sh15 : Shape := .s
abbrev z15 : CV := .sc (.pointer none)
def ti15 : TI := ⟨.base (.pointer 106), sh15, 8, z15⟩
abbrev sh16 : Shape := .s
abbrev z16 : CV := .sc (.pointer none)
def ti16 : TI := ⟨.base (.pointer 109), sh16, 8, z16⟩
abbrev sh17 : Shape := .s
abbrev z17 : CV := .sc (.pointer none)
def ti17 : TI := ⟨.base (.pointer 119), sh17, 8, z17⟩
abbrev sh20 : Shape := .s
abbrev z20 : CV := .sc .nilIface
def ti20 : TI := ⟨.base (.interface #[]), sh20, 16, z20⟩
abbrev sh21 : Shape := .s
abbrev z21 : CV := .sc (.int .i32 0)
def ti21 : TI := ⟨.base (.int .i32), sh21, 4, z21⟩
def sh22 : Shape := .n [sh3, sh3, sh3, sh3, sh3, sh3, sh3, sh3, sh3, sh3]
def z22 : CV := .agg [z3, z3, z3, z3, z3, z3, z3, z3, z3, z3]
def ti22 : TI := ⟨.st [(0, 1, 3), (1, 1, 3), (2, 1, 3), (3, 1, 3), (4, 1, 3), (5, 1, 3), (6, 1, 3), (7, 1, 3), (8, 1, 3), (9, 1, 3)], sh22, 80, z22⟩
def sh23 : Shape := .n [sh3, sh3, sh3, sh3, sh3, sh3, sh3, sh3, sh3, sh3]
def z23 : CV := .agg [z3, z3, z3, z3, z3, z3, z3, z3, z3, z3]
def ti23 : TI := ⟨.st [(0, 1, 3), (1, 1, 3), (2, 1, 3), (3, 1, 3), (4, 1, 3), (5, 1, 3), (6, 1, 3), (7, 1, 3), (8, 1, 3), (9, 1, 3)], sh23, 80, z23⟩
abbrev sh24 : Shape := .s
abbrev z24 : CV := .lst .nil []
def ti24 : TI := ⟨.base (.slice 3), sh24, 24, z24⟩
def sh25 : Shape := .n (List.replicate 4 sh3)
def z25 : CV := .agg (List.replicate 4 z3)
def ti25 : TI := ⟨.ar 4 1 3, sh25, 32, z25⟩
def sh26 : Shape := .n [sh3, sh3, sh3, sh3, sh3, sh3, sh3, sh25, sh3]
def z26 : CV := .agg [z3, z3, z3, z3, z3, z3, z3, z25, z3]
def ti26 : TI := ⟨.st [(0, 1, 3), (1, 1, 3), (2, 1, 3), (3, 1, 3), (4, 1, 3), (5, 1, 3), (6, 1, 3), (7, 4, 25), (11, 1, 3)], sh26, 96, z26⟩
def sh27 : Shape := .n [sh3, sh3, sh3, sh3, sh3, sh3, sh3, sh25, sh3]
def z27 : CV := .agg [z3, z3, z3, z3, z3, z3, z3, z25, z3]
def ti27 : TI := ⟨.st [(0, 1, 3), (1, 1, 3), (2, 1, 3), (3, 1, 3), (4, 1, 3), (5, 1, 3), (6, 1, 3), (7, 4, 25), (11, 1, 3)], sh27, 96, z27⟩
abbrev sh28 : Shape := .s
abbrev z28 : CV := .sc .nilFunc
def ti28 : TI := ⟨.base (.func #[23] #[27] false), sh28, 8, z28⟩
abbrev sh29 : Shape := .s
abbrev z29 : CV := .sc .nilFunc
def ti29 : TI := ⟨.base (.func #[] #[4] false), sh29, 8, z29⟩
abbrev sh30 : Shape := .s
abbrev z30 : CV := .sc .nilFunc
def ti30 : TI := ⟨.base (.func #[27] #[4] false), sh30, 8, z30⟩
abbrev sh31 : Shape := .s
abbrev z31 : CV := .sc .nilFunc
def ti31 : TI := ⟨.base (.func #[27, 27] #[4] false), sh31, 8, z31⟩
abbrev sh32 : Shape := .s
abbrev z32 : CV := .sc .nilFunc
def ti32 : TI := ⟨.base (.func #[27, 3, 3] #[27] false), sh32, 8, z32⟩
abbrev sh34 : Shape := .s
abbrev z34 : CV := .sc .nilFunc
def ti34 : TI := ⟨.base (.func #[27] #[27, 4] false), sh34, 8, z34⟩
abbrev sh35 : Shape := .s
abbrev z35 : CV := .sc .nilFunc
def ti35 : TI := ⟨.base (.func #[23, 23, 24] #[4] false), sh35, 8, z35⟩
abbrev sh36 : Shape := .s
abbrev z36 : CV := .sc .nilFunc
def ti36 : TI := ⟨.base (.func #[3, 3] #[27] false), sh36, 8, z36⟩
abbrev sh37 : Shape := .s
abbrev z37 : CV := .sc .nilFunc
def ti37 : TI := ⟨.base (.func #[3, 3] #[3] false), sh37, 8, z37⟩
abbrev sh38 : Shape := .s
abbrev z38 : CV := .sc .nilFunc
def ti38 : TI := ⟨.base (.func #[3, 3, 3, 3, 3] #[4] false), sh38, 8, z38⟩
abbrev sh39 : Shape := .s
abbrev z39 : CV := .sc .nilFunc
def ti39 : TI := ⟨.base (.func #[3] #[4] false), sh39, 8, z39⟩
abbrev sh40 : Shape := .s
abbrev z40 : CV := .lst .nil []
def ti40 : TI := ⟨.base (.slice 48), sh40, 24, z40⟩
abbrev sh41 : Shape := .s
abbrev z41 : CV := .lst .nil []
def ti41 : TI := ⟨.base (.slice 46), sh41, 24, z41⟩
abbrev sh42 : Shape := .s
abbrev z42 : CV := .sc (.int .u64 0)
def ti42 : TI := ⟨.base (.int .u64), sh42, 8, z42⟩
def sh43 : Shape := .n [sh3, sh3, sh3, sh3, sh3, sh3, sh24, sh42, sh3]
def z43 : CV := .agg [z3, z3, z3, z3, z3, z3, z24, z42, z3]
def ti43 : TI := ⟨.st [(0, 1, 3), (1, 1, 3), (2, 1, 3), (3, 1, 3), (4, 1, 3), (5, 1, 3), (6, 1, 24), (7, 1, 42), (8, 1, 3)], sh43, 88, z43⟩
def sh44 : Shape := .n [sh3, sh3, sh3, sh3, sh3, sh3, sh24, sh42, sh3]
def z44 : CV := .agg [z3, z3, z3, z3, z3, z3, z24, z42, z3]
def ti44 : TI := ⟨.st [(0, 1, 3), (1, 1, 3), (2, 1, 3), (3, 1, 3), (4, 1, 3), (5, 1, 3), (6, 1, 24), (7, 1, 42), (8, 1, 3)], sh44, 88, z44⟩
def sh45 : Shape := .n [sh3, sh3, sh3]
def z45 : CV := .agg [z3, z3, z3]
def ti45 : TI := ⟨.st [(0, 1, 3), (1, 1, 3), (2, 1, 3)], sh45, 24, z45⟩
def sh46 : Shape := .n [sh3, sh3, sh3]
def z46 : CV := .agg [z3, z3, z3]
def ti46 : TI := ⟨.st [(0, 1, 3), (1, 1, 3), (2, 1, 3)], sh46, 24, z46⟩
abbrev sh47 : Shape := .s
abbrev z47 : CV := .sc .nilFunc
def ti47 : TI := ⟨.base (.func #[48] #[46] false), sh47, 8, z47⟩
def sh48 : Shape := .n [sh3, sh3, sh3]
def z48 : CV := .agg [z3, z3, z3]
def ti48 : TI := ⟨.st [(0, 1, 3), (1, 1, 3), (2, 1, 3)], sh48, 24, z48⟩
def sh49 : Shape := .n [sh3, sh3, sh3]
def z49 : CV := .agg [z3, z3, z3]
def ti49 : TI := ⟨.st [(0, 1, 3), (1, 1, 3), (2, 1, 3)], sh49, 24, z49⟩
def sh50 : Shape := .n [sh3, sh3, sh3]
def z50 : CV := .agg [z3, z3, z3]
def ti50 : TI := ⟨.st [(0, 1, 3), (1, 1, 3), (2, 1, 3)], sh50, 24, z50⟩
abbrev sh51 : Shape := .s
abbrev z51 : CV := .lst .nil []
def ti51 : TI := ⟨.base (.slice 27), sh51, 24, z51⟩
def sh52 : Shape := .n [sh27, sh50, sh42, sh3, sh51]
def z52 : CV := .agg [z27, z50, z42, z3, z51]
def ti52 : TI := ⟨.st [(0, 12, 27), (12, 3, 50), (15, 1, 42), (16, 1, 3), (17, 1, 51)], sh52, 160, z52⟩
def sh53 : Shape := .n [sh27, sh50, sh42, sh3, sh51]
def z53 : CV := .agg [z27, z50, z42, z3, z51]
def ti53 : TI := ⟨.st [(0, 12, 27), (12, 3, 50), (15, 1, 42), (16, 1, 3), (17, 1, 51)], sh53, 160, z53⟩
abbrev sh54 : Shape := .s
abbrev z54 : CV := .sc .nilFunc
def ti54 : TI := ⟨.base (.func #[44] #[53] false), sh54, 8, z54⟩
def sh55 : Shape := .n [sh3, sh3]
def z55 : CV := .agg [z3, z3]
def ti55 : TI := ⟨.st [(0, 1, 3), (1, 1, 3)], sh55, 16, z55⟩
def sh56 : Shape := .n [sh3, sh3]
def z56 : CV := .agg [z3, z3]
def ti56 : TI := ⟨.st [(0, 1, 3), (1, 1, 3)], sh56, 16, z56⟩
abbrev sh58 : Shape := .s
abbrev z58 : CV := .sc .nilFunc
def ti58 : TI := ⟨.base (.func #[41, 53] #[53, 56, 4] false), sh58, 8, z58⟩
abbrev sh59 : Shape := .s
abbrev z59 : CV := .sc .nilFunc
def ti59 : TI := ⟨.base (.func #[53, 53] #[4] false), sh59, 8, z59⟩
abbrev sh60 : Shape := .s
abbrev z60 : CV := .sc .nilFunc
def ti60 : TI := ⟨.base (.func #[40, 41, 44] #[4] false), sh60, 8, z60⟩
abbrev sh61 : Shape := .s
abbrev z61 : CV := .sc .nilFunc
def ti61 : TI := ⟨.base (.func #[40] #[41] false), sh61, 8, z61⟩
abbrev sh62 : Shape := .s
abbrev z62 : CV := .sc .nilFunc
def ti62 : TI := ⟨.base (.func #[40, 40, 44] #[4] false), sh62, 8, z62⟩
abbrev sh63 : Shape := .s
abbrev z63 : CV := .sc .nilFunc
def ti63 : TI := ⟨.base (.func #[] #[53] false), sh63, 8, z63⟩
abbrev sh64 : Shape := .s
abbrev z64 : CV := .sc .nilFunc
def ti64 : TI := ⟨.base (.func #[3, 3, 41] #[4] true), sh64, 8, z64⟩
abbrev sh65 : Shape := .s
abbrev z65 : CV := .sc .nilFunc
def ti65 : TI := ⟨.base (.func #[41] #[4] false), sh65, 8, z65⟩
def sh66 : Shape := .n [sh27, sh50, sh42, sh3, sh51]
def z66 : CV := .agg [z27, z50, z42, z3, z51]
def ti66 : TI := ⟨.st [(0, 12, 27), (12, 3, 50), (15, 1, 42), (16, 1, 3), (17, 1, 51)], sh66, 160, z66⟩
abbrev sh68 : Shape := .s
abbrev z68 : CV := .sc .nilFunc
def ti68 : TI := ⟨.base (.func #[41, 66] #[66, 3, 3, 4] false), sh68, 8, z68⟩
abbrev sh69 : Shape := .s
abbrev z69 : CV := .sc .nilFunc
def ti69 : TI := ⟨.base (.func #[40, 44] #[4] false), sh69, 8, z69⟩
abbrev sh70 : Shape := .s
abbrev z70 : CV := .sc .nilFunc
def ti70 : TI := ⟨.base (.func #[3, 3, 3] #[4] false), sh70, 8, z70⟩
abbrev sh71 : Shape := .s
abbrev z71 : CV := .sc .nilFunc
def ti71 : TI := ⟨.base (.func #[3, 3, 3] #[3] false), sh71, 8, z71⟩
abbrev sh73 : Shape := .s
abbrev z73 : CV := .sc .nilFunc
def ti73 : TI := ⟨.base (.func #[3, 3] #[3, 3] false), sh73, 8, z73⟩
abbrev sh74 : Shape := .s
abbrev z74 : CV := .sc .nilFunc
def ti74 : TI := ⟨.base (.func #[3, 3] #[50] false), sh74, 8, z74⟩
abbrev sh75 : Shape := .s
abbrev z75 : CV := .sc .nilFunc
def ti75 : TI := ⟨.base (.func #[53] #[53] false), sh75, 8, z75⟩
abbrev sh76 : Shape := .s
abbrev z76 : CV := .sc (.pointer none)
def ti76 : TI := ⟨.base (.pointer 78), sh76, 8, z76⟩
def sh77 : Shape := .n [sh53, sh41, sh3]
def z77 : CV := .agg [z53, z41, z3]
def ti77 : TI := ⟨.st [(0, 18, 53), (18, 1, 41), (19, 1, 3)], sh77, 192, z77⟩
def sh78 : Shape := .n [sh53, sh41, sh3]
def z78 : CV := .agg [z53, z41, z3]
def ti78 : TI := ⟨.st [(0, 18, 53), (18, 1, 41), (19, 1, 3)], sh78, 192, z78⟩
abbrev sh80 : Shape := .s
abbrev z80 : CV := .sc .nilFunc
def ti80 : TI := ⟨.base (.func #[1] #[56, 4] false), sh80, 8, z80⟩
abbrev sh81 : Shape := .s
abbrev z81 : CV := .sc .nilFunc
def ti81 : TI := ⟨.base (.func #[41, 82] #[4] false), sh81, 8, z81⟩
abbrev sh82 : Shape := .s
abbrev z82 : CV := .sc .nilFunc
def ti82 : TI := ⟨.base (.func #[46] #[4] false), sh82, 8, z82⟩
abbrev sh83 : Shape := .s
abbrev z83 : CV := .sc .nilFunc
def ti83 : TI := ⟨.base (.func #[46, 66, 3] #[3] false), sh83, 8, z83⟩
abbrev sh84 : Shape := .s
abbrev z84 : CV := .sc .nilFunc
def ti84 : TI := ⟨.base (.func #[66, 3] #[3] false), sh84, 8, z84⟩
abbrev sh86 : Shape := .s
abbrev z86 : CV := .sc .nilFunc
def ti86 : TI := ⟨.base (.func #[42, 3] #[42, 3] false), sh86, 8, z86⟩
abbrev sh87 : Shape := .s
abbrev z87 : CV := .sc .nilFunc
def ti87 : TI := ⟨.base (.func #[46, 66] #[3] false), sh87, 8, z87⟩
abbrev sh88 : Shape := .s
abbrev z88 : CV := .sc .nilFunc
def ti88 : TI := ⟨.base (.func #[51] #[51] false), sh88, 8, z88⟩
def sh89 : Shape := .n [sh56]
def z89 : CV := .agg [z56]
def ti89 : TI := ⟨.st [(0, 2, 56)], sh89, 16, z89⟩
def sh90 : Shape := .n [sh56]
def z90 : CV := .agg [z56]
def ti90 : TI := ⟨.st [(0, 2, 56)], sh90, 16, z90⟩
abbrev sh91 : Shape := .s
abbrev z91 : CV := .sc .nilFunc
def ti91 : TI := ⟨.base (.func #[4, 3] #[] false), sh91, 8, z91⟩
abbrev sh92 : Shape := .s
abbrev z92 : CV := .sc .nilFunc
def ti92 : TI := ⟨.base (.func #[46] #[3] false), sh92, 8, z92⟩
abbrev sh93 : Shape := .s
abbrev z93 : CV := .sc .nilFunc
def ti93 : TI := ⟨.base (.func #[41, 82] #[3] false), sh93, 8, z93⟩
abbrev sh95 : Shape := .s
abbrev z95 : CV := .sc .nilFunc
def ti95 : TI := ⟨.base (.func #[3] #[4, 4] false), sh95, 8, z95⟩
def sh96 : Shape := .n (List.replicate 8 sh3)
def z96 : CV := .agg (List.replicate 8 z3)
def ti96 : TI := ⟨.ar 8 1 3, sh96, 64, z96⟩
abbrev sh97 : Shape := .s
abbrev z97 : CV := .sc .nilFunc
def ti97 : TI := ⟨.base (.func #[42] #[42, 3] false), sh97, 8, z97⟩
abbrev sh98 : Shape := .s
abbrev z98 : CV := .sc .nilFunc
def ti98 : TI := ⟨.base (.func #[4, 3, 3] #[] false), sh98, 8, z98⟩
abbrev sh99 : Shape := .s
abbrev z99 : CV := .sc .nilFunc
def ti99 : TI := ⟨.base (.func #[46] #[] false), sh99, 8, z99⟩
abbrev sh100 : Shape := .s
abbrev z100 : CV := .sc .nilFunc
def ti100 : TI := ⟨.base (.func #[3, 3] #[] false), sh100, 8, z100⟩
abbrev sh101 : Shape := .s
abbrev z101 : CV := .sc .nilFunc
def ti101 : TI := ⟨.base (.func #[3] #[3] false), sh101, 8, z101⟩
abbrev sh102 : Shape := .s
abbrev z102 : CV := .sc (.int .u64 0)
def ti102 : TI := ⟨.base (.int .u64), sh102, 8, z102⟩
abbrev sh103 : Shape := .s
abbrev z103 : CV := .sc (.pointer none)
def ti103 : TI := ⟨.base (.pointer 27), sh103, 8, z103⟩
abbrev sh104 : Shape := .s
abbrev z104 : CV := .sc .nilFunc
def ti104 : TI := ⟨.base (.func #[] #[9] false), sh104, 8, z104⟩
abbrev sh110 : Shape := .s
abbrev z110 : CV := .sc .nilFunc
def ti110 : TI := ⟨.base (.func #[] #[3] false), sh110, 8, z110⟩
abbrev sh111 : Shape := .s
abbrev z111 : CV := .sc (.int .u32 0)
def ti111 : TI := ⟨.base (.int .u32), sh111, 4, z111⟩
abbrev sh114 : Shape := .s
abbrev z114 : CV := .sc .nilFunc
def ti114 : TI := ⟨.base (.func #[120, 120] #[4] false), sh114, 8, z114⟩
abbrev sh115 : Shape := .s
abbrev z115 : CV := .sc (.pointer none)
def ti115 : TI := ⟨.base (.pointer 5), sh115, 8, z115⟩
def tab : List (TypeId × TI) := [(1, ti1), (2, ti2), (3, ti3), (4, ti4), (5, ti5), (9, ti9), (12, ti12), (15, ti15), (16, ti16), (17, ti17), (20, ti20), (21, ti21), (22, ti22), (23, ti23), (24, ti24), (25, ti25), (26, ti26), (27, ti27), (28, ti28), (29, ti29), (30, ti30), (31, ti31), (32, ti32), (34, ti34), (35, ti35), (36, ti36), (37, ti37), (38, ti38), (39, ti39), (40, ti40), (41, ti41), (42, ti42), (43, ti43), (44, ti44), (45, ti45), (46, ti46), (47, ti47), (48, ti48), (49, ti49), (50, ti50), (51, ti51), (52, ti52), (53, ti53), (54, ti54), (55, ti55), (56, ti56), (58, ti58), (59, ti59), (60, ti60), (61, ti61), (62, ti62), (63, ti63), (64, ti64), (65, ti65), (66, ti66), (68, ti68), (69, ti69), (70, ti70), (71, ti71), (73, ti73), (74, ti74), (75, ti75), (76, ti76), (77, ti77), (78, ti78), (80, ti80), (81, ti81), (82, ti82), (83, ti83), (84, ti84), (86, ti86), (87, ti87), (88, ti88), (89, ti89), (90, ti90), (91, ti91), (92, ti92), (93, ti93), (95, ti95), (96, ti96), (97, ti97), (98, ti98), (99, ti99), (100, ti100), (101, ti101), (102, ti102), (103, ti103), (104, ti104), (110, ti110), (111, ti111), (114, ti114), (115, ti115)]
theorem tab_ok : tab.all (tiB Try.prog) = true := by kernel_rfl
noncomputable def C : Ctx := mkCtx Try.prog (by kernel_rfl) tab tab_ok
theorem tt1 : C.tt 1 = some ti1 := by kernel_rfl
theorem tt2 : C.tt 2 = some ti2 := by kernel_rfl
theorem tt3 : C.tt 3 = some ti3 := by kernel_rfl
theorem tt4 : C.tt 4 = some ti4 := by kernel_rfl
theorem tt5 : C.tt 5 = some ti5 := by kernel_rfl
theorem tt9 : C.tt 9 = some ti9 := by kernel_rfl
theorem tt12 : C.tt 12 = some ti12 := by kernel_rfl
theorem tt15 : C.tt 15 = some ti15 := by kernel_rfl
theorem tt16 : C.tt 16 = some ti16 := by kernel_rfl
theorem tt17 : C.tt 17 = some ti17 := by kernel_rfl
theorem tt20 : C.tt 20 = some ti20 := by kernel_rfl
theorem tt21 : C.tt 21 = some ti21 := by kernel_rfl
theorem tt22 : C.tt 22 = some ti22 := by kernel_rfl
theorem tt23 : C.tt 23 = some ti23 := by kernel_rfl
theorem tt24 : C.tt 24 = some ti24 := by kernel_rfl
theorem tt25 : C.tt 25 = some ti25 := by kernel_rfl
theorem tt26 : C.tt 26 = some ti26 := by kernel_rfl
theorem tt27 : C.tt 27 = some ti27 := by kernel_rfl
theorem tt28 : C.tt 28 = some ti28 := by kernel_rfl
theorem tt29 : C.tt 29 = some ti29 := by kernel_rfl
theorem tt30 : C.tt 30 = some ti30 := by kernel_rfl
theorem tt31 : C.tt 31 = some ti31 := by kernel_rfl
theorem tt32 : C.tt 32 = some ti32 := by kernel_rfl
theorem tt34 : C.tt 34 = some ti34 := by kernel_rfl
theorem tt35 : C.tt 35 = some ti35 := by kernel_rfl
theorem tt36 : C.tt 36 = some ti36 := by kernel_rfl
theorem tt37 : C.tt 37 = some ti37 := by kernel_rfl
theorem tt38 : C.tt 38 = some ti38 := by kernel_rfl
theorem tt39 : C.tt 39 = some ti39 := by kernel_rfl
theorem tt40 : C.tt 40 = some ti40 := by kernel_rfl
theorem tt41 : C.tt 41 = some ti41 := by kernel_rfl
theorem tt42 : C.tt 42 = some ti42 := by kernel_rfl
theorem tt43 : C.tt 43 = some ti43 := by kernel_rfl
theorem tt44 : C.tt 44 = some ti44 := by kernel_rfl
theorem tt45 : C.tt 45 = some ti45 := by kernel_rfl
theorem tt46 : C.tt 46 = some ti46 := by kernel_rfl
theorem tt47 : C.tt 47 = some ti47 := by kernel_rfl
theorem tt48 : C.tt 48 = some ti48 := by kernel_rfl
theorem tt49 : C.tt 49 = some ti49 := by kernel_rfl
theorem tt50 : C.tt 50 = some ti50 := by kernel_rfl
theorem tt51 : C.tt 51 = some ti51 := by kernel_rfl
theorem tt52 : C.tt 52 = some ti52 := by kernel_rfl
theorem tt53 : C.tt 53 = some ti53 := by kernel_rfl
theorem tt54 : C.tt 54 = some ti54 := by kernel_rfl
theorem tt55 : C.tt 55 = some ti55 := by kernel_rfl
theorem tt56 : C.tt 56 = some ti56 := by kernel_rfl
theorem tt58 : C.tt 58 = some ti58 := by kernel_rfl
theorem tt59 : C.tt 59 = some ti59 := by kernel_rfl
theorem tt60 : C.tt 60 = some ti60 := by kernel_rfl
theorem tt61 : C.tt 61 = some ti61 := by kernel_rfl
theorem tt62 : C.tt 62 = some ti62 := by kernel_rfl
theorem tt63 : C.tt 63 = some ti63 := by kernel_rfl
theorem tt64 : C.tt 64 = some ti64 := by kernel_rfl
theorem tt65 : C.tt 65 = some ti65 := by kernel_rfl
theorem tt66 : C.tt 66 = some ti66 := by kernel_rfl
theorem tt68 : C.tt 68 = some ti68 := by kernel_rfl
theorem tt69 : C.tt 69 = some ti69 := by kernel_rfl
theorem tt70 : C.tt 70 = some ti70 := by kernel_rfl
theorem tt71 : C.tt 71 = some ti71 := by kernel_rfl
theorem tt73 : C.tt 73 = some ti73 := by kernel_rfl
theorem tt74 : C.tt 74 = some ti74 := by kernel_rfl
theorem tt75 : C.tt 75 = some ti75 := by kernel_rfl
theorem tt76 : C.tt 76 = some ti76 := by kernel_rfl
theorem tt77 : C.tt 77 = some ti77 := by kernel_rfl
theorem tt78 : C.tt 78 = some ti78 := by kernel_rfl
theorem tt80 : C.tt 80 = some ti80 := by kernel_rfl
theorem tt81 : C.tt 81 = some ti81 := by kernel_rfl
theorem tt82 : C.tt 82 = some ti82 := by kernel_rfl
theorem tt83 : C.tt 83 = some ti83 := by kernel_rfl
theorem tt84 : C.tt 84 = some ti84 := by kernel_rfl
theorem tt86 : C.tt 86 = some ti86 := by kernel_rfl
theorem tt87 : C.tt 87 = some ti87 := by kernel_rfl
theorem tt88 : C.tt 88 = some ti88 := by kernel_rfl
theorem tt89 : C.tt 89 = some ti89 := by kernel_rfl
theorem tt90 : C.tt 90 = some ti90 := by kernel_rfl
theorem tt91 : C.tt 91 = some ti91 := by kernel_rfl
theorem tt92 : C.tt 92 = some ti92 := by kernel_rfl
theorem tt93 : C.tt 93 = some ti93 := by kernel_rfl
theorem tt95 : C.tt 95 = some ti95 := by kernel_rfl
theorem tt96 : C.tt 96 = some ti96 := by kernel_rfl
theorem tt97 : C.tt 97 = some ti97 := by kernel_rfl
theorem tt98 : C.tt 98 = some ti98 := by kernel_rfl
theorem tt99 : C.tt 99 = some ti99 := by kernel_rfl
theorem tt100 : C.tt 100 = some ti100 := by kernel_rfl
theorem tt101 : C.tt 101 = some ti101 := by kernel_rfl
theorem tt102 : C.tt 102 = some ti102 := by kernel_rfl
theorem tt103 : C.tt 103 = some ti103 := by kernel_rfl
theorem tt104 : C.tt 104 = some ti104 := by kernel_rfl
theorem tt110 : C.tt 110 = some ti110 := by kernel_rfl
theorem tt111 : C.tt 111 = some ti111 := by kernel_rfl
theorem tt114 : C.tt 114 = some ti114 := by kernel_rfl
theorem tt115 : C.tt 115 = some ti115 := by kernel_rfl
end Go.Proofs.Ytbjbhoggbbhblaa
