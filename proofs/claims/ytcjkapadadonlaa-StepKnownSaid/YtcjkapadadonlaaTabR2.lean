/- The table of the types of the seat. Printed by tools/cltab.py. -/
import Derived.Test.YtcjkapadadonlaaChecked
import Derived.Test.YtcjkapadadonlaaCl19
set_option linter.unusedSimpArgs false
set_option linter.unusedVariables false
namespace Go.Proofs.Ytcjkapadadonlaa
open Go.Cl

abbrev sh1 : Shape := .s
abbrev z1 : CV := .sc .nilFunc
def ti1 : TI := ⟨.base (.func #[] #[] false), sh1, 8, z1⟩
abbrev sh2 : Shape := .s
abbrev z2 : CV := .sc (.int .i64 0)
def ti2 : TI := ⟨.base (.int .i64), sh2, 8, z2⟩
abbrev sh3 : Shape := .s
abbrev z3 : CV := .sc (.int .i64 0)
def ti3 : TI := ⟨.base (.int .i64), sh3, 8, z3⟩
abbrev sh4 : Shape := .s
abbrev z4 : CV := .sc (.bool false)
def ti4 : TI := ⟨.base (.bool), sh4, 1, z4⟩
abbrev sh5 : Shape := .s
abbrev z5 : CV := .sc (.int .u8 0)
def ti5 : TI := ⟨.base (.int .u8), sh5, 1, z5⟩
abbrev sh9 : Shape := .s
abbrev z9 : CV := .sc (.string ⟨#[]⟩)
def ti9 : TI := ⟨.base (.string), sh9, 16, z9⟩
abbrev sh12 : Shape := .s
abbrev z12 : CV := .sc (.int .u64 0)
def ti12 : TI := ⟨.base (.int .u64), sh12, 8, z12⟩
abbrev sh15 : Shape := .s
abbrev z15 : CV := .sc (.pointer none)
def ti15 : TI := ⟨.base (.pointer 176), sh15, 8, z15⟩
abbrev sh16 : Shape := .s
abbrev z16 : CV := .sc (.pointer none)
def ti16 : TI := ⟨.base (.pointer 179), sh16, 8, z16⟩
abbrev sh17 : Shape := .s
abbrev z17 : CV := .sc (.pointer none)
def ti17 : TI := ⟨.base (.pointer 188), sh17, 8, z17⟩
abbrev sh20 : Shape := .s
abbrev z20 : CV := .sc .nilIface
def ti20 : TI := ⟨.base (.interface #[]), sh20, 16, z20⟩
abbrev sh21 : Shape := .s
abbrev z21 : CV := .sc (.int .i32 0)
def ti21 : TI := ⟨.base (.int .i32), sh21, 4, z21⟩
abbrev sh22 : Shape := .s
abbrev z22 : CV := .sc (.float .f64 0)
def ti22 : TI := ⟨.base (.float .f64), sh22, 8, z22⟩
abbrev sh23 : Shape := .s
abbrev z23 : CV := .lst .nil []
def ti23 : TI := ⟨.base (.slice 65), sh23, 24, z23⟩
abbrev sh24 : Shape := .s
abbrev z24 : CV := .lst .nil []
def ti24 : TI := ⟨.base (.slice 3), sh24, 24, z24⟩
def sh25 : Shape := .n [sh3, sh3, sh3, sh3, sh3, sh3, sh22, sh22, sh23, sh24]
def z25 : CV := .agg [z3, z3, z3, z3, z3, z3, z22, z22, z23, z24]
def ti25 : TI := ⟨.st [(0, 1, 3), (1, 1, 3), (2, 1, 3), (3, 1, 3), (4, 1, 3), (5, 1, 3), (6, 1, 22), (7, 1, 22), (8, 1, 23), (9, 1, 24)], sh25, 112, z25⟩
def sh26 : Shape := .n [sh3, sh3, sh3, sh3, sh3, sh3, sh22, sh22, sh23, sh24]
def z26 : CV := .agg [z3, z3, z3, z3, z3, z3, z22, z22, z23, z24]
def ti26 : TI := ⟨.st [(0, 1, 3), (1, 1, 3), (2, 1, 3), (3, 1, 3), (4, 1, 3), (5, 1, 3), (6, 1, 22), (7, 1, 22), (8, 1, 23), (9, 1, 24)], sh26, 112, z26⟩
abbrev sh27 : Shape := .s
abbrev z27 : CV := .sc .nilFunc
def ti27 : TI := ⟨.base (.func #[] #[26] false), sh27, 8, z27⟩
abbrev sh28 : Shape := .s
abbrev z28 : CV := .sc (.int .u64 0)
def ti28 : TI := ⟨.base (.int .u64), sh28, 8, z28⟩
def sh29 : Shape := .n (List.replicate 4 sh3)
def z29 : CV := .agg (List.replicate 4 z3)
def ti29 : TI := ⟨.ar 4 1 3, sh29, 32, z29⟩
def sh30 : Shape := .n [sh3, sh3, sh3, sh3, sh3, sh3, sh3, sh29, sh3]
def z30 : CV := .agg [z3, z3, z3, z3, z3, z3, z3, z29, z3]
def ti30 : TI := ⟨.st [(0, 1, 3), (1, 1, 3), (2, 1, 3), (3, 1, 3), (4, 1, 3), (5, 1, 3), (6, 1, 3), (7, 4, 29), (11, 1, 3)], sh30, 96, z30⟩
def sh31 : Shape := .n [sh3, sh3, sh3, sh3, sh3, sh3, sh3, sh29, sh3]
def z31 : CV := .agg [z3, z3, z3, z3, z3, z3, z3, z29, z3]
def ti31 : TI := ⟨.st [(0, 1, 3), (1, 1, 3), (2, 1, 3), (3, 1, 3), (4, 1, 3), (5, 1, 3), (6, 1, 3), (7, 4, 29), (11, 1, 3)], sh31, 96, z31⟩
def sh32 : Shape := .n (List.replicate 16 sh31)
def z32 : CV := .agg (List.replicate 16 z31)
def ti32 : TI := ⟨.ar 16 12 31, sh32, 1536, z32⟩
def sh33 : Shape := .n (List.replicate 8 sh3)
def z33 : CV := .agg (List.replicate 8 z3)
def ti33 : TI := ⟨.ar 8 1 3, sh33, 64, z33⟩
def sh34 : Shape := .n [sh3, sh28, sh32, sh33]
def z34 : CV := .agg [z3, z28, z32, z33]
def ti34 : TI := ⟨.st [(0, 1, 3), (1, 1, 28), (2, 192, 32), (194, 8, 33)], sh34, 1616, z34⟩
def sh35 : Shape := .n [sh3, sh28, sh32, sh33]
def z35 : CV := .agg [z3, z28, z32, z33]
def ti35 : TI := ⟨.st [(0, 1, 3), (1, 1, 28), (2, 192, 32), (194, 8, 33)], sh35, 1616, z35⟩
abbrev sh36 : Shape := .s
abbrev z36 : CV := .sc .nilFunc
def ti36 : TI := ⟨.base (.func #[26] #[35] false), sh36, 8, z36⟩
abbrev sh37 : Shape := .s
abbrev z37 : CV := .lst .nil []
def ti37 : TI := ⟨.base (.slice 5), sh37, 24, z37⟩
abbrev sh38 : Shape := .s
abbrev z38 : CV := .sc (.int .i64 0)
def ti38 : TI := ⟨.base (.int .i64), sh38, 8, z38⟩
abbrev sh40 : Shape := .s
abbrev z40 : CV := .sc .nilFunc
def ti40 : TI := ⟨.base (.func #[26, 35] #[37, 38] false), sh40, 8, z40⟩
abbrev sh41 : Shape := .s
abbrev z41 : CV := .sc .nilFunc
def ti41 : TI := ⟨.base (.func #[] #[4] false), sh41, 8, z41⟩
abbrev sh43 : Shape := .s
abbrev z43 : CV := .sc .nilFunc
def ti43 : TI := ⟨.base (.func #[26, 37] #[35, 38] false), sh43, 8, z43⟩
abbrev sh44 : Shape := .s
abbrev z44 : CV := .sc .nilFunc
def ti44 : TI := ⟨.base (.func #[35, 35] #[4] false), sh44, 8, z44⟩
abbrev sh45 : Shape := .s
abbrev z45 : CV := .sc .nilFunc
def ti45 : TI := ⟨.base (.func #[26, 35] #[3] false), sh45, 8, z45⟩
abbrev sh46 : Shape := .s
abbrev z46 : CV := .sc .nilFunc
def ti46 : TI := ⟨.base (.func #[37] #[3] false), sh46, 8, z46⟩
def sh47 : Shape := .n [sh3, sh3, sh3]
def z47 : CV := .agg [z3, z3, z3]
def ti47 : TI := ⟨.st [(0, 1, 3), (1, 1, 3), (2, 1, 3)], sh47, 24, z47⟩
def sh48 : Shape := .n [sh3, sh3, sh3]
def z48 : CV := .agg [z3, z3, z3]
def ti48 : TI := ⟨.st [(0, 1, 3), (1, 1, 3), (2, 1, 3)], sh48, 24, z48⟩
abbrev sh49 : Shape := .s
abbrev z49 : CV := .lst .nil []
def ti49 : TI := ⟨.base (.slice 48), sh49, 24, z49⟩
abbrev sh50 : Shape := .s
abbrev z50 : CV := .lst .nil []
def ti50 : TI := ⟨.base (.slice 55), sh50, 24, z50⟩
def sh51 : Shape := .n [sh3, sh3, sh3, sh3, sh4, sh28, sh3, sh3, sh49, sh3, sh50, sh3, sh3]
def z51 : CV := .agg [z3, z3, z3, z3, z4, z28, z3, z3, z49, z3, z50, z3, z3]
def ti51 : TI := ⟨.st [(0, 1, 3), (1, 1, 3), (2, 1, 3), (3, 1, 3), (4, 1, 4), (5, 1, 28), (6, 1, 3), (7, 1, 3), (8, 1, 49), (9, 1, 3), (10, 1, 50), (11, 1, 3), (12, 1, 3)], sh51, 136, z51⟩
def sh52 : Shape := .n [sh3, sh3, sh3, sh3, sh4, sh28, sh3, sh3, sh49, sh3, sh50, sh3, sh3]
def z52 : CV := .agg [z3, z3, z3, z3, z4, z28, z3, z3, z49, z3, z50, z3, z3]
def ti52 : TI := ⟨.st [(0, 1, 3), (1, 1, 3), (2, 1, 3), (3, 1, 3), (4, 1, 4), (5, 1, 28), (6, 1, 3), (7, 1, 3), (8, 1, 49), (9, 1, 3), (10, 1, 50), (11, 1, 3), (12, 1, 3)], sh52, 136, z52⟩
def sh53 : Shape := .n [sh4, sh48]
def z53 : CV := .agg [z4, z48]
def ti53 : TI := ⟨.st [(0, 1, 4), (1, 3, 48)], sh53, 32, z53⟩
def sh54 : Shape := .n [sh4, sh48]
def z54 : CV := .agg [z4, z48]
def ti54 : TI := ⟨.st [(0, 1, 4), (1, 3, 48)], sh54, 32, z54⟩
abbrev sh55 : Shape := .s
abbrev z55 : CV := .lst .nil []
def ti55 : TI := ⟨.base (.slice 54), sh55, 24, z55⟩
abbrev sh56 : Shape := .s
abbrev z56 : CV := .sc .nilFunc
def ti56 : TI := ⟨.base (.func #[3, 52] #[37, 38] false), sh56, 8, z56⟩
abbrev sh58 : Shape := .s
abbrev z58 : CV := .sc .nilFunc
def ti58 : TI := ⟨.base (.func #[3, 37] #[52, 38] false), sh58, 8, z58⟩
abbrev sh59 : Shape := .s
abbrev z59 : CV := .sc .nilFunc
def ti59 : TI := ⟨.base (.func #[3, 37] #[37] false), sh59, 8, z59⟩
abbrev sh61 : Shape := .s
abbrev z61 : CV := .sc .nilFunc
def ti61 : TI := ⟨.base (.func #[37] #[3, 4] false), sh61, 8, z61⟩
abbrev sh62 : Shape := .s
abbrev z62 : CV := .sc .nilFunc
def ti62 : TI := ⟨.base (.func #[52, 52] #[4] false), sh62, 8, z62⟩
abbrev sh63 : Shape := .s
abbrev z63 : CV := .sc .nilFunc
def ti63 : TI := ⟨.base (.func #[52] #[4] false), sh63, 8, z63⟩
def sh64 : Shape := .n [sh3, sh3, sh3]
def z64 : CV := .agg [z3, z3, z3]
def ti64 : TI := ⟨.st [(0, 1, 3), (1, 1, 3), (2, 1, 3)], sh64, 24, z64⟩
def sh65 : Shape := .n [sh3, sh3, sh3]
def z65 : CV := .agg [z3, z3, z3]
def ti65 : TI := ⟨.st [(0, 1, 3), (1, 1, 3), (2, 1, 3)], sh65, 24, z65⟩
abbrev sh66 : Shape := .s
abbrev z66 : CV := .sc .nilFunc
def ti66 : TI := ⟨.base (.func #[3, 23] #[26] true), sh66, 8, z66⟩
abbrev sh67 : Shape := .s
abbrev z67 : CV := .sc .nilFunc
def ti67 : TI := ⟨.base (.func #[26, 35, 55] #[35] false), sh67, 8, z67⟩
abbrev sh68 : Shape := .s
abbrev z68 : CV := .sc .nilFunc
def ti68 : TI := ⟨.base (.func #[3, 3, 3] #[54] false), sh68, 8, z68⟩
abbrev sh69 : Shape := .s
abbrev z69 : CV := .sc .nilFunc
def ti69 : TI := ⟨.base (.func #[26, 35, 50] #[35] false), sh69, 8, z69⟩
abbrev sh70 : Shape := .s
abbrev z70 : CV := .sc .nilFunc
def ti70 : TI := ⟨.base (.func #[26] #[4] false), sh70, 8, z70⟩
abbrev sh71 : Shape := .s
abbrev z71 : CV := .sc .nilFunc
def ti71 : TI := ⟨.base (.func #[26, 35] #[4] false), sh71, 8, z71⟩
abbrev sh72 : Shape := .s
abbrev z72 : CV := .sc .nilFunc
def ti72 : TI := ⟨.base (.func #[3] #[28] false), sh72, 8, z72⟩
abbrev sh73 : Shape := .s
abbrev z73 : CV := .sc .nilFunc
def ti73 : TI := ⟨.base (.func #[3, 3] #[31] false), sh73, 8, z73⟩
abbrev sh74 : Shape := .s
abbrev z74 : CV := .sc (.pointer none)
def ti74 : TI := ⟨.base (.pointer 113), sh74, 8, z74⟩
abbrev sh75 : Shape := .s
abbrev z75 : CV := .sc .nilFunc
def ti75 : TI := ⟨.base (.func #[] #[74] false), sh75, 8, z75⟩
abbrev sh76 : Shape := .s
abbrev z76 : CV := .sc .nilFunc
def ti76 : TI := ⟨.base (.func #[28, 3] #[] false), sh76, 8, z76⟩
abbrev sh77 : Shape := .s
abbrev z77 : CV := .sc .nilFunc
def ti77 : TI := ⟨.base (.func #[74, 31] #[] false), sh77, 8, z77⟩
abbrev sh78 : Shape := .s
abbrev z78 : CV := .sc .nilFunc
def ti78 : TI := ⟨.base (.func #[] #[37] false), sh78, 8, z78⟩
def sh79 : Shape := .n [sh3, sh3]
def z79 : CV := .agg [z3, z3]
def ti79 : TI := ⟨.st [(0, 1, 3), (1, 1, 3)], sh79, 16, z79⟩
def sh80 : Shape := .n [sh3, sh3]
def z80 : CV := .agg [z3, z3]
def ti80 : TI := ⟨.st [(0, 1, 3), (1, 1, 3)], sh80, 16, z80⟩
abbrev sh82 : Shape := .s
abbrev z82 : CV := .sc .nilFunc
def ti82 : TI := ⟨.base (.func #[1] #[80, 4] false), sh82, 8, z82⟩
abbrev sh83 : Shape := .s
abbrev z83 : CV := .sc .nilFunc
def ti83 : TI := ⟨.base (.func #[26, 84] #[35] false), sh83, 8, z83⟩
abbrev sh84 : Shape := .s
abbrev z84 : CV := .sc (.pointer none)
def ti84 : TI := ⟨.base (.pointer 122), sh84, 8, z84⟩
abbrev sh85 : Shape := .s
abbrev z85 : CV := .sc .nilFunc
def ti85 : TI := ⟨.base (.func #[37] #[84] false), sh85, 8, z85⟩
abbrev sh86 : Shape := .s
abbrev z86 : CV := .sc .nilFunc
def ti86 : TI := ⟨.base (.func #[37, 37] #[4] false), sh86, 8, z86⟩
abbrev sh87 : Shape := .s
abbrev z87 : CV := .sc .nilFunc
def ti87 : TI := ⟨.base (.func #[3, 37] #[3] false), sh87, 8, z87⟩
abbrev sh88 : Shape := .s
abbrev z88 : CV := .sc (.int .u64 0)
def ti88 : TI := ⟨.base (.int .u64), sh88, 8, z88⟩
abbrev sh89 : Shape := .s
abbrev z89 : CV := .sc .nilFunc
def ti89 : TI := ⟨.base (.func #[52] #[37] false), sh89, 8, z89⟩
abbrev sh91 : Shape := .s
abbrev z91 : CV := .sc .nilFunc
def ti91 : TI := ⟨.base (.func #[3, 37] #[37, 4] false), sh91, 8, z91⟩
abbrev sh92 : Shape := .s
abbrev z92 : CV := .sc .nilFunc
def ti92 : TI := ⟨.base (.func #[84] #[52] false), sh92, 8, z92⟩
abbrev sh93 : Shape := .s
abbrev z93 : CV := .sc .nilFunc
def ti93 : TI := ⟨.base (.func #[3] #[37] false), sh93, 8, z93⟩
abbrev sh94 : Shape := .s
abbrev z94 : CV := .sc .nilFunc
def ti94 : TI := ⟨.base (.func #[50, 50, 95] #[4] false), sh94, 8, z94⟩
abbrev sh95 : Shape := .s
abbrev z95 : CV := .sc .nilFunc
def ti95 : TI := ⟨.base (.func #[55, 55] #[4] false), sh95, 8, z95⟩
abbrev sh96 : Shape := .s
abbrev z96 : CV := .sc .nilFunc
def ti96 : TI := ⟨.base (.func #[49, 49] #[4] false), sh96, 8, z96⟩
abbrev sh97 : Shape := .s
abbrev z97 : CV := .sc .nilFunc
def ti97 : TI := ⟨.base (.func #[52] #[52] false), sh97, 8, z97⟩
abbrev sh98 : Shape := .s
abbrev z98 : CV := .sc .nilFunc
def ti98 : TI := ⟨.base (.func #[3, 3, 3] #[4] false), sh98, 8, z98⟩
abbrev sh99 : Shape := .s
abbrev z99 : CV := .sc .nilFunc
def ti99 : TI := ⟨.base (.func #[49, 100] #[4] false), sh99, 8, z99⟩
abbrev sh100 : Shape := .s
abbrev z100 : CV := .sc .nilFunc
def ti100 : TI := ⟨.base (.func #[48] #[4] false), sh100, 8, z100⟩
abbrev sh101 : Shape := .s
abbrev z101 : CV := .sc .nilFunc
def ti101 : TI := ⟨.base (.func #[50, 3] #[4] false), sh101, 8, z101⟩
abbrev sh102 : Shape := .s
abbrev z102 : CV := .sc (.pointer none)
def ti102 : TI := ⟨.base (.pointer 105), sh102, 8, z102⟩
abbrev sh103 : Shape := .s
abbrev z103 : CV := .lst .nil []
def ti103 : TI := ⟨.base (.slice 31), sh103, 24, z103⟩
def sh104 : Shape := .n [sh26, sh35, sh55, sh103]
def z104 : CV := .agg [z26, z35, z55, z103]
def ti104 : TI := ⟨.st [(0, 10, 26), (10, 202, 35), (212, 1, 55), (213, 1, 103)], sh104, 1776, z104⟩
def sh105 : Shape := .n [sh26, sh35, sh55, sh103]
def z105 : CV := .agg [z26, z35, z55, z103]
def ti105 : TI := ⟨.st [(0, 10, 26), (10, 202, 35), (212, 1, 55), (213, 1, 103)], sh105, 1776, z105⟩
abbrev sh106 : Shape := .s
abbrev z106 : CV := .sc (.pointer none)
def ti106 : TI := ⟨.base (.pointer 138), sh106, 8, z106⟩
abbrev sh108 : Shape := .s
abbrev z108 : CV := .sc .nilFunc
def ti108 : TI := ⟨.base (.func #[22, 22] #[106, 38] false), sh108, 8, z108⟩
abbrev sh109 : Shape := .s
abbrev z109 : CV := .sc .nilFunc
def ti109 : TI := ⟨.base (.func #[23] #[4] false), sh109, 8, z109⟩
abbrev sh110 : Shape := .s
abbrev z110 : CV := .sc .nilFunc
def ti110 : TI := ⟨.base (.func #[26, 3, 31] #[4] false), sh110, 8, z110⟩
abbrev sh111 : Shape := .s
abbrev z111 : CV := .sc .nilFunc
def ti111 : TI := ⟨.base (.func #[3, 3, 3] #[3] false), sh111, 8, z111⟩
def sh112 : Shape := .n [sh37, sh3]
def z112 : CV := .agg [z37, z3]
def ti112 : TI := ⟨.st [(0, 1, 37), (1, 1, 3)], sh112, 32, z112⟩
def sh113 : Shape := .n [sh37, sh3]
def z113 : CV := .agg [z37, z3]
def ti113 : TI := ⟨.st [(0, 1, 37), (1, 1, 3)], sh113, 32, z113⟩
abbrev sh114 : Shape := .s
abbrev z114 : CV := .sc .nilFunc
def ti114 : TI := ⟨.base (.func #[3] #[3] false), sh114, 8, z114⟩
abbrev sh115 : Shape := .s
abbrev z115 : CV := .sc .nilFunc
def ti115 : TI := ⟨.base (.func #[28] #[] false), sh115, 8, z115⟩
abbrev sh116 : Shape := .s
abbrev z116 : CV := .sc .nilFunc
def ti116 : TI := ⟨.base (.func #[3, 3] #[] false), sh116, 8, z116⟩
abbrev sh117 : Shape := .s
abbrev z117 : CV := .sc .nilFunc
def ti117 : TI := ⟨.base (.func #[37] #[37] false), sh117, 8, z117⟩
def sh118 : Shape := .n [sh80]
def z118 : CV := .agg [z80]
def ti118 : TI := ⟨.st [(0, 2, 80)], sh118, 16, z118⟩
def sh119 : Shape := .n [sh80]
def z119 : CV := .agg [z80]
def ti119 : TI := ⟨.st [(0, 2, 80)], sh119, 16, z119⟩
abbrev sh120 : Shape := .s
abbrev z120 : CV := .sc .nilFunc
def ti120 : TI := ⟨.base (.func #[84] #[31] false), sh120, 8, z120⟩
def sh121 : Shape := .n [sh37, sh3]
def z121 : CV := .agg [z37, z3]
def ti121 : TI := ⟨.st [(0, 1, 37), (1, 1, 3)], sh121, 32, z121⟩
def sh122 : Shape := .n [sh37, sh3]
def z122 : CV := .agg [z37, z3]
def ti122 : TI := ⟨.st [(0, 1, 37), (1, 1, 3)], sh122, 32, z122⟩
abbrev sh123 : Shape := .s
abbrev z123 : CV := .sc .nilFunc
def ti123 : TI := ⟨.base (.func #[74, 4] #[] false), sh123, 8, z123⟩
abbrev sh124 : Shape := .s
abbrev z124 : CV := .sc .nilFunc
def ti124 : TI := ⟨.base (.func #[74, 48] #[] false), sh124, 8, z124⟩
abbrev sh125 : Shape := .s
abbrev z125 : CV := .sc .nilFunc
def ti125 : TI := ⟨.base (.func #[74, 52] #[] false), sh125, 8, z125⟩
abbrev sh126 : Shape := .s
abbrev z126 : CV := .sc .nilFunc
def ti126 : TI := ⟨.base (.func #[84] #[48] false), sh126, 8, z126⟩
abbrev sh127 : Shape := .s
abbrev z127 : CV := .sc .nilFunc
def ti127 : TI := ⟨.base (.func #[84, 128] #[] false), sh127, 8, z127⟩
abbrev sh128 : Shape := .s
abbrev z128 : CV := .sc (.pointer none)
def ti128 : TI := ⟨.base (.pointer 52), sh128, 8, z128⟩
abbrev sh129 : Shape := .s
abbrev z129 : CV := .sc .nilFunc
def ti129 : TI := ⟨.base (.func #[49, 100] #[3] false), sh129, 8, z129⟩
abbrev sh130 : Shape := .s
abbrev z130 : CV := .sc .nilFunc
def ti130 : TI := ⟨.base (.func #[55, 131] #[4] false), sh130, 8, z130⟩
abbrev sh131 : Shape := .s
abbrev z131 : CV := .sc .nilFunc
def ti131 : TI := ⟨.base (.func #[54] #[4] false), sh131, 8, z131⟩
abbrev sh132 : Shape := .s
abbrev z132 : CV := .sc .nilFunc
def ti132 : TI := ⟨.base (.func #[31] #[31] false), sh132, 8, z132⟩
abbrev sh134 : Shape := .s
abbrev z134 : CV := .sc .nilFunc
def ti134 : TI := ⟨.base (.func #[31] #[31, 4] false), sh134, 8, z134⟩
abbrev sh135 : Shape := .s
abbrev z135 : CV := .sc .nilFunc
def ti135 : TI := ⟨.base (.func #[31] #[3] false), sh135, 8, z135⟩
abbrev sh136 : Shape := .s
abbrev z136 : CV := .sc .nilFunc
def ti136 : TI := ⟨.base (.func #[22] #[4] false), sh136, 8, z136⟩
def sh137 : Shape := .n [sh22, sh22, sh22, sh3]
def z137 : CV := .agg [z22, z22, z22, z3]
def ti137 : TI := ⟨.st [(0, 1, 22), (1, 1, 22), (2, 1, 22), (3, 1, 3)], sh137, 32, z137⟩
def sh138 : Shape := .n [sh22, sh22, sh22, sh3]
def z138 : CV := .agg [z22, z22, z22, z3]
def ti138 : TI := ⟨.st [(0, 1, 22), (1, 1, 22), (2, 1, 22), (3, 1, 3)], sh138, 32, z138⟩
abbrev sh139 : Shape := .s
abbrev z139 : CV := .sc .nilFunc
def ti139 : TI := ⟨.base (.func #[23, 140] #[4] false), sh139, 8, z139⟩
abbrev sh140 : Shape := .s
abbrev z140 : CV := .sc .nilFunc
def ti140 : TI := ⟨.base (.func #[65] #[4] false), sh140, 8, z140⟩
abbrev sh141 : Shape := .s
abbrev z141 : CV := .sc (.map none)
def ti141 : TI := ⟨.base (.map 3 4), sh141, 8, z141⟩
abbrev sh142 : Shape := .s
abbrev z142 : CV := .sc .nilFunc
def ti142 : TI := ⟨.base (.func #[31] #[4] false), sh142, 8, z142⟩
abbrev sh143 : Shape := .s
abbrev z143 : CV := .sc .nilFunc
def ti143 : TI := ⟨.base (.func #[4, 3, 3] #[] false), sh143, 8, z143⟩
abbrev sh144 : Shape := .s
abbrev z144 : CV := .sc .nilFunc
def ti144 : TI := ⟨.base (.func #[] #[3] false), sh144, 8, z144⟩
abbrev sh145 : Shape := .s
abbrev z145 : CV := .sc .nilFunc
def ti145 : TI := ⟨.base (.func #[50] #[55] true), sh145, 8, z145⟩
abbrev sh146 : Shape := .s
abbrev z146 : CV := .sc .nilFunc
def ti146 : TI := ⟨.base (.func #[55, 131] #[3] false), sh146, 8, z146⟩
abbrev sh147 : Shape := .s
abbrev z147 : CV := .sc .nilFunc
def ti147 : TI := ⟨.base (.func #[3] #[48] false), sh147, 8, z147⟩
abbrev sh148 : Shape := .s
abbrev z148 : CV := .sc .nilFunc
def ti148 : TI := ⟨.base (.func #[31, 3, 3] #[31] false), sh148, 8, z148⟩
def sh149 : Shape := .n [sh31, sh48, sh28, sh3, sh103]
def z149 : CV := .agg [z31, z48, z28, z3, z103]
def ti149 : TI := ⟨.st [(0, 12, 31), (12, 3, 48), (15, 1, 28), (16, 1, 3), (17, 1, 103)], sh149, 160, z149⟩
def sh150 : Shape := .n [sh31, sh48, sh28, sh3, sh103]
def z150 : CV := .agg [z31, z48, z28, z3, z103]
def ti150 : TI := ⟨.st [(0, 12, 31), (12, 3, 48), (15, 1, 28), (16, 1, 3), (17, 1, 103)], sh150, 160, z150⟩
abbrev sh152 : Shape := .s
abbrev z152 : CV := .sc .nilFunc
def ti152 : TI := ⟨.base (.func #[23, 150] #[150, 80, 4] false), sh152, 8, z152⟩
abbrev sh154 : Shape := .s
abbrev z154 : CV := .sc .nilFunc
def ti154 : TI := ⟨.base (.func #[3, 3] #[3, 3] false), sh154, 8, z154⟩
abbrev sh155 : Shape := .s
abbrev z155 : CV := .sc .nilFunc
def ti155 : TI := ⟨.base (.func #[31, 31] #[4] false), sh155, 8, z155⟩
abbrev sh156 : Shape := .s
abbrev z156 : CV := .sc .nilFunc
def ti156 : TI := ⟨.base (.func #[22, 3] #[4] false), sh156, 8, z156⟩
abbrev sh157 : Shape := .s
abbrev z157 : CV := .sc .nilFunc
def ti157 : TI := ⟨.base (.func #[23, 140] #[3] false), sh157, 8, z157⟩
abbrev sh158 : Shape := .s
abbrev z158 : CV := .sc .nilFunc
def ti158 : TI := ⟨.base (.func #[55, 3] #[55] false), sh158, 8, z158⟩
abbrev sh159 : Shape := .s
abbrev z159 : CV := .sc .nilFunc
def ti159 : TI := ⟨.base (.func #[150] #[150] false), sh159, 8, z159⟩
abbrev sh160 : Shape := .s
abbrev z160 : CV := .sc (.pointer none)
def ti160 : TI := ⟨.base (.pointer 162), sh160, 8, z160⟩
def sh161 : Shape := .n [sh150, sh23, sh3]
def z161 : CV := .agg [z150, z23, z3]
def ti161 : TI := ⟨.st [(0, 18, 150), (18, 1, 23), (19, 1, 3)], sh161, 192, z161⟩
def sh162 : Shape := .n [sh150, sh23, sh3]
def z162 : CV := .agg [z150, z23, z3]
def ti162 : TI := ⟨.st [(0, 18, 150), (18, 1, 23), (19, 1, 3)], sh162, 192, z162⟩
abbrev sh163 : Shape := .s
abbrev z163 : CV := .sc .nilFunc
def ti163 : TI := ⟨.base (.func #[22] #[22] false), sh163, 8, z163⟩
abbrev sh164 : Shape := .s
abbrev z164 : CV := .sc .nilFunc
def ti164 : TI := ⟨.base (.func #[103] #[103] false), sh164, 8, z164⟩
abbrev sh165 : Shape := .s
abbrev z165 : CV := .sc .nilFunc
def ti165 : TI := ⟨.base (.func #[4, 3] #[] false), sh165, 8, z165⟩
abbrev sh166 : Shape := .s
abbrev z166 : CV := .sc .nilFunc
def ti166 : TI := ⟨.base (.func #[65] #[3] false), sh166, 8, z166⟩
abbrev sh167 : Shape := .s
abbrev z167 : CV := .sc .nilFunc
def ti167 : TI := ⟨.base (.func #[28] #[22] false), sh167, 8, z167⟩
abbrev sh168 : Shape := .s
abbrev z168 : CV := .sc .nilFunc
def ti168 : TI := ⟨.base (.func #[22] #[28] false), sh168, 8, z168⟩
abbrev sh169 : Shape := .s
abbrev z169 : CV := .sc .nilFunc
def ti169 : TI := ⟨.base (.func #[65] #[] false), sh169, 8, z169⟩
abbrev sh170 : Shape := .s
abbrev z170 : CV := .sc (.pointer none)
def ti170 : TI := ⟨.base (.pointer 31), sh170, 8, z170⟩
abbrev sh172 : Shape := .s
abbrev z172 : CV := .sc .nilFunc
def ti172 : TI := ⟨.base (.func #[28, 3] #[28, 3] false), sh172, 8, z172⟩
abbrev sh173 : Shape := .s
abbrev z173 : CV := .sc .nilFunc
def ti173 : TI := ⟨.base (.func #[28] #[28, 3] false), sh173, 8, z173⟩
abbrev sh174 : Shape := .s
abbrev z174 : CV := .sc .nilFunc
def ti174 : TI := ⟨.base (.func #[] #[9] false), sh174, 8, z174⟩
abbrev sh180 : Shape := .s
abbrev z180 : CV := .sc (.int .u32 0)
def ti180 : TI := ⟨.base (.int .u32), sh180, 4, z180⟩
abbrev sh183 : Shape := .s
abbrev z183 : CV := .sc .nilFunc
def ti183 : TI := ⟨.base (.func #[190, 190] #[4] false), sh183, 8, z183⟩
abbrev sh184 : Shape := .s
abbrev z184 : CV := .sc (.pointer none)
def ti184 : TI := ⟨.base (.pointer 5), sh184, 8, z184⟩
abbrev sh189 : Shape := .s
abbrev z189 : CV := .sc .nilFunc
def ti189 : TI := ⟨.base (.func #[] #[22] false), sh189, 8, z189⟩
def tab : List (TypeId × TI) := [(1, ti1), (2, ti2), (3, ti3), (4, ti4), (5, ti5), (9, ti9), (12, ti12), (15, ti15), (16, ti16), (17, ti17), (20, ti20), (21, ti21), (22, ti22), (23, ti23), (24, ti24), (25, ti25), (26, ti26), (27, ti27), (28, ti28), (29, ti29), (30, ti30), (31, ti31), (32, ti32), (33, ti33), (34, ti34), (35, ti35), (36, ti36), (37, ti37), (38, ti38), (40, ti40), (41, ti41), (43, ti43), (44, ti44), (45, ti45), (46, ti46), (47, ti47), (48, ti48), (49, ti49), (50, ti50), (51, ti51), (52, ti52), (53, ti53), (54, ti54), (55, ti55), (56, ti56), (58, ti58), (59, ti59), (61, ti61), (62, ti62), (63, ti63), (64, ti64), (65, ti65), (66, ti66), (67, ti67), (68, ti68), (69, ti69), (70, ti70), (71, ti71), (72, ti72), (73, ti73), (74, ti74), (75, ti75), (76, ti76), (77, ti77), (78, ti78), (79, ti79), (80, ti80), (82, ti82), (83, ti83), (84, ti84), (85, ti85), (86, ti86), (87, ti87), (88, ti88), (89, ti89), (91, ti91), (92, ti92), (93, ti93), (94, ti94), (95, ti95), (96, ti96), (97, ti97), (98, ti98), (99, ti99), (100, ti100), (101, ti101), (102, ti102), (103, ti103), (104, ti104), (105, ti105), (106, ti106), (108, ti108), (109, ti109), (110, ti110), (111, ti111), (112, ti112), (113, ti113), (114, ti114), (115, ti115), (116, ti116), (117, ti117), (118, ti118), (119, ti119), (120, ti120), (121, ti121), (122, ti122), (123, ti123), (124, ti124), (125, ti125), (126, ti126), (127, ti127), (128, ti128), (129, ti129), (130, ti130), (131, ti131), (132, ti132), (134, ti134), (135, ti135), (136, ti136), (137, ti137), (138, ti138), (139, ti139), (140, ti140), (141, ti141), (142, ti142), (143, ti143), (144, ti144), (145, ti145), (146, ti146), (147, ti147), (148, ti148), (149, ti149), (150, ti150), (152, ti152), (154, ti154), (155, ti155), (156, ti156), (157, ti157), (158, ti158), (159, ti159), (160, ti160), (161, ti161), (162, ti162), (163, ti163), (164, ti164), (165, ti165), (166, ti166), (167, ti167), (168, ti168), (169, ti169), (170, ti170), (172, ti172), (173, ti173), (174, ti174), (180, ti180), (183, ti183), (184, ti184), (189, ti189)]
theorem tab_ok : tab.all (tiB Try.prog) = true := by kernel_rfl
noncomputable def C : Ctx := mkCtx Try.prog (by kernel_rfl) tab tab_ok
theorem tt1 : C.tt 1 = some ti1 := by kernel_rfl
theorem tt2 : C.tt 2 = some ti2 := by kernel_rfl
theorem tt3 : C.tt 3 = some ti3 := by kernel_rfl
theorem tt4 : C.tt 4 = some ti4 := by kernel_rfl
theorem tt5 : C.tt 5 = some ti5 := by kernel_rfl
theorem tt9 : C.tt 9 = some ti9 := by kernel_rfl
theorem tt12 : C.tt 12 = some ti12 := by kernel_rfl
theorem tt15 : C.tt 15 = some ti15 := by kernel_rfl
theorem tt16 : C.tt 16 = some ti16 := by kernel_rfl
theorem tt17 : C.tt 17 = some ti17 := by kernel_rfl
theorem tt20 : C.tt 20 = some ti20 := by kernel_rfl
theorem tt21 : C.tt 21 = some ti21 := by kernel_rfl
theorem tt22 : C.tt 22 = some ti22 := by kernel_rfl
theorem tt23 : C.tt 23 = some ti23 := by kernel_rfl
theorem tt24 : C.tt 24 = some ti24 := by kernel_rfl
theorem tt25 : C.tt 25 = some ti25 := by kernel_rfl
theorem tt26 : C.tt 26 = some ti26 := by kernel_rfl
theorem tt27 : C.tt 27 = some ti27 := by kernel_rfl
theorem tt28 : C.tt 28 = some ti28 := by kernel_rfl
theorem tt29 : C.tt 29 = some ti29 := by kernel_rfl
theorem tt30 : C.tt 30 = some ti30 := by kernel_rfl
theorem tt31 : C.tt 31 = some ti31 := by kernel_rfl
theorem tt32 : C.tt 32 = some ti32 := by kernel_rfl
theorem tt33 : C.tt 33 = some ti33 := by kernel_rfl
theorem tt34 : C.tt 34 = some ti34 := by kernel_rfl
theorem tt35 : C.tt 35 = some ti35 := by kernel_rfl
theorem tt36 : C.tt 36 = some ti36 := by kernel_rfl
theorem tt37 : C.tt 37 = some ti37 := by kernel_rfl
theorem tt38 : C.tt 38 = some ti38 := by kernel_rfl
theorem tt40 : C.tt 40 = some ti40 := by kernel_rfl
theorem tt41 : C.tt 41 = some ti41 := by kernel_rfl
theorem tt43 : C.tt 43 = some ti43 := by kernel_rfl
theorem tt44 : C.tt 44 = some ti44 := by kernel_rfl
theorem tt45 : C.tt 45 = some ti45 := by kernel_rfl
theorem tt46 : C.tt 46 = some ti46 := by kernel_rfl
theorem tt47 : C.tt 47 = some ti47 := by kernel_rfl
theorem tt48 : C.tt 48 = some ti48 := by kernel_rfl
theorem tt49 : C.tt 49 = some ti49 := by kernel_rfl
theorem tt50 : C.tt 50 = some ti50 := by kernel_rfl
theorem tt51 : C.tt 51 = some ti51 := by kernel_rfl
theorem tt52 : C.tt 52 = some ti52 := by kernel_rfl
theorem tt53 : C.tt 53 = some ti53 := by kernel_rfl
theorem tt54 : C.tt 54 = some ti54 := by kernel_rfl
theorem tt55 : C.tt 55 = some ti55 := by kernel_rfl
theorem tt56 : C.tt 56 = some ti56 := by kernel_rfl
theorem tt58 : C.tt 58 = some ti58 := by kernel_rfl
theorem tt59 : C.tt 59 = some ti59 := by kernel_rfl
theorem tt61 : C.tt 61 = some ti61 := by kernel_rfl
theorem tt62 : C.tt 62 = some ti62 := by kernel_rfl
theorem tt63 : C.tt 63 = some ti63 := by kernel_rfl
theorem tt64 : C.tt 64 = some ti64 := by kernel_rfl
theorem tt65 : C.tt 65 = some ti65 := by kernel_rfl
theorem tt66 : C.tt 66 = some ti66 := by kernel_rfl
theorem tt67 : C.tt 67 = some ti67 := by kernel_rfl
theorem tt68 : C.tt 68 = some ti68 := by kernel_rfl
theorem tt69 : C.tt 69 = some ti69 := by kernel_rfl
theorem tt70 : C.tt 70 = some ti70 := by kernel_rfl
theorem tt71 : C.tt 71 = some ti71 := by kernel_rfl
theorem tt72 : C.tt 72 = some ti72 := by kernel_rfl
theorem tt73 : C.tt 73 = some ti73 := by kernel_rfl
theorem tt74 : C.tt 74 = some ti74 := by kernel_rfl
theorem tt75 : C.tt 75 = some ti75 := by kernel_rfl
theorem tt76 : C.tt 76 = some ti76 := by kernel_rfl
theorem tt77 : C.tt 77 = some ti77 := by kernel_rfl
theorem tt78 : C.tt 78 = some ti78 := by kernel_rfl
theorem tt79 : C.tt 79 = some ti79 := by kernel_rfl
theorem tt80 : C.tt 80 = some ti80 := by kernel_rfl
theorem tt82 : C.tt 82 = some ti82 := by kernel_rfl
theorem tt83 : C.tt 83 = some ti83 := by kernel_rfl
theorem tt84 : C.tt 84 = some ti84 := by kernel_rfl
theorem tt85 : C.tt 85 = some ti85 := by kernel_rfl
theorem tt86 : C.tt 86 = some ti86 := by kernel_rfl
theorem tt87 : C.tt 87 = some ti87 := by kernel_rfl
theorem tt88 : C.tt 88 = some ti88 := by kernel_rfl
theorem tt89 : C.tt 89 = some ti89 := by kernel_rfl
theorem tt91 : C.tt 91 = some ti91 := by kernel_rfl
theorem tt92 : C.tt 92 = some ti92 := by kernel_rfl
theorem tt93 : C.tt 93 = some ti93 := by kernel_rfl
theorem tt94 : C.tt 94 = some ti94 := by kernel_rfl
theorem tt95 : C.tt 95 = some ti95 := by kernel_rfl
theorem tt96 : C.tt 96 = some ti96 := by kernel_rfl
theorem tt97 : C.tt 97 = some ti97 := by kernel_rfl
theorem tt98 : C.tt 98 = some ti98 := by kernel_rfl
theorem tt99 : C.tt 99 = some ti99 := by kernel_rfl
theorem tt100 : C.tt 100 = some ti100 := by kernel_rfl
theorem tt101 : C.tt 101 = some ti101 := by kernel_rfl
theorem tt102 : C.tt 102 = some ti102 := by kernel_rfl
theorem tt103 : C.tt 103 = some ti103 := by kernel_rfl
theorem tt104 : C.tt 104 = some ti104 := by kernel_rfl
theorem tt105 : C.tt 105 = some ti105 := by kernel_rfl
theorem tt106 : C.tt 106 = some ti106 := by kernel_rfl
theorem tt108 : C.tt 108 = some ti108 := by kernel_rfl
theorem tt109 : C.tt 109 = some ti109 := by kernel_rfl
theorem tt110 : C.tt 110 = some ti110 := by kernel_rfl
theorem tt111 : C.tt 111 = some ti111 := by kernel_rfl
theorem tt112 : C.tt 112 = some ti112 := by kernel_rfl
theorem tt113 : C.tt 113 = some ti113 := by kernel_rfl
theorem tt114 : C.tt 114 = some ti114 := by kernel_rfl
theorem tt115 : C.tt 115 = some ti115 := by kernel_rfl
theorem tt116 : C.tt 116 = some ti116 := by kernel_rfl
theorem tt117 : C.tt 117 = some ti117 := by kernel_rfl
theorem tt118 : C.tt 118 = some ti118 := by kernel_rfl
theorem tt119 : C.tt 119 = some ti119 := by kernel_rfl
theorem tt120 : C.tt 120 = some ti120 := by kernel_rfl
theorem tt121 : C.tt 121 = some ti121 := by kernel_rfl
theorem tt122 : C.tt 122 = some ti122 := by kernel_rfl
theorem tt123 : C.tt 123 = some ti123 := by kernel_rfl
theorem tt124 : C.tt 124 = some ti124 := by kernel_rfl
theorem tt125 : C.tt 125 = some ti125 := by kernel_rfl
theorem tt126 : C.tt 126 = some ti126 := by kernel_rfl
theorem tt127 : C.tt 127 = some ti127 := by kernel_rfl
theorem tt128 : C.tt 128 = some ti128 := by kernel_rfl
theorem tt129 : C.tt 129 = some ti129 := by kernel_rfl
theorem tt130 : C.tt 130 = some ti130 := by kernel_rfl
theorem tt131 : C.tt 131 = some ti131 := by kernel_rfl
theorem tt132 : C.tt 132 = some ti132 := by kernel_rfl
theorem tt134 : C.tt 134 = some ti134 := by kernel_rfl
theorem tt135 : C.tt 135 = some ti135 := by kernel_rfl
theorem tt136 : C.tt 136 = some ti136 := by kernel_rfl
theorem tt137 : C.tt 137 = some ti137 := by kernel_rfl
theorem tt138 : C.tt 138 = some ti138 := by kernel_rfl
theorem tt139 : C.tt 139 = some ti139 := by kernel_rfl
theorem tt140 : C.tt 140 = some ti140 := by kernel_rfl
theorem tt141 : C.tt 141 = some ti141 := by kernel_rfl
theorem tt142 : C.tt 142 = some ti142 := by kernel_rfl
theorem tt143 : C.tt 143 = some ti143 := by kernel_rfl
theorem tt144 : C.tt 144 = some ti144 := by kernel_rfl
theorem tt145 : C.tt 145 = some ti145 := by kernel_rfl
theorem tt146 : C.tt 146 = some ti146 := by kernel_rfl
theorem tt147 : C.tt 147 = some ti147 := by kernel_rfl
theorem tt148 : C.tt 148 = some ti148 := by kernel_rfl
theorem tt149 : C.tt 149 = some ti149 := by kernel_rfl
theorem tt150 : C.tt 150 = some ti150 := by kernel_rfl
theorem tt152 : C.tt 152 = some ti152 := by kernel_rfl
theorem tt154 : C.tt 154 = some ti154 := by kernel_rfl
theorem tt155 : C.tt 155 = some ti155 := by kernel_rfl
theorem tt156 : C.tt 156 = some ti156 := by kernel_rfl
theorem tt157 : C.tt 157 = some ti157 := by kernel_rfl
theorem tt158 : C.tt 158 = some ti158 := by kernel_rfl
theorem tt159 : C.tt 159 = some ti159 := by kernel_rfl
theorem tt160 : C.tt 160 = some ti160 := by kernel_rfl
theorem tt161 : C.tt 161 = some ti161 := by kernel_rfl
theorem tt162 : C.tt 162 = some ti162 := by kernel_rfl
theorem tt163 : C.tt 163 = some ti163 := by kernel_rfl
theorem tt164 : C.tt 164 = some ti164 := by kernel_rfl
theorem tt165 : C.tt 165 = some ti165 := by kernel_rfl
theorem tt166 : C.tt 166 = some ti166 := by kernel_rfl
theorem tt167 : C.tt 167 = some ti167 := by kernel_rfl
theorem tt168 : C.tt 168 = some ti168 := by kernel_rfl
theorem tt169 : C.tt 169 = some ti169 := by kernel_rfl
theorem tt170 : C.tt 170 = some ti170 := by kernel_rfl
theorem tt172 : C.tt 172 = some ti172 := by kernel_rfl
theorem tt173 : C.tt 173 = some ti173 := by kernel_rfl
theorem tt174 : C.tt 174 = some ti174 := by kernel_rfl
theorem tt180 : C.tt 180 = some ti180 := by kernel_rfl
theorem tt183 : C.tt 183 = some ti183 := by kernel_rfl
theorem tt184 : C.tt 184 = some ti184 := by kernel_rfl
theorem tt189 : C.tt 189 = some ti189 := by kernel_rfl
end Go.Proofs.Ytcjkapadadonlaa
