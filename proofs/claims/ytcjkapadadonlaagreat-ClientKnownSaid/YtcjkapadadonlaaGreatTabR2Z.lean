/- The table of the types of the seat. Printed by tools/cltab.py. -/
import Derived.Test.YtcjkapadadonlaaGreatChecked
import Derived.Test.YtcjkapadadonlaaGreatCl19
set_option linter.unusedSimpArgs false
set_option linter.unusedVariables false
namespace Go.Proofs.YtcjkapadadonlaaGreat
open Go.Cl

abbrev sh1 : Shape := .s
abbrev z1 : CV := .sc .nilFunc
def ti1 : TI := ⟨.base (.func #[] #[] false), sh1, 8, z1⟩
abbrev sh2 : Shape := .s
abbrev z2 : CV := .sc (.int .i64 0)
def ti2 : TI := ⟨.base (.int .i64), sh2, 8, z2⟩
abbrev sh3 : Shape := .s
abbrev z3 : CV := .sc (.int .i64 0)
def ti3 : TI := ⟨.base (.int .i64), sh3, 8, z3⟩
abbrev sh4 : Shape := .s
abbrev z4 : CV := .sc (.bool false)
def ti4 : TI := ⟨.base (.bool), sh4, 1, z4⟩
abbrev sh5 : Shape := .s
abbrev z5 : CV := .sc (.int .u8 0)
def ti5 : TI := ⟨.base (.int .u8), sh5, 1, z5⟩
abbrev sh9 : Shape := .s
abbrev z9 : CV := .sc (.string ⟨#[]⟩)
def ti9 : TI := ⟨.base (.string), sh9, 16, z9⟩
abbrev sh12 : Shape := .s
abbrev z12 : CV := .sc (.int .u64 0)
def ti12 : TI := ⟨.base (.int .u64), sh12, 8, z12⟩
abbrev sh15 : Shape := .s
abbrev z15 : CV := .sc (.pointer none)
def ti15 : TI := ⟨.base (.pointer 319), sh15, 8, z15⟩
abbrev sh16 : Shape := .s
abbrev z16 : CV := .sc (.pointer none)
def ti16 : TI := ⟨.base (.pointer 322), sh16, 8, z16⟩
abbrev sh17 : Shape := .s
abbrev z17 : CV := .sc (.pointer none)
def ti17 : TI := ⟨.base (.pointer 331), sh17, 8, z17⟩
abbrev sh20 : Shape := .s
abbrev z20 : CV := .sc .nilIface
def ti20 : TI := ⟨.base (.interface #[]), sh20, 16, z20⟩
abbrev sh21 : Shape := .s
abbrev z21 : CV := .sc (.int .i32 0)
def ti21 : TI := ⟨.base (.int .i32), sh21, 4, z21⟩
abbrev sh22 : Shape := .s
abbrev z22 : CV := .sc (.pointer none)
def ti22 : TI := ⟨.base (.pointer 105), sh22, 8, z22⟩
abbrev sh23 : Shape := .s
abbrev z23 : CV := .sc (.int .i64 0)
def ti23 : TI := ⟨.base (.int .i64), sh23, 8, z23⟩
abbrev sh25 : Shape := .s
abbrev z25 : CV := .sc .nilFunc
def ti25 : TI := ⟨.base (.func #[30] #[22, 23] false), sh25, 8, z25⟩
abbrev sh26 : Shape := .s
abbrev z26 : CV := .sc (.float .f64 0)
def ti26 : TI := ⟨.base (.float .f64), sh26, 8, z26⟩
abbrev sh27 : Shape := .s
abbrev z27 : CV := .lst .nil []
def ti27 : TI := ⟨.base (.slice 230), sh27, 24, z27⟩
abbrev sh28 : Shape := .s
abbrev z28 : CV := .lst .nil []
def ti28 : TI := ⟨.base (.slice 3), sh28, 24, z28⟩
def sh29 : Shape := .n [sh3, sh3, sh3, sh3, sh3, sh3, sh26, sh26, sh27, sh28]
def z29 : CV := .agg [z3, z3, z3, z3, z3, z3, z26, z26, z27, z28]
def ti29 : TI := ⟨.st [(0, 1, 3), (1, 1, 3), (2, 1, 3), (3, 1, 3), (4, 1, 3), (5, 1, 3), (6, 1, 26), (7, 1, 26), (8, 1, 27), (9, 1, 28)], sh29, 112, z29⟩
def sh30 : Shape := .n [sh3, sh3, sh3, sh3, sh3, sh3, sh26, sh26, sh27, sh28]
def z30 : CV := .agg [z3, z3, z3, z3, z3, z3, z26, z26, z27, z28]
def ti30 : TI := ⟨.st [(0, 1, 3), (1, 1, 3), (2, 1, 3), (3, 1, 3), (4, 1, 3), (5, 1, 3), (6, 1, 26), (7, 1, 26), (8, 1, 27), (9, 1, 28)], sh30, 112, z30⟩
abbrev sh31 : Shape := .s
abbrev z31 : CV := .sc .nilFunc
def ti31 : TI := ⟨.base (.func #[] #[30] false), sh31, 8, z31⟩
abbrev sh32 : Shape := .s
abbrev z32 : CV := .sc .nilFunc
def ti32 : TI := ⟨.base (.func #[] #[4] false), sh32, 8, z32⟩
abbrev sh33 : Shape := .s
abbrev z33 : CV := .lst .nil []
def ti33 : TI := ⟨.base (.slice 5), sh33, 24, z33⟩
abbrev sh34 : Shape := .s
abbrev z34 : CV := .sc .nilFunc
def ti34 : TI := ⟨.base (.func #[3, 3, 3] #[33] false), sh34, 8, z34⟩
abbrev sh35 : Shape := .s
abbrev z35 : CV := .sc (.int .u64 0)
def ti35 : TI := ⟨.base (.int .u64), sh35, 8, z35⟩
abbrev sh36 : Shape := .s
abbrev z36 : CV := .lst .nil []
def ti36 : TI := ⟨.base (.slice 57), sh36, 24, z36⟩
abbrev sh37 : Shape := .s
abbrev z37 : CV := .lst .nil []
def ti37 : TI := ⟨.base (.slice 74), sh37, 24, z37⟩
def sh38 : Shape := .n [sh3, sh3, sh3, sh3, sh4, sh35, sh3, sh3, sh36, sh3, sh37, sh3, sh3]
def z38 : CV := .agg [z3, z3, z3, z3, z4, z35, z3, z3, z36, z3, z37, z3, z3]
def ti38 : TI := ⟨.st [(0, 1, 3), (1, 1, 3), (2, 1, 3), (3, 1, 3), (4, 1, 4), (5, 1, 35), (6, 1, 3), (7, 1, 3), (8, 1, 36), (9, 1, 3), (10, 1, 37), (11, 1, 3), (12, 1, 3)], sh38, 136, z38⟩
def sh39 : Shape := .n [sh3, sh3, sh3, sh3, sh4, sh35, sh3, sh3, sh36, sh3, sh37, sh3, sh3]
def z39 : CV := .agg [z3, z3, z3, z3, z4, z35, z3, z3, z36, z3, z37, z3, z3]
def ti39 : TI := ⟨.st [(0, 1, 3), (1, 1, 3), (2, 1, 3), (3, 1, 3), (4, 1, 4), (5, 1, 35), (6, 1, 3), (7, 1, 3), (8, 1, 36), (9, 1, 3), (10, 1, 37), (11, 1, 3), (12, 1, 3)], sh39, 136, z39⟩
abbrev sh41 : Shape := .s
abbrev z41 : CV := .sc .nilFunc
def ti41 : TI := ⟨.base (.func #[3, 33, 3] #[39, 3] false), sh41, 8, z41⟩
abbrev sh43 : Shape := .s
abbrev z43 : CV := .sc .nilFunc
def ti43 : TI := ⟨.base (.func #[3, 39] #[33, 4] false), sh43, 8, z43⟩
abbrev sh44 : Shape := .s
abbrev z44 : CV := .sc .nilFunc
def ti44 : TI := ⟨.base (.func #[3] #[3] false), sh44, 8, z44⟩
abbrev sh45 : Shape := .s
abbrev z45 : CV := .sc .nilFunc
def ti45 : TI := ⟨.base (.func #[3, 39, 3] #[33, 4] false), sh45, 8, z45⟩
abbrev sh47 : Shape := .s
abbrev z47 : CV := .sc .nilFunc
def ti47 : TI := ⟨.base (.func #[3, 33] #[39, 23] false), sh47, 8, z47⟩
abbrev sh48 : Shape := .s
abbrev z48 : CV := .sc .nilFunc
def ti48 : TI := ⟨.base (.func #[3] #[4] false), sh48, 8, z48⟩
def sh49 : Shape := .n (List.replicate 6 sh3)
def z49 : CV := .agg (List.replicate 6 z3)
def ti49 : TI := ⟨.ar 6 1 3, sh49, 48, z49⟩
abbrev sh50 : Shape := .s
abbrev z50 : CV := .sc .nilFunc
def ti50 : TI := ⟨.base (.func #[] #[49] false), sh50, 8, z50⟩
abbrev sh51 : Shape := .s
abbrev z51 : CV := .sc (.pointer none)
def ti51 : TI := ⟨.base (.pointer 116), sh51, 8, z51⟩
abbrev sh52 : Shape := .s
abbrev z52 : CV := .sc .nilFunc
def ti52 : TI := ⟨.base (.func #[3] #[51] false), sh52, 8, z52⟩
abbrev sh53 : Shape := .s
abbrev z53 : CV := .sc (.pointer none)
def ti53 : TI := ⟨.base (.pointer 138), sh53, 8, z53⟩
abbrev sh55 : Shape := .s
abbrev z55 : CV := .sc .nilFunc
def ti55 : TI := ⟨.base (.func #[30] #[53, 23] false), sh55, 8, z55⟩
def sh56 : Shape := .n [sh3, sh3, sh3]
def z56 : CV := .agg [z3, z3, z3]
def ti56 : TI := ⟨.st [(0, 1, 3), (1, 1, 3), (2, 1, 3)], sh56, 24, z56⟩
def sh57 : Shape := .n [sh3, sh3, sh3]
def z57 : CV := .agg [z3, z3, z3]
def ti57 : TI := ⟨.st [(0, 1, 3), (1, 1, 3), (2, 1, 3)], sh57, 24, z57⟩
abbrev sh58 : Shape := .s
abbrev z58 : CV := .sc .nilFunc
def ti58 : TI := ⟨.base (.func #[3, 33, 3] #[3] false), sh58, 8, z58⟩
abbrev sh59 : Shape := .s
abbrev z59 : CV := .sc .nilFunc
def ti59 : TI := ⟨.base (.func #[3, 39] #[33] false), sh59, 8, z59⟩
abbrev sh60 : Shape := .s
abbrev z60 : CV := .lst .nil []
def ti60 : TI := ⟨.base (.slice 63), sh60, 24, z60⟩
abbrev sh61 : Shape := .s
abbrev z61 : CV := .sc .nilFunc
def ti61 : TI := ⟨.base (.func #[3] #[60] false), sh61, 8, z61⟩
def sh62 : Shape := .n [sh3, sh33]
def z62 : CV := .agg [z3, z33]
def ti62 : TI := ⟨.st [(0, 1, 3), (1, 1, 33)], sh62, 32, z62⟩
def sh63 : Shape := .n [sh3, sh33]
def z63 : CV := .agg [z3, z33]
def ti63 : TI := ⟨.st [(0, 1, 3), (1, 1, 33)], sh63, 32, z63⟩
abbrev sh64 : Shape := .s
abbrev z64 : CV := .sc .nilFunc
def ti64 : TI := ⟨.base (.func #[30, 71] #[3] false), sh64, 8, z64⟩
def sh65 : Shape := .n (List.replicate 4 sh3)
def z65 : CV := .agg (List.replicate 4 z3)
def ti65 : TI := ⟨.ar 4 1 3, sh65, 32, z65⟩
def sh66 : Shape := .n [sh3, sh3, sh3, sh3, sh3, sh3, sh3, sh65, sh3]
def z66 : CV := .agg [z3, z3, z3, z3, z3, z3, z3, z65, z3]
def ti66 : TI := ⟨.st [(0, 1, 3), (1, 1, 3), (2, 1, 3), (3, 1, 3), (4, 1, 3), (5, 1, 3), (6, 1, 3), (7, 4, 65), (11, 1, 3)], sh66, 96, z66⟩
def sh67 : Shape := .n [sh3, sh3, sh3, sh3, sh3, sh3, sh3, sh65, sh3]
def z67 : CV := .agg [z3, z3, z3, z3, z3, z3, z3, z65, z3]
def ti67 : TI := ⟨.st [(0, 1, 3), (1, 1, 3), (2, 1, 3), (3, 1, 3), (4, 1, 3), (5, 1, 3), (6, 1, 3), (7, 4, 65), (11, 1, 3)], sh67, 96, z67⟩
def sh68 : Shape := .n (List.replicate 16 sh67)
def z68 : CV := .agg (List.replicate 16 z67)
def ti68 : TI := ⟨.ar 16 12 67, sh68, 1536, z68⟩
def sh69 : Shape := .n (List.replicate 8 sh3)
def z69 : CV := .agg (List.replicate 8 z3)
def ti69 : TI := ⟨.ar 8 1 3, sh69, 64, z69⟩
def sh70 : Shape := .n [sh3, sh35, sh68, sh69]
def z70 : CV := .agg [z3, z35, z68, z69]
def ti70 : TI := ⟨.st [(0, 1, 3), (1, 1, 35), (2, 192, 68), (194, 8, 69)], sh70, 1616, z70⟩
def sh71 : Shape := .n [sh3, sh35, sh68, sh69]
def z71 : CV := .agg [z3, z35, z68, z69]
def ti71 : TI := ⟨.st [(0, 1, 3), (1, 1, 35), (2, 192, 68), (194, 8, 69)], sh71, 1616, z71⟩
abbrev sh72 : Shape := .s
abbrev z72 : CV := .sc .nilFunc
def ti72 : TI := ⟨.base (.func #[] #[71] false), sh72, 8, z72⟩
abbrev sh73 : Shape := .s
abbrev z73 : CV := .sc .nilFunc
def ti73 : TI := ⟨.base (.func #[] #[37] false), sh73, 8, z73⟩
abbrev sh74 : Shape := .s
abbrev z74 : CV := .lst .nil []
def ti74 : TI := ⟨.base (.slice 76), sh74, 24, z74⟩
def sh75 : Shape := .n [sh4, sh57]
def z75 : CV := .agg [z4, z57]
def ti75 : TI := ⟨.st [(0, 1, 4), (1, 3, 57)], sh75, 32, z75⟩
def sh76 : Shape := .n [sh4, sh57]
def z76 : CV := .agg [z4, z57]
def ti76 : TI := ⟨.st [(0, 1, 4), (1, 3, 57)], sh76, 32, z76⟩
abbrev sh77 : Shape := .s
abbrev z77 : CV := .sc (.pointer none)
def ti77 : TI := ⟨.base (.pointer 154), sh77, 8, z77⟩
abbrev sh79 : Shape := .s
abbrev z79 : CV := .sc .nilFunc
def ti79 : TI := ⟨.base (.func #[30, 3] #[77, 23] false), sh79, 8, z79⟩
abbrev sh80 : Shape := .s
abbrev z80 : CV := .sc .nilFunc
def ti80 : TI := ⟨.base (.func #[3] #[33] false), sh80, 8, z80⟩
abbrev sh81 : Shape := .s
abbrev z81 : CV := .sc .nilFunc
def ti81 : TI := ⟨.base (.func #[33, 3] #[4] false), sh81, 8, z81⟩
abbrev sh82 : Shape := .s
abbrev z82 : CV := .sc .nilFunc
def ti82 : TI := ⟨.base (.func #[30, 3, 39] #[33] false), sh82, 8, z82⟩
abbrev sh83 : Shape := .s
abbrev z83 : CV := .sc .nilFunc
def ti83 : TI := ⟨.base (.func #[3, 26, 26] #[23] false), sh83, 8, z83⟩
abbrev sh84 : Shape := .s
abbrev z84 : CV := .sc .nilFunc
def ti84 : TI := ⟨.base (.func #[] #[26] false), sh84, 8, z84⟩
abbrev sh85 : Shape := .s
abbrev z85 : CV := .sc .nilFunc
def ti85 : TI := ⟨.base (.func #[3, 3] #[74] false), sh85, 8, z85⟩
abbrev sh86 : Shape := .s
abbrev z86 : CV := .sc .nilFunc
def ti86 : TI := ⟨.base (.func #[] #[3] false), sh86, 8, z86⟩
abbrev sh88 : Shape := .s
abbrev z88 : CV := .sc .nilFunc
def ti88 : TI := ⟨.base (.func #[] #[3, 71] false), sh88, 8, z88⟩
abbrev sh89 : Shape := .s
abbrev z89 : CV := .sc (.pointer none)
def ti89 : TI := ⟨.base (.pointer 173), sh89, 8, z89⟩
abbrev sh91 : Shape := .s
abbrev z91 : CV := .sc .nilFunc
def ti91 : TI := ⟨.base (.func #[30] #[89, 23] false), sh91, 8, z91⟩
abbrev sh92 : Shape := .s
abbrev z92 : CV := .sc .nilFunc
def ti92 : TI := ⟨.base (.func #[] #[53] false), sh92, 8, z92⟩
abbrev sh93 : Shape := .s
abbrev z93 : CV := .sc (.pointer none)
def ti93 : TI := ⟨.base (.pointer 170), sh93, 8, z93⟩
abbrev sh94 : Shape := .s
abbrev z94 : CV := .sc .nilFunc
def ti94 : TI := ⟨.base (.func #[] #[93] false), sh94, 8, z94⟩
abbrev sh95 : Shape := .s
abbrev z95 : CV := .sc .nilFunc
def ti95 : TI := ⟨.base (.func #[3, 3, 26, 26] #[23] false), sh95, 8, z95⟩
abbrev sh96 : Shape := .s
abbrev z96 : CV := .sc .nilFunc
def ti96 : TI := ⟨.base (.func #[3, 3, 33] #[23] false), sh96, 8, z96⟩
abbrev sh97 : Shape := .s
abbrev z97 : CV := .sc .nilFunc
def ti97 : TI := ⟨.base (.func #[100] #[] false), sh97, 8, z97⟩
def sh98 : Shape := .n [sh4, sh3, sh3]
def z98 : CV := .agg [z4, z3, z3]
def ti98 : TI := ⟨.st [(0, 1, 4), (1, 1, 3), (2, 1, 3)], sh98, 24, z98⟩
def sh99 : Shape := .n [sh4, sh3, sh3]
def z99 : CV := .agg [z4, z3, z3]
def ti99 : TI := ⟨.st [(0, 1, 4), (1, 1, 3), (2, 1, 3)], sh99, 24, z99⟩
abbrev sh100 : Shape := .s
abbrev z100 : CV := .lst .nil []
def ti100 : TI := ⟨.base (.slice 99), sh100, 24, z100⟩
abbrev sh101 : Shape := .s
abbrev z101 : CV := .sc .nilFunc
def ti101 : TI := ⟨.base (.func #[3] #[77] false), sh101, 8, z101⟩
abbrev sh102 : Shape := .s
abbrev z102 : CV := .sc .nilFunc
def ti102 : TI := ⟨.base (.func #[30] #[4] false), sh102, 8, z102⟩
abbrev sh103 : Shape := .s
abbrev z103 : CV := .lst .nil []
def ti103 : TI := ⟨.base (.slice 109), sh103, 24, z103⟩
def sh104 : Shape := .n [sh103, sh49]
def z104 : CV := .agg [z103, z49]
def ti104 : TI := ⟨.st [(0, 1, 103), (1, 6, 49)], sh104, 72, z104⟩
def sh105 : Shape := .n [sh103, sh49]
def z105 : CV := .agg [z103, z49]
def ti105 : TI := ⟨.st [(0, 1, 103), (1, 6, 49)], sh105, 72, z105⟩
abbrev sh106 : Shape := .s
abbrev z106 : CV := .sc (.pointer none)
def ti106 : TI := ⟨.base (.pointer 181), sh106, 8, z106⟩
abbrev sh108 : Shape := .s
abbrev z108 : CV := .sc .nilFunc
def ti108 : TI := ⟨.base (.func #[26, 26] #[106, 23] false), sh108, 8, z108⟩
abbrev sh109 : Shape := .s
abbrev z109 : CV := .sc (.pointer none)
def ti109 : TI := ⟨.base (.pointer 118), sh109, 8, z109⟩
abbrev sh110 : Shape := .s
abbrev z110 : CV := .lst .nil []
def ti110 : TI := ⟨.base (.slice 202), sh110, 24, z110⟩
def sh111 : Shape := .n [sh4, sh3, sh35]
def z111 : CV := .agg [z4, z3, z35]
def ti111 : TI := ⟨.st [(0, 1, 4), (1, 1, 3), (2, 1, 35)], sh111, 24, z111⟩
def sh112 : Shape := .n [sh4, sh3, sh35]
def z112 : CV := .agg [z4, z3, z35]
def ti112 : TI := ⟨.st [(0, 1, 4), (1, 1, 3), (2, 1, 35)], sh112, 24, z112⟩
def sh113 : Shape := .n [sh3, sh26, sh26]
def z113 : CV := .agg [z3, z26, z26]
def ti113 : TI := ⟨.st [(0, 1, 3), (1, 1, 26), (2, 1, 26)], sh113, 24, z113⟩
def sh114 : Shape := .n [sh3, sh26, sh26]
def z114 : CV := .agg [z3, z26, z26]
def ti114 : TI := ⟨.st [(0, 1, 3), (1, 1, 26), (2, 1, 26)], sh114, 24, z114⟩
def sh115 : Shape := .n [sh3, sh110, sh112, sh114]
def z115 : CV := .agg [z3, z110, z112, z114]
def ti115 : TI := ⟨.st [(0, 1, 3), (1, 1, 110), (2, 3, 112), (5, 3, 114)], sh115, 80, z115⟩
def sh116 : Shape := .n [sh3, sh110, sh112, sh114]
def z116 : CV := .agg [z3, z110, z112, z114]
def ti116 : TI := ⟨.st [(0, 1, 3), (1, 1, 110), (2, 3, 112), (5, 3, 114)], sh116, 80, z116⟩
def sh117 : Shape := .n [sh3, sh51, sh106, sh4, sh3]
def z117 : CV := .agg [z3, z51, z106, z4, z3]
def ti117 : TI := ⟨.st [(0, 1, 3), (1, 1, 51), (2, 1, 106), (3, 1, 4), (4, 1, 3)], sh117, 40, z117⟩
def sh118 : Shape := .n [sh3, sh51, sh106, sh4, sh3]
def z118 : CV := .agg [z3, z51, z106, z4, z3]
def ti118 : TI := ⟨.st [(0, 1, 3), (1, 1, 51), (2, 1, 106), (3, 1, 4), (4, 1, 3)], sh118, 40, z118⟩
abbrev sh119 : Shape := .s
abbrev z119 : CV := .sc .nilFunc
def ti119 : TI := ⟨.base (.func #[39] #[4] false), sh119, 8, z119⟩
abbrev sh120 : Shape := .s
abbrev z120 : CV := .sc .nilFunc
def ti120 : TI := ⟨.base (.func #[3, 33] #[33] false), sh120, 8, z120⟩
abbrev sh121 : Shape := .s
abbrev z121 : CV := .sc .nilFunc
def ti121 : TI := ⟨.base (.func #[39] #[33] false), sh121, 8, z121⟩
abbrev sh122 : Shape := .s
abbrev z122 : CV := .sc .nilFunc
def ti122 : TI := ⟨.base (.func #[3] #[109] false), sh122, 8, z122⟩
abbrev sh124 : Shape := .s
abbrev z124 : CV := .sc .nilFunc
def ti124 : TI := ⟨.base (.func #[3, 39] #[33, 23] false), sh124, 8, z124⟩
abbrev sh125 : Shape := .s
abbrev z125 : CV := .sc .nilFunc
def ti125 : TI := ⟨.base (.func #[39, 3] #[39] false), sh125, 8, z125⟩
abbrev sh126 : Shape := .s
abbrev z126 : CV := .sc .nilFunc
def ti126 : TI := ⟨.base (.func #[3, 33] #[33, 4] false), sh126, 8, z126⟩
abbrev sh127 : Shape := .s
abbrev z127 : CV := .sc (.pointer none)
def ti127 : TI := ⟨.base (.pointer 129), sh127, 8, z127⟩
def sh128 : Shape := .n [sh33, sh3, sh4]
def z128 : CV := .agg [z33, z3, z4]
def ti128 : TI := ⟨.st [(0, 1, 33), (1, 1, 3), (2, 1, 4)], sh128, 40, z128⟩
def sh129 : Shape := .n [sh33, sh3, sh4]
def z129 : CV := .agg [z33, z3, z4]
def ti129 : TI := ⟨.st [(0, 1, 33), (1, 1, 3), (2, 1, 4)], sh129, 40, z129⟩
abbrev sh130 : Shape := .s
abbrev z130 : CV := .sc .nilFunc
def ti130 : TI := ⟨.base (.func #[3] #[35] false), sh130, 8, z130⟩
abbrev sh131 : Shape := .s
abbrev z131 : CV := .sc .nilFunc
def ti131 : TI := ⟨.base (.func #[127] #[57] false), sh131, 8, z131⟩
abbrev sh132 : Shape := .s
abbrev z132 : CV := .sc (.pointer none)
def ti132 : TI := ⟨.base (.pointer 207), sh132, 8, z132⟩
abbrev sh134 : Shape := .s
abbrev z134 : CV := .sc .nilFunc
def ti134 : TI := ⟨.base (.func #[30] #[132, 23] false), sh134, 8, z134⟩
abbrev sh135 : Shape := .s
abbrev z135 : CV := .sc .nilFunc
def ti135 : TI := ⟨.base (.func #[30] #[71] false), sh135, 8, z135⟩
abbrev sh136 : Shape := .s
abbrev z136 : CV := .lst .nil []
def ti136 : TI := ⟨.base (.slice 141), sh136, 24, z136⟩
def sh137 : Shape := .n [sh30, sh22, sh132, sh71, sh28, sh136, sh49]
def z137 : CV := .agg [z30, z22, z132, z71, z28, z136, z49]
def ti137 : TI := ⟨.st [(0, 10, 30), (10, 1, 22), (11, 1, 132), (12, 202, 71), (214, 1, 28), (215, 1, 136), (216, 6, 49)], sh137, 1840, z137⟩
def sh138 : Shape := .n [sh30, sh22, sh132, sh71, sh28, sh136, sh49]
def z138 : CV := .agg [z30, z22, z132, z71, z28, z136, z49]
def ti138 : TI := ⟨.st [(0, 10, 30), (10, 1, 22), (11, 1, 132), (12, 202, 71), (214, 1, 28), (215, 1, 136), (216, 6, 49)], sh138, 1840, z138⟩
abbrev sh139 : Shape := .s
abbrev z139 : CV := .sc .nilFunc
def ti139 : TI := ⟨.base (.func #[39] #[] false), sh139, 8, z139⟩
def sh140 : Shape := .n [sh4, sh4, sh3]
def z140 : CV := .agg [z4, z4, z3]
def ti140 : TI := ⟨.st [(0, 1, 4), (1, 1, 4), (2, 1, 3)], sh140, 16, z140⟩
def sh141 : Shape := .n [sh4, sh4, sh3]
def z141 : CV := .agg [z4, z4, z3]
def ti141 : TI := ⟨.st [(0, 1, 4), (1, 1, 4), (2, 1, 3)], sh141, 16, z141⟩
abbrev sh142 : Shape := .s
abbrev z142 : CV := .sc .nilFunc
def ti142 : TI := ⟨.base (.func #[3] #[] false), sh142, 8, z142⟩
abbrev sh143 : Shape := .s
abbrev z143 : CV := .sc .nilFunc
def ti143 : TI := ⟨.base (.func #[3] #[39] false), sh143, 8, z143⟩
abbrev sh144 : Shape := .s
abbrev z144 : CV := .sc .nilFunc
def ti144 : TI := ⟨.base (.func #[30, 71] #[33, 4] false), sh144, 8, z144⟩
abbrev sh145 : Shape := .s
abbrev z145 : CV := .sc .nilFunc
def ti145 : TI := ⟨.base (.func #[33] #[3] false), sh145, 8, z145⟩
abbrev sh146 : Shape := .s
abbrev z146 : CV := .sc .nilFunc
def ti146 : TI := ⟨.base (.func #[3, 3] #[37] false), sh146, 8, z146⟩
abbrev sh147 : Shape := .s
abbrev z147 : CV := .sc (.map none)
def ti147 : TI := ⟨.base (.map 3 57), sh147, 8, z147⟩
abbrev sh148 : Shape := .s
abbrev z148 : CV := .sc (.pointer none)
def ti148 : TI := ⟨.base (.pointer 216), sh148, 8, z148⟩
abbrev sh149 : Shape := .s
abbrev z149 : CV := .sc .nilFunc
def ti149 : TI := ⟨.base (.func #[3] #[148] false), sh149, 8, z149⟩
def sh150 : Shape := .n (List.replicate 17 sh71)
def z150 : CV := .agg (List.replicate 17 z71)
def ti150 : TI := ⟨.ar 17 202 71, sh150, 27472, z150⟩
def sh151 : Shape := .n [sh150, sh3, sh3]
def z151 : CV := .agg [z150, z3, z3]
def ti151 : TI := ⟨.st [(0, 3434, 150), (3434, 1, 3), (3435, 1, 3)], sh151, 27488, z151⟩
def sh152 : Shape := .n [sh150, sh3, sh3]
def z152 : CV := .agg [z150, z3, z3]
def ti152 : TI := ⟨.st [(0, 3434, 150), (3434, 1, 3), (3435, 1, 3)], sh152, 27488, z152⟩
def sh153 : Shape := .n [sh30, sh3, sh116, sh4, sh3, sh3, sh71, sh74, sh3, sh147, sh37, sh152, sh148, sh3, sh3]
def z153 : CV := .agg [z30, z3, z116, z4, z3, z3, z71, z74, z3, z147, z37, z152, z148, z3, z3]
def ti153 : TI := ⟨.st [(0, 10, 30), (10, 1, 3), (11, 8, 116), (19, 1, 4), (20, 1, 3), (21, 1, 3), (22, 202, 71), (224, 1, 74), (225, 1, 3), (226, 1, 147), (227, 1, 37), (228, 3436, 152), (3664, 1, 148), (3665, 1, 3), (3666, 1, 3)], sh153, 29416, z153⟩
def sh154 : Shape := .n [sh30, sh3, sh116, sh4, sh3, sh3, sh71, sh74, sh3, sh147, sh37, sh152, sh148, sh3, sh3]
def z154 : CV := .agg [z30, z3, z116, z4, z3, z3, z71, z74, z3, z147, z37, z152, z148, z3, z3]
def ti154 : TI := ⟨.st [(0, 10, 30), (10, 1, 3), (11, 8, 116), (19, 1, 4), (20, 1, 3), (21, 1, 3), (22, 202, 71), (224, 1, 74), (225, 1, 3), (226, 1, 147), (227, 1, 37), (228, 3436, 152), (3664, 1, 148), (3665, 1, 3), (3666, 1, 3)], sh154, 29416, z154⟩
abbrev sh155 : Shape := .s
abbrev z155 : CV := .sc .nilFunc
def ti155 : TI := ⟨.base (.func #[3, 71] #[4] false), sh155, 8, z155⟩
abbrev sh156 : Shape := .s
abbrev z156 : CV := .sc .nilFunc
def ti156 : TI := ⟨.base (.func #[] #[39] false), sh156, 8, z156⟩
abbrev sh158 : Shape := .s
abbrev z158 : CV := .sc .nilFunc
def ti158 : TI := ⟨.base (.func #[33, 3] #[39, 4] false), sh158, 8, z158⟩
abbrev sh159 : Shape := .s
abbrev z159 : CV := .sc .nilFunc
def ti159 : TI := ⟨.base (.func #[3, 74] #[4] false), sh159, 8, z159⟩
abbrev sh161 : Shape := .s
abbrev z161 : CV := .sc .nilFunc
def ti161 : TI := ⟨.base (.func #[] #[74, 4] false), sh161, 8, z161⟩
abbrev sh162 : Shape := .s
abbrev z162 : CV := .sc .nilFunc
def ti162 : TI := ⟨.base (.func #[74] #[] false), sh162, 8, z162⟩
abbrev sh163 : Shape := .s
abbrev z163 : CV := .sc .nilFunc
def ti163 : TI := ⟨.base (.func #[26, 26] #[3] false), sh163, 8, z163⟩
abbrev sh164 : Shape := .s
abbrev z164 : CV := .sc .nilFunc
def ti164 : TI := ⟨.base (.func #[57] #[] false), sh164, 8, z164⟩
abbrev sh165 : Shape := .s
abbrev z165 : CV := .sc .nilFunc
def ti165 : TI := ⟨.base (.func #[35] #[26] false), sh165, 8, z165⟩
abbrev sh167 : Shape := .s
abbrev z167 : CV := .sc .nilFunc
def ti167 : TI := ⟨.base (.func #[3] #[71, 4] false), sh167, 8, z167⟩
abbrev sh168 : Shape := .s
abbrev z168 : CV := .lst .nil []
def ti168 : TI := ⟨.base (.slice 227), sh168, 24, z168⟩
def sh169 : Shape := .n [sh100, sh168, sh3]
def z169 : CV := .agg [z100, z168, z3]
def ti169 : TI := ⟨.st [(0, 1, 100), (1, 1, 168), (2, 1, 3)], sh169, 56, z169⟩
def sh170 : Shape := .n [sh100, sh168, sh3]
def z170 : CV := .agg [z100, z168, z3]
def ti170 : TI := ⟨.st [(0, 1, 100), (1, 1, 168), (2, 1, 3)], sh170, 56, z170⟩
abbrev sh171 : Shape := .s
abbrev z171 : CV := .lst .nil []
def ti171 : TI := ⟨.base (.slice 77), sh171, 24, z171⟩
def sh172 : Shape := .n [sh53, sh171, sh93, sh3]
def z172 : CV := .agg [z53, z171, z93, z3]
def ti172 : TI := ⟨.st [(0, 1, 53), (1, 1, 171), (2, 1, 93), (3, 1, 3)], sh172, 48, z172⟩
def sh173 : Shape := .n [sh53, sh171, sh93, sh3]
def z173 : CV := .agg [z53, z171, z93, z3]
def ti173 : TI := ⟨.st [(0, 1, 53), (1, 1, 171), (2, 1, 93), (3, 1, 3)], sh173, 48, z173⟩
abbrev sh174 : Shape := .s
abbrev z174 : CV := .sc .nilFunc
def ti174 : TI := ⟨.base (.func #[176, 3] #[] false), sh174, 8, z174⟩
def sh175 : Shape := .n [sh3, sh3, sh33]
def z175 : CV := .agg [z3, z3, z33]
def ti175 : TI := ⟨.st [(0, 1, 3), (1, 1, 3), (2, 1, 33)], sh175, 40, z175⟩
def sh176 : Shape := .n [sh3, sh3, sh33]
def z176 : CV := .agg [z3, z3, z33]
def ti176 : TI := ⟨.st [(0, 1, 3), (1, 1, 3), (2, 1, 33)], sh176, 40, z176⟩
abbrev sh177 : Shape := .s
abbrev z177 : CV := .sc .nilFunc
def ti177 : TI := ⟨.base (.func #[3, 3, 3] #[4] false), sh177, 8, z177⟩
abbrev sh178 : Shape := .s
abbrev z178 : CV := .sc .nilFunc
def ti178 : TI := ⟨.base (.func #[27] #[4] false), sh178, 8, z178⟩
abbrev sh179 : Shape := .s
abbrev z179 : CV := .sc .nilFunc
def ti179 : TI := ⟨.base (.func #[26] #[4] false), sh179, 8, z179⟩
def sh180 : Shape := .n [sh26, sh26, sh26, sh3]
def z180 : CV := .agg [z26, z26, z26, z3]
def ti180 : TI := ⟨.st [(0, 1, 26), (1, 1, 26), (2, 1, 26), (3, 1, 3)], sh180, 32, z180⟩
def sh181 : Shape := .n [sh26, sh26, sh26, sh3]
def z181 : CV := .agg [z26, z26, z26, z3]
def ti181 : TI := ⟨.st [(0, 1, 26), (1, 1, 26), (2, 1, 26), (3, 1, 3)], sh181, 32, z181⟩
abbrev sh183 : Shape := .s
abbrev z183 : CV := .sc .nilFunc
def ti183 : TI := ⟨.base (.func #[33] #[39, 109, 3] false), sh183, 8, z183⟩
abbrev sh184 : Shape := .s
abbrev z184 : CV := .sc .nilFunc
def ti184 : TI := ⟨.base (.func #[39, 3] #[4] false), sh184, 8, z184⟩
abbrev sh185 : Shape := .s
abbrev z185 : CV := .sc .nilFunc
def ti185 : TI := ⟨.base (.func #[57] #[4] false), sh185, 8, z185⟩
abbrev sh186 : Shape := .s
abbrev z186 : CV := .sc .nilFunc
def ti186 : TI := ⟨.base (.func #[3, 33] #[3] false), sh186, 8, z186⟩
abbrev sh187 : Shape := .s
abbrev z187 : CV := .sc (.pointer none)
def ti187 : TI := ⟨.base (.pointer 190), sh187, 8, z187⟩
abbrev sh188 : Shape := .s
abbrev z188 : CV := .lst .nil []
def ti188 : TI := ⟨.base (.slice 4), sh188, 24, z188⟩
def sh189 : Shape := .n [sh188]
def z189 : CV := .agg [z188]
def ti189 : TI := ⟨.st [(0, 1, 188)], sh189, 24, z189⟩
def sh190 : Shape := .n [sh188]
def z190 : CV := .agg [z188]
def ti190 : TI := ⟨.st [(0, 1, 188)], sh190, 24, z190⟩
abbrev sh191 : Shape := .s
abbrev z191 : CV := .sc .nilFunc
def ti191 : TI := ⟨.base (.func #[3, 3] #[] false), sh191, 8, z191⟩
abbrev sh192 : Shape := .s
abbrev z192 : CV := .sc .nilFunc
def ti192 : TI := ⟨.base (.func #[4] #[3] false), sh192, 8, z192⟩
abbrev sh193 : Shape := .s
abbrev z193 : CV := .sc .nilFunc
def ti193 : TI := ⟨.base (.func #[35, 3] #[] false), sh193, 8, z193⟩
abbrev sh194 : Shape := .s
abbrev z194 : CV := .sc .nilFunc
def ti194 : TI := ⟨.base (.func #[187, 57] #[] false), sh194, 8, z194⟩
abbrev sh195 : Shape := .s
abbrev z195 : CV := .sc .nilFunc
def ti195 : TI := ⟨.base (.func #[] #[33] false), sh195, 8, z195⟩
abbrev sh196 : Shape := .s
abbrev z196 : CV := .sc .nilFunc
def ti196 : TI := ⟨.base (.func #[39, 39] #[4] false), sh196, 8, z196⟩
abbrev sh197 : Shape := .s
abbrev z197 : CV := .sc .nilFunc
def ti197 : TI := ⟨.base (.func #[39] #[39] false), sh197, 8, z197⟩
abbrev sh198 : Shape := .s
abbrev z198 : CV := .sc .nilFunc
def ti198 : TI := ⟨.base (.func #[36, 185] #[4] false), sh198, 8, z198⟩
abbrev sh199 : Shape := .s
abbrev z199 : CV := .sc .nilFunc
def ti199 : TI := ⟨.base (.func #[37, 3] #[4] false), sh199, 8, z199⟩
abbrev sh200 : Shape := .s
abbrev z200 : CV := .sc .nilFunc
def ti200 : TI := ⟨.base (.func #[] #[35] false), sh200, 8, z200⟩
def sh201 : Shape := .n [sh3, sh3]
def z201 : CV := .agg [z3, z3]
def ti201 : TI := ⟨.st [(0, 1, 3), (1, 1, 3)], sh201, 16, z201⟩
def sh202 : Shape := .n [sh3, sh3]
def z202 : CV := .agg [z3, z3]
def ti202 : TI := ⟨.st [(0, 1, 3), (1, 1, 3)], sh202, 16, z202⟩
abbrev sh203 : Shape := .s
abbrev z203 : CV := .sc .nilFunc
def ti203 : TI := ⟨.base (.func #[110] #[110] false), sh203, 8, z203⟩
abbrev sh204 : Shape := .s
abbrev z204 : CV := .sc (.int .u64 0)
def ti204 : TI := ⟨.base (.int .u64), sh204, 8, z204⟩
abbrev sh205 : Shape := .s
abbrev z205 : CV := .sc (.map none)
def ti205 : TI := ⟨.base (.map 3 74), sh205, 8, z205⟩
def sh206 : Shape := .n [sh30, sh37, sh205]
def z206 : CV := .agg [z30, z37, z205]
def ti206 : TI := ⟨.st [(0, 10, 30), (10, 1, 37), (11, 1, 205)], sh206, 144, z206⟩
def sh207 : Shape := .n [sh30, sh37, sh205]
def z207 : CV := .agg [z30, z37, z205]
def ti207 : TI := ⟨.st [(0, 10, 30), (10, 1, 37), (11, 1, 205)], sh207, 144, z207⟩
abbrev sh208 : Shape := .s
abbrev z208 : CV := .sc .nilFunc
def ti208 : TI := ⟨.base (.func #[3, 3] #[67] false), sh208, 8, z208⟩
abbrev sh209 : Shape := .s
abbrev z209 : CV := .sc .nilFunc
def ti209 : TI := ⟨.base (.func #[30, 71] #[33, 23] false), sh209, 8, z209⟩
abbrev sh210 : Shape := .s
abbrev z210 : CV := .sc (.pointer none)
def ti210 : TI := ⟨.base (.pointer 141), sh210, 8, z210⟩
abbrev sh211 : Shape := .s
abbrev z211 : CV := .sc .nilFunc
def ti211 : TI := ⟨.base (.func #[3, 3, 57] #[3] false), sh211, 8, z211⟩
abbrev sh212 : Shape := .s
abbrev z212 : CV := .sc .nilFunc
def ti212 : TI := ⟨.base (.func #[30, 71, 74] #[71] false), sh212, 8, z212⟩
abbrev sh213 : Shape := .s
abbrev z213 : CV := .sc .nilFunc
def ti213 : TI := ⟨.base (.func #[30, 71] #[4] false), sh213, 8, z213⟩
abbrev sh214 : Shape := .s
abbrev z214 : CV := .sc .nilFunc
def ti214 : TI := ⟨.base (.func #[74] #[74] false), sh214, 8, z214⟩
def sh215 : Shape := .n [sh3, sh3, sh205]
def z215 : CV := .agg [z3, z3, z205]
def ti215 : TI := ⟨.st [(0, 1, 3), (1, 1, 3), (2, 1, 205)], sh215, 24, z215⟩
def sh216 : Shape := .n [sh3, sh3, sh205]
def z216 : CV := .agg [z3, z3, z205]
def ti216 : TI := ⟨.st [(0, 1, 3), (1, 1, 3), (2, 1, 205)], sh216, 24, z216⟩
abbrev sh217 : Shape := .s
abbrev z217 : CV := .sc (.pointer none)
def ti217 : TI := ⟨.base (.pointer 152), sh217, 8, z217⟩
abbrev sh218 : Shape := .s
abbrev z218 : CV := .sc .nilFunc
def ti218 : TI := ⟨.base (.func #[74, 74] #[4] false), sh218, 8, z218⟩
abbrev sh219 : Shape := .s
abbrev z219 : CV := .sc .nilFunc
def ti219 : TI := ⟨.base (.func #[37] #[37] false), sh219, 8, z219⟩
abbrev sh220 : Shape := .s
abbrev z220 : CV := .sc .nilFunc
def ti220 : TI := ⟨.base (.func #[26] #[26] false), sh220, 8, z220⟩
abbrev sh221 : Shape := .s
abbrev z221 : CV := .sc .nilFunc
def ti221 : TI := ⟨.base (.func #[3, 74, 3, 57] #[74] false), sh221, 8, z221⟩
abbrev sh222 : Shape := .s
abbrev z222 : CV := .lst .nil []
def ti222 : TI := ⟨.base (.slice 176), sh222, 24, z222⟩
abbrev sh223 : Shape := .s
abbrev z223 : CV := .sc .nilFunc
def ti223 : TI := ⟨.base (.func #[3] #[222] false), sh223, 8, z223⟩
abbrev sh224 : Shape := .s
abbrev z224 : CV := .sc .nilFunc
def ti224 : TI := ⟨.base (.func #[] #[99] false), sh224, 8, z224⟩
abbrev sh225 : Shape := .s
abbrev z225 : CV := .sc .nilFunc
def ti225 : TI := ⟨.base (.func #[176] #[176] false), sh225, 8, z225⟩
def sh226 : Shape := .n [sh3, sh176]
def z226 : CV := .agg [z3, z176]
def ti226 : TI := ⟨.st [(0, 1, 3), (1, 3, 176)], sh226, 48, z226⟩
def sh227 : Shape := .n [sh3, sh176]
def z227 : CV := .agg [z3, z176]
def ti227 : TI := ⟨.st [(0, 1, 3), (1, 3, 176)], sh227, 48, z227⟩
abbrev sh228 : Shape := .s
abbrev z228 : CV := .sc .nilFunc
def ti228 : TI := ⟨.base (.func #[27, 231] #[4] false), sh228, 8, z228⟩
def sh229 : Shape := .n [sh3, sh3, sh3]
def z229 : CV := .agg [z3, z3, z3]
def ti229 : TI := ⟨.st [(0, 1, 3), (1, 1, 3), (2, 1, 3)], sh229, 24, z229⟩
def sh230 : Shape := .n [sh3, sh3, sh3]
def z230 : CV := .agg [z3, z3, z3]
def ti230 : TI := ⟨.st [(0, 1, 3), (1, 1, 3), (2, 1, 3)], sh230, 24, z230⟩
abbrev sh231 : Shape := .s
abbrev z231 : CV := .sc .nilFunc
def ti231 : TI := ⟨.base (.func #[230] #[4] false), sh231, 8, z231⟩
abbrev sh232 : Shape := .s
abbrev z232 : CV := .sc (.map none)
def ti232 : TI := ⟨.base (.map 3 4), sh232, 8, z232⟩
abbrev sh233 : Shape := .s
abbrev z233 : CV := .sc .nilFunc
def ti233 : TI := ⟨.base (.func #[26, 3] #[4] false), sh233, 8, z233⟩
abbrev sh235 : Shape := .s
abbrev z235 : CV := .sc .nilFunc
def ti235 : TI := ⟨.base (.func #[33] #[3, 4] false), sh235, 8, z235⟩
abbrev sh236 : Shape := .s
abbrev z236 : CV := .sc .nilFunc
def ti236 : TI := ⟨.base (.func #[3, 35, 3] #[4] false), sh236, 8, z236⟩
abbrev sh237 : Shape := .s
abbrev z237 : CV := .sc .nilFunc
def ti237 : TI := ⟨.base (.func #[37, 37, 218] #[4] false), sh237, 8, z237⟩
abbrev sh238 : Shape := .s
abbrev z238 : CV := .sc .nilFunc
def ti238 : TI := ⟨.base (.func #[36, 36] #[4] false), sh238, 8, z238⟩
abbrev sh239 : Shape := .s
abbrev z239 : CV := .sc .nilFunc
def ti239 : TI := ⟨.base (.func #[36, 185] #[3] false), sh239, 8, z239⟩
abbrev sh240 : Shape := .s
abbrev z240 : CV := .sc .nilFunc
def ti240 : TI := ⟨.base (.func #[74, 241] #[4] false), sh240, 8, z240⟩
abbrev sh241 : Shape := .s
abbrev z241 : CV := .sc .nilFunc
def ti241 : TI := ⟨.base (.func #[76] #[4] false), sh241, 8, z241⟩
abbrev sh242 : Shape := .s
abbrev z242 : CV := .sc .nilFunc
def ti242 : TI := ⟨.base (.func #[33] #[33] false), sh242, 8, z242⟩
abbrev sh243 : Shape := .s
abbrev z243 : CV := .sc (.pointer none)
def ti243 : TI := ⟨.base (.pointer 275), sh243, 8, z243⟩
abbrev sh244 : Shape := .s
abbrev z244 : CV := .sc .nilFunc
def ti244 : TI := ⟨.base (.func #[] #[243] false), sh244, 8, z244⟩
abbrev sh245 : Shape := .s
abbrev z245 : CV := .sc .nilFunc
def ti245 : TI := ⟨.base (.func #[243, 4] #[] false), sh245, 8, z245⟩
abbrev sh246 : Shape := .s
abbrev z246 : CV := .sc .nilFunc
def ti246 : TI := ⟨.base (.func #[243, 57] #[] false), sh246, 8, z246⟩
abbrev sh247 : Shape := .s
abbrev z247 : CV := .sc .nilFunc
def ti247 : TI := ⟨.base (.func #[243, 39] #[] false), sh247, 8, z247⟩
abbrev sh248 : Shape := .s
abbrev z248 : CV := .sc (.pointer none)
def ti248 : TI := ⟨.base (.pointer 112), sh248, 8, z248⟩
abbrev sh249 : Shape := .s
abbrev z249 : CV := .sc .nilFunc
def ti249 : TI := ⟨.base (.func #[3, 3, 3] #[3] false), sh249, 8, z249⟩
abbrev sh250 : Shape := .s
abbrev z250 : CV := .sc .nilFunc
def ti250 : TI := ⟨.base (.func #[243, 67] #[] false), sh250, 8, z250⟩
abbrev sh251 : Shape := .s
abbrev z251 : CV := .sc (.pointer none)
def ti251 : TI := ⟨.base (.pointer 254), sh251, 8, z251⟩
abbrev sh252 : Shape := .s
abbrev z252 : CV := .lst .nil []
def ti252 : TI := ⟨.base (.slice 67), sh252, 24, z252⟩
def sh253 : Shape := .n [sh30, sh71, sh74, sh252]
def z253 : CV := .agg [z30, z71, z74, z252]
def ti253 : TI := ⟨.st [(0, 10, 30), (10, 202, 71), (212, 1, 74), (213, 1, 252)], sh253, 1776, z253⟩
def sh254 : Shape := .n [sh30, sh71, sh74, sh252]
def z254 : CV := .agg [z30, z71, z74, z252]
def ti254 : TI := ⟨.st [(0, 10, 30), (10, 202, 71), (212, 1, 74), (213, 1, 252)], sh254, 1776, z254⟩
abbrev sh255 : Shape := .s
abbrev z255 : CV := .sc .nilFunc
def ti255 : TI := ⟨.base (.func #[67] #[4] false), sh255, 8, z255⟩
def sh256 : Shape := .n [sh3, sh3]
def z256 : CV := .agg [z3, z3]
def ti256 : TI := ⟨.st [(0, 1, 3), (1, 1, 3)], sh256, 16, z256⟩
def sh257 : Shape := .n [sh3, sh3]
def z257 : CV := .agg [z3, z3]
def ti257 : TI := ⟨.st [(0, 1, 3), (1, 1, 3)], sh257, 16, z257⟩
abbrev sh259 : Shape := .s
abbrev z259 : CV := .sc .nilFunc
def ti259 : TI := ⟨.base (.func #[1] #[257, 4] false), sh259, 8, z259⟩
abbrev sh260 : Shape := .s
abbrev z260 : CV := .sc .nilFunc
def ti260 : TI := ⟨.base (.func #[261] #[39] false), sh260, 8, z260⟩
abbrev sh261 : Shape := .s
abbrev z261 : CV := .sc (.pointer none)
def ti261 : TI := ⟨.base (.pointer 290), sh261, 8, z261⟩
abbrev sh262 : Shape := .s
abbrev z262 : CV := .sc .nilFunc
def ti262 : TI := ⟨.base (.func #[33] #[261] false), sh262, 8, z262⟩
abbrev sh263 : Shape := .s
abbrev z263 : CV := .sc .nilFunc
def ti263 : TI := ⟨.base (.func #[33, 33] #[4] false), sh263, 8, z263⟩
abbrev sh264 : Shape := .s
abbrev z264 : CV := .sc .nilFunc
def ti264 : TI := ⟨.base (.func #[74, 74, 265] #[4] false), sh264, 8, z264⟩
abbrev sh265 : Shape := .s
abbrev z265 : CV := .sc .nilFunc
def ti265 : TI := ⟨.base (.func #[76, 76] #[4] false), sh265, 8, z265⟩
abbrev sh266 : Shape := .s
abbrev z266 : CV := .sc .nilFunc
def ti266 : TI := ⟨.base (.func #[26] #[35] false), sh266, 8, z266⟩
abbrev sh267 : Shape := .s
abbrev z267 : CV := .sc .nilFunc
def ti267 : TI := ⟨.base (.func #[168, 269] #[] false), sh267, 8, z267⟩
abbrev sh268 : Shape := .s
abbrev z268 : CV := .sc .nilFunc
def ti268 : TI := ⟨.base (.func #[3, 3] #[3] false), sh268, 8, z268⟩
abbrev sh269 : Shape := .s
abbrev z269 : CV := .sc .nilFunc
def ti269 : TI := ⟨.base (.func #[227, 227] #[3] false), sh269, 8, z269⟩
abbrev sh270 : Shape := .s
abbrev z270 : CV := .sc .nilFunc
def ti270 : TI := ⟨.base (.func #[100] #[100] false), sh270, 8, z270⟩
abbrev sh271 : Shape := .s
abbrev z271 : CV := .sc .nilFunc
def ti271 : TI := ⟨.base (.func #[27, 231] #[3] false), sh271, 8, z271⟩
abbrev sh272 : Shape := .s
abbrev z272 : CV := .sc (.pointer none)
def ti272 : TI := ⟨.base (.pointer 114), sh272, 8, z272⟩
abbrev sh273 : Shape := .s
abbrev z273 : CV := .sc .nilFunc
def ti273 : TI := ⟨.base (.func #[74, 241] #[3] false), sh273, 8, z273⟩
def sh274 : Shape := .n [sh33, sh3]
def z274 : CV := .agg [z33, z3]
def ti274 : TI := ⟨.st [(0, 1, 33), (1, 1, 3)], sh274, 32, z274⟩
def sh275 : Shape := .n [sh33, sh3]
def z275 : CV := .agg [z33, z3]
def ti275 : TI := ⟨.st [(0, 1, 33), (1, 1, 3)], sh275, 32, z275⟩
abbrev sh276 : Shape := .s
abbrev z276 : CV := .sc .nilFunc
def ti276 : TI := ⟨.base (.func #[35] #[] false), sh276, 8, z276⟩
abbrev sh277 : Shape := .s
abbrev z277 : CV := .sc .nilFunc
def ti277 : TI := ⟨.base (.func #[37] #[74] true), sh277, 8, z277⟩
abbrev sh278 : Shape := .s
abbrev z278 : CV := .sc .nilFunc
def ti278 : TI := ⟨.base (.func #[30, 3, 67] #[4] false), sh278, 8, z278⟩
abbrev sh279 : Shape := .s
abbrev z279 : CV := .sc .nilFunc
def ti279 : TI := ⟨.base (.func #[67] #[67] false), sh279, 8, z279⟩
abbrev sh281 : Shape := .s
abbrev z281 : CV := .sc .nilFunc
def ti281 : TI := ⟨.base (.func #[67] #[67, 4] false), sh281, 8, z281⟩
abbrev sh282 : Shape := .s
abbrev z282 : CV := .sc .nilFunc
def ti282 : TI := ⟨.base (.func #[67] #[3] false), sh282, 8, z282⟩
abbrev sh283 : Shape := .s
abbrev z283 : CV := .sc .nilFunc
def ti283 : TI := ⟨.base (.func #[26, 26] #[4] false), sh283, 8, z283⟩
def sh284 : Shape := .n [sh257]
def z284 : CV := .agg [z257]
def ti284 : TI := ⟨.st [(0, 2, 257)], sh284, 16, z284⟩
def sh285 : Shape := .n [sh257]
def z285 : CV := .agg [z257]
def ti285 : TI := ⟨.st [(0, 2, 257)], sh285, 16, z285⟩
abbrev sh286 : Shape := .s
abbrev z286 : CV := .sc .nilFunc
def ti286 : TI := ⟨.base (.func #[261] #[57] false), sh286, 8, z286⟩
abbrev sh287 : Shape := .s
abbrev z287 : CV := .sc .nilFunc
def ti287 : TI := ⟨.base (.func #[261, 288] #[] false), sh287, 8, z287⟩
abbrev sh288 : Shape := .s
abbrev z288 : CV := .sc (.pointer none)
def ti288 : TI := ⟨.base (.pointer 39), sh288, 8, z288⟩
def sh289 : Shape := .n [sh33, sh3]
def z289 : CV := .agg [z33, z3]
def ti289 : TI := ⟨.st [(0, 1, 33), (1, 1, 3)], sh289, 32, z289⟩
def sh290 : Shape := .n [sh33, sh3]
def z290 : CV := .agg [z33, z3]
def ti290 : TI := ⟨.st [(0, 1, 33), (1, 1, 3)], sh290, 32, z290⟩
abbrev sh291 : Shape := .s
abbrev z291 : CV := .sc .nilFunc
def ti291 : TI := ⟨.base (.func #[168, 3, 269] #[] false), sh291, 8, z291⟩
abbrev sh292 : Shape := .s
abbrev z292 : CV := .sc .nilFunc
def ti292 : TI := ⟨.base (.func #[74, 3] #[74] false), sh292, 8, z292⟩
abbrev sh293 : Shape := .s
abbrev z293 : CV := .sc .nilFunc
def ti293 : TI := ⟨.base (.func #[3] #[57] false), sh293, 8, z293⟩
abbrev sh294 : Shape := .s
abbrev z294 : CV := .sc .nilFunc
def ti294 : TI := ⟨.base (.func #[67, 3, 3] #[67] false), sh294, 8, z294⟩
def sh295 : Shape := .n [sh67, sh57, sh35, sh3, sh252]
def z295 : CV := .agg [z67, z57, z35, z3, z252]
def ti295 : TI := ⟨.st [(0, 12, 67), (12, 3, 57), (15, 1, 35), (16, 1, 3), (17, 1, 252)], sh295, 160, z295⟩
def sh296 : Shape := .n [sh67, sh57, sh35, sh3, sh252]
def z296 : CV := .agg [z67, z57, z35, z3, z252]
def ti296 : TI := ⟨.st [(0, 12, 67), (12, 3, 57), (15, 1, 35), (16, 1, 3), (17, 1, 252)], sh296, 160, z296⟩
abbrev sh298 : Shape := .s
abbrev z298 : CV := .sc .nilFunc
def ti298 : TI := ⟨.base (.func #[27, 296] #[296, 257, 4] false), sh298, 8, z298⟩
abbrev sh300 : Shape := .s
abbrev z300 : CV := .sc .nilFunc
def ti300 : TI := ⟨.base (.func #[3, 3] #[3, 3] false), sh300, 8, z300⟩
abbrev sh301 : Shape := .s
abbrev z301 : CV := .sc .nilFunc
def ti301 : TI := ⟨.base (.func #[67, 67] #[4] false), sh301, 8, z301⟩
abbrev sh302 : Shape := .s
abbrev z302 : CV := .sc .nilFunc
def ti302 : TI := ⟨.base (.func #[4, 3, 3] #[] false), sh302, 8, z302⟩
abbrev sh303 : Shape := .s
abbrev z303 : CV := .sc .nilFunc
def ti303 : TI := ⟨.base (.func #[168, 3, 3, 269] #[] false), sh303, 8, z303⟩
abbrev sh304 : Shape := .s
abbrev z304 : CV := .sc .nilFunc
def ti304 : TI := ⟨.base (.func #[168, 3, 3, 3, 269] #[] false), sh304, 8, z304⟩
abbrev sh305 : Shape := .s
abbrev z305 : CV := .sc .nilFunc
def ti305 : TI := ⟨.base (.func #[296] #[296] false), sh305, 8, z305⟩
abbrev sh306 : Shape := .s
abbrev z306 : CV := .sc (.pointer none)
def ti306 : TI := ⟨.base (.pointer 308), sh306, 8, z306⟩
def sh307 : Shape := .n [sh296, sh27, sh3]
def z307 : CV := .agg [z296, z27, z3]
def ti307 : TI := ⟨.st [(0, 18, 296), (18, 1, 27), (19, 1, 3)], sh307, 192, z307⟩
def sh308 : Shape := .n [sh296, sh27, sh3]
def z308 : CV := .agg [z296, z27, z3]
def ti308 : TI := ⟨.st [(0, 18, 296), (18, 1, 27), (19, 1, 3)], sh308, 192, z308⟩
abbrev sh309 : Shape := .s
abbrev z309 : CV := .sc .nilFunc
def ti309 : TI := ⟨.base (.func #[252] #[252] false), sh309, 8, z309⟩
abbrev sh310 : Shape := .s
abbrev z310 : CV := .sc .nilFunc
def ti310 : TI := ⟨.base (.func #[4, 3] #[] false), sh310, 8, z310⟩
abbrev sh311 : Shape := .s
abbrev z311 : CV := .sc .nilFunc
def ti311 : TI := ⟨.base (.func #[230] #[3] false), sh311, 8, z311⟩
abbrev sh312 : Shape := .s
abbrev z312 : CV := .sc .nilFunc
def ti312 : TI := ⟨.base (.func #[230] #[] false), sh312, 8, z312⟩
abbrev sh313 : Shape := .s
abbrev z313 : CV := .sc (.pointer none)
def ti313 : TI := ⟨.base (.pointer 67), sh313, 8, z313⟩
abbrev sh315 : Shape := .s
abbrev z315 : CV := .sc .nilFunc
def ti315 : TI := ⟨.base (.func #[35, 3] #[35, 3] false), sh315, 8, z315⟩
abbrev sh316 : Shape := .s
abbrev z316 : CV := .sc .nilFunc
def ti316 : TI := ⟨.base (.func #[35] #[35, 3] false), sh316, 8, z316⟩
abbrev sh317 : Shape := .s
abbrev z317 : CV := .sc .nilFunc
def ti317 : TI := ⟨.base (.func #[] #[9] false), sh317, 8, z317⟩
abbrev sh323 : Shape := .s
abbrev z323 : CV := .sc (.int .u32 0)
def ti323 : TI := ⟨.base (.int .u32), sh323, 4, z323⟩
abbrev sh326 : Shape := .s
abbrev z326 : CV := .sc .nilFunc
def ti326 : TI := ⟨.base (.func #[332, 332] #[4] false), sh326, 8, z326⟩
abbrev sh327 : Shape := .s
abbrev z327 : CV := .sc (.pointer none)
def ti327 : TI := ⟨.base (.pointer 5), sh327, 8, z327⟩
def tab : List (TypeId × TI) := [(1, ti1), (2, ti2), (3, ti3), (4, ti4), (5, ti5), (9, ti9), (12, ti12), (15, ti15), (16, ti16), (17, ti17), (20, ti20), (21, ti21), (22, ti22), (23, ti23), (25, ti25), (26, ti26), (27, ti27), (28, ti28), (29, ti29), (30, ti30), (31, ti31), (32, ti32), (33, ti33), (34, ti34), (35, ti35), (36, ti36), (37, ti37), (38, ti38), (39, ti39), (41, ti41), (43, ti43), (44, ti44), (45, ti45), (47, ti47), (48, ti48), (49, ti49), (50, ti50), (51, ti51), (52, ti52), (53, ti53), (55, ti55), (56, ti56), (57, ti57), (58, ti58), (59, ti59), (60, ti60), (61, ti61), (62, ti62), (63, ti63), (64, ti64), (65, ti65), (66, ti66), (67, ti67), (68, ti68), (69, ti69), (70, ti70), (71, ti71), (72, ti72), (73, ti73), (74, ti74), (75, ti75), (76, ti76), (77, ti77), (79, ti79), (80, ti80), (81, ti81), (82, ti82), (83, ti83), (84, ti84), (85, ti85), (86, ti86), (88, ti88), (89, ti89), (91, ti91), (92, ti92), (93, ti93), (94, ti94), (95, ti95), (96, ti96), (97, ti97), (98, ti98), (99, ti99), (100, ti100), (101, ti101), (102, ti102), (103, ti103), (104, ti104), (105, ti105), (106, ti106), (108, ti108), (109, ti109), (110, ti110), (111, ti111), (112, ti112), (113, ti113), (114, ti114), (115, ti115), (116, ti116), (117, ti117), (118, ti118), (119, ti119), (120, ti120), (121, ti121), (122, ti122), (124, ti124), (125, ti125), (126, ti126), (127, ti127), (128, ti128), (129, ti129), (130, ti130), (131, ti131), (132, ti132), (134, ti134), (135, ti135), (136, ti136), (137, ti137), (138, ti138), (139, ti139), (140, ti140), (141, ti141), (142, ti142), (143, ti143), (144, ti144), (145, ti145), (146, ti146), (147, ti147), (148, ti148), (149, ti149), (150, ti150), (151, ti151), (152, ti152), (153, ti153), (154, ti154), (155, ti155), (156, ti156), (158, ti158), (159, ti159), (161, ti161), (162, ti162), (163, ti163), (164, ti164), (165, ti165), (167, ti167), (168, ti168), (169, ti169), (170, ti170), (171, ti171), (172, ti172), (173, ti173), (174, ti174), (175, ti175), (176, ti176), (177, ti177), (178, ti178), (179, ti179), (180, ti180), (181, ti181), (183, ti183), (184, ti184), (185, ti185), (186, ti186), (187, ti187), (188, ti188), (189, ti189), (190, ti190), (191, ti191), (192, ti192), (193, ti193), (194, ti194), (195, ti195), (196, ti196), (197, ti197), (198, ti198), (199, ti199), (200, ti200), (201, ti201), (202, ti202), (203, ti203), (204, ti204), (205, ti205), (206, ti206), (207, ti207), (208, ti208), (209, ti209), (210, ti210), (211, ti211), (212, ti212), (213, ti213), (214, ti214), (215, ti215), (216, ti216), (217, ti217), (218, ti218), (219, ti219), (220, ti220), (221, ti221), (222, ti222), (223, ti223), (224, ti224), (225, ti225), (226, ti226), (227, ti227), (228, ti228), (229, ti229), (230, ti230), (231, ti231), (232, ti232), (233, ti233), (235, ti235), (236, ti236), (237, ti237), (238, ti238), (239, ti239), (240, ti240), (241, ti241), (242, ti242), (243, ti243), (244, ti244), (245, ti245), (246, ti246), (247, ti247), (248, ti248), (249, ti249), (250, ti250), (251, ti251), (252, ti252), (253, ti253), (254, ti254), (255, ti255), (256, ti256), (257, ti257), (259, ti259), (260, ti260), (261, ti261), (262, ti262), (263, ti263), (264, ti264), (265, ti265), (266, ti266), (267, ti267), (268, ti268), (269, ti269), (270, ti270), (271, ti271), (272, ti272), (273, ti273), (274, ti274), (275, ti275), (276, ti276), (277, ti277), (278, ti278), (279, ti279), (281, ti281), (282, ti282), (283, ti283), (284, ti284), (285, ti285), (286, ti286), (287, ti287), (288, ti288), (289, ti289), (290, ti290), (291, ti291), (292, ti292), (293, ti293), (294, ti294), (295, ti295), (296, ti296), (298, ti298), (300, ti300), (301, ti301), (302, ti302), (303, ti303), (304, ti304), (305, ti305), (306, ti306), (307, ti307), (308, ti308), (309, ti309), (310, ti310), (311, ti311), (312, ti312), (313, ti313), (315, ti315), (316, ti316), (317, ti317), (323, ti323), (326, ti326), (327, ti327)]
theorem tab_ok : tab.all (tiB Tryz.prog) = true := by kernel_rfl
noncomputable def C : Ctx := mkCtx Tryz.prog (by kernel_rfl) tab tab_ok
theorem tt1 : C.tt 1 = some ti1 := by kernel_rfl
theorem tt2 : C.tt 2 = some ti2 := by kernel_rfl
theorem tt3 : C.tt 3 = some ti3 := by kernel_rfl
theorem tt4 : C.tt 4 = some ti4 := by kernel_rfl
theorem tt5 : C.tt 5 = some ti5 := by kernel_rfl
theorem tt9 : C.tt 9 = some ti9 := by kernel_rfl
theorem tt12 : C.tt 12 = some ti12 := by kernel_rfl
theorem tt15 : C.tt 15 = some ti15 := by kernel_rfl
theorem tt16 : C.tt 16 = some ti16 := by kernel_rfl
theorem tt17 : C.tt 17 = some ti17 := by kernel_rfl
theorem tt20 : C.tt 20 = some ti20 := by kernel_rfl
theorem tt21 : C.tt 21 = some ti21 := by kernel_rfl
theorem tt22 : C.tt 22 = some ti22 := by kernel_rfl
theorem tt23 : C.tt 23 = some ti23 := by kernel_rfl
theorem tt25 : C.tt 25 = some ti25 := by kernel_rfl
theorem tt26 : C.tt 26 = some ti26 := by kernel_rfl
theorem tt27 : C.tt 27 = some ti27 := by kernel_rfl
theorem tt28 : C.tt 28 = some ti28 := by kernel_rfl
theorem tt29 : C.tt 29 = some ti29 := by kernel_rfl
theorem tt30 : C.tt 30 = some ti30 := by kernel_rfl
theorem tt31 : C.tt 31 = some ti31 := by kernel_rfl
theorem tt32 : C.tt 32 = some ti32 := by kernel_rfl
theorem tt33 : C.tt 33 = some ti33 := by kernel_rfl
theorem tt34 : C.tt 34 = some ti34 := by kernel_rfl
theorem tt35 : C.tt 35 = some ti35 := by kernel_rfl
theorem tt36 : C.tt 36 = some ti36 := by kernel_rfl
theorem tt37 : C.tt 37 = some ti37 := by kernel_rfl
theorem tt38 : C.tt 38 = some ti38 := by kernel_rfl
theorem tt39 : C.tt 39 = some ti39 := by kernel_rfl
theorem tt41 : C.tt 41 = some ti41 := by kernel_rfl
theorem tt43 : C.tt 43 = some ti43 := by kernel_rfl
theorem tt44 : C.tt 44 = some ti44 := by kernel_rfl
theorem tt45 : C.tt 45 = some ti45 := by kernel_rfl
theorem tt47 : C.tt 47 = some ti47 := by kernel_rfl
theorem tt48 : C.tt 48 = some ti48 := by kernel_rfl
theorem tt49 : C.tt 49 = some ti49 := by kernel_rfl
theorem tt50 : C.tt 50 = some ti50 := by kernel_rfl
theorem tt51 : C.tt 51 = some ti51 := by kernel_rfl
theorem tt52 : C.tt 52 = some ti52 := by kernel_rfl
theorem tt53 : C.tt 53 = some ti53 := by kernel_rfl
theorem tt55 : C.tt 55 = some ti55 := by kernel_rfl
theorem tt56 : C.tt 56 = some ti56 := by kernel_rfl
theorem tt57 : C.tt 57 = some ti57 := by kernel_rfl
theorem tt58 : C.tt 58 = some ti58 := by kernel_rfl
theorem tt59 : C.tt 59 = some ti59 := by kernel_rfl
theorem tt60 : C.tt 60 = some ti60 := by kernel_rfl
theorem tt61 : C.tt 61 = some ti61 := by kernel_rfl
theorem tt62 : C.tt 62 = some ti62 := by kernel_rfl
theorem tt63 : C.tt 63 = some ti63 := by kernel_rfl
theorem tt64 : C.tt 64 = some ti64 := by kernel_rfl
theorem tt65 : C.tt 65 = some ti65 := by kernel_rfl
theorem tt66 : C.tt 66 = some ti66 := by kernel_rfl
theorem tt67 : C.tt 67 = some ti67 := by kernel_rfl
theorem tt68 : C.tt 68 = some ti68 := by kernel_rfl
theorem tt69 : C.tt 69 = some ti69 := by kernel_rfl
theorem tt70 : C.tt 70 = some ti70 := by kernel_rfl
theorem tt71 : C.tt 71 = some ti71 := by kernel_rfl
theorem tt72 : C.tt 72 = some ti72 := by kernel_rfl
theorem tt73 : C.tt 73 = some ti73 := by kernel_rfl
theorem tt74 : C.tt 74 = some ti74 := by kernel_rfl
theorem tt75 : C.tt 75 = some ti75 := by kernel_rfl
theorem tt76 : C.tt 76 = some ti76 := by kernel_rfl
theorem tt77 : C.tt 77 = some ti77 := by kernel_rfl
theorem tt79 : C.tt 79 = some ti79 := by kernel_rfl
theorem tt80 : C.tt 80 = some ti80 := by kernel_rfl
theorem tt81 : C.tt 81 = some ti81 := by kernel_rfl
theorem tt82 : C.tt 82 = some ti82 := by kernel_rfl
theorem tt83 : C.tt 83 = some ti83 := by kernel_rfl
theorem tt84 : C.tt 84 = some ti84 := by kernel_rfl
theorem tt85 : C.tt 85 = some ti85 := by kernel_rfl
theorem tt86 : C.tt 86 = some ti86 := by kernel_rfl
theorem tt88 : C.tt 88 = some ti88 := by kernel_rfl
theorem tt89 : C.tt 89 = some ti89 := by kernel_rfl
theorem tt91 : C.tt 91 = some ti91 := by kernel_rfl
theorem tt92 : C.tt 92 = some ti92 := by kernel_rfl
theorem tt93 : C.tt 93 = some ti93 := by kernel_rfl
theorem tt94 : C.tt 94 = some ti94 := by kernel_rfl
theorem tt95 : C.tt 95 = some ti95 := by kernel_rfl
theorem tt96 : C.tt 96 = some ti96 := by kernel_rfl
theorem tt97 : C.tt 97 = some ti97 := by kernel_rfl
theorem tt98 : C.tt 98 = some ti98 := by kernel_rfl
theorem tt99 : C.tt 99 = some ti99 := by kernel_rfl
theorem tt100 : C.tt 100 = some ti100 := by kernel_rfl
theorem tt101 : C.tt 101 = some ti101 := by kernel_rfl
theorem tt102 : C.tt 102 = some ti102 := by kernel_rfl
theorem tt103 : C.tt 103 = some ti103 := by kernel_rfl
theorem tt104 : C.tt 104 = some ti104 := by kernel_rfl
theorem tt105 : C.tt 105 = some ti105 := by kernel_rfl
theorem tt106 : C.tt 106 = some ti106 := by kernel_rfl
theorem tt108 : C.tt 108 = some ti108 := by kernel_rfl
theorem tt109 : C.tt 109 = some ti109 := by kernel_rfl
theorem tt110 : C.tt 110 = some ti110 := by kernel_rfl
theorem tt111 : C.tt 111 = some ti111 := by kernel_rfl
theorem tt112 : C.tt 112 = some ti112 := by kernel_rfl
theorem tt113 : C.tt 113 = some ti113 := by kernel_rfl
theorem tt114 : C.tt 114 = some ti114 := by kernel_rfl
theorem tt115 : C.tt 115 = some ti115 := by kernel_rfl
theorem tt116 : C.tt 116 = some ti116 := by kernel_rfl
theorem tt117 : C.tt 117 = some ti117 := by kernel_rfl
theorem tt118 : C.tt 118 = some ti118 := by kernel_rfl
theorem tt119 : C.tt 119 = some ti119 := by kernel_rfl
theorem tt120 : C.tt 120 = some ti120 := by kernel_rfl
theorem tt121 : C.tt 121 = some ti121 := by kernel_rfl
theorem tt122 : C.tt 122 = some ti122 := by kernel_rfl
theorem tt124 : C.tt 124 = some ti124 := by kernel_rfl
theorem tt125 : C.tt 125 = some ti125 := by kernel_rfl
theorem tt126 : C.tt 126 = some ti126 := by kernel_rfl
theorem tt127 : C.tt 127 = some ti127 := by kernel_rfl
theorem tt128 : C.tt 128 = some ti128 := by kernel_rfl
theorem tt129 : C.tt 129 = some ti129 := by kernel_rfl
theorem tt130 : C.tt 130 = some ti130 := by kernel_rfl
theorem tt131 : C.tt 131 = some ti131 := by kernel_rfl
theorem tt132 : C.tt 132 = some ti132 := by kernel_rfl
theorem tt134 : C.tt 134 = some ti134 := by kernel_rfl
theorem tt135 : C.tt 135 = some ti135 := by kernel_rfl
theorem tt136 : C.tt 136 = some ti136 := by kernel_rfl
theorem tt137 : C.tt 137 = some ti137 := by kernel_rfl
theorem tt138 : C.tt 138 = some ti138 := by kernel_rfl
theorem tt139 : C.tt 139 = some ti139 := by kernel_rfl
theorem tt140 : C.tt 140 = some ti140 := by kernel_rfl
theorem tt141 : C.tt 141 = some ti141 := by kernel_rfl
theorem tt142 : C.tt 142 = some ti142 := by kernel_rfl
theorem tt143 : C.tt 143 = some ti143 := by kernel_rfl
theorem tt144 : C.tt 144 = some ti144 := by kernel_rfl
theorem tt145 : C.tt 145 = some ti145 := by kernel_rfl
theorem tt146 : C.tt 146 = some ti146 := by kernel_rfl
theorem tt147 : C.tt 147 = some ti147 := by kernel_rfl
theorem tt148 : C.tt 148 = some ti148 := by kernel_rfl
theorem tt149 : C.tt 149 = some ti149 := by kernel_rfl
theorem tt150 : C.tt 150 = some ti150 := by kernel_rfl
theorem tt151 : C.tt 151 = some ti151 := by kernel_rfl
theorem tt152 : C.tt 152 = some ti152 := by kernel_rfl
theorem tt153 : C.tt 153 = some ti153 := by kernel_rfl
theorem tt154 : C.tt 154 = some ti154 := by kernel_rfl
theorem tt155 : C.tt 155 = some ti155 := by kernel_rfl
theorem tt156 : C.tt 156 = some ti156 := by kernel_rfl
theorem tt158 : C.tt 158 = some ti158 := by kernel_rfl
theorem tt159 : C.tt 159 = some ti159 := by kernel_rfl
theorem tt161 : C.tt 161 = some ti161 := by kernel_rfl
theorem tt162 : C.tt 162 = some ti162 := by kernel_rfl
theorem tt163 : C.tt 163 = some ti163 := by kernel_rfl
theorem tt164 : C.tt 164 = some ti164 := by kernel_rfl
theorem tt165 : C.tt 165 = some ti165 := by kernel_rfl
theorem tt167 : C.tt 167 = some ti167 := by kernel_rfl
theorem tt168 : C.tt 168 = some ti168 := by kernel_rfl
theorem tt169 : C.tt 169 = some ti169 := by kernel_rfl
theorem tt170 : C.tt 170 = some ti170 := by kernel_rfl
theorem tt171 : C.tt 171 = some ti171 := by kernel_rfl
theorem tt172 : C.tt 172 = some ti172 := by kernel_rfl
theorem tt173 : C.tt 173 = some ti173 := by kernel_rfl
theorem tt174 : C.tt 174 = some ti174 := by kernel_rfl
theorem tt175 : C.tt 175 = some ti175 := by kernel_rfl
theorem tt176 : C.tt 176 = some ti176 := by kernel_rfl
theorem tt177 : C.tt 177 = some ti177 := by kernel_rfl
theorem tt178 : C.tt 178 = some ti178 := by kernel_rfl
theorem tt179 : C.tt 179 = some ti179 := by kernel_rfl
theorem tt180 : C.tt 180 = some ti180 := by kernel_rfl
theorem tt181 : C.tt 181 = some ti181 := by kernel_rfl
theorem tt183 : C.tt 183 = some ti183 := by kernel_rfl
theorem tt184 : C.tt 184 = some ti184 := by kernel_rfl
theorem tt185 : C.tt 185 = some ti185 := by kernel_rfl
theorem tt186 : C.tt 186 = some ti186 := by kernel_rfl
theorem tt187 : C.tt 187 = some ti187 := by kernel_rfl
theorem tt188 : C.tt 188 = some ti188 := by kernel_rfl
theorem tt189 : C.tt 189 = some ti189 := by kernel_rfl
theorem tt190 : C.tt 190 = some ti190 := by kernel_rfl
theorem tt191 : C.tt 191 = some ti191 := by kernel_rfl
theorem tt192 : C.tt 192 = some ti192 := by kernel_rfl
theorem tt193 : C.tt 193 = some ti193 := by kernel_rfl
theorem tt194 : C.tt 194 = some ti194 := by kernel_rfl
theorem tt195 : C.tt 195 = some ti195 := by kernel_rfl
theorem tt196 : C.tt 196 = some ti196 := by kernel_rfl
theorem tt197 : C.tt 197 = some ti197 := by kernel_rfl
theorem tt198 : C.tt 198 = some ti198 := by kernel_rfl
theorem tt199 : C.tt 199 = some ti199 := by kernel_rfl
theorem tt200 : C.tt 200 = some ti200 := by kernel_rfl
theorem tt201 : C.tt 201 = some ti201 := by kernel_rfl
theorem tt202 : C.tt 202 = some ti202 := by kernel_rfl
theorem tt203 : C.tt 203 = some ti203 := by kernel_rfl
theorem tt204 : C.tt 204 = some ti204 := by kernel_rfl
theorem tt205 : C.tt 205 = some ti205 := by kernel_rfl
theorem tt206 : C.tt 206 = some ti206 := by kernel_rfl
theorem tt207 : C.tt 207 = some ti207 := by kernel_rfl
theorem tt208 : C.tt 208 = some ti208 := by kernel_rfl
theorem tt209 : C.tt 209 = some ti209 := by kernel_rfl
theorem tt210 : C.tt 210 = some ti210 := by kernel_rfl
theorem tt211 : C.tt 211 = some ti211 := by kernel_rfl
theorem tt212 : C.tt 212 = some ti212 := by kernel_rfl
theorem tt213 : C.tt 213 = some ti213 := by kernel_rfl
theorem tt214 : C.tt 214 = some ti214 := by kernel_rfl
theorem tt215 : C.tt 215 = some ti215 := by kernel_rfl
theorem tt216 : C.tt 216 = some ti216 := by kernel_rfl
theorem tt217 : C.tt 217 = some ti217 := by kernel_rfl
theorem tt218 : C.tt 218 = some ti218 := by kernel_rfl
theorem tt219 : C.tt 219 = some ti219 := by kernel_rfl
theorem tt220 : C.tt 220 = some ti220 := by kernel_rfl
theorem tt221 : C.tt 221 = some ti221 := by kernel_rfl
theorem tt222 : C.tt 222 = some ti222 := by kernel_rfl
theorem tt223 : C.tt 223 = some ti223 := by kernel_rfl
theorem tt224 : C.tt 224 = some ti224 := by kernel_rfl
theorem tt225 : C.tt 225 = some ti225 := by kernel_rfl
theorem tt226 : C.tt 226 = some ti226 := by kernel_rfl
theorem tt227 : C.tt 227 = some ti227 := by kernel_rfl
theorem tt228 : C.tt 228 = some ti228 := by kernel_rfl
theorem tt229 : C.tt 229 = some ti229 := by kernel_rfl
theorem tt230 : C.tt 230 = some ti230 := by kernel_rfl
theorem tt231 : C.tt 231 = some ti231 := by kernel_rfl
theorem tt232 : C.tt 232 = some ti232 := by kernel_rfl
theorem tt233 : C.tt 233 = some ti233 := by kernel_rfl
theorem tt235 : C.tt 235 = some ti235 := by kernel_rfl
theorem tt236 : C.tt 236 = some ti236 := by kernel_rfl
theorem tt237 : C.tt 237 = some ti237 := by kernel_rfl
theorem tt238 : C.tt 238 = some ti238 := by kernel_rfl
theorem tt239 : C.tt 239 = some ti239 := by kernel_rfl
theorem tt240 : C.tt 240 = some ti240 := by kernel_rfl
theorem tt241 : C.tt 241 = some ti241 := by kernel_rfl
theorem tt242 : C.tt 242 = some ti242 := by kernel_rfl
theorem tt243 : C.tt 243 = some ti243 := by kernel_rfl
theorem tt244 : C.tt 244 = some ti244 := by kernel_rfl
theorem tt245 : C.tt 245 = some ti245 := by kernel_rfl
theorem tt246 : C.tt 246 = some ti246 := by kernel_rfl
theorem tt247 : C.tt 247 = some ti247 := by kernel_rfl
theorem tt248 : C.tt 248 = some ti248 := by kernel_rfl
theorem tt249 : C.tt 249 = some ti249 := by kernel_rfl
theorem tt250 : C.tt 250 = some ti250 := by kernel_rfl
theorem tt251 : C.tt 251 = some ti251 := by kernel_rfl
theorem tt252 : C.tt 252 = some ti252 := by kernel_rfl
theorem tt253 : C.tt 253 = some ti253 := by kernel_rfl
theorem tt254 : C.tt 254 = some ti254 := by kernel_rfl
theorem tt255 : C.tt 255 = some ti255 := by kernel_rfl
theorem tt256 : C.tt 256 = some ti256 := by kernel_rfl
theorem tt257 : C.tt 257 = some ti257 := by kernel_rfl
theorem tt259 : C.tt 259 = some ti259 := by kernel_rfl
theorem tt260 : C.tt 260 = some ti260 := by kernel_rfl
theorem tt261 : C.tt 261 = some ti261 := by kernel_rfl
theorem tt262 : C.tt 262 = some ti262 := by kernel_rfl
theorem tt263 : C.tt 263 = some ti263 := by kernel_rfl
theorem tt264 : C.tt 264 = some ti264 := by kernel_rfl
theorem tt265 : C.tt 265 = some ti265 := by kernel_rfl
theorem tt266 : C.tt 266 = some ti266 := by kernel_rfl
theorem tt267 : C.tt 267 = some ti267 := by kernel_rfl
theorem tt268 : C.tt 268 = some ti268 := by kernel_rfl
theorem tt269 : C.tt 269 = some ti269 := by kernel_rfl
theorem tt270 : C.tt 270 = some ti270 := by kernel_rfl
theorem tt271 : C.tt 271 = some ti271 := by kernel_rfl
theorem tt272 : C.tt 272 = some ti272 := by kernel_rfl
theorem tt273 : C.tt 273 = some ti273 := by kernel_rfl
theorem tt274 : C.tt 274 = some ti274 := by kernel_rfl
theorem tt275 : C.tt 275 = some ti275 := by kernel_rfl
theorem tt276 : C.tt 276 = some ti276 := by kernel_rfl
theorem tt277 : C.tt 277 = some ti277 := by kernel_rfl
theorem tt278 : C.tt 278 = some ti278 := by kernel_rfl
theorem tt279 : C.tt 279 = some ti279 := by kernel_rfl
theorem tt281 : C.tt 281 = some ti281 := by kernel_rfl
theorem tt282 : C.tt 282 = some ti282 := by kernel_rfl
theorem tt283 : C.tt 283 = some ti283 := by kernel_rfl
theorem tt284 : C.tt 284 = some ti284 := by kernel_rfl
theorem tt285 : C.tt 285 = some ti285 := by kernel_rfl
theorem tt286 : C.tt 286 = some ti286 := by kernel_rfl
theorem tt287 : C.tt 287 = some ti287 := by kernel_rfl
theorem tt288 : C.tt 288 = some ti288 := by kernel_rfl
theorem tt289 : C.tt 289 = some ti289 := by kernel_rfl
theorem tt290 : C.tt 290 = some ti290 := by kernel_rfl
theorem tt291 : C.tt 291 = some ti291 := by kernel_rfl
theorem tt292 : C.tt 292 = some ti292 := by kernel_rfl
theorem tt293 : C.tt 293 = some ti293 := by kernel_rfl
theorem tt294 : C.tt 294 = some ti294 := by kernel_rfl
theorem tt295 : C.tt 295 = some ti295 := by kernel_rfl
theorem tt296 : C.tt 296 = some ti296 := by kernel_rfl
theorem tt298 : C.tt 298 = some ti298 := by kernel_rfl
theorem tt300 : C.tt 300 = some ti300 := by kernel_rfl
theorem tt301 : C.tt 301 = some ti301 := by kernel_rfl
theorem tt302 : C.tt 302 = some ti302 := by kernel_rfl
theorem tt303 : C.tt 303 = some ti303 := by kernel_rfl
theorem tt304 : C.tt 304 = some ti304 := by kernel_rfl
theorem tt305 : C.tt 305 = some ti305 := by kernel_rfl
theorem tt306 : C.tt 306 = some ti306 := by kernel_rfl
theorem tt307 : C.tt 307 = some ti307 := by kernel_rfl
theorem tt308 : C.tt 308 = some ti308 := by kernel_rfl
theorem tt309 : C.tt 309 = some ti309 := by kernel_rfl
theorem tt310 : C.tt 310 = some ti310 := by kernel_rfl
theorem tt311 : C.tt 311 = some ti311 := by kernel_rfl
theorem tt312 : C.tt 312 = some ti312 := by kernel_rfl
theorem tt313 : C.tt 313 = some ti313 := by kernel_rfl
theorem tt315 : C.tt 315 = some ti315 := by kernel_rfl
theorem tt316 : C.tt 316 = some ti316 := by kernel_rfl
theorem tt317 : C.tt 317 = some ti317 := by kernel_rfl
theorem tt323 : C.tt 323 = some ti323 := by kernel_rfl
theorem tt326 : C.tt 326 = some ti326 := by kernel_rfl
theorem tt327 : C.tt 327 = some ti327 := by kernel_rfl
end Go.Proofs.YtcjkapadadonlaaGreat
