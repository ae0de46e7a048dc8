import Derived.Test.YtpchcfkebljopaaChecked
import Derived.Test.YtpchcfkebljopaaRows
import Derived.Test.YtpchcfkebljopaaXf
set_option linter.unusedSimpArgs false
set_option linter.unusedVariables false
set_option linter.constructorNameAsVariable false
set_option linter.defProp false
set_option maxHeartbeats 8000000
section
namespace Go.Proofs.Ytpchcfkebljopaa
open Go.Cl
abbrev sh1: Shape:=.s
abbrev z1: CV:=.sc .nilFunc
def ti1: TI:=⟨.base (.func #[] #[] false),sh1,8,z1⟩
abbrev sh2: Shape:=.s
abbrev z2: CV:=.sc (.int .i64 0)
def ti2: TI:=⟨.base (.int .i64),sh2,8,z2⟩
abbrev sh3: Shape:=.s
abbrev z3: CV:=.sc (.int .i64 0)
def ti3: TI:=⟨.base (.int .i64),sh3,8,z3⟩
abbrev sh4: Shape:=.s
abbrev z4: CV:=.sc (.bool false)
def ti4: TI:=⟨.base (.bool),sh4,1,z4⟩
abbrev sh5: Shape:=.s
abbrev z5: CV:=.sc (.int .u8 0)
def ti5: TI:=⟨.base (.int .u8),sh5,1,z5⟩
abbrev sh9: Shape:=.s
abbrev z9: CV:=.sc (.string ⟨#[]⟩)
def ti9: TI:=⟨.base (.string),sh9,16,z9⟩
abbrev sh12: Shape:=.s
abbrev z12: CV:=.sc (.int .u64 0)
def ti12: TI:=⟨.base (.int .u64),sh12,8,z12⟩
abbrev sh15: Shape:=.s
abbrev z15: CV:=.sc (.pointer none)
def ti15: TI:=⟨.base (.pointer 243),sh15,8,z15⟩
abbrev sh16: Shape:=.s
abbrev z16: CV:=.sc (.pointer none)
def ti16: TI:=⟨.base (.pointer 246),sh16,8,z16⟩
abbrev sh17: Shape:=.s
abbrev z17: CV:=.sc (.pointer none)
def ti17: TI:=⟨.base (.pointer 255),sh17,8,z17⟩
abbrev sh20: Shape:=.s
abbrev z20: CV:=.sc .nilIface
def ti20: TI:=⟨.base (.interface #[]),sh20,16,z20⟩
abbrev sh21: Shape:=.s
abbrev z21: CV:=.sc (.int .i32 0)
def ti21: TI:=⟨.base (.int .i32),sh21,4,z21⟩
abbrev sh22: Shape:=.s
abbrev z22: CV:=.lst .nil []
def ti22: TI:=⟨.base (.slice 31),sh22,24,z22⟩
abbrev sh23: Shape:=.s
abbrev z23: CV:=.lst .nil []
def ti23: TI:=⟨.base (.slice 29),sh23,24,z23⟩
abbrev sh24: Shape:=.s
abbrev z24: CV:=.lst .nil []
def ti24: TI:=⟨.base (.slice 3),sh24,24,z24⟩
abbrev sh25: Shape:=.s
abbrev z25: CV:=.sc (.int .u64 0)
def ti25: TI:=⟨.base (.int .u64),sh25,8,z25⟩
def sh26: Shape:=.n [sh3,sh3,sh3,sh3,sh3,sh3,sh24,sh25,sh3]
def z26: CV:=.agg [z3,z3,z3,z3,z3,z3,z24,z25,z3]
def ti26: TI:=⟨.st [(0,1,3),(1,1,3),(2,1,3),(3,1,3),(4,1,3),(5,1,3),(6,1,24),(7,1,25),(8,1,3)],sh26,88,z26⟩
def sh27: Shape:=.n [sh3,sh3,sh3,sh3,sh3,sh3,sh24,sh25,sh3]
def z27: CV:=.agg [z3,z3,z3,z3,z3,z3,z24,z25,z3]
def ti27: TI:=⟨.st [(0,1,3),(1,1,3),(2,1,3),(3,1,3),(4,1,3),(5,1,3),(6,1,24),(7,1,25),(8,1,3)],sh27,88,z27⟩
def sh28: Shape:=.n [sh3,sh3,sh3]
def z28: CV:=.agg [z3,z3,z3]
def ti28: TI:=⟨.st [(0,1,3),(1,1,3),(2,1,3)],sh28,24,z28⟩
def sh29: Shape:=.n [sh3,sh3,sh3]
def z29: CV:=.agg [z3,z3,z3]
def ti29: TI:=⟨.st [(0,1,3),(1,1,3),(2,1,3)],sh29,24,z29⟩
abbrev sh30: Shape:=.s
abbrev z30: CV:=.sc .nilFunc
def ti30: TI:=⟨.base (.func #[31] #[29] false),sh30,8,z30⟩
def sh31: Shape:=.n [sh3,sh3,sh3]
def z31: CV:=.agg [z3,z3,z3]
def ti31: TI:=⟨.st [(0,1,3),(1,1,3),(2,1,3)],sh31,24,z31⟩
def sh32: Shape:=.n (List.replicate 4 sh3)
def z32: CV:=.agg (List.replicate 4 z3)
def ti32: TI:=⟨.ar 4 1 3,sh32,32,z32⟩
def sh33: Shape:=.n [sh3,sh3,sh3,sh3,sh3,sh3,sh3,sh32,sh3]
def z33: CV:=.agg [z3,z3,z3,z3,z3,z3,z3,z32,z3]
def ti33: TI:=⟨.st [(0,1,3),(1,1,3),(2,1,3),(3,1,3),(4,1,3),(5,1,3),(6,1,3),(7,4,32),(11,1,3)],sh33,96,z33⟩
def sh34: Shape:=.n [sh3,sh3,sh3,sh3,sh3,sh3,sh3,sh32,sh3]
def z34: CV:=.agg [z3,z3,z3,z3,z3,z3,z3,z32,z3]
def ti34: TI:=⟨.st [(0,1,3),(1,1,3),(2,1,3),(3,1,3),(4,1,3),(5,1,3),(6,1,3),(7,4,32),(11,1,3)],sh34,96,z34⟩
def sh35: Shape:=.n [sh3,sh3,sh3]
def z35: CV:=.agg [z3,z3,z3]
def ti35: TI:=⟨.st [(0,1,3),(1,1,3),(2,1,3)],sh35,24,z35⟩
def sh36: Shape:=.n [sh3,sh3,sh3]
def z36: CV:=.agg [z3,z3,z3]
def ti36: TI:=⟨.st [(0,1,3),(1,1,3),(2,1,3)],sh36,24,z36⟩
abbrev sh37: Shape:=.s
abbrev z37: CV:=.lst .nil []
def ti37: TI:=⟨.base (.slice 34),sh37,24,z37⟩
def sh38: Shape:=.n [sh34,sh36,sh25,sh3,sh37]
def z38: CV:=.agg [z34,z36,z25,z3,z37]
def ti38: TI:=⟨.st [(0,12,34),(12,3,36),(15,1,25),(16,1,3),(17,1,37)],sh38,160,z38⟩
def sh39: Shape:=.n [sh34,sh36,sh25,sh3,sh37]
def z39: CV:=.agg [z34,z36,z25,z3,z37]
def ti39: TI:=⟨.st [(0,12,34),(12,3,36),(15,1,25),(16,1,3),(17,1,37)],sh39,160,z39⟩
abbrev sh40: Shape:=.s
abbrev z40: CV:=.sc .nilFunc
def ti40: TI:=⟨.base (.func #[27] #[39] false),sh40,8,z40⟩
abbrev sh41: Shape:=.s
abbrev z41: CV:=.sc .nilFunc
def ti41: TI:=⟨.base (.func #[] #[4] false),sh41,8,z41⟩
abbrev sh42: Shape:=.s
abbrev z42: CV:=.sc .nilFunc
def ti42: TI:=⟨.base (.func #[34] #[4] false),sh42,8,z42⟩
def sh43: Shape:=.n [sh3,sh3]
def z43: CV:=.agg [z3,z3]
def ti43: TI:=⟨.st [(0,1,3),(1,1,3)],sh43,16,z43⟩
def sh44: Shape:=.n [sh3,sh3]
def z44: CV:=.agg [z3,z3]
def ti44: TI:=⟨.st [(0,1,3),(1,1,3)],sh44,16,z44⟩
abbrev sh46: Shape:=.s
abbrev z46: CV:=.sc .nilFunc
def ti46: TI:=⟨.base (.func #[23,39] #[39,44,4] false),sh46,8,z46⟩
abbrev sh47: Shape:=.s
abbrev z47: CV:=.sc .nilFunc
def ti47: TI:=⟨.base (.func #[39,39] #[4] false),sh47,8,z47⟩
abbrev sh48: Shape:=.s
abbrev z48: CV:=.sc .nilFunc
def ti48: TI:=⟨.base (.func #[22,23,27] #[4] false),sh48,8,z48⟩
abbrev sh49: Shape:=.s
abbrev z49: CV:=.sc .nilFunc
def ti49: TI:=⟨.base (.func #[22] #[23] false),sh49,8,z49⟩
abbrev sh50: Shape:=.s
abbrev z50: CV:=.sc .nilFunc
def ti50: TI:=⟨.base (.func #[22,22,27] #[4] false),sh50,8,z50⟩
def sh51: Shape:=.n [sh34,sh36,sh25,sh3,sh37]
def z51: CV:=.agg [z34,z36,z25,z3,z37]
def ti51: TI:=⟨.st [(0,12,34),(12,3,36),(15,1,25),(16,1,3),(17,1,37)],sh51,160,z51⟩
abbrev sh53: Shape:=.s
abbrev z53: CV:=.sc .nilFunc
def ti53: TI:=⟨.base (.func #[23,51] #[51,3,3,4] false),sh53,8,z53⟩
abbrev sh54: Shape:=.s
abbrev z54: CV:=.sc .nilFunc
def ti54: TI:=⟨.base (.func #[23] #[4] false),sh54,8,z54⟩
abbrev sh55: Shape:=.s
abbrev z55: CV:=.sc .nilFunc
def ti55: TI:=⟨.base (.func #[22,27] #[4] false),sh55,8,z55⟩
def sh56: Shape:=.n [sh3,sh3,sh3,sh3,sh3,sh3,sh3,sh22]
def z56: CV:=.agg [z3,z3,z3,z3,z3,z3,z3,z22]
def ti56: TI:=⟨.st [(0,1,3),(1,1,3),(2,1,3),(3,1,3),(4,1,3),(5,1,3),(6,1,3),(7,1,22)],sh56,80,z56⟩
def sh57: Shape:=.n [sh3,sh3,sh3,sh3,sh3,sh3,sh3,sh22]
def z57: CV:=.agg [z3,z3,z3,z3,z3,z3,z3,z22]
def ti57: TI:=⟨.st [(0,1,3),(1,1,3),(2,1,3),(3,1,3),(4,1,3),(5,1,3),(6,1,3),(7,1,22)],sh57,80,z57⟩
abbrev sh58: Shape:=.s
abbrev z58: CV:=.lst .nil []
def ti58: TI:=⟨.base (.slice 24),sh58,24,z58⟩
abbrev sh59: Shape:=.s
abbrev z59: CV:=.sc (.float .f64 0)
def ti59: TI:=⟨.base (.float .f64),sh59,8,z59⟩
def sh60: Shape:=.n [sh3,sh3,sh3,sh3,sh3,sh3,sh59,sh59,sh23,sh24]
def z60: CV:=.agg [z3,z3,z3,z3,z3,z3,z59,z59,z23,z24]
def ti60: TI:=⟨.st [(0,1,3),(1,1,3),(2,1,3),(3,1,3),(4,1,3),(5,1,3),(6,1,59),(7,1,59),(8,1,23),(9,1,24)],sh60,112,z60⟩
def sh61: Shape:=.n [sh3,sh3,sh3,sh3,sh3,sh3,sh59,sh59,sh23,sh24]
def z61: CV:=.agg [z3,z3,z3,z3,z3,z3,z59,z59,z23,z24]
def ti61: TI:=⟨.st [(0,1,3),(1,1,3),(2,1,3),(3,1,3),(4,1,3),(5,1,3),(6,1,59),(7,1,59),(8,1,23),(9,1,24)],sh61,112,z61⟩
abbrev sh62: Shape:=.s
abbrev z62: CV:=.sc .nilFunc
def ti62: TI:=⟨.base (.func #[57] #[61] false),sh62,8,z62⟩
def sh63: Shape:=.n (List.replicate 16 sh34)
def z63: CV:=.agg (List.replicate 16 z34)
def ti63: TI:=⟨.ar 16 12 34,sh63,1536,z63⟩
def sh64: Shape:=.n (List.replicate 8 sh3)
def z64: CV:=.agg (List.replicate 8 z3)
def ti64: TI:=⟨.ar 8 1 3,sh64,64,z64⟩
def sh65: Shape:=.n [sh3,sh25,sh63,sh64]
def z65: CV:=.agg [z3,z25,z63,z64]
def ti65: TI:=⟨.st [(0,1,3),(1,1,25),(2,192,63),(194,8,64)],sh65,1616,z65⟩
def sh66: Shape:=.n [sh3,sh25,sh63,sh64]
def z66: CV:=.agg [z3,z25,z63,z64]
def ti66: TI:=⟨.st [(0,1,3),(1,1,25),(2,192,63),(194,8,64)],sh66,1616,z66⟩
abbrev sh67: Shape:=.s
abbrev z67: CV:=.sc .nilFunc
def ti67: TI:=⟨.base (.func #[61,58] #[66] false),sh67,8,z67⟩
abbrev sh68: Shape:=.s
abbrev z68: CV:=.lst .nil []
def ti68: TI:=⟨.base (.slice 5),sh68,24,z68⟩
abbrev sh69: Shape:=.s
abbrev z69: CV:=.sc (.int .i64 0)
def ti69: TI:=⟨.base (.int .i64),sh69,8,z69⟩
abbrev sh71: Shape:=.s
abbrev z71: CV:=.sc .nilFunc
def ti71: TI:=⟨.base (.func #[61,66] #[68,69] false),sh71,8,z71⟩
abbrev sh72: Shape:=.s
abbrev z72: CV:=.sc .nilFunc
def ti72: TI:=⟨.base (.func #[66,66] #[4] false),sh72,8,z72⟩
abbrev sh74: Shape:=.s
abbrev z74: CV:=.sc .nilFunc
def ti74: TI:=⟨.base (.func #[61,68] #[66,69] false),sh74,8,z74⟩
abbrev sh75: Shape:=.s
abbrev z75: CV:=.sc .nilFunc
def ti75: TI:=⟨.base (.func #[57,58,58] #[4] false),sh75,8,z75⟩
abbrev sh76: Shape:=.s
abbrev z76: CV:=.sc .nilFunc
def ti76: TI:=⟨.base (.func #[3,3] #[3] false),sh76,8,z76⟩
abbrev sh77: Shape:=.s
abbrev z77: CV:=.sc .nilFunc
def ti77: TI:=⟨.base (.func #[61,66] #[4] false),sh77,8,z77⟩
abbrev sh78: Shape:=.s
abbrev z78: CV:=.sc .nilFunc
def ti78: TI:=⟨.base (.func #[57,58,3,5] #[4] false),sh78,8,z78⟩
abbrev sh80: Shape:=.s
abbrev z80: CV:=.sc .nilFunc
def ti80: TI:=⟨.base (.func #[61,66] #[68,4] false),sh80,8,z80⟩
abbrev sh81: Shape:=.s
abbrev z81: CV:=.sc .nilFunc
def ti81: TI:=⟨.base (.func #[61,66] #[3] false),sh81,8,z81⟩
abbrev sh82: Shape:=.s
abbrev z82: CV:=.sc .nilFunc
def ti82: TI:=⟨.base (.func #[68,3] #[68] false),sh82,8,z82⟩
abbrev sh84: Shape:=.s
abbrev z84: CV:=.sc .nilFunc
def ti84: TI:=⟨.base (.func #[61,68] #[66,4] false),sh84,8,z84⟩
abbrev sh85: Shape:=.s
abbrev z85: CV:=.sc .nilFunc
def ti85: TI:=⟨.base (.func #[57,58,3,3,3,68,4,24,5] #[4] false),sh85,8,z85⟩
abbrev sh86: Shape:=.s
abbrev z86: CV:=.sc .nilFunc
def ti86: TI:=⟨.base (.func #[57,58,3] #[4] false),sh86,8,z86⟩
abbrev sh87: Shape:=.s
abbrev z87: CV:=.sc (.pointer none)
def ti87: TI:=⟨.base (.pointer 34),sh87,8,z87⟩
abbrev sh88: Shape:=.s
abbrev z88: CV:=.sc .nilFunc
def ti88: TI:=⟨.base (.func #[57,58,3,3] #[4] false),sh88,8,z88⟩
def sh89: Shape:=.n [sh3,sh3,sh3,sh3,sh3,sh3,sh3,sh3,sh3,sh3,sh4,sh25,sh24,sh58]
def z89: CV:=.agg [z3,z3,z3,z3,z3,z3,z3,z3,z3,z3,z4,z25,z24,z58]
def ti89: TI:=⟨.st [(0,1,3),(1,1,3),(2,1,3),(3,1,3),(4,1,3),(5,1,3),(6,1,3),(7,1,3),(8,1,3),(9,1,3),(10,1,4),(11,1,25),(12,1,24),(13,1,58)],sh89,144,z89⟩
def sh90: Shape:=.n [sh3,sh3,sh3,sh3,sh3,sh3,sh3,sh3,sh3,sh3,sh4,sh25,sh24,sh58]
def z90: CV:=.agg [z3,z3,z3,z3,z3,z3,z3,z3,z3,z3,z4,z25,z24,z58]
def ti90: TI:=⟨.st [(0,1,3),(1,1,3),(2,1,3),(3,1,3),(4,1,3),(5,1,3),(6,1,3),(7,1,3),(8,1,3),(9,1,3),(10,1,4),(11,1,25),(12,1,24),(13,1,58)],sh90,144,z90⟩
abbrev sh91: Shape:=.s
abbrev z91: CV:=.lst .nil []
def ti91: TI:=⟨.base (.slice 36),sh91,24,z91⟩
abbrev sh92: Shape:=.s
abbrev z92: CV:=.lst .nil []
def ti92: TI:=⟨.base (.slice 108),sh92,24,z92⟩
def sh93: Shape:=.n [sh3,sh3,sh3,sh3,sh4,sh25,sh3,sh3,sh91,sh3,sh92,sh3,sh3]
def z93: CV:=.agg [z3,z3,z3,z3,z4,z25,z3,z3,z91,z3,z92,z3,z3]
def ti93: TI:=⟨.st [(0,1,3),(1,1,3),(2,1,3),(3,1,3),(4,1,4),(5,1,25),(6,1,3),(7,1,3),(8,1,91),(9,1,3),(10,1,92),(11,1,3),(12,1,3)],sh93,136,z93⟩
def sh94: Shape:=.n [sh3,sh3,sh3,sh3,sh4,sh25,sh3,sh3,sh91,sh3,sh92,sh3,sh3]
def z94: CV:=.agg [z3,z3,z3,z3,z4,z25,z3,z3,z91,z3,z92,z3,z3]
def ti94: TI:=⟨.st [(0,1,3),(1,1,3),(2,1,3),(3,1,3),(4,1,4),(5,1,25),(6,1,3),(7,1,3),(8,1,91),(9,1,3),(10,1,92),(11,1,3),(12,1,3)],sh94,136,z94⟩
abbrev sh95: Shape:=.s
abbrev z95: CV:=.sc .nilFunc
def ti95: TI:=⟨.base (.func #[90] #[94] false),sh95,8,z95⟩
abbrev sh96: Shape:=.s
abbrev z96: CV:=.sc .nilFunc
def ti96: TI:=⟨.base (.func #[3,94] #[68,69] false),sh96,8,z96⟩
abbrev sh98: Shape:=.s
abbrev z98: CV:=.sc .nilFunc
def ti98: TI:=⟨.base (.func #[3,68] #[94,69] false),sh98,8,z98⟩
abbrev sh99: Shape:=.s
abbrev z99: CV:=.sc .nilFunc
def ti99: TI:=⟨.base (.func #[94,94] #[4] false),sh99,8,z99⟩
abbrev sh100: Shape:=.s
abbrev z100: CV:=.sc .nilFunc
def ti100: TI:=⟨.base (.func #[90,90,3,3,3,5] #[4] false),sh100,8,z100⟩
abbrev sh101: Shape:=.s
abbrev z101: CV:=.sc .nilFunc
def ti101: TI:=⟨.base (.func #[94] #[4] false),sh101,8,z101⟩
abbrev sh102: Shape:=.s
abbrev z102: CV:=.sc .nilFunc
def ti102: TI:=⟨.base (.func #[90,3] #[4] false),sh102,8,z102⟩
abbrev sh103: Shape:=.s
abbrev z103: CV:=.sc .nilFunc
def ti103: TI:=⟨.base (.func #[3,94] #[68,4] false),sh103,8,z103⟩
abbrev sh104: Shape:=.s
abbrev z104: CV:=.sc .nilFunc
def ti104: TI:=⟨.base (.func #[3,68] #[68] false),sh104,8,z104⟩
abbrev sh106: Shape:=.s
abbrev z106: CV:=.sc .nilFunc
def ti106: TI:=⟨.base (.func #[68] #[3,4] false),sh106,8,z106⟩
abbrev sh107: Shape:=.s
abbrev z107: CV:=.sc .nilFunc
def ti107: TI:=⟨.base (.func #[90,3,68,3,24,5] #[4] false),sh107,8,z107⟩
abbrev sh108: Shape:=.s
abbrev z108: CV:=.lst .nil []
def ti108: TI:=⟨.base (.slice 110),sh108,24,z108⟩
def sh109: Shape:=.n [sh4,sh36]
def z109: CV:=.agg [z4,z36]
def ti109: TI:=⟨.st [(0,1,4),(1,3,36)],sh109,32,z109⟩
def sh110: Shape:=.n [sh4,sh36]
def z110: CV:=.agg [z4,z36]
def ti110: TI:=⟨.st [(0,1,4),(1,3,36)],sh110,32,z110⟩
abbrev sh111: Shape:=.s
abbrev z111: CV:=.sc .nilFunc
def ti111: TI:=⟨.base (.func #[61] #[66] false),sh111,8,z111⟩
abbrev sh112: Shape:=.s
abbrev z112: CV:=.sc .nilFunc
def ti112: TI:=⟨.base (.func #[61] #[4] false),sh112,8,z112⟩
abbrev sh113: Shape:=.s
abbrev z113: CV:=.sc .nilFunc
def ti113: TI:=⟨.base (.func #[3,58] #[92] false),sh113,8,z113⟩
abbrev sh114: Shape:=.s
abbrev z114: CV:=.sc .nilFunc
def ti114: TI:=⟨.base (.func #[61,66,108] #[66] false),sh114,8,z114⟩
abbrev sh115: Shape:=.s
abbrev z115: CV:=.sc .nilFunc
def ti115: TI:=⟨.base (.func #[57,58,92] #[4] false),sh115,8,z115⟩
abbrev sh116: Shape:=.s
abbrev z116: CV:=.sc .nilFunc
def ti116: TI:=⟨.base (.func #[3,23] #[61] true),sh116,8,z116⟩
abbrev sh117: Shape:=.s
abbrev z117: CV:=.sc .nilFunc
def ti117: TI:=⟨.base (.func #[3,58,58,3] #[4] false),sh117,8,z117⟩
def sh118: Shape:=.n (List.replicate 4 sh29)
def z118: CV:=.agg (List.replicate 4 z29)
def ti118: TI:=⟨.ar 4 3 29,sh118,96,z118⟩
abbrev sh119: Shape:=.s
abbrev z119: CV:=.sc .nilFunc
def ti119: TI:=⟨.base (.func #[3,3] #[34] false),sh119,8,z119⟩
abbrev sh120: Shape:=.s
abbrev z120: CV:=.sc .nilFunc
def ti120: TI:=⟨.base (.func #[3,3,58,3] #[4] false),sh120,8,z120⟩
abbrev sh121: Shape:=.s
abbrev z121: CV:=.sc .nilFunc
def ti121: TI:=⟨.base (.func #[3,24] #[108] false),sh121,8,z121⟩
abbrev sh122: Shape:=.s
abbrev z122: CV:=.sc .nilFunc
def ti122: TI:=⟨.base (.func #[57,58,24,3] #[4] false),sh122,8,z122⟩
abbrev sh123: Shape:=.s
abbrev z123: CV:=.sc .nilFunc
def ti123: TI:=⟨.base (.func #[61,66,92] #[66] false),sh123,8,z123⟩
abbrev sh124: Shape:=.s
abbrev z124: CV:=.sc .nilFunc
def ti124: TI:=⟨.base (.func #[57,58] #[4] false),sh124,8,z124⟩
abbrev sh125: Shape:=.s
abbrev z125: CV:=.sc .nilFunc
def ti125: TI:=⟨.base (.func #[3,3] #[36] false),sh125,8,z125⟩
abbrev sh126: Shape:=.s
abbrev z126: CV:=.sc .nilFunc
def ti126: TI:=⟨.base (.func #[] #[39] false),sh126,8,z126⟩
abbrev sh127: Shape:=.s
abbrev z127: CV:=.sc .nilFunc
def ti127: TI:=⟨.base (.func #[3,3,3] #[4] false),sh127,8,z127⟩
abbrev sh128: Shape:=.s
abbrev z128: CV:=.sc .nilFunc
def ti128: TI:=⟨.base (.func #[39] #[39] false),sh128,8,z128⟩
abbrev sh129: Shape:=.s
abbrev z129: CV:=.sc (.pointer none)
def ti129: TI:=⟨.base (.pointer 131),sh129,8,z129⟩
def sh130: Shape:=.n [sh39,sh23,sh3]
def z130: CV:=.agg [z39,z23,z3]
def ti130: TI:=⟨.st [(0,18,39),(18,1,23),(19,1,3)],sh130,192,z130⟩
def sh131: Shape:=.n [sh39,sh23,sh3]
def z131: CV:=.agg [z39,z23,z3]
def ti131: TI:=⟨.st [(0,18,39),(18,1,23),(19,1,3)],sh131,192,z131⟩
abbrev sh133: Shape:=.s
abbrev z133: CV:=.sc .nilFunc
def ti133: TI:=⟨.base (.func #[1] #[44,4] false),sh133,8,z133⟩
abbrev sh134: Shape:=.s
abbrev z134: CV:=.sc .nilFunc
def ti134: TI:=⟨.base (.func #[29,51,3] #[3] false),sh134,8,z134⟩
abbrev sh135: Shape:=.s
abbrev z135: CV:=.sc .nilFunc
def ti135: TI:=⟨.base (.func #[51,3] #[3] false),sh135,8,z135⟩
abbrev sh137: Shape:=.s
abbrev z137: CV:=.sc .nilFunc
def ti137: TI:=⟨.base (.func #[25,3] #[25,3] false),sh137,8,z137⟩
abbrev sh138: Shape:=.s
abbrev z138: CV:=.sc .nilFunc
def ti138: TI:=⟨.base (.func #[29,51] #[3] false),sh138,8,z138⟩
abbrev sh139: Shape:=.s
abbrev z139: CV:=.sc .nilFunc
def ti139: TI:=⟨.base (.func #[3,3,3] #[3] false),sh139,8,z139⟩
abbrev sh140: Shape:=.s
abbrev z140: CV:=.sc .nilFunc
def ti140: TI:=⟨.base (.func #[34,3,3] #[34] false),sh140,8,z140⟩
abbrev sh141: Shape:=.s
abbrev z141: CV:=.sc .nilFunc
def ti141: TI:=⟨.base (.func #[23,142] #[4] false),sh141,8,z141⟩
abbrev sh142: Shape:=.s
abbrev z142: CV:=.sc .nilFunc
def ti142: TI:=⟨.base (.func #[29] #[4] false),sh142,8,z142⟩
abbrev sh143: Shape:=.s
abbrev z143: CV:=.sc (.pointer none)
def ti143: TI:=⟨.base (.pointer 203),sh143,8,z143⟩
abbrev sh144: Shape:=.s
abbrev z144: CV:=.sc .nilFunc
def ti144: TI:=⟨.base (.func #[] #[143] false),sh144,8,z144⟩
abbrev sh145: Shape:=.s
abbrev z145: CV:=.sc .nilFunc
def ti145: TI:=⟨.base (.func #[25,3] #[] false),sh145,8,z145⟩
abbrev sh146: Shape:=.s
abbrev z146: CV:=.sc .nilFunc
def ti146: TI:=⟨.base (.func #[143,34] #[] false),sh146,8,z146⟩
abbrev sh147: Shape:=.s
abbrev z147: CV:=.sc .nilFunc
def ti147: TI:=⟨.base (.func #[] #[68] false),sh147,8,z147⟩
abbrev sh148: Shape:=.s
abbrev z148: CV:=.sc .nilFunc
def ti148: TI:=⟨.base (.func #[] #[61] false),sh148,8,z148⟩
abbrev sh149: Shape:=.s
abbrev z149: CV:=.sc .nilFunc
def ti149: TI:=⟨.base (.func #[61,150] #[66] false),sh149,8,z149⟩
abbrev sh150: Shape:=.s
abbrev z150: CV:=.sc (.pointer none)
def ti150: TI:=⟨.base (.pointer 208),sh150,8,z150⟩
abbrev sh151: Shape:=.s
abbrev z151: CV:=.sc .nilFunc
def ti151: TI:=⟨.base (.func #[68] #[150] false),sh151,8,z151⟩
abbrev sh152: Shape:=.s
abbrev z152: CV:=.sc .nilFunc
def ti152: TI:=⟨.base (.func #[68,68] #[4] false),sh152,8,z152⟩
abbrev sh153: Shape:=.s
abbrev z153: CV:=.sc (.pointer none)
def ti153: TI:=⟨.base (.pointer 156),sh153,8,z153⟩
abbrev sh154: Shape:=.s
abbrev z154: CV:=.lst .nil []
def ti154: TI:=⟨.base (.slice 4),sh154,24,z154⟩
def sh155: Shape:=.n [sh154]
def z155: CV:=.agg [z154]
def ti155: TI:=⟨.st [(0,1,154)],sh155,24,z155⟩
def sh156: Shape:=.n [sh154]
def z156: CV:=.agg [z154]
def ti156: TI:=⟨.st [(0,1,154)],sh156,24,z156⟩
abbrev sh157: Shape:=.s
abbrev z157: CV:=.sc .nilFunc
def ti157: TI:=⟨.base (.func #[3,3] #[] false),sh157,8,z157⟩
abbrev sh158: Shape:=.s
abbrev z158: CV:=.sc .nilFunc
def ti158: TI:=⟨.base (.func #[68] #[3] false),sh158,8,z158⟩
abbrev sh159: Shape:=.s
abbrev z159: CV:=.sc (.pointer none)
def ti159: TI:=⟨.base (.pointer 161),sh159,8,z159⟩
def sh160: Shape:=.n [sh68,sh3,sh4]
def z160: CV:=.agg [z68,z3,z4]
def ti160: TI:=⟨.st [(0,1,68),(1,1,3),(2,1,4)],sh160,40,z160⟩
def sh161: Shape:=.n [sh68,sh3,sh4]
def z161: CV:=.agg [z68,z3,z4]
def ti161: TI:=⟨.st [(0,1,68),(1,1,3),(2,1,4)],sh161,40,z161⟩
abbrev sh162: Shape:=.s
abbrev z162: CV:=.sc .nilFunc
def ti162: TI:=⟨.base (.func #[3] #[25] false),sh162,8,z162⟩
abbrev sh163: Shape:=.s
abbrev z163: CV:=.sc .nilFunc
def ti163: TI:=⟨.base (.func #[3] #[3] false),sh163,8,z163⟩
abbrev sh164: Shape:=.s
abbrev z164: CV:=.sc .nilFunc
def ti164: TI:=⟨.base (.func #[61,3,34] #[4] false),sh164,8,z164⟩
abbrev sh165: Shape:=.s
abbrev z165: CV:=.sc .nilFunc
def ti165: TI:=⟨.base (.func #[94] #[68] false),sh165,8,z165⟩
abbrev sh166: Shape:=.s
abbrev z166: CV:=.sc .nilFunc
def ti166: TI:=⟨.base (.func #[3,68] #[68,4] false),sh166,8,z166⟩
abbrev sh167: Shape:=.s
abbrev z167: CV:=.sc .nilFunc
def ti167: TI:=⟨.base (.func #[150] #[94] false),sh167,8,z167⟩
abbrev sh168: Shape:=.s
abbrev z168: CV:=.sc .nilFunc
def ti168: TI:=⟨.base (.func #[92,92,169] #[4] false),sh168,8,z168⟩
abbrev sh169: Shape:=.s
abbrev z169: CV:=.sc .nilFunc
def ti169: TI:=⟨.base (.func #[108,108] #[4] false),sh169,8,z169⟩
abbrev sh170: Shape:=.s
abbrev z170: CV:=.sc .nilFunc
def ti170: TI:=⟨.base (.func #[91,91] #[4] false),sh170,8,z170⟩
abbrev sh171: Shape:=.s
abbrev z171: CV:=.sc .nilFunc
def ti171: TI:=⟨.base (.func #[94] #[94] false),sh171,8,z171⟩
abbrev sh172: Shape:=.s
abbrev z172: CV:=.sc .nilFunc
def ti172: TI:=⟨.base (.func #[91,173] #[4] false),sh172,8,z172⟩
abbrev sh173: Shape:=.s
abbrev z173: CV:=.sc .nilFunc
def ti173: TI:=⟨.base (.func #[36] #[4] false),sh173,8,z173⟩
abbrev sh174: Shape:=.s
abbrev z174: CV:=.sc .nilFunc
def ti174: TI:=⟨.base (.func #[92,3] #[4] false),sh174,8,z174⟩
abbrev sh175: Shape:=.s
abbrev z175: CV:=.sc .nilFunc
def ti175: TI:=⟨.base (.func #[3] #[68] false),sh175,8,z175⟩
abbrev sh176: Shape:=.s
abbrev z176: CV:=.sc .nilFunc
def ti176: TI:=⟨.base (.func #[3,68] #[3] false),sh176,8,z176⟩
abbrev sh177: Shape:=.s
abbrev z177: CV:=.sc .nilFunc
def ti177: TI:=⟨.base (.func #[159] #[36] false),sh177,8,z177⟩
abbrev sh178: Shape:=.s
abbrev z178: CV:=.sc (.int .u64 0)
def ti178: TI:=⟨.base (.int .u64),sh178,8,z178⟩
abbrev sh179: Shape:=.s
abbrev z179: CV:=.sc .nilFunc
def ti179: TI:=⟨.base (.func #[92,92] #[4] false),sh179,8,z179⟩
abbrev sh180: Shape:=.s
abbrev z180: CV:=.sc .nilFunc
def ti180: TI:=⟨.base (.func #[3,3,3] #[110] false),sh180,8,z180⟩
abbrev sh181: Shape:=.s
abbrev z181: CV:=.sc (.pointer none)
def ti181: TI:=⟨.base (.pointer 223),sh181,8,z181⟩
abbrev sh183: Shape:=.s
abbrev z183: CV:=.sc .nilFunc
def ti183: TI:=⟨.base (.func #[59,59] #[181,69] false),sh183,8,z183⟩
abbrev sh184: Shape:=.s
abbrev z184: CV:=.sc (.pointer none)
def ti184: TI:=⟨.base (.pointer 186),sh184,8,z184⟩
def sh185: Shape:=.n [sh61,sh66,sh108,sh37]
def z185: CV:=.agg [z61,z66,z108,z37]
def ti185: TI:=⟨.st [(0,10,61),(10,202,66),(212,1,108),(213,1,37)],sh185,1776,z185⟩
def sh186: Shape:=.n [sh61,sh66,sh108,sh37]
def z186: CV:=.agg [z61,z66,z108,z37]
def ti186: TI:=⟨.st [(0,10,61),(10,202,66),(212,1,108),(213,1,37)],sh186,1776,z186⟩
abbrev sh187: Shape:=.s
abbrev z187: CV:=.sc .nilFunc
def ti187: TI:=⟨.base (.func #[108,3] #[36] false),sh187,8,z187⟩
abbrev sh188: Shape:=.s
abbrev z188: CV:=.sc .nilFunc
def ti188: TI:=⟨.base (.func #[66] #[3] false),sh188,8,z188⟩
abbrev sh190: Shape:=.s
abbrev z190: CV:=.sc .nilFunc
def ti190: TI:=⟨.base (.func #[34] #[34,4] false),sh190,8,z190⟩
abbrev sh191: Shape:=.s
abbrev z191: CV:=.sc .nilFunc
def ti191: TI:=⟨.base (.func #[34,34] #[4] false),sh191,8,z191⟩
abbrev sh192: Shape:=.s
abbrev z192: CV:=.sc .nilFunc
def ti192: TI:=⟨.base (.func #[37] #[37] false),sh192,8,z192⟩
def sh193: Shape:=.n [sh44]
def z193: CV:=.agg [z44]
def ti193: TI:=⟨.st [(0,2,44)],sh193,16,z193⟩
def sh194: Shape:=.n [sh44]
def z194: CV:=.agg [z44]
def ti194: TI:=⟨.st [(0,2,44)],sh194,16,z194⟩
abbrev sh195: Shape:=.s
abbrev z195: CV:=.sc .nilFunc
def ti195: TI:=⟨.base (.func #[4,3] #[] false),sh195,8,z195⟩
abbrev sh196: Shape:=.s
abbrev z196: CV:=.sc .nilFunc
def ti196: TI:=⟨.base (.func #[29] #[3] false),sh196,8,z196⟩
abbrev sh198: Shape:=.s
abbrev z198: CV:=.sc .nilFunc
def ti198: TI:=⟨.base (.func #[3] #[4,4] false),sh198,8,z198⟩
abbrev sh199: Shape:=.s
abbrev z199: CV:=.sc .nilFunc
def ti199: TI:=⟨.base (.func #[3] #[4] false),sh199,8,z199⟩
abbrev sh200: Shape:=.s
abbrev z200: CV:=.sc .nilFunc
def ti200: TI:=⟨.base (.func #[25] #[25,3] false),sh200,8,z200⟩
abbrev sh201: Shape:=.s
abbrev z201: CV:=.sc .nilFunc
def ti201: TI:=⟨.base (.func #[23,142] #[3] false),sh201,8,z201⟩
def sh202: Shape:=.n [sh68,sh3]
def z202: CV:=.agg [z68,z3]
def ti202: TI:=⟨.st [(0,1,68),(1,1,3)],sh202,32,z202⟩
def sh203: Shape:=.n [sh68,sh3]
def z203: CV:=.agg [z68,z3]
def ti203: TI:=⟨.st [(0,1,68),(1,1,3)],sh203,32,z203⟩
abbrev sh204: Shape:=.s
abbrev z204: CV:=.sc .nilFunc
def ti204: TI:=⟨.base (.func #[25] #[] false),sh204,8,z204⟩
abbrev sh205: Shape:=.s
abbrev z205: CV:=.sc .nilFunc
def ti205: TI:=⟨.base (.func #[68] #[68] false),sh205,8,z205⟩
abbrev sh206: Shape:=.s
abbrev z206: CV:=.sc .nilFunc
def ti206: TI:=⟨.base (.func #[150] #[34] false),sh206,8,z206⟩
def sh207: Shape:=.n [sh68,sh3]
def z207: CV:=.agg [z68,z3]
def ti207: TI:=⟨.st [(0,1,68),(1,1,3)],sh207,32,z207⟩
def sh208: Shape:=.n [sh68,sh3]
def z208: CV:=.agg [z68,z3]
def ti208: TI:=⟨.st [(0,1,68),(1,1,3)],sh208,32,z208⟩
abbrev sh209: Shape:=.s
abbrev z209: CV:=.sc .nilFunc
def ti209: TI:=⟨.base (.func #[59,59] #[4] false),sh209,8,z209⟩
abbrev sh210: Shape:=.s
abbrev z210: CV:=.sc .nilFunc
def ti210: TI:=⟨.base (.func #[143,4] #[] false),sh210,8,z210⟩
abbrev sh211: Shape:=.s
abbrev z211: CV:=.sc .nilFunc
def ti211: TI:=⟨.base (.func #[143,36] #[] false),sh211,8,z211⟩
abbrev sh212: Shape:=.s
abbrev z212: CV:=.sc .nilFunc
def ti212: TI:=⟨.base (.func #[143,94] #[] false),sh212,8,z212⟩
abbrev sh213: Shape:=.s
abbrev z213: CV:=.sc .nilFunc
def ti213: TI:=⟨.base (.func #[150] #[36] false),sh213,8,z213⟩
abbrev sh214: Shape:=.s
abbrev z214: CV:=.sc .nilFunc
def ti214: TI:=⟨.base (.func #[150,215] #[] false),sh214,8,z214⟩
abbrev sh215: Shape:=.s
abbrev z215: CV:=.sc (.pointer none)
def ti215: TI:=⟨.base (.pointer 94),sh215,8,z215⟩
abbrev sh216: Shape:=.s
abbrev z216: CV:=.sc .nilFunc
def ti216: TI:=⟨.base (.func #[91,173] #[3] false),sh216,8,z216⟩
abbrev sh217: Shape:=.s
abbrev z217: CV:=.sc .nilFunc
def ti217: TI:=⟨.base (.func #[108,218] #[4] false),sh217,8,z217⟩
abbrev sh218: Shape:=.s
abbrev z218: CV:=.sc .nilFunc
def ti218: TI:=⟨.base (.func #[110] #[4] false),sh218,8,z218⟩
abbrev sh219: Shape:=.s
abbrev z219: CV:=.sc .nilFunc
def ti219: TI:=⟨.base (.func #[4] #[3] false),sh219,8,z219⟩
abbrev sh220: Shape:=.s
abbrev z220: CV:=.sc .nilFunc
def ti220: TI:=⟨.base (.func #[153,36] #[] false),sh220,8,z220⟩
abbrev sh221: Shape:=.s
abbrev z221: CV:=.sc .nilFunc
def ti221: TI:=⟨.base (.func #[59] #[4] false),sh221,8,z221⟩
def sh222: Shape:=.n [sh59,sh59,sh59,sh3]
def z222: CV:=.agg [z59,z59,z59,z3]
def ti222: TI:=⟨.st [(0,1,59),(1,1,59),(2,1,59),(3,1,3)],sh222,32,z222⟩
def sh223: Shape:=.n [sh59,sh59,sh59,sh3]
def z223: CV:=.agg [z59,z59,z59,z3]
def ti223: TI:=⟨.st [(0,1,59),(1,1,59),(2,1,59),(3,1,3)],sh223,32,z223⟩
abbrev sh224: Shape:=.s
abbrev z224: CV:=.sc (.map none)
def ti224: TI:=⟨.base (.map 3 4),sh224,8,z224⟩
abbrev sh225: Shape:=.s
abbrev z225: CV:=.sc .nilFunc
def ti225: TI:=⟨.base (.func #[34] #[34] false),sh225,8,z225⟩
abbrev sh226: Shape:=.s
abbrev z226: CV:=.sc .nilFunc
def ti226: TI:=⟨.base (.func #[34] #[3] false),sh226,8,z226⟩
abbrev sh227: Shape:=.s
abbrev z227: CV:=.sc .nilFunc
def ti227: TI:=⟨.base (.func #[3,3] #[4] false),sh227,8,z227⟩
abbrev sh228: Shape:=.s
abbrev z228: CV:=.sc .nilFunc
def ti228: TI:=⟨.base (.func #[4,3,3] #[] false),sh228,8,z228⟩
abbrev sh229: Shape:=.s
abbrev z229: CV:=.sc .nilFunc
def ti229: TI:=⟨.base (.func #[29] #[] false),sh229,8,z229⟩
abbrev sh230: Shape:=.s
abbrev z230: CV:=.sc .nilFunc
def ti230: TI:=⟨.base (.func #[] #[3] false),sh230,8,z230⟩
abbrev sh231: Shape:=.s
abbrev z231: CV:=.sc .nilFunc
def ti231: TI:=⟨.base (.func #[92] #[108] true),sh231,8,z231⟩
abbrev sh232: Shape:=.s
abbrev z232: CV:=.sc .nilFunc
def ti232: TI:=⟨.base (.func #[108,218] #[3] false),sh232,8,z232⟩
abbrev sh233: Shape:=.s
abbrev z233: CV:=.sc .nilFunc
def ti233: TI:=⟨.base (.func #[59,3] #[4] false),sh233,8,z233⟩
abbrev sh234: Shape:=.s
abbrev z234: CV:=.sc .nilFunc
def ti234: TI:=⟨.base (.func #[3] #[36] false),sh234,8,z234⟩
abbrev sh236: Shape:=.s
abbrev z236: CV:=.sc .nilFunc
def ti236: TI:=⟨.base (.func #[3,3] #[3,3] false),sh236,8,z236⟩
abbrev sh237: Shape:=.s
abbrev z237: CV:=.sc .nilFunc
def ti237: TI:=⟨.base (.func #[108,3] #[108] false),sh237,8,z237⟩
abbrev sh238: Shape:=.s
abbrev z238: CV:=.sc .nilFunc
def ti238: TI:=⟨.base (.func #[59] #[59] false),sh238,8,z238⟩
abbrev sh239: Shape:=.s
abbrev z239: CV:=.sc .nilFunc
def ti239: TI:=⟨.base (.func #[25] #[59] false),sh239,8,z239⟩
abbrev sh240: Shape:=.s
abbrev z240: CV:=.sc .nilFunc
def ti240: TI:=⟨.base (.func #[59] #[25] false),sh240,8,z240⟩
abbrev sh241: Shape:=.s
abbrev z241: CV:=.sc .nilFunc
def ti241: TI:=⟨.base (.func #[] #[9] false),sh241,8,z241⟩
abbrev sh247: Shape:=.s
abbrev z247: CV:=.sc (.int .u32 0)
def ti247: TI:=⟨.base (.int .u32),sh247,4,z247⟩
abbrev sh250: Shape:=.s
abbrev z250: CV:=.sc .nilFunc
def ti250: TI:=⟨.base (.func #[257,257] #[4] false),sh250,8,z250⟩
abbrev sh251: Shape:=.s
abbrev z251: CV:=.sc (.pointer none)
def ti251: TI:=⟨.base (.pointer 5),sh251,8,z251⟩
abbrev sh256: Shape:=.s
abbrev z256: CV:=.sc .nilFunc
def ti256: TI:=⟨.base (.func #[] #[59] false),sh256,8,z256⟩
def tab: List (TypeId×TI):=[(1,ti1),(2,ti2),(3,ti3),(4,ti4),(5,ti5),(9,ti9),(12,ti12),(15,ti15),(16,ti16),(17,ti17),(20,ti20),(21,ti21),(22,ti22),(23,ti23),(24,ti24),(25,ti25),(26,ti26),(27,ti27),(28,ti28),(29,ti29),(30,ti30),(31,ti31),(32,ti32),(33,ti33),(34,ti34),(35,ti35),(36,ti36),(37,ti37),(38,ti38),(39,ti39),(40,ti40),(41,ti41),(42,ti42),(43,ti43),(44,ti44),(46,ti46),(47,ti47),(48,ti48),(49,ti49),(50,ti50),(51,ti51),(53,ti53),(54,ti54),(55,ti55),(56,ti56),(57,ti57),(58,ti58),(59,ti59),(60,ti60),(61,ti61),(62,ti62),(63,ti63),(64,ti64),(65,ti65),(66,ti66),(67,ti67),(68,ti68),(69,ti69),(71,ti71),(72,ti72),(74,ti74),(75,ti75),(76,ti76),(77,ti77),(78,ti78),(80,ti80),(81,ti81),(82,ti82),(84,ti84),(85,ti85),(86,ti86),(87,ti87),(88,ti88),(89,ti89),(90,ti90),(91,ti91),(92,ti92),(93,ti93),(94,ti94),(95,ti95),(96,ti96),(98,ti98),(99,ti99),(100,ti100),(101,ti101),(102,ti102),(103,ti103),(104,ti104),(106,ti106),(107,ti107),(108,ti108),(109,ti109),(110,ti110),(111,ti111),(112,ti112),(113,ti113),(114,ti114),(115,ti115),(116,ti116),(117,ti117),(118,ti118),(119,ti119),(120,ti120),(121,ti121),(122,ti122),(123,ti123),(124,ti124),(125,ti125),(126,ti126),(127,ti127),(128,ti128),(129,ti129),(130,ti130),(131,ti131),(133,ti133),(134,ti134),(135,ti135),(137,ti137),(138,ti138),(139,ti139),(140,ti140),(141,ti141),(142,ti142),(143,ti143),(144,ti144),(145,ti145),(146,ti146),(147,ti147),(148,ti148),(149,ti149),(150,ti150),(151,ti151),(152,ti152),(153,ti153),(154,ti154),(155,ti155),(156,ti156),(157,ti157),(158,ti158),(159,ti159),(160,ti160),(161,ti161),(162,ti162),(163,ti163),(164,ti164),(165,ti165),(166,ti166),(167,ti167),(168,ti168),(169,ti169),(170,ti170),(171,ti171),(172,ti172),(173,ti173),(174,ti174),(175,ti175),(176,ti176),(177,ti177),(178,ti178),(179,ti179),(180,ti180),(181,ti181),(183,ti183),(184,ti184),(185,ti185),(186,ti186),(187,ti187),(188,ti188),(190,ti190),(191,ti191),(192,ti192),(193,ti193),(194,ti194),(195,ti195),(196,ti196),(198,ti198),(199,ti199),(200,ti200),(201,ti201),(202,ti202),(203,ti203),(204,ti204),(205,ti205),(206,ti206),(207,ti207),(208,ti208),(209,ti209),(210,ti210),(211,ti211),(212,ti212),(213,ti213),(214,ti214),(215,ti215),(216,ti216),(217,ti217),(218,ti218),(219,ti219),(220,ti220),(221,ti221),(222,ti222),(223,ti223),(224,ti224),(225,ti225),(226,ti226),(227,ti227),(228,ti228),(229,ti229),(230,ti230),(231,ti231),(232,ti232),(233,ti233),(234,ti234),(236,ti236),(237,ti237),(238,ti238),(239,ti239),(240,ti240),(241,ti241),(247,ti247),(250,ti250),(251,ti251),(256,ti256)]
theorem tab_ok: tab.all (tiB Try.prog)=true:=by kernel_rfl
noncomputable def C: Ctx:=mkCtx Try.prog (by kernel_rfl) tab tab_ok
theorem tt1: C.tt 1=some ti1:=by kernel_rfl
theorem tt3: C.tt 3=some ti3:=by kernel_rfl
theorem tt4: C.tt 4=some ti4:=by kernel_rfl
theorem tt5: C.tt 5=some ti5:=by kernel_rfl
theorem tt9: C.tt 9=some ti9:=by kernel_rfl
theorem tt20: C.tt 20=some ti20:=by kernel_rfl
theorem tt23: C.tt 23=some ti23:=by kernel_rfl
theorem tt24: C.tt 24=some ti24:=by kernel_rfl
theorem tt25: C.tt 25=some ti25:=by kernel_rfl
theorem tt29: C.tt 29=some ti29:=by kernel_rfl
theorem tt31: C.tt 31=some ti31:=by kernel_rfl
theorem tt32: C.tt 32=some ti32:=by kernel_rfl
theorem tt34: C.tt 34=some ti34:=by kernel_rfl
theorem tt36: C.tt 36=some ti36:=by kernel_rfl
theorem tt39: C.tt 39=some ti39:=by kernel_rfl
theorem tt44: C.tt 44=some ti44:=by kernel_rfl
theorem tt57: C.tt 57=some ti57:=by kernel_rfl
theorem tt58: C.tt 58=some ti58:=by kernel_rfl
theorem tt68: C.tt 68=some ti68:=by kernel_rfl
theorem tt69: C.tt 69=some ti69:=by kernel_rfl
theorem tt90: C.tt 90=some ti90:=by kernel_rfl
theorem tt91: C.tt 91=some ti91:=by kernel_rfl
theorem tt92: C.tt 92=some ti92:=by kernel_rfl
theorem tt94: C.tt 94=some ti94:=by kernel_rfl
theorem tt108: C.tt 108=some ti108:=by kernel_rfl
theorem tt110: C.tt 110=some ti110:=by kernel_rfl
theorem tt131: C.tt 131=some ti131:=by kernel_rfl
theorem tt154: C.tt 154=some ti154:=by kernel_rfl
theorem tt156: C.tt 156=some ti156:=by kernel_rfl
theorem tt161: C.tt 161=some ti161:=by kernel_rfl
theorem tt178: C.tt 178=some ti178:=by kernel_rfl
theorem tt194: C.tt 194=some ti194:=by kernel_rfl
theorem tt203: C.tt 203=some ti203:=by kernel_rfl
theorem tt208: C.tt 208=some ti208:=by kernel_rfl
end Go.Proofs.Ytpchcfkebljopaa
end
section
namespace Go.Proofs.Ytpchcfkebljopaa
open Go.Cl Go Go.RowKit
set_option maxRecDepth 100000
def zn181_1:=ZC.reg [zu 6 (zmv 0),zv 7 (.unOp .not 4 (Tm 6))]
def zn181_3:=ZC.reg [zu 8 (zmv 1),zu 9 (zmv 2),zv 10 (zcf 200 [Tm 8,Tm 9] [3,3])]
def zn181_0:=ZC.seq zn181_1 (ZC.cond (Tm 7) zn181_3 ZC.skip)
def zc181: ZC:=zn181_0
theorem zc181_ok: zcode (xfOf Try.f181).code=some zc181:=by kernel_rfl
def zw181:=zU C zc181.eq_1<|zU C zn181_1.eq_1<|zU C zn181_3.eq_1<|(zunf C zn181_0.eq_1)
theorem rs181: (xfOf Try.f181).rs=[]:=by kernel_rfl
def xf181:=zF C 181 Try.f181
def zn200_0:=ZC.reg [zu 4 (zmv 0),zu 5 (zmv 1),⟨some 6,.build 44 ⟨[(0,.tmp 4),(1,.tmp 5)]⟩,none,false⟩,⟨some 7,.build 194 ⟨[(0,.tmp 6)]⟩,none,false⟩,zu 8 (.makeInterface 194 (Tm 7)),zv0 (.panic (Tm 8))]
def zc200: ZC:=zn200_0
theorem zc200_ok: zcode (xfOf Try.f200).code=some zc200:=by kernel_rfl
def zw200:=zU C zc200.eq_1<|(zunf C zn200_0.eq_1)
theorem rs200: (xfOf Try.f200).rs=[]:=by kernel_rfl
def xf200:=zF C 200 Try.f200
def zn37_1:=ZC.reg [zv 4 (.assign (Kn 0))]
def zn37_3:=ZC.reg [zu 5 (zmv 0),zu 6 (zmv 1),zu 7 (.binOp .rem 3 (Tm 5) (Tm 6) 3),zv 0 (zas 7)]
def zn37_6:=ZC.reg [zu 8 (zmv 0),zv 9 (.binOp .lss 3 (Tm 8) (Kn 0) 3)]
def zn37_8:=ZC.reg [zu 10 (zmv 0),zu 11 (zmv 1),zu 12 (.binOp .add 3 (Tm 10) (Tm 11) 3),zv 0 (zas 12)]
def zn37_10:=ZC.reg [zu 13 (zmv 0),zv 4 (zas 13)]
def zn37_0:=ZC.seq zn37_1 (ZC.seq zn37_3 (ZC.seq (ZC.seq zn37_6 (ZC.cond (Tm 9) zn37_8 ZC.skip)) (ZC.seq zn37_10 ZC.ret)))
def zc37: ZC:=zn37_0
theorem zc37_ok: zcode (xfOf Try.f37).code=some zc37:=by kernel_rfl
def zw37:=zU C zc37.eq_1<|zU C zn37_1.eq_1<|zU C zn37_3.eq_1<|zU C zn37_6.eq_1<|zU C zn37_8.eq_1<|zU C zn37_10.eq_1<|(zunf C zn37_0.eq_1)
theorem rs37: (xfOf Try.f37).rs=[.tmp 4]:=by kernel_rfl
def xf37:=zF C 37 Try.f37
def zn69_1:=ZC.reg [zv 4 (.alloc 36)]
def zn69_3:=ZC.reg [zu 5 (zmv 0),zu 6 (zcf 37 [Tm 5,Kn 256] [3,3]),zu 7 (zmv 1),zu 8 (zcf 37 [Tm 7,Kn 129] [3,3]),zu 9 (.binOp .sub 3 (Tm 8) (Kn 64) 3),zu 10 (zmv 1),zu 11 (.binOp .quo 3 (Tm 10) (Kn 129) 3),zu 12 (zcf 37 [Tm 11,Kn 129] [3,3]),zu 13 (.binOp .sub 3 (Tm 12) (Kn 64) 3),⟨some 14,.build 36 ⟨[(0,.tmp 6),(1,.tmp 9),(2,.tmp 13)]⟩,none,false⟩,zv0 (.store 36 (Tm 4) (Tm 14))]
def zn69_0:=ZC.seq zn69_1 (ZC.seq zn69_3 ZC.ret)
def zc69: ZC:=zn69_0
theorem zc69_ok: zcode (xfOf Try.f69).code=some zc69:=by kernel_rfl
def zw69:=zU C zc69.eq_1<|zU C zn69_1.eq_1<|zU C zn69_3.eq_1<|(zunf C zn69_0.eq_1)
theorem rs69: (xfOf Try.f69).rs=[.cell 4 36]:=by kernel_rfl
def xf69:=zF C 69 Try.f69
end Go.Proofs.Ytpchcfkebljopaa
end
section
namespace Go.Proofs.Ytpchcfkebljopaa
open Go.Cl
set_option linter.constructorNameAsVariable false
structure X0d where
 Code:Int
 A:Int
 B:Int
def X0d.cv(x:X0d): CV:=.agg [I x.Code,I x.A,I x.B]
@[ext] theorem X0d.ext'{x y:X0d}(h_Code:x.Code=y.Code)(h_A:x.A=y.A)(h_B:x.B=y.B): x=y:=by
 obtain⟨a0,a1,a2⟩:=x
 obtain⟨c0,c1,c2⟩:=y
 simp only at h_Code h_A h_B
 subst h_Code h_A h_B
 rfl
def X0d.zero: X0d:={Code:=0,A:=0,B:=0}
instance:Inhabited X0d:=⟨X0d.zero⟩
theorem X0d.zcv: z29=X0d.zero.cv:=by
 simp only[z29,X0d.zero,X0d.cv,List.map_replicate,Lst.cv,List.map_nil]
theorem X0d.shape(x:X0d): x.cv.shape=sh29:=by simp only[X0d.cv,sh29,CV.shape,CV.shapes,Lst.shape]
theorem X0d.nohas(x:X0d)(j:Nat): ¬x.cv.has j:=by simp[X0d.cv,CV.has,CV.hasL]
instance:DecidableEq X0d:=fun x y=>decidable_of_iff (x.Code=y.Code/\x.A=y.A/\x.B=y.B) ⟨fun h=>X0d.ext' h.1 h.2.1 h.2.2,fun h=>by subst h;simp⟩
theorem X0d.inj{x y:X0d}(h:x.cv=y.cv): x=y:=by
 simp only[X0d.cv,CV.agg.injEq,List.cons.injEq,and_true]at h
 obtain⟨h0,h1,h2⟩:=h
 refine X0d.ext' (I_inj _ _ h0) (I_inj _ _ h1) (I_inj _ _ h2)
theorem X0d.injF(x y:X0d)(h:x.cv=y.cv): x=y:=X0d.inj h
theorem X0d.inj_iff(x y:X0d): x.cv=y.cv ↔ x=y:=⟨X0d.inj,fun h=>by rw[h]⟩
theorem X0d.shOk(x:X0d): Cl.shOk x.cv sh29=true:=V0r (X0d.shape x) rfl
theorem X0d.eq(d:Nat)(x y:X0d): eqCV C (d+2) 29 x.cv y.cv=some (decide (x=y)):=by
 refine(V06 C (d:=d+1) tt29 (X0d.shape x) (X0d.shape y) (Z0g (Q0j C tt3 (d+0) _ _) (Z0g (Q0j C tt3 (d+0) _ _) (Z0g (Q0j C tt3 (d+0) _ _) rfl)))).trans (congrArg some ?_)
 rw[Bool.eq_iff_iff]
 simp only[Bool.and_eq_true,decide_eq_true_eq,and_true]
 exact⟨fun h=>X0d.ext' h.1 h.2.1 h.2.2,fun h=>by subst h;simp⟩
theorem X0d.eql(x y:X0d)(b:Bool): qbin C .eql 29 b x.cv y.cv=some (Bo (decide (x=y))):=by
 have h:=X0d.eq 10 x y
 unfold X0d.cv at h ⊢
 simp only[qbin]
 rw[h];rfl
theorem X0d.neq(x y:X0d)(b:Bool): qbin C .neq 29 b x.cv y.cv=some (Bo (!decide (x=y))):=by
 have h:=X0d.eq 10 x y
 unfold X0d.cv at h ⊢
 simp only[qbin]
 rw[h];rfl
theorem X0d.at_0(x:X0d)(q:List Nat): x.cv.at (0::q)=(I x.Code).at q:=rfl
def X0d.upd_0(x:X0d)(v:CV): CV:=.agg [v,I x.A,I x.B]
theorem X0d.set_0(x:X0d)(q:List Nat)(v:CV): x.cv.set (0::q) v=X0d.upd_0 x ((I x.Code).set q v):=rfl
theorem X0d.fold_0(x:X0d)(y:Int): X0d.upd_0 x (I y)=({x with Code:=y}:X0d).cv:=rfl
theorem X0d.fld_0(x:X0d): qfield C 29 x.cv 0=some (I x.Code):=Y0d C tt29 (X0d.shape x) rfl tt3 rfl rfl
theorem X0d.rfa_0(x:X0d)(h:Heap): qfieldAddr C h 29 (.rptr x.cv) 0=some (.rptr (I x.Code)):=by
 have hs:=X0d.shape x
 unfold X0d.cv at hs ⊢
 simp only[qfieldAddr,tt29,ti29,tgt,hs,if_true,List.getElem?_cons_zero,List.getElem?_cons_succ]
theorem X0d.sub_0(q:List Nat)(z:Shape): subEq sh29 (0::q) z=subEq sh3 q z:=rfl
theorem X0d.at_1(x:X0d)(q:List Nat): x.cv.at (1::q)=(I x.A).at q:=rfl
def X0d.upd_1(x:X0d)(v:CV): CV:=.agg [I x.Code,v,I x.B]
theorem X0d.set_1(x:X0d)(q:List Nat)(v:CV): x.cv.set (1::q) v=X0d.upd_1 x ((I x.A).set q v):=rfl
theorem X0d.fold_1(x:X0d)(y:Int): X0d.upd_1 x (I y)=({x with A:=y}:X0d).cv:=rfl
theorem X0d.fld_1(x:X0d): qfield C 29 x.cv 1=some (I x.A):=Y0d C tt29 (X0d.shape x) rfl tt3 rfl rfl
theorem X0d.rfa_1(x:X0d)(h:Heap): qfieldAddr C h 29 (.rptr x.cv) 1=some (.rptr (I x.A)):=by
 have hs:=X0d.shape x
 unfold X0d.cv at hs ⊢
 simp only[qfieldAddr,tt29,ti29,tgt,hs,if_true,List.getElem?_cons_zero,List.getElem?_cons_succ]
theorem X0d.sub_1(q:List Nat)(z:Shape): subEq sh29 (1::q) z=subEq sh3 q z:=rfl
theorem X0d.at_2(x:X0d)(q:List Nat): x.cv.at (2::q)=(I x.B).at q:=rfl
def X0d.upd_2(x:X0d)(v:CV): CV:=.agg [I x.Code,I x.A,v]
theorem X0d.set_2(x:X0d)(q:List Nat)(v:CV): x.cv.set (2::q) v=X0d.upd_2 x ((I x.B).set q v):=rfl
theorem X0d.fold_2(x:X0d)(y:Int): X0d.upd_2 x (I y)=({x with B:=y}:X0d).cv:=rfl
theorem X0d.fld_2(x:X0d): qfield C 29 x.cv 2=some (I x.B):=Y0d C tt29 (X0d.shape x) rfl tt3 rfl rfl
theorem X0d.rfa_2(x:X0d)(h:Heap): qfieldAddr C h 29 (.rptr x.cv) 2=some (.rptr (I x.B)):=by
 have hs:=X0d.shape x
 unfold X0d.cv at hs ⊢
 simp only[qfieldAddr,tt29,ti29,tgt,hs,if_true,List.getElem?_cons_zero,List.getElem?_cons_succ]
theorem X0d.sub_2(q:List Nat)(z:Shape): subEq sh29 (2::q) z=subEq sh3 q z:=rfl
theorem X0d.sub_nil: subEq sh29 [] sh29=true:=by simp[subEq,Shape.sub]
theorem X0d.alloc: allocObj C (.alloc 29)=some (.var sh29 X0d.zero.cv):=by simp only[allocObj,tt29,ti29,X0d.zcv]
theorem X0d.xalloc(p:Hp): xalloc C p 29=.ret (.ptr p.n []) (p.new (.var sh29 X0d.zero.cv)):=by simp only[Cl.xalloc,tt29,ti29,X0d.zcv]
theorem X0d.xbox(p:Hp)(x:X0d): xbox C p 29 x.cv=.ret (.ptr p.n []) (p.new (.var sh29 x.cv)):=by
 have h:Cl.shOk x.cv ti29.sh=true:=X0d.shOk x
 simp only[Cl.xbox,tt29,h,cond_true];rfl
theorem X0d.bld_0(a0:Int): qbuild C 29 [(0,I a0)]=some (({Code:=a0,A:=0,B:=0}:X0d).cv):=Q0g C tt29 (by simp only[partsOk,setAll,CV.shape,sh29,List.all_cons,List.all_nil,List.getElem?_cons_zero,List.getElem?_cons_succ,Bool.and_true,decide_true]) rfl
theorem X0d.bld_0_1(a0:Int)(a1:Int): qbuild C 29 [(0,I a0),(1,I a1)]=some (({Code:=a0,A:=a1,B:=0}:X0d).cv):=Q0g C tt29 (by simp only[partsOk,setAll,CV.shape,sh29,List.all_cons,List.all_nil,List.getElem?_cons_zero,List.getElem?_cons_succ,Bool.and_true,decide_true]) rfl
theorem X0d.bld_0_1_2(a0:Int)(a1:Int)(a2:Int): qbuild C 29 [(0,I a0),(1,I a1),(2,I a2)]=some (({Code:=a0,A:=a1,B:=a2}:X0d).cv):=Q0g C tt29 (by simp only[partsOk,setAll,CV.shape,sh29,List.all_cons,List.all_nil,List.getElem?_cons_zero,List.getElem?_cons_succ,Bool.and_true,decide_true]) rfl
structure Z0b where
 Code:Int
 A:Int
 B:Int
def Z0b.cv(x:Z0b): CV:=.agg [I x.Code,I x.A,I x.B]
@[ext] theorem Z0b.ext'{x y:Z0b}(h_Code:x.Code=y.Code)(h_A:x.A=y.A)(h_B:x.B=y.B): x=y:=by
 obtain⟨a0,a1,a2⟩:=x
 obtain⟨c0,c1,c2⟩:=y
 simp only at h_Code h_A h_B
 subst h_Code h_A h_B
 rfl
def Z0b.zero: Z0b:={Code:=0,A:=0,B:=0}
instance:Inhabited Z0b:=⟨Z0b.zero⟩
theorem Z0b.zcv: z31=Z0b.zero.cv:=by
 simp only[z31,Z0b.zero,Z0b.cv,List.map_replicate,Lst.cv,List.map_nil]
theorem Z0b.shape(x:Z0b): x.cv.shape=sh31:=by simp only[Z0b.cv,sh31,CV.shape,CV.shapes,Lst.shape]
theorem Z0b.nohas(x:Z0b)(j:Nat): ¬x.cv.has j:=by simp[Z0b.cv,CV.has,CV.hasL]
instance:DecidableEq Z0b:=fun x y=>decidable_of_iff (x.Code=y.Code/\x.A=y.A/\x.B=y.B) ⟨fun h=>Z0b.ext' h.1 h.2.1 h.2.2,fun h=>by subst h;simp⟩
theorem Z0b.inj{x y:Z0b}(h:x.cv=y.cv): x=y:=by
 simp only[Z0b.cv,CV.agg.injEq,List.cons.injEq,and_true]at h
 obtain⟨h0,h1,h2⟩:=h
 refine Z0b.ext' (I_inj _ _ h0) (I_inj _ _ h1) (I_inj _ _ h2)
theorem Z0b.injF(x y:Z0b)(h:x.cv=y.cv): x=y:=Z0b.inj h
theorem Z0b.inj_iff(x y:Z0b): x.cv=y.cv ↔ x=y:=⟨Z0b.inj,fun h=>by rw[h]⟩
theorem Z0b.shOk(x:Z0b): Cl.shOk x.cv sh31=true:=V0r (Z0b.shape x) rfl
theorem Z0b.eq(d:Nat)(x y:Z0b): eqCV C (d+2) 31 x.cv y.cv=some (decide (x=y)):=by
 refine(V06 C (d:=d+1) tt31 (Z0b.shape x) (Z0b.shape y) (Z0g (Q0j C tt3 (d+0) _ _) (Z0g (Q0j C tt3 (d+0) _ _) (Z0g (Q0j C tt3 (d+0) _ _) rfl)))).trans (congrArg some ?_)
 rw[Bool.eq_iff_iff]
 simp only[Bool.and_eq_true,decide_eq_true_eq,and_true]
 exact⟨fun h=>Z0b.ext' h.1 h.2.1 h.2.2,fun h=>by subst h;simp⟩
theorem Z0b.eql(x y:Z0b)(b:Bool): qbin C .eql 31 b x.cv y.cv=some (Bo (decide (x=y))):=by
 have h:=Z0b.eq 10 x y
 unfold Z0b.cv at h ⊢
 simp only[qbin]
 rw[h];rfl
theorem Z0b.neq(x y:Z0b)(b:Bool): qbin C .neq 31 b x.cv y.cv=some (Bo (!decide (x=y))):=by
 have h:=Z0b.eq 10 x y
 unfold Z0b.cv at h ⊢
 simp only[qbin]
 rw[h];rfl
theorem Z0b.at_0(x:Z0b)(q:List Nat): x.cv.at (0::q)=(I x.Code).at q:=rfl
def Z0b.upd_0(x:Z0b)(v:CV): CV:=.agg [v,I x.A,I x.B]
theorem Z0b.set_0(x:Z0b)(q:List Nat)(v:CV): x.cv.set (0::q) v=Z0b.upd_0 x ((I x.Code).set q v):=rfl
theorem Z0b.fold_0(x:Z0b)(y:Int): Z0b.upd_0 x (I y)=({x with Code:=y}:Z0b).cv:=rfl
theorem Z0b.fld_0(x:Z0b): qfield C 31 x.cv 0=some (I x.Code):=Y0d C tt31 (Z0b.shape x) rfl tt3 rfl rfl
theorem Z0b.rfa_0(x:Z0b)(h:Heap): qfieldAddr C h 31 (.rptr x.cv) 0=some (.rptr (I x.Code)):=by
 have hs:=Z0b.shape x
 unfold Z0b.cv at hs ⊢
 simp only[qfieldAddr,tt31,ti31,tgt,hs,if_true,List.getElem?_cons_zero,List.getElem?_cons_succ]
theorem Z0b.sub_0(q:List Nat)(z:Shape): subEq sh31 (0::q) z=subEq sh3 q z:=rfl
theorem Z0b.at_1(x:Z0b)(q:List Nat): x.cv.at (1::q)=(I x.A).at q:=rfl
def Z0b.upd_1(x:Z0b)(v:CV): CV:=.agg [I x.Code,v,I x.B]
theorem Z0b.set_1(x:Z0b)(q:List Nat)(v:CV): x.cv.set (1::q) v=Z0b.upd_1 x ((I x.A).set q v):=rfl
theorem Z0b.fold_1(x:Z0b)(y:Int): Z0b.upd_1 x (I y)=({x with A:=y}:Z0b).cv:=rfl
theorem Z0b.fld_1(x:Z0b): qfield C 31 x.cv 1=some (I x.A):=Y0d C tt31 (Z0b.shape x) rfl tt3 rfl rfl
theorem Z0b.rfa_1(x:Z0b)(h:Heap): qfieldAddr C h 31 (.rptr x.cv) 1=some (.rptr (I x.A)):=by
 have hs:=Z0b.shape x
 unfold Z0b.cv at hs ⊢
 simp only[qfieldAddr,tt31,ti31,tgt,hs,if_true,List.getElem?_cons_zero,List.getElem?_cons_succ]
theorem Z0b.sub_1(q:List Nat)(z:Shape): subEq sh31 (1::q) z=subEq sh3 q z:=rfl
theorem Z0b.at_2(x:Z0b)(q:List Nat): x.cv.at (2::q)=(I x.B).at q:=rfl
def Z0b.upd_2(x:Z0b)(v:CV): CV:=.agg [I x.Code,I x.A,v]
theorem Z0b.set_2(x:Z0b)(q:List Nat)(v:CV): x.cv.set (2::q) v=Z0b.upd_2 x ((I x.B).set q v):=rfl
theorem Z0b.fold_2(x:Z0b)(y:Int): Z0b.upd_2 x (I y)=({x with B:=y}:Z0b).cv:=rfl
theorem Z0b.fld_2(x:Z0b): qfield C 31 x.cv 2=some (I x.B):=Y0d C tt31 (Z0b.shape x) rfl tt3 rfl rfl
theorem Z0b.rfa_2(x:Z0b)(h:Heap): qfieldAddr C h 31 (.rptr x.cv) 2=some (.rptr (I x.B)):=by
 have hs:=Z0b.shape x
 unfold Z0b.cv at hs ⊢
 simp only[qfieldAddr,tt31,ti31,tgt,hs,if_true,List.getElem?_cons_zero,List.getElem?_cons_succ]
theorem Z0b.sub_2(q:List Nat)(z:Shape): subEq sh31 (2::q) z=subEq sh3 q z:=rfl
theorem Z0b.sub_nil: subEq sh31 [] sh31=true:=by simp[subEq,Shape.sub]
theorem Z0b.alloc: allocObj C (.alloc 31)=some (.var sh31 Z0b.zero.cv):=by simp only[allocObj,tt31,ti31,Z0b.zcv]
theorem Z0b.xalloc(p:Hp): xalloc C p 31=.ret (.ptr p.n []) (p.new (.var sh31 Z0b.zero.cv)):=by simp only[Cl.xalloc,tt31,ti31,Z0b.zcv]
theorem Z0b.xbox(p:Hp)(x:Z0b): xbox C p 31 x.cv=.ret (.ptr p.n []) (p.new (.var sh31 x.cv)):=by
 have h:Cl.shOk x.cv ti31.sh=true:=Z0b.shOk x
 simp only[Cl.xbox,tt31,h,cond_true];rfl
structure Q0b where
 Kind:Int
 Owner:Int
 X:Int
 Y:Int
 VX:Int
 VY:Int
 Age:Int
 Mem:List Int
 hMem:Mem.length=4
 Faults:Int
def Q0b.cv(x:Q0b): CV:=.agg [I x.Kind,I x.Owner,I x.X,I x.Y,I x.VX,I x.VY,I x.Age,.agg (x.Mem.map I),I x.Faults]
@[ext] theorem Q0b.ext'{x y:Q0b}(h_Kind:x.Kind=y.Kind)(h_Owner:x.Owner=y.Owner)(h_X:x.X=y.X)(h_Y:x.Y=y.Y)(h_VX:x.VX=y.VX)(h_VY:x.VY=y.VY)(h_Age:x.Age=y.Age)(h_Mem:x.Mem=y.Mem)(h_Faults:x.Faults=y.Faults): x=y:=by
 obtain⟨a0,a1,a2,a3,a4,a5,a6,a7,ha,a8⟩:=x
 obtain⟨c0,c1,c2,c3,c4,c5,c6,c7,hc,c8⟩:=y
 simp only at h_Kind h_Owner h_X h_Y h_VX h_VY h_Age h_Mem h_Faults
 subst h_Kind h_Owner h_X h_Y h_VX h_VY h_Age h_Mem h_Faults
 rfl
def Q0b.zero: Q0b:={Kind:=0,Owner:=0,X:=0,Y:=0,VX:=0,VY:=0,Age:=0,Mem:=(List.replicate 4 0),hMem:=List.length_replicate,Faults:=0}
instance:Inhabited Q0b:=⟨Q0b.zero⟩
theorem Q0b.zcv: z34=Q0b.zero.cv:=by
 simp only[z34,Q0b.zero,Q0b.cv,z32,List.map_replicate,Lst.cv,List.map_nil]
theorem Q0b.shape(x:Q0b): x.cv.shape=sh34:=by simp only[Q0b.cv,sh34,CV.shape,CV.shapes,Lst.shape,Z0m (f:=I) (s:=Shape.s) (fun _=>rfl),x.hMem,sh32]
theorem Q0b.nohas(x:Q0b)(j:Nat): ¬x.cv.has j:=by simp[Q0b.cv,CV.has,CV.hasL,Z0h I_has]
instance:DecidableEq Q0b:=fun x y=>decidable_of_iff (x.Kind=y.Kind/\x.Owner=y.Owner/\x.X=y.X/\x.Y=y.Y/\x.VX=y.VX/\x.VY=y.VY/\x.Age=y.Age/\x.Mem=y.Mem/\x.Faults=y.Faults) ⟨fun h=>Q0b.ext' h.1 h.2.1 h.2.2.1 h.2.2.2.1 h.2.2.2.2.1 h.2.2.2.2.2.1 h.2.2.2.2.2.2.1 h.2.2.2.2.2.2.2.1 h.2.2.2.2.2.2.2.2,fun h=>by subst h;simp⟩
theorem Q0b.inj{x y:Q0b}(h:x.cv=y.cv): x=y:=by
 simp only[Q0b.cv,CV.agg.injEq,List.cons.injEq,and_true]at h
 obtain⟨h0,h1,h2,h3,h4,h5,h6,h7,h8⟩:=h
 refine Q0b.ext' (I_inj _ _ h0) (I_inj _ _ h1) (I_inj _ _ h2) (I_inj _ _ h3) (I_inj _ _ h4) (I_inj _ _ h5) (I_inj _ _ h6) (map_inj I_inj h7) (I_inj _ _ h8)
theorem Q0b.injF(x y:Q0b)(h:x.cv=y.cv): x=y:=Q0b.inj h
theorem Q0b.inj_iff(x y:Q0b): x.cv=y.cv ↔ x=y:=⟨Q0b.inj,fun h=>by rw[h]⟩
theorem Q0b.shOk(x:Q0b): Cl.shOk x.cv sh34=true:=V0r (Q0b.shape x) rfl
theorem Q0b.eq(d:Nat)(x y:Q0b): eqCV C (d+3) 34 x.cv y.cv=some (decide (x=y)):=by
 refine(V06 C (d:=d+2) tt34 (Q0b.shape x) (Q0b.shape y) (Z0g (Q0j C tt3 (d+1) _ _) (Z0g (Q0j C tt3 (d+1) _ _) (Z0g (Q0j C tt3 (d+1) _ _) (Z0g (Q0j C tt3 (d+1) _ _) (Z0g (Q0j C tt3 (d+1) _ _) (Z0g (Q0j C tt3 (d+1) _ _) (Z0g (Q0j C tt3 (d+1) _ _) (Z0g (eqCV_ar C (g:=I) (d:=d+1) tt32 rfl (fun _=>rfl) x.hMem y.hMem (Q0j C tt3 (d+0))) (Z0g (Q0j C tt3 (d+1) _ _) rfl)))))))))).trans (congrArg some ?_)
 rw[Bool.eq_iff_iff]
 simp only[Bool.and_eq_true,decide_eq_true_eq,and_true]
 exact⟨fun h=>Q0b.ext' h.1 h.2.1 h.2.2.1 h.2.2.2.1 h.2.2.2.2.1 h.2.2.2.2.2.1 h.2.2.2.2.2.2.1 h.2.2.2.2.2.2.2.1 h.2.2.2.2.2.2.2.2,fun h=>by subst h;simp⟩
theorem Q0b.eql(x y:Q0b)(b:Bool): qbin C .eql 34 b x.cv y.cv=some (Bo (decide (x=y))):=by
 have h:=Q0b.eq 9 x y
 unfold Q0b.cv at h ⊢
 simp only[qbin]
 rw[h];rfl
theorem Q0b.neq(x y:Q0b)(b:Bool): qbin C .neq 34 b x.cv y.cv=some (Bo (!decide (x=y))):=by
 have h:=Q0b.eq 9 x y
 unfold Q0b.cv at h ⊢
 simp only[qbin]
 rw[h];rfl
theorem Q0b.at_0(x:Q0b)(q:List Nat): x.cv.at (0::q)=(I x.Kind).at q:=rfl
def Q0b.upd_0(x:Q0b)(v:CV): CV:=.agg [v,I x.Owner,I x.X,I x.Y,I x.VX,I x.VY,I x.Age,.agg (x.Mem.map I),I x.Faults]
theorem Q0b.set_0(x:Q0b)(q:List Nat)(v:CV): x.cv.set (0::q) v=Q0b.upd_0 x ((I x.Kind).set q v):=rfl
theorem Q0b.fold_0(x:Q0b)(y:Int): Q0b.upd_0 x (I y)=({x with Kind:=y}:Q0b).cv:=rfl
theorem Q0b.fld_0(x:Q0b): qfield C 34 x.cv 0=some (I x.Kind):=Y0d C tt34 (Q0b.shape x) rfl tt3 rfl rfl
theorem Q0b.rfa_0(x:Q0b)(h:Heap): qfieldAddr C h 34 (.rptr x.cv) 0=some (.rptr (I x.Kind)):=by
 have hs:=Q0b.shape x
 unfold Q0b.cv at hs ⊢
 simp only[qfieldAddr,tt34,ti34,tgt,hs,if_true,List.getElem?_cons_zero,List.getElem?_cons_succ]
theorem Q0b.sub_0(q:List Nat)(z:Shape): subEq sh34 (0::q) z=subEq sh3 q z:=rfl
theorem Q0b.at_1(x:Q0b)(q:List Nat): x.cv.at (1::q)=(I x.Owner).at q:=rfl
def Q0b.upd_1(x:Q0b)(v:CV): CV:=.agg [I x.Kind,v,I x.X,I x.Y,I x.VX,I x.VY,I x.Age,.agg (x.Mem.map I),I x.Faults]
theorem Q0b.set_1(x:Q0b)(q:List Nat)(v:CV): x.cv.set (1::q) v=Q0b.upd_1 x ((I x.Owner).set q v):=rfl
theorem Q0b.fold_1(x:Q0b)(y:Int): Q0b.upd_1 x (I y)=({x with Owner:=y}:Q0b).cv:=rfl
theorem Q0b.fld_1(x:Q0b): qfield C 34 x.cv 1=some (I x.Owner):=Y0d C tt34 (Q0b.shape x) rfl tt3 rfl rfl
theorem Q0b.rfa_1(x:Q0b)(h:Heap): qfieldAddr C h 34 (.rptr x.cv) 1=some (.rptr (I x.Owner)):=by
 have hs:=Q0b.shape x
 unfold Q0b.cv at hs ⊢
 simp only[qfieldAddr,tt34,ti34,tgt,hs,if_true,List.getElem?_cons_zero,List.getElem?_cons_succ]
theorem Q0b.sub_1(q:List Nat)(z:Shape): subEq sh34 (1::q) z=subEq sh3 q z:=rfl
theorem Q0b.at_2(x:Q0b)(q:List Nat): x.cv.at (2::q)=(I x.X).at q:=rfl
def Q0b.upd_2(x:Q0b)(v:CV): CV:=.agg [I x.Kind,I x.Owner,v,I x.Y,I x.VX,I x.VY,I x.Age,.agg (x.Mem.map I),I x.Faults]
theorem Q0b.set_2(x:Q0b)(q:List Nat)(v:CV): x.cv.set (2::q) v=Q0b.upd_2 x ((I x.X).set q v):=rfl
theorem Q0b.fold_2(x:Q0b)(y:Int): Q0b.upd_2 x (I y)=({x with X:=y}:Q0b).cv:=rfl
theorem Q0b.fld_2(x:Q0b): qfield C 34 x.cv 2=some (I x.X):=Y0d C tt34 (Q0b.shape x) rfl tt3 rfl rfl
theorem Q0b.rfa_2(x:Q0b)(h:Heap): qfieldAddr C h 34 (.rptr x.cv) 2=some (.rptr (I x.X)):=by
 have hs:=Q0b.shape x
 unfold Q0b.cv at hs ⊢
 simp only[qfieldAddr,tt34,ti34,tgt,hs,if_true,List.getElem?_cons_zero,List.getElem?_cons_succ]
theorem Q0b.sub_2(q:List Nat)(z:Shape): subEq sh34 (2::q) z=subEq sh3 q z:=rfl
def Q0b.upd_3(x:Q0b)(v:CV): CV:=.agg [I x.Kind,I x.Owner,I x.X,v,I x.VX,I x.VY,I x.Age,.agg (x.Mem.map I),I x.Faults]
theorem Q0b.rfa_3(x:Q0b)(h:Heap): qfieldAddr C h 34 (.rptr x.cv) 3=some (.rptr (I x.Y)):=by
 have hs:=Q0b.shape x
 unfold Q0b.cv at hs ⊢
 simp only[qfieldAddr,tt34,ti34,tgt,hs,if_true,List.getElem?_cons_zero,List.getElem?_cons_succ]
def Q0b.upd_4(x:Q0b)(v:CV): CV:=.agg [I x.Kind,I x.Owner,I x.X,I x.Y,v,I x.VY,I x.Age,.agg (x.Mem.map I),I x.Faults]
theorem Q0b.fold_4(x:Q0b)(y:Int): Q0b.upd_4 x (I y)=({x with VX:=y}:Q0b).cv:=rfl
theorem Q0b.rfa_4(x:Q0b)(h:Heap): qfieldAddr C h 34 (.rptr x.cv) 4=some (.rptr (I x.VX)):=by
 have hs:=Q0b.shape x
 unfold Q0b.cv at hs ⊢
 simp only[qfieldAddr,tt34,ti34,tgt,hs,if_true,List.getElem?_cons_zero,List.getElem?_cons_succ]
def Q0b.upd_5(x:Q0b)(v:CV): CV:=.agg [I x.Kind,I x.Owner,I x.X,I x.Y,I x.VX,v,I x.Age,.agg (x.Mem.map I),I x.Faults]
theorem Q0b.rfa_5(x:Q0b)(h:Heap): qfieldAddr C h 34 (.rptr x.cv) 5=some (.rptr (I x.VY)):=by
 have hs:=Q0b.shape x
 unfold Q0b.cv at hs ⊢
 simp only[qfieldAddr,tt34,ti34,tgt,hs,if_true,List.getElem?_cons_zero,List.getElem?_cons_succ]
def Q0b.upd_6(x:Q0b)(v:CV): CV:=.agg [I x.Kind,I x.Owner,I x.X,I x.Y,I x.VX,I x.VY,v,.agg (x.Mem.map I),I x.Faults]
theorem Q0b.rfa_6(x:Q0b)(h:Heap): qfieldAddr C h 34 (.rptr x.cv) 6=some (.rptr (I x.Age)):=by
 have hs:=Q0b.shape x
 unfold Q0b.cv at hs ⊢
 simp only[qfieldAddr,tt34,ti34,tgt,hs,if_true,List.getElem?_cons_zero,List.getElem?_cons_succ]
def Q0b.upd_7(x:Q0b)(v:CV): CV:=.agg [I x.Kind,I x.Owner,I x.X,I x.Y,I x.VX,I x.VY,I x.Age,v,I x.Faults]
def Q0b.put_7k(x:Q0b)(k:Nat)(y:Int): Q0b:={x with Mem:=x.Mem.set k y,hMem:=by rw[List.length_set];exact x.hMem}
theorem Q0b.rfa_7(x:Q0b)(h:Heap): qfieldAddr C h 34 (.rptr x.cv) 7=some (.rptr (.agg (x.Mem.map I))):=by
 have hs:=Q0b.shape x
 unfold Q0b.cv at hs ⊢
 simp only[qfieldAddr,tt34,ti34,tgt,hs,if_true,List.getElem?_cons_zero,List.getElem?_cons_succ]
def Q0b.upd_8(x:Q0b)(v:CV): CV:=.agg [I x.Kind,I x.Owner,I x.X,I x.Y,I x.VX,I x.VY,I x.Age,.agg (x.Mem.map I),v]
theorem Q0b.fold_8(x:Q0b)(y:Int): Q0b.upd_8 x (I y)=({x with Faults:=y}:Q0b).cv:=rfl
theorem Q0b.rfa_8(x:Q0b)(h:Heap): qfieldAddr C h 34 (.rptr x.cv) 8=some (.rptr (I x.Faults)):=by
 have hs:=Q0b.shape x
 unfold Q0b.cv at hs ⊢
 simp only[qfieldAddr,tt34,ti34,tgt,hs,if_true,List.getElem?_cons_zero,List.getElem?_cons_succ]
theorem Q0b.sub_nil: subEq sh34 [] sh34=true:=by simp[subEq,Shape.sub]
theorem Q0b.alloc: allocObj C (.alloc 34)=some (.var sh34 Q0b.zero.cv):=by simp only[allocObj,tt34,ti34,Q0b.zcv]
theorem Q0b.xalloc(p:Hp): xalloc C p 34=.ret (.ptr p.n []) (p.new (.var sh34 Q0b.zero.cv)):=by simp only[Cl.xalloc,tt34,ti34,Q0b.zcv]
theorem Q0b.xbox(p:Hp)(x:Q0b): xbox C p 34 x.cv=.ret (.ptr p.n []) (p.new (.var sh34 x.cv)):=by
 have h:Cl.shOk x.cv ti34.sh=true:=Q0b.shOk x
 simp only[Cl.xbox,tt34,h,cond_true];rfl
theorem Q0b.bld_none:qbuild C 34 []=some (({Kind:=0,Owner:=0,X:=0,Y:=0,VX:=0,VY:=0,Age:=0,Mem:=(List.replicate 4 0),hMem:=List.length_replicate,Faults:=0}:Q0b).cv):=Q0g C tt34 (by simp only[partsOk,setAll,CV.shape,sh34,List.all_cons,List.all_nil,List.getElem?_cons_zero,List.getElem?_cons_succ,Bool.and_true,decide_true]) rfl
theorem Q0b.bld_0(a0:Int): qbuild C 34 [(0,I a0)]=some (({Kind:=a0,Owner:=0,X:=0,Y:=0,VX:=0,VY:=0,Age:=0,Mem:=(List.replicate 4 0),hMem:=List.length_replicate,Faults:=0}:Q0b).cv):=Q0g C tt34 (by simp only[partsOk,setAll,CV.shape,sh34,List.all_cons,List.all_nil,List.getElem?_cons_zero,List.getElem?_cons_succ,Bool.and_true,decide_true]) rfl
theorem Q0b.bld_0_1_2_3_4_5(a0:Int)(a1:Int)(a2:Int)(a3:Int)(a4:Int)(a5:Int): qbuild C 34 [(0,I a0),(1,I a1),(2,I a2),(3,I a3),(4,I a4),(5,I a5)]=some (({Kind:=a0,Owner:=a1,X:=a2,Y:=a3,VX:=a4,VY:=a5,Age:=0,Mem:=(List.replicate 4 0),hMem:=List.length_replicate,Faults:=0}:Q0b).cv):=Q0g C tt34 (by simp only[partsOk,setAll,CV.shape,sh34,List.all_cons,List.all_nil,List.getElem?_cons_zero,List.getElem?_cons_succ,Bool.and_true,decide_true]) rfl
structure Y0a where
 Buttons:Int
 X:Int
 Y:Int
def Y0a.cv(x:Y0a): CV:=.agg [I x.Buttons,I x.X,I x.Y]
@[ext] theorem Y0a.ext'{x y:Y0a}(h_Buttons:x.Buttons=y.Buttons)(h_X:x.X=y.X)(h_Y:x.Y=y.Y): x=y:=by
 obtain⟨a0,a1,a2⟩:=x
 obtain⟨c0,c1,c2⟩:=y
 simp only at h_Buttons h_X h_Y
 subst h_Buttons h_X h_Y
 rfl
def Y0a.zero: Y0a:={Buttons:=0,X:=0,Y:=0}
instance:Inhabited Y0a:=⟨Y0a.zero⟩
theorem Y0a.zcv: z36=Y0a.zero.cv:=by
 simp only[z36,Y0a.zero,Y0a.cv,List.map_replicate,Lst.cv,List.map_nil]
theorem Y0a.shape(x:Y0a): x.cv.shape=sh36:=by simp only[Y0a.cv,sh36,CV.shape,CV.shapes,Lst.shape]
theorem Y0a.nohas(x:Y0a)(j:Nat): ¬x.cv.has j:=by simp[Y0a.cv,CV.has,CV.hasL]
instance:DecidableEq Y0a:=fun x y=>decidable_of_iff (x.Buttons=y.Buttons/\x.X=y.X/\x.Y=y.Y) ⟨fun h=>Y0a.ext' h.1 h.2.1 h.2.2,fun h=>by subst h;simp⟩
theorem Y0a.inj{x y:Y0a}(h:x.cv=y.cv): x=y:=by
 simp only[Y0a.cv,CV.agg.injEq,List.cons.injEq,and_true]at h
 obtain⟨h0,h1,h2⟩:=h
 refine Y0a.ext' (I_inj _ _ h0) (I_inj _ _ h1) (I_inj _ _ h2)
theorem Y0a.injF(x y:Y0a)(h:x.cv=y.cv): x=y:=Y0a.inj h
theorem Y0a.inj_iff(x y:Y0a): x.cv=y.cv ↔ x=y:=⟨Y0a.inj,fun h=>by rw[h]⟩
theorem Y0a.shOk(x:Y0a): Cl.shOk x.cv sh36=true:=V0r (Y0a.shape x) rfl
theorem Y0a.eq(d:Nat)(x y:Y0a): eqCV C (d+2) 36 x.cv y.cv=some (decide (x=y)):=by
 refine(V06 C (d:=d+1) tt36 (Y0a.shape x) (Y0a.shape y) (Z0g (Q0j C tt3 (d+0) _ _) (Z0g (Q0j C tt3 (d+0) _ _) (Z0g (Q0j C tt3 (d+0) _ _) rfl)))).trans (congrArg some ?_)
 rw[Bool.eq_iff_iff]
 simp only[Bool.and_eq_true,decide_eq_true_eq,and_true]
 exact⟨fun h=>Y0a.ext' h.1 h.2.1 h.2.2,fun h=>by subst h;simp⟩
theorem Y0a.eql(x y:Y0a)(b:Bool): qbin C .eql 36 b x.cv y.cv=some (Bo (decide (x=y))):=by
 have h:=Y0a.eq 10 x y
 unfold Y0a.cv at h ⊢
 simp only[qbin]
 rw[h];rfl
theorem Y0a.neq(x y:Y0a)(b:Bool): qbin C .neq 36 b x.cv y.cv=some (Bo (!decide (x=y))):=by
 have h:=Y0a.eq 10 x y
 unfold Y0a.cv at h ⊢
 simp only[qbin]
 rw[h];rfl
theorem Y0a.at_0(x:Y0a)(q:List Nat): x.cv.at (0::q)=(I x.Buttons).at q:=rfl
def Y0a.upd_0(x:Y0a)(v:CV): CV:=.agg [v,I x.X,I x.Y]
theorem Y0a.set_0(x:Y0a)(q:List Nat)(v:CV): x.cv.set (0::q) v=Y0a.upd_0 x ((I x.Buttons).set q v):=rfl
theorem Y0a.fold_0(x:Y0a)(y:Int): Y0a.upd_0 x (I y)=({x with Buttons:=y}:Y0a).cv:=rfl
theorem Y0a.fld_0(x:Y0a): qfield C 36 x.cv 0=some (I x.Buttons):=Y0d C tt36 (Y0a.shape x) rfl tt3 rfl rfl
theorem Y0a.rfa_0(x:Y0a)(h:Heap): qfieldAddr C h 36 (.rptr x.cv) 0=some (.rptr (I x.Buttons)):=by
 have hs:=Y0a.shape x
 unfold Y0a.cv at hs ⊢
 simp only[qfieldAddr,tt36,ti36,tgt,hs,if_true,List.getElem?_cons_zero,List.getElem?_cons_succ]
theorem Y0a.sub_0(q:List Nat)(z:Shape): subEq sh36 (0::q) z=subEq sh3 q z:=rfl
theorem Y0a.at_1(x:Y0a)(q:List Nat): x.cv.at (1::q)=(I x.X).at q:=rfl
def Y0a.upd_1(x:Y0a)(v:CV): CV:=.agg [I x.Buttons,v,I x.Y]
theorem Y0a.set_1(x:Y0a)(q:List Nat)(v:CV): x.cv.set (1::q) v=Y0a.upd_1 x ((I x.X).set q v):=rfl
theorem Y0a.fold_1(x:Y0a)(y:Int): Y0a.upd_1 x (I y)=({x with X:=y}:Y0a).cv:=rfl
theorem Y0a.fld_1(x:Y0a): qfield C 36 x.cv 1=some (I x.X):=Y0d C tt36 (Y0a.shape x) rfl tt3 rfl rfl
theorem Y0a.rfa_1(x:Y0a)(h:Heap): qfieldAddr C h 36 (.rptr x.cv) 1=some (.rptr (I x.X)):=by
 have hs:=Y0a.shape x
 unfold Y0a.cv at hs ⊢
 simp only[qfieldAddr,tt36,ti36,tgt,hs,if_true,List.getElem?_cons_zero,List.getElem?_cons_succ]
theorem Y0a.sub_1(q:List Nat)(z:Shape): subEq sh36 (1::q) z=subEq sh3 q z:=rfl
theorem Y0a.at_2(x:Y0a)(q:List Nat): x.cv.at (2::q)=(I x.Y).at q:=rfl
def Y0a.upd_2(x:Y0a)(v:CV): CV:=.agg [I x.Buttons,I x.X,v]
theorem Y0a.set_2(x:Y0a)(q:List Nat)(v:CV): x.cv.set (2::q) v=Y0a.upd_2 x ((I x.Y).set q v):=rfl
theorem Y0a.fold_2(x:Y0a)(y:Int): Y0a.upd_2 x (I y)=({x with Y:=y}:Y0a).cv:=rfl
theorem Y0a.fld_2(x:Y0a): qfield C 36 x.cv 2=some (I x.Y):=Y0d C tt36 (Y0a.shape x) rfl tt3 rfl rfl
theorem Y0a.rfa_2(x:Y0a)(h:Heap): qfieldAddr C h 36 (.rptr x.cv) 2=some (.rptr (I x.Y)):=by
 have hs:=Y0a.shape x
 unfold Y0a.cv at hs ⊢
 simp only[qfieldAddr,tt36,ti36,tgt,hs,if_true,List.getElem?_cons_zero,List.getElem?_cons_succ]
theorem Y0a.sub_2(q:List Nat)(z:Shape): subEq sh36 (2::q) z=subEq sh3 q z:=rfl
theorem Y0a.sub_nil: subEq sh36 [] sh36=true:=by simp[subEq,Shape.sub]
theorem Y0a.alloc: allocObj C (.alloc 36)=some (.var sh36 Y0a.zero.cv):=by simp only[allocObj,tt36,ti36,Y0a.zcv]
theorem Y0a.xalloc(p:Hp): xalloc C p 36=.ret (.ptr p.n []) (p.new (.var sh36 Y0a.zero.cv)):=by simp only[Cl.xalloc,tt36,ti36,Y0a.zcv]
theorem Y0a.xbox(p:Hp)(x:Y0a): xbox C p 36 x.cv=.ret (.ptr p.n []) (p.new (.var sh36 x.cv)):=by
 have h:Cl.shOk x.cv ti36.sh=true:=Y0a.shOk x
 simp only[Cl.xbox,tt36,h,cond_true];rfl
theorem Y0a.bld_none:qbuild C 36 []=some (({Buttons:=0,X:=0,Y:=0}:Y0a).cv):=Q0g C tt36 (by simp only[partsOk,setAll,CV.shape,sh36,List.all_cons,List.all_nil,List.getElem?_cons_zero,List.getElem?_cons_succ,Bool.and_true,decide_true]) rfl
theorem Y0a.bld_0_1(a0:Int)(a1:Int): qbuild C 36 [(0,I a0),(1,I a1)]=some (({Buttons:=a0,X:=a1,Y:=0}:Y0a).cv):=Q0g C tt36 (by simp only[partsOk,setAll,CV.shape,sh36,List.all_cons,List.all_nil,List.getElem?_cons_zero,List.getElem?_cons_succ,Bool.and_true,decide_true]) rfl
theorem Y0a.bld_0_1_2(a0:Int)(a1:Int)(a2:Int): qbuild C 36 [(0,I a0),(1,I a1),(2,I a2)]=some (({Buttons:=a0,X:=a1,Y:=a2}:Y0a).cv):=Q0g C tt36 (by simp only[partsOk,setAll,CV.shape,sh36,List.all_cons,List.all_nil,List.getElem?_cons_zero,List.getElem?_cons_succ,Bool.and_true,decide_true]) rfl
theorem Y0a.bld_1(a1:Int): qbuild C 36 [(1,I a1)]=some (({Buttons:=0,X:=a1,Y:=0}:Y0a).cv):=Q0g C tt36 (by simp only[partsOk,setAll,CV.shape,sh36,List.all_cons,List.all_nil,List.getElem?_cons_zero,List.getElem?_cons_succ,Bool.and_true,decide_true]) rfl
structure Z0c where
 Body:Q0b
 In:Y0a
 Dice:Int
 Room:Int
 Shots:Lst Q0b
def Z0c.cv(x:Z0c): CV:=.agg [Q0b.cv x.Body,Y0a.cv x.In,U x.Dice,I x.Room,(Lst.cv Q0b.cv) x.Shots]
@[ext] theorem Z0c.ext'{x y:Z0c}(h_Body:x.Body=y.Body)(h_In:x.In=y.In)(h_Dice:x.Dice=y.Dice)(h_Room:x.Room=y.Room)(h_Shots:x.Shots=y.Shots): x=y:=by
 obtain⟨a0,a1,a2,a3,a4⟩:=x
 obtain⟨c0,c1,c2,c3,c4⟩:=y
 simp only at h_Body h_In h_Dice h_Room h_Shots
 subst h_Body h_In h_Dice h_Room h_Shots
 rfl
def Z0c.zero: Z0c:={Body:=Q0b.zero,In:=Y0a.zero,Dice:=0,Room:=0,Shots:=⟨.nil,[],fun _=>rfl⟩}
instance:Inhabited Z0c:=⟨Z0c.zero⟩
theorem Z0c.zcv: z39=Z0c.zero.cv:=by
 simp only[z39,Z0c.zero,Z0c.cv,Q0b.zcv,Y0a.zcv,List.map_replicate,Lst.cv,List.map_nil]
theorem Z0c.shape(x:Z0c): x.cv.shape=sh39:=by simp only[Z0c.cv,sh39,CV.shape,CV.shapes,Q0b.shape,Y0a.shape,Lst.shape]
theorem Z0c.has(x:Z0c)(j:Nat): x.cv.has j ↔ x.Shots.tl=.own j:=by simp[Z0c.cv,CV.has,CV.hasL,Q0b.nohas,Y0a.nohas,Lst.has _ Q0b.nohas]
theorem Z0c.inj{x y:Z0c}(h:x.cv=y.cv): x=y:=by
 simp only[Z0c.cv,CV.agg.injEq,List.cons.injEq,and_true]at h
 obtain⟨h0,h1,h2,h3,h4⟩:=h
 refine Z0c.ext' (Q0b.injF _ _ h0) (Y0a.injF _ _ h1) (U_inj _ _ h2) (I_inj _ _ h3) ((Lst.injF Q0b.injF) _ _ h4)
theorem Z0c.injF(x y:Z0c)(h:x.cv=y.cv): x=y:=Z0c.inj h
theorem Z0c.inj_iff(x y:Z0c): x.cv=y.cv ↔ x=y:=⟨Z0c.inj,fun h=>by rw[h]⟩
theorem Z0c.shOk(x:Z0c): Cl.shOk x.cv sh39=true:=V0r (Z0c.shape x) rfl
theorem Z0c.at_0(x:Z0c)(q:List Nat): x.cv.at (0::q)=(Q0b.cv x.Body).at q:=rfl
def Z0c.upd_0(x:Z0c)(v:CV): CV:=.agg [v,Y0a.cv x.In,U x.Dice,I x.Room,(Lst.cv Q0b.cv) x.Shots]
theorem Z0c.set_0(x:Z0c)(q:List Nat)(v:CV): x.cv.set (0::q) v=Z0c.upd_0 x ((Q0b.cv x.Body).set q v):=rfl
theorem Z0c.fold_0(x:Z0c)(y:Q0b): Z0c.upd_0 x (Q0b.cv y)=({x with Body:=y}:Z0c).cv:=rfl
theorem Z0c.fld_0(x:Z0c): qfield C 39 x.cv 0=some (Q0b.cv x.Body):=Y0d C tt39 (Z0c.shape x) rfl tt34 rfl (Q0b.shOk _)
theorem Z0c.sub_0(q:List Nat)(z:Shape): subEq sh39 (0::q) z=subEq sh34 q z:=rfl
theorem Z0c.at_1(x:Z0c)(q:List Nat): x.cv.at (1::q)=(Y0a.cv x.In).at q:=rfl
def Z0c.upd_1(x:Z0c)(v:CV): CV:=.agg [Q0b.cv x.Body,v,U x.Dice,I x.Room,(Lst.cv Q0b.cv) x.Shots]
theorem Z0c.set_1(x:Z0c)(q:List Nat)(v:CV): x.cv.set (1::q) v=Z0c.upd_1 x ((Y0a.cv x.In).set q v):=rfl
theorem Z0c.fold_1(x:Z0c)(y:Y0a): Z0c.upd_1 x (Y0a.cv y)=({x with In:=y}:Z0c).cv:=rfl
theorem Z0c.fld_1(x:Z0c): qfield C 39 x.cv 1=some (Y0a.cv x.In):=Y0d C tt39 (Z0c.shape x) rfl tt36 rfl (Y0a.shOk _)
theorem Z0c.sub_1(q:List Nat)(z:Shape): subEq sh39 (1::q) z=subEq sh36 q z:=rfl
theorem Z0c.at_2(x:Z0c)(q:List Nat): x.cv.at (2::q)=(U x.Dice).at q:=rfl
def Z0c.upd_2(x:Z0c)(v:CV): CV:=.agg [Q0b.cv x.Body,Y0a.cv x.In,v,I x.Room,(Lst.cv Q0b.cv) x.Shots]
theorem Z0c.set_2(x:Z0c)(q:List Nat)(v:CV): x.cv.set (2::q) v=Z0c.upd_2 x ((U x.Dice).set q v):=rfl
theorem Z0c.fold_2(x:Z0c)(y:Int): Z0c.upd_2 x (U y)=({x with Dice:=y}:Z0c).cv:=rfl
theorem Z0c.fld_2(x:Z0c): qfield C 39 x.cv 2=some (U x.Dice):=Y0d C tt39 (Z0c.shape x) rfl tt25 rfl rfl
theorem Z0c.sub_2(q:List Nat)(z:Shape): subEq sh39 (2::q) z=subEq sh25 q z:=rfl
def Z0c.upd_3(x:Z0c)(v:CV): CV:=.agg [Q0b.cv x.Body,Y0a.cv x.In,U x.Dice,v,(Lst.cv Q0b.cv) x.Shots]
def Z0c.upd_4(x:Z0c)(v:CV): CV:=.agg [Q0b.cv x.Body,Y0a.cv x.In,U x.Dice,I x.Room,v]
theorem Z0c.fold_4(x:Z0c)(y:Lst Q0b): Z0c.upd_4 x ((Lst.cv Q0b.cv) y)=({x with Shots:=y}:Z0c).cv:=rfl
theorem Z0c.sub_nil: subEq sh39 [] sh39=true:=by simp[subEq,Shape.sub]
theorem Z0c.alloc: allocObj C (.alloc 39)=some (.var sh39 Z0c.zero.cv):=by simp only[allocObj,tt39,ti39,Z0c.zcv]
theorem Z0c.xalloc(p:Hp): xalloc C p 39=.ret (.ptr p.n []) (p.new (.var sh39 Z0c.zero.cv)):=by simp only[Cl.xalloc,tt39,ti39,Z0c.zcv]
theorem Z0c.xbox(p:Hp)(x:Z0c): xbox C p 39 x.cv=.ret (.ptr p.n []) (p.new (.var sh39 x.cv)):=by
 have h:Cl.shOk x.cv ti39.sh=true:=Z0c.shOk x
 simp only[Cl.xbox,tt39,h,cond_true];rfl
structure V0b where
 Code:Int
 At:Int
def V0b.cv(x:V0b): CV:=.agg [I x.Code,I x.At]
@[ext] theorem V0b.ext'{x y:V0b}(h_Code:x.Code=y.Code)(h_At:x.At=y.At): x=y:=by
 obtain⟨a0,a1⟩:=x
 obtain⟨c0,c1⟩:=y
 simp only at h_Code h_At
 subst h_Code h_At
 rfl
def V0b.zero: V0b:={Code:=0,At:=0}
instance:Inhabited V0b:=⟨V0b.zero⟩
theorem V0b.zcv: z44=V0b.zero.cv:=by
 simp only[z44,V0b.zero,V0b.cv,List.map_replicate,Lst.cv,List.map_nil]
theorem V0b.shape(x:V0b): x.cv.shape=sh44:=by simp only[V0b.cv,sh44,CV.shape,CV.shapes,Lst.shape]
theorem V0b.nohas(x:V0b)(j:Nat): ¬x.cv.has j:=by simp[V0b.cv,CV.has,CV.hasL]
instance:DecidableEq V0b:=fun x y=>decidable_of_iff (x.Code=y.Code/\x.At=y.At) ⟨fun h=>V0b.ext' h.1 h.2,fun h=>by subst h;simp⟩
theorem V0b.inj{x y:V0b}(h:x.cv=y.cv): x=y:=by
 simp only[V0b.cv,CV.agg.injEq,List.cons.injEq,and_true]at h
 obtain⟨h0,h1⟩:=h
 refine V0b.ext' (I_inj _ _ h0) (I_inj _ _ h1)
theorem V0b.injF(x y:V0b)(h:x.cv=y.cv): x=y:=V0b.inj h
theorem V0b.inj_iff(x y:V0b): x.cv=y.cv ↔ x=y:=⟨V0b.inj,fun h=>by rw[h]⟩
theorem V0b.shOk(x:V0b): Cl.shOk x.cv sh44=true:=V0r (V0b.shape x) rfl
theorem V0b.eq(d:Nat)(x y:V0b): eqCV C (d+2) 44 x.cv y.cv=some (decide (x=y)):=by
 refine(V06 C (d:=d+1) tt44 (V0b.shape x) (V0b.shape y) (Z0g (Q0j C tt3 (d+0) _ _) (Z0g (Q0j C tt3 (d+0) _ _) rfl))).trans (congrArg some ?_)
 rw[Bool.eq_iff_iff]
 simp only[Bool.and_eq_true,decide_eq_true_eq,and_true]
 exact⟨fun h=>V0b.ext' h.1 h.2,fun h=>by subst h;simp⟩
theorem V0b.eql(x y:V0b)(b:Bool): qbin C .eql 44 b x.cv y.cv=some (Bo (decide (x=y))):=by
 have h:=V0b.eq 10 x y
 unfold V0b.cv at h ⊢
 simp only[qbin]
 rw[h];rfl
theorem V0b.neq(x y:V0b)(b:Bool): qbin C .neq 44 b x.cv y.cv=some (Bo (!decide (x=y))):=by
 have h:=V0b.eq 10 x y
 unfold V0b.cv at h ⊢
 simp only[qbin]
 rw[h];rfl
theorem V0b.at_0(x:V0b)(q:List Nat): x.cv.at (0::q)=(I x.Code).at q:=rfl
def V0b.upd_0(x:V0b)(v:CV): CV:=.agg [v,I x.At]
theorem V0b.set_0(x:V0b)(q:List Nat)(v:CV): x.cv.set (0::q) v=V0b.upd_0 x ((I x.Code).set q v):=rfl
theorem V0b.fold_0(x:V0b)(y:Int): V0b.upd_0 x (I y)=({x with Code:=y}:V0b).cv:=rfl
theorem V0b.fld_0(x:V0b): qfield C 44 x.cv 0=some (I x.Code):=Y0d C tt44 (V0b.shape x) rfl tt3 rfl rfl
theorem V0b.sub_0(q:List Nat)(z:Shape): subEq sh44 (0::q) z=subEq sh3 q z:=rfl
theorem V0b.at_1(x:V0b)(q:List Nat): x.cv.at (1::q)=(I x.At).at q:=rfl
def V0b.upd_1(x:V0b)(v:CV): CV:=.agg [I x.Code,v]
theorem V0b.set_1(x:V0b)(q:List Nat)(v:CV): x.cv.set (1::q) v=V0b.upd_1 x ((I x.At).set q v):=rfl
theorem V0b.fold_1(x:V0b)(y:Int): V0b.upd_1 x (I y)=({x with At:=y}:V0b).cv:=rfl
theorem V0b.fld_1(x:V0b): qfield C 44 x.cv 1=some (I x.At):=Y0d C tt44 (V0b.shape x) rfl tt3 rfl rfl
theorem V0b.sub_1(q:List Nat)(z:Shape): subEq sh44 (1::q) z=subEq sh3 q z:=rfl
theorem V0b.sub_nil: subEq sh44 [] sh44=true:=by simp[subEq,Shape.sub]
theorem V0b.alloc: allocObj C (.alloc 44)=some (.var sh44 V0b.zero.cv):=by simp only[allocObj,tt44,ti44,V0b.zcv]
theorem V0b.xalloc(p:Hp): xalloc C p 44=.ret (.ptr p.n []) (p.new (.var sh44 V0b.zero.cv)):=by simp only[Cl.xalloc,tt44,ti44,V0b.zcv]
theorem V0b.xbox(p:Hp)(x:V0b): xbox C p 44 x.cv=.ret (.ptr p.n []) (p.new (.var sh44 x.cv)):=by
 have h:Cl.shOk x.cv ti44.sh=true:=V0b.shOk x
 simp only[Cl.xbox,tt44,h,cond_true];rfl
theorem V0b.bld_none:qbuild C 44 []=some (({Code:=0,At:=0}:V0b).cv):=Q0g C tt44 (by simp only[partsOk,setAll,CV.shape,sh44,List.all_cons,List.all_nil,List.getElem?_cons_zero,List.getElem?_cons_succ,Bool.and_true,decide_true]) rfl
theorem V0b.bld_0(a0:Int): qbuild C 44 [(0,I a0)]=some (({Code:=a0,At:=0}:V0b).cv):=Q0g C tt44 (by simp only[partsOk,setAll,CV.shape,sh44,List.all_cons,List.all_nil,List.getElem?_cons_zero,List.getElem?_cons_succ,Bool.and_true,decide_true]) rfl
theorem V0b.bld_0_1(a0:Int)(a1:Int): qbuild C 44 [(0,I a0),(1,I a1)]=some (({Code:=a0,At:=a1}:V0b).cv):=Q0g C tt44 (by simp only[partsOk,setAll,CV.shape,sh44,List.all_cons,List.all_nil,List.getElem?_cons_zero,List.getElem?_cons_succ,Bool.and_true,decide_true]) rfl
structure Z0a where
 Players:Int
 Period:Int
 Grace:Int
 Start:Int
 Frames:Int
 Seed:Int
 Rate:Int
 Rules:Lst Z0b
def Z0a.cv(x:Z0a): CV:=.agg [I x.Players,I x.Period,I x.Grace,I x.Start,I x.Frames,I x.Seed,I x.Rate,(Lst.cv Z0b.cv) x.Rules]
@[ext] theorem Z0a.ext'{x y:Z0a}(h_Players:x.Players=y.Players)(h_Period:x.Period=y.Period)(h_Grace:x.Grace=y.Grace)(h_Start:x.Start=y.Start)(h_Frames:x.Frames=y.Frames)(h_Seed:x.Seed=y.Seed)(h_Rate:x.Rate=y.Rate)(h_Rules:x.Rules=y.Rules): x=y:=by
 obtain⟨a0,a1,a2,a3,a4,a5,a6,a7⟩:=x
 obtain⟨c0,c1,c2,c3,c4,c5,c6,c7⟩:=y
 simp only at h_Players h_Period h_Grace h_Start h_Frames h_Seed h_Rate h_Rules
 subst h_Players h_Period h_Grace h_Start h_Frames h_Seed h_Rate h_Rules
 rfl
def Z0a.zero: Z0a:={Players:=0,Period:=0,Grace:=0,Start:=0,Frames:=0,Seed:=0,Rate:=0,Rules:=⟨.nil,[],fun _=>rfl⟩}
instance:Inhabited Z0a:=⟨Z0a.zero⟩
theorem Z0a.zcv: z57=Z0a.zero.cv:=by
 simp only[z57,Z0a.zero,Z0a.cv,List.map_replicate,Lst.cv,List.map_nil]
theorem Z0a.shape(x:Z0a): x.cv.shape=sh57:=by simp only[Z0a.cv,sh57,CV.shape,CV.shapes,Lst.shape]
theorem Z0a.has(x:Z0a)(j:Nat): x.cv.has j ↔ x.Rules.tl=.own j:=by simp[Z0a.cv,CV.has,CV.hasL,Lst.has _ Z0b.nohas]
theorem Z0a.inj{x y:Z0a}(h:x.cv=y.cv): x=y:=by
 simp only[Z0a.cv,CV.agg.injEq,List.cons.injEq,and_true]at h
 obtain⟨h0,h1,h2,h3,h4,h5,h6,h7⟩:=h
 refine Z0a.ext' (I_inj _ _ h0) (I_inj _ _ h1) (I_inj _ _ h2) (I_inj _ _ h3) (I_inj _ _ h4) (I_inj _ _ h5) (I_inj _ _ h6) ((Lst.injF Z0b.injF) _ _ h7)
theorem Z0a.injF(x y:Z0a)(h:x.cv=y.cv): x=y:=Z0a.inj h
theorem Z0a.inj_iff(x y:Z0a): x.cv=y.cv ↔ x=y:=⟨Z0a.inj,fun h=>by rw[h]⟩
theorem Z0a.shOk(x:Z0a): Cl.shOk x.cv sh57=true:=V0r (Z0a.shape x) rfl
theorem Z0a.at_0(x:Z0a)(q:List Nat): x.cv.at (0::q)=(I x.Players).at q:=rfl
def Z0a.upd_0(x:Z0a)(v:CV): CV:=.agg [v,I x.Period,I x.Grace,I x.Start,I x.Frames,I x.Seed,I x.Rate,(Lst.cv Z0b.cv) x.Rules]
theorem Z0a.set_0(x:Z0a)(q:List Nat)(v:CV): x.cv.set (0::q) v=Z0a.upd_0 x ((I x.Players).set q v):=rfl
theorem Z0a.fold_0(x:Z0a)(y:Int): Z0a.upd_0 x (I y)=({x with Players:=y}:Z0a).cv:=rfl
theorem Z0a.fld_0(x:Z0a): qfield C 57 x.cv 0=some (I x.Players):=Y0d C tt57 (Z0a.shape x) rfl tt3 rfl rfl
theorem Z0a.sub_0(q:List Nat)(z:Shape): subEq sh57 (0::q) z=subEq sh3 q z:=rfl
theorem Z0a.at_1(x:Z0a)(q:List Nat): x.cv.at (1::q)=(I x.Period).at q:=rfl
def Z0a.upd_1(x:Z0a)(v:CV): CV:=.agg [I x.Players,v,I x.Grace,I x.Start,I x.Frames,I x.Seed,I x.Rate,(Lst.cv Z0b.cv) x.Rules]
theorem Z0a.set_1(x:Z0a)(q:List Nat)(v:CV): x.cv.set (1::q) v=Z0a.upd_1 x ((I x.Period).set q v):=rfl
theorem Z0a.fold_1(x:Z0a)(y:Int): Z0a.upd_1 x (I y)=({x with Period:=y}:Z0a).cv:=rfl
theorem Z0a.fld_1(x:Z0a): qfield C 57 x.cv 1=some (I x.Period):=Y0d C tt57 (Z0a.shape x) rfl tt3 rfl rfl
theorem Z0a.sub_1(q:List Nat)(z:Shape): subEq sh57 (1::q) z=subEq sh3 q z:=rfl
theorem Z0a.at_2(x:Z0a)(q:List Nat): x.cv.at (2::q)=(I x.Grace).at q:=rfl
def Z0a.upd_2(x:Z0a)(v:CV): CV:=.agg [I x.Players,I x.Period,v,I x.Start,I x.Frames,I x.Seed,I x.Rate,(Lst.cv Z0b.cv) x.Rules]
theorem Z0a.set_2(x:Z0a)(q:List Nat)(v:CV): x.cv.set (2::q) v=Z0a.upd_2 x ((I x.Grace).set q v):=rfl
theorem Z0a.fold_2(x:Z0a)(y:Int): Z0a.upd_2 x (I y)=({x with Grace:=y}:Z0a).cv:=rfl
theorem Z0a.fld_2(x:Z0a): qfield C 57 x.cv 2=some (I x.Grace):=Y0d C tt57 (Z0a.shape x) rfl tt3 rfl rfl
theorem Z0a.sub_2(q:List Nat)(z:Shape): subEq sh57 (2::q) z=subEq sh3 q z:=rfl
def Z0a.upd_3(x:Z0a)(v:CV): CV:=.agg [I x.Players,I x.Period,I x.Grace,v,I x.Frames,I x.Seed,I x.Rate,(Lst.cv Z0b.cv) x.Rules]
def Z0a.upd_4(x:Z0a)(v:CV): CV:=.agg [I x.Players,I x.Period,I x.Grace,I x.Start,v,I x.Seed,I x.Rate,(Lst.cv Z0b.cv) x.Rules]
theorem Z0a.fold_4(x:Z0a)(y:Int): Z0a.upd_4 x (I y)=({x with Frames:=y}:Z0a).cv:=rfl
def Z0a.upd_5(x:Z0a)(v:CV): CV:=.agg [I x.Players,I x.Period,I x.Grace,I x.Start,I x.Frames,v,I x.Rate,(Lst.cv Z0b.cv) x.Rules]
def Z0a.upd_6(x:Z0a)(v:CV): CV:=.agg [I x.Players,I x.Period,I x.Grace,I x.Start,I x.Frames,I x.Seed,v,(Lst.cv Z0b.cv) x.Rules]
def Z0a.upd_7(x:Z0a)(v:CV): CV:=.agg [I x.Players,I x.Period,I x.Grace,I x.Start,I x.Frames,I x.Seed,I x.Rate,v]
theorem Z0a.sub_nil: subEq sh57 [] sh57=true:=by simp[subEq,Shape.sub]
theorem Z0a.alloc: allocObj C (.alloc 57)=some (.var sh57 Z0a.zero.cv):=by simp only[allocObj,tt57,ti57,Z0a.zcv]
theorem Z0a.xalloc(p:Hp): xalloc C p 57=.ret (.ptr p.n []) (p.new (.var sh57 Z0a.zero.cv)):=by simp only[Cl.xalloc,tt57,ti57,Z0a.zcv]
theorem Z0a.xbox(p:Hp)(x:Z0a): xbox C p 57 x.cv=.ret (.ptr p.n []) (p.new (.var sh57 x.cv)):=by
 have h:Cl.shOk x.cv ti57.sh=true:=Z0a.shOk x
 simp only[Cl.xbox,tt57,h,cond_true];rfl
structure V0a where
 Kind:Int
 Slot:Int
 Seq:Int
 Last:Int
 Got:Int
 First:Int
 Frame:Int
 Mark:Int
 Players:Int
 Bend:Int
 Any:Bool
 Acks:Int
 Inputs:Lst Int
 Rows:Lst (Lst Int)
def V0a.cv(x:V0a): CV:=.agg [I x.Kind,I x.Slot,I x.Seq,I x.Last,I x.Got,I x.First,I x.Frame,I x.Mark,I x.Players,I x.Bend,Bo x.Any,U x.Acks,(Lst.cv I) x.Inputs,(Lst.cv (Lst.cv I)) x.Rows]
@[ext] theorem V0a.ext'{x y:V0a}(h_Kind:x.Kind=y.Kind)(h_Slot:x.Slot=y.Slot)(h_Seq:x.Seq=y.Seq)(h_Last:x.Last=y.Last)(h_Got:x.Got=y.Got)(h_First:x.First=y.First)(h_Frame:x.Frame=y.Frame)(h_Mark:x.Mark=y.Mark)(h_Players:x.Players=y.Players)(h_Bend:x.Bend=y.Bend)(h_Any:x.Any=y.Any)(h_Acks:x.Acks=y.Acks)(h_Inputs:x.Inputs=y.Inputs)(h_Rows:x.Rows=y.Rows): x=y:=by
 obtain⟨a0,a1,a2,a3,a4,a5,a6,a7,a8,a9,a10,a11,a12,a13⟩:=x
 obtain⟨c0,c1,c2,c3,c4,c5,c6,c7,c8,c9,c10,c11,c12,c13⟩:=y
 simp only at h_Kind h_Slot h_Seq h_Last h_Got h_First h_Frame h_Mark h_Players h_Bend h_Any h_Acks h_Inputs h_Rows
 subst h_Kind h_Slot h_Seq h_Last h_Got h_First h_Frame h_Mark h_Players h_Bend h_Any h_Acks h_Inputs h_Rows
 rfl
def V0a.zero: V0a:={Kind:=0,Slot:=0,Seq:=0,Last:=0,Got:=0,First:=0,Frame:=0,Mark:=0,Players:=0,Bend:=0,Any:=false,Acks:=0,Inputs:=⟨.nil,[],fun _=>rfl⟩,Rows:=⟨.nil,[],fun _=>rfl⟩}
instance:Inhabited V0a:=⟨V0a.zero⟩
theorem V0a.zcv: z90=V0a.zero.cv:=by
 simp only[z90,V0a.zero,V0a.cv,List.map_replicate,Lst.cv,List.map_nil]
theorem V0a.shape(x:V0a): x.cv.shape=sh90:=by simp only[V0a.cv,sh90,CV.shape,CV.shapes,Lst.shape]
theorem V0a.has(x:V0a)(j:Nat): x.cv.has j ↔ x.Inputs.tl=.own j\/((Lst.cv (Lst.cv I)) x.Rows).has j:=by simp[V0a.cv,CV.has,CV.hasL,Lst.has _ I_has]
theorem V0a.inj{x y:V0a}(h:x.cv=y.cv): x=y:=by
 simp only[V0a.cv,CV.agg.injEq,List.cons.injEq,and_true]at h
 obtain⟨h0,h1,h2,h3,h4,h5,h6,h7,h8,h9,h10,h11,h12,h13⟩:=h
 refine V0a.ext' (I_inj _ _ h0) (I_inj _ _ h1) (I_inj _ _ h2) (I_inj _ _ h3) (I_inj _ _ h4) (I_inj _ _ h5) (I_inj _ _ h6) (I_inj _ _ h7) (I_inj _ _ h8) (I_inj _ _ h9) (Z18 _ _ h10) (U_inj _ _ h11) ((Lst.injF I_inj) _ _ h12) ((Lst.injF (Lst.injF I_inj)) _ _ h13)
theorem V0a.injF(x y:V0a)(h:x.cv=y.cv): x=y:=V0a.inj h
theorem V0a.inj_iff(x y:V0a): x.cv=y.cv ↔ x=y:=⟨V0a.inj,fun h=>by rw[h]⟩
theorem V0a.shOk(x:V0a): Cl.shOk x.cv sh90=true:=V0r (V0a.shape x) rfl
def V0a.upd_0(x:V0a)(v:CV): CV:=.agg [v,I x.Slot,I x.Seq,I x.Last,I x.Got,I x.First,I x.Frame,I x.Mark,I x.Players,I x.Bend,Bo x.Any,U x.Acks,(Lst.cv I) x.Inputs,(Lst.cv (Lst.cv I)) x.Rows]
theorem V0a.rfa_0(x:V0a)(h:Heap): qfieldAddr C h 90 (.rptr x.cv) 0=some (.rptr (I x.Kind)):=by
 have hs:=V0a.shape x
 unfold V0a.cv at hs ⊢
 simp only[qfieldAddr,tt90,ti90,tgt,hs,if_true,List.getElem?_cons_zero,List.getElem?_cons_succ]
def V0a.upd_1(x:V0a)(v:CV): CV:=.agg [I x.Kind,v,I x.Seq,I x.Last,I x.Got,I x.First,I x.Frame,I x.Mark,I x.Players,I x.Bend,Bo x.Any,U x.Acks,(Lst.cv I) x.Inputs,(Lst.cv (Lst.cv I)) x.Rows]
theorem V0a.rfa_1(x:V0a)(h:Heap): qfieldAddr C h 90 (.rptr x.cv) 1=some (.rptr (I x.Slot)):=by
 have hs:=V0a.shape x
 unfold V0a.cv at hs ⊢
 simp only[qfieldAddr,tt90,ti90,tgt,hs,if_true,List.getElem?_cons_zero,List.getElem?_cons_succ]
def V0a.upd_2(x:V0a)(v:CV): CV:=.agg [I x.Kind,I x.Slot,v,I x.Last,I x.Got,I x.First,I x.Frame,I x.Mark,I x.Players,I x.Bend,Bo x.Any,U x.Acks,(Lst.cv I) x.Inputs,(Lst.cv (Lst.cv I)) x.Rows]
theorem V0a.rfa_2(x:V0a)(h:Heap): qfieldAddr C h 90 (.rptr x.cv) 2=some (.rptr (I x.Seq)):=by
 have hs:=V0a.shape x
 unfold V0a.cv at hs ⊢
 simp only[qfieldAddr,tt90,ti90,tgt,hs,if_true,List.getElem?_cons_zero,List.getElem?_cons_succ]
def V0a.upd_3(x:V0a)(v:CV): CV:=.agg [I x.Kind,I x.Slot,I x.Seq,v,I x.Got,I x.First,I x.Frame,I x.Mark,I x.Players,I x.Bend,Bo x.Any,U x.Acks,(Lst.cv I) x.Inputs,(Lst.cv (Lst.cv I)) x.Rows]
theorem V0a.rfa_3(x:V0a)(h:Heap): qfieldAddr C h 90 (.rptr x.cv) 3=some (.rptr (I x.Last)):=by
 have hs:=V0a.shape x
 unfold V0a.cv at hs ⊢
 simp only[qfieldAddr,tt90,ti90,tgt,hs,if_true,List.getElem?_cons_zero,List.getElem?_cons_succ]
def V0a.upd_4(x:V0a)(v:CV): CV:=.agg [I x.Kind,I x.Slot,I x.Seq,I x.Last,v,I x.First,I x.Frame,I x.Mark,I x.Players,I x.Bend,Bo x.Any,U x.Acks,(Lst.cv I) x.Inputs,(Lst.cv (Lst.cv I)) x.Rows]
theorem V0a.rfa_4(x:V0a)(h:Heap): qfieldAddr C h 90 (.rptr x.cv) 4=some (.rptr (I x.Got)):=by
 have hs:=V0a.shape x
 unfold V0a.cv at hs ⊢
 simp only[qfieldAddr,tt90,ti90,tgt,hs,if_true,List.getElem?_cons_zero,List.getElem?_cons_succ]
def V0a.upd_5(x:V0a)(v:CV): CV:=.agg [I x.Kind,I x.Slot,I x.Seq,I x.Last,I x.Got,v,I x.Frame,I x.Mark,I x.Players,I x.Bend,Bo x.Any,U x.Acks,(Lst.cv I) x.Inputs,(Lst.cv (Lst.cv I)) x.Rows]
theorem V0a.rfa_5(x:V0a)(h:Heap): qfieldAddr C h 90 (.rptr x.cv) 5=some (.rptr (I x.First)):=by
 have hs:=V0a.shape x
 unfold V0a.cv at hs ⊢
 simp only[qfieldAddr,tt90,ti90,tgt,hs,if_true,List.getElem?_cons_zero,List.getElem?_cons_succ]
def V0a.upd_6(x:V0a)(v:CV): CV:=.agg [I x.Kind,I x.Slot,I x.Seq,I x.Last,I x.Got,I x.First,v,I x.Mark,I x.Players,I x.Bend,Bo x.Any,U x.Acks,(Lst.cv I) x.Inputs,(Lst.cv (Lst.cv I)) x.Rows]
theorem V0a.rfa_6(x:V0a)(h:Heap): qfieldAddr C h 90 (.rptr x.cv) 6=some (.rptr (I x.Frame)):=by
 have hs:=V0a.shape x
 unfold V0a.cv at hs ⊢
 simp only[qfieldAddr,tt90,ti90,tgt,hs,if_true,List.getElem?_cons_zero,List.getElem?_cons_succ]
def V0a.upd_7(x:V0a)(v:CV): CV:=.agg [I x.Kind,I x.Slot,I x.Seq,I x.Last,I x.Got,I x.First,I x.Frame,v,I x.Players,I x.Bend,Bo x.Any,U x.Acks,(Lst.cv I) x.Inputs,(Lst.cv (Lst.cv I)) x.Rows]
theorem V0a.rfa_7(x:V0a)(h:Heap): qfieldAddr C h 90 (.rptr x.cv) 7=some (.rptr (I x.Mark)):=by
 have hs:=V0a.shape x
 unfold V0a.cv at hs ⊢
 simp only[qfieldAddr,tt90,ti90,tgt,hs,if_true,List.getElem?_cons_zero,List.getElem?_cons_succ]
def V0a.upd_8(x:V0a)(v:CV): CV:=.agg [I x.Kind,I x.Slot,I x.Seq,I x.Last,I x.Got,I x.First,I x.Frame,I x.Mark,v,I x.Bend,Bo x.Any,U x.Acks,(Lst.cv I) x.Inputs,(Lst.cv (Lst.cv I)) x.Rows]
theorem V0a.rfa_8(x:V0a)(h:Heap): qfieldAddr C h 90 (.rptr x.cv) 8=some (.rptr (I x.Players)):=by
 have hs:=V0a.shape x
 unfold V0a.cv at hs ⊢
 simp only[qfieldAddr,tt90,ti90,tgt,hs,if_true,List.getElem?_cons_zero,List.getElem?_cons_succ]
def V0a.upd_9(x:V0a)(v:CV): CV:=.agg [I x.Kind,I x.Slot,I x.Seq,I x.Last,I x.Got,I x.First,I x.Frame,I x.Mark,I x.Players,v,Bo x.Any,U x.Acks,(Lst.cv I) x.Inputs,(Lst.cv (Lst.cv I)) x.Rows]
theorem V0a.rfa_9(x:V0a)(h:Heap): qfieldAddr C h 90 (.rptr x.cv) 9=some (.rptr (I x.Bend)):=by
 have hs:=V0a.shape x
 unfold V0a.cv at hs ⊢
 simp only[qfieldAddr,tt90,ti90,tgt,hs,if_true,List.getElem?_cons_zero,List.getElem?_cons_succ]
def V0a.upd_10(x:V0a)(v:CV): CV:=.agg [I x.Kind,I x.Slot,I x.Seq,I x.Last,I x.Got,I x.First,I x.Frame,I x.Mark,I x.Players,I x.Bend,v,U x.Acks,(Lst.cv I) x.Inputs,(Lst.cv (Lst.cv I)) x.Rows]
theorem V0a.fold_10(x:V0a)(y:Bool): V0a.upd_10 x (Bo y)=({x with Any:=y}:V0a).cv:=rfl
theorem V0a.rfa_10(x:V0a)(h:Heap): qfieldAddr C h 90 (.rptr x.cv) 10=some (.rptr (Bo x.Any)):=by
 have hs:=V0a.shape x
 unfold V0a.cv at hs ⊢
 simp only[qfieldAddr,tt90,ti90,tgt,hs,if_true,List.getElem?_cons_zero,List.getElem?_cons_succ]
def V0a.upd_11(x:V0a)(v:CV): CV:=.agg [I x.Kind,I x.Slot,I x.Seq,I x.Last,I x.Got,I x.First,I x.Frame,I x.Mark,I x.Players,I x.Bend,Bo x.Any,v,(Lst.cv I) x.Inputs,(Lst.cv (Lst.cv I)) x.Rows]
theorem V0a.foldQ1(x:V0a)(y:Int): V0a.upd_0 x (I y)=({x with Kind:=y}:V0a).cv/\V0a.upd_1 x (I y)=({x with Slot:=y}:V0a).cv/\V0a.upd_2 x (I y)=({x with Seq:=y}:V0a).cv/\V0a.upd_3 x (I y)=({x with Last:=y}:V0a).cv/\V0a.upd_4 x (I y)=({x with Got:=y}:V0a).cv/\V0a.upd_5 x (I y)=({x with First:=y}:V0a).cv/\V0a.upd_6 x (I y)=({x with Frame:=y}:V0a).cv/\V0a.upd_7 x (I y)=({x with Mark:=y}:V0a).cv/\V0a.upd_8 x (I y)=({x with Players:=y}:V0a).cv/\V0a.upd_9 x (I y)=({x with Bend:=y}:V0a).cv/\V0a.upd_11 x (U y)=({x with Acks:=y}:V0a).cv:=⟨rfl,rfl,rfl,rfl,rfl,rfl,rfl,rfl,rfl,rfl,rfl⟩
theorem V0a.rfa_11(x:V0a)(h:Heap): qfieldAddr C h 90 (.rptr x.cv) 11=some (.rptr (U x.Acks)):=by
 have hs:=V0a.shape x
 unfold V0a.cv at hs ⊢
 simp only[qfieldAddr,tt90,ti90,tgt,hs,if_true,List.getElem?_cons_zero,List.getElem?_cons_succ]
def V0a.upd_12(x:V0a)(v:CV): CV:=.agg [I x.Kind,I x.Slot,I x.Seq,I x.Last,I x.Got,I x.First,I x.Frame,I x.Mark,I x.Players,I x.Bend,Bo x.Any,U x.Acks,v,(Lst.cv (Lst.cv I)) x.Rows]
theorem V0a.fold_12(x:V0a)(y:Lst Int): V0a.upd_12 x ((Lst.cv I) y)=({x with Inputs:=y}:V0a).cv:=rfl
theorem V0a.rfa_12(x:V0a)(h:Heap): qfieldAddr C h 90 (.rptr x.cv) 12=some (.rptr ((Lst.cv I) x.Inputs)):=by
 have hs:=V0a.shape x
 unfold V0a.cv at hs ⊢
 simp only[qfieldAddr,tt90,ti90,tgt,hs,if_true,List.getElem?_cons_zero,List.getElem?_cons_succ]
theorem V0a.atQ1(x:V0a)(q:List Nat): x.cv.at (0::q)=(I x.Kind).at q/\x.cv.at (1::q)=(I x.Slot).at q/\x.cv.at (2::q)=(I x.Seq).at q/\x.cv.at (3::q)=(I x.Last).at q/\x.cv.at (4::q)=(I x.Got).at q/\x.cv.at (5::q)=(I x.First).at q/\x.cv.at (6::q)=(I x.Frame).at q/\x.cv.at (7::q)=(I x.Mark).at q/\x.cv.at (8::q)=(I x.Players).at q/\x.cv.at (9::q)=(I x.Bend).at q/\x.cv.at (10::q)=(Bo x.Any).at q/\x.cv.at (11::q)=(U x.Acks).at q/\x.cv.at (12::q)=((Lst.cv I) x.Inputs).at q/\x.cv.at (13::q)=((Lst.cv (Lst.cv I)) x.Rows).at q:=⟨rfl,rfl,rfl,rfl,rfl,rfl,rfl,rfl,rfl,rfl,rfl,rfl,rfl,rfl⟩
def V0a.upd_13(x:V0a)(v:CV): CV:=.agg [I x.Kind,I x.Slot,I x.Seq,I x.Last,I x.Got,I x.First,I x.Frame,I x.Mark,I x.Players,I x.Bend,Bo x.Any,U x.Acks,(Lst.cv I) x.Inputs,v]
theorem V0a.setQ1(x:V0a)(q:List Nat)(v:CV): x.cv.set (0::q) v=V0a.upd_0 x ((I x.Kind).set q v)/\x.cv.set (1::q) v=V0a.upd_1 x ((I x.Slot).set q v)/\x.cv.set (2::q) v=V0a.upd_2 x ((I x.Seq).set q v)/\x.cv.set (3::q) v=V0a.upd_3 x ((I x.Last).set q v)/\x.cv.set (4::q) v=V0a.upd_4 x ((I x.Got).set q v)/\x.cv.set (5::q) v=V0a.upd_5 x ((I x.First).set q v)/\x.cv.set (6::q) v=V0a.upd_6 x ((I x.Frame).set q v)/\x.cv.set (7::q) v=V0a.upd_7 x ((I x.Mark).set q v)/\x.cv.set (8::q) v=V0a.upd_8 x ((I x.Players).set q v)/\x.cv.set (9::q) v=V0a.upd_9 x ((I x.Bend).set q v)/\x.cv.set (10::q) v=V0a.upd_10 x ((Bo x.Any).set q v)/\x.cv.set (11::q) v=V0a.upd_11 x ((U x.Acks).set q v)/\x.cv.set (12::q) v=V0a.upd_12 x (((Lst.cv I) x.Inputs).set q v)/\x.cv.set (13::q) v=V0a.upd_13 x (((Lst.cv (Lst.cv I)) x.Rows).set q v):=⟨rfl,rfl,rfl,rfl,rfl,rfl,rfl,rfl,rfl,rfl,rfl,rfl,rfl,rfl⟩
theorem V0a.fold_13(x:V0a)(y:Lst (Lst Int)): V0a.upd_13 x ((Lst.cv (Lst.cv I)) y)=({x with Rows:=y}:V0a).cv:=rfl
theorem V0a.fldQ1(x:V0a): qfield C 90 x.cv 0=some (I x.Kind)/\qfield C 90 x.cv 1=some (I x.Slot)/\qfield C 90 x.cv 2=some (I x.Seq)/\qfield C 90 x.cv 3=some (I x.Last)/\qfield C 90 x.cv 4=some (I x.Got)/\qfield C 90 x.cv 5=some (I x.First)/\qfield C 90 x.cv 6=some (I x.Frame)/\qfield C 90 x.cv 7=some (I x.Mark)/\qfield C 90 x.cv 8=some (I x.Players)/\qfield C 90 x.cv 9=some (I x.Bend)/\qfield C 90 x.cv 10=some (Bo x.Any)/\qfield C 90 x.cv 11=some (U x.Acks)/\qfield C 90 x.cv 12=some ((Lst.cv I) x.Inputs)/\qfield C 90 x.cv 13=some ((Lst.cv (Lst.cv I)) x.Rows):=⟨Y0d C tt90 (V0a.shape x) rfl tt3 rfl rfl,Y0d C tt90 (V0a.shape x) rfl tt3 rfl rfl,Y0d C tt90 (V0a.shape x) rfl tt3 rfl rfl,Y0d C tt90 (V0a.shape x) rfl tt3 rfl rfl,Y0d C tt90 (V0a.shape x) rfl tt3 rfl rfl,Y0d C tt90 (V0a.shape x) rfl tt3 rfl rfl,Y0d C tt90 (V0a.shape x) rfl tt3 rfl rfl,Y0d C tt90 (V0a.shape x) rfl tt3 rfl rfl,Y0d C tt90 (V0a.shape x) rfl tt3 rfl rfl,Y0d C tt90 (V0a.shape x) rfl tt3 rfl rfl,Y0d C tt90 (V0a.shape x) rfl tt4 rfl rfl,Y0d C tt90 (V0a.shape x) rfl tt25 rfl rfl,Y0d C tt90 (V0a.shape x) rfl tt24 rfl rfl,Y0d C tt90 (V0a.shape x) rfl tt58 rfl rfl⟩
theorem V0a.rfa_13(x:V0a)(h:Heap): qfieldAddr C h 90 (.rptr x.cv) 13=some (.rptr ((Lst.cv (Lst.cv I)) x.Rows)):=by
 have hs:=V0a.shape x
 unfold V0a.cv at hs ⊢
 simp only[qfieldAddr,tt90,ti90,tgt,hs,if_true,List.getElem?_cons_zero,List.getElem?_cons_succ]
theorem V0a.subQ1(q:List Nat)(z:Shape): subEq sh90 (0::q) z=subEq sh3 q z/\subEq sh90 (1::q) z=subEq sh3 q z/\subEq sh90 (2::q) z=subEq sh3 q z/\subEq sh90 (3::q) z=subEq sh3 q z/\subEq sh90 (4::q) z=subEq sh3 q z/\subEq sh90 (5::q) z=subEq sh3 q z/\subEq sh90 (6::q) z=subEq sh3 q z/\subEq sh90 (7::q) z=subEq sh3 q z/\subEq sh90 (8::q) z=subEq sh3 q z/\subEq sh90 (9::q) z=subEq sh3 q z/\subEq sh90 (10::q) z=subEq sh4 q z/\subEq sh90 (11::q) z=subEq sh25 q z/\subEq sh90 (12::q) z=subEq sh24 q z/\subEq sh90 (13::q) z=subEq sh58 q z:=⟨rfl,rfl,rfl,rfl,rfl,rfl,rfl,rfl,rfl,rfl,rfl,rfl,rfl,rfl⟩
theorem V0a.sub_nil: subEq sh90 [] sh90=true:=by simp[subEq,Shape.sub]
theorem V0a.alloc: allocObj C (.alloc 90)=some (.var sh90 V0a.zero.cv):=by simp only[allocObj,tt90,ti90,V0a.zcv]
theorem V0a.xalloc(p:Hp): xalloc C p 90=.ret (.ptr p.n []) (p.new (.var sh90 V0a.zero.cv)):=by simp only[Cl.xalloc,tt90,ti90,V0a.zcv]
theorem V0a.xbox(p:Hp)(x:V0a): xbox C p 90 x.cv=.ret (.ptr p.n []) (p.new (.var sh90 x.cv)):=by
 have h:Cl.shOk x.cv ti90.sh=true:=V0a.shOk x
 simp only[Cl.xbox,tt90,h,cond_true];rfl
structure X0a where
 Real:Bool
 In:Y0a
def X0a.cv(x:X0a): CV:=.agg [Bo x.Real,Y0a.cv x.In]
@[ext] theorem X0a.ext'{x y:X0a}(h_Real:x.Real=y.Real)(h_In:x.In=y.In): x=y:=by
 obtain⟨a0,a1⟩:=x
 obtain⟨c0,c1⟩:=y
 simp only at h_Real h_In
 subst h_Real h_In
 rfl
def X0a.zero: X0a:={Real:=false,In:=Y0a.zero}
instance:Inhabited X0a:=⟨X0a.zero⟩
theorem X0a.zcv: z110=X0a.zero.cv:=by
 simp only[z110,X0a.zero,X0a.cv,Y0a.zcv,List.map_replicate,Lst.cv,List.map_nil]
theorem X0a.shape(x:X0a): x.cv.shape=sh110:=by simp only[X0a.cv,sh110,CV.shape,CV.shapes,Y0a.shape,Lst.shape]
theorem X0a.nohas(x:X0a)(j:Nat): ¬x.cv.has j:=by simp[X0a.cv,CV.has,CV.hasL,Y0a.nohas]
instance:DecidableEq X0a:=fun x y=>decidable_of_iff (x.Real=y.Real/\x.In=y.In) ⟨fun h=>X0a.ext' h.1 h.2,fun h=>by subst h;simp⟩
theorem X0a.inj{x y:X0a}(h:x.cv=y.cv): x=y:=by
 simp only[X0a.cv,CV.agg.injEq,List.cons.injEq,and_true]at h
 obtain⟨h0,h1⟩:=h
 refine X0a.ext' (Z18 _ _ h0) (Y0a.injF _ _ h1)
theorem X0a.injF(x y:X0a)(h:x.cv=y.cv): x=y:=X0a.inj h
theorem X0a.inj_iff(x y:X0a): x.cv=y.cv ↔ x=y:=⟨X0a.inj,fun h=>by rw[h]⟩
theorem X0a.shOk(x:X0a): Cl.shOk x.cv sh110=true:=V0r (X0a.shape x) rfl
theorem X0a.eq(d:Nat)(x y:X0a): eqCV C (d+3) 110 x.cv y.cv=some (decide (x=y)):=by
 refine(V06 C (d:=d+2) tt110 (X0a.shape x) (X0a.shape y) (Z0g (eqCV_bool C tt4 (d+1) _ _) (Z0g (Y0a.eq (d+0) _ _) rfl))).trans (congrArg some ?_)
 rw[Bool.eq_iff_iff]
 simp only[Bool.and_eq_true,decide_eq_true_eq,and_true]
 exact⟨fun h=>X0a.ext' h.1 h.2,fun h=>by subst h;simp⟩
theorem X0a.eql(x y:X0a)(b:Bool): qbin C .eql 110 b x.cv y.cv=some (Bo (decide (x=y))):=by
 have h:=X0a.eq 9 x y
 unfold X0a.cv at h ⊢
 simp only[qbin]
 rw[h];rfl
theorem X0a.neq(x y:X0a)(b:Bool): qbin C .neq 110 b x.cv y.cv=some (Bo (!decide (x=y))):=by
 have h:=X0a.eq 9 x y
 unfold X0a.cv at h ⊢
 simp only[qbin]
 rw[h];rfl
theorem X0a.at_0(x:X0a)(q:List Nat): x.cv.at (0::q)=(Bo x.Real).at q:=rfl
def X0a.upd_0(x:X0a)(v:CV): CV:=.agg [v,Y0a.cv x.In]
theorem X0a.set_0(x:X0a)(q:List Nat)(v:CV): x.cv.set (0::q) v=X0a.upd_0 x ((Bo x.Real).set q v):=rfl
theorem X0a.fold_0(x:X0a)(y:Bool): X0a.upd_0 x (Bo y)=({x with Real:=y}:X0a).cv:=rfl
theorem X0a.fld_0(x:X0a): qfield C 110 x.cv 0=some (Bo x.Real):=Y0d C tt110 (X0a.shape x) rfl tt4 rfl rfl
theorem X0a.rfa_0(x:X0a)(h:Heap): qfieldAddr C h 110 (.rptr x.cv) 0=some (.rptr (Bo x.Real)):=by
 have hs:=X0a.shape x
 unfold X0a.cv at hs ⊢
 simp only[qfieldAddr,tt110,ti110,tgt,hs,if_true,List.getElem?_cons_zero,List.getElem?_cons_succ]
theorem X0a.sub_0(q:List Nat)(z:Shape): subEq sh110 (0::q) z=subEq sh4 q z:=rfl
theorem X0a.at_1(x:X0a)(q:List Nat): x.cv.at (1::q)=(Y0a.cv x.In).at q:=rfl
def X0a.upd_1(x:X0a)(v:CV): CV:=.agg [Bo x.Real,v]
theorem X0a.set_1(x:X0a)(q:List Nat)(v:CV): x.cv.set (1::q) v=X0a.upd_1 x ((Y0a.cv x.In).set q v):=rfl
theorem X0a.fold_1(x:X0a)(y:Y0a): X0a.upd_1 x (Y0a.cv y)=({x with In:=y}:X0a).cv:=rfl
theorem X0a.fld_1(x:X0a): qfield C 110 x.cv 1=some (Y0a.cv x.In):=Y0d C tt110 (X0a.shape x) rfl tt36 rfl (Y0a.shOk _)
theorem X0a.rfa_1(x:X0a)(h:Heap): qfieldAddr C h 110 (.rptr x.cv) 1=some (.rptr (Y0a.cv x.In)):=by
 have hs:=X0a.shape x
 unfold X0a.cv at hs ⊢
 simp only[qfieldAddr,tt110,ti110,tgt,hs,if_true,List.getElem?_cons_zero,List.getElem?_cons_succ]
theorem X0a.sub_1(q:List Nat)(z:Shape): subEq sh110 (1::q) z=subEq sh36 q z:=rfl
theorem X0a.sub_nil: subEq sh110 [] sh110=true:=by simp[subEq,Shape.sub]
theorem X0a.alloc: allocObj C (.alloc 110)=some (.var sh110 X0a.zero.cv):=by simp only[allocObj,tt110,ti110,X0a.zcv]
theorem X0a.xalloc(p:Hp): xalloc C p 110=.ret (.ptr p.n []) (p.new (.var sh110 X0a.zero.cv)):=by simp only[Cl.xalloc,tt110,ti110,X0a.zcv]
theorem X0a.xbox(p:Hp)(x:X0a): xbox C p 110 x.cv=.ret (.ptr p.n []) (p.new (.var sh110 x.cv)):=by
 have h:Cl.shOk x.cv ti110.sh=true:=X0a.shOk x
 simp only[Cl.xbox,tt110,h,cond_true];rfl
theorem X0a.bld_0(a0:Bool): qbuild C 110 [(0,Bo a0)]=some (({Real:=a0,In:=Y0a.zero}:X0a).cv):=Q0g C tt110 (by simp only[partsOk,setAll,CV.shape,sh110,List.all_cons,List.all_nil,List.getElem?_cons_zero,List.getElem?_cons_succ,Bool.and_true,decide_true]) rfl
theorem X0a.bld_0_1(a0:Bool)(a1:Y0a): qbuild C 110 [(0,Bo a0),(1,Y0a.cv a1)]=some (({Real:=a0,In:=a1}:X0a).cv):=Q0g C tt110 (by simp only[partsOk,setAll,CV.shape,Y0a.shape,sh110,List.all_cons,List.all_nil,List.getElem?_cons_zero,List.getElem?_cons_succ,Bool.and_true,decide_true]) rfl
structure Q0a where
 Kind:Int
 Slot:Int
 Seq:Int
 Last:Int
 Any:Bool
 Acks:Int
 Got:Int
 First:Int
 Inputs:Lst Y0a
 Players:Int
 Rows:Lst (Lst X0a)
 Frame:Int
 Mark:Int
def Q0a.cv(x:Q0a): CV:=.agg [I x.Kind,I x.Slot,I x.Seq,I x.Last,Bo x.Any,U x.Acks,I x.Got,I x.First,(Lst.cv Y0a.cv) x.Inputs,I x.Players,(Lst.cv (Lst.cv X0a.cv)) x.Rows,I x.Frame,I x.Mark]
@[ext] theorem Q0a.ext'{x y:Q0a}(h_Kind:x.Kind=y.Kind)(h_Slot:x.Slot=y.Slot)(h_Seq:x.Seq=y.Seq)(h_Last:x.Last=y.Last)(h_Any:x.Any=y.Any)(h_Acks:x.Acks=y.Acks)(h_Got:x.Got=y.Got)(h_First:x.First=y.First)(h_Inputs:x.Inputs=y.Inputs)(h_Players:x.Players=y.Players)(h_Rows:x.Rows=y.Rows)(h_Frame:x.Frame=y.Frame)(h_Mark:x.Mark=y.Mark): x=y:=by
 obtain⟨a0,a1,a2,a3,a4,a5,a6,a7,a8,a9,a10,a11,a12⟩:=x
 obtain⟨c0,c1,c2,c3,c4,c5,c6,c7,c8,c9,c10,c11,c12⟩:=y
 simp only at h_Kind h_Slot h_Seq h_Last h_Any h_Acks h_Got h_First h_Inputs h_Players h_Rows h_Frame h_Mark
 subst h_Kind h_Slot h_Seq h_Last h_Any h_Acks h_Got h_First h_Inputs h_Players h_Rows h_Frame h_Mark
 rfl
def Q0a.zero: Q0a:={Kind:=0,Slot:=0,Seq:=0,Last:=0,Any:=false,Acks:=0,Got:=0,First:=0,Inputs:=⟨.nil,[],fun _=>rfl⟩,Players:=0,Rows:=⟨.nil,[],fun _=>rfl⟩,Frame:=0,Mark:=0}
instance:Inhabited Q0a:=⟨Q0a.zero⟩
theorem Q0a.zcv: z94=Q0a.zero.cv:=by
 simp only[z94,Q0a.zero,Q0a.cv,List.map_replicate,Lst.cv,List.map_nil]
theorem Q0a.shape(x:Q0a): x.cv.shape=sh94:=by simp only[Q0a.cv,sh94,CV.shape,CV.shapes,Lst.shape]
theorem Q0a.has(x:Q0a)(j:Nat): x.cv.has j ↔ x.Inputs.tl=.own j\/((Lst.cv (Lst.cv X0a.cv)) x.Rows).has j:=by simp[Q0a.cv,CV.has,CV.hasL,Lst.has _ Y0a.nohas]
theorem Q0a.inj{x y:Q0a}(h:x.cv=y.cv): x=y:=by
 simp only[Q0a.cv,CV.agg.injEq,List.cons.injEq,and_true]at h
 obtain⟨h0,h1,h2,h3,h4,h5,h6,h7,h8,h9,h10,h11,h12⟩:=h
 refine Q0a.ext' (I_inj _ _ h0) (I_inj _ _ h1) (I_inj _ _ h2) (I_inj _ _ h3) (Z18 _ _ h4) (U_inj _ _ h5) (I_inj _ _ h6) (I_inj _ _ h7) ((Lst.injF Y0a.injF) _ _ h8) (I_inj _ _ h9) ((Lst.injF (Lst.injF X0a.injF)) _ _ h10) (I_inj _ _ h11) (I_inj _ _ h12)
theorem Q0a.injF(x y:Q0a)(h:x.cv=y.cv): x=y:=Q0a.inj h
theorem Q0a.inj_iff(x y:Q0a): x.cv=y.cv ↔ x=y:=⟨Q0a.inj,fun h=>by rw[h]⟩
theorem Q0a.shOk(x:Q0a): Cl.shOk x.cv sh94=true:=V0r (Q0a.shape x) rfl
def Q0a.upd_0(x:Q0a)(v:CV): CV:=.agg [v,I x.Slot,I x.Seq,I x.Last,Bo x.Any,U x.Acks,I x.Got,I x.First,(Lst.cv Y0a.cv) x.Inputs,I x.Players,(Lst.cv (Lst.cv X0a.cv)) x.Rows,I x.Frame,I x.Mark]
theorem Q0a.rfa_0(x:Q0a)(h:Heap): qfieldAddr C h 94 (.rptr x.cv) 0=some (.rptr (I x.Kind)):=by
 have hs:=Q0a.shape x
 unfold Q0a.cv at hs ⊢
 simp only[qfieldAddr,tt94,ti94,tgt,hs,if_true,List.getElem?_cons_zero,List.getElem?_cons_succ]
def Q0a.upd_1(x:Q0a)(v:CV): CV:=.agg [I x.Kind,v,I x.Seq,I x.Last,Bo x.Any,U x.Acks,I x.Got,I x.First,(Lst.cv Y0a.cv) x.Inputs,I x.Players,(Lst.cv (Lst.cv X0a.cv)) x.Rows,I x.Frame,I x.Mark]
theorem Q0a.rfa_1(x:Q0a)(h:Heap): qfieldAddr C h 94 (.rptr x.cv) 1=some (.rptr (I x.Slot)):=by
 have hs:=Q0a.shape x
 unfold Q0a.cv at hs ⊢
 simp only[qfieldAddr,tt94,ti94,tgt,hs,if_true,List.getElem?_cons_zero,List.getElem?_cons_succ]
def Q0a.upd_2(x:Q0a)(v:CV): CV:=.agg [I x.Kind,I x.Slot,v,I x.Last,Bo x.Any,U x.Acks,I x.Got,I x.First,(Lst.cv Y0a.cv) x.Inputs,I x.Players,(Lst.cv (Lst.cv X0a.cv)) x.Rows,I x.Frame,I x.Mark]
theorem Q0a.rfa_2(x:Q0a)(h:Heap): qfieldAddr C h 94 (.rptr x.cv) 2=some (.rptr (I x.Seq)):=by
 have hs:=Q0a.shape x
 unfold Q0a.cv at hs ⊢
 simp only[qfieldAddr,tt94,ti94,tgt,hs,if_true,List.getElem?_cons_zero,List.getElem?_cons_succ]
def Q0a.upd_3(x:Q0a)(v:CV): CV:=.agg [I x.Kind,I x.Slot,I x.Seq,v,Bo x.Any,U x.Acks,I x.Got,I x.First,(Lst.cv Y0a.cv) x.Inputs,I x.Players,(Lst.cv (Lst.cv X0a.cv)) x.Rows,I x.Frame,I x.Mark]
theorem Q0a.rfa_3(x:Q0a)(h:Heap): qfieldAddr C h 94 (.rptr x.cv) 3=some (.rptr (I x.Last)):=by
 have hs:=Q0a.shape x
 unfold Q0a.cv at hs ⊢
 simp only[qfieldAddr,tt94,ti94,tgt,hs,if_true,List.getElem?_cons_zero,List.getElem?_cons_succ]
def Q0a.upd_4(x:Q0a)(v:CV): CV:=.agg [I x.Kind,I x.Slot,I x.Seq,I x.Last,v,U x.Acks,I x.Got,I x.First,(Lst.cv Y0a.cv) x.Inputs,I x.Players,(Lst.cv (Lst.cv X0a.cv)) x.Rows,I x.Frame,I x.Mark]
theorem Q0a.fold_4(x:Q0a)(y:Bool): Q0a.upd_4 x (Bo y)=({x with Any:=y}:Q0a).cv:=rfl
theorem Q0a.rfa_4(x:Q0a)(h:Heap): qfieldAddr C h 94 (.rptr x.cv) 4=some (.rptr (Bo x.Any)):=by
 have hs:=Q0a.shape x
 unfold Q0a.cv at hs ⊢
 simp only[qfieldAddr,tt94,ti94,tgt,hs,if_true,List.getElem?_cons_zero,List.getElem?_cons_succ]
def Q0a.upd_5(x:Q0a)(v:CV): CV:=.agg [I x.Kind,I x.Slot,I x.Seq,I x.Last,Bo x.Any,v,I x.Got,I x.First,(Lst.cv Y0a.cv) x.Inputs,I x.Players,(Lst.cv (Lst.cv X0a.cv)) x.Rows,I x.Frame,I x.Mark]
theorem Q0a.rfa_5(x:Q0a)(h:Heap): qfieldAddr C h 94 (.rptr x.cv) 5=some (.rptr (U x.Acks)):=by
 have hs:=Q0a.shape x
 unfold Q0a.cv at hs ⊢
 simp only[qfieldAddr,tt94,ti94,tgt,hs,if_true,List.getElem?_cons_zero,List.getElem?_cons_succ]
def Q0a.upd_6(x:Q0a)(v:CV): CV:=.agg [I x.Kind,I x.Slot,I x.Seq,I x.Last,Bo x.Any,U x.Acks,v,I x.First,(Lst.cv Y0a.cv) x.Inputs,I x.Players,(Lst.cv (Lst.cv X0a.cv)) x.Rows,I x.Frame,I x.Mark]
theorem Q0a.rfa_6(x:Q0a)(h:Heap): qfieldAddr C h 94 (.rptr x.cv) 6=some (.rptr (I x.Got)):=by
 have hs:=Q0a.shape x
 unfold Q0a.cv at hs ⊢
 simp only[qfieldAddr,tt94,ti94,tgt,hs,if_true,List.getElem?_cons_zero,List.getElem?_cons_succ]
def Q0a.upd_7(x:Q0a)(v:CV): CV:=.agg [I x.Kind,I x.Slot,I x.Seq,I x.Last,Bo x.Any,U x.Acks,I x.Got,v,(Lst.cv Y0a.cv) x.Inputs,I x.Players,(Lst.cv (Lst.cv X0a.cv)) x.Rows,I x.Frame,I x.Mark]
theorem Q0a.rfa_7(x:Q0a)(h:Heap): qfieldAddr C h 94 (.rptr x.cv) 7=some (.rptr (I x.First)):=by
 have hs:=Q0a.shape x
 unfold Q0a.cv at hs ⊢
 simp only[qfieldAddr,tt94,ti94,tgt,hs,if_true,List.getElem?_cons_zero,List.getElem?_cons_succ]
def Q0a.upd_8(x:Q0a)(v:CV): CV:=.agg [I x.Kind,I x.Slot,I x.Seq,I x.Last,Bo x.Any,U x.Acks,I x.Got,I x.First,v,I x.Players,(Lst.cv (Lst.cv X0a.cv)) x.Rows,I x.Frame,I x.Mark]
theorem Q0a.fold_8(x:Q0a)(y:Lst Y0a): Q0a.upd_8 x ((Lst.cv Y0a.cv) y)=({x with Inputs:=y}:Q0a).cv:=rfl
theorem Q0a.rfa_8(x:Q0a)(h:Heap): qfieldAddr C h 94 (.rptr x.cv) 8=some (.rptr ((Lst.cv Y0a.cv) x.Inputs)):=by
 have hs:=Q0a.shape x
 unfold Q0a.cv at hs ⊢
 simp only[qfieldAddr,tt94,ti94,tgt,hs,if_true,List.getElem?_cons_zero,List.getElem?_cons_succ]
def Q0a.upd_9(x:Q0a)(v:CV): CV:=.agg [I x.Kind,I x.Slot,I x.Seq,I x.Last,Bo x.Any,U x.Acks,I x.Got,I x.First,(Lst.cv Y0a.cv) x.Inputs,v,(Lst.cv (Lst.cv X0a.cv)) x.Rows,I x.Frame,I x.Mark]
theorem Q0a.rfa_9(x:Q0a)(h:Heap): qfieldAddr C h 94 (.rptr x.cv) 9=some (.rptr (I x.Players)):=by
 have hs:=Q0a.shape x
 unfold Q0a.cv at hs ⊢
 simp only[qfieldAddr,tt94,ti94,tgt,hs,if_true,List.getElem?_cons_zero,List.getElem?_cons_succ]
def Q0a.upd_10(x:Q0a)(v:CV): CV:=.agg [I x.Kind,I x.Slot,I x.Seq,I x.Last,Bo x.Any,U x.Acks,I x.Got,I x.First,(Lst.cv Y0a.cv) x.Inputs,I x.Players,v,I x.Frame,I x.Mark]
theorem Q0a.fold_10(x:Q0a)(y:Lst (Lst X0a)): Q0a.upd_10 x ((Lst.cv (Lst.cv X0a.cv)) y)=({x with Rows:=y}:Q0a).cv:=rfl
theorem Q0a.rfa_10(x:Q0a)(h:Heap): qfieldAddr C h 94 (.rptr x.cv) 10=some (.rptr ((Lst.cv (Lst.cv X0a.cv)) x.Rows)):=by
 have hs:=Q0a.shape x
 unfold Q0a.cv at hs ⊢
 simp only[qfieldAddr,tt94,ti94,tgt,hs,if_true,List.getElem?_cons_zero,List.getElem?_cons_succ]
def Q0a.upd_11(x:Q0a)(v:CV): CV:=.agg [I x.Kind,I x.Slot,I x.Seq,I x.Last,Bo x.Any,U x.Acks,I x.Got,I x.First,(Lst.cv Y0a.cv) x.Inputs,I x.Players,(Lst.cv (Lst.cv X0a.cv)) x.Rows,v,I x.Mark]
theorem Q0a.rfa_11(x:Q0a)(h:Heap): qfieldAddr C h 94 (.rptr x.cv) 11=some (.rptr (I x.Frame)):=by
 have hs:=Q0a.shape x
 unfold Q0a.cv at hs ⊢
 simp only[qfieldAddr,tt94,ti94,tgt,hs,if_true,List.getElem?_cons_zero,List.getElem?_cons_succ]
theorem Q0a.atQ1(x:Q0a)(q:List Nat): x.cv.at (0::q)=(I x.Kind).at q/\x.cv.at (1::q)=(I x.Slot).at q/\x.cv.at (2::q)=(I x.Seq).at q/\x.cv.at (3::q)=(I x.Last).at q/\x.cv.at (4::q)=(Bo x.Any).at q/\x.cv.at (5::q)=(U x.Acks).at q/\x.cv.at (6::q)=(I x.Got).at q/\x.cv.at (7::q)=(I x.First).at q/\x.cv.at (8::q)=((Lst.cv Y0a.cv) x.Inputs).at q/\x.cv.at (9::q)=(I x.Players).at q/\x.cv.at (10::q)=((Lst.cv (Lst.cv X0a.cv)) x.Rows).at q/\x.cv.at (11::q)=(I x.Frame).at q/\x.cv.at (12::q)=(I x.Mark).at q:=⟨rfl,rfl,rfl,rfl,rfl,rfl,rfl,rfl,rfl,rfl,rfl,rfl,rfl⟩
def Q0a.upd_12(x:Q0a)(v:CV): CV:=.agg [I x.Kind,I x.Slot,I x.Seq,I x.Last,Bo x.Any,U x.Acks,I x.Got,I x.First,(Lst.cv Y0a.cv) x.Inputs,I x.Players,(Lst.cv (Lst.cv X0a.cv)) x.Rows,I x.Frame,v]
theorem Q0a.setQ1(x:Q0a)(q:List Nat)(v:CV): x.cv.set (0::q) v=Q0a.upd_0 x ((I x.Kind).set q v)/\x.cv.set (1::q) v=Q0a.upd_1 x ((I x.Slot).set q v)/\x.cv.set (2::q) v=Q0a.upd_2 x ((I x.Seq).set q v)/\x.cv.set (3::q) v=Q0a.upd_3 x ((I x.Last).set q v)/\x.cv.set (4::q) v=Q0a.upd_4 x ((Bo x.Any).set q v)/\x.cv.set (5::q) v=Q0a.upd_5 x ((U x.Acks).set q v)/\x.cv.set (6::q) v=Q0a.upd_6 x ((I x.Got).set q v)/\x.cv.set (7::q) v=Q0a.upd_7 x ((I x.First).set q v)/\x.cv.set (8::q) v=Q0a.upd_8 x (((Lst.cv Y0a.cv) x.Inputs).set q v)/\x.cv.set (9::q) v=Q0a.upd_9 x ((I x.Players).set q v)/\x.cv.set (10::q) v=Q0a.upd_10 x (((Lst.cv (Lst.cv X0a.cv)) x.Rows).set q v)/\x.cv.set (11::q) v=Q0a.upd_11 x ((I x.Frame).set q v)/\x.cv.set (12::q) v=Q0a.upd_12 x ((I x.Mark).set q v):=⟨rfl,rfl,rfl,rfl,rfl,rfl,rfl,rfl,rfl,rfl,rfl,rfl,rfl⟩
theorem Q0a.foldQ1(x:Q0a)(y:Int): Q0a.upd_0 x (I y)=({x with Kind:=y}:Q0a).cv/\Q0a.upd_1 x (I y)=({x with Slot:=y}:Q0a).cv/\Q0a.upd_2 x (I y)=({x with Seq:=y}:Q0a).cv/\Q0a.upd_3 x (I y)=({x with Last:=y}:Q0a).cv/\Q0a.upd_5 x (U y)=({x with Acks:=y}:Q0a).cv/\Q0a.upd_6 x (I y)=({x with Got:=y}:Q0a).cv/\Q0a.upd_7 x (I y)=({x with First:=y}:Q0a).cv/\Q0a.upd_9 x (I y)=({x with Players:=y}:Q0a).cv/\Q0a.upd_11 x (I y)=({x with Frame:=y}:Q0a).cv/\Q0a.upd_12 x (I y)=({x with Mark:=y}:Q0a).cv:=⟨rfl,rfl,rfl,rfl,rfl,rfl,rfl,rfl,rfl,rfl⟩
theorem Q0a.fldQ1(x:Q0a): qfield C 94 x.cv 0=some (I x.Kind)/\qfield C 94 x.cv 1=some (I x.Slot)/\qfield C 94 x.cv 2=some (I x.Seq)/\qfield C 94 x.cv 3=some (I x.Last)/\qfield C 94 x.cv 4=some (Bo x.Any)/\qfield C 94 x.cv 5=some (U x.Acks)/\qfield C 94 x.cv 6=some (I x.Got)/\qfield C 94 x.cv 7=some (I x.First)/\qfield C 94 x.cv 8=some ((Lst.cv Y0a.cv) x.Inputs)/\qfield C 94 x.cv 9=some (I x.Players)/\qfield C 94 x.cv 10=some ((Lst.cv (Lst.cv X0a.cv)) x.Rows)/\qfield C 94 x.cv 11=some (I x.Frame)/\qfield C 94 x.cv 12=some (I x.Mark):=⟨Y0d C tt94 (Q0a.shape x) rfl tt3 rfl rfl,Y0d C tt94 (Q0a.shape x) rfl tt3 rfl rfl,Y0d C tt94 (Q0a.shape x) rfl tt3 rfl rfl,Y0d C tt94 (Q0a.shape x) rfl tt3 rfl rfl,Y0d C tt94 (Q0a.shape x) rfl tt4 rfl rfl,Y0d C tt94 (Q0a.shape x) rfl tt25 rfl rfl,Y0d C tt94 (Q0a.shape x) rfl tt3 rfl rfl,Y0d C tt94 (Q0a.shape x) rfl tt3 rfl rfl,Y0d C tt94 (Q0a.shape x) rfl tt91 rfl rfl,Y0d C tt94 (Q0a.shape x) rfl tt3 rfl rfl,Y0d C tt94 (Q0a.shape x) rfl tt92 rfl rfl,Y0d C tt94 (Q0a.shape x) rfl tt3 rfl rfl,Y0d C tt94 (Q0a.shape x) rfl tt3 rfl rfl⟩
theorem Q0a.rfa_12(x:Q0a)(h:Heap): qfieldAddr C h 94 (.rptr x.cv) 12=some (.rptr (I x.Mark)):=by
 have hs:=Q0a.shape x
 unfold Q0a.cv at hs ⊢
 simp only[qfieldAddr,tt94,ti94,tgt,hs,if_true,List.getElem?_cons_zero,List.getElem?_cons_succ]
theorem Q0a.subQ1(q:List Nat)(z:Shape): subEq sh94 (0::q) z=subEq sh3 q z/\subEq sh94 (1::q) z=subEq sh3 q z/\subEq sh94 (2::q) z=subEq sh3 q z/\subEq sh94 (3::q) z=subEq sh3 q z/\subEq sh94 (4::q) z=subEq sh4 q z/\subEq sh94 (5::q) z=subEq sh25 q z/\subEq sh94 (6::q) z=subEq sh3 q z/\subEq sh94 (7::q) z=subEq sh3 q z/\subEq sh94 (8::q) z=subEq sh91 q z/\subEq sh94 (9::q) z=subEq sh3 q z/\subEq sh94 (10::q) z=subEq sh92 q z/\subEq sh94 (11::q) z=subEq sh3 q z/\subEq sh94 (12::q) z=subEq sh3 q z:=⟨rfl,rfl,rfl,rfl,rfl,rfl,rfl,rfl,rfl,rfl,rfl,rfl,rfl⟩
theorem Q0a.sub_nil: subEq sh94 [] sh94=true:=by simp[subEq,Shape.sub]
theorem Q0a.alloc: allocObj C (.alloc 94)=some (.var sh94 Q0a.zero.cv):=by simp only[allocObj,tt94,ti94,Q0a.zcv]
theorem Q0a.xalloc(p:Hp): xalloc C p 94=.ret (.ptr p.n []) (p.new (.var sh94 Q0a.zero.cv)):=by simp only[Cl.xalloc,tt94,ti94,Q0a.zcv]
theorem Q0a.xbox(p:Hp)(x:Q0a): xbox C p 94 x.cv=.ret (.ptr p.n []) (p.new (.var sh94 x.cv)):=by
 have h:Cl.shOk x.cv ti94.sh=true:=Q0a.shOk x
 simp only[Cl.xbox,tt94,h,cond_true];rfl
theorem Q0a.bld_none:qbuild C 94 []=some (({Kind:=0,Slot:=0,Seq:=0,Last:=0,Any:=false,Acks:=0,Got:=0,First:=0,Inputs:=⟨.nil,[],fun _=>rfl⟩,Players:=0,Rows:=⟨.nil,[],fun _=>rfl⟩,Frame:=0,Mark:=0}:Q0a).cv):=Q0g C tt94 (by simp only[partsOk,setAll,CV.shape,sh94,List.all_cons,List.all_nil,List.getElem?_cons_zero,List.getElem?_cons_succ,Bool.and_true,decide_true]) rfl
theorem Q0a.bld_0(a0:Int): qbuild C 94 [(0,I a0)]=some (({Kind:=a0,Slot:=0,Seq:=0,Last:=0,Any:=false,Acks:=0,Got:=0,First:=0,Inputs:=⟨.nil,[],fun _=>rfl⟩,Players:=0,Rows:=⟨.nil,[],fun _=>rfl⟩,Frame:=0,Mark:=0}:Q0a).cv):=Q0g C tt94 (by simp only[partsOk,setAll,CV.shape,sh94,List.all_cons,List.all_nil,List.getElem?_cons_zero,List.getElem?_cons_succ,Bool.and_true,decide_true]) rfl
theorem Q0a.bld_0_1_2_3_4_5(a0:Int)(a1:Int)(a2:Int)(a3:Int)(a4:Bool)(a5:Int): qbuild C 94 [(0,I a0),(1,I a1),(2,I a2),(3,I a3),(4,Bo a4),(5,U a5)]=some (({Kind:=a0,Slot:=a1,Seq:=a2,Last:=a3,Any:=a4,Acks:=a5,Got:=0,First:=0,Inputs:=⟨.nil,[],fun _=>rfl⟩,Players:=0,Rows:=⟨.nil,[],fun _=>rfl⟩,Frame:=0,Mark:=0}:Q0a).cv):=Q0g C tt94 (by simp only[partsOk,setAll,CV.shape,sh94,List.all_cons,List.all_nil,List.getElem?_cons_zero,List.getElem?_cons_succ,Bool.and_true,decide_true]) rfl
theorem Q0a.bld_0_1_2_4(a0:Int)(a1:Int)(a2:Int)(a4:Bool): qbuild C 94 [(0,I a0),(1,I a1),(2,I a2),(4,Bo a4)]=some (({Kind:=a0,Slot:=a1,Seq:=a2,Last:=0,Any:=a4,Acks:=0,Got:=0,First:=0,Inputs:=⟨.nil,[],fun _=>rfl⟩,Players:=0,Rows:=⟨.nil,[],fun _=>rfl⟩,Frame:=0,Mark:=0}:Q0a).cv):=Q0g C tt94 (by simp only[partsOk,setAll,CV.shape,sh94,List.all_cons,List.all_nil,List.getElem?_cons_zero,List.getElem?_cons_succ,Bool.and_true,decide_true]) rfl
structure K0b where
 e_:Z0c
 l_:Lst X0d
 at_:Int
def K0b.cv(x:K0b): CV:=.agg [Z0c.cv x.e_,(Lst.cv X0d.cv) x.l_,I x.at_]
@[ext] theorem K0b.ext'{x y:K0b}(h_e_:x.e_=y.e_)(h_l_:x.l_=y.l_)(h_at_:x.at_=y.at_): x=y:=by
 obtain⟨a0,a1,a2⟩:=x
 obtain⟨c0,c1,c2⟩:=y
 simp only at h_e_ h_l_ h_at_
 subst h_e_ h_l_ h_at_
 rfl
def K0b.zero: K0b:={e_:=Z0c.zero,l_:=⟨.nil,[],fun _=>rfl⟩,at_:=0}
instance:Inhabited K0b:=⟨K0b.zero⟩
theorem K0b.zcv: z131=K0b.zero.cv:=by
 simp only[z131,K0b.zero,K0b.cv,Z0c.zcv,List.map_replicate,Lst.cv,List.map_nil]
theorem K0b.shape(x:K0b): x.cv.shape=sh131:=by simp only[K0b.cv,sh131,CV.shape,CV.shapes,Z0c.shape,Lst.shape]
theorem K0b.has(x:K0b)(j:Nat): x.cv.has j ↔ x.e_.cv.has j\/x.l_.tl=.own j:=by simp[K0b.cv,CV.has,CV.hasL,Lst.has _ X0d.nohas]
theorem K0b.inj{x y:K0b}(h:x.cv=y.cv): x=y:=by
 simp only[K0b.cv,CV.agg.injEq,List.cons.injEq,and_true]at h
 obtain⟨h0,h1,h2⟩:=h
 refine K0b.ext' (Z0c.injF _ _ h0) ((Lst.injF X0d.injF) _ _ h1) (I_inj _ _ h2)
theorem K0b.injF(x y:K0b)(h:x.cv=y.cv): x=y:=K0b.inj h
theorem K0b.inj_iff(x y:K0b): x.cv=y.cv ↔ x=y:=⟨K0b.inj,fun h=>by rw[h]⟩
theorem K0b.shOk(x:K0b): Cl.shOk x.cv sh131=true:=V0r (K0b.shape x) rfl
theorem K0b.at_0(x:K0b)(q:List Nat): x.cv.at (0::q)=(Z0c.cv x.e_).at q:=rfl
def K0b.upd_0(x:K0b)(v:CV): CV:=.agg [v,(Lst.cv X0d.cv) x.l_,I x.at_]
theorem K0b.set_0(x:K0b)(q:List Nat)(v:CV): x.cv.set (0::q) v=K0b.upd_0 x ((Z0c.cv x.e_).set q v):=rfl
theorem K0b.fold_0(x:K0b)(y:Z0c): K0b.upd_0 x (Z0c.cv y)=({x with e_:=y}:K0b).cv:=rfl
theorem K0b.fld_0(x:K0b): qfield C 131 x.cv 0=some (Z0c.cv x.e_):=Y0d C tt131 (K0b.shape x) rfl tt39 rfl (Z0c.shOk _)
theorem K0b.sub_0(q:List Nat)(z:Shape): subEq sh131 (0::q) z=subEq sh39 q z:=rfl
theorem K0b.at_1(x:K0b)(q:List Nat): x.cv.at (1::q)=((Lst.cv X0d.cv) x.l_).at q:=rfl
def K0b.upd_1(x:K0b)(v:CV): CV:=.agg [Z0c.cv x.e_,v,I x.at_]
theorem K0b.set_1(x:K0b)(q:List Nat)(v:CV): x.cv.set (1::q) v=K0b.upd_1 x (((Lst.cv X0d.cv) x.l_).set q v):=rfl
theorem K0b.fold_1(x:K0b)(y:Lst X0d): K0b.upd_1 x ((Lst.cv X0d.cv) y)=({x with l_:=y}:K0b).cv:=rfl
theorem K0b.fld_1(x:K0b): qfield C 131 x.cv 1=some ((Lst.cv X0d.cv) x.l_):=Y0d C tt131 (K0b.shape x) rfl tt23 rfl rfl
theorem K0b.sub_1(q:List Nat)(z:Shape): subEq sh131 (1::q) z=subEq sh23 q z:=rfl
theorem K0b.at_2(x:K0b)(q:List Nat): x.cv.at (2::q)=(I x.at_).at q:=rfl
def K0b.upd_2(x:K0b)(v:CV): CV:=.agg [Z0c.cv x.e_,(Lst.cv X0d.cv) x.l_,v]
theorem K0b.set_2(x:K0b)(q:List Nat)(v:CV): x.cv.set (2::q) v=K0b.upd_2 x ((I x.at_).set q v):=rfl
theorem K0b.fold_2(x:K0b)(y:Int): K0b.upd_2 x (I y)=({x with at_:=y}:K0b).cv:=rfl
theorem K0b.fld_2(x:K0b): qfield C 131 x.cv 2=some (I x.at_):=Y0d C tt131 (K0b.shape x) rfl tt3 rfl rfl
theorem K0b.sub_2(q:List Nat)(z:Shape): subEq sh131 (2::q) z=subEq sh3 q z:=rfl
theorem K0b.sub_nil: subEq sh131 [] sh131=true:=by simp[subEq,Shape.sub]
theorem K0b.alloc: allocObj C (.alloc 131)=some (.var sh131 K0b.zero.cv):=by simp only[allocObj,tt131,ti131,K0b.zcv]
theorem K0b.xalloc(p:Hp): xalloc C p 131=.ret (.ptr p.n []) (p.new (.var sh131 K0b.zero.cv)):=by simp only[Cl.xalloc,tt131,ti131,K0b.zcv]
theorem K0b.xbox(p:Hp)(x:K0b): xbox C p 131 x.cv=.ret (.ptr p.n []) (p.new (.var sh131 x.cv)):=by
 have h:Cl.shOk x.cv ti131.sh=true:=K0b.shOk x
 simp only[Cl.xbox,tt131,h,cond_true];rfl
theorem K0b.bld_0_1(a0:Z0c)(a1:Lst X0d): qbuild C 131 [(0,Z0c.cv a0),(1,(Lst.cv X0d.cv) a1)]=some (({e_:=a0,l_:=a1,at_:=0}:K0b).cv):=Q0g C tt131 (by simp only[partsOk,setAll,CV.shape,Z0c.shape,Lst.shape,sh131,List.all_cons,List.all_nil,List.getElem?_cons_zero,List.getElem?_cons_succ,Bool.and_true,decide_true]) rfl
structure Z0d where
 B:CV
 hB:B.shape=.s
def Z0d.cv(x:Z0d): CV:=.agg [x.B]
@[ext] theorem Z0d.ext'{x y:Z0d}(h_B:x.B=y.B): x=y:=by
 obtain⟨a0,ha⟩:=x
 obtain⟨c0,hc⟩:=y
 simp only at h_B
 subst h_B
 rfl
theorem Z0d.shape(x:Z0d): x.cv.shape=sh156:=by simp only[Z0d.cv,sh156,CV.shape,CV.shapes,Lst.shape,x.hB]
theorem Z0d.has(x:Z0d)(j:Nat): x.cv.has j ↔ x.B.has j:=by simp[Z0d.cv,CV.has,CV.hasL]
theorem Z0d.inj{x y:Z0d}(h:x.cv=y.cv): x=y:=by
 simp only[Z0d.cv,CV.agg.injEq,List.cons.injEq,and_true]at h
 have h0:=h
 refine Z0d.ext' h0
theorem Z0d.injF(x y:Z0d)(h:x.cv=y.cv): x=y:=Z0d.inj h
theorem Z0d.inj_iff(x y:Z0d): x.cv=y.cv ↔ x=y:=⟨Z0d.inj,fun h=>by rw[h]⟩
theorem Z0d.shOk(x:Z0d): Cl.shOk x.cv sh156=true:=V0r (Z0d.shape x) rfl
theorem Z0d.at_0(x:Z0d)(q:List Nat): x.cv.at (0::q)=(x.B).at q:=rfl
def Z0d.upd_0(x:Z0d)(v:CV): CV:=.agg [v]
theorem Z0d.set_0(x:Z0d)(q:List Nat)(v:CV): x.cv.set (0::q) v=Z0d.upd_0 x ((x.B).set q v):=rfl
theorem Z0d.fold_0(x:Z0d)(y:CV)(h:y.shape=.s): Z0d.upd_0 x y=({x with B:=y,hB:=h}:Z0d).cv:=rfl
theorem Z0d.sub_0(q:List Nat)(z:Shape): subEq sh156 (0::q) z=subEq sh154 q z:=rfl
theorem Z0d.sub_nil: subEq sh156 [] sh156=true:=by simp[subEq,Shape.sub]
theorem Z0d.xbox(p:Hp)(x:Z0d): xbox C p 156 x.cv=.ret (.ptr p.n []) (p.new (.var sh156 x.cv)):=by
 have h:Cl.shOk x.cv ti156.sh=true:=Z0d.shOk x
 simp only[Cl.xbox,tt156,h,cond_true];rfl
structure Y0b where
 B:Lst Int
 At:Int
 Short:Bool
def Y0b.cv(x:Y0b): CV:=.agg [(Lst.cv Y8) x.B,I x.At,Bo x.Short]
@[ext] theorem Y0b.ext'{x y:Y0b}(h_B:x.B=y.B)(h_At:x.At=y.At)(h_Short:x.Short=y.Short): x=y:=by
 obtain⟨a0,a1,a2⟩:=x
 obtain⟨c0,c1,c2⟩:=y
 simp only at h_B h_At h_Short
 subst h_B h_At h_Short
 rfl
def Y0b.zero: Y0b:={B:=⟨.nil,[],fun _=>rfl⟩,At:=0,Short:=false}
instance:Inhabited Y0b:=⟨Y0b.zero⟩
theorem Y0b.zcv: z161=Y0b.zero.cv:=by
 simp only[z161,Y0b.zero,Y0b.cv,List.map_replicate,Lst.cv,List.map_nil]
theorem Y0b.shape(x:Y0b): x.cv.shape=sh161:=by simp only[Y0b.cv,sh161,CV.shape,CV.shapes,Lst.shape]
theorem Y0b.has(x:Y0b)(j:Nat): x.cv.has j ↔ x.B.tl=.own j:=by simp[Y0b.cv,CV.has,CV.hasL,Lst.has _ Y0l]
theorem Y0b.inj{x y:Y0b}(h:x.cv=y.cv): x=y:=by
 simp only[Y0b.cv,CV.agg.injEq,List.cons.injEq,and_true]at h
 obtain⟨h0,h1,h2⟩:=h
 refine Y0b.ext' ((Lst.injF Y8_inj) _ _ h0) (I_inj _ _ h1) (Z18 _ _ h2)
theorem Y0b.injF(x y:Y0b)(h:x.cv=y.cv): x=y:=Y0b.inj h
theorem Y0b.inj_iff(x y:Y0b): x.cv=y.cv ↔ x=y:=⟨Y0b.inj,fun h=>by rw[h]⟩
theorem Y0b.shOk(x:Y0b): Cl.shOk x.cv sh161=true:=V0r (Y0b.shape x) rfl
def Y0b.upd_0(x:Y0b)(v:CV): CV:=.agg [v,I x.At,Bo x.Short]
theorem Y0b.fold_0(x:Y0b)(y:Lst Int): Y0b.upd_0 x ((Lst.cv Y8) y)=({x with B:=y}:Y0b).cv:=rfl
theorem Y0b.rfa_0(x:Y0b)(h:Heap): qfieldAddr C h 161 (.rptr x.cv) 0=some (.rptr ((Lst.cv Y8) x.B)):=by
 have hs:=Y0b.shape x
 unfold Y0b.cv at hs ⊢
 simp only[qfieldAddr,tt161,ti161,tgt,hs,if_true,List.getElem?_cons_zero,List.getElem?_cons_succ]
def Y0b.upd_1(x:Y0b)(v:CV): CV:=.agg [(Lst.cv Y8) x.B,v,Bo x.Short]
theorem Y0b.fold_1(x:Y0b)(y:Int): Y0b.upd_1 x (I y)=({x with At:=y}:Y0b).cv:=rfl
theorem Y0b.rfa_1(x:Y0b)(h:Heap): qfieldAddr C h 161 (.rptr x.cv) 1=some (.rptr (I x.At)):=by
 have hs:=Y0b.shape x
 unfold Y0b.cv at hs ⊢
 simp only[qfieldAddr,tt161,ti161,tgt,hs,if_true,List.getElem?_cons_zero,List.getElem?_cons_succ]
theorem Y0b.atQ1(x:Y0b)(q:List Nat): x.cv.at (0::q)=((Lst.cv Y8) x.B).at q/\x.cv.at (1::q)=(I x.At).at q/\x.cv.at (2::q)=(Bo x.Short).at q:=⟨rfl,rfl,rfl⟩
def Y0b.upd_2(x:Y0b)(v:CV): CV:=.agg [(Lst.cv Y8) x.B,I x.At,v]
theorem Y0b.setQ1(x:Y0b)(q:List Nat)(v:CV): x.cv.set (0::q) v=Y0b.upd_0 x (((Lst.cv Y8) x.B).set q v)/\x.cv.set (1::q) v=Y0b.upd_1 x ((I x.At).set q v)/\x.cv.set (2::q) v=Y0b.upd_2 x ((Bo x.Short).set q v):=⟨rfl,rfl,rfl⟩
theorem Y0b.fold_2(x:Y0b)(y:Bool): Y0b.upd_2 x (Bo y)=({x with Short:=y}:Y0b).cv:=rfl
theorem Y0b.fldQ1(x:Y0b): qfield C 161 x.cv 0=some ((Lst.cv Y8) x.B)/\qfield C 161 x.cv 1=some (I x.At)/\qfield C 161 x.cv 2=some (Bo x.Short):=⟨Y0d C tt161 (Y0b.shape x) rfl tt68 rfl rfl,Y0d C tt161 (Y0b.shape x) rfl tt3 rfl rfl,Y0d C tt161 (Y0b.shape x) rfl tt4 rfl rfl⟩
theorem Y0b.rfa_2(x:Y0b)(h:Heap): qfieldAddr C h 161 (.rptr x.cv) 2=some (.rptr (Bo x.Short)):=by
 have hs:=Y0b.shape x
 unfold Y0b.cv at hs ⊢
 simp only[qfieldAddr,tt161,ti161,tgt,hs,if_true,List.getElem?_cons_zero,List.getElem?_cons_succ]
theorem Y0b.subQ1(q:List Nat)(z:Shape): subEq sh161 (0::q) z=subEq sh68 q z/\subEq sh161 (1::q) z=subEq sh3 q z/\subEq sh161 (2::q) z=subEq sh4 q z:=⟨rfl,rfl,rfl⟩
theorem Y0b.sub_nil: subEq sh161 [] sh161=true:=by simp[subEq,Shape.sub]
theorem Y0b.alloc: allocObj C (.alloc 161)=some (.var sh161 Y0b.zero.cv):=by simp only[allocObj,tt161,ti161,Y0b.zcv]
theorem Y0b.xalloc(p:Hp): xalloc C p 161=.ret (.ptr p.n []) (p.new (.var sh161 Y0b.zero.cv)):=by simp only[Cl.xalloc,tt161,ti161,Y0b.zcv]
theorem Y0b.xbox(p:Hp)(x:Y0b): xbox C p 161 x.cv=.ret (.ptr p.n []) (p.new (.var sh161 x.cv)):=by
 have h:Cl.shOk x.cv ti161.sh=true:=Y0b.shOk x
 simp only[Cl.xbox,tt161,h,cond_true];rfl
theorem Y0b.bld_0(a0:Lst Int): qbuild C 161 [(0,(Lst.cv Y8) a0)]=some (({B:=a0,At:=0,Short:=false}:Y0b).cv):=Q0g C tt161 (by simp only[partsOk,setAll,CV.shape,Lst.shape,sh161,List.all_cons,List.all_nil,List.getElem?_cons_zero,List.getElem?_cons_succ,Bool.and_true,decide_true]) rfl
structure X0b where
 f_:V0b
def X0b.cv(x:X0b): CV:=.agg [V0b.cv x.f_]
@[ext] theorem X0b.ext'{x y:X0b}(h_f_:x.f_=y.f_): x=y:=by
 obtain⟨a0⟩:=x
 obtain⟨c0⟩:=y
 simp only at h_f_
 subst h_f_
 rfl
def X0b.zero: X0b:={f_:=V0b.zero}
instance:Inhabited X0b:=⟨X0b.zero⟩
theorem X0b.zcv: z194=X0b.zero.cv:=by
 simp only[z194,X0b.zero,X0b.cv,V0b.zcv,List.map_replicate,Lst.cv,List.map_nil]
theorem X0b.shape(x:X0b): x.cv.shape=sh194:=by simp only[X0b.cv,sh194,CV.shape,CV.shapes,V0b.shape,Lst.shape]
theorem X0b.nohas(x:X0b)(j:Nat): ¬x.cv.has j:=by simp[X0b.cv,CV.has,CV.hasL,V0b.nohas]
instance:DecidableEq X0b:=fun x y=>decidable_of_iff (x.f_=y.f_) ⟨fun h=>X0b.ext' h,fun h=>by subst h;simp⟩
theorem X0b.inj{x y:X0b}(h:x.cv=y.cv): x=y:=by
 simp only[X0b.cv,CV.agg.injEq,List.cons.injEq,and_true]at h
 have h0:=h
 refine X0b.ext' (V0b.injF _ _ h0)
theorem X0b.injF(x y:X0b)(h:x.cv=y.cv): x=y:=X0b.inj h
theorem X0b.inj_iff(x y:X0b): x.cv=y.cv ↔ x=y:=⟨X0b.inj,fun h=>by rw[h]⟩
theorem X0b.shOk(x:X0b): Cl.shOk x.cv sh194=true:=V0r (X0b.shape x) rfl
theorem X0b.eq(d:Nat)(x y:X0b): eqCV C (d+3) 194 x.cv y.cv=some (decide (x=y)):=by
 refine(V06 C (d:=d+2) tt194 (X0b.shape x) (X0b.shape y) (Z0g (V0b.eq (d+0) _ _) rfl)).trans (congrArg some ?_)
 rw[Bool.eq_iff_iff]
 simp only[Bool.and_eq_true,decide_eq_true_eq,and_true]
 exact⟨fun h=>X0b.ext' h,fun h=>by subst h;simp⟩
theorem X0b.eql(x y:X0b)(b:Bool): qbin C .eql 194 b x.cv y.cv=some (Bo (decide (x=y))):=by
 have h:=X0b.eq 9 x y
 unfold X0b.cv at h ⊢
 simp only[qbin]
 rw[h];rfl
theorem X0b.neq(x y:X0b)(b:Bool): qbin C .neq 194 b x.cv y.cv=some (Bo (!decide (x=y))):=by
 have h:=X0b.eq 9 x y
 unfold X0b.cv at h ⊢
 simp only[qbin]
 rw[h];rfl
theorem X0b.at_0(x:X0b)(q:List Nat): x.cv.at (0::q)=(V0b.cv x.f_).at q:=rfl
def X0b.upd_0(x:X0b)(v:CV): CV:=.agg [v]
theorem X0b.set_0(x:X0b)(q:List Nat)(v:CV): x.cv.set (0::q) v=X0b.upd_0 x ((V0b.cv x.f_).set q v):=rfl
theorem X0b.fold_0(x:X0b)(y:V0b): X0b.upd_0 x (V0b.cv y)=({x with f_:=y}:X0b).cv:=rfl
theorem X0b.fld_0(x:X0b): qfield C 194 x.cv 0=some (V0b.cv x.f_):=Y0d C tt194 (X0b.shape x) rfl tt44 rfl (V0b.shOk _)
theorem X0b.sub_0(q:List Nat)(z:Shape): subEq sh194 (0::q) z=subEq sh44 q z:=rfl
theorem X0b.sub_nil: subEq sh194 [] sh194=true:=by simp[subEq,Shape.sub]
theorem X0b.alloc: allocObj C (.alloc 194)=some (.var sh194 X0b.zero.cv):=by simp only[allocObj,tt194,ti194,X0b.zcv]
theorem X0b.xalloc(p:Hp): xalloc C p 194=.ret (.ptr p.n []) (p.new (.var sh194 X0b.zero.cv)):=by simp only[Cl.xalloc,tt194,ti194,X0b.zcv]
theorem X0b.xbox(p:Hp)(x:X0b): xbox C p 194 x.cv=.ret (.ptr p.n []) (p.new (.var sh194 x.cv)):=by
 have h:Cl.shOk x.cv ti194.sh=true:=X0b.shOk x
 simp only[Cl.xbox,tt194,h,cond_true];rfl
theorem X0b.bld_0(a0:V0b): qbuild C 194 [(0,V0b.cv a0)]=some (({f_:=a0}:X0b).cv):=Q0g C tt194 (by simp only[partsOk,setAll,CV.shape,V0b.shape,sh194,List.all_cons,List.all_nil,List.getElem?_cons_zero,List.getElem?_cons_succ,Bool.and_true,decide_true]) rfl
structure Y0c where
 b_:CV
 hb_:b_.shape=.s
 n_:Int
def Y0c.cv(x:Y0c): CV:=.agg [x.b_,I x.n_]
@[ext] theorem Y0c.ext'{x y:Y0c}(h_b_:x.b_=y.b_)(h_n_:x.n_=y.n_): x=y:=by
 obtain⟨a0,ha,a1⟩:=x
 obtain⟨c0,hc,c1⟩:=y
 simp only at h_b_ h_n_
 subst h_b_ h_n_
 rfl
theorem Y0c.shape(x:Y0c): x.cv.shape=sh203:=by simp only[Y0c.cv,sh203,CV.shape,CV.shapes,Lst.shape,x.hb_]
theorem Y0c.has(x:Y0c)(j:Nat): x.cv.has j ↔ x.b_.has j:=by simp[Y0c.cv,CV.has,CV.hasL]
theorem Y0c.inj{x y:Y0c}(h:x.cv=y.cv): x=y:=by
 simp only[Y0c.cv,CV.agg.injEq,List.cons.injEq,and_true]at h
 obtain⟨h0,h1⟩:=h
 refine Y0c.ext' h0 (I_inj _ _ h1)
theorem Y0c.injF(x y:Y0c)(h:x.cv=y.cv): x=y:=Y0c.inj h
theorem Y0c.inj_iff(x y:Y0c): x.cv=y.cv ↔ x=y:=⟨Y0c.inj,fun h=>by rw[h]⟩
theorem Y0c.shOk(x:Y0c): Cl.shOk x.cv sh203=true:=V0r (Y0c.shape x) rfl
def Y0c.upd_0(x:Y0c)(v:CV): CV:=.agg [v,I x.n_]
theorem Y0c.fold_0(x:Y0c)(y:CV)(h:y.shape=.s): Y0c.upd_0 x y=({x with b_:=y,hb_:=h}:Y0c).cv:=rfl
theorem Y0c.atQ1(x:Y0c)(q:List Nat): x.cv.at (0::q)=(x.b_).at q/\x.cv.at (1::q)=(I x.n_).at q:=⟨rfl,rfl⟩
def Y0c.upd_1(x:Y0c)(v:CV): CV:=.agg [x.b_,v]
theorem Y0c.setQ1(x:Y0c)(q:List Nat)(v:CV): x.cv.set (0::q) v=Y0c.upd_0 x ((x.b_).set q v)/\x.cv.set (1::q) v=Y0c.upd_1 x ((I x.n_).set q v):=⟨rfl,rfl⟩
theorem Y0c.fold_1(x:Y0c)(y:Int): Y0c.upd_1 x (I y)=({x with n_:=y}:Y0c).cv:=rfl
theorem Y0c.fld_1(x:Y0c): qfield C 203 x.cv 1=some (I x.n_):=Y0d C tt203 (Y0c.shape x) rfl tt3 rfl rfl
theorem Y0c.rfa_1(x:Y0c)(h:Heap): qfieldAddr C h 203 (.rptr x.cv) 1=some (.rptr (I x.n_)):=by
 have hs:=Y0c.shape x
 unfold Y0c.cv at hs ⊢
 simp only[qfieldAddr,tt203,ti203,tgt,hs,if_true,List.getElem?_cons_zero,List.getElem?_cons_succ]
theorem Y0c.subQ1(q:List Nat)(z:Shape): subEq sh203 (0::q) z=subEq sh68 q z/\subEq sh203 (1::q) z=subEq sh3 q z:=⟨rfl,rfl⟩
theorem Y0c.sub_nil: subEq sh203 [] sh203=true:=by simp[subEq,Shape.sub]
theorem Y0c.xbox(p:Hp)(x:Y0c): xbox C p 203 x.cv=.ret (.ptr p.n []) (p.new (.var sh203 x.cv)):=by
 have h:Cl.shOk x.cv ti203.sh=true:=Y0c.shOk x
 simp only[Cl.xbox,tt203,h,cond_true];rfl
structure Q0c where
 b_:Lst Int
 at_:Int
def Q0c.cv(x:Q0c): CV:=.agg [(Lst.cv Y8) x.b_,I x.at_]
@[ext] theorem Q0c.ext'{x y:Q0c}(h_b_:x.b_=y.b_)(h_at_:x.at_=y.at_): x=y:=by
 obtain⟨a0,a1⟩:=x
 obtain⟨c0,c1⟩:=y
 simp only at h_b_ h_at_
 subst h_b_ h_at_
 rfl
def Q0c.zero: Q0c:={b_:=⟨.nil,[],fun _=>rfl⟩,at_:=0}
instance:Inhabited Q0c:=⟨Q0c.zero⟩
theorem Q0c.zcv: z208=Q0c.zero.cv:=by
 simp only[z208,Q0c.zero,Q0c.cv,List.map_replicate,Lst.cv,List.map_nil]
theorem Q0c.shape(x:Q0c): x.cv.shape=sh208:=by simp only[Q0c.cv,sh208,CV.shape,CV.shapes,Lst.shape]
theorem Q0c.has(x:Q0c)(j:Nat): x.cv.has j ↔ x.b_.tl=.own j:=by simp[Q0c.cv,CV.has,CV.hasL,Lst.has _ Y0l]
theorem Q0c.inj{x y:Q0c}(h:x.cv=y.cv): x=y:=by
 simp only[Q0c.cv,CV.agg.injEq,List.cons.injEq,and_true]at h
 obtain⟨h0,h1⟩:=h
 refine Q0c.ext' ((Lst.injF Y8_inj) _ _ h0) (I_inj _ _ h1)
theorem Q0c.injF(x y:Q0c)(h:x.cv=y.cv): x=y:=Q0c.inj h
theorem Q0c.inj_iff(x y:Q0c): x.cv=y.cv ↔ x=y:=⟨Q0c.inj,fun h=>by rw[h]⟩
theorem Q0c.shOk(x:Q0c): Cl.shOk x.cv sh208=true:=V0r (Q0c.shape x) rfl
def Q0c.upd_0(x:Q0c)(v:CV): CV:=.agg [v,I x.at_]
theorem Q0c.fold_0(x:Q0c)(y:Lst Int): Q0c.upd_0 x ((Lst.cv Y8) y)=({x with b_:=y}:Q0c).cv:=rfl
theorem Q0c.rfa_0(x:Q0c)(h:Heap): qfieldAddr C h 208 (.rptr x.cv) 0=some (.rptr ((Lst.cv Y8) x.b_)):=by
 have hs:=Q0c.shape x
 unfold Q0c.cv at hs ⊢
 simp only[qfieldAddr,tt208,ti208,tgt,hs,if_true,List.getElem?_cons_zero,List.getElem?_cons_succ]
theorem Q0c.atQ1(x:Q0c)(q:List Nat): x.cv.at (0::q)=((Lst.cv Y8) x.b_).at q/\x.cv.at (1::q)=(I x.at_).at q:=⟨rfl,rfl⟩
def Q0c.upd_1(x:Q0c)(v:CV): CV:=.agg [(Lst.cv Y8) x.b_,v]
theorem Q0c.setQ1(x:Q0c)(q:List Nat)(v:CV): x.cv.set (0::q) v=Q0c.upd_0 x (((Lst.cv Y8) x.b_).set q v)/\x.cv.set (1::q) v=Q0c.upd_1 x ((I x.at_).set q v):=⟨rfl,rfl⟩
theorem Q0c.fold_1(x:Q0c)(y:Int): Q0c.upd_1 x (I y)=({x with at_:=y}:Q0c).cv:=rfl
theorem Q0c.fldQ1(x:Q0c): qfield C 208 x.cv 0=some ((Lst.cv Y8) x.b_)/\qfield C 208 x.cv 1=some (I x.at_):=⟨Y0d C tt208 (Q0c.shape x) rfl tt68 rfl rfl,Y0d C tt208 (Q0c.shape x) rfl tt3 rfl rfl⟩
theorem Q0c.rfa_1(x:Q0c)(h:Heap): qfieldAddr C h 208 (.rptr x.cv) 1=some (.rptr (I x.at_)):=by
 have hs:=Q0c.shape x
 unfold Q0c.cv at hs ⊢
 simp only[qfieldAddr,tt208,ti208,tgt,hs,if_true,List.getElem?_cons_zero,List.getElem?_cons_succ]
theorem Q0c.subQ1(q:List Nat)(z:Shape): subEq sh208 (0::q) z=subEq sh68 q z/\subEq sh208 (1::q) z=subEq sh3 q z:=⟨rfl,rfl⟩
theorem Q0c.sub_nil: subEq sh208 [] sh208=true:=by simp[subEq,Shape.sub]
theorem Q0c.alloc: allocObj C (.alloc 208)=some (.var sh208 Q0c.zero.cv):=by simp only[allocObj,tt208,ti208,Q0c.zcv]
theorem Q0c.xalloc(p:Hp): xalloc C p 208=.ret (.ptr p.n []) (p.new (.var sh208 Q0c.zero.cv)):=by simp only[Cl.xalloc,tt208,ti208,Q0c.zcv]
theorem Q0c.xbox(p:Hp)(x:Q0c): xbox C p 208 x.cv=.ret (.ptr p.n []) (p.new (.var sh208 x.cv)):=by
 have h:Cl.shOk x.cv ti208.sh=true:=Q0c.shOk x
 simp only[Cl.xbox,tt208,h,cond_true];rfl
theorem Q0c.bld_0(a0:Lst Int): qbuild C 208 [(0,(Lst.cv Y8) a0)]=some (({b_:=a0,at_:=0}:Q0c).cv):=Q0g C tt208 (by simp only[partsOk,setAll,CV.shape,Lst.shape,sh208,List.all_cons,List.all_nil,List.getElem?_cons_zero,List.getElem?_cons_succ,Bool.and_true,decide_true]) rfl
def Q0f:=zA @Y0a.shape<|zA @Y0a.shOk<|zA @Y0a.eql<|zA @Y0a.neq<|zA @Y0a.at_0<|zA @Y0a.set_0<|zA @Y0a.fold_0<|zA @Y0a.fld_0<|zA @Y0a.rfa_0<|zA @Y0a.sub_0<|zA @Y0a.at_1<|zA @Y0a.set_1<|zA @Y0a.fold_1<|zA @Y0a.fld_1<|zA @Y0a.rfa_1<|zA @Y0a.sub_1<|zA @Y0a.at_2<|zA @Y0a.set_2<|zA @Y0a.fold_2<|zA @Y0a.fld_2<|zA @Y0a.rfa_2<|zA @Y0a.sub_2<|zA @Y0a.sub_nil<|zA @Y0a.alloc<|zA @Y0a.xalloc<|zA @Y0a.xbox<|zA @Y0a.bld_none<|zA @Y0a.bld_0_1<|zA @Y0a.bld_0_1_2<|@Y0a.bld_1
def Y0r:=zA @V0b.shape<|zA @V0b.shOk<|zA @V0b.eql<|zA @V0b.neq<|zA @V0b.at_0<|zA @V0b.set_0<|zA @V0b.fold_0<|zA @V0b.fld_0<|zA @V0b.sub_0<|zA @V0b.at_1<|zA @V0b.set_1<|zA @V0b.fold_1<|zA @V0b.fld_1<|zA @V0b.sub_1<|zA @V0b.sub_nil<|zA @V0b.alloc<|zA @V0b.xalloc<|zA @V0b.xbox<|zA @V0b.bld_none<|zA @V0b.bld_0<|@V0b.bld_0_1
def K0w:=zA @V0a.shape<|zA @V0a.shOk<|zA @V0a.atQ1<|zA @V0a.setQ1<|zA @V0a.foldQ1<|zA @V0a.fldQ1<|zA @V0a.rfa_0<|zA @V0a.subQ1<|zA @V0a.rfa_1<|zA @V0a.rfa_2<|zA @V0a.rfa_3<|zA @V0a.rfa_4<|zA @V0a.rfa_5<|zA @V0a.rfa_6<|zA @V0a.rfa_7<|zA @V0a.rfa_8<|zA @V0a.rfa_9<|zA @V0a.fold_10<|zA @V0a.rfa_10<|zA @V0a.rfa_11<|zA @V0a.fold_12<|zA @V0a.rfa_12<|zA @V0a.fold_13<|zA @V0a.rfa_13<|zA @V0a.sub_nil<|zA @V0a.alloc<|zA @V0a.xalloc<|@V0a.xbox
def Y0f:=zA @X0a.shape<|zA @X0a.shOk<|zA @X0a.eql<|zA @X0a.neq<|zA @X0a.at_0<|zA @X0a.set_0<|zA @X0a.fold_0<|zA @X0a.fld_0<|zA @X0a.rfa_0<|zA @X0a.sub_0<|zA @X0a.at_1<|zA @X0a.set_1<|zA @X0a.fold_1<|zA @X0a.fld_1<|zA @X0a.rfa_1<|zA @X0a.sub_1<|zA @X0a.sub_nil<|zA @X0a.alloc<|zA @X0a.xalloc<|zA @X0a.xbox<|zA @X0a.bld_0<|@X0a.bld_0_1
def K0e:=zA @Q0a.shape<|zA @Q0a.shOk<|zA @Q0a.atQ1<|zA @Q0a.setQ1<|zA @Q0a.foldQ1<|zA @Q0a.fldQ1<|zA @Q0a.rfa_0<|zA @Q0a.subQ1<|zA @Q0a.rfa_1<|zA @Q0a.rfa_2<|zA @Q0a.rfa_3<|zA @Q0a.fold_4<|zA @Q0a.rfa_4<|zA @Q0a.rfa_5<|zA @Q0a.rfa_6<|zA @Q0a.rfa_7<|zA @Q0a.fold_8<|zA @Q0a.rfa_8<|zA @Q0a.rfa_9<|zA @Q0a.fold_10<|zA @Q0a.rfa_10<|zA @Q0a.rfa_11<|zA @Q0a.rfa_12<|zA @Q0a.sub_nil<|zA @Q0a.alloc<|zA @Q0a.xalloc<|zA @Q0a.xbox<|zA @Q0a.bld_none<|zA @Q0a.bld_0<|zA @Q0a.bld_0_1_2_3_4_5<|@Q0a.bld_0_1_2_4
def Y1h:=zA @Z0d.shape<|zA @Z0d.shOk<|zA @Z0d.at_0<|zA @Z0d.set_0<|zA @Z0d.fold_0<|zA @Z0d.sub_0<|zA @Z0d.sub_nil<|@Z0d.xbox
def X0n:=zA @Y0b.shape<|zA @Y0b.shOk<|zA @Y0b.atQ1<|zA @Y0b.setQ1<|zA @Y0b.fold_0<|zA @Y0b.fldQ1<|zA @Y0b.rfa_0<|zA @Y0b.subQ1<|zA @Y0b.fold_1<|zA @Y0b.rfa_1<|zA @Y0b.fold_2<|zA @Y0b.rfa_2<|zA @Y0b.sub_nil<|zA @Y0b.alloc<|zA @Y0b.xalloc<|zA @Y0b.xbox<|@Y0b.bld_0
def X03:=zA @X0b.shape<|zA @X0b.shOk<|zA @X0b.eql<|zA @X0b.neq<|zA @X0b.at_0<|zA @X0b.set_0<|zA @X0b.fold_0<|zA @X0b.fld_0<|zA @X0b.sub_0<|zA @X0b.sub_nil<|zA @X0b.alloc<|zA @X0b.xalloc<|zA @X0b.xbox<|@X0b.bld_0
def X0q:=zA @Y0c.shape<|zA @Y0c.shOk<|zA @Y0c.atQ1<|zA @Y0c.setQ1<|zA @Y0c.fold_0<|zA @Y0c.subQ1<|zA @Y0c.fold_1<|zA @Y0c.fld_1<|zA @Y0c.rfa_1<|zA @Y0c.sub_nil<|@Y0c.xbox
def Y0q:=zA @Q0c.shape<|zA @Q0c.shOk<|zA @Q0c.atQ1<|zA @Q0c.setQ1<|zA @Q0c.fold_0<|zA @Q0c.fldQ1<|zA @Q0c.rfa_0<|zA @Q0c.subQ1<|zA @Q0c.fold_1<|zA @Q0c.rfa_1<|zA @Q0c.sub_nil<|zA @Q0c.alloc<|zA @Q0c.xalloc<|zA @Q0c.xbox<|@Q0c.bld_0
theorem sl_len24(s:Lst Int)(h:Heap): qlen C h 24 (Lst.cv I s)=some (I s.l.length):=by simp only[qlen,tt24,ti24,Lst.cv,List.length_map]
theorem sl_idx24(s:Lst Int)(p:Hp)(n:Int)(h:0<=n/\n<s.l.length): xindexAddr C p 24 (Lst.cv I s) (I n)=some (.rptr (I (nth s.l n.toNat))):=by
 have hl:n.toNat<s.l.length:=by omega
 show qindexAddr C p.h 24 (.lst s.tl (s.l.map I)) (I n)=_
 simp only[qindexAddr,tt24,ti24,tt3,List.length_map,h,and_self,if_true,List.getElem?_map,V03 hl,Option.map_some]
 rw[if_pos]
 exact rfl
theorem sl_src24(s:Lst Int)(h:Heap): srcOf C h 24 (Lst.cv I s)=some (s.l.map I):=by simp only[srcOf,tt24,ti24,Lst.cv]
theorem K2b: isSliceT C 24=true:=by simp only[isSliceT,tt24,ti24]
theorem sl_b24_1: ∀(a0:Int),qbuildSlice C 24 1 [(0,I a0)]=some (Lst.cv I ⟨.exact,[a0],nofun⟩):=fun a0=>X0g C tt24 tt3 (by decide) (by decide) (by simp only[partsOk,List.all_cons,List.all_nil,List.replicate_succ,List.replicate_zero,List.getElem?_cons_zero,List.getElem?_cons_succ,CV.shape,Bool.and_true,decide_true];try rfl) rfl
theorem sl_b24_8: ∀(a0:Int) (a1:Int) (a2:Int) (a3:Int) (a4:Int) (a5:Int) (a6:Int) (a7:Int),qbuildSlice C 24 8 [(0,I a0),(1,I a1),(2,I a2),(3,I a3),(4,I a4),(5,I a5),(6,I a6),(7,I a7)]=some (Lst.cv I ⟨.exact,[a0,a1,a2,a3,a4,a5,a6,a7],nofun⟩):=fun a0 a1 a2 a3 a4 a5 a6 a7=>X0g C tt24 tt3 (by decide) (by decide) (by simp only[partsOk,List.all_cons,List.all_nil,List.replicate_succ,List.replicate_zero,List.getElem?_cons_zero,List.getElem?_cons_succ,CV.shape,Bool.and_true,decide_true];try rfl) rfl
theorem sl_app24(p:Hp)(b s:Lst Int)(h:b.l.length+s.l.length<=17592186044416): xappend C false p 24 24 (Lst.cv I b) (Lst.cv I s)=appT I p b s:=Z0p C I tt24 tt3 (fun _=>rfl) p b s (by show _*8<=_;omega) (by omega)
theorem Z1n(b s:Lst Int): Lst.cv I b=Lst.cv I s ↔ b=s:=⟨fun h=>Lst.inj I_inj h,fun h=>by rw[h]⟩
theorem sl_lenl24(tl:Tail)(l:List CV)(h:Heap): qlen C h 24 (.lst tl l)=some (I l.length):=by simp only[qlen,tt24,ti24]
theorem sl_lens24(i:Nat)(q:List Nat)(o n:Nat)(h:Heap): qlen C h 24 (.slc i q o n)=some (I n):=by simp only[qlen,tt24,ti24]
def zsl24:=zA @sl_lenl24<|zA @sl_lens24<|zA @sl_len24<|zA @sl_idx24<|zA @sl_src24<|zA @sl_app24<|zA (V1x C K2b)<|zA (Y05 C K2b)<|zA @sl_b24_1<|zA @sl_b24_8<|K2b
theorem sl_len58(s:Lst (Lst Int))(h:Heap): qlen C h 58 (Lst.cv (Lst.cv I) s)=some (I s.l.length):=by simp only[qlen,tt58,ti58,Lst.cv,List.length_map]
theorem sl_idx58(s:Lst (Lst Int))(p:Hp)(n:Int)(h:0<=n/\n<s.l.length): xindexAddr C p 58 (Lst.cv (Lst.cv I) s) (I n)=some (.rptr ((Lst.cv I) (nth s.l n.toNat))):=by
 have hl:n.toNat<s.l.length:=by omega
 show qindexAddr C p.h 58 (.lst s.tl (s.l.map (Lst.cv I))) (I n)=_
 simp only[qindexAddr,tt58,ti58,tt24,List.length_map,h,and_self,if_true,List.getElem?_map,V03 hl,Option.map_some]
 rw[if_pos]
 exact rfl
theorem sl_src58(s:Lst (Lst Int))(h:Heap): srcOf C h 58 (Lst.cv (Lst.cv I) s)=some (s.l.map (Lst.cv I)):=by simp only[srcOf,tt58,ti58,Lst.cv]
theorem V2m: isSliceT C 58=true:=by simp only[isSliceT,tt58,ti58]
theorem sl_app58(p:Hp)(b s:Lst (Lst Int))(h:b.l.length+s.l.length<=5864062014805): xappend C false p 58 58 (Lst.cv (Lst.cv I) b) (Lst.cv (Lst.cv I) s)=appT (Lst.cv I) p b s:=Z0p C (Lst.cv I) tt58 tt24 (fun _=>rfl) p b s (by show _*24<=_;omega) (by omega)
theorem sl_inj58(b s:Lst (Lst Int)): Lst.cv (Lst.cv I) b=Lst.cv (Lst.cv I) s ↔ b=s:=⟨fun h=>Lst.inj (Lst.injF I_inj) h,fun h=>by rw[h]⟩
theorem sl_lenl58(tl:Tail)(l:List CV)(h:Heap): qlen C h 58 (.lst tl l)=some (I l.length):=by simp only[qlen,tt58,ti58]
theorem sl_lens58(i:Nat)(q:List Nat)(o n:Nat)(h:Heap): qlen C h 58 (.slc i q o n)=some (I n):=by simp only[qlen,tt58,ti58]
def zsl58:=zA @sl_lenl58<|zA @sl_lens58<|zA @sl_len58<|zA @sl_idx58<|zA @sl_src58<|zA @sl_app58<|zA (V1x C V2m)<|zA (Y05 C V2m)<|V2m
theorem sl_len68(s:Lst Int)(h:Heap): qlen C h 68 (Lst.cv Y8 s)=some (I s.l.length):=by simp only[qlen,tt68,ti68,Lst.cv,List.length_map]
theorem sl_idx68(s:Lst Int)(p:Hp)(n:Int)(h:0<=n/\n<s.l.length): xindexAddr C p 68 (Lst.cv Y8 s) (I n)=some (.rptr (Y8 (nth s.l n.toNat))):=by
 have hl:n.toNat<s.l.length:=by omega
 show qindexAddr C p.h 68 (.lst s.tl (s.l.map Y8)) (I n)=_
 simp only[qindexAddr,tt68,ti68,tt5,List.length_map,h,and_self,if_true,List.getElem?_map,V03 hl,Option.map_some]
 rw[if_pos]
 exact rfl
theorem sl_src68(s:Lst Int)(h:Heap): srcOf C h 68 (Lst.cv Y8 s)=some (s.l.map Y8):=by simp only[srcOf,tt68,ti68,Lst.cv]
theorem K2m: isSliceT C 68=true:=by simp only[isSliceT,tt68,ti68]
theorem sl_b68_0: qbuildSlice C 68 0 []=some (Lst.cv Y8 ⟨.exact,[],nofun⟩):=X0g C tt68 tt5 (by decide) (by decide) rfl rfl
theorem sl_b68_1: ∀(a0:Int),qbuildSlice C 68 1 [(0,Y8 a0)]=some (Lst.cv Y8 ⟨.exact,[a0],nofun⟩):=fun a0=>X0g C tt68 tt5 (by decide) (by decide) (by simp only[partsOk,List.all_cons,List.all_nil,List.replicate_succ,List.replicate_zero,List.getElem?_cons_zero,List.getElem?_cons_succ,CV.shape,Bool.and_true,decide_true];try rfl) rfl
theorem sl_b68_4: ∀(a0:Int) (a1:Int) (a2:Int) (a3:Int),qbuildSlice C 68 4 [(0,Y8 a0),(1,Y8 a1),(2,Y8 a2),(3,Y8 a3)]=some (Lst.cv Y8 ⟨.exact,[a0,a1,a2,a3],nofun⟩):=fun a0 a1 a2 a3=>X0g C tt68 tt5 (by decide) (by decide) (by simp only[partsOk,List.all_cons,List.all_nil,List.replicate_succ,List.replicate_zero,List.getElem?_cons_zero,List.getElem?_cons_succ,CV.shape,Bool.and_true,decide_true];try rfl) rfl
theorem sl_app68(p:Hp)(b s:Lst Int)(h:b.l.length+s.l.length<=140737488355328): xappend C false p 68 68 (Lst.cv Y8 b) (Lst.cv Y8 s)=appT Y8 p b s:=Z0p C Y8 tt68 tt5 (fun _=>rfl) p b s (by show _*1<=_;omega) (by omega)
theorem X0f(b s:Lst Int): Lst.cv Y8 b=Lst.cv Y8 s ↔ b=s:=⟨fun h=>Lst.inj Y8_inj h,fun h=>by rw[h]⟩
theorem sl_lenl68(tl:Tail)(l:List CV)(h:Heap): qlen C h 68 (.lst tl l)=some (I l.length):=by simp only[qlen,tt68,ti68]
theorem sl_lens68(i:Nat)(q:List Nat)(o n:Nat)(h:Heap): qlen C h 68 (.slc i q o n)=some (I n):=by simp only[qlen,tt68,ti68]
def zsl68:=zA @sl_lenl68<|zA @sl_lens68<|zA @sl_len68<|zA @sl_idx68<|zA @sl_src68<|zA @sl_app68<|zA (V1x C K2m)<|zA (Y05 C K2m)<|zA @sl_b68_0<|zA @sl_b68_1<|zA @sl_b68_4<|K2m
theorem sl_len91(s:Lst Y0a)(h:Heap): qlen C h 91 (Lst.cv Y0a.cv s)=some (I s.l.length):=by simp only[qlen,tt91,ti91,Lst.cv,List.length_map]
theorem sl_idx91(s:Lst Y0a)(p:Hp)(n:Int)(h:0<=n/\n<s.l.length): xindexAddr C p 91 (Lst.cv Y0a.cv s) (I n)=some (.rptr (Y0a.cv (nth s.l n.toNat))):=by
 have hl:n.toNat<s.l.length:=by omega
 show qindexAddr C p.h 91 (.lst s.tl (s.l.map Y0a.cv)) (I n)=_
 simp only[qindexAddr,tt91,ti91,tt36,List.length_map,h,and_self,if_true,List.getElem?_map,V03 hl,Option.map_some]
 rw[if_pos]
 exact Y0a.shape _
theorem sl_src91(s:Lst Y0a)(h:Heap): srcOf C h 91 (Lst.cv Y0a.cv s)=some (s.l.map Y0a.cv):=by simp only[srcOf,tt91,ti91,Lst.cv]
theorem Q2j: isSliceT C 91=true:=by simp only[isSliceT,tt91,ti91]
theorem sl_b91_0: qbuildSlice C 91 0 []=some (Lst.cv Y0a.cv ⟨.exact,[],nofun⟩):=X0g C tt91 tt36 (by decide) (by decide) rfl rfl
theorem sl_b91_1: ∀(a0:Y0a),qbuildSlice C 91 1 [(0,Y0a.cv a0)]=some (Lst.cv Y0a.cv ⟨.exact,[a0],nofun⟩):=fun a0=>X0g C tt91 tt36 (by decide) (by decide) (by simp only[partsOk,List.all_cons,List.all_nil,List.replicate_succ,List.replicate_zero,List.getElem?_cons_zero,List.getElem?_cons_succ,CV.shape,Y0a.shape,Bool.and_true,decide_true];try rfl) rfl
theorem sl_app91(p:Hp)(b s:Lst Y0a)(h:b.l.length+s.l.length<=5864062014805): xappend C false p 91 91 (Lst.cv Y0a.cv b) (Lst.cv Y0a.cv s)=appT Y0a.cv p b s:=Z0p C Y0a.cv tt91 tt36 Y0a.shOk p b s (by show _*24<=_;omega) (by omega)
theorem Y0k(b s:Lst Y0a): Lst.cv Y0a.cv b=Lst.cv Y0a.cv s ↔ b=s:=⟨fun h=>Lst.inj Y0a.injF h,fun h=>by rw[h]⟩
theorem sl_lenl91(tl:Tail)(l:List CV)(h:Heap): qlen C h 91 (.lst tl l)=some (I l.length):=by simp only[qlen,tt91,ti91]
theorem sl_lens91(i:Nat)(q:List Nat)(o n:Nat)(h:Heap): qlen C h 91 (.slc i q o n)=some (I n):=by simp only[qlen,tt91,ti91]
def zsl91:=zA @sl_lenl91<|zA @sl_lens91<|zA @sl_len91<|zA @sl_idx91<|zA @sl_src91<|zA @sl_app91<|zA (V1x C Q2j)<|zA (Y05 C Q2j)<|zA @sl_b91_0<|zA @sl_b91_1<|Q2j
theorem sl_len92(s:Lst (Lst X0a))(h:Heap): qlen C h 92 (Lst.cv (Lst.cv X0a.cv) s)=some (I s.l.length):=by simp only[qlen,tt92,ti92,Lst.cv,List.length_map]
theorem sl_idx92(s:Lst (Lst X0a))(p:Hp)(n:Int)(h:0<=n/\n<s.l.length): xindexAddr C p 92 (Lst.cv (Lst.cv X0a.cv) s) (I n)=some (.rptr ((Lst.cv X0a.cv) (nth s.l n.toNat))):=by
 have hl:n.toNat<s.l.length:=by omega
 show qindexAddr C p.h 92 (.lst s.tl (s.l.map (Lst.cv X0a.cv))) (I n)=_
 simp only[qindexAddr,tt92,ti92,tt108,List.length_map,h,and_self,if_true,List.getElem?_map,V03 hl,Option.map_some]
 rw[if_pos]
 exact rfl
theorem sl_src92(s:Lst (Lst X0a))(h:Heap): srcOf C h 92 (Lst.cv (Lst.cv X0a.cv) s)=some (s.l.map (Lst.cv X0a.cv)):=by simp only[srcOf,tt92,ti92,Lst.cv]
theorem K2e: isSliceT C 92=true:=by simp only[isSliceT,tt92,ti92]
theorem sl_b92_1: ∀(a0:(Lst X0a)),qbuildSlice C 92 1 [(0,(Lst.cv X0a.cv) a0)]=some (Lst.cv (Lst.cv X0a.cv) ⟨.exact,[a0],nofun⟩):=fun a0=>X0g C tt92 tt108 (by decide) (by decide) (by simp only[partsOk,List.all_cons,List.all_nil,List.replicate_succ,List.replicate_zero,List.getElem?_cons_zero,List.getElem?_cons_succ,CV.shape,Lst.shape,Bool.and_true,decide_true];try rfl) rfl
theorem sl_app92(p:Hp)(b s:Lst (Lst X0a))(h:b.l.length+s.l.length<=5864062014805): xappend C false p 92 92 (Lst.cv (Lst.cv X0a.cv) b) (Lst.cv (Lst.cv X0a.cv) s)=appT (Lst.cv X0a.cv) p b s:=Z0p C (Lst.cv X0a.cv) tt92 tt108 (fun _=>rfl) p b s (by show _*24<=_;omega) (by omega)
theorem Y0i(b s:Lst (Lst X0a)): Lst.cv (Lst.cv X0a.cv) b=Lst.cv (Lst.cv X0a.cv) s ↔ b=s:=⟨fun h=>Lst.inj (Lst.injF X0a.injF) h,fun h=>by rw[h]⟩
theorem sl_lenl92(tl:Tail)(l:List CV)(h:Heap): qlen C h 92 (.lst tl l)=some (I l.length):=by simp only[qlen,tt92,ti92]
theorem sl_lens92(i:Nat)(q:List Nat)(o n:Nat)(h:Heap): qlen C h 92 (.slc i q o n)=some (I n):=by simp only[qlen,tt92,ti92]
def zsl92:=zA @sl_lenl92<|zA @sl_lens92<|zA @sl_len92<|zA @sl_idx92<|zA @sl_src92<|zA @sl_app92<|zA (V1x C K2e)<|zA (Y05 C K2e)<|zA @sl_b92_1<|K2e
theorem sl_len108(s:Lst X0a)(h:Heap): qlen C h 108 (Lst.cv X0a.cv s)=some (I s.l.length):=by simp only[qlen,tt108,ti108,Lst.cv,List.length_map]
theorem sl_idx108(s:Lst X0a)(p:Hp)(n:Int)(h:0<=n/\n<s.l.length): xindexAddr C p 108 (Lst.cv X0a.cv s) (I n)=some (.rptr (X0a.cv (nth s.l n.toNat))):=by
 have hl:n.toNat<s.l.length:=by omega
 show qindexAddr C p.h 108 (.lst s.tl (s.l.map X0a.cv)) (I n)=_
 simp only[qindexAddr,tt108,ti108,tt110,List.length_map,h,and_self,if_true,List.getElem?_map,V03 hl,Option.map_some]
 rw[if_pos]
 exact X0a.shape _
theorem sl_src108(s:Lst X0a)(h:Heap): srcOf C h 108 (Lst.cv X0a.cv s)=some (s.l.map X0a.cv):=by simp only[srcOf,tt108,ti108,Lst.cv]
theorem V1s: isSliceT C 108=true:=by simp only[isSliceT,tt108,ti108]
theorem sl_b108_0: qbuildSlice C 108 0 []=some (Lst.cv X0a.cv ⟨.exact,[],nofun⟩):=X0g C tt108 tt110 (by decide) (by decide) rfl rfl
theorem sl_b108_1: ∀(a0:X0a),qbuildSlice C 108 1 [(0,X0a.cv a0)]=some (Lst.cv X0a.cv ⟨.exact,[a0],nofun⟩):=fun a0=>X0g C tt108 tt110 (by decide) (by decide) (by simp only[partsOk,List.all_cons,List.all_nil,List.replicate_succ,List.replicate_zero,List.getElem?_cons_zero,List.getElem?_cons_succ,CV.shape,X0a.shape,Bool.and_true,decide_true];try rfl) rfl
theorem sl_app108(p:Hp)(b s:Lst X0a)(h:b.l.length+s.l.length<=4398046511104): xappend C false p 108 108 (Lst.cv X0a.cv b) (Lst.cv X0a.cv s)=appT X0a.cv p b s:=Z0p C X0a.cv tt108 tt110 X0a.shOk p b s (by show _*32<=_;omega) (by omega)
theorem Q0i(b s:Lst X0a): Lst.cv X0a.cv b=Lst.cv X0a.cv s ↔ b=s:=⟨fun h=>Lst.inj X0a.injF h,fun h=>by rw[h]⟩
theorem sl_lenl108(tl:Tail)(l:List CV)(h:Heap): qlen C h 108 (.lst tl l)=some (I l.length):=by simp only[qlen,tt108,ti108]
theorem sl_lens108(i:Nat)(q:List Nat)(o n:Nat)(h:Heap): qlen C h 108 (.slc i q o n)=some (I n):=by simp only[qlen,tt108,ti108]
def zsl108:=zA @sl_lenl108<|zA @sl_lens108<|zA @sl_len108<|zA @sl_idx108<|zA @sl_src108<|zA @sl_app108<|zA (V1x C V1s)<|zA (Y05 C V1s)<|zA @sl_b108_0<|zA @sl_b108_1<|V1s
theorem sl_len154(s:Lst Bool)(h:Heap): qlen C h 154 (Lst.cv Bo s)=some (I s.l.length):=by simp only[qlen,tt154,ti154,Lst.cv,List.length_map]
theorem sl_idx154(s:Lst Bool)(p:Hp)(n:Int)(h:0<=n/\n<s.l.length): xindexAddr C p 154 (Lst.cv Bo s) (I n)=some (.rptr (Bo (nth s.l n.toNat))):=by
 have hl:n.toNat<s.l.length:=by omega
 show qindexAddr C p.h 154 (.lst s.tl (s.l.map Bo)) (I n)=_
 simp only[qindexAddr,tt154,ti154,tt4,List.length_map,h,and_self,if_true,List.getElem?_map,V03 hl,Option.map_some]
 rw[if_pos]
 exact rfl
theorem sl_src154(s:Lst Bool)(h:Heap): srcOf C h 154 (Lst.cv Bo s)=some (s.l.map Bo):=by simp only[srcOf,tt154,ti154,Lst.cv]
theorem K1w: isSliceT C 154=true:=by simp only[isSliceT,tt154,ti154]
theorem sl_b154_1: ∀(a0:Bool),qbuildSlice C 154 1 [(0,Bo a0)]=some (Lst.cv Bo ⟨.exact,[a0],nofun⟩):=fun a0=>X0g C tt154 tt4 (by decide) (by decide) (by simp only[partsOk,List.all_cons,List.all_nil,List.replicate_succ,List.replicate_zero,List.getElem?_cons_zero,List.getElem?_cons_succ,CV.shape,Bool.and_true,decide_true];try rfl) rfl
theorem sl_app154(p:Hp)(b s:Lst Bool)(h:b.l.length+s.l.length<=140737488355328): xappend C false p 154 154 (Lst.cv Bo b) (Lst.cv Bo s)=appT Bo p b s:=Z0p C Bo tt154 tt4 (fun _=>rfl) p b s (by show _*1<=_;omega) (by omega)
theorem sl_lenl154(tl:Tail)(l:List CV)(h:Heap): qlen C h 154 (.lst tl l)=some (I l.length):=by simp only[qlen,tt154,ti154]
theorem sl_lens154(i:Nat)(q:List Nat)(o n:Nat)(h:Heap): qlen C h 154 (.slc i q o n)=some (I n):=by simp only[qlen,tt154,ti154]
def zsl154:=zA @sl_lenl154<|zA @sl_lens154<|zA @sl_len154<|zA @sl_idx154<|zA @sl_src154<|zA @sl_app154<|zA (V1x C K1w)<|zA (Y05 C K1w)<|zA @sl_b154_1<|K1w
end Go.Proofs.Ytpchcfkebljopaa
end
section
namespace Go.Proofs.Ytpchcfkebljopaa
open Go.Cl Go Go.RowKit
abbrev w64(n:Int): Int:=IntKind.i64.wrap n
def brought(n lo hi:Int): Int:=max lo (min n hi)
def within(n lo hi:Int): Bool:=decide (lo<=n)&&decide (n<=hi)
theorem K0a{n lo hi:Int}(h:within n lo hi=true): lo<=n/\n<=hi:=by simpa[within]using h
abbrev Body:=Q0b
abbrev Mach:=K0b
def Body.right(b:Q0b): Bool:=
 if b.Kind=0 then decide (b=Q0b.zero) else
 b.Mem.all (fun n=>within n (-1000000) 1000000)&&(decide (b.Kind=1) || decide (b.Kind=2))&&within b.Owner 0 7&&within b.X 0 4095&&within b.Y 0 4095&&within b.VX (-64) 64&&within b.VY (-64) 64&&within b.Age 0 600&&within b.Faults 0 65535
def bodyShoot(b:Q0b)(vx vy:Int): Q0b:=
 if Body.right b=true/\b.Kind≠0 then {Q0b.zero with Kind:=2,Owner:=b.Owner,X:=b.X,Y:=b.Y,VX:=brought vx (-64) 64,VY:=brought vy (-64) 64} else Q0b.zero
def fault(c at_:Int): CV:=.ifc 194 (X0b.cv ⟨⟨c,at_⟩⟩)
def Mach.body(m:K0b)(f:Q0b->Q0b): K0b:={m with e_:={m.e_ with Body:=f m.e_.Body}}
def Mach.set(m:K0b)(k:Nat)(n:Int): K0b:=Mach.body m fun b=>b.put_7k k (brought n (-1000000) 1000000)
def Mach.reg(m:K0b)(k:Nat): Int:=nth m.e_.Body.Mem k
def needA(c:Int): Bool:=!(decide (c=8) || decide (c=10) || decide (c=13))
def needB(c:Int): Bool:=!(decide (c=1) || decide (c=7) || decide (c=9) || decide (c=10) || decide (c=13))
def namedOk(o:X0d): Bool:=(!needA o.Code || within o.A 0 3)&&(!needB o.Code || within o.B 0 3)
def Mach.field(m:K0b)(k:Nat): Int:=nth [m.e_.Body.X,m.e_.Body.Y,m.e_.Body.VX,m.e_.Body.VY,m.e_.Body.Age,m.e_.In.Buttons,m.e_.In.X,m.e_.In.Y] k
def Mach.put(m:K0b)(k n:Int): K0b:=Mach.body m fun b=>
 if k=0 then {b with X:=brought n 0 4095} else if k=1 then {b with Y:=brought n 0 4095} else if k=2 then {b with VX:=brought n (-64) 64} else {b with VY:=brought n (-64) 64}
def diceNext(d:Int): Int:=IntKind.u64.wrap (IntKind.u64.wrap (d*6364136223846793005)+1442695040888963407)
def diceNum(d:Int): Int:=IntKind.i64.wrap (d.fdiv (2^33))
def diceRoll(d n:Int): Int×Int:=if n<1 then(d,0) else(diceNext d,(diceNum (diceNext d)).tmod n)
def Mach.reckon(m:K0b)(o:X0d): Except Int K0b:=
 let a:=Mach.reg m o.A.toNat
 let b:=Mach.reg m o.B.toNat
 let k:=o.A.toNat
 if o.Code=2 then .ok (Mach.set m k b)
 else if o.Code=3 then .ok (Mach.set m k (w64 (a+b)))
 else if o.Code=4 then .ok (Mach.set m k (w64 (a-b)))
 else if o.Code=5 then .ok (Mach.set m k (w64 (a*b)))
 else if o.Code=6 then(if b=0 then .error 1 else .ok (Mach.set m k (w64 (a.tdiv b))))
 else if o.Code=11 then(if b<1 then .error 6 else .ok (Mach.set {m with e_:={m.e_ with Dice:=(diceRoll m.e_.Dice b).1}} k (diceRoll m.e_.Dice b).2))
 else(if(m.e_.Shots.l.length:Int)<m.e_.Room then .ok {m with e_:={m.e_ with Shots:=⟨.part,m.e_.Shots.l++[bodyShoot m.e_.Body a b],nofun⟩}} else .error 7)
theorem Mach.put_at(m:K0b)(k n:Int): (Mach.put m k n).at_=m.at_:=nd rfl
def Mach.doOp(m:K0b)(o:X0d): Except Int (K0b×Int):=
 if within o.Code 1 13=false then .error 4
 else if namedOk o=false then .error 2
 else if o.Code=1 then .ok (Mach.set m o.A.toNat o.B,m.at_+1)
 else if o.Code=7 then(if within o.B 0 7=false then .error 3 else .ok (Mach.set m o.A.toNat (Mach.field m o.B.toNat),m.at_+1))
 else if o.Code=8 then(if within o.A 0 3=false then .error 3 else .ok (Mach.put m o.A (Mach.reg m o.B.toNat),m.at_+1))
 else if o.Code=9 then(if Mach.reg m o.A.toNat=0 then(if within o.B 0 m.l_.l.length=false then .error 4 else .ok (m,o.B))else .ok (m,m.at_+1))
 else if o.Code=10 then(if within o.B 0 m.l_.l.length=false then .error 4 else .ok (m,o.B))
 else if o.Code=13 then .ok (m,m.l_.l.length)
 else match Mach.reckon m o with
  |.error c=>.error c
  |.ok m'=>.ok (m',m.at_+1)
def Mach.run: Nat->K0b->Except (Int×Int) K0b
 |k,m=>if m.at_<m.l_.l.length then
   match k with
   |0=>.error (5,m.at_)
   |k+1=>match Mach.doOp m (nth m.l_.l m.at_.toNat) with
    |.error c=>.error (c,m.at_)
    |.ok (m',n)=>Mach.run k {m' with at_:=n}
  else .ok m
def cloneL{α:Type}(s:Lst α)(n:Nat): Lst α:=
 match s.tl with
 |.nil=>⟨.nil,[],fun _=>rfl⟩
 |_=>match s.l with
  |[]=>⟨.exact,[],nofun⟩
  |x::l=>⟨.own n,x::l,nofun⟩
def cloneP{α:Type}(s:Lst α): Lst α:=
 match s.tl with
 |.nil=>⟨.nil,[],fun _=>rfl⟩
 |_=>match s.l with
  |[]=>⟨.exact,[],nofun⟩
  |x::l=>⟨.part,x::l,nofun⟩
theorem Z0i{α:Type}(s:Lst α): (cloneP s).l=s.l:=by
 obtain⟨tl,l,o⟩:=s
 cases tl<;>cases l<;>simp_all[cloneP]
theorem cloneP_tl{α:Type}(s:Lst α): (cloneP s).tl=.nil\/(cloneP s).tl=.exact\/(cloneP s).tl=.part:=by
 obtain⟨tl,l,o⟩:=s
 cases tl<;>cases l<;>simp_all[cloneP]
theorem cloneP_nv{α:Type}(s:Lst α): (cloneP s).tl≠.view:=by rcases cloneP_tl s with h|h|h<;>rw[h]<;>simp
theorem Z08{α:Type}(s:Lst α)(j:Nat): (cloneP s).tl≠.own j:=by rcases cloneP_tl s with h|h|h<;>rw[h]<;>simp
theorem Z17{α:Type}{f:α->CV}(hf:∀x j,¬(f x).has j)(s:Lst α)(n k:Nat): CV.weak (fun k=>k) k (Lst.cv f (cloneL s n)) (Lst.cv f (cloneP s)):=by
 have hl:∀l:List α,CV.weakL (fun k=>k) k (l.map f) (l.map f):=fun l=>CV.weakL_refl _ fun j hj=>(Z0h hf l j hj).elim
 obtain⟨tl,l,o⟩:=s
 cases tl<;>cases l<;>simp only[cloneL,cloneP,Lst.cv,CV.weak,Tail.weak,true_and]<;>exact hl _
end Go.Proofs.Ytpchcfkebljopaa
end
section
namespace Go.Proofs.Ytpchcfkebljopaa
open Go.Cl Go Go.RowKit
set_option maxRecDepth 100000
set_option linter.constructorNameAsVariable false
def R200: Rel:=fun args p r=>∃(c a:Int),args=[I c,I a]/\r=.pan (fault c a) p
theorem t200{T:XCall}(h:Has T 200 R200)(c a:Int){p:Hp}:T 200 [I c,I a] p=.pan (fault c a) p:=h _ _ _ ⟨c,a,rfl,rfl⟩
theorem zq200{A B:Prop}(k:B)(h:A=B:=by have zy:=zA @zw200<|zA @rs200<|zA @tt44<|zA @tt194<|zA ti44.eq_1<|zA ti194.eq_1<|zA @Y0r<|@X03;exact zQ): A:=h▸k
theorem c200: Con C 200 R200:=by
 refine V0e C ?_ ?_ ?_
 ·rintro args p r r' ⟨c,a,h,e⟩ ⟨c',a',h',e'⟩
  subst e;subst e';simp_all[V0b.inj_iff,X0b.inj_iff]
 ·rintro args p r ⟨c,a,h,rfl⟩;exact zr1
 rintro args p r ⟨c,a,rfl,rfl⟩
 refine zW C false [] zT rfl xf200 zc200_ok fun call zh hF=>?_
 clear zh
 (have zx:=zT;refine zq200 ?_;clear zx;try exact zT)
 exact X1v hF (fun _ _ h=>h) (V0d (K0c (by simp[CV.has,fault,X0b.nohas])))
def R181: Rel:=fun args p r=>∃(ok:Bool) (c a:Int),args=[Bo ok,I c,I a]/\r=(if ok=true then .ret (.tup []) p else .pan (fault c a) p)
theorem t181{T:XCall}(h:Has T 181 R181)(ok:Bool)(c a:Int){p:Hp}:T 181 [Bo ok,I c,I a] p=(if ok=true then .ret (.tup []) p else .pan (fault c a) p):=h _ _ _ ⟨ok,c,a,rfl,rfl⟩
theorem zq181{A B:Prop}(k:B)(h:A=B:=by have zy:=zA @zw181<|zA @rs181<|@t_200;exact zQ): A:=h▸k
theorem c181: Con C 181 R181:=by
 refine V0e C ?_ ?_ ?_
 ·rintro args p r r' ⟨ok,c,a,h,e⟩ ⟨ok',c',a',h',e'⟩
  subst e;subst e';simp_all
 ·rintro args p r ⟨ok,c,a,h,rfl⟩;exact zr1
 rintro args p r ⟨ok,c,a,rfl,rfl⟩
 refine zW C false [(200,R200)] ⟨c200,zT⟩ rfl xf181 zc181_ok fun call zh hF=>?_
 have t_200:=@t200 _ zh.1
 clear zh
 (have zx:=zT;refine zq181 ?_;try exact zT)
 repeat'(apply zK.s<;>intro hc<;>(try simp only[zhd]at hc)<;>(try have hw:=K0a hc)<;>(refine zq181 ?_;try exact zT))
 all_goals(try clear zx)
 ·exact V0c hF zle (V0d (K0c tup0_no))
 ·exact X1v hF zle (V0d (K0c (by simp[CV.has,fault,X0b.nohas])))
noncomputable def resM(i:Nat)(m:K0b)(p:Hp)(r:Except Int K0b): XRes:=
 match r with
 |.ok m'=>.ret (.tup []) (p.set i (some (.var sh131 m'.cv)))
 |.error c=>.pan (fault c m.at_) p
noncomputable def resD(i:Nat)(m:K0b)(p:Hp)(r:Except Int (K0b×Int)): XRes:=
 match r with
 |.ok m'=>.ret (I m'.2) (p.set i (some (.var sh131 m'.1.cv)))
 |.error c=>.pan (fault c m.at_) p
end Go.Proofs.Ytpchcfkebljopaa
end
section
namespace Go.Proofs.Ytpchcfkebljopaa
open Go.Cl Go Go.RowKit
set_option maxRecDepth 100000
noncomputable def zn73_1: ZC:=ZC.reg [⟨some 2,.alloc 44,none,false⟩,⟨some 3,.alloc 4,none,true⟩]
noncomputable def zn73_4: ZC:=ZC.reg [⟨some 4,.move (.tmp 0),none,false⟩,⟨some 5,.binOp .eql 1 (.tmp 4) (.const .nilFunc) 1,none,true⟩]
noncomputable def zn73_7: ZC:=ZC.reg [⟨some 6,.build 44 ⟨[]⟩,none,false⟩,⟨none,.store 44 (.tmp 2) (.tmp 6),none,false⟩,⟨none,.store 4 (.tmp 3) (.const (.bool false)),none,true⟩]
noncomputable def zn73_6: ZC:=ZC.seq zn73_7 ZC.ret
noncomputable def zn73_5: ZC:=ZC.cond (.tmp 5) zn73_6 ZC.skip
noncomputable def zn73_3: ZC:=ZC.seq zn73_4 zn73_5
noncomputable def zn73_9: ZC:=ZC.reg [⟨some 7,.makeFunc (.func 149) ⟨[]⟩ ⟨[.tmp 2,.tmp 3]⟩,none,false⟩,⟨none,.defer ⟨.value (.tmp 7),⟨[]⟩,⟨[]⟩⟩,none,true⟩]
noncomputable def zn73_11: ZC:=ZC.reg [⟨some 8,.move (.tmp 0),none,false⟩,⟨some 9,.call ⟨.value (.tmp 8),⟨[]⟩,⟨[]⟩⟩,none,true⟩]
noncomputable def zn73_13: ZC:=ZC.reg [⟨some 10,.build 44 ⟨[]⟩,none,false⟩,⟨none,.store 44 (.tmp 2) (.tmp 10),none,false⟩,⟨none,.store 4 (.tmp 3) (.const (.bool false)),none,true⟩]
noncomputable def zn73_12: ZC:=ZC.seq zn73_13 ZC.ret
noncomputable def V2d: ZC:=ZC.seq zn73_11 zn73_12
noncomputable def zn73_8: ZC:=ZC.seq zn73_9 V2d
noncomputable def zn73_2: ZC:=ZC.seq zn73_3 zn73_8
noncomputable def zn73_0: ZC:=ZC.seq zn73_1 zn73_2
noncomputable def zc73: ZC:=zn73_0
def zw73:=zU C zc73.eq_1<|zU C zn73_1.eq_1<|zU C zn73_4.eq_1<|zU C zn73_7.eq_1<|zU C zn73_6.eq_1<|zU C zn73_5.eq_1<|zU C zn73_3.eq_1<|zU C zn73_9.eq_1<|zU C zn73_11.eq_1<|zU C zn73_13.eq_1<|zU C zn73_12.eq_1<|zU C V2d.eq_1<|zU C zn73_8.eq_1<|zU C zn73_2.eq_1<|(zunf C zn73_0.eq_1)
theorem rs73: (xfOf Try.f73).rs=[.cell 2 44,.cell 3 4]:=by kernel_rfl
noncomputable def zn149_1: ZC:=ZC.reg [⟨some 5,.call ⟨.builtin .recover,⟨[]⟩,⟨[]⟩⟩,none,true⟩]
noncomputable def zn149_4: ZC:=ZC.reg [⟨some 7,.binOp .eql 20 (.tmp 5) (.const .nilIface) 20,none,true⟩]
noncomputable def zn149_6: ZC:=ZC.reg [⟨some 2,.assign (.tmp 5),none,true⟩]
noncomputable def zn149_8: ZC:=ZC.reg [⟨some 8,.typeAssert (.tmp 5) 20 194 true,none,false⟩,⟨some 9,.extract (.tmp 8) 1,none,false⟩,⟨some 10,.extract (.tmp 8) 0,none,true⟩]
noncomputable def zn149_11: ZC:=ZC.reg [⟨some 3,.alloc 194,none,false⟩,⟨none,.store 194 (.tmp 3) (.tmp 10),none,true⟩]
noncomputable def zn149_12: ZC:=ZC.reg [⟨some 11,.fieldAddr 194 (.tmp 3) 0,none,false⟩,⟨some 12,.load 44 (.tmp 11),none,false⟩,⟨none,.store 44 (.tmp 0) (.tmp 12),none,false⟩,⟨none,.store 4 (.tmp 1) (.const (.bool true)),none,true⟩]
noncomputable def zn149_10: ZC:=ZC.seq zn149_11 zn149_12
noncomputable def zn149_14: ZC:=ZC.reg [⟨some 4,.assign (.tmp 5),none,true⟩]
noncomputable def zn149_15: ZC:=ZC.reg [⟨some 6,.move (.tmp 4),none,false⟩,⟨none,.panic (.tmp 6),none,true⟩]
noncomputable def zn149_13: ZC:=ZC.seq zn149_14 zn149_15
noncomputable def zn149_9: ZC:=ZC.cond (.tmp 9) zn149_10 zn149_13
noncomputable def zn149_7: ZC:=ZC.seq zn149_8 zn149_9
noncomputable def zn149_5: ZC:=ZC.cond (.tmp 7) zn149_6 zn149_7
noncomputable def zn149_3: ZC:=ZC.seq zn149_4 zn149_5
noncomputable def Q2b: ZC:=ZC.block 0 zn149_3
noncomputable def zn149_0: ZC:=ZC.seq zn149_1 Q2b
noncomputable def zc149: ZC:=zn149_0
def zw149:=zU C zc149.eq_1<|zU C zn149_1.eq_1<|zU C zn149_4.eq_1<|zU C zn149_6.eq_1<|zU C zn149_8.eq_1<|zU C zn149_11.eq_1<|zU C zn149_12.eq_1<|zU C zn149_10.eq_1<|zU C zn149_14.eq_1<|zU C zn149_15.eq_1<|zU C zn149_13.eq_1<|zU C zn149_9.eq_1<|zU C zn149_7.eq_1<|zU C zn149_5.eq_1<|zU C zn149_3.eq_1<|zU C Q2b.eq_1<|(zunf C zn149_0.eq_1)
end Go.Proofs.Ytpchcfkebljopaa
end
section
namespace Go.Proofs.Ytpchcfkebljopaa
open Go.Cl Go Go.RowKit
noncomputable def xc73: XC:=⟨catA (Try.f73.body.getD .skip),catB (Try.f73.body.getD .skip),catP (Try.f73.body.getD .skip),Try.f73.results.toList,Try.f73.ntmps,7,149,[2,3],5,catR (Try.f149.body.getD .skip),Try.f149.ntmps⟩
theorem xc73_ok: XCok C 73 xc73 where
 fn:=⟨Try.f73,_,_,_,_,_,_,_,_,by kernel_rfl,rfl,rfl,rfl⟩
 cl:=⟨Try.f149,_,_,_,_,_,by kernel_rfl,rfl,rfl,rfl,by kernel_rfl⟩
 ok:=⟨by kernel_rfl,by kernel_rfl,by kernel_rfl,by kernel_rfl,by kernel_rfl⟩
 lt:=⟨of_decide_eq_true (by kernel_rfl),of_decide_eq_true (by kernel_rfl),fun t ht=>of_decide_eq_true (List.all_eq_true.1 (show xc73.caps.all (fun t=>decide (t<xc73.n))=true by kernel_rfl) t ht),of_decide_eq_true (by kernel_rfl),of_decide_eq_true (by kernel_rfl)⟩
theorem xc73_n: ∃fn,C.P.funcs[73]?=some fn/\fn.body.isNone=false/\(fn.name == "runtime.NumGoroutine")=false:=⟨Try.f73,by kernel_rfl,by kernel_rfl,by kernel_rfl⟩
theorem xc73_a: zcode xc73.a=some zn73_1:=by kernel_rfl
theorem xc73_b: zcode xc73.b=some zn73_3:=by kernel_rfl
theorem xc73_p: zcode xc73.post=some V2d:=by kernel_rfl
theorem xc73_r: zcode xc73.rest=some Q2b:=by kernel_rfl
theorem xc73_rs: xc73.rs=[.cell 2 44,.cell 3 4]:=by kernel_rfl
theorem xc73_z: xc73.k=7/\xc73.g=149/\xc73.caps=[2,3]/\xc73.gd=5/\xc73.rs=[.cell 2 44,.cell 3 4]/\(∀p:Hp,Cl.xalloc C p 4=.ret (.ptr p.n []) (p.new (.var .s (Bo false)))):=⟨rfl,rfl,rfl,rfl,xc73_rs,fun p=>by simp only[Cl.xalloc,tt4,ti4]⟩
end Go.Proofs.Ytpchcfkebljopaa
end
section
namespace Go.Proofs.Ytpchcfkebljopaa
open Go.Cl Go Go.RowKit
set_option maxRecDepth 100000
set_option linter.constructorNameAsVariable false
end Go.Proofs.Ytpchcfkebljopaa
end
section
namespace Go.Proofs.Ytpchcfkebljopaa
open Go.Cl Go Go.RowKit
set_option maxRecDepth 100000
end Go.Proofs.Ytpchcfkebljopaa
end
section
namespace Go.Proofs.Ytpchcfkebljopaa
open Go.Cl Go Go.RowKit
def pick(n m:Int): Int:=if n.tmod m<0 then n.tmod m+m else n.tmod m
theorem X0m{n m:Int}(h:0<m): 0<=pick n m/\pick n m<m:=by
 unfold pick
 have h1:=Int.tmod_lt_of_pos n h
 have h2:-m<n.tmod m:=by
  have:=Int.lt_tmod_of_pos n h
  omega
 split<;>omega
def bodyBorn(owner players:Int): Q0b:=
 {Q0b.zero with Kind:=1,Owner:=brought owner 0 (brought players 1 8-1),X:=w64 (((2*brought owner 0 (brought players 1 8-1)+1)*4096).tdiv (2*brought players 1 8)),Y:=2048}
def handInput(n m:Int): Y0a:=⟨pick n 256,w64 (pick m 129-64),w64 (pick (w64 (m.tdiv 129)) 129-64)⟩
def memVal(v:Int): Int:=if v.tmod 9=8 then w64 (pick v 2000001-1000000)else w64 (pick v 41-20)
def memN(l:List Int): Nat->Q0b->Q0b
 |0,b=>b
 |k+1,b=>(memN l k b).put_7k k (memVal (nth l k))
def env0: Z0c:={Z0c.zero with Body:=bodyBorn 0 1,In:=⟨3,-64,7⟩,Dice:=5,Room:=2}
end Go.Proofs.Ytpchcfkebljopaa
end
section
namespace Go.Proofs.Ytpchcfkebljopaa
open Go.Cl Go Go.RowKit
set_option maxRecDepth 100000
set_option linter.constructorNameAsVariable false
def R37: Rel:=fun args p r=>∃(n m:Int),args=[I n,I m]/\(0<m)/\(m<=9223372036854775807)/\r=.ret (I (pick n m)) p
theorem t37{T:XCall}(h:Has T 37 R37)(n m:Int){p:Hp}(h1:0<m)(h2:m<=9223372036854775807): T 37 [I n,I m] p=.ret (I (pick n m)) p:=h _ _ _ ⟨n,m,rfl,h1,h2,rfl⟩
theorem zq37{A B:Prop}(k:B)(h:A=B:=by have zy:=zA @zw37<|zA @rs37<|zA @tt3<|zA ti3.eq_1<|zA @h1<|@h2;exact zQ): A:=h▸k
theorem zno37{P:Prop}(h:P:=by intro jj;simp[CV.has,CV.hasL,fault,X0b.nohas]): P:=h
theorem c37: Con C 37 R37:=by
 refine V0e C ?_ ?_ ?_
 ·rintro args p r r' ⟨n,m,h,h1,h2,e⟩ ⟨n',m',h',h1',h2',e'⟩
  subst e;subst e';simp_all
 ·rintro args p r ⟨n,m,h,h1,h2,rfl⟩;exact zr1
 rintro args p r ⟨n,m,rfl,h1,h2,rfl⟩
 refine zW C false [] zT rfl xf37 zc37_ok fun call zh hF=>?_
 clear zh
 have hm:=Int.tmod_lt_of_pos n h1
 have hm2:=Int.lt_tmod_of_pos n h1
 (have zx:=zT;refine zq37 ?_;try exact zT)
 repeat'(apply zK.s<;>intro hc<;>(try simp only[zhd,zhn]at hc)<;>(try have hw:=K0a hc)<;>(refine zq37 ?_;try exact zT))
 all_goals(try clear zx)
 all_goals refine V0c hF zle (Q0d ?_ (K0c zno37))
 all_goals(simp[pick,hc]<;>omega)
def R69: Rel:=fun args p r=>∃(n k:Int),args=[I n,I k]/\(-9223372036854775808<=k/\k<=9223372036854775807)/\r=.ret (handInput n k).cv p
theorem t69{T:XCall}(h:Has T 69 R69)(n k:Int){p:Hp}(h1:-9223372036854775808<=k/\k<=9223372036854775807): T 69 [I n,I k] p=.ret (handInput n k).cv p:=h _ _ _ ⟨n,k,rfl,h1,rfl⟩
theorem zq69{A B:Prop}(k:B)(h:A=B:=by have zy:=zA @zw69<|zA @rs69<|zA @tt3<|zA @tt36<|zA ti3.eq_1<|zA ti36.eq_1<|zA @t_37<|zA @Q0f<|@h1;exact zQ): A:=h▸k
theorem zno69{P:Prop}(h:P:=by intro jj;simp[CV.has,CV.hasL,fault,X0b.nohas,Y0a.nohas]): P:=h
theorem c69: Con C 69 R69:=by
 refine V0e C ?_ ?_ ?_
 ·rintro args p r r' ⟨n,k,h,h1,e⟩ ⟨n',k',h',h1',e'⟩
  subst e;subst e';simp_all[Y0a.inj_iff]
 ·rintro args p r ⟨n,k,h,h1,rfl⟩;exact zr1
 rintro args p r ⟨n,k,rfl,h1,rfl⟩
 refine zW C false [(37,R37)] ⟨c37,zT⟩ rfl xf69 zc69_ok fun call zh hF=>?_
 have t_37:=@t37 _ zh.1
 clear zh
 (have zx:=zT;refine zq69 ?_;try exact zT)
 repeat'(apply zK.s<;>intro hc<;>(try simp only[zhd,zhn]at hc)<;>(try have hw:=K0a hc)<;>(refine zq69 ?_;try exact zT))
 all_goals(try clear zx)
 exact V0c hF zle (Q0d rfl (K0c zno69))
end Go.Proofs.Ytpchcfkebljopaa
end
section
namespace Go.Proofs.Ytpchcfkebljopaa
open Go.Cl Go Go.RowKit
end Go.Proofs.Ytpchcfkebljopaa
end
section
namespace Go.Proofs.Ytpchcfkebljopaa
open Go.Cl Go Go.RowKit
set_option maxRecDepth 100000
set_option linter.constructorNameAsVariable false
def App{α:Type}(n0:Nat)(s:Lst α)(q:Hp): Prop:=
 s.tl=.nil\/∃j,s.tl=.own j/\n0<j/\j<q.n/\q.t.get j=some (.tail s.l.length)/\0<s.l.length
end Go.Proofs.Ytpchcfkebljopaa
end
section
namespace Go.Cl
open Go.RowKit Go.ChangeShapes Go.WideShapes Go.ChangeAt
def consB(P:Program): Nat->List Field->Nat->Bool
 |off,[],tot=>off==tot
 |off,f::l,tot=>f.offset==off&&consB P (off+P.cellsOf f.type) l tot
def sup(P:Program): Nat->TypeId->Bool
 |0,_=>false
 |n+1,t=>match P.underlying t with
  |some (.int _)|some .bool|some (.float _)|some .string=>true
  |some (.struct fs)=>consB P 0 fs.toList (P.cellsOf t)&&fs.toList.all fun f=>sup P n f.type
  |some (.array c e)=>(P.cellsOf t==c*P.cellsOf e)&&sup P n e
  |_=>false
def All2(r:TypeId->CV->Prop): List TypeId->List CV->Prop
 |[],[]=>True
 |t::ts,v::l=>r t v/\All2 r ts l
 |_,_=>False
def Ty(P:Program): Nat->TypeId->CV->Prop
 |0,_,_=>False
 |n+1,t,v=>match P.underlying t with
  |some (.int k)=>∃i,v=.sc (.int k i)/\(Lit.int k i).wf=true
  |some .bool=>∃b,v=.sc (.bool b)
  |some (.float k)=>∃b,v=.sc (.float k b)/\(Lit.float k b).wf=true
  |some .string=>∃s,v=.sc (.string s)/\s.size<=maxLen
  |some (.struct fs)=>∃l,v=.agg l/\All2 (Ty P n) (fs.toList.map (·.type)) l
  |some (.array c e)=>∃l,v=.agg l/\l.length=c/\∀x∈l,Ty P n e x
  |_=>False
variable {H:Type} {enc:TypeId×Value->H} {P:Program} {w:World} {base:Nat} {spare:Nat->Bool} {held:Bool}
theorem Q13{n fuel:Nat}(S:St)(ih:∀t cs x,sup P n t=true->DataW.trod enc P w base spare held fuel t cs=some x->∃v,FR S v cs/\Ty P n t v)(cs:List Value):
  ∀(fl:List Field) (off tot:Nat) (xs:List (DataW H×List MemPlace)),consB P off fl tot=true->cs.length=tot->(fl.all fun f=>sup P n f.type)=true->
   (fl.mapM fun f=>DataW.trod enc P w base spare held fuel f.type ((cs.drop f.offset).take (P.cellsOf f.type)))=some xs->∃l,FRs S l (cs.drop off)/\All2 (Ty P n) (fl.map (·.type)) l
 |[],off,tot,xs,hc,hl,_,_=>by
  simp only[consB,beq_iff_eq]at hc
  subst hc
  exact⟨[],by simp[FRs,hl],trivial⟩
 |f::fl,off,tot,xs,hc,hl,ha,hm=>by
  simp only[consB,Bool.and_eq_true,beq_iff_eq]at hc
  simp only[List.all_cons,Bool.and_eq_true]at ha
  simp only[List.mapM_cons,Option.pure_def,Option.bind_eq_bind,Option.bind_eq_some_iff]at hm
  obtain⟨y,hy,ys,hys,_⟩:=hm
  obtain⟨v,hv,tv⟩:=ih _ _ _ ha.1 hy
  obtain⟨l,hl',tl⟩:=Q13 S ih cs fl _ tot ys hc.2 hl ha.2 hys
  refine⟨v::l,?_,tv,tl⟩
  simp only[FRs]
  refine⟨_,_,?_,hv,hl'⟩
  rw[hc.1,<- List.drop_drop,List.take_append_drop]
theorem K2a{n fuel sz:Nat}{e:TypeId}(S:St)(ih:∀t cs x,sup P n t=true->DataW.trod enc P w base spare held fuel t cs=some x->∃v,FR S v cs/\Ty P n t v)(he:sup P n e=true)(cs:List Value):
  ∀(c k:Nat) (xs:List (DataW H×List MemPlace)),cs.length=(k+c)*sz->
   ((List.range' k c).mapM fun i=>DataW.trod enc P w base spare held fuel e ((cs.drop (i*sz)).take sz))=some xs->∃l,FRs S l (cs.drop (k*sz))/\l.length=c/\∀x∈l,Ty P n e x
 |0,k,xs,hl,_=>⟨[],by simp[FRs,hl],rfl,by simp⟩
 |c+1,k,xs,hl,hm=>by
  rw[List.range'_succ]at hm
  simp only[List.mapM_cons,Option.pure_def,Option.bind_eq_bind,Option.bind_eq_some_iff]at hm
  obtain⟨y,hy,ys,hys,_⟩:=hm
  obtain⟨v,hv,tv⟩:=ih _ _ _ he hy
  obtain⟨l,hl',hn,tl⟩:=K2a S ih he cs c (k+1) ys (by rw[hl];congr 1;omega) hys
  refine⟨v::l,?_,by simp[hn],by simpa using⟨tv,tl⟩⟩
  simp only[FRs]
  refine⟨_,_,?_,hv,hl'⟩
  rw[Nat.succ_mul,<- List.drop_drop,List.take_append_drop]
theorem read(S:St): ∀(n:Nat) (t:TypeId) (fuel:Nat) (cs:List Value) (x:DataW H×List MemPlace),sup P n t=true->DataW.trod enc P w base spare held fuel t cs=some x->∃v,FR S v cs/\Ty P n t v
 |0,t,_,_,_,hs,_=>by simp[sup]at hs
 |n+1,t,0,_,_,_,h=>by simp[DataW.trod]at h
 |n+1,t,fuel+1,cs,x,hs,h=>by
  have h0:=h
  unfold DataW.trod at h
  simp only[sup]at hs
  cases hu:P.underlying t with
  |none=>rw[hu]at hs;simp at hs
  |some u=>
   rw[hu]at hs h
   cases u with
   |int k=>
    obtain⟨i,rfl,_,hw⟩:=DataW.trod_int hu h0
    exact⟨.sc (.int k i),by simp[FR,plain],by simp only[Ty,hu];exact⟨i,rfl,hw⟩⟩
   |bool=>
    obtain⟨b,rfl,_⟩:=DataW.trod_bool hu h0
    exact⟨.sc (.bool b),by simp[FR,plain],by simp only[Ty,hu];exact⟨b,rfl⟩⟩
   |string=>
    obtain⟨s,rfl,_,hw⟩:=DataW.trod_string hu h0
    exact⟨.sc (.string s),by simp[FR,plain],by simp only[Ty,hu];exact⟨s,rfl,hw⟩⟩
   |float k=>
    simp only at h
    have hc:∃b,cs=[.float k b]/\(Lit.float k b).wf=true:=by
     clear hs h0
     split at h<;>try(rename_i e;cases e;done)
     all_goals first|(cases h;done)|skip
     ·rename_i k1 k2 b e
      split at h
      ·rename_i hk
       cases e
       obtain⟨rfl,hw⟩:=hk
       exact⟨b,rfl,hw⟩
      ·cases h
    obtain⟨b,rfl,hw⟩:=hc
    exact⟨.sc (.float k b),by simp[FR,plain],by simp only[Ty,hu];exact⟨b,rfl,hw⟩⟩
   |struct fs=>
    simp only[Bool.and_eq_true]at hs
    simp only at h
    split at h
    ·rename_i hlen
     simp only[Option.map_eq_some_iff]at h
     obtain⟨xs,hx,_⟩:=h
     obtain⟨l,hl,tl⟩:=Q13 S (fun t cs x=>read S n t fuel cs x) cs fs.toList 0 _ xs hs.1 hlen hs.2 hx
     exact⟨.agg l,by simpa[FR]using hl,by simp only[Ty,hu];exact⟨l,rfl,tl⟩⟩
    ·cases h
   |array c e=>
    simp only[Bool.and_eq_true,beq_iff_eq]at hs
    simp only at h
    split at h
    ·rename_i hlen
     simp only[Option.map_eq_some_iff]at h
     obtain⟨xs,hx,_⟩:=h
     rw[List.range_eq_range']at hx
     obtain⟨l,hl,hn,tl⟩:=K2a S (fun t cs x=>read S n t fuel cs x) hs.2 cs c 0 xs (by rw[hlen,hs.1];simp) hx
     exact⟨.agg l,by simpa[FR]using hl,by simp only[Ty,hu];exact⟨l,rfl,hn,tl⟩⟩
    ·cases h
   |_=>simp at hs
theorem X2e{a:Addr}(ha:a.spot=none)(n:Nat): a.add n=⟨a.block,a.off+n,none⟩:=by
 cases a;simp only at ha;subst ha;unfold Addr.add;split<;>simp_all
theorem lies_cells{a:Addr}(ha:a.spot=none){m:Nat}{cs:List Value}(h:w.cells? base a m=some cs): (S0 w).lies a.block a.off cs/\cs.length=m:=by
 unfold World.cells? at h
 split at h
 ·refine⟨fun j u hu=>?_,by simpa using mapM_some_length h⟩
  have hj:j<cs.length:=by
   rcases Nat.lt_or_ge j cs.length with q|q
   ·exact q
   ·rw[List.getElem?_eq_none q]at hu;cases hu
  have hl:cs.length=m:=by simpa using mapM_some_length h
  have:=mapM_some_get h j j (List.getElem?_range (by omega))
  rw[hu]at this
  simp only[S0]
  rw[<- this]
  rw[X2e ha]
 ·cases h
end Go.Cl
end
section
namespace Go.Cl
open Go.RowKit Go.ChangeShapes Go.WideShapes Go.ChangeAt
def sup2(P:Program): Nat->TypeId->Bool
 |0,_=>false
 |n+1,t=>match P.underlying t with
  |some (.int _)|some .bool|some (.float _)|some .string=>true
  |some (.slice e)=>Nat.blt 0 (P.cellsOf e)&&sup2 P n e
  |some (.struct fs)=>consB P 0 fs.toList (P.cellsOf t)&&fs.toList.all fun f=>sup2 P n f.type
  |some (.array c e)=>(P.cellsOf t==c*P.cellsOf e)&&sup2 P n e
  |_=>false
def Ty2(P:Program): Nat->TypeId->CV->Prop
 |0,_,_=>False
 |n+1,t,v=>match P.underlying t with
  |some (.int k)=>∃i,v=.sc (.int k i)/\(Lit.int k i).wf=true
  |some .bool=>∃b,v=.sc (.bool b)
  |some (.float k)=>∃b,v=.sc (.float k b)/\(Lit.float k b).wf=true
  |some .string=>∃s,v=.sc (.string s)/\s.size<=maxLen
  |some (.slice e)=>∃tl l,v=.lst tl l/\(∀x∈l,Ty2 P n e x)/\(tl=.view\/tl=.nil/\l=[])
  |some (.struct fs)=>∃l,v=.agg l/\All2 (Ty2 P n) (fs.toList.map (·.type)) l
  |some (.array c e)=>∃l,v=.agg l/\l.length=c/\∀x∈l,Ty2 P n e x
  |_=>False
theorem All2.mono{r r':TypeId->CV->Prop}(h:∀t v,r t v->r' t v): ∀ts l,All2 r ts l->All2 r' ts l
 |[],[],_=>trivial
 |_::ts,_::l,⟨a,b⟩=>⟨h _ _ a,All2.mono h ts l b⟩
 |[],_::_,k=>k.elim
 |_::_,[],k=>k.elim
theorem Ty.up{P:Program}: ∀(n:Nat) (t:TypeId) (v:CV),Ty P n t v->Ty2 P n t v
 |0,_,_,h=>h.elim
 |n+1,t,v,h=>by
  simp only[Ty]at h
  simp only[Ty2]
  cases hu:P.underlying t with
  |none=>rw[hu]at h;exact h.elim
  |some u=>
   rw[hu]at h
   cases u with
   |struct fs=>
    obtain⟨l,hl,ha⟩:=h
    exact⟨l,hl,All2.mono (fun t v=>Ty.up n t v) _ _ ha⟩
   |array c e=>
    obtain⟨l,hl,hn,ha⟩:=h
    exact⟨l,hl,hn,fun x hx=>Ty.up n _ x (ha x hx)⟩
   |int k=>exact h
   |bool=>exact h
   |float k=>exact h
   |string=>exact h
   |_=>exact h.elim
variable {H:Type} {enc:TypeId×Value->H} {P:Program} {w:World} {base:Nat} {spare:Nat->Bool} {held:Bool}
theorem X10{α β:Type}{f:α->Option β}{x:α}{l:List α}{ys:List β}(h:(x::l).mapM f=some ys): ∃y,f x=some y:=by
 simp only[List.mapM_cons,Option.pure_def,Option.bind_eq_bind,Option.bind_eq_some_iff]at h
 obtain⟨y,hy,_⟩:=h
 exact⟨y,hy⟩
theorem spot_of{a:Addr}{m k:Nat}{cs:List Value}(hm:0<m)(h:w.cells? base (a.add k) m=some cs)(hk:k=0): a.spot=none:=by
 subst hk
 obtain⟨m,rfl⟩:∃j,m=j+1:=⟨m-1,by omega⟩
 unfold World.cells? at h
 split at h
 ·rw[List.range_eq_range',List.range'_succ]at h
  obtain⟨y,hy⟩:=X10 h
  simp only[Addr.add,if_true,World.cell?]at hy
  split at hy
  ·split at hy
   ·cases hy
   ·rename_i q;cases hs:a.spot<;>simp_all
  ·cases hy
 ·cases h
theorem Y1r{n fuel sz:Nat}{e:TypeId}{a:Addr}(ih:∀cs x,DataW.trod enc P w base spare held fuel e cs=some x->∃v,FR (S0 w) v cs/\Ty2 P n e v)(hsz:P.cellsOf e=sz)(ha:a.spot=none):
  ∀(c k:Nat) (xs:List (DataW H×List MemPlace)),
   ((List.range' k c).mapM fun i=>(w.cells? base (a.add (i*sz)) sz).bind (DataW.trod enc P w base spare held fuel e))=some xs->
    ∃l es,FRs (S0 w) l es/\l.length=c/\(∀x∈l,Ty2 P n e x)/\(S0 w).lies a.block (a.off+k*sz) es/\es.length=c*sz/\∀x∈l,x.size=sz
 |0,k,xs,_=>⟨[],[],by simp[FRs],rfl,by simp,fun j u hu=>by simp at hu,by simp,by simp⟩
 |c+1,k,xs,hm=>by
  rw[List.range'_succ]at hm
  simp only[List.mapM_cons,Option.pure_def,Option.bind_eq_bind,Option.bind_eq_some_iff]at hm
  obtain⟨y,⟨cs,hcs,hy⟩,ys,hys,_⟩:=hm
  obtain⟨v,hv,tv⟩:=ih cs y hy
  obtain⟨l,es,h1,h2,h3,h4,h5,h6⟩:=Y1r ih hsz ha c (k+1) ys hys
  obtain⟨hl,hn⟩:=lies_cells (a:=a.add (k*sz)) (by rw[X2e ha]) hcs
  rw[X2e ha]at hl
  refine⟨v::l,cs++es,by simp only[FRs];exact⟨_,_,rfl,hv,h1⟩,by simp[h2],by simpa using⟨tv,h3⟩,fun j u hu=>?_,by simp[hn,h5,Nat.succ_mul];omega,?_⟩
  ·rw[List.getElem?_append]at hu
   split at hu
   ·have:=hl j u hu
    simpa[Nat.add_assoc]using this
   ·rename_i hj
    have:=h4 _ u hu
    rw[hn]at this hj
    rw[<- this]
    congr 1
    rw[Nat.succ_mul];omega
  ·intro x hx
   rcases List.mem_cons.1 hx with rfl|hx
   ·rw[<- FR.length _ _ hv,hn]
   ·exact h6 x hx
theorem V1j{n fuel:Nat}(S:St)(ih:∀t cs x,sup2 P n t=true->DataW.trod enc P w base spare held fuel t cs=some x->∃v,FR S v cs/\Ty2 P n t v)(cs:List Value):
  ∀(fl:List Field) (off tot:Nat) (xs:List (DataW H×List MemPlace)),consB P off fl tot=true->cs.length=tot->(fl.all fun f=>sup2 P n f.type)=true->
   (fl.mapM fun f=>DataW.trod enc P w base spare held fuel f.type ((cs.drop f.offset).take (P.cellsOf f.type)))=some xs->∃l,FRs S l (cs.drop off)/\All2 (Ty2 P n) (fl.map (·.type)) l
 |[],off,tot,xs,hc,hl,_,_=>by
  simp only[consB,beq_iff_eq]at hc
  subst hc
  exact⟨[],by simp[FRs,hl],trivial⟩
 |f::fl,off,tot,xs,hc,hl,ha,hm=>by
  simp only[consB,Bool.and_eq_true,beq_iff_eq]at hc
  simp only[List.all_cons,Bool.and_eq_true]at ha
  simp only[List.mapM_cons,Option.pure_def,Option.bind_eq_bind,Option.bind_eq_some_iff]at hm
  obtain⟨y,hy,ys,hys,_⟩:=hm
  obtain⟨v,hv,tv⟩:=ih _ _ _ ha.1 hy
  obtain⟨l,hl',tl⟩:=V1j S ih cs fl _ tot ys hc.2 hl ha.2 hys
  refine⟨v::l,?_,tv,tl⟩
  simp only[FRs]
  refine⟨_,_,?_,hv,hl'⟩
  rw[hc.1,<- List.drop_drop,List.take_append_drop]
theorem V1r{n fuel sz:Nat}{e:TypeId}(S:St)(ih:∀t cs x,sup2 P n t=true->DataW.trod enc P w base spare held fuel t cs=some x->∃v,FR S v cs/\Ty2 P n t v)(he:sup2 P n e=true)(cs:List Value):
  ∀(c k:Nat) (xs:List (DataW H×List MemPlace)),cs.length=(k+c)*sz->
   ((List.range' k c).mapM fun i=>DataW.trod enc P w base spare held fuel e ((cs.drop (i*sz)).take sz))=some xs->∃l,FRs S l (cs.drop (k*sz))/\l.length=c/\∀x∈l,Ty2 P n e x
 |0,k,xs,hl,_=>⟨[],by simp[FRs,hl],rfl,by simp⟩
 |c+1,k,xs,hl,hm=>by
  rw[List.range'_succ]at hm
  simp only[List.mapM_cons,Option.pure_def,Option.bind_eq_bind,Option.bind_eq_some_iff]at hm
  obtain⟨y,hy,ys,hys,_⟩:=hm
  obtain⟨v,hv,tv⟩:=ih _ _ _ he hy
  obtain⟨l,hl',hn,tl⟩:=V1r S ih he cs c (k+1) ys (by rw[hl];congr 1;omega) hys
  refine⟨v::l,?_,by simp[hn],by simpa using⟨tv,tl⟩⟩
  simp only[FRs]
  refine⟨_,_,?_,hv,hl'⟩
  rw[Nat.succ_mul,<- List.drop_drop,List.take_append_drop]
theorem read2: ∀(n:Nat) (t:TypeId) (fuel:Nat) (cs:List Value) (x:DataW H×List MemPlace),sup2 P n t=true->DataW.trod enc P w base (fun _=>true) held fuel t cs=some x->∃v,FR (S0 w) v cs/\Ty2 P n t v
 |0,t,_,_,_,hs,_=>by simp[sup2]at hs
 |n+1,t,0,_,_,_,h=>by simp[DataW.trod]at h
 |n+1,t,fuel+1,cs,x,hs,h=>by
  have h0:=h
  simp only[sup2]at hs
  cases hu:P.underlying t with
  |none=>rw[hu]at hs;simp at hs
  |some u=>
   rw[hu]at hs
   cases u with
   |int k=>
    obtain⟨v,h1,h2⟩:=read (S0 w) (n+1) t (fuel+1) cs x (by simp only[sup,hu]) h0
    exact⟨v,h1,Ty.up _ _ _ h2⟩
   |bool=>
    obtain⟨v,h1,h2⟩:=read (S0 w) (n+1) t (fuel+1) cs x (by simp only[sup,hu]) h0
    exact⟨v,h1,Ty.up _ _ _ h2⟩
   |string=>
    obtain⟨v,h1,h2⟩:=read (S0 w) (n+1) t (fuel+1) cs x (by simp only[sup,hu]) h0
    exact⟨v,h1,Ty.up _ _ _ h2⟩
   |float k=>
    obtain⟨v,h1,h2⟩:=read (S0 w) (n+1) t (fuel+1) cs x (by simp only[sup,hu]) h0
    exact⟨v,h1,Ty.up _ _ _ h2⟩
   |slice e=>
    simp only[Bool.and_eq_true,Nat.blt_eq]at hs
    obtain⟨hpos,hs⟩:=hs
    simp only[DataW.trod,hu]at h
    split at h<;>try(rename_i e1 _;cases e1;done)
    all_goals try(cases h;done)
    all_goals try(rename_i e1;cases e1;done)
    ·exact⟨.lst .nil [],by simp[FR,Tail.may],by simp only[Ty2,hu];exact⟨.nil,[],rfl,by simp,.inr ⟨rfl,rfl⟩⟩⟩
    ·rename_i e' a len cap e1
     cases e1
     split at h
     ·rename_i hc
      obtain⟨_,hlc,_⟩:=hc
      rw[Option.bind_eq_some_iff]at h
      obtain⟨xs,hx,hr⟩:=h
      simp only[if_true,Option.map_eq_some_iff]at hr
      obtain⟨rs,hr,_⟩:=hr
      by_cases h0:cap=0
      ·subst h0
       obtain rfl:len=0:=by omega
       exact⟨.lst .view [],by simp[FR,Tail.may],by simp only[Ty2,hu];exact⟨.view,[],rfl,by simp,.inl rfl⟩⟩
      have ha:a.spot=none:=by
       rcases Nat.eq_zero_or_pos len with h1|h1
       ·subst h1
        obtain⟨c,hc⟩:∃c,cap-0=c+1:=⟨cap-1,by omega⟩
        rw[hc,List.range_eq_range',List.range'_succ]at hr
        obtain⟨y,hy⟩:=X10 hr
        simp only[Option.bind_eq_some_iff]at hy
        obtain⟨cs',hcs,_⟩:=hy
        exact spot_of hpos hcs (by simp)
       ·obtain⟨c,hc⟩:∃c,len=c+1:=⟨len-1,by omega⟩
        rw[hc,List.range_eq_range',List.range'_succ]at hx
        obtain⟨y,hy⟩:=X10 hx
        simp only[Option.bind_eq_some_iff]at hy
        obtain⟨cs',hcs,_⟩:=hy
        exact spot_of hpos hcs (by simp)
      rw[List.range_eq_range']at hx
      obtain⟨l,es,h1,h2,h3,h4,h5,h6⟩:=Y1r (fun cs x=>read2 n e fuel cs x hs) rfl ha len 0 xs hx
      subst h2
      refine⟨.lst .view l,?_,by simp only[Ty2,hu];exact⟨.view,l,rfl,h3,.inl rfl⟩⟩
      simp only[FR]
      refine .inr ⟨a.block,a.off,cap,P.cellsOf e,es,?_,hlc,h1,by simpa using h4,h6,trivial⟩
      cases a;simp only at ha;subst ha;rfl
     ·cases h
   |struct fs=>
    simp only[Bool.and_eq_true]at hs
    unfold DataW.trod at h
    rw[hu]at h
    simp only at h
    split at h
    ·rename_i hlen
     simp only[Option.map_eq_some_iff]at h
     obtain⟨xs,hx,_⟩:=h
     obtain⟨l,hl,tl⟩:=V1j (S0 w) (fun t cs x=>read2 n t fuel cs x) cs fs.toList 0 _ xs hs.1 hlen hs.2 hx
     exact⟨.agg l,by simpa[FR]using hl,by simp only[Ty2,hu];exact⟨l,rfl,tl⟩⟩
    ·cases h
   |array c e=>
    simp only[Bool.and_eq_true,beq_iff_eq]at hs
    unfold DataW.trod at h
    rw[hu]at h
    simp only at h
    split at h
    ·rename_i hlen
     simp only[Option.map_eq_some_iff]at h
     obtain⟨xs,hx,_⟩:=h
     rw[List.range_eq_range']at hx
     obtain⟨l,hl,hn,tl⟩:=V1r (S0 w) (fun t cs x=>read2 n t fuel cs x) hs.2 cs c 0 xs (by rw[hlen,hs.1];simp) hx
     exact⟨.agg l,by simpa[FR]using hl,by simp only[Ty2,hu];exact⟨l,rfl,hn,tl⟩⟩
    ·cases h
   |_=>simp at hs
theorem V1f{n:Nat}{t:TypeId}{v:Value}{d:DataW H}{ps:List MemPlace}{r:Reach}{b0:Nat}(hs:sup2 P n t=true)(hv:Value.okWide P w r b0 t v)(h:DataW.Trod enc P w base (fun _=>true) held t v d ps): ∃c,VR (S0 w) c v/\Ty2 P n t c:=by
 obtain⟨fuel,hf⟩:=h
 obtain⟨c,hc,ht⟩:=read2 n t fuel _ _ hs hf
 refine⟨c,⟨hc,?_⟩,ht⟩
 cases n with
 |zero=>simp[sup2]at hs
 |succ n=>
  simp only[sup2]at hs
  simp only[Ty2]at ht
  unfold Value.okWide at hv
  cases hu:P.underlying t with
  |none=>rw[hu]at hs;simp at hs
  |some u=>
   rw[hu]at hs ht hv
   cases u with
   |int k=>obtain⟨i,rfl,_⟩:=ht;simp only[Cell.okWide,Cell.ok,hu]at hv;cases v<;>simp_all[CV.isAgg]
   |bool=>obtain⟨i,rfl⟩:=ht;simp only[Cell.okWide,Cell.ok,hu]at hv;cases v<;>simp_all[CV.isAgg]
   |float k=>obtain⟨i,rfl,_⟩:=ht;simp only[Cell.okWide,Cell.ok,hu]at hv;cases v<;>simp_all[CV.isAgg]
   |string=>obtain⟨i,rfl,_⟩:=ht;simp only[Cell.okWide,Cell.ok,hu]at hv;cases v<;>simp_all[CV.isAgg]
   |slice e=>obtain⟨tl,l,rfl,_⟩:=ht;simp only[Cell.okWide,Cell.ok,hu]at hv;cases v<;>simp_all[CV.isAgg]
   |struct fs=>obtain⟨l,rfl,_⟩:=ht;obtain⟨cs,rfl,_⟩:=hv;simp[CV.isAgg]
   |array c e=>obtain⟨l,rfl,_⟩:=ht;obtain⟨cs,rfl,_⟩:=hv;simp[CV.isAgg]
   |_=>simp at hs
end Go.Cl
end
section
namespace Go.Proofs.Ytpchcfkebljopaa
open Go.Cl Go Go.ChangeShapes Go.WideShapes Go.ChangeAt Go.RowKit
set_option maxRecDepth 100000
set_option linter.constructorNameAsVariable false
theorem X0j{r:TypeId->CV->Prop}{t:TypeId}{ts:List TypeId}{l:List CV}(h:All2 r (t::ts) l): ∃v l',l=v::l'/\r t v/\All2 r ts l':=by
 cases l with
 |nil=>exact h.elim
 |cons v l'=>exact⟨v,l',rfl,h⟩
theorem all2_nil{r:TypeId->CV->Prop}{l:List CV}(h:All2 r [] l): l=[]:=by
 cases l with
 |nil=>rfl
 |cons v l'=>exact h.elim
theorem of_list{α:Type}{f:α->CV}: ∀{l:List CV},(∀x∈l,∃y,x=f y)->∃ys:List α,l=ys.map f
 |[],_=>⟨[],rfl⟩
 |v::l,h=>by
  obtain⟨x,rfl⟩:=h v (.head _)
  obtain⟨xs,rfl⟩:=of_list (l:=l) (fun y hy=>h y (.tail _ hy))
  exact⟨x::xs,rfl⟩
theorem K2i{α:Type}{f:α->CV}{P:Program}{n:Nat}{t e:TypeId}{v:CV}(hu:P.underlying t=some (.slice e))(he:∀x,Ty2 P n e x->∃y:α,x=f y)(h:Ty2 P (n+1) t v): ∃s:Lst α,v=s.cv f/\(s.tl=.view\/s.tl=.nil):=by
 simp only[Ty2,hu]at h
 obtain⟨tl,l,rfl,hl,ht⟩:=h
 obtain⟨ys,rfl⟩:=of_list (fun x hx=>he x (hl x hx))
 rcases ht with rfl|⟨rfl,h0⟩
 ·exact⟨⟨.view,ys,nofun⟩,rfl,.inl rfl⟩
 ·exact⟨⟨.nil,ys,fun _=>by simpa using h0⟩,rfl,.inr rfl⟩
def inI(i:Int): Prop:=-9223372036854775808<=i/\i<=9223372036854775807
theorem of_int{P:Program}{n:Nat}{t:TypeId}{v:CV}(hu:P.underlying t=some (.int .i64))(h:Ty2 P (n+1) t v): ∃i,v=I i/\inI i:=by
 simp only[Ty2,hu]at h
 obtain⟨i,rfl,hw⟩:=h
 simp only[Lit.wf,Bool.and_eq_true,decide_eq_true_eq]at hw
 exact⟨i,rfl,hw⟩
theorem of_u64{P:Program}{n:Nat}{t:TypeId}{v:CV}(hu:P.underlying t=some (.int .u64))(h:Ty2 P (n+1) t v): ∃i,v=U i/\0<=i/\i<=18446744073709551615:=by
 simp only[Ty2,hu]at h
 obtain⟨i,rfl,hw⟩:=h
 simp only[Lit.wf,Bool.and_eq_true,decide_eq_true_eq]at hw
 exact⟨i,rfl,hw⟩
theorem of_struct{P:Program}{n:Nat}{t:TypeId}{v:CV}{fs:Array Field}(hu:P.underlying t=some (.struct fs))(h:Ty2 P (n+1) t v): ∃l,v=.agg l/\All2 (Ty2 P n) (fs.toList.map (·.type)) l:=by
 simp only[Ty2,hu]at h
 exact h
theorem a3{n:Nat}{v:CV}(h:Ty2 Try.prog (n+1) 3 v): ∃i,v=I i/\inI i:=of_int Try.underlying3 h
theorem a25{n:Nat}{v:CV}(h:Ty2 Try.prog (n+1) 25 v): ∃i,v=U i/\0<=i/\i<=18446744073709551615:=of_u64 Try.underlying25 h
theorem a24{n:Nat}{v:CV}(h:Ty2 Try.prog (n+2) 24 v): ∃s:Lst Int,v=s.cv I/\(s.tl=.view\/s.tl=.nil):=K2i Try.underlying24 (fun _ h=>let⟨i,e,_⟩:=a3 h;⟨i,e⟩) h
end Go.Proofs.Ytpchcfkebljopaa
end
section
namespace Go.Proofs.Ytpchcfkebljopaa
open Go.Cl Go Go.ChangeShapes Go.WideShapes Go.ChangeAt Go.RowKit
theorem Try.own: ownKnob Try.prog.godebug=none:=by kernel_rfl
theorem Try.laidOut: laidOutB Try.prog=true:=by kernel_rfl
theorem con_true{f:FuncId}{R:Rel}(h:Con C f R){args:List CV}{vals:List Value}{w:World}(hR:R args ⟨0,.e⟩ (.ret (Bo true) ⟨0,.e⟩))(hV:VRs (S0 w) args vals):
  Calls C.P f vals.toArray w fun e w'=>e=.returned (.bool true)/\Below w.heap.size w w':=by
 have r0:XRel w w.heap.size (S0 w) ⟨0,.e⟩ w:=⟨R_init w,rfl,fun i sh v h=>by simp[Cl.T.get_e]at h⟩
 have hc:=(h.ok _ _ _ hR).2.2 w w.heap.size (S0 w) w vals r0 hV
 refine Calls.mono hc ?_
 rintro e w' ⟨S',x,_,r,hx,rfl⟩
 exact⟨by rw[(VR_sc.1 hx).1],r.r.below⟩
end Go.Proofs.Ytpchcfkebljopaa
end
section
namespace Go.Proofs.Ytpchcfkebljopaa
open Go.Cl Go Go.RowKit
set_option maxRecDepth 100000
def zn107_1:=ZC.reg [zv 4 (.assign (.const (.slice none 0 0)))]
def zn107_3:=ZC.reg [zu 6 (zmv 0),zu 7 (zmv 1),zu 8 (zcf 163 [Tm 6,Tm 7] [3,68]),zv 5 (zas 8)]
def zn107_5:=ZC.reg [zu 9 (zmv 1),zu 10 (zcf 159 [Tm 9] [68]),zu 11 (zmv 5),zu 12 (.binOp .shr 3 (Tm 11) (.const (.int .u64 24)) 178),zu 13 (.convert 3 5 (Tm 12)),zu 14 (zmv 5),zu 15 (.binOp .shr 3 (Tm 14) (.const (.int .u64 16)) 178),zu 16 (.convert 3 5 (Tm 15)),zu 17 (zmv 5),zu 18 (.binOp .shr 3 (Tm 17) (.const (.int .u64 8)) 178),zu 19 (.convert 3 5 (Tm 18)),zu 20 (zmv 5),zu 21 (.convert 3 5 (Tm 20)),⟨some 22,.buildSlice 68 4 ⟨[(0,.tmp 13),(1,.tmp 16),(2,.tmp 19),(3,.tmp 21)]⟩,none,false⟩,zu 23 (zcb .append [Tm 10,Tm 22] [68,68]),zv 4 (zas 23)]
def zn107_0:=ZC.seq zn107_1 (ZC.seq zn107_3 (ZC.seq zn107_5 ZC.ret))
def zc107: ZC:=zn107_0
theorem zc107_ok: zcode (xfOf Try.f107).code=some zc107:=by kernel_rfl
def zw107:=zU C zc107.eq_1<|zU C zn107_1.eq_1<|zU C zn107_3.eq_1<|zU C zn107_5.eq_1<|(zunf C zn107_0.eq_1)
theorem rs107: (xfOf Try.f107).rs=[.tmp 4]:=by kernel_rfl
def xf107:=zF C 107 Try.f107
def zn109_1:=ZC.reg [zu 4 (.assign (.const (.slice none 0 0))),zv 5 (.assign (.const (.bool false)))]
def zn109_4:=ZC.reg [zu 7 (zmv 1),zu 8 (zcb .len [Tm 7] [68]),zv 9 (.binOp .lss 3 (Tm 8) (Kn 4) 3)]
def zn109_7:=ZC.reg [zu 4 (.assign (.const (.slice none 0 0))),zv 5 (.assign (.const (.bool false)))]
def zn109_9:=ZC.reg [zu 10 (zmv 1),zu 11 (zmv 1),zu 12 (zcb .len [Tm 11] [68]),zu 13 (.binOp .sub 3 (Tm 12) (Kn 4) 3),zu 14 (.slice 68 (Tm 10) none (some (Tm 13)) none),zv 6 (zas 14)]
def zn109_12:=ZC.reg [zu 15 (zmv 0),zu 16 (zmv 6),zu 17 (zcf 107 [Tm 15,Tm 16] [3,68]),zu 18 (zmv 1),zu 19 (zcf 96 [Tm 17,Tm 18] [68,68]),zv 20 (.unOp .not 4 (Tm 19))]
def zn109_15:=ZC.reg [zu 4 (.assign (.const (.slice none 0 0))),zv 5 (.assign (.const (.bool false)))]
def zn109_17:=ZC.reg [zu 21 (zmv 6),zu 22 (zcf 159 [Tm 21] [68]),zu 4 (zas 22),zv 5 (.assign (.const (.bool true)))]
def zn109_0:=ZC.seq zn109_1 (ZC.seq (ZC.seq zn109_4 (ZC.cond (Tm 9) (ZC.seq zn109_7 ZC.ret) ZC.skip)) (ZC.seq zn109_9 (ZC.seq (ZC.seq zn109_12 (ZC.cond (Tm 20) (ZC.seq zn109_15 ZC.ret) ZC.skip)) (ZC.seq zn109_17 ZC.ret))))
def zc109: ZC:=zn109_0
theorem zc109_ok: zcode (xfOf Try.f109).code=some zc109:=by kernel_rfl
def zw109:=zU C zc109.eq_1<|zU C zn109_1.eq_1<|zU C zn109_4.eq_1<|zU C zn109_7.eq_1<|zU C zn109_9.eq_1<|zU C zn109_12.eq_1<|zU C zn109_15.eq_1<|zU C zn109_17.eq_1<|(zunf C zn109_0.eq_1)
theorem rs109: (xfOf Try.f109).rs=[.tmp 4,.tmp 5]:=by kernel_rfl
def xf109:=zF C 109 Try.f109
def zn53_1:=ZC.reg [zv 4 (.assign (.const (.slice none 0 0)))]
def zn53_3:=ZC.reg [⟨some 5,.buildSlice 68 0 ⟨[]⟩,none,false⟩,zu 6 (zmv 1),zu 7 (zcb .append [Tm 5,Tm 6] [68,68]),zu 8 (zmv 0),zu 9 (zmv 1),zu 10 (zcf 128 [Tm 8,Tm 9] [3,68]),zu 11 (zcf 127 [Tm 10] [3]),zu 12 (zcb .append [Tm 7,Tm 11] [68,68]),zv 4 (zas 12)]
def zn53_0:=ZC.seq zn53_1 (ZC.seq zn53_3 ZC.ret)
def zc53: ZC:=zn53_0
theorem zc53_ok: zcode (xfOf Try.f53).code=some zc53:=by kernel_rfl
def zw53:=zU C zc53.eq_1<|zU C zn53_1.eq_1<|zU C zn53_3.eq_1<|(zunf C zn53_0.eq_1)
theorem rs53: (xfOf Try.f53).rs=[.tmp 4]:=by kernel_rfl
def xf53:=zF C 53 Try.f53
def zn127_1:=ZC.reg [zv 2 (.assign (.const (.slice none 0 0)))]
def zn127_3:=ZC.reg [zu 3 (zmv 0),zu 4 (.binOp .shr 3 (Tm 3) (.const (.int .u64 24)) 178),zu 5 (.convert 3 5 (Tm 4)),zu 6 (zmv 0),zu 7 (.binOp .shr 3 (Tm 6) (.const (.int .u64 16)) 178),zu 8 (.convert 3 5 (Tm 7)),zu 9 (zmv 0),zu 10 (.binOp .shr 3 (Tm 9) (.const (.int .u64 8)) 178),zu 11 (.convert 3 5 (Tm 10)),zu 12 (zmv 0),zu 13 (.convert 3 5 (Tm 12)),⟨some 14,.buildSlice 68 4 ⟨[(0,.tmp 5),(1,.tmp 8),(2,.tmp 11),(3,.tmp 13)]⟩,none,false⟩,zv 2 (zas 14)]
def zn127_0:=ZC.seq zn127_1 (ZC.seq zn127_3 ZC.ret)
def zc127: ZC:=zn127_0
theorem zc127_ok: zcode (xfOf Try.f127).code=some zc127:=by kernel_rfl
def zw127:=zU C zc127.eq_1<|zU C zn127_1.eq_1<|zU C zn127_3.eq_1<|(zunf C zn127_0.eq_1)
theorem rs127: (xfOf Try.f127).rs=[.tmp 2]:=by kernel_rfl
def xf127:=zF C 127 Try.f127
def zn129_1:=ZC.reg [zu 4 (.assign (.const (.slice none 0 0))),zv 5 (.assign (.const (.bool false)))]
def zn129_3:=ZC.reg [zu 7 (zmv 1),zu 8 (zcb .len [Tm 7] [68]),zu 9 (.binOp .sub 3 (Tm 8) (Kn 4) 3),zv 6 (zas 9)]
def zn129_6:=ZC.draw 13 [] [zdd 0 10 (zmv 6) true [] [] false,zdd 1 11 (.binOp .lss 3 (Tm 10) (Kn 0) 3) true [] [] false,zdd 2 12 (zmv 11) true [] [] false,⟨3,some 13,zmv 0,some (12,false),false,[],[],false⟩,⟨4,some 14,zmv 1,some (12,false),false,[],[],false⟩,⟨5,some 15,zmv 6,some (12,false),false,[],[],false⟩,⟨6,some 16,.slice 68 (Tm 14) none (some (Tm 15)) none,some (12,false),false,[],[],false⟩,⟨7,some 17,zcf 53 [Tm 13,Tm 16] [3,68],some (12,false),false,[],[],true⟩,⟨8,some 18,.convert 68 9 (Tm 17),some (12,false),false,[],[],false⟩,⟨9,some 19,zmv 1,some (12,false),true,[],[],false⟩,⟨10,some 20,.convert 68 9 (Tm 19),some (12,false),true,[7],[],false⟩,⟨11,some 21,.binOp .neq 9 (Tm 18) (Tm 20) 9,some (12,false),true,[],[],false⟩,zdd 12 22 (.pick (Tm 12) (.const (.bool true)) (Tm 21)) true [] [] false]
def zn129_9:=ZC.reg [zu 4 (.assign (.const (.slice none 0 0))),zv 5 (.assign (.const (.bool false)))]
def zn129_11:=ZC.reg [⟨some 23,.buildSlice 68 0 ⟨[]⟩,none,false⟩,zu 24 (zmv 1),zu 25 (zmv 6),zu 26 (.slice 68 (Tm 24) none (some (Tm 25)) none),zu 27 (zcb .append [Tm 23,Tm 26] [68,68]),zu 4 (zas 27),zv 5 (.assign (.const (.bool true)))]
def zn129_0:=ZC.seq zn129_1 (ZC.seq zn129_3 (ZC.seq (ZC.seq zn129_6 (ZC.cond (Tm 22) (ZC.seq zn129_9 ZC.ret) ZC.skip)) (ZC.seq zn129_11 ZC.ret)))
def zc129: ZC:=zn129_0
theorem zc129_ok: zcode (xfOf Try.f129).code=some zc129:=by kernel_rfl
def zw129:=zU C zc129.eq_1<|zU C zn129_1.eq_1<|zU C zn129_3.eq_1<|zU C zn129_6.eq_1<|zU C zn129_9.eq_1<|zU C zn129_11.eq_1<|(zunf C zn129_0.eq_1)
theorem rs129: (xfOf Try.f129).rs=[.tmp 4,.tmp 5]:=by kernel_rfl
def xf129:=zF C 129 Try.f129
def zn164_1:=ZC.reg [zv 4 (zmv 1)]
def zn164_3:=ZC.reg [zu 5 (zmv 0),zv 6 (zcf 89 [Tm 5,.const (.int .u64 1),Kn 1] [143,25,3])]
def zn164_4:=ZC.reg [zu 7 (zmv 0),zv 8 (zcf 89 [Tm 7,.const (.int .u64 0),Kn 1] [143,25,3])]
def zn164_0:=ZC.seq zn164_1 (ZC.cond (Tm 4) zn164_3 zn164_4)
def zc164: ZC:=zn164_0
theorem zc164_ok: zcode (xfOf Try.f164).code=some zc164:=by kernel_rfl
def zw164:=zU C zc164.eq_1<|zU C zn164_1.eq_1<|zU C zn164_3.eq_1<|zU C zn164_4.eq_1<|(zunf C zn164_0.eq_1)
theorem rs164: (xfOf Try.f164).rs=[]:=by kernel_rfl
def xf164:=zF C 164 Try.f164
def zn165_1:=ZC.reg [zv 3 (.box 36 (Tm 1))]
def zn165_3:=ZC.reg [zu 4 (zmv 0),zu 5 (zfa 36 3 0),zu 6 (zld 3 5),zu 7 (.convert 3 25 (Tm 6)),zv 8 (zcf 89 [Tm 4,Tm 7,Kn 8] [143,25,3])]
def zn165_5:=ZC.reg [zu 9 (zmv 0),zu 10 (zfa 36 3 1),zu 11 (zld 3 10),zv 12 (zcf 158 [Tm 9,Tm 11,Kn 8] [143,3,3])]
def zn165_6:=ZC.reg [zu 13 (zmv 0),zu 14 (zfa 36 3 2),zu 15 (zld 3 14),zv 16 (zcf 158 [Tm 13,Tm 15,Kn 8] [143,3,3])]
def zn165_0:=ZC.seq zn165_1 (ZC.seq zn165_3 (ZC.seq zn165_5 zn165_6))
def zc165: ZC:=zn165_0
theorem zc165_ok: zcode (xfOf Try.f165).code=some zc165:=by kernel_rfl
def zw165:=zU C zc165.eq_1<|zU C zn165_1.eq_1<|zU C zn165_3.eq_1<|zU C zn165_5.eq_1<|zU C zn165_6.eq_1<|(zunf C zn165_0.eq_1)
theorem rs165: (xfOf Try.f165).rs=[]:=by kernel_rfl
def xf165:=zF C 165 Try.f165
def zn166_1:=ZC.reg [zv 3 (.box 94 (Tm 1))]
def zn166_3:=ZC.reg [zu 6 (zmv 0),zu 7 (zfa 94 3 7),zu 8 (zld 3 7),zu 9 (.convert 3 25 (Tm 8)),zv 10 (zcf 89 [Tm 6,Tm 9,Kn 10] [143,25,3])]
def zn166_5:=ZC.reg [zu 11 (zmv 0),zu 12 (zfa 94 3 9),zu 13 (zld 3 12),zu 14 (.convert 3 25 (Tm 13)),zv 15 (zcf 89 [Tm 11,Tm 14,Kn 4] [143,25,3])]
def zn166_7:=ZC.reg [zu 16 (zmv 0),zu 17 (zfa 94 3 10),zu 18 (zld 92 17),zu 19 (zcb .len [Tm 18] [92]),zu 20 (.convert 3 25 (Tm 19)),zv 21 (zcf 89 [Tm 16,Tm 20,Kn 4] [143,25,3])]
def zn166_9:=ZC.reg [zu 22 (zfa 94 3 10),zu 23 (zld 92 22),zu 24 (zcf 191 [Tm 23] [92]),zu 25 (zcb .len [Tm 24] [108]),zv 26 (.move (Kn 0))]
def zn166_13:=ZC.reg [zv 27 (.binOp .lss 3 (Tm 26) (Tm 25) 3)]
def zn166_19:=ZC.reg [zu 28 (zia 108 24 26),zu 29 (zld 110 28),zu 5 (.alloc 110),zv0 (.store 110 (Tm 5) (Tm 29))]
def zn166_21:=ZC.reg [zu 30 (zmv 0),zu 31 (zfa 110 5 0),zu 32 (zld 4 31),zv 33 (zcf 164 [Tm 30,Tm 32] [143,4])]
def zn166_23:=ZC.reg [zu 34 (zfa 110 5 0),zv 35 (zld 4 34)]
def zn166_25:=ZC.reg [zu 36 (zmv 0),zu 37 (zfa 110 5 1),zu 38 (zld 36 37),zv 39 (zcf 165 [Tm 36,Tm 38] [143,36])]
def zn166_26:=ZC.reg [zu 40 (.binOp .add 3 (Tm 26) (Kn 1) 3),zv 26 (zmv 40)]
def V1l:=ZC.seq zn166_13 (ZC.seq (ZC.cond (Tm 27) ZC.skip (ZC.exit 0)) (ZC.seq (ZC.block 1 (ZC.seq zn166_19 (ZC.seq zn166_21 (ZC.seq zn166_23 (ZC.cond (Tm 35) zn166_25 ZC.skip))))) zn166_26))
def zn166_0:=ZC.seq zn166_1 (ZC.seq zn166_3 (ZC.seq zn166_5 (ZC.seq zn166_7 (ZC.seq zn166_9 (ZC.block 0 (ZC.loop V1l))))))
def zc166: ZC:=zn166_0
theorem zc166_ok: zcode (xfOf Try.f166).code=some zc166:=by kernel_rfl
def zw166:=zU C zc166.eq_1<|zU C zn166_1.eq_1<|zU C zn166_3.eq_1<|zU C zn166_5.eq_1<|zU C zn166_7.eq_1<|zU C zn166_9.eq_1<|zU C zn166_13.eq_1<|zU C zn166_19.eq_1<|zU C zn166_21.eq_1<|zU C zn166_23.eq_1<|zU C zn166_25.eq_1<|zU C zn166_26.eq_1<|zU C V1l.eq_1<|(zunf C zn166_0.eq_1)
theorem rs166: (xfOf Try.f166).rs=[]:=by kernel_rfl
def xf166:=zF C 166 Try.f166
def zn191_1:=ZC.reg [zv 2 (.assign (.const (.slice none 0 0)))]
def zn191_3:=ZC.reg [zv 3 (.assign (Kn 0))]
def zn191_6:=ZC.reg [zu 9 (zmv 0),zu 10 (zcb .len [Tm 9] [92]),zv 11 (.move (Kn 0))]
def zn191_10:=ZC.reg [zv 12 (.binOp .lss 3 (Tm 11) (Tm 10) 3)]
def zn191_16:=ZC.reg [zu 13 (zia 92 9 11),zu 14 (zld 108 13),zv 5 (zas 14)]
def zn191_18:=ZC.reg [zu 15 (zmv 3),zu 16 (zmv 5),zu 17 (zcb .len [Tm 16] [108]),zu 18 (.binOp .add 3 (Tm 15) (Tm 17) 3),zv 3 (zas 18)]
def zn191_20:=ZC.reg [zu 19 (zmv 3),zv 20 (.binOp .lss 3 (Tm 19) (Kn 0) 3)]
def zn191_22:=ZC.reg [⟨some 21,.makeInterface 9 (.const (.string ⟨#[108,101,110,32,111,117,116,32,111,102,32,114,97,110,103,101]⟩)),none,false⟩,zv0 (.panic (Tm 21))]
def zn191_23:=ZC.reg [zu 22 (.binOp .add 3 (Tm 11) (Kn 1) 3),zv 11 (zmv 22)]
def V1e:=ZC.seq zn191_10 (ZC.seq (ZC.cond (Tm 12) ZC.skip (ZC.exit 0)) (ZC.seq (ZC.block 1 (ZC.seq zn191_16 (ZC.seq zn191_18 (ZC.seq zn191_20 (ZC.cond (Tm 20) zn191_22 ZC.skip))))) zn191_23))
def zn191_25:=ZC.reg [zu 23 (zmv 3),zu 24 (zcf 204 [.const (.slice none 0 0),Tm 23] [108,3]),zv 6 (zas 24)]
def zn191_28:=ZC.reg [zu 25 (zmv 0),zu 26 (zcb .len [Tm 25] [92]),zv 27 (.move (Kn 0))]
def zn191_32:=ZC.reg [zv 28 (.binOp .lss 3 (Tm 27) (Tm 26) 3)]
def zn191_38:=ZC.reg [zu 29 (zia 92 25 27),zu 30 (zld 108 29),zv 8 (zas 30)]
def zn191_39:=ZC.reg [zu 31 (zmv 6),zu 32 (zmv 8),zu 33 (zcb .append [Tm 31,Tm 32] [108,108]),zv 6 (zas 33)]
def zn191_40:=ZC.reg [zu 34 (.binOp .add 3 (Tm 27) (Kn 1) 3),zv 27 (zmv 34)]
def K01:=ZC.seq zn191_32 (ZC.seq (ZC.cond (Tm 28) ZC.skip (ZC.exit 2)) (ZC.seq (ZC.block 3 (ZC.seq zn191_38 zn191_39)) zn191_40))
def zn191_42:=ZC.reg [zu 35 (zmv 6),zv 2 (zas 35)]
def zn191_0:=ZC.seq zn191_1 (ZC.seq zn191_3 (ZC.seq (ZC.seq zn191_6 (ZC.block 0 (ZC.loop V1e))) (ZC.seq zn191_25 (ZC.seq (ZC.seq zn191_28 (ZC.block 2 (ZC.loop K01))) (ZC.seq zn191_42 ZC.ret)))))
def zc191: ZC:=zn191_0
theorem zc191_ok: zcode (xfOf Try.f191).code=some zc191:=by kernel_rfl
def zw191:=zU C zc191.eq_1<|zU C zn191_1.eq_1<|zU C zn191_3.eq_1<|zU C zn191_6.eq_1<|zU C zn191_10.eq_1<|zU C zn191_16.eq_1<|zU C zn191_18.eq_1<|zU C zn191_20.eq_1<|zU C zn191_22.eq_1<|zU C zn191_23.eq_1<|zU C V1e.eq_1<|zU C zn191_25.eq_1<|zU C zn191_28.eq_1<|zU C zn191_32.eq_1<|zU C zn191_38.eq_1<|zU C zn191_39.eq_1<|zU C zn191_40.eq_1<|zU C K01.eq_1<|zU C zn191_42.eq_1<|(zunf C zn191_0.eq_1)
theorem rs191: (xfOf Try.f191).rs=[.tmp 2]:=by kernel_rfl
def xf191:=zF C 191 Try.f191
def zn204_1:=ZC.reg [zv 4 (.assign (.const (.slice none 0 0)))]
def zn204_4:=ZC.reg [zu 5 (zmv 1),zv 6 (.binOp .lss 3 (Tm 5) (Kn 0) 3)]
def zn204_6:=ZC.reg [⟨some 7,.makeInterface 9 (.const (.string ⟨#[99,97,110,110,111,116,32,98,101,32,110,101,103,97,116,105,118,101]⟩)),none,false⟩,zv0 (.panic (Tm 7))]
def zn204_9:=ZC.reg [zu 8 (zmv 1),zu 9 (zmv 0),zu 10 (zcb .cap [Tm 9] [108]),zu 11 (zmv 0),zu 12 (zcb .len [Tm 11] [108]),zu 13 (.binOp .sub 3 (Tm 10) (Tm 12) 3),zu 14 (.binOp .sub 3 (Tm 8) (Tm 13) 3),zv 1 (zas 14)]
def zn204_11:=ZC.reg [zu 15 (zmv 1),zv 16 (.binOp .gtr 3 (Tm 15) (Kn 0) 3)]
def zn204_13:=ZC.reg [zu 17 (zmv 0),zu 18 (zmv 0),zu 19 (zcb .cap [Tm 18] [108]),zu 20 (.slice 108 (Tm 17) none (some (Tm 19)) none),zu 21 (zmv 1),zu 22 (zcb .append [Tm 20,Tm 21] [108,3]),zu 23 (zmv 0),zu 24 (zcb .len [Tm 23] [108]),zu 25 (.slice 108 (Tm 22) none (some (Tm 24)) none),zv 0 (zas 25)]
def zn204_15:=ZC.reg [zu 26 (zmv 0),zv 4 (zas 26)]
def zn204_0:=ZC.seq zn204_1 (ZC.seq (ZC.seq zn204_4 (ZC.cond (Tm 6) zn204_6 ZC.skip)) (ZC.seq (ZC.seq zn204_9 (ZC.seq zn204_11 (ZC.cond (Tm 16) zn204_13 ZC.skip))) (ZC.seq zn204_15 ZC.ret)))
def zc204: ZC:=zn204_0
theorem zc204_ok: zcode (xfOf Try.f204).code=some zc204:=by kernel_rfl
def zw204:=zU C zc204.eq_1<|zU C zn204_1.eq_1<|zU C zn204_4.eq_1<|zU C zn204_6.eq_1<|zU C zn204_9.eq_1<|zU C zn204_11.eq_1<|zU C zn204_13.eq_1<|zU C zn204_15.eq_1<|(zunf C zn204_0.eq_1)
theorem rs204: (xfOf Try.f204).rs=[.tmp 4]:=by kernel_rfl
def xf204:=zF C 204 Try.f204
def zn108_1:=ZC.reg [zu 1 (.box 94 (Tm 0)),zv 2 (.assign (.const (.slice none 0 0)))]
def zn108_3:=ZC.reg [zu 6 (zcf 88 [] []),zv 3 (zas 6)]
def zn108_5:=ZC.reg [zu 7 (zmv 3),zu 8 (zfa 94 1 0),zu 9 (zld 3 8),zu 10 (.convert 3 25 (Tm 9)),zv 11 (zcf 89 [Tm 7,Tm 10,Kn 3] [143,25,3])]
def zn108_7:=ZC.reg [zu 12 (zmv 3),zu 13 (zfa 94 1 1),zu 14 (zld 3 13),zu 15 (.convert 3 25 (Tm 14)),zv 16 (zcf 89 [Tm 12,Tm 15,Kn 3] [143,25,3])]
def zn108_9:=ZC.reg [zu 17 (zmv 3),zu 18 (zfa 94 1 2),zu 19 (zld 3 18),zu 20 (.convert 3 25 (Tm 19)),zv 21 (zcf 89 [Tm 17,Tm 20,Kn 16] [143,25,3])]
def X2n:=ZC.reg [zu 22 (zmv 3),zu 23 (zfa 94 1 3),zu 24 (zld 3 23),zu 25 (.convert 3 25 (Tm 24)),zv 26 (zcf 89 [Tm 22,Tm 25,Kn 16] [143,25,3])]
def Y2f:=ZC.reg [zu 27 (zmv 3),zu 28 (zfa 94 1 4),zu 29 (zld 4 28),zv 30 (zcf 164 [Tm 27,Tm 29] [143,4])]
def Z2i:=ZC.reg [zu 31 (zmv 3),zu 32 (zfa 94 1 5),zu 33 (zld 25 32),zv 34 (zcf 89 [Tm 31,Tm 33,Kn 64] [143,25,3])]
def Y2k:=ZC.reg [zu 35 (zfa 94 1 0),zv 36 (zld 3 35)]
def Z2j:=ZC.reg [zu 38 (.binOp .eql 3 (Tm 36) (Kn 2) 3),zv 37 (zas 38)]
def Y2h:=ZC.reg [zu 39 (zmv 3),zu 40 (zfa 94 1 6),zu 41 (zld 3 40),zu 42 (.convert 3 25 (Tm 41)),zv 43 (zcf 89 [Tm 39,Tm 42,Kn 10] [143,25,3])]
def Y2g:=ZC.reg [zu 44 (zmv 3),zu 45 (zfa 94 1 7),zu 46 (zld 3 45),zu 47 (.convert 3 25 (Tm 46)),zv 48 (zcf 89 [Tm 44,Tm 47,Kn 10] [143,25,3])]
def Z2b:=ZC.reg [zu 49 (zmv 3),zu 50 (zfa 94 1 8),zu 51 (zld 91 50),zu 52 (zcb .len [Tm 51] [91]),zu 53 (.convert 3 25 (Tm 52)),zv 54 (zcf 89 [Tm 49,Tm 53,Kn 5] [143,25,3])]
def K2j:=ZC.reg [zu 55 (zfa 94 1 8),zu 56 (zld 91 55),zu 57 (zcb .len [Tm 56] [91]),zv 58 (.move (Kn 0))]
def zn108_34:=ZC.reg [zv 59 (.binOp .lss 3 (Tm 58) (Tm 57) 3)]
def zn108_40:=ZC.reg [zu 60 (zia 91 56 58),zu 61 (zld 36 60),zu 5 (.alloc 36),zv0 (.store 36 (Tm 5) (Tm 61))]
def zn108_41:=ZC.reg [zu 62 (zmv 3),zu 63 (zld 36 5),zv 64 (zcf 165 [Tm 62,Tm 63] [143,36])]
def zn108_42:=ZC.reg [zu 65 (.binOp .add 3 (Tm 58) (Kn 1) 3),zv 58 (zmv 65)]
def Q09:=ZC.seq zn108_34 (ZC.seq (ZC.cond (Tm 59) ZC.skip (ZC.exit 1)) (ZC.seq (ZC.block 2 (ZC.seq zn108_40 zn108_41)) zn108_42))
def K2g:=ZC.reg [zu 67 (.binOp .eql 3 (Tm 36) (Kn 3) 3),zv 66 (zas 67)]
def K2l:=ZC.reg [zu 68 (zmv 3),zu 69 (zld 94 1),zv 70 (zcf 166 [Tm 68,Tm 69] [143,94])]
def Y2c:=ZC.reg [zu 72 (.binOp .eql 3 (Tm 36) (Kn 4) 3),zv 71 (zas 72)]
def Q2k:=ZC.reg [zu 73 (zmv 3),zu 74 (zfa 94 1 11),zu 75 (zld 3 74),zu 76 (.convert 3 25 (Tm 75)),zv 77 (zcf 89 [Tm 73,Tm 76,Kn 10] [143,25,3])]
def Z2g:=ZC.reg [zu 78 (zmv 3),zu 79 (zfa 94 1 12),zu 80 (zld 3 79),zu 81 (.convert 3 25 (Tm 80)),zv 82 (zcf 89 [Tm 78,Tm 81,Kn 62] [143,25,3])]
def V1d:=ZC.reg [zu 83 (zmv 3),zu 84 (zcf 91 [Tm 83] [143]),zv 2 (zas 84)]
def zn108_0:=ZC.seq zn108_1 (ZC.seq zn108_3 (ZC.seq zn108_5 (ZC.seq zn108_7 (ZC.seq zn108_9 (ZC.seq X2n (ZC.seq Y2f (ZC.seq Z2i (ZC.seq (ZC.seq Y2k (ZC.block 0 (ZC.seq Z2j (ZC.cond (Tm 37) (ZC.seq Y2h (ZC.seq Y2g (ZC.seq Z2b (ZC.seq K2j (ZC.block 1 (ZC.loop Q09)))))) (ZC.seq K2g (ZC.cond (Tm 66) K2l (ZC.seq Y2c (ZC.cond (Tm 71) (ZC.seq Q2k Z2g) ZC.skip)))))))) (ZC.seq V1d ZC.ret)))))))))
def zc108: ZC:=zn108_0
theorem zc108_ok: zcode (xfOf Try.f108).code=some zc108:=by kernel_rfl
def zw108:=zU C zc108.eq_1<|zU C zn108_1.eq_1<|zU C zn108_3.eq_1<|zU C zn108_5.eq_1<|zU C zn108_7.eq_1<|zU C zn108_9.eq_1<|zU C X2n.eq_1<|zU C Y2f.eq_1<|zU C Z2i.eq_1<|zU C Y2k.eq_1<|zU C Z2j.eq_1<|zU C Y2h.eq_1<|zU C Y2g.eq_1<|zU C Z2b.eq_1<|zU C K2j.eq_1<|zU C zn108_34.eq_1<|zU C zn108_40.eq_1<|zU C zn108_41.eq_1<|zU C zn108_42.eq_1<|zU C Q09.eq_1<|zU C K2g.eq_1<|zU C K2l.eq_1<|zU C Y2c.eq_1<|zU C Q2k.eq_1<|zU C Z2g.eq_1<|zU C V1d.eq_1<|(zunf C zn108_0.eq_1)
theorem rs108: (xfOf Try.f108).rs=[.tmp 2]:=by kernel_rfl
def xf108:=zF C 108 Try.f108
def zn123_1:=ZC.reg [zu 1 (.box 94 (Tm 0)),zv 2 (.assign (.const (.slice none 0 0)))]
def zn123_3:=ZC.reg [⟨some 8,.build 156 ⟨[]⟩,none,false⟩,zu 9 (.box 156 (Tm 8)),zv 3 (zas 9)]
def zn123_5:=ZC.reg [zu 10 (zmv 3),zu 11 (zfa 94 1 0),zu 12 (zld 3 11),zv 13 (zcf 98 [Tm 10,Tm 12,Kn 3] [153,3,3])]
def zn123_7:=ZC.reg [zu 14 (zmv 3),zu 15 (zfa 94 1 1),zu 16 (zld 3 15),zv 17 (zcf 98 [Tm 14,Tm 16,Kn 3] [153,3,3])]
def zn123_9:=ZC.reg [zu 18 (zmv 3),zu 19 (zfa 94 1 2),zu 20 (zld 3 19),zv 21 (zcf 98 [Tm 18,Tm 20,Kn 16] [153,3,3])]
def Y2a:=ZC.reg [zu 22 (zmv 3),zu 23 (zfa 94 1 3),zu 24 (zld 3 23),zv 25 (zcf 98 [Tm 22,Tm 24,Kn 16] [153,3,3])]
def Q2l:=ZC.reg [zu 26 (zmv 3),zu 27 (zfa 94 1 4),zu 28 (zld 4 27),zu 29 (zcf 173 [Tm 28] [4]),zv 30 (zcf 98 [Tm 26,Tm 29,Kn 1] [153,3,3])]
def Z2a:=ZC.reg [zu 31 (zmv 3),zu 32 (zfa 94 1 5),zu 33 (zld 25 32),zv 34 (zcf 99 [Tm 31,Tm 33,Kn 64] [153,25,3])]
def Q2c:=ZC.reg [zu 35 (zfa 94 1 0),zv 36 (zld 3 35)]
def X2b:=ZC.reg [zu 38 (.binOp .eql 3 (Tm 36) (Kn 2) 3),zv 37 (zas 38)]
def X2c:=ZC.reg [zu 39 (zmv 3),zu 40 (zfa 94 1 6),zu 41 (zld 3 40),zv 42 (zcf 98 [Tm 39,Tm 41,Kn 10] [153,3,3])]
def V2f:=ZC.reg [zu 43 (zmv 3),zu 44 (zfa 94 1 7),zu 45 (zld 3 44),zv 46 (zcf 98 [Tm 43,Tm 45,Kn 10] [153,3,3])]
def Z2c:=ZC.reg [zu 47 (zmv 3),zu 48 (zfa 94 1 8),zu 49 (zld 91 48),zu 50 (zcb .len [Tm 49] [91]),zv 51 (zcf 98 [Tm 47,Tm 50,Kn 5] [153,3,3])]
def X2l:=ZC.reg [zv 4 (.assign (Kn 0))]
def zn123_35:=ZC.reg [zu 52 (zmv 4),zu 53 (zfa 94 1 8),zu 54 (zld 91 53),zu 55 (zcb .len [Tm 54] [91]),zv 56 (.binOp .lss 3 (Tm 52) (Tm 55) 3)]
def zn123_39:=ZC.reg [zu 59 (zmv 3),zu 60 (zfa 94 1 8),zu 61 (zld 91 60),zu 62 (zmv 4),zu 63 (zia 91 61 62),zu 64 (zld 36 63),zv 65 (zcf 174 [Tm 59,Tm 64] [153,36])]
def zn123_40:=ZC.reg [zu 57 (zmv 4),zu 58 (.binOp .add 3 (Tm 57) (Kn 1) 3),zv 4 (zas 58)]
def Y09:=ZC.seq (ZC.seq zn123_35 (ZC.cond (Tm 56) ZC.skip (ZC.exit 1))) (ZC.seq (ZC.block 2 zn123_39) zn123_40)
def V2n:=ZC.reg [zu 67 (.binOp .eql 3 (Tm 36) (Kn 3) 3),zv 66 (zas 67)]
def V2c:=ZC.reg [zu 68 (zmv 3),zu 69 (zfa 94 1 7),zu 70 (zld 3 69),zv 71 (zcf 98 [Tm 68,Tm 70,Kn 10] [153,3,3])]
def Y2i:=ZC.reg [zu 72 (zmv 3),zu 73 (zfa 94 1 9),zu 74 (zld 3 73),zv 75 (zcf 98 [Tm 72,Tm 74,Kn 4] [153,3,3])]
def V2e:=ZC.reg [zu 76 (zmv 3),zu 77 (zfa 94 1 10),zu 78 (zld 92 77),zu 79 (zcb .len [Tm 78] [92]),zv 80 (zcf 98 [Tm 76,Tm 79,Kn 4] [153,3,3])]
def Q2d:=ZC.reg [zv 5 (.assign (Kn 0))]
def zn123_56:=ZC.reg [zu 81 (zmv 5),zu 82 (zfa 94 1 10),zu 83 (zld 92 82),zu 84 (zcb .len [Tm 83] [92]),zv 85 (.binOp .lss 3 (Tm 81) (Tm 84) 3)]
def zn123_61:=ZC.reg [zv 6 (.assign (Kn 0))]
def zn123_66:=ZC.reg [zu 88 (zmv 6),zu 89 (zfa 94 1 10),zu 90 (zld 92 89),zu 91 (zmv 5),zu 92 (zia 92 90 91),zu 93 (zld 108 92),zu 94 (zcb .len [Tm 93] [108]),zv 95 (.binOp .lss 3 (Tm 88) (Tm 94) 3)]
def zn123_71:=ZC.reg [zu 98 (zfa 94 1 10),zu 99 (zld 92 98),zu 100 (zmv 5),zu 101 (zia 92 99 100),zu 102 (zld 108 101),zu 103 (zmv 6),zu 104 (zia 108 102 103),zu 105 (zld 110 104),zu 7 (.alloc 110),zv0 (.store 110 (Tm 7) (Tm 105))]
def zn123_73:=ZC.reg [zu 106 (zmv 3),zu 107 (zfa 110 7 0),zu 108 (zld 4 107),zu 109 (zcf 173 [Tm 108] [4]),zv 110 (zcf 98 [Tm 106,Tm 109,Kn 1] [153,3,3])]
def zn123_75:=ZC.reg [zu 111 (zfa 110 7 0),zv 112 (zld 4 111)]
def zn123_77:=ZC.reg [zu 113 (zmv 3),zu 114 (zfa 110 7 1),zu 115 (zld 36 114),zv 116 (zcf 174 [Tm 113,Tm 115] [153,36])]
def zn123_78:=ZC.reg [zu 96 (zmv 6),zu 97 (.binOp .add 3 (Tm 96) (Kn 1) 3),zv 6 (zas 97)]
def K1l:=ZC.seq (ZC.seq zn123_66 (ZC.cond (Tm 95) ZC.skip (ZC.exit 5))) (ZC.seq (ZC.block 6 (ZC.seq zn123_71 (ZC.seq zn123_73 (ZC.seq zn123_75 (ZC.cond (Tm 112) zn123_77 ZC.skip))))) zn123_78)
def zn123_79:=ZC.reg [zu 86 (zmv 5),zu 87 (.binOp .add 3 (Tm 86) (Kn 1) 3),zv 5 (zas 87)]
def V1a:=ZC.seq (ZC.seq zn123_56 (ZC.cond (Tm 85) ZC.skip (ZC.exit 3))) (ZC.seq (ZC.block 4 (ZC.seq zn123_61 (ZC.block 5 (ZC.loop K1l)))) zn123_79)
def Z2h:=ZC.reg [zu 118 (.binOp .eql 3 (Tm 36) (Kn 4) 3),zv 117 (zas 118)]
def V2a:=ZC.reg [zu 119 (zmv 3),zu 120 (zfa 94 1 11),zu 121 (zld 3 120),zv 122 (zcf 98 [Tm 119,Tm 121,Kn 10] [153,3,3])]
def Q2e:=ZC.reg [zu 123 (zmv 3),zu 124 (zfa 94 1 12),zu 125 (zld 3 124),zv 126 (zcf 98 [Tm 123,Tm 125,Kn 62] [153,3,3])]
def V1c:=ZC.reg [zu 127 (zmv 3),zu 128 (zcf 100 [Tm 127] [153]),zv 2 (zas 128)]
def zn123_0:=ZC.seq zn123_1 (ZC.seq zn123_3 (ZC.seq zn123_5 (ZC.seq zn123_7 (ZC.seq zn123_9 (ZC.seq Y2a (ZC.seq Q2l (ZC.seq Z2a (ZC.seq (ZC.seq Q2c (ZC.block 0 (ZC.seq X2b (ZC.cond (Tm 37) (ZC.seq X2c (ZC.seq V2f (ZC.seq Z2c (ZC.seq X2l (ZC.block 1 (ZC.loop Y09)))))) (ZC.seq V2n (ZC.cond (Tm 66) (ZC.seq V2c (ZC.seq Y2i (ZC.seq V2e (ZC.seq Q2d (ZC.block 3 (ZC.loop V1a)))))) (ZC.seq Z2h (ZC.cond (Tm 117) (ZC.seq V2a Q2e) ZC.skip)))))))) (ZC.seq V1c ZC.ret)))))))))
def zc123: ZC:=zn123_0
theorem zc123_ok: zcode (xfOf Try.f123).code=some zc123:=by kernel_rfl
def zw123:=zU C zc123.eq_1<|zU C zn123_1.eq_1<|zU C zn123_3.eq_1<|zU C zn123_5.eq_1<|zU C zn123_7.eq_1<|zU C zn123_9.eq_1<|zU C Y2a.eq_1<|zU C Q2l.eq_1<|zU C Z2a.eq_1<|zU C Q2c.eq_1<|zU C X2b.eq_1<|zU C X2c.eq_1<|zU C V2f.eq_1<|zU C Z2c.eq_1<|zU C X2l.eq_1<|zU C zn123_35.eq_1<|zU C zn123_39.eq_1<|zU C zn123_40.eq_1<|zU C Y09.eq_1<|zU C V2n.eq_1<|zU C V2c.eq_1<|zU C Y2i.eq_1<|zU C V2e.eq_1<|zU C Q2d.eq_1<|zU C zn123_56.eq_1<|zU C zn123_61.eq_1<|zU C zn123_66.eq_1<|zU C zn123_71.eq_1<|zU C zn123_73.eq_1<|zU C zn123_75.eq_1<|zU C zn123_77.eq_1<|zU C zn123_78.eq_1<|zU C K1l.eq_1<|zU C zn123_79.eq_1<|zU C V1a.eq_1<|zU C Z2h.eq_1<|zU C V2a.eq_1<|zU C Q2e.eq_1<|zU C V1c.eq_1<|(zunf C zn123_0.eq_1)
theorem rs123: (xfOf Try.f123).rs=[.tmp 2]:=by kernel_rfl
def xf123:=zF C 123 Try.f123
def zn173_1:=ZC.reg [zv 2 (.assign (Kn 0))]
def zn173_4:=ZC.reg [zv 3 (zmv 0)]
def zn173_7:=ZC.reg [zv 2 (.assign (Kn 1))]
def zn173_9:=ZC.reg [zv 2 (.assign (Kn 0))]
def zn173_0:=ZC.seq zn173_1 (ZC.seq (ZC.seq zn173_4 (ZC.cond (Tm 3) (ZC.seq zn173_7 ZC.ret) ZC.skip)) (ZC.seq zn173_9 ZC.ret))
def zc173: ZC:=zn173_0
theorem zc173_ok: zcode (xfOf Try.f173).code=some zc173:=by kernel_rfl
def zw173:=zU C zc173.eq_1<|zU C zn173_1.eq_1<|zU C zn173_4.eq_1<|zU C zn173_7.eq_1<|zU C zn173_9.eq_1<|(zunf C zn173_0.eq_1)
theorem rs173: (xfOf Try.f173).rs=[.tmp 2]:=by kernel_rfl
def xf173:=zF C 173 Try.f173
def zn174_1:=ZC.reg [zv 3 (.box 36 (Tm 1))]
def zn174_3:=ZC.reg [zu 4 (zmv 0),zu 5 (zfa 36 3 0),zu 6 (zld 3 5),zv 7 (zcf 98 [Tm 4,Tm 6,Kn 8] [153,3,3])]
def zn174_5:=ZC.reg [zu 8 (zmv 0),zu 9 (zfa 36 3 1),zu 10 (zld 3 9),zv 11 (zcf 98 [Tm 8,Tm 10,Kn 8] [153,3,3])]
def zn174_6:=ZC.reg [zu 12 (zmv 0),zu 13 (zfa 36 3 2),zu 14 (zld 3 13),zv 15 (zcf 98 [Tm 12,Tm 14,Kn 8] [153,3,3])]
def zn174_0:=ZC.seq zn174_1 (ZC.seq zn174_3 (ZC.seq zn174_5 zn174_6))
def zc174: ZC:=zn174_0
theorem zc174_ok: zcode (xfOf Try.f174).code=some zc174:=by kernel_rfl
def zw174:=zU C zc174.eq_1<|zU C zn174_1.eq_1<|zU C zn174_3.eq_1<|zU C zn174_5.eq_1<|zU C zn174_6.eq_1<|(zunf C zn174_0.eq_1)
theorem rs174: (xfOf Try.f174).rs=[]:=by kernel_rfl
def xf174:=zF C 174 Try.f174
def zn118_1:=ZC.reg [zv 6 (.assign (.const (.bool false)))]
def zn118_3:=ZC.reg [zu 7 (zmv 0),zu 8 (zmv 1),zu 9 (.binOp .geq 3 (Tm 7) (Tm 8) 3),zu 10 (zmv 9),zug 11 (zmv 0) 10 true false,zug 12 (zmv 2) 10 true false,zug 13 (.binOp .leq 3 (Tm 11) (Tm 12) 3) 10 true false,zu 14 (.pick (Tm 10) (Tm 13) (.const (.bool false))),zv 6 (zas 14)]
def zn118_0:=ZC.seq zn118_1 (ZC.seq zn118_3 ZC.ret)
def zc118: ZC:=zn118_0
theorem zc118_ok: zcode (xfOf Try.f118).code=some zc118:=by kernel_rfl
def zw118:=zU C zc118.eq_1<|zU C zn118_1.eq_1<|zU C zn118_3.eq_1<|(zunf C zn118_0.eq_1)
theorem rs118: (xfOf Try.f118).rs=[.tmp 6]:=by kernel_rfl
def xf118:=zF C 118 Try.f118
def zn121_1:=ZC.reg [zu 1 (.box 36 (Tm 0)),zv 2 (.assign (.const (.bool false)))]
def zn121_3:=ZC.reg [zu 3 (zfa 36 1 0),zu 4 (zld 3 3),zu 5 (zcf 118 [Tm 4,Kn 0,Kn 255] [3,3,3]),zu 6 (zmv 5),zug 7 (zfa 36 1 1) 6 true false,zug 8 (zld 3 7) 6 true false,zug 9 (zcf 118 [Tm 8,Kn (-64),Kn 64] [3,3,3]) 6 true false,zu 10 (.pick (Tm 6) (Tm 9) (.const (.bool false))),zu 11 (zmv 10),zug 12 (zfa 36 1 2) 11 true false,zug 13 (zld 3 12) 11 true false,zug 14 (zcf 118 [Tm 13,Kn (-64),Kn 64] [3,3,3]) 11 true false,zu 15 (.pick (Tm 11) (Tm 14) (.const (.bool false))),zv 2 (zas 15)]
def zn121_0:=ZC.seq zn121_1 (ZC.seq zn121_3 ZC.ret)
def zc121: ZC:=zn121_0
theorem zc121_ok: zcode (xfOf Try.f121).code=some zc121:=by kernel_rfl
def zw121:=zU C zc121.eq_1<|zU C zn121_1.eq_1<|zU C zn121_3.eq_1<|(zunf C zn121_0.eq_1)
theorem rs121: (xfOf Try.f121).rs=[.tmp 2]:=by kernel_rfl
def xf121:=zF C 121 Try.f121
def zn172_1:=ZC.reg [zu 1 (.box 110 (Tm 0)),zv 2 (.assign (.const (.bool false)))]
def zn172_3:=ZC.reg [zu 3 (zfa 110 1 1),zu 4 (zld 36 3),zu 5 (zcf 121 [Tm 4] [36]),zu 6 (zmv 5),zug 7 (zfa 110 1 0) 6 true false,zug 8 (zld 4 7) 6 true false,zug 9 (zmv 8) 6 true false,zug 10 (zfa 110 1 1) 9 false false,zug 11 (zld 36 10) 9 false false,⟨some 12,.build 36 ⟨[]⟩,some (9,false),false⟩,zug 13 (.binOp .eql 36 (Tm 11) (Tm 12) 36) 9 false false,zug 14 (.pick (Tm 9) (.const (.bool true)) (Tm 13)) 6 true false,zu 15 (.pick (Tm 6) (Tm 14) (.const (.bool false))),zv 2 (zas 15)]
def zn172_0:=ZC.seq zn172_1 (ZC.seq zn172_3 ZC.ret)
def zc172: ZC:=zn172_0
theorem zc172_ok: zcode (xfOf Try.f172).code=some zc172:=by kernel_rfl
def zw172:=zU C zc172.eq_1<|zU C zn172_1.eq_1<|zU C zn172_3.eq_1<|(zunf C zn172_0.eq_1)
theorem rs172: (xfOf Try.f172).rs=[.tmp 2]:=by kernel_rfl
def xf172:=zF C 172 Try.f172
def zn170_1:=ZC.reg [zv 4 (.assign (.const (.bool false)))]
def zn170_3:=ZC.reg [zu 5 (zmv 0),zu 6 (zmv 1),zu 7 (zcf 192 [Tm 5,Tm 6] [108,218]),zu 8 (.binOp .geq 3 (Tm 7) (Kn 0) 3),zv 4 (zas 8)]
def zn170_0:=ZC.seq zn170_1 (ZC.seq zn170_3 ZC.ret)
def zc170: ZC:=zn170_0
theorem zc170_ok: zcode (xfOf Try.f170).code=some zc170:=by kernel_rfl
def zw170:=zU C zc170.eq_1<|zU C zn170_1.eq_1<|zU C zn170_3.eq_1<|(zunf C zn170_0.eq_1)
theorem rs170: (xfOf Try.f170).rs=[.tmp 4]:=by kernel_rfl
def xf170:=zF C 170 Try.f170
def zn192_1:=ZC.reg [zv 4 (.assign (Kn 0))]
def zn192_4:=ZC.reg [zu 6 (zmv 0),zu 7 (zcb .len [Tm 6] [108]),zv 8 (.move (Kn 0))]
def zn192_8:=ZC.reg [zv 9 (.binOp .lss 3 (Tm 8) (Tm 7) 3)]
def zn192_14:=ZC.reg [zu 10 (zmv 8),zv 5 (zas 10)]
def zn192_16:=ZC.reg [zu 11 (zmv 1),zu 12 (zmv 0),zu 13 (zmv 5),zu 14 (zia 108 12 13),zu 15 (zld 110 14),⟨some 16,.call ⟨.value (Tm 11),⟨[Tm 15]⟩,⟨[110]⟩⟩,none,true⟩]
def zn192_19:=ZC.reg [zu 17 (zmv 5),zv 4 (zas 17)]
def zn192_20:=ZC.reg [zu 18 (.binOp .add 3 (Tm 8) (Kn 1) 3),zv 8 (zmv 18)]
def V2b:=ZC.seq zn192_8 (ZC.seq (ZC.cond (Tm 9) ZC.skip (ZC.exit 0)) (ZC.seq (ZC.block 1 (ZC.seq zn192_14 (ZC.seq zn192_16 (ZC.cond (Tm 16) (ZC.seq zn192_19 ZC.ret) ZC.skip)))) zn192_20))
def zn192_22:=ZC.reg [zv 4 (.assign (Kn (-1)))]
def zn192_0:=ZC.seq zn192_1 (ZC.seq (ZC.seq zn192_4 (ZC.block 0 (ZC.loop V2b))) (ZC.seq zn192_22 ZC.ret))
def zc192: ZC:=zn192_0
theorem zc192_ok: zcode (xfOf Try.f192).code=some zc192:=by kernel_rfl
def zw192:=zU C zc192.eq_1<|zU C zn192_1.eq_1<|zU C zn192_4.eq_1<|zU C zn192_8.eq_1<|zU C zn192_14.eq_1<|zU C zn192_16.eq_1<|zU C zn192_19.eq_1<|zU C zn192_20.eq_1<|zU C V2b.eq_1<|zU C zn192_22.eq_1<|(zunf C zn192_0.eq_1)
theorem rs192: (xfOf Try.f192).rs=[.tmp 4]:=by kernel_rfl
def xf192:=zF C 192 Try.f192
def zn171_1:=ZC.reg [zu 1 (.box 110 (Tm 0)),zv 2 (.assign (.const (.bool false)))]
def zn171_3:=ZC.reg [zu 3 (zld 110 1),zu 4 (zcf 172 [Tm 3] [110]),zu 5 (.unOp .not 4 (Tm 4)),zv 2 (zas 5)]
def zn171_0:=ZC.seq zn171_1 (ZC.seq zn171_3 ZC.ret)
def zc171: ZC:=zn171_0
theorem zc171_ok: zcode (xfOf Try.f171).code=some zc171:=by kernel_rfl
def zw171:=zU C zc171.eq_1<|zU C zn171_1.eq_1<|zU C zn171_3.eq_1<|(zunf C zn171_0.eq_1)
theorem rs171: (xfOf Try.f171).rs=[.tmp 2]:=by kernel_rfl
def xf171:=zF C 171 Try.f171
def zn169_1:=ZC.reg [zv 4 (.assign (Kn 0))]
def zn169_4:=ZC.reg [zu 6 (zmv 0),zu 7 (zcb .len [Tm 6] [91]),zv 8 (.move (Kn 0))]
def zn169_8:=ZC.reg [zv 9 (.binOp .lss 3 (Tm 8) (Tm 7) 3)]
def zn169_14:=ZC.reg [zu 10 (zmv 8),zv 5 (zas 10)]
def zn169_16:=ZC.reg [zu 11 (zmv 1),zu 12 (zmv 0),zu 13 (zmv 5),zu 14 (zia 91 12 13),zu 15 (zld 36 14),⟨some 16,.call ⟨.value (Tm 11),⟨[Tm 15]⟩,⟨[36]⟩⟩,none,true⟩]
def zn169_19:=ZC.reg [zu 17 (zmv 5),zv 4 (zas 17)]
def zn169_20:=ZC.reg [zu 18 (.binOp .add 3 (Tm 8) (Kn 1) 3),zv 8 (zmv 18)]
def X2k:=ZC.seq zn169_8 (ZC.seq (ZC.cond (Tm 9) ZC.skip (ZC.exit 0)) (ZC.seq (ZC.block 1 (ZC.seq zn169_14 (ZC.seq zn169_16 (ZC.cond (Tm 16) (ZC.seq zn169_19 ZC.ret) ZC.skip)))) zn169_20))
def zn169_22:=ZC.reg [zv 4 (.assign (Kn (-1)))]
def zn169_0:=ZC.seq zn169_1 (ZC.seq (ZC.seq zn169_4 (ZC.block 0 (ZC.loop X2k))) (ZC.seq zn169_22 ZC.ret))
def zc169: ZC:=zn169_0
theorem zc169_ok: zcode (xfOf Try.f169).code=some zc169:=by kernel_rfl
def zw169:=zU C zc169.eq_1<|zU C zn169_1.eq_1<|zU C zn169_4.eq_1<|zU C zn169_8.eq_1<|zU C zn169_14.eq_1<|zU C zn169_16.eq_1<|zU C zn169_19.eq_1<|zU C zn169_20.eq_1<|zU C X2k.eq_1<|zU C zn169_22.eq_1<|(zunf C zn169_0.eq_1)
theorem rs169: (xfOf Try.f169).rs=[.tmp 4]:=by kernel_rfl
def xf169:=zF C 169 Try.f169
def zn119_1:=ZC.reg [zv 4 (.assign (.const (.bool false)))]
def zn119_3:=ZC.reg [zu 5 (zmv 0),zu 6 (zmv 1),zu 7 (zcf 169 [Tm 5,Tm 6] [91,173]),zu 8 (.binOp .geq 3 (Tm 7) (Kn 0) 3),zv 4 (zas 8)]
def zn119_0:=ZC.seq zn119_1 (ZC.seq zn119_3 ZC.ret)
def zc119: ZC:=zn119_0
theorem zc119_ok: zcode (xfOf Try.f119).code=some zc119:=by kernel_rfl
def zw119:=zU C zc119.eq_1<|zU C zn119_1.eq_1<|zU C zn119_3.eq_1<|(zunf C zn119_0.eq_1)
theorem rs119: (xfOf Try.f119).rs=[.tmp 4]:=by kernel_rfl
def xf119:=zF C 119 Try.f119
def zn120_1:=ZC.reg [zu 1 (.box 36 (Tm 0)),zv 2 (.assign (.const (.bool false)))]
def zn120_3:=ZC.reg [zu 3 (zld 36 1),zu 4 (zcf 121 [Tm 3] [36]),zu 5 (.unOp .not 4 (Tm 4)),zv 2 (zas 5)]
def zn120_0:=ZC.seq zn120_1 (ZC.seq zn120_3 ZC.ret)
def zc120: ZC:=zn120_0
theorem zc120_ok: zcode (xfOf Try.f120).code=some zc120:=by kernel_rfl
def zw120:=zU C zc120.eq_1<|zU C zn120_1.eq_1<|zU C zn120_3.eq_1<|(zunf C zn120_0.eq_1)
theorem rs120: (xfOf Try.f120).rs=[.tmp 2]:=by kernel_rfl
def xf120:=zF C 120 Try.f120
def zn122_1:=ZC.reg [zv 4 (.assign (.const (.bool false)))]
def zn122_4:=ZC.reg [zu 7 (zmv 0),zu 8 (zcb .len [Tm 7] [92]),zv 9 (.move (Kn 0))]
def zn122_8:=ZC.reg [zv 10 (.binOp .lss 3 (Tm 9) (Tm 8) 3)]
def zn122_14:=ZC.reg [zu 11 (zia 92 7 9),zu 12 (zld 108 11),zv 6 (zas 12)]
def zn122_16:=ZC.reg [zu 13 (zmv 6),zu 14 (zcb .len [Tm 13] [108]),zu 15 (zmv 1),zu 16 (.binOp .neq 3 (Tm 14) (Tm 15) 3),zu 17 (zmv 16),zug 18 (zmv 6) 17 false false,zug 19 (zcf 170 [Tm 18,.func 171] [108,218]) 17 false false,zv 20 (.pick (Tm 17) (.const (.bool true)) (Tm 19))]
def zn122_19:=ZC.reg [zv 4 (.assign (.const (.bool false)))]
def zn122_20:=ZC.reg [zu 21 (.binOp .add 3 (Tm 9) (Kn 1) 3),zv 9 (zmv 21)]
def X2a:=ZC.seq zn122_8 (ZC.seq (ZC.cond (Tm 10) ZC.skip (ZC.exit 0)) (ZC.seq (ZC.block 1 (ZC.seq zn122_14 (ZC.seq zn122_16 (ZC.cond (Tm 20) (ZC.seq zn122_19 ZC.ret) ZC.skip)))) zn122_20))
def zn122_22:=ZC.reg [zu 22 (zmv 0),zu 23 (zcb .len [Tm 22] [92]),zu 24 (.binOp .leq 3 (Tm 23) (Kn 8) 3),zu 25 (zmv 24),zug 26 (zmv 1) 25 true false,zug 27 (zcf 118 [Tm 26,Kn 1,Kn 8] [3,3,3]) 25 true false,zu 28 (.pick (Tm 25) (Tm 27) (.const (.bool false))),zv 4 (zas 28)]
def zn122_0:=ZC.seq zn122_1 (ZC.seq (ZC.seq zn122_4 (ZC.block 0 (ZC.loop X2a))) (ZC.seq zn122_22 ZC.ret))
def zc122: ZC:=zn122_0
theorem zc122_ok: zcode (xfOf Try.f122).code=some zc122:=by kernel_rfl
def zw122:=zU C zc122.eq_1<|zU C zn122_1.eq_1<|zU C zn122_4.eq_1<|zU C zn122_8.eq_1<|zU C zn122_14.eq_1<|zU C zn122_16.eq_1<|zU C zn122_19.eq_1<|zU C zn122_20.eq_1<|zU C X2a.eq_1<|zU C zn122_22.eq_1<|(zunf C zn122_0.eq_1)
theorem rs122: (xfOf Try.f122).rs=[.tmp 4]:=by kernel_rfl
def xf122:=zF C 122 Try.f122
def zn116_1:=ZC.reg [zu 1 (.box 94 (Tm 0)),zv 2 (.assign (.const (.bool false)))]
def zn116_3:=ZC.reg [zu 4 (zfa 94 1 4),zu 5 (zld 4 4),zu 6 (zmv 5),zug 7 (zfa 94 1 3) 6 false false,zug 8 (zld 3 7) 6 false false,zug 9 (.binOp .eql 3 (Tm 8) (Kn 0) 3) 6 false false,zug 10 (zmv 9) 6 false false,zug 11 (zfa 94 1 5) 10 true false,zug 12 (zld 25 11) 10 true false,zug 13 (.binOp .eql 25 (Tm 12) (.const (.int .u64 0)) 25) 10 true false,zug 14 (.pick (Tm 10) (Tm 13) (.const (.bool false))) 6 false false,zu 15 (.pick (Tm 6) (.const (.bool true)) (Tm 14)),zv 3 (zas 15)]
def zn116_5:=ZC.reg [zu 16 (zfa 94 1 0),zu 17 (zld 3 16),zu 18 (zcf 118 [Tm 17,Kn 1,Kn 6] [3,3,3]),zu 19 (zmv 18),zug 20 (zfa 94 1 1) 19 true false,zug 21 (zld 3 20) 19 true false,zug 22 (zcf 118 [Tm 21,Kn 0,Kn 7] [3,3,3]) 19 true false,zu 23 (.pick (Tm 19) (Tm 22) (.const (.bool false))),zu 24 (zmv 23),zug 25 (zfa 94 1 2) 24 true false,zug 26 (zld 3 25) 24 true false,zug 27 (zcf 118 [Tm 26,Kn 0,Kn 65535] [3,3,3]) 24 true false,zu 28 (.pick (Tm 24) (Tm 27) (.const (.bool false))),zu 29 (zmv 28),zug 30 (zfa 94 1 3) 29 true false,zug 31 (zld 3 30) 29 true false,zug 32 (zcf 118 [Tm 31,Kn 0,Kn 65535] [3,3,3]) 29 true false,zu 33 (.pick (Tm 29) (Tm 32) (.const (.bool false))),zu 34 (zmv 33),zug 35 (zmv 3) 34 true false,zu 36 (.pick (Tm 34) (Tm 35) (.const (.bool false))),zv 2 (zas 36)]
def zn116_0:=ZC.seq zn116_1 (ZC.seq zn116_3 (ZC.seq zn116_5 ZC.ret))
def zc116: ZC:=zn116_0
theorem zc116_ok: zcode (xfOf Try.f116).code=some zc116:=by kernel_rfl
def zw116:=zU C zc116.eq_1<|zU C zn116_1.eq_1<|zU C zn116_3.eq_1<|zU C zn116_5.eq_1<|(zunf C zn116_0.eq_1)
theorem rs116: (xfOf Try.f116).rs=[.tmp 2]:=by kernel_rfl
def xf116:=zF C 116 Try.f116
def zn117_1:=ZC.reg [zu 1 (.box 94 (Tm 0)),zv 2 (.alloc 94)]
def zn117_3:=ZC.reg [zu 4 (zfa 94 1 0),zu 5 (zld 3 4),zu 6 (zfa 94 1 1),zu 7 (zld 3 6),zu 8 (zfa 94 1 2),zu 9 (zld 3 8),zu 10 (zfa 94 1 3),zu 11 (zld 3 10),zu 12 (zfa 94 1 4),zu 13 (zld 4 12),zu 14 (zfa 94 1 5),zu 15 (zld 25 14),⟨some 16,.build 94 ⟨[(0,.tmp 5),(1,.tmp 7),(2,.tmp 9),(3,.tmp 11),(4,.tmp 13),(5,.tmp 15)]⟩,none,false⟩,zu 3 (.alloc 94),zv0 (.store 94 (Tm 3) (Tm 16))]
def zn117_6:=ZC.reg [zu 17 (zfa 94 1 0),zv 18 (zld 3 17)]
def zn117_9:=ZC.reg [zu 20 (.binOp .eql 3 (Tm 18) (Kn 2) 3),zv 19 (zas 20)]
def zn117_11:=ZC.draw 12 [] [zdd 0 21 (zfa 94 1 6) false [] [] false,zdd 1 22 (zld 3 21) false [] [] false,zdd 2 23 (zfa 94 1 7) false [] [7] false,zdd 3 24 (zld 3 23) false [] [7] false,zdd 4 25 (zfa 94 1 8) false [] [7,9] false,zdd 5 26 (zld 91 25) false [] [7,9] false,zdd 6 27 (zfa 94 3 6) true [] [] false,zd0 7 (.store 3 (Tm 27) (Tm 22)) true [] [] false,zdd 8 28 (zfa 94 3 7) true [] [] false,zd0 9 (.store 3 (Tm 28) (Tm 24)) true [] [] false,zdd 10 29 (zfa 94 3 8) true [] [] false,zd0 11 (.store 91 (Tm 29) (Tm 26)) true [] [] false]
def zn117_13:=ZC.reg [zu 31 (.binOp .eql 3 (Tm 18) (Kn 3) 3),zv 30 (zas 31)]
def zn117_15:=ZC.draw 12 [] [zdd 0 32 (zfa 94 1 7) false [] [] false,zdd 1 33 (zld 3 32) false [] [] false,zdd 2 34 (zfa 94 1 9) false [] [7] false,zdd 3 35 (zld 3 34) false [] [7] false,zdd 4 36 (zfa 94 1 10) false [] [7,9] false,zdd 5 37 (zld 92 36) false [] [7,9] false,zdd 6 38 (zfa 94 3 7) true [] [] false,zd0 7 (.store 3 (Tm 38) (Tm 33)) true [] [] false,zdd 8 39 (zfa 94 3 9) true [] [] false,zd0 9 (.store 3 (Tm 39) (Tm 35)) true [] [] false,zdd 10 40 (zfa 94 3 10) true [] [] false,zd0 11 (.store 92 (Tm 40) (Tm 37)) true [] [] false]
def zn117_17:=ZC.reg [zu 42 (.binOp .eql 3 (Tm 18) (Kn 4) 3),zv 41 (zas 42)]
def zn117_19:=ZC.draw 8 [] [zdd 0 43 (zfa 94 1 11) false [] [] false,zdd 1 44 (zld 3 43) false [] [] false,zdd 2 45 (zfa 94 1 12) false [] [5] false,zdd 3 46 (zld 3 45) false [] [5] false,zdd 4 47 (zfa 94 3 11) true [] [] false,zd0 5 (.store 3 (Tm 47) (Tm 44)) true [] [] false,zdd 6 48 (zfa 94 3 12) true [] [] false,zd0 7 (.store 3 (Tm 48) (Tm 46)) true [] [] false]
def zn117_21:=ZC.reg [zu 49 (zld 94 3),zv0 (.store 94 (Tm 2) (Tm 49))]
def zn117_0:=ZC.seq zn117_1 (ZC.seq zn117_3 (ZC.seq (ZC.seq zn117_6 (ZC.block 0 (ZC.seq zn117_9 (ZC.cond (Tm 19) zn117_11 (ZC.seq zn117_13 (ZC.cond (Tm 30) zn117_15 (ZC.seq zn117_17 (ZC.cond (Tm 41) zn117_19 ZC.skip)))))))) (ZC.seq zn117_21 ZC.ret)))
def zc117: ZC:=zn117_0
theorem zc117_ok: zcode (xfOf Try.f117).code=some zc117:=by kernel_rfl
def zw117:=zU C zc117.eq_1<|zU C zn117_1.eq_1<|zU C zn117_3.eq_1<|zU C zn117_6.eq_1<|zU C zn117_9.eq_1<|zU C zn117_11.eq_1<|zU C zn117_13.eq_1<|zU C zn117_15.eq_1<|zU C zn117_17.eq_1<|zU C zn117_19.eq_1<|zU C zn117_21.eq_1<|(zunf C zn117_0.eq_1)
theorem rs117: (xfOf Try.f117).rs=[.cell 2 94]:=by kernel_rfl
def xf117:=zF C 117 Try.f117
def zn112_1:=ZC.reg [zv 6 (.assign (.const (.bool false)))]
def zn112_4:=ZC.reg [zu 10 (zmv 0),zu 11 (zcb .len [Tm 10] [92]),zu 12 (zmv 1),zu 13 (zcb .len [Tm 12] [92]),zv 14 (.binOp .neq 3 (Tm 11) (Tm 13) 3)]
def zn112_7:=ZC.reg [zv 6 (.assign (.const (.bool false)))]
def zn112_10:=ZC.reg [zu 15 (zmv 0),zu 16 (zcb .len [Tm 15] [92]),zv 17 (.move (Kn 0))]
def zn112_14:=ZC.reg [zv 18 (.binOp .lss 3 (Tm 17) (Tm 16) 3)]
def zn112_20:=ZC.reg [zu 19 (zmv 17),zu 20 (zia 92 15 17),zu 21 (zld 108 20),zu 7 (zas 19),zv 8 (zas 21)]
def zn112_22:=ZC.reg [zu 22 (zmv 1),zu 23 (zmv 7),zu 24 (zia 92 22 23),zu 25 (zld 108 24),zv 9 (zas 25)]
def zn112_24:=ZC.reg [zu 26 (zmv 2),zu 27 (zmv 8),zu 28 (zmv 9),⟨some 29,.call ⟨.value (Tm 26),⟨[Tm 27,Tm 28]⟩,⟨[108,108]⟩⟩,none,false⟩,zv 30 (.unOp .not 4 (Tm 29))]
def zn112_27:=ZC.reg [zv 6 (.assign (.const (.bool false)))]
def zn112_28:=ZC.reg [zu 31 (.binOp .add 3 (Tm 17) (Kn 1) 3),zv 17 (zmv 31)]
def Z1l:=ZC.seq zn112_14 (ZC.seq (ZC.cond (Tm 18) ZC.skip (ZC.exit 0)) (ZC.seq (ZC.block 1 (ZC.seq zn112_20 (ZC.seq zn112_22 (ZC.seq zn112_24 (ZC.cond (Tm 30) (ZC.seq zn112_27 ZC.ret) ZC.skip))))) zn112_28))
def zn112_30:=ZC.reg [zv 6 (.assign (.const (.bool true)))]
def zn112_0:=ZC.seq zn112_1 (ZC.seq (ZC.seq zn112_4 (ZC.cond (Tm 14) (ZC.seq zn112_7 ZC.ret) ZC.skip)) (ZC.seq (ZC.seq zn112_10 (ZC.block 0 (ZC.loop Z1l))) (ZC.seq zn112_30 ZC.ret)))
def zc112: ZC:=zn112_0
theorem zc112_ok: zcode (xfOf Try.f112).code=some zc112:=by kernel_rfl
def zw112:=zU C zc112.eq_1<|zU C zn112_1.eq_1<|zU C zn112_4.eq_1<|zU C zn112_7.eq_1<|zU C zn112_10.eq_1<|zU C zn112_14.eq_1<|zU C zn112_20.eq_1<|zU C zn112_22.eq_1<|zU C zn112_24.eq_1<|zU C zn112_27.eq_1<|zU C zn112_28.eq_1<|zU C Z1l.eq_1<|zU C zn112_30.eq_1<|(zunf C zn112_0.eq_1)
theorem rs112: (xfOf Try.f112).rs=[.tmp 6]:=by kernel_rfl
def xf112:=zF C 112 Try.f112
def zn113_1:=ZC.reg [zv 4 (.assign (.const (.bool false)))]
def zn113_3:=ZC.reg [zu 5 (zmv 0),zu 6 (zmv 1),zu 7 (zcf 114 [Tm 5,Tm 6] [108,108]),zv 4 (zas 7)]
def zn113_0:=ZC.seq zn113_1 (ZC.seq zn113_3 ZC.ret)
def zc113: ZC:=zn113_0
theorem zc113_ok: zcode (xfOf Try.f113).code=some zc113:=by kernel_rfl
def zw113:=zU C zc113.eq_1<|zU C zn113_1.eq_1<|zU C zn113_3.eq_1<|(zunf C zn113_0.eq_1)
theorem rs113: (xfOf Try.f113).rs=[.tmp 4]:=by kernel_rfl
def xf113:=zF C 113 Try.f113
def zn114_1:=ZC.reg [zv 4 (.assign (.const (.bool false)))]
def zn114_4:=ZC.reg [zu 6 (zmv 0),zu 7 (zcb .len [Tm 6] [108]),zu 8 (zmv 1),zu 9 (zcb .len [Tm 8] [108]),zv 10 (.binOp .neq 3 (Tm 7) (Tm 9) 3)]
def zn114_7:=ZC.reg [zv 4 (.assign (.const (.bool false)))]
def zn114_10:=ZC.reg [zu 11 (zmv 0),zu 12 (zcb .len [Tm 11] [108]),zv 13 (.move (Kn 0))]
def zn114_14:=ZC.reg [zv 14 (.binOp .lss 3 (Tm 13) (Tm 12) 3)]
def zn114_20:=ZC.reg [zu 15 (zmv 13),zv 5 (zas 15)]
def zn114_22:=ZC.draw 9 [] [zdd 0 16 (zmv 0) false [] [] false,zdd 1 17 (zmv 5) false [] [] false,zdd 2 18 (zia 108 16 17) false [] [] false,zdd 3 19 (zld 110 18) false [] [] false,zdd 4 20 (zmv 1) false [] [] false,zdd 5 21 (zmv 5) true [] [] false,zdd 6 22 (zia 108 20 21) true [] [] false,zdd 7 23 (zld 110 22) true [] [] false,zdd 8 24 (.binOp .neq 110 (Tm 19) (Tm 23) 110) true [] [] false]
def zn114_25:=ZC.reg [zv 4 (.assign (.const (.bool false)))]
def zn114_26:=ZC.reg [zu 25 (.binOp .add 3 (Tm 13) (Kn 1) 3),zv 13 (zmv 25)]
def Q1m:=ZC.seq zn114_14 (ZC.seq (ZC.cond (Tm 14) ZC.skip (ZC.exit 0)) (ZC.seq (ZC.block 1 (ZC.seq zn114_20 (ZC.seq zn114_22 (ZC.cond (Tm 24) (ZC.seq zn114_25 ZC.ret) ZC.skip)))) zn114_26))
def zn114_28:=ZC.reg [zv 4 (.assign (.const (.bool true)))]
def zn114_0:=ZC.seq zn114_1 (ZC.seq (ZC.seq zn114_4 (ZC.cond (Tm 10) (ZC.seq zn114_7 ZC.ret) ZC.skip)) (ZC.seq (ZC.seq zn114_10 (ZC.block 0 (ZC.loop Q1m))) (ZC.seq zn114_28 ZC.ret)))
def zc114: ZC:=zn114_0
theorem zc114_ok: zcode (xfOf Try.f114).code=some zc114:=by kernel_rfl
def zw114:=zU C zc114.eq_1<|zU C zn114_1.eq_1<|zU C zn114_4.eq_1<|zU C zn114_7.eq_1<|zU C zn114_10.eq_1<|zU C zn114_14.eq_1<|zU C zn114_20.eq_1<|zU C zn114_22.eq_1<|zU C zn114_25.eq_1<|zU C zn114_26.eq_1<|zU C Q1m.eq_1<|zU C zn114_28.eq_1<|(zunf C zn114_0.eq_1)
theorem rs114: (xfOf Try.f114).rs=[.tmp 4]:=by kernel_rfl
def xf114:=zF C 114 Try.f114
def zn115_1:=ZC.reg [zv 4 (.assign (.const (.bool false)))]
def zn115_4:=ZC.reg [zu 6 (zmv 0),zu 7 (zcb .len [Tm 6] [91]),zu 8 (zmv 1),zu 9 (zcb .len [Tm 8] [91]),zv 10 (.binOp .neq 3 (Tm 7) (Tm 9) 3)]
def zn115_7:=ZC.reg [zv 4 (.assign (.const (.bool false)))]
def zn115_10:=ZC.reg [zu 11 (zmv 0),zu 12 (zcb .len [Tm 11] [91]),zv 13 (.move (Kn 0))]
def zn115_14:=ZC.reg [zv 14 (.binOp .lss 3 (Tm 13) (Tm 12) 3)]
def zn115_20:=ZC.reg [zu 15 (zmv 13),zv 5 (zas 15)]
def zn115_22:=ZC.draw 9 [] [zdd 0 16 (zmv 0) false [] [] false,zdd 1 17 (zmv 5) false [] [] false,zdd 2 18 (zia 91 16 17) false [] [] false,zdd 3 19 (zld 36 18) false [] [] false,zdd 4 20 (zmv 1) false [] [] false,zdd 5 21 (zmv 5) true [] [] false,zdd 6 22 (zia 91 20 21) true [] [] false,zdd 7 23 (zld 36 22) true [] [] false,zdd 8 24 (.binOp .neq 36 (Tm 19) (Tm 23) 36) true [] [] false]
def zn115_25:=ZC.reg [zv 4 (.assign (.const (.bool false)))]
def zn115_26:=ZC.reg [zu 25 (.binOp .add 3 (Tm 13) (Kn 1) 3),zv 13 (zmv 25)]
def Q1l:=ZC.seq zn115_14 (ZC.seq (ZC.cond (Tm 14) ZC.skip (ZC.exit 0)) (ZC.seq (ZC.block 1 (ZC.seq zn115_20 (ZC.seq zn115_22 (ZC.cond (Tm 24) (ZC.seq zn115_25 ZC.ret) ZC.skip)))) zn115_26))
def zn115_28:=ZC.reg [zv 4 (.assign (.const (.bool true)))]
def zn115_0:=ZC.seq zn115_1 (ZC.seq (ZC.seq zn115_4 (ZC.cond (Tm 10) (ZC.seq zn115_7 ZC.ret) ZC.skip)) (ZC.seq (ZC.seq zn115_10 (ZC.block 0 (ZC.loop Q1l))) (ZC.seq zn115_28 ZC.ret)))
def zc115: ZC:=zn115_0
theorem zc115_ok: zcode (xfOf Try.f115).code=some zc115:=by kernel_rfl
def zw115:=zU C zc115.eq_1<|zU C zn115_1.eq_1<|zU C zn115_4.eq_1<|zU C zn115_7.eq_1<|zU C zn115_10.eq_1<|zU C zn115_14.eq_1<|zU C zn115_20.eq_1<|zU C zn115_22.eq_1<|zU C zn115_25.eq_1<|zU C zn115_26.eq_1<|zU C Q1l.eq_1<|zU C zn115_28.eq_1<|(zunf C zn115_0.eq_1)
theorem rs115: (xfOf Try.f115).rs=[.tmp 4]:=by kernel_rfl
def xf115:=zF C 115 Try.f115
def zn49_1:=ZC.reg [zu 2 (.box 94 (Tm 0)),zu 3 (.box 94 (Tm 1)),zv 4 (.assign (.const (.bool false)))]
def zn49_3:=ZC.reg [zu 7 (zfa 94 2 0),zu 8 (zld 3 7),zu 9 (zfa 94 3 0),zu 10 (zld 3 9),zu 11 (.binOp .eql 3 (Tm 8) (Tm 10) 3),zu 12 (zmv 11),zug 13 (zfa 94 2 1) 12 true false,zug 14 (zld 3 13) 12 true false,zug 15 (zfa 94 3 1) 12 true false,zug 16 (zld 3 15) 12 true false,zug 17 (.binOp .eql 3 (Tm 14) (Tm 16) 3) 12 true false,zu 18 (.pick (Tm 12) (Tm 17) (.const (.bool false))),zu 19 (zmv 18),zug 20 (zfa 94 2 2) 19 true false,zug 21 (zld 3 20) 19 true false,zug 22 (zfa 94 3 2) 19 true false,zug 23 (zld 3 22) 19 true false,zug 24 (.binOp .eql 3 (Tm 21) (Tm 23) 3) 19 true false,zu 25 (.pick (Tm 19) (Tm 24) (.const (.bool false))),zu 26 (zmv 25),zug 27 (zfa 94 2 3) 26 true false,zug 28 (zld 3 27) 26 true false,zug 29 (zfa 94 3 3) 26 true false,zug 30 (zld 3 29) 26 true false,zug 31 (.binOp .eql 3 (Tm 28) (Tm 30) 3) 26 true false,zu 32 (.pick (Tm 26) (Tm 31) (.const (.bool false))),zu 33 (zmv 32),zug 34 (zfa 94 2 4) 33 true false,zug 35 (zld 4 34) 33 true false,zug 36 (zfa 94 3 4) 33 true false,zug 37 (zld 4 36) 33 true false,zug 38 (.binOp .eql 4 (Tm 35) (Tm 37) 4) 33 true false,zu 39 (.pick (Tm 33) (Tm 38) (.const (.bool false))),zu 40 (zmv 39),zug 41 (zfa 94 2 5) 40 true false,zug 42 (zld 25 41) 40 true false,zug 43 (zfa 94 3 5) 40 true false,zug 44 (zld 25 43) 40 true false,zug 45 (.binOp .eql 25 (Tm 42) (Tm 44) 25) 40 true false,zu 46 (.pick (Tm 40) (Tm 45) (.const (.bool false))),zv 5 (zas 46)]
def zn49_5:=ZC.reg [zu 47 (zfa 94 2 10),zu 48 (zld 92 47),zu 49 (zfa 94 3 10),zu 50 (zld 92 49),zu 51 (zcf 112 [Tm 48,Tm 50,.func 113] [92,92,169]),zv 6 (zas 51)]
def zn49_7:=ZC.reg [zu 52 (zmv 5),zu 53 (zmv 52),zug 54 (zfa 94 2 6) 53 true false,zug 55 (zld 3 54) 53 true false,zug 56 (zfa 94 3 6) 53 true false,zug 57 (zld 3 56) 53 true false,zug 58 (.binOp .eql 3 (Tm 55) (Tm 57) 3) 53 true false,zu 59 (.pick (Tm 53) (Tm 58) (.const (.bool false))),zu 60 (zmv 59),zug 61 (zfa 94 2 7) 60 true false,zug 62 (zld 3 61) 60 true false,zug 63 (zfa 94 3 7) 60 true false,zug 64 (zld 3 63) 60 true false,zug 65 (.binOp .eql 3 (Tm 62) (Tm 64) 3) 60 true false,zu 66 (.pick (Tm 60) (Tm 65) (.const (.bool false))),zu 67 (zmv 66),zug 68 (zfa 94 2 8) 67 true false,zug 69 (zld 91 68) 67 true false,zug 70 (zfa 94 3 8) 67 true false,zug 71 (zld 91 70) 67 true false,zug 72 (zcf 115 [Tm 69,Tm 71] [91,91]) 67 true false,zu 73 (.pick (Tm 67) (Tm 72) (.const (.bool false))),zu 74 (zmv 73),zug 75 (zfa 94 2 9) 74 true false,zug 76 (zld 3 75) 74 true false,zug 77 (zfa 94 3 9) 74 true false,zug 78 (zld 3 77) 74 true false,zug 79 (.binOp .eql 3 (Tm 76) (Tm 78) 3) 74 true false,zu 80 (.pick (Tm 74) (Tm 79) (.const (.bool false))),zu 81 (zmv 80),zug 82 (zmv 6) 81 true false,zu 83 (.pick (Tm 81) (Tm 82) (.const (.bool false))),zu 84 (zmv 83),zug 85 (zfa 94 2 11) 84 true false,zug 86 (zld 3 85) 84 true false,zug 87 (zfa 94 3 11) 84 true false,zug 88 (zld 3 87) 84 true false,zug 89 (.binOp .eql 3 (Tm 86) (Tm 88) 3) 84 true false,zu 90 (.pick (Tm 84) (Tm 89) (.const (.bool false))),zu 91 (zmv 90),zug 92 (zfa 94 2 12) 91 true false,zug 93 (zld 3 92) 91 true false,zug 94 (zfa 94 3 12) 91 true false,zug 95 (zld 3 94) 91 true false,zug 96 (.binOp .eql 3 (Tm 93) (Tm 95) 3) 91 true false,zu 97 (.pick (Tm 91) (Tm 96) (.const (.bool false))),zv 4 (zas 97)]
def zn49_0:=ZC.seq zn49_1 (ZC.seq zn49_3 (ZC.seq zn49_5 (ZC.seq zn49_7 ZC.ret)))
def zc49: ZC:=zn49_0
theorem zc49_ok: zcode (xfOf Try.f49).code=some zc49:=by kernel_rfl
def zw49:=zU C zc49.eq_1<|zU C zn49_1.eq_1<|zU C zn49_3.eq_1<|zU C zn49_5.eq_1<|zU C zn49_7.eq_1<|(zunf C zn49_0.eq_1)
theorem rs49: (xfOf Try.f49).rs=[.tmp 4]:=by kernel_rfl
def xf49:=zF C 49 Try.f49
def zn50_1:=ZC.reg [zu 1 (.box 94 (Tm 0)),zv 2 (.assign (.const (.bool false)))]
def zn50_4:=ZC.draw 34 [] [zdd 0 3 (zld 94 1) true [] [] false,zdd 1 4 (zcf 116 [Tm 3] [94]) true [] [] false,zdd 2 5 (.unOp .not 4 (Tm 4)) true [] [] false,zdd 3 6 (zmv 5) true [] [] false,⟨4,some 7,zld 94 1,some (6,false),false,[],[],false⟩,⟨5,some 8,zcf 117 [Tm 7] [94],some (6,false),false,[],[],true⟩,⟨6,some 9,zld 94 1,some (6,false),true,[5],[],false⟩,⟨7,some 10,zcf 49 [Tm 8,Tm 9] [94,94],some (6,false),true,[],[],false⟩,⟨8,some 11,.unOp .not 4 (Tm 10),some (6,false),true,[],[],false⟩,zdd 9 12 (.pick (Tm 6) (.const (.bool true)) (Tm 11)) true [] [] false,zdd 10 13 (zmv 12) true [] [] false,⟨11,some 14,zfa 94 1 6,some (13,false),true,[],[],false⟩,⟨12,some 15,zld 3 14,some (13,false),true,[],[],false⟩,⟨13,some 16,zcf 118 [Tm 15,Kn 0,Kn 600] [3,3,3],some (13,false),true,[],[],false⟩,⟨14,some 17,.unOp .not 4 (Tm 16),some (13,false),true,[],[],false⟩,zdd 15 18 (.pick (Tm 13) (.const (.bool true)) (Tm 17)) true [] [] false,zdd 16 19 (zmv 18) true [] [] false,⟨17,some 20,zfa 94 1 7,some (19,false),true,[],[],false⟩,⟨18,some 21,zld 3 20,some (19,false),true,[],[],false⟩,⟨19,some 22,zcf 118 [Tm 21,Kn 0,Kn 600] [3,3,3],some (19,false),true,[],[],false⟩,⟨20,some 23,.unOp .not 4 (Tm 22),some (19,false),true,[],[],false⟩,zdd 21 24 (.pick (Tm 19) (.const (.bool true)) (Tm 23)) true [] [] false,zdd 22 25 (zmv 24) true [] [] false,⟨23,some 26,zfa 94 1 11,some (25,false),true,[],[],false⟩,⟨24,some 27,zld 3 26,some (25,false),true,[],[],false⟩,⟨25,some 28,zcf 118 [Tm 27,Kn 0,Kn 600] [3,3,3],some (25,false),true,[],[],false⟩,⟨26,some 29,.unOp .not 4 (Tm 28),some (25,false),true,[],[],false⟩,zdd 27 30 (.pick (Tm 25) (.const (.bool true)) (Tm 29)) true [] [] false,zdd 28 31 (zmv 30) true [] [] false,⟨29,some 32,zfa 94 1 12,some (31,false),true,[],[],false⟩,⟨30,some 33,zld 3 32,some (31,false),true,[],[],false⟩,⟨31,some 34,zcf 118 [Tm 33,Kn 0,Kn 4611686018427387903] [3,3,3],some (31,false),true,[],[],false⟩,⟨32,some 35,.unOp .not 4 (Tm 34),some (31,false),true,[],[],false⟩,zdd 33 36 (.pick (Tm 31) (.const (.bool true)) (Tm 35)) true [] [] false]
def zn50_7:=ZC.reg [zv 2 (.assign (.const (.bool false)))]
def zn50_10:=ZC.reg [zu 37 (zfa 94 1 0),zv 38 (zld 3 37)]
def zn50_13:=ZC.reg [zu 40 (.binOp .eql 3 (Tm 38) (Kn 2) 3),zv 39 (zas 40)]
def zn50_16:=ZC.reg [zu 41 (zfa 94 1 8),zu 42 (zld 91 41),zu 43 (zcb .len [Tm 42] [91]),zu 44 (.binOp .leq 3 (Tm 43) (Kn 16) 3),zu 45 (zmv 44),zug 46 (zfa 94 1 8) 45 true false,zug 47 (zld 91 46) 45 true false,zug 48 (zcf 119 [Tm 47,.func 120] [91,173]) 45 true false,zug 49 (.unOp .not 4 (Tm 48)) 45 true false,zu 50 (.pick (Tm 45) (Tm 49) (.const (.bool false))),zv 2 (zas 50)]
def zn50_18:=ZC.reg [zu 52 (.binOp .eql 3 (Tm 38) (Kn 3) 3),zv 51 (zas 52)]
def zn50_21:=ZC.reg [zu 53 (zfa 94 1 10),zu 54 (zld 92 53),zu 55 (zfa 94 1 9),zu 56 (zld 3 55),zu 57 (zcf 122 [Tm 54,Tm 56] [92,3]),zv 2 (zas 57)]
def zn50_23:=ZC.reg [zv 2 (.assign (.const (.bool true)))]
def zn50_0:=ZC.seq zn50_1 (ZC.seq (ZC.seq zn50_4 (ZC.cond (Tm 36) (ZC.seq zn50_7 ZC.ret) ZC.skip)) (ZC.seq (ZC.seq zn50_10 (ZC.block 0 (ZC.seq zn50_13 (ZC.cond (Tm 39) (ZC.seq zn50_16 ZC.ret) (ZC.seq zn50_18 (ZC.cond (Tm 51) (ZC.seq zn50_21 ZC.ret) ZC.skip)))))) (ZC.seq zn50_23 ZC.ret)))
def zc50: ZC:=zn50_0
theorem zc50_ok: zcode (xfOf Try.f50).code=some zc50:=by kernel_rfl
def zw50:=zU C zc50.eq_1<|zU C zn50_1.eq_1<|zU C zn50_4.eq_1<|zU C zn50_7.eq_1<|zU C zn50_10.eq_1<|zU C zn50_13.eq_1<|zU C zn50_16.eq_1<|zU C zn50_18.eq_1<|zU C zn50_21.eq_1<|zU C zn50_23.eq_1<|(zunf C zn50_0.eq_1)
theorem rs50: (xfOf Try.f50).rs=[.tmp 2]:=by kernel_rfl
def xf50:=zF C 50 Try.f50
def zn46_1:=ZC.reg [zu 3 (.box 94 (Tm 1)),zu 4 (.assign (.const (.slice none 0 0))),zv 5 (.assign (Kn 0))]
def zn46_4:=ZC.reg [zu 6 (zld 94 3),zu 7 (zcf 50 [Tm 6] [94]),zv 8 (.unOp .not 4 (Tm 7))]
def zn46_7:=ZC.reg [zu 4 (.assign (.const (.slice none 0 0))),zv 5 (.assign (Kn 1))]
def zn46_9:=ZC.reg [zu 9 (zmv 0),zu 10 (zld 94 3),zu 11 (zcf 108 [Tm 10] [94]),zu 12 (zcf 107 [Tm 9,Tm 11] [3,68]),zu 4 (zas 12),zv 5 (.assign (Kn 0))]
def zn46_0:=ZC.seq zn46_1 (ZC.seq (ZC.seq zn46_4 (ZC.cond (Tm 8) (ZC.seq zn46_7 ZC.ret) ZC.skip)) (ZC.seq zn46_9 ZC.ret))
def zc46: ZC:=zn46_0
theorem zc46_ok: zcode (xfOf Try.f46).code=some zc46:=by kernel_rfl
def zw46:=zU C zc46.eq_1<|zU C zn46_1.eq_1<|zU C zn46_4.eq_1<|zU C zn46_7.eq_1<|zU C zn46_9.eq_1<|(zunf C zn46_0.eq_1)
theorem rs46: (xfOf Try.f46).rs=[.tmp 4,.tmp 5]:=by kernel_rfl
def xf46:=zF C 46 Try.f46
end Go.Proofs.Ytpchcfkebljopaa
end
section
namespace Go.Proofs.Ytpchcfkebljopaa
open Go.Cl Go Go.RowKit
def eff(e:Z0c)(o:X0d): Except Int Z0c:=
 match Mach.doOp ⟨e,⟨.nil,[],fun _=>rfl⟩,0⟩ o with
 |.error c=>.error c
 |.ok r=>.ok r.1.e_
def firstW{α:Type}(f:α->Bool): List α->Nat->Int
 |[],_=>-1
 |x::l,k=>if f x=true then k else firstW f l (k+1)
theorem V1g{α:Type}(f:α->Bool): ∀(l:List α) (k:Nat),decide (0<=firstW f l k)=l.any f
 |[],k=>rfl
 |x::l,k=>by
  simp only[firstW,List.any_cons]
  by_cases h:f x=true
  ·simp[h]
  ·have:=V1g f l (k+1);simp[h,<- this]
theorem V2h{α:Type}[Inhabited α]{l:List α}{k:Nat}(h:k<l.length): l.drop k=nth l k::l.drop (k+1):=by
 rw[Y0h h];exact List.drop_eq_getElem_cons h
def inRight(x:Y0a): Bool:=within x.Buttons 0 255&&within x.X (-64) 64&&within x.Y (-64) 64
def cellRight(x:X0a): Bool:=inRight x.In&&(x.Real || decide (x.In=Y0a.zero))
def rowRight(n:Int)(r:Lst X0a): Bool:=decide ((r.l.length:Int)=n)&&r.l.all cellRight
def rowsRight(l:List (Lst X0a))(n:Int): Bool:=l.all (rowRight n)&&decide (l.length<=8)&&within n 1 8
def headRight(p:Q0a): Bool:=within p.Kind 1 6&&within p.Slot 0 7&&within p.Seq 0 65535&&within p.Last 0 65535&&(p.Any || decide (p.Last=0)&&decide (p.Acks=0))
def ownP(p:Q0a): Q0a:=
 let x:Q0a:={Q0a.zero with Kind:=p.Kind,Slot:=p.Slot,Seq:=p.Seq,Last:=p.Last,Any:=p.Any,Acks:=p.Acks}
 if p.Kind=2 then {x with Got:=p.Got,First:=p.First,Inputs:=p.Inputs} else if p.Kind=3 then {x with First:=p.First,Players:=p.Players,Rows:=p.Rows} else if p.Kind=4 then {x with Frame:=p.Frame,Mark:=p.Mark} else x
def rowsL(r:Lst (Lst X0a)): List (List X0a):=r.l.map Lst.l
def sameP(a b:Q0a): Bool:=decide (a.Kind=b.Kind)&&decide (a.Slot=b.Slot)&&decide (a.Seq=b.Seq)&&decide (a.Last=b.Last)&&decide (a.Any=b.Any)&&decide (a.Acks=b.Acks)&&decide (a.Got=b.Got)&&decide (a.First=b.First)&&decide (a.Inputs.l=b.Inputs.l)&&decide (a.Players=b.Players)&&decide (rowsL a.Rows=rowsL b.Rows)&&decide (a.Frame=b.Frame)&&decide (a.Mark=b.Mark)
def packRight(p:Q0a): Bool:=headRight p&&sameP (ownP p) p&&within p.Got 0 600&&within p.First 0 600&&within p.Frame 0 600&&within p.Mark 0 4611686018427387903&&(if p.Kind=2 then decide (p.Inputs.l.length<=16)&&p.Inputs.l.all inRight else if p.Kind=3 then rowsRight p.Rows.l p.Players else true)
theorem any_not{α:Type}(f:α->Bool)(l:List α): (l.any fun o=>!f o) = !l.all f:=by
 induction l with
 |nil=>rfl
 |cons x l ih=>simp[ih,Bool.not_and]
end Go.Proofs.Ytpchcfkebljopaa
end
section
namespace Go.Proofs.Ytpchcfkebljopaa
open Go.Cl Go Go.RowKit
set_option maxRecDepth 100000
set_option linter.constructorNameAsVariable false
def R118: Rel:=fun args p r=>∃(n lo hi:Int),args=[I n,I lo,I hi]/\r=.ret (Bo (within n lo hi)) p
theorem t118{T:XCall}(h:Has T 118 R118)(n lo hi:Int){p:Hp}:T 118 [I n,I lo,I hi] p=.ret (Bo (within n lo hi)) p:=h _ _ _ ⟨n,lo,hi,rfl,rfl⟩
theorem zq118{A B:Prop}(k:B)(h:A=B:=by have zy:=zA @zw118<|zA @rs118<|zA @tt3<|ti3.eq_1;exact zQ): A:=h▸k
theorem zno118{P:Prop}(h:P:=by intro jj;simp[CV.has,CV.hasL,fault,X0b.nohas]): P:=h
theorem c118: Con C 118 R118:=by
 refine V0e C ?_ ?_ ?_
 ·rintro args p r r' ⟨n,lo,hi,h,e⟩ ⟨n',lo',hi',h',e'⟩
  subst e;subst e';simp_all
 ·rintro args p r ⟨n,lo,hi,h,rfl⟩;exact zr1
 rintro args p r ⟨n,lo,hi,rfl,rfl⟩
 refine zW C false [] zT rfl xf118 zc118_ok fun call zh hF=>?_
 clear zh
 (have zx:=zT;refine zq118 ?_;try exact zT)
 repeat'(apply zK.s<;>intro hc<;>(try simp only[zhd]at hc)<;>(try have hw:=K0a hc)<;>(refine zq118 ?_;try exact zT))
 all_goals(try clear zx)
 all_goals refine V0c hF zle (Q0d ?_ (K0c zno118))
 all_goals simp[within,hc]
def R121: Rel:=fun args p r=>∃(x:Y0a),args=[x.cv]/\r=.ret (Bo (inRight x)) p
theorem t121{T:XCall}(h:Has T 121 R121)(x:Y0a){p:Hp}:T 121 [x.cv] p=.ret (Bo (inRight x)) p:=h _ _ _ ⟨x,rfl,rfl⟩
theorem zq121{A B:Prop}(k:B)(h:A=B:=by have zy:=zA @zw121<|zA @rs121<|zA @tt3<|zA @tt36<|zA ti3.eq_1<|zA ti36.eq_1<|zA @t_118<|@Q0f;exact zQ): A:=h▸k
theorem zno121{P:Prop}(h:P:=by intro jj;simp[CV.has,CV.hasL,fault,X0b.nohas,Y0a.nohas]): P:=h
theorem c121: Con C 121 R121:=by
 refine V0e C ?_ ?_ ?_
 ·rintro args p r r' ⟨x,h,e⟩ ⟨x',h',e'⟩
  subst e;subst e';simp_all[Y0a.inj_iff]
 ·rintro args p r ⟨x,h,rfl⟩;exact zr1
 rintro args p r ⟨x,rfl,rfl⟩
 refine zW C false [(118,R118)] ⟨c118,zT⟩ rfl xf121 zc121_ok fun call zh hF=>?_
 have t_118:=@t118 _ zh.1
 clear zh
 (have zx:=zT;refine zq121 ?_;try exact zT)
 repeat'(apply zK.s<;>intro hc<;>(try simp only[zhd]at hc)<;>(try have hw:=K0a hc)<;>(refine zq121 ?_;try exact zT))
 all_goals(try clear zx)
 all_goals refine V0c hF zle (Q0d ?_ (K0c zno121))
 all_goals simp_all[inRight]
def R172: Rel:=fun args p r=>∃(x:X0a),args=[x.cv]/\r=.ret (Bo (cellRight x)) p
theorem t172{T:XCall}(h:Has T 172 R172)(x:X0a){p:Hp}:T 172 [x.cv] p=.ret (Bo (cellRight x)) p:=h _ _ _ ⟨x,rfl,rfl⟩
theorem zq172{A B:Prop}(k:B)(h:A=B:=by have zy:=zA @zw172<|zA @rs172<|zA @tt4<|zA @tt36<|zA @tt110<|zA ti4.eq_1<|zA ti36.eq_1<|zA ti110.eq_1<|zA @t_121<|zA @Q0f<|@Y0f;exact zQ): A:=h▸k
theorem zno172{P:Prop}(h:P:=by intro jj;simp[CV.has,CV.hasL,fault,X0b.nohas,Y0a.nohas,X0a.nohas]): P:=h
theorem c172: Con C 172 R172:=by
 refine V0e C ?_ ?_ ?_
 ·rintro args p r r' ⟨x,h,e⟩ ⟨x',h',e'⟩
  subst e;subst e';simp_all[Y0a.inj_iff,X0a.inj_iff]
 ·rintro args p r ⟨x,h,rfl⟩;exact zr1
 rintro args p r ⟨x,rfl,rfl⟩
 refine zW C false [(121,R121)] ⟨c121,zT⟩ rfl xf172 zc172_ok fun call zh hF=>?_
 have t_121:=@t121 _ zh.1
 clear zh
 (have zx:=zT;refine zq172 ?_;try exact zT)
 repeat'(apply zK.s<;>intro hc<;>(try simp only[zhd]at hc)<;>(try have hw:=K0a hc)<;>(refine zq172 ?_;try exact zT))
 all_goals(try clear zx)
 all_goals refine V0c hF zle (Q0d ?_ (K0c zno172))
 all_goals(simp_all[cellRight,Y0a.zero]<;>first|rfl|congr)
def R171: Rel:=fun args p r=>∃(x:X0a),args=[x.cv]/\r=.ret (Bo (!cellRight x)) p
theorem t171{T:XCall}(h:Has T 171 R171)(x:X0a){p:Hp}:T 171 [x.cv] p=.ret (Bo (!cellRight x)) p:=h _ _ _ ⟨x,rfl,rfl⟩
theorem zq171{A B:Prop}(k:B)(h:A=B:=by have zy:=zA @zw171<|zA @rs171<|zA @tt110<|zA ti110.eq_1<|zA @t_172<|@Y0f;exact zQ): A:=h▸k
theorem zno171{P:Prop}(h:P:=by intro jj;simp[CV.has,CV.hasL,fault,X0b.nohas,X0a.nohas]): P:=h
theorem c171: Con C 171 R171:=by
 refine V0e C ?_ ?_ ?_
 ·rintro args p r r' ⟨x,h,e⟩ ⟨x',h',e'⟩
  subst e;subst e';simp_all[X0a.inj_iff]
 ·rintro args p r ⟨x,h,rfl⟩;exact zr1
 rintro args p r ⟨x,rfl,rfl⟩
 refine zW C false [(172,R172)] ⟨c172,zT⟩ rfl xf171 zc171_ok fun call zh hF=>?_
 have t_172:=@t172 _ zh.1
 clear zh
 (have zx:=zT;refine zq171 ?_;try exact zT)
 repeat'(apply zK.s<;>intro hc<;>(try simp only[zhd]at hc)<;>(try have hw:=K0a hc)<;>(refine zq171 ?_;try exact zT))
 all_goals(try clear zx)
 all_goals exact V0c hF zle (Q0d rfl (K0c zno171))
def R120: Rel:=fun args p r=>∃(x:Y0a),args=[x.cv]/\r=.ret (Bo (!inRight x)) p
theorem t120{T:XCall}(h:Has T 120 R120)(x:Y0a){p:Hp}:T 120 [x.cv] p=.ret (Bo (!inRight x)) p:=h _ _ _ ⟨x,rfl,rfl⟩
theorem zq120{A B:Prop}(k:B)(h:A=B:=by have zy:=zA @zw120<|zA @rs120<|zA @tt36<|zA ti36.eq_1<|zA @t_121<|@Q0f;exact zQ): A:=h▸k
theorem zno120{P:Prop}(h:P:=by intro jj;simp[CV.has,CV.hasL,fault,X0b.nohas,Y0a.nohas]): P:=h
theorem c120: Con C 120 R120:=by
 refine V0e C ?_ ?_ ?_
 ·rintro args p r r' ⟨x,h,e⟩ ⟨x',h',e'⟩
  subst e;subst e';simp_all[Y0a.inj_iff]
 ·rintro args p r ⟨x,h,rfl⟩;exact zr1
 rintro args p r ⟨x,rfl,rfl⟩
 refine zW C false [(121,R121)] ⟨c121,zT⟩ rfl xf120 zc120_ok fun call zh hF=>?_
 have t_121:=@t121 _ zh.1
 clear zh
 (have zx:=zT;refine zq120 ?_;try exact zT)
 repeat'(apply zK.s<;>intro hc<;>(try simp only[zhd]at hc)<;>(try have hw:=K0a hc)<;>(refine zq120 ?_;try exact zT))
 all_goals(try clear zx)
 all_goals exact V0c hF zle (Q0d rfl (K0c zno120))
def J169(l:Lst Y0a)(p:Hp)(n:Nat)(ρ:Env)(q:Hp): Prop:=
 ∃(k:Nat),n=l.l.length-k/\k<=l.l.length/\ρ 0=l.cv Y0a.cv/\ρ 1=.fn 120 [] []/\ρ 7=I l.l.length/\ρ 8=I k/\firstW (fun o=>!inRight o) (l.l.drop k) k=firstW (fun o=>!inRight o) l.l 0/\HpLe p q
def R169: Rel:=fun args p r=>∃(l:Lst Y0a),args=[l.cv Y0a.cv,.fn 120 [] []]/\(l.l.length<=1000000)/\r=.ret (I (firstW (fun o=>!inRight o) l.l 0)) p
theorem t169{T:XCall}(h:Has T 169 R169)(l:Lst Y0a){p:Hp}(hl:l.l.length<=1000000): T 169 [l.cv Y0a.cv,.fn 120 [] []] p=.ret (I (firstW (fun o=>!inRight o) l.l 0)) p:=h _ _ _ ⟨l,rfl,hl,rfl⟩
theorem zq169{A B:Prop}(k:B)(h:A=B:=by have zy:=zA @zw169<|zA @rs169<|zA @tt3<|zA @tt36<|zA @tt91<|zA ti3.eq_1<|zA ti36.eq_1<|zA ti91.eq_1<|zA @t_120<|zA @Q0f<|zA @zsl91<|@hl;exact zQ): A:=h▸k
theorem zno169{P:Prop}(h:P:=by intro jj;simp[CV.has,CV.hasL,fault,X0b.nohas,Y0a.nohas]): P:=h
theorem c169: Con C 169 R169:=by
 refine V0e C ?_ ?_ ?_
 ·rintro args p r r' ⟨l,h,hl,e⟩ ⟨l',h',hl',e'⟩
  subst e;subst e';simp_all[Y0a.inj_iff,Y0k]
 ·rintro args p r ⟨l,h,hl,rfl⟩;exact zr1
 rintro args p r ⟨l,rfl,hl,rfl⟩
 refine zW C false [(120,R120)] ⟨c120,zT⟩ rfl xf169 zc169_ok fun call zh hF=>?_
 have t_120:=@t120 _ zh.1
 clear zh
 (have zx:=zT;refine zq169 ?_;try exact zT)
 repeat'(apply zK.s<;>intro hc<;>(try simp only[zhd]at hc)<;>(try have hw:=K0a hc)<;>(refine zq169 ?_;try exact zT))
 all_goals(try clear zx)
 (show W C false noExt call (ZC.loop X2k) _ _ _);refine Y0g C false noExt call X2k _ _ _ (J169 l p) l.l.length ⟨0,rfl,by omega,(by simp[put_at,X0c,K0f]),(by simp[put_at,X0c];rfl),(by simp[put_at,X0c,K0f]),(by simp[put_at,X0c,K0f]),by simp,zle⟩ ?_
 rintro n ρ q ⟨k,rfl,hk,e0,e1,e7,e8,hj,hle⟩
 by_cases hlt:(k:Int)<l.l.length
 ·have hd:=V2h (l:=l.l) (k:=k) (by omega)
  rw[hd]at hj
  simp only[firstW]at hj
  cases hr:inRight (nth l.l k) with
  |true=>
   rw[if_neg (by simp[hr])]at hj
   (have zx:=zA e0 (zA e1 (zA e7 (zA e8 (zA hlt hr))));refine zq169 ?_;try exact zT)
   repeat'(apply zK.s<;>intro hc<;>(try simp only[zhd]at hc)<;>(try have hw:=K0a hc)<;>(refine zq169 ?_;try exact zT))
   all_goals(try clear zx)
   exact⟨l.l.length-(k+1),by omega,k+1,rfl,by omega,zev,zev,zev,zev,by simpa using hj,zlq⟩
  |false=>
   rw[if_pos (by simp[hr])]at hj
   (have zx:=zA e0 (zA e1 (zA e7 (zA e8 (zA hlt hr))));refine zq169 ?_;try exact zT)
   repeat'(apply zK.s<;>intro hc<;>(try simp only[zhd]at hc)<;>(try have hw:=K0a hc)<;>(refine zq169 ?_;try exact zT))
   all_goals(try clear zx)
   refine V0c hF zlq (Q0d ?_ (K0c zno169))
   rw[<- hj]
 ·(have zx:=zA e0 (zA e1 (zA e7 (zA e8 hlt)));refine zq169 ?_;try exact zT)
  repeat'(apply zK.s<;>intro hc<;>(try simp only[zhd]at hc)<;>(try have hw:=K0a hc)<;>(refine zq169 ?_;try exact zT))
  all_goals(try clear zx)
  refine V0c hF zlq (Q0d ?_ (K0c zno169))
  rw[<- hj,List.drop_eq_nil_of_le (by omega)];rfl
def R119: Rel:=fun args p r=>∃(l:Lst Y0a),args=[l.cv Y0a.cv,.fn 120 [] []]/\(l.l.length<=1000000)/\r=.ret (Bo (!l.l.all inRight)) p
theorem t119{T:XCall}(h:Has T 119 R119)(l:Lst Y0a){p:Hp}(hl:l.l.length<=1000000): T 119 [l.cv Y0a.cv,.fn 120 [] []] p=.ret (Bo (!l.l.all inRight)) p:=h _ _ _ ⟨l,rfl,hl,rfl⟩
theorem zq119{A B:Prop}(k:B)(h:A=B:=by have zy:=zA @zw119<|zA @rs119<|zA @tt3<|zA ti3.eq_1<|zA @t_169<|zA @Q0f<|@hl;exact zQ): A:=h▸k
theorem zno119{P:Prop}(h:P:=by intro jj;simp[CV.has,CV.hasL,fault,X0b.nohas,Y0a.nohas]): P:=h
theorem c119: Con C 119 R119:=by
 refine V0e C ?_ ?_ ?_
 ·rintro args p r r' ⟨l,h,hl,e⟩ ⟨l',h',hl',e'⟩
  subst e;subst e';simp_all[Y0a.inj_iff,Y0k]
 ·rintro args p r ⟨l,h,hl,rfl⟩;exact zr1
 rintro args p r ⟨l,rfl,hl,rfl⟩
 refine zW C false [(169,R169)] ⟨c169,zT⟩ rfl xf119 zc119_ok fun call zh hF=>?_
 have t_169:=@t169 _ zh.1
 clear zh
 (have zx:=zT;refine zq119 ?_;try exact zT)
 repeat'(apply zK.s<;>intro hc<;>(try simp only[zhd]at hc)<;>(try have hw:=K0a hc)<;>(refine zq119 ?_;try exact zT))
 all_goals(try clear zx)
 refine V0c hF zle (Q0d ?_ (K0c zno119))
 rw[<- any_not,<- V1g _ _ 0]
def J192(l:Lst X0a)(p:Hp)(n:Nat)(ρ:Env)(q:Hp): Prop:=
 ∃(k:Nat),n=l.l.length-k/\k<=l.l.length/\ρ 0=l.cv X0a.cv/\ρ 1=.fn 171 [] []/\ρ 7=I l.l.length/\ρ 8=I k/\firstW (fun o=>!cellRight o) (l.l.drop k) k=firstW (fun o=>!cellRight o) l.l 0/\HpLe p q
def R192: Rel:=fun args p r=>∃(l:Lst X0a),args=[l.cv X0a.cv,.fn 171 [] []]/\(l.l.length<=1000000)/\r=.ret (I (firstW (fun o=>!cellRight o) l.l 0)) p
theorem t192{T:XCall}(h:Has T 192 R192)(l:Lst X0a){p:Hp}(hl:l.l.length<=1000000): T 192 [l.cv X0a.cv,.fn 171 [] []] p=.ret (I (firstW (fun o=>!cellRight o) l.l 0)) p:=h _ _ _ ⟨l,rfl,hl,rfl⟩
theorem zq192{A B:Prop}(k:B)(h:A=B:=by have zy:=zA @zw192<|zA @rs192<|zA @tt3<|zA @tt108<|zA @tt110<|zA ti3.eq_1<|zA ti108.eq_1<|zA ti110.eq_1<|zA @t_171<|zA @Y0f<|zA @zsl108<|@hl;exact zQ): A:=h▸k
theorem zno192{P:Prop}(h:P:=by intro jj;simp[CV.has,CV.hasL,fault,X0b.nohas,X0a.nohas]): P:=h
theorem c192: Con C 192 R192:=by
 refine V0e C ?_ ?_ ?_
 ·rintro args p r r' ⟨l,h,hl,e⟩ ⟨l',h',hl',e'⟩
  subst e;subst e';simp_all[X0a.inj_iff,Q0i]
 ·rintro args p r ⟨l,h,hl,rfl⟩;exact zr1
 rintro args p r ⟨l,rfl,hl,rfl⟩
 refine zW C false [(171,R171)] ⟨c171,zT⟩ rfl xf192 zc192_ok fun call zh hF=>?_
 have t_171:=@t171 _ zh.1
 clear zh
 (have zx:=zT;refine zq192 ?_;try exact zT)
 repeat'(apply zK.s<;>intro hc<;>(try simp only[zhd]at hc)<;>(try have hw:=K0a hc)<;>(refine zq192 ?_;try exact zT))
 all_goals(try clear zx)
 (show W C false noExt call (ZC.loop V2b) _ _ _);refine Y0g C false noExt call V2b _ _ _ (J192 l p) l.l.length ⟨0,rfl,by omega,(by simp[put_at,X0c,K0f]),(by simp[put_at,X0c];rfl),(by simp[put_at,X0c,K0f]),(by simp[put_at,X0c,K0f]),by simp,zle⟩ ?_
 rintro n ρ q ⟨k,rfl,hk,e0,e1,e7,e8,hj,hle⟩
 by_cases hlt:(k:Int)<l.l.length
 ·have hd:=V2h (l:=l.l) (k:=k) (by omega)
  rw[hd]at hj
  simp only[firstW]at hj
  cases hr:cellRight (nth l.l k) with
  |true=>
   rw[if_neg (by simp[hr])]at hj
   (have zx:=zA e0 (zA e1 (zA e7 (zA e8 (zA hlt hr))));refine zq192 ?_;try exact zT)
   repeat'(apply zK.s<;>intro hc<;>(try simp only[zhd]at hc)<;>(try have hw:=K0a hc)<;>(refine zq192 ?_;try exact zT))
   all_goals(try clear zx)
   exact⟨l.l.length-(k+1),by omega,k+1,rfl,by omega,zev,zev,zev,zev,by simpa using hj,zlq⟩
  |false=>
   rw[if_pos (by simp[hr])]at hj
   (have zx:=zA e0 (zA e1 (zA e7 (zA e8 (zA hlt hr))));refine zq192 ?_;try exact zT)
   repeat'(apply zK.s<;>intro hc<;>(try simp only[zhd]at hc)<;>(try have hw:=K0a hc)<;>(refine zq192 ?_;try exact zT))
   all_goals(try clear zx)
   refine V0c hF zlq (Q0d ?_ (K0c zno192))
   rw[<- hj]
 ·(have zx:=zA e0 (zA e1 (zA e7 (zA e8 hlt)));refine zq192 ?_;try exact zT)
  repeat'(apply zK.s<;>intro hc<;>(try simp only[zhd]at hc)<;>(try have hw:=K0a hc)<;>(refine zq192 ?_;try exact zT))
  all_goals(try clear zx)
  refine V0c hF zlq (Q0d ?_ (K0c zno192))
  rw[<- hj,List.drop_eq_nil_of_le (by omega)];rfl
def R170: Rel:=fun args p r=>∃(l:Lst X0a),args=[l.cv X0a.cv,.fn 171 [] []]/\(l.l.length<=1000000)/\r=.ret (Bo (!l.l.all cellRight)) p
theorem t170{T:XCall}(h:Has T 170 R170)(l:Lst X0a){p:Hp}(hl:l.l.length<=1000000): T 170 [l.cv X0a.cv,.fn 171 [] []] p=.ret (Bo (!l.l.all cellRight)) p:=h _ _ _ ⟨l,rfl,hl,rfl⟩
theorem zq170{A B:Prop}(k:B)(h:A=B:=by have zy:=zA @zw170<|zA @rs170<|zA @tt3<|zA ti3.eq_1<|zA @t_192<|zA @Y0f<|@hl;exact zQ): A:=h▸k
theorem zno170{P:Prop}(h:P:=by intro jj;simp[CV.has,CV.hasL,fault,X0b.nohas,X0a.nohas]): P:=h
theorem c170: Con C 170 R170:=by
 refine V0e C ?_ ?_ ?_
 ·rintro args p r r' ⟨l,h,hl,e⟩ ⟨l',h',hl',e'⟩
  subst e;subst e';simp_all[X0a.inj_iff,Q0i]
 ·rintro args p r ⟨l,h,hl,rfl⟩;exact zr1
 rintro args p r ⟨l,rfl,hl,rfl⟩
 refine zW C false [(192,R192)] ⟨c192,zT⟩ rfl xf170 zc170_ok fun call zh hF=>?_
 have t_192:=@t192 _ zh.1
 clear zh
 (have zx:=zT;refine zq170 ?_;try exact zT)
 repeat'(apply zK.s<;>intro hc<;>(try simp only[zhd]at hc)<;>(try have hw:=K0a hc)<;>(refine zq170 ?_;try exact zT))
 all_goals(try clear zx)
 refine V0c hF zle (Q0d ?_ (K0c zno170))
 rw[<- any_not,<- V1g _ _ 0]
end Go.Proofs.Ytpchcfkebljopaa
end
section
namespace Go.Proofs.Ytpchcfkebljopaa
open Go.Cl Go Go.RowKit
set_option maxRecDepth 100000
def zn88_1:=ZC.reg [zv 0 (.assign (.const (.pointer none)))]
def zn88_3:=ZC.reg [⟨some 1,.build 203 ⟨[]⟩,none,false⟩,zu 2 (.box 203 (Tm 1)),zv 0 (zas 2)]
def zn88_0:=ZC.seq zn88_1 (ZC.seq zn88_3 ZC.ret)
def zc88: ZC:=zn88_0
theorem zc88_ok: zcode (xfOf Try.f88).code=some zc88:=by kernel_rfl
def zw88:=zU C zc88.eq_1<|zU C zn88_1.eq_1<|zU C zn88_3.eq_1<|(zunf C zn88_0.eq_1)
theorem rs88: (xfOf Try.f88).rs=[.tmp 0]:=by kernel_rfl
def xf88:=zF C 88 Try.f88
def zn89_1:=ZC.reg [zu 7 (zmv 2),zu 8 (zcf 156 [Tm 7] [3]),zu 9 (.binOp .sub 3 (Tm 8) (Kn 1) 3),zv 6 (zas 9)]
def zn89_6:=ZC.reg [zu 10 (zmv 6),zv 11 (.binOp .geq 3 (Tm 10) (Kn 0) 3)]
def zn89_10:=ZC.reg [zu 14 (zmv 0),zu 15 (zmv 1),zu 16 (zmv 6),zu 17 (.binOp .shr 25 (Tm 15) (Tm 16) 3),zu 18 (.binOp .and 25 (Tm 17) (.const (.int .u64 1)) 25),zv 19 (zcf 157 [Tm 14,Tm 18] [143,25])]
def zn89_11:=ZC.reg [zu 12 (zmv 6),zu 13 (.binOp .sub 3 (Tm 12) (Kn 1) 3),zv 6 (zas 13)]
def zn89_4:=ZC.seq (ZC.seq zn89_6 (ZC.cond (Tm 11) ZC.skip (ZC.exit 0))) (ZC.seq (ZC.block 1 zn89_10) zn89_11)
def zn89_0:=ZC.seq zn89_1 (ZC.block 0 (ZC.loop zn89_4))
def zc89: ZC:=zn89_0
theorem zc89_ok: zcode (xfOf Try.f89).code=some zc89:=by kernel_rfl
def zw89:=zU C zc89.eq_1<|zU C zn89_1.eq_1<|zU C zn89_6.eq_1<|zU C zn89_10.eq_1<|zU C zn89_11.eq_1<|zU C zn89_4.eq_1<|(zunf C zn89_0.eq_1)
theorem rs89: (xfOf Try.f89).rs=[]:=by kernel_rfl
def xf89:=zF C 89 Try.f89
def zn91_1:=ZC.reg [zv 2 (.assign (.const (.slice none 0 0)))]
def zn91_3:=ZC.reg [zu 3 (zmv 0),zu 4 (.nilCheck (Tm 3)),zu 5 (zfa 203 4 0),zu 6 (zld 68 5),zu 7 (zcf 159 [Tm 6] [68]),zv 2 (zas 7)]
def zn91_0:=ZC.seq zn91_1 (ZC.seq zn91_3 ZC.ret)
def zc91: ZC:=zn91_0
theorem zc91_ok: zcode (xfOf Try.f91).code=some zc91:=by kernel_rfl
def zw91:=zU C zc91.eq_1<|zU C zn91_1.eq_1<|zU C zn91_3.eq_1<|(zunf C zn91_0.eq_1)
theorem rs91: (xfOf Try.f91).rs=[.tmp 2]:=by kernel_rfl
def xf91:=zF C 91 Try.f91
def zn157_2:=ZC.reg [zu 4 (zmv 0),zu 5 (.nilCheck (Tm 4)),zu 6 (zfa 203 5 1),zu 7 (zld 3 6),zu 8 (.binOp .rem 3 (Tm 7) (Kn 8) 3),zv 9 (.binOp .eql 3 (Tm 8) (Kn 0) 3)]
def zn157_4:=ZC.reg [zu 10 (zmv 0),zu 11 (zmv 0),zu 12 (.nilCheck (Tm 11)),zu 13 (zfa 203 12 0),zu 14 (zld 68 13),⟨some 15,.buildSlice 68 1 ⟨[(0,.const (.int .u8 0))]⟩,none,false⟩,zu 16 (zcb .append [Tm 14,Tm 15] [68,68]),zu 17 (.nilCheck (Tm 10)),zu 18 (zfa 203 17 0),zv0 (.store 68 (Tm 18) (Tm 16))]
def zn157_6:=ZC.draw 23 [] [zdd 0 19 (zmv 0) false [] [] false,zdd 1 20 (.nilCheck (Tm 19)) false [] [] false,zdd 2 21 (zfa 203 20 0) false [] [] false,zdd 3 22 (zld 68 21) false [] [] false,zdd 4 23 (zmv 0) false [] [] false,zdd 5 24 (.nilCheck (Tm 23)) false [] [] false,zdd 6 25 (zfa 203 24 1) false [] [] false,zdd 7 26 (zld 3 25) false [] [] false,zdd 8 27 (.binOp .quo 3 (Tm 26) (Kn 8) 3) false [] [] false,zdd 9 28 (zia 68 22 27) false [] [] false,zdd 10 29 (zld 5 28) false [] [] false,zdd 11 30 (zmv 1) false [] [] false,zdd 12 31 (zmv 0) true [] [] false,zdd 13 32 (.nilCheck (Tm 31)) true [] [] false,zdd 14 33 (zfa 203 32 1) true [] [] false,zdd 15 34 (zld 3 33) true [] [] false,zdd 16 35 (.binOp .rem 3 (Tm 34) (Kn 8) 3) true [] [] false,zdd 17 36 (.binOp .sub 3 (Kn 7) (Tm 35) 3) true [] [] false,zdd 18 37 (.binOp .shl 25 (Tm 30) (Tm 36) 3) true [] [] false,zdd 19 38 (.convert 25 5 (Tm 37)) true [] [] false,zdd 20 39 (.binOp .or 5 (Tm 29) (Tm 38) 5) true [] [] false,zdd 21 40 (zia 68 22 27) true [] [] false,zd0 22 (.store 5 (Tm 40) (Tm 39)) true [] [] false]
def zn157_7:=ZC.reg [zu 41 (zmv 0),zu 42 (.nilCheck (Tm 41)),zu 43 (zfa 203 42 1),zu 44 (zld 3 43),zu 45 (.binOp .add 3 (Tm 44) (Kn 1) 3),zu 46 (.nilCheck (Tm 41)),zu 47 (zfa 203 46 1),zv0 (.store 3 (Tm 47) (Tm 45))]
def zn157_0:=ZC.seq (ZC.seq zn157_2 (ZC.cond (Tm 9) zn157_4 ZC.skip)) (ZC.seq zn157_6 zn157_7)
def zc157: ZC:=zn157_0
theorem zc157_ok: zcode (xfOf Try.f157).code=some zc157:=by kernel_rfl
def zw157:=zU C zc157.eq_1<|zU C zn157_2.eq_1<|zU C zn157_4.eq_1<|zU C zn157_6.eq_1<|zU C zn157_7.eq_1<|(zunf C zn157_0.eq_1)
theorem rs157: (xfOf Try.f157).rs=[]:=by kernel_rfl
def xf157:=zF C 157 Try.f157
def zn158_0:=ZC.reg [zu 6 (zmv 0),zu 7 (zmv 1),zu 8 (.convert 3 25 (Tm 7)),zu 9 (zmv 2),zv 10 (zcf 89 [Tm 6,Tm 8,Tm 9] [143,25,3])]
def zc158: ZC:=zn158_0
theorem zc158_ok: zcode (xfOf Try.f158).code=some zc158:=by kernel_rfl
def zw158:=zU C zc158.eq_1<|(zunf C zn158_0.eq_1)
theorem rs158: (xfOf Try.f158).rs=[]:=by kernel_rfl
def xf158:=zF C 158 Try.f158
def zn159_1:=ZC.reg [zv 2 (.assign (.const (.slice none 0 0)))]
def zn159_4:=ZC.reg [zu 3 (zmv 0),zv 4 (.binOp .eql 68 (Tm 3) (.const (.slice none 0 0)) 68)]
def zn159_7:=ZC.reg [zv 2 (.assign (.const (.slice none 0 0)))]
def zn159_9:=ZC.reg [⟨some 5,.buildSlice 68 0 ⟨[]⟩,none,false⟩,zu 6 (zmv 0),zu 7 (zcb .append [Tm 5,Tm 6] [68,68]),zv 2 (zas 7)]
def zn159_0:=ZC.seq zn159_1 (ZC.seq (ZC.seq zn159_4 (ZC.cond (Tm 4) (ZC.seq zn159_7 ZC.ret) ZC.skip)) (ZC.seq zn159_9 ZC.ret))
def zc159: ZC:=zn159_0
theorem zc159_ok: zcode (xfOf Try.f159).code=some zc159:=by kernel_rfl
def zw159:=zU C zc159.eq_1<|zU C zn159_1.eq_1<|zU C zn159_4.eq_1<|zU C zn159_7.eq_1<|zU C zn159_9.eq_1<|(zunf C zn159_0.eq_1)
theorem rs159: (xfOf Try.f159).rs=[.tmp 2]:=by kernel_rfl
def xf159:=zF C 159 Try.f159
def zn156_1:=ZC.reg [zv 2 (.assign (Kn 0))]
def zn156_3:=ZC.reg [zu 3 (zmv 0),zu 4 (zcb .min [Tm 3,Kn 64] [3,3]),zu 5 (zcb .max [Kn 0,Tm 4] [3,3]),zv 2 (zas 5)]
def zn156_0:=ZC.seq zn156_1 (ZC.seq zn156_3 ZC.ret)
def zc156: ZC:=zn156_0
theorem zc156_ok: zcode (xfOf Try.f156).code=some zc156:=by kernel_rfl
def zw156:=zU C zc156.eq_1<|zU C zn156_1.eq_1<|zU C zn156_3.eq_1<|(zunf C zn156_0.eq_1)
theorem rs156: (xfOf Try.f156).rs=[.tmp 2]:=by kernel_rfl
def xf156:=zF C 156 Try.f156
def zn95_1:=ZC.reg [zv 2 (.assign (.const (.pointer none)))]
def zn95_3:=ZC.reg [zu 3 (zmv 0),zu 4 (zcf 159 [Tm 3] [68]),⟨some 5,.build 208 ⟨[(0,.tmp 4)]⟩,none,false⟩,zu 6 (.box 208 (Tm 5)),zv 2 (zas 6)]
def zn95_0:=ZC.seq zn95_1 (ZC.seq zn95_3 ZC.ret)
def zc95: ZC:=zn95_0
theorem zc95_ok: zcode (xfOf Try.f95).code=some zc95:=by kernel_rfl
def zw95:=zU C zc95.eq_1<|zU C zn95_1.eq_1<|zU C zn95_3.eq_1<|(zunf C zn95_0.eq_1)
theorem rs95: (xfOf Try.f95).rs=[.tmp 2]:=by kernel_rfl
def xf95:=zF C 95 Try.f95
def zn96_1:=ZC.reg [zv 4 (.assign (.const (.bool false)))]
def zn96_4:=ZC.reg [zu 6 (zmv 0),zu 7 (zcb .len [Tm 6] [68]),zu 8 (zmv 1),zu 9 (zcb .len [Tm 8] [68]),zv 10 (.binOp .neq 3 (Tm 7) (Tm 9) 3)]
def zn96_7:=ZC.reg [zv 4 (.assign (.const (.bool false)))]
def zn96_10:=ZC.reg [zu 11 (zmv 0),zu 12 (zcb .len [Tm 11] [68]),zv 13 (.move (Kn 0))]
def zn96_14:=ZC.reg [zv 14 (.binOp .lss 3 (Tm 13) (Tm 12) 3)]
def zn96_20:=ZC.reg [zu 15 (zmv 13),zv 5 (zas 15)]
def zn96_22:=ZC.draw 9 [] [zdd 0 16 (zmv 0) false [] [] false,zdd 1 17 (zmv 5) false [] [] false,zdd 2 18 (zia 68 16 17) false [] [] false,zdd 3 19 (zld 5 18) false [] [] false,zdd 4 20 (zmv 1) false [] [] false,zdd 5 21 (zmv 5) true [] [] false,zdd 6 22 (zia 68 20 21) true [] [] false,zdd 7 23 (zld 5 22) true [] [] false,zdd 8 24 (.binOp .neq 5 (Tm 19) (Tm 23) 5) true [] [] false]
def zn96_25:=ZC.reg [zv 4 (.assign (.const (.bool false)))]
def zn96_26:=ZC.reg [zu 25 (.binOp .add 3 (Tm 13) (Kn 1) 3),zv 13 (zmv 25)]
def Y1f:=ZC.seq zn96_14 (ZC.seq (ZC.cond (Tm 14) ZC.skip (ZC.exit 0)) (ZC.seq (ZC.block 1 (ZC.seq zn96_20 (ZC.seq zn96_22 (ZC.cond (Tm 24) (ZC.seq zn96_25 ZC.ret) ZC.skip)))) zn96_26))
def zn96_28:=ZC.reg [zv 4 (.assign (.const (.bool true)))]
def zn96_0:=ZC.seq zn96_1 (ZC.seq (ZC.seq zn96_4 (ZC.cond (Tm 10) (ZC.seq zn96_7 ZC.ret) ZC.skip)) (ZC.seq (ZC.seq zn96_10 (ZC.block 0 (ZC.loop Y1f))) (ZC.seq zn96_28 ZC.ret)))
def zc96: ZC:=zn96_0
theorem zc96_ok: zcode (xfOf Try.f96).code=some zc96:=by kernel_rfl
def zw96:=zU C zc96.eq_1<|zU C zn96_1.eq_1<|zU C zn96_4.eq_1<|zU C zn96_7.eq_1<|zU C zn96_10.eq_1<|zU C zn96_14.eq_1<|zU C zn96_20.eq_1<|zU C zn96_22.eq_1<|zU C zn96_25.eq_1<|zU C zn96_26.eq_1<|zU C Y1f.eq_1<|zU C zn96_28.eq_1<|(zunf C zn96_0.eq_1)
theorem rs96: (xfOf Try.f96).rs=[.tmp 4]:=by kernel_rfl
def xf96:=zF C 96 Try.f96
def zn160_1:=ZC.reg [zv 4 (.assign (.const (.int .u64 0)))]
def zn160_3:=ZC.reg [zu 7 (zmv 1),zu 8 (zcf 156 [Tm 7] [3]),zv 1 (zas 8)]
def zn160_5:=ZC.draw 9 [] [zdd 0 9 (zmv 1) false [] [] false,zdd 1 10 (zmv 0) false [] [] false,zdd 2 11 (zcf 189 [Tm 10] [150]) false [] [] true,zdd 3 12 (.binOp .leq 3 (Tm 9) (Tm 11) 3) false [] [] false,zdd 4 13 (zmv 0) true [] [] false,zdd 5 14 (.nilCheck (Tm 13)) true [] [] false,zdd 6 15 (zfa 208 14 1) true [2] [] false,zdd 7 16 (zld 3 15) true [2] [] false,zdd 8 17 (zcf 181 [Tm 12,Kn 100,Tm 16] [4,3,3]) true [] [] false]
def zn160_7:=ZC.reg [zv 5 (.assign (.const (.int .u64 0)))]
def zn160_10:=ZC.reg [zu 18 (zmv 1),zv 19 (.move (Kn 0))]
def zn160_14:=ZC.reg [zv 20 (.binOp .lss 3 (Tm 19) (Tm 18) 3)]
def zn160_20:=ZC.draw 20 [] [zdd 0 21 (zmv 0) false [] [] false,zdd 1 22 (.nilCheck (Tm 21)) false [] [] false,zdd 2 23 (zfa 208 22 0) false [] [] false,zdd 3 24 (zld 68 23) false [] [] false,zdd 4 25 (zmv 0) false [] [] false,zdd 5 26 (.nilCheck (Tm 25)) false [] [] false,zdd 6 27 (zfa 208 26 1) false [] [] false,zdd 7 28 (zld 3 27) false [] [] false,zdd 8 29 (.binOp .quo 3 (Tm 28) (Kn 8) 3) false [] [] false,zdd 9 30 (zia 68 24 29) false [] [] false,zdd 10 31 (zld 5 30) false [] [] false,zdd 11 32 (zmv 0) true [] [] false,zdd 12 33 (.nilCheck (Tm 32)) true [] [] false,zdd 13 34 (zfa 208 33 1) true [] [] false,zdd 14 35 (zld 3 34) true [] [] false,zdd 15 36 (.binOp .rem 3 (Tm 35) (Kn 8) 3) true [] [] false,zdd 16 37 (.binOp .sub 3 (Kn 7) (Tm 36) 3) true [] [] false,zdd 17 38 (.binOp .shr 5 (Tm 31) (Tm 37) 3) true [] [] false,zdd 18 39 (.binOp .and 5 (Tm 38) (.const (.int .u8 1)) 5) true [] [] false,zdd 19 6 (zas 39) true [] [] false]
def zn160_22:=ZC.reg [zu 40 (zmv 5),zu 41 (.binOp .shl 25 (Tm 40) (.const (.int .u64 1)) 178),zu 42 (zmv 6),zu 43 (.convert 5 25 (Tm 42)),zu 44 (.binOp .or 25 (Tm 41) (Tm 43) 25),zv 5 (zas 44)]
def zn160_23:=ZC.reg [zu 45 (zmv 0),zu 46 (.nilCheck (Tm 45)),zu 47 (zfa 208 46 1),zu 48 (zld 3 47),zu 49 (.binOp .add 3 (Tm 48) (Kn 1) 3),zu 50 (.nilCheck (Tm 45)),zu 51 (zfa 208 50 1),zv0 (.store 3 (Tm 51) (Tm 49))]
def zn160_24:=ZC.reg [zu 52 (.binOp .add 3 (Tm 19) (Kn 1) 3),zv 19 (zmv 52)]
def X1m:=ZC.seq zn160_14 (ZC.seq (ZC.cond (Tm 20) ZC.skip (ZC.exit 0)) (ZC.seq (ZC.block 1 (ZC.seq zn160_20 (ZC.seq zn160_22 zn160_23))) zn160_24))
def zn160_26:=ZC.reg [zu 53 (zmv 5),zv 4 (zas 53)]
def zn160_0:=ZC.seq zn160_1 (ZC.seq zn160_3 (ZC.seq zn160_5 (ZC.seq zn160_7 (ZC.seq (ZC.seq zn160_10 (ZC.block 0 (ZC.loop X1m))) (ZC.seq zn160_26 ZC.ret)))))
def zc160: ZC:=zn160_0
theorem zc160_ok: zcode (xfOf Try.f160).code=some zc160:=by kernel_rfl
def zw160:=zU C zc160.eq_1<|zU C zn160_1.eq_1<|zU C zn160_3.eq_1<|zU C zn160_5.eq_1<|zU C zn160_7.eq_1<|zU C zn160_10.eq_1<|zU C zn160_14.eq_1<|zU C zn160_20.eq_1<|zU C zn160_22.eq_1<|zU C zn160_23.eq_1<|zU C zn160_24.eq_1<|zU C X1m.eq_1<|zU C zn160_26.eq_1<|(zunf C zn160_0.eq_1)
theorem rs160: (xfOf Try.f160).rs=[.tmp 4]:=by kernel_rfl
def xf160:=zF C 160 Try.f160
def zn189_1:=ZC.reg [zv 2 (.assign (Kn 0))]
def zn189_3:=ZC.draw 12 [] [zdd 0 3 (zmv 0) false [] [] false,zdd 1 4 (.nilCheck (Tm 3)) false [] [] false,zdd 2 5 (zfa 208 4 0) false [] [] false,zdd 3 6 (zld 68 5) false [] [] false,zdd 4 7 (zcb .len [Tm 6] [68]) false [] [] false,zdd 5 8 (.binOp .mul 3 (Kn 8) (Tm 7) 3) false [] [] false,zdd 6 9 (zmv 0) true [] [] false,zdd 7 10 (.nilCheck (Tm 9)) true [] [] false,zdd 8 11 (zfa 208 10 1) true [] [] false,zdd 9 12 (zld 3 11) true [] [] false,zdd 10 13 (.binOp .sub 3 (Tm 8) (Tm 12) 3) true [] [] false,zdd 11 2 (zas 13) true [] [] false]
def zn189_0:=ZC.seq zn189_1 (ZC.seq zn189_3 ZC.ret)
def zc189: ZC:=zn189_0
theorem zc189_ok: zcode (xfOf Try.f189).code=some zc189:=by kernel_rfl
def zw189:=zU C zc189.eq_1<|zU C zn189_1.eq_1<|zU C zn189_3.eq_1<|(zunf C zn189_0.eq_1)
theorem rs189: (xfOf Try.f189).rs=[.tmp 2]:=by kernel_rfl
def xf189:=zF C 189 Try.f189
def zn190_1:=ZC.reg [zv 4 (.assign (Kn 0))]
def zn190_3:=ZC.reg [zu 6 (zmv 1),zu 7 (zcf 156 [Tm 6] [3]),zv 1 (zas 7)]
def zn190_6:=ZC.reg [zu 8 (zmv 1),zv 9 (.binOp .eql 3 (Tm 8) (Kn 0) 3)]
def zn190_9:=ZC.reg [zv 4 (.assign (Kn 0))]
def zn190_11:=ZC.reg [zu 10 (zmv 1),zu 11 (.binOp .sub 3 (Kn 64) (Tm 10) 3),zv 5 (zas 11)]
def zn190_13:=ZC.reg [zu 12 (zmv 0),zu 13 (zmv 1),zu 14 (zcf 160 [Tm 12,Tm 13] [150,3]),zu 15 (zmv 5),zu 16 (.binOp .shl 25 (Tm 14) (Tm 15) 3),zu 17 (.convert 25 3 (Tm 16)),zu 18 (zmv 5),zu 19 (.binOp .shr 3 (Tm 17) (Tm 18) 3),zv 4 (zas 19)]
def zn190_0:=ZC.seq zn190_1 (ZC.seq zn190_3 (ZC.seq (ZC.seq zn190_6 (ZC.cond (Tm 9) (ZC.seq zn190_9 ZC.ret) ZC.skip)) (ZC.seq zn190_11 (ZC.seq zn190_13 ZC.ret))))
def zc190: ZC:=zn190_0
theorem zc190_ok: zcode (xfOf Try.f190).code=some zc190:=by kernel_rfl
def zw190:=zU C zc190.eq_1<|zU C zn190_1.eq_1<|zU C zn190_3.eq_1<|zU C zn190_6.eq_1<|zU C zn190_9.eq_1<|zU C zn190_11.eq_1<|zU C zn190_13.eq_1<|(zunf C zn190_0.eq_1)
theorem rs190: (xfOf Try.f190).rs=[.tmp 4]:=by kernel_rfl
def xf190:=zF C 190 Try.f190
def zn163_1:=ZC.reg [zv 4 (.assign (Kn 0))]
def zn163_3:=ZC.reg [zu 8 (zmv 0),zu 9 (.binOp .rem 3 (Tm 8) (Kn 2147483647) 3),zu 10 (.binOp .add 3 (Tm 9) (Kn 2147483647) 3),zu 11 (.binOp .rem 3 (Tm 10) (Kn 2147483647) 3),zu 12 (.binOp .add 3 (Tm 11) (Kn 1) 3),zv 5 (zas 12)]
def zn163_6:=ZC.reg [zu 13 (zmv 1),zu 14 (zcb .len [Tm 13] [68]),zv 15 (.move (Kn 0))]
def zn163_10:=ZC.reg [zv 16 (.binOp .lss 3 (Tm 15) (Tm 14) 3)]
def zn163_16:=ZC.reg [zu 17 (zia 68 13 15),zu 18 (zld 5 17),zv 7 (zas 18)]
def zn163_17:=ZC.reg [zu 19 (zmv 5),zu 20 (.binOp .mul 3 (Tm 19) (Kn 257) 3),zu 21 (zmv 7),zu 22 (.convert 5 3 (Tm 21)),zu 23 (.binOp .add 3 (Tm 20) (Tm 22) 3),zu 24 (.binOp .add 3 (Tm 23) (Kn 1) 3),zu 25 (.binOp .rem 3 (Tm 24) (Kn 2147483647) 3),zv 5 (zas 25)]
def zn163_18:=ZC.reg [zu 26 (.binOp .add 3 (Tm 15) (Kn 1) 3),zv 15 (zmv 26)]
def K1f:=ZC.seq zn163_10 (ZC.seq (ZC.cond (Tm 16) ZC.skip (ZC.exit 0)) (ZC.seq (ZC.block 1 (ZC.seq zn163_16 zn163_17)) zn163_18))
def zn163_20:=ZC.reg [zu 27 (zmv 5),zu 28 (zmv 1),zu 29 (zcb .len [Tm 28] [68]),zu 30 (.binOp .add 3 (Tm 27) (Tm 29) 3),zu 31 (.binOp .rem 3 (Tm 30) (Kn 2147483647) 3),zv 4 (zas 31)]
def zn163_0:=ZC.seq zn163_1 (ZC.seq zn163_3 (ZC.seq (ZC.seq zn163_6 (ZC.block 0 (ZC.loop K1f))) (ZC.seq zn163_20 ZC.ret)))
def zc163: ZC:=zn163_0
theorem zc163_ok: zcode (xfOf Try.f163).code=some zc163:=by kernel_rfl
def zw163:=zU C zc163.eq_1<|zU C zn163_1.eq_1<|zU C zn163_3.eq_1<|zU C zn163_6.eq_1<|zU C zn163_10.eq_1<|zU C zn163_16.eq_1<|zU C zn163_17.eq_1<|zU C zn163_18.eq_1<|zU C K1f.eq_1<|zU C zn163_20.eq_1<|(zunf C zn163_0.eq_1)
theorem rs163: (xfOf Try.f163).rs=[.tmp 4]:=by kernel_rfl
def xf163:=zF C 163 Try.f163
end Go.Proofs.Ytpchcfkebljopaa
end
section
namespace Go.Proofs.Ytpchcfkebljopaa
open Go.Cl Go Go.RowKit
abbrev f64:=FloatKind.f64.format
def again(players:Int)(v:Q0b): Q0b:={bodyBorn v.Owner players with Faults:=v.Faults}
def ren(a J k:Nat): Nat:=if k=a then J else k
theorem Y0y{args:List CV}{p p' q0:Hp}{v u:CV}{J:Nat}{oT:XObj}(hF:Fine args p)(hn:q0.n=p.n)
  (hq:∀k o,q0.t.get k=some o->k<p.n/\k≠J/\((p.t.get k=some o/\p'.t.get k=some o)\/∃o',p'.t.get k=some o'/\XObj.weak (ren p.n J) (p.n+1) o' o))
  (hT:∃o',p'.t.get J=some o'/\XObj.weak (ren p.n J) (p.n+1) o' oT) (hv:CV.weak (ren p.n J) (p.n+1) v u):ShrR p (.ret v p') (.ret u (q0.new oT)):=by
 have hnn:(q0.new oT).n=p.n+1:=by rw[Hp.znew_n,hn]
 have hs:∀k,k<p.n->ren p.n J k=k:=fun k hk=>if_neg (Nat.ne_of_lt hk)
 have hsp:ren p.n J p.n=J:=if_pos rfl
 have hg:∀k o,(q0.new oT).t.get k=some o->(k=p.n/\o=oT)\/(k<p.n/\q0.t.get k=some o):=by
  intro k o h
  by_cases hk:k=q0.n
  ·subst hk;rw[Hp.get_new_self]at h;cases h;exact .inl ⟨hn,rfl⟩
  ·rw[Hp.get_new_ne _ _ hk]at h;exact .inr ⟨(hq k o h).1,h⟩
 refine⟨ren p.n J,⟨by rw[hnn];omega,hs,?_,?_⟩,by rw[hnn];exact hv⟩
 ·intro j k oj ok h1 h2 e
  rcases hg j oj h1 with⟨rfl,_⟩|⟨hj,hj'⟩<;>rcases hg k ok h2 with⟨rfl,_⟩|⟨hk,hk'⟩
  ·rfl
  ·rw[hsp,hs k hk]at e;exact absurd e.symm (hq k ok hk').2.1
  ·rw[hsp,hs j hj]at e;exact absurd e (hq j oj hj').2.1
  ·rw[hs j hj,hs k hk]at e;exact e
 ·intro k o h
  rw[hnn]
  rcases hg k o h with⟨rfl,rfl⟩|⟨hk,hk'⟩
  ·refine⟨Nat.lt_succ_self _,.inr ?_⟩
   rw[hsp];exact hT
  ·refine⟨Nat.lt_succ_of_lt hk,?_⟩
   rcases(hq k o hk').2.2 with h|h
   ·exact .inl ⟨hk,h.1,h.2⟩
   ·rw[hs k hk];exact .inr h
theorem nth_set_ne{α:Type}[Inhabited α]{l:List α}{k j:Nat}{x:α}(h:j≠k): nth (l.set k x) j=nth l j:=by
 simp only[nth,List.getElem?_set_ne (Ne.symm h)]
theorem Q1i{α:Type}[Inhabited α]{l:List α}{k:Nat}{x:α}(h:k<l.length): nth (l.set k x) k=x:=by
 simp[nth,h]
theorem K0m{α:Type}[Inhabited α]{l:List α}{k:Nat}(h:k<l.length): l.take (k+1)=l.take k++[nth l k]:=by
 rw[List.take_add_one,V03 h];rfl
def bitAt(v:Int)(i:Nat): Bool:=decide (v/2^i % 2=1)
def bitsOf(v:Int): Nat->List Bool
 |0=>[]
 |n+1=>bitAt v n::bitsOf v n
theorem X0e(v:Int): ∀n,(bitsOf v n).length=n
 |0=>rfl
 |n+1=>by simp[bitsOf,X0e v n]
def b2i(b:Bool): Int:=if b then 1 else 0
def gb(l:List Bool)(k:Nat): Bool:=l[k]?.getD false
theorem K03{l:List Bool}{k:Nat}(h:l.length<=k): gb l k=false:=by simp[gb,List.getElem?_eq_none h]
theorem gb_snoc(l:List Bool)(b:Bool)(k:Nat): gb (l++[b]) k=if k=l.length then b else gb l k:=by
 unfold gb
 by_cases h:k<l.length
 ·rw[List.getElem?_append_left h,if_neg (by omega)]
 ·by_cases e:k=l.length
  ·subst e;simp
  ·rw[if_neg e,List.getElem?_eq_none (by simp;omega),List.getElem?_eq_none (by omega)]
theorem gb_app(l m:List Bool)(k:Nat): gb (l++m) k=if k<l.length then gb l k else gb m (k-l.length):=by
 unfold gb
 by_cases h:k<l.length
 ·rw[List.getElem?_append_left h,if_pos h]
 ·rw[List.getElem?_append_right (by omega),if_neg h]
def byteAt(l:List Bool)(i:Nat): Int:=b2i (gb l (8*i))*128+b2i (gb l (8*i+1))*64+b2i (gb l (8*i+2))*32+b2i (gb l (8*i+3))*16+b2i (gb l (8*i+4))*8+b2i (gb l (8*i+5))*4+b2i (gb l (8*i+6))*2+b2i (gb l (8*i+7))
theorem Y0n(b:Bool): 0<=b2i b/\b2i b<=1:=by cases b<;>simp[b2i]
theorem Z0z(l:List Bool)(i:Nat): 0<=byteAt l i/\byteAt l i<=255:=by
 unfold byteAt
 have h0:=Y0n (gb l (8*i));have h1:=Y0n (gb l (8*i+1));have h2:=Y0n (gb l (8*i+2));have h3:=Y0n (gb l (8*i+3))
 have h4:=Y0n (gb l (8*i+4));have h5:=Y0n (gb l (8*i+5));have h6:=Y0n (gb l (8*i+6));have h7:=Y0n (gb l (8*i+7))
 omega
def packB(l:List Bool): List Int:=(List.range ((l.length+7)/8)).map (byteAt l)
theorem K0g(l:List Bool): (packB l).length=(l.length+7)/8:=by simp[packB]
def roomB(l:List Bool): List Int:=if l.length % 8=0 then packB l++[0]else packB l
theorem V2g(l:List Bool): roomB l=(List.range (l.length/8+1)).map (byteAt l):=by
 unfold roomB packB
 by_cases h:l.length % 8=0
 ·rw[if_pos h,show(l.length+7)/8=l.length/8 by omega,List.range_succ,List.map_append]
  congr 1
  simp only[List.map_cons,List.map_nil,byteAt]
  rw[K03 (by omega),K03 (by omega),K03 (by omega),K03 (by omega),K03 (by omega),K03 (by omega),K03 (by omega),K03 (by omega)];rfl
 ·rw[if_neg h,show(l.length+7)/8=l.length/8+1 by omega]
theorem Q1w(l:List Bool): (roomB l).length=l.length/8+1:=by rw[V2g];simp
theorem roomB_at(l:List Bool): nth (roomB l) (l.length/8)=byteAt l (l.length/8):=by
 rw[Y0h (by rw[Q1w];omega)]
 simp only[V2g,List.getElem_map,List.getElem_range]
theorem byte_snoc_ne(l:List Bool)(b:Bool){i:Nat}(h:i<l.length/8): byteAt (l++[b]) i=byteAt l i:=by
 simp only[byteAt,gb_snoc]
 repeat rw[if_neg (by omega)]
theorem byte_snoc(l:List Bool)(b:Bool): byteAt (l++[b]) (l.length/8)=byteAt l (l.length/8)+b2i b*2^(7-l.length % 8):=by
 have hz:b2i false=0:=rfl
 have hg:∀k,l.length<=k->gb l k=false:=fun k hk=>K03 hk
 generalize hi:l.length/8=i
 simp only[byteAt,gb_snoc]
 obtain h|h|h|h|h|h|h|h:l.length % 8=0\/l.length % 8=1\/l.length % 8=2\/l.length % 8=3\/l.length % 8=4\/l.length % 8=5\/l.length % 8=6\/l.length % 8=7:=by omega
 ·rw[if_pos (show 8*i=l.length by omega)]
  repeat rw[if_neg (by omega)]
  rw[hg (8*i) (by omega),h,hz];omega
 ·rw[if_pos (show 8*i+1=l.length by omega)]
  repeat rw[if_neg (by omega)]
  rw[hg (8*i+1) (by omega),h,hz];omega
 ·rw[if_pos (show 8*i+2=l.length by omega)]
  repeat rw[if_neg (by omega)]
  rw[hg (8*i+2) (by omega),h,hz];omega
 ·rw[if_pos (show 8*i+3=l.length by omega)]
  repeat rw[if_neg (by omega)]
  rw[hg (8*i+3) (by omega),h,hz];omega
 ·rw[if_pos (show 8*i+4=l.length by omega)]
  repeat rw[if_neg (by omega)]
  rw[hg (8*i+4) (by omega),h,hz];omega
 ·rw[if_pos (show 8*i+5=l.length by omega)]
  repeat rw[if_neg (by omega)]
  rw[hg (8*i+5) (by omega),h,hz];omega
 ·rw[if_pos (show 8*i+6=l.length by omega)]
  repeat rw[if_neg (by omega)]
  rw[hg (8*i+6) (by omega),h,hz];omega
 ·rw[if_pos (show 8*i+7=l.length by omega)]
  repeat rw[if_neg (by omega)]
  rw[hg (8*i+7) (by omega),h,hz];omega
theorem pack_snoc(l:List Bool)(b:Bool): packB (l++[b])=(roomB l).set (l.length/8) (byteAt l (l.length/8)+b2i b*2^(7-l.length % 8)):=by
 have hn:((l++[b]).length+7)/8=l.length/8+1:=by simp;omega
 apply List.ext_getElem
 ·rw[K0g,List.length_set,Q1w,hn]
 ·intro i h1 h2
  rw[K0g,hn]at h1
  rw[List.getElem_set]
  simp only[packB,V2g,List.getElem_map,List.getElem_range]
  by_cases e:l.length/8=i
  ·rw[if_pos e,<- e,byte_snoc]
  ·rw[if_neg e,byte_snoc_ne _ _ (by omega)]
theorem byte_room(l:List Bool): byteAt l (l.length/8) % 2^(8-l.length % 8)=0:=by
 have hz:b2i false=0:=rfl
 have hg:∀k,l.length<=k->gb l k=false:=fun k hk=>K03 hk
 generalize hi:l.length/8=i
 unfold byteAt
 obtain h|h|h|h|h|h|h|h:l.length % 8=0\/l.length % 8=1\/l.length % 8=2\/l.length % 8=3\/l.length % 8=4\/l.length % 8=5\/l.length % 8=6\/l.length % 8=7:=by omega
 ·rw[h,hg (8*i) (by omega),hg (8*i+1) (by omega),hg (8*i+2) (by omega),hg (8*i+3) (by omega),hg (8*i+4) (by omega),hg (8*i+5) (by omega),hg (8*i+6) (by omega),hg (8*i+7) (by omega),hz];omega
 ·rw[h,hg (8*i+1) (by omega),hg (8*i+2) (by omega),hg (8*i+3) (by omega),hg (8*i+4) (by omega),hg (8*i+5) (by omega),hg (8*i+6) (by omega),hg (8*i+7) (by omega),hz];omega
 ·rw[h,hg (8*i+2) (by omega),hg (8*i+3) (by omega),hg (8*i+4) (by omega),hg (8*i+5) (by omega),hg (8*i+6) (by omega),hg (8*i+7) (by omega),hz];omega
 ·rw[h,hg (8*i+3) (by omega),hg (8*i+4) (by omega),hg (8*i+5) (by omega),hg (8*i+6) (by omega),hg (8*i+7) (by omega),hz];omega
 ·rw[h,hg (8*i+4) (by omega),hg (8*i+5) (by omega),hg (8*i+6) (by omega),hg (8*i+7) (by omega),hz];omega
 ·rw[h,hg (8*i+5) (by omega),hg (8*i+6) (by omega),hg (8*i+7) (by omega),hz];omega
 ·rw[h,hg (8*i+6) (by omega),hg (8*i+7) (by omega),hz];omega
 ·rw[h,hg (8*i+7) (by omega),hz];omega
def bitB(b:List Int)(k:Nat): Bool:=bitAt (nth b (k/8)) (7-k % 8)
theorem byte_bits: ∀b0 b1 b2 b3 b4 b5 b6 b7:Bool,bitAt (b2i b0*128+b2i b1*64+b2i b2*32+b2i b3*16+b2i b4*8+b2i b5*4+b2i b6*2+b2i b7) 7=b0/\bitAt (b2i b0*128+b2i b1*64+b2i b2*32+b2i b3*16+b2i b4*8+b2i b5*4+b2i b6*2+b2i b7) 6=b1/\bitAt (b2i b0*128+b2i b1*64+b2i b2*32+b2i b3*16+b2i b4*8+b2i b5*4+b2i b6*2+b2i b7) 5=b2/\bitAt (b2i b0*128+b2i b1*64+b2i b2*32+b2i b3*16+b2i b4*8+b2i b5*4+b2i b6*2+b2i b7) 4=b3/\bitAt (b2i b0*128+b2i b1*64+b2i b2*32+b2i b3*16+b2i b4*8+b2i b5*4+b2i b6*2+b2i b7) 3=b4/\bitAt (b2i b0*128+b2i b1*64+b2i b2*32+b2i b3*16+b2i b4*8+b2i b5*4+b2i b6*2+b2i b7) 2=b5/\bitAt (b2i b0*128+b2i b1*64+b2i b2*32+b2i b3*16+b2i b4*8+b2i b5*4+b2i b6*2+b2i b7) 1=b6/\bitAt (b2i b0*128+b2i b1*64+b2i b2*32+b2i b3*16+b2i b4*8+b2i b5*4+b2i b6*2+b2i b7) 0=b7:=by decide +kernel
theorem V1v(l:List Bool){k:Nat}(h:k<8*(packB l).length): bitB (packB l) k=gb l k:=by
 have hk:k/8<(packB l).length:=by omega
 unfold bitB
 rw[Y0h hk]
 simp only[packB,List.getElem_map,List.getElem_range]
 have hb:=byte_bits (gb l (8*(k/8))) (gb l (8*(k/8)+1)) (gb l (8*(k/8)+2)) (gb l (8*(k/8)+3)) (gb l (8*(k/8)+4)) (gb l (8*(k/8)+5)) (gb l (8*(k/8)+6)) (gb l (8*(k/8)+7))
 unfold byteAt
 obtain⟨h0,h1,h2,h3,h4,h5,h6,h7⟩:=hb
 obtain e|e|e|e|e|e|e|e:k % 8=0\/k % 8=1\/k % 8=2\/k % 8=3\/k % 8=4\/k % 8=5\/k % 8=6\/k % 8=7:=by omega
 ·rw[e,h0];congr 1;omega
 ·rw[e,h1];congr 1;omega
 ·rw[e,h2];congr 1;omega
 ·rw[e,h3];congr 1;omega
 ·rw[e,h4];congr 1;omega
 ·rw[e,h5];congr 1;omega
 ·rw[e,h6];congr 1;omega
 ·rw[e,h7];congr 1;omega
def valB(g:Nat->Bool)(a:Nat): Nat->Int
 |0=>0
 |n+1=>2*valB g a n+b2i (g (a+n))
theorem Y0s(g:Nat->Bool)(a:Nat): ∀n,0<=valB g a n/\valB g a n<2^n
 |0=>by simp[valB]
 |n+1=>by
  have h:=Y0s g a n
  have hb:=Y0n (g (a+n))
  simp only[valB]
  rw[Int.pow_succ]
  omega
theorem X16{g h:Nat->Bool}{a b:Nat}: ∀n,(∀i,i<n->g (a+i)=h (b+i))->valB g a n=valB h b n
 |0,_=>rfl
 |n+1,e=>by simp only[valB];rw[X16 n fun i hi=>e i (by omega),e n (by omega)]
theorem gb_bits(v:Int): ∀n i,i<n->gb (bitsOf v n) i=bitAt v (n-1-i)
 |0,i,h=>by omega
 |n+1,0,_=>by simp[gb,bitsOf]
 |n+1,i+1,h=>by
  have ih:=gb_bits v n i (by omega)
  unfold gb at ih ⊢
  simp only[bitsOf,List.getElem?_cons_succ]
  rw[ih];congr 1;omega
theorem b2i_bit(v:Int)(i:Nat): b2i (bitAt v i)=v/2^i % 2:=by
 unfold b2i bitAt
 by_cases h:v/2^i % 2=1
 ·simp[h]
 ·have:v/2^i % 2=0:=by omega
  simp[this]
theorem emod_two(w M:Int)(hM:0<M): w % (2*M)=2*((w/2) % M)+w % 2:=by
 have h1:w=2*(w/2)+w % 2:=by omega
 have h2:w/2=M*(w/2/M)+(w/2) % M:=(Int.mul_ediv_add_emod _ _).symm
 have h3:=Int.emod_nonneg (w/2) (Int.ne_of_gt hM)
 have h4:=Int.emod_lt_of_pos (w/2) hM
 generalize (w/2) % M=r at *
 generalize w/2/M=q at *
 have h5:w=(2*r+w % 2)+(2*M)*q:=by
  rw[Int.mul_assoc];generalize M*q=z at *;omega
 have h6:w % (2*M)=(2*r+w % 2) % (2*M):=by
  conv=>lhs;rw[h5]
  exact Int.add_mul_emod_self_left ..
 rw[h6,Int.emod_eq_of_lt (by omega) (by omega)]
theorem valB_top(v:Int)(n:Nat): ∀m,m<=n->valB (gb (bitsOf v n)) 0 m=v/2^(n-m) % 2^m
 |0,_=>by simp[valB,Int.emod_one]
 |m+1,h=>by
  have ih:=valB_top v n m (by omega)
  simp only[valB,Nat.zero_add]
  rw[ih,gb_bits v n m (by omega),b2i_bit]
  have e1:n-m=n-(m+1)+1:=by omega
  have e2:n-1-m=n-(m+1):=by omega
  rw[e2,e1,Int.pow_succ,<- Int.ediv_ediv_of_nonneg (Int.le_of_lt (Int.pow_pos (by omega))),Int.pow_succ,Int.mul_comm (2^m) 2]
  exact(emod_two _ _ (Int.pow_pos (by omega))).symm
theorem valB_bits(v:Int)(n:Nat): valB (gb (bitsOf v n)) 0 n=v % 2^n:=by
 rw[valB_top v n n (Nat.le_refl _)];simp
theorem valB_of{g:Nat->Bool}{a n:Nat}{v:Int}(h:∀i,i<n->g (a+i)=gb (bitsOf v n) i): valB g a n=v % 2^n:=by
 rw[<- valB_bits]
 exact X16 n fun i hi=>by rw[h i hi,Nat.zero_add]
def sgnB(u:Int)(n:Nat): Int:=if u<2^(n-1)then u else u-2^n
theorem sgnB_of{v:Int}{n:Nat}(hn:1<=n)(h:-(2^(n-1))<=v/\v<2^(n-1)): sgnB (v % 2^n) n=v:=by
 obtain⟨m,rfl⟩:∃m,n=m+1:=⟨n-1,by omega⟩
 simp only[Nat.add_sub_cancel]at h
 have hp:(0:Int)<2^m:=Int.pow_pos (by omega)
 unfold sgnB
 simp only[Nat.add_sub_cancel,Int.pow_succ]
 generalize (2:Int)^m=M at h hp
 by_cases h0:0<=v
 ·rw[Int.emod_eq_of_lt h0 (by omega),if_pos h.2]
 ·have e:v % (M*2)=v+M*2:=by
   rw[<- Int.add_emod_right,Int.emod_eq_of_lt (by omega) (by omega)]
  rw[e,if_neg (by omega)];omega
def orB(x:Int)(m:Nat)(b:Int): Int:=IntKind.u8.wrap (BitVec.ofInt IntKind.u8.bits x ||| BitVec.ofInt IntKind.u8.bits (IntKind.u8.wrap (IntKind.u64.wrap (b*2^min (7-(m:Int)).toNat IntKind.u64.bits)))).toNat
theorem orB_all: ∀(x:Fin 256) (m:Fin 8) (b:Bool),(x.val:Int) % 2^(8-m.val)=0->orB x.val m.val (b2i b)=x.val+b2i b*2^(7-m.val):=by decide +kernel
theorem orB_eq{x:Int}{m:Nat}{b:Bool}(hx:0<=x/\x<=255)(hm:m<8)(h:x % 2^(8-m)=0): orB x m (b2i b)=x+b2i b*2^(7-m):=by
 obtain⟨n,rfl⟩:=Int.eq_ofNat_of_zero_le hx.1
 exact orB_all ⟨n,by omega⟩ ⟨m,hm⟩ b h
theorem orB_pack(l:List Bool)(b:Bool): (roomB l).set (l.length/8) (orB (nth (roomB l) (l.length/8)) (l.length % 8) (b2i b))=packB (l++[b]):=by
 rw[pack_snoc,roomB_at,orB_eq (Z0z _ _) (by omega) (byte_room l)]
def andB(x:Int): Int:=IntKind.u64.wrap (BitVec.ofInt IntKind.u64.bits x &&&BitVec.ofInt IntKind.u64.bits 1).toNat
theorem andB_eq(x:Int): andB x=x % 2:=by
 unfold andB
 have h:(BitVec.ofInt 64 x &&&BitVec.ofInt 64 1).toNat=(x % 2).toNat:=by
  rw[BitVec.toNat_and]
  have e:(BitVec.ofInt 64 1).toNat=2^1-1:=by decide
  rw[e,Nat.and_two_pow_sub_one_eq_mod]
  simp only[BitVec.toNat_ofInt]
  omega
 show(((BitVec.ofInt 64 x &&&BitVec.ofInt 64 1).toNat:Int)) % 2^64=x % 2
 rw[h]
 omega
theorem bit_of(v:Int)(i:Nat)(h:i<=63): andB (v.fdiv (2^min i IntKind.u64.bits))=b2i (bitAt v i):=by
 have hm:min i IntKind.u64.bits=i:=Nat.min_eq_left (by show i<=64;omega)
 rw[andB_eq,hm,Int.fdiv_eq_ediv_of_nonneg _ (Int.le_of_lt (Int.pow_pos (by omega))),b2i_bit]
theorem Q1j{v w:Int}: ∀n,(∀i,i<n->bitAt v i=bitAt w i)->bitsOf v n=bitsOf w n
 |0,_=>rfl
 |n+1,h=>by simp only[bitsOf];rw[h n (by omega),Q1j n fun i hi=>h i (by omega)]
theorem bitAt_mod(v:Int){i n:Nat}(h:i<n): bitAt (v % 2^n) i=bitAt v i:=by
 unfold bitAt
 congr 1
 apply propext
 have e:(2:Int)^n=2^i*2^(n-i):=by rw[<- Int.pow_add];congr 1;omega
 have hp:(0:Int)<2^i:=Int.pow_pos (by omega)
 have h1:v % 2^n/2^i=(v/2^i) % 2^(n-i):=by
  rw[e]
  have h2:=Int.mul_ediv_add_emod v (2^i*2^(n-i))
  have h3:=Int.emod_nonneg v (b:=2^i*2^(n-i)) (by rw[<- e];exact Int.ne_of_gt (Int.pow_pos (by omega)))
  have h4:=Int.emod_lt_of_pos v (b:=2^i*2^(n-i)) (by rw[<- e];exact Int.pow_pos (by omega))
  generalize v % (2^i*2^(n-i))=r at *
  generalize v/(2^i*2^(n-i))=q at *
  have h5:v/2^i=r/2^i+2^(n-i)*q:=by
   rw[<- h2,Int.mul_assoc,Int.add_comm,Int.add_mul_ediv_left _ _ (Int.ne_of_gt hp)]
  rw[h5,Int.add_mul_emod_self_left,Int.emod_eq_of_lt (Int.ediv_nonneg h3 (Int.le_of_lt hp)) (Int.ediv_lt_of_lt_mul hp (by rw[Int.mul_comm];exact h4))]
 rw[h1]
 have h6:(2:Int)^(n-i)=2*2^(n-i-1):=by
  rw[show n-i=n-i-1+1 by omega,Int.pow_succ,Int.mul_comm];simp
 rw[h6]
 generalize v/2^i=w
 rw[Int.emod_emod_of_dvd w (Int.dvd_mul_right 2 _)]
theorem Y0t(v:Int){n:Nat}(h:n<=64): bitsOf (IntKind.u64.wrap v) n=bitsOf v n:=by
 refine Q1j n fun i hi=>?_
 show bitAt (v % 2^64) i=_
 exact bitAt_mod v (by omega)
theorem packB_inj{l m:List Bool}(h:l.length=m.length)(e:packB l=packB m): l=m:=by
 apply List.ext_getElem h
 intro i h1 h2
 have hk:i<8*(packB l).length:=by rw[K0g];omega
 have a:=V1v l hk
 rw[e,V1v m (by rw[<- e];exact hk)]at a
 simp only[gb,List.getElem?_eq_getElem h1,List.getElem?_eq_getElem h2,Option.getD_some]at a
 exact a.symm
def shl1(v b:Int): Int:=IntKind.u64.wrap (BitVec.ofInt IntKind.u64.bits (IntKind.u64.wrap (v*2)) ||| BitVec.ofInt IntKind.u64.bits b).toNat
theorem shl1_eq{v:Int}(h:0<=v/\v<2^63)(b:Bool): shl1 v (b2i b)=2*v+b2i b:=by
 obtain⟨n,rfl⟩:=Int.eq_ofNat_of_zero_le h.1
 have hn:n<2^63:=by have:=h.2;omega
 have e1:IntKind.u64.wrap ((n:Int)*2)=((2*n:Nat):Int):=by
  show(n:Int)*2 % 2^64=_
  omega
 unfold shl1
 rw[e1]
 have e2:(BitVec.ofInt IntKind.u64.bits ((2*n:Nat):Int) ||| BitVec.ofInt IntKind.u64.bits (b2i b)).toNat=2*n+(b2i b).toNat:=by
  show(BitVec.ofInt 64 ((2*n:Nat):Int) ||| BitVec.ofInt 64 (b2i b)).toNat=_
  rw[BitVec.toNat_or]
  simp only[BitVec.toNat_ofInt]
  have e3:(((2*n:Nat):Int) % ((2^64:Nat):Int)).toNat=2*n:=by omega
  rw[e3]
  cases b with
  |false=>simp[b2i]
  |true=>
   have e4:(b2i true % ((2^64:Nat):Int)).toNat=1:=by decide
   rw[e4]
   have:=Nat.two_pow_add_eq_or_of_lt (i:=1) (b:=1) (by decide) n
   simp only[Nat.pow_one]at this
   rw[<- this];rfl
 rw[e2]
 have hb:=Y0n b
 show((2*n+(b2i b).toNat:Nat):Int) % 2^64=_
 omega
def bit8(x:Int)(m:Nat): Int:=IntKind.u8.wrap (BitVec.ofInt IntKind.u8.bits (x.fdiv (2^min (7-(m:Int)).toNat IntKind.u8.bits)) &&&BitVec.ofInt IntKind.u8.bits 1).toNat
theorem bit8_all: ∀(x:Fin 256) (m:Fin 8),bit8 x.val m.val=b2i (bitAt x.val (7-m.val)):=by decide +kernel
theorem bit8_eq{x:Int}{m:Nat}(hx:0<=x/\x<=255)(hm:m<8): bit8 x m=b2i (bitAt x (7-m)):=by
 obtain⟨n,rfl⟩:=Int.eq_ofNat_of_zero_le hx.1
 exact bit8_all ⟨n,by omega⟩ ⟨m,hm⟩
theorem sgn_of{u:Int}{n:Nat}(hn:1<=n/\n<=64)(hu:0<=u/\u<2^n): (IntKind.i64.wrap (IntKind.u64.wrap (u*2^(64-n)))).fdiv (2^(64-n))=sgnB u n:=by
 have hK:(0:Int)<2^(64-n):=Int.pow_pos (by omega)
 have e1:(2:Int)^n*2^(64-n)=18446744073709551616:=by rw[<- Int.pow_add,show n+(64-n)=64 by omega];rfl
 have e2:(2:Int)^n=2*2^(n-1):=by rw[show n=n-1+1 by omega,Int.pow_succ,Int.mul_comm];simp
 unfold sgnB
 rw[Int.fdiv_eq_ediv_of_nonneg _ (Int.le_of_lt hK)]
 generalize (2:Int)^(64-n)=K at *
 generalize (2:Int)^n=N at *
 generalize (2:Int)^(n-1)=M at *
 subst e2
 have h1:u*K<18446744073709551616:=by rw[<- e1];exact Int.mul_lt_mul_of_pos_right hu.2 hK
 have h0:0<=u*K:=Int.mul_nonneg hu.1 (Int.le_of_lt hK)
 have e3:IntKind.u64.wrap (u*K)=u*K:=by show u*K % 2^64=_;exact Int.emod_eq_of_lt h0 (by omega)
 have e4:M*K=9223372036854775808:=by
  have:2*(M*K)=18446744073709551616:=by rw[<- Int.mul_assoc];exact e1
  omega
 rw[e3]
 by_cases hc:u<M
 ·rw[if_pos hc]
  have h2:u*K<9223372036854775808:=by rw[<- e4];exact Int.mul_lt_mul_of_pos_right hc hK
  have e5:IntKind.i64.wrap (u*K)=u*K:=X0p (by omega) (by omega)
  rw[e5,Int.mul_ediv_cancel _ (Int.ne_of_gt hK)]
 ·rw[if_neg hc]
  have h2:9223372036854775808<=u*K:=by rw[<- e4];exact Int.mul_le_mul_of_nonneg_right (by omega) (Int.le_of_lt hK)
  have e5:IntKind.i64.wrap (u*K)=u*K-18446744073709551616:=by
   have h3:u*K % (2^IntKind.i64.bits:Int)=(u*K-18446744073709551616) % (2^IntKind.i64.bits:Int):=by
    show u*K % 2^64=(u*K-18446744073709551616) % 2^64
    omega
   have h4:IntKind.i64.wrap (u*K)=IntKind.i64.wrap (u*K-18446744073709551616):=by simp only[IntKind.wrap,h3]
   rw[h4];exact X0p (by omega) (by omega)
  have e6:u*K-18446744073709551616=(u-2*M)*K:=by rw[Int.sub_mul];rw[e1]
  rw[e5,e6,Int.mul_ediv_cancel _ (Int.ne_of_gt hK)]
end Go.Proofs.Ytpchcfkebljopaa
end
