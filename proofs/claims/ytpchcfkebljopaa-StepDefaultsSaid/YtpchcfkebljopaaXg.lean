import Derived.Test.YtpchcfkebljopaaChecked
import Derived.Test.YtpchcfkebljopaaXf
set_option linter.unusedSimpArgs false
set_option linter.unusedVariables false
set_option linter.constructorNameAsVariable false
set_option linter.defProp false
set_option maxHeartbeats 8000000
section
namespace Go.Proofs.Ytpchcfkebljopaa
open Go.Cl
abbrev sh1: Shape:=.s
abbrev z1: CV:=.sc .nilFunc
def ti1: TI:=⟨.base (.func #[] #[] false),sh1,8,z1⟩
abbrev sh2: Shape:=.s
abbrev z2: CV:=.sc (.int .i64 0)
def ti2: TI:=⟨.base (.int .i64),sh2,8,z2⟩
abbrev sh3: Shape:=.s
abbrev z3: CV:=.sc (.int .i64 0)
def ti3: TI:=⟨.base (.int .i64),sh3,8,z3⟩
abbrev sh4: Shape:=.s
abbrev z4: CV:=.sc (.bool false)
def ti4: TI:=⟨.base (.bool),sh4,1,z4⟩
abbrev sh5: Shape:=.s
abbrev z5: CV:=.sc (.int .u8 0)
def ti5: TI:=⟨.base (.int .u8),sh5,1,z5⟩
abbrev sh9: Shape:=.s
abbrev z9: CV:=.sc (.string ⟨#[]⟩)
def ti9: TI:=⟨.base (.string),sh9,16,z9⟩
abbrev sh12: Shape:=.s
abbrev z12: CV:=.sc (.int .u64 0)
def ti12: TI:=⟨.base (.int .u64),sh12,8,z12⟩
abbrev sh15: Shape:=.s
abbrev z15: CV:=.sc (.pointer none)
def ti15: TI:=⟨.base (.pointer 243),sh15,8,z15⟩
abbrev sh16: Shape:=.s
abbrev z16: CV:=.sc (.pointer none)
def ti16: TI:=⟨.base (.pointer 246),sh16,8,z16⟩
abbrev sh17: Shape:=.s
abbrev z17: CV:=.sc (.pointer none)
def ti17: TI:=⟨.base (.pointer 255),sh17,8,z17⟩
abbrev sh20: Shape:=.s
abbrev z20: CV:=.sc .nilIface
def ti20: TI:=⟨.base (.interface #[]),sh20,16,z20⟩
abbrev sh21: Shape:=.s
abbrev z21: CV:=.sc (.int .i32 0)
def ti21: TI:=⟨.base (.int .i32),sh21,4,z21⟩
abbrev sh22: Shape:=.s
abbrev z22: CV:=.lst .nil []
def ti22: TI:=⟨.base (.slice 31),sh22,24,z22⟩
abbrev sh23: Shape:=.s
abbrev z23: CV:=.lst .nil []
def ti23: TI:=⟨.base (.slice 29),sh23,24,z23⟩
abbrev sh24: Shape:=.s
abbrev z24: CV:=.lst .nil []
def ti24: TI:=⟨.base (.slice 3),sh24,24,z24⟩
abbrev sh25: Shape:=.s
abbrev z25: CV:=.sc (.int .u64 0)
def ti25: TI:=⟨.base (.int .u64),sh25,8,z25⟩
def sh26: Shape:=.n [sh3,sh3,sh3,sh3,sh3,sh3,sh24,sh25,sh3]
def z26: CV:=.agg [z3,z3,z3,z3,z3,z3,z24,z25,z3]
def ti26: TI:=⟨.st [(0,1,3),(1,1,3),(2,1,3),(3,1,3),(4,1,3),(5,1,3),(6,1,24),(7,1,25),(8,1,3)],sh26,88,z26⟩
def sh27: Shape:=.n [sh3,sh3,sh3,sh3,sh3,sh3,sh24,sh25,sh3]
def z27: CV:=.agg [z3,z3,z3,z3,z3,z3,z24,z25,z3]
def ti27: TI:=⟨.st [(0,1,3),(1,1,3),(2,1,3),(3,1,3),(4,1,3),(5,1,3),(6,1,24),(7,1,25),(8,1,3)],sh27,88,z27⟩
def sh28: Shape:=.n [sh3,sh3,sh3]
def z28: CV:=.agg [z3,z3,z3]
def ti28: TI:=⟨.st [(0,1,3),(1,1,3),(2,1,3)],sh28,24,z28⟩
def sh29: Shape:=.n [sh3,sh3,sh3]
def z29: CV:=.agg [z3,z3,z3]
def ti29: TI:=⟨.st [(0,1,3),(1,1,3),(2,1,3)],sh29,24,z29⟩
abbrev sh30: Shape:=.s
abbrev z30: CV:=.sc .nilFunc
def ti30: TI:=⟨.base (.func #[31] #[29] false),sh30,8,z30⟩
def sh31: Shape:=.n [sh3,sh3,sh3]
def z31: CV:=.agg [z3,z3,z3]
def ti31: TI:=⟨.st [(0,1,3),(1,1,3),(2,1,3)],sh31,24,z31⟩
def sh32: Shape:=.n (List.replicate 4 sh3)
def z32: CV:=.agg (List.replicate 4 z3)
def ti32: TI:=⟨.ar 4 1 3,sh32,32,z32⟩
def sh33: Shape:=.n [sh3,sh3,sh3,sh3,sh3,sh3,sh3,sh32,sh3]
def z33: CV:=.agg [z3,z3,z3,z3,z3,z3,z3,z32,z3]
def ti33: TI:=⟨.st [(0,1,3),(1,1,3),(2,1,3),(3,1,3),(4,1,3),(5,1,3),(6,1,3),(7,4,32),(11,1,3)],sh33,96,z33⟩
def sh34: Shape:=.n [sh3,sh3,sh3,sh3,sh3,sh3,sh3,sh32,sh3]
def z34: CV:=.agg [z3,z3,z3,z3,z3,z3,z3,z32,z3]
def ti34: TI:=⟨.st [(0,1,3),(1,1,3),(2,1,3),(3,1,3),(4,1,3),(5,1,3),(6,1,3),(7,4,32),(11,1,3)],sh34,96,z34⟩
def sh35: Shape:=.n [sh3,sh3,sh3]
def z35: CV:=.agg [z3,z3,z3]
def ti35: TI:=⟨.st [(0,1,3),(1,1,3),(2,1,3)],sh35,24,z35⟩
def sh36: Shape:=.n [sh3,sh3,sh3]
def z36: CV:=.agg [z3,z3,z3]
def ti36: TI:=⟨.st [(0,1,3),(1,1,3),(2,1,3)],sh36,24,z36⟩
abbrev sh37: Shape:=.s
abbrev z37: CV:=.lst .nil []
def ti37: TI:=⟨.base (.slice 34),sh37,24,z37⟩
def sh38: Shape:=.n [sh34,sh36,sh25,sh3,sh37]
def z38: CV:=.agg [z34,z36,z25,z3,z37]
def ti38: TI:=⟨.st [(0,12,34),(12,3,36),(15,1,25),(16,1,3),(17,1,37)],sh38,160,z38⟩
def sh39: Shape:=.n [sh34,sh36,sh25,sh3,sh37]
def z39: CV:=.agg [z34,z36,z25,z3,z37]
def ti39: TI:=⟨.st [(0,12,34),(12,3,36),(15,1,25),(16,1,3),(17,1,37)],sh39,160,z39⟩
abbrev sh40: Shape:=.s
abbrev z40: CV:=.sc .nilFunc
def ti40: TI:=⟨.base (.func #[27] #[39] false),sh40,8,z40⟩
abbrev sh41: Shape:=.s
abbrev z41: CV:=.sc .nilFunc
def ti41: TI:=⟨.base (.func #[] #[4] false),sh41,8,z41⟩
abbrev sh42: Shape:=.s
abbrev z42: CV:=.sc .nilFunc
def ti42: TI:=⟨.base (.func #[34] #[4] false),sh42,8,z42⟩
def sh43: Shape:=.n [sh3,sh3]
def z43: CV:=.agg [z3,z3]
def ti43: TI:=⟨.st [(0,1,3),(1,1,3)],sh43,16,z43⟩
def sh44: Shape:=.n [sh3,sh3]
def z44: CV:=.agg [z3,z3]
def ti44: TI:=⟨.st [(0,1,3),(1,1,3)],sh44,16,z44⟩
abbrev sh46: Shape:=.s
abbrev z46: CV:=.sc .nilFunc
def ti46: TI:=⟨.base (.func #[23,39] #[39,44,4] false),sh46,8,z46⟩
abbrev sh47: Shape:=.s
abbrev z47: CV:=.sc .nilFunc
def ti47: TI:=⟨.base (.func #[39,39] #[4] false),sh47,8,z47⟩
abbrev sh48: Shape:=.s
abbrev z48: CV:=.sc .nilFunc
def ti48: TI:=⟨.base (.func #[22,23,27] #[4] false),sh48,8,z48⟩
abbrev sh49: Shape:=.s
abbrev z49: CV:=.sc .nilFunc
def ti49: TI:=⟨.base (.func #[22] #[23] false),sh49,8,z49⟩
abbrev sh50: Shape:=.s
abbrev z50: CV:=.sc .nilFunc
def ti50: TI:=⟨.base (.func #[22,22,27] #[4] false),sh50,8,z50⟩
def sh51: Shape:=.n [sh34,sh36,sh25,sh3,sh37]
def z51: CV:=.agg [z34,z36,z25,z3,z37]
def ti51: TI:=⟨.st [(0,12,34),(12,3,36),(15,1,25),(16,1,3),(17,1,37)],sh51,160,z51⟩
abbrev sh53: Shape:=.s
abbrev z53: CV:=.sc .nilFunc
def ti53: TI:=⟨.base (.func #[23,51] #[51,3,3,4] false),sh53,8,z53⟩
abbrev sh54: Shape:=.s
abbrev z54: CV:=.sc .nilFunc
def ti54: TI:=⟨.base (.func #[23] #[4] false),sh54,8,z54⟩
abbrev sh55: Shape:=.s
abbrev z55: CV:=.sc .nilFunc
def ti55: TI:=⟨.base (.func #[22,27] #[4] false),sh55,8,z55⟩
def sh56: Shape:=.n [sh3,sh3,sh3,sh3,sh3,sh3,sh3,sh22]
def z56: CV:=.agg [z3,z3,z3,z3,z3,z3,z3,z22]
def ti56: TI:=⟨.st [(0,1,3),(1,1,3),(2,1,3),(3,1,3),(4,1,3),(5,1,3),(6,1,3),(7,1,22)],sh56,80,z56⟩
def sh57: Shape:=.n [sh3,sh3,sh3,sh3,sh3,sh3,sh3,sh22]
def z57: CV:=.agg [z3,z3,z3,z3,z3,z3,z3,z22]
def ti57: TI:=⟨.st [(0,1,3),(1,1,3),(2,1,3),(3,1,3),(4,1,3),(5,1,3),(6,1,3),(7,1,22)],sh57,80,z57⟩
abbrev sh58: Shape:=.s
abbrev z58: CV:=.lst .nil []
def ti58: TI:=⟨.base (.slice 24),sh58,24,z58⟩
abbrev sh59: Shape:=.s
abbrev z59: CV:=.sc (.float .f64 0)
def ti59: TI:=⟨.base (.float .f64),sh59,8,z59⟩
def sh60: Shape:=.n [sh3,sh3,sh3,sh3,sh3,sh3,sh59,sh59,sh23,sh24]
def z60: CV:=.agg [z3,z3,z3,z3,z3,z3,z59,z59,z23,z24]
def ti60: TI:=⟨.st [(0,1,3),(1,1,3),(2,1,3),(3,1,3),(4,1,3),(5,1,3),(6,1,59),(7,1,59),(8,1,23),(9,1,24)],sh60,112,z60⟩
def sh61: Shape:=.n [sh3,sh3,sh3,sh3,sh3,sh3,sh59,sh59,sh23,sh24]
def z61: CV:=.agg [z3,z3,z3,z3,z3,z3,z59,z59,z23,z24]
def ti61: TI:=⟨.st [(0,1,3),(1,1,3),(2,1,3),(3,1,3),(4,1,3),(5,1,3),(6,1,59),(7,1,59),(8,1,23),(9,1,24)],sh61,112,z61⟩
abbrev sh62: Shape:=.s
abbrev z62: CV:=.sc .nilFunc
def ti62: TI:=⟨.base (.func #[57] #[61] false),sh62,8,z62⟩
def sh63: Shape:=.n (List.replicate 16 sh34)
def z63: CV:=.agg (List.replicate 16 z34)
def ti63: TI:=⟨.ar 16 12 34,sh63,1536,z63⟩
def sh64: Shape:=.n (List.replicate 8 sh3)
def z64: CV:=.agg (List.replicate 8 z3)
def ti64: TI:=⟨.ar 8 1 3,sh64,64,z64⟩
def sh65: Shape:=.n [sh3,sh25,sh63,sh64]
def z65: CV:=.agg [z3,z25,z63,z64]
def ti65: TI:=⟨.st [(0,1,3),(1,1,25),(2,192,63),(194,8,64)],sh65,1616,z65⟩
def sh66: Shape:=.n [sh3,sh25,sh63,sh64]
def z66: CV:=.agg [z3,z25,z63,z64]
def ti66: TI:=⟨.st [(0,1,3),(1,1,25),(2,192,63),(194,8,64)],sh66,1616,z66⟩
abbrev sh67: Shape:=.s
abbrev z67: CV:=.sc .nilFunc
def ti67: TI:=⟨.base (.func #[61,58] #[66] false),sh67,8,z67⟩
abbrev sh68: Shape:=.s
abbrev z68: CV:=.lst .nil []
def ti68: TI:=⟨.base (.slice 5),sh68,24,z68⟩
abbrev sh69: Shape:=.s
abbrev z69: CV:=.sc (.int .i64 0)
def ti69: TI:=⟨.base (.int .i64),sh69,8,z69⟩
abbrev sh71: Shape:=.s
abbrev z71: CV:=.sc .nilFunc
def ti71: TI:=⟨.base (.func #[61,66] #[68,69] false),sh71,8,z71⟩
abbrev sh72: Shape:=.s
abbrev z72: CV:=.sc .nilFunc
def ti72: TI:=⟨.base (.func #[66,66] #[4] false),sh72,8,z72⟩
abbrev sh74: Shape:=.s
abbrev z74: CV:=.sc .nilFunc
def ti74: TI:=⟨.base (.func #[61,68] #[66,69] false),sh74,8,z74⟩
abbrev sh75: Shape:=.s
abbrev z75: CV:=.sc .nilFunc
def ti75: TI:=⟨.base (.func #[57,58,58] #[4] false),sh75,8,z75⟩
abbrev sh76: Shape:=.s
abbrev z76: CV:=.sc .nilFunc
def ti76: TI:=⟨.base (.func #[3,3] #[3] false),sh76,8,z76⟩
abbrev sh77: Shape:=.s
abbrev z77: CV:=.sc .nilFunc
def ti77: TI:=⟨.base (.func #[61,66] #[4] false),sh77,8,z77⟩
abbrev sh78: Shape:=.s
abbrev z78: CV:=.sc .nilFunc
def ti78: TI:=⟨.base (.func #[57,58,3,5] #[4] false),sh78,8,z78⟩
abbrev sh80: Shape:=.s
abbrev z80: CV:=.sc .nilFunc
def ti80: TI:=⟨.base (.func #[61,66] #[68,4] false),sh80,8,z80⟩
abbrev sh81: Shape:=.s
abbrev z81: CV:=.sc .nilFunc
def ti81: TI:=⟨.base (.func #[61,66] #[3] false),sh81,8,z81⟩
abbrev sh82: Shape:=.s
abbrev z82: CV:=.sc .nilFunc
def ti82: TI:=⟨.base (.func #[68,3] #[68] false),sh82,8,z82⟩
abbrev sh84: Shape:=.s
abbrev z84: CV:=.sc .nilFunc
def ti84: TI:=⟨.base (.func #[61,68] #[66,4] false),sh84,8,z84⟩
abbrev sh85: Shape:=.s
abbrev z85: CV:=.sc .nilFunc
def ti85: TI:=⟨.base (.func #[57,58,3,3,3,68,4,24,5] #[4] false),sh85,8,z85⟩
abbrev sh86: Shape:=.s
abbrev z86: CV:=.sc .nilFunc
def ti86: TI:=⟨.base (.func #[57,58,3] #[4] false),sh86,8,z86⟩
abbrev sh87: Shape:=.s
abbrev z87: CV:=.sc (.pointer none)
def ti87: TI:=⟨.base (.pointer 34),sh87,8,z87⟩
abbrev sh88: Shape:=.s
abbrev z88: CV:=.sc .nilFunc
def ti88: TI:=⟨.base (.func #[57,58,3,3] #[4] false),sh88,8,z88⟩
def sh89: Shape:=.n [sh3,sh3,sh3,sh3,sh3,sh3,sh3,sh3,sh3,sh3,sh4,sh25,sh24,sh58]
def z89: CV:=.agg [z3,z3,z3,z3,z3,z3,z3,z3,z3,z3,z4,z25,z24,z58]
def ti89: TI:=⟨.st [(0,1,3),(1,1,3),(2,1,3),(3,1,3),(4,1,3),(5,1,3),(6,1,3),(7,1,3),(8,1,3),(9,1,3),(10,1,4),(11,1,25),(12,1,24),(13,1,58)],sh89,144,z89⟩
def sh90: Shape:=.n [sh3,sh3,sh3,sh3,sh3,sh3,sh3,sh3,sh3,sh3,sh4,sh25,sh24,sh58]
def z90: CV:=.agg [z3,z3,z3,z3,z3,z3,z3,z3,z3,z3,z4,z25,z24,z58]
def ti90: TI:=⟨.st [(0,1,3),(1,1,3),(2,1,3),(3,1,3),(4,1,3),(5,1,3),(6,1,3),(7,1,3),(8,1,3),(9,1,3),(10,1,4),(11,1,25),(12,1,24),(13,1,58)],sh90,144,z90⟩
abbrev sh91: Shape:=.s
abbrev z91: CV:=.lst .nil []
def ti91: TI:=⟨.base (.slice 36),sh91,24,z91⟩
abbrev sh92: Shape:=.s
abbrev z92: CV:=.lst .nil []
def ti92: TI:=⟨.base (.slice 108),sh92,24,z92⟩
def sh93: Shape:=.n [sh3,sh3,sh3,sh3,sh4,sh25,sh3,sh3,sh91,sh3,sh92,sh3,sh3]
def z93: CV:=.agg [z3,z3,z3,z3,z4,z25,z3,z3,z91,z3,z92,z3,z3]
def ti93: TI:=⟨.st [(0,1,3),(1,1,3),(2,1,3),(3,1,3),(4,1,4),(5,1,25),(6,1,3),(7,1,3),(8,1,91),(9,1,3),(10,1,92),(11,1,3),(12,1,3)],sh93,136,z93⟩
def sh94: Shape:=.n [sh3,sh3,sh3,sh3,sh4,sh25,sh3,sh3,sh91,sh3,sh92,sh3,sh3]
def z94: CV:=.agg [z3,z3,z3,z3,z4,z25,z3,z3,z91,z3,z92,z3,z3]
def ti94: TI:=⟨.st [(0,1,3),(1,1,3),(2,1,3),(3,1,3),(4,1,4),(5,1,25),(6,1,3),(7,1,3),(8,1,91),(9,1,3),(10,1,92),(11,1,3),(12,1,3)],sh94,136,z94⟩
abbrev sh95: Shape:=.s
abbrev z95: CV:=.sc .nilFunc
def ti95: TI:=⟨.base (.func #[90] #[94] false),sh95,8,z95⟩
abbrev sh96: Shape:=.s
abbrev z96: CV:=.sc .nilFunc
def ti96: TI:=⟨.base (.func #[3,94] #[68,69] false),sh96,8,z96⟩
abbrev sh98: Shape:=.s
abbrev z98: CV:=.sc .nilFunc
def ti98: TI:=⟨.base (.func #[3,68] #[94,69] false),sh98,8,z98⟩
abbrev sh99: Shape:=.s
abbrev z99: CV:=.sc .nilFunc
def ti99: TI:=⟨.base (.func #[94,94] #[4] false),sh99,8,z99⟩
abbrev sh100: Shape:=.s
abbrev z100: CV:=.sc .nilFunc
def ti100: TI:=⟨.base (.func #[90,90,3,3,3,5] #[4] false),sh100,8,z100⟩
abbrev sh101: Shape:=.s
abbrev z101: CV:=.sc .nilFunc
def ti101: TI:=⟨.base (.func #[94] #[4] false),sh101,8,z101⟩
abbrev sh102: Shape:=.s
abbrev z102: CV:=.sc .nilFunc
def ti102: TI:=⟨.base (.func #[90,3] #[4] false),sh102,8,z102⟩
abbrev sh103: Shape:=.s
abbrev z103: CV:=.sc .nilFunc
def ti103: TI:=⟨.base (.func #[3,94] #[68,4] false),sh103,8,z103⟩
abbrev sh104: Shape:=.s
abbrev z104: CV:=.sc .nilFunc
def ti104: TI:=⟨.base (.func #[3,68] #[68] false),sh104,8,z104⟩
abbrev sh106: Shape:=.s
abbrev z106: CV:=.sc .nilFunc
def ti106: TI:=⟨.base (.func #[68] #[3,4] false),sh106,8,z106⟩
abbrev sh107: Shape:=.s
abbrev z107: CV:=.sc .nilFunc
def ti107: TI:=⟨.base (.func #[90,3,68,3,24,5] #[4] false),sh107,8,z107⟩
abbrev sh108: Shape:=.s
abbrev z108: CV:=.lst .nil []
def ti108: TI:=⟨.base (.slice 110),sh108,24,z108⟩
def sh109: Shape:=.n [sh4,sh36]
def z109: CV:=.agg [z4,z36]
def ti109: TI:=⟨.st [(0,1,4),(1,3,36)],sh109,32,z109⟩
def sh110: Shape:=.n [sh4,sh36]
def z110: CV:=.agg [z4,z36]
def ti110: TI:=⟨.st [(0,1,4),(1,3,36)],sh110,32,z110⟩
abbrev sh111: Shape:=.s
abbrev z111: CV:=.sc .nilFunc
def ti111: TI:=⟨.base (.func #[61] #[66] false),sh111,8,z111⟩
abbrev sh112: Shape:=.s
abbrev z112: CV:=.sc .nilFunc
def ti112: TI:=⟨.base (.func #[61] #[4] false),sh112,8,z112⟩
abbrev sh113: Shape:=.s
abbrev z113: CV:=.sc .nilFunc
def ti113: TI:=⟨.base (.func #[3,58] #[92] false),sh113,8,z113⟩
abbrev sh114: Shape:=.s
abbrev z114: CV:=.sc .nilFunc
def ti114: TI:=⟨.base (.func #[61,66,108] #[66] false),sh114,8,z114⟩
abbrev sh115: Shape:=.s
abbrev z115: CV:=.sc .nilFunc
def ti115: TI:=⟨.base (.func #[57,58,92] #[4] false),sh115,8,z115⟩
abbrev sh116: Shape:=.s
abbrev z116: CV:=.sc .nilFunc
def ti116: TI:=⟨.base (.func #[3,23] #[61] true),sh116,8,z116⟩
abbrev sh117: Shape:=.s
abbrev z117: CV:=.sc .nilFunc
def ti117: TI:=⟨.base (.func #[3,58,58,3] #[4] false),sh117,8,z117⟩
def sh118: Shape:=.n (List.replicate 4 sh29)
def z118: CV:=.agg (List.replicate 4 z29)
def ti118: TI:=⟨.ar 4 3 29,sh118,96,z118⟩
abbrev sh119: Shape:=.s
abbrev z119: CV:=.sc .nilFunc
def ti119: TI:=⟨.base (.func #[3,3] #[34] false),sh119,8,z119⟩
abbrev sh120: Shape:=.s
abbrev z120: CV:=.sc .nilFunc
def ti120: TI:=⟨.base (.func #[3,3,58,3] #[4] false),sh120,8,z120⟩
abbrev sh121: Shape:=.s
abbrev z121: CV:=.sc .nilFunc
def ti121: TI:=⟨.base (.func #[3,24] #[108] false),sh121,8,z121⟩
abbrev sh122: Shape:=.s
abbrev z122: CV:=.sc .nilFunc
def ti122: TI:=⟨.base (.func #[57,58,24,3] #[4] false),sh122,8,z122⟩
abbrev sh123: Shape:=.s
abbrev z123: CV:=.sc .nilFunc
def ti123: TI:=⟨.base (.func #[61,66,92] #[66] false),sh123,8,z123⟩
abbrev sh124: Shape:=.s
abbrev z124: CV:=.sc .nilFunc
def ti124: TI:=⟨.base (.func #[57,58] #[4] false),sh124,8,z124⟩
abbrev sh125: Shape:=.s
abbrev z125: CV:=.sc .nilFunc
def ti125: TI:=⟨.base (.func #[3,3] #[36] false),sh125,8,z125⟩
abbrev sh126: Shape:=.s
abbrev z126: CV:=.sc .nilFunc
def ti126: TI:=⟨.base (.func #[] #[39] false),sh126,8,z126⟩
abbrev sh127: Shape:=.s
abbrev z127: CV:=.sc .nilFunc
def ti127: TI:=⟨.base (.func #[3,3,3] #[4] false),sh127,8,z127⟩
abbrev sh128: Shape:=.s
abbrev z128: CV:=.sc .nilFunc
def ti128: TI:=⟨.base (.func #[39] #[39] false),sh128,8,z128⟩
abbrev sh129: Shape:=.s
abbrev z129: CV:=.sc (.pointer none)
def ti129: TI:=⟨.base (.pointer 131),sh129,8,z129⟩
def sh130: Shape:=.n [sh39,sh23,sh3]
def z130: CV:=.agg [z39,z23,z3]
def ti130: TI:=⟨.st [(0,18,39),(18,1,23),(19,1,3)],sh130,192,z130⟩
def sh131: Shape:=.n [sh39,sh23,sh3]
def z131: CV:=.agg [z39,z23,z3]
def ti131: TI:=⟨.st [(0,18,39),(18,1,23),(19,1,3)],sh131,192,z131⟩
abbrev sh133: Shape:=.s
abbrev z133: CV:=.sc .nilFunc
def ti133: TI:=⟨.base (.func #[1] #[44,4] false),sh133,8,z133⟩
abbrev sh134: Shape:=.s
abbrev z134: CV:=.sc .nilFunc
def ti134: TI:=⟨.base (.func #[29,51,3] #[3] false),sh134,8,z134⟩
abbrev sh135: Shape:=.s
abbrev z135: CV:=.sc .nilFunc
def ti135: TI:=⟨.base (.func #[51,3] #[3] false),sh135,8,z135⟩
abbrev sh137: Shape:=.s
abbrev z137: CV:=.sc .nilFunc
def ti137: TI:=⟨.base (.func #[25,3] #[25,3] false),sh137,8,z137⟩
abbrev sh138: Shape:=.s
abbrev z138: CV:=.sc .nilFunc
def ti138: TI:=⟨.base (.func #[29,51] #[3] false),sh138,8,z138⟩
abbrev sh139: Shape:=.s
abbrev z139: CV:=.sc .nilFunc
def ti139: TI:=⟨.base (.func #[3,3,3] #[3] false),sh139,8,z139⟩
abbrev sh140: Shape:=.s
abbrev z140: CV:=.sc .nilFunc
def ti140: TI:=⟨.base (.func #[34,3,3] #[34] false),sh140,8,z140⟩
abbrev sh141: Shape:=.s
abbrev z141: CV:=.sc .nilFunc
def ti141: TI:=⟨.base (.func #[23,142] #[4] false),sh141,8,z141⟩
abbrev sh142: Shape:=.s
abbrev z142: CV:=.sc .nilFunc
def ti142: TI:=⟨.base (.func #[29] #[4] false),sh142,8,z142⟩
abbrev sh143: Shape:=.s
abbrev z143: CV:=.sc (.pointer none)
def ti143: TI:=⟨.base (.pointer 203),sh143,8,z143⟩
abbrev sh144: Shape:=.s
abbrev z144: CV:=.sc .nilFunc
def ti144: TI:=⟨.base (.func #[] #[143] false),sh144,8,z144⟩
abbrev sh145: Shape:=.s
abbrev z145: CV:=.sc .nilFunc
def ti145: TI:=⟨.base (.func #[25,3] #[] false),sh145,8,z145⟩
abbrev sh146: Shape:=.s
abbrev z146: CV:=.sc .nilFunc
def ti146: TI:=⟨.base (.func #[143,34] #[] false),sh146,8,z146⟩
abbrev sh147: Shape:=.s
abbrev z147: CV:=.sc .nilFunc
def ti147: TI:=⟨.base (.func #[] #[68] false),sh147,8,z147⟩
abbrev sh148: Shape:=.s
abbrev z148: CV:=.sc .nilFunc
def ti148: TI:=⟨.base (.func #[] #[61] false),sh148,8,z148⟩
abbrev sh149: Shape:=.s
abbrev z149: CV:=.sc .nilFunc
def ti149: TI:=⟨.base (.func #[61,150] #[66] false),sh149,8,z149⟩
abbrev sh150: Shape:=.s
abbrev z150: CV:=.sc (.pointer none)
def ti150: TI:=⟨.base (.pointer 208),sh150,8,z150⟩
abbrev sh151: Shape:=.s
abbrev z151: CV:=.sc .nilFunc
def ti151: TI:=⟨.base (.func #[68] #[150] false),sh151,8,z151⟩
abbrev sh152: Shape:=.s
abbrev z152: CV:=.sc .nilFunc
def ti152: TI:=⟨.base (.func #[68,68] #[4] false),sh152,8,z152⟩
abbrev sh153: Shape:=.s
abbrev z153: CV:=.sc (.pointer none)
def ti153: TI:=⟨.base (.pointer 156),sh153,8,z153⟩
abbrev sh154: Shape:=.s
abbrev z154: CV:=.lst .nil []
def ti154: TI:=⟨.base (.slice 4),sh154,24,z154⟩
def sh155: Shape:=.n [sh154]
def z155: CV:=.agg [z154]
def ti155: TI:=⟨.st [(0,1,154)],sh155,24,z155⟩
def sh156: Shape:=.n [sh154]
def z156: CV:=.agg [z154]
def ti156: TI:=⟨.st [(0,1,154)],sh156,24,z156⟩
abbrev sh157: Shape:=.s
abbrev z157: CV:=.sc .nilFunc
def ti157: TI:=⟨.base (.func #[3,3] #[] false),sh157,8,z157⟩
abbrev sh158: Shape:=.s
abbrev z158: CV:=.sc .nilFunc
def ti158: TI:=⟨.base (.func #[68] #[3] false),sh158,8,z158⟩
abbrev sh159: Shape:=.s
abbrev z159: CV:=.sc (.pointer none)
def ti159: TI:=⟨.base (.pointer 161),sh159,8,z159⟩
def sh160: Shape:=.n [sh68,sh3,sh4]
def z160: CV:=.agg [z68,z3,z4]
def ti160: TI:=⟨.st [(0,1,68),(1,1,3),(2,1,4)],sh160,40,z160⟩
def sh161: Shape:=.n [sh68,sh3,sh4]
def z161: CV:=.agg [z68,z3,z4]
def ti161: TI:=⟨.st [(0,1,68),(1,1,3),(2,1,4)],sh161,40,z161⟩
abbrev sh162: Shape:=.s
abbrev z162: CV:=.sc .nilFunc
def ti162: TI:=⟨.base (.func #[3] #[25] false),sh162,8,z162⟩
abbrev sh163: Shape:=.s
abbrev z163: CV:=.sc .nilFunc
def ti163: TI:=⟨.base (.func #[3] #[3] false),sh163,8,z163⟩
abbrev sh164: Shape:=.s
abbrev z164: CV:=.sc .nilFunc
def ti164: TI:=⟨.base (.func #[61,3,34] #[4] false),sh164,8,z164⟩
abbrev sh165: Shape:=.s
abbrev z165: CV:=.sc .nilFunc
def ti165: TI:=⟨.base (.func #[94] #[68] false),sh165,8,z165⟩
abbrev sh166: Shape:=.s
abbrev z166: CV:=.sc .nilFunc
def ti166: TI:=⟨.base (.func #[3,68] #[68,4] false),sh166,8,z166⟩
abbrev sh167: Shape:=.s
abbrev z167: CV:=.sc .nilFunc
def ti167: TI:=⟨.base (.func #[150] #[94] false),sh167,8,z167⟩
abbrev sh168: Shape:=.s
abbrev z168: CV:=.sc .nilFunc
def ti168: TI:=⟨.base (.func #[92,92,169] #[4] false),sh168,8,z168⟩
abbrev sh169: Shape:=.s
abbrev z169: CV:=.sc .nilFunc
def ti169: TI:=⟨.base (.func #[108,108] #[4] false),sh169,8,z169⟩
abbrev sh170: Shape:=.s
abbrev z170: CV:=.sc .nilFunc
def ti170: TI:=⟨.base (.func #[91,91] #[4] false),sh170,8,z170⟩
abbrev sh171: Shape:=.s
abbrev z171: CV:=.sc .nilFunc
def ti171: TI:=⟨.base (.func #[94] #[94] false),sh171,8,z171⟩
abbrev sh172: Shape:=.s
abbrev z172: CV:=.sc .nilFunc
def ti172: TI:=⟨.base (.func #[91,173] #[4] false),sh172,8,z172⟩
abbrev sh173: Shape:=.s
abbrev z173: CV:=.sc .nilFunc
def ti173: TI:=⟨.base (.func #[36] #[4] false),sh173,8,z173⟩
abbrev sh174: Shape:=.s
abbrev z174: CV:=.sc .nilFunc
def ti174: TI:=⟨.base (.func #[92,3] #[4] false),sh174,8,z174⟩
abbrev sh175: Shape:=.s
abbrev z175: CV:=.sc .nilFunc
def ti175: TI:=⟨.base (.func #[3] #[68] false),sh175,8,z175⟩
abbrev sh176: Shape:=.s
abbrev z176: CV:=.sc .nilFunc
def ti176: TI:=⟨.base (.func #[3,68] #[3] false),sh176,8,z176⟩
abbrev sh177: Shape:=.s
abbrev z177: CV:=.sc .nilFunc
def ti177: TI:=⟨.base (.func #[159] #[36] false),sh177,8,z177⟩
abbrev sh178: Shape:=.s
abbrev z178: CV:=.sc (.int .u64 0)
def ti178: TI:=⟨.base (.int .u64),sh178,8,z178⟩
abbrev sh179: Shape:=.s
abbrev z179: CV:=.sc .nilFunc
def ti179: TI:=⟨.base (.func #[92,92] #[4] false),sh179,8,z179⟩
abbrev sh180: Shape:=.s
abbrev z180: CV:=.sc .nilFunc
def ti180: TI:=⟨.base (.func #[3,3,3] #[110] false),sh180,8,z180⟩
abbrev sh181: Shape:=.s
abbrev z181: CV:=.sc (.pointer none)
def ti181: TI:=⟨.base (.pointer 223),sh181,8,z181⟩
abbrev sh183: Shape:=.s
abbrev z183: CV:=.sc .nilFunc
def ti183: TI:=⟨.base (.func #[59,59] #[181,69] false),sh183,8,z183⟩
abbrev sh184: Shape:=.s
abbrev z184: CV:=.sc (.pointer none)
def ti184: TI:=⟨.base (.pointer 186),sh184,8,z184⟩
def sh185: Shape:=.n [sh61,sh66,sh108,sh37]
def z185: CV:=.agg [z61,z66,z108,z37]
def ti185: TI:=⟨.st [(0,10,61),(10,202,66),(212,1,108),(213,1,37)],sh185,1776,z185⟩
def sh186: Shape:=.n [sh61,sh66,sh108,sh37]
def z186: CV:=.agg [z61,z66,z108,z37]
def ti186: TI:=⟨.st [(0,10,61),(10,202,66),(212,1,108),(213,1,37)],sh186,1776,z186⟩
abbrev sh187: Shape:=.s
abbrev z187: CV:=.sc .nilFunc
def ti187: TI:=⟨.base (.func #[108,3] #[36] false),sh187,8,z187⟩
abbrev sh188: Shape:=.s
abbrev z188: CV:=.sc .nilFunc
def ti188: TI:=⟨.base (.func #[66] #[3] false),sh188,8,z188⟩
abbrev sh190: Shape:=.s
abbrev z190: CV:=.sc .nilFunc
def ti190: TI:=⟨.base (.func #[34] #[34,4] false),sh190,8,z190⟩
abbrev sh191: Shape:=.s
abbrev z191: CV:=.sc .nilFunc
def ti191: TI:=⟨.base (.func #[34,34] #[4] false),sh191,8,z191⟩
abbrev sh192: Shape:=.s
abbrev z192: CV:=.sc .nilFunc
def ti192: TI:=⟨.base (.func #[37] #[37] false),sh192,8,z192⟩
def sh193: Shape:=.n [sh44]
def z193: CV:=.agg [z44]
def ti193: TI:=⟨.st [(0,2,44)],sh193,16,z193⟩
def sh194: Shape:=.n [sh44]
def z194: CV:=.agg [z44]
def ti194: TI:=⟨.st [(0,2,44)],sh194,16,z194⟩
abbrev sh195: Shape:=.s
abbrev z195: CV:=.sc .nilFunc
def ti195: TI:=⟨.base (.func #[4,3] #[] false),sh195,8,z195⟩
abbrev sh196: Shape:=.s
abbrev z196: CV:=.sc .nilFunc
def ti196: TI:=⟨.base (.func #[29] #[3] false),sh196,8,z196⟩
abbrev sh198: Shape:=.s
abbrev z198: CV:=.sc .nilFunc
def ti198: TI:=⟨.base (.func #[3] #[4,4] false),sh198,8,z198⟩
abbrev sh199: Shape:=.s
abbrev z199: CV:=.sc .nilFunc
def ti199: TI:=⟨.base (.func #[3] #[4] false),sh199,8,z199⟩
abbrev sh200: Shape:=.s
abbrev z200: CV:=.sc .nilFunc
def ti200: TI:=⟨.base (.func #[25] #[25,3] false),sh200,8,z200⟩
abbrev sh201: Shape:=.s
abbrev z201: CV:=.sc .nilFunc
def ti201: TI:=⟨.base (.func #[23,142] #[3] false),sh201,8,z201⟩
def sh202: Shape:=.n [sh68,sh3]
def z202: CV:=.agg [z68,z3]
def ti202: TI:=⟨.st [(0,1,68),(1,1,3)],sh202,32,z202⟩
def sh203: Shape:=.n [sh68,sh3]
def z203: CV:=.agg [z68,z3]
def ti203: TI:=⟨.st [(0,1,68),(1,1,3)],sh203,32,z203⟩
abbrev sh204: Shape:=.s
abbrev z204: CV:=.sc .nilFunc
def ti204: TI:=⟨.base (.func #[25] #[] false),sh204,8,z204⟩
abbrev sh205: Shape:=.s
abbrev z205: CV:=.sc .nilFunc
def ti205: TI:=⟨.base (.func #[68] #[68] false),sh205,8,z205⟩
abbrev sh206: Shape:=.s
abbrev z206: CV:=.sc .nilFunc
def ti206: TI:=⟨.base (.func #[150] #[34] false),sh206,8,z206⟩
def sh207: Shape:=.n [sh68,sh3]
def z207: CV:=.agg [z68,z3]
def ti207: TI:=⟨.st [(0,1,68),(1,1,3)],sh207,32,z207⟩
def sh208: Shape:=.n [sh68,sh3]
def z208: CV:=.agg [z68,z3]
def ti208: TI:=⟨.st [(0,1,68),(1,1,3)],sh208,32,z208⟩
abbrev sh209: Shape:=.s
abbrev z209: CV:=.sc .nilFunc
def ti209: TI:=⟨.base (.func #[59,59] #[4] false),sh209,8,z209⟩
abbrev sh210: Shape:=.s
abbrev z210: CV:=.sc .nilFunc
def ti210: TI:=⟨.base (.func #[143,4] #[] false),sh210,8,z210⟩
abbrev sh211: Shape:=.s
abbrev z211: CV:=.sc .nilFunc
def ti211: TI:=⟨.base (.func #[143,36] #[] false),sh211,8,z211⟩
abbrev sh212: Shape:=.s
abbrev z212: CV:=.sc .nilFunc
def ti212: TI:=⟨.base (.func #[143,94] #[] false),sh212,8,z212⟩
abbrev sh213: Shape:=.s
abbrev z213: CV:=.sc .nilFunc
def ti213: TI:=⟨.base (.func #[150] #[36] false),sh213,8,z213⟩
abbrev sh214: Shape:=.s
abbrev z214: CV:=.sc .nilFunc
def ti214: TI:=⟨.base (.func #[150,215] #[] false),sh214,8,z214⟩
abbrev sh215: Shape:=.s
abbrev z215: CV:=.sc (.pointer none)
def ti215: TI:=⟨.base (.pointer 94),sh215,8,z215⟩
abbrev sh216: Shape:=.s
abbrev z216: CV:=.sc .nilFunc
def ti216: TI:=⟨.base (.func #[91,173] #[3] false),sh216,8,z216⟩
abbrev sh217: Shape:=.s
abbrev z217: CV:=.sc .nilFunc
def ti217: TI:=⟨.base (.func #[108,218] #[4] false),sh217,8,z217⟩
abbrev sh218: Shape:=.s
abbrev z218: CV:=.sc .nilFunc
def ti218: TI:=⟨.base (.func #[110] #[4] false),sh218,8,z218⟩
abbrev sh219: Shape:=.s
abbrev z219: CV:=.sc .nilFunc
def ti219: TI:=⟨.base (.func #[4] #[3] false),sh219,8,z219⟩
abbrev sh220: Shape:=.s
abbrev z220: CV:=.sc .nilFunc
def ti220: TI:=⟨.base (.func #[153,36] #[] false),sh220,8,z220⟩
abbrev sh221: Shape:=.s
abbrev z221: CV:=.sc .nilFunc
def ti221: TI:=⟨.base (.func #[59] #[4] false),sh221,8,z221⟩
def sh222: Shape:=.n [sh59,sh59,sh59,sh3]
def z222: CV:=.agg [z59,z59,z59,z3]
def ti222: TI:=⟨.st [(0,1,59),(1,1,59),(2,1,59),(3,1,3)],sh222,32,z222⟩
def sh223: Shape:=.n [sh59,sh59,sh59,sh3]
def z223: CV:=.agg [z59,z59,z59,z3]
def ti223: TI:=⟨.st [(0,1,59),(1,1,59),(2,1,59),(3,1,3)],sh223,32,z223⟩
abbrev sh224: Shape:=.s
abbrev z224: CV:=.sc (.map none)
def ti224: TI:=⟨.base (.map 3 4),sh224,8,z224⟩
abbrev sh225: Shape:=.s
abbrev z225: CV:=.sc .nilFunc
def ti225: TI:=⟨.base (.func #[34] #[34] false),sh225,8,z225⟩
abbrev sh226: Shape:=.s
abbrev z226: CV:=.sc .nilFunc
def ti226: TI:=⟨.base (.func #[34] #[3] false),sh226,8,z226⟩
abbrev sh227: Shape:=.s
abbrev z227: CV:=.sc .nilFunc
def ti227: TI:=⟨.base (.func #[3,3] #[4] false),sh227,8,z227⟩
abbrev sh228: Shape:=.s
abbrev z228: CV:=.sc .nilFunc
def ti228: TI:=⟨.base (.func #[4,3,3] #[] false),sh228,8,z228⟩
abbrev sh229: Shape:=.s
abbrev z229: CV:=.sc .nilFunc
def ti229: TI:=⟨.base (.func #[29] #[] false),sh229,8,z229⟩
abbrev sh230: Shape:=.s
abbrev z230: CV:=.sc .nilFunc
def ti230: TI:=⟨.base (.func #[] #[3] false),sh230,8,z230⟩
abbrev sh231: Shape:=.s
abbrev z231: CV:=.sc .nilFunc
def ti231: TI:=⟨.base (.func #[92] #[108] true),sh231,8,z231⟩
abbrev sh232: Shape:=.s
abbrev z232: CV:=.sc .nilFunc
def ti232: TI:=⟨.base (.func #[108,218] #[3] false),sh232,8,z232⟩
abbrev sh233: Shape:=.s
abbrev z233: CV:=.sc .nilFunc
def ti233: TI:=⟨.base (.func #[59,3] #[4] false),sh233,8,z233⟩
abbrev sh234: Shape:=.s
abbrev z234: CV:=.sc .nilFunc
def ti234: TI:=⟨.base (.func #[3] #[36] false),sh234,8,z234⟩
abbrev sh236: Shape:=.s
abbrev z236: CV:=.sc .nilFunc
def ti236: TI:=⟨.base (.func #[3,3] #[3,3] false),sh236,8,z236⟩
abbrev sh237: Shape:=.s
abbrev z237: CV:=.sc .nilFunc
def ti237: TI:=⟨.base (.func #[108,3] #[108] false),sh237,8,z237⟩
abbrev sh238: Shape:=.s
abbrev z238: CV:=.sc .nilFunc
def ti238: TI:=⟨.base (.func #[59] #[59] false),sh238,8,z238⟩
abbrev sh239: Shape:=.s
abbrev z239: CV:=.sc .nilFunc
def ti239: TI:=⟨.base (.func #[25] #[59] false),sh239,8,z239⟩
abbrev sh240: Shape:=.s
abbrev z240: CV:=.sc .nilFunc
def ti240: TI:=⟨.base (.func #[59] #[25] false),sh240,8,z240⟩
abbrev sh241: Shape:=.s
abbrev z241: CV:=.sc .nilFunc
def ti241: TI:=⟨.base (.func #[] #[9] false),sh241,8,z241⟩
abbrev sh247: Shape:=.s
abbrev z247: CV:=.sc (.int .u32 0)
def ti247: TI:=⟨.base (.int .u32),sh247,4,z247⟩
abbrev sh250: Shape:=.s
abbrev z250: CV:=.sc .nilFunc
def ti250: TI:=⟨.base (.func #[257,257] #[4] false),sh250,8,z250⟩
abbrev sh251: Shape:=.s
abbrev z251: CV:=.sc (.pointer none)
def ti251: TI:=⟨.base (.pointer 5),sh251,8,z251⟩
abbrev sh256: Shape:=.s
abbrev z256: CV:=.sc .nilFunc
def ti256: TI:=⟨.base (.func #[] #[59] false),sh256,8,z256⟩
def tab: List (TypeId×TI):=[(1,ti1),(2,ti2),(3,ti3),(4,ti4),(5,ti5),(9,ti9),(12,ti12),(15,ti15),(16,ti16),(17,ti17),(20,ti20),(21,ti21),(22,ti22),(23,ti23),(24,ti24),(25,ti25),(26,ti26),(27,ti27),(28,ti28),(29,ti29),(30,ti30),(31,ti31),(32,ti32),(33,ti33),(34,ti34),(35,ti35),(36,ti36),(37,ti37),(38,ti38),(39,ti39),(40,ti40),(41,ti41),(42,ti42),(43,ti43),(44,ti44),(46,ti46),(47,ti47),(48,ti48),(49,ti49),(50,ti50),(51,ti51),(53,ti53),(54,ti54),(55,ti55),(56,ti56),(57,ti57),(58,ti58),(59,ti59),(60,ti60),(61,ti61),(62,ti62),(63,ti63),(64,ti64),(65,ti65),(66,ti66),(67,ti67),(68,ti68),(69,ti69),(71,ti71),(72,ti72),(74,ti74),(75,ti75),(76,ti76),(77,ti77),(78,ti78),(80,ti80),(81,ti81),(82,ti82),(84,ti84),(85,ti85),(86,ti86),(87,ti87),(88,ti88),(89,ti89),(90,ti90),(91,ti91),(92,ti92),(93,ti93),(94,ti94),(95,ti95),(96,ti96),(98,ti98),(99,ti99),(100,ti100),(101,ti101),(102,ti102),(103,ti103),(104,ti104),(106,ti106),(107,ti107),(108,ti108),(109,ti109),(110,ti110),(111,ti111),(112,ti112),(113,ti113),(114,ti114),(115,ti115),(116,ti116),(117,ti117),(118,ti118),(119,ti119),(120,ti120),(121,ti121),(122,ti122),(123,ti123),(124,ti124),(125,ti125),(126,ti126),(127,ti127),(128,ti128),(129,ti129),(130,ti130),(131,ti131),(133,ti133),(134,ti134),(135,ti135),(137,ti137),(138,ti138),(139,ti139),(140,ti140),(141,ti141),(142,ti142),(143,ti143),(144,ti144),(145,ti145),(146,ti146),(147,ti147),(148,ti148),(149,ti149),(150,ti150),(151,ti151),(152,ti152),(153,ti153),(154,ti154),(155,ti155),(156,ti156),(157,ti157),(158,ti158),(159,ti159),(160,ti160),(161,ti161),(162,ti162),(163,ti163),(164,ti164),(165,ti165),(166,ti166),(167,ti167),(168,ti168),(169,ti169),(170,ti170),(171,ti171),(172,ti172),(173,ti173),(174,ti174),(175,ti175),(176,ti176),(177,ti177),(178,ti178),(179,ti179),(180,ti180),(181,ti181),(183,ti183),(184,ti184),(185,ti185),(186,ti186),(187,ti187),(188,ti188),(190,ti190),(191,ti191),(192,ti192),(193,ti193),(194,ti194),(195,ti195),(196,ti196),(198,ti198),(199,ti199),(200,ti200),(201,ti201),(202,ti202),(203,ti203),(204,ti204),(205,ti205),(206,ti206),(207,ti207),(208,ti208),(209,ti209),(210,ti210),(211,ti211),(212,ti212),(213,ti213),(214,ti214),(215,ti215),(216,ti216),(217,ti217),(218,ti218),(219,ti219),(220,ti220),(221,ti221),(222,ti222),(223,ti223),(224,ti224),(225,ti225),(226,ti226),(227,ti227),(228,ti228),(229,ti229),(230,ti230),(231,ti231),(232,ti232),(233,ti233),(234,ti234),(236,ti236),(237,ti237),(238,ti238),(239,ti239),(240,ti240),(241,ti241),(247,ti247),(250,ti250),(251,ti251),(256,ti256)]
theorem tab_ok: tab.all (tiB Try.prog)=true:=by kernel_rfl
noncomputable def C: Ctx:=mkCtx Try.prog (by kernel_rfl) tab tab_ok
theorem tt1: C.tt 1=some ti1:=by kernel_rfl
theorem tt3: C.tt 3=some ti3:=by kernel_rfl
theorem tt4: C.tt 4=some ti4:=by kernel_rfl
theorem tt5: C.tt 5=some ti5:=by kernel_rfl
theorem tt20: C.tt 20=some ti20:=by kernel_rfl
theorem tt22: C.tt 22=some ti22:=by kernel_rfl
theorem tt23: C.tt 23=some ti23:=by kernel_rfl
theorem tt24: C.tt 24=some ti24:=by kernel_rfl
theorem tt25: C.tt 25=some ti25:=by kernel_rfl
theorem tt29: C.tt 29=some ti29:=by kernel_rfl
theorem tt31: C.tt 31=some ti31:=by kernel_rfl
theorem tt32: C.tt 32=some ti32:=by kernel_rfl
theorem tt34: C.tt 34=some ti34:=by kernel_rfl
theorem tt36: C.tt 36=some ti36:=by kernel_rfl
theorem tt37: C.tt 37=some ti37:=by kernel_rfl
theorem tt39: C.tt 39=some ti39:=by kernel_rfl
theorem tt44: C.tt 44=some ti44:=by kernel_rfl
theorem tt51: C.tt 51=some ti51:=by kernel_rfl
theorem tt57: C.tt 57=some ti57:=by kernel_rfl
theorem tt58: C.tt 58=some ti58:=by kernel_rfl
theorem tt59: C.tt 59=some ti59:=by kernel_rfl
theorem tt61: C.tt 61=some ti61:=by kernel_rfl
theorem tt63: C.tt 63=some ti63:=by kernel_rfl
theorem tt64: C.tt 64=some ti64:=by kernel_rfl
theorem tt66: C.tt 66=some ti66:=by kernel_rfl
theorem tt69: C.tt 69=some ti69:=by kernel_rfl
theorem tt92: C.tt 92=some ti92:=by kernel_rfl
theorem tt108: C.tt 108=some ti108:=by kernel_rfl
theorem tt110: C.tt 110=some ti110:=by kernel_rfl
theorem tt131: C.tt 131=some ti131:=by kernel_rfl
theorem tt178: C.tt 178=some ti178:=by kernel_rfl
theorem tt186: C.tt 186=some ti186:=by kernel_rfl
theorem tt194: C.tt 194=some ti194:=by kernel_rfl
theorem tt223: C.tt 223=some ti223:=by kernel_rfl
theorem tt224: C.tt 224=some ti224:=by kernel_rfl
end Go.Proofs.Ytpchcfkebljopaa
end
section
namespace Go.Proofs.Ytpchcfkebljopaa
open Go.Cl Go Go.RowKit
set_option maxRecDepth 100000
def zn201_1:=ZC.reg [zv 6 (.assign (Kn 0))]
def zn201_3:=ZC.reg [zu 7 (zmv 1),zu 8 (zmv 0),zu 9 (zmv 2),zu 10 (zcb .min [Tm 8,Tm 9] [3,3]),zu 11 (zcb .max [Tm 7,Tm 10] [3,3]),zv 6 (zas 11)]
def zn201_0:=ZC.seq zn201_1 (ZC.seq zn201_3 ZC.ret)
def zc201: ZC:=zn201_0
theorem zc201_ok: zcode (xfOf Try.f201).code=some zc201:=by kernel_rfl
def zw201:=zU C zc201.eq_1<|zU C zn201_1.eq_1<|zU C zn201_3.eq_1<|(zunf C zn201_0.eq_1)
theorem rs201: (xfOf Try.f201).rs=[.tmp 6]:=by kernel_rfl
def xf201:=zF C 201 Try.f201
def zn84_1:=ZC.reg [zv 6 (.assign (.const (.bool false)))]
def zn84_3:=ZC.reg [zu 7 (zmv 0),zu 8 (zmv 1),zu 9 (.binOp .geq 3 (Tm 7) (Tm 8) 3),zu 10 (zmv 9),zug 11 (zmv 0) 10 true false,zug 12 (zmv 2) 10 true false,zug 13 (.binOp .leq 3 (Tm 11) (Tm 12) 3) 10 true false,zu 14 (.pick (Tm 10) (Tm 13) (.const (.bool false))),zv 6 (zas 14)]
def zn84_0:=ZC.seq zn84_1 (ZC.seq zn84_3 ZC.ret)
def zc84: ZC:=zn84_0
theorem zc84_ok: zcode (xfOf Try.f84).code=some zc84:=by kernel_rfl
def zw84:=zU C zc84.eq_1<|zU C zn84_1.eq_1<|zU C zn84_3.eq_1<|(zunf C zn84_0.eq_1)
theorem rs84: (xfOf Try.f84).rs=[.tmp 6]:=by kernel_rfl
def xf84:=zF C 84 Try.f84
def zn150_0:=ZC.reg [zu 6 (zmv 1),zu 7 (zmv 2),zu 8 (zmv 0),zu 9 (.nilCheck (Tm 8)),zu 10 (zfa 131 9 2),zu 11 (zld 3 10),zv 12 (zcf 181 [Tm 6,Tm 7,Tm 11] [4,3,3])]
def zc150: ZC:=zn150_0
theorem zc150_ok: zcode (xfOf Try.f150).code=some zc150:=by kernel_rfl
def zw150:=zU C zc150.eq_1<|(zunf C zn150_0.eq_1)
theorem rs150: (xfOf Try.f150).rs=[]:=by kernel_rfl
def xf150:=zF C 150 Try.f150
def zn183_0:=ZC.draw 10 [] [zdd 0 6 (zmv 0) false [] [] false,zdd 1 7 (zmv 1) false [] [] false,zdd 2 8 (zmv 2) false [] [] false,zdd 3 9 (zcf 201 [Tm 8,Kn (-1000000),Kn 1000000] [3,3,3]) false [] [] true,zdd 4 10 (.nilCheck (Tm 6)) true [] [] false,zdd 5 11 (zfa 131 10 0) true [3] [] false,zdd 6 12 (zfa 39 11 0) true [3] [] false,zdd 7 13 (zfa 34 12 7) true [3] [] false,zdd 8 14 (zia 32 13 7) true [] [] false,zd0 9 (.store 3 (Tm 14) (Tm 9)) true [] [] false]
def zc183: ZC:=zn183_0
theorem zc183_ok: zcode (xfOf Try.f183).code=some zc183:=by kernel_rfl
def zw183:=zU C zc183.eq_1<|(zunf C zn183_0.eq_1)
theorem rs183: (xfOf Try.f183).rs=[]:=by kernel_rfl
def xf183:=zF C 183 Try.f183
def zn186_1:=ZC.reg [zv 4 (.assign (Kn 0))]
def zn186_3:=ZC.reg [zu 5 (zmv 0),zu 6 (zmv 1),zu 7 (.nilCheck (Tm 5)),zu 8 (zfa 131 7 0),zu 9 (zfa 39 8 0),zu 10 (zfa 34 9 7),zu 11 (zia 32 10 6),zu 12 (zld 3 11),zv 4 (zas 12)]
def zn186_0:=ZC.seq zn186_1 (ZC.seq zn186_3 ZC.ret)
def zc186: ZC:=zn186_0
theorem zc186_ok: zcode (xfOf Try.f186).code=some zc186:=by kernel_rfl
def zw186:=zU C zc186.eq_1<|zU C zn186_1.eq_1<|zU C zn186_3.eq_1<|(zunf C zn186_0.eq_1)
theorem rs186: (xfOf Try.f186).rs=[.tmp 4]:=by kernel_rfl
def xf186:=zF C 186 Try.f186
def zn181_1:=ZC.reg [zu 6 (zmv 0),zv 7 (.unOp .not 4 (Tm 6))]
def zn181_3:=ZC.reg [zu 8 (zmv 1),zu 9 (zmv 2),zv 10 (zcf 200 [Tm 8,Tm 9] [3,3])]
def zn181_0:=ZC.seq zn181_1 (ZC.cond (Tm 7) zn181_3 ZC.skip)
def zc181: ZC:=zn181_0
theorem zc181_ok: zcode (xfOf Try.f181).code=some zc181:=by kernel_rfl
def zw181:=zU C zc181.eq_1<|zU C zn181_1.eq_1<|zU C zn181_3.eq_1<|(zunf C zn181_0.eq_1)
theorem rs181: (xfOf Try.f181).rs=[]:=by kernel_rfl
def xf181:=zF C 181 Try.f181
def zn200_0:=ZC.reg [zu 4 (zmv 0),zu 5 (zmv 1),⟨some 6,.build 44 ⟨[(0,.tmp 4),(1,.tmp 5)]⟩,none,false⟩,⟨some 7,.build 194 ⟨[(0,.tmp 6)]⟩,none,false⟩,zu 8 (.makeInterface 194 (Tm 7)),zv0 (.panic (Tm 8))]
def zc200: ZC:=zn200_0
theorem zc200_ok: zcode (xfOf Try.f200).code=some zc200:=by kernel_rfl
def zw200:=zU C zc200.eq_1<|(zunf C zn200_0.eq_1)
theorem rs200: (xfOf Try.f200).rs=[]:=by kernel_rfl
def xf200:=zF C 200 Try.f200
def zn187_1:=ZC.reg [zv 4 (.assign (Kn 0))]
def zn187_3:=ZC.reg [zu 5 (zmv 0),zu 6 (zmv 1),zu 7 (zmv 0),zu 8 (.nilCheck (Tm 7)),zu 9 (zfa 131 8 1),zu 10 (zld 23 9),zu 11 (zcb .len [Tm 10] [23]),zu 12 (zcf 84 [Tm 6,Kn 0,Tm 11] [3,3,3]),zv 13 (zcf 150 [Tm 5,Tm 12,Kn 4] [129,4,3])]
def zn187_5:=ZC.reg [zu 14 (zmv 1),zv 4 (zas 14)]
def zn187_0:=ZC.seq zn187_1 (ZC.seq zn187_3 (ZC.seq zn187_5 ZC.ret))
def zc187: ZC:=zn187_0
theorem zc187_ok: zcode (xfOf Try.f187).code=some zc187:=by kernel_rfl
def zw187:=zU C zc187.eq_1<|zU C zn187_1.eq_1<|zU C zn187_3.eq_1<|zU C zn187_5.eq_1<|(zunf C zn187_0.eq_1)
theorem rs187: (xfOf Try.f187).rs=[.tmp 4]:=by kernel_rfl
def xf187:=zF C 187 Try.f187
def zn71_1:=ZC.reg [zv 6 (.assign (.const (.bool false)))]
def zn71_3:=ZC.reg [zu 7 (zmv 0),zu 8 (zmv 1),zu 9 (.binOp .geq 3 (Tm 7) (Tm 8) 3),zu 10 (zmv 9),zug 11 (zmv 0) 10 true false,zug 12 (zmv 2) 10 true false,zug 13 (.binOp .leq 3 (Tm 11) (Tm 12) 3) 10 true false,zu 14 (.pick (Tm 10) (Tm 13) (.const (.bool false))),zv 6 (zas 14)]
def zn71_0:=ZC.seq zn71_1 (ZC.seq zn71_3 ZC.ret)
def zc71: ZC:=zn71_0
theorem zc71_ok: zcode (xfOf Try.f71).code=some zc71:=by kernel_rfl
def zw71:=zU C zc71.eq_1<|zU C zn71_1.eq_1<|zU C zn71_3.eq_1<|(zunf C zn71_0.eq_1)
theorem rs71: (xfOf Try.f71).rs=[.tmp 6]:=by kernel_rfl
def xf71:=zF C 71 Try.f71
def zn140_1:=ZC.reg [zv 6 (.assign (Kn 0))]
def zn140_3:=ZC.reg [zu 7 (zmv 1),zu 8 (zmv 0),zu 9 (zmv 2),zu 10 (zcb .min [Tm 8,Tm 9] [3,3]),zu 11 (zcb .max [Tm 7,Tm 10] [3,3]),zv 6 (zas 11)]
def zn140_0:=ZC.seq zn140_1 (ZC.seq zn140_3 ZC.ret)
def zc140: ZC:=zn140_0
theorem zc140_ok: zcode (xfOf Try.f140).code=some zc140:=by kernel_rfl
def zw140:=zU C zc140.eq_1<|zU C zn140_1.eq_1<|zU C zn140_3.eq_1<|(zunf C zn140_0.eq_1)
theorem rs140: (xfOf Try.f140).rs=[.tmp 6]:=by kernel_rfl
def xf140:=zF C 140 Try.f140
def zn24_1:=ZC.reg [zu 1 (.box 34 (Tm 0)),zv 2 (.assign (.const (.bool false)))]
def zn24_4:=ZC.reg [zu 7 (zfa 34 1 0),zu 8 (zld 3 7),zv 9 (.binOp .eql 3 (Tm 8) (Kn 0) 3)]
def zn24_7:=ZC.reg [zu 10 (zld 34 1),⟨some 11,.build 34 ⟨[]⟩,none,false⟩,zu 12 (.binOp .eql 34 (Tm 10) (Tm 11) 34),zv 2 (zas 12)]
def zn24_10:=ZC.reg [zu 13 (zfa 34 1 7),zu 14 (zld 32 13),zv 15 (.move (Kn 0))]
def zn24_14:=ZC.reg [zv 16 (.binOp .lss 3 (Tm 15) (Kn 4) 3)]
def zn24_20:=ZC.reg [zu 17 (.index 32 (Tm 14) (Tm 15)),zv 4 (zas 17)]
def zn24_22:=ZC.reg [zu 18 (zmv 4),zu 19 (zcf 71 [Tm 18,Kn (-1000000),Kn 1000000] [3,3,3]),zv 20 (.unOp .not 4 (Tm 19))]
def zn24_25:=ZC.reg [zv 2 (.assign (.const (.bool false)))]
def zn24_26:=ZC.reg [zu 21 (.binOp .add 3 (Tm 15) (Kn 1) 3),zv 15 (zmv 21)]
def zn24_13:=ZC.seq zn24_14 (ZC.seq (ZC.cond (Tm 16) ZC.skip (ZC.exit 0)) (ZC.seq (ZC.block 1 (ZC.seq zn24_20 (ZC.seq zn24_22 (ZC.cond (Tm 20) (ZC.seq zn24_25 ZC.ret) ZC.skip)))) zn24_26))
def zn24_28:=ZC.reg [zu 22 (zfa 34 1 2),zu 23 (zld 3 22),zu 24 (zcf 71 [Tm 23,Kn 0,Kn 4095] [3,3,3]),zu 25 (zmv 24),zug 26 (zfa 34 1 3) 25 true false,zug 27 (zld 3 26) 25 true false,zug 28 (zcf 71 [Tm 27,Kn 0,Kn 4095] [3,3,3]) 25 true false,zu 29 (.pick (Tm 25) (Tm 28) (.const (.bool false))),zv 5 (zas 29)]
def zn24_30:=ZC.reg [zu 30 (zfa 34 1 4),zu 31 (zld 3 30),zu 32 (zcf 71 [Tm 31,Kn (-64),Kn 64] [3,3,3]),zu 33 (zmv 32),zug 34 (zfa 34 1 5) 33 true false,zug 35 (zld 3 34) 33 true false,zug 36 (zcf 71 [Tm 35,Kn (-64),Kn 64] [3,3,3]) 33 true false,zu 37 (.pick (Tm 33) (Tm 36) (.const (.bool false))),zv 6 (zas 37)]
def zn24_32:=ZC.reg [zu 38 (zfa 34 1 0),zu 39 (zld 3 38),zu 40 (.binOp .eql 3 (Tm 39) (Kn 1) 3),zu 41 (zmv 40),zug 42 (zfa 34 1 0) 41 false false,zug 43 (zld 3 42) 41 false false,zug 44 (.binOp .eql 3 (Tm 43) (Kn 2) 3) 41 false false,zu 45 (.pick (Tm 41) (.const (.bool true)) (Tm 44)),zu 46 (zmv 45),zug 47 (zfa 34 1 1) 46 true false,zug 48 (zld 3 47) 46 true false,zug 49 (zcf 71 [Tm 48,Kn 0,Kn 7] [3,3,3]) 46 true false,zu 50 (.pick (Tm 46) (Tm 49) (.const (.bool false))),zu 51 (zmv 50),zug 52 (zmv 5) 51 true false,zu 53 (.pick (Tm 51) (Tm 52) (.const (.bool false))),zu 54 (zmv 53),zug 55 (zmv 6) 54 true false,zu 56 (.pick (Tm 54) (Tm 55) (.const (.bool false))),zu 57 (zmv 56),zug 58 (zfa 34 1 6) 57 true false,zug 59 (zld 3 58) 57 true false,zug 60 (zcf 71 [Tm 59,Kn 0,Kn 600] [3,3,3]) 57 true false,zu 61 (.pick (Tm 57) (Tm 60) (.const (.bool false))),zu 62 (zmv 61),zug 63 (zfa 34 1 8) 62 true false,zug 64 (zld 3 63) 62 true false,zug 65 (zcf 71 [Tm 64,Kn 0,Kn 65535] [3,3,3]) 62 true false,zu 66 (.pick (Tm 62) (Tm 65) (.const (.bool false))),zv 2 (zas 66)]
def zn24_0:=ZC.seq zn24_1 (ZC.seq (ZC.seq zn24_4 (ZC.cond (Tm 9) (ZC.seq zn24_7 ZC.ret) ZC.skip)) (ZC.seq (ZC.seq zn24_10 (ZC.block 0 (ZC.loop zn24_13))) (ZC.seq zn24_28 (ZC.seq zn24_30 (ZC.seq zn24_32 ZC.ret)))))
def zc24: ZC:=zn24_0
theorem zc24_ok: zcode (xfOf Try.f24).code=some zc24:=by kernel_rfl
def zw24:=zU C zc24.eq_1<|zU C zn24_1.eq_1<|zU C zn24_4.eq_1<|zU C zn24_7.eq_1<|zU C zn24_10.eq_1<|zU C zn24_14.eq_1<|zU C zn24_20.eq_1<|zU C zn24_22.eq_1<|zU C zn24_25.eq_1<|zU C zn24_26.eq_1<|zU C zn24_13.eq_1<|zU C zn24_28.eq_1<|zU C zn24_30.eq_1<|zU C zn24_32.eq_1<|(zunf C zn24_0.eq_1)
theorem rs24: (xfOf Try.f24).rs=[.tmp 2]:=by kernel_rfl
def xf24:=zF C 24 Try.f24
def zn182_1:=ZC.reg [zv 3 (.box 29 (Tm 1))]
def zn182_3:=ZC.reg [zu 4 (.assign (.const (.bool true))),zv 5 (.assign (.const (.bool true)))]
def zn182_6:=ZC.reg [zu 6 (zfa 29 3 0),zv 7 (zld 3 6)]
def zn182_10:=ZC.reg [zu 9 (.binOp .eql 3 (Tm 7) (Kn 1) 3),zv 8 (zas 9)]
def zn182_13:=ZC.reg [zu 10 (.binOp .eql 3 (Tm 7) (Kn 7) 3),zv 8 (zas 10)]
def zn182_15:=ZC.reg [zu 11 (.binOp .eql 3 (Tm 7) (Kn 9) 3),zv 8 (zas 11)]
def zn182_17:=ZC.reg [zv 5 (.assign (.const (.bool false)))]
def zn182_19:=ZC.reg [zu 13 (.binOp .eql 3 (Tm 7) (Kn 8) 3),zv 12 (zas 13)]
def zn182_21:=ZC.reg [zv 4 (.assign (.const (.bool false)))]
def zn182_24:=ZC.reg [zu 15 (.binOp .eql 3 (Tm 7) (Kn 10) 3),zv 14 (zas 15)]
def zn182_26:=ZC.reg [zu 16 (.binOp .eql 3 (Tm 7) (Kn 13) 3),zv 14 (zas 16)]
def zn182_28:=ZC.reg [zu 4 (.assign (.const (.bool false))),zv 5 (.assign (.const (.bool false)))]
def zn182_30:=ZC.reg [zu 17 (zmv 0),zu 18 (zmv 4),zu 19 (.unOp .not 4 (Tm 18)),zu 20 (zmv 19),zug 21 (zfa 29 3 1) 20 false false,zug 22 (zld 3 21) 20 false false,zug 23 (zcf 84 [Tm 22,Kn 0,Kn 3] [3,3,3]) 20 false false,zu 24 (.pick (Tm 20) (.const (.bool true)) (Tm 23)),zv 25 (zcf 150 [Tm 17,Tm 24,Kn 2] [129,4,3])]
def zn182_31:=ZC.reg [zu 26 (zmv 0),zu 27 (zmv 5),zu 28 (.unOp .not 4 (Tm 27)),zu 29 (zmv 28),zug 30 (zfa 29 3 2) 29 false false,zug 31 (zld 3 30) 29 false false,zug 32 (zcf 84 [Tm 31,Kn 0,Kn 3] [3,3,3]) 29 false false,zu 33 (.pick (Tm 29) (.const (.bool true)) (Tm 32)),zv 34 (zcf 150 [Tm 26,Tm 33,Kn 2] [129,4,3])]
def zn182_0:=ZC.seq zn182_1 (ZC.seq zn182_3 (ZC.seq (ZC.seq zn182_6 (ZC.block 0 (ZC.seq (ZC.seq zn182_10 (ZC.cond (Tm 8) ZC.skip (ZC.seq zn182_13 (ZC.cond (Tm 8) ZC.skip zn182_15)))) (ZC.cond (Tm 8) zn182_17 (ZC.seq zn182_19 (ZC.cond (Tm 12) zn182_21 (ZC.seq (ZC.seq zn182_24 (ZC.cond (Tm 14) ZC.skip zn182_26)) (ZC.cond (Tm 14) zn182_28 ZC.skip)))))))) (ZC.seq zn182_30 zn182_31)))
def zc182: ZC:=zn182_0
theorem zc182_ok: zcode (xfOf Try.f182).code=some zc182:=by kernel_rfl
def zw182:=zU C zc182.eq_1<|zU C zn182_1.eq_1<|zU C zn182_3.eq_1<|zU C zn182_6.eq_1<|zU C zn182_10.eq_1<|zU C zn182_13.eq_1<|zU C zn182_15.eq_1<|zU C zn182_17.eq_1<|zU C zn182_19.eq_1<|zU C zn182_21.eq_1<|zU C zn182_24.eq_1<|zU C zn182_26.eq_1<|zU C zn182_28.eq_1<|zU C zn182_30.eq_1<|zU C zn182_31.eq_1<|(zunf C zn182_0.eq_1)
theorem rs182: (xfOf Try.f182).rs=[]:=by kernel_rfl
def xf182:=zF C 182 Try.f182
def zn184_1:=ZC.reg [zv 4 (.assign (Kn 0))]
def zn184_3:=ZC.reg [zu 7 (zmv 0),zu 8 (.nilCheck (Tm 7)),zu 9 (zfa 131 8 0),zu 10 (zfa 39 9 0),zu 11 (zld 34 10),zu 5 (.alloc 34),zv0 (.store 34 (Tm 5) (Tm 11))]
def zn184_5:=ZC.draw 30 [] [zdd 0 12 (zfa 34 5 2) false [] [] false,zdd 1 13 (zld 3 12) false [] [] false,zdd 2 14 (zfa 34 5 3) false [] [] false,zdd 3 15 (zld 3 14) false [] [] false,zdd 4 16 (zfa 34 5 4) false [] [] false,zdd 5 17 (zld 3 16) false [] [] false,zdd 6 18 (zfa 34 5 5) false [] [] false,zdd 7 19 (zld 3 18) false [] [] false,zdd 8 20 (zfa 34 5 6) false [] [] false,zdd 9 21 (zld 3 20) false [] [] false,zdd 10 22 (zmv 0) false [] [] false,zdd 11 23 (.nilCheck (Tm 22)) false [] [] false,zdd 12 24 (zfa 131 23 0) false [] [] false,zdd 13 25 (zfa 39 24 1) false [] [] false,zdd 14 26 (zfa 36 25 0) false [] [] false,zdd 15 27 (zld 3 26) false [] [] false,zdd 16 28 (zmv 0) false [] [] false,zdd 17 29 (.nilCheck (Tm 28)) false [] [] false,zdd 18 30 (zfa 131 29 0) false [] [] false,zdd 19 31 (zfa 39 30 1) false [] [] false,zdd 20 32 (zfa 36 31 1) false [] [] false,zdd 21 33 (zld 3 32) false [] [] false,zdd 22 34 (zmv 0) true [] [] false,zdd 23 35 (.nilCheck (Tm 34)) true [] [] false,zdd 24 36 (zfa 131 35 0) true [] [] false,zdd 25 37 (zfa 39 36 1) true [] [] false,zdd 26 38 (zfa 36 37 2) true [] [] false,zdd 27 39 (zld 3 38) true [] [] false,⟨28,some 40,.buildSlice 24 8 ⟨[(0,.tmp 13),(1,.tmp 15),(2,.tmp 17),(3,.tmp 19),(4,.tmp 21),(5,.tmp 27),(6,.tmp 33),(7,.tmp 39)]⟩,none,true,[],[],false⟩,zdd 29 6 (zas 40) true [] [] false]
def zn184_7:=ZC.reg [zu 41 (zmv 0),zu 42 (zmv 1),zu 43 (zmv 6),zu 44 (zcb .len [Tm 43] [24]),zu 45 (.binOp .sub 3 (Tm 44) (Kn 1) 3),zu 46 (zcf 84 [Tm 42,Kn 0,Tm 45] [3,3,3]),zv 47 (zcf 150 [Tm 41,Tm 46,Kn 3] [129,4,3])]
def zn184_9:=ZC.reg [zu 48 (zmv 6),zu 49 (zmv 1),zu 50 (zia 24 48 49),zu 51 (zld 3 50),zv 4 (zas 51)]
def zn184_0:=ZC.seq zn184_1 (ZC.seq zn184_3 (ZC.seq zn184_5 (ZC.seq zn184_7 (ZC.seq zn184_9 ZC.ret))))
def zc184: ZC:=zn184_0
theorem zc184_ok: zcode (xfOf Try.f184).code=some zc184:=by kernel_rfl
def zw184:=zU C zc184.eq_1<|zU C zn184_1.eq_1<|zU C zn184_3.eq_1<|zU C zn184_5.eq_1<|zU C zn184_7.eq_1<|zU C zn184_9.eq_1<|(zunf C zn184_0.eq_1)
theorem rs184: (xfOf Try.f184).rs=[.tmp 4]:=by kernel_rfl
def xf184:=zF C 184 Try.f184
def zn185_1:=ZC.reg [zu 7 (zmv 0),zu 8 (.nilCheck (Tm 7)),zu 9 (zfa 131 8 0),zu 10 (zfa 39 9 0),zv 6 (zas 10)]
def zn185_3:=ZC.reg [zv 11 (zmv 1)]
def zn185_6:=ZC.reg [zu 15 (.binOp .eql 3 (Tm 11) (Kn 0) 3),zv 14 (zas 15)]
def zn185_8:=ZC.reg [zu 16 (zmv 6),zu 17 (zmv 2),zu 18 (zcf 201 [Tm 17,Kn 0,Kn 4095] [3,3,3]),zu 19 (.nilCheck (Tm 16)),zu 20 (zfa 34 19 2),zv0 (.store 3 (Tm 20) (Tm 18))]
def zn185_10:=ZC.reg [zu 22 (.binOp .eql 3 (Tm 11) (Kn 1) 3),zv 21 (zas 22)]
def zn185_12:=ZC.reg [zu 23 (zmv 6),zu 24 (zmv 2),zu 25 (zcf 201 [Tm 24,Kn 0,Kn 4095] [3,3,3]),zu 26 (.nilCheck (Tm 23)),zu 27 (zfa 34 26 3),zv0 (.store 3 (Tm 27) (Tm 25))]
def zn185_14:=ZC.reg [zu 29 (.binOp .eql 3 (Tm 11) (Kn 2) 3),zv 28 (zas 29)]
def zn185_16:=ZC.reg [zu 30 (zmv 6),zu 31 (zmv 2),zu 32 (zcf 201 [Tm 31,Kn (-64),Kn 64] [3,3,3]),zu 33 (.nilCheck (Tm 30)),zu 34 (zfa 34 33 4),zv0 (.store 3 (Tm 34) (Tm 32))]
def zn185_18:=ZC.reg [zu 36 (.binOp .eql 3 (Tm 11) (Kn 3) 3),zv 35 (zas 36)]
def zn185_20:=ZC.reg [zu 37 (zmv 6),zu 38 (zmv 2),zu 39 (zcf 201 [Tm 38,Kn (-64),Kn 64] [3,3,3]),zu 40 (.nilCheck (Tm 37)),zu 41 (zfa 34 40 5),zv0 (.store 3 (Tm 41) (Tm 39))]
def zn185_21:=ZC.reg [zu 12 (zmv 0),zv 13 (zcf 150 [Tm 12,.const (.bool false),Kn 3] [129,4,3])]
def zn185_0:=ZC.seq zn185_1 (ZC.seq zn185_3 (ZC.block 0 (ZC.seq zn185_6 (ZC.cond (Tm 14) zn185_8 (ZC.seq zn185_10 (ZC.cond (Tm 21) zn185_12 (ZC.seq zn185_14 (ZC.cond (Tm 28) zn185_16 (ZC.seq zn185_18 (ZC.cond (Tm 35) zn185_20 zn185_21))))))))))
def zc185: ZC:=zn185_0
theorem zc185_ok: zcode (xfOf Try.f185).code=some zc185:=by kernel_rfl
def zw185:=zU C zc185.eq_1<|zU C zn185_1.eq_1<|zU C zn185_3.eq_1<|zU C zn185_6.eq_1<|zU C zn185_8.eq_1<|zU C zn185_10.eq_1<|zU C zn185_12.eq_1<|zU C zn185_14.eq_1<|zU C zn185_16.eq_1<|zU C zn185_18.eq_1<|zU C zn185_20.eq_1<|zU C zn185_21.eq_1<|(zunf C zn185_0.eq_1)
theorem rs185: (xfOf Try.f185).rs=[]:=by kernel_rfl
def xf185:=zF C 185 Try.f185
def zn188_1:=ZC.reg [zv 3 (.box 29 (Tm 1))]
def zn188_3:=ZC.draw 10 [] [zdd 0 8 (zmv 0) false [] [] false,zdd 1 9 (zfa 29 3 1) false [] [] false,zdd 2 10 (zld 3 9) false [] [] false,zdd 3 11 (zcf 186 [Tm 8,Tm 10] [129,3]) false [] [] true,zdd 4 12 (zmv 0) false [] [] false,zdd 5 13 (zfa 29 3 2) true [3] [] false,zdd 6 14 (zld 3 13) true [3] [] false,zdd 7 15 (zcf 186 [Tm 12,Tm 14] [129,3]) true [] [] false,zdd 8 4 (zas 11) true [] [] false,zdd 9 5 (zas 15) true [] [] false]
def zn188_5:=ZC.reg [zu 16 (zfa 29 3 0),zv 17 (zld 3 16)]
def zn188_8:=ZC.reg [zu 53 (.binOp .eql 3 (Tm 17) (Kn 2) 3),zv 52 (zas 53)]
def zn188_10:=ZC.reg [zu 54 (zmv 0),zu 55 (zfa 29 3 1),zu 56 (zld 3 55),zu 57 (zmv 5),zv 58 (zcf 183 [Tm 54,Tm 56,Tm 57] [129,3,3])]
def zn188_12:=ZC.reg [zu 60 (.binOp .eql 3 (Tm 17) (Kn 3) 3),zv 59 (zas 60)]
def zn188_14:=ZC.reg [zu 61 (zmv 0),zu 62 (zfa 29 3 1),zu 63 (zld 3 62),zu 64 (zmv 4),zu 65 (zmv 5),zu 66 (.binOp .add 3 (Tm 64) (Tm 65) 3),zv 67 (zcf 183 [Tm 61,Tm 63,Tm 66] [129,3,3])]
def zn188_16:=ZC.reg [zu 69 (.binOp .eql 3 (Tm 17) (Kn 4) 3),zv 68 (zas 69)]
def zn188_18:=ZC.reg [zu 70 (zmv 0),zu 71 (zfa 29 3 1),zu 72 (zld 3 71),zu 73 (zmv 4),zu 74 (zmv 5),zu 75 (.binOp .sub 3 (Tm 73) (Tm 74) 3),zv 76 (zcf 183 [Tm 70,Tm 72,Tm 75] [129,3,3])]
def zn188_20:=ZC.reg [zu 78 (.binOp .eql 3 (Tm 17) (Kn 5) 3),zv 77 (zas 78)]
def zn188_22:=ZC.reg [zu 79 (zmv 0),zu 80 (zfa 29 3 1),zu 81 (zld 3 80),zu 82 (zmv 4),zu 83 (zmv 5),zu 84 (.binOp .mul 3 (Tm 82) (Tm 83) 3),zv 85 (zcf 183 [Tm 79,Tm 81,Tm 84] [129,3,3])]
def zn188_24:=ZC.reg [zu 87 (.binOp .eql 3 (Tm 17) (Kn 6) 3),zv 86 (zas 87)]
def zn188_27:=ZC.reg [zu 88 (zmv 0),zu 89 (zmv 5),zu 90 (.binOp .neq 3 (Tm 89) (Kn 0) 3),zv 91 (zcf 150 [Tm 88,Tm 90,Kn 1] [129,4,3])]
def zn188_28:=ZC.draw 7 [] [zdd 0 92 (zmv 0) false [] [] false,zdd 1 93 (zfa 29 3 1) false [] [] false,zdd 2 94 (zld 3 93) false [] [] false,zdd 3 95 (zmv 4) false [] [] false,zdd 4 96 (zmv 5) true [] [] false,zdd 5 97 (.binOp .quo 3 (Tm 95) (Tm 96) 3) true [] [] false,zdd 6 98 (zcf 183 [Tm 92,Tm 94,Tm 97] [129,3,3]) true [] [] false]
def zn188_30:=ZC.reg [zu 100 (.binOp .eql 3 (Tm 17) (Kn 11) 3),zv 99 (zas 100)]
def zn188_33:=ZC.reg [zu 101 (zmv 0),zu 102 (zmv 5),zu 103 (.binOp .geq 3 (Tm 102) (Kn 1) 3),zv 104 (zcf 150 [Tm 101,Tm 103,Kn 6] [129,4,3])]
def zn188_35:=ZC.reg [zu 106 (zmv 0),zu 107 (.nilCheck (Tm 106)),zu 108 (zfa 131 107 0),zu 109 (zfa 39 108 2),zu 110 (zld 25 109),zu 111 (zmv 5),zu 112 (zcf 202 [Tm 110,Tm 111] [25,3]),zu 105 (zmv 112),zu 113 (.extract (Tm 105) 0),zu 114 (.extract (Tm 105) 1),zu 6 (zas 113),zv 7 (zas 114)]
def zn188_37:=ZC.reg [zu 115 (zmv 0),zu 116 (zmv 6),zu 117 (.nilCheck (Tm 115)),zu 118 (zfa 131 117 0),zu 119 (zfa 39 118 2),zv0 (.store 25 (Tm 119) (Tm 116))]
def zn188_38:=ZC.reg [zu 120 (zmv 0),zu 121 (zfa 29 3 1),zu 122 (zld 3 121),zu 123 (zmv 7),zv 124 (zcf 183 [Tm 120,Tm 122,Tm 123] [129,3,3])]
def zn188_40:=ZC.draw 14 [] [zdd 0 18 (zmv 0) false [] [] false,zdd 1 19 (zmv 0) false [] [] false,zdd 2 20 (.nilCheck (Tm 19)) false [] [] false,zdd 3 21 (zfa 131 20 0) false [] [] false,zdd 4 22 (zfa 39 21 4) false [] [] false,zdd 5 23 (zld 37 22) false [] [] false,zdd 6 24 (zcb .len [Tm 23] [37]) false [] [] false,zdd 7 25 (zmv 0) true [] [] false,zdd 8 26 (.nilCheck (Tm 25)) true [] [] false,zdd 9 27 (zfa 131 26 0) true [] [] false,zdd 10 28 (zfa 39 27 3) true [] [] false,zdd 11 29 (zld 3 28) true [] [] false,zdd 12 30 (.binOp .lss 3 (Tm 24) (Tm 29) 3) true [] [] false,zdd 13 31 (zcf 150 [Tm 18,Tm 30,Kn 7] [129,4,3]) true [] [] false]
def zn188_41:=ZC.draw 21 [] [zdd 0 32 (zmv 0) false [] [] false,zdd 1 33 (zmv 0) false [] [] false,zdd 2 34 (.nilCheck (Tm 33)) false [] [] false,zdd 3 35 (zfa 131 34 0) false [] [] false,zdd 4 36 (zfa 39 35 4) false [] [] false,zdd 5 37 (zld 37 36) false [] [] false,zdd 6 38 (zcf 148 [Tm 37] [37]) false [] [] true,zdd 7 39 (zmv 0) false [] [] false,zdd 8 40 (.nilCheck (Tm 39)) false [] [] false,zdd 9 41 (zfa 131 40 0) false [6] [] false,zdd 10 42 (zfa 39 41 0) false [6] [] false,zdd 11 43 (zld 34 42) false [6] [] false,zdd 12 44 (zmv 4) false [] [] false,zdd 13 45 (zmv 5) true [] [] false,zdd 14 46 (zcf 203 [Tm 43,Tm 44,Tm 45] [34,3,3]) true [] [] false,⟨15,some 47,.buildSlice 37 1 ⟨[(0,.tmp 46)]⟩,none,true,[],[],false⟩,zdd 16 48 (zcb .append [Tm 38,Tm 47] [37,37]) true [] [] false,zdd 17 49 (.nilCheck (Tm 32)) true [] [] false,zdd 18 50 (zfa 131 49 0) true [] [] false,zdd 19 51 (zfa 39 50 4) true [] [] false,zd0 20 (.store 37 (Tm 51) (Tm 48)) true [] [] false]
def zn188_0:=ZC.seq zn188_1 (ZC.seq zn188_3 (ZC.seq zn188_5 (ZC.block 0 (ZC.seq zn188_8 (ZC.cond (Tm 52) zn188_10 (ZC.seq zn188_12 (ZC.cond (Tm 59) zn188_14 (ZC.seq zn188_16 (ZC.cond (Tm 68) zn188_18 (ZC.seq zn188_20 (ZC.cond (Tm 77) zn188_22 (ZC.seq zn188_24 (ZC.cond (Tm 86) (ZC.seq zn188_27 zn188_28) (ZC.seq zn188_30 (ZC.cond (Tm 99) (ZC.seq zn188_33 (ZC.seq zn188_35 (ZC.seq zn188_37 zn188_38))) (ZC.seq zn188_40 zn188_41))))))))))))))))
def zc188: ZC:=zn188_0
theorem zc188_ok: zcode (xfOf Try.f188).code=some zc188:=by kernel_rfl
def zw188:=zU C zc188.eq_1<|zU C zn188_1.eq_1<|zU C zn188_3.eq_1<|zU C zn188_5.eq_1<|zU C zn188_8.eq_1<|zU C zn188_10.eq_1<|zU C zn188_12.eq_1<|zU C zn188_14.eq_1<|zU C zn188_16.eq_1<|zU C zn188_18.eq_1<|zU C zn188_20.eq_1<|zU C zn188_22.eq_1<|zU C zn188_24.eq_1<|zU C zn188_27.eq_1<|zU C zn188_28.eq_1<|zU C zn188_30.eq_1<|zU C zn188_33.eq_1<|zU C zn188_35.eq_1<|zU C zn188_37.eq_1<|zU C zn188_38.eq_1<|zU C zn188_40.eq_1<|zU C zn188_41.eq_1<|(zunf C zn188_0.eq_1)
theorem rs188: (xfOf Try.f188).rs=[]:=by kernel_rfl
def xf188:=zF C 188 Try.f188
def zn202_1:=ZC.reg [zu 4 (.assign (.const (.int .u64 0))),zv 5 (.assign (Kn 0))]
def zn202_4:=ZC.reg [zu 7 (zmv 1),zv 8 (.binOp .lss 3 (Tm 7) (Kn 1) 3)]
def zn202_7:=ZC.reg [zu 9 (zmv 0),zu 4 (zas 9),zv 5 (.assign (Kn 0))]
def zn202_9:=ZC.reg [zu 11 (zmv 0),zu 12 (zcf 207 [Tm 11] [25]),zu 10 (zmv 12),zu 13 (.extract (Tm 10) 0),zu 14 (.extract (Tm 10) 1),zu 0 (zas 13),zv 6 (zas 14)]
def zn202_11:=ZC.draw 6 [] [zdd 0 15 (zmv 0) false [] [] false,zdd 1 16 (zmv 6) false [] [] false,zdd 2 17 (zmv 1) false [] [] false,zdd 3 18 (.binOp .rem 3 (Tm 16) (Tm 17) 3) false [] [] false,zdd 4 4 (zas 15) true [] [] false,zdd 5 5 (zas 18) true [] [] false]
def zn202_0:=ZC.seq zn202_1 (ZC.seq (ZC.seq zn202_4 (ZC.cond (Tm 8) (ZC.seq zn202_7 ZC.ret) ZC.skip)) (ZC.seq zn202_9 (ZC.seq zn202_11 ZC.ret)))
def zc202: ZC:=zn202_0
theorem zc202_ok: zcode (xfOf Try.f202).code=some zc202:=by kernel_rfl
def zw202:=zU C zc202.eq_1<|zU C zn202_1.eq_1<|zU C zn202_4.eq_1<|zU C zn202_7.eq_1<|zU C zn202_9.eq_1<|zU C zn202_11.eq_1<|(zunf C zn202_0.eq_1)
theorem rs202: (xfOf Try.f202).rs=[.tmp 4,.tmp 5]:=by kernel_rfl
def xf202:=zF C 202 Try.f202
def zn207_1:=ZC.reg [zu 2 (.assign (.const (.int .u64 0))),zv 3 (.assign (Kn 0))]
def zn207_3:=ZC.reg [zu 4 (zmv 0),zu 5 (.binOp .mul 25 (Tm 4) (.const (.int .u64 6364136223846793005)) 25),zu 6 (.binOp .add 25 (Tm 5) (.const (.int .u64 1442695040888963407)) 25),zv 0 (zas 6)]
def zn207_5:=ZC.reg [zu 7 (zmv 0),zu 8 (zmv 0),zu 9 (.binOp .shr 25 (Tm 8) (.const (.int .u64 33)) 178),zu 10 (.convert 25 3 (Tm 9)),zu 2 (zas 7),zv 3 (zas 10)]
def zn207_0:=ZC.seq zn207_1 (ZC.seq zn207_3 (ZC.seq zn207_5 ZC.ret))
def zc207: ZC:=zn207_0
theorem zc207_ok: zcode (xfOf Try.f207).code=some zc207:=by kernel_rfl
def zw207:=zU C zc207.eq_1<|zU C zn207_1.eq_1<|zU C zn207_3.eq_1<|zU C zn207_5.eq_1<|(zunf C zn207_0.eq_1)
theorem rs207: (xfOf Try.f207).rs=[.tmp 2,.tmp 3]:=by kernel_rfl
def xf207:=zF C 207 Try.f207
def zn203_1:=ZC.reg [zu 3 (.box 34 (Tm 0)),zv 6 (.alloc 34)]
def zn203_4:=ZC.reg [zu 7 (zld 34 3),zu 8 (zcf 24 [Tm 7] [34]),zu 9 (.unOp .not 4 (Tm 8)),zu 10 (zmv 9),zug 11 (zfa 34 3 0) 10 false false,zug 12 (zld 3 11) 10 false false,zug 13 (.binOp .eql 3 (Tm 12) (Kn 0) 3) 10 false false,zv 14 (.pick (Tm 10) (.const (.bool true)) (Tm 13))]
def zn203_7:=ZC.reg [⟨some 15,.build 34 ⟨[]⟩,none,false⟩,zv0 (.store 34 (Tm 6) (Tm 15))]
def zn203_9:=ZC.draw 12 [] [zdd 0 16 (zfa 34 3 1) false [] [7,9] false,zdd 1 17 (zld 3 16) false [] [7,9] false,zdd 2 18 (zfa 34 3 2) false [] [7,9] false,zdd 3 19 (zld 3 18) false [] [7,9] false,zdd 4 20 (zfa 34 3 3) false [] [7,9] false,zdd 5 21 (zld 3 20) false [] [7,9] false,zdd 6 22 (zmv 1) false [] [] false,zdd 7 23 (zcf 140 [Tm 22,Kn (-64),Kn 64] [3,3,3]) false [] [] false,zdd 8 24 (zmv 2) true [] [] false,zdd 9 25 (zcf 140 [Tm 24,Kn (-64),Kn 64] [3,3,3]) true [] [] false,⟨10,some 26,.build 34 ⟨[(0,.const (.int .i64 2)),(1,.tmp 17),(2,.tmp 19),(3,.tmp 21),(4,.tmp 23),(5,.tmp 25)]⟩,none,true,[],[],false⟩,zd0 11 (.store 34 (Tm 6) (Tm 26)) true [] [] false]
def zn203_0:=ZC.seq zn203_1 (ZC.seq (ZC.seq zn203_4 (ZC.cond (Tm 14) (ZC.seq zn203_7 ZC.ret) ZC.skip)) (ZC.seq zn203_9 ZC.ret))
def zc203: ZC:=zn203_0
theorem zc203_ok: zcode (xfOf Try.f203).code=some zc203:=by kernel_rfl
def zw203:=zU C zc203.eq_1<|zU C zn203_1.eq_1<|zU C zn203_4.eq_1<|zU C zn203_7.eq_1<|zU C zn203_9.eq_1<|(zunf C zn203_0.eq_1)
theorem rs203: (xfOf Try.f203).rs=[.cell 6 34]:=by kernel_rfl
def xf203:=zF C 203 Try.f203
def zn196_1:=ZC.reg [zu 3 (.box 34 (Tm 0)),zv 6 (.alloc 34)]
def zn196_4:=ZC.reg [zu 7 (zld 34 3),zu 8 (zcf 24 [Tm 7] [34]),zu 9 (.unOp .not 4 (Tm 8)),zu 10 (zmv 9),zug 11 (zfa 34 3 0) 10 false false,zug 12 (zld 3 11) 10 false false,zug 13 (.binOp .eql 3 (Tm 12) (Kn 0) 3) 10 false false,zv 14 (.pick (Tm 10) (.const (.bool true)) (Tm 13))]
def zn196_7:=ZC.reg [⟨some 15,.build 34 ⟨[]⟩,none,false⟩,zv0 (.store 34 (Tm 6) (Tm 15))]
def zn196_9:=ZC.draw 8 [] [zdd 0 16 (zfa 34 3 4) false [] [3] false,zdd 1 17 (zld 3 16) false [] [3] false,zdd 2 18 (zmv 1) true [] [] false,zdd 3 19 (zcf 140 [Tm 18,Kn (-1000),Kn 1000] [3,3,3]) true [] [] false,zdd 4 20 (.binOp .add 3 (Tm 17) (Tm 19) 3) true [] [] false,zdd 5 21 (zcf 140 [Tm 20,Kn (-64),Kn 64] [3,3,3]) true [] [] false,zdd 6 22 (zfa 34 3 4) true [] [] false,zd0 7 (.store 3 (Tm 22) (Tm 21)) true [] [] false]
def zn196_11:=ZC.draw 8 [] [zdd 0 23 (zfa 34 3 5) false [] [3] false,zdd 1 24 (zld 3 23) false [] [3] false,zdd 2 25 (zmv 2) true [] [] false,zdd 3 26 (zcf 140 [Tm 25,Kn (-1000),Kn 1000] [3,3,3]) true [] [] false,zdd 4 27 (.binOp .add 3 (Tm 24) (Tm 26) 3) true [] [] false,zdd 5 28 (zcf 140 [Tm 27,Kn (-64),Kn 64] [3,3,3]) true [] [] false,zdd 6 29 (zfa 34 3 5) true [] [] false,zd0 7 (.store 3 (Tm 29) (Tm 28)) true [] [] false]
def zn196_13:=ZC.reg [zu 30 (zld 34 3),zv0 (.store 34 (Tm 6) (Tm 30))]
def zn196_0:=ZC.seq zn196_1 (ZC.seq (ZC.seq zn196_4 (ZC.cond (Tm 14) (ZC.seq zn196_7 ZC.ret) ZC.skip)) (ZC.seq zn196_9 (ZC.seq zn196_11 (ZC.seq zn196_13 ZC.ret))))
def zc196: ZC:=zn196_0
theorem zc196_ok: zcode (xfOf Try.f196).code=some zc196:=by kernel_rfl
def zw196:=zU C zc196.eq_1<|zU C zn196_1.eq_1<|zU C zn196_4.eq_1<|zU C zn196_7.eq_1<|zU C zn196_9.eq_1<|zU C zn196_11.eq_1<|zU C zn196_13.eq_1<|(zunf C zn196_0.eq_1)
theorem rs196: (xfOf Try.f196).rs=[.cell 6 34]:=by kernel_rfl
def xf196:=zF C 196 Try.f196
def zn25_1:=ZC.reg [zu 3 (.box 39 (Tm 1)),zu 4 (.alloc 39),zu 5 (.alloc 44),zv 6 (.assign (.const (.bool false)))]
def zn25_4:=ZC.reg [zu 10 (zfa 39 3 0),zu 11 (zld 34 10),zu 12 (zcf 24 [Tm 11] [34]),zu 13 (.unOp .not 4 (Tm 12)),zu 14 (zmv 13),zug 15 (zfa 39 3 0) 14 false false,zug 16 (zfa 34 15 0) 14 false false,zug 17 (zld 3 16) 14 false false,zug 18 (.binOp .eql 3 (Tm 17) (Kn 0) 3) 14 false false,zv 19 (.pick (Tm 14) (.const (.bool true)) (Tm 18))]
def zn25_7:=ZC.reg [zu 20 (zld 39 3),zu 21 (zcf 72 [Tm 20] [39]),⟨some 22,.build 44 ⟨[]⟩,none,false⟩,zu0 (.store 39 (Tm 4) (Tm 21)),zu0 (.store 44 (Tm 5) (Tm 22)),zv 6 (.assign (.const (.bool false)))]
def zn25_9:=ZC.reg [zu 23 (zld 39 3),zu 24 (zcf 72 [Tm 23] [39]),zu 25 (zmv 0),⟨some 26,.build 131 ⟨[(0,.tmp 24),(1,.tmp 25)]⟩,none,false⟩,zu 27 (.box 131 (Tm 26)),zv 7 (zas 27)]
def zn25_12:=ZC.reg [zu 29 (zmv 7),⟨some 30,.makeFunc (.func 74) ⟨[Tm 29]⟩ ⟨[]⟩,none,false⟩,zu 31 (zcf 73 [Tm 30] [1]),zu 28 (zmv 31),zu 32 (.extract (Tm 28) 0),zu 33 (.extract (Tm 28) 1),zu 8 (.alloc 44),zu0 (.store 44 (Tm 8) (Tm 32)),zv 9 (zas 33)]
def zn25_14:=ZC.reg [zv 34 (zmv 9)]
def zn25_17:=ZC.draw 6 [] [zdd 0 35 (zld 39 3) false [] [] false,zdd 1 36 (zcf 72 [Tm 35] [39]) false [] [] true,zdd 2 37 (zld 44 8) false [1] [3] false,zd0 3 (.store 39 (Tm 4) (Tm 36)) true [] [] false,zd0 4 (.store 44 (Tm 5) (Tm 37)) true [] [] false,zdd 5 6 (.assign (.const (.bool false))) true [] [] false]
def zn25_19:=ZC.reg [zu 38 (zmv 7),zu 39 (.nilCheck (Tm 38)),zu 40 (zfa 131 39 0),zu 41 (zld 39 40),⟨some 42,.build 44 ⟨[]⟩,none,false⟩,zu0 (.store 39 (Tm 4) (Tm 41)),zu0 (.store 44 (Tm 5) (Tm 42)),zv 6 (.assign (.const (.bool true)))]
def zn25_0:=ZC.seq zn25_1 (ZC.seq (ZC.seq zn25_4 (ZC.cond (Tm 19) (ZC.seq zn25_7 ZC.ret) ZC.skip)) (ZC.seq zn25_9 (ZC.seq (ZC.seq zn25_12 (ZC.seq zn25_14 (ZC.cond (Tm 34) (ZC.seq zn25_17 ZC.ret) ZC.skip))) (ZC.seq zn25_19 ZC.ret))))
def zc25: ZC:=zn25_0
theorem zc25_ok: zcode (xfOf Try.f25).code=some zc25:=by kernel_rfl
def zw25:=zU C zc25.eq_1<|zU C zn25_1.eq_1<|zU C zn25_4.eq_1<|zU C zn25_7.eq_1<|zU C zn25_9.eq_1<|zU C zn25_12.eq_1<|zU C zn25_14.eq_1<|zU C zn25_17.eq_1<|zU C zn25_19.eq_1<|(zunf C zn25_0.eq_1)
theorem rs25: (xfOf Try.f25).rs=[.cell 4 39,.cell 5 44,.tmp 6]:=by kernel_rfl
def xf25:=zF C 25 Try.f25
def zn72_1:=ZC.reg [zu 1 (.box 39 (Tm 0)),zv 2 (.alloc 39)]
def zn72_3:=ZC.reg [zu 3 (zfa 39 1 4),zu 4 (zld 37 3),zu 5 (zcf 148 [Tm 4] [37]),zu 6 (zfa 39 1 4),zv0 (.store 37 (Tm 6) (Tm 5))]
def zn72_5:=ZC.reg [zu 7 (zld 39 1),zv0 (.store 39 (Tm 2) (Tm 7))]
def zn72_0:=ZC.seq zn72_1 (ZC.seq zn72_3 (ZC.seq zn72_5 ZC.ret))
def zc72: ZC:=zn72_0
theorem zc72_ok: zcode (xfOf Try.f72).code=some zc72:=by kernel_rfl
def zw72:=zU C zc72.eq_1<|zU C zn72_1.eq_1<|zU C zn72_3.eq_1<|zU C zn72_5.eq_1<|(zunf C zn72_0.eq_1)
theorem rs72: (xfOf Try.f72).rs=[.cell 2 39]:=by kernel_rfl
def xf72:=zF C 72 Try.f72
def zn74_1:=ZC.reg [zv 2 (.assign (Kn 0))]
def zn74_6:=ZC.draw 10 [] [zdd 0 3 (zmv 0) false [] [] false,zdd 1 4 (.nilCheck (Tm 3)) false [] [] false,zdd 2 5 (zfa 131 4 2) false [] [] false,zdd 3 6 (zld 3 5) false [] [] false,zdd 4 7 (zmv 0) true [] [] false,zdd 5 8 (.nilCheck (Tm 7)) true [] [] false,zdd 6 9 (zfa 131 8 1) true [] [] false,zdd 7 10 (zld 23 9) true [] [] false,zdd 8 11 (zcb .len [Tm 10] [23]) true [] [] false,zdd 9 12 (.binOp .lss 3 (Tm 6) (Tm 11) 3) true [] [] false]
def zn74_11:=ZC.reg [zu 15 (zmv 0),zu 16 (zmv 2),zu 17 (.binOp .lss 3 (Tm 16) (Kn 64) 3),zv 18 (zcf 150 [Tm 15,Tm 17,Kn 5] [129,4,3])]
def zn74_12:=ZC.draw 16 [] [zdd 0 19 (zmv 0) false [] [] false,zdd 1 20 (zmv 0) false [] [] false,zdd 2 21 (zmv 0) false [] [] false,zdd 3 22 (.nilCheck (Tm 21)) false [] [] false,zdd 4 23 (zfa 131 22 1) false [] [] false,zdd 5 24 (zld 23 23) false [] [] false,zdd 6 25 (zmv 0) true [] [] false,zdd 7 26 (.nilCheck (Tm 25)) true [] [] false,zdd 8 27 (zfa 131 26 2) true [] [] false,zdd 9 28 (zld 3 27) true [] [] false,zdd 10 29 (zia 23 24 28) true [] [] false,zdd 11 30 (zld 29 29) true [] [] false,zdd 12 31 (zcf 151 [Tm 20,Tm 30] [129,29]) true [] [] false,zdd 13 32 (.nilCheck (Tm 19)) true [] [] false,zdd 14 33 (zfa 131 32 2) true [] [] false,zd0 15 (.store 3 (Tm 33) (Tm 31)) true [] [] false]
def zn74_13:=ZC.reg [zu 13 (zmv 2),zu 14 (.binOp .add 3 (Tm 13) (Kn 1) 3),zv 2 (zas 14)]
def zn74_4:=ZC.seq (ZC.seq zn74_6 (ZC.cond (Tm 12) ZC.skip (ZC.exit 0))) (ZC.seq (ZC.block 1 (ZC.seq zn74_11 zn74_12)) zn74_13)
def zn74_0:=ZC.seq zn74_1 (ZC.block 0 (ZC.loop zn74_4))
def zc74: ZC:=zn74_0
theorem zc74_ok: zcode (xfOf Try.f74).code=some zc74:=by kernel_rfl
def zw74:=zU C zc74.eq_1<|zU C zn74_1.eq_1<|zU C zn74_6.eq_1<|zU C zn74_11.eq_1<|zU C zn74_12.eq_1<|zU C zn74_13.eq_1<|zU C zn74_4.eq_1<|(zunf C zn74_0.eq_1)
theorem rs74: (xfOf Try.f74).rs=[]:=by kernel_rfl
def xf74:=zF C 74 Try.f74
def zn151_1:=ZC.reg [zu 3 (.box 29 (Tm 1)),zv 4 (.assign (Kn 0))]
def zn151_3:=ZC.reg [zu 5 (zmv 0),zu 6 (zfa 29 3 0),zu 7 (zld 3 6),zu 8 (zcf 84 [Tm 7,Kn 1,Kn 13] [3,3,3]),zv 9 (zcf 150 [Tm 5,Tm 8,Kn 4] [129,4,3])]
def zn151_5:=ZC.reg [zu 10 (zmv 0),zu 11 (zld 29 3),zv 12 (zcf 182 [Tm 10,Tm 11] [129,29])]
def zn151_8:=ZC.reg [zu 13 (zfa 29 3 0),zv 14 (zld 3 13)]
def zn151_11:=ZC.reg [zu 19 (.binOp .eql 3 (Tm 14) (Kn 1) 3),zv 18 (zas 19)]
def zn151_13:=ZC.reg [zu 20 (zmv 0),zu 21 (zfa 29 3 1),zu 22 (zld 3 21),zu 23 (zfa 29 3 2),zu 24 (zld 3 23),zv 25 (zcf 183 [Tm 20,Tm 22,Tm 24] [129,3,3])]
def zn151_15:=ZC.reg [zu 27 (.binOp .eql 3 (Tm 14) (Kn 7) 3),zv 26 (zas 27)]
def zn151_17:=ZC.draw 8 [] [zdd 0 28 (zmv 0) false [] [] false,zdd 1 29 (zfa 29 3 1) false [] [6] false,zdd 2 30 (zld 3 29) false [] [6] false,zdd 3 31 (zmv 0) false [] [] false,zdd 4 32 (zfa 29 3 2) true [] [] false,zdd 5 33 (zld 3 32) true [] [] false,zdd 6 34 (zcf 184 [Tm 31,Tm 33] [129,3]) true [] [] false,zdd 7 35 (zcf 183 [Tm 28,Tm 30,Tm 34] [129,3,3]) true [] [] false]
def zn151_19:=ZC.reg [zu 37 (.binOp .eql 3 (Tm 14) (Kn 8) 3),zv 36 (zas 37)]
def zn151_21:=ZC.draw 8 [] [zdd 0 38 (zmv 0) false [] [] false,zdd 1 39 (zfa 29 3 1) false [] [6] false,zdd 2 40 (zld 3 39) false [] [6] false,zdd 3 41 (zmv 0) false [] [] false,zdd 4 42 (zfa 29 3 2) true [] [] false,zdd 5 43 (zld 3 42) true [] [] false,zdd 6 44 (zcf 186 [Tm 41,Tm 43] [129,3]) true [] [] false,zdd 7 45 (zcf 185 [Tm 38,Tm 40,Tm 44] [129,3,3]) true [] [] false]
def zn151_23:=ZC.reg [zu 47 (.binOp .eql 3 (Tm 14) (Kn 9) 3),zv 46 (zas 47)]
def zn151_26:=ZC.reg [zu 48 (zmv 0),zu 49 (zfa 29 3 1),zu 50 (zld 3 49),zu 51 (zcf 186 [Tm 48,Tm 50] [129,3]),zv 52 (.binOp .eql 3 (Tm 51) (Kn 0) 3)]
def zn151_29:=ZC.reg [zu 53 (zmv 0),zu 54 (zfa 29 3 2),zu 55 (zld 3 54),zu 56 (zcf 187 [Tm 53,Tm 55] [129,3]),zv 4 (zas 56)]
def zn151_31:=ZC.reg [zu 58 (.binOp .eql 3 (Tm 14) (Kn 10) 3),zv 57 (zas 58)]
def zn151_34:=ZC.reg [zu 59 (zmv 0),zu 60 (zfa 29 3 2),zu 61 (zld 3 60),zu 62 (zcf 187 [Tm 59,Tm 61] [129,3]),zv 4 (zas 62)]
def zn151_36:=ZC.reg [zu 64 (.binOp .eql 3 (Tm 14) (Kn 13) 3),zv 63 (zas 64)]
def zn151_39:=ZC.reg [zu 65 (zmv 0),zu 66 (.nilCheck (Tm 65)),zu 67 (zfa 131 66 1),zu 68 (zld 23 67),zu 69 (zcb .len [Tm 68] [23]),zv 4 (zas 69)]
def zn151_40:=ZC.reg [zu 15 (zmv 0),zu 16 (zld 29 3),zv 17 (zcf 188 [Tm 15,Tm 16] [129,29])]
def zn151_42:=ZC.reg [zu 70 (zmv 0),zu 71 (.nilCheck (Tm 70)),zu 72 (zfa 131 71 2),zu 73 (zld 3 72),zu 74 (.binOp .add 3 (Tm 73) (Kn 1) 3),zv 4 (zas 74)]
def zn151_0:=ZC.seq zn151_1 (ZC.seq zn151_3 (ZC.seq zn151_5 (ZC.seq (ZC.seq zn151_8 (ZC.block 0 (ZC.seq zn151_11 (ZC.cond (Tm 18) zn151_13 (ZC.seq zn151_15 (ZC.cond (Tm 26) zn151_17 (ZC.seq zn151_19 (ZC.cond (Tm 36) zn151_21 (ZC.seq zn151_23 (ZC.cond (Tm 46) (ZC.seq zn151_26 (ZC.cond (Tm 52) (ZC.seq zn151_29 ZC.ret) ZC.skip)) (ZC.seq zn151_31 (ZC.cond (Tm 57) (ZC.seq zn151_34 ZC.ret) (ZC.seq zn151_36 (ZC.cond (Tm 63) (ZC.seq zn151_39 ZC.ret) zn151_40)))))))))))))) (ZC.seq zn151_42 ZC.ret))))
def zc151: ZC:=zn151_0
theorem zc151_ok: zcode (xfOf Try.f151).code=some zc151:=by kernel_rfl
def zw151:=zU C zc151.eq_1<|zU C zn151_1.eq_1<|zU C zn151_3.eq_1<|zU C zn151_5.eq_1<|zU C zn151_8.eq_1<|zU C zn151_11.eq_1<|zU C zn151_13.eq_1<|zU C zn151_15.eq_1<|zU C zn151_17.eq_1<|zU C zn151_19.eq_1<|zU C zn151_21.eq_1<|zU C zn151_23.eq_1<|zU C zn151_26.eq_1<|zU C zn151_29.eq_1<|zU C zn151_31.eq_1<|zU C zn151_34.eq_1<|zU C zn151_36.eq_1<|zU C zn151_39.eq_1<|zU C zn151_40.eq_1<|zU C zn151_42.eq_1<|(zunf C zn151_0.eq_1)
theorem rs151: (xfOf Try.f151).rs=[.tmp 4]:=by kernel_rfl
def xf151:=zF C 151 Try.f151
def zn148_1:=ZC.reg [zv 2 (.assign (.const (.slice none 0 0)))]
def zn148_4:=ZC.reg [zu 3 (zmv 0),zv 4 (.binOp .eql 37 (Tm 3) (.const (.slice none 0 0)) 37)]
def zn148_7:=ZC.reg [zv 2 (.assign (.const (.slice none 0 0)))]
def zn148_9:=ZC.reg [⟨some 5,.buildSlice 37 0 ⟨[]⟩,none,false⟩,zu 6 (zmv 0),zu 7 (zcb .append [Tm 5,Tm 6] [37,37]),zv 2 (zas 7)]
def zn148_0:=ZC.seq zn148_1 (ZC.seq (ZC.seq zn148_4 (ZC.cond (Tm 4) (ZC.seq zn148_7 ZC.ret) ZC.skip)) (ZC.seq zn148_9 ZC.ret))
def zc148: ZC:=zn148_0
theorem zc148_ok: zcode (xfOf Try.f148).code=some zc148:=by kernel_rfl
def zw148:=zU C zc148.eq_1<|zU C zn148_1.eq_1<|zU C zn148_4.eq_1<|zU C zn148_7.eq_1<|zU C zn148_9.eq_1<|(zunf C zn148_0.eq_1)
theorem rs148: (xfOf Try.f148).rs=[.tmp 2]:=by kernel_rfl
def xf148:=zF C 148 Try.f148
def zn28_1:=ZC.reg [zu 3 (.box 51 (Tm 1)),zu 4 (.alloc 51),zu 5 (.assign (Kn 0)),zu 6 (.assign (Kn 0)),zv 7 (.assign (.const (.bool false)))]
def zn28_3:=ZC.reg [zu 20 (zld 51 3),zu 8 (.alloc 51),zv0 (.store 51 (Tm 8) (Tm 20))]
def zn28_5:=ZC.reg [zv 9 (.assign (Kn 0))]
def zn28_8:=ZC.reg [zu 21 (zfa 51 3 0),zu 22 (zld 34 21),zu 23 (zcf 75 [Tm 22] [34]),zu 24 (.unOp .not 4 (Tm 23)),zu 25 (zmv 24),zug 26 (zfa 51 3 0) 25 false false,zug 27 (zfa 34 26 0) 25 false false,zug 28 (zld 3 27) 25 false false,zug 29 (.binOp .eql 3 (Tm 28) (Kn 0) 3) 25 false false,zv 30 (.pick (Tm 25) (.const (.bool true)) (Tm 29))]
def zn28_11:=ZC.reg [zu 31 (zld 51 8),zu0 (.store 51 (Tm 4) (Tm 31)),zu 5 (.assign (Kn 0)),zu 6 (.assign (Kn 0)),zv 7 (.assign (.const (.bool false)))]
def zn28_14:=ZC.reg [zv 10 (.assign (Kn 0))]
def zn28_19:=ZC.reg [zu 32 (zmv 9),zu 33 (zmv 0),zu 34 (zcb .len [Tm 33] [23]),zv 35 (.binOp .lss 3 (Tm 32) (Tm 34) 3)]
def zn28_24:=ZC.reg [zu 38 (zmv 0),zu 39 (zmv 9),zu 40 (zia 23 38 39),zu 41 (zld 29 40),zu 11 (.alloc 29),zv0 (.store 29 (Tm 11) (Tm 41))]
def zn28_27:=ZC.reg [zu 42 (zmv 10),zv 43 (.binOp .geq 3 (Tm 42) (Kn 64) 3)]
def zn28_30:=ZC.reg [zu 44 (zld 51 8),zu 45 (zmv 9),zu0 (.store 51 (Tm 4) (Tm 44)),zu 5 (.assign (Kn 5)),zu 6 (zas 45),zv 7 (.assign (.const (.bool false)))]
def zn28_33:=ZC.reg [zu 46 (zld 29 11),zu 47 (zld 51 3),zu 48 (zmv 0),zu 49 (zcb .len [Tm 48] [23]),zu 50 (zcf 76 [Tm 46,Tm 47,Tm 49] [29,51,3]),zv 12 (zas 50)]
def zn28_35:=ZC.reg [zu 51 (zmv 12),zv 52 (.binOp .neq 3 (Tm 51) (Kn 0) 3)]
def zn28_38:=ZC.reg [zu 53 (zld 51 8),zu 54 (zmv 12),zu 55 (zmv 9),zu0 (.store 51 (Tm 4) (Tm 53)),zu 5 (zas 54),zu 6 (zas 55),zv 7 (.assign (.const (.bool false)))]
def zn28_40:=ZC.reg [zu 56 (zfa 51 3 0),zu 57 (zfa 34 56 7),zu 58 (zld 32 57),zu 13 (.alloc 32),zv0 (.store 32 (Tm 13) (Tm 58))]
def zn28_42:=ZC.reg [zu 59 (zmv 9),zu 60 (.binOp .add 3 (Tm 59) (Kn 1) 3),zv 14 (zas 60)]
def zn28_44:=ZC.reg [zv 15 (.assign (Kn 0))]
def zn28_46:=ZC.reg [zv 16 (.assign (.const (.bool true)))]
def zn28_49:=ZC.reg [zu 61 (zfa 29 11 0),zv 62 (zld 3 61)]
def zn28_52:=ZC.reg [zu 64 (.binOp .eql 3 (Tm 62) (Kn 1) 3),zv 63 (zas 64)]
def zn28_54:=ZC.reg [zu 65 (zfa 29 11 2),zu 66 (zld 3 65),zv 15 (zas 66)]
def zn28_56:=ZC.reg [zu 68 (.binOp .eql 3 (Tm 62) (Kn 2) 3),zv 67 (zas 68)]
def zn28_58:=ZC.reg [zu 69 (zfa 29 11 2),zu 70 (zld 3 69),zu 71 (zia 32 13 70),zu 72 (zld 3 71),zv 15 (zas 72)]
def zn28_60:=ZC.reg [zu 74 (.binOp .eql 3 (Tm 62) (Kn 3) 3),zv 73 (zas 74)]
def zn28_62:=ZC.draw 10 [] [zdd 0 75 (zfa 29 11 1) false [] [] false,zdd 1 76 (zld 3 75) false [] [] false,zdd 2 77 (zia 32 13 76) false [] [] false,zdd 3 78 (zld 3 77) false [] [] false,zdd 4 79 (zfa 29 11 2) true [] [] false,zdd 5 80 (zld 3 79) true [] [] false,zdd 6 81 (zia 32 13 80) true [] [] false,zdd 7 82 (zld 3 81) true [] [] false,zdd 8 83 (.binOp .add 3 (Tm 78) (Tm 82) 3) true [] [] false,zdd 9 15 (zas 83) true [] [] false]
def zn28_64:=ZC.reg [zu 85 (.binOp .eql 3 (Tm 62) (Kn 4) 3),zv 84 (zas 85)]
def zn28_66:=ZC.draw 10 [] [zdd 0 86 (zfa 29 11 1) false [] [] false,zdd 1 87 (zld 3 86) false [] [] false,zdd 2 88 (zia 32 13 87) false [] [] false,zdd 3 89 (zld 3 88) false [] [] false,zdd 4 90 (zfa 29 11 2) true [] [] false,zdd 5 91 (zld 3 90) true [] [] false,zdd 6 92 (zia 32 13 91) true [] [] false,zdd 7 93 (zld 3 92) true [] [] false,zdd 8 94 (.binOp .sub 3 (Tm 89) (Tm 93) 3) true [] [] false,zdd 9 15 (zas 94) true [] [] false]
def zn28_68:=ZC.reg [zu 96 (.binOp .eql 3 (Tm 62) (Kn 5) 3),zv 95 (zas 96)]
def zn28_70:=ZC.draw 10 [] [zdd 0 97 (zfa 29 11 1) false [] [] false,zdd 1 98 (zld 3 97) false [] [] false,zdd 2 99 (zia 32 13 98) false [] [] false,zdd 3 100 (zld 3 99) false [] [] false,zdd 4 101 (zfa 29 11 2) true [] [] false,zdd 5 102 (zld 3 101) true [] [] false,zdd 6 103 (zia 32 13 102) true [] [] false,zdd 7 104 (zld 3 103) true [] [] false,zdd 8 105 (.binOp .mul 3 (Tm 100) (Tm 104) 3) true [] [] false,zdd 9 15 (zas 105) true [] [] false]
def zn28_72:=ZC.reg [zu 107 (.binOp .eql 3 (Tm 62) (Kn 6) 3),zv 106 (zas 107)]
def zn28_74:=ZC.draw 10 [] [zdd 0 108 (zfa 29 11 1) false [] [] false,zdd 1 109 (zld 3 108) false [] [] false,zdd 2 110 (zia 32 13 109) false [] [] false,zdd 3 111 (zld 3 110) false [] [] false,zdd 4 112 (zfa 29 11 2) true [] [] false,zdd 5 113 (zld 3 112) true [] [] false,zdd 6 114 (zia 32 13 113) true [] [] false,zdd 7 115 (zld 3 114) true [] [] false,zdd 8 116 (.binOp .quo 3 (Tm 111) (Tm 115) 3) true [] [] false,zdd 9 15 (zas 116) true [] [] false]
def zn28_76:=ZC.reg [zu 118 (.binOp .eql 3 (Tm 62) (Kn 7) 3),zv 117 (zas 118)]
def zn28_78:=ZC.reg [zu 119 (zld 51 3),zu 120 (zfa 29 11 2),zu 121 (zld 3 120),zu 122 (zcf 77 [Tm 119,Tm 121] [51,3]),zv 15 (zas 122)]
def zn28_80:=ZC.reg [zu 124 (.binOp .eql 3 (Tm 62) (Kn 11) 3),zv 123 (zas 124)]
def zn28_83:=ZC.draw 11 [] [zdd 0 126 (zfa 51 3 2) false [] [4] false,zdd 1 127 (zld 25 126) false [] [4] false,zdd 2 128 (zld 29 11) false [] [] false,zdd 3 129 (zld 51 3) true [] [] false,zdd 4 130 (zcf 79 [Tm 128,Tm 129] [29,51]) true [] [] false,zdd 5 131 (zcf 78 [Tm 127,Tm 130] [25,3]) true [] [] false,zdd 6 125 (zmv 131) true [] [] false,zdd 7 132 (.extract (Tm 125) 0) false [] [] false,zdd 8 133 (.extract (Tm 125) 1) false [] [] false,zdd 9 17 (zas 132) true [] [] false,zdd 10 18 (zas 133) true [] [] false]
def zn28_85:=ZC.reg [zu 134 (zmv 17),zu 135 (zfa 51 3 2),zv0 (.store 25 (Tm 135) (Tm 134))]
def zn28_86:=ZC.reg [zu 136 (zmv 18),zv 15 (zas 136)]
def zn28_87:=ZC.reg [zv 16 (.assign (.const (.bool false)))]
def zn28_90:=ZC.reg [zv 137 (zmv 16)]
def zn28_92:=ZC.draw 8 [] [zdd 0 138 (zfa 29 11 1) false [] [3] false,zdd 1 139 (zld 3 138) false [] [3] false,zdd 2 140 (zmv 15) false [] [] false,zdd 3 141 (zcf 80 [Tm 140,Kn (-1000000),Kn 1000000] [3,3,3]) false [] [] true,zdd 4 142 (zfa 51 3 0) true [3] [] false,zdd 5 143 (zfa 34 142 7) true [3] [] false,zdd 6 144 (zia 32 143 139) true [] [] false,zd0 7 (.store 3 (Tm 144) (Tm 141)) true [] [] false]
def zn28_95:=ZC.reg [zu 145 (zfa 29 11 0),zv 146 (zld 3 145)]
def zn28_98:=ZC.reg [zu 148 (.binOp .eql 3 (Tm 146) (Kn 8) 3),zv 147 (zas 148)]
def zn28_101:=ZC.reg [zu 149 (zfa 29 11 2),zu 150 (zld 3 149),zu 151 (zia 32 13 150),zu 152 (zld 3 151),zv 19 (zas 152)]
def zn28_103:=ZC.reg [zu 153 (zfa 29 11 1),zv 154 (zld 3 153)]
def zn28_106:=ZC.reg [zu 156 (.binOp .eql 3 (Tm 154) (Kn 0) 3),zv 155 (zas 156)]
def zn28_108:=ZC.reg [zu 157 (zmv 19),zu 158 (zcf 80 [Tm 157,Kn 0,Kn 4095] [3,3,3]),zu 159 (zfa 51 3 0),zu 160 (zfa 34 159 2),zv0 (.store 3 (Tm 160) (Tm 158))]
def zn28_110:=ZC.reg [zu 162 (.binOp .eql 3 (Tm 154) (Kn 1) 3),zv 161 (zas 162)]
def zn28_112:=ZC.reg [zu 163 (zmv 19),zu 164 (zcf 80 [Tm 163,Kn 0,Kn 4095] [3,3,3]),zu 165 (zfa 51 3 0),zu 166 (zfa 34 165 3),zv0 (.store 3 (Tm 166) (Tm 164))]
def zn28_114:=ZC.reg [zu 168 (.binOp .eql 3 (Tm 154) (Kn 2) 3),zv 167 (zas 168)]
def zn28_116:=ZC.reg [zu 169 (zmv 19),zu 170 (zcf 80 [Tm 169,Kn (-64),Kn 64] [3,3,3]),zu 171 (zfa 51 3 0),zu 172 (zfa 34 171 4),zv0 (.store 3 (Tm 172) (Tm 170))]
def zn28_118:=ZC.reg [zu 174 (.binOp .eql 3 (Tm 154) (Kn 3) 3),zv 173 (zas 174)]
def zn28_120:=ZC.reg [zu 175 (zmv 19),zu 176 (zcf 80 [Tm 175,Kn (-64),Kn 64] [3,3,3]),zu 177 (zfa 51 3 0),zu 178 (zfa 34 177 5),zv0 (.store 3 (Tm 178) (Tm 176))]
def zn28_122:=ZC.reg [zu 180 (.binOp .eql 3 (Tm 146) (Kn 9) 3),zv 179 (zas 180)]
def zn28_125:=ZC.reg [zu 181 (zfa 29 11 1),zu 182 (zld 3 181),zu 183 (zia 32 13 182),zu 184 (zld 3 183),zv 185 (.binOp .eql 3 (Tm 184) (Kn 0) 3)]
def zn28_127:=ZC.reg [zu 186 (zfa 29 11 2),zu 187 (zld 3 186),zv 14 (zas 187)]
def zn28_129:=ZC.reg [zu 189 (.binOp .eql 3 (Tm 146) (Kn 10) 3),zv 188 (zas 189)]
def zn28_131:=ZC.reg [zu 190 (zfa 29 11 2),zu 191 (zld 3 190),zv 14 (zas 191)]
def zn28_133:=ZC.reg [zu 193 (.binOp .eql 3 (Tm 146) (Kn 12) 3),zv 192 (zas 193)]
def zn28_135:=ZC.draw 19 [] [⟨0,some 194,.buildSlice 37 0 ⟨[]⟩,none,false,[],[],false⟩,zdd 1 195 (zfa 51 3 4) false [] [] false,zdd 2 196 (zld 37 195) false [] [] false,zdd 3 197 (zcb .append [Tm 194,Tm 196] [37,37]) false [] [] true,zdd 4 198 (zfa 51 3 0) false [3] [] false,zdd 5 199 (zld 34 198) false [3] [] false,zdd 6 200 (zfa 29 11 1) false [3] [] false,zdd 7 201 (zld 3 200) false [3] [] false,zdd 8 202 (zia 32 13 201) false [3] [] false,zdd 9 203 (zld 3 202) false [3] [] false,zdd 10 204 (zfa 29 11 2) true [3] [] false,zdd 11 205 (zld 3 204) true [3] [] false,zdd 12 206 (zia 32 13 205) true [3] [] false,zdd 13 207 (zld 3 206) true [3] [] false,zdd 14 208 (zcf 81 [Tm 199,Tm 203,Tm 207] [34,3,3]) true [] [] false,⟨15,some 209,.buildSlice 37 1 ⟨[(0,.tmp 208)]⟩,none,true,[],[],false⟩,zdd 16 210 (zcb .append [Tm 197,Tm 209] [37,37]) true [] [] false,zdd 17 211 (zfa 51 3 4) true [] [] false,zd0 18 (.store 37 (Tm 211) (Tm 210)) true [] [] false]
def zn28_137:=ZC.reg [zu 213 (.binOp .eql 3 (Tm 146) (Kn 13) 3),zv 212 (zas 213)]
def zn28_139:=ZC.reg [zu 214 (zmv 0),zu 215 (zcb .len [Tm 214] [23]),zv 14 (zas 215)]
def zn28_140:=ZC.reg [zu 216 (zmv 14),zv 9 (zas 216)]
def zn28_141:=ZC.reg [zu 36 (zmv 10),zu 37 (.binOp .add 3 (Tm 36) (Kn 1) 3),zv 10 (zas 37)]
def Q1d:=ZC.seq (ZC.seq zn28_19 (ZC.cond (Tm 35) ZC.skip (ZC.exit 0))) (ZC.seq (ZC.block 1 (ZC.seq zn28_24 (ZC.seq (ZC.seq zn28_27 (ZC.cond (Tm 43) (ZC.seq zn28_30 ZC.ret) ZC.skip)) (ZC.seq (ZC.seq zn28_33 (ZC.seq zn28_35 (ZC.cond (Tm 52) (ZC.seq zn28_38 ZC.ret) ZC.skip))) (ZC.seq zn28_40 (ZC.seq zn28_42 (ZC.seq zn28_44 (ZC.seq zn28_46 (ZC.seq (ZC.seq zn28_49 (ZC.block 2 (ZC.seq zn28_52 (ZC.cond (Tm 63) zn28_54 (ZC.seq zn28_56 (ZC.cond (Tm 67) zn28_58 (ZC.seq zn28_60 (ZC.cond (Tm 73) zn28_62 (ZC.seq zn28_64 (ZC.cond (Tm 84) zn28_66 (ZC.seq zn28_68 (ZC.cond (Tm 95) zn28_70 (ZC.seq zn28_72 (ZC.cond (Tm 106) zn28_74 (ZC.seq zn28_76 (ZC.cond (Tm 117) zn28_78 (ZC.seq zn28_80 (ZC.cond (Tm 123) (ZC.seq zn28_83 (ZC.seq zn28_85 zn28_86)) zn28_87)))))))))))))))))) (ZC.seq (ZC.seq zn28_90 (ZC.cond (Tm 137) zn28_92 ZC.skip)) (ZC.seq (ZC.seq zn28_95 (ZC.block 3 (ZC.seq zn28_98 (ZC.cond (Tm 147) (ZC.seq zn28_101 (ZC.seq zn28_103 (ZC.block 4 (ZC.seq zn28_106 (ZC.cond (Tm 155) zn28_108 (ZC.seq zn28_110 (ZC.cond (Tm 161) zn28_112 (ZC.seq zn28_114 (ZC.cond (Tm 167) zn28_116 (ZC.seq zn28_118 (ZC.cond (Tm 173) zn28_120 ZC.skip))))))))))) (ZC.seq zn28_122 (ZC.cond (Tm 179) (ZC.seq zn28_125 (ZC.cond (Tm 185) zn28_127 ZC.skip)) (ZC.seq zn28_129 (ZC.cond (Tm 188) zn28_131 (ZC.seq zn28_133 (ZC.cond (Tm 192) zn28_135 (ZC.seq zn28_137 (ZC.cond (Tm 212) zn28_139 ZC.skip)))))))))))) zn28_140))))))))))) zn28_141)
def zn28_143:=ZC.reg [zu 217 (zld 51 3),zu0 (.store 51 (Tm 4) (Tm 217)),zu 5 (.assign (Kn 0)),zu 6 (.assign (Kn 0)),zv 7 (.assign (.const (.bool true)))]
def zn28_0:=ZC.seq zn28_1 (ZC.seq zn28_3 (ZC.seq zn28_5 (ZC.seq (ZC.seq zn28_8 (ZC.cond (Tm 30) (ZC.seq zn28_11 ZC.ret) ZC.skip)) (ZC.seq (ZC.seq zn28_14 (ZC.block 0 (ZC.loop Q1d))) (ZC.seq zn28_143 ZC.ret)))))
def zc28: ZC:=zn28_0
theorem zc28_ok: zcode (xfOf Try.f28).code=some zc28:=by kernel_rfl
def zw28:=zU C zc28.eq_1<|zU C zn28_1.eq_1<|zU C zn28_3.eq_1<|zU C zn28_5.eq_1<|zU C zn28_8.eq_1<|zU C zn28_11.eq_1<|zU C zn28_14.eq_1<|zU C zn28_19.eq_1<|zU C zn28_24.eq_1<|zU C zn28_27.eq_1<|zU C zn28_30.eq_1<|zU C zn28_33.eq_1<|zU C zn28_35.eq_1<|zU C zn28_38.eq_1<|zU C zn28_40.eq_1<|zU C zn28_42.eq_1<|zU C zn28_44.eq_1<|zU C zn28_46.eq_1<|zU C zn28_49.eq_1<|zU C zn28_52.eq_1<|zU C zn28_54.eq_1<|zU C zn28_56.eq_1<|zU C zn28_58.eq_1<|zU C zn28_60.eq_1<|zU C zn28_62.eq_1<|zU C zn28_64.eq_1<|zU C zn28_66.eq_1<|zU C zn28_68.eq_1<|zU C zn28_70.eq_1<|zU C zn28_72.eq_1<|zU C zn28_74.eq_1<|zU C zn28_76.eq_1<|zU C zn28_78.eq_1<|zU C zn28_80.eq_1<|zU C zn28_83.eq_1<|zU C zn28_85.eq_1<|zU C zn28_86.eq_1<|zU C zn28_87.eq_1<|zU C zn28_90.eq_1<|zU C zn28_92.eq_1<|zU C zn28_95.eq_1<|zU C zn28_98.eq_1<|zU C zn28_101.eq_1<|zU C zn28_103.eq_1<|zU C zn28_106.eq_1<|zU C zn28_108.eq_1<|zU C zn28_110.eq_1<|zU C zn28_112.eq_1<|zU C zn28_114.eq_1<|zU C zn28_116.eq_1<|zU C zn28_118.eq_1<|zU C zn28_120.eq_1<|zU C zn28_122.eq_1<|zU C zn28_125.eq_1<|zU C zn28_127.eq_1<|zU C zn28_129.eq_1<|zU C zn28_131.eq_1<|zU C zn28_133.eq_1<|zU C zn28_135.eq_1<|zU C zn28_137.eq_1<|zU C zn28_139.eq_1<|zU C zn28_140.eq_1<|zU C zn28_141.eq_1<|zU C Q1d.eq_1<|zU C zn28_143.eq_1<|(zunf C zn28_0.eq_1)
theorem rs28: (xfOf Try.f28).rs=[.cell 4 51,.tmp 5,.tmp 6,.tmp 7]:=by kernel_rfl
def xf28:=zF C 28 Try.f28
def zn75_1:=ZC.reg [zu 1 (.box 34 (Tm 0)),zv 2 (.assign (.const (.bool false)))]
def zn75_4:=ZC.reg [zu 4 (zfa 34 1 0),zu 5 (zld 3 4),zv 6 (.binOp .eql 3 (Tm 5) (Kn 0) 3)]
def zn75_7:=ZC.reg [zu 7 (zld 34 1),⟨some 8,.build 34 ⟨[]⟩,none,false⟩,zu 9 (.binOp .eql 34 (Tm 7) (Tm 8) 34),zv 2 (zas 9)]
def zn75_10:=ZC.reg [zv 3 (.assign (Kn 0))]
def zn75_15:=ZC.reg [zu 10 (zmv 3),zv 11 (.binOp .lss 3 (Tm 10) (Kn 4) 3)]
def zn75_20:=ZC.reg [zu 14 (zmv 3),zu 15 (zfa 34 1 7),zu 16 (zia 32 15 14),zu 17 (zld 3 16),zu 18 (zcf 85 [Tm 17,Kn (-1000000),Kn 1000000] [3,3,3]),zv 19 (.unOp .not 4 (Tm 18))]
def zn75_23:=ZC.reg [zv 2 (.assign (.const (.bool false)))]
def zn75_24:=ZC.reg [zu 12 (zmv 3),zu 13 (.binOp .add 3 (Tm 12) (Kn 1) 3),zv 3 (zas 13)]
def zn75_13:=ZC.seq (ZC.seq zn75_15 (ZC.cond (Tm 11) ZC.skip (ZC.exit 0))) (ZC.seq (ZC.block 1 (ZC.seq zn75_20 (ZC.cond (Tm 19) (ZC.seq zn75_23 ZC.ret) ZC.skip))) zn75_24)
def zn75_26:=ZC.reg [zu 20 (zfa 34 1 0),zu 21 (zld 3 20),zu 22 (.binOp .eql 3 (Tm 21) (Kn 1) 3),zu 23 (zmv 22),zug 24 (zfa 34 1 0) 23 false false,zug 25 (zld 3 24) 23 false false,zug 26 (.binOp .eql 3 (Tm 25) (Kn 2) 3) 23 false false,zu 27 (.pick (Tm 23) (.const (.bool true)) (Tm 26)),zu 28 (zmv 27),zug 29 (zfa 34 1 1) 28 true false,zug 30 (zld 3 29) 28 true false,zug 31 (zcf 85 [Tm 30,Kn 0,Kn 7] [3,3,3]) 28 true false,zu 32 (.pick (Tm 28) (Tm 31) (.const (.bool false))),zu 33 (zmv 32),zug 34 (zfa 34 1 2) 33 true false,zug 35 (zld 3 34) 33 true false,zug 36 (zcf 85 [Tm 35,Kn 0,Kn 4095] [3,3,3]) 33 true false,zu 37 (.pick (Tm 33) (Tm 36) (.const (.bool false))),zu 38 (zmv 37),zug 39 (zfa 34 1 3) 38 true false,zug 40 (zld 3 39) 38 true false,zug 41 (zcf 85 [Tm 40,Kn 0,Kn 4095] [3,3,3]) 38 true false,zu 42 (.pick (Tm 38) (Tm 41) (.const (.bool false))),zu 43 (zmv 42),zug 44 (zfa 34 1 4) 43 true false,zug 45 (zld 3 44) 43 true false,zug 46 (zcf 85 [Tm 45,Kn (-64),Kn 64] [3,3,3]) 43 true false,zu 47 (.pick (Tm 43) (Tm 46) (.const (.bool false))),zu 48 (zmv 47),zug 49 (zfa 34 1 5) 48 true false,zug 50 (zld 3 49) 48 true false,zug 51 (zcf 85 [Tm 50,Kn (-64),Kn 64] [3,3,3]) 48 true false,zu 52 (.pick (Tm 48) (Tm 51) (.const (.bool false))),zu 53 (zmv 52),zug 54 (zfa 34 1 6) 53 true false,zug 55 (zld 3 54) 53 true false,zug 56 (zcf 85 [Tm 55,Kn 0,Kn 600] [3,3,3]) 53 true false,zu 57 (.pick (Tm 53) (Tm 56) (.const (.bool false))),zu 58 (zmv 57),zug 59 (zfa 34 1 8) 58 true false,zug 60 (zld 3 59) 58 true false,zug 61 (zcf 85 [Tm 60,Kn 0,Kn 65535] [3,3,3]) 58 true false,zu 62 (.pick (Tm 58) (Tm 61) (.const (.bool false))),zv 2 (zas 62)]
def zn75_0:=ZC.seq zn75_1 (ZC.seq (ZC.seq zn75_4 (ZC.cond (Tm 6) (ZC.seq zn75_7 ZC.ret) ZC.skip)) (ZC.seq (ZC.seq zn75_10 (ZC.block 0 (ZC.loop zn75_13))) (ZC.seq zn75_26 ZC.ret)))
def zc75: ZC:=zn75_0
theorem zc75_ok: zcode (xfOf Try.f75).code=some zc75:=by kernel_rfl
def zw75:=zU C zc75.eq_1<|zU C zn75_1.eq_1<|zU C zn75_4.eq_1<|zU C zn75_7.eq_1<|zU C zn75_10.eq_1<|zU C zn75_15.eq_1<|zU C zn75_20.eq_1<|zU C zn75_23.eq_1<|zU C zn75_24.eq_1<|zU C zn75_13.eq_1<|zU C zn75_26.eq_1<|(zunf C zn75_0.eq_1)
theorem rs75: (xfOf Try.f75).rs=[.tmp 2]:=by kernel_rfl
def xf75:=zF C 75 Try.f75
def zn76_1:=ZC.reg [zu 3 (.box 29 (Tm 0)),zu 4 (.box 51 (Tm 1)),zv 6 (.assign (Kn 0))]
def zn76_3:=ZC.reg [zu 10 (zfa 29 3 0),zu 11 (zld 3 10),zu 12 (zcf 152 [Tm 11] [3]),zu 9 (zmv 12),zu 13 (.extract (Tm 9) 0),zu 14 (.extract (Tm 9) 1),zu 7 (zas 13),zv 8 (zas 14)]
def zn76_7:=ZC.reg [zu 16 (zfa 29 3 0),zu 17 (zld 3 16),zu 18 (zcf 85 [Tm 17,Kn 1,Kn 13] [3,3,3]),zu 19 (.unOp .not 4 (Tm 18)),zv 15 (zas 19)]
def zn76_10:=ZC.reg [zv 6 (.assign (Kn 4))]
def zn76_12:=ZC.reg [zu 21 (zmv 7),zu 22 (zmv 21),zug 23 (zfa 29 3 1) 22 true false,zug 24 (zld 3 23) 22 true false,zug 25 (zcf 153 [Tm 24] [3]) 22 true false,zug 26 (.unOp .not 4 (Tm 25)) 22 true false,zu 27 (.pick (Tm 22) (Tm 26) (.const (.bool false))),zu 28 (zmv 27),zug 29 (zmv 8) 28 false false,zug 30 (zmv 29) 28 false false,zug 31 (zfa 29 3 2) 30 true false,zug 32 (zld 3 31) 30 true false,zug 33 (zcf 153 [Tm 32] [3]) 30 true false,zug 34 (.unOp .not 4 (Tm 33)) 30 true false,zug 35 (.pick (Tm 30) (Tm 34) (.const (.bool false))) 28 false false,zu 36 (.pick (Tm 28) (.const (.bool true)) (Tm 35)),zv 20 (zas 36)]
def zn76_15:=ZC.reg [zv 6 (.assign (Kn 2))]
def zn76_17:=ZC.reg [zu 38 (zfa 29 3 0),zu 39 (zld 3 38),zu 40 (.binOp .eql 3 (Tm 39) (Kn 7) 3),zu 41 (zmv 40),zug 42 (zfa 29 3 2) 41 true false,zug 43 (zld 3 42) 41 true false,zug 44 (zcf 85 [Tm 43,Kn 0,Kn 7] [3,3,3]) 41 true false,zug 45 (.unOp .not 4 (Tm 44)) 41 true false,zu 46 (.pick (Tm 41) (Tm 45) (.const (.bool false))),zu 47 (zmv 46),zug 48 (zfa 29 3 0) 47 false false,zug 49 (zld 3 48) 47 false false,zug 50 (.binOp .eql 3 (Tm 49) (Kn 8) 3) 47 false false,zug 51 (zmv 50) 47 false false,zug 52 (zfa 29 3 1) 51 true false,zug 53 (zld 3 52) 51 true false,zug 54 (zcf 85 [Tm 53,Kn 0,Kn 3] [3,3,3]) 51 true false,zug 55 (.unOp .not 4 (Tm 54)) 51 true false,zug 56 (.pick (Tm 51) (Tm 55) (.const (.bool false))) 47 false false,zu 57 (.pick (Tm 47) (.const (.bool true)) (Tm 56)),zv 37 (zas 57)]
def zn76_20:=ZC.reg [zv 6 (.assign (Kn 3))]
def zn76_22:=ZC.reg [zu 59 (zfa 29 3 0),zu 60 (zld 3 59),zu 61 (.binOp .eql 3 (Tm 60) (Kn 6) 3),zu 62 (zmv 61),zug 63 (zfa 29 3 2) 62 true false,zug 64 (zld 3 63) 62 true false,zug 65 (zfa 51 4 0) 62 true false,zug 66 (zfa 34 65 7) 62 true false,zug 67 (zia 32 66 64) 62 true false,zug 68 (zld 3 67) 62 true false,zug 69 (.binOp .eql 3 (Tm 68) (Kn 0) 3) 62 true false,zu 70 (.pick (Tm 62) (Tm 69) (.const (.bool false))),zv 58 (zas 70)]
def zn76_25:=ZC.reg [zv 6 (.assign (Kn 1))]
def zn76_27:=ZC.reg [zu 72 (zfa 29 3 0),zu 73 (zld 3 72),zu 74 (.binOp .eql 3 (Tm 73) (Kn 11) 3),zu 75 (zmv 74),zug 76 (zld 29 3) 75 true false,zug 77 (zld 51 4) 75 true false,zug 78 (zcf 79 [Tm 76,Tm 77] [29,51]) 75 true false,zug 79 (.binOp .lss 3 (Tm 78) (Kn 1) 3) 75 true false,zu 80 (.pick (Tm 75) (Tm 79) (.const (.bool false))),zv 71 (zas 80)]
def zn76_30:=ZC.reg [zv 6 (.assign (Kn 6))]
def zn76_32:=ZC.reg [zu 82 (zfa 29 3 0),zu 83 (zld 3 82),zu 84 (.binOp .eql 3 (Tm 83) (Kn 12) 3),zu 85 (zmv 84),zug 86 (zfa 51 4 4) 85 true false,zug 87 (zld 37 86) 85 true false,zug 88 (zcb .len [Tm 87] [37]) 85 true false,zug 89 (zfa 51 4 3) 85 true false,zug 90 (zld 3 89) 85 true false,zug 91 (.binOp .geq 3 (Tm 88) (Tm 90) 3) 85 true false,zu 92 (.pick (Tm 85) (Tm 91) (.const (.bool false))),zv 81 (zas 92)]
def zn76_35:=ZC.reg [zv 6 (.assign (Kn 7))]
def zn76_38:=ZC.reg [zu 94 (zfa 29 3 0),zu 95 (zld 3 94),zu 96 (.binOp .eql 3 (Tm 95) (Kn 10) 3),zu 97 (zmv 96),zug 98 (zfa 29 3 2) 97 true false,zug 99 (zld 3 98) 97 true false,zug 100 (zmv 2) 97 true false,zug 101 (zcf 85 [Tm 99,Kn 0,Tm 100] [3,3,3]) 97 true false,zug 102 (.unOp .not 4 (Tm 101)) 97 true false,zu 103 (.pick (Tm 97) (Tm 102) (.const (.bool false))),zv 93 (zas 103)]
def zn76_40:=ZC.reg [zu 104 (zfa 29 3 0),zu 105 (zld 3 104),zu 106 (.binOp .eql 3 (Tm 105) (Kn 9) 3),zu 107 (zmv 106),zug 108 (zfa 29 3 1) 107 true false,zug 109 (zld 3 108) 107 true false,zug 110 (zfa 51 4 0) 107 true false,zug 111 (zfa 34 110 7) 107 true false,zug 112 (zia 32 111 109) 107 true false,zug 113 (zld 3 112) 107 true false,zug 114 (.binOp .eql 3 (Tm 113) (Kn 0) 3) 107 true false,zu 115 (.pick (Tm 107) (Tm 114) (.const (.bool false))),zu 116 (zmv 115),zug 117 (zfa 29 3 2) 116 true false,zug 118 (zld 3 117) 116 true false,zug 119 (zmv 2) 116 true false,zug 120 (zcf 85 [Tm 118,Kn 0,Tm 119] [3,3,3]) 116 true false,zug 121 (.unOp .not 4 (Tm 120)) 116 true false,zu 122 (.pick (Tm 116) (Tm 121) (.const (.bool false))),zv 93 (zas 122)]
def zn76_43:=ZC.reg [zv 6 (.assign (Kn 4))]
def zn76_45:=ZC.reg [zv 6 (.assign (Kn 0))]
def zn76_0:=ZC.seq zn76_1 (ZC.seq zn76_3 (ZC.seq (ZC.block 0 (ZC.seq zn76_7 (ZC.cond (Tm 15) (ZC.seq zn76_10 ZC.ret) (ZC.seq zn76_12 (ZC.cond (Tm 20) (ZC.seq zn76_15 ZC.ret) (ZC.seq zn76_17 (ZC.cond (Tm 37) (ZC.seq zn76_20 ZC.ret) (ZC.seq zn76_22 (ZC.cond (Tm 58) (ZC.seq zn76_25 ZC.ret) (ZC.seq zn76_27 (ZC.cond (Tm 71) (ZC.seq zn76_30 ZC.ret) (ZC.seq zn76_32 (ZC.cond (Tm 81) (ZC.seq zn76_35 ZC.ret) (ZC.seq (ZC.seq zn76_38 (ZC.cond (Tm 93) ZC.skip zn76_40)) (ZC.cond (Tm 93) (ZC.seq zn76_43 ZC.ret) ZC.skip))))))))))))))) (ZC.seq zn76_45 ZC.ret)))
def zc76: ZC:=zn76_0
theorem zc76_ok: zcode (xfOf Try.f76).code=some zc76:=by kernel_rfl
def zw76:=zU C zc76.eq_1<|zU C zn76_1.eq_1<|zU C zn76_3.eq_1<|zU C zn76_7.eq_1<|zU C zn76_10.eq_1<|zU C zn76_12.eq_1<|zU C zn76_15.eq_1<|zU C zn76_17.eq_1<|zU C zn76_20.eq_1<|zU C zn76_22.eq_1<|zU C zn76_25.eq_1<|zU C zn76_27.eq_1<|zU C zn76_30.eq_1<|zU C zn76_32.eq_1<|zU C zn76_35.eq_1<|zU C zn76_38.eq_1<|zU C zn76_40.eq_1<|zU C zn76_43.eq_1<|zU C zn76_45.eq_1<|(zunf C zn76_0.eq_1)
theorem rs76: (xfOf Try.f76).rs=[.tmp 6]:=by kernel_rfl
def xf76:=zF C 76 Try.f76
def zn77_1:=ZC.reg [zu 2 (.box 51 (Tm 0)),zv 4 (.assign (Kn 0))]
def zn77_3:=ZC.reg [zu 6 (zfa 51 2 0),zu 7 (zld 34 6),zu 5 (.alloc 34),zv0 (.store 34 (Tm 5) (Tm 7))]
def zn77_5:=ZC.reg [zu 8 (zfa 34 5 2),zu 9 (zld 3 8),zu 10 (zfa 34 5 3),zu 11 (zld 3 10),zu 12 (zfa 34 5 4),zu 13 (zld 3 12),zu 14 (zfa 34 5 5),zu 15 (zld 3 14),zu 16 (zfa 34 5 6),zu 17 (zld 3 16),zu 18 (zfa 51 2 1),zu 19 (zfa 36 18 0),zu 20 (zld 3 19),zu 21 (zfa 51 2 1),zu 22 (zfa 36 21 1),zu 23 (zld 3 22),zu 24 (zfa 51 2 1),zu 25 (zfa 36 24 2),zu 26 (zld 3 25),⟨some 27,.build 64 ⟨[(0,.tmp 9),(1,.tmp 11),(2,.tmp 13),(3,.tmp 15),(4,.tmp 17),(5,.tmp 20),(6,.tmp 23),(7,.tmp 26)]⟩,none,false⟩,zu 28 (zmv 1),zu 29 (.index 64 (Tm 27) (Tm 28)),zv 4 (zas 29)]
def zn77_0:=ZC.seq zn77_1 (ZC.seq zn77_3 (ZC.seq zn77_5 ZC.ret))
def zc77: ZC:=zn77_0
theorem zc77_ok: zcode (xfOf Try.f77).code=some zc77:=by kernel_rfl
def zw77:=zU C zc77.eq_1<|zU C zn77_1.eq_1<|zU C zn77_3.eq_1<|zU C zn77_5.eq_1<|(zunf C zn77_0.eq_1)
theorem rs77: (xfOf Try.f77).rs=[.tmp 4]:=by kernel_rfl
def xf77:=zF C 77 Try.f77
def zn78_1:=ZC.reg [zu 4 (.assign (.const (.int .u64 0))),zv 5 (.assign (Kn 0))]
def zn78_4:=ZC.reg [zu 8 (zmv 1),zv 9 (.binOp .lss 3 (Tm 8) (Kn 1) 3)]
def zn78_7:=ZC.reg [zu 10 (zmv 0),zu 4 (zas 10),zv 5 (.assign (Kn 0))]
def zn78_9:=ZC.reg [zu 12 (zmv 0),zu 13 (zcf 154 [Tm 12] [25]),zu 11 (zmv 13),zu 14 (.extract (Tm 11) 0),zu 15 (.extract (Tm 11) 1),zu 6 (zas 14),zv 7 (zas 15)]
def zn78_11:=ZC.draw 6 [] [zdd 0 16 (zmv 6) false [] [] false,zdd 1 17 (zmv 7) false [] [] false,zdd 2 18 (zmv 1) false [] [] false,zdd 3 19 (.binOp .rem 3 (Tm 17) (Tm 18) 3) false [] [] false,zdd 4 4 (zas 16) true [] [] false,zdd 5 5 (zas 19) true [] [] false]
def zn78_0:=ZC.seq zn78_1 (ZC.seq (ZC.seq zn78_4 (ZC.cond (Tm 9) (ZC.seq zn78_7 ZC.ret) ZC.skip)) (ZC.seq zn78_9 (ZC.seq zn78_11 ZC.ret)))
def zc78: ZC:=zn78_0
theorem zc78_ok: zcode (xfOf Try.f78).code=some zc78:=by kernel_rfl
def zw78:=zU C zc78.eq_1<|zU C zn78_1.eq_1<|zU C zn78_4.eq_1<|zU C zn78_7.eq_1<|zU C zn78_9.eq_1<|zU C zn78_11.eq_1<|(zunf C zn78_0.eq_1)
theorem rs78: (xfOf Try.f78).rs=[.tmp 4,.tmp 5]:=by kernel_rfl
def xf78:=zF C 78 Try.f78
def zn79_1:=ZC.reg [zu 2 (.box 29 (Tm 0)),zu 3 (.box 51 (Tm 1)),zv 4 (.assign (Kn 0))]
def zn79_3:=ZC.reg [zu 5 (zfa 29 2 2),zu 6 (zld 3 5),zu 7 (zfa 51 3 0),zu 8 (zfa 34 7 7),zu 9 (zia 32 8 6),zu 10 (zld 3 9),zv 4 (zas 10)]
def zn79_0:=ZC.seq zn79_1 (ZC.seq zn79_3 ZC.ret)
def zc79: ZC:=zn79_0
theorem zc79_ok: zcode (xfOf Try.f79).code=some zc79:=by kernel_rfl
def zw79:=zU C zc79.eq_1<|zU C zn79_1.eq_1<|zU C zn79_3.eq_1<|(zunf C zn79_0.eq_1)
theorem rs79: (xfOf Try.f79).rs=[.tmp 4]:=by kernel_rfl
def xf79:=zF C 79 Try.f79
def zn80_1:=ZC.reg [zv 6 (.assign (Kn 0))]
def zn80_3:=ZC.reg [zu 7 (zmv 1),zu 8 (zmv 2),zu 9 (zmv 0),zu 10 (zcb .min [Tm 8,Tm 9] [3,3]),zu 11 (zcb .max [Tm 7,Tm 10] [3,3]),zv 6 (zas 11)]
def zn80_0:=ZC.seq zn80_1 (ZC.seq zn80_3 ZC.ret)
def zc80: ZC:=zn80_0
theorem zc80_ok: zcode (xfOf Try.f80).code=some zc80:=by kernel_rfl
def zw80:=zU C zc80.eq_1<|zU C zn80_1.eq_1<|zU C zn80_3.eq_1<|(zunf C zn80_0.eq_1)
theorem rs80: (xfOf Try.f80).rs=[.tmp 6]:=by kernel_rfl
def xf80:=zF C 80 Try.f80
def zn81_1:=ZC.reg [zu 3 (.box 34 (Tm 0)),zv 6 (.alloc 34)]
def zn81_4:=ZC.reg [zu 7 (zld 34 3),zu 8 (zcf 75 [Tm 7] [34]),zu 9 (.unOp .not 4 (Tm 8)),zu 10 (zmv 9),zug 11 (zfa 34 3 0) 10 false false,zug 12 (zld 3 11) 10 false false,zug 13 (.binOp .eql 3 (Tm 12) (Kn 0) 3) 10 false false,zv 14 (.pick (Tm 10) (.const (.bool true)) (Tm 13))]
def zn81_7:=ZC.reg [⟨some 15,.build 34 ⟨[]⟩,none,false⟩,zv0 (.store 34 (Tm 6) (Tm 15))]
def zn81_9:=ZC.draw 12 [] [zdd 0 16 (zfa 34 3 1) false [] [7,9] false,zdd 1 17 (zld 3 16) false [] [7,9] false,zdd 2 18 (zfa 34 3 2) false [] [7,9] false,zdd 3 19 (zld 3 18) false [] [7,9] false,zdd 4 20 (zfa 34 3 3) false [] [7,9] false,zdd 5 21 (zld 3 20) false [] [7,9] false,zdd 6 22 (zmv 1) false [] [] false,zdd 7 23 (zcf 80 [Tm 22,Kn (-64),Kn 64] [3,3,3]) false [] [] false,zdd 8 24 (zmv 2) true [] [] false,zdd 9 25 (zcf 80 [Tm 24,Kn (-64),Kn 64] [3,3,3]) true [] [] false,⟨10,some 26,.build 34 ⟨[(0,.const (.int .i64 2)),(1,.tmp 17),(2,.tmp 19),(3,.tmp 21),(4,.tmp 23),(5,.tmp 25)]⟩,none,true,[],[],false⟩,zd0 11 (.store 34 (Tm 6) (Tm 26)) true [] [] false]
def zn81_0:=ZC.seq zn81_1 (ZC.seq (ZC.seq zn81_4 (ZC.cond (Tm 14) (ZC.seq zn81_7 ZC.ret) ZC.skip)) (ZC.seq zn81_9 ZC.ret))
def zc81: ZC:=zn81_0
theorem zc81_ok: zcode (xfOf Try.f81).code=some zc81:=by kernel_rfl
def zw81:=zU C zc81.eq_1<|zU C zn81_1.eq_1<|zU C zn81_4.eq_1<|zU C zn81_7.eq_1<|zU C zn81_9.eq_1<|(zunf C zn81_0.eq_1)
theorem rs81: (xfOf Try.f81).rs=[.cell 6 34]:=by kernel_rfl
def xf81:=zF C 81 Try.f81
def zn85_1:=ZC.reg [zv 6 (.assign (.const (.bool false)))]
def zn85_3:=ZC.reg [zu 7 (zmv 0),zu 8 (zmv 1),zu 9 (.binOp .geq 3 (Tm 7) (Tm 8) 3),zu 10 (zmv 9),zug 11 (zmv 0) 10 true false,zug 12 (zmv 2) 10 true false,zug 13 (.binOp .leq 3 (Tm 11) (Tm 12) 3) 10 true false,zu 14 (.pick (Tm 10) (Tm 13) (.const (.bool false))),zv 6 (zas 14)]
def zn85_0:=ZC.seq zn85_1 (ZC.seq zn85_3 ZC.ret)
def zc85: ZC:=zn85_0
theorem zc85_ok: zcode (xfOf Try.f85).code=some zc85:=by kernel_rfl
def zw85:=zU C zc85.eq_1<|zU C zn85_1.eq_1<|zU C zn85_3.eq_1<|(zunf C zn85_0.eq_1)
theorem rs85: (xfOf Try.f85).rs=[.tmp 6]:=by kernel_rfl
def xf85:=zF C 85 Try.f85
def zn152_1:=ZC.reg [zu 2 (.assign (.const (.bool false))),zv 3 (.assign (.const (.bool false)))]
def zn152_4:=ZC.reg [zv 4 (zmv 0)]
def zn152_8:=ZC.reg [zu 6 (.binOp .eql 3 (Tm 4) (Kn 1) 3),zv 5 (zas 6)]
def zn152_11:=ZC.reg [zu 7 (.binOp .eql 3 (Tm 4) (Kn 7) 3),zv 5 (zas 7)]
def zn152_13:=ZC.reg [zu 8 (.binOp .eql 3 (Tm 4) (Kn 9) 3),zv 5 (zas 8)]
def zn152_16:=ZC.reg [zu 2 (.assign (.const (.bool true))),zv 3 (.assign (.const (.bool false)))]
def zn152_19:=ZC.reg [zu 10 (.binOp .eql 3 (Tm 4) (Kn 2) 3),zv 9 (zas 10)]
def zn152_22:=ZC.reg [zu 11 (.binOp .eql 3 (Tm 4) (Kn 3) 3),zv 9 (zas 11)]
def zn152_25:=ZC.reg [zu 12 (.binOp .eql 3 (Tm 4) (Kn 4) 3),zv 9 (zas 12)]
def zn152_28:=ZC.reg [zu 13 (.binOp .eql 3 (Tm 4) (Kn 5) 3),zv 9 (zas 13)]
def zn152_31:=ZC.reg [zu 14 (.binOp .eql 3 (Tm 4) (Kn 6) 3),zv 9 (zas 14)]
def zn152_34:=ZC.reg [zu 15 (.binOp .eql 3 (Tm 4) (Kn 11) 3),zv 9 (zas 15)]
def zn152_36:=ZC.reg [zu 16 (.binOp .eql 3 (Tm 4) (Kn 12) 3),zv 9 (zas 16)]
def zn152_39:=ZC.reg [zu 2 (.assign (.const (.bool true))),zv 3 (.assign (.const (.bool true)))]
def zn152_41:=ZC.reg [zu 18 (.binOp .eql 3 (Tm 4) (Kn 8) 3),zv 17 (zas 18)]
def zn152_44:=ZC.reg [zu 2 (.assign (.const (.bool false))),zv 3 (.assign (.const (.bool true)))]
def zn152_46:=ZC.reg [zu 2 (.assign (.const (.bool false))),zv 3 (.assign (.const (.bool false)))]
def zn152_0:=ZC.seq zn152_1 (ZC.seq (ZC.seq zn152_4 (ZC.block 0 (ZC.seq (ZC.seq zn152_8 (ZC.cond (Tm 5) ZC.skip (ZC.seq zn152_11 (ZC.cond (Tm 5) ZC.skip zn152_13)))) (ZC.cond (Tm 5) (ZC.seq zn152_16 ZC.ret) (ZC.seq (ZC.seq zn152_19 (ZC.cond (Tm 9) ZC.skip (ZC.seq zn152_22 (ZC.cond (Tm 9) ZC.skip (ZC.seq zn152_25 (ZC.cond (Tm 9) ZC.skip (ZC.seq zn152_28 (ZC.cond (Tm 9) ZC.skip (ZC.seq zn152_31 (ZC.cond (Tm 9) ZC.skip (ZC.seq zn152_34 (ZC.cond (Tm 9) ZC.skip zn152_36)))))))))))) (ZC.cond (Tm 9) (ZC.seq zn152_39 ZC.ret) (ZC.seq zn152_41 (ZC.cond (Tm 17) (ZC.seq zn152_44 ZC.ret) ZC.skip)))))))) (ZC.seq zn152_46 ZC.ret))
def zc152: ZC:=zn152_0
theorem zc152_ok: zcode (xfOf Try.f152).code=some zc152:=by kernel_rfl
def zw152:=zU C zc152.eq_1<|zU C zn152_1.eq_1<|zU C zn152_4.eq_1<|zU C zn152_8.eq_1<|zU C zn152_11.eq_1<|zU C zn152_13.eq_1<|zU C zn152_16.eq_1<|zU C zn152_19.eq_1<|zU C zn152_22.eq_1<|zU C zn152_25.eq_1<|zU C zn152_28.eq_1<|zU C zn152_31.eq_1<|zU C zn152_34.eq_1<|zU C zn152_36.eq_1<|zU C zn152_39.eq_1<|zU C zn152_41.eq_1<|zU C zn152_44.eq_1<|zU C zn152_46.eq_1<|(zunf C zn152_0.eq_1)
theorem rs152: (xfOf Try.f152).rs=[.tmp 2,.tmp 3]:=by kernel_rfl
def xf152:=zF C 152 Try.f152
def zn153_1:=ZC.reg [zv 2 (.assign (.const (.bool false)))]
def zn153_3:=ZC.reg [zu 3 (zmv 0),zu 4 (zcf 85 [Tm 3,Kn 0,Kn 3] [3,3,3]),zv 2 (zas 4)]
def zn153_0:=ZC.seq zn153_1 (ZC.seq zn153_3 ZC.ret)
def zc153: ZC:=zn153_0
theorem zc153_ok: zcode (xfOf Try.f153).code=some zc153:=by kernel_rfl
def zw153:=zU C zc153.eq_1<|zU C zn153_1.eq_1<|zU C zn153_3.eq_1<|(zunf C zn153_0.eq_1)
theorem rs153: (xfOf Try.f153).rs=[.tmp 2]:=by kernel_rfl
def xf153:=zF C 153 Try.f153
def zn154_1:=ZC.reg [zu 2 (.assign (.const (.int .u64 0))),zv 3 (.assign (Kn 0))]
def zn154_3:=ZC.reg [zu 4 (zmv 0),zu 5 (.binOp .mul 25 (Tm 4) (.const (.int .u64 6364136223846793005)) 25),zu 6 (.binOp .add 25 (Tm 5) (.const (.int .u64 1442695040888963407)) 25),zv 0 (zas 6)]
def zn154_5:=ZC.reg [zu 7 (zmv 0),zu 8 (zmv 0),zu 9 (.binOp .shr 25 (Tm 8) (.const (.int .u64 33)) 178),zu 10 (.convert 25 3 (Tm 9)),zu 2 (zas 7),zv 3 (zas 10)]
def zn154_0:=ZC.seq zn154_1 (ZC.seq zn154_3 (ZC.seq zn154_5 ZC.ret))
def zc154: ZC:=zn154_0
theorem zc154_ok: zcode (xfOf Try.f154).code=some zc154:=by kernel_rfl
def zw154:=zU C zc154.eq_1<|zU C zn154_1.eq_1<|zU C zn154_3.eq_1<|zU C zn154_5.eq_1<|(zunf C zn154_0.eq_1)
theorem rs154: (xfOf Try.f154).rs=[.tmp 2,.tmp 3]:=by kernel_rfl
def xf154:=zF C 154 Try.f154
def zn37_1:=ZC.reg [zv 4 (.assign (Kn 0))]
def zn37_3:=ZC.reg [zu 5 (zmv 0),zu 6 (zmv 1),zu 7 (.binOp .rem 3 (Tm 5) (Tm 6) 3),zv 0 (zas 7)]
def zn37_6:=ZC.reg [zu 8 (zmv 0),zv 9 (.binOp .lss 3 (Tm 8) (Kn 0) 3)]
def zn37_8:=ZC.reg [zu 10 (zmv 0),zu 11 (zmv 1),zu 12 (.binOp .add 3 (Tm 10) (Tm 11) 3),zv 0 (zas 12)]
def zn37_10:=ZC.reg [zu 13 (zmv 0),zv 4 (zas 13)]
def zn37_0:=ZC.seq zn37_1 (ZC.seq zn37_3 (ZC.seq (ZC.seq zn37_6 (ZC.cond (Tm 9) zn37_8 ZC.skip)) (ZC.seq zn37_10 ZC.ret)))
def zc37: ZC:=zn37_0
theorem zc37_ok: zcode (xfOf Try.f37).code=some zc37:=by kernel_rfl
def zw37:=zU C zc37.eq_1<|zU C zn37_1.eq_1<|zU C zn37_3.eq_1<|zU C zn37_6.eq_1<|zU C zn37_8.eq_1<|zU C zn37_10.eq_1<|(zunf C zn37_0.eq_1)
theorem rs37: (xfOf Try.f37).rs=[.tmp 4]:=by kernel_rfl
def xf37:=zF C 37 Try.f37
def zn64_1:=ZC.reg [zv 4 (.alloc 34)]
def zn64_3:=ZC.reg [zu 5 (zmv 1),zu 6 (zcf 140 [Tm 5,Kn 1,Kn 8] [3,3,3]),zv 1 (zas 6)]
def zn64_5:=ZC.reg [zu 7 (zmv 0),zu 8 (zmv 1),zu 9 (.binOp .sub 3 (Tm 8) (Kn 1) 3),zu 10 (zcf 140 [Tm 7,Kn 0,Tm 9] [3,3,3]),zv 0 (zas 10)]
def zn64_7:=ZC.reg [zu 11 (zmv 0),zu 12 (zmv 0),zu 13 (.binOp .mul 3 (Kn 2) (Tm 12) 3),zu 14 (.binOp .add 3 (Tm 13) (Kn 1) 3),zu 15 (.binOp .mul 3 (Tm 14) (Kn 4096) 3),zu 16 (zmv 1),zu 17 (.binOp .mul 3 (Kn 2) (Tm 16) 3),zu 18 (.binOp .quo 3 (Tm 15) (Tm 17) 3),⟨some 19,.build 34 ⟨[(0,.const (.int .i64 1)),(1,.tmp 11),(2,.tmp 18),(3,.const (.int .i64 2048))]⟩,none,false⟩,zv0 (.store 34 (Tm 4) (Tm 19))]
def zn64_0:=ZC.seq zn64_1 (ZC.seq zn64_3 (ZC.seq zn64_5 (ZC.seq zn64_7 ZC.ret)))
def zc64: ZC:=zn64_0
theorem zc64_ok: zcode (xfOf Try.f64).code=some zc64:=by kernel_rfl
def zw64:=zU C zc64.eq_1<|zU C zn64_1.eq_1<|zU C zn64_3.eq_1<|zU C zn64_5.eq_1<|zU C zn64_7.eq_1<|(zunf C zn64_0.eq_1)
theorem rs64: (xfOf Try.f64).rs=[.cell 4 34]:=by kernel_rfl
def xf64:=zF C 64 Try.f64
def zn69_1:=ZC.reg [zv 4 (.alloc 36)]
def zn69_3:=ZC.reg [zu 5 (zmv 0),zu 6 (zcf 37 [Tm 5,Kn 256] [3,3]),zu 7 (zmv 1),zu 8 (zcf 37 [Tm 7,Kn 129] [3,3]),zu 9 (.binOp .sub 3 (Tm 8) (Kn 64) 3),zu 10 (zmv 1),zu 11 (.binOp .quo 3 (Tm 10) (Kn 129) 3),zu 12 (zcf 37 [Tm 11,Kn 129] [3,3]),zu 13 (.binOp .sub 3 (Tm 12) (Kn 64) 3),⟨some 14,.build 36 ⟨[(0,.tmp 6),(1,.tmp 9),(2,.tmp 13)]⟩,none,false⟩,zv0 (.store 36 (Tm 4) (Tm 14))]
def zn69_0:=ZC.seq zn69_1 (ZC.seq zn69_3 ZC.ret)
def zc69: ZC:=zn69_0
theorem zc69_ok: zcode (xfOf Try.f69).code=some zc69:=by kernel_rfl
def zw69:=zU C zc69.eq_1<|zU C zn69_1.eq_1<|zU C zn69_3.eq_1<|(zunf C zn69_0.eq_1)
theorem rs69: (xfOf Try.f69).rs=[.cell 4 36]:=by kernel_rfl
def xf69:=zF C 69 Try.f69
def zn21_1:=ZC.reg [zu 1 (.box 31 (Tm 0)),zv 2 (.alloc 29)]
def zn21_3:=ZC.draw 13 [(11,.alloc 29)] [zdd 0 4 (zfa 31 1 0) false [] [] false,zdd 1 5 (zld 3 4) false [] [] false,zdd 2 6 (zcf 37 [Tm 5,Kn 13] [3,3]) false [] [] true,zdd 3 7 (.binOp .add 3 (Kn 1) (Tm 6) 3) false [] [] false,zdd 4 8 (zfa 31 1 1) false [2] [] false,zdd 5 9 (zld 3 8) false [2] [] false,zdd 6 10 (zcf 37 [Tm 9,Kn 4] [3,3]) false [] [] true,zdd 7 11 (zfa 31 1 2) false [2,6] [] false,zdd 8 12 (zld 3 11) false [2,6] [] false,zdd 9 13 (zcf 37 [Tm 12,Kn 4] [3,3]) false [] [] true,⟨10,some 14,.build 29 ⟨[(0,.tmp 7),(1,.tmp 10),(2,.tmp 13)]⟩,none,false,[],[],false⟩,zdd 11 3 (.alloc 29) true [2,6,9] [] false,zd0 12 (.store 29 (Tm 3) (Tm 14)) true [] [] false]
def zn21_6:=ZC.reg [zu 15 (zfa 29 3 0),zv 16 (zld 3 15)]
def zn21_9:=ZC.reg [zu 18 (.binOp .eql 3 (Tm 16) (Kn 1) 3),zv 17 (zas 18)]
def zn21_11:=ZC.reg [zu 19 (zfa 31 1 2),zu 20 (zld 3 19),zu 21 (zcf 37 [Tm 20,Kn 90] [3,3]),zu 22 (.binOp .sub 3 (Tm 21) (Kn 30) 3),zu 23 (zfa 29 3 2),zv0 (.store 3 (Tm 23) (Tm 22))]
def zn21_13:=ZC.reg [zu 25 (.binOp .eql 3 (Tm 16) (Kn 7) 3),zv 24 (zas 25)]
def zn21_15:=ZC.reg [zu 26 (zfa 31 1 2),zu 27 (zld 3 26),zu 28 (zcf 37 [Tm 27,Kn 8] [3,3]),zu 29 (zfa 29 3 2),zv0 (.store 3 (Tm 29) (Tm 28))]
def zn21_18:=ZC.reg [zu 31 (.binOp .eql 3 (Tm 16) (Kn 9) 3),zv 30 (zas 31)]
def zn21_20:=ZC.reg [zu 32 (.binOp .eql 3 (Tm 16) (Kn 10) 3),zv 30 (zas 32)]
def zn21_22:=ZC.reg [zu 33 (zfa 31 1 2),zu 34 (zld 3 33),zu 35 (zcf 37 [Tm 34,Kn 9] [3,3]),zu 36 (zfa 29 3 2),zv0 (.store 3 (Tm 36) (Tm 35))]
def zn21_25:=ZC.reg [zu 37 (zfa 31 1 0),zu 38 (zld 3 37),zv 39 (zcf 37 [Tm 38,Kn 101] [3,3])]
def zn21_28:=ZC.reg [zu 41 (.binOp .eql 3 (Tm 39) (Kn 97) 3),zv 40 (zas 41)]
def zn21_30:=ZC.reg [zu 42 (zfa 31 1 1),zu 43 (zld 3 42),zu 44 (zfa 29 3 1),zv0 (.store 3 (Tm 44) (Tm 43))]
def zn21_32:=ZC.reg [zu 46 (.binOp .eql 3 (Tm 39) (Kn 98) 3),zv 45 (zas 46)]
def zn21_34:=ZC.reg [zu 47 (zfa 31 1 2),zu 48 (zld 3 47),zu 49 (zfa 29 3 2),zv0 (.store 3 (Tm 49) (Tm 48))]
def zn21_36:=ZC.reg [zu 51 (.binOp .eql 3 (Tm 39) (Kn 99) 3),zv 50 (zas 51)]
def zn21_38:=ZC.reg [zu 52 (zfa 31 1 2),zu 53 (zld 3 52),zu 54 (zfa 29 3 0),zv0 (.store 3 (Tm 54) (Tm 53))]
def zn21_40:=ZC.reg [zu 56 (.binOp .eql 3 (Tm 39) (Kn 100) 3),zv 55 (zas 56)]
def zn21_42:=ZC.reg [zu 57 (zfa 31 1 1),zu 58 (zld 3 57),zu 59 (zcf 37 [Tm 58,Kn 9] [3,3]),zu 60 (zfa 29 3 1),zv0 (.store 3 (Tm 60) (Tm 59))]
def zn21_44:=ZC.reg [zu 61 (zld 29 3),zv0 (.store 29 (Tm 2) (Tm 61))]
def zn21_0:=ZC.seq zn21_1 (ZC.seq zn21_3 (ZC.seq (ZC.seq zn21_6 (ZC.block 0 (ZC.seq zn21_9 (ZC.cond (Tm 17) zn21_11 (ZC.seq zn21_13 (ZC.cond (Tm 24) zn21_15 (ZC.seq (ZC.seq zn21_18 (ZC.cond (Tm 30) ZC.skip zn21_20)) (ZC.cond (Tm 30) zn21_22 ZC.skip)))))))) (ZC.seq (ZC.seq zn21_25 (ZC.block 1 (ZC.seq zn21_28 (ZC.cond (Tm 40) zn21_30 (ZC.seq zn21_32 (ZC.cond (Tm 45) zn21_34 (ZC.seq zn21_36 (ZC.cond (Tm 50) zn21_38 (ZC.seq zn21_40 (ZC.cond (Tm 55) zn21_42 ZC.skip)))))))))) (ZC.seq zn21_44 ZC.ret))))
def zc21: ZC:=zn21_0
theorem zc21_ok: zcode (xfOf Try.f21).code=some zc21:=by kernel_rfl
def zw21:=zU C zc21.eq_1<|zU C zn21_1.eq_1<|zU C zn21_3.eq_1<|zU C zn21_6.eq_1<|zU C zn21_9.eq_1<|zU C zn21_11.eq_1<|zU C zn21_13.eq_1<|zU C zn21_15.eq_1<|zU C zn21_18.eq_1<|zU C zn21_20.eq_1<|zU C zn21_22.eq_1<|zU C zn21_25.eq_1<|zU C zn21_28.eq_1<|zU C zn21_30.eq_1<|zU C zn21_32.eq_1<|zU C zn21_34.eq_1<|zU C zn21_36.eq_1<|zU C zn21_38.eq_1<|zU C zn21_40.eq_1<|zU C zn21_42.eq_1<|zU C zn21_44.eq_1<|(zunf C zn21_0.eq_1)
theorem rs21: (xfOf Try.f21).rs=[.cell 2 29]:=by kernel_rfl
def xf21:=zF C 21 Try.f21
def zn29_1:=ZC.reg [zv 2 (.assign (.const (.bool false)))]
def zn29_3:=ZC.reg [zu 4 (zmv 0),zu 5 (zcf 82 [Tm 4,.func 83] [23,142]),zv 3 (zas 5)]
def zn29_5:=ZC.reg [zu 6 (zmv 0),zu 7 (zcb .len [Tm 6] [23]),zu 8 (.binOp .leq 3 (Tm 7) (Kn 16) 3),zu 9 (zmv 8),zug 10 (zmv 3) 9 true false,zug 11 (.unOp .not 4 (Tm 10)) 9 true false,zu 12 (.pick (Tm 9) (Tm 11) (.const (.bool false))),zv 2 (zas 12)]
def zn29_0:=ZC.seq zn29_1 (ZC.seq zn29_3 (ZC.seq zn29_5 ZC.ret))
def zc29: ZC:=zn29_0
theorem zc29_ok: zcode (xfOf Try.f29).code=some zc29:=by kernel_rfl
def zw29:=zU C zc29.eq_1<|zU C zn29_1.eq_1<|zU C zn29_3.eq_1<|zU C zn29_5.eq_1<|(zunf C zn29_0.eq_1)
theorem rs29: (xfOf Try.f29).rs=[.tmp 2]:=by kernel_rfl
def xf29:=zF C 29 Try.f29
def zn30_1:=ZC.reg [zv 2 (.assign (.const (.bool false)))]
def zn30_4:=ZC.reg [zv 3 (.assign (Kn 0))]
def zn30_9:=ZC.reg [zu 4 (zmv 3),zu 5 (zmv 0),zu 6 (zcb .len [Tm 5] [23]),zv 7 (.binOp .lss 3 (Tm 4) (Tm 6) 3)]
def zn30_14:=ZC.reg [zu 10 (zmv 0),zu 11 (zmv 3),zu 12 (zia 23 10 11),zu 13 (zfa 29 12 0),zu 14 (zld 3 13),zu 15 (zcf 85 [Tm 14,Kn 1,Kn 13] [3,3,3]),zu 16 (.unOp .not 4 (Tm 15)),zu 17 (zmv 16),zug 18 (zmv 0) 17 false false,zug 19 (zmv 3) 17 false false,zug 20 (zia 23 18 19) 17 false false,zug 21 (zfa 29 20 1) 17 false false,zug 22 (zld 3 21) 17 false false,zug 23 (zcf 85 [Tm 22,Kn (-1000000),Kn 1000000] [3,3,3]) 17 false false,zug 24 (.unOp .not 4 (Tm 23)) 17 false false,zu 25 (.pick (Tm 17) (.const (.bool true)) (Tm 24)),zu 26 (zmv 25),zug 27 (zmv 0) 26 false false,zug 28 (zmv 3) 26 false false,zug 29 (zia 23 27 28) 26 false false,zug 30 (zfa 29 29 2) 26 false false,zug 31 (zld 3 30) 26 false false,zug 32 (zcf 85 [Tm 31,Kn (-1000000),Kn 1000000] [3,3,3]) 26 false false,zug 33 (.unOp .not 4 (Tm 32)) 26 false false,zv 34 (.pick (Tm 26) (.const (.bool true)) (Tm 33))]
def zn30_17:=ZC.reg [zv 2 (.assign (.const (.bool false)))]
def zn30_18:=ZC.reg [zu 8 (zmv 3),zu 9 (.binOp .add 3 (Tm 8) (Kn 1) 3),zv 3 (zas 9)]
def zn30_7:=ZC.seq (ZC.seq zn30_9 (ZC.cond (Tm 7) ZC.skip (ZC.exit 0))) (ZC.seq (ZC.block 1 (ZC.seq zn30_14 (ZC.cond (Tm 34) (ZC.seq zn30_17 ZC.ret) ZC.skip))) zn30_18)
def zn30_20:=ZC.reg [zu 35 (zmv 0),zu 36 (zcb .len [Tm 35] [23]),zu 37 (.binOp .leq 3 (Tm 36) (Kn 16) 3),zv 2 (zas 37)]
def zn30_0:=ZC.seq zn30_1 (ZC.seq (ZC.seq zn30_4 (ZC.block 0 (ZC.loop zn30_7))) (ZC.seq zn30_20 ZC.ret))
def zc30: ZC:=zn30_0
theorem zc30_ok: zcode (xfOf Try.f30).code=some zc30:=by kernel_rfl
def zw30:=zU C zc30.eq_1<|zU C zn30_1.eq_1<|zU C zn30_4.eq_1<|zU C zn30_9.eq_1<|zU C zn30_14.eq_1<|zU C zn30_17.eq_1<|zU C zn30_18.eq_1<|zU C zn30_7.eq_1<|zU C zn30_20.eq_1<|(zunf C zn30_0.eq_1)
theorem rs30: (xfOf Try.f30).rs=[.tmp 2]:=by kernel_rfl
def xf30:=zF C 30 Try.f30
def zn82_1:=ZC.reg [zv 4 (.assign (.const (.bool false)))]
def zn82_3:=ZC.reg [zu 5 (zmv 0),zu 6 (zmv 1),zu 7 (zcf 155 [Tm 5,Tm 6] [23,142]),zu 8 (.binOp .geq 3 (Tm 7) (Kn 0) 3),zv 4 (zas 8)]
def zn82_0:=ZC.seq zn82_1 (ZC.seq zn82_3 ZC.ret)
def zc82: ZC:=zn82_0
theorem zc82_ok: zcode (xfOf Try.f82).code=some zc82:=by kernel_rfl
def zw82:=zU C zc82.eq_1<|zU C zn82_1.eq_1<|zU C zn82_3.eq_1<|(zunf C zn82_0.eq_1)
theorem rs82: (xfOf Try.f82).rs=[.tmp 4]:=by kernel_rfl
def xf82:=zF C 82 Try.f82
def zn83_1:=ZC.reg [zu 1 (.box 29 (Tm 0)),zv 2 (.assign (.const (.bool false)))]
def zn83_3:=ZC.reg [zu 3 (zfa 29 1 0),zu 4 (zld 3 3),zu 5 (zcf 84 [Tm 4,Kn 1,Kn 13] [3,3,3]),zu 6 (.unOp .not 4 (Tm 5)),zu 7 (zmv 6),zug 8 (zfa 29 1 1) 7 false false,zug 9 (zld 3 8) 7 false false,zug 10 (zcf 84 [Tm 9,Kn (-1000000),Kn 1000000] [3,3,3]) 7 false false,zug 11 (.unOp .not 4 (Tm 10)) 7 false false,zu 12 (.pick (Tm 7) (.const (.bool true)) (Tm 11)),zu 13 (zmv 12),zug 14 (zfa 29 1 2) 13 false false,zug 15 (zld 3 14) 13 false false,zug 16 (zcf 84 [Tm 15,Kn (-1000000),Kn 1000000] [3,3,3]) 13 false false,zug 17 (.unOp .not 4 (Tm 16)) 13 false false,zu 18 (.pick (Tm 13) (.const (.bool true)) (Tm 17)),zv 2 (zas 18)]
def zn83_0:=ZC.seq zn83_1 (ZC.seq zn83_3 ZC.ret)
def zc83: ZC:=zn83_0
theorem zc83_ok: zcode (xfOf Try.f83).code=some zc83:=by kernel_rfl
def zw83:=zU C zc83.eq_1<|zU C zn83_1.eq_1<|zU C zn83_3.eq_1<|(zunf C zn83_0.eq_1)
theorem rs83: (xfOf Try.f83).rs=[.tmp 2]:=by kernel_rfl
def xf83:=zF C 83 Try.f83
def zn155_1:=ZC.reg [zv 4 (.assign (Kn 0))]
def zn155_4:=ZC.reg [zu 6 (zmv 0),zu 7 (zcb .len [Tm 6] [23]),zv 8 (.move (Kn 0))]
def zn155_8:=ZC.reg [zv 9 (.binOp .lss 3 (Tm 8) (Tm 7) 3)]
def zn155_14:=ZC.reg [zu 10 (zmv 8),zv 5 (zas 10)]
def zn155_16:=ZC.reg [zu 11 (zmv 1),zu 12 (zmv 0),zu 13 (zmv 5),zu 14 (zia 23 12 13),zu 15 (zld 29 14),⟨some 16,.call ⟨.value (Tm 11),⟨[Tm 15]⟩,⟨[29]⟩⟩,none,true⟩]
def zn155_19:=ZC.reg [zu 17 (zmv 5),zv 4 (zas 17)]
def zn155_20:=ZC.reg [zu 18 (.binOp .add 3 (Tm 8) (Kn 1) 3),zv 8 (zmv 18)]
def Q1b:=ZC.seq zn155_8 (ZC.seq (ZC.cond (Tm 9) ZC.skip (ZC.exit 0)) (ZC.seq (ZC.block 1 (ZC.seq zn155_14 (ZC.seq zn155_16 (ZC.cond (Tm 16) (ZC.seq zn155_19 ZC.ret) ZC.skip)))) zn155_20))
def zn155_22:=ZC.reg [zv 4 (.assign (Kn (-1)))]
def zn155_0:=ZC.seq zn155_1 (ZC.seq (ZC.seq zn155_4 (ZC.block 0 (ZC.loop Q1b))) (ZC.seq zn155_22 ZC.ret))
def zc155: ZC:=zn155_0
theorem zc155_ok: zcode (xfOf Try.f155).code=some zc155:=by kernel_rfl
def zw155:=zU C zc155.eq_1<|zU C zn155_1.eq_1<|zU C zn155_4.eq_1<|zU C zn155_8.eq_1<|zU C zn155_14.eq_1<|zU C zn155_16.eq_1<|zU C zn155_19.eq_1<|zU C zn155_20.eq_1<|zU C Q1b.eq_1<|zU C zn155_22.eq_1<|(zunf C zn155_0.eq_1)
theorem rs155: (xfOf Try.f155).rs=[.tmp 4]:=by kernel_rfl
def xf155:=zF C 155 Try.f155
end Go.Proofs.Ytpchcfkebljopaa
end
section
namespace Go.Proofs.Ytpchcfkebljopaa
open Go.Cl
set_option linter.constructorNameAsVariable false
structure Q0c where
 Code:Int
 A:Int
 B:Int
def Q0c.cv(x:Q0c): CV:=.agg [I x.Code,I x.A,I x.B]
@[ext] theorem Q0c.ext'{x y:Q0c}(h_Code:x.Code=y.Code)(h_A:x.A=y.A)(h_B:x.B=y.B): x=y:=by
 obtain⟨a0,a1,a2⟩:=x
 obtain⟨c0,c1,c2⟩:=y
 simp only at h_Code h_A h_B
 subst h_Code h_A h_B
 rfl
def Q0c.zero: Q0c:={Code:=0,A:=0,B:=0}
instance:Inhabited Q0c:=⟨Q0c.zero⟩
theorem Q0c.zcv: z29=Q0c.zero.cv:=by
 simp only[z29,Q0c.zero,Q0c.cv,List.map_replicate,Lst.cv,List.map_nil]
theorem Q0c.shape(x:Q0c): x.cv.shape=sh29:=by simp only[Q0c.cv,sh29,CV.shape,CV.shapes,Lst.shape]
theorem Q0c.nohas(x:Q0c)(j:Nat): ¬x.cv.has j:=by simp[Q0c.cv,CV.has,CV.hasL]
instance:DecidableEq Q0c:=fun x y=>decidable_of_iff (x.Code=y.Code/\x.A=y.A/\x.B=y.B) ⟨fun h=>Q0c.ext' h.1 h.2.1 h.2.2,fun h=>by subst h;simp⟩
theorem Q0c.inj{x y:Q0c}(h:x.cv=y.cv): x=y:=by
 simp only[Q0c.cv,CV.agg.injEq,List.cons.injEq,and_true]at h
 obtain⟨h0,h1,h2⟩:=h
 refine Q0c.ext' (I_inj _ _ h0) (I_inj _ _ h1) (I_inj _ _ h2)
theorem Q0c.injF(x y:Q0c)(h:x.cv=y.cv): x=y:=Q0c.inj h
theorem Q0c.inj_iff(x y:Q0c): x.cv=y.cv ↔ x=y:=⟨Q0c.inj,fun h=>by rw[h]⟩
theorem Q0c.shOk(x:Q0c): Cl.shOk x.cv sh29=true:=K0n (Q0c.shape x) rfl
theorem Q0c.eq(d:Nat)(x y:Q0c): eqCV C (d+2) 29 x.cv y.cv=some (decide (x=y)):=by
 refine(K0x C (d:=d+1) tt29 (Q0c.shape x) (Q0c.shape y) (X0f (K0g C tt3 (d+0) _ _) (X0f (K0g C tt3 (d+0) _ _) (X0f (K0g C tt3 (d+0) _ _) rfl)))).trans (congrArg some ?_)
 rw[Bool.eq_iff_iff]
 simp only[Bool.and_eq_true,decide_eq_true_eq,and_true]
 exact⟨fun h=>Q0c.ext' h.1 h.2.1 h.2.2,fun h=>by subst h;simp⟩
theorem Q0c.eql(x y:Q0c)(b:Bool): qbin C .eql 29 b x.cv y.cv=some (Bo (decide (x=y))):=by
 have h:=Q0c.eq 10 x y
 unfold Q0c.cv at h ⊢
 simp only[qbin]
 rw[h];rfl
theorem Q0c.neq(x y:Q0c)(b:Bool): qbin C .neq 29 b x.cv y.cv=some (Bo (!decide (x=y))):=by
 have h:=Q0c.eq 10 x y
 unfold Q0c.cv at h ⊢
 simp only[qbin]
 rw[h];rfl
theorem Q0c.at_0(x:Q0c)(q:List Nat): x.cv.at (0::q)=(I x.Code).at q:=rfl
def Q0c.upd_0(x:Q0c)(v:CV): CV:=.agg [v,I x.A,I x.B]
theorem Q0c.set_0(x:Q0c)(q:List Nat)(v:CV): x.cv.set (0::q) v=Q0c.upd_0 x ((I x.Code).set q v):=rfl
theorem Q0c.fold_0(x:Q0c)(y:Int): Q0c.upd_0 x (I y)=({x with Code:=y}:Q0c).cv:=rfl
theorem Q0c.fld_0(x:Q0c): qfield C 29 x.cv 0=some (I x.Code):=X0d C tt29 (Q0c.shape x) rfl tt3 rfl rfl
theorem Q0c.rfa_0(x:Q0c)(h:Heap): qfieldAddr C h 29 (.rptr x.cv) 0=some (.rptr (I x.Code)):=by
 have hs:=Q0c.shape x
 unfold Q0c.cv at hs ⊢
 simp only[qfieldAddr,tt29,ti29,tgt,hs,if_true,List.getElem?_cons_zero,List.getElem?_cons_succ]
theorem Q0c.sub_0(q:List Nat)(z:Shape): subEq sh29 (0::q) z=subEq sh3 q z:=rfl
theorem Q0c.at_1(x:Q0c)(q:List Nat): x.cv.at (1::q)=(I x.A).at q:=rfl
def Q0c.upd_1(x:Q0c)(v:CV): CV:=.agg [I x.Code,v,I x.B]
theorem Q0c.set_1(x:Q0c)(q:List Nat)(v:CV): x.cv.set (1::q) v=Q0c.upd_1 x ((I x.A).set q v):=rfl
theorem Q0c.fold_1(x:Q0c)(y:Int): Q0c.upd_1 x (I y)=({x with A:=y}:Q0c).cv:=rfl
theorem Q0c.fld_1(x:Q0c): qfield C 29 x.cv 1=some (I x.A):=X0d C tt29 (Q0c.shape x) rfl tt3 rfl rfl
theorem Q0c.rfa_1(x:Q0c)(h:Heap): qfieldAddr C h 29 (.rptr x.cv) 1=some (.rptr (I x.A)):=by
 have hs:=Q0c.shape x
 unfold Q0c.cv at hs ⊢
 simp only[qfieldAddr,tt29,ti29,tgt,hs,if_true,List.getElem?_cons_zero,List.getElem?_cons_succ]
theorem Q0c.sub_1(q:List Nat)(z:Shape): subEq sh29 (1::q) z=subEq sh3 q z:=rfl
theorem Q0c.at_2(x:Q0c)(q:List Nat): x.cv.at (2::q)=(I x.B).at q:=rfl
def Q0c.upd_2(x:Q0c)(v:CV): CV:=.agg [I x.Code,I x.A,v]
theorem Q0c.set_2(x:Q0c)(q:List Nat)(v:CV): x.cv.set (2::q) v=Q0c.upd_2 x ((I x.B).set q v):=rfl
theorem Q0c.fold_2(x:Q0c)(y:Int): Q0c.upd_2 x (I y)=({x with B:=y}:Q0c).cv:=rfl
theorem Q0c.fld_2(x:Q0c): qfield C 29 x.cv 2=some (I x.B):=X0d C tt29 (Q0c.shape x) rfl tt3 rfl rfl
theorem Q0c.rfa_2(x:Q0c)(h:Heap): qfieldAddr C h 29 (.rptr x.cv) 2=some (.rptr (I x.B)):=by
 have hs:=Q0c.shape x
 unfold Q0c.cv at hs ⊢
 simp only[qfieldAddr,tt29,ti29,tgt,hs,if_true,List.getElem?_cons_zero,List.getElem?_cons_succ]
theorem Q0c.sub_2(q:List Nat)(z:Shape): subEq sh29 (2::q) z=subEq sh3 q z:=rfl
theorem Q0c.sub_nil: subEq sh29 [] sh29=true:=by simp[subEq,Shape.sub]
theorem Q0c.alloc: allocObj C (.alloc 29)=some (.var sh29 Q0c.zero.cv):=by simp only[allocObj,tt29,ti29,Q0c.zcv]
theorem Q0c.xalloc(p:Hp): xalloc C p 29=.ret (.ptr p.n []) (p.new (.var sh29 Q0c.zero.cv)):=by simp only[Cl.xalloc,tt29,ti29,Q0c.zcv]
theorem Q0c.xbox(p:Hp)(x:Q0c): xbox C p 29 x.cv=.ret (.ptr p.n []) (p.new (.var sh29 x.cv)):=by
 have h:Cl.shOk x.cv ti29.sh=true:=Q0c.shOk x
 simp only[Cl.xbox,tt29,h,cond_true];rfl
theorem Q0c.bld_0(a0:Int): qbuild C 29 [(0,I a0)]=some (({Code:=a0,A:=0,B:=0}:Q0c).cv):=Y0e C tt29 (by simp only[partsOk,setAll,CV.shape,sh29,List.all_cons,List.all_nil,List.getElem?_cons_zero,List.getElem?_cons_succ,Bool.and_true,decide_true]) rfl
theorem Q0c.bld_0_1(a0:Int)(a1:Int): qbuild C 29 [(0,I a0),(1,I a1)]=some (({Code:=a0,A:=a1,B:=0}:Q0c).cv):=Y0e C tt29 (by simp only[partsOk,setAll,CV.shape,sh29,List.all_cons,List.all_nil,List.getElem?_cons_zero,List.getElem?_cons_succ,Bool.and_true,decide_true]) rfl
theorem Q0c.bld_0_1_2(a0:Int)(a1:Int)(a2:Int): qbuild C 29 [(0,I a0),(1,I a1),(2,I a2)]=some (({Code:=a0,A:=a1,B:=a2}:Q0c).cv):=Y0e C tt29 (by simp only[partsOk,setAll,CV.shape,sh29,List.all_cons,List.all_nil,List.getElem?_cons_zero,List.getElem?_cons_succ,Bool.and_true,decide_true]) rfl
structure V0b where
 Code:Int
 A:Int
 B:Int
def V0b.cv(x:V0b): CV:=.agg [I x.Code,I x.A,I x.B]
@[ext] theorem V0b.ext'{x y:V0b}(h_Code:x.Code=y.Code)(h_A:x.A=y.A)(h_B:x.B=y.B): x=y:=by
 obtain⟨a0,a1,a2⟩:=x
 obtain⟨c0,c1,c2⟩:=y
 simp only at h_Code h_A h_B
 subst h_Code h_A h_B
 rfl
def V0b.zero: V0b:={Code:=0,A:=0,B:=0}
instance:Inhabited V0b:=⟨V0b.zero⟩
theorem V0b.zcv: z31=V0b.zero.cv:=by
 simp only[z31,V0b.zero,V0b.cv,List.map_replicate,Lst.cv,List.map_nil]
theorem V0b.shape(x:V0b): x.cv.shape=sh31:=by simp only[V0b.cv,sh31,CV.shape,CV.shapes,Lst.shape]
theorem V0b.nohas(x:V0b)(j:Nat): ¬x.cv.has j:=by simp[V0b.cv,CV.has,CV.hasL]
instance:DecidableEq V0b:=fun x y=>decidable_of_iff (x.Code=y.Code/\x.A=y.A/\x.B=y.B) ⟨fun h=>V0b.ext' h.1 h.2.1 h.2.2,fun h=>by subst h;simp⟩
theorem V0b.inj{x y:V0b}(h:x.cv=y.cv): x=y:=by
 simp only[V0b.cv,CV.agg.injEq,List.cons.injEq,and_true]at h
 obtain⟨h0,h1,h2⟩:=h
 refine V0b.ext' (I_inj _ _ h0) (I_inj _ _ h1) (I_inj _ _ h2)
theorem V0b.injF(x y:V0b)(h:x.cv=y.cv): x=y:=V0b.inj h
theorem V0b.inj_iff(x y:V0b): x.cv=y.cv ↔ x=y:=⟨V0b.inj,fun h=>by rw[h]⟩
theorem V0b.shOk(x:V0b): Cl.shOk x.cv sh31=true:=K0n (V0b.shape x) rfl
theorem V0b.eq(d:Nat)(x y:V0b): eqCV C (d+2) 31 x.cv y.cv=some (decide (x=y)):=by
 refine(K0x C (d:=d+1) tt31 (V0b.shape x) (V0b.shape y) (X0f (K0g C tt3 (d+0) _ _) (X0f (K0g C tt3 (d+0) _ _) (X0f (K0g C tt3 (d+0) _ _) rfl)))).trans (congrArg some ?_)
 rw[Bool.eq_iff_iff]
 simp only[Bool.and_eq_true,decide_eq_true_eq,and_true]
 exact⟨fun h=>V0b.ext' h.1 h.2.1 h.2.2,fun h=>by subst h;simp⟩
theorem V0b.eql(x y:V0b)(b:Bool): qbin C .eql 31 b x.cv y.cv=some (Bo (decide (x=y))):=by
 have h:=V0b.eq 10 x y
 unfold V0b.cv at h ⊢
 simp only[qbin]
 rw[h];rfl
theorem V0b.neq(x y:V0b)(b:Bool): qbin C .neq 31 b x.cv y.cv=some (Bo (!decide (x=y))):=by
 have h:=V0b.eq 10 x y
 unfold V0b.cv at h ⊢
 simp only[qbin]
 rw[h];rfl
theorem V0b.at_0(x:V0b)(q:List Nat): x.cv.at (0::q)=(I x.Code).at q:=rfl
def V0b.upd_0(x:V0b)(v:CV): CV:=.agg [v,I x.A,I x.B]
theorem V0b.set_0(x:V0b)(q:List Nat)(v:CV): x.cv.set (0::q) v=V0b.upd_0 x ((I x.Code).set q v):=rfl
theorem V0b.fold_0(x:V0b)(y:Int): V0b.upd_0 x (I y)=({x with Code:=y}:V0b).cv:=rfl
theorem V0b.fld_0(x:V0b): qfield C 31 x.cv 0=some (I x.Code):=X0d C tt31 (V0b.shape x) rfl tt3 rfl rfl
theorem V0b.rfa_0(x:V0b)(h:Heap): qfieldAddr C h 31 (.rptr x.cv) 0=some (.rptr (I x.Code)):=by
 have hs:=V0b.shape x
 unfold V0b.cv at hs ⊢
 simp only[qfieldAddr,tt31,ti31,tgt,hs,if_true,List.getElem?_cons_zero,List.getElem?_cons_succ]
theorem V0b.sub_0(q:List Nat)(z:Shape): subEq sh31 (0::q) z=subEq sh3 q z:=rfl
theorem V0b.at_1(x:V0b)(q:List Nat): x.cv.at (1::q)=(I x.A).at q:=rfl
def V0b.upd_1(x:V0b)(v:CV): CV:=.agg [I x.Code,v,I x.B]
theorem V0b.set_1(x:V0b)(q:List Nat)(v:CV): x.cv.set (1::q) v=V0b.upd_1 x ((I x.A).set q v):=rfl
theorem V0b.fold_1(x:V0b)(y:Int): V0b.upd_1 x (I y)=({x with A:=y}:V0b).cv:=rfl
theorem V0b.fld_1(x:V0b): qfield C 31 x.cv 1=some (I x.A):=X0d C tt31 (V0b.shape x) rfl tt3 rfl rfl
theorem V0b.rfa_1(x:V0b)(h:Heap): qfieldAddr C h 31 (.rptr x.cv) 1=some (.rptr (I x.A)):=by
 have hs:=V0b.shape x
 unfold V0b.cv at hs ⊢
 simp only[qfieldAddr,tt31,ti31,tgt,hs,if_true,List.getElem?_cons_zero,List.getElem?_cons_succ]
theorem V0b.sub_1(q:List Nat)(z:Shape): subEq sh31 (1::q) z=subEq sh3 q z:=rfl
theorem V0b.at_2(x:V0b)(q:List Nat): x.cv.at (2::q)=(I x.B).at q:=rfl
def V0b.upd_2(x:V0b)(v:CV): CV:=.agg [I x.Code,I x.A,v]
theorem V0b.set_2(x:V0b)(q:List Nat)(v:CV): x.cv.set (2::q) v=V0b.upd_2 x ((I x.B).set q v):=rfl
theorem V0b.fold_2(x:V0b)(y:Int): V0b.upd_2 x (I y)=({x with B:=y}:V0b).cv:=rfl
theorem V0b.fld_2(x:V0b): qfield C 31 x.cv 2=some (I x.B):=X0d C tt31 (V0b.shape x) rfl tt3 rfl rfl
theorem V0b.rfa_2(x:V0b)(h:Heap): qfieldAddr C h 31 (.rptr x.cv) 2=some (.rptr (I x.B)):=by
 have hs:=V0b.shape x
 unfold V0b.cv at hs ⊢
 simp only[qfieldAddr,tt31,ti31,tgt,hs,if_true,List.getElem?_cons_zero,List.getElem?_cons_succ]
theorem V0b.sub_2(q:List Nat)(z:Shape): subEq sh31 (2::q) z=subEq sh3 q z:=rfl
theorem V0b.sub_nil: subEq sh31 [] sh31=true:=by simp[subEq,Shape.sub]
theorem V0b.alloc: allocObj C (.alloc 31)=some (.var sh31 V0b.zero.cv):=by simp only[allocObj,tt31,ti31,V0b.zcv]
theorem V0b.xalloc(p:Hp): xalloc C p 31=.ret (.ptr p.n []) (p.new (.var sh31 V0b.zero.cv)):=by simp only[Cl.xalloc,tt31,ti31,V0b.zcv]
theorem V0b.xbox(p:Hp)(x:V0b): xbox C p 31 x.cv=.ret (.ptr p.n []) (p.new (.var sh31 x.cv)):=by
 have h:Cl.shOk x.cv ti31.sh=true:=V0b.shOk x
 simp only[Cl.xbox,tt31,h,cond_true];rfl
structure Q0a where
 Kind:Int
 Owner:Int
 X:Int
 Y:Int
 VX:Int
 VY:Int
 Age:Int
 Mem:List Int
 hMem:Mem.length=4
 Faults:Int
def Q0a.cv(x:Q0a): CV:=.agg [I x.Kind,I x.Owner,I x.X,I x.Y,I x.VX,I x.VY,I x.Age,.agg (x.Mem.map I),I x.Faults]
@[ext] theorem Q0a.ext'{x y:Q0a}(h_Kind:x.Kind=y.Kind)(h_Owner:x.Owner=y.Owner)(h_X:x.X=y.X)(h_Y:x.Y=y.Y)(h_VX:x.VX=y.VX)(h_VY:x.VY=y.VY)(h_Age:x.Age=y.Age)(h_Mem:x.Mem=y.Mem)(h_Faults:x.Faults=y.Faults): x=y:=by
 obtain⟨a0,a1,a2,a3,a4,a5,a6,a7,ha,a8⟩:=x
 obtain⟨c0,c1,c2,c3,c4,c5,c6,c7,hc,c8⟩:=y
 simp only at h_Kind h_Owner h_X h_Y h_VX h_VY h_Age h_Mem h_Faults
 subst h_Kind h_Owner h_X h_Y h_VX h_VY h_Age h_Mem h_Faults
 rfl
def Q0a.zero: Q0a:={Kind:=0,Owner:=0,X:=0,Y:=0,VX:=0,VY:=0,Age:=0,Mem:=(List.replicate 4 0),hMem:=List.length_replicate,Faults:=0}
instance:Inhabited Q0a:=⟨Q0a.zero⟩
theorem Q0a.zcv: z34=Q0a.zero.cv:=by
 simp only[z34,Q0a.zero,Q0a.cv,z32,List.map_replicate,Lst.cv,List.map_nil]
theorem Q0a.shape(x:Q0a): x.cv.shape=sh34:=by simp only[Q0a.cv,sh34,CV.shape,CV.shapes,Lst.shape,Y0i (f:=I) (s:=Shape.s) (fun _=>rfl),x.hMem,sh32]
theorem Q0a.nohas(x:Q0a)(j:Nat): ¬x.cv.has j:=by simp[Q0a.cv,CV.has,CV.hasL,X0n I_has]
instance:DecidableEq Q0a:=fun x y=>decidable_of_iff (x.Kind=y.Kind/\x.Owner=y.Owner/\x.X=y.X/\x.Y=y.Y/\x.VX=y.VX/\x.VY=y.VY/\x.Age=y.Age/\x.Mem=y.Mem/\x.Faults=y.Faults) ⟨fun h=>Q0a.ext' h.1 h.2.1 h.2.2.1 h.2.2.2.1 h.2.2.2.2.1 h.2.2.2.2.2.1 h.2.2.2.2.2.2.1 h.2.2.2.2.2.2.2.1 h.2.2.2.2.2.2.2.2,fun h=>by subst h;simp⟩
theorem Q0a.inj{x y:Q0a}(h:x.cv=y.cv): x=y:=by
 simp only[Q0a.cv,CV.agg.injEq,List.cons.injEq,and_true]at h
 obtain⟨h0,h1,h2,h3,h4,h5,h6,h7,h8⟩:=h
 refine Q0a.ext' (I_inj _ _ h0) (I_inj _ _ h1) (I_inj _ _ h2) (I_inj _ _ h3) (I_inj _ _ h4) (I_inj _ _ h5) (I_inj _ _ h6) (Z1a I_inj h7) (I_inj _ _ h8)
theorem Q0a.injF(x y:Q0a)(h:x.cv=y.cv): x=y:=Q0a.inj h
theorem Q0a.inj_iff(x y:Q0a): x.cv=y.cv ↔ x=y:=⟨Q0a.inj,fun h=>by rw[h]⟩
theorem Q0a.shOk(x:Q0a): Cl.shOk x.cv sh34=true:=K0n (Q0a.shape x) rfl
theorem Q0a.eq(d:Nat)(x y:Q0a): eqCV C (d+3) 34 x.cv y.cv=some (decide (x=y)):=by
 refine(K0x C (d:=d+2) tt34 (Q0a.shape x) (Q0a.shape y) (X0f (K0g C tt3 (d+1) _ _) (X0f (K0g C tt3 (d+1) _ _) (X0f (K0g C tt3 (d+1) _ _) (X0f (K0g C tt3 (d+1) _ _) (X0f (K0g C tt3 (d+1) _ _) (X0f (K0g C tt3 (d+1) _ _) (X0f (K0g C tt3 (d+1) _ _) (X0f (eqCV_ar C (g:=I) (d:=d+1) tt32 rfl (fun _=>rfl) x.hMem y.hMem (K0g C tt3 (d+0))) (X0f (K0g C tt3 (d+1) _ _) rfl)))))))))).trans (congrArg some ?_)
 rw[Bool.eq_iff_iff]
 simp only[Bool.and_eq_true,decide_eq_true_eq,and_true]
 exact⟨fun h=>Q0a.ext' h.1 h.2.1 h.2.2.1 h.2.2.2.1 h.2.2.2.2.1 h.2.2.2.2.2.1 h.2.2.2.2.2.2.1 h.2.2.2.2.2.2.2.1 h.2.2.2.2.2.2.2.2,fun h=>by subst h;simp⟩
theorem Q0a.eql(x y:Q0a)(b:Bool): qbin C .eql 34 b x.cv y.cv=some (Bo (decide (x=y))):=by
 have h:=Q0a.eq 9 x y
 unfold Q0a.cv at h ⊢
 simp only[qbin]
 rw[h];rfl
theorem Q0a.neq(x y:Q0a)(b:Bool): qbin C .neq 34 b x.cv y.cv=some (Bo (!decide (x=y))):=by
 have h:=Q0a.eq 9 x y
 unfold Q0a.cv at h ⊢
 simp only[qbin]
 rw[h];rfl
theorem Q0a.at_0(x:Q0a)(q:List Nat): x.cv.at (0::q)=(I x.Kind).at q:=rfl
def Q0a.upd_0(x:Q0a)(v:CV): CV:=.agg [v,I x.Owner,I x.X,I x.Y,I x.VX,I x.VY,I x.Age,.agg (x.Mem.map I),I x.Faults]
theorem Q0a.set_0(x:Q0a)(q:List Nat)(v:CV): x.cv.set (0::q) v=Q0a.upd_0 x ((I x.Kind).set q v):=rfl
theorem Q0a.fold_0(x:Q0a)(y:Int): Q0a.upd_0 x (I y)=({x with Kind:=y}:Q0a).cv:=rfl
theorem Q0a.fld_0(x:Q0a): qfield C 34 x.cv 0=some (I x.Kind):=X0d C tt34 (Q0a.shape x) rfl tt3 rfl rfl
theorem Q0a.rfa_0(x:Q0a)(h:Heap): qfieldAddr C h 34 (.rptr x.cv) 0=some (.rptr (I x.Kind)):=by
 have hs:=Q0a.shape x
 unfold Q0a.cv at hs ⊢
 simp only[qfieldAddr,tt34,ti34,tgt,hs,if_true,List.getElem?_cons_zero,List.getElem?_cons_succ]
theorem Q0a.sub_0(q:List Nat)(z:Shape): subEq sh34 (0::q) z=subEq sh3 q z:=rfl
theorem Q0a.at_1(x:Q0a)(q:List Nat): x.cv.at (1::q)=(I x.Owner).at q:=rfl
def Q0a.upd_1(x:Q0a)(v:CV): CV:=.agg [I x.Kind,v,I x.X,I x.Y,I x.VX,I x.VY,I x.Age,.agg (x.Mem.map I),I x.Faults]
theorem Q0a.set_1(x:Q0a)(q:List Nat)(v:CV): x.cv.set (1::q) v=Q0a.upd_1 x ((I x.Owner).set q v):=rfl
theorem Q0a.fold_1(x:Q0a)(y:Int): Q0a.upd_1 x (I y)=({x with Owner:=y}:Q0a).cv:=rfl
theorem Q0a.fld_1(x:Q0a): qfield C 34 x.cv 1=some (I x.Owner):=X0d C tt34 (Q0a.shape x) rfl tt3 rfl rfl
theorem Q0a.rfa_1(x:Q0a)(h:Heap): qfieldAddr C h 34 (.rptr x.cv) 1=some (.rptr (I x.Owner)):=by
 have hs:=Q0a.shape x
 unfold Q0a.cv at hs ⊢
 simp only[qfieldAddr,tt34,ti34,tgt,hs,if_true,List.getElem?_cons_zero,List.getElem?_cons_succ]
theorem Q0a.sub_1(q:List Nat)(z:Shape): subEq sh34 (1::q) z=subEq sh3 q z:=rfl
theorem Q0a.at_2(x:Q0a)(q:List Nat): x.cv.at (2::q)=(I x.X).at q:=rfl
def Q0a.upd_2(x:Q0a)(v:CV): CV:=.agg [I x.Kind,I x.Owner,v,I x.Y,I x.VX,I x.VY,I x.Age,.agg (x.Mem.map I),I x.Faults]
theorem Q0a.set_2(x:Q0a)(q:List Nat)(v:CV): x.cv.set (2::q) v=Q0a.upd_2 x ((I x.X).set q v):=rfl
theorem Q0a.fold_2(x:Q0a)(y:Int): Q0a.upd_2 x (I y)=({x with X:=y}:Q0a).cv:=rfl
theorem Q0a.fld_2(x:Q0a): qfield C 34 x.cv 2=some (I x.X):=X0d C tt34 (Q0a.shape x) rfl tt3 rfl rfl
theorem Q0a.rfa_2(x:Q0a)(h:Heap): qfieldAddr C h 34 (.rptr x.cv) 2=some (.rptr (I x.X)):=by
 have hs:=Q0a.shape x
 unfold Q0a.cv at hs ⊢
 simp only[qfieldAddr,tt34,ti34,tgt,hs,if_true,List.getElem?_cons_zero,List.getElem?_cons_succ]
theorem Q0a.sub_2(q:List Nat)(z:Shape): subEq sh34 (2::q) z=subEq sh3 q z:=rfl
theorem Q0a.at_3(x:Q0a)(q:List Nat): x.cv.at (3::q)=(I x.Y).at q:=rfl
def Q0a.upd_3(x:Q0a)(v:CV): CV:=.agg [I x.Kind,I x.Owner,I x.X,v,I x.VX,I x.VY,I x.Age,.agg (x.Mem.map I),I x.Faults]
theorem Q0a.set_3(x:Q0a)(q:List Nat)(v:CV): x.cv.set (3::q) v=Q0a.upd_3 x ((I x.Y).set q v):=rfl
theorem Q0a.fold_3(x:Q0a)(y:Int): Q0a.upd_3 x (I y)=({x with Y:=y}:Q0a).cv:=rfl
theorem Q0a.fld_3(x:Q0a): qfield C 34 x.cv 3=some (I x.Y):=X0d C tt34 (Q0a.shape x) rfl tt3 rfl rfl
theorem Q0a.rfa_3(x:Q0a)(h:Heap): qfieldAddr C h 34 (.rptr x.cv) 3=some (.rptr (I x.Y)):=by
 have hs:=Q0a.shape x
 unfold Q0a.cv at hs ⊢
 simp only[qfieldAddr,tt34,ti34,tgt,hs,if_true,List.getElem?_cons_zero,List.getElem?_cons_succ]
theorem Q0a.sub_3(q:List Nat)(z:Shape): subEq sh34 (3::q) z=subEq sh3 q z:=rfl
theorem Q0a.at_4(x:Q0a)(q:List Nat): x.cv.at (4::q)=(I x.VX).at q:=rfl
def Q0a.upd_4(x:Q0a)(v:CV): CV:=.agg [I x.Kind,I x.Owner,I x.X,I x.Y,v,I x.VY,I x.Age,.agg (x.Mem.map I),I x.Faults]
theorem Q0a.set_4(x:Q0a)(q:List Nat)(v:CV): x.cv.set (4::q) v=Q0a.upd_4 x ((I x.VX).set q v):=rfl
theorem Q0a.fold_4(x:Q0a)(y:Int): Q0a.upd_4 x (I y)=({x with VX:=y}:Q0a).cv:=rfl
theorem Q0a.fld_4(x:Q0a): qfield C 34 x.cv 4=some (I x.VX):=X0d C tt34 (Q0a.shape x) rfl tt3 rfl rfl
theorem Q0a.rfa_4(x:Q0a)(h:Heap): qfieldAddr C h 34 (.rptr x.cv) 4=some (.rptr (I x.VX)):=by
 have hs:=Q0a.shape x
 unfold Q0a.cv at hs ⊢
 simp only[qfieldAddr,tt34,ti34,tgt,hs,if_true,List.getElem?_cons_zero,List.getElem?_cons_succ]
theorem Q0a.sub_4(q:List Nat)(z:Shape): subEq sh34 (4::q) z=subEq sh3 q z:=rfl
theorem Q0a.at_5(x:Q0a)(q:List Nat): x.cv.at (5::q)=(I x.VY).at q:=rfl
def Q0a.upd_5(x:Q0a)(v:CV): CV:=.agg [I x.Kind,I x.Owner,I x.X,I x.Y,I x.VX,v,I x.Age,.agg (x.Mem.map I),I x.Faults]
theorem Q0a.set_5(x:Q0a)(q:List Nat)(v:CV): x.cv.set (5::q) v=Q0a.upd_5 x ((I x.VY).set q v):=rfl
theorem Q0a.fold_5(x:Q0a)(y:Int): Q0a.upd_5 x (I y)=({x with VY:=y}:Q0a).cv:=rfl
theorem Q0a.fld_5(x:Q0a): qfield C 34 x.cv 5=some (I x.VY):=X0d C tt34 (Q0a.shape x) rfl tt3 rfl rfl
theorem Q0a.rfa_5(x:Q0a)(h:Heap): qfieldAddr C h 34 (.rptr x.cv) 5=some (.rptr (I x.VY)):=by
 have hs:=Q0a.shape x
 unfold Q0a.cv at hs ⊢
 simp only[qfieldAddr,tt34,ti34,tgt,hs,if_true,List.getElem?_cons_zero,List.getElem?_cons_succ]
theorem Q0a.sub_5(q:List Nat)(z:Shape): subEq sh34 (5::q) z=subEq sh3 q z:=rfl
theorem Q0a.at_6(x:Q0a)(q:List Nat): x.cv.at (6::q)=(I x.Age).at q:=rfl
def Q0a.upd_6(x:Q0a)(v:CV): CV:=.agg [I x.Kind,I x.Owner,I x.X,I x.Y,I x.VX,I x.VY,v,.agg (x.Mem.map I),I x.Faults]
theorem Q0a.set_6(x:Q0a)(q:List Nat)(v:CV): x.cv.set (6::q) v=Q0a.upd_6 x ((I x.Age).set q v):=rfl
theorem Q0a.fold_6(x:Q0a)(y:Int): Q0a.upd_6 x (I y)=({x with Age:=y}:Q0a).cv:=rfl
theorem Q0a.fld_6(x:Q0a): qfield C 34 x.cv 6=some (I x.Age):=X0d C tt34 (Q0a.shape x) rfl tt3 rfl rfl
theorem Q0a.rfa_6(x:Q0a)(h:Heap): qfieldAddr C h 34 (.rptr x.cv) 6=some (.rptr (I x.Age)):=by
 have hs:=Q0a.shape x
 unfold Q0a.cv at hs ⊢
 simp only[qfieldAddr,tt34,ti34,tgt,hs,if_true,List.getElem?_cons_zero,List.getElem?_cons_succ]
theorem Q0a.sub_6(q:List Nat)(z:Shape): subEq sh34 (6::q) z=subEq sh3 q z:=rfl
theorem Q0a.at_7(x:Q0a): x.cv.at [7]=some (.agg (x.Mem.map I)):=rfl
theorem Q0a.at_7k(x:Q0a)(k:Nat)(q:List Nat)(h:k<4): x.cv.at (7::k::q)=(I (nth x.Mem k)).at q:=by
 show(CV.agg (x.Mem.map I)).at (k::q)=_
 exact X1o _ (by rw[x.hMem];exact h) q
def Q0a.upd_7(x:Q0a)(v:CV): CV:=.agg [I x.Kind,I x.Owner,I x.X,I x.Y,I x.VX,I x.VY,I x.Age,v,I x.Faults]
def Q0a.upd_7k(x:Q0a)(k:Nat)(v:CV): CV:=.agg [I x.Kind,I x.Owner,I x.X,I x.Y,I x.VX,I x.VY,I x.Age,.agg ((x.Mem.map I).set k v),I x.Faults]
theorem Q0a.set_7(x:Q0a)(v:CV): x.cv.set [7] v=Q0a.upd_7 x v:=by simp[Q0a.cv,Q0a.upd_7,CV.set,Z1x]
theorem Q0a.set_7k(x:Q0a)(k:Nat)(q:List Nat)(v:CV)(h:k<4): x.cv.set (7::k::q) v=Q0a.upd_7k x k ((I (nth x.Mem k)).set q v):=by
 have e:x.cv.set (7::k::q) v=Q0a.upd_7 x ((CV.agg (x.Mem.map I)).set (k::q) v):=rfl
 rw[e,X1g _ (by rw[x.hMem];exact h)];rfl
def Q0a.put_7k(x:Q0a)(k:Nat)(y:Int): Q0a:={x with Mem:=x.Mem.set k y,hMem:=by rw[List.length_set];exact x.hMem}
theorem Q0a.fold_7k(x:Q0a)(k:Nat)(y:Int): Q0a.upd_7k x k (I y)=(Q0a.put_7k x k y).cv:=by simp only[Q0a.upd_7k,Q0a.put_7k,Q0a.cv,List.map_set]
theorem Q0a.fold_7(x:Q0a)(l:List Int)(h:l.length=4): Q0a.upd_7 x (.agg (l.map I))=({x with Mem:=l,hMem:=h}:Q0a).cv:=rfl
theorem Q0a.fld_7(x:Q0a): qfield C 34 x.cv 7=some (.agg (x.Mem.map I)):=X0d C tt34 (Q0a.shape x) rfl tt32 rfl (K0n (sh:=sh32) (by simp only[CV.shape,Y0i (f:=I) (s:=Shape.s) (fun _=>rfl),x.hMem,sh32]) rfl)
theorem Q0a.rfa_7(x:Q0a)(h:Heap): qfieldAddr C h 34 (.rptr x.cv) 7=some (.rptr (.agg (x.Mem.map I))):=by
 have hs:=Q0a.shape x
 unfold Q0a.cv at hs ⊢
 simp only[qfieldAddr,tt34,ti34,tgt,hs,if_true,List.getElem?_cons_zero,List.getElem?_cons_succ]
theorem Q0a.sub_7k(k:Nat)(q:List Nat)(z:Shape): subEq sh34 (7::k::q) z=(decide (k<4)&&subEq sh3 q z):=X0z 4 k q sh3 z
theorem Q0a.sub_7(z:Shape): subEq sh34 [7] z=subEq sh32 [] z:=rfl
theorem Q0a.at_8(x:Q0a)(q:List Nat): x.cv.at (8::q)=(I x.Faults).at q:=rfl
def Q0a.upd_8(x:Q0a)(v:CV): CV:=.agg [I x.Kind,I x.Owner,I x.X,I x.Y,I x.VX,I x.VY,I x.Age,.agg (x.Mem.map I),v]
theorem Q0a.set_8(x:Q0a)(q:List Nat)(v:CV): x.cv.set (8::q) v=Q0a.upd_8 x ((I x.Faults).set q v):=rfl
theorem Q0a.fold_8(x:Q0a)(y:Int): Q0a.upd_8 x (I y)=({x with Faults:=y}:Q0a).cv:=rfl
theorem Q0a.fld_8(x:Q0a): qfield C 34 x.cv 8=some (I x.Faults):=X0d C tt34 (Q0a.shape x) rfl tt3 rfl rfl
theorem Q0a.rfa_8(x:Q0a)(h:Heap): qfieldAddr C h 34 (.rptr x.cv) 8=some (.rptr (I x.Faults)):=by
 have hs:=Q0a.shape x
 unfold Q0a.cv at hs ⊢
 simp only[qfieldAddr,tt34,ti34,tgt,hs,if_true,List.getElem?_cons_zero,List.getElem?_cons_succ]
theorem Q0a.sub_8(q:List Nat)(z:Shape): subEq sh34 (8::q) z=subEq sh3 q z:=rfl
theorem Q0a.sub_nil: subEq sh34 [] sh34=true:=by simp[subEq,Shape.sub]
theorem Q0a.alloc: allocObj C (.alloc 34)=some (.var sh34 Q0a.zero.cv):=by simp only[allocObj,tt34,ti34,Q0a.zcv]
theorem Q0a.xalloc(p:Hp): xalloc C p 34=.ret (.ptr p.n []) (p.new (.var sh34 Q0a.zero.cv)):=by simp only[Cl.xalloc,tt34,ti34,Q0a.zcv]
theorem Q0a.xbox(p:Hp)(x:Q0a): xbox C p 34 x.cv=.ret (.ptr p.n []) (p.new (.var sh34 x.cv)):=by
 have h:Cl.shOk x.cv ti34.sh=true:=Q0a.shOk x
 simp only[Cl.xbox,tt34,h,cond_true];rfl
theorem Q0a.bld_none:qbuild C 34 []=some (({Kind:=0,Owner:=0,X:=0,Y:=0,VX:=0,VY:=0,Age:=0,Mem:=(List.replicate 4 0),hMem:=List.length_replicate,Faults:=0}:Q0a).cv):=Y0e C tt34 (by simp only[partsOk,setAll,CV.shape,sh34,List.all_cons,List.all_nil,List.getElem?_cons_zero,List.getElem?_cons_succ,Bool.and_true,decide_true]) rfl
theorem Q0a.bld_0(a0:Int): qbuild C 34 [(0,I a0)]=some (({Kind:=a0,Owner:=0,X:=0,Y:=0,VX:=0,VY:=0,Age:=0,Mem:=(List.replicate 4 0),hMem:=List.length_replicate,Faults:=0}:Q0a).cv):=Y0e C tt34 (by simp only[partsOk,setAll,CV.shape,sh34,List.all_cons,List.all_nil,List.getElem?_cons_zero,List.getElem?_cons_succ,Bool.and_true,decide_true]) rfl
theorem Q0a.bld_0_1_2_3(a0:Int)(a1:Int)(a2:Int)(a3:Int): qbuild C 34 [(0,I a0),(1,I a1),(2,I a2),(3,I a3)]=some (({Kind:=a0,Owner:=a1,X:=a2,Y:=a3,VX:=0,VY:=0,Age:=0,Mem:=(List.replicate 4 0),hMem:=List.length_replicate,Faults:=0}:Q0a).cv):=Y0e C tt34 (by simp only[partsOk,setAll,CV.shape,sh34,List.all_cons,List.all_nil,List.getElem?_cons_zero,List.getElem?_cons_succ,Bool.and_true,decide_true]) rfl
theorem Q0a.bld_0_1_2_3_4_5(a0:Int)(a1:Int)(a2:Int)(a3:Int)(a4:Int)(a5:Int): qbuild C 34 [(0,I a0),(1,I a1),(2,I a2),(3,I a3),(4,I a4),(5,I a5)]=some (({Kind:=a0,Owner:=a1,X:=a2,Y:=a3,VX:=a4,VY:=a5,Age:=0,Mem:=(List.replicate 4 0),hMem:=List.length_replicate,Faults:=0}:Q0a).cv):=Y0e C tt34 (by simp only[partsOk,setAll,CV.shape,sh34,List.all_cons,List.all_nil,List.getElem?_cons_zero,List.getElem?_cons_succ,Bool.and_true,decide_true]) rfl
structure K0b where
 Buttons:Int
 X:Int
 Y:Int
def K0b.cv(x:K0b): CV:=.agg [I x.Buttons,I x.X,I x.Y]
@[ext] theorem K0b.ext'{x y:K0b}(h_Buttons:x.Buttons=y.Buttons)(h_X:x.X=y.X)(h_Y:x.Y=y.Y): x=y:=by
 obtain⟨a0,a1,a2⟩:=x
 obtain⟨c0,c1,c2⟩:=y
 simp only at h_Buttons h_X h_Y
 subst h_Buttons h_X h_Y
 rfl
def K0b.zero: K0b:={Buttons:=0,X:=0,Y:=0}
instance:Inhabited K0b:=⟨K0b.zero⟩
theorem K0b.zcv: z36=K0b.zero.cv:=by
 simp only[z36,K0b.zero,K0b.cv,List.map_replicate,Lst.cv,List.map_nil]
theorem K0b.shape(x:K0b): x.cv.shape=sh36:=by simp only[K0b.cv,sh36,CV.shape,CV.shapes,Lst.shape]
theorem K0b.nohas(x:K0b)(j:Nat): ¬x.cv.has j:=by simp[K0b.cv,CV.has,CV.hasL]
instance:DecidableEq K0b:=fun x y=>decidable_of_iff (x.Buttons=y.Buttons/\x.X=y.X/\x.Y=y.Y) ⟨fun h=>K0b.ext' h.1 h.2.1 h.2.2,fun h=>by subst h;simp⟩
theorem K0b.inj{x y:K0b}(h:x.cv=y.cv): x=y:=by
 simp only[K0b.cv,CV.agg.injEq,List.cons.injEq,and_true]at h
 obtain⟨h0,h1,h2⟩:=h
 refine K0b.ext' (I_inj _ _ h0) (I_inj _ _ h1) (I_inj _ _ h2)
theorem K0b.injF(x y:K0b)(h:x.cv=y.cv): x=y:=K0b.inj h
theorem K0b.inj_iff(x y:K0b): x.cv=y.cv ↔ x=y:=⟨K0b.inj,fun h=>by rw[h]⟩
theorem K0b.shOk(x:K0b): Cl.shOk x.cv sh36=true:=K0n (K0b.shape x) rfl
theorem K0b.eq(d:Nat)(x y:K0b): eqCV C (d+2) 36 x.cv y.cv=some (decide (x=y)):=by
 refine(K0x C (d:=d+1) tt36 (K0b.shape x) (K0b.shape y) (X0f (K0g C tt3 (d+0) _ _) (X0f (K0g C tt3 (d+0) _ _) (X0f (K0g C tt3 (d+0) _ _) rfl)))).trans (congrArg some ?_)
 rw[Bool.eq_iff_iff]
 simp only[Bool.and_eq_true,decide_eq_true_eq,and_true]
 exact⟨fun h=>K0b.ext' h.1 h.2.1 h.2.2,fun h=>by subst h;simp⟩
theorem K0b.eql(x y:K0b)(b:Bool): qbin C .eql 36 b x.cv y.cv=some (Bo (decide (x=y))):=by
 have h:=K0b.eq 10 x y
 unfold K0b.cv at h ⊢
 simp only[qbin]
 rw[h];rfl
theorem K0b.neq(x y:K0b)(b:Bool): qbin C .neq 36 b x.cv y.cv=some (Bo (!decide (x=y))):=by
 have h:=K0b.eq 10 x y
 unfold K0b.cv at h ⊢
 simp only[qbin]
 rw[h];rfl
theorem K0b.at_0(x:K0b)(q:List Nat): x.cv.at (0::q)=(I x.Buttons).at q:=rfl
def K0b.upd_0(x:K0b)(v:CV): CV:=.agg [v,I x.X,I x.Y]
theorem K0b.set_0(x:K0b)(q:List Nat)(v:CV): x.cv.set (0::q) v=K0b.upd_0 x ((I x.Buttons).set q v):=rfl
theorem K0b.fold_0(x:K0b)(y:Int): K0b.upd_0 x (I y)=({x with Buttons:=y}:K0b).cv:=rfl
theorem K0b.fld_0(x:K0b): qfield C 36 x.cv 0=some (I x.Buttons):=X0d C tt36 (K0b.shape x) rfl tt3 rfl rfl
theorem K0b.rfa_0(x:K0b)(h:Heap): qfieldAddr C h 36 (.rptr x.cv) 0=some (.rptr (I x.Buttons)):=by
 have hs:=K0b.shape x
 unfold K0b.cv at hs ⊢
 simp only[qfieldAddr,tt36,ti36,tgt,hs,if_true,List.getElem?_cons_zero,List.getElem?_cons_succ]
theorem K0b.sub_0(q:List Nat)(z:Shape): subEq sh36 (0::q) z=subEq sh3 q z:=rfl
theorem K0b.at_1(x:K0b)(q:List Nat): x.cv.at (1::q)=(I x.X).at q:=rfl
def K0b.upd_1(x:K0b)(v:CV): CV:=.agg [I x.Buttons,v,I x.Y]
theorem K0b.set_1(x:K0b)(q:List Nat)(v:CV): x.cv.set (1::q) v=K0b.upd_1 x ((I x.X).set q v):=rfl
theorem K0b.fold_1(x:K0b)(y:Int): K0b.upd_1 x (I y)=({x with X:=y}:K0b).cv:=rfl
theorem K0b.fld_1(x:K0b): qfield C 36 x.cv 1=some (I x.X):=X0d C tt36 (K0b.shape x) rfl tt3 rfl rfl
theorem K0b.rfa_1(x:K0b)(h:Heap): qfieldAddr C h 36 (.rptr x.cv) 1=some (.rptr (I x.X)):=by
 have hs:=K0b.shape x
 unfold K0b.cv at hs ⊢
 simp only[qfieldAddr,tt36,ti36,tgt,hs,if_true,List.getElem?_cons_zero,List.getElem?_cons_succ]
theorem K0b.sub_1(q:List Nat)(z:Shape): subEq sh36 (1::q) z=subEq sh3 q z:=rfl
theorem K0b.at_2(x:K0b)(q:List Nat): x.cv.at (2::q)=(I x.Y).at q:=rfl
def K0b.upd_2(x:K0b)(v:CV): CV:=.agg [I x.Buttons,I x.X,v]
theorem K0b.set_2(x:K0b)(q:List Nat)(v:CV): x.cv.set (2::q) v=K0b.upd_2 x ((I x.Y).set q v):=rfl
theorem K0b.fold_2(x:K0b)(y:Int): K0b.upd_2 x (I y)=({x with Y:=y}:K0b).cv:=rfl
theorem K0b.fld_2(x:K0b): qfield C 36 x.cv 2=some (I x.Y):=X0d C tt36 (K0b.shape x) rfl tt3 rfl rfl
theorem K0b.rfa_2(x:K0b)(h:Heap): qfieldAddr C h 36 (.rptr x.cv) 2=some (.rptr (I x.Y)):=by
 have hs:=K0b.shape x
 unfold K0b.cv at hs ⊢
 simp only[qfieldAddr,tt36,ti36,tgt,hs,if_true,List.getElem?_cons_zero,List.getElem?_cons_succ]
theorem K0b.sub_2(q:List Nat)(z:Shape): subEq sh36 (2::q) z=subEq sh3 q z:=rfl
theorem K0b.sub_nil: subEq sh36 [] sh36=true:=by simp[subEq,Shape.sub]
theorem K0b.alloc: allocObj C (.alloc 36)=some (.var sh36 K0b.zero.cv):=by simp only[allocObj,tt36,ti36,K0b.zcv]
theorem K0b.xalloc(p:Hp): xalloc C p 36=.ret (.ptr p.n []) (p.new (.var sh36 K0b.zero.cv)):=by simp only[Cl.xalloc,tt36,ti36,K0b.zcv]
theorem K0b.xbox(p:Hp)(x:K0b): xbox C p 36 x.cv=.ret (.ptr p.n []) (p.new (.var sh36 x.cv)):=by
 have h:Cl.shOk x.cv ti36.sh=true:=K0b.shOk x
 simp only[Cl.xbox,tt36,h,cond_true];rfl
theorem K0b.bld_none:qbuild C 36 []=some (({Buttons:=0,X:=0,Y:=0}:K0b).cv):=Y0e C tt36 (by simp only[partsOk,setAll,CV.shape,sh36,List.all_cons,List.all_nil,List.getElem?_cons_zero,List.getElem?_cons_succ,Bool.and_true,decide_true]) rfl
theorem K0b.bld_0_1(a0:Int)(a1:Int): qbuild C 36 [(0,I a0),(1,I a1)]=some (({Buttons:=a0,X:=a1,Y:=0}:K0b).cv):=Y0e C tt36 (by simp only[partsOk,setAll,CV.shape,sh36,List.all_cons,List.all_nil,List.getElem?_cons_zero,List.getElem?_cons_succ,Bool.and_true,decide_true]) rfl
theorem K0b.bld_0_1_2(a0:Int)(a1:Int)(a2:Int): qbuild C 36 [(0,I a0),(1,I a1),(2,I a2)]=some (({Buttons:=a0,X:=a1,Y:=a2}:K0b).cv):=Y0e C tt36 (by simp only[partsOk,setAll,CV.shape,sh36,List.all_cons,List.all_nil,List.getElem?_cons_zero,List.getElem?_cons_succ,Bool.and_true,decide_true]) rfl
theorem K0b.bld_1(a1:Int): qbuild C 36 [(1,I a1)]=some (({Buttons:=0,X:=a1,Y:=0}:K0b).cv):=Y0e C tt36 (by simp only[partsOk,setAll,CV.shape,sh36,List.all_cons,List.all_nil,List.getElem?_cons_zero,List.getElem?_cons_succ,Bool.and_true,decide_true]) rfl
structure K0c where
 Body:Q0a
 In:K0b
 Dice:Int
 Room:Int
 Shots:Lst Q0a
def K0c.cv(x:K0c): CV:=.agg [Q0a.cv x.Body,K0b.cv x.In,U x.Dice,I x.Room,(Lst.cv Q0a.cv) x.Shots]
@[ext] theorem K0c.ext'{x y:K0c}(h_Body:x.Body=y.Body)(h_In:x.In=y.In)(h_Dice:x.Dice=y.Dice)(h_Room:x.Room=y.Room)(h_Shots:x.Shots=y.Shots): x=y:=by
 obtain⟨a0,a1,a2,a3,a4⟩:=x
 obtain⟨c0,c1,c2,c3,c4⟩:=y
 simp only at h_Body h_In h_Dice h_Room h_Shots
 subst h_Body h_In h_Dice h_Room h_Shots
 rfl
def K0c.zero: K0c:={Body:=Q0a.zero,In:=K0b.zero,Dice:=0,Room:=0,Shots:=⟨.nil,[],fun _=>rfl⟩}
instance:Inhabited K0c:=⟨K0c.zero⟩
theorem K0c.zcv: z39=K0c.zero.cv:=by
 simp only[z39,K0c.zero,K0c.cv,Q0a.zcv,K0b.zcv,List.map_replicate,Lst.cv,List.map_nil]
theorem K0c.shape(x:K0c): x.cv.shape=sh39:=by simp only[K0c.cv,sh39,CV.shape,CV.shapes,Q0a.shape,K0b.shape,Lst.shape]
theorem K0c.has(x:K0c)(j:Nat): x.cv.has j ↔ x.Shots.tl=.own j:=by simp[K0c.cv,CV.has,CV.hasL,Q0a.nohas,K0b.nohas,Lst.has _ Q0a.nohas]
theorem K0c.inj{x y:K0c}(h:x.cv=y.cv): x=y:=by
 simp only[K0c.cv,CV.agg.injEq,List.cons.injEq,and_true]at h
 obtain⟨h0,h1,h2,h3,h4⟩:=h
 refine K0c.ext' (Q0a.injF _ _ h0) (K0b.injF _ _ h1) (U_inj _ _ h2) (I_inj _ _ h3) ((Lst.injF Q0a.injF) _ _ h4)
theorem K0c.injF(x y:K0c)(h:x.cv=y.cv): x=y:=K0c.inj h
theorem K0c.inj_iff(x y:K0c): x.cv=y.cv ↔ x=y:=⟨K0c.inj,fun h=>by rw[h]⟩
theorem K0c.shOk(x:K0c): Cl.shOk x.cv sh39=true:=K0n (K0c.shape x) rfl
theorem K0c.at_0(x:K0c)(q:List Nat): x.cv.at (0::q)=(Q0a.cv x.Body).at q:=rfl
def K0c.upd_0(x:K0c)(v:CV): CV:=.agg [v,K0b.cv x.In,U x.Dice,I x.Room,(Lst.cv Q0a.cv) x.Shots]
theorem K0c.set_0(x:K0c)(q:List Nat)(v:CV): x.cv.set (0::q) v=K0c.upd_0 x ((Q0a.cv x.Body).set q v):=rfl
theorem K0c.fold_0(x:K0c)(y:Q0a): K0c.upd_0 x (Q0a.cv y)=({x with Body:=y}:K0c).cv:=rfl
theorem K0c.fld_0(x:K0c): qfield C 39 x.cv 0=some (Q0a.cv x.Body):=X0d C tt39 (K0c.shape x) rfl tt34 rfl (Q0a.shOk _)
theorem K0c.sub_0(q:List Nat)(z:Shape): subEq sh39 (0::q) z=subEq sh34 q z:=rfl
theorem K0c.at_1(x:K0c)(q:List Nat): x.cv.at (1::q)=(K0b.cv x.In).at q:=rfl
def K0c.upd_1(x:K0c)(v:CV): CV:=.agg [Q0a.cv x.Body,v,U x.Dice,I x.Room,(Lst.cv Q0a.cv) x.Shots]
theorem K0c.set_1(x:K0c)(q:List Nat)(v:CV): x.cv.set (1::q) v=K0c.upd_1 x ((K0b.cv x.In).set q v):=rfl
theorem K0c.fold_1(x:K0c)(y:K0b): K0c.upd_1 x (K0b.cv y)=({x with In:=y}:K0c).cv:=rfl
theorem K0c.fld_1(x:K0c): qfield C 39 x.cv 1=some (K0b.cv x.In):=X0d C tt39 (K0c.shape x) rfl tt36 rfl (K0b.shOk _)
theorem K0c.sub_1(q:List Nat)(z:Shape): subEq sh39 (1::q) z=subEq sh36 q z:=rfl
theorem K0c.at_2(x:K0c)(q:List Nat): x.cv.at (2::q)=(U x.Dice).at q:=rfl
def K0c.upd_2(x:K0c)(v:CV): CV:=.agg [Q0a.cv x.Body,K0b.cv x.In,v,I x.Room,(Lst.cv Q0a.cv) x.Shots]
theorem K0c.set_2(x:K0c)(q:List Nat)(v:CV): x.cv.set (2::q) v=K0c.upd_2 x ((U x.Dice).set q v):=rfl
theorem K0c.fold_2(x:K0c)(y:Int): K0c.upd_2 x (U y)=({x with Dice:=y}:K0c).cv:=rfl
theorem K0c.fld_2(x:K0c): qfield C 39 x.cv 2=some (U x.Dice):=X0d C tt39 (K0c.shape x) rfl tt25 rfl rfl
theorem K0c.sub_2(q:List Nat)(z:Shape): subEq sh39 (2::q) z=subEq sh25 q z:=rfl
theorem K0c.at_3(x:K0c)(q:List Nat): x.cv.at (3::q)=(I x.Room).at q:=rfl
def K0c.upd_3(x:K0c)(v:CV): CV:=.agg [Q0a.cv x.Body,K0b.cv x.In,U x.Dice,v,(Lst.cv Q0a.cv) x.Shots]
theorem K0c.set_3(x:K0c)(q:List Nat)(v:CV): x.cv.set (3::q) v=K0c.upd_3 x ((I x.Room).set q v):=rfl
theorem K0c.fold_3(x:K0c)(y:Int): K0c.upd_3 x (I y)=({x with Room:=y}:K0c).cv:=rfl
theorem K0c.fld_3(x:K0c): qfield C 39 x.cv 3=some (I x.Room):=X0d C tt39 (K0c.shape x) rfl tt3 rfl rfl
theorem K0c.sub_3(q:List Nat)(z:Shape): subEq sh39 (3::q) z=subEq sh3 q z:=rfl
theorem K0c.at_4(x:K0c)(q:List Nat): x.cv.at (4::q)=((Lst.cv Q0a.cv) x.Shots).at q:=rfl
def K0c.upd_4(x:K0c)(v:CV): CV:=.agg [Q0a.cv x.Body,K0b.cv x.In,U x.Dice,I x.Room,v]
theorem K0c.set_4(x:K0c)(q:List Nat)(v:CV): x.cv.set (4::q) v=K0c.upd_4 x (((Lst.cv Q0a.cv) x.Shots).set q v):=rfl
theorem K0c.fold_4(x:K0c)(y:Lst Q0a): K0c.upd_4 x ((Lst.cv Q0a.cv) y)=({x with Shots:=y}:K0c).cv:=rfl
theorem K0c.fld_4(x:K0c): qfield C 39 x.cv 4=some ((Lst.cv Q0a.cv) x.Shots):=X0d C tt39 (K0c.shape x) rfl tt37 rfl rfl
theorem K0c.sub_4(q:List Nat)(z:Shape): subEq sh39 (4::q) z=subEq sh37 q z:=rfl
theorem K0c.sub_nil: subEq sh39 [] sh39=true:=by simp[subEq,Shape.sub]
theorem K0c.alloc: allocObj C (.alloc 39)=some (.var sh39 K0c.zero.cv):=by simp only[allocObj,tt39,ti39,K0c.zcv]
theorem K0c.xalloc(p:Hp): xalloc C p 39=.ret (.ptr p.n []) (p.new (.var sh39 K0c.zero.cv)):=by simp only[Cl.xalloc,tt39,ti39,K0c.zcv]
theorem K0c.xbox(p:Hp)(x:K0c): xbox C p 39 x.cv=.ret (.ptr p.n []) (p.new (.var sh39 x.cv)):=by
 have h:Cl.shOk x.cv ti39.sh=true:=K0c.shOk x
 simp only[Cl.xbox,tt39,h,cond_true];rfl
theorem K0c.bld_0_1_2_3(a0:Q0a)(a1:K0b)(a2:Int)(a3:Int): qbuild C 39 [(0,Q0a.cv a0),(1,K0b.cv a1),(2,U a2),(3,I a3)]=some (({Body:=a0,In:=a1,Dice:=a2,Room:=a3,Shots:=⟨.nil,[],fun _=>rfl⟩}:K0c).cv):=Y0e C tt39 (by simp only[partsOk,setAll,CV.shape,Q0a.shape,K0b.shape,sh39,List.all_cons,List.all_nil,List.getElem?_cons_zero,List.getElem?_cons_succ,Bool.and_true,decide_true]) rfl
theorem K0c.bld_0_1_2_3_4(a0:Q0a)(a1:K0b)(a2:Int)(a3:Int)(a4:Lst Q0a): qbuild C 39 [(0,Q0a.cv a0),(1,K0b.cv a1),(2,U a2),(3,I a3),(4,(Lst.cv Q0a.cv) a4)]=some (({Body:=a0,In:=a1,Dice:=a2,Room:=a3,Shots:=a4}:K0c).cv):=Y0e C tt39 (by simp only[partsOk,setAll,CV.shape,Q0a.shape,K0b.shape,Lst.shape,sh39,List.all_cons,List.all_nil,List.getElem?_cons_zero,List.getElem?_cons_succ,Bool.and_true,decide_true]) rfl
structure X0c where
 Code:Int
 At:Int
def X0c.cv(x:X0c): CV:=.agg [I x.Code,I x.At]
@[ext] theorem X0c.ext'{x y:X0c}(h_Code:x.Code=y.Code)(h_At:x.At=y.At): x=y:=by
 obtain⟨a0,a1⟩:=x
 obtain⟨c0,c1⟩:=y
 simp only at h_Code h_At
 subst h_Code h_At
 rfl
def X0c.zero: X0c:={Code:=0,At:=0}
instance:Inhabited X0c:=⟨X0c.zero⟩
theorem X0c.zcv: z44=X0c.zero.cv:=by
 simp only[z44,X0c.zero,X0c.cv,List.map_replicate,Lst.cv,List.map_nil]
theorem X0c.shape(x:X0c): x.cv.shape=sh44:=by simp only[X0c.cv,sh44,CV.shape,CV.shapes,Lst.shape]
theorem X0c.nohas(x:X0c)(j:Nat): ¬x.cv.has j:=by simp[X0c.cv,CV.has,CV.hasL]
instance:DecidableEq X0c:=fun x y=>decidable_of_iff (x.Code=y.Code/\x.At=y.At) ⟨fun h=>X0c.ext' h.1 h.2,fun h=>by subst h;simp⟩
theorem X0c.inj{x y:X0c}(h:x.cv=y.cv): x=y:=by
 simp only[X0c.cv,CV.agg.injEq,List.cons.injEq,and_true]at h
 obtain⟨h0,h1⟩:=h
 refine X0c.ext' (I_inj _ _ h0) (I_inj _ _ h1)
theorem X0c.injF(x y:X0c)(h:x.cv=y.cv): x=y:=X0c.inj h
theorem X0c.inj_iff(x y:X0c): x.cv=y.cv ↔ x=y:=⟨X0c.inj,fun h=>by rw[h]⟩
theorem X0c.shOk(x:X0c): Cl.shOk x.cv sh44=true:=K0n (X0c.shape x) rfl
theorem X0c.eq(d:Nat)(x y:X0c): eqCV C (d+2) 44 x.cv y.cv=some (decide (x=y)):=by
 refine(K0x C (d:=d+1) tt44 (X0c.shape x) (X0c.shape y) (X0f (K0g C tt3 (d+0) _ _) (X0f (K0g C tt3 (d+0) _ _) rfl))).trans (congrArg some ?_)
 rw[Bool.eq_iff_iff]
 simp only[Bool.and_eq_true,decide_eq_true_eq,and_true]
 exact⟨fun h=>X0c.ext' h.1 h.2,fun h=>by subst h;simp⟩
theorem X0c.eql(x y:X0c)(b:Bool): qbin C .eql 44 b x.cv y.cv=some (Bo (decide (x=y))):=by
 have h:=X0c.eq 10 x y
 unfold X0c.cv at h ⊢
 simp only[qbin]
 rw[h];rfl
theorem X0c.neq(x y:X0c)(b:Bool): qbin C .neq 44 b x.cv y.cv=some (Bo (!decide (x=y))):=by
 have h:=X0c.eq 10 x y
 unfold X0c.cv at h ⊢
 simp only[qbin]
 rw[h];rfl
theorem X0c.at_0(x:X0c)(q:List Nat): x.cv.at (0::q)=(I x.Code).at q:=rfl
def X0c.upd_0(x:X0c)(v:CV): CV:=.agg [v,I x.At]
theorem X0c.set_0(x:X0c)(q:List Nat)(v:CV): x.cv.set (0::q) v=X0c.upd_0 x ((I x.Code).set q v):=rfl
theorem X0c.fold_0(x:X0c)(y:Int): X0c.upd_0 x (I y)=({x with Code:=y}:X0c).cv:=rfl
theorem X0c.fld_0(x:X0c): qfield C 44 x.cv 0=some (I x.Code):=X0d C tt44 (X0c.shape x) rfl tt3 rfl rfl
theorem X0c.sub_0(q:List Nat)(z:Shape): subEq sh44 (0::q) z=subEq sh3 q z:=rfl
theorem X0c.at_1(x:X0c)(q:List Nat): x.cv.at (1::q)=(I x.At).at q:=rfl
def X0c.upd_1(x:X0c)(v:CV): CV:=.agg [I x.Code,v]
theorem X0c.set_1(x:X0c)(q:List Nat)(v:CV): x.cv.set (1::q) v=X0c.upd_1 x ((I x.At).set q v):=rfl
theorem X0c.fold_1(x:X0c)(y:Int): X0c.upd_1 x (I y)=({x with At:=y}:X0c).cv:=rfl
theorem X0c.fld_1(x:X0c): qfield C 44 x.cv 1=some (I x.At):=X0d C tt44 (X0c.shape x) rfl tt3 rfl rfl
theorem X0c.sub_1(q:List Nat)(z:Shape): subEq sh44 (1::q) z=subEq sh3 q z:=rfl
theorem X0c.sub_nil: subEq sh44 [] sh44=true:=by simp[subEq,Shape.sub]
theorem X0c.alloc: allocObj C (.alloc 44)=some (.var sh44 X0c.zero.cv):=by simp only[allocObj,tt44,ti44,X0c.zcv]
theorem X0c.xalloc(p:Hp): xalloc C p 44=.ret (.ptr p.n []) (p.new (.var sh44 X0c.zero.cv)):=by simp only[Cl.xalloc,tt44,ti44,X0c.zcv]
theorem X0c.xbox(p:Hp)(x:X0c): xbox C p 44 x.cv=.ret (.ptr p.n []) (p.new (.var sh44 x.cv)):=by
 have h:Cl.shOk x.cv ti44.sh=true:=X0c.shOk x
 simp only[Cl.xbox,tt44,h,cond_true];rfl
theorem X0c.bld_none:qbuild C 44 []=some (({Code:=0,At:=0}:X0c).cv):=Y0e C tt44 (by simp only[partsOk,setAll,CV.shape,sh44,List.all_cons,List.all_nil,List.getElem?_cons_zero,List.getElem?_cons_succ,Bool.and_true,decide_true]) rfl
theorem X0c.bld_0(a0:Int): qbuild C 44 [(0,I a0)]=some (({Code:=a0,At:=0}:X0c).cv):=Y0e C tt44 (by simp only[partsOk,setAll,CV.shape,sh44,List.all_cons,List.all_nil,List.getElem?_cons_zero,List.getElem?_cons_succ,Bool.and_true,decide_true]) rfl
theorem X0c.bld_0_1(a0:Int)(a1:Int): qbuild C 44 [(0,I a0),(1,I a1)]=some (({Code:=a0,At:=a1}:X0c).cv):=Y0e C tt44 (by simp only[partsOk,setAll,CV.shape,sh44,List.all_cons,List.all_nil,List.getElem?_cons_zero,List.getElem?_cons_succ,Bool.and_true,decide_true]) rfl
structure V0c where
 Body:Q0a
 In:K0b
 Dice:Int
 Room:Int
 Shots:Lst Q0a
def V0c.cv(x:V0c): CV:=.agg [Q0a.cv x.Body,K0b.cv x.In,U x.Dice,I x.Room,(Lst.cv Q0a.cv) x.Shots]
@[ext] theorem V0c.ext'{x y:V0c}(h_Body:x.Body=y.Body)(h_In:x.In=y.In)(h_Dice:x.Dice=y.Dice)(h_Room:x.Room=y.Room)(h_Shots:x.Shots=y.Shots): x=y:=by
 obtain⟨a0,a1,a2,a3,a4⟩:=x
 obtain⟨c0,c1,c2,c3,c4⟩:=y
 simp only at h_Body h_In h_Dice h_Room h_Shots
 subst h_Body h_In h_Dice h_Room h_Shots
 rfl
def V0c.zero: V0c:={Body:=Q0a.zero,In:=K0b.zero,Dice:=0,Room:=0,Shots:=⟨.nil,[],fun _=>rfl⟩}
instance:Inhabited V0c:=⟨V0c.zero⟩
theorem V0c.zcv: z51=V0c.zero.cv:=by
 simp only[z51,V0c.zero,V0c.cv,Q0a.zcv,K0b.zcv,List.map_replicate,Lst.cv,List.map_nil]
theorem V0c.shape(x:V0c): x.cv.shape=sh51:=by simp only[V0c.cv,sh51,CV.shape,CV.shapes,Q0a.shape,K0b.shape,Lst.shape]
theorem V0c.has(x:V0c)(j:Nat): x.cv.has j ↔ x.Shots.tl=.own j:=by simp[V0c.cv,CV.has,CV.hasL,Q0a.nohas,K0b.nohas,Lst.has _ Q0a.nohas]
theorem V0c.inj{x y:V0c}(h:x.cv=y.cv): x=y:=by
 simp only[V0c.cv,CV.agg.injEq,List.cons.injEq,and_true]at h
 obtain⟨h0,h1,h2,h3,h4⟩:=h
 refine V0c.ext' (Q0a.injF _ _ h0) (K0b.injF _ _ h1) (U_inj _ _ h2) (I_inj _ _ h3) ((Lst.injF Q0a.injF) _ _ h4)
theorem V0c.injF(x y:V0c)(h:x.cv=y.cv): x=y:=V0c.inj h
theorem V0c.inj_iff(x y:V0c): x.cv=y.cv ↔ x=y:=⟨V0c.inj,fun h=>by rw[h]⟩
theorem V0c.shOk(x:V0c): Cl.shOk x.cv sh51=true:=K0n (V0c.shape x) rfl
theorem V0c.at_0(x:V0c)(q:List Nat): x.cv.at (0::q)=(Q0a.cv x.Body).at q:=rfl
def V0c.upd_0(x:V0c)(v:CV): CV:=.agg [v,K0b.cv x.In,U x.Dice,I x.Room,(Lst.cv Q0a.cv) x.Shots]
theorem V0c.set_0(x:V0c)(q:List Nat)(v:CV): x.cv.set (0::q) v=V0c.upd_0 x ((Q0a.cv x.Body).set q v):=rfl
theorem V0c.fold_0(x:V0c)(y:Q0a): V0c.upd_0 x (Q0a.cv y)=({x with Body:=y}:V0c).cv:=rfl
theorem V0c.fld_0(x:V0c): qfield C 51 x.cv 0=some (Q0a.cv x.Body):=X0d C tt51 (V0c.shape x) rfl tt34 rfl (Q0a.shOk _)
theorem V0c.sub_0(q:List Nat)(z:Shape): subEq sh51 (0::q) z=subEq sh34 q z:=rfl
theorem V0c.at_1(x:V0c)(q:List Nat): x.cv.at (1::q)=(K0b.cv x.In).at q:=rfl
def V0c.upd_1(x:V0c)(v:CV): CV:=.agg [Q0a.cv x.Body,v,U x.Dice,I x.Room,(Lst.cv Q0a.cv) x.Shots]
theorem V0c.set_1(x:V0c)(q:List Nat)(v:CV): x.cv.set (1::q) v=V0c.upd_1 x ((K0b.cv x.In).set q v):=rfl
theorem V0c.fold_1(x:V0c)(y:K0b): V0c.upd_1 x (K0b.cv y)=({x with In:=y}:V0c).cv:=rfl
theorem V0c.fld_1(x:V0c): qfield C 51 x.cv 1=some (K0b.cv x.In):=X0d C tt51 (V0c.shape x) rfl tt36 rfl (K0b.shOk _)
theorem V0c.sub_1(q:List Nat)(z:Shape): subEq sh51 (1::q) z=subEq sh36 q z:=rfl
theorem V0c.at_2(x:V0c)(q:List Nat): x.cv.at (2::q)=(U x.Dice).at q:=rfl
def V0c.upd_2(x:V0c)(v:CV): CV:=.agg [Q0a.cv x.Body,K0b.cv x.In,v,I x.Room,(Lst.cv Q0a.cv) x.Shots]
theorem V0c.set_2(x:V0c)(q:List Nat)(v:CV): x.cv.set (2::q) v=V0c.upd_2 x ((U x.Dice).set q v):=rfl
theorem V0c.fold_2(x:V0c)(y:Int): V0c.upd_2 x (U y)=({x with Dice:=y}:V0c).cv:=rfl
theorem V0c.fld_2(x:V0c): qfield C 51 x.cv 2=some (U x.Dice):=X0d C tt51 (V0c.shape x) rfl tt25 rfl rfl
theorem V0c.sub_2(q:List Nat)(z:Shape): subEq sh51 (2::q) z=subEq sh25 q z:=rfl
theorem V0c.at_3(x:V0c)(q:List Nat): x.cv.at (3::q)=(I x.Room).at q:=rfl
def V0c.upd_3(x:V0c)(v:CV): CV:=.agg [Q0a.cv x.Body,K0b.cv x.In,U x.Dice,v,(Lst.cv Q0a.cv) x.Shots]
theorem V0c.set_3(x:V0c)(q:List Nat)(v:CV): x.cv.set (3::q) v=V0c.upd_3 x ((I x.Room).set q v):=rfl
theorem V0c.fold_3(x:V0c)(y:Int): V0c.upd_3 x (I y)=({x with Room:=y}:V0c).cv:=rfl
theorem V0c.fld_3(x:V0c): qfield C 51 x.cv 3=some (I x.Room):=X0d C tt51 (V0c.shape x) rfl tt3 rfl rfl
theorem V0c.sub_3(q:List Nat)(z:Shape): subEq sh51 (3::q) z=subEq sh3 q z:=rfl
theorem V0c.at_4(x:V0c)(q:List Nat): x.cv.at (4::q)=((Lst.cv Q0a.cv) x.Shots).at q:=rfl
def V0c.upd_4(x:V0c)(v:CV): CV:=.agg [Q0a.cv x.Body,K0b.cv x.In,U x.Dice,I x.Room,v]
theorem V0c.set_4(x:V0c)(q:List Nat)(v:CV): x.cv.set (4::q) v=V0c.upd_4 x (((Lst.cv Q0a.cv) x.Shots).set q v):=rfl
theorem V0c.fold_4(x:V0c)(y:Lst Q0a): V0c.upd_4 x ((Lst.cv Q0a.cv) y)=({x with Shots:=y}:V0c).cv:=rfl
theorem V0c.fld_4(x:V0c): qfield C 51 x.cv 4=some ((Lst.cv Q0a.cv) x.Shots):=X0d C tt51 (V0c.shape x) rfl tt37 rfl rfl
theorem V0c.sub_4(q:List Nat)(z:Shape): subEq sh51 (4::q) z=subEq sh37 q z:=rfl
theorem V0c.sub_nil: subEq sh51 [] sh51=true:=by simp[subEq,Shape.sub]
theorem V0c.alloc: allocObj C (.alloc 51)=some (.var sh51 V0c.zero.cv):=by simp only[allocObj,tt51,ti51,V0c.zcv]
theorem V0c.xalloc(p:Hp): xalloc C p 51=.ret (.ptr p.n []) (p.new (.var sh51 V0c.zero.cv)):=by simp only[Cl.xalloc,tt51,ti51,V0c.zcv]
theorem V0c.xbox(p:Hp)(x:V0c): xbox C p 51 x.cv=.ret (.ptr p.n []) (p.new (.var sh51 x.cv)):=by
 have h:Cl.shOk x.cv ti51.sh=true:=V0c.shOk x
 simp only[Cl.xbox,tt51,h,cond_true];rfl
theorem V0c.bld_0_1_2_3(a0:Q0a)(a1:K0b)(a2:Int)(a3:Int): qbuild C 51 [(0,Q0a.cv a0),(1,K0b.cv a1),(2,U a2),(3,I a3)]=some (({Body:=a0,In:=a1,Dice:=a2,Room:=a3,Shots:=⟨.nil,[],fun _=>rfl⟩}:V0c).cv):=Y0e C tt51 (by simp only[partsOk,setAll,CV.shape,Q0a.shape,K0b.shape,sh51,List.all_cons,List.all_nil,List.getElem?_cons_zero,List.getElem?_cons_succ,Bool.and_true,decide_true]) rfl
structure V0a where
 Players:Int
 Period:Int
 Grace:Int
 Start:Int
 Frames:Int
 Seed:Int
 Rate:Int
 Rules:Lst V0b
def V0a.cv(x:V0a): CV:=.agg [I x.Players,I x.Period,I x.Grace,I x.Start,I x.Frames,I x.Seed,I x.Rate,(Lst.cv V0b.cv) x.Rules]
@[ext] theorem V0a.ext'{x y:V0a}(h_Players:x.Players=y.Players)(h_Period:x.Period=y.Period)(h_Grace:x.Grace=y.Grace)(h_Start:x.Start=y.Start)(h_Frames:x.Frames=y.Frames)(h_Seed:x.Seed=y.Seed)(h_Rate:x.Rate=y.Rate)(h_Rules:x.Rules=y.Rules): x=y:=by
 obtain⟨a0,a1,a2,a3,a4,a5,a6,a7⟩:=x
 obtain⟨c0,c1,c2,c3,c4,c5,c6,c7⟩:=y
 simp only at h_Players h_Period h_Grace h_Start h_Frames h_Seed h_Rate h_Rules
 subst h_Players h_Period h_Grace h_Start h_Frames h_Seed h_Rate h_Rules
 rfl
def V0a.zero: V0a:={Players:=0,Period:=0,Grace:=0,Start:=0,Frames:=0,Seed:=0,Rate:=0,Rules:=⟨.nil,[],fun _=>rfl⟩}
instance:Inhabited V0a:=⟨V0a.zero⟩
theorem V0a.zcv: z57=V0a.zero.cv:=by
 simp only[z57,V0a.zero,V0a.cv,List.map_replicate,Lst.cv,List.map_nil]
theorem V0a.shape(x:V0a): x.cv.shape=sh57:=by simp only[V0a.cv,sh57,CV.shape,CV.shapes,Lst.shape]
theorem V0a.has(x:V0a)(j:Nat): x.cv.has j ↔ x.Rules.tl=.own j:=by simp[V0a.cv,CV.has,CV.hasL,Lst.has _ V0b.nohas]
theorem V0a.inj{x y:V0a}(h:x.cv=y.cv): x=y:=by
 simp only[V0a.cv,CV.agg.injEq,List.cons.injEq,and_true]at h
 obtain⟨h0,h1,h2,h3,h4,h5,h6,h7⟩:=h
 refine V0a.ext' (I_inj _ _ h0) (I_inj _ _ h1) (I_inj _ _ h2) (I_inj _ _ h3) (I_inj _ _ h4) (I_inj _ _ h5) (I_inj _ _ h6) ((Lst.injF V0b.injF) _ _ h7)
theorem V0a.injF(x y:V0a)(h:x.cv=y.cv): x=y:=V0a.inj h
theorem V0a.inj_iff(x y:V0a): x.cv=y.cv ↔ x=y:=⟨V0a.inj,fun h=>by rw[h]⟩
theorem V0a.shOk(x:V0a): Cl.shOk x.cv sh57=true:=K0n (V0a.shape x) rfl
theorem V0a.at_0(x:V0a)(q:List Nat): x.cv.at (0::q)=(I x.Players).at q:=rfl
def V0a.upd_0(x:V0a)(v:CV): CV:=.agg [v,I x.Period,I x.Grace,I x.Start,I x.Frames,I x.Seed,I x.Rate,(Lst.cv V0b.cv) x.Rules]
theorem V0a.set_0(x:V0a)(q:List Nat)(v:CV): x.cv.set (0::q) v=V0a.upd_0 x ((I x.Players).set q v):=rfl
theorem V0a.fold_0(x:V0a)(y:Int): V0a.upd_0 x (I y)=({x with Players:=y}:V0a).cv:=rfl
theorem V0a.fld_0(x:V0a): qfield C 57 x.cv 0=some (I x.Players):=X0d C tt57 (V0a.shape x) rfl tt3 rfl rfl
theorem V0a.sub_0(q:List Nat)(z:Shape): subEq sh57 (0::q) z=subEq sh3 q z:=rfl
theorem V0a.at_1(x:V0a)(q:List Nat): x.cv.at (1::q)=(I x.Period).at q:=rfl
def V0a.upd_1(x:V0a)(v:CV): CV:=.agg [I x.Players,v,I x.Grace,I x.Start,I x.Frames,I x.Seed,I x.Rate,(Lst.cv V0b.cv) x.Rules]
theorem V0a.set_1(x:V0a)(q:List Nat)(v:CV): x.cv.set (1::q) v=V0a.upd_1 x ((I x.Period).set q v):=rfl
theorem V0a.fold_1(x:V0a)(y:Int): V0a.upd_1 x (I y)=({x with Period:=y}:V0a).cv:=rfl
theorem V0a.fld_1(x:V0a): qfield C 57 x.cv 1=some (I x.Period):=X0d C tt57 (V0a.shape x) rfl tt3 rfl rfl
theorem V0a.sub_1(q:List Nat)(z:Shape): subEq sh57 (1::q) z=subEq sh3 q z:=rfl
theorem V0a.at_2(x:V0a)(q:List Nat): x.cv.at (2::q)=(I x.Grace).at q:=rfl
def V0a.upd_2(x:V0a)(v:CV): CV:=.agg [I x.Players,I x.Period,v,I x.Start,I x.Frames,I x.Seed,I x.Rate,(Lst.cv V0b.cv) x.Rules]
theorem V0a.set_2(x:V0a)(q:List Nat)(v:CV): x.cv.set (2::q) v=V0a.upd_2 x ((I x.Grace).set q v):=rfl
theorem V0a.fold_2(x:V0a)(y:Int): V0a.upd_2 x (I y)=({x with Grace:=y}:V0a).cv:=rfl
theorem V0a.fld_2(x:V0a): qfield C 57 x.cv 2=some (I x.Grace):=X0d C tt57 (V0a.shape x) rfl tt3 rfl rfl
theorem V0a.sub_2(q:List Nat)(z:Shape): subEq sh57 (2::q) z=subEq sh3 q z:=rfl
theorem V0a.at_3(x:V0a)(q:List Nat): x.cv.at (3::q)=(I x.Start).at q:=rfl
def V0a.upd_3(x:V0a)(v:CV): CV:=.agg [I x.Players,I x.Period,I x.Grace,v,I x.Frames,I x.Seed,I x.Rate,(Lst.cv V0b.cv) x.Rules]
theorem V0a.set_3(x:V0a)(q:List Nat)(v:CV): x.cv.set (3::q) v=V0a.upd_3 x ((I x.Start).set q v):=rfl
theorem V0a.fold_3(x:V0a)(y:Int): V0a.upd_3 x (I y)=({x with Start:=y}:V0a).cv:=rfl
theorem V0a.fld_3(x:V0a): qfield C 57 x.cv 3=some (I x.Start):=X0d C tt57 (V0a.shape x) rfl tt3 rfl rfl
theorem V0a.sub_3(q:List Nat)(z:Shape): subEq sh57 (3::q) z=subEq sh3 q z:=rfl
theorem V0a.at_4(x:V0a)(q:List Nat): x.cv.at (4::q)=(I x.Frames).at q:=rfl
def V0a.upd_4(x:V0a)(v:CV): CV:=.agg [I x.Players,I x.Period,I x.Grace,I x.Start,v,I x.Seed,I x.Rate,(Lst.cv V0b.cv) x.Rules]
theorem V0a.set_4(x:V0a)(q:List Nat)(v:CV): x.cv.set (4::q) v=V0a.upd_4 x ((I x.Frames).set q v):=rfl
theorem V0a.fold_4(x:V0a)(y:Int): V0a.upd_4 x (I y)=({x with Frames:=y}:V0a).cv:=rfl
theorem V0a.fld_4(x:V0a): qfield C 57 x.cv 4=some (I x.Frames):=X0d C tt57 (V0a.shape x) rfl tt3 rfl rfl
theorem V0a.sub_4(q:List Nat)(z:Shape): subEq sh57 (4::q) z=subEq sh3 q z:=rfl
theorem V0a.at_5(x:V0a)(q:List Nat): x.cv.at (5::q)=(I x.Seed).at q:=rfl
def V0a.upd_5(x:V0a)(v:CV): CV:=.agg [I x.Players,I x.Period,I x.Grace,I x.Start,I x.Frames,v,I x.Rate,(Lst.cv V0b.cv) x.Rules]
theorem V0a.set_5(x:V0a)(q:List Nat)(v:CV): x.cv.set (5::q) v=V0a.upd_5 x ((I x.Seed).set q v):=rfl
theorem V0a.fold_5(x:V0a)(y:Int): V0a.upd_5 x (I y)=({x with Seed:=y}:V0a).cv:=rfl
theorem V0a.fld_5(x:V0a): qfield C 57 x.cv 5=some (I x.Seed):=X0d C tt57 (V0a.shape x) rfl tt3 rfl rfl
theorem V0a.sub_5(q:List Nat)(z:Shape): subEq sh57 (5::q) z=subEq sh3 q z:=rfl
theorem V0a.at_6(x:V0a)(q:List Nat): x.cv.at (6::q)=(I x.Rate).at q:=rfl
def V0a.upd_6(x:V0a)(v:CV): CV:=.agg [I x.Players,I x.Period,I x.Grace,I x.Start,I x.Frames,I x.Seed,v,(Lst.cv V0b.cv) x.Rules]
theorem V0a.set_6(x:V0a)(q:List Nat)(v:CV): x.cv.set (6::q) v=V0a.upd_6 x ((I x.Rate).set q v):=rfl
theorem V0a.fold_6(x:V0a)(y:Int): V0a.upd_6 x (I y)=({x with Rate:=y}:V0a).cv:=rfl
theorem V0a.fld_6(x:V0a): qfield C 57 x.cv 6=some (I x.Rate):=X0d C tt57 (V0a.shape x) rfl tt3 rfl rfl
theorem V0a.sub_6(q:List Nat)(z:Shape): subEq sh57 (6::q) z=subEq sh3 q z:=rfl
theorem V0a.at_7(x:V0a)(q:List Nat): x.cv.at (7::q)=((Lst.cv V0b.cv) x.Rules).at q:=rfl
def V0a.upd_7(x:V0a)(v:CV): CV:=.agg [I x.Players,I x.Period,I x.Grace,I x.Start,I x.Frames,I x.Seed,I x.Rate,v]
theorem V0a.set_7(x:V0a)(q:List Nat)(v:CV): x.cv.set (7::q) v=V0a.upd_7 x (((Lst.cv V0b.cv) x.Rules).set q v):=rfl
theorem V0a.fold_7(x:V0a)(y:Lst V0b): V0a.upd_7 x ((Lst.cv V0b.cv) y)=({x with Rules:=y}:V0a).cv:=rfl
theorem V0a.fld_7(x:V0a): qfield C 57 x.cv 7=some ((Lst.cv V0b.cv) x.Rules):=X0d C tt57 (V0a.shape x) rfl tt22 rfl rfl
theorem V0a.sub_7(q:List Nat)(z:Shape): subEq sh57 (7::q) z=subEq sh22 q z:=rfl
theorem V0a.sub_nil: subEq sh57 [] sh57=true:=by simp[subEq,Shape.sub]
theorem V0a.alloc: allocObj C (.alloc 57)=some (.var sh57 V0a.zero.cv):=by simp only[allocObj,tt57,ti57,V0a.zcv]
theorem V0a.xalloc(p:Hp): xalloc C p 57=.ret (.ptr p.n []) (p.new (.var sh57 V0a.zero.cv)):=by simp only[Cl.xalloc,tt57,ti57,V0a.zcv]
theorem V0a.xbox(p:Hp)(x:V0a): xbox C p 57 x.cv=.ret (.ptr p.n []) (p.new (.var sh57 x.cv)):=by
 have h:Cl.shOk x.cv ti57.sh=true:=V0a.shOk x
 simp only[Cl.xbox,tt57,h,cond_true];rfl
structure K0a where
 Players:Int
 Period:Int
 Grace:Int
 Start:Int
 Frames:Int
 Seed:Int
 Rate:Nat
 Depth:Nat
 Rules:Lst Q0c
 Tokens:Lst Int
def K0a.cv(x:K0a): CV:=.agg [I x.Players,I x.Period,I x.Grace,I x.Start,I x.Frames,I x.Seed,Fl x.Rate,Fl x.Depth,(Lst.cv Q0c.cv) x.Rules,(Lst.cv I) x.Tokens]
@[ext] theorem K0a.ext'{x y:K0a}(h_Players:x.Players=y.Players)(h_Period:x.Period=y.Period)(h_Grace:x.Grace=y.Grace)(h_Start:x.Start=y.Start)(h_Frames:x.Frames=y.Frames)(h_Seed:x.Seed=y.Seed)(h_Rate:x.Rate=y.Rate)(h_Depth:x.Depth=y.Depth)(h_Rules:x.Rules=y.Rules)(h_Tokens:x.Tokens=y.Tokens): x=y:=by
 obtain⟨a0,a1,a2,a3,a4,a5,a6,a7,a8,a9⟩:=x
 obtain⟨c0,c1,c2,c3,c4,c5,c6,c7,c8,c9⟩:=y
 simp only at h_Players h_Period h_Grace h_Start h_Frames h_Seed h_Rate h_Depth h_Rules h_Tokens
 subst h_Players h_Period h_Grace h_Start h_Frames h_Seed h_Rate h_Depth h_Rules h_Tokens
 rfl
def K0a.zero: K0a:={Players:=0,Period:=0,Grace:=0,Start:=0,Frames:=0,Seed:=0,Rate:=0,Depth:=0,Rules:=⟨.nil,[],fun _=>rfl⟩,Tokens:=⟨.nil,[],fun _=>rfl⟩}
instance:Inhabited K0a:=⟨K0a.zero⟩
theorem K0a.zcv: z61=K0a.zero.cv:=by
 simp only[z61,K0a.zero,K0a.cv,List.map_replicate,Lst.cv,List.map_nil]
theorem K0a.shape(x:K0a): x.cv.shape=sh61:=by simp only[K0a.cv,sh61,CV.shape,CV.shapes,Lst.shape]
theorem K0a.has(x:K0a)(j:Nat): x.cv.has j ↔ x.Rules.tl=.own j\/x.Tokens.tl=.own j:=by simp[K0a.cv,CV.has,CV.hasL,Lst.has _ Q0c.nohas,Lst.has _ I_has]
theorem K0a.inj{x y:K0a}(h:x.cv=y.cv): x=y:=by
 simp only[K0a.cv,CV.agg.injEq,List.cons.injEq,and_true]at h
 obtain⟨h0,h1,h2,h3,h4,h5,h6,h7,h8,h9⟩:=h
 refine K0a.ext' (I_inj _ _ h0) (I_inj _ _ h1) (I_inj _ _ h2) (I_inj _ _ h3) (I_inj _ _ h4) (I_inj _ _ h5) (Fl_inj _ _ h6) (Fl_inj _ _ h7) ((Lst.injF Q0c.injF) _ _ h8) ((Lst.injF I_inj) _ _ h9)
theorem K0a.injF(x y:K0a)(h:x.cv=y.cv): x=y:=K0a.inj h
theorem K0a.inj_iff(x y:K0a): x.cv=y.cv ↔ x=y:=⟨K0a.inj,fun h=>by rw[h]⟩
theorem K0a.shOk(x:K0a): Cl.shOk x.cv sh61=true:=K0n (K0a.shape x) rfl
theorem K0a.at_0(x:K0a)(q:List Nat): x.cv.at (0::q)=(I x.Players).at q:=rfl
def K0a.upd_0(x:K0a)(v:CV): CV:=.agg [v,I x.Period,I x.Grace,I x.Start,I x.Frames,I x.Seed,Fl x.Rate,Fl x.Depth,(Lst.cv Q0c.cv) x.Rules,(Lst.cv I) x.Tokens]
theorem K0a.set_0(x:K0a)(q:List Nat)(v:CV): x.cv.set (0::q) v=K0a.upd_0 x ((I x.Players).set q v):=rfl
theorem K0a.fold_0(x:K0a)(y:Int): K0a.upd_0 x (I y)=({x with Players:=y}:K0a).cv:=rfl
theorem K0a.fld_0(x:K0a): qfield C 61 x.cv 0=some (I x.Players):=X0d C tt61 (K0a.shape x) rfl tt3 rfl rfl
theorem K0a.sub_0(q:List Nat)(z:Shape): subEq sh61 (0::q) z=subEq sh3 q z:=rfl
theorem K0a.at_1(x:K0a)(q:List Nat): x.cv.at (1::q)=(I x.Period).at q:=rfl
def K0a.upd_1(x:K0a)(v:CV): CV:=.agg [I x.Players,v,I x.Grace,I x.Start,I x.Frames,I x.Seed,Fl x.Rate,Fl x.Depth,(Lst.cv Q0c.cv) x.Rules,(Lst.cv I) x.Tokens]
theorem K0a.set_1(x:K0a)(q:List Nat)(v:CV): x.cv.set (1::q) v=K0a.upd_1 x ((I x.Period).set q v):=rfl
theorem K0a.fold_1(x:K0a)(y:Int): K0a.upd_1 x (I y)=({x with Period:=y}:K0a).cv:=rfl
theorem K0a.fld_1(x:K0a): qfield C 61 x.cv 1=some (I x.Period):=X0d C tt61 (K0a.shape x) rfl tt3 rfl rfl
theorem K0a.sub_1(q:List Nat)(z:Shape): subEq sh61 (1::q) z=subEq sh3 q z:=rfl
theorem K0a.at_2(x:K0a)(q:List Nat): x.cv.at (2::q)=(I x.Grace).at q:=rfl
def K0a.upd_2(x:K0a)(v:CV): CV:=.agg [I x.Players,I x.Period,v,I x.Start,I x.Frames,I x.Seed,Fl x.Rate,Fl x.Depth,(Lst.cv Q0c.cv) x.Rules,(Lst.cv I) x.Tokens]
theorem K0a.set_2(x:K0a)(q:List Nat)(v:CV): x.cv.set (2::q) v=K0a.upd_2 x ((I x.Grace).set q v):=rfl
theorem K0a.fold_2(x:K0a)(y:Int): K0a.upd_2 x (I y)=({x with Grace:=y}:K0a).cv:=rfl
theorem K0a.fld_2(x:K0a): qfield C 61 x.cv 2=some (I x.Grace):=X0d C tt61 (K0a.shape x) rfl tt3 rfl rfl
theorem K0a.sub_2(q:List Nat)(z:Shape): subEq sh61 (2::q) z=subEq sh3 q z:=rfl
theorem K0a.at_3(x:K0a)(q:List Nat): x.cv.at (3::q)=(I x.Start).at q:=rfl
def K0a.upd_3(x:K0a)(v:CV): CV:=.agg [I x.Players,I x.Period,I x.Grace,v,I x.Frames,I x.Seed,Fl x.Rate,Fl x.Depth,(Lst.cv Q0c.cv) x.Rules,(Lst.cv I) x.Tokens]
theorem K0a.set_3(x:K0a)(q:List Nat)(v:CV): x.cv.set (3::q) v=K0a.upd_3 x ((I x.Start).set q v):=rfl
theorem K0a.fold_3(x:K0a)(y:Int): K0a.upd_3 x (I y)=({x with Start:=y}:K0a).cv:=rfl
theorem K0a.fld_3(x:K0a): qfield C 61 x.cv 3=some (I x.Start):=X0d C tt61 (K0a.shape x) rfl tt3 rfl rfl
theorem K0a.sub_3(q:List Nat)(z:Shape): subEq sh61 (3::q) z=subEq sh3 q z:=rfl
theorem K0a.at_4(x:K0a)(q:List Nat): x.cv.at (4::q)=(I x.Frames).at q:=rfl
def K0a.upd_4(x:K0a)(v:CV): CV:=.agg [I x.Players,I x.Period,I x.Grace,I x.Start,v,I x.Seed,Fl x.Rate,Fl x.Depth,(Lst.cv Q0c.cv) x.Rules,(Lst.cv I) x.Tokens]
theorem K0a.set_4(x:K0a)(q:List Nat)(v:CV): x.cv.set (4::q) v=K0a.upd_4 x ((I x.Frames).set q v):=rfl
theorem K0a.fold_4(x:K0a)(y:Int): K0a.upd_4 x (I y)=({x with Frames:=y}:K0a).cv:=rfl
theorem K0a.fld_4(x:K0a): qfield C 61 x.cv 4=some (I x.Frames):=X0d C tt61 (K0a.shape x) rfl tt3 rfl rfl
theorem K0a.sub_4(q:List Nat)(z:Shape): subEq sh61 (4::q) z=subEq sh3 q z:=rfl
theorem K0a.at_5(x:K0a)(q:List Nat): x.cv.at (5::q)=(I x.Seed).at q:=rfl
def K0a.upd_5(x:K0a)(v:CV): CV:=.agg [I x.Players,I x.Period,I x.Grace,I x.Start,I x.Frames,v,Fl x.Rate,Fl x.Depth,(Lst.cv Q0c.cv) x.Rules,(Lst.cv I) x.Tokens]
theorem K0a.set_5(x:K0a)(q:List Nat)(v:CV): x.cv.set (5::q) v=K0a.upd_5 x ((I x.Seed).set q v):=rfl
theorem K0a.fold_5(x:K0a)(y:Int): K0a.upd_5 x (I y)=({x with Seed:=y}:K0a).cv:=rfl
theorem K0a.fld_5(x:K0a): qfield C 61 x.cv 5=some (I x.Seed):=X0d C tt61 (K0a.shape x) rfl tt3 rfl rfl
theorem K0a.sub_5(q:List Nat)(z:Shape): subEq sh61 (5::q) z=subEq sh3 q z:=rfl
theorem K0a.at_6(x:K0a)(q:List Nat): x.cv.at (6::q)=(Fl x.Rate).at q:=rfl
def K0a.upd_6(x:K0a)(v:CV): CV:=.agg [I x.Players,I x.Period,I x.Grace,I x.Start,I x.Frames,I x.Seed,v,Fl x.Depth,(Lst.cv Q0c.cv) x.Rules,(Lst.cv I) x.Tokens]
theorem K0a.set_6(x:K0a)(q:List Nat)(v:CV): x.cv.set (6::q) v=K0a.upd_6 x ((Fl x.Rate).set q v):=rfl
theorem K0a.fold_6(x:K0a)(y:Nat): K0a.upd_6 x (Fl y)=({x with Rate:=y}:K0a).cv:=rfl
theorem K0a.fld_6(x:K0a): qfield C 61 x.cv 6=some (Fl x.Rate):=X0d C tt61 (K0a.shape x) rfl tt59 rfl rfl
theorem K0a.sub_6(q:List Nat)(z:Shape): subEq sh61 (6::q) z=subEq sh59 q z:=rfl
theorem K0a.at_7(x:K0a)(q:List Nat): x.cv.at (7::q)=(Fl x.Depth).at q:=rfl
def K0a.upd_7(x:K0a)(v:CV): CV:=.agg [I x.Players,I x.Period,I x.Grace,I x.Start,I x.Frames,I x.Seed,Fl x.Rate,v,(Lst.cv Q0c.cv) x.Rules,(Lst.cv I) x.Tokens]
theorem K0a.set_7(x:K0a)(q:List Nat)(v:CV): x.cv.set (7::q) v=K0a.upd_7 x ((Fl x.Depth).set q v):=rfl
theorem K0a.fold_7(x:K0a)(y:Nat): K0a.upd_7 x (Fl y)=({x with Depth:=y}:K0a).cv:=rfl
theorem K0a.fld_7(x:K0a): qfield C 61 x.cv 7=some (Fl x.Depth):=X0d C tt61 (K0a.shape x) rfl tt59 rfl rfl
theorem K0a.sub_7(q:List Nat)(z:Shape): subEq sh61 (7::q) z=subEq sh59 q z:=rfl
theorem K0a.at_8(x:K0a)(q:List Nat): x.cv.at (8::q)=((Lst.cv Q0c.cv) x.Rules).at q:=rfl
def K0a.upd_8(x:K0a)(v:CV): CV:=.agg [I x.Players,I x.Period,I x.Grace,I x.Start,I x.Frames,I x.Seed,Fl x.Rate,Fl x.Depth,v,(Lst.cv I) x.Tokens]
theorem K0a.set_8(x:K0a)(q:List Nat)(v:CV): x.cv.set (8::q) v=K0a.upd_8 x (((Lst.cv Q0c.cv) x.Rules).set q v):=rfl
theorem K0a.fold_8(x:K0a)(y:Lst Q0c): K0a.upd_8 x ((Lst.cv Q0c.cv) y)=({x with Rules:=y}:K0a).cv:=rfl
theorem K0a.fld_8(x:K0a): qfield C 61 x.cv 8=some ((Lst.cv Q0c.cv) x.Rules):=X0d C tt61 (K0a.shape x) rfl tt23 rfl rfl
theorem K0a.sub_8(q:List Nat)(z:Shape): subEq sh61 (8::q) z=subEq sh23 q z:=rfl
theorem K0a.at_9(x:K0a)(q:List Nat): x.cv.at (9::q)=((Lst.cv I) x.Tokens).at q:=rfl
def K0a.upd_9(x:K0a)(v:CV): CV:=.agg [I x.Players,I x.Period,I x.Grace,I x.Start,I x.Frames,I x.Seed,Fl x.Rate,Fl x.Depth,(Lst.cv Q0c.cv) x.Rules,v]
theorem K0a.set_9(x:K0a)(q:List Nat)(v:CV): x.cv.set (9::q) v=K0a.upd_9 x (((Lst.cv I) x.Tokens).set q v):=rfl
theorem K0a.fold_9(x:K0a)(y:Lst Int): K0a.upd_9 x ((Lst.cv I) y)=({x with Tokens:=y}:K0a).cv:=rfl
theorem K0a.fld_9(x:K0a): qfield C 61 x.cv 9=some ((Lst.cv I) x.Tokens):=X0d C tt61 (K0a.shape x) rfl tt24 rfl rfl
theorem K0a.sub_9(q:List Nat)(z:Shape): subEq sh61 (9::q) z=subEq sh24 q z:=rfl
theorem K0a.sub_nil: subEq sh61 [] sh61=true:=by simp[subEq,Shape.sub]
theorem K0a.alloc: allocObj C (.alloc 61)=some (.var sh61 K0a.zero.cv):=by simp only[allocObj,tt61,ti61,K0a.zcv]
theorem K0a.xalloc(p:Hp): xalloc C p 61=.ret (.ptr p.n []) (p.new (.var sh61 K0a.zero.cv)):=by simp only[Cl.xalloc,tt61,ti61,K0a.zcv]
theorem K0a.xbox(p:Hp)(x:K0a): xbox C p 61 x.cv=.ret (.ptr p.n []) (p.new (.var sh61 x.cv)):=by
 have h:Cl.shOk x.cv ti61.sh=true:=K0a.shOk x
 simp only[Cl.xbox,tt61,h,cond_true];rfl
theorem K0a.bld_0_1_2_3_4_5(a0:Int)(a1:Int)(a2:Int)(a3:Int)(a4:Int)(a5:Int): qbuild C 61 [(0,I a0),(1,I a1),(2,I a2),(3,I a3),(4,I a4),(5,I a5)]=some (({Players:=a0,Period:=a1,Grace:=a2,Start:=a3,Frames:=a4,Seed:=a5,Rate:=0,Depth:=0,Rules:=⟨.nil,[],fun _=>rfl⟩,Tokens:=⟨.nil,[],fun _=>rfl⟩}:K0a).cv):=Y0e C tt61 (by simp only[partsOk,setAll,CV.shape,sh61,List.all_cons,List.all_nil,List.getElem?_cons_zero,List.getElem?_cons_succ,Bool.and_true,decide_true]) rfl
theorem K0a.bld_0_1_4_6_7_8(a0:Int)(a1:Int)(a4:Int)(a6:Nat)(a7:Nat)(a8:Lst Q0c): qbuild C 61 [(0,I a0),(1,I a1),(4,I a4),(6,Fl a6),(7,Fl a7),(8,(Lst.cv Q0c.cv) a8)]=some (({Players:=a0,Period:=a1,Grace:=0,Start:=0,Frames:=a4,Seed:=0,Rate:=a6,Depth:=a7,Rules:=a8,Tokens:=⟨.nil,[],fun _=>rfl⟩}:K0a).cv):=Y0e C tt61 (by simp only[partsOk,setAll,CV.shape,Lst.shape,sh61,List.all_cons,List.all_nil,List.getElem?_cons_zero,List.getElem?_cons_succ,Bool.and_true,decide_true]) rfl
theorem K0a.bld_0_1_4_6_7_9(a0:Int)(a1:Int)(a4:Int)(a6:Nat)(a7:Nat)(a9:Lst Int): qbuild C 61 [(0,I a0),(1,I a1),(4,I a4),(6,Fl a6),(7,Fl a7),(9,(Lst.cv I) a9)]=some (({Players:=a0,Period:=a1,Grace:=0,Start:=0,Frames:=a4,Seed:=0,Rate:=a6,Depth:=a7,Rules:=⟨.nil,[],fun _=>rfl⟩,Tokens:=a9}:K0a).cv):=Y0e C tt61 (by simp only[partsOk,setAll,CV.shape,Lst.shape,sh61,List.all_cons,List.all_nil,List.getElem?_cons_zero,List.getElem?_cons_succ,Bool.and_true,decide_true]) rfl
structure Y0a where
 Frame:Int
 Dice:Int
 Bodies:List Q0a
 hBodies:Bodies.length=16
 Score:List Int
 hScore:Score.length=8
def Y0a.cv(x:Y0a): CV:=.agg [I x.Frame,U x.Dice,.agg (x.Bodies.map Q0a.cv),.agg (x.Score.map I)]
@[ext] theorem Y0a.ext'{x y:Y0a}(h_Frame:x.Frame=y.Frame)(h_Dice:x.Dice=y.Dice)(h_Bodies:x.Bodies=y.Bodies)(h_Score:x.Score=y.Score): x=y:=by
 obtain⟨a0,a1,a2,ha,a3,ha⟩:=x
 obtain⟨c0,c1,c2,hc,c3,hc⟩:=y
 simp only at h_Frame h_Dice h_Bodies h_Score
 subst h_Frame h_Dice h_Bodies h_Score
 rfl
def Y0a.zero: Y0a:={Frame:=0,Dice:=0,Bodies:=(List.replicate 16 Q0a.zero),hBodies:=List.length_replicate,Score:=(List.replicate 8 0),hScore:=List.length_replicate}
instance:Inhabited Y0a:=⟨Y0a.zero⟩
theorem Y0a.zcv: z66=Y0a.zero.cv:=by
 simp only[z66,Y0a.zero,Y0a.cv,z63,Q0a.zcv,z64,List.map_replicate,Lst.cv,List.map_nil]
theorem Y0a.shape(x:Y0a): x.cv.shape=sh66:=by simp only[Y0a.cv,sh66,CV.shape,CV.shapes,Lst.shape,Y0i (f:=Q0a.cv) Q0a.shape,x.hBodies,sh63,Y0i (f:=I) (s:=Shape.s) (fun _=>rfl),x.hScore,sh64]
theorem Y0a.nohas(x:Y0a)(j:Nat): ¬x.cv.has j:=by simp[Y0a.cv,CV.has,CV.hasL,X0n Q0a.nohas,X0n I_has]
instance:DecidableEq Y0a:=fun x y=>decidable_of_iff (x.Frame=y.Frame/\x.Dice=y.Dice/\x.Bodies=y.Bodies/\x.Score=y.Score) ⟨fun h=>Y0a.ext' h.1 h.2.1 h.2.2.1 h.2.2.2,fun h=>by subst h;simp⟩
theorem Y0a.inj{x y:Y0a}(h:x.cv=y.cv): x=y:=by
 simp only[Y0a.cv,CV.agg.injEq,List.cons.injEq,and_true]at h
 obtain⟨h0,h1,h2,h3⟩:=h
 refine Y0a.ext' (I_inj _ _ h0) (U_inj _ _ h1) (Z1a Q0a.injF h2) (Z1a I_inj h3)
theorem Y0a.injF(x y:Y0a)(h:x.cv=y.cv): x=y:=Y0a.inj h
theorem Y0a.inj_iff(x y:Y0a): x.cv=y.cv ↔ x=y:=⟨Y0a.inj,fun h=>by rw[h]⟩
theorem Y0a.shOk(x:Y0a): Cl.shOk x.cv sh66=true:=K0n (Y0a.shape x) rfl
theorem Y0a.eq(d:Nat)(x y:Y0a): eqCV C (d+5) 66 x.cv y.cv=some (decide (x=y)):=by
 refine(K0x C (d:=d+4) tt66 (Y0a.shape x) (Y0a.shape y) (X0f (K0g C tt3 (d+3) _ _) (X0f (K0g C tt25 (d+3) _ _) (X0f (eqCV_ar C (g:=Q0a.cv) (d:=d+3) tt63 rfl Q0a.shape x.hBodies y.hBodies (fun a b=>Q0a.eq (d+0) a b)) (X0f (eqCV_ar C (g:=I) (d:=d+3) tt64 rfl (fun _=>rfl) x.hScore y.hScore (K0g C tt3 (d+2))) rfl))))).trans (congrArg some ?_)
 rw[Bool.eq_iff_iff]
 simp only[Bool.and_eq_true,decide_eq_true_eq,and_true]
 exact⟨fun h=>Y0a.ext' h.1 h.2.1 h.2.2.1 h.2.2.2,fun h=>by subst h;simp⟩
theorem Y0a.eql(x y:Y0a)(b:Bool): qbin C .eql 66 b x.cv y.cv=some (Bo (decide (x=y))):=by
 have h:=Y0a.eq 7 x y
 unfold Y0a.cv at h ⊢
 simp only[qbin]
 rw[h];rfl
theorem Y0a.neq(x y:Y0a)(b:Bool): qbin C .neq 66 b x.cv y.cv=some (Bo (!decide (x=y))):=by
 have h:=Y0a.eq 7 x y
 unfold Y0a.cv at h ⊢
 simp only[qbin]
 rw[h];rfl
theorem Y0a.at_0(x:Y0a)(q:List Nat): x.cv.at (0::q)=(I x.Frame).at q:=rfl
def Y0a.upd_0(x:Y0a)(v:CV): CV:=.agg [v,U x.Dice,.agg (x.Bodies.map Q0a.cv),.agg (x.Score.map I)]
theorem Y0a.set_0(x:Y0a)(q:List Nat)(v:CV): x.cv.set (0::q) v=Y0a.upd_0 x ((I x.Frame).set q v):=rfl
theorem Y0a.fold_0(x:Y0a)(y:Int): Y0a.upd_0 x (I y)=({x with Frame:=y}:Y0a).cv:=rfl
theorem Y0a.fld_0(x:Y0a): qfield C 66 x.cv 0=some (I x.Frame):=X0d C tt66 (Y0a.shape x) rfl tt3 rfl rfl
theorem Y0a.sub_0(q:List Nat)(z:Shape): subEq sh66 (0::q) z=subEq sh3 q z:=rfl
theorem Y0a.at_1(x:Y0a)(q:List Nat): x.cv.at (1::q)=(U x.Dice).at q:=rfl
def Y0a.upd_1(x:Y0a)(v:CV): CV:=.agg [I x.Frame,v,.agg (x.Bodies.map Q0a.cv),.agg (x.Score.map I)]
theorem Y0a.set_1(x:Y0a)(q:List Nat)(v:CV): x.cv.set (1::q) v=Y0a.upd_1 x ((U x.Dice).set q v):=rfl
theorem Y0a.fold_1(x:Y0a)(y:Int): Y0a.upd_1 x (U y)=({x with Dice:=y}:Y0a).cv:=rfl
theorem Y0a.fld_1(x:Y0a): qfield C 66 x.cv 1=some (U x.Dice):=X0d C tt66 (Y0a.shape x) rfl tt25 rfl rfl
theorem Y0a.sub_1(q:List Nat)(z:Shape): subEq sh66 (1::q) z=subEq sh25 q z:=rfl
theorem Y0a.at_2(x:Y0a): x.cv.at [2]=some (.agg (x.Bodies.map Q0a.cv)):=rfl
theorem Y0a.at_2k(x:Y0a)(k:Nat)(q:List Nat)(h:k<16): x.cv.at (2::k::q)=(Q0a.cv (nth x.Bodies k)).at q:=by
 show(CV.agg (x.Bodies.map Q0a.cv)).at (k::q)=_
 exact X1o _ (by rw[x.hBodies];exact h) q
def Y0a.upd_2(x:Y0a)(v:CV): CV:=.agg [I x.Frame,U x.Dice,v,.agg (x.Score.map I)]
def Y0a.upd_2k(x:Y0a)(k:Nat)(v:CV): CV:=.agg [I x.Frame,U x.Dice,.agg ((x.Bodies.map Q0a.cv).set k v),.agg (x.Score.map I)]
theorem Y0a.set_2(x:Y0a)(v:CV): x.cv.set [2] v=Y0a.upd_2 x v:=by simp[Y0a.cv,Y0a.upd_2,CV.set,Z1x]
theorem Y0a.set_2k(x:Y0a)(k:Nat)(q:List Nat)(v:CV)(h:k<16): x.cv.set (2::k::q) v=Y0a.upd_2k x k ((Q0a.cv (nth x.Bodies k)).set q v):=by
 have e:x.cv.set (2::k::q) v=Y0a.upd_2 x ((CV.agg (x.Bodies.map Q0a.cv)).set (k::q) v):=rfl
 rw[e,X1g _ (by rw[x.hBodies];exact h)];rfl
def Y0a.put_2k(x:Y0a)(k:Nat)(y:Q0a): Y0a:={x with Bodies:=x.Bodies.set k y,hBodies:=by rw[List.length_set];exact x.hBodies}
theorem Y0a.fold_2k(x:Y0a)(k:Nat)(y:Q0a): Y0a.upd_2k x k (Q0a.cv y)=(Y0a.put_2k x k y).cv:=by simp only[Y0a.upd_2k,Y0a.put_2k,Y0a.cv,List.map_set]
theorem Y0a.fold_2(x:Y0a)(l:List Q0a)(h:l.length=16): Y0a.upd_2 x (.agg (l.map Q0a.cv))=({x with Bodies:=l,hBodies:=h}:Y0a).cv:=rfl
theorem Y0a.fld_2(x:Y0a): qfield C 66 x.cv 2=some (.agg (x.Bodies.map Q0a.cv)):=X0d C tt66 (Y0a.shape x) rfl tt63 rfl (K0n (sh:=sh63) (by simp only[CV.shape,Y0i (f:=Q0a.cv) Q0a.shape,x.hBodies,sh63]) rfl)
theorem Y0a.sub_2k(k:Nat)(q:List Nat)(z:Shape): subEq sh66 (2::k::q) z=(decide (k<16)&&subEq sh34 q z):=X0z 16 k q sh34 z
theorem Y0a.sub_2(z:Shape): subEq sh66 [2] z=subEq sh63 [] z:=rfl
theorem Y0a.at_3(x:Y0a): x.cv.at [3]=some (.agg (x.Score.map I)):=rfl
theorem Y0a.at_3k(x:Y0a)(k:Nat)(q:List Nat)(h:k<8): x.cv.at (3::k::q)=(I (nth x.Score k)).at q:=by
 show(CV.agg (x.Score.map I)).at (k::q)=_
 exact X1o _ (by rw[x.hScore];exact h) q
def Y0a.upd_3(x:Y0a)(v:CV): CV:=.agg [I x.Frame,U x.Dice,.agg (x.Bodies.map Q0a.cv),v]
def Y0a.upd_3k(x:Y0a)(k:Nat)(v:CV): CV:=.agg [I x.Frame,U x.Dice,.agg (x.Bodies.map Q0a.cv),.agg ((x.Score.map I).set k v)]
theorem Y0a.set_3(x:Y0a)(v:CV): x.cv.set [3] v=Y0a.upd_3 x v:=by simp[Y0a.cv,Y0a.upd_3,CV.set,Z1x]
theorem Y0a.set_3k(x:Y0a)(k:Nat)(q:List Nat)(v:CV)(h:k<8): x.cv.set (3::k::q) v=Y0a.upd_3k x k ((I (nth x.Score k)).set q v):=by
 have e:x.cv.set (3::k::q) v=Y0a.upd_3 x ((CV.agg (x.Score.map I)).set (k::q) v):=rfl
 rw[e,X1g _ (by rw[x.hScore];exact h)];rfl
def Y0a.put_3k(x:Y0a)(k:Nat)(y:Int): Y0a:={x with Score:=x.Score.set k y,hScore:=by rw[List.length_set];exact x.hScore}
theorem Y0a.fold_3k(x:Y0a)(k:Nat)(y:Int): Y0a.upd_3k x k (I y)=(Y0a.put_3k x k y).cv:=by simp only[Y0a.upd_3k,Y0a.put_3k,Y0a.cv,List.map_set]
theorem Y0a.fold_3(x:Y0a)(l:List Int)(h:l.length=8): Y0a.upd_3 x (.agg (l.map I))=({x with Score:=l,hScore:=h}:Y0a).cv:=rfl
theorem Y0a.fld_3(x:Y0a): qfield C 66 x.cv 3=some (.agg (x.Score.map I)):=X0d C tt66 (Y0a.shape x) rfl tt64 rfl (K0n (sh:=sh64) (by simp only[CV.shape,Y0i (f:=I) (s:=Shape.s) (fun _=>rfl),x.hScore,sh64]) rfl)
theorem Y0a.sub_3k(k:Nat)(q:List Nat)(z:Shape): subEq sh66 (3::k::q) z=(decide (k<8)&&subEq sh3 q z):=X0z 8 k q sh3 z
theorem Y0a.sub_3(z:Shape): subEq sh66 [3] z=subEq sh64 [] z:=rfl
theorem Y0a.sub_nil: subEq sh66 [] sh66=true:=by simp[subEq,Shape.sub]
theorem Y0a.alloc: allocObj C (.alloc 66)=some (.var sh66 Y0a.zero.cv):=by simp only[allocObj,tt66,ti66,Y0a.zcv]
theorem Y0a.xalloc(p:Hp): xalloc C p 66=.ret (.ptr p.n []) (p.new (.var sh66 Y0a.zero.cv)):=by simp only[Cl.xalloc,tt66,ti66,Y0a.zcv]
theorem Y0a.xbox(p:Hp)(x:Y0a): xbox C p 66 x.cv=.ret (.ptr p.n []) (p.new (.var sh66 x.cv)):=by
 have h:Cl.shOk x.cv ti66.sh=true:=Y0a.shOk x
 simp only[Cl.xbox,tt66,h,cond_true];rfl
theorem Y0a.bld_none:qbuild C 66 []=some (({Frame:=0,Dice:=0,Bodies:=(List.replicate 16 Q0a.zero),hBodies:=List.length_replicate,Score:=(List.replicate 8 0),hScore:=List.length_replicate}:Y0a).cv):=Y0e C tt66 (by simp only[partsOk,setAll,CV.shape,sh66,List.all_cons,List.all_nil,List.getElem?_cons_zero,List.getElem?_cons_succ,Bool.and_true,decide_true]) rfl
theorem Y0a.bld_0_1(a0:Int)(a1:Int): qbuild C 66 [(0,I a0),(1,U a1)]=some (({Frame:=a0,Dice:=a1,Bodies:=(List.replicate 16 Q0a.zero),hBodies:=List.length_replicate,Score:=(List.replicate 8 0),hScore:=List.length_replicate}:Y0a).cv):=Y0e C tt66 (by simp only[partsOk,setAll,CV.shape,sh66,List.all_cons,List.all_nil,List.getElem?_cons_zero,List.getElem?_cons_succ,Bool.and_true,decide_true]) rfl
theorem Y0a.bld_1(a1:Int): qbuild C 66 [(1,U a1)]=some (({Frame:=0,Dice:=a1,Bodies:=(List.replicate 16 Q0a.zero),hBodies:=List.length_replicate,Score:=(List.replicate 8 0),hScore:=List.length_replicate}:Y0a).cv):=Y0e C tt66 (by simp only[partsOk,setAll,CV.shape,sh66,List.all_cons,List.all_nil,List.getElem?_cons_zero,List.getElem?_cons_succ,Bool.and_true,decide_true]) rfl
structure Q0b where
 Real:Bool
 In:K0b
def Q0b.cv(x:Q0b): CV:=.agg [Bo x.Real,K0b.cv x.In]
@[ext] theorem Q0b.ext'{x y:Q0b}(h_Real:x.Real=y.Real)(h_In:x.In=y.In): x=y:=by
 obtain⟨a0,a1⟩:=x
 obtain⟨c0,c1⟩:=y
 simp only at h_Real h_In
 subst h_Real h_In
 rfl
def Q0b.zero: Q0b:={Real:=false,In:=K0b.zero}
instance:Inhabited Q0b:=⟨Q0b.zero⟩
theorem Q0b.zcv: z110=Q0b.zero.cv:=by
 simp only[z110,Q0b.zero,Q0b.cv,K0b.zcv,List.map_replicate,Lst.cv,List.map_nil]
theorem Q0b.shape(x:Q0b): x.cv.shape=sh110:=by simp only[Q0b.cv,sh110,CV.shape,CV.shapes,K0b.shape,Lst.shape]
theorem Q0b.nohas(x:Q0b)(j:Nat): ¬x.cv.has j:=by simp[Q0b.cv,CV.has,CV.hasL,K0b.nohas]
instance:DecidableEq Q0b:=fun x y=>decidable_of_iff (x.Real=y.Real/\x.In=y.In) ⟨fun h=>Q0b.ext' h.1 h.2,fun h=>by subst h;simp⟩
theorem Q0b.inj{x y:Q0b}(h:x.cv=y.cv): x=y:=by
 simp only[Q0b.cv,CV.agg.injEq,List.cons.injEq,and_true]at h
 obtain⟨h0,h1⟩:=h
 refine Q0b.ext' (Bo_inj _ _ h0) (K0b.injF _ _ h1)
theorem Q0b.injF(x y:Q0b)(h:x.cv=y.cv): x=y:=Q0b.inj h
theorem Q0b.inj_iff(x y:Q0b): x.cv=y.cv ↔ x=y:=⟨Q0b.inj,fun h=>by rw[h]⟩
theorem Q0b.shOk(x:Q0b): Cl.shOk x.cv sh110=true:=K0n (Q0b.shape x) rfl
theorem Q0b.eq(d:Nat)(x y:Q0b): eqCV C (d+3) 110 x.cv y.cv=some (decide (x=y)):=by
 refine(K0x C (d:=d+2) tt110 (Q0b.shape x) (Q0b.shape y) (X0f (eqCV_bool C tt4 (d+1) _ _) (X0f (K0b.eq (d+0) _ _) rfl))).trans (congrArg some ?_)
 rw[Bool.eq_iff_iff]
 simp only[Bool.and_eq_true,decide_eq_true_eq,and_true]
 exact⟨fun h=>Q0b.ext' h.1 h.2,fun h=>by subst h;simp⟩
theorem Q0b.eql(x y:Q0b)(b:Bool): qbin C .eql 110 b x.cv y.cv=some (Bo (decide (x=y))):=by
 have h:=Q0b.eq 9 x y
 unfold Q0b.cv at h ⊢
 simp only[qbin]
 rw[h];rfl
theorem Q0b.neq(x y:Q0b)(b:Bool): qbin C .neq 110 b x.cv y.cv=some (Bo (!decide (x=y))):=by
 have h:=Q0b.eq 9 x y
 unfold Q0b.cv at h ⊢
 simp only[qbin]
 rw[h];rfl
theorem Q0b.at_0(x:Q0b)(q:List Nat): x.cv.at (0::q)=(Bo x.Real).at q:=rfl
def Q0b.upd_0(x:Q0b)(v:CV): CV:=.agg [v,K0b.cv x.In]
theorem Q0b.set_0(x:Q0b)(q:List Nat)(v:CV): x.cv.set (0::q) v=Q0b.upd_0 x ((Bo x.Real).set q v):=rfl
theorem Q0b.fold_0(x:Q0b)(y:Bool): Q0b.upd_0 x (Bo y)=({x with Real:=y}:Q0b).cv:=rfl
theorem Q0b.fld_0(x:Q0b): qfield C 110 x.cv 0=some (Bo x.Real):=X0d C tt110 (Q0b.shape x) rfl tt4 rfl rfl
theorem Q0b.rfa_0(x:Q0b)(h:Heap): qfieldAddr C h 110 (.rptr x.cv) 0=some (.rptr (Bo x.Real)):=by
 have hs:=Q0b.shape x
 unfold Q0b.cv at hs ⊢
 simp only[qfieldAddr,tt110,ti110,tgt,hs,if_true,List.getElem?_cons_zero,List.getElem?_cons_succ]
theorem Q0b.sub_0(q:List Nat)(z:Shape): subEq sh110 (0::q) z=subEq sh4 q z:=rfl
theorem Q0b.at_1(x:Q0b)(q:List Nat): x.cv.at (1::q)=(K0b.cv x.In).at q:=rfl
def Q0b.upd_1(x:Q0b)(v:CV): CV:=.agg [Bo x.Real,v]
theorem Q0b.set_1(x:Q0b)(q:List Nat)(v:CV): x.cv.set (1::q) v=Q0b.upd_1 x ((K0b.cv x.In).set q v):=rfl
theorem Q0b.fold_1(x:Q0b)(y:K0b): Q0b.upd_1 x (K0b.cv y)=({x with In:=y}:Q0b).cv:=rfl
theorem Q0b.fld_1(x:Q0b): qfield C 110 x.cv 1=some (K0b.cv x.In):=X0d C tt110 (Q0b.shape x) rfl tt36 rfl (K0b.shOk _)
theorem Q0b.rfa_1(x:Q0b)(h:Heap): qfieldAddr C h 110 (.rptr x.cv) 1=some (.rptr (K0b.cv x.In)):=by
 have hs:=Q0b.shape x
 unfold Q0b.cv at hs ⊢
 simp only[qfieldAddr,tt110,ti110,tgt,hs,if_true,List.getElem?_cons_zero,List.getElem?_cons_succ]
theorem Q0b.sub_1(q:List Nat)(z:Shape): subEq sh110 (1::q) z=subEq sh36 q z:=rfl
theorem Q0b.sub_nil: subEq sh110 [] sh110=true:=by simp[subEq,Shape.sub]
theorem Q0b.alloc: allocObj C (.alloc 110)=some (.var sh110 Q0b.zero.cv):=by simp only[allocObj,tt110,ti110,Q0b.zcv]
theorem Q0b.xalloc(p:Hp): xalloc C p 110=.ret (.ptr p.n []) (p.new (.var sh110 Q0b.zero.cv)):=by simp only[Cl.xalloc,tt110,ti110,Q0b.zcv]
theorem Q0b.xbox(p:Hp)(x:Q0b): xbox C p 110 x.cv=.ret (.ptr p.n []) (p.new (.var sh110 x.cv)):=by
 have h:Cl.shOk x.cv ti110.sh=true:=Q0b.shOk x
 simp only[Cl.xbox,tt110,h,cond_true];rfl
theorem Q0b.bld_0(a0:Bool): qbuild C 110 [(0,Bo a0)]=some (({Real:=a0,In:=K0b.zero}:Q0b).cv):=Y0e C tt110 (by simp only[partsOk,setAll,CV.shape,sh110,List.all_cons,List.all_nil,List.getElem?_cons_zero,List.getElem?_cons_succ,Bool.and_true,decide_true]) rfl
theorem Q0b.bld_0_1(a0:Bool)(a1:K0b): qbuild C 110 [(0,Bo a0),(1,K0b.cv a1)]=some (({Real:=a0,In:=a1}:Q0b).cv):=Y0e C tt110 (by simp only[partsOk,setAll,CV.shape,K0b.shape,sh110,List.all_cons,List.all_nil,List.getElem?_cons_zero,List.getElem?_cons_succ,Bool.and_true,decide_true]) rfl
structure Z0a where
 e_:K0c
 l_:Lst Q0c
 at_:Int
def Z0a.cv(x:Z0a): CV:=.agg [K0c.cv x.e_,(Lst.cv Q0c.cv) x.l_,I x.at_]
@[ext] theorem Z0a.ext'{x y:Z0a}(h_e_:x.e_=y.e_)(h_l_:x.l_=y.l_)(h_at_:x.at_=y.at_): x=y:=by
 obtain⟨a0,a1,a2⟩:=x
 obtain⟨c0,c1,c2⟩:=y
 simp only at h_e_ h_l_ h_at_
 subst h_e_ h_l_ h_at_
 rfl
def Z0a.zero: Z0a:={e_:=K0c.zero,l_:=⟨.nil,[],fun _=>rfl⟩,at_:=0}
instance:Inhabited Z0a:=⟨Z0a.zero⟩
theorem Z0a.zcv: z131=Z0a.zero.cv:=by
 simp only[z131,Z0a.zero,Z0a.cv,K0c.zcv,List.map_replicate,Lst.cv,List.map_nil]
theorem Z0a.shape(x:Z0a): x.cv.shape=sh131:=by simp only[Z0a.cv,sh131,CV.shape,CV.shapes,K0c.shape,Lst.shape]
theorem Z0a.has(x:Z0a)(j:Nat): x.cv.has j ↔ x.e_.cv.has j\/x.l_.tl=.own j:=by simp[Z0a.cv,CV.has,CV.hasL,Lst.has _ Q0c.nohas]
theorem Z0a.inj{x y:Z0a}(h:x.cv=y.cv): x=y:=by
 simp only[Z0a.cv,CV.agg.injEq,List.cons.injEq,and_true]at h
 obtain⟨h0,h1,h2⟩:=h
 refine Z0a.ext' (K0c.injF _ _ h0) ((Lst.injF Q0c.injF) _ _ h1) (I_inj _ _ h2)
theorem Z0a.injF(x y:Z0a)(h:x.cv=y.cv): x=y:=Z0a.inj h
theorem Z0a.inj_iff(x y:Z0a): x.cv=y.cv ↔ x=y:=⟨Z0a.inj,fun h=>by rw[h]⟩
theorem Z0a.shOk(x:Z0a): Cl.shOk x.cv sh131=true:=K0n (Z0a.shape x) rfl
theorem Z0a.at_0(x:Z0a)(q:List Nat): x.cv.at (0::q)=(K0c.cv x.e_).at q:=rfl
def Z0a.upd_0(x:Z0a)(v:CV): CV:=.agg [v,(Lst.cv Q0c.cv) x.l_,I x.at_]
theorem Z0a.set_0(x:Z0a)(q:List Nat)(v:CV): x.cv.set (0::q) v=Z0a.upd_0 x ((K0c.cv x.e_).set q v):=rfl
theorem Z0a.fold_0(x:Z0a)(y:K0c): Z0a.upd_0 x (K0c.cv y)=({x with e_:=y}:Z0a).cv:=rfl
theorem Z0a.fld_0(x:Z0a): qfield C 131 x.cv 0=some (K0c.cv x.e_):=X0d C tt131 (Z0a.shape x) rfl tt39 rfl (K0c.shOk _)
theorem Z0a.sub_0(q:List Nat)(z:Shape): subEq sh131 (0::q) z=subEq sh39 q z:=rfl
theorem Z0a.at_1(x:Z0a)(q:List Nat): x.cv.at (1::q)=((Lst.cv Q0c.cv) x.l_).at q:=rfl
def Z0a.upd_1(x:Z0a)(v:CV): CV:=.agg [K0c.cv x.e_,v,I x.at_]
theorem Z0a.set_1(x:Z0a)(q:List Nat)(v:CV): x.cv.set (1::q) v=Z0a.upd_1 x (((Lst.cv Q0c.cv) x.l_).set q v):=rfl
theorem Z0a.fold_1(x:Z0a)(y:Lst Q0c): Z0a.upd_1 x ((Lst.cv Q0c.cv) y)=({x with l_:=y}:Z0a).cv:=rfl
theorem Z0a.fld_1(x:Z0a): qfield C 131 x.cv 1=some ((Lst.cv Q0c.cv) x.l_):=X0d C tt131 (Z0a.shape x) rfl tt23 rfl rfl
theorem Z0a.sub_1(q:List Nat)(z:Shape): subEq sh131 (1::q) z=subEq sh23 q z:=rfl
theorem Z0a.at_2(x:Z0a)(q:List Nat): x.cv.at (2::q)=(I x.at_).at q:=rfl
def Z0a.upd_2(x:Z0a)(v:CV): CV:=.agg [K0c.cv x.e_,(Lst.cv Q0c.cv) x.l_,v]
theorem Z0a.set_2(x:Z0a)(q:List Nat)(v:CV): x.cv.set (2::q) v=Z0a.upd_2 x ((I x.at_).set q v):=rfl
theorem Z0a.fold_2(x:Z0a)(y:Int): Z0a.upd_2 x (I y)=({x with at_:=y}:Z0a).cv:=rfl
theorem Z0a.fld_2(x:Z0a): qfield C 131 x.cv 2=some (I x.at_):=X0d C tt131 (Z0a.shape x) rfl tt3 rfl rfl
theorem Z0a.sub_2(q:List Nat)(z:Shape): subEq sh131 (2::q) z=subEq sh3 q z:=rfl
theorem Z0a.sub_nil: subEq sh131 [] sh131=true:=by simp[subEq,Shape.sub]
theorem Z0a.alloc: allocObj C (.alloc 131)=some (.var sh131 Z0a.zero.cv):=by simp only[allocObj,tt131,ti131,Z0a.zcv]
theorem Z0a.xalloc(p:Hp): xalloc C p 131=.ret (.ptr p.n []) (p.new (.var sh131 Z0a.zero.cv)):=by simp only[Cl.xalloc,tt131,ti131,Z0a.zcv]
theorem Z0a.xbox(p:Hp)(x:Z0a): xbox C p 131 x.cv=.ret (.ptr p.n []) (p.new (.var sh131 x.cv)):=by
 have h:Cl.shOk x.cv ti131.sh=true:=Z0a.shOk x
 simp only[Cl.xbox,tt131,h,cond_true];rfl
theorem Z0a.bld_0_1(a0:K0c)(a1:Lst Q0c): qbuild C 131 [(0,K0c.cv a0),(1,(Lst.cv Q0c.cv) a1)]=some (({e_:=a0,l_:=a1,at_:=0}:Z0a).cv):=Y0e C tt131 (by simp only[partsOk,setAll,CV.shape,K0c.shape,Lst.shape,sh131,List.all_cons,List.all_nil,List.getElem?_cons_zero,List.getElem?_cons_succ,Bool.and_true,decide_true]) rfl
structure X0b where
 c_:K0a
 s_:Y0a
 row:Lst Q0b
 shots:Lst Q0a
def X0b.cv(x:X0b): CV:=.agg [K0a.cv x.c_,Y0a.cv x.s_,(Lst.cv Q0b.cv) x.row,(Lst.cv Q0a.cv) x.shots]
@[ext] theorem X0b.ext'{x y:X0b}(h_c_:x.c_=y.c_)(h_s_:x.s_=y.s_)(h_row:x.row=y.row)(h_shots:x.shots=y.shots): x=y:=by
 obtain⟨a0,a1,a2,a3⟩:=x
 obtain⟨c0,c1,c2,c3⟩:=y
 simp only at h_c_ h_s_ h_row h_shots
 subst h_c_ h_s_ h_row h_shots
 rfl
def X0b.zero: X0b:={c_:=K0a.zero,s_:=Y0a.zero,row:=⟨.nil,[],fun _=>rfl⟩,shots:=⟨.nil,[],fun _=>rfl⟩}
instance:Inhabited X0b:=⟨X0b.zero⟩
theorem X0b.zcv: z186=X0b.zero.cv:=by
 simp only[z186,X0b.zero,X0b.cv,K0a.zcv,Y0a.zcv,List.map_replicate,Lst.cv,List.map_nil]
theorem X0b.shape(x:X0b): x.cv.shape=sh186:=by simp only[X0b.cv,sh186,CV.shape,CV.shapes,K0a.shape,Y0a.shape,Lst.shape]
theorem X0b.has(x:X0b)(j:Nat): x.cv.has j ↔ x.c_.cv.has j\/x.row.tl=.own j\/x.shots.tl=.own j:=by simp[X0b.cv,CV.has,CV.hasL,Y0a.nohas,Lst.has _ Q0b.nohas,Lst.has _ Q0a.nohas]
theorem X0b.inj{x y:X0b}(h:x.cv=y.cv): x=y:=by
 simp only[X0b.cv,CV.agg.injEq,List.cons.injEq,and_true]at h
 obtain⟨h0,h1,h2,h3⟩:=h
 refine X0b.ext' (K0a.injF _ _ h0) (Y0a.injF _ _ h1) ((Lst.injF Q0b.injF) _ _ h2) ((Lst.injF Q0a.injF) _ _ h3)
theorem X0b.injF(x y:X0b)(h:x.cv=y.cv): x=y:=X0b.inj h
theorem X0b.inj_iff(x y:X0b): x.cv=y.cv ↔ x=y:=⟨X0b.inj,fun h=>by rw[h]⟩
theorem X0b.shOk(x:X0b): Cl.shOk x.cv sh186=true:=K0n (X0b.shape x) rfl
theorem X0b.at_0(x:X0b)(q:List Nat): x.cv.at (0::q)=(K0a.cv x.c_).at q:=rfl
def X0b.upd_0(x:X0b)(v:CV): CV:=.agg [v,Y0a.cv x.s_,(Lst.cv Q0b.cv) x.row,(Lst.cv Q0a.cv) x.shots]
theorem X0b.set_0(x:X0b)(q:List Nat)(v:CV): x.cv.set (0::q) v=X0b.upd_0 x ((K0a.cv x.c_).set q v):=rfl
theorem X0b.fold_0(x:X0b)(y:K0a): X0b.upd_0 x (K0a.cv y)=({x with c_:=y}:X0b).cv:=rfl
theorem X0b.fld_0(x:X0b): qfield C 186 x.cv 0=some (K0a.cv x.c_):=X0d C tt186 (X0b.shape x) rfl tt61 rfl (K0a.shOk _)
theorem X0b.sub_0(q:List Nat)(z:Shape): subEq sh186 (0::q) z=subEq sh61 q z:=rfl
theorem X0b.at_1(x:X0b)(q:List Nat): x.cv.at (1::q)=(Y0a.cv x.s_).at q:=rfl
def X0b.upd_1(x:X0b)(v:CV): CV:=.agg [K0a.cv x.c_,v,(Lst.cv Q0b.cv) x.row,(Lst.cv Q0a.cv) x.shots]
theorem X0b.set_1(x:X0b)(q:List Nat)(v:CV): x.cv.set (1::q) v=X0b.upd_1 x ((Y0a.cv x.s_).set q v):=rfl
theorem X0b.fold_1(x:X0b)(y:Y0a): X0b.upd_1 x (Y0a.cv y)=({x with s_:=y}:X0b).cv:=rfl
theorem X0b.fld_1(x:X0b): qfield C 186 x.cv 1=some (Y0a.cv x.s_):=X0d C tt186 (X0b.shape x) rfl tt66 rfl (Y0a.shOk _)
theorem X0b.sub_1(q:List Nat)(z:Shape): subEq sh186 (1::q) z=subEq sh66 q z:=rfl
theorem X0b.at_2(x:X0b)(q:List Nat): x.cv.at (2::q)=((Lst.cv Q0b.cv) x.row).at q:=rfl
def X0b.upd_2(x:X0b)(v:CV): CV:=.agg [K0a.cv x.c_,Y0a.cv x.s_,v,(Lst.cv Q0a.cv) x.shots]
theorem X0b.set_2(x:X0b)(q:List Nat)(v:CV): x.cv.set (2::q) v=X0b.upd_2 x (((Lst.cv Q0b.cv) x.row).set q v):=rfl
theorem X0b.fold_2(x:X0b)(y:Lst Q0b): X0b.upd_2 x ((Lst.cv Q0b.cv) y)=({x with row:=y}:X0b).cv:=rfl
theorem X0b.fld_2(x:X0b): qfield C 186 x.cv 2=some ((Lst.cv Q0b.cv) x.row):=X0d C tt186 (X0b.shape x) rfl tt108 rfl rfl
theorem X0b.sub_2(q:List Nat)(z:Shape): subEq sh186 (2::q) z=subEq sh108 q z:=rfl
theorem X0b.at_3(x:X0b)(q:List Nat): x.cv.at (3::q)=((Lst.cv Q0a.cv) x.shots).at q:=rfl
def X0b.upd_3(x:X0b)(v:CV): CV:=.agg [K0a.cv x.c_,Y0a.cv x.s_,(Lst.cv Q0b.cv) x.row,v]
theorem X0b.set_3(x:X0b)(q:List Nat)(v:CV): x.cv.set (3::q) v=X0b.upd_3 x (((Lst.cv Q0a.cv) x.shots).set q v):=rfl
theorem X0b.fold_3(x:X0b)(y:Lst Q0a): X0b.upd_3 x ((Lst.cv Q0a.cv) y)=({x with shots:=y}:X0b).cv:=rfl
theorem X0b.fld_3(x:X0b): qfield C 186 x.cv 3=some ((Lst.cv Q0a.cv) x.shots):=X0d C tt186 (X0b.shape x) rfl tt37 rfl rfl
theorem X0b.sub_3(q:List Nat)(z:Shape): subEq sh186 (3::q) z=subEq sh37 q z:=rfl
theorem X0b.sub_nil: subEq sh186 [] sh186=true:=by simp[subEq,Shape.sub]
theorem X0b.alloc: allocObj C (.alloc 186)=some (.var sh186 X0b.zero.cv):=by simp only[allocObj,tt186,ti186,X0b.zcv]
theorem X0b.xalloc(p:Hp): xalloc C p 186=.ret (.ptr p.n []) (p.new (.var sh186 X0b.zero.cv)):=by simp only[Cl.xalloc,tt186,ti186,X0b.zcv]
theorem X0b.xbox(p:Hp)(x:X0b): xbox C p 186 x.cv=.ret (.ptr p.n []) (p.new (.var sh186 x.cv)):=by
 have h:Cl.shOk x.cv ti186.sh=true:=X0b.shOk x
 simp only[Cl.xbox,tt186,h,cond_true];rfl
theorem X0b.bld_0_1_2(a0:K0a)(a1:Y0a)(a2:Lst Q0b): qbuild C 186 [(0,K0a.cv a0),(1,Y0a.cv a1),(2,(Lst.cv Q0b.cv) a2)]=some (({c_:=a0,s_:=a1,row:=a2,shots:=⟨.nil,[],fun _=>rfl⟩}:X0b).cv):=Y0e C tt186 (by simp only[partsOk,setAll,CV.shape,K0a.shape,Y0a.shape,Lst.shape,sh186,List.all_cons,List.all_nil,List.getElem?_cons_zero,List.getElem?_cons_succ,Bool.and_true,decide_true]) rfl
structure Z0b where
 f_:X0c
def Z0b.cv(x:Z0b): CV:=.agg [X0c.cv x.f_]
@[ext] theorem Z0b.ext'{x y:Z0b}(h_f_:x.f_=y.f_): x=y:=by
 obtain⟨a0⟩:=x
 obtain⟨c0⟩:=y
 simp only at h_f_
 subst h_f_
 rfl
def Z0b.zero: Z0b:={f_:=X0c.zero}
instance:Inhabited Z0b:=⟨Z0b.zero⟩
theorem Z0b.zcv: z194=Z0b.zero.cv:=by
 simp only[z194,Z0b.zero,Z0b.cv,X0c.zcv,List.map_replicate,Lst.cv,List.map_nil]
theorem Z0b.shape(x:Z0b): x.cv.shape=sh194:=by simp only[Z0b.cv,sh194,CV.shape,CV.shapes,X0c.shape,Lst.shape]
theorem Z0b.nohas(x:Z0b)(j:Nat): ¬x.cv.has j:=by simp[Z0b.cv,CV.has,CV.hasL,X0c.nohas]
instance:DecidableEq Z0b:=fun x y=>decidable_of_iff (x.f_=y.f_) ⟨fun h=>Z0b.ext' h,fun h=>by subst h;simp⟩
theorem Z0b.inj{x y:Z0b}(h:x.cv=y.cv): x=y:=by
 simp only[Z0b.cv,CV.agg.injEq,List.cons.injEq,and_true]at h
 have h0:=h
 refine Z0b.ext' (X0c.injF _ _ h0)
theorem Z0b.injF(x y:Z0b)(h:x.cv=y.cv): x=y:=Z0b.inj h
theorem Z0b.inj_iff(x y:Z0b): x.cv=y.cv ↔ x=y:=⟨Z0b.inj,fun h=>by rw[h]⟩
theorem Z0b.shOk(x:Z0b): Cl.shOk x.cv sh194=true:=K0n (Z0b.shape x) rfl
theorem Z0b.eq(d:Nat)(x y:Z0b): eqCV C (d+3) 194 x.cv y.cv=some (decide (x=y)):=by
 refine(K0x C (d:=d+2) tt194 (Z0b.shape x) (Z0b.shape y) (X0f (X0c.eq (d+0) _ _) rfl)).trans (congrArg some ?_)
 rw[Bool.eq_iff_iff]
 simp only[Bool.and_eq_true,decide_eq_true_eq,and_true]
 exact⟨fun h=>Z0b.ext' h,fun h=>by subst h;simp⟩
theorem Z0b.eql(x y:Z0b)(b:Bool): qbin C .eql 194 b x.cv y.cv=some (Bo (decide (x=y))):=by
 have h:=Z0b.eq 9 x y
 unfold Z0b.cv at h ⊢
 simp only[qbin]
 rw[h];rfl
theorem Z0b.neq(x y:Z0b)(b:Bool): qbin C .neq 194 b x.cv y.cv=some (Bo (!decide (x=y))):=by
 have h:=Z0b.eq 9 x y
 unfold Z0b.cv at h ⊢
 simp only[qbin]
 rw[h];rfl
theorem Z0b.at_0(x:Z0b)(q:List Nat): x.cv.at (0::q)=(X0c.cv x.f_).at q:=rfl
def Z0b.upd_0(x:Z0b)(v:CV): CV:=.agg [v]
theorem Z0b.set_0(x:Z0b)(q:List Nat)(v:CV): x.cv.set (0::q) v=Z0b.upd_0 x ((X0c.cv x.f_).set q v):=rfl
theorem Z0b.fold_0(x:Z0b)(y:X0c): Z0b.upd_0 x (X0c.cv y)=({x with f_:=y}:Z0b).cv:=rfl
theorem Z0b.fld_0(x:Z0b): qfield C 194 x.cv 0=some (X0c.cv x.f_):=X0d C tt194 (Z0b.shape x) rfl tt44 rfl (X0c.shOk _)
theorem Z0b.sub_0(q:List Nat)(z:Shape): subEq sh194 (0::q) z=subEq sh44 q z:=rfl
theorem Z0b.sub_nil: subEq sh194 [] sh194=true:=by simp[subEq,Shape.sub]
theorem Z0b.alloc: allocObj C (.alloc 194)=some (.var sh194 Z0b.zero.cv):=by simp only[allocObj,tt194,ti194,Z0b.zcv]
theorem Z0b.xalloc(p:Hp): xalloc C p 194=.ret (.ptr p.n []) (p.new (.var sh194 Z0b.zero.cv)):=by simp only[Cl.xalloc,tt194,ti194,Z0b.zcv]
theorem Z0b.xbox(p:Hp)(x:Z0b): xbox C p 194 x.cv=.ret (.ptr p.n []) (p.new (.var sh194 x.cv)):=by
 have h:Cl.shOk x.cv ti194.sh=true:=Z0b.shOk x
 simp only[Cl.xbox,tt194,h,cond_true];rfl
theorem Z0b.bld_0(a0:X0c): qbuild C 194 [(0,X0c.cv a0)]=some (({f_:=a0}:Z0b).cv):=Y0e C tt194 (by simp only[partsOk,setAll,CV.shape,X0c.shape,sh194,List.all_cons,List.all_nil,List.getElem?_cons_zero,List.getElem?_cons_succ,Bool.and_true,decide_true]) rfl
structure Y0b where
 rate:Nat
 depth:Nat
 level:Nat
 last:Int
def Y0b.cv(x:Y0b): CV:=.agg [Fl x.rate,Fl x.depth,Fl x.level,I x.last]
@[ext] theorem Y0b.ext'{x y:Y0b}(h_rate:x.rate=y.rate)(h_depth:x.depth=y.depth)(h_level:x.level=y.level)(h_last:x.last=y.last): x=y:=by
 obtain⟨a0,a1,a2,a3⟩:=x
 obtain⟨c0,c1,c2,c3⟩:=y
 simp only at h_rate h_depth h_level h_last
 subst h_rate h_depth h_level h_last
 rfl
def Y0b.zero: Y0b:={rate:=0,depth:=0,level:=0,last:=0}
instance:Inhabited Y0b:=⟨Y0b.zero⟩
theorem Y0b.zcv: z223=Y0b.zero.cv:=by
 simp only[z223,Y0b.zero,Y0b.cv,List.map_replicate,Lst.cv,List.map_nil]
theorem Y0b.shape(x:Y0b): x.cv.shape=sh223:=by simp only[Y0b.cv,sh223,CV.shape,CV.shapes,Lst.shape]
theorem Y0b.nohas(x:Y0b)(j:Nat): ¬x.cv.has j:=by simp[Y0b.cv,CV.has,CV.hasL]
instance:DecidableEq Y0b:=fun x y=>decidable_of_iff (x.rate=y.rate/\x.depth=y.depth/\x.level=y.level/\x.last=y.last) ⟨fun h=>Y0b.ext' h.1 h.2.1 h.2.2.1 h.2.2.2,fun h=>by subst h;simp⟩
theorem Y0b.inj{x y:Y0b}(h:x.cv=y.cv): x=y:=by
 simp only[Y0b.cv,CV.agg.injEq,List.cons.injEq,and_true]at h
 obtain⟨h0,h1,h2,h3⟩:=h
 refine Y0b.ext' (Fl_inj _ _ h0) (Fl_inj _ _ h1) (Fl_inj _ _ h2) (I_inj _ _ h3)
theorem Y0b.injF(x y:Y0b)(h:x.cv=y.cv): x=y:=Y0b.inj h
theorem Y0b.inj_iff(x y:Y0b): x.cv=y.cv ↔ x=y:=⟨Y0b.inj,fun h=>by rw[h]⟩
theorem Y0b.shOk(x:Y0b): Cl.shOk x.cv sh223=true:=K0n (Y0b.shape x) rfl
theorem Y0b.at_0(x:Y0b)(q:List Nat): x.cv.at (0::q)=(Fl x.rate).at q:=rfl
def Y0b.upd_0(x:Y0b)(v:CV): CV:=.agg [v,Fl x.depth,Fl x.level,I x.last]
theorem Y0b.set_0(x:Y0b)(q:List Nat)(v:CV): x.cv.set (0::q) v=Y0b.upd_0 x ((Fl x.rate).set q v):=rfl
theorem Y0b.fold_0(x:Y0b)(y:Nat): Y0b.upd_0 x (Fl y)=({x with rate:=y}:Y0b).cv:=rfl
theorem Y0b.fld_0(x:Y0b): qfield C 223 x.cv 0=some (Fl x.rate):=X0d C tt223 (Y0b.shape x) rfl tt59 rfl rfl
theorem Y0b.sub_0(q:List Nat)(z:Shape): subEq sh223 (0::q) z=subEq sh59 q z:=rfl
theorem Y0b.at_1(x:Y0b)(q:List Nat): x.cv.at (1::q)=(Fl x.depth).at q:=rfl
def Y0b.upd_1(x:Y0b)(v:CV): CV:=.agg [Fl x.rate,v,Fl x.level,I x.last]
theorem Y0b.set_1(x:Y0b)(q:List Nat)(v:CV): x.cv.set (1::q) v=Y0b.upd_1 x ((Fl x.depth).set q v):=rfl
theorem Y0b.fold_1(x:Y0b)(y:Nat): Y0b.upd_1 x (Fl y)=({x with depth:=y}:Y0b).cv:=rfl
theorem Y0b.fld_1(x:Y0b): qfield C 223 x.cv 1=some (Fl x.depth):=X0d C tt223 (Y0b.shape x) rfl tt59 rfl rfl
theorem Y0b.sub_1(q:List Nat)(z:Shape): subEq sh223 (1::q) z=subEq sh59 q z:=rfl
theorem Y0b.at_2(x:Y0b)(q:List Nat): x.cv.at (2::q)=(Fl x.level).at q:=rfl
def Y0b.upd_2(x:Y0b)(v:CV): CV:=.agg [Fl x.rate,Fl x.depth,v,I x.last]
theorem Y0b.set_2(x:Y0b)(q:List Nat)(v:CV): x.cv.set (2::q) v=Y0b.upd_2 x ((Fl x.level).set q v):=rfl
theorem Y0b.fold_2(x:Y0b)(y:Nat): Y0b.upd_2 x (Fl y)=({x with level:=y}:Y0b).cv:=rfl
theorem Y0b.fld_2(x:Y0b): qfield C 223 x.cv 2=some (Fl x.level):=X0d C tt223 (Y0b.shape x) rfl tt59 rfl rfl
theorem Y0b.sub_2(q:List Nat)(z:Shape): subEq sh223 (2::q) z=subEq sh59 q z:=rfl
theorem Y0b.at_3(x:Y0b)(q:List Nat): x.cv.at (3::q)=(I x.last).at q:=rfl
def Y0b.upd_3(x:Y0b)(v:CV): CV:=.agg [Fl x.rate,Fl x.depth,Fl x.level,v]
theorem Y0b.set_3(x:Y0b)(q:List Nat)(v:CV): x.cv.set (3::q) v=Y0b.upd_3 x ((I x.last).set q v):=rfl
theorem Y0b.fold_3(x:Y0b)(y:Int): Y0b.upd_3 x (I y)=({x with last:=y}:Y0b).cv:=rfl
theorem Y0b.fld_3(x:Y0b): qfield C 223 x.cv 3=some (I x.last):=X0d C tt223 (Y0b.shape x) rfl tt3 rfl rfl
theorem Y0b.sub_3(q:List Nat)(z:Shape): subEq sh223 (3::q) z=subEq sh3 q z:=rfl
theorem Y0b.sub_nil: subEq sh223 [] sh223=true:=by simp[subEq,Shape.sub]
theorem Y0b.alloc: allocObj C (.alloc 223)=some (.var sh223 Y0b.zero.cv):=by simp only[allocObj,tt223,ti223,Y0b.zcv]
theorem Y0b.xalloc(p:Hp): xalloc C p 223=.ret (.ptr p.n []) (p.new (.var sh223 Y0b.zero.cv)):=by simp only[Cl.xalloc,tt223,ti223,Y0b.zcv]
theorem Y0b.xbox(p:Hp)(x:Y0b): xbox C p 223 x.cv=.ret (.ptr p.n []) (p.new (.var sh223 x.cv)):=by
 have h:Cl.shOk x.cv ti223.sh=true:=Y0b.shOk x
 simp only[Cl.xbox,tt223,h,cond_true];rfl
theorem Y0b.bld_0_1_2(a0:Nat)(a1:Nat)(a2:Nat): qbuild C 223 [(0,Fl a0),(1,Fl a1),(2,Fl a2)]=some (({rate:=a0,depth:=a1,level:=a2,last:=0}:Y0b).cv):=Y0e C tt223 (by simp only[partsOk,setAll,CV.shape,sh223,List.all_cons,List.all_nil,List.getElem?_cons_zero,List.getElem?_cons_succ,Bool.and_true,decide_true]) rfl
def Y0j:=zA @Q0c.shape<|zA @Q0c.shOk<|zA @Q0c.eql<|zA @Q0c.neq<|zA @Q0c.at_0<|zA @Q0c.set_0<|zA @Q0c.fold_0<|zA @Q0c.fld_0<|zA @Q0c.rfa_0<|zA @Q0c.sub_0<|zA @Q0c.at_1<|zA @Q0c.set_1<|zA @Q0c.fold_1<|zA @Q0c.fld_1<|zA @Q0c.rfa_1<|zA @Q0c.sub_1<|zA @Q0c.at_2<|zA @Q0c.set_2<|zA @Q0c.fold_2<|zA @Q0c.fld_2<|zA @Q0c.rfa_2<|zA @Q0c.sub_2<|zA @Q0c.sub_nil<|zA @Q0c.alloc<|zA @Q0c.xalloc<|zA @Q0c.xbox<|zA @Q0c.bld_0<|zA @Q0c.bld_0_1<|@Q0c.bld_0_1_2
def K02:=zA @V0b.shape<|zA @V0b.shOk<|zA @V0b.eql<|zA @V0b.neq<|zA @V0b.at_0<|zA @V0b.set_0<|zA @V0b.fold_0<|zA @V0b.fld_0<|zA @V0b.rfa_0<|zA @V0b.sub_0<|zA @V0b.at_1<|zA @V0b.set_1<|zA @V0b.fold_1<|zA @V0b.fld_1<|zA @V0b.rfa_1<|zA @V0b.sub_1<|zA @V0b.at_2<|zA @V0b.set_2<|zA @V0b.fold_2<|zA @V0b.fld_2<|zA @V0b.rfa_2<|zA @V0b.sub_2<|zA @V0b.sub_nil<|zA @V0b.alloc<|zA @V0b.xalloc<|@V0b.xbox
def Z0d:=zA @Q0a.shape<|zA @Q0a.shOk<|zA @Q0a.eql<|zA @Q0a.neq<|zA @Q0a.at_0<|zA @Q0a.set_0<|zA @Q0a.fold_0<|zA @Q0a.fld_0<|zA @Q0a.rfa_0<|zA @Q0a.sub_0<|zA @Q0a.at_1<|zA @Q0a.set_1<|zA @Q0a.fold_1<|zA @Q0a.fld_1<|zA @Q0a.rfa_1<|zA @Q0a.sub_1<|zA @Q0a.at_2<|zA @Q0a.set_2<|zA @Q0a.fold_2<|zA @Q0a.fld_2<|zA @Q0a.rfa_2<|zA @Q0a.sub_2<|zA @Q0a.at_3<|zA @Q0a.set_3<|zA @Q0a.fold_3<|zA @Q0a.fld_3<|zA @Q0a.rfa_3<|zA @Q0a.sub_3<|zA @Q0a.at_4<|zA @Q0a.set_4<|zA @Q0a.fold_4<|zA @Q0a.fld_4<|zA @Q0a.rfa_4<|zA @Q0a.sub_4<|zA @Q0a.at_5<|zA @Q0a.set_5<|zA @Q0a.fold_5<|zA @Q0a.fld_5<|zA @Q0a.rfa_5<|zA @Q0a.sub_5<|zA @Q0a.at_6<|zA @Q0a.set_6<|zA @Q0a.fold_6<|zA @Q0a.fld_6<|zA @Q0a.rfa_6<|zA @Q0a.sub_6<|zA @Q0a.at_7<|zA @Q0a.at_7k<|zA @Q0a.set_7<|zA @Q0a.set_7k<|zA @Q0a.fold_7k<|zA @Q0a.fold_7<|zA @Q0a.fld_7<|zA @Q0a.rfa_7<|zA @Q0a.sub_7k<|zA @Q0a.sub_7<|zA @Q0a.at_8<|zA @Q0a.set_8<|zA @Q0a.fold_8<|zA @Q0a.fld_8<|zA @Q0a.rfa_8<|zA @Q0a.sub_8<|zA @Q0a.sub_nil<|zA @Q0a.alloc<|zA @Q0a.xalloc<|zA @Q0a.xbox<|zA @Q0a.bld_none<|zA @Q0a.bld_0<|zA @Q0a.bld_0_1_2_3<|@Q0a.bld_0_1_2_3_4_5
def Q0h:=zA @K0b.shape<|zA @K0b.shOk<|zA @K0b.eql<|zA @K0b.neq<|zA @K0b.at_0<|zA @K0b.set_0<|zA @K0b.fold_0<|zA @K0b.fld_0<|zA @K0b.rfa_0<|zA @K0b.sub_0<|zA @K0b.at_1<|zA @K0b.set_1<|zA @K0b.fold_1<|zA @K0b.fld_1<|zA @K0b.rfa_1<|zA @K0b.sub_1<|zA @K0b.at_2<|zA @K0b.set_2<|zA @K0b.fold_2<|zA @K0b.fld_2<|zA @K0b.rfa_2<|zA @K0b.sub_2<|zA @K0b.sub_nil<|zA @K0b.alloc<|zA @K0b.xalloc<|zA @K0b.xbox<|zA @K0b.bld_none<|zA @K0b.bld_0_1<|zA @K0b.bld_0_1_2<|@K0b.bld_1
def X0k:=zA @K0c.shape<|zA @K0c.shOk<|zA @K0c.at_0<|zA @K0c.set_0<|zA @K0c.fold_0<|zA @K0c.fld_0<|zA @K0c.sub_0<|zA @K0c.at_1<|zA @K0c.set_1<|zA @K0c.fold_1<|zA @K0c.fld_1<|zA @K0c.sub_1<|zA @K0c.at_2<|zA @K0c.set_2<|zA @K0c.fold_2<|zA @K0c.fld_2<|zA @K0c.sub_2<|zA @K0c.at_3<|zA @K0c.set_3<|zA @K0c.fold_3<|zA @K0c.fld_3<|zA @K0c.sub_3<|zA @K0c.at_4<|zA @K0c.set_4<|zA @K0c.fold_4<|zA @K0c.fld_4<|zA @K0c.sub_4<|zA @K0c.sub_nil<|zA @K0c.alloc<|zA @K0c.xalloc<|zA @K0c.xbox<|zA @K0c.bld_0_1_2_3<|@K0c.bld_0_1_2_3_4
def K0r:=zA @X0c.shape<|zA @X0c.shOk<|zA @X0c.eql<|zA @X0c.neq<|zA @X0c.at_0<|zA @X0c.set_0<|zA @X0c.fold_0<|zA @X0c.fld_0<|zA @X0c.sub_0<|zA @X0c.at_1<|zA @X0c.set_1<|zA @X0c.fold_1<|zA @X0c.fld_1<|zA @X0c.sub_1<|zA @X0c.sub_nil<|zA @X0c.alloc<|zA @X0c.xalloc<|zA @X0c.xbox<|zA @X0c.bld_none<|zA @X0c.bld_0<|@X0c.bld_0_1
def Q0q:=zA @V0c.shape<|zA @V0c.shOk<|zA @V0c.at_0<|zA @V0c.set_0<|zA @V0c.fold_0<|zA @V0c.fld_0<|zA @V0c.sub_0<|zA @V0c.at_1<|zA @V0c.set_1<|zA @V0c.fold_1<|zA @V0c.fld_1<|zA @V0c.sub_1<|zA @V0c.at_2<|zA @V0c.set_2<|zA @V0c.fold_2<|zA @V0c.fld_2<|zA @V0c.sub_2<|zA @V0c.at_3<|zA @V0c.set_3<|zA @V0c.fold_3<|zA @V0c.fld_3<|zA @V0c.sub_3<|zA @V0c.at_4<|zA @V0c.set_4<|zA @V0c.fold_4<|zA @V0c.fld_4<|zA @V0c.sub_4<|zA @V0c.sub_nil<|zA @V0c.alloc<|zA @V0c.xalloc<|zA @V0c.xbox<|@V0c.bld_0_1_2_3
def K0u:=zA @V0a.shape<|zA @V0a.shOk<|zA @V0a.at_0<|zA @V0a.set_0<|zA @V0a.fold_0<|zA @V0a.fld_0<|zA @V0a.sub_0<|zA @V0a.at_1<|zA @V0a.set_1<|zA @V0a.fold_1<|zA @V0a.fld_1<|zA @V0a.sub_1<|zA @V0a.at_2<|zA @V0a.set_2<|zA @V0a.fold_2<|zA @V0a.fld_2<|zA @V0a.sub_2<|zA @V0a.at_3<|zA @V0a.set_3<|zA @V0a.fold_3<|zA @V0a.fld_3<|zA @V0a.sub_3<|zA @V0a.at_4<|zA @V0a.set_4<|zA @V0a.fold_4<|zA @V0a.fld_4<|zA @V0a.sub_4<|zA @V0a.at_5<|zA @V0a.set_5<|zA @V0a.fold_5<|zA @V0a.fld_5<|zA @V0a.sub_5<|zA @V0a.at_6<|zA @V0a.set_6<|zA @V0a.fold_6<|zA @V0a.fld_6<|zA @V0a.sub_6<|zA @V0a.at_7<|zA @V0a.set_7<|zA @V0a.fold_7<|zA @V0a.fld_7<|zA @V0a.sub_7<|zA @V0a.sub_nil<|zA @V0a.alloc<|zA @V0a.xalloc<|@V0a.xbox
def X0e:=zA @K0a.shape<|zA @K0a.shOk<|zA @K0a.at_0<|zA @K0a.set_0<|zA @K0a.fold_0<|zA @K0a.fld_0<|zA @K0a.sub_0<|zA @K0a.at_1<|zA @K0a.set_1<|zA @K0a.fold_1<|zA @K0a.fld_1<|zA @K0a.sub_1<|zA @K0a.at_2<|zA @K0a.set_2<|zA @K0a.fold_2<|zA @K0a.fld_2<|zA @K0a.sub_2<|zA @K0a.at_3<|zA @K0a.set_3<|zA @K0a.fold_3<|zA @K0a.fld_3<|zA @K0a.sub_3<|zA @K0a.at_4<|zA @K0a.set_4<|zA @K0a.fold_4<|zA @K0a.fld_4<|zA @K0a.sub_4<|zA @K0a.at_5<|zA @K0a.set_5<|zA @K0a.fold_5<|zA @K0a.fld_5<|zA @K0a.sub_5<|zA @K0a.at_6<|zA @K0a.set_6<|zA @K0a.fold_6<|zA @K0a.fld_6<|zA @K0a.sub_6<|zA @K0a.at_7<|zA @K0a.set_7<|zA @K0a.fold_7<|zA @K0a.fld_7<|zA @K0a.sub_7<|zA @K0a.at_8<|zA @K0a.set_8<|zA @K0a.fold_8<|zA @K0a.fld_8<|zA @K0a.sub_8<|zA @K0a.at_9<|zA @K0a.set_9<|zA @K0a.fold_9<|zA @K0a.fld_9<|zA @K0a.sub_9<|zA @K0a.sub_nil<|zA @K0a.alloc<|zA @K0a.xalloc<|zA @K0a.xbox<|zA @K0a.bld_0_1_2_3_4_5<|zA @K0a.bld_0_1_4_6_7_8<|@K0a.bld_0_1_4_6_7_9
def Q0f:=zA @Y0a.shape<|zA @Y0a.shOk<|zA @Y0a.eql<|zA @Y0a.neq<|zA @Y0a.at_0<|zA @Y0a.set_0<|zA @Y0a.fold_0<|zA @Y0a.fld_0<|zA @Y0a.sub_0<|zA @Y0a.at_1<|zA @Y0a.set_1<|zA @Y0a.fold_1<|zA @Y0a.fld_1<|zA @Y0a.sub_1<|zA @Y0a.at_2<|zA @Y0a.at_2k<|zA @Y0a.set_2<|zA @Y0a.set_2k<|zA @Y0a.fold_2k<|zA @Y0a.fold_2<|zA @Y0a.fld_2<|zA @Y0a.sub_2k<|zA @Y0a.sub_2<|zA @Y0a.at_3<|zA @Y0a.at_3k<|zA @Y0a.set_3<|zA @Y0a.set_3k<|zA @Y0a.fold_3k<|zA @Y0a.fold_3<|zA @Y0a.fld_3<|zA @Y0a.sub_3k<|zA @Y0a.sub_3<|zA @Y0a.sub_nil<|zA @Y0a.alloc<|zA @Y0a.xalloc<|zA @Y0a.xbox<|zA @Y0a.bld_none<|zA @Y0a.bld_0_1<|@Y0a.bld_1
def Z0m:=zA @Q0b.shape<|zA @Q0b.shOk<|zA @Q0b.eql<|zA @Q0b.neq<|zA @Q0b.at_0<|zA @Q0b.set_0<|zA @Q0b.fold_0<|zA @Q0b.fld_0<|zA @Q0b.rfa_0<|zA @Q0b.sub_0<|zA @Q0b.at_1<|zA @Q0b.set_1<|zA @Q0b.fold_1<|zA @Q0b.fld_1<|zA @Q0b.rfa_1<|zA @Q0b.sub_1<|zA @Q0b.sub_nil<|zA @Q0b.alloc<|zA @Q0b.xalloc<|zA @Q0b.xbox<|zA @Q0b.bld_0<|@Q0b.bld_0_1
def K0f:=zA @Z0a.shape<|zA @Z0a.shOk<|zA @Z0a.at_0<|zA @Z0a.set_0<|zA @Z0a.fold_0<|zA @Z0a.fld_0<|zA @Z0a.sub_0<|zA @Z0a.at_1<|zA @Z0a.set_1<|zA @Z0a.fold_1<|zA @Z0a.fld_1<|zA @Z0a.sub_1<|zA @Z0a.at_2<|zA @Z0a.set_2<|zA @Z0a.fold_2<|zA @Z0a.fld_2<|zA @Z0a.sub_2<|zA @Z0a.sub_nil<|zA @Z0a.alloc<|zA @Z0a.xalloc<|zA @Z0a.xbox<|@Z0a.bld_0_1
def Z0i:=zA @X0b.shape<|zA @X0b.shOk<|zA @X0b.at_0<|zA @X0b.set_0<|zA @X0b.fold_0<|zA @X0b.fld_0<|zA @X0b.sub_0<|zA @X0b.at_1<|zA @X0b.set_1<|zA @X0b.fold_1<|zA @X0b.fld_1<|zA @X0b.sub_1<|zA @X0b.at_2<|zA @X0b.set_2<|zA @X0b.fold_2<|zA @X0b.fld_2<|zA @X0b.sub_2<|zA @X0b.at_3<|zA @X0b.set_3<|zA @X0b.fold_3<|zA @X0b.fld_3<|zA @X0b.sub_3<|zA @X0b.sub_nil<|zA @X0b.alloc<|zA @X0b.xalloc<|zA @X0b.xbox<|@X0b.bld_0_1_2
def Q0z:=zA @Z0b.shape<|zA @Z0b.shOk<|zA @Z0b.eql<|zA @Z0b.neq<|zA @Z0b.at_0<|zA @Z0b.set_0<|zA @Z0b.fold_0<|zA @Z0b.fld_0<|zA @Z0b.sub_0<|zA @Z0b.sub_nil<|zA @Z0b.alloc<|zA @Z0b.xalloc<|zA @Z0b.xbox<|@Z0b.bld_0
def Z08:=zA @Y0b.shape<|zA @Y0b.shOk<|zA @Y0b.at_0<|zA @Y0b.set_0<|zA @Y0b.fold_0<|zA @Y0b.fld_0<|zA @Y0b.sub_0<|zA @Y0b.at_1<|zA @Y0b.set_1<|zA @Y0b.fold_1<|zA @Y0b.fld_1<|zA @Y0b.sub_1<|zA @Y0b.at_2<|zA @Y0b.set_2<|zA @Y0b.fold_2<|zA @Y0b.fld_2<|zA @Y0b.sub_2<|zA @Y0b.at_3<|zA @Y0b.set_3<|zA @Y0b.fold_3<|zA @Y0b.fld_3<|zA @Y0b.sub_3<|zA @Y0b.sub_nil<|zA @Y0b.alloc<|zA @Y0b.xalloc<|zA @Y0b.xbox<|@Y0b.bld_0_1_2
theorem zsl32(l:List Int)(n:Int)(h:l.length=4)(hn:0<=n/\n<4): qindex C 32 (.agg (l.map I)) (I n)=some (I (nth l n.toNat)):=Q1g C I tt32 rfl tt3 (fun _=>rfl) l n h hn
theorem zsl63(l:List Q0a)(n:Int)(h:l.length=16)(hn:0<=n/\n<16): qindex C 63 (.agg (l.map Q0a.cv)) (I n)=some (Q0a.cv (nth l n.toNat)):=Q1g C Q0a.cv tt63 rfl tt34 Q0a.shape l n h hn
theorem zsl64(l:List Int)(n:Int)(h:l.length=8)(hn:0<=n/\n<8): qindex C 64 (.agg (l.map I)) (I n)=some (I (nth l n.toNat)):=Q1g C I tt64 rfl tt3 (fun _=>rfl) l n h hn
theorem sl_len22(s:Lst V0b)(h:Heap): qlen C h 22 (Lst.cv V0b.cv s)=some (I s.l.length):=by simp only[qlen,tt22,ti22,Lst.cv,List.length_map]
theorem sl_idx22(s:Lst V0b)(p:Hp)(n:Int)(h:0<=n/\n<s.l.length): xindexAddr C p 22 (Lst.cv V0b.cv s) (I n)=some (.rptr (V0b.cv (nth s.l n.toNat))):=by
 have hl:n.toNat<s.l.length:=by omega
 show qindexAddr C p.h 22 (.lst s.tl (s.l.map V0b.cv)) (I n)=_
 simp only[qindexAddr,tt22,ti22,tt31,List.length_map,h,and_self,if_true,List.getElem?_map,Q0w hl,Option.map_some]
 rw[if_pos]
 exact V0b.shape _
theorem sl_src22(s:Lst V0b)(h:Heap): srcOf C h 22 (Lst.cv V0b.cv s)=some (s.l.map V0b.cv):=by simp only[srcOf,tt22,ti22,Lst.cv]
theorem Q1w: isSliceT C 22=true:=by simp only[isSliceT,tt22,ti22]
theorem sl_app22(p:Hp)(b s:Lst V0b)(h:b.l.length+s.l.length<=5864062014805): xappend C false p 22 22 (Lst.cv V0b.cv b) (Lst.cv V0b.cv s)=appT V0b.cv p b s:=Z0o C V0b.cv tt22 tt31 V0b.shOk p b s (by show _*24<=_;omega) (by omega)
theorem V1r(b s:Lst V0b): Lst.cv V0b.cv b=Lst.cv V0b.cv s ↔ b=s:=⟨fun h=>Lst.inj V0b.injF h,fun h=>by rw[h]⟩
theorem sl_lenl22(tl:Tail)(l:List CV)(h:Heap): qlen C h 22 (.lst tl l)=some (I l.length):=by simp only[qlen,tt22,ti22]
theorem sl_lens22(i:Nat)(q:List Nat)(o n:Nat)(h:Heap): qlen C h 22 (.slc i q o n)=some (I n):=by simp only[qlen,tt22,ti22]
def zsl22:=zA @sl_lenl22<|zA @sl_lens22<|zA @sl_len22<|zA @sl_idx22<|zA @sl_src22<|zA @sl_app22<|zA (Y1a C Q1w)<|zA (K00 C Q1w)<|Q1w
theorem sl_len23(s:Lst Q0c)(h:Heap): qlen C h 23 (Lst.cv Q0c.cv s)=some (I s.l.length):=by simp only[qlen,tt23,ti23,Lst.cv,List.length_map]
theorem sl_idx23(s:Lst Q0c)(p:Hp)(n:Int)(h:0<=n/\n<s.l.length): xindexAddr C p 23 (Lst.cv Q0c.cv s) (I n)=some (.rptr (Q0c.cv (nth s.l n.toNat))):=by
 have hl:n.toNat<s.l.length:=by omega
 show qindexAddr C p.h 23 (.lst s.tl (s.l.map Q0c.cv)) (I n)=_
 simp only[qindexAddr,tt23,ti23,tt29,List.length_map,h,and_self,if_true,List.getElem?_map,Q0w hl,Option.map_some]
 rw[if_pos]
 exact Q0c.shape _
theorem sl_src23(s:Lst Q0c)(h:Heap): srcOf C h 23 (Lst.cv Q0c.cv s)=some (s.l.map Q0c.cv):=by simp only[srcOf,tt23,ti23,Lst.cv]
theorem X1y: isSliceT C 23=true:=by simp only[isSliceT,tt23,ti23]
theorem sl_b23_0: qbuildSlice C 23 0 []=some (Lst.cv Q0c.cv ⟨.exact,[],nofun⟩):=Z0f C tt23 tt29 (by decide) (by decide) rfl rfl
theorem sl_b23_1: ∀(a0:Q0c),qbuildSlice C 23 1 [(0,Q0c.cv a0)]=some (Lst.cv Q0c.cv ⟨.exact,[a0],nofun⟩):=fun a0=>Z0f C tt23 tt29 (by decide) (by decide) (by simp only[partsOk,List.all_cons,List.all_nil,List.replicate_succ,List.replicate_zero,List.getElem?_cons_zero,List.getElem?_cons_succ,CV.shape,Q0c.shape,Bool.and_true,decide_true];try rfl) rfl
theorem sl_b23_2: ∀(a0:Q0c) (a1:Q0c),qbuildSlice C 23 2 [(0,Q0c.cv a0),(1,Q0c.cv a1)]=some (Lst.cv Q0c.cv ⟨.exact,[a0,a1],nofun⟩):=fun a0 a1=>Z0f C tt23 tt29 (by decide) (by decide) (by simp only[partsOk,List.all_cons,List.all_nil,List.replicate_succ,List.replicate_zero,List.getElem?_cons_zero,List.getElem?_cons_succ,CV.shape,Q0c.shape,Bool.and_true,decide_true];try rfl) rfl
theorem sl_b23_3: ∀(a0:Q0c) (a1:Q0c) (a2:Q0c),qbuildSlice C 23 3 [(0,Q0c.cv a0),(1,Q0c.cv a1),(2,Q0c.cv a2)]=some (Lst.cv Q0c.cv ⟨.exact,[a0,a1,a2],nofun⟩):=fun a0 a1 a2=>Z0f C tt23 tt29 (by decide) (by decide) (by simp only[partsOk,List.all_cons,List.all_nil,List.replicate_succ,List.replicate_zero,List.getElem?_cons_zero,List.getElem?_cons_succ,CV.shape,Q0c.shape,Bool.and_true,decide_true];try rfl) rfl
theorem sl_b23_4: ∀(a0:Q0c) (a1:Q0c) (a2:Q0c) (a3:Q0c),qbuildSlice C 23 4 [(0,Q0c.cv a0),(1,Q0c.cv a1),(2,Q0c.cv a2),(3,Q0c.cv a3)]=some (Lst.cv Q0c.cv ⟨.exact,[a0,a1,a2,a3],nofun⟩):=fun a0 a1 a2 a3=>Z0f C tt23 tt29 (by decide) (by decide) (by simp only[partsOk,List.all_cons,List.all_nil,List.replicate_succ,List.replicate_zero,List.getElem?_cons_zero,List.getElem?_cons_succ,CV.shape,Q0c.shape,Bool.and_true,decide_true];try rfl) rfl
theorem sl_app23(p:Hp)(b s:Lst Q0c)(h:b.l.length+s.l.length<=5864062014805): xappend C false p 23 23 (Lst.cv Q0c.cv b) (Lst.cv Q0c.cv s)=appT Q0c.cv p b s:=Z0o C Q0c.cv tt23 tt29 Q0c.shOk p b s (by show _*24<=_;omega) (by omega)
theorem K0j(b s:Lst Q0c): Lst.cv Q0c.cv b=Lst.cv Q0c.cv s ↔ b=s:=⟨fun h=>Lst.inj Q0c.injF h,fun h=>by rw[h]⟩
theorem sl_lenl23(tl:Tail)(l:List CV)(h:Heap): qlen C h 23 (.lst tl l)=some (I l.length):=by simp only[qlen,tt23,ti23]
theorem sl_lens23(i:Nat)(q:List Nat)(o n:Nat)(h:Heap): qlen C h 23 (.slc i q o n)=some (I n):=by simp only[qlen,tt23,ti23]
def zsl23:=zA @sl_lenl23<|zA @sl_lens23<|zA @sl_len23<|zA @sl_idx23<|zA @sl_src23<|zA @sl_app23<|zA (Y1a C X1y)<|zA (K00 C X1y)<|zA @sl_b23_0<|zA @sl_b23_1<|zA @sl_b23_2<|zA @sl_b23_3<|zA @sl_b23_4<|X1y
theorem sl_len24(s:Lst Int)(h:Heap): qlen C h 24 (Lst.cv I s)=some (I s.l.length):=by simp only[qlen,tt24,ti24,Lst.cv,List.length_map]
theorem sl_idx24(s:Lst Int)(p:Hp)(n:Int)(h:0<=n/\n<s.l.length): xindexAddr C p 24 (Lst.cv I s) (I n)=some (.rptr (I (nth s.l n.toNat))):=by
 have hl:n.toNat<s.l.length:=by omega
 show qindexAddr C p.h 24 (.lst s.tl (s.l.map I)) (I n)=_
 simp only[qindexAddr,tt24,ti24,tt3,List.length_map,h,and_self,if_true,List.getElem?_map,Q0w hl,Option.map_some]
 rw[if_pos]
 exact rfl
theorem sl_src24(s:Lst Int)(h:Heap): srcOf C h 24 (Lst.cv I s)=some (s.l.map I):=by simp only[srcOf,tt24,ti24,Lst.cv]
theorem X1x: isSliceT C 24=true:=by simp only[isSliceT,tt24,ti24]
theorem sl_b24_1: ∀(a0:Int),qbuildSlice C 24 1 [(0,I a0)]=some (Lst.cv I ⟨.exact,[a0],nofun⟩):=fun a0=>Z0f C tt24 tt3 (by decide) (by decide) (by simp only[partsOk,List.all_cons,List.all_nil,List.replicate_succ,List.replicate_zero,List.getElem?_cons_zero,List.getElem?_cons_succ,CV.shape,Bool.and_true,decide_true];try rfl) rfl
theorem sl_b24_8: ∀(a0:Int) (a1:Int) (a2:Int) (a3:Int) (a4:Int) (a5:Int) (a6:Int) (a7:Int),qbuildSlice C 24 8 [(0,I a0),(1,I a1),(2,I a2),(3,I a3),(4,I a4),(5,I a5),(6,I a6),(7,I a7)]=some (Lst.cv I ⟨.exact,[a0,a1,a2,a3,a4,a5,a6,a7],nofun⟩):=fun a0 a1 a2 a3 a4 a5 a6 a7=>Z0f C tt24 tt3 (by decide) (by decide) (by simp only[partsOk,List.all_cons,List.all_nil,List.replicate_succ,List.replicate_zero,List.getElem?_cons_zero,List.getElem?_cons_succ,CV.shape,Bool.and_true,decide_true];try rfl) rfl
theorem sl_app24(p:Hp)(b s:Lst Int)(h:b.l.length+s.l.length<=17592186044416): xappend C false p 24 24 (Lst.cv I b) (Lst.cv I s)=appT I p b s:=Z0o C I tt24 tt3 (fun _=>rfl) p b s (by show _*8<=_;omega) (by omega)
theorem X0s(b s:Lst Int): Lst.cv I b=Lst.cv I s ↔ b=s:=⟨fun h=>Lst.inj I_inj h,fun h=>by rw[h]⟩
theorem sl_lenl24(tl:Tail)(l:List CV)(h:Heap): qlen C h 24 (.lst tl l)=some (I l.length):=by simp only[qlen,tt24,ti24]
theorem sl_lens24(i:Nat)(q:List Nat)(o n:Nat)(h:Heap): qlen C h 24 (.slc i q o n)=some (I n):=by simp only[qlen,tt24,ti24]
def zsl24:=zA @sl_lenl24<|zA @sl_lens24<|zA @sl_len24<|zA @sl_idx24<|zA @sl_src24<|zA @sl_app24<|zA (Y1a C X1x)<|zA (K00 C X1x)<|zA @sl_b24_1<|zA @sl_b24_8<|X1x
theorem sl_len37(s:Lst Q0a)(h:Heap): qlen C h 37 (Lst.cv Q0a.cv s)=some (I s.l.length):=by simp only[qlen,tt37,ti37,Lst.cv,List.length_map]
theorem sl_idx37(s:Lst Q0a)(p:Hp)(n:Int)(h:0<=n/\n<s.l.length): xindexAddr C p 37 (Lst.cv Q0a.cv s) (I n)=some (.rptr (Q0a.cv (nth s.l n.toNat))):=by
 have hl:n.toNat<s.l.length:=by omega
 show qindexAddr C p.h 37 (.lst s.tl (s.l.map Q0a.cv)) (I n)=_
 simp only[qindexAddr,tt37,ti37,tt34,List.length_map,h,and_self,if_true,List.getElem?_map,Q0w hl,Option.map_some]
 rw[if_pos]
 exact Q0a.shape _
theorem sl_src37(s:Lst Q0a)(h:Heap): srcOf C h 37 (Lst.cv Q0a.cv s)=some (s.l.map Q0a.cv):=by simp only[srcOf,tt37,ti37,Lst.cv]
theorem Y1y: isSliceT C 37=true:=by simp only[isSliceT,tt37,ti37]
theorem sl_b37_0: qbuildSlice C 37 0 []=some (Lst.cv Q0a.cv ⟨.exact,[],nofun⟩):=Z0f C tt37 tt34 (by decide) (by decide) rfl rfl
theorem sl_b37_1: ∀(a0:Q0a),qbuildSlice C 37 1 [(0,Q0a.cv a0)]=some (Lst.cv Q0a.cv ⟨.exact,[a0],nofun⟩):=fun a0=>Z0f C tt37 tt34 (by decide) (by decide) (by simp only[partsOk,List.all_cons,List.all_nil,List.replicate_succ,List.replicate_zero,List.getElem?_cons_zero,List.getElem?_cons_succ,CV.shape,Q0a.shape,Bool.and_true,decide_true];try rfl) rfl
theorem sl_app37(p:Hp)(b s:Lst Q0a)(h:b.l.length+s.l.length<=1466015503701): xappend C false p 37 37 (Lst.cv Q0a.cv b) (Lst.cv Q0a.cv s)=appT Q0a.cv p b s:=Z0o C Q0a.cv tt37 tt34 Q0a.shOk p b s (by show _*96<=_;omega) (by omega)
theorem X0q(b s:Lst Q0a): Lst.cv Q0a.cv b=Lst.cv Q0a.cv s ↔ b=s:=⟨fun h=>Lst.inj Q0a.injF h,fun h=>by rw[h]⟩
theorem sl_lenl37(tl:Tail)(l:List CV)(h:Heap): qlen C h 37 (.lst tl l)=some (I l.length):=by simp only[qlen,tt37,ti37]
theorem sl_lens37(i:Nat)(q:List Nat)(o n:Nat)(h:Heap): qlen C h 37 (.slc i q o n)=some (I n):=by simp only[qlen,tt37,ti37]
def zsl37:=zA @sl_lenl37<|zA @sl_lens37<|zA @sl_len37<|zA @sl_idx37<|zA @sl_src37<|zA @sl_app37<|zA (Y1a C Y1y)<|zA (K00 C Y1y)<|zA @sl_b37_0<|zA @sl_b37_1<|Y1y
theorem sl_len58(s:Lst (Lst Int))(h:Heap): qlen C h 58 (Lst.cv (Lst.cv I) s)=some (I s.l.length):=by simp only[qlen,tt58,ti58,Lst.cv,List.length_map]
theorem sl_idx58(s:Lst (Lst Int))(p:Hp)(n:Int)(h:0<=n/\n<s.l.length): xindexAddr C p 58 (Lst.cv (Lst.cv I) s) (I n)=some (.rptr ((Lst.cv I) (nth s.l n.toNat))):=by
 have hl:n.toNat<s.l.length:=by omega
 show qindexAddr C p.h 58 (.lst s.tl (s.l.map (Lst.cv I))) (I n)=_
 simp only[qindexAddr,tt58,ti58,tt24,List.length_map,h,and_self,if_true,List.getElem?_map,Q0w hl,Option.map_some]
 rw[if_pos]
 exact rfl
theorem sl_src58(s:Lst (Lst Int))(h:Heap): srcOf C h 58 (Lst.cv (Lst.cv I) s)=some (s.l.map (Lst.cv I)):=by simp only[srcOf,tt58,ti58,Lst.cv]
theorem K1q: isSliceT C 58=true:=by simp only[isSliceT,tt58,ti58]
theorem sl_app58(p:Hp)(b s:Lst (Lst Int))(h:b.l.length+s.l.length<=5864062014805): xappend C false p 58 58 (Lst.cv (Lst.cv I) b) (Lst.cv (Lst.cv I) s)=appT (Lst.cv I) p b s:=Z0o C (Lst.cv I) tt58 tt24 (fun _=>rfl) p b s (by show _*24<=_;omega) (by omega)
theorem Y09(b s:Lst (Lst Int)): Lst.cv (Lst.cv I) b=Lst.cv (Lst.cv I) s ↔ b=s:=⟨fun h=>Lst.inj (Lst.injF I_inj) h,fun h=>by rw[h]⟩
theorem sl_lenl58(tl:Tail)(l:List CV)(h:Heap): qlen C h 58 (.lst tl l)=some (I l.length):=by simp only[qlen,tt58,ti58]
theorem sl_lens58(i:Nat)(q:List Nat)(o n:Nat)(h:Heap): qlen C h 58 (.slc i q o n)=some (I n):=by simp only[qlen,tt58,ti58]
def zsl58:=zA @sl_lenl58<|zA @sl_lens58<|zA @sl_len58<|zA @sl_idx58<|zA @sl_src58<|zA @sl_app58<|zA (Y1a C K1q)<|zA (K00 C K1q)<|K1q
theorem sl_len92(s:Lst (Lst Q0b))(h:Heap): qlen C h 92 (Lst.cv (Lst.cv Q0b.cv) s)=some (I s.l.length):=by simp only[qlen,tt92,ti92,Lst.cv,List.length_map]
theorem sl_idx92(s:Lst (Lst Q0b))(p:Hp)(n:Int)(h:0<=n/\n<s.l.length): xindexAddr C p 92 (Lst.cv (Lst.cv Q0b.cv) s) (I n)=some (.rptr ((Lst.cv Q0b.cv) (nth s.l n.toNat))):=by
 have hl:n.toNat<s.l.length:=by omega
 show qindexAddr C p.h 92 (.lst s.tl (s.l.map (Lst.cv Q0b.cv))) (I n)=_
 simp only[qindexAddr,tt92,ti92,tt108,List.length_map,h,and_self,if_true,List.getElem?_map,Q0w hl,Option.map_some]
 rw[if_pos]
 exact rfl
theorem sl_src92(s:Lst (Lst Q0b))(h:Heap): srcOf C h 92 (Lst.cv (Lst.cv Q0b.cv) s)=some (s.l.map (Lst.cv Q0b.cv)):=by simp only[srcOf,tt92,ti92,Lst.cv]
theorem K1y: isSliceT C 92=true:=by simp only[isSliceT,tt92,ti92]
theorem sl_b92_1: ∀(a0:(Lst Q0b)),qbuildSlice C 92 1 [(0,(Lst.cv Q0b.cv) a0)]=some (Lst.cv (Lst.cv Q0b.cv) ⟨.exact,[a0],nofun⟩):=fun a0=>Z0f C tt92 tt108 (by decide) (by decide) (by simp only[partsOk,List.all_cons,List.all_nil,List.replicate_succ,List.replicate_zero,List.getElem?_cons_zero,List.getElem?_cons_succ,CV.shape,Lst.shape,Bool.and_true,decide_true];try rfl) rfl
theorem sl_app92(p:Hp)(b s:Lst (Lst Q0b))(h:b.l.length+s.l.length<=5864062014805): xappend C false p 92 92 (Lst.cv (Lst.cv Q0b.cv) b) (Lst.cv (Lst.cv Q0b.cv) s)=appT (Lst.cv Q0b.cv) p b s:=Z0o C (Lst.cv Q0b.cv) tt92 tt108 (fun _=>rfl) p b s (by show _*24<=_;omega) (by omega)
theorem Q1x(b s:Lst (Lst Q0b)): Lst.cv (Lst.cv Q0b.cv) b=Lst.cv (Lst.cv Q0b.cv) s ↔ b=s:=⟨fun h=>Lst.inj (Lst.injF Q0b.injF) h,fun h=>by rw[h]⟩
theorem sl_lenl92(tl:Tail)(l:List CV)(h:Heap): qlen C h 92 (.lst tl l)=some (I l.length):=by simp only[qlen,tt92,ti92]
theorem sl_lens92(i:Nat)(q:List Nat)(o n:Nat)(h:Heap): qlen C h 92 (.slc i q o n)=some (I n):=by simp only[qlen,tt92,ti92]
def zsl92:=zA @sl_lenl92<|zA @sl_lens92<|zA @sl_len92<|zA @sl_idx92<|zA @sl_src92<|zA @sl_app92<|zA (Y1a C K1y)<|zA (K00 C K1y)<|zA @sl_b92_1<|K1y
theorem sl_len108(s:Lst Q0b)(h:Heap): qlen C h 108 (Lst.cv Q0b.cv s)=some (I s.l.length):=by simp only[qlen,tt108,ti108,Lst.cv,List.length_map]
theorem sl_idx108(s:Lst Q0b)(p:Hp)(n:Int)(h:0<=n/\n<s.l.length): xindexAddr C p 108 (Lst.cv Q0b.cv s) (I n)=some (.rptr (Q0b.cv (nth s.l n.toNat))):=by
 have hl:n.toNat<s.l.length:=by omega
 show qindexAddr C p.h 108 (.lst s.tl (s.l.map Q0b.cv)) (I n)=_
 simp only[qindexAddr,tt108,ti108,tt110,List.length_map,h,and_self,if_true,List.getElem?_map,Q0w hl,Option.map_some]
 rw[if_pos]
 exact Q0b.shape _
theorem sl_src108(s:Lst Q0b)(h:Heap): srcOf C h 108 (Lst.cv Q0b.cv s)=some (s.l.map Q0b.cv):=by simp only[srcOf,tt108,ti108,Lst.cv]
theorem Z1e: isSliceT C 108=true:=by simp only[isSliceT,tt108,ti108]
theorem sl_b108_0: qbuildSlice C 108 0 []=some (Lst.cv Q0b.cv ⟨.exact,[],nofun⟩):=Z0f C tt108 tt110 (by decide) (by decide) rfl rfl
theorem sl_b108_1: ∀(a0:Q0b),qbuildSlice C 108 1 [(0,Q0b.cv a0)]=some (Lst.cv Q0b.cv ⟨.exact,[a0],nofun⟩):=fun a0=>Z0f C tt108 tt110 (by decide) (by decide) (by simp only[partsOk,List.all_cons,List.all_nil,List.replicate_succ,List.replicate_zero,List.getElem?_cons_zero,List.getElem?_cons_succ,CV.shape,Q0b.shape,Bool.and_true,decide_true];try rfl) rfl
theorem sl_app108(p:Hp)(b s:Lst Q0b)(h:b.l.length+s.l.length<=4398046511104): xappend C false p 108 108 (Lst.cv Q0b.cv b) (Lst.cv Q0b.cv s)=appT Q0b.cv p b s:=Z0o C Q0b.cv tt108 tt110 Q0b.shOk p b s (by show _*32<=_;omega) (by omega)
theorem X0p(b s:Lst Q0b): Lst.cv Q0b.cv b=Lst.cv Q0b.cv s ↔ b=s:=⟨fun h=>Lst.inj Q0b.injF h,fun h=>by rw[h]⟩
theorem sl_lenl108(tl:Tail)(l:List CV)(h:Heap): qlen C h 108 (.lst tl l)=some (I l.length):=by simp only[qlen,tt108,ti108]
theorem sl_lens108(i:Nat)(q:List Nat)(o n:Nat)(h:Heap): qlen C h 108 (.slc i q o n)=some (I n):=by simp only[qlen,tt108,ti108]
def zsl108:=zA @sl_lenl108<|zA @sl_lens108<|zA @sl_len108<|zA @sl_idx108<|zA @sl_src108<|zA @sl_app108<|zA (Y1a C Z1e)<|zA (K00 C Z1e)<|zA @sl_b108_0<|zA @sl_b108_1<|Z1e
end Go.Proofs.Ytpchcfkebljopaa
end
section
namespace Go.Proofs.Ytpchcfkebljopaa
open Go.Cl Go Go.RowKit
abbrev w64(n:Int): Int:=IntKind.i64.wrap n
def brought(n lo hi:Int): Int:=max lo (min n hi)
def within(n lo hi:Int): Bool:=decide (lo<=n)&&decide (n<=hi)
theorem X0a{n lo hi:Int}(h:within n lo hi=true): lo<=n/\n<=hi:=by simpa[within]using h
abbrev Body:=Q0a
abbrev Mach:=Z0a
def Body.right(b:Q0a): Bool:=
 if b.Kind=0 then decide (b=Q0a.zero) else
 b.Mem.all (fun n=>within n (-1000000) 1000000)&&(decide (b.Kind=1) || decide (b.Kind=2))&&within b.Owner 0 7&&within b.X 0 4095&&within b.Y 0 4095&&within b.VX (-64) 64&&within b.VY (-64) 64&&within b.Age 0 600&&within b.Faults 0 65535
def bodyShoot(b:Q0a)(vx vy:Int): Q0a:=
 if Body.right b=true/\b.Kind≠0 then {Q0a.zero with Kind:=2,Owner:=b.Owner,X:=b.X,Y:=b.Y,VX:=brought vx (-64) 64,VY:=brought vy (-64) 64} else Q0a.zero
def fault(c at_:Int): CV:=.ifc 194 (Z0b.cv ⟨⟨c,at_⟩⟩)
def Mach.body(m:Z0a)(f:Q0a->Q0a): Z0a:={m with e_:={m.e_ with Body:=f m.e_.Body}}
def Mach.set(m:Z0a)(k:Nat)(n:Int): Z0a:=Mach.body m fun b=>b.put_7k k (brought n (-1000000) 1000000)
def Mach.reg(m:Z0a)(k:Nat): Int:=nth m.e_.Body.Mem k
def needA(c:Int): Bool:=!(decide (c=8) || decide (c=10) || decide (c=13))
def needB(c:Int): Bool:=!(decide (c=1) || decide (c=7) || decide (c=9) || decide (c=10) || decide (c=13))
def namedOk(o:Q0c): Bool:=(!needA o.Code || within o.A 0 3)&&(!needB o.Code || within o.B 0 3)
theorem namedOk_A{o:Q0c}(h:namedOk o=true): o.Code=8\/o.Code=10\/o.Code=13\/(0<=o.A/\o.A<4):=by
 simp[namedOk,needA,within]at h;omega
theorem namedOk_B{o:Q0c}(h:namedOk o=true): o.Code=1\/o.Code=7\/o.Code=9\/o.Code=10\/o.Code=13\/(0<=o.B/\o.B<4):=by
 simp[namedOk,needB,within]at h;omega
def Mach.field(m:Z0a)(k:Nat): Int:=nth [m.e_.Body.X,m.e_.Body.Y,m.e_.Body.VX,m.e_.Body.VY,m.e_.Body.Age,m.e_.In.Buttons,m.e_.In.X,m.e_.In.Y] k
def Mach.put(m:Z0a)(k n:Int): Z0a:=Mach.body m fun b=>
 if k=0 then {b with X:=brought n 0 4095} else if k=1 then {b with Y:=brought n 0 4095} else if k=2 then {b with VX:=brought n (-64) 64} else {b with VY:=brought n (-64) 64}
def diceNext(d:Int): Int:=IntKind.u64.wrap (IntKind.u64.wrap (d*6364136223846793005)+1442695040888963407)
def diceNum(d:Int): Int:=IntKind.i64.wrap (d.fdiv (2^33))
def diceRoll(d n:Int): Int×Int:=if n<1 then(d,0) else(diceNext d,(diceNum (diceNext d)).tmod n)
def Mach.reckon(m:Z0a)(o:Q0c): Except Int Z0a:=
 let a:=Mach.reg m o.A.toNat
 let b:=Mach.reg m o.B.toNat
 let k:=o.A.toNat
 if o.Code=2 then .ok (Mach.set m k b)
 else if o.Code=3 then .ok (Mach.set m k (w64 (a+b)))
 else if o.Code=4 then .ok (Mach.set m k (w64 (a-b)))
 else if o.Code=5 then .ok (Mach.set m k (w64 (a*b)))
 else if o.Code=6 then(if b=0 then .error 1 else .ok (Mach.set m k (w64 (a.tdiv b))))
 else if o.Code=11 then(if b<1 then .error 6 else .ok (Mach.set {m with e_:={m.e_ with Dice:=(diceRoll m.e_.Dice b).1}} k (diceRoll m.e_.Dice b).2))
 else(if(m.e_.Shots.l.length:Int)<m.e_.Room then .ok {m with e_:={m.e_ with Shots:=⟨.part,m.e_.Shots.l++[bodyShoot m.e_.Body a b],nofun⟩}} else .error 7)
theorem Mach.set_at(m:Z0a)(k:Nat)(n:Int): (Mach.set m k n).at_=m.at_:=nd rfl
theorem Mach.put_at(m:Z0a)(k n:Int): (Mach.put m k n).at_=m.at_:=nd rfl
theorem Mach.reckon_keeps{m m':Z0a}{o:Q0c}(h:Mach.reckon m o=.ok m'): (m'.e_.Shots.tl=m.e_.Shots.tl\/m'.e_.Shots.tl=.part)/\m'.l_=m.l_/\m'.at_=m.at_/\m'.e_.Shots.l.length<=m.e_.Shots.l.length+1:=by
 unfold Mach.reckon at h
 simp only at h
 repeat'(split at h)
 all_goals first
  |(cases h;done)
  |(cases h;simp[Mach.set,Mach.body])
def Mach.doOp(m:Z0a)(o:Q0c): Except Int (Z0a×Int):=
 if within o.Code 1 13=false then .error 4
 else if namedOk o=false then .error 2
 else if o.Code=1 then .ok (Mach.set m o.A.toNat o.B,m.at_+1)
 else if o.Code=7 then(if within o.B 0 7=false then .error 3 else .ok (Mach.set m o.A.toNat (Mach.field m o.B.toNat),m.at_+1))
 else if o.Code=8 then(if within o.A 0 3=false then .error 3 else .ok (Mach.put m o.A (Mach.reg m o.B.toNat),m.at_+1))
 else if o.Code=9 then(if Mach.reg m o.A.toNat=0 then(if within o.B 0 m.l_.l.length=false then .error 4 else .ok (m,o.B))else .ok (m,m.at_+1))
 else if o.Code=10 then(if within o.B 0 m.l_.l.length=false then .error 4 else .ok (m,o.B))
 else if o.Code=13 then .ok (m,m.l_.l.length)
 else match Mach.reckon m o with
  |.error c=>.error c
  |.ok m'=>.ok (m',m.at_+1)
theorem Mach.doOp_keeps{m m':Z0a}{o:Q0c}{n:Int}(h:Mach.doOp m o=.ok (m',n))(h1:0<=m.at_)(h2:m.at_<m.l_.l.length): (m'.e_.Shots.tl=m.e_.Shots.tl\/m'.e_.Shots.tl=.part)/\m'.l_=m.l_/\m'.at_=m.at_/\m'.e_.Shots.l.length<=m.e_.Shots.l.length+1/\0<=n/\n<=m.l_.l.length:=by
 unfold Mach.doOp at h
 repeat'(split at h)
 all_goals first
  |(cases h;done)
  |(rename_i hr;cases h;have:=Mach.reckon_keeps hr;exact⟨this.1,this.2.1,this.2.2.1,this.2.2.2,by omega,by omega⟩)
  |(cases h;refine⟨.inl ?_,?_,?_,?_,?_,?_⟩<;>first|rfl|omega|(simp[Mach.set,Mach.put,Mach.body];done))
  |(rename_i hw;cases h;have hw:=X0a (by simpa using hw);exact⟨.inl rfl,rfl,rfl,by omega,hw.1,hw.2⟩)
def Mach.run: Nat->Z0a->Except (Int×Int) Z0a
 |k,m=>if m.at_<m.l_.l.length then
   match k with
   |0=>.error (5,m.at_)
   |k+1=>match Mach.doOp m (nth m.l_.l m.at_.toNat) with
    |.error c=>.error (c,m.at_)
    |.ok (m',n)=>Mach.run k {m' with at_:=n}
  else .ok m
theorem Mach.run_keeps: ∀(k:Nat) (m m':Z0a),Mach.run k m=.ok m'->0<=m.at_->(m'.e_.Shots.tl=m.e_.Shots.tl\/m'.e_.Shots.tl=.part)/\m'.l_=m.l_
 |k,m,m',h,ha=>by
  unfold Mach.run at h
  by_cases hlt:m.at_<m.l_.l.length
  ·rw[if_pos hlt]at h
   cases k with
   |zero=>cases h
   |succ k=>
    simp only at h
    cases hd:Mach.doOp m (nth m.l_.l m.at_.toNat) with
    |error c=>rw[hd]at h;cases h
    |ok r=>
     obtain⟨m2,n⟩:=r
     rw[hd]at h
     simp only at h
     obtain⟨k1,k2,_,_,k5,_⟩:=Mach.doOp_keeps hd ha hlt
     have ih:=Mach.run_keeps k _ m' h k5
     refine⟨?_,by rw[ih.2];exact k2⟩
     rcases ih.1 with e|e
     ·rw[e];exact k1
     ·exact .inr e
  ·rw[if_neg hlt]at h;cases h;exact⟨.inl rfl,rfl⟩
def cloneL{α:Type}(s:Lst α)(n:Nat): Lst α:=
 match s.tl with
 |.nil=>⟨.nil,[],fun _=>rfl⟩
 |_=>match s.l with
  |[]=>⟨.exact,[],nofun⟩
  |x::l=>⟨.own n,x::l,nofun⟩
def cloneP{α:Type}(s:Lst α): Lst α:=
 match s.tl with
 |.nil=>⟨.nil,[],fun _=>rfl⟩
 |_=>match s.l with
  |[]=>⟨.exact,[],nofun⟩
  |x::l=>⟨.part,x::l,nofun⟩
def cloneOwn{α:Type}(s:Lst α): Bool:=
 match s.tl with
 |.nil=>false
 |_=>!s.l.isEmpty
theorem appT_cl0{α:Type}(f:α->CV)(p:Hp)(s:Lst α)(n:Nat)(u:Tail)(x:α)(m:List α)(o:_)(h:cloneOwn s=false): appT f p (cloneL s n) ⟨u,x::m,o⟩=.ret (Lst.cv f ⟨.own p.n,s.l++x::m,nofun⟩) (p.new (.tail (s.l.length+(m.length+1)))):=by
 obtain⟨tl,l,o'⟩:=s
 cases tl<;>cases l<;>simp_all[cloneL,cloneOwn,appT]
theorem appT_cl1{α:Type}(f:α->CV)(p:Hp)(s:Lst α)(n:Nat)(u:Tail)(x:α)(m:List α)(o:_)(h:cloneOwn s=true)(hg:p.t.get n=some (.tail s.l.length)): appT f p (cloneL s n) ⟨u,x::m,o⟩=.ret (Lst.cv f ⟨.own p.n,s.l++x::m,nofun⟩) ((p.set n none).new (.tail (s.l.length+(m.length+1)))):=by
 obtain⟨tl,l,o'⟩:=s
 cases tl<;>cases l<;>simp_all[cloneL,cloneOwn,appT]
theorem V1z{α:Type}(s:Lst α)(n:Nat): (cloneL s n).l=s.l:=by
 obtain⟨tl,l,o⟩:=s
 cases tl<;>cases l<;>simp_all[cloneL]
theorem Z0x{α:Type}(s:Lst α): (cloneP s).l=s.l:=by
 obtain⟨tl,l,o⟩:=s
 cases tl<;>cases l<;>simp_all[cloneP]
theorem cloneP_tl{α:Type}(s:Lst α): (cloneP s).tl=.nil\/(cloneP s).tl=.exact\/(cloneP s).tl=.part:=by
 obtain⟨tl,l,o⟩:=s
 cases tl<;>cases l<;>simp_all[cloneP]
theorem cloneP_nv{α:Type}(s:Lst α): (cloneP s).tl≠.view:=by rcases cloneP_tl s with h|h|h<;>rw[h]<;>simp
theorem cloneP_no{α:Type}(s:Lst α)(j:Nat): (cloneP s).tl≠.own j:=by rcases cloneP_tl s with h|h|h<;>rw[h]<;>simp
theorem weak_clone{α:Type}{f:α->CV}(hf:∀x j,¬(f x).has j)(s:Lst α)(n k:Nat): CV.weak (fun k=>k) k (Lst.cv f (cloneL s n)) (Lst.cv f (cloneP s)):=by
 have hl:∀l:List α,CV.weakL (fun k=>k) k (l.map f) (l.map f):=fun l=>CV.weakL_refl _ fun j hj=>(X0n hf l j hj).elim
 obtain⟨tl,l,o⟩:=s
 cases tl<;>cases l<;>simp only[cloneL,cloneP,Lst.cv,CV.weak,Tail.weak,true_and]<;>exact hl _
def copiedE(e:K0c): K0c:={e with Shots:=cloneP e.Shots}
def ruleRun(l:Lst Q0c)(e:K0c): K0c×X0c×Bool:=
 if Body.right e.Body=false\/e.Body.Kind=0 then(copiedE e,⟨0,0⟩,false)
 else match Mach.run 64 ⟨copiedE e,l,0⟩ with
  |.ok m=>(m.e_,⟨0,0⟩,true)
  |.error c=>(copiedE e,⟨c.1,c.2⟩,false)
end Go.Proofs.Ytpchcfkebljopaa
end
section
namespace Go.Proofs.Ytpchcfkebljopaa
open Go.Cl Go Go.RowKit
set_option maxRecDepth 100000
set_option linter.constructorNameAsVariable false
def R201: Rel:=fun args p r=>∃(n lo hi:Int),args=[I n,I lo,I hi]/\r=.ret (I (brought n lo hi)) p
theorem t201{T:XCall}(h:Has T 201 R201)(n lo hi:Int){p:Hp}:T 201 [I n,I lo,I hi] p=.ret (I (brought n lo hi)) p:=h _ _ _ ⟨n,lo,hi,rfl,rfl⟩
theorem zq201{A B:Prop}(k:B)(h:A=B:=by have zy:=zA @zw201<|zA @rs201<|zA @tt3<|ti3.eq_1;exact zQ): A:=h▸k
theorem c201: Con C 201 R201:=by
 refine Q0e C ?_ ?_ ?_
 ·rintro args p r r' ⟨n,lo,hi,h,e⟩ ⟨n',lo',hi',h',e'⟩
  subst e;subst e';simp_all
 ·rintro args p r ⟨n,lo,hi,h,rfl⟩;exact zr1
 rintro args p r ⟨n,lo,hi,rfl,rfl⟩
 refine zW C false [] zT rfl xf201 zc201_ok fun call zh hF=>?_
 clear zh
 (have zx:=zT;refine zq201 ?_;clear zx;try exact zT)
 exact K0d hF (fun _ _ h=>h) (weak_I _ _)
def R140: Rel:=fun args p r=>∃(n lo hi:Int),args=[I n,I lo,I hi]/\r=.ret (I (brought n lo hi)) p
theorem t140{T:XCall}(h:Has T 140 R140)(n lo hi:Int){p:Hp}:T 140 [I n,I lo,I hi] p=.ret (I (brought n lo hi)) p:=h _ _ _ ⟨n,lo,hi,rfl,rfl⟩
theorem zq140{A B:Prop}(k:B)(h:A=B:=by have zy:=zA @zw140<|zA @rs140<|zA @tt3<|ti3.eq_1;exact zQ): A:=h▸k
theorem c140: Con C 140 R140:=by
 refine Q0e C ?_ ?_ ?_
 ·rintro args p r r' ⟨n,lo,hi,h,e⟩ ⟨n',lo',hi',h',e'⟩
  subst e;subst e';simp_all
 ·rintro args p r ⟨n,lo,hi,h,rfl⟩;exact zr1
 rintro args p r ⟨n,lo,hi,rfl,rfl⟩
 refine zW C false [] zT rfl xf140 zc140_ok fun call zh hF=>?_
 clear zh
 (have zx:=zT;refine zq140 ?_;clear zx;try exact zT)
 exact K0d hF (fun _ _ h=>h) (weak_I _ _)
def R80: Rel:=fun args p r=>∃(n lo hi:Int),args=[I n,I lo,I hi]/\r=.ret (I (brought n lo hi)) p
theorem t80{T:XCall}(h:Has T 80 R80)(n lo hi:Int){p:Hp}:T 80 [I n,I lo,I hi] p=.ret (I (brought n lo hi)) p:=h _ _ _ ⟨n,lo,hi,rfl,rfl⟩
theorem zq80{A B:Prop}(k:B)(h:A=B:=by have zy:=zA @zw80<|zA @rs80<|zA @tt3<|ti3.eq_1;exact zQ): A:=h▸k
theorem c80: Con C 80 R80:=by
 refine Q0e C ?_ ?_ ?_
 ·rintro args p r r' ⟨n,lo,hi,h,e⟩ ⟨n',lo',hi',h',e'⟩
  subst e;subst e';simp_all
 ·rintro args p r ⟨n,lo,hi,h,rfl⟩;exact zr1
 rintro args p r ⟨n,lo,hi,rfl,rfl⟩
 refine zW C false [] zT rfl xf80 zc80_ok fun call zh hF=>?_
 clear zh
 (have zx:=zT;refine zq80 ?_;clear zx;try exact zT)
 refine K0d hF (fun _ _ h=>h) (Y0c ?_ (Z0c (I_has _)))
 simp[brought,Int.min_comm]
def R84: Rel:=fun args p r=>∃(n lo hi:Int),args=[I n,I lo,I hi]/\r=.ret (Bo (within n lo hi)) p
theorem t84{T:XCall}(h:Has T 84 R84)(n lo hi:Int){p:Hp}:T 84 [I n,I lo,I hi] p=.ret (Bo (within n lo hi)) p:=h _ _ _ ⟨n,lo,hi,rfl,rfl⟩
theorem zq84{A B:Prop}(k:B)(h:A=B:=by have zy:=zA @zw84<|zA @rs84<|zA @tt3<|ti3.eq_1;exact zQ): A:=h▸k
theorem c84: Con C 84 R84:=by
 refine Q0e C ?_ ?_ ?_
 ·rintro args p r r' ⟨n,lo,hi,h,e⟩ ⟨n',lo',hi',h',e'⟩
  subst e;subst e';simp_all
 ·rintro args p r ⟨n,lo,hi,h,rfl⟩;exact zr1
 rintro args p r ⟨n,lo,hi,rfl,rfl⟩
 refine zW C false [] zT rfl xf84 zc84_ok fun call zh hF=>?_
 clear zh
 (have zx:=zT;refine zq84 ?_;try exact zT)
 repeat'(apply zK.s<;>intro hc<;>(try simp only[zhd]at hc)<;>(try have hw:=X0a hc)<;>(refine zq84 ?_;try exact zT))
 all_goals(try clear zx)
 all_goals(refine K0d hF (fun _ _ h=>h) (Y0c ?_ (Z0c (Bo_has _))))
 all_goals simp[within];try omega
def R71: Rel:=fun args p r=>∃(n lo hi:Int),args=[I n,I lo,I hi]/\r=.ret (Bo (within n lo hi)) p
theorem t71{T:XCall}(h:Has T 71 R71)(n lo hi:Int){p:Hp}:T 71 [I n,I lo,I hi] p=.ret (Bo (within n lo hi)) p:=h _ _ _ ⟨n,lo,hi,rfl,rfl⟩
theorem zq71{A B:Prop}(k:B)(h:A=B:=by have zy:=zA @zw71<|zA @rs71<|zA @tt3<|ti3.eq_1;exact zQ): A:=h▸k
theorem c71: Con C 71 R71:=by
 refine Q0e C ?_ ?_ ?_
 ·rintro args p r r' ⟨n,lo,hi,h,e⟩ ⟨n',lo',hi',h',e'⟩
  subst e;subst e';simp_all
 ·rintro args p r ⟨n,lo,hi,h,rfl⟩;exact zr1
 rintro args p r ⟨n,lo,hi,rfl,rfl⟩
 refine zW C false [] zT rfl xf71 zc71_ok fun call zh hF=>?_
 clear zh
 (have zx:=zT;refine zq71 ?_;try exact zT)
 repeat'(apply zK.s<;>intro hc<;>(try simp only[zhd]at hc)<;>(try have hw:=X0a hc)<;>(refine zq71 ?_;try exact zT))
 all_goals(try clear zx)
 all_goals(refine K0d hF (fun _ _ h=>h) (Y0c ?_ (Z0c (Bo_has _))))
 all_goals simp[within];try omega
def R85: Rel:=fun args p r=>∃(n lo hi:Int),args=[I n,I lo,I hi]/\r=.ret (Bo (within n lo hi)) p
theorem t85{T:XCall}(h:Has T 85 R85)(n lo hi:Int){p:Hp}:T 85 [I n,I lo,I hi] p=.ret (Bo (within n lo hi)) p:=h _ _ _ ⟨n,lo,hi,rfl,rfl⟩
theorem zq85{A B:Prop}(k:B)(h:A=B:=by have zy:=zA @zw85<|zA @rs85<|zA @tt3<|ti3.eq_1;exact zQ): A:=h▸k
theorem c85: Con C 85 R85:=by
 refine Q0e C ?_ ?_ ?_
 ·rintro args p r r' ⟨n,lo,hi,h,e⟩ ⟨n',lo',hi',h',e'⟩
  subst e;subst e';simp_all
 ·rintro args p r ⟨n,lo,hi,h,rfl⟩;exact zr1
 rintro args p r ⟨n,lo,hi,rfl,rfl⟩
 refine zW C false [] zT rfl xf85 zc85_ok fun call zh hF=>?_
 clear zh
 (have zx:=zT;refine zq85 ?_;try exact zT)
 repeat'(apply zK.s<;>intro hc<;>(try simp only[zhd]at hc)<;>(try have hw:=X0a hc)<;>(refine zq85 ?_;try exact zT))
 all_goals(try clear zx)
 all_goals(refine K0d hF (fun _ _ h=>h) (Y0c ?_ (Z0c (Bo_has _))))
 all_goals simp[within];try omega
def R200: Rel:=fun args p r=>∃(c a:Int),args=[I c,I a]/\r=.pan (fault c a) p
theorem t200{T:XCall}(h:Has T 200 R200)(c a:Int){p:Hp}:T 200 [I c,I a] p=.pan (fault c a) p:=h _ _ _ ⟨c,a,rfl,rfl⟩
theorem zq200{A B:Prop}(k:B)(h:A=B:=by have zy:=zA @zw200<|zA @rs200<|zA @tt44<|zA @tt194<|zA ti44.eq_1<|zA ti194.eq_1<|zA @K0r<|@Q0z;exact zQ): A:=h▸k
theorem c200: Con C 200 R200:=by
 refine Q0e C ?_ ?_ ?_
 ·rintro args p r r' ⟨c,a,h,e⟩ ⟨c',a',h',e'⟩
  subst e;subst e';simp_all[X0c.inj_iff,Z0b.inj_iff]
 ·rintro args p r ⟨c,a,h,rfl⟩;exact zr1
 rintro args p r ⟨c,a,rfl,rfl⟩
 refine zW C false [] zT rfl xf200 zc200_ok fun call zh hF=>?_
 clear zh
 (have zx:=zT;refine zq200 ?_;clear zx;try exact zT)
 exact V0l hF (fun _ _ h=>h) (Y0d (Z0c (by simp[CV.has,fault,Z0b.nohas])))
def R181: Rel:=fun args p r=>∃(ok:Bool) (c a:Int),args=[Bo ok,I c,I a]/\r=(if ok=true then .ret (.tup []) p else .pan (fault c a) p)
theorem t181{T:XCall}(h:Has T 181 R181)(ok:Bool)(c a:Int){p:Hp}:T 181 [Bo ok,I c,I a] p=(if ok=true then .ret (.tup []) p else .pan (fault c a) p):=h _ _ _ ⟨ok,c,a,rfl,rfl⟩
theorem zq181{A B:Prop}(k:B)(h:A=B:=by have zy:=zA @zw181<|zA @rs181<|@t_200;exact zQ): A:=h▸k
theorem c181: Con C 181 R181:=by
 refine Q0e C ?_ ?_ ?_
 ·rintro args p r r' ⟨ok,c,a,h,e⟩ ⟨ok',c',a',h',e'⟩
  subst e;subst e';simp_all
 ·rintro args p r ⟨ok,c,a,h,rfl⟩;exact zr1
 rintro args p r ⟨ok,c,a,rfl,rfl⟩
 refine zW C false [(200,R200)] ⟨c200,zT⟩ rfl xf181 zc181_ok fun call zh hF=>?_
 have t_200:=@t200 _ zh.1
 clear zh
 (have zx:=zT;refine zq181 ?_;try exact zT)
 repeat'(apply zK.s<;>intro hc<;>(try simp only[zhd]at hc)<;>(try have hw:=X0a hc)<;>(refine zq181 ?_;try exact zT))
 all_goals(try clear zx)
 ·exact K0d hF zle (Y0d (Z0c X1e))
 ·exact V0l hF zle (Y0d (Z0c (by simp[CV.has,fault,Z0b.nohas])))
def R150: Rel:=fun args p r=>∃(i:Nat) (m:Z0a) (ok:Bool) (c:Int),args=[.ptr i [],Bo ok,I c]/\(p.t.get i=some (.var sh131 m.cv))/\r=(if ok=true then .ret (.tup []) p else .pan (fault c m.at_) p)
theorem t150{T:XCall}(h:Has T 150 R150)(i:Nat)(m:Z0a)(ok:Bool)(c:Int){p:Hp}(h1:p.t.get i=some (.var sh131 m.cv)): T 150 [.ptr i [],Bo ok,I c] p=(if ok=true then .ret (.tup []) p else .pan (fault c m.at_) p):=h _ _ _ ⟨i,m,ok,c,rfl,h1,rfl⟩
theorem zq150{A B:Prop}(k:B)(h:A=B:=by have zy:=zA @zw150<|zA @rs150<|zA @tt3<|zA @tt131<|zA ti3.eq_1<|zA ti131.eq_1<|zA @t_181<|zA @K0f<|@h1;exact zQ): A:=h▸k
theorem c150: Con C 150 R150:=by
 refine Q0e C ?_ ?_ ?_
 ·rintro args p r r' ⟨i,m,ok,c,h,h1,e⟩ ⟨i',m',ok',c',h',h1',e'⟩
  subst e;subst e';simp_all[Z0a.inj_iff]
 ·rintro args p r ⟨i,m,ok,c,h,h1,rfl⟩;exact zr1
 rintro args p r ⟨i,m,ok,c,rfl,h1,rfl⟩
 refine zW C false [(181,R181)] ⟨c181,zT⟩ rfl xf150 zc150_ok fun call zh hF=>?_
 have t_181:=@t181 _ zh.1
 clear zh
 have hd_h1:=hF.dom _ _ h1
 (have zx:=h1;refine zq150 ?_;try exact zT)
 repeat'(apply zK.s<;>intro hc<;>(try simp only[zhd]at hc)<;>(try have hw:=X0a hc)<;>(refine zq150 ?_;try exact zT))
 all_goals(try clear zx)
 ·exact K0d hF zle (Y0d (Z0c X1e))
 ·exact V0l hF zle (Y0d (Z0c (by simp[CV.has,fault,Z0b.nohas])))
def R183: Rel:=fun args p r=>∃(i:Nat) (m:Z0a) (k n:Int),args=[.ptr i [],I k,I n]/\(p.t.get i=some (.var sh131 m.cv))/\(0<=k)/\(k<4)/\r=.ret (.tup []) (p.set i (some (.var sh131 (Mach.set m k.toNat n).cv)))
theorem t183{T:XCall}(h:Has T 183 R183)(i:Nat)(m:Z0a)(k n:Int){p:Hp}(h1:p.t.get i=some (.var sh131 m.cv))(h2:0<=k)(h3:k<4): T 183 [.ptr i [],I k,I n] p=.ret (.tup []) (p.set i (some (.var sh131 (Mach.set m k.toNat n).cv))):=h _ _ _ ⟨i,m,k,n,rfl,h1,h2,h3,rfl⟩
theorem zq183{A B:Prop}(k:B)(h:A=B:=by have zy:=zA @zw183<|zA @rs183<|zA @tt3<|zA @tt32<|zA @tt34<|zA @tt39<|zA @tt131<|zA ti3.eq_1<|zA ti32.eq_1<|zA ti34.eq_1<|zA ti39.eq_1<|zA ti131.eq_1<|zA @t_201<|zA @K0f<|zA @X0k<|zA @Z0d<|zA @zsl32<|zA @h1<|zA @h2<|@h3;exact zQ): A:=h▸k
theorem c183: Con C 183 R183:=by
 refine Q0e C ?_ ?_ ?_
 ·rintro args p r r' ⟨i,m,k,n,h,h1,h2,h3,e⟩ ⟨i',m',k',n',h',h1',h2',h3',e'⟩
  subst e;subst e';simp_all[Z0a.inj_iff,K0c.inj_iff,Q0a.inj_iff]
 ·rintro args p r ⟨i,m,k,n,h,h1,h2,h3,rfl⟩;exact zr1
 rintro args p r ⟨i,m,k,n,rfl,h1,h2,h3,rfl⟩
 refine zW C false [(201,R201)] ⟨c201,zT⟩ rfl xf183 zc183_ok fun call zh hF=>?_
 have t_201:=@t201 _ zh.1
 clear zh
 have hd_h1:=hF.dom _ _ h1
 (have zx:=h1;refine zq183 ?_;try exact zT)
 repeat'(apply zK.s<;>intro hc<;>(try simp only[zhd]at hc)<;>(try have hw:=X0a hc)<;>(refine zq183 ?_;try exact zT))
 all_goals(try clear zx)
 refine X0l hF (hF.dom _ _ h1) zlm ⟨_,Hp.get_set_self _ _ _,V0k rfl (fun j hj=>hF.lt_obj (.arg (a:=CV.ptr i []) (by simp) rfl) h1 j ?_)⟩ (Y0d (Z0c (by simp[CV.has,CV.hasL])))
 simpa[XObj.has,Z0a.has,K0c.has,Mach.set,Mach.body]using hj
def R186: Rel:=fun args p r=>∃(i:Nat) (m:Z0a) (k:Int),args=[.ptr i [],I k]/\(p.t.get i=some (.var sh131 m.cv))/\(0<=k)/\(k<4)/\r=.ret (I (Mach.reg m k.toNat)) p
theorem t186{T:XCall}(h:Has T 186 R186)(i:Nat)(m:Z0a)(k:Int){p:Hp}(h1:p.t.get i=some (.var sh131 m.cv))(h2:0<=k)(h3:k<4): T 186 [.ptr i [],I k] p=.ret (I (Mach.reg m k.toNat)) p:=h _ _ _ ⟨i,m,k,rfl,h1,h2,h3,rfl⟩
theorem zq186{A B:Prop}(k:B)(h:A=B:=by have zy:=zA @zw186<|zA @rs186<|zA @tt3<|zA @tt32<|zA @tt34<|zA @tt39<|zA @tt131<|zA ti3.eq_1<|zA ti32.eq_1<|zA ti34.eq_1<|zA ti39.eq_1<|zA ti131.eq_1<|zA @K0f<|zA @X0k<|zA @Z0d<|zA @zsl32<|zA @h1<|zA @h2<|@h3;exact zQ): A:=h▸k
theorem c186: Con C 186 R186:=by
 refine Q0e C ?_ ?_ ?_
 ·rintro args p r r' ⟨i,m,k,h,h1,h2,h3,e⟩ ⟨i',m',k',h',h1',h2',h3',e'⟩
  subst e;subst e';simp_all[Z0a.inj_iff,K0c.inj_iff,Q0a.inj_iff]
 ·rintro args p r ⟨i,m,k,h,h1,h2,h3,rfl⟩;exact zr1
 rintro args p r ⟨i,m,k,rfl,h1,h2,h3,rfl⟩
 refine zW C false [] zT rfl xf186 zc186_ok fun call zh hF=>?_
 clear zh
 have hd_h1:=hF.dom _ _ h1
 (have zx:=h1;refine zq186 ?_;try exact zT)
 repeat'(apply zK.s<;>intro hc<;>(try simp only[zhd]at hc)<;>(try have hw:=X0a hc)<;>(refine zq186 ?_;try exact zT))
 all_goals(try clear zx)
 exact K0d hF zle (weak_I _ _)
def R187: Rel:=fun args p r=>∃(i:Nat) (m:Z0a) (k:Int),args=[.ptr i [],I k]/\(p.t.get i=some (.var sh131 m.cv))/\r=(if within k 0 m.l_.l.length=true then .ret (I k) p else .pan (fault 4 m.at_) p)
theorem t187{T:XCall}(h:Has T 187 R187)(i:Nat)(m:Z0a)(k:Int){p:Hp}(h1:p.t.get i=some (.var sh131 m.cv)): T 187 [.ptr i [],I k] p=(if within k 0 m.l_.l.length=true then .ret (I k) p else .pan (fault 4 m.at_) p):=h _ _ _ ⟨i,m,k,rfl,h1,rfl⟩
theorem zq187{A B:Prop}(k:B)(h:A=B:=by have zy:=zA @zw187<|zA @rs187<|zA @tt23<|zA @tt131<|zA ti23.eq_1<|zA ti131.eq_1<|zA @t_84<|zA @t_150<|zA @K0f<|zA @zsl23<|@h1;exact zQ): A:=h▸k
theorem zno187{P:Prop}(h:P:=by intro jj;simp[CV.has,CV.hasL,fault,Z0b.nohas]): P:=h
theorem c187: Con C 187 R187:=by
 refine Q0e C ?_ ?_ ?_
 ·rintro args p r r' ⟨i,m,k,h,h1,e⟩ ⟨i',m',k',h',h1',e'⟩
  subst e;subst e';simp_all[Z0a.inj_iff,K0j]
 ·rintro args p r ⟨i,m,k,h,h1,rfl⟩;exact zr1
 rintro args p r ⟨i,m,k,rfl,h1,rfl⟩
 refine zW C false [(84,R84),(150,R150)] ⟨c84,c150,zT⟩ rfl xf187 zc187_ok fun call zh hF=>?_
 have t_84:=@t84 _ zh.1
 have t_150:=@t150 _ zh.2.1
 clear zh
 have hd_h1:=hF.dom _ _ h1
 (have zx:=h1;refine zq187 ?_;try exact zT)
 repeat'(apply zK.s<;>intro hc<;>(try simp only[zhd]at hc)<;>(try have hw:=X0a hc)<;>(refine zq187 ?_;try exact zT))
 all_goals(try clear zx)
 all_goals(first|exact K0d hF zle (Y0d (Z0c zno187))|exact V0l hF zle (Y0d (Z0c zno187)))
def R24: Rel:=fun args p r=>∃(b:Q0a),args=[b.cv]/\r=.ret (Bo (Body.right b)) p
theorem t24{T:XCall}(h:Has T 24 R24)(b:Q0a){p:Hp}:T 24 [b.cv] p=.ret (Bo (Body.right b)) p:=h _ _ _ ⟨b,rfl,rfl⟩
theorem zq24{A B:Prop}(k:B)(h:A=B:=by have zy:=zA @zw24<|zA @rs24<|zA @tt3<|zA @tt32<|zA @tt34<|zA ti3.eq_1<|zA ti32.eq_1<|zA ti34.eq_1<|zA @t_71<|zA @Z0d<|@zsl32;exact zQ): A:=h▸k
theorem zno24{P:Prop}(h:P:=by intro jj;simp[CV.has,CV.hasL,fault,Z0b.nohas,Q0a.nohas]): P:=h
theorem c24: Con C 24 R24:=by
 refine Q0e C ?_ ?_ ?_
 ·rintro args p r r' ⟨b,h,e⟩ ⟨b',h',e'⟩
  subst e;subst e';simp_all[Q0a.inj_iff]
 ·rintro args p r ⟨b,h,rfl⟩;exact zr1
 rintro args p r ⟨b,rfl,rfl⟩
 refine zW C false [(71,R71)] ⟨c71,zT⟩ rfl xf24 zc24_ok fun call zh hF=>?_
 have t_71:=@t71 _ zh.1
 clear zh
 have hm:=b.hMem
 (have zx:=zT;refine zq24 ?_;try exact zT)
 repeat'(apply zK.s<;>intro hc<;>(try simp only[zhd]at hc)<;>(try have hw:=X0a hc)<;>(refine zq24 ?_;try exact zT))
 all_goals(try clear zx)
 ·refine K0d hF zle (Y0c ?_ (Z0c zno24))
  simp only[Body.right,hc,if_true]
  rfl
 refine⟨5,?_⟩
 simp only[Wn_succ]
 (have zx:=zT;refine zq24 ?_;try exact zT)
 repeat'(apply zK.s<;>intro hc<;>(try simp only[zhd]at hc)<;>(try have hw:=X0a hc)<;>(refine zq24 ?_;try exact zT))
 all_goals(try clear zx)
 all_goals(refine K0d hF zle (Y0c ?_ (Z0c zno24)))
 all_goals simp[Body.right,all_nth4 hm, *]
def R182: Rel:=fun args p r=>∃(i:Nat) (m:Z0a) (o:Q0c),args=[.ptr i [],o.cv]/\(p.t.get i=some (.var sh131 m.cv))/\r=(if namedOk o=true then .ret (.tup []) p else .pan (fault 2 m.at_) p)
theorem t182{T:XCall}(h:Has T 182 R182)(i:Nat)(m:Z0a)(o:Q0c){p:Hp}(h1:p.t.get i=some (.var sh131 m.cv)): T 182 [.ptr i [],o.cv] p=(if namedOk o=true then .ret (.tup []) p else .pan (fault 2 m.at_) p):=h _ _ _ ⟨i,m,o,rfl,h1,rfl⟩
theorem zq182{A B:Prop}(k:B)(h:A=B:=by have zy:=zA @zw182<|zA @rs182<|zA @tt3<|zA @tt29<|zA ti3.eq_1<|zA ti29.eq_1<|zA @t_84<|zA @t_150<|zA @K0f<|zA @Y0j<|@h1;exact zQ): A:=h▸k
theorem zno182{P:Prop}(h:P:=by intro jj;simp[CV.has,CV.hasL,fault,Z0b.nohas,Q0c.nohas]): P:=h
theorem c182: Con C 182 R182:=by
 refine Q0e C ?_ ?_ ?_
 ·rintro args p r r' ⟨i,m,o,h,h1,e⟩ ⟨i',m',o',h',h1',e'⟩
  subst e;subst e';simp_all[Z0a.inj_iff,Q0c.inj_iff]
 ·rintro args p r ⟨i,m,o,h,h1,rfl⟩;exact zr1
 rintro args p r ⟨i,m,o,rfl,h1,rfl⟩
 refine zW C false [(84,R84),(150,R150)] ⟨c84,c150,zT⟩ rfl xf182 zc182_ok fun call zh hF=>?_
 have t_84:=@t84 _ zh.1
 have t_150:=@t150 _ zh.2.1
 clear zh
 have hd_h1:=hF.dom _ _ h1
 (have zx:=h1;refine zq182 ?_;try exact zT)
 repeat'(apply zK.s<;>intro hc<;>(try simp only[zhd]at hc)<;>(try have hw:=X0a hc)<;>(refine zq182 ?_;try exact zT))
 all_goals(try clear zx)
 all_goals(cases e:(namedOk o)<;>first|(exfalso;revert e;simp[namedOk,needA,needB, *];done)|(exfalso;simp[namedOk,needA,needB]at e;omega)|skip)
 all_goals(try simp only[if_true,if_false,Bool.false_eq_true])
 all_goals(first|exact K0d hF zle (Y0d (Z0c zno182))|exact V0l hF zle (Y0d (Z0c zno182)))
def R184: Rel:=fun args p r=>∃(i:Nat) (m:Z0a) (k:Int),args=[.ptr i [],I k]/\(p.t.get i=some (.var sh131 m.cv))/\r=(if within k 0 7=true then .ret (I (Mach.field m k.toNat)) p else .pan (fault 3 m.at_) p)
theorem t184{T:XCall}(h:Has T 184 R184)(i:Nat)(m:Z0a)(k:Int){p:Hp}(h1:p.t.get i=some (.var sh131 m.cv)): T 184 [.ptr i [],I k] p=(if within k 0 7=true then .ret (I (Mach.field m k.toNat)) p else .pan (fault 3 m.at_) p):=h _ _ _ ⟨i,m,k,rfl,h1,rfl⟩
theorem zq184{A B:Prop}(k:B)(h:A=B:=by have zy:=zA @zw184<|zA @rs184<|zA @tt3<|zA @tt24<|zA @tt34<|zA @tt36<|zA @tt39<|zA @tt131<|zA ti3.eq_1<|zA ti24.eq_1<|zA ti34.eq_1<|zA ti36.eq_1<|zA ti39.eq_1<|zA ti131.eq_1<|zA @t_84<|zA @t_150<|zA @K0f<|zA @X0k<|zA @Z0d<|zA @Q0h<|zA @zsl24<|@h1;exact zQ): A:=h▸k
theorem zno184{P:Prop}(h:P:=by intro jj;simp[CV.has,CV.hasL,fault,Z0b.nohas,Q0a.nohas,K0b.nohas]): P:=h
theorem c184: Con C 184 R184:=by
 refine Q0e C ?_ ?_ ?_
 ·rintro args p r r' ⟨i,m,k,h,h1,e⟩ ⟨i',m',k',h',h1',e'⟩
  subst e;subst e';simp_all[Z0a.inj_iff,K0c.inj_iff,Q0a.inj_iff,K0b.inj_iff,X0s]
 ·rintro args p r ⟨i,m,k,h,h1,rfl⟩;exact zr1
 rintro args p r ⟨i,m,k,rfl,h1,rfl⟩
 refine zW C false [(84,R84),(150,R150)] ⟨c84,c150,zT⟩ rfl xf184 zc184_ok fun call zh hF=>?_
 have t_84:=@t84 _ zh.1
 have t_150:=@t150 _ zh.2.1
 clear zh
 have hd_h1:=hF.dom _ _ h1
 (have zx:=h1;refine zq184 ?_;try exact zT)
 repeat'(apply zK.s<;>intro hc<;>(try simp only[zhd]at hc)<;>(try have hw:=X0a hc)<;>(refine zq184 ?_;try exact zT))
 all_goals(try clear zx)
 all_goals(first|exact K0d hF zle (Y0d (Z0c zno184))|exact V0l hF zle (Y0d (Z0c zno184)))
def R185: Rel:=fun args p r=>∃(i:Nat) (m:Z0a) (k n:Int),args=[.ptr i [],I k,I n]/\(p.t.get i=some (.var sh131 m.cv))/\r=(if within k 0 3=true then .ret (.tup []) (p.set i (some (.var sh131 (Mach.put m k n).cv)))else .pan (fault 3 m.at_) p)
theorem t185{T:XCall}(h:Has T 185 R185)(i:Nat)(m:Z0a)(k n:Int){p:Hp}(h1:p.t.get i=some (.var sh131 m.cv)): T 185 [.ptr i [],I k,I n] p=(if within k 0 3=true then .ret (.tup []) (p.set i (some (.var sh131 (Mach.put m k n).cv)))else .pan (fault 3 m.at_) p):=h _ _ _ ⟨i,m,k,n,rfl,h1,rfl⟩
theorem zq185{A B:Prop}(k:B)(h:A=B:=by have zy:=zA @zw185<|zA @rs185<|zA @tt3<|zA @tt34<|zA @tt39<|zA @tt131<|zA ti3.eq_1<|zA ti34.eq_1<|zA ti39.eq_1<|zA ti131.eq_1<|zA @t_201<|zA @t_150<|zA @K0f<|zA @X0k<|zA @Z0d<|zA @Q0h<|@h1;exact zQ): A:=h▸k
theorem zno185{P:Prop}(h:P:=by intro jj;simp[CV.has,CV.hasL,fault,Z0b.nohas,Q0a.nohas,K0b.nohas]): P:=h
theorem c185: Con C 185 R185:=by
 refine Q0e C ?_ ?_ ?_
 ·rintro args p r r' ⟨i,m,k,n,h,h1,e⟩ ⟨i',m',k',n',h',h1',e'⟩
  subst e;subst e';simp_all[Z0a.inj_iff,K0c.inj_iff,Q0a.inj_iff,K0b.inj_iff]
 ·rintro args p r ⟨i,m,k,n,h,h1,rfl⟩;exact zr1
 rintro args p r ⟨i,m,k,n,rfl,h1,rfl⟩
 refine zW C false [(201,R201),(150,R150)] ⟨c201,c150,zT⟩ rfl xf185 zc185_ok fun call zh hF=>?_
 have t_201:=@t201 _ zh.1
 have t_150:=@t150 _ zh.2.1
 clear zh
 have hd_h1:=hF.dom _ _ h1
 (have zx:=h1;refine zq185 ?_;try exact zT)
 repeat'(apply zK.s<;>intro hc<;>(try simp only[zhd]at hc)<;>(try have hw:=X0a hc)<;>(refine zq185 ?_;try exact zT))
 all_goals(try clear zx)
 all_goals(cases e:(within k 0 3)<;>first|(exfalso;revert e;simp[within, *];done)|(exfalso;simp[within]at e;omega)|skip)
 all_goals(try simp only[if_true,if_false,Bool.false_eq_true])
 any_goals(first|exact K0d hF zle (Y0d (Z0c zno185))|exact V0l hF zle (Y0d (Z0c zno185)))
 all_goals refine X0l hF (hF.dom _ _ h1) zlm ⟨_,Hp.get_set_self _ _ _,V0k ?_ (fun j hj=>hF.lt_obj (.arg (a:=CV.ptr i []) (by simp) rfl) h1 j ?_)⟩ (Y0d (Z0c X1e))
 all_goals simp_all[Mach.put,Mach.body,XObj.has,Z0a.has,K0c.has]
def R207: Rel:=fun args p r=>∃(d:Int),args=[U d]/\r=.ret (.tup [U (diceNext d),I (diceNum (diceNext d))]) p
theorem t207{T:XCall}(h:Has T 207 R207)(d:Int){p:Hp}:T 207 [U d] p=.ret (.tup [U (diceNext d),I (diceNum (diceNext d))]) p:=h _ _ _ ⟨d,rfl,rfl⟩
theorem zq207{A B:Prop}(k:B)(h:A=B:=by have zy:=zA @zw207<|zA @rs207<|zA @tt3<|zA @tt25<|zA @tt178<|zA ti3.eq_1<|zA ti25.eq_1<|ti178.eq_1;exact zQ): A:=h▸k
theorem zno207{P:Prop}(h:P:=by intro jj;simp[CV.has,CV.hasL,fault,Z0b.nohas]): P:=h
theorem c207: Con C 207 R207:=by
 refine Q0e C ?_ ?_ ?_
 ·rintro args p r r' ⟨d,h,e⟩ ⟨d',h',e'⟩
  subst e;subst e';simp_all
 ·rintro args p r ⟨d,h,rfl⟩;exact zr1
 rintro args p r ⟨d,rfl,rfl⟩
 refine zW C false [] zT rfl xf207 zc207_ok fun call zh hF=>?_
 clear zh
 (have zx:=zT;refine zq207 ?_;try exact zT)
 repeat'(apply zK.s<;>intro hc<;>(try simp only[zhd]at hc)<;>(try have hw:=X0a hc)<;>(refine zq207 ?_;try exact zT))
 all_goals(try clear zx)
 exact K0d hF zle (Y0c rfl (Z0c zno207))
def R202: Rel:=fun args p r=>∃(d n:Int),args=[U d,I n]/\r=.ret (.tup [U (diceRoll d n).1,I (diceRoll d n).2]) p
theorem t202{T:XCall}(h:Has T 202 R202)(d n:Int){p:Hp}:T 202 [U d,I n] p=.ret (.tup [U (diceRoll d n).1,I (diceRoll d n).2]) p:=h _ _ _ ⟨d,n,rfl,rfl⟩
theorem zq202{A B:Prop}(k:B)(h:A=B:=by have zy:=zA @zw202<|zA @rs202<|zA @tt3<|zA ti3.eq_1<|@t_207;exact zQ): A:=h▸k
theorem zno202{P:Prop}(h:P:=by intro jj;simp[CV.has,CV.hasL,fault,Z0b.nohas]): P:=h
theorem c202: Con C 202 R202:=by
 refine Q0e C ?_ ?_ ?_
 ·rintro args p r r' ⟨d,n,h,e⟩ ⟨d',n',h',e'⟩
  subst e;subst e';simp_all
 ·rintro args p r ⟨d,n,h,rfl⟩;exact zr1
 rintro args p r ⟨d,n,rfl,rfl⟩
 refine zW C false [(207,R207)] ⟨c207,zT⟩ rfl xf202 zc202_ok fun call zh hF=>?_
 have t_207:=@t207 _ zh.1
 clear zh
 (have zx:=zT;refine zq202 ?_;try exact zT)
 repeat'(apply zK.s<;>intro hc<;>(try simp only[zhd]at hc)<;>(try have hw:=X0a hc)<;>(refine zq202 ?_;try exact zT))
 all_goals(try clear zx)
 all_goals refine K0d hF zle (Y0c ?_ (Z0c zno202))
 all_goals simp[diceRoll,hc]
def R203: Rel:=fun args p r=>∃(b:Q0a) (x y:Int),args=[b.cv,I x,I y]/\r=.ret (bodyShoot b x y).cv p
theorem t203{T:XCall}(h:Has T 203 R203)(b:Q0a)(x y:Int){p:Hp}:T 203 [b.cv,I x,I y] p=.ret (bodyShoot b x y).cv p:=h _ _ _ ⟨b,x,y,rfl,rfl⟩
theorem zq203{A B:Prop}(k:B)(h:A=B:=by have zy:=zA @zw203<|zA @rs203<|zA @tt3<|zA @tt34<|zA ti3.eq_1<|zA ti34.eq_1<|zA @t_24<|zA @t_140<|@Z0d;exact zQ): A:=h▸k
theorem zno203{P:Prop}(h:P:=by intro jj;simp[CV.has,CV.hasL,fault,Z0b.nohas,Q0a.nohas]): P:=h
theorem c203: Con C 203 R203:=by
 refine Q0e C ?_ ?_ ?_
 ·rintro args p r r' ⟨b,x,y,h,e⟩ ⟨b',x',y',h',e'⟩
  subst e;subst e';simp_all[Q0a.inj_iff]
 ·rintro args p r ⟨b,x,y,h,rfl⟩;exact zr1
 rintro args p r ⟨b,x,y,rfl,rfl⟩
 refine zW C false [(24,R24),(140,R140)] ⟨c24,c140,zT⟩ rfl xf203 zc203_ok fun call zh hF=>?_
 have t_24:=@t24 _ zh.1
 have t_140:=@t140 _ zh.2.1
 clear zh
 (have zx:=zT;refine zq203 ?_;try exact zT)
 repeat'(apply zK.s<;>intro hc<;>(try simp only[zhd]at hc)<;>(try have hw:=X0a hc)<;>(refine zq203 ?_;try exact zT))
 all_goals(try clear zx)
 all_goals refine K0d hF zle (Y0c ?_ (Z0c zno203))
 all_goals simp[bodyShoot,Q0a.zero, *]
def R148: Rel:=fun args p r=>∃(s:Lst Q0a),args=[s.cv Q0a.cv]/\(s.tl≠.view)/\(s.l.length<=1000000000)/\r=.ret (Lst.cv Q0a.cv (cloneL s p.n)) (if cloneOwn s=true then p.new (.tail s.l.length)else p)
theorem t148{T:XCall}(h:Has T 148 R148)(s:Lst Q0a){p:Hp}(h1:s.tl≠.view)(h2:s.l.length<=1000000000): T 148 [s.cv Q0a.cv] p=.ret (Lst.cv Q0a.cv (cloneL s p.n)) (if cloneOwn s=true then p.new (.tail s.l.length)else p):=h _ _ _ ⟨s,rfl,h1,h2,rfl⟩
theorem zq148{A B:Prop}(k:B)(h:A=B:=by have zy:=zA @zw148<|zA @rs148<|zA @tt37<|zA ti37.eq_1<|zA @Z0d<|zA @zsl37<|zA @h1<|@h2;exact zQ): A:=h▸k
theorem c148: Con C 148 R148:=by
 refine Q0e C ?_ ?_ ?_
 ·rintro args p r r' ⟨s,h,h1,h2,e⟩ ⟨s',h',h1',h2',e'⟩
  subst e;subst e';simp_all[Q0a.inj_iff,X0q]
 ·rintro args p r ⟨s,h,h1,h2,rfl⟩;exact zr1
 rintro args p r ⟨s,rfl,h1,h2,rfl⟩
 refine zW C false [] zT rfl xf148 zc148_ok fun call zh hF=>?_
 clear zh
 obtain⟨tl,l,o⟩:=s
 simp only at h2 h1
 cases tl with
 |view=>exact absurd rfl h1
 |nil=>
  have:=o rfl
  subst this
  (have zx:=zT;refine zq148 ?_;try exact zT)
  repeat'(apply zK.s<;>intro hc<;>(try simp only[zhd]at hc)<;>(try have hw:=X0a hc)<;>(refine zq148 ?_;try exact zT))
  all_goals(try clear zx)
  exact K0d hF zle (Y0d (Z0c (by intro jj;simp[Lst.cv,cloneL,CV.has,CV.hasL])))
 |_=>
  cases l with
  |nil=>
   (have zx:=zT;refine zq148 ?_;try exact zT)
   repeat'(apply zK.s<;>intro hc<;>(try simp only[zhd]at hc)<;>(try have hw:=X0a hc)<;>(refine zq148 ?_;try exact zT))
   all_goals(try clear zx)
   exact K0d hF zle (Y0d (Z0c (by intro jj;simp[Lst.cv,cloneL,CV.has,CV.hasL])))
  |cons x l=>
   simp only[List.length_cons]at h2
   (have zx:=zT;refine zq148 ?_;try exact zT)
   repeat'(apply zK.s<;>intro hc<;>(try simp only[zhd]at hc)<;>(try have hw:=X0a hc)<;>(refine zq148 ?_;try exact zT))
   all_goals(try clear zx)
   simp only[cloneL,cloneOwn,List.isEmpty_cons,Bool.not_false,if_true]
   refine X1n ?_ (fun k ob h=>?_) (Y0d fun jj hj=>?_)
   ·show p.n<=p.n+1;omega
   ·by_cases hk:k=p.n
    ·subst hk
     rw[Hp.get_new_self]at h;cases h
     exact⟨Nat.lt_succ_self _,.inr ⟨_,Hp.get_new_self _ _,by simp[XObj.weak]⟩⟩
    ·rw[Hp.get_new_ne _ _ hk]at h
     have:=hF.dom _ _ h
     exact⟨Nat.lt_succ_of_lt this,.inl ⟨this,h,by rw[Hp.get_new_ne _ _ hk];exact h⟩⟩
   ·rw[Lst.has _ Q0a.nohas]at hj
    simp only[Tail.own.injEq]at hj
    subst hj;exact Nat.lt_succ_self _
theorem weakL_self{α:Type}{f:α->CV}(h:∀x j,¬(f x).has j)(n:Nat)(l:List α): CV.weakL (fun k=>k) n (l.map f) (l.map f):=CV.weakL_refl _ fun j hj=>(X0n h l j hj).elim
theorem Mach.weakS(m:Z0a)(n j:Nat)(l:List Q0a)(hl:∀k,m.l_.tl=.own k->k<n): CV.weak (fun k=>k) n ({m with e_:={m.e_ with Shots:=⟨.own j,l,nofun⟩}}:Z0a).cv ({m with e_:={m.e_ with Shots:=⟨.part,l,nofun⟩}}:Z0a).cv:=by
 have h1:CV.weak (fun k=>k) n m.e_.Body.cv m.e_.Body.cv:=Y0d (Z0c (Q0a.nohas _))
 have h2:CV.weak (fun k=>k) n m.e_.In.cv m.e_.In.cv:=Y0d (Z0c (K0b.nohas _))
 have h3:CV.weak (fun k=>k) n (Lst.cv Q0c.cv m.l_) (Lst.cv Q0c.cv m.l_):=Y0d fun k hk=>hl k ((Lst.has _ Q0c.nohas _ _).1 hk)
 have h4:=weakL_self Q0a.nohas n l
 have h5:CV.weak (fun k=>k) n (Lst.cv Q0a.cv ⟨.own j,l,nofun⟩) (Lst.cv Q0a.cv ⟨.part,l,nofun⟩):=by
  simp only[Lst.cv,CV.weak,Tail.weak,true_and];exact h4
 simp only[Z0a.cv,K0c.cv,CV.weak,CV.weakL]
 exact⟨⟨h1,h2,trivial,trivial,h5,trivial⟩,h3,trivial,trivial⟩
noncomputable def resM(i:Nat)(m:Z0a)(p:Hp)(r:Except Int Z0a): XRes:=
 match r with
 |.ok m'=>.ret (.tup []) (p.set i (some (.var sh131 m'.cv)))
 |.error c=>.pan (fault c m.at_) p
def R188: Rel:=fun args p r=>∃(i:Nat) (m:Z0a) (o:Q0c),args=[.ptr i [],o.cv]/\(p.t.get i=some (.var sh131 m.cv))/\(0<=o.A/\o.A<4)/\(0<=o.B/\o.B<4)/\(m.e_.Shots.tl≠.view)/\(m.e_.Shots.l.length<=1000000)/\r=resM i m p (Mach.reckon m o)
theorem t188{T:XCall}(h:Has T 188 R188)(i:Nat)(m:Z0a)(o:Q0c){p:Hp}(h1:p.t.get i=some (.var sh131 m.cv))(hA:0<=o.A/\o.A<4)(hB:0<=o.B/\o.B<4)(h3:m.e_.Shots.tl≠.view)(h4:m.e_.Shots.l.length<=1000000): T 188 [.ptr i [],o.cv] p=resM i m p (Mach.reckon m o):=h _ _ _ ⟨i,m,o,rfl,h1,hA,hB,h3,h4,rfl⟩
theorem zdis188{P:Prop}(h:P:=by first|exact zdis|(simp only[Hp.bump_n,Hp.znew_n,Hp.zset_n,List.length_nil,List.length_cons,List.length_append,List.length_map,V1z];(first|done|omega))|(simp (disch:=first|exact zd1|(simp only[Hp.bump_n,Hp.znew_n,Hp.zset_n,List.length_nil,List.length_cons,List.length_append,List.length_map,V1z];(first|done|omega))) only[zheap,zx];(first|done|rfl))|fail): P:=h
theorem zq188{A B:Prop}(k:B)(h:A=B:=by have zy:=zA @zw188<|zA @rs188<|zA @tt3<|zA @tt25<|zA @tt29<|zA @tt34<|zA @tt37<|zA @tt39<|zA @tt131<|zA ti3.eq_1<|zA ti25.eq_1<|zA ti29.eq_1<|zA ti34.eq_1<|zA ti37.eq_1<|zA ti39.eq_1<|zA ti131.eq_1<|zA @t_186<|zA @t_183<|zA @t_150<|zA @t_202<|zA @t_148<|zA @t_203<|zA @K0f<|zA @X0k<|zA @Z0d<|zA @Y0j<|zA @zsl37<|zA @appT_cl0<|zA @appT_cl1<|zA @V1z<|zA @h1<|zA @hA<|zA @hB<|zA @h3<|@h4;have zd:=@zdis188;exact zQd): A:=h▸k
theorem zno188{P:Prop}(h:P:=by intro jj;simp[CV.has,CV.hasL,fault,Z0b.nohas,Q0a.nohas,Q0c.nohas]): P:=h
theorem c188: Con C 188 R188:=by
 refine Q0e C ?_ ?_ ?_
 ·rintro args p r r' ⟨i,m,o,h,h1,hA,hB,h3,h4,e⟩ ⟨i',m',o',h',h1',hA',hB',h3',h4',e'⟩
  subst e;subst e';simp_all[Z0a.inj_iff,K0c.inj_iff,Q0a.inj_iff,Q0c.inj_iff,X0q]
 ·rintro args p r ⟨i,m,o,h,h1,hA,hB,h3,h4,rfl⟩;first|(split<;>simp;done)|(simp;done)|(simp only[resM];split<;>simp;done)|(simp only[resD];split<;>simp;done)
 rintro args p r ⟨i,m,o,rfl,h1,hA,hB,h3,h4,rfl⟩
 refine zW C false [(186,R186),(183,R183),(150,R150),(202,R202),(148,R148),(203,R203)] ⟨c186,c183,c150,c202,c148,c203,zT⟩ rfl xf188 zc188_ok fun call zh hF=>?_
 have t_186:=@t186 _ zh.1
 have t_183:=@t183 _ zh.2.1
 have t_150:=@t150 _ zh.2.2.1
 have t_202:=@t202 _ zh.2.2.2.1
 have t_148:=@t148 _ zh.2.2.2.2.1
 have t_203:=@t203 _ zh.2.2.2.2.2.1
 clear zh
 have hd_h1:=hF.dom _ _ h1
 have hlt:∀m':Z0a,(m'.e_.Shots.tl=m.e_.Shots.tl\/m'.e_.Shots.tl=.part)->m'.l_.tl=m.l_.tl->(XObj.var sh131 m'.cv).lt p.n:=by
  intro m' e1 e2 j hj
  refine hF.lt_obj (.arg (a:=CV.ptr i []) (by simp) rfl) h1 j ?_
  simp only[XObj.has,Z0a.has,K0c.has]at hj ⊢
  rw[e2]at hj
  rcases e1 with e1|e1<;>simp_all
 cases hco:cloneOwn m.e_.Shots
 all_goals(have zx:=zA hco h1;refine zq188 ?_;try exact zT)
 repeat'(apply zK.s<;>intro hc<;>(try simp only[zhd]at hc)<;>(try have hw:=X0a hc)<;>(refine zq188 ?_;try exact zT))
 all_goals(try clear zx)
 all_goals simp[Mach.reckon,resM, *]
 all_goals(try simp (disch:=omega) only[if_pos,if_neg])
 any_goals(first|exact K0d hF zle (Y0d (Z0c zno188))|exact V0l hF zle (Y0d (Z0c zno188)))
 any_goals(refine X0l hF (hF.dom _ _ h1) zlm ⟨_,Hp.get_set_self _ _ _,V0k rfl (hlt _ (by simp[Mach.set,Mach.body]) (by simp[Mach.set,Mach.body]))⟩ (Y0d (Z0c X1e));done)
 all_goals
  refine X0l hF (hF.dom _ _ h1) zlm ⟨_,Hp.get_set_self _ _ _,rfl,Mach.weakS m _ _ _ fun k hk=>?_⟩ (Y0d (Z0c X1e))
  exact hF.lt_obj (.arg (a:=CV.ptr i []) (by simp) rfl) h1 k (by simp[XObj.has,Z0a.has,hk])
noncomputable def resD(i:Nat)(m:Z0a)(p:Hp)(r:Except Int (Z0a×Int)): XRes:=
 match r with
 |.ok m'=>.ret (I m'.2) (p.set i (some (.var sh131 m'.1.cv)))
 |.error c=>.pan (fault c m.at_) p
def R151: Rel:=fun args p r=>∃(i:Nat) (m:Z0a) (o:Q0c),args=[.ptr i [],o.cv]/\(p.t.get i=some (.var sh131 m.cv))/\(0<=m.at_/\m.at_<=1000000)/\(m.e_.Shots.tl≠.view)/\(m.e_.Shots.l.length<=1000000)/\r=resD i m p (Mach.doOp m o)
theorem t151{T:XCall}(h:Has T 151 R151)(i:Nat)(m:Z0a)(o:Q0c){p:Hp}(h1:p.t.get i=some (.var sh131 m.cv))(h2:0<=m.at_/\m.at_<=1000000)(h3:m.e_.Shots.tl≠.view)(h4:m.e_.Shots.l.length<=1000000): T 151 [.ptr i [],o.cv] p=resD i m p (Mach.doOp m o):=h _ _ _ ⟨i,m,o,rfl,h1,h2,h3,h4,rfl⟩
theorem zq151{A B:Prop}(k:B)(h:A=B:=by((try simp -dsimp (disch:=first|exact zdis|fail) only[zcore,zall,zopm,zop,zcallOp,qop,qbuiltin,ofOpt,List.map,reduceCtorEq,if_true,if_false,↓reduceIte,zbin,eqRes,qassert,qnum,qshift,qun,kindOf,allocV,List.nil_append,List.append_nil,List.cons_append,List.length_cons,List.length_nil,Nat.reduceAdd,Nat.reduceEqDiff,Nat.reduceLT,Nat.reduceSub,Nat.reduceMul,Int.reduceToNat,Int.reduceLE,Int.reduceLT,Int.reduceEq,Int.reduceNeg,Int.reduceAdd,Int.reduceSub,beq_self_eq_true,cond_true,cond_false,isConstOpd,xpanic,xconv,isBytes,qconv,List.length_map,List.map_nil,List.map_cons,concrete,Option.some.injEq,exists_eq',Option.map_some,Option.map_none,List.getElem?_cons_zero,List.getElem?_cons_succ,zw151,rs151,tt3,tt23,tt29,tt131,ti3,ti23,ti29,ti131,t_84,t_150,t_182,t_183,t_184,t_185,t_186,t_187,t_188,K0f,X0k,Z0d,Y0j,zsl23,Mach.set_at,Mach.put_at,resM,h1,h2,h3,h4,zx,hc]);rfl)): A:=h▸k
theorem zno151{P:Prop}(h:P:=by intro jj;simp[CV.has,CV.hasL,fault,Z0b.nohas,Q0a.nohas,Q0c.nohas]): P:=h
theorem c151: Con C 151 R151:=by
 refine Q0e C ?_ ?_ ?_
 ·rintro args p r r' ⟨i,m,o,h,h1,h2,h3,h4,e⟩ ⟨i',m',o',h',h1',h2',h3',h4',e'⟩
  subst e;subst e';simp_all[Z0a.inj_iff,K0c.inj_iff,Q0a.inj_iff,Q0c.inj_iff,K0j]
 ·rintro args p r ⟨i,m,o,h,h1,h2,h3,h4,rfl⟩;first|(split<;>simp;done)|(simp;done)|(simp only[resM];split<;>simp;done)|(simp only[resD];split<;>simp;done)
 rintro args p r ⟨i,m,o,rfl,h1,h2,h3,h4,rfl⟩
 refine zW C false [(84,R84),(150,R150),(182,R182),(183,R183),(184,R184),(185,R185),(186,R186),(187,R187),(188,R188)] ⟨c84,c150,c182,c183,c184,c185,c186,c187,c188,zT⟩ rfl xf151 zc151_ok fun call zh hF=>?_
 have t_84:=@t84 _ zh.1
 have t_150:=@t150 _ zh.2.1
 have t_182:=@t182 _ zh.2.2.1
 have t_183:=@t183 _ zh.2.2.2.1
 have t_184:=@t184 _ zh.2.2.2.2.1
 have t_185:=@t185 _ zh.2.2.2.2.2.1
 have t_186:=@t186 _ zh.2.2.2.2.2.2.1
 have t_187:=@t187 _ zh.2.2.2.2.2.2.2.1
 have t_188:=@t188 _ zh.2.2.2.2.2.2.2.2.1
 clear zh
 have hd_h1:=hF.dom _ _ h1
 have hlt:∀m':Z0a,(m'.e_.Shots.tl=m.e_.Shots.tl\/m'.e_.Shots.tl=.part)->m'.l_.tl=m.l_.tl->(XObj.var sh131 m'.cv).lt p.n:=by
  intro m' e1 e2 j hj
  refine hF.lt_obj (.arg (a:=CV.ptr i []) (by simp) rfl) h1 j ?_
  simp only[XObj.has,Z0a.has,K0c.has]at hj ⊢
  rw[e2]at hj
  rcases e1 with e1|e1<;>simp_all
 cases hn:namedOk o with
 |false=>
  (have zx:=zA hn h1;refine zq151 ?_;try exact zT)
  repeat'(apply zK.s<;>intro hc<;>(try simp only[zhd]at hc)<;>(try have hw:=X0a hc)<;>(refine zq151 ?_;try exact zT))
  all_goals(try clear zx)
  all_goals simp[Mach.doOp,resD, *]
  all_goals first
   |(first|exact K0d hF zle (Y0d (Z0c zno151))|exact V0l hF zle (Y0d (Z0c zno151)))
   |exact X0l hF hd_h1 zlm ⟨_,Hp.get_set_self _ _ _,V0k rfl (hlt _ (by first|exact hk.1|simp[Mach.set,Mach.put,Mach.body]) (by first|(rw[hk.2.1];done)|simp[Mach.set,Mach.put,Mach.body]))⟩ (Y0d (Z0c zno151))
   |exact X0l hF hd_h1 zlm ⟨_,(by rw[Hp.get_new_ne _ _ (Nat.ne_of_lt hd_h1)];exact h1),V0p (hlt _ (.inl rfl) rfl)⟩ (Y0d (Z0c zno151))
   |skip
 |true=>
  have hA:=namedOk_A hn
  have hB:=namedOk_B hn
  cases hr:Mach.reckon m o with
  |error c=>
   (have zx:=zA hn (zA hr h1);refine zq151 ?_;try exact zT)
   repeat'(apply zK.s<;>intro hc<;>(try simp only[zhd]at hc)<;>(try have hw:=X0a hc)<;>(refine zq151 ?_;try exact zT))
   all_goals(try clear zx)
   all_goals simp[Mach.doOp,resD, *]
   all_goals first
    |(first|exact K0d hF zle (Y0d (Z0c zno151))|exact V0l hF zle (Y0d (Z0c zno151)))
    |exact X0l hF hd_h1 zlm ⟨_,Hp.get_set_self _ _ _,V0k rfl (hlt _ (by first|exact hk.1|simp[Mach.set,Mach.put,Mach.body]) (by first|(rw[hk.2.1];done)|simp[Mach.set,Mach.put,Mach.body]))⟩ (Y0d (Z0c zno151))
    |exact X0l hF hd_h1 zlm ⟨_,(by rw[Hp.get_new_ne _ _ (Nat.ne_of_lt hd_h1)];exact h1),V0p (hlt _ (.inl rfl) rfl)⟩ (Y0d (Z0c zno151))
    |skip
  |ok m'=>
   have hk:=Mach.reckon_keeps hr
   have hka:=hk.2.2.1
   (have zx:=zA hn (zA hr (zA hka h1));refine zq151 ?_;try exact zT)
   repeat'(apply zK.s<;>intro hc<;>(try simp only[zhd]at hc)<;>(try have hw:=X0a hc)<;>(refine zq151 ?_;try exact zT))
   all_goals(try clear zx)
   all_goals simp[Mach.doOp,resD, *]
   all_goals first
    |(first|exact K0d hF zle (Y0d (Z0c zno151))|exact V0l hF zle (Y0d (Z0c zno151)))
    |exact X0l hF hd_h1 zlm ⟨_,Hp.get_set_self _ _ _,V0k rfl (hlt _ (by first|exact hk.1|simp[Mach.set,Mach.put,Mach.body]) (by first|(rw[hk.2.1];done)|simp[Mach.set,Mach.put,Mach.body]))⟩ (Y0d (Z0c zno151))
    |exact X0l hF hd_h1 zlm ⟨_,(by rw[Hp.get_new_ne _ _ (Nat.ne_of_lt hd_h1)];exact h1),V0p (hlt _ (.inl rfl) rfl)⟩ (Y0d (Z0c zno151))
    |skip
noncomputable def resR(i:Nat)(p:Hp)(r:Except (Int×Int) Z0a): XRes:=
 match r with
 |.ok m'=>.ret (.tup []) (p.set i (some (.var sh131 m'.cv)))
 |.error c=>.pan (fault c.1 c.2) (p.set i none)
def J74(i:Nat)(p0:Hp)(m0:Z0a)(k:Nat)(ρ:Env)(p:Hp): Prop:=
 ∃(m:Z0a),ρ 0=.ptr i []/\ρ 2=I (64-k)/\k<=64/\p.t.get i=some (.var sh131 m.cv)/\p0.n<=p.n/\(∀j o,j≠i->p0.t.get j=some o->p.t.get j=some o)/\Mach.run k m=Mach.run 64 m0/\0<=m.at_/\m.at_<=m.l_.l.length/\m.l_=m0.l_/\(m.e_.Shots.tl=m0.e_.Shots.tl\/m.e_.Shots.tl=.part)/\m.e_.Shots.l.length<=m0.e_.Shots.l.length+(64-k)
def R74: Rel:=fun args p r=>∃(i:Nat) (m:Z0a),args=[.ptr i []]/\(p.t.get i=some (.var sh131 m.cv))/\(0<=m.at_/\m.at_<=m.l_.l.length)/\(m.l_.l.length<=100000)/\(m.e_.Shots.tl≠.view)/\(m.e_.Shots.l.length<=100000)/\r=resR i p (Mach.run 64 m)
theorem t74{T:XCall}(h:Has T 74 R74)(i:Nat)(m:Z0a){p:Hp}(h1:p.t.get i=some (.var sh131 m.cv))(h2:0<=m.at_/\m.at_<=m.l_.l.length)(hl:m.l_.l.length<=100000)(h3:m.e_.Shots.tl≠.view)(h4:m.e_.Shots.l.length<=100000): T 74 [.ptr i []] p=resR i p (Mach.run 64 m):=h _ _ _ ⟨i,m,rfl,h1,h2,hl,h3,h4,rfl⟩
theorem zq74{A B:Prop}(k:B)(h:A=B:=by((try simp -dsimp (disch:=first|exact zdis|fail) only[zcore,zall,zopm,zop,zcallOp,qop,qbuiltin,ofOpt,List.map,reduceCtorEq,if_true,if_false,↓reduceIte,zbin,eqRes,qassert,qnum,qshift,qun,kindOf,allocV,List.nil_append,List.append_nil,List.cons_append,List.length_cons,List.length_nil,Nat.reduceAdd,Nat.reduceEqDiff,Nat.reduceLT,Nat.reduceSub,Nat.reduceMul,Int.reduceToNat,Int.reduceLE,Int.reduceLT,Int.reduceEq,Int.reduceNeg,Int.reduceAdd,Int.reduceSub,beq_self_eq_true,cond_true,cond_false,isConstOpd,xpanic,xconv,isBytes,qconv,List.length_map,List.map_nil,List.map_cons,concrete,Option.some.injEq,exists_eq',Option.map_some,Option.map_none,List.getElem?_cons_zero,List.getElem?_cons_succ,zw74,rs74,tt3,tt23,tt29,tt131,ti3,ti23,ti29,ti131,t_150,t_151,K0f,Y0j,zsl23,resD,h1,h2,hl,h3,h4,zx,hc]);rfl)): A:=h▸k
theorem zno74{P:Prop}(h:P:=by intro jj;simp[CV.has,CV.hasL,fault,Z0b.nohas,Q0c.nohas]): P:=h
theorem c74: Con C 74 R74:=by
 refine Q0e C ?_ ?_ ?_
 ·rintro args p r r' ⟨i,m,h,h1,h2,hl,h3,h4,e⟩ ⟨i',m',h',h1',h2',hl',h3',h4',e'⟩
  subst e;subst e';simp_all[Z0a.inj_iff,Q0c.inj_iff,K0j]
 ·rintro args p r ⟨i,m,h,h1,h2,hl,h3,h4,rfl⟩;first|(split<;>simp;done)|(simp;done)|(simp only[resM];split<;>simp;done)|(simp only[resD];split<;>simp;done)  | (unfold resR;split<;>simp;done)
 rintro args p r ⟨i,m,rfl,h1,h2,hl,h3,h4,rfl⟩
 refine zW C false [(150,R150),(151,R151)] ⟨c150,c151,zT⟩ rfl xf74 zc74_ok fun call zh hF=>?_
 have t_150:=@t150 _ zh.1
 have t_151:=@t151 _ zh.2.1
 clear zh
 have hd_h1:=hF.dom _ _ h1
 (have zx:=h1;refine zq74 ?_;try exact zT)
 repeat'(apply zK.s<;>intro hc<;>(try simp only[zhd]at hc)<;>(try have hw:=X0a hc)<;>(refine zq74 ?_;try exact zT))
 all_goals(try clear zx)
 show W C false noExt call (ZC.loop zn74_4) _ _ _
 refine V0i C false noExt call zn74_4 _ _ _ (J74 i p m) 64 ⟨m,rfl,rfl,by omega,h1,Nat.le_refl _,fun _ _ _ h=>h,rfl,h2.1,h2.2,rfl,.inl rfl,by omega⟩ ?_
 rintro k ρ q ⟨m',e0,e2,hk,hg,hn,hle,hrun,ha,ha',hml,htl,hsl⟩
 have hi:i<q.n:=Nat.lt_of_lt_of_le hd_h1 hn
 have htv:m'.e_.Shots.tl≠.view:=by rcases htl with h|h<;>rw[h]<;>first|exact h3|simp
 by_cases hlt:m'.at_<m'.l_.l.length
 all_goals rw[hml]at hlt ha'
 ·cases k with
  |zero=>
   have hs:¬(64-((0:Nat):Int)<64):=by omega
   (have zx:=zA e0 (zA e2 (zA hg (zA hml (zA hlt (zA hs h1)))));refine zq74 ?_;try exact zT)
   repeat'(apply zK.s<;>intro hc<;>(try simp only[zhd]at hc)<;>(try have hw:=X0a hc)<;>(refine zq74 ?_;try exact zT))
   all_goals(try clear zx)
   have hr:Mach.run 0 m'=.error (5,m'.at_):=by simp[Mach.run,hml,hlt]
   rw[<- hrun,hr]
   exact shr_dropP hF (fun j o hj h=>hle j o hj h) (Y0d (Z0c zno74))
  |succ k=>
   have hs:64-((k+1:Nat):Int)<64:=by omega
   cases hdo:Mach.doOp m' (nth m.l_.l m'.at_.toNat) with
   |error c=>
    (have zx:=zA e0 (zA e2 (zA hg (zA hml (zA hlt (zA hs (zA hdo h1))))));refine zq74 ?_;try exact zT)
    repeat'(apply zK.s<;>intro hc<;>(try simp only[zhd]at hc)<;>(try have hw:=X0a hc)<;>(refine zq74 ?_;try exact zT))
    all_goals(try clear zx)
    have hr:Mach.run (k+1) m'=.error (c,m'.at_):=by simp[Mach.run,hml,hlt,hdo]
    rw[<- hrun,hr]
    exact shr_dropP hF (fun j o hj h=>hle j o hj h) (Y0d (Z0c zno74))
   |ok r=>
    obtain⟨m2,n⟩:=r
    have hk2:=Mach.doOp_keeps hdo ha (by rw[hml];exact hlt)
    (have zx:=zA e0 (zA e2 (zA hg (zA hml (zA hlt (zA hs (zA hdo h1))))));refine zq74 ?_;try exact zT)
    repeat'(apply zK.s<;>intro hc<;>(try simp only[zhd]at hc)<;>(try have hw:=X0a hc)<;>(refine zq74 ?_;try exact zT))
    all_goals(try clear zx)
    have hr:Mach.run (k+1) m'=Mach.run k {m2 with at_:=n}:=by
     rw[Mach.run];simp[hml,hlt,hdo]
    obtain⟨k1,k2,k3,k4,k5,k6⟩:=hk2
    refine⟨k,Nat.lt_succ_self k,{m2 with at_:=n},zev,by simp[put_at,Q0d];omega,by omega,by simp only[Hp.bump_get,Hp.get_set_self],by simp only[Hp.bump_n,Hp.zset_n];omega,fun j o hj h=>?_,by rw[<- hr,hrun],k5,by rw[k2];exact k6,by rw[k2,hml],?_,by show m2.e_.Shots.l.length<=_;omega⟩
    ·simp (disch:=assumption) only[Hp.bump_get,Hp.get_set_ne]
     exact hle j o hj h
    ·show m2.e_.Shots.tl=_\/m2.e_.Shots.tl=_
     rcases k1 with h|h
     ·rw[h];exact htl
     ·exact .inr h
 ·(have zx:=zA e0 (zA e2 (zA hg (zA hml (zA hlt h1))));refine zq74 ?_;try exact zT)
  repeat'(apply zK.s<;>intro hc<;>(try simp only[zhd]at hc)<;>(try have hw:=X0a hc)<;>(refine zq74 ?_;try exact zT))
  all_goals(try clear zx)
  have hr:Mach.run k m'=.ok m':=by cases k<;>simp[Mach.run,hml,hlt]
  rw[<- hrun,hr]
  refine X0l hF hd_h1 (fun j o hj h=>hle j o hj h) ⟨_,hg,V0p fun j hj=>hF.lt_obj (.arg (a:=CV.ptr i []) (by simp) rfl) h1 j ?_⟩ (Y0d (Z0c zno74))
  simp only[XObj.has,Z0a.has,K0c.has]at hj ⊢
  rw[hml]at hj
  rcases htl with e|e<;>simp_all
end Go.Proofs.Ytpchcfkebljopaa
end
section
namespace Go.Proofs.Ytpchcfkebljopaa
open Go.Cl Go Go.RowKit
set_option maxRecDepth 100000
noncomputable def zn73_1: ZC:=ZC.reg [⟨some 2,.alloc 44,none,false⟩,⟨some 3,.alloc 4,none,true⟩]
noncomputable def zn73_4: ZC:=ZC.reg [⟨some 4,.move (.tmp 0),none,false⟩,⟨some 5,.binOp .eql 1 (.tmp 4) (.const .nilFunc) 1,none,true⟩]
noncomputable def zn73_7: ZC:=ZC.reg [⟨some 6,.build 44 ⟨[]⟩,none,false⟩,⟨none,.store 44 (.tmp 2) (.tmp 6),none,false⟩,⟨none,.store 4 (.tmp 3) (.const (.bool false)),none,true⟩]
noncomputable def zn73_6: ZC:=ZC.seq zn73_7 ZC.ret
noncomputable def zn73_5: ZC:=ZC.cond (.tmp 5) zn73_6 ZC.skip
noncomputable def zn73_3: ZC:=ZC.seq zn73_4 zn73_5
noncomputable def zn73_9: ZC:=ZC.reg [⟨some 7,.makeFunc (.func 149) ⟨[]⟩ ⟨[.tmp 2,.tmp 3]⟩,none,false⟩,⟨none,.defer ⟨.value (.tmp 7),⟨[]⟩,⟨[]⟩⟩,none,true⟩]
noncomputable def zn73_11: ZC:=ZC.reg [⟨some 8,.move (.tmp 0),none,false⟩,⟨some 9,.call ⟨.value (.tmp 8),⟨[]⟩,⟨[]⟩⟩,none,true⟩]
noncomputable def zn73_13: ZC:=ZC.reg [⟨some 10,.build 44 ⟨[]⟩,none,false⟩,⟨none,.store 44 (.tmp 2) (.tmp 10),none,false⟩,⟨none,.store 4 (.tmp 3) (.const (.bool false)),none,true⟩]
noncomputable def zn73_12: ZC:=ZC.seq zn73_13 ZC.ret
noncomputable def X1z: ZC:=ZC.seq zn73_11 zn73_12
noncomputable def zn73_8: ZC:=ZC.seq zn73_9 X1z
noncomputable def zn73_2: ZC:=ZC.seq zn73_3 zn73_8
noncomputable def zn73_0: ZC:=ZC.seq zn73_1 zn73_2
noncomputable def zc73: ZC:=zn73_0
def zw73:=zU C zc73.eq_1<|zU C zn73_1.eq_1<|zU C zn73_4.eq_1<|zU C zn73_7.eq_1<|zU C zn73_6.eq_1<|zU C zn73_5.eq_1<|zU C zn73_3.eq_1<|zU C zn73_9.eq_1<|zU C zn73_11.eq_1<|zU C zn73_13.eq_1<|zU C zn73_12.eq_1<|zU C X1z.eq_1<|zU C zn73_8.eq_1<|zU C zn73_2.eq_1<|(zunf C zn73_0.eq_1)
theorem rs73: (xfOf Try.f73).rs=[.cell 2 44,.cell 3 4]:=by kernel_rfl
noncomputable def zn149_1: ZC:=ZC.reg [⟨some 5,.call ⟨.builtin .recover,⟨[]⟩,⟨[]⟩⟩,none,true⟩]
noncomputable def zn149_4: ZC:=ZC.reg [⟨some 7,.binOp .eql 20 (.tmp 5) (.const .nilIface) 20,none,true⟩]
noncomputable def zn149_6: ZC:=ZC.reg [⟨some 2,.assign (.tmp 5),none,true⟩]
noncomputable def zn149_8: ZC:=ZC.reg [⟨some 8,.typeAssert (.tmp 5) 20 194 true,none,false⟩,⟨some 9,.extract (.tmp 8) 1,none,false⟩,⟨some 10,.extract (.tmp 8) 0,none,true⟩]
noncomputable def zn149_11: ZC:=ZC.reg [⟨some 3,.alloc 194,none,false⟩,⟨none,.store 194 (.tmp 3) (.tmp 10),none,true⟩]
noncomputable def zn149_12: ZC:=ZC.reg [⟨some 11,.fieldAddr 194 (.tmp 3) 0,none,false⟩,⟨some 12,.load 44 (.tmp 11),none,false⟩,⟨none,.store 44 (.tmp 0) (.tmp 12),none,false⟩,⟨none,.store 4 (.tmp 1) (.const (.bool true)),none,true⟩]
noncomputable def zn149_10: ZC:=ZC.seq zn149_11 zn149_12
noncomputable def zn149_14: ZC:=ZC.reg [⟨some 4,.assign (.tmp 5),none,true⟩]
noncomputable def zn149_15: ZC:=ZC.reg [⟨some 6,.move (.tmp 4),none,false⟩,⟨none,.panic (.tmp 6),none,true⟩]
noncomputable def zn149_13: ZC:=ZC.seq zn149_14 zn149_15
noncomputable def zn149_9: ZC:=ZC.cond (.tmp 9) zn149_10 zn149_13
noncomputable def zn149_7: ZC:=ZC.seq zn149_8 zn149_9
noncomputable def zn149_5: ZC:=ZC.cond (.tmp 7) zn149_6 zn149_7
noncomputable def zn149_3: ZC:=ZC.seq zn149_4 zn149_5
noncomputable def Q1t: ZC:=ZC.block 0 zn149_3
noncomputable def zn149_0: ZC:=ZC.seq zn149_1 Q1t
noncomputable def zc149: ZC:=zn149_0
def zw149:=zU C zc149.eq_1<|zU C zn149_1.eq_1<|zU C zn149_4.eq_1<|zU C zn149_6.eq_1<|zU C zn149_8.eq_1<|zU C zn149_11.eq_1<|zU C zn149_12.eq_1<|zU C zn149_10.eq_1<|zU C zn149_14.eq_1<|zU C zn149_15.eq_1<|zU C zn149_13.eq_1<|zU C zn149_9.eq_1<|zU C zn149_7.eq_1<|zU C zn149_5.eq_1<|zU C zn149_3.eq_1<|zU C Q1t.eq_1<|(zunf C zn149_0.eq_1)
end Go.Proofs.Ytpchcfkebljopaa
end
section
namespace Go.Proofs.Ytpchcfkebljopaa
open Go.Cl Go Go.RowKit
noncomputable def xc73: XC:=⟨catA (Try.f73.body.getD .skip),catB (Try.f73.body.getD .skip),catP (Try.f73.body.getD .skip),Try.f73.results.toList,Try.f73.ntmps,7,149,[2,3],5,catR (Try.f149.body.getD .skip),Try.f149.ntmps⟩
theorem xc73_ok: XCok C 73 xc73 where
 fn:=⟨Try.f73,_,_,_,_,_,_,_,_,by kernel_rfl,rfl,rfl,rfl⟩
 cl:=⟨Try.f149,_,_,_,_,_,by kernel_rfl,rfl,rfl,rfl,by kernel_rfl⟩
 ok:=⟨by kernel_rfl,by kernel_rfl,by kernel_rfl,by kernel_rfl,by kernel_rfl⟩
 lt:=⟨of_decide_eq_true (by kernel_rfl),of_decide_eq_true (by kernel_rfl),fun t ht=>of_decide_eq_true (List.all_eq_true.1 (show xc73.caps.all (fun t=>decide (t<xc73.n))=true by kernel_rfl) t ht),of_decide_eq_true (by kernel_rfl),of_decide_eq_true (by kernel_rfl)⟩
theorem xc73_n: ∃fn,C.P.funcs[73]?=some fn/\fn.body.isNone=false/\(fn.name == "runtime.NumGoroutine")=false:=⟨Try.f73,by kernel_rfl,by kernel_rfl,by kernel_rfl⟩
theorem xc73_a: zcode xc73.a=some zn73_1:=by kernel_rfl
theorem xc73_b: zcode xc73.b=some zn73_3:=by kernel_rfl
theorem xc73_p: zcode xc73.post=some X1z:=by kernel_rfl
theorem xc73_r: zcode xc73.rest=some Q1t:=by kernel_rfl
theorem xc73_rs: xc73.rs=[.cell 2 44,.cell 3 4]:=by kernel_rfl
theorem xc73_z: xc73.k=7/\xc73.g=149/\xc73.caps=[2,3]/\xc73.gd=5/\xc73.rs=[.cell 2 44,.cell 3 4]/\(∀p:Hp,Cl.xalloc C p 4=.ret (.ptr p.n []) (p.new (.var .s (Bo false)))):=⟨rfl,rfl,rfl,rfl,xc73_rs,fun p=>by simp only[Cl.xalloc,tt4,ti4]⟩
end Go.Proofs.Ytpchcfkebljopaa
end
