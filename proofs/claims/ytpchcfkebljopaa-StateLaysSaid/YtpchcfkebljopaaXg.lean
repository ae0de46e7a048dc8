import Derived.Test.YtpchcfkebljopaaChecked
import Derived.Test.YtpchcfkebljopaaRows
import Derived.Test.YtpchcfkebljopaaXf
set_option linter.unusedSimpArgs false
set_option linter.unusedVariables false
set_option linter.constructorNameAsVariable false
set_option linter.defProp false
set_option maxHeartbeats 8000000
section
namespace Go.Proofs.Ytpchcfkebljopaa
open Go.Cl
abbrev sh1: Shape:=.s
abbrev z1: CV:=.sc .nilFunc
def ti1: TI:=⟨.base (.func #[] #[] false),sh1,8,z1⟩
abbrev sh2: Shape:=.s
abbrev z2: CV:=.sc (.int .i64 0)
def ti2: TI:=⟨.base (.int .i64),sh2,8,z2⟩
abbrev sh3: Shape:=.s
abbrev z3: CV:=.sc (.int .i64 0)
def ti3: TI:=⟨.base (.int .i64),sh3,8,z3⟩
abbrev sh4: Shape:=.s
abbrev z4: CV:=.sc (.bool false)
def ti4: TI:=⟨.base (.bool),sh4,1,z4⟩
abbrev sh5: Shape:=.s
abbrev z5: CV:=.sc (.int .u8 0)
def ti5: TI:=⟨.base (.int .u8),sh5,1,z5⟩
abbrev sh9: Shape:=.s
abbrev z9: CV:=.sc (.string ⟨#[]⟩)
def ti9: TI:=⟨.base (.string),sh9,16,z9⟩
abbrev sh12: Shape:=.s
abbrev z12: CV:=.sc (.int .u64 0)
def ti12: TI:=⟨.base (.int .u64),sh12,8,z12⟩
abbrev sh15: Shape:=.s
abbrev z15: CV:=.sc (.pointer none)
def ti15: TI:=⟨.base (.pointer 243),sh15,8,z15⟩
abbrev sh16: Shape:=.s
abbrev z16: CV:=.sc (.pointer none)
def ti16: TI:=⟨.base (.pointer 246),sh16,8,z16⟩
abbrev sh17: Shape:=.s
abbrev z17: CV:=.sc (.pointer none)
def ti17: TI:=⟨.base (.pointer 255),sh17,8,z17⟩
abbrev sh20: Shape:=.s
abbrev z20: CV:=.sc .nilIface
def ti20: TI:=⟨.base (.interface #[]),sh20,16,z20⟩
abbrev sh21: Shape:=.s
abbrev z21: CV:=.sc (.int .i32 0)
def ti21: TI:=⟨.base (.int .i32),sh21,4,z21⟩
abbrev sh22: Shape:=.s
abbrev z22: CV:=.lst .nil []
def ti22: TI:=⟨.base (.slice 31),sh22,24,z22⟩
abbrev sh23: Shape:=.s
abbrev z23: CV:=.lst .nil []
def ti23: TI:=⟨.base (.slice 29),sh23,24,z23⟩
abbrev sh24: Shape:=.s
abbrev z24: CV:=.lst .nil []
def ti24: TI:=⟨.base (.slice 3),sh24,24,z24⟩
abbrev sh25: Shape:=.s
abbrev z25: CV:=.sc (.int .u64 0)
def ti25: TI:=⟨.base (.int .u64),sh25,8,z25⟩
def sh26: Shape:=.n [sh3,sh3,sh3,sh3,sh3,sh3,sh24,sh25,sh3]
def z26: CV:=.agg [z3,z3,z3,z3,z3,z3,z24,z25,z3]
def ti26: TI:=⟨.st [(0,1,3),(1,1,3),(2,1,3),(3,1,3),(4,1,3),(5,1,3),(6,1,24),(7,1,25),(8,1,3)],sh26,88,z26⟩
def sh27: Shape:=.n [sh3,sh3,sh3,sh3,sh3,sh3,sh24,sh25,sh3]
def z27: CV:=.agg [z3,z3,z3,z3,z3,z3,z24,z25,z3]
def ti27: TI:=⟨.st [(0,1,3),(1,1,3),(2,1,3),(3,1,3),(4,1,3),(5,1,3),(6,1,24),(7,1,25),(8,1,3)],sh27,88,z27⟩
def sh28: Shape:=.n [sh3,sh3,sh3]
def z28: CV:=.agg [z3,z3,z3]
def ti28: TI:=⟨.st [(0,1,3),(1,1,3),(2,1,3)],sh28,24,z28⟩
def sh29: Shape:=.n [sh3,sh3,sh3]
def z29: CV:=.agg [z3,z3,z3]
def ti29: TI:=⟨.st [(0,1,3),(1,1,3),(2,1,3)],sh29,24,z29⟩
abbrev sh30: Shape:=.s
abbrev z30: CV:=.sc .nilFunc
def ti30: TI:=⟨.base (.func #[31] #[29] false),sh30,8,z30⟩
def sh31: Shape:=.n [sh3,sh3,sh3]
def z31: CV:=.agg [z3,z3,z3]
def ti31: TI:=⟨.st [(0,1,3),(1,1,3),(2,1,3)],sh31,24,z31⟩
def sh32: Shape:=.n (List.replicate 4 sh3)
def z32: CV:=.agg (List.replicate 4 z3)
def ti32: TI:=⟨.ar 4 1 3,sh32,32,z32⟩
def sh33: Shape:=.n [sh3,sh3,sh3,sh3,sh3,sh3,sh3,sh32,sh3]
def z33: CV:=.agg [z3,z3,z3,z3,z3,z3,z3,z32,z3]
def ti33: TI:=⟨.st [(0,1,3),(1,1,3),(2,1,3),(3,1,3),(4,1,3),(5,1,3),(6,1,3),(7,4,32),(11,1,3)],sh33,96,z33⟩
def sh34: Shape:=.n [sh3,sh3,sh3,sh3,sh3,sh3,sh3,sh32,sh3]
def z34: CV:=.agg [z3,z3,z3,z3,z3,z3,z3,z32,z3]
def ti34: TI:=⟨.st [(0,1,3),(1,1,3),(2,1,3),(3,1,3),(4,1,3),(5,1,3),(6,1,3),(7,4,32),(11,1,3)],sh34,96,z34⟩
def sh35: Shape:=.n [sh3,sh3,sh3]
def z35: CV:=.agg [z3,z3,z3]
def ti35: TI:=⟨.st [(0,1,3),(1,1,3),(2,1,3)],sh35,24,z35⟩
def sh36: Shape:=.n [sh3,sh3,sh3]
def z36: CV:=.agg [z3,z3,z3]
def ti36: TI:=⟨.st [(0,1,3),(1,1,3),(2,1,3)],sh36,24,z36⟩
abbrev sh37: Shape:=.s
abbrev z37: CV:=.lst .nil []
def ti37: TI:=⟨.base (.slice 34),sh37,24,z37⟩
def sh38: Shape:=.n [sh34,sh36,sh25,sh3,sh37]
def z38: CV:=.agg [z34,z36,z25,z3,z37]
def ti38: TI:=⟨.st [(0,12,34),(12,3,36),(15,1,25),(16,1,3),(17,1,37)],sh38,160,z38⟩
def sh39: Shape:=.n [sh34,sh36,sh25,sh3,sh37]
def z39: CV:=.agg [z34,z36,z25,z3,z37]
def ti39: TI:=⟨.st [(0,12,34),(12,3,36),(15,1,25),(16,1,3),(17,1,37)],sh39,160,z39⟩
abbrev sh40: Shape:=.s
abbrev z40: CV:=.sc .nilFunc
def ti40: TI:=⟨.base (.func #[27] #[39] false),sh40,8,z40⟩
abbrev sh41: Shape:=.s
abbrev z41: CV:=.sc .nilFunc
def ti41: TI:=⟨.base (.func #[] #[4] false),sh41,8,z41⟩
abbrev sh42: Shape:=.s
abbrev z42: CV:=.sc .nilFunc
def ti42: TI:=⟨.base (.func #[34] #[4] false),sh42,8,z42⟩
def sh43: Shape:=.n [sh3,sh3]
def z43: CV:=.agg [z3,z3]
def ti43: TI:=⟨.st [(0,1,3),(1,1,3)],sh43,16,z43⟩
def sh44: Shape:=.n [sh3,sh3]
def z44: CV:=.agg [z3,z3]
def ti44: TI:=⟨.st [(0,1,3),(1,1,3)],sh44,16,z44⟩
abbrev sh46: Shape:=.s
abbrev z46: CV:=.sc .nilFunc
def ti46: TI:=⟨.base (.func #[23,39] #[39,44,4] false),sh46,8,z46⟩
abbrev sh47: Shape:=.s
abbrev z47: CV:=.sc .nilFunc
def ti47: TI:=⟨.base (.func #[39,39] #[4] false),sh47,8,z47⟩
abbrev sh48: Shape:=.s
abbrev z48: CV:=.sc .nilFunc
def ti48: TI:=⟨.base (.func #[22,23,27] #[4] false),sh48,8,z48⟩
abbrev sh49: Shape:=.s
abbrev z49: CV:=.sc .nilFunc
def ti49: TI:=⟨.base (.func #[22] #[23] false),sh49,8,z49⟩
abbrev sh50: Shape:=.s
abbrev z50: CV:=.sc .nilFunc
def ti50: TI:=⟨.base (.func #[22,22,27] #[4] false),sh50,8,z50⟩
def sh51: Shape:=.n [sh34,sh36,sh25,sh3,sh37]
def z51: CV:=.agg [z34,z36,z25,z3,z37]
def ti51: TI:=⟨.st [(0,12,34),(12,3,36),(15,1,25),(16,1,3),(17,1,37)],sh51,160,z51⟩
abbrev sh53: Shape:=.s
abbrev z53: CV:=.sc .nilFunc
def ti53: TI:=⟨.base (.func #[23,51] #[51,3,3,4] false),sh53,8,z53⟩
abbrev sh54: Shape:=.s
abbrev z54: CV:=.sc .nilFunc
def ti54: TI:=⟨.base (.func #[23] #[4] false),sh54,8,z54⟩
abbrev sh55: Shape:=.s
abbrev z55: CV:=.sc .nilFunc
def ti55: TI:=⟨.base (.func #[22,27] #[4] false),sh55,8,z55⟩
def sh56: Shape:=.n [sh3,sh3,sh3,sh3,sh3,sh3,sh3,sh22]
def z56: CV:=.agg [z3,z3,z3,z3,z3,z3,z3,z22]
def ti56: TI:=⟨.st [(0,1,3),(1,1,3),(2,1,3),(3,1,3),(4,1,3),(5,1,3),(6,1,3),(7,1,22)],sh56,80,z56⟩
def sh57: Shape:=.n [sh3,sh3,sh3,sh3,sh3,sh3,sh3,sh22]
def z57: CV:=.agg [z3,z3,z3,z3,z3,z3,z3,z22]
def ti57: TI:=⟨.st [(0,1,3),(1,1,3),(2,1,3),(3,1,3),(4,1,3),(5,1,3),(6,1,3),(7,1,22)],sh57,80,z57⟩
abbrev sh58: Shape:=.s
abbrev z58: CV:=.lst .nil []
def ti58: TI:=⟨.base (.slice 24),sh58,24,z58⟩
abbrev sh59: Shape:=.s
abbrev z59: CV:=.sc (.float .f64 0)
def ti59: TI:=⟨.base (.float .f64),sh59,8,z59⟩
def sh60: Shape:=.n [sh3,sh3,sh3,sh3,sh3,sh3,sh59,sh59,sh23,sh24]
def z60: CV:=.agg [z3,z3,z3,z3,z3,z3,z59,z59,z23,z24]
def ti60: TI:=⟨.st [(0,1,3),(1,1,3),(2,1,3),(3,1,3),(4,1,3),(5,1,3),(6,1,59),(7,1,59),(8,1,23),(9,1,24)],sh60,112,z60⟩
def sh61: Shape:=.n [sh3,sh3,sh3,sh3,sh3,sh3,sh59,sh59,sh23,sh24]
def z61: CV:=.agg [z3,z3,z3,z3,z3,z3,z59,z59,z23,z24]
def ti61: TI:=⟨.st [(0,1,3),(1,1,3),(2,1,3),(3,1,3),(4,1,3),(5,1,3),(6,1,59),(7,1,59),(8,1,23),(9,1,24)],sh61,112,z61⟩
abbrev sh62: Shape:=.s
abbrev z62: CV:=.sc .nilFunc
def ti62: TI:=⟨.base (.func #[57] #[61] false),sh62,8,z62⟩
def sh63: Shape:=.n (List.replicate 16 sh34)
def z63: CV:=.agg (List.replicate 16 z34)
def ti63: TI:=⟨.ar 16 12 34,sh63,1536,z63⟩
def sh64: Shape:=.n (List.replicate 8 sh3)
def z64: CV:=.agg (List.replicate 8 z3)
def ti64: TI:=⟨.ar 8 1 3,sh64,64,z64⟩
def sh65: Shape:=.n [sh3,sh25,sh63,sh64]
def z65: CV:=.agg [z3,z25,z63,z64]
def ti65: TI:=⟨.st [(0,1,3),(1,1,25),(2,192,63),(194,8,64)],sh65,1616,z65⟩
def sh66: Shape:=.n [sh3,sh25,sh63,sh64]
def z66: CV:=.agg [z3,z25,z63,z64]
def ti66: TI:=⟨.st [(0,1,3),(1,1,25),(2,192,63),(194,8,64)],sh66,1616,z66⟩
abbrev sh67: Shape:=.s
abbrev z67: CV:=.sc .nilFunc
def ti67: TI:=⟨.base (.func #[61,58] #[66] false),sh67,8,z67⟩
abbrev sh68: Shape:=.s
abbrev z68: CV:=.lst .nil []
def ti68: TI:=⟨.base (.slice 5),sh68,24,z68⟩
abbrev sh69: Shape:=.s
abbrev z69: CV:=.sc (.int .i64 0)
def ti69: TI:=⟨.base (.int .i64),sh69,8,z69⟩
abbrev sh71: Shape:=.s
abbrev z71: CV:=.sc .nilFunc
def ti71: TI:=⟨.base (.func #[61,66] #[68,69] false),sh71,8,z71⟩
abbrev sh72: Shape:=.s
abbrev z72: CV:=.sc .nilFunc
def ti72: TI:=⟨.base (.func #[66,66] #[4] false),sh72,8,z72⟩
abbrev sh74: Shape:=.s
abbrev z74: CV:=.sc .nilFunc
def ti74: TI:=⟨.base (.func #[61,68] #[66,69] false),sh74,8,z74⟩
abbrev sh75: Shape:=.s
abbrev z75: CV:=.sc .nilFunc
def ti75: TI:=⟨.base (.func #[57,58,58] #[4] false),sh75,8,z75⟩
abbrev sh76: Shape:=.s
abbrev z76: CV:=.sc .nilFunc
def ti76: TI:=⟨.base (.func #[3,3] #[3] false),sh76,8,z76⟩
abbrev sh77: Shape:=.s
abbrev z77: CV:=.sc .nilFunc
def ti77: TI:=⟨.base (.func #[61,66] #[4] false),sh77,8,z77⟩
abbrev sh78: Shape:=.s
abbrev z78: CV:=.sc .nilFunc
def ti78: TI:=⟨.base (.func #[57,58,3,5] #[4] false),sh78,8,z78⟩
abbrev sh80: Shape:=.s
abbrev z80: CV:=.sc .nilFunc
def ti80: TI:=⟨.base (.func #[61,66] #[68,4] false),sh80,8,z80⟩
abbrev sh81: Shape:=.s
abbrev z81: CV:=.sc .nilFunc
def ti81: TI:=⟨.base (.func #[61,66] #[3] false),sh81,8,z81⟩
abbrev sh82: Shape:=.s
abbrev z82: CV:=.sc .nilFunc
def ti82: TI:=⟨.base (.func #[68,3] #[68] false),sh82,8,z82⟩
abbrev sh84: Shape:=.s
abbrev z84: CV:=.sc .nilFunc
def ti84: TI:=⟨.base (.func #[61,68] #[66,4] false),sh84,8,z84⟩
abbrev sh85: Shape:=.s
abbrev z85: CV:=.sc .nilFunc
def ti85: TI:=⟨.base (.func #[57,58,3,3,3,68,4,24,5] #[4] false),sh85,8,z85⟩
abbrev sh86: Shape:=.s
abbrev z86: CV:=.sc .nilFunc
def ti86: TI:=⟨.base (.func #[57,58,3] #[4] false),sh86,8,z86⟩
abbrev sh87: Shape:=.s
abbrev z87: CV:=.sc (.pointer none)
def ti87: TI:=⟨.base (.pointer 34),sh87,8,z87⟩
abbrev sh88: Shape:=.s
abbrev z88: CV:=.sc .nilFunc
def ti88: TI:=⟨.base (.func #[57,58,3,3] #[4] false),sh88,8,z88⟩
def sh89: Shape:=.n [sh3,sh3,sh3,sh3,sh3,sh3,sh3,sh3,sh3,sh3,sh4,sh25,sh24,sh58]
def z89: CV:=.agg [z3,z3,z3,z3,z3,z3,z3,z3,z3,z3,z4,z25,z24,z58]
def ti89: TI:=⟨.st [(0,1,3),(1,1,3),(2,1,3),(3,1,3),(4,1,3),(5,1,3),(6,1,3),(7,1,3),(8,1,3),(9,1,3),(10,1,4),(11,1,25),(12,1,24),(13,1,58)],sh89,144,z89⟩
def sh90: Shape:=.n [sh3,sh3,sh3,sh3,sh3,sh3,sh3,sh3,sh3,sh3,sh4,sh25,sh24,sh58]
def z90: CV:=.agg [z3,z3,z3,z3,z3,z3,z3,z3,z3,z3,z4,z25,z24,z58]
def ti90: TI:=⟨.st [(0,1,3),(1,1,3),(2,1,3),(3,1,3),(4,1,3),(5,1,3),(6,1,3),(7,1,3),(8,1,3),(9,1,3),(10,1,4),(11,1,25),(12,1,24),(13,1,58)],sh90,144,z90⟩
abbrev sh91: Shape:=.s
abbrev z91: CV:=.lst .nil []
def ti91: TI:=⟨.base (.slice 36),sh91,24,z91⟩
abbrev sh92: Shape:=.s
abbrev z92: CV:=.lst .nil []
def ti92: TI:=⟨.base (.slice 108),sh92,24,z92⟩
def sh93: Shape:=.n [sh3,sh3,sh3,sh3,sh4,sh25,sh3,sh3,sh91,sh3,sh92,sh3,sh3]
def z93: CV:=.agg [z3,z3,z3,z3,z4,z25,z3,z3,z91,z3,z92,z3,z3]
def ti93: TI:=⟨.st [(0,1,3),(1,1,3),(2,1,3),(3,1,3),(4,1,4),(5,1,25),(6,1,3),(7,1,3),(8,1,91),(9,1,3),(10,1,92),(11,1,3),(12,1,3)],sh93,136,z93⟩
def sh94: Shape:=.n [sh3,sh3,sh3,sh3,sh4,sh25,sh3,sh3,sh91,sh3,sh92,sh3,sh3]
def z94: CV:=.agg [z3,z3,z3,z3,z4,z25,z3,z3,z91,z3,z92,z3,z3]
def ti94: TI:=⟨.st [(0,1,3),(1,1,3),(2,1,3),(3,1,3),(4,1,4),(5,1,25),(6,1,3),(7,1,3),(8,1,91),(9,1,3),(10,1,92),(11,1,3),(12,1,3)],sh94,136,z94⟩
abbrev sh95: Shape:=.s
abbrev z95: CV:=.sc .nilFunc
def ti95: TI:=⟨.base (.func #[90] #[94] false),sh95,8,z95⟩
abbrev sh96: Shape:=.s
abbrev z96: CV:=.sc .nilFunc
def ti96: TI:=⟨.base (.func #[3,94] #[68,69] false),sh96,8,z96⟩
abbrev sh98: Shape:=.s
abbrev z98: CV:=.sc .nilFunc
def ti98: TI:=⟨.base (.func #[3,68] #[94,69] false),sh98,8,z98⟩
abbrev sh99: Shape:=.s
abbrev z99: CV:=.sc .nilFunc
def ti99: TI:=⟨.base (.func #[94,94] #[4] false),sh99,8,z99⟩
abbrev sh100: Shape:=.s
abbrev z100: CV:=.sc .nilFunc
def ti100: TI:=⟨.base (.func #[90,90,3,3,3,5] #[4] false),sh100,8,z100⟩
abbrev sh101: Shape:=.s
abbrev z101: CV:=.sc .nilFunc
def ti101: TI:=⟨.base (.func #[94] #[4] false),sh101,8,z101⟩
abbrev sh102: Shape:=.s
abbrev z102: CV:=.sc .nilFunc
def ti102: TI:=⟨.base (.func #[90,3] #[4] false),sh102,8,z102⟩
abbrev sh103: Shape:=.s
abbrev z103: CV:=.sc .nilFunc
def ti103: TI:=⟨.base (.func #[3,94] #[68,4] false),sh103,8,z103⟩
abbrev sh104: Shape:=.s
abbrev z104: CV:=.sc .nilFunc
def ti104: TI:=⟨.base (.func #[3,68] #[68] false),sh104,8,z104⟩
abbrev sh106: Shape:=.s
abbrev z106: CV:=.sc .nilFunc
def ti106: TI:=⟨.base (.func #[68] #[3,4] false),sh106,8,z106⟩
abbrev sh107: Shape:=.s
abbrev z107: CV:=.sc .nilFunc
def ti107: TI:=⟨.base (.func #[90,3,68,3,24,5] #[4] false),sh107,8,z107⟩
abbrev sh108: Shape:=.s
abbrev z108: CV:=.lst .nil []
def ti108: TI:=⟨.base (.slice 110),sh108,24,z108⟩
def sh109: Shape:=.n [sh4,sh36]
def z109: CV:=.agg [z4,z36]
def ti109: TI:=⟨.st [(0,1,4),(1,3,36)],sh109,32,z109⟩
def sh110: Shape:=.n [sh4,sh36]
def z110: CV:=.agg [z4,z36]
def ti110: TI:=⟨.st [(0,1,4),(1,3,36)],sh110,32,z110⟩
abbrev sh111: Shape:=.s
abbrev z111: CV:=.sc .nilFunc
def ti111: TI:=⟨.base (.func #[61] #[66] false),sh111,8,z111⟩
abbrev sh112: Shape:=.s
abbrev z112: CV:=.sc .nilFunc
def ti112: TI:=⟨.base (.func #[61] #[4] false),sh112,8,z112⟩
abbrev sh113: Shape:=.s
abbrev z113: CV:=.sc .nilFunc
def ti113: TI:=⟨.base (.func #[3,58] #[92] false),sh113,8,z113⟩
abbrev sh114: Shape:=.s
abbrev z114: CV:=.sc .nilFunc
def ti114: TI:=⟨.base (.func #[61,66,108] #[66] false),sh114,8,z114⟩
abbrev sh115: Shape:=.s
abbrev z115: CV:=.sc .nilFunc
def ti115: TI:=⟨.base (.func #[57,58,92] #[4] false),sh115,8,z115⟩
abbrev sh116: Shape:=.s
abbrev z116: CV:=.sc .nilFunc
def ti116: TI:=⟨.base (.func #[3,23] #[61] true),sh116,8,z116⟩
abbrev sh117: Shape:=.s
abbrev z117: CV:=.sc .nilFunc
def ti117: TI:=⟨.base (.func #[3,58,58,3] #[4] false),sh117,8,z117⟩
def sh118: Shape:=.n (List.replicate 4 sh29)
def z118: CV:=.agg (List.replicate 4 z29)
def ti118: TI:=⟨.ar 4 3 29,sh118,96,z118⟩
abbrev sh119: Shape:=.s
abbrev z119: CV:=.sc .nilFunc
def ti119: TI:=⟨.base (.func #[3,3] #[34] false),sh119,8,z119⟩
abbrev sh120: Shape:=.s
abbrev z120: CV:=.sc .nilFunc
def ti120: TI:=⟨.base (.func #[3,3,58,3] #[4] false),sh120,8,z120⟩
abbrev sh121: Shape:=.s
abbrev z121: CV:=.sc .nilFunc
def ti121: TI:=⟨.base (.func #[3,24] #[108] false),sh121,8,z121⟩
abbrev sh122: Shape:=.s
abbrev z122: CV:=.sc .nilFunc
def ti122: TI:=⟨.base (.func #[57,58,24,3] #[4] false),sh122,8,z122⟩
abbrev sh123: Shape:=.s
abbrev z123: CV:=.sc .nilFunc
def ti123: TI:=⟨.base (.func #[61,66,92] #[66] false),sh123,8,z123⟩
abbrev sh124: Shape:=.s
abbrev z124: CV:=.sc .nilFunc
def ti124: TI:=⟨.base (.func #[57,58] #[4] false),sh124,8,z124⟩
abbrev sh125: Shape:=.s
abbrev z125: CV:=.sc .nilFunc
def ti125: TI:=⟨.base (.func #[3,3] #[36] false),sh125,8,z125⟩
abbrev sh126: Shape:=.s
abbrev z126: CV:=.sc .nilFunc
def ti126: TI:=⟨.base (.func #[] #[39] false),sh126,8,z126⟩
abbrev sh127: Shape:=.s
abbrev z127: CV:=.sc .nilFunc
def ti127: TI:=⟨.base (.func #[3,3,3] #[4] false),sh127,8,z127⟩
abbrev sh128: Shape:=.s
abbrev z128: CV:=.sc .nilFunc
def ti128: TI:=⟨.base (.func #[39] #[39] false),sh128,8,z128⟩
abbrev sh129: Shape:=.s
abbrev z129: CV:=.sc (.pointer none)
def ti129: TI:=⟨.base (.pointer 131),sh129,8,z129⟩
def sh130: Shape:=.n [sh39,sh23,sh3]
def z130: CV:=.agg [z39,z23,z3]
def ti130: TI:=⟨.st [(0,18,39),(18,1,23),(19,1,3)],sh130,192,z130⟩
def sh131: Shape:=.n [sh39,sh23,sh3]
def z131: CV:=.agg [z39,z23,z3]
def ti131: TI:=⟨.st [(0,18,39),(18,1,23),(19,1,3)],sh131,192,z131⟩
abbrev sh133: Shape:=.s
abbrev z133: CV:=.sc .nilFunc
def ti133: TI:=⟨.base (.func #[1] #[44,4] false),sh133,8,z133⟩
abbrev sh134: Shape:=.s
abbrev z134: CV:=.sc .nilFunc
def ti134: TI:=⟨.base (.func #[29,51,3] #[3] false),sh134,8,z134⟩
abbrev sh135: Shape:=.s
abbrev z135: CV:=.sc .nilFunc
def ti135: TI:=⟨.base (.func #[51,3] #[3] false),sh135,8,z135⟩
abbrev sh137: Shape:=.s
abbrev z137: CV:=.sc .nilFunc
def ti137: TI:=⟨.base (.func #[25,3] #[25,3] false),sh137,8,z137⟩
abbrev sh138: Shape:=.s
abbrev z138: CV:=.sc .nilFunc
def ti138: TI:=⟨.base (.func #[29,51] #[3] false),sh138,8,z138⟩
abbrev sh139: Shape:=.s
abbrev z139: CV:=.sc .nilFunc
def ti139: TI:=⟨.base (.func #[3,3,3] #[3] false),sh139,8,z139⟩
abbrev sh140: Shape:=.s
abbrev z140: CV:=.sc .nilFunc
def ti140: TI:=⟨.base (.func #[34,3,3] #[34] false),sh140,8,z140⟩
abbrev sh141: Shape:=.s
abbrev z141: CV:=.sc .nilFunc
def ti141: TI:=⟨.base (.func #[23,142] #[4] false),sh141,8,z141⟩
abbrev sh142: Shape:=.s
abbrev z142: CV:=.sc .nilFunc
def ti142: TI:=⟨.base (.func #[29] #[4] false),sh142,8,z142⟩
abbrev sh143: Shape:=.s
abbrev z143: CV:=.sc (.pointer none)
def ti143: TI:=⟨.base (.pointer 203),sh143,8,z143⟩
abbrev sh144: Shape:=.s
abbrev z144: CV:=.sc .nilFunc
def ti144: TI:=⟨.base (.func #[] #[143] false),sh144,8,z144⟩
abbrev sh145: Shape:=.s
abbrev z145: CV:=.sc .nilFunc
def ti145: TI:=⟨.base (.func #[25,3] #[] false),sh145,8,z145⟩
abbrev sh146: Shape:=.s
abbrev z146: CV:=.sc .nilFunc
def ti146: TI:=⟨.base (.func #[143,34] #[] false),sh146,8,z146⟩
abbrev sh147: Shape:=.s
abbrev z147: CV:=.sc .nilFunc
def ti147: TI:=⟨.base (.func #[] #[68] false),sh147,8,z147⟩
abbrev sh148: Shape:=.s
abbrev z148: CV:=.sc .nilFunc
def ti148: TI:=⟨.base (.func #[] #[61] false),sh148,8,z148⟩
abbrev sh149: Shape:=.s
abbrev z149: CV:=.sc .nilFunc
def ti149: TI:=⟨.base (.func #[61,150] #[66] false),sh149,8,z149⟩
abbrev sh150: Shape:=.s
abbrev z150: CV:=.sc (.pointer none)
def ti150: TI:=⟨.base (.pointer 208),sh150,8,z150⟩
abbrev sh151: Shape:=.s
abbrev z151: CV:=.sc .nilFunc
def ti151: TI:=⟨.base (.func #[68] #[150] false),sh151,8,z151⟩
abbrev sh152: Shape:=.s
abbrev z152: CV:=.sc .nilFunc
def ti152: TI:=⟨.base (.func #[68,68] #[4] false),sh152,8,z152⟩
abbrev sh153: Shape:=.s
abbrev z153: CV:=.sc (.pointer none)
def ti153: TI:=⟨.base (.pointer 156),sh153,8,z153⟩
abbrev sh154: Shape:=.s
abbrev z154: CV:=.lst .nil []
def ti154: TI:=⟨.base (.slice 4),sh154,24,z154⟩
def sh155: Shape:=.n [sh154]
def z155: CV:=.agg [z154]
def ti155: TI:=⟨.st [(0,1,154)],sh155,24,z155⟩
def sh156: Shape:=.n [sh154]
def z156: CV:=.agg [z154]
def ti156: TI:=⟨.st [(0,1,154)],sh156,24,z156⟩
abbrev sh157: Shape:=.s
abbrev z157: CV:=.sc .nilFunc
def ti157: TI:=⟨.base (.func #[3,3] #[] false),sh157,8,z157⟩
abbrev sh158: Shape:=.s
abbrev z158: CV:=.sc .nilFunc
def ti158: TI:=⟨.base (.func #[68] #[3] false),sh158,8,z158⟩
abbrev sh159: Shape:=.s
abbrev z159: CV:=.sc (.pointer none)
def ti159: TI:=⟨.base (.pointer 161),sh159,8,z159⟩
def sh160: Shape:=.n [sh68,sh3,sh4]
def z160: CV:=.agg [z68,z3,z4]
def ti160: TI:=⟨.st [(0,1,68),(1,1,3),(2,1,4)],sh160,40,z160⟩
def sh161: Shape:=.n [sh68,sh3,sh4]
def z161: CV:=.agg [z68,z3,z4]
def ti161: TI:=⟨.st [(0,1,68),(1,1,3),(2,1,4)],sh161,40,z161⟩
abbrev sh162: Shape:=.s
abbrev z162: CV:=.sc .nilFunc
def ti162: TI:=⟨.base (.func #[3] #[25] false),sh162,8,z162⟩
abbrev sh163: Shape:=.s
abbrev z163: CV:=.sc .nilFunc
def ti163: TI:=⟨.base (.func #[3] #[3] false),sh163,8,z163⟩
abbrev sh164: Shape:=.s
abbrev z164: CV:=.sc .nilFunc
def ti164: TI:=⟨.base (.func #[61,3,34] #[4] false),sh164,8,z164⟩
abbrev sh165: Shape:=.s
abbrev z165: CV:=.sc .nilFunc
def ti165: TI:=⟨.base (.func #[94] #[68] false),sh165,8,z165⟩
abbrev sh166: Shape:=.s
abbrev z166: CV:=.sc .nilFunc
def ti166: TI:=⟨.base (.func #[3,68] #[68,4] false),sh166,8,z166⟩
abbrev sh167: Shape:=.s
abbrev z167: CV:=.sc .nilFunc
def ti167: TI:=⟨.base (.func #[150] #[94] false),sh167,8,z167⟩
abbrev sh168: Shape:=.s
abbrev z168: CV:=.sc .nilFunc
def ti168: TI:=⟨.base (.func #[92,92,169] #[4] false),sh168,8,z168⟩
abbrev sh169: Shape:=.s
abbrev z169: CV:=.sc .nilFunc
def ti169: TI:=⟨.base (.func #[108,108] #[4] false),sh169,8,z169⟩
abbrev sh170: Shape:=.s
abbrev z170: CV:=.sc .nilFunc
def ti170: TI:=⟨.base (.func #[91,91] #[4] false),sh170,8,z170⟩
abbrev sh171: Shape:=.s
abbrev z171: CV:=.sc .nilFunc
def ti171: TI:=⟨.base (.func #[94] #[94] false),sh171,8,z171⟩
abbrev sh172: Shape:=.s
abbrev z172: CV:=.sc .nilFunc
def ti172: TI:=⟨.base (.func #[91,173] #[4] false),sh172,8,z172⟩
abbrev sh173: Shape:=.s
abbrev z173: CV:=.sc .nilFunc
def ti173: TI:=⟨.base (.func #[36] #[4] false),sh173,8,z173⟩
abbrev sh174: Shape:=.s
abbrev z174: CV:=.sc .nilFunc
def ti174: TI:=⟨.base (.func #[92,3] #[4] false),sh174,8,z174⟩
abbrev sh175: Shape:=.s
abbrev z175: CV:=.sc .nilFunc
def ti175: TI:=⟨.base (.func #[3] #[68] false),sh175,8,z175⟩
abbrev sh176: Shape:=.s
abbrev z176: CV:=.sc .nilFunc
def ti176: TI:=⟨.base (.func #[3,68] #[3] false),sh176,8,z176⟩
abbrev sh177: Shape:=.s
abbrev z177: CV:=.sc .nilFunc
def ti177: TI:=⟨.base (.func #[159] #[36] false),sh177,8,z177⟩
abbrev sh178: Shape:=.s
abbrev z178: CV:=.sc (.int .u64 0)
def ti178: TI:=⟨.base (.int .u64),sh178,8,z178⟩
abbrev sh179: Shape:=.s
abbrev z179: CV:=.sc .nilFunc
def ti179: TI:=⟨.base (.func #[92,92] #[4] false),sh179,8,z179⟩
abbrev sh180: Shape:=.s
abbrev z180: CV:=.sc .nilFunc
def ti180: TI:=⟨.base (.func #[3,3,3] #[110] false),sh180,8,z180⟩
abbrev sh181: Shape:=.s
abbrev z181: CV:=.sc (.pointer none)
def ti181: TI:=⟨.base (.pointer 223),sh181,8,z181⟩
abbrev sh183: Shape:=.s
abbrev z183: CV:=.sc .nilFunc
def ti183: TI:=⟨.base (.func #[59,59] #[181,69] false),sh183,8,z183⟩
abbrev sh184: Shape:=.s
abbrev z184: CV:=.sc (.pointer none)
def ti184: TI:=⟨.base (.pointer 186),sh184,8,z184⟩
def sh185: Shape:=.n [sh61,sh66,sh108,sh37]
def z185: CV:=.agg [z61,z66,z108,z37]
def ti185: TI:=⟨.st [(0,10,61),(10,202,66),(212,1,108),(213,1,37)],sh185,1776,z185⟩
def sh186: Shape:=.n [sh61,sh66,sh108,sh37]
def z186: CV:=.agg [z61,z66,z108,z37]
def ti186: TI:=⟨.st [(0,10,61),(10,202,66),(212,1,108),(213,1,37)],sh186,1776,z186⟩
abbrev sh187: Shape:=.s
abbrev z187: CV:=.sc .nilFunc
def ti187: TI:=⟨.base (.func #[108,3] #[36] false),sh187,8,z187⟩
abbrev sh188: Shape:=.s
abbrev z188: CV:=.sc .nilFunc
def ti188: TI:=⟨.base (.func #[66] #[3] false),sh188,8,z188⟩
abbrev sh190: Shape:=.s
abbrev z190: CV:=.sc .nilFunc
def ti190: TI:=⟨.base (.func #[34] #[34,4] false),sh190,8,z190⟩
abbrev sh191: Shape:=.s
abbrev z191: CV:=.sc .nilFunc
def ti191: TI:=⟨.base (.func #[34,34] #[4] false),sh191,8,z191⟩
abbrev sh192: Shape:=.s
abbrev z192: CV:=.sc .nilFunc
def ti192: TI:=⟨.base (.func #[37] #[37] false),sh192,8,z192⟩
def sh193: Shape:=.n [sh44]
def z193: CV:=.agg [z44]
def ti193: TI:=⟨.st [(0,2,44)],sh193,16,z193⟩
def sh194: Shape:=.n [sh44]
def z194: CV:=.agg [z44]
def ti194: TI:=⟨.st [(0,2,44)],sh194,16,z194⟩
abbrev sh195: Shape:=.s
abbrev z195: CV:=.sc .nilFunc
def ti195: TI:=⟨.base (.func #[4,3] #[] false),sh195,8,z195⟩
abbrev sh196: Shape:=.s
abbrev z196: CV:=.sc .nilFunc
def ti196: TI:=⟨.base (.func #[29] #[3] false),sh196,8,z196⟩
abbrev sh198: Shape:=.s
abbrev z198: CV:=.sc .nilFunc
def ti198: TI:=⟨.base (.func #[3] #[4,4] false),sh198,8,z198⟩
abbrev sh199: Shape:=.s
abbrev z199: CV:=.sc .nilFunc
def ti199: TI:=⟨.base (.func #[3] #[4] false),sh199,8,z199⟩
abbrev sh200: Shape:=.s
abbrev z200: CV:=.sc .nilFunc
def ti200: TI:=⟨.base (.func #[25] #[25,3] false),sh200,8,z200⟩
abbrev sh201: Shape:=.s
abbrev z201: CV:=.sc .nilFunc
def ti201: TI:=⟨.base (.func #[23,142] #[3] false),sh201,8,z201⟩
def sh202: Shape:=.n [sh68,sh3]
def z202: CV:=.agg [z68,z3]
def ti202: TI:=⟨.st [(0,1,68),(1,1,3)],sh202,32,z202⟩
def sh203: Shape:=.n [sh68,sh3]
def z203: CV:=.agg [z68,z3]
def ti203: TI:=⟨.st [(0,1,68),(1,1,3)],sh203,32,z203⟩
abbrev sh204: Shape:=.s
abbrev z204: CV:=.sc .nilFunc
def ti204: TI:=⟨.base (.func #[25] #[] false),sh204,8,z204⟩
abbrev sh205: Shape:=.s
abbrev z205: CV:=.sc .nilFunc
def ti205: TI:=⟨.base (.func #[68] #[68] false),sh205,8,z205⟩
abbrev sh206: Shape:=.s
abbrev z206: CV:=.sc .nilFunc
def ti206: TI:=⟨.base (.func #[150] #[34] false),sh206,8,z206⟩
def sh207: Shape:=.n [sh68,sh3]
def z207: CV:=.agg [z68,z3]
def ti207: TI:=⟨.st [(0,1,68),(1,1,3)],sh207,32,z207⟩
def sh208: Shape:=.n [sh68,sh3]
def z208: CV:=.agg [z68,z3]
def ti208: TI:=⟨.st [(0,1,68),(1,1,3)],sh208,32,z208⟩
abbrev sh209: Shape:=.s
abbrev z209: CV:=.sc .nilFunc
def ti209: TI:=⟨.base (.func #[59,59] #[4] false),sh209,8,z209⟩
abbrev sh210: Shape:=.s
abbrev z210: CV:=.sc .nilFunc
def ti210: TI:=⟨.base (.func #[143,4] #[] false),sh210,8,z210⟩
abbrev sh211: Shape:=.s
abbrev z211: CV:=.sc .nilFunc
def ti211: TI:=⟨.base (.func #[143,36] #[] false),sh211,8,z211⟩
abbrev sh212: Shape:=.s
abbrev z212: CV:=.sc .nilFunc
def ti212: TI:=⟨.base (.func #[143,94] #[] false),sh212,8,z212⟩
abbrev sh213: Shape:=.s
abbrev z213: CV:=.sc .nilFunc
def ti213: TI:=⟨.base (.func #[150] #[36] false),sh213,8,z213⟩
abbrev sh214: Shape:=.s
abbrev z214: CV:=.sc .nilFunc
def ti214: TI:=⟨.base (.func #[150,215] #[] false),sh214,8,z214⟩
abbrev sh215: Shape:=.s
abbrev z215: CV:=.sc (.pointer none)
def ti215: TI:=⟨.base (.pointer 94),sh215,8,z215⟩
abbrev sh216: Shape:=.s
abbrev z216: CV:=.sc .nilFunc
def ti216: TI:=⟨.base (.func #[91,173] #[3] false),sh216,8,z216⟩
abbrev sh217: Shape:=.s
abbrev z217: CV:=.sc .nilFunc
def ti217: TI:=⟨.base (.func #[108,218] #[4] false),sh217,8,z217⟩
abbrev sh218: Shape:=.s
abbrev z218: CV:=.sc .nilFunc
def ti218: TI:=⟨.base (.func #[110] #[4] false),sh218,8,z218⟩
abbrev sh219: Shape:=.s
abbrev z219: CV:=.sc .nilFunc
def ti219: TI:=⟨.base (.func #[4] #[3] false),sh219,8,z219⟩
abbrev sh220: Shape:=.s
abbrev z220: CV:=.sc .nilFunc
def ti220: TI:=⟨.base (.func #[153,36] #[] false),sh220,8,z220⟩
abbrev sh221: Shape:=.s
abbrev z221: CV:=.sc .nilFunc
def ti221: TI:=⟨.base (.func #[59] #[4] false),sh221,8,z221⟩
def sh222: Shape:=.n [sh59,sh59,sh59,sh3]
def z222: CV:=.agg [z59,z59,z59,z3]
def ti222: TI:=⟨.st [(0,1,59),(1,1,59),(2,1,59),(3,1,3)],sh222,32,z222⟩
def sh223: Shape:=.n [sh59,sh59,sh59,sh3]
def z223: CV:=.agg [z59,z59,z59,z3]
def ti223: TI:=⟨.st [(0,1,59),(1,1,59),(2,1,59),(3,1,3)],sh223,32,z223⟩
abbrev sh224: Shape:=.s
abbrev z224: CV:=.sc (.map none)
def ti224: TI:=⟨.base (.map 3 4),sh224,8,z224⟩
abbrev sh225: Shape:=.s
abbrev z225: CV:=.sc .nilFunc
def ti225: TI:=⟨.base (.func #[34] #[34] false),sh225,8,z225⟩
abbrev sh226: Shape:=.s
abbrev z226: CV:=.sc .nilFunc
def ti226: TI:=⟨.base (.func #[34] #[3] false),sh226,8,z226⟩
abbrev sh227: Shape:=.s
abbrev z227: CV:=.sc .nilFunc
def ti227: TI:=⟨.base (.func #[3,3] #[4] false),sh227,8,z227⟩
abbrev sh228: Shape:=.s
abbrev z228: CV:=.sc .nilFunc
def ti228: TI:=⟨.base (.func #[4,3,3] #[] false),sh228,8,z228⟩
abbrev sh229: Shape:=.s
abbrev z229: CV:=.sc .nilFunc
def ti229: TI:=⟨.base (.func #[29] #[] false),sh229,8,z229⟩
abbrev sh230: Shape:=.s
abbrev z230: CV:=.sc .nilFunc
def ti230: TI:=⟨.base (.func #[] #[3] false),sh230,8,z230⟩
abbrev sh231: Shape:=.s
abbrev z231: CV:=.sc .nilFunc
def ti231: TI:=⟨.base (.func #[92] #[108] true),sh231,8,z231⟩
abbrev sh232: Shape:=.s
abbrev z232: CV:=.sc .nilFunc
def ti232: TI:=⟨.base (.func #[108,218] #[3] false),sh232,8,z232⟩
abbrev sh233: Shape:=.s
abbrev z233: CV:=.sc .nilFunc
def ti233: TI:=⟨.base (.func #[59,3] #[4] false),sh233,8,z233⟩
abbrev sh234: Shape:=.s
abbrev z234: CV:=.sc .nilFunc
def ti234: TI:=⟨.base (.func #[3] #[36] false),sh234,8,z234⟩
abbrev sh236: Shape:=.s
abbrev z236: CV:=.sc .nilFunc
def ti236: TI:=⟨.base (.func #[3,3] #[3,3] false),sh236,8,z236⟩
abbrev sh237: Shape:=.s
abbrev z237: CV:=.sc .nilFunc
def ti237: TI:=⟨.base (.func #[108,3] #[108] false),sh237,8,z237⟩
abbrev sh238: Shape:=.s
abbrev z238: CV:=.sc .nilFunc
def ti238: TI:=⟨.base (.func #[59] #[59] false),sh238,8,z238⟩
abbrev sh239: Shape:=.s
abbrev z239: CV:=.sc .nilFunc
def ti239: TI:=⟨.base (.func #[25] #[59] false),sh239,8,z239⟩
abbrev sh240: Shape:=.s
abbrev z240: CV:=.sc .nilFunc
def ti240: TI:=⟨.base (.func #[59] #[25] false),sh240,8,z240⟩
abbrev sh241: Shape:=.s
abbrev z241: CV:=.sc .nilFunc
def ti241: TI:=⟨.base (.func #[] #[9] false),sh241,8,z241⟩
abbrev sh247: Shape:=.s
abbrev z247: CV:=.sc (.int .u32 0)
def ti247: TI:=⟨.base (.int .u32),sh247,4,z247⟩
abbrev sh250: Shape:=.s
abbrev z250: CV:=.sc .nilFunc
def ti250: TI:=⟨.base (.func #[257,257] #[4] false),sh250,8,z250⟩
abbrev sh251: Shape:=.s
abbrev z251: CV:=.sc (.pointer none)
def ti251: TI:=⟨.base (.pointer 5),sh251,8,z251⟩
abbrev sh256: Shape:=.s
abbrev z256: CV:=.sc .nilFunc
def ti256: TI:=⟨.base (.func #[] #[59] false),sh256,8,z256⟩
def tab: List (TypeId×TI):=[(1,ti1),(2,ti2),(3,ti3),(4,ti4),(5,ti5),(9,ti9),(12,ti12),(15,ti15),(16,ti16),(17,ti17),(20,ti20),(21,ti21),(22,ti22),(23,ti23),(24,ti24),(25,ti25),(26,ti26),(27,ti27),(28,ti28),(29,ti29),(30,ti30),(31,ti31),(32,ti32),(33,ti33),(34,ti34),(35,ti35),(36,ti36),(37,ti37),(38,ti38),(39,ti39),(40,ti40),(41,ti41),(42,ti42),(43,ti43),(44,ti44),(46,ti46),(47,ti47),(48,ti48),(49,ti49),(50,ti50),(51,ti51),(53,ti53),(54,ti54),(55,ti55),(56,ti56),(57,ti57),(58,ti58),(59,ti59),(60,ti60),(61,ti61),(62,ti62),(63,ti63),(64,ti64),(65,ti65),(66,ti66),(67,ti67),(68,ti68),(69,ti69),(71,ti71),(72,ti72),(74,ti74),(75,ti75),(76,ti76),(77,ti77),(78,ti78),(80,ti80),(81,ti81),(82,ti82),(84,ti84),(85,ti85),(86,ti86),(87,ti87),(88,ti88),(89,ti89),(90,ti90),(91,ti91),(92,ti92),(93,ti93),(94,ti94),(95,ti95),(96,ti96),(98,ti98),(99,ti99),(100,ti100),(101,ti101),(102,ti102),(103,ti103),(104,ti104),(106,ti106),(107,ti107),(108,ti108),(109,ti109),(110,ti110),(111,ti111),(112,ti112),(113,ti113),(114,ti114),(115,ti115),(116,ti116),(117,ti117),(118,ti118),(119,ti119),(120,ti120),(121,ti121),(122,ti122),(123,ti123),(124,ti124),(125,ti125),(126,ti126),(127,ti127),(128,ti128),(129,ti129),(130,ti130),(131,ti131),(133,ti133),(134,ti134),(135,ti135),(137,ti137),(138,ti138),(139,ti139),(140,ti140),(141,ti141),(142,ti142),(143,ti143),(144,ti144),(145,ti145),(146,ti146),(147,ti147),(148,ti148),(149,ti149),(150,ti150),(151,ti151),(152,ti152),(153,ti153),(154,ti154),(155,ti155),(156,ti156),(157,ti157),(158,ti158),(159,ti159),(160,ti160),(161,ti161),(162,ti162),(163,ti163),(164,ti164),(165,ti165),(166,ti166),(167,ti167),(168,ti168),(169,ti169),(170,ti170),(171,ti171),(172,ti172),(173,ti173),(174,ti174),(175,ti175),(176,ti176),(177,ti177),(178,ti178),(179,ti179),(180,ti180),(181,ti181),(183,ti183),(184,ti184),(185,ti185),(186,ti186),(187,ti187),(188,ti188),(190,ti190),(191,ti191),(192,ti192),(193,ti193),(194,ti194),(195,ti195),(196,ti196),(198,ti198),(199,ti199),(200,ti200),(201,ti201),(202,ti202),(203,ti203),(204,ti204),(205,ti205),(206,ti206),(207,ti207),(208,ti208),(209,ti209),(210,ti210),(211,ti211),(212,ti212),(213,ti213),(214,ti214),(215,ti215),(216,ti216),(217,ti217),(218,ti218),(219,ti219),(220,ti220),(221,ti221),(222,ti222),(223,ti223),(224,ti224),(225,ti225),(226,ti226),(227,ti227),(228,ti228),(229,ti229),(230,ti230),(231,ti231),(232,ti232),(233,ti233),(234,ti234),(236,ti236),(237,ti237),(238,ti238),(239,ti239),(240,ti240),(241,ti241),(247,ti247),(250,ti250),(251,ti251),(256,ti256)]
theorem tab_ok: tab.all (tiB Try.prog)=true:=by kernel_rfl
noncomputable def C: Ctx:=mkCtx Try.prog (by kernel_rfl) tab tab_ok
theorem tt1: C.tt 1=some ti1:=by kernel_rfl
theorem tt3: C.tt 3=some ti3:=by kernel_rfl
theorem tt4: C.tt 4=some ti4:=by kernel_rfl
theorem tt5: C.tt 5=some ti5:=by kernel_rfl
theorem tt9: C.tt 9=some ti9:=by kernel_rfl
theorem tt20: C.tt 20=some ti20:=by kernel_rfl
theorem tt22: C.tt 22=some ti22:=by kernel_rfl
theorem tt23: C.tt 23=some ti23:=by kernel_rfl
theorem tt24: C.tt 24=some ti24:=by kernel_rfl
theorem tt25: C.tt 25=some ti25:=by kernel_rfl
theorem tt29: C.tt 29=some ti29:=by kernel_rfl
theorem tt31: C.tt 31=some ti31:=by kernel_rfl
theorem tt32: C.tt 32=some ti32:=by kernel_rfl
theorem tt34: C.tt 34=some ti34:=by kernel_rfl
theorem tt36: C.tt 36=some ti36:=by kernel_rfl
theorem tt37: C.tt 37=some ti37:=by kernel_rfl
theorem tt39: C.tt 39=some ti39:=by kernel_rfl
theorem tt44: C.tt 44=some ti44:=by kernel_rfl
theorem tt51: C.tt 51=some ti51:=by kernel_rfl
theorem tt57: C.tt 57=some ti57:=by kernel_rfl
theorem tt58: C.tt 58=some ti58:=by kernel_rfl
theorem tt59: C.tt 59=some ti59:=by kernel_rfl
theorem tt61: C.tt 61=some ti61:=by kernel_rfl
theorem tt63: C.tt 63=some ti63:=by kernel_rfl
theorem tt64: C.tt 64=some ti64:=by kernel_rfl
theorem tt66: C.tt 66=some ti66:=by kernel_rfl
theorem tt68: C.tt 68=some ti68:=by kernel_rfl
theorem tt69: C.tt 69=some ti69:=by kernel_rfl
theorem tt92: C.tt 92=some ti92:=by kernel_rfl
theorem tt108: C.tt 108=some ti108:=by kernel_rfl
theorem tt110: C.tt 110=some ti110:=by kernel_rfl
theorem tt131: C.tt 131=some ti131:=by kernel_rfl
theorem tt154: C.tt 154=some ti154:=by kernel_rfl
theorem tt156: C.tt 156=some ti156:=by kernel_rfl
theorem tt161: C.tt 161=some ti161:=by kernel_rfl
theorem tt178: C.tt 178=some ti178:=by kernel_rfl
theorem tt194: C.tt 194=some ti194:=by kernel_rfl
theorem tt203: C.tt 203=some ti203:=by kernel_rfl
theorem tt208: C.tt 208=some ti208:=by kernel_rfl
theorem tt223: C.tt 223=some ti223:=by kernel_rfl
theorem tt224: C.tt 224=some ti224:=by kernel_rfl
end Go.Proofs.Ytpchcfkebljopaa
end
section
namespace Go.Proofs.Ytpchcfkebljopaa
open Go.Cl Go Go.RowKit
set_option maxRecDepth 100000
def zn84_1:=ZC.reg [zv 6 (.assign (.const (.bool false)))]
def zn84_3:=ZC.reg [zu 7 (zmv 0),zu 8 (zmv 1),zu 9 (.binOp .geq 3 (Tm 7) (Tm 8) 3),zu 10 (zmv 9),zug 11 (zmv 0) 10 true false,zug 12 (zmv 2) 10 true false,zug 13 (.binOp .leq 3 (Tm 11) (Tm 12) 3) 10 true false,zu 14 (.pick (Tm 10) (Tm 13) (.const (.bool false))),zv 6 (zas 14)]
def zn84_0:=ZC.seq zn84_1 (ZC.seq zn84_3 ZC.ret)
def zc84: ZC:=zn84_0
theorem zc84_ok: zcode (xfOf Try.f84).code=some zc84:=by kernel_rfl
def zw84:=zU C zc84.eq_1<|zU C zn84_1.eq_1<|zU C zn84_3.eq_1<|(zunf C zn84_0.eq_1)
theorem rs84: (xfOf Try.f84).rs=[.tmp 6]:=by kernel_rfl
def xf84:=zF C 84 Try.f84
def zn181_1:=ZC.reg [zu 6 (zmv 0),zv 7 (.unOp .not 4 (Tm 6))]
def zn181_3:=ZC.reg [zu 8 (zmv 1),zu 9 (zmv 2),zv 10 (zcf 200 [Tm 8,Tm 9] [3,3])]
def zn181_0:=ZC.seq zn181_1 (ZC.cond (Tm 7) zn181_3 ZC.skip)
def zc181: ZC:=zn181_0
theorem zc181_ok: zcode (xfOf Try.f181).code=some zc181:=by kernel_rfl
def zw181:=zU C zc181.eq_1<|zU C zn181_1.eq_1<|zU C zn181_3.eq_1<|(zunf C zn181_0.eq_1)
theorem rs181: (xfOf Try.f181).rs=[]:=by kernel_rfl
def xf181:=zF C 181 Try.f181
def zn200_0:=ZC.reg [zu 4 (zmv 0),zu 5 (zmv 1),⟨some 6,.build 44 ⟨[(0,.tmp 4),(1,.tmp 5)]⟩,none,false⟩,⟨some 7,.build 194 ⟨[(0,.tmp 6)]⟩,none,false⟩,zu 8 (.makeInterface 194 (Tm 7)),zv0 (.panic (Tm 8))]
def zc200: ZC:=zn200_0
theorem zc200_ok: zcode (xfOf Try.f200).code=some zc200:=by kernel_rfl
def zw200:=zU C zc200.eq_1<|(zunf C zn200_0.eq_1)
theorem rs200: (xfOf Try.f200).rs=[]:=by kernel_rfl
def xf200:=zF C 200 Try.f200
def zn71_1:=ZC.reg [zv 6 (.assign (.const (.bool false)))]
def zn71_3:=ZC.reg [zu 7 (zmv 0),zu 8 (zmv 1),zu 9 (.binOp .geq 3 (Tm 7) (Tm 8) 3),zu 10 (zmv 9),zug 11 (zmv 0) 10 true false,zug 12 (zmv 2) 10 true false,zug 13 (.binOp .leq 3 (Tm 11) (Tm 12) 3) 10 true false,zu 14 (.pick (Tm 10) (Tm 13) (.const (.bool false))),zv 6 (zas 14)]
def zn71_0:=ZC.seq zn71_1 (ZC.seq zn71_3 ZC.ret)
def zc71: ZC:=zn71_0
theorem zc71_ok: zcode (xfOf Try.f71).code=some zc71:=by kernel_rfl
def zw71:=zU C zc71.eq_1<|zU C zn71_1.eq_1<|zU C zn71_3.eq_1<|(zunf C zn71_0.eq_1)
theorem rs71: (xfOf Try.f71).rs=[.tmp 6]:=by kernel_rfl
def xf71:=zF C 71 Try.f71
def zn140_1:=ZC.reg [zv 6 (.assign (Kn 0))]
def zn140_3:=ZC.reg [zu 7 (zmv 1),zu 8 (zmv 0),zu 9 (zmv 2),zu 10 (zcb .min [Tm 8,Tm 9] [3,3]),zu 11 (zcb .max [Tm 7,Tm 10] [3,3]),zv 6 (zas 11)]
def zn140_0:=ZC.seq zn140_1 (ZC.seq zn140_3 ZC.ret)
def zc140: ZC:=zn140_0
theorem zc140_ok: zcode (xfOf Try.f140).code=some zc140:=by kernel_rfl
def zw140:=zU C zc140.eq_1<|zU C zn140_1.eq_1<|zU C zn140_3.eq_1<|(zunf C zn140_0.eq_1)
theorem rs140: (xfOf Try.f140).rs=[.tmp 6]:=by kernel_rfl
def xf140:=zF C 140 Try.f140
def zn24_1:=ZC.reg [zu 1 (.box 34 (Tm 0)),zv 2 (.assign (.const (.bool false)))]
def zn24_4:=ZC.reg [zu 7 (zfa 34 1 0),zu 8 (zld 3 7),zv 9 (.binOp .eql 3 (Tm 8) (Kn 0) 3)]
def zn24_7:=ZC.reg [zu 10 (zld 34 1),⟨some 11,.build 34 ⟨[]⟩,none,false⟩,zu 12 (.binOp .eql 34 (Tm 10) (Tm 11) 34),zv 2 (zas 12)]
def zn24_10:=ZC.reg [zu 13 (zfa 34 1 7),zu 14 (zld 32 13),zv 15 (.move (Kn 0))]
def zn24_14:=ZC.reg [zv 16 (.binOp .lss 3 (Tm 15) (Kn 4) 3)]
def zn24_20:=ZC.reg [zu 17 (.index 32 (Tm 14) (Tm 15)),zv 4 (zas 17)]
def zn24_22:=ZC.reg [zu 18 (zmv 4),zu 19 (zcf 71 [Tm 18,Kn (-1000000),Kn 1000000] [3,3,3]),zv 20 (.unOp .not 4 (Tm 19))]
def zn24_25:=ZC.reg [zv 2 (.assign (.const (.bool false)))]
def zn24_26:=ZC.reg [zu 21 (.binOp .add 3 (Tm 15) (Kn 1) 3),zv 15 (zmv 21)]
def zn24_13:=ZC.seq zn24_14 (ZC.seq (ZC.cond (Tm 16) ZC.skip (ZC.exit 0)) (ZC.seq (ZC.block 1 (ZC.seq zn24_20 (ZC.seq zn24_22 (ZC.cond (Tm 20) (ZC.seq zn24_25 ZC.ret) ZC.skip)))) zn24_26))
def zn24_28:=ZC.reg [zu 22 (zfa 34 1 2),zu 23 (zld 3 22),zu 24 (zcf 71 [Tm 23,Kn 0,Kn 4095] [3,3,3]),zu 25 (zmv 24),zug 26 (zfa 34 1 3) 25 true false,zug 27 (zld 3 26) 25 true false,zug 28 (zcf 71 [Tm 27,Kn 0,Kn 4095] [3,3,3]) 25 true false,zu 29 (.pick (Tm 25) (Tm 28) (.const (.bool false))),zv 5 (zas 29)]
def zn24_30:=ZC.reg [zu 30 (zfa 34 1 4),zu 31 (zld 3 30),zu 32 (zcf 71 [Tm 31,Kn (-64),Kn 64] [3,3,3]),zu 33 (zmv 32),zug 34 (zfa 34 1 5) 33 true false,zug 35 (zld 3 34) 33 true false,zug 36 (zcf 71 [Tm 35,Kn (-64),Kn 64] [3,3,3]) 33 true false,zu 37 (.pick (Tm 33) (Tm 36) (.const (.bool false))),zv 6 (zas 37)]
def zn24_32:=ZC.reg [zu 38 (zfa 34 1 0),zu 39 (zld 3 38),zu 40 (.binOp .eql 3 (Tm 39) (Kn 1) 3),zu 41 (zmv 40),zug 42 (zfa 34 1 0) 41 false false,zug 43 (zld 3 42) 41 false false,zug 44 (.binOp .eql 3 (Tm 43) (Kn 2) 3) 41 false false,zu 45 (.pick (Tm 41) (.const (.bool true)) (Tm 44)),zu 46 (zmv 45),zug 47 (zfa 34 1 1) 46 true false,zug 48 (zld 3 47) 46 true false,zug 49 (zcf 71 [Tm 48,Kn 0,Kn 7] [3,3,3]) 46 true false,zu 50 (.pick (Tm 46) (Tm 49) (.const (.bool false))),zu 51 (zmv 50),zug 52 (zmv 5) 51 true false,zu 53 (.pick (Tm 51) (Tm 52) (.const (.bool false))),zu 54 (zmv 53),zug 55 (zmv 6) 54 true false,zu 56 (.pick (Tm 54) (Tm 55) (.const (.bool false))),zu 57 (zmv 56),zug 58 (zfa 34 1 6) 57 true false,zug 59 (zld 3 58) 57 true false,zug 60 (zcf 71 [Tm 59,Kn 0,Kn 600] [3,3,3]) 57 true false,zu 61 (.pick (Tm 57) (Tm 60) (.const (.bool false))),zu 62 (zmv 61),zug 63 (zfa 34 1 8) 62 true false,zug 64 (zld 3 63) 62 true false,zug 65 (zcf 71 [Tm 64,Kn 0,Kn 65535] [3,3,3]) 62 true false,zu 66 (.pick (Tm 62) (Tm 65) (.const (.bool false))),zv 2 (zas 66)]
def zn24_0:=ZC.seq zn24_1 (ZC.seq (ZC.seq zn24_4 (ZC.cond (Tm 9) (ZC.seq zn24_7 ZC.ret) ZC.skip)) (ZC.seq (ZC.seq zn24_10 (ZC.block 0 (ZC.loop zn24_13))) (ZC.seq zn24_28 (ZC.seq zn24_30 (ZC.seq zn24_32 ZC.ret)))))
def zc24: ZC:=zn24_0
theorem zc24_ok: zcode (xfOf Try.f24).code=some zc24:=by kernel_rfl
def zw24:=zU C zc24.eq_1<|zU C zn24_1.eq_1<|zU C zn24_4.eq_1<|zU C zn24_7.eq_1<|zU C zn24_10.eq_1<|zU C zn24_14.eq_1<|zU C zn24_20.eq_1<|zU C zn24_22.eq_1<|zU C zn24_25.eq_1<|zU C zn24_26.eq_1<|zU C zn24_13.eq_1<|zU C zn24_28.eq_1<|zU C zn24_30.eq_1<|zU C zn24_32.eq_1<|(zunf C zn24_0.eq_1)
theorem rs24: (xfOf Try.f24).rs=[.tmp 2]:=by kernel_rfl
def xf24:=zF C 24 Try.f24
def zn28_1:=ZC.reg [zu 3 (.box 51 (Tm 1)),zu 4 (.alloc 51),zu 5 (.assign (Kn 0)),zu 6 (.assign (Kn 0)),zv 7 (.assign (.const (.bool false)))]
def zn28_3:=ZC.reg [zu 20 (zld 51 3),zu 8 (.alloc 51),zv0 (.store 51 (Tm 8) (Tm 20))]
def zn28_5:=ZC.reg [zv 9 (.assign (Kn 0))]
def zn28_8:=ZC.reg [zu 21 (zfa 51 3 0),zu 22 (zld 34 21),zu 23 (zcf 75 [Tm 22] [34]),zu 24 (.unOp .not 4 (Tm 23)),zu 25 (zmv 24),zug 26 (zfa 51 3 0) 25 false false,zug 27 (zfa 34 26 0) 25 false false,zug 28 (zld 3 27) 25 false false,zug 29 (.binOp .eql 3 (Tm 28) (Kn 0) 3) 25 false false,zv 30 (.pick (Tm 25) (.const (.bool true)) (Tm 29))]
def zn28_11:=ZC.reg [zu 31 (zld 51 8),zu0 (.store 51 (Tm 4) (Tm 31)),zu 5 (.assign (Kn 0)),zu 6 (.assign (Kn 0)),zv 7 (.assign (.const (.bool false)))]
def zn28_14:=ZC.reg [zv 10 (.assign (Kn 0))]
def zn28_19:=ZC.reg [zu 32 (zmv 9),zu 33 (zmv 0),zu 34 (zcb .len [Tm 33] [23]),zv 35 (.binOp .lss 3 (Tm 32) (Tm 34) 3)]
def zn28_24:=ZC.reg [zu 38 (zmv 0),zu 39 (zmv 9),zu 40 (zia 23 38 39),zu 41 (zld 29 40),zu 11 (.alloc 29),zv0 (.store 29 (Tm 11) (Tm 41))]
def zn28_27:=ZC.reg [zu 42 (zmv 10),zv 43 (.binOp .geq 3 (Tm 42) (Kn 64) 3)]
def zn28_30:=ZC.reg [zu 44 (zld 51 8),zu 45 (zmv 9),zu0 (.store 51 (Tm 4) (Tm 44)),zu 5 (.assign (Kn 5)),zu 6 (zas 45),zv 7 (.assign (.const (.bool false)))]
def zn28_33:=ZC.reg [zu 46 (zld 29 11),zu 47 (zld 51 3),zu 48 (zmv 0),zu 49 (zcb .len [Tm 48] [23]),zu 50 (zcf 76 [Tm 46,Tm 47,Tm 49] [29,51,3]),zv 12 (zas 50)]
def zn28_35:=ZC.reg [zu 51 (zmv 12),zv 52 (.binOp .neq 3 (Tm 51) (Kn 0) 3)]
def zn28_38:=ZC.reg [zu 53 (zld 51 8),zu 54 (zmv 12),zu 55 (zmv 9),zu0 (.store 51 (Tm 4) (Tm 53)),zu 5 (zas 54),zu 6 (zas 55),zv 7 (.assign (.const (.bool false)))]
def zn28_40:=ZC.reg [zu 56 (zfa 51 3 0),zu 57 (zfa 34 56 7),zu 58 (zld 32 57),zu 13 (.alloc 32),zv0 (.store 32 (Tm 13) (Tm 58))]
def zn28_42:=ZC.reg [zu 59 (zmv 9),zu 60 (.binOp .add 3 (Tm 59) (Kn 1) 3),zv 14 (zas 60)]
def zn28_44:=ZC.reg [zv 15 (.assign (Kn 0))]
def zn28_46:=ZC.reg [zv 16 (.assign (.const (.bool true)))]
def zn28_49:=ZC.reg [zu 61 (zfa 29 11 0),zv 62 (zld 3 61)]
def zn28_52:=ZC.reg [zu 64 (.binOp .eql 3 (Tm 62) (Kn 1) 3),zv 63 (zas 64)]
def zn28_54:=ZC.reg [zu 65 (zfa 29 11 2),zu 66 (zld 3 65),zv 15 (zas 66)]
def zn28_56:=ZC.reg [zu 68 (.binOp .eql 3 (Tm 62) (Kn 2) 3),zv 67 (zas 68)]
def zn28_58:=ZC.reg [zu 69 (zfa 29 11 2),zu 70 (zld 3 69),zu 71 (zia 32 13 70),zu 72 (zld 3 71),zv 15 (zas 72)]
def zn28_60:=ZC.reg [zu 74 (.binOp .eql 3 (Tm 62) (Kn 3) 3),zv 73 (zas 74)]
def zn28_62:=ZC.draw 10 [] [zdd 0 75 (zfa 29 11 1) false [] [] false,zdd 1 76 (zld 3 75) false [] [] false,zdd 2 77 (zia 32 13 76) false [] [] false,zdd 3 78 (zld 3 77) false [] [] false,zdd 4 79 (zfa 29 11 2) true [] [] false,zdd 5 80 (zld 3 79) true [] [] false,zdd 6 81 (zia 32 13 80) true [] [] false,zdd 7 82 (zld 3 81) true [] [] false,zdd 8 83 (.binOp .add 3 (Tm 78) (Tm 82) 3) true [] [] false,zdd 9 15 (zas 83) true [] [] false]
def zn28_64:=ZC.reg [zu 85 (.binOp .eql 3 (Tm 62) (Kn 4) 3),zv 84 (zas 85)]
def zn28_66:=ZC.draw 10 [] [zdd 0 86 (zfa 29 11 1) false [] [] false,zdd 1 87 (zld 3 86) false [] [] false,zdd 2 88 (zia 32 13 87) false [] [] false,zdd 3 89 (zld 3 88) false [] [] false,zdd 4 90 (zfa 29 11 2) true [] [] false,zdd 5 91 (zld 3 90) true [] [] false,zdd 6 92 (zia 32 13 91) true [] [] false,zdd 7 93 (zld 3 92) true [] [] false,zdd 8 94 (.binOp .sub 3 (Tm 89) (Tm 93) 3) true [] [] false,zdd 9 15 (zas 94) true [] [] false]
def zn28_68:=ZC.reg [zu 96 (.binOp .eql 3 (Tm 62) (Kn 5) 3),zv 95 (zas 96)]
def zn28_70:=ZC.draw 10 [] [zdd 0 97 (zfa 29 11 1) false [] [] false,zdd 1 98 (zld 3 97) false [] [] false,zdd 2 99 (zia 32 13 98) false [] [] false,zdd 3 100 (zld 3 99) false [] [] false,zdd 4 101 (zfa 29 11 2) true [] [] false,zdd 5 102 (zld 3 101) true [] [] false,zdd 6 103 (zia 32 13 102) true [] [] false,zdd 7 104 (zld 3 103) true [] [] false,zdd 8 105 (.binOp .mul 3 (Tm 100) (Tm 104) 3) true [] [] false,zdd 9 15 (zas 105) true [] [] false]
def zn28_72:=ZC.reg [zu 107 (.binOp .eql 3 (Tm 62) (Kn 6) 3),zv 106 (zas 107)]
def zn28_74:=ZC.draw 10 [] [zdd 0 108 (zfa 29 11 1) false [] [] false,zdd 1 109 (zld 3 108) false [] [] false,zdd 2 110 (zia 32 13 109) false [] [] false,zdd 3 111 (zld 3 110) false [] [] false,zdd 4 112 (zfa 29 11 2) true [] [] false,zdd 5 113 (zld 3 112) true [] [] false,zdd 6 114 (zia 32 13 113) true [] [] false,zdd 7 115 (zld 3 114) true [] [] false,zdd 8 116 (.binOp .quo 3 (Tm 111) (Tm 115) 3) true [] [] false,zdd 9 15 (zas 116) true [] [] false]
def zn28_76:=ZC.reg [zu 118 (.binOp .eql 3 (Tm 62) (Kn 7) 3),zv 117 (zas 118)]
def zn28_78:=ZC.reg [zu 119 (zld 51 3),zu 120 (zfa 29 11 2),zu 121 (zld 3 120),zu 122 (zcf 77 [Tm 119,Tm 121] [51,3]),zv 15 (zas 122)]
def zn28_80:=ZC.reg [zu 124 (.binOp .eql 3 (Tm 62) (Kn 11) 3),zv 123 (zas 124)]
def zn28_83:=ZC.draw 11 [] [zdd 0 126 (zfa 51 3 2) false [] [4] false,zdd 1 127 (zld 25 126) false [] [4] false,zdd 2 128 (zld 29 11) false [] [] false,zdd 3 129 (zld 51 3) true [] [] false,zdd 4 130 (zcf 79 [Tm 128,Tm 129] [29,51]) true [] [] false,zdd 5 131 (zcf 78 [Tm 127,Tm 130] [25,3]) true [] [] false,zdd 6 125 (zmv 131) true [] [] false,zdd 7 132 (.extract (Tm 125) 0) false [] [] false,zdd 8 133 (.extract (Tm 125) 1) false [] [] false,zdd 9 17 (zas 132) true [] [] false,zdd 10 18 (zas 133) true [] [] false]
def zn28_85:=ZC.reg [zu 134 (zmv 17),zu 135 (zfa 51 3 2),zv0 (.store 25 (Tm 135) (Tm 134))]
def zn28_86:=ZC.reg [zu 136 (zmv 18),zv 15 (zas 136)]
def zn28_87:=ZC.reg [zv 16 (.assign (.const (.bool false)))]
def zn28_90:=ZC.reg [zv 137 (zmv 16)]
def zn28_92:=ZC.draw 8 [] [zdd 0 138 (zfa 29 11 1) false [] [3] false,zdd 1 139 (zld 3 138) false [] [3] false,zdd 2 140 (zmv 15) false [] [] false,zdd 3 141 (zcf 80 [Tm 140,Kn (-1000000),Kn 1000000] [3,3,3]) false [] [] true,zdd 4 142 (zfa 51 3 0) true [3] [] false,zdd 5 143 (zfa 34 142 7) true [3] [] false,zdd 6 144 (zia 32 143 139) true [] [] false,zd0 7 (.store 3 (Tm 144) (Tm 141)) true [] [] false]
def zn28_95:=ZC.reg [zu 145 (zfa 29 11 0),zv 146 (zld 3 145)]
def zn28_98:=ZC.reg [zu 148 (.binOp .eql 3 (Tm 146) (Kn 8) 3),zv 147 (zas 148)]
def zn28_101:=ZC.reg [zu 149 (zfa 29 11 2),zu 150 (zld 3 149),zu 151 (zia 32 13 150),zu 152 (zld 3 151),zv 19 (zas 152)]
def zn28_103:=ZC.reg [zu 153 (zfa 29 11 1),zv 154 (zld 3 153)]
def zn28_106:=ZC.reg [zu 156 (.binOp .eql 3 (Tm 154) (Kn 0) 3),zv 155 (zas 156)]
def zn28_108:=ZC.reg [zu 157 (zmv 19),zu 158 (zcf 80 [Tm 157,Kn 0,Kn 4095] [3,3,3]),zu 159 (zfa 51 3 0),zu 160 (zfa 34 159 2),zv0 (.store 3 (Tm 160) (Tm 158))]
def zn28_110:=ZC.reg [zu 162 (.binOp .eql 3 (Tm 154) (Kn 1) 3),zv 161 (zas 162)]
def zn28_112:=ZC.reg [zu 163 (zmv 19),zu 164 (zcf 80 [Tm 163,Kn 0,Kn 4095] [3,3,3]),zu 165 (zfa 51 3 0),zu 166 (zfa 34 165 3),zv0 (.store 3 (Tm 166) (Tm 164))]
def zn28_114:=ZC.reg [zu 168 (.binOp .eql 3 (Tm 154) (Kn 2) 3),zv 167 (zas 168)]
def zn28_116:=ZC.reg [zu 169 (zmv 19),zu 170 (zcf 80 [Tm 169,Kn (-64),Kn 64] [3,3,3]),zu 171 (zfa 51 3 0),zu 172 (zfa 34 171 4),zv0 (.store 3 (Tm 172) (Tm 170))]
def zn28_118:=ZC.reg [zu 174 (.binOp .eql 3 (Tm 154) (Kn 3) 3),zv 173 (zas 174)]
def zn28_120:=ZC.reg [zu 175 (zmv 19),zu 176 (zcf 80 [Tm 175,Kn (-64),Kn 64] [3,3,3]),zu 177 (zfa 51 3 0),zu 178 (zfa 34 177 5),zv0 (.store 3 (Tm 178) (Tm 176))]
def zn28_122:=ZC.reg [zu 180 (.binOp .eql 3 (Tm 146) (Kn 9) 3),zv 179 (zas 180)]
def zn28_125:=ZC.reg [zu 181 (zfa 29 11 1),zu 182 (zld 3 181),zu 183 (zia 32 13 182),zu 184 (zld 3 183),zv 185 (.binOp .eql 3 (Tm 184) (Kn 0) 3)]
def zn28_127:=ZC.reg [zu 186 (zfa 29 11 2),zu 187 (zld 3 186),zv 14 (zas 187)]
def zn28_129:=ZC.reg [zu 189 (.binOp .eql 3 (Tm 146) (Kn 10) 3),zv 188 (zas 189)]
def zn28_131:=ZC.reg [zu 190 (zfa 29 11 2),zu 191 (zld 3 190),zv 14 (zas 191)]
def zn28_133:=ZC.reg [zu 193 (.binOp .eql 3 (Tm 146) (Kn 12) 3),zv 192 (zas 193)]
def zn28_135:=ZC.draw 19 [] [⟨0,some 194,.buildSlice 37 0 ⟨[]⟩,none,false,[],[],false⟩,zdd 1 195 (zfa 51 3 4) false [] [] false,zdd 2 196 (zld 37 195) false [] [] false,zdd 3 197 (zcb .append [Tm 194,Tm 196] [37,37]) false [] [] true,zdd 4 198 (zfa 51 3 0) false [3] [] false,zdd 5 199 (zld 34 198) false [3] [] false,zdd 6 200 (zfa 29 11 1) false [3] [] false,zdd 7 201 (zld 3 200) false [3] [] false,zdd 8 202 (zia 32 13 201) false [3] [] false,zdd 9 203 (zld 3 202) false [3] [] false,zdd 10 204 (zfa 29 11 2) true [3] [] false,zdd 11 205 (zld 3 204) true [3] [] false,zdd 12 206 (zia 32 13 205) true [3] [] false,zdd 13 207 (zld 3 206) true [3] [] false,zdd 14 208 (zcf 81 [Tm 199,Tm 203,Tm 207] [34,3,3]) true [] [] false,⟨15,some 209,.buildSlice 37 1 ⟨[(0,.tmp 208)]⟩,none,true,[],[],false⟩,zdd 16 210 (zcb .append [Tm 197,Tm 209] [37,37]) true [] [] false,zdd 17 211 (zfa 51 3 4) true [] [] false,zd0 18 (.store 37 (Tm 211) (Tm 210)) true [] [] false]
def zn28_137:=ZC.reg [zu 213 (.binOp .eql 3 (Tm 146) (Kn 13) 3),zv 212 (zas 213)]
def zn28_139:=ZC.reg [zu 214 (zmv 0),zu 215 (zcb .len [Tm 214] [23]),zv 14 (zas 215)]
def zn28_140:=ZC.reg [zu 216 (zmv 14),zv 9 (zas 216)]
def zn28_141:=ZC.reg [zu 36 (zmv 10),zu 37 (.binOp .add 3 (Tm 36) (Kn 1) 3),zv 10 (zas 37)]
def Q1q:=ZC.seq (ZC.seq zn28_19 (ZC.cond (Tm 35) ZC.skip (ZC.exit 0))) (ZC.seq (ZC.block 1 (ZC.seq zn28_24 (ZC.seq (ZC.seq zn28_27 (ZC.cond (Tm 43) (ZC.seq zn28_30 ZC.ret) ZC.skip)) (ZC.seq (ZC.seq zn28_33 (ZC.seq zn28_35 (ZC.cond (Tm 52) (ZC.seq zn28_38 ZC.ret) ZC.skip))) (ZC.seq zn28_40 (ZC.seq zn28_42 (ZC.seq zn28_44 (ZC.seq zn28_46 (ZC.seq (ZC.seq zn28_49 (ZC.block 2 (ZC.seq zn28_52 (ZC.cond (Tm 63) zn28_54 (ZC.seq zn28_56 (ZC.cond (Tm 67) zn28_58 (ZC.seq zn28_60 (ZC.cond (Tm 73) zn28_62 (ZC.seq zn28_64 (ZC.cond (Tm 84) zn28_66 (ZC.seq zn28_68 (ZC.cond (Tm 95) zn28_70 (ZC.seq zn28_72 (ZC.cond (Tm 106) zn28_74 (ZC.seq zn28_76 (ZC.cond (Tm 117) zn28_78 (ZC.seq zn28_80 (ZC.cond (Tm 123) (ZC.seq zn28_83 (ZC.seq zn28_85 zn28_86)) zn28_87)))))))))))))))))) (ZC.seq (ZC.seq zn28_90 (ZC.cond (Tm 137) zn28_92 ZC.skip)) (ZC.seq (ZC.seq zn28_95 (ZC.block 3 (ZC.seq zn28_98 (ZC.cond (Tm 147) (ZC.seq zn28_101 (ZC.seq zn28_103 (ZC.block 4 (ZC.seq zn28_106 (ZC.cond (Tm 155) zn28_108 (ZC.seq zn28_110 (ZC.cond (Tm 161) zn28_112 (ZC.seq zn28_114 (ZC.cond (Tm 167) zn28_116 (ZC.seq zn28_118 (ZC.cond (Tm 173) zn28_120 ZC.skip))))))))))) (ZC.seq zn28_122 (ZC.cond (Tm 179) (ZC.seq zn28_125 (ZC.cond (Tm 185) zn28_127 ZC.skip)) (ZC.seq zn28_129 (ZC.cond (Tm 188) zn28_131 (ZC.seq zn28_133 (ZC.cond (Tm 192) zn28_135 (ZC.seq zn28_137 (ZC.cond (Tm 212) zn28_139 ZC.skip)))))))))))) zn28_140))))))))))) zn28_141)
def zn28_143:=ZC.reg [zu 217 (zld 51 3),zu0 (.store 51 (Tm 4) (Tm 217)),zu 5 (.assign (Kn 0)),zu 6 (.assign (Kn 0)),zv 7 (.assign (.const (.bool true)))]
def zn28_0:=ZC.seq zn28_1 (ZC.seq zn28_3 (ZC.seq zn28_5 (ZC.seq (ZC.seq zn28_8 (ZC.cond (Tm 30) (ZC.seq zn28_11 ZC.ret) ZC.skip)) (ZC.seq (ZC.seq zn28_14 (ZC.block 0 (ZC.loop Q1q))) (ZC.seq zn28_143 ZC.ret)))))
def zc28: ZC:=zn28_0
theorem zc28_ok: zcode (xfOf Try.f28).code=some zc28:=by kernel_rfl
def zw28:=zU C zc28.eq_1<|zU C zn28_1.eq_1<|zU C zn28_3.eq_1<|zU C zn28_5.eq_1<|zU C zn28_8.eq_1<|zU C zn28_11.eq_1<|zU C zn28_14.eq_1<|zU C zn28_19.eq_1<|zU C zn28_24.eq_1<|zU C zn28_27.eq_1<|zU C zn28_30.eq_1<|zU C zn28_33.eq_1<|zU C zn28_35.eq_1<|zU C zn28_38.eq_1<|zU C zn28_40.eq_1<|zU C zn28_42.eq_1<|zU C zn28_44.eq_1<|zU C zn28_46.eq_1<|zU C zn28_49.eq_1<|zU C zn28_52.eq_1<|zU C zn28_54.eq_1<|zU C zn28_56.eq_1<|zU C zn28_58.eq_1<|zU C zn28_60.eq_1<|zU C zn28_62.eq_1<|zU C zn28_64.eq_1<|zU C zn28_66.eq_1<|zU C zn28_68.eq_1<|zU C zn28_70.eq_1<|zU C zn28_72.eq_1<|zU C zn28_74.eq_1<|zU C zn28_76.eq_1<|zU C zn28_78.eq_1<|zU C zn28_80.eq_1<|zU C zn28_83.eq_1<|zU C zn28_85.eq_1<|zU C zn28_86.eq_1<|zU C zn28_87.eq_1<|zU C zn28_90.eq_1<|zU C zn28_92.eq_1<|zU C zn28_95.eq_1<|zU C zn28_98.eq_1<|zU C zn28_101.eq_1<|zU C zn28_103.eq_1<|zU C zn28_106.eq_1<|zU C zn28_108.eq_1<|zU C zn28_110.eq_1<|zU C zn28_112.eq_1<|zU C zn28_114.eq_1<|zU C zn28_116.eq_1<|zU C zn28_118.eq_1<|zU C zn28_120.eq_1<|zU C zn28_122.eq_1<|zU C zn28_125.eq_1<|zU C zn28_127.eq_1<|zU C zn28_129.eq_1<|zU C zn28_131.eq_1<|zU C zn28_133.eq_1<|zU C zn28_135.eq_1<|zU C zn28_137.eq_1<|zU C zn28_139.eq_1<|zU C zn28_140.eq_1<|zU C zn28_141.eq_1<|zU C Q1q.eq_1<|zU C zn28_143.eq_1<|(zunf C zn28_0.eq_1)
theorem rs28: (xfOf Try.f28).rs=[.cell 4 51,.tmp 5,.tmp 6,.tmp 7]:=by kernel_rfl
def xf28:=zF C 28 Try.f28
def zn75_1:=ZC.reg [zu 1 (.box 34 (Tm 0)),zv 2 (.assign (.const (.bool false)))]
def zn75_4:=ZC.reg [zu 4 (zfa 34 1 0),zu 5 (zld 3 4),zv 6 (.binOp .eql 3 (Tm 5) (Kn 0) 3)]
def zn75_7:=ZC.reg [zu 7 (zld 34 1),⟨some 8,.build 34 ⟨[]⟩,none,false⟩,zu 9 (.binOp .eql 34 (Tm 7) (Tm 8) 34),zv 2 (zas 9)]
def zn75_10:=ZC.reg [zv 3 (.assign (Kn 0))]
def zn75_15:=ZC.reg [zu 10 (zmv 3),zv 11 (.binOp .lss 3 (Tm 10) (Kn 4) 3)]
def zn75_20:=ZC.reg [zu 14 (zmv 3),zu 15 (zfa 34 1 7),zu 16 (zia 32 15 14),zu 17 (zld 3 16),zu 18 (zcf 85 [Tm 17,Kn (-1000000),Kn 1000000] [3,3,3]),zv 19 (.unOp .not 4 (Tm 18))]
def zn75_23:=ZC.reg [zv 2 (.assign (.const (.bool false)))]
def zn75_24:=ZC.reg [zu 12 (zmv 3),zu 13 (.binOp .add 3 (Tm 12) (Kn 1) 3),zv 3 (zas 13)]
def zn75_13:=ZC.seq (ZC.seq zn75_15 (ZC.cond (Tm 11) ZC.skip (ZC.exit 0))) (ZC.seq (ZC.block 1 (ZC.seq zn75_20 (ZC.cond (Tm 19) (ZC.seq zn75_23 ZC.ret) ZC.skip))) zn75_24)
def zn75_26:=ZC.reg [zu 20 (zfa 34 1 0),zu 21 (zld 3 20),zu 22 (.binOp .eql 3 (Tm 21) (Kn 1) 3),zu 23 (zmv 22),zug 24 (zfa 34 1 0) 23 false false,zug 25 (zld 3 24) 23 false false,zug 26 (.binOp .eql 3 (Tm 25) (Kn 2) 3) 23 false false,zu 27 (.pick (Tm 23) (.const (.bool true)) (Tm 26)),zu 28 (zmv 27),zug 29 (zfa 34 1 1) 28 true false,zug 30 (zld 3 29) 28 true false,zug 31 (zcf 85 [Tm 30,Kn 0,Kn 7] [3,3,3]) 28 true false,zu 32 (.pick (Tm 28) (Tm 31) (.const (.bool false))),zu 33 (zmv 32),zug 34 (zfa 34 1 2) 33 true false,zug 35 (zld 3 34) 33 true false,zug 36 (zcf 85 [Tm 35,Kn 0,Kn 4095] [3,3,3]) 33 true false,zu 37 (.pick (Tm 33) (Tm 36) (.const (.bool false))),zu 38 (zmv 37),zug 39 (zfa 34 1 3) 38 true false,zug 40 (zld 3 39) 38 true false,zug 41 (zcf 85 [Tm 40,Kn 0,Kn 4095] [3,3,3]) 38 true false,zu 42 (.pick (Tm 38) (Tm 41) (.const (.bool false))),zu 43 (zmv 42),zug 44 (zfa 34 1 4) 43 true false,zug 45 (zld 3 44) 43 true false,zug 46 (zcf 85 [Tm 45,Kn (-64),Kn 64] [3,3,3]) 43 true false,zu 47 (.pick (Tm 43) (Tm 46) (.const (.bool false))),zu 48 (zmv 47),zug 49 (zfa 34 1 5) 48 true false,zug 50 (zld 3 49) 48 true false,zug 51 (zcf 85 [Tm 50,Kn (-64),Kn 64] [3,3,3]) 48 true false,zu 52 (.pick (Tm 48) (Tm 51) (.const (.bool false))),zu 53 (zmv 52),zug 54 (zfa 34 1 6) 53 true false,zug 55 (zld 3 54) 53 true false,zug 56 (zcf 85 [Tm 55,Kn 0,Kn 600] [3,3,3]) 53 true false,zu 57 (.pick (Tm 53) (Tm 56) (.const (.bool false))),zu 58 (zmv 57),zug 59 (zfa 34 1 8) 58 true false,zug 60 (zld 3 59) 58 true false,zug 61 (zcf 85 [Tm 60,Kn 0,Kn 65535] [3,3,3]) 58 true false,zu 62 (.pick (Tm 58) (Tm 61) (.const (.bool false))),zv 2 (zas 62)]
def zn75_0:=ZC.seq zn75_1 (ZC.seq (ZC.seq zn75_4 (ZC.cond (Tm 6) (ZC.seq zn75_7 ZC.ret) ZC.skip)) (ZC.seq (ZC.seq zn75_10 (ZC.block 0 (ZC.loop zn75_13))) (ZC.seq zn75_26 ZC.ret)))
def zc75: ZC:=zn75_0
theorem zc75_ok: zcode (xfOf Try.f75).code=some zc75:=by kernel_rfl
def zw75:=zU C zc75.eq_1<|zU C zn75_1.eq_1<|zU C zn75_4.eq_1<|zU C zn75_7.eq_1<|zU C zn75_10.eq_1<|zU C zn75_15.eq_1<|zU C zn75_20.eq_1<|zU C zn75_23.eq_1<|zU C zn75_24.eq_1<|zU C zn75_13.eq_1<|zU C zn75_26.eq_1<|(zunf C zn75_0.eq_1)
theorem rs75: (xfOf Try.f75).rs=[.tmp 2]:=by kernel_rfl
def xf75:=zF C 75 Try.f75
def zn76_1:=ZC.reg [zu 3 (.box 29 (Tm 0)),zu 4 (.box 51 (Tm 1)),zv 6 (.assign (Kn 0))]
def zn76_3:=ZC.reg [zu 10 (zfa 29 3 0),zu 11 (zld 3 10),zu 12 (zcf 152 [Tm 11] [3]),zu 9 (zmv 12),zu 13 (.extract (Tm 9) 0),zu 14 (.extract (Tm 9) 1),zu 7 (zas 13),zv 8 (zas 14)]
def zn76_7:=ZC.reg [zu 16 (zfa 29 3 0),zu 17 (zld 3 16),zu 18 (zcf 85 [Tm 17,Kn 1,Kn 13] [3,3,3]),zu 19 (.unOp .not 4 (Tm 18)),zv 15 (zas 19)]
def zn76_10:=ZC.reg [zv 6 (.assign (Kn 4))]
def zn76_12:=ZC.reg [zu 21 (zmv 7),zu 22 (zmv 21),zug 23 (zfa 29 3 1) 22 true false,zug 24 (zld 3 23) 22 true false,zug 25 (zcf 153 [Tm 24] [3]) 22 true false,zug 26 (.unOp .not 4 (Tm 25)) 22 true false,zu 27 (.pick (Tm 22) (Tm 26) (.const (.bool false))),zu 28 (zmv 27),zug 29 (zmv 8) 28 false false,zug 30 (zmv 29) 28 false false,zug 31 (zfa 29 3 2) 30 true false,zug 32 (zld 3 31) 30 true false,zug 33 (zcf 153 [Tm 32] [3]) 30 true false,zug 34 (.unOp .not 4 (Tm 33)) 30 true false,zug 35 (.pick (Tm 30) (Tm 34) (.const (.bool false))) 28 false false,zu 36 (.pick (Tm 28) (.const (.bool true)) (Tm 35)),zv 20 (zas 36)]
def zn76_15:=ZC.reg [zv 6 (.assign (Kn 2))]
def zn76_17:=ZC.reg [zu 38 (zfa 29 3 0),zu 39 (zld 3 38),zu 40 (.binOp .eql 3 (Tm 39) (Kn 7) 3),zu 41 (zmv 40),zug 42 (zfa 29 3 2) 41 true false,zug 43 (zld 3 42) 41 true false,zug 44 (zcf 85 [Tm 43,Kn 0,Kn 7] [3,3,3]) 41 true false,zug 45 (.unOp .not 4 (Tm 44)) 41 true false,zu 46 (.pick (Tm 41) (Tm 45) (.const (.bool false))),zu 47 (zmv 46),zug 48 (zfa 29 3 0) 47 false false,zug 49 (zld 3 48) 47 false false,zug 50 (.binOp .eql 3 (Tm 49) (Kn 8) 3) 47 false false,zug 51 (zmv 50) 47 false false,zug 52 (zfa 29 3 1) 51 true false,zug 53 (zld 3 52) 51 true false,zug 54 (zcf 85 [Tm 53,Kn 0,Kn 3] [3,3,3]) 51 true false,zug 55 (.unOp .not 4 (Tm 54)) 51 true false,zug 56 (.pick (Tm 51) (Tm 55) (.const (.bool false))) 47 false false,zu 57 (.pick (Tm 47) (.const (.bool true)) (Tm 56)),zv 37 (zas 57)]
def zn76_20:=ZC.reg [zv 6 (.assign (Kn 3))]
def zn76_22:=ZC.reg [zu 59 (zfa 29 3 0),zu 60 (zld 3 59),zu 61 (.binOp .eql 3 (Tm 60) (Kn 6) 3),zu 62 (zmv 61),zug 63 (zfa 29 3 2) 62 true false,zug 64 (zld 3 63) 62 true false,zug 65 (zfa 51 4 0) 62 true false,zug 66 (zfa 34 65 7) 62 true false,zug 67 (zia 32 66 64) 62 true false,zug 68 (zld 3 67) 62 true false,zug 69 (.binOp .eql 3 (Tm 68) (Kn 0) 3) 62 true false,zu 70 (.pick (Tm 62) (Tm 69) (.const (.bool false))),zv 58 (zas 70)]
def zn76_25:=ZC.reg [zv 6 (.assign (Kn 1))]
def zn76_27:=ZC.reg [zu 72 (zfa 29 3 0),zu 73 (zld 3 72),zu 74 (.binOp .eql 3 (Tm 73) (Kn 11) 3),zu 75 (zmv 74),zug 76 (zld 29 3) 75 true false,zug 77 (zld 51 4) 75 true false,zug 78 (zcf 79 [Tm 76,Tm 77] [29,51]) 75 true false,zug 79 (.binOp .lss 3 (Tm 78) (Kn 1) 3) 75 true false,zu 80 (.pick (Tm 75) (Tm 79) (.const (.bool false))),zv 71 (zas 80)]
def zn76_30:=ZC.reg [zv 6 (.assign (Kn 6))]
def zn76_32:=ZC.reg [zu 82 (zfa 29 3 0),zu 83 (zld 3 82),zu 84 (.binOp .eql 3 (Tm 83) (Kn 12) 3),zu 85 (zmv 84),zug 86 (zfa 51 4 4) 85 true false,zug 87 (zld 37 86) 85 true false,zug 88 (zcb .len [Tm 87] [37]) 85 true false,zug 89 (zfa 51 4 3) 85 true false,zug 90 (zld 3 89) 85 true false,zug 91 (.binOp .geq 3 (Tm 88) (Tm 90) 3) 85 true false,zu 92 (.pick (Tm 85) (Tm 91) (.const (.bool false))),zv 81 (zas 92)]
def zn76_35:=ZC.reg [zv 6 (.assign (Kn 7))]
def zn76_38:=ZC.reg [zu 94 (zfa 29 3 0),zu 95 (zld 3 94),zu 96 (.binOp .eql 3 (Tm 95) (Kn 10) 3),zu 97 (zmv 96),zug 98 (zfa 29 3 2) 97 true false,zug 99 (zld 3 98) 97 true false,zug 100 (zmv 2) 97 true false,zug 101 (zcf 85 [Tm 99,Kn 0,Tm 100] [3,3,3]) 97 true false,zug 102 (.unOp .not 4 (Tm 101)) 97 true false,zu 103 (.pick (Tm 97) (Tm 102) (.const (.bool false))),zv 93 (zas 103)]
def zn76_40:=ZC.reg [zu 104 (zfa 29 3 0),zu 105 (zld 3 104),zu 106 (.binOp .eql 3 (Tm 105) (Kn 9) 3),zu 107 (zmv 106),zug 108 (zfa 29 3 1) 107 true false,zug 109 (zld 3 108) 107 true false,zug 110 (zfa 51 4 0) 107 true false,zug 111 (zfa 34 110 7) 107 true false,zug 112 (zia 32 111 109) 107 true false,zug 113 (zld 3 112) 107 true false,zug 114 (.binOp .eql 3 (Tm 113) (Kn 0) 3) 107 true false,zu 115 (.pick (Tm 107) (Tm 114) (.const (.bool false))),zu 116 (zmv 115),zug 117 (zfa 29 3 2) 116 true false,zug 118 (zld 3 117) 116 true false,zug 119 (zmv 2) 116 true false,zug 120 (zcf 85 [Tm 118,Kn 0,Tm 119] [3,3,3]) 116 true false,zug 121 (.unOp .not 4 (Tm 120)) 116 true false,zu 122 (.pick (Tm 116) (Tm 121) (.const (.bool false))),zv 93 (zas 122)]
def zn76_43:=ZC.reg [zv 6 (.assign (Kn 4))]
def zn76_45:=ZC.reg [zv 6 (.assign (Kn 0))]
def zn76_0:=ZC.seq zn76_1 (ZC.seq zn76_3 (ZC.seq (ZC.block 0 (ZC.seq zn76_7 (ZC.cond (Tm 15) (ZC.seq zn76_10 ZC.ret) (ZC.seq zn76_12 (ZC.cond (Tm 20) (ZC.seq zn76_15 ZC.ret) (ZC.seq zn76_17 (ZC.cond (Tm 37) (ZC.seq zn76_20 ZC.ret) (ZC.seq zn76_22 (ZC.cond (Tm 58) (ZC.seq zn76_25 ZC.ret) (ZC.seq zn76_27 (ZC.cond (Tm 71) (ZC.seq zn76_30 ZC.ret) (ZC.seq zn76_32 (ZC.cond (Tm 81) (ZC.seq zn76_35 ZC.ret) (ZC.seq (ZC.seq zn76_38 (ZC.cond (Tm 93) ZC.skip zn76_40)) (ZC.cond (Tm 93) (ZC.seq zn76_43 ZC.ret) ZC.skip))))))))))))))) (ZC.seq zn76_45 ZC.ret)))
def zc76: ZC:=zn76_0
theorem zc76_ok: zcode (xfOf Try.f76).code=some zc76:=by kernel_rfl
def zw76:=zU C zc76.eq_1<|zU C zn76_1.eq_1<|zU C zn76_3.eq_1<|zU C zn76_7.eq_1<|zU C zn76_10.eq_1<|zU C zn76_12.eq_1<|zU C zn76_15.eq_1<|zU C zn76_17.eq_1<|zU C zn76_20.eq_1<|zU C zn76_22.eq_1<|zU C zn76_25.eq_1<|zU C zn76_27.eq_1<|zU C zn76_30.eq_1<|zU C zn76_32.eq_1<|zU C zn76_35.eq_1<|zU C zn76_38.eq_1<|zU C zn76_40.eq_1<|zU C zn76_43.eq_1<|zU C zn76_45.eq_1<|(zunf C zn76_0.eq_1)
theorem rs76: (xfOf Try.f76).rs=[.tmp 6]:=by kernel_rfl
def xf76:=zF C 76 Try.f76
def zn77_1:=ZC.reg [zu 2 (.box 51 (Tm 0)),zv 4 (.assign (Kn 0))]
def zn77_3:=ZC.reg [zu 6 (zfa 51 2 0),zu 7 (zld 34 6),zu 5 (.alloc 34),zv0 (.store 34 (Tm 5) (Tm 7))]
def zn77_5:=ZC.reg [zu 8 (zfa 34 5 2),zu 9 (zld 3 8),zu 10 (zfa 34 5 3),zu 11 (zld 3 10),zu 12 (zfa 34 5 4),zu 13 (zld 3 12),zu 14 (zfa 34 5 5),zu 15 (zld 3 14),zu 16 (zfa 34 5 6),zu 17 (zld 3 16),zu 18 (zfa 51 2 1),zu 19 (zfa 36 18 0),zu 20 (zld 3 19),zu 21 (zfa 51 2 1),zu 22 (zfa 36 21 1),zu 23 (zld 3 22),zu 24 (zfa 51 2 1),zu 25 (zfa 36 24 2),zu 26 (zld 3 25),⟨some 27,.build 64 ⟨[(0,.tmp 9),(1,.tmp 11),(2,.tmp 13),(3,.tmp 15),(4,.tmp 17),(5,.tmp 20),(6,.tmp 23),(7,.tmp 26)]⟩,none,false⟩,zu 28 (zmv 1),zu 29 (.index 64 (Tm 27) (Tm 28)),zv 4 (zas 29)]
def zn77_0:=ZC.seq zn77_1 (ZC.seq zn77_3 (ZC.seq zn77_5 ZC.ret))
def zc77: ZC:=zn77_0
theorem zc77_ok: zcode (xfOf Try.f77).code=some zc77:=by kernel_rfl
def zw77:=zU C zc77.eq_1<|zU C zn77_1.eq_1<|zU C zn77_3.eq_1<|zU C zn77_5.eq_1<|(zunf C zn77_0.eq_1)
theorem rs77: (xfOf Try.f77).rs=[.tmp 4]:=by kernel_rfl
def xf77:=zF C 77 Try.f77
def zn78_1:=ZC.reg [zu 4 (.assign (.const (.int .u64 0))),zv 5 (.assign (Kn 0))]
def zn78_4:=ZC.reg [zu 8 (zmv 1),zv 9 (.binOp .lss 3 (Tm 8) (Kn 1) 3)]
def zn78_7:=ZC.reg [zu 10 (zmv 0),zu 4 (zas 10),zv 5 (.assign (Kn 0))]
def zn78_9:=ZC.reg [zu 12 (zmv 0),zu 13 (zcf 154 [Tm 12] [25]),zu 11 (zmv 13),zu 14 (.extract (Tm 11) 0),zu 15 (.extract (Tm 11) 1),zu 6 (zas 14),zv 7 (zas 15)]
def zn78_11:=ZC.draw 6 [] [zdd 0 16 (zmv 6) false [] [] false,zdd 1 17 (zmv 7) false [] [] false,zdd 2 18 (zmv 1) false [] [] false,zdd 3 19 (.binOp .rem 3 (Tm 17) (Tm 18) 3) false [] [] false,zdd 4 4 (zas 16) true [] [] false,zdd 5 5 (zas 19) true [] [] false]
def zn78_0:=ZC.seq zn78_1 (ZC.seq (ZC.seq zn78_4 (ZC.cond (Tm 9) (ZC.seq zn78_7 ZC.ret) ZC.skip)) (ZC.seq zn78_9 (ZC.seq zn78_11 ZC.ret)))
def zc78: ZC:=zn78_0
theorem zc78_ok: zcode (xfOf Try.f78).code=some zc78:=by kernel_rfl
def zw78:=zU C zc78.eq_1<|zU C zn78_1.eq_1<|zU C zn78_4.eq_1<|zU C zn78_7.eq_1<|zU C zn78_9.eq_1<|zU C zn78_11.eq_1<|(zunf C zn78_0.eq_1)
theorem rs78: (xfOf Try.f78).rs=[.tmp 4,.tmp 5]:=by kernel_rfl
def xf78:=zF C 78 Try.f78
def zn79_1:=ZC.reg [zu 2 (.box 29 (Tm 0)),zu 3 (.box 51 (Tm 1)),zv 4 (.assign (Kn 0))]
def zn79_3:=ZC.reg [zu 5 (zfa 29 2 2),zu 6 (zld 3 5),zu 7 (zfa 51 3 0),zu 8 (zfa 34 7 7),zu 9 (zia 32 8 6),zu 10 (zld 3 9),zv 4 (zas 10)]
def zn79_0:=ZC.seq zn79_1 (ZC.seq zn79_3 ZC.ret)
def zc79: ZC:=zn79_0
theorem zc79_ok: zcode (xfOf Try.f79).code=some zc79:=by kernel_rfl
def zw79:=zU C zc79.eq_1<|zU C zn79_1.eq_1<|zU C zn79_3.eq_1<|(zunf C zn79_0.eq_1)
theorem rs79: (xfOf Try.f79).rs=[.tmp 4]:=by kernel_rfl
def xf79:=zF C 79 Try.f79
def zn80_1:=ZC.reg [zv 6 (.assign (Kn 0))]
def zn80_3:=ZC.reg [zu 7 (zmv 1),zu 8 (zmv 2),zu 9 (zmv 0),zu 10 (zcb .min [Tm 8,Tm 9] [3,3]),zu 11 (zcb .max [Tm 7,Tm 10] [3,3]),zv 6 (zas 11)]
def zn80_0:=ZC.seq zn80_1 (ZC.seq zn80_3 ZC.ret)
def zc80: ZC:=zn80_0
theorem zc80_ok: zcode (xfOf Try.f80).code=some zc80:=by kernel_rfl
def zw80:=zU C zc80.eq_1<|zU C zn80_1.eq_1<|zU C zn80_3.eq_1<|(zunf C zn80_0.eq_1)
theorem rs80: (xfOf Try.f80).rs=[.tmp 6]:=by kernel_rfl
def xf80:=zF C 80 Try.f80
def zn81_1:=ZC.reg [zu 3 (.box 34 (Tm 0)),zv 6 (.alloc 34)]
def zn81_4:=ZC.reg [zu 7 (zld 34 3),zu 8 (zcf 75 [Tm 7] [34]),zu 9 (.unOp .not 4 (Tm 8)),zu 10 (zmv 9),zug 11 (zfa 34 3 0) 10 false false,zug 12 (zld 3 11) 10 false false,zug 13 (.binOp .eql 3 (Tm 12) (Kn 0) 3) 10 false false,zv 14 (.pick (Tm 10) (.const (.bool true)) (Tm 13))]
def zn81_7:=ZC.reg [⟨some 15,.build 34 ⟨[]⟩,none,false⟩,zv0 (.store 34 (Tm 6) (Tm 15))]
def zn81_9:=ZC.draw 12 [] [zdd 0 16 (zfa 34 3 1) false [] [7,9] false,zdd 1 17 (zld 3 16) false [] [7,9] false,zdd 2 18 (zfa 34 3 2) false [] [7,9] false,zdd 3 19 (zld 3 18) false [] [7,9] false,zdd 4 20 (zfa 34 3 3) false [] [7,9] false,zdd 5 21 (zld 3 20) false [] [7,9] false,zdd 6 22 (zmv 1) false [] [] false,zdd 7 23 (zcf 80 [Tm 22,Kn (-64),Kn 64] [3,3,3]) false [] [] false,zdd 8 24 (zmv 2) true [] [] false,zdd 9 25 (zcf 80 [Tm 24,Kn (-64),Kn 64] [3,3,3]) true [] [] false,⟨10,some 26,.build 34 ⟨[(0,.const (.int .i64 2)),(1,.tmp 17),(2,.tmp 19),(3,.tmp 21),(4,.tmp 23),(5,.tmp 25)]⟩,none,true,[],[],false⟩,zd0 11 (.store 34 (Tm 6) (Tm 26)) true [] [] false]
def zn81_0:=ZC.seq zn81_1 (ZC.seq (ZC.seq zn81_4 (ZC.cond (Tm 14) (ZC.seq zn81_7 ZC.ret) ZC.skip)) (ZC.seq zn81_9 ZC.ret))
def zc81: ZC:=zn81_0
theorem zc81_ok: zcode (xfOf Try.f81).code=some zc81:=by kernel_rfl
def zw81:=zU C zc81.eq_1<|zU C zn81_1.eq_1<|zU C zn81_4.eq_1<|zU C zn81_7.eq_1<|zU C zn81_9.eq_1<|(zunf C zn81_0.eq_1)
theorem rs81: (xfOf Try.f81).rs=[.cell 6 34]:=by kernel_rfl
def xf81:=zF C 81 Try.f81
def zn85_1:=ZC.reg [zv 6 (.assign (.const (.bool false)))]
def zn85_3:=ZC.reg [zu 7 (zmv 0),zu 8 (zmv 1),zu 9 (.binOp .geq 3 (Tm 7) (Tm 8) 3),zu 10 (zmv 9),zug 11 (zmv 0) 10 true false,zug 12 (zmv 2) 10 true false,zug 13 (.binOp .leq 3 (Tm 11) (Tm 12) 3) 10 true false,zu 14 (.pick (Tm 10) (Tm 13) (.const (.bool false))),zv 6 (zas 14)]
def zn85_0:=ZC.seq zn85_1 (ZC.seq zn85_3 ZC.ret)
def zc85: ZC:=zn85_0
theorem zc85_ok: zcode (xfOf Try.f85).code=some zc85:=by kernel_rfl
def zw85:=zU C zc85.eq_1<|zU C zn85_1.eq_1<|zU C zn85_3.eq_1<|(zunf C zn85_0.eq_1)
theorem rs85: (xfOf Try.f85).rs=[.tmp 6]:=by kernel_rfl
def xf85:=zF C 85 Try.f85
def zn152_1:=ZC.reg [zu 2 (.assign (.const (.bool false))),zv 3 (.assign (.const (.bool false)))]
def zn152_4:=ZC.reg [zv 4 (zmv 0)]
def zn152_8:=ZC.reg [zu 6 (.binOp .eql 3 (Tm 4) (Kn 1) 3),zv 5 (zas 6)]
def zn152_11:=ZC.reg [zu 7 (.binOp .eql 3 (Tm 4) (Kn 7) 3),zv 5 (zas 7)]
def zn152_13:=ZC.reg [zu 8 (.binOp .eql 3 (Tm 4) (Kn 9) 3),zv 5 (zas 8)]
def zn152_16:=ZC.reg [zu 2 (.assign (.const (.bool true))),zv 3 (.assign (.const (.bool false)))]
def zn152_19:=ZC.reg [zu 10 (.binOp .eql 3 (Tm 4) (Kn 2) 3),zv 9 (zas 10)]
def zn152_22:=ZC.reg [zu 11 (.binOp .eql 3 (Tm 4) (Kn 3) 3),zv 9 (zas 11)]
def zn152_25:=ZC.reg [zu 12 (.binOp .eql 3 (Tm 4) (Kn 4) 3),zv 9 (zas 12)]
def zn152_28:=ZC.reg [zu 13 (.binOp .eql 3 (Tm 4) (Kn 5) 3),zv 9 (zas 13)]
def zn152_31:=ZC.reg [zu 14 (.binOp .eql 3 (Tm 4) (Kn 6) 3),zv 9 (zas 14)]
def zn152_34:=ZC.reg [zu 15 (.binOp .eql 3 (Tm 4) (Kn 11) 3),zv 9 (zas 15)]
def zn152_36:=ZC.reg [zu 16 (.binOp .eql 3 (Tm 4) (Kn 12) 3),zv 9 (zas 16)]
def zn152_39:=ZC.reg [zu 2 (.assign (.const (.bool true))),zv 3 (.assign (.const (.bool true)))]
def zn152_41:=ZC.reg [zu 18 (.binOp .eql 3 (Tm 4) (Kn 8) 3),zv 17 (zas 18)]
def zn152_44:=ZC.reg [zu 2 (.assign (.const (.bool false))),zv 3 (.assign (.const (.bool true)))]
def zn152_46:=ZC.reg [zu 2 (.assign (.const (.bool false))),zv 3 (.assign (.const (.bool false)))]
def zn152_0:=ZC.seq zn152_1 (ZC.seq (ZC.seq zn152_4 (ZC.block 0 (ZC.seq (ZC.seq zn152_8 (ZC.cond (Tm 5) ZC.skip (ZC.seq zn152_11 (ZC.cond (Tm 5) ZC.skip zn152_13)))) (ZC.cond (Tm 5) (ZC.seq zn152_16 ZC.ret) (ZC.seq (ZC.seq zn152_19 (ZC.cond (Tm 9) ZC.skip (ZC.seq zn152_22 (ZC.cond (Tm 9) ZC.skip (ZC.seq zn152_25 (ZC.cond (Tm 9) ZC.skip (ZC.seq zn152_28 (ZC.cond (Tm 9) ZC.skip (ZC.seq zn152_31 (ZC.cond (Tm 9) ZC.skip (ZC.seq zn152_34 (ZC.cond (Tm 9) ZC.skip zn152_36)))))))))))) (ZC.cond (Tm 9) (ZC.seq zn152_39 ZC.ret) (ZC.seq zn152_41 (ZC.cond (Tm 17) (ZC.seq zn152_44 ZC.ret) ZC.skip)))))))) (ZC.seq zn152_46 ZC.ret))
def zc152: ZC:=zn152_0
theorem zc152_ok: zcode (xfOf Try.f152).code=some zc152:=by kernel_rfl
def zw152:=zU C zc152.eq_1<|zU C zn152_1.eq_1<|zU C zn152_4.eq_1<|zU C zn152_8.eq_1<|zU C zn152_11.eq_1<|zU C zn152_13.eq_1<|zU C zn152_16.eq_1<|zU C zn152_19.eq_1<|zU C zn152_22.eq_1<|zU C zn152_25.eq_1<|zU C zn152_28.eq_1<|zU C zn152_31.eq_1<|zU C zn152_34.eq_1<|zU C zn152_36.eq_1<|zU C zn152_39.eq_1<|zU C zn152_41.eq_1<|zU C zn152_44.eq_1<|zU C zn152_46.eq_1<|(zunf C zn152_0.eq_1)
theorem rs152: (xfOf Try.f152).rs=[.tmp 2,.tmp 3]:=by kernel_rfl
def xf152:=zF C 152 Try.f152
def zn153_1:=ZC.reg [zv 2 (.assign (.const (.bool false)))]
def zn153_3:=ZC.reg [zu 3 (zmv 0),zu 4 (zcf 85 [Tm 3,Kn 0,Kn 3] [3,3,3]),zv 2 (zas 4)]
def zn153_0:=ZC.seq zn153_1 (ZC.seq zn153_3 ZC.ret)
def zc153: ZC:=zn153_0
theorem zc153_ok: zcode (xfOf Try.f153).code=some zc153:=by kernel_rfl
def zw153:=zU C zc153.eq_1<|zU C zn153_1.eq_1<|zU C zn153_3.eq_1<|(zunf C zn153_0.eq_1)
theorem rs153: (xfOf Try.f153).rs=[.tmp 2]:=by kernel_rfl
def xf153:=zF C 153 Try.f153
def zn154_1:=ZC.reg [zu 2 (.assign (.const (.int .u64 0))),zv 3 (.assign (Kn 0))]
def zn154_3:=ZC.reg [zu 4 (zmv 0),zu 5 (.binOp .mul 25 (Tm 4) (.const (.int .u64 6364136223846793005)) 25),zu 6 (.binOp .add 25 (Tm 5) (.const (.int .u64 1442695040888963407)) 25),zv 0 (zas 6)]
def zn154_5:=ZC.reg [zu 7 (zmv 0),zu 8 (zmv 0),zu 9 (.binOp .shr 25 (Tm 8) (.const (.int .u64 33)) 178),zu 10 (.convert 25 3 (Tm 9)),zu 2 (zas 7),zv 3 (zas 10)]
def zn154_0:=ZC.seq zn154_1 (ZC.seq zn154_3 (ZC.seq zn154_5 ZC.ret))
def zc154: ZC:=zn154_0
theorem zc154_ok: zcode (xfOf Try.f154).code=some zc154:=by kernel_rfl
def zw154:=zU C zc154.eq_1<|zU C zn154_1.eq_1<|zU C zn154_3.eq_1<|zU C zn154_5.eq_1<|(zunf C zn154_0.eq_1)
theorem rs154: (xfOf Try.f154).rs=[.tmp 2,.tmp 3]:=by kernel_rfl
def xf154:=zF C 154 Try.f154
def zn37_1:=ZC.reg [zv 4 (.assign (Kn 0))]
def zn37_3:=ZC.reg [zu 5 (zmv 0),zu 6 (zmv 1),zu 7 (.binOp .rem 3 (Tm 5) (Tm 6) 3),zv 0 (zas 7)]
def zn37_6:=ZC.reg [zu 8 (zmv 0),zv 9 (.binOp .lss 3 (Tm 8) (Kn 0) 3)]
def zn37_8:=ZC.reg [zu 10 (zmv 0),zu 11 (zmv 1),zu 12 (.binOp .add 3 (Tm 10) (Tm 11) 3),zv 0 (zas 12)]
def zn37_10:=ZC.reg [zu 13 (zmv 0),zv 4 (zas 13)]
def zn37_0:=ZC.seq zn37_1 (ZC.seq zn37_3 (ZC.seq (ZC.seq zn37_6 (ZC.cond (Tm 9) zn37_8 ZC.skip)) (ZC.seq zn37_10 ZC.ret)))
def zc37: ZC:=zn37_0
theorem zc37_ok: zcode (xfOf Try.f37).code=some zc37:=by kernel_rfl
def zw37:=zU C zc37.eq_1<|zU C zn37_1.eq_1<|zU C zn37_3.eq_1<|zU C zn37_6.eq_1<|zU C zn37_8.eq_1<|zU C zn37_10.eq_1<|(zunf C zn37_0.eq_1)
theorem rs37: (xfOf Try.f37).rs=[.tmp 4]:=by kernel_rfl
def xf37:=zF C 37 Try.f37
def zn64_1:=ZC.reg [zv 4 (.alloc 34)]
def zn64_3:=ZC.reg [zu 5 (zmv 1),zu 6 (zcf 140 [Tm 5,Kn 1,Kn 8] [3,3,3]),zv 1 (zas 6)]
def zn64_5:=ZC.reg [zu 7 (zmv 0),zu 8 (zmv 1),zu 9 (.binOp .sub 3 (Tm 8) (Kn 1) 3),zu 10 (zcf 140 [Tm 7,Kn 0,Tm 9] [3,3,3]),zv 0 (zas 10)]
def zn64_7:=ZC.reg [zu 11 (zmv 0),zu 12 (zmv 0),zu 13 (.binOp .mul 3 (Kn 2) (Tm 12) 3),zu 14 (.binOp .add 3 (Tm 13) (Kn 1) 3),zu 15 (.binOp .mul 3 (Tm 14) (Kn 4096) 3),zu 16 (zmv 1),zu 17 (.binOp .mul 3 (Kn 2) (Tm 16) 3),zu 18 (.binOp .quo 3 (Tm 15) (Tm 17) 3),⟨some 19,.build 34 ⟨[(0,.const (.int .i64 1)),(1,.tmp 11),(2,.tmp 18),(3,.const (.int .i64 2048))]⟩,none,false⟩,zv0 (.store 34 (Tm 4) (Tm 19))]
def zn64_0:=ZC.seq zn64_1 (ZC.seq zn64_3 (ZC.seq zn64_5 (ZC.seq zn64_7 ZC.ret)))
def zc64: ZC:=zn64_0
theorem zc64_ok: zcode (xfOf Try.f64).code=some zc64:=by kernel_rfl
def zw64:=zU C zc64.eq_1<|zU C zn64_1.eq_1<|zU C zn64_3.eq_1<|zU C zn64_5.eq_1<|zU C zn64_7.eq_1<|(zunf C zn64_0.eq_1)
theorem rs64: (xfOf Try.f64).rs=[.cell 4 34]:=by kernel_rfl
def xf64:=zF C 64 Try.f64
def zn69_1:=ZC.reg [zv 4 (.alloc 36)]
def zn69_3:=ZC.reg [zu 5 (zmv 0),zu 6 (zcf 37 [Tm 5,Kn 256] [3,3]),zu 7 (zmv 1),zu 8 (zcf 37 [Tm 7,Kn 129] [3,3]),zu 9 (.binOp .sub 3 (Tm 8) (Kn 64) 3),zu 10 (zmv 1),zu 11 (.binOp .quo 3 (Tm 10) (Kn 129) 3),zu 12 (zcf 37 [Tm 11,Kn 129] [3,3]),zu 13 (.binOp .sub 3 (Tm 12) (Kn 64) 3),⟨some 14,.build 36 ⟨[(0,.tmp 6),(1,.tmp 9),(2,.tmp 13)]⟩,none,false⟩,zv0 (.store 36 (Tm 4) (Tm 14))]
def zn69_0:=ZC.seq zn69_1 (ZC.seq zn69_3 ZC.ret)
def zc69: ZC:=zn69_0
theorem zc69_ok: zcode (xfOf Try.f69).code=some zc69:=by kernel_rfl
def zw69:=zU C zc69.eq_1<|zU C zn69_1.eq_1<|zU C zn69_3.eq_1<|(zunf C zn69_0.eq_1)
theorem rs69: (xfOf Try.f69).rs=[.cell 4 36]:=by kernel_rfl
def xf69:=zF C 69 Try.f69
def zn21_1:=ZC.reg [zu 1 (.box 31 (Tm 0)),zv 2 (.alloc 29)]
def zn21_3:=ZC.draw 13 [(11,.alloc 29)] [zdd 0 4 (zfa 31 1 0) false [] [] false,zdd 1 5 (zld 3 4) false [] [] false,zdd 2 6 (zcf 37 [Tm 5,Kn 13] [3,3]) false [] [] true,zdd 3 7 (.binOp .add 3 (Kn 1) (Tm 6) 3) false [] [] false,zdd 4 8 (zfa 31 1 1) false [2] [] false,zdd 5 9 (zld 3 8) false [2] [] false,zdd 6 10 (zcf 37 [Tm 9,Kn 4] [3,3]) false [] [] true,zdd 7 11 (zfa 31 1 2) false [2,6] [] false,zdd 8 12 (zld 3 11) false [2,6] [] false,zdd 9 13 (zcf 37 [Tm 12,Kn 4] [3,3]) false [] [] true,⟨10,some 14,.build 29 ⟨[(0,.tmp 7),(1,.tmp 10),(2,.tmp 13)]⟩,none,false,[],[],false⟩,zdd 11 3 (.alloc 29) true [2,6,9] [] false,zd0 12 (.store 29 (Tm 3) (Tm 14)) true [] [] false]
def zn21_6:=ZC.reg [zu 15 (zfa 29 3 0),zv 16 (zld 3 15)]
def zn21_9:=ZC.reg [zu 18 (.binOp .eql 3 (Tm 16) (Kn 1) 3),zv 17 (zas 18)]
def zn21_11:=ZC.reg [zu 19 (zfa 31 1 2),zu 20 (zld 3 19),zu 21 (zcf 37 [Tm 20,Kn 90] [3,3]),zu 22 (.binOp .sub 3 (Tm 21) (Kn 30) 3),zu 23 (zfa 29 3 2),zv0 (.store 3 (Tm 23) (Tm 22))]
def zn21_13:=ZC.reg [zu 25 (.binOp .eql 3 (Tm 16) (Kn 7) 3),zv 24 (zas 25)]
def zn21_15:=ZC.reg [zu 26 (zfa 31 1 2),zu 27 (zld 3 26),zu 28 (zcf 37 [Tm 27,Kn 8] [3,3]),zu 29 (zfa 29 3 2),zv0 (.store 3 (Tm 29) (Tm 28))]
def zn21_18:=ZC.reg [zu 31 (.binOp .eql 3 (Tm 16) (Kn 9) 3),zv 30 (zas 31)]
def zn21_20:=ZC.reg [zu 32 (.binOp .eql 3 (Tm 16) (Kn 10) 3),zv 30 (zas 32)]
def zn21_22:=ZC.reg [zu 33 (zfa 31 1 2),zu 34 (zld 3 33),zu 35 (zcf 37 [Tm 34,Kn 9] [3,3]),zu 36 (zfa 29 3 2),zv0 (.store 3 (Tm 36) (Tm 35))]
def zn21_25:=ZC.reg [zu 37 (zfa 31 1 0),zu 38 (zld 3 37),zv 39 (zcf 37 [Tm 38,Kn 101] [3,3])]
def zn21_28:=ZC.reg [zu 41 (.binOp .eql 3 (Tm 39) (Kn 97) 3),zv 40 (zas 41)]
def zn21_30:=ZC.reg [zu 42 (zfa 31 1 1),zu 43 (zld 3 42),zu 44 (zfa 29 3 1),zv0 (.store 3 (Tm 44) (Tm 43))]
def zn21_32:=ZC.reg [zu 46 (.binOp .eql 3 (Tm 39) (Kn 98) 3),zv 45 (zas 46)]
def zn21_34:=ZC.reg [zu 47 (zfa 31 1 2),zu 48 (zld 3 47),zu 49 (zfa 29 3 2),zv0 (.store 3 (Tm 49) (Tm 48))]
def zn21_36:=ZC.reg [zu 51 (.binOp .eql 3 (Tm 39) (Kn 99) 3),zv 50 (zas 51)]
def zn21_38:=ZC.reg [zu 52 (zfa 31 1 2),zu 53 (zld 3 52),zu 54 (zfa 29 3 0),zv0 (.store 3 (Tm 54) (Tm 53))]
def zn21_40:=ZC.reg [zu 56 (.binOp .eql 3 (Tm 39) (Kn 100) 3),zv 55 (zas 56)]
def zn21_42:=ZC.reg [zu 57 (zfa 31 1 1),zu 58 (zld 3 57),zu 59 (zcf 37 [Tm 58,Kn 9] [3,3]),zu 60 (zfa 29 3 1),zv0 (.store 3 (Tm 60) (Tm 59))]
def zn21_44:=ZC.reg [zu 61 (zld 29 3),zv0 (.store 29 (Tm 2) (Tm 61))]
def zn21_0:=ZC.seq zn21_1 (ZC.seq zn21_3 (ZC.seq (ZC.seq zn21_6 (ZC.block 0 (ZC.seq zn21_9 (ZC.cond (Tm 17) zn21_11 (ZC.seq zn21_13 (ZC.cond (Tm 24) zn21_15 (ZC.seq (ZC.seq zn21_18 (ZC.cond (Tm 30) ZC.skip zn21_20)) (ZC.cond (Tm 30) zn21_22 ZC.skip)))))))) (ZC.seq (ZC.seq zn21_25 (ZC.block 1 (ZC.seq zn21_28 (ZC.cond (Tm 40) zn21_30 (ZC.seq zn21_32 (ZC.cond (Tm 45) zn21_34 (ZC.seq zn21_36 (ZC.cond (Tm 50) zn21_38 (ZC.seq zn21_40 (ZC.cond (Tm 55) zn21_42 ZC.skip)))))))))) (ZC.seq zn21_44 ZC.ret))))
def zc21: ZC:=zn21_0
theorem zc21_ok: zcode (xfOf Try.f21).code=some zc21:=by kernel_rfl
def zw21:=zU C zc21.eq_1<|zU C zn21_1.eq_1<|zU C zn21_3.eq_1<|zU C zn21_6.eq_1<|zU C zn21_9.eq_1<|zU C zn21_11.eq_1<|zU C zn21_13.eq_1<|zU C zn21_15.eq_1<|zU C zn21_18.eq_1<|zU C zn21_20.eq_1<|zU C zn21_22.eq_1<|zU C zn21_25.eq_1<|zU C zn21_28.eq_1<|zU C zn21_30.eq_1<|zU C zn21_32.eq_1<|zU C zn21_34.eq_1<|zU C zn21_36.eq_1<|zU C zn21_38.eq_1<|zU C zn21_40.eq_1<|zU C zn21_42.eq_1<|zU C zn21_44.eq_1<|(zunf C zn21_0.eq_1)
theorem rs21: (xfOf Try.f21).rs=[.cell 2 29]:=by kernel_rfl
def xf21:=zF C 21 Try.f21
def zn29_1:=ZC.reg [zv 2 (.assign (.const (.bool false)))]
def zn29_3:=ZC.reg [zu 4 (zmv 0),zu 5 (zcf 82 [Tm 4,.func 83] [23,142]),zv 3 (zas 5)]
def zn29_5:=ZC.reg [zu 6 (zmv 0),zu 7 (zcb .len [Tm 6] [23]),zu 8 (.binOp .leq 3 (Tm 7) (Kn 16) 3),zu 9 (zmv 8),zug 10 (zmv 3) 9 true false,zug 11 (.unOp .not 4 (Tm 10)) 9 true false,zu 12 (.pick (Tm 9) (Tm 11) (.const (.bool false))),zv 2 (zas 12)]
def zn29_0:=ZC.seq zn29_1 (ZC.seq zn29_3 (ZC.seq zn29_5 ZC.ret))
def zc29: ZC:=zn29_0
theorem zc29_ok: zcode (xfOf Try.f29).code=some zc29:=by kernel_rfl
def zw29:=zU C zc29.eq_1<|zU C zn29_1.eq_1<|zU C zn29_3.eq_1<|zU C zn29_5.eq_1<|(zunf C zn29_0.eq_1)
theorem rs29: (xfOf Try.f29).rs=[.tmp 2]:=by kernel_rfl
def xf29:=zF C 29 Try.f29
def zn30_1:=ZC.reg [zv 2 (.assign (.const (.bool false)))]
def zn30_4:=ZC.reg [zv 3 (.assign (Kn 0))]
def zn30_9:=ZC.reg [zu 4 (zmv 3),zu 5 (zmv 0),zu 6 (zcb .len [Tm 5] [23]),zv 7 (.binOp .lss 3 (Tm 4) (Tm 6) 3)]
def zn30_14:=ZC.reg [zu 10 (zmv 0),zu 11 (zmv 3),zu 12 (zia 23 10 11),zu 13 (zfa 29 12 0),zu 14 (zld 3 13),zu 15 (zcf 85 [Tm 14,Kn 1,Kn 13] [3,3,3]),zu 16 (.unOp .not 4 (Tm 15)),zu 17 (zmv 16),zug 18 (zmv 0) 17 false false,zug 19 (zmv 3) 17 false false,zug 20 (zia 23 18 19) 17 false false,zug 21 (zfa 29 20 1) 17 false false,zug 22 (zld 3 21) 17 false false,zug 23 (zcf 85 [Tm 22,Kn (-1000000),Kn 1000000] [3,3,3]) 17 false false,zug 24 (.unOp .not 4 (Tm 23)) 17 false false,zu 25 (.pick (Tm 17) (.const (.bool true)) (Tm 24)),zu 26 (zmv 25),zug 27 (zmv 0) 26 false false,zug 28 (zmv 3) 26 false false,zug 29 (zia 23 27 28) 26 false false,zug 30 (zfa 29 29 2) 26 false false,zug 31 (zld 3 30) 26 false false,zug 32 (zcf 85 [Tm 31,Kn (-1000000),Kn 1000000] [3,3,3]) 26 false false,zug 33 (.unOp .not 4 (Tm 32)) 26 false false,zv 34 (.pick (Tm 26) (.const (.bool true)) (Tm 33))]
def zn30_17:=ZC.reg [zv 2 (.assign (.const (.bool false)))]
def zn30_18:=ZC.reg [zu 8 (zmv 3),zu 9 (.binOp .add 3 (Tm 8) (Kn 1) 3),zv 3 (zas 9)]
def zn30_7:=ZC.seq (ZC.seq zn30_9 (ZC.cond (Tm 7) ZC.skip (ZC.exit 0))) (ZC.seq (ZC.block 1 (ZC.seq zn30_14 (ZC.cond (Tm 34) (ZC.seq zn30_17 ZC.ret) ZC.skip))) zn30_18)
def zn30_20:=ZC.reg [zu 35 (zmv 0),zu 36 (zcb .len [Tm 35] [23]),zu 37 (.binOp .leq 3 (Tm 36) (Kn 16) 3),zv 2 (zas 37)]
def zn30_0:=ZC.seq zn30_1 (ZC.seq (ZC.seq zn30_4 (ZC.block 0 (ZC.loop zn30_7))) (ZC.seq zn30_20 ZC.ret))
def zc30: ZC:=zn30_0
theorem zc30_ok: zcode (xfOf Try.f30).code=some zc30:=by kernel_rfl
def zw30:=zU C zc30.eq_1<|zU C zn30_1.eq_1<|zU C zn30_4.eq_1<|zU C zn30_9.eq_1<|zU C zn30_14.eq_1<|zU C zn30_17.eq_1<|zU C zn30_18.eq_1<|zU C zn30_7.eq_1<|zU C zn30_20.eq_1<|(zunf C zn30_0.eq_1)
theorem rs30: (xfOf Try.f30).rs=[.tmp 2]:=by kernel_rfl
def xf30:=zF C 30 Try.f30
def zn82_1:=ZC.reg [zv 4 (.assign (.const (.bool false)))]
def zn82_3:=ZC.reg [zu 5 (zmv 0),zu 6 (zmv 1),zu 7 (zcf 155 [Tm 5,Tm 6] [23,142]),zu 8 (.binOp .geq 3 (Tm 7) (Kn 0) 3),zv 4 (zas 8)]
def zn82_0:=ZC.seq zn82_1 (ZC.seq zn82_3 ZC.ret)
def zc82: ZC:=zn82_0
theorem zc82_ok: zcode (xfOf Try.f82).code=some zc82:=by kernel_rfl
def zw82:=zU C zc82.eq_1<|zU C zn82_1.eq_1<|zU C zn82_3.eq_1<|(zunf C zn82_0.eq_1)
theorem rs82: (xfOf Try.f82).rs=[.tmp 4]:=by kernel_rfl
def xf82:=zF C 82 Try.f82
def zn83_1:=ZC.reg [zu 1 (.box 29 (Tm 0)),zv 2 (.assign (.const (.bool false)))]
def zn83_3:=ZC.reg [zu 3 (zfa 29 1 0),zu 4 (zld 3 3),zu 5 (zcf 84 [Tm 4,Kn 1,Kn 13] [3,3,3]),zu 6 (.unOp .not 4 (Tm 5)),zu 7 (zmv 6),zug 8 (zfa 29 1 1) 7 false false,zug 9 (zld 3 8) 7 false false,zug 10 (zcf 84 [Tm 9,Kn (-1000000),Kn 1000000] [3,3,3]) 7 false false,zug 11 (.unOp .not 4 (Tm 10)) 7 false false,zu 12 (.pick (Tm 7) (.const (.bool true)) (Tm 11)),zu 13 (zmv 12),zug 14 (zfa 29 1 2) 13 false false,zug 15 (zld 3 14) 13 false false,zug 16 (zcf 84 [Tm 15,Kn (-1000000),Kn 1000000] [3,3,3]) 13 false false,zug 17 (.unOp .not 4 (Tm 16)) 13 false false,zu 18 (.pick (Tm 13) (.const (.bool true)) (Tm 17)),zv 2 (zas 18)]
def zn83_0:=ZC.seq zn83_1 (ZC.seq zn83_3 ZC.ret)
def zc83: ZC:=zn83_0
theorem zc83_ok: zcode (xfOf Try.f83).code=some zc83:=by kernel_rfl
def zw83:=zU C zc83.eq_1<|zU C zn83_1.eq_1<|zU C zn83_3.eq_1<|(zunf C zn83_0.eq_1)
theorem rs83: (xfOf Try.f83).rs=[.tmp 2]:=by kernel_rfl
def xf83:=zF C 83 Try.f83
def zn155_1:=ZC.reg [zv 4 (.assign (Kn 0))]
def zn155_4:=ZC.reg [zu 6 (zmv 0),zu 7 (zcb .len [Tm 6] [23]),zv 8 (.move (Kn 0))]
def zn155_8:=ZC.reg [zv 9 (.binOp .lss 3 (Tm 8) (Tm 7) 3)]
def zn155_14:=ZC.reg [zu 10 (zmv 8),zv 5 (zas 10)]
def zn155_16:=ZC.reg [zu 11 (zmv 1),zu 12 (zmv 0),zu 13 (zmv 5),zu 14 (zia 23 12 13),zu 15 (zld 29 14),⟨some 16,.call ⟨.value (Tm 11),⟨[Tm 15]⟩,⟨[29]⟩⟩,none,true⟩]
def zn155_19:=ZC.reg [zu 17 (zmv 5),zv 4 (zas 17)]
def zn155_20:=ZC.reg [zu 18 (.binOp .add 3 (Tm 8) (Kn 1) 3),zv 8 (zmv 18)]
def V1n:=ZC.seq zn155_8 (ZC.seq (ZC.cond (Tm 9) ZC.skip (ZC.exit 0)) (ZC.seq (ZC.block 1 (ZC.seq zn155_14 (ZC.seq zn155_16 (ZC.cond (Tm 16) (ZC.seq zn155_19 ZC.ret) ZC.skip)))) zn155_20))
def zn155_22:=ZC.reg [zv 4 (.assign (Kn (-1)))]
def zn155_0:=ZC.seq zn155_1 (ZC.seq (ZC.seq zn155_4 (ZC.block 0 (ZC.loop V1n))) (ZC.seq zn155_22 ZC.ret))
def zc155: ZC:=zn155_0
theorem zc155_ok: zcode (xfOf Try.f155).code=some zc155:=by kernel_rfl
def zw155:=zU C zc155.eq_1<|zU C zn155_1.eq_1<|zU C zn155_4.eq_1<|zU C zn155_8.eq_1<|zU C zn155_14.eq_1<|zU C zn155_16.eq_1<|zU C zn155_19.eq_1<|zU C zn155_20.eq_1<|zU C V1n.eq_1<|zU C zn155_22.eq_1<|(zunf C zn155_0.eq_1)
theorem rs155: (xfOf Try.f155).rs=[.tmp 4]:=by kernel_rfl
def xf155:=zF C 155 Try.f155
end Go.Proofs.Ytpchcfkebljopaa
end
section
namespace Go.Proofs.Ytpchcfkebljopaa
open Go.Cl
set_option linter.constructorNameAsVariable false
structure Z0b where
 Code:Int
 A:Int
 B:Int
def Z0b.cv(x:Z0b): CV:=.agg [I x.Code,I x.A,I x.B]
@[ext] theorem Z0b.ext'{x y:Z0b}(h_Code:x.Code=y.Code)(h_A:x.A=y.A)(h_B:x.B=y.B): x=y:=by
 obtain⟨a0,a1,a2⟩:=x
 obtain⟨c0,c1,c2⟩:=y
 simp only at h_Code h_A h_B
 subst h_Code h_A h_B
 rfl
def Z0b.zero: Z0b:={Code:=0,A:=0,B:=0}
instance:Inhabited Z0b:=⟨Z0b.zero⟩
theorem Z0b.zcv: z29=Z0b.zero.cv:=by
 simp only[z29,Z0b.zero,Z0b.cv,List.map_replicate,Lst.cv,List.map_nil]
theorem Z0b.shape(x:Z0b): x.cv.shape=sh29:=by simp only[Z0b.cv,sh29,CV.shape,CV.shapes,Lst.shape]
theorem Z0b.nohas(x:Z0b)(j:Nat): ¬x.cv.has j:=by simp[Z0b.cv,CV.has,CV.hasL]
instance:DecidableEq Z0b:=fun x y=>decidable_of_iff (x.Code=y.Code/\x.A=y.A/\x.B=y.B) ⟨fun h=>Z0b.ext' h.1 h.2.1 h.2.2,fun h=>by subst h;simp⟩
theorem Z0b.inj{x y:Z0b}(h:x.cv=y.cv): x=y:=by
 simp only[Z0b.cv,CV.agg.injEq,List.cons.injEq,and_true]at h
 obtain⟨h0,h1,h2⟩:=h
 refine Z0b.ext' (I_inj _ _ h0) (I_inj _ _ h1) (I_inj _ _ h2)
theorem Z0b.injF(x y:Z0b)(h:x.cv=y.cv): x=y:=Z0b.inj h
theorem Z0b.inj_iff(x y:Z0b): x.cv=y.cv ↔ x=y:=⟨Z0b.inj,fun h=>by rw[h]⟩
theorem Z0b.shOk(x:Z0b): Cl.shOk x.cv sh29=true:=Z0m (Z0b.shape x) rfl
theorem Z0b.eq(d:Nat)(x y:Z0b): eqCV C (d+2) 29 x.cv y.cv=some (decide (x=y)):=by
 refine(Z0z C (d:=d+1) tt29 (Z0b.shape x) (Z0b.shape y) (X0g (K0h C tt3 (d+0) _ _) (X0g (K0h C tt3 (d+0) _ _) (X0g (K0h C tt3 (d+0) _ _) rfl)))).trans (congrArg some ?_)
 rw[Bool.eq_iff_iff]
 simp only[Bool.and_eq_true,decide_eq_true_eq,and_true]
 exact⟨fun h=>Z0b.ext' h.1 h.2.1 h.2.2,fun h=>by subst h;simp⟩
theorem Z0b.eql(x y:Z0b)(b:Bool): qbin C .eql 29 b x.cv y.cv=some (Bo (decide (x=y))):=by
 have h:=Z0b.eq 10 x y
 unfold Z0b.cv at h ⊢
 simp only[qbin]
 rw[h];rfl
theorem Z0b.neq(x y:Z0b)(b:Bool): qbin C .neq 29 b x.cv y.cv=some (Bo (!decide (x=y))):=by
 have h:=Z0b.eq 10 x y
 unfold Z0b.cv at h ⊢
 simp only[qbin]
 rw[h];rfl
def Z0b.upd_0(x:Z0b)(v:CV): CV:=.agg [v,I x.A,I x.B]
theorem Z0b.rfa_0(x:Z0b)(h:Heap): qfieldAddr C h 29 (.rptr x.cv) 0=some (.rptr (I x.Code)):=by
 have hs:=Z0b.shape x
 unfold Z0b.cv at hs ⊢
 simp only[qfieldAddr,tt29,ti29,tgt,hs,if_true,List.getElem?_cons_zero,List.getElem?_cons_succ]
def Z0b.upd_1(x:Z0b)(v:CV): CV:=.agg [I x.Code,v,I x.B]
theorem Z0b.rfa_1(x:Z0b)(h:Heap): qfieldAddr C h 29 (.rptr x.cv) 1=some (.rptr (I x.A)):=by
 have hs:=Z0b.shape x
 unfold Z0b.cv at hs ⊢
 simp only[qfieldAddr,tt29,ti29,tgt,hs,if_true,List.getElem?_cons_zero,List.getElem?_cons_succ]
theorem Z0b.atQ1(x:Z0b)(q:List Nat): x.cv.at (0::q)=(I x.Code).at q/\x.cv.at (1::q)=(I x.A).at q/\x.cv.at (2::q)=(I x.B).at q:=⟨rfl,rfl,rfl⟩
def Z0b.upd_2(x:Z0b)(v:CV): CV:=.agg [I x.Code,I x.A,v]
theorem Z0b.setQ1(x:Z0b)(q:List Nat)(v:CV): x.cv.set (0::q) v=Z0b.upd_0 x ((I x.Code).set q v)/\x.cv.set (1::q) v=Z0b.upd_1 x ((I x.A).set q v)/\x.cv.set (2::q) v=Z0b.upd_2 x ((I x.B).set q v):=⟨rfl,rfl,rfl⟩
theorem Z0b.foldQ1(x:Z0b)(y:Int): Z0b.upd_0 x (I y)=({x with Code:=y}:Z0b).cv/\Z0b.upd_1 x (I y)=({x with A:=y}:Z0b).cv/\Z0b.upd_2 x (I y)=({x with B:=y}:Z0b).cv:=⟨rfl,rfl,rfl⟩
theorem Z0b.fldQ1(x:Z0b): qfield C 29 x.cv 0=some (I x.Code)/\qfield C 29 x.cv 1=some (I x.A)/\qfield C 29 x.cv 2=some (I x.B):=⟨Z0d C tt29 (Z0b.shape x) rfl tt3 rfl rfl,Z0d C tt29 (Z0b.shape x) rfl tt3 rfl rfl,Z0d C tt29 (Z0b.shape x) rfl tt3 rfl rfl⟩
theorem Z0b.rfa_2(x:Z0b)(h:Heap): qfieldAddr C h 29 (.rptr x.cv) 2=some (.rptr (I x.B)):=by
 have hs:=Z0b.shape x
 unfold Z0b.cv at hs ⊢
 simp only[qfieldAddr,tt29,ti29,tgt,hs,if_true,List.getElem?_cons_zero,List.getElem?_cons_succ]
theorem Z0b.subQ1(q:List Nat)(z:Shape): subEq sh29 (0::q) z=subEq sh3 q z/\subEq sh29 (1::q) z=subEq sh3 q z/\subEq sh29 (2::q) z=subEq sh3 q z:=⟨rfl,rfl,rfl⟩
theorem Z0b.sub_nil: subEq sh29 [] sh29=true:=by simp[subEq,Shape.sub]
theorem Z0b.alloc: allocObj C (.alloc 29)=some (.var sh29 Z0b.zero.cv):=by simp only[allocObj,tt29,ti29,Z0b.zcv]
theorem Z0b.xalloc(p:Hp): xalloc C p 29=.ret (.ptr p.n []) (p.new (.var sh29 Z0b.zero.cv)):=by simp only[Cl.xalloc,tt29,ti29,Z0b.zcv]
theorem Z0b.xbox(p:Hp)(x:Z0b): xbox C p 29 x.cv=.ret (.ptr p.n []) (p.new (.var sh29 x.cv)):=by
 have h:Cl.shOk x.cv ti29.sh=true:=Z0b.shOk x
 simp only[Cl.xbox,tt29,h,cond_true];rfl
theorem Z0b.bld_0(a0:Int): qbuild C 29 [(0,I a0)]=some (({Code:=a0,A:=0,B:=0}:Z0b).cv):=Z0f C tt29 (by simp only[partsOk,setAll,CV.shape,sh29,List.all_cons,List.all_nil,List.getElem?_cons_zero,List.getElem?_cons_succ,Bool.and_true,decide_true]) rfl
theorem Z0b.bld_0_1(a0:Int)(a1:Int): qbuild C 29 [(0,I a0),(1,I a1)]=some (({Code:=a0,A:=a1,B:=0}:Z0b).cv):=Z0f C tt29 (by simp only[partsOk,setAll,CV.shape,sh29,List.all_cons,List.all_nil,List.getElem?_cons_zero,List.getElem?_cons_succ,Bool.and_true,decide_true]) rfl
theorem Z0b.bld_0_1_2(a0:Int)(a1:Int)(a2:Int): qbuild C 29 [(0,I a0),(1,I a1),(2,I a2)]=some (({Code:=a0,A:=a1,B:=a2}:Z0b).cv):=Z0f C tt29 (by simp only[partsOk,setAll,CV.shape,sh29,List.all_cons,List.all_nil,List.getElem?_cons_zero,List.getElem?_cons_succ,Bool.and_true,decide_true]) rfl
structure X0b where
 Code:Int
 A:Int
 B:Int
def X0b.cv(x:X0b): CV:=.agg [I x.Code,I x.A,I x.B]
@[ext] theorem X0b.ext'{x y:X0b}(h_Code:x.Code=y.Code)(h_A:x.A=y.A)(h_B:x.B=y.B): x=y:=by
 obtain⟨a0,a1,a2⟩:=x
 obtain⟨c0,c1,c2⟩:=y
 simp only at h_Code h_A h_B
 subst h_Code h_A h_B
 rfl
def X0b.zero: X0b:={Code:=0,A:=0,B:=0}
instance:Inhabited X0b:=⟨X0b.zero⟩
theorem X0b.zcv: z31=X0b.zero.cv:=by
 simp only[z31,X0b.zero,X0b.cv,List.map_replicate,Lst.cv,List.map_nil]
theorem X0b.shape(x:X0b): x.cv.shape=sh31:=by simp only[X0b.cv,sh31,CV.shape,CV.shapes,Lst.shape]
theorem X0b.nohas(x:X0b)(j:Nat): ¬x.cv.has j:=by simp[X0b.cv,CV.has,CV.hasL]
instance:DecidableEq X0b:=fun x y=>decidable_of_iff (x.Code=y.Code/\x.A=y.A/\x.B=y.B) ⟨fun h=>X0b.ext' h.1 h.2.1 h.2.2,fun h=>by subst h;simp⟩
theorem X0b.inj{x y:X0b}(h:x.cv=y.cv): x=y:=by
 simp only[X0b.cv,CV.agg.injEq,List.cons.injEq,and_true]at h
 obtain⟨h0,h1,h2⟩:=h
 refine X0b.ext' (I_inj _ _ h0) (I_inj _ _ h1) (I_inj _ _ h2)
theorem X0b.injF(x y:X0b)(h:x.cv=y.cv): x=y:=X0b.inj h
theorem X0b.inj_iff(x y:X0b): x.cv=y.cv ↔ x=y:=⟨X0b.inj,fun h=>by rw[h]⟩
theorem X0b.shOk(x:X0b): Cl.shOk x.cv sh31=true:=Z0m (X0b.shape x) rfl
theorem X0b.eq(d:Nat)(x y:X0b): eqCV C (d+2) 31 x.cv y.cv=some (decide (x=y)):=by
 refine(Z0z C (d:=d+1) tt31 (X0b.shape x) (X0b.shape y) (X0g (K0h C tt3 (d+0) _ _) (X0g (K0h C tt3 (d+0) _ _) (X0g (K0h C tt3 (d+0) _ _) rfl)))).trans (congrArg some ?_)
 rw[Bool.eq_iff_iff]
 simp only[Bool.and_eq_true,decide_eq_true_eq,and_true]
 exact⟨fun h=>X0b.ext' h.1 h.2.1 h.2.2,fun h=>by subst h;simp⟩
theorem X0b.eql(x y:X0b)(b:Bool): qbin C .eql 31 b x.cv y.cv=some (Bo (decide (x=y))):=by
 have h:=X0b.eq 10 x y
 unfold X0b.cv at h ⊢
 simp only[qbin]
 rw[h];rfl
theorem X0b.neq(x y:X0b)(b:Bool): qbin C .neq 31 b x.cv y.cv=some (Bo (!decide (x=y))):=by
 have h:=X0b.eq 10 x y
 unfold X0b.cv at h ⊢
 simp only[qbin]
 rw[h];rfl
def X0b.upd_0(x:X0b)(v:CV): CV:=.agg [v,I x.A,I x.B]
theorem X0b.rfa_0(x:X0b)(h:Heap): qfieldAddr C h 31 (.rptr x.cv) 0=some (.rptr (I x.Code)):=by
 have hs:=X0b.shape x
 unfold X0b.cv at hs ⊢
 simp only[qfieldAddr,tt31,ti31,tgt,hs,if_true,List.getElem?_cons_zero,List.getElem?_cons_succ]
def X0b.upd_1(x:X0b)(v:CV): CV:=.agg [I x.Code,v,I x.B]
theorem X0b.rfa_1(x:X0b)(h:Heap): qfieldAddr C h 31 (.rptr x.cv) 1=some (.rptr (I x.A)):=by
 have hs:=X0b.shape x
 unfold X0b.cv at hs ⊢
 simp only[qfieldAddr,tt31,ti31,tgt,hs,if_true,List.getElem?_cons_zero,List.getElem?_cons_succ]
theorem X0b.atQ1(x:X0b)(q:List Nat): x.cv.at (0::q)=(I x.Code).at q/\x.cv.at (1::q)=(I x.A).at q/\x.cv.at (2::q)=(I x.B).at q:=⟨rfl,rfl,rfl⟩
def X0b.upd_2(x:X0b)(v:CV): CV:=.agg [I x.Code,I x.A,v]
theorem X0b.setQ1(x:X0b)(q:List Nat)(v:CV): x.cv.set (0::q) v=X0b.upd_0 x ((I x.Code).set q v)/\x.cv.set (1::q) v=X0b.upd_1 x ((I x.A).set q v)/\x.cv.set (2::q) v=X0b.upd_2 x ((I x.B).set q v):=⟨rfl,rfl,rfl⟩
theorem X0b.foldQ1(x:X0b)(y:Int): X0b.upd_0 x (I y)=({x with Code:=y}:X0b).cv/\X0b.upd_1 x (I y)=({x with A:=y}:X0b).cv/\X0b.upd_2 x (I y)=({x with B:=y}:X0b).cv:=⟨rfl,rfl,rfl⟩
theorem X0b.fldQ1(x:X0b): qfield C 31 x.cv 0=some (I x.Code)/\qfield C 31 x.cv 1=some (I x.A)/\qfield C 31 x.cv 2=some (I x.B):=⟨Z0d C tt31 (X0b.shape x) rfl tt3 rfl rfl,Z0d C tt31 (X0b.shape x) rfl tt3 rfl rfl,Z0d C tt31 (X0b.shape x) rfl tt3 rfl rfl⟩
theorem X0b.rfa_2(x:X0b)(h:Heap): qfieldAddr C h 31 (.rptr x.cv) 2=some (.rptr (I x.B)):=by
 have hs:=X0b.shape x
 unfold X0b.cv at hs ⊢
 simp only[qfieldAddr,tt31,ti31,tgt,hs,if_true,List.getElem?_cons_zero,List.getElem?_cons_succ]
theorem X0b.subQ1(q:List Nat)(z:Shape): subEq sh31 (0::q) z=subEq sh3 q z/\subEq sh31 (1::q) z=subEq sh3 q z/\subEq sh31 (2::q) z=subEq sh3 q z:=⟨rfl,rfl,rfl⟩
theorem X0b.sub_nil: subEq sh31 [] sh31=true:=by simp[subEq,Shape.sub]
theorem X0b.alloc: allocObj C (.alloc 31)=some (.var sh31 X0b.zero.cv):=by simp only[allocObj,tt31,ti31,X0b.zcv]
theorem X0b.xalloc(p:Hp): xalloc C p 31=.ret (.ptr p.n []) (p.new (.var sh31 X0b.zero.cv)):=by simp only[Cl.xalloc,tt31,ti31,X0b.zcv]
theorem X0b.xbox(p:Hp)(x:X0b): xbox C p 31 x.cv=.ret (.ptr p.n []) (p.new (.var sh31 x.cv)):=by
 have h:Cl.shOk x.cv ti31.sh=true:=X0b.shOk x
 simp only[Cl.xbox,tt31,h,cond_true];rfl
structure Q0a where
 Kind:Int
 Owner:Int
 X:Int
 Y:Int
 VX:Int
 VY:Int
 Age:Int
 Mem:List Int
 hMem:Mem.length=4
 Faults:Int
def Q0a.cv(x:Q0a): CV:=.agg [I x.Kind,I x.Owner,I x.X,I x.Y,I x.VX,I x.VY,I x.Age,.agg (x.Mem.map I),I x.Faults]
@[ext] theorem Q0a.ext'{x y:Q0a}(h_Kind:x.Kind=y.Kind)(h_Owner:x.Owner=y.Owner)(h_X:x.X=y.X)(h_Y:x.Y=y.Y)(h_VX:x.VX=y.VX)(h_VY:x.VY=y.VY)(h_Age:x.Age=y.Age)(h_Mem:x.Mem=y.Mem)(h_Faults:x.Faults=y.Faults): x=y:=by
 obtain⟨a0,a1,a2,a3,a4,a5,a6,a7,ha,a8⟩:=x
 obtain⟨c0,c1,c2,c3,c4,c5,c6,c7,hc,c8⟩:=y
 simp only at h_Kind h_Owner h_X h_Y h_VX h_VY h_Age h_Mem h_Faults
 subst h_Kind h_Owner h_X h_Y h_VX h_VY h_Age h_Mem h_Faults
 rfl
def Q0a.zero: Q0a:={Kind:=0,Owner:=0,X:=0,Y:=0,VX:=0,VY:=0,Age:=0,Mem:=(List.replicate 4 0),hMem:=List.length_replicate,Faults:=0}
instance:Inhabited Q0a:=⟨Q0a.zero⟩
theorem Q0a.zcv: z34=Q0a.zero.cv:=by
 simp only[z34,Q0a.zero,Q0a.cv,z32,List.map_replicate,Lst.cv,List.map_nil]
theorem Q0a.shape(x:Q0a): x.cv.shape=sh34:=by simp only[Q0a.cv,sh34,CV.shape,CV.shapes,Lst.shape,Z0h (f:=I) (s:=Shape.s) (fun _=>rfl),x.hMem,sh32]
theorem Q0a.nohas(x:Q0a)(j:Nat): ¬x.cv.has j:=by simp[Q0a.cv,CV.has,CV.hasL,X0m I_has]
instance:DecidableEq Q0a:=fun x y=>decidable_of_iff (x.Kind=y.Kind/\x.Owner=y.Owner/\x.X=y.X/\x.Y=y.Y/\x.VX=y.VX/\x.VY=y.VY/\x.Age=y.Age/\x.Mem=y.Mem/\x.Faults=y.Faults) ⟨fun h=>Q0a.ext' h.1 h.2.1 h.2.2.1 h.2.2.2.1 h.2.2.2.2.1 h.2.2.2.2.2.1 h.2.2.2.2.2.2.1 h.2.2.2.2.2.2.2.1 h.2.2.2.2.2.2.2.2,fun h=>by subst h;simp⟩
theorem Q0a.inj{x y:Q0a}(h:x.cv=y.cv): x=y:=by
 simp only[Q0a.cv,CV.agg.injEq,List.cons.injEq,and_true]at h
 obtain⟨h0,h1,h2,h3,h4,h5,h6,h7,h8⟩:=h
 refine Q0a.ext' (I_inj _ _ h0) (I_inj _ _ h1) (I_inj _ _ h2) (I_inj _ _ h3) (I_inj _ _ h4) (I_inj _ _ h5) (I_inj _ _ h6) (V1l I_inj h7) (I_inj _ _ h8)
theorem Q0a.injF(x y:Q0a)(h:x.cv=y.cv): x=y:=Q0a.inj h
theorem Q0a.inj_iff(x y:Q0a): x.cv=y.cv ↔ x=y:=⟨Q0a.inj,fun h=>by rw[h]⟩
theorem Q0a.shOk(x:Q0a): Cl.shOk x.cv sh34=true:=Z0m (Q0a.shape x) rfl
theorem Q0a.eq(d:Nat)(x y:Q0a): eqCV C (d+3) 34 x.cv y.cv=some (decide (x=y)):=by
 refine(Z0z C (d:=d+2) tt34 (Q0a.shape x) (Q0a.shape y) (X0g (K0h C tt3 (d+1) _ _) (X0g (K0h C tt3 (d+1) _ _) (X0g (K0h C tt3 (d+1) _ _) (X0g (K0h C tt3 (d+1) _ _) (X0g (K0h C tt3 (d+1) _ _) (X0g (K0h C tt3 (d+1) _ _) (X0g (K0h C tt3 (d+1) _ _) (X0g (eqCV_ar C (g:=I) (d:=d+1) tt32 rfl (fun _=>rfl) x.hMem y.hMem (K0h C tt3 (d+0))) (X0g (K0h C tt3 (d+1) _ _) rfl)))))))))).trans (congrArg some ?_)
 rw[Bool.eq_iff_iff]
 simp only[Bool.and_eq_true,decide_eq_true_eq,and_true]
 exact⟨fun h=>Q0a.ext' h.1 h.2.1 h.2.2.1 h.2.2.2.1 h.2.2.2.2.1 h.2.2.2.2.2.1 h.2.2.2.2.2.2.1 h.2.2.2.2.2.2.2.1 h.2.2.2.2.2.2.2.2,fun h=>by subst h;simp⟩
theorem Q0a.eql(x y:Q0a)(b:Bool): qbin C .eql 34 b x.cv y.cv=some (Bo (decide (x=y))):=by
 have h:=Q0a.eq 9 x y
 unfold Q0a.cv at h ⊢
 simp only[qbin]
 rw[h];rfl
theorem Q0a.neq(x y:Q0a)(b:Bool): qbin C .neq 34 b x.cv y.cv=some (Bo (!decide (x=y))):=by
 have h:=Q0a.eq 9 x y
 unfold Q0a.cv at h ⊢
 simp only[qbin]
 rw[h];rfl
def Q0a.upd_0(x:Q0a)(v:CV): CV:=.agg [v,I x.Owner,I x.X,I x.Y,I x.VX,I x.VY,I x.Age,.agg (x.Mem.map I),I x.Faults]
theorem Q0a.rfa_0(x:Q0a)(h:Heap): qfieldAddr C h 34 (.rptr x.cv) 0=some (.rptr (I x.Kind)):=by
 have hs:=Q0a.shape x
 unfold Q0a.cv at hs ⊢
 simp only[qfieldAddr,tt34,ti34,tgt,hs,if_true,List.getElem?_cons_zero,List.getElem?_cons_succ]
def Q0a.upd_1(x:Q0a)(v:CV): CV:=.agg [I x.Kind,v,I x.X,I x.Y,I x.VX,I x.VY,I x.Age,.agg (x.Mem.map I),I x.Faults]
theorem Q0a.rfa_1(x:Q0a)(h:Heap): qfieldAddr C h 34 (.rptr x.cv) 1=some (.rptr (I x.Owner)):=by
 have hs:=Q0a.shape x
 unfold Q0a.cv at hs ⊢
 simp only[qfieldAddr,tt34,ti34,tgt,hs,if_true,List.getElem?_cons_zero,List.getElem?_cons_succ]
def Q0a.upd_2(x:Q0a)(v:CV): CV:=.agg [I x.Kind,I x.Owner,v,I x.Y,I x.VX,I x.VY,I x.Age,.agg (x.Mem.map I),I x.Faults]
theorem Q0a.rfa_2(x:Q0a)(h:Heap): qfieldAddr C h 34 (.rptr x.cv) 2=some (.rptr (I x.X)):=by
 have hs:=Q0a.shape x
 unfold Q0a.cv at hs ⊢
 simp only[qfieldAddr,tt34,ti34,tgt,hs,if_true,List.getElem?_cons_zero,List.getElem?_cons_succ]
def Q0a.upd_3(x:Q0a)(v:CV): CV:=.agg [I x.Kind,I x.Owner,I x.X,v,I x.VX,I x.VY,I x.Age,.agg (x.Mem.map I),I x.Faults]
theorem Q0a.rfa_3(x:Q0a)(h:Heap): qfieldAddr C h 34 (.rptr x.cv) 3=some (.rptr (I x.Y)):=by
 have hs:=Q0a.shape x
 unfold Q0a.cv at hs ⊢
 simp only[qfieldAddr,tt34,ti34,tgt,hs,if_true,List.getElem?_cons_zero,List.getElem?_cons_succ]
def Q0a.upd_4(x:Q0a)(v:CV): CV:=.agg [I x.Kind,I x.Owner,I x.X,I x.Y,v,I x.VY,I x.Age,.agg (x.Mem.map I),I x.Faults]
theorem Q0a.rfa_4(x:Q0a)(h:Heap): qfieldAddr C h 34 (.rptr x.cv) 4=some (.rptr (I x.VX)):=by
 have hs:=Q0a.shape x
 unfold Q0a.cv at hs ⊢
 simp only[qfieldAddr,tt34,ti34,tgt,hs,if_true,List.getElem?_cons_zero,List.getElem?_cons_succ]
def Q0a.upd_5(x:Q0a)(v:CV): CV:=.agg [I x.Kind,I x.Owner,I x.X,I x.Y,I x.VX,v,I x.Age,.agg (x.Mem.map I),I x.Faults]
theorem Q0a.rfa_5(x:Q0a)(h:Heap): qfieldAddr C h 34 (.rptr x.cv) 5=some (.rptr (I x.VY)):=by
 have hs:=Q0a.shape x
 unfold Q0a.cv at hs ⊢
 simp only[qfieldAddr,tt34,ti34,tgt,hs,if_true,List.getElem?_cons_zero,List.getElem?_cons_succ]
def Q0a.upd_6(x:Q0a)(v:CV): CV:=.agg [I x.Kind,I x.Owner,I x.X,I x.Y,I x.VX,I x.VY,v,.agg (x.Mem.map I),I x.Faults]
theorem Q0a.rfa_6(x:Q0a)(h:Heap): qfieldAddr C h 34 (.rptr x.cv) 6=some (.rptr (I x.Age)):=by
 have hs:=Q0a.shape x
 unfold Q0a.cv at hs ⊢
 simp only[qfieldAddr,tt34,ti34,tgt,hs,if_true,List.getElem?_cons_zero,List.getElem?_cons_succ]
theorem Q0a.at_7(x:Q0a): x.cv.at [7]=some (.agg (x.Mem.map I)):=rfl
theorem Q0a.at_7k(x:Q0a)(k:Nat)(q:List Nat)(h:k<4): x.cv.at (7::k::q)=(I (nth x.Mem k)).at q:=by
 show(CV.agg (x.Mem.map I)).at (k::q)=_
 exact Z1w _ (by rw[x.hMem];exact h) q
def Q0a.upd_7(x:Q0a)(v:CV): CV:=.agg [I x.Kind,I x.Owner,I x.X,I x.Y,I x.VX,I x.VY,I x.Age,v,I x.Faults]
def Q0a.upd_7k(x:Q0a)(k:Nat)(v:CV): CV:=.agg [I x.Kind,I x.Owner,I x.X,I x.Y,I x.VX,I x.VY,I x.Age,.agg ((x.Mem.map I).set k v),I x.Faults]
theorem Q0a.set_7(x:Q0a)(v:CV): x.cv.set [7] v=Q0a.upd_7 x v:=by simp[Q0a.cv,Q0a.upd_7,CV.set,Q2b]
theorem Q0a.set_7k(x:Q0a)(k:Nat)(q:List Nat)(v:CV)(h:k<4): x.cv.set (7::k::q) v=Q0a.upd_7k x k ((I (nth x.Mem k)).set q v):=by
 have e:x.cv.set (7::k::q) v=Q0a.upd_7 x ((CV.agg (x.Mem.map I)).set (k::q) v):=rfl
 rw[e,Z1r _ (by rw[x.hMem];exact h)];rfl
def Q0a.put_7k(x:Q0a)(k:Nat)(y:Int): Q0a:={x with Mem:=x.Mem.set k y,hMem:=by rw[List.length_set];exact x.hMem}
theorem Q0a.fold_7k(x:Q0a)(k:Nat)(y:Int): Q0a.upd_7k x k (I y)=(Q0a.put_7k x k y).cv:=by simp only[Q0a.upd_7k,Q0a.put_7k,Q0a.cv,List.map_set]
theorem Q0a.fold_7(x:Q0a)(l:List Int)(h:l.length=4): Q0a.upd_7 x (.agg (l.map I))=({x with Mem:=l,hMem:=h}:Q0a).cv:=rfl
theorem Q0a.fld_7(x:Q0a): qfield C 34 x.cv 7=some (.agg (x.Mem.map I)):=Z0d C tt34 (Q0a.shape x) rfl tt32 rfl (Z0m (sh:=sh32) (by simp only[CV.shape,Z0h (f:=I) (s:=Shape.s) (fun _=>rfl),x.hMem,sh32]) rfl)
theorem Q0a.rfa_7(x:Q0a)(h:Heap): qfieldAddr C h 34 (.rptr x.cv) 7=some (.rptr (.agg (x.Mem.map I))):=by
 have hs:=Q0a.shape x
 unfold Q0a.cv at hs ⊢
 simp only[qfieldAddr,tt34,ti34,tgt,hs,if_true,List.getElem?_cons_zero,List.getElem?_cons_succ]
theorem Q0a.sub_7k(k:Nat)(q:List Nat)(z:Shape): subEq sh34 (7::k::q) z=(decide (k<4)&&subEq sh3 q z):=Z0y 4 k q sh3 z
theorem Q0a.sub_7(z:Shape): subEq sh34 [7] z=subEq sh32 [] z:=rfl
theorem Q0a.atQ1(x:Q0a)(q:List Nat): x.cv.at (0::q)=(I x.Kind).at q/\x.cv.at (1::q)=(I x.Owner).at q/\x.cv.at (2::q)=(I x.X).at q/\x.cv.at (3::q)=(I x.Y).at q/\x.cv.at (4::q)=(I x.VX).at q/\x.cv.at (5::q)=(I x.VY).at q/\x.cv.at (6::q)=(I x.Age).at q/\x.cv.at (8::q)=(I x.Faults).at q:=⟨rfl,rfl,rfl,rfl,rfl,rfl,rfl,rfl⟩
def Q0a.upd_8(x:Q0a)(v:CV): CV:=.agg [I x.Kind,I x.Owner,I x.X,I x.Y,I x.VX,I x.VY,I x.Age,.agg (x.Mem.map I),v]
theorem Q0a.setQ1(x:Q0a)(q:List Nat)(v:CV): x.cv.set (0::q) v=Q0a.upd_0 x ((I x.Kind).set q v)/\x.cv.set (1::q) v=Q0a.upd_1 x ((I x.Owner).set q v)/\x.cv.set (2::q) v=Q0a.upd_2 x ((I x.X).set q v)/\x.cv.set (3::q) v=Q0a.upd_3 x ((I x.Y).set q v)/\x.cv.set (4::q) v=Q0a.upd_4 x ((I x.VX).set q v)/\x.cv.set (5::q) v=Q0a.upd_5 x ((I x.VY).set q v)/\x.cv.set (6::q) v=Q0a.upd_6 x ((I x.Age).set q v)/\x.cv.set (8::q) v=Q0a.upd_8 x ((I x.Faults).set q v):=⟨rfl,rfl,rfl,rfl,rfl,rfl,rfl,rfl⟩
theorem Q0a.foldQ1(x:Q0a)(y:Int): Q0a.upd_0 x (I y)=({x with Kind:=y}:Q0a).cv/\Q0a.upd_1 x (I y)=({x with Owner:=y}:Q0a).cv/\Q0a.upd_2 x (I y)=({x with X:=y}:Q0a).cv/\Q0a.upd_3 x (I y)=({x with Y:=y}:Q0a).cv/\Q0a.upd_4 x (I y)=({x with VX:=y}:Q0a).cv/\Q0a.upd_5 x (I y)=({x with VY:=y}:Q0a).cv/\Q0a.upd_6 x (I y)=({x with Age:=y}:Q0a).cv/\Q0a.upd_8 x (I y)=({x with Faults:=y}:Q0a).cv:=⟨rfl,rfl,rfl,rfl,rfl,rfl,rfl,rfl⟩
theorem Q0a.fldQ1(x:Q0a): qfield C 34 x.cv 0=some (I x.Kind)/\qfield C 34 x.cv 1=some (I x.Owner)/\qfield C 34 x.cv 2=some (I x.X)/\qfield C 34 x.cv 3=some (I x.Y)/\qfield C 34 x.cv 4=some (I x.VX)/\qfield C 34 x.cv 5=some (I x.VY)/\qfield C 34 x.cv 6=some (I x.Age)/\qfield C 34 x.cv 8=some (I x.Faults):=⟨Z0d C tt34 (Q0a.shape x) rfl tt3 rfl rfl,Z0d C tt34 (Q0a.shape x) rfl tt3 rfl rfl,Z0d C tt34 (Q0a.shape x) rfl tt3 rfl rfl,Z0d C tt34 (Q0a.shape x) rfl tt3 rfl rfl,Z0d C tt34 (Q0a.shape x) rfl tt3 rfl rfl,Z0d C tt34 (Q0a.shape x) rfl tt3 rfl rfl,Z0d C tt34 (Q0a.shape x) rfl tt3 rfl rfl,Z0d C tt34 (Q0a.shape x) rfl tt3 rfl rfl⟩
theorem Q0a.rfa_8(x:Q0a)(h:Heap): qfieldAddr C h 34 (.rptr x.cv) 8=some (.rptr (I x.Faults)):=by
 have hs:=Q0a.shape x
 unfold Q0a.cv at hs ⊢
 simp only[qfieldAddr,tt34,ti34,tgt,hs,if_true,List.getElem?_cons_zero,List.getElem?_cons_succ]
theorem Q0a.subQ1(q:List Nat)(z:Shape): subEq sh34 (0::q) z=subEq sh3 q z/\subEq sh34 (1::q) z=subEq sh3 q z/\subEq sh34 (2::q) z=subEq sh3 q z/\subEq sh34 (3::q) z=subEq sh3 q z/\subEq sh34 (4::q) z=subEq sh3 q z/\subEq sh34 (5::q) z=subEq sh3 q z/\subEq sh34 (6::q) z=subEq sh3 q z/\subEq sh34 (8::q) z=subEq sh3 q z:=⟨rfl,rfl,rfl,rfl,rfl,rfl,rfl,rfl⟩
theorem Q0a.sub_nil: subEq sh34 [] sh34=true:=by simp[subEq,Shape.sub]
theorem Q0a.alloc: allocObj C (.alloc 34)=some (.var sh34 Q0a.zero.cv):=by simp only[allocObj,tt34,ti34,Q0a.zcv]
theorem Q0a.xalloc(p:Hp): xalloc C p 34=.ret (.ptr p.n []) (p.new (.var sh34 Q0a.zero.cv)):=by simp only[Cl.xalloc,tt34,ti34,Q0a.zcv]
theorem Q0a.xbox(p:Hp)(x:Q0a): xbox C p 34 x.cv=.ret (.ptr p.n []) (p.new (.var sh34 x.cv)):=by
 have h:Cl.shOk x.cv ti34.sh=true:=Q0a.shOk x
 simp only[Cl.xbox,tt34,h,cond_true];rfl
theorem Q0a.bld_none:qbuild C 34 []=some (({Kind:=0,Owner:=0,X:=0,Y:=0,VX:=0,VY:=0,Age:=0,Mem:=(List.replicate 4 0),hMem:=List.length_replicate,Faults:=0}:Q0a).cv):=Z0f C tt34 (by simp only[partsOk,setAll,CV.shape,sh34,List.all_cons,List.all_nil,List.getElem?_cons_zero,List.getElem?_cons_succ,Bool.and_true,decide_true]) rfl
theorem Q0a.bld_0(a0:Int): qbuild C 34 [(0,I a0)]=some (({Kind:=a0,Owner:=0,X:=0,Y:=0,VX:=0,VY:=0,Age:=0,Mem:=(List.replicate 4 0),hMem:=List.length_replicate,Faults:=0}:Q0a).cv):=Z0f C tt34 (by simp only[partsOk,setAll,CV.shape,sh34,List.all_cons,List.all_nil,List.getElem?_cons_zero,List.getElem?_cons_succ,Bool.and_true,decide_true]) rfl
theorem Q0a.bld_0_1_2_3(a0:Int)(a1:Int)(a2:Int)(a3:Int): qbuild C 34 [(0,I a0),(1,I a1),(2,I a2),(3,I a3)]=some (({Kind:=a0,Owner:=a1,X:=a2,Y:=a3,VX:=0,VY:=0,Age:=0,Mem:=(List.replicate 4 0),hMem:=List.length_replicate,Faults:=0}:Q0a).cv):=Z0f C tt34 (by simp only[partsOk,setAll,CV.shape,sh34,List.all_cons,List.all_nil,List.getElem?_cons_zero,List.getElem?_cons_succ,Bool.and_true,decide_true]) rfl
theorem Q0a.bld_0_1_2_3_4_5(a0:Int)(a1:Int)(a2:Int)(a3:Int)(a4:Int)(a5:Int): qbuild C 34 [(0,I a0),(1,I a1),(2,I a2),(3,I a3),(4,I a4),(5,I a5)]=some (({Kind:=a0,Owner:=a1,X:=a2,Y:=a3,VX:=a4,VY:=a5,Age:=0,Mem:=(List.replicate 4 0),hMem:=List.length_replicate,Faults:=0}:Q0a).cv):=Z0f C tt34 (by simp only[partsOk,setAll,CV.shape,sh34,List.all_cons,List.all_nil,List.getElem?_cons_zero,List.getElem?_cons_succ,Bool.and_true,decide_true]) rfl
structure Z0a where
 Buttons:Int
 X:Int
 Y:Int
def Z0a.cv(x:Z0a): CV:=.agg [I x.Buttons,I x.X,I x.Y]
@[ext] theorem Z0a.ext'{x y:Z0a}(h_Buttons:x.Buttons=y.Buttons)(h_X:x.X=y.X)(h_Y:x.Y=y.Y): x=y:=by
 obtain⟨a0,a1,a2⟩:=x
 obtain⟨c0,c1,c2⟩:=y
 simp only at h_Buttons h_X h_Y
 subst h_Buttons h_X h_Y
 rfl
def Z0a.zero: Z0a:={Buttons:=0,X:=0,Y:=0}
instance:Inhabited Z0a:=⟨Z0a.zero⟩
theorem Z0a.zcv: z36=Z0a.zero.cv:=by
 simp only[z36,Z0a.zero,Z0a.cv,List.map_replicate,Lst.cv,List.map_nil]
theorem Z0a.shape(x:Z0a): x.cv.shape=sh36:=by simp only[Z0a.cv,sh36,CV.shape,CV.shapes,Lst.shape]
theorem Z0a.nohas(x:Z0a)(j:Nat): ¬x.cv.has j:=by simp[Z0a.cv,CV.has,CV.hasL]
instance:DecidableEq Z0a:=fun x y=>decidable_of_iff (x.Buttons=y.Buttons/\x.X=y.X/\x.Y=y.Y) ⟨fun h=>Z0a.ext' h.1 h.2.1 h.2.2,fun h=>by subst h;simp⟩
theorem Z0a.inj{x y:Z0a}(h:x.cv=y.cv): x=y:=by
 simp only[Z0a.cv,CV.agg.injEq,List.cons.injEq,and_true]at h
 obtain⟨h0,h1,h2⟩:=h
 refine Z0a.ext' (I_inj _ _ h0) (I_inj _ _ h1) (I_inj _ _ h2)
theorem Z0a.injF(x y:Z0a)(h:x.cv=y.cv): x=y:=Z0a.inj h
theorem Z0a.inj_iff(x y:Z0a): x.cv=y.cv ↔ x=y:=⟨Z0a.inj,fun h=>by rw[h]⟩
theorem Z0a.shOk(x:Z0a): Cl.shOk x.cv sh36=true:=Z0m (Z0a.shape x) rfl
theorem Z0a.eq(d:Nat)(x y:Z0a): eqCV C (d+2) 36 x.cv y.cv=some (decide (x=y)):=by
 refine(Z0z C (d:=d+1) tt36 (Z0a.shape x) (Z0a.shape y) (X0g (K0h C tt3 (d+0) _ _) (X0g (K0h C tt3 (d+0) _ _) (X0g (K0h C tt3 (d+0) _ _) rfl)))).trans (congrArg some ?_)
 rw[Bool.eq_iff_iff]
 simp only[Bool.and_eq_true,decide_eq_true_eq,and_true]
 exact⟨fun h=>Z0a.ext' h.1 h.2.1 h.2.2,fun h=>by subst h;simp⟩
theorem Z0a.eql(x y:Z0a)(b:Bool): qbin C .eql 36 b x.cv y.cv=some (Bo (decide (x=y))):=by
 have h:=Z0a.eq 10 x y
 unfold Z0a.cv at h ⊢
 simp only[qbin]
 rw[h];rfl
theorem Z0a.neq(x y:Z0a)(b:Bool): qbin C .neq 36 b x.cv y.cv=some (Bo (!decide (x=y))):=by
 have h:=Z0a.eq 10 x y
 unfold Z0a.cv at h ⊢
 simp only[qbin]
 rw[h];rfl
def Z0a.upd_0(x:Z0a)(v:CV): CV:=.agg [v,I x.X,I x.Y]
theorem Z0a.rfa_0(x:Z0a)(h:Heap): qfieldAddr C h 36 (.rptr x.cv) 0=some (.rptr (I x.Buttons)):=by
 have hs:=Z0a.shape x
 unfold Z0a.cv at hs ⊢
 simp only[qfieldAddr,tt36,ti36,tgt,hs,if_true,List.getElem?_cons_zero,List.getElem?_cons_succ]
def Z0a.upd_1(x:Z0a)(v:CV): CV:=.agg [I x.Buttons,v,I x.Y]
theorem Z0a.rfa_1(x:Z0a)(h:Heap): qfieldAddr C h 36 (.rptr x.cv) 1=some (.rptr (I x.X)):=by
 have hs:=Z0a.shape x
 unfold Z0a.cv at hs ⊢
 simp only[qfieldAddr,tt36,ti36,tgt,hs,if_true,List.getElem?_cons_zero,List.getElem?_cons_succ]
theorem Z0a.atQ1(x:Z0a)(q:List Nat): x.cv.at (0::q)=(I x.Buttons).at q/\x.cv.at (1::q)=(I x.X).at q/\x.cv.at (2::q)=(I x.Y).at q:=⟨rfl,rfl,rfl⟩
def Z0a.upd_2(x:Z0a)(v:CV): CV:=.agg [I x.Buttons,I x.X,v]
theorem Z0a.setQ1(x:Z0a)(q:List Nat)(v:CV): x.cv.set (0::q) v=Z0a.upd_0 x ((I x.Buttons).set q v)/\x.cv.set (1::q) v=Z0a.upd_1 x ((I x.X).set q v)/\x.cv.set (2::q) v=Z0a.upd_2 x ((I x.Y).set q v):=⟨rfl,rfl,rfl⟩
theorem Z0a.foldQ1(x:Z0a)(y:Int): Z0a.upd_0 x (I y)=({x with Buttons:=y}:Z0a).cv/\Z0a.upd_1 x (I y)=({x with X:=y}:Z0a).cv/\Z0a.upd_2 x (I y)=({x with Y:=y}:Z0a).cv:=⟨rfl,rfl,rfl⟩
theorem Z0a.fldQ1(x:Z0a): qfield C 36 x.cv 0=some (I x.Buttons)/\qfield C 36 x.cv 1=some (I x.X)/\qfield C 36 x.cv 2=some (I x.Y):=⟨Z0d C tt36 (Z0a.shape x) rfl tt3 rfl rfl,Z0d C tt36 (Z0a.shape x) rfl tt3 rfl rfl,Z0d C tt36 (Z0a.shape x) rfl tt3 rfl rfl⟩
theorem Z0a.rfa_2(x:Z0a)(h:Heap): qfieldAddr C h 36 (.rptr x.cv) 2=some (.rptr (I x.Y)):=by
 have hs:=Z0a.shape x
 unfold Z0a.cv at hs ⊢
 simp only[qfieldAddr,tt36,ti36,tgt,hs,if_true,List.getElem?_cons_zero,List.getElem?_cons_succ]
theorem Z0a.subQ1(q:List Nat)(z:Shape): subEq sh36 (0::q) z=subEq sh3 q z/\subEq sh36 (1::q) z=subEq sh3 q z/\subEq sh36 (2::q) z=subEq sh3 q z:=⟨rfl,rfl,rfl⟩
theorem Z0a.sub_nil: subEq sh36 [] sh36=true:=by simp[subEq,Shape.sub]
theorem Z0a.alloc: allocObj C (.alloc 36)=some (.var sh36 Z0a.zero.cv):=by simp only[allocObj,tt36,ti36,Z0a.zcv]
theorem Z0a.xalloc(p:Hp): xalloc C p 36=.ret (.ptr p.n []) (p.new (.var sh36 Z0a.zero.cv)):=by simp only[Cl.xalloc,tt36,ti36,Z0a.zcv]
theorem Z0a.xbox(p:Hp)(x:Z0a): xbox C p 36 x.cv=.ret (.ptr p.n []) (p.new (.var sh36 x.cv)):=by
 have h:Cl.shOk x.cv ti36.sh=true:=Z0a.shOk x
 simp only[Cl.xbox,tt36,h,cond_true];rfl
theorem Z0a.bld_none:qbuild C 36 []=some (({Buttons:=0,X:=0,Y:=0}:Z0a).cv):=Z0f C tt36 (by simp only[partsOk,setAll,CV.shape,sh36,List.all_cons,List.all_nil,List.getElem?_cons_zero,List.getElem?_cons_succ,Bool.and_true,decide_true]) rfl
theorem Z0a.bld_0_1(a0:Int)(a1:Int): qbuild C 36 [(0,I a0),(1,I a1)]=some (({Buttons:=a0,X:=a1,Y:=0}:Z0a).cv):=Z0f C tt36 (by simp only[partsOk,setAll,CV.shape,sh36,List.all_cons,List.all_nil,List.getElem?_cons_zero,List.getElem?_cons_succ,Bool.and_true,decide_true]) rfl
theorem Z0a.bld_0_1_2(a0:Int)(a1:Int)(a2:Int): qbuild C 36 [(0,I a0),(1,I a1),(2,I a2)]=some (({Buttons:=a0,X:=a1,Y:=a2}:Z0a).cv):=Z0f C tt36 (by simp only[partsOk,setAll,CV.shape,sh36,List.all_cons,List.all_nil,List.getElem?_cons_zero,List.getElem?_cons_succ,Bool.and_true,decide_true]) rfl
theorem Z0a.bld_1(a1:Int): qbuild C 36 [(1,I a1)]=some (({Buttons:=0,X:=a1,Y:=0}:Z0a).cv):=Z0f C tt36 (by simp only[partsOk,setAll,CV.shape,sh36,List.all_cons,List.all_nil,List.getElem?_cons_zero,List.getElem?_cons_succ,Bool.and_true,decide_true]) rfl
structure V0d where
 Body:Q0a
 In:Z0a
 Dice:Int
 Room:Int
 Shots:Lst Q0a
def V0d.cv(x:V0d): CV:=.agg [Q0a.cv x.Body,Z0a.cv x.In,U x.Dice,I x.Room,(Lst.cv Q0a.cv) x.Shots]
@[ext] theorem V0d.ext'{x y:V0d}(h_Body:x.Body=y.Body)(h_In:x.In=y.In)(h_Dice:x.Dice=y.Dice)(h_Room:x.Room=y.Room)(h_Shots:x.Shots=y.Shots): x=y:=by
 obtain⟨a0,a1,a2,a3,a4⟩:=x
 obtain⟨c0,c1,c2,c3,c4⟩:=y
 simp only at h_Body h_In h_Dice h_Room h_Shots
 subst h_Body h_In h_Dice h_Room h_Shots
 rfl
def V0d.zero: V0d:={Body:=Q0a.zero,In:=Z0a.zero,Dice:=0,Room:=0,Shots:=⟨.nil,[],fun _=>rfl⟩}
instance:Inhabited V0d:=⟨V0d.zero⟩
theorem V0d.zcv: z39=V0d.zero.cv:=by
 simp only[z39,V0d.zero,V0d.cv,Q0a.zcv,Z0a.zcv,List.map_replicate,Lst.cv,List.map_nil]
theorem V0d.shape(x:V0d): x.cv.shape=sh39:=by simp only[V0d.cv,sh39,CV.shape,CV.shapes,Q0a.shape,Z0a.shape,Lst.shape]
theorem V0d.has(x:V0d)(j:Nat): x.cv.has j ↔ x.Shots.tl=.own j:=by simp[V0d.cv,CV.has,CV.hasL,Q0a.nohas,Z0a.nohas,Lst.has _ Q0a.nohas]
theorem V0d.inj{x y:V0d}(h:x.cv=y.cv): x=y:=by
 simp only[V0d.cv,CV.agg.injEq,List.cons.injEq,and_true]at h
 obtain⟨h0,h1,h2,h3,h4⟩:=h
 refine V0d.ext' (Q0a.injF _ _ h0) (Z0a.injF _ _ h1) (U_inj _ _ h2) (I_inj _ _ h3) ((Lst.injF Q0a.injF) _ _ h4)
theorem V0d.injF(x y:V0d)(h:x.cv=y.cv): x=y:=V0d.inj h
theorem V0d.inj_iff(x y:V0d): x.cv=y.cv ↔ x=y:=⟨V0d.inj,fun h=>by rw[h]⟩
theorem V0d.shOk(x:V0d): Cl.shOk x.cv sh39=true:=Z0m (V0d.shape x) rfl
def V0d.upd_0(x:V0d)(v:CV): CV:=.agg [v,Z0a.cv x.In,U x.Dice,I x.Room,(Lst.cv Q0a.cv) x.Shots]
theorem V0d.fold_0(x:V0d)(y:Q0a): V0d.upd_0 x (Q0a.cv y)=({x with Body:=y}:V0d).cv:=rfl
theorem V0d.fld_0(x:V0d): qfield C 39 x.cv 0=some (Q0a.cv x.Body):=Z0d C tt39 (V0d.shape x) rfl tt34 rfl (Q0a.shOk _)
def V0d.upd_1(x:V0d)(v:CV): CV:=.agg [Q0a.cv x.Body,v,U x.Dice,I x.Room,(Lst.cv Q0a.cv) x.Shots]
theorem V0d.fold_1(x:V0d)(y:Z0a): V0d.upd_1 x (Z0a.cv y)=({x with In:=y}:V0d).cv:=rfl
theorem V0d.fld_1(x:V0d): qfield C 39 x.cv 1=some (Z0a.cv x.In):=Z0d C tt39 (V0d.shape x) rfl tt36 rfl (Z0a.shOk _)
def V0d.upd_2(x:V0d)(v:CV): CV:=.agg [Q0a.cv x.Body,Z0a.cv x.In,v,I x.Room,(Lst.cv Q0a.cv) x.Shots]
def V0d.upd_3(x:V0d)(v:CV): CV:=.agg [Q0a.cv x.Body,Z0a.cv x.In,U x.Dice,v,(Lst.cv Q0a.cv) x.Shots]
theorem V0d.foldQ1(x:V0d)(y:Int): V0d.upd_2 x (U y)=({x with Dice:=y}:V0d).cv/\V0d.upd_3 x (I y)=({x with Room:=y}:V0d).cv:=⟨rfl,rfl⟩
theorem V0d.atQ1(x:V0d)(q:List Nat): x.cv.at (0::q)=(Q0a.cv x.Body).at q/\x.cv.at (1::q)=(Z0a.cv x.In).at q/\x.cv.at (2::q)=(U x.Dice).at q/\x.cv.at (3::q)=(I x.Room).at q/\x.cv.at (4::q)=((Lst.cv Q0a.cv) x.Shots).at q:=⟨rfl,rfl,rfl,rfl,rfl⟩
def V0d.upd_4(x:V0d)(v:CV): CV:=.agg [Q0a.cv x.Body,Z0a.cv x.In,U x.Dice,I x.Room,v]
theorem V0d.setQ1(x:V0d)(q:List Nat)(v:CV): x.cv.set (0::q) v=V0d.upd_0 x ((Q0a.cv x.Body).set q v)/\x.cv.set (1::q) v=V0d.upd_1 x ((Z0a.cv x.In).set q v)/\x.cv.set (2::q) v=V0d.upd_2 x ((U x.Dice).set q v)/\x.cv.set (3::q) v=V0d.upd_3 x ((I x.Room).set q v)/\x.cv.set (4::q) v=V0d.upd_4 x (((Lst.cv Q0a.cv) x.Shots).set q v):=⟨rfl,rfl,rfl,rfl,rfl⟩
theorem V0d.fold_4(x:V0d)(y:Lst Q0a): V0d.upd_4 x ((Lst.cv Q0a.cv) y)=({x with Shots:=y}:V0d).cv:=rfl
theorem V0d.fldQ1(x:V0d): qfield C 39 x.cv 2=some (U x.Dice)/\qfield C 39 x.cv 3=some (I x.Room)/\qfield C 39 x.cv 4=some ((Lst.cv Q0a.cv) x.Shots):=⟨Z0d C tt39 (V0d.shape x) rfl tt25 rfl rfl,Z0d C tt39 (V0d.shape x) rfl tt3 rfl rfl,Z0d C tt39 (V0d.shape x) rfl tt37 rfl rfl⟩
theorem V0d.subQ1(q:List Nat)(z:Shape): subEq sh39 (0::q) z=subEq sh34 q z/\subEq sh39 (1::q) z=subEq sh36 q z/\subEq sh39 (2::q) z=subEq sh25 q z/\subEq sh39 (3::q) z=subEq sh3 q z/\subEq sh39 (4::q) z=subEq sh37 q z:=⟨rfl,rfl,rfl,rfl,rfl⟩
theorem V0d.sub_nil: subEq sh39 [] sh39=true:=by simp[subEq,Shape.sub]
theorem V0d.alloc: allocObj C (.alloc 39)=some (.var sh39 V0d.zero.cv):=by simp only[allocObj,tt39,ti39,V0d.zcv]
theorem V0d.xalloc(p:Hp): xalloc C p 39=.ret (.ptr p.n []) (p.new (.var sh39 V0d.zero.cv)):=by simp only[Cl.xalloc,tt39,ti39,V0d.zcv]
theorem V0d.xbox(p:Hp)(x:V0d): xbox C p 39 x.cv=.ret (.ptr p.n []) (p.new (.var sh39 x.cv)):=by
 have h:Cl.shOk x.cv ti39.sh=true:=V0d.shOk x
 simp only[Cl.xbox,tt39,h,cond_true];rfl
theorem V0d.bld_0_1_2_3(a0:Q0a)(a1:Z0a)(a2:Int)(a3:Int): qbuild C 39 [(0,Q0a.cv a0),(1,Z0a.cv a1),(2,U a2),(3,I a3)]=some (({Body:=a0,In:=a1,Dice:=a2,Room:=a3,Shots:=⟨.nil,[],fun _=>rfl⟩}:V0d).cv):=Z0f C tt39 (by simp only[partsOk,setAll,CV.shape,Q0a.shape,Z0a.shape,sh39,List.all_cons,List.all_nil,List.getElem?_cons_zero,List.getElem?_cons_succ,Bool.and_true,decide_true]) rfl
structure X0c where
 Code:Int
 At:Int
def X0c.cv(x:X0c): CV:=.agg [I x.Code,I x.At]
@[ext] theorem X0c.ext'{x y:X0c}(h_Code:x.Code=y.Code)(h_At:x.At=y.At): x=y:=by
 obtain⟨a0,a1⟩:=x
 obtain⟨c0,c1⟩:=y
 simp only at h_Code h_At
 subst h_Code h_At
 rfl
def X0c.zero: X0c:={Code:=0,At:=0}
instance:Inhabited X0c:=⟨X0c.zero⟩
theorem X0c.zcv: z44=X0c.zero.cv:=by
 simp only[z44,X0c.zero,X0c.cv,List.map_replicate,Lst.cv,List.map_nil]
theorem X0c.shape(x:X0c): x.cv.shape=sh44:=by simp only[X0c.cv,sh44,CV.shape,CV.shapes,Lst.shape]
theorem X0c.nohas(x:X0c)(j:Nat): ¬x.cv.has j:=by simp[X0c.cv,CV.has,CV.hasL]
instance:DecidableEq X0c:=fun x y=>decidable_of_iff (x.Code=y.Code/\x.At=y.At) ⟨fun h=>X0c.ext' h.1 h.2,fun h=>by subst h;simp⟩
theorem X0c.inj{x y:X0c}(h:x.cv=y.cv): x=y:=by
 simp only[X0c.cv,CV.agg.injEq,List.cons.injEq,and_true]at h
 obtain⟨h0,h1⟩:=h
 refine X0c.ext' (I_inj _ _ h0) (I_inj _ _ h1)
theorem X0c.injF(x y:X0c)(h:x.cv=y.cv): x=y:=X0c.inj h
theorem X0c.inj_iff(x y:X0c): x.cv=y.cv ↔ x=y:=⟨X0c.inj,fun h=>by rw[h]⟩
theorem X0c.shOk(x:X0c): Cl.shOk x.cv sh44=true:=Z0m (X0c.shape x) rfl
theorem X0c.eq(d:Nat)(x y:X0c): eqCV C (d+2) 44 x.cv y.cv=some (decide (x=y)):=by
 refine(Z0z C (d:=d+1) tt44 (X0c.shape x) (X0c.shape y) (X0g (K0h C tt3 (d+0) _ _) (X0g (K0h C tt3 (d+0) _ _) rfl))).trans (congrArg some ?_)
 rw[Bool.eq_iff_iff]
 simp only[Bool.and_eq_true,decide_eq_true_eq,and_true]
 exact⟨fun h=>X0c.ext' h.1 h.2,fun h=>by subst h;simp⟩
theorem X0c.eql(x y:X0c)(b:Bool): qbin C .eql 44 b x.cv y.cv=some (Bo (decide (x=y))):=by
 have h:=X0c.eq 10 x y
 unfold X0c.cv at h ⊢
 simp only[qbin]
 rw[h];rfl
theorem X0c.neq(x y:X0c)(b:Bool): qbin C .neq 44 b x.cv y.cv=some (Bo (!decide (x=y))):=by
 have h:=X0c.eq 10 x y
 unfold X0c.cv at h ⊢
 simp only[qbin]
 rw[h];rfl
def X0c.upd_0(x:X0c)(v:CV): CV:=.agg [v,I x.At]
theorem X0c.atQ1(x:X0c)(q:List Nat): x.cv.at (0::q)=(I x.Code).at q/\x.cv.at (1::q)=(I x.At).at q:=⟨rfl,rfl⟩
def X0c.upd_1(x:X0c)(v:CV): CV:=.agg [I x.Code,v]
theorem X0c.setQ1(x:X0c)(q:List Nat)(v:CV): x.cv.set (0::q) v=X0c.upd_0 x ((I x.Code).set q v)/\x.cv.set (1::q) v=X0c.upd_1 x ((I x.At).set q v):=⟨rfl,rfl⟩
theorem X0c.foldQ1(x:X0c)(y:Int): X0c.upd_0 x (I y)=({x with Code:=y}:X0c).cv/\X0c.upd_1 x (I y)=({x with At:=y}:X0c).cv:=⟨rfl,rfl⟩
theorem X0c.fldQ1(x:X0c): qfield C 44 x.cv 0=some (I x.Code)/\qfield C 44 x.cv 1=some (I x.At):=⟨Z0d C tt44 (X0c.shape x) rfl tt3 rfl rfl,Z0d C tt44 (X0c.shape x) rfl tt3 rfl rfl⟩
theorem X0c.subQ1(q:List Nat)(z:Shape): subEq sh44 (0::q) z=subEq sh3 q z/\subEq sh44 (1::q) z=subEq sh3 q z:=⟨rfl,rfl⟩
theorem X0c.sub_nil: subEq sh44 [] sh44=true:=by simp[subEq,Shape.sub]
theorem X0c.alloc: allocObj C (.alloc 44)=some (.var sh44 X0c.zero.cv):=by simp only[allocObj,tt44,ti44,X0c.zcv]
theorem X0c.xalloc(p:Hp): xalloc C p 44=.ret (.ptr p.n []) (p.new (.var sh44 X0c.zero.cv)):=by simp only[Cl.xalloc,tt44,ti44,X0c.zcv]
theorem X0c.xbox(p:Hp)(x:X0c): xbox C p 44 x.cv=.ret (.ptr p.n []) (p.new (.var sh44 x.cv)):=by
 have h:Cl.shOk x.cv ti44.sh=true:=X0c.shOk x
 simp only[Cl.xbox,tt44,h,cond_true];rfl
theorem X0c.bld_none:qbuild C 44 []=some (({Code:=0,At:=0}:X0c).cv):=Z0f C tt44 (by simp only[partsOk,setAll,CV.shape,sh44,List.all_cons,List.all_nil,List.getElem?_cons_zero,List.getElem?_cons_succ,Bool.and_true,decide_true]) rfl
theorem X0c.bld_0(a0:Int): qbuild C 44 [(0,I a0)]=some (({Code:=a0,At:=0}:X0c).cv):=Z0f C tt44 (by simp only[partsOk,setAll,CV.shape,sh44,List.all_cons,List.all_nil,List.getElem?_cons_zero,List.getElem?_cons_succ,Bool.and_true,decide_true]) rfl
theorem X0c.bld_0_1(a0:Int)(a1:Int): qbuild C 44 [(0,I a0),(1,I a1)]=some (({Code:=a0,At:=a1}:X0c).cv):=Z0f C tt44 (by simp only[partsOk,setAll,CV.shape,sh44,List.all_cons,List.all_nil,List.getElem?_cons_zero,List.getElem?_cons_succ,Bool.and_true,decide_true]) rfl
structure Y0c where
 Body:Q0a
 In:Z0a
 Dice:Int
 Room:Int
 Shots:Lst Q0a
def Y0c.cv(x:Y0c): CV:=.agg [Q0a.cv x.Body,Z0a.cv x.In,U x.Dice,I x.Room,(Lst.cv Q0a.cv) x.Shots]
@[ext] theorem Y0c.ext'{x y:Y0c}(h_Body:x.Body=y.Body)(h_In:x.In=y.In)(h_Dice:x.Dice=y.Dice)(h_Room:x.Room=y.Room)(h_Shots:x.Shots=y.Shots): x=y:=by
 obtain⟨a0,a1,a2,a3,a4⟩:=x
 obtain⟨c0,c1,c2,c3,c4⟩:=y
 simp only at h_Body h_In h_Dice h_Room h_Shots
 subst h_Body h_In h_Dice h_Room h_Shots
 rfl
def Y0c.zero: Y0c:={Body:=Q0a.zero,In:=Z0a.zero,Dice:=0,Room:=0,Shots:=⟨.nil,[],fun _=>rfl⟩}
instance:Inhabited Y0c:=⟨Y0c.zero⟩
theorem Y0c.zcv: z51=Y0c.zero.cv:=by
 simp only[z51,Y0c.zero,Y0c.cv,Q0a.zcv,Z0a.zcv,List.map_replicate,Lst.cv,List.map_nil]
theorem Y0c.shape(x:Y0c): x.cv.shape=sh51:=by simp only[Y0c.cv,sh51,CV.shape,CV.shapes,Q0a.shape,Z0a.shape,Lst.shape]
theorem Y0c.has(x:Y0c)(j:Nat): x.cv.has j ↔ x.Shots.tl=.own j:=by simp[Y0c.cv,CV.has,CV.hasL,Q0a.nohas,Z0a.nohas,Lst.has _ Q0a.nohas]
theorem Y0c.inj{x y:Y0c}(h:x.cv=y.cv): x=y:=by
 simp only[Y0c.cv,CV.agg.injEq,List.cons.injEq,and_true]at h
 obtain⟨h0,h1,h2,h3,h4⟩:=h
 refine Y0c.ext' (Q0a.injF _ _ h0) (Z0a.injF _ _ h1) (U_inj _ _ h2) (I_inj _ _ h3) ((Lst.injF Q0a.injF) _ _ h4)
theorem Y0c.injF(x y:Y0c)(h:x.cv=y.cv): x=y:=Y0c.inj h
theorem Y0c.inj_iff(x y:Y0c): x.cv=y.cv ↔ x=y:=⟨Y0c.inj,fun h=>by rw[h]⟩
theorem Y0c.shOk(x:Y0c): Cl.shOk x.cv sh51=true:=Z0m (Y0c.shape x) rfl
def Y0c.upd_0(x:Y0c)(v:CV): CV:=.agg [v,Z0a.cv x.In,U x.Dice,I x.Room,(Lst.cv Q0a.cv) x.Shots]
theorem Y0c.fold_0(x:Y0c)(y:Q0a): Y0c.upd_0 x (Q0a.cv y)=({x with Body:=y}:Y0c).cv:=rfl
theorem Y0c.fld_0(x:Y0c): qfield C 51 x.cv 0=some (Q0a.cv x.Body):=Z0d C tt51 (Y0c.shape x) rfl tt34 rfl (Q0a.shOk _)
def Y0c.upd_1(x:Y0c)(v:CV): CV:=.agg [Q0a.cv x.Body,v,U x.Dice,I x.Room,(Lst.cv Q0a.cv) x.Shots]
theorem Y0c.fold_1(x:Y0c)(y:Z0a): Y0c.upd_1 x (Z0a.cv y)=({x with In:=y}:Y0c).cv:=rfl
theorem Y0c.fld_1(x:Y0c): qfield C 51 x.cv 1=some (Z0a.cv x.In):=Z0d C tt51 (Y0c.shape x) rfl tt36 rfl (Z0a.shOk _)
def Y0c.upd_2(x:Y0c)(v:CV): CV:=.agg [Q0a.cv x.Body,Z0a.cv x.In,v,I x.Room,(Lst.cv Q0a.cv) x.Shots]
def Y0c.upd_3(x:Y0c)(v:CV): CV:=.agg [Q0a.cv x.Body,Z0a.cv x.In,U x.Dice,v,(Lst.cv Q0a.cv) x.Shots]
theorem Y0c.foldQ1(x:Y0c)(y:Int): Y0c.upd_2 x (U y)=({x with Dice:=y}:Y0c).cv/\Y0c.upd_3 x (I y)=({x with Room:=y}:Y0c).cv:=⟨rfl,rfl⟩
theorem Y0c.atQ1(x:Y0c)(q:List Nat): x.cv.at (0::q)=(Q0a.cv x.Body).at q/\x.cv.at (1::q)=(Z0a.cv x.In).at q/\x.cv.at (2::q)=(U x.Dice).at q/\x.cv.at (3::q)=(I x.Room).at q/\x.cv.at (4::q)=((Lst.cv Q0a.cv) x.Shots).at q:=⟨rfl,rfl,rfl,rfl,rfl⟩
def Y0c.upd_4(x:Y0c)(v:CV): CV:=.agg [Q0a.cv x.Body,Z0a.cv x.In,U x.Dice,I x.Room,v]
theorem Y0c.setQ1(x:Y0c)(q:List Nat)(v:CV): x.cv.set (0::q) v=Y0c.upd_0 x ((Q0a.cv x.Body).set q v)/\x.cv.set (1::q) v=Y0c.upd_1 x ((Z0a.cv x.In).set q v)/\x.cv.set (2::q) v=Y0c.upd_2 x ((U x.Dice).set q v)/\x.cv.set (3::q) v=Y0c.upd_3 x ((I x.Room).set q v)/\x.cv.set (4::q) v=Y0c.upd_4 x (((Lst.cv Q0a.cv) x.Shots).set q v):=⟨rfl,rfl,rfl,rfl,rfl⟩
theorem Y0c.fold_4(x:Y0c)(y:Lst Q0a): Y0c.upd_4 x ((Lst.cv Q0a.cv) y)=({x with Shots:=y}:Y0c).cv:=rfl
theorem Y0c.fldQ1(x:Y0c): qfield C 51 x.cv 2=some (U x.Dice)/\qfield C 51 x.cv 3=some (I x.Room)/\qfield C 51 x.cv 4=some ((Lst.cv Q0a.cv) x.Shots):=⟨Z0d C tt51 (Y0c.shape x) rfl tt25 rfl rfl,Z0d C tt51 (Y0c.shape x) rfl tt3 rfl rfl,Z0d C tt51 (Y0c.shape x) rfl tt37 rfl rfl⟩
theorem Y0c.subQ1(q:List Nat)(z:Shape): subEq sh51 (0::q) z=subEq sh34 q z/\subEq sh51 (1::q) z=subEq sh36 q z/\subEq sh51 (2::q) z=subEq sh25 q z/\subEq sh51 (3::q) z=subEq sh3 q z/\subEq sh51 (4::q) z=subEq sh37 q z:=⟨rfl,rfl,rfl,rfl,rfl⟩
theorem Y0c.sub_nil: subEq sh51 [] sh51=true:=by simp[subEq,Shape.sub]
theorem Y0c.alloc: allocObj C (.alloc 51)=some (.var sh51 Y0c.zero.cv):=by simp only[allocObj,tt51,ti51,Y0c.zcv]
theorem Y0c.xalloc(p:Hp): xalloc C p 51=.ret (.ptr p.n []) (p.new (.var sh51 Y0c.zero.cv)):=by simp only[Cl.xalloc,tt51,ti51,Y0c.zcv]
theorem Y0c.xbox(p:Hp)(x:Y0c): xbox C p 51 x.cv=.ret (.ptr p.n []) (p.new (.var sh51 x.cv)):=by
 have h:Cl.shOk x.cv ti51.sh=true:=Y0c.shOk x
 simp only[Cl.xbox,tt51,h,cond_true];rfl
theorem Y0c.bld_0_1_2_3(a0:Q0a)(a1:Z0a)(a2:Int)(a3:Int): qbuild C 51 [(0,Q0a.cv a0),(1,Z0a.cv a1),(2,U a2),(3,I a3)]=some (({Body:=a0,In:=a1,Dice:=a2,Room:=a3,Shots:=⟨.nil,[],fun _=>rfl⟩}:Y0c).cv):=Z0f C tt51 (by simp only[partsOk,setAll,CV.shape,Q0a.shape,Z0a.shape,sh51,List.all_cons,List.all_nil,List.getElem?_cons_zero,List.getElem?_cons_succ,Bool.and_true,decide_true]) rfl
structure Y0a where
 Players:Int
 Period:Int
 Grace:Int
 Start:Int
 Frames:Int
 Seed:Int
 Rate:Int
 Rules:Lst X0b
def Y0a.cv(x:Y0a): CV:=.agg [I x.Players,I x.Period,I x.Grace,I x.Start,I x.Frames,I x.Seed,I x.Rate,(Lst.cv X0b.cv) x.Rules]
@[ext] theorem Y0a.ext'{x y:Y0a}(h_Players:x.Players=y.Players)(h_Period:x.Period=y.Period)(h_Grace:x.Grace=y.Grace)(h_Start:x.Start=y.Start)(h_Frames:x.Frames=y.Frames)(h_Seed:x.Seed=y.Seed)(h_Rate:x.Rate=y.Rate)(h_Rules:x.Rules=y.Rules): x=y:=by
 obtain⟨a0,a1,a2,a3,a4,a5,a6,a7⟩:=x
 obtain⟨c0,c1,c2,c3,c4,c5,c6,c7⟩:=y
 simp only at h_Players h_Period h_Grace h_Start h_Frames h_Seed h_Rate h_Rules
 subst h_Players h_Period h_Grace h_Start h_Frames h_Seed h_Rate h_Rules
 rfl
def Y0a.zero: Y0a:={Players:=0,Period:=0,Grace:=0,Start:=0,Frames:=0,Seed:=0,Rate:=0,Rules:=⟨.nil,[],fun _=>rfl⟩}
instance:Inhabited Y0a:=⟨Y0a.zero⟩
theorem Y0a.zcv: z57=Y0a.zero.cv:=by
 simp only[z57,Y0a.zero,Y0a.cv,List.map_replicate,Lst.cv,List.map_nil]
theorem Y0a.shape(x:Y0a): x.cv.shape=sh57:=by simp only[Y0a.cv,sh57,CV.shape,CV.shapes,Lst.shape]
theorem Y0a.has(x:Y0a)(j:Nat): x.cv.has j ↔ x.Rules.tl=.own j:=by simp[Y0a.cv,CV.has,CV.hasL,Lst.has _ X0b.nohas]
theorem Y0a.inj{x y:Y0a}(h:x.cv=y.cv): x=y:=by
 simp only[Y0a.cv,CV.agg.injEq,List.cons.injEq,and_true]at h
 obtain⟨h0,h1,h2,h3,h4,h5,h6,h7⟩:=h
 refine Y0a.ext' (I_inj _ _ h0) (I_inj _ _ h1) (I_inj _ _ h2) (I_inj _ _ h3) (I_inj _ _ h4) (I_inj _ _ h5) (I_inj _ _ h6) ((Lst.injF X0b.injF) _ _ h7)
theorem Y0a.injF(x y:Y0a)(h:x.cv=y.cv): x=y:=Y0a.inj h
theorem Y0a.inj_iff(x y:Y0a): x.cv=y.cv ↔ x=y:=⟨Y0a.inj,fun h=>by rw[h]⟩
theorem Y0a.shOk(x:Y0a): Cl.shOk x.cv sh57=true:=Z0m (Y0a.shape x) rfl
def Y0a.upd_0(x:Y0a)(v:CV): CV:=.agg [v,I x.Period,I x.Grace,I x.Start,I x.Frames,I x.Seed,I x.Rate,(Lst.cv X0b.cv) x.Rules]
def Y0a.upd_1(x:Y0a)(v:CV): CV:=.agg [I x.Players,v,I x.Grace,I x.Start,I x.Frames,I x.Seed,I x.Rate,(Lst.cv X0b.cv) x.Rules]
def Y0a.upd_2(x:Y0a)(v:CV): CV:=.agg [I x.Players,I x.Period,v,I x.Start,I x.Frames,I x.Seed,I x.Rate,(Lst.cv X0b.cv) x.Rules]
def Y0a.upd_3(x:Y0a)(v:CV): CV:=.agg [I x.Players,I x.Period,I x.Grace,v,I x.Frames,I x.Seed,I x.Rate,(Lst.cv X0b.cv) x.Rules]
def Y0a.upd_4(x:Y0a)(v:CV): CV:=.agg [I x.Players,I x.Period,I x.Grace,I x.Start,v,I x.Seed,I x.Rate,(Lst.cv X0b.cv) x.Rules]
def Y0a.upd_5(x:Y0a)(v:CV): CV:=.agg [I x.Players,I x.Period,I x.Grace,I x.Start,I x.Frames,v,I x.Rate,(Lst.cv X0b.cv) x.Rules]
def Y0a.upd_6(x:Y0a)(v:CV): CV:=.agg [I x.Players,I x.Period,I x.Grace,I x.Start,I x.Frames,I x.Seed,v,(Lst.cv X0b.cv) x.Rules]
theorem Y0a.foldQ1(x:Y0a)(y:Int): Y0a.upd_0 x (I y)=({x with Players:=y}:Y0a).cv/\Y0a.upd_1 x (I y)=({x with Period:=y}:Y0a).cv/\Y0a.upd_2 x (I y)=({x with Grace:=y}:Y0a).cv/\Y0a.upd_3 x (I y)=({x with Start:=y}:Y0a).cv/\Y0a.upd_4 x (I y)=({x with Frames:=y}:Y0a).cv/\Y0a.upd_5 x (I y)=({x with Seed:=y}:Y0a).cv/\Y0a.upd_6 x (I y)=({x with Rate:=y}:Y0a).cv:=⟨rfl,rfl,rfl,rfl,rfl,rfl,rfl⟩
theorem Y0a.atQ1(x:Y0a)(q:List Nat): x.cv.at (0::q)=(I x.Players).at q/\x.cv.at (1::q)=(I x.Period).at q/\x.cv.at (2::q)=(I x.Grace).at q/\x.cv.at (3::q)=(I x.Start).at q/\x.cv.at (4::q)=(I x.Frames).at q/\x.cv.at (5::q)=(I x.Seed).at q/\x.cv.at (6::q)=(I x.Rate).at q/\x.cv.at (7::q)=((Lst.cv X0b.cv) x.Rules).at q:=⟨rfl,rfl,rfl,rfl,rfl,rfl,rfl,rfl⟩
def Y0a.upd_7(x:Y0a)(v:CV): CV:=.agg [I x.Players,I x.Period,I x.Grace,I x.Start,I x.Frames,I x.Seed,I x.Rate,v]
theorem Y0a.setQ1(x:Y0a)(q:List Nat)(v:CV): x.cv.set (0::q) v=Y0a.upd_0 x ((I x.Players).set q v)/\x.cv.set (1::q) v=Y0a.upd_1 x ((I x.Period).set q v)/\x.cv.set (2::q) v=Y0a.upd_2 x ((I x.Grace).set q v)/\x.cv.set (3::q) v=Y0a.upd_3 x ((I x.Start).set q v)/\x.cv.set (4::q) v=Y0a.upd_4 x ((I x.Frames).set q v)/\x.cv.set (5::q) v=Y0a.upd_5 x ((I x.Seed).set q v)/\x.cv.set (6::q) v=Y0a.upd_6 x ((I x.Rate).set q v)/\x.cv.set (7::q) v=Y0a.upd_7 x (((Lst.cv X0b.cv) x.Rules).set q v):=⟨rfl,rfl,rfl,rfl,rfl,rfl,rfl,rfl⟩
theorem Y0a.fold_7(x:Y0a)(y:Lst X0b): Y0a.upd_7 x ((Lst.cv X0b.cv) y)=({x with Rules:=y}:Y0a).cv:=rfl
theorem Y0a.fldQ1(x:Y0a): qfield C 57 x.cv 0=some (I x.Players)/\qfield C 57 x.cv 1=some (I x.Period)/\qfield C 57 x.cv 2=some (I x.Grace)/\qfield C 57 x.cv 3=some (I x.Start)/\qfield C 57 x.cv 4=some (I x.Frames)/\qfield C 57 x.cv 5=some (I x.Seed)/\qfield C 57 x.cv 6=some (I x.Rate)/\qfield C 57 x.cv 7=some ((Lst.cv X0b.cv) x.Rules):=⟨Z0d C tt57 (Y0a.shape x) rfl tt3 rfl rfl,Z0d C tt57 (Y0a.shape x) rfl tt3 rfl rfl,Z0d C tt57 (Y0a.shape x) rfl tt3 rfl rfl,Z0d C tt57 (Y0a.shape x) rfl tt3 rfl rfl,Z0d C tt57 (Y0a.shape x) rfl tt3 rfl rfl,Z0d C tt57 (Y0a.shape x) rfl tt3 rfl rfl,Z0d C tt57 (Y0a.shape x) rfl tt3 rfl rfl,Z0d C tt57 (Y0a.shape x) rfl tt22 rfl rfl⟩
theorem Y0a.subQ1(q:List Nat)(z:Shape): subEq sh57 (0::q) z=subEq sh3 q z/\subEq sh57 (1::q) z=subEq sh3 q z/\subEq sh57 (2::q) z=subEq sh3 q z/\subEq sh57 (3::q) z=subEq sh3 q z/\subEq sh57 (4::q) z=subEq sh3 q z/\subEq sh57 (5::q) z=subEq sh3 q z/\subEq sh57 (6::q) z=subEq sh3 q z/\subEq sh57 (7::q) z=subEq sh22 q z:=⟨rfl,rfl,rfl,rfl,rfl,rfl,rfl,rfl⟩
theorem Y0a.sub_nil: subEq sh57 [] sh57=true:=by simp[subEq,Shape.sub]
theorem Y0a.alloc: allocObj C (.alloc 57)=some (.var sh57 Y0a.zero.cv):=by simp only[allocObj,tt57,ti57,Y0a.zcv]
theorem Y0a.xalloc(p:Hp): xalloc C p 57=.ret (.ptr p.n []) (p.new (.var sh57 Y0a.zero.cv)):=by simp only[Cl.xalloc,tt57,ti57,Y0a.zcv]
theorem Y0a.xbox(p:Hp)(x:Y0a): xbox C p 57 x.cv=.ret (.ptr p.n []) (p.new (.var sh57 x.cv)):=by
 have h:Cl.shOk x.cv ti57.sh=true:=Y0a.shOk x
 simp only[Cl.xbox,tt57,h,cond_true];rfl
structure X0a where
 Players:Int
 Period:Int
 Grace:Int
 Start:Int
 Frames:Int
 Seed:Int
 Rate:Nat
 Depth:Nat
 Rules:Lst Z0b
 Tokens:Lst Int
def X0a.cv(x:X0a): CV:=.agg [I x.Players,I x.Period,I x.Grace,I x.Start,I x.Frames,I x.Seed,Fl x.Rate,Fl x.Depth,(Lst.cv Z0b.cv) x.Rules,(Lst.cv I) x.Tokens]
@[ext] theorem X0a.ext'{x y:X0a}(h_Players:x.Players=y.Players)(h_Period:x.Period=y.Period)(h_Grace:x.Grace=y.Grace)(h_Start:x.Start=y.Start)(h_Frames:x.Frames=y.Frames)(h_Seed:x.Seed=y.Seed)(h_Rate:x.Rate=y.Rate)(h_Depth:x.Depth=y.Depth)(h_Rules:x.Rules=y.Rules)(h_Tokens:x.Tokens=y.Tokens): x=y:=by
 obtain⟨a0,a1,a2,a3,a4,a5,a6,a7,a8,a9⟩:=x
 obtain⟨c0,c1,c2,c3,c4,c5,c6,c7,c8,c9⟩:=y
 simp only at h_Players h_Period h_Grace h_Start h_Frames h_Seed h_Rate h_Depth h_Rules h_Tokens
 subst h_Players h_Period h_Grace h_Start h_Frames h_Seed h_Rate h_Depth h_Rules h_Tokens
 rfl
def X0a.zero: X0a:={Players:=0,Period:=0,Grace:=0,Start:=0,Frames:=0,Seed:=0,Rate:=0,Depth:=0,Rules:=⟨.nil,[],fun _=>rfl⟩,Tokens:=⟨.nil,[],fun _=>rfl⟩}
instance:Inhabited X0a:=⟨X0a.zero⟩
theorem X0a.zcv: z61=X0a.zero.cv:=by
 simp only[z61,X0a.zero,X0a.cv,List.map_replicate,Lst.cv,List.map_nil]
theorem X0a.shape(x:X0a): x.cv.shape=sh61:=by simp only[X0a.cv,sh61,CV.shape,CV.shapes,Lst.shape]
theorem X0a.has(x:X0a)(j:Nat): x.cv.has j ↔ x.Rules.tl=.own j\/x.Tokens.tl=.own j:=by simp[X0a.cv,CV.has,CV.hasL,Lst.has _ Z0b.nohas,Lst.has _ I_has]
theorem X0a.inj{x y:X0a}(h:x.cv=y.cv): x=y:=by
 simp only[X0a.cv,CV.agg.injEq,List.cons.injEq,and_true]at h
 obtain⟨h0,h1,h2,h3,h4,h5,h6,h7,h8,h9⟩:=h
 refine X0a.ext' (I_inj _ _ h0) (I_inj _ _ h1) (I_inj _ _ h2) (I_inj _ _ h3) (I_inj _ _ h4) (I_inj _ _ h5) (Fl_inj _ _ h6) (Fl_inj _ _ h7) ((Lst.injF Z0b.injF) _ _ h8) ((Lst.injF I_inj) _ _ h9)
theorem X0a.injF(x y:X0a)(h:x.cv=y.cv): x=y:=X0a.inj h
theorem X0a.inj_iff(x y:X0a): x.cv=y.cv ↔ x=y:=⟨X0a.inj,fun h=>by rw[h]⟩
theorem X0a.shOk(x:X0a): Cl.shOk x.cv sh61=true:=Z0m (X0a.shape x) rfl
def X0a.upd_0(x:X0a)(v:CV): CV:=.agg [v,I x.Period,I x.Grace,I x.Start,I x.Frames,I x.Seed,Fl x.Rate,Fl x.Depth,(Lst.cv Z0b.cv) x.Rules,(Lst.cv I) x.Tokens]
def X0a.upd_1(x:X0a)(v:CV): CV:=.agg [I x.Players,v,I x.Grace,I x.Start,I x.Frames,I x.Seed,Fl x.Rate,Fl x.Depth,(Lst.cv Z0b.cv) x.Rules,(Lst.cv I) x.Tokens]
def X0a.upd_2(x:X0a)(v:CV): CV:=.agg [I x.Players,I x.Period,v,I x.Start,I x.Frames,I x.Seed,Fl x.Rate,Fl x.Depth,(Lst.cv Z0b.cv) x.Rules,(Lst.cv I) x.Tokens]
def X0a.upd_3(x:X0a)(v:CV): CV:=.agg [I x.Players,I x.Period,I x.Grace,v,I x.Frames,I x.Seed,Fl x.Rate,Fl x.Depth,(Lst.cv Z0b.cv) x.Rules,(Lst.cv I) x.Tokens]
def X0a.upd_4(x:X0a)(v:CV): CV:=.agg [I x.Players,I x.Period,I x.Grace,I x.Start,v,I x.Seed,Fl x.Rate,Fl x.Depth,(Lst.cv Z0b.cv) x.Rules,(Lst.cv I) x.Tokens]
def X0a.upd_5(x:X0a)(v:CV): CV:=.agg [I x.Players,I x.Period,I x.Grace,I x.Start,I x.Frames,v,Fl x.Rate,Fl x.Depth,(Lst.cv Z0b.cv) x.Rules,(Lst.cv I) x.Tokens]
theorem X0a.foldQ1(x:X0a)(y:Int): X0a.upd_0 x (I y)=({x with Players:=y}:X0a).cv/\X0a.upd_1 x (I y)=({x with Period:=y}:X0a).cv/\X0a.upd_2 x (I y)=({x with Grace:=y}:X0a).cv/\X0a.upd_3 x (I y)=({x with Start:=y}:X0a).cv/\X0a.upd_4 x (I y)=({x with Frames:=y}:X0a).cv/\X0a.upd_5 x (I y)=({x with Seed:=y}:X0a).cv:=⟨rfl,rfl,rfl,rfl,rfl,rfl⟩
def X0a.upd_6(x:X0a)(v:CV): CV:=.agg [I x.Players,I x.Period,I x.Grace,I x.Start,I x.Frames,I x.Seed,v,Fl x.Depth,(Lst.cv Z0b.cv) x.Rules,(Lst.cv I) x.Tokens]
def X0a.upd_7(x:X0a)(v:CV): CV:=.agg [I x.Players,I x.Period,I x.Grace,I x.Start,I x.Frames,I x.Seed,Fl x.Rate,v,(Lst.cv Z0b.cv) x.Rules,(Lst.cv I) x.Tokens]
theorem X0a.foldQ2(x:X0a)(y:Nat): X0a.upd_6 x (Fl y)=({x with Rate:=y}:X0a).cv/\X0a.upd_7 x (Fl y)=({x with Depth:=y}:X0a).cv:=⟨rfl,rfl⟩
def X0a.upd_8(x:X0a)(v:CV): CV:=.agg [I x.Players,I x.Period,I x.Grace,I x.Start,I x.Frames,I x.Seed,Fl x.Rate,Fl x.Depth,v,(Lst.cv I) x.Tokens]
theorem X0a.fold_8(x:X0a)(y:Lst Z0b): X0a.upd_8 x ((Lst.cv Z0b.cv) y)=({x with Rules:=y}:X0a).cv:=rfl
theorem X0a.atQ1(x:X0a)(q:List Nat): x.cv.at (0::q)=(I x.Players).at q/\x.cv.at (1::q)=(I x.Period).at q/\x.cv.at (2::q)=(I x.Grace).at q/\x.cv.at (3::q)=(I x.Start).at q/\x.cv.at (4::q)=(I x.Frames).at q/\x.cv.at (5::q)=(I x.Seed).at q/\x.cv.at (6::q)=(Fl x.Rate).at q/\x.cv.at (7::q)=(Fl x.Depth).at q/\x.cv.at (8::q)=((Lst.cv Z0b.cv) x.Rules).at q/\x.cv.at (9::q)=((Lst.cv I) x.Tokens).at q:=⟨rfl,rfl,rfl,rfl,rfl,rfl,rfl,rfl,rfl,rfl⟩
def X0a.upd_9(x:X0a)(v:CV): CV:=.agg [I x.Players,I x.Period,I x.Grace,I x.Start,I x.Frames,I x.Seed,Fl x.Rate,Fl x.Depth,(Lst.cv Z0b.cv) x.Rules,v]
theorem X0a.setQ1(x:X0a)(q:List Nat)(v:CV): x.cv.set (0::q) v=X0a.upd_0 x ((I x.Players).set q v)/\x.cv.set (1::q) v=X0a.upd_1 x ((I x.Period).set q v)/\x.cv.set (2::q) v=X0a.upd_2 x ((I x.Grace).set q v)/\x.cv.set (3::q) v=X0a.upd_3 x ((I x.Start).set q v)/\x.cv.set (4::q) v=X0a.upd_4 x ((I x.Frames).set q v)/\x.cv.set (5::q) v=X0a.upd_5 x ((I x.Seed).set q v)/\x.cv.set (6::q) v=X0a.upd_6 x ((Fl x.Rate).set q v)/\x.cv.set (7::q) v=X0a.upd_7 x ((Fl x.Depth).set q v)/\x.cv.set (8::q) v=X0a.upd_8 x (((Lst.cv Z0b.cv) x.Rules).set q v)/\x.cv.set (9::q) v=X0a.upd_9 x (((Lst.cv I) x.Tokens).set q v):=⟨rfl,rfl,rfl,rfl,rfl,rfl,rfl,rfl,rfl,rfl⟩
theorem X0a.fold_9(x:X0a)(y:Lst Int): X0a.upd_9 x ((Lst.cv I) y)=({x with Tokens:=y}:X0a).cv:=rfl
theorem X0a.fldQ1(x:X0a): qfield C 61 x.cv 0=some (I x.Players)/\qfield C 61 x.cv 1=some (I x.Period)/\qfield C 61 x.cv 2=some (I x.Grace)/\qfield C 61 x.cv 3=some (I x.Start)/\qfield C 61 x.cv 4=some (I x.Frames)/\qfield C 61 x.cv 5=some (I x.Seed)/\qfield C 61 x.cv 6=some (Fl x.Rate)/\qfield C 61 x.cv 7=some (Fl x.Depth)/\qfield C 61 x.cv 8=some ((Lst.cv Z0b.cv) x.Rules)/\qfield C 61 x.cv 9=some ((Lst.cv I) x.Tokens):=⟨Z0d C tt61 (X0a.shape x) rfl tt3 rfl rfl,Z0d C tt61 (X0a.shape x) rfl tt3 rfl rfl,Z0d C tt61 (X0a.shape x) rfl tt3 rfl rfl,Z0d C tt61 (X0a.shape x) rfl tt3 rfl rfl,Z0d C tt61 (X0a.shape x) rfl tt3 rfl rfl,Z0d C tt61 (X0a.shape x) rfl tt3 rfl rfl,Z0d C tt61 (X0a.shape x) rfl tt59 rfl rfl,Z0d C tt61 (X0a.shape x) rfl tt59 rfl rfl,Z0d C tt61 (X0a.shape x) rfl tt23 rfl rfl,Z0d C tt61 (X0a.shape x) rfl tt24 rfl rfl⟩
theorem X0a.subQ1(q:List Nat)(z:Shape): subEq sh61 (0::q) z=subEq sh3 q z/\subEq sh61 (1::q) z=subEq sh3 q z/\subEq sh61 (2::q) z=subEq sh3 q z/\subEq sh61 (3::q) z=subEq sh3 q z/\subEq sh61 (4::q) z=subEq sh3 q z/\subEq sh61 (5::q) z=subEq sh3 q z/\subEq sh61 (6::q) z=subEq sh59 q z/\subEq sh61 (7::q) z=subEq sh59 q z/\subEq sh61 (8::q) z=subEq sh23 q z/\subEq sh61 (9::q) z=subEq sh24 q z:=⟨rfl,rfl,rfl,rfl,rfl,rfl,rfl,rfl,rfl,rfl⟩
theorem X0a.sub_nil: subEq sh61 [] sh61=true:=by simp[subEq,Shape.sub]
theorem X0a.alloc: allocObj C (.alloc 61)=some (.var sh61 X0a.zero.cv):=by simp only[allocObj,tt61,ti61,X0a.zcv]
theorem X0a.xalloc(p:Hp): xalloc C p 61=.ret (.ptr p.n []) (p.new (.var sh61 X0a.zero.cv)):=by simp only[Cl.xalloc,tt61,ti61,X0a.zcv]
theorem X0a.xbox(p:Hp)(x:X0a): xbox C p 61 x.cv=.ret (.ptr p.n []) (p.new (.var sh61 x.cv)):=by
 have h:Cl.shOk x.cv ti61.sh=true:=X0a.shOk x
 simp only[Cl.xbox,tt61,h,cond_true];rfl
theorem X0a.bld_0_1_2_3_4_5(a0:Int)(a1:Int)(a2:Int)(a3:Int)(a4:Int)(a5:Int): qbuild C 61 [(0,I a0),(1,I a1),(2,I a2),(3,I a3),(4,I a4),(5,I a5)]=some (({Players:=a0,Period:=a1,Grace:=a2,Start:=a3,Frames:=a4,Seed:=a5,Rate:=0,Depth:=0,Rules:=⟨.nil,[],fun _=>rfl⟩,Tokens:=⟨.nil,[],fun _=>rfl⟩}:X0a).cv):=Z0f C tt61 (by simp only[partsOk,setAll,CV.shape,sh61,List.all_cons,List.all_nil,List.getElem?_cons_zero,List.getElem?_cons_succ,Bool.and_true,decide_true]) rfl
theorem X0a.bld_0_1_4_6_7_8(a0:Int)(a1:Int)(a4:Int)(a6:Nat)(a7:Nat)(a8:Lst Z0b): qbuild C 61 [(0,I a0),(1,I a1),(4,I a4),(6,Fl a6),(7,Fl a7),(8,(Lst.cv Z0b.cv) a8)]=some (({Players:=a0,Period:=a1,Grace:=0,Start:=0,Frames:=a4,Seed:=0,Rate:=a6,Depth:=a7,Rules:=a8,Tokens:=⟨.nil,[],fun _=>rfl⟩}:X0a).cv):=Z0f C tt61 (by simp only[partsOk,setAll,CV.shape,Lst.shape,sh61,List.all_cons,List.all_nil,List.getElem?_cons_zero,List.getElem?_cons_succ,Bool.and_true,decide_true]) rfl
theorem X0a.bld_0_1_4_6_7_9(a0:Int)(a1:Int)(a4:Int)(a6:Nat)(a7:Nat)(a9:Lst Int): qbuild C 61 [(0,I a0),(1,I a1),(4,I a4),(6,Fl a6),(7,Fl a7),(9,(Lst.cv I) a9)]=some (({Players:=a0,Period:=a1,Grace:=0,Start:=0,Frames:=a4,Seed:=0,Rate:=a6,Depth:=a7,Rules:=⟨.nil,[],fun _=>rfl⟩,Tokens:=a9}:X0a).cv):=Z0f C tt61 (by simp only[partsOk,setAll,CV.shape,Lst.shape,sh61,List.all_cons,List.all_nil,List.getElem?_cons_zero,List.getElem?_cons_succ,Bool.and_true,decide_true]) rfl
structure V0a where
 Frame:Int
 Dice:Int
 Bodies:List Q0a
 hBodies:Bodies.length=16
 Score:List Int
 hScore:Score.length=8
def V0a.cv(x:V0a): CV:=.agg [I x.Frame,U x.Dice,.agg (x.Bodies.map Q0a.cv),.agg (x.Score.map I)]
@[ext] theorem V0a.ext'{x y:V0a}(h_Frame:x.Frame=y.Frame)(h_Dice:x.Dice=y.Dice)(h_Bodies:x.Bodies=y.Bodies)(h_Score:x.Score=y.Score): x=y:=by
 obtain⟨a0,a1,a2,ha,a3,ha⟩:=x
 obtain⟨c0,c1,c2,hc,c3,hc⟩:=y
 simp only at h_Frame h_Dice h_Bodies h_Score
 subst h_Frame h_Dice h_Bodies h_Score
 rfl
def V0a.zero: V0a:={Frame:=0,Dice:=0,Bodies:=(List.replicate 16 Q0a.zero),hBodies:=List.length_replicate,Score:=(List.replicate 8 0),hScore:=List.length_replicate}
instance:Inhabited V0a:=⟨V0a.zero⟩
theorem V0a.zcv: z66=V0a.zero.cv:=by
 simp only[z66,V0a.zero,V0a.cv,z63,Q0a.zcv,z64,List.map_replicate,Lst.cv,List.map_nil]
theorem V0a.shape(x:V0a): x.cv.shape=sh66:=by simp only[V0a.cv,sh66,CV.shape,CV.shapes,Lst.shape,Z0h (f:=Q0a.cv) Q0a.shape,x.hBodies,sh63,Z0h (f:=I) (s:=Shape.s) (fun _=>rfl),x.hScore,sh64]
theorem V0a.nohas(x:V0a)(j:Nat): ¬x.cv.has j:=by simp[V0a.cv,CV.has,CV.hasL,X0m Q0a.nohas,X0m I_has]
instance:DecidableEq V0a:=fun x y=>decidable_of_iff (x.Frame=y.Frame/\x.Dice=y.Dice/\x.Bodies=y.Bodies/\x.Score=y.Score) ⟨fun h=>V0a.ext' h.1 h.2.1 h.2.2.1 h.2.2.2,fun h=>by subst h;simp⟩
theorem V0a.inj{x y:V0a}(h:x.cv=y.cv): x=y:=by
 simp only[V0a.cv,CV.agg.injEq,List.cons.injEq,and_true]at h
 obtain⟨h0,h1,h2,h3⟩:=h
 refine V0a.ext' (I_inj _ _ h0) (U_inj _ _ h1) (V1l Q0a.injF h2) (V1l I_inj h3)
theorem V0a.injF(x y:V0a)(h:x.cv=y.cv): x=y:=V0a.inj h
theorem V0a.inj_iff(x y:V0a): x.cv=y.cv ↔ x=y:=⟨V0a.inj,fun h=>by rw[h]⟩
theorem V0a.shOk(x:V0a): Cl.shOk x.cv sh66=true:=Z0m (V0a.shape x) rfl
theorem V0a.eq(d:Nat)(x y:V0a): eqCV C (d+5) 66 x.cv y.cv=some (decide (x=y)):=by
 refine(Z0z C (d:=d+4) tt66 (V0a.shape x) (V0a.shape y) (X0g (K0h C tt3 (d+3) _ _) (X0g (K0h C tt25 (d+3) _ _) (X0g (eqCV_ar C (g:=Q0a.cv) (d:=d+3) tt63 rfl Q0a.shape x.hBodies y.hBodies (fun a b=>Q0a.eq (d+0) a b)) (X0g (eqCV_ar C (g:=I) (d:=d+3) tt64 rfl (fun _=>rfl) x.hScore y.hScore (K0h C tt3 (d+2))) rfl))))).trans (congrArg some ?_)
 rw[Bool.eq_iff_iff]
 simp only[Bool.and_eq_true,decide_eq_true_eq,and_true]
 exact⟨fun h=>V0a.ext' h.1 h.2.1 h.2.2.1 h.2.2.2,fun h=>by subst h;simp⟩
theorem V0a.eql(x y:V0a)(b:Bool): qbin C .eql 66 b x.cv y.cv=some (Bo (decide (x=y))):=by
 have h:=V0a.eq 7 x y
 unfold V0a.cv at h ⊢
 simp only[qbin]
 rw[h];rfl
theorem V0a.neq(x y:V0a)(b:Bool): qbin C .neq 66 b x.cv y.cv=some (Bo (!decide (x=y))):=by
 have h:=V0a.eq 7 x y
 unfold V0a.cv at h ⊢
 simp only[qbin]
 rw[h];rfl
def V0a.upd_0(x:V0a)(v:CV): CV:=.agg [v,U x.Dice,.agg (x.Bodies.map Q0a.cv),.agg (x.Score.map I)]
theorem V0a.atQ1(x:V0a)(q:List Nat): x.cv.at (0::q)=(I x.Frame).at q/\x.cv.at (1::q)=(U x.Dice).at q:=⟨rfl,rfl⟩
def V0a.upd_1(x:V0a)(v:CV): CV:=.agg [I x.Frame,v,.agg (x.Bodies.map Q0a.cv),.agg (x.Score.map I)]
theorem V0a.setQ1(x:V0a)(q:List Nat)(v:CV): x.cv.set (0::q) v=V0a.upd_0 x ((I x.Frame).set q v)/\x.cv.set (1::q) v=V0a.upd_1 x ((U x.Dice).set q v):=⟨rfl,rfl⟩
theorem V0a.foldQ1(x:V0a)(y:Int): V0a.upd_0 x (I y)=({x with Frame:=y}:V0a).cv/\V0a.upd_1 x (U y)=({x with Dice:=y}:V0a).cv:=⟨rfl,rfl⟩
theorem V0a.fldQ1(x:V0a): qfield C 66 x.cv 0=some (I x.Frame)/\qfield C 66 x.cv 1=some (U x.Dice):=⟨Z0d C tt66 (V0a.shape x) rfl tt3 rfl rfl,Z0d C tt66 (V0a.shape x) rfl tt25 rfl rfl⟩
theorem V0a.subQ1(q:List Nat)(z:Shape): subEq sh66 (0::q) z=subEq sh3 q z/\subEq sh66 (1::q) z=subEq sh25 q z:=⟨rfl,rfl⟩
theorem V0a.at_2k(x:V0a)(k:Nat)(q:List Nat)(h:k<16): x.cv.at (2::k::q)=(Q0a.cv (nth x.Bodies k)).at q:=by
 show(CV.agg (x.Bodies.map Q0a.cv)).at (k::q)=_
 exact Z1w _ (by rw[x.hBodies];exact h) q
def V0a.upd_2(x:V0a)(v:CV): CV:=.agg [I x.Frame,U x.Dice,v,.agg (x.Score.map I)]
def V0a.upd_2k(x:V0a)(k:Nat)(v:CV): CV:=.agg [I x.Frame,U x.Dice,.agg ((x.Bodies.map Q0a.cv).set k v),.agg (x.Score.map I)]
theorem V0a.set_2(x:V0a)(v:CV): x.cv.set [2] v=V0a.upd_2 x v:=by simp[V0a.cv,V0a.upd_2,CV.set,Q2b]
theorem V0a.set_2k(x:V0a)(k:Nat)(q:List Nat)(v:CV)(h:k<16): x.cv.set (2::k::q) v=V0a.upd_2k x k ((Q0a.cv (nth x.Bodies k)).set q v):=by
 have e:x.cv.set (2::k::q) v=V0a.upd_2 x ((CV.agg (x.Bodies.map Q0a.cv)).set (k::q) v):=rfl
 rw[e,Z1r _ (by rw[x.hBodies];exact h)];rfl
def V0a.put_2k(x:V0a)(k:Nat)(y:Q0a): V0a:={x with Bodies:=x.Bodies.set k y,hBodies:=by rw[List.length_set];exact x.hBodies}
theorem V0a.fold_2k(x:V0a)(k:Nat)(y:Q0a): V0a.upd_2k x k (Q0a.cv y)=(V0a.put_2k x k y).cv:=by simp only[V0a.upd_2k,V0a.put_2k,V0a.cv,List.map_set]
theorem V0a.fold_2(x:V0a)(l:List Q0a)(h:l.length=16): V0a.upd_2 x (.agg (l.map Q0a.cv))=({x with Bodies:=l,hBodies:=h}:V0a).cv:=rfl
theorem V0a.fld_2(x:V0a): qfield C 66 x.cv 2=some (.agg (x.Bodies.map Q0a.cv)):=Z0d C tt66 (V0a.shape x) rfl tt63 rfl (Z0m (sh:=sh63) (by simp only[CV.shape,Z0h (f:=Q0a.cv) Q0a.shape,x.hBodies,sh63]) rfl)
theorem V0a.sub_2k(k:Nat)(q:List Nat)(z:Shape): subEq sh66 (2::k::q) z=(decide (k<16)&&subEq sh34 q z):=Z0y 16 k q sh34 z
theorem V0a.atQ2(x:V0a): x.cv.at [2]=some (.agg (x.Bodies.map Q0a.cv))/\x.cv.at [3]=some (.agg (x.Score.map I)):=⟨rfl,rfl⟩
theorem V0a.at_3k(x:V0a)(k:Nat)(q:List Nat)(h:k<8): x.cv.at (3::k::q)=(I (nth x.Score k)).at q:=by
 show(CV.agg (x.Score.map I)).at (k::q)=_
 exact Z1w _ (by rw[x.hScore];exact h) q
def V0a.upd_3(x:V0a)(v:CV): CV:=.agg [I x.Frame,U x.Dice,.agg (x.Bodies.map Q0a.cv),v]
def V0a.upd_3k(x:V0a)(k:Nat)(v:CV): CV:=.agg [I x.Frame,U x.Dice,.agg (x.Bodies.map Q0a.cv),.agg ((x.Score.map I).set k v)]
theorem V0a.set_3(x:V0a)(v:CV): x.cv.set [3] v=V0a.upd_3 x v:=by simp[V0a.cv,V0a.upd_3,CV.set,Q2b]
theorem V0a.set_3k(x:V0a)(k:Nat)(q:List Nat)(v:CV)(h:k<8): x.cv.set (3::k::q) v=V0a.upd_3k x k ((I (nth x.Score k)).set q v):=by
 have e:x.cv.set (3::k::q) v=V0a.upd_3 x ((CV.agg (x.Score.map I)).set (k::q) v):=rfl
 rw[e,Z1r _ (by rw[x.hScore];exact h)];rfl
def V0a.put_3k(x:V0a)(k:Nat)(y:Int): V0a:={x with Score:=x.Score.set k y,hScore:=by rw[List.length_set];exact x.hScore}
theorem V0a.fold_3k(x:V0a)(k:Nat)(y:Int): V0a.upd_3k x k (I y)=(V0a.put_3k x k y).cv:=by simp only[V0a.upd_3k,V0a.put_3k,V0a.cv,List.map_set]
theorem V0a.fold_3(x:V0a)(l:List Int)(h:l.length=8): V0a.upd_3 x (.agg (l.map I))=({x with Score:=l,hScore:=h}:V0a).cv:=rfl
theorem V0a.fld_3(x:V0a): qfield C 66 x.cv 3=some (.agg (x.Score.map I)):=Z0d C tt66 (V0a.shape x) rfl tt64 rfl (Z0m (sh:=sh64) (by simp only[CV.shape,Z0h (f:=I) (s:=Shape.s) (fun _=>rfl),x.hScore,sh64]) rfl)
theorem V0a.sub_3k(k:Nat)(q:List Nat)(z:Shape): subEq sh66 (3::k::q) z=(decide (k<8)&&subEq sh3 q z):=Z0y 8 k q sh3 z
theorem V0a.subQ2(z:Shape): subEq sh66 [2] z=subEq sh63 [] z/\subEq sh66 [3] z=subEq sh64 [] z:=⟨rfl,rfl⟩
theorem V0a.sub_nil: subEq sh66 [] sh66=true:=by simp[subEq,Shape.sub]
theorem V0a.alloc: allocObj C (.alloc 66)=some (.var sh66 V0a.zero.cv):=by simp only[allocObj,tt66,ti66,V0a.zcv]
theorem V0a.xalloc(p:Hp): xalloc C p 66=.ret (.ptr p.n []) (p.new (.var sh66 V0a.zero.cv)):=by simp only[Cl.xalloc,tt66,ti66,V0a.zcv]
theorem V0a.xbox(p:Hp)(x:V0a): xbox C p 66 x.cv=.ret (.ptr p.n []) (p.new (.var sh66 x.cv)):=by
 have h:Cl.shOk x.cv ti66.sh=true:=V0a.shOk x
 simp only[Cl.xbox,tt66,h,cond_true];rfl
theorem V0a.bld_none:qbuild C 66 []=some (({Frame:=0,Dice:=0,Bodies:=(List.replicate 16 Q0a.zero),hBodies:=List.length_replicate,Score:=(List.replicate 8 0),hScore:=List.length_replicate}:V0a).cv):=Z0f C tt66 (by simp only[partsOk,setAll,CV.shape,sh66,List.all_cons,List.all_nil,List.getElem?_cons_zero,List.getElem?_cons_succ,Bool.and_true,decide_true]) rfl
theorem V0a.bld_0_1(a0:Int)(a1:Int): qbuild C 66 [(0,I a0),(1,U a1)]=some (({Frame:=a0,Dice:=a1,Bodies:=(List.replicate 16 Q0a.zero),hBodies:=List.length_replicate,Score:=(List.replicate 8 0),hScore:=List.length_replicate}:V0a).cv):=Z0f C tt66 (by simp only[partsOk,setAll,CV.shape,sh66,List.all_cons,List.all_nil,List.getElem?_cons_zero,List.getElem?_cons_succ,Bool.and_true,decide_true]) rfl
theorem V0a.bld_1(a1:Int): qbuild C 66 [(1,U a1)]=some (({Frame:=0,Dice:=a1,Bodies:=(List.replicate 16 Q0a.zero),hBodies:=List.length_replicate,Score:=(List.replicate 8 0),hScore:=List.length_replicate}:V0a).cv):=Z0f C tt66 (by simp only[partsOk,setAll,CV.shape,sh66,List.all_cons,List.all_nil,List.getElem?_cons_zero,List.getElem?_cons_succ,Bool.and_true,decide_true]) rfl
structure V0b where
 Real:Bool
 In:Z0a
def V0b.cv(x:V0b): CV:=.agg [Bo x.Real,Z0a.cv x.In]
@[ext] theorem V0b.ext'{x y:V0b}(h_Real:x.Real=y.Real)(h_In:x.In=y.In): x=y:=by
 obtain⟨a0,a1⟩:=x
 obtain⟨c0,c1⟩:=y
 simp only at h_Real h_In
 subst h_Real h_In
 rfl
def V0b.zero: V0b:={Real:=false,In:=Z0a.zero}
instance:Inhabited V0b:=⟨V0b.zero⟩
theorem V0b.zcv: z110=V0b.zero.cv:=by
 simp only[z110,V0b.zero,V0b.cv,Z0a.zcv,List.map_replicate,Lst.cv,List.map_nil]
theorem V0b.shape(x:V0b): x.cv.shape=sh110:=by simp only[V0b.cv,sh110,CV.shape,CV.shapes,Z0a.shape,Lst.shape]
theorem V0b.nohas(x:V0b)(j:Nat): ¬x.cv.has j:=by simp[V0b.cv,CV.has,CV.hasL,Z0a.nohas]
instance:DecidableEq V0b:=fun x y=>decidable_of_iff (x.Real=y.Real/\x.In=y.In) ⟨fun h=>V0b.ext' h.1 h.2,fun h=>by subst h;simp⟩
theorem V0b.inj{x y:V0b}(h:x.cv=y.cv): x=y:=by
 simp only[V0b.cv,CV.agg.injEq,List.cons.injEq,and_true]at h
 obtain⟨h0,h1⟩:=h
 refine V0b.ext' (Bo_inj _ _ h0) (Z0a.injF _ _ h1)
theorem V0b.injF(x y:V0b)(h:x.cv=y.cv): x=y:=V0b.inj h
theorem V0b.inj_iff(x y:V0b): x.cv=y.cv ↔ x=y:=⟨V0b.inj,fun h=>by rw[h]⟩
theorem V0b.shOk(x:V0b): Cl.shOk x.cv sh110=true:=Z0m (V0b.shape x) rfl
theorem V0b.eq(d:Nat)(x y:V0b): eqCV C (d+3) 110 x.cv y.cv=some (decide (x=y)):=by
 refine(Z0z C (d:=d+2) tt110 (V0b.shape x) (V0b.shape y) (X0g (eqCV_bool C tt4 (d+1) _ _) (X0g (Z0a.eq (d+0) _ _) rfl))).trans (congrArg some ?_)
 rw[Bool.eq_iff_iff]
 simp only[Bool.and_eq_true,decide_eq_true_eq,and_true]
 exact⟨fun h=>V0b.ext' h.1 h.2,fun h=>by subst h;simp⟩
theorem V0b.eql(x y:V0b)(b:Bool): qbin C .eql 110 b x.cv y.cv=some (Bo (decide (x=y))):=by
 have h:=V0b.eq 9 x y
 unfold V0b.cv at h ⊢
 simp only[qbin]
 rw[h];rfl
theorem V0b.neq(x y:V0b)(b:Bool): qbin C .neq 110 b x.cv y.cv=some (Bo (!decide (x=y))):=by
 have h:=V0b.eq 9 x y
 unfold V0b.cv at h ⊢
 simp only[qbin]
 rw[h];rfl
def V0b.upd_0(x:V0b)(v:CV): CV:=.agg [v,Z0a.cv x.In]
theorem V0b.fold_0(x:V0b)(y:Bool): V0b.upd_0 x (Bo y)=({x with Real:=y}:V0b).cv:=rfl
theorem V0b.fld_0(x:V0b): qfield C 110 x.cv 0=some (Bo x.Real):=Z0d C tt110 (V0b.shape x) rfl tt4 rfl rfl
theorem V0b.rfa_0(x:V0b)(h:Heap): qfieldAddr C h 110 (.rptr x.cv) 0=some (.rptr (Bo x.Real)):=by
 have hs:=V0b.shape x
 unfold V0b.cv at hs ⊢
 simp only[qfieldAddr,tt110,ti110,tgt,hs,if_true,List.getElem?_cons_zero,List.getElem?_cons_succ]
theorem V0b.atQ1(x:V0b)(q:List Nat): x.cv.at (0::q)=(Bo x.Real).at q/\x.cv.at (1::q)=(Z0a.cv x.In).at q:=⟨rfl,rfl⟩
def V0b.upd_1(x:V0b)(v:CV): CV:=.agg [Bo x.Real,v]
theorem V0b.setQ1(x:V0b)(q:List Nat)(v:CV): x.cv.set (0::q) v=V0b.upd_0 x ((Bo x.Real).set q v)/\x.cv.set (1::q) v=V0b.upd_1 x ((Z0a.cv x.In).set q v):=⟨rfl,rfl⟩
theorem V0b.fold_1(x:V0b)(y:Z0a): V0b.upd_1 x (Z0a.cv y)=({x with In:=y}:V0b).cv:=rfl
theorem V0b.fld_1(x:V0b): qfield C 110 x.cv 1=some (Z0a.cv x.In):=Z0d C tt110 (V0b.shape x) rfl tt36 rfl (Z0a.shOk _)
theorem V0b.rfa_1(x:V0b)(h:Heap): qfieldAddr C h 110 (.rptr x.cv) 1=some (.rptr (Z0a.cv x.In)):=by
 have hs:=V0b.shape x
 unfold V0b.cv at hs ⊢
 simp only[qfieldAddr,tt110,ti110,tgt,hs,if_true,List.getElem?_cons_zero,List.getElem?_cons_succ]
theorem V0b.subQ1(q:List Nat)(z:Shape): subEq sh110 (0::q) z=subEq sh4 q z/\subEq sh110 (1::q) z=subEq sh36 q z:=⟨rfl,rfl⟩
theorem V0b.sub_nil: subEq sh110 [] sh110=true:=by simp[subEq,Shape.sub]
theorem V0b.alloc: allocObj C (.alloc 110)=some (.var sh110 V0b.zero.cv):=by simp only[allocObj,tt110,ti110,V0b.zcv]
theorem V0b.xalloc(p:Hp): xalloc C p 110=.ret (.ptr p.n []) (p.new (.var sh110 V0b.zero.cv)):=by simp only[Cl.xalloc,tt110,ti110,V0b.zcv]
theorem V0b.xbox(p:Hp)(x:V0b): xbox C p 110 x.cv=.ret (.ptr p.n []) (p.new (.var sh110 x.cv)):=by
 have h:Cl.shOk x.cv ti110.sh=true:=V0b.shOk x
 simp only[Cl.xbox,tt110,h,cond_true];rfl
theorem V0b.bld_0(a0:Bool): qbuild C 110 [(0,Bo a0)]=some (({Real:=a0,In:=Z0a.zero}:V0b).cv):=Z0f C tt110 (by simp only[partsOk,setAll,CV.shape,sh110,List.all_cons,List.all_nil,List.getElem?_cons_zero,List.getElem?_cons_succ,Bool.and_true,decide_true]) rfl
theorem V0b.bld_0_1(a0:Bool)(a1:Z0a): qbuild C 110 [(0,Bo a0),(1,Z0a.cv a1)]=some (({Real:=a0,In:=a1}:V0b).cv):=Z0f C tt110 (by simp only[partsOk,setAll,CV.shape,Z0a.shape,sh110,List.all_cons,List.all_nil,List.getElem?_cons_zero,List.getElem?_cons_succ,Bool.and_true,decide_true]) rfl
structure Q0b where
 e_:V0d
 l_:Lst Z0b
 at_:Int
def Q0b.cv(x:Q0b): CV:=.agg [V0d.cv x.e_,(Lst.cv Z0b.cv) x.l_,I x.at_]
@[ext] theorem Q0b.ext'{x y:Q0b}(h_e_:x.e_=y.e_)(h_l_:x.l_=y.l_)(h_at_:x.at_=y.at_): x=y:=by
 obtain⟨a0,a1,a2⟩:=x
 obtain⟨c0,c1,c2⟩:=y
 simp only at h_e_ h_l_ h_at_
 subst h_e_ h_l_ h_at_
 rfl
def Q0b.zero: Q0b:={e_:=V0d.zero,l_:=⟨.nil,[],fun _=>rfl⟩,at_:=0}
instance:Inhabited Q0b:=⟨Q0b.zero⟩
theorem Q0b.zcv: z131=Q0b.zero.cv:=by
 simp only[z131,Q0b.zero,Q0b.cv,V0d.zcv,List.map_replicate,Lst.cv,List.map_nil]
theorem Q0b.shape(x:Q0b): x.cv.shape=sh131:=by simp only[Q0b.cv,sh131,CV.shape,CV.shapes,V0d.shape,Lst.shape]
theorem Q0b.has(x:Q0b)(j:Nat): x.cv.has j ↔ x.e_.cv.has j\/x.l_.tl=.own j:=by simp[Q0b.cv,CV.has,CV.hasL,Lst.has _ Z0b.nohas]
theorem Q0b.inj{x y:Q0b}(h:x.cv=y.cv): x=y:=by
 simp only[Q0b.cv,CV.agg.injEq,List.cons.injEq,and_true]at h
 obtain⟨h0,h1,h2⟩:=h
 refine Q0b.ext' (V0d.injF _ _ h0) ((Lst.injF Z0b.injF) _ _ h1) (I_inj _ _ h2)
theorem Q0b.injF(x y:Q0b)(h:x.cv=y.cv): x=y:=Q0b.inj h
theorem Q0b.inj_iff(x y:Q0b): x.cv=y.cv ↔ x=y:=⟨Q0b.inj,fun h=>by rw[h]⟩
theorem Q0b.shOk(x:Q0b): Cl.shOk x.cv sh131=true:=Z0m (Q0b.shape x) rfl
def Q0b.upd_0(x:Q0b)(v:CV): CV:=.agg [v,(Lst.cv Z0b.cv) x.l_,I x.at_]
theorem Q0b.fold_0(x:Q0b)(y:V0d): Q0b.upd_0 x (V0d.cv y)=({x with e_:=y}:Q0b).cv:=rfl
theorem Q0b.fld_0(x:Q0b): qfield C 131 x.cv 0=some (V0d.cv x.e_):=Z0d C tt131 (Q0b.shape x) rfl tt39 rfl (V0d.shOk _)
def Q0b.upd_1(x:Q0b)(v:CV): CV:=.agg [V0d.cv x.e_,v,I x.at_]
theorem Q0b.fold_1(x:Q0b)(y:Lst Z0b): Q0b.upd_1 x ((Lst.cv Z0b.cv) y)=({x with l_:=y}:Q0b).cv:=rfl
theorem Q0b.atQ1(x:Q0b)(q:List Nat): x.cv.at (0::q)=(V0d.cv x.e_).at q/\x.cv.at (1::q)=((Lst.cv Z0b.cv) x.l_).at q/\x.cv.at (2::q)=(I x.at_).at q:=⟨rfl,rfl,rfl⟩
def Q0b.upd_2(x:Q0b)(v:CV): CV:=.agg [V0d.cv x.e_,(Lst.cv Z0b.cv) x.l_,v]
theorem Q0b.setQ1(x:Q0b)(q:List Nat)(v:CV): x.cv.set (0::q) v=Q0b.upd_0 x ((V0d.cv x.e_).set q v)/\x.cv.set (1::q) v=Q0b.upd_1 x (((Lst.cv Z0b.cv) x.l_).set q v)/\x.cv.set (2::q) v=Q0b.upd_2 x ((I x.at_).set q v):=⟨rfl,rfl,rfl⟩
theorem Q0b.fold_2(x:Q0b)(y:Int): Q0b.upd_2 x (I y)=({x with at_:=y}:Q0b).cv:=rfl
theorem Q0b.fldQ1(x:Q0b): qfield C 131 x.cv 1=some ((Lst.cv Z0b.cv) x.l_)/\qfield C 131 x.cv 2=some (I x.at_):=⟨Z0d C tt131 (Q0b.shape x) rfl tt23 rfl rfl,Z0d C tt131 (Q0b.shape x) rfl tt3 rfl rfl⟩
theorem Q0b.subQ1(q:List Nat)(z:Shape): subEq sh131 (0::q) z=subEq sh39 q z/\subEq sh131 (1::q) z=subEq sh23 q z/\subEq sh131 (2::q) z=subEq sh3 q z:=⟨rfl,rfl,rfl⟩
theorem Q0b.sub_nil: subEq sh131 [] sh131=true:=by simp[subEq,Shape.sub]
theorem Q0b.alloc: allocObj C (.alloc 131)=some (.var sh131 Q0b.zero.cv):=by simp only[allocObj,tt131,ti131,Q0b.zcv]
theorem Q0b.xalloc(p:Hp): xalloc C p 131=.ret (.ptr p.n []) (p.new (.var sh131 Q0b.zero.cv)):=by simp only[Cl.xalloc,tt131,ti131,Q0b.zcv]
theorem Q0b.xbox(p:Hp)(x:Q0b): xbox C p 131 x.cv=.ret (.ptr p.n []) (p.new (.var sh131 x.cv)):=by
 have h:Cl.shOk x.cv ti131.sh=true:=Q0b.shOk x
 simp only[Cl.xbox,tt131,h,cond_true];rfl
theorem Q0b.bld_0_1(a0:V0d)(a1:Lst Z0b): qbuild C 131 [(0,V0d.cv a0),(1,(Lst.cv Z0b.cv) a1)]=some (({e_:=a0,l_:=a1,at_:=0}:Q0b).cv):=Z0f C tt131 (by simp only[partsOk,setAll,CV.shape,V0d.shape,Lst.shape,sh131,List.all_cons,List.all_nil,List.getElem?_cons_zero,List.getElem?_cons_succ,Bool.and_true,decide_true]) rfl
structure Q0e where
 B:CV
 hB:B.shape=.s
def Q0e.cv(x:Q0e): CV:=.agg [x.B]
@[ext] theorem Q0e.ext'{x y:Q0e}(h_B:x.B=y.B): x=y:=by
 obtain⟨a0,ha⟩:=x
 obtain⟨c0,hc⟩:=y
 simp only at h_B
 subst h_B
 rfl
theorem Q0e.shape(x:Q0e): x.cv.shape=sh156:=by simp only[Q0e.cv,sh156,CV.shape,CV.shapes,Lst.shape,x.hB]
theorem Q0e.has(x:Q0e)(j:Nat): x.cv.has j ↔ x.B.has j:=by simp[Q0e.cv,CV.has,CV.hasL]
theorem Q0e.inj{x y:Q0e}(h:x.cv=y.cv): x=y:=by
 simp only[Q0e.cv,CV.agg.injEq,List.cons.injEq,and_true]at h
 have h0:=h
 refine Q0e.ext' h0
theorem Q0e.injF(x y:Q0e)(h:x.cv=y.cv): x=y:=Q0e.inj h
theorem Q0e.inj_iff(x y:Q0e): x.cv=y.cv ↔ x=y:=⟨Q0e.inj,fun h=>by rw[h]⟩
theorem Q0e.shOk(x:Q0e): Cl.shOk x.cv sh156=true:=Z0m (Q0e.shape x) rfl
theorem Q0e.at_0(x:Q0e)(q:List Nat): x.cv.at (0::q)=(x.B).at q:=rfl
def Q0e.upd_0(x:Q0e)(v:CV): CV:=.agg [v]
theorem Q0e.set_0(x:Q0e)(q:List Nat)(v:CV): x.cv.set (0::q) v=Q0e.upd_0 x ((x.B).set q v):=rfl
theorem Q0e.fold_0(x:Q0e)(y:CV)(h:y.shape=.s): Q0e.upd_0 x y=({x with B:=y,hB:=h}:Q0e).cv:=rfl
theorem Q0e.sub_0(q:List Nat)(z:Shape): subEq sh156 (0::q) z=subEq sh154 q z:=rfl
theorem Q0e.sub_nil: subEq sh156 [] sh156=true:=by simp[subEq,Shape.sub]
theorem Q0e.xbox(p:Hp)(x:Q0e): xbox C p 156 x.cv=.ret (.ptr p.n []) (p.new (.var sh156 x.cv)):=by
 have h:Cl.shOk x.cv ti156.sh=true:=Q0e.shOk x
 simp only[Cl.xbox,tt156,h,cond_true];rfl
structure V0c where
 B:Lst Int
 At:Int
 Short:Bool
def V0c.cv(x:V0c): CV:=.agg [(Lst.cv Y8) x.B,I x.At,Bo x.Short]
@[ext] theorem V0c.ext'{x y:V0c}(h_B:x.B=y.B)(h_At:x.At=y.At)(h_Short:x.Short=y.Short): x=y:=by
 obtain⟨a0,a1,a2⟩:=x
 obtain⟨c0,c1,c2⟩:=y
 simp only at h_B h_At h_Short
 subst h_B h_At h_Short
 rfl
def V0c.zero: V0c:={B:=⟨.nil,[],fun _=>rfl⟩,At:=0,Short:=false}
instance:Inhabited V0c:=⟨V0c.zero⟩
theorem V0c.zcv: z161=V0c.zero.cv:=by
 simp only[z161,V0c.zero,V0c.cv,List.map_replicate,Lst.cv,List.map_nil]
theorem V0c.shape(x:V0c): x.cv.shape=sh161:=by simp only[V0c.cv,sh161,CV.shape,CV.shapes,Lst.shape]
theorem V0c.has(x:V0c)(j:Nat): x.cv.has j ↔ x.B.tl=.own j:=by simp[V0c.cv,CV.has,CV.hasL,Lst.has _ Z00]
theorem V0c.inj{x y:V0c}(h:x.cv=y.cv): x=y:=by
 simp only[V0c.cv,CV.agg.injEq,List.cons.injEq,and_true]at h
 obtain⟨h0,h1,h2⟩:=h
 refine V0c.ext' ((Lst.injF Y8_inj) _ _ h0) (I_inj _ _ h1) (Bo_inj _ _ h2)
theorem V0c.injF(x y:V0c)(h:x.cv=y.cv): x=y:=V0c.inj h
theorem V0c.inj_iff(x y:V0c): x.cv=y.cv ↔ x=y:=⟨V0c.inj,fun h=>by rw[h]⟩
theorem V0c.shOk(x:V0c): Cl.shOk x.cv sh161=true:=Z0m (V0c.shape x) rfl
def V0c.upd_0(x:V0c)(v:CV): CV:=.agg [v,I x.At,Bo x.Short]
theorem V0c.fold_0(x:V0c)(y:Lst Int): V0c.upd_0 x ((Lst.cv Y8) y)=({x with B:=y}:V0c).cv:=rfl
theorem V0c.rfa_0(x:V0c)(h:Heap): qfieldAddr C h 161 (.rptr x.cv) 0=some (.rptr ((Lst.cv Y8) x.B)):=by
 have hs:=V0c.shape x
 unfold V0c.cv at hs ⊢
 simp only[qfieldAddr,tt161,ti161,tgt,hs,if_true,List.getElem?_cons_zero,List.getElem?_cons_succ]
def V0c.upd_1(x:V0c)(v:CV): CV:=.agg [(Lst.cv Y8) x.B,v,Bo x.Short]
theorem V0c.fold_1(x:V0c)(y:Int): V0c.upd_1 x (I y)=({x with At:=y}:V0c).cv:=rfl
theorem V0c.rfa_1(x:V0c)(h:Heap): qfieldAddr C h 161 (.rptr x.cv) 1=some (.rptr (I x.At)):=by
 have hs:=V0c.shape x
 unfold V0c.cv at hs ⊢
 simp only[qfieldAddr,tt161,ti161,tgt,hs,if_true,List.getElem?_cons_zero,List.getElem?_cons_succ]
theorem V0c.atQ1(x:V0c)(q:List Nat): x.cv.at (0::q)=((Lst.cv Y8) x.B).at q/\x.cv.at (1::q)=(I x.At).at q/\x.cv.at (2::q)=(Bo x.Short).at q:=⟨rfl,rfl,rfl⟩
def V0c.upd_2(x:V0c)(v:CV): CV:=.agg [(Lst.cv Y8) x.B,I x.At,v]
theorem V0c.setQ1(x:V0c)(q:List Nat)(v:CV): x.cv.set (0::q) v=V0c.upd_0 x (((Lst.cv Y8) x.B).set q v)/\x.cv.set (1::q) v=V0c.upd_1 x ((I x.At).set q v)/\x.cv.set (2::q) v=V0c.upd_2 x ((Bo x.Short).set q v):=⟨rfl,rfl,rfl⟩
theorem V0c.fold_2(x:V0c)(y:Bool): V0c.upd_2 x (Bo y)=({x with Short:=y}:V0c).cv:=rfl
theorem V0c.fldQ1(x:V0c): qfield C 161 x.cv 0=some ((Lst.cv Y8) x.B)/\qfield C 161 x.cv 1=some (I x.At)/\qfield C 161 x.cv 2=some (Bo x.Short):=⟨Z0d C tt161 (V0c.shape x) rfl tt68 rfl rfl,Z0d C tt161 (V0c.shape x) rfl tt3 rfl rfl,Z0d C tt161 (V0c.shape x) rfl tt4 rfl rfl⟩
theorem V0c.rfa_2(x:V0c)(h:Heap): qfieldAddr C h 161 (.rptr x.cv) 2=some (.rptr (Bo x.Short)):=by
 have hs:=V0c.shape x
 unfold V0c.cv at hs ⊢
 simp only[qfieldAddr,tt161,ti161,tgt,hs,if_true,List.getElem?_cons_zero,List.getElem?_cons_succ]
theorem V0c.subQ1(q:List Nat)(z:Shape): subEq sh161 (0::q) z=subEq sh68 q z/\subEq sh161 (1::q) z=subEq sh3 q z/\subEq sh161 (2::q) z=subEq sh4 q z:=⟨rfl,rfl,rfl⟩
theorem V0c.sub_nil: subEq sh161 [] sh161=true:=by simp[subEq,Shape.sub]
theorem V0c.alloc: allocObj C (.alloc 161)=some (.var sh161 V0c.zero.cv):=by simp only[allocObj,tt161,ti161,V0c.zcv]
theorem V0c.xalloc(p:Hp): xalloc C p 161=.ret (.ptr p.n []) (p.new (.var sh161 V0c.zero.cv)):=by simp only[Cl.xalloc,tt161,ti161,V0c.zcv]
theorem V0c.xbox(p:Hp)(x:V0c): xbox C p 161 x.cv=.ret (.ptr p.n []) (p.new (.var sh161 x.cv)):=by
 have h:Cl.shOk x.cv ti161.sh=true:=V0c.shOk x
 simp only[Cl.xbox,tt161,h,cond_true];rfl
theorem V0c.bld_0(a0:Lst Int): qbuild C 161 [(0,(Lst.cv Y8) a0)]=some (({B:=a0,At:=0,Short:=false}:V0c).cv):=Z0f C tt161 (by simp only[partsOk,setAll,CV.shape,Lst.shape,sh161,List.all_cons,List.all_nil,List.getElem?_cons_zero,List.getElem?_cons_succ,Bool.and_true,decide_true]) rfl
structure K0b where
 f_:X0c
def K0b.cv(x:K0b): CV:=.agg [X0c.cv x.f_]
@[ext] theorem K0b.ext'{x y:K0b}(h_f_:x.f_=y.f_): x=y:=by
 obtain⟨a0⟩:=x
 obtain⟨c0⟩:=y
 simp only at h_f_
 subst h_f_
 rfl
def K0b.zero: K0b:={f_:=X0c.zero}
instance:Inhabited K0b:=⟨K0b.zero⟩
theorem K0b.zcv: z194=K0b.zero.cv:=by
 simp only[z194,K0b.zero,K0b.cv,X0c.zcv,List.map_replicate,Lst.cv,List.map_nil]
theorem K0b.shape(x:K0b): x.cv.shape=sh194:=by simp only[K0b.cv,sh194,CV.shape,CV.shapes,X0c.shape,Lst.shape]
theorem K0b.nohas(x:K0b)(j:Nat): ¬x.cv.has j:=by simp[K0b.cv,CV.has,CV.hasL,X0c.nohas]
instance:DecidableEq K0b:=fun x y=>decidable_of_iff (x.f_=y.f_) ⟨fun h=>K0b.ext' h,fun h=>by subst h;simp⟩
theorem K0b.inj{x y:K0b}(h:x.cv=y.cv): x=y:=by
 simp only[K0b.cv,CV.agg.injEq,List.cons.injEq,and_true]at h
 have h0:=h
 refine K0b.ext' (X0c.injF _ _ h0)
theorem K0b.injF(x y:K0b)(h:x.cv=y.cv): x=y:=K0b.inj h
theorem K0b.inj_iff(x y:K0b): x.cv=y.cv ↔ x=y:=⟨K0b.inj,fun h=>by rw[h]⟩
theorem K0b.shOk(x:K0b): Cl.shOk x.cv sh194=true:=Z0m (K0b.shape x) rfl
theorem K0b.eq(d:Nat)(x y:K0b): eqCV C (d+3) 194 x.cv y.cv=some (decide (x=y)):=by
 refine(Z0z C (d:=d+2) tt194 (K0b.shape x) (K0b.shape y) (X0g (X0c.eq (d+0) _ _) rfl)).trans (congrArg some ?_)
 rw[Bool.eq_iff_iff]
 simp only[Bool.and_eq_true,decide_eq_true_eq,and_true]
 exact⟨fun h=>K0b.ext' h,fun h=>by subst h;simp⟩
theorem K0b.eql(x y:K0b)(b:Bool): qbin C .eql 194 b x.cv y.cv=some (Bo (decide (x=y))):=by
 have h:=K0b.eq 9 x y
 unfold K0b.cv at h ⊢
 simp only[qbin]
 rw[h];rfl
theorem K0b.neq(x y:K0b)(b:Bool): qbin C .neq 194 b x.cv y.cv=some (Bo (!decide (x=y))):=by
 have h:=K0b.eq 9 x y
 unfold K0b.cv at h ⊢
 simp only[qbin]
 rw[h];rfl
theorem K0b.at_0(x:K0b)(q:List Nat): x.cv.at (0::q)=(X0c.cv x.f_).at q:=rfl
def K0b.upd_0(x:K0b)(v:CV): CV:=.agg [v]
theorem K0b.set_0(x:K0b)(q:List Nat)(v:CV): x.cv.set (0::q) v=K0b.upd_0 x ((X0c.cv x.f_).set q v):=rfl
theorem K0b.fold_0(x:K0b)(y:X0c): K0b.upd_0 x (X0c.cv y)=({x with f_:=y}:K0b).cv:=rfl
theorem K0b.fld_0(x:K0b): qfield C 194 x.cv 0=some (X0c.cv x.f_):=Z0d C tt194 (K0b.shape x) rfl tt44 rfl (X0c.shOk _)
theorem K0b.sub_0(q:List Nat)(z:Shape): subEq sh194 (0::q) z=subEq sh44 q z:=rfl
theorem K0b.sub_nil: subEq sh194 [] sh194=true:=by simp[subEq,Shape.sub]
theorem K0b.alloc: allocObj C (.alloc 194)=some (.var sh194 K0b.zero.cv):=by simp only[allocObj,tt194,ti194,K0b.zcv]
theorem K0b.xalloc(p:Hp): xalloc C p 194=.ret (.ptr p.n []) (p.new (.var sh194 K0b.zero.cv)):=by simp only[Cl.xalloc,tt194,ti194,K0b.zcv]
theorem K0b.xbox(p:Hp)(x:K0b): xbox C p 194 x.cv=.ret (.ptr p.n []) (p.new (.var sh194 x.cv)):=by
 have h:Cl.shOk x.cv ti194.sh=true:=K0b.shOk x
 simp only[Cl.xbox,tt194,h,cond_true];rfl
theorem K0b.bld_0(a0:X0c): qbuild C 194 [(0,X0c.cv a0)]=some (({f_:=a0}:K0b).cv):=Z0f C tt194 (by simp only[partsOk,setAll,CV.shape,X0c.shape,sh194,List.all_cons,List.all_nil,List.getElem?_cons_zero,List.getElem?_cons_succ,Bool.and_true,decide_true]) rfl
structure X0d where
 b_:CV
 hb_:b_.shape=.s
 n_:Int
def X0d.cv(x:X0d): CV:=.agg [x.b_,I x.n_]
@[ext] theorem X0d.ext'{x y:X0d}(h_b_:x.b_=y.b_)(h_n_:x.n_=y.n_): x=y:=by
 obtain⟨a0,ha,a1⟩:=x
 obtain⟨c0,hc,c1⟩:=y
 simp only at h_b_ h_n_
 subst h_b_ h_n_
 rfl
theorem X0d.shape(x:X0d): x.cv.shape=sh203:=by simp only[X0d.cv,sh203,CV.shape,CV.shapes,Lst.shape,x.hb_]
theorem X0d.has(x:X0d)(j:Nat): x.cv.has j ↔ x.b_.has j:=by simp[X0d.cv,CV.has,CV.hasL]
theorem X0d.inj{x y:X0d}(h:x.cv=y.cv): x=y:=by
 simp only[X0d.cv,CV.agg.injEq,List.cons.injEq,and_true]at h
 obtain⟨h0,h1⟩:=h
 refine X0d.ext' h0 (I_inj _ _ h1)
theorem X0d.injF(x y:X0d)(h:x.cv=y.cv): x=y:=X0d.inj h
theorem X0d.inj_iff(x y:X0d): x.cv=y.cv ↔ x=y:=⟨X0d.inj,fun h=>by rw[h]⟩
theorem X0d.shOk(x:X0d): Cl.shOk x.cv sh203=true:=Z0m (X0d.shape x) rfl
def X0d.upd_0(x:X0d)(v:CV): CV:=.agg [v,I x.n_]
theorem X0d.fold_0(x:X0d)(y:CV)(h:y.shape=.s): X0d.upd_0 x y=({x with b_:=y,hb_:=h}:X0d).cv:=rfl
theorem X0d.atQ1(x:X0d)(q:List Nat): x.cv.at (0::q)=(x.b_).at q/\x.cv.at (1::q)=(I x.n_).at q:=⟨rfl,rfl⟩
def X0d.upd_1(x:X0d)(v:CV): CV:=.agg [x.b_,v]
theorem X0d.setQ1(x:X0d)(q:List Nat)(v:CV): x.cv.set (0::q) v=X0d.upd_0 x ((x.b_).set q v)/\x.cv.set (1::q) v=X0d.upd_1 x ((I x.n_).set q v):=⟨rfl,rfl⟩
theorem X0d.fold_1(x:X0d)(y:Int): X0d.upd_1 x (I y)=({x with n_:=y}:X0d).cv:=rfl
theorem X0d.fld_1(x:X0d): qfield C 203 x.cv 1=some (I x.n_):=Z0d C tt203 (X0d.shape x) rfl tt3 rfl rfl
theorem X0d.rfa_1(x:X0d)(h:Heap): qfieldAddr C h 203 (.rptr x.cv) 1=some (.rptr (I x.n_)):=by
 have hs:=X0d.shape x
 unfold X0d.cv at hs ⊢
 simp only[qfieldAddr,tt203,ti203,tgt,hs,if_true,List.getElem?_cons_zero,List.getElem?_cons_succ]
theorem X0d.subQ1(q:List Nat)(z:Shape): subEq sh203 (0::q) z=subEq sh68 q z/\subEq sh203 (1::q) z=subEq sh3 q z:=⟨rfl,rfl⟩
theorem X0d.sub_nil: subEq sh203 [] sh203=true:=by simp[subEq,Shape.sub]
theorem X0d.xbox(p:Hp)(x:X0d): xbox C p 203 x.cv=.ret (.ptr p.n []) (p.new (.var sh203 x.cv)):=by
 have h:Cl.shOk x.cv ti203.sh=true:=X0d.shOk x
 simp only[Cl.xbox,tt203,h,cond_true];rfl
structure Q0d where
 b_:Lst Int
 at_:Int
def Q0d.cv(x:Q0d): CV:=.agg [(Lst.cv Y8) x.b_,I x.at_]
@[ext] theorem Q0d.ext'{x y:Q0d}(h_b_:x.b_=y.b_)(h_at_:x.at_=y.at_): x=y:=by
 obtain⟨a0,a1⟩:=x
 obtain⟨c0,c1⟩:=y
 simp only at h_b_ h_at_
 subst h_b_ h_at_
 rfl
def Q0d.zero: Q0d:={b_:=⟨.nil,[],fun _=>rfl⟩,at_:=0}
instance:Inhabited Q0d:=⟨Q0d.zero⟩
theorem Q0d.zcv: z208=Q0d.zero.cv:=by
 simp only[z208,Q0d.zero,Q0d.cv,List.map_replicate,Lst.cv,List.map_nil]
theorem Q0d.shape(x:Q0d): x.cv.shape=sh208:=by simp only[Q0d.cv,sh208,CV.shape,CV.shapes,Lst.shape]
theorem Q0d.has(x:Q0d)(j:Nat): x.cv.has j ↔ x.b_.tl=.own j:=by simp[Q0d.cv,CV.has,CV.hasL,Lst.has _ Z00]
theorem Q0d.inj{x y:Q0d}(h:x.cv=y.cv): x=y:=by
 simp only[Q0d.cv,CV.agg.injEq,List.cons.injEq,and_true]at h
 obtain⟨h0,h1⟩:=h
 refine Q0d.ext' ((Lst.injF Y8_inj) _ _ h0) (I_inj _ _ h1)
theorem Q0d.injF(x y:Q0d)(h:x.cv=y.cv): x=y:=Q0d.inj h
theorem Q0d.inj_iff(x y:Q0d): x.cv=y.cv ↔ x=y:=⟨Q0d.inj,fun h=>by rw[h]⟩
theorem Q0d.shOk(x:Q0d): Cl.shOk x.cv sh208=true:=Z0m (Q0d.shape x) rfl
def Q0d.upd_0(x:Q0d)(v:CV): CV:=.agg [v,I x.at_]
theorem Q0d.fold_0(x:Q0d)(y:Lst Int): Q0d.upd_0 x ((Lst.cv Y8) y)=({x with b_:=y}:Q0d).cv:=rfl
theorem Q0d.rfa_0(x:Q0d)(h:Heap): qfieldAddr C h 208 (.rptr x.cv) 0=some (.rptr ((Lst.cv Y8) x.b_)):=by
 have hs:=Q0d.shape x
 unfold Q0d.cv at hs ⊢
 simp only[qfieldAddr,tt208,ti208,tgt,hs,if_true,List.getElem?_cons_zero,List.getElem?_cons_succ]
theorem Q0d.atQ1(x:Q0d)(q:List Nat): x.cv.at (0::q)=((Lst.cv Y8) x.b_).at q/\x.cv.at (1::q)=(I x.at_).at q:=⟨rfl,rfl⟩
def Q0d.upd_1(x:Q0d)(v:CV): CV:=.agg [(Lst.cv Y8) x.b_,v]
theorem Q0d.setQ1(x:Q0d)(q:List Nat)(v:CV): x.cv.set (0::q) v=Q0d.upd_0 x (((Lst.cv Y8) x.b_).set q v)/\x.cv.set (1::q) v=Q0d.upd_1 x ((I x.at_).set q v):=⟨rfl,rfl⟩
theorem Q0d.fold_1(x:Q0d)(y:Int): Q0d.upd_1 x (I y)=({x with at_:=y}:Q0d).cv:=rfl
theorem Q0d.fldQ1(x:Q0d): qfield C 208 x.cv 0=some ((Lst.cv Y8) x.b_)/\qfield C 208 x.cv 1=some (I x.at_):=⟨Z0d C tt208 (Q0d.shape x) rfl tt68 rfl rfl,Z0d C tt208 (Q0d.shape x) rfl tt3 rfl rfl⟩
theorem Q0d.rfa_1(x:Q0d)(h:Heap): qfieldAddr C h 208 (.rptr x.cv) 1=some (.rptr (I x.at_)):=by
 have hs:=Q0d.shape x
 unfold Q0d.cv at hs ⊢
 simp only[qfieldAddr,tt208,ti208,tgt,hs,if_true,List.getElem?_cons_zero,List.getElem?_cons_succ]
theorem Q0d.subQ1(q:List Nat)(z:Shape): subEq sh208 (0::q) z=subEq sh68 q z/\subEq sh208 (1::q) z=subEq sh3 q z:=⟨rfl,rfl⟩
theorem Q0d.sub_nil: subEq sh208 [] sh208=true:=by simp[subEq,Shape.sub]
theorem Q0d.alloc: allocObj C (.alloc 208)=some (.var sh208 Q0d.zero.cv):=by simp only[allocObj,tt208,ti208,Q0d.zcv]
theorem Q0d.xalloc(p:Hp): xalloc C p 208=.ret (.ptr p.n []) (p.new (.var sh208 Q0d.zero.cv)):=by simp only[Cl.xalloc,tt208,ti208,Q0d.zcv]
theorem Q0d.xbox(p:Hp)(x:Q0d): xbox C p 208 x.cv=.ret (.ptr p.n []) (p.new (.var sh208 x.cv)):=by
 have h:Cl.shOk x.cv ti208.sh=true:=Q0d.shOk x
 simp only[Cl.xbox,tt208,h,cond_true];rfl
theorem Q0d.bld_0(a0:Lst Int): qbuild C 208 [(0,(Lst.cv Y8) a0)]=some (({b_:=a0,at_:=0}:Q0d).cv):=Z0f C tt208 (by simp only[partsOk,setAll,CV.shape,Lst.shape,sh208,List.all_cons,List.all_nil,List.getElem?_cons_zero,List.getElem?_cons_succ,Bool.and_true,decide_true]) rfl
structure Y0b where
 rate:Nat
 depth:Nat
 level:Nat
 last:Int
def Y0b.cv(x:Y0b): CV:=.agg [Fl x.rate,Fl x.depth,Fl x.level,I x.last]
@[ext] theorem Y0b.ext'{x y:Y0b}(h_rate:x.rate=y.rate)(h_depth:x.depth=y.depth)(h_level:x.level=y.level)(h_last:x.last=y.last): x=y:=by
 obtain⟨a0,a1,a2,a3⟩:=x
 obtain⟨c0,c1,c2,c3⟩:=y
 simp only at h_rate h_depth h_level h_last
 subst h_rate h_depth h_level h_last
 rfl
def Y0b.zero: Y0b:={rate:=0,depth:=0,level:=0,last:=0}
instance:Inhabited Y0b:=⟨Y0b.zero⟩
theorem Y0b.zcv: z223=Y0b.zero.cv:=by
 simp only[z223,Y0b.zero,Y0b.cv,List.map_replicate,Lst.cv,List.map_nil]
theorem Y0b.shape(x:Y0b): x.cv.shape=sh223:=by simp only[Y0b.cv,sh223,CV.shape,CV.shapes,Lst.shape]
theorem Y0b.nohas(x:Y0b)(j:Nat): ¬x.cv.has j:=by simp[Y0b.cv,CV.has,CV.hasL]
instance:DecidableEq Y0b:=fun x y=>decidable_of_iff (x.rate=y.rate/\x.depth=y.depth/\x.level=y.level/\x.last=y.last) ⟨fun h=>Y0b.ext' h.1 h.2.1 h.2.2.1 h.2.2.2,fun h=>by subst h;simp⟩
theorem Y0b.inj{x y:Y0b}(h:x.cv=y.cv): x=y:=by
 simp only[Y0b.cv,CV.agg.injEq,List.cons.injEq,and_true]at h
 obtain⟨h0,h1,h2,h3⟩:=h
 refine Y0b.ext' (Fl_inj _ _ h0) (Fl_inj _ _ h1) (Fl_inj _ _ h2) (I_inj _ _ h3)
theorem Y0b.injF(x y:Y0b)(h:x.cv=y.cv): x=y:=Y0b.inj h
theorem Y0b.inj_iff(x y:Y0b): x.cv=y.cv ↔ x=y:=⟨Y0b.inj,fun h=>by rw[h]⟩
theorem Y0b.shOk(x:Y0b): Cl.shOk x.cv sh223=true:=Z0m (Y0b.shape x) rfl
def Y0b.upd_0(x:Y0b)(v:CV): CV:=.agg [v,Fl x.depth,Fl x.level,I x.last]
def Y0b.upd_1(x:Y0b)(v:CV): CV:=.agg [Fl x.rate,v,Fl x.level,I x.last]
def Y0b.upd_2(x:Y0b)(v:CV): CV:=.agg [Fl x.rate,Fl x.depth,v,I x.last]
theorem Y0b.foldQ1(x:Y0b)(y:Nat): Y0b.upd_0 x (Fl y)=({x with rate:=y}:Y0b).cv/\Y0b.upd_1 x (Fl y)=({x with depth:=y}:Y0b).cv/\Y0b.upd_2 x (Fl y)=({x with level:=y}:Y0b).cv:=⟨rfl,rfl,rfl⟩
theorem Y0b.atQ1(x:Y0b)(q:List Nat): x.cv.at (0::q)=(Fl x.rate).at q/\x.cv.at (1::q)=(Fl x.depth).at q/\x.cv.at (2::q)=(Fl x.level).at q/\x.cv.at (3::q)=(I x.last).at q:=⟨rfl,rfl,rfl,rfl⟩
def Y0b.upd_3(x:Y0b)(v:CV): CV:=.agg [Fl x.rate,Fl x.depth,Fl x.level,v]
theorem Y0b.setQ1(x:Y0b)(q:List Nat)(v:CV): x.cv.set (0::q) v=Y0b.upd_0 x ((Fl x.rate).set q v)/\x.cv.set (1::q) v=Y0b.upd_1 x ((Fl x.depth).set q v)/\x.cv.set (2::q) v=Y0b.upd_2 x ((Fl x.level).set q v)/\x.cv.set (3::q) v=Y0b.upd_3 x ((I x.last).set q v):=⟨rfl,rfl,rfl,rfl⟩
theorem Y0b.fold_3(x:Y0b)(y:Int): Y0b.upd_3 x (I y)=({x with last:=y}:Y0b).cv:=rfl
theorem Y0b.fldQ1(x:Y0b): qfield C 223 x.cv 0=some (Fl x.rate)/\qfield C 223 x.cv 1=some (Fl x.depth)/\qfield C 223 x.cv 2=some (Fl x.level)/\qfield C 223 x.cv 3=some (I x.last):=⟨Z0d C tt223 (Y0b.shape x) rfl tt59 rfl rfl,Z0d C tt223 (Y0b.shape x) rfl tt59 rfl rfl,Z0d C tt223 (Y0b.shape x) rfl tt59 rfl rfl,Z0d C tt223 (Y0b.shape x) rfl tt3 rfl rfl⟩
theorem Y0b.subQ1(q:List Nat)(z:Shape): subEq sh223 (0::q) z=subEq sh59 q z/\subEq sh223 (1::q) z=subEq sh59 q z/\subEq sh223 (2::q) z=subEq sh59 q z/\subEq sh223 (3::q) z=subEq sh3 q z:=⟨rfl,rfl,rfl,rfl⟩
theorem Y0b.sub_nil: subEq sh223 [] sh223=true:=by simp[subEq,Shape.sub]
theorem Y0b.alloc: allocObj C (.alloc 223)=some (.var sh223 Y0b.zero.cv):=by simp only[allocObj,tt223,ti223,Y0b.zcv]
theorem Y0b.xalloc(p:Hp): xalloc C p 223=.ret (.ptr p.n []) (p.new (.var sh223 Y0b.zero.cv)):=by simp only[Cl.xalloc,tt223,ti223,Y0b.zcv]
theorem Y0b.xbox(p:Hp)(x:Y0b): xbox C p 223 x.cv=.ret (.ptr p.n []) (p.new (.var sh223 x.cv)):=by
 have h:Cl.shOk x.cv ti223.sh=true:=Y0b.shOk x
 simp only[Cl.xbox,tt223,h,cond_true];rfl
theorem Y0b.bld_0_1_2(a0:Nat)(a1:Nat)(a2:Nat): qbuild C 223 [(0,Fl a0),(1,Fl a1),(2,Fl a2)]=some (({rate:=a0,depth:=a1,level:=a2,last:=0}:Y0b).cv):=Z0f C tt223 (by simp only[partsOk,setAll,CV.shape,sh223,List.all_cons,List.all_nil,List.getElem?_cons_zero,List.getElem?_cons_succ,Bool.and_true,decide_true]) rfl
def K0q:=zA @Z0b.shape<|zA @Z0b.shOk<|zA @Z0b.eql<|zA @Z0b.neq<|zA @Z0b.atQ1<|zA @Z0b.setQ1<|zA @Z0b.foldQ1<|zA @Z0b.fldQ1<|zA @Z0b.rfa_0<|zA @Z0b.subQ1<|zA @Z0b.rfa_1<|zA @Z0b.rfa_2<|zA @Z0b.sub_nil<|zA @Z0b.alloc<|zA @Z0b.xalloc<|zA @Z0b.xbox<|zA @Z0b.bld_0<|zA @Z0b.bld_0_1<|@Z0b.bld_0_1_2
def V08:=zA @X0b.shape<|zA @X0b.shOk<|zA @X0b.eql<|zA @X0b.neq<|zA @X0b.atQ1<|zA @X0b.setQ1<|zA @X0b.foldQ1<|zA @X0b.fldQ1<|zA @X0b.rfa_0<|zA @X0b.subQ1<|zA @X0b.rfa_1<|zA @X0b.rfa_2<|zA @X0b.sub_nil<|zA @X0b.alloc<|zA @X0b.xalloc<|@X0b.xbox
def Q0f:=zA @Q0a.shape<|zA @Q0a.shOk<|zA @Q0a.eql<|zA @Q0a.neq<|zA @Q0a.atQ1<|zA @Q0a.setQ1<|zA @Q0a.foldQ1<|zA @Q0a.fldQ1<|zA @Q0a.rfa_0<|zA @Q0a.subQ1<|zA @Q0a.rfa_1<|zA @Q0a.rfa_2<|zA @Q0a.rfa_3<|zA @Q0a.rfa_4<|zA @Q0a.rfa_5<|zA @Q0a.rfa_6<|zA @Q0a.at_7<|zA @Q0a.at_7k<|zA @Q0a.set_7<|zA @Q0a.set_7k<|zA @Q0a.fold_7k<|zA @Q0a.fold_7<|zA @Q0a.fld_7<|zA @Q0a.rfa_7<|zA @Q0a.sub_7k<|zA @Q0a.sub_7<|zA @Q0a.rfa_8<|zA @Q0a.sub_nil<|zA @Q0a.alloc<|zA @Q0a.xalloc<|zA @Q0a.xbox<|zA @Q0a.bld_none<|zA @Q0a.bld_0<|zA @Q0a.bld_0_1_2_3<|@Q0a.bld_0_1_2_3_4_5
def Z0o:=zA @Z0a.shape<|zA @Z0a.shOk<|zA @Z0a.eql<|zA @Z0a.neq<|zA @Z0a.atQ1<|zA @Z0a.setQ1<|zA @Z0a.foldQ1<|zA @Z0a.fldQ1<|zA @Z0a.rfa_0<|zA @Z0a.subQ1<|zA @Z0a.rfa_1<|zA @Z0a.rfa_2<|zA @Z0a.sub_nil<|zA @Z0a.alloc<|zA @Z0a.xalloc<|zA @Z0a.xbox<|zA @Z0a.bld_none<|zA @Z0a.bld_0_1<|zA @Z0a.bld_0_1_2<|@Z0a.bld_1
def X0p:=zA @X0c.shape<|zA @X0c.shOk<|zA @X0c.eql<|zA @X0c.neq<|zA @X0c.atQ1<|zA @X0c.setQ1<|zA @X0c.foldQ1<|zA @X0c.fldQ1<|zA @X0c.subQ1<|zA @X0c.sub_nil<|zA @X0c.alloc<|zA @X0c.xalloc<|zA @X0c.xbox<|zA @X0c.bld_none<|zA @X0c.bld_0<|@X0c.bld_0_1
def Y0r:=zA @Y0c.shape<|zA @Y0c.shOk<|zA @Y0c.atQ1<|zA @Y0c.setQ1<|zA @Y0c.fold_0<|zA @Y0c.fld_0<|zA @Y0c.subQ1<|zA @Y0c.fold_1<|zA @Y0c.fld_1<|zA @Y0c.foldQ1<|zA @Y0c.fldQ1<|zA @Y0c.fold_4<|zA @Y0c.sub_nil<|zA @Y0c.alloc<|zA @Y0c.xalloc<|zA @Y0c.xbox<|@Y0c.bld_0_1_2_3
def Q0v:=zA @Y0a.shape<|zA @Y0a.shOk<|zA @Y0a.atQ1<|zA @Y0a.setQ1<|zA @Y0a.foldQ1<|zA @Y0a.fldQ1<|zA @Y0a.subQ1<|zA @Y0a.fold_7<|zA @Y0a.sub_nil<|zA @Y0a.alloc<|zA @Y0a.xalloc<|@Y0a.xbox
def Z0e:=zA @X0a.shape<|zA @X0a.shOk<|zA @X0a.atQ1<|zA @X0a.setQ1<|zA @X0a.foldQ1<|zA @X0a.fldQ1<|zA @X0a.subQ1<|zA @X0a.foldQ2<|zA @X0a.fold_8<|zA @X0a.fold_9<|zA @X0a.sub_nil<|zA @X0a.alloc<|zA @X0a.xalloc<|zA @X0a.xbox<|zA @X0a.bld_0_1_2_3_4_5<|zA @X0a.bld_0_1_4_6_7_8<|@X0a.bld_0_1_4_6_7_9
def X0f:=zA @V0a.shape<|zA @V0a.shOk<|zA @V0a.eql<|zA @V0a.neq<|zA @V0a.atQ1<|zA @V0a.setQ1<|zA @V0a.foldQ1<|zA @V0a.fldQ1<|zA @V0a.subQ1<|zA @V0a.atQ2<|zA @V0a.at_2k<|zA @V0a.set_2<|zA @V0a.set_2k<|zA @V0a.fold_2k<|zA @V0a.fold_2<|zA @V0a.fld_2<|zA @V0a.sub_2k<|zA @V0a.subQ2<|zA @V0a.at_3k<|zA @V0a.set_3<|zA @V0a.set_3k<|zA @V0a.fold_3k<|zA @V0a.fold_3<|zA @V0a.fld_3<|zA @V0a.sub_3k<|zA @V0a.sub_nil<|zA @V0a.alloc<|zA @V0a.xalloc<|zA @V0a.xbox<|zA @V0a.bld_none<|zA @V0a.bld_0_1<|@V0a.bld_1
def Y04:=zA @V0b.shape<|zA @V0b.shOk<|zA @V0b.eql<|zA @V0b.neq<|zA @V0b.atQ1<|zA @V0b.setQ1<|zA @V0b.fold_0<|zA @V0b.fld_0<|zA @V0b.rfa_0<|zA @V0b.subQ1<|zA @V0b.fold_1<|zA @V0b.fld_1<|zA @V0b.rfa_1<|zA @V0b.sub_nil<|zA @V0b.alloc<|zA @V0b.xalloc<|zA @V0b.xbox<|zA @V0b.bld_0<|@V0b.bld_0_1
def Q1d:=zA @Q0e.shape<|zA @Q0e.shOk<|zA @Q0e.at_0<|zA @Q0e.set_0<|zA @Q0e.fold_0<|zA @Q0e.sub_0<|zA @Q0e.sub_nil<|@Q0e.xbox
def Z0u:=zA @V0c.shape<|zA @V0c.shOk<|zA @V0c.atQ1<|zA @V0c.setQ1<|zA @V0c.fold_0<|zA @V0c.fldQ1<|zA @V0c.rfa_0<|zA @V0c.subQ1<|zA @V0c.fold_1<|zA @V0c.rfa_1<|zA @V0c.fold_2<|zA @V0c.rfa_2<|zA @V0c.sub_nil<|zA @V0c.alloc<|zA @V0c.xalloc<|zA @V0c.xbox<|@V0c.bld_0
def Y0u:=zA @K0b.shape<|zA @K0b.shOk<|zA @K0b.eql<|zA @K0b.neq<|zA @K0b.at_0<|zA @K0b.set_0<|zA @K0b.fold_0<|zA @K0b.fld_0<|zA @K0b.sub_0<|zA @K0b.sub_nil<|zA @K0b.alloc<|zA @K0b.xalloc<|zA @K0b.xbox<|@K0b.bld_0
def Q0r:=zA @X0d.shape<|zA @X0d.shOk<|zA @X0d.atQ1<|zA @X0d.setQ1<|zA @X0d.fold_0<|zA @X0d.subQ1<|zA @X0d.fold_1<|zA @X0d.fld_1<|zA @X0d.rfa_1<|zA @X0d.sub_nil<|@X0d.xbox
def Q0o:=zA @Q0d.shape<|zA @Q0d.shOk<|zA @Q0d.atQ1<|zA @Q0d.setQ1<|zA @Q0d.fold_0<|zA @Q0d.fldQ1<|zA @Q0d.rfa_0<|zA @Q0d.subQ1<|zA @Q0d.fold_1<|zA @Q0d.rfa_1<|zA @Q0d.sub_nil<|zA @Q0d.alloc<|zA @Q0d.xalloc<|zA @Q0d.xbox<|@Q0d.bld_0
def Y1f:=zA @Y0b.shape<|zA @Y0b.shOk<|zA @Y0b.atQ1<|zA @Y0b.setQ1<|zA @Y0b.foldQ1<|zA @Y0b.fldQ1<|zA @Y0b.subQ1<|zA @Y0b.fold_3<|zA @Y0b.sub_nil<|zA @Y0b.alloc<|zA @Y0b.xalloc<|zA @Y0b.xbox<|@Y0b.bld_0_1_2
theorem zsl32(l:List Int)(n:Int)(h:l.length=4)(hn:0<=n/\n<4): qindex C 32 (.agg (l.map I)) (I n)=some (I (nth l n.toNat)):=X1j C I tt32 rfl tt3 (fun _=>rfl) l n h hn
theorem zsl63(l:List Q0a)(n:Int)(h:l.length=16)(hn:0<=n/\n<16): qindex C 63 (.agg (l.map Q0a.cv)) (I n)=some (Q0a.cv (nth l n.toNat)):=X1j C Q0a.cv tt63 rfl tt34 Q0a.shape l n h hn
theorem zsl64(l:List Int)(n:Int)(h:l.length=8)(hn:0<=n/\n<8): qindex C 64 (.agg (l.map I)) (I n)=some (I (nth l n.toNat)):=X1j C I tt64 rfl tt3 (fun _=>rfl) l n h hn
theorem sl_len22(s:Lst X0b)(h:Heap): qlen C h 22 (Lst.cv X0b.cv s)=some (I s.l.length):=by simp only[qlen,tt22,ti22,Lst.cv,List.length_map]
theorem sl_idx22(s:Lst X0b)(p:Hp)(n:Int)(h:0<=n/\n<s.l.length): xindexAddr C p 22 (Lst.cv X0b.cv s) (I n)=some (.rptr (X0b.cv (nth s.l n.toNat))):=by
 have hl:n.toNat<s.l.length:=by omega
 show qindexAddr C p.h 22 (.lst s.tl (s.l.map X0b.cv)) (I n)=_
 simp only[qindexAddr,tt22,ti22,tt31,List.length_map,h,and_self,if_true,List.getElem?_map,Q0s hl,Option.map_some]
 rw[if_pos]
 exact X0b.shape _
theorem sl_src22(s:Lst X0b)(h:Heap): srcOf C h 22 (Lst.cv X0b.cv s)=some (s.l.map X0b.cv):=by simp only[srcOf,tt22,ti22,Lst.cv]
theorem V15: isSliceT C 22=true:=by simp only[isSliceT,tt22,ti22]
theorem sl_app22(p:Hp)(b s:Lst X0b)(h:b.l.length+s.l.length<=5864062014805): xappend C false p 22 22 (Lst.cv X0b.cv b) (Lst.cv X0b.cv s)=appT X0b.cv p b s:=K0n C X0b.cv tt22 tt31 X0b.shOk p b s (by show _*24<=_;omega) (by omega)
theorem Q17(b s:Lst X0b): Lst.cv X0b.cv b=Lst.cv X0b.cv s ↔ b=s:=⟨fun h=>Lst.inj X0b.injF h,fun h=>by rw[h]⟩
theorem sl_lenl22(tl:Tail)(l:List CV)(h:Heap): qlen C h 22 (.lst tl l)=some (I l.length):=by simp only[qlen,tt22,ti22]
theorem sl_lens22(i:Nat)(q:List Nat)(o n:Nat)(h:Heap): qlen C h 22 (.slc i q o n)=some (I n):=by simp only[qlen,tt22,ti22]
def zsl22:=zA @sl_lenl22<|zA @sl_lens22<|zA @sl_len22<|zA @sl_idx22<|zA @sl_src22<|zA @sl_app22<|zA (K08 C V15)<|zA (V0x C V15)<|V15
theorem sl_len23(s:Lst Z0b)(h:Heap): qlen C h 23 (Lst.cv Z0b.cv s)=some (I s.l.length):=by simp only[qlen,tt23,ti23,Lst.cv,List.length_map]
theorem sl_idx23(s:Lst Z0b)(p:Hp)(n:Int)(h:0<=n/\n<s.l.length): xindexAddr C p 23 (Lst.cv Z0b.cv s) (I n)=some (.rptr (Z0b.cv (nth s.l n.toNat))):=by
 have hl:n.toNat<s.l.length:=by omega
 show qindexAddr C p.h 23 (.lst s.tl (s.l.map Z0b.cv)) (I n)=_
 simp only[qindexAddr,tt23,ti23,tt29,List.length_map,h,and_self,if_true,List.getElem?_map,Q0s hl,Option.map_some]
 rw[if_pos]
 exact Z0b.shape _
theorem sl_src23(s:Lst Z0b)(h:Heap): srcOf C h 23 (Lst.cv Z0b.cv s)=some (s.l.map Z0b.cv):=by simp only[srcOf,tt23,ti23,Lst.cv]
theorem V17: isSliceT C 23=true:=by simp only[isSliceT,tt23,ti23]
theorem sl_b23_0: qbuildSlice C 23 0 []=some (Lst.cv Z0b.cv ⟨.exact,[],nofun⟩):=Y0f C tt23 tt29 (by decide) (by decide) rfl rfl
theorem sl_b23_1: ∀(a0:Z0b),qbuildSlice C 23 1 [(0,Z0b.cv a0)]=some (Lst.cv Z0b.cv ⟨.exact,[a0],nofun⟩):=fun a0=>Y0f C tt23 tt29 (by decide) (by decide) (by simp only[partsOk,List.all_cons,List.all_nil,List.replicate_succ,List.replicate_zero,List.getElem?_cons_zero,List.getElem?_cons_succ,CV.shape,Z0b.shape,Bool.and_true,decide_true];try rfl) rfl
theorem sl_b23_2: ∀(a0:Z0b) (a1:Z0b),qbuildSlice C 23 2 [(0,Z0b.cv a0),(1,Z0b.cv a1)]=some (Lst.cv Z0b.cv ⟨.exact,[a0,a1],nofun⟩):=fun a0 a1=>Y0f C tt23 tt29 (by decide) (by decide) (by simp only[partsOk,List.all_cons,List.all_nil,List.replicate_succ,List.replicate_zero,List.getElem?_cons_zero,List.getElem?_cons_succ,CV.shape,Z0b.shape,Bool.and_true,decide_true];try rfl) rfl
theorem sl_b23_3: ∀(a0:Z0b) (a1:Z0b) (a2:Z0b),qbuildSlice C 23 3 [(0,Z0b.cv a0),(1,Z0b.cv a1),(2,Z0b.cv a2)]=some (Lst.cv Z0b.cv ⟨.exact,[a0,a1,a2],nofun⟩):=fun a0 a1 a2=>Y0f C tt23 tt29 (by decide) (by decide) (by simp only[partsOk,List.all_cons,List.all_nil,List.replicate_succ,List.replicate_zero,List.getElem?_cons_zero,List.getElem?_cons_succ,CV.shape,Z0b.shape,Bool.and_true,decide_true];try rfl) rfl
theorem sl_b23_4: ∀(a0:Z0b) (a1:Z0b) (a2:Z0b) (a3:Z0b),qbuildSlice C 23 4 [(0,Z0b.cv a0),(1,Z0b.cv a1),(2,Z0b.cv a2),(3,Z0b.cv a3)]=some (Lst.cv Z0b.cv ⟨.exact,[a0,a1,a2,a3],nofun⟩):=fun a0 a1 a2 a3=>Y0f C tt23 tt29 (by decide) (by decide) (by simp only[partsOk,List.all_cons,List.all_nil,List.replicate_succ,List.replicate_zero,List.getElem?_cons_zero,List.getElem?_cons_succ,CV.shape,Z0b.shape,Bool.and_true,decide_true];try rfl) rfl
theorem sl_app23(p:Hp)(b s:Lst Z0b)(h:b.l.length+s.l.length<=5864062014805): xappend C false p 23 23 (Lst.cv Z0b.cv b) (Lst.cv Z0b.cv s)=appT Z0b.cv p b s:=K0n C Z0b.cv tt23 tt29 Z0b.shOk p b s (by show _*24<=_;omega) (by omega)
theorem V0r(b s:Lst Z0b): Lst.cv Z0b.cv b=Lst.cv Z0b.cv s ↔ b=s:=⟨fun h=>Lst.inj Z0b.injF h,fun h=>by rw[h]⟩
theorem sl_lenl23(tl:Tail)(l:List CV)(h:Heap): qlen C h 23 (.lst tl l)=some (I l.length):=by simp only[qlen,tt23,ti23]
theorem sl_lens23(i:Nat)(q:List Nat)(o n:Nat)(h:Heap): qlen C h 23 (.slc i q o n)=some (I n):=by simp only[qlen,tt23,ti23]
def zsl23:=zA @sl_lenl23<|zA @sl_lens23<|zA @sl_len23<|zA @sl_idx23<|zA @sl_src23<|zA @sl_app23<|zA (K08 C V17)<|zA (V0x C V17)<|zA @sl_b23_0<|zA @sl_b23_1<|zA @sl_b23_2<|zA @sl_b23_3<|zA @sl_b23_4<|V17
theorem sl_len24(s:Lst Int)(h:Heap): qlen C h 24 (Lst.cv I s)=some (I s.l.length):=by simp only[qlen,tt24,ti24,Lst.cv,List.length_map]
theorem sl_idx24(s:Lst Int)(p:Hp)(n:Int)(h:0<=n/\n<s.l.length): xindexAddr C p 24 (Lst.cv I s) (I n)=some (.rptr (I (nth s.l n.toNat))):=by
 have hl:n.toNat<s.l.length:=by omega
 show qindexAddr C p.h 24 (.lst s.tl (s.l.map I)) (I n)=_
 simp only[qindexAddr,tt24,ti24,tt3,List.length_map,h,and_self,if_true,List.getElem?_map,Q0s hl,Option.map_some]
 rw[if_pos]
 exact rfl
theorem sl_src24(s:Lst Int)(h:Heap): srcOf C h 24 (Lst.cv I s)=some (s.l.map I):=by simp only[srcOf,tt24,ti24,Lst.cv]
theorem X13: isSliceT C 24=true:=by simp only[isSliceT,tt24,ti24]
theorem sl_b24_1: ∀(a0:Int),qbuildSlice C 24 1 [(0,I a0)]=some (Lst.cv I ⟨.exact,[a0],nofun⟩):=fun a0=>Y0f C tt24 tt3 (by decide) (by decide) (by simp only[partsOk,List.all_cons,List.all_nil,List.replicate_succ,List.replicate_zero,List.getElem?_cons_zero,List.getElem?_cons_succ,CV.shape,Bool.and_true,decide_true];try rfl) rfl
theorem sl_b24_8: ∀(a0:Int) (a1:Int) (a2:Int) (a3:Int) (a4:Int) (a5:Int) (a6:Int) (a7:Int),qbuildSlice C 24 8 [(0,I a0),(1,I a1),(2,I a2),(3,I a3),(4,I a4),(5,I a5),(6,I a6),(7,I a7)]=some (Lst.cv I ⟨.exact,[a0,a1,a2,a3,a4,a5,a6,a7],nofun⟩):=fun a0 a1 a2 a3 a4 a5 a6 a7=>Y0f C tt24 tt3 (by decide) (by decide) (by simp only[partsOk,List.all_cons,List.all_nil,List.replicate_succ,List.replicate_zero,List.getElem?_cons_zero,List.getElem?_cons_succ,CV.shape,Bool.and_true,decide_true];try rfl) rfl
theorem sl_app24(p:Hp)(b s:Lst Int)(h:b.l.length+s.l.length<=17592186044416): xappend C false p 24 24 (Lst.cv I b) (Lst.cv I s)=appT I p b s:=K0n C I tt24 tt3 (fun _=>rfl) p b s (by show _*8<=_;omega) (by omega)
theorem K0s(b s:Lst Int): Lst.cv I b=Lst.cv I s ↔ b=s:=⟨fun h=>Lst.inj I_inj h,fun h=>by rw[h]⟩
theorem sl_lenl24(tl:Tail)(l:List CV)(h:Heap): qlen C h 24 (.lst tl l)=some (I l.length):=by simp only[qlen,tt24,ti24]
theorem sl_lens24(i:Nat)(q:List Nat)(o n:Nat)(h:Heap): qlen C h 24 (.slc i q o n)=some (I n):=by simp only[qlen,tt24,ti24]
def zsl24:=zA @sl_lenl24<|zA @sl_lens24<|zA @sl_len24<|zA @sl_idx24<|zA @sl_src24<|zA @sl_app24<|zA (K08 C X13)<|zA (V0x C X13)<|zA @sl_b24_1<|zA @sl_b24_8<|X13
theorem sl_len37(s:Lst Q0a)(h:Heap): qlen C h 37 (Lst.cv Q0a.cv s)=some (I s.l.length):=by simp only[qlen,tt37,ti37,Lst.cv,List.length_map]
theorem sl_idx37(s:Lst Q0a)(p:Hp)(n:Int)(h:0<=n/\n<s.l.length): xindexAddr C p 37 (Lst.cv Q0a.cv s) (I n)=some (.rptr (Q0a.cv (nth s.l n.toNat))):=by
 have hl:n.toNat<s.l.length:=by omega
 show qindexAddr C p.h 37 (.lst s.tl (s.l.map Q0a.cv)) (I n)=_
 simp only[qindexAddr,tt37,ti37,tt34,List.length_map,h,and_self,if_true,List.getElem?_map,Q0s hl,Option.map_some]
 rw[if_pos]
 exact Q0a.shape _
theorem sl_src37(s:Lst Q0a)(h:Heap): srcOf C h 37 (Lst.cv Q0a.cv s)=some (s.l.map Q0a.cv):=by simp only[srcOf,tt37,ti37,Lst.cv]
theorem Z17: isSliceT C 37=true:=by simp only[isSliceT,tt37,ti37]
theorem sl_b37_0: qbuildSlice C 37 0 []=some (Lst.cv Q0a.cv ⟨.exact,[],nofun⟩):=Y0f C tt37 tt34 (by decide) (by decide) rfl rfl
theorem sl_b37_1: ∀(a0:Q0a),qbuildSlice C 37 1 [(0,Q0a.cv a0)]=some (Lst.cv Q0a.cv ⟨.exact,[a0],nofun⟩):=fun a0=>Y0f C tt37 tt34 (by decide) (by decide) (by simp only[partsOk,List.all_cons,List.all_nil,List.replicate_succ,List.replicate_zero,List.getElem?_cons_zero,List.getElem?_cons_succ,CV.shape,Q0a.shape,Bool.and_true,decide_true];try rfl) rfl
theorem sl_app37(p:Hp)(b s:Lst Q0a)(h:b.l.length+s.l.length<=1466015503701): xappend C false p 37 37 (Lst.cv Q0a.cv b) (Lst.cv Q0a.cv s)=appT Q0a.cv p b s:=K0n C Q0a.cv tt37 tt34 Q0a.shOk p b s (by show _*96<=_;omega) (by omega)
theorem Y17(b s:Lst Q0a): Lst.cv Q0a.cv b=Lst.cv Q0a.cv s ↔ b=s:=⟨fun h=>Lst.inj Q0a.injF h,fun h=>by rw[h]⟩
theorem sl_lenl37(tl:Tail)(l:List CV)(h:Heap): qlen C h 37 (.lst tl l)=some (I l.length):=by simp only[qlen,tt37,ti37]
theorem sl_lens37(i:Nat)(q:List Nat)(o n:Nat)(h:Heap): qlen C h 37 (.slc i q o n)=some (I n):=by simp only[qlen,tt37,ti37]
def zsl37:=zA @sl_lenl37<|zA @sl_lens37<|zA @sl_len37<|zA @sl_idx37<|zA @sl_src37<|zA @sl_app37<|zA (K08 C Z17)<|zA (V0x C Z17)<|zA @sl_b37_0<|zA @sl_b37_1<|Z17
theorem sl_len58(s:Lst (Lst Int))(h:Heap): qlen C h 58 (Lst.cv (Lst.cv I) s)=some (I s.l.length):=by simp only[qlen,tt58,ti58,Lst.cv,List.length_map]
theorem sl_idx58(s:Lst (Lst Int))(p:Hp)(n:Int)(h:0<=n/\n<s.l.length): xindexAddr C p 58 (Lst.cv (Lst.cv I) s) (I n)=some (.rptr ((Lst.cv I) (nth s.l n.toNat))):=by
 have hl:n.toNat<s.l.length:=by omega
 show qindexAddr C p.h 58 (.lst s.tl (s.l.map (Lst.cv I))) (I n)=_
 simp only[qindexAddr,tt58,ti58,tt24,List.length_map,h,and_self,if_true,List.getElem?_map,Q0s hl,Option.map_some]
 rw[if_pos]
 exact rfl
theorem sl_src58(s:Lst (Lst Int))(h:Heap): srcOf C h 58 (Lst.cv (Lst.cv I) s)=some (s.l.map (Lst.cv I)):=by simp only[srcOf,tt58,ti58,Lst.cv]
theorem Q2a: isSliceT C 58=true:=by simp only[isSliceT,tt58,ti58]
theorem sl_app58(p:Hp)(b s:Lst (Lst Int))(h:b.l.length+s.l.length<=5864062014805): xappend C false p 58 58 (Lst.cv (Lst.cv I) b) (Lst.cv (Lst.cv I) s)=appT (Lst.cv I) p b s:=K0n C (Lst.cv I) tt58 tt24 (fun _=>rfl) p b s (by show _*24<=_;omega) (by omega)
theorem Y1g(b s:Lst (Lst Int)): Lst.cv (Lst.cv I) b=Lst.cv (Lst.cv I) s ↔ b=s:=⟨fun h=>Lst.inj (Lst.injF I_inj) h,fun h=>by rw[h]⟩
theorem sl_lenl58(tl:Tail)(l:List CV)(h:Heap): qlen C h 58 (.lst tl l)=some (I l.length):=by simp only[qlen,tt58,ti58]
theorem sl_lens58(i:Nat)(q:List Nat)(o n:Nat)(h:Heap): qlen C h 58 (.slc i q o n)=some (I n):=by simp only[qlen,tt58,ti58]
def zsl58:=zA @sl_lenl58<|zA @sl_lens58<|zA @sl_len58<|zA @sl_idx58<|zA @sl_src58<|zA @sl_app58<|zA (K08 C Q2a)<|zA (V0x C Q2a)<|Q2a
theorem sl_len68(s:Lst Int)(h:Heap): qlen C h 68 (Lst.cv Y8 s)=some (I s.l.length):=by simp only[qlen,tt68,ti68,Lst.cv,List.length_map]
theorem sl_idx68(s:Lst Int)(p:Hp)(n:Int)(h:0<=n/\n<s.l.length): xindexAddr C p 68 (Lst.cv Y8 s) (I n)=some (.rptr (Y8 (nth s.l n.toNat))):=by
 have hl:n.toNat<s.l.length:=by omega
 show qindexAddr C p.h 68 (.lst s.tl (s.l.map Y8)) (I n)=_
 simp only[qindexAddr,tt68,ti68,tt5,List.length_map,h,and_self,if_true,List.getElem?_map,Q0s hl,Option.map_some]
 rw[if_pos]
 exact rfl
theorem sl_src68(s:Lst Int)(h:Heap): srcOf C h 68 (Lst.cv Y8 s)=some (s.l.map Y8):=by simp only[srcOf,tt68,ti68,Lst.cv]
theorem V2c: isSliceT C 68=true:=by simp only[isSliceT,tt68,ti68]
theorem sl_b68_0: qbuildSlice C 68 0 []=some (Lst.cv Y8 ⟨.exact,[],nofun⟩):=Y0f C tt68 tt5 (by decide) (by decide) rfl rfl
theorem sl_b68_1: ∀(a0:Int),qbuildSlice C 68 1 [(0,Y8 a0)]=some (Lst.cv Y8 ⟨.exact,[a0],nofun⟩):=fun a0=>Y0f C tt68 tt5 (by decide) (by decide) (by simp only[partsOk,List.all_cons,List.all_nil,List.replicate_succ,List.replicate_zero,List.getElem?_cons_zero,List.getElem?_cons_succ,CV.shape,Bool.and_true,decide_true];try rfl) rfl
theorem sl_b68_4: ∀(a0:Int) (a1:Int) (a2:Int) (a3:Int),qbuildSlice C 68 4 [(0,Y8 a0),(1,Y8 a1),(2,Y8 a2),(3,Y8 a3)]=some (Lst.cv Y8 ⟨.exact,[a0,a1,a2,a3],nofun⟩):=fun a0 a1 a2 a3=>Y0f C tt68 tt5 (by decide) (by decide) (by simp only[partsOk,List.all_cons,List.all_nil,List.replicate_succ,List.replicate_zero,List.getElem?_cons_zero,List.getElem?_cons_succ,CV.shape,Bool.and_true,decide_true];try rfl) rfl
theorem sl_app68(p:Hp)(b s:Lst Int)(h:b.l.length+s.l.length<=140737488355328): xappend C false p 68 68 (Lst.cv Y8 b) (Lst.cv Y8 s)=appT Y8 p b s:=K0n C Y8 tt68 tt5 (fun _=>rfl) p b s (by show _*1<=_;omega) (by omega)
theorem X0h(b s:Lst Int): Lst.cv Y8 b=Lst.cv Y8 s ↔ b=s:=⟨fun h=>Lst.inj Y8_inj h,fun h=>by rw[h]⟩
theorem sl_lenl68(tl:Tail)(l:List CV)(h:Heap): qlen C h 68 (.lst tl l)=some (I l.length):=by simp only[qlen,tt68,ti68]
theorem sl_lens68(i:Nat)(q:List Nat)(o n:Nat)(h:Heap): qlen C h 68 (.slc i q o n)=some (I n):=by simp only[qlen,tt68,ti68]
def zsl68:=zA @sl_lenl68<|zA @sl_lens68<|zA @sl_len68<|zA @sl_idx68<|zA @sl_src68<|zA @sl_app68<|zA (K08 C V2c)<|zA (V0x C V2c)<|zA @sl_b68_0<|zA @sl_b68_1<|zA @sl_b68_4<|V2c
theorem sl_len92(s:Lst (Lst V0b))(h:Heap): qlen C h 92 (Lst.cv (Lst.cv V0b.cv) s)=some (I s.l.length):=by simp only[qlen,tt92,ti92,Lst.cv,List.length_map]
theorem sl_idx92(s:Lst (Lst V0b))(p:Hp)(n:Int)(h:0<=n/\n<s.l.length): xindexAddr C p 92 (Lst.cv (Lst.cv V0b.cv) s) (I n)=some (.rptr ((Lst.cv V0b.cv) (nth s.l n.toNat))):=by
 have hl:n.toNat<s.l.length:=by omega
 show qindexAddr C p.h 92 (.lst s.tl (s.l.map (Lst.cv V0b.cv))) (I n)=_
 simp only[qindexAddr,tt92,ti92,tt108,List.length_map,h,and_self,if_true,List.getElem?_map,Q0s hl,Option.map_some]
 rw[if_pos]
 exact rfl
theorem sl_src92(s:Lst (Lst V0b))(h:Heap): srcOf C h 92 (Lst.cv (Lst.cv V0b.cv) s)=some (s.l.map (Lst.cv V0b.cv)):=by simp only[srcOf,tt92,ti92,Lst.cv]
theorem K2a: isSliceT C 92=true:=by simp only[isSliceT,tt92,ti92]
theorem sl_b92_1: ∀(a0:(Lst V0b)),qbuildSlice C 92 1 [(0,(Lst.cv V0b.cv) a0)]=some (Lst.cv (Lst.cv V0b.cv) ⟨.exact,[a0],nofun⟩):=fun a0=>Y0f C tt92 tt108 (by decide) (by decide) (by simp only[partsOk,List.all_cons,List.all_nil,List.replicate_succ,List.replicate_zero,List.getElem?_cons_zero,List.getElem?_cons_succ,CV.shape,Lst.shape,Bool.and_true,decide_true];try rfl) rfl
theorem sl_app92(p:Hp)(b s:Lst (Lst V0b))(h:b.l.length+s.l.length<=5864062014805): xappend C false p 92 92 (Lst.cv (Lst.cv V0b.cv) b) (Lst.cv (Lst.cv V0b.cv) s)=appT (Lst.cv V0b.cv) p b s:=K0n C (Lst.cv V0b.cv) tt92 tt108 (fun _=>rfl) p b s (by show _*24<=_;omega) (by omega)
theorem Z18(b s:Lst (Lst V0b)): Lst.cv (Lst.cv V0b.cv) b=Lst.cv (Lst.cv V0b.cv) s ↔ b=s:=⟨fun h=>Lst.inj (Lst.injF V0b.injF) h,fun h=>by rw[h]⟩
theorem sl_lenl92(tl:Tail)(l:List CV)(h:Heap): qlen C h 92 (.lst tl l)=some (I l.length):=by simp only[qlen,tt92,ti92]
theorem sl_lens92(i:Nat)(q:List Nat)(o n:Nat)(h:Heap): qlen C h 92 (.slc i q o n)=some (I n):=by simp only[qlen,tt92,ti92]
def zsl92:=zA @sl_lenl92<|zA @sl_lens92<|zA @sl_len92<|zA @sl_idx92<|zA @sl_src92<|zA @sl_app92<|zA (K08 C K2a)<|zA (V0x C K2a)<|zA @sl_b92_1<|K2a
theorem sl_len108(s:Lst V0b)(h:Heap): qlen C h 108 (Lst.cv V0b.cv s)=some (I s.l.length):=by simp only[qlen,tt108,ti108,Lst.cv,List.length_map]
theorem sl_idx108(s:Lst V0b)(p:Hp)(n:Int)(h:0<=n/\n<s.l.length): xindexAddr C p 108 (Lst.cv V0b.cv s) (I n)=some (.rptr (V0b.cv (nth s.l n.toNat))):=by
 have hl:n.toNat<s.l.length:=by omega
 show qindexAddr C p.h 108 (.lst s.tl (s.l.map V0b.cv)) (I n)=_
 simp only[qindexAddr,tt108,ti108,tt110,List.length_map,h,and_self,if_true,List.getElem?_map,Q0s hl,Option.map_some]
 rw[if_pos]
 exact V0b.shape _
theorem sl_src108(s:Lst V0b)(h:Heap): srcOf C h 108 (Lst.cv V0b.cv s)=some (s.l.map V0b.cv):=by simp only[srcOf,tt108,ti108,Lst.cv]
theorem Y1j: isSliceT C 108=true:=by simp only[isSliceT,tt108,ti108]
theorem sl_b108_0: qbuildSlice C 108 0 []=some (Lst.cv V0b.cv ⟨.exact,[],nofun⟩):=Y0f C tt108 tt110 (by decide) (by decide) rfl rfl
theorem sl_b108_1: ∀(a0:V0b),qbuildSlice C 108 1 [(0,V0b.cv a0)]=some (Lst.cv V0b.cv ⟨.exact,[a0],nofun⟩):=fun a0=>Y0f C tt108 tt110 (by decide) (by decide) (by simp only[partsOk,List.all_cons,List.all_nil,List.replicate_succ,List.replicate_zero,List.getElem?_cons_zero,List.getElem?_cons_succ,CV.shape,V0b.shape,Bool.and_true,decide_true];try rfl) rfl
theorem sl_app108(p:Hp)(b s:Lst V0b)(h:b.l.length+s.l.length<=4398046511104): xappend C false p 108 108 (Lst.cv V0b.cv b) (Lst.cv V0b.cv s)=appT V0b.cv p b s:=K0n C V0b.cv tt108 tt110 V0b.shOk p b s (by show _*32<=_;omega) (by omega)
theorem Z05(b s:Lst V0b): Lst.cv V0b.cv b=Lst.cv V0b.cv s ↔ b=s:=⟨fun h=>Lst.inj V0b.injF h,fun h=>by rw[h]⟩
theorem sl_lenl108(tl:Tail)(l:List CV)(h:Heap): qlen C h 108 (.lst tl l)=some (I l.length):=by simp only[qlen,tt108,ti108]
theorem sl_lens108(i:Nat)(q:List Nat)(o n:Nat)(h:Heap): qlen C h 108 (.slc i q o n)=some (I n):=by simp only[qlen,tt108,ti108]
def zsl108:=zA @sl_lenl108<|zA @sl_lens108<|zA @sl_len108<|zA @sl_idx108<|zA @sl_src108<|zA @sl_app108<|zA (K08 C Y1j)<|zA (V0x C Y1j)<|zA @sl_b108_0<|zA @sl_b108_1<|Y1j
theorem sl_len154(s:Lst Bool)(h:Heap): qlen C h 154 (Lst.cv Bo s)=some (I s.l.length):=by simp only[qlen,tt154,ti154,Lst.cv,List.length_map]
theorem sl_idx154(s:Lst Bool)(p:Hp)(n:Int)(h:0<=n/\n<s.l.length): xindexAddr C p 154 (Lst.cv Bo s) (I n)=some (.rptr (Bo (nth s.l n.toNat))):=by
 have hl:n.toNat<s.l.length:=by omega
 show qindexAddr C p.h 154 (.lst s.tl (s.l.map Bo)) (I n)=_
 simp only[qindexAddr,tt154,ti154,tt4,List.length_map,h,and_self,if_true,List.getElem?_map,Q0s hl,Option.map_some]
 rw[if_pos]
 exact rfl
theorem sl_src154(s:Lst Bool)(h:Heap): srcOf C h 154 (Lst.cv Bo s)=some (s.l.map Bo):=by simp only[srcOf,tt154,ti154,Lst.cv]
theorem X1i: isSliceT C 154=true:=by simp only[isSliceT,tt154,ti154]
theorem sl_b154_1: ∀(a0:Bool),qbuildSlice C 154 1 [(0,Bo a0)]=some (Lst.cv Bo ⟨.exact,[a0],nofun⟩):=fun a0=>Y0f C tt154 tt4 (by decide) (by decide) (by simp only[partsOk,List.all_cons,List.all_nil,List.replicate_succ,List.replicate_zero,List.getElem?_cons_zero,List.getElem?_cons_succ,CV.shape,Bool.and_true,decide_true];try rfl) rfl
theorem sl_app154(p:Hp)(b s:Lst Bool)(h:b.l.length+s.l.length<=140737488355328): xappend C false p 154 154 (Lst.cv Bo b) (Lst.cv Bo s)=appT Bo p b s:=K0n C Bo tt154 tt4 (fun _=>rfl) p b s (by show _*1<=_;omega) (by omega)
theorem sl_lenl154(tl:Tail)(l:List CV)(h:Heap): qlen C h 154 (.lst tl l)=some (I l.length):=by simp only[qlen,tt154,ti154]
theorem sl_lens154(i:Nat)(q:List Nat)(o n:Nat)(h:Heap): qlen C h 154 (.slc i q o n)=some (I n):=by simp only[qlen,tt154,ti154]
def zsl154:=zA @sl_lenl154<|zA @sl_lens154<|zA @sl_len154<|zA @sl_idx154<|zA @sl_src154<|zA @sl_app154<|zA (K08 C X1i)<|zA (V0x C X1i)<|zA @sl_b154_1<|X1i
end Go.Proofs.Ytpchcfkebljopaa
end
section
namespace Go.Proofs.Ytpchcfkebljopaa
open Go.Cl Go Go.RowKit
abbrev w64(n:Int): Int:=IntKind.i64.wrap n
def brought(n lo hi:Int): Int:=max lo (min n hi)
def within(n lo hi:Int): Bool:=decide (lo<=n)&&decide (n<=hi)
theorem K0a{n lo hi:Int}(h:within n lo hi=true): lo<=n/\n<=hi:=by simpa[within]using h
abbrev Body:=Q0a
abbrev Mach:=Q0b
def Body.right(b:Q0a): Bool:=
 if b.Kind=0 then decide (b=Q0a.zero) else
 b.Mem.all (fun n=>within n (-1000000) 1000000)&&(decide (b.Kind=1) || decide (b.Kind=2))&&within b.Owner 0 7&&within b.X 0 4095&&within b.Y 0 4095&&within b.VX (-64) 64&&within b.VY (-64) 64&&within b.Age 0 600&&within b.Faults 0 65535
def bodyShoot(b:Q0a)(vx vy:Int): Q0a:=
 if Body.right b=true/\b.Kind≠0 then {Q0a.zero with Kind:=2,Owner:=b.Owner,X:=b.X,Y:=b.Y,VX:=brought vx (-64) 64,VY:=brought vy (-64) 64} else Q0a.zero
def fault(c at_:Int): CV:=.ifc 194 (K0b.cv ⟨⟨c,at_⟩⟩)
def Mach.body(m:Q0b)(f:Q0a->Q0a): Q0b:={m with e_:={m.e_ with Body:=f m.e_.Body}}
def Mach.set(m:Q0b)(k:Nat)(n:Int): Q0b:=Mach.body m fun b=>b.put_7k k (brought n (-1000000) 1000000)
def Mach.reg(m:Q0b)(k:Nat): Int:=nth m.e_.Body.Mem k
def needA(c:Int): Bool:=!(decide (c=8) || decide (c=10) || decide (c=13))
def needB(c:Int): Bool:=!(decide (c=1) || decide (c=7) || decide (c=9) || decide (c=10) || decide (c=13))
def namedOk(o:Z0b): Bool:=(!needA o.Code || within o.A 0 3)&&(!needB o.Code || within o.B 0 3)
theorem namedOk_A{o:Z0b}(h:namedOk o=true): o.Code=8\/o.Code=10\/o.Code=13\/(0<=o.A/\o.A<4):=by
 simp[namedOk,needA,within]at h;omega
theorem namedOk_B{o:Z0b}(h:namedOk o=true): o.Code=1\/o.Code=7\/o.Code=9\/o.Code=10\/o.Code=13\/(0<=o.B/\o.B<4):=by
 simp[namedOk,needB,within]at h;omega
def Mach.field(m:Q0b)(k:Nat): Int:=nth [m.e_.Body.X,m.e_.Body.Y,m.e_.Body.VX,m.e_.Body.VY,m.e_.Body.Age,m.e_.In.Buttons,m.e_.In.X,m.e_.In.Y] k
def Mach.put(m:Q0b)(k n:Int): Q0b:=Mach.body m fun b=>
 if k=0 then {b with X:=brought n 0 4095} else if k=1 then {b with Y:=brought n 0 4095} else if k=2 then {b with VX:=brought n (-64) 64} else {b with VY:=brought n (-64) 64}
def diceNext(d:Int): Int:=IntKind.u64.wrap (IntKind.u64.wrap (d*6364136223846793005)+1442695040888963407)
def diceNum(d:Int): Int:=IntKind.i64.wrap (d.fdiv (2^33))
def diceRoll(d n:Int): Int×Int:=if n<1 then(d,0) else(diceNext d,(diceNum (diceNext d)).tmod n)
def Mach.reckon(m:Q0b)(o:Z0b): Except Int Q0b:=
 let a:=Mach.reg m o.A.toNat
 let b:=Mach.reg m o.B.toNat
 let k:=o.A.toNat
 if o.Code=2 then .ok (Mach.set m k b)
 else if o.Code=3 then .ok (Mach.set m k (w64 (a+b)))
 else if o.Code=4 then .ok (Mach.set m k (w64 (a-b)))
 else if o.Code=5 then .ok (Mach.set m k (w64 (a*b)))
 else if o.Code=6 then(if b=0 then .error 1 else .ok (Mach.set m k (w64 (a.tdiv b))))
 else if o.Code=11 then(if b<1 then .error 6 else .ok (Mach.set {m with e_:={m.e_ with Dice:=(diceRoll m.e_.Dice b).1}} k (diceRoll m.e_.Dice b).2))
 else(if(m.e_.Shots.l.length:Int)<m.e_.Room then .ok {m with e_:={m.e_ with Shots:=⟨.part,m.e_.Shots.l++[bodyShoot m.e_.Body a b],nofun⟩}} else .error 7)
theorem Mach.put_at(m:Q0b)(k n:Int): (Mach.put m k n).at_=m.at_:=nd rfl
theorem Mach.reckon_keeps{m m':Q0b}{o:Z0b}(h:Mach.reckon m o=.ok m'): (m'.e_.Shots.tl=m.e_.Shots.tl\/m'.e_.Shots.tl=.part)/\m'.l_=m.l_/\m'.at_=m.at_/\m'.e_.Shots.l.length<=m.e_.Shots.l.length+1:=by
 unfold Mach.reckon at h
 simp only at h
 repeat'(split at h)
 all_goals first
  |(cases h;done)
  |(cases h;simp[Mach.set,Mach.body])
def Mach.doOp(m:Q0b)(o:Z0b): Except Int (Q0b×Int):=
 if within o.Code 1 13=false then .error 4
 else if namedOk o=false then .error 2
 else if o.Code=1 then .ok (Mach.set m o.A.toNat o.B,m.at_+1)
 else if o.Code=7 then(if within o.B 0 7=false then .error 3 else .ok (Mach.set m o.A.toNat (Mach.field m o.B.toNat),m.at_+1))
 else if o.Code=8 then(if within o.A 0 3=false then .error 3 else .ok (Mach.put m o.A (Mach.reg m o.B.toNat),m.at_+1))
 else if o.Code=9 then(if Mach.reg m o.A.toNat=0 then(if within o.B 0 m.l_.l.length=false then .error 4 else .ok (m,o.B))else .ok (m,m.at_+1))
 else if o.Code=10 then(if within o.B 0 m.l_.l.length=false then .error 4 else .ok (m,o.B))
 else if o.Code=13 then .ok (m,m.l_.l.length)
 else match Mach.reckon m o with
  |.error c=>.error c
  |.ok m'=>.ok (m',m.at_+1)
theorem Mach.doOp_keeps{m m':Q0b}{o:Z0b}{n:Int}(h:Mach.doOp m o=.ok (m',n))(h1:0<=m.at_)(h2:m.at_<m.l_.l.length): (m'.e_.Shots.tl=m.e_.Shots.tl\/m'.e_.Shots.tl=.part)/\m'.l_=m.l_/\m'.at_=m.at_/\m'.e_.Shots.l.length<=m.e_.Shots.l.length+1/\0<=n/\n<=m.l_.l.length:=by
 unfold Mach.doOp at h
 repeat'(split at h)
 all_goals first
  |(cases h;done)
  |(rename_i hr;cases h;have:=Mach.reckon_keeps hr;exact⟨this.1,this.2.1,this.2.2.1,this.2.2.2,by omega,by omega⟩)
  |(cases h;refine⟨.inl ?_,?_,?_,?_,?_,?_⟩<;>first|rfl|omega|(simp[Mach.set,Mach.put,Mach.body];done))
  |(rename_i hw;cases h;have hw:=K0a (by simpa using hw);exact⟨.inl rfl,rfl,rfl,by omega,hw.1,hw.2⟩)
def Mach.run: Nat->Q0b->Except (Int×Int) Q0b
 |k,m=>if m.at_<m.l_.l.length then
   match k with
   |0=>.error (5,m.at_)
   |k+1=>match Mach.doOp m (nth m.l_.l m.at_.toNat) with
    |.error c=>.error (c,m.at_)
    |.ok (m',n)=>Mach.run k {m' with at_:=n}
  else .ok m
def cloneL{α:Type}(s:Lst α)(n:Nat): Lst α:=
 match s.tl with
 |.nil=>⟨.nil,[],fun _=>rfl⟩
 |_=>match s.l with
  |[]=>⟨.exact,[],nofun⟩
  |x::l=>⟨.own n,x::l,nofun⟩
def cloneP{α:Type}(s:Lst α): Lst α:=
 match s.tl with
 |.nil=>⟨.nil,[],fun _=>rfl⟩
 |_=>match s.l with
  |[]=>⟨.exact,[],nofun⟩
  |x::l=>⟨.part,x::l,nofun⟩
theorem Y0w{α:Type}(s:Lst α): (cloneP s).l=s.l:=by
 obtain⟨tl,l,o⟩:=s
 cases tl<;>cases l<;>simp_all[cloneP]
theorem cloneP_tl{α:Type}(s:Lst α): (cloneP s).tl=.nil\/(cloneP s).tl=.exact\/(cloneP s).tl=.part:=by
 obtain⟨tl,l,o⟩:=s
 cases tl<;>cases l<;>simp_all[cloneP]
theorem cloneP_no{α:Type}(s:Lst α)(j:Nat): (cloneP s).tl≠.own j:=by rcases cloneP_tl s with h|h|h<;>rw[h]<;>simp
theorem X09{α:Type}{f:α->CV}(hf:∀x j,¬(f x).has j)(s:Lst α)(n k:Nat): CV.weak (fun k=>k) k (Lst.cv f (cloneL s n)) (Lst.cv f (cloneP s)):=by
 have hl:∀l:List α,CV.weakL (fun k=>k) k (l.map f) (l.map f):=fun l=>CV.weakL_refl _ fun j hj=>(X0m hf l j hj).elim
 obtain⟨tl,l,o⟩:=s
 cases tl<;>cases l<;>simp only[cloneL,cloneP,Lst.cv,CV.weak,Tail.weak,true_and]<;>exact hl _
def copiedE(e:V0d): V0d:={e with Shots:=cloneP e.Shots}
def ruleRun(l:Lst Z0b)(e:V0d): V0d×X0c×Bool:=
 if Body.right e.Body=false\/e.Body.Kind=0 then(copiedE e,⟨0,0⟩,false)
 else match Mach.run 64 ⟨copiedE e,l,0⟩ with
  |.ok m=>(m.e_,⟨0,0⟩,true)
  |.error c=>(copiedE e,⟨c.1,c.2⟩,false)
end Go.Proofs.Ytpchcfkebljopaa
end
section
namespace Go.Proofs.Ytpchcfkebljopaa
open Go.Cl Go Go.RowKit
set_option maxRecDepth 100000
set_option linter.constructorNameAsVariable false
def R140: Rel:=fun args p r=>∃(n lo hi:Int),args=[I n,I lo,I hi]/\r=.ret (I (brought n lo hi)) p
theorem t140{T:XCall}(h:Has T 140 R140)(n lo hi:Int){p:Hp}:T 140 [I n,I lo,I hi] p=.ret (I (brought n lo hi)) p:=h _ _ _ ⟨n,lo,hi,rfl,rfl⟩
theorem zq140{A B:Prop}(k:B)(h:A=B:=by have zy:=zA @zw140<|zA @rs140<|zA @tt3<|ti3.eq_1;exact zQ): A:=h▸k
theorem c140: Con C 140 R140:=by
 refine V0e C ?_ ?_ ?_
 ·rintro args p r r' ⟨n,lo,hi,h,e⟩ ⟨n',lo',hi',h',e'⟩
  subst e;subst e';simp_all
 ·rintro args p r ⟨n,lo,hi,h,rfl⟩;exact zr1
 rintro args p r ⟨n,lo,hi,rfl,rfl⟩
 refine zW C false [] zT rfl xf140 zc140_ok fun call zh hF=>?_
 clear zh
 (have zx:=zT;refine zq140 ?_;clear zx;try exact zT)
 exact K0d hF (fun _ _ h=>h) (weak_I _ _)
def R80: Rel:=fun args p r=>∃(n lo hi:Int),args=[I n,I lo,I hi]/\r=.ret (I (brought n lo hi)) p
theorem t80{T:XCall}(h:Has T 80 R80)(n lo hi:Int){p:Hp}:T 80 [I n,I lo,I hi] p=.ret (I (brought n lo hi)) p:=h _ _ _ ⟨n,lo,hi,rfl,rfl⟩
theorem zq80{A B:Prop}(k:B)(h:A=B:=by have zy:=zA @zw80<|zA @rs80<|zA @tt3<|ti3.eq_1;exact zQ): A:=h▸k
theorem c80: Con C 80 R80:=by
 refine V0e C ?_ ?_ ?_
 ·rintro args p r r' ⟨n,lo,hi,h,e⟩ ⟨n',lo',hi',h',e'⟩
  subst e;subst e';simp_all
 ·rintro args p r ⟨n,lo,hi,h,rfl⟩;exact zr1
 rintro args p r ⟨n,lo,hi,rfl,rfl⟩
 refine zW C false [] zT rfl xf80 zc80_ok fun call zh hF=>?_
 clear zh
 (have zx:=zT;refine zq80 ?_;clear zx;try exact zT)
 refine K0d hF (fun _ _ h=>h) (Q0c ?_ (Z0c (I_has _)))
 simp[brought,Int.min_comm]
def R84: Rel:=fun args p r=>∃(n lo hi:Int),args=[I n,I lo,I hi]/\r=.ret (Bo (within n lo hi)) p
theorem t84{T:XCall}(h:Has T 84 R84)(n lo hi:Int){p:Hp}:T 84 [I n,I lo,I hi] p=.ret (Bo (within n lo hi)) p:=h _ _ _ ⟨n,lo,hi,rfl,rfl⟩
theorem zq84{A B:Prop}(k:B)(h:A=B:=by have zy:=zA @zw84<|zA @rs84<|zA @tt3<|ti3.eq_1;exact zQ): A:=h▸k
theorem c84: Con C 84 R84:=by
 refine V0e C ?_ ?_ ?_
 ·rintro args p r r' ⟨n,lo,hi,h,e⟩ ⟨n',lo',hi',h',e'⟩
  subst e;subst e';simp_all
 ·rintro args p r ⟨n,lo,hi,h,rfl⟩;exact zr1
 rintro args p r ⟨n,lo,hi,rfl,rfl⟩
 refine zW C false [] zT rfl xf84 zc84_ok fun call zh hF=>?_
 clear zh
 (have zx:=zT;refine zq84 ?_;try exact zT)
 repeat'(apply zK.s<;>intro hc<;>(try simp only[zhd]at hc)<;>(try have hw:=K0a hc)<;>(refine zq84 ?_;try exact zT))
 all_goals(try clear zx)
 all_goals(refine K0d hF (fun _ _ h=>h) (Q0c ?_ (Z0c (Bo_has _))))
 all_goals simp[within];try omega
def R71: Rel:=fun args p r=>∃(n lo hi:Int),args=[I n,I lo,I hi]/\r=.ret (Bo (within n lo hi)) p
theorem t71{T:XCall}(h:Has T 71 R71)(n lo hi:Int){p:Hp}:T 71 [I n,I lo,I hi] p=.ret (Bo (within n lo hi)) p:=h _ _ _ ⟨n,lo,hi,rfl,rfl⟩
theorem zq71{A B:Prop}(k:B)(h:A=B:=by have zy:=zA @zw71<|zA @rs71<|zA @tt3<|ti3.eq_1;exact zQ): A:=h▸k
theorem c71: Con C 71 R71:=by
 refine V0e C ?_ ?_ ?_
 ·rintro args p r r' ⟨n,lo,hi,h,e⟩ ⟨n',lo',hi',h',e'⟩
  subst e;subst e';simp_all
 ·rintro args p r ⟨n,lo,hi,h,rfl⟩;exact zr1
 rintro args p r ⟨n,lo,hi,rfl,rfl⟩
 refine zW C false [] zT rfl xf71 zc71_ok fun call zh hF=>?_
 clear zh
 (have zx:=zT;refine zq71 ?_;try exact zT)
 repeat'(apply zK.s<;>intro hc<;>(try simp only[zhd]at hc)<;>(try have hw:=K0a hc)<;>(refine zq71 ?_;try exact zT))
 all_goals(try clear zx)
 all_goals(refine K0d hF (fun _ _ h=>h) (Q0c ?_ (Z0c (Bo_has _))))
 all_goals simp[within];try omega
def R85: Rel:=fun args p r=>∃(n lo hi:Int),args=[I n,I lo,I hi]/\r=.ret (Bo (within n lo hi)) p
theorem t85{T:XCall}(h:Has T 85 R85)(n lo hi:Int){p:Hp}:T 85 [I n,I lo,I hi] p=.ret (Bo (within n lo hi)) p:=h _ _ _ ⟨n,lo,hi,rfl,rfl⟩
theorem zq85{A B:Prop}(k:B)(h:A=B:=by have zy:=zA @zw85<|zA @rs85<|zA @tt3<|ti3.eq_1;exact zQ): A:=h▸k
theorem c85: Con C 85 R85:=by
 refine V0e C ?_ ?_ ?_
 ·rintro args p r r' ⟨n,lo,hi,h,e⟩ ⟨n',lo',hi',h',e'⟩
  subst e;subst e';simp_all
 ·rintro args p r ⟨n,lo,hi,h,rfl⟩;exact zr1
 rintro args p r ⟨n,lo,hi,rfl,rfl⟩
 refine zW C false [] zT rfl xf85 zc85_ok fun call zh hF=>?_
 clear zh
 (have zx:=zT;refine zq85 ?_;try exact zT)
 repeat'(apply zK.s<;>intro hc<;>(try simp only[zhd]at hc)<;>(try have hw:=K0a hc)<;>(refine zq85 ?_;try exact zT))
 all_goals(try clear zx)
 all_goals(refine K0d hF (fun _ _ h=>h) (Q0c ?_ (Z0c (Bo_has _))))
 all_goals simp[within];try omega
def R200: Rel:=fun args p r=>∃(c a:Int),args=[I c,I a]/\r=.pan (fault c a) p
theorem t200{T:XCall}(h:Has T 200 R200)(c a:Int){p:Hp}:T 200 [I c,I a] p=.pan (fault c a) p:=h _ _ _ ⟨c,a,rfl,rfl⟩
theorem zq200{A B:Prop}(k:B)(h:A=B:=by have zy:=zA @zw200<|zA @rs200<|zA @tt44<|zA @tt194<|zA ti44.eq_1<|zA ti194.eq_1<|zA @X0p<|@Y0u;exact zQ): A:=h▸k
theorem c200: Con C 200 R200:=by
 refine V0e C ?_ ?_ ?_
 ·rintro args p r r' ⟨c,a,h,e⟩ ⟨c',a',h',e'⟩
  subst e;subst e';simp_all[X0c.inj_iff,K0b.inj_iff]
 ·rintro args p r ⟨c,a,h,rfl⟩;exact zr1
 rintro args p r ⟨c,a,rfl,rfl⟩
 refine zW C false [] zT rfl xf200 zc200_ok fun call zh hF=>?_
 clear zh
 (have zx:=zT;refine zq200 ?_;clear zx;try exact zT)
 exact V06 hF (fun _ _ h=>h) (V0f (Z0c (by simp[CV.has,fault,K0b.nohas])))
def R181: Rel:=fun args p r=>∃(ok:Bool) (c a:Int),args=[Bo ok,I c,I a]/\r=(if ok=true then .ret (.tup []) p else .pan (fault c a) p)
theorem t181{T:XCall}(h:Has T 181 R181)(ok:Bool)(c a:Int){p:Hp}:T 181 [Bo ok,I c,I a] p=(if ok=true then .ret (.tup []) p else .pan (fault c a) p):=h _ _ _ ⟨ok,c,a,rfl,rfl⟩
theorem zq181{A B:Prop}(k:B)(h:A=B:=by have zy:=zA @zw181<|zA @rs181<|@t_200;exact zQ): A:=h▸k
theorem c181: Con C 181 R181:=by
 refine V0e C ?_ ?_ ?_
 ·rintro args p r r' ⟨ok,c,a,h,e⟩ ⟨ok',c',a',h',e'⟩
  subst e;subst e';simp_all
 ·rintro args p r ⟨ok,c,a,h,rfl⟩;exact zr1
 rintro args p r ⟨ok,c,a,rfl,rfl⟩
 refine zW C false [(200,R200)] ⟨c200,zT⟩ rfl xf181 zc181_ok fun call zh hF=>?_
 have t_200:=@t200 _ zh.1
 clear zh
 (have zx:=zT;refine zq181 ?_;try exact zT)
 repeat'(apply zK.s<;>intro hc<;>(try simp only[zhd]at hc)<;>(try have hw:=K0a hc)<;>(refine zq181 ?_;try exact zT))
 all_goals(try clear zx)
 ·exact K0d hF zle (V0f (Z0c tup0_no))
 ·exact V06 hF zle (V0f (Z0c (by simp[CV.has,fault,K0b.nohas])))
def R24: Rel:=fun args p r=>∃(b:Q0a),args=[b.cv]/\r=.ret (Bo (Body.right b)) p
theorem t24{T:XCall}(h:Has T 24 R24)(b:Q0a){p:Hp}:T 24 [b.cv] p=.ret (Bo (Body.right b)) p:=h _ _ _ ⟨b,rfl,rfl⟩
theorem zq24{A B:Prop}(k:B)(h:A=B:=by have zy:=zA @zw24<|zA @rs24<|zA @tt3<|zA @tt32<|zA @tt34<|zA ti3.eq_1<|zA ti32.eq_1<|zA ti34.eq_1<|zA @t_71<|zA @Q0f<|@zsl32;exact zQ): A:=h▸k
theorem zno24{P:Prop}(h:P:=by intro jj;simp[CV.has,CV.hasL,fault,K0b.nohas,Q0a.nohas]): P:=h
theorem c24: Con C 24 R24:=by
 refine V0e C ?_ ?_ ?_
 ·rintro args p r r' ⟨b,h,e⟩ ⟨b',h',e'⟩
  subst e;subst e';simp_all[Q0a.inj_iff]
 ·rintro args p r ⟨b,h,rfl⟩;exact zr1
 rintro args p r ⟨b,rfl,rfl⟩
 refine zW C false [(71,R71)] ⟨c71,zT⟩ rfl xf24 zc24_ok fun call zh hF=>?_
 have t_71:=@t71 _ zh.1
 clear zh
 have hm:=b.hMem
 (have zx:=zT;refine zq24 ?_;try exact zT)
 repeat'(apply zK.s<;>intro hc<;>(try simp only[zhd]at hc)<;>(try have hw:=K0a hc)<;>(refine zq24 ?_;try exact zT))
 all_goals(try clear zx)
 ·refine K0d hF zle (Q0c ?_ (Z0c zno24))
  simp only[Body.right,hc,if_true]
  rfl
 refine⟨5,?_⟩
 simp only[Wn_succ]
 (have zx:=zT;refine zq24 ?_;try exact zT)
 repeat'(apply zK.s<;>intro hc<;>(try simp only[zhd]at hc)<;>(try have hw:=K0a hc)<;>(refine zq24 ?_;try exact zT))
 all_goals(try clear zx)
 all_goals(refine K0d hF zle (Q0c ?_ (Z0c zno24)))
 all_goals simp[Body.right,all_nth4 hm, *]
noncomputable def resM(i:Nat)(m:Q0b)(p:Hp)(r:Except Int Q0b): XRes:=
 match r with
 |.ok m'=>.ret (.tup []) (p.set i (some (.var sh131 m'.cv)))
 |.error c=>.pan (fault c m.at_) p
noncomputable def resD(i:Nat)(m:Q0b)(p:Hp)(r:Except Int (Q0b×Int)): XRes:=
 match r with
 |.ok m'=>.ret (I m'.2) (p.set i (some (.var sh131 m'.1.cv)))
 |.error c=>.pan (fault c m.at_) p
end Go.Proofs.Ytpchcfkebljopaa
end
section
namespace Go.Proofs.Ytpchcfkebljopaa
open Go.Cl Go Go.RowKit
set_option maxRecDepth 100000
noncomputable def zn73_1: ZC:=ZC.reg [⟨some 2,.alloc 44,none,false⟩,⟨some 3,.alloc 4,none,true⟩]
noncomputable def zn73_4: ZC:=ZC.reg [⟨some 4,.move (.tmp 0),none,false⟩,⟨some 5,.binOp .eql 1 (.tmp 4) (.const .nilFunc) 1,none,true⟩]
noncomputable def zn73_7: ZC:=ZC.reg [⟨some 6,.build 44 ⟨[]⟩,none,false⟩,⟨none,.store 44 (.tmp 2) (.tmp 6),none,false⟩,⟨none,.store 4 (.tmp 3) (.const (.bool false)),none,true⟩]
noncomputable def zn73_6: ZC:=ZC.seq zn73_7 ZC.ret
noncomputable def zn73_5: ZC:=ZC.cond (.tmp 5) zn73_6 ZC.skip
noncomputable def zn73_3: ZC:=ZC.seq zn73_4 zn73_5
noncomputable def zn73_9: ZC:=ZC.reg [⟨some 7,.makeFunc (.func 149) ⟨[]⟩ ⟨[.tmp 2,.tmp 3]⟩,none,false⟩,⟨none,.defer ⟨.value (.tmp 7),⟨[]⟩,⟨[]⟩⟩,none,true⟩]
noncomputable def zn73_11: ZC:=ZC.reg [⟨some 8,.move (.tmp 0),none,false⟩,⟨some 9,.call ⟨.value (.tmp 8),⟨[]⟩,⟨[]⟩⟩,none,true⟩]
noncomputable def zn73_13: ZC:=ZC.reg [⟨some 10,.build 44 ⟨[]⟩,none,false⟩,⟨none,.store 44 (.tmp 2) (.tmp 10),none,false⟩,⟨none,.store 4 (.tmp 3) (.const (.bool false)),none,true⟩]
noncomputable def zn73_12: ZC:=ZC.seq zn73_13 ZC.ret
noncomputable def Q1m: ZC:=ZC.seq zn73_11 zn73_12
noncomputable def zn73_8: ZC:=ZC.seq zn73_9 Q1m
noncomputable def zn73_2: ZC:=ZC.seq zn73_3 zn73_8
noncomputable def zn73_0: ZC:=ZC.seq zn73_1 zn73_2
noncomputable def zc73: ZC:=zn73_0
def zw73:=zU C zc73.eq_1<|zU C zn73_1.eq_1<|zU C zn73_4.eq_1<|zU C zn73_7.eq_1<|zU C zn73_6.eq_1<|zU C zn73_5.eq_1<|zU C zn73_3.eq_1<|zU C zn73_9.eq_1<|zU C zn73_11.eq_1<|zU C zn73_13.eq_1<|zU C zn73_12.eq_1<|zU C Q1m.eq_1<|zU C zn73_8.eq_1<|zU C zn73_2.eq_1<|(zunf C zn73_0.eq_1)
theorem rs73: (xfOf Try.f73).rs=[.cell 2 44,.cell 3 4]:=by kernel_rfl
noncomputable def zn149_1: ZC:=ZC.reg [⟨some 5,.call ⟨.builtin .recover,⟨[]⟩,⟨[]⟩⟩,none,true⟩]
noncomputable def zn149_4: ZC:=ZC.reg [⟨some 7,.binOp .eql 20 (.tmp 5) (.const .nilIface) 20,none,true⟩]
noncomputable def zn149_6: ZC:=ZC.reg [⟨some 2,.assign (.tmp 5),none,true⟩]
noncomputable def zn149_8: ZC:=ZC.reg [⟨some 8,.typeAssert (.tmp 5) 20 194 true,none,false⟩,⟨some 9,.extract (.tmp 8) 1,none,false⟩,⟨some 10,.extract (.tmp 8) 0,none,true⟩]
noncomputable def zn149_11: ZC:=ZC.reg [⟨some 3,.alloc 194,none,false⟩,⟨none,.store 194 (.tmp 3) (.tmp 10),none,true⟩]
noncomputable def zn149_12: ZC:=ZC.reg [⟨some 11,.fieldAddr 194 (.tmp 3) 0,none,false⟩,⟨some 12,.load 44 (.tmp 11),none,false⟩,⟨none,.store 44 (.tmp 0) (.tmp 12),none,false⟩,⟨none,.store 4 (.tmp 1) (.const (.bool true)),none,true⟩]
noncomputable def zn149_10: ZC:=ZC.seq zn149_11 zn149_12
noncomputable def zn149_14: ZC:=ZC.reg [⟨some 4,.assign (.tmp 5),none,true⟩]
noncomputable def zn149_15: ZC:=ZC.reg [⟨some 6,.move (.tmp 4),none,false⟩,⟨none,.panic (.tmp 6),none,true⟩]
noncomputable def zn149_13: ZC:=ZC.seq zn149_14 zn149_15
noncomputable def zn149_9: ZC:=ZC.cond (.tmp 9) zn149_10 zn149_13
noncomputable def zn149_7: ZC:=ZC.seq zn149_8 zn149_9
noncomputable def zn149_5: ZC:=ZC.cond (.tmp 7) zn149_6 zn149_7
noncomputable def zn149_3: ZC:=ZC.seq zn149_4 zn149_5
noncomputable def V1m: ZC:=ZC.block 0 zn149_3
noncomputable def zn149_0: ZC:=ZC.seq zn149_1 V1m
noncomputable def zc149: ZC:=zn149_0
def zw149:=zU C zc149.eq_1<|zU C zn149_1.eq_1<|zU C zn149_4.eq_1<|zU C zn149_6.eq_1<|zU C zn149_8.eq_1<|zU C zn149_11.eq_1<|zU C zn149_12.eq_1<|zU C zn149_10.eq_1<|zU C zn149_14.eq_1<|zU C zn149_15.eq_1<|zU C zn149_13.eq_1<|zU C zn149_9.eq_1<|zU C zn149_7.eq_1<|zU C zn149_5.eq_1<|zU C zn149_3.eq_1<|zU C V1m.eq_1<|(zunf C zn149_0.eq_1)
end Go.Proofs.Ytpchcfkebljopaa
end
section
namespace Go.Proofs.Ytpchcfkebljopaa
open Go.Cl Go Go.RowKit
noncomputable def xc73: XC:=⟨catA (Try.f73.body.getD .skip),catB (Try.f73.body.getD .skip),catP (Try.f73.body.getD .skip),Try.f73.results.toList,Try.f73.ntmps,7,149,[2,3],5,catR (Try.f149.body.getD .skip),Try.f149.ntmps⟩
theorem xc73_ok: XCok C 73 xc73 where
 fn:=⟨Try.f73,_,_,_,_,_,_,_,_,by kernel_rfl,rfl,rfl,rfl⟩
 cl:=⟨Try.f149,_,_,_,_,_,by kernel_rfl,rfl,rfl,rfl,by kernel_rfl⟩
 ok:=⟨by kernel_rfl,by kernel_rfl,by kernel_rfl,by kernel_rfl,by kernel_rfl⟩
 lt:=⟨of_decide_eq_true (by kernel_rfl),of_decide_eq_true (by kernel_rfl),fun t ht=>of_decide_eq_true (List.all_eq_true.1 (show xc73.caps.all (fun t=>decide (t<xc73.n))=true by kernel_rfl) t ht),of_decide_eq_true (by kernel_rfl),of_decide_eq_true (by kernel_rfl)⟩
theorem xc73_n: ∃fn,C.P.funcs[73]?=some fn/\fn.body.isNone=false/\(fn.name == "runtime.NumGoroutine")=false:=⟨Try.f73,by kernel_rfl,by kernel_rfl,by kernel_rfl⟩
theorem xc73_a: zcode xc73.a=some zn73_1:=by kernel_rfl
theorem xc73_b: zcode xc73.b=some zn73_3:=by kernel_rfl
theorem xc73_p: zcode xc73.post=some Q1m:=by kernel_rfl
theorem xc73_r: zcode xc73.rest=some V1m:=by kernel_rfl
theorem xc73_rs: xc73.rs=[.cell 2 44,.cell 3 4]:=by kernel_rfl
theorem xc73_z: xc73.k=7/\xc73.g=149/\xc73.caps=[2,3]/\xc73.gd=5/\xc73.rs=[.cell 2 44,.cell 3 4]/\(∀p:Hp,Cl.xalloc C p 4=.ret (.ptr p.n []) (p.new (.var .s (Bo false)))):=⟨rfl,rfl,rfl,rfl,xc73_rs,fun p=>by simp only[Cl.xalloc,tt4,ti4]⟩
end Go.Proofs.Ytpchcfkebljopaa
end
section
namespace Go.Proofs.Ytpchcfkebljopaa
open Go.Cl Go Go.RowKit
set_option maxRecDepth 100000
set_option linter.constructorNameAsVariable false
end Go.Proofs.Ytpchcfkebljopaa
end
section
namespace Go.Proofs.Ytpchcfkebljopaa
open Go.Cl Go Go.RowKit
set_option maxRecDepth 100000
end Go.Proofs.Ytpchcfkebljopaa
end
section
namespace Go.Proofs.Ytpchcfkebljopaa
open Go.Cl Go Go.RowKit
def pick(n m:Int): Int:=if n.tmod m<0 then n.tmod m+m else n.tmod m
theorem V0g{n m:Int}(h:0<m): 0<=pick n m/\pick n m<m:=by
 unfold pick
 have h1:=Int.tmod_lt_of_pos n h
 have h2:-m<n.tmod m:=by
  have:=Int.lt_tmod_of_pos n h
  omega
 split<;>omega
def bodyBorn(owner players:Int): Q0a:=
 {Q0a.zero with Kind:=1,Owner:=brought owner 0 (brought players 1 8-1),X:=w64 (((2*brought owner 0 (brought players 1 8-1)+1)*4096).tdiv (2*brought players 1 8)),Y:=2048}
def handInput(n m:Int): Z0a:=⟨pick n 256,w64 (pick m 129-64),w64 (pick (w64 (m.tdiv 129)) 129-64)⟩
def handOp(x:X0b): Z0b:=
 let c:=w64 (1+pick x.Code 13)
 let b:=if c=1 then w64 (pick x.B 90-30)else if c=7 then pick x.B 8 else if c=9\/c=10 then pick x.B 9 else pick x.B 4
 let k:=pick x.Code 101
 if k=97 then⟨c,x.A,b⟩else if k=98 then⟨c,pick x.A 4,x.B⟩else if k=99 then⟨x.B,pick x.A 4,b⟩else if k=100 then⟨c,pick x.A 9,b⟩ else⟨c,pick x.A 4,b⟩
def memVal(v:Int): Int:=if v.tmod 9=8 then w64 (pick v 2000001-1000000)else w64 (pick v 41-20)
def memN(l:List Int): Nat->Q0a->Q0a
 |0,b=>b
 |k+1,b=>(memN l k b).put_7k k (memVal (nth l k))
def env0: V0d:={V0d.zero with Body:=bodyBorn 0 1,In:=⟨3,-64,7⟩,Dice:=5,Room:=2}
end Go.Proofs.Ytpchcfkebljopaa
end
section
namespace Go.Proofs.Ytpchcfkebljopaa
open Go.Cl Go Go.RowKit
set_option maxRecDepth 100000
set_option linter.constructorNameAsVariable false
def R37: Rel:=fun args p r=>∃(n m:Int),args=[I n,I m]/\(0<m)/\(m<=9223372036854775807)/\r=.ret (I (pick n m)) p
theorem t37{T:XCall}(h:Has T 37 R37)(n m:Int){p:Hp}(h1:0<m)(h2:m<=9223372036854775807): T 37 [I n,I m] p=.ret (I (pick n m)) p:=h _ _ _ ⟨n,m,rfl,h1,h2,rfl⟩
theorem zq37{A B:Prop}(k:B)(h:A=B:=by have zy:=zA @zw37<|zA @rs37<|zA @tt3<|zA ti3.eq_1<|zA @h1<|@h2;exact zQ): A:=h▸k
theorem zno37{P:Prop}(h:P:=by intro jj;simp[CV.has,CV.hasL,fault,K0b.nohas]): P:=h
theorem c37: Con C 37 R37:=by
 refine V0e C ?_ ?_ ?_
 ·rintro args p r r' ⟨n,m,h,h1,h2,e⟩ ⟨n',m',h',h1',h2',e'⟩
  subst e;subst e';simp_all
 ·rintro args p r ⟨n,m,h,h1,h2,rfl⟩;exact zr1
 rintro args p r ⟨n,m,rfl,h1,h2,rfl⟩
 refine zW C false [] zT rfl xf37 zc37_ok fun call zh hF=>?_
 clear zh
 have hm:=Int.tmod_lt_of_pos n h1
 have hm2:=Int.lt_tmod_of_pos n h1
 (have zx:=zT;refine zq37 ?_;try exact zT)
 repeat'(apply zK.s<;>intro hc<;>(try simp only[zhd,zhn]at hc)<;>(try have hw:=K0a hc)<;>(refine zq37 ?_;try exact zT))
 all_goals(try clear zx)
 all_goals refine K0d hF zle (Q0c ?_ (Z0c zno37))
 all_goals(simp[pick,hc]<;>omega)
def R64: Rel:=fun args p r=>∃(o k:Int),args=[I o,I k]/\r=.ret (bodyBorn o k).cv p
theorem t64{T:XCall}(h:Has T 64 R64)(o k:Int){p:Hp}:T 64 [I o,I k] p=.ret (bodyBorn o k).cv p:=h _ _ _ ⟨o,k,rfl,rfl⟩
theorem zq64{A B:Prop}(k:B)(h:A=B:=by have zy:=zA @zw64<|zA @rs64<|zA @tt3<|zA @tt34<|zA ti3.eq_1<|zA ti34.eq_1<|zA @t_140<|@Q0f;exact zQ): A:=h▸k
theorem zno64{P:Prop}(h:P:=by intro jj;simp[CV.has,CV.hasL,fault,K0b.nohas,Q0a.nohas]): P:=h
theorem c64: Con C 64 R64:=by
 refine V0e C ?_ ?_ ?_
 ·rintro args p r r' ⟨o,k,h,e⟩ ⟨o',k',h',e'⟩
  subst e;subst e';simp_all[Q0a.inj_iff]
 ·rintro args p r ⟨o,k,h,rfl⟩;exact zr1
 rintro args p r ⟨o,k,rfl,rfl⟩
 refine zW C false [(140,R140)] ⟨c140,zT⟩ rfl xf64 zc64_ok fun call zh hF=>?_
 have t_140:=@t140 _ zh.1
 clear zh
 have h1:1<=brought k 1 8/\brought k 1 8<=8:=by unfold brought;omega
 have h2:0<=brought o 0 (brought k 1 8-1)/\brought o 0 (brought k 1 8-1)<=7:=by
  have:∀a b:Int,0<=b->b<=7->0<=brought a 0 b/\brought a 0 b<=7:=by intro a b _ _;unfold brought;omega
  exact this _ _ (by omega) (by omega)
 (have zx:=zT;refine zq64 ?_;try exact zT)
 repeat'(apply zK.s<;>intro hc<;>(try simp only[zhd,zhn]at hc)<;>(try have hw:=K0a hc)<;>(refine zq64 ?_;try exact zT))
 all_goals(try clear zx)
 exact K0d hF zle (Q0c rfl (Z0c zno64))
def R69: Rel:=fun args p r=>∃(n k:Int),args=[I n,I k]/\(-9223372036854775808<=k/\k<=9223372036854775807)/\r=.ret (handInput n k).cv p
theorem t69{T:XCall}(h:Has T 69 R69)(n k:Int){p:Hp}(h1:-9223372036854775808<=k/\k<=9223372036854775807): T 69 [I n,I k] p=.ret (handInput n k).cv p:=h _ _ _ ⟨n,k,rfl,h1,rfl⟩
theorem zq69{A B:Prop}(k:B)(h:A=B:=by have zy:=zA @zw69<|zA @rs69<|zA @tt3<|zA @tt36<|zA ti3.eq_1<|zA ti36.eq_1<|zA @t_37<|zA @Z0o<|@h1;exact zQ): A:=h▸k
theorem zno69{P:Prop}(h:P:=by intro jj;simp[CV.has,CV.hasL,fault,K0b.nohas,Z0a.nohas]): P:=h
theorem c69: Con C 69 R69:=by
 refine V0e C ?_ ?_ ?_
 ·rintro args p r r' ⟨n,k,h,h1,e⟩ ⟨n',k',h',h1',e'⟩
  subst e;subst e';simp_all[Z0a.inj_iff]
 ·rintro args p r ⟨n,k,h,h1,rfl⟩;exact zr1
 rintro args p r ⟨n,k,rfl,h1,rfl⟩
 refine zW C false [(37,R37)] ⟨c37,zT⟩ rfl xf69 zc69_ok fun call zh hF=>?_
 have t_37:=@t37 _ zh.1
 clear zh
 (have zx:=zT;refine zq69 ?_;try exact zT)
 repeat'(apply zK.s<;>intro hc<;>(try simp only[zhd,zhn]at hc)<;>(try have hw:=K0a hc)<;>(refine zq69 ?_;try exact zT))
 all_goals(try clear zx)
 exact K0d hF zle (Q0c rfl (Z0c zno69))
def R21: Rel:=fun args p r=>∃(x:X0b),args=[x.cv]/\r=.ret (handOp x).cv p
theorem t21{T:XCall}(h:Has T 21 R21)(x:X0b){p:Hp}:T 21 [x.cv] p=.ret (handOp x).cv p:=h _ _ _ ⟨x,rfl,rfl⟩
theorem zq21{A B:Prop}(k:B)(h:A=B:=by have zy:=zA @zw21<|zA @rs21<|zA @tt3<|zA @tt29<|zA @tt31<|zA ti3.eq_1<|zA ti29.eq_1<|zA ti31.eq_1<|zA @t_37<|zA @V08<|@K0q;exact zQ): A:=h▸k
theorem zno21{P:Prop}(h:P:=by intro jj;simp[CV.has,CV.hasL,fault,K0b.nohas,X0b.nohas,Z0b.nohas]): P:=h
theorem c21: Con C 21 R21:=by
 refine V0e C ?_ ?_ ?_
 ·rintro args p r r' ⟨x,h,e⟩ ⟨x',h',e'⟩
  subst e;subst e';simp_all[X0b.inj_iff,Z0b.inj_iff]
 ·rintro args p r ⟨x,h,rfl⟩;exact zr1
 rintro args p r ⟨x,rfl,rfl⟩
 refine zW C false [(37,R37)] ⟨c37,zT⟩ rfl xf21 zc21_ok fun call zh hF=>?_
 have t_37:=@t37 _ zh.1
 clear zh
 (have zx:=zT;refine zq21 ?_;try exact zT)
 repeat'(apply zK.s<;>intro hc<;>(try simp only[zhd,zhn]at hc)<;>(try have hw:=K0a hc)<;>(refine zq21 ?_;try exact zT))
 all_goals(try clear zx)
 all_goals refine K0d hF zle (Q0c ?_ (Z0c zno21))
 all_goals simp[handOp, *]
end Go.Proofs.Ytpchcfkebljopaa
end
section
namespace Go.Proofs.Ytpchcfkebljopaa
open Go.Cl Go Go.RowKit
theorem K0g{n lo hi:Int}(h:lo<=hi): lo<=brought n lo hi/\brought n lo hi<=hi:=by unfold brought;omega
theorem Q0h{b:Q0a}(h:b.Kind≠0): Body.right b=true ↔ (∀n∈b.Mem,-1000000<=n/\n<=1000000)/\(b.Kind=1\/b.Kind=2)/\(0<=b.Owner/\b.Owner<=7)/\(0<=b.X/\b.X<=4095)/\(0<=b.Y/\b.Y<=4095)/\(-64<=b.VX/\b.VX<=64)/\(-64<=b.VY/\b.VY<=64)/\(0<=b.Age/\b.Age<=600)/\(0<=b.Faults/\b.Faults<=65535):=by
 unfold Body.right
 rw[if_neg h]
 simp[within,and_assoc]
theorem right_shoot{b:Q0a}(h:Body.right b=true)(hk:b.Kind≠0)(vx vy:Int): Body.right (bodyShoot b vx vy)=true/\(bodyShoot b vx vy).Kind=2/\(bodyShoot b vx vy).Owner=b.Owner:=by
 have r:=(Q0h hk).1 h
 have h1:=K0g (n:=vx) (lo:=-64) (hi:=64) (by omega)
 have h2:=K0g (n:=vy) (lo:=-64) (hi:=64) (by omega)
 unfold bodyShoot
 rw[if_pos ⟨h,hk⟩]
 refine⟨(Q0h (by simp)).2 ⟨?_,.inr rfl,r.2.2.1,r.2.2.2.1,r.2.2.2.2.1,h1,h2,by simp[Q0a.zero],by simp[Q0a.zero]⟩,rfl,rfl⟩
 intro n hn
 have:n=0:=by simpa[Q0a.zero]using hn
 omega
theorem right_put7{b:Q0a}(h:Body.right b=true)(hk:b.Kind≠0)(k:Nat)(n:Int)(hn:-1000000<=n/\n<=1000000): Body.right (b.put_7k k n)=true:=by
 have r:=(Q0h hk).1 h
 refine(Q0h (b:=b.put_7k k n) hk).2 ⟨?_,r.2⟩
 intro x hx
 rcases List.mem_or_eq_of_mem_set hx with h|h
 ·exact r.1 x h
 ·rw[h];exact hn
structure InvE(e g:V0d): Prop where
 right:Body.right g.Body=true
 kind:g.Body.Kind=e.Body.Kind
 owner:g.Body.Owner=e.Body.Owner
 age:g.Body.Age=e.Body.Age
 faults:g.Body.Faults=e.Body.Faults
 inp:g.In=e.In
 room:g.Room=e.Room
 len:(g.Shots.l.length:Int)<=e.Room
 shots:∀s∈g.Shots.l,Body.right s=true/\s.Kind=2/\s.Owner=e.Body.Owner
theorem InvE.set{e:V0d}{m:Q0b}(h:InvE e m.e_)(hk:e.Body.Kind≠0)(k:Nat)(n:Int): InvE e (Mach.set m k n).e_:=
 ⟨right_put7 h.right (by rw[h.kind];exact hk) k _ (K0g (by omega)),h.kind,h.owner,h.age,h.faults,h.inp,h.room,h.len,h.shots⟩
theorem InvE.put{e:V0d}{m:Q0b}(h:InvE e m.e_)(hk:e.Body.Kind≠0)(k n:Int): InvE e (Mach.put m k n).e_:=by
 have hk':m.e_.Body.Kind≠0:=by rw[h.kind];exact hk
 have r:=(Q0h hk').1 h.right
 have h1:=K0g (n:=n) (lo:=0) (hi:=4095) (by omega)
 have h2:=K0g (n:=n) (lo:=-64) (hi:=64) (by omega)
 obtain⟨r1,r2,r3,r4,r5,r6,r7,r8,r9⟩:=r
 unfold Mach.put Mach.body
 simp only
 split
 ·exact⟨(Q0h (by exact hk')).2 ⟨r1,r2,r3,h1,r5,r6,r7,r8,r9⟩,h.kind,h.owner,h.age,h.faults,h.inp,h.room,h.len,h.shots⟩
 split
 ·exact⟨(Q0h (by exact hk')).2 ⟨r1,r2,r3,r4,h1,r6,r7,r8,r9⟩,h.kind,h.owner,h.age,h.faults,h.inp,h.room,h.len,h.shots⟩
 split
 ·exact⟨(Q0h (by exact hk')).2 ⟨r1,r2,r3,r4,r5,h2,r7,r8,r9⟩,h.kind,h.owner,h.age,h.faults,h.inp,h.room,h.len,h.shots⟩
 ·exact⟨(Q0h (by exact hk')).2 ⟨r1,r2,r3,r4,r5,r6,h2,r8,r9⟩,h.kind,h.owner,h.age,h.faults,h.inp,h.room,h.len,h.shots⟩
theorem InvE.shoot{e:V0d}{m:Q0b}(h:InvE e m.e_)(hk:e.Body.Kind≠0)(a b:Int)(hlt:(m.e_.Shots.l.length:Int)<m.e_.Room): InvE e {m.e_ with Shots:=⟨.part,m.e_.Shots.l++[bodyShoot m.e_.Body a b],nofun⟩}:=by
 have hs:=right_shoot h.right (by rw[h.kind];exact hk) a b
 refine⟨h.right,h.kind,h.owner,h.age,h.faults,h.inp,h.room,?_,?_⟩
 ·have:=h.room
  simp only[List.length_append,List.length_cons,List.length_nil]
  omega
 ·intro s hs'
  rcases List.mem_append.1 hs' with h'|h'
  ·exact h.shots s h'
  ·have:s=bodyShoot m.e_.Body a b:=by simpa using h'
   rw[this]
   exact⟨hs.1,hs.2.1,by rw[hs.2.2];exact h.owner⟩
theorem InvE.dice{e:V0d}{m:Q0b}(h:InvE e m.e_)(d:Int): InvE e ({m with e_:={m.e_ with Dice:=d}}:Q0b).e_:=⟨h.right,h.kind,h.owner,h.age,h.faults,h.inp,h.room,h.len,h.shots⟩
theorem reckon_inv{e:V0d}{m m':Q0b}(h:InvE e m.e_)(hk:e.Body.Kind≠0){o:Z0b}(hr:Mach.reckon m o=.ok m'): InvE e m'.e_:=by
 unfold Mach.reckon at hr
 simp only at hr
 repeat'(split at hr)
 all_goals first
  |(cases hr;done)
  |(cases hr;exact h.set hk _ _)
  |(cases hr;exact InvE.set (h.dice _) hk _ _)
  |(rename_i hlt;cases hr;exact h.shoot hk _ _ hlt)
theorem reckon_err{m:Q0b}{o:Z0b}{c:Int}(hr:Mach.reckon m o=.error c): 1<=c/\c<=7:=by
 unfold Mach.reckon at hr
 simp only at hr
 repeat'(split at hr)
 all_goals first
  |(cases hr;done)
  |(cases hr;omega)
theorem doOp_inv{e:V0d}{m:Q0b}{r:Q0b×Int}(h:InvE e m.e_)(hk:e.Body.Kind≠0){o:Z0b}(hr:Mach.doOp m o=.ok r): InvE e r.1.e_:=by
 unfold Mach.doOp at hr
 repeat'(split at hr)
 all_goals first
  |(cases hr;done)
  |(cases hr;exact h.set hk _ _)
  |(cases hr;exact h.put hk _ _)
  |(cases hr;exact h)
  |(rename_i hq;cases hr;exact reckon_inv h hk hq)
theorem doOp_err{m:Q0b}{o:Z0b}{c:Int}(hr:Mach.doOp m o=.error c): 1<=c/\c<=7:=by
 unfold Mach.doOp at hr
 repeat'(split at hr)
 all_goals first
  |(cases hr;done)
  |(cases hr;omega)
  |(rename_i hq;cases hr;exact reckon_err hq)
theorem run_inv{e:V0d}(hk:e.Body.Kind≠0): ∀(k:Nat) (m:Q0b),InvE e m.e_->0<=m.at_->match Mach.run k m with|.ok m'=>InvE e m'.e_|.error c=>1<=c.1/\c.1<=7/\0<=c.2/\c.2<m.l_.l.length
 |k,m,h,ha=>by
  unfold Mach.run
  by_cases hlt:m.at_<m.l_.l.length
  ·rw[if_pos hlt]
   cases k with
   |zero=>exact⟨by omega,by omega,ha,hlt⟩
   |succ k=>
    simp only
    cases hq:Mach.doOp m (nth m.l_.l m.at_.toNat) with
    |error c=>exact⟨(doOp_err hq).1,(doOp_err hq).2,ha,hlt⟩
    |ok r=>
     obtain⟨m2,n⟩:=r
     have hd:=doOp_inv h hk hq
     have kk:=Mach.doOp_keeps hq ha hlt
     have ih:=run_inv hk k {m2 with at_:=n} hd kk.2.2.2.2.1
     have hl2:m2.l_=m.l_:=kk.2.1
     simp only[hl2]at ih ⊢
     exact ih
  ·rw[if_neg hlt];exact h
end Go.Proofs.Ytpchcfkebljopaa
end
section
namespace Go.Proofs.Ytpchcfkebljopaa
open Go.Cl Go Go.RowKit
set_option maxRecDepth 100000
set_option linter.constructorNameAsVariable false
theorem take_nth{α:Type}[Inhabited α]{l:List α}{k:Nat}(h:k<l.length): l.take (k+1)=l.take k++[nth l k]:=by
 rw[List.take_add_one,Q0s h];rfl
end Go.Proofs.Ytpchcfkebljopaa
end
section
namespace Go.Cl
open Go.RowKit Go.ChangeShapes Go.WideShapes Go.ChangeAt
def consB(P:Program): Nat->List Field->Nat->Bool
 |off,[],tot=>off==tot
 |off,f::l,tot=>f.offset==off&&consB P (off+P.cellsOf f.type) l tot
def sup(P:Program): Nat->TypeId->Bool
 |0,_=>false
 |n+1,t=>match P.underlying t with
  |some (.int _)|some .bool|some (.float _)|some .string=>true
  |some (.struct fs)=>consB P 0 fs.toList (P.cellsOf t)&&fs.toList.all fun f=>sup P n f.type
  |some (.array c e)=>(P.cellsOf t==c*P.cellsOf e)&&sup P n e
  |_=>false
def All2(r:TypeId->CV->Prop): List TypeId->List CV->Prop
 |[],[]=>True
 |t::ts,v::l=>r t v/\All2 r ts l
 |_,_=>False
def Ty(P:Program): Nat->TypeId->CV->Prop
 |0,_,_=>False
 |n+1,t,v=>match P.underlying t with
  |some (.int k)=>∃i,v=.sc (.int k i)/\(Lit.int k i).wf=true
  |some .bool=>∃b,v=.sc (.bool b)
  |some (.float k)=>∃b,v=.sc (.float k b)/\(Lit.float k b).wf=true
  |some .string=>∃s,v=.sc (.string s)/\s.size<=maxLen
  |some (.struct fs)=>∃l,v=.agg l/\All2 (Ty P n) (fs.toList.map (·.type)) l
  |some (.array c e)=>∃l,v=.agg l/\l.length=c/\∀x∈l,Ty P n e x
  |_=>False
variable {H:Type} {enc:TypeId×Value->H} {P:Program} {w:World} {base:Nat} {spare:Nat->Bool} {held:Bool}
theorem Q1s{n fuel:Nat}(S:St)(ih:∀t cs x,sup P n t=true->DataW.trod enc P w base spare held fuel t cs=some x->∃v,FR S v cs/\Ty P n t v)(cs:List Value):
  ∀(fl:List Field) (off tot:Nat) (xs:List (DataW H×List MemPlace)),consB P off fl tot=true->cs.length=tot->(fl.all fun f=>sup P n f.type)=true->
   (fl.mapM fun f=>DataW.trod enc P w base spare held fuel f.type ((cs.drop f.offset).take (P.cellsOf f.type)))=some xs->∃l,FRs S l (cs.drop off)/\All2 (Ty P n) (fl.map (·.type)) l
 |[],off,tot,xs,hc,hl,_,_=>by
  simp only[consB,beq_iff_eq]at hc
  subst hc
  exact⟨[],by simp[FRs,hl],trivial⟩
 |f::fl,off,tot,xs,hc,hl,ha,hm=>by
  simp only[consB,Bool.and_eq_true,beq_iff_eq]at hc
  simp only[List.all_cons,Bool.and_eq_true]at ha
  simp only[List.mapM_cons,Option.pure_def,Option.bind_eq_bind,Option.bind_eq_some_iff]at hm
  obtain⟨y,hy,ys,hys,_⟩:=hm
  obtain⟨v,hv,tv⟩:=ih _ _ _ ha.1 hy
  obtain⟨l,hl',tl⟩:=Q1s S ih cs fl _ tot ys hc.2 hl ha.2 hys
  refine⟨v::l,?_,tv,tl⟩
  simp only[FRs]
  refine⟨_,_,?_,hv,hl'⟩
  rw[hc.1,<- List.drop_drop,List.take_append_drop]
theorem Y10{n fuel sz:Nat}{e:TypeId}(S:St)(ih:∀t cs x,sup P n t=true->DataW.trod enc P w base spare held fuel t cs=some x->∃v,FR S v cs/\Ty P n t v)(he:sup P n e=true)(cs:List Value):
  ∀(c k:Nat) (xs:List (DataW H×List MemPlace)),cs.length=(k+c)*sz->
   ((List.range' k c).mapM fun i=>DataW.trod enc P w base spare held fuel e ((cs.drop (i*sz)).take sz))=some xs->∃l,FRs S l (cs.drop (k*sz))/\l.length=c/\∀x∈l,Ty P n e x
 |0,k,xs,hl,_=>⟨[],by simp[FRs,hl],rfl,by simp⟩
 |c+1,k,xs,hl,hm=>by
  rw[List.range'_succ]at hm
  simp only[List.mapM_cons,Option.pure_def,Option.bind_eq_bind,Option.bind_eq_some_iff]at hm
  obtain⟨y,hy,ys,hys,_⟩:=hm
  obtain⟨v,hv,tv⟩:=ih _ _ _ he hy
  obtain⟨l,hl',hn,tl⟩:=Y10 S ih he cs c (k+1) ys (by rw[hl];congr 1;omega) hys
  refine⟨v::l,?_,by simp[hn],by simpa using⟨tv,tl⟩⟩
  simp only[FRs]
  refine⟨_,_,?_,hv,hl'⟩
  rw[Nat.succ_mul,<- List.drop_drop,List.take_append_drop]
theorem read(S:St): ∀(n:Nat) (t:TypeId) (fuel:Nat) (cs:List Value) (x:DataW H×List MemPlace),sup P n t=true->DataW.trod enc P w base spare held fuel t cs=some x->∃v,FR S v cs/\Ty P n t v
 |0,t,_,_,_,hs,_=>by simp[sup]at hs
 |n+1,t,0,_,_,_,h=>by simp[DataW.trod]at h
 |n+1,t,fuel+1,cs,x,hs,h=>by
  have h0:=h
  unfold DataW.trod at h
  simp only[sup]at hs
  cases hu:P.underlying t with
  |none=>rw[hu]at hs;simp at hs
  |some u=>
   rw[hu]at hs h
   cases u with
   |int k=>
    obtain⟨i,rfl,_,hw⟩:=DataW.trod_int hu h0
    exact⟨.sc (.int k i),by simp[FR,plain],by simp only[Ty,hu];exact⟨i,rfl,hw⟩⟩
   |bool=>
    obtain⟨b,rfl,_⟩:=DataW.trod_bool hu h0
    exact⟨.sc (.bool b),by simp[FR,plain],by simp only[Ty,hu];exact⟨b,rfl⟩⟩
   |string=>
    obtain⟨s,rfl,_,hw⟩:=DataW.trod_string hu h0
    exact⟨.sc (.string s),by simp[FR,plain],by simp only[Ty,hu];exact⟨s,rfl,hw⟩⟩
   |float k=>
    simp only at h
    have hc:∃b,cs=[.float k b]/\(Lit.float k b).wf=true:=by
     clear hs h0
     split at h<;>try(rename_i e;cases e;done)
     all_goals first|(cases h;done)|skip
     ·rename_i k1 k2 b e
      split at h
      ·rename_i hk
       cases e
       obtain⟨rfl,hw⟩:=hk
       exact⟨b,rfl,hw⟩
      ·cases h
    obtain⟨b,rfl,hw⟩:=hc
    exact⟨.sc (.float k b),by simp[FR,plain],by simp only[Ty,hu];exact⟨b,rfl,hw⟩⟩
   |struct fs=>
    simp only[Bool.and_eq_true]at hs
    simp only at h
    split at h
    ·rename_i hlen
     simp only[Option.map_eq_some_iff]at h
     obtain⟨xs,hx,_⟩:=h
     obtain⟨l,hl,tl⟩:=Q1s S (fun t cs x=>read S n t fuel cs x) cs fs.toList 0 _ xs hs.1 hlen hs.2 hx
     exact⟨.agg l,by simpa[FR]using hl,by simp only[Ty,hu];exact⟨l,rfl,tl⟩⟩
    ·cases h
   |array c e=>
    simp only[Bool.and_eq_true,beq_iff_eq]at hs
    simp only at h
    split at h
    ·rename_i hlen
     simp only[Option.map_eq_some_iff]at h
     obtain⟨xs,hx,_⟩:=h
     rw[List.range_eq_range']at hx
     obtain⟨l,hl,hn,tl⟩:=Y10 S (fun t cs x=>read S n t fuel cs x) hs.2 cs c 0 xs (by rw[hlen,hs.1];simp) hx
     exact⟨.agg l,by simpa[FR]using hl,by simp only[Ty,hu];exact⟨l,rfl,hn,tl⟩⟩
    ·cases h
   |_=>simp at hs
theorem Q12{a:Addr}(ha:a.spot=none)(n:Nat): a.add n=⟨a.block,a.off+n,none⟩:=by
 cases a;simp only at ha;subst ha;unfold Addr.add;split<;>simp_all
theorem lies_cells{a:Addr}(ha:a.spot=none){m:Nat}{cs:List Value}(h:w.cells? base a m=some cs): (S0 w).lies a.block a.off cs/\cs.length=m:=by
 unfold World.cells? at h
 split at h
 ·refine⟨fun j u hu=>?_,by simpa using mapM_some_length h⟩
  have hj:j<cs.length:=by
   rcases Nat.lt_or_ge j cs.length with q|q
   ·exact q
   ·rw[List.getElem?_eq_none q]at hu;cases hu
  have hl:cs.length=m:=by simpa using mapM_some_length h
  have:=mapM_some_get h j j (List.getElem?_range (by omega))
  rw[hu]at this
  simp only[S0]
  rw[<- this]
  rw[Q12 ha]
 ·cases h
end Go.Cl
end
section
namespace Go.Cl
open Go.RowKit Go.ChangeShapes Go.WideShapes Go.ChangeAt
def sup2(P:Program): Nat->TypeId->Bool
 |0,_=>false
 |n+1,t=>match P.underlying t with
  |some (.int _)|some .bool|some (.float _)|some .string=>true
  |some (.slice e)=>Nat.blt 0 (P.cellsOf e)&&sup2 P n e
  |some (.struct fs)=>consB P 0 fs.toList (P.cellsOf t)&&fs.toList.all fun f=>sup2 P n f.type
  |some (.array c e)=>(P.cellsOf t==c*P.cellsOf e)&&sup2 P n e
  |_=>false
def Ty2(P:Program): Nat->TypeId->CV->Prop
 |0,_,_=>False
 |n+1,t,v=>match P.underlying t with
  |some (.int k)=>∃i,v=.sc (.int k i)/\(Lit.int k i).wf=true
  |some .bool=>∃b,v=.sc (.bool b)
  |some (.float k)=>∃b,v=.sc (.float k b)/\(Lit.float k b).wf=true
  |some .string=>∃s,v=.sc (.string s)/\s.size<=maxLen
  |some (.slice e)=>∃tl l,v=.lst tl l/\(∀x∈l,Ty2 P n e x)/\(tl=.view\/tl=.nil/\l=[])
  |some (.struct fs)=>∃l,v=.agg l/\All2 (Ty2 P n) (fs.toList.map (·.type)) l
  |some (.array c e)=>∃l,v=.agg l/\l.length=c/\∀x∈l,Ty2 P n e x
  |_=>False
theorem All2.mono{r r':TypeId->CV->Prop}(h:∀t v,r t v->r' t v): ∀ts l,All2 r ts l->All2 r' ts l
 |[],[],_=>trivial
 |_::ts,_::l,⟨a,b⟩=>⟨h _ _ a,All2.mono h ts l b⟩
 |[],_::_,k=>k.elim
 |_::_,[],k=>k.elim
theorem Ty.up{P:Program}: ∀(n:Nat) (t:TypeId) (v:CV),Ty P n t v->Ty2 P n t v
 |0,_,_,h=>h.elim
 |n+1,t,v,h=>by
  simp only[Ty]at h
  simp only[Ty2]
  cases hu:P.underlying t with
  |none=>rw[hu]at h;exact h.elim
  |some u=>
   rw[hu]at h
   cases u with
   |struct fs=>
    obtain⟨l,hl,ha⟩:=h
    exact⟨l,hl,All2.mono (fun t v=>Ty.up n t v) _ _ ha⟩
   |array c e=>
    obtain⟨l,hl,hn,ha⟩:=h
    exact⟨l,hl,hn,fun x hx=>Ty.up n _ x (ha x hx)⟩
   |int k=>exact h
   |bool=>exact h
   |float k=>exact h
   |string=>exact h
   |_=>exact h.elim
variable {H:Type} {enc:TypeId×Value->H} {P:Program} {w:World} {base:Nat} {spare:Nat->Bool} {held:Bool}
theorem Q1i{α β:Type}{f:α->Option β}{x:α}{l:List α}{ys:List β}(h:(x::l).mapM f=some ys): ∃y,f x=some y:=by
 simp only[List.mapM_cons,Option.pure_def,Option.bind_eq_bind,Option.bind_eq_some_iff]at h
 obtain⟨y,hy,_⟩:=h
 exact⟨y,hy⟩
theorem spot_of{a:Addr}{m k:Nat}{cs:List Value}(hm:0<m)(h:w.cells? base (a.add k) m=some cs)(hk:k=0): a.spot=none:=by
 subst hk
 obtain⟨m,rfl⟩:∃j,m=j+1:=⟨m-1,by omega⟩
 unfold World.cells? at h
 split at h
 ·rw[List.range_eq_range',List.range'_succ]at h
  obtain⟨y,hy⟩:=Q1i h
  simp only[Addr.add,if_true,World.cell?]at hy
  split at hy
  ·split at hy
   ·cases hy
   ·rename_i q;cases hs:a.spot<;>simp_all
  ·cases hy
 ·cases h
theorem Z1k{n fuel sz:Nat}{e:TypeId}{a:Addr}(ih:∀cs x,DataW.trod enc P w base spare held fuel e cs=some x->∃v,FR (S0 w) v cs/\Ty2 P n e v)(hsz:P.cellsOf e=sz)(ha:a.spot=none):
  ∀(c k:Nat) (xs:List (DataW H×List MemPlace)),
   ((List.range' k c).mapM fun i=>(w.cells? base (a.add (i*sz)) sz).bind (DataW.trod enc P w base spare held fuel e))=some xs->
    ∃l es,FRs (S0 w) l es/\l.length=c/\(∀x∈l,Ty2 P n e x)/\(S0 w).lies a.block (a.off+k*sz) es/\es.length=c*sz/\∀x∈l,x.size=sz
 |0,k,xs,_=>⟨[],[],by simp[FRs],rfl,by simp,fun j u hu=>by simp at hu,by simp,by simp⟩
 |c+1,k,xs,hm=>by
  rw[List.range'_succ]at hm
  simp only[List.mapM_cons,Option.pure_def,Option.bind_eq_bind,Option.bind_eq_some_iff]at hm
  obtain⟨y,⟨cs,hcs,hy⟩,ys,hys,_⟩:=hm
  obtain⟨v,hv,tv⟩:=ih cs y hy
  obtain⟨l,es,h1,h2,h3,h4,h5,h6⟩:=Z1k ih hsz ha c (k+1) ys hys
  obtain⟨hl,hn⟩:=lies_cells (a:=a.add (k*sz)) (by rw[Q12 ha]) hcs
  rw[Q12 ha]at hl
  refine⟨v::l,cs++es,by simp only[FRs];exact⟨_,_,rfl,hv,h1⟩,by simp[h2],by simpa using⟨tv,h3⟩,fun j u hu=>?_,by simp[hn,h5,Nat.succ_mul];omega,?_⟩
  ·rw[List.getElem?_append]at hu
   split at hu
   ·have:=hl j u hu
    simpa[Nat.add_assoc]using this
   ·rename_i hj
    have:=h4 _ u hu
    rw[hn]at this hj
    rw[<- this]
    congr 1
    rw[Nat.succ_mul];omega
  ·intro x hx
   rcases List.mem_cons.1 hx with rfl|hx
   ·rw[<- FR.length _ _ hv,hn]
   ·exact h6 x hx
theorem X1e{n fuel:Nat}(S:St)(ih:∀t cs x,sup2 P n t=true->DataW.trod enc P w base spare held fuel t cs=some x->∃v,FR S v cs/\Ty2 P n t v)(cs:List Value):
  ∀(fl:List Field) (off tot:Nat) (xs:List (DataW H×List MemPlace)),consB P off fl tot=true->cs.length=tot->(fl.all fun f=>sup2 P n f.type)=true->
   (fl.mapM fun f=>DataW.trod enc P w base spare held fuel f.type ((cs.drop f.offset).take (P.cellsOf f.type)))=some xs->∃l,FRs S l (cs.drop off)/\All2 (Ty2 P n) (fl.map (·.type)) l
 |[],off,tot,xs,hc,hl,_,_=>by
  simp only[consB,beq_iff_eq]at hc
  subst hc
  exact⟨[],by simp[FRs,hl],trivial⟩
 |f::fl,off,tot,xs,hc,hl,ha,hm=>by
  simp only[consB,Bool.and_eq_true,beq_iff_eq]at hc
  simp only[List.all_cons,Bool.and_eq_true]at ha
  simp only[List.mapM_cons,Option.pure_def,Option.bind_eq_bind,Option.bind_eq_some_iff]at hm
  obtain⟨y,hy,ys,hys,_⟩:=hm
  obtain⟨v,hv,tv⟩:=ih _ _ _ ha.1 hy
  obtain⟨l,hl',tl⟩:=X1e S ih cs fl _ tot ys hc.2 hl ha.2 hys
  refine⟨v::l,?_,tv,tl⟩
  simp only[FRs]
  refine⟨_,_,?_,hv,hl'⟩
  rw[hc.1,<- List.drop_drop,List.take_append_drop]
theorem Y1q{n fuel sz:Nat}{e:TypeId}(S:St)(ih:∀t cs x,sup2 P n t=true->DataW.trod enc P w base spare held fuel t cs=some x->∃v,FR S v cs/\Ty2 P n t v)(he:sup2 P n e=true)(cs:List Value):
  ∀(c k:Nat) (xs:List (DataW H×List MemPlace)),cs.length=(k+c)*sz->
   ((List.range' k c).mapM fun i=>DataW.trod enc P w base spare held fuel e ((cs.drop (i*sz)).take sz))=some xs->∃l,FRs S l (cs.drop (k*sz))/\l.length=c/\∀x∈l,Ty2 P n e x
 |0,k,xs,hl,_=>⟨[],by simp[FRs,hl],rfl,by simp⟩
 |c+1,k,xs,hl,hm=>by
  rw[List.range'_succ]at hm
  simp only[List.mapM_cons,Option.pure_def,Option.bind_eq_bind,Option.bind_eq_some_iff]at hm
  obtain⟨y,hy,ys,hys,_⟩:=hm
  obtain⟨v,hv,tv⟩:=ih _ _ _ he hy
  obtain⟨l,hl',hn,tl⟩:=Y1q S ih he cs c (k+1) ys (by rw[hl];congr 1;omega) hys
  refine⟨v::l,?_,by simp[hn],by simpa using⟨tv,tl⟩⟩
  simp only[FRs]
  refine⟨_,_,?_,hv,hl'⟩
  rw[Nat.succ_mul,<- List.drop_drop,List.take_append_drop]
theorem read2: ∀(n:Nat) (t:TypeId) (fuel:Nat) (cs:List Value) (x:DataW H×List MemPlace),sup2 P n t=true->DataW.trod enc P w base (fun _=>true) held fuel t cs=some x->∃v,FR (S0 w) v cs/\Ty2 P n t v
 |0,t,_,_,_,hs,_=>by simp[sup2]at hs
 |n+1,t,0,_,_,_,h=>by simp[DataW.trod]at h
 |n+1,t,fuel+1,cs,x,hs,h=>by
  have h0:=h
  simp only[sup2]at hs
  cases hu:P.underlying t with
  |none=>rw[hu]at hs;simp at hs
  |some u=>
   rw[hu]at hs
   cases u with
   |int k=>
    obtain⟨v,h1,h2⟩:=read (S0 w) (n+1) t (fuel+1) cs x (by simp only[sup,hu]) h0
    exact⟨v,h1,Ty.up _ _ _ h2⟩
   |bool=>
    obtain⟨v,h1,h2⟩:=read (S0 w) (n+1) t (fuel+1) cs x (by simp only[sup,hu]) h0
    exact⟨v,h1,Ty.up _ _ _ h2⟩
   |string=>
    obtain⟨v,h1,h2⟩:=read (S0 w) (n+1) t (fuel+1) cs x (by simp only[sup,hu]) h0
    exact⟨v,h1,Ty.up _ _ _ h2⟩
   |float k=>
    obtain⟨v,h1,h2⟩:=read (S0 w) (n+1) t (fuel+1) cs x (by simp only[sup,hu]) h0
    exact⟨v,h1,Ty.up _ _ _ h2⟩
   |slice e=>
    simp only[Bool.and_eq_true,Nat.blt_eq]at hs
    obtain⟨hpos,hs⟩:=hs
    simp only[DataW.trod,hu]at h
    split at h<;>try(rename_i e1 _;cases e1;done)
    all_goals try(cases h;done)
    all_goals try(rename_i e1;cases e1;done)
    ·exact⟨.lst .nil [],by simp[FR,Tail.may],by simp only[Ty2,hu];exact⟨.nil,[],rfl,by simp,.inr ⟨rfl,rfl⟩⟩⟩
    ·rename_i e' a len cap e1
     cases e1
     split at h
     ·rename_i hc
      obtain⟨_,hlc,_⟩:=hc
      rw[Option.bind_eq_some_iff]at h
      obtain⟨xs,hx,hr⟩:=h
      simp only[if_true,Option.map_eq_some_iff]at hr
      obtain⟨rs,hr,_⟩:=hr
      by_cases h0:cap=0
      ·subst h0
       obtain rfl:len=0:=by omega
       exact⟨.lst .view [],by simp[FR,Tail.may],by simp only[Ty2,hu];exact⟨.view,[],rfl,by simp,.inl rfl⟩⟩
      have ha:a.spot=none:=by
       rcases Nat.eq_zero_or_pos len with h1|h1
       ·subst h1
        obtain⟨c,hc⟩:∃c,cap-0=c+1:=⟨cap-1,by omega⟩
        rw[hc,List.range_eq_range',List.range'_succ]at hr
        obtain⟨y,hy⟩:=Q1i hr
        simp only[Option.bind_eq_some_iff]at hy
        obtain⟨cs',hcs,_⟩:=hy
        exact spot_of hpos hcs (by simp)
       ·obtain⟨c,hc⟩:∃c,len=c+1:=⟨len-1,by omega⟩
        rw[hc,List.range_eq_range',List.range'_succ]at hx
        obtain⟨y,hy⟩:=Q1i hx
        simp only[Option.bind_eq_some_iff]at hy
        obtain⟨cs',hcs,_⟩:=hy
        exact spot_of hpos hcs (by simp)
      rw[List.range_eq_range']at hx
      obtain⟨l,es,h1,h2,h3,h4,h5,h6⟩:=Z1k (fun cs x=>read2 n e fuel cs x hs) rfl ha len 0 xs hx
      subst h2
      refine⟨.lst .view l,?_,by simp only[Ty2,hu];exact⟨.view,l,rfl,h3,.inl rfl⟩⟩
      simp only[FR]
      refine .inr ⟨a.block,a.off,cap,P.cellsOf e,es,?_,hlc,h1,by simpa using h4,h6,trivial⟩
      cases a;simp only at ha;subst ha;rfl
     ·cases h
   |struct fs=>
    simp only[Bool.and_eq_true]at hs
    unfold DataW.trod at h
    rw[hu]at h
    simp only at h
    split at h
    ·rename_i hlen
     simp only[Option.map_eq_some_iff]at h
     obtain⟨xs,hx,_⟩:=h
     obtain⟨l,hl,tl⟩:=X1e (S0 w) (fun t cs x=>read2 n t fuel cs x) cs fs.toList 0 _ xs hs.1 hlen hs.2 hx
     exact⟨.agg l,by simpa[FR]using hl,by simp only[Ty2,hu];exact⟨l,rfl,tl⟩⟩
    ·cases h
   |array c e=>
    simp only[Bool.and_eq_true,beq_iff_eq]at hs
    unfold DataW.trod at h
    rw[hu]at h
    simp only at h
    split at h
    ·rename_i hlen
     simp only[Option.map_eq_some_iff]at h
     obtain⟨xs,hx,_⟩:=h
     rw[List.range_eq_range']at hx
     obtain⟨l,hl,hn,tl⟩:=Y1q (S0 w) (fun t cs x=>read2 n t fuel cs x) hs.2 cs c 0 xs (by rw[hlen,hs.1];simp) hx
     exact⟨.agg l,by simpa[FR]using hl,by simp only[Ty2,hu];exact⟨l,rfl,hn,tl⟩⟩
    ·cases h
   |_=>simp at hs
theorem Z0w{n:Nat}{t:TypeId}{v:Value}{d:DataW H}{ps:List MemPlace}{r:Reach}{b0:Nat}(hs:sup2 P n t=true)(hv:Value.okWide P w r b0 t v)(h:DataW.Trod enc P w base (fun _=>true) held t v d ps): ∃c,VR (S0 w) c v/\Ty2 P n t c:=by
 obtain⟨fuel,hf⟩:=h
 obtain⟨c,hc,ht⟩:=read2 n t fuel _ _ hs hf
 refine⟨c,⟨hc,?_⟩,ht⟩
 cases n with
 |zero=>simp[sup2]at hs
 |succ n=>
  simp only[sup2]at hs
  simp only[Ty2]at ht
  unfold Value.okWide at hv
  cases hu:P.underlying t with
  |none=>rw[hu]at hs;simp at hs
  |some u=>
   rw[hu]at hs ht hv
   cases u with
   |int k=>obtain⟨i,rfl,_⟩:=ht;simp only[Cell.okWide,Cell.ok,hu]at hv;cases v<;>simp_all[CV.isAgg]
   |bool=>obtain⟨i,rfl⟩:=ht;simp only[Cell.okWide,Cell.ok,hu]at hv;cases v<;>simp_all[CV.isAgg]
   |float k=>obtain⟨i,rfl,_⟩:=ht;simp only[Cell.okWide,Cell.ok,hu]at hv;cases v<;>simp_all[CV.isAgg]
   |string=>obtain⟨i,rfl,_⟩:=ht;simp only[Cell.okWide,Cell.ok,hu]at hv;cases v<;>simp_all[CV.isAgg]
   |slice e=>obtain⟨tl,l,rfl,_⟩:=ht;simp only[Cell.okWide,Cell.ok,hu]at hv;cases v<;>simp_all[CV.isAgg]
   |struct fs=>obtain⟨l,rfl,_⟩:=ht;obtain⟨cs,rfl,_⟩:=hv;simp[CV.isAgg]
   |array c e=>obtain⟨l,rfl,_⟩:=ht;obtain⟨cs,rfl,_⟩:=hv;simp[CV.isAgg]
   |_=>simp at hs
end Go.Cl
end
section
namespace Go.Proofs.Ytpchcfkebljopaa
open Go.Cl Go Go.ChangeShapes Go.WideShapes Go.ChangeAt Go.RowKit
set_option maxRecDepth 100000
set_option linter.constructorNameAsVariable false
theorem Y0m{r:TypeId->CV->Prop}{t:TypeId}{ts:List TypeId}{l:List CV}(h:All2 r (t::ts) l): ∃v l',l=v::l'/\r t v/\All2 r ts l':=by
 cases l with
 |nil=>exact h.elim
 |cons v l'=>exact⟨v,l',rfl,h⟩
theorem all2_nil{r:TypeId->CV->Prop}{l:List CV}(h:All2 r [] l): l=[]:=by
 cases l with
 |nil=>rfl
 |cons v l'=>exact h.elim
theorem of_list{α:Type}{f:α->CV}: ∀{l:List CV},(∀x∈l,∃y,x=f y)->∃ys:List α,l=ys.map f
 |[],_=>⟨[],rfl⟩
 |v::l,h=>by
  obtain⟨x,rfl⟩:=h v (.head _)
  obtain⟨xs,rfl⟩:=of_list (l:=l) (fun y hy=>h y (.tail _ hy))
  exact⟨x::xs,rfl⟩
theorem Z1g{α:Type}{f:α->CV}{P:Program}{n:Nat}{t e:TypeId}{v:CV}(hu:P.underlying t=some (.slice e))(he:∀x,Ty2 P n e x->∃y:α,x=f y)(h:Ty2 P (n+1) t v): ∃s:Lst α,v=s.cv f/\(s.tl=.view\/s.tl=.nil):=by
 simp only[Ty2,hu]at h
 obtain⟨tl,l,rfl,hl,ht⟩:=h
 obtain⟨ys,rfl⟩:=of_list (fun x hx=>he x (hl x hx))
 rcases ht with rfl|⟨rfl,h0⟩
 ·exact⟨⟨.view,ys,nofun⟩,rfl,.inl rfl⟩
 ·exact⟨⟨.nil,ys,fun _=>by simpa using h0⟩,rfl,.inr rfl⟩
def inI(i:Int): Prop:=-9223372036854775808<=i/\i<=9223372036854775807
theorem of_int{P:Program}{n:Nat}{t:TypeId}{v:CV}(hu:P.underlying t=some (.int .i64))(h:Ty2 P (n+1) t v): ∃i,v=I i/\inI i:=by
 simp only[Ty2,hu]at h
 obtain⟨i,rfl,hw⟩:=h
 simp only[Lit.wf,Bool.and_eq_true,decide_eq_true_eq]at hw
 exact⟨i,rfl,hw⟩
theorem of_struct{P:Program}{n:Nat}{t:TypeId}{v:CV}{fs:Array Field}(hu:P.underlying t=some (.struct fs))(h:Ty2 P (n+1) t v): ∃l,v=.agg l/\All2 (Ty2 P n) (fs.toList.map (·.type)) l:=by
 simp only[Ty2,hu]at h
 exact h
theorem a3{n:Nat}{v:CV}(h:Ty2 Try.prog (n+1) 3 v): ∃i,v=I i/\inI i:=of_int Try.underlying3 h
theorem a24{n:Nat}{v:CV}(h:Ty2 Try.prog (n+2) 24 v): ∃s:Lst Int,v=s.cv I/\(s.tl=.view\/s.tl=.nil):=Z1g Try.underlying24 (fun _ h=>let⟨i,e,_⟩:=a3 h;⟨i,e⟩) h
theorem a31{n:Nat}{v:CV}(h:Ty2 Try.prog (n+2) 31 v): ∃x:X0b,v=x.cv:=by
 obtain⟨l,rfl,hs⟩:=of_struct Try.underlying31 h
 replace h:=hs
 obtain⟨v0,l0,rfl,h0,h⟩:=Y0m h
 obtain⟨v1,l1,rfl,h1,h⟩:=Y0m h
 obtain⟨v2,l2,rfl,h2,h⟩:=Y0m h
 obtain rfl:=all2_nil h
 obtain⟨x0,rfl,_⟩:=a3 (n:=n) h0
 obtain⟨x1,rfl,_⟩:=a3 (n:=n) h1
 obtain⟨x2,rfl,_⟩:=a3 (n:=n) h2
 exact⟨⟨x0,x1,x2⟩,rfl⟩
theorem a22{n:Nat}{v:CV}(h:Ty2 Try.prog (n+3) 22 v): ∃s:Lst X0b,v=s.cv X0b.cv/\(s.tl=.view\/s.tl=.nil):=Z1g Try.underlying22 (fun _ h=>a31 h) h
end Go.Proofs.Ytpchcfkebljopaa
end
section
namespace Go.Proofs.Ytpchcfkebljopaa
open Go.Cl Go Go.ChangeShapes Go.WideShapes Go.ChangeAt Go.RowKit
theorem Try.own: ownKnob Try.prog.godebug=none:=by kernel_rfl
theorem Try.laidOut: laidOutB Try.prog=true:=by kernel_rfl
theorem con_true{f:FuncId}{R:Rel}(h:Con C f R){args:List CV}{vals:List Value}{w:World}(hR:R args ⟨0,.e⟩ (.ret (Bo true) ⟨0,.e⟩))(hV:VRs (S0 w) args vals):
  Calls C.P f vals.toArray w fun e w'=>e=.returned (.bool true)/\Below w.heap.size w w':=by
 have r0:XRel w w.heap.size (S0 w) ⟨0,.e⟩ w:=⟨R_init w,rfl,fun i sh v h=>by simp[Cl.T.get_e]at h⟩
 have hc:=(h.ok _ _ _ hR).2.2 w w.heap.size (S0 w) w vals r0 hV
 refine Calls.mono hc ?_
 rintro e w' ⟨S',x,_,r,hx,rfl⟩
 exact⟨by rw[(VR_sc.1 hx).1],r.r.below⟩
end Go.Proofs.Ytpchcfkebljopaa
end
section
namespace Go.Proofs.Ytpchcfkebljopaa
open Go.Cl Go Go.RowKit
set_option maxRecDepth 100000
def zn88_1:=ZC.reg [zv 0 (.assign (.const (.pointer none)))]
def zn88_3:=ZC.reg [⟨some 1,.build 203 ⟨[]⟩,none,false⟩,zu 2 (.box 203 (Tm 1)),zv 0 (zas 2)]
def zn88_0:=ZC.seq zn88_1 (ZC.seq zn88_3 ZC.ret)
def zc88: ZC:=zn88_0
theorem zc88_ok: zcode (xfOf Try.f88).code=some zc88:=by kernel_rfl
def zw88:=zU C zc88.eq_1<|zU C zn88_1.eq_1<|zU C zn88_3.eq_1<|(zunf C zn88_0.eq_1)
theorem rs88: (xfOf Try.f88).rs=[.tmp 0]:=by kernel_rfl
def xf88:=zF C 88 Try.f88
def zn89_1:=ZC.reg [zu 7 (zmv 2),zu 8 (zcf 156 [Tm 7] [3]),zu 9 (.binOp .sub 3 (Tm 8) (Kn 1) 3),zv 6 (zas 9)]
def zn89_6:=ZC.reg [zu 10 (zmv 6),zv 11 (.binOp .geq 3 (Tm 10) (Kn 0) 3)]
def zn89_10:=ZC.reg [zu 14 (zmv 0),zu 15 (zmv 1),zu 16 (zmv 6),zu 17 (.binOp .shr 25 (Tm 15) (Tm 16) 3),zu 18 (.binOp .and 25 (Tm 17) (.const (.int .u64 1)) 25),zv 19 (zcf 157 [Tm 14,Tm 18] [143,25])]
def zn89_11:=ZC.reg [zu 12 (zmv 6),zu 13 (.binOp .sub 3 (Tm 12) (Kn 1) 3),zv 6 (zas 13)]
def zn89_4:=ZC.seq (ZC.seq zn89_6 (ZC.cond (Tm 11) ZC.skip (ZC.exit 0))) (ZC.seq (ZC.block 1 zn89_10) zn89_11)
def zn89_0:=ZC.seq zn89_1 (ZC.block 0 (ZC.loop zn89_4))
def zc89: ZC:=zn89_0
theorem zc89_ok: zcode (xfOf Try.f89).code=some zc89:=by kernel_rfl
def zw89:=zU C zc89.eq_1<|zU C zn89_1.eq_1<|zU C zn89_6.eq_1<|zU C zn89_10.eq_1<|zU C zn89_11.eq_1<|zU C zn89_4.eq_1<|(zunf C zn89_0.eq_1)
theorem rs89: (xfOf Try.f89).rs=[]:=by kernel_rfl
def xf89:=zF C 89 Try.f89
def zn90_1:=ZC.reg [zv 3 (.box 34 (Tm 1))]
def zn90_3:=ZC.reg [zu 6 (zmv 0),zu 7 (zfa 34 3 0),zu 8 (zld 3 7),zu 9 (.convert 3 25 (Tm 8)),zv 10 (zcf 89 [Tm 6,Tm 9,Kn 2] [143,25,3])]
def zn90_6:=ZC.reg [zu 11 (zfa 34 3 0),zu 12 (zld 3 11),zv 13 (.binOp .eql 3 (Tm 12) (Kn 0) 3)]
def zn90_9:=ZC.reg [zu 14 (zmv 0),zu 15 (zfa 34 3 1),zu 16 (zld 3 15),zu 17 (.convert 3 25 (Tm 16)),zv 18 (zcf 89 [Tm 14,Tm 17,Kn 3] [143,25,3])]
def zn90_11:=ZC.reg [zu 19 (zmv 0),zu 20 (zfa 34 3 2),zu 21 (zld 3 20),zu 22 (.convert 3 25 (Tm 21)),zv 23 (zcf 89 [Tm 19,Tm 22,Kn 12] [143,25,3])]
def zn90_13:=ZC.reg [zu 24 (zmv 0),zu 25 (zfa 34 3 3),zu 26 (zld 3 25),zu 27 (.convert 3 25 (Tm 26)),zv 28 (zcf 89 [Tm 24,Tm 27,Kn 12] [143,25,3])]
def zn90_15:=ZC.reg [zu 29 (zmv 0),zu 30 (zfa 34 3 4),zu 31 (zld 3 30),zv 32 (zcf 158 [Tm 29,Tm 31,Kn 8] [143,3,3])]
def zn90_17:=ZC.reg [zu 33 (zmv 0),zu 34 (zfa 34 3 5),zu 35 (zld 3 34),zv 36 (zcf 158 [Tm 33,Tm 35,Kn 8] [143,3,3])]
def zn90_19:=ZC.reg [zu 37 (zmv 0),zu 38 (zfa 34 3 6),zu 39 (zld 3 38),zu 40 (.convert 3 25 (Tm 39)),zv 41 (zcf 89 [Tm 37,Tm 40,Kn 10] [143,25,3])]
def zn90_22:=ZC.reg [zu 42 (zfa 34 3 7),zu 43 (zld 32 42),zv 44 (.move (Kn 0))]
def zn90_26:=ZC.reg [zv 45 (.binOp .lss 3 (Tm 44) (Kn 4) 3)]
def zn90_32:=ZC.reg [zu 46 (.index 32 (Tm 43) (Tm 44)),zv 5 (zas 46)]
def zn90_33:=ZC.reg [zu 47 (zmv 0),zu 48 (zmv 5),zv 49 (zcf 158 [Tm 47,Tm 48,Kn 21] [143,3,3])]
def zn90_34:=ZC.reg [zu 50 (.binOp .add 3 (Tm 44) (Kn 1) 3),zv 44 (zmv 50)]
def X2a:=ZC.seq zn90_26 (ZC.seq (ZC.cond (Tm 45) ZC.skip (ZC.exit 0)) (ZC.seq (ZC.block 1 (ZC.seq zn90_32 zn90_33)) zn90_34))
def zn90_35:=ZC.reg [zu 51 (zmv 0),zu 52 (zfa 34 3 8),zu 53 (zld 3 52),zu 54 (.convert 3 25 (Tm 53)),zv 55 (zcf 89 [Tm 51,Tm 54,Kn 16] [143,25,3])]
def zn90_0:=ZC.seq zn90_1 (ZC.seq zn90_3 (ZC.seq (ZC.seq zn90_6 (ZC.cond (Tm 13) ZC.ret ZC.skip)) (ZC.seq zn90_9 (ZC.seq zn90_11 (ZC.seq zn90_13 (ZC.seq zn90_15 (ZC.seq zn90_17 (ZC.seq zn90_19 (ZC.seq (ZC.seq zn90_22 (ZC.block 0 (ZC.loop X2a))) zn90_35)))))))))
def zc90: ZC:=zn90_0
theorem zc90_ok: zcode (xfOf Try.f90).code=some zc90:=by kernel_rfl
def zw90:=zU C zc90.eq_1<|zU C zn90_1.eq_1<|zU C zn90_3.eq_1<|zU C zn90_6.eq_1<|zU C zn90_9.eq_1<|zU C zn90_11.eq_1<|zU C zn90_13.eq_1<|zU C zn90_15.eq_1<|zU C zn90_17.eq_1<|zU C zn90_19.eq_1<|zU C zn90_22.eq_1<|zU C zn90_26.eq_1<|zU C zn90_32.eq_1<|zU C zn90_33.eq_1<|zU C zn90_34.eq_1<|zU C X2a.eq_1<|zU C zn90_35.eq_1<|(zunf C zn90_0.eq_1)
theorem rs90: (xfOf Try.f90).rs=[]:=by kernel_rfl
def xf90:=zF C 90 Try.f90
def zn91_1:=ZC.reg [zv 2 (.assign (.const (.slice none 0 0)))]
def zn91_3:=ZC.reg [zu 3 (zmv 0),zu 4 (.nilCheck (Tm 3)),zu 5 (zfa 203 4 0),zu 6 (zld 68 5),zu 7 (zcf 159 [Tm 6] [68]),zv 2 (zas 7)]
def zn91_0:=ZC.seq zn91_1 (ZC.seq zn91_3 ZC.ret)
def zc91: ZC:=zn91_0
theorem zc91_ok: zcode (xfOf Try.f91).code=some zc91:=by kernel_rfl
def zw91:=zU C zc91.eq_1<|zU C zn91_1.eq_1<|zU C zn91_3.eq_1<|(zunf C zn91_0.eq_1)
theorem rs91: (xfOf Try.f91).rs=[.tmp 2]:=by kernel_rfl
def xf91:=zF C 91 Try.f91
def zn157_2:=ZC.reg [zu 4 (zmv 0),zu 5 (.nilCheck (Tm 4)),zu 6 (zfa 203 5 1),zu 7 (zld 3 6),zu 8 (.binOp .rem 3 (Tm 7) (Kn 8) 3),zv 9 (.binOp .eql 3 (Tm 8) (Kn 0) 3)]
def zn157_4:=ZC.reg [zu 10 (zmv 0),zu 11 (zmv 0),zu 12 (.nilCheck (Tm 11)),zu 13 (zfa 203 12 0),zu 14 (zld 68 13),⟨some 15,.buildSlice 68 1 ⟨[(0,.const (.int .u8 0))]⟩,none,false⟩,zu 16 (zcb .append [Tm 14,Tm 15] [68,68]),zu 17 (.nilCheck (Tm 10)),zu 18 (zfa 203 17 0),zv0 (.store 68 (Tm 18) (Tm 16))]
def zn157_6:=ZC.draw 23 [] [zdd 0 19 (zmv 0) false [] [] false,zdd 1 20 (.nilCheck (Tm 19)) false [] [] false,zdd 2 21 (zfa 203 20 0) false [] [] false,zdd 3 22 (zld 68 21) false [] [] false,zdd 4 23 (zmv 0) false [] [] false,zdd 5 24 (.nilCheck (Tm 23)) false [] [] false,zdd 6 25 (zfa 203 24 1) false [] [] false,zdd 7 26 (zld 3 25) false [] [] false,zdd 8 27 (.binOp .quo 3 (Tm 26) (Kn 8) 3) false [] [] false,zdd 9 28 (zia 68 22 27) false [] [] false,zdd 10 29 (zld 5 28) false [] [] false,zdd 11 30 (zmv 1) false [] [] false,zdd 12 31 (zmv 0) true [] [] false,zdd 13 32 (.nilCheck (Tm 31)) true [] [] false,zdd 14 33 (zfa 203 32 1) true [] [] false,zdd 15 34 (zld 3 33) true [] [] false,zdd 16 35 (.binOp .rem 3 (Tm 34) (Kn 8) 3) true [] [] false,zdd 17 36 (.binOp .sub 3 (Kn 7) (Tm 35) 3) true [] [] false,zdd 18 37 (.binOp .shl 25 (Tm 30) (Tm 36) 3) true [] [] false,zdd 19 38 (.convert 25 5 (Tm 37)) true [] [] false,zdd 20 39 (.binOp .or 5 (Tm 29) (Tm 38) 5) true [] [] false,zdd 21 40 (zia 68 22 27) true [] [] false,zd0 22 (.store 5 (Tm 40) (Tm 39)) true [] [] false]
def zn157_7:=ZC.reg [zu 41 (zmv 0),zu 42 (.nilCheck (Tm 41)),zu 43 (zfa 203 42 1),zu 44 (zld 3 43),zu 45 (.binOp .add 3 (Tm 44) (Kn 1) 3),zu 46 (.nilCheck (Tm 41)),zu 47 (zfa 203 46 1),zv0 (.store 3 (Tm 47) (Tm 45))]
def zn157_0:=ZC.seq (ZC.seq zn157_2 (ZC.cond (Tm 9) zn157_4 ZC.skip)) (ZC.seq zn157_6 zn157_7)
def zc157: ZC:=zn157_0
theorem zc157_ok: zcode (xfOf Try.f157).code=some zc157:=by kernel_rfl
def zw157:=zU C zc157.eq_1<|zU C zn157_2.eq_1<|zU C zn157_4.eq_1<|zU C zn157_6.eq_1<|zU C zn157_7.eq_1<|(zunf C zn157_0.eq_1)
theorem rs157: (xfOf Try.f157).rs=[]:=by kernel_rfl
def xf157:=zF C 157 Try.f157
def zn158_0:=ZC.reg [zu 6 (zmv 0),zu 7 (zmv 1),zu 8 (.convert 3 25 (Tm 7)),zu 9 (zmv 2),zv 10 (zcf 89 [Tm 6,Tm 8,Tm 9] [143,25,3])]
def zc158: ZC:=zn158_0
theorem zc158_ok: zcode (xfOf Try.f158).code=some zc158:=by kernel_rfl
def zw158:=zU C zc158.eq_1<|(zunf C zn158_0.eq_1)
theorem rs158: (xfOf Try.f158).rs=[]:=by kernel_rfl
def xf158:=zF C 158 Try.f158
def zn159_1:=ZC.reg [zv 2 (.assign (.const (.slice none 0 0)))]
def zn159_4:=ZC.reg [zu 3 (zmv 0),zv 4 (.binOp .eql 68 (Tm 3) (.const (.slice none 0 0)) 68)]
def zn159_7:=ZC.reg [zv 2 (.assign (.const (.slice none 0 0)))]
def zn159_9:=ZC.reg [⟨some 5,.buildSlice 68 0 ⟨[]⟩,none,false⟩,zu 6 (zmv 0),zu 7 (zcb .append [Tm 5,Tm 6] [68,68]),zv 2 (zas 7)]
def zn159_0:=ZC.seq zn159_1 (ZC.seq (ZC.seq zn159_4 (ZC.cond (Tm 4) (ZC.seq zn159_7 ZC.ret) ZC.skip)) (ZC.seq zn159_9 ZC.ret))
def zc159: ZC:=zn159_0
theorem zc159_ok: zcode (xfOf Try.f159).code=some zc159:=by kernel_rfl
def zw159:=zU C zc159.eq_1<|zU C zn159_1.eq_1<|zU C zn159_4.eq_1<|zU C zn159_7.eq_1<|zU C zn159_9.eq_1<|(zunf C zn159_0.eq_1)
theorem rs159: (xfOf Try.f159).rs=[.tmp 2]:=by kernel_rfl
def xf159:=zF C 159 Try.f159
def zn33_1:=ZC.reg [zu 2 (.box 61 (Tm 0)),zu 3 (.box 66 (Tm 1)),zu 4 (.assign (.const (.slice none 0 0))),zv 5 (.assign (Kn 0))]
def zn33_4:=ZC.reg [zu 11 (zld 61 2),zu 12 (zld 66 3),zu 13 (zcf 44 [Tm 11,Tm 12] [61,66]),zv 14 (.unOp .not 4 (Tm 13))]
def zn33_7:=ZC.reg [zu 4 (.assign (.const (.slice none 0 0))),zv 5 (.assign (Kn 1))]
def zn33_9:=ZC.reg [zu 15 (zcf 88 [] []),zv 6 (zas 15)]
def zn33_11:=ZC.reg [zu 16 (zmv 6),zu 17 (zfa 66 3 0),zu 18 (zld 3 17),zu 19 (.convert 3 25 (Tm 18)),zv 20 (zcf 89 [Tm 16,Tm 19,Kn 10] [143,25,3])]
def zn33_13:=ZC.reg [zu 21 (zmv 6),zu 22 (zfa 66 3 1),zu 23 (zld 25 22),zv 24 (zcf 89 [Tm 21,Tm 23,Kn 64] [143,25,3])]
def zn33_16:=ZC.reg [zu 25 (zfa 66 3 2),zu 26 (zld 63 25),zv 27 (.move (Kn 0))]
def zn33_20:=ZC.reg [zv 28 (.binOp .lss 3 (Tm 27) (Kn 16) 3)]
def zn33_26:=ZC.reg [zu 29 (.index 63 (Tm 26) (Tm 27)),zu 8 (.alloc 34),zv0 (.store 34 (Tm 8) (Tm 29))]
def zn33_27:=ZC.reg [zu 30 (zmv 6),zu 31 (zld 34 8),zv 32 (zcf 90 [Tm 30,Tm 31] [143,34])]
def zn33_28:=ZC.reg [zu 33 (.binOp .add 3 (Tm 27) (Kn 1) 3),zv 27 (zmv 33)]
def V18:=ZC.seq zn33_20 (ZC.seq (ZC.cond (Tm 28) ZC.skip (ZC.exit 0)) (ZC.seq (ZC.block 1 (ZC.seq zn33_26 zn33_27)) zn33_28))
def zn33_31:=ZC.reg [zu 34 (zfa 66 3 3),zu 35 (zfa 61 2 0),zu 36 (zld 3 35),zu 37 (.slice 64 (Tm 34) none (some (Tm 36)) none),zu 38 (zcb .len [Tm 37] [24]),zv 39 (.move (Kn 0))]
def zn33_35:=ZC.reg [zv 40 (.binOp .lss 3 (Tm 39) (Tm 38) 3)]
def zn33_41:=ZC.reg [zu 41 (zia 24 37 39),zu 42 (zld 3 41),zv 10 (zas 42)]
def zn33_42:=ZC.reg [zu 43 (zmv 6),zu 44 (zmv 10),zu 45 (.convert 3 25 (Tm 44)),zv 46 (zcf 89 [Tm 43,Tm 45,Kn 31] [143,25,3])]
def zn33_43:=ZC.reg [zu 47 (.binOp .add 3 (Tm 39) (Kn 1) 3),zv 39 (zmv 47)]
def Y16:=ZC.seq zn33_35 (ZC.seq (ZC.cond (Tm 40) ZC.skip (ZC.exit 2)) (ZC.seq (ZC.block 3 (ZC.seq zn33_41 zn33_42)) zn33_43))
def zn33_45:=ZC.reg [zu 48 (zmv 6),zu 49 (zcf 91 [Tm 48] [143]),zu 4 (zas 49),zv 5 (.assign (Kn 0))]
def zn33_0:=ZC.seq zn33_1 (ZC.seq (ZC.seq zn33_4 (ZC.cond (Tm 14) (ZC.seq zn33_7 ZC.ret) ZC.skip)) (ZC.seq zn33_9 (ZC.seq zn33_11 (ZC.seq zn33_13 (ZC.seq (ZC.seq zn33_16 (ZC.block 0 (ZC.loop V18))) (ZC.seq (ZC.seq zn33_31 (ZC.block 2 (ZC.loop Y16))) (ZC.seq zn33_45 ZC.ret)))))))
def zc33: ZC:=zn33_0
theorem zc33_ok: zcode (xfOf Try.f33).code=some zc33:=by kernel_rfl
def zw33:=zU C zc33.eq_1<|zU C zn33_1.eq_1<|zU C zn33_4.eq_1<|zU C zn33_7.eq_1<|zU C zn33_9.eq_1<|zU C zn33_11.eq_1<|zU C zn33_13.eq_1<|zU C zn33_16.eq_1<|zU C zn33_20.eq_1<|zU C zn33_26.eq_1<|zU C zn33_27.eq_1<|zU C zn33_28.eq_1<|zU C V18.eq_1<|zU C zn33_31.eq_1<|zU C zn33_35.eq_1<|zU C zn33_41.eq_1<|zU C zn33_42.eq_1<|zU C zn33_43.eq_1<|zU C Y16.eq_1<|zU C zn33_45.eq_1<|(zunf C zn33_0.eq_1)
theorem rs33: (xfOf Try.f33).rs=[.tmp 4,.tmp 5]:=by kernel_rfl
def xf33:=zF C 33 Try.f33
def zn156_1:=ZC.reg [zv 2 (.assign (Kn 0))]
def zn156_3:=ZC.reg [zu 3 (zmv 0),zu 4 (zcb .min [Tm 3,Kn 64] [3,3]),zu 5 (zcb .max [Kn 0,Tm 4] [3,3]),zv 2 (zas 5)]
def zn156_0:=ZC.seq zn156_1 (ZC.seq zn156_3 ZC.ret)
def zc156: ZC:=zn156_0
theorem zc156_ok: zcode (xfOf Try.f156).code=some zc156:=by kernel_rfl
def zw156:=zU C zc156.eq_1<|zU C zn156_1.eq_1<|zU C zn156_3.eq_1<|(zunf C zn156_0.eq_1)
theorem rs156: (xfOf Try.f156).rs=[.tmp 2]:=by kernel_rfl
def xf156:=zF C 156 Try.f156
def zn95_1:=ZC.reg [zv 2 (.assign (.const (.pointer none)))]
def zn95_3:=ZC.reg [zu 3 (zmv 0),zu 4 (zcf 159 [Tm 3] [68]),⟨some 5,.build 208 ⟨[(0,.tmp 4)]⟩,none,false⟩,zu 6 (.box 208 (Tm 5)),zv 2 (zas 6)]
def zn95_0:=ZC.seq zn95_1 (ZC.seq zn95_3 ZC.ret)
def zc95: ZC:=zn95_0
theorem zc95_ok: zcode (xfOf Try.f95).code=some zc95:=by kernel_rfl
def zw95:=zU C zc95.eq_1<|zU C zn95_1.eq_1<|zU C zn95_3.eq_1<|(zunf C zn95_0.eq_1)
theorem rs95: (xfOf Try.f95).rs=[.tmp 2]:=by kernel_rfl
def xf95:=zF C 95 Try.f95
def zn96_1:=ZC.reg [zv 4 (.assign (.const (.bool false)))]
def zn96_4:=ZC.reg [zu 6 (zmv 0),zu 7 (zcb .len [Tm 6] [68]),zu 8 (zmv 1),zu 9 (zcb .len [Tm 8] [68]),zv 10 (.binOp .neq 3 (Tm 7) (Tm 9) 3)]
def zn96_7:=ZC.reg [zv 4 (.assign (.const (.bool false)))]
def zn96_10:=ZC.reg [zu 11 (zmv 0),zu 12 (zcb .len [Tm 11] [68]),zv 13 (.move (Kn 0))]
def zn96_14:=ZC.reg [zv 14 (.binOp .lss 3 (Tm 13) (Tm 12) 3)]
def zn96_20:=ZC.reg [zu 15 (zmv 13),zv 5 (zas 15)]
def zn96_22:=ZC.draw 9 [] [zdd 0 16 (zmv 0) false [] [] false,zdd 1 17 (zmv 5) false [] [] false,zdd 2 18 (zia 68 16 17) false [] [] false,zdd 3 19 (zld 5 18) false [] [] false,zdd 4 20 (zmv 1) false [] [] false,zdd 5 21 (zmv 5) true [] [] false,zdd 6 22 (zia 68 20 21) true [] [] false,zdd 7 23 (zld 5 22) true [] [] false,zdd 8 24 (.binOp .neq 5 (Tm 19) (Tm 23) 5) true [] [] false]
def zn96_25:=ZC.reg [zv 4 (.assign (.const (.bool false)))]
def zn96_26:=ZC.reg [zu 25 (.binOp .add 3 (Tm 13) (Kn 1) 3),zv 13 (zmv 25)]
def K1b:=ZC.seq zn96_14 (ZC.seq (ZC.cond (Tm 14) ZC.skip (ZC.exit 0)) (ZC.seq (ZC.block 1 (ZC.seq zn96_20 (ZC.seq zn96_22 (ZC.cond (Tm 24) (ZC.seq zn96_25 ZC.ret) ZC.skip)))) zn96_26))
def zn96_28:=ZC.reg [zv 4 (.assign (.const (.bool true)))]
def zn96_0:=ZC.seq zn96_1 (ZC.seq (ZC.seq zn96_4 (ZC.cond (Tm 10) (ZC.seq zn96_7 ZC.ret) ZC.skip)) (ZC.seq (ZC.seq zn96_10 (ZC.block 0 (ZC.loop K1b))) (ZC.seq zn96_28 ZC.ret)))
def zc96: ZC:=zn96_0
theorem zc96_ok: zcode (xfOf Try.f96).code=some zc96:=by kernel_rfl
def zw96:=zU C zc96.eq_1<|zU C zn96_1.eq_1<|zU C zn96_4.eq_1<|zU C zn96_7.eq_1<|zU C zn96_10.eq_1<|zU C zn96_14.eq_1<|zU C zn96_20.eq_1<|zU C zn96_22.eq_1<|zU C zn96_25.eq_1<|zU C zn96_26.eq_1<|zU C K1b.eq_1<|zU C zn96_28.eq_1<|(zunf C zn96_0.eq_1)
theorem rs96: (xfOf Try.f96).rs=[.tmp 4]:=by kernel_rfl
def xf96:=zF C 96 Try.f96
def zn160_1:=ZC.reg [zv 4 (.assign (.const (.int .u64 0)))]
def zn160_3:=ZC.reg [zu 7 (zmv 1),zu 8 (zcf 156 [Tm 7] [3]),zv 1 (zas 8)]
def zn160_5:=ZC.draw 9 [] [zdd 0 9 (zmv 1) false [] [] false,zdd 1 10 (zmv 0) false [] [] false,zdd 2 11 (zcf 189 [Tm 10] [150]) false [] [] true,zdd 3 12 (.binOp .leq 3 (Tm 9) (Tm 11) 3) false [] [] false,zdd 4 13 (zmv 0) true [] [] false,zdd 5 14 (.nilCheck (Tm 13)) true [] [] false,zdd 6 15 (zfa 208 14 1) true [2] [] false,zdd 7 16 (zld 3 15) true [2] [] false,zdd 8 17 (zcf 181 [Tm 12,Kn 100,Tm 16] [4,3,3]) true [] [] false]
def zn160_7:=ZC.reg [zv 5 (.assign (.const (.int .u64 0)))]
def zn160_10:=ZC.reg [zu 18 (zmv 1),zv 19 (.move (Kn 0))]
def zn160_14:=ZC.reg [zv 20 (.binOp .lss 3 (Tm 19) (Tm 18) 3)]
def zn160_20:=ZC.draw 20 [] [zdd 0 21 (zmv 0) false [] [] false,zdd 1 22 (.nilCheck (Tm 21)) false [] [] false,zdd 2 23 (zfa 208 22 0) false [] [] false,zdd 3 24 (zld 68 23) false [] [] false,zdd 4 25 (zmv 0) false [] [] false,zdd 5 26 (.nilCheck (Tm 25)) false [] [] false,zdd 6 27 (zfa 208 26 1) false [] [] false,zdd 7 28 (zld 3 27) false [] [] false,zdd 8 29 (.binOp .quo 3 (Tm 28) (Kn 8) 3) false [] [] false,zdd 9 30 (zia 68 24 29) false [] [] false,zdd 10 31 (zld 5 30) false [] [] false,zdd 11 32 (zmv 0) true [] [] false,zdd 12 33 (.nilCheck (Tm 32)) true [] [] false,zdd 13 34 (zfa 208 33 1) true [] [] false,zdd 14 35 (zld 3 34) true [] [] false,zdd 15 36 (.binOp .rem 3 (Tm 35) (Kn 8) 3) true [] [] false,zdd 16 37 (.binOp .sub 3 (Kn 7) (Tm 36) 3) true [] [] false,zdd 17 38 (.binOp .shr 5 (Tm 31) (Tm 37) 3) true [] [] false,zdd 18 39 (.binOp .and 5 (Tm 38) (.const (.int .u8 1)) 5) true [] [] false,zdd 19 6 (zas 39) true [] [] false]
def zn160_22:=ZC.reg [zu 40 (zmv 5),zu 41 (.binOp .shl 25 (Tm 40) (.const (.int .u64 1)) 178),zu 42 (zmv 6),zu 43 (.convert 5 25 (Tm 42)),zu 44 (.binOp .or 25 (Tm 41) (Tm 43) 25),zv 5 (zas 44)]
def zn160_23:=ZC.reg [zu 45 (zmv 0),zu 46 (.nilCheck (Tm 45)),zu 47 (zfa 208 46 1),zu 48 (zld 3 47),zu 49 (.binOp .add 3 (Tm 48) (Kn 1) 3),zu 50 (.nilCheck (Tm 45)),zu 51 (zfa 208 50 1),zv0 (.store 3 (Tm 51) (Tm 49))]
def zn160_24:=ZC.reg [zu 52 (.binOp .add 3 (Tm 19) (Kn 1) 3),zv 19 (zmv 52)]
def X1g:=ZC.seq zn160_14 (ZC.seq (ZC.cond (Tm 20) ZC.skip (ZC.exit 0)) (ZC.seq (ZC.block 1 (ZC.seq zn160_20 (ZC.seq zn160_22 zn160_23))) zn160_24))
def zn160_26:=ZC.reg [zu 53 (zmv 5),zv 4 (zas 53)]
def zn160_0:=ZC.seq zn160_1 (ZC.seq zn160_3 (ZC.seq zn160_5 (ZC.seq zn160_7 (ZC.seq (ZC.seq zn160_10 (ZC.block 0 (ZC.loop X1g))) (ZC.seq zn160_26 ZC.ret)))))
def zc160: ZC:=zn160_0
theorem zc160_ok: zcode (xfOf Try.f160).code=some zc160:=by kernel_rfl
def zw160:=zU C zc160.eq_1<|zU C zn160_1.eq_1<|zU C zn160_3.eq_1<|zU C zn160_5.eq_1<|zU C zn160_7.eq_1<|zU C zn160_10.eq_1<|zU C zn160_14.eq_1<|zU C zn160_20.eq_1<|zU C zn160_22.eq_1<|zU C zn160_23.eq_1<|zU C zn160_24.eq_1<|zU C X1g.eq_1<|zU C zn160_26.eq_1<|(zunf C zn160_0.eq_1)
theorem rs160: (xfOf Try.f160).rs=[.tmp 4]:=by kernel_rfl
def xf160:=zF C 160 Try.f160
def zn161_1:=ZC.reg [zv 2 (.alloc 34)]
def zn161_3:=ZC.reg [zu 5 (zmv 0),zu 6 (zcf 160 [Tm 5,Kn 2] [150,3]),zu 7 (.convert 25 3 (Tm 6)),⟨some 8,.build 34 ⟨[(0,.tmp 7)]⟩,none,false⟩,zu 3 (.alloc 34),zv0 (.store 34 (Tm 3) (Tm 8))]
def zn161_6:=ZC.reg [zu 9 (zfa 34 3 0),zu 10 (zld 3 9),zv 11 (.binOp .eql 3 (Tm 10) (Kn 0) 3)]
def zn161_9:=ZC.reg [zu 12 (zld 34 3),zv0 (.store 34 (Tm 2) (Tm 12))]
def zn161_11:=ZC.reg [zu 13 (zmv 0),zu 14 (zcf 160 [Tm 13,Kn 3] [150,3]),zu 15 (.convert 25 3 (Tm 14)),zu 16 (zfa 34 3 1),zv0 (.store 3 (Tm 16) (Tm 15))]
def zn161_13:=ZC.reg [zu 17 (zmv 0),zu 18 (zcf 160 [Tm 17,Kn 12] [150,3]),zu 19 (.convert 25 3 (Tm 18)),zu 20 (zfa 34 3 2),zv0 (.store 3 (Tm 20) (Tm 19))]
def zn161_15:=ZC.reg [zu 21 (zmv 0),zu 22 (zcf 160 [Tm 21,Kn 12] [150,3]),zu 23 (.convert 25 3 (Tm 22)),zu 24 (zfa 34 3 3),zv0 (.store 3 (Tm 24) (Tm 23))]
def zn161_17:=ZC.reg [zu 25 (zmv 0),zu 26 (zcf 190 [Tm 25,Kn 8] [150,3]),zu 27 (zfa 34 3 4),zv0 (.store 3 (Tm 27) (Tm 26))]
def zn161_19:=ZC.reg [zu 28 (zmv 0),zu 29 (zcf 190 [Tm 28,Kn 8] [150,3]),zu 30 (zfa 34 3 5),zv0 (.store 3 (Tm 30) (Tm 29))]
def zn161_21:=ZC.reg [zu 31 (zmv 0),zu 32 (zcf 160 [Tm 31,Kn 10] [150,3]),zu 33 (.convert 25 3 (Tm 32)),zu 34 (zfa 34 3 6),zv0 (.store 3 (Tm 34) (Tm 33))]
def zn161_24:=ZC.reg [zv 35 (.move (Kn 0))]
def zn161_28:=ZC.reg [zv 36 (.binOp .lss 3 (Tm 35) (Kn 4) 3)]
def zn161_34:=ZC.reg [zu 37 (zmv 35),zv 4 (zas 37)]
def zn161_35:=ZC.reg [zu 38 (zmv 4),zu 39 (zmv 0),zu 40 (zcf 190 [Tm 39,Kn 21] [150,3]),zu 41 (zfa 34 3 7),zu 42 (zia 32 41 38),zv0 (.store 3 (Tm 42) (Tm 40))]
def zn161_36:=ZC.reg [zu 43 (.binOp .add 3 (Tm 35) (Kn 1) 3),zv 35 (zmv 43)]
def Z1h:=ZC.seq zn161_28 (ZC.seq (ZC.cond (Tm 36) ZC.skip (ZC.exit 0)) (ZC.seq (ZC.block 1 (ZC.seq zn161_34 zn161_35)) zn161_36))
def zn161_38:=ZC.reg [zu 44 (zmv 0),zu 45 (zcf 160 [Tm 44,Kn 16] [150,3]),zu 46 (.convert 25 3 (Tm 45)),zu 47 (zfa 34 3 8),zv0 (.store 3 (Tm 47) (Tm 46))]
def zn161_40:=ZC.reg [zu 48 (zld 34 3),zv0 (.store 34 (Tm 2) (Tm 48))]
def zn161_0:=ZC.seq zn161_1 (ZC.seq zn161_3 (ZC.seq (ZC.seq zn161_6 (ZC.cond (Tm 11) (ZC.seq zn161_9 ZC.ret) ZC.skip)) (ZC.seq zn161_11 (ZC.seq zn161_13 (ZC.seq zn161_15 (ZC.seq zn161_17 (ZC.seq zn161_19 (ZC.seq zn161_21 (ZC.seq (ZC.seq zn161_24 (ZC.block 0 (ZC.loop Z1h))) (ZC.seq zn161_38 (ZC.seq zn161_40 ZC.ret)))))))))))
def zc161: ZC:=zn161_0
theorem zc161_ok: zcode (xfOf Try.f161).code=some zc161:=by kernel_rfl
def zw161:=zU C zc161.eq_1<|zU C zn161_1.eq_1<|zU C zn161_3.eq_1<|zU C zn161_6.eq_1<|zU C zn161_9.eq_1<|zU C zn161_11.eq_1<|zU C zn161_13.eq_1<|zU C zn161_15.eq_1<|zU C zn161_17.eq_1<|zU C zn161_19.eq_1<|zU C zn161_21.eq_1<|zU C zn161_24.eq_1<|zU C zn161_28.eq_1<|zU C zn161_34.eq_1<|zU C zn161_35.eq_1<|zU C zn161_36.eq_1<|zU C Z1h.eq_1<|zU C zn161_38.eq_1<|zU C zn161_40.eq_1<|(zunf C zn161_0.eq_1)
theorem rs161: (xfOf Try.f161).rs=[.cell 2 34]:=by kernel_rfl
def xf161:=zF C 161 Try.f161
def zn189_1:=ZC.reg [zv 2 (.assign (Kn 0))]
def zn189_3:=ZC.draw 12 [] [zdd 0 3 (zmv 0) false [] [] false,zdd 1 4 (.nilCheck (Tm 3)) false [] [] false,zdd 2 5 (zfa 208 4 0) false [] [] false,zdd 3 6 (zld 68 5) false [] [] false,zdd 4 7 (zcb .len [Tm 6] [68]) false [] [] false,zdd 5 8 (.binOp .mul 3 (Kn 8) (Tm 7) 3) false [] [] false,zdd 6 9 (zmv 0) true [] [] false,zdd 7 10 (.nilCheck (Tm 9)) true [] [] false,zdd 8 11 (zfa 208 10 1) true [] [] false,zdd 9 12 (zld 3 11) true [] [] false,zdd 10 13 (.binOp .sub 3 (Tm 8) (Tm 12) 3) true [] [] false,zdd 11 2 (zas 13) true [] [] false]
def zn189_0:=ZC.seq zn189_1 (ZC.seq zn189_3 ZC.ret)
def zc189: ZC:=zn189_0
theorem zc189_ok: zcode (xfOf Try.f189).code=some zc189:=by kernel_rfl
def zw189:=zU C zc189.eq_1<|zU C zn189_1.eq_1<|zU C zn189_3.eq_1<|(zunf C zn189_0.eq_1)
theorem rs189: (xfOf Try.f189).rs=[.tmp 2]:=by kernel_rfl
def xf189:=zF C 189 Try.f189
def zn190_1:=ZC.reg [zv 4 (.assign (Kn 0))]
def zn190_3:=ZC.reg [zu 6 (zmv 1),zu 7 (zcf 156 [Tm 6] [3]),zv 1 (zas 7)]
def zn190_6:=ZC.reg [zu 8 (zmv 1),zv 9 (.binOp .eql 3 (Tm 8) (Kn 0) 3)]
def zn190_9:=ZC.reg [zv 4 (.assign (Kn 0))]
def zn190_11:=ZC.reg [zu 10 (zmv 1),zu 11 (.binOp .sub 3 (Kn 64) (Tm 10) 3),zv 5 (zas 11)]
def zn190_13:=ZC.reg [zu 12 (zmv 0),zu 13 (zmv 1),zu 14 (zcf 160 [Tm 12,Tm 13] [150,3]),zu 15 (zmv 5),zu 16 (.binOp .shl 25 (Tm 14) (Tm 15) 3),zu 17 (.convert 25 3 (Tm 16)),zu 18 (zmv 5),zu 19 (.binOp .shr 3 (Tm 17) (Tm 18) 3),zv 4 (zas 19)]
def zn190_0:=ZC.seq zn190_1 (ZC.seq zn190_3 (ZC.seq (ZC.seq zn190_6 (ZC.cond (Tm 9) (ZC.seq zn190_9 ZC.ret) ZC.skip)) (ZC.seq zn190_11 (ZC.seq zn190_13 ZC.ret))))
def zc190: ZC:=zn190_0
theorem zc190_ok: zcode (xfOf Try.f190).code=some zc190:=by kernel_rfl
def zw190:=zU C zc190.eq_1<|zU C zn190_1.eq_1<|zU C zn190_3.eq_1<|zU C zn190_6.eq_1<|zU C zn190_9.eq_1<|zU C zn190_11.eq_1<|zU C zn190_13.eq_1<|(zunf C zn190_0.eq_1)
theorem rs190: (xfOf Try.f190).rs=[.tmp 4]:=by kernel_rfl
def xf190:=zF C 190 Try.f190
def zn93_0:=ZC.draw 5 [] [zdd 0 3 (zld 61 0) false [] [2] false,zdd 1 4 (zld 68 1) true [] [] false,zdd 2 5 (zcf 95 [Tm 4] [68]) true [] [] false,zdd 3 6 (zcf 94 [Tm 3,Tm 5] [61,150]) true [] [] false,zd0 4 (.store 66 (Tm 2) (Tm 6)) true [] [] false]
def zc93: ZC:=zn93_0
theorem zc93_ok: zcode (xfOf Try.f93).code=some zc93:=by kernel_rfl
def zw93:=zU C zc93.eq_1<|(zunf C zn93_0.eq_1)
theorem rs93: (xfOf Try.f93).rs=[]:=by kernel_rfl
def xf93:=zF C 93 Try.f93
def zn94_1:=ZC.reg [zu 2 (.box 61 (Tm 0)),zv 4 (.alloc 66)]
def zn94_3:=ZC.reg [zu 8 (zmv 1),zu 9 (zcf 160 [Tm 8,Kn 10] [150,3]),zu 10 (.convert 25 3 (Tm 9)),zu 11 (zmv 1),zu 12 (zcf 160 [Tm 11,Kn 64] [150,3]),⟨some 13,.build 66 ⟨[(0,.tmp 10),(1,.tmp 12)]⟩,none,false⟩,zu 5 (.alloc 66),zv0 (.store 66 (Tm 5) (Tm 13))]
def zn94_6:=ZC.reg [zv 14 (.move (Kn 0))]
def zn94_10:=ZC.reg [zv 15 (.binOp .lss 3 (Tm 14) (Kn 16) 3)]
def zn94_16:=ZC.reg [zu 16 (zmv 14),zv 6 (zas 16)]
def zn94_17:=ZC.reg [zu 17 (zmv 6),zu 18 (zmv 1),zu 19 (zcf 161 [Tm 18] [150]),zu 20 (zfa 66 5 2),zu 21 (zia 63 20 17),zv0 (.store 34 (Tm 21) (Tm 19))]
def zn94_18:=ZC.reg [zu 22 (.binOp .add 3 (Tm 14) (Kn 1) 3),zv 14 (zmv 22)]
def zn94_9:=ZC.seq zn94_10 (ZC.seq (ZC.cond (Tm 15) ZC.skip (ZC.exit 0)) (ZC.seq (ZC.block 1 (ZC.seq zn94_16 zn94_17)) zn94_18))
def zn94_21:=ZC.reg [zu 23 (zfa 61 2 0),zu 24 (zld 3 23),zu 25 (zcb .min [Tm 24,Kn 8] [3,3]),zu 26 (zcb .max [Kn 0,Tm 25] [3,3]),zv 27 (.move (Kn 0))]
def zn94_25:=ZC.reg [zv 28 (.binOp .lss 3 (Tm 27) (Tm 26) 3)]
def zn94_31:=ZC.reg [zu 29 (zmv 27),zv 7 (zas 29)]
def zn94_32:=ZC.reg [zu 30 (zmv 7),zu 31 (zmv 1),zu 32 (zcf 160 [Tm 31,Kn 31] [150,3]),zu 33 (.convert 25 3 (Tm 32)),zu 34 (zfa 66 5 3),zu 35 (zia 64 34 30),zv0 (.store 3 (Tm 35) (Tm 33))]
def zn94_33:=ZC.reg [zu 36 (.binOp .add 3 (Tm 27) (Kn 1) 3),zv 27 (zmv 36)]
def X17:=ZC.seq zn94_25 (ZC.seq (ZC.cond (Tm 28) ZC.skip (ZC.exit 2)) (ZC.seq (ZC.block 3 (ZC.seq zn94_31 zn94_32)) zn94_33))
def zn94_35:=ZC.reg [zu 37 (zld 66 5),zv0 (.store 66 (Tm 4) (Tm 37))]
def zn94_0:=ZC.seq zn94_1 (ZC.seq zn94_3 (ZC.seq (ZC.seq zn94_6 (ZC.block 0 (ZC.loop zn94_9))) (ZC.seq (ZC.seq zn94_21 (ZC.block 2 (ZC.loop X17))) (ZC.seq zn94_35 ZC.ret))))
def zc94: ZC:=zn94_0
theorem zc94_ok: zcode (xfOf Try.f94).code=some zc94:=by kernel_rfl
def zw94:=zU C zc94.eq_1<|zU C zn94_1.eq_1<|zU C zn94_3.eq_1<|zU C zn94_6.eq_1<|zU C zn94_10.eq_1<|zU C zn94_16.eq_1<|zU C zn94_17.eq_1<|zU C zn94_18.eq_1<|zU C zn94_9.eq_1<|zU C zn94_21.eq_1<|zU C zn94_25.eq_1<|zU C zn94_31.eq_1<|zU C zn94_32.eq_1<|zU C zn94_33.eq_1<|zU C X17.eq_1<|zU C zn94_35.eq_1<|(zunf C zn94_0.eq_1)
theorem rs94: (xfOf Try.f94).rs=[.cell 4 66]:=by kernel_rfl
def xf94:=zF C 94 Try.f94
def zn36_1:=ZC.reg [zu 2 (.box 61 (Tm 0)),zu 3 (.box 68 (Tm 1)),zu 4 (.alloc 66),zv 5 (.assign (Kn 0))]
def zn36_3:=ZC.reg [zv 6 (.alloc 66)]
def zn36_5:=ZC.reg [⟨some 12,.makeFunc (.func 93) ⟨[]⟩ ⟨[Tm 2,Tm 3,Tm 6]⟩,none,false⟩,zu 13 (zcf 73 [Tm 12] [1]),zu 11 (zmv 13),zu 14 (.extract (Tm 11) 0),zu 15 (.extract (Tm 11) 1),zu 7 (.alloc 44),zu0 (.store 44 (Tm 7) (Tm 14)),zv 8 (zas 15)]
def zn36_7:=ZC.reg [zu 17 (zld 61 2),zu 18 (zld 66 6),zu 19 (zcf 33 [Tm 17,Tm 18] [61,66]),zu 16 (zmv 19),zu 20 (.extract (Tm 16) 0),zu 21 (.extract (Tm 16) 1),zu 9 (zas 20),zv 10 (zas 21)]
def zn36_10:=ZC.reg [zu 22 (zmv 8),zu 23 (zmv 22),zug 24 (zmv 10) 23 false false,zug 25 (.binOp .neq 69 (Tm 24) (Kn 0) 69) 23 false false,zu 26 (.pick (Tm 23) (.const (.bool true)) (Tm 25)),zu 27 (zmv 26),zug 28 (zmv 9) 27 false false,zug 29 (zld 68 3) 27 false false,zug 30 (zcf 96 [Tm 28,Tm 29] [68,68]) 27 false false,zug 31 (.unOp .not 4 (Tm 30)) 27 false false,zv 32 (.pick (Tm 27) (.const (.bool true)) (Tm 31))]
def zn36_13:=ZC.reg [⟨some 33,.build 66 ⟨[]⟩,none,false⟩,zu0 (.store 66 (Tm 4) (Tm 33)),zv 5 (.assign (Kn 2))]
def zn36_15:=ZC.reg [zu 34 (zld 66 6),zu0 (.store 66 (Tm 4) (Tm 34)),zv 5 (.assign (Kn 0))]
def zn36_0:=ZC.seq zn36_1 (ZC.seq zn36_3 (ZC.seq zn36_5 (ZC.seq zn36_7 (ZC.seq (ZC.seq zn36_10 (ZC.cond (Tm 32) (ZC.seq zn36_13 ZC.ret) ZC.skip)) (ZC.seq zn36_15 ZC.ret)))))
def zc36: ZC:=zn36_0
theorem zc36_ok: zcode (xfOf Try.f36).code=some zc36:=by kernel_rfl
def zw36:=zU C zc36.eq_1<|zU C zn36_1.eq_1<|zU C zn36_3.eq_1<|zU C zn36_5.eq_1<|zU C zn36_7.eq_1<|zU C zn36_10.eq_1<|zU C zn36_13.eq_1<|zU C zn36_15.eq_1<|(zunf C zn36_0.eq_1)
theorem rs36: (xfOf Try.f36).rs=[.cell 4 66,.tmp 5]:=by kernel_rfl
def xf36:=zF C 36 Try.f36
def zn35_1:=ZC.reg [zu 2 (.box 66 (Tm 0)),zu 3 (.box 66 (Tm 1)),zv 4 (.assign (.const (.bool false)))]
def zn35_3:=ZC.reg [zu 5 (zld 66 2),zu 6 (zld 66 3),zu 7 (.binOp .eql 66 (Tm 5) (Tm 6) 66),zv 4 (zas 7)]
def zn35_0:=ZC.seq zn35_1 (ZC.seq zn35_3 ZC.ret)
def zc35: ZC:=zn35_0
theorem zc35_ok: zcode (xfOf Try.f35).code=some zc35:=by kernel_rfl
def zw35:=zU C zc35.eq_1<|zU C zn35_1.eq_1<|zU C zn35_3.eq_1<|(zunf C zn35_0.eq_1)
theorem rs35: (xfOf Try.f35).rs=[.tmp 4]:=by kernel_rfl
def xf35:=zF C 35 Try.f35
def zn40_1:=ZC.reg [zu 2 (.box 61 (Tm 0)),zu 3 (.box 66 (Tm 1)),zv 4 (.assign (Kn 0))]
def zn40_3:=ZC.reg [zu 8 (zld 61 2),zu 9 (zld 66 3),zu 10 (zcf 33 [Tm 8,Tm 9] [61,66]),zu 7 (zmv 10),zu 11 (.extract (Tm 7) 0),zu 12 (.extract (Tm 7) 1),zu 5 (zas 11),zv 6 (zas 12)]
def zn40_6:=ZC.reg [zu 13 (zmv 6),zv 14 (.binOp .neq 69 (Tm 13) (Kn 0) 69)]
def zn40_9:=ZC.reg [zv 4 (.assign (Kn 0))]
def zn40_11:=ZC.reg [zu 15 (zmv 5),zu 16 (zcf 101 [Tm 15] [68]),zv 4 (zas 16)]
def zn40_0:=ZC.seq zn40_1 (ZC.seq zn40_3 (ZC.seq (ZC.seq zn40_6 (ZC.cond (Tm 14) (ZC.seq zn40_9 ZC.ret) ZC.skip)) (ZC.seq zn40_11 ZC.ret)))
def zc40: ZC:=zn40_0
theorem zc40_ok: zcode (xfOf Try.f40).code=some zc40:=by kernel_rfl
def zw40:=zU C zc40.eq_1<|zU C zn40_1.eq_1<|zU C zn40_3.eq_1<|zU C zn40_6.eq_1<|zU C zn40_9.eq_1<|zU C zn40_11.eq_1<|(zunf C zn40_0.eq_1)
theorem rs40: (xfOf Try.f40).rs=[.tmp 4]:=by kernel_rfl
def xf40:=zF C 40 Try.f40
def zn101_1:=ZC.reg [zv 2 (.assign (Kn 0))]
def zn101_3:=ZC.reg [zu 3 (zmv 0),zu 4 (zcf 163 [Kn 7,Tm 3] [3,68]),zu 5 (.binOp .shl 3 (Tm 4) (.const (.int .u64 31)) 178),zu 6 (zmv 0),zu 7 (zcf 163 [Kn 11,Tm 6] [3,68]),zu 8 (.binOp .add 3 (Tm 5) (Tm 7) 3),zv 2 (zas 8)]
def zn101_0:=ZC.seq zn101_1 (ZC.seq zn101_3 ZC.ret)
def zc101: ZC:=zn101_0
theorem zc101_ok: zcode (xfOf Try.f101).code=some zc101:=by kernel_rfl
def zw101:=zU C zc101.eq_1<|zU C zn101_1.eq_1<|zU C zn101_3.eq_1<|(zunf C zn101_0.eq_1)
theorem rs101: (xfOf Try.f101).rs=[.tmp 2]:=by kernel_rfl
def xf101:=zF C 101 Try.f101
def zn163_1:=ZC.reg [zv 4 (.assign (Kn 0))]
def zn163_3:=ZC.reg [zu 8 (zmv 0),zu 9 (.binOp .rem 3 (Tm 8) (Kn 2147483647) 3),zu 10 (.binOp .add 3 (Tm 9) (Kn 2147483647) 3),zu 11 (.binOp .rem 3 (Tm 10) (Kn 2147483647) 3),zu 12 (.binOp .add 3 (Tm 11) (Kn 1) 3),zv 5 (zas 12)]
def zn163_6:=ZC.reg [zu 13 (zmv 1),zu 14 (zcb .len [Tm 13] [68]),zv 15 (.move (Kn 0))]
def zn163_10:=ZC.reg [zv 16 (.binOp .lss 3 (Tm 15) (Tm 14) 3)]
def zn163_16:=ZC.reg [zu 17 (zia 68 13 15),zu 18 (zld 5 17),zv 7 (zas 18)]
def zn163_17:=ZC.reg [zu 19 (zmv 5),zu 20 (.binOp .mul 3 (Tm 19) (Kn 257) 3),zu 21 (zmv 7),zu 22 (.convert 5 3 (Tm 21)),zu 23 (.binOp .add 3 (Tm 20) (Tm 22) 3),zu 24 (.binOp .add 3 (Tm 23) (Kn 1) 3),zu 25 (.binOp .rem 3 (Tm 24) (Kn 2147483647) 3),zv 5 (zas 25)]
def zn163_18:=ZC.reg [zu 26 (.binOp .add 3 (Tm 15) (Kn 1) 3),zv 15 (zmv 26)]
def Y13:=ZC.seq zn163_10 (ZC.seq (ZC.cond (Tm 16) ZC.skip (ZC.exit 0)) (ZC.seq (ZC.block 1 (ZC.seq zn163_16 zn163_17)) zn163_18))
def zn163_20:=ZC.reg [zu 27 (zmv 5),zu 28 (zmv 1),zu 29 (zcb .len [Tm 28] [68]),zu 30 (.binOp .add 3 (Tm 27) (Tm 29) 3),zu 31 (.binOp .rem 3 (Tm 30) (Kn 2147483647) 3),zv 4 (zas 31)]
def zn163_0:=ZC.seq zn163_1 (ZC.seq zn163_3 (ZC.seq (ZC.seq zn163_6 (ZC.block 0 (ZC.loop Y13))) (ZC.seq zn163_20 ZC.ret)))
def zc163: ZC:=zn163_0
theorem zc163_ok: zcode (xfOf Try.f163).code=some zc163:=by kernel_rfl
def zw163:=zU C zc163.eq_1<|zU C zn163_1.eq_1<|zU C zn163_3.eq_1<|zU C zn163_6.eq_1<|zU C zn163_10.eq_1<|zU C zn163_16.eq_1<|zU C zn163_17.eq_1<|zU C zn163_18.eq_1<|zU C Y13.eq_1<|zU C zn163_20.eq_1<|(zunf C zn163_0.eq_1)
theorem rs163: (xfOf Try.f163).rs=[.tmp 4]:=by kernel_rfl
def xf163:=zF C 163 Try.f163
end Go.Proofs.Ytpchcfkebljopaa
end
section
namespace Go.Proofs.Ytpchcfkebljopaa
open Go.Cl Go Go.RowKit
def partL{α:Type}(l:List α): Lst α:=if h:l=[] then⟨.nil,[],fun _=>rfl⟩ else⟨.part,l,nofun⟩
theorem Q1v{α:Type}{f:α->CV}(hf:∀x j,¬(f x).has j)(s:Lst α)(k:Nat)(h:s.tl=.nil\/(∃j,s.tl=.own j)/\0<s.l.length): CV.weak (fun k=>k) k (Lst.cv f s) (Lst.cv f (partL s.l)):=by
 have hl:∀l:List α,CV.weakL (fun k=>k) k (l.map f) (l.map f):=fun l=>CV.weakL_refl _ fun j hj=>(X0m hf l j hj).elim
 obtain⟨tl,l,o⟩:=s
 rcases h with h|⟨⟨j,h⟩,h0⟩
 ·simp only at h
  subst h
  have:l=[]:=o rfl
  subst this
  simp[partL,Lst.cv,CV.weak,Tail.weak,CV.weakL]
 ·simp only at h
  subst h
  have hne:l≠[]:=by intro e;subst e;simp at h0
  simp only[partL,dif_neg hne,Lst.cv,CV.weak,Tail.weak,true_and]
  exact hl _
def eff(e:V0d)(o:Z0b): Except Int V0d:=
 match Mach.doOp ⟨e,⟨.nil,[],fun _=>rfl⟩,0⟩ o with
 |.error c=>.error c
 |.ok r=>.ok r.1.e_
end Go.Proofs.Ytpchcfkebljopaa
end
