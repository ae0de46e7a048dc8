import Derived.Test.YtpchcfkebljopaaGreatChecked
import Derived.Test.YtpchcfkebljopaaGreatRows
import Derived.Test.YtpchcfkebljopaaGreatXe
set_option linter.unusedSimpArgs false
set_option linter.unusedVariables false
set_option linter.constructorNameAsVariable false
set_option linter.defProp false
set_option maxHeartbeats 8000000
section
namespace Go.Proofs.YtpchcfkebljopaaGreat
open Go.Cl
abbrev sh1: Shape:=.s
abbrev z1: CV:=.sc .nilFunc
def ti1: TI:=⟨.base (.func #[] #[] false),sh1,8,z1⟩
abbrev sh2: Shape:=.s
abbrev z2: CV:=.sc (.int .i64 0)
def ti2: TI:=⟨.base (.int .i64),sh2,8,z2⟩
abbrev sh3: Shape:=.s
abbrev z3: CV:=.sc (.int .i64 0)
def ti3: TI:=⟨.base (.int .i64),sh3,8,z3⟩
abbrev sh4: Shape:=.s
abbrev z4: CV:=.sc (.bool false)
def ti4: TI:=⟨.base (.bool),sh4,1,z4⟩
abbrev sh5: Shape:=.s
abbrev z5: CV:=.sc (.int .u8 0)
def ti5: TI:=⟨.base (.int .u8),sh5,1,z5⟩
abbrev sh9: Shape:=.s
abbrev z9: CV:=.sc (.string ⟨#[]⟩)
def ti9: TI:=⟨.base (.string),sh9,16,z9⟩
abbrev sh12: Shape:=.s
abbrev z12: CV:=.sc (.int .u64 0)
def ti12: TI:=⟨.base (.int .u64),sh12,8,z12⟩
abbrev sh15: Shape:=.s
abbrev z15: CV:=.sc (.pointer none)
def ti15: TI:=⟨.base (.pointer 146),sh15,8,z15⟩
abbrev sh16: Shape:=.s
abbrev z16: CV:=.sc (.pointer none)
def ti16: TI:=⟨.base (.pointer 149),sh16,8,z16⟩
abbrev sh17: Shape:=.s
abbrev z17: CV:=.sc (.pointer none)
def ti17: TI:=⟨.base (.pointer 158),sh17,8,z17⟩
abbrev sh20: Shape:=.s
abbrev z20: CV:=.sc .nilIface
def ti20: TI:=⟨.base (.interface #[]),sh20,16,z20⟩
abbrev sh21: Shape:=.s
abbrev z21: CV:=.sc (.int .i32 0)
def ti21: TI:=⟨.base (.int .i32),sh21,4,z21⟩
abbrev sh22: Shape:=.s
abbrev z22: CV:=.lst .nil []
def ti22: TI:=⟨.base (.slice 92),sh22,24,z22⟩
def sh56: Shape:=.n [sh3,sh3,sh3,sh3,sh3,sh3,sh3,sh22]
def z56: CV:=.agg [z3,z3,z3,z3,z3,z3,z3,z22]
def ti56: TI:=⟨.st [(0,1,3),(1,1,3),(2,1,3),(3,1,3),(4,1,3),(5,1,3),(6,1,3),(7,1,22)],sh56,80,z56⟩
def sh57: Shape:=.n [sh3,sh3,sh3,sh3,sh3,sh3,sh3,sh22]
def z57: CV:=.agg [z3,z3,z3,z3,z3,z3,z3,z22]
def ti57: TI:=⟨.st [(0,1,3),(1,1,3),(2,1,3),(3,1,3),(4,1,3),(5,1,3),(6,1,3),(7,1,22)],sh57,80,z57⟩
abbrev sh58: Shape:=.s
abbrev z58: CV:=.lst .nil []
def ti58: TI:=⟨.base (.slice 29),sh58,24,z58⟩
abbrev sh108: Shape:=.s
abbrev z108: CV:=.lst .nil []
def ti108: TI:=⟨.base (.slice 64),sh108,24,z108⟩
abbrev sh59: Shape:=.s
abbrev z59: CV:=.sc (.float .f64 0)
def ti59: TI:=⟨.base (.float .f64),sh59,8,z59⟩
abbrev sh23: Shape:=.s
abbrev z23: CV:=.lst .nil []
def ti23: TI:=⟨.base (.slice 45),sh23,24,z23⟩
abbrev sh24: Shape:=.s
abbrev z24: CV:=.lst .nil []
def ti24: TI:=⟨.base (.slice 3),sh24,24,z24⟩
def sh60: Shape:=.n [sh3,sh3,sh3,sh3,sh3,sh3,sh59,sh59,sh23,sh24]
def z60: CV:=.agg [z3,z3,z3,z3,z3,z3,z59,z59,z23,z24]
def ti60: TI:=⟨.st [(0,1,3),(1,1,3),(2,1,3),(3,1,3),(4,1,3),(5,1,3),(6,1,27),(7,1,27),(8,1,28),(9,1,29)],sh60,112,z60⟩
def sh61: Shape:=.n [sh3,sh3,sh3,sh3,sh3,sh3,sh59,sh59,sh23,sh24]
def z61: CV:=.agg [z3,z3,z3,z3,z3,z3,z59,z59,z23,z24]
def ti61: TI:=⟨.st [(0,1,3),(1,1,3),(2,1,3),(3,1,3),(4,1,3),(5,1,3),(6,1,27),(7,1,27),(8,1,28),(9,1,29)],sh61,112,z61⟩
abbrev sh62: Shape:=.s
abbrev z62: CV:=.sc .nilFunc
def ti62: TI:=⟨.base (.func #[24] #[31] false),sh62,8,z62⟩
abbrev sh25: Shape:=.s
abbrev z25: CV:=.sc (.int .u64 0)
def ti25: TI:=⟨.base (.int .u64),sh25,8,z25⟩
def sh32: Shape:=.n (List.replicate 4 sh3)
def z32: CV:=.agg (List.replicate 4 z3)
def ti32: TI:=⟨.ar 4 1 3,sh32,32,z32⟩
def sh33: Shape:=.n [sh3,sh3,sh3,sh3,sh3,sh3,sh3,sh32,sh3]
def z33: CV:=.agg [z3,z3,z3,z3,z3,z3,z3,z32,z3]
def ti33: TI:=⟨.st [(0,1,3),(1,1,3),(2,1,3),(3,1,3),(4,1,3),(5,1,3),(6,1,3),(7,4,34),(11,1,3)],sh33,96,z33⟩
def sh34: Shape:=.n [sh3,sh3,sh3,sh3,sh3,sh3,sh3,sh32,sh3]
def z34: CV:=.agg [z3,z3,z3,z3,z3,z3,z3,z32,z3]
def ti34: TI:=⟨.st [(0,1,3),(1,1,3),(2,1,3),(3,1,3),(4,1,3),(5,1,3),(6,1,3),(7,4,34),(11,1,3)],sh34,96,z34⟩
def sh63: Shape:=.n (List.replicate 16 sh34)
def z63: CV:=.agg (List.replicate 16 z34)
def ti63: TI:=⟨.ar 16 12 36,sh63,1536,z63⟩
def sh64: Shape:=.n (List.replicate 8 sh3)
def z64: CV:=.agg (List.replicate 8 z3)
def ti64: TI:=⟨.ar 8 1 3,sh64,64,z64⟩
def sh65: Shape:=.n [sh3,sh25,sh63,sh64]
def z65: CV:=.agg [z3,z25,z63,z64]
def ti65: TI:=⟨.st [(0,1,3),(1,1,33),(2,192,37),(194,8,38)],sh65,1616,z65⟩
def sh66: Shape:=.n [sh3,sh25,sh63,sh64]
def z66: CV:=.agg [z3,z25,z63,z64]
def ti66: TI:=⟨.st [(0,1,3),(1,1,33),(2,192,37),(194,8,38)],sh66,1616,z66⟩
abbrev sh67: Shape:=.s
abbrev z67: CV:=.sc .nilFunc
def ti67: TI:=⟨.base (.func #[31,25] #[40] false),sh67,8,z67⟩
abbrev sh76: Shape:=.s
abbrev z76: CV:=.sc .nilFunc
def ti76: TI:=⟨.base (.func #[3,3] #[3] false),sh76,8,z76⟩
abbrev sh1043: Shape:=.s
abbrev z1043: CV:=.sc .nilFunc
def ti1043: TI:=⟨.base (.func #[3,27] #[27] false),sh1043,8,z1043⟩
def sh28: Shape:=.n [sh3,sh3,sh3]
def z28: CV:=.agg [z3,z3,z3]
def ti28: TI:=⟨.st [(0,1,3),(1,1,3),(2,1,3)],sh28,24,z28⟩
def sh29: Shape:=.n [sh3,sh3,sh3]
def z29: CV:=.agg [z3,z3,z3]
def ti29: TI:=⟨.st [(0,1,3),(1,1,3),(2,1,3)],sh29,24,z29⟩
abbrev sh41: Shape:=.s
abbrev z41: CV:=.sc .nilFunc
def ti41: TI:=⟨.base (.func #[] #[4] false),sh41,8,z41⟩
abbrev sh112: Shape:=.s
abbrev z112: CV:=.sc .nilFunc
def ti112: TI:=⟨.base (.func #[31] #[4] false),sh112,8,z112⟩
abbrev sh77: Shape:=.s
abbrev z77: CV:=.sc .nilFunc
def ti77: TI:=⟨.base (.func #[31,40] #[4] false),sh77,8,z77⟩
abbrev sh111: Shape:=.s
abbrev z111: CV:=.sc .nilFunc
def ti111: TI:=⟨.base (.func #[31] #[40] false),sh111,8,z111⟩
abbrev sh114: Shape:=.s
abbrev z114: CV:=.sc .nilFunc
def ti114: TI:=⟨.base (.func #[31,40,26] #[40] false),sh114,8,z114⟩
abbrev sh1051: Shape:=.s
abbrev z1051: CV:=.sc .nilFunc
def ti1051: TI:=⟨.base (.func #[24,25,3,3,3,26,27] #[4] false),sh1051,8,z1051⟩
abbrev sh49: Shape:=.s
abbrev z49: CV:=.sc .nilFunc
def ti49: TI:=⟨.base (.func #[22] #[28] false),sh49,8,z49⟩
abbrev sh123: Shape:=.s
abbrev z123: CV:=.sc .nilFunc
def ti123: TI:=⟨.base (.func #[31,40,54] #[40] false),sh123,8,z123⟩
abbrev sh92: Shape:=.s
abbrev z92: CV:=.lst .nil []
def ti92: TI:=⟨.base (.slice 26),sh92,24,z92⟩
abbrev sh113: Shape:=.s
abbrev z113: CV:=.sc .nilFunc
def ti113: TI:=⟨.base (.func #[3,25] #[54] false),sh113,8,z113⟩
abbrev sh256: Shape:=.s
abbrev z256: CV:=.sc .nilFunc
def ti256: TI:=⟨.base (.func #[] #[27] false),sh256,8,z256⟩
abbrev sh1057: Shape:=.s
abbrev z1057: CV:=.sc .nilFunc
def ti1057: TI:=⟨.base (.func #[3] #[27] false),sh1057,8,z1057⟩
abbrev sh1058: Shape:=.s
abbrev z1058: CV:=.sc .nilFunc
def ti1058: TI:=⟨.base (.func #[27,27] #[27] false),sh1058,8,z1058⟩
abbrev sh239: Shape:=.s
abbrev z239: CV:=.sc .nilFunc
def ti239: TI:=⟨.base (.func #[33] #[27] false),sh239,8,z239⟩
abbrev sh116: Shape:=.s
abbrev z116: CV:=.sc .nilFunc
def ti116: TI:=⟨.base (.func #[3,28] #[31] true),sh116,8,z116⟩
def sh35: Shape:=.n [sh3,sh3,sh3]
def z35: CV:=.agg [z3,z3,z3]
def ti35: TI:=⟨.st [(0,1,3),(1,1,3),(2,1,3)],sh35,24,z35⟩
def sh36: Shape:=.n [sh3,sh3,sh3]
def z36: CV:=.agg [z3,z3,z3]
def ti36: TI:=⟨.st [(0,1,3),(1,1,3),(2,1,3)],sh36,24,z36⟩
def sh109: Shape:=.n [sh4,sh36]
def z109: CV:=.agg [z4,z36]
def ti109: TI:=⟨.st [(0,1,4),(1,3,62)],sh109,32,z109⟩
def sh110: Shape:=.n [sh4,sh36]
def z110: CV:=.agg [z4,z36]
def ti110: TI:=⟨.st [(0,1,4),(1,3,62)],sh110,32,z110⟩
abbrev sh180: Shape:=.s
abbrev z180: CV:=.sc .nilFunc
def ti180: TI:=⟨.base (.func #[3,3,3] #[64] false),sh180,8,z180⟩
abbrev sh127: Shape:=.s
abbrev z127: CV:=.sc .nilFunc
def ti127: TI:=⟨.base (.func #[3,3,3] #[4] false),sh127,8,z127⟩
abbrev sh181: Shape:=.s
abbrev z181: CV:=.sc (.pointer none)
def ti181: TI:=⟨.base (.pointer 97),sh181,8,z181⟩
abbrev sh69: Shape:=.s
abbrev z69: CV:=.sc (.int .i64 0)
def ti69: TI:=⟨.base (.int .i64),sh69,8,z69⟩
abbrev sh183: Shape:=.s
abbrev z183: CV:=.sc .nilFunc
def ti183: TI:=⟨.base (.func #[27,27] #[67,68] false),sh183,8,z183⟩
abbrev sh54: Shape:=.s
abbrev z54: CV:=.sc .nilFunc
def ti54: TI:=⟨.base (.func #[28] #[4] false),sh54,8,z54⟩
abbrev sh209: Shape:=.s
abbrev z209: CV:=.sc .nilFunc
def ti209: TI:=⟨.base (.func #[27,27] #[4] false),sh209,8,z209⟩
abbrev sh164: Shape:=.s
abbrev z164: CV:=.sc .nilFunc
def ti164: TI:=⟨.base (.func #[31,3,36] #[4] false),sh164,8,z164⟩
abbrev sh42: Shape:=.s
abbrev z42: CV:=.sc .nilFunc
def ti42: TI:=⟨.base (.func #[36] #[4] false),sh42,8,z42⟩
abbrev sh162: Shape:=.s
abbrev z162: CV:=.sc .nilFunc
def ti162: TI:=⟨.base (.func #[3] #[33] false),sh162,8,z162⟩
abbrev sh119: Shape:=.s
abbrev z119: CV:=.sc .nilFunc
def ti119: TI:=⟨.base (.func #[3,3] #[36] false),sh119,8,z119⟩
abbrev sh184: Shape:=.s
abbrev z184: CV:=.sc (.pointer none)
def ti184: TI:=⟨.base (.pointer 80),sh184,8,z184⟩
abbrev sh37: Shape:=.s
abbrev z37: CV:=.lst .nil []
def ti37: TI:=⟨.base (.slice 36),sh37,24,z37⟩
def sh185: Shape:=.n [sh61,sh66,sh108,sh37]
def z185: CV:=.agg [z61,z66,z108,z37]
def ti185: TI:=⟨.st [(0,10,31),(10,202,40),(212,1,26),(213,1,78)],sh185,1776,z185⟩
def sh186: Shape:=.n [sh61,sh66,sh108,sh37]
def z186: CV:=.agg [z61,z66,z108,z37]
def ti186: TI:=⟨.st [(0,10,31),(10,202,40),(212,1,26),(213,1,78)],sh186,1776,z186⟩
abbrev sh187: Shape:=.s
abbrev z187: CV:=.sc .nilFunc
def ti187: TI:=⟨.base (.func #[26,3] #[62] false),sh187,8,z187⟩
def sh38: Shape:=.n [sh34,sh36,sh25,sh3,sh37]
def z38: CV:=.agg [z34,z36,z25,z3,z37]
def ti38: TI:=⟨.st [(0,12,36),(12,3,62),(15,1,33),(16,1,3),(17,1,78)],sh38,160,z38⟩
def sh51: Shape:=.n [sh34,sh36,sh25,sh3,sh37]
def z51: CV:=.agg [z34,z36,z25,z3,z37]
def ti51: TI:=⟨.st [(0,12,36),(12,3,62),(15,1,33),(16,1,3),(17,1,78)],sh51,160,z51⟩
abbrev sh53: Shape:=.s
abbrev z53: CV:=.sc .nilFunc
def ti53: TI:=⟨.base (.func #[28,83] #[83,3,3,4] false),sh53,8,z53⟩
abbrev sh140: Shape:=.s
abbrev z140: CV:=.sc .nilFunc
def ti140: TI:=⟨.base (.func #[36,3,3] #[36] false),sh140,8,z140⟩
abbrev sh188: Shape:=.s
abbrev z188: CV:=.sc .nilFunc
def ti188: TI:=⟨.base (.func #[40] #[3] false),sh188,8,z188⟩
abbrev sh190: Shape:=.s
abbrev z190: CV:=.sc .nilFunc
def ti190: TI:=⟨.base (.func #[36] #[36,4] false),sh190,8,z190⟩
abbrev sh191: Shape:=.s
abbrev z191: CV:=.sc .nilFunc
def ti191: TI:=⟨.base (.func #[36,36] #[4] false),sh191,8,z191⟩
abbrev sh30: Shape:=.s
abbrev z30: CV:=.sc .nilFunc
def ti30: TI:=⟨.base (.func #[92] #[45] false),sh30,8,z30⟩
def sh31: Shape:=.n [sh3,sh3,sh3]
def z31: CV:=.agg [z3,z3,z3]
def ti31: TI:=⟨.st [(0,1,3),(1,1,3),(2,1,3)],sh31,24,z31⟩
abbrev sh121: Shape:=.s
abbrev z121: CV:=.sc .nilFunc
def ti121: TI:=⟨.base (.func #[3,29] #[26] false),sh121,8,z121⟩
abbrev sh240: Shape:=.s
abbrev z240: CV:=.sc .nilFunc
def ti240: TI:=⟨.base (.func #[27] #[33] false),sh240,8,z240⟩
abbrev sh221: Shape:=.s
abbrev z221: CV:=.sc .nilFunc
def ti221: TI:=⟨.base (.func #[27] #[4] false),sh221,8,z221⟩
def sh222: Shape:=.n [sh59,sh59,sh59,sh3]
def z222: CV:=.agg [z59,z59,z59,z3]
def ti222: TI:=⟨.st [(0,1,27),(1,1,27),(2,1,27),(3,1,3)],sh222,32,z222⟩
def sh223: Shape:=.n [sh59,sh59,sh59,sh3]
def z223: CV:=.agg [z59,z59,z59,z3]
def ti223: TI:=⟨.st [(0,1,27),(1,1,27),(2,1,27),(3,1,3)],sh223,32,z223⟩
abbrev sh141: Shape:=.s
abbrev z141: CV:=.sc .nilFunc
def ti141: TI:=⟨.base (.func #[28,99] #[4] false),sh141,8,z141⟩
abbrev sh142: Shape:=.s
abbrev z142: CV:=.sc .nilFunc
def ti142: TI:=⟨.base (.func #[45] #[4] false),sh142,8,z142⟩
abbrev sh224: Shape:=.s
abbrev z224: CV:=.sc (.map none)
def ti224: TI:=⟨.base (.map 3 4),sh224,8,z224⟩
abbrev sh139: Shape:=.s
abbrev z139: CV:=.sc .nilFunc
def ti139: TI:=⟨.base (.func #[3,3,3] #[3] false),sh139,8,z139⟩
abbrev sh225: Shape:=.s
abbrev z225: CV:=.sc .nilFunc
def ti225: TI:=⟨.base (.func #[36] #[36] false),sh225,8,z225⟩
abbrev sh226: Shape:=.s
abbrev z226: CV:=.sc .nilFunc
def ti226: TI:=⟨.base (.func #[36] #[3] false),sh226,8,z226⟩
abbrev sh134: Shape:=.s
abbrev z134: CV:=.sc .nilFunc
def ti134: TI:=⟨.base (.func #[45,83,3] #[3] false),sh134,8,z134⟩
abbrev sh135: Shape:=.s
abbrev z135: CV:=.sc .nilFunc
def ti135: TI:=⟨.base (.func #[83,3] #[3] false),sh135,8,z135⟩
abbrev sh137: Shape:=.s
abbrev z137: CV:=.sc .nilFunc
def ti137: TI:=⟨.base (.func #[33,3] #[33,3] false),sh137,8,z137⟩
abbrev sh138: Shape:=.s
abbrev z138: CV:=.sc .nilFunc
def ti138: TI:=⟨.base (.func #[45,83] #[3] false),sh138,8,z138⟩
abbrev sh227: Shape:=.s
abbrev z227: CV:=.sc .nilFunc
def ti227: TI:=⟨.base (.func #[3,3] #[4] false),sh227,8,z227⟩
abbrev sh125: Shape:=.s
abbrev z125: CV:=.sc .nilFunc
def ti125: TI:=⟨.base (.func #[3,3] #[62] false),sh125,8,z125⟩
abbrev sh233: Shape:=.s
abbrev z233: CV:=.sc .nilFunc
def ti233: TI:=⟨.base (.func #[27,3] #[4] false),sh233,8,z233⟩
abbrev sh201: Shape:=.s
abbrev z201: CV:=.sc .nilFunc
def ti201: TI:=⟨.base (.func #[28,99] #[3] false),sh201,8,z201⟩
abbrev sh234: Shape:=.s
abbrev z234: CV:=.sc .nilFunc
def ti234: TI:=⟨.base (.func #[3] #[62] false),sh234,8,z234⟩
abbrev sh230: Shape:=.s
abbrev z230: CV:=.sc .nilFunc
def ti230: TI:=⟨.base (.func #[] #[3] false),sh230,8,z230⟩
def sh39: Shape:=.n [sh34,sh36,sh25,sh3,sh37]
def z39: CV:=.agg [z34,z36,z25,z3,z37]
def ti39: TI:=⟨.st [(0,12,36),(12,3,62),(15,1,33),(16,1,3),(17,1,78)],sh39,160,z39⟩
def sh43: Shape:=.n [sh3,sh3]
def z43: CV:=.agg [z3,z3]
def ti43: TI:=⟨.st [(0,1,3),(1,1,3)],sh43,16,z43⟩
def sh44: Shape:=.n [sh3,sh3]
def z44: CV:=.agg [z3,z3]
def ti44: TI:=⟨.st [(0,1,3),(1,1,3)],sh44,16,z44⟩
abbrev sh46: Shape:=.s
abbrev z46: CV:=.sc .nilFunc
def ti46: TI:=⟨.base (.func #[28,115] #[115,117,4] false),sh46,8,z46⟩
abbrev sh236: Shape:=.s
abbrev z236: CV:=.sc .nilFunc
def ti236: TI:=⟨.base (.func #[3,3] #[3,3] false),sh236,8,z236⟩
abbrev sh198: Shape:=.s
abbrev z198: CV:=.sc .nilFunc
def ti198: TI:=⟨.base (.func #[3] #[4,4] false),sh198,8,z198⟩
abbrev sh199: Shape:=.s
abbrev z199: CV:=.sc .nilFunc
def ti199: TI:=⟨.base (.func #[3] #[4] false),sh199,8,z199⟩
abbrev sh200: Shape:=.s
abbrev z200: CV:=.sc .nilFunc
def ti200: TI:=⟨.base (.func #[33] #[33,3] false),sh200,8,z200⟩
abbrev sh238: Shape:=.s
abbrev z238: CV:=.sc .nilFunc
def ti238: TI:=⟨.base (.func #[27] #[27] false),sh238,8,z238⟩
abbrev sh128: Shape:=.s
abbrev z128: CV:=.sc .nilFunc
def ti128: TI:=⟨.base (.func #[115] #[115] false),sh128,8,z128⟩
abbrev sh129: Shape:=.s
abbrev z129: CV:=.sc (.pointer none)
def ti129: TI:=⟨.base (.pointer 130),sh129,8,z129⟩
def sh130: Shape:=.n [sh39,sh23,sh3]
def z130: CV:=.agg [z39,z23,z3]
def ti130: TI:=⟨.st [(0,18,115),(18,1,28),(19,1,3)],sh130,192,z130⟩
def sh131: Shape:=.n [sh39,sh23,sh3]
def z131: CV:=.agg [z39,z23,z3]
def ti131: TI:=⟨.st [(0,18,115),(18,1,28),(19,1,3)],sh131,192,z131⟩
abbrev sh133: Shape:=.s
abbrev z133: CV:=.sc .nilFunc
def ti133: TI:=⟨.base (.func #[1] #[117,4] false),sh133,8,z133⟩
abbrev sh178: Shape:=.s
abbrev z178: CV:=.sc (.int .u64 0)
def ti178: TI:=⟨.base (.int .u64),sh178,8,z178⟩
abbrev sh192: Shape:=.s
abbrev z192: CV:=.sc .nilFunc
def ti192: TI:=⟨.base (.func #[78] #[78] false),sh192,8,z192⟩
def sh193: Shape:=.n [sh44]
def z193: CV:=.agg [z44]
def ti193: TI:=⟨.st [(0,2,117)],sh193,16,z193⟩
def sh194: Shape:=.n [sh44]
def z194: CV:=.agg [z44]
def ti194: TI:=⟨.st [(0,2,117)],sh194,16,z194⟩
abbrev sh195: Shape:=.s
abbrev z195: CV:=.sc .nilFunc
def ti195: TI:=⟨.base (.func #[4,3] #[] false),sh195,8,z195⟩
abbrev sh196: Shape:=.s
abbrev z196: CV:=.sc .nilFunc
def ti196: TI:=⟨.base (.func #[45] #[3] false),sh196,8,z196⟩
abbrev sh228: Shape:=.s
abbrev z228: CV:=.sc .nilFunc
def ti228: TI:=⟨.base (.func #[4,3,3] #[] false),sh228,8,z228⟩
abbrev sh229: Shape:=.s
abbrev z229: CV:=.sc .nilFunc
def ti229: TI:=⟨.base (.func #[45] #[] false),sh229,8,z229⟩
abbrev sh157: Shape:=.s
abbrev z157: CV:=.sc .nilFunc
def ti157: TI:=⟨.base (.func #[3,3] #[] false),sh157,8,z157⟩
abbrev sh163: Shape:=.s
abbrev z163: CV:=.sc .nilFunc
def ti163: TI:=⟨.base (.func #[3] #[3] false),sh163,8,z163⟩
abbrev sh87: Shape:=.s
abbrev z87: CV:=.sc (.pointer none)
def ti87: TI:=⟨.base (.pointer 36),sh87,8,z87⟩
abbrev sh241: Shape:=.s
abbrev z241: CV:=.sc .nilFunc
def ti241: TI:=⟨.base (.func #[] #[9] false),sh241,8,z241⟩
abbrev sh247: Shape:=.s
abbrev z247: CV:=.sc (.int .u32 0)
def ti247: TI:=⟨.base (.int .u32),sh247,4,z247⟩
abbrev sh250: Shape:=.s
abbrev z250: CV:=.sc .nilFunc
def ti250: TI:=⟨.base (.func #[159,159] #[4] false),sh250,8,z250⟩
abbrev sh251: Shape:=.s
abbrev z251: CV:=.sc (.pointer none)
def ti251: TI:=⟨.base (.pointer 5),sh251,8,z251⟩
def tab: List (TypeId×TI):=[(1,ti1),(2,ti2),(3,ti3),(4,ti4),(5,ti5),(9,ti9),(12,ti12),(15,ti15),(16,ti16),(17,ti17),(20,ti20),(21,ti21),(22,ti22),(23,ti56),(24,ti57),(25,ti58),(26,ti108),(27,ti59),(28,ti23),(29,ti24),(30,ti60),(31,ti61),(32,ti62),(33,ti25),(34,ti32),(35,ti33),(36,ti34),(37,ti63),(38,ti64),(39,ti65),(40,ti66),(41,ti67),(42,ti76),(43,ti1043),(44,ti28),(45,ti29),(46,ti41),(47,ti112),(48,ti77),(49,ti111),(50,ti114),(51,ti1051),(52,ti49),(53,ti123),(54,ti92),(55,ti113),(56,ti256),(57,ti1057),(58,ti1058),(59,ti239),(60,ti116),(61,ti35),(62,ti36),(63,ti109),(64,ti110),(65,ti180),(66,ti127),(67,ti181),(68,ti69),(70,ti183),(71,ti54),(72,ti209),(73,ti164),(74,ti42),(75,ti162),(76,ti119),(77,ti184),(78,ti37),(79,ti185),(80,ti186),(81,ti187),(82,ti38),(83,ti51),(85,ti53),(86,ti140),(87,ti188),(89,ti190),(90,ti191),(91,ti30),(92,ti31),(93,ti121),(94,ti240),(95,ti221),(96,ti222),(97,ti223),(98,ti141),(99,ti142),(100,ti224),(101,ti139),(102,ti225),(103,ti226),(104,ti134),(105,ti135),(107,ti137),(108,ti138),(109,ti227),(110,ti125),(111,ti233),(112,ti201),(113,ti234),(114,ti230),(115,ti39),(116,ti43),(117,ti44),(119,ti46),(121,ti236),(123,ti198),(124,ti199),(125,ti200),(126,ti238),(127,ti128),(128,ti129),(129,ti130),(130,ti131),(132,ti133),(133,ti178),(134,ti192),(135,ti193),(136,ti194),(137,ti195),(138,ti196),(139,ti228),(140,ti229),(141,ti157),(142,ti163),(143,ti87),(144,ti241),(150,ti247),(153,ti250),(154,ti251)]
theorem tab_ok: tab.all (tiB Tryz.prog)=true:=by kernel_rfl
noncomputable def C: Ctx:=mkCtx Tryz.prog (by kernel_rfl) tab tab_ok
theorem tt1: C.tt 1=some ti1:=by kernel_rfl
theorem tt3: C.tt 3=some ti3:=by kernel_rfl
theorem tt4: C.tt 4=some ti4:=by kernel_rfl
theorem tt5: C.tt 5=some ti5:=by kernel_rfl
theorem tt20: C.tt 20=some ti20:=by kernel_rfl
theorem tt22: C.tt 22=some ti22:=by kernel_rfl
theorem tt57: C.tt 24=some ti57:=by kernel_rfl
theorem tt58: C.tt 25=some ti58:=by kernel_rfl
theorem tt108: C.tt 26=some ti108:=by kernel_rfl
theorem tt59: C.tt 27=some ti59:=by kernel_rfl
theorem tt23: C.tt 28=some ti23:=by kernel_rfl
theorem tt24: C.tt 29=some ti24:=by kernel_rfl
theorem tt61: C.tt 31=some ti61:=by kernel_rfl
theorem tt25: C.tt 33=some ti25:=by kernel_rfl
theorem tt32: C.tt 34=some ti32:=by kernel_rfl
theorem tt34: C.tt 36=some ti34:=by kernel_rfl
theorem tt63: C.tt 37=some ti63:=by kernel_rfl
theorem tt64: C.tt 38=some ti64:=by kernel_rfl
theorem tt66: C.tt 40=some ti66:=by kernel_rfl
theorem tt29: C.tt 45=some ti29:=by kernel_rfl
theorem tt92: C.tt 54=some ti92:=by kernel_rfl
theorem tt36: C.tt 62=some ti36:=by kernel_rfl
theorem tt110: C.tt 64=some ti110:=by kernel_rfl
theorem tt69: C.tt 68=some ti69:=by kernel_rfl
theorem tt37: C.tt 78=some ti37:=by kernel_rfl
theorem tt186: C.tt 80=some ti186:=by kernel_rfl
theorem tt51: C.tt 83=some ti51:=by kernel_rfl
theorem tt31: C.tt 92=some ti31:=by kernel_rfl
theorem tt223: C.tt 97=some ti223:=by kernel_rfl
theorem tt224: C.tt 100=some ti224:=by kernel_rfl
theorem tt39: C.tt 115=some ti39:=by kernel_rfl
theorem tt44: C.tt 117=some ti44:=by kernel_rfl
theorem tt131: C.tt 130=some ti131:=by kernel_rfl
theorem tt178: C.tt 133=some ti178:=by kernel_rfl
theorem tt194: C.tt 136=some ti194:=by kernel_rfl
end Go.Proofs.YtpchcfkebljopaaGreat
end
section
namespace Go.Proofs.YtpchcfkebljopaaGreat
open Go.Cl
set_option linter.constructorNameAsVariable false
structure V0b where
 Code:Int
 A:Int
 B:Int
def V0b.cv(x:V0b): CV:=.agg [I x.Code,I x.A,I x.B]
@[ext] theorem V0b.ext'{x y:V0b}(h_Code:x.Code=y.Code)(h_A:x.A=y.A)(h_B:x.B=y.B): x=y:=by
 obtain⟨a0,a1,a2⟩:=x
 obtain⟨c0,c1,c2⟩:=y
 simp only at h_Code h_A h_B
 subst h_Code h_A h_B
 rfl
def V0b.zero: V0b:={Code:=0,A:=0,B:=0}
instance:Inhabited V0b:=⟨V0b.zero⟩
theorem V0b.zcv: z31=V0b.zero.cv:=by
 simp only[z31,V0b.zero,V0b.cv,List.map_replicate,Lst.cv,List.map_nil]
theorem V0b.shape(x:V0b): x.cv.shape=sh31:=by simp only[V0b.cv,sh31,CV.shape,CV.shapes,Lst.shape]
theorem V0b.nohas(x:V0b)(j:Nat): ¬x.cv.has j:=by simp[V0b.cv,CV.has,CV.hasL]
instance:DecidableEq V0b:=fun x y=>decidable_of_iff (x.Code=y.Code/\x.A=y.A/\x.B=y.B) ⟨fun h=>V0b.ext' h.1 h.2.1 h.2.2,fun h=>by subst h;simp⟩
theorem V0b.inj{x y:V0b}(h:x.cv=y.cv): x=y:=by
 simp only[V0b.cv,CV.agg.injEq,List.cons.injEq,and_true]at h
 obtain⟨h0,h1,h2⟩:=h
 refine V0b.ext' (I_inj _ _ h0) (I_inj _ _ h1) (I_inj _ _ h2)
theorem V0b.injF(x y:V0b)(h:x.cv=y.cv): x=y:=V0b.inj h
theorem V0b.inj_iff(x y:V0b): x.cv=y.cv ↔ x=y:=⟨V0b.inj,fun h=>by rw[h]⟩
theorem V0b.shOk(x:V0b): Cl.shOk x.cv sh31=true:=K0m (V0b.shape x) rfl
theorem V0b.eq(d:Nat)(x y:V0b): eqCV C (d+2) 92 x.cv y.cv=some (decide (x=y)):=by
 refine(K0x C (d:=d+1) tt31 (V0b.shape x) (V0b.shape y) (X0f (Q0g C tt3 (d+0) _ _) (X0f (Q0g C tt3 (d+0) _ _) (X0f (Q0g C tt3 (d+0) _ _) rfl)))).trans (congrArg some ?_)
 rw[Bool.eq_iff_iff]
 simp only[Bool.and_eq_true,decide_eq_true_eq,and_true]
 exact⟨fun h=>V0b.ext' h.1 h.2.1 h.2.2,fun h=>by subst h;simp⟩
theorem V0b.eql(x y:V0b)(b:Bool): qbin C .eql 92 b x.cv y.cv=some (Bo (decide (x=y))):=by
 have h:=V0b.eq 10 x y
 unfold V0b.cv at h ⊢
 simp only[qbin]
 rw[h];rfl
theorem V0b.neq(x y:V0b)(b:Bool): qbin C .neq 92 b x.cv y.cv=some (Bo (!decide (x=y))):=by
 have h:=V0b.eq 10 x y
 unfold V0b.cv at h ⊢
 simp only[qbin]
 rw[h];rfl
theorem V0b.at_0(x:V0b)(q:List Nat): x.cv.at (0::q)=(I x.Code).at q:=rfl
def V0b.upd_0(x:V0b)(v:CV): CV:=.agg [v,I x.A,I x.B]
theorem V0b.set_0(x:V0b)(q:List Nat)(v:CV): x.cv.set (0::q) v=V0b.upd_0 x ((I x.Code).set q v):=rfl
theorem V0b.fold_0(x:V0b)(y:Int): V0b.upd_0 x (I y)=({x with Code:=y}:V0b).cv:=rfl
theorem V0b.fld_0(x:V0b): qfield C 92 x.cv 0=some (I x.Code):=X0d C tt31 (V0b.shape x) rfl tt3 rfl rfl
theorem V0b.rfa_0(x:V0b)(h:Heap): qfieldAddr C h 92 (.rptr x.cv) 0=some (.rptr (I x.Code)):=by
 have hs:=V0b.shape x
 unfold V0b.cv at hs ⊢
 simp only[qfieldAddr,tt31,ti31,tgt,hs,if_true,List.getElem?_cons_zero,List.getElem?_cons_succ]
theorem V0b.sub_0(q:List Nat)(z:Shape): subEq sh31 (0::q) z=subEq sh3 q z:=rfl
theorem V0b.at_1(x:V0b)(q:List Nat): x.cv.at (1::q)=(I x.A).at q:=rfl
def V0b.upd_1(x:V0b)(v:CV): CV:=.agg [I x.Code,v,I x.B]
theorem V0b.set_1(x:V0b)(q:List Nat)(v:CV): x.cv.set (1::q) v=V0b.upd_1 x ((I x.A).set q v):=rfl
theorem V0b.fold_1(x:V0b)(y:Int): V0b.upd_1 x (I y)=({x with A:=y}:V0b).cv:=rfl
theorem V0b.fld_1(x:V0b): qfield C 92 x.cv 1=some (I x.A):=X0d C tt31 (V0b.shape x) rfl tt3 rfl rfl
theorem V0b.rfa_1(x:V0b)(h:Heap): qfieldAddr C h 92 (.rptr x.cv) 1=some (.rptr (I x.A)):=by
 have hs:=V0b.shape x
 unfold V0b.cv at hs ⊢
 simp only[qfieldAddr,tt31,ti31,tgt,hs,if_true,List.getElem?_cons_zero,List.getElem?_cons_succ]
theorem V0b.sub_1(q:List Nat)(z:Shape): subEq sh31 (1::q) z=subEq sh3 q z:=rfl
theorem V0b.at_2(x:V0b)(q:List Nat): x.cv.at (2::q)=(I x.B).at q:=rfl
def V0b.upd_2(x:V0b)(v:CV): CV:=.agg [I x.Code,I x.A,v]
theorem V0b.set_2(x:V0b)(q:List Nat)(v:CV): x.cv.set (2::q) v=V0b.upd_2 x ((I x.B).set q v):=rfl
theorem V0b.fold_2(x:V0b)(y:Int): V0b.upd_2 x (I y)=({x with B:=y}:V0b).cv:=rfl
theorem V0b.fld_2(x:V0b): qfield C 92 x.cv 2=some (I x.B):=X0d C tt31 (V0b.shape x) rfl tt3 rfl rfl
theorem V0b.rfa_2(x:V0b)(h:Heap): qfieldAddr C h 92 (.rptr x.cv) 2=some (.rptr (I x.B)):=by
 have hs:=V0b.shape x
 unfold V0b.cv at hs ⊢
 simp only[qfieldAddr,tt31,ti31,tgt,hs,if_true,List.getElem?_cons_zero,List.getElem?_cons_succ]
theorem V0b.sub_2(q:List Nat)(z:Shape): subEq sh31 (2::q) z=subEq sh3 q z:=rfl
theorem V0b.sub_nil: subEq sh31 [] sh31=true:=by simp[subEq,Shape.sub]
theorem V0b.alloc: allocObj C (.alloc 92)=some (.var sh31 V0b.zero.cv):=by simp only[allocObj,tt31,ti31,V0b.zcv]
theorem V0b.xalloc(p:Hp): xalloc C p 92=.ret (.ptr p.n []) (p.new (.var sh31 V0b.zero.cv)):=by simp only[Cl.xalloc,tt31,ti31,V0b.zcv]
theorem V0b.xbox(p:Hp)(x:V0b): xbox C p 92 x.cv=.ret (.ptr p.n []) (p.new (.var sh31 x.cv)):=by
 have h:Cl.shOk x.cv ti31.sh=true:=V0b.shOk x
 simp only[Cl.xbox,tt31,h,cond_true];rfl
structure V0a where
 Players:Int
 Period:Int
 Grace:Int
 Start:Int
 Frames:Int
 Seed:Int
 Rate:Int
 Rules:Lst V0b
def V0a.cv(x:V0a): CV:=.agg [I x.Players,I x.Period,I x.Grace,I x.Start,I x.Frames,I x.Seed,I x.Rate,(Lst.cv V0b.cv) x.Rules]
@[ext] theorem V0a.ext'{x y:V0a}(h_Players:x.Players=y.Players)(h_Period:x.Period=y.Period)(h_Grace:x.Grace=y.Grace)(h_Start:x.Start=y.Start)(h_Frames:x.Frames=y.Frames)(h_Seed:x.Seed=y.Seed)(h_Rate:x.Rate=y.Rate)(h_Rules:x.Rules=y.Rules): x=y:=by
 obtain⟨a0,a1,a2,a3,a4,a5,a6,a7⟩:=x
 obtain⟨c0,c1,c2,c3,c4,c5,c6,c7⟩:=y
 simp only at h_Players h_Period h_Grace h_Start h_Frames h_Seed h_Rate h_Rules
 subst h_Players h_Period h_Grace h_Start h_Frames h_Seed h_Rate h_Rules
 rfl
def V0a.zero: V0a:={Players:=0,Period:=0,Grace:=0,Start:=0,Frames:=0,Seed:=0,Rate:=0,Rules:=⟨.nil,[],fun _=>rfl⟩}
instance:Inhabited V0a:=⟨V0a.zero⟩
theorem V0a.zcv: z57=V0a.zero.cv:=by
 simp only[z57,V0a.zero,V0a.cv,List.map_replicate,Lst.cv,List.map_nil]
theorem V0a.shape(x:V0a): x.cv.shape=sh57:=by simp only[V0a.cv,sh57,CV.shape,CV.shapes,Lst.shape]
theorem V0a.has(x:V0a)(j:Nat): x.cv.has j ↔ x.Rules.tl=.own j:=by simp[V0a.cv,CV.has,CV.hasL,Lst.has _ V0b.nohas]
theorem V0a.inj{x y:V0a}(h:x.cv=y.cv): x=y:=by
 simp only[V0a.cv,CV.agg.injEq,List.cons.injEq,and_true]at h
 obtain⟨h0,h1,h2,h3,h4,h5,h6,h7⟩:=h
 refine V0a.ext' (I_inj _ _ h0) (I_inj _ _ h1) (I_inj _ _ h2) (I_inj _ _ h3) (I_inj _ _ h4) (I_inj _ _ h5) (I_inj _ _ h6) ((Lst.injF V0b.injF) _ _ h7)
theorem V0a.injF(x y:V0a)(h:x.cv=y.cv): x=y:=V0a.inj h
theorem V0a.inj_iff(x y:V0a): x.cv=y.cv ↔ x=y:=⟨V0a.inj,fun h=>by rw[h]⟩
theorem V0a.shOk(x:V0a): Cl.shOk x.cv sh57=true:=K0m (V0a.shape x) rfl
theorem V0a.at_0(x:V0a)(q:List Nat): x.cv.at (0::q)=(I x.Players).at q:=rfl
def V0a.upd_0(x:V0a)(v:CV): CV:=.agg [v,I x.Period,I x.Grace,I x.Start,I x.Frames,I x.Seed,I x.Rate,(Lst.cv V0b.cv) x.Rules]
theorem V0a.set_0(x:V0a)(q:List Nat)(v:CV): x.cv.set (0::q) v=V0a.upd_0 x ((I x.Players).set q v):=rfl
theorem V0a.fold_0(x:V0a)(y:Int): V0a.upd_0 x (I y)=({x with Players:=y}:V0a).cv:=rfl
theorem V0a.fld_0(x:V0a): qfield C 24 x.cv 0=some (I x.Players):=X0d C tt57 (V0a.shape x) rfl tt3 rfl rfl
theorem V0a.sub_0(q:List Nat)(z:Shape): subEq sh57 (0::q) z=subEq sh3 q z:=rfl
theorem V0a.at_1(x:V0a)(q:List Nat): x.cv.at (1::q)=(I x.Period).at q:=rfl
def V0a.upd_1(x:V0a)(v:CV): CV:=.agg [I x.Players,v,I x.Grace,I x.Start,I x.Frames,I x.Seed,I x.Rate,(Lst.cv V0b.cv) x.Rules]
theorem V0a.set_1(x:V0a)(q:List Nat)(v:CV): x.cv.set (1::q) v=V0a.upd_1 x ((I x.Period).set q v):=rfl
theorem V0a.fold_1(x:V0a)(y:Int): V0a.upd_1 x (I y)=({x with Period:=y}:V0a).cv:=rfl
theorem V0a.fld_1(x:V0a): qfield C 24 x.cv 1=some (I x.Period):=X0d C tt57 (V0a.shape x) rfl tt3 rfl rfl
theorem V0a.sub_1(q:List Nat)(z:Shape): subEq sh57 (1::q) z=subEq sh3 q z:=rfl
theorem V0a.at_2(x:V0a)(q:List Nat): x.cv.at (2::q)=(I x.Grace).at q:=rfl
def V0a.upd_2(x:V0a)(v:CV): CV:=.agg [I x.Players,I x.Period,v,I x.Start,I x.Frames,I x.Seed,I x.Rate,(Lst.cv V0b.cv) x.Rules]
theorem V0a.set_2(x:V0a)(q:List Nat)(v:CV): x.cv.set (2::q) v=V0a.upd_2 x ((I x.Grace).set q v):=rfl
theorem V0a.fold_2(x:V0a)(y:Int): V0a.upd_2 x (I y)=({x with Grace:=y}:V0a).cv:=rfl
theorem V0a.fld_2(x:V0a): qfield C 24 x.cv 2=some (I x.Grace):=X0d C tt57 (V0a.shape x) rfl tt3 rfl rfl
theorem V0a.sub_2(q:List Nat)(z:Shape): subEq sh57 (2::q) z=subEq sh3 q z:=rfl
theorem V0a.at_3(x:V0a)(q:List Nat): x.cv.at (3::q)=(I x.Start).at q:=rfl
def V0a.upd_3(x:V0a)(v:CV): CV:=.agg [I x.Players,I x.Period,I x.Grace,v,I x.Frames,I x.Seed,I x.Rate,(Lst.cv V0b.cv) x.Rules]
theorem V0a.set_3(x:V0a)(q:List Nat)(v:CV): x.cv.set (3::q) v=V0a.upd_3 x ((I x.Start).set q v):=rfl
theorem V0a.fold_3(x:V0a)(y:Int): V0a.upd_3 x (I y)=({x with Start:=y}:V0a).cv:=rfl
theorem V0a.fld_3(x:V0a): qfield C 24 x.cv 3=some (I x.Start):=X0d C tt57 (V0a.shape x) rfl tt3 rfl rfl
theorem V0a.sub_3(q:List Nat)(z:Shape): subEq sh57 (3::q) z=subEq sh3 q z:=rfl
theorem V0a.at_4(x:V0a)(q:List Nat): x.cv.at (4::q)=(I x.Frames).at q:=rfl
def V0a.upd_4(x:V0a)(v:CV): CV:=.agg [I x.Players,I x.Period,I x.Grace,I x.Start,v,I x.Seed,I x.Rate,(Lst.cv V0b.cv) x.Rules]
theorem V0a.set_4(x:V0a)(q:List Nat)(v:CV): x.cv.set (4::q) v=V0a.upd_4 x ((I x.Frames).set q v):=rfl
theorem V0a.fold_4(x:V0a)(y:Int): V0a.upd_4 x (I y)=({x with Frames:=y}:V0a).cv:=rfl
theorem V0a.fld_4(x:V0a): qfield C 24 x.cv 4=some (I x.Frames):=X0d C tt57 (V0a.shape x) rfl tt3 rfl rfl
theorem V0a.sub_4(q:List Nat)(z:Shape): subEq sh57 (4::q) z=subEq sh3 q z:=rfl
theorem V0a.at_5(x:V0a)(q:List Nat): x.cv.at (5::q)=(I x.Seed).at q:=rfl
def V0a.upd_5(x:V0a)(v:CV): CV:=.agg [I x.Players,I x.Period,I x.Grace,I x.Start,I x.Frames,v,I x.Rate,(Lst.cv V0b.cv) x.Rules]
theorem V0a.set_5(x:V0a)(q:List Nat)(v:CV): x.cv.set (5::q) v=V0a.upd_5 x ((I x.Seed).set q v):=rfl
theorem V0a.fold_5(x:V0a)(y:Int): V0a.upd_5 x (I y)=({x with Seed:=y}:V0a).cv:=rfl
theorem V0a.fld_5(x:V0a): qfield C 24 x.cv 5=some (I x.Seed):=X0d C tt57 (V0a.shape x) rfl tt3 rfl rfl
theorem V0a.sub_5(q:List Nat)(z:Shape): subEq sh57 (5::q) z=subEq sh3 q z:=rfl
theorem V0a.at_6(x:V0a)(q:List Nat): x.cv.at (6::q)=(I x.Rate).at q:=rfl
def V0a.upd_6(x:V0a)(v:CV): CV:=.agg [I x.Players,I x.Period,I x.Grace,I x.Start,I x.Frames,I x.Seed,v,(Lst.cv V0b.cv) x.Rules]
theorem V0a.set_6(x:V0a)(q:List Nat)(v:CV): x.cv.set (6::q) v=V0a.upd_6 x ((I x.Rate).set q v):=rfl
theorem V0a.fold_6(x:V0a)(y:Int): V0a.upd_6 x (I y)=({x with Rate:=y}:V0a).cv:=rfl
theorem V0a.fld_6(x:V0a): qfield C 24 x.cv 6=some (I x.Rate):=X0d C tt57 (V0a.shape x) rfl tt3 rfl rfl
theorem V0a.sub_6(q:List Nat)(z:Shape): subEq sh57 (6::q) z=subEq sh3 q z:=rfl
theorem V0a.at_7(x:V0a)(q:List Nat): x.cv.at (7::q)=((Lst.cv V0b.cv) x.Rules).at q:=rfl
def V0a.upd_7(x:V0a)(v:CV): CV:=.agg [I x.Players,I x.Period,I x.Grace,I x.Start,I x.Frames,I x.Seed,I x.Rate,v]
theorem V0a.set_7(x:V0a)(q:List Nat)(v:CV): x.cv.set (7::q) v=V0a.upd_7 x (((Lst.cv V0b.cv) x.Rules).set q v):=rfl
theorem V0a.fold_7(x:V0a)(y:Lst V0b): V0a.upd_7 x ((Lst.cv V0b.cv) y)=({x with Rules:=y}:V0a).cv:=rfl
theorem V0a.fld_7(x:V0a): qfield C 24 x.cv 7=some ((Lst.cv V0b.cv) x.Rules):=X0d C tt57 (V0a.shape x) rfl tt22 rfl rfl
theorem V0a.sub_7(q:List Nat)(z:Shape): subEq sh57 (7::q) z=subEq sh22 q z:=rfl
theorem V0a.sub_nil: subEq sh57 [] sh57=true:=by simp[subEq,Shape.sub]
theorem V0a.alloc: allocObj C (.alloc 24)=some (.var sh57 V0a.zero.cv):=by simp only[allocObj,tt57,ti57,V0a.zcv]
theorem V0a.xalloc(p:Hp): xalloc C p 24=.ret (.ptr p.n []) (p.new (.var sh57 V0a.zero.cv)):=by simp only[Cl.xalloc,tt57,ti57,V0a.zcv]
theorem V0a.xbox(p:Hp)(x:V0a): xbox C p 24 x.cv=.ret (.ptr p.n []) (p.new (.var sh57 x.cv)):=by
 have h:Cl.shOk x.cv ti57.sh=true:=V0a.shOk x
 simp only[Cl.xbox,tt57,h,cond_true];rfl
structure K0c where
 Code:Int
 A:Int
 B:Int
def K0c.cv(x:K0c): CV:=.agg [I x.Code,I x.A,I x.B]
@[ext] theorem K0c.ext'{x y:K0c}(h_Code:x.Code=y.Code)(h_A:x.A=y.A)(h_B:x.B=y.B): x=y:=by
 obtain⟨a0,a1,a2⟩:=x
 obtain⟨c0,c1,c2⟩:=y
 simp only at h_Code h_A h_B
 subst h_Code h_A h_B
 rfl
def K0c.zero: K0c:={Code:=0,A:=0,B:=0}
instance:Inhabited K0c:=⟨K0c.zero⟩
theorem K0c.zcv: z29=K0c.zero.cv:=by
 simp only[z29,K0c.zero,K0c.cv,List.map_replicate,Lst.cv,List.map_nil]
theorem K0c.shape(x:K0c): x.cv.shape=sh29:=by simp only[K0c.cv,sh29,CV.shape,CV.shapes,Lst.shape]
theorem K0c.nohas(x:K0c)(j:Nat): ¬x.cv.has j:=by simp[K0c.cv,CV.has,CV.hasL]
instance:DecidableEq K0c:=fun x y=>decidable_of_iff (x.Code=y.Code/\x.A=y.A/\x.B=y.B) ⟨fun h=>K0c.ext' h.1 h.2.1 h.2.2,fun h=>by subst h;simp⟩
theorem K0c.inj{x y:K0c}(h:x.cv=y.cv): x=y:=by
 simp only[K0c.cv,CV.agg.injEq,List.cons.injEq,and_true]at h
 obtain⟨h0,h1,h2⟩:=h
 refine K0c.ext' (I_inj _ _ h0) (I_inj _ _ h1) (I_inj _ _ h2)
theorem K0c.injF(x y:K0c)(h:x.cv=y.cv): x=y:=K0c.inj h
theorem K0c.inj_iff(x y:K0c): x.cv=y.cv ↔ x=y:=⟨K0c.inj,fun h=>by rw[h]⟩
theorem K0c.shOk(x:K0c): Cl.shOk x.cv sh29=true:=K0m (K0c.shape x) rfl
theorem K0c.eq(d:Nat)(x y:K0c): eqCV C (d+2) 45 x.cv y.cv=some (decide (x=y)):=by
 refine(K0x C (d:=d+1) tt29 (K0c.shape x) (K0c.shape y) (X0f (Q0g C tt3 (d+0) _ _) (X0f (Q0g C tt3 (d+0) _ _) (X0f (Q0g C tt3 (d+0) _ _) rfl)))).trans (congrArg some ?_)
 rw[Bool.eq_iff_iff]
 simp only[Bool.and_eq_true,decide_eq_true_eq,and_true]
 exact⟨fun h=>K0c.ext' h.1 h.2.1 h.2.2,fun h=>by subst h;simp⟩
theorem K0c.eql(x y:K0c)(b:Bool): qbin C .eql 45 b x.cv y.cv=some (Bo (decide (x=y))):=by
 have h:=K0c.eq 10 x y
 unfold K0c.cv at h ⊢
 simp only[qbin]
 rw[h];rfl
theorem K0c.neq(x y:K0c)(b:Bool): qbin C .neq 45 b x.cv y.cv=some (Bo (!decide (x=y))):=by
 have h:=K0c.eq 10 x y
 unfold K0c.cv at h ⊢
 simp only[qbin]
 rw[h];rfl
theorem K0c.at_0(x:K0c)(q:List Nat): x.cv.at (0::q)=(I x.Code).at q:=rfl
def K0c.upd_0(x:K0c)(v:CV): CV:=.agg [v,I x.A,I x.B]
theorem K0c.set_0(x:K0c)(q:List Nat)(v:CV): x.cv.set (0::q) v=K0c.upd_0 x ((I x.Code).set q v):=rfl
theorem K0c.fold_0(x:K0c)(y:Int): K0c.upd_0 x (I y)=({x with Code:=y}:K0c).cv:=rfl
theorem K0c.fld_0(x:K0c): qfield C 45 x.cv 0=some (I x.Code):=X0d C tt29 (K0c.shape x) rfl tt3 rfl rfl
theorem K0c.rfa_0(x:K0c)(h:Heap): qfieldAddr C h 45 (.rptr x.cv) 0=some (.rptr (I x.Code)):=by
 have hs:=K0c.shape x
 unfold K0c.cv at hs ⊢
 simp only[qfieldAddr,tt29,ti29,tgt,hs,if_true,List.getElem?_cons_zero,List.getElem?_cons_succ]
theorem K0c.sub_0(q:List Nat)(z:Shape): subEq sh29 (0::q) z=subEq sh3 q z:=rfl
theorem K0c.at_1(x:K0c)(q:List Nat): x.cv.at (1::q)=(I x.A).at q:=rfl
def K0c.upd_1(x:K0c)(v:CV): CV:=.agg [I x.Code,v,I x.B]
theorem K0c.set_1(x:K0c)(q:List Nat)(v:CV): x.cv.set (1::q) v=K0c.upd_1 x ((I x.A).set q v):=rfl
theorem K0c.fold_1(x:K0c)(y:Int): K0c.upd_1 x (I y)=({x with A:=y}:K0c).cv:=rfl
theorem K0c.fld_1(x:K0c): qfield C 45 x.cv 1=some (I x.A):=X0d C tt29 (K0c.shape x) rfl tt3 rfl rfl
theorem K0c.rfa_1(x:K0c)(h:Heap): qfieldAddr C h 45 (.rptr x.cv) 1=some (.rptr (I x.A)):=by
 have hs:=K0c.shape x
 unfold K0c.cv at hs ⊢
 simp only[qfieldAddr,tt29,ti29,tgt,hs,if_true,List.getElem?_cons_zero,List.getElem?_cons_succ]
theorem K0c.sub_1(q:List Nat)(z:Shape): subEq sh29 (1::q) z=subEq sh3 q z:=rfl
theorem K0c.at_2(x:K0c)(q:List Nat): x.cv.at (2::q)=(I x.B).at q:=rfl
def K0c.upd_2(x:K0c)(v:CV): CV:=.agg [I x.Code,I x.A,v]
theorem K0c.set_2(x:K0c)(q:List Nat)(v:CV): x.cv.set (2::q) v=K0c.upd_2 x ((I x.B).set q v):=rfl
theorem K0c.fold_2(x:K0c)(y:Int): K0c.upd_2 x (I y)=({x with B:=y}:K0c).cv:=rfl
theorem K0c.fld_2(x:K0c): qfield C 45 x.cv 2=some (I x.B):=X0d C tt29 (K0c.shape x) rfl tt3 rfl rfl
theorem K0c.rfa_2(x:K0c)(h:Heap): qfieldAddr C h 45 (.rptr x.cv) 2=some (.rptr (I x.B)):=by
 have hs:=K0c.shape x
 unfold K0c.cv at hs ⊢
 simp only[qfieldAddr,tt29,ti29,tgt,hs,if_true,List.getElem?_cons_zero,List.getElem?_cons_succ]
theorem K0c.sub_2(q:List Nat)(z:Shape): subEq sh29 (2::q) z=subEq sh3 q z:=rfl
theorem K0c.sub_nil: subEq sh29 [] sh29=true:=by simp[subEq,Shape.sub]
theorem K0c.alloc: allocObj C (.alloc 45)=some (.var sh29 K0c.zero.cv):=by simp only[allocObj,tt29,ti29,K0c.zcv]
theorem K0c.xalloc(p:Hp): xalloc C p 45=.ret (.ptr p.n []) (p.new (.var sh29 K0c.zero.cv)):=by simp only[Cl.xalloc,tt29,ti29,K0c.zcv]
theorem K0c.xbox(p:Hp)(x:K0c): xbox C p 45 x.cv=.ret (.ptr p.n []) (p.new (.var sh29 x.cv)):=by
 have h:Cl.shOk x.cv ti29.sh=true:=K0c.shOk x
 simp only[Cl.xbox,tt29,h,cond_true];rfl
theorem K0c.bld_0(a0:Int): qbuild C 45 [(0,I a0)]=some (({Code:=a0,A:=0,B:=0}:K0c).cv):=Y0f C tt29 (by simp only[partsOk,setAll,CV.shape,sh29,List.all_cons,List.all_nil,List.getElem?_cons_zero,List.getElem?_cons_succ,Bool.and_true,decide_true]) rfl
theorem K0c.bld_0_1_2(a0:Int)(a1:Int)(a2:Int): qbuild C 45 [(0,I a0),(1,I a1),(2,I a2)]=some (({Code:=a0,A:=a1,B:=a2}:K0c).cv):=Y0f C tt29 (by simp only[partsOk,setAll,CV.shape,sh29,List.all_cons,List.all_nil,List.getElem?_cons_zero,List.getElem?_cons_succ,Bool.and_true,decide_true]) rfl
structure K0a where
 Players:Int
 Period:Int
 Grace:Int
 Start:Int
 Frames:Int
 Seed:Int
 Rate:Nat
 Depth:Nat
 Rules:Lst K0c
 Tokens:Lst Int
def K0a.cv(x:K0a): CV:=.agg [I x.Players,I x.Period,I x.Grace,I x.Start,I x.Frames,I x.Seed,Fl x.Rate,Fl x.Depth,(Lst.cv K0c.cv) x.Rules,(Lst.cv I) x.Tokens]
@[ext] theorem K0a.ext'{x y:K0a}(h_Players:x.Players=y.Players)(h_Period:x.Period=y.Period)(h_Grace:x.Grace=y.Grace)(h_Start:x.Start=y.Start)(h_Frames:x.Frames=y.Frames)(h_Seed:x.Seed=y.Seed)(h_Rate:x.Rate=y.Rate)(h_Depth:x.Depth=y.Depth)(h_Rules:x.Rules=y.Rules)(h_Tokens:x.Tokens=y.Tokens): x=y:=by
 obtain⟨a0,a1,a2,a3,a4,a5,a6,a7,a8,a9⟩:=x
 obtain⟨c0,c1,c2,c3,c4,c5,c6,c7,c8,c9⟩:=y
 simp only at h_Players h_Period h_Grace h_Start h_Frames h_Seed h_Rate h_Depth h_Rules h_Tokens
 subst h_Players h_Period h_Grace h_Start h_Frames h_Seed h_Rate h_Depth h_Rules h_Tokens
 rfl
def K0a.zero: K0a:={Players:=0,Period:=0,Grace:=0,Start:=0,Frames:=0,Seed:=0,Rate:=0,Depth:=0,Rules:=⟨.nil,[],fun _=>rfl⟩,Tokens:=⟨.nil,[],fun _=>rfl⟩}
instance:Inhabited K0a:=⟨K0a.zero⟩
theorem K0a.zcv: z61=K0a.zero.cv:=by
 simp only[z61,K0a.zero,K0a.cv,List.map_replicate,Lst.cv,List.map_nil]
theorem K0a.shape(x:K0a): x.cv.shape=sh61:=by simp only[K0a.cv,sh61,CV.shape,CV.shapes,Lst.shape]
theorem K0a.has(x:K0a)(j:Nat): x.cv.has j ↔ x.Rules.tl=.own j\/x.Tokens.tl=.own j:=by simp[K0a.cv,CV.has,CV.hasL,Lst.has _ K0c.nohas,Lst.has _ I_has]
theorem K0a.inj{x y:K0a}(h:x.cv=y.cv): x=y:=by
 simp only[K0a.cv,CV.agg.injEq,List.cons.injEq,and_true]at h
 obtain⟨h0,h1,h2,h3,h4,h5,h6,h7,h8,h9⟩:=h
 refine K0a.ext' (I_inj _ _ h0) (I_inj _ _ h1) (I_inj _ _ h2) (I_inj _ _ h3) (I_inj _ _ h4) (I_inj _ _ h5) (Fl_inj _ _ h6) (Fl_inj _ _ h7) ((Lst.injF K0c.injF) _ _ h8) ((Lst.injF I_inj) _ _ h9)
theorem K0a.injF(x y:K0a)(h:x.cv=y.cv): x=y:=K0a.inj h
theorem K0a.inj_iff(x y:K0a): x.cv=y.cv ↔ x=y:=⟨K0a.inj,fun h=>by rw[h]⟩
theorem K0a.shOk(x:K0a): Cl.shOk x.cv sh61=true:=K0m (K0a.shape x) rfl
theorem K0a.at_0(x:K0a)(q:List Nat): x.cv.at (0::q)=(I x.Players).at q:=rfl
def K0a.upd_0(x:K0a)(v:CV): CV:=.agg [v,I x.Period,I x.Grace,I x.Start,I x.Frames,I x.Seed,Fl x.Rate,Fl x.Depth,(Lst.cv K0c.cv) x.Rules,(Lst.cv I) x.Tokens]
theorem K0a.set_0(x:K0a)(q:List Nat)(v:CV): x.cv.set (0::q) v=K0a.upd_0 x ((I x.Players).set q v):=rfl
theorem K0a.fold_0(x:K0a)(y:Int): K0a.upd_0 x (I y)=({x with Players:=y}:K0a).cv:=rfl
theorem K0a.fld_0(x:K0a): qfield C 31 x.cv 0=some (I x.Players):=X0d C tt61 (K0a.shape x) rfl tt3 rfl rfl
theorem K0a.sub_0(q:List Nat)(z:Shape): subEq sh61 (0::q) z=subEq sh3 q z:=rfl
theorem K0a.at_1(x:K0a)(q:List Nat): x.cv.at (1::q)=(I x.Period).at q:=rfl
def K0a.upd_1(x:K0a)(v:CV): CV:=.agg [I x.Players,v,I x.Grace,I x.Start,I x.Frames,I x.Seed,Fl x.Rate,Fl x.Depth,(Lst.cv K0c.cv) x.Rules,(Lst.cv I) x.Tokens]
theorem K0a.set_1(x:K0a)(q:List Nat)(v:CV): x.cv.set (1::q) v=K0a.upd_1 x ((I x.Period).set q v):=rfl
theorem K0a.fold_1(x:K0a)(y:Int): K0a.upd_1 x (I y)=({x with Period:=y}:K0a).cv:=rfl
theorem K0a.fld_1(x:K0a): qfield C 31 x.cv 1=some (I x.Period):=X0d C tt61 (K0a.shape x) rfl tt3 rfl rfl
theorem K0a.sub_1(q:List Nat)(z:Shape): subEq sh61 (1::q) z=subEq sh3 q z:=rfl
theorem K0a.at_2(x:K0a)(q:List Nat): x.cv.at (2::q)=(I x.Grace).at q:=rfl
def K0a.upd_2(x:K0a)(v:CV): CV:=.agg [I x.Players,I x.Period,v,I x.Start,I x.Frames,I x.Seed,Fl x.Rate,Fl x.Depth,(Lst.cv K0c.cv) x.Rules,(Lst.cv I) x.Tokens]
theorem K0a.set_2(x:K0a)(q:List Nat)(v:CV): x.cv.set (2::q) v=K0a.upd_2 x ((I x.Grace).set q v):=rfl
theorem K0a.fold_2(x:K0a)(y:Int): K0a.upd_2 x (I y)=({x with Grace:=y}:K0a).cv:=rfl
theorem K0a.fld_2(x:K0a): qfield C 31 x.cv 2=some (I x.Grace):=X0d C tt61 (K0a.shape x) rfl tt3 rfl rfl
theorem K0a.sub_2(q:List Nat)(z:Shape): subEq sh61 (2::q) z=subEq sh3 q z:=rfl
theorem K0a.at_3(x:K0a)(q:List Nat): x.cv.at (3::q)=(I x.Start).at q:=rfl
def K0a.upd_3(x:K0a)(v:CV): CV:=.agg [I x.Players,I x.Period,I x.Grace,v,I x.Frames,I x.Seed,Fl x.Rate,Fl x.Depth,(Lst.cv K0c.cv) x.Rules,(Lst.cv I) x.Tokens]
theorem K0a.set_3(x:K0a)(q:List Nat)(v:CV): x.cv.set (3::q) v=K0a.upd_3 x ((I x.Start).set q v):=rfl
theorem K0a.fold_3(x:K0a)(y:Int): K0a.upd_3 x (I y)=({x with Start:=y}:K0a).cv:=rfl
theorem K0a.fld_3(x:K0a): qfield C 31 x.cv 3=some (I x.Start):=X0d C tt61 (K0a.shape x) rfl tt3 rfl rfl
theorem K0a.sub_3(q:List Nat)(z:Shape): subEq sh61 (3::q) z=subEq sh3 q z:=rfl
theorem K0a.at_4(x:K0a)(q:List Nat): x.cv.at (4::q)=(I x.Frames).at q:=rfl
def K0a.upd_4(x:K0a)(v:CV): CV:=.agg [I x.Players,I x.Period,I x.Grace,I x.Start,v,I x.Seed,Fl x.Rate,Fl x.Depth,(Lst.cv K0c.cv) x.Rules,(Lst.cv I) x.Tokens]
theorem K0a.set_4(x:K0a)(q:List Nat)(v:CV): x.cv.set (4::q) v=K0a.upd_4 x ((I x.Frames).set q v):=rfl
theorem K0a.fold_4(x:K0a)(y:Int): K0a.upd_4 x (I y)=({x with Frames:=y}:K0a).cv:=rfl
theorem K0a.fld_4(x:K0a): qfield C 31 x.cv 4=some (I x.Frames):=X0d C tt61 (K0a.shape x) rfl tt3 rfl rfl
theorem K0a.sub_4(q:List Nat)(z:Shape): subEq sh61 (4::q) z=subEq sh3 q z:=rfl
theorem K0a.at_5(x:K0a)(q:List Nat): x.cv.at (5::q)=(I x.Seed).at q:=rfl
def K0a.upd_5(x:K0a)(v:CV): CV:=.agg [I x.Players,I x.Period,I x.Grace,I x.Start,I x.Frames,v,Fl x.Rate,Fl x.Depth,(Lst.cv K0c.cv) x.Rules,(Lst.cv I) x.Tokens]
theorem K0a.set_5(x:K0a)(q:List Nat)(v:CV): x.cv.set (5::q) v=K0a.upd_5 x ((I x.Seed).set q v):=rfl
theorem K0a.fold_5(x:K0a)(y:Int): K0a.upd_5 x (I y)=({x with Seed:=y}:K0a).cv:=rfl
theorem K0a.fld_5(x:K0a): qfield C 31 x.cv 5=some (I x.Seed):=X0d C tt61 (K0a.shape x) rfl tt3 rfl rfl
theorem K0a.sub_5(q:List Nat)(z:Shape): subEq sh61 (5::q) z=subEq sh3 q z:=rfl
theorem K0a.at_6(x:K0a)(q:List Nat): x.cv.at (6::q)=(Fl x.Rate).at q:=rfl
def K0a.upd_6(x:K0a)(v:CV): CV:=.agg [I x.Players,I x.Period,I x.Grace,I x.Start,I x.Frames,I x.Seed,v,Fl x.Depth,(Lst.cv K0c.cv) x.Rules,(Lst.cv I) x.Tokens]
theorem K0a.set_6(x:K0a)(q:List Nat)(v:CV): x.cv.set (6::q) v=K0a.upd_6 x ((Fl x.Rate).set q v):=rfl
theorem K0a.fold_6(x:K0a)(y:Nat): K0a.upd_6 x (Fl y)=({x with Rate:=y}:K0a).cv:=rfl
theorem K0a.fld_6(x:K0a): qfield C 31 x.cv 6=some (Fl x.Rate):=X0d C tt61 (K0a.shape x) rfl tt59 rfl rfl
theorem K0a.sub_6(q:List Nat)(z:Shape): subEq sh61 (6::q) z=subEq sh59 q z:=rfl
theorem K0a.at_7(x:K0a)(q:List Nat): x.cv.at (7::q)=(Fl x.Depth).at q:=rfl
def K0a.upd_7(x:K0a)(v:CV): CV:=.agg [I x.Players,I x.Period,I x.Grace,I x.Start,I x.Frames,I x.Seed,Fl x.Rate,v,(Lst.cv K0c.cv) x.Rules,(Lst.cv I) x.Tokens]
theorem K0a.set_7(x:K0a)(q:List Nat)(v:CV): x.cv.set (7::q) v=K0a.upd_7 x ((Fl x.Depth).set q v):=rfl
theorem K0a.fold_7(x:K0a)(y:Nat): K0a.upd_7 x (Fl y)=({x with Depth:=y}:K0a).cv:=rfl
theorem K0a.fld_7(x:K0a): qfield C 31 x.cv 7=some (Fl x.Depth):=X0d C tt61 (K0a.shape x) rfl tt59 rfl rfl
theorem K0a.sub_7(q:List Nat)(z:Shape): subEq sh61 (7::q) z=subEq sh59 q z:=rfl
theorem K0a.at_8(x:K0a)(q:List Nat): x.cv.at (8::q)=((Lst.cv K0c.cv) x.Rules).at q:=rfl
def K0a.upd_8(x:K0a)(v:CV): CV:=.agg [I x.Players,I x.Period,I x.Grace,I x.Start,I x.Frames,I x.Seed,Fl x.Rate,Fl x.Depth,v,(Lst.cv I) x.Tokens]
theorem K0a.set_8(x:K0a)(q:List Nat)(v:CV): x.cv.set (8::q) v=K0a.upd_8 x (((Lst.cv K0c.cv) x.Rules).set q v):=rfl
theorem K0a.fold_8(x:K0a)(y:Lst K0c): K0a.upd_8 x ((Lst.cv K0c.cv) y)=({x with Rules:=y}:K0a).cv:=rfl
theorem K0a.fld_8(x:K0a): qfield C 31 x.cv 8=some ((Lst.cv K0c.cv) x.Rules):=X0d C tt61 (K0a.shape x) rfl tt23 rfl rfl
theorem K0a.sub_8(q:List Nat)(z:Shape): subEq sh61 (8::q) z=subEq sh23 q z:=rfl
theorem K0a.at_9(x:K0a)(q:List Nat): x.cv.at (9::q)=((Lst.cv I) x.Tokens).at q:=rfl
def K0a.upd_9(x:K0a)(v:CV): CV:=.agg [I x.Players,I x.Period,I x.Grace,I x.Start,I x.Frames,I x.Seed,Fl x.Rate,Fl x.Depth,(Lst.cv K0c.cv) x.Rules,v]
theorem K0a.set_9(x:K0a)(q:List Nat)(v:CV): x.cv.set (9::q) v=K0a.upd_9 x (((Lst.cv I) x.Tokens).set q v):=rfl
theorem K0a.fold_9(x:K0a)(y:Lst Int): K0a.upd_9 x ((Lst.cv I) y)=({x with Tokens:=y}:K0a).cv:=rfl
theorem K0a.fld_9(x:K0a): qfield C 31 x.cv 9=some ((Lst.cv I) x.Tokens):=X0d C tt61 (K0a.shape x) rfl tt24 rfl rfl
theorem K0a.sub_9(q:List Nat)(z:Shape): subEq sh61 (9::q) z=subEq sh24 q z:=rfl
theorem K0a.sub_nil: subEq sh61 [] sh61=true:=by simp[subEq,Shape.sub]
theorem K0a.alloc: allocObj C (.alloc 31)=some (.var sh61 K0a.zero.cv):=by simp only[allocObj,tt61,ti61,K0a.zcv]
theorem K0a.xalloc(p:Hp): xalloc C p 31=.ret (.ptr p.n []) (p.new (.var sh61 K0a.zero.cv)):=by simp only[Cl.xalloc,tt61,ti61,K0a.zcv]
theorem K0a.xbox(p:Hp)(x:K0a): xbox C p 31 x.cv=.ret (.ptr p.n []) (p.new (.var sh61 x.cv)):=by
 have h:Cl.shOk x.cv ti61.sh=true:=K0a.shOk x
 simp only[Cl.xbox,tt61,h,cond_true];rfl
theorem K0a.bld_0_1_2_3_4_5(a0:Int)(a1:Int)(a2:Int)(a3:Int)(a4:Int)(a5:Int): qbuild C 31 [(0,I a0),(1,I a1),(2,I a2),(3,I a3),(4,I a4),(5,I a5)]=some (({Players:=a0,Period:=a1,Grace:=a2,Start:=a3,Frames:=a4,Seed:=a5,Rate:=0,Depth:=0,Rules:=⟨.nil,[],fun _=>rfl⟩,Tokens:=⟨.nil,[],fun _=>rfl⟩}:K0a).cv):=Y0f C tt61 (by simp only[partsOk,setAll,CV.shape,sh61,List.all_cons,List.all_nil,List.getElem?_cons_zero,List.getElem?_cons_succ,Bool.and_true,decide_true]) rfl
theorem K0a.bld_0_1_4_6_7_8(a0:Int)(a1:Int)(a4:Int)(a6:Nat)(a7:Nat)(a8:Lst K0c): qbuild C 31 [(0,I a0),(1,I a1),(4,I a4),(6,Fl a6),(7,Fl a7),(8,(Lst.cv K0c.cv) a8)]=some (({Players:=a0,Period:=a1,Grace:=0,Start:=0,Frames:=a4,Seed:=0,Rate:=a6,Depth:=a7,Rules:=a8,Tokens:=⟨.nil,[],fun _=>rfl⟩}:K0a).cv):=Y0f C tt61 (by simp only[partsOk,setAll,CV.shape,Lst.shape,sh61,List.all_cons,List.all_nil,List.getElem?_cons_zero,List.getElem?_cons_succ,Bool.and_true,decide_true]) rfl
structure Q0a where
 Kind:Int
 Owner:Int
 X:Int
 Y:Int
 VX:Int
 VY:Int
 Age:Int
 Mem:List Int
 hMem:Mem.length=4
 Faults:Int
def Q0a.cv(x:Q0a): CV:=.agg [I x.Kind,I x.Owner,I x.X,I x.Y,I x.VX,I x.VY,I x.Age,.agg (x.Mem.map I),I x.Faults]
@[ext] theorem Q0a.ext'{x y:Q0a}(h_Kind:x.Kind=y.Kind)(h_Owner:x.Owner=y.Owner)(h_X:x.X=y.X)(h_Y:x.Y=y.Y)(h_VX:x.VX=y.VX)(h_VY:x.VY=y.VY)(h_Age:x.Age=y.Age)(h_Mem:x.Mem=y.Mem)(h_Faults:x.Faults=y.Faults): x=y:=by
 obtain⟨a0,a1,a2,a3,a4,a5,a6,a7,ha,a8⟩:=x
 obtain⟨c0,c1,c2,c3,c4,c5,c6,c7,hc,c8⟩:=y
 simp only at h_Kind h_Owner h_X h_Y h_VX h_VY h_Age h_Mem h_Faults
 subst h_Kind h_Owner h_X h_Y h_VX h_VY h_Age h_Mem h_Faults
 rfl
def Q0a.zero: Q0a:={Kind:=0,Owner:=0,X:=0,Y:=0,VX:=0,VY:=0,Age:=0,Mem:=(List.replicate 4 0),hMem:=List.length_replicate,Faults:=0}
instance:Inhabited Q0a:=⟨Q0a.zero⟩
theorem Q0a.zcv: z34=Q0a.zero.cv:=by
 simp only[z34,Q0a.zero,Q0a.cv,z32,List.map_replicate,Lst.cv,List.map_nil]
theorem Q0a.shape(x:Q0a): x.cv.shape=sh34:=by simp only[Q0a.cv,sh34,CV.shape,CV.shapes,Lst.shape,Y0h (f:=I) (s:=Shape.s) (fun _=>rfl),x.hMem,sh32]
theorem Q0a.nohas(x:Q0a)(j:Nat): ¬x.cv.has j:=by simp[Q0a.cv,CV.has,CV.hasL,X0n I_has]
instance:DecidableEq Q0a:=fun x y=>decidable_of_iff (x.Kind=y.Kind/\x.Owner=y.Owner/\x.X=y.X/\x.Y=y.Y/\x.VX=y.VX/\x.VY=y.VY/\x.Age=y.Age/\x.Mem=y.Mem/\x.Faults=y.Faults) ⟨fun h=>Q0a.ext' h.1 h.2.1 h.2.2.1 h.2.2.2.1 h.2.2.2.2.1 h.2.2.2.2.2.1 h.2.2.2.2.2.2.1 h.2.2.2.2.2.2.2.1 h.2.2.2.2.2.2.2.2,fun h=>by subst h;simp⟩
theorem Q0a.inj{x y:Q0a}(h:x.cv=y.cv): x=y:=by
 simp only[Q0a.cv,CV.agg.injEq,List.cons.injEq,and_true]at h
 obtain⟨h0,h1,h2,h3,h4,h5,h6,h7,h8⟩:=h
 refine Q0a.ext' (I_inj _ _ h0) (I_inj _ _ h1) (I_inj _ _ h2) (I_inj _ _ h3) (I_inj _ _ h4) (I_inj _ _ h5) (I_inj _ _ h6) (Y1c I_inj h7) (I_inj _ _ h8)
theorem Q0a.injF(x y:Q0a)(h:x.cv=y.cv): x=y:=Q0a.inj h
theorem Q0a.inj_iff(x y:Q0a): x.cv=y.cv ↔ x=y:=⟨Q0a.inj,fun h=>by rw[h]⟩
theorem Q0a.shOk(x:Q0a): Cl.shOk x.cv sh34=true:=K0m (Q0a.shape x) rfl
theorem Q0a.eq(d:Nat)(x y:Q0a): eqCV C (d+3) 36 x.cv y.cv=some (decide (x=y)):=by
 refine(K0x C (d:=d+2) tt34 (Q0a.shape x) (Q0a.shape y) (X0f (Q0g C tt3 (d+1) _ _) (X0f (Q0g C tt3 (d+1) _ _) (X0f (Q0g C tt3 (d+1) _ _) (X0f (Q0g C tt3 (d+1) _ _) (X0f (Q0g C tt3 (d+1) _ _) (X0f (Q0g C tt3 (d+1) _ _) (X0f (Q0g C tt3 (d+1) _ _) (X0f (eqCV_ar C (g:=I) (d:=d+1) tt32 rfl (fun _=>rfl) x.hMem y.hMem (Q0g C tt3 (d+0))) (X0f (Q0g C tt3 (d+1) _ _) rfl)))))))))).trans (congrArg some ?_)
 rw[Bool.eq_iff_iff]
 simp only[Bool.and_eq_true,decide_eq_true_eq,and_true]
 exact⟨fun h=>Q0a.ext' h.1 h.2.1 h.2.2.1 h.2.2.2.1 h.2.2.2.2.1 h.2.2.2.2.2.1 h.2.2.2.2.2.2.1 h.2.2.2.2.2.2.2.1 h.2.2.2.2.2.2.2.2,fun h=>by subst h;simp⟩
theorem Q0a.eql(x y:Q0a)(b:Bool): qbin C .eql 36 b x.cv y.cv=some (Bo (decide (x=y))):=by
 have h:=Q0a.eq 9 x y
 unfold Q0a.cv at h ⊢
 simp only[qbin]
 rw[h];rfl
theorem Q0a.neq(x y:Q0a)(b:Bool): qbin C .neq 36 b x.cv y.cv=some (Bo (!decide (x=y))):=by
 have h:=Q0a.eq 9 x y
 unfold Q0a.cv at h ⊢
 simp only[qbin]
 rw[h];rfl
theorem Q0a.at_0(x:Q0a)(q:List Nat): x.cv.at (0::q)=(I x.Kind).at q:=rfl
def Q0a.upd_0(x:Q0a)(v:CV): CV:=.agg [v,I x.Owner,I x.X,I x.Y,I x.VX,I x.VY,I x.Age,.agg (x.Mem.map I),I x.Faults]
theorem Q0a.set_0(x:Q0a)(q:List Nat)(v:CV): x.cv.set (0::q) v=Q0a.upd_0 x ((I x.Kind).set q v):=rfl
theorem Q0a.fold_0(x:Q0a)(y:Int): Q0a.upd_0 x (I y)=({x with Kind:=y}:Q0a).cv:=rfl
theorem Q0a.fld_0(x:Q0a): qfield C 36 x.cv 0=some (I x.Kind):=X0d C tt34 (Q0a.shape x) rfl tt3 rfl rfl
theorem Q0a.rfa_0(x:Q0a)(h:Heap): qfieldAddr C h 36 (.rptr x.cv) 0=some (.rptr (I x.Kind)):=by
 have hs:=Q0a.shape x
 unfold Q0a.cv at hs ⊢
 simp only[qfieldAddr,tt34,ti34,tgt,hs,if_true,List.getElem?_cons_zero,List.getElem?_cons_succ]
theorem Q0a.sub_0(q:List Nat)(z:Shape): subEq sh34 (0::q) z=subEq sh3 q z:=rfl
theorem Q0a.at_1(x:Q0a)(q:List Nat): x.cv.at (1::q)=(I x.Owner).at q:=rfl
def Q0a.upd_1(x:Q0a)(v:CV): CV:=.agg [I x.Kind,v,I x.X,I x.Y,I x.VX,I x.VY,I x.Age,.agg (x.Mem.map I),I x.Faults]
theorem Q0a.set_1(x:Q0a)(q:List Nat)(v:CV): x.cv.set (1::q) v=Q0a.upd_1 x ((I x.Owner).set q v):=rfl
theorem Q0a.fold_1(x:Q0a)(y:Int): Q0a.upd_1 x (I y)=({x with Owner:=y}:Q0a).cv:=rfl
theorem Q0a.fld_1(x:Q0a): qfield C 36 x.cv 1=some (I x.Owner):=X0d C tt34 (Q0a.shape x) rfl tt3 rfl rfl
theorem Q0a.rfa_1(x:Q0a)(h:Heap): qfieldAddr C h 36 (.rptr x.cv) 1=some (.rptr (I x.Owner)):=by
 have hs:=Q0a.shape x
 unfold Q0a.cv at hs ⊢
 simp only[qfieldAddr,tt34,ti34,tgt,hs,if_true,List.getElem?_cons_zero,List.getElem?_cons_succ]
theorem Q0a.sub_1(q:List Nat)(z:Shape): subEq sh34 (1::q) z=subEq sh3 q z:=rfl
theorem Q0a.at_2(x:Q0a)(q:List Nat): x.cv.at (2::q)=(I x.X).at q:=rfl
def Q0a.upd_2(x:Q0a)(v:CV): CV:=.agg [I x.Kind,I x.Owner,v,I x.Y,I x.VX,I x.VY,I x.Age,.agg (x.Mem.map I),I x.Faults]
theorem Q0a.set_2(x:Q0a)(q:List Nat)(v:CV): x.cv.set (2::q) v=Q0a.upd_2 x ((I x.X).set q v):=rfl
theorem Q0a.fold_2(x:Q0a)(y:Int): Q0a.upd_2 x (I y)=({x with X:=y}:Q0a).cv:=rfl
theorem Q0a.fld_2(x:Q0a): qfield C 36 x.cv 2=some (I x.X):=X0d C tt34 (Q0a.shape x) rfl tt3 rfl rfl
theorem Q0a.rfa_2(x:Q0a)(h:Heap): qfieldAddr C h 36 (.rptr x.cv) 2=some (.rptr (I x.X)):=by
 have hs:=Q0a.shape x
 unfold Q0a.cv at hs ⊢
 simp only[qfieldAddr,tt34,ti34,tgt,hs,if_true,List.getElem?_cons_zero,List.getElem?_cons_succ]
theorem Q0a.sub_2(q:List Nat)(z:Shape): subEq sh34 (2::q) z=subEq sh3 q z:=rfl
theorem Q0a.at_3(x:Q0a)(q:List Nat): x.cv.at (3::q)=(I x.Y).at q:=rfl
def Q0a.upd_3(x:Q0a)(v:CV): CV:=.agg [I x.Kind,I x.Owner,I x.X,v,I x.VX,I x.VY,I x.Age,.agg (x.Mem.map I),I x.Faults]
theorem Q0a.set_3(x:Q0a)(q:List Nat)(v:CV): x.cv.set (3::q) v=Q0a.upd_3 x ((I x.Y).set q v):=rfl
theorem Q0a.fold_3(x:Q0a)(y:Int): Q0a.upd_3 x (I y)=({x with Y:=y}:Q0a).cv:=rfl
theorem Q0a.fld_3(x:Q0a): qfield C 36 x.cv 3=some (I x.Y):=X0d C tt34 (Q0a.shape x) rfl tt3 rfl rfl
theorem Q0a.rfa_3(x:Q0a)(h:Heap): qfieldAddr C h 36 (.rptr x.cv) 3=some (.rptr (I x.Y)):=by
 have hs:=Q0a.shape x
 unfold Q0a.cv at hs ⊢
 simp only[qfieldAddr,tt34,ti34,tgt,hs,if_true,List.getElem?_cons_zero,List.getElem?_cons_succ]
theorem Q0a.sub_3(q:List Nat)(z:Shape): subEq sh34 (3::q) z=subEq sh3 q z:=rfl
theorem Q0a.at_4(x:Q0a)(q:List Nat): x.cv.at (4::q)=(I x.VX).at q:=rfl
def Q0a.upd_4(x:Q0a)(v:CV): CV:=.agg [I x.Kind,I x.Owner,I x.X,I x.Y,v,I x.VY,I x.Age,.agg (x.Mem.map I),I x.Faults]
theorem Q0a.set_4(x:Q0a)(q:List Nat)(v:CV): x.cv.set (4::q) v=Q0a.upd_4 x ((I x.VX).set q v):=rfl
theorem Q0a.fold_4(x:Q0a)(y:Int): Q0a.upd_4 x (I y)=({x with VX:=y}:Q0a).cv:=rfl
theorem Q0a.fld_4(x:Q0a): qfield C 36 x.cv 4=some (I x.VX):=X0d C tt34 (Q0a.shape x) rfl tt3 rfl rfl
theorem Q0a.rfa_4(x:Q0a)(h:Heap): qfieldAddr C h 36 (.rptr x.cv) 4=some (.rptr (I x.VX)):=by
 have hs:=Q0a.shape x
 unfold Q0a.cv at hs ⊢
 simp only[qfieldAddr,tt34,ti34,tgt,hs,if_true,List.getElem?_cons_zero,List.getElem?_cons_succ]
theorem Q0a.sub_4(q:List Nat)(z:Shape): subEq sh34 (4::q) z=subEq sh3 q z:=rfl
theorem Q0a.at_5(x:Q0a)(q:List Nat): x.cv.at (5::q)=(I x.VY).at q:=rfl
def Q0a.upd_5(x:Q0a)(v:CV): CV:=.agg [I x.Kind,I x.Owner,I x.X,I x.Y,I x.VX,v,I x.Age,.agg (x.Mem.map I),I x.Faults]
theorem Q0a.set_5(x:Q0a)(q:List Nat)(v:CV): x.cv.set (5::q) v=Q0a.upd_5 x ((I x.VY).set q v):=rfl
theorem Q0a.fold_5(x:Q0a)(y:Int): Q0a.upd_5 x (I y)=({x with VY:=y}:Q0a).cv:=rfl
theorem Q0a.fld_5(x:Q0a): qfield C 36 x.cv 5=some (I x.VY):=X0d C tt34 (Q0a.shape x) rfl tt3 rfl rfl
theorem Q0a.rfa_5(x:Q0a)(h:Heap): qfieldAddr C h 36 (.rptr x.cv) 5=some (.rptr (I x.VY)):=by
 have hs:=Q0a.shape x
 unfold Q0a.cv at hs ⊢
 simp only[qfieldAddr,tt34,ti34,tgt,hs,if_true,List.getElem?_cons_zero,List.getElem?_cons_succ]
theorem Q0a.sub_5(q:List Nat)(z:Shape): subEq sh34 (5::q) z=subEq sh3 q z:=rfl
theorem Q0a.at_6(x:Q0a)(q:List Nat): x.cv.at (6::q)=(I x.Age).at q:=rfl
def Q0a.upd_6(x:Q0a)(v:CV): CV:=.agg [I x.Kind,I x.Owner,I x.X,I x.Y,I x.VX,I x.VY,v,.agg (x.Mem.map I),I x.Faults]
theorem Q0a.set_6(x:Q0a)(q:List Nat)(v:CV): x.cv.set (6::q) v=Q0a.upd_6 x ((I x.Age).set q v):=rfl
theorem Q0a.fold_6(x:Q0a)(y:Int): Q0a.upd_6 x (I y)=({x with Age:=y}:Q0a).cv:=rfl
theorem Q0a.fld_6(x:Q0a): qfield C 36 x.cv 6=some (I x.Age):=X0d C tt34 (Q0a.shape x) rfl tt3 rfl rfl
theorem Q0a.rfa_6(x:Q0a)(h:Heap): qfieldAddr C h 36 (.rptr x.cv) 6=some (.rptr (I x.Age)):=by
 have hs:=Q0a.shape x
 unfold Q0a.cv at hs ⊢
 simp only[qfieldAddr,tt34,ti34,tgt,hs,if_true,List.getElem?_cons_zero,List.getElem?_cons_succ]
theorem Q0a.sub_6(q:List Nat)(z:Shape): subEq sh34 (6::q) z=subEq sh3 q z:=rfl
theorem Q0a.at_7(x:Q0a): x.cv.at [7]=some (.agg (x.Mem.map I)):=rfl
theorem Q0a.at_7k(x:Q0a)(k:Nat)(q:List Nat)(h:k<4): x.cv.at (7::k::q)=(I (nth x.Mem k)).at q:=by
 show(CV.agg (x.Mem.map I)).at (k::q)=_
 exact arr_at _ (by rw[x.hMem];exact h) q
def Q0a.upd_7(x:Q0a)(v:CV): CV:=.agg [I x.Kind,I x.Owner,I x.X,I x.Y,I x.VX,I x.VY,I x.Age,v,I x.Faults]
def Q0a.upd_7k(x:Q0a)(k:Nat)(v:CV): CV:=.agg [I x.Kind,I x.Owner,I x.X,I x.Y,I x.VX,I x.VY,I x.Age,.agg ((x.Mem.map I).set k v),I x.Faults]
theorem Q0a.set_7(x:Q0a)(v:CV): x.cv.set [7] v=Q0a.upd_7 x v:=by simp[Q0a.cv,Q0a.upd_7,CV.set,Y1t]
theorem Q0a.set_7k(x:Q0a)(k:Nat)(q:List Nat)(v:CV)(h:k<4): x.cv.set (7::k::q) v=Q0a.upd_7k x k ((I (nth x.Mem k)).set q v):=by
 have e:x.cv.set (7::k::q) v=Q0a.upd_7 x ((CV.agg (x.Mem.map I)).set (k::q) v):=rfl
 rw[e,Z1x _ (by rw[x.hMem];exact h)];rfl
def Q0a.put_7k(x:Q0a)(k:Nat)(y:Int): Q0a:={x with Mem:=x.Mem.set k y,hMem:=by rw[List.length_set];exact x.hMem}
theorem Q0a.fold_7k(x:Q0a)(k:Nat)(y:Int): Q0a.upd_7k x k (I y)=(Q0a.put_7k x k y).cv:=by simp only[Q0a.upd_7k,Q0a.put_7k,Q0a.cv,List.map_set]
theorem Q0a.fold_7(x:Q0a)(l:List Int)(h:l.length=4): Q0a.upd_7 x (.agg (l.map I))=({x with Mem:=l,hMem:=h}:Q0a).cv:=rfl
theorem Q0a.fld_7(x:Q0a): qfield C 36 x.cv 7=some (.agg (x.Mem.map I)):=X0d C tt34 (Q0a.shape x) rfl tt32 rfl (K0m (sh:=sh32) (by simp only[CV.shape,Y0h (f:=I) (s:=Shape.s) (fun _=>rfl),x.hMem,sh32]) rfl)
theorem Q0a.rfa_7(x:Q0a)(h:Heap): qfieldAddr C h 36 (.rptr x.cv) 7=some (.rptr (.agg (x.Mem.map I))):=by
 have hs:=Q0a.shape x
 unfold Q0a.cv at hs ⊢
 simp only[qfieldAddr,tt34,ti34,tgt,hs,if_true,List.getElem?_cons_zero,List.getElem?_cons_succ]
theorem Q0a.sub_7k(k:Nat)(q:List Nat)(z:Shape): subEq sh34 (7::k::q) z=(decide (k<4)&&subEq sh3 q z):=V05 4 k q sh3 z
theorem Q0a.sub_7(z:Shape): subEq sh34 [7] z=subEq sh32 [] z:=rfl
theorem Q0a.at_8(x:Q0a)(q:List Nat): x.cv.at (8::q)=(I x.Faults).at q:=rfl
def Q0a.upd_8(x:Q0a)(v:CV): CV:=.agg [I x.Kind,I x.Owner,I x.X,I x.Y,I x.VX,I x.VY,I x.Age,.agg (x.Mem.map I),v]
theorem Q0a.set_8(x:Q0a)(q:List Nat)(v:CV): x.cv.set (8::q) v=Q0a.upd_8 x ((I x.Faults).set q v):=rfl
theorem Q0a.fold_8(x:Q0a)(y:Int): Q0a.upd_8 x (I y)=({x with Faults:=y}:Q0a).cv:=rfl
theorem Q0a.fld_8(x:Q0a): qfield C 36 x.cv 8=some (I x.Faults):=X0d C tt34 (Q0a.shape x) rfl tt3 rfl rfl
theorem Q0a.rfa_8(x:Q0a)(h:Heap): qfieldAddr C h 36 (.rptr x.cv) 8=some (.rptr (I x.Faults)):=by
 have hs:=Q0a.shape x
 unfold Q0a.cv at hs ⊢
 simp only[qfieldAddr,tt34,ti34,tgt,hs,if_true,List.getElem?_cons_zero,List.getElem?_cons_succ]
theorem Q0a.sub_8(q:List Nat)(z:Shape): subEq sh34 (8::q) z=subEq sh3 q z:=rfl
theorem Q0a.sub_nil: subEq sh34 [] sh34=true:=by simp[subEq,Shape.sub]
theorem Q0a.alloc: allocObj C (.alloc 36)=some (.var sh34 Q0a.zero.cv):=by simp only[allocObj,tt34,ti34,Q0a.zcv]
theorem Q0a.xalloc(p:Hp): xalloc C p 36=.ret (.ptr p.n []) (p.new (.var sh34 Q0a.zero.cv)):=by simp only[Cl.xalloc,tt34,ti34,Q0a.zcv]
theorem Q0a.xbox(p:Hp)(x:Q0a): xbox C p 36 x.cv=.ret (.ptr p.n []) (p.new (.var sh34 x.cv)):=by
 have h:Cl.shOk x.cv ti34.sh=true:=Q0a.shOk x
 simp only[Cl.xbox,tt34,h,cond_true];rfl
theorem Q0a.bld_none:qbuild C 36 []=some (({Kind:=0,Owner:=0,X:=0,Y:=0,VX:=0,VY:=0,Age:=0,Mem:=(List.replicate 4 0),hMem:=List.length_replicate,Faults:=0}:Q0a).cv):=Y0f C tt34 (by simp only[partsOk,setAll,CV.shape,sh34,List.all_cons,List.all_nil,List.getElem?_cons_zero,List.getElem?_cons_succ,Bool.and_true,decide_true]) rfl
theorem Q0a.bld_0_1_2_3(a0:Int)(a1:Int)(a2:Int)(a3:Int): qbuild C 36 [(0,I a0),(1,I a1),(2,I a2),(3,I a3)]=some (({Kind:=a0,Owner:=a1,X:=a2,Y:=a3,VX:=0,VY:=0,Age:=0,Mem:=(List.replicate 4 0),hMem:=List.length_replicate,Faults:=0}:Q0a).cv):=Y0f C tt34 (by simp only[partsOk,setAll,CV.shape,sh34,List.all_cons,List.all_nil,List.getElem?_cons_zero,List.getElem?_cons_succ,Bool.and_true,decide_true]) rfl
theorem Q0a.bld_0_1_2_3_4_5(a0:Int)(a1:Int)(a2:Int)(a3:Int)(a4:Int)(a5:Int): qbuild C 36 [(0,I a0),(1,I a1),(2,I a2),(3,I a3),(4,I a4),(5,I a5)]=some (({Kind:=a0,Owner:=a1,X:=a2,Y:=a3,VX:=a4,VY:=a5,Age:=0,Mem:=(List.replicate 4 0),hMem:=List.length_replicate,Faults:=0}:Q0a).cv):=Y0f C tt34 (by simp only[partsOk,setAll,CV.shape,sh34,List.all_cons,List.all_nil,List.getElem?_cons_zero,List.getElem?_cons_succ,Bool.and_true,decide_true]) rfl
structure Y0a where
 Frame:Int
 Dice:Int
 Bodies:List Q0a
 hBodies:Bodies.length=16
 Score:List Int
 hScore:Score.length=8
def Y0a.cv(x:Y0a): CV:=.agg [I x.Frame,U x.Dice,.agg (x.Bodies.map Q0a.cv),.agg (x.Score.map I)]
@[ext] theorem Y0a.ext'{x y:Y0a}(h_Frame:x.Frame=y.Frame)(h_Dice:x.Dice=y.Dice)(h_Bodies:x.Bodies=y.Bodies)(h_Score:x.Score=y.Score): x=y:=by
 obtain⟨a0,a1,a2,ha,a3,ha⟩:=x
 obtain⟨c0,c1,c2,hc,c3,hc⟩:=y
 simp only at h_Frame h_Dice h_Bodies h_Score
 subst h_Frame h_Dice h_Bodies h_Score
 rfl
def Y0a.zero: Y0a:={Frame:=0,Dice:=0,Bodies:=(List.replicate 16 Q0a.zero),hBodies:=List.length_replicate,Score:=(List.replicate 8 0),hScore:=List.length_replicate}
instance:Inhabited Y0a:=⟨Y0a.zero⟩
theorem Y0a.zcv: z66=Y0a.zero.cv:=by
 simp only[z66,Y0a.zero,Y0a.cv,z63,Q0a.zcv,z64,List.map_replicate,Lst.cv,List.map_nil]
theorem Y0a.shape(x:Y0a): x.cv.shape=sh66:=by simp only[Y0a.cv,sh66,CV.shape,CV.shapes,Lst.shape,Y0h (f:=Q0a.cv) Q0a.shape,x.hBodies,sh63,Y0h (f:=I) (s:=Shape.s) (fun _=>rfl),x.hScore,sh64]
theorem Y0a.nohas(x:Y0a)(j:Nat): ¬x.cv.has j:=by simp[Y0a.cv,CV.has,CV.hasL,X0n Q0a.nohas,X0n I_has]
instance:DecidableEq Y0a:=fun x y=>decidable_of_iff (x.Frame=y.Frame/\x.Dice=y.Dice/\x.Bodies=y.Bodies/\x.Score=y.Score) ⟨fun h=>Y0a.ext' h.1 h.2.1 h.2.2.1 h.2.2.2,fun h=>by subst h;simp⟩
theorem Y0a.inj{x y:Y0a}(h:x.cv=y.cv): x=y:=by
 simp only[Y0a.cv,CV.agg.injEq,List.cons.injEq,and_true]at h
 obtain⟨h0,h1,h2,h3⟩:=h
 refine Y0a.ext' (I_inj _ _ h0) (U_inj _ _ h1) (Y1c Q0a.injF h2) (Y1c I_inj h3)
theorem Y0a.injF(x y:Y0a)(h:x.cv=y.cv): x=y:=Y0a.inj h
theorem Y0a.inj_iff(x y:Y0a): x.cv=y.cv ↔ x=y:=⟨Y0a.inj,fun h=>by rw[h]⟩
theorem Y0a.shOk(x:Y0a): Cl.shOk x.cv sh66=true:=K0m (Y0a.shape x) rfl
theorem Y0a.eq(d:Nat)(x y:Y0a): eqCV C (d+5) 40 x.cv y.cv=some (decide (x=y)):=by
 refine(K0x C (d:=d+4) tt66 (Y0a.shape x) (Y0a.shape y) (X0f (Q0g C tt3 (d+3) _ _) (X0f (Q0g C tt25 (d+3) _ _) (X0f (eqCV_ar C (g:=Q0a.cv) (d:=d+3) tt63 rfl Q0a.shape x.hBodies y.hBodies (fun a b=>Q0a.eq (d+0) a b)) (X0f (eqCV_ar C (g:=I) (d:=d+3) tt64 rfl (fun _=>rfl) x.hScore y.hScore (Q0g C tt3 (d+2))) rfl))))).trans (congrArg some ?_)
 rw[Bool.eq_iff_iff]
 simp only[Bool.and_eq_true,decide_eq_true_eq,and_true]
 exact⟨fun h=>Y0a.ext' h.1 h.2.1 h.2.2.1 h.2.2.2,fun h=>by subst h;simp⟩
theorem Y0a.eql(x y:Y0a)(b:Bool): qbin C .eql 40 b x.cv y.cv=some (Bo (decide (x=y))):=by
 have h:=Y0a.eq 7 x y
 unfold Y0a.cv at h ⊢
 simp only[qbin]
 rw[h];rfl
theorem Y0a.neq(x y:Y0a)(b:Bool): qbin C .neq 40 b x.cv y.cv=some (Bo (!decide (x=y))):=by
 have h:=Y0a.eq 7 x y
 unfold Y0a.cv at h ⊢
 simp only[qbin]
 rw[h];rfl
theorem Y0a.at_0(x:Y0a)(q:List Nat): x.cv.at (0::q)=(I x.Frame).at q:=rfl
def Y0a.upd_0(x:Y0a)(v:CV): CV:=.agg [v,U x.Dice,.agg (x.Bodies.map Q0a.cv),.agg (x.Score.map I)]
theorem Y0a.set_0(x:Y0a)(q:List Nat)(v:CV): x.cv.set (0::q) v=Y0a.upd_0 x ((I x.Frame).set q v):=rfl
theorem Y0a.fold_0(x:Y0a)(y:Int): Y0a.upd_0 x (I y)=({x with Frame:=y}:Y0a).cv:=rfl
theorem Y0a.fld_0(x:Y0a): qfield C 40 x.cv 0=some (I x.Frame):=X0d C tt66 (Y0a.shape x) rfl tt3 rfl rfl
theorem Y0a.sub_0(q:List Nat)(z:Shape): subEq sh66 (0::q) z=subEq sh3 q z:=rfl
theorem Y0a.at_1(x:Y0a)(q:List Nat): x.cv.at (1::q)=(U x.Dice).at q:=rfl
def Y0a.upd_1(x:Y0a)(v:CV): CV:=.agg [I x.Frame,v,.agg (x.Bodies.map Q0a.cv),.agg (x.Score.map I)]
theorem Y0a.set_1(x:Y0a)(q:List Nat)(v:CV): x.cv.set (1::q) v=Y0a.upd_1 x ((U x.Dice).set q v):=rfl
theorem Y0a.fold_1(x:Y0a)(y:Int): Y0a.upd_1 x (U y)=({x with Dice:=y}:Y0a).cv:=rfl
theorem Y0a.fld_1(x:Y0a): qfield C 40 x.cv 1=some (U x.Dice):=X0d C tt66 (Y0a.shape x) rfl tt25 rfl rfl
theorem Y0a.sub_1(q:List Nat)(z:Shape): subEq sh66 (1::q) z=subEq sh25 q z:=rfl
theorem Y0a.at_2(x:Y0a): x.cv.at [2]=some (.agg (x.Bodies.map Q0a.cv)):=rfl
theorem Y0a.at_2k(x:Y0a)(k:Nat)(q:List Nat)(h:k<16): x.cv.at (2::k::q)=(Q0a.cv (nth x.Bodies k)).at q:=by
 show(CV.agg (x.Bodies.map Q0a.cv)).at (k::q)=_
 exact arr_at _ (by rw[x.hBodies];exact h) q
def Y0a.upd_2(x:Y0a)(v:CV): CV:=.agg [I x.Frame,U x.Dice,v,.agg (x.Score.map I)]
def Y0a.upd_2k(x:Y0a)(k:Nat)(v:CV): CV:=.agg [I x.Frame,U x.Dice,.agg ((x.Bodies.map Q0a.cv).set k v),.agg (x.Score.map I)]
theorem Y0a.set_2(x:Y0a)(v:CV): x.cv.set [2] v=Y0a.upd_2 x v:=by simp[Y0a.cv,Y0a.upd_2,CV.set,Y1t]
theorem Y0a.set_2k(x:Y0a)(k:Nat)(q:List Nat)(v:CV)(h:k<16): x.cv.set (2::k::q) v=Y0a.upd_2k x k ((Q0a.cv (nth x.Bodies k)).set q v):=by
 have e:x.cv.set (2::k::q) v=Y0a.upd_2 x ((CV.agg (x.Bodies.map Q0a.cv)).set (k::q) v):=rfl
 rw[e,Z1x _ (by rw[x.hBodies];exact h)];rfl
def Y0a.put_2k(x:Y0a)(k:Nat)(y:Q0a): Y0a:={x with Bodies:=x.Bodies.set k y,hBodies:=by rw[List.length_set];exact x.hBodies}
theorem Y0a.fold_2k(x:Y0a)(k:Nat)(y:Q0a): Y0a.upd_2k x k (Q0a.cv y)=(Y0a.put_2k x k y).cv:=by simp only[Y0a.upd_2k,Y0a.put_2k,Y0a.cv,List.map_set]
theorem Y0a.fold_2(x:Y0a)(l:List Q0a)(h:l.length=16): Y0a.upd_2 x (.agg (l.map Q0a.cv))=({x with Bodies:=l,hBodies:=h}:Y0a).cv:=rfl
theorem Y0a.fld_2(x:Y0a): qfield C 40 x.cv 2=some (.agg (x.Bodies.map Q0a.cv)):=X0d C tt66 (Y0a.shape x) rfl tt63 rfl (K0m (sh:=sh63) (by simp only[CV.shape,Y0h (f:=Q0a.cv) Q0a.shape,x.hBodies,sh63]) rfl)
theorem Y0a.sub_2k(k:Nat)(q:List Nat)(z:Shape): subEq sh66 (2::k::q) z=(decide (k<16)&&subEq sh34 q z):=V05 16 k q sh34 z
theorem Y0a.sub_2(z:Shape): subEq sh66 [2] z=subEq sh63 [] z:=rfl
theorem Y0a.at_3(x:Y0a): x.cv.at [3]=some (.agg (x.Score.map I)):=rfl
theorem Y0a.at_3k(x:Y0a)(k:Nat)(q:List Nat)(h:k<8): x.cv.at (3::k::q)=(I (nth x.Score k)).at q:=by
 show(CV.agg (x.Score.map I)).at (k::q)=_
 exact arr_at _ (by rw[x.hScore];exact h) q
def Y0a.upd_3(x:Y0a)(v:CV): CV:=.agg [I x.Frame,U x.Dice,.agg (x.Bodies.map Q0a.cv),v]
def Y0a.upd_3k(x:Y0a)(k:Nat)(v:CV): CV:=.agg [I x.Frame,U x.Dice,.agg (x.Bodies.map Q0a.cv),.agg ((x.Score.map I).set k v)]
theorem Y0a.set_3(x:Y0a)(v:CV): x.cv.set [3] v=Y0a.upd_3 x v:=by simp[Y0a.cv,Y0a.upd_3,CV.set,Y1t]
theorem Y0a.set_3k(x:Y0a)(k:Nat)(q:List Nat)(v:CV)(h:k<8): x.cv.set (3::k::q) v=Y0a.upd_3k x k ((I (nth x.Score k)).set q v):=by
 have e:x.cv.set (3::k::q) v=Y0a.upd_3 x ((CV.agg (x.Score.map I)).set (k::q) v):=rfl
 rw[e,Z1x _ (by rw[x.hScore];exact h)];rfl
def Y0a.put_3k(x:Y0a)(k:Nat)(y:Int): Y0a:={x with Score:=x.Score.set k y,hScore:=by rw[List.length_set];exact x.hScore}
theorem Y0a.fold_3k(x:Y0a)(k:Nat)(y:Int): Y0a.upd_3k x k (I y)=(Y0a.put_3k x k y).cv:=by simp only[Y0a.upd_3k,Y0a.put_3k,Y0a.cv,List.map_set]
theorem Y0a.fold_3(x:Y0a)(l:List Int)(h:l.length=8): Y0a.upd_3 x (.agg (l.map I))=({x with Score:=l,hScore:=h}:Y0a).cv:=rfl
theorem Y0a.fld_3(x:Y0a): qfield C 40 x.cv 3=some (.agg (x.Score.map I)):=X0d C tt66 (Y0a.shape x) rfl tt64 rfl (K0m (sh:=sh64) (by simp only[CV.shape,Y0h (f:=I) (s:=Shape.s) (fun _=>rfl),x.hScore,sh64]) rfl)
theorem Y0a.sub_3k(k:Nat)(q:List Nat)(z:Shape): subEq sh66 (3::k::q) z=(decide (k<8)&&subEq sh3 q z):=V05 8 k q sh3 z
theorem Y0a.sub_3(z:Shape): subEq sh66 [3] z=subEq sh64 [] z:=rfl
theorem Y0a.sub_nil: subEq sh66 [] sh66=true:=by simp[subEq,Shape.sub]
theorem Y0a.alloc: allocObj C (.alloc 40)=some (.var sh66 Y0a.zero.cv):=by simp only[allocObj,tt66,ti66,Y0a.zcv]
theorem Y0a.xalloc(p:Hp): xalloc C p 40=.ret (.ptr p.n []) (p.new (.var sh66 Y0a.zero.cv)):=by simp only[Cl.xalloc,tt66,ti66,Y0a.zcv]
theorem Y0a.xbox(p:Hp)(x:Y0a): xbox C p 40 x.cv=.ret (.ptr p.n []) (p.new (.var sh66 x.cv)):=by
 have h:Cl.shOk x.cv ti66.sh=true:=Y0a.shOk x
 simp only[Cl.xbox,tt66,h,cond_true];rfl
theorem Y0a.bld_none:qbuild C 40 []=some (({Frame:=0,Dice:=0,Bodies:=(List.replicate 16 Q0a.zero),hBodies:=List.length_replicate,Score:=(List.replicate 8 0),hScore:=List.length_replicate}:Y0a).cv):=Y0f C tt66 (by simp only[partsOk,setAll,CV.shape,sh66,List.all_cons,List.all_nil,List.getElem?_cons_zero,List.getElem?_cons_succ,Bool.and_true,decide_true]) rfl
theorem Y0a.bld_1(a1:Int): qbuild C 40 [(1,U a1)]=some (({Frame:=0,Dice:=a1,Bodies:=(List.replicate 16 Q0a.zero),hBodies:=List.length_replicate,Score:=(List.replicate 8 0),hScore:=List.length_replicate}:Y0a).cv):=Y0f C tt66 (by simp only[partsOk,setAll,CV.shape,sh66,List.all_cons,List.all_nil,List.getElem?_cons_zero,List.getElem?_cons_succ,Bool.and_true,decide_true]) rfl
structure K0b where
 Buttons:Int
 X:Int
 Y:Int
def K0b.cv(x:K0b): CV:=.agg [I x.Buttons,I x.X,I x.Y]
@[ext] theorem K0b.ext'{x y:K0b}(h_Buttons:x.Buttons=y.Buttons)(h_X:x.X=y.X)(h_Y:x.Y=y.Y): x=y:=by
 obtain⟨a0,a1,a2⟩:=x
 obtain⟨c0,c1,c2⟩:=y
 simp only at h_Buttons h_X h_Y
 subst h_Buttons h_X h_Y
 rfl
def K0b.zero: K0b:={Buttons:=0,X:=0,Y:=0}
instance:Inhabited K0b:=⟨K0b.zero⟩
theorem K0b.zcv: z36=K0b.zero.cv:=by
 simp only[z36,K0b.zero,K0b.cv,List.map_replicate,Lst.cv,List.map_nil]
theorem K0b.shape(x:K0b): x.cv.shape=sh36:=by simp only[K0b.cv,sh36,CV.shape,CV.shapes,Lst.shape]
theorem K0b.nohas(x:K0b)(j:Nat): ¬x.cv.has j:=by simp[K0b.cv,CV.has,CV.hasL]
instance:DecidableEq K0b:=fun x y=>decidable_of_iff (x.Buttons=y.Buttons/\x.X=y.X/\x.Y=y.Y) ⟨fun h=>K0b.ext' h.1 h.2.1 h.2.2,fun h=>by subst h;simp⟩
theorem K0b.inj{x y:K0b}(h:x.cv=y.cv): x=y:=by
 simp only[K0b.cv,CV.agg.injEq,List.cons.injEq,and_true]at h
 obtain⟨h0,h1,h2⟩:=h
 refine K0b.ext' (I_inj _ _ h0) (I_inj _ _ h1) (I_inj _ _ h2)
theorem K0b.injF(x y:K0b)(h:x.cv=y.cv): x=y:=K0b.inj h
theorem K0b.inj_iff(x y:K0b): x.cv=y.cv ↔ x=y:=⟨K0b.inj,fun h=>by rw[h]⟩
theorem K0b.shOk(x:K0b): Cl.shOk x.cv sh36=true:=K0m (K0b.shape x) rfl
theorem K0b.eq(d:Nat)(x y:K0b): eqCV C (d+2) 62 x.cv y.cv=some (decide (x=y)):=by
 refine(K0x C (d:=d+1) tt36 (K0b.shape x) (K0b.shape y) (X0f (Q0g C tt3 (d+0) _ _) (X0f (Q0g C tt3 (d+0) _ _) (X0f (Q0g C tt3 (d+0) _ _) rfl)))).trans (congrArg some ?_)
 rw[Bool.eq_iff_iff]
 simp only[Bool.and_eq_true,decide_eq_true_eq,and_true]
 exact⟨fun h=>K0b.ext' h.1 h.2.1 h.2.2,fun h=>by subst h;simp⟩
theorem K0b.eql(x y:K0b)(b:Bool): qbin C .eql 62 b x.cv y.cv=some (Bo (decide (x=y))):=by
 have h:=K0b.eq 10 x y
 unfold K0b.cv at h ⊢
 simp only[qbin]
 rw[h];rfl
theorem K0b.neq(x y:K0b)(b:Bool): qbin C .neq 62 b x.cv y.cv=some (Bo (!decide (x=y))):=by
 have h:=K0b.eq 10 x y
 unfold K0b.cv at h ⊢
 simp only[qbin]
 rw[h];rfl
theorem K0b.at_0(x:K0b)(q:List Nat): x.cv.at (0::q)=(I x.Buttons).at q:=rfl
def K0b.upd_0(x:K0b)(v:CV): CV:=.agg [v,I x.X,I x.Y]
theorem K0b.set_0(x:K0b)(q:List Nat)(v:CV): x.cv.set (0::q) v=K0b.upd_0 x ((I x.Buttons).set q v):=rfl
theorem K0b.fold_0(x:K0b)(y:Int): K0b.upd_0 x (I y)=({x with Buttons:=y}:K0b).cv:=rfl
theorem K0b.fld_0(x:K0b): qfield C 62 x.cv 0=some (I x.Buttons):=X0d C tt36 (K0b.shape x) rfl tt3 rfl rfl
theorem K0b.rfa_0(x:K0b)(h:Heap): qfieldAddr C h 62 (.rptr x.cv) 0=some (.rptr (I x.Buttons)):=by
 have hs:=K0b.shape x
 unfold K0b.cv at hs ⊢
 simp only[qfieldAddr,tt36,ti36,tgt,hs,if_true,List.getElem?_cons_zero,List.getElem?_cons_succ]
theorem K0b.sub_0(q:List Nat)(z:Shape): subEq sh36 (0::q) z=subEq sh3 q z:=rfl
theorem K0b.at_1(x:K0b)(q:List Nat): x.cv.at (1::q)=(I x.X).at q:=rfl
def K0b.upd_1(x:K0b)(v:CV): CV:=.agg [I x.Buttons,v,I x.Y]
theorem K0b.set_1(x:K0b)(q:List Nat)(v:CV): x.cv.set (1::q) v=K0b.upd_1 x ((I x.X).set q v):=rfl
theorem K0b.fold_1(x:K0b)(y:Int): K0b.upd_1 x (I y)=({x with X:=y}:K0b).cv:=rfl
theorem K0b.fld_1(x:K0b): qfield C 62 x.cv 1=some (I x.X):=X0d C tt36 (K0b.shape x) rfl tt3 rfl rfl
theorem K0b.rfa_1(x:K0b)(h:Heap): qfieldAddr C h 62 (.rptr x.cv) 1=some (.rptr (I x.X)):=by
 have hs:=K0b.shape x
 unfold K0b.cv at hs ⊢
 simp only[qfieldAddr,tt36,ti36,tgt,hs,if_true,List.getElem?_cons_zero,List.getElem?_cons_succ]
theorem K0b.sub_1(q:List Nat)(z:Shape): subEq sh36 (1::q) z=subEq sh3 q z:=rfl
theorem K0b.at_2(x:K0b)(q:List Nat): x.cv.at (2::q)=(I x.Y).at q:=rfl
def K0b.upd_2(x:K0b)(v:CV): CV:=.agg [I x.Buttons,I x.X,v]
theorem K0b.set_2(x:K0b)(q:List Nat)(v:CV): x.cv.set (2::q) v=K0b.upd_2 x ((I x.Y).set q v):=rfl
theorem K0b.fold_2(x:K0b)(y:Int): K0b.upd_2 x (I y)=({x with Y:=y}:K0b).cv:=rfl
theorem K0b.fld_2(x:K0b): qfield C 62 x.cv 2=some (I x.Y):=X0d C tt36 (K0b.shape x) rfl tt3 rfl rfl
theorem K0b.rfa_2(x:K0b)(h:Heap): qfieldAddr C h 62 (.rptr x.cv) 2=some (.rptr (I x.Y)):=by
 have hs:=K0b.shape x
 unfold K0b.cv at hs ⊢
 simp only[qfieldAddr,tt36,ti36,tgt,hs,if_true,List.getElem?_cons_zero,List.getElem?_cons_succ]
theorem K0b.sub_2(q:List Nat)(z:Shape): subEq sh36 (2::q) z=subEq sh3 q z:=rfl
theorem K0b.sub_nil: subEq sh36 [] sh36=true:=by simp[subEq,Shape.sub]
theorem K0b.alloc: allocObj C (.alloc 62)=some (.var sh36 K0b.zero.cv):=by simp only[allocObj,tt36,ti36,K0b.zcv]
theorem K0b.xalloc(p:Hp): xalloc C p 62=.ret (.ptr p.n []) (p.new (.var sh36 K0b.zero.cv)):=by simp only[Cl.xalloc,tt36,ti36,K0b.zcv]
theorem K0b.xbox(p:Hp)(x:K0b): xbox C p 62 x.cv=.ret (.ptr p.n []) (p.new (.var sh36 x.cv)):=by
 have h:Cl.shOk x.cv ti36.sh=true:=K0b.shOk x
 simp only[Cl.xbox,tt36,h,cond_true];rfl
theorem K0b.bld_none:qbuild C 62 []=some (({Buttons:=0,X:=0,Y:=0}:K0b).cv):=Y0f C tt36 (by simp only[partsOk,setAll,CV.shape,sh36,List.all_cons,List.all_nil,List.getElem?_cons_zero,List.getElem?_cons_succ,Bool.and_true,decide_true]) rfl
theorem K0b.bld_0_1_2(a0:Int)(a1:Int)(a2:Int): qbuild C 62 [(0,I a0),(1,I a1),(2,I a2)]=some (({Buttons:=a0,X:=a1,Y:=a2}:K0b).cv):=Y0f C tt36 (by simp only[partsOk,setAll,CV.shape,sh36,List.all_cons,List.all_nil,List.getElem?_cons_zero,List.getElem?_cons_succ,Bool.and_true,decide_true]) rfl
structure Q0b where
 Real:Bool
 In:K0b
def Q0b.cv(x:Q0b): CV:=.agg [Bo x.Real,K0b.cv x.In]
@[ext] theorem Q0b.ext'{x y:Q0b}(h_Real:x.Real=y.Real)(h_In:x.In=y.In): x=y:=by
 obtain⟨a0,a1⟩:=x
 obtain⟨c0,c1⟩:=y
 simp only at h_Real h_In
 subst h_Real h_In
 rfl
def Q0b.zero: Q0b:={Real:=false,In:=K0b.zero}
instance:Inhabited Q0b:=⟨Q0b.zero⟩
theorem Q0b.zcv: z110=Q0b.zero.cv:=by
 simp only[z110,Q0b.zero,Q0b.cv,K0b.zcv,List.map_replicate,Lst.cv,List.map_nil]
theorem Q0b.shape(x:Q0b): x.cv.shape=sh110:=by simp only[Q0b.cv,sh110,CV.shape,CV.shapes,K0b.shape,Lst.shape]
theorem Q0b.nohas(x:Q0b)(j:Nat): ¬x.cv.has j:=by simp[Q0b.cv,CV.has,CV.hasL,K0b.nohas]
instance:DecidableEq Q0b:=fun x y=>decidable_of_iff (x.Real=y.Real/\x.In=y.In) ⟨fun h=>Q0b.ext' h.1 h.2,fun h=>by subst h;simp⟩
theorem Q0b.inj{x y:Q0b}(h:x.cv=y.cv): x=y:=by
 simp only[Q0b.cv,CV.agg.injEq,List.cons.injEq,and_true]at h
 obtain⟨h0,h1⟩:=h
 refine Q0b.ext' (Bo_inj _ _ h0) (K0b.injF _ _ h1)
theorem Q0b.injF(x y:Q0b)(h:x.cv=y.cv): x=y:=Q0b.inj h
theorem Q0b.inj_iff(x y:Q0b): x.cv=y.cv ↔ x=y:=⟨Q0b.inj,fun h=>by rw[h]⟩
theorem Q0b.shOk(x:Q0b): Cl.shOk x.cv sh110=true:=K0m (Q0b.shape x) rfl
theorem Q0b.eq(d:Nat)(x y:Q0b): eqCV C (d+3) 64 x.cv y.cv=some (decide (x=y)):=by
 refine(K0x C (d:=d+2) tt110 (Q0b.shape x) (Q0b.shape y) (X0f (eqCV_bool C tt4 (d+1) _ _) (X0f (K0b.eq (d+0) _ _) rfl))).trans (congrArg some ?_)
 rw[Bool.eq_iff_iff]
 simp only[Bool.and_eq_true,decide_eq_true_eq,and_true]
 exact⟨fun h=>Q0b.ext' h.1 h.2,fun h=>by subst h;simp⟩
theorem Q0b.eql(x y:Q0b)(b:Bool): qbin C .eql 64 b x.cv y.cv=some (Bo (decide (x=y))):=by
 have h:=Q0b.eq 9 x y
 unfold Q0b.cv at h ⊢
 simp only[qbin]
 rw[h];rfl
theorem Q0b.neq(x y:Q0b)(b:Bool): qbin C .neq 64 b x.cv y.cv=some (Bo (!decide (x=y))):=by
 have h:=Q0b.eq 9 x y
 unfold Q0b.cv at h ⊢
 simp only[qbin]
 rw[h];rfl
theorem Q0b.at_0(x:Q0b)(q:List Nat): x.cv.at (0::q)=(Bo x.Real).at q:=rfl
def Q0b.upd_0(x:Q0b)(v:CV): CV:=.agg [v,K0b.cv x.In]
theorem Q0b.set_0(x:Q0b)(q:List Nat)(v:CV): x.cv.set (0::q) v=Q0b.upd_0 x ((Bo x.Real).set q v):=rfl
theorem Q0b.fold_0(x:Q0b)(y:Bool): Q0b.upd_0 x (Bo y)=({x with Real:=y}:Q0b).cv:=rfl
theorem Q0b.fld_0(x:Q0b): qfield C 64 x.cv 0=some (Bo x.Real):=X0d C tt110 (Q0b.shape x) rfl tt4 rfl rfl
theorem Q0b.rfa_0(x:Q0b)(h:Heap): qfieldAddr C h 64 (.rptr x.cv) 0=some (.rptr (Bo x.Real)):=by
 have hs:=Q0b.shape x
 unfold Q0b.cv at hs ⊢
 simp only[qfieldAddr,tt110,ti110,tgt,hs,if_true,List.getElem?_cons_zero,List.getElem?_cons_succ]
theorem Q0b.sub_0(q:List Nat)(z:Shape): subEq sh110 (0::q) z=subEq sh4 q z:=rfl
theorem Q0b.at_1(x:Q0b)(q:List Nat): x.cv.at (1::q)=(K0b.cv x.In).at q:=rfl
def Q0b.upd_1(x:Q0b)(v:CV): CV:=.agg [Bo x.Real,v]
theorem Q0b.set_1(x:Q0b)(q:List Nat)(v:CV): x.cv.set (1::q) v=Q0b.upd_1 x ((K0b.cv x.In).set q v):=rfl
theorem Q0b.fold_1(x:Q0b)(y:K0b): Q0b.upd_1 x (K0b.cv y)=({x with In:=y}:Q0b).cv:=rfl
theorem Q0b.fld_1(x:Q0b): qfield C 64 x.cv 1=some (K0b.cv x.In):=X0d C tt110 (Q0b.shape x) rfl tt36 rfl (K0b.shOk _)
theorem Q0b.rfa_1(x:Q0b)(h:Heap): qfieldAddr C h 64 (.rptr x.cv) 1=some (.rptr (K0b.cv x.In)):=by
 have hs:=Q0b.shape x
 unfold Q0b.cv at hs ⊢
 simp only[qfieldAddr,tt110,ti110,tgt,hs,if_true,List.getElem?_cons_zero,List.getElem?_cons_succ]
theorem Q0b.sub_1(q:List Nat)(z:Shape): subEq sh110 (1::q) z=subEq sh36 q z:=rfl
theorem Q0b.sub_nil: subEq sh110 [] sh110=true:=by simp[subEq,Shape.sub]
theorem Q0b.alloc: allocObj C (.alloc 64)=some (.var sh110 Q0b.zero.cv):=by simp only[allocObj,tt110,ti110,Q0b.zcv]
theorem Q0b.xalloc(p:Hp): xalloc C p 64=.ret (.ptr p.n []) (p.new (.var sh110 Q0b.zero.cv)):=by simp only[Cl.xalloc,tt110,ti110,Q0b.zcv]
theorem Q0b.xbox(p:Hp)(x:Q0b): xbox C p 64 x.cv=.ret (.ptr p.n []) (p.new (.var sh110 x.cv)):=by
 have h:Cl.shOk x.cv ti110.sh=true:=Q0b.shOk x
 simp only[Cl.xbox,tt110,h,cond_true];rfl
theorem Q0b.bld_0_1(a0:Bool)(a1:K0b): qbuild C 64 [(0,Bo a0),(1,K0b.cv a1)]=some (({Real:=a0,In:=a1}:Q0b).cv):=Y0f C tt110 (by simp only[partsOk,setAll,CV.shape,K0b.shape,sh110,List.all_cons,List.all_nil,List.getElem?_cons_zero,List.getElem?_cons_succ,Bool.and_true,decide_true]) rfl
structure X0b where
 c_:K0a
 s_:Y0a
 row:Lst Q0b
 shots:Lst Q0a
def X0b.cv(x:X0b): CV:=.agg [K0a.cv x.c_,Y0a.cv x.s_,(Lst.cv Q0b.cv) x.row,(Lst.cv Q0a.cv) x.shots]
@[ext] theorem X0b.ext'{x y:X0b}(h_c_:x.c_=y.c_)(h_s_:x.s_=y.s_)(h_row:x.row=y.row)(h_shots:x.shots=y.shots): x=y:=by
 obtain⟨a0,a1,a2,a3⟩:=x
 obtain⟨c0,c1,c2,c3⟩:=y
 simp only at h_c_ h_s_ h_row h_shots
 subst h_c_ h_s_ h_row h_shots
 rfl
def X0b.zero: X0b:={c_:=K0a.zero,s_:=Y0a.zero,row:=⟨.nil,[],fun _=>rfl⟩,shots:=⟨.nil,[],fun _=>rfl⟩}
instance:Inhabited X0b:=⟨X0b.zero⟩
theorem X0b.zcv: z186=X0b.zero.cv:=by
 simp only[z186,X0b.zero,X0b.cv,K0a.zcv,Y0a.zcv,List.map_replicate,Lst.cv,List.map_nil]
theorem X0b.shape(x:X0b): x.cv.shape=sh186:=by simp only[X0b.cv,sh186,CV.shape,CV.shapes,K0a.shape,Y0a.shape,Lst.shape]
theorem X0b.has(x:X0b)(j:Nat): x.cv.has j ↔ x.c_.cv.has j\/x.row.tl=.own j\/x.shots.tl=.own j:=by simp[X0b.cv,CV.has,CV.hasL,Y0a.nohas,Lst.has _ Q0b.nohas,Lst.has _ Q0a.nohas]
theorem X0b.inj{x y:X0b}(h:x.cv=y.cv): x=y:=by
 simp only[X0b.cv,CV.agg.injEq,List.cons.injEq,and_true]at h
 obtain⟨h0,h1,h2,h3⟩:=h
 refine X0b.ext' (K0a.injF _ _ h0) (Y0a.injF _ _ h1) ((Lst.injF Q0b.injF) _ _ h2) ((Lst.injF Q0a.injF) _ _ h3)
theorem X0b.injF(x y:X0b)(h:x.cv=y.cv): x=y:=X0b.inj h
theorem X0b.inj_iff(x y:X0b): x.cv=y.cv ↔ x=y:=⟨X0b.inj,fun h=>by rw[h]⟩
theorem X0b.shOk(x:X0b): Cl.shOk x.cv sh186=true:=K0m (X0b.shape x) rfl
theorem X0b.at_0(x:X0b)(q:List Nat): x.cv.at (0::q)=(K0a.cv x.c_).at q:=rfl
def X0b.upd_0(x:X0b)(v:CV): CV:=.agg [v,Y0a.cv x.s_,(Lst.cv Q0b.cv) x.row,(Lst.cv Q0a.cv) x.shots]
theorem X0b.set_0(x:X0b)(q:List Nat)(v:CV): x.cv.set (0::q) v=X0b.upd_0 x ((K0a.cv x.c_).set q v):=rfl
theorem X0b.fold_0(x:X0b)(y:K0a): X0b.upd_0 x (K0a.cv y)=({x with c_:=y}:X0b).cv:=rfl
theorem X0b.fld_0(x:X0b): qfield C 80 x.cv 0=some (K0a.cv x.c_):=X0d C tt186 (X0b.shape x) rfl tt61 rfl (K0a.shOk _)
theorem X0b.sub_0(q:List Nat)(z:Shape): subEq sh186 (0::q) z=subEq sh61 q z:=rfl
theorem X0b.at_1(x:X0b)(q:List Nat): x.cv.at (1::q)=(Y0a.cv x.s_).at q:=rfl
def X0b.upd_1(x:X0b)(v:CV): CV:=.agg [K0a.cv x.c_,v,(Lst.cv Q0b.cv) x.row,(Lst.cv Q0a.cv) x.shots]
theorem X0b.set_1(x:X0b)(q:List Nat)(v:CV): x.cv.set (1::q) v=X0b.upd_1 x ((Y0a.cv x.s_).set q v):=rfl
theorem X0b.fold_1(x:X0b)(y:Y0a): X0b.upd_1 x (Y0a.cv y)=({x with s_:=y}:X0b).cv:=rfl
theorem X0b.fld_1(x:X0b): qfield C 80 x.cv 1=some (Y0a.cv x.s_):=X0d C tt186 (X0b.shape x) rfl tt66 rfl (Y0a.shOk _)
theorem X0b.sub_1(q:List Nat)(z:Shape): subEq sh186 (1::q) z=subEq sh66 q z:=rfl
theorem X0b.at_2(x:X0b)(q:List Nat): x.cv.at (2::q)=((Lst.cv Q0b.cv) x.row).at q:=rfl
def X0b.upd_2(x:X0b)(v:CV): CV:=.agg [K0a.cv x.c_,Y0a.cv x.s_,v,(Lst.cv Q0a.cv) x.shots]
theorem X0b.set_2(x:X0b)(q:List Nat)(v:CV): x.cv.set (2::q) v=X0b.upd_2 x (((Lst.cv Q0b.cv) x.row).set q v):=rfl
theorem X0b.fold_2(x:X0b)(y:Lst Q0b): X0b.upd_2 x ((Lst.cv Q0b.cv) y)=({x with row:=y}:X0b).cv:=rfl
theorem X0b.fld_2(x:X0b): qfield C 80 x.cv 2=some ((Lst.cv Q0b.cv) x.row):=X0d C tt186 (X0b.shape x) rfl tt108 rfl rfl
theorem X0b.sub_2(q:List Nat)(z:Shape): subEq sh186 (2::q) z=subEq sh108 q z:=rfl
theorem X0b.at_3(x:X0b)(q:List Nat): x.cv.at (3::q)=((Lst.cv Q0a.cv) x.shots).at q:=rfl
def X0b.upd_3(x:X0b)(v:CV): CV:=.agg [K0a.cv x.c_,Y0a.cv x.s_,(Lst.cv Q0b.cv) x.row,v]
theorem X0b.set_3(x:X0b)(q:List Nat)(v:CV): x.cv.set (3::q) v=X0b.upd_3 x (((Lst.cv Q0a.cv) x.shots).set q v):=rfl
theorem X0b.fold_3(x:X0b)(y:Lst Q0a): X0b.upd_3 x ((Lst.cv Q0a.cv) y)=({x with shots:=y}:X0b).cv:=rfl
theorem X0b.fld_3(x:X0b): qfield C 80 x.cv 3=some ((Lst.cv Q0a.cv) x.shots):=X0d C tt186 (X0b.shape x) rfl tt37 rfl rfl
theorem X0b.sub_3(q:List Nat)(z:Shape): subEq sh186 (3::q) z=subEq sh37 q z:=rfl
theorem X0b.sub_nil: subEq sh186 [] sh186=true:=by simp[subEq,Shape.sub]
theorem X0b.alloc: allocObj C (.alloc 80)=some (.var sh186 X0b.zero.cv):=by simp only[allocObj,tt186,ti186,X0b.zcv]
theorem X0b.xalloc(p:Hp): xalloc C p 80=.ret (.ptr p.n []) (p.new (.var sh186 X0b.zero.cv)):=by simp only[Cl.xalloc,tt186,ti186,X0b.zcv]
theorem X0b.xbox(p:Hp)(x:X0b): xbox C p 80 x.cv=.ret (.ptr p.n []) (p.new (.var sh186 x.cv)):=by
 have h:Cl.shOk x.cv ti186.sh=true:=X0b.shOk x
 simp only[Cl.xbox,tt186,h,cond_true];rfl
theorem X0b.bld_0_1_2(a0:K0a)(a1:Y0a)(a2:Lst Q0b): qbuild C 80 [(0,K0a.cv a0),(1,Y0a.cv a1),(2,(Lst.cv Q0b.cv) a2)]=some (({c_:=a0,s_:=a1,row:=a2,shots:=⟨.nil,[],fun _=>rfl⟩}:X0b).cv):=Y0f C tt186 (by simp only[partsOk,setAll,CV.shape,K0a.shape,Y0a.shape,Lst.shape,sh186,List.all_cons,List.all_nil,List.getElem?_cons_zero,List.getElem?_cons_succ,Bool.and_true,decide_true]) rfl
structure V0c where
 Body:Q0a
 In:K0b
 Dice:Int
 Room:Int
 Shots:Lst Q0a
def V0c.cv(x:V0c): CV:=.agg [Q0a.cv x.Body,K0b.cv x.In,U x.Dice,I x.Room,(Lst.cv Q0a.cv) x.Shots]
@[ext] theorem V0c.ext'{x y:V0c}(h_Body:x.Body=y.Body)(h_In:x.In=y.In)(h_Dice:x.Dice=y.Dice)(h_Room:x.Room=y.Room)(h_Shots:x.Shots=y.Shots): x=y:=by
 obtain⟨a0,a1,a2,a3,a4⟩:=x
 obtain⟨c0,c1,c2,c3,c4⟩:=y
 simp only at h_Body h_In h_Dice h_Room h_Shots
 subst h_Body h_In h_Dice h_Room h_Shots
 rfl
def V0c.zero: V0c:={Body:=Q0a.zero,In:=K0b.zero,Dice:=0,Room:=0,Shots:=⟨.nil,[],fun _=>rfl⟩}
instance:Inhabited V0c:=⟨V0c.zero⟩
theorem V0c.zcv: z51=V0c.zero.cv:=by
 simp only[z51,V0c.zero,V0c.cv,Q0a.zcv,K0b.zcv,List.map_replicate,Lst.cv,List.map_nil]
theorem V0c.shape(x:V0c): x.cv.shape=sh51:=by simp only[V0c.cv,sh51,CV.shape,CV.shapes,Q0a.shape,K0b.shape,Lst.shape]
theorem V0c.has(x:V0c)(j:Nat): x.cv.has j ↔ x.Shots.tl=.own j:=by simp[V0c.cv,CV.has,CV.hasL,Q0a.nohas,K0b.nohas,Lst.has _ Q0a.nohas]
theorem V0c.inj{x y:V0c}(h:x.cv=y.cv): x=y:=by
 simp only[V0c.cv,CV.agg.injEq,List.cons.injEq,and_true]at h
 obtain⟨h0,h1,h2,h3,h4⟩:=h
 refine V0c.ext' (Q0a.injF _ _ h0) (K0b.injF _ _ h1) (U_inj _ _ h2) (I_inj _ _ h3) ((Lst.injF Q0a.injF) _ _ h4)
theorem V0c.injF(x y:V0c)(h:x.cv=y.cv): x=y:=V0c.inj h
theorem V0c.inj_iff(x y:V0c): x.cv=y.cv ↔ x=y:=⟨V0c.inj,fun h=>by rw[h]⟩
theorem V0c.shOk(x:V0c): Cl.shOk x.cv sh51=true:=K0m (V0c.shape x) rfl
theorem V0c.at_0(x:V0c)(q:List Nat): x.cv.at (0::q)=(Q0a.cv x.Body).at q:=rfl
def V0c.upd_0(x:V0c)(v:CV): CV:=.agg [v,K0b.cv x.In,U x.Dice,I x.Room,(Lst.cv Q0a.cv) x.Shots]
theorem V0c.set_0(x:V0c)(q:List Nat)(v:CV): x.cv.set (0::q) v=V0c.upd_0 x ((Q0a.cv x.Body).set q v):=rfl
theorem V0c.fold_0(x:V0c)(y:Q0a): V0c.upd_0 x (Q0a.cv y)=({x with Body:=y}:V0c).cv:=rfl
theorem V0c.fld_0(x:V0c): qfield C 83 x.cv 0=some (Q0a.cv x.Body):=X0d C tt51 (V0c.shape x) rfl tt34 rfl (Q0a.shOk _)
theorem V0c.sub_0(q:List Nat)(z:Shape): subEq sh51 (0::q) z=subEq sh34 q z:=rfl
theorem V0c.at_1(x:V0c)(q:List Nat): x.cv.at (1::q)=(K0b.cv x.In).at q:=rfl
def V0c.upd_1(x:V0c)(v:CV): CV:=.agg [Q0a.cv x.Body,v,U x.Dice,I x.Room,(Lst.cv Q0a.cv) x.Shots]
theorem V0c.set_1(x:V0c)(q:List Nat)(v:CV): x.cv.set (1::q) v=V0c.upd_1 x ((K0b.cv x.In).set q v):=rfl
theorem V0c.fold_1(x:V0c)(y:K0b): V0c.upd_1 x (K0b.cv y)=({x with In:=y}:V0c).cv:=rfl
theorem V0c.fld_1(x:V0c): qfield C 83 x.cv 1=some (K0b.cv x.In):=X0d C tt51 (V0c.shape x) rfl tt36 rfl (K0b.shOk _)
theorem V0c.sub_1(q:List Nat)(z:Shape): subEq sh51 (1::q) z=subEq sh36 q z:=rfl
theorem V0c.at_2(x:V0c)(q:List Nat): x.cv.at (2::q)=(U x.Dice).at q:=rfl
def V0c.upd_2(x:V0c)(v:CV): CV:=.agg [Q0a.cv x.Body,K0b.cv x.In,v,I x.Room,(Lst.cv Q0a.cv) x.Shots]
theorem V0c.set_2(x:V0c)(q:List Nat)(v:CV): x.cv.set (2::q) v=V0c.upd_2 x ((U x.Dice).set q v):=rfl
theorem V0c.fold_2(x:V0c)(y:Int): V0c.upd_2 x (U y)=({x with Dice:=y}:V0c).cv:=rfl
theorem V0c.fld_2(x:V0c): qfield C 83 x.cv 2=some (U x.Dice):=X0d C tt51 (V0c.shape x) rfl tt25 rfl rfl
theorem V0c.sub_2(q:List Nat)(z:Shape): subEq sh51 (2::q) z=subEq sh25 q z:=rfl
theorem V0c.at_3(x:V0c)(q:List Nat): x.cv.at (3::q)=(I x.Room).at q:=rfl
def V0c.upd_3(x:V0c)(v:CV): CV:=.agg [Q0a.cv x.Body,K0b.cv x.In,U x.Dice,v,(Lst.cv Q0a.cv) x.Shots]
theorem V0c.set_3(x:V0c)(q:List Nat)(v:CV): x.cv.set (3::q) v=V0c.upd_3 x ((I x.Room).set q v):=rfl
theorem V0c.fold_3(x:V0c)(y:Int): V0c.upd_3 x (I y)=({x with Room:=y}:V0c).cv:=rfl
theorem V0c.fld_3(x:V0c): qfield C 83 x.cv 3=some (I x.Room):=X0d C tt51 (V0c.shape x) rfl tt3 rfl rfl
theorem V0c.sub_3(q:List Nat)(z:Shape): subEq sh51 (3::q) z=subEq sh3 q z:=rfl
theorem V0c.at_4(x:V0c)(q:List Nat): x.cv.at (4::q)=((Lst.cv Q0a.cv) x.Shots).at q:=rfl
def V0c.upd_4(x:V0c)(v:CV): CV:=.agg [Q0a.cv x.Body,K0b.cv x.In,U x.Dice,I x.Room,v]
theorem V0c.set_4(x:V0c)(q:List Nat)(v:CV): x.cv.set (4::q) v=V0c.upd_4 x (((Lst.cv Q0a.cv) x.Shots).set q v):=rfl
theorem V0c.fold_4(x:V0c)(y:Lst Q0a): V0c.upd_4 x ((Lst.cv Q0a.cv) y)=({x with Shots:=y}:V0c).cv:=rfl
theorem V0c.fld_4(x:V0c): qfield C 83 x.cv 4=some ((Lst.cv Q0a.cv) x.Shots):=X0d C tt51 (V0c.shape x) rfl tt37 rfl rfl
theorem V0c.sub_4(q:List Nat)(z:Shape): subEq sh51 (4::q) z=subEq sh37 q z:=rfl
theorem V0c.sub_nil: subEq sh51 [] sh51=true:=by simp[subEq,Shape.sub]
theorem V0c.alloc: allocObj C (.alloc 83)=some (.var sh51 V0c.zero.cv):=by simp only[allocObj,tt51,ti51,V0c.zcv]
theorem V0c.xalloc(p:Hp): xalloc C p 83=.ret (.ptr p.n []) (p.new (.var sh51 V0c.zero.cv)):=by simp only[Cl.xalloc,tt51,ti51,V0c.zcv]
theorem V0c.xbox(p:Hp)(x:V0c): xbox C p 83 x.cv=.ret (.ptr p.n []) (p.new (.var sh51 x.cv)):=by
 have h:Cl.shOk x.cv ti51.sh=true:=V0c.shOk x
 simp only[Cl.xbox,tt51,h,cond_true];rfl
theorem V0c.bld_0_1_2_3(a0:Q0a)(a1:K0b)(a2:Int)(a3:Int): qbuild C 83 [(0,Q0a.cv a0),(1,K0b.cv a1),(2,U a2),(3,I a3)]=some (({Body:=a0,In:=a1,Dice:=a2,Room:=a3,Shots:=⟨.nil,[],fun _=>rfl⟩}:V0c).cv):=Y0f C tt51 (by simp only[partsOk,setAll,CV.shape,Q0a.shape,K0b.shape,sh51,List.all_cons,List.all_nil,List.getElem?_cons_zero,List.getElem?_cons_succ,Bool.and_true,decide_true]) rfl
structure Y0b where
 rate:Nat
 depth:Nat
 level:Nat
 last:Int
def Y0b.cv(x:Y0b): CV:=.agg [Fl x.rate,Fl x.depth,Fl x.level,I x.last]
@[ext] theorem Y0b.ext'{x y:Y0b}(h_rate:x.rate=y.rate)(h_depth:x.depth=y.depth)(h_level:x.level=y.level)(h_last:x.last=y.last): x=y:=by
 obtain⟨a0,a1,a2,a3⟩:=x
 obtain⟨c0,c1,c2,c3⟩:=y
 simp only at h_rate h_depth h_level h_last
 subst h_rate h_depth h_level h_last
 rfl
def Y0b.zero: Y0b:={rate:=0,depth:=0,level:=0,last:=0}
instance:Inhabited Y0b:=⟨Y0b.zero⟩
theorem Y0b.zcv: z223=Y0b.zero.cv:=by
 simp only[z223,Y0b.zero,Y0b.cv,List.map_replicate,Lst.cv,List.map_nil]
theorem Y0b.shape(x:Y0b): x.cv.shape=sh223:=by simp only[Y0b.cv,sh223,CV.shape,CV.shapes,Lst.shape]
theorem Y0b.nohas(x:Y0b)(j:Nat): ¬x.cv.has j:=by simp[Y0b.cv,CV.has,CV.hasL]
instance:DecidableEq Y0b:=fun x y=>decidable_of_iff (x.rate=y.rate/\x.depth=y.depth/\x.level=y.level/\x.last=y.last) ⟨fun h=>Y0b.ext' h.1 h.2.1 h.2.2.1 h.2.2.2,fun h=>by subst h;simp⟩
theorem Y0b.inj{x y:Y0b}(h:x.cv=y.cv): x=y:=by
 simp only[Y0b.cv,CV.agg.injEq,List.cons.injEq,and_true]at h
 obtain⟨h0,h1,h2,h3⟩:=h
 refine Y0b.ext' (Fl_inj _ _ h0) (Fl_inj _ _ h1) (Fl_inj _ _ h2) (I_inj _ _ h3)
theorem Y0b.injF(x y:Y0b)(h:x.cv=y.cv): x=y:=Y0b.inj h
theorem Y0b.inj_iff(x y:Y0b): x.cv=y.cv ↔ x=y:=⟨Y0b.inj,fun h=>by rw[h]⟩
theorem Y0b.shOk(x:Y0b): Cl.shOk x.cv sh223=true:=K0m (Y0b.shape x) rfl
theorem Y0b.at_0(x:Y0b)(q:List Nat): x.cv.at (0::q)=(Fl x.rate).at q:=rfl
def Y0b.upd_0(x:Y0b)(v:CV): CV:=.agg [v,Fl x.depth,Fl x.level,I x.last]
theorem Y0b.set_0(x:Y0b)(q:List Nat)(v:CV): x.cv.set (0::q) v=Y0b.upd_0 x ((Fl x.rate).set q v):=rfl
theorem Y0b.fold_0(x:Y0b)(y:Nat): Y0b.upd_0 x (Fl y)=({x with rate:=y}:Y0b).cv:=rfl
theorem Y0b.fld_0(x:Y0b): qfield C 97 x.cv 0=some (Fl x.rate):=X0d C tt223 (Y0b.shape x) rfl tt59 rfl rfl
theorem Y0b.sub_0(q:List Nat)(z:Shape): subEq sh223 (0::q) z=subEq sh59 q z:=rfl
theorem Y0b.at_1(x:Y0b)(q:List Nat): x.cv.at (1::q)=(Fl x.depth).at q:=rfl
def Y0b.upd_1(x:Y0b)(v:CV): CV:=.agg [Fl x.rate,v,Fl x.level,I x.last]
theorem Y0b.set_1(x:Y0b)(q:List Nat)(v:CV): x.cv.set (1::q) v=Y0b.upd_1 x ((Fl x.depth).set q v):=rfl
theorem Y0b.fold_1(x:Y0b)(y:Nat): Y0b.upd_1 x (Fl y)=({x with depth:=y}:Y0b).cv:=rfl
theorem Y0b.fld_1(x:Y0b): qfield C 97 x.cv 1=some (Fl x.depth):=X0d C tt223 (Y0b.shape x) rfl tt59 rfl rfl
theorem Y0b.sub_1(q:List Nat)(z:Shape): subEq sh223 (1::q) z=subEq sh59 q z:=rfl
theorem Y0b.at_2(x:Y0b)(q:List Nat): x.cv.at (2::q)=(Fl x.level).at q:=rfl
def Y0b.upd_2(x:Y0b)(v:CV): CV:=.agg [Fl x.rate,Fl x.depth,v,I x.last]
theorem Y0b.set_2(x:Y0b)(q:List Nat)(v:CV): x.cv.set (2::q) v=Y0b.upd_2 x ((Fl x.level).set q v):=rfl
theorem Y0b.fold_2(x:Y0b)(y:Nat): Y0b.upd_2 x (Fl y)=({x with level:=y}:Y0b).cv:=rfl
theorem Y0b.fld_2(x:Y0b): qfield C 97 x.cv 2=some (Fl x.level):=X0d C tt223 (Y0b.shape x) rfl tt59 rfl rfl
theorem Y0b.sub_2(q:List Nat)(z:Shape): subEq sh223 (2::q) z=subEq sh59 q z:=rfl
theorem Y0b.at_3(x:Y0b)(q:List Nat): x.cv.at (3::q)=(I x.last).at q:=rfl
def Y0b.upd_3(x:Y0b)(v:CV): CV:=.agg [Fl x.rate,Fl x.depth,Fl x.level,v]
theorem Y0b.set_3(x:Y0b)(q:List Nat)(v:CV): x.cv.set (3::q) v=Y0b.upd_3 x ((I x.last).set q v):=rfl
theorem Y0b.fold_3(x:Y0b)(y:Int): Y0b.upd_3 x (I y)=({x with last:=y}:Y0b).cv:=rfl
theorem Y0b.fld_3(x:Y0b): qfield C 97 x.cv 3=some (I x.last):=X0d C tt223 (Y0b.shape x) rfl tt3 rfl rfl
theorem Y0b.sub_3(q:List Nat)(z:Shape): subEq sh223 (3::q) z=subEq sh3 q z:=rfl
theorem Y0b.sub_nil: subEq sh223 [] sh223=true:=by simp[subEq,Shape.sub]
theorem Y0b.alloc: allocObj C (.alloc 97)=some (.var sh223 Y0b.zero.cv):=by simp only[allocObj,tt223,ti223,Y0b.zcv]
theorem Y0b.xalloc(p:Hp): xalloc C p 97=.ret (.ptr p.n []) (p.new (.var sh223 Y0b.zero.cv)):=by simp only[Cl.xalloc,tt223,ti223,Y0b.zcv]
theorem Y0b.xbox(p:Hp)(x:Y0b): xbox C p 97 x.cv=.ret (.ptr p.n []) (p.new (.var sh223 x.cv)):=by
 have h:Cl.shOk x.cv ti223.sh=true:=Y0b.shOk x
 simp only[Cl.xbox,tt223,h,cond_true];rfl
theorem Y0b.bld_0_1_2(a0:Nat)(a1:Nat)(a2:Nat): qbuild C 97 [(0,Fl a0),(1,Fl a1),(2,Fl a2)]=some (({rate:=a0,depth:=a1,level:=a2,last:=0}:Y0b).cv):=Y0f C tt223 (by simp only[partsOk,setAll,CV.shape,sh223,List.all_cons,List.all_nil,List.getElem?_cons_zero,List.getElem?_cons_succ,Bool.and_true,decide_true]) rfl
structure Q0c where
 Body:Q0a
 In:K0b
 Dice:Int
 Room:Int
 Shots:Lst Q0a
def Q0c.cv(x:Q0c): CV:=.agg [Q0a.cv x.Body,K0b.cv x.In,U x.Dice,I x.Room,(Lst.cv Q0a.cv) x.Shots]
@[ext] theorem Q0c.ext'{x y:Q0c}(h_Body:x.Body=y.Body)(h_In:x.In=y.In)(h_Dice:x.Dice=y.Dice)(h_Room:x.Room=y.Room)(h_Shots:x.Shots=y.Shots): x=y:=by
 obtain⟨a0,a1,a2,a3,a4⟩:=x
 obtain⟨c0,c1,c2,c3,c4⟩:=y
 simp only at h_Body h_In h_Dice h_Room h_Shots
 subst h_Body h_In h_Dice h_Room h_Shots
 rfl
def Q0c.zero: Q0c:={Body:=Q0a.zero,In:=K0b.zero,Dice:=0,Room:=0,Shots:=⟨.nil,[],fun _=>rfl⟩}
instance:Inhabited Q0c:=⟨Q0c.zero⟩
theorem Q0c.zcv: z39=Q0c.zero.cv:=by
 simp only[z39,Q0c.zero,Q0c.cv,Q0a.zcv,K0b.zcv,List.map_replicate,Lst.cv,List.map_nil]
theorem Q0c.shape(x:Q0c): x.cv.shape=sh39:=by simp only[Q0c.cv,sh39,CV.shape,CV.shapes,Q0a.shape,K0b.shape,Lst.shape]
theorem Q0c.has(x:Q0c)(j:Nat): x.cv.has j ↔ x.Shots.tl=.own j:=by simp[Q0c.cv,CV.has,CV.hasL,Q0a.nohas,K0b.nohas,Lst.has _ Q0a.nohas]
theorem Q0c.inj{x y:Q0c}(h:x.cv=y.cv): x=y:=by
 simp only[Q0c.cv,CV.agg.injEq,List.cons.injEq,and_true]at h
 obtain⟨h0,h1,h2,h3,h4⟩:=h
 refine Q0c.ext' (Q0a.injF _ _ h0) (K0b.injF _ _ h1) (U_inj _ _ h2) (I_inj _ _ h3) ((Lst.injF Q0a.injF) _ _ h4)
theorem Q0c.injF(x y:Q0c)(h:x.cv=y.cv): x=y:=Q0c.inj h
theorem Q0c.inj_iff(x y:Q0c): x.cv=y.cv ↔ x=y:=⟨Q0c.inj,fun h=>by rw[h]⟩
theorem Q0c.shOk(x:Q0c): Cl.shOk x.cv sh39=true:=K0m (Q0c.shape x) rfl
theorem Q0c.at_0(x:Q0c)(q:List Nat): x.cv.at (0::q)=(Q0a.cv x.Body).at q:=rfl
def Q0c.upd_0(x:Q0c)(v:CV): CV:=.agg [v,K0b.cv x.In,U x.Dice,I x.Room,(Lst.cv Q0a.cv) x.Shots]
theorem Q0c.set_0(x:Q0c)(q:List Nat)(v:CV): x.cv.set (0::q) v=Q0c.upd_0 x ((Q0a.cv x.Body).set q v):=rfl
theorem Q0c.fold_0(x:Q0c)(y:Q0a): Q0c.upd_0 x (Q0a.cv y)=({x with Body:=y}:Q0c).cv:=rfl
theorem Q0c.fld_0(x:Q0c): qfield C 115 x.cv 0=some (Q0a.cv x.Body):=X0d C tt39 (Q0c.shape x) rfl tt34 rfl (Q0a.shOk _)
theorem Q0c.sub_0(q:List Nat)(z:Shape): subEq sh39 (0::q) z=subEq sh34 q z:=rfl
theorem Q0c.at_1(x:Q0c)(q:List Nat): x.cv.at (1::q)=(K0b.cv x.In).at q:=rfl
def Q0c.upd_1(x:Q0c)(v:CV): CV:=.agg [Q0a.cv x.Body,v,U x.Dice,I x.Room,(Lst.cv Q0a.cv) x.Shots]
theorem Q0c.set_1(x:Q0c)(q:List Nat)(v:CV): x.cv.set (1::q) v=Q0c.upd_1 x ((K0b.cv x.In).set q v):=rfl
theorem Q0c.fold_1(x:Q0c)(y:K0b): Q0c.upd_1 x (K0b.cv y)=({x with In:=y}:Q0c).cv:=rfl
theorem Q0c.fld_1(x:Q0c): qfield C 115 x.cv 1=some (K0b.cv x.In):=X0d C tt39 (Q0c.shape x) rfl tt36 rfl (K0b.shOk _)
theorem Q0c.sub_1(q:List Nat)(z:Shape): subEq sh39 (1::q) z=subEq sh36 q z:=rfl
theorem Q0c.at_2(x:Q0c)(q:List Nat): x.cv.at (2::q)=(U x.Dice).at q:=rfl
def Q0c.upd_2(x:Q0c)(v:CV): CV:=.agg [Q0a.cv x.Body,K0b.cv x.In,v,I x.Room,(Lst.cv Q0a.cv) x.Shots]
theorem Q0c.set_2(x:Q0c)(q:List Nat)(v:CV): x.cv.set (2::q) v=Q0c.upd_2 x ((U x.Dice).set q v):=rfl
theorem Q0c.fold_2(x:Q0c)(y:Int): Q0c.upd_2 x (U y)=({x with Dice:=y}:Q0c).cv:=rfl
theorem Q0c.fld_2(x:Q0c): qfield C 115 x.cv 2=some (U x.Dice):=X0d C tt39 (Q0c.shape x) rfl tt25 rfl rfl
theorem Q0c.sub_2(q:List Nat)(z:Shape): subEq sh39 (2::q) z=subEq sh25 q z:=rfl
theorem Q0c.at_3(x:Q0c)(q:List Nat): x.cv.at (3::q)=(I x.Room).at q:=rfl
def Q0c.upd_3(x:Q0c)(v:CV): CV:=.agg [Q0a.cv x.Body,K0b.cv x.In,U x.Dice,v,(Lst.cv Q0a.cv) x.Shots]
theorem Q0c.set_3(x:Q0c)(q:List Nat)(v:CV): x.cv.set (3::q) v=Q0c.upd_3 x ((I x.Room).set q v):=rfl
theorem Q0c.fold_3(x:Q0c)(y:Int): Q0c.upd_3 x (I y)=({x with Room:=y}:Q0c).cv:=rfl
theorem Q0c.fld_3(x:Q0c): qfield C 115 x.cv 3=some (I x.Room):=X0d C tt39 (Q0c.shape x) rfl tt3 rfl rfl
theorem Q0c.sub_3(q:List Nat)(z:Shape): subEq sh39 (3::q) z=subEq sh3 q z:=rfl
theorem Q0c.at_4(x:Q0c)(q:List Nat): x.cv.at (4::q)=((Lst.cv Q0a.cv) x.Shots).at q:=rfl
def Q0c.upd_4(x:Q0c)(v:CV): CV:=.agg [Q0a.cv x.Body,K0b.cv x.In,U x.Dice,I x.Room,v]
theorem Q0c.set_4(x:Q0c)(q:List Nat)(v:CV): x.cv.set (4::q) v=Q0c.upd_4 x (((Lst.cv Q0a.cv) x.Shots).set q v):=rfl
theorem Q0c.fold_4(x:Q0c)(y:Lst Q0a): Q0c.upd_4 x ((Lst.cv Q0a.cv) y)=({x with Shots:=y}:Q0c).cv:=rfl
theorem Q0c.fld_4(x:Q0c): qfield C 115 x.cv 4=some ((Lst.cv Q0a.cv) x.Shots):=X0d C tt39 (Q0c.shape x) rfl tt37 rfl rfl
theorem Q0c.sub_4(q:List Nat)(z:Shape): subEq sh39 (4::q) z=subEq sh37 q z:=rfl
theorem Q0c.sub_nil: subEq sh39 [] sh39=true:=by simp[subEq,Shape.sub]
theorem Q0c.alloc: allocObj C (.alloc 115)=some (.var sh39 Q0c.zero.cv):=by simp only[allocObj,tt39,ti39,Q0c.zcv]
theorem Q0c.xalloc(p:Hp): xalloc C p 115=.ret (.ptr p.n []) (p.new (.var sh39 Q0c.zero.cv)):=by simp only[Cl.xalloc,tt39,ti39,Q0c.zcv]
theorem Q0c.xbox(p:Hp)(x:Q0c): xbox C p 115 x.cv=.ret (.ptr p.n []) (p.new (.var sh39 x.cv)):=by
 have h:Cl.shOk x.cv ti39.sh=true:=Q0c.shOk x
 simp only[Cl.xbox,tt39,h,cond_true];rfl
theorem Q0c.bld_0_1_2_3(a0:Q0a)(a1:K0b)(a2:Int)(a3:Int): qbuild C 115 [(0,Q0a.cv a0),(1,K0b.cv a1),(2,U a2),(3,I a3)]=some (({Body:=a0,In:=a1,Dice:=a2,Room:=a3,Shots:=⟨.nil,[],fun _=>rfl⟩}:Q0c).cv):=Y0f C tt39 (by simp only[partsOk,setAll,CV.shape,Q0a.shape,K0b.shape,sh39,List.all_cons,List.all_nil,List.getElem?_cons_zero,List.getElem?_cons_succ,Bool.and_true,decide_true]) rfl
structure X0c where
 Code:Int
 At:Int
def X0c.cv(x:X0c): CV:=.agg [I x.Code,I x.At]
@[ext] theorem X0c.ext'{x y:X0c}(h_Code:x.Code=y.Code)(h_At:x.At=y.At): x=y:=by
 obtain⟨a0,a1⟩:=x
 obtain⟨c0,c1⟩:=y
 simp only at h_Code h_At
 subst h_Code h_At
 rfl
def X0c.zero: X0c:={Code:=0,At:=0}
instance:Inhabited X0c:=⟨X0c.zero⟩
theorem X0c.zcv: z44=X0c.zero.cv:=by
 simp only[z44,X0c.zero,X0c.cv,List.map_replicate,Lst.cv,List.map_nil]
theorem X0c.shape(x:X0c): x.cv.shape=sh44:=by simp only[X0c.cv,sh44,CV.shape,CV.shapes,Lst.shape]
theorem X0c.nohas(x:X0c)(j:Nat): ¬x.cv.has j:=by simp[X0c.cv,CV.has,CV.hasL]
instance:DecidableEq X0c:=fun x y=>decidable_of_iff (x.Code=y.Code/\x.At=y.At) ⟨fun h=>X0c.ext' h.1 h.2,fun h=>by subst h;simp⟩
theorem X0c.inj{x y:X0c}(h:x.cv=y.cv): x=y:=by
 simp only[X0c.cv,CV.agg.injEq,List.cons.injEq,and_true]at h
 obtain⟨h0,h1⟩:=h
 refine X0c.ext' (I_inj _ _ h0) (I_inj _ _ h1)
theorem X0c.injF(x y:X0c)(h:x.cv=y.cv): x=y:=X0c.inj h
theorem X0c.inj_iff(x y:X0c): x.cv=y.cv ↔ x=y:=⟨X0c.inj,fun h=>by rw[h]⟩
theorem X0c.shOk(x:X0c): Cl.shOk x.cv sh44=true:=K0m (X0c.shape x) rfl
theorem X0c.eq(d:Nat)(x y:X0c): eqCV C (d+2) 117 x.cv y.cv=some (decide (x=y)):=by
 refine(K0x C (d:=d+1) tt44 (X0c.shape x) (X0c.shape y) (X0f (Q0g C tt3 (d+0) _ _) (X0f (Q0g C tt3 (d+0) _ _) rfl))).trans (congrArg some ?_)
 rw[Bool.eq_iff_iff]
 simp only[Bool.and_eq_true,decide_eq_true_eq,and_true]
 exact⟨fun h=>X0c.ext' h.1 h.2,fun h=>by subst h;simp⟩
theorem X0c.eql(x y:X0c)(b:Bool): qbin C .eql 117 b x.cv y.cv=some (Bo (decide (x=y))):=by
 have h:=X0c.eq 10 x y
 unfold X0c.cv at h ⊢
 simp only[qbin]
 rw[h];rfl
theorem X0c.neq(x y:X0c)(b:Bool): qbin C .neq 117 b x.cv y.cv=some (Bo (!decide (x=y))):=by
 have h:=X0c.eq 10 x y
 unfold X0c.cv at h ⊢
 simp only[qbin]
 rw[h];rfl
theorem X0c.at_0(x:X0c)(q:List Nat): x.cv.at (0::q)=(I x.Code).at q:=rfl
def X0c.upd_0(x:X0c)(v:CV): CV:=.agg [v,I x.At]
theorem X0c.set_0(x:X0c)(q:List Nat)(v:CV): x.cv.set (0::q) v=X0c.upd_0 x ((I x.Code).set q v):=rfl
theorem X0c.fold_0(x:X0c)(y:Int): X0c.upd_0 x (I y)=({x with Code:=y}:X0c).cv:=rfl
theorem X0c.fld_0(x:X0c): qfield C 117 x.cv 0=some (I x.Code):=X0d C tt44 (X0c.shape x) rfl tt3 rfl rfl
theorem X0c.sub_0(q:List Nat)(z:Shape): subEq sh44 (0::q) z=subEq sh3 q z:=rfl
theorem X0c.at_1(x:X0c)(q:List Nat): x.cv.at (1::q)=(I x.At).at q:=rfl
def X0c.upd_1(x:X0c)(v:CV): CV:=.agg [I x.Code,v]
theorem X0c.set_1(x:X0c)(q:List Nat)(v:CV): x.cv.set (1::q) v=X0c.upd_1 x ((I x.At).set q v):=rfl
theorem X0c.fold_1(x:X0c)(y:Int): X0c.upd_1 x (I y)=({x with At:=y}:X0c).cv:=rfl
theorem X0c.fld_1(x:X0c): qfield C 117 x.cv 1=some (I x.At):=X0d C tt44 (X0c.shape x) rfl tt3 rfl rfl
theorem X0c.sub_1(q:List Nat)(z:Shape): subEq sh44 (1::q) z=subEq sh3 q z:=rfl
theorem X0c.sub_nil: subEq sh44 [] sh44=true:=by simp[subEq,Shape.sub]
theorem X0c.alloc: allocObj C (.alloc 117)=some (.var sh44 X0c.zero.cv):=by simp only[allocObj,tt44,ti44,X0c.zcv]
theorem X0c.xalloc(p:Hp): xalloc C p 117=.ret (.ptr p.n []) (p.new (.var sh44 X0c.zero.cv)):=by simp only[Cl.xalloc,tt44,ti44,X0c.zcv]
theorem X0c.xbox(p:Hp)(x:X0c): xbox C p 117 x.cv=.ret (.ptr p.n []) (p.new (.var sh44 x.cv)):=by
 have h:Cl.shOk x.cv ti44.sh=true:=X0c.shOk x
 simp only[Cl.xbox,tt44,h,cond_true];rfl
theorem X0c.bld_none:qbuild C 117 []=some (({Code:=0,At:=0}:X0c).cv):=Y0f C tt44 (by simp only[partsOk,setAll,CV.shape,sh44,List.all_cons,List.all_nil,List.getElem?_cons_zero,List.getElem?_cons_succ,Bool.and_true,decide_true]) rfl
theorem X0c.bld_0_1(a0:Int)(a1:Int): qbuild C 117 [(0,I a0),(1,I a1)]=some (({Code:=a0,At:=a1}:X0c).cv):=Y0f C tt44 (by simp only[partsOk,setAll,CV.shape,sh44,List.all_cons,List.all_nil,List.getElem?_cons_zero,List.getElem?_cons_succ,Bool.and_true,decide_true]) rfl
structure Z0a where
 e_:Q0c
 l_:Lst K0c
 at_:Int
def Z0a.cv(x:Z0a): CV:=.agg [Q0c.cv x.e_,(Lst.cv K0c.cv) x.l_,I x.at_]
@[ext] theorem Z0a.ext'{x y:Z0a}(h_e_:x.e_=y.e_)(h_l_:x.l_=y.l_)(h_at_:x.at_=y.at_): x=y:=by
 obtain⟨a0,a1,a2⟩:=x
 obtain⟨c0,c1,c2⟩:=y
 simp only at h_e_ h_l_ h_at_
 subst h_e_ h_l_ h_at_
 rfl
def Z0a.zero: Z0a:={e_:=Q0c.zero,l_:=⟨.nil,[],fun _=>rfl⟩,at_:=0}
instance:Inhabited Z0a:=⟨Z0a.zero⟩
theorem Z0a.zcv: z131=Z0a.zero.cv:=by
 simp only[z131,Z0a.zero,Z0a.cv,Q0c.zcv,List.map_replicate,Lst.cv,List.map_nil]
theorem Z0a.shape(x:Z0a): x.cv.shape=sh131:=by simp only[Z0a.cv,sh131,CV.shape,CV.shapes,Q0c.shape,Lst.shape]
theorem Z0a.has(x:Z0a)(j:Nat): x.cv.has j ↔ x.e_.cv.has j\/x.l_.tl=.own j:=by simp[Z0a.cv,CV.has,CV.hasL,Lst.has _ K0c.nohas]
theorem Z0a.inj{x y:Z0a}(h:x.cv=y.cv): x=y:=by
 simp only[Z0a.cv,CV.agg.injEq,List.cons.injEq,and_true]at h
 obtain⟨h0,h1,h2⟩:=h
 refine Z0a.ext' (Q0c.injF _ _ h0) ((Lst.injF K0c.injF) _ _ h1) (I_inj _ _ h2)
theorem Z0a.injF(x y:Z0a)(h:x.cv=y.cv): x=y:=Z0a.inj h
theorem Z0a.inj_iff(x y:Z0a): x.cv=y.cv ↔ x=y:=⟨Z0a.inj,fun h=>by rw[h]⟩
theorem Z0a.shOk(x:Z0a): Cl.shOk x.cv sh131=true:=K0m (Z0a.shape x) rfl
theorem Z0a.at_0(x:Z0a)(q:List Nat): x.cv.at (0::q)=(Q0c.cv x.e_).at q:=rfl
def Z0a.upd_0(x:Z0a)(v:CV): CV:=.agg [v,(Lst.cv K0c.cv) x.l_,I x.at_]
theorem Z0a.set_0(x:Z0a)(q:List Nat)(v:CV): x.cv.set (0::q) v=Z0a.upd_0 x ((Q0c.cv x.e_).set q v):=rfl
theorem Z0a.fold_0(x:Z0a)(y:Q0c): Z0a.upd_0 x (Q0c.cv y)=({x with e_:=y}:Z0a).cv:=rfl
theorem Z0a.fld_0(x:Z0a): qfield C 130 x.cv 0=some (Q0c.cv x.e_):=X0d C tt131 (Z0a.shape x) rfl tt39 rfl (Q0c.shOk _)
theorem Z0a.sub_0(q:List Nat)(z:Shape): subEq sh131 (0::q) z=subEq sh39 q z:=rfl
theorem Z0a.at_1(x:Z0a)(q:List Nat): x.cv.at (1::q)=((Lst.cv K0c.cv) x.l_).at q:=rfl
def Z0a.upd_1(x:Z0a)(v:CV): CV:=.agg [Q0c.cv x.e_,v,I x.at_]
theorem Z0a.set_1(x:Z0a)(q:List Nat)(v:CV): x.cv.set (1::q) v=Z0a.upd_1 x (((Lst.cv K0c.cv) x.l_).set q v):=rfl
theorem Z0a.fold_1(x:Z0a)(y:Lst K0c): Z0a.upd_1 x ((Lst.cv K0c.cv) y)=({x with l_:=y}:Z0a).cv:=rfl
theorem Z0a.fld_1(x:Z0a): qfield C 130 x.cv 1=some ((Lst.cv K0c.cv) x.l_):=X0d C tt131 (Z0a.shape x) rfl tt23 rfl rfl
theorem Z0a.sub_1(q:List Nat)(z:Shape): subEq sh131 (1::q) z=subEq sh23 q z:=rfl
theorem Z0a.at_2(x:Z0a)(q:List Nat): x.cv.at (2::q)=(I x.at_).at q:=rfl
def Z0a.upd_2(x:Z0a)(v:CV): CV:=.agg [Q0c.cv x.e_,(Lst.cv K0c.cv) x.l_,v]
theorem Z0a.set_2(x:Z0a)(q:List Nat)(v:CV): x.cv.set (2::q) v=Z0a.upd_2 x ((I x.at_).set q v):=rfl
theorem Z0a.fold_2(x:Z0a)(y:Int): Z0a.upd_2 x (I y)=({x with at_:=y}:Z0a).cv:=rfl
theorem Z0a.fld_2(x:Z0a): qfield C 130 x.cv 2=some (I x.at_):=X0d C tt131 (Z0a.shape x) rfl tt3 rfl rfl
theorem Z0a.sub_2(q:List Nat)(z:Shape): subEq sh131 (2::q) z=subEq sh3 q z:=rfl
theorem Z0a.sub_nil: subEq sh131 [] sh131=true:=by simp[subEq,Shape.sub]
theorem Z0a.alloc: allocObj C (.alloc 130)=some (.var sh131 Z0a.zero.cv):=by simp only[allocObj,tt131,ti131,Z0a.zcv]
theorem Z0a.xalloc(p:Hp): xalloc C p 130=.ret (.ptr p.n []) (p.new (.var sh131 Z0a.zero.cv)):=by simp only[Cl.xalloc,tt131,ti131,Z0a.zcv]
theorem Z0a.xbox(p:Hp)(x:Z0a): xbox C p 130 x.cv=.ret (.ptr p.n []) (p.new (.var sh131 x.cv)):=by
 have h:Cl.shOk x.cv ti131.sh=true:=Z0a.shOk x
 simp only[Cl.xbox,tt131,h,cond_true];rfl
theorem Z0a.bld_0_1(a0:Q0c)(a1:Lst K0c): qbuild C 130 [(0,Q0c.cv a0),(1,(Lst.cv K0c.cv) a1)]=some (({e_:=a0,l_:=a1,at_:=0}:Z0a).cv):=Y0f C tt131 (by simp only[partsOk,setAll,CV.shape,Q0c.shape,Lst.shape,sh131,List.all_cons,List.all_nil,List.getElem?_cons_zero,List.getElem?_cons_succ,Bool.and_true,decide_true]) rfl
structure Z0b where
 f_:X0c
def Z0b.cv(x:Z0b): CV:=.agg [X0c.cv x.f_]
@[ext] theorem Z0b.ext'{x y:Z0b}(h_f_:x.f_=y.f_): x=y:=by
 obtain⟨a0⟩:=x
 obtain⟨c0⟩:=y
 simp only at h_f_
 subst h_f_
 rfl
def Z0b.zero: Z0b:={f_:=X0c.zero}
instance:Inhabited Z0b:=⟨Z0b.zero⟩
theorem Z0b.zcv: z194=Z0b.zero.cv:=by
 simp only[z194,Z0b.zero,Z0b.cv,X0c.zcv,List.map_replicate,Lst.cv,List.map_nil]
theorem Z0b.shape(x:Z0b): x.cv.shape=sh194:=by simp only[Z0b.cv,sh194,CV.shape,CV.shapes,X0c.shape,Lst.shape]
theorem Z0b.nohas(x:Z0b)(j:Nat): ¬x.cv.has j:=by simp[Z0b.cv,CV.has,CV.hasL,X0c.nohas]
instance:DecidableEq Z0b:=fun x y=>decidable_of_iff (x.f_=y.f_) ⟨fun h=>Z0b.ext' h,fun h=>by subst h;simp⟩
theorem Z0b.inj{x y:Z0b}(h:x.cv=y.cv): x=y:=by
 simp only[Z0b.cv,CV.agg.injEq,List.cons.injEq,and_true]at h
 have h0:=h
 refine Z0b.ext' (X0c.injF _ _ h0)
theorem Z0b.injF(x y:Z0b)(h:x.cv=y.cv): x=y:=Z0b.inj h
theorem Z0b.inj_iff(x y:Z0b): x.cv=y.cv ↔ x=y:=⟨Z0b.inj,fun h=>by rw[h]⟩
theorem Z0b.shOk(x:Z0b): Cl.shOk x.cv sh194=true:=K0m (Z0b.shape x) rfl
theorem Z0b.eq(d:Nat)(x y:Z0b): eqCV C (d+3) 136 x.cv y.cv=some (decide (x=y)):=by
 refine(K0x C (d:=d+2) tt194 (Z0b.shape x) (Z0b.shape y) (X0f (X0c.eq (d+0) _ _) rfl)).trans (congrArg some ?_)
 rw[Bool.eq_iff_iff]
 simp only[Bool.and_eq_true,decide_eq_true_eq,and_true]
 exact⟨fun h=>Z0b.ext' h,fun h=>by subst h;simp⟩
theorem Z0b.eql(x y:Z0b)(b:Bool): qbin C .eql 136 b x.cv y.cv=some (Bo (decide (x=y))):=by
 have h:=Z0b.eq 9 x y
 unfold Z0b.cv at h ⊢
 simp only[qbin]
 rw[h];rfl
theorem Z0b.neq(x y:Z0b)(b:Bool): qbin C .neq 136 b x.cv y.cv=some (Bo (!decide (x=y))):=by
 have h:=Z0b.eq 9 x y
 unfold Z0b.cv at h ⊢
 simp only[qbin]
 rw[h];rfl
theorem Z0b.at_0(x:Z0b)(q:List Nat): x.cv.at (0::q)=(X0c.cv x.f_).at q:=rfl
def Z0b.upd_0(x:Z0b)(v:CV): CV:=.agg [v]
theorem Z0b.set_0(x:Z0b)(q:List Nat)(v:CV): x.cv.set (0::q) v=Z0b.upd_0 x ((X0c.cv x.f_).set q v):=rfl
theorem Z0b.fold_0(x:Z0b)(y:X0c): Z0b.upd_0 x (X0c.cv y)=({x with f_:=y}:Z0b).cv:=rfl
theorem Z0b.fld_0(x:Z0b): qfield C 136 x.cv 0=some (X0c.cv x.f_):=X0d C tt194 (Z0b.shape x) rfl tt44 rfl (X0c.shOk _)
theorem Z0b.sub_0(q:List Nat)(z:Shape): subEq sh194 (0::q) z=subEq sh44 q z:=rfl
theorem Z0b.sub_nil: subEq sh194 [] sh194=true:=by simp[subEq,Shape.sub]
theorem Z0b.alloc: allocObj C (.alloc 136)=some (.var sh194 Z0b.zero.cv):=by simp only[allocObj,tt194,ti194,Z0b.zcv]
theorem Z0b.xalloc(p:Hp): xalloc C p 136=.ret (.ptr p.n []) (p.new (.var sh194 Z0b.zero.cv)):=by simp only[Cl.xalloc,tt194,ti194,Z0b.zcv]
theorem Z0b.xbox(p:Hp)(x:Z0b): xbox C p 136 x.cv=.ret (.ptr p.n []) (p.new (.var sh194 x.cv)):=by
 have h:Cl.shOk x.cv ti194.sh=true:=Z0b.shOk x
 simp only[Cl.xbox,tt194,h,cond_true];rfl
theorem Z0b.bld_0(a0:X0c): qbuild C 136 [(0,X0c.cv a0)]=some (({f_:=a0}:Z0b).cv):=Y0f C tt194 (by simp only[partsOk,setAll,CV.shape,X0c.shape,sh194,List.all_cons,List.all_nil,List.getElem?_cons_zero,List.getElem?_cons_succ,Bool.and_true,decide_true]) rfl
def V03:=zA @V0b.shape<|zA @V0b.shOk<|zA @V0b.eql<|zA @V0b.neq<|zA @V0b.at_0<|zA @V0b.set_0<|zA @V0b.fold_0<|zA @V0b.fld_0<|zA @V0b.rfa_0<|zA @V0b.sub_0<|zA @V0b.at_1<|zA @V0b.set_1<|zA @V0b.fold_1<|zA @V0b.fld_1<|zA @V0b.rfa_1<|zA @V0b.sub_1<|zA @V0b.at_2<|zA @V0b.set_2<|zA @V0b.fold_2<|zA @V0b.fld_2<|zA @V0b.rfa_2<|zA @V0b.sub_2<|zA @V0b.sub_nil<|zA @V0b.alloc<|zA @V0b.xalloc<|@V0b.xbox
def Q0t:=zA @V0a.shape<|zA @V0a.shOk<|zA @V0a.at_0<|zA @V0a.set_0<|zA @V0a.fold_0<|zA @V0a.fld_0<|zA @V0a.sub_0<|zA @V0a.at_1<|zA @V0a.set_1<|zA @V0a.fold_1<|zA @V0a.fld_1<|zA @V0a.sub_1<|zA @V0a.at_2<|zA @V0a.set_2<|zA @V0a.fold_2<|zA @V0a.fld_2<|zA @V0a.sub_2<|zA @V0a.at_3<|zA @V0a.set_3<|zA @V0a.fold_3<|zA @V0a.fld_3<|zA @V0a.sub_3<|zA @V0a.at_4<|zA @V0a.set_4<|zA @V0a.fold_4<|zA @V0a.fld_4<|zA @V0a.sub_4<|zA @V0a.at_5<|zA @V0a.set_5<|zA @V0a.fold_5<|zA @V0a.fld_5<|zA @V0a.sub_5<|zA @V0a.at_6<|zA @V0a.set_6<|zA @V0a.fold_6<|zA @V0a.fld_6<|zA @V0a.sub_6<|zA @V0a.at_7<|zA @V0a.set_7<|zA @V0a.fold_7<|zA @V0a.fld_7<|zA @V0a.sub_7<|zA @V0a.sub_nil<|zA @V0a.alloc<|zA @V0a.xalloc<|@V0a.xbox
def K0i:=zA @K0c.shape<|zA @K0c.shOk<|zA @K0c.eql<|zA @K0c.neq<|zA @K0c.at_0<|zA @K0c.set_0<|zA @K0c.fold_0<|zA @K0c.fld_0<|zA @K0c.rfa_0<|zA @K0c.sub_0<|zA @K0c.at_1<|zA @K0c.set_1<|zA @K0c.fold_1<|zA @K0c.fld_1<|zA @K0c.rfa_1<|zA @K0c.sub_1<|zA @K0c.at_2<|zA @K0c.set_2<|zA @K0c.fold_2<|zA @K0c.fld_2<|zA @K0c.rfa_2<|zA @K0c.sub_2<|zA @K0c.sub_nil<|zA @K0c.alloc<|zA @K0c.xalloc<|zA @K0c.xbox<|zA @K0c.bld_0<|@K0c.bld_0_1_2
def X0e:=zA @K0a.shape<|zA @K0a.shOk<|zA @K0a.at_0<|zA @K0a.set_0<|zA @K0a.fold_0<|zA @K0a.fld_0<|zA @K0a.sub_0<|zA @K0a.at_1<|zA @K0a.set_1<|zA @K0a.fold_1<|zA @K0a.fld_1<|zA @K0a.sub_1<|zA @K0a.at_2<|zA @K0a.set_2<|zA @K0a.fold_2<|zA @K0a.fld_2<|zA @K0a.sub_2<|zA @K0a.at_3<|zA @K0a.set_3<|zA @K0a.fold_3<|zA @K0a.fld_3<|zA @K0a.sub_3<|zA @K0a.at_4<|zA @K0a.set_4<|zA @K0a.fold_4<|zA @K0a.fld_4<|zA @K0a.sub_4<|zA @K0a.at_5<|zA @K0a.set_5<|zA @K0a.fold_5<|zA @K0a.fld_5<|zA @K0a.sub_5<|zA @K0a.at_6<|zA @K0a.set_6<|zA @K0a.fold_6<|zA @K0a.fld_6<|zA @K0a.sub_6<|zA @K0a.at_7<|zA @K0a.set_7<|zA @K0a.fold_7<|zA @K0a.fld_7<|zA @K0a.sub_7<|zA @K0a.at_8<|zA @K0a.set_8<|zA @K0a.fold_8<|zA @K0a.fld_8<|zA @K0a.sub_8<|zA @K0a.at_9<|zA @K0a.set_9<|zA @K0a.fold_9<|zA @K0a.fld_9<|zA @K0a.sub_9<|zA @K0a.sub_nil<|zA @K0a.alloc<|zA @K0a.xalloc<|zA @K0a.xbox<|zA @K0a.bld_0_1_2_3_4_5<|@K0a.bld_0_1_4_6_7_8
def Q0e:=zA @Q0a.shape<|zA @Q0a.shOk<|zA @Q0a.eql<|zA @Q0a.neq<|zA @Q0a.at_0<|zA @Q0a.set_0<|zA @Q0a.fold_0<|zA @Q0a.fld_0<|zA @Q0a.rfa_0<|zA @Q0a.sub_0<|zA @Q0a.at_1<|zA @Q0a.set_1<|zA @Q0a.fold_1<|zA @Q0a.fld_1<|zA @Q0a.rfa_1<|zA @Q0a.sub_1<|zA @Q0a.at_2<|zA @Q0a.set_2<|zA @Q0a.fold_2<|zA @Q0a.fld_2<|zA @Q0a.rfa_2<|zA @Q0a.sub_2<|zA @Q0a.at_3<|zA @Q0a.set_3<|zA @Q0a.fold_3<|zA @Q0a.fld_3<|zA @Q0a.rfa_3<|zA @Q0a.sub_3<|zA @Q0a.at_4<|zA @Q0a.set_4<|zA @Q0a.fold_4<|zA @Q0a.fld_4<|zA @Q0a.rfa_4<|zA @Q0a.sub_4<|zA @Q0a.at_5<|zA @Q0a.set_5<|zA @Q0a.fold_5<|zA @Q0a.fld_5<|zA @Q0a.rfa_5<|zA @Q0a.sub_5<|zA @Q0a.at_6<|zA @Q0a.set_6<|zA @Q0a.fold_6<|zA @Q0a.fld_6<|zA @Q0a.rfa_6<|zA @Q0a.sub_6<|zA @Q0a.at_7<|zA @Q0a.at_7k<|zA @Q0a.set_7<|zA @Q0a.set_7k<|zA @Q0a.fold_7k<|zA @Q0a.fold_7<|zA @Q0a.fld_7<|zA @Q0a.rfa_7<|zA @Q0a.sub_7k<|zA @Q0a.sub_7<|zA @Q0a.at_8<|zA @Q0a.set_8<|zA @Q0a.fold_8<|zA @Q0a.fld_8<|zA @Q0a.rfa_8<|zA @Q0a.sub_8<|zA @Q0a.sub_nil<|zA @Q0a.alloc<|zA @Q0a.xalloc<|zA @Q0a.xbox<|zA @Q0a.bld_none<|zA @Q0a.bld_0_1_2_3<|@Q0a.bld_0_1_2_3_4_5
def Q0f:=zA @Y0a.shape<|zA @Y0a.shOk<|zA @Y0a.eql<|zA @Y0a.neq<|zA @Y0a.at_0<|zA @Y0a.set_0<|zA @Y0a.fold_0<|zA @Y0a.fld_0<|zA @Y0a.sub_0<|zA @Y0a.at_1<|zA @Y0a.set_1<|zA @Y0a.fold_1<|zA @Y0a.fld_1<|zA @Y0a.sub_1<|zA @Y0a.at_2<|zA @Y0a.at_2k<|zA @Y0a.set_2<|zA @Y0a.set_2k<|zA @Y0a.fold_2k<|zA @Y0a.fold_2<|zA @Y0a.fld_2<|zA @Y0a.sub_2k<|zA @Y0a.sub_2<|zA @Y0a.at_3<|zA @Y0a.at_3k<|zA @Y0a.set_3<|zA @Y0a.set_3k<|zA @Y0a.fold_3k<|zA @Y0a.fold_3<|zA @Y0a.fld_3<|zA @Y0a.sub_3k<|zA @Y0a.sub_3<|zA @Y0a.sub_nil<|zA @Y0a.alloc<|zA @Y0a.xalloc<|zA @Y0a.xbox<|zA @Y0a.bld_none<|@Y0a.bld_1
def K0h:=zA @K0b.shape<|zA @K0b.shOk<|zA @K0b.eql<|zA @K0b.neq<|zA @K0b.at_0<|zA @K0b.set_0<|zA @K0b.fold_0<|zA @K0b.fld_0<|zA @K0b.rfa_0<|zA @K0b.sub_0<|zA @K0b.at_1<|zA @K0b.set_1<|zA @K0b.fold_1<|zA @K0b.fld_1<|zA @K0b.rfa_1<|zA @K0b.sub_1<|zA @K0b.at_2<|zA @K0b.set_2<|zA @K0b.fold_2<|zA @K0b.fld_2<|zA @K0b.rfa_2<|zA @K0b.sub_2<|zA @K0b.sub_nil<|zA @K0b.alloc<|zA @K0b.xalloc<|zA @K0b.xbox<|zA @K0b.bld_none<|@K0b.bld_0_1_2
def Q0m:=zA @Q0b.shape<|zA @Q0b.shOk<|zA @Q0b.eql<|zA @Q0b.neq<|zA @Q0b.at_0<|zA @Q0b.set_0<|zA @Q0b.fold_0<|zA @Q0b.fld_0<|zA @Q0b.rfa_0<|zA @Q0b.sub_0<|zA @Q0b.at_1<|zA @Q0b.set_1<|zA @Q0b.fold_1<|zA @Q0b.fld_1<|zA @Q0b.rfa_1<|zA @Q0b.sub_1<|zA @Q0b.sub_nil<|zA @Q0b.alloc<|zA @Q0b.xalloc<|zA @Q0b.xbox<|@Q0b.bld_0_1
def X0i:=zA @X0b.shape<|zA @X0b.shOk<|zA @X0b.at_0<|zA @X0b.set_0<|zA @X0b.fold_0<|zA @X0b.fld_0<|zA @X0b.sub_0<|zA @X0b.at_1<|zA @X0b.set_1<|zA @X0b.fold_1<|zA @X0b.fld_1<|zA @X0b.sub_1<|zA @X0b.at_2<|zA @X0b.set_2<|zA @X0b.fold_2<|zA @X0b.fld_2<|zA @X0b.sub_2<|zA @X0b.at_3<|zA @X0b.set_3<|zA @X0b.fold_3<|zA @X0b.fld_3<|zA @X0b.sub_3<|zA @X0b.sub_nil<|zA @X0b.alloc<|zA @X0b.xalloc<|zA @X0b.xbox<|@X0b.bld_0_1_2
def Z0o:=zA @V0c.shape<|zA @V0c.shOk<|zA @V0c.at_0<|zA @V0c.set_0<|zA @V0c.fold_0<|zA @V0c.fld_0<|zA @V0c.sub_0<|zA @V0c.at_1<|zA @V0c.set_1<|zA @V0c.fold_1<|zA @V0c.fld_1<|zA @V0c.sub_1<|zA @V0c.at_2<|zA @V0c.set_2<|zA @V0c.fold_2<|zA @V0c.fld_2<|zA @V0c.sub_2<|zA @V0c.at_3<|zA @V0c.set_3<|zA @V0c.fold_3<|zA @V0c.fld_3<|zA @V0c.sub_3<|zA @V0c.at_4<|zA @V0c.set_4<|zA @V0c.fold_4<|zA @V0c.fld_4<|zA @V0c.sub_4<|zA @V0c.sub_nil<|zA @V0c.alloc<|zA @V0c.xalloc<|zA @V0c.xbox<|@V0c.bld_0_1_2_3
def X08:=zA @Y0b.shape<|zA @Y0b.shOk<|zA @Y0b.at_0<|zA @Y0b.set_0<|zA @Y0b.fold_0<|zA @Y0b.fld_0<|zA @Y0b.sub_0<|zA @Y0b.at_1<|zA @Y0b.set_1<|zA @Y0b.fold_1<|zA @Y0b.fld_1<|zA @Y0b.sub_1<|zA @Y0b.at_2<|zA @Y0b.set_2<|zA @Y0b.fold_2<|zA @Y0b.fld_2<|zA @Y0b.sub_2<|zA @Y0b.at_3<|zA @Y0b.set_3<|zA @Y0b.fold_3<|zA @Y0b.fld_3<|zA @Y0b.sub_3<|zA @Y0b.sub_nil<|zA @Y0b.alloc<|zA @Y0b.xalloc<|zA @Y0b.xbox<|@Y0b.bld_0_1_2
def X0j:=zA @Q0c.shape<|zA @Q0c.shOk<|zA @Q0c.at_0<|zA @Q0c.set_0<|zA @Q0c.fold_0<|zA @Q0c.fld_0<|zA @Q0c.sub_0<|zA @Q0c.at_1<|zA @Q0c.set_1<|zA @Q0c.fold_1<|zA @Q0c.fld_1<|zA @Q0c.sub_1<|zA @Q0c.at_2<|zA @Q0c.set_2<|zA @Q0c.fold_2<|zA @Q0c.fld_2<|zA @Q0c.sub_2<|zA @Q0c.at_3<|zA @Q0c.set_3<|zA @Q0c.fold_3<|zA @Q0c.fld_3<|zA @Q0c.sub_3<|zA @Q0c.at_4<|zA @Q0c.set_4<|zA @Q0c.fold_4<|zA @Q0c.fld_4<|zA @Q0c.sub_4<|zA @Q0c.sub_nil<|zA @Q0c.alloc<|zA @Q0c.xalloc<|zA @Q0c.xbox<|@Q0c.bld_0_1_2_3
def Q0q:=zA @X0c.shape<|zA @X0c.shOk<|zA @X0c.eql<|zA @X0c.neq<|zA @X0c.at_0<|zA @X0c.set_0<|zA @X0c.fold_0<|zA @X0c.fld_0<|zA @X0c.sub_0<|zA @X0c.at_1<|zA @X0c.set_1<|zA @X0c.fold_1<|zA @X0c.fld_1<|zA @X0c.sub_1<|zA @X0c.sub_nil<|zA @X0c.alloc<|zA @X0c.xalloc<|zA @X0c.xbox<|zA @X0c.bld_none<|@X0c.bld_0_1
def K0f:=zA @Z0a.shape<|zA @Z0a.shOk<|zA @Z0a.at_0<|zA @Z0a.set_0<|zA @Z0a.fold_0<|zA @Z0a.fld_0<|zA @Z0a.sub_0<|zA @Z0a.at_1<|zA @Z0a.set_1<|zA @Z0a.fold_1<|zA @Z0a.fld_1<|zA @Z0a.sub_1<|zA @Z0a.at_2<|zA @Z0a.set_2<|zA @Z0a.fold_2<|zA @Z0a.fld_2<|zA @Z0a.sub_2<|zA @Z0a.sub_nil<|zA @Z0a.alloc<|zA @Z0a.xalloc<|zA @Z0a.xbox<|@Z0a.bld_0_1
def Q0z:=zA @Z0b.shape<|zA @Z0b.shOk<|zA @Z0b.eql<|zA @Z0b.neq<|zA @Z0b.at_0<|zA @Z0b.set_0<|zA @Z0b.fold_0<|zA @Z0b.fld_0<|zA @Z0b.sub_0<|zA @Z0b.sub_nil<|zA @Z0b.alloc<|zA @Z0b.xalloc<|zA @Z0b.xbox<|@Z0b.bld_0
theorem zsl32(l:List Int)(n:Int)(h:l.length=4)(hn:0<=n/\n<4): qindex C 34 (.agg (l.map I)) (I n)=some (I (nth l n.toNat)):=X1e C I tt32 rfl tt3 (fun _=>rfl) l n h hn
theorem zsl63(l:List Q0a)(n:Int)(h:l.length=16)(hn:0<=n/\n<16): qindex C 37 (.agg (l.map Q0a.cv)) (I n)=some (Q0a.cv (nth l n.toNat)):=X1e C Q0a.cv tt63 rfl tt34 Q0a.shape l n h hn
theorem zsl64(l:List Int)(n:Int)(h:l.length=8)(hn:0<=n/\n<8): qindex C 38 (.agg (l.map I)) (I n)=some (I (nth l n.toNat)):=X1e C I tt64 rfl tt3 (fun _=>rfl) l n h hn
theorem sl_len22(s:Lst V0b)(h:Heap): qlen C h 22 (Lst.cv V0b.cv s)=some (I s.l.length):=by simp only[qlen,tt22,ti22,Lst.cv,List.length_map]
theorem sl_idx22(s:Lst V0b)(p:Hp)(n:Int)(h:0<=n/\n<s.l.length): xindexAddr C p 22 (Lst.cv V0b.cv s) (I n)=some (.rptr (V0b.cv (nth s.l n.toNat))):=by
 have hl:n.toNat<s.l.length:=by omega
 show qindexAddr C p.h 22 (.lst s.tl (s.l.map V0b.cv)) (I n)=_
 simp only[qindexAddr,tt22,ti22,tt31,List.length_map,h,and_self,if_true,List.getElem?_map,V0v hl,Option.map_some]
 rw[if_pos]
 exact V0b.shape _
theorem sl_src22(s:Lst V0b)(h:Heap): srcOf C h 22 (Lst.cv V0b.cv s)=some (s.l.map V0b.cv):=by simp only[srcOf,tt22,ti22,Lst.cv]
theorem Z1s: isSliceT C 22=true:=by simp only[isSliceT,tt22,ti22]
theorem sl_app22(p:Hp)(b s:Lst V0b)(h:b.l.length+s.l.length<=5864062014805): xappend C false p 22 22 (Lst.cv V0b.cv b) (Lst.cv V0b.cv s)=appT V0b.cv p b s:=Z0n C V0b.cv tt22 tt31 V0b.shOk p b s (by show _*24<=_;omega) (by omega)
theorem Z1q(b s:Lst V0b): Lst.cv V0b.cv b=Lst.cv V0b.cv s ↔ b=s:=⟨fun h=>Lst.inj V0b.injF h,fun h=>by rw[h]⟩
theorem sl_lenl22(tl:Tail)(l:List CV)(h:Heap): qlen C h 22 (.lst tl l)=some (I l.length):=by simp only[qlen,tt22,ti22]
theorem sl_lens22(i:Nat)(q:List Nat)(o n:Nat)(h:Heap): qlen C h 22 (.slc i q o n)=some (I n):=by simp only[qlen,tt22,ti22]
def zsl22:=zA @sl_lenl22<|zA @sl_lens22<|zA @sl_len22<|zA @sl_idx22<|zA @sl_src22<|zA @sl_app22<|zA (X1h C Z1s)<|zA (K00 C Z1s)<|Z1s
theorem sl_len25(s:Lst (Lst Int))(h:Heap): qlen C h 25 (Lst.cv (Lst.cv I) s)=some (I s.l.length):=by simp only[qlen,tt58,ti58,Lst.cv,List.length_map]
theorem sl_idx25(s:Lst (Lst Int))(p:Hp)(n:Int)(h:0<=n/\n<s.l.length): xindexAddr C p 25 (Lst.cv (Lst.cv I) s) (I n)=some (.rptr ((Lst.cv I) (nth s.l n.toNat))):=by
 have hl:n.toNat<s.l.length:=by omega
 show qindexAddr C p.h 25 (.lst s.tl (s.l.map (Lst.cv I))) (I n)=_
 simp only[qindexAddr,tt58,ti58,tt24,List.length_map,h,and_self,if_true,List.getElem?_map,V0v hl,Option.map_some]
 rw[if_pos]
 exact rfl
theorem sl_src25(s:Lst (Lst Int))(h:Heap): srcOf C h 25 (Lst.cv (Lst.cv I) s)=some (s.l.map (Lst.cv I)):=by simp only[srcOf,tt58,ti58,Lst.cv]
theorem Z1y: isSliceT C 25=true:=by simp only[isSliceT,tt58,ti58]
theorem sl_app25(p:Hp)(b s:Lst (Lst Int))(h:b.l.length+s.l.length<=5864062014805): xappend C false p 25 25 (Lst.cv (Lst.cv I) b) (Lst.cv (Lst.cv I) s)=appT (Lst.cv I) p b s:=Z0n C (Lst.cv I) tt58 tt24 (fun _=>rfl) p b s (by show _*24<=_;omega) (by omega)
theorem K1t(b s:Lst (Lst Int)): Lst.cv (Lst.cv I) b=Lst.cv (Lst.cv I) s ↔ b=s:=⟨fun h=>Lst.inj (Lst.injF I_inj) h,fun h=>by rw[h]⟩
theorem sl_lenl25(tl:Tail)(l:List CV)(h:Heap): qlen C h 25 (.lst tl l)=some (I l.length):=by simp only[qlen,tt58,ti58]
theorem sl_lens25(i:Nat)(q:List Nat)(o n:Nat)(h:Heap): qlen C h 25 (.slc i q o n)=some (I n):=by simp only[qlen,tt58,ti58]
def zsl58:=zA @sl_lenl25<|zA @sl_lens25<|zA @sl_len25<|zA @sl_idx25<|zA @sl_src25<|zA @sl_app25<|zA (X1h C Z1y)<|zA (K00 C Z1y)<|Z1y
theorem sl_len26(s:Lst Q0b)(h:Heap): qlen C h 26 (Lst.cv Q0b.cv s)=some (I s.l.length):=by simp only[qlen,tt108,ti108,Lst.cv,List.length_map]
theorem sl_idx26(s:Lst Q0b)(p:Hp)(n:Int)(h:0<=n/\n<s.l.length): xindexAddr C p 26 (Lst.cv Q0b.cv s) (I n)=some (.rptr (Q0b.cv (nth s.l n.toNat))):=by
 have hl:n.toNat<s.l.length:=by omega
 show qindexAddr C p.h 26 (.lst s.tl (s.l.map Q0b.cv)) (I n)=_
 simp only[qindexAddr,tt108,ti108,tt110,List.length_map,h,and_self,if_true,List.getElem?_map,V0v hl,Option.map_some]
 rw[if_pos]
 exact Q0b.shape _
theorem sl_src26(s:Lst Q0b)(h:Heap): srcOf C h 26 (Lst.cv Q0b.cv s)=some (s.l.map Q0b.cv):=by simp only[srcOf,tt108,ti108,Lst.cv]
theorem V1w: isSliceT C 26=true:=by simp only[isSliceT,tt108,ti108]
theorem sl_b26_1: ∀(a0:Q0b),qbuildSlice C 26 1 [(0,Q0b.cv a0)]=some (Lst.cv Q0b.cv ⟨.exact,[a0],nofun⟩):=fun a0=>Z0g C tt108 tt110 (by decide) (by decide) (by simp only[partsOk,List.all_cons,List.all_nil,List.replicate_succ,List.replicate_zero,List.getElem?_cons_zero,List.getElem?_cons_succ,CV.shape,Q0b.shape,Bool.and_true,decide_true];try rfl) rfl
theorem sl_app26(p:Hp)(b s:Lst Q0b)(h:b.l.length+s.l.length<=4398046511104): xappend C false p 26 26 (Lst.cv Q0b.cv b) (Lst.cv Q0b.cv s)=appT Q0b.cv p b s:=Z0n C Q0b.cv tt108 tt110 Q0b.shOk p b s (by show _*32<=_;omega) (by omega)
theorem Y0o(b s:Lst Q0b): Lst.cv Q0b.cv b=Lst.cv Q0b.cv s ↔ b=s:=⟨fun h=>Lst.inj Q0b.injF h,fun h=>by rw[h]⟩
theorem sl_lenl26(tl:Tail)(l:List CV)(h:Heap): qlen C h 26 (.lst tl l)=some (I l.length):=by simp only[qlen,tt108,ti108]
theorem sl_lens26(i:Nat)(q:List Nat)(o n:Nat)(h:Heap): qlen C h 26 (.slc i q o n)=some (I n):=by simp only[qlen,tt108,ti108]
def zsl108:=zA @sl_lenl26<|zA @sl_lens26<|zA @sl_len26<|zA @sl_idx26<|zA @sl_src26<|zA @sl_app26<|zA (X1h C V1w)<|zA (K00 C V1w)<|zA @sl_b26_1<|V1w
theorem sl_len28(s:Lst K0c)(h:Heap): qlen C h 28 (Lst.cv K0c.cv s)=some (I s.l.length):=by simp only[qlen,tt23,ti23,Lst.cv,List.length_map]
theorem sl_idx28(s:Lst K0c)(p:Hp)(n:Int)(h:0<=n/\n<s.l.length): xindexAddr C p 28 (Lst.cv K0c.cv s) (I n)=some (.rptr (K0c.cv (nth s.l n.toNat))):=by
 have hl:n.toNat<s.l.length:=by omega
 show qindexAddr C p.h 28 (.lst s.tl (s.l.map K0c.cv)) (I n)=_
 simp only[qindexAddr,tt23,ti23,tt29,List.length_map,h,and_self,if_true,List.getElem?_map,V0v hl,Option.map_some]
 rw[if_pos]
 exact K0c.shape _
theorem sl_src28(s:Lst K0c)(h:Heap): srcOf C h 28 (Lst.cv K0c.cv s)=some (s.l.map K0c.cv):=by simp only[srcOf,tt23,ti23,Lst.cv]
theorem Y1x: isSliceT C 28=true:=by simp only[isSliceT,tt23,ti23]
theorem sl_b28_0: qbuildSlice C 28 0 []=some (Lst.cv K0c.cv ⟨.exact,[],nofun⟩):=Z0g C tt23 tt29 (by decide) (by decide) rfl rfl
theorem sl_b28_1: ∀(a0:K0c),qbuildSlice C 28 1 [(0,K0c.cv a0)]=some (Lst.cv K0c.cv ⟨.exact,[a0],nofun⟩):=fun a0=>Z0g C tt23 tt29 (by decide) (by decide) (by simp only[partsOk,List.all_cons,List.all_nil,List.replicate_succ,List.replicate_zero,List.getElem?_cons_zero,List.getElem?_cons_succ,CV.shape,K0c.shape,Bool.and_true,decide_true];try rfl) rfl
theorem sl_app28(p:Hp)(b s:Lst K0c)(h:b.l.length+s.l.length<=5864062014805): xappend C false p 28 28 (Lst.cv K0c.cv b) (Lst.cv K0c.cv s)=appT K0c.cv p b s:=Z0n C K0c.cv tt23 tt29 K0c.shOk p b s (by show _*24<=_;omega) (by omega)
theorem V0i(b s:Lst K0c): Lst.cv K0c.cv b=Lst.cv K0c.cv s ↔ b=s:=⟨fun h=>Lst.inj K0c.injF h,fun h=>by rw[h]⟩
theorem sl_lenl28(tl:Tail)(l:List CV)(h:Heap): qlen C h 28 (.lst tl l)=some (I l.length):=by simp only[qlen,tt23,ti23]
theorem sl_lens28(i:Nat)(q:List Nat)(o n:Nat)(h:Heap): qlen C h 28 (.slc i q o n)=some (I n):=by simp only[qlen,tt23,ti23]
def zsl23:=zA @sl_lenl28<|zA @sl_lens28<|zA @sl_len28<|zA @sl_idx28<|zA @sl_src28<|zA @sl_app28<|zA (X1h C Y1x)<|zA (K00 C Y1x)<|zA @sl_b28_0<|zA @sl_b28_1<|Y1x
theorem sl_len29(s:Lst Int)(h:Heap): qlen C h 29 (Lst.cv I s)=some (I s.l.length):=by simp only[qlen,tt24,ti24,Lst.cv,List.length_map]
theorem sl_idx29(s:Lst Int)(p:Hp)(n:Int)(h:0<=n/\n<s.l.length): xindexAddr C p 29 (Lst.cv I s) (I n)=some (.rptr (I (nth s.l n.toNat))):=by
 have hl:n.toNat<s.l.length:=by omega
 show qindexAddr C p.h 29 (.lst s.tl (s.l.map I)) (I n)=_
 simp only[qindexAddr,tt24,ti24,tt3,List.length_map,h,and_self,if_true,List.getElem?_map,V0v hl,Option.map_some]
 rw[if_pos]
 exact rfl
theorem sl_src29(s:Lst Int)(h:Heap): srcOf C h 29 (Lst.cv I s)=some (s.l.map I):=by simp only[srcOf,tt24,ti24,Lst.cv]
theorem X1t: isSliceT C 29=true:=by simp only[isSliceT,tt24,ti24]
theorem sl_b29_0: qbuildSlice C 29 0 []=some (Lst.cv I ⟨.exact,[],nofun⟩):=Z0g C tt24 tt3 (by decide) (by decide) rfl rfl
theorem sl_b29_1: ∀(a0:Int),qbuildSlice C 29 1 [(0,I a0)]=some (Lst.cv I ⟨.exact,[a0],nofun⟩):=fun a0=>Z0g C tt24 tt3 (by decide) (by decide) (by simp only[partsOk,List.all_cons,List.all_nil,List.replicate_succ,List.replicate_zero,List.getElem?_cons_zero,List.getElem?_cons_succ,CV.shape,Bool.and_true,decide_true];try rfl) rfl
theorem sl_b29_8: ∀(a0:Int) (a1:Int) (a2:Int) (a3:Int) (a4:Int) (a5:Int) (a6:Int) (a7:Int),qbuildSlice C 29 8 [(0,I a0),(1,I a1),(2,I a2),(3,I a3),(4,I a4),(5,I a5),(6,I a6),(7,I a7)]=some (Lst.cv I ⟨.exact,[a0,a1,a2,a3,a4,a5,a6,a7],nofun⟩):=fun a0 a1 a2 a3 a4 a5 a6 a7=>Z0g C tt24 tt3 (by decide) (by decide) (by simp only[partsOk,List.all_cons,List.all_nil,List.replicate_succ,List.replicate_zero,List.getElem?_cons_zero,List.getElem?_cons_succ,CV.shape,Bool.and_true,decide_true];try rfl) rfl
theorem sl_app29(p:Hp)(b s:Lst Int)(h:b.l.length+s.l.length<=17592186044416): xappend C false p 29 29 (Lst.cv I b) (Lst.cv I s)=appT I p b s:=Z0n C I tt24 tt3 (fun _=>rfl) p b s (by show _*8<=_;omega) (by omega)
theorem X0p(b s:Lst Int): Lst.cv I b=Lst.cv I s ↔ b=s:=⟨fun h=>Lst.inj I_inj h,fun h=>by rw[h]⟩
theorem sl_lenl29(tl:Tail)(l:List CV)(h:Heap): qlen C h 29 (.lst tl l)=some (I l.length):=by simp only[qlen,tt24,ti24]
theorem sl_lens29(i:Nat)(q:List Nat)(o n:Nat)(h:Heap): qlen C h 29 (.slc i q o n)=some (I n):=by simp only[qlen,tt24,ti24]
def zsl24:=zA @sl_lenl29<|zA @sl_lens29<|zA @sl_len29<|zA @sl_idx29<|zA @sl_src29<|zA @sl_app29<|zA (X1h C X1t)<|zA (K00 C X1t)<|zA @sl_b29_0<|zA @sl_b29_1<|zA @sl_b29_8<|X1t
theorem sl_len54(s:Lst (Lst Q0b))(h:Heap): qlen C h 54 (Lst.cv (Lst.cv Q0b.cv) s)=some (I s.l.length):=by simp only[qlen,tt92,ti92,Lst.cv,List.length_map]
theorem sl_idx54(s:Lst (Lst Q0b))(p:Hp)(n:Int)(h:0<=n/\n<s.l.length): xindexAddr C p 54 (Lst.cv (Lst.cv Q0b.cv) s) (I n)=some (.rptr ((Lst.cv Q0b.cv) (nth s.l n.toNat))):=by
 have hl:n.toNat<s.l.length:=by omega
 show qindexAddr C p.h 54 (.lst s.tl (s.l.map (Lst.cv Q0b.cv))) (I n)=_
 simp only[qindexAddr,tt92,ti92,tt108,List.length_map,h,and_self,if_true,List.getElem?_map,V0v hl,Option.map_some]
 rw[if_pos]
 exact rfl
theorem sl_src54(s:Lst (Lst Q0b))(h:Heap): srcOf C h 54 (Lst.cv (Lst.cv Q0b.cv) s)=some (s.l.map (Lst.cv Q0b.cv)):=by simp only[srcOf,tt92,ti92,Lst.cv]
theorem Q1u: isSliceT C 54=true:=by simp only[isSliceT,tt92,ti92]
theorem sl_b54_1: ∀(a0:(Lst Q0b)),qbuildSlice C 54 1 [(0,(Lst.cv Q0b.cv) a0)]=some (Lst.cv (Lst.cv Q0b.cv) ⟨.exact,[a0],nofun⟩):=fun a0=>Z0g C tt92 tt108 (by decide) (by decide) (by simp only[partsOk,List.all_cons,List.all_nil,List.replicate_succ,List.replicate_zero,List.getElem?_cons_zero,List.getElem?_cons_succ,CV.shape,Lst.shape,Bool.and_true,decide_true];try rfl) rfl
theorem sl_app54(p:Hp)(b s:Lst (Lst Q0b))(h:b.l.length+s.l.length<=5864062014805): xappend C false p 54 54 (Lst.cv (Lst.cv Q0b.cv) b) (Lst.cv (Lst.cv Q0b.cv) s)=appT (Lst.cv Q0b.cv) p b s:=Z0n C (Lst.cv Q0b.cv) tt92 tt108 (fun _=>rfl) p b s (by show _*24<=_;omega) (by omega)
theorem X10(b s:Lst (Lst Q0b)): Lst.cv (Lst.cv Q0b.cv) b=Lst.cv (Lst.cv Q0b.cv) s ↔ b=s:=⟨fun h=>Lst.inj (Lst.injF Q0b.injF) h,fun h=>by rw[h]⟩
theorem sl_lenl54(tl:Tail)(l:List CV)(h:Heap): qlen C h 54 (.lst tl l)=some (I l.length):=by simp only[qlen,tt92,ti92]
theorem sl_lens54(i:Nat)(q:List Nat)(o n:Nat)(h:Heap): qlen C h 54 (.slc i q o n)=some (I n):=by simp only[qlen,tt92,ti92]
def zsl92:=zA @sl_lenl54<|zA @sl_lens54<|zA @sl_len54<|zA @sl_idx54<|zA @sl_src54<|zA @sl_app54<|zA (X1h C Q1u)<|zA (K00 C Q1u)<|zA @sl_b54_1<|Q1u
theorem sl_len78(s:Lst Q0a)(h:Heap): qlen C h 78 (Lst.cv Q0a.cv s)=some (I s.l.length):=by simp only[qlen,tt37,ti37,Lst.cv,List.length_map]
theorem sl_idx78(s:Lst Q0a)(p:Hp)(n:Int)(h:0<=n/\n<s.l.length): xindexAddr C p 78 (Lst.cv Q0a.cv s) (I n)=some (.rptr (Q0a.cv (nth s.l n.toNat))):=by
 have hl:n.toNat<s.l.length:=by omega
 show qindexAddr C p.h 78 (.lst s.tl (s.l.map Q0a.cv)) (I n)=_
 simp only[qindexAddr,tt37,ti37,tt34,List.length_map,h,and_self,if_true,List.getElem?_map,V0v hl,Option.map_some]
 rw[if_pos]
 exact Q0a.shape _
theorem sl_src78(s:Lst Q0a)(h:Heap): srcOf C h 78 (Lst.cv Q0a.cv s)=some (s.l.map Q0a.cv):=by simp only[srcOf,tt37,ti37,Lst.cv]
theorem K1v: isSliceT C 78=true:=by simp only[isSliceT,tt37,ti37]
theorem sl_b78_0: qbuildSlice C 78 0 []=some (Lst.cv Q0a.cv ⟨.exact,[],nofun⟩):=Z0g C tt37 tt34 (by decide) (by decide) rfl rfl
theorem sl_b78_1: ∀(a0:Q0a),qbuildSlice C 78 1 [(0,Q0a.cv a0)]=some (Lst.cv Q0a.cv ⟨.exact,[a0],nofun⟩):=fun a0=>Z0g C tt37 tt34 (by decide) (by decide) (by simp only[partsOk,List.all_cons,List.all_nil,List.replicate_succ,List.replicate_zero,List.getElem?_cons_zero,List.getElem?_cons_succ,CV.shape,Q0a.shape,Bool.and_true,decide_true];try rfl) rfl
theorem sl_app78(p:Hp)(b s:Lst Q0a)(h:b.l.length+s.l.length<=1466015503701): xappend C false p 78 78 (Lst.cv Q0a.cv b) (Lst.cv Q0a.cv s)=appT Q0a.cv p b s:=Z0n C Q0a.cv tt37 tt34 Q0a.shOk p b s (by show _*96<=_;omega) (by omega)
theorem K0q(b s:Lst Q0a): Lst.cv Q0a.cv b=Lst.cv Q0a.cv s ↔ b=s:=⟨fun h=>Lst.inj Q0a.injF h,fun h=>by rw[h]⟩
theorem sl_lenl78(tl:Tail)(l:List CV)(h:Heap): qlen C h 78 (.lst tl l)=some (I l.length):=by simp only[qlen,tt37,ti37]
theorem sl_lens78(i:Nat)(q:List Nat)(o n:Nat)(h:Heap): qlen C h 78 (.slc i q o n)=some (I n):=by simp only[qlen,tt37,ti37]
def zsl37:=zA @sl_lenl78<|zA @sl_lens78<|zA @sl_len78<|zA @sl_idx78<|zA @sl_src78<|zA @sl_app78<|zA (X1h C K1v)<|zA (K00 C K1v)<|zA @sl_b78_0<|zA @sl_b78_1<|K1v
end Go.Proofs.YtpchcfkebljopaaGreat
end
section
namespace Go.Cl
open Go.RowKit Go.ChangeShapes Go.WideShapes Go.ChangeAt
def consB(P:Program): Nat->List Field->Nat->Bool
 |off,[],tot=>off==tot
 |off,f::l,tot=>f.offset==off&&consB P (off+P.cellsOf f.type) l tot
def sup(P:Program): Nat->TypeId->Bool
 |0,_=>false
 |n+1,t=>match P.underlying t with
  |some (.int _)|some .bool|some (.float _)|some .string=>true
  |some (.struct fs)=>consB P 0 fs.toList (P.cellsOf t)&&fs.toList.all fun f=>sup P n f.type
  |some (.array c e)=>(P.cellsOf t==c*P.cellsOf e)&&sup P n e
  |_=>false
def All2(r:TypeId->CV->Prop): List TypeId->List CV->Prop
 |[],[]=>True
 |t::ts,v::l=>r t v/\All2 r ts l
 |_,_=>False
def Ty(P:Program): Nat->TypeId->CV->Prop
 |0,_,_=>False
 |n+1,t,v=>match P.underlying t with
  |some (.int k)=>∃i,v=.sc (.int k i)/\(Lit.int k i).wf=true
  |some .bool=>∃b,v=.sc (.bool b)
  |some (.float k)=>∃b,v=.sc (.float k b)/\(Lit.float k b).wf=true
  |some .string=>∃s,v=.sc (.string s)/\s.size<=maxLen
  |some (.struct fs)=>∃l,v=.agg l/\All2 (Ty P n) (fs.toList.map (·.type)) l
  |some (.array c e)=>∃l,v=.agg l/\l.length=c/\∀x∈l,Ty P n e x
  |_=>False
variable {H:Type} {enc:TypeId×Value->H} {P:Program} {w:World} {base:Nat} {spare:Nat->Bool} {held:Bool}
theorem K1h{n fuel:Nat}(S:St)(ih:∀t cs x,sup P n t=true->DataW.trod enc P w base spare held fuel t cs=some x->∃v,FR S v cs/\Ty P n t v)(cs:List Value):
  ∀(fl:List Field) (off tot:Nat) (xs:List (DataW H×List MemPlace)),consB P off fl tot=true->cs.length=tot->(fl.all fun f=>sup P n f.type)=true->
   (fl.mapM fun f=>DataW.trod enc P w base spare held fuel f.type ((cs.drop f.offset).take (P.cellsOf f.type)))=some xs->∃l,FRs S l (cs.drop off)/\All2 (Ty P n) (fl.map (·.type)) l
 |[],off,tot,xs,hc,hl,_,_=>by
  simp only[consB,beq_iff_eq]at hc
  subst hc
  exact⟨[],by simp[FRs,hl],trivial⟩
 |f::fl,off,tot,xs,hc,hl,ha,hm=>by
  simp only[consB,Bool.and_eq_true,beq_iff_eq]at hc
  simp only[List.all_cons,Bool.and_eq_true]at ha
  simp only[List.mapM_cons,Option.pure_def,Option.bind_eq_bind,Option.bind_eq_some_iff]at hm
  obtain⟨y,hy,ys,hys,_⟩:=hm
  obtain⟨v,hv,tv⟩:=ih _ _ _ ha.1 hy
  obtain⟨l,hl',tl⟩:=K1h S ih cs fl _ tot ys hc.2 hl ha.2 hys
  refine⟨v::l,?_,tv,tl⟩
  simp only[FRs]
  refine⟨_,_,?_,hv,hl'⟩
  rw[hc.1,<- List.drop_drop,List.take_append_drop]
theorem X1m{n fuel sz:Nat}{e:TypeId}(S:St)(ih:∀t cs x,sup P n t=true->DataW.trod enc P w base spare held fuel t cs=some x->∃v,FR S v cs/\Ty P n t v)(he:sup P n e=true)(cs:List Value):
  ∀(c k:Nat) (xs:List (DataW H×List MemPlace)),cs.length=(k+c)*sz->
   ((List.range' k c).mapM fun i=>DataW.trod enc P w base spare held fuel e ((cs.drop (i*sz)).take sz))=some xs->∃l,FRs S l (cs.drop (k*sz))/\l.length=c/\∀x∈l,Ty P n e x
 |0,k,xs,hl,_=>⟨[],by simp[FRs,hl],rfl,by simp⟩
 |c+1,k,xs,hl,hm=>by
  rw[List.range'_succ]at hm
  simp only[List.mapM_cons,Option.pure_def,Option.bind_eq_bind,Option.bind_eq_some_iff]at hm
  obtain⟨y,hy,ys,hys,_⟩:=hm
  obtain⟨v,hv,tv⟩:=ih _ _ _ he hy
  obtain⟨l,hl',hn,tl⟩:=X1m S ih he cs c (k+1) ys (by rw[hl];congr 1;omega) hys
  refine⟨v::l,?_,by simp[hn],by simpa using⟨tv,tl⟩⟩
  simp only[FRs]
  refine⟨_,_,?_,hv,hl'⟩
  rw[Nat.succ_mul,<- List.drop_drop,List.take_append_drop]
theorem read(S:St): ∀(n:Nat) (t:TypeId) (fuel:Nat) (cs:List Value) (x:DataW H×List MemPlace),sup P n t=true->DataW.trod enc P w base spare held fuel t cs=some x->∃v,FR S v cs/\Ty P n t v
 |0,t,_,_,_,hs,_=>by simp[sup]at hs
 |n+1,t,0,_,_,_,h=>by simp[DataW.trod]at h
 |n+1,t,fuel+1,cs,x,hs,h=>by
  have h0:=h
  unfold DataW.trod at h
  simp only[sup]at hs
  cases hu:P.underlying t with
  |none=>rw[hu]at hs;simp at hs
  |some u=>
   rw[hu]at hs h
   cases u with
   |int k=>
    obtain⟨i,rfl,_,hw⟩:=DataW.trod_int hu h0
    exact⟨.sc (.int k i),by simp[FR,plain],by simp only[Ty,hu];exact⟨i,rfl,hw⟩⟩
   |bool=>
    obtain⟨b,rfl,_⟩:=DataW.trod_bool hu h0
    exact⟨.sc (.bool b),by simp[FR,plain],by simp only[Ty,hu];exact⟨b,rfl⟩⟩
   |string=>
    obtain⟨s,rfl,_,hw⟩:=DataW.trod_string hu h0
    exact⟨.sc (.string s),by simp[FR,plain],by simp only[Ty,hu];exact⟨s,rfl,hw⟩⟩
   |float k=>
    simp only at h
    have hc:∃b,cs=[.float k b]/\(Lit.float k b).wf=true:=by
     clear hs h0
     split at h<;>try(rename_i e;cases e;done)
     all_goals first|(cases h;done)|skip
     ·rename_i k1 k2 b e
      split at h
      ·rename_i hk
       cases e
       obtain⟨rfl,hw⟩:=hk
       exact⟨b,rfl,hw⟩
      ·cases h
    obtain⟨b,rfl,hw⟩:=hc
    exact⟨.sc (.float k b),by simp[FR,plain],by simp only[Ty,hu];exact⟨b,rfl,hw⟩⟩
   |struct fs=>
    simp only[Bool.and_eq_true]at hs
    simp only at h
    split at h
    ·rename_i hlen
     simp only[Option.map_eq_some_iff]at h
     obtain⟨xs,hx,_⟩:=h
     obtain⟨l,hl,tl⟩:=K1h S (fun t cs x=>read S n t fuel cs x) cs fs.toList 0 _ xs hs.1 hlen hs.2 hx
     exact⟨.agg l,by simpa[FR]using hl,by simp only[Ty,hu];exact⟨l,rfl,tl⟩⟩
    ·cases h
   |array c e=>
    simp only[Bool.and_eq_true,beq_iff_eq]at hs
    simp only at h
    split at h
    ·rename_i hlen
     simp only[Option.map_eq_some_iff]at h
     obtain⟨xs,hx,_⟩:=h
     rw[List.range_eq_range']at hx
     obtain⟨l,hl,hn,tl⟩:=X1m S (fun t cs x=>read S n t fuel cs x) hs.2 cs c 0 xs (by rw[hlen,hs.1];simp) hx
     exact⟨.agg l,by simpa[FR]using hl,by simp only[Ty,hu];exact⟨l,rfl,hn,tl⟩⟩
    ·cases h
   |_=>simp at hs
theorem V1x{a:Addr}(ha:a.spot=none)(n:Nat): a.add n=⟨a.block,a.off+n,none⟩:=by
 cases a;simp only at ha;subst ha;unfold Addr.add;split<;>simp_all
theorem lies_cells{a:Addr}(ha:a.spot=none){m:Nat}{cs:List Value}(h:w.cells? base a m=some cs): (S0 w).lies a.block a.off cs/\cs.length=m:=by
 unfold World.cells? at h
 split at h
 ·refine⟨fun j u hu=>?_,by simpa using mapM_some_length h⟩
  have hj:j<cs.length:=by
   rcases Nat.lt_or_ge j cs.length with q|q
   ·exact q
   ·rw[List.getElem?_eq_none q]at hu;cases hu
  have hl:cs.length=m:=by simpa using mapM_some_length h
  have:=mapM_some_get h j j (List.getElem?_range (by omega))
  rw[hu]at this
  simp only[S0]
  rw[<- this]
  rw[V1x ha]
 ·cases h
end Go.Cl
end
section
namespace Go.Cl
open Go.RowKit Go.ChangeShapes Go.WideShapes Go.ChangeAt
def sup2(P:Program): Nat->TypeId->Bool
 |0,_=>false
 |n+1,t=>match P.underlying t with
  |some (.int _)|some .bool|some (.float _)|some .string=>true
  |some (.slice e)=>Nat.blt 0 (P.cellsOf e)&&sup2 P n e
  |some (.struct fs)=>consB P 0 fs.toList (P.cellsOf t)&&fs.toList.all fun f=>sup2 P n f.type
  |some (.array c e)=>(P.cellsOf t==c*P.cellsOf e)&&sup2 P n e
  |_=>false
def Ty2(P:Program): Nat->TypeId->CV->Prop
 |0,_,_=>False
 |n+1,t,v=>match P.underlying t with
  |some (.int k)=>∃i,v=.sc (.int k i)/\(Lit.int k i).wf=true
  |some .bool=>∃b,v=.sc (.bool b)
  |some (.float k)=>∃b,v=.sc (.float k b)/\(Lit.float k b).wf=true
  |some .string=>∃s,v=.sc (.string s)/\s.size<=maxLen
  |some (.slice e)=>∃tl l,v=.lst tl l/\(∀x∈l,Ty2 P n e x)/\(tl=.view\/tl=.nil/\l=[])
  |some (.struct fs)=>∃l,v=.agg l/\All2 (Ty2 P n) (fs.toList.map (·.type)) l
  |some (.array c e)=>∃l,v=.agg l/\l.length=c/\∀x∈l,Ty2 P n e x
  |_=>False
theorem All2.mono{r r':TypeId->CV->Prop}(h:∀t v,r t v->r' t v): ∀ts l,All2 r ts l->All2 r' ts l
 |[],[],_=>trivial
 |_::ts,_::l,⟨a,b⟩=>⟨h _ _ a,All2.mono h ts l b⟩
 |[],_::_,k=>k.elim
 |_::_,[],k=>k.elim
theorem Ty.up{P:Program}: ∀(n:Nat) (t:TypeId) (v:CV),Ty P n t v->Ty2 P n t v
 |0,_,_,h=>h.elim
 |n+1,t,v,h=>by
  simp only[Ty]at h
  simp only[Ty2]
  cases hu:P.underlying t with
  |none=>rw[hu]at h;exact h.elim
  |some u=>
   rw[hu]at h
   cases u with
   |struct fs=>
    obtain⟨l,hl,ha⟩:=h
    exact⟨l,hl,All2.mono (fun t v=>Ty.up n t v) _ _ ha⟩
   |array c e=>
    obtain⟨l,hl,hn,ha⟩:=h
    exact⟨l,hl,hn,fun x hx=>Ty.up n _ x (ha x hx)⟩
   |int k=>exact h
   |bool=>exact h
   |float k=>exact h
   |string=>exact h
   |_=>exact h.elim
variable {H:Type} {enc:TypeId×Value->H} {P:Program} {w:World} {base:Nat} {spare:Nat->Bool} {held:Bool}
theorem Q1g{α β:Type}{f:α->Option β}{x:α}{l:List α}{ys:List β}(h:(x::l).mapM f=some ys): ∃y,f x=some y:=by
 simp only[List.mapM_cons,Option.pure_def,Option.bind_eq_bind,Option.bind_eq_some_iff]at h
 obtain⟨y,hy,_⟩:=h
 exact⟨y,hy⟩
theorem spot_of{a:Addr}{m k:Nat}{cs:List Value}(hm:0<m)(h:w.cells? base (a.add k) m=some cs)(hk:k=0): a.spot=none:=by
 subst hk
 obtain⟨m,rfl⟩:∃j,m=j+1:=⟨m-1,by omega⟩
 unfold World.cells? at h
 split at h
 ·rw[List.range_eq_range',List.range'_succ]at h
  obtain⟨y,hy⟩:=Q1g h
  simp only[Addr.add,if_true,World.cell?]at hy
  split at hy
  ·split at hy
   ·cases hy
   ·rename_i q;cases hs:a.spot<;>simp_all
  ·cases hy
 ·cases h
theorem Z1h{n fuel sz:Nat}{e:TypeId}{a:Addr}(ih:∀cs x,DataW.trod enc P w base spare held fuel e cs=some x->∃v,FR (S0 w) v cs/\Ty2 P n e v)(hsz:P.cellsOf e=sz)(ha:a.spot=none):
  ∀(c k:Nat) (xs:List (DataW H×List MemPlace)),
   ((List.range' k c).mapM fun i=>(w.cells? base (a.add (i*sz)) sz).bind (DataW.trod enc P w base spare held fuel e))=some xs->
    ∃l es,FRs (S0 w) l es/\l.length=c/\(∀x∈l,Ty2 P n e x)/\(S0 w).lies a.block (a.off+k*sz) es/\es.length=c*sz/\∀x∈l,x.size=sz
 |0,k,xs,_=>⟨[],[],by simp[FRs],rfl,by simp,fun j u hu=>by simp at hu,by simp,by simp⟩
 |c+1,k,xs,hm=>by
  rw[List.range'_succ]at hm
  simp only[List.mapM_cons,Option.pure_def,Option.bind_eq_bind,Option.bind_eq_some_iff]at hm
  obtain⟨y,⟨cs,hcs,hy⟩,ys,hys,_⟩:=hm
  obtain⟨v,hv,tv⟩:=ih cs y hy
  obtain⟨l,es,h1,h2,h3,h4,h5,h6⟩:=Z1h ih hsz ha c (k+1) ys hys
  obtain⟨hl,hn⟩:=lies_cells (a:=a.add (k*sz)) (by rw[V1x ha]) hcs
  rw[V1x ha]at hl
  refine⟨v::l,cs++es,by simp only[FRs];exact⟨_,_,rfl,hv,h1⟩,by simp[h2],by simpa using⟨tv,h3⟩,fun j u hu=>?_,by simp[hn,h5,Nat.succ_mul];omega,?_⟩
  ·rw[List.getElem?_append]at hu
   split at hu
   ·have:=hl j u hu
    simpa[Nat.add_assoc]using this
   ·rename_i hj
    have:=h4 _ u hu
    rw[hn]at this hj
    rw[<- this]
    congr 1
    rw[Nat.succ_mul];omega
  ·intro x hx
   rcases List.mem_cons.1 hx with rfl|hx
   ·rw[<- FR.length _ _ hv,hn]
   ·exact h6 x hx
theorem Z07{n fuel:Nat}(S:St)(ih:∀t cs x,sup2 P n t=true->DataW.trod enc P w base spare held fuel t cs=some x->∃v,FR S v cs/\Ty2 P n t v)(cs:List Value):
  ∀(fl:List Field) (off tot:Nat) (xs:List (DataW H×List MemPlace)),consB P off fl tot=true->cs.length=tot->(fl.all fun f=>sup2 P n f.type)=true->
   (fl.mapM fun f=>DataW.trod enc P w base spare held fuel f.type ((cs.drop f.offset).take (P.cellsOf f.type)))=some xs->∃l,FRs S l (cs.drop off)/\All2 (Ty2 P n) (fl.map (·.type)) l
 |[],off,tot,xs,hc,hl,_,_=>by
  simp only[consB,beq_iff_eq]at hc
  subst hc
  exact⟨[],by simp[FRs,hl],trivial⟩
 |f::fl,off,tot,xs,hc,hl,ha,hm=>by
  simp only[consB,Bool.and_eq_true,beq_iff_eq]at hc
  simp only[List.all_cons,Bool.and_eq_true]at ha
  simp only[List.mapM_cons,Option.pure_def,Option.bind_eq_bind,Option.bind_eq_some_iff]at hm
  obtain⟨y,hy,ys,hys,_⟩:=hm
  obtain⟨v,hv,tv⟩:=ih _ _ _ ha.1 hy
  obtain⟨l,hl',tl⟩:=Z07 S ih cs fl _ tot ys hc.2 hl ha.2 hys
  refine⟨v::l,?_,tv,tl⟩
  simp only[FRs]
  refine⟨_,_,?_,hv,hl'⟩
  rw[hc.1,<- List.drop_drop,List.take_append_drop]
theorem V1h{n fuel sz:Nat}{e:TypeId}(S:St)(ih:∀t cs x,sup2 P n t=true->DataW.trod enc P w base spare held fuel t cs=some x->∃v,FR S v cs/\Ty2 P n t v)(he:sup2 P n e=true)(cs:List Value):
  ∀(c k:Nat) (xs:List (DataW H×List MemPlace)),cs.length=(k+c)*sz->
   ((List.range' k c).mapM fun i=>DataW.trod enc P w base spare held fuel e ((cs.drop (i*sz)).take sz))=some xs->∃l,FRs S l (cs.drop (k*sz))/\l.length=c/\∀x∈l,Ty2 P n e x
 |0,k,xs,hl,_=>⟨[],by simp[FRs,hl],rfl,by simp⟩
 |c+1,k,xs,hl,hm=>by
  rw[List.range'_succ]at hm
  simp only[List.mapM_cons,Option.pure_def,Option.bind_eq_bind,Option.bind_eq_some_iff]at hm
  obtain⟨y,hy,ys,hys,_⟩:=hm
  obtain⟨v,hv,tv⟩:=ih _ _ _ he hy
  obtain⟨l,hl',hn,tl⟩:=V1h S ih he cs c (k+1) ys (by rw[hl];congr 1;omega) hys
  refine⟨v::l,?_,by simp[hn],by simpa using⟨tv,tl⟩⟩
  simp only[FRs]
  refine⟨_,_,?_,hv,hl'⟩
  rw[Nat.succ_mul,<- List.drop_drop,List.take_append_drop]
theorem read2: ∀(n:Nat) (t:TypeId) (fuel:Nat) (cs:List Value) (x:DataW H×List MemPlace),sup2 P n t=true->DataW.trod enc P w base (fun _=>true) held fuel t cs=some x->∃v,FR (S0 w) v cs/\Ty2 P n t v
 |0,t,_,_,_,hs,_=>by simp[sup2]at hs
 |n+1,t,0,_,_,_,h=>by simp[DataW.trod]at h
 |n+1,t,fuel+1,cs,x,hs,h=>by
  have h0:=h
  simp only[sup2]at hs
  cases hu:P.underlying t with
  |none=>rw[hu]at hs;simp at hs
  |some u=>
   rw[hu]at hs
   cases u with
   |int k=>
    obtain⟨v,h1,h2⟩:=read (S0 w) (n+1) t (fuel+1) cs x (by simp only[sup,hu]) h0
    exact⟨v,h1,Ty.up _ _ _ h2⟩
   |bool=>
    obtain⟨v,h1,h2⟩:=read (S0 w) (n+1) t (fuel+1) cs x (by simp only[sup,hu]) h0
    exact⟨v,h1,Ty.up _ _ _ h2⟩
   |string=>
    obtain⟨v,h1,h2⟩:=read (S0 w) (n+1) t (fuel+1) cs x (by simp only[sup,hu]) h0
    exact⟨v,h1,Ty.up _ _ _ h2⟩
   |float k=>
    obtain⟨v,h1,h2⟩:=read (S0 w) (n+1) t (fuel+1) cs x (by simp only[sup,hu]) h0
    exact⟨v,h1,Ty.up _ _ _ h2⟩
   |slice e=>
    simp only[Bool.and_eq_true,Nat.blt_eq]at hs
    obtain⟨hpos,hs⟩:=hs
    simp only[DataW.trod,hu]at h
    split at h<;>try(rename_i e1 _;cases e1;done)
    all_goals try(cases h;done)
    all_goals try(rename_i e1;cases e1;done)
    ·exact⟨.lst .nil [],by simp[FR,Tail.may],by simp only[Ty2,hu];exact⟨.nil,[],rfl,by simp,.inr ⟨rfl,rfl⟩⟩⟩
    ·rename_i e' a len cap e1
     cases e1
     split at h
     ·rename_i hc
      obtain⟨_,hlc,_⟩:=hc
      rw[Option.bind_eq_some_iff]at h
      obtain⟨xs,hx,hr⟩:=h
      simp only[if_true,Option.map_eq_some_iff]at hr
      obtain⟨rs,hr,_⟩:=hr
      by_cases h0:cap=0
      ·subst h0
       obtain rfl:len=0:=by omega
       exact⟨.lst .view [],by simp[FR,Tail.may],by simp only[Ty2,hu];exact⟨.view,[],rfl,by simp,.inl rfl⟩⟩
      have ha:a.spot=none:=by
       rcases Nat.eq_zero_or_pos len with h1|h1
       ·subst h1
        obtain⟨c,hc⟩:∃c,cap-0=c+1:=⟨cap-1,by omega⟩
        rw[hc,List.range_eq_range',List.range'_succ]at hr
        obtain⟨y,hy⟩:=Q1g hr
        simp only[Option.bind_eq_some_iff]at hy
        obtain⟨cs',hcs,_⟩:=hy
        exact spot_of hpos hcs (by simp)
       ·obtain⟨c,hc⟩:∃c,len=c+1:=⟨len-1,by omega⟩
        rw[hc,List.range_eq_range',List.range'_succ]at hx
        obtain⟨y,hy⟩:=Q1g hx
        simp only[Option.bind_eq_some_iff]at hy
        obtain⟨cs',hcs,_⟩:=hy
        exact spot_of hpos hcs (by simp)
      rw[List.range_eq_range']at hx
      obtain⟨l,es,h1,h2,h3,h4,h5,h6⟩:=Z1h (fun cs x=>read2 n e fuel cs x hs) rfl ha len 0 xs hx
      subst h2
      refine⟨.lst .view l,?_,by simp only[Ty2,hu];exact⟨.view,l,rfl,h3,.inl rfl⟩⟩
      simp only[FR]
      refine .inr ⟨a.block,a.off,cap,P.cellsOf e,es,?_,hlc,h1,by simpa using h4,h6,trivial⟩
      cases a;simp only at ha;subst ha;rfl
     ·cases h
   |struct fs=>
    simp only[Bool.and_eq_true]at hs
    unfold DataW.trod at h
    rw[hu]at h
    simp only at h
    split at h
    ·rename_i hlen
     simp only[Option.map_eq_some_iff]at h
     obtain⟨xs,hx,_⟩:=h
     obtain⟨l,hl,tl⟩:=Z07 (S0 w) (fun t cs x=>read2 n t fuel cs x) cs fs.toList 0 _ xs hs.1 hlen hs.2 hx
     exact⟨.agg l,by simpa[FR]using hl,by simp only[Ty2,hu];exact⟨l,rfl,tl⟩⟩
    ·cases h
   |array c e=>
    simp only[Bool.and_eq_true,beq_iff_eq]at hs
    unfold DataW.trod at h
    rw[hu]at h
    simp only at h
    split at h
    ·rename_i hlen
     simp only[Option.map_eq_some_iff]at h
     obtain⟨xs,hx,_⟩:=h
     rw[List.range_eq_range']at hx
     obtain⟨l,hl,hn,tl⟩:=V1h (S0 w) (fun t cs x=>read2 n t fuel cs x) hs.2 cs c 0 xs (by rw[hlen,hs.1];simp) hx
     exact⟨.agg l,by simpa[FR]using hl,by simp only[Ty2,hu];exact⟨l,rfl,hn,tl⟩⟩
    ·cases h
   |_=>simp at hs
theorem Z0z{n:Nat}{t:TypeId}{v:Value}{d:DataW H}{ps:List MemPlace}{r:Reach}{b0:Nat}(hs:sup2 P n t=true)(hv:Value.okWide P w r b0 t v)(h:DataW.Trod enc P w base (fun _=>true) held t v d ps): ∃c,VR (S0 w) c v/\Ty2 P n t c:=by
 obtain⟨fuel,hf⟩:=h
 obtain⟨c,hc,ht⟩:=read2 n t fuel _ _ hs hf
 refine⟨c,⟨hc,?_⟩,ht⟩
 cases n with
 |zero=>simp[sup2]at hs
 |succ n=>
  simp only[sup2]at hs
  simp only[Ty2]at ht
  unfold Value.okWide at hv
  cases hu:P.underlying t with
  |none=>rw[hu]at hs;simp at hs
  |some u=>
   rw[hu]at hs ht hv
   cases u with
   |int k=>obtain⟨i,rfl,_⟩:=ht;simp only[Cell.okWide,Cell.ok,hu]at hv;cases v<;>simp_all[CV.isAgg]
   |bool=>obtain⟨i,rfl⟩:=ht;simp only[Cell.okWide,Cell.ok,hu]at hv;cases v<;>simp_all[CV.isAgg]
   |float k=>obtain⟨i,rfl,_⟩:=ht;simp only[Cell.okWide,Cell.ok,hu]at hv;cases v<;>simp_all[CV.isAgg]
   |string=>obtain⟨i,rfl,_⟩:=ht;simp only[Cell.okWide,Cell.ok,hu]at hv;cases v<;>simp_all[CV.isAgg]
   |slice e=>obtain⟨tl,l,rfl,_⟩:=ht;simp only[Cell.okWide,Cell.ok,hu]at hv;cases v<;>simp_all[CV.isAgg]
   |struct fs=>obtain⟨l,rfl,_⟩:=ht;obtain⟨cs,rfl,_⟩:=hv;simp[CV.isAgg]
   |array c e=>obtain⟨l,rfl,_⟩:=ht;obtain⟨cs,rfl,_⟩:=hv;simp[CV.isAgg]
   |_=>simp at hs
end Go.Cl
end
section
namespace Go.Proofs.YtpchcfkebljopaaGreat
open Go.Cl Go Go.ChangeShapes Go.WideShapes Go.ChangeAt Go.RowKit
set_option maxRecDepth 100000
set_option linter.constructorNameAsVariable false
theorem X0h{r:TypeId->CV->Prop}{t:TypeId}{ts:List TypeId}{l:List CV}(h:All2 r (t::ts) l): ∃v l',l=v::l'/\r t v/\All2 r ts l':=by
 cases l with
 |nil=>exact h.elim
 |cons v l'=>exact⟨v,l',rfl,h⟩
theorem Q1a{r:TypeId->CV->Prop}{l:List CV}(h:All2 r [] l): l=[]:=by
 cases l with
 |nil=>rfl
 |cons v l'=>exact h.elim
theorem of_list{α:Type}{f:α->CV}: ∀{l:List CV},(∀x∈l,∃y,x=f y)->∃ys:List α,l=ys.map f
 |[],_=>⟨[],rfl⟩
 |v::l,h=>by
  obtain⟨x,rfl⟩:=h v (.head _)
  obtain⟨xs,rfl⟩:=of_list (l:=l) (fun y hy=>h y (.tail _ hy))
  exact⟨x::xs,rfl⟩
theorem K1a{α:Type}{f:α->CV}{P:Program}{n:Nat}{t e:TypeId}{v:CV}(hu:P.underlying t=some (.slice e))(he:∀x,Ty2 P n e x->∃y:α,x=f y)(h:Ty2 P (n+1) t v): ∃s:Lst α,v=s.cv f/\(s.tl=.view\/s.tl=.nil):=by
 simp only[Ty2,hu]at h
 obtain⟨tl,l,rfl,hl,ht⟩:=h
 obtain⟨ys,rfl⟩:=of_list (fun x hx=>he x (hl x hx))
 rcases ht with rfl|⟨rfl,h0⟩
 ·exact⟨⟨.view,ys,nofun⟩,rfl,.inl rfl⟩
 ·exact⟨⟨.nil,ys,fun _=>by simpa using h0⟩,rfl,.inr rfl⟩
def inI(i:Int): Prop:=-9223372036854775808<=i/\i<=9223372036854775807
theorem of_int{P:Program}{n:Nat}{t:TypeId}{v:CV}(hu:P.underlying t=some (.int .i64))(h:Ty2 P (n+1) t v): ∃i,v=I i/\inI i:=by
 simp only[Ty2,hu]at h
 obtain⟨i,rfl,hw⟩:=h
 simp only[Lit.wf,Bool.and_eq_true,decide_eq_true_eq]at hw
 exact⟨i,rfl,hw⟩
theorem Q02{P:Program}{n:Nat}{t:TypeId}{v:CV}{fs:Array Field}(hu:P.underlying t=some (.struct fs))(h:Ty2 P (n+1) t v): ∃l,v=.agg l/\All2 (Ty2 P n) (fs.toList.map (·.type)) l:=by
 simp only[Ty2,hu]at h
 exact h
theorem a3{n:Nat}{v:CV}(h:Ty2 Tryz.prog (n+1) 3 v): ∃i,v=I i/\inI i:=of_int Tryz.underlying3 h
theorem a24{n:Nat}{v:CV}(h:Ty2 Tryz.prog (n+2) 29 v): ∃s:Lst Int,v=s.cv I/\(s.tl=.view\/s.tl=.nil):=K1a Tryz.underlying29 (fun _ h=>let⟨i,e,_⟩:=a3 h;⟨i,e⟩) h
theorem a31{n:Nat}{v:CV}(h:Ty2 Tryz.prog (n+2) 92 v): ∃x:V0b,v=x.cv:=by
 obtain⟨l,rfl,hs⟩:=Q02 Tryz.underlying92 h
 replace h:=hs
 obtain⟨v0,l0,rfl,h0,h⟩:=X0h h
 obtain⟨v1,l1,rfl,h1,h⟩:=X0h h
 obtain⟨v2,l2,rfl,h2,h⟩:=X0h h
 obtain rfl:=Q1a h
 obtain⟨x0,rfl,_⟩:=a3 (n:=n) h0
 obtain⟨x1,rfl,_⟩:=a3 (n:=n) h1
 obtain⟨x2,rfl,_⟩:=a3 (n:=n) h2
 exact⟨⟨x0,x1,x2⟩,rfl⟩
theorem a22{n:Nat}{v:CV}(h:Ty2 Tryz.prog (n+3) 22 v): ∃s:Lst V0b,v=s.cv V0b.cv/\(s.tl=.view\/s.tl=.nil):=K1a Tryz.underlying22 (fun _ h=>a31 h) h
theorem a58{n:Nat}{v:CV}(h:Ty2 Tryz.prog (n+3) 25 v): ∃s:Lst (Lst Int),v=s.cv (Lst.cv I)/\(s.tl=.view\/s.tl=.nil):=K1a Tryz.underlying25 (fun _ h=>let⟨i,e,_⟩:=a24 h;⟨i,e⟩) h
theorem a57{n:Nat}{v:CV}(h:Ty2 Tryz.prog (n+4) 24 v): ∃x:V0a,v=x.cv/\inI x.Players:=by
 obtain⟨l,rfl,hs⟩:=Q02 Tryz.underlying24 h
 replace h:=hs
 obtain⟨v0,l0,rfl,h0,h⟩:=X0h h
 obtain⟨v1,l1,rfl,h1,h⟩:=X0h h
 obtain⟨v2,l2,rfl,h2,h⟩:=X0h h
 obtain⟨v3,l3,rfl,h3,h⟩:=X0h h
 obtain⟨v4,l4,rfl,h4,h⟩:=X0h h
 obtain⟨v5,l5,rfl,h5,h⟩:=X0h h
 obtain⟨v6,l6,rfl,h6,h⟩:=X0h h
 obtain⟨v7,l7,rfl,h7,h⟩:=X0h h
 obtain rfl:=Q1a h
 obtain⟨x0,rfl,w0⟩:=a3 (n:=n+2) h0
 obtain⟨x1,rfl,_⟩:=a3 (n:=n+2) h1
 obtain⟨x2,rfl,_⟩:=a3 (n:=n+2) h2
 obtain⟨x3,rfl,_⟩:=a3 (n:=n+2) h3
 obtain⟨x4,rfl,_⟩:=a3 (n:=n+2) h4
 obtain⟨x5,rfl,_⟩:=a3 (n:=n+2) h5
 obtain⟨x6,rfl,_⟩:=a3 (n:=n+2) h6
 obtain⟨x7,rfl,_⟩:=a22 (n:=n) h7
 exact⟨⟨x0,x1,x2,x3,x4,x5,x6,x7⟩,rfl,w0⟩
theorem of_bool{P:Program}{n:Nat}{t:TypeId}{v:CV}(hu:P.underlying t=some .bool)(h:Ty2 P (n+1) t v): ∃b,v=Bo b:=by
 simp only[Ty2,hu]at h
 exact h
theorem a36{n:Nat}{v:CV}(h:Ty2 Tryz.prog (n+2) 62 v): ∃x:K0b,v=x.cv:=by
 obtain⟨l,rfl,hs⟩:=Q02 Tryz.underlying62 h
 replace h:=hs
 obtain⟨v0,l0,rfl,h0,h⟩:=X0h h
 obtain⟨v1,l1,rfl,h1,h⟩:=X0h h
 obtain⟨v2,l2,rfl,h2,h⟩:=X0h h
 obtain rfl:=Q1a h
 obtain⟨x0,rfl,_⟩:=a3 (n:=n) h0
 obtain⟨x1,rfl,_⟩:=a3 (n:=n) h1
 obtain⟨x2,rfl,_⟩:=a3 (n:=n) h2
 exact⟨⟨x0,x1,x2⟩,rfl⟩
theorem a110{n:Nat}{v:CV}(h:Ty2 Tryz.prog (n+3) 64 v): ∃x:Q0b,v=x.cv:=by
 obtain⟨l,rfl,hs⟩:=Q02 Tryz.underlying64 h
 replace h:=hs
 obtain⟨v0,l0,rfl,h0,h⟩:=X0h h
 obtain⟨v1,l1,rfl,h1,h⟩:=X0h h
 obtain rfl:=Q1a h
 obtain⟨x0,rfl⟩:=of_bool (n:=n+1) Tryz.underlying4 h0
 obtain⟨x1,rfl⟩:=a36 (n:=n) h1
 exact⟨⟨x0,x1⟩,rfl⟩
theorem a108{n:Nat}{v:CV}(h:Ty2 Tryz.prog (n+4) 26 v): ∃s:Lst Q0b,v=s.cv Q0b.cv/\(s.tl=.view\/s.tl=.nil):=K1a Tryz.underlying26 (fun _ h=>a110 h) h
end Go.Proofs.YtpchcfkebljopaaGreat
end
section
namespace Go.Proofs.YtpchcfkebljopaaGreat
open Go.Cl Go Go.ChangeShapes Go.WideShapes Go.ChangeAt Go.RowKit
theorem Tryz.own: ownKnob Tryz.prog.godebug=none:=by kernel_rfl
theorem Tryz.laidOut: laidOutB Tryz.prog=true:=by kernel_rfl
theorem con_true{f:FuncId}{R:Rel}(h:Con C f R){args:List CV}{vals:List Value}{w:World}(hR:R args ⟨0,.e⟩ (.ret (Bo true) ⟨0,.e⟩))(hV:VRs (S0 w) args vals):
  Calls C.P f vals.toArray w fun e w'=>e=.returned (.bool true)/\Below w.heap.size w w':=by
 have r0:XRel w w.heap.size (S0 w) ⟨0,.e⟩ w:=⟨R_init w,rfl,fun i sh v h=>by simp[Cl.T.get_e]at h⟩
 have hc:=(h.ok _ _ _ hR).2.2 w w.heap.size (S0 w) w vals r0 hV
 refine Calls.mono hc ?_
 rintro e w' ⟨S',x,_,r,hx,rfl⟩
 exact⟨by rw[(VR_sc.1 hx).1],r.r.below⟩
set_option maxRecDepth 100000
set_option linter.constructorNameAsVariable false
theorem of_float{P:Program}{n:Nat}{t:TypeId}{v:CV}(hu:P.underlying t=some (.float .f64))(h:Ty2 P (n+1) t v): ∃b,v=Fl b/\True:=by
 simp only[Ty2,hu]at h
 obtain⟨b,rfl,_⟩:=h
 exact⟨b,rfl,trivial⟩
theorem b27{n:Nat}{v:CV}(h:Ty2 Tryz.prog (n+1) 27 v): ∃b,v=Fl b/\True:=of_float Tryz.underlying27 h
theorem b24{n:Nat}{v:CV}(h:Ty2 Tryz.prog (n+4) 24 v): ∃x:V0a,v=x.cv/\inI x.Players:=a57 h
theorem b25{n:Nat}{v:CV}(h:Ty2 Tryz.prog (n+3) 25 v): ∃s:Lst (Lst Int),v=s.cv (Lst.cv I)/\(s.tl=.view\/s.tl=.nil):=a58 h
theorem b3{n:Nat}{v:CV}(h:Ty2 Tryz.prog (n+1) 3 v): ∃i,v=I i/\inI i:=a3 h
theorem b26{n:Nat}{v:CV}(h:Ty2 Tryz.prog (n+4) 26 v): ∃s:Lst Q0b,v=s.cv Q0b.cv/\(s.tl=.view\/s.tl=.nil):=a108 h
end Go.Proofs.YtpchcfkebljopaaGreat
end
section
namespace Go.Proofs.YtpchcfkebljopaaGreat
open Go.Cl Go Go.RowKit
set_option maxRecDepth 100000
def zn106_1:=ZC.reg [zv 6 (.assign (.const (.bool false)))]
def zn106_3:=ZC.reg [zu 7 (zmv 0),zu 8 (zmv 1),zu 9 (.binOp .geq 3 (Tm 7) (Tm 8) 3),zu 10 (zmv 9),zug 11 (zmv 0) 10 true false,zug 12 (zmv 2) 10 true false,zug 13 (.binOp .leq 3 (Tm 11) (Tm 12) 3) 10 true false,zu 14 (.pick (Tm 10) (Tm 13) (.const (.bool false))),zv 6 (zas 14)]
def zn106_2:=ZC.seq zn106_3 ZC.ret
def zn106_0:=ZC.seq zn106_1 zn106_2
def zc106: ZC:=zn106_0
theorem zc106_ok: zcode (xfOf Tryz.f27).code=some zc106:=by kernel_rfl
def zw106:=zU C zc106.eq_1<|zU C zn106_1.eq_1<|zU C zn106_3.eq_1<|zU C zn106_2.eq_1<|(zunf C zn106_0.eq_1)
theorem rs106: (xfOf Tryz.f27).rs=[.tmp 6]:=by kernel_rfl
theorem xf106: XFok C 27 (xfOf Tryz.f27):=by refine⟨Tryz.f27,?_,?_,?_,?_,?_,?_,?_⟩<;>kernel_rfl
def zn206_1:=ZC.reg [zv 6 (.assign (Kn 0))]
def zn206_3:=ZC.reg [zu 7 (zmv 1),zu 8 (zmv 0),zu 9 (zmv 2),zu 10 (zcb .min [Tm 8,Tm 9] [3,3]),zu 11 (zcb .max [Tm 7,Tm 10] [3,3]),zv 6 (zas 11)]
def zn206_2:=ZC.seq zn206_3 ZC.ret
def zn206_0:=ZC.seq zn206_1 zn206_2
def zc206: ZC:=zn206_0
theorem zc206_ok: zcode (xfOf Tryz.f83).code=some zc206:=by kernel_rfl
def zw206:=zU C zc206.eq_1<|zU C zn206_1.eq_1<|zU C zn206_3.eq_1<|zU C zn206_2.eq_1<|(zunf C zn206_0.eq_1)
theorem rs206: (xfOf Tryz.f83).rs=[.tmp 6]:=by kernel_rfl
theorem xf206: XFok C 83 (xfOf Tryz.f83):=by refine⟨Tryz.f83,?_,?_,?_,?_,?_,?_,?_⟩<;>kernel_rfl
def zn198_1:=ZC.reg [zu 4 (.assign (Kn 0)),zv 5 (.assign (Kn 0))]
def zn198_4:=ZC.reg [zu 7 (zmv 0),zu 8 (zcf 58 [Tm 7,Kn 0,Kn 4095] [3,3,3]),zv 6 (zas 8)]
def zn198_6:=ZC.reg [zu 9 (zmv 6),zu 10 (zmv 0),zv 11 (.binOp .neq 3 (Tm 9) (Tm 10) 3)]
def zn198_9:=ZC.reg [zu 12 (zmv 6),zu 13 (zmv 1),zu 14 (.unOp .neg 3 (Tm 13)),zu 4 (zas 12),zv 5 (zas 14)]
def zn198_8:=ZC.seq zn198_9 ZC.ret
def zn198_7:=ZC.cond (Tm 11) zn198_8 ZC.skip
def zn198_5:=ZC.seq zn198_6 zn198_7
def zn198_3:=ZC.seq zn198_4 zn198_5
def zn198_11:=ZC.reg [zu 15 (zmv 0),zu 16 (zmv 1),zu 4 (zas 15),zv 5 (zas 16)]
def zn198_10:=ZC.seq zn198_11 ZC.ret
def zn198_2:=ZC.seq zn198_3 zn198_10
def zn198_0:=ZC.seq zn198_1 zn198_2
def zc198: ZC:=zn198_0
theorem zc198_ok: zcode (xfOf Tryz.f77).code=some zc198:=by kernel_rfl
def zw198:=zU C zc198.eq_1<|zU C zn198_1.eq_1<|zU C zn198_4.eq_1<|zU C zn198_6.eq_1<|zU C zn198_9.eq_1<|zU C zn198_8.eq_1<|zU C zn198_7.eq_1<|zU C zn198_5.eq_1<|zU C zn198_3.eq_1<|zU C zn198_11.eq_1<|zU C zn198_10.eq_1<|zU C zn198_2.eq_1<|(zunf C zn198_0.eq_1)
theorem rs198: (xfOf Tryz.f77).rs=[.tmp 4,.tmp 5]:=by kernel_rfl
theorem xf198: XFok C 77 (xfOf Tryz.f77):=by refine⟨Tryz.f77,?_,?_,?_,?_,?_,?_,?_⟩<;>kernel_rfl
def zn178_1:=ZC.reg [zu 1 (.box 36 (Tm 0)),zu 2 (.alloc 36),zv 3 (.assign (.const (.bool false)))]
def zn178_4:=ZC.reg [zu 4 (zld 36 1),zu 5 (zcf 57 [Tm 4] [36]),zu 6 (.unOp .not 4 (Tm 5)),zu 7 (zmv 6),zug 8 (zfa 36 1 0) 7 false false,zug 9 (zld 3 8) 7 false false,zug 10 (.binOp .eql 3 (Tm 9) (Kn 0) 3) 7 false false,zv 11 (.pick (Tm 7) (.const (.bool true)) (Tm 10))]
def zn178_7:=ZC.reg [⟨some 12,.build 36 ⟨[]⟩,none,false⟩,zu0 (.store 36 (Tm 2) (Tm 12)),zv 3 (.assign (.const (.bool false)))]
def zn178_6:=ZC.seq zn178_7 ZC.ret
def zn178_5:=ZC.cond (Tm 11) zn178_6 ZC.skip
def zn178_3:=ZC.seq zn178_4 zn178_5
def zn178_9:=ZC.reg [zu 13 (zfa 36 1 6),zu 14 (zld 3 13),zu 15 (.binOp .add 3 (Tm 14) (Kn 1) 3),zu 16 (zcb .min [Tm 15,Kn 600] [3,3]),zu 17 (zfa 36 1 6),zv0 (.store 3 (Tm 17) (Tm 16))]
def zn178_11:=ZC.reg [zu 18 (zfa 36 1 2),zu 19 (zld 3 18),zu 20 (zfa 36 1 4),zu 21 (zld 3 20),zu 22 (.binOp .add 3 (Tm 19) (Tm 21) 3),zu 23 (zfa 36 1 3),zu 24 (zld 3 23),zu 25 (zfa 36 1 5),zu 26 (zld 3 25),zu 27 (.binOp .add 3 (Tm 24) (Tm 26) 3),zu 28 (zfa 36 1 2),zu0 (.store 3 (Tm 28) (Tm 22)),zu 29 (zfa 36 1 3),zv0 (.store 3 (Tm 29) (Tm 27))]
def zn178_14:=ZC.reg [zu 30 (zfa 36 1 0),zu 31 (zld 3 30),zv 32 (.binOp .eql 3 (Tm 31) (Kn 1) 3)]
def zn178_17:=ZC.reg [zu 34 (zfa 36 1 2),zu 35 (zld 3 34),zu 36 (zfa 36 1 4),zu 37 (zld 3 36),zu 38 (zcf 77 [Tm 35,Tm 37] [3,3]),zu 33 (zmv 38),zu 39 (.extract (Tm 33) 0),zu 40 (.extract (Tm 33) 1),zu 41 (zfa 36 1 2),zu0 (.store 3 (Tm 41) (Tm 39)),zu 42 (zfa 36 1 4),zv0 (.store 3 (Tm 42) (Tm 40))]
def zn178_19:=ZC.reg [zu 44 (zfa 36 1 3),zu 45 (zld 3 44),zu 46 (zfa 36 1 5),zu 47 (zld 3 46),zu 48 (zcf 77 [Tm 45,Tm 47] [3,3]),zu 43 (zmv 48),zu 49 (.extract (Tm 43) 0),zu 50 (.extract (Tm 43) 1),zu 51 (zfa 36 1 3),zu0 (.store 3 (Tm 51) (Tm 49)),zu 52 (zfa 36 1 5),zv0 (.store 3 (Tm 52) (Tm 50))]
def zn178_21:=ZC.reg [zu 53 (zld 36 1),zu0 (.store 36 (Tm 2) (Tm 53)),zv 3 (.assign (.const (.bool true)))]
def zn178_20:=ZC.seq zn178_21 ZC.ret
def zn178_18:=ZC.seq zn178_19 zn178_20
def zn178_16:=ZC.seq zn178_17 zn178_18
def zn178_15:=ZC.cond (Tm 32) zn178_16 ZC.skip
def zn178_13:=ZC.seq zn178_14 zn178_15
def zn178_24:=ZC.reg [zu 54 (zfa 36 1 6),zu 55 (zld 3 54),zu 56 (.binOp .gtr 3 (Tm 55) (Kn 40) 3),zu 57 (zmv 56),zug 58 (zfa 36 1 2) 57 false false,zug 59 (zld 3 58) 57 false false,zug 60 (zcf 72 [Tm 59,Kn 0,Kn 4095] [3,3,3]) 57 false false,zug 61 (.unOp .not 4 (Tm 60)) 57 false false,zu 62 (.pick (Tm 57) (.const (.bool true)) (Tm 61)),zu 63 (zmv 62),zug 64 (zfa 36 1 3) 63 false false,zug 65 (zld 3 64) 63 false false,zug 66 (zcf 72 [Tm 65,Kn 0,Kn 4095] [3,3,3]) 63 false false,zug 67 (.unOp .not 4 (Tm 66)) 63 false false,zv 68 (.pick (Tm 63) (.const (.bool true)) (Tm 67))]
def zn178_27:=ZC.reg [⟨some 69,.build 36 ⟨[]⟩,none,false⟩,zu0 (.store 36 (Tm 2) (Tm 69)),zv 3 (.assign (.const (.bool false)))]
def zn178_26:=ZC.seq zn178_27 ZC.ret
def zn178_25:=ZC.cond (Tm 68) zn178_26 ZC.skip
def zn178_23:=ZC.seq zn178_24 zn178_25
def zn178_29:=ZC.reg [zu 70 (zld 36 1),zu0 (.store 36 (Tm 2) (Tm 70)),zv 3 (.assign (.const (.bool true)))]
def zn178_28:=ZC.seq zn178_29 ZC.ret
def zn178_22:=ZC.seq zn178_23 zn178_28
def zn178_12:=ZC.seq zn178_13 zn178_22
def zn178_10:=ZC.seq zn178_11 zn178_12
def zn178_8:=ZC.seq zn178_9 zn178_10
def zn178_2:=ZC.seq zn178_3 zn178_8
def zn178_0:=ZC.seq zn178_1 zn178_2
def zc178: ZC:=zn178_0
theorem zc178_ok: zcode (xfOf Tryz.f61).code=some zc178:=by kernel_rfl
def zw178:=zU C zc178.eq_1<|zU C zn178_1.eq_1<|zU C zn178_4.eq_1<|zU C zn178_7.eq_1<|zU C zn178_6.eq_1<|zU C zn178_5.eq_1<|zU C zn178_3.eq_1<|zU C zn178_9.eq_1<|zU C zn178_11.eq_1<|zU C zn178_14.eq_1<|zU C zn178_17.eq_1<|zU C zn178_19.eq_1<|zU C zn178_21.eq_1<|zU C zn178_20.eq_1<|zU C zn178_18.eq_1<|zU C zn178_16.eq_1<|zU C zn178_15.eq_1<|zU C zn178_13.eq_1<|zU C zn178_24.eq_1<|zU C zn178_27.eq_1<|zU C zn178_26.eq_1<|zU C zn178_25.eq_1<|zU C zn178_23.eq_1<|zU C zn178_29.eq_1<|zU C zn178_28.eq_1<|zU C zn178_22.eq_1<|zU C zn178_12.eq_1<|zU C zn178_10.eq_1<|zU C zn178_8.eq_1<|zU C zn178_2.eq_1<|(zunf C zn178_0.eq_1)
theorem rs178: (xfOf Tryz.f61).rs=[.cell 2 36,.tmp 3]:=by kernel_rfl
theorem xf178: XFok C 61 (xfOf Tryz.f61):=by refine⟨Tryz.f61,?_,?_,?_,?_,?_,?_,?_⟩<;>kernel_rfl
def zn199_1:=ZC.reg [zu 2 (.box 36 (Tm 0)),zu 3 (.box 36 (Tm 1)),zv 4 (.assign (.const (.bool false)))]
def zn199_4:=ZC.reg [zu 5 (zfa 36 2 0),zu 6 (zld 3 5),zv 7 (.binOp .eql 3 (Tm 6) (Kn 2) 3)]
def zn199_6:=ZC.reg [zu 8 (zld 36 3),zu 9 (zld 36 2),zu0 (.store 36 (Tm 2) (Tm 8)),zv0 (.store 36 (Tm 3) (Tm 9))]
def zn199_5:=ZC.cond (Tm 7) zn199_6 ZC.skip
def zn199_3:=ZC.seq zn199_4 zn199_5
def zn199_8:=ZC.reg [zu 10 (zld 36 2),zu 11 (zcf 57 [Tm 10] [36]),zu 12 (zmv 11),zug 13 (zld 36 3) 12 true false,zug 14 (zcf 57 [Tm 13] [36]) 12 true false,zu 15 (.pick (Tm 12) (Tm 14) (.const (.bool false))),zu 16 (zmv 15),zug 17 (zfa 36 2 0) 16 true false,zug 18 (zld 3 17) 16 true false,zug 19 (.binOp .eql 3 (Tm 18) (Kn 1) 3) 16 true false,zu 20 (.pick (Tm 16) (Tm 19) (.const (.bool false))),zu 21 (zmv 20),zug 22 (zfa 36 3 0) 21 true false,zug 23 (zld 3 22) 21 true false,zug 24 (.binOp .eql 3 (Tm 23) (Kn 2) 3) 21 true false,zu 25 (.pick (Tm 21) (Tm 24) (.const (.bool false))),zu 26 (zmv 25),zug 27 (zfa 36 2 1) 26 true false,zug 28 (zld 3 27) 26 true false,zug 29 (zfa 36 3 1) 26 true false,zug 30 (zld 3 29) 26 true false,zug 31 (.binOp .neq 3 (Tm 28) (Tm 30) 3) 26 true false,zu 32 (.pick (Tm 26) (Tm 31) (.const (.bool false))),zu 33 (zmv 32),zug 34 (zfa 36 2 2) 33 true false,zug 35 (zld 3 34) 33 true false,zug 36 (zfa 36 3 2) 33 true false,zug 37 (zld 3 36) 33 true false,zug 38 (.binOp .sub 3 (Tm 35) (Tm 37) 3) 33 true false,zug 39 (zcf 72 [Tm 38,Kn (-32),Kn 32] [3,3,3]) 33 true false,zu 40 (.pick (Tm 33) (Tm 39) (.const (.bool false))),zu 41 (zmv 40),zug 42 (zfa 36 2 3) 41 true false,zug 43 (zld 3 42) 41 true false,zug 44 (zfa 36 3 3) 41 true false,zug 45 (zld 3 44) 41 true false,zug 46 (.binOp .sub 3 (Tm 43) (Tm 45) 3) 41 true false,zug 47 (zcf 72 [Tm 46,Kn (-32),Kn 32] [3,3,3]) 41 true false,zu 48 (.pick (Tm 41) (Tm 47) (.const (.bool false))),zv 4 (zas 48)]
def zn199_7:=ZC.seq zn199_8 ZC.ret
def zn199_2:=ZC.seq zn199_3 zn199_7
def zn199_0:=ZC.seq zn199_1 zn199_2
def zc199: ZC:=zn199_0
theorem zc199_ok: zcode (xfOf Tryz.f78).code=some zc199:=by kernel_rfl
def zw199:=zU C zc199.eq_1<|zU C zn199_1.eq_1<|zU C zn199_4.eq_1<|zU C zn199_6.eq_1<|zU C zn199_5.eq_1<|zU C zn199_3.eq_1<|zU C zn199_8.eq_1<|zU C zn199_7.eq_1<|zU C zn199_2.eq_1<|(zunf C zn199_0.eq_1)
theorem rs199: (xfOf Tryz.f78).rs=[.tmp 4]:=by kernel_rfl
theorem xf199: XFok C 78 (xfOf Tryz.f78):=by refine⟨Tryz.f78,?_,?_,?_,?_,?_,?_,?_⟩<;>kernel_rfl
def zn105_1:=ZC.reg [zu 3 (.box 31 (Tm 0)),zu 5 (.box 36 (Tm 2)),zv 6 (.assign (.const (.bool false)))]
def zn105_5:=ZC.reg [zu 8 (zld 36 5),zu 9 (zcf 57 [Tm 8] [36]),zu 10 (.unOp .not 4 (Tm 9)),zv 7 (zas 10)]
def zn105_8:=ZC.reg [zv 6 (.assign (.const (.bool false)))]
def zn105_7:=ZC.seq zn105_8 ZC.ret
def zn105_10:=ZC.reg [zu 12 (zmv 1),zu 13 (zfa 31 3 0),zu 14 (zld 3 13),zu 15 (.binOp .lss 3 (Tm 12) (Tm 14) 3),zv 11 (zas 15)]
def zn105_13:=ZC.reg [zu 16 (zfa 36 5 0),zu 17 (zld 3 16),zu 18 (.binOp .eql 3 (Tm 17) (Kn 1) 3),zu 19 (zmv 18),zug 20 (zfa 36 5 1) 19 true false,zug 21 (zld 3 20) 19 true false,zug 22 (zmv 1) 19 true false,zug 23 (.binOp .eql 3 (Tm 21) (Tm 22) 3) 19 true false,zu 24 (.pick (Tm 19) (Tm 23) (.const (.bool false))),zv 6 (zas 24)]
def zn105_12:=ZC.seq zn105_13 ZC.ret
def zn105_11:=ZC.cond (Tm 11) zn105_12 ZC.skip
def zn105_9:=ZC.seq zn105_10 zn105_11
def zn105_6:=ZC.cond (Tm 7) zn105_7 zn105_9
def zn105_4:=ZC.seq zn105_5 zn105_6
def zn105_3:=ZC.block 0 zn105_4
def zn105_15:=ZC.reg [zu 25 (zfa 36 5 0),zu 26 (zld 3 25),zu 27 (.binOp .eql 3 (Tm 26) (Kn 0) 3),zu 28 (zmv 27),zug 29 (zfa 36 5 0) 28 false false,zug 30 (zld 3 29) 28 false false,zug 31 (.binOp .eql 3 (Tm 30) (Kn 2) 3) 28 false false,zug 32 (zmv 31) 28 false false,zug 33 (zfa 36 5 1) 32 true false,zug 34 (zld 3 33) 32 true false,zug 35 (zfa 31 3 0) 32 true false,zug 36 (zld 3 35) 32 true false,zug 37 (.binOp .lss 3 (Tm 34) (Tm 36) 3) 32 true false,zug 38 (.pick (Tm 32) (Tm 37) (.const (.bool false))) 28 false false,zu 39 (.pick (Tm 28) (.const (.bool true)) (Tm 38)),zv 6 (zas 39)]
def zn105_14:=ZC.seq zn105_15 ZC.ret
def zn105_2:=ZC.seq zn105_3 zn105_14
def zn105_0:=ZC.seq zn105_1 zn105_2
def zc105: ZC:=zn105_0
theorem zc105_ok: zcode (xfOf Tryz.f34).code=some zc105:=by kernel_rfl
def zw105:=zU C zc105.eq_1<|zU C zn105_1.eq_1<|zU C zn105_5.eq_1<|zU C zn105_8.eq_1<|zU C zn105_7.eq_1<|zU C zn105_10.eq_1<|zU C zn105_13.eq_1<|zU C zn105_12.eq_1<|zU C zn105_11.eq_1<|zU C zn105_9.eq_1<|zU C zn105_6.eq_1<|zU C zn105_4.eq_1<|zU C zn105_3.eq_1<|zU C zn105_15.eq_1<|zU C zn105_14.eq_1<|zU C zn105_2.eq_1<|(zunf C zn105_0.eq_1)
theorem rs105: (xfOf Tryz.f34).rs=[.tmp 6]:=by kernel_rfl
theorem xf105: XFok C 34 (xfOf Tryz.f34):=by refine⟨Tryz.f34,?_,?_,?_,?_,?_,?_,?_⟩<;>kernel_rfl
def zn176_1:=ZC.reg [zv 2 (.assign (.const (.bool false)))]
def zn176_3:=ZC.reg [zu 3 (zmv 0),zu 4 (zcf 52 [Tm 3] [27]),zu 5 (zmv 4),zug 6 (zmv 0) 5 false false,zug 7 (zcf 70 [Tm 6,Kn 0] [27,3]) 5 false false,zu 8 (.pick (Tm 5) (.const (.bool true)) (Tm 7)),zv 2 (zas 8)]
def zn176_2:=ZC.seq zn176_3 ZC.ret
def zn176_0:=ZC.seq zn176_1 zn176_2
def zc176: ZC:=zn176_0
theorem zc176_ok: zcode (xfOf Tryz.f53).code=some zc176:=by kernel_rfl
def zw176:=zU C zc176.eq_1<|zU C zn176_1.eq_1<|zU C zn176_3.eq_1<|zU C zn176_2.eq_1<|(zunf C zn176_0.eq_1)
theorem rs176: (xfOf Tryz.f53).rs=[.tmp 2]:=by kernel_rfl
theorem xf176: XFok C 53 (xfOf Tryz.f53):=by refine⟨Tryz.f53,?_,?_,?_,?_,?_,?_,?_⟩<;>kernel_rfl
def zn193_1:=ZC.reg [zv 2 (.assign (.const (.bool false)))]
def zn193_3:=ZC.reg [zu 3 (zmv 0),zu 4 (zmv 0),zu 5 (.binOp .neq 27 (Tm 3) (Tm 4) 27),zv 2 (zas 5)]
def zn193_2:=ZC.seq zn193_3 ZC.ret
def zn193_0:=ZC.seq zn193_1 zn193_2
def zc193: ZC:=zn193_0
theorem zc193_ok: zcode (xfOf Tryz.f52).code=some zc193:=by kernel_rfl
def zw193:=zU C zc193.eq_1<|zU C zn193_1.eq_1<|zU C zn193_3.eq_1<|zU C zn193_2.eq_1<|(zunf C zn193_0.eq_1)
theorem rs193: (xfOf Tryz.f52).rs=[.tmp 2]:=by kernel_rfl
theorem xf193: XFok C 52 (xfOf Tryz.f52):=by refine⟨Tryz.f52,?_,?_,?_,?_,?_,?_,?_⟩<;>kernel_rfl
def zn194_1:=ZC.reg [zv 4 (.assign (.const (.bool false)))]
def zn194_4:=ZC.reg [zu 5 (zmv 1),zv 6 (.binOp .eql 3 (Tm 5) (Kn 0) 3)]
def zn194_6:=ZC.reg [zu 7 (zmv 0),zu 8 (zcf 82 [Tm 7] [27]),zv 0 (zas 8)]
def zn194_8:=ZC.reg [zu 9 (zmv 1),zv 10 (.binOp .lss 3 (Tm 9) (Kn 0) 3)]
def zn194_10:=ZC.reg [zu 11 (zmv 0),zu 12 (.unOp .neg 27 (Tm 11)),zv 0 (zas 12)]
def zn194_9:=ZC.cond (Tm 10) zn194_10 ZC.skip
def zn194_7:=ZC.seq zn194_8 zn194_9
def zn194_5:=ZC.cond (Tm 6) zn194_6 zn194_7
def zn194_3:=ZC.seq zn194_4 zn194_5
def zn194_12:=ZC.reg [zu 13 (zmv 0),zu 14 (.binOp .gtr 27 (Tm 13) (.const (.float .f64 9218868437227405311)) 27),zv 4 (zas 14)]
def zn194_11:=ZC.seq zn194_12 ZC.ret
def zn194_2:=ZC.seq zn194_3 zn194_11
def zn194_0:=ZC.seq zn194_1 zn194_2
def zc194: ZC:=zn194_0
theorem zc194_ok: zcode (xfOf Tryz.f70).code=some zc194:=by kernel_rfl
def zw194:=zU C zc194.eq_1<|zU C zn194_1.eq_1<|zU C zn194_4.eq_1<|zU C zn194_6.eq_1<|zU C zn194_8.eq_1<|zU C zn194_10.eq_1<|zU C zn194_9.eq_1<|zU C zn194_7.eq_1<|zU C zn194_5.eq_1<|zU C zn194_3.eq_1<|zU C zn194_12.eq_1<|zU C zn194_11.eq_1<|zU C zn194_2.eq_1<|(zunf C zn194_0.eq_1)
theorem rs194: (xfOf Tryz.f70).rs=[.tmp 4]:=by kernel_rfl
theorem xf194: XFok C 70 (xfOf Tryz.f70):=by refine⟨Tryz.f70,?_,?_,?_,?_,?_,?_,?_⟩<;>kernel_rfl
def zn205_1:=ZC.reg [zv 2 (.assign (.const (.float .f64 0)))]
def zn205_3:=ZC.reg [zu 3 (zmv 0),zu 4 (zcf 51 [Tm 3] [27]),zu 5 (.binOp .andNot 33 (Tm 4) (.const (.int .u64 9223372036854775808)) 33),zu 6 (zcf 24 [Tm 5] [33]),zv 2 (zas 6)]
def zn205_2:=ZC.seq zn205_3 ZC.ret
def zn205_0:=ZC.seq zn205_1 zn205_2
def zc205: ZC:=zn205_0
theorem zc205_ok: zcode (xfOf Tryz.f82).code=some zc205:=by kernel_rfl
def zw205:=zU C zc205.eq_1<|zU C zn205_1.eq_1<|zU C zn205_3.eq_1<|zU C zn205_2.eq_1<|(zunf C zn205_0.eq_1)
theorem rs205: (xfOf Tryz.f82).rs=[.tmp 2]:=by kernel_rfl
theorem xf205: XFok C 82 (xfOf Tryz.f82):=by refine⟨Tryz.f82,?_,?_,?_,?_,?_,?_,?_⟩<;>kernel_rfl
def zn135_1:=ZC.reg [zu 4 (.assign (.const (.pointer none))),zv 5 (.assign (Kn 0))]
def zn135_4:=ZC.reg [zu 6 (zmv 0),zu 7 (zcf 53 [Tm 6] [27]),zu 8 (zmv 7),zug 9 (zmv 1) 8 false false,zug 10 (zcf 53 [Tm 9] [27]) 8 false false,zu 11 (.pick (Tm 8) (.const (.bool true)) (Tm 10)),zu 12 (zmv 11),zug 13 (zmv 0) 12 false false,zug 14 (.binOp .lss 27 (Tm 13) (.const (.float .f64 0)) 27) 12 false false,zu 15 (.pick (Tm 12) (.const (.bool true)) (Tm 14)),zu 16 (zmv 15),zug 17 (zmv 1) 16 false false,zug 18 (.binOp .lss 27 (Tm 17) (.const (.float .f64 4607182418800017408)) 27) 16 false false,zu 19 (.pick (Tm 16) (.const (.bool true)) (Tm 18)),zu 20 (zmv 19),zug 21 (zmv 1) 20 false false,zug 22 (.binOp .gtr 27 (Tm 21) (.const (.float .f64 4652007308841189376)) 27) 20 false false,zv 23 (.pick (Tm 20) (.const (.bool true)) (Tm 22))]
def zn135_7:=ZC.reg [zu 4 (.assign (.const (.pointer none))),zv 5 (.assign (Kn 1))]
def zn135_6:=ZC.seq zn135_7 ZC.ret
def zn135_5:=ZC.cond (Tm 23) zn135_6 ZC.skip
def zn135_3:=ZC.seq zn135_4 zn135_5
def zn135_9:=ZC.reg [zu 24 (zmv 0),zu 25 (zmv 1),zu 26 (zmv 1),⟨some 27,.build 97 ⟨[(0,.tmp 24),(1,.tmp 25),(2,.tmp 26)]⟩,none,false⟩,zu 28 (.box 97 (Tm 27)),zu 4 (zas 28),zv 5 (.assign (Kn 0))]
def zn135_8:=ZC.seq zn135_9 ZC.ret
def zn135_2:=ZC.seq zn135_3 zn135_8
def zn135_0:=ZC.seq zn135_1 zn135_2
def zc135: ZC:=zn135_0
theorem zc135_ok: zcode (xfOf Tryz.f28).code=some zc135:=by kernel_rfl
def zw135:=zU C zc135.eq_1<|zU C zn135_1.eq_1<|zU C zn135_4.eq_1<|zU C zn135_7.eq_1<|zU C zn135_6.eq_1<|zU C zn135_5.eq_1<|zU C zn135_3.eq_1<|zU C zn135_9.eq_1<|zU C zn135_8.eq_1<|zU C zn135_2.eq_1<|(zunf C zn135_0.eq_1)
theorem rs135: (xfOf Tryz.f28).rs=[.tmp 4,.tmp 5]:=by kernel_rfl
theorem xf135: XFok C 28 (xfOf Tryz.f28):=by refine⟨Tryz.f28,?_,?_,?_,?_,?_,?_,?_⟩<;>kernel_rfl
def zn136_1:=ZC.reg [zu 1 (.box 31 (Tm 0)),zv 2 (.assign (.const (.bool false)))]
def zn136_3:=ZC.reg [zu 6 (.makeMap 100 none),zv 3 (zas 6)]
def zn136_6:=ZC.reg [zu 7 (zfa 31 1 9),zu 8 (zld 29 7),zu 9 (zcb .len [Tm 8] [29]),zv 10 (.move (Kn 0))]
def zn136_10:=ZC.reg [zv 11 (.binOp .lss 3 (Tm 10) (Tm 9) 3)]
def zn136_12:=ZC.cond (Tm 11) ZC.skip (ZC.exit 0)
def zn136_16:=ZC.reg [zu 12 (zia 29 8 10),zu 13 (zld 3 12),zv 5 (zas 13)]
def zn136_19:=ZC.reg [zu 14 (zmv 5),zu 15 (zcf 27 [Tm 14,Kn 0,Kn 2147483646] [3,3,3]),zu 16 (.unOp .not 4 (Tm 15)),zu 17 (zmv 16),zug 18 (zmv 3) 17 false false,zug 19 (zmv 5) 17 false false,zug 20 (.lookup 100 (Tm 18) (Tm 19) false) 17 false false,zv 21 (.pick (Tm 17) (.const (.bool true)) (Tm 20))]
def zn136_22:=ZC.reg [zv 2 (.assign (.const (.bool false)))]
def zn136_21:=ZC.seq zn136_22 ZC.ret
def zn136_20:=ZC.cond (Tm 21) zn136_21 ZC.skip
def zn136_18:=ZC.seq zn136_19 zn136_20
def zn136_23:=ZC.reg [zu 22 (zmv 3),zu 23 (zmv 5),zv0 (.mapUpdate 100 (Tm 22) (Tm 23) (.const (.bool true)))]
def zn136_17:=ZC.seq zn136_18 zn136_23
def zn136_15:=ZC.seq zn136_16 zn136_17
def zn136_14:=ZC.block 1 zn136_15
def zn136_24:=ZC.reg [zu 24 (.binOp .add 3 (Tm 10) (Kn 1) 3),zv 10 (zmv 24)]
def zn136_13:=ZC.seq zn136_14 zn136_24
def zn136_11:=ZC.seq zn136_12 zn136_13
def K1s:=ZC.seq zn136_10 zn136_11
def zn136_8:=ZC.loop K1s
def zn136_7:=ZC.block 0 zn136_8
def zn136_5:=ZC.seq zn136_6 zn136_7
def zn136_26:=ZC.reg [zu 25 (zfa 31 1 9),zu 26 (zld 29 25),zu 27 (zcb .len [Tm 26] [29]),zu 28 (zfa 31 1 0),zu 29 (zld 3 28),zu 30 (.binOp .eql 3 (Tm 27) (Tm 29) 3),zv 2 (zas 30)]
def zn136_25:=ZC.seq zn136_26 ZC.ret
def zn136_4:=ZC.seq zn136_5 zn136_25
def zn136_2:=ZC.seq zn136_3 zn136_4
def zn136_0:=ZC.seq zn136_1 zn136_2
def zc136: ZC:=zn136_0
theorem zc136_ok: zcode (xfOf Tryz.f30).code=some zc136:=by kernel_rfl
def zw136:=zU C zc136.eq_1<|zU C zn136_1.eq_1<|zU C zn136_3.eq_1<|zU C zn136_6.eq_1<|zU C zn136_10.eq_1<|zU C zn136_12.eq_1<|zU C zn136_16.eq_1<|zU C zn136_19.eq_1<|zU C zn136_22.eq_1<|zU C zn136_21.eq_1<|zU C zn136_20.eq_1<|zU C zn136_18.eq_1<|zU C zn136_23.eq_1<|zU C zn136_17.eq_1<|zU C zn136_15.eq_1<|zU C zn136_14.eq_1<|zU C zn136_24.eq_1<|zU C zn136_13.eq_1<|zU C zn136_11.eq_1<|zU C K1s.eq_1<|zU C zn136_7.eq_1<|zU C zn136_5.eq_1<|zU C zn136_26.eq_1<|zU C zn136_25.eq_1<|zU C zn136_4.eq_1<|zU C zn136_2.eq_1<|(zunf C zn136_0.eq_1)
theorem rs136: (xfOf Tryz.f30).rs=[.tmp 2]:=by kernel_rfl
theorem xf136: XFok C 30 (xfOf Tryz.f30):=by refine⟨Tryz.f30,?_,?_,?_,?_,?_,?_,?_⟩<;>kernel_rfl
def zn133_1:=ZC.reg [zv 2 (.assign (.const (.int .u64 0)))]
def zn133_3:=ZC.reg [zu 3 (zmv 0),zu 4 (.convert 3 33 (Tm 3)),zu 5 (.binOp .mul 33 (Tm 4) (.const (.int .u64 2)) 33),zu 6 (.binOp .add 33 (Tm 5) (.const (.int .u64 1)) 33),zv 2 (zas 6)]
def zn133_2:=ZC.seq zn133_3 ZC.ret
def zn133_0:=ZC.seq zn133_1 zn133_2
def zc133: ZC:=zn133_0
theorem zc133_ok: zcode (xfOf Tryz.f36).code=some zc133:=by kernel_rfl
def zw133:=zU C zc133.eq_1<|zU C zn133_1.eq_1<|zU C zn133_3.eq_1<|zU C zn133_2.eq_1<|(zunf C zn133_0.eq_1)
theorem rs133: (xfOf Tryz.f36).rs=[.tmp 2]:=by kernel_rfl
theorem xf133: XFok C 36 (xfOf Tryz.f36):=by refine⟨Tryz.f36,?_,?_,?_,?_,?_,?_,?_⟩<;>kernel_rfl
def zn60_1:=ZC.reg [zu 1 (.box 31 (Tm 0)),zv 2 (.assign (.const (.bool false)))]
def zn60_3:=ZC.reg [zu 6 (zfa 31 1 1),zu 7 (zld 3 6),zu 8 (zcf 27 [Tm 7,Kn 1,Kn 8] [3,3,3]),zu 9 (zmv 8),zug 10 (zfa 31 1 2) 9 true false,zug 11 (zld 3 10) 9 true false,zug 12 (zcf 27 [Tm 11,Kn 0,Kn 60] [3,3,3]) 9 true false,zu 13 (.pick (Tm 9) (Tm 12) (.const (.bool false))),zu 14 (zmv 13),zug 15 (zfa 31 1 3) 14 true false,zug 16 (zld 3 15) 14 true false,zug 17 (zcf 27 [Tm 16,Kn 0,Kn 100] [3,3,3]) 14 true false,zu 18 (.pick (Tm 14) (Tm 17) (.const (.bool false))),zu 19 (zmv 18),zug 20 (zfa 31 1 4) 19 true false,zug 21 (zld 3 20) 19 true false,zug 22 (zcf 27 [Tm 21,Kn 1,Kn 600] [3,3,3]) 19 true false,zu 23 (.pick (Tm 19) (Tm 22) (.const (.bool false))),zv 3 (zas 23)]
def zn60_5:=ZC.reg [zu 25 (zfa 31 1 6),zu 26 (zld 27 25),zu 27 (zfa 31 1 7),zu 28 (zld 27 27),zu 29 (zcf 28 [Tm 26,Tm 28] [27,27]),zu 24 (zmv 29),zu 30 (.extract (Tm 24) 0),zu 31 (.extract (Tm 24) 1),zu 4 (zas 30),zv 5 (zas 31)]
def zn60_7:=ZC.reg [zu 32 (zfa 31 1 0),zu 33 (zld 3 32),zu 34 (zcf 27 [Tm 33,Kn 1,Kn 8] [3,3,3]),zu 35 (zmv 34),zug 36 (zmv 3) 35 true false,zu 37 (.pick (Tm 35) (Tm 36) (.const (.bool false))),zu 38 (zmv 37),zug 39 (zfa 31 1 5) 38 true false,zug 40 (zld 3 39) 38 true false,zug 41 (zcf 27 [Tm 40,Kn 0,Kn 2147483647] [3,3,3]) 38 true false,zu 42 (.pick (Tm 38) (Tm 41) (.const (.bool false))),zu 43 (zmv 42),zug 44 (zmv 5) 43 true false,zug 45 (.binOp .eql 68 (Tm 44) (Kn 0) 68) 43 true false,zu 46 (.pick (Tm 43) (Tm 45) (.const (.bool false))),zu 47 (zmv 46),zug 48 (zfa 31 1 8) 47 true false,zug 49 (zld 28 48) 47 true false,zug 50 (zcf 29 [Tm 49] [28]) 47 true false,zu 51 (.pick (Tm 47) (Tm 50) (.const (.bool false))),zu 52 (zmv 51),zug 53 (zld 31 1) 52 true false,zug 54 (zcf 30 [Tm 53] [31]) 52 true false,zu 55 (.pick (Tm 52) (Tm 54) (.const (.bool false))),zv 2 (zas 55)]
def zn60_6:=ZC.seq zn60_7 ZC.ret
def zn60_4:=ZC.seq zn60_5 zn60_6
def zn60_2:=ZC.seq zn60_3 zn60_4
def zn60_0:=ZC.seq zn60_1 zn60_2
def zc60: ZC:=zn60_0
theorem zc60_ok: zcode (xfOf Tryz.f9).code=some zc60:=by kernel_rfl
def zw60:=zU C zc60.eq_1<|zU C zn60_1.eq_1<|zU C zn60_3.eq_1<|zU C zn60_5.eq_1<|zU C zn60_7.eq_1<|zU C zn60_6.eq_1<|zU C zn60_4.eq_1<|zU C zn60_2.eq_1<|(zunf C zn60_0.eq_1)
theorem rs60: (xfOf Tryz.f9).rs=[.tmp 2]:=by kernel_rfl
theorem xf60: XFok C 9 (xfOf Tryz.f9):=by refine⟨Tryz.f9,?_,?_,?_,?_,?_,?_,?_⟩<;>kernel_rfl
def zn58_1:=ZC.reg [zu 1 (.box 31 (Tm 0)),zv 2 (.alloc 40)]
def zn58_4:=ZC.reg [zu 5 (zld 31 1),zu 6 (zcf 9 [Tm 5] [31]),zv 7 (.unOp .not 4 (Tm 6))]
def zn58_7:=ZC.reg [⟨some 8,.build 40 ⟨[]⟩,none,false⟩,zv0 (.store 40 (Tm 2) (Tm 8))]
def zn58_6:=ZC.seq zn58_7 ZC.ret
def zn58_5:=ZC.cond (Tm 7) zn58_6 ZC.skip
def zn58_3:=ZC.seq zn58_4 zn58_5
def zn58_9:=ZC.reg [zu 9 (zfa 31 1 5),zu 10 (zld 3 9),zu 11 (zcf 36 [Tm 10] [3]),⟨some 12,.build 40 ⟨[(1,.tmp 11)]⟩,none,false⟩,zu 3 (.alloc 40),zv0 (.store 40 (Tm 3) (Tm 12))]
def zn58_12:=ZC.reg [zu 13 (zfa 31 1 0),zu 14 (zld 3 13),zv 15 (.move (Kn 0))]
def zn58_16:=ZC.reg [zv 16 (.binOp .lss 3 (Tm 15) (Tm 14) 3)]
def zn58_18:=ZC.cond (Tm 16) ZC.skip (ZC.exit 0)
def zn58_22:=ZC.reg [zu 17 (zmv 15),zv 4 (zas 17)]
def zn58_23:=ZC.reg [zu 18 (zmv 4),zu 19 (zmv 4),zu 20 (zfa 31 1 0),zu 21 (zld 3 20),zu 22 (zcf 37 [Tm 19,Tm 21] [3,3]),zu 23 (zfa 40 3 2),zu 24 (zia 37 23 18),zv0 (.store 36 (Tm 24) (Tm 22))]
def zn58_21:=ZC.seq zn58_22 zn58_23
def zn58_20:=ZC.block 1 zn58_21
def zn58_24:=ZC.reg [zu 25 (.binOp .add 3 (Tm 15) (Kn 1) 3),zv 15 (zmv 25)]
def zn58_19:=ZC.seq zn58_20 zn58_24
def zn58_17:=ZC.seq zn58_18 zn58_19
def Z1z:=ZC.seq zn58_16 zn58_17
def zn58_14:=ZC.loop Z1z
def zn58_13:=ZC.block 0 zn58_14
def zn58_11:=ZC.seq zn58_12 zn58_13
def zn58_26:=ZC.reg [zu 26 (zld 40 3),zv0 (.store 40 (Tm 2) (Tm 26))]
def zn58_25:=ZC.seq zn58_26 ZC.ret
def zn58_10:=ZC.seq zn58_11 zn58_25
def zn58_8:=ZC.seq zn58_9 zn58_10
def zn58_2:=ZC.seq zn58_3 zn58_8
def zn58_0:=ZC.seq zn58_1 zn58_2
def zc58: ZC:=zn58_0
theorem zc58_ok: zcode (xfOf Tryz.f13).code=some zc58:=by kernel_rfl
def zw58:=zU C zc58.eq_1<|zU C zn58_1.eq_1<|zU C zn58_4.eq_1<|zU C zn58_7.eq_1<|zU C zn58_6.eq_1<|zU C zn58_5.eq_1<|zU C zn58_3.eq_1<|zU C zn58_9.eq_1<|zU C zn58_12.eq_1<|zU C zn58_16.eq_1<|zU C zn58_18.eq_1<|zU C zn58_22.eq_1<|zU C zn58_23.eq_1<|zU C zn58_21.eq_1<|zU C zn58_20.eq_1<|zU C zn58_24.eq_1<|zU C zn58_19.eq_1<|zU C zn58_17.eq_1<|zU C Z1z.eq_1<|zU C zn58_13.eq_1<|zU C zn58_11.eq_1<|zU C zn58_26.eq_1<|zU C zn58_25.eq_1<|zU C zn58_10.eq_1<|zU C zn58_8.eq_1<|zU C zn58_2.eq_1<|(zunf C zn58_0.eq_1)
theorem rs58: (xfOf Tryz.f13).rs=[.cell 2 40]:=by kernel_rfl
theorem xf58: XFok C 13 (xfOf Tryz.f13):=by refine⟨Tryz.f13,?_,?_,?_,?_,?_,?_,?_⟩<;>kernel_rfl
def zn44_1:=ZC.reg [zu 2 (.box 31 (Tm 0)),zu 3 (.box 40 (Tm 1)),zv 4 (.assign (.const (.bool false)))]
def zn44_4:=ZC.reg [zu 9 (zfa 40 3 2),zu 10 (zld 37 9),zv 11 (.move (Kn 0))]
def zn44_8:=ZC.reg [zv 12 (.binOp .lss 3 (Tm 11) (Kn 16) 3)]
def zn44_10:=ZC.cond (Tm 12) ZC.skip (ZC.exit 0)
def zn44_14:=ZC.reg [zu 13 (zmv 11),zu 14 (.index 37 (Tm 10) (Tm 11)),zu 6 (.alloc 36),zu 5 (zas 13),zv0 (.store 36 (Tm 6) (Tm 14))]
def zn44_16:=ZC.reg [zu 15 (zld 31 2),zu 16 (zmv 5),zu 17 (zld 36 6),zu 18 (zcf 34 [Tm 15,Tm 16,Tm 17] [31,3,36]),zv 19 (.unOp .not 4 (Tm 18))]
def zn44_19:=ZC.reg [zv 4 (.assign (.const (.bool false)))]
def zn44_18:=ZC.seq zn44_19 ZC.ret
def zn44_17:=ZC.cond (Tm 19) zn44_18 ZC.skip
def zn44_15:=ZC.seq zn44_16 zn44_17
def zn44_13:=ZC.seq zn44_14 zn44_15
def zn44_12:=ZC.block 1 zn44_13
def zn44_20:=ZC.reg [zu 20 (.binOp .add 3 (Tm 11) (Kn 1) 3),zv 11 (zmv 20)]
def zn44_11:=ZC.seq zn44_12 zn44_20
def zn44_9:=ZC.seq zn44_10 zn44_11
def zn44_7:=ZC.seq zn44_8 zn44_9
def zn44_6:=ZC.loop zn44_7
def zn44_5:=ZC.block 0 zn44_6
def zn44_3:=ZC.seq zn44_4 zn44_5
def zn44_23:=ZC.reg [zu 21 (zfa 40 3 3),zu 22 (zld 38 21),zv 23 (.move (Kn 0))]
def zn44_27:=ZC.reg [zv 24 (.binOp .lss 3 (Tm 23) (Kn 8) 3)]
def zn44_29:=ZC.cond (Tm 24) ZC.skip (ZC.exit 2)
def zn44_33:=ZC.reg [zu 25 (zmv 23),zu 26 (.index 38 (Tm 22) (Tm 23)),zu 7 (zas 25),zv 8 (zas 26)]
def zn44_35:=ZC.reg [zu 27 (zmv 8),zu 28 (zcf 27 [Tm 27,Kn 0,Kn 2147483647] [3,3,3]),zu 29 (.unOp .not 4 (Tm 28)),zu 30 (zmv 29),zug 31 (zmv 7) 30 false false,zug 32 (zfa 31 2 0) 30 false false,zug 33 (zld 3 32) 30 false false,zug 34 (.binOp .geq 3 (Tm 31) (Tm 33) 3) 30 false false,zug 35 (zmv 34) 30 false false,zug 36 (zmv 8) 35 true false,zug 37 (.binOp .neq 3 (Tm 36) (Kn 0) 3) 35 true false,zug 38 (.pick (Tm 35) (Tm 37) (.const (.bool false))) 30 false false,zv 39 (.pick (Tm 30) (.const (.bool true)) (Tm 38))]
def zn44_38:=ZC.reg [zv 4 (.assign (.const (.bool false)))]
def zn44_37:=ZC.seq zn44_38 ZC.ret
def zn44_36:=ZC.cond (Tm 39) zn44_37 ZC.skip
def zn44_34:=ZC.seq zn44_35 zn44_36
def zn44_32:=ZC.seq zn44_33 zn44_34
def zn44_31:=ZC.block 3 zn44_32
def zn44_39:=ZC.reg [zu 40 (.binOp .add 3 (Tm 23) (Kn 1) 3),zv 23 (zmv 40)]
def zn44_30:=ZC.seq zn44_31 zn44_39
def zn44_28:=ZC.seq zn44_29 zn44_30
def Y1w:=ZC.seq zn44_27 zn44_28
def zn44_25:=ZC.loop Y1w
def zn44_24:=ZC.block 2 zn44_25
def zn44_22:=ZC.seq zn44_23 zn44_24
def zn44_41:=ZC.reg [zu 41 (zld 31 2),zu 42 (zcf 9 [Tm 41] [31]),zu 43 (zmv 42),zug 44 (zfa 40 3 0) 43 true false,zug 45 (zld 3 44) 43 true false,zug 46 (zcf 27 [Tm 45,Kn 0,Kn 600] [3,3,3]) 43 true false,zu 47 (.pick (Tm 43) (Tm 46) (.const (.bool false))),zv 4 (zas 47)]
def zn44_40:=ZC.seq zn44_41 ZC.ret
def zn44_21:=ZC.seq zn44_22 zn44_40
def zn44_2:=ZC.seq zn44_3 zn44_21
def zn44_0:=ZC.seq zn44_1 zn44_2
def zc44: ZC:=zn44_0
theorem zc44_ok: zcode (xfOf Tryz.f11).code=some zc44:=by kernel_rfl
def zw44:=zU C zc44.eq_1<|zU C zn44_1.eq_1<|zU C zn44_4.eq_1<|zU C zn44_8.eq_1<|zU C zn44_10.eq_1<|zU C zn44_14.eq_1<|zU C zn44_16.eq_1<|zU C zn44_19.eq_1<|zU C zn44_18.eq_1<|zU C zn44_17.eq_1<|zU C zn44_15.eq_1<|zU C zn44_13.eq_1<|zU C zn44_12.eq_1<|zU C zn44_20.eq_1<|zU C zn44_11.eq_1<|zU C zn44_9.eq_1<|zU C zn44_7.eq_1<|zU C zn44_5.eq_1<|zU C zn44_3.eq_1<|zU C zn44_23.eq_1<|zU C zn44_27.eq_1<|zU C zn44_29.eq_1<|zU C zn44_33.eq_1<|zU C zn44_35.eq_1<|zU C zn44_38.eq_1<|zU C zn44_37.eq_1<|zU C zn44_36.eq_1<|zU C zn44_34.eq_1<|zU C zn44_32.eq_1<|zU C zn44_31.eq_1<|zU C zn44_39.eq_1<|zU C zn44_30.eq_1<|zU C zn44_28.eq_1<|zU C Y1w.eq_1<|zU C zn44_24.eq_1<|zU C zn44_22.eq_1<|zU C zn44_41.eq_1<|zU C zn44_40.eq_1<|zU C zn44_21.eq_1<|zU C zn44_2.eq_1<|(zunf C zn44_0.eq_1)
theorem rs44: (xfOf Tryz.f11).rs=[.tmp 4]:=by kernel_rfl
theorem xf44: XFok C 11 (xfOf Tryz.f11):=by refine⟨Tryz.f11,?_,?_,?_,?_,?_,?_,?_⟩<;>kernel_rfl
def zn195_1:=ZC.reg [zv 4 (.alloc 62)]
def zn195_4:=ZC.reg [zu 6 (zmv 1),zu 7 (zmv 0),zu 8 (.nilCheck (Tm 7)),zu 9 (zfa 80 8 2),zu 10 (zld 26 9),zu 11 (zcb .len [Tm 10] [26]),zv 12 (.binOp .geq 3 (Tm 6) (Tm 11) 3)]
def zn195_7:=ZC.reg [⟨some 13,.build 62 ⟨[]⟩,none,false⟩,zv0 (.store 62 (Tm 4) (Tm 13))]
def zn195_6:=ZC.seq zn195_7 ZC.ret
def zn195_5:=ZC.cond (Tm 12) zn195_6 ZC.skip
def zn195_3:=ZC.seq zn195_4 zn195_5
def zn195_9:=ZC.reg [zu 14 (zmv 0),zu 15 (.nilCheck (Tm 14)),zu 16 (zfa 80 15 2),zu 17 (zld 26 16),zu 18 (zmv 1),zu 19 (zia 26 17 18),zu 20 (zfa 64 19 1),zu 21 (zld 62 20),zu 5 (.alloc 62),zv0 (.store 62 (Tm 5) (Tm 21))]
def zn195_11:=ZC.draw 11 [] [zdd 0 22 (zfa 62 5 0) false [] [] false,zdd 1 23 (zld 3 22) false [] [] false,zdd 2 24 (zcf 83 [Tm 23,Kn 0,Kn 255] [3,3,3]) false [] [] true,zdd 3 25 (zfa 62 5 1) false [2] [] false,zdd 4 26 (zld 3 25) false [2] [] false,zdd 5 27 (zcf 83 [Tm 26,Kn (-64),Kn 64] [3,3,3]) false [] [] true,zdd 6 28 (zfa 62 5 2) true [2,5] [] false,zdd 7 29 (zld 3 28) true [2,5] [] false,zdd 8 30 (zcf 83 [Tm 29,Kn (-64),Kn 64] [3,3,3]) true [] [] false,⟨9,some 31,.build 62 ⟨[(0,.tmp 24),(1,.tmp 27),(2,.tmp 30)]⟩,none,true,[],[],false⟩,zd0 10 (.store 62 (Tm 4) (Tm 31)) true [] [] false]
def zn195_10:=ZC.seq zn195_11 ZC.ret
def zn195_8:=ZC.seq zn195_9 zn195_10
def zn195_2:=ZC.seq zn195_3 zn195_8
def zn195_0:=ZC.seq zn195_1 zn195_2
def zc195: ZC:=zn195_0
theorem zc195_ok: zcode (xfOf Tryz.f73).code=some zc195:=by kernel_rfl
def zw195:=zU C zc195.eq_1<|zU C zn195_1.eq_1<|zU C zn195_4.eq_1<|zU C zn195_7.eq_1<|zU C zn195_6.eq_1<|zU C zn195_5.eq_1<|zU C zn195_3.eq_1<|zU C zn195_9.eq_1<|zU C zn195_11.eq_1<|zU C zn195_10.eq_1<|zU C zn195_8.eq_1<|zU C zn195_2.eq_1<|(zunf C zn195_0.eq_1)
theorem rs195: (xfOf Tryz.f73).rs=[.cell 4 62]:=by kernel_rfl
theorem xf195: XFok C 73 (xfOf Tryz.f73):=by refine⟨Tryz.f73,?_,?_,?_,?_,?_,?_,?_⟩<;>kernel_rfl
def zn197_1:=ZC.reg [zv 2 (.assign (Kn 0))]
def zn197_3:=ZC.reg [zv 3 (.assign (Kn 0))]
def zn197_6:=ZC.reg [zu 6 (zmv 0),zu 7 (.nilCheck (Tm 6)),zu 8 (zfa 80 7 1),zu 9 (zfa 40 8 2),zu 10 (zld 37 9),zv 11 (.move (Kn 0))]
def zn197_10:=ZC.reg [zv 12 (.binOp .lss 3 (Tm 11) (Kn 16) 3)]
def zn197_12:=ZC.cond (Tm 12) ZC.skip (ZC.exit 0)
def zn197_16:=ZC.reg [zu 13 (.index 37 (Tm 10) (Tm 11)),zu 5 (.alloc 36),zv0 (.store 36 (Tm 5) (Tm 13))]
def zn197_18:=ZC.reg [zu 14 (zfa 36 5 0),zu 15 (zld 3 14),zv 16 (.binOp .eql 3 (Tm 15) (Kn 0) 3)]
def zn197_20:=ZC.reg [zu 17 (zmv 3),zu 18 (.binOp .add 3 (Tm 17) (Kn 1) 3),zv 3 (zas 18)]
def zn197_19:=ZC.cond (Tm 16) zn197_20 ZC.skip
def zn197_17:=ZC.seq zn197_18 zn197_19
def zn197_15:=ZC.seq zn197_16 zn197_17
def zn197_14:=ZC.block 1 zn197_15
def zn197_21:=ZC.reg [zu 19 (.binOp .add 3 (Tm 11) (Kn 1) 3),zv 11 (zmv 19)]
def zn197_13:=ZC.seq zn197_14 zn197_21
def zn197_11:=ZC.seq zn197_12 zn197_13
def Q1w:=ZC.seq zn197_10 zn197_11
def zn197_8:=ZC.loop Q1w
def zn197_7:=ZC.block 0 zn197_8
def zn197_5:=ZC.seq zn197_6 zn197_7
def zn197_23:=ZC.reg [zu 20 (zmv 3),zu 21 (zmv 0),zu 22 (.nilCheck (Tm 21)),zu 23 (zfa 80 22 3),zu 24 (zld 78 23),zu 25 (zcb .len [Tm 24] [78]),zu 26 (.binOp .sub 3 (Tm 20) (Tm 25) 3),zv 2 (zas 26)]
def zn197_22:=ZC.seq zn197_23 ZC.ret
def zn197_4:=ZC.seq zn197_5 zn197_22
def zn197_2:=ZC.seq zn197_3 zn197_4
def zn197_0:=ZC.seq zn197_1 zn197_2
def zc197: ZC:=zn197_0
theorem zc197_ok: zcode (xfOf Tryz.f75).code=some zc197:=by kernel_rfl
def zw197:=zU C zc197.eq_1<|zU C zn197_1.eq_1<|zU C zn197_3.eq_1<|zU C zn197_6.eq_1<|zU C zn197_10.eq_1<|zU C zn197_12.eq_1<|zU C zn197_16.eq_1<|zU C zn197_18.eq_1<|zU C zn197_20.eq_1<|zU C zn197_19.eq_1<|zU C zn197_17.eq_1<|zU C zn197_15.eq_1<|zU C zn197_14.eq_1<|zU C zn197_21.eq_1<|zU C zn197_13.eq_1<|zU C zn197_11.eq_1<|zU C Q1w.eq_1<|zU C zn197_7.eq_1<|zU C zn197_5.eq_1<|zU C zn197_23.eq_1<|zU C zn197_22.eq_1<|zU C zn197_4.eq_1<|zU C zn197_2.eq_1<|(zunf C zn197_0.eq_1)
theorem rs197: (xfOf Tryz.f75).rs=[.tmp 2]:=by kernel_rfl
theorem xf197: XFok C 75 (xfOf Tryz.f75):=by refine⟨Tryz.f75,?_,?_,?_,?_,?_,?_,?_⟩<;>kernel_rfl
def zn177_1:=ZC.reg [zu 3 (.box 36 (Tm 1)),zv 4 (.alloc 36)]
def zn177_3:=ZC.reg [zu 9 (zmv 0),zu 10 (zfa 36 3 1),zu 11 (zld 3 10),zu 12 (zcf 73 [Tm 9,Tm 11] [77,3]),zu 5 (.alloc 62),zv0 (.store 62 (Tm 5) (Tm 12))]
def zn177_5:=ZC.draw 19 [(17,.alloc 115)] [zdd 0 13 (zld 36 3) false [] [] false,zdd 1 14 (zfa 62 5 1) false [] [] false,zdd 2 15 (zld 3 14) false [] [] false,zdd 3 16 (.binOp .quo 3 (Tm 15) (Kn 16) 3) false [] [] false,zdd 4 17 (zfa 62 5 2) false [] [] false,zdd 5 18 (zld 3 17) false [] [] false,zdd 6 19 (.binOp .quo 3 (Tm 18) (Kn 16) 3) false [] [] false,zdd 7 20 (zcf 74 [Tm 13,Tm 16,Tm 19] [36,3,3]) false [] [] true,zdd 8 21 (zld 62 5) false [7] [15] false,zdd 9 22 (zmv 0) false [] [] false,zdd 10 23 (.nilCheck (Tm 22)) false [] [] false,zdd 11 24 (zfa 80 23 1) false [7] [15] false,zdd 12 25 (zfa 40 24 1) false [7] [15] false,zdd 13 26 (zld 33 25) false [7] [15] false,zdd 14 27 (zmv 0) false [] [] false,zdd 15 28 (zcf 75 [Tm 27] [77]) false [] [] true,⟨16,some 29,.build 115 ⟨[(0,.tmp 20),(1,.tmp 21),(2,.tmp 26),(3,.tmp 28)]⟩,none,false,[],[],false⟩,zdd 17 6 (.alloc 115) true [7,15] [] false,zd0 18 (.store 115 (Tm 6) (Tm 29)) true [] [] false]
def zn177_7:=ZC.draw 15 [(11,.alloc 117)] [zdd 0 31 (zmv 0) false [] [] false,zdd 1 32 (.nilCheck (Tm 31)) false [] [] false,zdd 2 33 (zfa 80 32 0) false [] [] false,zdd 3 34 (zfa 31 33 8) false [] [] false,zdd 4 35 (zld 28 34) false [] [] false,zdd 5 36 (zld 115 6) false [] [] false,zdd 6 37 (zcf 76 [Tm 35,Tm 36] [28,115]) false [] [] true,zdd 7 30 (zmv 37) false [] [] false,zdd 8 38 (.extract (Tm 30) 0) false [] [] false,zdd 9 39 (.extract (Tm 30) 1) false [] [] false,zdd 10 40 (.extract (Tm 30) 2) false [] [] false,zdd 11 7 (.alloc 117) true [6] [] false,zd0 12 (.store 115 (Tm 6) (Tm 38)) true [] [] false,zd0 13 (.store 117 (Tm 7) (Tm 39)) true [] [] false,zdd 14 8 (zas 40) true [] [] false]
def zn177_10:=ZC.reg [zu 41 (zmv 8),zv 42 (.unOp .not 4 (Tm 41))]
def zn177_13:=ZC.reg [zu 43 (zfa 36 3 8),zu 44 (zld 3 43),zu 45 (.binOp .add 3 (Tm 44) (Kn 1) 3),zu 46 (zcb .min [Tm 45,Kn 65535] [3,3]),zu 47 (zfa 36 3 8),zv0 (.store 3 (Tm 47) (Tm 46))]
def zn177_15:=ZC.reg [zu 48 (zld 36 3),zv0 (.store 36 (Tm 4) (Tm 48))]
def zn177_14:=ZC.seq zn177_15 ZC.ret
def zn177_12:=ZC.seq zn177_13 zn177_14
def zn177_11:=ZC.cond (Tm 42) zn177_12 ZC.skip
def zn177_9:=ZC.seq zn177_10 zn177_11
def zn177_17:=ZC.reg [zu 49 (zmv 0),zu 50 (zfa 115 6 2),zu 51 (zld 33 50),zu 52 (.nilCheck (Tm 49)),zu 53 (zfa 80 52 1),zu 54 (zfa 40 53 1),zv0 (.store 33 (Tm 54) (Tm 51))]
def zn177_19:=ZC.draw 11 [] [zdd 0 55 (zmv 0) false [] [] false,zdd 1 56 (zmv 0) false [] [] false,zdd 2 57 (.nilCheck (Tm 56)) false [] [] false,zdd 3 58 (zfa 80 57 3) false [] [] false,zdd 4 59 (zld 78 58) false [] [] false,zdd 5 60 (zfa 115 6 4) true [] [] false,zdd 6 61 (zld 78 60) true [] [] false,zdd 7 62 (zcb .append [Tm 59,Tm 61] [78,78]) true [] [] false,zdd 8 63 (.nilCheck (Tm 55)) true [] [] false,zdd 9 64 (zfa 80 63 3) true [] [] false,zd0 10 (.store 78 (Tm 64) (Tm 62)) true [] [] false]
def zn177_21:=ZC.reg [zu 65 (zfa 115 6 0),zu 66 (zld 36 65),zv0 (.store 36 (Tm 4) (Tm 66))]
def zn177_20:=ZC.seq zn177_21 ZC.ret
def zn177_18:=ZC.seq zn177_19 zn177_20
def zn177_16:=ZC.seq zn177_17 zn177_18
def zn177_8:=ZC.seq zn177_9 zn177_16
def zn177_6:=ZC.seq zn177_7 zn177_8
def zn177_4:=ZC.seq zn177_5 zn177_6
def zn177_2:=ZC.seq zn177_3 zn177_4
def zn177_0:=ZC.seq zn177_1 zn177_2
def zc177: ZC:=zn177_0
theorem zc177_ok: zcode (xfOf Tryz.f60).code=some zc177:=by kernel_rfl
def zw177:=zU C zc177.eq_1<|zU C zn177_1.eq_1<|zU C zn177_3.eq_1<|zU C zn177_5.eq_1<|zU C zn177_7.eq_1<|zU C zn177_10.eq_1<|zU C zn177_13.eq_1<|zU C zn177_15.eq_1<|zU C zn177_14.eq_1<|zU C zn177_12.eq_1<|zU C zn177_11.eq_1<|zU C zn177_9.eq_1<|zU C zn177_17.eq_1<|zU C zn177_19.eq_1<|zU C zn177_21.eq_1<|zU C zn177_20.eq_1<|zU C zn177_18.eq_1<|zU C zn177_16.eq_1<|zU C zn177_8.eq_1<|zU C zn177_6.eq_1<|zU C zn177_4.eq_1<|zU C zn177_2.eq_1<|(zunf C zn177_0.eq_1)
theorem rs177: (xfOf Tryz.f60).rs=[.cell 4 36]:=by kernel_rfl
theorem xf177: XFok C 60 (xfOf Tryz.f60):=by refine⟨Tryz.f60,?_,?_,?_,?_,?_,?_,?_⟩<;>kernel_rfl
def zn137_1:=ZC.reg [zu 4 (zmv 0),zu 5 (.nilCheck (Tm 4)),zu 6 (zfa 80 5 1),zu 7 (zfa 40 6 2),zu 8 (zld 37 7),zv 9 (.move (Kn 0))]
def zn137_5:=ZC.reg [zv 10 (.binOp .lss 3 (Tm 9) (Kn 16) 3)]
def zn137_7:=ZC.cond (Tm 10) ZC.skip (ZC.exit 0)
def zn137_11:=ZC.reg [zu 11 (zmv 9),zu 12 (.index 37 (Tm 8) (Tm 9)),zu 3 (.alloc 36),zu 2 (zas 11),zv0 (.store 36 (Tm 3) (Tm 12))]
def zn137_14:=ZC.reg [zu 13 (zfa 36 3 0),zu 14 (zld 3 13),zv 15 (.binOp .eql 3 (Tm 14) (Kn 1) 3)]
def zn137_16:=ZC.reg [zu 16 (zmv 0),zu 17 (zld 36 3),zu 18 (zcf 60 [Tm 16,Tm 17] [77,36]),zv0 (.store 36 (Tm 3) (Tm 18))]
def zn137_15:=ZC.cond (Tm 15) zn137_16 ZC.skip
def zn137_13:=ZC.seq zn137_14 zn137_15
def zn137_17:=ZC.draw 12 [] [zdd 0 20 (zmv 0) false [] [] false,zdd 1 21 (zmv 2) false [] [] false,zdd 2 22 (zld 36 3) false [] [] false,zdd 3 23 (zcf 61 [Tm 22] [36]) false [] [] true,zdd 4 19 (zmv 23) false [] [] false,zdd 5 24 (.extract (Tm 19) 0) false [] [] false,zdd 6 25 (.extract (Tm 19) 1) false [] [] false,zdd 7 26 (.nilCheck (Tm 20)) true [] [] false,zdd 8 27 (zfa 80 26 1) true [3] [] false,zdd 9 28 (zfa 40 27 2) true [3] [] false,zdd 10 29 (zia 37 28 21) true [] [] false,zd0 11 (.store 36 (Tm 29) (Tm 24)) true [] [] false]
def zn137_12:=ZC.seq zn137_13 zn137_17
def zn137_10:=ZC.seq zn137_11 zn137_12
def zn137_9:=ZC.block 1 zn137_10
def zn137_18:=ZC.reg [zu 30 (.binOp .add 3 (Tm 9) (Kn 1) 3),zv 9 (zmv 30)]
def zn137_8:=ZC.seq zn137_9 zn137_18
def zn137_6:=ZC.seq zn137_7 zn137_8
def V1u:=ZC.seq zn137_5 zn137_6
def zn137_3:=ZC.loop V1u
def zn137_2:=ZC.block 0 zn137_3
def zn137_0:=ZC.seq zn137_1 zn137_2
def zc137: ZC:=zn137_0
theorem zc137_ok: zcode (xfOf Tryz.f40).code=some zc137:=by kernel_rfl
def zw137:=zU C zc137.eq_1<|zU C zn137_1.eq_1<|zU C zn137_5.eq_1<|zU C zn137_7.eq_1<|zU C zn137_11.eq_1<|zU C zn137_14.eq_1<|zU C zn137_16.eq_1<|zU C zn137_15.eq_1<|zU C zn137_13.eq_1<|zU C zn137_17.eq_1<|zU C zn137_12.eq_1<|zU C zn137_10.eq_1<|zU C zn137_9.eq_1<|zU C zn137_18.eq_1<|zU C zn137_8.eq_1<|zU C zn137_6.eq_1<|zU C V1u.eq_1<|zU C zn137_2.eq_1<|(zunf C zn137_0.eq_1)
theorem rs137: (xfOf Tryz.f40).rs=[]:=by kernel_rfl
theorem xf137: XFok C 40 (xfOf Tryz.f40):=by refine⟨Tryz.f40,?_,?_,?_,?_,?_,?_,?_⟩<;>kernel_rfl
def zn138_1:=ZC.reg [zu 4 (zmv 0),zu 5 (.nilCheck (Tm 4)),zu 6 (zfa 80 5 1),zu 7 (zfa 40 6 2),zu 8 (zld 37 7),zv 9 (.move (Kn 0))]
def zn138_5:=ZC.reg [zv 10 (.binOp .lss 3 (Tm 9) (Kn 16) 3)]
def zn138_7:=ZC.cond (Tm 10) ZC.skip (ZC.exit 0)
def zn138_11:=ZC.reg [zu 11 (zmv 9),zu 12 (.index 37 (Tm 8) (Tm 9)),zu 3 (.alloc 36),zu 2 (zas 11),zv0 (.store 36 (Tm 3) (Tm 12))]
def zn138_13:=ZC.reg [zu 13 (zfa 36 3 0),zu 14 (zld 3 13),zu 15 (.binOp .eql 3 (Tm 14) (Kn 0) 3),zu 16 (zmv 15),zug 17 (zmv 0) 16 true false,zug 18 (.nilCheck (Tm 17)) 16 true false,zug 19 (zfa 80 18 3) 16 true false,zug 20 (zld 78 19) 16 true false,zug 21 (zcb .len [Tm 20] [78]) 16 true false,zug 22 (.binOp .gtr 3 (Tm 21) (Kn 0) 3) 16 true false,zv 23 (.pick (Tm 16) (Tm 22) (.const (.bool false)))]
def zn138_15:=ZC.draw 22 [] [zdd 0 24 (zmv 0) false [] [] false,zdd 1 25 (zmv 2) false [] [] false,zdd 2 26 (zmv 0) false [] [] false,zdd 3 27 (zmv 0) false [] [] false,zdd 4 28 (.nilCheck (Tm 27)) false [] [] false,zdd 5 29 (zfa 80 28 3) false [] [] false,zdd 6 30 (zld 78 29) false [] [] false,zdd 7 31 (.indexAddr 78 (Tm 30) (Kn 0)) false [] [] false,zdd 8 32 (zld 36 31) false [] [] false,zdd 9 33 (zmv 0) false [] [] false,zdd 10 34 (.nilCheck (Tm 33)) false [] [] false,zdd 11 35 (zfa 80 34 3) false [] [] false,zdd 12 36 (zld 78 35) false [] [] false,zdd 13 37 (.slice 78 (Tm 36) (some (Kn 1)) none none) false [] [18] false,zdd 14 38 (.nilCheck (Tm 24)) true [] [] false,zdd 15 39 (zfa 80 38 1) true [] [] false,zdd 16 40 (zfa 40 39 2) true [] [] false,zdd 17 41 (zia 37 40 25) true [] [] false,zd0 18 (.store 36 (Tm 41) (Tm 32)) true [] [] false,zdd 19 42 (.nilCheck (Tm 26)) true [] [] false,zdd 20 43 (zfa 80 42 3) true [] [] false,zd0 21 (.store 78 (Tm 43) (Tm 37)) true [] [] false]
def zn138_14:=ZC.cond (Tm 23) zn138_15 ZC.skip
def zn138_12:=ZC.seq zn138_13 zn138_14
def zn138_10:=ZC.seq zn138_11 zn138_12
def zn138_9:=ZC.block 1 zn138_10
def zn138_16:=ZC.reg [zu 44 (.binOp .add 3 (Tm 9) (Kn 1) 3),zv 9 (zmv 44)]
def zn138_8:=ZC.seq zn138_9 zn138_16
def zn138_6:=ZC.seq zn138_7 zn138_8
def X1q:=ZC.seq zn138_5 zn138_6
def zn138_3:=ZC.loop X1q
def zn138_2:=ZC.block 0 zn138_3
def zn138_0:=ZC.seq zn138_1 zn138_2
def zc138: ZC:=zn138_0
theorem zc138_ok: zcode (xfOf Tryz.f41).code=some zc138:=by kernel_rfl
def zw138:=zU C zc138.eq_1<|zU C zn138_1.eq_1<|zU C zn138_5.eq_1<|zU C zn138_7.eq_1<|zU C zn138_11.eq_1<|zU C zn138_13.eq_1<|zU C zn138_15.eq_1<|zU C zn138_14.eq_1<|zU C zn138_12.eq_1<|zU C zn138_10.eq_1<|zU C zn138_9.eq_1<|zU C zn138_16.eq_1<|zU C zn138_8.eq_1<|zU C zn138_6.eq_1<|zU C X1q.eq_1<|zU C zn138_2.eq_1<|(zunf C zn138_0.eq_1)
theorem rs138: (xfOf Tryz.f41).rs=[]:=by kernel_rfl
theorem xf138: XFok C 41 (xfOf Tryz.f41):=by refine⟨Tryz.f41,?_,?_,?_,?_,?_,?_,?_⟩<;>kernel_rfl
def zn179_1:=ZC.reg [zu 3 (.box 36 (Tm 1)),zv 4 (.assign (Kn 0))]
def zn179_4:=ZC.reg [zu 7 (zmv 0),zu 8 (.nilCheck (Tm 7)),zu 9 (zfa 80 8 1),zu 10 (zfa 40 9 2),zu 11 (zld 37 10),zv 12 (.move (Kn 0))]
def zn179_8:=ZC.reg [zv 13 (.binOp .lss 3 (Tm 12) (Kn 16) 3)]
def zn179_10:=ZC.cond (Tm 13) ZC.skip (ZC.exit 0)
def zn179_14:=ZC.reg [zu 14 (zmv 12),zu 15 (.index 37 (Tm 11) (Tm 12)),zu 6 (.alloc 36),zu 5 (zas 14),zv0 (.store 36 (Tm 6) (Tm 15))]
def zn179_16:=ZC.reg [zu 16 (zfa 36 6 0),zu 17 (zld 3 16),zu 18 (.binOp .eql 3 (Tm 17) (Kn 1) 3),zu 19 (zmv 18),zug 20 (zld 36 6) 19 true false,zug 21 (zld 36 3) 19 true false,zug 22 (zcf 78 [Tm 20,Tm 21] [36,36]) 19 true false,zv 23 (.pick (Tm 19) (Tm 22) (.const (.bool false)))]
def zn179_19:=ZC.reg [zu 24 (zmv 5),zv 4 (zas 24)]
def zn179_18:=ZC.seq zn179_19 ZC.ret
def zn179_17:=ZC.cond (Tm 23) zn179_18 ZC.skip
def zn179_15:=ZC.seq zn179_16 zn179_17
def zn179_13:=ZC.seq zn179_14 zn179_15
def zn179_12:=ZC.block 1 zn179_13
def zn179_20:=ZC.reg [zu 25 (.binOp .add 3 (Tm 12) (Kn 1) 3),zv 12 (zmv 25)]
def zn179_11:=ZC.seq zn179_12 zn179_20
def zn179_9:=ZC.seq zn179_10 zn179_11
def Q1s:=ZC.seq zn179_8 zn179_9
def zn179_6:=ZC.loop Q1s
def zn179_5:=ZC.block 0 zn179_6
def zn179_3:=ZC.seq zn179_4 zn179_5
def zn179_22:=ZC.reg [zv 4 (.assign (Kn (-1)))]
def zn179_21:=ZC.seq zn179_22 ZC.ret
def zn179_2:=ZC.seq zn179_3 zn179_21
def zn179_0:=ZC.seq zn179_1 zn179_2
def zc179: ZC:=zn179_0
theorem zc179_ok: zcode (xfOf Tryz.f62).code=some zc179:=by kernel_rfl
def zw179:=zU C zc179.eq_1<|zU C zn179_1.eq_1<|zU C zn179_4.eq_1<|zU C zn179_8.eq_1<|zU C zn179_10.eq_1<|zU C zn179_14.eq_1<|zU C zn179_16.eq_1<|zU C zn179_19.eq_1<|zU C zn179_18.eq_1<|zU C zn179_17.eq_1<|zU C zn179_15.eq_1<|zU C zn179_13.eq_1<|zU C zn179_12.eq_1<|zU C zn179_20.eq_1<|zU C zn179_11.eq_1<|zU C zn179_9.eq_1<|zU C Q1s.eq_1<|zU C zn179_5.eq_1<|zU C zn179_3.eq_1<|zU C zn179_22.eq_1<|zU C zn179_21.eq_1<|zU C zn179_2.eq_1<|(zunf C zn179_0.eq_1)
theorem rs179: (xfOf Tryz.f62).rs=[.tmp 4]:=by kernel_rfl
theorem xf179: XFok C 62 (xfOf Tryz.f62):=by refine⟨Tryz.f62,?_,?_,?_,?_,?_,?_,?_⟩<;>kernel_rfl
def zn139_1:=ZC.reg [zv 6 (.move (Kn 0))]
def zn139_5:=ZC.reg [zv 7 (.binOp .lss 3 (Tm 6) (Kn 16) 3)]
def zn139_7:=ZC.cond (Tm 7) ZC.skip (ZC.exit 0)
def zn139_11:=ZC.reg [zu 8 (zmv 6),zv 2 (zas 8)]
def zn139_13:=ZC.reg [zu 9 (zmv 0),zu 10 (zmv 2),zu 11 (.nilCheck (Tm 9)),zu 12 (zfa 80 11 1),zu 13 (zfa 40 12 2),zu 14 (zia 37 13 10),zu 15 (zld 36 14),zu 3 (.alloc 36),zv0 (.store 36 (Tm 3) (Tm 15))]
def zn139_16:=ZC.reg [zu 16 (zfa 36 3 0),zu 17 (zld 3 16),zv 18 (.binOp .neq 3 (Tm 17) (Kn 2) 3)]
def zn139_17:=ZC.cond (Tm 18) (ZC.exit 1) ZC.skip
def zn139_15:=ZC.seq zn139_16 zn139_17
def zn139_19:=ZC.reg [zu 19 (zmv 0),zu 20 (zld 36 3),zu 21 (zcf 62 [Tm 19,Tm 20] [77,36]),zv 4 (zas 21)]
def zn139_22:=ZC.reg [zu 22 (zmv 4),zv 23 (.binOp .lss 3 (Tm 22) (Kn 0) 3)]
def zn139_23:=ZC.cond (Tm 23) (ZC.exit 1) ZC.skip
def zn139_21:=ZC.seq zn139_22 zn139_23
def zn139_25:=ZC.draw 18 [] [zdd 0 24 (zmv 0) false [] [] false,zdd 1 25 (zfa 36 3 1) false [] [] false,zdd 2 26 (zld 3 25) false [] [] false,zdd 3 27 (zmv 0) false [] [] false,zdd 4 28 (zfa 36 3 1) false [] [] false,zdd 5 29 (zld 3 28) false [] [] false,zdd 6 30 (.nilCheck (Tm 27)) false [] [] false,zdd 7 31 (zfa 80 30 1) false [] [] false,zdd 8 32 (zfa 40 31 3) false [] [] false,zdd 9 33 (zia 38 32 29) false [] [] false,zdd 10 34 (zld 3 33) false [] [] false,zdd 11 35 (.binOp .add 3 (Tm 34) (Kn 1) 3) false [] [] false,zdd 12 36 (zcb .min [Tm 35,Kn 2147483647] [3,3]) false [] [] false,zdd 13 37 (.nilCheck (Tm 24)) true [] [] false,zdd 14 38 (zfa 80 37 1) true [] [] false,zdd 15 39 (zfa 40 38 3) true [] [] false,zdd 16 40 (zia 38 39 26) true [] [] false,zd0 17 (.store 3 (Tm 40) (Tm 36)) true [] [] false]
def zn139_27:=ZC.reg [zu 41 (zmv 0),zu 42 (zmv 2),⟨some 43,.build 36 ⟨[]⟩,none,false⟩,zu 44 (.nilCheck (Tm 41)),zu 45 (zfa 80 44 1),zu 46 (zfa 40 45 2),zu 47 (zia 37 46 42),zv0 (.store 36 (Tm 47) (Tm 43))]
def zn139_29:=ZC.draw 16 [(14,.alloc 36)] [zdd 0 48 (zmv 0) false [] [] false,zdd 1 49 (zmv 4) false [] [] false,zdd 2 50 (.nilCheck (Tm 48)) false [] [] false,zdd 3 51 (zfa 80 50 1) false [] [] false,zdd 4 52 (zfa 40 51 2) false [] [] false,zdd 5 53 (zia 37 52 49) false [] [] false,zdd 6 54 (zfa 36 53 1) false [] [] false,zdd 7 55 (zld 3 54) false [] [] false,zdd 8 56 (zmv 0) false [] [] false,zdd 9 57 (.nilCheck (Tm 56)) false [] [] false,zdd 10 58 (zfa 80 57 0) false [] [] false,zdd 11 59 (zfa 31 58 0) false [] [] false,zdd 12 60 (zld 3 59) false [] [] false,zdd 13 61 (zcf 37 [Tm 55,Tm 60] [3,3]) false [] [] true,zdd 14 5 (.alloc 36) true [13] [] false,zd0 15 (.store 36 (Tm 5) (Tm 61)) true [] [] false]
def zn139_31:=ZC.reg [zu 62 (zmv 0),zu 63 (zmv 4),zu 64 (.nilCheck (Tm 62)),zu 65 (zfa 80 64 1),zu 66 (zfa 40 65 2),zu 67 (zia 37 66 63),zu 68 (zfa 36 67 8),zu 69 (zld 3 68),zu 70 (zfa 36 5 8),zv0 (.store 3 (Tm 70) (Tm 69))]
def zn139_32:=ZC.draw 8 [] [zdd 0 71 (zmv 0) false [] [] false,zdd 1 72 (zmv 4) false [] [] false,zdd 2 73 (zld 36 5) false [] [] false,zdd 3 74 (.nilCheck (Tm 71)) true [] [] false,zdd 4 75 (zfa 80 74 1) true [] [] false,zdd 5 76 (zfa 40 75 2) true [] [] false,zdd 6 77 (zia 37 76 72) true [] [] false,zd0 7 (.store 36 (Tm 77) (Tm 73)) true [] [] false]
def zn139_30:=ZC.seq zn139_31 zn139_32
def zn139_28:=ZC.seq zn139_29 zn139_30
def zn139_26:=ZC.seq zn139_27 zn139_28
def zn139_24:=ZC.seq zn139_25 zn139_26
def zn139_20:=ZC.seq zn139_21 zn139_24
def zn139_18:=ZC.seq zn139_19 zn139_20
def zn139_14:=ZC.seq zn139_15 zn139_18
def zn139_12:=ZC.seq zn139_13 zn139_14
def zn139_10:=ZC.seq zn139_11 zn139_12
def zn139_9:=ZC.block 1 zn139_10
def zn139_33:=ZC.reg [zu 78 (.binOp .add 3 (Tm 6) (Kn 1) 3),zv 6 (zmv 78)]
def zn139_8:=ZC.seq zn139_9 zn139_33
def zn139_6:=ZC.seq zn139_7 zn139_8
def Z1t:=ZC.seq zn139_5 zn139_6
def zn139_3:=ZC.loop Z1t
def zn139_2:=ZC.block 0 zn139_3
def zn139_0:=ZC.seq zn139_1 zn139_2
def zc139: ZC:=zn139_0
theorem zc139_ok: zcode (xfOf Tryz.f42).code=some zc139:=by kernel_rfl
def zw139:=zU C zc139.eq_1<|zU C zn139_1.eq_1<|zU C zn139_5.eq_1<|zU C zn139_7.eq_1<|zU C zn139_11.eq_1<|zU C zn139_13.eq_1<|zU C zn139_16.eq_1<|zU C zn139_17.eq_1<|zU C zn139_15.eq_1<|zU C zn139_19.eq_1<|zU C zn139_22.eq_1<|zU C zn139_23.eq_1<|zU C zn139_21.eq_1<|zU C zn139_25.eq_1<|zU C zn139_27.eq_1<|zU C zn139_29.eq_1<|zU C zn139_31.eq_1<|zU C zn139_32.eq_1<|zU C zn139_30.eq_1<|zU C zn139_28.eq_1<|zU C zn139_26.eq_1<|zU C zn139_24.eq_1<|zU C zn139_20.eq_1<|zU C zn139_18.eq_1<|zU C zn139_14.eq_1<|zU C zn139_12.eq_1<|zU C zn139_10.eq_1<|zU C zn139_9.eq_1<|zU C zn139_33.eq_1<|zU C zn139_8.eq_1<|zU C zn139_6.eq_1<|zU C Z1t.eq_1<|zU C zn139_2.eq_1<|(zunf C zn139_0.eq_1)
theorem rs139: (xfOf Tryz.f42).rs=[]:=by kernel_rfl
theorem xf139: XFok C 42 (xfOf Tryz.f42):=by refine⟨Tryz.f42,?_,?_,?_,?_,?_,?_,?_⟩<;>kernel_rfl
def zn62_1:=ZC.reg [zu 3 (.box 31 (Tm 0)),zu 4 (.box 40 (Tm 1)),zv 6 (.alloc 40)]
def zn62_4:=ZC.reg [zu 8 (zld 31 3),zu 9 (zld 40 4),zu 10 (zcf 11 [Tm 8,Tm 9] [31,40]),zv 11 (.unOp .not 4 (Tm 10))]
def zn62_7:=ZC.reg [⟨some 12,.build 40 ⟨[]⟩,none,false⟩,zv0 (.store 40 (Tm 6) (Tm 12))]
def zn62_6:=ZC.seq zn62_7 ZC.ret
def zn62_5:=ZC.cond (Tm 11) zn62_6 ZC.skip
def zn62_3:=ZC.seq zn62_4 zn62_5
def zn62_9:=ZC.reg [zu 13 (zld 31 3),zu 14 (zld 40 4),zu 15 (zmv 2),⟨some 16,.build 80 ⟨[(0,.tmp 13),(1,.tmp 14),(2,.tmp 15)]⟩,none,false⟩,zu 17 (.box 80 (Tm 16)),zv 7 (zas 17)]
def zn62_11:=ZC.reg [zu 18 (zmv 7),zv 19 (zcf 40 [Tm 18] [77])]
def zn62_13:=ZC.reg [zu 20 (zmv 7),zv 21 (zcf 41 [Tm 20] [77])]
def zn62_15:=ZC.reg [zu 22 (zmv 7),zv 23 (zcf 42 [Tm 22] [77])]
def zn62_17:=ZC.reg [zu 24 (zmv 7),zu 25 (zmv 7),zu 26 (.nilCheck (Tm 25)),zu 27 (zfa 80 26 1),zu 28 (zfa 40 27 0),zu 29 (zld 3 28),zu 30 (.binOp .add 3 (Tm 29) (Kn 1) 3),zu 31 (zcb .min [Tm 30,Kn 600] [3,3]),zu 32 (.nilCheck (Tm 24)),zu 33 (zfa 80 32 1),zu 34 (zfa 40 33 0),zv0 (.store 3 (Tm 34) (Tm 31))]
def zn62_19:=ZC.reg [zu 35 (zmv 7),zu 36 (.nilCheck (Tm 35)),zu 37 (zfa 80 36 1),zu 38 (zld 40 37),zv0 (.store 40 (Tm 6) (Tm 38))]
def zn62_18:=ZC.seq zn62_19 ZC.ret
def zn62_16:=ZC.seq zn62_17 zn62_18
def zn62_14:=ZC.seq zn62_15 zn62_16
def zn62_12:=ZC.seq zn62_13 zn62_14
def zn62_10:=ZC.seq zn62_11 zn62_12
def zn62_8:=ZC.seq zn62_9 zn62_10
def zn62_2:=ZC.seq zn62_3 zn62_8
def zn62_0:=ZC.seq zn62_1 zn62_2
def zc62: ZC:=zn62_0
theorem zc62_ok: zcode (xfOf Tryz.f15).code=some zc62:=by kernel_rfl
def zw62:=zU C zc62.eq_1<|zU C zn62_1.eq_1<|zU C zn62_4.eq_1<|zU C zn62_7.eq_1<|zU C zn62_6.eq_1<|zU C zn62_5.eq_1<|zU C zn62_3.eq_1<|zU C zn62_9.eq_1<|zU C zn62_11.eq_1<|zU C zn62_13.eq_1<|zU C zn62_15.eq_1<|zU C zn62_17.eq_1<|zU C zn62_19.eq_1<|zU C zn62_18.eq_1<|zU C zn62_16.eq_1<|zU C zn62_14.eq_1<|zU C zn62_12.eq_1<|zU C zn62_10.eq_1<|zU C zn62_8.eq_1<|zU C zn62_2.eq_1<|(zunf C zn62_0.eq_1)
theorem rs62: (xfOf Tryz.f15).rs=[.cell 6 40]:=by kernel_rfl
theorem xf62: XFok C 15 (xfOf Tryz.f15):=by refine⟨Tryz.f15,?_,?_,?_,?_,?_,?_,?_⟩<;>kernel_rfl
def zn86_1:=ZC.reg [zv 2 (.assign (.const (.slice none 0 0)))]
def zn86_3:=ZC.reg [zv 3 (.assign (.const (.slice none 0 0)))]
def zn86_6:=ZC.reg [zv 4 (.assign (Kn 0))]
def zn86_11:=ZC.reg [zu 6 (zmv 4),zu 7 (zmv 0),zu 8 (zcb .len [Tm 7] [22]),zu 9 (.binOp .lss 3 (Tm 6) (Tm 8) 3),zu 10 (zmv 9),zug 11 (zmv 4) 10 true false,zug 12 (.binOp .lss 3 (Tm 11) (Kn 16) 3) 10 true false,zv 13 (.pick (Tm 10) (Tm 12) (.const (.bool false)))]
def zn86_12:=ZC.cond (Tm 13) ZC.skip (ZC.exit 0)
def zn86_10:=ZC.seq zn86_11 zn86_12
def zn86_16:=ZC.reg [zu 16 (zmv 0),zu 17 (zmv 4),zu 18 (zia 22 16 17),zu 19 (zld 92 18),zu 20 (zcf 49 [Tm 19] [92]),zu 5 (.alloc 45),zv0 (.store 45 (Tm 5) (Tm 20))]
def zn86_19:=ZC.reg [zu 21 (zfa 45 5 0),zu 22 (zld 3 21),zu 23 (.binOp .lss 3 (Tm 22) (Kn 1) 3),zu 24 (zmv 23),zug 25 (zfa 45 5 0) 24 false false,zug 26 (zld 3 25) 24 false false,zug 27 (.binOp .gtr 3 (Tm 26) (Kn 13) 3) 24 false false,zu 28 (.pick (Tm 24) (.const (.bool true)) (Tm 27)),zu 29 (zmv 28),zug 30 (zfa 45 5 1) 29 false false,zug 31 (zld 3 30) 29 false false,zug 32 (.binOp .lss 3 (Tm 31) (Kn (-1000000)) 3) 29 false false,zu 33 (.pick (Tm 29) (.const (.bool true)) (Tm 32)),zu 34 (zmv 33),zug 35 (zfa 45 5 1) 34 false false,zug 36 (zld 3 35) 34 false false,zug 37 (.binOp .gtr 3 (Tm 36) (Kn 1000000) 3) 34 false false,zu 38 (.pick (Tm 34) (.const (.bool true)) (Tm 37)),zu 39 (zmv 38),zug 40 (zfa 45 5 2) 39 false false,zug 41 (zld 3 40) 39 false false,zug 42 (.binOp .lss 3 (Tm 41) (Kn (-1000000)) 3) 39 false false,zu 43 (.pick (Tm 39) (.const (.bool true)) (Tm 42)),zu 44 (zmv 43),zug 45 (zfa 45 5 2) 44 false false,zug 46 (zld 3 45) 44 false false,zug 47 (.binOp .gtr 3 (Tm 46) (Kn 1000000) 3) 44 false false,zv 48 (.pick (Tm 44) (.const (.bool true)) (Tm 47))]
def zn86_21:=ZC.reg [⟨some 49,.build 45 ⟨[(0,.const (.int .i64 13))]⟩,none,false⟩,zv0 (.store 45 (Tm 5) (Tm 49))]
def zn86_20:=ZC.cond (Tm 48) zn86_21 ZC.skip
def zn86_18:=ZC.seq zn86_19 zn86_20
def zn86_22:=ZC.reg [zu 50 (zmv 3),zu 51 (zld 45 5),⟨some 52,.buildSlice 28 1 ⟨[(0,.tmp 51)]⟩,none,false⟩,zu 53 (zcb .append [Tm 50,Tm 52] [28,28]),zv 3 (zas 53)]
def zn86_17:=ZC.seq zn86_18 zn86_22
def zn86_15:=ZC.seq zn86_16 zn86_17
def zn86_14:=ZC.block 1 zn86_15
def zn86_23:=ZC.reg [zu 14 (zmv 4),zu 15 (.binOp .add 3 (Tm 14) (Kn 1) 3),zv 4 (zas 15)]
def zn86_13:=ZC.seq zn86_14 zn86_23
def zn86_9:=ZC.seq zn86_10 zn86_13
def zn86_8:=ZC.loop zn86_9
def zn86_7:=ZC.block 0 zn86_8
def zn86_5:=ZC.seq zn86_6 zn86_7
def zn86_25:=ZC.reg [zu 54 (zmv 3),zv 2 (zas 54)]
def zn86_24:=ZC.seq zn86_25 ZC.ret
def zn86_4:=ZC.seq zn86_5 zn86_24
def zn86_2:=ZC.seq zn86_3 zn86_4
def zn86_0:=ZC.seq zn86_1 zn86_2
def zc86: ZC:=zn86_0
theorem zc86_ok: zcode (xfOf Tryz.f17).code=some zc86:=by kernel_rfl
def zw86:=zU C zc86.eq_1<|zU C zn86_1.eq_1<|zU C zn86_3.eq_1<|zU C zn86_6.eq_1<|zU C zn86_11.eq_1<|zU C zn86_12.eq_1<|zU C zn86_10.eq_1<|zU C zn86_16.eq_1<|zU C zn86_19.eq_1<|zU C zn86_21.eq_1<|zU C zn86_20.eq_1<|zU C zn86_18.eq_1<|zU C zn86_22.eq_1<|zU C zn86_17.eq_1<|zU C zn86_15.eq_1<|zU C zn86_14.eq_1<|zU C zn86_23.eq_1<|zU C zn86_13.eq_1<|zU C zn86_9.eq_1<|zU C zn86_7.eq_1<|zU C zn86_5.eq_1<|zU C zn86_25.eq_1<|zU C zn86_24.eq_1<|zU C zn86_4.eq_1<|zU C zn86_2.eq_1<|(zunf C zn86_0.eq_1)
theorem rs86: (xfOf Tryz.f17).rs=[.tmp 2]:=by kernel_rfl
theorem xf86: XFok C 17 (xfOf Tryz.f17):=by refine⟨Tryz.f17,?_,?_,?_,?_,?_,?_,?_⟩<;>kernel_rfl
def zn31_1:=ZC.reg [zu 1 (.box 24 (Tm 0)),zv 2 (.alloc 31)]
def zn31_3:=ZC.draw 24 [(22,.alloc 31)] [zdd 0 5 (zfa 24 1 0) false [] [] false,zdd 1 6 (zld 3 5) false [] [] false,zdd 2 7 (zcf 6 [Tm 6,Kn 4] [3,3]) false [] [] true,zdd 3 8 (.binOp .add 3 (Kn 1) (Tm 7) 3) false [] [] false,zdd 4 9 (zfa 24 1 1) false [2] [] false,zdd 5 10 (zld 3 9) false [2] [] false,zdd 6 11 (zcf 6 [Tm 10,Kn 3] [3,3]) false [] [] true,zdd 7 12 (.binOp .add 3 (Kn 1) (Tm 11) 3) false [] [] false,zdd 8 13 (zfa 24 1 2) false [2,6] [] false,zdd 9 14 (zld 3 13) false [2,6] [] false,zdd 10 15 (zcf 6 [Tm 14,Kn 8] [3,3]) false [] [] true,zdd 11 16 (zfa 24 1 3) false [2,6,10] [] false,zdd 12 17 (zld 3 16) false [2,6,10] [] false,zdd 13 18 (zcf 6 [Tm 17,Kn 6] [3,3]) false [] [] true,zdd 14 19 (zfa 24 1 4) false [2,6,10,13] [] false,zdd 15 20 (zld 3 19) false [2,6,10,13] [] false,zdd 16 21 (zcf 6 [Tm 20,Kn 90] [3,3]) false [] [] true,zdd 17 22 (.binOp .add 3 (Kn 5) (Tm 21) 3) false [] [] false,zdd 18 23 (zfa 24 1 5) false [2,6,10,13,16] [] false,zdd 19 24 (zld 3 23) false [2,6,10,13,16] [] false,zdd 20 25 (zcf 6 [Tm 24,Kn 2147483648] [3,3]) false [] [] true,⟨21,some 26,.build 31 ⟨[(0,.tmp 8),(1,.tmp 12),(2,.tmp 15),(3,.tmp 18),(4,.tmp 22),(5,.tmp 25)]⟩,none,false,[],[],false⟩,zdd 22 3 (.alloc 31) true [2,6,10,13,16,20] [] false,zd0 23 (.store 31 (Tm 3) (Tm 26)) true [] [] false]
def zn31_6:=ZC.reg [zu 27 (zfa 24 1 0),zu 28 (zld 3 27),zu 29 (.binOp .rem 3 (Tm 28) (Kn 11) 3),zv 30 (.binOp .eql 3 (Tm 29) (Kn 10) 3)]
def zn31_8:=ZC.reg [zu 31 (zfa 24 1 0),zu 32 (zld 3 31),zu 33 (.binOp .quo 3 (Tm 32) (Kn 11) 3),zu 34 (zcf 6 [Tm 33,Kn 8] [3,3]),zu 35 (.binOp .add 3 (Kn 1) (Tm 34) 3),zu 36 (zfa 31 3 0),zv0 (.store 3 (Tm 36) (Tm 35))]
def zn31_7:=ZC.cond (Tm 30) zn31_8 ZC.skip
def zn31_5:=ZC.seq zn31_6 zn31_7
def zn31_10:=ZC.reg [zu 37 (zfa 24 1 6),zu 38 (zld 3 37),zu 39 (zcf 6 [Tm 38,Kn 9] [3,3]),zu 40 (.convert 3 27 (Tm 39)),zu 41 (.binOp .quo 27 (Tm 40) (.const (.float .f64 4616189618054758400)) 27),zu 42 (zfa 31 3 6),zv0 (.store 27 (Tm 42) (Tm 41))]
def zn31_12:=ZC.reg [zu 43 (zfa 24 1 6),zu 44 (zld 3 43),zu 45 (.binOp .quo 3 (Tm 44) (Kn 9) 3),zu 46 (zcf 6 [Tm 45,Kn 40] [3,3]),zu 47 (.convert 3 27 (Tm 46)),zu 48 (.binOp .quo 27 (Tm 47) (.const (.float .f64 4611686018427387904)) 27),zu 49 (.binOp .add 27 (.const (.float .f64 4607182418800017408)) (Tm 48) 27),zu 50 (zfa 31 3 7),zv0 (.store 27 (Tm 50) (Tm 49))]
def zn31_15:=ZC.reg [zu 51 (zfa 24 1 6),zu 52 (zld 3 51),zu 53 (.binOp .rem 3 (Tm 52) (Kn 3) 3),zv 54 (.binOp .gtr 3 (Tm 53) (Kn 0) 3)]
def zn31_18:=ZC.reg [zu 55 (zfa 31 3 6),zv0 (.store 27 (Tm 55) (.const (.float .f64 4613937818241073152)))]
def zn31_19:=ZC.reg [zu 56 (zfa 31 3 7),zv0 (.store 27 (Tm 56) (.const (.float .f64 4632233691727265792)))]
def zn31_17:=ZC.seq zn31_18 zn31_19
def zn31_16:=ZC.cond (Tm 54) zn31_17 ZC.skip
def zn31_14:=ZC.seq zn31_15 zn31_16
def zn31_21:=ZC.reg [zu 57 (zfa 24 1 7),zu 58 (zld 22 57),zu 59 (zcf 17 [Tm 58] [22]),zu 60 (zfa 31 3 8),zv0 (.store 28 (Tm 60) (Tm 59))]
def zn31_24:=ZC.reg [zv 4 (.assign (Kn 0))]
def zn31_29:=ZC.reg [zu 61 (zmv 4),zu 62 (zfa 31 3 0),zu 63 (zld 3 62),zv 64 (.binOp .lss 3 (Tm 61) (Tm 63) 3)]
def zn31_30:=ZC.cond (Tm 64) ZC.skip (ZC.exit 0)
def zn31_28:=ZC.seq zn31_29 zn31_30
def zn31_33:=ZC.draw 13 [] [zdd 0 67 (zfa 31 3 9) false [] [5] false,zdd 1 68 (zld 29 67) false [] [5] false,zdd 2 69 (zfa 24 1 5) false [] [] false,zdd 3 70 (zld 3 69) false [] [] false,zdd 4 71 (.binOp .quo 3 (Tm 70) (Kn 3) 3) false [] [] false,zdd 5 72 (zcf 6 [Tm 71,Kn 1000000] [3,3]) false [] [] false,zdd 6 73 (.binOp .mul 3 (Tm 72) (Kn 10) 3) false [] [] false,zdd 7 74 (zmv 4) true [] [] false,zdd 8 75 (.binOp .add 3 (Tm 73) (Tm 74) 3) true [] [] false,⟨9,some 76,.buildSlice 29 1 ⟨[(0,.tmp 75)]⟩,none,true,[],[],false⟩,zdd 10 77 (zcb .append [Tm 68,Tm 76] [29,29]) true [] [] false,zdd 11 78 (zfa 31 3 9) true [] [] false,zd0 12 (.store 29 (Tm 78) (Tm 77)) true [] [] false]
def zn31_32:=ZC.block 1 zn31_33
def zn31_34:=ZC.reg [zu 65 (zmv 4),zu 66 (.binOp .add 3 (Tm 65) (Kn 1) 3),zv 4 (zas 66)]
def zn31_31:=ZC.seq zn31_32 zn31_34
def K1c:=ZC.seq zn31_28 zn31_31
def zn31_26:=ZC.loop K1c
def zn31_25:=ZC.block 0 zn31_26
def zn31_23:=ZC.seq zn31_24 zn31_25
def zn31_36:=ZC.reg [zu 79 (zld 31 3),zv0 (.store 31 (Tm 2) (Tm 79))]
def zn31_35:=ZC.seq zn31_36 ZC.ret
def zn31_22:=ZC.seq zn31_23 zn31_35
def zn31_20:=ZC.seq zn31_21 zn31_22
def zn31_13:=ZC.seq zn31_14 zn31_20
def zn31_11:=ZC.seq zn31_12 zn31_13
def zn31_9:=ZC.seq zn31_10 zn31_11
def zn31_4:=ZC.seq zn31_5 zn31_9
def zn31_2:=ZC.seq zn31_3 zn31_4
def zn31_0:=ZC.seq zn31_1 zn31_2
def zc31: ZC:=zn31_0
theorem zc31_ok: zcode (xfOf Tryz.f4).code=some zc31:=by kernel_rfl
def zw31:=zU C zc31.eq_1<|zU C zn31_1.eq_1<|zU C zn31_3.eq_1<|zU C zn31_6.eq_1<|zU C zn31_8.eq_1<|zU C zn31_7.eq_1<|zU C zn31_5.eq_1<|zU C zn31_10.eq_1<|zU C zn31_12.eq_1<|zU C zn31_15.eq_1<|zU C zn31_18.eq_1<|zU C zn31_19.eq_1<|zU C zn31_17.eq_1<|zU C zn31_16.eq_1<|zU C zn31_14.eq_1<|zU C zn31_21.eq_1<|zU C zn31_24.eq_1<|zU C zn31_29.eq_1<|zU C zn31_30.eq_1<|zU C zn31_28.eq_1<|zU C zn31_33.eq_1<|zU C zn31_32.eq_1<|zU C zn31_34.eq_1<|zU C zn31_31.eq_1<|zU C K1c.eq_1<|zU C zn31_25.eq_1<|zU C zn31_23.eq_1<|zU C zn31_36.eq_1<|zU C zn31_35.eq_1<|zU C zn31_22.eq_1<|zU C zn31_20.eq_1<|zU C zn31_13.eq_1<|zU C zn31_11.eq_1<|zU C zn31_9.eq_1<|zU C zn31_4.eq_1<|zU C zn31_2.eq_1<|(zunf C zn31_0.eq_1)
theorem rs31: (xfOf Tryz.f4).rs=[.cell 2 31]:=by kernel_rfl
theorem xf31: XFok C 4 (xfOf Tryz.f4):=by refine⟨Tryz.f4,?_,?_,?_,?_,?_,?_,?_⟩<;>kernel_rfl
def zn65_1:=ZC.reg [zv 4 (.assign (.const (.slice none 0 0)))]
def zn65_3:=ZC.reg [zu 7 (zmv 0),zu 8 (.makeSlice 26 (Tm 7) (Tm 7)),zv 5 (zas 8)]
def zn65_6:=ZC.reg [zv 6 (.assign (Kn 0))]
def zn65_11:=ZC.reg [zu 9 (zmv 6),zu 10 (zmv 0),zu 11 (.binOp .lss 3 (Tm 9) (Tm 10) 3),zu 12 (zmv 11),zug 13 (zmv 6) 12 true false,zug 14 (zmv 1) 12 true false,zug 15 (zcb .len [Tm 14] [29]) 12 true false,zug 16 (.binOp .lss 3 (Tm 13) (Tm 15) 3) 12 true false,zv 17 (.pick (Tm 12) (Tm 16) (.const (.bool false)))]
def zn65_12:=ZC.cond (Tm 17) ZC.skip (ZC.exit 0)
def zn65_10:=ZC.seq zn65_11 zn65_12
def zn65_16:=ZC.reg [zu 20 (zmv 1),zu 21 (zmv 6),zu 22 (zia 29 20 21),zu 23 (zld 3 22),zu 24 (.binOp .rem 3 (Tm 23) (Kn 4) 3),zv 25 (.binOp .gtr 3 (Tm 24) (Kn 0) 3)]
def zn65_18:=ZC.draw 16 [] [zdd 0 26 (zmv 5) false [] [] false,zdd 1 27 (zmv 6) false [] [] false,zdd 2 28 (zmv 1) false [] [] false,zdd 3 29 (zmv 6) false [] [] false,zdd 4 30 (zia 29 28 29) false [] [] false,zdd 5 31 (zld 3 30) false [] [] false,zdd 6 32 (.binOp .quo 3 (Tm 31) (Kn 4) 3) false [] [] false,zdd 7 33 (zmv 1) false [] [] false,zdd 8 34 (zmv 6) true [] [] false,zdd 9 35 (zia 29 33 34) true [] [] false,zdd 10 36 (zld 3 35) true [] [] false,zdd 11 37 (.binOp .quo 3 (Tm 36) (Kn 7) 3) true [] [] false,zdd 12 38 (zcf 69 [Tm 32,Tm 37] [3,3]) true [] [] false,⟨13,some 39,.build 64 ⟨[(0,.const (.bool true)),(1,.tmp 38)]⟩,none,true,[],[],false⟩,zdd 14 40 (zia 26 26 27) true [] [] false,zd0 15 (.store 64 (Tm 40) (Tm 39)) true [] [] false]
def zn65_17:=ZC.cond (Tm 25) zn65_18 ZC.skip
def zn65_15:=ZC.seq zn65_16 zn65_17
def zn65_14:=ZC.block 1 zn65_15
def zn65_19:=ZC.reg [zu 18 (zmv 6),zu 19 (.binOp .add 3 (Tm 18) (Kn 1) 3),zv 6 (zas 19)]
def zn65_13:=ZC.seq zn65_14 zn65_19
def zn65_9:=ZC.seq zn65_10 zn65_13
def zn65_8:=ZC.loop zn65_9
def zn65_7:=ZC.block 0 zn65_8
def zn65_5:=ZC.seq zn65_6 zn65_7
def zn65_21:=ZC.reg [zu 41 (zmv 5),zv 4 (zas 41)]
def zn65_20:=ZC.seq zn65_21 ZC.ret
def zn65_4:=ZC.seq zn65_5 zn65_20
def zn65_2:=ZC.seq zn65_3 zn65_4
def zn65_0:=ZC.seq zn65_1 zn65_2
def zc65: ZC:=zn65_0
theorem zc65_ok: zcode (xfOf Tryz.f50).code=some zc65:=by kernel_rfl
def zw65:=zU C zc65.eq_1<|zU C zn65_1.eq_1<|zU C zn65_3.eq_1<|zU C zn65_6.eq_1<|zU C zn65_11.eq_1<|zU C zn65_12.eq_1<|zU C zn65_10.eq_1<|zU C zn65_16.eq_1<|zU C zn65_18.eq_1<|zU C zn65_17.eq_1<|zU C zn65_15.eq_1<|zU C zn65_14.eq_1<|zU C zn65_19.eq_1<|zU C zn65_13.eq_1<|zU C zn65_9.eq_1<|zU C zn65_7.eq_1<|zU C zn65_5.eq_1<|zU C zn65_21.eq_1<|zU C zn65_20.eq_1<|zU C zn65_4.eq_1<|zU C zn65_2.eq_1<|(zunf C zn65_0.eq_1)
theorem rs65: (xfOf Tryz.f50).rs=[.tmp 4]:=by kernel_rfl
theorem xf65: XFok C 50 (xfOf Tryz.f50):=by refine⟨Tryz.f50,?_,?_,?_,?_,?_,?_,?_⟩<;>kernel_rfl
def zn61_1:=ZC.reg [zv 4 (.assign (.const (.slice none 0 0)))]
def zn61_3:=ZC.reg [zv 5 (.assign (.const (.slice none 0 0)))]
def zn61_6:=ZC.reg [zv 6 (.assign (Kn 0))]
def zn61_11:=ZC.reg [zu 7 (zmv 6),zu 8 (zmv 1),zu 9 (zcb .len [Tm 8] [25]),zu 10 (.binOp .lss 3 (Tm 7) (Tm 9) 3),zu 11 (zmv 10),zug 12 (zmv 6) 11 true false,zug 13 (.binOp .lss 3 (Tm 12) (Kn 40) 3) 11 true false,zv 14 (.pick (Tm 11) (Tm 13) (.const (.bool false)))]
def zn61_12:=ZC.cond (Tm 14) ZC.skip (ZC.exit 0)
def zn61_10:=ZC.seq zn61_11 zn61_12
def zn61_15:=ZC.reg [zu 17 (zmv 5),zu 18 (zmv 0),zu 19 (zmv 1),zu 20 (zmv 6),zu 21 (zia 25 19 20),zu 22 (zld 29 21),zu 23 (zcf 50 [Tm 18,Tm 22] [3,29]),⟨some 24,.buildSlice 54 1 ⟨[(0,.tmp 23)]⟩,none,false⟩,zu 25 (zcb .append [Tm 17,Tm 24] [54,54]),zv 5 (zas 25)]
def zn61_14:=ZC.block 1 zn61_15
def zn61_16:=ZC.reg [zu 15 (zmv 6),zu 16 (.binOp .add 3 (Tm 15) (Kn 1) 3),zv 6 (zas 16)]
def zn61_13:=ZC.seq zn61_14 zn61_16
def zn61_9:=ZC.seq zn61_10 zn61_13
def zn61_8:=ZC.loop zn61_9
def zn61_7:=ZC.block 0 zn61_8
def zn61_5:=ZC.seq zn61_6 zn61_7
def zn61_18:=ZC.reg [zu 26 (zmv 5),zv 4 (zas 26)]
def zn61_17:=ZC.seq zn61_18 ZC.ret
def zn61_4:=ZC.seq zn61_5 zn61_17
def zn61_2:=ZC.seq zn61_3 zn61_4
def zn61_0:=ZC.seq zn61_1 zn61_2
def zc61: ZC:=zn61_0
theorem zc61_ok: zcode (xfOf Tryz.f19).code=some zc61:=by kernel_rfl
def zw61:=zU C zc61.eq_1<|zU C zn61_1.eq_1<|zU C zn61_3.eq_1<|zU C zn61_6.eq_1<|zU C zn61_11.eq_1<|zU C zn61_12.eq_1<|zU C zn61_10.eq_1<|zU C zn61_15.eq_1<|zU C zn61_14.eq_1<|zU C zn61_16.eq_1<|zU C zn61_13.eq_1<|zU C zn61_9.eq_1<|zU C zn61_7.eq_1<|zU C zn61_5.eq_1<|zU C zn61_18.eq_1<|zU C zn61_17.eq_1<|zU C zn61_4.eq_1<|zU C zn61_2.eq_1<|(zunf C zn61_0.eq_1)
theorem rs61: (xfOf Tryz.f19).rs=[.tmp 4]:=by kernel_rfl
theorem xf61: XFok C 19 (xfOf Tryz.f19):=by refine⟨Tryz.f19,?_,?_,?_,?_,?_,?_,?_⟩<;>kernel_rfl
def zn59_1:=ZC.reg [zv 0 (.assign (.const (.bool false)))]
def zn59_3:=ZC.reg [zu 3 (zcf 25 [Kn 1,.const (.slice none 0 0)] [3,28]),zu 1 (.alloc 31),zv0 (.store 31 (Tm 1) (Tm 3))]
def zn59_5:=ZC.draw 8 [(6,.alloc 40)] [zdd 0 4 (zld 31 1) false [] [2,3] false,zdd 1 5 (zld 31 1) false [] [] false,zdd 2 6 (zcf 13 [Tm 5] [31]) false [] [] true,zdd 3 7 (zcf 26 [Kn 0,Kn 64,Kn 0] [3,3,3]) false [] [] true,⟨4,some 8,.buildSlice 26 1 ⟨[(0,.tmp 7)]⟩,none,false,[],[],false⟩,zdd 5 9 (zcf 15 [Tm 4,Tm 6,Tm 8] [31,40,26]) false [] [] true,zdd 6 2 (.alloc 40) true [2,3,5] [] false,zd0 7 (.store 40 (Tm 2) (Tm 9)) true [] [] false]
def zn59_7:=ZC.reg [zu 10 (zld 31 1),zu 11 (zcf 9 [Tm 10] [31]),zu 12 (zmv 11),zug 13 (zfa 40 2 2) 12 true false,zug 14 (.indexAddr 37 (Tm 13) (Kn 0)) 12 true false,zug 15 (zfa 36 14 2) 12 true false,zug 16 (zld 3 15) 12 true false,zug 17 (.binOp .eql 3 (Tm 16) (Kn 2052) 3) 12 true false,zu 18 (.pick (Tm 12) (Tm 17) (.const (.bool false))),zu 19 (zmv 18),zug 20 (zfa 40 2 0) 19 true false,zug 21 (zld 3 20) 19 true false,zug 22 (.binOp .eql 3 (Tm 21) (Kn 1) 3) 19 true false,zu 23 (.pick (Tm 19) (Tm 22) (.const (.bool false))),zu 24 (zmv 23),zug 25 (zfa 40 2 2) 24 true false,zug 26 (.indexAddr 37 (Tm 25) (Kn 0)) 24 true false,zug 27 (zfa 36 26 0) 24 true false,zug 28 (zld 3 27) 24 true false,zug 29 (.binOp .eql 3 (Tm 28) (Kn 1) 3) 24 true false,zu 30 (.pick (Tm 24) (Tm 29) (.const (.bool false))),zv 0 (zas 30)]
def zn59_6:=ZC.seq zn59_7 ZC.ret
def zn59_4:=ZC.seq zn59_5 zn59_6
def zn59_2:=ZC.seq zn59_3 zn59_4
def zn59_0:=ZC.seq zn59_1 zn59_2
def zc59: ZC:=zn59_0
theorem zc59_ok: zcode (xfOf Tryz.f8).code=some zc59:=by kernel_rfl
def zw59:=zU C zc59.eq_1<|zU C zn59_1.eq_1<|zU C zn59_3.eq_1<|zU C zn59_5.eq_1<|zU C zn59_7.eq_1<|zU C zn59_6.eq_1<|zU C zn59_4.eq_1<|zU C zn59_2.eq_1<|(zunf C zn59_0.eq_1)
theorem rs59: (xfOf Tryz.f8).rs=[.tmp 0]:=by kernel_rfl
theorem xf59: XFok C 8 (xfOf Tryz.f8):=by refine⟨Tryz.f8,?_,?_,?_,?_,?_,?_,?_⟩<;>kernel_rfl
def zn63_1:=ZC.reg [zv 4 (.alloc 31)]
def zn63_3:=ZC.reg [zu 7 (zmv 0),zu 8 (zmv 1),⟨some 9,.build 31 ⟨[(0,.tmp 7),(1,.const (.int .i64 1)),(4,.const (.int .i64 50)),(6,.const (.float .f64 4607182418800017408)),(7,.const (.float .f64 4617315517961601024)),(8,.tmp 8)]⟩,none,false⟩,zu 5 (.alloc 31),zv0 (.store 31 (Tm 5) (Tm 9))]
def zn63_6:=ZC.reg [zv 6 (.assign (Kn 0))]
def zn63_11:=ZC.reg [zu 10 (zmv 6),zu 11 (zmv 0),zv 12 (.binOp .lss 3 (Tm 10) (Tm 11) 3)]
def zn63_12:=ZC.cond (Tm 12) ZC.skip (ZC.exit 0)
def zn63_10:=ZC.seq zn63_11 zn63_12
def zn63_15:=ZC.reg [zu 15 (zfa 31 5 9),zu 16 (zld 29 15),zu 17 (zmv 6),⟨some 18,.buildSlice 29 1 ⟨[(0,.tmp 17)]⟩,none,false⟩,zu 19 (zcb .append [Tm 16,Tm 18] [29,29]),zu 20 (zfa 31 5 9),zv0 (.store 29 (Tm 20) (Tm 19))]
def zn63_14:=ZC.block 1 zn63_15
def zn63_16:=ZC.reg [zu 13 (zmv 6),zu 14 (.binOp .add 3 (Tm 13) (Kn 1) 3),zv 6 (zas 14)]
def zn63_13:=ZC.seq zn63_14 zn63_16
def zn63_9:=ZC.seq zn63_10 zn63_13
def zn63_8:=ZC.loop zn63_9
def zn63_7:=ZC.block 0 zn63_8
def zn63_5:=ZC.seq zn63_6 zn63_7
def zn63_18:=ZC.reg [zu 21 (zld 31 5),zv0 (.store 31 (Tm 4) (Tm 21))]
def zn63_17:=ZC.seq zn63_18 ZC.ret
def zn63_4:=ZC.seq zn63_5 zn63_17
def zn63_2:=ZC.seq zn63_3 zn63_4
def zn63_0:=ZC.seq zn63_1 zn63_2
def zc63: ZC:=zn63_0
theorem zc63_ok: zcode (xfOf Tryz.f25).code=some zc63:=by kernel_rfl
def zw63:=zU C zc63.eq_1<|zU C zn63_1.eq_1<|zU C zn63_3.eq_1<|zU C zn63_6.eq_1<|zU C zn63_11.eq_1<|zU C zn63_12.eq_1<|zU C zn63_10.eq_1<|zU C zn63_15.eq_1<|zU C zn63_14.eq_1<|zU C zn63_16.eq_1<|zU C zn63_13.eq_1<|zU C zn63_9.eq_1<|zU C zn63_7.eq_1<|zU C zn63_5.eq_1<|zU C zn63_18.eq_1<|zU C zn63_17.eq_1<|zU C zn63_4.eq_1<|zU C zn63_2.eq_1<|(zunf C zn63_0.eq_1)
theorem rs63: (xfOf Tryz.f25).rs=[.cell 4 31]:=by kernel_rfl
theorem xf63: XFok C 25 (xfOf Tryz.f25):=by refine⟨Tryz.f25,?_,?_,?_,?_,?_,?_,?_⟩<;>kernel_rfl
def zn134_1:=ZC.reg [zv 6 (.alloc 64)]
def zn134_3:=ZC.reg [zu 7 (zmv 0),zu 8 (zmv 1),zu 9 (zmv 2),⟨some 10,.build 62 ⟨[(0,.tmp 7),(1,.tmp 8),(2,.tmp 9)]⟩,none,false⟩,⟨some 11,.build 64 ⟨[(0,.const (.bool true)),(1,.tmp 10)]⟩,none,false⟩,zv0 (.store 64 (Tm 6) (Tm 11))]
def zn134_2:=ZC.seq zn134_3 ZC.ret
def zn134_0:=ZC.seq zn134_1 zn134_2
def zc134: ZC:=zn134_0
theorem zc134_ok: zcode (xfOf Tryz.f26).code=some zc134:=by kernel_rfl
def zw134:=zU C zc134.eq_1<|zU C zn134_1.eq_1<|zU C zn134_3.eq_1<|zU C zn134_2.eq_1<|(zunf C zn134_0.eq_1)
theorem rs134: (xfOf Tryz.f26).rs=[.cell 6 64]:=by kernel_rfl
theorem xf134: XFok C 26 (xfOf Tryz.f26):=by refine⟨Tryz.f26,?_,?_,?_,?_,?_,?_,?_⟩<;>kernel_rfl
end Go.Proofs.YtpchcfkebljopaaGreat
end
