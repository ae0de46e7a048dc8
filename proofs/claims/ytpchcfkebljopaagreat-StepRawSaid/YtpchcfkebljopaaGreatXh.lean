import Derived.Test.YtpchcfkebljopaaGreatXg
set_option linter.unusedSimpArgs false
set_option linter.unusedVariables false
set_option linter.constructorNameAsVariable false
set_option linter.defProp false
set_option maxHeartbeats 8000000
section
namespace Go.Proofs.YtpchcfkebljopaaGreat
open Go.Cl Go Go.RowKit
set_option maxRecDepth 100000
def zn141_1:=ZC.reg [zv 2 (.assign (.const (.int .u64 0)))]
def zn141_3:=ZC.reg [zu 3 (zmv 0),zu 4 (.convert 3 33 (Tm 3)),zu 5 (.binOp .mul 33 (Tm 4) (.const (.int .u64 2)) 33),zu 6 (.binOp .add 33 (Tm 5) (.const (.int .u64 1)) 33),zv 2 (zas 6)]
def zn141_2:=ZC.seq zn141_3 ZC.ret
def zn141_0:=ZC.seq zn141_1 zn141_2
def zc141: ZC:=zn141_0
theorem zc141_ok: zcode (xfOf Tryz.f38).code=some zc141:=by kernel_rfl
def zw141:=zU C zc141.eq_1<|zU C zn141_1.eq_1<|zU C zn141_3.eq_1<|zU C zn141_2.eq_1<|(zunf C zn141_0.eq_1)
theorem rs141: (xfOf Tryz.f38).rs=[.tmp 2]:=by kernel_rfl
theorem xf141: XFok C 38 (xfOf Tryz.f38):=by refine⟨Tryz.f38,?_,?_,?_,?_,?_,?_,?_⟩<;>kernel_rfl
def zn162_1:=ZC.reg [zv 4 (.assign (.const (.bool false)))]
def zn162_3:=ZC.reg [zu 5 (zmv 0),zu 6 (.binOp .geq 27 (Tm 5) (.const (.float .f64 0)) 27),zu 7 (zmv 6),zug 8 (zmv 0) 7 true false,zug 9 (.binOp .leq 27 (Tm 8) (.const (.float .f64 9218868437227405311)) 27) 7 true false,zu 10 (.pick (Tm 7) (Tm 9) (.const (.bool false))),zu 11 (zmv 10),zug 12 (zmv 1) 11 true false,zug 13 (.binOp .geq 27 (Tm 12) (.const (.float .f64 4607182418800017408)) 27) 11 true false,zu 14 (.pick (Tm 11) (Tm 13) (.const (.bool false))),zu 15 (zmv 14),zug 16 (zmv 1) 15 true false,zug 17 (.binOp .leq 27 (Tm 16) (.const (.float .f64 4652007308841189376)) 27) 15 true false,zu 18 (.pick (Tm 15) (Tm 17) (.const (.bool false))),zv 4 (zas 18)]
def zn162_2:=ZC.seq zn162_3 ZC.ret
def zn162_0:=ZC.seq zn162_1 zn162_2
def zc162: ZC:=zn162_0
theorem zc162_ok: zcode (xfOf Tryz.f32).code=some zc162:=by kernel_rfl
def zw162:=zU C zc162.eq_1<|zU C zn162_1.eq_1<|zU C zn162_3.eq_1<|zU C zn162_2.eq_1<|(zunf C zn162_0.eq_1)
theorem rs162: (xfOf Tryz.f32).rs=[.tmp 4]:=by kernel_rfl
theorem xf162: XFok C 32 (xfOf Tryz.f32):=by refine⟨Tryz.f32,?_,?_,?_,?_,?_,?_,?_⟩<;>kernel_rfl
def zn180_1:=ZC.reg [zv 4 (.assign (.const (.bool false)))]
def zn180_3:=ZC.reg [zu 5 (zmv 0),zu 6 (zmv 1),zu 7 (.binOp .sub 3 (Tm 5) (Tm 6) 3),zu 8 (.binOp .leq 3 (Tm 7) (Kn 32) 3),zu 9 (zmv 8),zug 10 (zmv 1) 9 true false,zug 11 (zmv 0) 9 true false,zug 12 (.binOp .sub 3 (Tm 10) (Tm 11) 3) 9 true false,zug 13 (.binOp .leq 3 (Tm 12) (Kn 32) 3) 9 true false,zu 14 (.pick (Tm 9) (Tm 13) (.const (.bool false))),zv 4 (zas 14)]
def zn180_2:=ZC.seq zn180_3 ZC.ret
def zn180_0:=ZC.seq zn180_1 zn180_2
def zc180: ZC:=zn180_0
theorem zc180_ok: zcode (xfOf Tryz.f68).code=some zc180:=by kernel_rfl
def zw180:=zU C zc180.eq_1<|zU C zn180_1.eq_1<|zU C zn180_3.eq_1<|zU C zn180_2.eq_1<|(zunf C zn180_0.eq_1)
theorem rs180: (xfOf Tryz.f68).rs=[.tmp 4]:=by kernel_rfl
theorem xf180: XFok C 68 (xfOf Tryz.f68):=by refine⟨Tryz.f68,?_,?_,?_,?_,?_,?_,?_⟩<;>kernel_rfl
def zn142_1:=ZC.reg [zv 4 (.alloc 36)]
def zn142_3:=ZC.reg [zu 5 (zmv 1),zu 6 (zcf 59 [Tm 5,Kn 1,Kn 8] [3,3,3]),zv 1 (zas 6)]
def zn142_5:=ZC.reg [zu 7 (zmv 0),zu 8 (zmv 1),zu 9 (.binOp .sub 3 (Tm 8) (Kn 1) 3),zu 10 (zcf 59 [Tm 7,Kn 0,Tm 9] [3,3,3]),zv 0 (zas 10)]
def zn142_7:=ZC.reg [zu 11 (zmv 0),zu 12 (zmv 0),zu 13 (.binOp .mul 3 (Kn 2) (Tm 12) 3),zu 14 (.binOp .add 3 (Tm 13) (Kn 1) 3),zu 15 (.binOp .mul 3 (Tm 14) (Kn 4096) 3),zu 16 (zmv 1),zu 17 (.binOp .mul 3 (Kn 2) (Tm 16) 3),zu 18 (.binOp .quo 3 (Tm 15) (Tm 17) 3),⟨some 19,.build 36 ⟨[(0,.const (.int .i64 1)),(1,.tmp 11),(2,.tmp 18),(3,.const (.int .i64 2048))]⟩,none,false⟩,zv0 (.store 36 (Tm 4) (Tm 19))]
def zn142_6:=ZC.seq zn142_7 ZC.ret
def zn142_4:=ZC.seq zn142_5 zn142_6
def zn142_2:=ZC.seq zn142_3 zn142_4
def zn142_0:=ZC.seq zn142_1 zn142_2
def zc142: ZC:=zn142_0
theorem zc142_ok: zcode (xfOf Tryz.f39).code=some zc142:=by kernel_rfl
def zw142:=zU C zc142.eq_1<|zU C zn142_1.eq_1<|zU C zn142_3.eq_1<|zU C zn142_5.eq_1<|zU C zn142_7.eq_1<|zU C zn142_6.eq_1<|zU C zn142_4.eq_1<|zU C zn142_2.eq_1<|(zunf C zn142_0.eq_1)
theorem rs142: (xfOf Tryz.f39).rs=[.cell 4 36]:=by kernel_rfl
theorem xf142: XFok C 39 (xfOf Tryz.f39):=by refine⟨Tryz.f39,?_,?_,?_,?_,?_,?_,?_⟩<;>kernel_rfl
def zn143_1:=ZC.reg [zv 4 (.alloc 62)]
def zn143_4:=ZC.reg [zu 6 (zmv 1),zu 7 (zmv 0),zu 8 (zcb .len [Tm 7] [26]),zv 9 (.binOp .geq 3 (Tm 6) (Tm 8) 3)]
def zn143_7:=ZC.reg [⟨some 10,.build 62 ⟨[]⟩,none,false⟩,zv0 (.store 62 (Tm 4) (Tm 10))]
def zn143_6:=ZC.seq zn143_7 ZC.ret
def zn143_5:=ZC.cond (Tm 9) zn143_6 ZC.skip
def zn143_3:=ZC.seq zn143_4 zn143_5
def zn143_9:=ZC.reg [zu 11 (zmv 0),zu 12 (zmv 1),zu 13 (zia 26 11 12),zu 14 (zfa 64 13 1),zu 15 (zld 62 14),zu 5 (.alloc 62),zv0 (.store 62 (Tm 5) (Tm 15))]
def zn143_11:=ZC.draw 11 [] [zdd 0 16 (zfa 62 5 0) false [] [] false,zdd 1 17 (zld 3 16) false [] [] false,zdd 2 18 (zcf 59 [Tm 17,Kn 0,Kn 255] [3,3,3]) false [] [] true,zdd 3 19 (zfa 62 5 1) false [2] [] false,zdd 4 20 (zld 3 19) false [2] [] false,zdd 5 21 (zcf 59 [Tm 20,Kn (-64),Kn 64] [3,3,3]) false [] [] true,zdd 6 22 (zfa 62 5 2) true [2,5] [] false,zdd 7 23 (zld 3 22) true [2,5] [] false,zdd 8 24 (zcf 59 [Tm 23,Kn (-64),Kn 64] [3,3,3]) true [] [] false,⟨9,some 25,.build 62 ⟨[(0,.tmp 18),(1,.tmp 21),(2,.tmp 24)]⟩,none,true,[],[],false⟩,zd0 10 (.store 62 (Tm 4) (Tm 25)) true [] [] false]
def zn143_10:=ZC.seq zn143_11 ZC.ret
def zn143_8:=ZC.seq zn143_9 zn143_10
def zn143_2:=ZC.seq zn143_3 zn143_8
def zn143_0:=ZC.seq zn143_1 zn143_2
def zc143: ZC:=zn143_0
theorem zc143_ok: zcode (xfOf Tryz.f43).code=some zc143:=by kernel_rfl
def zw143:=zU C zc143.eq_1<|zU C zn143_1.eq_1<|zU C zn143_4.eq_1<|zU C zn143_7.eq_1<|zU C zn143_6.eq_1<|zU C zn143_5.eq_1<|zU C zn143_3.eq_1<|zU C zn143_9.eq_1<|zU C zn143_11.eq_1<|zU C zn143_10.eq_1<|zU C zn143_8.eq_1<|zU C zn143_2.eq_1<|(zunf C zn143_0.eq_1)
theorem rs143: (xfOf Tryz.f43).rs=[.cell 4 62]:=by kernel_rfl
theorem xf143: XFok C 43 (xfOf Tryz.f43):=by refine⟨Tryz.f43,?_,?_,?_,?_,?_,?_,?_⟩<;>kernel_rfl
def zn145_1:=ZC.reg [zu 1 (.box 40 (Tm 0)),zv 2 (.assign (Kn 0))]
def zn145_3:=ZC.reg [zv 3 (.assign (Kn 0))]
def zn145_6:=ZC.reg [zv 4 (.assign (Kn 0))]
def zn145_11:=ZC.reg [zu 5 (zmv 4),zv 6 (.binOp .lss 3 (Tm 5) (Kn 16) 3)]
def zn145_12:=ZC.cond (Tm 6) ZC.skip (ZC.exit 0)
def zn145_10:=ZC.seq zn145_11 zn145_12
def zn145_16:=ZC.reg [zu 9 (zmv 4),zu 10 (zfa 40 1 2),zu 11 (zia 37 10 9),zu 12 (zfa 36 11 0),zu 13 (zld 3 12),zv 14 (.binOp .eql 3 (Tm 13) (Kn 0) 3)]
def zn145_18:=ZC.reg [zu 15 (zmv 3),zu 16 (.binOp .add 3 (Tm 15) (Kn 1) 3),zv 3 (zas 16)]
def zn145_17:=ZC.cond (Tm 14) zn145_18 ZC.skip
def zn145_15:=ZC.seq zn145_16 zn145_17
def zn145_14:=ZC.block 1 zn145_15
def zn145_19:=ZC.reg [zu 7 (zmv 4),zu 8 (.binOp .add 3 (Tm 7) (Kn 1) 3),zv 4 (zas 8)]
def zn145_13:=ZC.seq zn145_14 zn145_19
def V1r:=ZC.seq zn145_10 zn145_13
def zn145_8:=ZC.loop V1r
def zn145_7:=ZC.block 0 zn145_8
def zn145_5:=ZC.seq zn145_6 zn145_7
def zn145_21:=ZC.reg [zu 17 (zmv 3),zv 2 (zas 17)]
def zn145_20:=ZC.seq zn145_21 ZC.ret
def zn145_4:=ZC.seq zn145_5 zn145_20
def zn145_2:=ZC.seq zn145_3 zn145_4
def zn145_0:=ZC.seq zn145_1 zn145_2
def zc145: ZC:=zn145_0
theorem zc145_ok: zcode (xfOf Tryz.f46).code=some zc145:=by kernel_rfl
def zw145:=zU C zc145.eq_1<|zU C zn145_1.eq_1<|zU C zn145_3.eq_1<|zU C zn145_6.eq_1<|zU C zn145_11.eq_1<|zU C zn145_12.eq_1<|zU C zn145_10.eq_1<|zU C zn145_16.eq_1<|zU C zn145_18.eq_1<|zU C zn145_17.eq_1<|zU C zn145_15.eq_1<|zU C zn145_14.eq_1<|zU C zn145_19.eq_1<|zU C zn145_13.eq_1<|zU C V1r.eq_1<|zU C zn145_7.eq_1<|zU C zn145_5.eq_1<|zU C zn145_21.eq_1<|zU C zn145_20.eq_1<|zU C zn145_4.eq_1<|zU C zn145_2.eq_1<|(zunf C zn145_0.eq_1)
theorem rs145: (xfOf Tryz.f46).rs=[.tmp 2]:=by kernel_rfl
theorem xf145: XFok C 46 (xfOf Tryz.f46):=by refine⟨Tryz.f46,?_,?_,?_,?_,?_,?_,?_⟩<;>kernel_rfl
def zn144_1:=ZC.reg [zu 3 (.box 36 (Tm 0)),zv 6 (.alloc 36)]
def zn144_4:=ZC.reg [zu 7 (zld 36 3),zu 8 (zcf 35 [Tm 7] [36]),zu 9 (.unOp .not 4 (Tm 8)),zu 10 (zmv 9),zug 11 (zfa 36 3 0) 10 false false,zug 12 (zld 3 11) 10 false false,zug 13 (.binOp .eql 3 (Tm 12) (Kn 0) 3) 10 false false,zv 14 (.pick (Tm 10) (.const (.bool true)) (Tm 13))]
def zn144_7:=ZC.reg [⟨some 15,.build 36 ⟨[]⟩,none,false⟩,zv0 (.store 36 (Tm 6) (Tm 15))]
def zn144_6:=ZC.seq zn144_7 ZC.ret
def zn144_5:=ZC.cond (Tm 14) zn144_6 ZC.skip
def zn144_3:=ZC.seq zn144_4 zn144_5
def zn144_9:=ZC.draw 8 [] [zdd 0 16 (zfa 36 3 4) false [] [3] false,zdd 1 17 (zld 3 16) false [] [3] false,zdd 2 18 (zmv 1) true [] [] false,zdd 3 19 (zcf 59 [Tm 18,Kn (-1000),Kn 1000] [3,3,3]) true [] [] false,zdd 4 20 (.binOp .add 3 (Tm 17) (Tm 19) 3) true [] [] false,zdd 5 21 (zcf 59 [Tm 20,Kn (-64),Kn 64] [3,3,3]) true [] [] false,zdd 6 22 (zfa 36 3 4) true [] [] false,zd0 7 (.store 3 (Tm 22) (Tm 21)) true [] [] false]
def zn144_11:=ZC.draw 8 [] [zdd 0 23 (zfa 36 3 5) false [] [3] false,zdd 1 24 (zld 3 23) false [] [3] false,zdd 2 25 (zmv 2) true [] [] false,zdd 3 26 (zcf 59 [Tm 25,Kn (-1000),Kn 1000] [3,3,3]) true [] [] false,zdd 4 27 (.binOp .add 3 (Tm 24) (Tm 26) 3) true [] [] false,zdd 5 28 (zcf 59 [Tm 27,Kn (-64),Kn 64] [3,3,3]) true [] [] false,zdd 6 29 (zfa 36 3 5) true [] [] false,zd0 7 (.store 3 (Tm 29) (Tm 28)) true [] [] false]
def zn144_13:=ZC.reg [zu 30 (zld 36 3),zv0 (.store 36 (Tm 6) (Tm 30))]
def zn144_12:=ZC.seq zn144_13 ZC.ret
def zn144_10:=ZC.seq zn144_11 zn144_12
def zn144_8:=ZC.seq zn144_9 zn144_10
def zn144_2:=ZC.seq zn144_3 zn144_8
def zn144_0:=ZC.seq zn144_1 zn144_2
def zc144: ZC:=zn144_0
theorem zc144_ok: zcode (xfOf Tryz.f45).code=some zc144:=by kernel_rfl
def zw144:=zU C zc144.eq_1<|zU C zn144_1.eq_1<|zU C zn144_4.eq_1<|zU C zn144_7.eq_1<|zU C zn144_6.eq_1<|zU C zn144_5.eq_1<|zU C zn144_3.eq_1<|zU C zn144_9.eq_1<|zU C zn144_11.eq_1<|zU C zn144_13.eq_1<|zU C zn144_12.eq_1<|zU C zn144_10.eq_1<|zU C zn144_8.eq_1<|zU C zn144_2.eq_1<|(zunf C zn144_0.eq_1)
theorem rs144: (xfOf Tryz.f45).rs=[.cell 6 36]:=by kernel_rfl
theorem xf144: XFok C 45 (xfOf Tryz.f45):=by refine⟨Tryz.f45,?_,?_,?_,?_,?_,?_,?_⟩<;>kernel_rfl
def zn146_1:=ZC.reg [zu 1 (.box 36 (Tm 0)),zu 2 (.alloc 36),zv 3 (.assign (.const (.bool false)))]
def zn146_4:=ZC.reg [zu 6 (zld 36 1),zu 7 (zcf 35 [Tm 6] [36]),zu 8 (.unOp .not 4 (Tm 7)),zu 9 (zmv 8),zug 10 (zfa 36 1 0) 9 false false,zug 11 (zld 3 10) 9 false false,zug 12 (.binOp .eql 3 (Tm 11) (Kn 0) 3) 9 false false,zv 13 (.pick (Tm 9) (.const (.bool true)) (Tm 12))]
def zn146_7:=ZC.reg [⟨some 14,.build 36 ⟨[]⟩,none,false⟩,zu0 (.store 36 (Tm 2) (Tm 14)),zv 3 (.assign (.const (.bool false)))]
def zn146_6:=ZC.seq zn146_7 ZC.ret
def zn146_5:=ZC.cond (Tm 13) zn146_6 ZC.skip
def zn146_3:=ZC.seq zn146_4 zn146_5
def zn146_9:=ZC.reg [zu 15 (zfa 36 1 6),zu 16 (zld 3 15),zu 17 (.binOp .add 3 (Tm 16) (Kn 1) 3),zu 18 (zcb .min [Kn 600,Tm 17] [3,3]),zu 19 (zfa 36 1 6),zv0 (.store 3 (Tm 19) (Tm 18))]
def zn146_11:=ZC.reg [zu 20 (zfa 36 1 2),zu 21 (zld 3 20),zu 22 (zfa 36 1 4),zu 23 (zld 3 22),zu 24 (.binOp .add 3 (Tm 21) (Tm 23) 3),zv 4 (zas 24)]
def zn146_13:=ZC.reg [zu 25 (zfa 36 1 3),zu 26 (zld 3 25),zu 27 (zfa 36 1 5),zu 28 (zld 3 27),zu 29 (.binOp .add 3 (Tm 26) (Tm 28) 3),zv 5 (zas 29)]
def zn146_15:=ZC.reg [zu 30 (zmv 4),zu 31 (zcf 59 [Tm 30,Kn 0,Kn 4095] [3,3,3]),zu 32 (zfa 36 1 2),zv0 (.store 3 (Tm 32) (Tm 31))]
def zn146_17:=ZC.reg [zu 33 (zmv 5),zu 34 (zcf 59 [Tm 33,Kn 0,Kn 4095] [3,3,3]),zu 35 (zfa 36 1 3),zv0 (.store 3 (Tm 35) (Tm 34))]
def zn146_20:=ZC.reg [zu 36 (zfa 36 1 0),zu 37 (zld 3 36),zv 38 (.binOp .eql 3 (Tm 37) (Kn 2) 3)]
def zn146_24:=ZC.reg [zu 39 (zfa 36 1 2),zu 40 (zld 3 39),zu 41 (zmv 4),zu 42 (.binOp .neq 3 (Tm 40) (Tm 41) 3),zu 43 (zmv 42),zug 44 (zfa 36 1 3) 43 false false,zug 45 (zld 3 44) 43 false false,zug 46 (zmv 5) 43 false false,zug 47 (.binOp .neq 3 (Tm 45) (Tm 46) 3) 43 false false,zu 48 (.pick (Tm 43) (.const (.bool true)) (Tm 47)),zu 49 (zmv 48),zug 50 (zfa 36 1 6) 49 false false,zug 51 (zld 3 50) 49 false false,zug 52 (.binOp .gtr 3 (Tm 51) (Kn 40) 3) 49 false false,zv 53 (.pick (Tm 49) (.const (.bool true)) (Tm 52))]
def zn146_27:=ZC.reg [⟨some 54,.build 36 ⟨[]⟩,none,false⟩,zu0 (.store 36 (Tm 2) (Tm 54)),zv 3 (.assign (.const (.bool false)))]
def zn146_26:=ZC.seq zn146_27 ZC.ret
def zn146_25:=ZC.cond (Tm 53) zn146_26 ZC.skip
def zn146_23:=ZC.seq zn146_24 zn146_25
def zn146_29:=ZC.reg [zu 55 (zld 36 1),zu0 (.store 36 (Tm 2) (Tm 55)),zv 3 (.assign (.const (.bool true)))]
def zn146_28:=ZC.seq zn146_29 ZC.ret
def zn146_22:=ZC.seq zn146_23 zn146_28
def zn146_21:=ZC.cond (Tm 38) zn146_22 ZC.skip
def zn146_19:=ZC.seq zn146_20 zn146_21
def zn146_32:=ZC.reg [zu 56 (zfa 36 1 2),zu 57 (zld 3 56),zu 58 (zmv 4),zv 59 (.binOp .neq 3 (Tm 57) (Tm 58) 3)]
def zn146_34:=ZC.reg [zu 60 (zfa 36 1 4),zu 61 (zld 3 60),zu 62 (.unOp .neg 3 (Tm 61)),zu 63 (zfa 36 1 4),zv0 (.store 3 (Tm 63) (Tm 62))]
def zn146_33:=ZC.cond (Tm 59) zn146_34 ZC.skip
def zn146_31:=ZC.seq zn146_32 zn146_33
def zn146_37:=ZC.reg [zu 64 (zfa 36 1 3),zu 65 (zld 3 64),zu 66 (zmv 5),zv 67 (.binOp .neq 3 (Tm 65) (Tm 66) 3)]
def zn146_39:=ZC.reg [zu 68 (zfa 36 1 5),zu 69 (zld 3 68),zu 70 (.unOp .neg 3 (Tm 69)),zu 71 (zfa 36 1 5),zv0 (.store 3 (Tm 71) (Tm 70))]
def zn146_38:=ZC.cond (Tm 67) zn146_39 ZC.skip
def zn146_36:=ZC.seq zn146_37 zn146_38
def zn146_41:=ZC.reg [zu 72 (zld 36 1),zu0 (.store 36 (Tm 2) (Tm 72)),zv 3 (.assign (.const (.bool true)))]
def zn146_40:=ZC.seq zn146_41 ZC.ret
def zn146_35:=ZC.seq zn146_36 zn146_40
def zn146_30:=ZC.seq zn146_31 zn146_35
def zn146_18:=ZC.seq zn146_19 zn146_30
def zn146_16:=ZC.seq zn146_17 zn146_18
def zn146_14:=ZC.seq zn146_15 zn146_16
def zn146_12:=ZC.seq zn146_13 zn146_14
def zn146_10:=ZC.seq zn146_11 zn146_12
def zn146_8:=ZC.seq zn146_9 zn146_10
def zn146_2:=ZC.seq zn146_3 zn146_8
def zn146_0:=ZC.seq zn146_1 zn146_2
def zc146: ZC:=zn146_0
theorem zc146_ok: zcode (xfOf Tryz.f47).code=some zc146:=by kernel_rfl
def zw146:=zU C zc146.eq_1<|zU C zn146_1.eq_1<|zU C zn146_4.eq_1<|zU C zn146_7.eq_1<|zU C zn146_6.eq_1<|zU C zn146_5.eq_1<|zU C zn146_3.eq_1<|zU C zn146_9.eq_1<|zU C zn146_11.eq_1<|zU C zn146_13.eq_1<|zU C zn146_15.eq_1<|zU C zn146_17.eq_1<|zU C zn146_20.eq_1<|zU C zn146_24.eq_1<|zU C zn146_27.eq_1<|zU C zn146_26.eq_1<|zU C zn146_25.eq_1<|zU C zn146_23.eq_1<|zU C zn146_29.eq_1<|zU C zn146_28.eq_1<|zU C zn146_22.eq_1<|zU C zn146_21.eq_1<|zU C zn146_19.eq_1<|zU C zn146_32.eq_1<|zU C zn146_34.eq_1<|zU C zn146_33.eq_1<|zU C zn146_31.eq_1<|zU C zn146_37.eq_1<|zU C zn146_39.eq_1<|zU C zn146_38.eq_1<|zU C zn146_36.eq_1<|zU C zn146_41.eq_1<|zU C zn146_40.eq_1<|zU C zn146_35.eq_1<|zU C zn146_30.eq_1<|zU C zn146_18.eq_1<|zU C zn146_16.eq_1<|zU C zn146_14.eq_1<|zU C zn146_12.eq_1<|zU C zn146_10.eq_1<|zU C zn146_8.eq_1<|zU C zn146_2.eq_1<|(zunf C zn146_0.eq_1)
theorem rs146: (xfOf Tryz.f47).rs=[.cell 2 36,.tmp 3]:=by kernel_rfl
theorem xf146: XFok C 47 (xfOf Tryz.f47):=by refine⟨Tryz.f47,?_,?_,?_,?_,?_,?_,?_⟩<;>kernel_rfl
def zn147_1:=ZC.reg [zu 2 (.box 36 (Tm 0)),zu 3 (.box 36 (Tm 1)),zv 4 (.assign (.const (.bool false)))]
def zn147_3:=ZC.reg [zu 6 (zfa 36 2 0),zu 7 (zld 3 6),zu 8 (.binOp .eql 3 (Tm 7) (Kn 1) 3),zu 9 (zmv 8),zug 10 (zfa 36 3 0) 9 true false,zug 11 (zld 3 10) 9 true false,zug 12 (.binOp .eql 3 (Tm 11) (Kn 2) 3) 9 true false,zu 13 (.pick (Tm 9) (Tm 12) (.const (.bool false))),zu 14 (zmv 13),zug 15 (zfa 36 2 0) 14 false false,zug 16 (zld 3 15) 14 false false,zug 17 (.binOp .eql 3 (Tm 16) (Kn 2) 3) 14 false false,zug 18 (zmv 17) 14 false false,zug 19 (zfa 36 3 0) 18 true false,zug 20 (zld 3 19) 18 true false,zug 21 (.binOp .eql 3 (Tm 20) (Kn 1) 3) 18 true false,zug 22 (.pick (Tm 18) (Tm 21) (.const (.bool false))) 14 false false,zu 23 (.pick (Tm 14) (.const (.bool true)) (Tm 22)),zv 5 (zas 23)]
def zn147_5:=ZC.reg [zu 24 (zld 36 2),zu 25 (zcf 35 [Tm 24] [36]),zu 26 (zmv 25),zug 27 (zld 36 3) 26 true false,zug 28 (zcf 35 [Tm 27] [36]) 26 true false,zu 29 (.pick (Tm 26) (Tm 28) (.const (.bool false))),zu 30 (zmv 29),zug 31 (zmv 5) 30 true false,zu 32 (.pick (Tm 30) (Tm 31) (.const (.bool false))),zu 33 (zmv 32),zug 34 (zfa 36 2 1) 33 true false,zug 35 (zld 3 34) 33 true false,zug 36 (zfa 36 3 1) 33 true false,zug 37 (zld 3 36) 33 true false,zug 38 (.binOp .neq 3 (Tm 35) (Tm 37) 3) 33 true false,zu 39 (.pick (Tm 33) (Tm 38) (.const (.bool false))),zu 40 (zmv 39),zug 41 (zfa 36 2 2) 40 true false,zug 42 (zld 3 41) 40 true false,zug 43 (zfa 36 3 2) 40 true false,zug 44 (zld 3 43) 40 true false,zug 45 (zcf 68 [Tm 42,Tm 44] [3,3]) 40 true false,zu 46 (.pick (Tm 40) (Tm 45) (.const (.bool false))),zu 47 (zmv 46),zug 48 (zfa 36 2 3) 47 true false,zug 49 (zld 3 48) 47 true false,zug 50 (zfa 36 3 3) 47 true false,zug 51 (zld 3 50) 47 true false,zug 52 (zcf 68 [Tm 49,Tm 51] [3,3]) 47 true false,zu 53 (.pick (Tm 47) (Tm 52) (.const (.bool false))),zv 4 (zas 53)]
def zn147_4:=ZC.seq zn147_5 ZC.ret
def zn147_2:=ZC.seq zn147_3 zn147_4
def zn147_0:=ZC.seq zn147_1 zn147_2
def zc147: ZC:=zn147_0
theorem zc147_ok: zcode (xfOf Tryz.f48).code=some zc147:=by kernel_rfl
def zw147:=zU C zc147.eq_1<|zU C zn147_1.eq_1<|zU C zn147_3.eq_1<|zU C zn147_5.eq_1<|zU C zn147_4.eq_1<|zU C zn147_2.eq_1<|(zunf C zn147_0.eq_1)
theorem rs147: (xfOf Tryz.f48).rs=[.tmp 4]:=by kernel_rfl
theorem xf147: XFok C 48 (xfOf Tryz.f48):=by refine⟨Tryz.f48,?_,?_,?_,?_,?_,?_,?_⟩<;>kernel_rfl
def zn97_1:=ZC.reg [zu 1 (.box 31 (Tm 0)),zv 2 (.assign (.const (.bool false)))]
def zn97_4:=ZC.reg [zv 3 (.assign (Kn 0))]
def zn97_9:=ZC.reg [zu 5 (zmv 3),zu 6 (zfa 31 1 9),zu 7 (zld 29 6),zu 8 (zcb .len [Tm 7] [29]),zv 9 (.binOp .lss 3 (Tm 5) (Tm 8) 3)]
def zn97_10:=ZC.cond (Tm 9) ZC.skip (ZC.exit 0)
def zn97_8:=ZC.seq zn97_9 zn97_10
def zn97_15:=ZC.reg [zv 4 (.assign (Kn 0))]
def zn97_20:=ZC.reg [zu 12 (zmv 4),zu 13 (zmv 3),zv 14 (.binOp .lss 3 (Tm 12) (Tm 13) 3)]
def zn97_21:=ZC.cond (Tm 14) ZC.skip (ZC.exit 2)
def zn97_19:=ZC.seq zn97_20 zn97_21
def zn97_25:=ZC.draw 11 [] [zdd 0 17 (zfa 31 1 9) false [] [] false,zdd 1 18 (zld 29 17) false [] [] false,zdd 2 19 (zmv 4) false [] [] false,zdd 3 20 (zia 29 18 19) false [] [] false,zdd 4 21 (zld 3 20) false [] [] false,zdd 5 22 (zfa 31 1 9) false [] [] false,zdd 6 23 (zld 29 22) false [] [] false,zdd 7 24 (zmv 3) true [] [] false,zdd 8 25 (zia 29 23 24) true [] [] false,zdd 9 26 (zld 3 25) true [] [] false,zdd 10 27 (.binOp .eql 3 (Tm 21) (Tm 26) 3) true [] [] false]
def zn97_28:=ZC.reg [zv 2 (.assign (.const (.bool false)))]
def zn97_27:=ZC.seq zn97_28 ZC.ret
def zn97_26:=ZC.cond (Tm 27) zn97_27 ZC.skip
def zn97_24:=ZC.seq zn97_25 zn97_26
def zn97_23:=ZC.block 3 zn97_24
def zn97_29:=ZC.reg [zu 15 (zmv 4),zu 16 (.binOp .add 3 (Tm 15) (Kn 1) 3),zv 4 (zas 16)]
def zn97_22:=ZC.seq zn97_23 zn97_29
def X1w:=ZC.seq zn97_19 zn97_22
def zn97_17:=ZC.loop X1w
def zn97_16:=ZC.block 2 zn97_17
def zn97_14:=ZC.seq zn97_15 zn97_16
def zn97_31:=ZC.reg [zu 28 (zfa 31 1 9),zu 29 (zld 29 28),zu 30 (zmv 3),zu 31 (zia 29 29 30),zu 32 (zld 3 31),zu 33 (zcf 31 [Tm 32,Kn 0,Kn 2147483646] [3,3,3]),zv 34 (.unOp .not 4 (Tm 33))]
def zn97_34:=ZC.reg [zv 2 (.assign (.const (.bool false)))]
def zn97_33:=ZC.seq zn97_34 ZC.ret
def zn97_32:=ZC.cond (Tm 34) zn97_33 ZC.skip
def zn97_30:=ZC.seq zn97_31 zn97_32
def zn97_13:=ZC.seq zn97_14 zn97_30
def zn97_12:=ZC.block 1 zn97_13
def zn97_35:=ZC.reg [zu 10 (zmv 3),zu 11 (.binOp .add 3 (Tm 10) (Kn 1) 3),zv 3 (zas 11)]
def zn97_11:=ZC.seq zn97_12 zn97_35
def zn97_7:=ZC.seq zn97_8 zn97_11
def zn97_6:=ZC.loop zn97_7
def zn97_5:=ZC.block 0 zn97_6
def zn97_3:=ZC.seq zn97_4 zn97_5
def zn97_37:=ZC.reg [zu 35 (zfa 31 1 0),zu 36 (zld 3 35),zu 37 (zcf 31 [Tm 36,Kn 1,Kn 8] [3,3,3]),zu 38 (zmv 37),zug 39 (zfa 31 1 9) 38 true false,zug 40 (zld 29 39) 38 true false,zug 41 (zcb .len [Tm 40] [29]) 38 true false,zug 42 (zfa 31 1 0) 38 true false,zug 43 (zld 3 42) 38 true false,zug 44 (.binOp .eql 3 (Tm 41) (Tm 43) 3) 38 true false,zu 45 (.pick (Tm 38) (Tm 44) (.const (.bool false))),zu 46 (zmv 45),zug 47 (zfa 31 1 1) 46 true false,zug 48 (zld 3 47) 46 true false,zug 49 (zcf 31 [Tm 48,Kn 1,Kn 8] [3,3,3]) 46 true false,zu 50 (.pick (Tm 46) (Tm 49) (.const (.bool false))),zu 51 (zmv 50),zug 52 (zfa 31 1 2) 51 true false,zug 53 (zld 3 52) 51 true false,zug 54 (zcf 31 [Tm 53,Kn 0,Kn 60] [3,3,3]) 51 true false,zu 55 (.pick (Tm 51) (Tm 54) (.const (.bool false))),zu 56 (zmv 55),zug 57 (zfa 31 1 3) 56 true false,zug 58 (zld 3 57) 56 true false,zug 59 (zcf 31 [Tm 58,Kn 0,Kn 100] [3,3,3]) 56 true false,zu 60 (.pick (Tm 56) (Tm 59) (.const (.bool false))),zu 61 (zmv 60),zug 62 (zfa 31 1 4) 61 true false,zug 63 (zld 3 62) 61 true false,zug 64 (zcf 31 [Tm 63,Kn 1,Kn 600] [3,3,3]) 61 true false,zu 65 (.pick (Tm 61) (Tm 64) (.const (.bool false))),zu 66 (zmv 65),zug 67 (zfa 31 1 5) 66 true false,zug 68 (zld 3 67) 66 true false,zug 69 (zcf 31 [Tm 68,Kn 0,Kn 2147483647] [3,3,3]) 66 true false,zu 70 (.pick (Tm 66) (Tm 69) (.const (.bool false))),zu 71 (zmv 70),zug 72 (zfa 31 1 6) 71 true false,zug 73 (zld 27 72) 71 true false,zug 74 (zfa 31 1 7) 71 true false,zug 75 (zld 27 74) 71 true false,zug 76 (zcf 32 [Tm 73,Tm 75] [27,27]) 71 true false,zu 77 (.pick (Tm 71) (Tm 76) (.const (.bool false))),zu 78 (zmv 77),zug 79 (zfa 31 1 8) 78 true false,zug 80 (zld 28 79) 78 true false,zug 81 (zcf 33 [Tm 80] [28]) 78 true false,zu 82 (.pick (Tm 78) (Tm 81) (.const (.bool false))),zv 2 (zas 82)]
def zn97_36:=ZC.seq zn97_37 ZC.ret
def zn97_2:=ZC.seq zn97_3 zn97_36
def zn97_0:=ZC.seq zn97_1 zn97_2
def zc97: ZC:=zn97_0
theorem zc97_ok: zcode (xfOf Tryz.f10).code=some zc97:=by kernel_rfl
def zw97:=zU C zc97.eq_1<|zU C zn97_1.eq_1<|zU C zn97_4.eq_1<|zU C zn97_9.eq_1<|zU C zn97_10.eq_1<|zU C zn97_8.eq_1<|zU C zn97_15.eq_1<|zU C zn97_20.eq_1<|zU C zn97_21.eq_1<|zU C zn97_19.eq_1<|zU C zn97_25.eq_1<|zU C zn97_28.eq_1<|zU C zn97_27.eq_1<|zU C zn97_26.eq_1<|zU C zn97_24.eq_1<|zU C zn97_23.eq_1<|zU C zn97_29.eq_1<|zU C zn97_22.eq_1<|zU C X1w.eq_1<|zU C zn97_16.eq_1<|zU C zn97_14.eq_1<|zU C zn97_31.eq_1<|zU C zn97_34.eq_1<|zU C zn97_33.eq_1<|zU C zn97_32.eq_1<|zU C zn97_30.eq_1<|zU C zn97_13.eq_1<|zU C zn97_12.eq_1<|zU C zn97_35.eq_1<|zU C zn97_11.eq_1<|zU C zn97_7.eq_1<|zU C zn97_5.eq_1<|zU C zn97_3.eq_1<|zU C zn97_37.eq_1<|zU C zn97_36.eq_1<|zU C zn97_2.eq_1<|(zunf C zn97_0.eq_1)
theorem rs97: (xfOf Tryz.f10).rs=[.tmp 2]:=by kernel_rfl
theorem xf97: XFok C 10 (xfOf Tryz.f10):=by refine⟨Tryz.f10,?_,?_,?_,?_,?_,?_,?_⟩<;>kernel_rfl
def zn66_1:=ZC.reg [zu 1 (.box 31 (Tm 0)),zv 2 (.alloc 40)]
def zn66_3:=ZC.reg [zv 3 (.alloc 40)]
def zn66_6:=ZC.reg [zu 5 (zld 31 1),zu 6 (zcf 10 [Tm 5] [31]),zv 7 (.unOp .not 4 (Tm 6))]
def zn66_9:=ZC.reg [zu 8 (zld 40 3),zv0 (.store 40 (Tm 2) (Tm 8))]
def zn66_8:=ZC.seq zn66_9 ZC.ret
def zn66_7:=ZC.cond (Tm 7) zn66_8 ZC.skip
def zn66_5:=ZC.seq zn66_6 zn66_7
def zn66_11:=ZC.reg [zu 9 (zfa 31 1 5),zu 10 (zld 3 9),zu 11 (zcf 38 [Tm 10] [3]),zu 12 (zfa 40 3 1),zv0 (.store 33 (Tm 12) (Tm 11))]
def zn66_14:=ZC.reg [zv 4 (.assign (Kn 0))]
def zn66_19:=ZC.reg [zu 13 (zmv 4),zu 14 (zfa 31 1 0),zu 15 (zld 3 14),zv 16 (.binOp .lss 3 (Tm 13) (Tm 15) 3)]
def zn66_20:=ZC.cond (Tm 16) ZC.skip (ZC.exit 0)
def zn66_18:=ZC.seq zn66_19 zn66_20
def zn66_23:=ZC.reg [zu 19 (zmv 4),zu 20 (zmv 4),zu 21 (zfa 31 1 0),zu 22 (zld 3 21),zu 23 (zcf 39 [Tm 20,Tm 22] [3,3]),zu 24 (zfa 40 3 2),zu 25 (zia 37 24 19),zv0 (.store 36 (Tm 25) (Tm 23))]
def zn66_22:=ZC.block 1 zn66_23
def zn66_24:=ZC.reg [zu 17 (zmv 4),zu 18 (.binOp .add 3 (Tm 17) (Kn 1) 3),zv 4 (zas 18)]
def zn66_21:=ZC.seq zn66_22 zn66_24
def Y1z:=ZC.seq zn66_18 zn66_21
def zn66_16:=ZC.loop Y1z
def zn66_15:=ZC.block 0 zn66_16
def zn66_13:=ZC.seq zn66_14 zn66_15
def zn66_26:=ZC.reg [zu 26 (zld 40 3),zv0 (.store 40 (Tm 2) (Tm 26))]
def zn66_25:=ZC.seq zn66_26 ZC.ret
def zn66_12:=ZC.seq zn66_13 zn66_25
def zn66_10:=ZC.seq zn66_11 zn66_12
def zn66_4:=ZC.seq zn66_5 zn66_10
def zn66_2:=ZC.seq zn66_3 zn66_4
def zn66_0:=ZC.seq zn66_1 zn66_2
def zc66: ZC:=zn66_0
theorem zc66_ok: zcode (xfOf Tryz.f14).code=some zc66:=by kernel_rfl
def zw66:=zU C zc66.eq_1<|zU C zn66_1.eq_1<|zU C zn66_3.eq_1<|zU C zn66_6.eq_1<|zU C zn66_9.eq_1<|zU C zn66_8.eq_1<|zU C zn66_7.eq_1<|zU C zn66_5.eq_1<|zU C zn66_11.eq_1<|zU C zn66_14.eq_1<|zU C zn66_19.eq_1<|zU C zn66_20.eq_1<|zU C zn66_18.eq_1<|zU C zn66_23.eq_1<|zU C zn66_22.eq_1<|zU C zn66_24.eq_1<|zU C zn66_21.eq_1<|zU C Y1z.eq_1<|zU C zn66_15.eq_1<|zU C zn66_13.eq_1<|zU C zn66_26.eq_1<|zU C zn66_25.eq_1<|zU C zn66_12.eq_1<|zU C zn66_10.eq_1<|zU C zn66_4.eq_1<|zU C zn66_2.eq_1<|(zunf C zn66_0.eq_1)
theorem rs66: (xfOf Tryz.f14).rs=[.cell 2 40]:=by kernel_rfl
theorem xf66: XFok C 14 (xfOf Tryz.f14):=by refine⟨Tryz.f14,?_,?_,?_,?_,?_,?_,?_⟩<;>kernel_rfl
def zn38_1:=ZC.reg [zu 2 (.box 31 (Tm 0)),zu 3 (.box 40 (Tm 1)),zv 4 (.assign (.const (.bool false)))]
def zn38_4:=ZC.reg [zu 8 (zld 31 2),zu 9 (zcf 10 [Tm 8] [31]),zu 10 (.unOp .not 4 (Tm 9)),zu 11 (zmv 10),zug 12 (zfa 40 3 0) 11 false false,zug 13 (zld 3 12) 11 false false,zug 14 (zcf 31 [Tm 13,Kn 0,Kn 600] [3,3,3]) 11 false false,zug 15 (.unOp .not 4 (Tm 14)) 11 false false,zv 16 (.pick (Tm 11) (.const (.bool true)) (Tm 15))]
def zn38_7:=ZC.reg [zv 4 (.assign (.const (.bool false)))]
def zn38_6:=ZC.seq zn38_7 ZC.ret
def zn38_5:=ZC.cond (Tm 16) zn38_6 ZC.skip
def zn38_3:=ZC.seq zn38_4 zn38_5
def zn38_10:=ZC.reg [zv 5 (.assign (Kn 0))]
def zn38_15:=ZC.reg [zu 17 (zmv 5),zv 18 (.binOp .lss 3 (Tm 17) (Kn 16) 3)]
def zn38_16:=ZC.cond (Tm 18) ZC.skip (ZC.exit 0)
def zn38_14:=ZC.seq zn38_15 zn38_16
def zn38_20:=ZC.reg [zu 21 (zmv 5),zu 22 (zfa 40 3 2),zu 23 (zia 37 22 21),zu 24 (zld 36 23),zu 6 (.alloc 36),zv0 (.store 36 (Tm 6) (Tm 24))]
def zn38_22:=ZC.reg [zu 25 (zld 36 6),zu 26 (zcf 35 [Tm 25] [36]),zu 27 (.unOp .not 4 (Tm 26)),zu 28 (zmv 27),zug 29 (zfa 36 6 0) 28 false false,zug 30 (zld 3 29) 28 false false,zug 31 (.binOp .neq 3 (Tm 30) (Kn 0) 3) 28 false false,zug 32 (zmv 31) 28 false false,zug 33 (zfa 36 6 1) 32 true false,zug 34 (zld 3 33) 32 true false,zug 35 (zfa 31 2 0) 32 true false,zug 36 (zld 3 35) 32 true false,zug 37 (.binOp .geq 3 (Tm 34) (Tm 36) 3) 32 true false,zug 38 (.pick (Tm 32) (Tm 37) (.const (.bool false))) 28 false false,zu 39 (.pick (Tm 28) (.const (.bool true)) (Tm 38)),zu 40 (zmv 39),zug 41 (zfa 36 6 0) 40 false false,zug 42 (zld 3 41) 40 false false,zug 43 (.binOp .eql 3 (Tm 42) (Kn 1) 3) 40 false false,zug 44 (zmv 5) 40 false false,zug 45 (zfa 31 2 0) 40 false false,zug 46 (zld 3 45) 40 false false,zug 47 (.binOp .lss 3 (Tm 44) (Tm 46) 3) 40 false false,zug 48 (.binOp .neq 4 (Tm 43) (Tm 47) 4) 40 false false,zu 49 (.pick (Tm 40) (.const (.bool true)) (Tm 48)),zu 50 (zmv 49),zug 51 (zmv 5) 50 false false,zug 52 (zfa 31 2 0) 50 false false,zug 53 (zld 3 52) 50 false false,zug 54 (.binOp .lss 3 (Tm 51) (Tm 53) 3) 50 false false,zug 55 (zmv 54) 50 false false,zug 56 (zfa 36 6 1) 55 true false,zug 57 (zld 3 56) 55 true false,zug 58 (zmv 5) 55 true false,zug 59 (.binOp .neq 3 (Tm 57) (Tm 58) 3) 55 true false,zug 60 (.pick (Tm 55) (Tm 59) (.const (.bool false))) 50 false false,zv 61 (.pick (Tm 50) (.const (.bool true)) (Tm 60))]
def zn38_25:=ZC.reg [zv 4 (.assign (.const (.bool false)))]
def zn38_24:=ZC.seq zn38_25 ZC.ret
def zn38_23:=ZC.cond (Tm 61) zn38_24 ZC.skip
def zn38_21:=ZC.seq zn38_22 zn38_23
def zn38_19:=ZC.seq zn38_20 zn38_21
def zn38_18:=ZC.block 1 zn38_19
def zn38_26:=ZC.reg [zu 19 (zmv 5),zu 20 (.binOp .add 3 (Tm 19) (Kn 1) 3),zv 5 (zas 20)]
def zn38_17:=ZC.seq zn38_18 zn38_26
def X1s:=ZC.seq zn38_14 zn38_17
def zn38_12:=ZC.loop X1s
def zn38_11:=ZC.block 0 zn38_12
def zn38_9:=ZC.seq zn38_10 zn38_11
def zn38_29:=ZC.reg [zv 7 (.assign (Kn 0))]
def zn38_34:=ZC.reg [zu 62 (zmv 7),zv 63 (.binOp .lss 3 (Tm 62) (Kn 8) 3)]
def zn38_35:=ZC.cond (Tm 63) ZC.skip (ZC.exit 2)
def zn38_33:=ZC.seq zn38_34 zn38_35
def zn38_39:=ZC.reg [zu 66 (zmv 7),zu 67 (zfa 40 3 3),zu 68 (zia 38 67 66),zu 69 (zld 3 68),zu 70 (zcf 31 [Tm 69,Kn 0,Kn 2147483647] [3,3,3]),zu 71 (.unOp .not 4 (Tm 70)),zu 72 (zmv 71),zug 73 (zmv 7) 72 false false,zug 74 (zfa 31 2 0) 72 false false,zug 75 (zld 3 74) 72 false false,zug 76 (.binOp .geq 3 (Tm 73) (Tm 75) 3) 72 false false,zug 77 (zmv 76) 72 false false,zug 78 (zmv 7) 77 true false,zug 79 (zfa 40 3 3) 77 true false,zug 80 (zia 38 79 78) 77 true false,zug 81 (zld 3 80) 77 true false,zug 82 (.binOp .neq 3 (Tm 81) (Kn 0) 3) 77 true false,zug 83 (.pick (Tm 77) (Tm 82) (.const (.bool false))) 72 false false,zv 84 (.pick (Tm 72) (.const (.bool true)) (Tm 83))]
def zn38_42:=ZC.reg [zv 4 (.assign (.const (.bool false)))]
def zn38_41:=ZC.seq zn38_42 ZC.ret
def zn38_40:=ZC.cond (Tm 84) zn38_41 ZC.skip
def zn38_38:=ZC.seq zn38_39 zn38_40
def zn38_37:=ZC.block 3 zn38_38
def zn38_43:=ZC.reg [zu 64 (zmv 7),zu 65 (.binOp .add 3 (Tm 64) (Kn 1) 3),zv 7 (zas 65)]
def zn38_36:=ZC.seq zn38_37 zn38_43
def X1r:=ZC.seq zn38_33 zn38_36
def zn38_31:=ZC.loop X1r
def zn38_30:=ZC.block 2 zn38_31
def zn38_28:=ZC.seq zn38_29 zn38_30
def zn38_45:=ZC.reg [zv 4 (.assign (.const (.bool true)))]
def zn38_44:=ZC.seq zn38_45 ZC.ret
def zn38_27:=ZC.seq zn38_28 zn38_44
def zn38_8:=ZC.seq zn38_9 zn38_27
def zn38_2:=ZC.seq zn38_3 zn38_8
def zn38_0:=ZC.seq zn38_1 zn38_2
def zc38: ZC:=zn38_0
theorem zc38_ok: zcode (xfOf Tryz.f12).code=some zc38:=by kernel_rfl
def zw38:=zU C zc38.eq_1<|zU C zn38_1.eq_1<|zU C zn38_4.eq_1<|zU C zn38_7.eq_1<|zU C zn38_6.eq_1<|zU C zn38_5.eq_1<|zU C zn38_3.eq_1<|zU C zn38_10.eq_1<|zU C zn38_15.eq_1<|zU C zn38_16.eq_1<|zU C zn38_14.eq_1<|zU C zn38_20.eq_1<|zU C zn38_22.eq_1<|zU C zn38_25.eq_1<|zU C zn38_24.eq_1<|zU C zn38_23.eq_1<|zU C zn38_21.eq_1<|zU C zn38_19.eq_1<|zU C zn38_18.eq_1<|zU C zn38_26.eq_1<|zU C zn38_17.eq_1<|zU C X1s.eq_1<|zU C zn38_11.eq_1<|zU C zn38_9.eq_1<|zU C zn38_29.eq_1<|zU C zn38_34.eq_1<|zU C zn38_35.eq_1<|zU C zn38_33.eq_1<|zU C zn38_39.eq_1<|zU C zn38_42.eq_1<|zU C zn38_41.eq_1<|zU C zn38_40.eq_1<|zU C zn38_38.eq_1<|zU C zn38_37.eq_1<|zU C zn38_43.eq_1<|zU C zn38_36.eq_1<|zU C X1r.eq_1<|zU C zn38_30.eq_1<|zU C zn38_28.eq_1<|zU C zn38_45.eq_1<|zU C zn38_44.eq_1<|zU C zn38_27.eq_1<|zU C zn38_8.eq_1<|zU C zn38_2.eq_1<|(zunf C zn38_0.eq_1)
theorem rs38: (xfOf Tryz.f12).rs=[.tmp 4]:=by kernel_rfl
theorem xf38: XFok C 12 (xfOf Tryz.f12):=by refine⟨Tryz.f12,?_,?_,?_,?_,?_,?_,?_⟩<;>kernel_rfl
end Go.Proofs.YtpchcfkebljopaaGreat
end
section
namespace Go.Proofs.YtpchcfkebljopaaGreat
open Go.Cl Go Go.RowKit
set_option maxRecDepth 100000
set_option linter.constructorNameAsVariable false
def R75: Rel:=fun args p r=>∃(b:Q0a),args=[b.cv]/\r=.ret (Bo (Body.right b)) p
theorem t75{T:XCall}(h:Has T 35 R75)(b:Q0a){p:Hp}:T 35 [b.cv] p=.ret (Bo (Body.right b)) p:=h _ _ _ ⟨b,rfl,rfl⟩
theorem zq75{A B:Prop}(k:B)(h:A=B:=by have zy:=zA @zw75<|zA @rs75<|zA @tt3<|zA @tt32<|zA @tt34<|zA ti3.eq_1<|zA ti32.eq_1<|zA ti34.eq_1<|zA @t_85<|zA @Q0e<|@zsl32;exact zQ): A:=h▸k
theorem zno75{P:Prop}(h:P:=by intro jj;simp[CV.has,CV.hasL,fault,Z0b.nohas,Q0a.nohas]): P:=h
theorem c75: Con C 35 R75:=by
 refine K0e C ?_ ?_ ?_
 ·rintro args p r r' ⟨b,h,e⟩ ⟨b',h',e'⟩
  subst e;subst e';simp_all[Q0a.inj_iff]
 ·rintro args p r ⟨b,h,rfl⟩;exact zr1
 ·rintro args p r ⟨b,rfl,rfl⟩
  refine zW C false [(31,R85)] ⟨c85,zT⟩ rfl xf75 zc75_ok fun call zh hF=>?_
  have t_85:=@t85 _ zh.1
  clear zh
  have hm:=b.hMem
  (have zx:=zT;refine zq75 ?_;try exact zT)
  repeat'(apply zK.s<;>intro hc<;>(try simp only[zhd]at hc)<;>(try have hw:=X0a hc)<;>(refine zq75 ?_;try exact zT))
  all_goals(try clear zx)
  ·refine K0d hF zle (Y0c ?_ (Z0c zno75))
   simp only[Body.right,hc,if_true]
   rfl
  refine⟨5,?_⟩
  simp only[Wn_succ]
  (have zx:=zT;refine zq75 ?_;try exact zT)
  repeat'(apply zK.s<;>intro hc<;>(try simp only[zhd]at hc)<;>(try have hw:=X0a hc)<;>(refine zq75 ?_;try exact zT))
  all_goals(try clear zx)
  all_goals(refine K0d hF zle (Y0c ?_ (Z0c zno75)))
  all_goals simp[Body.right,all_nth4 hm, *]
def R152: Rel:=fun args p r=>∃(c:Int),args=[I c]/\r=.ret (.tup [Bo (namesA c),Bo (namesB c)]) p
theorem t152{T:XCall}(h:Has T 79 R152)(c:Int){p:Hp}:T 79 [I c] p=.ret (.tup [Bo (namesA c),Bo (namesB c)]) p:=h _ _ _ ⟨c,rfl,rfl⟩
theorem zq152{A B:Prop}(k:B)(h:A=B:=by have zy:=zA @zw152<|zA @rs152<|zA @tt3<|ti3.eq_1;exact zQ): A:=h▸k
theorem zno152{P:Prop}(h:P:=by intro jj;simp[CV.has,CV.hasL,fault,Z0b.nohas]): P:=h
theorem c152: Con C 79 R152:=by
 refine K0e C ?_ ?_ ?_
 ·rintro args p r r' ⟨c,h,e⟩ ⟨c',h',e'⟩
  subst e;subst e';simp_all
 ·rintro args p r ⟨c,h,rfl⟩;exact zr1
 ·rintro args p r ⟨c,rfl,rfl⟩
  refine zW C false [] zT rfl xf152 zc152_ok fun call zh hF=>?_
  clear zh
  (have zx:=zT;refine zq152 ?_;try exact zT)
  repeat'(apply zK.s<;>intro hc<;>(try simp only[zhd]at hc)<;>(try have hw:=X0a hc)<;>(refine zq152 ?_;try exact zT))
  all_goals(try clear zx)
  all_goals(refine K0d hF zle (Y0c ?_ (Z0c zno152)))
  all_goals simp[namesA,namesB, *]
def R153: Rel:=fun args p r=>∃(n:Int),args=[I n]/\r=.ret (Bo (within n 0 3)) p
theorem t153{T:XCall}(h:Has T 80 R153)(n:Int){p:Hp}:T 80 [I n] p=.ret (Bo (within n 0 3)) p:=h _ _ _ ⟨n,rfl,rfl⟩
theorem zq153{A B:Prop}(k:B)(h:A=B:=by have zy:=zA @zw153<|zA @rs153<|@t_85;exact zQ): A:=h▸k
theorem zno153{P:Prop}(h:P:=by intro jj;simp[CV.has,CV.hasL,fault,Z0b.nohas]): P:=h
theorem c153: Con C 80 R153:=by
 refine K0e C ?_ ?_ ?_
 ·rintro args p r r' ⟨n,h,e⟩ ⟨n',h',e'⟩
  subst e;subst e';simp_all
 ·rintro args p r ⟨n,h,rfl⟩;exact zr1
 ·rintro args p r ⟨n,rfl,rfl⟩
  refine zW C false [(31,R85)] ⟨c85,zT⟩ rfl xf153 zc153_ok fun call zh hF=>?_
  have t_85:=@t85 _ zh.1
  clear zh
  (have zx:=zT;refine zq153 ?_;try exact zT)
  repeat'(apply zK.s<;>intro hc<;>(try simp only[zhd]at hc)<;>(try have hw:=X0a hc)<;>(refine zq153 ?_;try exact zT))
  all_goals(try clear zx)
  exact K0d hF zle (Y0c rfl (Z0c zno153))
def R154: Rel:=fun args p r=>∃(d:Int),args=[U d]/\r=.ret (.tup [U (diceNext d),I (diceNum (diceNext d))]) p
theorem t154{T:XCall}(h:Has T 81 R154)(d:Int){p:Hp}:T 81 [U d] p=.ret (.tup [U (diceNext d),I (diceNum (diceNext d))]) p:=h _ _ _ ⟨d,rfl,rfl⟩
theorem zq154{A B:Prop}(k:B)(h:A=B:=by have zy:=zA @zw154<|zA @rs154<|zA @tt3<|zA @tt25<|zA @tt178<|zA ti3.eq_1<|zA ti25.eq_1<|ti178.eq_1;exact zQ): A:=h▸k
theorem zno154{P:Prop}(h:P:=by intro jj;simp[CV.has,CV.hasL,fault,Z0b.nohas]): P:=h
theorem c154: Con C 81 R154:=by
 refine K0e C ?_ ?_ ?_
 ·rintro args p r r' ⟨d,h,e⟩ ⟨d',h',e'⟩
  subst e;subst e';simp_all
 ·rintro args p r ⟨d,h,rfl⟩;exact zr1
 ·rintro args p r ⟨d,rfl,rfl⟩
  refine zW C false [] zT rfl xf154 zc154_ok fun call zh hF=>?_
  clear zh
  (have zx:=zT;refine zq154 ?_;try exact zT)
  repeat'(apply zK.s<;>intro hc<;>(try simp only[zhd]at hc)<;>(try have hw:=X0a hc)<;>(refine zq154 ?_;try exact zT))
  all_goals(try clear zx)
  exact K0d hF zle (Y0c rfl (Z0c zno154))
def R78: Rel:=fun args p r=>∃(d n:Int),args=[U d,I n]/\r=.ret (.tup [U (diceRoll d n).1,I (diceRoll d n).2]) p
theorem t78{T:XCall}(h:Has T 65 R78)(d n:Int){p:Hp}:T 65 [U d,I n] p=.ret (.tup [U (diceRoll d n).1,I (diceRoll d n).2]) p:=h _ _ _ ⟨d,n,rfl,rfl⟩
theorem zq78{A B:Prop}(k:B)(h:A=B:=by have zy:=zA @zw78<|zA @rs78<|zA @tt3<|zA ti3.eq_1<|@t_154;exact zQ): A:=h▸k
theorem zno78{P:Prop}(h:P:=by intro jj;simp[CV.has,CV.hasL,fault,Z0b.nohas]): P:=h
theorem c78: Con C 65 R78:=by
 refine K0e C ?_ ?_ ?_
 ·rintro args p r r' ⟨d,n,h,e⟩ ⟨d',n',h',e'⟩
  subst e;subst e';simp_all
 ·rintro args p r ⟨d,n,h,rfl⟩;exact zr1
 ·rintro args p r ⟨d,n,rfl,rfl⟩
  refine zW C false [(81,R154)] ⟨c154,zT⟩ rfl xf78 zc78_ok fun call zh hF=>?_
  have t_154:=@t154 _ zh.1
  clear zh
  (have zx:=zT;refine zq78 ?_;try exact zT)
  repeat'(apply zK.s<;>intro hc<;>(try simp only[zhd]at hc)<;>(try have hw:=X0a hc)<;>(refine zq78 ?_;try exact zT))
  all_goals(try clear zx)
  all_goals refine K0d hF zle (Y0c ?_ (Z0c zno78))
  all_goals simp[diceRoll,hc]
def R79: Rel:=fun args p r=>∃(o:K0c) (e:V0c),args=[o.cv,e.cv]/\(0<=o.B/\o.B<4)/\r=.ret (I (nth e.Body.Mem o.B.toNat)) p
theorem t79{T:XCall}(h:Has T 66 R79)(o:K0c)(e:V0c){p:Hp}(h1:0<=o.B/\o.B<4): T 66 [o.cv,e.cv] p=.ret (I (nth e.Body.Mem o.B.toNat)) p:=h _ _ _ ⟨o,e,rfl,h1,rfl⟩
theorem zq79{A B:Prop}(k:B)(h:A=B:=by have zy:=zA @zw79<|zA @rs79<|zA @tt3<|zA @tt29<|zA @tt32<|zA @tt34<|zA @tt51<|zA ti3.eq_1<|zA ti29.eq_1<|zA ti32.eq_1<|zA ti34.eq_1<|zA ti51.eq_1<|zA @K0i<|zA @Z0o<|zA @Q0e<|zA @zsl32<|@h1;exact zQ): A:=h▸k
theorem zno79{P:Prop}(h:P:=by intro jj;simp[CV.has,CV.hasL,fault,Z0b.nohas,K0c.nohas,Q0a.nohas]): P:=h
theorem c79: Con C 66 R79:=by
 refine K0e C ?_ ?_ ?_
 ·rintro args p r r' ⟨o,e,h,h1,e⟩ ⟨o',e',h',h1',e'⟩
  subst e;subst e';simp_all[K0c.inj_iff,V0c.inj_iff,Q0a.inj_iff]
 ·rintro args p r ⟨o,e,h,h1,rfl⟩;exact zr1
 ·rintro args p r ⟨o,e,rfl,h1,rfl⟩
  refine zW C false [] zT rfl xf79 zc79_ok fun call zh hF=>?_
  clear zh
  have hm:=e.Body.hMem
  (have zx:=zT;refine zq79 ?_;try exact zT)
  repeat'(apply zK.s<;>intro hc<;>(try simp only[zhd]at hc)<;>(try have hw:=X0a hc)<;>(refine zq79 ?_;try exact zT))
  all_goals(try clear zx)
  exact K0d hF zle (Y0c rfl (Z0c zno79))
theorem qbuild_ar(C:Ctx){t n w:Nat}{e:TypeId}{shs:List Shape}{b:Nat}{z:List CV}{parts:List (Nat×CV)}{v:CV}(ht:C.tt t=some ⟨.ar n e w,.n shs,b,.agg z⟩)(hp:partsOk shs parts=true)(hv:.agg (setAll z parts)=v): qbuild C t parts=some v:=by
 simp only[qbuild,ht,hp,if_true,hv]
theorem bld64(a0 a1 a2 a3 a4 a5 a6 a7:Int): qbuild C 38 [(0,I a0),(1,I a1),(2,I a2),(3,I a3),(4,I a4),(5,I a5),(6,I a6),(7,I a7)]=some (.agg ([a0,a1,a2,a3,a4,a5,a6,a7].map I)):=qbuild_ar C tt64 (by simp[partsOk,CV.shape,sh3,List.replicate]) rfl
theorem idx64(a0 a1 a2 a3 a4 a5 a6 a7 n:Int)(hn:0<=n/\n<8): qindex C 38 (.agg [I a0,I a1,I a2,I a3,I a4,I a5,I a6,I a7]) (I n)=some (I (nth [a0,a1,a2,a3,a4,a5,a6,a7] n.toNat)):=zsl64 [a0,a1,a2,a3,a4,a5,a6,a7] n rfl hn
def R77: Rel:=fun args p r=>∃(e:V0c) (n:Int),args=[e.cv,I n]/\(0<=n/\n<8)/\r=.ret (I (nth [e.Body.X,e.Body.Y,e.Body.VX,e.Body.VY,e.Body.Age,e.In.Buttons,e.In.X,e.In.Y] n.toNat)) p
theorem t77{T:XCall}(h:Has T 64 R77)(e:V0c)(n:Int){p:Hp}(h1:0<=n/\n<8): T 64 [e.cv,I n] p=.ret (I (nth [e.Body.X,e.Body.Y,e.Body.VX,e.Body.VY,e.Body.Age,e.In.Buttons,e.In.X,e.In.Y] n.toNat)) p:=h _ _ _ ⟨e,n,rfl,h1,rfl⟩
theorem zq77{A B:Prop}(k:B)(h:A=B:=by have zy:=zA @zw77<|zA @rs77<|zA @tt3<|zA @tt34<|zA @tt36<|zA @tt51<|zA @tt64<|zA ti3.eq_1<|zA ti34.eq_1<|zA ti36.eq_1<|zA ti51.eq_1<|zA ti64.eq_1<|zA @K0h<|zA @Z0o<|zA @Q0e<|zA @zsl64<|zA @bld64<|zA @idx64<|@h1;exact zQ): A:=h▸k
theorem zno77{P:Prop}(h:P:=by intro jj;simp[CV.has,CV.hasL,fault,Z0b.nohas,K0b.nohas,Q0a.nohas]): P:=h
theorem c77: Con C 64 R77:=by
 refine K0e C ?_ ?_ ?_
 ·rintro args p r r' ⟨e,n,h,h1,e⟩ ⟨e',n',h',h1',e'⟩
  subst e;subst e';simp_all[K0b.inj_iff,V0c.inj_iff,Q0a.inj_iff]
 ·rintro args p r ⟨e,n,h,h1,rfl⟩;exact zr1
 ·rintro args p r ⟨e,n,rfl,h1,rfl⟩
  refine zW C false [] zT rfl xf77 zc77_ok fun call zh hF=>?_
  clear zh
  (have zx:=zT;refine zq77 ?_;try exact zT)
  repeat'(apply zK.s<;>intro hc<;>(try simp only[zhd]at hc)<;>(try have hw:=X0a hc)<;>(refine zq77 ?_;try exact zT))
  all_goals(try clear zx)
  exact K0d hF zle (Y0c rfl (Z0c zno77))
def R81: Rel:=fun args p r=>∃(b:Q0a) (x y:Int),args=[b.cv,I x,I y]/\r=.ret (bodyShoot b x y).cv p
theorem t81{T:XCall}(h:Has T 67 R81)(b:Q0a)(x y:Int){p:Hp}:T 67 [b.cv,I x,I y] p=.ret (bodyShoot b x y).cv p:=h _ _ _ ⟨b,x,y,rfl,rfl⟩
theorem zq81{A B:Prop}(k:B)(h:A=B:=by have zy:=zA @zw81<|zA @rs81<|zA @tt3<|zA @tt34<|zA ti3.eq_1<|zA ti34.eq_1<|zA @t_75<|zA @t_80<|@Q0e;exact zQ): A:=h▸k
theorem zno81{P:Prop}(h:P:=by intro jj;simp[CV.has,CV.hasL,fault,Z0b.nohas,Q0a.nohas]): P:=h
theorem c81: Con C 67 R81:=by
 refine K0e C ?_ ?_ ?_
 ·rintro args p r r' ⟨b,x,y,h,e⟩ ⟨b',x',y',h',e'⟩
  subst e;subst e';simp_all[Q0a.inj_iff]
 ·rintro args p r ⟨b,x,y,h,rfl⟩;exact zr1
 ·rintro args p r ⟨b,x,y,rfl,rfl⟩
  refine zW C false [(35,R75),(59,R80)] ⟨c75,c80,zT⟩ rfl xf81 zc81_ok fun call zh hF=>?_
  have t_75:=@t75 _ zh.1
  have t_80:=@t80 _ zh.2.1
  clear zh
  (have zx:=zT;refine zq81 ?_;try exact zT)
  repeat'(apply zK.s<;>intro hc<;>(try simp only[zhd]at hc)<;>(try have hw:=X0a hc)<;>(refine zq81 ?_;try exact zT))
  all_goals(try clear zx)
  all_goals refine K0d hF zle (Y0c ?_ (Z0c zno81))
  all_goals simp[bodyShoot,Q0a.zero, *]
def R76: Rel:=fun args p r=>∃(o:K0c) (e:V0c) (n:Int),args=[o.cv,e.cv,I n]/\r=.ret (I (rfault o e n)) p
theorem t76{T:XCall}(h:Has T 63 R76)(o:K0c)(e:V0c)(n:Int){p:Hp}:T 63 [o.cv,e.cv,I n] p=.ret (I (rfault o e n)) p:=h _ _ _ ⟨o,e,n,rfl,rfl⟩
theorem zq76{A B:Prop}(k:B)(h:A=B:=by((try simp -dsimp (disch:=first|exact zdis|fail) only[zcore,zall,zopm,zop,zcallOp,qop,qbuiltin,ofOpt,List.map,reduceCtorEq,if_true,if_false,↓reduceIte,zbin,eqRes,qassert,qnum,qshift,qun,kindOf,allocV,List.nil_append,List.append_nil,List.cons_append,List.length_cons,List.length_nil,Nat.reduceAdd,Nat.reduceEqDiff,Nat.reduceLT,Nat.reduceSub,Nat.reduceMul,Int.reduceToNat,Int.reduceLE,Int.reduceLT,Int.reduceEq,Int.reduceNeg,Int.reduceAdd,Int.reduceSub,beq_self_eq_true,cond_true,cond_false,isConstOpd,xpanic,xconv,isBytes,qconv,List.length_map,List.map_nil,List.map_cons,concrete,Option.some.injEq,exists_eq',Option.map_some,Option.map_none,List.getElem?_cons_zero,List.getElem?_cons_succ,zw76,rs76,tt3,tt29,tt32,tt34,tt37,tt51,ti3,ti29,ti32,ti34,ti37,ti51,t_152,t_153,t_85,t_79,K0i,Z0o,Q0e,zsl32,zsl37,namesA,namesB,Bool.or_false,Bool.false_or,Bool.or_true,Bool.true_or,zx,hc]);rfl)): A:=h▸k
theorem zno76{P:Prop}(h:P:=by intro jj;simp[CV.has,CV.hasL,fault,Z0b.nohas,K0c.nohas,Q0a.nohas]): P:=h
theorem c76: Con C 63 R76:=by
 refine K0e C ?_ ?_ ?_
 ·rintro args p r r' ⟨o,e,n,h,e⟩ ⟨o',e',n',h',e'⟩
  subst e;subst e';simp_all[K0c.inj_iff,V0c.inj_iff,Q0a.inj_iff,K0q]
 ·rintro args p r ⟨o,e,n,h,rfl⟩;exact zr1
 ·rintro args p r ⟨o,e,n,rfl,rfl⟩
  refine zW C false [(79,R152),(80,R153),(31,R85),(66,R79)] ⟨c152,c153,c85,c79,zT⟩ rfl xf76 zc76_ok fun call zh hF=>?_
  have t_152:=@t152 _ zh.1
  have t_153:=@t153 _ zh.2.1
  have t_85:=@t85 _ zh.2.2.1
  have t_79:=@t79 _ zh.2.2.2.1
  clear zh
  have hm:=e.Body.hMem
  cases hw:within o.Code 1 13 with
  |false=>
   (have zx:=hw;refine zq76 ?_;try exact zT)
   repeat'(apply zK.s<;>intro hc<;>(try simp only[zhd]at hc)<;>(try have hw:=X0a hc)<;>(refine zq76 ?_;try exact zT))
   all_goals(try clear zx)
   all_goals refine K0d hF zle (Y0c ?_ (Z0c zno76))
   all_goals simp[rfault,hw]
  |true=>
   rcases Z05 hw with hC|hC|hC|hC|hC|hC|hC|hC|hC|hC|hC|hC|hC
   all_goals have hw2:=hw
   all_goals rw[hC]at hw2
   all_goals cases hA:within o.A 0 3<;>cases hB:within o.B 0 3
   all_goals(try have hA':=X0a hA)
   all_goals(try have hB':=X0a hB)
   all_goals(have zx:=zA hC (zA hw2 (zA hA hB));refine zq76 ?_;try exact zT)
   repeat'(apply zK.s<;>intro hc<;>(try simp only[zhd]at hc)<;>(try have hw:=X0a hc)<;>(refine zq76 ?_;try exact zT))
   all_goals(try clear zx)
   all_goals refine K0d hF zle (Y0c ?_ (Z0c zno76))
   all_goals simp[rfault,namesA,namesB, *]
theorem X1l{l:List Q0a}{k:Nat}(h:k<l.length): freeN (l.take (k+1))=if(nth l k).Kind=0 then freeN (l.take k)+1 else freeN (l.take k):=by
 unfold freeN
 rw[List.take_add_one,V0v h,List.filter_append,List.length_append]
 by_cases hk:(nth l k).Kind=0<;>simp[hk]
def frRoom(f:X0b): Int:=freeN f.s_.Bodies-f.shots.l.length
def J197(i:Nat)(f:X0b)(p:Hp)(n:Nat)(ρ:Env)(q:Hp): Prop:=
 ∃(k:Nat),n=16-k/\k<=16/\ρ 0=.ptr i []/\ρ 3=I (freeN (f.s_.Bodies.take k))/\ρ 10=.agg (f.s_.Bodies.map Q0a.cv)/\ρ 11=I k/\q.t.get i=some (.var sh186 f.cv)/\freeN (f.s_.Bodies.take k)<=k/\p.n<=q.n/\HpLe p q
def R197: Rel:=fun args p r=>∃(i:Nat) (f:X0b),args=[.ptr i []]/\(p.t.get i=some (.var sh186 f.cv))/\(f.shots.l.length<=1000000)/\r=.ret (I (frRoom f)) p
theorem t197{T:XCall}(h:Has T 75 R197)(i:Nat)(f:X0b){p:Hp}(h1:p.t.get i=some (.var sh186 f.cv))(h2:f.shots.l.length<=1000000): T 75 [.ptr i []] p=.ret (I (frRoom f)) p:=h _ _ _ ⟨i,f,rfl,h1,h2,rfl⟩
theorem zq197{A B:Prop}(k:B)(h:A=B:=by have zy:=zA @zw197<|zA @rs197<|zA @tt3<|zA @tt34<|zA @tt37<|zA @tt63<|zA @tt66<|zA @tt186<|zA ti3.eq_1<|zA ti34.eq_1<|zA ti37.eq_1<|zA ti63.eq_1<|zA ti66.eq_1<|zA ti186.eq_1<|zA @X0i<|zA @Q0f<|zA @Q0e<|zA @zsl37<|zA @zsl63<|zA @h1<|@h2;exact zQ): A:=h▸k
theorem zno197{P:Prop}(h:P:=by intro jj;simp[CV.has,CV.hasL,fault,Z0b.nohas,Y0a.nohas,Q0a.nohas]): P:=h
theorem c197: Con C 75 R197:=by
 refine K0e C ?_ ?_ ?_
 ·rintro args p r r' ⟨i,f,h,h1,h2,e⟩ ⟨i',f',h',h1',h2',e'⟩
  subst e;subst e';simp_all[X0b.inj_iff,Y0a.inj_iff,Q0a.inj_iff,K0q]
 ·rintro args p r ⟨i,f,h,h1,h2,rfl⟩;exact zr1
 ·rintro args p r ⟨i,f,rfl,h1,h2,rfl⟩
  refine zW C false [] zT rfl xf197 zc197_ok fun call zh hF=>?_
  clear zh
  have hd_h1:=hF.dom _ _ h1
  have hb:=f.s_.hBodies
  (have zx:=h1;refine zq197 ?_;try exact zT)
  repeat'(apply zK.s<;>intro hc<;>(try simp only[zhd]at hc)<;>(try have hw:=X0a hc)<;>(refine zq197 ?_;try exact zT))
  all_goals(try clear zx)
  (show W C false noExt call (ZC.loop Q1w) _ _ _);refine Q0i C false noExt call Q1w _ _ _ (J197 i f p) 16 ⟨0,rfl,by omega,(by simp[put_at,Q0d,Z0d]),by simp[put_at,Q0d,freeN],(by simp[put_at,Q0d,Z0d]),(by simp[put_at,Q0d,Z0d]),h1,by simp[freeN],Nat.le_refl _,zle⟩ ?_
  rintro n ρ q ⟨k,rfl,hk,e0,e3,e10,e11,g1,hfr,hn,hle⟩
  have hi:i<q.n:=Nat.lt_of_lt_of_le hd_h1 hn
  by_cases hlt:(k:Int)<16
  ·have hs:=X1l (l:=f.s_.Bodies) (k:=k) (by omega)
   by_cases h0:(nth f.s_.Bodies k).Kind=0
   ·rw[if_pos h0]at hs
    (have zx:=zA e0 (zA e3 (zA e10 (zA e11 (zA g1 (zA hlt (zA h0 h1))))));refine zq197 ?_;try exact zT)
    repeat'(apply zK.s<;>intro hc<;>(try simp only[zhd]at hc)<;>(try have hw:=X0a hc)<;>(refine zq197 ?_;try exact zT))
    all_goals(try clear zx)
    exact⟨16-(k+1),by omega,k+1,rfl,by omega,zev,by simp[put_at,Q0d,hs],zev,zev,(by simp (disch:=(first|omega|(simp only[Hp.znew_n];omega))) only[Hp.get_set_ne,Hp.get_new_ne,g1]),by omega,(by simp only[Hp.znew_n,Hp.zset_n];omega),zlq⟩
   ·rw[if_neg h0]at hs
    (have zx:=zA e0 (zA e3 (zA e10 (zA e11 (zA g1 (zA hlt (zA h0 h1))))));refine zq197 ?_;try exact zT)
    repeat'(apply zK.s<;>intro hc<;>(try simp only[zhd]at hc)<;>(try have hw:=X0a hc)<;>(refine zq197 ?_;try exact zT))
    all_goals(try clear zx)
    exact⟨16-(k+1),by omega,k+1,rfl,by omega,zev,by simp[put_at,Q0d,e3,hs],zev,zev,(by simp (disch:=(first|omega|(simp only[Hp.znew_n];omega))) only[Hp.get_set_ne,Hp.get_new_ne,g1]),by omega,(by simp only[Hp.znew_n,Hp.zset_n];omega),zlq⟩
  ·have hk16:k=16:=by omega
   subst hk16
   have ht:f.s_.Bodies.take 16=f.s_.Bodies:=List.take_of_length_le (by omega)
   rw[ht]at e3 hfr
   (have zx:=zA e0 (zA e3 (zA e10 (zA e11 (zA g1 (zA hlt h1)))));refine zq197 ?_;try exact zT)
   repeat'(apply zK.s<;>intro hc<;>(try simp only[zhd]at hc)<;>(try have hw:=X0a hc)<;>(refine zq197 ?_;try exact zT))
   all_goals(try clear zx)
   exact K0d hF zlq (Y0c rfl (Z0c zno197))
def J179(i:Nat)(f:X0b)(b:Q0a)(p:Hp)(n:Nat)(ρ:Env)(q:Hp): Prop:=
 ∃(k:Nat),n=16-k/\k<=16/\ρ 0=.ptr i []/\ρ 3=.ptr p.n []/\ρ 11=.agg (f.s_.Bodies.map Q0a.cv)/\ρ 12=I k/\q.t.get p.n=some (.var sh34 b.cv)/\firstW (fun a=>decide (a.Kind=1)&&bodyHit a b) (f.s_.Bodies.drop k) k=struckL f.s_.Bodies b/\p.n<q.n/\HpLe p q
def R179: Rel:=fun args p r=>∃(i:Nat) (f:X0b) (b:Q0a),args=[.ptr i [],b.cv]/\(p.t.get i=some (.var sh186 f.cv))/\r=.ret (I (struckL f.s_.Bodies b)) p
theorem t179{T:XCall}(h:Has T 62 R179)(i:Nat)(f:X0b)(b:Q0a){p:Hp}(h1:p.t.get i=some (.var sh186 f.cv)): T 62 [.ptr i [],b.cv] p=.ret (I (struckL f.s_.Bodies b)) p:=h _ _ _ ⟨i,f,b,rfl,h1,rfl⟩
theorem zq179{A B:Prop}(k:B)(h:A=B:=by have zy:=zA @zw179<|zA @rs179<|zA @tt3<|zA @tt34<|zA @tt63<|zA @tt66<|zA @tt186<|zA ti3.eq_1<|zA ti34.eq_1<|zA ti63.eq_1<|zA ti66.eq_1<|zA ti186.eq_1<|zA @t_199<|zA @X0i<|zA @Q0f<|zA @Q0e<|zA @zsl63<|@h1;exact zQ): A:=h▸k
theorem zno179{P:Prop}(h:P:=by intro jj;simp[CV.has,CV.hasL,fault,Z0b.nohas,Y0a.nohas,Q0a.nohas]): P:=h
theorem zge179{P:Prop}(h:P:=by simp (disch:=first|exact zdl|fail) only[zheap,h1];first|done|rfl): P:=h
theorem c179: Con C 62 R179:=by
 refine K0e C ?_ ?_ ?_
 ·rintro args p r r' ⟨i,f,b,h,h1,e⟩ ⟨i',f',b',h',h1',e'⟩
  subst e;subst e';simp_all[X0b.inj_iff,Y0a.inj_iff,Q0a.inj_iff]
 ·rintro args p r ⟨i,f,b,h,h1,rfl⟩;exact zr1
 ·rintro args p r ⟨i,f,b,rfl,h1,rfl⟩
  refine zW C false [(78,R199)] ⟨c199,zT⟩ rfl xf179 zc179_ok fun call zh hF=>?_
  have t_199:=@t199 _ zh.1
  clear zh
  have hd_h1:=hF.dom _ _ h1
  have hb:=f.s_.hBodies
  (have zx:=h1;refine zq179 ?_;try exact zT)
  repeat'(apply zK.s<;>intro hc<;>(try simp only[zhd]at hc)<;>(try have hw:=X0a hc)<;>(refine zq179 ?_;try exact zT))
  all_goals(try clear zx)
  (show W C false noExt call (ZC.loop Q1s) _ _ _);refine Q0i C false noExt call Q1s _ _ _ (J179 i f b p) 16 ⟨0,rfl,by omega,(by simp[put_at,Q0d,Z0d]),(by simp[put_at,Q0d,Z0d]),(by simp[put_at,Q0d,Z0d]),(by simp[put_at,Q0d,Z0d]),zge179,rfl,(by simp only[Hp.znew_n];omega),zle⟩ ?_
  rintro n ρ q ⟨k,rfl,hk,e0,e3,e11,e12,g1,hj,hn,hle⟩
  by_cases hlt:(k:Int)<16
  ·rw[Z0r (l:=f.s_.Bodies) (k:=k) (by omega)]at hj
   simp only[firstW]at hj
   by_cases h0:(nth f.s_.Bodies k).Kind=1
   ·cases hh:bodyHit (nth f.s_.Bodies k) b with
    |true=>
     rw[if_pos (by simp[h0,hh])]at hj
     (have zx:=zA e0 (zA e3 (zA e11 (zA e12 (zA g1 (zA hlt (zA h0 (zA hh h1)))))));refine zq179 ?_;try exact zT)
     repeat'(apply zK.s<;>intro hc<;>(try simp only[zhd]at hc)<;>(try have hw:=X0a hc)<;>(refine zq179 ?_;try exact zT))
     all_goals(try clear zx)
     refine K0d hF zlq (Y0c ?_ (Z0c zno179))
     rw[<- hj]
    |false=>
     rw[if_neg (by simp[h0,hh])]at hj
     (have zx:=zA e0 (zA e3 (zA e11 (zA e12 (zA g1 (zA hlt (zA h0 (zA hh h1)))))));refine zq179 ?_;try exact zT)
     repeat'(apply zK.s<;>intro hc<;>(try simp only[zhd]at hc)<;>(try have hw:=X0a hc)<;>(refine zq179 ?_;try exact zT))
     all_goals(try clear zx)
     exact⟨16-(k+1),by omega,k+1,rfl,by omega,zev,zev,zev,zev,(by simp (disch:=(first|omega|(simp only[Hp.znew_n];omega))) only[Hp.get_set_ne,Hp.get_new_ne,g1]),hj,(by simp only[Hp.znew_n,Hp.zset_n];omega),zlq⟩
   ·rw[if_neg (by simp[h0])]at hj
    (have zx:=zA e0 (zA e3 (zA e11 (zA e12 (zA g1 (zA hlt (zA h0 h1))))));refine zq179 ?_;try exact zT)
    repeat'(apply zK.s<;>intro hc<;>(try simp only[zhd]at hc)<;>(try have hw:=X0a hc)<;>(refine zq179 ?_;try exact zT))
    all_goals(try clear zx)
    exact⟨16-(k+1),by omega,k+1,rfl,by omega,zev,zev,zev,zev,(by simp (disch:=(first|omega|(simp only[Hp.znew_n];omega))) only[Hp.get_set_ne,Hp.get_new_ne,g1]),hj,(by simp only[Hp.znew_n,Hp.zset_n];omega),zlq⟩
  ·have hk16:k=16:=by omega
   subst hk16
   rw[List.drop_eq_nil_of_le (by omega)]at hj
   (have zx:=zA e0 (zA e3 (zA e11 (zA e12 (zA g1 (zA hlt h1)))));refine zq179 ?_;try exact zT)
   repeat'(apply zK.s<;>intro hc<;>(try simp only[zhd]at hc)<;>(try have hw:=X0a hc)<;>(refine zq179 ?_;try exact zT))
   all_goals(try clear zx)
   refine K0d hF zlq (Y0c ?_ (Z0c zno179))
   rw[<- hj];rfl
end Go.Proofs.YtpchcfkebljopaaGreat
end
section
namespace Go.Proofs.YtpchcfkebljopaaGreat
open Go.Cl Go Go.RowKit
set_option linter.constructorNameAsVariable false
def bucketR(r d:Nat): Bool:=(f64.order r 0==some .gt || f64.order r 0==some .eq)&&(f64.order r 9218868437227405311==some .lt || f64.order r 9218868437227405311==some .eq)&&(f64.order d 4607182418800017408==some .gt || f64.order d 4607182418800017408==some .eq)&&(f64.order d 4652007308841189376==some .lt || f64.order d 4652007308841189376==some .eq)
theorem absF_mod(n:Nat): absF n=n % 2^63:=by
 unfold absF
 have h:(BitVec.ofInt IntKind.u64.bits (n:Int) &&&~~~BitVec.ofInt IntKind.u64.bits (9223372036854775808:Int)).toNat=n % 2^63:=by
  show(BitVec.ofInt 64 (n:Int) &&&~~~BitVec.ofInt 64 (9223372036854775808:Int)).toNat=n % 2^63
  have e:(~~~BitVec.ofInt 64 (9223372036854775808:Int))=BitVec.ofNat 64 (2^63-1):=by decide
  rw[e,BitVec.toNat_and]
  have e1:(BitVec.ofInt 64 (n:Int)).toNat=n % 2^64:=by simp
  rw[e1]
  have e2:(BitVec.ofNat 64 (2^63-1)).toNat=2^63-1:=by decide
  rw[e2,Nat.and_two_pow_sub_one_eq_mod]
  omega
 rw[h]
 have h2:n % 2^63<2^63:=Nat.mod_lt _ (by decide)
 have e3:IntKind.u64.wrap ((n % 2^63:Nat):Int)=((n % 2^63:Nat):Int):=by
  generalize n % 2^63=m at h2
  show((m:Int) % 2^64:Int)=m
  omega
 rw[e3,Int.toNat_natCast]
theorem Q0y{x:Nat}{s:Bool}{m:Nat}{i:Int}(h:f64.read x=.number s m i): m<2^53/\-1074<=i/\i<=971:=by
 have e1:f64.binade=2^52:=rfl
 have e2:f64.infRung=2047*2^52:=rfl
 have e3:f64.leastPlace=-1074:=rfl
 unfold Ieee.Format.read at h
 simp only[e1,e2,e3]at h
 generalize x % f64.signWeight=r at h
 split at h
 ·simp only[Ieee.Datum.number.injEq]at h;omega
 ·split at h
  ·simp only[Ieee.Datum.number.injEq]at h;omega
  ·split at h<;>cases h
theorem read_max: f64.read 9218868437227405311=.number false (2^53-1) 971:=by decide
theorem V10{s:Bool}{m:Nat}{i:Int}(hm:m<2^53)(hi:i<=971): Ieee.Datum.order (.number s m i) (.number false (2^53-1) 971)≠some .gt:=by
 have e:min i 971=i:=by omega
 simp only[Ieee.Datum.order,e,ne_eq,Option.some.injEq]
 have hle:Ieee.signed s m (i-i).toNat<=Ieee.signed false (2^53-1) (971-i).toNat:=by
  have e0:(i-i).toNat=0:=by omega
  rw[e0]
  unfold Ieee.signed
  simp only[Nat.shiftLeft_eq,Nat.pow_zero,Nat.mul_one,Bool.false_eq_true,if_false]
  have hp:1<=2^(971-i).toNat:=Nat.one_le_two_pow
  have hk:2^53-1<=(2^53-1)*2^(971-i).toNat:=Nat.le_mul_of_pos_right _ hp
  split<;>omega
 intro hc
 have:=Int.compare_eq_gt.1 hc
 omega
theorem read_abs(n:Nat): f64.read (absF n)=match f64.read n with|.number _ m i=>.number false m i|.infinity _=>.infinity false|.nan _ t=>.nan false t:=by
 rw[absF_mod]
 have e1:f64.signWeight=2^63:=rfl
 unfold Ieee.Format.read
 simp only[e1,Nat.mod_mod]
 have e4:((n % 2^63)/2^63 % 2==1)=false:=by
  rw[Nat.div_eq_of_lt (Nat.mod_lt _ (by decide))];rfl
 rw[e4]
 generalize n % 2^63=r
 by_cases h1:r<f64.binade
 ·rw[if_pos h1,if_pos h1]
 ·rw[if_neg h1,if_neg h1]
  by_cases h2:r<f64.infRung
  ·rw[if_pos h2,if_pos h2]
  ·rw[if_neg h2,if_neg h2]
   by_cases h3:r=f64.infRung
   ·rw[if_pos h3,if_pos h3]
   ·rw[if_neg h3,if_neg h3]
theorem order_self(s:Bool)(m:Nat)(i:Int): Ieee.Datum.order (.number s m i) (.number s m i)=some .eq:=by
 simp only[Ieee.Datum.order,Option.some.injEq]
 exact Int.compare_eq_eq.2 rfl
theorem Z0q(s:Bool)(m:Nat)(i:Int)(t:Bool)(n:Nat)(j:Int): ∃o,Ieee.Datum.order (.number s m i) (.number t n j)=some o:=⟨_,rfl⟩
theorem bucketR_eq(r d:Nat): bucketR r d=bucketOk r d:=by
 have c0:f64.read 0=.number false 0 (-1074):=by decide
 have c1:f64.read 4607182418800017408=.number false (2^52) (-52):=by decide
 have c2:∃m i,f64.read 4652007308841189376=.number false m i:=⟨_,_,rfl⟩
 obtain⟨m2,i2,c2⟩:=c2
 have cm:=read_max
 have ha:=read_abs r
 have hb:=read_abs d
 have hr:=@V10
 unfold bucketR bucketOk oddF nanF infF
 simp only[Ieee.Format.order,c0,c1,c2,cm,ha,hb]
 cases hR:f64.read r with
 |nan s t=>simp[Ieee.Datum.order]
 |infinity s=>cases s<;>simp[Ieee.Datum.order]
 |number s m i=>
  have nr:=V10 (s:=s) (Q0y hR).1 (Q0y hR).2.2
  have nr2:=V10 (s:=false) (Q0y hR).1 (Q0y hR).2.2
  cases hD:f64.read d with
  |nan s t=>simp[Ieee.Datum.order]
  |infinity s=>cases s<;>simp[Ieee.Datum.order]
  |number s' m' i'=>
   have nd:=V10 (s:=false) (Q0y hD).1 (Q0y hD).2.2
   simp only[order_self]
   obtain⟨o1,h1⟩:=Z0q s m i false 0 (-1074)
   obtain⟨o2,h2⟩:=Z0q s m i false (2^53-1) 971
   obtain⟨o3,h3⟩:=Z0q false m i false (2^53-1) 971
   obtain⟨o4,h4⟩:=Z0q s' m' i' false (2^52) (-52)
   obtain⟨o5,h5⟩:=Z0q s' m' i' false m2 i2
   obtain⟨o6,h6⟩:=Z0q false m' i' false (2^53-1) 971
   rw[h2]at nr
   rw[h3]at nr2
   rw[h6]at nd
   rw[h1,h2,h3,h4,h5,h6]
   clear h1 h2 h3 h4 h5 h6
   cases o1<;>cases o2<;>first|(exact absurd rfl nr)|(cases o3<;>first|(exact absurd rfl nr2)|(cases o6<;>first|(exact absurd rfl nd)|(cases o4<;>cases o5<;>rfl)))
end Go.Proofs.YtpchcfkebljopaaGreat
end
section
namespace Go.Proofs.YtpchcfkebljopaaGreat
open Go.Cl Go Go.RowKit
set_option maxRecDepth 100000
set_option linter.constructorNameAsVariable false
theorem K1e(x y:Int): within (y-x) (-32) 32=within (x-y) (-32) 32:=by
 unfold within
 have h1:(-32<=y-x)=(x-y<=32):=by apply propext;omega
 have h2:(y-x<=32)=(-32<=x-y):=by apply propext;omega
 simp only[h1,h2,Bool.and_comm]
theorem within_b(n:Int): within n 0 4095=decide (brought n 0 4095=n):=by
 unfold within brought
 by_cases h:0<=n/\n<=4095
 ·rw[decide_eq_true h.1,decide_eq_true h.2,decide_eq_true (by omega)];rfl
 ·rw[decide_eq_false (show ¬(_=n) by omega)]
  by_cases h0:0<=n
  ·rw[decide_eq_true h0,decide_eq_false (show ¬n<=4095 by omega)];rfl
  ·rw[decide_eq_false h0];rfl
def J145(s:Y0a)(p:Hp)(n:Nat)(ρ:Env)(q:Hp): Prop:=
 ∃(k:Nat),n=16-k/\k<=16/\ρ 1=.ptr p.n []/\ρ 3=I (freeN (s.Bodies.take k))/\ρ 4=I k/\q.t.get p.n=some (.var sh66 s.cv)/\freeN (s.Bodies.take k)<=k/\p.n<q.n/\HpLe p q
def R141: Rel:=fun args p r=>∃(n:Int),args=[I n]/\r=.ret (U (seedOf n)) p
theorem t141{T:XCall}(h:Has T 38 R141)(n:Int){p:Hp}:T 38 [I n] p=.ret (U (seedOf n)) p:=h _ _ _ ⟨n,rfl,rfl⟩
theorem zq141{A B:Prop}(k:B)(h:A=B:=by have zy:=zA @zw141<|zA @rs141<|zA @tt3<|zA @tt25<|zA ti3.eq_1<|ti25.eq_1;exact zQ): A:=h▸k
theorem zno141{P:Prop}(h:P:=by intro jj;simp[CV.has,CV.hasL,fault,Z0b.nohas]): P:=h
theorem c141: Con C 38 R141:=by
 refine K0e C ?_ ?_ ?_
 ·rintro args p r r' ⟨n,h,e⟩ ⟨n',h',e'⟩
  subst e;subst e';simp_all
 ·rintro args p r ⟨n,h,rfl⟩;exact zr1
 ·rintro args p r ⟨n,rfl,rfl⟩
  refine zW C false [] zT rfl xf141 zc141_ok fun call zh hF=>?_
  clear zh
  (have zx:=zT;refine zq141 ?_;try exact zT)
  repeat'(apply zK.s<;>intro hc<;>(try simp only[zhd]at hc)<;>(try have hw:=X0a hc)<;>(refine zq141 ?_;try exact zT))
  all_goals(try clear zx)
  exact K0d hF zle (Y0c rfl (Z0c zno141))
def R142: Rel:=fun args p r=>∃(o k:Int),args=[I o,I k]/\r=.ret (bodyBorn o k).cv p
theorem t142{T:XCall}(h:Has T 39 R142)(o k:Int){p:Hp}:T 39 [I o,I k] p=.ret (bodyBorn o k).cv p:=h _ _ _ ⟨o,k,rfl,rfl⟩
theorem zq142{A B:Prop}(k:B)(h:A=B:=by have zy:=zA @zw142<|zA @rs142<|zA @tt3<|zA @tt34<|zA ti3.eq_1<|zA ti34.eq_1<|zA @t_80<|@Q0e;exact zQ): A:=h▸k
theorem zno142{P:Prop}(h:P:=by intro jj;simp[CV.has,CV.hasL,fault,Z0b.nohas,Q0a.nohas]): P:=h
theorem c142: Con C 39 R142:=by
 refine K0e C ?_ ?_ ?_
 ·rintro args p r r' ⟨o,k,h,e⟩ ⟨o',k',h',e'⟩
  subst e;subst e';simp_all[Q0a.inj_iff]
 ·rintro args p r ⟨o,k,h,rfl⟩;exact zr1
 ·rintro args p r ⟨o,k,rfl,rfl⟩
  refine zW C false [(59,R80)] ⟨c80,zT⟩ rfl xf142 zc142_ok fun call zh hF=>?_
  have t_80:=@t80 _ zh.1
  clear zh
  have k1:=Y0e (n:=k) (lo:=1) (hi:=8) (by omega)
  have k2:=Y0e (n:=o) (lo:=0) (hi:=brought k 1 8-1) (by omega)
  (have zx:=zT;refine zq142 ?_;try exact zT)
  repeat'(apply zK.s<;>intro hc<;>(try simp only[zhd]at hc)<;>(try have hw:=X0a hc)<;>(refine zq142 ?_;try exact zT))
  all_goals(try clear zx)
  refine K0d hF zle (Y0c ?_ (Z0c zno142))
  rfl
def R144: Rel:=fun args p r=>∃(b:Q0a) (x y:Int),args=[b.cv,I x,I y]/\r=.ret (bodyPush b x y).cv p
theorem t144{T:XCall}(h:Has T 45 R144)(b:Q0a)(x y:Int){p:Hp}:T 45 [b.cv,I x,I y] p=.ret (bodyPush b x y).cv p:=h _ _ _ ⟨b,x,y,rfl,rfl⟩
theorem zq144{A B:Prop}(k:B)(h:A=B:=by have zy:=zA @zw144<|zA @rs144<|zA @tt3<|zA @tt34<|zA ti3.eq_1<|zA ti34.eq_1<|zA @t_75<|zA @t_80<|@Q0e;exact zQ): A:=h▸k
theorem zno144{P:Prop}(h:P:=by intro jj;simp[CV.has,CV.hasL,fault,Z0b.nohas,Q0a.nohas]): P:=h
theorem c144: Con C 45 R144:=by
 refine K0e C ?_ ?_ ?_
 ·rintro args p r r' ⟨b,x,y,h,e⟩ ⟨b',x',y',h',e'⟩
  subst e;subst e';simp_all[Q0a.inj_iff]
 ·rintro args p r ⟨b,x,y,h,rfl⟩;exact zr1
 ·rintro args p r ⟨b,x,y,rfl,rfl⟩
  refine zW C false [(35,R75),(59,R80)] ⟨c75,c80,zT⟩ rfl xf144 zc144_ok fun call zh hF=>?_
  have t_75:=@t75 _ zh.1
  have t_80:=@t80 _ zh.2.1
  clear zh
  have k1:=Y0e (n:=x) (lo:=-1000) (hi:=1000) (by omega)
  have k2:=Y0e (n:=y) (lo:=-1000) (hi:=1000) (by omega)
  by_cases hb:Body.right b=true
  ·by_cases hk:b.Kind=0
   ·(have zx:=zA hb hk;refine zq144 ?_;try exact zT)
    repeat'(apply zK.s<;>intro hc<;>(try simp only[zhd]at hc)<;>(try have hw:=X0a hc)<;>(refine zq144 ?_;try exact zT))
    all_goals(try clear zx)
    refine K0d hF zle (Y0c ?_ (Z0c zno144))
    simp[bodyPush,hb,hk];rfl
   ·have hr:=Z0f hb hk
    (have zx:=zA hb hk;refine zq144 ?_;try exact zT)
    repeat'(apply zK.s<;>intro hc<;>(try simp only[zhd]at hc)<;>(try have hw:=X0a hc)<;>(refine zq144 ?_;try exact zT))
    all_goals(try clear zx)
    refine K0d hF zle (Y0c ?_ (Z0c zno144))
    simp[bodyPush,hb,hk]
  ·(have zx:=hb;refine zq144 ?_;try exact zT)
   repeat'(apply zK.s<;>intro hc<;>(try simp only[zhd]at hc)<;>(try have hw:=X0a hc)<;>(refine zq144 ?_;try exact zT))
   all_goals(try clear zx)
   refine K0d hF zle (Y0c ?_ (Z0c zno144))
   simp[bodyPush,hb];rfl
def R146: Rel:=fun args p r=>∃(b:Q0a),args=[b.cv]/\r=.ret (.tup [(bodyMove b).1.cv,Bo (bodyMove b).2]) p
theorem t146{T:XCall}(h:Has T 47 R146)(b:Q0a){p:Hp}:T 47 [b.cv] p=.ret (.tup [(bodyMove b).1.cv,Bo (bodyMove b).2]) p:=h _ _ _ ⟨b,rfl,rfl⟩
theorem zq146{A B:Prop}(k:B)(h:A=B:=by have zy:=zA @zw146<|zA @rs146<|zA @tt3<|zA @tt34<|zA ti3.eq_1<|zA ti34.eq_1<|zA @t_75<|zA @t_80<|@Q0e;exact zQ): A:=h▸k
theorem zno146{P:Prop}(h:P:=by intro jj;simp[CV.has,CV.hasL,fault,Z0b.nohas,Q0a.nohas]): P:=h
theorem c146: Con C 47 R146:=by
 refine K0e C ?_ ?_ ?_
 ·rintro args p r r' ⟨b,h,e⟩ ⟨b',h',e'⟩
  subst e;subst e';simp_all[Q0a.inj_iff]
 ·rintro args p r ⟨b,h,rfl⟩;exact zr1
 ·rintro args p r ⟨b,rfl,rfl⟩
  refine zW C false [(35,R75),(59,R80)] ⟨c75,c80,zT⟩ rfl xf146 zc146_ok fun call zh hF=>?_
  have t_75:=@t75 _ zh.1
  have t_80:=@t80 _ zh.2.1
  clear zh
  by_cases hb:Body.right b=true
  ·by_cases hk:b.Kind=0
   ·(have zx:=zA hb hk;refine zq146 ?_;try exact zT)
    repeat'(apply zK.s<;>intro hc<;>(try simp only[zhd]at hc)<;>(try have hw:=X0a hc)<;>(refine zq146 ?_;try exact zT))
    all_goals(try clear zx)
    refine K0d hF zle (Y0c ?_ (Z0c zno146))
    simp[bodyMove,hb,hk];rfl
   ·have hr:=Z0f hb hk
    have hmm:min 600 (b.Age+1)=min (b.Age+1) 600:=by omega
    have wX:=within_b (b.X+b.VX)
    have wY:=within_b (b.Y+b.VY)
    by_cases hk2:b.Kind=2
    ·have hk1:¬b.Kind=1:=by omega
     (have zx:=zA hb (zA hk (zA hk2 hmm));refine zq146 ?_;try exact zT)
     repeat'(apply zK.s<;>intro hc<;>(try simp only[zhd]at hc)<;>(try have hw:=X0a hc)<;>(refine zq146 ?_;try exact zT))
     all_goals(try clear zx)
     all_goals refine K0d hF zle (Y0c ?_ (Z0c zno146))
     all_goals first|(simp[bodyMove,bounce,hb,hk, *];done)|(simp[bodyMove,bounce,hb,hk, *];rfl)
    ·have hk1:b.Kind=1:=by omega
     have nX:w64 (-b.VX)=-b.VX:=Y0x (by omega) (by omega)
     have nY:w64 (-b.VY)=-b.VY:=Y0x (by omega) (by omega)
     (have zx:=zA hb (zA hk (zA hk2 (zA hk1 hmm)));refine zq146 ?_;try exact zT)
     repeat'(apply zK.s<;>intro hc<;>(try simp only[zhd]at hc)<;>(try have hw:=X0a hc)<;>(refine zq146 ?_;try exact zT))
     all_goals(try clear zx)
     all_goals refine K0d hF zle (Y0c ?_ (Z0c zno146))
     all_goals first|(simp[bodyMove,bounce,hb,hk, *];done)|(simp[bodyMove,bounce,hb,hk, *];rfl)
  ·(have zx:=hb;refine zq146 ?_;try exact zT)
   repeat'(apply zK.s<;>intro hc<;>(try simp only[zhd]at hc)<;>(try have hw:=X0a hc)<;>(refine zq146 ?_;try exact zT))
   all_goals(try clear zx)
   refine K0d hF zle (Y0c ?_ (Z0c zno146))
   simp[bodyMove,hb];rfl
def R180: Rel:=fun args p r=>∃(a b:Int),args=[I a,I b]/\(0<=a/\a<=4095)/\(0<=b/\b<=4095)/\r=.ret (Bo (within (a-b) (-32) 32)) p
theorem t180{T:XCall}(h:Has T 68 R180)(a b:Int){p:Hp}(h1:0<=a/\a<=4095)(h2:0<=b/\b<=4095): T 68 [I a,I b] p=.ret (Bo (within (a-b) (-32) 32)) p:=h _ _ _ ⟨a,b,rfl,h1,h2,rfl⟩
theorem zq180{A B:Prop}(k:B)(h:A=B:=by have zy:=zA @zw180<|zA @rs180<|zA @tt3<|zA ti3.eq_1<|zA @h1<|@h2;exact zQ): A:=h▸k
theorem zno180{P:Prop}(h:P:=by intro jj;simp[CV.has,CV.hasL,fault,Z0b.nohas]): P:=h
theorem c180: Con C 68 R180:=by
 refine K0e C ?_ ?_ ?_
 ·rintro args p r r' ⟨a,b,h,h1,h2,e⟩ ⟨a',b',h',h1',h2',e'⟩
  subst e;subst e';simp_all
 ·rintro args p r ⟨a,b,h,h1,h2,rfl⟩;exact zr1
 ·rintro args p r ⟨a,b,rfl,h1,h2,rfl⟩
  refine zW C false [] zT rfl xf180 zc180_ok fun call zh hF=>?_
  clear zh
  by_cases g1:a-b<=32
  ·by_cases g2:b-a<=32
   ·have hw:within (a-b) (-32) 32=true:=by simp[within];omega
    (have zx:=zA g1 g2;refine zq180 ?_;try exact zT)
    repeat'(apply zK.s<;>intro hc<;>(try simp only[zhd]at hc)<;>(try have hw:=X0a hc)<;>(refine zq180 ?_;try exact zT))
    all_goals(try clear zx)
    exact K0d hF zle (Y0c (by rw[hw]) (Z0c zno180))
   ·have hw:within (a-b) (-32) 32=false:=by simp[within];omega
    (have zx:=zA g1 g2;refine zq180 ?_;try exact zT)
    repeat'(apply zK.s<;>intro hc<;>(try simp only[zhd]at hc)<;>(try have hw:=X0a hc)<;>(refine zq180 ?_;try exact zT))
    all_goals(try clear zx)
    exact K0d hF zle (Y0c (by rw[hw]) (Z0c zno180))
  ·have hw:within (a-b) (-32) 32=false:=by simp[within];omega
   (have zx:=g1;refine zq180 ?_;try exact zT)
   repeat'(apply zK.s<;>intro hc<;>(try simp only[zhd]at hc)<;>(try have hw:=X0a hc)<;>(refine zq180 ?_;try exact zT))
   all_goals(try clear zx)
   exact K0d hF zle (Y0c (by rw[hw]) (Z0c zno180))
def R147: Rel:=fun args p r=>∃(a b:Q0a),args=[a.cv,b.cv]/\r=.ret (Bo (bodyHit a b)) p
theorem t147{T:XCall}(h:Has T 48 R147)(a b:Q0a){p:Hp}:T 48 [a.cv,b.cv] p=.ret (Bo (bodyHit a b)) p:=h _ _ _ ⟨a,b,rfl,rfl⟩
theorem zq147{A B:Prop}(k:B)(h:A=B:=by have zy:=zA @zw147<|zA @rs147<|zA @tt3<|zA @tt34<|zA ti3.eq_1<|zA ti34.eq_1<|zA @t_75<|zA @t_180<|@Q0e;exact zQ): A:=h▸k
theorem zno147{P:Prop}(h:P:=by intro jj;simp[CV.has,CV.hasL,fault,Z0b.nohas,Q0a.nohas]): P:=h
theorem c147: Con C 48 R147:=by
 refine K0e C ?_ ?_ ?_
 ·rintro args p r r' ⟨a,b,h,e⟩ ⟨a',b',h',e'⟩
  subst e;subst e';simp_all[Q0a.inj_iff]
 ·rintro args p r ⟨a,b,h,rfl⟩;exact zr1
 ·rintro args p r ⟨a,b,rfl,rfl⟩
  refine zW C false [(35,R75),(68,R180)] ⟨c75,c180,zT⟩ rfl xf147 zc147_ok fun call zh hF=>?_
  have t_75:=@t75 _ zh.1
  have t_180:=@t180 _ zh.2.1
  clear zh
  by_cases h1:Body.right a=true
  ·by_cases h2:Body.right b=true
   ·by_cases h3:a.Kind=0
    ·(have zx:=zA h1 (zA h2 h3);refine zq147 ?_;try exact zT)
     repeat'(apply zK.s<;>intro hc<;>(try simp only[zhd]at hc)<;>(try have hw:=X0a hc)<;>(refine zq147 ?_;try exact zT))
     all_goals(try clear zx)
     all_goals refine K0d hF zle (Y0c ?_ (Z0c zno147))
     all_goals simp[bodyHit,bodyStrikes, *]
    ·by_cases h4:b.Kind=0
     ·(have zx:=zA h1 (zA h2 (zA h3 h4));refine zq147 ?_;try exact zT)
      repeat'(apply zK.s<;>intro hc<;>(try simp only[zhd]at hc)<;>(try have hw:=X0a hc)<;>(refine zq147 ?_;try exact zT))
      all_goals(try clear zx)
      all_goals refine K0d hF zle (Y0c ?_ (Z0c zno147))
      all_goals(try split)<;>simp[bodyHit,bodyStrikes, *]
     ·have r1:=Z0f h1 h3
      have r2:=Z0f h2 h4
      have sx:=K1e a.X b.X
      have sy:=K1e a.Y b.Y
      have so:(b.Owner=a.Owner)=(a.Owner=b.Owner):=propext eq_comm
      (have zx:=zA h1 h2;refine zq147 ?_;try exact zT)
      repeat'(apply zK.s<;>intro hc<;>(try simp only[zhd]at hc)<;>(try have hw:=X0a hc)<;>(refine zq147 ?_;try exact zT))
      all_goals(try clear zx)
      all_goals refine K0d hF zle (Y0c ?_ (Z0c zno147))
      all_goals(try split)<;>simp[bodyHit,bodyStrikes, *]
   ·(have zx:=zA h1 h2;refine zq147 ?_;try exact zT)
    repeat'(apply zK.s<;>intro hc<;>(try simp only[zhd]at hc)<;>(try have hw:=X0a hc)<;>(refine zq147 ?_;try exact zT))
    all_goals(try clear zx)
    all_goals refine K0d hF zle (Y0c ?_ (Z0c zno147))
    all_goals simp[bodyHit,bodyStrikes, *]
  ·(have zx:=h1;refine zq147 ?_;try exact zT)
   repeat'(apply zK.s<;>intro hc<;>(try simp only[zhd]at hc)<;>(try have hw:=X0a hc)<;>(refine zq147 ?_;try exact zT))
   all_goals(try clear zx)
   all_goals refine K0d hF zle (Y0c ?_ (Z0c zno147))
   all_goals simp[bodyHit,bodyStrikes, *]
def R143: Rel:=fun args p r=>∃(row:Lst Q0b) (o:Int),args=[row.cv Q0b.cv,I o]/\(0<=o)/\r=.ret (rowInput row.l o).cv p
theorem t143{T:XCall}(h:Has T 43 R143)(row:Lst Q0b)(o:Int){p:Hp}(h2:0<=o): T 43 [row.cv Q0b.cv,I o] p=.ret (rowInput row.l o).cv p:=h _ _ _ ⟨row,o,rfl,h2,rfl⟩
theorem zq143{A B:Prop}(k:B)(h:A=B:=by have zy:=zA @zw143<|zA @rs143<|zA @tt3<|zA @tt36<|zA @tt108<|zA @tt110<|zA ti3.eq_1<|zA ti36.eq_1<|zA ti108.eq_1<|zA ti110.eq_1<|zA @t_80<|zA @K0h<|zA @Q0m<|zA @zsl108<|@h2;exact zQ): A:=h▸k
theorem zno143{P:Prop}(h:P:=by intro jj;simp[CV.has,CV.hasL,fault,Z0b.nohas,K0b.nohas,Q0b.nohas]): P:=h
theorem c143: Con C 43 R143:=by
 refine K0e C ?_ ?_ ?_
 ·rintro args p r r' ⟨row,o,h,h2,e⟩ ⟨row',o',h',h2',e'⟩
  subst e;subst e';simp_all[K0b.inj_iff,Q0b.inj_iff,Y0o]
 ·rintro args p r ⟨row,o,h,h2,rfl⟩;exact zr1
 ·rintro args p r ⟨row,o,rfl,h2,rfl⟩
  refine zW C false [(59,R80)] ⟨c80,zT⟩ rfl xf143 zc143_ok fun call zh hF=>?_
  have t_80:=@t80 _ zh.1
  clear zh
  by_cases h:(row.l.length:Int)<=o
  ·(have zx:=h;refine zq143 ?_;try exact zT)
   repeat'(apply zK.s<;>intro hc<;>(try simp only[zhd]at hc)<;>(try have hw:=X0a hc)<;>(refine zq143 ?_;try exact zT))
   all_goals(try clear zx)
   refine K0d hF zle (Y0c ?_ (Z0c zno143))
   simp[rowInput,h];rfl
  ·(have zx:=h;refine zq143 ?_;try exact zT)
   repeat'(apply zK.s<;>intro hc<;>(try simp only[zhd]at hc)<;>(try have hw:=X0a hc)<;>(refine zq143 ?_;try exact zT))
   all_goals(try clear zx)
   refine K0d hF zle (Y0c ?_ (Z0c zno143))
   simp[rowInput,h];rfl
def R145: Rel:=fun args p r=>∃(s:Y0a),args=[s.cv]/\r=.ret (I (freeN s.Bodies)) p
theorem t145{T:XCall}(h:Has T 46 R145)(s:Y0a){p:Hp}:T 46 [s.cv] p=.ret (I (freeN s.Bodies)) p:=h _ _ _ ⟨s,rfl,rfl⟩
theorem zq145{A B:Prop}(k:B)(h:A=B:=by have zy:=zA @zw145<|zA @rs145<|zA @tt3<|zA @tt34<|zA @tt63<|zA @tt66<|zA ti3.eq_1<|zA ti34.eq_1<|zA ti63.eq_1<|zA ti66.eq_1<|zA @Q0f<|zA @Q0e<|@zsl63;exact zQ): A:=h▸k
theorem zno145{P:Prop}(h:P:=by intro jj;simp[CV.has,CV.hasL,fault,Z0b.nohas,Y0a.nohas,Q0a.nohas]): P:=h
theorem zge145{P:Prop}(h:P:=by simp (disch:=first|exact zdl|fail) only[zheap];first|done|rfl): P:=h
theorem c145: Con C 46 R145:=by
 refine K0e C ?_ ?_ ?_
 ·rintro args p r r' ⟨s,h,e⟩ ⟨s',h',e'⟩
  subst e;subst e';simp_all[Y0a.inj_iff,Q0a.inj_iff]
 ·rintro args p r ⟨s,h,rfl⟩;exact zr1
 ·rintro args p r ⟨s,rfl,rfl⟩
  refine zW C false [] zT rfl xf145 zc145_ok fun call zh hF=>?_
  clear zh
  have hb:=s.hBodies
  (have zx:=zT;refine zq145 ?_;try exact zT)
  repeat'(apply zK.s<;>intro hc<;>(try simp only[zhd]at hc)<;>(try have hw:=X0a hc)<;>(refine zq145 ?_;try exact zT))
  all_goals(try clear zx)
  (show W C false noExt call (ZC.loop V1r) _ _ _);refine Q0i C false noExt call V1r _ _ _ (J145 s p) 16 ⟨0,rfl,by omega,(by simp[put_at,Q0d,Z0d]),by simp[put_at,Q0d,freeN],(by simp[put_at,Q0d,Z0d]),zge145,by simp[freeN],zb9,zle⟩ ?_
  rintro n ρ q ⟨k,rfl,hk,e1,e3,e4,g1,hfr,hn,hle⟩
  by_cases hlt:(k:Int)<16
  ·have hs:=X1l (l:=s.Bodies) (k:=k) (by omega)
   by_cases h0:(nth s.Bodies k).Kind=0
   ·rw[if_pos h0]at hs
    (have zx:=zA e1 (zA e3 (zA e4 (zA g1 (zA hlt h0))));refine zq145 ?_;try exact zT)
    repeat'(apply zK.s<;>intro hc<;>(try simp only[zhd]at hc)<;>(try have hw:=X0a hc)<;>(refine zq145 ?_;try exact zT))
    all_goals(try clear zx)
    exact⟨16-(k+1),by omega,k+1,rfl,by omega,zev,by simp[put_at,Q0d,hs],zev,g1,by omega,hn,hle⟩
   ·rw[if_neg h0]at hs
    (have zx:=zA e1 (zA e3 (zA e4 (zA g1 (zA hlt h0))));refine zq145 ?_;try exact zT)
    repeat'(apply zK.s<;>intro hc<;>(try simp only[zhd]at hc)<;>(try have hw:=X0a hc)<;>(refine zq145 ?_;try exact zT))
    all_goals(try clear zx)
    exact⟨16-(k+1),by omega,k+1,rfl,by omega,zev,by simp[put_at,Q0d,e3,hs],zev,g1,by omega,hn,hle⟩
  ·have hk16:k=16:=by omega
   subst hk16
   have ht:s.Bodies.take 16=s.Bodies:=List.take_of_length_le (by omega)
   rw[ht]at e3 hfr
   (have zx:=zA e1 (zA e3 (zA e4 (zA g1 hlt)));refine zq145 ?_;try exact zT)
   repeat'(apply zK.s<;>intro hc<;>(try simp only[zhd]at hc)<;>(try have hw:=X0a hc)<;>(refine zq145 ?_;try exact zT))
   all_goals(try clear zx)
   exact K0d hF zlq (Y0c rfl (Z0c zno145))
def R162: Rel:=fun args p r=>∃(ra de:Nat),args=[Fl ra,Fl de]/\r=.ret (Bo (bucketOk ra de)) p
theorem t162{T:XCall}(h:Has T 32 R162)(ra de:Nat){p:Hp}:T 32 [Fl ra,Fl de] p=.ret (Bo (bucketOk ra de)) p:=h _ _ _ ⟨ra,de,rfl,rfl⟩
theorem zq162{A B:Prop}(k:B)(h:A=B:=by have zy:=zA @zw162<|zA @rs162<|zA @tt59<|ti59.eq_1;exact zQf): A:=h▸k
theorem zno162{P:Prop}(h:P:=by intro jj;simp[CV.has,CV.hasL,fault,Z0b.nohas]): P:=h
theorem c162: Con C 32 R162:=by
 refine K0e C ?_ ?_ ?_
 ·rintro args p r r' ⟨ra,de,h,e⟩ ⟨ra',de',h',e'⟩
  subst e;subst e';simp_all
 ·rintro args p r ⟨ra,de,h,rfl⟩;exact zr1
 ·rintro args p r ⟨ra,de,rfl,rfl⟩
  refine zW C false [] zT rfl xf162 zc162_ok fun call zh hF=>?_
  clear zh
  rw[<- bucketR_eq]
  cases e1:(FloatKind.f64.format.order ra 0==some Ordering.gt || FloatKind.f64.format.order ra 0==some Ordering.eq) with
  |false=>
   (have zx:=e1;refine zq162 ?_;try exact zT)
   repeat'(apply zK.s<;>intro hc<;>(try simp only[zhd]at hc)<;>(try have hw:=X0a hc)<;>(refine zq162 ?_;try exact zT))
   all_goals(try clear zx)
   exact K0d hF zle (Y0c (by unfold bucketR;rw[e1];rfl) (Z0c zno162))
  |true=>
   cases e2:(FloatKind.f64.format.order ra 9218868437227405311==some Ordering.lt || FloatKind.f64.format.order ra 9218868437227405311==some Ordering.eq) with
   |false=>
    (have zx:=zA e1 e2;refine zq162 ?_;try exact zT)
    repeat'(apply zK.s<;>intro hc<;>(try simp only[zhd]at hc)<;>(try have hw:=X0a hc)<;>(refine zq162 ?_;try exact zT))
    all_goals(try clear zx)
    exact K0d hF zle (Y0c (by unfold bucketR;rw[e1,e2];rfl) (Z0c zno162))
   |true=>
    cases e3:(FloatKind.f64.format.order de 4607182418800017408==some Ordering.gt || FloatKind.f64.format.order de 4607182418800017408==some Ordering.eq) with
    |false=>
     (have zx:=zA e1 (zA e2 e3);refine zq162 ?_;try exact zT)
     repeat'(apply zK.s<;>intro hc<;>(try simp only[zhd]at hc)<;>(try have hw:=X0a hc)<;>(refine zq162 ?_;try exact zT))
     all_goals(try clear zx)
     exact K0d hF zle (Y0c (by unfold bucketR;rw[e1,e2,e3];rfl) (Z0c zno162))
    |true=>
     cases e4:(FloatKind.f64.format.order de 4652007308841189376==some Ordering.lt || FloatKind.f64.format.order de 4652007308841189376==some Ordering.eq) with
     |false=>
      (have zx:=zA e1 (zA e2 (zA e3 e4));refine zq162 ?_;try exact zT)
      repeat'(apply zK.s<;>intro hc<;>(try simp only[zhd]at hc)<;>(try have hw:=X0a hc)<;>(refine zq162 ?_;try exact zT))
      all_goals(try clear zx)
      exact K0d hF zle (Y0c (by unfold bucketR;rw[e1,e2,e3,e4];rfl) (Z0c zno162))
     |true=>
      (have zx:=zA e1 (zA e2 (zA e3 e4));refine zq162 ?_;try exact zT)
      repeat'(apply zK.s<;>intro hc<;>(try simp only[zhd]at hc)<;>(try have hw:=X0a hc)<;>(refine zq162 ?_;try exact zT))
      all_goals(try clear zx)
      exact K0d hF zle (Y0c (by unfold bucketR;rw[e1,e2,e3,e4];rfl) (Z0c zno162))
theorem take_nth{α:Type}[Inhabited α]{l:List α}{k:Nat}(h:k<l.length): l.take (k+1)=l.take k++[nth l k]:=by
 rw[List.take_add_one,V0v h];rfl
end Go.Proofs.YtpchcfkebljopaaGreat
end
section
namespace Go.Proofs.YtpchcfkebljopaaGreat
open Go.Cl Go Go.RowKit
theorem x32_alloc(p:Hp): xalloc C p 34=.ret (.ptr p.n []) (p.new (.var sh32 (.agg ((List.replicate 4 (0:Int)).map I)))):=by simp only[Cl.xalloc,tt32,ti32,z32,z3,List.map_replicate]
theorem s32_sub: subEq sh32 [] sh32=true:=by simp[subEq,Shape.sub]
theorem s32_subk(k:Nat)(q:List Nat)(z:Shape): subEq sh32 (k::q) z=(decide (k<4)&&subEq sh3 q z):=V05 4 k q sh3 z
theorem s32_ok(l:List Int)(h:l.length=4): shOk (.agg (l.map I)) sh32=true:=K0m (sh:=sh32) (by simp only[CV.shape,Y0h (f:=I) (s:=Shape.s) (fun _=>rfl),h,sh32]) rfl
theorem s32_at(l:List Int)(h:l.length=4)(k:Nat)(q:List Nat)(hk:k<4): (CV.agg (l.map I)).at (k::q)=(I (nth l k)).at q:=arr_at _ (by rw[h];exact hk) q
end Go.Proofs.YtpchcfkebljopaaGreat
end
section
namespace Go.Proofs.YtpchcfkebljopaaGreat
open Go.Cl Go Go.RowKit
set_option maxRecDepth 100000
set_option linter.constructorNameAsVariable false
def J28(l:Lst K0c)(e:V0c)(p:Hp)(k:Nat)(ρ:Env)(q:Hp): Prop:=
 ∃(er:V0c) (a:Int),ρ 0=l.cv K0c.cv/\ρ 3=.ptr p.n []/\ρ 4=.ptr (p.n+1) []/\ρ 8=.ptr (p.n+2) []/\ρ 9=I a/\ρ 10=I (64-k)/\k<=64/\q.t.get p.n=some (.var sh51 er.cv)/\q.t.get (p.n+1)=some (.var sh51 V0c.zero.cv)/\q.t.get (p.n+2)=some (.var sh51 e.cv)/\Mach.run k ⟨partE er,l,a⟩=Mach.run 64 ⟨ruleOf e,l,0⟩/\0<=a/\a<=l.l.length/\er.Shots.l.length<=64-k/\(er.Shots.tl=.nil\/∃j,er.Shots.tl=.own j)/\p.n+2<q.n/\HpLe p q
theorem own_nil{α:Type}{s:Lst α}(h:s.tl=.nil): s.l=[]:=s.ok h
def R28: Rel:=fun args p r=>∃(l:Lst K0c) (e:V0c),args=[l.cv K0c.cv,e.cv]/\(l.l.length<=100000)/\(e.Shots.tl=.nil)/\r=.ret (.tup [(envR (ruleRun l (ruleOf e)).1).cv,I (ruleRun l (ruleOf e)).2.1.Code,I (ruleRun l (ruleOf e)).2.1.At,Bo (ruleRun l (ruleOf e)).2.2]) p
theorem t28{T:XCall}(h:Has T 44 R28)(l:Lst K0c)(e:V0c){p:Hp}(hl:l.l.length<=100000)(h1:e.Shots.tl=.nil): T 44 [l.cv K0c.cv,e.cv] p=.ret (.tup [(envR (ruleRun l (ruleOf e)).1).cv,I (ruleRun l (ruleOf e)).2.1.Code,I (ruleRun l (ruleOf e)).2.1.At,Bo (ruleRun l (ruleOf e)).2.2]) p:=h _ _ _ ⟨l,e,rfl,hl,h1,rfl⟩
theorem zq28{A B:Prop}(k:B)(h:A=B:=by have zy:=zA @zw28<|zA @rs28<|zA @tt3<|zA @tt23<|zA @tt25<|zA @tt29<|zA @tt32<|zA @tt34<|zA @tt37<|zA @tt51<|zA ti3.eq_1<|zA ti23.eq_1<|zA ti25.eq_1<|zA ti29.eq_1<|zA ti32.eq_1<|zA ti34.eq_1<|zA ti37.eq_1<|zA ti51.eq_1<|zA @t_75<|zA @t_76<|zA @t_77<|zA @t_78<|zA @t_79<|zA @t_80<|zA @t_81<|zA @Z0o<|zA @Q0e<|zA @K0h<|zA @K0i<|zA @zsl23<|zA @zsl32<|zA @zsl37<|zA @x32_alloc<|zA @s32_sub<|zA @s32_subk<|zA @s32_ok<|zA @s32_at<|zA @hl<|@h1;exact zQ): A:=h▸k
theorem zge28{P:Prop}(h:P:=by simp (disch:=first|exact zdl|fail) only[zheap];first|done|rfl): P:=h
theorem c28: Con C 44 R28:=by
 refine K0e C ?_ ?_ ?_
 ·rintro args p r r' ⟨l,e,h,hl,h1,e⟩ ⟨l',e',h',hl',h1',e'⟩
  subst e;subst e';simp_all[V0c.inj_iff,Q0a.inj_iff,K0b.inj_iff,K0c.inj_iff,V0i,K0q]
 ·rintro args p r ⟨l,e,h,hl,h1,rfl⟩;exact zr1
 ·rintro args p r ⟨l,e,rfl,hl,h1,rfl⟩
  refine zW C false [(35,R75),(63,R76),(64,R77),(65,R78),(66,R79),(59,R80),(67,R81)] ⟨c75,c76,c77,c78,c79,c80,c81,zT⟩ rfl xf28 zc28_ok fun call zh hF=>?_
  have t_75:=@t75 _ zh.1
  have t_76:=@t76 _ zh.2.1
  have t_77:=@t77 _ zh.2.2.1
  have t_78:=@t78 _ zh.2.2.2.1
  have t_79:=@t79 _ zh.2.2.2.2.1
  have t_80:=@t80 _ zh.2.2.2.2.2.1
  have t_81:=@t81 _ zh.2.2.2.2.2.2.1
  clear zh
  have hcp:copiedE (ruleOf e)=ruleOf e:=copiedE_nil h1
  have hno:∀j,¬e.cv.has j:=fun j hj=>by rw[V0c.has,h1]at hj;cases hj
  have hnt:∀(a b:Int) (c:Bool) j,¬(CV.tup [e.cv,I a,I b,Bo c]).has j:=fun a b c j hj=>by simp[CV.has,CV.hasL,hno]at hj
  by_cases hb:Body.right e.Body=true
  ·by_cases hk:e.Body.Kind=0
   ·have hR:ruleRun l (ruleOf e)=(ruleOf e,⟨0,0⟩,false):=by unfold ruleRun;rw[if_pos (.inr hk),hcp]
    (have zx:=zA hb hk;refine zq28 ?_;try exact zT)
    repeat'(apply zK.s<;>intro hc<;>(try simp only[zhd]at hc)<;>(try have hw:=X0a hc)<;>(refine zq28 ?_;try exact zT))
    all_goals(try clear zx)
    rw[hR]
    exact K0d hF zle (Y0c rfl (Z0c (hnt _ _ _)))
   ·have hR:ruleRun l (ruleOf e)=match Mach.run 64 ⟨ruleOf e,l,0⟩ with|.ok m=>(m.e_,⟨0,0⟩,true)|.error c=>(ruleOf e,⟨c.1,c.2⟩,false):=by
     have hnn:¬(Body.right (ruleOf e).Body=false\/(ruleOf e).Body.Kind=0):=by
      rw[show(ruleOf e).Body=e.Body from rfl,hb];simp[hk]
     unfold ruleRun;rw[if_neg hnn,hcp];cases Mach.run 64 ⟨ruleOf e,l,0⟩<;>rfl
    (have zx:=zA hb hk;refine zq28 ?_;try exact zT)
    repeat'(apply zK.s<;>intro hc<;>(try simp only[zhd]at hc)<;>(try have hw:=X0a hc)<;>(refine zq28 ?_;try exact zT))
    all_goals(try clear zx)
    show W C false noExt call (ZC.block 0 (ZC.loop Y1f)) _ _ (seqQ _ _)
    show W C false noExt call (ZC.loop Y1f) _ _ _
    refine Q0i C false noExt call Y1f _ _ _ (J28 l e p) 64 ⟨e,0,(by simp[put_at,Q0d,Z0d]),(by simp[put_at,Q0d,Z0d]),(by simp[put_at,Q0d,Z0d]),(by simp[put_at,Q0d,Z0d]),(by simp[put_at,Q0d,Z0d]),(by simp[put_at,Q0d,Z0d]),by omega,zge28,zge28,zge28,by rw[partE_nil h1],by omega,by omega,by rw[own_nil h1];simp,.inl h1,(zb9),zle⟩ ?_
    rintro k ρ q ⟨er,a,e0,e3,e4,e8,e9,e10,hk6,g1,g2,g3,hrun,ha,ha',hsl,htl,hn,hle⟩
    by_cases hlt:a<l.l.length
    ·cases k with
     |zero=>
      have hs:¬(64-((0:Nat):Int)<64):=by omega
      have hs2:64<=64-((0:Nat):Int):=by omega
      (have zx:=zA e0 (zA e3 (zA e4 (zA e8 (zA e9 (zA e10 (zA g1 (zA g2 (zA g3 (zA hlt (zA hs hs2))))))))));refine zq28 ?_;try exact zT)
      repeat'(apply zK.s<;>intro hc<;>(try simp only[zhd]at hc)<;>(try have hw:=X0a hc)<;>(refine zq28 ?_;try exact zT))
      all_goals(try clear zx)
      have hr:Mach.run 0 ⟨partE er,l,a⟩=.error (5,a):=by simp[Mach.run,hlt]
      rw[hR,<- hrun,hr]
      exact K0d hF zlq (Y0c rfl (Z0c (hnt _ _ _)))
     |succ k=>
      have hs:¬64<=64-((k+1:Nat):Int):=by omega
      have hf:=rfault_eq (nth l.l a.toNat) er l a
      have hmem:=er.Body.hMem
      cases hdo:Mach.doOp ⟨partE er,l,a⟩ (nth l.l a.toNat) with
      |error c=>
       have hc0:=doOp_code hdo
       rw[hdo]at hf
       simp only at hf
       (have zx:=zA e0 (zA e3 (zA e4 (zA e8 (zA e9 (zA e10 (zA g1 (zA g2 (zA g3 (zA hlt (zA hs (zA hf hc0)))))))))));refine zq28 ?_;try exact zT)
       repeat'(apply zK.s<;>intro hc<;>(try simp only[zhd]at hc)<;>(try have hw:=X0a hc)<;>(refine zq28 ?_;try exact zT))
       all_goals(try clear zx)
       have hr:Mach.run (k+1) ⟨partE er,l,a⟩=.error (c,a):=by simp[Mach.run,hlt,hdo]
       rw[hR,<- hrun,hr]
       exact K0d hF zlq (Y0c rfl (Z0c (hnt _ _ _)))
      |ok r=>
       obtain⟨m2,n⟩:=r
       rw[hdo]at hf
       simp only at hf
       have hst:Mach.run k {m2 with at_:=n}=Mach.run 64 ⟨ruleOf e,l,0⟩:=by rw[<- hrun,Mach.run];simp[hlt,hdo]
       have hkp:=Mach.doOp_keeps hdo ha hlt
       have hn0:=hkp.2.2.2.2.1
       have hn1:=hkp.2.2.2.2.2
       simp only at hn1
       have hnm:=doOp_n hdo
       have hA:=namedOk_A hnm.1
       have hB:=namedOk_B hnm.1
       have hco:=Z05 hnm.2
       generalize ho:nth l.l a.toNat=o at hf hdo hnm hA hB hco
       rcases hco with hC|hC|hC|hC|hC|hC|hC|hC|hC|hC|hC|hC|hC
       ·have hd:=doOp_1 hdo hC
        obtain⟨rfl,rfl⟩:=hd
        (have zx:=zA e0 (zA e3 (zA e4 (zA e8 (zA e9 (zA e10 (zA g1 (zA g2 (zA g3 (zA hlt (zA hs (zA ho (zA hf hC))))))))))));refine zq28 ?_;try exact zT)
        repeat'(apply zK.s<;>intro hc<;>(try simp only[zhd]at hc)<;>(try have hw:=X0a hc)<;>(refine zq28 ?_;try exact zT))
        all_goals(try clear zx)
        exact⟨k,Nat.lt_succ_self k,{er with Body:=er.Body.put_7k o.A.toNat (brought (o.B) (-1000000) 1000000)},a+1,zev,zev,zev,zev,zev,by simp[put_at,Q0d];omega,by omega,by simp (disch:=(first|omega|(simp only[Hp.bump_n,Hp.znew_n,Hp.zset_n];omega))) only[Hp.bump_get,Hp.get_set_self,Hp.get_set_ne,Hp.get_new_ne,Hp.get_new_self,g1,g2,g3];first|done|rfl,by simp (disch:=(first|omega|(simp only[Hp.bump_n,Hp.znew_n,Hp.zset_n];omega))) only[Hp.bump_get,Hp.get_set_self,Hp.get_set_ne,Hp.get_new_ne,Hp.get_new_self,g1,g2,g3];first|done|rfl,by simp (disch:=(first|omega|(simp only[Hp.bump_n,Hp.znew_n,Hp.zset_n];omega))) only[Hp.bump_get,Hp.get_set_self,Hp.get_set_ne,Hp.get_new_ne,Hp.get_new_self,g1,g2,g3];first|done|rfl,hst,by omega,by omega,by(try simp only);omega,htl,(zb9),zlq⟩
       ·have hd:=doOp_2 hdo hC
        obtain⟨rfl,rfl⟩:=hd
        (have zx:=zA e0 (zA e3 (zA e4 (zA e8 (zA e9 (zA e10 (zA g1 (zA g2 (zA g3 (zA hlt (zA hs (zA ho (zA hf hC))))))))))));refine zq28 ?_;try exact zT)
        repeat'(apply zK.s<;>intro hc<;>(try simp only[zhd]at hc)<;>(try have hw:=X0a hc)<;>(refine zq28 ?_;try exact zT))
        all_goals(try clear zx)
        exact⟨k,Nat.lt_succ_self k,{er with Body:=er.Body.put_7k o.A.toNat (brought (nth er.Body.Mem o.B.toNat) (-1000000) 1000000)},a+1,zev,zev,zev,zev,zev,by simp[put_at,Q0d];omega,by omega,by simp (disch:=(first|omega|(simp only[Hp.bump_n,Hp.znew_n,Hp.zset_n];omega))) only[Hp.bump_get,Hp.get_set_self,Hp.get_set_ne,Hp.get_new_ne,Hp.get_new_self,g1,g2,g3];first|done|rfl,by simp (disch:=(first|omega|(simp only[Hp.bump_n,Hp.znew_n,Hp.zset_n];omega))) only[Hp.bump_get,Hp.get_set_self,Hp.get_set_ne,Hp.get_new_ne,Hp.get_new_self,g1,g2,g3];first|done|rfl,by simp (disch:=(first|omega|(simp only[Hp.bump_n,Hp.znew_n,Hp.zset_n];omega))) only[Hp.bump_get,Hp.get_set_self,Hp.get_set_ne,Hp.get_new_ne,Hp.get_new_self,g1,g2,g3];first|done|rfl,hst,by omega,by omega,by(try simp only);omega,htl,(zb9),zlq⟩
       ·have hd:=doOp_3 hdo hC
        obtain⟨rfl,rfl⟩:=hd
        (have zx:=zA e0 (zA e3 (zA e4 (zA e8 (zA e9 (zA e10 (zA g1 (zA g2 (zA g3 (zA hlt (zA hs (zA ho (zA hf hC))))))))))));refine zq28 ?_;try exact zT)
        repeat'(apply zK.s<;>intro hc<;>(try simp only[zhd]at hc)<;>(try have hw:=X0a hc)<;>(refine zq28 ?_;try exact zT))
        all_goals(try clear zx)
        exact⟨k,Nat.lt_succ_self k,{er with Body:=er.Body.put_7k o.A.toNat (brought (w64 (nth er.Body.Mem o.A.toNat+nth er.Body.Mem o.B.toNat)) (-1000000) 1000000)},a+1,zev,zev,zev,zev,zev,by simp[put_at,Q0d];omega,by omega,by simp (disch:=(first|omega|(simp only[Hp.bump_n,Hp.znew_n,Hp.zset_n];omega))) only[Hp.bump_get,Hp.get_set_self,Hp.get_set_ne,Hp.get_new_ne,Hp.get_new_self,g1,g2,g3];first|done|rfl,by simp (disch:=(first|omega|(simp only[Hp.bump_n,Hp.znew_n,Hp.zset_n];omega))) only[Hp.bump_get,Hp.get_set_self,Hp.get_set_ne,Hp.get_new_ne,Hp.get_new_self,g1,g2,g3];first|done|rfl,by simp (disch:=(first|omega|(simp only[Hp.bump_n,Hp.znew_n,Hp.zset_n];omega))) only[Hp.bump_get,Hp.get_set_self,Hp.get_set_ne,Hp.get_new_ne,Hp.get_new_self,g1,g2,g3];first|done|rfl,hst,by omega,by omega,by(try simp only);omega,htl,(zb9),zlq⟩
       ·have hd:=doOp_4 hdo hC
        obtain⟨rfl,rfl⟩:=hd
        (have zx:=zA e0 (zA e3 (zA e4 (zA e8 (zA e9 (zA e10 (zA g1 (zA g2 (zA g3 (zA hlt (zA hs (zA ho (zA hf hC))))))))))));refine zq28 ?_;try exact zT)
        repeat'(apply zK.s<;>intro hc<;>(try simp only[zhd]at hc)<;>(try have hw:=X0a hc)<;>(refine zq28 ?_;try exact zT))
        all_goals(try clear zx)
        exact⟨k,Nat.lt_succ_self k,{er with Body:=er.Body.put_7k o.A.toNat (brought (w64 (nth er.Body.Mem o.A.toNat-nth er.Body.Mem o.B.toNat)) (-1000000) 1000000)},a+1,zev,zev,zev,zev,zev,by simp[put_at,Q0d];omega,by omega,by simp (disch:=(first|omega|(simp only[Hp.bump_n,Hp.znew_n,Hp.zset_n];omega))) only[Hp.bump_get,Hp.get_set_self,Hp.get_set_ne,Hp.get_new_ne,Hp.get_new_self,g1,g2,g3];first|done|rfl,by simp (disch:=(first|omega|(simp only[Hp.bump_n,Hp.znew_n,Hp.zset_n];omega))) only[Hp.bump_get,Hp.get_set_self,Hp.get_set_ne,Hp.get_new_ne,Hp.get_new_self,g1,g2,g3];first|done|rfl,by simp (disch:=(first|omega|(simp only[Hp.bump_n,Hp.znew_n,Hp.zset_n];omega))) only[Hp.bump_get,Hp.get_set_self,Hp.get_set_ne,Hp.get_new_ne,Hp.get_new_self,g1,g2,g3];first|done|rfl,hst,by omega,by omega,by(try simp only);omega,htl,(zb9),zlq⟩
       ·have hd:=doOp_5 hdo hC
        obtain⟨rfl,rfl⟩:=hd
        (have zx:=zA e0 (zA e3 (zA e4 (zA e8 (zA e9 (zA e10 (zA g1 (zA g2 (zA g3 (zA hlt (zA hs (zA ho (zA hf hC))))))))))));refine zq28 ?_;try exact zT)
        repeat'(apply zK.s<;>intro hc<;>(try simp only[zhd]at hc)<;>(try have hw:=X0a hc)<;>(refine zq28 ?_;try exact zT))
        all_goals(try clear zx)
        exact⟨k,Nat.lt_succ_self k,{er with Body:=er.Body.put_7k o.A.toNat (brought (w64 (nth er.Body.Mem o.A.toNat*nth er.Body.Mem o.B.toNat)) (-1000000) 1000000)},a+1,zev,zev,zev,zev,zev,by simp[put_at,Q0d];omega,by omega,by simp (disch:=(first|omega|(simp only[Hp.bump_n,Hp.znew_n,Hp.zset_n];omega))) only[Hp.bump_get,Hp.get_set_self,Hp.get_set_ne,Hp.get_new_ne,Hp.get_new_self,g1,g2,g3];first|done|rfl,by simp (disch:=(first|omega|(simp only[Hp.bump_n,Hp.znew_n,Hp.zset_n];omega))) only[Hp.bump_get,Hp.get_set_self,Hp.get_set_ne,Hp.get_new_ne,Hp.get_new_self,g1,g2,g3];first|done|rfl,by simp (disch:=(first|omega|(simp only[Hp.bump_n,Hp.znew_n,Hp.zset_n];omega))) only[Hp.bump_get,Hp.get_set_self,Hp.get_set_ne,Hp.get_new_ne,Hp.get_new_self,g1,g2,g3];first|done|rfl,hst,by omega,by omega,by(try simp only);omega,htl,(zb9),zlq⟩
       ·have hd:=doOp_6 hdo hC
        obtain⟨hz,rfl,rfl⟩:=hd
        have hz:¬nth er.Body.Mem o.B.toNat=0:=hz
        (have zx:=zA e0 (zA e3 (zA e4 (zA e8 (zA e9 (zA e10 (zA g1 (zA g2 (zA g3 (zA hlt (zA hs (zA ho (zA hf (zA hC hz)))))))))))));refine zq28 ?_;try exact zT)
        repeat'(apply zK.s<;>intro hc<;>(try simp only[zhd]at hc)<;>(try have hw:=X0a hc)<;>(refine zq28 ?_;try exact zT))
        all_goals(try clear zx)
        exact⟨k,Nat.lt_succ_self k,{er with Body:=er.Body.put_7k o.A.toNat (brought (w64 ((nth er.Body.Mem o.A.toNat).tdiv (nth er.Body.Mem o.B.toNat))) (-1000000) 1000000)},a+1,zev,zev,zev,zev,zev,by simp[put_at,Q0d];omega,by omega,by simp (disch:=(first|omega|(simp only[Hp.bump_n,Hp.znew_n,Hp.zset_n];omega))) only[Hp.bump_get,Hp.get_set_self,Hp.get_set_ne,Hp.get_new_ne,Hp.get_new_self,g1,g2,g3];first|done|rfl,by simp (disch:=(first|omega|(simp only[Hp.bump_n,Hp.znew_n,Hp.zset_n];omega))) only[Hp.bump_get,Hp.get_set_self,Hp.get_set_ne,Hp.get_new_ne,Hp.get_new_self,g1,g2,g3];first|done|rfl,by simp (disch:=(first|omega|(simp only[Hp.bump_n,Hp.znew_n,Hp.zset_n];omega))) only[Hp.bump_get,Hp.get_set_self,Hp.get_set_ne,Hp.get_new_ne,Hp.get_new_self,g1,g2,g3];first|done|rfl,hst,by omega,by omega,by(try simp only);omega,htl,(zb9),zlq⟩
       ·have hd:=doOp_7 hdo hC
        obtain⟨hw,rfl,rfl⟩:=hd
        have hw:=X0a hw
        (have zx:=zA e0 (zA e3 (zA e4 (zA e8 (zA e9 (zA e10 (zA g1 (zA g2 (zA g3 (zA hlt (zA hs (zA ho (zA hf hC))))))))))));refine zq28 ?_;try exact zT)
        repeat'(apply zK.s<;>intro hc<;>(try simp only[zhd]at hc)<;>(try have hw:=X0a hc)<;>(refine zq28 ?_;try exact zT))
        all_goals(try clear zx)
        exact⟨k,Nat.lt_succ_self k,{er with Body:=er.Body.put_7k o.A.toNat (brought (nth [er.Body.X,er.Body.Y,er.Body.VX,er.Body.VY,er.Body.Age,er.In.Buttons,er.In.X,er.In.Y] o.B.toNat) (-1000000) 1000000)},a+1,zev,zev,zev,zev,zev,by simp[put_at,Q0d];omega,by omega,by simp (disch:=(first|omega|(simp only[Hp.bump_n,Hp.znew_n,Hp.zset_n];omega))) only[Hp.bump_get,Hp.get_set_self,Hp.get_set_ne,Hp.get_new_ne,Hp.get_new_self,g1,g2,g3];first|done|rfl,by simp (disch:=(first|omega|(simp only[Hp.bump_n,Hp.znew_n,Hp.zset_n];omega))) only[Hp.bump_get,Hp.get_set_self,Hp.get_set_ne,Hp.get_new_ne,Hp.get_new_self,g1,g2,g3];first|done|rfl,by simp (disch:=(first|omega|(simp only[Hp.bump_n,Hp.znew_n,Hp.zset_n];omega))) only[Hp.bump_get,Hp.get_set_self,Hp.get_set_ne,Hp.get_new_ne,Hp.get_new_self,g1,g2,g3];first|done|rfl,hst,by omega,by omega,by(try simp only);omega,htl,(zb9),zlq⟩
       ·have hd:=doOp_8 hdo hC
        obtain⟨hw,rfl,rfl⟩:=hd
        have hw:=X0a hw
        have hq:o.A=0\/o.A=1\/o.A=2\/o.A=3:=by omega
        rcases hq with hq|hq|hq|hq
        ·(have zx:=zA e0 (zA e3 (zA e4 (zA e8 (zA e9 (zA e10 (zA g1 (zA g2 (zA g3 (zA hlt (zA hs (zA ho (zA hf (zA hC hq)))))))))))));refine zq28 ?_;try exact zT)
         repeat'(apply zK.s<;>intro hc<;>(try simp only[zhd]at hc)<;>(try have hw:=X0a hc)<;>(refine zq28 ?_;try exact zT))
         all_goals(try clear zx)
         exact⟨k,Nat.lt_succ_self k,{er with Body:={er.Body with X:=brought (nth er.Body.Mem o.B.toNat) (0) 4095}},a+1,zev,zev,zev,zev,zev,by simp[put_at,Q0d];omega,by omega,by simp (disch:=(first|omega|(simp only[Hp.bump_n,Hp.znew_n,Hp.zset_n];omega))) only[Hp.bump_get,Hp.get_set_self,Hp.get_set_ne,Hp.get_new_ne,Hp.get_new_self,g1,g2,g3];first|done|rfl,by simp (disch:=(first|omega|(simp only[Hp.bump_n,Hp.znew_n,Hp.zset_n];omega))) only[Hp.bump_get,Hp.get_set_self,Hp.get_set_ne,Hp.get_new_ne,Hp.get_new_self,g1,g2,g3];first|done|rfl,by simp (disch:=(first|omega|(simp only[Hp.bump_n,Hp.znew_n,Hp.zset_n];omega))) only[Hp.bump_get,Hp.get_set_self,Hp.get_set_ne,Hp.get_new_ne,Hp.get_new_self,g1,g2,g3];first|done|rfl,by rw[<- hst];simp only[Mach.put,Mach.body,hq,Int.reduceEq,if_true,if_false];rfl,by omega,by omega,by(try simp only);omega,htl,(zb9),zlq⟩
        ·(have zx:=zA e0 (zA e3 (zA e4 (zA e8 (zA e9 (zA e10 (zA g1 (zA g2 (zA g3 (zA hlt (zA hs (zA ho (zA hf (zA hC hq)))))))))))));refine zq28 ?_;try exact zT)
         repeat'(apply zK.s<;>intro hc<;>(try simp only[zhd]at hc)<;>(try have hw:=X0a hc)<;>(refine zq28 ?_;try exact zT))
         all_goals(try clear zx)
         exact⟨k,Nat.lt_succ_self k,{er with Body:={er.Body with Y:=brought (nth er.Body.Mem o.B.toNat) (0) 4095}},a+1,zev,zev,zev,zev,zev,by simp[put_at,Q0d];omega,by omega,by simp (disch:=(first|omega|(simp only[Hp.bump_n,Hp.znew_n,Hp.zset_n];omega))) only[Hp.bump_get,Hp.get_set_self,Hp.get_set_ne,Hp.get_new_ne,Hp.get_new_self,g1,g2,g3];first|done|rfl,by simp (disch:=(first|omega|(simp only[Hp.bump_n,Hp.znew_n,Hp.zset_n];omega))) only[Hp.bump_get,Hp.get_set_self,Hp.get_set_ne,Hp.get_new_ne,Hp.get_new_self,g1,g2,g3];first|done|rfl,by simp (disch:=(first|omega|(simp only[Hp.bump_n,Hp.znew_n,Hp.zset_n];omega))) only[Hp.bump_get,Hp.get_set_self,Hp.get_set_ne,Hp.get_new_ne,Hp.get_new_self,g1,g2,g3];first|done|rfl,by rw[<- hst];simp only[Mach.put,Mach.body,hq,Int.reduceEq,if_true,if_false];rfl,by omega,by omega,by(try simp only);omega,htl,(zb9),zlq⟩
        ·(have zx:=zA e0 (zA e3 (zA e4 (zA e8 (zA e9 (zA e10 (zA g1 (zA g2 (zA g3 (zA hlt (zA hs (zA ho (zA hf (zA hC hq)))))))))))));refine zq28 ?_;try exact zT)
         repeat'(apply zK.s<;>intro hc<;>(try simp only[zhd]at hc)<;>(try have hw:=X0a hc)<;>(refine zq28 ?_;try exact zT))
         all_goals(try clear zx)
         exact⟨k,Nat.lt_succ_self k,{er with Body:={er.Body with VX:=brought (nth er.Body.Mem o.B.toNat) (-64) 64}},a+1,zev,zev,zev,zev,zev,by simp[put_at,Q0d];omega,by omega,by simp (disch:=(first|omega|(simp only[Hp.bump_n,Hp.znew_n,Hp.zset_n];omega))) only[Hp.bump_get,Hp.get_set_self,Hp.get_set_ne,Hp.get_new_ne,Hp.get_new_self,g1,g2,g3];first|done|rfl,by simp (disch:=(first|omega|(simp only[Hp.bump_n,Hp.znew_n,Hp.zset_n];omega))) only[Hp.bump_get,Hp.get_set_self,Hp.get_set_ne,Hp.get_new_ne,Hp.get_new_self,g1,g2,g3];first|done|rfl,by simp (disch:=(first|omega|(simp only[Hp.bump_n,Hp.znew_n,Hp.zset_n];omega))) only[Hp.bump_get,Hp.get_set_self,Hp.get_set_ne,Hp.get_new_ne,Hp.get_new_self,g1,g2,g3];first|done|rfl,by rw[<- hst];simp only[Mach.put,Mach.body,hq,Int.reduceEq,if_true,if_false];rfl,by omega,by omega,by(try simp only);omega,htl,(zb9),zlq⟩
        ·(have zx:=zA e0 (zA e3 (zA e4 (zA e8 (zA e9 (zA e10 (zA g1 (zA g2 (zA g3 (zA hlt (zA hs (zA ho (zA hf (zA hC hq)))))))))))));refine zq28 ?_;try exact zT)
         repeat'(apply zK.s<;>intro hc<;>(try simp only[zhd]at hc)<;>(try have hw:=X0a hc)<;>(refine zq28 ?_;try exact zT))
         all_goals(try clear zx)
         exact⟨k,Nat.lt_succ_self k,{er with Body:={er.Body with VY:=brought (nth er.Body.Mem o.B.toNat) (-64) 64}},a+1,zev,zev,zev,zev,zev,by simp[put_at,Q0d];omega,by omega,by simp (disch:=(first|omega|(simp only[Hp.bump_n,Hp.znew_n,Hp.zset_n];omega))) only[Hp.bump_get,Hp.get_set_self,Hp.get_set_ne,Hp.get_new_ne,Hp.get_new_self,g1,g2,g3];first|done|rfl,by simp (disch:=(first|omega|(simp only[Hp.bump_n,Hp.znew_n,Hp.zset_n];omega))) only[Hp.bump_get,Hp.get_set_self,Hp.get_set_ne,Hp.get_new_ne,Hp.get_new_self,g1,g2,g3];first|done|rfl,by simp (disch:=(first|omega|(simp only[Hp.bump_n,Hp.znew_n,Hp.zset_n];omega))) only[Hp.bump_get,Hp.get_set_self,Hp.get_set_ne,Hp.get_new_ne,Hp.get_new_self,g1,g2,g3];first|done|rfl,by rw[<- hst];simp only[Mach.put,Mach.body,hq,Int.reduceEq,if_true,if_false];rfl,by omega,by omega,by(try simp only);omega,htl,(zb9),zlq⟩
       ·have hd:=doOp_9 hdo hC
        obtain⟨rfl,rfl⟩:=hd
        have hre:Mach.reg ⟨partE er,l,a⟩ o.A.toNat=nth er.Body.Mem o.A.toNat:=rfl
        rw[hre]at hn0 hn1 hst
        by_cases hz:nth er.Body.Mem o.A.toNat=0
        ·rw[if_pos hz]at hn0 hn1 hst
         (have zx:=zA e0 (zA e3 (zA e4 (zA e8 (zA e9 (zA e10 (zA g1 (zA g2 (zA g3 (zA hlt (zA hs (zA ho (zA hf (zA hC hz)))))))))))));refine zq28 ?_;try exact zT)
         repeat'(apply zK.s<;>intro hc<;>(try simp only[zhd]at hc)<;>(try have hw:=X0a hc)<;>(refine zq28 ?_;try exact zT))
         all_goals(try clear zx)
         exact⟨k,Nat.lt_succ_self k,er,o.B,zev,zev,zev,zev,zev,by simp[put_at,Q0d];omega,by omega,by simp (disch:=(first|omega|(simp only[Hp.bump_n,Hp.znew_n,Hp.zset_n];omega))) only[Hp.bump_get,Hp.get_set_self,Hp.get_set_ne,Hp.get_new_ne,Hp.get_new_self,g1,g2,g3];first|done|rfl,by simp (disch:=(first|omega|(simp only[Hp.bump_n,Hp.znew_n,Hp.zset_n];omega))) only[Hp.bump_get,Hp.get_set_self,Hp.get_set_ne,Hp.get_new_ne,Hp.get_new_self,g1,g2,g3];first|done|rfl,by simp (disch:=(first|omega|(simp only[Hp.bump_n,Hp.znew_n,Hp.zset_n];omega))) only[Hp.bump_get,Hp.get_set_self,Hp.get_set_ne,Hp.get_new_ne,Hp.get_new_self,g1,g2,g3];first|done|rfl,hst,by omega,by omega,by(try simp only);omega,htl,(zb9),zlq⟩
        ·rw[if_neg hz]at hn0 hn1 hst
         (have zx:=zA e0 (zA e3 (zA e4 (zA e8 (zA e9 (zA e10 (zA g1 (zA g2 (zA g3 (zA hlt (zA hs (zA ho (zA hf (zA hC hz)))))))))))));refine zq28 ?_;try exact zT)
         repeat'(apply zK.s<;>intro hc<;>(try simp only[zhd]at hc)<;>(try have hw:=X0a hc)<;>(refine zq28 ?_;try exact zT))
         all_goals(try clear zx)
         exact⟨k,Nat.lt_succ_self k,er,a+1,zev,zev,zev,zev,zev,by simp[put_at,Q0d];omega,by omega,by simp (disch:=(first|omega|(simp only[Hp.bump_n,Hp.znew_n,Hp.zset_n];omega))) only[Hp.bump_get,Hp.get_set_self,Hp.get_set_ne,Hp.get_new_ne,Hp.get_new_self,g1,g2,g3];first|done|rfl,by simp (disch:=(first|omega|(simp only[Hp.bump_n,Hp.znew_n,Hp.zset_n];omega))) only[Hp.bump_get,Hp.get_set_self,Hp.get_set_ne,Hp.get_new_ne,Hp.get_new_self,g1,g2,g3];first|done|rfl,by simp (disch:=(first|omega|(simp only[Hp.bump_n,Hp.znew_n,Hp.zset_n];omega))) only[Hp.bump_get,Hp.get_set_self,Hp.get_set_ne,Hp.get_new_ne,Hp.get_new_self,g1,g2,g3];first|done|rfl,hst,by omega,by omega,by(try simp only);omega,htl,(zb9),zlq⟩
       ·have hd:=doOp_10 hdo hC
        obtain⟨rfl,rfl⟩:=hd
        (have zx:=zA e0 (zA e3 (zA e4 (zA e8 (zA e9 (zA e10 (zA g1 (zA g2 (zA g3 (zA hlt (zA hs (zA ho (zA hf hC))))))))))));refine zq28 ?_;try exact zT)
        repeat'(apply zK.s<;>intro hc<;>(try simp only[zhd]at hc)<;>(try have hw:=X0a hc)<;>(refine zq28 ?_;try exact zT))
        all_goals(try clear zx)
        exact⟨k,Nat.lt_succ_self k,er,o.B,zev,zev,zev,zev,zev,by simp[put_at,Q0d];omega,by omega,by simp (disch:=(first|omega|(simp only[Hp.bump_n,Hp.znew_n,Hp.zset_n];omega))) only[Hp.bump_get,Hp.get_set_self,Hp.get_set_ne,Hp.get_new_ne,Hp.get_new_self,g1,g2,g3];first|done|rfl,by simp (disch:=(first|omega|(simp only[Hp.bump_n,Hp.znew_n,Hp.zset_n];omega))) only[Hp.bump_get,Hp.get_set_self,Hp.get_set_ne,Hp.get_new_ne,Hp.get_new_self,g1,g2,g3];first|done|rfl,by simp (disch:=(first|omega|(simp only[Hp.bump_n,Hp.znew_n,Hp.zset_n];omega))) only[Hp.bump_get,Hp.get_set_self,Hp.get_set_ne,Hp.get_new_ne,Hp.get_new_self,g1,g2,g3];first|done|rfl,hst,by omega,by omega,by(try simp only);omega,htl,(zb9),zlq⟩
       ·have hd:=doOp_11 hdo hC
        obtain⟨hz,rfl,rfl⟩:=hd
        have hz:¬nth er.Body.Mem o.B.toNat<1:=hz
        (have zx:=zA e0 (zA e3 (zA e4 (zA e8 (zA e9 (zA e10 (zA g1 (zA g2 (zA g3 (zA hlt (zA hs (zA ho (zA hf (zA hC hz)))))))))))));refine zq28 ?_;try exact zT)
        repeat'(apply zK.s<;>intro hc<;>(try simp only[zhd]at hc)<;>(try have hw:=X0a hc)<;>(refine zq28 ?_;try exact zT))
        all_goals(try clear zx)
        exact⟨k,Nat.lt_succ_self k,{er with Body:=er.Body.put_7k o.A.toNat (brought ((diceRoll er.Dice (nth er.Body.Mem o.B.toNat)).2) (-1000000) 1000000),Dice:=(diceRoll er.Dice (nth er.Body.Mem o.B.toNat)).1},a+1,zev,zev,zev,zev,zev,by simp[put_at,Q0d];omega,by omega,by simp (disch:=(first|omega|(simp only[Hp.bump_n,Hp.znew_n,Hp.zset_n];omega))) only[Hp.bump_get,Hp.get_set_self,Hp.get_set_ne,Hp.get_new_ne,Hp.get_new_self,g1,g2,g3];first|done|rfl,by simp (disch:=(first|omega|(simp only[Hp.bump_n,Hp.znew_n,Hp.zset_n];omega))) only[Hp.bump_get,Hp.get_set_self,Hp.get_set_ne,Hp.get_new_ne,Hp.get_new_self,g1,g2,g3];first|done|rfl,by simp (disch:=(first|omega|(simp only[Hp.bump_n,Hp.znew_n,Hp.zset_n];omega))) only[Hp.bump_get,Hp.get_set_self,Hp.get_set_ne,Hp.get_new_ne,Hp.get_new_self,g1,g2,g3];first|done|rfl,hst,by omega,by omega,by(try simp only);omega,htl,(zb9),zlq⟩
       ·have hd:=doOp_12 hdo hC
        obtain⟨rfl,rfl⟩:=hd
        have hsx:Mach.run k ⟨⟨er.Body,er.In,er.Dice,er.Room,⟨.part,er.Shots.l++[bodyShoot er.Body (nth er.Body.Mem o.A.toNat) (nth er.Body.Mem o.B.toNat)],nofun⟩⟩,l,a+1⟩=Mach.run 64 ⟨ruleOf e,l,0⟩:=by rw[<- hst];simp only[partE,partS_l];rfl
        by_cases hs0:er.Shots.l=[]
        ·rw[hs0]at hsx
         (have zx:=zA e0 (zA e3 (zA e4 (zA e8 (zA e9 (zA e10 (zA g1 (zA g2 (zA g3 (zA hlt (zA hs (zA ho (zA hf (zA hC hs0)))))))))))));refine zq28 ?_;try exact zT)
         repeat'(apply zK.s<;>intro hc<;>(try simp only[zhd]at hc)<;>(try have hw:=X0a hc)<;>(refine zq28 ?_;try exact zT))
         all_goals(try clear zx)
         all_goals first|(exfalso;cases hc;done)|(exfalso;omega)|skip
         exact⟨k,Nat.lt_succ_self k,{er with Shots:=⟨.own (q.n+1+1+19),[bodyShoot er.Body (nth er.Body.Mem o.A.toNat) (nth er.Body.Mem o.B.toNat)],nofun⟩},a+1,zev,zev,zev,zev,zev,by simp[put_at,Q0d];omega,by omega,by simp (disch:=(first|omega|(simp only[Hp.bump_n,Hp.znew_n,Hp.zset_n];omega))) only[Hp.bump_get,Hp.get_set_self,Hp.get_set_ne,Hp.get_new_ne,Hp.get_new_self,g1,g2,g3];first|done|rfl,by simp (disch:=(first|omega|(simp only[Hp.bump_n,Hp.znew_n,Hp.zset_n];omega))) only[Hp.bump_get,Hp.get_set_self,Hp.get_set_ne,Hp.get_new_ne,Hp.get_new_self,g1,g2,g3];first|done|rfl,by simp (disch:=(first|omega|(simp only[Hp.bump_n,Hp.znew_n,Hp.zset_n];omega))) only[Hp.bump_get,Hp.get_set_self,Hp.get_set_ne,Hp.get_new_ne,Hp.get_new_self,g1,g2,g3];first|done|rfl,hsx,by omega,by omega,by simp;omega,.inr ⟨_,rfl⟩,(zb9),zlq⟩
        ·have hs1:0<er.Shots.l.length:=List.length_pos_iff.2 hs0
         have hz:=Nat.zero_add er.Shots.l.length
         (have zx:=zA e0 (zA e3 (zA e4 (zA e8 (zA e9 (zA e10 (zA g1 (zA g2 (zA g3 (zA hlt (zA hs (zA ho (zA hf (zA hC (zA hs0 (zA hs1 hz)))))))))))))));refine zq28 ?_;try exact zT)
         repeat'(apply zK.s<;>intro hc<;>(try simp only[zhd]at hc)<;>(try have hw:=X0a hc)<;>(refine zq28 ?_;try exact zT))
         all_goals(try clear zx)
         all_goals first|(exfalso;cases hc;done)|(exfalso;omega)|skip
         exact⟨k,Nat.lt_succ_self k,{er with Shots:=⟨.own (q.n+1+1+19+1),er.Shots.l++[bodyShoot er.Body (nth er.Body.Mem o.A.toNat) (nth er.Body.Mem o.B.toNat)],nofun⟩},a+1,zev,zev,zev,zev,zev,by simp[put_at,Q0d];omega,by omega,by simp (disch:=(first|omega|(simp only[Hp.bump_n,Hp.znew_n,Hp.zset_n];omega))) only[Hp.bump_get,Hp.get_set_self,Hp.get_set_ne,Hp.get_new_ne,Hp.get_new_self,g1,g2,g3];first|done|rfl,by simp (disch:=(first|omega|(simp only[Hp.bump_n,Hp.znew_n,Hp.zset_n];omega))) only[Hp.bump_get,Hp.get_set_self,Hp.get_set_ne,Hp.get_new_ne,Hp.get_new_self,g1,g2,g3];first|done|rfl,by simp (disch:=(first|omega|(simp only[Hp.bump_n,Hp.znew_n,Hp.zset_n];omega))) only[Hp.bump_get,Hp.get_set_self,Hp.get_set_ne,Hp.get_new_ne,Hp.get_new_self,g1,g2,g3];first|done|rfl,hsx,by omega,by omega,by simp;omega,.inr ⟨_,rfl⟩,(zb9),zlq⟩
       ·have hd:=doOp_13 hdo hC
        obtain⟨rfl,rfl⟩:=hd
        (have zx:=zA e0 (zA e3 (zA e4 (zA e8 (zA e9 (zA e10 (zA g1 (zA g2 (zA g3 (zA hlt (zA hs (zA ho (zA hf hC))))))))))));refine zq28 ?_;try exact zT)
        repeat'(apply zK.s<;>intro hc<;>(try simp only[zhd]at hc)<;>(try have hw:=X0a hc)<;>(refine zq28 ?_;try exact zT))
        all_goals(try clear zx)
        exact⟨k,Nat.lt_succ_self k,er,(l.l.length:Int),zev,zev,zev,zev,zev,by simp[put_at,Q0d];omega,by omega,by simp (disch:=(first|omega|(simp only[Hp.bump_n,Hp.znew_n,Hp.zset_n];omega))) only[Hp.bump_get,Hp.get_set_self,Hp.get_set_ne,Hp.get_new_ne,Hp.get_new_self,g1,g2,g3];first|done|rfl,by simp (disch:=(first|omega|(simp only[Hp.bump_n,Hp.znew_n,Hp.zset_n];omega))) only[Hp.bump_get,Hp.get_set_self,Hp.get_set_ne,Hp.get_new_ne,Hp.get_new_self,g1,g2,g3];first|done|rfl,by simp (disch:=(first|omega|(simp only[Hp.bump_n,Hp.znew_n,Hp.zset_n];omega))) only[Hp.bump_get,Hp.get_set_self,Hp.get_set_ne,Hp.get_new_ne,Hp.get_new_self,g1,g2,g3];first|done|rfl,hst,by omega,by omega,by(try simp only);omega,htl,(zb9),zlq⟩
    ·(have zx:=zA e0 (zA e3 (zA e4 (zA e8 (zA e9 (zA e10 (zA g1 (zA g2 (zA g3 hlt))))))));refine zq28 ?_;try exact zT)
     repeat'(apply zK.s<;>intro hc<;>(try simp only[zhd]at hc)<;>(try have hw:=X0a hc)<;>(refine zq28 ?_;try exact zT))
     all_goals(try clear zx)
     have hr:Mach.run k ⟨partE er,l,a⟩=.ok ⟨partE er,l,a⟩:=by cases k<;>simp[Mach.run,hlt]
     rw[hR,<- hrun,hr]
     refine K0d hF zlq ?_
     have hw:=weak_envR er p.n htl
     simp only[CV.weak,CV.weakL]
     exact⟨hw,trivial,trivial,trivial,trivial⟩
  ·have hR:ruleRun l (ruleOf e)=(ruleOf e,⟨0,0⟩,false):=by unfold ruleRun;rw[if_pos (.inl (by rw[show(ruleOf e).Body=e.Body from rfl];simpa using hb)),hcp]
   (have zx:=hb;refine zq28 ?_;try exact zT)
   repeat'(apply zK.s<;>intro hc<;>(try simp only[zhd]at hc)<;>(try have hw:=X0a hc)<;>(refine zq28 ?_;try exact zT))
   all_goals(try clear zx)
   rw[hR]
   exact K0d hF zle (Y0c rfl (Z0c (hnt _ _ _)))
def R83: Rel:=fun args p r=>∃(o:K0c),args=[o.cv]/\r=.ret (Bo (!opRight o)) p
theorem t83{T:XCall}(h:Has T 55 R83)(o:K0c){p:Hp}:T 55 [o.cv] p=.ret (Bo (!opRight o)) p:=h _ _ _ ⟨o,rfl,rfl⟩
theorem zq83{A B:Prop}(k:B)(h:A=B:=by have zy:=zA @zw83<|zA @rs83<|zA @tt3<|zA @tt29<|zA ti3.eq_1<|zA ti29.eq_1<|zA @t_84<|@K0i;exact zQ): A:=h▸k
theorem zno83{P:Prop}(h:P:=by intro jj;simp[CV.has,CV.hasL,fault,Z0b.nohas,K0c.nohas]): P:=h
theorem c83: Con C 55 R83:=by
 refine K0e C ?_ ?_ ?_
 ·rintro args p r r' ⟨o,h,e⟩ ⟨o',h',e'⟩
  subst e;subst e';simp_all[K0c.inj_iff]
 ·rintro args p r ⟨o,h,rfl⟩;exact zr1
 ·rintro args p r ⟨o,rfl,rfl⟩
  refine zW C false [(56,R84)] ⟨c84,zT⟩ rfl xf83 zc83_ok fun call zh hF=>?_
  have t_84:=@t84 _ zh.1
  clear zh
  (have zx:=zT;refine zq83 ?_;try exact zT)
  repeat'(apply zK.s<;>intro hc<;>(try simp only[zhd,zhn]at hc)<;>(try have hw:=X0a hc)<;>(refine zq83 ?_;try exact zT))
  all_goals(try clear zx)
  all_goals refine K0d hF zle (Y0c ?_ (Z0c zno83))
  all_goals simp_all[opRight]
def J155(l:Lst K0c)(p:Hp)(n:Nat)(ρ:Env)(q:Hp): Prop:=
 ∃(k:Nat),n=l.l.length-k/\k<=l.l.length/\ρ 0=l.cv K0c.cv/\ρ 1=.fn 55 [] []/\ρ 7=I l.l.length/\ρ 8=I k/\firstW (fun o=>!opRight o) (l.l.drop k) k=firstW (fun o=>!opRight o) l.l 0/\HpLe p q
def R155: Rel:=fun args p r=>∃(l:Lst K0c),args=[l.cv K0c.cv,.fn 55 [] []]/\(l.l.length<=1000000)/\r=.ret (I (firstW (fun o=>!opRight o) l.l 0)) p
theorem t155{T:XCall}(h:Has T 71 R155)(l:Lst K0c){p:Hp}(hl:l.l.length<=1000000): T 71 [l.cv K0c.cv,.fn 55 [] []] p=.ret (I (firstW (fun o=>!opRight o) l.l 0)) p:=h _ _ _ ⟨l,rfl,hl,rfl⟩
theorem zq155{A B:Prop}(k:B)(h:A=B:=by have zy:=zA @zw155<|zA @rs155<|zA @tt3<|zA @tt23<|zA @tt29<|zA ti3.eq_1<|zA ti23.eq_1<|zA ti29.eq_1<|zA @t_83<|zA @K0i<|zA @zsl23<|@hl;exact zQ): A:=h▸k
theorem zno155{P:Prop}(h:P:=by intro jj;simp[CV.has,CV.hasL,fault,Z0b.nohas,K0c.nohas]): P:=h
theorem c155: Con C 71 R155:=by
 refine K0e C ?_ ?_ ?_
 ·rintro args p r r' ⟨l,h,hl,e⟩ ⟨l',h',hl',e'⟩
  subst e;subst e';simp_all[K0c.inj_iff,V0i]
 ·rintro args p r ⟨l,h,hl,rfl⟩;exact zr1
 ·rintro args p r ⟨l,rfl,hl,rfl⟩
  refine zW C false [(55,R83)] ⟨c83,zT⟩ rfl xf155 zc155_ok fun call zh hF=>?_
  have t_83:=@t83 _ zh.1
  clear zh
  (have zx:=zT;refine zq155 ?_;try exact zT)
  repeat'(apply zK.s<;>intro hc<;>(try simp only[zhd,zhn]at hc)<;>(try have hw:=X0a hc)<;>(refine zq155 ?_;try exact zT))
  all_goals(try clear zx)
  show W C false noExt call (ZC.block 0 (ZC.loop V1b)) _ _ (seqQ _ _)
  show W C false noExt call (ZC.loop V1b) _ _ _
  refine Q0i C false noExt call V1b _ _ _ (J155 l p) l.l.length ⟨0,rfl,by omega,(by simp[put_at,Q0d,Z0d]),(by simp[put_at,Q0d];rfl),(by simp[put_at,Q0d,Z0d]),(by simp[put_at,Q0d,Z0d]),by simp,zle⟩ ?_
  rintro n ρ q ⟨k,rfl,hk,e0,e1,e7,e8,hj,hle⟩
  by_cases hlt:(k:Int)<l.l.length
  ·have hd:=Z0r (l:=l.l) (k:=k) (by omega)
   rw[hd]at hj
   simp only[firstW]at hj
   cases hr:opRight (nth l.l k) with
   |true=>
    rw[if_neg (by simp[hr])]at hj
    (have zx:=zA e0 (zA e1 (zA e7 (zA e8 (zA hlt hr))));refine zq155 ?_;try exact zT)
    repeat'(apply zK.s<;>intro hc<;>(try simp only[zhd,zhn]at hc)<;>(try have hw:=X0a hc)<;>(refine zq155 ?_;try exact zT))
    all_goals(try clear zx)
    exact⟨l.l.length-(k+1),by omega,k+1,rfl,by omega,zev,zev,zev,zev,by simpa using hj,zlq⟩
   |false=>
    rw[if_pos (by simp[hr])]at hj
    (have zx:=zA e0 (zA e1 (zA e7 (zA e8 (zA hlt hr))));refine zq155 ?_;try exact zT)
    repeat'(apply zK.s<;>intro hc<;>(try simp only[zhd,zhn]at hc)<;>(try have hw:=X0a hc)<;>(refine zq155 ?_;try exact zT))
    all_goals(try clear zx)
    refine K0d hF zlq (Y0c ?_ (Z0c zno155))
    rw[<- hj]
  ·(have zx:=zA e0 (zA e1 (zA e7 (zA e8 hlt)));refine zq155 ?_;try exact zT)
   repeat'(apply zK.s<;>intro hc<;>(try simp only[zhd,zhn]at hc)<;>(try have hw:=X0a hc)<;>(refine zq155 ?_;try exact zT))
   all_goals(try clear zx)
   refine K0d hF zlq (Y0c ?_ (Z0c zno155))
   rw[<- hj,List.drop_eq_nil_of_le (by omega)];rfl
def R82: Rel:=fun args p r=>∃(l:Lst K0c),args=[l.cv K0c.cv,.fn 55 [] []]/\(l.l.length<=1000000)/\r=.ret (Bo (!l.l.all opRight)) p
theorem t82{T:XCall}(h:Has T 54 R82)(l:Lst K0c){p:Hp}(hl:l.l.length<=1000000): T 54 [l.cv K0c.cv,.fn 55 [] []] p=.ret (Bo (!l.l.all opRight)) p:=h _ _ _ ⟨l,rfl,hl,rfl⟩
theorem zq82{A B:Prop}(k:B)(h:A=B:=by have zy:=zA @zw82<|zA @rs82<|zA @tt3<|zA ti3.eq_1<|zA @t_155<|@hl;exact zQ): A:=h▸k
theorem zno82{P:Prop}(h:P:=by intro jj;simp[CV.has,CV.hasL,fault,Z0b.nohas]): P:=h
theorem c82: Con C 54 R82:=by
 refine K0e C ?_ ?_ ?_
 ·rintro args p r r' ⟨l,h,hl,e⟩ ⟨l',h',hl',e'⟩
  subst e;subst e';simp_all[V0i]
 ·rintro args p r ⟨l,h,hl,rfl⟩;exact zr1
 ·rintro args p r ⟨l,rfl,hl,rfl⟩
  refine zW C false [(71,R155)] ⟨c155,zT⟩ rfl xf82 zc82_ok fun call zh hF=>?_
  have t_155:=@t155 _ zh.1
  clear zh
  (have zx:=zT;refine zq82 ?_;try exact zT)
  repeat'(apply zK.s<;>intro hc<;>(try simp only[zhd,zhn]at hc)<;>(try have hw:=X0a hc)<;>(refine zq82 ?_;try exact zT))
  all_goals(try clear zx)
  refine K0d hF zle (Y0c ?_ (Z0c zno82))
  rw[<- any_opRight,<- X1n _ _ 0]
def R29: Rel:=fun args p r=>∃(l:Lst K0c),args=[l.cv K0c.cv]/\(l.l.length<=1000000)/\r=.ret (Bo (ruleRight l.l)) p
theorem t29{T:XCall}(h:Has T 29 R29)(l:Lst K0c){p:Hp}(hl:l.l.length<=1000000): T 29 [l.cv K0c.cv] p=.ret (Bo (ruleRight l.l)) p:=h _ _ _ ⟨l,rfl,hl,rfl⟩
theorem zq29{A B:Prop}(k:B)(h:A=B:=by have zy:=zA @zw29<|zA @rs29<|zA @tt3<|zA @tt23<|zA ti3.eq_1<|zA ti23.eq_1<|zA @t_82<|zA @K0i<|zA @zsl23<|@hl;exact zQ): A:=h▸k
theorem zno29{P:Prop}(h:P:=by intro jj;simp[CV.has,CV.hasL,fault,Z0b.nohas,K0c.nohas]): P:=h
theorem c29: Con C 29 R29:=by
 refine K0e C ?_ ?_ ?_
 ·rintro args p r r' ⟨l,h,hl,e⟩ ⟨l',h',hl',e'⟩
  subst e;subst e';simp_all[K0c.inj_iff,V0i]
 ·rintro args p r ⟨l,h,hl,rfl⟩;exact zr1
 ·rintro args p r ⟨l,rfl,hl,rfl⟩
  refine zW C false [(54,R82)] ⟨c82,zT⟩ rfl xf29 zc29_ok fun call zh hF=>?_
  have t_82:=@t82 _ zh.1
  clear zh
  by_cases h16:(l.l.length:Int)<=16
  ·(have zx:=h16;refine zq29 ?_;try exact zT)
   repeat'(apply zK.s<;>intro hc<;>(try simp only[zhd,zhn]at hc)<;>(try have hw:=X0a hc)<;>(refine zq29 ?_;try exact zT))
   all_goals(try clear zx)
   refine K0d hF zle (Y0c ?_ (Z0c zno29))
   have h':l.l.length<=16:=by omega
   simp[ruleRight,h']
  ·(have zx:=h16;refine zq29 ?_;try exact zT)
   repeat'(apply zK.s<;>intro hc<;>(try simp only[zhd,zhn]at hc)<;>(try have hw:=X0a hc)<;>(refine zq29 ?_;try exact zT))
   all_goals(try clear zx)
   refine K0d hF zle (Y0c ?_ (Z0c zno29))
   have h':¬l.l.length<=16:=by omega
   simp[ruleRight,h']
def J30(l:Lst K0c)(p:Hp)(n:Nat)(ρ:Env)(q:Hp): Prop:=
 ∃(k:Nat),n=l.l.length-k/\k<=l.l.length/\ρ 0=l.cv K0c.cv/\ρ 3=I k/\(l.l.drop k).all opRight=l.l.all opRight/\HpLe p q
def R30: Rel:=fun args p r=>∃(l:Lst K0c),args=[l.cv K0c.cv]/\(l.l.length<=1000000)/\r=.ret (Bo (ruleRight l.l)) p
theorem t30{T:XCall}(h:Has T 33 R30)(l:Lst K0c){p:Hp}(hl:l.l.length<=1000000): T 33 [l.cv K0c.cv] p=.ret (Bo (ruleRight l.l)) p:=h _ _ _ ⟨l,rfl,hl,rfl⟩
theorem zq30{A B:Prop}(k:B)(h:A=B:=by have zy:=zA @zw30<|zA @rs30<|zA @tt3<|zA @tt23<|zA @tt29<|zA ti3.eq_1<|zA ti23.eq_1<|zA ti29.eq_1<|zA @t_85<|zA @K0i<|zA @zsl23<|@hl;exact zQ): A:=h▸k
theorem zno30{P:Prop}(h:P:=by intro jj;simp[CV.has,CV.hasL,fault,Z0b.nohas,K0c.nohas]): P:=h
theorem c30: Con C 33 R30:=by
 refine K0e C ?_ ?_ ?_
 ·rintro args p r r' ⟨l,h,hl,e⟩ ⟨l',h',hl',e'⟩
  subst e;subst e';simp_all[K0c.inj_iff,V0i]
 ·rintro args p r ⟨l,h,hl,rfl⟩;exact zr1
 ·rintro args p r ⟨l,rfl,hl,rfl⟩
  refine zW C false [(31,R85)] ⟨c85,zT⟩ rfl xf30 zc30_ok fun call zh hF=>?_
  have t_85:=@t85 _ zh.1
  clear zh
  (have zx:=zT;refine zq30 ?_;try exact zT)
  repeat'(apply zK.s<;>intro hc<;>(try simp only[zhd,zhn]at hc)<;>(try have hw:=X0a hc)<;>(refine zq30 ?_;try exact zT))
  all_goals(try clear zx)
  show W C false noExt call (ZC.block 0 (ZC.loop zn30_7)) _ _ (seqQ _ _)
  show W C false noExt call (ZC.loop zn30_7) _ _ _
  refine Q0i C false noExt call zn30_7 _ _ _ (J30 l p) l.l.length ⟨0,rfl,by omega,(by simp[put_at,Q0d,Z0d]),(by simp[put_at,Q0d,Z0d]),by simp,zle⟩ ?_
  rintro n ρ q ⟨k,rfl,hk,e0,e3,hj,hle⟩
  by_cases hlt:(k:Int)<l.l.length
  ·have hd:=Z0r (l:=l.l) (k:=k) (by omega)
   rw[hd]at hj
   simp only[List.all_cons]at hj
   cases hw:opRight (nth l.l k) with
   |true=>
    have hw':=hw
    simp only[opRight,Bool.and_eq_true]at hw'
    obtain⟨⟨w1,w2⟩,w3⟩:=hw'
    rw[hw]at hj
    (have zx:=zA e0 (zA e3 (zA hlt (zA w1 (zA w2 w3))));refine zq30 ?_;try exact zT)
    repeat'(apply zK.s<;>intro hc<;>(try simp only[zhd,zhn]at hc)<;>(try have hw:=X0a hc)<;>(refine zq30 ?_;try exact zT))
    all_goals(try clear zx)
    exact⟨l.l.length-(k+1),by omega,k+1,rfl,by omega,zev,zev,by simpa using hj,zlq⟩
   |false=>
    rw[hw]at hj
    (have zx:=zA e0 (zA e3 hlt);refine zq30 ?_;try exact zT)
    repeat'(apply zK.s<;>intro hc<;>(try simp only[zhd,zhn]at hc)<;>(try have hw:=X0a hc)<;>(refine zq30 ?_;try exact zT))
    all_goals(try clear zx)
    all_goals first
     |(exfalso;simp_all[opRight];done)
     |(refine K0d hF zlq (Y0c ?_ (Z0c zno30));simp[ruleRight,<- hj];done)
  ·(have zx:=zA e0 (zA e3 hlt);refine zq30 ?_;try exact zT)
   repeat'(apply zK.s<;>intro hc<;>(try simp only[zhd,zhn]at hc)<;>(try have hw:=X0a hc)<;>(refine zq30 ?_;try exact zT))
   all_goals(try clear zx)
   refine K0d hF zlq (Y0c ?_ (Z0c zno30))
   rw[List.drop_eq_nil_of_le (by omega)]at hj
   simp[ruleRight,<- hj]<;>omega
end Go.Proofs.YtpchcfkebljopaaGreat
end
section
namespace Go.Proofs.YtpchcfkebljopaaGreat
open Go.Cl Go Go.RowKit
def ren(a J k:Nat): Nat:=if k=a then J else k
theorem Q1t{args:List CV}{p p' q0:Hp}{v u:CV}{J:Nat}{oT:XObj}(hF:Fine args p)(hn:q0.n=p.n)
  (hq:∀k o,q0.t.get k=some o->k<p.n/\k≠J/\((p.t.get k=some o/\p'.t.get k=some o)\/∃o',p'.t.get k=some o'/\XObj.weak (ren p.n J) (p.n+1) o' o))
  (hT:∃o',p'.t.get J=some o'/\XObj.weak (ren p.n J) (p.n+1) o' oT) (hv:CV.weak (ren p.n J) (p.n+1) v u):ShrR p (.ret v p') (.ret u (q0.new oT)):=by
 have hnn:(q0.new oT).n=p.n+1:=by rw[Hp.znew_n,hn]
 have hs:∀k,k<p.n->ren p.n J k=k:=fun k hk=>if_neg (Nat.ne_of_lt hk)
 have hsp:ren p.n J p.n=J:=if_pos rfl
 have hg:∀k o,(q0.new oT).t.get k=some o->(k=p.n/\o=oT)\/(k<p.n/\q0.t.get k=some o):=by
  intro k o h
  by_cases hk:k=q0.n
  ·subst hk;rw[Hp.get_new_self]at h;cases h;exact .inl ⟨hn,rfl⟩
  ·rw[Hp.get_new_ne _ _ hk]at h;exact .inr ⟨(hq k o h).1,h⟩
 refine⟨ren p.n J,⟨by rw[hnn];omega,hs,?_,?_⟩,by rw[hnn];exact hv⟩
 ·intro j k oj ok h1 h2 e
  rcases hg j oj h1 with⟨rfl,_⟩|⟨hj,hj'⟩<;>rcases hg k ok h2 with⟨rfl,_⟩|⟨hk,hk'⟩
  ·rfl
  ·rw[hsp,hs k hk]at e;exact absurd e.symm (hq k ok hk').2.1
  ·rw[hsp,hs j hj]at e;exact absurd e (hq j oj hj').2.1
  ·rw[hs j hj,hs k hk]at e;exact e
 ·intro k o h
  rw[hnn]
  rcases hg k o h with⟨rfl,rfl⟩|⟨hk,hk'⟩
  ·refine⟨Nat.lt_succ_self _,.inr ?_⟩
   rw[hsp];exact hT
  ·refine⟨Nat.lt_succ_of_lt hk,?_⟩
   rcases(hq k o hk').2.2 with h|h
   ·exact .inl ⟨hk,h.1,h.2⟩
   ·rw[hs k hk];exact .inr h
noncomputable def dropT(tl:Tail)(p:Hp): Hp:=match tl with|.own j=>p.set j none|_=>p
def frDice(f:X0b)(d:Int): X0b:={f with s_:={f.s_ with Dice:=d}}
def frShots(f:X0b)(j:Nat)(l:List Q0a): X0b:={f with shots:=⟨.own j,l,nofun⟩}
theorem weak_frame(f:X0b)(J n:Nat)(l:List Q0a)(h:∀j,f.c_.Rules.tl=.own j\/f.c_.Tokens.tl=.own j\/f.row.tl=.own j->j<n): CV.weak (ren n J) (n+1) (frShots f J l).cv (frShots f n l).cv:=by
 have hs:∀k,k<n->ren n J k=k:=fun k hk=>if_neg (Nat.ne_of_lt hk)
 have h1:CV.weak (ren n J) (n+1) f.c_.cv f.c_.cv:=CV.weak_refl _ fun j hj=>by
  have:=(K0a.has _ j).1 hj
  have:j<n:=h j (by rcases this with h|h<;>simp[h])
  exact⟨hs j this,by omega⟩
 have h2:CV.weak (ren n J) (n+1) f.s_.cv f.s_.cv:=CV.weak_refl _ fun j hj=>absurd hj (Y0a.nohas _ j)
 have h3:CV.weak (ren n J) (n+1) (Lst.cv Q0b.cv f.row) (Lst.cv Q0b.cv f.row):=CV.weak_refl _ fun j hj=>by
  have:=(Lst.has _ Q0b.nohas _ j).1 hj
  have:j<n:=h j (.inr (.inr this))
  exact⟨hs j this,by omega⟩
 have h4:CV.weakL (ren n J) (n+1) (l.map Q0a.cv) (l.map Q0a.cv):=CV.weakL_refl _ fun j hj=>(X0n Q0a.nohas l j hj).elim
 simp only[frShots,X0b.cv,CV.weak,CV.weakL]
 refine⟨h1,h2,h3,?_,trivial⟩
 simp only[Lst.cv,CV.weak,Tail.weak]
 exact⟨⟨(if_pos rfl).symm,Nat.lt_succ_self _⟩,h4⟩
theorem K1g(f:X0b)(J n:Nat)(l:List Q0a)(h:∀j,f.c_.Rules.tl=.own j\/f.c_.Tokens.tl=.own j\/f.row.tl=.own j->j<n): XObj.weak (ren n J) (n+1) (.var sh186 (frShots f J l).cv) (.var sh186 (frShots f n l).cv):=⟨rfl,weak_frame f J n l h⟩
theorem tdiv16{x:Int}(h:-64<=x/\x<=64): -4<=x.tdiv 16/\x.tdiv 16<=4:=by
 rcases Int.le_total 0 x with h0|h0
 ·rw[Int.tdiv_eq_ediv_of_nonneg h0];omega
 ·have:x.tdiv 16=-((-x).tdiv 16):=by rw[Int.neg_tdiv,Int.neg_neg]
  rw[this,Int.tdiv_eq_ediv_of_nonneg (by omega)];omega
theorem K0z(row:List Q0b)(o:Int): (0<=(rowInput row o).Buttons/\(rowInput row o).Buttons<=255)/\(-64<=(rowInput row o).X/\(rowInput row o).X<=64)/\(-64<=(rowInput row o).Y/\(rowInput row o).Y<=64):=by
 unfold rowInput
 split
 ·simp[K0b.zero]
 ·exact⟨Y0e (by omega),Y0e (by omega),Y0e (by omega)⟩
theorem run_len64: ∀(k:Nat) (m r:Z0a),Mach.run k m=.ok r->0<=m.at_->r.e_.Shots.l.length<=m.e_.Shots.l.length+k
 |k,m,r,h,ha=>by
  unfold Mach.run at h
  by_cases hlt:m.at_<m.l_.l.length
  ·rw[if_pos hlt]at h
   cases k with
   |zero=>cases h
   |succ k=>
    simp only at h
    cases hd:Mach.doOp m (nth m.l_.l m.at_.toNat) with
    |error c=>rw[hd]at h;cases h
    |ok x=>
     obtain⟨m2,n⟩:=x
     rw[hd]at h
     simp only at h
     have kk:=Mach.doOp_keeps hd ha hlt
     have:=run_len64 k _ r h kk.2.2.2.2.1
     simp only at this
     omega
  ·rw[if_neg hlt]at h;cases h;omega
theorem X04(L:List K0c)(e:Q0c): (runL L e).1.Shots.l.length<=e.Shots.l.length+64:=by
 have hc:(copiedE e).Shots.l.length=e.Shots.l.length:=by simp[copiedE,Y0y]
 unfold runL ruleRun
 split
 ·simp only[hc];omega
 ·cases hq:Mach.run 64 ⟨copiedE e,⟨.view,L,nofun⟩,0⟩ with
  |error c=>simp only[hc];omega
  |ok m=>have:=run_len64 64 _ m hq (by simp);simp only[hc]at this;exact this
def OwnT(i:Nat)(s:Lst Q0a)(p:Hp): Prop:=s.tl=.nil\/∃j,s.tl=.own j/\j≠i/\p.t.get j=some (.tail s.l.length)/\0<s.l.length
theorem OwnT_nil(i:Nat)(l:List Q0a)(o:_)(p:Hp): OwnT i ⟨.nil,l,o⟩ p:=.inl rfl
theorem OwnT_own{i j:Nat}{l:List Q0a}{o:_}{p:Hp}(h1:j≠i)(h2:p.t.get j=some (.tail l.length))(h3:0<l.length): OwnT i ⟨.own j,l,o⟩ p:=.inr ⟨j,rfl,h1,h2,h3⟩
theorem Z1i(rules:List K0c)(row:List Q0b)(dice room:Int)(b:Q0a): (playerTurn rules row dice room b).shots.length<=64:=by
 unfold playerTurn
 split
 ·have:=X04 rules (playerEnv row dice room b)
  simpa[playerEnv]using this
 ·simp
theorem X06(rules:List K0c)(row:List Q0b)(s:Y0a): ∀k,(turnsS rules row s k).2.length<=64*k
 |0=>by simp[turnsS]
 |k+1=>by
  have ih:=X06 rules row s k
  have hb:∀d r,(bodyTurn rules row d r (nth s.Bodies k)).shots.length<=64:=by
   intro d r
   unfold bodyTurn
   split
   ·exact Z1i ..
   ·simp
  simp only[turnsS,turnStep,List.length_append]
  have:=hb (turnsS rules row s k).1.Dice (freeN (turnsS rules row s k).1.Bodies-(turnsS rules row s k).2.length)
  omega
noncomputable def frTurns(f:X0b): X0b:={f with s_:=(turnsS f.c_.Rules.l f.row.l f.s_ 16).1,shots:=partL (turnsS f.c_.Rules.l f.row.l f.s_ 16).2}
theorem Q1f(c:K0a)(st:Y0a)(row:Lst Q0b)(sh:Lst Q0a)(n:Nat)(h:∀j,c.Rules.tl=.own j\/c.Tokens.tl=.own j\/row.tl=.own j->j<n)(happ:sh.tl=.nil\/(∃j,sh.tl=.own j)/\0<sh.l.length): XObj.weak (fun k=>k) n (.var sh186 (X0b.mk c st row sh).cv) (.var sh186 (X0b.mk c st row (partL sh.l)).cv):=by
 have h1:CV.weak (fun k=>k) n c.cv c.cv:=Y0d fun j hj=>h j (by rcases(K0a.has _ j).1 hj with h|h<;>simp[h])
 have h2:CV.weak (fun k=>k) n st.cv st.cv:=Y0d (Z0c (Y0a.nohas _))
 have h3:CV.weak (fun k=>k) n (Lst.cv Q0b.cv row) (Lst.cv Q0b.cv row):=Y0d fun j hj=>h j (.inr (.inr ((Lst.has _ Q0b.nohas _ j).1 hj)))
 have h4:=X0x (f:=Q0a.cv) Q0a.nohas sh n happ
 refine⟨rfl,?_⟩
 simp only[X0b.cv,CV.weak,CV.weakL]
 exact⟨h1,h2,h3,h4,trivial⟩
theorem Q0l{α:Type}[Inhabited α]{l:List α}{k j:Nat}{x:α}(h:j≠k): nth (l.set k x) j=nth l j:=by
 simp only[nth,List.getElem?_set_ne (Ne.symm h)]
theorem V0m{α:Type}[Inhabited α]{l:List α}{k:Nat}{x:α}(h:k<l.length): nth (l.set k x) k=x:=by
 simp[nth,h]
theorem Y1n(st:Y0a×List Q0a): ∀(k j:Nat),k<=j->nth (setsS st k).1.Bodies j=nth st.1.Bodies j
 |0,j,_=>rfl
 |k+1,j,h=>by
  have ih:=Y1n st k j (by omega)
  simp only[setsS,setStep]
  split
  ·exact ih
  ·split
   ·simp only[Y0a.put_2k];rw[Q0l (by omega)];exact ih
   ·exact ih
theorem Q1b{α:Type}[Inhabited α](f:α->Bool): ∀(l:List α) (k:Nat),firstW f l k=-1\/∃j,j<l.length/\firstW f l k=((k+j:Nat):Int)/\f (nth l j)=true
 |[],k=>.inl rfl
 |x::l,k=>by
  by_cases h:f x=true
  ·exact .inr ⟨0,by simp,by simp[firstW,h],by simpa[nth]using h⟩
  ·rcases Q1b f l (k+1)with e|⟨j,hj,e,hf⟩
   ·left;simp[firstW,h,e]
   ·exact .inr ⟨j+1,by simp;omega,by rw[show firstW f (x::l) k=firstW f l (k+1) by simp[firstW,h],e];congr 1;omega,by simpa[nth]using hf⟩
theorem struck_spec(l:List Q0a)(b:Q0a): struckL l b=-1\/∃j,j<l.length/\struckL l b=(j:Int)/\(nth l j).Kind=1/\bodyHit (nth l j) b=true:=by
 rcases Q1b (fun a:Q0a=>decide (a.Kind=1)&&bodyHit a b) l 0 with h|⟨j,hj,e,hf⟩
 ·exact .inl h
 ·refine .inr ⟨j,hj,by unfold struckL;rw[e];simp,?_⟩
  simpa using hf
structure HitOk(s:Y0a): Prop where
 own:∀j,j<16->(nth s.Bodies j).Kind=2->0<=(nth s.Bodies j).Owner/\(nth s.Bodies j).Owner<=7
 score:∀j,j<8->0<=nth s.Score j/\nth s.Score j<=2147483647
theorem HitOk.put{s:Y0a}(h:HitOk s)(k:Nat)(b:Q0a)(hb:b.Kind=2->0<=b.Owner/\b.Owner<=7): HitOk (s.put_2k k b):=by
 refine⟨fun j hj=>?_,h.score⟩
 show(nth (s.Bodies.set k b) j).Kind=2->_/\(nth (s.Bodies.set k b) j).Owner<=7
 by_cases e:j=k
 ·subst e
  show _->0<=(nth (s.Bodies.set j b) j).Owner/\_
  rw[V0m (by rw[s.hBodies];exact hj)];exact hb
 ·show _->0<=(nth (s.Bodies.set k b) j).Owner/\_
  rw[Q0l e];exact h.own j hj
theorem HitOk.putS{s:Y0a}(h:HitOk s)(k:Nat)(n:Int)(hn:0<=n/\n<=2147483647): HitOk (s.put_3k k n):=by
 refine⟨h.own,fun j hj=>?_⟩
 show 0<=nth (s.Score.set k n) j/\nth (s.Score.set k n) j<=_
 by_cases e:j=k
 ·subst e;rw[V0m (by rw[s.hScore];exact hj)];exact hn
 ·rw[Q0l e];exact h.score j hj
theorem hitStep_ok(players:Int){s:Y0a}(h:HitOk s){k:Nat}(hk:k<16): HitOk (hitStep players s k):=by
 unfold hitStep
 simp only
 split
 ·exact h
 ·rename_i hK
  have hK:(nth s.Bodies k).Kind=2:=by simpa using hK
  split
  ·exact h
  ·have ho:=h.own k hk hK
   refine HitOk.put (HitOk.put (HitOk.putS h _ _ ?_) _ _ (by simp[Q0a.zero])) _ _ (by simp[again,bodyBorn])
   have:=h.score (nth s.Bodies k).Owner.toNat (by omega)
   omega
theorem Z1r(players:Int){s:Y0a}(h:HitOk s): ∀k,k<=16->HitOk (hitsS players s k)
 |0,_=>h
 |k+1,hk=>hitStep_ok players (Z1r players h k (by omega)) (by omega)
theorem qslice_tl(C:Ctx){α:Type}(f:α->CV){t e:TypeId}{sh:Shape}{b:Nat}{z:CV}{te:TI}(ht:C.tt t=some ⟨.base (.slice e),sh,b,z⟩)(hte:C.tt e=some te)(hsh:∀x,(f x).shape=te.sh)(h:Heap)(x:α)(m:List α)(o:_):
  qslice C h t (Lst.cv f ⟨.part,x::m,o⟩) (some (I 1)) none none=some (Lst.cv f ⟨.part,m,nofun⟩):=by
 simp only[qslice,ht,hte,Lst.cv]
 rw[if_pos (by simp[hsh])]
 simp only[qbnd,List.length_map,List.length_cons,List.map_cons]
 rw[if_pos (by omega)]
 have:(List.map f m).take m.length=List.map f m:=List.take_of_length_le (by simp)
 simp[this]
noncomputable def frSets(f:X0b): X0b:={f with s_:=(setsS (f.s_,f.shots.l) 16).1,shots:=⟨.view,(setsS (f.s_,f.shots.l) 16).2,nofun⟩}
noncomputable def frHits(f:X0b): X0b:={f with s_:=hitsS f.c_.Players f.s_ 16}
theorem K1f(c:K0a)(st:Y0a)(row:Lst Q0b)(sh:Lst Q0a)(l:List Q0a)(hl:sh.l=l)(n:Nat)(h:∀j,c.Rules.tl=.own j\/c.Tokens.tl=.own j\/row.tl=.own j->j<n): XObj.weak (fun k=>k) n (.var sh186 (X0b.mk c st row sh).cv) (.var sh186 (X0b.mk c st row ⟨.view,l,nofun⟩).cv):=by
 have h1:CV.weak (fun k=>k) n c.cv c.cv:=Y0d fun j hj=>h j (by rcases(K0a.has _ j).1 hj with h|h<;>simp[h])
 have h2:CV.weak (fun k=>k) n st.cv st.cv:=Y0d (Z0c (Y0a.nohas _))
 have h3:CV.weak (fun k=>k) n (Lst.cv Q0b.cv row) (Lst.cv Q0b.cv row):=Y0d fun j hj=>h j (.inr (.inr ((Lst.has _ Q0b.nohas _ j).1 hj)))
 have h4:CV.weakL (fun k=>k) n (l.map Q0a.cv) (l.map Q0a.cv):=CV.weakL_refl _ fun j hj=>(X0n Q0a.nohas l j hj).elim
 subst hl
 refine⟨rfl,?_⟩
 simp only[X0b.cv,CV.weak,CV.weakL]
 refine⟨h1,h2,h3,?_,trivial⟩
 simp only[Lst.cv,CV.weak]
 exact⟨by cases sh.tl<;>simp[Tail.weak],h4⟩
theorem Q1m: Body.right Q0a.zero=true:=by decide
theorem K07{a v:Int}(hv:-64<=v/\v<=64): (0<=(bounce a v).1/\(bounce a v).1<=4095)/\(-64<=(bounce a v).2/\(bounce a v).2<=64):=by
 have hb:=Y0e (n:=a) (lo:=0) (hi:=4095) (by omega)
 unfold bounce
 split
 ·rename_i h;rw[h]at hb;exact⟨hb,hv⟩
 ·have:w64 (-v)=-v:=Y0x (by omega) (by omega)
  simp only[this];exact⟨hb,by omega⟩
theorem V1p{b:Q0a}(h:Body.right b=true): Body.right (bodyMove b).1=true/\((bodyMove b).1=Q0a.zero/\b.Kind≠1\/(bodyMove b).1.Kind=b.Kind/\(bodyMove b).1.Owner=b.Owner):=by
 by_cases hk:b.Kind=0
 ·have:bodyMove b=(Q0a.zero,false):=by simp[bodyMove,hk]
  rw[this];exact⟨Q1m,.inl ⟨rfl,by omega⟩⟩
 ·have r:=(Q0h hk).1 h
  obtain⟨r1,r2,r3,r4,r5,r6,r7,r8,r9⟩:=r
  unfold bodyMove
  rw[if_pos ⟨h,hk⟩]
  have hx:=K07 (a:=b.X+b.VX) r6
  have hy:=K07 (a:=b.Y+b.VY) r7
  split
  ·rename_i h1
   exact⟨(Q0h (by simpa using hk)).2 ⟨r1,r2,r3,hx.1,hy.1,hx.2,hy.2,by simp only;omega,r9⟩,.inr ⟨rfl,rfl⟩⟩
  ·rename_i h1
   split
   ·exact⟨Q1m,.inl ⟨rfl,h1⟩⟩
   ·rename_i h2
    simp only[not_or,Bool.not_eq_false]at h2
    have w1:=X0a h2.2.1
    have w2:=X0a h2.2.2
    exact⟨(Q0h (by simpa using hk)).2 ⟨r1,r2,r3,w1,w2,r6,r7,by simp only;omega,r9⟩,.inr ⟨rfl,rfl⟩⟩
theorem push_right{b:Q0a}(h:Body.right b=true)(hk:b.Kind≠0)(x y:Int): Body.right (bodyPush b x y)=true/\(bodyPush b x y).Kind=b.Kind/\(bodyPush b x y).Owner=b.Owner:=by
 obtain⟨r1,r2,r3,r4,r5,r6,r7,r8,r9⟩:=(Q0h hk).1 h
 unfold bodyPush
 rw[if_pos ⟨h,hk⟩]
 exact⟨(Q0h (by simpa using hk)).2 ⟨r1,r2,r3,r4,r5,Y0e (by omega),Y0e (by omega),r8,r9⟩,rfl,rfl⟩
theorem K09(rules:List K0c)(row:List Q0b)(dice room:Int){b:Q0a}(h:Body.right b=true)(hk:b.Kind=1)(hr:0<=room):
  Body.right (playerTurn rules row dice room b).body=true/\(playerTurn rules row dice room b).body.Kind=1/\(playerTurn rules row dice room b).body.Owner=b.Owner /\
  ((playerTurn rules row dice room b).shots.length:Int)<=room/\∀s∈(playerTurn rules row dice room b).shots,Body.right s=true/\s.Kind=2/\s.Owner=b.Owner:=by
 have hp:=push_right h (by omega) ((rowInput row b.Owner).X.tdiv 16) ((rowInput row b.Owner).Y.tdiv 16)
 have hek:(playerEnv row dice room b).Body.Kind≠0:=by show(bodyPush _ _ _).Kind≠0;rw[hp.2.1];omega
 have hi:InvE (playerEnv row dice room b) (copiedE (playerEnv row dice room b)):=by
  refine⟨hp.1,rfl,rfl,rfl,rfl,rfl,rfl,?_,?_⟩
  ·simpa[copiedE,Y0y,playerEnv]using hr
  ·intro s hs;simp[copiedE,Y0y,playerEnv]at hs
 have iv:=run_inv hek 64 ⟨copiedE (playerEnv row dice room b),⟨.view,rules,nofun⟩,0⟩ hi (by simp)
 unfold playerTurn
 by_cases ho:(runL rules (playerEnv row dice room b)).2.2=true
 ·simp only[ho,if_true]
  have hq:∃m,Mach.run 64 ⟨copiedE (playerEnv row dice room b),⟨.view,rules,nofun⟩,0⟩=.ok m/\(runL rules (playerEnv row dice room b)).1=m.e_:=by
   unfold runL ruleRun at ho ⊢
   split at ho
   ·cases ho
   ·rename_i hn
    rw[if_neg hn]
    cases hm:Mach.run 64 ⟨copiedE (playerEnv row dice room b),⟨.view,rules,nofun⟩,0⟩ with
    |error c=>rw[hm]at ho;cases ho
    |ok m=>exact⟨m,rfl,rfl⟩
  obtain⟨m,hm,he⟩:=hq
  rw[hm]at iv
  rw[he]
  have hb1:(playerEnv row dice room b).Body.Kind=1:=by show(bodyPush _ _ _).Kind=1;rw[hp.2.1,hk]
  have hb2:(playerEnv row dice room b).Body.Owner=b.Owner:=hp.2.2
  exact⟨iv.right,by rw[iv.kind,hb1],by rw[iv.owner,hb2],iv.len,fun s hs=>⟨(iv.shots s hs).1,(iv.shots s hs).2.1,by rw[(iv.shots s hs).2.2,hb2]⟩⟩
 ·simp only[ho,Bool.false_eq_true,if_false]
  obtain⟨r1,r2,r3,r4,r5,r6,r7,r8,r9⟩:=(Q0h (by omega)).1 h
  refine⟨(Q0h (by simp only;omega)).2 ⟨r1,r2,r3,r4,r5,r6,r7,r8,by simp only;omega⟩,hk,trivial,by simpa using hr,by simp⟩
theorem freeN_set{l:List Q0a}{k:Nat}{x:Q0a}(hk:k<l.length)(h:(nth l k).Kind=0->x.Kind=0): freeN l<=freeN (l.set k x):=by
 induction l generalizing k with
 |nil=>simp at hk
 |cons a l ih=>
  cases k with
  |zero=>
   have h:a.Kind=0->x.Kind=0:=h
   simp only[List.set_cons_zero,freeN,List.filter_cons]
   by_cases ha:a.Kind=0
   ·simp[ha,h ha]
   ·simp only[ha,decide_false,Bool.false_eq_true,if_false]
    by_cases hx:x.Kind=0
    ·simp only[hx,decide_true,if_true,List.length_cons];omega
    ·simp[hx]
  |succ k=>
   have:=ih (k:=k) (by simpa using hk) h
   simp only[List.set_cons_succ,freeN,List.filter_cons]at this ⊢
   by_cases ha:a.Kind=0
   ·simp only[ha,decide_true,if_true,List.length_cons];omega
   ·simpa[ha]using this
def Placed(players:Int)(l:List Q0a): Prop:=∀k,k<16->rightAt players k (nth l k)=true
theorem X0t{players:Int}{k:Nat}{b:Q0a}(h:rightAt players k b=true): Body.right b=true:=by
 simp only[rightAt,Bool.and_eq_true]at h;exact h.1
structure TurnOk(players:Int)(was:List Q0a)(k:Nat)(st:Y0a×List Q0a): Prop where
 placed:Placed players st.1.Bodies
 rest:∀j,k<=j->nth st.1.Bodies j=nth was j
 shots:∀s∈st.2,Body.right s=true/\s.Kind=2/\s.Owner<players
 room:st.2.length<=freeN st.1.Bodies
theorem rightAt_move{players:Int}{k:Nat}{b b':Q0a}(h:rightAt players k b=true)(hr:Body.right b'=true)(hk:b'.Kind=b.Kind)(ho:b'.Owner=b.Owner): rightAt players k (bodyMove b').1=true:=by
 have hm:=V1p hr
 unfold rightAt at h ⊢
 simp only[Bool.and_eq_true]at h ⊢
 refine⟨hm.1,?_⟩
 by_cases hp:(k:Int)<players
 ·rw[if_pos hp]at h ⊢
  simp only[Bool.and_eq_true,decide_eq_true_eq]at h ⊢
  rcases hm.2 with⟨_,h2⟩|⟨h1,h2⟩
  ·omega
  ·rw[h1,h2,hk,ho];exact h.2
 ·rw[if_neg hp]at h ⊢
  simp only[Bool.or_eq_true,Bool.and_eq_true,decide_eq_true_eq]at h ⊢
  rcases hm.2 with⟨h1,_⟩|⟨h1,h2⟩
  ·left;rw[h1];rfl
  ·rw[h1,h2,hk,ho];exact h.2
theorem Z1j(rules:List K0c)(row:List Q0b)(dice room:Int){b:Q0a}(h:Body.right b=true)(hr:0<=room):
  Body.right (bodyTurn rules row dice room b).body=true/\(bodyTurn rules row dice room b).body.Kind=b.Kind/\(bodyTurn rules row dice room b).body.Owner=b.Owner /\
  ((bodyTurn rules row dice room b).shots.length:Int)<=room/\∀s∈(bodyTurn rules row dice room b).shots,Body.right s=true/\s.Kind=2/\s.Owner=b.Owner/\b.Kind=1:=by
 unfold bodyTurn
 split
 ·rename_i hk
  obtain⟨h1,h2,h3,h4,h5⟩:=K09 rules row dice room h hk hr
  exact⟨h1,by rw[h2,hk],h3,h4,fun s hs=>⟨(h5 s hs).1,(h5 s hs).2.1,(h5 s hs).2.2,hk⟩⟩
 ·exact⟨h,rfl,rfl,by simpa using hr,by simp⟩
theorem turnStep_ok{players:Int}(rules:List K0c)(row:List Q0b){was:List Q0a}{k:Nat}(hk:k<16){st:Y0a×List Q0a}(h:TurnOk players was k st): TurnOk players was (k+1) (turnStep rules row was st k):=by
 have hb:=st.1.hBodies
 have hw:=h.rest k (Nat.le_refl _)
 have hpl:=h.placed k hk
 rw[hw]at hpl
 have hroom:(0:Int)<=(freeN st.1.Bodies:Int)-st.2.length:=by have:=h.room;omega
 obtain⟨t1,t2,t3,t4,t5⟩:=Z1j rules row st.1.Dice (freeN st.1.Bodies-st.2.length) (X0t hpl) hroom
 have hmv:=rightAt_move hpl t1 t2 t3
 have hm:=V1p t1
 refine⟨fun j hj=>?_,fun j hj=>?_,fun s hs=>?_,?_⟩
 ·show rightAt players j (nth (st.1.Bodies.set k _) j)=true
  by_cases e:j=k
  ·subst e;rw[V0m (by omega)];exact hmv
  ·rw[Q0l e];exact h.placed j hj
 ·show nth (st.1.Bodies.set k _) j=_
  rw[Q0l (by omega)];exact h.rest j (by omega)
 ·rcases List.mem_append.1 hs with h1|h1
  ·exact h.shots s h1
  ·obtain⟨a1,a2,a3,a4⟩:=t5 s h1
   refine⟨a1,a2,?_⟩
   rw[a3]
   unfold rightAt at hpl
   simp only[Bool.and_eq_true]at hpl
   have:=hpl.2
   by_cases hp:(k:Int)<players
   ·rw[if_pos hp]at this;simp only[Bool.and_eq_true,decide_eq_true_eq]at this;omega
   ·rw[if_neg hp]at this;simp only[Bool.or_eq_true,Bool.and_eq_true,decide_eq_true_eq]at this;omega
 ·show(st.2++_).length<=freeN (st.1.Bodies.set k _)
  rw[List.length_append]
  have hf:=freeN_set (l:=st.1.Bodies) (k:=k) (x:=(bodyMove (bodyTurn rules row st.1.Dice (freeN st.1.Bodies-st.2.length) (nth was k)).body).1) (by omega) (fun h0=>by
   rw[hw]at h0
   rcases hm.2 with⟨e,_⟩|⟨e,_⟩
   ·rw[e];rfl
   ·rw[e,t2];exact h0)
  omega
theorem Z1a{players:Int}(rules:List K0c)(row:List Q0b){s:Y0a}(h:Placed players s.Bodies): ∀k,k<=16->TurnOk players s.Bodies k (turnsS rules row s k)
 |0,_=>⟨h,fun _ _=>rfl,by simp[turnsS],by simp[turnsS]⟩
 |k+1,hk=>turnStep_ok rules row (by omega) (Z1a rules row h k (by omega))
structure SetOk(players:Int)(st:Y0a×List Q0a): Prop where
 placed:Placed players st.1.Bodies
 shots:∀s∈st.2,Body.right s=true/\s.Kind=2/\s.Owner<players
theorem setStep_ok{players:Int}{st:Y0a×List Q0a}(h:SetOk players st){k:Nat}(hk:k<16): SetOk players (setStep st k):=by
 have hb:=st.1.hBodies
 unfold setStep
 split
 ·exact h
 ·rename_i x sh he
  split
  ·rename_i h0
   have hx:=h.shots x (by rw[he];simp)
   refine⟨fun j hj=>?_,fun s hs=>h.shots s (by rw[he];simp[hs])⟩
   show rightAt players j (nth (st.1.Bodies.set k x) j)=true
   by_cases e:j=k
   ·subst e
    rw[V0m (by omega)]
    have hp:=h.placed j hj
    unfold rightAt at hp ⊢
    simp only[Bool.and_eq_true]at hp ⊢
    refine⟨hx.1,?_⟩
    have hp:=hp.2
    by_cases hpl:(j:Int)<players
    ·rw[if_pos hpl]at hp;simp only[Bool.and_eq_true,decide_eq_true_eq]at hp;omega
    ·rw[if_neg hpl];simp[hx.2.1,hx.2.2]
   ·rw[Q0l e];exact h.placed j hj
  ·exact h
theorem setsS_ok{players:Int}{st:Y0a×List Q0a}(h:SetOk players st): ∀k,k<=16->SetOk players (setsS st k)
 |0,_=>h
 |k+1,hk=>setStep_ok (setsS_ok h k (by omega)) (by omega)
theorem K0s(rules:List K0c)(row:List Q0b)(s:Y0a): ∀k,(turnsS rules row s k).1.Score=s.Score/\(turnsS rules row s k).1.Frame=s.Frame
 |0=>⟨rfl,rfl⟩
 |k+1=>K0s rules row s k
theorem Y0u(st:Y0a×List Q0a): ∀k,(setsS st k).1.Score=st.1.Score/\(setsS st k).1.Frame=st.1.Frame/\(setsS st k).1.Dice=st.1.Dice
 |0=>⟨rfl,rfl,rfl⟩
 |k+1=>by
  have ih:=Y0u st k
  simp only[setsS,setStep]
  split
  ·exact ih
  ·split
   ·exact ih
   ·exact ih
theorem placed_hit{players:Int}{s:Y0a}(h:Placed players s.Bodies)(hs:∀j,j<8->0<=nth s.Score j/\nth s.Score j<=2147483647): HitOk s:=by
 refine⟨fun j hj hk=>?_,hs⟩
 have hr:=X0t (h j hj)
 have:=Z0f hr (by omega)
 exact this.1
theorem V0j{c:K0a}{s:Y0a}(h:stateRight c s=true): Placed c.Players s.Bodies/\(∀j,j<8->scoreAt c.Players j (nth s.Score j)=true)/\legalC c=true/\0<=s.Frame/\s.Frame<=600:=by
 simp only[stateRight,Bool.and_eq_true]at h
 obtain⟨⟨⟨h1,h2⟩,h3⟩,h4⟩:=h
 rw[Y07]at h1 h2
 refine⟨fun k hk=>?_,fun j hj=>?_,h3,X0a h4⟩
 ·have:=h1 k (by rw[s.hBodies];exact hk);simpa using this
 ·have:=h2 j (by rw[s.hScore];exact hj);simpa using this
theorem score_range{players:Int}{j:Nat}{n:Int}(h:scoreAt players j n=true): 0<=n/\n<=2147483647:=by
 simp only[scoreAt,Bool.and_eq_true]at h;exact X0a h.1
theorem step_hit{c:K0a}{s:Y0a}(h:stateRight c s=true)(row:List Q0b): HitOk (setsS (turnsS c.Rules.l row s 16) 16).1:=by
 obtain⟨h1,h2,_,_⟩:=V0j h
 have ht:=Z1a c.Rules.l row h1 16 (Nat.le_refl _)
 have hs:=setsS_ok (st:=turnsS c.Rules.l row s 16) ⟨ht.placed,ht.shots⟩ 16 (Nat.le_refl _)
 refine placed_hit hs.placed fun j hj=>?_
 rw[(Y0u _ 16).1,(K0s _ _ _ 16).1]
 exact score_range (h2 j hj)
def firstK(c:K0a): Nat->Y0a
 |0=>{Y0a.zero with Dice:=seedOf c.Seed}
 |k+1=>(firstK c k).put_2k k (bodyBorn k c.Players)
def firstS(c:K0a): Y0a:=if legalC c=true then firstK c c.Players.toNat else Y0a.zero
theorem Z0k{c:K0a}(h:legalC c=true): (1<=c.Players/\c.Players<=8)/\c.Rules.l.length<=16:=by
 simp only[legalC,Bool.and_eq_true]at h
 refine⟨X0a h.1.1.1.1.1,?_⟩
 have:=h.1.2
 simp only[ruleRight,Bool.and_eq_true,decide_eq_true_eq]at this
 exact this.1
theorem partL_tl{α:Type}(l:List α): (partL l).tl=.nil\/(partL l).tl=.part:=by
 unfold partL
 split<;>simp
theorem partL_l{α:Type}(l:List α): (partL l).l=l:=by
 unfold partL
 split
 ·rename_i h;rw[h]
 ·rfl
theorem frTurns_tl(f:X0b): (frTurns f).shots.tl=.nil\/(frTurns f).shots.tl=.part:=by
 simp only[frTurns];exact partL_tl _
theorem frTurns_l(f:X0b): (frTurns f).shots.l=(turnsS f.c_.Rules.l f.row.l f.s_ 16).2:=by
 simp only[frTurns];exact partL_l _
theorem right_all{c:K0a}{s:Y0a}(h:stateRight c s=true): ∀b∈s.Bodies,Body.right b=true:=by
 intro b hb
 obtain⟨i,hi,rfl⟩:=List.getElem_of_mem hb
 have:=(V0j h).1 i (by rw[<- s.hBodies];exact hi)
 rw[V0x hi]at this
 exact X0t this
def frOf(c:K0a)(s:Y0a)(row:Lst Q0b): X0b:=⟨c,s,row,⟨.nil,[],fun _=>rfl⟩⟩
theorem frSets_s(c:K0a)(s:Y0a)(row:Lst Q0b): (frSets (frTurns (frOf c s row))).s_=(setsS (turnsS c.Rules.l row.l s 16) 16).1:=by
 simp only[frSets,frTurns_l]
 simp only[frTurns,frOf]
theorem Q05(p:Int)(t:Y0a): ∀k,(hitsS p t k).Frame=t.Frame
 |0=>rfl
 |k+1=>by
  have ih:=Q05 p t k
  simp only[hitsS,hitStep]
  split
  ·exact ih
  ·split
   ·exact ih
   ·exact ih
theorem frHits_s(c:K0a)(s:Y0a)(row:Lst Q0b): (frHits (frSets (frTurns (frOf c s row)))).s_=hitsS c.Players (setsS (turnsS c.Rules.l row.l s 16) 16).1 16:=by
 simp only[frHits,frSets_s]
 simp only[frSets,frTurns,frOf]
theorem frHits_frame(c:K0a)(s:Y0a)(row:Lst Q0b): (frHits (frSets (frTurns (frOf c s row)))).s_.Frame=s.Frame:=by
 rw[frHits_s,Q05,(Y0u _ 16).2.1,(K0s _ _ _ 16).2]
theorem stepS_of{c:K0a}{s:Y0a}(row:Lst Q0b)(h:stateRight c s=true): stepS c row.l s={(frHits (frSets (frTurns (frOf c s row)))).s_ with Frame:=min ((frHits (frSets (frTurns (frOf c s row)))).s_.Frame+1) 600}:=by
 rw[frHits_s]
 unfold stepS
 rw[h]
 simp only[Bool.true_eq_false,if_false]
def freeF(b:Q0a): Bool:=decide (b.Kind=0)
def placeOne(s:Y0a)(x:Q0a): Y0a:=if firstW freeF s.Bodies 0<0 then s else s.put_2k (firstW freeF s.Bodies 0).toNat x
def placeAll(s:Y0a)(l:List Q0a): Y0a:=l.foldl placeOne s
theorem V0o{α:Type}[Inhabited α](f:α->Bool){l:List α}{k:Nat}(h:k<l.length): firstW f (l.drop k) k=if f (nth l k)=true then(k:Int)else firstW f (l.drop (k+1)) (k+1):=by
 rw[Z0r h];rfl
theorem Q00{α:Type}[Inhabited α](f:α->Bool)(l:List α): ∀k,k<=l.length->(∀j,j<k->f (nth l j)=false)->firstW f (l.drop k) k=firstW f l 0
 |0,_,_=>rfl
 |k+1,hk,h=>by
  rw[<- Q00 f l k (by omega) fun j hj=>h j (by omega),V0o f (by omega:k<l.length),if_neg (by rw[h k (by omega)];simp)]
theorem firstW_here{α:Type}[Inhabited α](f:α->Bool)(l:List α){k:Nat}(hk:k<l.length)(h:∀j,j<k->f (nth l j)=false)(hf:f (nth l k)=true): firstW f l 0=k:=by
 rw[<- Q00 f l k (by omega) h,V0o f hk,if_pos hf]
theorem firstW_none{α:Type}[Inhabited α](f:α->Bool)(l:List α)(h:∀j,j<l.length->f (nth l j)=false): firstW f l 0=-1:=by
 rw[<- Q00 f l l.length (Nat.le_refl _) h,List.drop_length];rfl
theorem V02{s:Y0a}(h:∀j,j<16->(nth s.Bodies j).Kind≠0): ∀l,placeAll s l=s
 |[]=>rfl
 |x::l=>by
  have hp:placeOne s x=s:=by
   unfold placeOne
   rw[firstW_none freeF s.Bodies (fun j hj=>by simp[freeF,h j (by rw[s.hBodies]at hj;exact hj)]),if_pos (by omega)]
  show placeAll (placeOne s x) l=s
  rw[hp];exact V02 h l
theorem place_inv(s:Y0a)(sh:List Q0a)(h:∀x∈sh,x.Kind≠0): ∀k,k<=16->placeAll (setsS (s,sh) k).1 (setsS (s,sh) k).2=placeAll s sh/\(∀x∈(setsS (s,sh) k).2,x.Kind≠0)/\((setsS (s,sh) k).2=[]\/∀j,j<k->(nth (setsS (s,sh) k).1.Bodies j).Kind≠0)
 |0,_=>⟨rfl,h,.inr fun j hj=>absurd hj (by omega)⟩
 |k+1,hk=>by
  obtain⟨h1,h2,h3⟩:=place_inv s sh h k (by omega)
  show placeAll (setStep (setsS (s,sh) k) k).1 (setStep (setsS (s,sh) k) k).2=_/\(∀x∈(setStep (setsS (s,sh) k) k).2,_)/\((setStep (setsS (s,sh) k) k).2=[]\/∀j,j<k+1->(nth (setStep (setsS (s,sh) k) k).1.Bodies j).Kind≠0)
  generalize setsS (s,sh) k=st at h1 h2 h3
  obtain⟨t,l⟩:=st
  cases l with
  |nil=>exact⟨h1,h2,.inl rfl⟩
  |cons x l=>
   have h3:∀j,j<k->(nth t.Bodies j).Kind≠0:=h3.resolve_left (by simp)
   have hb:=t.hBodies
   simp only[setStep]
   by_cases h0:(nth t.Bodies k).Kind=0
   ·rw[if_pos h0]
    have hf:firstW freeF t.Bodies 0=k:=firstW_here freeF t.Bodies (by omega) (fun j hj=>by simp[freeF,h3 j hj]) (by simp[freeF,h0])
    refine⟨?_,fun y hy=>h2 y (by simp[hy]),.inr fun j hj=>?_⟩
    ·rw[<- h1]
     show _=placeAll (placeOne t x) l
     unfold placeOne
     rw[hf,if_neg (by omega)];rfl
    ·show(nth (t.Bodies.set k x) j).Kind≠0
     by_cases e:j=k
     ·subst e;rw[V0m (by omega)];exact h2 x (by simp)
     ·rw[Q0l e];exact h3 j (by omega)
   ·rw[if_neg h0]
    refine⟨h1,h2,.inr fun j hj=>?_⟩
    by_cases e:j=k
    ·subst e;exact h0
    ·exact h3 j (by omega)
theorem place_sets(s:Y0a)(sh:List Q0a)(h:∀x∈sh,x.Kind≠0): (setsS (s,sh) 16).1=placeAll s sh:=by
 obtain⟨h1,_,h3⟩:=place_inv s sh h 16 (by omega)
 rw[<- h1]
 rcases h3 with h3|h3
 ·rw[h3];rfl
 ·exact(V02 h3 _).symm
theorem X03(s:Y0a)(l:List Q0a)(x:Q0a): placeAll s (l++[x])=placeOne (placeAll s l) x:=by simp[placeAll]
theorem X1b{α:Type}[Inhabited α]{l:List α}{k:Nat}(h:k<l.length): l.take (k+1)=l.take k++[nth l k]:=by
 rw[List.take_add_one,V0v h];rfl
theorem hit_swap{x b:Q0a}(h1:x.Kind=1)(h2:b.Kind=2): bodyHit b x=bodyHit x b:=by simp[bodyHit,h1,h2]
def strikeF(b:Q0a)(a:Q0a): Bool:=decide (a.Kind=1)&&bodyHit a b
def HitAt(players:Int)(s:Y0a)(i k:Nat)(t:Y0a): Prop:=
 (t=s/\firstW (strikeF (nth s.Bodies i)) (s.Bodies.drop k) k=struckL s.Bodies (nth s.Bodies i))\/(t=hitStep players s i/\(nth t.Bodies i).Kind≠2)
theorem HitAt.start(players:Int)(s:Y0a)(i:Nat): HitAt players s i 0 s:=.inl ⟨rfl,rfl⟩
theorem HitAt.ended{players:Int}{s:Y0a}{i k:Nat}{t:Y0a}(h:HitAt players s i k t)(he:(nth t.Bodies i).Kind≠2\/k=16): t=hitStep players s i:=by
 rcases h with⟨rfl,h⟩|⟨h,_⟩
 ·unfold hitStep
  simp only
  by_cases hK:(nth t.Bodies i).Kind=2
  ·have hk:k=16:=he.resolve_left (by simp[hK])
   rw[hk,List.drop_eq_nil_of_le (by rw[t.hBodies];omega)]at h
   rw[if_neg (by simp[hK]),<- h,if_pos (by simp[firstW])]
  ·rw[if_pos hK]
 ·exact h
theorem HitAt.miss{players:Int}{s:Y0a}{i k:Nat}{t:Y0a}(h:HitAt players s i k t)(hk:k<16)(hK:(nth t.Bodies i).Kind=2)(hx:strikeF (nth t.Bodies i) (nth t.Bodies k)=false): HitAt players s i (k+1) t:=by
 rcases h with⟨rfl,h⟩|⟨_,h⟩
 ·refine .inl ⟨rfl,?_⟩
  rw[V0o _ (by rw[t.hBodies];omega),if_neg (by rw[hx];simp)]at h
  exact h
 ·exact absurd hK h
theorem HitAt.hit{players:Int}{s:Y0a}{i k:Nat}{t:Y0a}(h:HitAt players s i k t)(hi:i<16)(hk:k<16)(hK:(nth t.Bodies i).Kind=2)(hx:strikeF (nth t.Bodies i) (nth t.Bodies k)=true):
  t=s/\HitAt players s i (k+1) (((t.put_3k (nth t.Bodies i).Owner.toNat (min (nth t.Score (nth t.Bodies i).Owner.toNat+1) 2147483647)).put_2k i Q0a.zero).put_2k k (again players (nth t.Bodies k))):=by
 rcases h with⟨rfl,h⟩|⟨_,h⟩
 ·refine⟨rfl,.inr ?_⟩
  rw[V0o _ (by rw[t.hBodies];omega),if_pos hx]at h
  have hx1:(nth t.Bodies k).Kind=1:=by simp only[strikeF,Bool.and_eq_true,decide_eq_true_eq]at hx;exact hx.1
  have hne:k≠i:=by intro e;subst e;omega
  have hb:=t.hBodies
  have hn:nth (t.Bodies.set i Q0a.zero) k=nth t.Bodies k:=Q0l hne
  have hs:hitStep players t i=(((t.put_3k (nth t.Bodies i).Owner.toNat (min (nth t.Score (nth t.Bodies i).Owner.toNat+1) 2147483647)).put_2k i Q0a.zero).put_2k k (again players (nth t.Bodies k))):=by
   unfold hitStep
   simp only
   rw[if_neg (by simp[hK]),<- h,if_neg (by omega)]
   simp only[Int.toNat_natCast]
   show Y0a.put_2k _ k (again players (nth (t.Bodies.set i Q0a.zero) k))=_
   rw[hn]
  refine⟨hs.symm,?_⟩
  show(nth ((t.Bodies.set i Q0a.zero).set k _) i).Kind≠2
  rw[Q0l (Ne.symm hne),V0m (by omega)]
  simp[Q0a.zero]
 ·exact absurd hK h
def PlaceAt(s:Y0a)(x:Q0a)(k:Nat)(d:Bool)(t:Y0a): Prop:=
 (d=false/\t=s/\firstW freeF (s.Bodies.drop k) k=firstW freeF s.Bodies 0)\/(d=true/\t=placeOne s x)
theorem PlaceAt.start(s:Y0a)(x:Q0a): PlaceAt s x 0 false s:=.inl ⟨rfl,rfl,rfl⟩
theorem PlaceAt.ended{s:Y0a}{x:Q0a}{k:Nat}{d:Bool}{t:Y0a}(h:PlaceAt s x k d t)(he:d=true\/k=16): t=placeOne s x:=by
 rcases h with⟨rfl,rfl,h⟩|⟨_,h⟩
 ·have hk:k=16:=he.resolve_left (by simp)
  rw[hk,List.drop_eq_nil_of_le (by rw[t.hBodies];omega)]at h
  unfold placeOne
  rw[<- h,if_pos (by simp[firstW])]
 ·exact h
theorem PlaceAt.miss{s:Y0a}{x:Q0a}{k:Nat}{t:Y0a}(h:PlaceAt s x k false t)(hk:k<16)(hK:(nth t.Bodies k).Kind≠0): PlaceAt s x (k+1) false t:=by
 rcases h with⟨_,rfl,h⟩|⟨h,_⟩
 ·refine .inl ⟨rfl,rfl,?_⟩
  rw[V0o _ (by rw[t.hBodies];omega),if_neg (by simp[freeF,hK])]at h
  exact h
 ·cases h
theorem PlaceAt.hit{s:Y0a}{x:Q0a}{k:Nat}{t:Y0a}(h:PlaceAt s x k false t)(hk:k<16)(hK:(nth t.Bodies k).Kind=0): PlaceAt s x (k+1) true (t.put_2k k x):=by
 rcases h with⟨_,rfl,h⟩|⟨h,_⟩
 ·refine .inr ⟨rfl,?_⟩
  rw[V0o _ (by rw[t.hBodies];omega),if_pos (by simp[freeF,hK])]at h
  unfold placeOne
  rw[<- h,if_neg (by omega)];rfl
 ·cases h
theorem step_place{c:K0a}{s:Y0a}(h:stateRight c s=true)(row:List Q0b): (setsS (turnsS c.Rules.l row s 16) 16).1=placeAll (turnsS c.Rules.l row s 16).1 (turnsS c.Rules.l row s 16).2:=by
 have ht:=(Z1a c.Rules.l row (V0j h).1 16 (Nat.le_refl _)).shots
 exact place_sets _ _ fun x hx=>by rw[(ht x hx).2.1];omega
theorem freeN_le(s:Y0a): freeN s.Bodies<=16:=by
 have:=List.length_filter_le (fun b:Q0a=>decide (b.Kind=0)) s.Bodies
 rw[s.hBodies]at this;exact this
theorem K1d(players:Int)(k:Nat)(b:Q0a): rightAt players k b=true ↔ Body.right b=true/\(b.Kind=0\/¬players<=b.Owner)/\(decide (b.Kind=1)=decide ((k:Int)<players))/\(¬(k:Int)<players\/b.Owner=k):=by
 have hk3:Body.right b=true->b.Kind=0\/b.Kind=1\/b.Kind=2:=fun h=>by
  by_cases h0:b.Kind=0
  ·exact .inl h0
  ·exact .inr (Z0f h h0).2.2.2.2.2.2.2
 unfold rightAt
 rw[Bool.and_eq_true]
 refine and_congr_right fun h1=>?_
 have h3:=hk3 h1
 by_cases hp:(k:Int)<players
 ·rw[if_pos hp]
  simp only[Bool.and_eq_true,decide_eq_true_eq,hp,decide_true]
  constructor
  ·rintro⟨a,e⟩;exact⟨.inr (by omega),a,.inr e⟩
  ·rintro⟨_,a,e⟩
   refine⟨a,?_⟩
   rcases e with e|e
   ·exact absurd trivial e
   ·exact e
 ·rw[if_neg hp]
  simp only[Bool.or_eq_true,Bool.and_eq_true,decide_eq_true_eq,hp,decide_false,decide_eq_false_iff_not]
  constructor
  ·rintro(a|⟨a,e⟩)
   ·exact⟨.inl a,by omega,.inl (by simp)⟩
   ·exact⟨.inr (by omega),by omega,.inl (by simp)⟩
  ·rintro⟨a,e,_⟩
   rcases h3 with h|h|h
   ·exact .inl h
   ·exact absurd h e
   ·exact .inr ⟨h,by omega⟩
theorem tok_step{l:List Int}{i:Nat}(h:i<l.length): tokGo (l.take i) (l.drop i)=(within (nth l i) 0 2147483646&&!(l.take i).contains (nth l i)&&tokGo (l.take (i+1)) (l.drop (i+1))):=by
 rw[Z0r h,X1b h];rfl
theorem tok_in{l:List Int}{i k:Nat}(hk:k<i)(hi:i<l.length)(h:nth l k=nth l i): tokGo (l.take i) (l.drop i)=false:=by
 rw[tok_step hi]
 have:(l.take i).contains (nth l i)=true:=by
  rw[List.contains_iff_mem,<- h,V0x (by omega:k<l.length)]
  exact List.mem_take_iff_getElem.2 ⟨k,by omega,rfl⟩
 rw[this];simp
theorem tok_out{l:List Int}{i:Nat}(hi:i<l.length)(h:∀k,k<i->nth l k≠nth l i): (l.take i).contains (nth l i)=false:=by
 cases e:(l.take i).contains (nth l i) with
 |false=>rfl
 |true=>
  rw[List.contains_iff_mem]at e
  obtain⟨k,hk,he⟩:=List.mem_take_iff_getElem.1 e
  have hk2:k<i:=by omega
  exact absurd (by rw[V0x (by omega:k<l.length)];exact he) (h k hk2)
end Go.Proofs.YtpchcfkebljopaaGreat
end
section
namespace Go.Proofs.YtpchcfkebljopaaGreat
open Go.Cl Go Go.RowKit
set_option maxRecDepth 100000
set_option linter.constructorNameAsVariable false
def J97(c:K0a)(p:Hp)(n:Nat)(ρ:Env)(q:Hp): Prop:=
 ∃(i:Nat),n=c.Tokens.l.length-i/\i<=c.Tokens.l.length/\ρ 1=.ptr p.n []/\ρ 3=I i/\q.t.get p.n=some (.var sh61 c.cv)/\tokGo (c.Tokens.l.take i) (c.Tokens.l.drop i)=tokGo [] c.Tokens.l/\p.n<q.n/\HpLe p q
def L97(c:K0a)(p:Hp)(i:Nat)(n:Nat)(ρ:Env)(q:Hp): Prop:=
 ∃(k:Nat),n=i-k/\k<=i/\ρ 1=.ptr p.n []/\ρ 3=I i/\ρ 4=I k/\q.t.get p.n=some (.var sh61 c.cv)/\(∀j,j<k->nth c.Tokens.l j≠nth c.Tokens.l i)/\p.n<q.n/\HpLe p q
def R97: Rel:=fun args p r=>∃(c:K0a),args=[c.cv]/\(c.Tokens.l.length<=1000000)/\(c.Rules.l.length<=1000000)/\r=.ret (Bo (legalC c)) p
theorem t97{T:XCall}(h:Has T 10 R97)(c:K0a){p:Hp}(hl:c.Tokens.l.length<=1000000)(hr:c.Rules.l.length<=1000000): T 10 [c.cv] p=.ret (Bo (legalC c)) p:=h _ _ _ ⟨c,rfl,hl,hr,rfl⟩
theorem zq97{A B:Prop}(k:B)(h:A=B:=by have zy:=zA @zw97<|zA @rs97<|zA @tt3<|zA @tt23<|zA @tt24<|zA @tt59<|zA @tt61<|zA ti3.eq_1<|zA ti23.eq_1<|zA ti24.eq_1<|zA ti59.eq_1<|zA ti61.eq_1<|zA @t_85<|zA @t_162<|zA @t_30<|zA @X0e<|zA @zsl23<|zA @zsl24<|zA @hl<|@hr;exact zQ): A:=h▸k
theorem zno97{P:Prop}(h:P:=by intro jj;simp[CV.has,CV.hasL,fault,Z0b.nohas]): P:=h
theorem zge97{P:Prop}(h:P:=by simp (disch:=first|exact zdl|fail) only[zheap];first|done|rfl): P:=h
theorem c97: Con C 10 R97:=by
 refine K0e C ?_ ?_ ?_
 ·rintro args p r r' ⟨c,h,hl,hr,e⟩ ⟨c',h',hl',hr',e'⟩
  subst e;subst e';simp_all[K0a.inj_iff,V0i,X0p]
 ·rintro args p r ⟨c,h,hl,hr,rfl⟩;exact zr1
 ·rintro args p r ⟨c,rfl,hl,hr,rfl⟩
  refine zW C false [(31,R85),(32,R162),(33,R30)] ⟨c85,c162,c30,zT⟩ rfl xf97 zc97_ok fun call zh hF=>?_
  have t_85:=@t85 _ zh.1
  have t_162:=@t162 _ zh.2.1
  have t_30:=@t30 _ zh.2.2.1
  clear zh
  (have zx:=zT;refine zq97 ?_;try exact zT)
  repeat'(apply zK.s<;>intro hc<;>(try simp only[zhd]at hc)<;>(try have hw:=X0a hc)<;>(refine zq97 ?_;try exact zT))
  all_goals(try clear zx)
  (show W C false noExt call (ZC.loop zn97_7) _ _ _);refine Q0i C false noExt call zn97_7 _ _ _ (J97 c p) c.Tokens.l.length ⟨0,rfl,by omega,(by simp[put_at,Q0d,Z0d]),(by simp[put_at,Q0d,Z0d]),zge97,rfl,(zb9),zle⟩ ?_
  rintro n ρ q ⟨i,rfl,hi,e1,e3,g1,hj,hn,hle⟩
  by_cases hlt:(i:Int)<c.Tokens.l.length
  ·(have zx:=zA e1 (zA e3 (zA g1 hlt));refine zq97 ?_;try exact zT)
   repeat'(apply zK.s<;>intro hc<;>(try simp only[zhd]at hc)<;>(try have hw:=X0a hc)<;>(refine zq97 ?_;try exact zT))
   all_goals(try clear zx)
   (show W C false noExt call (ZC.loop X1w) _ _ _);refine Q0i C false noExt call X1w _ _ _ (L97 c p i) i ⟨0,rfl,by omega,zev,zev,zev,g1,by omega,hn,hle⟩ ?_
   clear e1 e3 g1 hn hle
   rintro n ρ q ⟨k,rfl,hk,e1,e3,e4,g1,hne,hn,hle⟩
   by_cases hlk:(k:Int)<i
   ·by_cases he:nth c.Tokens.l k=nth c.Tokens.l i
    ·have hf:=tok_in (l:=c.Tokens.l) (i:=i) (k:=k) (by omega) (by omega) he
     rw[hf]at hj
     (have zx:=zA e1 (zA e3 (zA e4 (zA g1 (zA hlk he))));refine zq97 ?_;try exact zT)
     repeat'(apply zK.s<;>intro hc<;>(try simp only[zhd]at hc)<;>(try have hw:=X0a hc)<;>(refine zq97 ?_;try exact zT))
     all_goals(try clear zx)
     refine K0d hF zlq (Y0c ?_ (Z0c zno97))
     simp[legalC,<- hj]
    ·(have zx:=zA e1 (zA e3 (zA e4 (zA g1 (zA hlk he))));refine zq97 ?_;try exact zT)
     repeat'(apply zK.s<;>intro hc<;>(try simp only[zhd]at hc)<;>(try have hw:=X0a hc)<;>(refine zq97 ?_;try exact zT))
     all_goals(try clear zx)
     refine⟨i-(k+1),by omega,k+1,rfl,by omega,zev,zev,zev,by simp only[Hp.bump_get];exact g1,fun j hj=>?_,by simp only[Hp.bump_n];omega,zlq⟩
     by_cases ej:j=k
     ·rw[ej];exact he
     ·exact hne j (by omega)
   ·have hk2:k=i:=by omega
    subst hk2
    have ho:=tok_out (l:=c.Tokens.l) (i:=k) (by omega) hne
    rw[tok_step (by omega),ho]at hj
    cases hw:within (nth c.Tokens.l k) 0 2147483646 with
    |false=>
     rw[hw]at hj
     (have zx:=zA e1 (zA e3 (zA e4 (zA g1 (zA hlk hw))));refine zq97 ?_;try exact zT)
     repeat'(apply zK.s<;>intro hc<;>(try simp only[zhd]at hc)<;>(try have hw:=X0a hc)<;>(refine zq97 ?_;try exact zT))
     all_goals(try clear zx)
     refine K0d hF zlq (Y0c ?_ (Z0c zno97))
     simp[legalC,<- hj]
    |true=>
     rw[hw]at hj
     simp only[Bool.true_and,Bool.not_false]at hj
     (have zx:=zA e1 (zA e3 (zA e4 (zA g1 (zA hlk hw))));refine zq97 ?_;try exact zT)
     repeat'(apply zK.s<;>intro hc<;>(try simp only[zhd]at hc)<;>(try have hw:=X0a hc)<;>(refine zq97 ?_;try exact zT))
     all_goals(try clear zx)
     exact⟨c.Tokens.l.length-(k+1),by omega,k+1,rfl,by omega,zev,zev,g1,hj,hn,hle⟩
  ·have hk2:i=c.Tokens.l.length:=by omega
   rw[hk2,List.drop_eq_nil_of_le (Nat.le_refl _)]at hj
   have hj:tokGo [] c.Tokens.l=true:=hj.symm
   (have zx:=zA e1 (zA e3 (zA g1 hlt));refine zq97 ?_;try exact zT)
   repeat'(apply zK.s<;>intro hc<;>(try simp only[zhd]at hc)<;>(try have hw:=X0a hc)<;>(refine zq97 ?_;try exact zT))
   all_goals(try clear zx)
   all_goals refine K0d hF zlq (Y0c ?_ (Z0c zno97))
   all_goals simp[legalC, *]
def J66(c:K0a)(p:Hp)(n:Nat)(ρ:Env)(q:Hp): Prop:=
 ∃(k:Nat),n=c.Players.toNat-k/\k<=c.Players.toNat/\ρ 1=.ptr p.n []/\ρ 2=.ptr (p.n+1) []/\ρ 3=.ptr (p.n+2) []/\ρ 4=I k/\q.t.get p.n=some (.var sh61 c.cv)/\q.t.get (p.n+1)=some (.var sh66 Y0a.zero.cv)/\q.t.get (p.n+2)=some (.var sh66 (firstK c k).cv)/\p.n+2<q.n/\HpLe p q
def R66: Rel:=fun args p r=>∃(c:K0a),args=[c.cv]/\(c.Tokens.l.length<=1000000)/\(c.Rules.l.length<=1000000)/\r=.ret (firstS c).cv p
theorem t66{T:XCall}(h:Has T 14 R66)(c:K0a){p:Hp}(hl:c.Tokens.l.length<=1000000)(hr:c.Rules.l.length<=1000000): T 14 [c.cv] p=.ret (firstS c).cv p:=h _ _ _ ⟨c,rfl,hl,hr,rfl⟩
theorem zq66{A B:Prop}(k:B)(h:A=B:=by have zy:=zA @zw66<|zA @rs66<|zA @tt3<|zA @tt25<|zA @tt34<|zA @tt61<|zA @tt63<|zA @tt66<|zA ti3.eq_1<|zA ti25.eq_1<|zA ti34.eq_1<|zA ti61.eq_1<|zA ti63.eq_1<|zA ti66.eq_1<|zA @t_97<|zA @t_141<|zA @t_142<|zA @X0e<|zA @Q0f<|zA @Q0e<|zA @zsl63<|zA @hl<|@hr;exact zQ): A:=h▸k
theorem zno66{P:Prop}(h:P:=by intro jj;simp[CV.has,CV.hasL,fault,Z0b.nohas,Y0a.nohas,Q0a.nohas]): P:=h
theorem zge66{P:Prop}(h:P:=by simp (disch:=first|exact zdl|fail) only[zheap];first|done|rfl): P:=h
theorem c66: Con C 14 R66:=by
 refine K0e C ?_ ?_ ?_
 ·rintro args p r r' ⟨c,h,hl,hr,e⟩ ⟨c',h',hl',hr',e'⟩
  subst e;subst e';simp_all[K0a.inj_iff,Y0a.inj_iff,Q0a.inj_iff]
 ·rintro args p r ⟨c,h,hl,hr,rfl⟩;exact zr1
 ·rintro args p r ⟨c,rfl,hl,hr,rfl⟩
  refine zW C false [(10,R97),(38,R141),(39,R142)] ⟨c97,c141,c142,zT⟩ rfl xf66 zc66_ok fun call zh hF=>?_
  have t_97:=@t97 _ zh.1
  have t_141:=@t141 _ zh.2.1
  have t_142:=@t142 _ zh.2.2.1
  clear zh
  cases hL:legalC c with
  |false=>
   (have zx:=hL;refine zq66 ?_;try exact zT)
   repeat'(apply zK.s<;>intro hc<;>(try simp only[zhd]at hc)<;>(try have hw:=X0a hc)<;>(refine zq66 ?_;try exact zT))
   all_goals(try clear zx)
   refine K0d hF zle (Y0c ?_ (Z0c zno66))
   simp[firstS,hL]
  |true=>
   have hP:=(Z0k hL).1
   have hPn:((c.Players.toNat:Nat):Int)=c.Players:=by omega
   (have zx:=hL;refine zq66 ?_;try exact zT)
   repeat'(apply zK.s<;>intro hc<;>(try simp only[zhd]at hc)<;>(try have hw:=X0a hc)<;>(refine zq66 ?_;try exact zT))
   all_goals(try clear zx)
   (show W C false noExt call (ZC.loop Y1z) _ _ _);refine Q0i C false noExt call Y1z _ _ _ (J66 c p) c.Players.toNat ⟨0,rfl,by omega,(by simp[put_at,Q0d,Z0d]),(by simp[put_at,Q0d,Z0d]),(by simp[put_at,Q0d,Z0d]),(by simp[put_at,Q0d,Z0d]),zge66,zge66,zge66,(zb9),zle⟩ ?_
   rintro n ρ q ⟨k,rfl,hk,e1,e2,e3,e4,g1,g2,g3,hn,hle⟩
   by_cases hlt:(k:Int)<c.Players
   ·have hbk:=(firstK c k).hBodies
    have hk8:k<8:=by omega
    (have zx:=zA e1 (zA e2 (zA e3 (zA e4 (zA g1 (zA g2 (zA g3 hlt))))));refine zq66 ?_;try exact zT)
    repeat'(apply zK.s<;>intro hc<;>(try simp only[zhd]at hc)<;>(try have hw:=X0a hc)<;>(refine zq66 ?_;try exact zT))
    all_goals(try clear zx)
    exact⟨c.Players.toNat-(k+1),by omega,k+1,rfl,by omega,zev,zev,zev,zev,zg9,zg9,zg9,zb9,zlq⟩
   ·have hk8:k=c.Players.toNat:=by omega
    subst hk8
    (have zx:=zA e1 (zA e2 (zA e3 (zA e4 (zA g1 (zA g2 (zA g3 hlt))))));refine zq66 ?_;try exact zT)
    repeat'(apply zK.s<;>intro hc<;>(try simp only[zhd]at hc)<;>(try have hw:=X0a hc)<;>(refine zq66 ?_;try exact zT))
    all_goals(try clear zx)
    refine K0d hF zlq (Y0c ?_ (Z0c zno66))
    simp[firstS,hL]
def J38(c:K0a)(s:Y0a)(p:Hp)(n:Nat)(ρ:Env)(q:Hp): Prop:=
 ∃(k:Nat),n=16-k/\k<=16/\ρ 2=.ptr p.n []/\ρ 3=.ptr (p.n+1) []/\ρ 5=I k/\q.t.get p.n=some (.var sh61 c.cv)/\q.t.get (p.n+1)=some (.var sh66 s.cv)/\allFrom (rightAt c.Players) (s.Bodies.drop k) k=allFrom (rightAt c.Players) s.Bodies 0/\p.n+1<q.n/\HpLe p q
def L38(c:K0a)(s:Y0a)(p:Hp)(n:Nat)(ρ:Env)(q:Hp): Prop:=
 ∃(k:Nat),n=8-k/\k<=8/\ρ 2=.ptr p.n []/\ρ 3=.ptr (p.n+1) []/\ρ 7=I k/\q.t.get p.n=some (.var sh61 c.cv)/\q.t.get (p.n+1)=some (.var sh66 s.cv)/\allFrom (scoreAt c.Players) (s.Score.drop k) k=allFrom (scoreAt c.Players) s.Score 0/\p.n+1<q.n/\HpLe p q
def R38: Rel:=fun args p r=>∃(c:K0a) (s:Y0a),args=[c.cv,s.cv]/\(c.Tokens.l.length<=1000000)/\(c.Rules.l.length<=1000000)/\r=.ret (Bo (stateRight c s)) p
theorem t38{T:XCall}(h:Has T 12 R38)(c:K0a)(s:Y0a){p:Hp}(hl:c.Tokens.l.length<=1000000)(hr:c.Rules.l.length<=1000000): T 12 [c.cv,s.cv] p=.ret (Bo (stateRight c s)) p:=h _ _ _ ⟨c,s,rfl,hl,hr,rfl⟩
theorem zq38{A B:Prop}(k:B)(h:A=B:=by have zy:=zA @zw38<|zA @rs38<|zA @tt3<|zA @tt4<|zA @tt34<|zA @tt61<|zA @tt63<|zA @tt64<|zA @tt66<|zA ti3.eq_1<|zA ti4.eq_1<|zA ti34.eq_1<|zA ti61.eq_1<|zA ti63.eq_1<|zA ti64.eq_1<|zA ti66.eq_1<|zA @t_97<|zA @t_85<|zA @t_75<|zA @X0e<|zA @Q0f<|zA @Q0e<|zA @zsl63<|zA @zsl64<|zA @hl<|@hr;exact zQ): A:=h▸k
theorem zno38{P:Prop}(h:P:=by intro jj;simp[CV.has,CV.hasL,fault,Z0b.nohas,Y0a.nohas,Q0a.nohas]): P:=h
theorem zge38{P:Prop}(h:P:=by simp (disch:=first|exact zdl|fail) only[zheap];first|done|rfl): P:=h
theorem c38: Con C 12 R38:=by
 refine K0e C ?_ ?_ ?_
 ·rintro args p r r' ⟨c,s,h,hl,hr,e⟩ ⟨c',s',h',hl',hr',e'⟩
  subst e;subst e';simp_all[K0a.inj_iff,Y0a.inj_iff,Q0a.inj_iff]
 ·rintro args p r ⟨c,s,h,hl,hr,rfl⟩;exact zr1
 ·rintro args p r ⟨c,s,rfl,hl,hr,rfl⟩
  refine zW C false [(10,R97),(31,R85),(35,R75)] ⟨c97,c85,c75,zT⟩ rfl xf38 zc38_ok fun call zh hF=>?_
  have t_97:=@t97 _ zh.1
  have t_85:=@t85 _ zh.2.1
  have t_75:=@t75 _ zh.2.2.1
  clear zh
  have hb:=s.hBodies
  have hsc:=s.hScore
  by_cases hok:legalC c=true/\within s.Frame 0 600=true
  ·obtain⟨hL,hfw⟩:=hok
   (have zx:=zA hL hfw;refine zq38 ?_;try exact zT)
   repeat'(apply zK.s<;>intro hc<;>(try simp only[zhd]at hc)<;>(try have hw:=X0a hc)<;>(refine zq38 ?_;try exact zT))
   all_goals(try clear zx)
   (show W C false noExt call (ZC.loop X1s) _ _ _);refine Q0i C false noExt call X1s _ _ _ (J38 c s p) 16 ⟨0,rfl,by omega,(by simp[put_at,Q0d,Z0d]),(by simp[put_at,Q0d,Z0d]),(by simp[put_at,Q0d,Z0d]),zge38,zge38,rfl,(zb9),zle⟩ ?_
   rintro n ρ q ⟨k,rfl,hk,e2,e3,e5,g1,g2,hj,hn,hle⟩
   by_cases hlt:(k:Int)<16
   ·rw[X0r _ (l:=s.Bodies) (k:=k) (by omega)]at hj
    generalize hbb:nth s.Bodies k=b at hj
    cases hw:rightAt c.Players k b with
    |false=>
     rw[hw]at hj
     have hne:¬rightAt c.Players k b=true:=by rw[hw];simp
     rw[K1d]at hne
     by_cases hK:b.Kind=0
     ·have hn2:¬(Body.right b=true/\¬(k:Int)<c.Players):=fun h=>hne ⟨h.1,.inl hK,by simp[hK,h.2],.inl h.2⟩
      (have zx:=zA e2 (zA e3 (zA e5 (zA g1 (zA g2 (zA hlt (zA hbb hK))))));refine zq38 ?_;try exact zT)
      repeat'(apply zK.s<;>intro hc<;>(try simp only[zhd]at hc)<;>(try have hw:=X0a hc)<;>(refine zq38 ?_;try exact zT))
      all_goals(try clear zx)
      all_goals first
       |(refine K0d hF zlq (Y0c ?_ (Z0c zno38));simp[stateRight,<- hj];done)
       |exact absurd ⟨by assumption,by assumption⟩ hn2
     ·(have zx:=zA e2 (zA e3 (zA e5 (zA g1 (zA g2 (zA hlt (zA hbb hK))))));refine zq38 ?_;try exact zT)
      repeat'(apply zK.s<;>intro hc<;>(try simp only[zhd]at hc)<;>(try have hw:=X0a hc)<;>(refine zq38 ?_;try exact zT))
      all_goals(try clear zx)
      all_goals first
       |(refine K0d hF zlq (Y0c ?_ (Z0c zno38));simp[stateRight,<- hj];done)
       |exact absurd ⟨by assumption,.inr (by assumption),by assumption,by first|exact .inl (by assumption)|exact .inr (by assumption)⟩ hne
    |true=>
     rw[hw,Bool.true_and]at hj
     obtain⟨y1,y2,y3,y4⟩:=(K1d _ _ _).1 hw
     by_cases hK:b.Kind=0
     ·have hp:¬(k:Int)<c.Players:=by simpa[hK]using y3
      (have zx:=zA e2 (zA e3 (zA e5 (zA g1 (zA g2 (zA hlt (zA hbb (zA y1 (zA hK hp))))))));refine zq38 ?_;try exact zT)
      repeat'(apply zK.s<;>intro hc<;>(try simp only[zhd]at hc)<;>(try have hw:=X0a hc)<;>(refine zq38 ?_;try exact zT))
      all_goals(try clear zx)
      exact⟨16-(k+1),by omega,k+1,rfl,by omega,zev,zev,zev,zg9,zg9,hj,zb9,zlq⟩
     ·have hp:=y2.resolve_left hK
      (have zx:=zA e2 (zA e3 (zA e5 (zA g1 (zA g2 (zA hlt (zA hbb (zA y1 (zA y3 (zA hK hp)))))))));refine zq38 ?_;try exact zT)
      repeat'(apply zK.s<;>intro hc<;>(try simp only[zhd]at hc)<;>(try have hw:=X0a hc)<;>(refine zq38 ?_;try exact zT))
      all_goals(try clear zx)
      all_goals first
       |exact⟨16-(k+1),by omega,k+1,rfl,by omega,zev,zev,zev,zg9,zg9,hj,zb9,zlq⟩
       |(exfalso;rcases y4 with y4|y4<;>contradiction)
   ·have hk16:k=16:=by omega
    subst hk16
    rw[List.drop_eq_nil_of_le (by omega)]at hj
    have hA:allFrom (rightAt c.Players) s.Bodies 0=true:=hj.symm
    (have zx:=zA e2 (zA e3 (zA e5 (zA g1 (zA g2 hlt))));refine zq38 ?_;try exact zT)
    repeat'(apply zK.s<;>intro hc<;>(try simp only[zhd]at hc)<;>(try have hw:=X0a hc)<;>(refine zq38 ?_;try exact zT))
    all_goals(try clear zx)
    (show W C false noExt call (ZC.loop X1r) _ _ _);refine Q0i C false noExt call X1r _ _ _ (L38 c s p) 8 ⟨0,rfl,by omega,zev,zev,zev,g1,g2,rfl,hn,hle⟩ ?_
    clear e2 e3 e5 g1 g2 hn hle hj hlt
    rintro n ρ q ⟨k,rfl,hk,e2,e3,e7,g1,g2,hj,hn,hle⟩
    by_cases hlt:(k:Int)<8
    ·rw[X0r _ (l:=s.Score) (k:=k) (by omega)]at hj
     cases hw:scoreAt c.Players k (nth s.Score k) with
     |false=>
      rw[hw]at hj
      simp only[scoreAt]at hw
      (have zx:=zA e2 (zA e3 (zA e7 (zA g1 (zA g2 hlt))));refine zq38 ?_;try exact zT)
      repeat'(apply zK.s<;>intro hc<;>(try simp only[zhd]at hc)<;>(try have hw:=X0a hc)<;>(refine zq38 ?_;try exact zT))
      all_goals(try clear zx)
      all_goals first
       |(refine K0d hF zlq (Y0c ?_ (Z0c zno38));simp[stateRight,<- hj];done)
       |(exfalso;simp_all;done)
       |(exfalso;simp_all;omega)
     |true=>
      rw[hw,Bool.true_and]at hj
      simp only[scoreAt]at hw
      (have zx:=zA e2 (zA e3 (zA e7 (zA g1 (zA g2 hlt))));refine zq38 ?_;try exact zT)
      repeat'(apply zK.s<;>intro hc<;>(try simp only[zhd]at hc)<;>(try have hw:=X0a hc)<;>(refine zq38 ?_;try exact zT))
      all_goals(try clear zx)
      all_goals first
       |exact⟨8-(k+1),by omega,k+1,rfl,by omega,zev,zev,zev,zg9,zg9,hj,zb9,zlq⟩
       |exact⟨8-(k+1),by omega,k+1,rfl,by omega,zev,zev,zev,g1,g2,hj,hn,hle⟩
       |(exfalso;simp_all;done)
       |(exfalso;simp_all;omega)
    ·have hk8:k=8:=by omega
     subst hk8
     rw[List.drop_eq_nil_of_le (by omega)]at hj
     have hB:allFrom (scoreAt c.Players) s.Score 0=true:=hj.symm
     (have zx:=zA e2 (zA e3 (zA e7 (zA g1 (zA g2 hlt))));refine zq38 ?_;try exact zT)
     repeat'(apply zK.s<;>intro hc<;>(try simp only[zhd]at hc)<;>(try have hw:=X0a hc)<;>(refine zq38 ?_;try exact zT))
     all_goals(try clear zx)
     all_goals refine K0d hF zlq (Y0c ?_ (Z0c zno38))
     all_goals simp[stateRight,hA,hB, *]
  ·have hno:stateRight c s=false:=by
    cases h:stateRight c s with
    |false=>rfl
    |true=>have:=V0j h;simp only[stateRight,Bool.and_eq_true]at h;exact absurd ⟨h.1.2,h.2⟩ hok
   cases hL:legalC c with
   |false=>
    (have zx:=hL;refine zq38 ?_;try exact zT)
    repeat'(apply zK.s<;>intro hc<;>(try simp only[zhd]at hc)<;>(try have hw:=X0a hc)<;>(refine zq38 ?_;try exact zT))
    all_goals(try clear zx)
    exact K0d hF zle (Y0c (by rw[hno]) (Z0c zno38))
   |true=>
    have hfw:within s.Frame 0 600=false:=by
     cases h:within s.Frame 0 600 with
     |false=>rfl
     |true=>exact absurd ⟨hL,h⟩ hok
    (have zx:=zA hL hfw;refine zq38 ?_;try exact zT)
    repeat'(apply zK.s<;>intro hc<;>(try simp only[zhd]at hc)<;>(try have hw:=X0a hc)<;>(refine zq38 ?_;try exact zT))
    all_goals(try clear zx)
    exact K0d hF zle (Y0c (by rw[hno]) (Z0c zno38))
noncomputable def resP(i:Nat)(f:X0b)(t:Turn)(p:Hp): XRes:=
 if t.shots=[]then .ret t.body.cv (p.set i (some (.var sh186 (frDice f t.dice).cv)))
 else .ret t.body.cv (((dropT f.shots.tl p).set i (some (.var sh186 (frShots (frDice f t.dice) p.n (f.shots.l++t.shots)).cv))).new (.tail (f.shots.l.length+t.shots.length)))
def R177: Rel:=fun args p r=>∃(i:Nat) (f:X0b) (b:Q0a),args=[.ptr i [],b.cv]/\(p.t.get i=some (.var sh186 f.cv))/\(f.shots.l.length<=10000)/\(OwnT i f.shots p)/\(f.c_.Rules.l.length<=100000)/\(0<=b.Owner/\b.Faults<=65535/\-1<=b.Faults)/\r=resP i f (playerTurn f.c_.Rules.l f.row.l f.s_.Dice (frRoom f) b) p
theorem t177{T:XCall}(h:Has T 60 R177)(i:Nat)(f:X0b)(b:Q0a){p:Hp}(h1:p.t.get i=some (.var sh186 f.cv))(h2:f.shots.l.length<=10000)(h3:OwnT i f.shots p)(h4:f.c_.Rules.l.length<=100000)(h5:0<=b.Owner/\b.Faults<=65535/\-1<=b.Faults): T 60 [.ptr i [],b.cv] p=resP i f (playerTurn f.c_.Rules.l f.row.l f.s_.Dice (frRoom f) b) p:=h _ _ _ ⟨i,f,b,rfl,h1,h2,h3,h4,h5,rfl⟩
theorem zq177{A B:Prop}(k:B)(h:A=B:=by have zy:=zA @zw177<|zA @rs177<|zA @tt3<|zA @tt23<|zA @tt25<|zA @tt34<|zA @tt36<|zA @tt37<|zA @tt39<|zA @tt44<|zA @tt61<|zA @tt66<|zA @tt186<|zA ti3.eq_1<|zA ti23.eq_1<|zA ti25.eq_1<|zA ti34.eq_1<|zA ti36.eq_1<|zA ti37.eq_1<|zA ti39.eq_1<|zA ti44.eq_1<|zA ti61.eq_1<|zA ti66.eq_1<|zA ti186.eq_1<|zA @t_25<|zA @t_195<|zA @t_196<|zA @t_197<|zA @X0i<|zA @Q0f<|zA @X0e<|zA @Q0e<|zA @K0h<|zA @X0j<|zA @Q0q<|zA @zsl23<|zA @zsl37<|zA @h1<|zA @h2<|zA @h3<|zA @h4<|@h5;exact zQ): A:=h▸k
theorem zno177{P:Prop}(h:P:=by intro jj;simp[CV.has,CV.hasL,fault,Z0b.nohas,Y0a.nohas,Q0a.nohas,K0b.nohas,X0c.nohas]): P:=h
theorem zge177{P:Prop}(h:P:=by simp (disch:=first|exact zdl|fail) only[zheap,h1];first|done|rfl): P:=h
theorem c177: Con C 60 R177:=by
 refine K0e C ?_ ?_ ?_
 ·rintro args p r r' ⟨i,f,b,h,h1,h2,h3,h4,h5,e⟩ ⟨i',f',b',h',h1',h2',h3',h4',h5',e'⟩
  subst e;subst e';simp_all[X0b.inj_iff,Y0a.inj_iff,K0a.inj_iff,Q0a.inj_iff,K0b.inj_iff,Q0c.inj_iff,X0c.inj_iff,V0i,K0q]
 ·rintro args p r ⟨i,f,b,h,h1,h2,h3,h4,h5,rfl⟩;first|(split<;>simp;done)|(simp;done)|(simp only[resM];split<;>simp;done)|(simp only[resD];split<;>simp;done)  | (unfold resP;split<;>simp;done)
 ·rintro args p r ⟨i,f,b,rfl,h1,h2,h3,h4,h5,rfl⟩
  refine zW C false [(76,R25),(73,R195),(74,R196),(75,R197)] ⟨c25,c195,c196,c197,zT⟩ rfl xf177 zc177_ok fun call zh hF=>?_
  have t_25:=@t25 _ zh.1
  have t_195:=@t195 _ zh.2.1
  have t_196:=@t196 _ zh.2.2.1
  have t_197:=@t197 _ zh.2.2.2.1
  clear zh
  have hd_h1:=hF.dom _ _ h1
  have hx:=K0z f.row.l b.Owner
  have hX:=tdiv16 hx.2.1
  have hY:=tdiv16 hx.2.2
  have hR:ruleRun f.c_.Rules (playerEnv f.row.l f.s_.Dice (frRoom f) b)=runL f.c_.Rules.l (playerEnv f.row.l f.s_.Dice (frRoom f) b):=ruleRun_l (l:=⟨.view,f.c_.Rules.l,nofun⟩) (s:=f.c_.Rules) rfl _
  have hlen:=X04 f.c_.Rules.l (playerEnv f.row.l f.s_.Dice (frRoom f) b)
  have hlen:(runL f.c_.Rules.l (playerEnv f.row.l f.s_.Dice (frRoom f) b)).1.Shots.l.length<=64:=by simpa[playerEnv]using hlen
  have hT:playerTurn f.c_.Rules.l f.row.l f.s_.Dice (frRoom f) b=if(runL f.c_.Rules.l (playerEnv f.row.l f.s_.Dice (frRoom f) b)).2.2=true then⟨(runL f.c_.Rules.l (playerEnv f.row.l f.s_.Dice (frRoom f) b)).1.Dice,(runL f.c_.Rules.l (playerEnv f.row.l f.s_.Dice (frRoom f) b)).1.Shots.l,(runL f.c_.Rules.l (playerEnv f.row.l f.s_.Dice (frRoom f) b)).1.Body⟩ else⟨f.s_.Dice,[],{b with Faults:=min (b.Faults+1) 65535}⟩:=rfl
  rw[hT]
  clear hT
  have hre:∀j,f.c_.Rules.tl=.own j\/f.c_.Tokens.tl=.own j\/f.row.tl=.own j\/f.shots.tl=.own j->j<p.n:=fun j hj=>
   hF.lt_obj (.arg (a:=CV.ptr i []) (by simp) rfl) h1 j (by
    simp only[XObj.has,X0b.has,K0a.has]
    rcases hj with h|h|h|h<;>simp[h])
  generalize runL f.c_.Rules.l (playerEnv f.row.l f.s_.Dice (frRoom f) b)=R at hR hlen
  generalize hE:playerEnv f.row.l f.s_.Dice (frRoom f) b=E at hR
  have hv:E.Shots.tl≠.view:=by rw[<- hE];simp[playerEnv]
  have hv2:E.Shots.l.length<=100000:=by rw[<- hE];simp[playerEnv]
  simp only[playerEnv]at hE
  obtain⟨⟨gb,gi,gd,gr,gt,gl,go⟩,ft,ok⟩:=R
  simp only at hlen
  cases ok with
  |false=>
   (have zx:=zA hE (zA hR h1);refine zq177 ?_;try exact zT)
   repeat'(apply zK.s<;>intro hc<;>(try simp only[zhd]at hc)<;>(try have hw:=X0a hc)<;>(refine zq177 ?_;try exact zT))
   all_goals(try clear zx)
   simp only[Bool.false_eq_true,if_false,resP,if_true]
   refine Y0k hF hd_h1 zlm ⟨_,zge177,Y0j rfl fun j hj=>?_⟩ (Y0c rfl (Z0c zno177))
   refine hre j ?_
   simp only[XObj.has,X0b.has,K0a.has,frDice]at hj
   rcases hj with(h|h)|h|h<;>simp[h]
  |true=>
   cases gl with
   |nil=>
    (have zx:=zA hE (zA hR h1);refine zq177 ?_;try exact zT)
    repeat'(apply zK.s<;>intro hc<;>(try simp only[zhd]at hc)<;>(try have hw:=X0a hc)<;>(refine zq177 ?_;try exact zT))
    all_goals(try clear zx)
    simp only[if_true,resP]
    refine Y0k hF hd_h1 zlm ⟨_,zge177,Y0j rfl fun j hj=>?_⟩ (Y0c rfl (Z0c zno177))
    refine hre j ?_
    simp only[XObj.has,X0b.has,K0a.has,frDice]at hj
    rcases hj with(h|h)|h|h<;>simp[h]
   |cons x m=>
    simp only[List.length_cons]at hlen
    rcases hf:f.shots with⟨ftl,fl,fo⟩
    have h3c:=h3
    rcases h3c with k3|⟨j,k3,hji,g1,hj0⟩
    ·have hs0:=own_nil k3
     rw[hf]at k3 hs0
     simp only at k3 hs0
     subst k3
     subst hs0
     (have zx:=zA hE (zA hR (zA hf h1));refine zq177 ?_;try exact zT)
     repeat'(apply zK.s<;>intro hc<;>(try simp only[zhd]at hc)<;>(try have hw:=X0a hc)<;>(refine zq177 ?_;try exact zT))
     all_goals(try clear zx)
     simp only[if_true,resP,hf,dropT,List.nil_append,reduceCtorEq,if_false]
     refine Q1t hF (J:=p.n+1+1+1+19+15+11) rfl (fun k o h=>?_) ⟨_,zge177,by simp[XObj.weak]⟩ (CV.weak_refl _ fun j hj=>absurd hj (Q0a.nohas _ j))
     by_cases hk:k=i
     ·subst hk
      rw[Hp.get_set_self]at h;cases h
      exact⟨hd_h1,by omega,.inr ⟨_,zge177,K1g (frDice f gd) (p.n+1+1+1+19+15+11) p.n _ fun j hj=>hre j (hj.imp id fun h=>h.imp id .inl)⟩⟩
     ·rw[Hp.get_set_ne _ _ _ hk]at h
      have hd:=hF.dom _ _ h
      exact⟨hd,by omega,.inl ⟨h,by simp (disch:=first|exact zdl|fail) only[Hp.bump_get,Hp.get_set_ne,Hp.get_new_ne];exact h⟩⟩
    ·have hjn:j<p.n:=hre j (.inr (.inr (.inr k3)))
     rw[hf]at k3 g1 hj0
     simp only at k3 g1 hj0
     subst k3
     have hfl:fl.length<=10000:=by have:=h2;rw[hf]at this;exact this
     (have zx:=zA hE (zA hR (zA hf (zA g1 h1)));refine zq177 ?_;try exact zT)
     repeat'(apply zK.s<;>intro hc<;>(try simp only[zhd]at hc)<;>(try have hw:=X0a hc)<;>(refine zq177 ?_;try exact zT))
     all_goals(try clear zx)
     simp only[if_true,resP,hf,dropT,reduceCtorEq,if_false]
     refine Q1t hF (J:=p.n+1+1+1+19+15+11) rfl (fun k o h=>?_) ⟨_,zge177,by simp[XObj.weak]⟩ (CV.weak_refl _ fun j hj=>absurd hj (Q0a.nohas _ j))
     by_cases hk:k=i
     ·subst hk
      rw[Hp.get_set_self]at h;cases h
      exact⟨hd_h1,by omega,.inr ⟨_,zge177,K1g (frDice f gd) (p.n+1+1+1+19+15+11) p.n _ fun j hj=>hre j (hj.imp id fun h=>h.imp id .inl)⟩⟩
     ·rw[Hp.get_set_ne _ _ _ hk]at h
      by_cases hkj:k=j
      ·subst hkj;rw[Hp.get_set_self]at h;cases h
      ·rw[Hp.get_set_ne _ _ _ hkj]at h
       have hd:=hF.dom _ _ h
       exact⟨hd,by omega,.inl ⟨h,by simp (disch:=first|exact zdl|fail) only[Hp.bump_get,Hp.get_set_ne,Hp.get_new_ne];exact h⟩⟩
end Go.Proofs.YtpchcfkebljopaaGreat
end
section
namespace Go.Proofs.YtpchcfkebljopaaGreat
open Go.Cl Go Go.RowKit
theorem x63_alloc(p:Hp): xalloc C p 37=.ret (.ptr p.n []) (p.new (.var sh63 (.agg ((List.replicate 16 Q0a.zero).map Q0a.cv)))):=by simp only[Cl.xalloc,tt63,ti63,z63,Q0a.zcv,List.map_replicate]
theorem s63_sub: subEq sh63 [] sh63=true:=by simp[subEq,Shape.sub]
theorem s63_subk(k:Nat)(q:List Nat)(z:Shape): subEq sh63 (k::q) z=(decide (k<16)&&subEq sh34 q z):=V05 16 k q sh34 z
theorem s63_ok(l:List Q0a)(h:l.length=16): shOk (.agg (l.map Q0a.cv)) sh63=true:=K0m (sh:=sh63) (by simp only[CV.shape,Y0h (f:=Q0a.cv) Q0a.shape,h,sh63]) rfl
theorem s63_at(l:List Q0a)(h:l.length=16)(k:Nat)(q:List Nat)(hk:k<16): (CV.agg (l.map Q0a.cv)).at (k::q)=(Q0a.cv (nth l k)).at q:=arr_at _ (by rw[h];exact hk) q
end Go.Proofs.YtpchcfkebljopaaGreat
end
section
namespace Go.Proofs.YtpchcfkebljopaaGreat
open Go.Cl Go Go.RowKit
set_option maxRecDepth 100000
set_option linter.constructorNameAsVariable false
theorem envR_mk(a:Q0a)(b:K0b)(c d:Int)(s:Lst Q0a): envR ⟨a,b,c,d,s⟩=⟨a,b,c,d,s⟩:=rfl
def J67(c:K0a)(s:Y0a)(row:Lst Q0b)(p:Hp)(n:Nat)(ρ:Env)(q:Hp): Prop:=
 ∃(k:Nat) (sh:Lst Q0a),n=16-k/\k<=16/\ρ 2=row.cv Q0b.cv/\ρ 3=.ptr p.n []/\ρ 4=.ptr (p.n+1) []/\ρ 6=.ptr (p.n+2) []/\ρ 7=.ptr (p.n+3) []/\ρ 8=sh.cv Q0a.cv/\ρ 9=I k/\sh.l=(turnsS c.Rules.l row.l s k).2/\q.t.get p.n=some (.var sh61 c.cv)/\q.t.get (p.n+1)=some (.var sh66 (turnsS c.Rules.l row.l s k).1.cv)/\q.t.get (p.n+2)=some (.var sh66 Y0a.zero.cv)/\q.t.get (p.n+3)=some (.var sh63 (.agg (s.Bodies.map Q0a.cv)))/\(sh.tl=.nil\/∃j,sh.tl=.own j/\p.n+3<j/\j<q.n/\q.t.get j=some (.tail sh.l.length)/\0<sh.l.length)/\p.n+3<q.n/\HpLe p q
def K67(c:K0a)(s:Y0a)(sh:Lst Q0a)(p:Hp)(n:Nat)(ρ:Env)(q:Hp): Prop:=
 ∃(m:Nat),n=sh.l.length-m/\m<=sh.l.length/\ρ 3=.ptr p.n []/\ρ 4=.ptr (p.n+1) []/\ρ 6=.ptr (p.n+2) []/\ρ 8=sh.cv Q0a.cv/\ρ 16=I m/\q.t.get p.n=some (.var sh61 c.cv)/\q.t.get (p.n+1)=some (.var sh66 (placeAll s (sh.l.take m)).cv)/\q.t.get (p.n+2)=some (.var sh66 Y0a.zero.cv)/\p.n+3<q.n/\HpLe p q
def L67(c:K0a)(s:Y0a)(sh:Lst Q0a)(m:Nat)(p:Hp)(n:Nat)(ρ:Env)(q:Hp): Prop:=
 ∃(k:Nat) (d:Bool) (t:Y0a),n=16-k/\k<=16/\ρ 3=.ptr p.n []/\ρ 4=.ptr (p.n+1) []/\ρ 6=.ptr (p.n+2) []/\ρ 8=sh.cv Q0a.cv/\ρ 16=I m/\ρ 17=Bo d/\ρ 18=I k/\q.t.get p.n=some (.var sh61 c.cv)/\q.t.get (p.n+1)=some (.var sh66 t.cv)/\q.t.get (p.n+2)=some (.var sh66 Y0a.zero.cv)/\PlaceAt s (nth sh.l m) k d t/\p.n+3<q.n/\HpLe p q
def M67(c:K0a)(s:Y0a)(p:Hp)(n:Nat)(ρ:Env)(q:Hp): Prop:=
 ∃(i:Nat),n=16-i/\i<=16/\ρ 3=.ptr p.n []/\ρ 4=.ptr (p.n+1) []/\ρ 6=.ptr (p.n+2) []/\ρ 19=I i/\q.t.get p.n=some (.var sh61 c.cv)/\q.t.get (p.n+1)=some (.var sh66 (hitsS c.Players s i).cv)/\q.t.get (p.n+2)=some (.var sh66 Y0a.zero.cv)/\p.n+3<q.n/\HpLe p q
def N67(c:K0a)(s:Y0a)(i:Nat)(p:Hp)(n:Nat)(ρ:Env)(q:Hp): Prop:=
 ∃(k:Nat) (t:Y0a),n=16-k/\k<=16/\ρ 3=.ptr p.n []/\ρ 4=.ptr (p.n+1) []/\ρ 6=.ptr (p.n+2) []/\ρ 19=I i/\ρ 20=I k/\q.t.get p.n=some (.var sh61 c.cv)/\q.t.get (p.n+1)=some (.var sh66 t.cv)/\q.t.get (p.n+2)=some (.var sh66 Y0a.zero.cv)/\HitAt c.Players s i k t/\p.n+3<q.n/\HpLe p q
def R67: Rel:=fun args p r=>∃(c:K0a) (s:Y0a) (row:Lst Q0b),args=[c.cv,s.cv,row.cv Q0b.cv]/\(c.Tokens.l.length<=1000000)/\(c.Rules.l.length<=1000000)/\r=.ret (stepS c row.l s).cv p
theorem t67{T:XCall}(h:Has T 16 R67)(c:K0a)(s:Y0a)(row:Lst Q0b){p:Hp}(hl:c.Tokens.l.length<=1000000)(hr:c.Rules.l.length<=1000000): T 16 [c.cv,s.cv,row.cv Q0b.cv] p=.ret (stepS c row.l s).cv p:=h _ _ _ ⟨c,s,row,rfl,hl,hr,rfl⟩
theorem zq67{A B:Prop}(k:B)(h:A=B:=by have zy:=zA @zw67<|zA @rs67<|zA @tt3<|zA @tt23<|zA @tt25<|zA @tt34<|zA @tt36<|zA @tt37<|zA @tt51<|zA @tt61<|zA @tt63<|zA @tt64<|zA @tt66<|zA ti3.eq_1<|zA ti23.eq_1<|zA ti25.eq_1<|zA ti34.eq_1<|zA ti36.eq_1<|zA ti37.eq_1<|zA ti51.eq_1<|zA ti61.eq_1<|zA ti63.eq_1<|zA ti64.eq_1<|zA ti66.eq_1<|zA @t_38<|zA @t_143<|zA @t_144<|zA @t_145<|zA @t_28<|zA @t_146<|zA @t_147<|zA @t_142<|zA @X0e<|zA @Q0f<|zA @Q0e<|zA @K0h<|zA @Z0o<|zA @zsl23<|zA @zsl37<|zA @zsl63<|zA @zsl64<|zA @envR_mk<|zA @x63_alloc<|zA @s63_sub<|zA @s63_subk<|zA @s63_ok<|zA @s63_at<|zA @hl<|@hr;exact zQ): A:=h▸k
theorem zno67{P:Prop}(h:P:=by intro jj;simp[CV.has,CV.hasL,fault,Z0b.nohas,Y0a.nohas,Q0a.nohas,K0b.nohas]): P:=h
theorem zge67{P:Prop}(h:P:=by simp (disch:=first|exact zdl|fail) only[zheap];first|done|rfl): P:=h
theorem c67: Con C 16 R67:=by
 refine K0e C ?_ ?_ ?_
 ·rintro args p r r' ⟨c,s,row,h,hl,hr,e⟩ ⟨c',s',row',h',hl',hr',e'⟩
  subst e;subst e';simp_all[K0a.inj_iff,Y0a.inj_iff,Q0a.inj_iff,K0b.inj_iff,V0c.inj_iff,V0i,K0q,Y0o]
 ·rintro args p r ⟨c,s,row,h,hl,hr,rfl⟩;exact zr1
 ·rintro args p r ⟨c,s,row,rfl,hl,hr,rfl⟩
  refine zW C false [(12,R38),(43,R143),(45,R144),(46,R145),(44,R28),(47,R146),(48,R147),(39,R142)] ⟨c38,c143,c144,c145,c28,c146,c147,c142,zT⟩ rfl xf67 zc67_ok fun call zh hF=>?_
  have t_38:=@t38 _ zh.1
  have t_143:=@t143 _ zh.2.1
  have t_144:=@t144 _ zh.2.2.1
  have t_145:=@t145 _ zh.2.2.2.1
  have t_28:=@t28 _ zh.2.2.2.2.1
  have t_146:=@t146 _ zh.2.2.2.2.2.1
  have t_147:=@t147 _ zh.2.2.2.2.2.2.1
  have t_142:=@t142 _ zh.2.2.2.2.2.2.2.1
  clear zh
  cases hR:stateRight c s with
  |false=>
   (have zx:=hR;refine zq67 ?_;try exact zT)
   repeat'(apply zK.s<;>intro hc<;>(try simp only[zhd]at hc)<;>(try have hw:=X0a hc)<;>(refine zq67 ?_;try exact zT))
   all_goals(try clear zx)
   refine K0d hF zle (Y0c ?_ (Z0c zno67))
   simp[stepS,hR];rfl
  |true=>
   have hrl:=(Z0k (V0j hR).2.2.1).2
   have hrl2:c.Rules.l.length<=100000:=by omega
   have h4:=right_all hR
   have hb:=s.hBodies
   (have zx:=hR;refine zq67 ?_;try exact zT)
   repeat'(apply zK.s<;>intro hc<;>(try simp only[zhd]at hc)<;>(try have hw:=X0a hc)<;>(refine zq67 ?_;try exact zT))
   all_goals(try clear zx)
   (show W C false noExt call (ZC.loop Y10) _ _ _);refine Q0i C false noExt call Y10 _ _ _ (J67 c s row p) 16 ⟨0,⟨.nil,[],fun _=>rfl⟩,rfl,by omega,by simp[put_at,Q0d,Z0d,X0l],(by simp[put_at,Q0d,Z0d]),(by simp[put_at,Q0d,Z0d]),(by simp[put_at,Q0d,Z0d]),(by simp[put_at,Q0d,Z0d]),by simp[put_at,Q0d,Z0d,Lst.cv],(by simp[put_at,Q0d,Z0d]),rfl,zge67,zge67,zge67,zge67,.inl rfl,(zb9),zle⟩ ?_
   rintro n ρ q ⟨k,⟨tl,al,ao⟩,rfl,hk,e2,e3,e4,e6,e7,e8,e9,hal,g1,g2,g3,g4,happ,hn,hle⟩
   have hlen:=X06 c.Rules.l row.l s k
   by_cases hlt:(k:Int)<16
   ·have hr:Body.right (nth s.Bodies k)=true:=h4 _ (by rw[V0x (by omega)];exact List.getElem_mem _)
    have hst:turnsS c.Rules.l row.l s (k+1)=turnStep c.Rules.l row.l s.Bodies (turnsS c.Rules.l row.l s k) k:=rfl
    generalize hTk:turnsS c.Rules.l row.l s k=T at hst hal g2 hlen
    obtain⟨sk,lk⟩:=T
    simp only at hal g2 hlen
    subst hal
    have hbk:=sk.hBodies
    have hfr:=freeN_le sk
    generalize hbb:nth s.Bodies k=b at hr hst
    by_cases hK:b.Kind=1
    ·have hrb:=Z0f hr (by omega)
     have hx:=K0z row.l b.Owner
     have hX:=tdiv16 hx.2.1
     have hY:=tdiv16 hx.2.2
     have hRl:∀E,ruleRun c.Rules E=runL c.Rules.l E:=fun E=>ruleRun_l (l:=⟨.view,c.Rules.l,nofun⟩) (s:=c.Rules) rfl E
     have hlen2:=X04 c.Rules.l (playerEnv row.l sk.Dice (freeN sk.Bodies-al.length) b)
     have hlen2:(runL c.Rules.l (playerEnv row.l sk.Dice (freeN sk.Bodies-al.length) b)).1.Shots.l.length<=64:=by simpa[playerEnv]using hlen2
     have hRR:ruleRun c.Rules (ruleOf ⟨bodyPush b ((rowInput row.l b.Owner).X.tdiv 16) ((rowInput row.l b.Owner).Y.tdiv 16),rowInput row.l b.Owner,sk.Dice,freeN sk.Bodies-al.length,⟨.nil,[],fun _=>rfl⟩⟩)=runL c.Rules.l (playerEnv row.l sk.Dice (freeN sk.Bodies-al.length) b):=hRl _
     simp only[turnStep,hbb,bodyTurn,hK,if_true,playerTurn]at hst
     generalize runL c.Rules.l (playerEnv row.l sk.Dice (freeN sk.Bodies-al.length) b)=R at hst hlen2 hRR
     obtain⟨⟨gb,gi,gd,gr,gt,gl,go⟩,ft,ok⟩:=R
     simp only at hlen2 hst
     cases ok with
     |false=>
      simp only[Bool.false_eq_true,if_false,List.append_nil]at hst
      have hm:min 65535 (b.Faults+1)=min (b.Faults+1) 65535:=by omega
      have happ2:tl=.nil\/∃j,tl=.own j/\p.n+3<j/\j<q.n/\q.t.get j=some (.tail al.length)/\0<al.length:=happ
      (have zx:=zA e2 (zA e3 (zA e4 (zA e6 (zA e7 (zA e8 (zA e9 (zA g1 (zA g2 (zA g3 (zA g4 (zA hlt (zA hbb (zA hK (zA hRR hm))))))))))))));refine zq67 ?_;try exact zT)
      repeat'(apply zK.s<;>intro hc<;>(try simp only[zhd]at hc)<;>(try have hw:=X0a hc)<;>(refine zq67 ?_;try exact zT))
      all_goals(try clear zx)
      refine⟨16-(k+1),by omega,k+1,⟨tl,al,ao⟩,rfl,by omega,zev,zev,zev,zev,zev,zev,zev,by rw[hst],zg9,by rw[hst];simp (disch:=first|exact zdl|fail) only[zheap];first|done|rfl,zg9,zg9,?_,zb9,zlq⟩
      rcases happ2 with a1|⟨j,a1,a2,a3,a4,a5⟩
      ·exact .inl a1
      ·exact .inr ⟨j,a1,a2,zb9,by simp (disch:=first|exact zdl|fail) only[zheap,a4],a5⟩
     |true=>
      simp only[if_true]at hst
      cases gl with
      |nil=>
       have happ2:tl=.nil\/∃j,tl=.own j/\p.n+3<j/\j<q.n/\q.t.get j=some (.tail al.length)/\0<al.length:=happ
       simp only[List.append_nil]at hst
       rcases happ2 with a1|⟨j,a1,a2,a3,g5,a5⟩
       ·subst a1
        (have zx:=zA e2 (zA e3 (zA e4 (zA e6 (zA e7 (zA e8 (zA e9 (zA g1 (zA g2 (zA g3 (zA g4 (zA hlt (zA hbb (zA hK hRR)))))))))))));refine zq67 ?_;try exact zT)
        repeat'(apply zK.s<;>intro hc<;>(try simp only[zhd]at hc)<;>(try have hw:=X0a hc)<;>(refine zq67 ?_;try exact zT))
        all_goals(try clear zx)
        exact⟨16-(k+1),by omega,k+1,⟨.nil,al,ao⟩,rfl,by omega,zev,zev,zev,zev,zev,zev,zev,by rw[hst],zg9,by rw[hst];simp (disch:=first|exact zdl|fail) only[zheap];first|done|rfl,zg9,zg9,.inl rfl,zb9,zlq⟩
       ·subst a1
        (have zx:=zA e2 (zA e3 (zA e4 (zA e6 (zA e7 (zA e8 (zA e9 (zA g1 (zA g2 (zA g3 (zA g4 (zA g5 (zA hlt (zA hbb (zA hK hRR))))))))))))));refine zq67 ?_;try exact zT)
        repeat'(apply zK.s<;>intro hc<;>(try simp only[zhd]at hc)<;>(try have hw:=X0a hc)<;>(refine zq67 ?_;try exact zT))
        all_goals(try clear zx)
        exact⟨16-(k+1),by omega,k+1,⟨.own j,al,ao⟩,rfl,by omega,zev,zev,zev,zev,zev,zev,zev,by rw[hst],zg9,by rw[hst];simp (disch:=first|exact zdl|fail) only[zheap];first|done|rfl,zg9,zg9,.inr ⟨j,rfl,a2,zb9,zg9,a5⟩,zb9,zlq⟩
      |cons x m=>
       simp only[List.length_cons]at hlen2
       rcases happ with a1|⟨j,a1,a2,a3,g5,a5⟩
       ·simp only at a1
        subst a1
        (have zx:=zA e2 (zA e3 (zA e4 (zA e6 (zA e7 (zA e8 (zA e9 (zA g1 (zA g2 (zA g3 (zA g4 (zA hlt (zA hbb (zA hK hRR)))))))))))));refine zq67 ?_;try exact zT)
        repeat'(apply zK.s<;>intro hc<;>(try simp only[zhd]at hc)<;>(try have hw:=X0a hc)<;>(refine zq67 ?_;try exact zT))
        all_goals(try clear zx)
        exact⟨16-(k+1),by omega,k+1,⟨.own (q.n+1+1+30),al++x::m,nofun⟩,rfl,by omega,zev,zev,zev,zev,zev,zev,zev,by rw[hst],zg9,by rw[hst];simp (disch:=first|exact zdl|fail) only[zheap];first|done|rfl,zg9,zg9,.inr ⟨q.n+1+1+30,rfl,by omega,zb9,by simp (disch:=first|exact zdl|fail) only[zheap,List.length_append,List.length_cons],by simp;omega⟩,zb9,zlq⟩
       ·simp only at a1 g5 a5
        subst a1
        (have zx:=zA e2 (zA e3 (zA e4 (zA e6 (zA e7 (zA e8 (zA e9 (zA g1 (zA g2 (zA g3 (zA g4 (zA g5 (zA hlt (zA hbb (zA hK hRR))))))))))))));refine zq67 ?_;try exact zT)
        repeat'(apply zK.s<;>intro hc<;>(try simp only[zhd]at hc)<;>(try have hw:=X0a hc)<;>(refine zq67 ?_;try exact zT))
        all_goals(try clear zx)
        exact⟨16-(k+1),by omega,k+1,⟨.own (q.n+1+1+30),al++x::m,nofun⟩,rfl,by omega,zev,zev,zev,zev,zev,zev,zev,by rw[hst],zg9,by rw[hst];simp (disch:=first|exact zdl|fail) only[zheap];first|done|rfl,zg9,zg9,.inr ⟨q.n+1+1+30,rfl,by omega,zb9,by simp (disch:=first|exact zdl|fail) only[zheap,List.length_append,List.length_cons],by simp;omega⟩,zb9,zlq⟩
    ·simp only[turnStep,hbb,bodyTurn,hK,if_false,List.append_nil]at hst
     have happ2:tl=.nil\/∃j,tl=.own j/\p.n+3<j/\j<q.n/\q.t.get j=some (.tail al.length)/\0<al.length:=happ
     (have zx:=zA e2 (zA e3 (zA e4 (zA e6 (zA e7 (zA e8 (zA e9 (zA g1 (zA g2 (zA g3 (zA g4 (zA hlt (zA hbb hK))))))))))));refine zq67 ?_;try exact zT)
     repeat'(apply zK.s<;>intro hc<;>(try simp only[zhd]at hc)<;>(try have hw:=X0a hc)<;>(refine zq67 ?_;try exact zT))
     all_goals(try clear zx)
     refine⟨16-(k+1),by omega,k+1,⟨tl,al,ao⟩,rfl,by omega,zev,zev,zev,zev,zev,zev,zev,by rw[hst],zg9,by rw[hst];simp (disch:=first|exact zdl|fail) only[zheap];first|done|rfl,zg9,zg9,?_,zb9,zlq⟩
     rcases happ2 with a1|⟨j,a1,a2,a3,a4,a5⟩
     ·exact .inl a1
     ·exact .inr ⟨j,a1,a2,zb9,by simp (disch:=first|exact zdl|fail) only[zheap,a4],a5⟩
   ·have hk16:k=16:=by omega
    subst hk16
    have hpl:=step_place hR row.l
    have hok0:=step_hit hR row.l
    have hfr0:(setsS (turnsS c.Rules.l row.l s 16) 16).1.Frame=s.Frame:=by rw[(Y0u _ 16).2.1,(K0s _ _ _ 16).2]
    have hsf:=(V0j hR).2.2.2
    have hstep:stepS c row.l s={hitsS c.Players (setsS (turnsS c.Rules.l row.l s 16) 16).1 16 with Frame:=min ((hitsS c.Players (setsS (turnsS c.Rules.l row.l s 16) 16).1 16).Frame+1) 600}:=by unfold stepS;rw[hR];simp only[Bool.true_eq_false,if_false]
    generalize hTk:turnsS c.Rules.l row.l s 16=T at hal g2 hlen hpl hok0 hfr0 hstep
    obtain⟨sk,lk⟩:=T
    simp only at hal g2 hlen hpl
    subst hal
    generalize hs2:(setsS (sk,al) 16).1=s2 at hpl hok0 hfr0 hstep
    (have zx:=zA e2 (zA e3 (zA e4 (zA e6 (zA e7 (zA e8 (zA e9 (zA g1 (zA g2 (zA g3 (zA g4 hlt))))))))));refine zq67 ?_;try exact zT)
    repeat'(apply zK.s<;>intro hc<;>(try simp only[zhd]at hc)<;>(try have hw:=X0a hc)<;>(refine zq67 ?_;try exact zT))
    all_goals(try clear zx)
    (show W C false noExt call (ZC.loop X1x) _ _ _);refine Q0i C false noExt call X1x _ _ _ (K67 c sk ⟨tl,al,ao⟩ p) al.length ⟨0,rfl,by omega,zev,zev,zev,zev,zev,g1,g2,g3,hn,hle⟩ ?_
    clear e2 e3 e4 e6 e7 e8 e9 g1 g2 g3 g4 happ hn hle hlt
    rintro n ρ q ⟨m,rfl,hm,e3,e4,e6,e8,e16,g1,g2,g3,hn,hle⟩
    simp only at hm g2 hlen
    by_cases hlt:(m:Int)<al.length
    ·(have zx:=zA e3 (zA e4 (zA e6 (zA e8 (zA e16 (zA g1 (zA g2 (zA g3 hlt)))))));refine zq67 ?_;try exact zT)
     repeat'(apply zK.s<;>intro hc<;>(try simp only[zhd]at hc)<;>(try have hw:=X0a hc)<;>(refine zq67 ?_;try exact zT))
     all_goals(try clear zx)
     (show W C false noExt call (ZC.loop Y1q) _ _ _);refine Q0i C false noExt call Y1q _ _ _ (L67 c (placeAll sk (al.take m)) ⟨tl,al,ao⟩ m p) 16 ⟨0,false,placeAll sk (al.take m),rfl,by omega,zev,zev,zev,zev,zev,zev,zev,g1,g2,g3,PlaceAt.start _ _,hn,hle⟩ ?_
     clear e3 e4 e6 e8 e16 g1 g2 g3 hn hle
     rintro n ρ q ⟨k,d,t,rfl,hk,e3,e4,e6,e8,e16,e17,e18,g1,g2,g3,hP,hn,hle⟩
     have hbt:=t.hBodies
     simp only at hP
     by_cases hlk:(k:Int)<16
     ·cases d with
      |true=>
       have hend:=hP.ended (.inl rfl)
       (have zx:=zA e3 (zA e4 (zA e6 (zA e8 (zA e16 (zA e17 (zA e18 (zA g1 (zA g2 (zA g3 hlk)))))))));refine zq67 ?_;try exact zT)
       repeat'(apply zK.s<;>intro hc<;>(try simp only[zhd]at hc)<;>(try have hw:=X0a hc)<;>(refine zq67 ?_;try exact zT))
       all_goals(try clear zx)
       exact⟨al.length-(m+1),by first|omega|(simp only;omega),m+1,rfl,by first|omega|(simp only;omega),zev,zev,zev,zev,zev,g1,by rw[g2,hend];simp only[X1b (show m<al.length by omega),X03],g3,hn,hle⟩
      |false=>
       by_cases h0:(nth t.Bodies k).Kind=0
       ·have hh:=hP.hit (by omega) h0
        (have zx:=zA e3 (zA e4 (zA e6 (zA e8 (zA e16 (zA e17 (zA e18 (zA g1 (zA g2 (zA g3 (zA hlk h0))))))))));refine zq67 ?_;try exact zT)
        repeat'(apply zK.s<;>intro hc<;>(try simp only[zhd]at hc)<;>(try have hw:=X0a hc)<;>(refine zq67 ?_;try exact zT))
        all_goals(try clear zx)
        exact⟨16-(k+1),by omega,k+1,true,_,rfl,by omega,zev,zev,zev,zev,zev,zev,zev,zg9,zg9,zg9,hh,zb9,zlq⟩
       ·have hh:=hP.miss (by omega) h0
        (have zx:=zA e3 (zA e4 (zA e6 (zA e8 (zA e16 (zA e17 (zA e18 (zA g1 (zA g2 (zA g3 (zA hlk h0))))))))));refine zq67 ?_;try exact zT)
        repeat'(apply zK.s<;>intro hc<;>(try simp only[zhd]at hc)<;>(try have hw:=X0a hc)<;>(refine zq67 ?_;try exact zT))
        all_goals(try clear zx)
        exact⟨16-(k+1),by omega,k+1,false,t,rfl,by omega,zev,zev,zev,zev,zev,zev,zev,g1,g2,g3,hh,hn,hle⟩
     ·have hend:=hP.ended (.inr (by omega))
      (have zx:=zA e3 (zA e4 (zA e6 (zA e8 (zA e16 (zA e17 (zA e18 (zA g1 (zA g2 (zA g3 hlk)))))))));refine zq67 ?_;try exact zT)
      repeat'(apply zK.s<;>intro hc<;>(try simp only[zhd]at hc)<;>(try have hw:=X0a hc)<;>(refine zq67 ?_;try exact zT))
      all_goals(try clear zx)
      exact⟨al.length-(m+1),by first|omega|(simp only;omega),m+1,rfl,by first|omega|(simp only;omega),zev,zev,zev,zev,zev,g1,by rw[g2,hend];simp only[X1b (show m<al.length by omega),X03],g3,hn,hle⟩
    ·have hm2:m=al.length:=by omega
     rw[hm2,List.take_of_length_le (Nat.le_refl _),<- hpl]at g2
     (have zx:=zA e3 (zA e4 (zA e6 (zA e8 (zA e16 (zA g1 (zA g2 (zA g3 hlt)))))));refine zq67 ?_;try exact zT)
     repeat'(apply zK.s<;>intro hc<;>(try simp only[zhd]at hc)<;>(try have hw:=X0a hc)<;>(refine zq67 ?_;try exact zT))
     all_goals(try clear zx)
     (show W C false noExt call (ZC.loop K1r) _ _ _);refine Q0i C false noExt call K1r _ _ _ (M67 c s2 p) 16 ⟨0,rfl,by omega,zev,zev,zev,zev,g1,g2,g3,hn,hle⟩ ?_
     clear e3 e4 e6 e8 e16 g1 g2 g3 hn hle hlt hm hm2
     rintro n ρ q ⟨i,rfl,hi,e3,e4,e6,e19,g1,g2,g3,hn,hle⟩
     by_cases hlt:(i:Int)<16
     ·have hok:=Z1r c.Players hok0 i hi
      have hst:hitsS c.Players s2 (i+1)=hitStep c.Players (hitsS c.Players s2 i) i:=rfl
      generalize hTi:hitsS c.Players s2 i=si at hst g2 hok
      (have zx:=zA e3 (zA e4 (zA e6 (zA e19 (zA g1 (zA g2 (zA g3 hlt))))));refine zq67 ?_;try exact zT)
      repeat'(apply zK.s<;>intro hc<;>(try simp only[zhd]at hc)<;>(try have hw:=X0a hc)<;>(refine zq67 ?_;try exact zT))
      all_goals(try clear zx)
      (show W C false noExt call (ZC.loop V1t) _ _ _);refine Q0i C false noExt call V1t _ _ _ (N67 c si i p) 16 ⟨0,si,rfl,by omega,zev,zev,zev,zev,zev,g1,g2,g3,HitAt.start _ _ _,hn,hle⟩ ?_
      clear e3 e4 e6 e19 g1 g2 g3 hn hle
      rintro n ρ q ⟨k,t,rfl,hk,e3,e4,e6,e19,e20,g1,g2,g3,hH,hn,hle⟩
      have hbt:=t.hBodies
      have hsc:=t.hScore
      by_cases hlk:(k:Int)<16
      ·by_cases hK:(nth t.Bodies i).Kind=2
       ·cases hx:strikeF (nth t.Bodies i) (nth t.Bodies k) with
        |false=>
         have hh:=hH.miss (by omega) hK hx
         by_cases hx1:(nth t.Bodies k).Kind=1
         ·have hx2:bodyHit (nth t.Bodies i) (nth t.Bodies k)=false:=by rw[hit_swap hx1 hK];simpa[strikeF,hx1]using hx
          (have zx:=zA e3 (zA e4 (zA e6 (zA e19 (zA e20 (zA g1 (zA g2 (zA g3 (zA hlk (zA hK (zA hx1 hx2))))))))));refine zq67 ?_;try exact zT)
          repeat'(apply zK.s<;>intro hc<;>(try simp only[zhd]at hc)<;>(try have hw:=X0a hc)<;>(refine zq67 ?_;try exact zT))
          all_goals(try clear zx)
          exact⟨16-(k+1),by omega,k+1,t,rfl,by omega,zev,zev,zev,zev,zev,zg9,zg9,zg9,hh,zb9,zlq⟩
         ·(have zx:=zA e3 (zA e4 (zA e6 (zA e19 (zA e20 (zA g1 (zA g2 (zA g3 (zA hlk (zA hK hx1)))))))));refine zq67 ?_;try exact zT)
          repeat'(apply zK.s<;>intro hc<;>(try simp only[zhd]at hc)<;>(try have hw:=X0a hc)<;>(refine zq67 ?_;try exact zT))
          all_goals(try clear zx)
          exact⟨16-(k+1),by omega,k+1,t,rfl,by omega,zev,zev,zev,zev,zev,zg9,zg9,zg9,hh,zb9,zlq⟩
        |true=>
         obtain⟨hts,hh⟩:=hH.hit (by omega) (by omega) hK hx
         subst hts
         have hx1:(nth t.Bodies k).Kind=1:=by simp only[strikeF,Bool.and_eq_true,decide_eq_true_eq]at hx;exact hx.1
         have hx2:bodyHit (nth t.Bodies i) (nth t.Bodies k)=true:=by rw[hit_swap hx1 hK];simpa[strikeF,hx1]using hx
         have ho:=hok.own i (by omega) hK
         have hsv:=hok.score (nth t.Bodies i).Owner.toNat (by omega)
         have hmm:min 2147483647 (nth t.Score (nth t.Bodies i).Owner.toNat+1)=min (nth t.Score (nth t.Bodies i).Owner.toNat+1) 2147483647:=by omega
         (have zx:=zA e3 (zA e4 (zA e6 (zA e19 (zA e20 (zA g1 (zA g2 (zA g3 (zA hlk (zA hK (zA hx1 (zA hx2 hmm)))))))))));refine zq67 ?_;try exact zT)
         repeat'(apply zK.s<;>intro hc<;>(try simp only[zhd]at hc)<;>(try have hw:=X0a hc)<;>(refine zq67 ?_;try exact zT))
         all_goals(try clear zx)
         exact⟨16-(k+1),by omega,k+1,_,rfl,by omega,zev,zev,zev,zev,zev,zg9,zg9,zg9,hh,zb9,zlq⟩
       ·have hend:=hH.ended (.inl hK)
        (have zx:=zA e3 (zA e4 (zA e6 (zA e19 (zA e20 (zA g1 (zA g2 (zA g3 (zA hlk hK))))))));refine zq67 ?_;try exact zT)
        repeat'(apply zK.s<;>intro hc<;>(try simp only[zhd]at hc)<;>(try have hw:=X0a hc)<;>(refine zq67 ?_;try exact zT))
        all_goals(try clear zx)
        exact⟨16-(i+1),by omega,i+1,rfl,by omega,zev,zev,zev,zev,g1,by rw[g2,hst,hend],g3,hn,hle⟩
      ·have hend:=hH.ended (.inr (by omega))
       (have zx:=zA e3 (zA e4 (zA e6 (zA e19 (zA e20 (zA g1 (zA g2 (zA g3 hlk)))))));refine zq67 ?_;try exact zT)
       repeat'(apply zK.s<;>intro hc<;>(try simp only[zhd]at hc)<;>(try have hw:=X0a hc)<;>(refine zq67 ?_;try exact zT))
       all_goals(try clear zx)
       exact⟨16-(i+1),by omega,i+1,rfl,by omega,zev,zev,zev,zev,g1,by rw[g2,hst,hend],g3,hn,hle⟩
     ·have hi16:i=16:=by omega
      subst hi16
      have hfr1:(hitsS c.Players s2 16).Frame=s.Frame:=by rw[Q05,hfr0]
      rw[hfr1]at hstep
      have hmm:min 600 ((hitsS c.Players s2 16).Frame+1)=min (s.Frame+1) 600:=by rw[hfr1];omega
      (have zx:=zA e3 (zA e4 (zA e6 (zA e19 (zA g1 (zA g2 (zA g3 (zA hlt (zA hfr1 hmm))))))));refine zq67 ?_;try exact zT)
      repeat'(apply zK.s<;>intro hc<;>(try simp only[zhd]at hc)<;>(try have hw:=X0a hc)<;>(refine zq67 ?_;try exact zT))
      all_goals(try clear zx)
      refine K0d hF zlq (Y0c ?_ (Z0c zno67))
      rw[hstep,show min (s.Frame+1) 600=min 600 (s.Frame+1) by omega]
theorem resP_nil(i:Nat)(f:X0b)(d:Int)(b:Q0a)(p:Hp): resP i f ⟨d,[],b⟩ p=.ret b.cv (p.set i (some (.var sh186 (frDice f d).cv))):=by simp[resP]
theorem resP_cons(i:Nat)(f:X0b)(d:Int)(x:Q0a)(m:List Q0a)(b:Q0a)(p:Hp): resP i f ⟨d,x::m,b⟩ p=.ret b.cv (((dropT f.shots.tl p).set i (some (.var sh186 (frShots (frDice f d) p.n (f.shots.l++x::m)).cv))).new (.tail (f.shots.l.length+(m.length+1)))):=by simp[resP]
theorem dropT_nil(p:Hp): dropT .nil p=p:=rfl
theorem dropT_own(j:Nat)(p:Hp): dropT (.own j) p=p.set j none:=rfl
def J137(i:Nat)(f:X0b)(p:Hp)(n:Nat)(ρ:Env)(q:Hp): Prop:=
 ∃(k:Nat) (sh:Lst Q0a),n=16-k/\k<=16/\ρ 0=.ptr i []/\ρ 8=.agg (f.s_.Bodies.map Q0a.cv)/\ρ 9=I k/\sh.l=(turnsS f.c_.Rules.l f.row.l f.s_ k).2/\q.t.get i=some (.var sh186 (X0b.mk f.c_ (turnsS f.c_.Rules.l f.row.l f.s_ k).1 f.row sh).cv)/\(sh.tl=.nil\/∃j,sh.tl=.own j/\p.n<=j/\j<q.n/\q.t.get j=some (.tail sh.l.length)/\0<sh.l.length)/\p.n<=q.n/\∀j o,j≠i->p.t.get j=some o->q.t.get j=some o
def R137: Rel:=fun args p r=>∃(i:Nat) (f:X0b),args=[.ptr i []]/\(p.t.get i=some (.var sh186 f.cv))/\(f.shots.tl=.nil)/\(f.c_.Rules.l.length<=100000)/\(∀b∈f.s_.Bodies,Body.right b=true)/\r=.ret (.tup []) (p.set i (some (.var sh186 (frTurns f).cv)))
theorem t137{T:XCall}(h:Has T 40 R137)(i:Nat)(f:X0b){p:Hp}(h1:p.t.get i=some (.var sh186 f.cv))(h2:f.shots.tl=.nil)(h3:f.c_.Rules.l.length<=100000)(h4:∀b∈f.s_.Bodies,Body.right b=true): T 40 [.ptr i []] p=.ret (.tup []) (p.set i (some (.var sh186 (frTurns f).cv))):=h _ _ _ ⟨i,f,rfl,h1,h2,h3,h4,rfl⟩
theorem zdis137{P:Prop}(h:P:=by first|exact zdis|(exact OwnT_nil _ _ _ _)|(refine OwnT_own ?_ ?_ ?_<;>exact zdis)|(simp only[Hp.bump_n,Hp.znew_n,Hp.zset_n,List.length_nil,List.length_cons,List.length_append,List.length_map];(first|done|omega))|(simp (disch:=first|exact zd1|(simp only[Hp.bump_n,Hp.znew_n,Hp.zset_n,List.length_nil,List.length_cons,List.length_append,List.length_map];(first|done|omega))) only[zheap,zx];(first|done|rfl))|fail): P:=h
theorem zq137{A B:Prop}(k:B)(h:A=B:=by have zy:=zA @zw137<|zA @rs137<|zA @tt3<|zA @tt34<|zA @tt63<|zA @tt66<|zA @tt186<|zA ti3.eq_1<|zA ti34.eq_1<|zA ti63.eq_1<|zA ti66.eq_1<|zA ti186.eq_1<|zA @t_177<|zA @t_178<|zA @X0i<|zA @Q0f<|zA @Q0e<|zA @zsl63<|zA @resP_nil<|zA @resP_cons<|zA @dropT_nil<|zA @dropT_own<|zA @h1<|zA @h2<|zA @h3<|@h4;have zd:=@zdis137;exact zQd): A:=h▸k
theorem zno137{P:Prop}(h:P:=by intro jj;simp[CV.has,CV.hasL,fault,Z0b.nohas,Y0a.nohas,Q0a.nohas]): P:=h
theorem c137: Con C 40 R137:=by
 refine K0e C ?_ ?_ ?_
 ·rintro args p r r' ⟨i,f,h,h1,h2,h3,h4,e⟩ ⟨i',f',h',h1',h2',h3',h4',e'⟩
  subst e;subst e';simp_all[X0b.inj_iff,Y0a.inj_iff,Q0a.inj_iff]
 ·rintro args p r ⟨i,f,h,h1,h2,h3,h4,rfl⟩;exact zr1
 ·rintro args p r ⟨i,f,rfl,h1,h2,h3,h4,rfl⟩
  refine zW C false [(60,R177),(61,R178)] ⟨c177,c178,zT⟩ rfl xf137 zc137_ok fun call zh hF=>?_
  have t_177:=@t177 _ zh.1
  have t_178:=@t178 _ zh.2.1
  clear zh
  have hd_h1:=hF.dom _ _ h1
  have hb:=f.s_.hBodies
  have hs0:=own_nil h2
  (have zx:=h1;refine zq137 ?_;try exact zT)
  repeat'(apply zK.s<;>intro hc<;>(try simp only[zhd]at hc)<;>(try have hw:=X0a hc)<;>(refine zq137 ?_;try exact zT))
  all_goals(try clear zx)
  (show W C false noExt call (ZC.loop V1u) _ _ _);refine Q0i C false noExt call V1u _ _ _ (J137 i f p) 16 ⟨0,f.shots,rfl,by omega,(by simp[put_at,Q0d,Z0d]),(by simp[put_at,Q0d,Z0d]),(by simp[put_at,Q0d,Z0d]),hs0,h1,.inl h2,Nat.le_refl _,fun _ _ _ h=>h⟩ ?_
  rintro n ρ q ⟨k,⟨tl,al,ao⟩,rfl,hk,e0,e8,e9,hal,g1,happ,hn,hle⟩
  have hi:i<q.n:=Nat.lt_of_lt_of_le hd_h1 hn
  have hlen:=X06 f.c_.Rules.l f.row.l f.s_ k
  have hroom:frRoom ⟨f.c_,(turnsS f.c_.Rules.l f.row.l f.s_ k).1,f.row,⟨tl,al,ao⟩⟩=freeN (turnsS f.c_.Rules.l f.row.l f.s_ k).1.Bodies-(turnsS f.c_.Rules.l f.row.l f.s_ k).2.length:=by simp only at hal;simp[frRoom,hal]
  by_cases hlt:(k:Int)<16
  ·have hr:Body.right (nth f.s_.Bodies k)=true:=h4 _ (by rw[V0x (by omega)];exact List.getElem_mem _)
   have hst:turnsS f.c_.Rules.l f.row.l f.s_ (k+1)=turnStep f.c_.Rules.l f.row.l f.s_.Bodies (turnsS f.c_.Rules.l f.row.l f.s_ k) k:=rfl
   have hbk:=(turnsS f.c_.Rules.l f.row.l f.s_ k).1.hBodies
   generalize hTk:turnsS f.c_.Rules.l f.row.l f.s_ k=T at hst hal g1 hlen hroom hbk
   obtain⟨sk,lk⟩:=T
   simp only at hal g1 hlen hroom hbk
   subst hal
   generalize hbb:nth f.s_.Bodies k=b at hr hst
   by_cases hK:b.Kind=1
   ·have hrb:=Z0f hr (by omega)
    obtain⟨⟨td,tsh,tb⟩,ht⟩:∃t,playerTurn f.c_.Rules.l f.row.l sk.Dice (freeN sk.Bodies-al.length) b=t:=⟨_,rfl⟩
    simp only[turnStep,hbb,bodyTurn,hK,if_true,ht]at hst
    cases tsh with
    |nil=>
     rcases happ with k3|⟨j,k3,hj1,hj2,g2,hj3⟩
     ·simp only at k3
      subst k3
      (have zx:=zA e0 (zA e8 (zA e9 (zA g1 (zA hlt (zA hbb (zA hK (zA hroom (zA ht h1))))))));refine zq137 ?_;try exact zT)
      repeat'(apply zK.s<;>intro hc<;>(try simp only[zhd]at hc)<;>(try have hw:=X0a hc)<;>(refine zq137 ?_;try exact zT))
      all_goals(try clear zx)
      exact⟨16-(k+1),by omega,k+1,⟨.nil,al,ao⟩,rfl,by omega,zev,zev,zev,by rw[hst];simp,by rw[hst];simp (disch:=first|exact zdl|fail) only[zheap];first|done|rfl,.inl rfl,zb9,fun a o ha h=>by have hd:=hF.dom a o h;simp (disch:=first|exact zdl|fail) only[Hp.bump_get,Hp.get_set_ne,Hp.get_new_ne];exact hle a o ha h⟩
     ·simp only at k3 g2 hj3
      subst k3
      (have zx:=zA e0 (zA e8 (zA e9 (zA g1 (zA g2 (zA hlt (zA hbb (zA hK (zA hroom (zA ht h1)))))))));refine zq137 ?_;try exact zT)
      repeat'(apply zK.s<;>intro hc<;>(try simp only[zhd]at hc)<;>(try have hw:=X0a hc)<;>(refine zq137 ?_;try exact zT))
      all_goals(try clear zx)
      exact⟨16-(k+1),by omega,k+1,⟨.own j,al,ao⟩,rfl,by omega,zev,zev,zev,by rw[hst];simp,by rw[hst];simp (disch:=first|exact zdl|fail) only[zheap];first|done|rfl,.inr ⟨j,rfl,hj1,zb9,zg9,hj3⟩,zb9,fun a o ha h=>by have hd:=hF.dom a o h;simp (disch:=first|exact zdl|fail) only[Hp.bump_get,Hp.get_set_ne,Hp.get_new_ne];exact hle a o ha h⟩
    |cons x m=>
     rcases happ with k3|⟨j,k3,hj1,hj2,g2,hj3⟩
     ·simp only at k3
      subst k3
      (have zx:=zA e0 (zA e8 (zA e9 (zA g1 (zA hlt (zA hbb (zA hK (zA hroom (zA ht h1))))))));refine zq137 ?_;try exact zT)
      repeat'(apply zK.s<;>intro hc<;>(try simp only[zhd]at hc)<;>(try have hw:=X0a hc)<;>(refine zq137 ?_;try exact zT))
      all_goals(try clear zx)
      exact⟨16-(k+1),by omega,k+1,⟨.own (q.n+1),al++x::m,nofun⟩,rfl,by omega,zev,zev,zev,by rw[hst],by rw[hst];simp (disch:=first|exact zdl|fail) only[zheap];first|done|rfl,.inr ⟨q.n+1,rfl,by omega,zb9,by simp (disch:=first|exact zdl|fail) only[zheap,List.length_append,List.length_cons],by simp;omega⟩,zb9,fun a o ha h=>by have hd:=hF.dom a o h;simp (disch:=first|exact zdl|fail) only[Hp.bump_get,Hp.get_set_ne,Hp.get_new_ne];exact hle a o ha h⟩
     ·simp only at k3 g2 hj3
      subst k3
      (have zx:=zA e0 (zA e8 (zA e9 (zA g1 (zA g2 (zA hlt (zA hbb (zA hK (zA hroom (zA ht h1)))))))));refine zq137 ?_;try exact zT)
      repeat'(apply zK.s<;>intro hc<;>(try simp only[zhd]at hc)<;>(try have hw:=X0a hc)<;>(refine zq137 ?_;try exact zT))
      all_goals(try clear zx)
      exact⟨16-(k+1),by omega,k+1,⟨.own (q.n+1),al++x::m,nofun⟩,rfl,by omega,zev,zev,zev,by rw[hst],by rw[hst];simp (disch:=first|exact zdl|fail) only[zheap];first|done|rfl,.inr ⟨q.n+1,rfl,by omega,zb9,by simp (disch:=first|exact zdl|fail) only[zheap,List.length_append,List.length_cons],by simp;omega⟩,zb9,fun a o ha h=>by have hd:=hF.dom a o h;simp (disch:=first|exact zdl|fail) only[Hp.bump_get,Hp.get_set_ne,Hp.get_new_ne];exact hle a o ha h⟩
   ·simp only[turnStep,hbb,bodyTurn,hK,if_false,List.append_nil]at hst
    have happ2:tl=.nil\/∃j,tl=.own j/\p.n<=j/\j<q.n/\q.t.get j=some (.tail al.length)/\0<al.length:=happ
    (have zx:=zA e0 (zA e8 (zA e9 (zA g1 (zA hlt (zA hbb (zA hK h1))))));refine zq137 ?_;try exact zT)
    repeat'(apply zK.s<;>intro hc<;>(try simp only[zhd]at hc)<;>(try have hw:=X0a hc)<;>(refine zq137 ?_;try exact zT))
    all_goals(try clear zx)
    refine⟨16-(k+1),by omega,k+1,⟨tl,al,ao⟩,rfl,by omega,zev,zev,zev,by rw[hst],by rw[hst];simp (disch:=first|exact zdl|fail) only[zheap];first|done|rfl,?_,zb9,fun a o ha h=>by have hd:=hF.dom a o h;simp (disch:=first|exact zdl|fail) only[Hp.bump_get,Hp.get_set_ne,Hp.get_new_ne];exact hle a o ha h⟩
    rcases happ2 with a1|⟨j,a1,a2,a3,a4,a5⟩
    ·exact .inl a1
    ·have hji:j≠i:=by omega
     refine .inr ⟨j,a1,a2,zb9,?_,a5⟩
     simp (disch:=first|exact zdl|fail) only[zheap,a4]
  ·have hk16:k=16:=by omega
   subst hk16
   (have zx:=zA e0 (zA e8 (zA e9 (zA g1 (zA hlt h1))));refine zq137 ?_;try exact zT)
   repeat'(apply zK.s<;>intro hc<;>(try simp only[zhd]at hc)<;>(try have hw:=X0a hc)<;>(refine zq137 ?_;try exact zT))
   all_goals(try clear zx)
   refine Y0k hF hd_h1 hle ⟨_,g1,?_⟩ (Y0d (Z0c zno137))
   have hre:∀j,f.c_.Rules.tl=.own j\/f.c_.Tokens.tl=.own j\/f.row.tl=.own j->j<p.n:=fun j hj=>
    hF.lt_obj (.arg (a:=CV.ptr i []) (by simp) rfl) h1 j (by
     simp only[XObj.has,X0b.has,K0a.has]
     rcases hj with h|h|h<;>simp[h])
   simp only at hal
   subst hal
   exact Q1f f.c_ (turnsS f.c_.Rules.l f.row.l f.s_ 16).1 f.row ⟨tl,_,ao⟩ p.n hre (happ.imp id fun⟨j,a1,_,_,_,a5⟩=>⟨⟨j,a1⟩,a5⟩)
theorem zs37(h:Heap)(x:Q0a)(m:List Q0a)(o:_): qslice C h 78 (Lst.cv Q0a.cv ⟨.part,x::m,o⟩) (some (I 1)) none none=some (Lst.cv Q0a.cv ⟨.part,m,nofun⟩):=qslice_tl C Q0a.cv tt37 tt34 Q0a.shape h x m o
theorem nth_cons0{α:Type}[Inhabited α](x:α)(l:List α): nth (x::l) 0=x:=rfl
def J138(i:Nat)(f:X0b)(p:Hp)(n:Nat)(ρ:Env)(q:Hp): Prop:=
 ∃(k:Nat) (sh:Lst Q0a),n=16-k/\k<=16/\ρ 0=.ptr i []/\ρ 8=.agg (f.s_.Bodies.map Q0a.cv)/\ρ 9=I k/\sh.l=(setsS (f.s_,f.shots.l) k).2/\q.t.get i=some (.var sh186 (X0b.mk f.c_ (setsS (f.s_,f.shots.l) k).1 f.row sh).cv)/\(sh.tl=.nil\/sh.tl=.part)/\p.n<=q.n/\∀j o,j≠i->p.t.get j=some o->q.t.get j=some o
def R138: Rel:=fun args p r=>∃(i:Nat) (f:X0b),args=[.ptr i []]/\(p.t.get i=some (.var sh186 f.cv))/\(f.shots.tl=.nil\/f.shots.tl=.part)/\r=.ret (.tup []) (p.set i (some (.var sh186 (frSets f).cv)))
theorem t138{T:XCall}(h:Has T 41 R138)(i:Nat)(f:X0b){p:Hp}(h1:p.t.get i=some (.var sh186 f.cv))(h2:f.shots.tl=.nil\/f.shots.tl=.part): T 41 [.ptr i []] p=.ret (.tup []) (p.set i (some (.var sh186 (frSets f).cv))):=h _ _ _ ⟨i,f,rfl,h1,h2,rfl⟩
theorem zq138{A B:Prop}(k:B)(h:A=B:=by have zy:=zA @zw138<|zA @rs138<|zA @tt3<|zA @tt34<|zA @tt37<|zA @tt63<|zA @tt66<|zA @tt186<|zA ti3.eq_1<|zA ti34.eq_1<|zA ti37.eq_1<|zA ti63.eq_1<|zA ti66.eq_1<|zA ti186.eq_1<|zA @X0i<|zA @Q0f<|zA @Q0e<|zA @zsl37<|zA @zsl63<|zA @zs37<|zA @nth_cons0<|zA @h1<|@h2;exact zQ): A:=h▸k
theorem zno138{P:Prop}(h:P:=by intro jj;simp[CV.has,CV.hasL,fault,Z0b.nohas,Y0a.nohas,Q0a.nohas]): P:=h
theorem c138: Con C 41 R138:=by
 refine K0e C ?_ ?_ ?_
 ·rintro args p r r' ⟨i,f,h,h1,h2,e⟩ ⟨i',f',h',h1',h2',e'⟩
  subst e;subst e';simp_all[X0b.inj_iff,Y0a.inj_iff,Q0a.inj_iff,K0q]
 ·rintro args p r ⟨i,f,h,h1,h2,rfl⟩;exact zr1
 ·rintro args p r ⟨i,f,rfl,h1,h2,rfl⟩
  refine zW C false [] zT rfl xf138 zc138_ok fun call zh hF=>?_
  clear zh
  have hd_h1:=hF.dom _ _ h1
  have hb:=f.s_.hBodies
  (have zx:=h1;refine zq138 ?_;try exact zT)
  repeat'(apply zK.s<;>intro hc<;>(try simp only[zhd]at hc)<;>(try have hw:=X0a hc)<;>(refine zq138 ?_;try exact zT))
  all_goals(try clear zx)
  (show W C false noExt call (ZC.loop X1q) _ _ _);refine Q0i C false noExt call X1q _ _ _ (J138 i f p) 16 ⟨0,f.shots,rfl,by omega,(by simp[put_at,Q0d,Z0d]),(by simp[put_at,Q0d,Z0d]),(by simp[put_at,Q0d,Z0d]),rfl,h1,h2,Nat.le_refl _,fun _ _ _ h=>h⟩ ?_
  rintro n ρ q ⟨k,⟨tl,al,ao⟩,rfl,hk,e0,e8,e9,hal,g1,htl,hn,hle⟩
  have hi:i<q.n:=Nat.lt_of_lt_of_le hd_h1 hn
  by_cases hlt:(k:Int)<16
  ·have hst:setsS (f.s_,f.shots.l) (k+1)=setStep (setsS (f.s_,f.shots.l) k) k:=rfl
   have hkeep:nth (setsS (f.s_,f.shots.l) k).1.Bodies k=nth f.s_.Bodies k:=Y1n (f.s_,f.shots.l) k k (Nat.le_refl _)
   have hbk:=(setsS (f.s_,f.shots.l) k).1.hBodies
   generalize hTk:setsS (f.s_,f.shots.l) k=T at hst hal g1 hkeep hbk
   obtain⟨sk,lk⟩:=T
   simp only at hal g1 hkeep hbk
   subst hal
   by_cases hK:(nth f.s_.Bodies k).Kind=0
   ·cases al with
    |nil=>
     simp only[setStep]at hst
     (have zx:=zA e0 (zA e8 (zA e9 (zA g1 (zA hlt (zA hK h1)))));refine zq138 ?_;try exact zT)
     repeat'(apply zK.s<;>intro hc<;>(try simp only[zhd]at hc)<;>(try have hw:=X0a hc)<;>(refine zq138 ?_;try exact zT))
     all_goals(try clear zx)
     exact⟨16-(k+1),by omega,k+1,⟨tl,[],ao⟩,rfl,by omega,zev,zev,zev,by rw[hst],by rw[hst];simp (disch:=first|exact zdl|fail) only[zheap,g1],htl,zb9,fun a o ha h=>by have hd:=hF.dom a o h;simp (disch:=first|exact zdl|fail) only[Hp.bump_get,Hp.get_set_ne,Hp.get_new_ne];exact hle a o ha h⟩
    |cons x m=>
     have htp:tl=.part:=by
      rcases htl with h|h
      ·simp only at h;subst h;cases(ao rfl)
      ·exact h
     subst htp
     simp only[setStep,hkeep,hK,if_true]at hst
     (have zx:=zA e0 (zA e8 (zA e9 (zA g1 (zA hlt (zA hK h1)))));refine zq138 ?_;try exact zT)
     repeat'(apply zK.s<;>intro hc<;>(try simp only[zhd]at hc)<;>(try have hw:=X0a hc)<;>(refine zq138 ?_;try exact zT))
     all_goals(try clear zx)
     all_goals first|(exfalso;omega)|skip
     exact⟨16-(k+1),by omega,k+1,⟨.part,m,nofun⟩,rfl,by omega,zev,zev,zev,by rw[hst],by rw[hst];simp (disch:=first|exact zdl|fail) only[zheap];first|done|rfl,.inr rfl,zb9,fun a o ha h=>by have hd:=hF.dom a o h;simp (disch:=first|exact zdl|fail) only[Hp.bump_get,Hp.get_set_ne,Hp.get_new_ne];exact hle a o ha h⟩
   ·have hst2:setsS (f.s_,f.shots.l) (k+1)=(sk,al):=by rw[hst];simp only[setStep];cases al<;>simp[hkeep,hK]
    (have zx:=zA e0 (zA e8 (zA e9 (zA g1 (zA hlt (zA hK h1)))));refine zq138 ?_;try exact zT)
    repeat'(apply zK.s<;>intro hc<;>(try simp only[zhd]at hc)<;>(try have hw:=X0a hc)<;>(refine zq138 ?_;try exact zT))
    all_goals(try clear zx)
    exact⟨16-(k+1),by omega,k+1,⟨tl,al,ao⟩,rfl,by omega,zev,zev,zev,by rw[hst2],by rw[hst2];simp (disch:=first|exact zdl|fail) only[zheap,g1],htl,zb9,fun a o ha h=>by have hd:=hF.dom a o h;simp (disch:=first|exact zdl|fail) only[Hp.bump_get,Hp.get_set_ne,Hp.get_new_ne];exact hle a o ha h⟩
  ·have hk16:k=16:=by omega
   subst hk16
   (have zx:=zA e0 (zA e8 (zA e9 (zA g1 (zA hlt h1))));refine zq138 ?_;try exact zT)
   repeat'(apply zK.s<;>intro hc<;>(try simp only[zhd]at hc)<;>(try have hw:=X0a hc)<;>(refine zq138 ?_;try exact zT))
   all_goals(try clear zx)
   refine Y0k hF hd_h1 hle ⟨_,g1,?_⟩ (Y0d (Z0c zno138))
   have hre:∀j,f.c_.Rules.tl=.own j\/f.c_.Tokens.tl=.own j\/f.row.tl=.own j->j<p.n:=fun j hj=>
    hF.lt_obj (.arg (a:=CV.ptr i []) (by simp) rfl) h1 j (by
     simp only[XObj.has,X0b.has,K0a.has]
     rcases hj with h|h|h<;>simp[h])
   exact K1f f.c_ (setsS (f.s_,f.shots.l) 16).1 f.row ⟨tl,al,ao⟩ _ hal p.n hre
def J139(i:Nat)(f:X0b)(p:Hp)(n:Nat)(ρ:Env)(q:Hp): Prop:=
 ∃(k:Nat),n=16-k/\k<=16/\ρ 0=.ptr i []/\ρ 6=I k/\q.t.get i=some (.var sh186 (X0b.mk f.c_ (hitsS f.c_.Players f.s_ k) f.row f.shots).cv)/\p.n<=q.n/\∀j o,j≠i->p.t.get j=some o->q.t.get j=some o
def R139: Rel:=fun args p r=>∃(i:Nat) (f:X0b),args=[.ptr i []]/\(p.t.get i=some (.var sh186 f.cv))/\(HitOk f.s_)/\r=.ret (.tup []) (p.set i (some (.var sh186 (frHits f).cv)))
theorem t139{T:XCall}(h:Has T 42 R139)(i:Nat)(f:X0b){p:Hp}(h1:p.t.get i=some (.var sh186 f.cv))(h2:HitOk f.s_): T 42 [.ptr i []] p=.ret (.tup []) (p.set i (some (.var sh186 (frHits f).cv))):=h _ _ _ ⟨i,f,rfl,h1,h2,rfl⟩
theorem zq139{A B:Prop}(k:B)(h:A=B:=by have zy:=zA @zw139<|zA @rs139<|zA @tt3<|zA @tt34<|zA @tt61<|zA @tt63<|zA @tt64<|zA @tt66<|zA @tt186<|zA ti3.eq_1<|zA ti34.eq_1<|zA ti61.eq_1<|zA ti63.eq_1<|zA ti64.eq_1<|zA ti66.eq_1<|zA ti186.eq_1<|zA @t_179<|zA @t_64<|zA @X0i<|zA @Q0f<|zA @Q0e<|zA @X0e<|zA @zsl63<|zA @zsl64<|zA @h1<|@h2;exact zQ): A:=h▸k
theorem zno139{P:Prop}(h:P:=by intro jj;simp[CV.has,CV.hasL,fault,Z0b.nohas,Y0a.nohas,Q0a.nohas]): P:=h
theorem c139: Con C 42 R139:=by
 refine K0e C ?_ ?_ ?_
 ·rintro args p r r' ⟨i,f,h,h1,h2,e⟩ ⟨i',f',h',h1',h2',e'⟩
  subst e;subst e';simp_all[X0b.inj_iff,Y0a.inj_iff,Q0a.inj_iff,K0a.inj_iff]
 ·rintro args p r ⟨i,f,h,h1,h2,rfl⟩;exact zr1
 ·rintro args p r ⟨i,f,rfl,h1,h2,rfl⟩
  refine zW C false [(62,R179),(37,R64)] ⟨c179,c64,zT⟩ rfl xf139 zc139_ok fun call zh hF=>?_
  have t_179:=@t179 _ zh.1
  have t_64:=@t64 _ zh.2.1
  clear zh
  have hd_h1:=hF.dom _ _ h1
  (have zx:=h1;refine zq139 ?_;try exact zT)
  repeat'(apply zK.s<;>intro hc<;>(try simp only[zhd]at hc)<;>(try have hw:=X0a hc)<;>(refine zq139 ?_;try exact zT))
  all_goals(try clear zx)
  (show W C false noExt call (ZC.loop Z1t) _ _ _);refine Q0i C false noExt call Z1t _ _ _ (J139 i f p) 16 ⟨0,rfl,by omega,(by simp[put_at,Q0d,Z0d]),(by simp[put_at,Q0d,Z0d]),h1,Nat.le_refl _,fun _ _ _ h=>h⟩ ?_
  rintro n ρ q ⟨k,rfl,hk,e0,e6,g1,hn,hle⟩
  have hi:i<q.n:=Nat.lt_of_lt_of_le hd_h1 hn
  by_cases hlt:(k:Int)<16
  ·have hok:=Z1r f.c_.Players h2 k hk
   have hst:hitsS f.c_.Players f.s_ (k+1)=hitStep f.c_.Players (hitsS f.c_.Players f.s_ k) k:=rfl
   generalize hTk:hitsS f.c_.Players f.s_ k=s at hst g1 hok
   have hbk:=s.hBodies
   have hsc:=s.hScore
   by_cases hK:(nth s.Bodies k).Kind=2
   ·have ho:=hok.own k (by omega) hK
    have hsv:=hok.score (nth s.Bodies k).Owner.toNat (by omega)
    rcases struck_spec s.Bodies (nth s.Bodies k)with ha|⟨at_,ha1,ha,ha2,_⟩
    ·have hst2:hitStep f.c_.Players s k=s:=by simp[hitStep,hK,ha]
     (have zx:=zA e0 (zA e6 (zA g1 (zA hlt (zA hK (zA ha h1)))));refine zq139 ?_;try exact zT)
     repeat'(apply zK.s<;>intro hc<;>(try simp only[zhd]at hc)<;>(try have hw:=X0a hc)<;>(refine zq139 ?_;try exact zT))
     all_goals(try clear zx)
     exact⟨16-(k+1),by omega,k+1,rfl,by omega,zev,zev,by rw[hst,hst2];simp (disch:=first|exact zdl|fail) only[zheap,g1];first|done|rfl,zb9,fun a o ha' h=>by have hd:=hF.dom a o h;simp (disch:=first|exact zdl|fail) only[Hp.bump_get,Hp.get_set_ne,Hp.get_new_ne];exact hle a o ha' h⟩
    ·have hak:at_≠k:=by intro e;subst e;omega
     have hst2:hitStep f.c_.Players s k=((s.put_3k (nth s.Bodies k).Owner.toNat (min (nth s.Score (nth s.Bodies k).Owner.toNat+1) 2147483647)).put_2k k Q0a.zero).put_2k at_ (again f.c_.Players (nth ((s.put_3k (nth s.Bodies k).Owner.toNat (min (nth s.Score (nth s.Bodies k).Owner.toNat+1) 2147483647)).put_2k k Q0a.zero).Bodies at_)):=by
      have hng:¬((at_:Int)<0):=by omega
      simp only[hitStep,hK,ha,hng,ne_eq,not_true,if_false,Int.toNat_natCast]
     have hng:¬((at_:Int)<0):=by omega
     (have zx:=zA e0 (zA e6 (zA g1 (zA hlt (zA hK (zA ha (zA hng h1))))));refine zq139 ?_;try exact zT)
     repeat'(apply zK.s<;>intro hc<;>(try simp only[zhd]at hc)<;>(try have hw:=X0a hc)<;>(refine zq139 ?_;try exact zT))
     all_goals(try clear zx)
     exact⟨16-(k+1),by omega,k+1,rfl,by omega,zev,zev,by rw[hst,hst2];simp (disch:=first|exact zdl|fail) only[zheap,g1];first|done|rfl,zb9,fun a o ha' h=>by have hd:=hF.dom a o h;simp (disch:=first|exact zdl|fail) only[Hp.bump_get,Hp.get_set_ne,Hp.get_new_ne];exact hle a o ha' h⟩
   ·have hst2:hitStep f.c_.Players s k=s:=by simp[hitStep,hK]
    (have zx:=zA e0 (zA e6 (zA g1 (zA hlt (zA hK h1))));refine zq139 ?_;try exact zT)
    repeat'(apply zK.s<;>intro hc<;>(try simp only[zhd]at hc)<;>(try have hw:=X0a hc)<;>(refine zq139 ?_;try exact zT))
    all_goals(try clear zx)
    exact⟨16-(k+1),by omega,k+1,rfl,by omega,zev,zev,by rw[hst,hst2];simp (disch:=first|exact zdl|fail) only[zheap,g1];first|done|rfl,zb9,fun a o ha' h=>by have hd:=hF.dom a o h;simp (disch:=first|exact zdl|fail) only[Hp.bump_get,Hp.get_set_ne,Hp.get_new_ne];exact hle a o ha' h⟩
  ·have hk16:k=16:=by omega
   subst hk16
   (have zx:=zA e0 (zA e6 (zA g1 (zA hlt h1)));refine zq139 ?_;try exact zT)
   repeat'(apply zK.s<;>intro hc<;>(try simp only[zhd]at hc)<;>(try have hw:=X0a hc)<;>(refine zq139 ?_;try exact zT))
   all_goals(try clear zx)
   refine Y0k hF hd_h1 hle ⟨_,g1,Y0j rfl fun j hj=>?_⟩ (Y0d (Z0c zno139))
   refine hF.lt_obj (.arg (a:=CV.ptr i []) (by simp) rfl) h1 j ?_
   simp only[XObj.has,X0b.has,frHits]at hj ⊢
   exact hj
def mapE(seen:List Int): List (CV×CV):=seen.map fun n=>(I n,Bo true)
theorem Q06(n:Int): ∀(seen:List Int) (k:Nat),(seen.contains n=false/\findK .i64 n k (mapE seen)=some none)\/(seen.contains n=true/\∃j,findK .i64 n k (mapE seen)=some (some (j,Bo true)))
 |[],k=>.inl ⟨rfl,rfl⟩
 |x::l,k=>by
  have hf:findK .i64 n k (mapE (x::l))=bif decide (n=x)then some (some (k,Bo true))else findK .i64 n (k+1) (mapE l):=by
   simp only[mapE,List.map_cons,findK,if_true]
  by_cases h:n=x
  ·right;rw[hf];simp[h]
  ·rcases Q06 n l (k+1) with⟨h1,h2⟩|⟨h1,j,h2⟩
   ·left;rw[hf];simp only[h,decide_false,cond_false];exact⟨by simp only[List.contains_cons,h1,Bool.or_false];simp[h],h2⟩
   ·right;rw[hf];simp only[h,decide_false,cond_false];exact⟨by simp only[List.contains_cons,h1,Bool.or_true],j,h2⟩
theorem look224(p:Hp)(i:Nat)(n:Int)(seen:List Int)(h:p.t.get i=some (.map (mapE seen))): xlookup C p 100 (.mapr i) (I n) false=.ret (Bo (seen.contains n)) p:=by
 have hm:mapKV C 100=some (4,ti4):=by simp only[mapKV,tt224,ti224,tt3,ti3,tt4]
 simp only[xlookup,hm,entriesOf,h]
 rcases Q06 n seen 0 with⟨h1,h2⟩|⟨h1,j,h2⟩
 ·rw[h2,h1];rfl
 ·rw[h2,h1];rfl
theorem upd224(p:Hp)(i:Nat)(n:Int)(seen:List Int)(h:p.t.get i=some (.map (mapE seen)))(hn:seen.contains n=false): xupdate C p 100 (.mapr i) (I n) (Bo true)=.ret (.tup []) (p.set i (some (.map (mapE (seen++[n]))))):=by
 have hm:mapKV C 100=some (4,ti4):=by simp only[mapKV,tt224,ti224,tt3,ti3,tt4]
 simp only[xupdate,hm,h]
 rcases Q06 n seen 0 with⟨h1,h2⟩|⟨h1,j,h2⟩
 ·rw[h2];simp[mapE]
 ·rw[hn]at h1;cases h1
theorem mkmap(p:Hp): xmakeMap p=.ret (.mapr p.n) (p.new (.map (mapE []))):=rfl
def J136(c:K0a)(p:Hp)(n:Nat)(ρ:Env)(q:Hp): Prop:=
 ∃(k:Nat),n=c.Tokens.l.length-k/\k<=c.Tokens.l.length/\ρ 1=.ptr p.n []/\ρ 3=.mapr (p.n+1)/\ρ 8=Lst.cv I c.Tokens/\ρ 9=I c.Tokens.l.length/\ρ 10=I k/\q.t.get p.n=some (.var sh61 c.cv)/\q.t.get (p.n+1)=some (.map (mapE (c.Tokens.l.take k)))/\tokGo (c.Tokens.l.take k) (c.Tokens.l.drop k)=tokGo [] c.Tokens.l/\p.n+1<q.n/\HpLe p q
def R136: Rel:=fun args p r=>∃(c:K0a),args=[c.cv]/\(c.Tokens.l.length<=1000000)/\r=.ret (Bo (tokGo [] c.Tokens.l&&decide ((c.Tokens.l.length:Int)=c.Players))) p
theorem t136{T:XCall}(h:Has T 30 R136)(c:K0a){p:Hp}(hl:c.Tokens.l.length<=1000000): T 30 [c.cv] p=.ret (Bo (tokGo [] c.Tokens.l&&decide ((c.Tokens.l.length:Int)=c.Players))) p:=h _ _ _ ⟨c,rfl,hl,rfl⟩
theorem zq136{A B:Prop}(k:B)(h:A=B:=by have zy:=zA @zw136<|zA @rs136<|zA @tt3<|zA @tt24<|zA @tt61<|zA @tt224<|zA ti3.eq_1<|zA ti24.eq_1<|zA ti61.eq_1<|zA ti224.eq_1<|zA @t_106<|zA @X0e<|zA @zsl24<|zA @look224<|zA @upd224<|zA @mkmap<|@hl;exact zQ): A:=h▸k
theorem zno136{P:Prop}(h:P:=by intro jj;simp[CV.has,CV.hasL,fault,Z0b.nohas]): P:=h
theorem zge136{P:Prop}(h:P:=by simp (disch:=first|exact zdl|fail) only[zheap];first|done|rfl): P:=h
theorem c136: Con C 30 R136:=by
 refine K0e C ?_ ?_ ?_
 ·rintro args p r r' ⟨c,h,hl,e⟩ ⟨c',h',hl',e'⟩
  subst e;subst e';simp_all[K0a.inj_iff,X0p]
 ·rintro args p r ⟨c,h,hl,rfl⟩;exact zr1
 ·rintro args p r ⟨c,rfl,hl,rfl⟩
  refine zW C false [(27,R106)] ⟨c106,zT⟩ rfl xf136 zc136_ok fun call zh hF=>?_
  have t_106:=@t106 _ zh.1
  clear zh
  (have zx:=zT;refine zq136 ?_;try exact zT)
  repeat'(apply zK.s<;>intro hc<;>(try simp only[zhd]at hc)<;>(try have hw:=X0a hc)<;>(refine zq136 ?_;try exact zT))
  all_goals(try clear zx)
  (show W C false noExt call (ZC.loop K1s) _ _ _);refine Q0i C false noExt call K1s _ _ _ (J136 c p) c.Tokens.l.length ⟨0,rfl,by omega,(by simp[put_at,Q0d,Z0d]),(by simp[put_at,Q0d,Z0d]),(by simp[put_at,Q0d,Z0d]),(by simp[put_at,Q0d,Z0d]),(by simp[put_at,Q0d,Z0d]),zge136,zge136,rfl,(zb9),zle⟩ ?_
  rintro n ρ q ⟨k,rfl,hk,e1,e3,e8,e9,e10,g1,g2,hj,hn,hle⟩
  by_cases hlt:(k:Int)<c.Tokens.l.length
  ·have htk:=take_nth (l:=c.Tokens.l) (k:=k) (by omega)
   rw[Z0r (l:=c.Tokens.l) (k:=k) (by omega)]at hj
   simp only[tokGo]at hj
   cases hw:within (nth c.Tokens.l k) 0 2147483646 with
   |false=>
    rw[hw]at hj
    (have zx:=zA e1 (zA e3 (zA e8 (zA e9 (zA e10 (zA g1 (zA g2 (zA hlt hw)))))));refine zq136 ?_;try exact zT)
    repeat'(apply zK.s<;>intro hc<;>(try simp only[zhd]at hc)<;>(try have hw:=X0a hc)<;>(refine zq136 ?_;try exact zT))
    all_goals(try clear zx)
    refine K0d hF zlq (Y0c ?_ (Z0c zno136))
    rw[<- hj];simp
   |true=>
    rw[hw]at hj
    cases hc2:(c.Tokens.l.take k).contains (nth c.Tokens.l k) with
    |true=>
     rw[hc2]at hj
     (have zx:=zA e1 (zA e3 (zA e8 (zA e9 (zA e10 (zA g1 (zA g2 (zA hlt (zA hw hc2))))))));refine zq136 ?_;try exact zT)
     repeat'(apply zK.s<;>intro hc<;>(try simp only[zhd]at hc)<;>(try have hw:=X0a hc)<;>(refine zq136 ?_;try exact zT))
     all_goals(try clear zx)
     refine K0d hF zlq (Y0c ?_ (Z0c zno136))
     rw[<- hj];simp
    |false=>
     rw[hc2]at hj
     simp only[Bool.true_and,Bool.not_false]at hj
     (have zx:=zA e1 (zA e3 (zA e8 (zA e9 (zA e10 (zA g1 (zA g2 (zA hlt (zA hw hc2))))))));refine zq136 ?_;try exact zT)
     repeat'(apply zK.s<;>intro hc<;>(try simp only[zhd]at hc)<;>(try have hw:=X0a hc)<;>(refine zq136 ?_;try exact zT))
     all_goals(try clear zx)
     exact⟨c.Tokens.l.length-(k+1),by omega,k+1,rfl,by omega,zev,zev,zev,zev,zev,zg9,by rw[htk];simp (disch:=first|exact zdl|fail) only[zheap],by rw[htk];exact hj,zb9,zlq⟩
  ·have hk2:k=c.Tokens.l.length:=by omega
   rw[hk2,List.drop_eq_nil_of_le (Nat.le_refl _)]at hj
   (have zx:=zA e1 (zA e3 (zA e8 (zA e9 (zA e10 (zA g1 (zA g2 hlt))))));refine zq136 ?_;try exact zT)
   repeat'(apply zK.s<;>intro hc<;>(try simp only[zhd]at hc)<;>(try have hw:=X0a hc)<;>(refine zq136 ?_;try exact zT))
   all_goals(try clear zx)
   all_goals refine K0d hF zlq (Y0c ?_ (Z0c zno136))
   all_goals(rw[<- hj];simp[tokGo, *])
def R60: Rel:=fun args p r=>∃(c:K0a),args=[c.cv]/\(c.Tokens.l.length<=1000000)/\(c.Rules.l.length<=1000000)/\r=.ret (Bo (legalC c)) p
theorem t60{T:XCall}(h:Has T 9 R60)(c:K0a){p:Hp}(hl:c.Tokens.l.length<=1000000)(hr:c.Rules.l.length<=1000000): T 9 [c.cv] p=.ret (Bo (legalC c)) p:=h _ _ _ ⟨c,rfl,hl,hr,rfl⟩
theorem zq60{A B:Prop}(k:B)(h:A=B:=by have zy:=zA @zw60<|zA @rs60<|zA @tt3<|zA @tt23<|zA @tt59<|zA @tt61<|zA @tt69<|zA ti3.eq_1<|zA ti23.eq_1<|zA ti59.eq_1<|zA ti61.eq_1<|zA ti69.eq_1<|zA @t_29<|zA @t_106<|zA @t_135<|zA @t_136<|zA @X0e<|zA @zsl23<|zA @hl<|@hr;exact zQ): A:=h▸k
theorem zno60{P:Prop}(h:P:=by intro jj;simp[CV.has,CV.hasL,fault,Z0b.nohas]): P:=h
theorem c60: Con C 9 R60:=by
 refine K0e C ?_ ?_ ?_
 ·rintro args p r r' ⟨c,h,hl,hr,e⟩ ⟨c',h',hl',hr',e'⟩
  subst e;subst e';simp_all[K0a.inj_iff,V0i]
 ·rintro args p r ⟨c,h,hl,hr,rfl⟩;exact zr1
 ·rintro args p r ⟨c,rfl,hl,hr,rfl⟩
  refine zW C false [(29,R29),(27,R106),(28,R135),(30,R136)] ⟨c29,c106,c135,c136,zT⟩ rfl xf60 zc60_ok fun call zh hF=>?_
  have t_29:=@t29 _ zh.1
  have t_106:=@t106 _ zh.2.1
  have t_135:=@t135 _ zh.2.2.1
  have t_136:=@t136 _ zh.2.2.2.1
  clear zh
  (have zx:=zT;refine zq60 ?_;try exact zT)
  repeat'(apply zK.s<;>intro hc<;>(try simp only[zhd]at hc)<;>(try have hw:=X0a hc)<;>(refine zq60 ?_;try exact zT))
  all_goals(try clear zx)
  all_goals refine K0d hF zle (Y0c ?_ (Z0c zno60))
  all_goals simp[legalC, *]
def J44(c:K0a)(s:Y0a)(p:Hp)(n:Nat)(ρ:Env)(q:Hp): Prop:=
 ∃(k:Nat),n=16-k/\k<=16/\ρ 2=.ptr p.n []/\ρ 3=.ptr (p.n+1) []/\ρ 10=.agg (s.Bodies.map Q0a.cv)/\ρ 11=I k/\q.t.get p.n=some (.var sh61 c.cv)/\q.t.get (p.n+1)=some (.var sh66 s.cv)/\allFrom (rightAt c.Players) (s.Bodies.drop k) k=allFrom (rightAt c.Players) s.Bodies 0/\p.n+1<q.n/\HpLe p q
def L44(c:K0a)(s:Y0a)(p:Hp)(n:Nat)(ρ:Env)(q:Hp): Prop:=
 ∃(k:Nat),n=8-k/\k<=8/\ρ 2=.ptr p.n []/\ρ 3=.ptr (p.n+1) []/\ρ 22=.agg (s.Score.map I)/\ρ 23=I k/\q.t.get p.n=some (.var sh61 c.cv)/\q.t.get (p.n+1)=some (.var sh66 s.cv)/\allFrom (scoreAt c.Players) (s.Score.drop k) k=allFrom (scoreAt c.Players) s.Score 0/\p.n+1<q.n/\HpLe p q
def R44: Rel:=fun args p r=>∃(c:K0a) (s:Y0a),args=[c.cv,s.cv]/\(c.Tokens.l.length<=1000000)/\(c.Rules.l.length<=1000000)/\r=.ret (Bo (stateRight c s)) p
theorem t44{T:XCall}(h:Has T 11 R44)(c:K0a)(s:Y0a){p:Hp}(hl:c.Tokens.l.length<=1000000)(hr:c.Rules.l.length<=1000000): T 11 [c.cv,s.cv] p=.ret (Bo (stateRight c s)) p:=h _ _ _ ⟨c,s,rfl,hl,hr,rfl⟩
theorem zq44{A B:Prop}(k:B)(h:A=B:=by have zy:=zA @zw44<|zA @rs44<|zA @tt3<|zA @tt34<|zA @tt61<|zA @tt63<|zA @tt64<|zA @tt66<|zA ti3.eq_1<|zA ti34.eq_1<|zA ti61.eq_1<|zA ti63.eq_1<|zA ti64.eq_1<|zA ti66.eq_1<|zA @t_60<|zA @t_105<|zA @t_106<|zA @X0e<|zA @Q0f<|zA @Q0e<|zA @zsl63<|zA @zsl64<|zA @hl<|@hr;exact zQ): A:=h▸k
theorem zno44{P:Prop}(h:P:=by intro jj;simp[CV.has,CV.hasL,fault,Z0b.nohas,Y0a.nohas,Q0a.nohas]): P:=h
theorem zge44{P:Prop}(h:P:=by simp (disch:=first|exact zdl|fail) only[zheap];first|done|rfl): P:=h
theorem c44: Con C 11 R44:=by
 refine K0e C ?_ ?_ ?_
 ·rintro args p r r' ⟨c,s,h,hl,hr,e⟩ ⟨c',s',h',hl',hr',e'⟩
  subst e;subst e';simp_all[K0a.inj_iff,Y0a.inj_iff,Q0a.inj_iff]
 ·rintro args p r ⟨c,s,h,hl,hr,rfl⟩;exact zr1
 ·rintro args p r ⟨c,s,rfl,hl,hr,rfl⟩
  refine zW C false [(9,R60),(34,R105),(27,R106)] ⟨c60,c105,c106,zT⟩ rfl xf44 zc44_ok fun call zh hF=>?_
  have t_60:=@t60 _ zh.1
  have t_105:=@t105 _ zh.2.1
  have t_106:=@t106 _ zh.2.2.1
  clear zh
  have hb:=s.hBodies
  have hsc:=s.hScore
  (have zx:=zT;refine zq44 ?_;try exact zT)
  repeat'(apply zK.s<;>intro hc<;>(try simp only[zhd]at hc)<;>(try have hw:=X0a hc)<;>(refine zq44 ?_;try exact zT))
  all_goals(try clear zx)
  (show W C false noExt call (ZC.loop zn44_7) _ _ _);refine Q0i C false noExt call zn44_7 _ _ _ (J44 c s p) 16 ⟨0,rfl,by omega,(by simp[put_at,Q0d,Z0d]),(by simp[put_at,Q0d,Z0d]),(by simp[put_at,Q0d,Z0d]),(by simp[put_at,Q0d,Z0d]),zge44,zge44,rfl,(zb9),zle⟩ ?_
  rintro n ρ q ⟨k,rfl,hk,e2,e3,e10,e11,g1,g2,hj,hn,hle⟩
  by_cases hlt:(k:Int)<16
  ·rw[X0r _ (l:=s.Bodies) (k:=k) (by omega)]at hj
   cases hw:rightAt c.Players k (nth s.Bodies k) with
   |false=>
    rw[hw]at hj
    (have zx:=zA e2 (zA e3 (zA e10 (zA e11 (zA g1 (zA g2 (zA hlt hw))))));refine zq44 ?_;try exact zT)
    repeat'(apply zK.s<;>intro hc<;>(try simp only[zhd]at hc)<;>(try have hw:=X0a hc)<;>(refine zq44 ?_;try exact zT))
    all_goals(try clear zx)
    refine K0d hF zlq (Y0c ?_ (Z0c zno44))
    simp[stateRight,<- hj]
   |true=>
    rw[hw,Bool.true_and]at hj
    (have zx:=zA e2 (zA e3 (zA e10 (zA e11 (zA g1 (zA g2 (zA hlt hw))))));refine zq44 ?_;try exact zT)
    repeat'(apply zK.s<;>intro hc<;>(try simp only[zhd]at hc)<;>(try have hw:=X0a hc)<;>(refine zq44 ?_;try exact zT))
    all_goals(try clear zx)
    exact⟨16-(k+1),by omega,k+1,rfl,by omega,zev,zev,zev,zev,zg9,zg9,hj,zb9,zlq⟩
  ·have hk16:k=16:=by omega
   subst hk16
   rw[List.drop_eq_nil_of_le (by omega)]at hj
   have hA:allFrom (rightAt c.Players) s.Bodies 0=true:=hj.symm
   (have zx:=zA e2 (zA e3 (zA e10 (zA e11 (zA g1 (zA g2 hlt)))));refine zq44 ?_;try exact zT)
   repeat'(apply zK.s<;>intro hc<;>(try simp only[zhd]at hc)<;>(try have hw:=X0a hc)<;>(refine zq44 ?_;try exact zT))
   all_goals(try clear zx)
   (show W C false noExt call (ZC.loop Y1w) _ _ _);refine Q0i C false noExt call Y1w _ _ _ (L44 c s p) 8 ⟨0,rfl,by omega,zev,zev,zev,zev,g1,g2,rfl,hn,hle⟩ ?_
   clear e2 e3 e10 e11 g1 g2 hn hle hj hlt
   rintro n ρ q ⟨k,rfl,hk,e2,e3,e22,e23,g1,g2,hj,hn,hle⟩
   by_cases hlt:(k:Int)<8
   ·rw[X0r _ (l:=s.Score) (k:=k) (by omega)]at hj
    cases hw:scoreAt c.Players k (nth s.Score k) with
    |false=>
     rw[hw]at hj
     simp only[scoreAt]at hw
     (have zx:=zA e2 (zA e3 (zA e22 (zA e23 (zA g1 (zA g2 hlt)))));refine zq44 ?_;try exact zT)
     repeat'(apply zK.s<;>intro hc<;>(try simp only[zhd]at hc)<;>(try have hw:=X0a hc)<;>(refine zq44 ?_;try exact zT))
     all_goals(try clear zx)
     all_goals first
      |(exfalso;simp_all;done)
      |(exfalso;simp_all;omega)
      |(refine K0d hF zlq (Y0c ?_ (Z0c zno44));simp[stateRight,<- hj];done)
    |true=>
     rw[hw,Bool.true_and]at hj
     simp only[scoreAt]at hw
     (have zx:=zA e2 (zA e3 (zA e22 (zA e23 (zA g1 (zA g2 hlt)))));refine zq44 ?_;try exact zT)
     repeat'(apply zK.s<;>intro hc<;>(try simp only[zhd]at hc)<;>(try have hw:=X0a hc)<;>(refine zq44 ?_;try exact zT))
     all_goals(try clear zx)
     all_goals first
      |exact⟨8-(k+1),by omega,k+1,rfl,by omega,zev,zev,zev,zev,zg9,zg9,hj,zb9,zlq⟩
      |exact⟨8-(k+1),by omega,k+1,rfl,by omega,zev,zev,zev,zev,g1,g2,hj,hn,hle⟩
      |(exfalso;simp_all;done)
      |(exfalso;simp_all;omega)
   ·have hk8:k=8:=by omega
    subst hk8
    rw[List.drop_eq_nil_of_le (by omega)]at hj
    have hB:allFrom (scoreAt c.Players) s.Score 0=true:=hj.symm
    (have zx:=zA e2 (zA e3 (zA e22 (zA e23 (zA g1 (zA g2 hlt)))));refine zq44 ?_;try exact zT)
    repeat'(apply zK.s<;>intro hc<;>(try simp only[zhd]at hc)<;>(try have hw:=X0a hc)<;>(refine zq44 ?_;try exact zT))
    all_goals(try clear zx)
    all_goals refine K0d hF zlq (Y0c ?_ (Z0c zno44))
    all_goals simp[stateRight,hA,hB, *]
def J58(c:K0a)(p:Hp)(n:Nat)(ρ:Env)(q:Hp): Prop:=
 ∃(k:Nat),n=c.Players.toNat-k/\k<=c.Players.toNat/\ρ 1=.ptr p.n []/\ρ 2=.ptr (p.n+1) []/\ρ 3=.ptr (p.n+2) []/\ρ 14=I c.Players/\ρ 15=I k/\q.t.get p.n=some (.var sh61 c.cv)/\q.t.get (p.n+1)=some (.var sh66 Y0a.zero.cv)/\q.t.get (p.n+2)=some (.var sh66 (firstK c k).cv)/\p.n+2<q.n/\HpLe p q
def R58: Rel:=fun args p r=>∃(c:K0a),args=[c.cv]/\(c.Tokens.l.length<=1000000)/\(c.Rules.l.length<=1000000)/\r=.ret (firstS c).cv p
theorem t58{T:XCall}(h:Has T 13 R58)(c:K0a){p:Hp}(hl:c.Tokens.l.length<=1000000)(hr:c.Rules.l.length<=1000000): T 13 [c.cv] p=.ret (firstS c).cv p:=h _ _ _ ⟨c,rfl,hl,hr,rfl⟩
theorem zq58{A B:Prop}(k:B)(h:A=B:=by have zy:=zA @zw58<|zA @rs58<|zA @tt3<|zA @tt34<|zA @tt61<|zA @tt63<|zA @tt66<|zA ti3.eq_1<|zA ti34.eq_1<|zA ti61.eq_1<|zA ti63.eq_1<|zA ti66.eq_1<|zA @t_60<|zA @t_64<|zA @t_133<|zA @X0e<|zA @Q0f<|zA @Q0e<|zA @zsl63<|zA @hl<|@hr;exact zQ): A:=h▸k
theorem zno58{P:Prop}(h:P:=by intro jj;simp[CV.has,CV.hasL,fault,Z0b.nohas,Y0a.nohas,Q0a.nohas]): P:=h
theorem zge58{P:Prop}(h:P:=by simp (disch:=first|exact zdl|fail) only[zheap];first|done|rfl): P:=h
theorem c58: Con C 13 R58:=by
 refine K0e C ?_ ?_ ?_
 ·rintro args p r r' ⟨c,h,hl,hr,e⟩ ⟨c',h',hl',hr',e'⟩
  subst e;subst e';simp_all[K0a.inj_iff,Y0a.inj_iff,Q0a.inj_iff]
 ·rintro args p r ⟨c,h,hl,hr,rfl⟩;exact zr1
 ·rintro args p r ⟨c,rfl,hl,hr,rfl⟩
  refine zW C false [(9,R60),(37,R64),(36,R133)] ⟨c60,c64,c133,zT⟩ rfl xf58 zc58_ok fun call zh hF=>?_
  have t_60:=@t60 _ zh.1
  have t_64:=@t64 _ zh.2.1
  have t_133:=@t133 _ zh.2.2.1
  clear zh
  cases hL:legalC c with
  |false=>
   (have zx:=hL;refine zq58 ?_;try exact zT)
   repeat'(apply zK.s<;>intro hc<;>(try simp only[zhd]at hc)<;>(try have hw:=X0a hc)<;>(refine zq58 ?_;try exact zT))
   all_goals(try clear zx)
   refine K0d hF zle (Y0c ?_ (Z0c zno58))
   simp[firstS,hL];rfl
  |true=>
   have hP:=(Z0k hL).1
   have hPn:((c.Players.toNat:Nat):Int)=c.Players:=by omega
   (have zx:=hL;refine zq58 ?_;try exact zT)
   repeat'(apply zK.s<;>intro hc<;>(try simp only[zhd]at hc)<;>(try have hw:=X0a hc)<;>(refine zq58 ?_;try exact zT))
   all_goals(try clear zx)
   (show W C false noExt call (ZC.loop Z1z) _ _ _);refine Q0i C false noExt call Z1z _ _ _ (J58 c p) c.Players.toNat ⟨0,rfl,by omega,(by simp[put_at,Q0d,Z0d]),(by simp[put_at,Q0d,Z0d]),(by simp[put_at,Q0d,Z0d]),(by simp[put_at,Q0d,Z0d]),(by simp[put_at,Q0d,Z0d]),zge58,zge58,zge58,(zb9),zle⟩ ?_
   rintro n ρ q ⟨k,rfl,hk,e1,e2,e3,e14,e15,g1,g2,g3,hn,hle⟩
   by_cases hlt:(k:Int)<c.Players
   ·have hbk:=(firstK c k).hBodies
    have hk8:k<8:=by omega
    (have zx:=zA e1 (zA e2 (zA e3 (zA e14 (zA e15 (zA g1 (zA g2 (zA g3 hlt)))))));refine zq58 ?_;try exact zT)
    repeat'(apply zK.s<;>intro hc<;>(try simp only[zhd]at hc)<;>(try have hw:=X0a hc)<;>(refine zq58 ?_;try exact zT))
    all_goals(try clear zx)
    exact⟨c.Players.toNat-(k+1),by omega,k+1,rfl,by omega,zev,zev,zev,zev,zev,zg9,zg9,zg9,zb9,zlq⟩
   ·have hk8:k=c.Players.toNat:=by omega
    subst hk8
    (have zx:=zA e1 (zA e2 (zA e3 (zA e14 (zA e15 (zA g1 (zA g2 (zA g3 hlt)))))));refine zq58 ?_;try exact zT)
    repeat'(apply zK.s<;>intro hc<;>(try simp only[zhd]at hc)<;>(try have hw:=X0a hc)<;>(refine zq58 ?_;try exact zT))
    all_goals(try clear zx)
    refine K0d hF zlq (Y0c ?_ (Z0c zno58))
    simp[firstS,hL]
def R62: Rel:=fun args p r=>∃(c:K0a) (s:Y0a) (row:Lst Q0b),args=[c.cv,s.cv,row.cv Q0b.cv]/\(c.Tokens.l.length<=1000000)/\(c.Rules.l.length<=1000000)/\r=.ret (stepS c row.l s).cv p
theorem t62{T:XCall}(h:Has T 15 R62)(c:K0a)(s:Y0a)(row:Lst Q0b){p:Hp}(hl:c.Tokens.l.length<=1000000)(hr:c.Rules.l.length<=1000000): T 15 [c.cv,s.cv,row.cv Q0b.cv] p=.ret (stepS c row.l s).cv p:=h _ _ _ ⟨c,s,row,rfl,hl,hr,rfl⟩
theorem zq62{A B:Prop}(k:B)(h:A=B:=by have zy:=zA @zw62<|zA @rs62<|zA @tt3<|zA @tt61<|zA @tt66<|zA @tt186<|zA ti3.eq_1<|zA ti61.eq_1<|zA ti66.eq_1<|zA ti186.eq_1<|zA @t_44<|zA @t_137<|zA @t_138<|zA @t_139<|zA @X0e<|zA @Q0f<|zA @X0i<|zA @hl<|@hr;exact zQ): A:=h▸k
theorem zno62{P:Prop}(h:P:=by intro jj;simp[CV.has,CV.hasL,fault,Z0b.nohas,Y0a.nohas]): P:=h
theorem c62: Con C 15 R62:=by
 refine K0e C ?_ ?_ ?_
 ·rintro args p r r' ⟨c,s,row,h,hl,hr,e⟩ ⟨c',s',row',h',hl',hr',e'⟩
  subst e;subst e';simp_all[K0a.inj_iff,Y0a.inj_iff,X0b.inj_iff,Y0o]
 ·rintro args p r ⟨c,s,row,h,hl,hr,rfl⟩;exact zr1
 ·rintro args p r ⟨c,s,row,rfl,hl,hr,rfl⟩
  refine zW C false [(11,R44),(40,R137),(41,R138),(42,R139)] ⟨c44,c137,c138,c139,zT⟩ rfl xf62 zc62_ok fun call zh hF=>?_
  have t_44:=@t44 _ zh.1
  have t_137:=@t137 _ zh.2.1
  have t_138:=@t138 _ zh.2.2.1
  have t_139:=@t139 _ zh.2.2.2.1
  clear zh
  cases hR:stateRight c s with
  |false=>
   (have zx:=hR;refine zq62 ?_;try exact zT)
   repeat'(apply zK.s<;>intro hc<;>(try simp only[zhd]at hc)<;>(try have hw:=X0a hc)<;>(refine zq62 ?_;try exact zT))
   all_goals(try clear zx)
   refine K0d hF zle (Y0c ?_ (Z0c zno62))
   simp[stepS,hR];rfl
  |true=>
   have hrl:=(Z0k (V0j hR).2.2.1).2
   have h4:=right_all hR
   have hfr:=V0j hR
   have hst:=stepS_of row hR
   have hF1:(frOf c s row)=X0b.mk c s row ⟨.nil,[],fun _=>rfl⟩:=rfl
   have k1:(frOf c s row).shots.tl=.nil:=rfl
   have k2:(frOf c s row).c_.Rules.l.length<=100000:=by show c.Rules.l.length<=_;omega
   have k3:∀b∈(frOf c s row).s_.Bodies,Body.right b=true:=h4
   have k4:=frTurns_tl (frOf c s row)
   have k5:HitOk (frSets (frTurns (frOf c s row))).s_:=by rw[frSets_s];exact step_hit hR row.l
   have k6:=frHits_frame c s row
   generalize frOf c s row=f0 at hF1 k1 k2 k3 k4 k5 k6 hst
   replace hF1:=hF1.symm
   generalize hG:frHits (frSets (frTurns f0))=f3 at k6 hst
   (have zx:=zA hR (zA hF1 (zA hG k6));refine zq62 ?_;try exact zT)
   repeat'(apply zK.s<;>intro hc<;>(try simp only[zhd]at hc)<;>(try have hw:=X0a hc)<;>(refine zq62 ?_;try exact zT))
   all_goals(try clear zx)
   refine K0d hF zle (Y0c ?_ (Z0c zno62))
   rw[hst,k6]
end Go.Proofs.YtpchcfkebljopaaGreat
end
section
namespace Go.Cl
open Go.RowKit
section
variable (C:Ctx)
def St.frz(S:St)(rb:Nat)(cs:List Value): St:={S with K:=fun b o=>if b=rb then(match cs[o]? with|some v=>some v|none=>S.K b o)else S.K b o}
theorem St.frz_le{S:St}{rb:Nat}{cs:List Value}(h:∀o,S.K rb o=none): S.le (S.frz rb cs) where
 K b o v hk:=by
  show(if b=rb then _ else S.K b o)=some v
  by_cases e:b=rb
  ·subst e;rw[h o]at hk;cases hk
  ·rw[if_neg e];exact hk
 μ _ _ h:=h
 n:=Nat.le_refl _
theorem R.frz{w0:World}{B:Nat}{S:St}{h:Heap}{w:World}(r:R w0 B S h w){j:Nat}{v:CV}{rb:Nat}{sh:Shape}{tot:Nat}(hj:h j=some (.var v))(hμ:S.μ j=some (.var rb sh tot)):
  ∃cs,FR S v cs/\S.le (S.frz rb cs)/\R w0 B (S.frz rb cs) (upd h j none) w/\(S.frz rb cs).lies rb 0 cs:=by
 obtain⟨hl,hB⟩:=r.live j _ _ hj hμ
 obtain⟨hs,⟨arr,e,cs,junk,hw,ha,hz,hf⟩,hk⟩:=hl
 have hle:=St.frz_le (cs:=cs) hk
 have hcell:∀o,w.cell? ⟨rb,o,none⟩=arr[o]?:=V0l hw
 have hlies:(S.frz rb cs).lies rb 0 cs:=by
  intro o u hu
  show(if rb=rb then _ else _)=some u
  rw[if_pos rfl,Nat.zero_add,hu]
 refine⟨cs,hf,hle,⟨r.below,r.size,?_,?_,?_,?_⟩,hlies⟩
 ·intro b o u hu
  by_cases eb:b=rb
  ·subst eb
   have hu:(match cs[o]? with|some v=>some v|none=>S.K b o)=some u:=by
    have hu:(if b=b then _ else _)=some u:=hu
    rw[if_pos rfl]at hu;exact hu
   cases hc:cs[o]? with
   |none=>rw[hc,hk o]at hu;cases hu
   |some x=>
    rw[hc]at hu
    have hxu:x=u:=by simpa using hu
    subst hxu
    rw[hcell o,<- Array.getElem?_toList,ha,List.getElem?_append_left (List.getElem?_eq_some_iff.1 hc).1]
    exact hc
  ·have hu:(if b=rb then _ else S.K b o)=some u:=hu
   rw[if_neg eb]at hu
   exact r.kcell b o u hu
 ·intro i hi
  refine⟨(r.fresh i hi).1,?_⟩
  unfold upd
  split
  ·rfl
  ·exact(r.fresh i hi).2
 ·intro i obj loc h1 h2
  have hij:i≠j:=by intro e;subst e;rw[V0h]at h1;cases h1
  rw[X0g _ _ hij]at h1
  obtain⟨l1,l2⟩:=r.live i obj loc h1 h2
  refine⟨l1.mono hle rfl fun o ho=>?_,l2⟩
  have hb:loc.block≠rb:=r.inj i j _ _ _ _ hij h1 hj h2 hμ
  show(if loc.block=rb then _ else S.K loc.block o)=none
  rw[if_neg hb];exact ho
 ·intro i k oi ok li lk hik h1 h2 h3 h4
  have hi:i≠j:=by intro e;subst e;rw[V0h]at h1;cases h1
  have hk':k≠j:=by intro e;subst e;rw[V0h]at h2;cases h2
  rw[X0g _ _ hi]at h1
  rw[X0g _ _ hk']at h2
  exact r.inj i k oi ok li lk hik h1 h2 h3 h4
theorem ans_freeze{f:FuncId}{args:List CV}{p:Hp}{sh:Shape}{l:List CV}{sz:Nat}(hsz:∀x∈l,x.size=sz)(hno:∀j,¬CV.hasL j l)(h:AnsAt C f args p (.ret (.slc p.n [] 0 l.length) (p.new (.var sh (.agg l))))): AnsAt C f args p (.ret (.lst .part l) p):=by
 refine⟨h.1,fun w0 B S w vals r0 hV=>?_⟩
 have ha:=h.2 w0 B S w vals r0 hV
 have hF:=fine_of r0 hV
 have hmid:Ans C w0 B S f vals w (.ret (.lst .part l) (p.bump 1)):=by
  refine Calls.mono ha fun en w' ⟨S',x,k1,k2,k3,k4⟩=>?_
  have hg:(p.new (.var sh (.agg l))).h p.n=some (.var (.agg l)):=by simp only[Hp.h,Hp.get_new_self];rfl
  obtain⟨k3a,k3b⟩:=k3
  simp only[FR]at k3a
  obtain⟨rb,sh',l',o,cap,e1,⟨tot,hμ,_⟩,e2,e3,e4,e5⟩:=k3a
  obtain⟨cs,hf,hle,hr,hli⟩:=R.frz k2.r hg hμ
  have ho:o=0:=by simp only[Shape.off,Option.some.injEq]at e3;exact e3.symm
  subst ho
  refine⟨S'.frz rb cs,x,k1.trans ⟨hle,fun _ _ h=>h⟩,⟨?_,?_,?_⟩,⟨?_,?_⟩,k4⟩
  ·refine hr.drop fun i=>?_
   by_cases hi:i=p.n
   ·left;subst hi
    exact(r0.r.fresh p.n (by rw[r0.n];exact Nat.le_refl _)).2
   ·right
    rw[X0g _ _ hi]
    simp only[Hp.h,Hp.bump_get,Hp.get_new_ne _ _ hi]
  ·show S'.n=p.n+1
   rw[k2.n,Hp.znew_n]
  ·intro i sh0 v0 hi
   exact r0.good i sh0 v0 hi
  ·simp only[FR]
   refine .inr ⟨rb,0,cap,sz,cs,?_,e4,?_,hli,hsz,trivial⟩
   ·rw[e1];simp[Shape.sizes]
   ·simp only[FR]at hf
    exact FRs.mono hle _ _ hf
  ·simpa[CV.isAgg]using k3b
 refine Ans.shr C r0 hmid ?_
 refine K0d hF (fun k o h=>h) (Y0d fun j hj=>?_)
 simp only[CV.has]at hj
 rcases hj with hj|hj
 ·cases hj
 ·exact(hno j hj).elim
end
end Go.Cl
end
section
namespace Go.Proofs.YtpchcfkebljopaaGreat
open Go.Cl Go Go.RowKit
def cellOf(n:Int): Q0b:=⟨true,handInput (w64 (n.tdiv 4)) (w64 (n.tdiv 7))⟩
def rowK(players:Int)(l:List Int): Nat->List Q0b
 |0=>List.replicate players.toNat Q0b.zero
 |k+1=>if 0<(nth l k).tmod 4 then(rowK players l k).set k (cellOf (nth l k))else rowK players l k
theorem Y1y(players:Int)(l:List Int): ∀k,(rowK players l k).length=players.toNat
 |0=>by simp[rowK]
 |k+1=>by
  have ih:=Y1y players l k
  simp only[rowK]
  split
  ·simpa using ih
  ·exact ih
def rowOf(players:Int)(l:List Int): List Q0b:=rowK players l (min players.toNat l.length)
theorem rowOf_len(players:Int)(l:List Int): (rowOf players l).length=players.toNat:=Y1y ..
theorem mk108(p:Hp)(n:Int)(h:1<=n/\n<=100): xmake C p 26 (I n) (I n)=.ret (.slc p.n [] 0 n.toNat) (p.new (.var (.n (List.replicate n.toNat sh110)) (.agg ((List.replicate n.toNat Q0b.zero).map Q0b.cv)))):=by
 have hz:ti110.zero=Q0b.zero.cv:=Q0b.zcv
 have hb:(ti110.bytes*n.toNat)<=281474976710656:=by show 32*n.toNat<=_;omega
 simp only[xmake,tt108,ti108,tt110,List.map_replicate]
 rw[show(decide True&&decide (0<n)&&decide (n<=9223372036854775807)&&Nat.blt 0 ti110.sh.size&&Nat.ble (ti110.bytes*n.toNat) 281474976710656)=true by
  simp only[decide_true,Bool.true_and,Bool.and_eq_true,decide_eq_true_eq]
  exact⟨⟨⟨by omega,by omega⟩,rfl⟩,Nat.ble_eq_true_of_le hb⟩]
 rw[hz];rfl
theorem ix108(p:Hp)(j n:Nat)(L:List Q0b)(k:Int)(hg:p.t.get j=some (.var (.n (List.replicate n sh110)) (.agg (L.map Q0b.cv))))(hL:L.length=n)(hk:0<=k/\k<n): qindexAddr C p.h 26 (.slc j [] 0 n) (I k)=some (.ptr j [k.toNat]):=by
 have ht:tgt p.h (.ptr j [])=some (.agg (L.map Q0b.cv)):=by
  simp only[tgt,Hp.h,hg,Option.map_some,XObj.obj,CV.at]
 have hs:CV.shape (.agg (L.map Q0b.cv))=.n (List.replicate (L.map Q0b.cv).length sh110):=by
  simp only[CV.shape,Y0h (f:=Q0b.cv) (s:=sh110) Q0b.shape,List.length_map]
 simp only[qindexAddr,tt108,ti108,tt110,ht]
 rw[if_pos ⟨hs,hk⟩]
 simp
theorem sa108(L:List Q0b)(k:Nat)(c:Q0b)(h:k<L.length): CV.set (.agg (L.map Q0b.cv)) [k] c.cv=.agg ((L.set k c).map Q0b.cv):=by
 rw[Z1x Q0b.cv h,List.map_set];rfl
theorem take_nx{α:Type}[Inhabited α]{l:List α}{k:Nat}(h:k<l.length): l.take (k+1)=l.take k++[nth l k]:=by
 rw[List.take_add_one,V0v h];rfl
def rowL(players:Int)(r:Lst Int): Lst Q0b:=⟨.part,rowOf players r.l,nofun⟩
def rowsOf(players:Int)(l:List (Lst Int)): List (Lst Q0b):=(l.take 40).map (rowL players)
def ownL{α:Type}(l:List α)(n:Nat): Lst α:=if h:l=[] then⟨.nil,[],fun _=>rfl⟩ else⟨.own n,l,nofun⟩
theorem ownL_nil{α:Type}(n:Nat): ownL ([]:List α) n=⟨.nil,[],fun _=>rfl⟩:=by simp[ownL]
theorem ownL_cons{α:Type}(x:α)(m:List α)(n:Nat): ownL (x::m) n=⟨.own n,x::m,nofun⟩:=by simp[ownL]
noncomputable def ownH{α:Type}(l:List α)(p:Hp): Hp:=if l=[]then p else p.new (.tail l.length)
theorem ownH_nil{α:Type}(p:Hp): ownH ([]:List α) p=p:=by simp[ownH]
theorem ownH_cons{α:Type}(x:α)(m:List α)(p:Hp): ownH (x::m) p=p.new (.tail (m.length+1)):=by simp[ownH]
theorem weakL_mem{α:Type}{f:α->CV}{σ:Nat->Nat}{n:Nat}: ∀l:List α,(∀x∈l,∀j,¬(f x).has j)->CV.weakL σ n (l.map f) (l.map f)
 |[],_=>trivial
 |x::l,h=>⟨CV.weak_refl _ fun j hj=>(h x (by simp) j hj).elim,weakL_mem l fun y hy=>h y (by simp[hy])⟩
theorem shr_ownL{α:Type}{f:α->CV}{args:List CV}{p q:Hp}(hF:Fine args p)(acc:Lst α)(hle:HpLe p q)(happ:acc.tl=.nil\/∃j,acc.tl=.own j/\p.n<=j/\q.t.get j=some (.tail acc.l.length)/\0<acc.l.length)(hf:∀x∈acc.l,∀j,¬(f x).has j): ShrR p (.ret (Lst.cv f acc) q) (.ret (Lst.cv f (ownL acc.l p.n)) (ownH acc.l p)):=by
 obtain⟨tl,l,o⟩:=acc
 simp only at happ hf
 rcases happ with h|⟨j,h,hj,hg,h0⟩
 ·subst h
  have:=o rfl;subst this
  simp only[ownL_nil,ownH_nil]
  exact K0d hF hle (Y0d fun j hj=>by simp[Lst.cv,CV.has,CV.hasL]at hj)
 ·subst h
  have hne:l≠[]:=by intro e;subst e;simp at h0
  simp only[ownL,ownH,dif_neg hne,if_neg hne]
  refine Q1t hF (J:=j) rfl (fun k o h=>?_) ⟨_,hg,rfl⟩ ?_
  ·have hd:=hF.dom k o h
   exact⟨hd,by omega,.inl ⟨h,hle k o h⟩⟩
  ·simp only[Lst.cv,CV.weak,Tail.weak]
   exact⟨⟨(if_pos rfl).symm,Nat.lt_succ_self _⟩,weakL_mem l hf⟩
def fixOp(x:V0b): K0c:=if opRight (handOp x)=true then handOp x else⟨13,0,0⟩
def rulesOf(l:List V0b): List K0c:=(l.take 16).map fixOp
theorem fixOp_right(x:V0b): opRight (fixOp x)=true:=by
 unfold fixOp
 split
 ·assumption
 ·decide
theorem K1u(l:List V0b): ruleRight (rulesOf l)=true:=by
 simp only[ruleRight,Bool.and_eq_true,decide_eq_true_eq]
 refine⟨by simp[rulesOf];omega,?_⟩
 rw[List.all_eq_true]
 intro o ho
 obtain⟨x,_,rfl⟩:=List.mem_map.1 ho
 exact fixOp_right x
def rateF(n:Int): Nat:=(f64.div (FloatKind.f64.nearest n) 4616189618054758400).getD 0
def halfF(n:Int): Nat:=(f64.div (FloatKind.f64.nearest n) 4611686018427387904).getD 0
def deptF(n:Int): Nat:=(f64.add 4607182418800017408 (halfF n)).getD 0
def rOk(r:Nat): Bool:=!(oddF r || (f64.order r 0==some .lt))
def dOk(d:Nat): Bool:=!(oddF d || (f64.order d 4607182418800017408==some .lt) || (f64.order d 4652007308841189376==some .gt))
theorem Z1b{r d:Nat}(h1:rOk r=true)(h2:dOk d=true): bucketOk r d=true:=by
 simp only[rOk,dOk,Bool.not_eq_true',Bool.or_eq_false_iff]at h1 h2
 simp[bucketOk,h1.1,h1.2,h2.1.1,h2.1.2,h2.2]
theorem rate_all: (List.range 9).all (fun k=>(f64.div (FloatKind.f64.nearest (Int.ofNat k)) 4616189618054758400).isSome&&rOk (rateF (Int.ofNat k)))=true:=by kernel_rfl
theorem dept_all: (List.range 40).all (fun k=>(f64.div (FloatKind.f64.nearest (Int.ofNat k)) 4611686018427387904).isSome&&(f64.add 4607182418800017408 (halfF (Int.ofNat k))).isSome&&dOk (deptF (Int.ofNat k)))=true:=by kernel_rfl
theorem V1d{o:Option Nat}(h:o.isSome=true): o=some (o.getD 0):=by cases o<;>simp at h ⊢
theorem rate_ok{n:Int}(h:0<=n/\n<9): f64.div (FloatKind.f64.nearest n) 4616189618054758400=some (rateF n)/\rOk (rateF n)=true:=by
 have:=List.all_eq_true.1 rate_all n.toNat (by simp;omega)
 rw[show Int.ofNat n.toNat=n by simp;omega,Bool.and_eq_true]at this
 exact⟨V1d this.1,this.2⟩
theorem dept_ok{n:Int}(h:0<=n/\n<40): f64.div (FloatKind.f64.nearest n) 4611686018427387904=some (halfF n)/\f64.add 4607182418800017408 (halfF n)=some (deptF n)/\dOk (deptF n)=true:=by
 have:=List.all_eq_true.1 dept_all n.toNat (by simp;omega)
 rw[show Int.ofNat n.toNat=n by simp;omega,Bool.and_eq_true,Bool.and_eq_true]at this
 exact⟨V1d this.1.1,V1d this.1.2,this.2⟩
def cfgP(x:V0a): Int:=if x.Players.tmod 11=10 then 1+pick (w64 (x.Players.tdiv 11)) 8 else 1+pick x.Players 4
def cfgRate(x:V0a): Nat:=if 0<x.Rate.tmod 3 then 4613937818241073152 else rateF (pick x.Rate 9)
def cfgDepth(x:V0a): Nat:=if 0<x.Rate.tmod 3 then 4632233691727265792 else deptF (pick (w64 (x.Rate.tdiv 9)) 40)
def tokAt(x:V0a)(i:Nat): Int:=pick (w64 (x.Seed.tdiv 3)) 1000000*10+i
def cfgTok(x:V0a)(k:Nat): List Int:=(List.range k).map (tokAt x)
def cfgWith(x:V0a)(tk:Lst Int): K0a:=
 ⟨cfgP x,1+pick x.Period 3,pick x.Grace 8,pick x.Start 6,5+pick x.Frames 90,pick x.Seed 2147483648,cfgRate x,cfgDepth x,partL (rulesOf x.Rules.l),tk⟩
def cfgOf(x:V0a): K0a:=cfgWith x (partL (cfgTok x (cfgP x).toNat))
theorem K05(x:V0a): 1<=cfgP x/\cfgP x<=8:=by
 unfold cfgP
 split
 ·have:=Z0e (n:=w64 (x.Players.tdiv 11)) (m:=8) (by omega);omega
 ·have:=Z0e (n:=x.Players) (m:=4) (by omega);omega
theorem Z1d(x:V0a)(k:Nat): cfgTok x (k+1)=cfgTok x k++[tokAt x k]:=by simp[cfgTok,List.range_succ]
theorem Y03(x:V0a)(k:Nat): (cfgTok x k).length=k:=by simp[cfgTok]
theorem weak_cfg(x:V0a)(tk:Lst Int)(n:Nat)(h:tk.tl=.nil\/(∃j,tk.tl=.own j)/\0<tk.l.length): CV.weak (fun k=>k) n (cfgWith x tk).cv (cfgWith x (partL tk.l)).cv:=by
 have h1:CV.weak (fun k=>k) n (Lst.cv K0c.cv (partL (rulesOf x.Rules.l))) (Lst.cv K0c.cv (partL (rulesOf x.Rules.l))):=Y0d fun j hj=>by
  have hj:=(Lst.has _ K0c.nohas _ j).1 hj
  unfold partL at hj
  split at hj<;>simp at hj
 have h2:=X0x (f:=I) I_has tk n h
 simp only[cfgWith,K0a.cv,CV.weak,CV.weakL]
 exact⟨trivial,trivial,trivial,trivial,trivial,trivial,trivial,trivial,h1,h2,trivial⟩
def oneTok(k:Nat): List Int:=(List.range k).map Int.ofNat
theorem Q1c(k:Nat): oneTok (k+1)=oneTok k++[(k:Int)]:=by simp[oneTok,List.range_succ]
theorem oneTok_len(k:Nat): (oneTok k).length=k:=by simp[oneTok]
def oneWith(players:Int)(rules:Lst K0c)(tk:Lst Int): K0a:=⟨players,1,0,0,50,0,4607182418800017408,4617315517961601024,rules,tk⟩
def oneC(players:Int)(rules:Lst K0c): K0a:=oneWith players rules (partL (oneTok players.toNat))
theorem weak_one(players:Int)(rules:Lst K0c)(tk:Lst Int)(n:Nat)(hr:∀j,rules.tl=.own j->j<n)(h:tk.tl=.nil\/(∃j,tk.tl=.own j)/\0<tk.l.length): CV.weak (fun k=>k) n (oneWith players rules tk).cv (oneWith players rules (partL tk.l)).cv:=by
 have h1:CV.weak (fun k=>k) n (Lst.cv K0c.cv rules) (Lst.cv K0c.cv rules):=Y0d fun j hj=>hr j ((Lst.has _ K0c.nohas _ j).1 hj)
 have h2:=X0x (f:=I) I_has tk n h
 simp only[oneWith,K0a.cv,CV.weak,CV.weakL]
 exact⟨trivial,trivial,trivial,trivial,trivial,trivial,trivial,trivial,h1,h2,trivial⟩
def cellV(b x y:Int): Q0b:=⟨true,⟨b,x,y⟩⟩
def kC: K0a:=oneC 1 ⟨.nil,[],fun _=>rfl⟩
def kS: Y0a:=stepS kC [cellV 0 64 0] (firstS kC)
theorem kC_legal: legalC kC=true:=by kernel_rfl
theorem kS_x: (nth kS.Bodies 0).X=2052:=by kernel_rfl
theorem kS_f: kS.Frame=1:=by kernel_rfl
theorem kS_k: (nth kS.Bodies 0).Kind=1:=by kernel_rfl
end Go.Proofs.YtpchcfkebljopaaGreat
end
section
namespace Go.Proofs.YtpchcfkebljopaaGreat
open Go.Cl Go Go.RowKit
set_option maxRecDepth 100000
set_option linter.constructorNameAsVariable false
def R134: Rel:=fun args p r=>∃(b x y:Int),args=[I b,I x,I y]/\r=.ret (cellV b x y).cv p
theorem t134{T:XCall}(h:Has T 26 R134)(b x y:Int){p:Hp}:T 26 [I b,I x,I y] p=.ret (cellV b x y).cv p:=h _ _ _ ⟨b,x,y,rfl,rfl⟩
theorem zq134{A B:Prop}(k:B)(h:A=B:=by have zy:=zA @zw134<|zA @rs134<|zA @tt36<|zA @tt110<|zA ti36.eq_1<|zA ti110.eq_1<|zA @Q0m<|@K0h;exact zQ): A:=h▸k
theorem zno134{P:Prop}(h:P:=by intro jj;simp[CV.has,CV.hasL,fault,Z0b.nohas,Q0b.nohas,K0b.nohas]): P:=h
theorem c134: Con C 26 R134:=by
 refine K0e C ?_ ?_ ?_
 ·rintro args p r r' ⟨b,x,y,h,e⟩ ⟨b',x',y',h',e'⟩
  subst e;subst e';simp_all[Q0b.inj_iff,K0b.inj_iff]
 ·rintro args p r ⟨b,x,y,h,rfl⟩;exact zr1
 ·rintro args p r ⟨b,x,y,rfl,rfl⟩
  refine zW C false [] zT rfl xf134 zc134_ok fun call zh hF=>?_
  clear zh
  (have zx:=zT;refine zq134 ?_;try exact zT)
  repeat'(apply zK.s<;>intro hc<;>(try simp only[zhd]at hc)<;>(try have hw:=X0a hc)<;>(refine zq134 ?_;try exact zT))
  all_goals(try clear zx)
  exact K0d hF zle (Y0c rfl (Z0c zno134))
theorem bld61(a b c:Int)(r d:Nat)(l:Lst K0c): qbuild C 31 [(0,I a),(1,I b),(4,I c),(6,Fl r),(7,Fl d),(8,Lst.cv K0c.cv l)]=some (K0a.mk a b 0 0 c 0 r d l ⟨.nil,[],fun _=>rfl⟩).cv:=Y0f C tt61 (by simp only[partsOk,setAll,CV.shape,sh61,List.all_cons,List.all_nil,List.getElem?_cons_zero,List.getElem?_cons_succ,Bool.and_true,decide_true,Lst.cv]) rfl
theorem nilOp: CV.lst Tail.nil []=Lst.cv K0c.cv ⟨.nil,[],fun _=>rfl⟩:=rfl
def J63(players:Int)(rules:Lst K0c)(p:Hp)(n:Nat)(ρ:Env)(q:Hp): Prop:=
 ∃(k:Nat) (tk:Lst Int),n=players.toNat-k/\k<=players.toNat/\ρ 0=I players/\ρ 4=.ptr p.n []/\ρ 5=.ptr (p.n+1) []/\ρ 6=I k/\q.t.get p.n=some (.var sh61 K0a.zero.cv)/\q.t.get (p.n+1)=some (.var sh61 (oneWith players rules tk).cv)/\tk.l=oneTok k/\(tk.tl=.nil\/∃j,tk.tl=.own j/\p.n+1<j/\j<q.n/\q.t.get j=some (.tail tk.l.length)/\0<tk.l.length)/\p.n+1<q.n/\HpLe p q
def R63: Rel:=fun args p r=>∃(players:Int) (rules:Lst K0c),args=[I players,Lst.cv K0c.cv rules]/\(1<=players/\players<=1000)/\r=.ret (oneC players rules).cv p
theorem t63{T:XCall}(h:Has T 25 R63)(players:Int)(rules:Lst K0c){p:Hp}(h1:1<=players/\players<=1000): T 25 [I players,Lst.cv K0c.cv rules] p=.ret (oneC players rules).cv p:=h _ _ _ ⟨players,rules,rfl,h1,rfl⟩
theorem zq63{A B:Prop}(k:B)(h:A=B:=by have zy:=zA @zw63<|zA @rs63<|zA @tt3<|zA @tt24<|zA @tt61<|zA ti3.eq_1<|zA ti24.eq_1<|zA ti61.eq_1<|zA @X0e<|zA @zsl24<|zA @bld61<|@h1;exact zQ): A:=h▸k
theorem zge63{P:Prop}(h:P:=by simp (disch:=first|exact zdl|fail) only[zheap];first|done|rfl): P:=h
theorem c63: Con C 25 R63:=by
 refine K0e C ?_ ?_ ?_
 ·rintro args p r r' ⟨players,rules,h,h1,e⟩ ⟨players',rules',h',h1',e'⟩
  subst e;subst e';simp_all[K0a.inj_iff,X0p,V0i]
 ·rintro args p r ⟨players,rules,h,h1,rfl⟩;exact zr1
 ·rintro args p r ⟨players,rules,rfl,h1,rfl⟩
  refine zW C false [] zT rfl xf63 zc63_ok fun call zh hF=>?_
  clear zh
  have hPn:((players.toNat:Nat):Int)=players:=by omega
  have hre:∀j,rules.tl=.own j->j<p.n:=fun j hj=>hF.lt_arg (a:=Lst.cv K0c.cv rules) (by simp) j ((Lst.has _ K0c.nohas _ j).2 hj)
  (have zx:=zT;refine zq63 ?_;try exact zT)
  repeat'(apply zK.s<;>intro hc<;>(try simp only[zhd]at hc)<;>(try have hw:=X0a hc)<;>(refine zq63 ?_;try exact zT))
  all_goals(try clear zx)
  (show W C false noExt call (ZC.loop zn63_9) _ _ _);refine Q0i C false noExt call zn63_9 _ _ _ (J63 players rules p) players.toNat ⟨0,⟨.nil,[],fun _=>rfl⟩,rfl,by omega,(by simp[put_at,Q0d,Z0d]),(by simp[put_at,Q0d,Z0d]),(by simp[put_at,Q0d,Z0d]),(by simp[put_at,Q0d,Z0d]),zge63,zge63,rfl,.inl rfl,zb9,zle⟩ ?_
  rintro n ρ q ⟨k,⟨tl,al,ao⟩,rfl,hk,e0,e4,e5,e6,g1,g2,hal,happ,hn,hle⟩
  have hln:al.length=k:=by simp only at hal;rw[hal,oneTok_len]
  by_cases hlt:(k:Int)<players
  ·have htk:(oneWith players rules ⟨tl,al,ao⟩).Tokens=⟨tl,al,ao⟩:=rfl
   rcases happ with ht|⟨j,ht,hj1,hj2,g4,hj4⟩
   ·simp only at ht
    subst ht
    (have zx:=zA e0 (zA e4 (zA e5 (zA e6 (zA g1 (zA g2 (zA hlt htk))))));refine zq63 ?_;try exact zT)
    repeat'(apply zK.s<;>intro hc<;>(try simp only[zhd]at hc)<;>(try have hw:=X0a hc)<;>(refine zq63 ?_;try exact zT))
    all_goals(try clear zx)
    exact⟨players.toNat-(k+1),by omega,k+1,⟨.own q.n,al++[(k:Int)],nofun⟩,rfl,by omega,zev,zev,zev,zev,zg9,zg9,by simp only at hal;rw[hal,Q1c],.inr ⟨q.n,rfl,by omega,zb9,by simp (disch:=first|exact zdl|fail) only[zheap,List.length_append,List.length_cons,List.length_nil],by simp⟩,zb9,zlq⟩
   ·simp only at ht g4 hj4
    subst ht
    (have zx:=zA e0 (zA e4 (zA e5 (zA e6 (zA g1 (zA g2 (zA hlt (zA g4 htk)))))));refine zq63 ?_;try exact zT)
    repeat'(apply zK.s<;>intro hc<;>(try simp only[zhd]at hc)<;>(try have hw:=X0a hc)<;>(refine zq63 ?_;try exact zT))
    all_goals(try clear zx)
    exact⟨players.toNat-(k+1),by omega,k+1,⟨.own q.n,al++[(k:Int)],nofun⟩,rfl,by omega,zev,zev,zev,zev,zg9,zg9,by simp only at hal;rw[hal,Q1c],.inr ⟨q.n,rfl,by omega,zb9,by simp (disch:=first|exact zdl|fail) only[zheap,List.length_append,List.length_cons,List.length_nil],by simp⟩,zb9,zlq⟩
  ·have hk2:k=players.toNat:=by omega
   (have zx:=zA e0 (zA e4 (zA e5 (zA e6 (zA g1 (zA g2 hlt)))));refine zq63 ?_;try exact zT)
   repeat'(apply zK.s<;>intro hc<;>(try simp only[zhd]at hc)<;>(try have hw:=X0a hc)<;>(refine zq63 ?_;try exact zT))
   all_goals(try clear zx)
   refine K0d hF zlq ?_
   have hw:=weak_one players rules ⟨tl,al,ao⟩ p.n hre (happ.imp id fun⟨j,h1,_,_,_,h5⟩=>⟨⟨j,h1⟩,h5⟩)
   simp only at hal
   subst hk2
   subst hal
   exact hw
def R59: Rel:=fun args p r=>args=[]/\r=.ret (Bo true) p
theorem t59{T:XCall}(h:Has T 8 R59) {p:Hp}:T 8 [] p=.ret (Bo true) p:=h _ _ _ ⟨rfl,rfl⟩
theorem zq59{A B:Prop}(k:B)(h:A=B:=by have zy:=zA @zw59<|zA @rs59<|zA @tt3<|zA @tt34<|zA @tt61<|zA @tt63<|zA @tt66<|zA @tt108<|zA ti3.eq_1<|zA ti34.eq_1<|zA ti61.eq_1<|zA ti63.eq_1<|zA ti66.eq_1<|zA ti108.eq_1<|zA @t_58<|zA @t_60<|zA @t_62<|zA @t_63<|zA @t_134<|zA @X0e<|zA @Q0f<|zA @Q0e<|zA @Q0m<|zA @zsl63<|zA @zsl108<|@nilOp;exact zQ): A:=h▸k
theorem zno59{P:Prop}(h:P:=by intro jj;simp[CV.has,CV.hasL,fault,Z0b.nohas,Y0a.nohas,Q0a.nohas,Q0b.nohas]): P:=h
theorem c59: Con C 8 R59:=by
 refine K0e C ?_ ?_ ?_
 ·rintro args p r r' ⟨h,e⟩ ⟨h',e'⟩
  subst e;subst e';simp_all[K0a.inj_iff,Y0a.inj_iff,Q0a.inj_iff,Q0b.inj_iff,Y0o]
 ·rintro args p r ⟨h,rfl⟩;exact zr1
 ·rintro args p r ⟨rfl,rfl⟩
  refine zW C false [(13,R58),(9,R60),(15,R62),(25,R63),(26,R134)] ⟨c58,c60,c62,c63,c134,zT⟩ rfl xf59 zc59_ok fun call zh hF=>?_
  have t_58:=@t58 _ zh.1
  have t_60:=@t60 _ zh.2.1
  have t_62:=@t62 _ zh.2.2.1
  have t_63:=@t63 _ zh.2.2.2.1
  have t_134:=@t134 _ zh.2.2.2.2.1
  clear zh
  have k1:=kC_legal
  have k2:=kS_x
  have k3:=kS_f
  have k4:=kS_k
  have hC:oneC 1 ⟨.nil,[],fun _=>rfl⟩=kC:=rfl
  have hS:stepS kC [cellV 0 64 0] (firstS kC)=kS:=rfl
  have hl:kC.Tokens.l.length<=1000000:=by decide
  have hr:kC.Rules.l.length<=1000000:=by decide
  have hb:=kS.hBodies
  generalize hC0:kC=C0 at k1 hC hS hl hr
  generalize hS0:kS=S0 at k2 k3 k4 hS hb
  clear hC0 hS0
  (have zx:=zA hC (zA hS (zA k1 (zA k2 (zA k3 k4))));refine zq59 ?_;try exact zT)
  repeat'(apply zK.s<;>intro hc<;>(try simp only[zhd]at hc)<;>(try have hw:=X0a hc)<;>(refine zq59 ?_;try exact zT))
  all_goals(try clear zx)
  exact K0d hF zle (Y0c rfl (Z0c zno59))
def J65(players:Int)(l:Lst Int)(p:Hp)(n:Nat)(ρ:Env)(q:Hp): Prop:=
 ∃(k:Nat),n=min players.toNat l.l.length-k/\k<=min players.toNat l.l.length/\ρ 0=I players/\ρ 1=Lst.cv I l/\ρ 5=.slc p.n [] 0 players.toNat/\ρ 6=I k/\q.t.get p.n=some (.var (.n (List.replicate players.toNat sh110)) (.agg ((rowK players l.l k).map Q0b.cv)))/\p.n<q.n/\HpLe p q
def R65: Rel:=fun args p r=>∃(players:Int) (l:Lst Int),args=[I players,Lst.cv I l]/\(1<=players/\players<=100)/\r=.ret (Lst.cv Q0b.cv ⟨.part,rowOf players l.l,nofun⟩) p
theorem t65{T:XCall}(h:Has T 50 R65)(players:Int)(l:Lst Int){p:Hp}(h1:1<=players/\players<=100): T 50 [I players,Lst.cv I l] p=.ret (Lst.cv Q0b.cv ⟨.part,rowOf players l.l,nofun⟩) p:=h _ _ _ ⟨players,l,rfl,h1,rfl⟩
theorem zq65{A B:Prop}(k:B)(h:A=B:=by have zy:=zA @zw65<|zA @rs65<|zA @tt3<|zA @tt24<|zA @tt108<|zA @tt110<|zA ti3.eq_1<|zA ti24.eq_1<|zA ti108.eq_1<|zA ti110.eq_1<|zA @t_69<|zA @Q0m<|zA @K0h<|zA @zsl24<|zA @zsl108<|zA @mk108<|zA @ix108<|zA @sa108<|zA @V05<|@h1;exact zQ): A:=h▸k
theorem zge65{P:Prop}(h:P:=by simp (disch:=first|exact zdl|fail) only[zheap];first|done|rfl): P:=h
theorem c65: Con C 50 R65:=by
 refine K0e C ?_ ?_ ?_
 ·rintro args p r r' ⟨players,l,h,h1,e⟩ ⟨players',l',h',h1',e'⟩
  subst e;subst e';simp_all[Q0b.inj_iff,K0b.inj_iff,X0p,Y0o,X0p]
 ·rintro args p r ⟨players,l,h,h1,rfl⟩;exact zr1
 ·rintro args p r ⟨players,l,rfl,h1,rfl⟩
  show AnsAt C 50 [I players,Lst.cv I l] p (.ret (.lst .part ((rowOf players l.l).map Q0b.cv)) p)
  refine ans_freeze C (sh:=.n (List.replicate players.toNat sh110)) (l:=(rowOf players l.l).map Q0b.cv) (sz:=4) (fun x hx=>by obtain⟨y,_,rfl⟩:=List.mem_map.1 hx;rfl) (fun j hj=>(X0n Q0b.nohas _ j hj).elim) ?_
  refine zW C false [(69,R69)] ⟨c69,zT⟩ rfl xf65 zc65_ok fun call zh hF=>?_
  have t_69:=@t69 _ zh.1
  clear zh
  have hp:((players.toNat:Nat):Int)=players:=by omega
  have hfin:∀q:Hp,q.t.get p.n=some (.var (.n (List.replicate players.toNat sh110)) (.agg ((rowOf players l.l).map Q0b.cv)))->HpLe p q->ShrR p (.ret (.slc p.n [] 0 players.toNat) q) (.ret (.slc p.n [] 0 (rowOf players l.l).length) (p.new (.var (.n (List.replicate players.toNat sh110)) (.agg ((rowOf players l.l).map Q0b.cv))))):=by
   intro q g1 hle
   rw[rowOf_len]
   refine Y1l (by show p.n<=p.n+1;omega) (fun j o h=>?_) ⟨rfl,Nat.lt_succ_self _,rfl,rfl,rfl⟩
   by_cases hj:j=p.n
   ·subst hj
    rw[Hp.get_new_self]at h;cases h
    exact⟨Nat.lt_succ_self _,.inr ⟨_,g1,Q0o fun i hi=>by simp only[XObj.has,CV.has]at hi;exact(X0n Q0b.nohas _ i hi).elim⟩⟩
   ·rw[Hp.get_new_ne _ _ hj]at h
    have hd:=hF.dom _ _ h
    exact⟨Nat.lt_succ_of_lt hd,.inl ⟨hd,h,hle j o h⟩⟩
  (have zx:=zT;refine zq65 ?_;try exact zT)
  repeat'(apply zK.s<;>intro hc<;>(try simp only[zhd]at hc)<;>(try have hw:=X0a hc)<;>(refine zq65 ?_;try exact zT))
  all_goals(try clear zx)
  (show W C false noExt call (ZC.loop zn65_9) _ _ _);refine Q0i C false noExt call zn65_9 _ _ _ (J65 players l p) (min players.toNat l.l.length) ⟨0,rfl,by omega,(by simp[put_at,Q0d,Z0d]),(by simp[put_at,Q0d];rfl),(by simp[put_at,Q0d,Z0d]),(by simp[put_at,Q0d,Z0d]),zge65,(zb9),zle⟩ ?_
  rintro n ρ q ⟨k,rfl,hk,e0,e1,e5,e6,g1,hn,hle⟩
  have hlen:=Y1y players l.l k
  by_cases hlt:(k:Int)<players
  ·by_cases hll:(k:Int)<l.l.length
   ·have hw:=wrap_range ((nth l.l k).tdiv 7)
    by_cases h4:0<(nth l.l k).tmod 4
    ·have hst:rowK players l.l (k+1)=(rowK players l.l k).set k (cellOf (nth l.l k)):=by simp[rowK,h4]
     (have zx:=zA e0 (zA e1 (zA e5 (zA e6 (zA g1 (zA hlt (zA hll h4))))));refine zq65 ?_;try exact zT)
     repeat'(apply zK.s<;>intro hc<;>(try simp only[zhd]at hc)<;>(try have hw:=X0a hc)<;>(refine zq65 ?_;try exact zT))
     all_goals(try clear zx)
     exact⟨min players.toNat l.l.length-(k+1),by omega,k+1,rfl,by omega,zev,zev,zev,zev,by rw[hst];simp (disch:=first|exact zdl|fail) only[zheap];first|done|rfl,zb9,zlq⟩
    ·have hst:rowK players l.l (k+1)=rowK players l.l k:=by simp[rowK,h4]
     (have zx:=zA e0 (zA e1 (zA e5 (zA e6 (zA g1 (zA hlt (zA hll h4))))));refine zq65 ?_;try exact zT)
     repeat'(apply zK.s<;>intro hc<;>(try simp only[zhd]at hc)<;>(try have hw:=X0a hc)<;>(refine zq65 ?_;try exact zT))
     all_goals(try clear zx)
     exact⟨min players.toNat l.l.length-(k+1),by omega,k+1,rfl,by omega,zev,zev,zev,zev,by rw[hst];exact g1,hn,hle⟩
   ·have hk2:k=min players.toNat l.l.length:=by omega
    (have zx:=zA e0 (zA e1 (zA e5 (zA e6 (zA g1 (zA hlt hll)))));refine zq65 ?_;try exact zT)
    repeat'(apply zK.s<;>intro hc<;>(try simp only[zhd]at hc)<;>(try have hw:=X0a hc)<;>(refine zq65 ?_;try exact zT))
    all_goals(try clear zx)
    exact hfin q (by rw[g1,hk2];rfl) hle
  ·have hk2:k=min players.toNat l.l.length:=by omega
   (have zx:=zA e0 (zA e1 (zA e5 (zA e6 (zA g1 hlt))));refine zq65 ?_;try exact zT)
   repeat'(apply zK.s<;>intro hc<;>(try simp only[zhd]at hc)<;>(try have hw:=X0a hc)<;>(refine zq65 ?_;try exact zT))
   all_goals(try clear zx)
   exact hfin q (by rw[g1,hk2];rfl) hle
def J61(players:Int)(l:Lst (Lst Int))(p:Hp)(n:Nat)(ρ:Env)(q:Hp): Prop:=
 ∃(k:Nat) (acc:Lst (Lst Q0b)),n=40-k/\k<=40/\k<=l.l.length/\ρ 0=I players/\ρ 1=Lst.cv (Lst.cv I) l/\ρ 5=acc.cv (Lst.cv Q0b.cv)/\ρ 6=I k/\acc.l=(l.l.take k).map (rowL players)/\(acc.tl=.nil\/∃j,acc.tl=.own j/\p.n<=j/\j<q.n/\q.t.get j=some (.tail acc.l.length)/\0<acc.l.length)/\p.n<=q.n/\HpLe p q
def R61: Rel:=fun args p r=>∃(players:Int) (l:Lst (Lst Int)),args=[I players,Lst.cv (Lst.cv I) l]/\(1<=players/\players<=100)/\r=.ret (Lst.cv (Lst.cv Q0b.cv) (ownL (rowsOf players l.l) p.n)) (ownH (rowsOf players l.l) p)
theorem t61{T:XCall}(h:Has T 19 R61)(players:Int)(l:Lst (Lst Int)){p:Hp}(h1:1<=players/\players<=100): T 19 [I players,Lst.cv (Lst.cv I) l] p=.ret (Lst.cv (Lst.cv Q0b.cv) (ownL (rowsOf players l.l) p.n)) (ownH (rowsOf players l.l) p):=h _ _ _ ⟨players,l,rfl,h1,rfl⟩
theorem zq61{A B:Prop}(k:B)(h:A=B:=by have zy:=zA @zw61<|zA @rs61<|zA @tt3<|zA @tt24<|zA @tt58<|zA @tt92<|zA ti3.eq_1<|zA ti24.eq_1<|zA ti58.eq_1<|zA ti92.eq_1<|zA @t_65<|zA @Q0m<|zA @zsl24<|zA @zsl58<|zA @zsl92<|@h1;exact zQ): A:=h▸k
theorem c61: Con C 19 R61:=by
 refine K0e C ?_ ?_ ?_
 ·rintro args p r r' ⟨players,l,h,h1,e⟩ ⟨players',l',h',h1',e'⟩
  subst e;subst e';simp_all[Q0b.inj_iff,X0p,K1t,X10,K1t]
 ·rintro args p r ⟨players,l,h,h1,rfl⟩;exact zr1
 ·rintro args p r ⟨players,l,rfl,h1,rfl⟩
  refine zW C false [(50,R65)] ⟨c65,zT⟩ rfl xf61 zc61_ok fun call zh hF=>?_
  have t_65:=@t65 _ zh.1
  clear zh
  (have zx:=zT;refine zq61 ?_;try exact zT)
  repeat'(apply zK.s<;>intro hc<;>(try simp only[zhd]at hc)<;>(try have hw:=X0a hc)<;>(refine zq61 ?_;try exact zT))
  all_goals(try clear zx)
  show W C false noExt call (ZC.block 0 (ZC.loop zn61_9)) _ _ (seqQ _ _)
  refine W_cut C false noExt call _ _ _ _ (fun ρ q=>∃acc:Lst (Lst Q0b),ρ 5=acc.cv (Lst.cv Q0b.cv)/\acc.l=rowsOf players l.l/\(acc.tl=.nil\/∃j,acc.tl=.own j/\p.n<=j/\q.t.get j=some (.tail acc.l.length)/\0<acc.l.length)/\HpLe p q) ?_ ?_
  ·(show W C false noExt call (ZC.loop zn61_9) _ _ _);refine Q0i C false noExt call zn61_9 _ _ _ (J61 players l p) 40 ⟨0,⟨.nil,[],fun _=>rfl⟩,rfl,by omega,by omega,(by simp[put_at,Q0d,Z0d]),(by simp[put_at,Q0d];rfl),by simp[put_at,Q0d,Z0d,Lst.cv],(by simp[put_at,Q0d,Z0d]),by simp,.inl rfl,by omega,zle⟩ ?_
   rintro n ρ q ⟨k,⟨tl,al,ao⟩,rfl,hk,hkl,e0,e1,e5,e6,hacc,happ,hn,hle⟩
   have hal:al.length=k:=by simp only at hacc;rw[hacc];simp;omega
   by_cases hlt:(k:Int)<l.l.length
   ·by_cases h40:(k:Int)<40
    ·have htk:=take_nx (l:=l.l) (k:=k) (by omega)
     have hrow:(⟨.part,rowOf players (nth l.l k).l,nofun⟩:Lst Q0b)=rowL players (nth l.l k):=rfl
     rcases happ with ht|⟨j,ht,hj1,hj2,g1,hj4⟩
     ·simp only at ht
      subst ht
      (have zx:=zA e0 (zA e1 (zA e5 (zA e6 (zA hlt (zA h40 hrow)))));refine zq61 ?_;try exact zT)
      repeat'(apply zK.s<;>intro hc<;>(try simp only[zhd]at hc)<;>(try have hw:=X0a hc)<;>(refine zq61 ?_;try exact zT))
      all_goals(try clear zx)
      exact⟨40-(k+1),by omega,k+1,⟨.own q.n,al++[rowL players (nth l.l k)],nofun⟩,rfl,by omega,by omega,zev,zev,zev,zev,by simp only at hacc;rw[htk,List.map_append,hacc];rfl,.inr ⟨q.n,rfl,hn,zb9,by simp (disch:=first|exact zdl|fail) only[zheap,List.length_append,List.length_cons,List.length_nil],by simp⟩,zb9,zlq⟩
     ·simp only at ht g1 hj4
      subst ht
      (have zx:=zA e0 (zA e1 (zA e5 (zA e6 (zA hlt (zA h40 (zA g1 hrow))))));refine zq61 ?_;try exact zT)
      repeat'(apply zK.s<;>intro hc<;>(try simp only[zhd]at hc)<;>(try have hw:=X0a hc)<;>(refine zq61 ?_;try exact zT))
      all_goals(try clear zx)
      exact⟨40-(k+1),by omega,k+1,⟨.own q.n,al++[rowL players (nth l.l k)],nofun⟩,rfl,by omega,by omega,zev,zev,zev,zev,by simp only at hacc;rw[htk,List.map_append,hacc];rfl,.inr ⟨q.n,rfl,hn,zb9,by simp (disch:=first|exact zdl|fail) only[zheap,List.length_append,List.length_cons,List.length_nil],by simp⟩,zb9,zlq⟩
    ·(have zx:=zA e0 (zA e1 (zA e5 (zA e6 (zA hlt h40))));refine zq61 ?_;try exact zT)
     repeat'(apply zK.s<;>intro hc<;>(try simp only[zhd]at hc)<;>(try have hw:=X0a hc)<;>(refine zq61 ?_;try exact zT))
     all_goals(try clear zx)
     have hk40:k=40:=by omega
     subst hk40
     exact⟨⟨tl,al,ao⟩,zev,hacc,happ.imp id fun⟨j,h1,h2,_,h4,h5⟩=>⟨j,h1,h2,h4,h5⟩,hle⟩
   ·(have zx:=zA e0 (zA e1 (zA e5 (zA e6 hlt)));refine zq61 ?_;try exact zT)
    repeat'(apply zK.s<;>intro hc<;>(try simp only[zhd]at hc)<;>(try have hw:=X0a hc)<;>(refine zq61 ?_;try exact zT))
    all_goals(try clear zx)
    have ht:l.l.take k=l.l.take 40:=by rw[List.take_of_length_le (by omega),List.take_of_length_le (by omega)]
    exact⟨⟨tl,al,ao⟩,zev,by rw[hacc,ht];rfl,happ.imp id fun⟨j,h1,h2,_,h4,h5⟩=>⟨j,h1,h2,h4,h5⟩,hle⟩
  rintro ρ q ⟨acc,e5,hacc,happ,hle⟩
  (have zx:=e5;refine zq61 ?_;try exact zT)
  repeat'(apply zK.s<;>intro hc<;>(try simp only[zhd]at hc)<;>(try have hw:=X0a hc)<;>(refine zq61 ?_;try exact zT))
  all_goals(try clear zx)
  rw[<- hacc]
  exact shr_ownL hF acc hle happ (fun x hx j=>by
   rw[hacc]at hx
   obtain⟨y,_,rfl⟩:=List.mem_map.1 hx
   intro h;cases((Lst.has _ Q0b.nohas _ j).1 h))
def J86(l:Lst V0b)(p:Hp)(n:Nat)(ρ:Env)(q:Hp): Prop:=
 ∃(k:Nat) (acc:Lst K0c),n=16-k/\k<=16/\k<=l.l.length/\ρ 0=l.cv V0b.cv/\ρ 3=acc.cv K0c.cv/\ρ 4=I k/\acc.l=(l.l.take k).map fixOp/\(acc.tl=.nil\/∃j,acc.tl=.own j/\p.n<=j/\j<q.n/\q.t.get j=some (.tail acc.l.length)/\0<acc.l.length)/\p.n<=q.n/\HpLe p q
def R86: Rel:=fun args p r=>∃(l:Lst V0b),args=[l.cv V0b.cv]/\r=.ret (Lst.cv K0c.cv (partL (rulesOf l.l))) p
theorem t86{T:XCall}(h:Has T 17 R86)(l:Lst V0b){p:Hp}:T 17 [l.cv V0b.cv] p=.ret (Lst.cv K0c.cv (partL (rulesOf l.l))) p:=h _ _ _ ⟨l,rfl,rfl⟩
theorem zq86{A B:Prop}(k:B)(h:A=B:=by have zy:=zA @zw86<|zA @rs86<|zA @tt3<|zA @tt22<|zA @tt23<|zA @tt29<|zA @tt31<|zA ti3.eq_1<|zA ti22.eq_1<|zA ti23.eq_1<|zA ti29.eq_1<|zA ti31.eq_1<|zA @t_21<|zA @V03<|zA @K0i<|zA @zsl22<|@zsl23;exact zQ): A:=h▸k
theorem c86: Con C 17 R86:=by
 refine K0e C ?_ ?_ ?_
 ·rintro args p r r' ⟨l,h,e⟩ ⟨l',h',e'⟩
  subst e;subst e';simp_all[V0b.inj_iff,K0c.inj_iff,Z1q,V0i]
 ·rintro args p r ⟨l,h,rfl⟩;exact zr1
 ·rintro args p r ⟨l,rfl,rfl⟩
  refine zW C false [(49,R21)] ⟨c21,zT⟩ rfl xf86 zc86_ok fun call zh hF=>?_
  have t_21:=@t21 _ zh.1
  clear zh
  (have zx:=zT;refine zq86 ?_;try exact zT)
  repeat'(apply zK.s<;>intro hc<;>(try simp only[zhd]at hc)<;>(try have hw:=X0a hc)<;>(refine zq86 ?_;try exact zT))
  all_goals(try clear zx)
  show W C false noExt call (ZC.block 0 (ZC.loop zn86_9)) _ _ (seqQ _ _)
  refine W_cut C false noExt call _ _ _ _ (fun ρ q=>∃acc:Lst K0c,ρ 3=acc.cv K0c.cv/\acc.l=rulesOf l.l/\(acc.tl=.nil\/(∃j,acc.tl=.own j)/\0<acc.l.length)/\HpLe p q) ?_ ?_
  ·(show W C false noExt call (ZC.loop zn86_9) _ _ _);refine Q0i C false noExt call zn86_9 _ _ _ (J86 l p) 16 ⟨0,⟨.nil,[],fun _=>rfl⟩,rfl,by omega,by omega,(by simp[put_at,Q0d,Z0d]),by simp[put_at,Q0d,Z0d,Lst.cv],(by simp[put_at,Q0d,Z0d]),by simp,.inl rfl,by omega,zle⟩ ?_
   rintro n ρ q ⟨k,⟨tl,al,ao⟩,rfl,hk,hkl,e0,e3,e4,hacc,happ,hn,hle⟩
   have hal:al.length=k:=by simp only at hacc;rw[hacc];simp;omega
   by_cases hlt:(k:Int)<l.l.length
   ·by_cases h16:(k:Int)<16
    ·have htk:=take_nx (l:=l.l) (k:=k) (by omega)
     generalize hx:nth l.l k=x at htk
     cases hR:opRight (handOp x) with
     |true=>
      have hfx:fixOp x=handOp x:=by simp[fixOp,hR]
      have hR2:=hR
      simp only[opRight,Bool.and_eq_true]at hR2
      have w1:=X0a hR2.1.1
      have w2:=X0a hR2.1.2
      have w3:=X0a hR2.2
      have n1:¬(handOp x).Code<1:=by omega
      have n2:¬(13:Int)<(handOp x).Code:=by omega
      have n3:¬(handOp x).A < -1000000:=by omega
      have n4:¬(1000000:Int)<(handOp x).A:=by omega
      have n5:¬(handOp x).B < -1000000:=by omega
      have n6:¬(1000000:Int)<(handOp x).B:=by omega
      rcases happ with ht|⟨j,ht,hj1,hj2,g1,hj4⟩
      ·simp only at ht
       subst ht
       (have zx:=zA e0 (zA e3 (zA e4 (zA hlt (zA h16 (zA hx (zA n1 (zA n2 (zA n3 (zA n4 (zA n5 n6))))))))));refine zq86 ?_;try exact zT)
       repeat'(apply zK.s<;>intro hc<;>(try simp only[zhd]at hc)<;>(try have hw:=X0a hc)<;>(refine zq86 ?_;try exact zT))
       all_goals(try clear zx)
       exact⟨16-(k+1),by omega,k+1,⟨.own (q.n+1),al++[fixOp x],nofun⟩,rfl,by omega,by omega,zev,by simp[put_at,Q0d,hfx],zev,by simp only at hacc;rw[htk,List.map_append,hacc];rfl,.inr ⟨q.n+1,rfl,by omega,zb9,by simp (disch:=first|exact zdl|fail) only[zheap,List.length_append,List.length_cons,List.length_nil],by simp⟩,zb9,zlq⟩
      ·simp only at ht g1 hj4
       subst ht
       (have zx:=zA e0 (zA e3 (zA e4 (zA hlt (zA h16 (zA hx (zA n1 (zA n2 (zA n3 (zA n4 (zA n5 (zA n6 g1)))))))))));refine zq86 ?_;try exact zT)
       repeat'(apply zK.s<;>intro hc<;>(try simp only[zhd]at hc)<;>(try have hw:=X0a hc)<;>(refine zq86 ?_;try exact zT))
       all_goals(try clear zx)
       exact⟨16-(k+1),by omega,k+1,⟨.own (q.n+1),al++[fixOp x],nofun⟩,rfl,by omega,by omega,zev,by simp[put_at,Q0d,hfx],zev,by simp only at hacc;rw[htk,List.map_append,hacc];rfl,.inr ⟨q.n+1,rfl,by omega,zb9,by simp (disch:=first|exact zdl|fail) only[zheap,List.length_append,List.length_cons,List.length_nil],by simp⟩,zb9,zlq⟩
     |false=>
      have hfx:fixOp x=⟨13,0,0⟩:=by simp[fixOp,hR]
      have hkill:¬((handOp x).Code<1)->¬((13:Int)<(handOp x).Code)->¬((handOp x).A < -1000000)->¬((1000000:Int)<(handOp x).A)->¬((handOp x).B < -1000000)->¬((1000000:Int)<(handOp x).B)->False:=by
       intro a b c d e f
       have:opRight (handOp x)=true:=by simp[opRight,within];omega
       rw[hR]at this;cases this
      rcases happ with ht|⟨j,ht,hj1,hj2,g1,hj4⟩
      ·simp only at ht
       subst ht
       (have zx:=zA e0 (zA e3 (zA e4 (zA hlt (zA h16 hx))));refine zq86 ?_;try exact zT)
       repeat'(apply zK.s<;>intro hc<;>(try simp only[zhd]at hc)<;>(try have hw:=X0a hc)<;>(refine zq86 ?_;try exact zT))
       all_goals(try clear zx)
       all_goals first|exact(hkill (by assumption) (by assumption) (by assumption) (by assumption) (by assumption) (by assumption)).elim|exact⟨16-(k+1),by omega,k+1,⟨.own (q.n+1),al++[fixOp x],nofun⟩,rfl,by omega,by omega,zev,by simp[put_at,Q0d,hfx],zev,by simp only at hacc;rw[htk,List.map_append,hacc];rfl,.inr ⟨q.n+1,rfl,by omega,zb9,by simp (disch:=first|exact zdl|fail) only[zheap,List.length_append,List.length_cons,List.length_nil],by simp⟩,zb9,zlq⟩
      ·simp only at ht g1 hj4
       subst ht
       (have zx:=zA e0 (zA e3 (zA e4 (zA hlt (zA h16 (zA hx g1)))));refine zq86 ?_;try exact zT)
       repeat'(apply zK.s<;>intro hc<;>(try simp only[zhd]at hc)<;>(try have hw:=X0a hc)<;>(refine zq86 ?_;try exact zT))
       all_goals(try clear zx)
       all_goals first|exact(hkill (by assumption) (by assumption) (by assumption) (by assumption) (by assumption) (by assumption)).elim|exact⟨16-(k+1),by omega,k+1,⟨.own (q.n+1),al++[fixOp x],nofun⟩,rfl,by omega,by omega,zev,by simp[put_at,Q0d,hfx],zev,by simp only at hacc;rw[htk,List.map_append,hacc];rfl,.inr ⟨q.n+1,rfl,by omega,zb9,by simp (disch:=first|exact zdl|fail) only[zheap,List.length_append,List.length_cons,List.length_nil],by simp⟩,zb9,zlq⟩
    ·(have zx:=zA e0 (zA e3 (zA e4 (zA hlt h16)));refine zq86 ?_;try exact zT)
     repeat'(apply zK.s<;>intro hc<;>(try simp only[zhd]at hc)<;>(try have hw:=X0a hc)<;>(refine zq86 ?_;try exact zT))
     all_goals(try clear zx)
     have hk16:k=16:=by omega
     subst hk16
     exact⟨⟨tl,al,ao⟩,zev,hacc,happ.imp id fun⟨j,h1,_,_,_,h5⟩=>⟨⟨j,h1⟩,h5⟩,hle⟩
   ·(have zx:=zA e0 (zA e3 (zA e4 hlt));refine zq86 ?_;try exact zT)
    repeat'(apply zK.s<;>intro hc<;>(try simp only[zhd]at hc)<;>(try have hw:=X0a hc)<;>(refine zq86 ?_;try exact zT))
    all_goals(try clear zx)
    have ht:l.l.take k=l.l.take 16:=by rw[List.take_of_length_le (by omega),List.take_of_length_le (by omega)]
    exact⟨⟨tl,al,ao⟩,zev,by rw[hacc,ht];rfl,happ.imp id fun⟨j,h1,_,_,_,h5⟩=>⟨⟨j,h1⟩,h5⟩,hle⟩
  rintro ρ q ⟨acc,e3,hacc,happ,hle⟩
  (have zx:=e3;refine zq86 ?_;try exact zT)
  repeat'(apply zK.s<;>intro hc<;>(try simp only[zhd]at hc)<;>(try have hw:=X0a hc)<;>(refine zq86 ?_;try exact zT))
  all_goals(try clear zx)
  refine K0d hF zlq ?_
  rw[<- hacc]
  exact X0x K0c.nohas acc _ happ
end Go.Proofs.YtpchcfkebljopaaGreat
end
