import Derived.Test.YtpchcfkebljopaaGreatXf
set_option linter.unusedSimpArgs false
set_option linter.unusedVariables false
set_option linter.constructorNameAsVariable false
set_option linter.defProp false
set_option maxHeartbeats 8000000
section
namespace Go.Proofs.YtpchcfkebljopaaGreat
open Go.Cl Go Go.RowKit
set_option maxRecDepth 100000
def zn201_1:=ZC.reg [zv 6 (.assign (Kn 0))]
def zn201_3:=ZC.reg [zu 7 (zmv 1),zu 8 (zmv 0),zu 9 (zmv 2),zu 10 (zcb .min [Tm 8,Tm 9] [3,3]),zu 11 (zcb .max [Tm 7,Tm 10] [3,3]),zv 6 (zas 11)]
def zn201_2:=ZC.seq zn201_3 ZC.ret
def zn201_0:=ZC.seq zn201_1 zn201_2
def zc201: ZC:=zn201_0
theorem zc201_ok: zcode (xfOf Tryz.f100).code=some zc201:=by kernel_rfl
def zw201:=zU C zc201.eq_1<|zU C zn201_1.eq_1<|zU C zn201_3.eq_1<|zU C zn201_2.eq_1<|(zunf C zn201_0.eq_1)
theorem rs201: (xfOf Tryz.f100).rs=[.tmp 6]:=by kernel_rfl
theorem xf201: XFok C 100 (xfOf Tryz.f100):=by refine⟨Tryz.f100,?_,?_,?_,?_,?_,?_,?_⟩<;>kernel_rfl
def zn84_1:=ZC.reg [zv 6 (.assign (.const (.bool false)))]
def zn84_3:=ZC.reg [zu 7 (zmv 0),zu 8 (zmv 1),zu 9 (.binOp .geq 3 (Tm 7) (Tm 8) 3),zu 10 (zmv 9),zug 11 (zmv 0) 10 true false,zug 12 (zmv 2) 10 true false,zug 13 (.binOp .leq 3 (Tm 11) (Tm 12) 3) 10 true false,zu 14 (.pick (Tm 10) (Tm 13) (.const (.bool false))),zv 6 (zas 14)]
def zn84_2:=ZC.seq zn84_3 ZC.ret
def zn84_0:=ZC.seq zn84_1 zn84_2
def zc84: ZC:=zn84_0
theorem zc84_ok: zcode (xfOf Tryz.f56).code=some zc84:=by kernel_rfl
def zw84:=zU C zc84.eq_1<|zU C zn84_1.eq_1<|zU C zn84_3.eq_1<|zU C zn84_2.eq_1<|(zunf C zn84_0.eq_1)
theorem rs84: (xfOf Tryz.f56).rs=[.tmp 6]:=by kernel_rfl
theorem xf84: XFok C 56 (xfOf Tryz.f56):=by refine⟨Tryz.f56,?_,?_,?_,?_,?_,?_,?_⟩<;>kernel_rfl
def zn150_0:=ZC.reg [zu 6 (zmv 1),zu 7 (zmv 2),zu 8 (zmv 0),zu 9 (.nilCheck (Tm 8)),zu 10 (zfa 130 9 2),zu 11 (zld 3 10),zv 12 (zcf 91 [Tm 6,Tm 7,Tm 11] [4,3,3])]
def zc150: ZC:=zn150_0
theorem zc150_ok: zcode (xfOf Tryz.f89).code=some zc150:=by kernel_rfl
def zw150:=zU C zc150.eq_1<|(zunf C zn150_0.eq_1)
theorem rs150: (xfOf Tryz.f89).rs=[]:=by kernel_rfl
theorem xf150: XFok C 89 (xfOf Tryz.f89):=by refine⟨Tryz.f89,?_,?_,?_,?_,?_,?_,?_⟩<;>kernel_rfl
def zn183_0:=ZC.draw 10 [] [zdd 0 6 (zmv 0) false [] [] false,zdd 1 7 (zmv 1) false [] [] false,zdd 2 8 (zmv 2) false [] [] false,zdd 3 9 (zcf 100 [Tm 8,Kn (-1000000),Kn 1000000] [3,3,3]) false [] [] true,zdd 4 10 (.nilCheck (Tm 6)) true [] [] false,zdd 5 11 (zfa 130 10 0) true [3] [] false,zdd 6 12 (zfa 115 11 0) true [3] [] false,zdd 7 13 (zfa 36 12 7) true [3] [] false,zdd 8 14 (zia 34 13 7) true [] [] false,zd0 9 (.store 3 (Tm 14) (Tm 9)) true [] [] false]
def zc183: ZC:=zn183_0
theorem zc183_ok: zcode (xfOf Tryz.f93).code=some zc183:=by kernel_rfl
def zw183:=zU C zc183.eq_1<|(zunf C zn183_0.eq_1)
theorem rs183: (xfOf Tryz.f93).rs=[]:=by kernel_rfl
theorem xf183: XFok C 93 (xfOf Tryz.f93):=by refine⟨Tryz.f93,?_,?_,?_,?_,?_,?_,?_⟩<;>kernel_rfl
def zn186_1:=ZC.reg [zv 4 (.assign (Kn 0))]
def zn186_3:=ZC.reg [zu 5 (zmv 0),zu 6 (zmv 1),zu 7 (.nilCheck (Tm 5)),zu 8 (zfa 130 7 0),zu 9 (zfa 115 8 0),zu 10 (zfa 36 9 7),zu 11 (zia 34 10 6),zu 12 (zld 3 11),zv 4 (zas 12)]
def zn186_2:=ZC.seq zn186_3 ZC.ret
def zn186_0:=ZC.seq zn186_1 zn186_2
def zc186: ZC:=zn186_0
theorem zc186_ok: zcode (xfOf Tryz.f96).code=some zc186:=by kernel_rfl
def zw186:=zU C zc186.eq_1<|zU C zn186_1.eq_1<|zU C zn186_3.eq_1<|zU C zn186_2.eq_1<|(zunf C zn186_0.eq_1)
theorem rs186: (xfOf Tryz.f96).rs=[.tmp 4]:=by kernel_rfl
theorem xf186: XFok C 96 (xfOf Tryz.f96):=by refine⟨Tryz.f96,?_,?_,?_,?_,?_,?_,?_⟩<;>kernel_rfl
def zn181_1:=ZC.reg [zu 6 (zmv 0),zv 7 (.unOp .not 4 (Tm 6))]
def zn181_3:=ZC.reg [zu 8 (zmv 1),zu 9 (zmv 2),zv 10 (zcf 99 [Tm 8,Tm 9] [3,3])]
def zn181_2:=ZC.cond (Tm 7) zn181_3 ZC.skip
def zn181_0:=ZC.seq zn181_1 zn181_2
def zc181: ZC:=zn181_0
theorem zc181_ok: zcode (xfOf Tryz.f91).code=some zc181:=by kernel_rfl
def zw181:=zU C zc181.eq_1<|zU C zn181_1.eq_1<|zU C zn181_3.eq_1<|zU C zn181_2.eq_1<|(zunf C zn181_0.eq_1)
theorem rs181: (xfOf Tryz.f91).rs=[]:=by kernel_rfl
theorem xf181: XFok C 91 (xfOf Tryz.f91):=by refine⟨Tryz.f91,?_,?_,?_,?_,?_,?_,?_⟩<;>kernel_rfl
def zn200_0:=ZC.reg [zu 4 (zmv 0),zu 5 (zmv 1),⟨some 6,.build 117 ⟨[(0,.tmp 4),(1,.tmp 5)]⟩,none,false⟩,⟨some 7,.build 136 ⟨[(0,.tmp 6)]⟩,none,false⟩,zu 8 (.makeInterface 136 (Tm 7)),zv0 (.panic (Tm 8))]
def zc200: ZC:=zn200_0
theorem zc200_ok: zcode (xfOf Tryz.f99).code=some zc200:=by kernel_rfl
def zw200:=zU C zc200.eq_1<|(zunf C zn200_0.eq_1)
theorem rs200: (xfOf Tryz.f99).rs=[]:=by kernel_rfl
theorem xf200: XFok C 99 (xfOf Tryz.f99):=by refine⟨Tryz.f99,?_,?_,?_,?_,?_,?_,?_⟩<;>kernel_rfl
def zn187_1:=ZC.reg [zv 4 (.assign (Kn 0))]
def zn187_3:=ZC.reg [zu 5 (zmv 0),zu 6 (zmv 1),zu 7 (zmv 0),zu 8 (.nilCheck (Tm 7)),zu 9 (zfa 130 8 1),zu 10 (zld 28 9),zu 11 (zcb .len [Tm 10] [28]),zu 12 (zcf 56 [Tm 6,Kn 0,Tm 11] [3,3,3]),zv 13 (zcf 89 [Tm 5,Tm 12,Kn 4] [128,4,3])]
def zn187_5:=ZC.reg [zu 14 (zmv 1),zv 4 (zas 14)]
def zn187_4:=ZC.seq zn187_5 ZC.ret
def zn187_2:=ZC.seq zn187_3 zn187_4
def zn187_0:=ZC.seq zn187_1 zn187_2
def zc187: ZC:=zn187_0
theorem zc187_ok: zcode (xfOf Tryz.f97).code=some zc187:=by kernel_rfl
def zw187:=zU C zc187.eq_1<|zU C zn187_1.eq_1<|zU C zn187_3.eq_1<|zU C zn187_5.eq_1<|zU C zn187_4.eq_1<|zU C zn187_2.eq_1<|(zunf C zn187_0.eq_1)
theorem rs187: (xfOf Tryz.f97).rs=[.tmp 4]:=by kernel_rfl
theorem xf187: XFok C 97 (xfOf Tryz.f97):=by refine⟨Tryz.f97,?_,?_,?_,?_,?_,?_,?_⟩<;>kernel_rfl
def zn71_1:=ZC.reg [zv 6 (.assign (.const (.bool false)))]
def zn71_3:=ZC.reg [zu 7 (zmv 0),zu 8 (zmv 1),zu 9 (.binOp .geq 3 (Tm 7) (Tm 8) 3),zu 10 (zmv 9),zug 11 (zmv 0) 10 true false,zug 12 (zmv 2) 10 true false,zug 13 (.binOp .leq 3 (Tm 11) (Tm 12) 3) 10 true false,zu 14 (.pick (Tm 10) (Tm 13) (.const (.bool false))),zv 6 (zas 14)]
def zn71_2:=ZC.seq zn71_3 ZC.ret
def zn71_0:=ZC.seq zn71_1 zn71_2
def zc71: ZC:=zn71_0
theorem zc71_ok: zcode (xfOf Tryz.f72).code=some zc71:=by kernel_rfl
def zw71:=zU C zc71.eq_1<|zU C zn71_1.eq_1<|zU C zn71_3.eq_1<|zU C zn71_2.eq_1<|(zunf C zn71_0.eq_1)
theorem rs71: (xfOf Tryz.f72).rs=[.tmp 6]:=by kernel_rfl
theorem xf71: XFok C 72 (xfOf Tryz.f72):=by refine⟨Tryz.f72,?_,?_,?_,?_,?_,?_,?_⟩<;>kernel_rfl
def zn140_1:=ZC.reg [zv 6 (.assign (Kn 0))]
def zn140_3:=ZC.reg [zu 7 (zmv 1),zu 8 (zmv 0),zu 9 (zmv 2),zu 10 (zcb .min [Tm 8,Tm 9] [3,3]),zu 11 (zcb .max [Tm 7,Tm 10] [3,3]),zv 6 (zas 11)]
def zn140_2:=ZC.seq zn140_3 ZC.ret
def zn140_0:=ZC.seq zn140_1 zn140_2
def zc140: ZC:=zn140_0
theorem zc140_ok: zcode (xfOf Tryz.f58).code=some zc140:=by kernel_rfl
def zw140:=zU C zc140.eq_1<|zU C zn140_1.eq_1<|zU C zn140_3.eq_1<|zU C zn140_2.eq_1<|(zunf C zn140_0.eq_1)
theorem rs140: (xfOf Tryz.f58).rs=[.tmp 6]:=by kernel_rfl
theorem xf140: XFok C 58 (xfOf Tryz.f58):=by refine⟨Tryz.f58,?_,?_,?_,?_,?_,?_,?_⟩<;>kernel_rfl
def zn24_1:=ZC.reg [zu 1 (.box 36 (Tm 0)),zv 2 (.assign (.const (.bool false)))]
def zn24_4:=ZC.reg [zu 7 (zfa 36 1 0),zu 8 (zld 3 7),zv 9 (.binOp .eql 3 (Tm 8) (Kn 0) 3)]
def zn24_7:=ZC.reg [zu 10 (zld 36 1),⟨some 11,.build 36 ⟨[]⟩,none,false⟩,zu 12 (.binOp .eql 36 (Tm 10) (Tm 11) 36),zv 2 (zas 12)]
def zn24_6:=ZC.seq zn24_7 ZC.ret
def zn24_5:=ZC.cond (Tm 9) zn24_6 ZC.skip
def zn24_3:=ZC.seq zn24_4 zn24_5
def zn24_10:=ZC.reg [zu 13 (zfa 36 1 7),zu 14 (zld 34 13),zv 15 (.move (Kn 0))]
def zn24_14:=ZC.reg [zv 16 (.binOp .lss 3 (Tm 15) (Kn 4) 3)]
def zn24_16:=ZC.cond (Tm 16) ZC.skip (ZC.exit 0)
def zn24_20:=ZC.reg [zu 17 (.index 34 (Tm 14) (Tm 15)),zv 4 (zas 17)]
def zn24_22:=ZC.reg [zu 18 (zmv 4),zu 19 (zcf 72 [Tm 18,Kn (-1000000),Kn 1000000] [3,3,3]),zv 20 (.unOp .not 4 (Tm 19))]
def zn24_25:=ZC.reg [zv 2 (.assign (.const (.bool false)))]
def zn24_24:=ZC.seq zn24_25 ZC.ret
def zn24_23:=ZC.cond (Tm 20) zn24_24 ZC.skip
def zn24_21:=ZC.seq zn24_22 zn24_23
def zn24_19:=ZC.seq zn24_20 zn24_21
def zn24_18:=ZC.block 1 zn24_19
def zn24_26:=ZC.reg [zu 21 (.binOp .add 3 (Tm 15) (Kn 1) 3),zv 15 (zmv 21)]
def zn24_17:=ZC.seq zn24_18 zn24_26
def zn24_15:=ZC.seq zn24_16 zn24_17
def zn24_13:=ZC.seq zn24_14 zn24_15
def zn24_12:=ZC.loop zn24_13
def zn24_11:=ZC.block 0 zn24_12
def zn24_9:=ZC.seq zn24_10 zn24_11
def zn24_28:=ZC.reg [zu 22 (zfa 36 1 2),zu 23 (zld 3 22),zu 24 (zcf 72 [Tm 23,Kn 0,Kn 4095] [3,3,3]),zu 25 (zmv 24),zug 26 (zfa 36 1 3) 25 true false,zug 27 (zld 3 26) 25 true false,zug 28 (zcf 72 [Tm 27,Kn 0,Kn 4095] [3,3,3]) 25 true false,zu 29 (.pick (Tm 25) (Tm 28) (.const (.bool false))),zv 5 (zas 29)]
def zn24_30:=ZC.reg [zu 30 (zfa 36 1 4),zu 31 (zld 3 30),zu 32 (zcf 72 [Tm 31,Kn (-64),Kn 64] [3,3,3]),zu 33 (zmv 32),zug 34 (zfa 36 1 5) 33 true false,zug 35 (zld 3 34) 33 true false,zug 36 (zcf 72 [Tm 35,Kn (-64),Kn 64] [3,3,3]) 33 true false,zu 37 (.pick (Tm 33) (Tm 36) (.const (.bool false))),zv 6 (zas 37)]
def zn24_32:=ZC.reg [zu 38 (zfa 36 1 0),zu 39 (zld 3 38),zu 40 (.binOp .eql 3 (Tm 39) (Kn 1) 3),zu 41 (zmv 40),zug 42 (zfa 36 1 0) 41 false false,zug 43 (zld 3 42) 41 false false,zug 44 (.binOp .eql 3 (Tm 43) (Kn 2) 3) 41 false false,zu 45 (.pick (Tm 41) (.const (.bool true)) (Tm 44)),zu 46 (zmv 45),zug 47 (zfa 36 1 1) 46 true false,zug 48 (zld 3 47) 46 true false,zug 49 (zcf 72 [Tm 48,Kn 0,Kn 7] [3,3,3]) 46 true false,zu 50 (.pick (Tm 46) (Tm 49) (.const (.bool false))),zu 51 (zmv 50),zug 52 (zmv 5) 51 true false,zu 53 (.pick (Tm 51) (Tm 52) (.const (.bool false))),zu 54 (zmv 53),zug 55 (zmv 6) 54 true false,zu 56 (.pick (Tm 54) (Tm 55) (.const (.bool false))),zu 57 (zmv 56),zug 58 (zfa 36 1 6) 57 true false,zug 59 (zld 3 58) 57 true false,zug 60 (zcf 72 [Tm 59,Kn 0,Kn 600] [3,3,3]) 57 true false,zu 61 (.pick (Tm 57) (Tm 60) (.const (.bool false))),zu 62 (zmv 61),zug 63 (zfa 36 1 8) 62 true false,zug 64 (zld 3 63) 62 true false,zug 65 (zcf 72 [Tm 64,Kn 0,Kn 65535] [3,3,3]) 62 true false,zu 66 (.pick (Tm 62) (Tm 65) (.const (.bool false))),zv 2 (zas 66)]
def zn24_31:=ZC.seq zn24_32 ZC.ret
def zn24_29:=ZC.seq zn24_30 zn24_31
def zn24_27:=ZC.seq zn24_28 zn24_29
def zn24_8:=ZC.seq zn24_9 zn24_27
def zn24_2:=ZC.seq zn24_3 zn24_8
def zn24_0:=ZC.seq zn24_1 zn24_2
def zc24: ZC:=zn24_0
theorem zc24_ok: zcode (xfOf Tryz.f57).code=some zc24:=by kernel_rfl
def zw24:=zU C zc24.eq_1<|zU C zn24_1.eq_1<|zU C zn24_4.eq_1<|zU C zn24_7.eq_1<|zU C zn24_6.eq_1<|zU C zn24_5.eq_1<|zU C zn24_3.eq_1<|zU C zn24_10.eq_1<|zU C zn24_14.eq_1<|zU C zn24_16.eq_1<|zU C zn24_20.eq_1<|zU C zn24_22.eq_1<|zU C zn24_25.eq_1<|zU C zn24_24.eq_1<|zU C zn24_23.eq_1<|zU C zn24_21.eq_1<|zU C zn24_19.eq_1<|zU C zn24_18.eq_1<|zU C zn24_26.eq_1<|zU C zn24_17.eq_1<|zU C zn24_15.eq_1<|zU C zn24_13.eq_1<|zU C zn24_11.eq_1<|zU C zn24_9.eq_1<|zU C zn24_28.eq_1<|zU C zn24_30.eq_1<|zU C zn24_32.eq_1<|zU C zn24_31.eq_1<|zU C zn24_29.eq_1<|zU C zn24_27.eq_1<|zU C zn24_8.eq_1<|zU C zn24_2.eq_1<|(zunf C zn24_0.eq_1)
theorem rs24: (xfOf Tryz.f57).rs=[.tmp 2]:=by kernel_rfl
theorem xf24: XFok C 57 (xfOf Tryz.f57):=by refine⟨Tryz.f57,?_,?_,?_,?_,?_,?_,?_⟩<;>kernel_rfl
def zn182_1:=ZC.reg [zv 3 (.box 45 (Tm 1))]
def zn182_3:=ZC.reg [zu 4 (.assign (.const (.bool true))),zv 5 (.assign (.const (.bool true)))]
def zn182_6:=ZC.reg [zu 6 (zfa 45 3 0),zv 7 (zld 3 6)]
def zn182_10:=ZC.reg [zu 9 (.binOp .eql 3 (Tm 7) (Kn 1) 3),zv 8 (zas 9)]
def zn182_13:=ZC.reg [zu 10 (.binOp .eql 3 (Tm 7) (Kn 7) 3),zv 8 (zas 10)]
def zn182_15:=ZC.reg [zu 11 (.binOp .eql 3 (Tm 7) (Kn 9) 3),zv 8 (zas 11)]
def zn182_14:=ZC.cond (Tm 8) ZC.skip zn182_15
def zn182_12:=ZC.seq zn182_13 zn182_14
def zn182_11:=ZC.cond (Tm 8) ZC.skip zn182_12
def zn182_9:=ZC.seq zn182_10 zn182_11
def zn182_17:=ZC.reg [zv 5 (.assign (.const (.bool false)))]
def zn182_19:=ZC.reg [zu 13 (.binOp .eql 3 (Tm 7) (Kn 8) 3),zv 12 (zas 13)]
def zn182_21:=ZC.reg [zv 4 (.assign (.const (.bool false)))]
def zn182_24:=ZC.reg [zu 15 (.binOp .eql 3 (Tm 7) (Kn 10) 3),zv 14 (zas 15)]
def zn182_26:=ZC.reg [zu 16 (.binOp .eql 3 (Tm 7) (Kn 13) 3),zv 14 (zas 16)]
def zn182_25:=ZC.cond (Tm 14) ZC.skip zn182_26
def zn182_23:=ZC.seq zn182_24 zn182_25
def zn182_28:=ZC.reg [zu 4 (.assign (.const (.bool false))),zv 5 (.assign (.const (.bool false)))]
def zn182_27:=ZC.cond (Tm 14) zn182_28 ZC.skip
def zn182_22:=ZC.seq zn182_23 zn182_27
def zn182_20:=ZC.cond (Tm 12) zn182_21 zn182_22
def zn182_18:=ZC.seq zn182_19 zn182_20
def zn182_16:=ZC.cond (Tm 8) zn182_17 zn182_18
def zn182_8:=ZC.seq zn182_9 zn182_16
def zn182_7:=ZC.block 0 zn182_8
def zn182_5:=ZC.seq zn182_6 zn182_7
def zn182_30:=ZC.reg [zu 17 (zmv 0),zu 18 (zmv 4),zu 19 (.unOp .not 4 (Tm 18)),zu 20 (zmv 19),zug 21 (zfa 45 3 1) 20 false false,zug 22 (zld 3 21) 20 false false,zug 23 (zcf 56 [Tm 22,Kn 0,Kn 3] [3,3,3]) 20 false false,zu 24 (.pick (Tm 20) (.const (.bool true)) (Tm 23)),zv 25 (zcf 89 [Tm 17,Tm 24,Kn 2] [128,4,3])]
def zn182_31:=ZC.reg [zu 26 (zmv 0),zu 27 (zmv 5),zu 28 (.unOp .not 4 (Tm 27)),zu 29 (zmv 28),zug 30 (zfa 45 3 2) 29 false false,zug 31 (zld 3 30) 29 false false,zug 32 (zcf 56 [Tm 31,Kn 0,Kn 3] [3,3,3]) 29 false false,zu 33 (.pick (Tm 29) (.const (.bool true)) (Tm 32)),zv 34 (zcf 89 [Tm 26,Tm 33,Kn 2] [128,4,3])]
def zn182_29:=ZC.seq zn182_30 zn182_31
def zn182_4:=ZC.seq zn182_5 zn182_29
def zn182_2:=ZC.seq zn182_3 zn182_4
def zn182_0:=ZC.seq zn182_1 zn182_2
def zc182: ZC:=zn182_0
theorem zc182_ok: zcode (xfOf Tryz.f92).code=some zc182:=by kernel_rfl
def zw182:=zU C zc182.eq_1<|zU C zn182_1.eq_1<|zU C zn182_3.eq_1<|zU C zn182_6.eq_1<|zU C zn182_10.eq_1<|zU C zn182_13.eq_1<|zU C zn182_15.eq_1<|zU C zn182_14.eq_1<|zU C zn182_12.eq_1<|zU C zn182_11.eq_1<|zU C zn182_9.eq_1<|zU C zn182_17.eq_1<|zU C zn182_19.eq_1<|zU C zn182_21.eq_1<|zU C zn182_24.eq_1<|zU C zn182_26.eq_1<|zU C zn182_25.eq_1<|zU C zn182_23.eq_1<|zU C zn182_28.eq_1<|zU C zn182_27.eq_1<|zU C zn182_22.eq_1<|zU C zn182_20.eq_1<|zU C zn182_18.eq_1<|zU C zn182_16.eq_1<|zU C zn182_8.eq_1<|zU C zn182_7.eq_1<|zU C zn182_5.eq_1<|zU C zn182_30.eq_1<|zU C zn182_31.eq_1<|zU C zn182_29.eq_1<|zU C zn182_4.eq_1<|zU C zn182_2.eq_1<|(zunf C zn182_0.eq_1)
theorem rs182: (xfOf Tryz.f92).rs=[]:=by kernel_rfl
theorem xf182: XFok C 92 (xfOf Tryz.f92):=by refine⟨Tryz.f92,?_,?_,?_,?_,?_,?_,?_⟩<;>kernel_rfl
def zn184_1:=ZC.reg [zv 4 (.assign (Kn 0))]
def zn184_3:=ZC.reg [zu 7 (zmv 0),zu 8 (.nilCheck (Tm 7)),zu 9 (zfa 130 8 0),zu 10 (zfa 115 9 0),zu 11 (zld 36 10),zu 5 (.alloc 36),zv0 (.store 36 (Tm 5) (Tm 11))]
def zn184_5:=ZC.draw 30 [] [zdd 0 12 (zfa 36 5 2) false [] [] false,zdd 1 13 (zld 3 12) false [] [] false,zdd 2 14 (zfa 36 5 3) false [] [] false,zdd 3 15 (zld 3 14) false [] [] false,zdd 4 16 (zfa 36 5 4) false [] [] false,zdd 5 17 (zld 3 16) false [] [] false,zdd 6 18 (zfa 36 5 5) false [] [] false,zdd 7 19 (zld 3 18) false [] [] false,zdd 8 20 (zfa 36 5 6) false [] [] false,zdd 9 21 (zld 3 20) false [] [] false,zdd 10 22 (zmv 0) false [] [] false,zdd 11 23 (.nilCheck (Tm 22)) false [] [] false,zdd 12 24 (zfa 130 23 0) false [] [] false,zdd 13 25 (zfa 115 24 1) false [] [] false,zdd 14 26 (zfa 62 25 0) false [] [] false,zdd 15 27 (zld 3 26) false [] [] false,zdd 16 28 (zmv 0) false [] [] false,zdd 17 29 (.nilCheck (Tm 28)) false [] [] false,zdd 18 30 (zfa 130 29 0) false [] [] false,zdd 19 31 (zfa 115 30 1) false [] [] false,zdd 20 32 (zfa 62 31 1) false [] [] false,zdd 21 33 (zld 3 32) false [] [] false,zdd 22 34 (zmv 0) true [] [] false,zdd 23 35 (.nilCheck (Tm 34)) true [] [] false,zdd 24 36 (zfa 130 35 0) true [] [] false,zdd 25 37 (zfa 115 36 1) true [] [] false,zdd 26 38 (zfa 62 37 2) true [] [] false,zdd 27 39 (zld 3 38) true [] [] false,⟨28,some 40,.buildSlice 29 8 ⟨[(0,.tmp 13),(1,.tmp 15),(2,.tmp 17),(3,.tmp 19),(4,.tmp 21),(5,.tmp 27),(6,.tmp 33),(7,.tmp 39)]⟩,none,true,[],[],false⟩,zdd 29 6 (zas 40) true [] [] false]
def zn184_7:=ZC.reg [zu 41 (zmv 0),zu 42 (zmv 1),zu 43 (zmv 6),zu 44 (zcb .len [Tm 43] [29]),zu 45 (.binOp .sub 3 (Tm 44) (Kn 1) 3),zu 46 (zcf 56 [Tm 42,Kn 0,Tm 45] [3,3,3]),zv 47 (zcf 89 [Tm 41,Tm 46,Kn 3] [128,4,3])]
def zn184_9:=ZC.reg [zu 48 (zmv 6),zu 49 (zmv 1),zu 50 (zia 29 48 49),zu 51 (zld 3 50),zv 4 (zas 51)]
def zn184_8:=ZC.seq zn184_9 ZC.ret
def zn184_6:=ZC.seq zn184_7 zn184_8
def zn184_4:=ZC.seq zn184_5 zn184_6
def zn184_2:=ZC.seq zn184_3 zn184_4
def zn184_0:=ZC.seq zn184_1 zn184_2
def zc184: ZC:=zn184_0
theorem zc184_ok: zcode (xfOf Tryz.f94).code=some zc184:=by kernel_rfl
def zw184:=zU C zc184.eq_1<|zU C zn184_1.eq_1<|zU C zn184_3.eq_1<|zU C zn184_5.eq_1<|zU C zn184_7.eq_1<|zU C zn184_9.eq_1<|zU C zn184_8.eq_1<|zU C zn184_6.eq_1<|zU C zn184_4.eq_1<|zU C zn184_2.eq_1<|(zunf C zn184_0.eq_1)
theorem rs184: (xfOf Tryz.f94).rs=[.tmp 4]:=by kernel_rfl
theorem xf184: XFok C 94 (xfOf Tryz.f94):=by refine⟨Tryz.f94,?_,?_,?_,?_,?_,?_,?_⟩<;>kernel_rfl
def zn185_1:=ZC.reg [zu 7 (zmv 0),zu 8 (.nilCheck (Tm 7)),zu 9 (zfa 130 8 0),zu 10 (zfa 115 9 0),zv 6 (zas 10)]
def zn185_3:=ZC.reg [zv 11 (zmv 1)]
def zn185_6:=ZC.reg [zu 15 (.binOp .eql 3 (Tm 11) (Kn 0) 3),zv 14 (zas 15)]
def zn185_8:=ZC.reg [zu 16 (zmv 6),zu 17 (zmv 2),zu 18 (zcf 100 [Tm 17,Kn 0,Kn 4095] [3,3,3]),zu 19 (.nilCheck (Tm 16)),zu 20 (zfa 36 19 2),zv0 (.store 3 (Tm 20) (Tm 18))]
def zn185_10:=ZC.reg [zu 22 (.binOp .eql 3 (Tm 11) (Kn 1) 3),zv 21 (zas 22)]
def zn185_12:=ZC.reg [zu 23 (zmv 6),zu 24 (zmv 2),zu 25 (zcf 100 [Tm 24,Kn 0,Kn 4095] [3,3,3]),zu 26 (.nilCheck (Tm 23)),zu 27 (zfa 36 26 3),zv0 (.store 3 (Tm 27) (Tm 25))]
def zn185_14:=ZC.reg [zu 29 (.binOp .eql 3 (Tm 11) (Kn 2) 3),zv 28 (zas 29)]
def zn185_16:=ZC.reg [zu 30 (zmv 6),zu 31 (zmv 2),zu 32 (zcf 100 [Tm 31,Kn (-64),Kn 64] [3,3,3]),zu 33 (.nilCheck (Tm 30)),zu 34 (zfa 36 33 4),zv0 (.store 3 (Tm 34) (Tm 32))]
def zn185_18:=ZC.reg [zu 36 (.binOp .eql 3 (Tm 11) (Kn 3) 3),zv 35 (zas 36)]
def zn185_20:=ZC.reg [zu 37 (zmv 6),zu 38 (zmv 2),zu 39 (zcf 100 [Tm 38,Kn (-64),Kn 64] [3,3,3]),zu 40 (.nilCheck (Tm 37)),zu 41 (zfa 36 40 5),zv0 (.store 3 (Tm 41) (Tm 39))]
def zn185_21:=ZC.reg [zu 12 (zmv 0),zv 13 (zcf 89 [Tm 12,.const (.bool false),Kn 3] [128,4,3])]
def zn185_19:=ZC.cond (Tm 35) zn185_20 zn185_21
def zn185_17:=ZC.seq zn185_18 zn185_19
def zn185_15:=ZC.cond (Tm 28) zn185_16 zn185_17
def zn185_13:=ZC.seq zn185_14 zn185_15
def zn185_11:=ZC.cond (Tm 21) zn185_12 zn185_13
def zn185_9:=ZC.seq zn185_10 zn185_11
def zn185_7:=ZC.cond (Tm 14) zn185_8 zn185_9
def zn185_5:=ZC.seq zn185_6 zn185_7
def zn185_4:=ZC.block 0 zn185_5
def zn185_2:=ZC.seq zn185_3 zn185_4
def zn185_0:=ZC.seq zn185_1 zn185_2
def zc185: ZC:=zn185_0
theorem zc185_ok: zcode (xfOf Tryz.f95).code=some zc185:=by kernel_rfl
def zw185:=zU C zc185.eq_1<|zU C zn185_1.eq_1<|zU C zn185_3.eq_1<|zU C zn185_6.eq_1<|zU C zn185_8.eq_1<|zU C zn185_10.eq_1<|zU C zn185_12.eq_1<|zU C zn185_14.eq_1<|zU C zn185_16.eq_1<|zU C zn185_18.eq_1<|zU C zn185_20.eq_1<|zU C zn185_21.eq_1<|zU C zn185_19.eq_1<|zU C zn185_17.eq_1<|zU C zn185_15.eq_1<|zU C zn185_13.eq_1<|zU C zn185_11.eq_1<|zU C zn185_9.eq_1<|zU C zn185_7.eq_1<|zU C zn185_5.eq_1<|zU C zn185_4.eq_1<|zU C zn185_2.eq_1<|(zunf C zn185_0.eq_1)
theorem rs185: (xfOf Tryz.f95).rs=[]:=by kernel_rfl
theorem xf185: XFok C 95 (xfOf Tryz.f95):=by refine⟨Tryz.f95,?_,?_,?_,?_,?_,?_,?_⟩<;>kernel_rfl
def zn188_1:=ZC.reg [zv 3 (.box 45 (Tm 1))]
def zn188_3:=ZC.draw 10 [] [zdd 0 8 (zmv 0) false [] [] false,zdd 1 9 (zfa 45 3 1) false [] [] false,zdd 2 10 (zld 3 9) false [] [] false,zdd 3 11 (zcf 96 [Tm 8,Tm 10] [128,3]) false [] [] true,zdd 4 12 (zmv 0) false [] [] false,zdd 5 13 (zfa 45 3 2) true [3] [] false,zdd 6 14 (zld 3 13) true [3] [] false,zdd 7 15 (zcf 96 [Tm 12,Tm 14] [128,3]) true [] [] false,zdd 8 4 (zas 11) true [] [] false,zdd 9 5 (zas 15) true [] [] false]
def zn188_5:=ZC.reg [zu 16 (zfa 45 3 0),zv 17 (zld 3 16)]
def zn188_8:=ZC.reg [zu 53 (.binOp .eql 3 (Tm 17) (Kn 2) 3),zv 52 (zas 53)]
def zn188_10:=ZC.reg [zu 54 (zmv 0),zu 55 (zfa 45 3 1),zu 56 (zld 3 55),zu 57 (zmv 5),zv 58 (zcf 93 [Tm 54,Tm 56,Tm 57] [128,3,3])]
def zn188_12:=ZC.reg [zu 60 (.binOp .eql 3 (Tm 17) (Kn 3) 3),zv 59 (zas 60)]
def zn188_14:=ZC.reg [zu 61 (zmv 0),zu 62 (zfa 45 3 1),zu 63 (zld 3 62),zu 64 (zmv 4),zu 65 (zmv 5),zu 66 (.binOp .add 3 (Tm 64) (Tm 65) 3),zv 67 (zcf 93 [Tm 61,Tm 63,Tm 66] [128,3,3])]
def zn188_16:=ZC.reg [zu 69 (.binOp .eql 3 (Tm 17) (Kn 4) 3),zv 68 (zas 69)]
def zn188_18:=ZC.reg [zu 70 (zmv 0),zu 71 (zfa 45 3 1),zu 72 (zld 3 71),zu 73 (zmv 4),zu 74 (zmv 5),zu 75 (.binOp .sub 3 (Tm 73) (Tm 74) 3),zv 76 (zcf 93 [Tm 70,Tm 72,Tm 75] [128,3,3])]
def zn188_20:=ZC.reg [zu 78 (.binOp .eql 3 (Tm 17) (Kn 5) 3),zv 77 (zas 78)]
def zn188_22:=ZC.reg [zu 79 (zmv 0),zu 80 (zfa 45 3 1),zu 81 (zld 3 80),zu 82 (zmv 4),zu 83 (zmv 5),zu 84 (.binOp .mul 3 (Tm 82) (Tm 83) 3),zv 85 (zcf 93 [Tm 79,Tm 81,Tm 84] [128,3,3])]
def zn188_24:=ZC.reg [zu 87 (.binOp .eql 3 (Tm 17) (Kn 6) 3),zv 86 (zas 87)]
def zn188_27:=ZC.reg [zu 88 (zmv 0),zu 89 (zmv 5),zu 90 (.binOp .neq 3 (Tm 89) (Kn 0) 3),zv 91 (zcf 89 [Tm 88,Tm 90,Kn 1] [128,4,3])]
def zn188_28:=ZC.draw 7 [] [zdd 0 92 (zmv 0) false [] [] false,zdd 1 93 (zfa 45 3 1) false [] [] false,zdd 2 94 (zld 3 93) false [] [] false,zdd 3 95 (zmv 4) false [] [] false,zdd 4 96 (zmv 5) true [] [] false,zdd 5 97 (.binOp .quo 3 (Tm 95) (Tm 96) 3) true [] [] false,zdd 6 98 (zcf 93 [Tm 92,Tm 94,Tm 97] [128,3,3]) true [] [] false]
def zn188_26:=ZC.seq zn188_27 zn188_28
def zn188_30:=ZC.reg [zu 100 (.binOp .eql 3 (Tm 17) (Kn 11) 3),zv 99 (zas 100)]
def zn188_33:=ZC.reg [zu 101 (zmv 0),zu 102 (zmv 5),zu 103 (.binOp .geq 3 (Tm 102) (Kn 1) 3),zv 104 (zcf 89 [Tm 101,Tm 103,Kn 6] [128,4,3])]
def zn188_35:=ZC.reg [zu 106 (zmv 0),zu 107 (.nilCheck (Tm 106)),zu 108 (zfa 130 107 0),zu 109 (zfa 115 108 2),zu 110 (zld 33 109),zu 111 (zmv 5),zu 112 (zcf 101 [Tm 110,Tm 111] [33,3]),zu 105 (zmv 112),zu 113 (.extract (Tm 105) 0),zu 114 (.extract (Tm 105) 1),zu 6 (zas 113),zv 7 (zas 114)]
def zn188_37:=ZC.reg [zu 115 (zmv 0),zu 116 (zmv 6),zu 117 (.nilCheck (Tm 115)),zu 118 (zfa 130 117 0),zu 119 (zfa 115 118 2),zv0 (.store 33 (Tm 119) (Tm 116))]
def zn188_38:=ZC.reg [zu 120 (zmv 0),zu 121 (zfa 45 3 1),zu 122 (zld 3 121),zu 123 (zmv 7),zv 124 (zcf 93 [Tm 120,Tm 122,Tm 123] [128,3,3])]
def zn188_36:=ZC.seq zn188_37 zn188_38
def zn188_34:=ZC.seq zn188_35 zn188_36
def zn188_32:=ZC.seq zn188_33 zn188_34
def zn188_40:=ZC.draw 14 [] [zdd 0 18 (zmv 0) false [] [] false,zdd 1 19 (zmv 0) false [] [] false,zdd 2 20 (.nilCheck (Tm 19)) false [] [] false,zdd 3 21 (zfa 130 20 0) false [] [] false,zdd 4 22 (zfa 115 21 4) false [] [] false,zdd 5 23 (zld 78 22) false [] [] false,zdd 6 24 (zcb .len [Tm 23] [78]) false [] [] false,zdd 7 25 (zmv 0) true [] [] false,zdd 8 26 (.nilCheck (Tm 25)) true [] [] false,zdd 9 27 (zfa 130 26 0) true [] [] false,zdd 10 28 (zfa 115 27 3) true [] [] false,zdd 11 29 (zld 3 28) true [] [] false,zdd 12 30 (.binOp .lss 3 (Tm 24) (Tm 29) 3) true [] [] false,zdd 13 31 (zcf 89 [Tm 18,Tm 30,Kn 7] [128,4,3]) true [] [] false]
def zn188_41:=ZC.draw 21 [] [zdd 0 32 (zmv 0) false [] [] false,zdd 1 33 (zmv 0) false [] [] false,zdd 2 34 (.nilCheck (Tm 33)) false [] [] false,zdd 3 35 (zfa 130 34 0) false [] [] false,zdd 4 36 (zfa 115 35 4) false [] [] false,zdd 5 37 (zld 78 36) false [] [] false,zdd 6 38 (zcf 87 [Tm 37] [78]) false [] [] true,zdd 7 39 (zmv 0) false [] [] false,zdd 8 40 (.nilCheck (Tm 39)) false [] [] false,zdd 9 41 (zfa 130 40 0) false [6] [] false,zdd 10 42 (zfa 115 41 0) false [6] [] false,zdd 11 43 (zld 36 42) false [6] [] false,zdd 12 44 (zmv 4) false [] [] false,zdd 13 45 (zmv 5) true [] [] false,zdd 14 46 (zcf 102 [Tm 43,Tm 44,Tm 45] [36,3,3]) true [] [] false,⟨15,some 47,.buildSlice 78 1 ⟨[(0,.tmp 46)]⟩,none,true,[],[],false⟩,zdd 16 48 (zcb .append [Tm 38,Tm 47] [78,78]) true [] [] false,zdd 17 49 (.nilCheck (Tm 32)) true [] [] false,zdd 18 50 (zfa 130 49 0) true [] [] false,zdd 19 51 (zfa 115 50 4) true [] [] false,zd0 20 (.store 78 (Tm 51) (Tm 48)) true [] [] false]
def zn188_39:=ZC.seq zn188_40 zn188_41
def zn188_31:=ZC.cond (Tm 99) zn188_32 zn188_39
def zn188_29:=ZC.seq zn188_30 zn188_31
def zn188_25:=ZC.cond (Tm 86) zn188_26 zn188_29
def zn188_23:=ZC.seq zn188_24 zn188_25
def zn188_21:=ZC.cond (Tm 77) zn188_22 zn188_23
def zn188_19:=ZC.seq zn188_20 zn188_21
def zn188_17:=ZC.cond (Tm 68) zn188_18 zn188_19
def zn188_15:=ZC.seq zn188_16 zn188_17
def zn188_13:=ZC.cond (Tm 59) zn188_14 zn188_15
def zn188_11:=ZC.seq zn188_12 zn188_13
def zn188_9:=ZC.cond (Tm 52) zn188_10 zn188_11
def zn188_7:=ZC.seq zn188_8 zn188_9
def zn188_6:=ZC.block 0 zn188_7
def zn188_4:=ZC.seq zn188_5 zn188_6
def zn188_2:=ZC.seq zn188_3 zn188_4
def zn188_0:=ZC.seq zn188_1 zn188_2
def zc188: ZC:=zn188_0
theorem zc188_ok: zcode (xfOf Tryz.f98).code=some zc188:=by kernel_rfl
def zw188:=zU C zc188.eq_1<|zU C zn188_1.eq_1<|zU C zn188_3.eq_1<|zU C zn188_5.eq_1<|zU C zn188_8.eq_1<|zU C zn188_10.eq_1<|zU C zn188_12.eq_1<|zU C zn188_14.eq_1<|zU C zn188_16.eq_1<|zU C zn188_18.eq_1<|zU C zn188_20.eq_1<|zU C zn188_22.eq_1<|zU C zn188_24.eq_1<|zU C zn188_27.eq_1<|zU C zn188_28.eq_1<|zU C zn188_26.eq_1<|zU C zn188_30.eq_1<|zU C zn188_33.eq_1<|zU C zn188_35.eq_1<|zU C zn188_37.eq_1<|zU C zn188_38.eq_1<|zU C zn188_36.eq_1<|zU C zn188_34.eq_1<|zU C zn188_32.eq_1<|zU C zn188_40.eq_1<|zU C zn188_41.eq_1<|zU C zn188_39.eq_1<|zU C zn188_31.eq_1<|zU C zn188_29.eq_1<|zU C zn188_25.eq_1<|zU C zn188_23.eq_1<|zU C zn188_21.eq_1<|zU C zn188_19.eq_1<|zU C zn188_17.eq_1<|zU C zn188_15.eq_1<|zU C zn188_13.eq_1<|zU C zn188_11.eq_1<|zU C zn188_9.eq_1<|zU C zn188_7.eq_1<|zU C zn188_6.eq_1<|zU C zn188_4.eq_1<|zU C zn188_2.eq_1<|(zunf C zn188_0.eq_1)
theorem rs188: (xfOf Tryz.f98).rs=[]:=by kernel_rfl
theorem xf188: XFok C 98 (xfOf Tryz.f98):=by refine⟨Tryz.f98,?_,?_,?_,?_,?_,?_,?_⟩<;>kernel_rfl
def zn202_1:=ZC.reg [zu 4 (.assign (.const (.int .u64 0))),zv 5 (.assign (Kn 0))]
def zn202_4:=ZC.reg [zu 7 (zmv 1),zv 8 (.binOp .lss 3 (Tm 7) (Kn 1) 3)]
def zn202_7:=ZC.reg [zu 9 (zmv 0),zu 4 (zas 9),zv 5 (.assign (Kn 0))]
def zn202_6:=ZC.seq zn202_7 ZC.ret
def zn202_5:=ZC.cond (Tm 8) zn202_6 ZC.skip
def zn202_3:=ZC.seq zn202_4 zn202_5
def zn202_9:=ZC.reg [zu 11 (zmv 0),zu 12 (zcf 103 [Tm 11] [33]),zu 10 (zmv 12),zu 13 (.extract (Tm 10) 0),zu 14 (.extract (Tm 10) 1),zu 0 (zas 13),zv 6 (zas 14)]
def zn202_11:=ZC.draw 6 [] [zdd 0 15 (zmv 0) false [] [] false,zdd 1 16 (zmv 6) false [] [] false,zdd 2 17 (zmv 1) false [] [] false,zdd 3 18 (.binOp .rem 3 (Tm 16) (Tm 17) 3) false [] [] false,zdd 4 4 (zas 15) true [] [] false,zdd 5 5 (zas 18) true [] [] false]
def zn202_10:=ZC.seq zn202_11 ZC.ret
def zn202_8:=ZC.seq zn202_9 zn202_10
def zn202_2:=ZC.seq zn202_3 zn202_8
def zn202_0:=ZC.seq zn202_1 zn202_2
def zc202: ZC:=zn202_0
theorem zc202_ok: zcode (xfOf Tryz.f101).code=some zc202:=by kernel_rfl
def zw202:=zU C zc202.eq_1<|zU C zn202_1.eq_1<|zU C zn202_4.eq_1<|zU C zn202_7.eq_1<|zU C zn202_6.eq_1<|zU C zn202_5.eq_1<|zU C zn202_3.eq_1<|zU C zn202_9.eq_1<|zU C zn202_11.eq_1<|zU C zn202_10.eq_1<|zU C zn202_8.eq_1<|zU C zn202_2.eq_1<|(zunf C zn202_0.eq_1)
theorem rs202: (xfOf Tryz.f101).rs=[.tmp 4,.tmp 5]:=by kernel_rfl
theorem xf202: XFok C 101 (xfOf Tryz.f101):=by refine⟨Tryz.f101,?_,?_,?_,?_,?_,?_,?_⟩<;>kernel_rfl
def zn207_1:=ZC.reg [zu 2 (.assign (.const (.int .u64 0))),zv 3 (.assign (Kn 0))]
def zn207_3:=ZC.reg [zu 4 (zmv 0),zu 5 (.binOp .mul 33 (Tm 4) (.const (.int .u64 6364136223846793005)) 33),zu 6 (.binOp .add 33 (Tm 5) (.const (.int .u64 1442695040888963407)) 33),zv 0 (zas 6)]
def zn207_5:=ZC.reg [zu 7 (zmv 0),zu 8 (zmv 0),zu 9 (.binOp .shr 33 (Tm 8) (.const (.int .u64 33)) 133),zu 10 (.convert 33 3 (Tm 9)),zu 2 (zas 7),zv 3 (zas 10)]
def zn207_4:=ZC.seq zn207_5 ZC.ret
def zn207_2:=ZC.seq zn207_3 zn207_4
def zn207_0:=ZC.seq zn207_1 zn207_2
def zc207: ZC:=zn207_0
theorem zc207_ok: zcode (xfOf Tryz.f103).code=some zc207:=by kernel_rfl
def zw207:=zU C zc207.eq_1<|zU C zn207_1.eq_1<|zU C zn207_3.eq_1<|zU C zn207_5.eq_1<|zU C zn207_4.eq_1<|zU C zn207_2.eq_1<|(zunf C zn207_0.eq_1)
theorem rs207: (xfOf Tryz.f103).rs=[.tmp 2,.tmp 3]:=by kernel_rfl
theorem xf207: XFok C 103 (xfOf Tryz.f103):=by refine⟨Tryz.f103,?_,?_,?_,?_,?_,?_,?_⟩<;>kernel_rfl
def zn203_1:=ZC.reg [zu 3 (.box 36 (Tm 0)),zv 6 (.alloc 36)]
def zn203_4:=ZC.reg [zu 7 (zld 36 3),zu 8 (zcf 57 [Tm 7] [36]),zu 9 (.unOp .not 4 (Tm 8)),zu 10 (zmv 9),zug 11 (zfa 36 3 0) 10 false false,zug 12 (zld 3 11) 10 false false,zug 13 (.binOp .eql 3 (Tm 12) (Kn 0) 3) 10 false false,zv 14 (.pick (Tm 10) (.const (.bool true)) (Tm 13))]
def zn203_7:=ZC.reg [⟨some 15,.build 36 ⟨[]⟩,none,false⟩,zv0 (.store 36 (Tm 6) (Tm 15))]
def zn203_6:=ZC.seq zn203_7 ZC.ret
def zn203_5:=ZC.cond (Tm 14) zn203_6 ZC.skip
def zn203_3:=ZC.seq zn203_4 zn203_5
def zn203_9:=ZC.draw 12 [] [zdd 0 16 (zfa 36 3 1) false [] [7,9] false,zdd 1 17 (zld 3 16) false [] [7,9] false,zdd 2 18 (zfa 36 3 2) false [] [7,9] false,zdd 3 19 (zld 3 18) false [] [7,9] false,zdd 4 20 (zfa 36 3 3) false [] [7,9] false,zdd 5 21 (zld 3 20) false [] [7,9] false,zdd 6 22 (zmv 1) false [] [] false,zdd 7 23 (zcf 58 [Tm 22,Kn (-64),Kn 64] [3,3,3]) false [] [] false,zdd 8 24 (zmv 2) true [] [] false,zdd 9 25 (zcf 58 [Tm 24,Kn (-64),Kn 64] [3,3,3]) true [] [] false,⟨10,some 26,.build 36 ⟨[(0,.const (.int .i64 2)),(1,.tmp 17),(2,.tmp 19),(3,.tmp 21),(4,.tmp 23),(5,.tmp 25)]⟩,none,true,[],[],false⟩,zd0 11 (.store 36 (Tm 6) (Tm 26)) true [] [] false]
def zn203_8:=ZC.seq zn203_9 ZC.ret
def zn203_2:=ZC.seq zn203_3 zn203_8
def zn203_0:=ZC.seq zn203_1 zn203_2
def zc203: ZC:=zn203_0
theorem zc203_ok: zcode (xfOf Tryz.f102).code=some zc203:=by kernel_rfl
def zw203:=zU C zc203.eq_1<|zU C zn203_1.eq_1<|zU C zn203_4.eq_1<|zU C zn203_7.eq_1<|zU C zn203_6.eq_1<|zU C zn203_5.eq_1<|zU C zn203_3.eq_1<|zU C zn203_9.eq_1<|zU C zn203_8.eq_1<|zU C zn203_2.eq_1<|(zunf C zn203_0.eq_1)
theorem rs203: (xfOf Tryz.f102).rs=[.cell 6 36]:=by kernel_rfl
theorem xf203: XFok C 102 (xfOf Tryz.f102):=by refine⟨Tryz.f102,?_,?_,?_,?_,?_,?_,?_⟩<;>kernel_rfl
def zn196_1:=ZC.reg [zu 3 (.box 36 (Tm 0)),zv 6 (.alloc 36)]
def zn196_4:=ZC.reg [zu 7 (zld 36 3),zu 8 (zcf 57 [Tm 7] [36]),zu 9 (.unOp .not 4 (Tm 8)),zu 10 (zmv 9),zug 11 (zfa 36 3 0) 10 false false,zug 12 (zld 3 11) 10 false false,zug 13 (.binOp .eql 3 (Tm 12) (Kn 0) 3) 10 false false,zv 14 (.pick (Tm 10) (.const (.bool true)) (Tm 13))]
def zn196_7:=ZC.reg [⟨some 15,.build 36 ⟨[]⟩,none,false⟩,zv0 (.store 36 (Tm 6) (Tm 15))]
def zn196_6:=ZC.seq zn196_7 ZC.ret
def zn196_5:=ZC.cond (Tm 14) zn196_6 ZC.skip
def zn196_3:=ZC.seq zn196_4 zn196_5
def zn196_9:=ZC.draw 8 [] [zdd 0 16 (zfa 36 3 4) false [] [3] false,zdd 1 17 (zld 3 16) false [] [3] false,zdd 2 18 (zmv 1) true [] [] false,zdd 3 19 (zcf 58 [Tm 18,Kn (-1000),Kn 1000] [3,3,3]) true [] [] false,zdd 4 20 (.binOp .add 3 (Tm 17) (Tm 19) 3) true [] [] false,zdd 5 21 (zcf 58 [Tm 20,Kn (-64),Kn 64] [3,3,3]) true [] [] false,zdd 6 22 (zfa 36 3 4) true [] [] false,zd0 7 (.store 3 (Tm 22) (Tm 21)) true [] [] false]
def zn196_11:=ZC.draw 8 [] [zdd 0 23 (zfa 36 3 5) false [] [3] false,zdd 1 24 (zld 3 23) false [] [3] false,zdd 2 25 (zmv 2) true [] [] false,zdd 3 26 (zcf 58 [Tm 25,Kn (-1000),Kn 1000] [3,3,3]) true [] [] false,zdd 4 27 (.binOp .add 3 (Tm 24) (Tm 26) 3) true [] [] false,zdd 5 28 (zcf 58 [Tm 27,Kn (-64),Kn 64] [3,3,3]) true [] [] false,zdd 6 29 (zfa 36 3 5) true [] [] false,zd0 7 (.store 3 (Tm 29) (Tm 28)) true [] [] false]
def zn196_13:=ZC.reg [zu 30 (zld 36 3),zv0 (.store 36 (Tm 6) (Tm 30))]
def zn196_12:=ZC.seq zn196_13 ZC.ret
def zn196_10:=ZC.seq zn196_11 zn196_12
def zn196_8:=ZC.seq zn196_9 zn196_10
def zn196_2:=ZC.seq zn196_3 zn196_8
def zn196_0:=ZC.seq zn196_1 zn196_2
def zc196: ZC:=zn196_0
theorem zc196_ok: zcode (xfOf Tryz.f74).code=some zc196:=by kernel_rfl
def zw196:=zU C zc196.eq_1<|zU C zn196_1.eq_1<|zU C zn196_4.eq_1<|zU C zn196_7.eq_1<|zU C zn196_6.eq_1<|zU C zn196_5.eq_1<|zU C zn196_3.eq_1<|zU C zn196_9.eq_1<|zU C zn196_11.eq_1<|zU C zn196_13.eq_1<|zU C zn196_12.eq_1<|zU C zn196_10.eq_1<|zU C zn196_8.eq_1<|zU C zn196_2.eq_1<|(zunf C zn196_0.eq_1)
theorem rs196: (xfOf Tryz.f74).rs=[.cell 6 36]:=by kernel_rfl
theorem xf196: XFok C 74 (xfOf Tryz.f74):=by refine⟨Tryz.f74,?_,?_,?_,?_,?_,?_,?_⟩<;>kernel_rfl
def zn25_1:=ZC.reg [zu 3 (.box 115 (Tm 1)),zu 4 (.alloc 115),zu 5 (.alloc 117),zv 6 (.assign (.const (.bool false)))]
def zn25_4:=ZC.reg [zu 10 (zfa 115 3 0),zu 11 (zld 36 10),zu 12 (zcf 57 [Tm 11] [36]),zu 13 (.unOp .not 4 (Tm 12)),zu 14 (zmv 13),zug 15 (zfa 115 3 0) 14 false false,zug 16 (zfa 36 15 0) 14 false false,zug 17 (zld 3 16) 14 false false,zug 18 (.binOp .eql 3 (Tm 17) (Kn 0) 3) 14 false false,zv 19 (.pick (Tm 14) (.const (.bool true)) (Tm 18))]
def zn25_7:=ZC.reg [zu 20 (zld 115 3),zu 21 (zcf 84 [Tm 20] [115]),⟨some 22,.build 117 ⟨[]⟩,none,false⟩,zu0 (.store 115 (Tm 4) (Tm 21)),zu0 (.store 117 (Tm 5) (Tm 22)),zv 6 (.assign (.const (.bool false)))]
def zn25_6:=ZC.seq zn25_7 ZC.ret
def zn25_5:=ZC.cond (Tm 19) zn25_6 ZC.skip
def zn25_3:=ZC.seq zn25_4 zn25_5
def zn25_9:=ZC.reg [zu 23 (zld 115 3),zu 24 (zcf 84 [Tm 23] [115]),zu 25 (zmv 0),⟨some 26,.build 130 ⟨[(0,.tmp 24),(1,.tmp 25)]⟩,none,false⟩,zu 27 (.box 130 (Tm 26)),zv 7 (zas 27)]
def zn25_12:=ZC.reg [zu 29 (zmv 7),⟨some 30,.makeFunc (.func 86) ⟨[Tm 29]⟩ ⟨[]⟩,none,false⟩,zu 31 (zcf 85 [Tm 30] [1]),zu 28 (zmv 31),zu 32 (.extract (Tm 28) 0),zu 33 (.extract (Tm 28) 1),zu 8 (.alloc 117),zu0 (.store 117 (Tm 8) (Tm 32)),zv 9 (zas 33)]
def zn25_14:=ZC.reg [zv 34 (zmv 9)]
def zn25_17:=ZC.draw 6 [] [zdd 0 35 (zld 115 3) false [] [] false,zdd 1 36 (zcf 84 [Tm 35] [115]) false [] [] true,zdd 2 37 (zld 117 8) false [1] [3] false,zd0 3 (.store 115 (Tm 4) (Tm 36)) true [] [] false,zd0 4 (.store 117 (Tm 5) (Tm 37)) true [] [] false,zdd 5 6 (.assign (.const (.bool false))) true [] [] false]
def zn25_16:=ZC.seq zn25_17 ZC.ret
def zn25_15:=ZC.cond (Tm 34) zn25_16 ZC.skip
def zn25_13:=ZC.seq zn25_14 zn25_15
def zn25_11:=ZC.seq zn25_12 zn25_13
def zn25_19:=ZC.reg [zu 38 (zmv 7),zu 39 (.nilCheck (Tm 38)),zu 40 (zfa 130 39 0),zu 41 (zld 115 40),⟨some 42,.build 117 ⟨[]⟩,none,false⟩,zu0 (.store 115 (Tm 4) (Tm 41)),zu0 (.store 117 (Tm 5) (Tm 42)),zv 6 (.assign (.const (.bool true)))]
def zn25_18:=ZC.seq zn25_19 ZC.ret
def zn25_10:=ZC.seq zn25_11 zn25_18
def zn25_8:=ZC.seq zn25_9 zn25_10
def zn25_2:=ZC.seq zn25_3 zn25_8
def zn25_0:=ZC.seq zn25_1 zn25_2
def zc25: ZC:=zn25_0
theorem zc25_ok: zcode (xfOf Tryz.f76).code=some zc25:=by kernel_rfl
def zw25:=zU C zc25.eq_1<|zU C zn25_1.eq_1<|zU C zn25_4.eq_1<|zU C zn25_7.eq_1<|zU C zn25_6.eq_1<|zU C zn25_5.eq_1<|zU C zn25_3.eq_1<|zU C zn25_9.eq_1<|zU C zn25_12.eq_1<|zU C zn25_14.eq_1<|zU C zn25_17.eq_1<|zU C zn25_16.eq_1<|zU C zn25_15.eq_1<|zU C zn25_13.eq_1<|zU C zn25_11.eq_1<|zU C zn25_19.eq_1<|zU C zn25_18.eq_1<|zU C zn25_10.eq_1<|zU C zn25_8.eq_1<|zU C zn25_2.eq_1<|(zunf C zn25_0.eq_1)
theorem rs25: (xfOf Tryz.f76).rs=[.cell 4 115,.cell 5 117,.tmp 6]:=by kernel_rfl
theorem xf25: XFok C 76 (xfOf Tryz.f76):=by refine⟨Tryz.f76,?_,?_,?_,?_,?_,?_,?_⟩<;>kernel_rfl
def zn72_1:=ZC.reg [zu 1 (.box 115 (Tm 0)),zv 2 (.alloc 115)]
def zn72_3:=ZC.reg [zu 3 (zfa 115 1 4),zu 4 (zld 78 3),zu 5 (zcf 87 [Tm 4] [78]),zu 6 (zfa 115 1 4),zv0 (.store 78 (Tm 6) (Tm 5))]
def zn72_5:=ZC.reg [zu 7 (zld 115 1),zv0 (.store 115 (Tm 2) (Tm 7))]
def zn72_4:=ZC.seq zn72_5 ZC.ret
def zn72_2:=ZC.seq zn72_3 zn72_4
def zn72_0:=ZC.seq zn72_1 zn72_2
def zc72: ZC:=zn72_0
theorem zc72_ok: zcode (xfOf Tryz.f84).code=some zc72:=by kernel_rfl
def zw72:=zU C zc72.eq_1<|zU C zn72_1.eq_1<|zU C zn72_3.eq_1<|zU C zn72_5.eq_1<|zU C zn72_4.eq_1<|zU C zn72_2.eq_1<|(zunf C zn72_0.eq_1)
theorem rs72: (xfOf Tryz.f84).rs=[.cell 2 115]:=by kernel_rfl
theorem xf72: XFok C 84 (xfOf Tryz.f84):=by refine⟨Tryz.f84,?_,?_,?_,?_,?_,?_,?_⟩<;>kernel_rfl
def zn74_1:=ZC.reg [zv 2 (.assign (Kn 0))]
def zn74_6:=ZC.draw 10 [] [zdd 0 3 (zmv 0) false [] [] false,zdd 1 4 (.nilCheck (Tm 3)) false [] [] false,zdd 2 5 (zfa 130 4 2) false [] [] false,zdd 3 6 (zld 3 5) false [] [] false,zdd 4 7 (zmv 0) true [] [] false,zdd 5 8 (.nilCheck (Tm 7)) true [] [] false,zdd 6 9 (zfa 130 8 1) true [] [] false,zdd 7 10 (zld 28 9) true [] [] false,zdd 8 11 (zcb .len [Tm 10] [28]) true [] [] false,zdd 9 12 (.binOp .lss 3 (Tm 6) (Tm 11) 3) true [] [] false]
def zn74_7:=ZC.cond (Tm 12) ZC.skip (ZC.exit 0)
def zn74_5:=ZC.seq zn74_6 zn74_7
def zn74_11:=ZC.reg [zu 15 (zmv 0),zu 16 (zmv 2),zu 17 (.binOp .lss 3 (Tm 16) (Kn 64) 3),zv 18 (zcf 89 [Tm 15,Tm 17,Kn 5] [128,4,3])]
def zn74_12:=ZC.draw 16 [] [zdd 0 19 (zmv 0) false [] [] false,zdd 1 20 (zmv 0) false [] [] false,zdd 2 21 (zmv 0) false [] [] false,zdd 3 22 (.nilCheck (Tm 21)) false [] [] false,zdd 4 23 (zfa 130 22 1) false [] [] false,zdd 5 24 (zld 28 23) false [] [] false,zdd 6 25 (zmv 0) true [] [] false,zdd 7 26 (.nilCheck (Tm 25)) true [] [] false,zdd 8 27 (zfa 130 26 2) true [] [] false,zdd 9 28 (zld 3 27) true [] [] false,zdd 10 29 (zia 28 24 28) true [] [] false,zdd 11 30 (zld 45 29) true [] [] false,zdd 12 31 (zcf 90 [Tm 20,Tm 30] [128,45]) true [] [] false,zdd 13 32 (.nilCheck (Tm 19)) true [] [] false,zdd 14 33 (zfa 130 32 2) true [] [] false,zd0 15 (.store 3 (Tm 33) (Tm 31)) true [] [] false]
def zn74_10:=ZC.seq zn74_11 zn74_12
def zn74_9:=ZC.block 1 zn74_10
def zn74_13:=ZC.reg [zu 13 (zmv 2),zu 14 (.binOp .add 3 (Tm 13) (Kn 1) 3),zv 2 (zas 14)]
def zn74_8:=ZC.seq zn74_9 zn74_13
def zn74_4:=ZC.seq zn74_5 zn74_8
def zn74_3:=ZC.loop zn74_4
def zn74_2:=ZC.block 0 zn74_3
def zn74_0:=ZC.seq zn74_1 zn74_2
def zc74: ZC:=zn74_0
theorem zc74_ok: zcode (xfOf Tryz.f86).code=some zc74:=by kernel_rfl
def zw74:=zU C zc74.eq_1<|zU C zn74_1.eq_1<|zU C zn74_6.eq_1<|zU C zn74_7.eq_1<|zU C zn74_5.eq_1<|zU C zn74_11.eq_1<|zU C zn74_12.eq_1<|zU C zn74_10.eq_1<|zU C zn74_9.eq_1<|zU C zn74_13.eq_1<|zU C zn74_8.eq_1<|zU C zn74_4.eq_1<|zU C zn74_2.eq_1<|(zunf C zn74_0.eq_1)
theorem rs74: (xfOf Tryz.f86).rs=[]:=by kernel_rfl
theorem xf74: XFok C 86 (xfOf Tryz.f86):=by refine⟨Tryz.f86,?_,?_,?_,?_,?_,?_,?_⟩<;>kernel_rfl
def zn151_1:=ZC.reg [zu 3 (.box 45 (Tm 1)),zv 4 (.assign (Kn 0))]
def zn151_3:=ZC.reg [zu 5 (zmv 0),zu 6 (zfa 45 3 0),zu 7 (zld 3 6),zu 8 (zcf 56 [Tm 7,Kn 1,Kn 13] [3,3,3]),zv 9 (zcf 89 [Tm 5,Tm 8,Kn 4] [128,4,3])]
def zn151_5:=ZC.reg [zu 10 (zmv 0),zu 11 (zld 45 3),zv 12 (zcf 92 [Tm 10,Tm 11] [128,45])]
def zn151_8:=ZC.reg [zu 13 (zfa 45 3 0),zv 14 (zld 3 13)]
def zn151_11:=ZC.reg [zu 19 (.binOp .eql 3 (Tm 14) (Kn 1) 3),zv 18 (zas 19)]
def zn151_13:=ZC.reg [zu 20 (zmv 0),zu 21 (zfa 45 3 1),zu 22 (zld 3 21),zu 23 (zfa 45 3 2),zu 24 (zld 3 23),zv 25 (zcf 93 [Tm 20,Tm 22,Tm 24] [128,3,3])]
def zn151_15:=ZC.reg [zu 27 (.binOp .eql 3 (Tm 14) (Kn 7) 3),zv 26 (zas 27)]
def zn151_17:=ZC.draw 8 [] [zdd 0 28 (zmv 0) false [] [] false,zdd 1 29 (zfa 45 3 1) false [] [6] false,zdd 2 30 (zld 3 29) false [] [6] false,zdd 3 31 (zmv 0) false [] [] false,zdd 4 32 (zfa 45 3 2) true [] [] false,zdd 5 33 (zld 3 32) true [] [] false,zdd 6 34 (zcf 94 [Tm 31,Tm 33] [128,3]) true [] [] false,zdd 7 35 (zcf 93 [Tm 28,Tm 30,Tm 34] [128,3,3]) true [] [] false]
def zn151_19:=ZC.reg [zu 37 (.binOp .eql 3 (Tm 14) (Kn 8) 3),zv 36 (zas 37)]
def zn151_21:=ZC.draw 8 [] [zdd 0 38 (zmv 0) false [] [] false,zdd 1 39 (zfa 45 3 1) false [] [6] false,zdd 2 40 (zld 3 39) false [] [6] false,zdd 3 41 (zmv 0) false [] [] false,zdd 4 42 (zfa 45 3 2) true [] [] false,zdd 5 43 (zld 3 42) true [] [] false,zdd 6 44 (zcf 96 [Tm 41,Tm 43] [128,3]) true [] [] false,zdd 7 45 (zcf 95 [Tm 38,Tm 40,Tm 44] [128,3,3]) true [] [] false]
def zn151_23:=ZC.reg [zu 47 (.binOp .eql 3 (Tm 14) (Kn 9) 3),zv 46 (zas 47)]
def zn151_26:=ZC.reg [zu 48 (zmv 0),zu 49 (zfa 45 3 1),zu 50 (zld 3 49),zu 51 (zcf 96 [Tm 48,Tm 50] [128,3]),zv 52 (.binOp .eql 3 (Tm 51) (Kn 0) 3)]
def zn151_29:=ZC.reg [zu 53 (zmv 0),zu 54 (zfa 45 3 2),zu 55 (zld 3 54),zu 56 (zcf 97 [Tm 53,Tm 55] [128,3]),zv 4 (zas 56)]
def zn151_28:=ZC.seq zn151_29 ZC.ret
def zn151_27:=ZC.cond (Tm 52) zn151_28 ZC.skip
def zn151_25:=ZC.seq zn151_26 zn151_27
def zn151_31:=ZC.reg [zu 58 (.binOp .eql 3 (Tm 14) (Kn 10) 3),zv 57 (zas 58)]
def zn151_34:=ZC.reg [zu 59 (zmv 0),zu 60 (zfa 45 3 2),zu 61 (zld 3 60),zu 62 (zcf 97 [Tm 59,Tm 61] [128,3]),zv 4 (zas 62)]
def zn151_33:=ZC.seq zn151_34 ZC.ret
def zn151_36:=ZC.reg [zu 64 (.binOp .eql 3 (Tm 14) (Kn 13) 3),zv 63 (zas 64)]
def zn151_39:=ZC.reg [zu 65 (zmv 0),zu 66 (.nilCheck (Tm 65)),zu 67 (zfa 130 66 1),zu 68 (zld 28 67),zu 69 (zcb .len [Tm 68] [28]),zv 4 (zas 69)]
def zn151_38:=ZC.seq zn151_39 ZC.ret
def zn151_40:=ZC.reg [zu 15 (zmv 0),zu 16 (zld 45 3),zv 17 (zcf 98 [Tm 15,Tm 16] [128,45])]
def zn151_37:=ZC.cond (Tm 63) zn151_38 zn151_40
def zn151_35:=ZC.seq zn151_36 zn151_37
def zn151_32:=ZC.cond (Tm 57) zn151_33 zn151_35
def zn151_30:=ZC.seq zn151_31 zn151_32
def zn151_24:=ZC.cond (Tm 46) zn151_25 zn151_30
def zn151_22:=ZC.seq zn151_23 zn151_24
def zn151_20:=ZC.cond (Tm 36) zn151_21 zn151_22
def zn151_18:=ZC.seq zn151_19 zn151_20
def zn151_16:=ZC.cond (Tm 26) zn151_17 zn151_18
def zn151_14:=ZC.seq zn151_15 zn151_16
def zn151_12:=ZC.cond (Tm 18) zn151_13 zn151_14
def zn151_10:=ZC.seq zn151_11 zn151_12
def zn151_9:=ZC.block 0 zn151_10
def zn151_7:=ZC.seq zn151_8 zn151_9
def zn151_42:=ZC.reg [zu 70 (zmv 0),zu 71 (.nilCheck (Tm 70)),zu 72 (zfa 130 71 2),zu 73 (zld 3 72),zu 74 (.binOp .add 3 (Tm 73) (Kn 1) 3),zv 4 (zas 74)]
def zn151_41:=ZC.seq zn151_42 ZC.ret
def zn151_6:=ZC.seq zn151_7 zn151_41
def zn151_4:=ZC.seq zn151_5 zn151_6
def zn151_2:=ZC.seq zn151_3 zn151_4
def zn151_0:=ZC.seq zn151_1 zn151_2
def zc151: ZC:=zn151_0
theorem zc151_ok: zcode (xfOf Tryz.f90).code=some zc151:=by kernel_rfl
def zw151:=zU C zc151.eq_1<|zU C zn151_1.eq_1<|zU C zn151_3.eq_1<|zU C zn151_5.eq_1<|zU C zn151_8.eq_1<|zU C zn151_11.eq_1<|zU C zn151_13.eq_1<|zU C zn151_15.eq_1<|zU C zn151_17.eq_1<|zU C zn151_19.eq_1<|zU C zn151_21.eq_1<|zU C zn151_23.eq_1<|zU C zn151_26.eq_1<|zU C zn151_29.eq_1<|zU C zn151_28.eq_1<|zU C zn151_27.eq_1<|zU C zn151_25.eq_1<|zU C zn151_31.eq_1<|zU C zn151_34.eq_1<|zU C zn151_33.eq_1<|zU C zn151_36.eq_1<|zU C zn151_39.eq_1<|zU C zn151_38.eq_1<|zU C zn151_40.eq_1<|zU C zn151_37.eq_1<|zU C zn151_35.eq_1<|zU C zn151_32.eq_1<|zU C zn151_30.eq_1<|zU C zn151_24.eq_1<|zU C zn151_22.eq_1<|zU C zn151_20.eq_1<|zU C zn151_18.eq_1<|zU C zn151_16.eq_1<|zU C zn151_14.eq_1<|zU C zn151_12.eq_1<|zU C zn151_10.eq_1<|zU C zn151_9.eq_1<|zU C zn151_7.eq_1<|zU C zn151_42.eq_1<|zU C zn151_41.eq_1<|zU C zn151_6.eq_1<|zU C zn151_4.eq_1<|zU C zn151_2.eq_1<|(zunf C zn151_0.eq_1)
theorem rs151: (xfOf Tryz.f90).rs=[.tmp 4]:=by kernel_rfl
theorem xf151: XFok C 90 (xfOf Tryz.f90):=by refine⟨Tryz.f90,?_,?_,?_,?_,?_,?_,?_⟩<;>kernel_rfl
def zn148_1:=ZC.reg [zv 2 (.assign (.const (.slice none 0 0)))]
def zn148_4:=ZC.reg [zu 3 (zmv 0),zv 4 (.binOp .eql 78 (Tm 3) (.const (.slice none 0 0)) 78)]
def zn148_7:=ZC.reg [zv 2 (.assign (.const (.slice none 0 0)))]
def zn148_6:=ZC.seq zn148_7 ZC.ret
def zn148_5:=ZC.cond (Tm 4) zn148_6 ZC.skip
def zn148_3:=ZC.seq zn148_4 zn148_5
def zn148_9:=ZC.reg [⟨some 5,.buildSlice 78 0 ⟨[]⟩,none,false⟩,zu 6 (zmv 0),zu 7 (zcb .append [Tm 5,Tm 6] [78,78]),zv 2 (zas 7)]
def zn148_8:=ZC.seq zn148_9 ZC.ret
def zn148_2:=ZC.seq zn148_3 zn148_8
def zn148_0:=ZC.seq zn148_1 zn148_2
def zc148: ZC:=zn148_0
theorem zc148_ok: zcode (xfOf Tryz.f87).code=some zc148:=by kernel_rfl
def zw148:=zU C zc148.eq_1<|zU C zn148_1.eq_1<|zU C zn148_4.eq_1<|zU C zn148_7.eq_1<|zU C zn148_6.eq_1<|zU C zn148_5.eq_1<|zU C zn148_3.eq_1<|zU C zn148_9.eq_1<|zU C zn148_8.eq_1<|zU C zn148_2.eq_1<|(zunf C zn148_0.eq_1)
theorem rs148: (xfOf Tryz.f87).rs=[.tmp 2]:=by kernel_rfl
theorem xf148: XFok C 87 (xfOf Tryz.f87):=by refine⟨Tryz.f87,?_,?_,?_,?_,?_,?_,?_⟩<;>kernel_rfl
def zn28_1:=ZC.reg [zu 3 (.box 83 (Tm 1)),zu 4 (.alloc 83),zu 5 (.assign (Kn 0)),zu 6 (.assign (Kn 0)),zv 7 (.assign (.const (.bool false)))]
def zn28_3:=ZC.reg [zu 20 (zld 83 3),zu 8 (.alloc 83),zv0 (.store 83 (Tm 8) (Tm 20))]
def zn28_5:=ZC.reg [zv 9 (.assign (Kn 0))]
def zn28_8:=ZC.reg [zu 21 (zfa 83 3 0),zu 22 (zld 36 21),zu 23 (zcf 35 [Tm 22] [36]),zu 24 (.unOp .not 4 (Tm 23)),zu 25 (zmv 24),zug 26 (zfa 83 3 0) 25 false false,zug 27 (zfa 36 26 0) 25 false false,zug 28 (zld 3 27) 25 false false,zug 29 (.binOp .eql 3 (Tm 28) (Kn 0) 3) 25 false false,zv 30 (.pick (Tm 25) (.const (.bool true)) (Tm 29))]
def zn28_11:=ZC.reg [zu 31 (zld 83 8),zu0 (.store 83 (Tm 4) (Tm 31)),zu 5 (.assign (Kn 0)),zu 6 (.assign (Kn 0)),zv 7 (.assign (.const (.bool false)))]
def zn28_10:=ZC.seq zn28_11 ZC.ret
def zn28_9:=ZC.cond (Tm 30) zn28_10 ZC.skip
def zn28_7:=ZC.seq zn28_8 zn28_9
def zn28_14:=ZC.reg [zv 10 (.assign (Kn 0))]
def zn28_19:=ZC.reg [zu 32 (zmv 9),zu 33 (zmv 0),zu 34 (zcb .len [Tm 33] [28]),zv 35 (.binOp .lss 3 (Tm 32) (Tm 34) 3)]
def zn28_20:=ZC.cond (Tm 35) ZC.skip (ZC.exit 0)
def zn28_18:=ZC.seq zn28_19 zn28_20
def zn28_24:=ZC.reg [zu 38 (zmv 0),zu 39 (zmv 9),zu 40 (zia 28 38 39),zu 41 (zld 45 40),zu 11 (.alloc 45),zv0 (.store 45 (Tm 11) (Tm 41))]
def zn28_27:=ZC.reg [zu 42 (zmv 10),zv 43 (.binOp .geq 3 (Tm 42) (Kn 64) 3)]
def zn28_30:=ZC.reg [zu 44 (zld 83 8),zu 45 (zmv 9),zu0 (.store 83 (Tm 4) (Tm 44)),zu 5 (.assign (Kn 5)),zu 6 (zas 45),zv 7 (.assign (.const (.bool false)))]
def zn28_29:=ZC.seq zn28_30 ZC.ret
def zn28_28:=ZC.cond (Tm 43) zn28_29 ZC.skip
def zn28_26:=ZC.seq zn28_27 zn28_28
def zn28_33:=ZC.reg [zu 46 (zld 45 11),zu 47 (zld 83 3),zu 48 (zmv 0),zu 49 (zcb .len [Tm 48] [28]),zu 50 (zcf 63 [Tm 46,Tm 47,Tm 49] [45,83,3]),zv 12 (zas 50)]
def zn28_35:=ZC.reg [zu 51 (zmv 12),zv 52 (.binOp .neq 3 (Tm 51) (Kn 0) 3)]
def zn28_38:=ZC.reg [zu 53 (zld 83 8),zu 54 (zmv 12),zu 55 (zmv 9),zu0 (.store 83 (Tm 4) (Tm 53)),zu 5 (zas 54),zu 6 (zas 55),zv 7 (.assign (.const (.bool false)))]
def zn28_37:=ZC.seq zn28_38 ZC.ret
def zn28_36:=ZC.cond (Tm 52) zn28_37 ZC.skip
def zn28_34:=ZC.seq zn28_35 zn28_36
def zn28_32:=ZC.seq zn28_33 zn28_34
def zn28_40:=ZC.reg [zu 56 (zfa 83 3 0),zu 57 (zfa 36 56 7),zu 58 (zld 34 57),zu 13 (.alloc 34),zv0 (.store 34 (Tm 13) (Tm 58))]
def zn28_42:=ZC.reg [zu 59 (zmv 9),zu 60 (.binOp .add 3 (Tm 59) (Kn 1) 3),zv 14 (zas 60)]
def zn28_44:=ZC.reg [zv 15 (.assign (Kn 0))]
def zn28_46:=ZC.reg [zv 16 (.assign (.const (.bool true)))]
def zn28_49:=ZC.reg [zu 61 (zfa 45 11 0),zv 62 (zld 3 61)]
def zn28_52:=ZC.reg [zu 64 (.binOp .eql 3 (Tm 62) (Kn 1) 3),zv 63 (zas 64)]
def zn28_54:=ZC.reg [zu 65 (zfa 45 11 2),zu 66 (zld 3 65),zv 15 (zas 66)]
def zn28_56:=ZC.reg [zu 68 (.binOp .eql 3 (Tm 62) (Kn 2) 3),zv 67 (zas 68)]
def zn28_58:=ZC.reg [zu 69 (zfa 45 11 2),zu 70 (zld 3 69),zu 71 (zia 34 13 70),zu 72 (zld 3 71),zv 15 (zas 72)]
def zn28_60:=ZC.reg [zu 74 (.binOp .eql 3 (Tm 62) (Kn 3) 3),zv 73 (zas 74)]
def zn28_62:=ZC.draw 10 [] [zdd 0 75 (zfa 45 11 1) false [] [] false,zdd 1 76 (zld 3 75) false [] [] false,zdd 2 77 (zia 34 13 76) false [] [] false,zdd 3 78 (zld 3 77) false [] [] false,zdd 4 79 (zfa 45 11 2) true [] [] false,zdd 5 80 (zld 3 79) true [] [] false,zdd 6 81 (zia 34 13 80) true [] [] false,zdd 7 82 (zld 3 81) true [] [] false,zdd 8 83 (.binOp .add 3 (Tm 78) (Tm 82) 3) true [] [] false,zdd 9 15 (zas 83) true [] [] false]
def zn28_64:=ZC.reg [zu 85 (.binOp .eql 3 (Tm 62) (Kn 4) 3),zv 84 (zas 85)]
def zn28_66:=ZC.draw 10 [] [zdd 0 86 (zfa 45 11 1) false [] [] false,zdd 1 87 (zld 3 86) false [] [] false,zdd 2 88 (zia 34 13 87) false [] [] false,zdd 3 89 (zld 3 88) false [] [] false,zdd 4 90 (zfa 45 11 2) true [] [] false,zdd 5 91 (zld 3 90) true [] [] false,zdd 6 92 (zia 34 13 91) true [] [] false,zdd 7 93 (zld 3 92) true [] [] false,zdd 8 94 (.binOp .sub 3 (Tm 89) (Tm 93) 3) true [] [] false,zdd 9 15 (zas 94) true [] [] false]
def zn28_68:=ZC.reg [zu 96 (.binOp .eql 3 (Tm 62) (Kn 5) 3),zv 95 (zas 96)]
def zn28_70:=ZC.draw 10 [] [zdd 0 97 (zfa 45 11 1) false [] [] false,zdd 1 98 (zld 3 97) false [] [] false,zdd 2 99 (zia 34 13 98) false [] [] false,zdd 3 100 (zld 3 99) false [] [] false,zdd 4 101 (zfa 45 11 2) true [] [] false,zdd 5 102 (zld 3 101) true [] [] false,zdd 6 103 (zia 34 13 102) true [] [] false,zdd 7 104 (zld 3 103) true [] [] false,zdd 8 105 (.binOp .mul 3 (Tm 100) (Tm 104) 3) true [] [] false,zdd 9 15 (zas 105) true [] [] false]
def zn28_72:=ZC.reg [zu 107 (.binOp .eql 3 (Tm 62) (Kn 6) 3),zv 106 (zas 107)]
def zn28_74:=ZC.draw 10 [] [zdd 0 108 (zfa 45 11 1) false [] [] false,zdd 1 109 (zld 3 108) false [] [] false,zdd 2 110 (zia 34 13 109) false [] [] false,zdd 3 111 (zld 3 110) false [] [] false,zdd 4 112 (zfa 45 11 2) true [] [] false,zdd 5 113 (zld 3 112) true [] [] false,zdd 6 114 (zia 34 13 113) true [] [] false,zdd 7 115 (zld 3 114) true [] [] false,zdd 8 116 (.binOp .quo 3 (Tm 111) (Tm 115) 3) true [] [] false,zdd 9 15 (zas 116) true [] [] false]
def zn28_76:=ZC.reg [zu 118 (.binOp .eql 3 (Tm 62) (Kn 7) 3),zv 117 (zas 118)]
def zn28_78:=ZC.reg [zu 119 (zld 83 3),zu 120 (zfa 45 11 2),zu 121 (zld 3 120),zu 122 (zcf 64 [Tm 119,Tm 121] [83,3]),zv 15 (zas 122)]
def zn28_80:=ZC.reg [zu 124 (.binOp .eql 3 (Tm 62) (Kn 11) 3),zv 123 (zas 124)]
def zn28_83:=ZC.draw 11 [] [zdd 0 126 (zfa 83 3 2) false [] [4] false,zdd 1 127 (zld 33 126) false [] [4] false,zdd 2 128 (zld 45 11) false [] [] false,zdd 3 129 (zld 83 3) true [] [] false,zdd 4 130 (zcf 66 [Tm 128,Tm 129] [45,83]) true [] [] false,zdd 5 131 (zcf 65 [Tm 127,Tm 130] [33,3]) true [] [] false,zdd 6 125 (zmv 131) true [] [] false,zdd 7 132 (.extract (Tm 125) 0) false [] [] false,zdd 8 133 (.extract (Tm 125) 1) false [] [] false,zdd 9 17 (zas 132) true [] [] false,zdd 10 18 (zas 133) true [] [] false]
def zn28_85:=ZC.reg [zu 134 (zmv 17),zu 135 (zfa 83 3 2),zv0 (.store 33 (Tm 135) (Tm 134))]
def zn28_86:=ZC.reg [zu 136 (zmv 18),zv 15 (zas 136)]
def zn28_84:=ZC.seq zn28_85 zn28_86
def zn28_82:=ZC.seq zn28_83 zn28_84
def zn28_87:=ZC.reg [zv 16 (.assign (.const (.bool false)))]
def zn28_81:=ZC.cond (Tm 123) zn28_82 zn28_87
def zn28_79:=ZC.seq zn28_80 zn28_81
def zn28_77:=ZC.cond (Tm 117) zn28_78 zn28_79
def zn28_75:=ZC.seq zn28_76 zn28_77
def zn28_73:=ZC.cond (Tm 106) zn28_74 zn28_75
def zn28_71:=ZC.seq zn28_72 zn28_73
def zn28_69:=ZC.cond (Tm 95) zn28_70 zn28_71
def zn28_67:=ZC.seq zn28_68 zn28_69
def zn28_65:=ZC.cond (Tm 84) zn28_66 zn28_67
def zn28_63:=ZC.seq zn28_64 zn28_65
def zn28_61:=ZC.cond (Tm 73) zn28_62 zn28_63
def zn28_59:=ZC.seq zn28_60 zn28_61
def zn28_57:=ZC.cond (Tm 67) zn28_58 zn28_59
def zn28_55:=ZC.seq zn28_56 zn28_57
def zn28_53:=ZC.cond (Tm 63) zn28_54 zn28_55
def zn28_51:=ZC.seq zn28_52 zn28_53
def zn28_50:=ZC.block 2 zn28_51
def zn28_48:=ZC.seq zn28_49 zn28_50
def zn28_90:=ZC.reg [zv 137 (zmv 16)]
def zn28_92:=ZC.draw 8 [] [zdd 0 138 (zfa 45 11 1) false [] [3] false,zdd 1 139 (zld 3 138) false [] [3] false,zdd 2 140 (zmv 15) false [] [] false,zdd 3 141 (zcf 59 [Tm 140,Kn (-1000000),Kn 1000000] [3,3,3]) false [] [] true,zdd 4 142 (zfa 83 3 0) true [3] [] false,zdd 5 143 (zfa 36 142 7) true [3] [] false,zdd 6 144 (zia 34 143 139) true [] [] false,zd0 7 (.store 3 (Tm 144) (Tm 141)) true [] [] false]
def zn28_91:=ZC.cond (Tm 137) zn28_92 ZC.skip
def zn28_89:=ZC.seq zn28_90 zn28_91
def zn28_95:=ZC.reg [zu 145 (zfa 45 11 0),zv 146 (zld 3 145)]
def zn28_98:=ZC.reg [zu 148 (.binOp .eql 3 (Tm 146) (Kn 8) 3),zv 147 (zas 148)]
def zn28_101:=ZC.reg [zu 149 (zfa 45 11 2),zu 150 (zld 3 149),zu 151 (zia 34 13 150),zu 152 (zld 3 151),zv 19 (zas 152)]
def zn28_103:=ZC.reg [zu 153 (zfa 45 11 1),zv 154 (zld 3 153)]
def zn28_106:=ZC.reg [zu 156 (.binOp .eql 3 (Tm 154) (Kn 0) 3),zv 155 (zas 156)]
def zn28_108:=ZC.reg [zu 157 (zmv 19),zu 158 (zcf 59 [Tm 157,Kn 0,Kn 4095] [3,3,3]),zu 159 (zfa 83 3 0),zu 160 (zfa 36 159 2),zv0 (.store 3 (Tm 160) (Tm 158))]
def zn28_110:=ZC.reg [zu 162 (.binOp .eql 3 (Tm 154) (Kn 1) 3),zv 161 (zas 162)]
def zn28_112:=ZC.reg [zu 163 (zmv 19),zu 164 (zcf 59 [Tm 163,Kn 0,Kn 4095] [3,3,3]),zu 165 (zfa 83 3 0),zu 166 (zfa 36 165 3),zv0 (.store 3 (Tm 166) (Tm 164))]
def zn28_114:=ZC.reg [zu 168 (.binOp .eql 3 (Tm 154) (Kn 2) 3),zv 167 (zas 168)]
def zn28_116:=ZC.reg [zu 169 (zmv 19),zu 170 (zcf 59 [Tm 169,Kn (-64),Kn 64] [3,3,3]),zu 171 (zfa 83 3 0),zu 172 (zfa 36 171 4),zv0 (.store 3 (Tm 172) (Tm 170))]
def zn28_118:=ZC.reg [zu 174 (.binOp .eql 3 (Tm 154) (Kn 3) 3),zv 173 (zas 174)]
def zn28_120:=ZC.reg [zu 175 (zmv 19),zu 176 (zcf 59 [Tm 175,Kn (-64),Kn 64] [3,3,3]),zu 177 (zfa 83 3 0),zu 178 (zfa 36 177 5),zv0 (.store 3 (Tm 178) (Tm 176))]
def zn28_119:=ZC.cond (Tm 173) zn28_120 ZC.skip
def zn28_117:=ZC.seq zn28_118 zn28_119
def zn28_115:=ZC.cond (Tm 167) zn28_116 zn28_117
def zn28_113:=ZC.seq zn28_114 zn28_115
def zn28_111:=ZC.cond (Tm 161) zn28_112 zn28_113
def zn28_109:=ZC.seq zn28_110 zn28_111
def zn28_107:=ZC.cond (Tm 155) zn28_108 zn28_109
def zn28_105:=ZC.seq zn28_106 zn28_107
def zn28_104:=ZC.block 4 zn28_105
def zn28_102:=ZC.seq zn28_103 zn28_104
def zn28_100:=ZC.seq zn28_101 zn28_102
def zn28_122:=ZC.reg [zu 180 (.binOp .eql 3 (Tm 146) (Kn 9) 3),zv 179 (zas 180)]
def zn28_125:=ZC.reg [zu 181 (zfa 45 11 1),zu 182 (zld 3 181),zu 183 (zia 34 13 182),zu 184 (zld 3 183),zv 185 (.binOp .eql 3 (Tm 184) (Kn 0) 3)]
def zn28_127:=ZC.reg [zu 186 (zfa 45 11 2),zu 187 (zld 3 186),zv 14 (zas 187)]
def zn28_126:=ZC.cond (Tm 185) zn28_127 ZC.skip
def zn28_124:=ZC.seq zn28_125 zn28_126
def zn28_129:=ZC.reg [zu 189 (.binOp .eql 3 (Tm 146) (Kn 10) 3),zv 188 (zas 189)]
def zn28_131:=ZC.reg [zu 190 (zfa 45 11 2),zu 191 (zld 3 190),zv 14 (zas 191)]
def zn28_133:=ZC.reg [zu 193 (.binOp .eql 3 (Tm 146) (Kn 12) 3),zv 192 (zas 193)]
def zn28_135:=ZC.draw 19 [] [⟨0,some 194,.buildSlice 78 0 ⟨[]⟩,none,false,[],[],false⟩,zdd 1 195 (zfa 83 3 4) false [] [] false,zdd 2 196 (zld 78 195) false [] [] false,zdd 3 197 (zcb .append [Tm 194,Tm 196] [78,78]) false [] [] true,zdd 4 198 (zfa 83 3 0) false [3] [] false,zdd 5 199 (zld 36 198) false [3] [] false,zdd 6 200 (zfa 45 11 1) false [3] [] false,zdd 7 201 (zld 3 200) false [3] [] false,zdd 8 202 (zia 34 13 201) false [3] [] false,zdd 9 203 (zld 3 202) false [3] [] false,zdd 10 204 (zfa 45 11 2) true [3] [] false,zdd 11 205 (zld 3 204) true [3] [] false,zdd 12 206 (zia 34 13 205) true [3] [] false,zdd 13 207 (zld 3 206) true [3] [] false,zdd 14 208 (zcf 67 [Tm 199,Tm 203,Tm 207] [36,3,3]) true [] [] false,⟨15,some 209,.buildSlice 78 1 ⟨[(0,.tmp 208)]⟩,none,true,[],[],false⟩,zdd 16 210 (zcb .append [Tm 197,Tm 209] [78,78]) true [] [] false,zdd 17 211 (zfa 83 3 4) true [] [] false,zd0 18 (.store 78 (Tm 211) (Tm 210)) true [] [] false]
def zn28_137:=ZC.reg [zu 213 (.binOp .eql 3 (Tm 146) (Kn 13) 3),zv 212 (zas 213)]
def zn28_139:=ZC.reg [zu 214 (zmv 0),zu 215 (zcb .len [Tm 214] [28]),zv 14 (zas 215)]
def zn28_138:=ZC.cond (Tm 212) zn28_139 ZC.skip
def zn28_136:=ZC.seq zn28_137 zn28_138
def zn28_134:=ZC.cond (Tm 192) zn28_135 zn28_136
def zn28_132:=ZC.seq zn28_133 zn28_134
def zn28_130:=ZC.cond (Tm 188) zn28_131 zn28_132
def zn28_128:=ZC.seq zn28_129 zn28_130
def zn28_123:=ZC.cond (Tm 179) zn28_124 zn28_128
def zn28_121:=ZC.seq zn28_122 zn28_123
def zn28_99:=ZC.cond (Tm 147) zn28_100 zn28_121
def zn28_97:=ZC.seq zn28_98 zn28_99
def zn28_96:=ZC.block 3 zn28_97
def zn28_94:=ZC.seq zn28_95 zn28_96
def zn28_140:=ZC.reg [zu 216 (zmv 14),zv 9 (zas 216)]
def zn28_93:=ZC.seq zn28_94 zn28_140
def zn28_88:=ZC.seq zn28_89 zn28_93
def zn28_47:=ZC.seq zn28_48 zn28_88
def zn28_45:=ZC.seq zn28_46 zn28_47
def zn28_43:=ZC.seq zn28_44 zn28_45
def zn28_41:=ZC.seq zn28_42 zn28_43
def zn28_39:=ZC.seq zn28_40 zn28_41
def zn28_31:=ZC.seq zn28_32 zn28_39
def zn28_25:=ZC.seq zn28_26 zn28_31
def zn28_23:=ZC.seq zn28_24 zn28_25
def zn28_22:=ZC.block 1 zn28_23
def zn28_141:=ZC.reg [zu 36 (zmv 10),zu 37 (.binOp .add 3 (Tm 36) (Kn 1) 3),zv 10 (zas 37)]
def zn28_21:=ZC.seq zn28_22 zn28_141
def Y1f:=ZC.seq zn28_18 zn28_21
def zn28_16:=ZC.loop Y1f
def zn28_15:=ZC.block 0 zn28_16
def zn28_13:=ZC.seq zn28_14 zn28_15
def zn28_143:=ZC.reg [zu 217 (zld 83 3),zu0 (.store 83 (Tm 4) (Tm 217)),zu 5 (.assign (Kn 0)),zu 6 (.assign (Kn 0)),zv 7 (.assign (.const (.bool true)))]
def zn28_142:=ZC.seq zn28_143 ZC.ret
def zn28_12:=ZC.seq zn28_13 zn28_142
def zn28_6:=ZC.seq zn28_7 zn28_12
def zn28_4:=ZC.seq zn28_5 zn28_6
def zn28_2:=ZC.seq zn28_3 zn28_4
def zn28_0:=ZC.seq zn28_1 zn28_2
def zc28: ZC:=zn28_0
theorem zc28_ok: zcode (xfOf Tryz.f44).code=some zc28:=by kernel_rfl
def zw28:=zU C zc28.eq_1<|zU C zn28_1.eq_1<|zU C zn28_3.eq_1<|zU C zn28_5.eq_1<|zU C zn28_8.eq_1<|zU C zn28_11.eq_1<|zU C zn28_10.eq_1<|zU C zn28_9.eq_1<|zU C zn28_7.eq_1<|zU C zn28_14.eq_1<|zU C zn28_19.eq_1<|zU C zn28_20.eq_1<|zU C zn28_18.eq_1<|zU C zn28_24.eq_1<|zU C zn28_27.eq_1<|zU C zn28_30.eq_1<|zU C zn28_29.eq_1<|zU C zn28_28.eq_1<|zU C zn28_26.eq_1<|zU C zn28_33.eq_1<|zU C zn28_35.eq_1<|zU C zn28_38.eq_1<|zU C zn28_37.eq_1<|zU C zn28_36.eq_1<|zU C zn28_34.eq_1<|zU C zn28_32.eq_1<|zU C zn28_40.eq_1<|zU C zn28_42.eq_1<|zU C zn28_44.eq_1<|zU C zn28_46.eq_1<|zU C zn28_49.eq_1<|zU C zn28_52.eq_1<|zU C zn28_54.eq_1<|zU C zn28_56.eq_1<|zU C zn28_58.eq_1<|zU C zn28_60.eq_1<|zU C zn28_62.eq_1<|zU C zn28_64.eq_1<|zU C zn28_66.eq_1<|zU C zn28_68.eq_1<|zU C zn28_70.eq_1<|zU C zn28_72.eq_1<|zU C zn28_74.eq_1<|zU C zn28_76.eq_1<|zU C zn28_78.eq_1<|zU C zn28_80.eq_1<|zU C zn28_83.eq_1<|zU C zn28_85.eq_1<|zU C zn28_86.eq_1<|zU C zn28_84.eq_1<|zU C zn28_82.eq_1<|zU C zn28_87.eq_1<|zU C zn28_81.eq_1<|zU C zn28_79.eq_1<|zU C zn28_77.eq_1<|zU C zn28_75.eq_1<|zU C zn28_73.eq_1<|zU C zn28_71.eq_1<|zU C zn28_69.eq_1<|zU C zn28_67.eq_1<|zU C zn28_65.eq_1<|zU C zn28_63.eq_1<|zU C zn28_61.eq_1<|zU C zn28_59.eq_1<|zU C zn28_57.eq_1<|zU C zn28_55.eq_1<|zU C zn28_53.eq_1<|zU C zn28_51.eq_1<|zU C zn28_50.eq_1<|zU C zn28_48.eq_1<|zU C zn28_90.eq_1<|zU C zn28_92.eq_1<|zU C zn28_91.eq_1<|zU C zn28_89.eq_1<|zU C zn28_95.eq_1<|zU C zn28_98.eq_1<|zU C zn28_101.eq_1<|zU C zn28_103.eq_1<|zU C zn28_106.eq_1<|zU C zn28_108.eq_1<|zU C zn28_110.eq_1<|zU C zn28_112.eq_1<|zU C zn28_114.eq_1<|zU C zn28_116.eq_1<|zU C zn28_118.eq_1<|zU C zn28_120.eq_1<|zU C zn28_119.eq_1<|zU C zn28_117.eq_1<|zU C zn28_115.eq_1<|zU C zn28_113.eq_1<|zU C zn28_111.eq_1<|zU C zn28_109.eq_1<|zU C zn28_107.eq_1<|zU C zn28_105.eq_1<|zU C zn28_104.eq_1<|zU C zn28_102.eq_1<|zU C zn28_100.eq_1<|zU C zn28_122.eq_1<|zU C zn28_125.eq_1<|zU C zn28_127.eq_1<|zU C zn28_126.eq_1<|zU C zn28_124.eq_1<|zU C zn28_129.eq_1<|zU C zn28_131.eq_1<|zU C zn28_133.eq_1<|zU C zn28_135.eq_1<|zU C zn28_137.eq_1<|zU C zn28_139.eq_1<|zU C zn28_138.eq_1<|zU C zn28_136.eq_1<|zU C zn28_134.eq_1<|zU C zn28_132.eq_1<|zU C zn28_130.eq_1<|zU C zn28_128.eq_1<|zU C zn28_123.eq_1<|zU C zn28_121.eq_1<|zU C zn28_99.eq_1<|zU C zn28_97.eq_1<|zU C zn28_96.eq_1<|zU C zn28_94.eq_1<|zU C zn28_140.eq_1<|zU C zn28_93.eq_1<|zU C zn28_88.eq_1<|zU C zn28_47.eq_1<|zU C zn28_45.eq_1<|zU C zn28_43.eq_1<|zU C zn28_41.eq_1<|zU C zn28_39.eq_1<|zU C zn28_31.eq_1<|zU C zn28_25.eq_1<|zU C zn28_23.eq_1<|zU C zn28_22.eq_1<|zU C zn28_141.eq_1<|zU C zn28_21.eq_1<|zU C Y1f.eq_1<|zU C zn28_15.eq_1<|zU C zn28_13.eq_1<|zU C zn28_143.eq_1<|zU C zn28_142.eq_1<|zU C zn28_12.eq_1<|zU C zn28_6.eq_1<|zU C zn28_4.eq_1<|zU C zn28_2.eq_1<|(zunf C zn28_0.eq_1)
theorem rs28: (xfOf Tryz.f44).rs=[.cell 4 83,.tmp 5,.tmp 6,.tmp 7]:=by kernel_rfl
theorem xf28: XFok C 44 (xfOf Tryz.f44):=by refine⟨Tryz.f44,?_,?_,?_,?_,?_,?_,?_⟩<;>kernel_rfl
def zn75_1:=ZC.reg [zu 1 (.box 36 (Tm 0)),zv 2 (.assign (.const (.bool false)))]
def zn75_4:=ZC.reg [zu 4 (zfa 36 1 0),zu 5 (zld 3 4),zv 6 (.binOp .eql 3 (Tm 5) (Kn 0) 3)]
def zn75_7:=ZC.reg [zu 7 (zld 36 1),⟨some 8,.build 36 ⟨[]⟩,none,false⟩,zu 9 (.binOp .eql 36 (Tm 7) (Tm 8) 36),zv 2 (zas 9)]
def zn75_6:=ZC.seq zn75_7 ZC.ret
def zn75_5:=ZC.cond (Tm 6) zn75_6 ZC.skip
def zn75_3:=ZC.seq zn75_4 zn75_5
def zn75_10:=ZC.reg [zv 3 (.assign (Kn 0))]
def zn75_15:=ZC.reg [zu 10 (zmv 3),zv 11 (.binOp .lss 3 (Tm 10) (Kn 4) 3)]
def zn75_16:=ZC.cond (Tm 11) ZC.skip (ZC.exit 0)
def zn75_14:=ZC.seq zn75_15 zn75_16
def zn75_20:=ZC.reg [zu 14 (zmv 3),zu 15 (zfa 36 1 7),zu 16 (zia 34 15 14),zu 17 (zld 3 16),zu 18 (zcf 31 [Tm 17,Kn (-1000000),Kn 1000000] [3,3,3]),zv 19 (.unOp .not 4 (Tm 18))]
def zn75_23:=ZC.reg [zv 2 (.assign (.const (.bool false)))]
def zn75_22:=ZC.seq zn75_23 ZC.ret
def zn75_21:=ZC.cond (Tm 19) zn75_22 ZC.skip
def zn75_19:=ZC.seq zn75_20 zn75_21
def zn75_18:=ZC.block 1 zn75_19
def zn75_24:=ZC.reg [zu 12 (zmv 3),zu 13 (.binOp .add 3 (Tm 12) (Kn 1) 3),zv 3 (zas 13)]
def zn75_17:=ZC.seq zn75_18 zn75_24
def zn75_13:=ZC.seq zn75_14 zn75_17
def zn75_12:=ZC.loop zn75_13
def zn75_11:=ZC.block 0 zn75_12
def zn75_9:=ZC.seq zn75_10 zn75_11
def zn75_26:=ZC.reg [zu 20 (zfa 36 1 0),zu 21 (zld 3 20),zu 22 (.binOp .eql 3 (Tm 21) (Kn 1) 3),zu 23 (zmv 22),zug 24 (zfa 36 1 0) 23 false false,zug 25 (zld 3 24) 23 false false,zug 26 (.binOp .eql 3 (Tm 25) (Kn 2) 3) 23 false false,zu 27 (.pick (Tm 23) (.const (.bool true)) (Tm 26)),zu 28 (zmv 27),zug 29 (zfa 36 1 1) 28 true false,zug 30 (zld 3 29) 28 true false,zug 31 (zcf 31 [Tm 30,Kn 0,Kn 7] [3,3,3]) 28 true false,zu 32 (.pick (Tm 28) (Tm 31) (.const (.bool false))),zu 33 (zmv 32),zug 34 (zfa 36 1 2) 33 true false,zug 35 (zld 3 34) 33 true false,zug 36 (zcf 31 [Tm 35,Kn 0,Kn 4095] [3,3,3]) 33 true false,zu 37 (.pick (Tm 33) (Tm 36) (.const (.bool false))),zu 38 (zmv 37),zug 39 (zfa 36 1 3) 38 true false,zug 40 (zld 3 39) 38 true false,zug 41 (zcf 31 [Tm 40,Kn 0,Kn 4095] [3,3,3]) 38 true false,zu 42 (.pick (Tm 38) (Tm 41) (.const (.bool false))),zu 43 (zmv 42),zug 44 (zfa 36 1 4) 43 true false,zug 45 (zld 3 44) 43 true false,zug 46 (zcf 31 [Tm 45,Kn (-64),Kn 64] [3,3,3]) 43 true false,zu 47 (.pick (Tm 43) (Tm 46) (.const (.bool false))),zu 48 (zmv 47),zug 49 (zfa 36 1 5) 48 true false,zug 50 (zld 3 49) 48 true false,zug 51 (zcf 31 [Tm 50,Kn (-64),Kn 64] [3,3,3]) 48 true false,zu 52 (.pick (Tm 48) (Tm 51) (.const (.bool false))),zu 53 (zmv 52),zug 54 (zfa 36 1 6) 53 true false,zug 55 (zld 3 54) 53 true false,zug 56 (zcf 31 [Tm 55,Kn 0,Kn 600] [3,3,3]) 53 true false,zu 57 (.pick (Tm 53) (Tm 56) (.const (.bool false))),zu 58 (zmv 57),zug 59 (zfa 36 1 8) 58 true false,zug 60 (zld 3 59) 58 true false,zug 61 (zcf 31 [Tm 60,Kn 0,Kn 65535] [3,3,3]) 58 true false,zu 62 (.pick (Tm 58) (Tm 61) (.const (.bool false))),zv 2 (zas 62)]
def zn75_25:=ZC.seq zn75_26 ZC.ret
def zn75_8:=ZC.seq zn75_9 zn75_25
def zn75_2:=ZC.seq zn75_3 zn75_8
def zn75_0:=ZC.seq zn75_1 zn75_2
def zc75: ZC:=zn75_0
theorem zc75_ok: zcode (xfOf Tryz.f35).code=some zc75:=by kernel_rfl
def zw75:=zU C zc75.eq_1<|zU C zn75_1.eq_1<|zU C zn75_4.eq_1<|zU C zn75_7.eq_1<|zU C zn75_6.eq_1<|zU C zn75_5.eq_1<|zU C zn75_3.eq_1<|zU C zn75_10.eq_1<|zU C zn75_15.eq_1<|zU C zn75_16.eq_1<|zU C zn75_14.eq_1<|zU C zn75_20.eq_1<|zU C zn75_23.eq_1<|zU C zn75_22.eq_1<|zU C zn75_21.eq_1<|zU C zn75_19.eq_1<|zU C zn75_18.eq_1<|zU C zn75_24.eq_1<|zU C zn75_17.eq_1<|zU C zn75_13.eq_1<|zU C zn75_11.eq_1<|zU C zn75_9.eq_1<|zU C zn75_26.eq_1<|zU C zn75_25.eq_1<|zU C zn75_8.eq_1<|zU C zn75_2.eq_1<|(zunf C zn75_0.eq_1)
theorem rs75: (xfOf Tryz.f35).rs=[.tmp 2]:=by kernel_rfl
theorem xf75: XFok C 35 (xfOf Tryz.f35):=by refine⟨Tryz.f35,?_,?_,?_,?_,?_,?_,?_⟩<;>kernel_rfl
def zn76_1:=ZC.reg [zu 3 (.box 45 (Tm 0)),zu 4 (.box 83 (Tm 1)),zv 6 (.assign (Kn 0))]
def zn76_3:=ZC.reg [zu 10 (zfa 45 3 0),zu 11 (zld 3 10),zu 12 (zcf 79 [Tm 11] [3]),zu 9 (zmv 12),zu 13 (.extract (Tm 9) 0),zu 14 (.extract (Tm 9) 1),zu 7 (zas 13),zv 8 (zas 14)]
def zn76_7:=ZC.reg [zu 16 (zfa 45 3 0),zu 17 (zld 3 16),zu 18 (zcf 31 [Tm 17,Kn 1,Kn 13] [3,3,3]),zu 19 (.unOp .not 4 (Tm 18)),zv 15 (zas 19)]
def zn76_10:=ZC.reg [zv 6 (.assign (Kn 4))]
def zn76_9:=ZC.seq zn76_10 ZC.ret
def zn76_12:=ZC.reg [zu 21 (zmv 7),zu 22 (zmv 21),zug 23 (zfa 45 3 1) 22 true false,zug 24 (zld 3 23) 22 true false,zug 25 (zcf 80 [Tm 24] [3]) 22 true false,zug 26 (.unOp .not 4 (Tm 25)) 22 true false,zu 27 (.pick (Tm 22) (Tm 26) (.const (.bool false))),zu 28 (zmv 27),zug 29 (zmv 8) 28 false false,zug 30 (zmv 29) 28 false false,zug 31 (zfa 45 3 2) 30 true false,zug 32 (zld 3 31) 30 true false,zug 33 (zcf 80 [Tm 32] [3]) 30 true false,zug 34 (.unOp .not 4 (Tm 33)) 30 true false,zug 35 (.pick (Tm 30) (Tm 34) (.const (.bool false))) 28 false false,zu 36 (.pick (Tm 28) (.const (.bool true)) (Tm 35)),zv 20 (zas 36)]
def zn76_15:=ZC.reg [zv 6 (.assign (Kn 2))]
def zn76_14:=ZC.seq zn76_15 ZC.ret
def zn76_17:=ZC.reg [zu 38 (zfa 45 3 0),zu 39 (zld 3 38),zu 40 (.binOp .eql 3 (Tm 39) (Kn 7) 3),zu 41 (zmv 40),zug 42 (zfa 45 3 2) 41 true false,zug 43 (zld 3 42) 41 true false,zug 44 (zcf 31 [Tm 43,Kn 0,Kn 7] [3,3,3]) 41 true false,zug 45 (.unOp .not 4 (Tm 44)) 41 true false,zu 46 (.pick (Tm 41) (Tm 45) (.const (.bool false))),zu 47 (zmv 46),zug 48 (zfa 45 3 0) 47 false false,zug 49 (zld 3 48) 47 false false,zug 50 (.binOp .eql 3 (Tm 49) (Kn 8) 3) 47 false false,zug 51 (zmv 50) 47 false false,zug 52 (zfa 45 3 1) 51 true false,zug 53 (zld 3 52) 51 true false,zug 54 (zcf 31 [Tm 53,Kn 0,Kn 3] [3,3,3]) 51 true false,zug 55 (.unOp .not 4 (Tm 54)) 51 true false,zug 56 (.pick (Tm 51) (Tm 55) (.const (.bool false))) 47 false false,zu 57 (.pick (Tm 47) (.const (.bool true)) (Tm 56)),zv 37 (zas 57)]
def zn76_20:=ZC.reg [zv 6 (.assign (Kn 3))]
def zn76_19:=ZC.seq zn76_20 ZC.ret
def zn76_22:=ZC.reg [zu 59 (zfa 45 3 0),zu 60 (zld 3 59),zu 61 (.binOp .eql 3 (Tm 60) (Kn 6) 3),zu 62 (zmv 61),zug 63 (zfa 45 3 2) 62 true false,zug 64 (zld 3 63) 62 true false,zug 65 (zfa 83 4 0) 62 true false,zug 66 (zfa 36 65 7) 62 true false,zug 67 (zia 34 66 64) 62 true false,zug 68 (zld 3 67) 62 true false,zug 69 (.binOp .eql 3 (Tm 68) (Kn 0) 3) 62 true false,zu 70 (.pick (Tm 62) (Tm 69) (.const (.bool false))),zv 58 (zas 70)]
def zn76_25:=ZC.reg [zv 6 (.assign (Kn 1))]
def zn76_24:=ZC.seq zn76_25 ZC.ret
def zn76_27:=ZC.reg [zu 72 (zfa 45 3 0),zu 73 (zld 3 72),zu 74 (.binOp .eql 3 (Tm 73) (Kn 11) 3),zu 75 (zmv 74),zug 76 (zld 45 3) 75 true false,zug 77 (zld 83 4) 75 true false,zug 78 (zcf 66 [Tm 76,Tm 77] [45,83]) 75 true false,zug 79 (.binOp .lss 3 (Tm 78) (Kn 1) 3) 75 true false,zu 80 (.pick (Tm 75) (Tm 79) (.const (.bool false))),zv 71 (zas 80)]
def zn76_30:=ZC.reg [zv 6 (.assign (Kn 6))]
def zn76_29:=ZC.seq zn76_30 ZC.ret
def zn76_32:=ZC.reg [zu 82 (zfa 45 3 0),zu 83 (zld 3 82),zu 84 (.binOp .eql 3 (Tm 83) (Kn 12) 3),zu 85 (zmv 84),zug 86 (zfa 83 4 4) 85 true false,zug 87 (zld 78 86) 85 true false,zug 88 (zcb .len [Tm 87] [78]) 85 true false,zug 89 (zfa 83 4 3) 85 true false,zug 90 (zld 3 89) 85 true false,zug 91 (.binOp .geq 3 (Tm 88) (Tm 90) 3) 85 true false,zu 92 (.pick (Tm 85) (Tm 91) (.const (.bool false))),zv 81 (zas 92)]
def zn76_35:=ZC.reg [zv 6 (.assign (Kn 7))]
def zn76_34:=ZC.seq zn76_35 ZC.ret
def zn76_38:=ZC.reg [zu 94 (zfa 45 3 0),zu 95 (zld 3 94),zu 96 (.binOp .eql 3 (Tm 95) (Kn 10) 3),zu 97 (zmv 96),zug 98 (zfa 45 3 2) 97 true false,zug 99 (zld 3 98) 97 true false,zug 100 (zmv 2) 97 true false,zug 101 (zcf 31 [Tm 99,Kn 0,Tm 100] [3,3,3]) 97 true false,zug 102 (.unOp .not 4 (Tm 101)) 97 true false,zu 103 (.pick (Tm 97) (Tm 102) (.const (.bool false))),zv 93 (zas 103)]
def zn76_40:=ZC.reg [zu 104 (zfa 45 3 0),zu 105 (zld 3 104),zu 106 (.binOp .eql 3 (Tm 105) (Kn 9) 3),zu 107 (zmv 106),zug 108 (zfa 45 3 1) 107 true false,zug 109 (zld 3 108) 107 true false,zug 110 (zfa 83 4 0) 107 true false,zug 111 (zfa 36 110 7) 107 true false,zug 112 (zia 34 111 109) 107 true false,zug 113 (zld 3 112) 107 true false,zug 114 (.binOp .eql 3 (Tm 113) (Kn 0) 3) 107 true false,zu 115 (.pick (Tm 107) (Tm 114) (.const (.bool false))),zu 116 (zmv 115),zug 117 (zfa 45 3 2) 116 true false,zug 118 (zld 3 117) 116 true false,zug 119 (zmv 2) 116 true false,zug 120 (zcf 31 [Tm 118,Kn 0,Tm 119] [3,3,3]) 116 true false,zug 121 (.unOp .not 4 (Tm 120)) 116 true false,zu 122 (.pick (Tm 116) (Tm 121) (.const (.bool false))),zv 93 (zas 122)]
def zn76_39:=ZC.cond (Tm 93) ZC.skip zn76_40
def zn76_37:=ZC.seq zn76_38 zn76_39
def zn76_43:=ZC.reg [zv 6 (.assign (Kn 4))]
def zn76_42:=ZC.seq zn76_43 ZC.ret
def zn76_41:=ZC.cond (Tm 93) zn76_42 ZC.skip
def zn76_36:=ZC.seq zn76_37 zn76_41
def zn76_33:=ZC.cond (Tm 81) zn76_34 zn76_36
def zn76_31:=ZC.seq zn76_32 zn76_33
def zn76_28:=ZC.cond (Tm 71) zn76_29 zn76_31
def zn76_26:=ZC.seq zn76_27 zn76_28
def zn76_23:=ZC.cond (Tm 58) zn76_24 zn76_26
def zn76_21:=ZC.seq zn76_22 zn76_23
def zn76_18:=ZC.cond (Tm 37) zn76_19 zn76_21
def zn76_16:=ZC.seq zn76_17 zn76_18
def zn76_13:=ZC.cond (Tm 20) zn76_14 zn76_16
def zn76_11:=ZC.seq zn76_12 zn76_13
def zn76_8:=ZC.cond (Tm 15) zn76_9 zn76_11
def zn76_6:=ZC.seq zn76_7 zn76_8
def zn76_5:=ZC.block 0 zn76_6
def zn76_45:=ZC.reg [zv 6 (.assign (Kn 0))]
def zn76_44:=ZC.seq zn76_45 ZC.ret
def zn76_4:=ZC.seq zn76_5 zn76_44
def zn76_2:=ZC.seq zn76_3 zn76_4
def zn76_0:=ZC.seq zn76_1 zn76_2
def zc76: ZC:=zn76_0
theorem zc76_ok: zcode (xfOf Tryz.f63).code=some zc76:=by kernel_rfl
def zw76:=zU C zc76.eq_1<|zU C zn76_1.eq_1<|zU C zn76_3.eq_1<|zU C zn76_7.eq_1<|zU C zn76_10.eq_1<|zU C zn76_9.eq_1<|zU C zn76_12.eq_1<|zU C zn76_15.eq_1<|zU C zn76_14.eq_1<|zU C zn76_17.eq_1<|zU C zn76_20.eq_1<|zU C zn76_19.eq_1<|zU C zn76_22.eq_1<|zU C zn76_25.eq_1<|zU C zn76_24.eq_1<|zU C zn76_27.eq_1<|zU C zn76_30.eq_1<|zU C zn76_29.eq_1<|zU C zn76_32.eq_1<|zU C zn76_35.eq_1<|zU C zn76_34.eq_1<|zU C zn76_38.eq_1<|zU C zn76_40.eq_1<|zU C zn76_39.eq_1<|zU C zn76_37.eq_1<|zU C zn76_43.eq_1<|zU C zn76_42.eq_1<|zU C zn76_41.eq_1<|zU C zn76_36.eq_1<|zU C zn76_33.eq_1<|zU C zn76_31.eq_1<|zU C zn76_28.eq_1<|zU C zn76_26.eq_1<|zU C zn76_23.eq_1<|zU C zn76_21.eq_1<|zU C zn76_18.eq_1<|zU C zn76_16.eq_1<|zU C zn76_13.eq_1<|zU C zn76_11.eq_1<|zU C zn76_8.eq_1<|zU C zn76_6.eq_1<|zU C zn76_5.eq_1<|zU C zn76_45.eq_1<|zU C zn76_44.eq_1<|zU C zn76_4.eq_1<|zU C zn76_2.eq_1<|(zunf C zn76_0.eq_1)
theorem rs76: (xfOf Tryz.f63).rs=[.tmp 6]:=by kernel_rfl
theorem xf76: XFok C 63 (xfOf Tryz.f63):=by refine⟨Tryz.f63,?_,?_,?_,?_,?_,?_,?_⟩<;>kernel_rfl
def zn77_1:=ZC.reg [zu 2 (.box 83 (Tm 0)),zv 4 (.assign (Kn 0))]
def zn77_3:=ZC.reg [zu 6 (zfa 83 2 0),zu 7 (zld 36 6),zu 5 (.alloc 36),zv0 (.store 36 (Tm 5) (Tm 7))]
def zn77_5:=ZC.reg [zu 8 (zfa 36 5 2),zu 9 (zld 3 8),zu 10 (zfa 36 5 3),zu 11 (zld 3 10),zu 12 (zfa 36 5 4),zu 13 (zld 3 12),zu 14 (zfa 36 5 5),zu 15 (zld 3 14),zu 16 (zfa 36 5 6),zu 17 (zld 3 16),zu 18 (zfa 83 2 1),zu 19 (zfa 62 18 0),zu 20 (zld 3 19),zu 21 (zfa 83 2 1),zu 22 (zfa 62 21 1),zu 23 (zld 3 22),zu 24 (zfa 83 2 1),zu 25 (zfa 62 24 2),zu 26 (zld 3 25),⟨some 27,.build 38 ⟨[(0,.tmp 9),(1,.tmp 11),(2,.tmp 13),(3,.tmp 15),(4,.tmp 17),(5,.tmp 20),(6,.tmp 23),(7,.tmp 26)]⟩,none,false⟩,zu 28 (zmv 1),zu 29 (.index 38 (Tm 27) (Tm 28)),zv 4 (zas 29)]
def zn77_4:=ZC.seq zn77_5 ZC.ret
def zn77_2:=ZC.seq zn77_3 zn77_4
def zn77_0:=ZC.seq zn77_1 zn77_2
def zc77: ZC:=zn77_0
theorem zc77_ok: zcode (xfOf Tryz.f64).code=some zc77:=by kernel_rfl
def zw77:=zU C zc77.eq_1<|zU C zn77_1.eq_1<|zU C zn77_3.eq_1<|zU C zn77_5.eq_1<|zU C zn77_4.eq_1<|zU C zn77_2.eq_1<|(zunf C zn77_0.eq_1)
theorem rs77: (xfOf Tryz.f64).rs=[.tmp 4]:=by kernel_rfl
theorem xf77: XFok C 64 (xfOf Tryz.f64):=by refine⟨Tryz.f64,?_,?_,?_,?_,?_,?_,?_⟩<;>kernel_rfl
def zn78_1:=ZC.reg [zu 4 (.assign (.const (.int .u64 0))),zv 5 (.assign (Kn 0))]
def zn78_4:=ZC.reg [zu 8 (zmv 1),zv 9 (.binOp .lss 3 (Tm 8) (Kn 1) 3)]
def zn78_7:=ZC.reg [zu 10 (zmv 0),zu 4 (zas 10),zv 5 (.assign (Kn 0))]
def zn78_6:=ZC.seq zn78_7 ZC.ret
def zn78_5:=ZC.cond (Tm 9) zn78_6 ZC.skip
def zn78_3:=ZC.seq zn78_4 zn78_5
def zn78_9:=ZC.reg [zu 12 (zmv 0),zu 13 (zcf 81 [Tm 12] [33]),zu 11 (zmv 13),zu 14 (.extract (Tm 11) 0),zu 15 (.extract (Tm 11) 1),zu 6 (zas 14),zv 7 (zas 15)]
def zn78_11:=ZC.draw 6 [] [zdd 0 16 (zmv 6) false [] [] false,zdd 1 17 (zmv 7) false [] [] false,zdd 2 18 (zmv 1) false [] [] false,zdd 3 19 (.binOp .rem 3 (Tm 17) (Tm 18) 3) false [] [] false,zdd 4 4 (zas 16) true [] [] false,zdd 5 5 (zas 19) true [] [] false]
def zn78_10:=ZC.seq zn78_11 ZC.ret
def zn78_8:=ZC.seq zn78_9 zn78_10
def zn78_2:=ZC.seq zn78_3 zn78_8
def zn78_0:=ZC.seq zn78_1 zn78_2
def zc78: ZC:=zn78_0
theorem zc78_ok: zcode (xfOf Tryz.f65).code=some zc78:=by kernel_rfl
def zw78:=zU C zc78.eq_1<|zU C zn78_1.eq_1<|zU C zn78_4.eq_1<|zU C zn78_7.eq_1<|zU C zn78_6.eq_1<|zU C zn78_5.eq_1<|zU C zn78_3.eq_1<|zU C zn78_9.eq_1<|zU C zn78_11.eq_1<|zU C zn78_10.eq_1<|zU C zn78_8.eq_1<|zU C zn78_2.eq_1<|(zunf C zn78_0.eq_1)
theorem rs78: (xfOf Tryz.f65).rs=[.tmp 4,.tmp 5]:=by kernel_rfl
theorem xf78: XFok C 65 (xfOf Tryz.f65):=by refine⟨Tryz.f65,?_,?_,?_,?_,?_,?_,?_⟩<;>kernel_rfl
def zn79_1:=ZC.reg [zu 2 (.box 45 (Tm 0)),zu 3 (.box 83 (Tm 1)),zv 4 (.assign (Kn 0))]
def zn79_3:=ZC.reg [zu 5 (zfa 45 2 2),zu 6 (zld 3 5),zu 7 (zfa 83 3 0),zu 8 (zfa 36 7 7),zu 9 (zia 34 8 6),zu 10 (zld 3 9),zv 4 (zas 10)]
def zn79_2:=ZC.seq zn79_3 ZC.ret
def zn79_0:=ZC.seq zn79_1 zn79_2
def zc79: ZC:=zn79_0
theorem zc79_ok: zcode (xfOf Tryz.f66).code=some zc79:=by kernel_rfl
def zw79:=zU C zc79.eq_1<|zU C zn79_1.eq_1<|zU C zn79_3.eq_1<|zU C zn79_2.eq_1<|(zunf C zn79_0.eq_1)
theorem rs79: (xfOf Tryz.f66).rs=[.tmp 4]:=by kernel_rfl
theorem xf79: XFok C 66 (xfOf Tryz.f66):=by refine⟨Tryz.f66,?_,?_,?_,?_,?_,?_,?_⟩<;>kernel_rfl
def zn80_1:=ZC.reg [zv 6 (.assign (Kn 0))]
def zn80_3:=ZC.reg [zu 7 (zmv 1),zu 8 (zmv 2),zu 9 (zmv 0),zu 10 (zcb .min [Tm 8,Tm 9] [3,3]),zu 11 (zcb .max [Tm 7,Tm 10] [3,3]),zv 6 (zas 11)]
def zn80_2:=ZC.seq zn80_3 ZC.ret
def zn80_0:=ZC.seq zn80_1 zn80_2
def zc80: ZC:=zn80_0
theorem zc80_ok: zcode (xfOf Tryz.f59).code=some zc80:=by kernel_rfl
def zw80:=zU C zc80.eq_1<|zU C zn80_1.eq_1<|zU C zn80_3.eq_1<|zU C zn80_2.eq_1<|(zunf C zn80_0.eq_1)
theorem rs80: (xfOf Tryz.f59).rs=[.tmp 6]:=by kernel_rfl
theorem xf80: XFok C 59 (xfOf Tryz.f59):=by refine⟨Tryz.f59,?_,?_,?_,?_,?_,?_,?_⟩<;>kernel_rfl
def zn81_1:=ZC.reg [zu 3 (.box 36 (Tm 0)),zv 6 (.alloc 36)]
def zn81_4:=ZC.reg [zu 7 (zld 36 3),zu 8 (zcf 35 [Tm 7] [36]),zu 9 (.unOp .not 4 (Tm 8)),zu 10 (zmv 9),zug 11 (zfa 36 3 0) 10 false false,zug 12 (zld 3 11) 10 false false,zug 13 (.binOp .eql 3 (Tm 12) (Kn 0) 3) 10 false false,zv 14 (.pick (Tm 10) (.const (.bool true)) (Tm 13))]
def zn81_7:=ZC.reg [⟨some 15,.build 36 ⟨[]⟩,none,false⟩,zv0 (.store 36 (Tm 6) (Tm 15))]
def zn81_6:=ZC.seq zn81_7 ZC.ret
def zn81_5:=ZC.cond (Tm 14) zn81_6 ZC.skip
def zn81_3:=ZC.seq zn81_4 zn81_5
def zn81_9:=ZC.draw 12 [] [zdd 0 16 (zfa 36 3 1) false [] [7,9] false,zdd 1 17 (zld 3 16) false [] [7,9] false,zdd 2 18 (zfa 36 3 2) false [] [7,9] false,zdd 3 19 (zld 3 18) false [] [7,9] false,zdd 4 20 (zfa 36 3 3) false [] [7,9] false,zdd 5 21 (zld 3 20) false [] [7,9] false,zdd 6 22 (zmv 1) false [] [] false,zdd 7 23 (zcf 59 [Tm 22,Kn (-64),Kn 64] [3,3,3]) false [] [] false,zdd 8 24 (zmv 2) true [] [] false,zdd 9 25 (zcf 59 [Tm 24,Kn (-64),Kn 64] [3,3,3]) true [] [] false,⟨10,some 26,.build 36 ⟨[(0,.const (.int .i64 2)),(1,.tmp 17),(2,.tmp 19),(3,.tmp 21),(4,.tmp 23),(5,.tmp 25)]⟩,none,true,[],[],false⟩,zd0 11 (.store 36 (Tm 6) (Tm 26)) true [] [] false]
def zn81_8:=ZC.seq zn81_9 ZC.ret
def zn81_2:=ZC.seq zn81_3 zn81_8
def zn81_0:=ZC.seq zn81_1 zn81_2
def zc81: ZC:=zn81_0
theorem zc81_ok: zcode (xfOf Tryz.f67).code=some zc81:=by kernel_rfl
def zw81:=zU C zc81.eq_1<|zU C zn81_1.eq_1<|zU C zn81_4.eq_1<|zU C zn81_7.eq_1<|zU C zn81_6.eq_1<|zU C zn81_5.eq_1<|zU C zn81_3.eq_1<|zU C zn81_9.eq_1<|zU C zn81_8.eq_1<|zU C zn81_2.eq_1<|(zunf C zn81_0.eq_1)
theorem rs81: (xfOf Tryz.f67).rs=[.cell 6 36]:=by kernel_rfl
theorem xf81: XFok C 67 (xfOf Tryz.f67):=by refine⟨Tryz.f67,?_,?_,?_,?_,?_,?_,?_⟩<;>kernel_rfl
def zn85_1:=ZC.reg [zv 6 (.assign (.const (.bool false)))]
def zn85_3:=ZC.reg [zu 7 (zmv 0),zu 8 (zmv 1),zu 9 (.binOp .geq 3 (Tm 7) (Tm 8) 3),zu 10 (zmv 9),zug 11 (zmv 0) 10 true false,zug 12 (zmv 2) 10 true false,zug 13 (.binOp .leq 3 (Tm 11) (Tm 12) 3) 10 true false,zu 14 (.pick (Tm 10) (Tm 13) (.const (.bool false))),zv 6 (zas 14)]
def zn85_2:=ZC.seq zn85_3 ZC.ret
def zn85_0:=ZC.seq zn85_1 zn85_2
def zc85: ZC:=zn85_0
theorem zc85_ok: zcode (xfOf Tryz.f31).code=some zc85:=by kernel_rfl
def zw85:=zU C zc85.eq_1<|zU C zn85_1.eq_1<|zU C zn85_3.eq_1<|zU C zn85_2.eq_1<|(zunf C zn85_0.eq_1)
theorem rs85: (xfOf Tryz.f31).rs=[.tmp 6]:=by kernel_rfl
theorem xf85: XFok C 31 (xfOf Tryz.f31):=by refine⟨Tryz.f31,?_,?_,?_,?_,?_,?_,?_⟩<;>kernel_rfl
def zn152_1:=ZC.reg [zu 2 (.assign (.const (.bool false))),zv 3 (.assign (.const (.bool false)))]
def zn152_4:=ZC.reg [zv 4 (zmv 0)]
def zn152_8:=ZC.reg [zu 6 (.binOp .eql 3 (Tm 4) (Kn 1) 3),zv 5 (zas 6)]
def zn152_11:=ZC.reg [zu 7 (.binOp .eql 3 (Tm 4) (Kn 7) 3),zv 5 (zas 7)]
def zn152_13:=ZC.reg [zu 8 (.binOp .eql 3 (Tm 4) (Kn 9) 3),zv 5 (zas 8)]
def zn152_12:=ZC.cond (Tm 5) ZC.skip zn152_13
def zn152_10:=ZC.seq zn152_11 zn152_12
def zn152_9:=ZC.cond (Tm 5) ZC.skip zn152_10
def zn152_7:=ZC.seq zn152_8 zn152_9
def zn152_16:=ZC.reg [zu 2 (.assign (.const (.bool true))),zv 3 (.assign (.const (.bool false)))]
def zn152_15:=ZC.seq zn152_16 ZC.ret
def zn152_19:=ZC.reg [zu 10 (.binOp .eql 3 (Tm 4) (Kn 2) 3),zv 9 (zas 10)]
def zn152_22:=ZC.reg [zu 11 (.binOp .eql 3 (Tm 4) (Kn 3) 3),zv 9 (zas 11)]
def zn152_25:=ZC.reg [zu 12 (.binOp .eql 3 (Tm 4) (Kn 4) 3),zv 9 (zas 12)]
def zn152_28:=ZC.reg [zu 13 (.binOp .eql 3 (Tm 4) (Kn 5) 3),zv 9 (zas 13)]
def zn152_31:=ZC.reg [zu 14 (.binOp .eql 3 (Tm 4) (Kn 6) 3),zv 9 (zas 14)]
def zn152_34:=ZC.reg [zu 15 (.binOp .eql 3 (Tm 4) (Kn 11) 3),zv 9 (zas 15)]
def zn152_36:=ZC.reg [zu 16 (.binOp .eql 3 (Tm 4) (Kn 12) 3),zv 9 (zas 16)]
def zn152_35:=ZC.cond (Tm 9) ZC.skip zn152_36
def zn152_33:=ZC.seq zn152_34 zn152_35
def zn152_32:=ZC.cond (Tm 9) ZC.skip zn152_33
def zn152_30:=ZC.seq zn152_31 zn152_32
def zn152_29:=ZC.cond (Tm 9) ZC.skip zn152_30
def zn152_27:=ZC.seq zn152_28 zn152_29
def zn152_26:=ZC.cond (Tm 9) ZC.skip zn152_27
def zn152_24:=ZC.seq zn152_25 zn152_26
def zn152_23:=ZC.cond (Tm 9) ZC.skip zn152_24
def zn152_21:=ZC.seq zn152_22 zn152_23
def zn152_20:=ZC.cond (Tm 9) ZC.skip zn152_21
def zn152_18:=ZC.seq zn152_19 zn152_20
def zn152_39:=ZC.reg [zu 2 (.assign (.const (.bool true))),zv 3 (.assign (.const (.bool true)))]
def zn152_38:=ZC.seq zn152_39 ZC.ret
def zn152_41:=ZC.reg [zu 18 (.binOp .eql 3 (Tm 4) (Kn 8) 3),zv 17 (zas 18)]
def zn152_44:=ZC.reg [zu 2 (.assign (.const (.bool false))),zv 3 (.assign (.const (.bool true)))]
def zn152_43:=ZC.seq zn152_44 ZC.ret
def zn152_42:=ZC.cond (Tm 17) zn152_43 ZC.skip
def zn152_40:=ZC.seq zn152_41 zn152_42
def zn152_37:=ZC.cond (Tm 9) zn152_38 zn152_40
def zn152_17:=ZC.seq zn152_18 zn152_37
def zn152_14:=ZC.cond (Tm 5) zn152_15 zn152_17
def zn152_6:=ZC.seq zn152_7 zn152_14
def zn152_5:=ZC.block 0 zn152_6
def zn152_3:=ZC.seq zn152_4 zn152_5
def zn152_46:=ZC.reg [zu 2 (.assign (.const (.bool false))),zv 3 (.assign (.const (.bool false)))]
def zn152_45:=ZC.seq zn152_46 ZC.ret
def zn152_2:=ZC.seq zn152_3 zn152_45
def zn152_0:=ZC.seq zn152_1 zn152_2
def zc152: ZC:=zn152_0
theorem zc152_ok: zcode (xfOf Tryz.f79).code=some zc152:=by kernel_rfl
def zw152:=zU C zc152.eq_1<|zU C zn152_1.eq_1<|zU C zn152_4.eq_1<|zU C zn152_8.eq_1<|zU C zn152_11.eq_1<|zU C zn152_13.eq_1<|zU C zn152_12.eq_1<|zU C zn152_10.eq_1<|zU C zn152_9.eq_1<|zU C zn152_7.eq_1<|zU C zn152_16.eq_1<|zU C zn152_15.eq_1<|zU C zn152_19.eq_1<|zU C zn152_22.eq_1<|zU C zn152_25.eq_1<|zU C zn152_28.eq_1<|zU C zn152_31.eq_1<|zU C zn152_34.eq_1<|zU C zn152_36.eq_1<|zU C zn152_35.eq_1<|zU C zn152_33.eq_1<|zU C zn152_32.eq_1<|zU C zn152_30.eq_1<|zU C zn152_29.eq_1<|zU C zn152_27.eq_1<|zU C zn152_26.eq_1<|zU C zn152_24.eq_1<|zU C zn152_23.eq_1<|zU C zn152_21.eq_1<|zU C zn152_20.eq_1<|zU C zn152_18.eq_1<|zU C zn152_39.eq_1<|zU C zn152_38.eq_1<|zU C zn152_41.eq_1<|zU C zn152_44.eq_1<|zU C zn152_43.eq_1<|zU C zn152_42.eq_1<|zU C zn152_40.eq_1<|zU C zn152_37.eq_1<|zU C zn152_17.eq_1<|zU C zn152_14.eq_1<|zU C zn152_6.eq_1<|zU C zn152_5.eq_1<|zU C zn152_3.eq_1<|zU C zn152_46.eq_1<|zU C zn152_45.eq_1<|zU C zn152_2.eq_1<|(zunf C zn152_0.eq_1)
theorem rs152: (xfOf Tryz.f79).rs=[.tmp 2,.tmp 3]:=by kernel_rfl
theorem xf152: XFok C 79 (xfOf Tryz.f79):=by refine⟨Tryz.f79,?_,?_,?_,?_,?_,?_,?_⟩<;>kernel_rfl
def zn153_1:=ZC.reg [zv 2 (.assign (.const (.bool false)))]
def zn153_3:=ZC.reg [zu 3 (zmv 0),zu 4 (zcf 31 [Tm 3,Kn 0,Kn 3] [3,3,3]),zv 2 (zas 4)]
def zn153_2:=ZC.seq zn153_3 ZC.ret
def zn153_0:=ZC.seq zn153_1 zn153_2
def zc153: ZC:=zn153_0
theorem zc153_ok: zcode (xfOf Tryz.f80).code=some zc153:=by kernel_rfl
def zw153:=zU C zc153.eq_1<|zU C zn153_1.eq_1<|zU C zn153_3.eq_1<|zU C zn153_2.eq_1<|(zunf C zn153_0.eq_1)
theorem rs153: (xfOf Tryz.f80).rs=[.tmp 2]:=by kernel_rfl
theorem xf153: XFok C 80 (xfOf Tryz.f80):=by refine⟨Tryz.f80,?_,?_,?_,?_,?_,?_,?_⟩<;>kernel_rfl
def zn154_1:=ZC.reg [zu 2 (.assign (.const (.int .u64 0))),zv 3 (.assign (Kn 0))]
def zn154_3:=ZC.reg [zu 4 (zmv 0),zu 5 (.binOp .mul 33 (Tm 4) (.const (.int .u64 6364136223846793005)) 33),zu 6 (.binOp .add 33 (Tm 5) (.const (.int .u64 1442695040888963407)) 33),zv 0 (zas 6)]
def zn154_5:=ZC.reg [zu 7 (zmv 0),zu 8 (zmv 0),zu 9 (.binOp .shr 33 (Tm 8) (.const (.int .u64 33)) 133),zu 10 (.convert 33 3 (Tm 9)),zu 2 (zas 7),zv 3 (zas 10)]
def zn154_4:=ZC.seq zn154_5 ZC.ret
def zn154_2:=ZC.seq zn154_3 zn154_4
def zn154_0:=ZC.seq zn154_1 zn154_2
def zc154: ZC:=zn154_0
theorem zc154_ok: zcode (xfOf Tryz.f81).code=some zc154:=by kernel_rfl
def zw154:=zU C zc154.eq_1<|zU C zn154_1.eq_1<|zU C zn154_3.eq_1<|zU C zn154_5.eq_1<|zU C zn154_4.eq_1<|zU C zn154_2.eq_1<|(zunf C zn154_0.eq_1)
theorem rs154: (xfOf Tryz.f81).rs=[.tmp 2,.tmp 3]:=by kernel_rfl
theorem xf154: XFok C 81 (xfOf Tryz.f81):=by refine⟨Tryz.f81,?_,?_,?_,?_,?_,?_,?_⟩<;>kernel_rfl
def zn37_1:=ZC.reg [zv 4 (.assign (Kn 0))]
def zn37_3:=ZC.reg [zu 5 (zmv 0),zu 6 (zmv 1),zu 7 (.binOp .rem 3 (Tm 5) (Tm 6) 3),zv 0 (zas 7)]
def zn37_6:=ZC.reg [zu 8 (zmv 0),zv 9 (.binOp .lss 3 (Tm 8) (Kn 0) 3)]
def zn37_8:=ZC.reg [zu 10 (zmv 0),zu 11 (zmv 1),zu 12 (.binOp .add 3 (Tm 10) (Tm 11) 3),zv 0 (zas 12)]
def zn37_7:=ZC.cond (Tm 9) zn37_8 ZC.skip
def zn37_5:=ZC.seq zn37_6 zn37_7
def zn37_10:=ZC.reg [zu 13 (zmv 0),zv 4 (zas 13)]
def zn37_9:=ZC.seq zn37_10 ZC.ret
def zn37_4:=ZC.seq zn37_5 zn37_9
def zn37_2:=ZC.seq zn37_3 zn37_4
def zn37_0:=ZC.seq zn37_1 zn37_2
def zc37: ZC:=zn37_0
theorem zc37_ok: zcode (xfOf Tryz.f6).code=some zc37:=by kernel_rfl
def zw37:=zU C zc37.eq_1<|zU C zn37_1.eq_1<|zU C zn37_3.eq_1<|zU C zn37_6.eq_1<|zU C zn37_8.eq_1<|zU C zn37_7.eq_1<|zU C zn37_5.eq_1<|zU C zn37_10.eq_1<|zU C zn37_9.eq_1<|zU C zn37_4.eq_1<|zU C zn37_2.eq_1<|(zunf C zn37_0.eq_1)
theorem rs37: (xfOf Tryz.f6).rs=[.tmp 4]:=by kernel_rfl
theorem xf37: XFok C 6 (xfOf Tryz.f6):=by refine⟨Tryz.f6,?_,?_,?_,?_,?_,?_,?_⟩<;>kernel_rfl
def zn64_1:=ZC.reg [zv 4 (.alloc 36)]
def zn64_3:=ZC.reg [zu 5 (zmv 1),zu 6 (zcf 58 [Tm 5,Kn 1,Kn 8] [3,3,3]),zv 1 (zas 6)]
def zn64_5:=ZC.reg [zu 7 (zmv 0),zu 8 (zmv 1),zu 9 (.binOp .sub 3 (Tm 8) (Kn 1) 3),zu 10 (zcf 58 [Tm 7,Kn 0,Tm 9] [3,3,3]),zv 0 (zas 10)]
def zn64_7:=ZC.reg [zu 11 (zmv 0),zu 12 (zmv 0),zu 13 (.binOp .mul 3 (Kn 2) (Tm 12) 3),zu 14 (.binOp .add 3 (Tm 13) (Kn 1) 3),zu 15 (.binOp .mul 3 (Tm 14) (Kn 4096) 3),zu 16 (zmv 1),zu 17 (.binOp .mul 3 (Kn 2) (Tm 16) 3),zu 18 (.binOp .quo 3 (Tm 15) (Tm 17) 3),⟨some 19,.build 36 ⟨[(0,.const (.int .i64 1)),(1,.tmp 11),(2,.tmp 18),(3,.const (.int .i64 2048))]⟩,none,false⟩,zv0 (.store 36 (Tm 4) (Tm 19))]
def zn64_6:=ZC.seq zn64_7 ZC.ret
def zn64_4:=ZC.seq zn64_5 zn64_6
def zn64_2:=ZC.seq zn64_3 zn64_4
def zn64_0:=ZC.seq zn64_1 zn64_2
def zc64: ZC:=zn64_0
theorem zc64_ok: zcode (xfOf Tryz.f37).code=some zc64:=by kernel_rfl
def zw64:=zU C zc64.eq_1<|zU C zn64_1.eq_1<|zU C zn64_3.eq_1<|zU C zn64_5.eq_1<|zU C zn64_7.eq_1<|zU C zn64_6.eq_1<|zU C zn64_4.eq_1<|zU C zn64_2.eq_1<|(zunf C zn64_0.eq_1)
theorem rs64: (xfOf Tryz.f37).rs=[.cell 4 36]:=by kernel_rfl
theorem xf64: XFok C 37 (xfOf Tryz.f37):=by refine⟨Tryz.f37,?_,?_,?_,?_,?_,?_,?_⟩<;>kernel_rfl
def zn69_1:=ZC.reg [zv 4 (.alloc 62)]
def zn69_3:=ZC.reg [zu 5 (zmv 0),zu 6 (zcf 6 [Tm 5,Kn 256] [3,3]),zu 7 (zmv 1),zu 8 (zcf 6 [Tm 7,Kn 129] [3,3]),zu 9 (.binOp .sub 3 (Tm 8) (Kn 64) 3),zu 10 (zmv 1),zu 11 (.binOp .quo 3 (Tm 10) (Kn 129) 3),zu 12 (zcf 6 [Tm 11,Kn 129] [3,3]),zu 13 (.binOp .sub 3 (Tm 12) (Kn 64) 3),⟨some 14,.build 62 ⟨[(0,.tmp 6),(1,.tmp 9),(2,.tmp 13)]⟩,none,false⟩,zv0 (.store 62 (Tm 4) (Tm 14))]
def zn69_2:=ZC.seq zn69_3 ZC.ret
def zn69_0:=ZC.seq zn69_1 zn69_2
def zc69: ZC:=zn69_0
theorem zc69_ok: zcode (xfOf Tryz.f69).code=some zc69:=by kernel_rfl
def zw69:=zU C zc69.eq_1<|zU C zn69_1.eq_1<|zU C zn69_3.eq_1<|zU C zn69_2.eq_1<|(zunf C zn69_0.eq_1)
theorem rs69: (xfOf Tryz.f69).rs=[.cell 4 62]:=by kernel_rfl
def xf69:=zF C 69 Tryz.f69
def zn21_1:=ZC.reg [zu 1 (.box 92 (Tm 0)),zv 2 (.alloc 45)]
def zn21_3:=ZC.draw 13 [(11,.alloc 45)] [zdd 0 4 (zfa 92 1 0) false [] [] false,zdd 1 5 (zld 3 4) false [] [] false,zdd 2 6 (zcf 6 [Tm 5,Kn 13] [3,3]) false [] [] true,zdd 3 7 (.binOp .add 3 (Kn 1) (Tm 6) 3) false [] [] false,zdd 4 8 (zfa 92 1 1) false [2] [] false,zdd 5 9 (zld 3 8) false [2] [] false,zdd 6 10 (zcf 6 [Tm 9,Kn 4] [3,3]) false [] [] true,zdd 7 11 (zfa 92 1 2) false [2,6] [] false,zdd 8 12 (zld 3 11) false [2,6] [] false,zdd 9 13 (zcf 6 [Tm 12,Kn 4] [3,3]) false [] [] true,⟨10,some 14,.build 45 ⟨[(0,.tmp 7),(1,.tmp 10),(2,.tmp 13)]⟩,none,false,[],[],false⟩,zdd 11 3 (.alloc 45) true [2,6,9] [] false,zd0 12 (.store 45 (Tm 3) (Tm 14)) true [] [] false]
def zn21_6:=ZC.reg [zu 15 (zfa 45 3 0),zv 16 (zld 3 15)]
def zn21_9:=ZC.reg [zu 18 (.binOp .eql 3 (Tm 16) (Kn 1) 3),zv 17 (zas 18)]
def zn21_11:=ZC.reg [zu 19 (zfa 92 1 2),zu 20 (zld 3 19),zu 21 (zcf 6 [Tm 20,Kn 90] [3,3]),zu 22 (.binOp .sub 3 (Tm 21) (Kn 30) 3),zu 23 (zfa 45 3 2),zv0 (.store 3 (Tm 23) (Tm 22))]
def zn21_13:=ZC.reg [zu 25 (.binOp .eql 3 (Tm 16) (Kn 7) 3),zv 24 (zas 25)]
def zn21_15:=ZC.reg [zu 26 (zfa 92 1 2),zu 27 (zld 3 26),zu 28 (zcf 6 [Tm 27,Kn 8] [3,3]),zu 29 (zfa 45 3 2),zv0 (.store 3 (Tm 29) (Tm 28))]
def zn21_18:=ZC.reg [zu 31 (.binOp .eql 3 (Tm 16) (Kn 9) 3),zv 30 (zas 31)]
def zn21_20:=ZC.reg [zu 32 (.binOp .eql 3 (Tm 16) (Kn 10) 3),zv 30 (zas 32)]
def zn21_19:=ZC.cond (Tm 30) ZC.skip zn21_20
def zn21_17:=ZC.seq zn21_18 zn21_19
def zn21_22:=ZC.reg [zu 33 (zfa 92 1 2),zu 34 (zld 3 33),zu 35 (zcf 6 [Tm 34,Kn 9] [3,3]),zu 36 (zfa 45 3 2),zv0 (.store 3 (Tm 36) (Tm 35))]
def zn21_21:=ZC.cond (Tm 30) zn21_22 ZC.skip
def zn21_16:=ZC.seq zn21_17 zn21_21
def zn21_14:=ZC.cond (Tm 24) zn21_15 zn21_16
def zn21_12:=ZC.seq zn21_13 zn21_14
def zn21_10:=ZC.cond (Tm 17) zn21_11 zn21_12
def zn21_8:=ZC.seq zn21_9 zn21_10
def zn21_7:=ZC.block 0 zn21_8
def zn21_5:=ZC.seq zn21_6 zn21_7
def zn21_25:=ZC.reg [zu 37 (zfa 92 1 0),zu 38 (zld 3 37),zv 39 (zcf 6 [Tm 38,Kn 101] [3,3])]
def zn21_28:=ZC.reg [zu 41 (.binOp .eql 3 (Tm 39) (Kn 97) 3),zv 40 (zas 41)]
def zn21_30:=ZC.reg [zu 42 (zfa 92 1 1),zu 43 (zld 3 42),zu 44 (zfa 45 3 1),zv0 (.store 3 (Tm 44) (Tm 43))]
def zn21_32:=ZC.reg [zu 46 (.binOp .eql 3 (Tm 39) (Kn 98) 3),zv 45 (zas 46)]
def zn21_34:=ZC.reg [zu 47 (zfa 92 1 2),zu 48 (zld 3 47),zu 49 (zfa 45 3 2),zv0 (.store 3 (Tm 49) (Tm 48))]
def zn21_36:=ZC.reg [zu 51 (.binOp .eql 3 (Tm 39) (Kn 99) 3),zv 50 (zas 51)]
def zn21_38:=ZC.reg [zu 52 (zfa 92 1 2),zu 53 (zld 3 52),zu 54 (zfa 45 3 0),zv0 (.store 3 (Tm 54) (Tm 53))]
def zn21_40:=ZC.reg [zu 56 (.binOp .eql 3 (Tm 39) (Kn 100) 3),zv 55 (zas 56)]
def zn21_42:=ZC.reg [zu 57 (zfa 92 1 1),zu 58 (zld 3 57),zu 59 (zcf 6 [Tm 58,Kn 9] [3,3]),zu 60 (zfa 45 3 1),zv0 (.store 3 (Tm 60) (Tm 59))]
def zn21_41:=ZC.cond (Tm 55) zn21_42 ZC.skip
def zn21_39:=ZC.seq zn21_40 zn21_41
def zn21_37:=ZC.cond (Tm 50) zn21_38 zn21_39
def zn21_35:=ZC.seq zn21_36 zn21_37
def zn21_33:=ZC.cond (Tm 45) zn21_34 zn21_35
def zn21_31:=ZC.seq zn21_32 zn21_33
def zn21_29:=ZC.cond (Tm 40) zn21_30 zn21_31
def zn21_27:=ZC.seq zn21_28 zn21_29
def zn21_26:=ZC.block 1 zn21_27
def zn21_24:=ZC.seq zn21_25 zn21_26
def zn21_44:=ZC.reg [zu 61 (zld 45 3),zv0 (.store 45 (Tm 2) (Tm 61))]
def zn21_43:=ZC.seq zn21_44 ZC.ret
def zn21_23:=ZC.seq zn21_24 zn21_43
def zn21_4:=ZC.seq zn21_5 zn21_23
def zn21_2:=ZC.seq zn21_3 zn21_4
def zn21_0:=ZC.seq zn21_1 zn21_2
def zc21: ZC:=zn21_0
theorem zc21_ok: zcode (xfOf Tryz.f49).code=some zc21:=by kernel_rfl
def zw21:=zU C zc21.eq_1<|zU C zn21_1.eq_1<|zU C zn21_3.eq_1<|zU C zn21_6.eq_1<|zU C zn21_9.eq_1<|zU C zn21_11.eq_1<|zU C zn21_13.eq_1<|zU C zn21_15.eq_1<|zU C zn21_18.eq_1<|zU C zn21_20.eq_1<|zU C zn21_19.eq_1<|zU C zn21_17.eq_1<|zU C zn21_22.eq_1<|zU C zn21_21.eq_1<|zU C zn21_16.eq_1<|zU C zn21_14.eq_1<|zU C zn21_12.eq_1<|zU C zn21_10.eq_1<|zU C zn21_8.eq_1<|zU C zn21_7.eq_1<|zU C zn21_5.eq_1<|zU C zn21_25.eq_1<|zU C zn21_28.eq_1<|zU C zn21_30.eq_1<|zU C zn21_32.eq_1<|zU C zn21_34.eq_1<|zU C zn21_36.eq_1<|zU C zn21_38.eq_1<|zU C zn21_40.eq_1<|zU C zn21_42.eq_1<|zU C zn21_41.eq_1<|zU C zn21_39.eq_1<|zU C zn21_37.eq_1<|zU C zn21_35.eq_1<|zU C zn21_33.eq_1<|zU C zn21_31.eq_1<|zU C zn21_29.eq_1<|zU C zn21_27.eq_1<|zU C zn21_26.eq_1<|zU C zn21_24.eq_1<|zU C zn21_44.eq_1<|zU C zn21_43.eq_1<|zU C zn21_23.eq_1<|zU C zn21_4.eq_1<|zU C zn21_2.eq_1<|(zunf C zn21_0.eq_1)
theorem rs21: (xfOf Tryz.f49).rs=[.cell 2 45]:=by kernel_rfl
theorem xf21: XFok C 49 (xfOf Tryz.f49):=by refine⟨Tryz.f49,?_,?_,?_,?_,?_,?_,?_⟩<;>kernel_rfl
def zn29_1:=ZC.reg [zv 2 (.assign (.const (.bool false)))]
def zn29_3:=ZC.reg [zu 4 (zmv 0),zu 5 (zcf 54 [Tm 4,.func 55] [28,99]),zv 3 (zas 5)]
def zn29_5:=ZC.reg [zu 6 (zmv 0),zu 7 (zcb .len [Tm 6] [28]),zu 8 (.binOp .leq 3 (Tm 7) (Kn 16) 3),zu 9 (zmv 8),zug 10 (zmv 3) 9 true false,zug 11 (.unOp .not 4 (Tm 10)) 9 true false,zu 12 (.pick (Tm 9) (Tm 11) (.const (.bool false))),zv 2 (zas 12)]
def zn29_4:=ZC.seq zn29_5 ZC.ret
def zn29_2:=ZC.seq zn29_3 zn29_4
def zn29_0:=ZC.seq zn29_1 zn29_2
def zc29: ZC:=zn29_0
theorem zc29_ok: zcode (xfOf Tryz.f29).code=some zc29:=by kernel_rfl
def zw29:=zU C zc29.eq_1<|zU C zn29_1.eq_1<|zU C zn29_3.eq_1<|zU C zn29_5.eq_1<|zU C zn29_4.eq_1<|zU C zn29_2.eq_1<|(zunf C zn29_0.eq_1)
theorem rs29: (xfOf Tryz.f29).rs=[.tmp 2]:=by kernel_rfl
def xf29:=zF C 29 Tryz.f29
def zn30_1:=ZC.reg [zv 2 (.assign (.const (.bool false)))]
def zn30_4:=ZC.reg [zv 3 (.assign (Kn 0))]
def zn30_9:=ZC.reg [zu 4 (zmv 3),zu 5 (zmv 0),zu 6 (zcb .len [Tm 5] [28]),zv 7 (.binOp .lss 3 (Tm 4) (Tm 6) 3)]
def zn30_10:=ZC.cond (Tm 7) ZC.skip (ZC.exit 0)
def zn30_8:=ZC.seq zn30_9 zn30_10
def zn30_14:=ZC.reg [zu 10 (zmv 0),zu 11 (zmv 3),zu 12 (zia 28 10 11),zu 13 (zfa 45 12 0),zu 14 (zld 3 13),zu 15 (zcf 31 [Tm 14,Kn 1,Kn 13] [3,3,3]),zu 16 (.unOp .not 4 (Tm 15)),zu 17 (zmv 16),zug 18 (zmv 0) 17 false false,zug 19 (zmv 3) 17 false false,zug 20 (zia 28 18 19) 17 false false,zug 21 (zfa 45 20 1) 17 false false,zug 22 (zld 3 21) 17 false false,zug 23 (zcf 31 [Tm 22,Kn (-1000000),Kn 1000000] [3,3,3]) 17 false false,zug 24 (.unOp .not 4 (Tm 23)) 17 false false,zu 25 (.pick (Tm 17) (.const (.bool true)) (Tm 24)),zu 26 (zmv 25),zug 27 (zmv 0) 26 false false,zug 28 (zmv 3) 26 false false,zug 29 (zia 28 27 28) 26 false false,zug 30 (zfa 45 29 2) 26 false false,zug 31 (zld 3 30) 26 false false,zug 32 (zcf 31 [Tm 31,Kn (-1000000),Kn 1000000] [3,3,3]) 26 false false,zug 33 (.unOp .not 4 (Tm 32)) 26 false false,zv 34 (.pick (Tm 26) (.const (.bool true)) (Tm 33))]
def zn30_17:=ZC.reg [zv 2 (.assign (.const (.bool false)))]
def zn30_16:=ZC.seq zn30_17 ZC.ret
def zn30_15:=ZC.cond (Tm 34) zn30_16 ZC.skip
def zn30_13:=ZC.seq zn30_14 zn30_15
def zn30_12:=ZC.block 1 zn30_13
def zn30_18:=ZC.reg [zu 8 (zmv 3),zu 9 (.binOp .add 3 (Tm 8) (Kn 1) 3),zv 3 (zas 9)]
def zn30_11:=ZC.seq zn30_12 zn30_18
def zn30_7:=ZC.seq zn30_8 zn30_11
def zn30_6:=ZC.loop zn30_7
def zn30_5:=ZC.block 0 zn30_6
def zn30_3:=ZC.seq zn30_4 zn30_5
def zn30_20:=ZC.reg [zu 35 (zmv 0),zu 36 (zcb .len [Tm 35] [28]),zu 37 (.binOp .leq 3 (Tm 36) (Kn 16) 3),zv 2 (zas 37)]
def zn30_19:=ZC.seq zn30_20 ZC.ret
def zn30_2:=ZC.seq zn30_3 zn30_19
def zn30_0:=ZC.seq zn30_1 zn30_2
def zc30: ZC:=zn30_0
theorem zc30_ok: zcode (xfOf Tryz.f33).code=some zc30:=by kernel_rfl
def zw30:=zU C zc30.eq_1<|zU C zn30_1.eq_1<|zU C zn30_4.eq_1<|zU C zn30_9.eq_1<|zU C zn30_10.eq_1<|zU C zn30_8.eq_1<|zU C zn30_14.eq_1<|zU C zn30_17.eq_1<|zU C zn30_16.eq_1<|zU C zn30_15.eq_1<|zU C zn30_13.eq_1<|zU C zn30_12.eq_1<|zU C zn30_18.eq_1<|zU C zn30_11.eq_1<|zU C zn30_7.eq_1<|zU C zn30_5.eq_1<|zU C zn30_3.eq_1<|zU C zn30_20.eq_1<|zU C zn30_19.eq_1<|zU C zn30_2.eq_1<|(zunf C zn30_0.eq_1)
theorem rs30: (xfOf Tryz.f33).rs=[.tmp 2]:=by kernel_rfl
theorem xf30: XFok C 33 (xfOf Tryz.f33):=by refine⟨Tryz.f33,?_,?_,?_,?_,?_,?_,?_⟩<;>kernel_rfl
def zn82_1:=ZC.reg [zv 4 (.assign (.const (.bool false)))]
def zn82_3:=ZC.reg [zu 5 (zmv 0),zu 6 (zmv 1),zu 7 (zcf 71 [Tm 5,Tm 6] [28,99]),zu 8 (.binOp .geq 3 (Tm 7) (Kn 0) 3),zv 4 (zas 8)]
def zn82_2:=ZC.seq zn82_3 ZC.ret
def zn82_0:=ZC.seq zn82_1 zn82_2
def zc82: ZC:=zn82_0
theorem zc82_ok: zcode (xfOf Tryz.f54).code=some zc82:=by kernel_rfl
def zw82:=zU C zc82.eq_1<|zU C zn82_1.eq_1<|zU C zn82_3.eq_1<|zU C zn82_2.eq_1<|(zunf C zn82_0.eq_1)
theorem rs82: (xfOf Tryz.f54).rs=[.tmp 4]:=by kernel_rfl
theorem xf82: XFok C 54 (xfOf Tryz.f54):=by refine⟨Tryz.f54,?_,?_,?_,?_,?_,?_,?_⟩<;>kernel_rfl
def zn83_1:=ZC.reg [zu 1 (.box 45 (Tm 0)),zv 2 (.assign (.const (.bool false)))]
def zn83_3:=ZC.reg [zu 3 (zfa 45 1 0),zu 4 (zld 3 3),zu 5 (zcf 56 [Tm 4,Kn 1,Kn 13] [3,3,3]),zu 6 (.unOp .not 4 (Tm 5)),zu 7 (zmv 6),zug 8 (zfa 45 1 1) 7 false false,zug 9 (zld 3 8) 7 false false,zug 10 (zcf 56 [Tm 9,Kn (-1000000),Kn 1000000] [3,3,3]) 7 false false,zug 11 (.unOp .not 4 (Tm 10)) 7 false false,zu 12 (.pick (Tm 7) (.const (.bool true)) (Tm 11)),zu 13 (zmv 12),zug 14 (zfa 45 1 2) 13 false false,zug 15 (zld 3 14) 13 false false,zug 16 (zcf 56 [Tm 15,Kn (-1000000),Kn 1000000] [3,3,3]) 13 false false,zug 17 (.unOp .not 4 (Tm 16)) 13 false false,zu 18 (.pick (Tm 13) (.const (.bool true)) (Tm 17)),zv 2 (zas 18)]
def zn83_2:=ZC.seq zn83_3 ZC.ret
def zn83_0:=ZC.seq zn83_1 zn83_2
def zc83: ZC:=zn83_0
theorem zc83_ok: zcode (xfOf Tryz.f55).code=some zc83:=by kernel_rfl
def zw83:=zU C zc83.eq_1<|zU C zn83_1.eq_1<|zU C zn83_3.eq_1<|zU C zn83_2.eq_1<|(zunf C zn83_0.eq_1)
theorem rs83: (xfOf Tryz.f55).rs=[.tmp 2]:=by kernel_rfl
theorem xf83: XFok C 55 (xfOf Tryz.f55):=by refine⟨Tryz.f55,?_,?_,?_,?_,?_,?_,?_⟩<;>kernel_rfl
def zn155_1:=ZC.reg [zv 4 (.assign (Kn 0))]
def zn155_4:=ZC.reg [zu 6 (zmv 0),zu 7 (zcb .len [Tm 6] [28]),zv 8 (.move (Kn 0))]
def zn155_8:=ZC.reg [zv 9 (.binOp .lss 3 (Tm 8) (Tm 7) 3)]
def zn155_10:=ZC.cond (Tm 9) ZC.skip (ZC.exit 0)
def zn155_14:=ZC.reg [zu 10 (zmv 8),zv 5 (zas 10)]
def zn155_16:=ZC.reg [zu 11 (zmv 1),zu 12 (zmv 0),zu 13 (zmv 5),zu 14 (zia 28 12 13),zu 15 (zld 45 14),⟨some 16,.call ⟨.value (Tm 11),⟨[Tm 15]⟩,⟨[45]⟩⟩,none,true⟩]
def zn155_19:=ZC.reg [zu 17 (zmv 5),zv 4 (zas 17)]
def zn155_18:=ZC.seq zn155_19 ZC.ret
def zn155_17:=ZC.cond (Tm 16) zn155_18 ZC.skip
def zn155_15:=ZC.seq zn155_16 zn155_17
def zn155_13:=ZC.seq zn155_14 zn155_15
def zn155_12:=ZC.block 1 zn155_13
def zn155_20:=ZC.reg [zu 18 (.binOp .add 3 (Tm 8) (Kn 1) 3),zv 8 (zmv 18)]
def zn155_11:=ZC.seq zn155_12 zn155_20
def zn155_9:=ZC.seq zn155_10 zn155_11
def V1b:=ZC.seq zn155_8 zn155_9
def zn155_6:=ZC.loop V1b
def zn155_5:=ZC.block 0 zn155_6
def zn155_3:=ZC.seq zn155_4 zn155_5
def zn155_22:=ZC.reg [zv 4 (.assign (Kn (-1)))]
def zn155_21:=ZC.seq zn155_22 ZC.ret
def zn155_2:=ZC.seq zn155_3 zn155_21
def zn155_0:=ZC.seq zn155_1 zn155_2
def zc155: ZC:=zn155_0
theorem zc155_ok: zcode (xfOf Tryz.f71).code=some zc155:=by kernel_rfl
def zw155:=zU C zc155.eq_1<|zU C zn155_1.eq_1<|zU C zn155_4.eq_1<|zU C zn155_8.eq_1<|zU C zn155_10.eq_1<|zU C zn155_14.eq_1<|zU C zn155_16.eq_1<|zU C zn155_19.eq_1<|zU C zn155_18.eq_1<|zU C zn155_17.eq_1<|zU C zn155_15.eq_1<|zU C zn155_13.eq_1<|zU C zn155_12.eq_1<|zU C zn155_20.eq_1<|zU C zn155_11.eq_1<|zU C zn155_9.eq_1<|zU C V1b.eq_1<|zU C zn155_5.eq_1<|zU C zn155_3.eq_1<|zU C zn155_22.eq_1<|zU C zn155_21.eq_1<|zU C zn155_2.eq_1<|(zunf C zn155_0.eq_1)
theorem rs155: (xfOf Tryz.f71).rs=[.tmp 4]:=by kernel_rfl
theorem xf155: XFok C 71 (xfOf Tryz.f71):=by refine⟨Tryz.f71,?_,?_,?_,?_,?_,?_,?_⟩<;>kernel_rfl
end Go.Proofs.YtpchcfkebljopaaGreat
end
section
namespace Go.Proofs.YtpchcfkebljopaaGreat
open Go.Cl Go Go.RowKit
abbrev w64(n:Int): Int:=IntKind.i64.wrap n
def brought(n lo hi:Int): Int:=max lo (min n hi)
def within(n lo hi:Int): Bool:=decide (lo<=n)&&decide (n<=hi)
theorem X0a{n lo hi:Int}(h:within n lo hi=true): lo<=n/\n<=hi:=by simpa[within]using h
abbrev Body:=Q0a
abbrev Mach:=Z0a
def Body.right(b:Q0a): Bool:=
 if b.Kind=0 then decide (b=Q0a.zero) else
 b.Mem.all (fun n=>within n (-1000000) 1000000)&&(decide (b.Kind=1) || decide (b.Kind=2))&&within b.Owner 0 7&&within b.X 0 4095&&within b.Y 0 4095&&within b.VX (-64) 64&&within b.VY (-64) 64&&within b.Age 0 600&&within b.Faults 0 65535
def bodyShoot(b:Q0a)(vx vy:Int): Q0a:=
 if Body.right b=true/\b.Kind≠0 then {Q0a.zero with Kind:=2,Owner:=b.Owner,X:=b.X,Y:=b.Y,VX:=brought vx (-64) 64,VY:=brought vy (-64) 64} else Q0a.zero
def fault(c at_:Int): CV:=.ifc 136 (Z0b.cv ⟨⟨c,at_⟩⟩)
def Mach.body(m:Z0a)(f:Q0a->Q0a): Z0a:={m with e_:={m.e_ with Body:=f m.e_.Body}}
def Mach.set(m:Z0a)(k:Nat)(n:Int): Z0a:=Mach.body m fun b=>b.put_7k k (brought n (-1000000) 1000000)
def Mach.reg(m:Z0a)(k:Nat): Int:=nth m.e_.Body.Mem k
def needA(c:Int): Bool:=!(decide (c=8) || decide (c=10) || decide (c=13))
def needB(c:Int): Bool:=!(decide (c=1) || decide (c=7) || decide (c=9) || decide (c=10) || decide (c=13))
def namedOk(o:K0c): Bool:=(!needA o.Code || within o.A 0 3)&&(!needB o.Code || within o.B 0 3)
theorem namedOk_A{o:K0c}(h:namedOk o=true): o.Code=8\/o.Code=10\/o.Code=13\/(0<=o.A/\o.A<4):=by
 simp[namedOk,needA,within]at h;omega
theorem namedOk_B{o:K0c}(h:namedOk o=true): o.Code=1\/o.Code=7\/o.Code=9\/o.Code=10\/o.Code=13\/(0<=o.B/\o.B<4):=by
 simp[namedOk,needB,within]at h;omega
def Mach.field(m:Z0a)(k:Nat): Int:=nth [m.e_.Body.X,m.e_.Body.Y,m.e_.Body.VX,m.e_.Body.VY,m.e_.Body.Age,m.e_.In.Buttons,m.e_.In.X,m.e_.In.Y] k
def Mach.put(m:Z0a)(k n:Int): Z0a:=Mach.body m fun b=>
 if k=0 then {b with X:=brought n 0 4095} else if k=1 then {b with Y:=brought n 0 4095} else if k=2 then {b with VX:=brought n (-64) 64} else {b with VY:=brought n (-64) 64}
def diceNext(d:Int): Int:=IntKind.u64.wrap (IntKind.u64.wrap (d*6364136223846793005)+1442695040888963407)
def diceNum(d:Int): Int:=IntKind.i64.wrap (d.fdiv (2^33))
def diceRoll(d n:Int): Int×Int:=if n<1 then(d,0) else(diceNext d,(diceNum (diceNext d)).tmod n)
def Mach.reckon(m:Z0a)(o:K0c): Except Int Z0a:=
 let a:=Mach.reg m o.A.toNat
 let b:=Mach.reg m o.B.toNat
 let k:=o.A.toNat
 if o.Code=2 then .ok (Mach.set m k b)
 else if o.Code=3 then .ok (Mach.set m k (w64 (a+b)))
 else if o.Code=4 then .ok (Mach.set m k (w64 (a-b)))
 else if o.Code=5 then .ok (Mach.set m k (w64 (a*b)))
 else if o.Code=6 then(if b=0 then .error 1 else .ok (Mach.set m k (w64 (a.tdiv b))))
 else if o.Code=11 then(if b<1 then .error 6 else .ok (Mach.set {m with e_:={m.e_ with Dice:=(diceRoll m.e_.Dice b).1}} k (diceRoll m.e_.Dice b).2))
 else(if(m.e_.Shots.l.length:Int)<m.e_.Room then .ok {m with e_:={m.e_ with Shots:=⟨.part,m.e_.Shots.l++[bodyShoot m.e_.Body a b],nofun⟩}} else .error 7)
theorem Mach.set_at(m:Z0a)(k:Nat)(n:Int): (Mach.set m k n).at_=m.at_:=nd rfl
theorem Mach.put_at(m:Z0a)(k n:Int): (Mach.put m k n).at_=m.at_:=nd rfl
theorem Mach.reckon_keeps{m m':Z0a}{o:K0c}(h:Mach.reckon m o=.ok m'): (m'.e_.Shots.tl=m.e_.Shots.tl\/m'.e_.Shots.tl=.part)/\m'.l_=m.l_/\m'.at_=m.at_/\m'.e_.Shots.l.length<=m.e_.Shots.l.length+1:=by
 unfold Mach.reckon at h
 simp only at h
 repeat'(split at h)
 all_goals first
  |(cases h;done)
  |(cases h;simp[Mach.set,Mach.body])
def Mach.doOp(m:Z0a)(o:K0c): Except Int (Z0a×Int):=
 if within o.Code 1 13=false then .error 4
 else if namedOk o=false then .error 2
 else if o.Code=1 then .ok (Mach.set m o.A.toNat o.B,m.at_+1)
 else if o.Code=7 then(if within o.B 0 7=false then .error 3 else .ok (Mach.set m o.A.toNat (Mach.field m o.B.toNat),m.at_+1))
 else if o.Code=8 then(if within o.A 0 3=false then .error 3 else .ok (Mach.put m o.A (Mach.reg m o.B.toNat),m.at_+1))
 else if o.Code=9 then(if Mach.reg m o.A.toNat=0 then(if within o.B 0 m.l_.l.length=false then .error 4 else .ok (m,o.B))else .ok (m,m.at_+1))
 else if o.Code=10 then(if within o.B 0 m.l_.l.length=false then .error 4 else .ok (m,o.B))
 else if o.Code=13 then .ok (m,m.l_.l.length)
 else match Mach.reckon m o with
  |.error c=>.error c
  |.ok m'=>.ok (m',m.at_+1)
theorem Mach.doOp_keeps{m m':Z0a}{o:K0c}{n:Int}(h:Mach.doOp m o=.ok (m',n))(h1:0<=m.at_)(h2:m.at_<m.l_.l.length): (m'.e_.Shots.tl=m.e_.Shots.tl\/m'.e_.Shots.tl=.part)/\m'.l_=m.l_/\m'.at_=m.at_/\m'.e_.Shots.l.length<=m.e_.Shots.l.length+1/\0<=n/\n<=m.l_.l.length:=by
 unfold Mach.doOp at h
 repeat'(split at h)
 all_goals first
  |(cases h;done)
  |(rename_i hr;cases h;have:=Mach.reckon_keeps hr;exact⟨this.1,this.2.1,this.2.2.1,this.2.2.2,by omega,by omega⟩)
  |(cases h;refine⟨.inl ?_,?_,?_,?_,?_,?_⟩<;>first|rfl|omega|(simp[Mach.set,Mach.put,Mach.body];done))
  |(rename_i hw;cases h;have hw:=X0a (by simpa using hw);exact⟨.inl rfl,rfl,rfl,by omega,hw.1,hw.2⟩)
def Mach.run: Nat->Z0a->Except (Int×Int) Z0a
 |k,m=>if m.at_<m.l_.l.length then
   match k with
   |0=>.error (5,m.at_)
   |k+1=>match Mach.doOp m (nth m.l_.l m.at_.toNat) with
    |.error c=>.error (c,m.at_)
    |.ok (m',n)=>Mach.run k {m' with at_:=n}
  else .ok m
theorem Mach.run_keeps: ∀(k:Nat) (m m':Z0a),Mach.run k m=.ok m'->0<=m.at_->(m'.e_.Shots.tl=m.e_.Shots.tl\/m'.e_.Shots.tl=.part)/\m'.l_=m.l_
 |k,m,m',h,ha=>by
  unfold Mach.run at h
  by_cases hlt:m.at_<m.l_.l.length
  ·rw[if_pos hlt]at h
   cases k with
   |zero=>cases h
   |succ k=>
    simp only at h
    cases hd:Mach.doOp m (nth m.l_.l m.at_.toNat) with
    |error c=>rw[hd]at h;cases h
    |ok r=>
     obtain⟨m2,n⟩:=r
     rw[hd]at h
     simp only at h
     obtain⟨k1,k2,_,_,k5,_⟩:=Mach.doOp_keeps hd ha hlt
     have ih:=Mach.run_keeps k _ m' h k5
     refine⟨?_,by rw[ih.2];exact k2⟩
     rcases ih.1 with e|e
     ·rw[e];exact k1
     ·exact .inr e
  ·rw[if_neg hlt]at h;cases h;exact⟨.inl rfl,rfl⟩
def cloneL{α:Type}(s:Lst α)(n:Nat): Lst α:=
 match s.tl with
 |.nil=>⟨.nil,[],fun _=>rfl⟩
 |_=>match s.l with
  |[]=>⟨.exact,[],nofun⟩
  |x::l=>⟨.own n,x::l,nofun⟩
def cloneP{α:Type}(s:Lst α): Lst α:=
 match s.tl with
 |.nil=>⟨.nil,[],fun _=>rfl⟩
 |_=>match s.l with
  |[]=>⟨.exact,[],nofun⟩
  |x::l=>⟨.part,x::l,nofun⟩
def cloneOwn{α:Type}(s:Lst α): Bool:=
 match s.tl with
 |.nil=>false
 |_=>!s.l.isEmpty
theorem appT_cl0{α:Type}(f:α->CV)(p:Hp)(s:Lst α)(n:Nat)(u:Tail)(x:α)(m:List α)(o:_)(h:cloneOwn s=false): appT f p (cloneL s n) ⟨u,x::m,o⟩=.ret (Lst.cv f ⟨.own p.n,s.l++x::m,nofun⟩) (p.new (.tail (s.l.length+(m.length+1)))):=by
 obtain⟨tl,l,o'⟩:=s
 cases tl<;>cases l<;>simp_all[cloneL,cloneOwn,appT]
theorem appT_cl1{α:Type}(f:α->CV)(p:Hp)(s:Lst α)(n:Nat)(u:Tail)(x:α)(m:List α)(o:_)(h:cloneOwn s=true)(hg:p.t.get n=some (.tail s.l.length)): appT f p (cloneL s n) ⟨u,x::m,o⟩=.ret (Lst.cv f ⟨.own p.n,s.l++x::m,nofun⟩) ((p.set n none).new (.tail (s.l.length+(m.length+1)))):=by
 obtain⟨tl,l,o'⟩:=s
 cases tl<;>cases l<;>simp_all[cloneL,cloneOwn,appT]
theorem K1w{α:Type}(s:Lst α)(n:Nat): (cloneL s n).l=s.l:=by
 obtain⟨tl,l,o⟩:=s
 cases tl<;>cases l<;>simp_all[cloneL]
theorem Y0y{α:Type}(s:Lst α): (cloneP s).l=s.l:=by
 obtain⟨tl,l,o⟩:=s
 cases tl<;>cases l<;>simp_all[cloneP]
theorem cloneP_tl{α:Type}(s:Lst α): (cloneP s).tl=.nil\/(cloneP s).tl=.exact\/(cloneP s).tl=.part:=by
 obtain⟨tl,l,o⟩:=s
 cases tl<;>cases l<;>simp_all[cloneP]
theorem cloneP_nv{α:Type}(s:Lst α): (cloneP s).tl≠.view:=by rcases cloneP_tl s with h|h|h<;>rw[h]<;>simp
theorem cloneP_no{α:Type}(s:Lst α)(j:Nat): (cloneP s).tl≠.own j:=by rcases cloneP_tl s with h|h|h<;>rw[h]<;>simp
theorem weak_clone{α:Type}{f:α->CV}(hf:∀x j,¬(f x).has j)(s:Lst α)(n k:Nat): CV.weak (fun k=>k) k (Lst.cv f (cloneL s n)) (Lst.cv f (cloneP s)):=by
 have hl:∀l:List α,CV.weakL (fun k=>k) k (l.map f) (l.map f):=fun l=>CV.weakL_refl _ fun j hj=>(X0n hf l j hj).elim
 obtain⟨tl,l,o⟩:=s
 cases tl<;>cases l<;>simp only[cloneL,cloneP,Lst.cv,CV.weak,Tail.weak,true_and]<;>exact hl _
def copiedE(e:Q0c): Q0c:={e with Shots:=cloneP e.Shots}
def ruleRun(l:Lst K0c)(e:Q0c): Q0c×X0c×Bool:=
 if Body.right e.Body=false\/e.Body.Kind=0 then(copiedE e,⟨0,0⟩,false)
 else match Mach.run 64 ⟨copiedE e,l,0⟩ with
  |.ok m=>(m.e_,⟨0,0⟩,true)
  |.error c=>(copiedE e,⟨c.1,c.2⟩,false)
end Go.Proofs.YtpchcfkebljopaaGreat
end
section
namespace Go.Proofs.YtpchcfkebljopaaGreat
open Go.Cl Go Go.RowKit
set_option maxRecDepth 100000
set_option linter.constructorNameAsVariable false
def R201: Rel:=fun args p r=>∃(n lo hi:Int),args=[I n,I lo,I hi]/\r=.ret (I (brought n lo hi)) p
theorem t201{T:XCall}(h:Has T 100 R201)(n lo hi:Int){p:Hp}:T 100 [I n,I lo,I hi] p=.ret (I (brought n lo hi)) p:=h _ _ _ ⟨n,lo,hi,rfl,rfl⟩
theorem zq201{A B:Prop}(k:B)(h:A=B:=by have zy:=zA @zw201<|zA @rs201<|zA @tt3<|ti3.eq_1;exact zQ): A:=h▸k
theorem c201: Con C 100 R201:=by
 refine K0e C ?_ ?_ ?_
 ·rintro args p r r' ⟨n,lo,hi,h,e⟩ ⟨n',lo',hi',h',e'⟩
  subst e;subst e';simp_all
 ·rintro args p r ⟨n,lo,hi,h,rfl⟩;exact zr1
 ·rintro args p r ⟨n,lo,hi,rfl,rfl⟩
  refine zW C false [] zT rfl xf201 zc201_ok fun call zh hF=>?_
  clear zh
  (have zx:=zT;refine zq201 ?_;clear zx;try exact zT)
  exact K0d hF (fun _ _ h=>h) (weak_I _ _)
def R140: Rel:=fun args p r=>∃(n lo hi:Int),args=[I n,I lo,I hi]/\r=.ret (I (brought n lo hi)) p
theorem t140{T:XCall}(h:Has T 58 R140)(n lo hi:Int){p:Hp}:T 58 [I n,I lo,I hi] p=.ret (I (brought n lo hi)) p:=h _ _ _ ⟨n,lo,hi,rfl,rfl⟩
theorem zq140{A B:Prop}(k:B)(h:A=B:=by have zy:=zA @zw140<|zA @rs140<|zA @tt3<|ti3.eq_1;exact zQ): A:=h▸k
theorem c140: Con C 58 R140:=by
 refine K0e C ?_ ?_ ?_
 ·rintro args p r r' ⟨n,lo,hi,h,e⟩ ⟨n',lo',hi',h',e'⟩
  subst e;subst e';simp_all
 ·rintro args p r ⟨n,lo,hi,h,rfl⟩;exact zr1
 ·rintro args p r ⟨n,lo,hi,rfl,rfl⟩
  refine zW C false [] zT rfl xf140 zc140_ok fun call zh hF=>?_
  clear zh
  (have zx:=zT;refine zq140 ?_;clear zx;try exact zT)
  exact K0d hF (fun _ _ h=>h) (weak_I _ _)
def R80: Rel:=fun args p r=>∃(n lo hi:Int),args=[I n,I lo,I hi]/\r=.ret (I (brought n lo hi)) p
theorem t80{T:XCall}(h:Has T 59 R80)(n lo hi:Int){p:Hp}:T 59 [I n,I lo,I hi] p=.ret (I (brought n lo hi)) p:=h _ _ _ ⟨n,lo,hi,rfl,rfl⟩
theorem zq80{A B:Prop}(k:B)(h:A=B:=by have zy:=zA @zw80<|zA @rs80<|zA @tt3<|ti3.eq_1;exact zQ): A:=h▸k
theorem c80: Con C 59 R80:=by
 refine K0e C ?_ ?_ ?_
 ·rintro args p r r' ⟨n,lo,hi,h,e⟩ ⟨n',lo',hi',h',e'⟩
  subst e;subst e';simp_all
 ·rintro args p r ⟨n,lo,hi,h,rfl⟩;exact zr1
 ·rintro args p r ⟨n,lo,hi,rfl,rfl⟩
  refine zW C false [] zT rfl xf80 zc80_ok fun call zh hF=>?_
  clear zh
  (have zx:=zT;refine zq80 ?_;clear zx;try exact zT)
  refine K0d hF (fun _ _ h=>h) (Y0c ?_ (Z0c (I_has _)))
  simp[brought,Int.min_comm]
def R84: Rel:=fun args p r=>∃(n lo hi:Int),args=[I n,I lo,I hi]/\r=.ret (Bo (within n lo hi)) p
theorem t84{T:XCall}(h:Has T 56 R84)(n lo hi:Int){p:Hp}:T 56 [I n,I lo,I hi] p=.ret (Bo (within n lo hi)) p:=h _ _ _ ⟨n,lo,hi,rfl,rfl⟩
theorem zq84{A B:Prop}(k:B)(h:A=B:=by have zy:=zA @zw84<|zA @rs84<|zA @tt3<|ti3.eq_1;exact zQ): A:=h▸k
theorem c84: Con C 56 R84:=by
 refine K0e C ?_ ?_ ?_
 ·rintro args p r r' ⟨n,lo,hi,h,e⟩ ⟨n',lo',hi',h',e'⟩
  subst e;subst e';simp_all
 ·rintro args p r ⟨n,lo,hi,h,rfl⟩;exact zr1
 ·rintro args p r ⟨n,lo,hi,rfl,rfl⟩
  refine zW C false [] zT rfl xf84 zc84_ok fun call zh hF=>?_
  clear zh
  (have zx:=zT;refine zq84 ?_;try exact zT)
  repeat'(apply zK.s<;>intro hc<;>(try simp only[zhd]at hc)<;>(try have hw:=X0a hc)<;>(refine zq84 ?_;try exact zT))
  all_goals(try clear zx)
  all_goals(refine K0d hF (fun _ _ h=>h) (Y0c ?_ (Z0c (Bo_has _))))
  all_goals simp[within];try omega
def R71: Rel:=fun args p r=>∃(n lo hi:Int),args=[I n,I lo,I hi]/\r=.ret (Bo (within n lo hi)) p
theorem t71{T:XCall}(h:Has T 72 R71)(n lo hi:Int){p:Hp}:T 72 [I n,I lo,I hi] p=.ret (Bo (within n lo hi)) p:=h _ _ _ ⟨n,lo,hi,rfl,rfl⟩
theorem zq71{A B:Prop}(k:B)(h:A=B:=by have zy:=zA @zw71<|zA @rs71<|zA @tt3<|ti3.eq_1;exact zQ): A:=h▸k
theorem c71: Con C 72 R71:=by
 refine K0e C ?_ ?_ ?_
 ·rintro args p r r' ⟨n,lo,hi,h,e⟩ ⟨n',lo',hi',h',e'⟩
  subst e;subst e';simp_all
 ·rintro args p r ⟨n,lo,hi,h,rfl⟩;exact zr1
 ·rintro args p r ⟨n,lo,hi,rfl,rfl⟩
  refine zW C false [] zT rfl xf71 zc71_ok fun call zh hF=>?_
  clear zh
  (have zx:=zT;refine zq71 ?_;try exact zT)
  repeat'(apply zK.s<;>intro hc<;>(try simp only[zhd]at hc)<;>(try have hw:=X0a hc)<;>(refine zq71 ?_;try exact zT))
  all_goals(try clear zx)
  all_goals(refine K0d hF (fun _ _ h=>h) (Y0c ?_ (Z0c (Bo_has _))))
  all_goals simp[within];try omega
def R85: Rel:=fun args p r=>∃(n lo hi:Int),args=[I n,I lo,I hi]/\r=.ret (Bo (within n lo hi)) p
theorem t85{T:XCall}(h:Has T 31 R85)(n lo hi:Int){p:Hp}:T 31 [I n,I lo,I hi] p=.ret (Bo (within n lo hi)) p:=h _ _ _ ⟨n,lo,hi,rfl,rfl⟩
theorem zq85{A B:Prop}(k:B)(h:A=B:=by have zy:=zA @zw85<|zA @rs85<|zA @tt3<|ti3.eq_1;exact zQ): A:=h▸k
theorem c85: Con C 31 R85:=by
 refine K0e C ?_ ?_ ?_
 ·rintro args p r r' ⟨n,lo,hi,h,e⟩ ⟨n',lo',hi',h',e'⟩
  subst e;subst e';simp_all
 ·rintro args p r ⟨n,lo,hi,h,rfl⟩;exact zr1
 ·rintro args p r ⟨n,lo,hi,rfl,rfl⟩
  refine zW C false [] zT rfl xf85 zc85_ok fun call zh hF=>?_
  clear zh
  (have zx:=zT;refine zq85 ?_;try exact zT)
  repeat'(apply zK.s<;>intro hc<;>(try simp only[zhd]at hc)<;>(try have hw:=X0a hc)<;>(refine zq85 ?_;try exact zT))
  all_goals(try clear zx)
  all_goals(refine K0d hF (fun _ _ h=>h) (Y0c ?_ (Z0c (Bo_has _))))
  all_goals simp[within];try omega
def R200: Rel:=fun args p r=>∃(c a:Int),args=[I c,I a]/\r=.pan (fault c a) p
theorem t200{T:XCall}(h:Has T 99 R200)(c a:Int){p:Hp}:T 99 [I c,I a] p=.pan (fault c a) p:=h _ _ _ ⟨c,a,rfl,rfl⟩
theorem zq200{A B:Prop}(k:B)(h:A=B:=by have zy:=zA @zw200<|zA @rs200<|zA @tt44<|zA @tt194<|zA ti44.eq_1<|zA ti194.eq_1<|zA @Q0q<|@Q0z;exact zQ): A:=h▸k
theorem c200: Con C 99 R200:=by
 refine K0e C ?_ ?_ ?_
 ·rintro args p r r' ⟨c,a,h,e⟩ ⟨c',a',h',e'⟩
  subst e;subst e';simp_all[X0c.inj_iff,Z0b.inj_iff]
 ·rintro args p r ⟨c,a,h,rfl⟩;exact zr1
 ·rintro args p r ⟨c,a,rfl,rfl⟩
  refine zW C false [] zT rfl xf200 zc200_ok fun call zh hF=>?_
  clear zh
  (have zx:=zT;refine zq200 ?_;clear zx;try exact zT)
  exact X0k hF (fun _ _ h=>h) (Y0d (Z0c (by simp[CV.has,fault,Z0b.nohas])))
def R181: Rel:=fun args p r=>∃(ok:Bool) (c a:Int),args=[Bo ok,I c,I a]/\r=(if ok=true then .ret (.tup []) p else .pan (fault c a) p)
theorem t181{T:XCall}(h:Has T 91 R181)(ok:Bool)(c a:Int){p:Hp}:T 91 [Bo ok,I c,I a] p=(if ok=true then .ret (.tup []) p else .pan (fault c a) p):=h _ _ _ ⟨ok,c,a,rfl,rfl⟩
theorem zq181{A B:Prop}(k:B)(h:A=B:=by have zy:=zA @zw181<|zA @rs181<|@t_200;exact zQ): A:=h▸k
theorem c181: Con C 91 R181:=by
 refine K0e C ?_ ?_ ?_
 ·rintro args p r r' ⟨ok,c,a,h,e⟩ ⟨ok',c',a',h',e'⟩
  subst e;subst e';simp_all
 ·rintro args p r ⟨ok,c,a,h,rfl⟩;exact zr1
 ·rintro args p r ⟨ok,c,a,rfl,rfl⟩
  refine zW C false [(99,R200)] ⟨c200,zT⟩ rfl xf181 zc181_ok fun call zh hF=>?_
  have t_200:=@t200 _ zh.1
  clear zh
  (have zx:=zT;refine zq181 ?_;try exact zT)
  repeat'(apply zK.s<;>intro hc<;>(try simp only[zhd]at hc)<;>(try have hw:=X0a hc)<;>(refine zq181 ?_;try exact zT))
  all_goals(try clear zx)
  ·exact K0d hF zle (Y0d (Z0c V1i))
  ·exact X0k hF zle (Y0d (Z0c (by simp[CV.has,fault,Z0b.nohas])))
def R150: Rel:=fun args p r=>∃(i:Nat) (m:Z0a) (ok:Bool) (c:Int),args=[.ptr i [],Bo ok,I c]/\(p.t.get i=some (.var sh131 m.cv))/\r=(if ok=true then .ret (.tup []) p else .pan (fault c m.at_) p)
theorem t150{T:XCall}(h:Has T 89 R150)(i:Nat)(m:Z0a)(ok:Bool)(c:Int){p:Hp}(h1:p.t.get i=some (.var sh131 m.cv)): T 89 [.ptr i [],Bo ok,I c] p=(if ok=true then .ret (.tup []) p else .pan (fault c m.at_) p):=h _ _ _ ⟨i,m,ok,c,rfl,h1,rfl⟩
theorem zq150{A B:Prop}(k:B)(h:A=B:=by have zy:=zA @zw150<|zA @rs150<|zA @tt3<|zA @tt131<|zA ti3.eq_1<|zA ti131.eq_1<|zA @t_181<|zA @K0f<|@h1;exact zQ): A:=h▸k
theorem c150: Con C 89 R150:=by
 refine K0e C ?_ ?_ ?_
 ·rintro args p r r' ⟨i,m,ok,c,h,h1,e⟩ ⟨i',m',ok',c',h',h1',e'⟩
  subst e;subst e';simp_all[Z0a.inj_iff]
 ·rintro args p r ⟨i,m,ok,c,h,h1,rfl⟩;exact zr1
 ·rintro args p r ⟨i,m,ok,c,rfl,h1,rfl⟩
  refine zW C false [(91,R181)] ⟨c181,zT⟩ rfl xf150 zc150_ok fun call zh hF=>?_
  have t_181:=@t181 _ zh.1
  clear zh
  have hd_h1:=hF.dom _ _ h1
  (have zx:=h1;refine zq150 ?_;try exact zT)
  repeat'(apply zK.s<;>intro hc<;>(try simp only[zhd]at hc)<;>(try have hw:=X0a hc)<;>(refine zq150 ?_;try exact zT))
  all_goals(try clear zx)
  ·exact K0d hF zle (Y0d (Z0c V1i))
  ·exact X0k hF zle (Y0d (Z0c (by simp[CV.has,fault,Z0b.nohas])))
def R183: Rel:=fun args p r=>∃(i:Nat) (m:Z0a) (k n:Int),args=[.ptr i [],I k,I n]/\(p.t.get i=some (.var sh131 m.cv))/\(0<=k)/\(k<4)/\r=.ret (.tup []) (p.set i (some (.var sh131 (Mach.set m k.toNat n).cv)))
theorem t183{T:XCall}(h:Has T 93 R183)(i:Nat)(m:Z0a)(k n:Int){p:Hp}(h1:p.t.get i=some (.var sh131 m.cv))(h2:0<=k)(h3:k<4): T 93 [.ptr i [],I k,I n] p=.ret (.tup []) (p.set i (some (.var sh131 (Mach.set m k.toNat n).cv))):=h _ _ _ ⟨i,m,k,n,rfl,h1,h2,h3,rfl⟩
theorem zq183{A B:Prop}(k:B)(h:A=B:=by have zy:=zA @zw183<|zA @rs183<|zA @tt3<|zA @tt32<|zA @tt34<|zA @tt39<|zA @tt131<|zA ti3.eq_1<|zA ti32.eq_1<|zA ti34.eq_1<|zA ti39.eq_1<|zA ti131.eq_1<|zA @t_201<|zA @K0f<|zA @X0j<|zA @Q0e<|zA @zsl32<|zA @h1<|zA @h2<|@h3;exact zQ): A:=h▸k
theorem c183: Con C 93 R183:=by
 refine K0e C ?_ ?_ ?_
 ·rintro args p r r' ⟨i,m,k,n,h,h1,h2,h3,e⟩ ⟨i',m',k',n',h',h1',h2',h3',e'⟩
  subst e;subst e';simp_all[Z0a.inj_iff,Q0c.inj_iff,Q0a.inj_iff]
 ·rintro args p r ⟨i,m,k,n,h,h1,h2,h3,rfl⟩;exact zr1
 ·rintro args p r ⟨i,m,k,n,rfl,h1,h2,h3,rfl⟩
  refine zW C false [(100,R201)] ⟨c201,zT⟩ rfl xf183 zc183_ok fun call zh hF=>?_
  have t_201:=@t201 _ zh.1
  clear zh
  have hd_h1:=hF.dom _ _ h1
  (have zx:=h1;refine zq183 ?_;try exact zT)
  repeat'(apply zK.s<;>intro hc<;>(try simp only[zhd]at hc)<;>(try have hw:=X0a hc)<;>(refine zq183 ?_;try exact zT))
  all_goals(try clear zx)
  refine Y0k hF (hF.dom _ _ h1) zlm ⟨_,Hp.get_set_self _ _ _,Y0j rfl (fun j hj=>hF.lt_obj (.arg (a:=CV.ptr i []) (by simp) rfl) h1 j ?_)⟩ (Y0d (Z0c (by simp[CV.has,CV.hasL])))
  simpa[XObj.has,Z0a.has,Q0c.has,Mach.set,Mach.body]using hj
def R186: Rel:=fun args p r=>∃(i:Nat) (m:Z0a) (k:Int),args=[.ptr i [],I k]/\(p.t.get i=some (.var sh131 m.cv))/\(0<=k)/\(k<4)/\r=.ret (I (Mach.reg m k.toNat)) p
theorem t186{T:XCall}(h:Has T 96 R186)(i:Nat)(m:Z0a)(k:Int){p:Hp}(h1:p.t.get i=some (.var sh131 m.cv))(h2:0<=k)(h3:k<4): T 96 [.ptr i [],I k] p=.ret (I (Mach.reg m k.toNat)) p:=h _ _ _ ⟨i,m,k,rfl,h1,h2,h3,rfl⟩
theorem zq186{A B:Prop}(k:B)(h:A=B:=by have zy:=zA @zw186<|zA @rs186<|zA @tt3<|zA @tt32<|zA @tt34<|zA @tt39<|zA @tt131<|zA ti3.eq_1<|zA ti32.eq_1<|zA ti34.eq_1<|zA ti39.eq_1<|zA ti131.eq_1<|zA @K0f<|zA @X0j<|zA @Q0e<|zA @zsl32<|zA @h1<|zA @h2<|@h3;exact zQ): A:=h▸k
theorem c186: Con C 96 R186:=by
 refine K0e C ?_ ?_ ?_
 ·rintro args p r r' ⟨i,m,k,h,h1,h2,h3,e⟩ ⟨i',m',k',h',h1',h2',h3',e'⟩
  subst e;subst e';simp_all[Z0a.inj_iff,Q0c.inj_iff,Q0a.inj_iff]
 ·rintro args p r ⟨i,m,k,h,h1,h2,h3,rfl⟩;exact zr1
 ·rintro args p r ⟨i,m,k,rfl,h1,h2,h3,rfl⟩
  refine zW C false [] zT rfl xf186 zc186_ok fun call zh hF=>?_
  clear zh
  have hd_h1:=hF.dom _ _ h1
  (have zx:=h1;refine zq186 ?_;try exact zT)
  repeat'(apply zK.s<;>intro hc<;>(try simp only[zhd]at hc)<;>(try have hw:=X0a hc)<;>(refine zq186 ?_;try exact zT))
  all_goals(try clear zx)
  exact K0d hF zle (weak_I _ _)
def R187: Rel:=fun args p r=>∃(i:Nat) (m:Z0a) (k:Int),args=[.ptr i [],I k]/\(p.t.get i=some (.var sh131 m.cv))/\r=(if within k 0 m.l_.l.length=true then .ret (I k) p else .pan (fault 4 m.at_) p)
theorem t187{T:XCall}(h:Has T 97 R187)(i:Nat)(m:Z0a)(k:Int){p:Hp}(h1:p.t.get i=some (.var sh131 m.cv)): T 97 [.ptr i [],I k] p=(if within k 0 m.l_.l.length=true then .ret (I k) p else .pan (fault 4 m.at_) p):=h _ _ _ ⟨i,m,k,rfl,h1,rfl⟩
theorem zq187{A B:Prop}(k:B)(h:A=B:=by have zy:=zA @zw187<|zA @rs187<|zA @tt23<|zA @tt131<|zA ti23.eq_1<|zA ti131.eq_1<|zA @t_84<|zA @t_150<|zA @K0f<|zA @zsl23<|@h1;exact zQ): A:=h▸k
theorem zno187{P:Prop}(h:P:=by intro jj;simp[CV.has,CV.hasL,fault,Z0b.nohas]): P:=h
theorem c187: Con C 97 R187:=by
 refine K0e C ?_ ?_ ?_
 ·rintro args p r r' ⟨i,m,k,h,h1,e⟩ ⟨i',m',k',h',h1',e'⟩
  subst e;subst e';simp_all[Z0a.inj_iff,V0i]
 ·rintro args p r ⟨i,m,k,h,h1,rfl⟩;exact zr1
 ·rintro args p r ⟨i,m,k,rfl,h1,rfl⟩
  refine zW C false [(56,R84),(89,R150)] ⟨c84,c150,zT⟩ rfl xf187 zc187_ok fun call zh hF=>?_
  have t_84:=@t84 _ zh.1
  have t_150:=@t150 _ zh.2.1
  clear zh
  have hd_h1:=hF.dom _ _ h1
  (have zx:=h1;refine zq187 ?_;try exact zT)
  repeat'(apply zK.s<;>intro hc<;>(try simp only[zhd]at hc)<;>(try have hw:=X0a hc)<;>(refine zq187 ?_;try exact zT))
  all_goals(try clear zx)
  all_goals(first|exact K0d hF zle (Y0d (Z0c zno187))|exact X0k hF zle (Y0d (Z0c zno187)))
def R24: Rel:=fun args p r=>∃(b:Q0a),args=[b.cv]/\r=.ret (Bo (Body.right b)) p
theorem t24{T:XCall}(h:Has T 57 R24)(b:Q0a){p:Hp}:T 57 [b.cv] p=.ret (Bo (Body.right b)) p:=h _ _ _ ⟨b,rfl,rfl⟩
theorem zq24{A B:Prop}(k:B)(h:A=B:=by have zy:=zA @zw24<|zA @rs24<|zA @tt3<|zA @tt32<|zA @tt34<|zA ti3.eq_1<|zA ti32.eq_1<|zA ti34.eq_1<|zA @t_71<|zA @Q0e<|@zsl32;exact zQ): A:=h▸k
theorem zno24{P:Prop}(h:P:=by intro jj;simp[CV.has,CV.hasL,fault,Z0b.nohas,Q0a.nohas]): P:=h
theorem c24: Con C 57 R24:=by
 refine K0e C ?_ ?_ ?_
 ·rintro args p r r' ⟨b,h,e⟩ ⟨b',h',e'⟩
  subst e;subst e';simp_all[Q0a.inj_iff]
 ·rintro args p r ⟨b,h,rfl⟩;exact zr1
 ·rintro args p r ⟨b,rfl,rfl⟩
  refine zW C false [(72,R71)] ⟨c71,zT⟩ rfl xf24 zc24_ok fun call zh hF=>?_
  have t_71:=@t71 _ zh.1
  clear zh
  have hm:=b.hMem
  (have zx:=zT;refine zq24 ?_;try exact zT)
  repeat'(apply zK.s<;>intro hc<;>(try simp only[zhd]at hc)<;>(try have hw:=X0a hc)<;>(refine zq24 ?_;try exact zT))
  all_goals(try clear zx)
  ·refine K0d hF zle (Y0c ?_ (Z0c zno24))
   simp only[Body.right,hc,if_true]
   rfl
  refine⟨5,?_⟩
  simp only[Wn_succ]
  (have zx:=zT;refine zq24 ?_;try exact zT)
  repeat'(apply zK.s<;>intro hc<;>(try simp only[zhd]at hc)<;>(try have hw:=X0a hc)<;>(refine zq24 ?_;try exact zT))
  all_goals(try clear zx)
  all_goals(refine K0d hF zle (Y0c ?_ (Z0c zno24)))
  all_goals simp[Body.right,all_nth4 hm, *]
end Go.Proofs.YtpchcfkebljopaaGreat
end
section
namespace Go.Proofs.YtpchcfkebljopaaGreat
open Go.Cl Go Go.RowKit
def pick(n m:Int): Int:=if n.tmod m<0 then n.tmod m+m else n.tmod m
theorem Z0e{n m:Int}(h:0<m): 0<=pick n m/\pick n m<m:=by
 unfold pick
 have h1:=Int.tmod_lt_of_pos n h
 have h2:-m<n.tmod m:=by
  have:=Int.lt_tmod_of_pos n h
  omega
 split<;>omega
def bodyBorn(owner players:Int): Q0a:=
 {Q0a.zero with Kind:=1,Owner:=brought owner 0 (brought players 1 8-1),X:=w64 (((2*brought owner 0 (brought players 1 8-1)+1)*4096).tdiv (2*brought players 1 8)),Y:=2048}
def handInput(n m:Int): K0b:=⟨pick n 256,w64 (pick m 129-64),w64 (pick (w64 (m.tdiv 129)) 129-64)⟩
def handOp(x:V0b): K0c:=
 let c:=w64 (1+pick x.Code 13)
 let b:=if c=1 then w64 (pick x.B 90-30)else if c=7 then pick x.B 8 else if c=9\/c=10 then pick x.B 9 else pick x.B 4
 let k:=pick x.Code 101
 if k=97 then⟨c,x.A,b⟩else if k=98 then⟨c,pick x.A 4,x.B⟩else if k=99 then⟨x.B,pick x.A 4,b⟩else if k=100 then⟨c,pick x.A 9,b⟩ else⟨c,pick x.A 4,b⟩
def memVal(v:Int): Int:=if v.tmod 9=8 then w64 (pick v 2000001-1000000)else w64 (pick v 41-20)
def memN(l:List Int): Nat->Q0a->Q0a
 |0,b=>b
 |k+1,b=>(memN l k b).put_7k k (memVal (nth l k))
def env0: Q0c:={Q0c.zero with Body:=bodyBorn 0 1,In:=⟨3,-64,7⟩,Dice:=5,Room:=2}
theorem Y0e{n lo hi:Int}(h:lo<=hi): lo<=brought n lo hi/\brought n lo hi<=hi:=by unfold brought;omega
theorem Q0h{b:Q0a}(h:b.Kind≠0): Body.right b=true ↔ (∀n∈b.Mem,-1000000<=n/\n<=1000000)/\(b.Kind=1\/b.Kind=2)/\(0<=b.Owner/\b.Owner<=7)/\(0<=b.X/\b.X<=4095)/\(0<=b.Y/\b.Y<=4095)/\(-64<=b.VX/\b.VX<=64)/\(-64<=b.VY/\b.VY<=64)/\(0<=b.Age/\b.Age<=600)/\(0<=b.Faults/\b.Faults<=65535):=by
 unfold Body.right
 rw[if_neg h]
 simp[within,and_assoc]
theorem right_shoot{b:Q0a}(h:Body.right b=true)(hk:b.Kind≠0)(vx vy:Int): Body.right (bodyShoot b vx vy)=true/\(bodyShoot b vx vy).Kind=2/\(bodyShoot b vx vy).Owner=b.Owner:=by
 have r:=(Q0h hk).1 h
 have h1:=Y0e (n:=vx) (lo:=-64) (hi:=64) (by omega)
 have h2:=Y0e (n:=vy) (lo:=-64) (hi:=64) (by omega)
 unfold bodyShoot
 rw[if_pos ⟨h,hk⟩]
 refine⟨(Q0h (by simp)).2 ⟨?_,.inr rfl,r.2.2.1,r.2.2.2.1,r.2.2.2.2.1,h1,h2,by simp[Q0a.zero],by simp[Q0a.zero]⟩,rfl,rfl⟩
 intro n hn
 have:n=0:=by simpa[Q0a.zero]using hn
 omega
theorem right_put7{b:Q0a}(h:Body.right b=true)(hk:b.Kind≠0)(k:Nat)(n:Int)(hn:-1000000<=n/\n<=1000000): Body.right (b.put_7k k n)=true:=by
 have r:=(Q0h hk).1 h
 refine(Q0h (b:=b.put_7k k n) hk).2 ⟨?_,r.2⟩
 intro x hx
 rcases List.mem_or_eq_of_mem_set hx with h|h
 ·exact r.1 x h
 ·rw[h];exact hn
structure InvE(e g:Q0c): Prop where
 right:Body.right g.Body=true
 kind:g.Body.Kind=e.Body.Kind
 owner:g.Body.Owner=e.Body.Owner
 age:g.Body.Age=e.Body.Age
 faults:g.Body.Faults=e.Body.Faults
 inp:g.In=e.In
 room:g.Room=e.Room
 len:(g.Shots.l.length:Int)<=e.Room
 shots:∀s∈g.Shots.l,Body.right s=true/\s.Kind=2/\s.Owner=e.Body.Owner
theorem InvE.set{e:Q0c}{m:Z0a}(h:InvE e m.e_)(hk:e.Body.Kind≠0)(k:Nat)(n:Int): InvE e (Mach.set m k n).e_:=
 ⟨right_put7 h.right (by rw[h.kind];exact hk) k _ (Y0e (by omega)),h.kind,h.owner,h.age,h.faults,h.inp,h.room,h.len,h.shots⟩
theorem InvE.put{e:Q0c}{m:Z0a}(h:InvE e m.e_)(hk:e.Body.Kind≠0)(k n:Int): InvE e (Mach.put m k n).e_:=by
 have hk':m.e_.Body.Kind≠0:=by rw[h.kind];exact hk
 have r:=(Q0h hk').1 h.right
 have h1:=Y0e (n:=n) (lo:=0) (hi:=4095) (by omega)
 have h2:=Y0e (n:=n) (lo:=-64) (hi:=64) (by omega)
 obtain⟨r1,r2,r3,r4,r5,r6,r7,r8,r9⟩:=r
 unfold Mach.put Mach.body
 simp only
 split
 ·exact⟨(Q0h (by exact hk')).2 ⟨r1,r2,r3,h1,r5,r6,r7,r8,r9⟩,h.kind,h.owner,h.age,h.faults,h.inp,h.room,h.len,h.shots⟩
 split
 ·exact⟨(Q0h (by exact hk')).2 ⟨r1,r2,r3,r4,h1,r6,r7,r8,r9⟩,h.kind,h.owner,h.age,h.faults,h.inp,h.room,h.len,h.shots⟩
 split
 ·exact⟨(Q0h (by exact hk')).2 ⟨r1,r2,r3,r4,r5,h2,r7,r8,r9⟩,h.kind,h.owner,h.age,h.faults,h.inp,h.room,h.len,h.shots⟩
 ·exact⟨(Q0h (by exact hk')).2 ⟨r1,r2,r3,r4,r5,r6,h2,r8,r9⟩,h.kind,h.owner,h.age,h.faults,h.inp,h.room,h.len,h.shots⟩
theorem InvE.shoot{e:Q0c}{m:Z0a}(h:InvE e m.e_)(hk:e.Body.Kind≠0)(a b:Int)(hlt:(m.e_.Shots.l.length:Int)<m.e_.Room): InvE e {m.e_ with Shots:=⟨.part,m.e_.Shots.l++[bodyShoot m.e_.Body a b],nofun⟩}:=by
 have hs:=right_shoot h.right (by rw[h.kind];exact hk) a b
 refine⟨h.right,h.kind,h.owner,h.age,h.faults,h.inp,h.room,?_,?_⟩
 ·have:=h.room
  simp only[List.length_append,List.length_cons,List.length_nil]
  omega
 ·intro s hs'
  rcases List.mem_append.1 hs' with h'|h'
  ·exact h.shots s h'
  ·have:s=bodyShoot m.e_.Body a b:=by simpa using h'
   rw[this]
   exact⟨hs.1,hs.2.1,by rw[hs.2.2];exact h.owner⟩
theorem InvE.dice{e:Q0c}{m:Z0a}(h:InvE e m.e_)(d:Int): InvE e ({m with e_:={m.e_ with Dice:=d}}:Z0a).e_:=⟨h.right,h.kind,h.owner,h.age,h.faults,h.inp,h.room,h.len,h.shots⟩
theorem reckon_inv{e:Q0c}{m m':Z0a}(h:InvE e m.e_)(hk:e.Body.Kind≠0){o:K0c}(hr:Mach.reckon m o=.ok m'): InvE e m'.e_:=by
 unfold Mach.reckon at hr
 simp only at hr
 repeat'(split at hr)
 all_goals first
  |(cases hr;done)
  |(cases hr;exact h.set hk _ _)
  |(cases hr;exact InvE.set (h.dice _) hk _ _)
  |(rename_i hlt;cases hr;exact h.shoot hk _ _ hlt)
theorem reckon_err{m:Z0a}{o:K0c}{c:Int}(hr:Mach.reckon m o=.error c): 1<=c/\c<=7:=by
 unfold Mach.reckon at hr
 simp only at hr
 repeat'(split at hr)
 all_goals first
  |(cases hr;done)
  |(cases hr;omega)
theorem doOp_inv{e:Q0c}{m:Z0a}{r:Z0a×Int}(h:InvE e m.e_)(hk:e.Body.Kind≠0){o:K0c}(hr:Mach.doOp m o=.ok r): InvE e r.1.e_:=by
 unfold Mach.doOp at hr
 repeat'(split at hr)
 all_goals first
  |(cases hr;done)
  |(cases hr;exact h.set hk _ _)
  |(cases hr;exact h.put hk _ _)
  |(cases hr;exact h)
  |(rename_i hq;cases hr;exact reckon_inv h hk hq)
theorem doOp_err{m:Z0a}{o:K0c}{c:Int}(hr:Mach.doOp m o=.error c): 1<=c/\c<=7:=by
 unfold Mach.doOp at hr
 repeat'(split at hr)
 all_goals first
  |(cases hr;done)
  |(cases hr;omega)
  |(rename_i hq;cases hr;exact reckon_err hq)
theorem run_inv{e:Q0c}(hk:e.Body.Kind≠0): ∀(k:Nat) (m:Z0a),InvE e m.e_->0<=m.at_->match Mach.run k m with|.ok m'=>InvE e m'.e_|.error c=>1<=c.1/\c.1<=7/\0<=c.2/\c.2<m.l_.l.length
 |k,m,h,ha=>by
  unfold Mach.run
  by_cases hlt:m.at_<m.l_.l.length
  ·rw[if_pos hlt]
   cases k with
   |zero=>exact⟨by omega,by omega,ha,hlt⟩
   |succ k=>
    simp only
    cases hq:Mach.doOp m (nth m.l_.l m.at_.toNat) with
    |error c=>exact⟨(doOp_err hq).1,(doOp_err hq).2,ha,hlt⟩
    |ok r=>
     obtain⟨m2,n⟩:=r
     have hd:=doOp_inv h hk hq
     have kk:=Mach.doOp_keeps hq ha hlt
     have ih:=run_inv hk k {m2 with at_:=n} hd kk.2.2.2.2.1
     have hl2:m2.l_=m.l_:=kk.2.1
     simp only[hl2]at ih ⊢
     exact ih
  ·rw[if_neg hlt];exact h
def partL{α:Type}(l:List α): Lst α:=if h:l=[] then⟨.nil,[],fun _=>rfl⟩ else⟨.part,l,nofun⟩
theorem X0x{α:Type}{f:α->CV}(hf:∀x j,¬(f x).has j)(s:Lst α)(k:Nat)(h:s.tl=.nil\/(∃j,s.tl=.own j)/\0<s.l.length): CV.weak (fun k=>k) k (Lst.cv f s) (Lst.cv f (partL s.l)):=by
 have hl:∀l:List α,CV.weakL (fun k=>k) k (l.map f) (l.map f):=fun l=>CV.weakL_refl _ fun j hj=>(X0n hf l j hj).elim
 obtain⟨tl,l,o⟩:=s
 rcases h with h|⟨⟨j,h⟩,h0⟩
 ·simp only at h
  subst h
  have:l=[]:=o rfl
  subst this
  simp[partL,Lst.cv,CV.weak,Tail.weak,CV.weakL]
 ·simp only at h
  subst h
  have hne:l≠[]:=by intro e;subst e;simp at h0
  simp only[partL,dif_neg hne,Lst.cv,CV.weak,Tail.weak,true_and]
  exact hl _
def eff(e:Q0c)(o:K0c): Except Int Q0c:=
 match Mach.doOp ⟨e,⟨.nil,[],fun _=>rfl⟩,0⟩ o with
 |.error c=>.error c
 |.ok r=>.ok r.1.e_
def Mach.withL(m:Z0a)(s:Lst K0c): Z0a:={m with l_:=s}
theorem reckon_withL(m:Z0a)(s:Lst K0c)(o:K0c): Mach.reckon (Mach.withL m s) o=match Mach.reckon m o with|.ok r=>.ok (Mach.withL r s)|.error c=>.error c:=by
 have h1:∀k,Mach.reg (Mach.withL m s) k=Mach.reg m k:=fun _=>rfl
 unfold Mach.reckon
 simp only[h1]
 by_cases c2:o.Code=2
 ·simp only[if_pos c2];rfl
 by_cases c3:o.Code=3
 ·simp only[if_neg c2,if_pos c3];rfl
 by_cases c4:o.Code=4
 ·simp only[if_neg c2,if_neg c3,if_pos c4];rfl
 by_cases c5:o.Code=5
 ·simp only[if_neg c2,if_neg c3,if_neg c4,if_pos c5];rfl
 by_cases c6:o.Code=6
 ·simp only[if_neg c2,if_neg c3,if_neg c4,if_neg c5,if_pos c6]
  by_cases z:Mach.reg m o.B.toNat=0
  ·simp only[if_pos z]
  ·simp only[if_neg z];rfl
 by_cases c11:o.Code=11
 ·simp only[if_neg c2,if_neg c3,if_neg c4,if_neg c5,if_neg c6,if_pos c11]
  by_cases z:Mach.reg m o.B.toNat<1
  ·simp only[if_pos z]
  ·simp only[if_neg z];rfl
 simp only[if_neg c2,if_neg c3,if_neg c4,if_neg c5,if_neg c6,if_neg c11]
 by_cases z:(m.e_.Shots.l.length:Int)<m.e_.Room
 ·rw[if_pos z,if_pos (show((Mach.withL m s).e_.Shots.l.length:Int)<(Mach.withL m s).e_.Room from z)];rfl
 ·rw[if_neg z,if_neg (show ¬((Mach.withL m s).e_.Shots.l.length:Int)<(Mach.withL m s).e_.Room from z)]
theorem doOp_withL(m:Z0a)(s:Lst K0c)(o:K0c)(h:s.l=m.l_.l): Mach.doOp (Mach.withL m s) o=match Mach.doOp m o with|.ok r=>.ok (Mach.withL r.1 s,r.2)|.error c=>.error c:=by
 have h1:∀k,Mach.reg (Mach.withL m s) k=Mach.reg m k:=fun _=>rfl
 have h2:∀k,Mach.field (Mach.withL m s) k=Mach.field m k:=fun _=>rfl
 have h3:(Mach.withL m s).l_.l=m.l_.l:=h
 unfold Mach.doOp
 simp only[h1,h2,h3,reckon_withL]
 by_cases c1:within o.Code 1 13=false
 ·simp only[if_pos c1]
 by_cases c2:namedOk o=false
 ·simp only[if_neg c1,if_pos c2]
 by_cases c3:o.Code=1
 ·simp only[if_neg c1,if_neg c2,if_pos c3];rfl
 by_cases c4:o.Code=7
 ·simp only[if_neg c1,if_neg c2,if_neg c3,if_pos c4]
  by_cases z:within o.B 0 7=false
  ·simp only[if_pos z]
  ·simp only[if_neg z];rfl
 by_cases c5:o.Code=8
 ·simp only[if_neg c1,if_neg c2,if_neg c3,if_neg c4,if_pos c5]
  by_cases z:within o.A 0 3=false
  ·simp only[if_pos z]
  ·simp only[if_neg z];rfl
 by_cases c6:o.Code=9
 ·simp only[if_neg c1,if_neg c2,if_neg c3,if_neg c4,if_neg c5,if_pos c6]
  by_cases z:Mach.reg m o.A.toNat=0
  ·simp only[if_pos z]
   by_cases y:within o.B 0 m.l_.l.length=false
   ·simp only[if_pos y]
   ·simp only[if_neg y]
  ·simp only[if_neg z];rfl
 by_cases c7:o.Code=10
 ·simp only[if_neg c1,if_neg c2,if_neg c3,if_neg c4,if_neg c5,if_neg c6,if_pos c7]
  by_cases y:within o.B 0 m.l_.l.length=false
  ·simp only[if_pos y]
  ·simp only[if_neg y]
 by_cases c8:o.Code=13
 ·simp only[if_neg c1,if_neg c2,if_neg c3,if_neg c4,if_neg c5,if_neg c6,if_neg c7,if_pos c8]
 simp only[if_neg c1,if_neg c2,if_neg c3,if_neg c4,if_neg c5,if_neg c6,if_neg c7,if_neg c8]
 cases Mach.reckon m o<;>rfl
theorem run_withL(s:Lst K0c): ∀(k:Nat) (m:Z0a),s.l=m.l_.l->0<=m.at_->Mach.run k (Mach.withL m s)=match Mach.run k m with|.ok r=>.ok (Mach.withL r s)|.error c=>.error c
 |k,m,h,ha=>by
  have h3:(Mach.withL m s).l_.l=m.l_.l:=h
  have h4:(Mach.withL m s).at_=m.at_:=rfl
  unfold Mach.run
  rw[h3,h4]
  by_cases hlt:m.at_<m.l_.l.length
  ·rw[if_pos hlt,if_pos hlt]
   cases k with
   |zero=>rfl
   |succ k=>
    simp only[doOp_withL m s _ h]
    cases hd:Mach.doOp m (nth m.l_.l m.at_.toNat) with
    |error c=>rfl
    |ok r=>
     obtain⟨m2,n⟩:=r
     simp only
     have kk:=Mach.doOp_keeps hd ha hlt
     exact run_withL s k {m2 with at_:=n} (by simp only;rw[kk.2.1];exact h) kk.2.2.2.2.1
  ·rw[if_neg hlt,if_neg hlt]
theorem ruleRun_l{l s:Lst K0c}(h:s.l=l.l)(e:Q0c): ruleRun s e=ruleRun l e:=by
 have:=run_withL s 64 ⟨copiedE e,l,0⟩ h (by simp)
 unfold ruleRun
 rw[show(⟨copiedE e,s,0⟩:Z0a)=Mach.withL ⟨copiedE e,l,0⟩ s from rfl,this]
 cases Mach.run 64 ⟨copiedE e,l,0⟩<;>rfl
def runL(L:List K0c)(e:Q0c): Q0c×X0c×Bool:=ruleRun ⟨.view,L,nofun⟩ e
def namesA(c:Int): Bool:=decide (c=1) || decide (c=7) || decide (c=9) || decide (c=2) || decide (c=3) || decide (c=4) || decide (c=5) || decide (c=6) || decide (c=11) || decide (c=12)
def namesB(c:Int): Bool:=decide (c=2) || decide (c=3) || decide (c=4) || decide (c=5) || decide (c=6) || decide (c=11) || decide (c=12) || decide (c=8)
def rfault(o:K0c)(e:V0c)(n:Int): Int:=
 if within o.Code 1 13=false then 4
 else if(namesA o.Code&&!within o.A 0 3 || namesB o.Code&&!within o.B 0 3)=true then 2
 else if(decide (o.Code=7)&&!within o.B 0 7 || decide (o.Code=8)&&!within o.A 0 3)=true then 3
 else if(decide (o.Code=6)&&decide (nth e.Body.Mem o.B.toNat=0))=true then 1
 else if(decide (o.Code=11)&&decide (nth e.Body.Mem o.B.toNat<1))=true then 6
 else if(decide (o.Code=12)&&decide (e.Room<=e.Shots.l.length))=true then 7
 else if(decide (o.Code=10)&&!within o.B 0 n)=true then 4
 else if(decide (o.Code=9)&&decide (nth e.Body.Mem o.A.toNat=0)&&!within o.B 0 n)=true then 4
 else 0
def partS{α:Type}(s:Lst α): Lst α:=
 match s.tl with
 |.own _=>⟨.part,s.l,nofun⟩
 |_=>s
theorem partS_l{α:Type}(s:Lst α): (partS s).l=s.l:=by
 obtain⟨tl,l,o⟩:=s;cases tl<;>rfl
def partE(e:V0c): Q0c:=⟨e.Body,e.In,e.Dice,e.Room,partS e.Shots⟩
def ruleOf(e:V0c): Q0c:=⟨e.Body,e.In,e.Dice,e.Room,e.Shots⟩
def envR(e:Q0c): V0c:=⟨e.Body,e.In,e.Dice,e.Room,e.Shots⟩
theorem weak_partS{α:Type}{f:α->CV}(hf:∀x j,¬(f x).has j)(s:Lst α)(n:Nat)(h:s.tl=.nil\/∃j,s.tl=.own j): CV.weak (fun k=>k) n (Lst.cv f s) (Lst.cv f (partS s)):=by
 have hl:∀l:List α,CV.weakL (fun k=>k) n (l.map f) (l.map f):=fun l=>CV.weakL_refl _ fun j hj=>(X0n hf l j hj).elim
 obtain⟨tl,l,o⟩:=s
 rcases h with h|⟨j,h⟩<;>simp only at h<;>subst h<;>simp only[partS,Lst.cv,CV.weak,Tail.weak,true_and]<;>exact hl _
theorem weak_envR(e:V0c)(n:Nat)(h:e.Shots.tl=.nil\/∃j,e.Shots.tl=.own j): CV.weak (fun k=>k) n e.cv (envR (partE e)).cv:=by
 have h1:CV.weak (fun k=>k) n e.Body.cv e.Body.cv:=Y0d (Z0c (Q0a.nohas _))
 have h2:CV.weak (fun k=>k) n e.In.cv e.In.cv:=Y0d (Z0c (K0b.nohas _))
 have h3:=weak_partS Q0a.nohas e.Shots n h
 simp only[V0c.cv,envR,partE,CV.weak,CV.weakL]
 exact⟨h1,h2,trivial,trivial,h3,trivial⟩
theorem copiedE_nil{e:V0c}(h:e.Shots.tl=.nil): copiedE (ruleOf e)=ruleOf e:=by
 obtain⟨b,i,d,r,tl,l,o⟩:=e
 simp only at h;subst h
 have:=o rfl;subst this
 rfl
theorem partE_nil{e:V0c}(h:e.Shots.tl=.nil): partE e=ruleOf e:=by
 obtain⟨b,i,d,r,tl,l,o⟩:=e
 simp only at h;subst h
 rfl
theorem Z05{c:Int}(h:within c 1 13=true): c=1\/c=2\/c=3\/c=4\/c=5\/c=6\/c=7\/c=8\/c=9\/c=10\/c=11\/c=12\/c=13:=by
 have:=X0a h;omega
theorem rfault_eq(o:K0c)(e:V0c)(l:Lst K0c)(a:Int): rfault o e l.l.length=match Mach.doOp ⟨partE e,l,a⟩ o with|.error c=>c|.ok _=>0:=by
 have hr:∀k,Mach.reg ⟨partE e,l,a⟩ k=nth e.Body.Mem k:=fun _=>rfl
 have hs:((⟨partE e,l,a⟩:Z0a).e_.Shots.l.length:Int)=e.Shots.l.length:=by simp[partE,partS_l]
 have hm:(⟨partE e,l,a⟩:Z0a).e_.Room=e.Room:=rfl
 unfold rfault Mach.doOp
 cases hw:within o.Code 1 13 with
 |false=>simp
 |true=>
  simp only[Bool.true_eq_false,if_false,hr,Mach.reckon,hs,hm]
  rcases Z05 hw with h|h|h|h|h|h|h|h|h|h|h|h|h
  all_goals simp only[h,namesA,namesB,namedOk,needA,needB]
  all_goals cases hA:within o.A 0 3<;>cases hB:within o.B 0 3
  all_goals simp
  all_goals(repeat' split)
  all_goals first
   |rfl
   |(simp_all;done)
   |(rename_i hx _ _ hq;rw[show(partE e).Room=e.Room from rfl,if_neg (by omega)]at hq;cases hq;done)
   |(rename_i hx _ _ hq;rw[show(partE e).Room=e.Room from rfl,if_neg (by omega)]at hq;cases hq;rfl)
   |(rename_i hx _ _ hq;rw[show(partE e).Room=e.Room from rfl,if_pos (by omega)]at hq;cases hq;done)
   |(rename_i hx _ _ hq;rw[show(partE e).Room=e.Room from rfl,if_pos (by omega)]at hq;cases hq;rfl)
   |(rename_i hx _ _ hq;split at hq<;>first|(cases hq;done)|(split at hq<;>first|(cases hq;done)|(cases hq;simp_all))|(cases hq;simp_all))
   |omega
   |trace_state
theorem doOp_code{o:K0c}{m:Z0a}{c:Int}(h:Mach.doOp m o=.error c): c≠0:=by
 have hr:∀c',Mach.reckon m o=.error c'->c'≠0:=by
  intro c' h'
  unfold Mach.reckon at h'
  simp only at h'
  repeat'(split at h')
  all_goals first|(cases h';done)|(cases h';decide)
 unfold Mach.doOp at h
 repeat'(split at h)
 all_goals first|(cases h;done)|(cases h;decide)|(rename_i hq;cases h;exact hr _ hq)
theorem doOp_1{o:K0c}{m m2:Z0a}{n:Int}(h:Mach.doOp m o=.ok (m2,n))(hC:o.Code=1): m2=Mach.set m o.A.toNat o.B/\n=m.at_+1:=by
 have hw:within o.Code 1 13=true:=by rw[hC];rfl
 have hw2:within 1 1 13=true:=rfl
 unfold Mach.doOp Mach.reckon at h
 cases hn:namedOk o with
 |false=>simp only[hw,hn,Bool.true_eq_false,if_true,if_false]at h;cases h
 |true=>
  simp only[hw2,hn,hC,Int.reduceEq,Bool.true_eq_false,if_true,if_false]at h
  cases h;exact⟨rfl,rfl⟩
theorem doOp_2{o:K0c}{m m2:Z0a}{n:Int}(h:Mach.doOp m o=.ok (m2,n))(hC:o.Code=2): m2=Mach.set m o.A.toNat (Mach.reg m o.B.toNat)/\n=m.at_+1:=by
 have hw:within o.Code 1 13=true:=by rw[hC];rfl
 have hw2:within 2 1 13=true:=rfl
 unfold Mach.doOp Mach.reckon at h
 cases hn:namedOk o with
 |false=>simp only[hw,hn,Bool.true_eq_false,if_true,if_false]at h;cases h
 |true=>
  simp only[hw2,hn,hC,Int.reduceEq,Bool.true_eq_false,if_true,if_false]at h
  cases h;exact⟨rfl,rfl⟩
theorem doOp_3{o:K0c}{m m2:Z0a}{n:Int}(h:Mach.doOp m o=.ok (m2,n))(hC:o.Code=3): m2=Mach.set m o.A.toNat (w64 (Mach.reg m o.A.toNat+Mach.reg m o.B.toNat))/\n=m.at_+1:=by
 have hw:within o.Code 1 13=true:=by rw[hC];rfl
 have hw2:within 3 1 13=true:=rfl
 unfold Mach.doOp Mach.reckon at h
 cases hn:namedOk o with
 |false=>simp only[hw,hn,Bool.true_eq_false,if_true,if_false]at h;cases h
 |true=>
  simp only[hw2,hn,hC,Int.reduceEq,Bool.true_eq_false,if_true,if_false]at h
  cases h;exact⟨rfl,rfl⟩
theorem doOp_4{o:K0c}{m m2:Z0a}{n:Int}(h:Mach.doOp m o=.ok (m2,n))(hC:o.Code=4): m2=Mach.set m o.A.toNat (w64 (Mach.reg m o.A.toNat-Mach.reg m o.B.toNat))/\n=m.at_+1:=by
 have hw:within o.Code 1 13=true:=by rw[hC];rfl
 have hw2:within 4 1 13=true:=rfl
 unfold Mach.doOp Mach.reckon at h
 cases hn:namedOk o with
 |false=>simp only[hw,hn,Bool.true_eq_false,if_true,if_false]at h;cases h
 |true=>
  simp only[hw2,hn,hC,Int.reduceEq,Bool.true_eq_false,if_true,if_false]at h
  cases h;exact⟨rfl,rfl⟩
theorem doOp_5{o:K0c}{m m2:Z0a}{n:Int}(h:Mach.doOp m o=.ok (m2,n))(hC:o.Code=5): m2=Mach.set m o.A.toNat (w64 (Mach.reg m o.A.toNat*Mach.reg m o.B.toNat))/\n=m.at_+1:=by
 have hw:within o.Code 1 13=true:=by rw[hC];rfl
 have hw2:within 5 1 13=true:=rfl
 unfold Mach.doOp Mach.reckon at h
 cases hn:namedOk o with
 |false=>simp only[hw,hn,Bool.true_eq_false,if_true,if_false]at h;cases h
 |true=>
  simp only[hw2,hn,hC,Int.reduceEq,Bool.true_eq_false,if_true,if_false]at h
  cases h;exact⟨rfl,rfl⟩
theorem doOp_6{o:K0c}{m m2:Z0a}{n:Int}(h:Mach.doOp m o=.ok (m2,n))(hC:o.Code=6): Mach.reg m o.B.toNat≠0/\m2=Mach.set m o.A.toNat (w64 ((Mach.reg m o.A.toNat).tdiv (Mach.reg m o.B.toNat)))/\n=m.at_+1:=by
 have hw:within o.Code 1 13=true:=by rw[hC];rfl
 have hw2:within 6 1 13=true:=rfl
 unfold Mach.doOp Mach.reckon at h
 cases hn:namedOk o with
 |false=>simp only[hw,hn,Bool.true_eq_false,if_true,if_false]at h;cases h
 |true=>
  by_cases hz:Mach.reg m o.B.toNat=0
  ·simp only[hw2,hn,hC,hz,Int.reduceEq,Bool.true_eq_false,if_true,if_false]at h
   cases h
  ·simp only[hw2,hn,hC,hz,Int.reduceEq,Bool.true_eq_false,if_true,if_false]at h
   cases h;exact⟨hz,rfl,rfl⟩
theorem doOp_7{o:K0c}{m m2:Z0a}{n:Int}(h:Mach.doOp m o=.ok (m2,n))(hC:o.Code=7): within o.B 0 7=true/\m2=Mach.set m o.A.toNat (Mach.field m o.B.toNat)/\n=m.at_+1:=by
 have hw:within o.Code 1 13=true:=by rw[hC];rfl
 have hw2:within 7 1 13=true:=rfl
 unfold Mach.doOp Mach.reckon at h
 cases hn:namedOk o with
 |false=>simp only[hw,hn,Bool.true_eq_false,if_true,if_false]at h;cases h
 |true=>
  simp only[hw2,hn,hC,Int.reduceEq,Bool.true_eq_false,if_true,if_false]at h
  split at h
  ·cases h
  ·rename_i hq;cases h;exact⟨by simpa using hq,rfl,rfl⟩
theorem doOp_8{o:K0c}{m m2:Z0a}{n:Int}(h:Mach.doOp m o=.ok (m2,n))(hC:o.Code=8): within o.A 0 3=true/\m2=Mach.put m o.A (Mach.reg m o.B.toNat)/\n=m.at_+1:=by
 have hw:within o.Code 1 13=true:=by rw[hC];rfl
 have hw2:within 8 1 13=true:=rfl
 unfold Mach.doOp Mach.reckon at h
 cases hn:namedOk o with
 |false=>simp only[hw,hn,Bool.true_eq_false,if_true,if_false]at h;cases h
 |true=>
  simp only[hw2,hn,hC,Int.reduceEq,Bool.true_eq_false,if_true,if_false]at h
  split at h
  ·cases h
  ·rename_i hq;cases h;exact⟨by simpa using hq,rfl,rfl⟩
theorem doOp_9{o:K0c}{m m2:Z0a}{n:Int}(h:Mach.doOp m o=.ok (m2,n))(hC:o.Code=9): m2=m/\n=(if Mach.reg m o.A.toNat=0 then o.B else m.at_+1):=by
 have hw:within o.Code 1 13=true:=by rw[hC];rfl
 have hw2:within 9 1 13=true:=rfl
 unfold Mach.doOp Mach.reckon at h
 cases hn:namedOk o with
 |false=>simp only[hw,hn,Bool.true_eq_false,if_true,if_false]at h;cases h
 |true=>
  simp only[hw2,hn,hC,Int.reduceEq,Bool.true_eq_false,if_true,if_false]at h
  split at h
  ·rename_i hz
   split at h
   ·cases h
   ·cases h;exact⟨rfl,by rw[if_pos hz]⟩
  ·rename_i hz;cases h;exact⟨rfl,by rw[if_neg hz]⟩
theorem doOp_10{o:K0c}{m m2:Z0a}{n:Int}(h:Mach.doOp m o=.ok (m2,n))(hC:o.Code=10): m2=m/\n=o.B:=by
 have hw:within o.Code 1 13=true:=by rw[hC];rfl
 have hw2:within 10 1 13=true:=rfl
 unfold Mach.doOp Mach.reckon at h
 cases hn:namedOk o with
 |false=>simp only[hw,hn,Bool.true_eq_false,if_true,if_false]at h;cases h
 |true=>
  simp only[hw2,hn,hC,Int.reduceEq,Bool.true_eq_false,if_true,if_false]at h
  split at h
  ·cases h
  ·cases h;exact⟨rfl,rfl⟩
theorem doOp_11{o:K0c}{m m2:Z0a}{n:Int}(h:Mach.doOp m o=.ok (m2,n))(hC:o.Code=11): ¬Mach.reg m o.B.toNat<1/\m2=Mach.set {m with e_:={m.e_ with Dice:=(diceRoll m.e_.Dice (Mach.reg m o.B.toNat)).1}} o.A.toNat (diceRoll m.e_.Dice (Mach.reg m o.B.toNat)).2/\n=m.at_+1:=by
 have hw:within o.Code 1 13=true:=by rw[hC];rfl
 have hw2:within 11 1 13=true:=rfl
 unfold Mach.doOp Mach.reckon at h
 cases hn:namedOk o with
 |false=>simp only[hw,hn,Bool.true_eq_false,if_true,if_false]at h;cases h
 |true=>
  by_cases hz:Mach.reg m o.B.toNat<1
  ·simp only[hw2,hn,hC,hz,Int.reduceEq,Bool.true_eq_false,if_true,if_false]at h
   cases h
  ·simp only[hw2,hn,hC,hz,Int.reduceEq,Bool.true_eq_false,if_true,if_false]at h
   cases h;exact⟨hz,rfl,rfl⟩
theorem doOp_12{o:K0c}{m m2:Z0a}{n:Int}(h:Mach.doOp m o=.ok (m2,n))(hC:o.Code=12): m2={m with e_:={m.e_ with Shots:=⟨.part,m.e_.Shots.l++[bodyShoot m.e_.Body (Mach.reg m o.A.toNat) (Mach.reg m o.B.toNat)],nofun⟩}}/\n=m.at_+1:=by
 have hw:within o.Code 1 13=true:=by rw[hC];rfl
 have hw2:within 12 1 13=true:=rfl
 unfold Mach.doOp Mach.reckon at h
 cases hn:namedOk o with
 |false=>simp only[hw,hn,Bool.true_eq_false,if_true,if_false]at h;cases h
 |true=>
  by_cases hz:(m.e_.Shots.l.length:Int)<m.e_.Room
  ·simp only[hw2,hn,hC,hz,Int.reduceEq,Bool.true_eq_false,if_true,if_false]at h
   cases h;exact⟨rfl,rfl⟩
  ·simp only[hw2,hn,hC,hz,Int.reduceEq,Bool.true_eq_false,if_true,if_false]at h
   cases h
theorem doOp_13{o:K0c}{m m2:Z0a}{n:Int}(h:Mach.doOp m o=.ok (m2,n))(hC:o.Code=13): m2=m/\n=m.l_.l.length:=by
 have hw:within o.Code 1 13=true:=by rw[hC];rfl
 have hw2:within 13 1 13=true:=rfl
 unfold Mach.doOp Mach.reckon at h
 cases hn:namedOk o with
 |false=>simp only[hw,hn,Bool.true_eq_false,if_true,if_false]at h;cases h
 |true=>
  simp only[hw2,hn,hC,Int.reduceEq,Bool.true_eq_false,if_true,if_false]at h
  cases h;exact⟨rfl,rfl⟩
theorem doOp_n{o:K0c}{m m2:Z0a}{n:Int}(h:Mach.doOp m o=.ok (m2,n)): namedOk o=true/\within o.Code 1 13=true:=by
 unfold Mach.doOp at h
 constructor
 ·cases hn:namedOk o with
  |true=>rfl
  |false=>rw[hn]at h;simp at h;split at h<;>cases h
 ·cases hn:within o.Code 1 13 with
  |true=>rfl
  |false=>rw[hn]at h;simp at h
def firstW{α:Type}(f:α->Bool): List α->Nat->Int
 |[],_=>-1
 |x::l,k=>if f x=true then k else firstW f l (k+1)
theorem X1n{α:Type}(f:α->Bool): ∀(l:List α) (k:Nat),decide (0<=firstW f l k)=l.any f
 |[],k=>rfl
 |x::l,k=>by
  simp only[firstW,List.any_cons]
  by_cases h:f x=true
  ·simp[h]
  ·have:=X1n f l (k+1);simp[h,<- this]
theorem Z0r{α:Type}[Inhabited α]{l:List α}{k:Nat}(h:k<l.length): l.drop k=nth l k::l.drop (k+1):=by
 rw[V0x h];exact List.drop_eq_getElem_cons h
def opRight(o:K0c): Bool:=within o.Code 1 13&&within o.A (-1000000) 1000000&&within o.B (-1000000) 1000000
def ruleRight(l:List K0c): Bool:=decide (l.length<=16)&&l.all opRight
theorem any_opRight(l:List K0c): (l.any fun o=>!opRight o) = !l.all opRight:=by
 induction l with
 |nil=>rfl
 |cons x l ih=>simp[ih]
def bounce(a v:Int): Int×Int:=if brought a 0 4095=a then(a,v) else(brought a 0 4095,w64 (-v))
def bodyPush(b:Q0a)(x y:Int): Q0a:=
 if Body.right b=true/\b.Kind≠0 then {b with VX:=brought (b.VX+brought x (-1000) 1000) (-64) 64,VY:=brought (b.VY+brought y (-1000) 1000) (-64) 64} else Q0a.zero
def bodyMove(b:Q0a): Q0a×Bool:=
 if Body.right b=true/\b.Kind≠0 then
  if b.Kind=1 then({b with Age:=min (b.Age+1) 600,X:=(bounce (b.X+b.VX) b.VX).1,VX:=(bounce (b.X+b.VX) b.VX).2,Y:=(bounce (b.Y+b.VY) b.VY).1,VY:=(bounce (b.Y+b.VY) b.VY).2},true)
  else if 40<min (b.Age+1) 600\/within (b.X+b.VX) 0 4095=false\/within (b.Y+b.VY) 0 4095=false then(Q0a.zero,false)
  else({b with Age:=min (b.Age+1) 600,X:=b.X+b.VX,Y:=b.Y+b.VY},true)
 else(Q0a.zero,false)
def bodyStrikes(a b:Q0a): Bool:=
 Body.right a&&Body.right b&&decide (a.Kind=1)&&decide (b.Kind=2)&&decide (a.Owner≠b.Owner)&&within (a.X-b.X) (-32) 32&&within (a.Y-b.Y) (-32) 32
def bodyHit(a b:Q0a): Bool:=if a.Kind=2 then bodyStrikes b a else bodyStrikes a b
theorem Z0f{b:Q0a}(h:Body.right b=true)(hk:b.Kind≠0): (0<=b.Owner/\b.Owner<=7)/\(0<=b.X/\b.X<=4095)/\(0<=b.Y/\b.Y<=4095)/\(-64<=b.VX/\b.VX<=64)/\(-64<=b.VY/\b.VY<=64)/\(0<=b.Age/\b.Age<=600)/\(0<=b.Faults/\b.Faults<=65535)/\(b.Kind=1\/b.Kind=2):=by
 have r:=(Q0h hk).1 h
 exact⟨r.2.2.1,r.2.2.2.1,r.2.2.2.2.1,r.2.2.2.2.2.1,r.2.2.2.2.2.2.1,r.2.2.2.2.2.2.2.1,r.2.2.2.2.2.2.2.2,r.2.1⟩
end Go.Proofs.YtpchcfkebljopaaGreat
end
section
namespace Go.Proofs.YtpchcfkebljopaaGreat
open Go.Cl Go Go.RowKit
set_option maxRecDepth 100000
set_option linter.constructorNameAsVariable false
def R106: Rel:=fun args p r=>∃(n lo hi:Int),args=[I n,I lo,I hi]/\r=.ret (Bo (within n lo hi)) p
theorem t106{T:XCall}(h:Has T 27 R106)(n lo hi:Int){p:Hp}:T 27 [I n,I lo,I hi] p=.ret (Bo (within n lo hi)) p:=h _ _ _ ⟨n,lo,hi,rfl,rfl⟩
theorem zq106{A B:Prop}(k:B)(h:A=B:=by have zy:=zA @zw106<|zA @rs106<|zA @tt3<|ti3.eq_1;exact zQ): A:=h▸k
theorem zno106{P:Prop}(h:P:=by intro jj;simp[CV.has,CV.hasL,fault,Z0b.nohas]): P:=h
theorem c106: Con C 27 R106:=by
 refine K0e C ?_ ?_ ?_
 ·rintro args p r r' ⟨n,lo,hi,h,e⟩ ⟨n',lo',hi',h',e'⟩
  subst e;subst e';simp_all
 ·rintro args p r ⟨n,lo,hi,h,rfl⟩;exact zr1
 ·rintro args p r ⟨n,lo,hi,rfl,rfl⟩
  refine zW C false [] zT rfl xf106 zc106_ok fun call zh hF=>?_
  clear zh
  (have zx:=zT;refine zq106 ?_;try exact zT)
  repeat'(apply zK.s<;>intro hc<;>(try simp only[zhd]at hc)<;>(try have hw:=X0a hc)<;>(refine zq106 ?_;try exact zT))
  all_goals(try clear zx)
  all_goals refine K0d hF zle (Y0c ?_ (Z0c zno106))
  all_goals simp[within,hc]
def R206: Rel:=fun args p r=>∃(n lo hi:Int),args=[I n,I lo,I hi]/\r=.ret (I (brought n lo hi)) p
theorem t206{T:XCall}(h:Has T 83 R206)(n lo hi:Int){p:Hp}:T 83 [I n,I lo,I hi] p=.ret (I (brought n lo hi)) p:=h _ _ _ ⟨n,lo,hi,rfl,rfl⟩
theorem zq206{A B:Prop}(k:B)(h:A=B:=by have zy:=zA @zw206<|zA @rs206<|zA @tt3<|ti3.eq_1;exact zQ): A:=h▸k
theorem zno206{P:Prop}(h:P:=by intro jj;simp[CV.has,CV.hasL,fault,Z0b.nohas]): P:=h
theorem c206: Con C 83 R206:=by
 refine K0e C ?_ ?_ ?_
 ·rintro args p r r' ⟨n,lo,hi,h,e⟩ ⟨n',lo',hi',h',e'⟩
  subst e;subst e';simp_all
 ·rintro args p r ⟨n,lo,hi,h,rfl⟩;exact zr1
 ·rintro args p r ⟨n,lo,hi,rfl,rfl⟩
  refine zW C false [] zT rfl xf206 zc206_ok fun call zh hF=>?_
  clear zh
  (have zx:=zT;refine zq206 ?_;clear zx;try exact zT)
  exact K0d hF zle (Y0c rfl (Z0c zno206))
def R198: Rel:=fun args p r=>∃(a v:Int),args=[I a,I v]/\r=.ret (.tup [I (bounce a v).1,I (bounce a v).2]) p
theorem t198{T:XCall}(h:Has T 77 R198)(a v:Int){p:Hp}:T 77 [I a,I v] p=.ret (.tup [I (bounce a v).1,I (bounce a v).2]) p:=h _ _ _ ⟨a,v,rfl,rfl⟩
theorem zq198{A B:Prop}(k:B)(h:A=B:=by have zy:=zA @zw198<|zA @rs198<|zA @tt3<|zA ti3.eq_1<|@t_140;exact zQ): A:=h▸k
theorem zno198{P:Prop}(h:P:=by intro jj;simp[CV.has,CV.hasL,fault,Z0b.nohas]): P:=h
theorem c198: Con C 77 R198:=by
 refine K0e C ?_ ?_ ?_
 ·rintro args p r r' ⟨a,v,h,e⟩ ⟨a',v',h',e'⟩
  subst e;subst e';simp_all
 ·rintro args p r ⟨a,v,h,rfl⟩;exact zr1
 ·rintro args p r ⟨a,v,rfl,rfl⟩
  refine zW C false [(58,R140)] ⟨c140,zT⟩ rfl xf198 zc198_ok fun call zh hF=>?_
  have t_140:=@t140 _ zh.1
  clear zh
  (have zx:=zT;refine zq198 ?_;try exact zT)
  repeat'(apply zK.s<;>intro hc<;>(try simp only[zhd]at hc)<;>(try have hw:=X0a hc)<;>(refine zq198 ?_;try exact zT))
  all_goals(try clear zx)
  all_goals refine K0d hF zle (Y0c ?_ (Z0c zno198))
  all_goals simp[bounce,hc]
def R196: Rel:=fun args p r=>∃(b:Q0a) (x y:Int),args=[b.cv,I x,I y]/\r=.ret (bodyPush b x y).cv p
theorem t196{T:XCall}(h:Has T 74 R196)(b:Q0a)(x y:Int){p:Hp}:T 74 [b.cv,I x,I y] p=.ret (bodyPush b x y).cv p:=h _ _ _ ⟨b,x,y,rfl,rfl⟩
theorem zq196{A B:Prop}(k:B)(h:A=B:=by have zy:=zA @zw196<|zA @rs196<|zA @tt3<|zA @tt34<|zA ti3.eq_1<|zA ti34.eq_1<|zA @t_24<|zA @t_140<|@Q0e;exact zQ): A:=h▸k
theorem zno196{P:Prop}(h:P:=by intro jj;simp[CV.has,CV.hasL,fault,Z0b.nohas,Q0a.nohas]): P:=h
theorem c196: Con C 74 R196:=by
 refine K0e C ?_ ?_ ?_
 ·rintro args p r r' ⟨b,x,y,h,e⟩ ⟨b',x',y',h',e'⟩
  subst e;subst e';simp_all[Q0a.inj_iff]
 ·rintro args p r ⟨b,x,y,h,rfl⟩;exact zr1
 ·rintro args p r ⟨b,x,y,rfl,rfl⟩
  refine zW C false [(57,R24),(58,R140)] ⟨c24,c140,zT⟩ rfl xf196 zc196_ok fun call zh hF=>?_
  have t_24:=@t24 _ zh.1
  have t_140:=@t140 _ zh.2.1
  clear zh
  have k1:=Y0e (n:=x) (lo:=-1000) (hi:=1000) (by omega)
  have k2:=Y0e (n:=y) (lo:=-1000) (hi:=1000) (by omega)
  by_cases hb:Body.right b=true
  ·by_cases hk:b.Kind=0
   ·(have zx:=zA hb hk;refine zq196 ?_;try exact zT)
    repeat'(apply zK.s<;>intro hc<;>(try simp only[zhd]at hc)<;>(try have hw:=X0a hc)<;>(refine zq196 ?_;try exact zT))
    all_goals(try clear zx)
    refine K0d hF zle (Y0c ?_ (Z0c zno196))
    simp[bodyPush,hb,hk];rfl
   ·have hr:=Z0f hb hk
    (have zx:=zA hb hk;refine zq196 ?_;try exact zT)
    repeat'(apply zK.s<;>intro hc<;>(try simp only[zhd]at hc)<;>(try have hw:=X0a hc)<;>(refine zq196 ?_;try exact zT))
    all_goals(try clear zx)
    refine K0d hF zle (Y0c ?_ (Z0c zno196))
    simp[bodyPush,hb,hk]
  ·(have zx:=hb;refine zq196 ?_;try exact zT)
   repeat'(apply zK.s<;>intro hc<;>(try simp only[zhd]at hc)<;>(try have hw:=X0a hc)<;>(refine zq196 ?_;try exact zT))
   all_goals(try clear zx)
   refine K0d hF zle (Y0c ?_ (Z0c zno196))
   simp[bodyPush,hb];rfl
def R178: Rel:=fun args p r=>∃(b:Q0a),args=[b.cv]/\r=.ret (.tup [(bodyMove b).1.cv,Bo (bodyMove b).2]) p
theorem t178{T:XCall}(h:Has T 61 R178)(b:Q0a){p:Hp}:T 61 [b.cv] p=.ret (.tup [(bodyMove b).1.cv,Bo (bodyMove b).2]) p:=h _ _ _ ⟨b,rfl,rfl⟩
theorem zq178{A B:Prop}(k:B)(h:A=B:=by have zy:=zA @zw178<|zA @rs178<|zA @tt3<|zA @tt34<|zA ti3.eq_1<|zA ti34.eq_1<|zA @t_24<|zA @t_71<|zA @t_198<|@Q0e;exact zQ): A:=h▸k
theorem zno178{P:Prop}(h:P:=by intro jj;simp[CV.has,CV.hasL,fault,Z0b.nohas,Q0a.nohas]): P:=h
theorem c178: Con C 61 R178:=by
 refine K0e C ?_ ?_ ?_
 ·rintro args p r r' ⟨b,h,e⟩ ⟨b',h',e'⟩
  subst e;subst e';simp_all[Q0a.inj_iff]
 ·rintro args p r ⟨b,h,rfl⟩;exact zr1
 ·rintro args p r ⟨b,rfl,rfl⟩
  refine zW C false [(57,R24),(72,R71),(77,R198)] ⟨c24,c71,c198,zT⟩ rfl xf178 zc178_ok fun call zh hF=>?_
  have t_24:=@t24 _ zh.1
  have t_71:=@t71 _ zh.2.1
  have t_198:=@t198 _ zh.2.2.1
  clear zh
  by_cases hb:Body.right b=true
  ·by_cases hk:b.Kind=0
   ·(have zx:=zA hb hk;refine zq178 ?_;try exact zT)
    repeat'(apply zK.s<;>intro hc<;>(try simp only[zhd]at hc)<;>(try have hw:=X0a hc)<;>(refine zq178 ?_;try exact zT))
    all_goals(try clear zx)
    refine K0d hF zle (Y0c ?_ (Z0c zno178))
    simp[bodyMove,hb,hk];rfl
   ·have hr:=Z0f hb hk
    (have zx:=zA hb hk;refine zq178 ?_;try exact zT)
    repeat'(apply zK.s<;>intro hc<;>(try simp only[zhd]at hc)<;>(try have hw:=X0a hc)<;>(refine zq178 ?_;try exact zT))
    all_goals(try clear zx)
    all_goals refine K0d hF zle (Y0c ?_ (Z0c zno178))
    all_goals first|(simp[bodyMove,hb,hk, *];done)|(simp[bodyMove,hb,hk, *];rfl)
  ·(have zx:=hb;refine zq178 ?_;try exact zT)
   repeat'(apply zK.s<;>intro hc<;>(try simp only[zhd]at hc)<;>(try have hw:=X0a hc)<;>(refine zq178 ?_;try exact zT))
   all_goals(try clear zx)
   refine K0d hF zle (Y0c ?_ (Z0c zno178))
   simp[bodyMove,hb];rfl
def R199: Rel:=fun args p r=>∃(a b:Q0a),args=[a.cv,b.cv]/\r=.ret (Bo (bodyHit a b)) p
theorem t199{T:XCall}(h:Has T 78 R199)(a b:Q0a){p:Hp}:T 78 [a.cv,b.cv] p=.ret (Bo (bodyHit a b)) p:=h _ _ _ ⟨a,b,rfl,rfl⟩
theorem zq199{A B:Prop}(k:B)(h:A=B:=by have zy:=zA @zw199<|zA @rs199<|zA @tt3<|zA @tt34<|zA ti3.eq_1<|zA ti34.eq_1<|zA @t_24<|zA @t_71<|@Q0e;exact zQ): A:=h▸k
theorem zno199{P:Prop}(h:P:=by intro jj;simp[CV.has,CV.hasL,fault,Z0b.nohas,Q0a.nohas]): P:=h
theorem c199: Con C 78 R199:=by
 refine K0e C ?_ ?_ ?_
 ·rintro args p r r' ⟨a,b,h,e⟩ ⟨a',b',h',e'⟩
  subst e;subst e';simp_all[Q0a.inj_iff]
 ·rintro args p r ⟨a,b,h,rfl⟩;exact zr1
 ·rintro args p r ⟨a,b,rfl,rfl⟩
  refine zW C false [(57,R24),(72,R71)] ⟨c24,c71,zT⟩ rfl xf199 zc199_ok fun call zh hF=>?_
  have t_24:=@t24 _ zh.1
  have t_71:=@t71 _ zh.2.1
  clear zh
  by_cases hk:a.Kind=2
  ·by_cases h1:Body.right b=true
   ·by_cases h2:Body.right a=true
    ·by_cases h3:b.Kind=1
     ·have r1:=Z0f h1 (by omega)
      have r2:=Z0f h2 (by omega)
      (have zx:=zA hk (zA h1 (zA h2 h3));refine zq199 ?_;try exact zT)
      repeat'(apply zK.s<;>intro hc<;>(try simp only[zhd]at hc)<;>(try have hw:=X0a hc)<;>(refine zq199 ?_;try exact zT))
      all_goals(try clear zx)
      all_goals refine K0d hF zle (Y0c ?_ (Z0c zno199))
      all_goals simp[bodyHit,bodyStrikes,hk, *]
     ·(have zx:=zA hk (zA h1 (zA h2 h3));refine zq199 ?_;try exact zT)
      repeat'(apply zK.s<;>intro hc<;>(try simp only[zhd]at hc)<;>(try have hw:=X0a hc)<;>(refine zq199 ?_;try exact zT))
      all_goals(try clear zx)
      all_goals refine K0d hF zle (Y0c ?_ (Z0c zno199))
      all_goals simp[bodyHit,bodyStrikes,hk, *]
    ·(have zx:=zA hk (zA h1 h2);refine zq199 ?_;try exact zT)
     repeat'(apply zK.s<;>intro hc<;>(try simp only[zhd]at hc)<;>(try have hw:=X0a hc)<;>(refine zq199 ?_;try exact zT))
     all_goals(try clear zx)
     all_goals refine K0d hF zle (Y0c ?_ (Z0c zno199))
     all_goals simp[bodyHit,bodyStrikes,hk, *]
   ·(have zx:=zA hk h1;refine zq199 ?_;try exact zT)
    repeat'(apply zK.s<;>intro hc<;>(try simp only[zhd]at hc)<;>(try have hw:=X0a hc)<;>(refine zq199 ?_;try exact zT))
    all_goals(try clear zx)
    all_goals refine K0d hF zle (Y0c ?_ (Z0c zno199))
    all_goals simp[bodyHit,bodyStrikes,hk, *]
  ·by_cases h1:Body.right a=true
   ·by_cases h2:Body.right b=true
    ·by_cases h3:a.Kind=1
     ·by_cases h4:b.Kind=2
      ·have r1:=Z0f h1 (by omega)
       have r2:=Z0f h2 (by omega)
       (have zx:=zA hk (zA h1 (zA h2 (zA h3 h4)));refine zq199 ?_;try exact zT)
       repeat'(apply zK.s<;>intro hc<;>(try simp only[zhd]at hc)<;>(try have hw:=X0a hc)<;>(refine zq199 ?_;try exact zT))
       all_goals(try clear zx)
       all_goals refine K0d hF zle (Y0c ?_ (Z0c zno199))
       all_goals simp[bodyHit,bodyStrikes, *]
      ·(have zx:=zA hk (zA h1 (zA h2 (zA h3 h4)));refine zq199 ?_;try exact zT)
       repeat'(apply zK.s<;>intro hc<;>(try simp only[zhd]at hc)<;>(try have hw:=X0a hc)<;>(refine zq199 ?_;try exact zT))
       all_goals(try clear zx)
       all_goals refine K0d hF zle (Y0c ?_ (Z0c zno199))
       all_goals simp[bodyHit,bodyStrikes, *]
     ·(have zx:=zA hk (zA h1 (zA h2 h3));refine zq199 ?_;try exact zT)
      repeat'(apply zK.s<;>intro hc<;>(try simp only[zhd]at hc)<;>(try have hw:=X0a hc)<;>(refine zq199 ?_;try exact zT))
      all_goals(try clear zx)
      all_goals refine K0d hF zle (Y0c ?_ (Z0c zno199))
      all_goals simp[bodyHit,bodyStrikes, *]
    ·(have zx:=zA hk (zA h1 h2);refine zq199 ?_;try exact zT)
     repeat'(apply zK.s<;>intro hc<;>(try simp only[zhd]at hc)<;>(try have hw:=X0a hc)<;>(refine zq199 ?_;try exact zT))
     all_goals(try clear zx)
     all_goals refine K0d hF zle (Y0c ?_ (Z0c zno199))
     all_goals simp[bodyHit,bodyStrikes, *]
   ·(have zx:=zA hk h1;refine zq199 ?_;try exact zT)
    repeat'(apply zK.s<;>intro hc<;>(try simp only[zhd]at hc)<;>(try have hw:=X0a hc)<;>(refine zq199 ?_;try exact zT))
    all_goals(try clear zx)
    all_goals refine K0d hF zle (Y0c ?_ (Z0c zno199))
    all_goals simp[bodyHit,bodyStrikes, *]
end Go.Proofs.YtpchcfkebljopaaGreat
end
section
namespace Go.Proofs.YtpchcfkebljopaaGreat
open Go.Cl Go Go.RowKit
abbrev f64:=FloatKind.f64.format
def nanF(n:Nat): Bool:=f64.order n n != some .eq
def absF(n:Nat): Nat:=(IntKind.u64.wrap (BitVec.ofInt IntKind.u64.bits (n:Int) &&&~~~BitVec.ofInt IntKind.u64.bits (9223372036854775808:Int)).toNat).toNat
def infF(n:Nat): Bool:=f64.order (absF n) 9218868437227405311==some .gt
def oddF(n:Nat): Bool:=nanF n || infF n
def bucketOk(r d:Nat): Bool:=!(oddF r || oddF d || (f64.order r 0==some .lt) || (f64.order d 4607182418800017408==some .lt) || (f64.order d 4652007308841189376==some .gt))
def seedOf(n:Int): Int:=IntKind.u64.wrap (IntKind.u64.wrap (IntKind.u64.wrap n*2)+1)
def tokGo(seen:List Int): List Int->Bool
 |[]=>true
 |n::l=>within n 0 2147483646&&!seen.contains n&&tokGo (seen++[n]) l
def legalC(c:K0a): Bool:=
 within c.Players 1 8&&(within c.Period 1 8&&within c.Grace 0 60&&within c.Start 0 100&&within c.Frames 1 600)&&within c.Seed 0 2147483647&&bucketOk c.Rate c.Depth&&ruleRight c.Rules.l&&(tokGo [] c.Tokens.l&&decide ((c.Tokens.l.length:Int)=c.Players))
def rightAt(players:Int)(k:Nat)(b:Q0a): Bool:=
 Body.right b&&(if(k:Int)<players then decide (b.Kind=1)&&decide (b.Owner=k)else decide (b.Kind=0) || decide (b.Kind=2)&&decide (b.Owner<players))
def scoreAt(players:Int)(k:Nat)(n:Int): Bool:=within n 0 2147483647&&!(decide (players<=k)&&decide (n≠0))
def allFrom{α:Type}(f:Nat->α->Bool): List α->Nat->Bool
 |[],_=>true
 |x::l,k=>f k x&&allFrom f l (k+1)
def stateRight(c:K0a)(s:Y0a): Bool:=
 allFrom (rightAt c.Players) s.Bodies 0&&allFrom (scoreAt c.Players) s.Score 0&&legalC c&&within s.Frame 0 600
def freeN(l:List Q0a): Nat:=(l.filter fun b=>decide (b.Kind=0)).length
def clampIn(x:K0b): K0b:=⟨brought x.Buttons 0 255,brought x.X (-64) 64,brought x.Y (-64) 64⟩
def rowInput(row:List Q0b)(o:Int): K0b:=if(row.length:Int)<=o then K0b.zero else clampIn (nth row o.toNat).In
structure Turn where
 dice:Int
 shots:List Q0a
 body:Q0a
def playerEnv(row:List Q0b)(dice room:Int)(b:Q0a): Q0c:=
 ⟨bodyPush b ((rowInput row b.Owner).X.tdiv 16) ((rowInput row b.Owner).Y.tdiv 16),rowInput row b.Owner,dice,room,⟨.nil,[],fun _=>rfl⟩⟩
def playerTurn(rules:List K0c)(row:List Q0b)(dice room:Int)(b:Q0a): Turn:=
 if(runL rules (playerEnv row dice room b)).2.2=true then⟨(runL rules (playerEnv row dice room b)).1.Dice,(runL rules (playerEnv row dice room b)).1.Shots.l,(runL rules (playerEnv row dice room b)).1.Body⟩
 else⟨dice,[],{b with Faults:=min (b.Faults+1) 65535}⟩
def bodyTurn(rules:List K0c)(row:List Q0b)(dice room:Int)(b:Q0a): Turn:=
 if b.Kind=1 then playerTurn rules row dice room b else⟨dice,[],b⟩
def turnStep(rules:List K0c)(row:List Q0b)(was:List Q0a)(st:Y0a×List Q0a)(k:Nat): Y0a×List Q0a:=
 let t:=bodyTurn rules row st.1.Dice (freeN st.1.Bodies-st.2.length) (nth was k)
 (({st.1 with Dice:=t.dice}:Y0a).put_2k k (bodyMove t.body).1,st.2++t.shots)
def turnsS(rules:List K0c)(row:List Q0b)(s:Y0a): Nat->Y0a×List Q0a
 |0=>(s,[])
 |k+1=>turnStep rules row s.Bodies (turnsS rules row s k) k
def setStep(st:Y0a×List Q0a)(k:Nat): Y0a×List Q0a:=
 match st.2 with
 |[]=>st
 |x::sh=>if(nth st.1.Bodies k).Kind=0 then(st.1.put_2k k x,sh)else st
def setsS(st:Y0a×List Q0a): Nat->Y0a×List Q0a
 |0=>st
 |k+1=>setStep (setsS st k) k
def struckL(bodies:List Q0a)(shot:Q0a): Int:=firstW (fun b=>decide (b.Kind=1)&&bodyHit b shot) bodies 0
def again(players:Int)(v:Q0a): Q0a:={bodyBorn v.Owner players with Faults:=v.Faults}
def hitStep(players:Int)(s:Y0a)(k:Nat): Y0a:=
 let shot:=nth s.Bodies k
 if shot.Kind≠2 then s else
 let at_:=struckL s.Bodies shot
 if at_<0 then s else
 let s2:=(s.put_3k shot.Owner.toNat (min (nth s.Score shot.Owner.toNat+1) 2147483647)).put_2k k Q0a.zero
 s2.put_2k at_.toNat (again players (nth s2.Bodies at_.toNat))
def hitsS(players:Int)(s:Y0a): Nat->Y0a
 |0=>s
 |k+1=>hitStep players (hitsS players s k) k
def stepS(c:K0a)(row:List Q0b)(s:Y0a): Y0a:=
 if stateRight c s=false then Y0a.zero else
 let h:=hitsS c.Players (setsS (turnsS c.Rules.l row s 16) 16).1 16
 {h with Frame:=min (h.Frame+1) 600}
def gameFold(c:K0a)(rows:List (List Q0b))(s:Y0a): Y0a:=rows.foldl (fun s row=>stepS c row s) s
theorem Y07{α:Type}[Inhabited α](f:Nat->α->Bool): ∀(l:List α) (k:Nat),allFrom f l k=true ↔ ∀j,j<l.length->f (k+j) (nth l j)=true
 |[],k=>by simp[allFrom]
 |x::l,k=>by
  simp only[allFrom,Bool.and_eq_true,Y07 f l (k+1),List.length_cons]
  constructor
  ·rintro⟨h1,h2⟩ j hj
   cases j with
   |zero=>simpa[nth]using h1
   |succ j=>have:=h2 j (by omega);rw[show k+(j+1)=k+1+j by omega];simpa[nth]using this
  ·intro h
   refine⟨by simpa[nth]using h 0 (by omega),fun j hj=>?_⟩
   have:=h (j+1) (by omega)
   rw[show k+(j+1)=k+1+j by omega]at this;simpa[nth]using this
theorem X0r{α:Type}[Inhabited α](f:Nat->α->Bool){l:List α}{k:Nat}(h:k<l.length): allFrom f (l.drop k) k=(f k (nth l k)&&allFrom f (l.drop (k+1)) (k+1)):=by
 rw[Z0r h];rfl
end Go.Proofs.YtpchcfkebljopaaGreat
end
section
namespace Go.Proofs.YtpchcfkebljopaaGreat
open Go.Cl Go Go.RowKit
set_option maxRecDepth 100000
set_option linter.constructorNameAsVariable false
def extF: FuncId->List CV->Option CV:=extBits 51 24
theorem ext_a: ExtFn C.P 51 Extern.MathFloatBits.float64bits:=⟨Tryz.f51,Tryz.func51,by kernel_rfl,by kernel_rfl,by kernel_rfl,by kernel_rfl⟩
theorem ext_b: ExtFn C.P 24 Extern.MathFloatBits.float64frombits:=⟨Tryz.f24,Tryz.func24,by kernel_rfl,by kernel_rfl,by kernel_rfl,by kernel_rfl⟩
theorem Y1m: ExtOk C extF:=extBits_ok ext_a ext_b
theorem Z1l(n:Nat): extF 51 [Fl n]=some (U n):=rfl
theorem K1n(n:Int): extF 24 [U n]=some (Fl n.toNat):=rfl
def R193: Rel:=fun args p r=>∃(n:Nat),args=[Fl n]/\r=.ret (Bo (nanF n)) p
theorem t193{T:XCall}(h:Has T 52 R193)(n:Nat){p:Hp}:T 52 [Fl n] p=.ret (Bo (nanF n)) p:=h _ _ _ ⟨n,rfl,rfl⟩
theorem zq193{A B:Prop}(k:B)(h:A=B:=by have zy:=zA @zw193<|zA @rs193<|zA @tt59<|ti59.eq_1;exact zQf): A:=h▸k
theorem zno193{P:Prop}(h:P:=by intro jj;simp[CV.has,CV.hasL,fault,Z0b.nohas]): P:=h
theorem c193: Con C 52 R193:=by
 refine K0e C ?_ ?_ ?_
 ·rintro args p r r' ⟨n,h,e⟩ ⟨n',h',e'⟩
  subst e;subst e';simp_all
 ·rintro args p r ⟨n,h,rfl⟩;exact zr1
 ·rintro args p r ⟨n,rfl,rfl⟩
  refine zW C false [] zT rfl xf193 zc193_ok fun call zh hF=>?_
  clear zh
  (have zx:=zT;refine zq193 ?_;try exact zT)
  repeat'(apply zK.s<;>intro hc<;>(try simp only[zhd]at hc)<;>(try have hw:=X0a hc)<;>(refine zq193 ?_;try exact zT))
  all_goals(try clear zx)
  exact K0d hF zle (Y0c rfl (Z0c zno193))
def R205: Rel:=fun args p r=>∃(n:Nat),args=[Fl n]/\r=.ret (Fl (absF n)) p
theorem t205{T:XCall}(h:Has T 82 R205)(n:Nat){p:Hp}:T 82 [Fl n] p=.ret (Fl (absF n)) p:=h _ _ _ ⟨n,rfl,rfl⟩
theorem zq205{A B:Prop}(k:B)(h:A=B:=by have zy:=zA @zw205<|zA @rs205<|zA @tt25<|zA ti25.eq_1<|zA @Z1l<|@K1n;exact zQ): A:=h▸k
theorem zno205{P:Prop}(h:P:=by intro jj;simp[CV.has,CV.hasL,fault,Z0b.nohas]): P:=h
theorem c205: Con C 82 R205:=by
 refine K0e C ?_ ?_ ?_
 ·rintro args p r r' ⟨n,h,e⟩ ⟨n',h',e'⟩
  subst e;subst e';simp_all
 ·rintro args p r ⟨n,h,rfl⟩;exact zr1
 ·rintro args p r ⟨n,rfl,rfl⟩
  refine X0u C false extF (tabL C []) xf205 Y1m (Q0r C _) zc205_ok (Nat.le_of_ble_eq_true (by kernel_rfl)) fun hF=>?_
  generalize tabL C []=call
  show W C false extF call zc205 (argE [Fl n]) p (endQ C _ _)
  (have zx:=zT;refine zq205 ?_;try exact zT)
  repeat'(apply zK.s<;>intro hc<;>(try simp only[zhd]at hc)<;>(try have hw:=X0a hc)<;>(refine zq205 ?_;try exact zT))
  all_goals(try clear zx)
  exact K0d hF zle (Y0c rfl (Z0c zno205))
def R194: Rel:=fun args p r=>∃(n:Nat),args=[Fl n,I 0]/\r=.ret (Bo (infF n)) p
theorem t194{T:XCall}(h:Has T 70 R194)(n:Nat){p:Hp}:T 70 [Fl n,I 0] p=.ret (Bo (infF n)) p:=h _ _ _ ⟨n,rfl,rfl⟩
theorem zq194{A B:Prop}(k:B)(h:A=B:=by have zy:=zA @zw194<|zA @rs194<|zA @tt3<|zA @tt59<|zA ti3.eq_1<|zA ti59.eq_1<|@t_205;exact zQf): A:=h▸k
theorem zno194{P:Prop}(h:P:=by intro jj;simp[CV.has,CV.hasL,fault,Z0b.nohas]): P:=h
theorem c194: Con C 70 R194:=by
 refine K0e C ?_ ?_ ?_
 ·rintro args p r r' ⟨n,h,e⟩ ⟨n',h',e'⟩
  subst e;subst e';simp_all
 ·rintro args p r ⟨n,h,rfl⟩;exact zr1
 ·rintro args p r ⟨n,rfl,rfl⟩
  refine zW C false [(82,R205)] ⟨c205,zT⟩ rfl xf194 zc194_ok fun call zh hF=>?_
  have t_205:=@t205 _ zh.1
  clear zh
  (have zx:=zT;refine zq194 ?_;try exact zT)
  repeat'(apply zK.s<;>intro hc<;>(try simp only[zhd]at hc)<;>(try have hw:=X0a hc)<;>(refine zq194 ?_;try exact zT))
  all_goals(try clear zx)
  exact K0d hF zle (Y0c rfl (Z0c zno194))
def R176: Rel:=fun args p r=>∃(n:Nat),args=[Fl n]/\r=.ret (Bo (oddF n)) p
theorem t176{T:XCall}(h:Has T 53 R176)(n:Nat){p:Hp}:T 53 [Fl n] p=.ret (Bo (oddF n)) p:=h _ _ _ ⟨n,rfl,rfl⟩
theorem zq176{A B:Prop}(k:B)(h:A=B:=by have zy:=zA @zw176<|zA @rs176<|zA @t_193<|@t_194;exact zQ): A:=h▸k
theorem zno176{P:Prop}(h:P:=by intro jj;simp[CV.has,CV.hasL,fault,Z0b.nohas]): P:=h
theorem c176: Con C 53 R176:=by
 refine K0e C ?_ ?_ ?_
 ·rintro args p r r' ⟨n,h,e⟩ ⟨n',h',e'⟩
  subst e;subst e';simp_all
 ·rintro args p r ⟨n,h,rfl⟩;exact zr1
 ·rintro args p r ⟨n,rfl,rfl⟩
  refine zW C false [(52,R193),(70,R194)] ⟨c193,c194,zT⟩ rfl xf176 zc176_ok fun call zh hF=>?_
  have t_193:=@t193 _ zh.1
  have t_194:=@t194 _ zh.2.1
  clear zh
  (have zx:=zT;refine zq176 ?_;try exact zT)
  repeat'(apply zK.s<;>intro hc<;>(try simp only[zhd]at hc)<;>(try have hw:=X0a hc)<;>(refine zq176 ?_;try exact zT))
  all_goals(try clear zx)
  all_goals refine K0d hF zle (Y0c ?_ (Z0c zno176))
  all_goals simp[oddF,hc]
def R133: Rel:=fun args p r=>∃(n:Int),args=[I n]/\r=.ret (U (seedOf n)) p
theorem t133{T:XCall}(h:Has T 36 R133)(n:Int){p:Hp}:T 36 [I n] p=.ret (U (seedOf n)) p:=h _ _ _ ⟨n,rfl,rfl⟩
theorem zq133{A B:Prop}(k:B)(h:A=B:=by have zy:=zA @zw133<|zA @rs133<|zA @tt3<|zA @tt25<|zA ti3.eq_1<|ti25.eq_1;exact zQ): A:=h▸k
theorem zno133{P:Prop}(h:P:=by intro jj;simp[CV.has,CV.hasL,fault,Z0b.nohas]): P:=h
theorem c133: Con C 36 R133:=by
 refine K0e C ?_ ?_ ?_
 ·rintro args p r r' ⟨n,h,e⟩ ⟨n',h',e'⟩
  subst e;subst e';simp_all
 ·rintro args p r ⟨n,h,rfl⟩;exact zr1
 ·rintro args p r ⟨n,rfl,rfl⟩
  refine zW C false [] zT rfl xf133 zc133_ok fun call zh hF=>?_
  clear zh
  (have zx:=zT;refine zq133 ?_;try exact zT)
  repeat'(apply zK.s<;>intro hc<;>(try simp only[zhd]at hc)<;>(try have hw:=X0a hc)<;>(refine zq133 ?_;try exact zT))
  all_goals(try clear zx)
  exact K0d hF zle (Y0c rfl (Z0c zno133))
def R135: Rel:=fun args p r=>∃(ra de:Nat),args=[Fl ra,Fl de]/\r=(if bucketOk ra de=true then .ret (.tup [.ptr p.n [],I 0]) (p.bump 1)else .ret (.tup [.sc (.pointer none),I 1]) p)
theorem t135{T:XCall}(h:Has T 28 R135)(ra de:Nat){p:Hp}:T 28 [Fl ra,Fl de] p=(if bucketOk ra de=true then .ret (.tup [.ptr p.n [],I 0]) (p.bump 1)else .ret (.tup [.sc (.pointer none),I 1]) p):=h _ _ _ ⟨ra,de,rfl,rfl⟩
theorem zq135{A B:Prop}(k:B)(h:A=B:=by have zy:=zA @zw135<|zA @rs135<|zA @tt59<|zA @tt223<|zA ti59.eq_1<|zA ti223.eq_1<|zA @t_176<|@X08;exact zQf): A:=h▸k
theorem zno135{P:Prop}(h:P:=by intro jj;simp[CV.has,CV.hasL,fault,Z0b.nohas,Y0b.nohas]): P:=h
theorem c135: Con C 28 R135:=by
 refine K0e C ?_ ?_ ?_
 ·rintro args p r r' ⟨ra,de,h,e⟩ ⟨ra',de',h',e'⟩
  subst e;subst e';simp_all[Y0b.inj_iff]
 ·rintro args p r ⟨ra,de,h,rfl⟩;exact zr1
 ·rintro args p r ⟨ra,de,rfl,rfl⟩
  refine zW C false [(53,R176)] ⟨c176,zT⟩ rfl xf135 zc135_ok fun call zh hF=>?_
  have t_176:=@t176 _ zh.1
  clear zh
  (have zx:=zT;refine zq135 ?_;try exact zT)
  repeat'(apply zK.s<;>intro hc<;>(try simp only[zhd]at hc)<;>(try have hw:=X0a hc)<;>(refine zq135 ?_;try exact zT))
  all_goals(try clear zx)
  all_goals first
   |(rw[if_neg (by simp[bucketOk, *])];exact K0d hF zle (Y0c rfl (Z0c zno135)))
   |(rw[if_pos (by simp[bucketOk, *])];exact Y1l (Nat.le_succ _) (fun k o h=>⟨Nat.lt_succ_of_lt (hF.dom k o h),.inl ⟨hF.dom k o h,h,by rw[Hp.get_new_ne _ _ (Nat.ne_of_lt (hF.dom k o h))];exact h⟩⟩) (Y0c rfl (fun j hj=>by simp[CV.has,CV.hasL]at hj;subst hj;exact Nat.lt_succ_self _)))
def R105: Rel:=fun args p r=>∃(c:K0a) (k:Int) (b:Q0a),args=[c.cv,I k,b.cv]/\(0<=k)/\r=.ret (Bo (rightAt c.Players k.toNat b)) p
theorem t105{T:XCall}(h:Has T 34 R105)(c:K0a)(k:Int)(b:Q0a){p:Hp}(h1:0<=k): T 34 [c.cv,I k,b.cv] p=.ret (Bo (rightAt c.Players k.toNat b)) p:=h _ _ _ ⟨c,k,b,rfl,h1,rfl⟩
theorem zq105{A B:Prop}(k:B)(h:A=B:=by have zy:=zA @zw105<|zA @rs105<|zA @tt3<|zA @tt34<|zA @tt61<|zA ti3.eq_1<|zA ti34.eq_1<|zA ti61.eq_1<|zA @t_24<|zA @X0e<|zA @Q0e<|@h1;exact zQ): A:=h▸k
theorem zno105{P:Prop}(h:P:=by intro jj;simp[CV.has,CV.hasL,fault,Z0b.nohas,Q0a.nohas]): P:=h
theorem c105: Con C 34 R105:=by
 refine K0e C ?_ ?_ ?_
 ·rintro args p r r' ⟨c,k,b,h,h1,e⟩ ⟨c',k',b',h',h1',e'⟩
  subst e;subst e';simp_all[K0a.inj_iff,Q0a.inj_iff]
 ·rintro args p r ⟨c,k,b,h,h1,rfl⟩;exact zr1
 ·rintro args p r ⟨c,k,b,rfl,h1,rfl⟩
  refine zW C false [(57,R24)] ⟨c24,zT⟩ rfl xf105 zc105_ok fun call zh hF=>?_
  have t_24:=@t24 _ zh.1
  clear zh
  have hk:((k.toNat:Nat):Int)=k:=by omega
  cases hb:Body.right b with
  |false=>
   (have zx:=hb;refine zq105 ?_;try exact zT)
   repeat'(apply zK.s<;>intro hc<;>(try simp only[zhd]at hc)<;>(try have hw:=X0a hc)<;>(refine zq105 ?_;try exact zT))
   all_goals(try clear zx)
   refine K0d hF zle (Y0c ?_ (Z0c zno105))
   simp[rightAt,hb]
  |true=>
   (have zx:=hb;refine zq105 ?_;try exact zT)
   repeat'(apply zK.s<;>intro hc<;>(try simp only[zhd]at hc)<;>(try have hw:=X0a hc)<;>(refine zq105 ?_;try exact zT))
   all_goals(try clear zx)
   all_goals refine K0d hF zle (Y0c ?_ (Z0c zno105))
   all_goals simp[rightAt,hb,hk, *]
def R195: Rel:=fun args p r=>∃(i:Nat) (f:X0b) (o:Int),args=[.ptr i [],I o]/\(p.t.get i=some (.var sh186 f.cv))/\(0<=o)/\r=.ret (rowInput f.row.l o).cv p
theorem t195{T:XCall}(h:Has T 73 R195)(i:Nat)(f:X0b)(o:Int){p:Hp}(h1:p.t.get i=some (.var sh186 f.cv))(h2:0<=o): T 73 [.ptr i [],I o] p=.ret (rowInput f.row.l o).cv p:=h _ _ _ ⟨i,f,o,rfl,h1,h2,rfl⟩
theorem zq195{A B:Prop}(k:B)(h:A=B:=by have zy:=zA @zw195<|zA @rs195<|zA @tt3<|zA @tt36<|zA @tt108<|zA @tt110<|zA @tt186<|zA ti3.eq_1<|zA ti36.eq_1<|zA ti108.eq_1<|zA ti110.eq_1<|zA ti186.eq_1<|zA @t_206<|zA @X0i<|zA @K0h<|zA @Q0m<|zA @zsl108<|zA @h1<|@h2;exact zQ): A:=h▸k
theorem zno195{P:Prop}(h:P:=by intro jj;simp[CV.has,CV.hasL,fault,Z0b.nohas,K0b.nohas,Q0b.nohas]): P:=h
theorem c195: Con C 73 R195:=by
 refine K0e C ?_ ?_ ?_
 ·rintro args p r r' ⟨i,f,o,h,h1,h2,e⟩ ⟨i',f',o',h',h1',h2',e'⟩
  subst e;subst e';simp_all[X0b.inj_iff,K0b.inj_iff,Q0b.inj_iff,Y0o]
 ·rintro args p r ⟨i,f,o,h,h1,h2,rfl⟩;exact zr1
 ·rintro args p r ⟨i,f,o,rfl,h1,h2,rfl⟩
  refine zW C false [(83,R206)] ⟨c206,zT⟩ rfl xf195 zc195_ok fun call zh hF=>?_
  have t_206:=@t206 _ zh.1
  clear zh
  have hd_h1:=hF.dom _ _ h1
  by_cases h:(f.row.l.length:Int)<=o
  ·(have zx:=zA h h1;refine zq195 ?_;try exact zT)
   repeat'(apply zK.s<;>intro hc<;>(try simp only[zhd]at hc)<;>(try have hw:=X0a hc)<;>(refine zq195 ?_;try exact zT))
   all_goals(try clear zx)
   refine K0d hF zle (Y0c ?_ (Z0c zno195))
   simp[rowInput,h];rfl
  ·(have zx:=zA h h1;refine zq195 ?_;try exact zT)
   repeat'(apply zK.s<;>intro hc<;>(try simp only[zhd]at hc)<;>(try have hw:=X0a hc)<;>(refine zq195 ?_;try exact zT))
   all_goals(try clear zx)
   refine K0d hF zle (Y0c ?_ (Z0c zno195))
   simp[rowInput,h];rfl
def R182: Rel:=fun args p r=>∃(i:Nat) (m:Z0a) (o:K0c),args=[.ptr i [],o.cv]/\(p.t.get i=some (.var sh131 m.cv))/\r=(if namedOk o=true then .ret (.tup []) p else .pan (fault 2 m.at_) p)
theorem t182{T:XCall}(h:Has T 92 R182)(i:Nat)(m:Z0a)(o:K0c){p:Hp}(h1:p.t.get i=some (.var sh131 m.cv)): T 92 [.ptr i [],o.cv] p=(if namedOk o=true then .ret (.tup []) p else .pan (fault 2 m.at_) p):=h _ _ _ ⟨i,m,o,rfl,h1,rfl⟩
theorem zq182{A B:Prop}(k:B)(h:A=B:=by have zy:=zA @zw182<|zA @rs182<|zA @tt3<|zA @tt29<|zA ti3.eq_1<|zA ti29.eq_1<|zA @t_84<|zA @t_150<|zA @K0f<|zA @K0i<|@h1;exact zQ): A:=h▸k
theorem zno182{P:Prop}(h:P:=by intro jj;simp[CV.has,CV.hasL,fault,Z0b.nohas,K0c.nohas]): P:=h
theorem c182: Con C 92 R182:=by
 refine K0e C ?_ ?_ ?_
 ·rintro args p r r' ⟨i,m,o,h,h1,e⟩ ⟨i',m',o',h',h1',e'⟩
  subst e;subst e';simp_all[Z0a.inj_iff,K0c.inj_iff]
 ·rintro args p r ⟨i,m,o,h,h1,rfl⟩;exact zr1
 ·rintro args p r ⟨i,m,o,rfl,h1,rfl⟩
  refine zW C false [(56,R84),(89,R150)] ⟨c84,c150,zT⟩ rfl xf182 zc182_ok fun call zh hF=>?_
  have t_84:=@t84 _ zh.1
  have t_150:=@t150 _ zh.2.1
  clear zh
  have hd_h1:=hF.dom _ _ h1
  (have zx:=h1;refine zq182 ?_;try exact zT)
  repeat'(apply zK.s<;>intro hc<;>(try simp only[zhd]at hc)<;>(try have hw:=X0a hc)<;>(refine zq182 ?_;try exact zT))
  all_goals(try clear zx)
  all_goals(cases e:(namedOk o)<;>first|(exfalso;revert e;simp[namedOk,needA,needB, *];done)|(exfalso;simp[namedOk,needA,needB]at e;omega)|skip)
  all_goals(try simp only[if_true,if_false,Bool.false_eq_true])
  all_goals(first|exact K0d hF zle (Y0d (Z0c zno182))|exact X0k hF zle (Y0d (Z0c zno182)))
def R184: Rel:=fun args p r=>∃(i:Nat) (m:Z0a) (k:Int),args=[.ptr i [],I k]/\(p.t.get i=some (.var sh131 m.cv))/\r=(if within k 0 7=true then .ret (I (Mach.field m k.toNat)) p else .pan (fault 3 m.at_) p)
theorem t184{T:XCall}(h:Has T 94 R184)(i:Nat)(m:Z0a)(k:Int){p:Hp}(h1:p.t.get i=some (.var sh131 m.cv)): T 94 [.ptr i [],I k] p=(if within k 0 7=true then .ret (I (Mach.field m k.toNat)) p else .pan (fault 3 m.at_) p):=h _ _ _ ⟨i,m,k,rfl,h1,rfl⟩
theorem zq184{A B:Prop}(k:B)(h:A=B:=by have zy:=zA @zw184<|zA @rs184<|zA @tt3<|zA @tt24<|zA @tt34<|zA @tt36<|zA @tt39<|zA @tt131<|zA ti3.eq_1<|zA ti24.eq_1<|zA ti34.eq_1<|zA ti36.eq_1<|zA ti39.eq_1<|zA ti131.eq_1<|zA @t_84<|zA @t_150<|zA @K0f<|zA @X0j<|zA @Q0e<|zA @K0h<|zA @zsl24<|@h1;exact zQ): A:=h▸k
theorem zno184{P:Prop}(h:P:=by intro jj;simp[CV.has,CV.hasL,fault,Z0b.nohas,Q0a.nohas,K0b.nohas]): P:=h
theorem c184: Con C 94 R184:=by
 refine K0e C ?_ ?_ ?_
 ·rintro args p r r' ⟨i,m,k,h,h1,e⟩ ⟨i',m',k',h',h1',e'⟩
  subst e;subst e';simp_all[Z0a.inj_iff,Q0c.inj_iff,Q0a.inj_iff,K0b.inj_iff,X0p]
 ·rintro args p r ⟨i,m,k,h,h1,rfl⟩;exact zr1
 ·rintro args p r ⟨i,m,k,rfl,h1,rfl⟩
  refine zW C false [(56,R84),(89,R150)] ⟨c84,c150,zT⟩ rfl xf184 zc184_ok fun call zh hF=>?_
  have t_84:=@t84 _ zh.1
  have t_150:=@t150 _ zh.2.1
  clear zh
  have hd_h1:=hF.dom _ _ h1
  (have zx:=h1;refine zq184 ?_;try exact zT)
  repeat'(apply zK.s<;>intro hc<;>(try simp only[zhd]at hc)<;>(try have hw:=X0a hc)<;>(refine zq184 ?_;try exact zT))
  all_goals(try clear zx)
  all_goals(first|exact K0d hF zle (Y0d (Z0c zno184))|exact X0k hF zle (Y0d (Z0c zno184)))
def R185: Rel:=fun args p r=>∃(i:Nat) (m:Z0a) (k n:Int),args=[.ptr i [],I k,I n]/\(p.t.get i=some (.var sh131 m.cv))/\r=(if within k 0 3=true then .ret (.tup []) (p.set i (some (.var sh131 (Mach.put m k n).cv)))else .pan (fault 3 m.at_) p)
theorem t185{T:XCall}(h:Has T 95 R185)(i:Nat)(m:Z0a)(k n:Int){p:Hp}(h1:p.t.get i=some (.var sh131 m.cv)): T 95 [.ptr i [],I k,I n] p=(if within k 0 3=true then .ret (.tup []) (p.set i (some (.var sh131 (Mach.put m k n).cv)))else .pan (fault 3 m.at_) p):=h _ _ _ ⟨i,m,k,n,rfl,h1,rfl⟩
theorem zq185{A B:Prop}(k:B)(h:A=B:=by have zy:=zA @zw185<|zA @rs185<|zA @tt3<|zA @tt34<|zA @tt39<|zA @tt131<|zA ti3.eq_1<|zA ti34.eq_1<|zA ti39.eq_1<|zA ti131.eq_1<|zA @t_201<|zA @t_150<|zA @K0f<|zA @X0j<|zA @Q0e<|zA @K0h<|@h1;exact zQ): A:=h▸k
theorem zno185{P:Prop}(h:P:=by intro jj;simp[CV.has,CV.hasL,fault,Z0b.nohas,Q0a.nohas,K0b.nohas]): P:=h
theorem c185: Con C 95 R185:=by
 refine K0e C ?_ ?_ ?_
 ·rintro args p r r' ⟨i,m,k,n,h,h1,e⟩ ⟨i',m',k',n',h',h1',e'⟩
  subst e;subst e';simp_all[Z0a.inj_iff,Q0c.inj_iff,Q0a.inj_iff,K0b.inj_iff]
 ·rintro args p r ⟨i,m,k,n,h,h1,rfl⟩;exact zr1
 ·rintro args p r ⟨i,m,k,n,rfl,h1,rfl⟩
  refine zW C false [(100,R201),(89,R150)] ⟨c201,c150,zT⟩ rfl xf185 zc185_ok fun call zh hF=>?_
  have t_201:=@t201 _ zh.1
  have t_150:=@t150 _ zh.2.1
  clear zh
  have hd_h1:=hF.dom _ _ h1
  (have zx:=h1;refine zq185 ?_;try exact zT)
  repeat'(apply zK.s<;>intro hc<;>(try simp only[zhd]at hc)<;>(try have hw:=X0a hc)<;>(refine zq185 ?_;try exact zT))
  all_goals(try clear zx)
  all_goals(cases e:(within k 0 3)<;>first|(exfalso;revert e;simp[within, *];done)|(exfalso;simp[within]at e;omega)|skip)
  all_goals(try simp only[if_true,if_false,Bool.false_eq_true])
  any_goals(first|exact K0d hF zle (Y0d (Z0c zno185))|exact X0k hF zle (Y0d (Z0c zno185)))
  all_goals refine Y0k hF (hF.dom _ _ h1) zlm ⟨_,Hp.get_set_self _ _ _,Y0j ?_ (fun j hj=>hF.lt_obj (.arg (a:=CV.ptr i []) (by simp) rfl) h1 j ?_)⟩ (Y0d (Z0c V1i))
  all_goals simp_all[Mach.put,Mach.body,XObj.has,Z0a.has,Q0c.has]
def R207: Rel:=fun args p r=>∃(d:Int),args=[U d]/\r=.ret (.tup [U (diceNext d),I (diceNum (diceNext d))]) p
theorem t207{T:XCall}(h:Has T 103 R207)(d:Int){p:Hp}:T 103 [U d] p=.ret (.tup [U (diceNext d),I (diceNum (diceNext d))]) p:=h _ _ _ ⟨d,rfl,rfl⟩
theorem zq207{A B:Prop}(k:B)(h:A=B:=by have zy:=zA @zw207<|zA @rs207<|zA @tt3<|zA @tt25<|zA @tt178<|zA ti3.eq_1<|zA ti25.eq_1<|ti178.eq_1;exact zQ): A:=h▸k
theorem zno207{P:Prop}(h:P:=by intro jj;simp[CV.has,CV.hasL,fault,Z0b.nohas]): P:=h
theorem c207: Con C 103 R207:=by
 refine K0e C ?_ ?_ ?_
 ·rintro args p r r' ⟨d,h,e⟩ ⟨d',h',e'⟩
  subst e;subst e';simp_all
 ·rintro args p r ⟨d,h,rfl⟩;exact zr1
 ·rintro args p r ⟨d,rfl,rfl⟩
  refine zW C false [] zT rfl xf207 zc207_ok fun call zh hF=>?_
  clear zh
  (have zx:=zT;refine zq207 ?_;try exact zT)
  repeat'(apply zK.s<;>intro hc<;>(try simp only[zhd]at hc)<;>(try have hw:=X0a hc)<;>(refine zq207 ?_;try exact zT))
  all_goals(try clear zx)
  exact K0d hF zle (Y0c rfl (Z0c zno207))
def R202: Rel:=fun args p r=>∃(d n:Int),args=[U d,I n]/\r=.ret (.tup [U (diceRoll d n).1,I (diceRoll d n).2]) p
theorem t202{T:XCall}(h:Has T 101 R202)(d n:Int){p:Hp}:T 101 [U d,I n] p=.ret (.tup [U (diceRoll d n).1,I (diceRoll d n).2]) p:=h _ _ _ ⟨d,n,rfl,rfl⟩
theorem zq202{A B:Prop}(k:B)(h:A=B:=by have zy:=zA @zw202<|zA @rs202<|zA @tt3<|zA ti3.eq_1<|@t_207;exact zQ): A:=h▸k
theorem zno202{P:Prop}(h:P:=by intro jj;simp[CV.has,CV.hasL,fault,Z0b.nohas]): P:=h
theorem c202: Con C 101 R202:=by
 refine K0e C ?_ ?_ ?_
 ·rintro args p r r' ⟨d,n,h,e⟩ ⟨d',n',h',e'⟩
  subst e;subst e';simp_all
 ·rintro args p r ⟨d,n,h,rfl⟩;exact zr1
 ·rintro args p r ⟨d,n,rfl,rfl⟩
  refine zW C false [(103,R207)] ⟨c207,zT⟩ rfl xf202 zc202_ok fun call zh hF=>?_
  have t_207:=@t207 _ zh.1
  clear zh
  (have zx:=zT;refine zq202 ?_;try exact zT)
  repeat'(apply zK.s<;>intro hc<;>(try simp only[zhd]at hc)<;>(try have hw:=X0a hc)<;>(refine zq202 ?_;try exact zT))
  all_goals(try clear zx)
  all_goals refine K0d hF zle (Y0c ?_ (Z0c zno202))
  all_goals simp[diceRoll,hc]
def R203: Rel:=fun args p r=>∃(b:Q0a) (x y:Int),args=[b.cv,I x,I y]/\r=.ret (bodyShoot b x y).cv p
theorem t203{T:XCall}(h:Has T 102 R203)(b:Q0a)(x y:Int){p:Hp}:T 102 [b.cv,I x,I y] p=.ret (bodyShoot b x y).cv p:=h _ _ _ ⟨b,x,y,rfl,rfl⟩
theorem zq203{A B:Prop}(k:B)(h:A=B:=by have zy:=zA @zw203<|zA @rs203<|zA @tt3<|zA @tt34<|zA ti3.eq_1<|zA ti34.eq_1<|zA @t_24<|zA @t_140<|@Q0e;exact zQ): A:=h▸k
theorem zno203{P:Prop}(h:P:=by intro jj;simp[CV.has,CV.hasL,fault,Z0b.nohas,Q0a.nohas]): P:=h
theorem c203: Con C 102 R203:=by
 refine K0e C ?_ ?_ ?_
 ·rintro args p r r' ⟨b,x,y,h,e⟩ ⟨b',x',y',h',e'⟩
  subst e;subst e';simp_all[Q0a.inj_iff]
 ·rintro args p r ⟨b,x,y,h,rfl⟩;exact zr1
 ·rintro args p r ⟨b,x,y,rfl,rfl⟩
  refine zW C false [(57,R24),(58,R140)] ⟨c24,c140,zT⟩ rfl xf203 zc203_ok fun call zh hF=>?_
  have t_24:=@t24 _ zh.1
  have t_140:=@t140 _ zh.2.1
  clear zh
  (have zx:=zT;refine zq203 ?_;try exact zT)
  repeat'(apply zK.s<;>intro hc<;>(try simp only[zhd]at hc)<;>(try have hw:=X0a hc)<;>(refine zq203 ?_;try exact zT))
  all_goals(try clear zx)
  all_goals refine K0d hF zle (Y0c ?_ (Z0c zno203))
  all_goals simp[bodyShoot,Q0a.zero, *]
def R148: Rel:=fun args p r=>∃(s:Lst Q0a),args=[s.cv Q0a.cv]/\(s.tl≠.view)/\(s.l.length<=1000000000)/\r=.ret (Lst.cv Q0a.cv (cloneL s p.n)) (if cloneOwn s=true then p.new (.tail s.l.length)else p)
theorem t148{T:XCall}(h:Has T 87 R148)(s:Lst Q0a){p:Hp}(h1:s.tl≠.view)(h2:s.l.length<=1000000000): T 87 [s.cv Q0a.cv] p=.ret (Lst.cv Q0a.cv (cloneL s p.n)) (if cloneOwn s=true then p.new (.tail s.l.length)else p):=h _ _ _ ⟨s,rfl,h1,h2,rfl⟩
theorem zq148{A B:Prop}(k:B)(h:A=B:=by have zy:=zA @zw148<|zA @rs148<|zA @tt37<|zA ti37.eq_1<|zA @Q0e<|zA @zsl37<|zA @h1<|@h2;exact zQ): A:=h▸k
theorem c148: Con C 87 R148:=by
 refine K0e C ?_ ?_ ?_
 ·rintro args p r r' ⟨s,h,h1,h2,e⟩ ⟨s',h',h1',h2',e'⟩
  subst e;subst e';simp_all[Q0a.inj_iff,K0q]
 ·rintro args p r ⟨s,h,h1,h2,rfl⟩;exact zr1
 ·rintro args p r ⟨s,rfl,h1,h2,rfl⟩
  refine zW C false [] zT rfl xf148 zc148_ok fun call zh hF=>?_
  clear zh
  obtain⟨tl,l,o⟩:=s
  simp only at h2 h1
  cases tl with
  |view=>exact absurd rfl h1
  |nil=>
   have:=o rfl
   subst this
   (have zx:=zT;refine zq148 ?_;try exact zT)
   repeat'(apply zK.s<;>intro hc<;>(try simp only[zhd]at hc)<;>(try have hw:=X0a hc)<;>(refine zq148 ?_;try exact zT))
   all_goals(try clear zx)
   exact K0d hF zle (Y0d (Z0c (by intro jj;simp[Lst.cv,cloneL,CV.has,CV.hasL])))
  |_=>
   cases l with
   |nil=>
    (have zx:=zT;refine zq148 ?_;try exact zT)
    repeat'(apply zK.s<;>intro hc<;>(try simp only[zhd]at hc)<;>(try have hw:=X0a hc)<;>(refine zq148 ?_;try exact zT))
    all_goals(try clear zx)
    exact K0d hF zle (Y0d (Z0c (by intro jj;simp[Lst.cv,cloneL,CV.has,CV.hasL])))
   |cons x l=>
    simp only[List.length_cons]at h2
    (have zx:=zT;refine zq148 ?_;try exact zT)
    repeat'(apply zK.s<;>intro hc<;>(try simp only[zhd]at hc)<;>(try have hw:=X0a hc)<;>(refine zq148 ?_;try exact zT))
    all_goals(try clear zx)
    simp only[cloneL,cloneOwn,List.isEmpty_cons,Bool.not_false,if_true]
    refine Y1l ?_ (fun k ob h=>?_) (Y0d fun jj hj=>?_)
    ·show p.n<=p.n+1;omega
    ·by_cases hk:k=p.n
     ·subst hk
      rw[Hp.get_new_self]at h;cases h
      exact⟨Nat.lt_succ_self _,.inr ⟨_,Hp.get_new_self _ _,by simp[XObj.weak]⟩⟩
     ·rw[Hp.get_new_ne _ _ hk]at h
      have:=hF.dom _ _ h
      exact⟨Nat.lt_succ_of_lt this,.inl ⟨this,h,by rw[Hp.get_new_ne _ _ hk];exact h⟩⟩
    ·rw[Lst.has _ Q0a.nohas]at hj
     simp only[Tail.own.injEq]at hj
     subst hj;exact Nat.lt_succ_self _
theorem weakL_self{α:Type}{f:α->CV}(h:∀x j,¬(f x).has j)(n:Nat)(l:List α): CV.weakL (fun k=>k) n (l.map f) (l.map f):=CV.weakL_refl _ fun j hj=>(X0n h l j hj).elim
theorem Mach.weakS(m:Z0a)(n j:Nat)(l:List Q0a)(hl:∀k,m.l_.tl=.own k->k<n): CV.weak (fun k=>k) n ({m with e_:={m.e_ with Shots:=⟨.own j,l,nofun⟩}}:Z0a).cv ({m with e_:={m.e_ with Shots:=⟨.part,l,nofun⟩}}:Z0a).cv:=by
 have h1:CV.weak (fun k=>k) n m.e_.Body.cv m.e_.Body.cv:=Y0d (Z0c (Q0a.nohas _))
 have h2:CV.weak (fun k=>k) n m.e_.In.cv m.e_.In.cv:=Y0d (Z0c (K0b.nohas _))
 have h3:CV.weak (fun k=>k) n (Lst.cv K0c.cv m.l_) (Lst.cv K0c.cv m.l_):=Y0d fun k hk=>hl k ((Lst.has _ K0c.nohas _ _).1 hk)
 have h4:=weakL_self Q0a.nohas n l
 have h5:CV.weak (fun k=>k) n (Lst.cv Q0a.cv ⟨.own j,l,nofun⟩) (Lst.cv Q0a.cv ⟨.part,l,nofun⟩):=by
  simp only[Lst.cv,CV.weak,Tail.weak,true_and];exact h4
 simp only[Z0a.cv,Q0c.cv,CV.weak,CV.weakL]
 exact⟨⟨h1,h2,trivial,trivial,h5,trivial⟩,h3,trivial,trivial⟩
noncomputable def resM(i:Nat)(m:Z0a)(p:Hp)(r:Except Int Z0a): XRes:=
 match r with
 |.ok m'=>.ret (.tup []) (p.set i (some (.var sh131 m'.cv)))
 |.error c=>.pan (fault c m.at_) p
def R188: Rel:=fun args p r=>∃(i:Nat) (m:Z0a) (o:K0c),args=[.ptr i [],o.cv]/\(p.t.get i=some (.var sh131 m.cv))/\(0<=o.A/\o.A<4)/\(0<=o.B/\o.B<4)/\(m.e_.Shots.tl≠.view)/\(m.e_.Shots.l.length<=1000000)/\r=resM i m p (Mach.reckon m o)
theorem t188{T:XCall}(h:Has T 98 R188)(i:Nat)(m:Z0a)(o:K0c){p:Hp}(h1:p.t.get i=some (.var sh131 m.cv))(hA:0<=o.A/\o.A<4)(hB:0<=o.B/\o.B<4)(h3:m.e_.Shots.tl≠.view)(h4:m.e_.Shots.l.length<=1000000): T 98 [.ptr i [],o.cv] p=resM i m p (Mach.reckon m o):=h _ _ _ ⟨i,m,o,rfl,h1,hA,hB,h3,h4,rfl⟩
theorem zdis188{P:Prop}(h:P:=by first|exact zdis|(simp only[Hp.bump_n,Hp.znew_n,Hp.zset_n,List.length_nil,List.length_cons,List.length_append,List.length_map,K1w];(first|done|omega))|(simp (disch:=first|exact zd1|(simp only[Hp.bump_n,Hp.znew_n,Hp.zset_n,List.length_nil,List.length_cons,List.length_append,List.length_map,K1w];(first|done|omega))) only[zheap,zx];(first|done|rfl))|fail): P:=h
theorem zq188{A B:Prop}(k:B)(h:A=B:=by have zy:=zA @zw188<|zA @rs188<|zA @tt3<|zA @tt25<|zA @tt29<|zA @tt34<|zA @tt37<|zA @tt39<|zA @tt131<|zA ti3.eq_1<|zA ti25.eq_1<|zA ti29.eq_1<|zA ti34.eq_1<|zA ti37.eq_1<|zA ti39.eq_1<|zA ti131.eq_1<|zA @t_186<|zA @t_183<|zA @t_150<|zA @t_202<|zA @t_148<|zA @t_203<|zA @K0f<|zA @X0j<|zA @Q0e<|zA @K0i<|zA @zsl37<|zA @appT_cl0<|zA @appT_cl1<|zA @K1w<|zA @h1<|zA @hA<|zA @hB<|zA @h3<|@h4;have zd:=@zdis188;exact zQd): A:=h▸k
theorem zno188{P:Prop}(h:P:=by intro jj;simp[CV.has,CV.hasL,fault,Z0b.nohas,Q0a.nohas,K0c.nohas]): P:=h
theorem c188: Con C 98 R188:=by
 refine K0e C ?_ ?_ ?_
 ·rintro args p r r' ⟨i,m,o,h,h1,hA,hB,h3,h4,e⟩ ⟨i',m',o',h',h1',hA',hB',h3',h4',e'⟩
  subst e;subst e';simp_all[Z0a.inj_iff,Q0c.inj_iff,Q0a.inj_iff,K0c.inj_iff,K0q]
 ·rintro args p r ⟨i,m,o,h,h1,hA,hB,h3,h4,rfl⟩;first|(split<;>simp;done)|(simp;done)|(simp only[resM];split<;>simp;done)|(simp only[resD];split<;>simp;done)
 ·rintro args p r ⟨i,m,o,rfl,h1,hA,hB,h3,h4,rfl⟩
  refine zW C false [(96,R186),(93,R183),(89,R150),(101,R202),(87,R148),(102,R203)] ⟨c186,c183,c150,c202,c148,c203,zT⟩ rfl xf188 zc188_ok fun call zh hF=>?_
  have t_186:=@t186 _ zh.1
  have t_183:=@t183 _ zh.2.1
  have t_150:=@t150 _ zh.2.2.1
  have t_202:=@t202 _ zh.2.2.2.1
  have t_148:=@t148 _ zh.2.2.2.2.1
  have t_203:=@t203 _ zh.2.2.2.2.2.1
  clear zh
  have hd_h1:=hF.dom _ _ h1
  have hlt:∀m':Z0a,(m'.e_.Shots.tl=m.e_.Shots.tl\/m'.e_.Shots.tl=.part)->m'.l_.tl=m.l_.tl->(XObj.var sh131 m'.cv).lt p.n:=by
   intro m' e1 e2 j hj
   refine hF.lt_obj (.arg (a:=CV.ptr i []) (by simp) rfl) h1 j ?_
   simp only[XObj.has,Z0a.has,Q0c.has]at hj ⊢
   rw[e2]at hj
   rcases e1 with e1|e1<;>simp_all
  cases hco:cloneOwn m.e_.Shots
  all_goals(have zx:=zA hco h1;refine zq188 ?_;try exact zT)
  repeat'(apply zK.s<;>intro hc<;>(try simp only[zhd]at hc)<;>(try have hw:=X0a hc)<;>(refine zq188 ?_;try exact zT))
  all_goals(try clear zx)
  all_goals simp[Mach.reckon,resM, *]
  all_goals(try simp (disch:=omega) only[if_pos,if_neg])
  any_goals(first|exact K0d hF zle (Y0d (Z0c zno188))|exact X0k hF zle (Y0d (Z0c zno188)))
  any_goals(refine Y0k hF (hF.dom _ _ h1) zlm ⟨_,Hp.get_set_self _ _ _,Y0j rfl (hlt _ (by simp[Mach.set,Mach.body]) (by simp[Mach.set,Mach.body]))⟩ (Y0d (Z0c V1i));done)
  all_goals
   refine Y0k hF (hF.dom _ _ h1) zlm ⟨_,Hp.get_set_self _ _ _,rfl,Mach.weakS m _ _ _ fun k hk=>?_⟩ (Y0d (Z0c V1i))
   exact hF.lt_obj (.arg (a:=CV.ptr i []) (by simp) rfl) h1 k (by simp[XObj.has,Z0a.has,hk])
noncomputable def resD(i:Nat)(m:Z0a)(p:Hp)(r:Except Int (Z0a×Int)): XRes:=
 match r with
 |.ok m'=>.ret (I m'.2) (p.set i (some (.var sh131 m'.1.cv)))
 |.error c=>.pan (fault c m.at_) p
def R151: Rel:=fun args p r=>∃(i:Nat) (m:Z0a) (o:K0c),args=[.ptr i [],o.cv]/\(p.t.get i=some (.var sh131 m.cv))/\(0<=m.at_/\m.at_<=1000000)/\(m.e_.Shots.tl≠.view)/\(m.e_.Shots.l.length<=1000000)/\r=resD i m p (Mach.doOp m o)
theorem t151{T:XCall}(h:Has T 90 R151)(i:Nat)(m:Z0a)(o:K0c){p:Hp}(h1:p.t.get i=some (.var sh131 m.cv))(h2:0<=m.at_/\m.at_<=1000000)(h3:m.e_.Shots.tl≠.view)(h4:m.e_.Shots.l.length<=1000000): T 90 [.ptr i [],o.cv] p=resD i m p (Mach.doOp m o):=h _ _ _ ⟨i,m,o,rfl,h1,h2,h3,h4,rfl⟩
theorem zq151{A B:Prop}(k:B)(h:A=B:=by((try simp -dsimp (disch:=first|exact zdis|fail) only[zcore,zall,zopm,zop,zcallOp,qop,qbuiltin,ofOpt,List.map,reduceCtorEq,if_true,if_false,↓reduceIte,zbin,eqRes,qassert,qnum,qshift,qun,kindOf,allocV,List.nil_append,List.append_nil,List.cons_append,List.length_cons,List.length_nil,Nat.reduceAdd,Nat.reduceEqDiff,Nat.reduceLT,Nat.reduceSub,Nat.reduceMul,Int.reduceToNat,Int.reduceLE,Int.reduceLT,Int.reduceEq,Int.reduceNeg,Int.reduceAdd,Int.reduceSub,beq_self_eq_true,cond_true,cond_false,isConstOpd,xpanic,xconv,isBytes,qconv,List.length_map,List.map_nil,List.map_cons,concrete,Option.some.injEq,exists_eq',Option.map_some,Option.map_none,List.getElem?_cons_zero,List.getElem?_cons_succ,zw151,rs151,tt3,tt23,tt29,tt131,ti3,ti23,ti29,ti131,t_84,t_150,t_182,t_183,t_184,t_185,t_186,t_187,t_188,K0f,X0j,Q0e,K0i,zsl23,Mach.set_at,Mach.put_at,resM,h1,h2,h3,h4,zx,hc]);rfl)): A:=h▸k
theorem zno151{P:Prop}(h:P:=by intro jj;simp[CV.has,CV.hasL,fault,Z0b.nohas,Q0a.nohas,K0c.nohas]): P:=h
theorem c151: Con C 90 R151:=by
 refine K0e C ?_ ?_ ?_
 ·rintro args p r r' ⟨i,m,o,h,h1,h2,h3,h4,e⟩ ⟨i',m',o',h',h1',h2',h3',h4',e'⟩
  subst e;subst e';simp_all[Z0a.inj_iff,Q0c.inj_iff,Q0a.inj_iff,K0c.inj_iff,V0i]
 ·rintro args p r ⟨i,m,o,h,h1,h2,h3,h4,rfl⟩;first|(split<;>simp;done)|(simp;done)|(simp only[resM];split<;>simp;done)|(simp only[resD];split<;>simp;done)
 ·rintro args p r ⟨i,m,o,rfl,h1,h2,h3,h4,rfl⟩
  refine zW C false [(56,R84),(89,R150),(92,R182),(93,R183),(94,R184),(95,R185),(96,R186),(97,R187),(98,R188)] ⟨c84,c150,c182,c183,c184,c185,c186,c187,c188,zT⟩ rfl xf151 zc151_ok fun call zh hF=>?_
  have t_84:=@t84 _ zh.1
  have t_150:=@t150 _ zh.2.1
  have t_182:=@t182 _ zh.2.2.1
  have t_183:=@t183 _ zh.2.2.2.1
  have t_184:=@t184 _ zh.2.2.2.2.1
  have t_185:=@t185 _ zh.2.2.2.2.2.1
  have t_186:=@t186 _ zh.2.2.2.2.2.2.1
  have t_187:=@t187 _ zh.2.2.2.2.2.2.2.1
  have t_188:=@t188 _ zh.2.2.2.2.2.2.2.2.1
  clear zh
  have hd_h1:=hF.dom _ _ h1
  have hlt:∀m':Z0a,(m'.e_.Shots.tl=m.e_.Shots.tl\/m'.e_.Shots.tl=.part)->m'.l_.tl=m.l_.tl->(XObj.var sh131 m'.cv).lt p.n:=by
   intro m' e1 e2 j hj
   refine hF.lt_obj (.arg (a:=CV.ptr i []) (by simp) rfl) h1 j ?_
   simp only[XObj.has,Z0a.has,Q0c.has]at hj ⊢
   rw[e2]at hj
   rcases e1 with e1|e1<;>simp_all
  cases hn:namedOk o with
  |false=>
   (have zx:=zA hn h1;refine zq151 ?_;try exact zT)
   repeat'(apply zK.s<;>intro hc<;>(try simp only[zhd]at hc)<;>(try have hw:=X0a hc)<;>(refine zq151 ?_;try exact zT))
   all_goals(try clear zx)
   all_goals simp[Mach.doOp,resD, *]
   all_goals first
    |(first|exact K0d hF zle (Y0d (Z0c zno151))|exact X0k hF zle (Y0d (Z0c zno151)))
    |exact Y0k hF hd_h1 zlm ⟨_,Hp.get_set_self _ _ _,Y0j rfl (hlt _ (by first|exact hk.1|simp[Mach.set,Mach.put,Mach.body]) (by first|(rw[hk.2.1];done)|simp[Mach.set,Mach.put,Mach.body]))⟩ (Y0d (Z0c zno151))
    |exact Y0k hF hd_h1 zlm ⟨_,(by rw[Hp.get_new_ne _ _ (Nat.ne_of_lt hd_h1)];exact h1),Q0o (hlt _ (.inl rfl) rfl)⟩ (Y0d (Z0c zno151))
    |skip
  |true=>
   have hA:=namedOk_A hn
   have hB:=namedOk_B hn
   cases hr:Mach.reckon m o with
   |error c=>
    (have zx:=zA hn (zA hr h1);refine zq151 ?_;try exact zT)
    repeat'(apply zK.s<;>intro hc<;>(try simp only[zhd]at hc)<;>(try have hw:=X0a hc)<;>(refine zq151 ?_;try exact zT))
    all_goals(try clear zx)
    all_goals simp[Mach.doOp,resD, *]
    all_goals first
     |(first|exact K0d hF zle (Y0d (Z0c zno151))|exact X0k hF zle (Y0d (Z0c zno151)))
     |exact Y0k hF hd_h1 zlm ⟨_,Hp.get_set_self _ _ _,Y0j rfl (hlt _ (by first|exact hk.1|simp[Mach.set,Mach.put,Mach.body]) (by first|(rw[hk.2.1];done)|simp[Mach.set,Mach.put,Mach.body]))⟩ (Y0d (Z0c zno151))
     |exact Y0k hF hd_h1 zlm ⟨_,(by rw[Hp.get_new_ne _ _ (Nat.ne_of_lt hd_h1)];exact h1),Q0o (hlt _ (.inl rfl) rfl)⟩ (Y0d (Z0c zno151))
     |skip
   |ok m'=>
    have hk:=Mach.reckon_keeps hr
    have hka:=hk.2.2.1
    (have zx:=zA hn (zA hr (zA hka h1));refine zq151 ?_;try exact zT)
    repeat'(apply zK.s<;>intro hc<;>(try simp only[zhd]at hc)<;>(try have hw:=X0a hc)<;>(refine zq151 ?_;try exact zT))
    all_goals(try clear zx)
    all_goals simp[Mach.doOp,resD, *]
    all_goals first
     |(first|exact K0d hF zle (Y0d (Z0c zno151))|exact X0k hF zle (Y0d (Z0c zno151)))
     |exact Y0k hF hd_h1 zlm ⟨_,Hp.get_set_self _ _ _,Y0j rfl (hlt _ (by first|exact hk.1|simp[Mach.set,Mach.put,Mach.body]) (by first|(rw[hk.2.1];done)|simp[Mach.set,Mach.put,Mach.body]))⟩ (Y0d (Z0c zno151))
     |exact Y0k hF hd_h1 zlm ⟨_,(by rw[Hp.get_new_ne _ _ (Nat.ne_of_lt hd_h1)];exact h1),Q0o (hlt _ (.inl rfl) rfl)⟩ (Y0d (Z0c zno151))
     |skip
noncomputable def resR(i:Nat)(p:Hp)(r:Except (Int×Int) Z0a): XRes:=
 match r with
 |.ok m'=>.ret (.tup []) (p.set i (some (.var sh131 m'.cv)))
 |.error c=>.pan (fault c.1 c.2) (p.set i none)
def J74(i:Nat)(p0:Hp)(m0:Z0a)(k:Nat)(ρ:Env)(p:Hp): Prop:=
 ∃(m:Z0a),ρ 0=.ptr i []/\ρ 2=I (64-k)/\k<=64/\p.t.get i=some (.var sh131 m.cv)/\p0.n<=p.n/\(∀j o,j≠i->p0.t.get j=some o->p.t.get j=some o)/\Mach.run k m=Mach.run 64 m0/\0<=m.at_/\m.at_<=m.l_.l.length/\m.l_=m0.l_/\(m.e_.Shots.tl=m0.e_.Shots.tl\/m.e_.Shots.tl=.part)/\m.e_.Shots.l.length<=m0.e_.Shots.l.length+(64-k)
def R74: Rel:=fun args p r=>∃(i:Nat) (m:Z0a),args=[.ptr i []]/\(p.t.get i=some (.var sh131 m.cv))/\(0<=m.at_/\m.at_<=m.l_.l.length)/\(m.l_.l.length<=100000)/\(m.e_.Shots.tl≠.view)/\(m.e_.Shots.l.length<=100000)/\r=resR i p (Mach.run 64 m)
theorem t74{T:XCall}(h:Has T 86 R74)(i:Nat)(m:Z0a){p:Hp}(h1:p.t.get i=some (.var sh131 m.cv))(h2:0<=m.at_/\m.at_<=m.l_.l.length)(hl:m.l_.l.length<=100000)(h3:m.e_.Shots.tl≠.view)(h4:m.e_.Shots.l.length<=100000): T 86 [.ptr i []] p=resR i p (Mach.run 64 m):=h _ _ _ ⟨i,m,rfl,h1,h2,hl,h3,h4,rfl⟩
theorem zq74{A B:Prop}(k:B)(h:A=B:=by((try simp -dsimp (disch:=first|exact zdis|fail) only[zcore,zall,zopm,zop,zcallOp,qop,qbuiltin,ofOpt,List.map,reduceCtorEq,if_true,if_false,↓reduceIte,zbin,eqRes,qassert,qnum,qshift,qun,kindOf,allocV,List.nil_append,List.append_nil,List.cons_append,List.length_cons,List.length_nil,Nat.reduceAdd,Nat.reduceEqDiff,Nat.reduceLT,Nat.reduceSub,Nat.reduceMul,Int.reduceToNat,Int.reduceLE,Int.reduceLT,Int.reduceEq,Int.reduceNeg,Int.reduceAdd,Int.reduceSub,beq_self_eq_true,cond_true,cond_false,isConstOpd,xpanic,xconv,isBytes,qconv,List.length_map,List.map_nil,List.map_cons,concrete,Option.some.injEq,exists_eq',Option.map_some,Option.map_none,List.getElem?_cons_zero,List.getElem?_cons_succ,zw74,rs74,tt3,tt23,tt29,tt131,ti3,ti23,ti29,ti131,t_150,t_151,K0f,K0i,zsl23,resD,h1,h2,hl,h3,h4,zx,hc]);rfl)): A:=h▸k
theorem zno74{P:Prop}(h:P:=by intro jj;simp[CV.has,CV.hasL,fault,Z0b.nohas,K0c.nohas]): P:=h
theorem c74: Con C 86 R74:=by
 refine K0e C ?_ ?_ ?_
 ·rintro args p r r' ⟨i,m,h,h1,h2,hl,h3,h4,e⟩ ⟨i',m',h',h1',h2',hl',h3',h4',e'⟩
  subst e;subst e';simp_all[Z0a.inj_iff,K0c.inj_iff,V0i]
 ·rintro args p r ⟨i,m,h,h1,h2,hl,h3,h4,rfl⟩;first|(split<;>simp;done)|(simp;done)|(simp only[resM];split<;>simp;done)|(simp only[resD];split<;>simp;done)  | (unfold resR;split<;>simp;done)
 ·rintro args p r ⟨i,m,rfl,h1,h2,hl,h3,h4,rfl⟩
  refine zW C false [(89,R150),(90,R151)] ⟨c150,c151,zT⟩ rfl xf74 zc74_ok fun call zh hF=>?_
  have t_150:=@t150 _ zh.1
  have t_151:=@t151 _ zh.2.1
  clear zh
  have hd_h1:=hF.dom _ _ h1
  (have zx:=h1;refine zq74 ?_;try exact zT)
  repeat'(apply zK.s<;>intro hc<;>(try simp only[zhd]at hc)<;>(try have hw:=X0a hc)<;>(refine zq74 ?_;try exact zT))
  all_goals(try clear zx)
  show W C false noExt call (ZC.loop zn74_4) _ _ _
  refine Q0i C false noExt call zn74_4 _ _ _ (J74 i p m) 64 ⟨m,rfl,rfl,by omega,h1,Nat.le_refl _,fun _ _ _ h=>h,rfl,h2.1,h2.2,rfl,.inl rfl,by omega⟩ ?_
  rintro k ρ q ⟨m',e0,e2,hk,hg,hn,hle,hrun,ha,ha',hml,htl,hsl⟩
  have hi:i<q.n:=Nat.lt_of_lt_of_le hd_h1 hn
  have htv:m'.e_.Shots.tl≠.view:=by rcases htl with h|h<;>rw[h]<;>first|exact h3|simp
  by_cases hlt:m'.at_<m'.l_.l.length
  all_goals rw[hml]at hlt ha'
  ·cases k with
   |zero=>
    have hs:¬(64-((0:Nat):Int)<64):=by omega
    (have zx:=zA e0 (zA e2 (zA hg (zA hml (zA hlt (zA hs h1)))));refine zq74 ?_;try exact zT)
    repeat'(apply zK.s<;>intro hc<;>(try simp only[zhd]at hc)<;>(try have hw:=X0a hc)<;>(refine zq74 ?_;try exact zT))
    all_goals(try clear zx)
    have hr:Mach.run 0 m'=.error (5,m'.at_):=by simp[Mach.run,hml,hlt]
    rw[<- hrun,hr]
    exact shr_dropP hF (fun j o hj h=>hle j o hj h) (Y0d (Z0c zno74))
   |succ k=>
    have hs:64-((k+1:Nat):Int)<64:=by omega
    cases hdo:Mach.doOp m' (nth m.l_.l m'.at_.toNat) with
    |error c=>
     (have zx:=zA e0 (zA e2 (zA hg (zA hml (zA hlt (zA hs (zA hdo h1))))));refine zq74 ?_;try exact zT)
     repeat'(apply zK.s<;>intro hc<;>(try simp only[zhd]at hc)<;>(try have hw:=X0a hc)<;>(refine zq74 ?_;try exact zT))
     all_goals(try clear zx)
     have hr:Mach.run (k+1) m'=.error (c,m'.at_):=by simp[Mach.run,hml,hlt,hdo]
     rw[<- hrun,hr]
     exact shr_dropP hF (fun j o hj h=>hle j o hj h) (Y0d (Z0c zno74))
    |ok r=>
     obtain⟨m2,n⟩:=r
     have hk2:=Mach.doOp_keeps hdo ha (by rw[hml];exact hlt)
     (have zx:=zA e0 (zA e2 (zA hg (zA hml (zA hlt (zA hs (zA hdo h1))))));refine zq74 ?_;try exact zT)
     repeat'(apply zK.s<;>intro hc<;>(try simp only[zhd]at hc)<;>(try have hw:=X0a hc)<;>(refine zq74 ?_;try exact zT))
     all_goals(try clear zx)
     have hr:Mach.run (k+1) m'=Mach.run k {m2 with at_:=n}:=by
      rw[Mach.run];simp[hml,hlt,hdo]
     obtain⟨k1,k2,k3,k4,k5,k6⟩:=hk2
     refine⟨k,Nat.lt_succ_self k,{m2 with at_:=n},zev,by simp[put_at,Q0d];omega,by omega,by simp only[Hp.bump_get,Hp.get_set_self],by simp only[Hp.bump_n,Hp.zset_n];omega,fun j o hj h=>?_,by rw[<- hr,hrun],k5,by rw[k2];exact k6,by rw[k2,hml],?_,by show m2.e_.Shots.l.length<=_;omega⟩
     ·simp (disch:=assumption) only[Hp.bump_get,Hp.get_set_ne]
      exact hle j o hj h
     ·show m2.e_.Shots.tl=_\/m2.e_.Shots.tl=_
      rcases k1 with h|h
      ·rw[h];exact htl
      ·exact .inr h
  ·(have zx:=zA e0 (zA e2 (zA hg (zA hml (zA hlt h1))));refine zq74 ?_;try exact zT)
   repeat'(apply zK.s<;>intro hc<;>(try simp only[zhd]at hc)<;>(try have hw:=X0a hc)<;>(refine zq74 ?_;try exact zT))
   all_goals(try clear zx)
   have hr:Mach.run k m'=.ok m':=by cases k<;>simp[Mach.run,hml,hlt]
   rw[<- hrun,hr]
   refine Y0k hF hd_h1 (fun j o hj h=>hle j o hj h) ⟨_,hg,Q0o fun j hj=>hF.lt_obj (.arg (a:=CV.ptr i []) (by simp) rfl) h1 j ?_⟩ (Y0d (Z0c zno74))
   simp only[XObj.has,Z0a.has,Q0c.has]at hj ⊢
   rw[hml]at hj
   rcases htl with e|e<;>simp_all
end Go.Proofs.YtpchcfkebljopaaGreat
end
section
namespace Go.Proofs.YtpchcfkebljopaaGreat
open Go.Cl Go Go.RowKit
set_option maxRecDepth 100000
def zn73_1:=ZC.reg [zu 2 (.alloc 117),zv 3 (.alloc 4)]
def zn73_4:=ZC.reg [zu 4 (zmv 0),zv 5 (.binOp .eql 1 (Tm 4) (.const .nilFunc) 1)]
def zn73_7:=ZC.reg [⟨some 6,.build 117 ⟨[]⟩,none,false⟩,zu0 (.store 117 (Tm 2) (Tm 6)),zv0 (.store 4 (Tm 3) (.const (.bool false)))]
def zn73_6:=ZC.seq zn73_7 ZC.ret
def zn73_5:=ZC.cond (Tm 5) zn73_6 ZC.skip
def zn73_3:=ZC.seq zn73_4 zn73_5
def zn73_9:=ZC.reg [⟨some 7,.makeFunc (.func 88) ⟨[]⟩ ⟨[Tm 2,Tm 3]⟩,none,false⟩,⟨none,.defer ⟨.value (Tm 7),⟨[]⟩,⟨[]⟩⟩,none,true⟩]
def zn73_11:=ZC.reg [zu 8 (zmv 0),⟨some 9,.call ⟨.value (Tm 8),⟨[]⟩,⟨[]⟩⟩,none,true⟩]
def zn73_13:=ZC.reg [⟨some 10,.build 117 ⟨[]⟩,none,false⟩,zu0 (.store 117 (Tm 2) (Tm 10)),zv0 (.store 4 (Tm 3) (.const (.bool false)))]
def zn73_12:=ZC.seq zn73_13 ZC.ret
def V1s:=ZC.seq zn73_11 zn73_12
def zn73_8:=ZC.seq zn73_9 V1s
def zn73_2:=ZC.seq zn73_3 zn73_8
def zn73_0:=ZC.seq zn73_1 zn73_2
def zc73: ZC:=zn73_0
def zw73:=zU C zc73.eq_1<|zU C zn73_1.eq_1<|zU C zn73_4.eq_1<|zU C zn73_7.eq_1<|zU C zn73_6.eq_1<|zU C zn73_5.eq_1<|zU C zn73_3.eq_1<|zU C zn73_9.eq_1<|zU C zn73_11.eq_1<|zU C zn73_13.eq_1<|zU C zn73_12.eq_1<|zU C V1s.eq_1<|zU C zn73_8.eq_1<|zU C zn73_2.eq_1<|(zunf C zn73_0.eq_1)
theorem rs73: (xfOf Tryz.f85).rs=[.cell 2 117,.cell 3 4]:=by kernel_rfl
def zn149_1:=ZC.reg [zv 5 (zcb .recover [] [])]
def zn149_4:=ZC.reg [zv 7 (.binOp .eql 20 (Tm 5) (.const .nilIface) 20)]
def zn149_6:=ZC.reg [zv 2 (zas 5)]
def zn149_8:=ZC.reg [zu 8 (.typeAssert (Tm 5) 20 136 true),zu 9 (.extract (Tm 8) 1),zv 10 (.extract (Tm 8) 0)]
def zn149_11:=ZC.reg [zu 3 (.alloc 136),zv0 (.store 136 (Tm 3) (Tm 10))]
def zn149_12:=ZC.reg [zu 11 (zfa 136 3 0),zu 12 (zld 117 11),zu0 (.store 117 (Tm 0) (Tm 12)),zv0 (.store 4 (Tm 1) (.const (.bool true)))]
def zn149_10:=ZC.seq zn149_11 zn149_12
def zn149_14:=ZC.reg [zv 4 (zas 5)]
def zn149_15:=ZC.reg [zu 6 (zmv 4),zv0 (.panic (Tm 6))]
def zn149_13:=ZC.seq zn149_14 zn149_15
def zn149_9:=ZC.cond (Tm 9) zn149_10 zn149_13
def zn149_7:=ZC.seq zn149_8 zn149_9
def zn149_5:=ZC.cond (Tm 7) zn149_6 zn149_7
def zn149_3:=ZC.seq zn149_4 zn149_5
def K1y:=ZC.block 0 zn149_3
def zn149_0:=ZC.seq zn149_1 K1y
def zc149: ZC:=zn149_0
def zw149:=zU C zc149.eq_1<|zU C zn149_1.eq_1<|zU C zn149_4.eq_1<|zU C zn149_6.eq_1<|zU C zn149_8.eq_1<|zU C zn149_11.eq_1<|zU C zn149_12.eq_1<|zU C zn149_10.eq_1<|zU C zn149_14.eq_1<|zU C zn149_15.eq_1<|zU C zn149_13.eq_1<|zU C zn149_9.eq_1<|zU C zn149_7.eq_1<|zU C zn149_5.eq_1<|zU C zn149_3.eq_1<|zU C K1y.eq_1<|(zunf C zn149_0.eq_1)
end Go.Proofs.YtpchcfkebljopaaGreat
end
section
namespace Go.Proofs.YtpchcfkebljopaaGreat
open Go.Cl Go Go.RowKit
noncomputable def xc73: XC:=⟨catA (Tryz.f85.body.getD .skip),catB (Tryz.f85.body.getD .skip),catP (Tryz.f85.body.getD .skip),Tryz.f85.results.toList,Tryz.f85.ntmps,7,88,[2,3],5,catR (Tryz.f88.body.getD .skip),Tryz.f88.ntmps⟩
theorem xc73_ok: XCok C 85 xc73 where
 fn:=⟨Tryz.f85,_,_,_,_,_,_,_,_,by kernel_rfl,rfl,rfl,rfl⟩
 cl:=⟨Tryz.f88,_,_,_,_,_,by kernel_rfl,rfl,rfl,rfl,by kernel_rfl⟩
 ok:=⟨by kernel_rfl,by kernel_rfl,by kernel_rfl,by kernel_rfl,by kernel_rfl⟩
 lt:=⟨of_decide_eq_true (by kernel_rfl),of_decide_eq_true (by kernel_rfl),fun t ht=>of_decide_eq_true (List.all_eq_true.1 (show xc73.caps.all (fun t=>decide (t<xc73.n))=true by kernel_rfl) t ht),of_decide_eq_true (by kernel_rfl),of_decide_eq_true (by kernel_rfl)⟩
theorem xc73_n: ∃fn,C.P.funcs[85]?=some fn/\fn.body.isNone=false/\(fn.name == "runtime.NumGoroutine")=false:=⟨Tryz.f85,by kernel_rfl,by kernel_rfl,by kernel_rfl⟩
theorem xc73_a: zcode xc73.a=some zn73_1:=by kernel_rfl
theorem xc73_b: zcode xc73.b=some zn73_3:=by kernel_rfl
theorem xc73_p: zcode xc73.post=some V1s:=by kernel_rfl
theorem xc73_r: zcode xc73.rest=some K1y:=by kernel_rfl
theorem xc73_rs: xc73.rs=[.cell 2 117,.cell 3 4]:=by kernel_rfl
theorem xc73_z: xc73.k=7/\xc73.g=88/\xc73.caps=[2,3]/\xc73.gd=5/\xc73.rs=[.cell 2 117,.cell 3 4]/\(∀p:Hp,Cl.xalloc C p 4=.ret (.ptr p.n []) (p.new (.var .s (Bo false)))):=⟨rfl,rfl,rfl,rfl,xc73_rs,fun p=>by simp only[Cl.xalloc,tt4,ti4]⟩
end Go.Proofs.YtpchcfkebljopaaGreat
end
section
namespace Go.Proofs.YtpchcfkebljopaaGreat
open Go.Cl Go Go.RowKit
set_option maxRecDepth 100000
set_option linter.constructorNameAsVariable false
noncomputable def resC(i:Nat)(p:Hp)(r:Except (Int×Int) Z0a): XRes:=
 match r with
 |.ok m'=>.ret (.tup [(X0c.mk 0 0).cv,Bo false]) (p.set i (some (.var sh131 m'.cv)))
 |.error c=>.ret (.tup [(X0c.mk c.1 c.2).cv,Bo true]) (p.set i none)
def R73: Rel:=fun args p r=>∃(i:Nat) (m:Z0a),args=[.fn 86 [.ptr i []] []]/\(p.t.get i=some (.var sh131 m.cv))/\(0<=m.at_/\m.at_<=m.l_.l.length)/\(m.l_.l.length<=100000)/\(m.e_.Shots.tl≠.view)/\(m.e_.Shots.l.length<=100000)/\r=resC i p (Mach.run 64 m)
theorem t73{T:XCall}(h:Has T 85 R73)(i:Nat)(m:Z0a){p:Hp}(h1:p.t.get i=some (.var sh131 m.cv))(h2:0<=m.at_/\m.at_<=m.l_.l.length)(hl:m.l_.l.length<=100000)(h3:m.e_.Shots.tl≠.view)(h4:m.e_.Shots.l.length<=100000): T 85 [.fn 86 [.ptr i []] []] p=resC i p (Mach.run 64 m):=h _ _ _ ⟨i,m,rfl,h1,h2,hl,h3,h4,rfl⟩
theorem zq73{A B:Prop}(k:B)(h:A=B:=by((try simp -dsimp (disch:=first|exact zdis|fail) only[zcore,zall,zopm,zop,zcallOp,qop,qbuiltin,ofOpt,List.map,reduceCtorEq,if_true,if_false,↓reduceIte,zbin,eqRes,qassert,qnum,qshift,qun,kindOf,allocV,List.nil_append,List.append_nil,List.cons_append,List.length_cons,List.length_nil,Nat.reduceAdd,Nat.reduceEqDiff,Nat.reduceLT,Nat.reduceSub,Nat.reduceMul,Int.reduceToNat,Int.reduceLE,Int.reduceLT,Int.reduceEq,Int.reduceNeg,Int.reduceAdd,Int.reduceSub,beq_self_eq_true,cond_true,cond_false,isConstOpd,xpanic,xconv,isBytes,qconv,List.length_map,List.map_nil,List.map_cons,concrete,Option.some.injEq,exists_eq',Option.map_some,Option.map_none,List.getElem?_cons_zero,List.getElem?_cons_succ,zw73,rs73,xc73_z,zw149,qcA_n,qcB_n,qcP_n,qcP_r,qcP_p,qcE_n,qcE_r,tt1,tt4,tt5,tt20,tt44,tt194,ti1,ti4,ti5,ti20,ti44,ti194,t_74,Q0q,Q0z,K0f,resR,fault,h1,h2,hl,h3,h4,zx,hc]);rfl)): A:=h▸k
theorem zno73{P:Prop}(h:P:=by intro jj;simp[CV.has,CV.hasL,fault,Z0b.nohas,X0c.nohas,Z0b.nohas]): P:=h
theorem zge73{P:Prop}(h:P:=by simp (disch:=first|exact zdl|fail) only[zheap,h1];first|done|rfl): P:=h
theorem c73: Con C 85 R73:=by
 refine K0e C ?_ ?_ ?_
 ·rintro args p r r' ⟨i,m,h,h1,h2,hl,h3,h4,e⟩ ⟨i',m',h',h1',h2',hl',h3',h4',e'⟩
  subst e;subst e';simp_all[X0c.inj_iff,Z0b.inj_iff,Z0a.inj_iff]
 ·rintro args p r ⟨i,m,h,h1,h2,hl,h3,h4,rfl⟩;first|(split<;>simp;done)|(simp;done)|(simp only[resM];split<;>simp;done)|(simp only[resD];split<;>simp;done)  | (unfold resC;split<;>simp;done)
 ·rintro args p r ⟨i,m,rfl,h1,h2,hl,h3,h4,rfl⟩
  refine ans_catch C false noExt (tabL C [(86,R74)]) xc73_ok (noExt_ok C) (Q0r C _) xc73_a xc73_b xc73_p xc73_r (by kernel_rfl) (Nat.le_of_ble_eq_true (by kernel_rfl)) xc73_n fun hF=>?_
  have t_74:=@t74 (tabL C [(86,R74)]) (Q0s C c74 [])
  generalize tabL C [(86,R74)]=call at t_74 ⊢
  have hd_h1:=hF.dom _ _ h1
  show W C false noExt call zn73_1 (argE [.fn 86 [.ptr i []] []]) p (qcA C false noExt call zn73_3 V1s K1y xc73 _)
  cases hr:Mach.run 64 m with
  |ok m'=>
   (have zx:=zA hr h1;refine zq73 ?_;try exact zT)
   repeat'(apply zK.s<;>intro hc<;>(try simp only[zhd]at hc)<;>(try have hw:=X0a hc)<;>(refine zq73 ?_;try exact zT))
   all_goals(try clear zx)
   obtain⟨k1,k2⟩:=Mach.run_keeps 64 m m' hr h2.1
   refine Y0k hF hd_h1 zlm ⟨_,zge73,Q0o fun j hj=>hF.lt_obj (.arg (a:=CV.fn 86 [CV.ptr i []] []) (by simp) (by simp[CV.has,CV.hasL])) h1 j ?_⟩ (Y0d (Z0c zno73))
   simp only[XObj.has,Z0a.has,Q0c.has]at hj ⊢
   rw[k2]at hj
   rcases k1 with e|e<;>simp_all
  |error c=>
   (have zx:=zA hr h1;refine zq73 ?_;try exact zT)
   repeat'(apply zK.s<;>intro hc<;>(try simp only[zhd]at hc)<;>(try have hw:=X0a hc)<;>(refine zq73 ?_;try exact zT))
   all_goals(try clear zx)
   exact shr_drop hF zlm (Y0d (Z0c zno73))
def R72: Rel:=fun args p r=>∃(e:Q0c),args=[e.cv]/\(e.Shots.tl≠.view)/\(e.Shots.l.length<=1000000)/\r=.ret (copiedE e).cv p
theorem t72{T:XCall}(h:Has T 84 R72)(e:Q0c){p:Hp}(h1:e.Shots.tl≠.view)(h2:e.Shots.l.length<=1000000): T 84 [e.cv] p=.ret (copiedE e).cv p:=h _ _ _ ⟨e,rfl,h1,h2,rfl⟩
theorem zq72{A B:Prop}(k:B)(h:A=B:=by have zy:=zA @zw72<|zA @rs72<|zA @tt37<|zA @tt39<|zA ti37.eq_1<|zA ti39.eq_1<|zA @t_148<|zA @X0j<|zA @Q0e<|zA @zsl37<|zA @h1<|@h2;exact zQ): A:=h▸k
theorem c72: Con C 84 R72:=by
 refine K0e C ?_ ?_ ?_
 ·rintro args p r r' ⟨e,h,h1,h2,e⟩ ⟨e',h',h1',h2',e'⟩
  subst e;subst e';simp_all[Q0c.inj_iff,Q0a.inj_iff,K0q]
 ·rintro args p r ⟨e,h,h1,h2,rfl⟩;exact zr1
 ·rintro args p r ⟨e,rfl,h1,h2,rfl⟩
  refine zW C false [(87,R148)] ⟨c148,zT⟩ rfl xf72 zc72_ok fun call zh hF=>?_
  have t_148:=@t148 _ zh.1
  clear zh
  cases hco:cloneOwn e.Shots
  all_goals(have zx:=hco;refine zq72 ?_;try exact zT)
  repeat'(apply zK.s<;>intro hc<;>(try simp only[zhd]at hc)<;>(try have hw:=X0a hc)<;>(refine zq72 ?_;try exact zT))
  all_goals(try clear zx)
  all_goals
   refine K0d hF zle ?_
   have h1:CV.weak (fun k=>k) p.n e.Body.cv e.Body.cv:=Y0d (Z0c (Q0a.nohas _))
   have h2:CV.weak (fun k=>k) p.n e.In.cv e.In.cv:=Y0d (Z0c (K0b.nohas _))
   have h5:=weak_clone Q0a.nohas e.Shots (p.n+1+1) p.n
   simp only[copiedE,Q0c.cv,CV.weak,CV.weakL]
   exact⟨h1,h2,trivial,trivial,h5,trivial⟩
def R25: Rel:=fun args p r=>∃(l:Lst K0c) (e:Q0c),args=[l.cv K0c.cv,e.cv]/\(l.l.length<=100000)/\(e.Shots.tl≠.view)/\(e.Shots.l.length<=100000)/\r=.ret (.tup [(ruleRun l e).1.cv,(ruleRun l e).2.1.cv,Bo (ruleRun l e).2.2]) p
theorem t25{T:XCall}(h:Has T 76 R25)(l:Lst K0c)(e:Q0c){p:Hp}(hl:l.l.length<=100000)(h1:e.Shots.tl≠.view)(h2:e.Shots.l.length<=100000): T 76 [l.cv K0c.cv,e.cv] p=.ret (.tup [(ruleRun l e).1.cv,(ruleRun l e).2.1.cv,Bo (ruleRun l e).2.2]) p:=h _ _ _ ⟨l,e,rfl,hl,h1,h2,rfl⟩
theorem zdis25{P:Prop}(h:P:=by first|exact zdis|(simp only[Hp.bump_n,Hp.znew_n,Hp.zset_n,List.length_nil,List.length_cons,List.length_append,List.length_map,Y0y];(first|done|omega))|(simp (disch:=first|exact zd1|(simp only[Hp.bump_n,Hp.znew_n,Hp.zset_n,List.length_nil,List.length_cons,List.length_append,List.length_map,Y0y];(first|done|omega))) only[zheap,zx];(first|done|rfl))|fail): P:=h
theorem zq25{A B:Prop}(k:B)(h:A=B:=by((try simp -dsimp (disch:=first|exact zdis25|fail) only[zcore,zall,zopm,zop,zcallOp,qop,qbuiltin,ofOpt,List.map,reduceCtorEq,if_true,if_false,↓reduceIte,zbin,eqRes,qassert,qnum,qshift,qun,kindOf,allocV,List.nil_append,List.append_nil,List.cons_append,List.length_cons,List.length_nil,Nat.reduceAdd,Nat.reduceEqDiff,Nat.reduceLT,Nat.reduceSub,Nat.reduceMul,Int.reduceToNat,Int.reduceLE,Int.reduceLT,Int.reduceEq,Int.reduceNeg,Int.reduceAdd,Int.reduceSub,beq_self_eq_true,cond_true,cond_false,isConstOpd,xpanic,xconv,isBytes,qconv,List.length_map,List.map_nil,List.map_cons,concrete,Option.some.injEq,exists_eq',Option.map_some,Option.map_none,List.getElem?_cons_zero,List.getElem?_cons_succ,zw25,rs25,tt3,tt34,tt39,tt44,tt131,ti3,ti34,ti39,ti44,ti131,t_24,t_72,t_73,K0f,X0j,Q0e,Q0q,resC,hl,h1,h2,zx,hc]);rfl)): A:=h▸k
theorem c25: Con C 76 R25:=by
 refine K0e C ?_ ?_ ?_
 ·rintro args p r r' ⟨l,e,h,hl,h1,h2,e⟩ ⟨l',e',h',hl',h1',h2',e'⟩
  subst e;subst e';simp_all[Z0a.inj_iff,Q0c.inj_iff,Q0a.inj_iff,X0c.inj_iff,V0i]
 ·rintro args p r ⟨l,e,h,hl,h1,h2,rfl⟩;exact zr1
 ·rintro args p r ⟨l,e,rfl,hl,h1,h2,rfl⟩
  refine zW C false [(57,R24),(84,R72),(85,R73)] ⟨c24,c72,c73,zT⟩ rfl xf25 zc25_ok fun call zh hF=>?_
  have t_24:=@t24 _ zh.1
  have t_72:=@t72 _ zh.2.1
  have t_73:=@t73 _ zh.2.2.1
  clear zh
  have hv:(copiedE e).Shots.tl≠.view:=cloneP_nv e.Shots
  have hv2:(copiedE e).Shots.l.length<=100000:=by show(cloneP e.Shots).l.length<=_;rw[Y0y];exact h2
  have hn:∀j,¬(copiedE e).cv.has j:=fun j h=>cloneP_no e.Shots j ((Q0c.has _ j).1 h)
  cases hr:Mach.run 64 ⟨copiedE e,l,0⟩ with
  |error c=>
   (have zx:=hr;refine zq25 ?_;try exact zT)
   repeat'(apply zK.s<;>intro hc<;>(try simp only[zhd]at hc)<;>(try have hw:=X0a hc)<;>(refine zq25 ?_;try exact zT))
   all_goals(try clear zx)
   all_goals
    simp[ruleRun, *]
    refine K0d hF zle (Y0d (Z0c fun j hj=>?_))
    simp[CV.has,CV.hasL,X0c.nohas]at hj
    exact hn j hj
  |ok m'=>
   have hn':∀j,¬m'.e_.cv.has j:=fun j h=>by
    have h:=(Q0c.has _ j).1 h
    rcases(Mach.run_keeps 64 _ m' hr (Int.le_refl _)).1 with k|k
    ·rw[k]at h;exact cloneP_no e.Shots j h
    ·rw[k]at h;cases h
   (have zx:=hr;refine zq25 ?_;try exact zT)
   repeat'(apply zK.s<;>intro hc<;>(try simp only[zhd]at hc)<;>(try have hw:=X0a hc)<;>(refine zq25 ?_;try exact zT))
   all_goals(try clear zx)
   all_goals
    simp[ruleRun, *]
    refine K0d hF zle (Y0d (Z0c fun j hj=>?_))
    simp[CV.has,CV.hasL,X0c.nohas]at hj
    first|exact hn j hj|exact hn' j hj
end Go.Proofs.YtpchcfkebljopaaGreat
end
section
namespace Go.Proofs.YtpchcfkebljopaaGreat
open Go.Cl Go Go.RowKit
set_option maxRecDepth 100000
end Go.Proofs.YtpchcfkebljopaaGreat
end
section
namespace Go.Proofs.YtpchcfkebljopaaGreat
open Go.Cl Go Go.RowKit
set_option maxRecDepth 100000
set_option linter.constructorNameAsVariable false
def R37: Rel:=fun args p r=>∃(n m:Int),args=[I n,I m]/\(0<m)/\(m<=9223372036854775807)/\r=.ret (I (pick n m)) p
theorem t37{T:XCall}(h:Has T 6 R37)(n m:Int){p:Hp}(h1:0<m)(h2:m<=9223372036854775807): T 6 [I n,I m] p=.ret (I (pick n m)) p:=h _ _ _ ⟨n,m,rfl,h1,h2,rfl⟩
theorem zq37{A B:Prop}(k:B)(h:A=B:=by have zy:=zA @zw37<|zA @rs37<|zA @tt3<|zA ti3.eq_1<|zA @h1<|@h2;exact zQ): A:=h▸k
theorem zno37{P:Prop}(h:P:=by intro jj;simp[CV.has,CV.hasL,fault,Z0b.nohas]): P:=h
theorem c37: Con C 6 R37:=by
 refine K0e C ?_ ?_ ?_
 ·rintro args p r r' ⟨n,m,h,h1,h2,e⟩ ⟨n',m',h',h1',h2',e'⟩
  subst e;subst e';simp_all
 ·rintro args p r ⟨n,m,h,h1,h2,rfl⟩;exact zr1
 ·rintro args p r ⟨n,m,rfl,h1,h2,rfl⟩
  refine zW C false [] zT rfl xf37 zc37_ok fun call zh hF=>?_
  clear zh
  have hm:=Int.tmod_lt_of_pos n h1
  have hm2:=Int.lt_tmod_of_pos n h1
  (have zx:=zT;refine zq37 ?_;try exact zT)
  repeat'(apply zK.s<;>intro hc<;>(try simp only[zhd,zhn]at hc)<;>(try have hw:=X0a hc)<;>(refine zq37 ?_;try exact zT))
  all_goals(try clear zx)
  all_goals refine K0d hF zle (Y0c ?_ (Z0c zno37))
  all_goals(simp[pick,hc]<;>omega)
def R64: Rel:=fun args p r=>∃(o k:Int),args=[I o,I k]/\r=.ret (bodyBorn o k).cv p
theorem t64{T:XCall}(h:Has T 37 R64)(o k:Int){p:Hp}:T 37 [I o,I k] p=.ret (bodyBorn o k).cv p:=h _ _ _ ⟨o,k,rfl,rfl⟩
theorem zq64{A B:Prop}(k:B)(h:A=B:=by have zy:=zA @zw64<|zA @rs64<|zA @tt3<|zA @tt34<|zA ti3.eq_1<|zA ti34.eq_1<|zA @t_140<|@Q0e;exact zQ): A:=h▸k
theorem zno64{P:Prop}(h:P:=by intro jj;simp[CV.has,CV.hasL,fault,Z0b.nohas,Q0a.nohas]): P:=h
theorem c64: Con C 37 R64:=by
 refine K0e C ?_ ?_ ?_
 ·rintro args p r r' ⟨o,k,h,e⟩ ⟨o',k',h',e'⟩
  subst e;subst e';simp_all[Q0a.inj_iff]
 ·rintro args p r ⟨o,k,h,rfl⟩;exact zr1
 ·rintro args p r ⟨o,k,rfl,rfl⟩
  refine zW C false [(58,R140)] ⟨c140,zT⟩ rfl xf64 zc64_ok fun call zh hF=>?_
  have t_140:=@t140 _ zh.1
  clear zh
  have h1:1<=brought k 1 8/\brought k 1 8<=8:=by unfold brought;omega
  have h2:0<=brought o 0 (brought k 1 8-1)/\brought o 0 (brought k 1 8-1)<=7:=by
   have:∀a b:Int,0<=b->b<=7->0<=brought a 0 b/\brought a 0 b<=7:=by intro a b _ _;unfold brought;omega
   exact this _ _ (by omega) (by omega)
  (have zx:=zT;refine zq64 ?_;try exact zT)
  repeat'(apply zK.s<;>intro hc<;>(try simp only[zhd,zhn]at hc)<;>(try have hw:=X0a hc)<;>(refine zq64 ?_;try exact zT))
  all_goals(try clear zx)
  exact K0d hF zle (Y0c rfl (Z0c zno64))
def R69: Rel:=fun args p r=>∃(n k:Int),args=[I n,I k]/\(-9223372036854775808<=k/\k<=9223372036854775807)/\r=.ret (handInput n k).cv p
theorem t69{T:XCall}(h:Has T 69 R69)(n k:Int){p:Hp}(h1:-9223372036854775808<=k/\k<=9223372036854775807): T 69 [I n,I k] p=.ret (handInput n k).cv p:=h _ _ _ ⟨n,k,rfl,h1,rfl⟩
theorem zq69{A B:Prop}(k:B)(h:A=B:=by have zy:=zA @zw69<|zA @rs69<|zA @tt3<|zA @tt36<|zA ti3.eq_1<|zA ti36.eq_1<|zA @t_37<|zA @K0h<|@h1;exact zQ): A:=h▸k
theorem zno69{P:Prop}(h:P:=by intro jj;simp[CV.has,CV.hasL,fault,Z0b.nohas,K0b.nohas]): P:=h
theorem c69: Con C 69 R69:=by
 refine K0e C ?_ ?_ ?_
 ·rintro args p r r' ⟨n,k,h,h1,e⟩ ⟨n',k',h',h1',e'⟩
  subst e;subst e';simp_all[K0b.inj_iff]
 ·rintro args p r ⟨n,k,h,h1,rfl⟩;exact zr1
 ·rintro args p r ⟨n,k,rfl,h1,rfl⟩
  refine zW C false [(6,R37)] ⟨c37,zT⟩ rfl xf69 zc69_ok fun call zh hF=>?_
  have t_37:=@t37 _ zh.1
  clear zh
  (have zx:=zT;refine zq69 ?_;try exact zT)
  repeat'(apply zK.s<;>intro hc<;>(try simp only[zhd,zhn]at hc)<;>(try have hw:=X0a hc)<;>(refine zq69 ?_;try exact zT))
  all_goals(try clear zx)
  exact K0d hF zle (Y0c rfl (Z0c zno69))
def R21: Rel:=fun args p r=>∃(x:V0b),args=[x.cv]/\r=.ret (handOp x).cv p
theorem t21{T:XCall}(h:Has T 49 R21)(x:V0b){p:Hp}:T 49 [x.cv] p=.ret (handOp x).cv p:=h _ _ _ ⟨x,rfl,rfl⟩
theorem zq21{A B:Prop}(k:B)(h:A=B:=by have zy:=zA @zw21<|zA @rs21<|zA @tt3<|zA @tt29<|zA @tt31<|zA ti3.eq_1<|zA ti29.eq_1<|zA ti31.eq_1<|zA @t_37<|zA @V03<|@K0i;exact zQ): A:=h▸k
theorem zno21{P:Prop}(h:P:=by intro jj;simp[CV.has,CV.hasL,fault,Z0b.nohas,V0b.nohas,K0c.nohas]): P:=h
theorem c21: Con C 49 R21:=by
 refine K0e C ?_ ?_ ?_
 ·rintro args p r r' ⟨x,h,e⟩ ⟨x',h',e'⟩
  subst e;subst e';simp_all[V0b.inj_iff,K0c.inj_iff]
 ·rintro args p r ⟨x,h,rfl⟩;exact zr1
 ·rintro args p r ⟨x,rfl,rfl⟩
  refine zW C false [(6,R37)] ⟨c37,zT⟩ rfl xf21 zc21_ok fun call zh hF=>?_
  have t_37:=@t37 _ zh.1
  clear zh
  (have zx:=zT;refine zq21 ?_;try exact zT)
  repeat'(apply zK.s<;>intro hc<;>(try simp only[zhd,zhn]at hc)<;>(try have hw:=X0a hc)<;>(refine zq21 ?_;try exact zT))
  all_goals(try clear zx)
  all_goals refine K0d hF zle (Y0c ?_ (Z0c zno21))
  all_goals simp[handOp, *]
end Go.Proofs.YtpchcfkebljopaaGreat
end
section
namespace Go.Proofs.YtpchcfkebljopaaGreat
open Go.Cl Go Go.RowKit
set_option maxRecDepth 100000
def Z1u:=ZC.reg [zu 7 (.box 24 (Tm 0)),zv 14 (.assign (.const (.bool false)))]
def Q1z:=ZC.reg [zu 18 (zld 24 7),zu 19 (zcf 4 [Tm 18] [24]),zu 15 (.alloc 31),zv0 (.store 31 (Tm 15) (Tm 19))]
def K10:=ZC.reg [zu 20 (zld 31 15),zu 21 (zmv 1),zu 22 (zcf 5 [Tm 20,Tm 21] [31,25]),zu 16 (.alloc 40),zv0 (.store 40 (Tm 16) (Tm 22))]
def V1z:=ZC.reg [zu 23 (zmv 3),zu 24 (zcf 6 [Tm 23,Kn 16] [3,3]),zv 17 (zas 24)]
def zn1003_10:=ZC.reg [zu 25 (zmv 2),zv 26 (zcf 6 [Tm 25,Kn 24] [3,3])]
def zn1003_13:=ZC.reg [zu 28 (.binOp .eql 3 (Tm 26) (Kn 0) 3),zv 27 (zas 28)]
def zn1003_15:=ZC.reg [zu 29 (zmv 4),zu 30 (zfa 31 15 0),zv0 (.store 3 (Tm 30) (Tm 29))]
def zn1003_17:=ZC.reg [zu 32 (.binOp .eql 3 (Tm 26) (Kn 1) 3),zv 31 (zas 32)]
def zn1003_19:=ZC.reg [zu 33 (zmv 4),zu 34 (zfa 31 15 1),zv0 (.store 3 (Tm 34) (Tm 33))]
def zn1003_21:=ZC.reg [zu 36 (.binOp .eql 3 (Tm 26) (Kn 2) 3),zv 35 (zas 36)]
def zn1003_23:=ZC.reg [zu 37 (zmv 4),zu 38 (zfa 31 15 2),zv0 (.store 3 (Tm 38) (Tm 37))]
def zn1003_25:=ZC.reg [zu 40 (.binOp .eql 3 (Tm 26) (Kn 3) 3),zv 39 (zas 40)]
def zn1003_27:=ZC.reg [zu 41 (zmv 4),zu 42 (zfa 31 15 4),zv0 (.store 3 (Tm 42) (Tm 41))]
def zn1003_29:=ZC.reg [zu 44 (.binOp .eql 3 (Tm 26) (Kn 4) 3),zv 43 (zas 44)]
def zn1003_31:=ZC.reg [zu 45 (zmv 4),zu 46 (zfa 31 15 5),zv0 (.store 3 (Tm 46) (Tm 45))]
def zn1003_33:=ZC.reg [zu 48 (.binOp .eql 3 (Tm 26) (Kn 5) 3),zv 47 (zas 48)]
def zn1003_35:=ZC.reg [zu 49 (zmv 4),zu 50 (zmv 6),zu 51 (zcf 7 [Tm 49,Tm 50] [3,27]),zu 52 (zfa 31 15 6),zv0 (.store 27 (Tm 52) (Tm 51))]
def zn1003_37:=ZC.reg [zu 54 (.binOp .eql 3 (Tm 26) (Kn 6) 3),zv 53 (zas 54)]
def zn1003_39:=ZC.reg [zu 55 (zmv 4),zu 56 (zmv 6),zu 57 (zcf 7 [Tm 55,Tm 56] [3,27]),zu 58 (zfa 31 15 7),zv0 (.store 27 (Tm 58) (Tm 57))]
def zn1003_41:=ZC.reg [zu 60 (.binOp .eql 3 (Tm 26) (Kn 7) 3),zv 59 (zas 60)]
def zn1003_43:=ZC.reg [⟨some 61,.buildSlice 29 0 ⟨[]⟩,none,false⟩,zu 62 (zfa 31 15 9),zu 63 (zld 29 62),zu 64 (zcb .append [Tm 61,Tm 63] [29,29]),zu 65 (zmv 4),⟨some 66,.buildSlice 29 1 ⟨[(0,.tmp 65)]⟩,none,false⟩,zu 67 (zcb .append [Tm 64,Tm 66] [29,29]),zu 68 (zfa 31 15 9),zv0 (.store 29 (Tm 68) (Tm 67))]
def zn1003_45:=ZC.reg [zu 70 (.binOp .eql 3 (Tm 26) (Kn 8) 3),zv 69 (zas 70)]
def zn1003_47:=ZC.reg [⟨some 71,.buildSlice 28 0 ⟨[]⟩,none,false⟩,zu 72 (zfa 31 15 8),zu 73 (zld 28 72),zu 74 (zcb .append [Tm 71,Tm 73] [28,28]),zu 75 (zmv 4),zu 76 (zmv 3),zu 77 (zmv 2),⟨some 78,.build 45 ⟨[(0,.tmp 75),(1,.tmp 76),(2,.tmp 77)]⟩,none,false⟩,⟨some 79,.buildSlice 28 1 ⟨[(0,.tmp 78)]⟩,none,false⟩,zu 80 (zcb .append [Tm 74,Tm 79] [28,28]),zu 81 (zfa 31 15 8),zv0 (.store 28 (Tm 81) (Tm 80))]
def zn1003_49:=ZC.reg [zu 83 (.binOp .eql 3 (Tm 26) (Kn 9) 3),zv 82 (zas 83)]
def zn1003_51:=ZC.reg [zu 84 (zmv 4),zu 85 (zfa 31 15 3),zv0 (.store 3 (Tm 85) (Tm 84))]
def zn1003_53:=ZC.reg [zu 87 (.binOp .eql 3 (Tm 26) (Kn 10) 3),zv 86 (zas 87)]
def zn1003_55:=ZC.reg [zu 88 (zmv 17),zu 89 (zmv 4),zu 90 (zcf 6 [Tm 89,Kn 4] [3,3]),zu 91 (zfa 40 16 2),zu 92 (zia 37 91 88),zu 93 (zfa 36 92 0),zv0 (.store 3 (Tm 93) (Tm 90))]
def zn1003_57:=ZC.reg [zu 95 (.binOp .eql 3 (Tm 26) (Kn 11) 3),zv 94 (zas 95)]
def zn1003_59:=ZC.reg [zu 96 (zmv 17),zu 97 (zmv 4),zu 98 (zfa 40 16 2),zu 99 (zia 37 98 96),zu 100 (zfa 36 99 1),zv0 (.store 3 (Tm 100) (Tm 97))]
def zn1003_61:=ZC.reg [zu 102 (.binOp .eql 3 (Tm 26) (Kn 12) 3),zv 101 (zas 102)]
def zn1003_63:=ZC.reg [zu 103 (zmv 17),zu 104 (zmv 4),zu 105 (zfa 40 16 2),zu 106 (zia 37 105 103),zu 107 (zfa 36 106 2),zv0 (.store 3 (Tm 107) (Tm 104))]
def zn1003_65:=ZC.reg [zu 109 (.binOp .eql 3 (Tm 26) (Kn 13) 3),zv 108 (zas 109)]
def zn1003_67:=ZC.reg [zu 110 (zmv 3),zu 111 (zcf 6 [Tm 110,Kn 8] [3,3]),zu 112 (zmv 4),zu 113 (zfa 40 16 3),zu 114 (zia 38 113 111),zv0 (.store 3 (Tm 114) (Tm 112))]
def zn1003_69:=ZC.reg [zu 116 (.binOp .eql 3 (Tm 26) (Kn 14) 3),zv 115 (zas 116)]
def zn1003_71:=ZC.reg [zu 117 (zmv 4),zu 118 (zfa 40 16 0),zv0 (.store 3 (Tm 118) (Tm 117))]
def zn1003_73:=ZC.reg [zu 120 (.binOp .eql 3 (Tm 26) (Kn 15) 3),zv 119 (zas 120)]
def zn1003_75:=ZC.reg [zu 121 (zfa 40 16 0),zv0 (.store 3 (Tm 121) (Kn 600))]
def zn1003_77:=ZC.reg [zu 123 (.binOp .eql 3 (Tm 26) (Kn 16) 3),zv 122 (zas 123)]
def zn1003_79:=ZC.reg [zu 124 (zmv 17),zu 125 (zmv 4),zu 126 (zcf 6 [Tm 125,Kn 9] [3,3]),⟨some 127,.build 36 ⟨[(0,.const (.int .i64 2)),(1,.tmp 126),(2,.const (.int .i64 100)),(3,.const (.int .i64 100)),(4,.const (.int .i64 3))]⟩,none,false⟩,zu 128 (zfa 40 16 2),zu 129 (zia 37 128 124),zv0 (.store 36 (Tm 129) (Tm 127))]
def zn1003_78:=ZC.cond (Tm 122) zn1003_79 ZC.skip
def zn1003_76:=ZC.seq zn1003_77 zn1003_78
def zn1003_74:=ZC.cond (Tm 119) zn1003_75 zn1003_76
def zn1003_72:=ZC.seq zn1003_73 zn1003_74
def zn1003_70:=ZC.cond (Tm 115) zn1003_71 zn1003_72
def zn1003_68:=ZC.seq zn1003_69 zn1003_70
def zn1003_66:=ZC.cond (Tm 108) zn1003_67 zn1003_68
def zn1003_64:=ZC.seq zn1003_65 zn1003_66
def zn1003_62:=ZC.cond (Tm 101) zn1003_63 zn1003_64
def zn1003_60:=ZC.seq zn1003_61 zn1003_62
def zn1003_58:=ZC.cond (Tm 94) zn1003_59 zn1003_60
def zn1003_56:=ZC.seq zn1003_57 zn1003_58
def zn1003_54:=ZC.cond (Tm 86) zn1003_55 zn1003_56
def zn1003_52:=ZC.seq zn1003_53 zn1003_54
def zn1003_50:=ZC.cond (Tm 82) zn1003_51 zn1003_52
def zn1003_48:=ZC.seq zn1003_49 zn1003_50
def zn1003_46:=ZC.cond (Tm 69) zn1003_47 zn1003_48
def zn1003_44:=ZC.seq zn1003_45 zn1003_46
def zn1003_42:=ZC.cond (Tm 59) zn1003_43 zn1003_44
def zn1003_40:=ZC.seq zn1003_41 zn1003_42
def zn1003_38:=ZC.cond (Tm 53) zn1003_39 zn1003_40
def zn1003_36:=ZC.seq zn1003_37 zn1003_38
def zn1003_34:=ZC.cond (Tm 47) zn1003_35 zn1003_36
def zn1003_32:=ZC.seq zn1003_33 zn1003_34
def zn1003_30:=ZC.cond (Tm 43) zn1003_31 zn1003_32
def zn1003_28:=ZC.seq zn1003_29 zn1003_30
def zn1003_26:=ZC.cond (Tm 39) zn1003_27 zn1003_28
def zn1003_24:=ZC.seq zn1003_25 zn1003_26
def zn1003_22:=ZC.cond (Tm 35) zn1003_23 zn1003_24
def zn1003_20:=ZC.seq zn1003_21 zn1003_22
def zn1003_18:=ZC.cond (Tm 31) zn1003_19 zn1003_20
def zn1003_16:=ZC.seq zn1003_17 zn1003_18
def zn1003_14:=ZC.cond (Tm 27) zn1003_15 zn1003_16
def zn1003_12:=ZC.seq zn1003_13 zn1003_14
def zn1003_11:=ZC.block 0 zn1003_12
def Z1w:=ZC.seq zn1003_10 zn1003_11
def zn1003_81:=ZC.draw 36 [] [zdd 0 130 (zcf 8 [] []) true [] [] false,zdd 1 131 (zmv 130) true [] [] false,⟨2,some 132,zld 31 15,some (131,true),false,[],[],false⟩,⟨3,some 133,zcf 9 [Tm 132] [31],some (131,true),false,[],[],true⟩,⟨4,some 134,zld 31 15,some (131,true),true,[3],[],false⟩,⟨5,some 135,zcf 10 [Tm 134] [31],some (131,true),true,[],[],false⟩,⟨6,some 136,.binOp .eql 4 (Tm 133) (Tm 135) 4,some (131,true),true,[],[],false⟩,zdd 7 137 (.pick (Tm 131) (Tm 136) (.const (.bool false))) true [] [] false,zdd 8 138 (zmv 137) true [] [] false,⟨9,some 139,zld 31 15,some (138,true),false,[],[],false⟩,⟨10,some 140,zld 40 16,some (138,true),false,[],[],false⟩,⟨11,some 141,zcf 11 [Tm 139,Tm 140] [31,40],some (138,true),false,[],[],true⟩,⟨12,some 142,zld 31 15,some (138,true),false,[11],[],false⟩,⟨13,some 143,zld 40 16,some (138,true),true,[11],[],false⟩,⟨14,some 144,zcf 12 [Tm 142,Tm 143] [31,40],some (138,true),true,[],[],false⟩,⟨15,some 145,.binOp .eql 4 (Tm 141) (Tm 144) 4,some (138,true),true,[],[],false⟩,zdd 16 146 (.pick (Tm 138) (Tm 145) (.const (.bool false))) true [] [] false,zdd 17 147 (zmv 146) true [] [] false,⟨18,some 148,zld 31 15,some (147,true),false,[],[],false⟩,⟨19,some 149,zcf 13 [Tm 148] [31],some (147,true),false,[],[],true⟩,⟨20,some 150,zld 31 15,some (147,true),true,[19],[],false⟩,⟨21,some 151,zcf 14 [Tm 150] [31],some (147,true),true,[],[],false⟩,⟨22,some 152,.binOp .eql 40 (Tm 149) (Tm 151) 40,some (147,true),true,[],[],false⟩,zdd 23 153 (.pick (Tm 147) (Tm 152) (.const (.bool false))) true [] [] false,zdd 24 154 (zmv 153) true [] [] false,⟨25,some 155,zld 31 15,some (154,true),false,[],[],false⟩,⟨26,some 156,zld 40 16,some (154,true),false,[],[],false⟩,⟨27,some 157,zmv 5,some (154,true),false,[],[],false⟩,⟨28,some 158,zcf 15 [Tm 155,Tm 156,Tm 157] [31,40,26],some (154,true),false,[],[],true⟩,⟨29,some 159,zld 31 15,some (154,true),false,[28],[],false⟩,⟨30,some 160,zld 40 16,some (154,true),false,[28],[],false⟩,⟨31,some 161,zmv 5,some (154,true),true,[],[],false⟩,⟨32,some 162,zcf 16 [Tm 159,Tm 160,Tm 161] [31,40,26],some (154,true),true,[],[],false⟩,⟨33,some 163,.binOp .eql 40 (Tm 158) (Tm 162) 40,some (154,true),true,[],[],false⟩,zdd 34 164 (.pick (Tm 154) (Tm 163) (.const (.bool false))) true [] [] false,zdd 35 14 (zas 164) true [] [] false]
def X0v:=ZC.seq zn1003_81 ZC.ret
def zn1003_8:=ZC.seq Z1w X0v
def zn1003_6:=ZC.seq V1z zn1003_8
def zn1003_4:=ZC.seq K10 zn1003_6
def zn1003_2:=ZC.seq Q1z zn1003_4
def zn1003_0:=ZC.seq Z1u zn1003_2
def zc1003: ZC:=zn1003_0
theorem zc1003_ok: zcode (xfOf Tryz.f3).code=some zc1003:=by kernel_rfl
def zw1003:=zU C zc1003.eq_1<|zU C Z1u.eq_1<|zU C Q1z.eq_1<|zU C K10.eq_1<|zU C V1z.eq_1<|zU C zn1003_10.eq_1<|zU C zn1003_13.eq_1<|zU C zn1003_15.eq_1<|zU C zn1003_17.eq_1<|zU C zn1003_19.eq_1<|zU C zn1003_21.eq_1<|zU C zn1003_23.eq_1<|zU C zn1003_25.eq_1<|zU C zn1003_27.eq_1<|zU C zn1003_29.eq_1<|zU C zn1003_31.eq_1<|zU C zn1003_33.eq_1<|zU C zn1003_35.eq_1<|zU C zn1003_37.eq_1<|zU C zn1003_39.eq_1<|zU C zn1003_41.eq_1<|zU C zn1003_43.eq_1<|zU C zn1003_45.eq_1<|zU C zn1003_47.eq_1<|zU C zn1003_49.eq_1<|zU C zn1003_51.eq_1<|zU C zn1003_53.eq_1<|zU C zn1003_55.eq_1<|zU C zn1003_57.eq_1<|zU C zn1003_59.eq_1<|zU C zn1003_61.eq_1<|zU C zn1003_63.eq_1<|zU C zn1003_65.eq_1<|zU C zn1003_67.eq_1<|zU C zn1003_69.eq_1<|zU C zn1003_71.eq_1<|zU C zn1003_73.eq_1<|zU C zn1003_75.eq_1<|zU C zn1003_77.eq_1<|zU C zn1003_79.eq_1<|zU C zn1003_78.eq_1<|zU C zn1003_76.eq_1<|zU C zn1003_74.eq_1<|zU C zn1003_72.eq_1<|zU C zn1003_70.eq_1<|zU C zn1003_68.eq_1<|zU C zn1003_66.eq_1<|zU C zn1003_64.eq_1<|zU C zn1003_62.eq_1<|zU C zn1003_60.eq_1<|zU C zn1003_58.eq_1<|zU C zn1003_56.eq_1<|zU C zn1003_54.eq_1<|zU C zn1003_52.eq_1<|zU C zn1003_50.eq_1<|zU C zn1003_48.eq_1<|zU C zn1003_46.eq_1<|zU C zn1003_44.eq_1<|zU C zn1003_42.eq_1<|zU C zn1003_40.eq_1<|zU C zn1003_38.eq_1<|zU C zn1003_36.eq_1<|zU C zn1003_34.eq_1<|zU C zn1003_32.eq_1<|zU C zn1003_30.eq_1<|zU C zn1003_28.eq_1<|zU C zn1003_26.eq_1<|zU C zn1003_24.eq_1<|zU C zn1003_22.eq_1<|zU C zn1003_20.eq_1<|zU C zn1003_18.eq_1<|zU C zn1003_16.eq_1<|zU C zn1003_14.eq_1<|zU C zn1003_12.eq_1<|zU C zn1003_11.eq_1<|zU C Z1w.eq_1<|zU C zn1003_81.eq_1<|zU C X0v.eq_1<|zU C zn1003_8.eq_1<|zU C zn1003_6.eq_1<|zU C zn1003_4.eq_1<|zU C zn1003_2.eq_1<|(zunf C zn1003_0.eq_1)
theorem rs1003: (xfOf Tryz.f3).rs=[.tmp 14]:=by kernel_rfl
theorem xf1003: XFok C 3 (xfOf Tryz.f3):=by refine⟨Tryz.f3,?_,?_,?_,?_,?_,?_,?_⟩<;>kernel_rfl
def zn1007_1:=ZC.reg [zv 4 (.assign (.const (.float .f64 0)))]
def zn1007_4:=ZC.reg [zu 5 (zmv 0),zv 6 (zcf 6 [Tm 5,Kn 30] [3,3])]
def zn1007_7:=ZC.reg [zu 8 (.binOp .eql 3 (Tm 6) (Kn 0) 3),zv 7 (zas 8)]
def zn1007_10:=ZC.reg [zu 9 (zcf 20 [] []),zv 4 (zas 9)]
def zn1007_9:=ZC.seq zn1007_10 ZC.ret
def zn1007_12:=ZC.reg [zu 11 (.binOp .eql 3 (Tm 6) (Kn 1) 3),zv 10 (zas 11)]
def zn1007_15:=ZC.reg [zu 12 (zcf 21 [Kn 1] [3]),zv 4 (zas 12)]
def zn1007_14:=ZC.seq zn1007_15 ZC.ret
def zn1007_17:=ZC.reg [zu 14 (.binOp .eql 3 (Tm 6) (Kn 2) 3),zv 13 (zas 14)]
def zn1007_20:=ZC.reg [zu 15 (zcf 21 [Kn (-1)] [3]),zv 4 (zas 15)]
def zn1007_19:=ZC.seq zn1007_20 ZC.ret
def zn1007_22:=ZC.reg [zu 17 (.binOp .eql 3 (Tm 6) (Kn 3) 3),zv 16 (zas 17)]
def zn1007_25:=ZC.reg [zu 18 (zcf 22 [.const (.float .f64 0),.const (.float .f64 13830554455654793216)] [27,27]),zv 4 (zas 18)]
def zn1007_24:=ZC.seq zn1007_25 ZC.ret
def zn1007_27:=ZC.reg [zu 20 (.binOp .eql 3 (Tm 6) (Kn 4) 3),zv 19 (zas 20)]
def zn1007_30:=ZC.reg [zv 4 (.assign (.const (.float .f64 0)))]
def zn1007_29:=ZC.seq zn1007_30 ZC.ret
def zn1007_32:=ZC.reg [zu 22 (.binOp .eql 3 (Tm 6) (Kn 5) 3),zv 21 (zas 22)]
def zn1007_35:=ZC.reg [zv 4 (.assign (.const (.float .f64 4607182418800017408)))]
def zn1007_34:=ZC.seq zn1007_35 ZC.ret
def zn1007_37:=ZC.reg [zu 24 (.binOp .eql 3 (Tm 6) (Kn 6) 3),zv 23 (zas 24)]
def zn1007_40:=ZC.reg [zv 4 (.assign (.const (.float .f64 13830554455654793216)))]
def zn1007_39:=ZC.seq zn1007_40 ZC.ret
def zn1007_42:=ZC.reg [zu 26 (.binOp .eql 3 (Tm 6) (Kn 7) 3),zv 25 (zas 26)]
def zn1007_45:=ZC.reg [zu 27 (zcf 23 [.const (.float .f64 4607182418800017408),.const (.float .f64 4611686018427387904)] [27,27]),zv 4 (zas 27)]
def zn1007_44:=ZC.seq zn1007_45 ZC.ret
def zn1007_47:=ZC.reg [zu 29 (.binOp .eql 3 (Tm 6) (Kn 8) 3),zv 28 (zas 29)]
def zn1007_50:=ZC.reg [zu 30 (zcf 23 [.const (.float .f64 4607182418800017408),.const (.float .f64 0)] [27,27]),zv 4 (zas 30)]
def zn1007_49:=ZC.seq zn1007_50 ZC.ret
def zn1007_52:=ZC.reg [zu 32 (.binOp .eql 3 (Tm 6) (Kn 9) 3),zv 31 (zas 32)]
def zn1007_55:=ZC.reg [zv 4 (.assign (.const (.float .f64 1)))]
def zn1007_54:=ZC.seq zn1007_55 ZC.ret
def zn1007_57:=ZC.reg [zu 34 (.binOp .eql 3 (Tm 6) (Kn 10) 3),zv 33 (zas 34)]
def zn1007_60:=ZC.reg [zv 4 (.assign (.const (.float .f64 9218868437227405311)))]
def zn1007_59:=ZC.seq zn1007_60 ZC.ret
def zn1007_62:=ZC.reg [zu 36 (.binOp .eql 3 (Tm 6) (Kn 11) 3),zv 35 (zas 36)]
def zn1007_65:=ZC.reg [zv 4 (.assign (.const (.float .f64 18442240474082181119)))]
def zn1007_64:=ZC.seq zn1007_65 ZC.ret
def zn1007_67:=ZC.reg [zu 38 (.binOp .eql 3 (Tm 6) (Kn 12) 3),zv 37 (zas 38)]
def zn1007_70:=ZC.reg [zv 4 (.assign (.const (.float .f64 4593671619917905920)))]
def zn1007_69:=ZC.seq zn1007_70 ZC.ret
def zn1007_72:=ZC.reg [zu 40 (.binOp .eql 3 (Tm 6) (Kn 13) 3),zv 39 (zas 40)]
def zn1007_75:=ZC.reg [zv 4 (.assign (.const (.float .f64 13817043656772681728)))]
def zn1007_74:=ZC.seq zn1007_75 ZC.ret
def zn1007_77:=ZC.reg [zu 42 (.binOp .eql 3 (Tm 6) (Kn 14) 3),zv 41 (zas 42)]
def zn1007_80:=ZC.reg [zu 43 (zcf 24 [.const (.int .u64 9221120237041090851)] [33]),zv 4 (zas 43)]
def zn1007_79:=ZC.seq zn1007_80 ZC.ret
def zn1007_82:=ZC.reg [zu 45 (.binOp .eql 3 (Tm 6) (Kn 15) 3),zv 44 (zas 45)]
def zn1007_85:=ZC.reg [zu 46 (zmv 0),zu 47 (.binOp .quo 3 (Tm 46) (Kn 30) 3),zu 48 (zcf 6 [Tm 47,Kn 257] [3,3]),zu 49 (.binOp .sub 3 (Tm 48) (Kn 128) 3),zu 50 (.convert 3 27 (Tm 49)),zu 51 (.binOp .quo 27 (Tm 50) (.const (.float .f64 4638707616191610880)) 27),zv 4 (zas 51)]
def zn1007_84:=ZC.seq zn1007_85 ZC.ret
def zn1007_88:=ZC.reg [zu 53 (.binOp .eql 3 (Tm 6) (Kn 16) 3),zv 52 (zas 53)]
def zn1007_91:=ZC.reg [zu 54 (.binOp .eql 3 (Tm 6) (Kn 17) 3),zv 52 (zas 54)]
def zn1007_94:=ZC.reg [zu 55 (.binOp .eql 3 (Tm 6) (Kn 18) 3),zv 52 (zas 55)]
def zn1007_97:=ZC.reg [zu 56 (.binOp .eql 3 (Tm 6) (Kn 19) 3),zv 52 (zas 56)]
def Y1o:=ZC.reg [zu 57 (.binOp .eql 3 (Tm 6) (Kn 20) 3),zv 52 (zas 57)]
def V1l:=ZC.reg [zu 58 (.binOp .eql 3 (Tm 6) (Kn 21) 3),zv 52 (zas 58)]
def K1p:=ZC.cond (Tm 52) ZC.skip V1l
def zn1007_99:=ZC.seq Y1o K1p
def zn1007_98:=ZC.cond (Tm 52) ZC.skip zn1007_99
def zn1007_96:=ZC.seq zn1007_97 zn1007_98
def zn1007_95:=ZC.cond (Tm 52) ZC.skip zn1007_96
def zn1007_93:=ZC.seq zn1007_94 zn1007_95
def zn1007_92:=ZC.cond (Tm 52) ZC.skip zn1007_93
def zn1007_90:=ZC.seq zn1007_91 zn1007_92
def zn1007_89:=ZC.cond (Tm 52) ZC.skip zn1007_90
def zn1007_87:=ZC.seq zn1007_88 zn1007_89
def Z1p:=ZC.reg [zu 59 (zmv 0),zu 60 (.binOp .quo 3 (Tm 59) (Kn 30) 3),zu 61 (zcf 6 [Tm 60,Kn 2001] [3,3]),zu 62 (.binOp .sub 3 (Tm 61) (Kn 1000) 3),zu 63 (.convert 3 27 (Tm 62)),zu 64 (.binOp .quo 27 (Tm 63) (.const (.float .f64 4651127699538968576)) 27),zv 4 (zas 64)]
def V1m:=ZC.seq Z1p ZC.ret
def Q1l:=ZC.cond (Tm 52) V1m ZC.skip
def zn1007_86:=ZC.seq zn1007_87 Q1l
def zn1007_83:=ZC.cond (Tm 44) zn1007_84 zn1007_86
def zn1007_81:=ZC.seq zn1007_82 zn1007_83
def zn1007_78:=ZC.cond (Tm 41) zn1007_79 zn1007_81
def zn1007_76:=ZC.seq zn1007_77 zn1007_78
def zn1007_73:=ZC.cond (Tm 39) zn1007_74 zn1007_76
def zn1007_71:=ZC.seq zn1007_72 zn1007_73
def zn1007_68:=ZC.cond (Tm 37) zn1007_69 zn1007_71
def zn1007_66:=ZC.seq zn1007_67 zn1007_68
def zn1007_63:=ZC.cond (Tm 35) zn1007_64 zn1007_66
def zn1007_61:=ZC.seq zn1007_62 zn1007_63
def zn1007_58:=ZC.cond (Tm 33) zn1007_59 zn1007_61
def zn1007_56:=ZC.seq zn1007_57 zn1007_58
def zn1007_53:=ZC.cond (Tm 31) zn1007_54 zn1007_56
def zn1007_51:=ZC.seq zn1007_52 zn1007_53
def zn1007_48:=ZC.cond (Tm 28) zn1007_49 zn1007_51
def zn1007_46:=ZC.seq zn1007_47 zn1007_48
def zn1007_43:=ZC.cond (Tm 25) zn1007_44 zn1007_46
def zn1007_41:=ZC.seq zn1007_42 zn1007_43
def zn1007_38:=ZC.cond (Tm 23) zn1007_39 zn1007_41
def zn1007_36:=ZC.seq zn1007_37 zn1007_38
def zn1007_33:=ZC.cond (Tm 21) zn1007_34 zn1007_36
def zn1007_31:=ZC.seq zn1007_32 zn1007_33
def zn1007_28:=ZC.cond (Tm 19) zn1007_29 zn1007_31
def zn1007_26:=ZC.seq zn1007_27 zn1007_28
def zn1007_23:=ZC.cond (Tm 16) zn1007_24 zn1007_26
def zn1007_21:=ZC.seq zn1007_22 zn1007_23
def zn1007_18:=ZC.cond (Tm 13) zn1007_19 zn1007_21
def zn1007_16:=ZC.seq zn1007_17 zn1007_18
def zn1007_13:=ZC.cond (Tm 10) zn1007_14 zn1007_16
def zn1007_11:=ZC.seq zn1007_12 zn1007_13
def zn1007_8:=ZC.cond (Tm 7) zn1007_9 zn1007_11
def zn1007_6:=ZC.seq zn1007_7 zn1007_8
def zn1007_5:=ZC.block 0 zn1007_6
def zn1007_3:=ZC.seq zn1007_4 zn1007_5
def K1m:=ZC.reg [zu 65 (zmv 1),zv 4 (zas 65)]
def V1o:=ZC.seq K1m ZC.ret
def zn1007_2:=ZC.seq zn1007_3 V1o
def zn1007_0:=ZC.seq zn1007_1 zn1007_2
def zc1007: ZC:=zn1007_0
theorem zc1007_ok: zcode (xfOf Tryz.f7).code=some zc1007:=by kernel_rfl
def zw1007:=zU C zc1007.eq_1<|zU C zn1007_1.eq_1<|zU C zn1007_4.eq_1<|zU C zn1007_7.eq_1<|zU C zn1007_10.eq_1<|zU C zn1007_9.eq_1<|zU C zn1007_12.eq_1<|zU C zn1007_15.eq_1<|zU C zn1007_14.eq_1<|zU C zn1007_17.eq_1<|zU C zn1007_20.eq_1<|zU C zn1007_19.eq_1<|zU C zn1007_22.eq_1<|zU C zn1007_25.eq_1<|zU C zn1007_24.eq_1<|zU C zn1007_27.eq_1<|zU C zn1007_30.eq_1<|zU C zn1007_29.eq_1<|zU C zn1007_32.eq_1<|zU C zn1007_35.eq_1<|zU C zn1007_34.eq_1<|zU C zn1007_37.eq_1<|zU C zn1007_40.eq_1<|zU C zn1007_39.eq_1<|zU C zn1007_42.eq_1<|zU C zn1007_45.eq_1<|zU C zn1007_44.eq_1<|zU C zn1007_47.eq_1<|zU C zn1007_50.eq_1<|zU C zn1007_49.eq_1<|zU C zn1007_52.eq_1<|zU C zn1007_55.eq_1<|zU C zn1007_54.eq_1<|zU C zn1007_57.eq_1<|zU C zn1007_60.eq_1<|zU C zn1007_59.eq_1<|zU C zn1007_62.eq_1<|zU C zn1007_65.eq_1<|zU C zn1007_64.eq_1<|zU C zn1007_67.eq_1<|zU C zn1007_70.eq_1<|zU C zn1007_69.eq_1<|zU C zn1007_72.eq_1<|zU C zn1007_75.eq_1<|zU C zn1007_74.eq_1<|zU C zn1007_77.eq_1<|zU C zn1007_80.eq_1<|zU C zn1007_79.eq_1<|zU C zn1007_82.eq_1<|zU C zn1007_85.eq_1<|zU C zn1007_84.eq_1<|zU C zn1007_88.eq_1<|zU C zn1007_91.eq_1<|zU C zn1007_94.eq_1<|zU C zn1007_97.eq_1<|zU C Y1o.eq_1<|zU C V1l.eq_1<|zU C K1p.eq_1<|zU C zn1007_99.eq_1<|zU C zn1007_98.eq_1<|zU C zn1007_96.eq_1<|zU C zn1007_95.eq_1<|zU C zn1007_93.eq_1<|zU C zn1007_92.eq_1<|zU C zn1007_90.eq_1<|zU C zn1007_89.eq_1<|zU C zn1007_87.eq_1<|zU C Z1p.eq_1<|zU C V1m.eq_1<|zU C Q1l.eq_1<|zU C zn1007_86.eq_1<|zU C zn1007_83.eq_1<|zU C zn1007_81.eq_1<|zU C zn1007_78.eq_1<|zU C zn1007_76.eq_1<|zU C zn1007_73.eq_1<|zU C zn1007_71.eq_1<|zU C zn1007_68.eq_1<|zU C zn1007_66.eq_1<|zU C zn1007_63.eq_1<|zU C zn1007_61.eq_1<|zU C zn1007_58.eq_1<|zU C zn1007_56.eq_1<|zU C zn1007_53.eq_1<|zU C zn1007_51.eq_1<|zU C zn1007_48.eq_1<|zU C zn1007_46.eq_1<|zU C zn1007_43.eq_1<|zU C zn1007_41.eq_1<|zU C zn1007_38.eq_1<|zU C zn1007_36.eq_1<|zU C zn1007_33.eq_1<|zU C zn1007_31.eq_1<|zU C zn1007_28.eq_1<|zU C zn1007_26.eq_1<|zU C zn1007_23.eq_1<|zU C zn1007_21.eq_1<|zU C zn1007_18.eq_1<|zU C zn1007_16.eq_1<|zU C zn1007_13.eq_1<|zU C zn1007_11.eq_1<|zU C zn1007_8.eq_1<|zU C zn1007_6.eq_1<|zU C zn1007_5.eq_1<|zU C zn1007_3.eq_1<|zU C K1m.eq_1<|zU C V1o.eq_1<|zU C zn1007_2.eq_1<|(zunf C zn1007_0.eq_1)
theorem rs1007: (xfOf Tryz.f7).rs=[.tmp 4]:=by kernel_rfl
theorem xf1007: XFok C 7 (xfOf Tryz.f7):=by refine⟨Tryz.f7,?_,?_,?_,?_,?_,?_,?_⟩<;>kernel_rfl
def zn1020_1:=ZC.reg [zv 0 (.assign (.const (.float .f64 0)))]
def zn1020_3:=ZC.reg [zu 1 (zcf 24 [.const (.int .u64 9221120237041090561)] [33]),zv 0 (zas 1)]
def zn1020_2:=ZC.seq zn1020_3 ZC.ret
def zn1020_0:=ZC.seq zn1020_1 zn1020_2
def zc1020: ZC:=zn1020_0
theorem zc1020_ok: zcode (xfOf Tryz.f20).code=some zc1020:=by kernel_rfl
def zw1020:=zU C zc1020.eq_1<|zU C zn1020_1.eq_1<|zU C zn1020_3.eq_1<|zU C zn1020_2.eq_1<|(zunf C zn1020_0.eq_1)
theorem rs1020: (xfOf Tryz.f20).rs=[.tmp 0]:=by kernel_rfl
theorem xf1020: XFok C 20 (xfOf Tryz.f20):=by refine⟨Tryz.f20,?_,?_,?_,?_,?_,?_,?_⟩<;>kernel_rfl
def zn1021_1:=ZC.reg [zv 2 (.assign (.const (.float .f64 0)))]
def zn1021_3:=ZC.reg [zv 3 (.assign (.const (.int .u64 0)))]
def zn1021_6:=ZC.reg [zu 4 (zmv 0),zv 5 (.binOp .geq 3 (Tm 4) (Kn 0) 3)]
def zn1021_8:=ZC.reg [zv 3 (.assign (.const (.int .u64 9218868437227405312)))]
def zn1021_9:=ZC.reg [zv 3 (.assign (.const (.int .u64 18442240474082181120)))]
def zn1021_7:=ZC.cond (Tm 5) zn1021_8 zn1021_9
def zn1021_5:=ZC.seq zn1021_6 zn1021_7
def zn1021_11:=ZC.reg [zu 6 (zmv 3),zu 7 (zcf 24 [Tm 6] [33]),zv 2 (zas 7)]
def zn1021_10:=ZC.seq zn1021_11 ZC.ret
def zn1021_4:=ZC.seq zn1021_5 zn1021_10
def zn1021_2:=ZC.seq zn1021_3 zn1021_4
def zn1021_0:=ZC.seq zn1021_1 zn1021_2
def zc1021: ZC:=zn1021_0
theorem zc1021_ok: zcode (xfOf Tryz.f21).code=some zc1021:=by kernel_rfl
def zw1021:=zU C zc1021.eq_1<|zU C zn1021_1.eq_1<|zU C zn1021_3.eq_1<|zU C zn1021_6.eq_1<|zU C zn1021_8.eq_1<|zU C zn1021_9.eq_1<|zU C zn1021_7.eq_1<|zU C zn1021_5.eq_1<|zU C zn1021_11.eq_1<|zU C zn1021_10.eq_1<|zU C zn1021_4.eq_1<|zU C zn1021_2.eq_1<|(zunf C zn1021_0.eq_1)
theorem rs1021: (xfOf Tryz.f21).rs=[.tmp 2]:=by kernel_rfl
theorem xf1021: XFok C 21 (xfOf Tryz.f21):=by refine⟨Tryz.f21,?_,?_,?_,?_,?_,?_,?_⟩<;>kernel_rfl
def zn1022_1:=ZC.reg [zv 4 (.assign (.const (.float .f64 0)))]
def zn1022_3:=ZC.reg [zu 5 (zmv 0),zu 6 (zcf 51 [Tm 5] [27]),zu 7 (.binOp .andNot 33 (Tm 6) (.const (.int .u64 9223372036854775808)) 33),zu 8 (zmv 1),zu 9 (zcf 51 [Tm 8] [27]),zu 10 (.binOp .and 33 (Tm 9) (.const (.int .u64 9223372036854775808)) 33),zu 11 (.binOp .or 33 (Tm 7) (Tm 10) 33),zu 12 (zcf 24 [Tm 11] [33]),zv 4 (zas 12)]
def zn1022_2:=ZC.seq zn1022_3 ZC.ret
def zn1022_0:=ZC.seq zn1022_1 zn1022_2
def zc1022: ZC:=zn1022_0
theorem zc1022_ok: zcode (xfOf Tryz.f22).code=some zc1022:=by kernel_rfl
def zw1022:=zU C zc1022.eq_1<|zU C zn1022_1.eq_1<|zU C zn1022_3.eq_1<|zU C zn1022_2.eq_1<|(zunf C zn1022_0.eq_1)
theorem rs1022: (xfOf Tryz.f22).rs=[.tmp 4]:=by kernel_rfl
theorem xf1022: XFok C 22 (xfOf Tryz.f22):=by refine⟨Tryz.f22,?_,?_,?_,?_,?_,?_,?_⟩<;>kernel_rfl
def zn1023_1:=ZC.reg [zv 4 (.assign (.const (.float .f64 0)))]
def zn1023_5:=ZC.reg [zu 10 (zmv 0),zu 11 (zcf 52 [Tm 10] [27]),zu 12 (zmv 11),zug 13 (zmv 1) 12 false false,zug 14 (zcf 52 [Tm 13] [27]) 12 false false,zu 15 (.pick (Tm 12) (.const (.bool true)) (Tm 14)),zv 9 (zas 15)]
def zn1023_7:=ZC.reg [zu 16 (zcf 20 [] []),zv 4 (zas 16)]
def zn1023_9:=ZC.reg [zu 18 (zmv 0),zu 19 (zmv 1),zu 20 (.binOp .eql 27 (Tm 18) (Tm 19) 27),zv 17 (zas 20)]
def zn1023_11:=ZC.reg [zu 21 (zmv 0),zv 4 (zas 21)]
def zn1023_13:=ZC.reg [zu 23 (zmv 0),zu 24 (.binOp .eql 27 (Tm 23) (.const (.float .f64 0)) 27),zv 22 (zas 24)]
def zn1023_15:=ZC.reg [zu 25 (zcf 24 [.const (.int .u64 1)] [33]),zu 26 (zmv 1),zu 27 (zcf 22 [Tm 25,Tm 26] [27,27]),zv 4 (zas 27)]
def zn1023_17:=ZC.reg [zu 29 (zmv 1),zu 30 (zmv 0),zu 31 (.binOp .gtr 27 (Tm 29) (Tm 30) 27),zu 32 (zmv 0),zu 33 (.binOp .gtr 27 (Tm 32) (.const (.float .f64 0)) 27),zu 34 (.binOp .eql 4 (Tm 31) (Tm 33) 4),zv 28 (zas 34)]
def zn1023_19:=ZC.reg [zu 35 (zmv 0),zu 36 (zcf 51 [Tm 35] [27]),zu 37 (.binOp .add 33 (Tm 36) (.const (.int .u64 1)) 33),zu 38 (zcf 24 [Tm 37] [33]),zv 4 (zas 38)]
def zn1023_20:=ZC.reg [zu 5 (zmv 0),zu 6 (zcf 51 [Tm 5] [27]),zu 7 (.binOp .sub 33 (Tm 6) (.const (.int .u64 1)) 33),zu 8 (zcf 24 [Tm 7] [33]),zv 4 (zas 8)]
def zn1023_18:=ZC.cond (Tm 28) zn1023_19 zn1023_20
def zn1023_16:=ZC.seq zn1023_17 zn1023_18
def zn1023_14:=ZC.cond (Tm 22) zn1023_15 zn1023_16
def zn1023_12:=ZC.seq zn1023_13 zn1023_14
def zn1023_10:=ZC.cond (Tm 17) zn1023_11 zn1023_12
def zn1023_8:=ZC.seq zn1023_9 zn1023_10
def zn1023_6:=ZC.cond (Tm 9) zn1023_7 zn1023_8
def zn1023_4:=ZC.seq zn1023_5 zn1023_6
def zn1023_3:=ZC.block 0 zn1023_4
def zn1023_2:=ZC.seq zn1023_3 ZC.ret
def zn1023_0:=ZC.seq zn1023_1 zn1023_2
def zc1023: ZC:=zn1023_0
theorem zc1023_ok: zcode (xfOf Tryz.f23).code=some zc1023:=by kernel_rfl
def zw1023:=zU C zc1023.eq_1<|zU C zn1023_1.eq_1<|zU C zn1023_5.eq_1<|zU C zn1023_7.eq_1<|zU C zn1023_9.eq_1<|zU C zn1023_11.eq_1<|zU C zn1023_13.eq_1<|zU C zn1023_15.eq_1<|zU C zn1023_17.eq_1<|zU C zn1023_19.eq_1<|zU C zn1023_20.eq_1<|zU C zn1023_18.eq_1<|zU C zn1023_16.eq_1<|zU C zn1023_14.eq_1<|zU C zn1023_12.eq_1<|zU C zn1023_10.eq_1<|zU C zn1023_8.eq_1<|zU C zn1023_6.eq_1<|zU C zn1023_4.eq_1<|zU C zn1023_3.eq_1<|zU C zn1023_2.eq_1<|(zunf C zn1023_0.eq_1)
theorem rs1023: (xfOf Tryz.f23).rs=[.tmp 4]:=by kernel_rfl
theorem xf1023: XFok C 23 (xfOf Tryz.f23):=by refine⟨Tryz.f23,?_,?_,?_,?_,?_,?_,?_⟩<;>kernel_rfl
end Go.Proofs.YtpchcfkebljopaaGreat
end
section
namespace Go.Proofs.YtpchcfkebljopaaGreat
open Go.Cl Go Go.RowKit
set_option maxRecDepth 100000
set_option linter.constructorNameAsVariable false
theorem xc_52(call:XCall)(p:Hp)(l:List CV): xcallv extF call p (.fn 52 [] []) l=call 52 l p:=by
 simp only[xcallv,List.nil_append,List.append_nil];rfl
theorem xc_6(call:XCall)(p:Hp)(l:List CV): xcallv extF call p (.fn 6 [] []) l=call 6 l p:=by
 simp only[xcallv,List.nil_append,List.append_nil];rfl
theorem xc_20(call:XCall)(p:Hp)(l:List CV): xcallv extF call p (.fn 20 [] []) l=call 20 l p:=by
 simp only[xcallv,List.nil_append,List.append_nil];rfl
theorem xc_21(call:XCall)(p:Hp)(l:List CV): xcallv extF call p (.fn 21 [] []) l=call 21 l p:=by
 simp only[xcallv,List.nil_append,List.append_nil];rfl
theorem xc_22(call:XCall)(p:Hp)(l:List CV): xcallv extF call p (.fn 22 [] []) l=call 22 l p:=by
 simp only[xcallv,List.nil_append,List.append_nil];rfl
theorem xc_23(call:XCall)(p:Hp)(l:List CV): xcallv extF call p (.fn 23 [] []) l=call 23 l p:=by
 simp only[xcallv,List.nil_append,List.append_nil];rfl
theorem xe_51(call:XCall)(p:Hp)(n:Nat): xcallv extF call p (.fn 51 [] []) [Fl n]=.ret (U n) p:=by rfl
theorem xe_24(call:XCall)(p:Hp)(n:Int): xcallv extF call p (.fn 24 [] []) [U n]=.ret (Fl n.toNat) p:=by rfl
def R1020: Rel:=fun args p r=>args=[]/\r=.ret (Fl 9221120237041090561) p
theorem t1020{T:XCall}(h:Has T 20 R1020) {p:Hp}:T 20 [] p=.ret (Fl 9221120237041090561) p:=h _ _ _ ⟨rfl,rfl⟩
theorem zq1020{A B:Prop}(k:B)(h:A=B:=by have zy:=zA @zw1020<|zA @rs1020<|zA @Z1l<|@K1n;exact zQ): A:=h▸k
theorem c1020: Con C 20 R1020:=by
 refine K0e C ?_ ?_ ?_
 ·rintro args p r r' ⟨h,e⟩ ⟨h',e'⟩
  subst e;subst e';simp_all
 ·rintro args p r ⟨h,rfl⟩;exact zr1
 ·rintro args p r ⟨rfl,rfl⟩
  refine X0u C false extF (tabL C []) xf1020 Y1m (Q0r C _) zc1020_ok (Nat.le_of_ble_eq_true (by kernel_rfl)) fun hF=>?_
  generalize tabL C []=call
  show W C false extF call zc1020 (argE []) p (endQ C _ _)
  (have zx:=zT;refine zq1020 ?_;try exact zT)
  repeat'(apply zK.s<;>intro hc<;>(try simp only[zhd]at hc)<;>(try have hw:=X0a hc)<;>(refine zq1020 ?_;try exact zT))
  all_goals(try clear zx)
  exact K0d hF zle (Y0c rfl (Z0c (by intro jj;simp[CV.has])))
def R1021: Rel:=fun args p r=>∃(n:Int),args=[I n]/\r=.ret (Fl (if 0<=n then 9218868437227405312 else 18442240474082181120)) p
theorem t1021{T:XCall}(h:Has T 21 R1021)(n:Int){p:Hp}:T 21 [I n] p=.ret (Fl (if 0<=n then 9218868437227405312 else 18442240474082181120)) p:=h _ _ _ ⟨n,rfl,rfl⟩
theorem zq1021{A B:Prop}(k:B)(h:A=B:=by have zy:=zA @zw1021<|zA @rs1021<|zA @tt3<|zA ti3.eq_1<|zA @Z1l<|@K1n;exact zQ): A:=h▸k
theorem c1021: Con C 21 R1021:=by
 refine K0e C ?_ ?_ ?_
 ·rintro args p r r' ⟨n,h,e⟩ ⟨n',h',e'⟩
  subst e;subst e';simp_all
 ·rintro args p r ⟨n,h,rfl⟩;exact zr1
 ·rintro args p r ⟨n,rfl,rfl⟩
  refine X0u C false extF (tabL C []) xf1021 Y1m (Q0r C _) zc1021_ok (Nat.le_of_ble_eq_true (by kernel_rfl)) fun hF=>?_
  generalize tabL C []=call
  show W C false extF call zc1021 (argE [I n]) p (endQ C _ _)
  by_cases hn:0<=n
  ·rw[if_pos hn]
   (have zx:=hn;refine zq1021 ?_;try exact zT)
   repeat'(apply zK.s<;>intro hc<;>(try simp only[zhd]at hc)<;>(try have hw:=X0a hc)<;>(refine zq1021 ?_;try exact zT))
   all_goals(try clear zx)
   exact K0d hF zle (Y0c rfl (Z0c (by intro jj;simp[CV.has])))
  ·rw[if_neg hn]
   (have zx:=hn;refine zq1021 ?_;try exact zT)
   repeat'(apply zK.s<;>intro hc<;>(try simp only[zhd]at hc)<;>(try have hw:=X0a hc)<;>(refine zq1021 ?_;try exact zT))
   all_goals(try clear zx)
   exact K0d hF zle (Y0c rfl (Z0c (by intro jj;simp[CV.has])))
def R1022: Rel:=fun args p r=>args=[Fl 0,Fl 13830554455654793216]/\r=.ret (Fl 9223372036854775808) p
theorem t1022{T:XCall}(h:Has T 22 R1022) {p:Hp}:T 22 [Fl 0,Fl 13830554455654793216] p=.ret (Fl 9223372036854775808) p:=h _ _ _ ⟨rfl,rfl⟩
theorem zq1022{A B:Prop}(k:B)(h:A=B:=by have zy:=zA @zw1022<|zA @rs1022<|zA @tt25<|zA ti25.eq_1<|zA @Z1l<|@K1n;exact zQ): A:=h▸k
theorem c1022: Con C 22 R1022:=by
 refine K0e C ?_ ?_ ?_
 ·rintro args p r r' ⟨h,e⟩ ⟨h',e'⟩
  subst e;subst e';simp_all
 ·rintro args p r ⟨h,rfl⟩;exact zr1
 ·rintro args p r ⟨rfl,rfl⟩
  refine X0u C false extF (tabL C []) xf1022 Y1m (Q0r C _) zc1022_ok (Nat.le_of_ble_eq_true (by kernel_rfl)) fun hF=>?_
  generalize tabL C []=call
  show W C false extF call zc1022 (argE [Fl 0,Fl 13830554455654793216]) p (endQ C _ _)
  (have zx:=zT;refine zq1022 ?_;try exact zT)
  repeat'(apply zK.s<;>intro hc<;>(try simp only[zhd]at hc)<;>(try have hw:=X0a hc)<;>(refine zq1022 ?_;try exact zT))
  all_goals(try clear zx)
  exact K0d hF zle (Y0c rfl (Z0c (by intro jj;simp[CV.has])))
def R1023: Rel:=fun args p r=>∃(b:Nat),args=[Fl 4607182418800017408,Fl b]/\(b=4611686018427387904\/b=0)/\r=.ret (Fl (if b=0 then 4607182418800017407 else 4607182418800017409)) p
theorem t1023{T:XCall}(h:Has T 23 R1023)(b:Nat){p:Hp}(hb:b=4611686018427387904\/b=0): T 23 [Fl 4607182418800017408,Fl b] p=.ret (Fl (if b=0 then 4607182418800017407 else 4607182418800017409)) p:=h _ _ _ ⟨b,rfl,hb,rfl⟩
theorem zq1023{A B:Prop}(k:B)(h:A=B:=by have zy:=zA @zw1023<|zA @rs1023<|zA @tt4<|zA @tt59<|zA @tt25<|zA ti4.eq_1<|zA ti59.eq_1<|zA ti25.eq_1<|zA @t_193<|zA @Z1l<|zA @K1n<|zA @xc_52<|zA @xe_51<|zA @xe_24<|@hb;exact zQf): A:=h▸k
theorem c1023: Con C 23 R1023:=by
 refine K0e C ?_ ?_ ?_
 ·rintro args p r r' ⟨b,h,hb,e⟩ ⟨b',h',hb',e'⟩
  subst e;subst e';simp_all
 ·rintro args p r ⟨b,h,hb,rfl⟩;exact zr1
 ·rintro args p r ⟨b,rfl,hb,rfl⟩
  refine X0u C false extF (tabL C [(52,R193)]) xf1023 Y1m (Q0r C _) zc1023_ok (Nat.le_of_ble_eq_true (by kernel_rfl)) fun hF=>?_
  have t_193:=@t193 (tabL C [(52,R193)]) (Q0s C c193 [])
  generalize tabL C [(52,R193)]=call at t_193 ⊢
  show W C false extF call zc1023 (argE [Fl 4607182418800017408,Fl b]) p (endQ C _ _)
  have w1:(IntKind.u64.wrap 4607182418800017409).toNat=4607182418800017409:=by decide +kernel
  have w2:(IntKind.u64.wrap 4607182418800017407).toNat=4607182418800017407:=by decide +kernel
  have o1:(FloatKind.f64.format.order 4607182418800017408 4611686018427387904==some Ordering.eq)=false:=by decide +kernel
  have o2:(FloatKind.f64.format.order 4607182418800017408 0==some Ordering.eq)=false:=by decide +kernel
  have o3:(FloatKind.f64.format.order 4611686018427387904 4607182418800017408==some Ordering.gt)=true:=by decide +kernel
  have o4:(FloatKind.f64.format.order 4607182418800017408 0==some Ordering.gt)=true:=by decide +kernel
  have o5:(FloatKind.f64.format.order 0 4607182418800017408==some Ordering.gt)=false:=by decide +kernel
  have n1:nanF 4607182418800017408=false:=by decide +kernel
  have hb0:=hb
  rcases hb0 with e|e
  ·subst e
   have n2:nanF 4611686018427387904=false:=by decide +kernel
   rw[if_neg (by decide)]
   (have zx:=zA n1 (zA n2 (zA o1 (zA o2 (zA o3 (zA o4 (zA o5 (zA w1 w2)))))));refine zq1023 ?_;try exact zT)
   repeat'(apply zK.s<;>intro hc<;>(try simp only[zhd]at hc)<;>(try have hw:=X0a hc)<;>(refine zq1023 ?_;try exact zT))
   all_goals(try clear zx)
   exact K0d hF zle (Y0c rfl (Z0c (by intro jj;simp[CV.has])))
  ·subst e
   have n2:nanF 0=false:=by decide +kernel
   rw[if_pos rfl]
   (have zx:=zA n1 (zA n2 (zA o1 (zA o2 (zA o3 (zA o4 (zA o5 (zA w1 w2)))))));refine zq1023 ?_;try exact zT)
   repeat'(apply zK.s<;>intro hc<;>(try simp only[zhd]at hc)<;>(try have hw:=X0a hc)<;>(refine zq1023 ?_;try exact zT))
   all_goals(try clear zx)
   exact K0d hF zle (Y0c rfl (Z0c (by intro jj;simp[CV.has])))
def partA(n:Int): Nat:=(f64.div (FloatKind.f64.nearest n) 4638707616191610880).getD 0
def partC(n:Int): Nat:=(f64.div (FloatKind.f64.nearest n) 4651127699538968576).getD 0
theorem partA_all: (List.range 257).all (fun k=>(f64.div (FloatKind.f64.nearest (Int.ofNat k-128)) 4638707616191610880).isSome)=true:=by kernel_rfl
theorem partC_all: (List.range 2001).all (fun k=>(f64.div (FloatKind.f64.nearest (Int.ofNat k-1000)) 4651127699538968576).isSome)=true:=by kernel_rfl
theorem partA_ok{k:Int}(h:0<=k/\k<257): f64.div (FloatKind.f64.nearest (k-128)) 4638707616191610880=some (partA (k-128)):=by
 have:=List.all_eq_true.1 partA_all k.toNat (by simp;omega)
 rw[show Int.ofNat k.toNat=k from Int.toNat_of_nonneg h.1]at this
 obtain⟨v,hv⟩:=Option.isSome_iff_exists.1 this
 rw[partA,hv];rfl
theorem partC_ok{k:Int}(h:0<=k/\k<2001): f64.div (FloatKind.f64.nearest (k-1000)) 4651127699538968576=some (partC (k-1000)):=by
 have:=List.all_eq_true.1 partC_all k.toNat (by simp;omega)
 rw[show Int.ofNat k.toNat=k from Int.toNat_of_nonneg h.1]at this
 obtain⟨v,hv⟩:=Option.isSome_iff_exists.1 this
 rw[partC,hv];rfl
def floatK(k a c:Int)(x:Nat): Nat:=
 if k=0 then 9221120237041090561 else if k=1 then 9218868437227405312 else if k=2 then 18442240474082181120 else if k=3 then 9223372036854775808 else if k=4 then 0 else if k=5 then 4607182418800017408 else if k=6 then 13830554455654793216 else if k=7 then 4607182418800017409 else if k=8 then 4607182418800017407 else if k=9 then 1 else if k=10 then 9218868437227405311 else if k=11 then 18442240474082181119 else if k=12 then 4593671619917905920 else if k=13 then 13817043656772681728 else if k=14 then 9221120237041090851 else if k=15 then partA a else if k=16 then partC c else if k=17 then partC c else if k=18 then partC c else if k=19 then partC c else if k=20 then partC c else if k=21 then partC c else x
def floatOf(n:Int)(x:Nat): Nat:=floatK (pick n 30) (pick (w64 (n.tdiv 30)) 257-128) (pick (w64 (n.tdiv 30)) 2001-1000) x
def R1007: Rel:=fun args p r=>∃(n:Int) (x:Nat),args=[I n,Fl x]/\r=.ret (Fl (floatOf n x)) p
theorem t1007{T:XCall}(h:Has T 7 R1007)(n:Int)(x:Nat){p:Hp}:T 7 [I n,Fl x] p=.ret (Fl (floatOf n x)) p:=h _ _ _ ⟨n,x,rfl,rfl⟩
theorem zq1007{A B:Prop}(k:B)(h:A=B:=by have zy:=zA @zw1007<|zA @rs1007<|zA @tt3<|zA @tt59<|zA ti3.eq_1<|zA ti59.eq_1<|zA @t_37<|zA @t_1020<|zA @t_1021<|zA @t_1022<|zA @t_1023<|zA @Z1l<|zA @K1n<|zA @xc_6<|zA @xc_20<|zA @xc_21<|zA @xc_22<|zA @xc_23<|@xe_24;exact zQf): A:=h▸k
theorem c1007: Con C 7 R1007:=by
 refine K0e C ?_ ?_ ?_
 ·rintro args p r r' ⟨n,x,h,e⟩ ⟨n',x',h',e'⟩
  subst e;subst e';simp_all
 ·rintro args p r ⟨n,x,h,rfl⟩;exact zr1
 ·rintro args p r ⟨n,x,rfl,rfl⟩
  refine X0u C false extF (tabL C [(6,R37),(20,R1020),(21,R1021),(22,R1022),(23,R1023)]) xf1007 Y1m (Q0r C _) zc1007_ok (Nat.le_of_ble_eq_true (by kernel_rfl)) fun hF=>?_
  have t_37:=@t37 (tabL C [(6,R37),(20,R1020),(21,R1021),(22,R1022),(23,R1023)]) (Q0s C c37 [(20,R1020),(21,R1021),(22,R1022),(23,R1023)])
  have t_1020:=@t1020 (tabL C [(6,R37),(20,R1020),(21,R1021),(22,R1022),(23,R1023)]) (Q0n C _ rfl (Q0s C c1020 [(21,R1021),(22,R1022),(23,R1023)]))
  have t_1021:=@t1021 (tabL C [(6,R37),(20,R1020),(21,R1021),(22,R1022),(23,R1023)]) (Q0n C _ rfl (Q0n C _ rfl (Q0s C c1021 [(22,R1022),(23,R1023)])))
  have t_1022:=@t1022 (tabL C [(6,R37),(20,R1020),(21,R1021),(22,R1022),(23,R1023)]) (Q0n C _ rfl (Q0n C _ rfl (Q0n C _ rfl (Q0s C c1022 [(23,R1023)]))))
  have t_1023:=@t1023 (tabL C [(6,R37),(20,R1020),(21,R1021),(22,R1022),(23,R1023)]) (Q0n C _ rfl (Q0n C _ rfl (Q0n C _ rfl (Q0n C _ rfl (Q0s C c1023 [])))))
  generalize tabL C [(6,R37),(20,R1020),(21,R1021),(22,R1022),(23,R1023)]=call at t_37 t_1020 t_1021 t_1022 t_1023 ⊢
  show W C false extF call zc1007 (argE [I n,Fl x]) p (endQ C _ _)
  have hk:=Z0e (n:=n) (m:=30) (by omega)
  have hA:=Z0e (n:=IntKind.i64.wrap (n.tdiv 30)) (m:=257) (by omega)
  have hC:=Z0e (n:=IntKind.i64.wrap (n.tdiv 30)) (m:=2001) (by omega)
  have pA:=partA_ok hA
  have pC:=partC_ok hC
  have hF2:floatOf n x=floatK (pick n 30) (pick (IntKind.i64.wrap (n.tdiv 30)) 257-128) (pick (IntKind.i64.wrap (n.tdiv 30)) 2001-1000) x:=rfl
  rw[hF2]
  generalize hk2:pick n 30=k
  generalize hA2:pick (IntKind.i64.wrap (n.tdiv 30)) 257=a at hA pA
  generalize hC2:pick (IntKind.i64.wrap (n.tdiv 30)) 2001=c at hC pC
  have wA:IntKind.i64.wrap (a-128)=a-128:=Y0x (by omega) (by omega)
  have wC:IntKind.i64.wrap (c-1000)=c-1000:=Y0x (by omega) (by omega)
  (have zx:=zA hk2 (zA hA2 (zA hC2 (zA wA (zA wC (zA pA pC)))));refine zq1007 ?_;try exact zT)
  repeat'(apply zK.s<;>intro hc<;>(try simp only[zhd]at hc)<;>(try have hw:=X0a hc)<;>(refine zq1007 ?_;try exact zT))
  all_goals(try clear zx)
  all_goals refine K0d hF zle (Y0c ?_ (Z0c (by intro jj;simp[CV.has])))
  all_goals simp[floatK, *]
end Go.Proofs.YtpchcfkebljopaaGreat
end
section
namespace Go.Proofs.YtpchcfkebljopaaGreat
open Go.Cl Go Go.RowKit
set_option maxRecDepth 100000
def zn67_1:=ZC.reg [zu 3 (.box 31 (Tm 0)),zu 4 (.box 40 (Tm 1)),zv 6 (.alloc 40)]
def zn67_4:=ZC.reg [zu 24 (zld 31 3),zu 25 (zld 40 4),zu 26 (zcf 12 [Tm 24,Tm 25] [31,40]),zv 27 (.unOp .not 4 (Tm 26))]
def zn67_7:=ZC.reg [⟨some 28,.build 40 ⟨[]⟩,none,false⟩,zv0 (.store 40 (Tm 6) (Tm 28))]
def zn67_6:=ZC.seq zn67_7 ZC.ret
def zn67_5:=ZC.cond (Tm 27) zn67_6 ZC.skip
def zn67_3:=ZC.seq zn67_4 zn67_5
def zn67_9:=ZC.reg [zu 29 (zfa 40 4 2),zu 30 (zld 37 29),zu 7 (.alloc 37),zv0 (.store 37 (Tm 7) (Tm 30))]
def zn67_11:=ZC.reg [zv 8 (.assign (.const (.slice none 0 0)))]
def zn67_14:=ZC.reg [zv 9 (.assign (Kn 0))]
def zn67_19:=ZC.reg [zu 31 (zmv 9),zv 32 (.binOp .lss 3 (Tm 31) (Kn 16) 3)]
def zn67_20:=ZC.cond (Tm 32) ZC.skip (ZC.exit 0)
def zn67_18:=ZC.seq zn67_19 zn67_20
def zn67_24:=ZC.reg [zu 35 (zmv 9),zu 36 (zia 37 7 35),zu 37 (zld 36 36),zu 10 (.alloc 36),zv0 (.store 36 (Tm 10) (Tm 37))]
def zn67_27:=ZC.reg [zu 38 (zfa 36 10 0),zu 39 (zld 3 38),zv 40 (.binOp .eql 3 (Tm 39) (Kn 1) 3)]
def zn67_30:=ZC.reg [zu 41 (zmv 2),zu 42 (zfa 36 10 1),zu 43 (zld 3 42),zu 44 (zcf 43 [Tm 41,Tm 43] [26,3]),zu 11 (.alloc 62),zv0 (.store 62 (Tm 11) (Tm 44))]
def zn67_32:=ZC.draw 30 [(25,.alloc 83)] [zdd 0 46 (zfa 31 3 8) false [] [9,14] false,zdd 1 47 (zld 28 46) false [] [9,14] false,zdd 2 48 (zld 36 10) false [] [] false,zdd 3 49 (zfa 62 11 1) false [] [] false,zdd 4 50 (zld 3 49) false [] [] false,zdd 5 51 (.binOp .quo 3 (Tm 50) (Kn 16) 3) false [] [] false,zdd 6 52 (zfa 62 11 2) false [] [] false,zdd 7 53 (zld 3 52) false [] [] false,zdd 8 54 (.binOp .quo 3 (Tm 53) (Kn 16) 3) false [] [] false,zdd 9 55 (zcf 45 [Tm 48,Tm 51,Tm 54] [36,3,3]) false [] [] true,zdd 10 56 (zld 62 11) false [9] [14] false,zdd 11 57 (zfa 40 4 1) false [9] [14] false,zdd 12 58 (zld 33 57) false [9] [14] false,zdd 13 59 (zld 40 4) false [9] [] false,zdd 14 60 (zcf 46 [Tm 59] [40]) false [] [] true,zdd 15 61 (zmv 8) false [] [] false,zdd 16 62 (zcb .len [Tm 61] [78]) false [9,14] [] false,zdd 17 63 (.binOp .sub 3 (Tm 60) (Tm 62) 3) false [] [] false,⟨18,some 64,.build 83 ⟨[(0,.tmp 55),(1,.tmp 56),(2,.tmp 58),(3,.tmp 63)]⟩,none,false,[],[],false⟩,zdd 19 65 (zcf 44 [Tm 47,Tm 64] [28,83]) false [] [] true,zdd 20 45 (zmv 65) false [] [] false,zdd 21 66 (.extract (Tm 45) 0) false [] [] false,zdd 22 67 (.extract (Tm 45) 1) false [] [] false,zdd 23 68 (.extract (Tm 45) 2) false [] [] false,zdd 24 69 (.extract (Tm 45) 3) false [] [] false,zdd 25 12 (.alloc 83) true [9,14,19] [] false,zd0 26 (.store 83 (Tm 12) (Tm 66)) true [] [] false,zdd 27 13 (zas 67) true [] [] false,zdd 28 14 (zas 68) true [] [] false,zdd 29 15 (zas 69) true [] [] false]
def zn67_34:=ZC.reg [zv 70 (zmv 15)]
def zn67_37:=ZC.reg [zu 71 (zfa 83 12 0),zu 72 (zld 36 71),zv0 (.store 36 (Tm 10) (Tm 72))]
def zn67_39:=ZC.reg [zu 73 (zfa 83 12 2),zu 74 (zld 33 73),zu 75 (zfa 40 4 1),zv0 (.store 33 (Tm 75) (Tm 74))]
def zn67_40:=ZC.reg [zu 76 (zmv 8),zu 77 (zfa 83 12 4),zu 78 (zld 78 77),zu 79 (zcb .append [Tm 76,Tm 78] [78,78]),zv 8 (zas 79)]
def zn67_38:=ZC.seq zn67_39 zn67_40
def zn67_36:=ZC.seq zn67_37 zn67_38
def zn67_41:=ZC.reg [zu 80 (zfa 36 10 8),zu 81 (zld 3 80),zu 82 (.binOp .add 3 (Tm 81) (Kn 1) 3),zu 83 (zcb .min [Kn 65535,Tm 82] [3,3]),zu 84 (zfa 36 10 8),zv0 (.store 3 (Tm 84) (Tm 83))]
def zn67_35:=ZC.cond (Tm 70) zn67_36 zn67_41
def zn67_33:=ZC.seq zn67_34 zn67_35
def zn67_31:=ZC.seq zn67_32 zn67_33
def zn67_29:=ZC.seq zn67_30 zn67_31
def zn67_28:=ZC.cond (Tm 40) zn67_29 ZC.skip
def zn67_26:=ZC.seq zn67_27 zn67_28
def zn67_42:=ZC.reg [zu 86 (zmv 9),zu 87 (zld 36 10),zu 88 (zcf 47 [Tm 87] [36]),zu 85 (zmv 88),zu 89 (.extract (Tm 85) 0),zu 90 (.extract (Tm 85) 1),zu 91 (zfa 40 4 2),zu 92 (zia 37 91 86),zv0 (.store 36 (Tm 92) (Tm 89))]
def zn67_25:=ZC.seq zn67_26 zn67_42
def zn67_23:=ZC.seq zn67_24 zn67_25
def zn67_22:=ZC.block 1 zn67_23
def zn67_43:=ZC.reg [zu 33 (zmv 9),zu 34 (.binOp .add 3 (Tm 33) (Kn 1) 3),zv 9 (zas 34)]
def zn67_21:=ZC.seq zn67_22 zn67_43
def Y10:=ZC.seq zn67_18 zn67_21
def zn67_16:=ZC.loop Y10
def zn67_15:=ZC.block 0 zn67_16
def zn67_13:=ZC.seq zn67_14 zn67_15
def zn67_46:=ZC.reg [zv 16 (.assign (Kn 0))]
def zn67_51:=ZC.reg [zu 93 (zmv 16),zu 94 (zmv 8),zu 95 (zcb .len [Tm 94] [78]),zv 96 (.binOp .lss 3 (Tm 93) (Tm 95) 3)]
def zn67_52:=ZC.cond (Tm 96) ZC.skip (ZC.exit 2)
def zn67_50:=ZC.seq zn67_51 zn67_52
def zn67_56:=ZC.reg [zv 17 (.assign (.const (.bool false)))]
def zn67_58:=ZC.reg [zv 18 (.assign (Kn 0))]
def zn67_63:=ZC.reg [zu 99 (zmv 18),zu 100 (.binOp .lss 3 (Tm 99) (Kn 16) 3),zu 101 (zmv 100),zug 102 (zmv 17) 101 true false,zug 103 (.unOp .not 4 (Tm 102)) 101 true false,zv 104 (.pick (Tm 101) (Tm 103) (.const (.bool false)))]
def zn67_64:=ZC.cond (Tm 104) ZC.skip (ZC.exit 4)
def zn67_62:=ZC.seq zn67_63 zn67_64
def zn67_68:=ZC.reg [zu 107 (zmv 18),zu 108 (zfa 40 4 2),zu 109 (zia 37 108 107),zu 110 (zfa 36 109 0),zu 111 (zld 3 110),zv 112 (.binOp .eql 3 (Tm 111) (Kn 0) 3)]
def zn67_71:=ZC.reg [zu 113 (zmv 18),zu 114 (zmv 8),zu 115 (zmv 16),zu 116 (zia 78 114 115),zu 117 (zld 36 116),zu 118 (zfa 40 4 2),zu 119 (zia 37 118 113),zv0 (.store 36 (Tm 119) (Tm 117))]
def zn67_72:=ZC.reg [zv 17 (.assign (.const (.bool true)))]
def zn67_70:=ZC.seq zn67_71 zn67_72
def zn67_69:=ZC.cond (Tm 112) zn67_70 ZC.skip
def zn67_67:=ZC.seq zn67_68 zn67_69
def zn67_66:=ZC.block 5 zn67_67
def zn67_73:=ZC.reg [zu 105 (zmv 18),zu 106 (.binOp .add 3 (Tm 105) (Kn 1) 3),zv 18 (zas 106)]
def zn67_65:=ZC.seq zn67_66 zn67_73
def Y1q:=ZC.seq zn67_62 zn67_65
def zn67_60:=ZC.loop Y1q
def zn67_59:=ZC.block 4 zn67_60
def zn67_57:=ZC.seq zn67_58 zn67_59
def zn67_55:=ZC.seq zn67_56 zn67_57
def zn67_54:=ZC.block 3 zn67_55
def zn67_74:=ZC.reg [zu 97 (zmv 16),zu 98 (.binOp .add 3 (Tm 97) (Kn 1) 3),zv 16 (zas 98)]
def zn67_53:=ZC.seq zn67_54 zn67_74
def X1x:=ZC.seq zn67_50 zn67_53
def zn67_48:=ZC.loop X1x
def zn67_47:=ZC.block 2 zn67_48
def zn67_45:=ZC.seq zn67_46 zn67_47
def zn67_77:=ZC.reg [zv 19 (.assign (Kn 0))]
def zn67_82:=ZC.reg [zu 120 (zmv 19),zv 121 (.binOp .lss 3 (Tm 120) (Kn 16) 3)]
def zn67_83:=ZC.cond (Tm 121) ZC.skip (ZC.exit 6)
def zn67_81:=ZC.seq zn67_82 zn67_83
def zn67_87:=ZC.reg [zv 20 (.assign (Kn 0))]
def zn67_92:=ZC.reg [zu 124 (zmv 20),zu 125 (.binOp .lss 3 (Tm 124) (Kn 16) 3),zu 126 (zmv 125),zug 127 (zmv 19) 126 true false,zug 128 (zfa 40 4 2) 126 true false,zug 129 (zia 37 128 127) 126 true false,zug 130 (zfa 36 129 0) 126 true false,zug 131 (zld 3 130) 126 true false,zug 132 (.binOp .eql 3 (Tm 131) (Kn 2) 3) 126 true false,zv 133 (.pick (Tm 126) (Tm 132) (.const (.bool false)))]
def zn67_93:=ZC.cond (Tm 133) ZC.skip (ZC.exit 8)
def zn67_91:=ZC.seq zn67_92 zn67_93
def zn67_97:=ZC.reg [zu 136 (zmv 20),zu 137 (zfa 40 4 2),zu 138 (zia 37 137 136),zu 139 (zld 36 138),zu 21 (.alloc 36),zv0 (.store 36 (Tm 21) (Tm 139))]
def zn67_99:=ZC.draw 11 [] [zdd 0 140 (zfa 36 21 0) true [] [] false,zdd 1 141 (zld 3 140) true [] [] false,zdd 2 142 (.binOp .eql 3 (Tm 141) (Kn 1) 3) true [] [] false,zdd 3 143 (zmv 142) true [] [] false,⟨4,some 144,zmv 19,some (143,true),false,[],[],false⟩,⟨5,some 145,zfa 40 4 2,some (143,true),false,[],[],false⟩,⟨6,some 146,zia 37 145 144,some (143,true),false,[],[],false⟩,⟨7,some 147,zld 36 146,some (143,true),false,[],[],false⟩,⟨8,some 148,zld 36 21,some (143,true),true,[],[],false⟩,⟨9,some 149,zcf 48 [Tm 147,Tm 148] [36,36],some (143,true),true,[],[],false⟩,zdd 10 150 (.pick (Tm 143) (Tm 149) (.const (.bool false))) true [] [] false]
def zn67_102:=ZC.reg [zu 151 (zmv 19),zu 152 (zfa 40 4 2),zu 153 (zia 37 152 151),zu 154 (zfa 36 153 1),zu 155 (zld 3 154),zv 22 (zas 155)]
def zn67_104:=ZC.reg [zu 156 (zmv 22),zu 157 (zmv 22),zu 158 (zfa 40 4 3),zu 159 (zia 38 158 157),zu 160 (zld 3 159),zu 161 (.binOp .add 3 (Tm 160) (Kn 1) 3),zu 162 (zcb .min [Kn 2147483647,Tm 161] [3,3]),zu 163 (zfa 40 4 3),zu 164 (zia 38 163 156),zv0 (.store 3 (Tm 164) (Tm 162))]
def zn67_106:=ZC.reg [zu 165 (zmv 19),⟨some 166,.build 36 ⟨[]⟩,none,false⟩,zu 167 (zfa 40 4 2),zu 168 (zia 37 167 165),zv0 (.store 36 (Tm 168) (Tm 166))]
def zn67_108:=ZC.reg [zu 169 (zfa 36 21 1),zu 170 (zld 3 169),zu 171 (zfa 31 3 0),zu 172 (zld 3 171),zu 173 (zcf 39 [Tm 170,Tm 172] [3,3]),zu 23 (.alloc 36),zv0 (.store 36 (Tm 23) (Tm 173))]
def zn67_110:=ZC.reg [zu 174 (zfa 36 21 8),zu 175 (zld 3 174),zu 176 (zfa 36 23 8),zv0 (.store 3 (Tm 176) (Tm 175))]
def zn67_111:=ZC.reg [zu 177 (zmv 20),zu 178 (zld 36 23),zu 179 (zfa 40 4 2),zu 180 (zia 37 179 177),zv0 (.store 36 (Tm 180) (Tm 178))]
def zn67_109:=ZC.seq zn67_110 zn67_111
def zn67_107:=ZC.seq zn67_108 zn67_109
def zn67_105:=ZC.seq zn67_106 zn67_107
def zn67_103:=ZC.seq zn67_104 zn67_105
def zn67_101:=ZC.seq zn67_102 zn67_103
def zn67_100:=ZC.cond (Tm 150) zn67_101 ZC.skip
def zn67_98:=ZC.seq zn67_99 zn67_100
def zn67_96:=ZC.seq zn67_97 zn67_98
def zn67_95:=ZC.block 9 zn67_96
def zn67_112:=ZC.reg [zu 134 (zmv 20),zu 135 (.binOp .add 3 (Tm 134) (Kn 1) 3),zv 20 (zas 135)]
def zn67_94:=ZC.seq zn67_95 zn67_112
def V1t:=ZC.seq zn67_91 zn67_94
def zn67_89:=ZC.loop V1t
def zn67_88:=ZC.block 8 zn67_89
def zn67_86:=ZC.seq zn67_87 zn67_88
def zn67_85:=ZC.block 7 zn67_86
def zn67_113:=ZC.reg [zu 122 (zmv 19),zu 123 (.binOp .add 3 (Tm 122) (Kn 1) 3),zv 19 (zas 123)]
def zn67_84:=ZC.seq zn67_85 zn67_113
def K1r:=ZC.seq zn67_81 zn67_84
def zn67_79:=ZC.loop K1r
def zn67_78:=ZC.block 6 zn67_79
def zn67_76:=ZC.seq zn67_77 zn67_78
def zn67_115:=ZC.reg [zu 181 (zfa 40 4 0),zu 182 (zld 3 181),zu 183 (.binOp .add 3 (Tm 182) (Kn 1) 3),zu 184 (zcb .min [Kn 600,Tm 183] [3,3]),zu 185 (zfa 40 4 0),zv0 (.store 3 (Tm 185) (Tm 184))]
def zn67_117:=ZC.reg [zu 186 (zld 40 4),zv0 (.store 40 (Tm 6) (Tm 186))]
def zn67_116:=ZC.seq zn67_117 ZC.ret
def zn67_114:=ZC.seq zn67_115 zn67_116
def zn67_75:=ZC.seq zn67_76 zn67_114
def zn67_44:=ZC.seq zn67_45 zn67_75
def zn67_12:=ZC.seq zn67_13 zn67_44
def zn67_10:=ZC.seq zn67_11 zn67_12
def zn67_8:=ZC.seq zn67_9 zn67_10
def zn67_2:=ZC.seq zn67_3 zn67_8
def zn67_0:=ZC.seq zn67_1 zn67_2
def zc67: ZC:=zn67_0
theorem zc67_ok: zcode (xfOf Tryz.f16).code=some zc67:=by kernel_rfl
def zw67:=zU C zc67.eq_1<|zU C zn67_1.eq_1<|zU C zn67_4.eq_1<|zU C zn67_7.eq_1<|zU C zn67_6.eq_1<|zU C zn67_5.eq_1<|zU C zn67_3.eq_1<|zU C zn67_9.eq_1<|zU C zn67_11.eq_1<|zU C zn67_14.eq_1<|zU C zn67_19.eq_1<|zU C zn67_20.eq_1<|zU C zn67_18.eq_1<|zU C zn67_24.eq_1<|zU C zn67_27.eq_1<|zU C zn67_30.eq_1<|zU C zn67_32.eq_1<|zU C zn67_34.eq_1<|zU C zn67_37.eq_1<|zU C zn67_39.eq_1<|zU C zn67_40.eq_1<|zU C zn67_38.eq_1<|zU C zn67_36.eq_1<|zU C zn67_41.eq_1<|zU C zn67_35.eq_1<|zU C zn67_33.eq_1<|zU C zn67_31.eq_1<|zU C zn67_29.eq_1<|zU C zn67_28.eq_1<|zU C zn67_26.eq_1<|zU C zn67_42.eq_1<|zU C zn67_25.eq_1<|zU C zn67_23.eq_1<|zU C zn67_22.eq_1<|zU C zn67_43.eq_1<|zU C zn67_21.eq_1<|zU C Y10.eq_1<|zU C zn67_15.eq_1<|zU C zn67_13.eq_1<|zU C zn67_46.eq_1<|zU C zn67_51.eq_1<|zU C zn67_52.eq_1<|zU C zn67_50.eq_1<|zU C zn67_56.eq_1<|zU C zn67_58.eq_1<|zU C zn67_63.eq_1<|zU C zn67_64.eq_1<|zU C zn67_62.eq_1<|zU C zn67_68.eq_1<|zU C zn67_71.eq_1<|zU C zn67_72.eq_1<|zU C zn67_70.eq_1<|zU C zn67_69.eq_1<|zU C zn67_67.eq_1<|zU C zn67_66.eq_1<|zU C zn67_73.eq_1<|zU C zn67_65.eq_1<|zU C Y1q.eq_1<|zU C zn67_59.eq_1<|zU C zn67_57.eq_1<|zU C zn67_55.eq_1<|zU C zn67_54.eq_1<|zU C zn67_74.eq_1<|zU C zn67_53.eq_1<|zU C X1x.eq_1<|zU C zn67_47.eq_1<|zU C zn67_45.eq_1<|zU C zn67_77.eq_1<|zU C zn67_82.eq_1<|zU C zn67_83.eq_1<|zU C zn67_81.eq_1<|zU C zn67_87.eq_1<|zU C zn67_92.eq_1<|zU C zn67_93.eq_1<|zU C zn67_91.eq_1<|zU C zn67_97.eq_1<|zU C zn67_99.eq_1<|zU C zn67_102.eq_1<|zU C zn67_104.eq_1<|zU C zn67_106.eq_1<|zU C zn67_108.eq_1<|zU C zn67_110.eq_1<|zU C zn67_111.eq_1<|zU C zn67_109.eq_1<|zU C zn67_107.eq_1<|zU C zn67_105.eq_1<|zU C zn67_103.eq_1<|zU C zn67_101.eq_1<|zU C zn67_100.eq_1<|zU C zn67_98.eq_1<|zU C zn67_96.eq_1<|zU C zn67_95.eq_1<|zU C zn67_112.eq_1<|zU C zn67_94.eq_1<|zU C V1t.eq_1<|zU C zn67_88.eq_1<|zU C zn67_86.eq_1<|zU C zn67_85.eq_1<|zU C zn67_113.eq_1<|zU C zn67_84.eq_1<|zU C K1r.eq_1<|zU C zn67_78.eq_1<|zU C zn67_76.eq_1<|zU C zn67_115.eq_1<|zU C zn67_117.eq_1<|zU C zn67_116.eq_1<|zU C zn67_114.eq_1<|zU C zn67_75.eq_1<|zU C zn67_44.eq_1<|zU C zn67_12.eq_1<|zU C zn67_10.eq_1<|zU C zn67_8.eq_1<|zU C zn67_2.eq_1<|(zunf C zn67_0.eq_1)
theorem rs67: (xfOf Tryz.f16).rs=[.cell 6 40]:=by kernel_rfl
theorem xf67: XFok C 16 (xfOf Tryz.f16):=by refine⟨Tryz.f16,?_,?_,?_,?_,?_,?_,?_⟩<;>kernel_rfl
def zn87_1:=ZC.reg [zu 3 (.box 31 (Tm 0)),zu 4 (.box 40 (Tm 1)),zv 6 (.alloc 40)]
def zn87_4:=ZC.reg [zv 7 (.assign (Kn 0))]
def zn87_9:=ZC.reg [zu 8 (zmv 7),zu 9 (zmv 2),zu 10 (zcb .len [Tm 9] [54]),zv 11 (.binOp .lss 3 (Tm 8) (Tm 10) 3)]
def zn87_10:=ZC.cond (Tm 11) ZC.skip (ZC.exit 0)
def zn87_8:=ZC.seq zn87_9 zn87_10
def zn87_13:=ZC.draw 8 [] [zdd 0 14 (zld 31 3) false [] [] false,zdd 1 15 (zld 40 4) false [] [] false,zdd 2 16 (zmv 2) false [] [] false,zdd 3 17 (zmv 7) true [] [] false,zdd 4 18 (zia 54 16 17) true [] [] false,zdd 5 19 (zld 26 18) true [] [] false,zdd 6 20 (zcf 16 [Tm 14,Tm 15,Tm 19] [31,40,26]) true [] [] false,zd0 7 (.store 40 (Tm 4) (Tm 20)) true [] [] false]
def zn87_12:=ZC.block 1 zn87_13
def zn87_14:=ZC.reg [zu 12 (zmv 7),zu 13 (.binOp .add 3 (Tm 12) (Kn 1) 3),zv 7 (zas 13)]
def zn87_11:=ZC.seq zn87_12 zn87_14
def zn87_7:=ZC.seq zn87_8 zn87_11
def zn87_6:=ZC.loop zn87_7
def zn87_5:=ZC.block 0 zn87_6
def zn87_3:=ZC.seq zn87_4 zn87_5
def zn87_16:=ZC.reg [zu 21 (zld 40 4),zv0 (.store 40 (Tm 6) (Tm 21))]
def zn87_15:=ZC.seq zn87_16 ZC.ret
def zn87_2:=ZC.seq zn87_3 zn87_15
def zn87_0:=ZC.seq zn87_1 zn87_2
def zc87: ZC:=zn87_0
theorem zc87_ok: zcode (xfOf Tryz.f18).code=some zc87:=by kernel_rfl
def zw87:=zU C zc87.eq_1<|zU C zn87_1.eq_1<|zU C zn87_4.eq_1<|zU C zn87_9.eq_1<|zU C zn87_10.eq_1<|zU C zn87_8.eq_1<|zU C zn87_13.eq_1<|zU C zn87_12.eq_1<|zU C zn87_14.eq_1<|zU C zn87_11.eq_1<|zU C zn87_7.eq_1<|zU C zn87_5.eq_1<|zU C zn87_3.eq_1<|zU C zn87_16.eq_1<|zU C zn87_15.eq_1<|zU C zn87_2.eq_1<|(zunf C zn87_0.eq_1)
theorem rs87: (xfOf Tryz.f18).rs=[.cell 6 40]:=by kernel_rfl
theorem xf87: XFok C 18 (xfOf Tryz.f18):=by refine⟨Tryz.f18,?_,?_,?_,?_,?_,?_,?_⟩<;>kernel_rfl
end Go.Proofs.YtpchcfkebljopaaGreat
end
