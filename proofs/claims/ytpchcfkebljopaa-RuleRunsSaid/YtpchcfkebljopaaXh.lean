import Derived.Test.YtpchcfkebljopaaXg
set_option linter.unusedSimpArgs false
set_option linter.unusedVariables false
set_option linter.constructorNameAsVariable false
section
namespace Go.Proofs.Ytpchcfkebljopaa
open Go.Cl Go Go.RowKit
set_option maxRecDepth 100000
noncomputable def zn201_1 : ZC := ZC.reg [⟨some 6, .assign (.const (.int .i64 0)), none, true⟩]
noncomputable def zn201_3 : ZC := ZC.reg [⟨some 7, .move (.tmp 1), none, false⟩, ⟨some 8, .move (.tmp 0), none, false⟩, ⟨some 9, .move (.tmp 2), none, false⟩, ⟨some 10, .call ⟨.builtin .min, ⟨[.tmp 8, .tmp 9]⟩, ⟨[3, 3]⟩⟩, none, false⟩, ⟨some 11, .call ⟨.builtin .max, ⟨[.tmp 7, .tmp 10]⟩, ⟨[3, 3]⟩⟩, none, false⟩, ⟨some 6, .assign (.tmp 11), none, true⟩]
noncomputable def zn201_2 : ZC := ZC.seq zn201_3 ZC.ret
noncomputable def zn201_0 : ZC := ZC.seq zn201_1 zn201_2
noncomputable def zc201 : ZC := zn201_0
theorem zc201_ok : zcode (xfOf Try.f201).code = some zc201 := by kernel_rfl
set_option linter.defProp false in
def zw201 := And.intro (zunf C zc201.eq_1) <| And.intro (zunf C zn201_1.eq_1) <| And.intro (zunf C zn201_3.eq_1) <| And.intro (zunf C zn201_2.eq_1) <| (zunf C zn201_0.eq_1)
theorem rs201 : (xfOf Try.f201).rs = [.tmp 6] := by kernel_rfl
theorem xf201 : XFok C 201 (xfOf Try.f201) := ⟨Try.f201, by kernel_rfl, by kernel_rfl, by kernel_rfl, by kernel_rfl, by kernel_rfl, by kernel_rfl, by kernel_rfl⟩
noncomputable def zn84_1 : ZC := ZC.reg [⟨some 6, .assign (.const (.bool false)), none, true⟩]
noncomputable def zn84_3 : ZC := ZC.reg [⟨some 7, .move (.tmp 0), none, false⟩, ⟨some 8, .move (.tmp 1), none, false⟩, ⟨some 9, .binOp .geq 3 (.tmp 7) (.tmp 8) 3, none, false⟩, ⟨some 10, .move (.tmp 9), none, false⟩, ⟨some 11, .move (.tmp 0), some (10, true), false⟩, ⟨some 12, .move (.tmp 2), some (10, true), false⟩, ⟨some 13, .binOp .leq 3 (.tmp 11) (.tmp 12) 3, some (10, true), false⟩, ⟨some 14, .pick (.tmp 10) (.tmp 13) (.const (.bool false)), none, false⟩, ⟨some 6, .assign (.tmp 14), none, true⟩]
noncomputable def zn84_2 : ZC := ZC.seq zn84_3 ZC.ret
noncomputable def zn84_0 : ZC := ZC.seq zn84_1 zn84_2
noncomputable def zc84 : ZC := zn84_0
theorem zc84_ok : zcode (xfOf Try.f84).code = some zc84 := by kernel_rfl
set_option linter.defProp false in
def zw84 := And.intro (zunf C zc84.eq_1) <| And.intro (zunf C zn84_1.eq_1) <| And.intro (zunf C zn84_3.eq_1) <| And.intro (zunf C zn84_2.eq_1) <| (zunf C zn84_0.eq_1)
theorem rs84 : (xfOf Try.f84).rs = [.tmp 6] := by kernel_rfl
theorem xf84 : XFok C 84 (xfOf Try.f84) := ⟨Try.f84, by kernel_rfl, by kernel_rfl, by kernel_rfl, by kernel_rfl, by kernel_rfl, by kernel_rfl, by kernel_rfl⟩
noncomputable def zn150_0 : ZC := ZC.reg [⟨some 6, .move (.tmp 1), none, false⟩, ⟨some 7, .move (.tmp 2), none, false⟩, ⟨some 8, .move (.tmp 0), none, false⟩, ⟨some 9, .nilCheck (.tmp 8), none, false⟩, ⟨some 10, .fieldAddr 131 (.tmp 9) 2, none, false⟩, ⟨some 11, .load 3 (.tmp 10), none, false⟩, ⟨some 12, .call ⟨.value (.func 181), ⟨[.tmp 6, .tmp 7, .tmp 11]⟩, ⟨[4, 3, 3]⟩⟩, none, true⟩]
noncomputable def zc150 : ZC := zn150_0
theorem zc150_ok : zcode (xfOf Try.f150).code = some zc150 := by kernel_rfl
set_option linter.defProp false in
def zw150 := And.intro (zunf C zc150.eq_1) <| (zunf C zn150_0.eq_1)
theorem rs150 : (xfOf Try.f150).rs = [] := by kernel_rfl
theorem xf150 : XFok C 150 (xfOf Try.f150) := ⟨Try.f150, by kernel_rfl, by kernel_rfl, by kernel_rfl, by kernel_rfl, by kernel_rfl, by kernel_rfl, by kernel_rfl⟩
noncomputable def zn183_0 : ZC := ZC.draw 10 [] [⟨0, some 6, .move (.tmp 0), none, false, [], [], false⟩, ⟨1, some 7, .move (.tmp 1), none, false, [], [], false⟩, ⟨2, some 8, .move (.tmp 2), none, false, [], [], false⟩, ⟨3, some 9, .call ⟨.value (.func 201), ⟨[.tmp 8, .const (.int .i64 (-1000000)), .const (.int .i64 1000000)]⟩, ⟨[3, 3, 3]⟩⟩, none, false, [], [], true⟩, ⟨4, some 10, .nilCheck (.tmp 6), none, true, [], [], false⟩, ⟨5, some 11, .fieldAddr 131 (.tmp 10) 0, none, true, [3], [], false⟩, ⟨6, some 12, .fieldAddr 39 (.tmp 11) 0, none, true, [3], [], false⟩, ⟨7, some 13, .fieldAddr 34 (.tmp 12) 7, none, true, [3], [], false⟩, ⟨8, some 14, .indexAddr 32 (.tmp 13) (.tmp 7), none, true, [], [], false⟩, ⟨9, none, .store 3 (.tmp 14) (.tmp 9), none, true, [], [], false⟩]
noncomputable def zc183 : ZC := zn183_0
theorem zc183_ok : zcode (xfOf Try.f183).code = some zc183 := by kernel_rfl
set_option linter.defProp false in
def zw183 := And.intro (zunf C zc183.eq_1) <| (zunf C zn183_0.eq_1)
theorem rs183 : (xfOf Try.f183).rs = [] := by kernel_rfl
theorem xf183 : XFok C 183 (xfOf Try.f183) := ⟨Try.f183, by kernel_rfl, by kernel_rfl, by kernel_rfl, by kernel_rfl, by kernel_rfl, by kernel_rfl, by kernel_rfl⟩
noncomputable def zn186_1 : ZC := ZC.reg [⟨some 4, .assign (.const (.int .i64 0)), none, true⟩]
noncomputable def zn186_3 : ZC := ZC.reg [⟨some 5, .move (.tmp 0), none, false⟩, ⟨some 6, .move (.tmp 1), none, false⟩, ⟨some 7, .nilCheck (.tmp 5), none, false⟩, ⟨some 8, .fieldAddr 131 (.tmp 7) 0, none, false⟩, ⟨some 9, .fieldAddr 39 (.tmp 8) 0, none, false⟩, ⟨some 10, .fieldAddr 34 (.tmp 9) 7, none, false⟩, ⟨some 11, .indexAddr 32 (.tmp 10) (.tmp 6), none, false⟩, ⟨some 12, .load 3 (.tmp 11), none, false⟩, ⟨some 4, .assign (.tmp 12), none, true⟩]
noncomputable def zn186_2 : ZC := ZC.seq zn186_3 ZC.ret
noncomputable def zn186_0 : ZC := ZC.seq zn186_1 zn186_2
noncomputable def zc186 : ZC := zn186_0
theorem zc186_ok : zcode (xfOf Try.f186).code = some zc186 := by kernel_rfl
set_option linter.defProp false in
def zw186 := And.intro (zunf C zc186.eq_1) <| And.intro (zunf C zn186_1.eq_1) <| And.intro (zunf C zn186_3.eq_1) <| And.intro (zunf C zn186_2.eq_1) <| (zunf C zn186_0.eq_1)
theorem rs186 : (xfOf Try.f186).rs = [.tmp 4] := by kernel_rfl
theorem xf186 : XFok C 186 (xfOf Try.f186) := ⟨Try.f186, by kernel_rfl, by kernel_rfl, by kernel_rfl, by kernel_rfl, by kernel_rfl, by kernel_rfl, by kernel_rfl⟩
noncomputable def zn181_1 : ZC := ZC.reg [⟨some 6, .move (.tmp 0), none, false⟩, ⟨some 7, .unOp .not 4 (.tmp 6), none, true⟩]
noncomputable def zn181_3 : ZC := ZC.reg [⟨some 8, .move (.tmp 1), none, false⟩, ⟨some 9, .move (.tmp 2), none, false⟩, ⟨some 10, .call ⟨.value (.func 200), ⟨[.tmp 8, .tmp 9]⟩, ⟨[3, 3]⟩⟩, none, true⟩]
noncomputable def zn181_2 : ZC := ZC.cond (.tmp 7) zn181_3 ZC.skip
noncomputable def zn181_0 : ZC := ZC.seq zn181_1 zn181_2
noncomputable def zc181 : ZC := zn181_0
theorem zc181_ok : zcode (xfOf Try.f181).code = some zc181 := by kernel_rfl
set_option linter.defProp false in
def zw181 := And.intro (zunf C zc181.eq_1) <| And.intro (zunf C zn181_1.eq_1) <| And.intro (zunf C zn181_3.eq_1) <| And.intro (zunf C zn181_2.eq_1) <| (zunf C zn181_0.eq_1)
theorem rs181 : (xfOf Try.f181).rs = [] := by kernel_rfl
theorem xf181 : XFok C 181 (xfOf Try.f181) := ⟨Try.f181, by kernel_rfl, by kernel_rfl, by kernel_rfl, by kernel_rfl, by kernel_rfl, by kernel_rfl, by kernel_rfl⟩
noncomputable def zn200_0 : ZC := ZC.reg [⟨some 4, .move (.tmp 0), none, false⟩, ⟨some 5, .move (.tmp 1), none, false⟩, ⟨some 6, .build 44 ⟨[(0, .tmp 4), (1, .tmp 5)]⟩, none, false⟩, ⟨some 7, .build 194 ⟨[(0, .tmp 6)]⟩, none, false⟩, ⟨some 8, .makeInterface 194 (.tmp 7), none, false⟩, ⟨none, .panic (.tmp 8), none, true⟩]
noncomputable def zc200 : ZC := zn200_0
theorem zc200_ok : zcode (xfOf Try.f200).code = some zc200 := by kernel_rfl
set_option linter.defProp false in
def zw200 := And.intro (zunf C zc200.eq_1) <| (zunf C zn200_0.eq_1)
theorem rs200 : (xfOf Try.f200).rs = [] := by kernel_rfl
theorem xf200 : XFok C 200 (xfOf Try.f200) := ⟨Try.f200, by kernel_rfl, by kernel_rfl, by kernel_rfl, by kernel_rfl, by kernel_rfl, by kernel_rfl, by kernel_rfl⟩
noncomputable def zn187_1 : ZC := ZC.reg [⟨some 4, .assign (.const (.int .i64 0)), none, true⟩]
noncomputable def zn187_3 : ZC := ZC.reg [⟨some 5, .move (.tmp 0), none, false⟩, ⟨some 6, .move (.tmp 1), none, false⟩, ⟨some 7, .move (.tmp 0), none, false⟩, ⟨some 8, .nilCheck (.tmp 7), none, false⟩, ⟨some 9, .fieldAddr 131 (.tmp 8) 1, none, false⟩, ⟨some 10, .load 23 (.tmp 9), none, false⟩, ⟨some 11, .call ⟨.builtin .len, ⟨[.tmp 10]⟩, ⟨[23]⟩⟩, none, false⟩, ⟨some 12, .call ⟨.value (.func 84), ⟨[.tmp 6, .const (.int .i64 0), .tmp 11]⟩, ⟨[3, 3, 3]⟩⟩, none, false⟩, ⟨some 13, .call ⟨.value (.func 150), ⟨[.tmp 5, .tmp 12, .const (.int .i64 4)]⟩, ⟨[129, 4, 3]⟩⟩, none, true⟩]
noncomputable def zn187_5 : ZC := ZC.reg [⟨some 14, .move (.tmp 1), none, false⟩, ⟨some 4, .assign (.tmp 14), none, true⟩]
noncomputable def zn187_4 : ZC := ZC.seq zn187_5 ZC.ret
noncomputable def zn187_2 : ZC := ZC.seq zn187_3 zn187_4
noncomputable def zn187_0 : ZC := ZC.seq zn187_1 zn187_2
noncomputable def zc187 : ZC := zn187_0
theorem zc187_ok : zcode (xfOf Try.f187).code = some zc187 := by kernel_rfl
set_option linter.defProp false in
def zw187 := And.intro (zunf C zc187.eq_1) <| And.intro (zunf C zn187_1.eq_1) <| And.intro (zunf C zn187_3.eq_1) <| And.intro (zunf C zn187_5.eq_1) <| And.intro (zunf C zn187_4.eq_1) <| And.intro (zunf C zn187_2.eq_1) <| (zunf C zn187_0.eq_1)
theorem rs187 : (xfOf Try.f187).rs = [.tmp 4] := by kernel_rfl
theorem xf187 : XFok C 187 (xfOf Try.f187) := ⟨Try.f187, by kernel_rfl, by kernel_rfl, by kernel_rfl, by kernel_rfl, by kernel_rfl, by kernel_rfl, by kernel_rfl⟩
noncomputable def zn71_1 : ZC := ZC.reg [⟨some 6, .assign (.const (.bool false)), none, true⟩]
noncomputable def zn71_3 : ZC := ZC.reg [⟨some 7, .move (.tmp 0), none, false⟩, ⟨some 8, .move (.tmp 1), none, false⟩, ⟨some 9, .binOp .geq 3 (.tmp 7) (.tmp 8) 3, none, false⟩, ⟨some 10, .move (.tmp 9), none, false⟩, ⟨some 11, .move (.tmp 0), some (10, true), false⟩, ⟨some 12, .move (.tmp 2), some (10, true), false⟩, ⟨some 13, .binOp .leq 3 (.tmp 11) (.tmp 12) 3, some (10, true), false⟩, ⟨some 14, .pick (.tmp 10) (.tmp 13) (.const (.bool false)), none, false⟩, ⟨some 6, .assign (.tmp 14), none, true⟩]
noncomputable def zn71_2 : ZC := ZC.seq zn71_3 ZC.ret
noncomputable def zn71_0 : ZC := ZC.seq zn71_1 zn71_2
noncomputable def zc71 : ZC := zn71_0
theorem zc71_ok : zcode (xfOf Try.f71).code = some zc71 := by kernel_rfl
set_option linter.defProp false in
def zw71 := And.intro (zunf C zc71.eq_1) <| And.intro (zunf C zn71_1.eq_1) <| And.intro (zunf C zn71_3.eq_1) <| And.intro (zunf C zn71_2.eq_1) <| (zunf C zn71_0.eq_1)
theorem rs71 : (xfOf Try.f71).rs = [.tmp 6] := by kernel_rfl
theorem xf71 : XFok C 71 (xfOf Try.f71) := ⟨Try.f71, by kernel_rfl, by kernel_rfl, by kernel_rfl, by kernel_rfl, by kernel_rfl, by kernel_rfl, by kernel_rfl⟩
noncomputable def zn140_1 : ZC := ZC.reg [⟨some 6, .assign (.const (.int .i64 0)), none, true⟩]
noncomputable def zn140_3 : ZC := ZC.reg [⟨some 7, .move (.tmp 1), none, false⟩, ⟨some 8, .move (.tmp 0), none, false⟩, ⟨some 9, .move (.tmp 2), none, false⟩, ⟨some 10, .call ⟨.builtin .min, ⟨[.tmp 8, .tmp 9]⟩, ⟨[3, 3]⟩⟩, none, false⟩, ⟨some 11, .call ⟨.builtin .max, ⟨[.tmp 7, .tmp 10]⟩, ⟨[3, 3]⟩⟩, none, false⟩, ⟨some 6, .assign (.tmp 11), none, true⟩]
noncomputable def zn140_2 : ZC := ZC.seq zn140_3 ZC.ret
noncomputable def zn140_0 : ZC := ZC.seq zn140_1 zn140_2
noncomputable def zc140 : ZC := zn140_0
theorem zc140_ok : zcode (xfOf Try.f140).code = some zc140 := by kernel_rfl
set_option linter.defProp false in
def zw140 := And.intro (zunf C zc140.eq_1) <| And.intro (zunf C zn140_1.eq_1) <| And.intro (zunf C zn140_3.eq_1) <| And.intro (zunf C zn140_2.eq_1) <| (zunf C zn140_0.eq_1)
theorem rs140 : (xfOf Try.f140).rs = [.tmp 6] := by kernel_rfl
theorem xf140 : XFok C 140 (xfOf Try.f140) := ⟨Try.f140, by kernel_rfl, by kernel_rfl, by kernel_rfl, by kernel_rfl, by kernel_rfl, by kernel_rfl, by kernel_rfl⟩
noncomputable def zn24_1 : ZC := ZC.reg [⟨some 1, .box 34 (.tmp 0), none, false⟩, ⟨some 2, .assign (.const (.bool false)), none, true⟩]
noncomputable def zn24_4 : ZC := ZC.reg [⟨some 7, .fieldAddr 34 (.tmp 1) 0, none, false⟩, ⟨some 8, .load 3 (.tmp 7), none, false⟩, ⟨some 9, .binOp .eql 3 (.tmp 8) (.const (.int .i64 0)) 3, none, true⟩]
noncomputable def zn24_7 : ZC := ZC.reg [⟨some 10, .load 34 (.tmp 1), none, false⟩, ⟨some 11, .build 34 ⟨[]⟩, none, false⟩, ⟨some 12, .binOp .eql 34 (.tmp 10) (.tmp 11) 34, none, false⟩, ⟨some 2, .assign (.tmp 12), none, true⟩]
noncomputable def zn24_6 : ZC := ZC.seq zn24_7 ZC.ret
noncomputable def zn24_5 : ZC := ZC.cond (.tmp 9) zn24_6 ZC.skip
noncomputable def zn24_3 : ZC := ZC.seq zn24_4 zn24_5
noncomputable def zn24_10 : ZC := ZC.reg [⟨some 13, .fieldAddr 34 (.tmp 1) 7, none, false⟩, ⟨some 14, .load 32 (.tmp 13), none, false⟩, ⟨some 15, .move (.const (.int .i64 0)), none, true⟩]
noncomputable def zn24_14 : ZC := ZC.reg [⟨some 16, .binOp .lss 3 (.tmp 15) (.const (.int .i64 4)) 3, none, true⟩]
noncomputable def zn24_16 : ZC := ZC.cond (.tmp 16) ZC.skip (ZC.exit 0)
noncomputable def zn24_20 : ZC := ZC.reg [⟨some 17, .index 32 (.tmp 14) (.tmp 15), none, false⟩, ⟨some 4, .assign (.tmp 17), none, true⟩]
noncomputable def zn24_22 : ZC := ZC.reg [⟨some 18, .move (.tmp 4), none, false⟩, ⟨some 19, .call ⟨.value (.func 71), ⟨[.tmp 18, .const (.int .i64 (-1000000)), .const (.int .i64 1000000)]⟩, ⟨[3, 3, 3]⟩⟩, none, false⟩, ⟨some 20, .unOp .not 4 (.tmp 19), none, true⟩]
noncomputable def zn24_25 : ZC := ZC.reg [⟨some 2, .assign (.const (.bool false)), none, true⟩]
noncomputable def zn24_24 : ZC := ZC.seq zn24_25 ZC.ret
noncomputable def zn24_23 : ZC := ZC.cond (.tmp 20) zn24_24 ZC.skip
noncomputable def zn24_21 : ZC := ZC.seq zn24_22 zn24_23
noncomputable def zn24_19 : ZC := ZC.seq zn24_20 zn24_21
noncomputable def zn24_18 : ZC := ZC.block 1 zn24_19
noncomputable def zn24_26 : ZC := ZC.reg [⟨some 21, .binOp .add 3 (.tmp 15) (.const (.int .i64 1)) 3, none, false⟩, ⟨some 15, .move (.tmp 21), none, true⟩]
noncomputable def zn24_17 : ZC := ZC.seq zn24_18 zn24_26
noncomputable def zn24_15 : ZC := ZC.seq zn24_16 zn24_17
noncomputable def zn24_13 : ZC := ZC.seq zn24_14 zn24_15
noncomputable def zn24_12 : ZC := ZC.loop zn24_13
noncomputable def zn24_11 : ZC := ZC.block 0 zn24_12
noncomputable def zn24_9 : ZC := ZC.seq zn24_10 zn24_11
noncomputable def zn24_28 : ZC := ZC.reg [⟨some 22, .fieldAddr 34 (.tmp 1) 2, none, false⟩, ⟨some 23, .load 3 (.tmp 22), none, false⟩, ⟨some 24, .call ⟨.value (.func 71), ⟨[.tmp 23, .const (.int .i64 0), .const (.int .i64 4095)]⟩, ⟨[3, 3, 3]⟩⟩, none, false⟩, ⟨some 25, .move (.tmp 24), none, false⟩, ⟨some 26, .fieldAddr 34 (.tmp 1) 3, some (25, true), false⟩, ⟨some 27, .load 3 (.tmp 26), some (25, true), false⟩, ⟨some 28, .call ⟨.value (.func 71), ⟨[.tmp 27, .const (.int .i64 0), .const (.int .i64 4095)]⟩, ⟨[3, 3, 3]⟩⟩, some (25, true), false⟩, ⟨some 29, .pick (.tmp 25) (.tmp 28) (.const (.bool false)), none, false⟩, ⟨some 5, .assign (.tmp 29), none, true⟩]
noncomputable def zn24_30 : ZC := ZC.reg [⟨some 30, .fieldAddr 34 (.tmp 1) 4, none, false⟩, ⟨some 31, .load 3 (.tmp 30), none, false⟩, ⟨some 32, .call ⟨.value (.func 71), ⟨[.tmp 31, .const (.int .i64 (-64)), .const (.int .i64 64)]⟩, ⟨[3, 3, 3]⟩⟩, none, false⟩, ⟨some 33, .move (.tmp 32), none, false⟩, ⟨some 34, .fieldAddr 34 (.tmp 1) 5, some (33, true), false⟩, ⟨some 35, .load 3 (.tmp 34), some (33, true), false⟩, ⟨some 36, .call ⟨.value (.func 71), ⟨[.tmp 35, .const (.int .i64 (-64)), .const (.int .i64 64)]⟩, ⟨[3, 3, 3]⟩⟩, some (33, true), false⟩, ⟨some 37, .pick (.tmp 33) (.tmp 36) (.const (.bool false)), none, false⟩, ⟨some 6, .assign (.tmp 37), none, true⟩]
noncomputable def zn24_32 : ZC := ZC.reg [⟨some 38, .fieldAddr 34 (.tmp 1) 0, none, false⟩, ⟨some 39, .load 3 (.tmp 38), none, false⟩, ⟨some 40, .binOp .eql 3 (.tmp 39) (.const (.int .i64 1)) 3, none, false⟩, ⟨some 41, .move (.tmp 40), none, false⟩, ⟨some 42, .fieldAddr 34 (.tmp 1) 0, some (41, false), false⟩, ⟨some 43, .load 3 (.tmp 42), some (41, false), false⟩, ⟨some 44, .binOp .eql 3 (.tmp 43) (.const (.int .i64 2)) 3, some (41, false), false⟩, ⟨some 45, .pick (.tmp 41) (.const (.bool true)) (.tmp 44), none, false⟩, ⟨some 46, .move (.tmp 45), none, false⟩, ⟨some 47, .fieldAddr 34 (.tmp 1) 1, some (46, true), false⟩, ⟨some 48, .load 3 (.tmp 47), some (46, true), false⟩, ⟨some 49, .call ⟨.value (.func 71), ⟨[.tmp 48, .const (.int .i64 0), .const (.int .i64 7)]⟩, ⟨[3, 3, 3]⟩⟩, some (46, true), false⟩, ⟨some 50, .pick (.tmp 46) (.tmp 49) (.const (.bool false)), none, false⟩, ⟨some 51, .move (.tmp 50), none, false⟩, ⟨some 52, .move (.tmp 5), some (51, true), false⟩, ⟨some 53, .pick (.tmp 51) (.tmp 52) (.const (.bool false)), none, false⟩, ⟨some 54, .move (.tmp 53), none, false⟩, ⟨some 55, .move (.tmp 6), some (54, true), false⟩, ⟨some 56, .pick (.tmp 54) (.tmp 55) (.const (.bool false)), none, false⟩, ⟨some 57, .move (.tmp 56), none, false⟩, ⟨some 58, .fieldAddr 34 (.tmp 1) 6, some (57, true), false⟩, ⟨some 59, .load 3 (.tmp 58), some (57, true), false⟩, ⟨some 60, .call ⟨.value (.func 71), ⟨[.tmp 59, .const (.int .i64 0), .const (.int .i64 600)]⟩, ⟨[3, 3, 3]⟩⟩, some (57, true), false⟩, ⟨some 61, .pick (.tmp 57) (.tmp 60) (.const (.bool false)), none, false⟩, ⟨some 62, .move (.tmp 61), none, false⟩, ⟨some 63, .fieldAddr 34 (.tmp 1) 8, some (62, true), false⟩, ⟨some 64, .load 3 (.tmp 63), some (62, true), false⟩, ⟨some 65, .call ⟨.value (.func 71), ⟨[.tmp 64, .const (.int .i64 0), .const (.int .i64 65535)]⟩, ⟨[3, 3, 3]⟩⟩, some (62, true), false⟩, ⟨some 66, .pick (.tmp 62) (.tmp 65) (.const (.bool false)), none, false⟩, ⟨some 2, .assign (.tmp 66), none, true⟩]
noncomputable def zn24_31 : ZC := ZC.seq zn24_32 ZC.ret
noncomputable def zn24_29 : ZC := ZC.seq zn24_30 zn24_31
noncomputable def zn24_27 : ZC := ZC.seq zn24_28 zn24_29
noncomputable def zn24_8 : ZC := ZC.seq zn24_9 zn24_27
noncomputable def zn24_2 : ZC := ZC.seq zn24_3 zn24_8
noncomputable def zn24_0 : ZC := ZC.seq zn24_1 zn24_2
noncomputable def zc24 : ZC := zn24_0
theorem zc24_ok : zcode (xfOf Try.f24).code = some zc24 := by kernel_rfl
set_option linter.defProp false in
def zw24 := And.intro (zunf C zc24.eq_1) <| And.intro (zunf C zn24_1.eq_1) <| And.intro (zunf C zn24_4.eq_1) <| And.intro (zunf C zn24_7.eq_1) <| And.intro (zunf C zn24_6.eq_1) <| And.intro (zunf C zn24_5.eq_1) <| And.intro (zunf C zn24_3.eq_1) <| And.intro (zunf C zn24_10.eq_1) <| And.intro (zunf C zn24_14.eq_1) <| And.intro (zunf C zn24_16.eq_1) <| And.intro (zunf C zn24_20.eq_1) <| And.intro (zunf C zn24_22.eq_1) <| And.intro (zunf C zn24_25.eq_1) <| And.intro (zunf C zn24_24.eq_1) <| And.intro (zunf C zn24_23.eq_1) <| And.intro (zunf C zn24_21.eq_1) <| And.intro (zunf C zn24_19.eq_1) <| And.intro (zunf C zn24_18.eq_1) <| And.intro (zunf C zn24_26.eq_1) <| And.intro (zunf C zn24_17.eq_1) <| And.intro (zunf C zn24_15.eq_1) <| And.intro (zunf C zn24_13.eq_1) <| And.intro (zunf C zn24_11.eq_1) <| And.intro (zunf C zn24_9.eq_1) <| And.intro (zunf C zn24_28.eq_1) <| And.intro (zunf C zn24_30.eq_1) <| And.intro (zunf C zn24_32.eq_1) <| And.intro (zunf C zn24_31.eq_1) <| And.intro (zunf C zn24_29.eq_1) <| And.intro (zunf C zn24_27.eq_1) <| And.intro (zunf C zn24_8.eq_1) <| And.intro (zunf C zn24_2.eq_1) <| (zunf C zn24_0.eq_1)
theorem rs24 : (xfOf Try.f24).rs = [.tmp 2] := by kernel_rfl
theorem xf24 : XFok C 24 (xfOf Try.f24) := ⟨Try.f24, by kernel_rfl, by kernel_rfl, by kernel_rfl, by kernel_rfl, by kernel_rfl, by kernel_rfl, by kernel_rfl⟩
noncomputable def zn182_1 : ZC := ZC.reg [⟨some 3, .box 29 (.tmp 1), none, true⟩]
noncomputable def zn182_3 : ZC := ZC.reg [⟨some 4, .assign (.const (.bool true)), none, false⟩, ⟨some 5, .assign (.const (.bool true)), none, true⟩]
noncomputable def zn182_6 : ZC := ZC.reg [⟨some 6, .fieldAddr 29 (.tmp 3) 0, none, false⟩, ⟨some 7, .load 3 (.tmp 6), none, true⟩]
noncomputable def zn182_10 : ZC := ZC.reg [⟨some 9, .binOp .eql 3 (.tmp 7) (.const (.int .i64 1)) 3, none, false⟩, ⟨some 8, .assign (.tmp 9), none, true⟩]
noncomputable def zn182_13 : ZC := ZC.reg [⟨some 10, .binOp .eql 3 (.tmp 7) (.const (.int .i64 7)) 3, none, false⟩, ⟨some 8, .assign (.tmp 10), none, true⟩]
noncomputable def zn182_15 : ZC := ZC.reg [⟨some 11, .binOp .eql 3 (.tmp 7) (.const (.int .i64 9)) 3, none, false⟩, ⟨some 8, .assign (.tmp 11), none, true⟩]
noncomputable def zn182_14 : ZC := ZC.cond (.tmp 8) ZC.skip zn182_15
noncomputable def zn182_12 : ZC := ZC.seq zn182_13 zn182_14
noncomputable def zn182_11 : ZC := ZC.cond (.tmp 8) ZC.skip zn182_12
noncomputable def zn182_9 : ZC := ZC.seq zn182_10 zn182_11
noncomputable def zn182_17 : ZC := ZC.reg [⟨some 5, .assign (.const (.bool false)), none, true⟩]
noncomputable def zn182_19 : ZC := ZC.reg [⟨some 13, .binOp .eql 3 (.tmp 7) (.const (.int .i64 8)) 3, none, false⟩, ⟨some 12, .assign (.tmp 13), none, true⟩]
noncomputable def zn182_21 : ZC := ZC.reg [⟨some 4, .assign (.const (.bool false)), none, true⟩]
noncomputable def zn182_24 : ZC := ZC.reg [⟨some 15, .binOp .eql 3 (.tmp 7) (.const (.int .i64 10)) 3, none, false⟩, ⟨some 14, .assign (.tmp 15), none, true⟩]
noncomputable def zn182_26 : ZC := ZC.reg [⟨some 16, .binOp .eql 3 (.tmp 7) (.const (.int .i64 13)) 3, none, false⟩, ⟨some 14, .assign (.tmp 16), none, true⟩]
noncomputable def zn182_25 : ZC := ZC.cond (.tmp 14) ZC.skip zn182_26
noncomputable def zn182_23 : ZC := ZC.seq zn182_24 zn182_25
noncomputable def zn182_28 : ZC := ZC.reg [⟨some 4, .assign (.const (.bool false)), none, false⟩, ⟨some 5, .assign (.const (.bool false)), none, true⟩]
noncomputable def zn182_27 : ZC := ZC.cond (.tmp 14) zn182_28 ZC.skip
noncomputable def zn182_22 : ZC := ZC.seq zn182_23 zn182_27
noncomputable def zn182_20 : ZC := ZC.cond (.tmp 12) zn182_21 zn182_22
noncomputable def zn182_18 : ZC := ZC.seq zn182_19 zn182_20
noncomputable def zn182_16 : ZC := ZC.cond (.tmp 8) zn182_17 zn182_18
noncomputable def zn182_8 : ZC := ZC.seq zn182_9 zn182_16
noncomputable def zn182_7 : ZC := ZC.block 0 zn182_8
noncomputable def zn182_5 : ZC := ZC.seq zn182_6 zn182_7
noncomputable def zn182_30 : ZC := ZC.reg [⟨some 17, .move (.tmp 0), none, false⟩, ⟨some 18, .move (.tmp 4), none, false⟩, ⟨some 19, .unOp .not 4 (.tmp 18), none, false⟩, ⟨some 20, .move (.tmp 19), none, false⟩, ⟨some 21, .fieldAddr 29 (.tmp 3) 1, some (20, false), false⟩, ⟨some 22, .load 3 (.tmp 21), some (20, false), false⟩, ⟨some 23, .call ⟨.value (.func 84), ⟨[.tmp 22, .const (.int .i64 0), .const (.int .i64 3)]⟩, ⟨[3, 3, 3]⟩⟩, some (20, false), false⟩, ⟨some 24, .pick (.tmp 20) (.const (.bool true)) (.tmp 23), none, false⟩, ⟨some 25, .call ⟨.value (.func 150), ⟨[.tmp 17, .tmp 24, .const (.int .i64 2)]⟩, ⟨[129, 4, 3]⟩⟩, none, true⟩]
noncomputable def zn182_31 : ZC := ZC.reg [⟨some 26, .move (.tmp 0), none, false⟩, ⟨some 27, .move (.tmp 5), none, false⟩, ⟨some 28, .unOp .not 4 (.tmp 27), none, false⟩, ⟨some 29, .move (.tmp 28), none, false⟩, ⟨some 30, .fieldAddr 29 (.tmp 3) 2, some (29, false), false⟩, ⟨some 31, .load 3 (.tmp 30), some (29, false), false⟩, ⟨some 32, .call ⟨.value (.func 84), ⟨[.tmp 31, .const (.int .i64 0), .const (.int .i64 3)]⟩, ⟨[3, 3, 3]⟩⟩, some (29, false), false⟩, ⟨some 33, .pick (.tmp 29) (.const (.bool true)) (.tmp 32), none, false⟩, ⟨some 34, .call ⟨.value (.func 150), ⟨[.tmp 26, .tmp 33, .const (.int .i64 2)]⟩, ⟨[129, 4, 3]⟩⟩, none, true⟩]
noncomputable def zn182_29 : ZC := ZC.seq zn182_30 zn182_31
noncomputable def zn182_4 : ZC := ZC.seq zn182_5 zn182_29
noncomputable def zn182_2 : ZC := ZC.seq zn182_3 zn182_4
noncomputable def zn182_0 : ZC := ZC.seq zn182_1 zn182_2
noncomputable def zc182 : ZC := zn182_0
theorem zc182_ok : zcode (xfOf Try.f182).code = some zc182 := by kernel_rfl
set_option linter.defProp false in
def zw182 := And.intro (zunf C zc182.eq_1) <| And.intro (zunf C zn182_1.eq_1) <| And.intro (zunf C zn182_3.eq_1) <| And.intro (zunf C zn182_6.eq_1) <| And.intro (zunf C zn182_10.eq_1) <| And.intro (zunf C zn182_13.eq_1) <| And.intro (zunf C zn182_15.eq_1) <| And.intro (zunf C zn182_14.eq_1) <| And.intro (zunf C zn182_12.eq_1) <| And.intro (zunf C zn182_11.eq_1) <| And.intro (zunf C zn182_9.eq_1) <| And.intro (zunf C zn182_17.eq_1) <| And.intro (zunf C zn182_19.eq_1) <| And.intro (zunf C zn182_21.eq_1) <| And.intro (zunf C zn182_24.eq_1) <| And.intro (zunf C zn182_26.eq_1) <| And.intro (zunf C zn182_25.eq_1) <| And.intro (zunf C zn182_23.eq_1) <| And.intro (zunf C zn182_28.eq_1) <| And.intro (zunf C zn182_27.eq_1) <| And.intro (zunf C zn182_22.eq_1) <| And.intro (zunf C zn182_20.eq_1) <| And.intro (zunf C zn182_18.eq_1) <| And.intro (zunf C zn182_16.eq_1) <| And.intro (zunf C zn182_8.eq_1) <| And.intro (zunf C zn182_7.eq_1) <| And.intro (zunf C zn182_5.eq_1) <| And.intro (zunf C zn182_30.eq_1) <| And.intro (zunf C zn182_31.eq_1) <| And.intro (zunf C zn182_29.eq_1) <| And.intro (zunf C zn182_4.eq_1) <| And.intro (zunf C zn182_2.eq_1) <| (zunf C zn182_0.eq_1)
theorem rs182 : (xfOf Try.f182).rs = [] := by kernel_rfl
theorem xf182 : XFok C 182 (xfOf Try.f182) := ⟨Try.f182, by kernel_rfl, by kernel_rfl, by kernel_rfl, by kernel_rfl, by kernel_rfl, by kernel_rfl, by kernel_rfl⟩
noncomputable def zn184_1 : ZC := ZC.reg [⟨some 4, .assign (.const (.int .i64 0)), none, true⟩]
noncomputable def zn184_3 : ZC := ZC.reg [⟨some 7, .move (.tmp 0), none, false⟩, ⟨some 8, .nilCheck (.tmp 7), none, false⟩, ⟨some 9, .fieldAddr 131 (.tmp 8) 0, none, false⟩, ⟨some 10, .fieldAddr 39 (.tmp 9) 0, none, false⟩, ⟨some 11, .load 34 (.tmp 10), none, false⟩, ⟨some 5, .alloc 34, none, false⟩, ⟨none, .store 34 (.tmp 5) (.tmp 11), none, true⟩]
noncomputable def zn184_5 : ZC := ZC.draw 30 [] [⟨0, some 12, .fieldAddr 34 (.tmp 5) 2, none, false, [], [], false⟩, ⟨1, some 13, .load 3 (.tmp 12), none, false, [], [], false⟩, ⟨2, some 14, .fieldAddr 34 (.tmp 5) 3, none, false, [], [], false⟩, ⟨3, some 15, .load 3 (.tmp 14), none, false, [], [], false⟩, ⟨4, some 16, .fieldAddr 34 (.tmp 5) 4, none, false, [], [], false⟩, ⟨5, some 17, .load 3 (.tmp 16), none, false, [], [], false⟩, ⟨6, some 18, .fieldAddr 34 (.tmp 5) 5, none, false, [], [], false⟩, ⟨7, some 19, .load 3 (.tmp 18), none, false, [], [], false⟩, ⟨8, some 20, .fieldAddr 34 (.tmp 5) 6, none, false, [], [], false⟩, ⟨9, some 21, .load 3 (.tmp 20), none, false, [], [], false⟩, ⟨10, some 22, .move (.tmp 0), none, false, [], [], false⟩, ⟨11, some 23, .nilCheck (.tmp 22), none, false, [], [], false⟩, ⟨12, some 24, .fieldAddr 131 (.tmp 23) 0, none, false, [], [], false⟩, ⟨13, some 25, .fieldAddr 39 (.tmp 24) 1, none, false, [], [], false⟩, ⟨14, some 26, .fieldAddr 36 (.tmp 25) 0, none, false, [], [], false⟩, ⟨15, some 27, .load 3 (.tmp 26), none, false, [], [], false⟩, ⟨16, some 28, .move (.tmp 0), none, false, [], [], false⟩, ⟨17, some 29, .nilCheck (.tmp 28), none, false, [], [], false⟩, ⟨18, some 30, .fieldAddr 131 (.tmp 29) 0, none, false, [], [], false⟩, ⟨19, some 31, .fieldAddr 39 (.tmp 30) 1, none, false, [], [], false⟩, ⟨20, some 32, .fieldAddr 36 (.tmp 31) 1, none, false, [], [], false⟩, ⟨21, some 33, .load 3 (.tmp 32), none, false, [], [], false⟩, ⟨22, some 34, .move (.tmp 0), none, true, [], [], false⟩, ⟨23, some 35, .nilCheck (.tmp 34), none, true, [], [], false⟩, ⟨24, some 36, .fieldAddr 131 (.tmp 35) 0, none, true, [], [], false⟩, ⟨25, some 37, .fieldAddr 39 (.tmp 36) 1, none, true, [], [], false⟩, ⟨26, some 38, .fieldAddr 36 (.tmp 37) 2, none, true, [], [], false⟩, ⟨27, some 39, .load 3 (.tmp 38), none, true, [], [], false⟩, ⟨28, some 40, .buildSlice 24 8 ⟨[(0, .tmp 13), (1, .tmp 15), (2, .tmp 17), (3, .tmp 19), (4, .tmp 21), (5, .tmp 27), (6, .tmp 33), (7, .tmp 39)]⟩, none, true, [], [], false⟩, ⟨29, some 6, .assign (.tmp 40), none, true, [], [], false⟩]
noncomputable def zn184_7 : ZC := ZC.reg [⟨some 41, .move (.tmp 0), none, false⟩, ⟨some 42, .move (.tmp 1), none, false⟩, ⟨some 43, .move (.tmp 6), none, false⟩, ⟨some 44, .call ⟨.builtin .len, ⟨[.tmp 43]⟩, ⟨[24]⟩⟩, none, false⟩, ⟨some 45, .binOp .sub 3 (.tmp 44) (.const (.int .i64 1)) 3, none, false⟩, ⟨some 46, .call ⟨.value (.func 84), ⟨[.tmp 42, .const (.int .i64 0), .tmp 45]⟩, ⟨[3, 3, 3]⟩⟩, none, false⟩, ⟨some 47, .call ⟨.value (.func 150), ⟨[.tmp 41, .tmp 46, .const (.int .i64 3)]⟩, ⟨[129, 4, 3]⟩⟩, none, true⟩]
noncomputable def zn184_9 : ZC := ZC.reg [⟨some 48, .move (.tmp 6), none, false⟩, ⟨some 49, .move (.tmp 1), none, false⟩, ⟨some 50, .indexAddr 24 (.tmp 48) (.tmp 49), none, false⟩, ⟨some 51, .load 3 (.tmp 50), none, false⟩, ⟨some 4, .assign (.tmp 51), none, true⟩]
noncomputable def zn184_8 : ZC := ZC.seq zn184_9 ZC.ret
noncomputable def zn184_6 : ZC := ZC.seq zn184_7 zn184_8
noncomputable def zn184_4 : ZC := ZC.seq zn184_5 zn184_6
noncomputable def zn184_2 : ZC := ZC.seq zn184_3 zn184_4
noncomputable def zn184_0 : ZC := ZC.seq zn184_1 zn184_2
noncomputable def zc184 : ZC := zn184_0
theorem zc184_ok : zcode (xfOf Try.f184).code = some zc184 := by kernel_rfl
set_option linter.defProp false in
def zw184 := And.intro (zunf C zc184.eq_1) <| And.intro (zunf C zn184_1.eq_1) <| And.intro (zunf C zn184_3.eq_1) <| And.intro (zunf C zn184_5.eq_1) <| And.intro (zunf C zn184_7.eq_1) <| And.intro (zunf C zn184_9.eq_1) <| And.intro (zunf C zn184_8.eq_1) <| And.intro (zunf C zn184_6.eq_1) <| And.intro (zunf C zn184_4.eq_1) <| And.intro (zunf C zn184_2.eq_1) <| (zunf C zn184_0.eq_1)
theorem rs184 : (xfOf Try.f184).rs = [.tmp 4] := by kernel_rfl
theorem xf184 : XFok C 184 (xfOf Try.f184) := ⟨Try.f184, by kernel_rfl, by kernel_rfl, by kernel_rfl, by kernel_rfl, by kernel_rfl, by kernel_rfl, by kernel_rfl⟩
noncomputable def zn185_1 : ZC := ZC.reg [⟨some 7, .move (.tmp 0), none, false⟩, ⟨some 8, .nilCheck (.tmp 7), none, false⟩, ⟨some 9, .fieldAddr 131 (.tmp 8) 0, none, false⟩, ⟨some 10, .fieldAddr 39 (.tmp 9) 0, none, false⟩, ⟨some 6, .assign (.tmp 10), none, true⟩]
noncomputable def zn185_3 : ZC := ZC.reg [⟨some 11, .move (.tmp 1), none, true⟩]
noncomputable def zn185_6 : ZC := ZC.reg [⟨some 15, .binOp .eql 3 (.tmp 11) (.const (.int .i64 0)) 3, none, false⟩, ⟨some 14, .assign (.tmp 15), none, true⟩]
noncomputable def zn185_8 : ZC := ZC.reg [⟨some 16, .move (.tmp 6), none, false⟩, ⟨some 17, .move (.tmp 2), none, false⟩, ⟨some 18, .call ⟨.value (.func 201), ⟨[.tmp 17, .const (.int .i64 0), .const (.int .i64 4095)]⟩, ⟨[3, 3, 3]⟩⟩, none, false⟩, ⟨some 19, .nilCheck (.tmp 16), none, false⟩, ⟨some 20, .fieldAddr 34 (.tmp 19) 2, none, false⟩, ⟨none, .store 3 (.tmp 20) (.tmp 18), none, true⟩]
noncomputable def zn185_10 : ZC := ZC.reg [⟨some 22, .binOp .eql 3 (.tmp 11) (.const (.int .i64 1)) 3, none, false⟩, ⟨some 21, .assign (.tmp 22), none, true⟩]
noncomputable def zn185_12 : ZC := ZC.reg [⟨some 23, .move (.tmp 6), none, false⟩, ⟨some 24, .move (.tmp 2), none, false⟩, ⟨some 25, .call ⟨.value (.func 201), ⟨[.tmp 24, .const (.int .i64 0), .const (.int .i64 4095)]⟩, ⟨[3, 3, 3]⟩⟩, none, false⟩, ⟨some 26, .nilCheck (.tmp 23), none, false⟩, ⟨some 27, .fieldAddr 34 (.tmp 26) 3, none, false⟩, ⟨none, .store 3 (.tmp 27) (.tmp 25), none, true⟩]
noncomputable def zn185_14 : ZC := ZC.reg [⟨some 29, .binOp .eql 3 (.tmp 11) (.const (.int .i64 2)) 3, none, false⟩, ⟨some 28, .assign (.tmp 29), none, true⟩]
noncomputable def zn185_16 : ZC := ZC.reg [⟨some 30, .move (.tmp 6), none, false⟩, ⟨some 31, .move (.tmp 2), none, false⟩, ⟨some 32, .call ⟨.value (.func 201), ⟨[.tmp 31, .const (.int .i64 (-64)), .const (.int .i64 64)]⟩, ⟨[3, 3, 3]⟩⟩, none, false⟩, ⟨some 33, .nilCheck (.tmp 30), none, false⟩, ⟨some 34, .fieldAddr 34 (.tmp 33) 4, none, false⟩, ⟨none, .store 3 (.tmp 34) (.tmp 32), none, true⟩]
noncomputable def zn185_18 : ZC := ZC.reg [⟨some 36, .binOp .eql 3 (.tmp 11) (.const (.int .i64 3)) 3, none, false⟩, ⟨some 35, .assign (.tmp 36), none, true⟩]
noncomputable def zn185_20 : ZC := ZC.reg [⟨some 37, .move (.tmp 6), none, false⟩, ⟨some 38, .move (.tmp 2), none, false⟩, ⟨some 39, .call ⟨.value (.func 201), ⟨[.tmp 38, .const (.int .i64 (-64)), .const (.int .i64 64)]⟩, ⟨[3, 3, 3]⟩⟩, none, false⟩, ⟨some 40, .nilCheck (.tmp 37), none, false⟩, ⟨some 41, .fieldAddr 34 (.tmp 40) 5, none, false⟩, ⟨none, .store 3 (.tmp 41) (.tmp 39), none, true⟩]
noncomputable def zn185_21 : ZC := ZC.reg [⟨some 12, .move (.tmp 0), none, false⟩, ⟨some 13, .call ⟨.value (.func 150), ⟨[.tmp 12, .const (.bool false), .const (.int .i64 3)]⟩, ⟨[129, 4, 3]⟩⟩, none, true⟩]
noncomputable def zn185_19 : ZC := ZC.cond (.tmp 35) zn185_20 zn185_21
noncomputable def zn185_17 : ZC := ZC.seq zn185_18 zn185_19
noncomputable def zn185_15 : ZC := ZC.cond (.tmp 28) zn185_16 zn185_17
noncomputable def zn185_13 : ZC := ZC.seq zn185_14 zn185_15
noncomputable def zn185_11 : ZC := ZC.cond (.tmp 21) zn185_12 zn185_13
noncomputable def zn185_9 : ZC := ZC.seq zn185_10 zn185_11
noncomputable def zn185_7 : ZC := ZC.cond (.tmp 14) zn185_8 zn185_9
noncomputable def zn185_5 : ZC := ZC.seq zn185_6 zn185_7
noncomputable def zn185_4 : ZC := ZC.block 0 zn185_5
noncomputable def zn185_2 : ZC := ZC.seq zn185_3 zn185_4
noncomputable def zn185_0 : ZC := ZC.seq zn185_1 zn185_2
noncomputable def zc185 : ZC := zn185_0
theorem zc185_ok : zcode (xfOf Try.f185).code = some zc185 := by kernel_rfl
set_option linter.defProp false in
def zw185 := And.intro (zunf C zc185.eq_1) <| And.intro (zunf C zn185_1.eq_1) <| And.intro (zunf C zn185_3.eq_1) <| And.intro (zunf C zn185_6.eq_1) <| And.intro (zunf C zn185_8.eq_1) <| And.intro (zunf C zn185_10.eq_1) <| And.intro (zunf C zn185_12.eq_1) <| And.intro (zunf C zn185_14.eq_1) <| And.intro (zunf C zn185_16.eq_1) <| And.intro (zunf C zn185_18.eq_1) <| And.intro (zunf C zn185_20.eq_1) <| And.intro (zunf C zn185_21.eq_1) <| And.intro (zunf C zn185_19.eq_1) <| And.intro (zunf C zn185_17.eq_1) <| And.intro (zunf C zn185_15.eq_1) <| And.intro (zunf C zn185_13.eq_1) <| And.intro (zunf C zn185_11.eq_1) <| And.intro (zunf C zn185_9.eq_1) <| And.intro (zunf C zn185_7.eq_1) <| And.intro (zunf C zn185_5.eq_1) <| And.intro (zunf C zn185_4.eq_1) <| And.intro (zunf C zn185_2.eq_1) <| (zunf C zn185_0.eq_1)
theorem rs185 : (xfOf Try.f185).rs = [] := by kernel_rfl
theorem xf185 : XFok C 185 (xfOf Try.f185) := ⟨Try.f185, by kernel_rfl, by kernel_rfl, by kernel_rfl, by kernel_rfl, by kernel_rfl, by kernel_rfl, by kernel_rfl⟩
noncomputable def zn188_1 : ZC := ZC.reg [⟨some 3, .box 29 (.tmp 1), none, true⟩]
noncomputable def zn188_3 : ZC := ZC.draw 10 [] [⟨0, some 8, .move (.tmp 0), none, false, [], [], false⟩, ⟨1, some 9, .fieldAddr 29 (.tmp 3) 1, none, false, [], [], false⟩, ⟨2, some 10, .load 3 (.tmp 9), none, false, [], [], false⟩, ⟨3, some 11, .call ⟨.value (.func 186), ⟨[.tmp 8, .tmp 10]⟩, ⟨[129, 3]⟩⟩, none, false, [], [], true⟩, ⟨4, some 12, .move (.tmp 0), none, false, [], [], false⟩, ⟨5, some 13, .fieldAddr 29 (.tmp 3) 2, none, true, [3], [], false⟩, ⟨6, some 14, .load 3 (.tmp 13), none, true, [3], [], false⟩, ⟨7, some 15, .call ⟨.value (.func 186), ⟨[.tmp 12, .tmp 14]⟩, ⟨[129, 3]⟩⟩, none, true, [], [], false⟩, ⟨8, some 4, .assign (.tmp 11), none, true, [], [], false⟩, ⟨9, some 5, .assign (.tmp 15), none, true, [], [], false⟩]
noncomputable def zn188_5 : ZC := ZC.reg [⟨some 16, .fieldAddr 29 (.tmp 3) 0, none, false⟩, ⟨some 17, .load 3 (.tmp 16), none, true⟩]
noncomputable def zn188_8 : ZC := ZC.reg [⟨some 53, .binOp .eql 3 (.tmp 17) (.const (.int .i64 2)) 3, none, false⟩, ⟨some 52, .assign (.tmp 53), none, true⟩]
noncomputable def zn188_10 : ZC := ZC.reg [⟨some 54, .move (.tmp 0), none, false⟩, ⟨some 55, .fieldAddr 29 (.tmp 3) 1, none, false⟩, ⟨some 56, .load 3 (.tmp 55), none, false⟩, ⟨some 57, .move (.tmp 5), none, false⟩, ⟨some 58, .call ⟨.value (.func 183), ⟨[.tmp 54, .tmp 56, .tmp 57]⟩, ⟨[129, 3, 3]⟩⟩, none, true⟩]
noncomputable def zn188_12 : ZC := ZC.reg [⟨some 60, .binOp .eql 3 (.tmp 17) (.const (.int .i64 3)) 3, none, false⟩, ⟨some 59, .assign (.tmp 60), none, true⟩]
noncomputable def zn188_14 : ZC := ZC.reg [⟨some 61, .move (.tmp 0), none, false⟩, ⟨some 62, .fieldAddr 29 (.tmp 3) 1, none, false⟩, ⟨some 63, .load 3 (.tmp 62), none, false⟩, ⟨some 64, .move (.tmp 4), none, false⟩, ⟨some 65, .move (.tmp 5), none, false⟩, ⟨some 66, .binOp .add 3 (.tmp 64) (.tmp 65) 3, none, false⟩, ⟨some 67, .call ⟨.value (.func 183), ⟨[.tmp 61, .tmp 63, .tmp 66]⟩, ⟨[129, 3, 3]⟩⟩, none, true⟩]
noncomputable def zn188_16 : ZC := ZC.reg [⟨some 69, .binOp .eql 3 (.tmp 17) (.const (.int .i64 4)) 3, none, false⟩, ⟨some 68, .assign (.tmp 69), none, true⟩]
noncomputable def zn188_18 : ZC := ZC.reg [⟨some 70, .move (.tmp 0), none, false⟩, ⟨some 71, .fieldAddr 29 (.tmp 3) 1, none, false⟩, ⟨some 72, .load 3 (.tmp 71), none, false⟩, ⟨some 73, .move (.tmp 4), none, false⟩, ⟨some 74, .move (.tmp 5), none, false⟩, ⟨some 75, .binOp .sub 3 (.tmp 73) (.tmp 74) 3, none, false⟩, ⟨some 76, .call ⟨.value (.func 183), ⟨[.tmp 70, .tmp 72, .tmp 75]⟩, ⟨[129, 3, 3]⟩⟩, none, true⟩]
noncomputable def zn188_20 : ZC := ZC.reg [⟨some 78, .binOp .eql 3 (.tmp 17) (.const (.int .i64 5)) 3, none, false⟩, ⟨some 77, .assign (.tmp 78), none, true⟩]
noncomputable def zn188_22 : ZC := ZC.reg [⟨some 79, .move (.tmp 0), none, false⟩, ⟨some 80, .fieldAddr 29 (.tmp 3) 1, none, false⟩, ⟨some 81, .load 3 (.tmp 80), none, false⟩, ⟨some 82, .move (.tmp 4), none, false⟩, ⟨some 83, .move (.tmp 5), none, false⟩, ⟨some 84, .binOp .mul 3 (.tmp 82) (.tmp 83) 3, none, false⟩, ⟨some 85, .call ⟨.value (.func 183), ⟨[.tmp 79, .tmp 81, .tmp 84]⟩, ⟨[129, 3, 3]⟩⟩, none, true⟩]
noncomputable def zn188_24 : ZC := ZC.reg [⟨some 87, .binOp .eql 3 (.tmp 17) (.const (.int .i64 6)) 3, none, false⟩, ⟨some 86, .assign (.tmp 87), none, true⟩]
noncomputable def zn188_27 : ZC := ZC.reg [⟨some 88, .move (.tmp 0), none, false⟩, ⟨some 89, .move (.tmp 5), none, false⟩, ⟨some 90, .binOp .neq 3 (.tmp 89) (.const (.int .i64 0)) 3, none, false⟩, ⟨some 91, .call ⟨.value (.func 150), ⟨[.tmp 88, .tmp 90, .const (.int .i64 1)]⟩, ⟨[129, 4, 3]⟩⟩, none, true⟩]
noncomputable def zn188_28 : ZC := ZC.draw 7 [] [⟨0, some 92, .move (.tmp 0), none, false, [], [], false⟩, ⟨1, some 93, .fieldAddr 29 (.tmp 3) 1, none, false, [], [], false⟩, ⟨2, some 94, .load 3 (.tmp 93), none, false, [], [], false⟩, ⟨3, some 95, .move (.tmp 4), none, false, [], [], false⟩, ⟨4, some 96, .move (.tmp 5), none, true, [], [], false⟩, ⟨5, some 97, .binOp .quo 3 (.tmp 95) (.tmp 96) 3, none, true, [], [], false⟩, ⟨6, some 98, .call ⟨.value (.func 183), ⟨[.tmp 92, .tmp 94, .tmp 97]⟩, ⟨[129, 3, 3]⟩⟩, none, true, [], [], false⟩]
noncomputable def zn188_26 : ZC := ZC.seq zn188_27 zn188_28
noncomputable def zn188_30 : ZC := ZC.reg [⟨some 100, .binOp .eql 3 (.tmp 17) (.const (.int .i64 11)) 3, none, false⟩, ⟨some 99, .assign (.tmp 100), none, true⟩]
noncomputable def zn188_33 : ZC := ZC.reg [⟨some 101, .move (.tmp 0), none, false⟩, ⟨some 102, .move (.tmp 5), none, false⟩, ⟨some 103, .binOp .geq 3 (.tmp 102) (.const (.int .i64 1)) 3, none, false⟩, ⟨some 104, .call ⟨.value (.func 150), ⟨[.tmp 101, .tmp 103, .const (.int .i64 6)]⟩, ⟨[129, 4, 3]⟩⟩, none, true⟩]
noncomputable def zn188_35 : ZC := ZC.reg [⟨some 106, .move (.tmp 0), none, false⟩, ⟨some 107, .nilCheck (.tmp 106), none, false⟩, ⟨some 108, .fieldAddr 131 (.tmp 107) 0, none, false⟩, ⟨some 109, .fieldAddr 39 (.tmp 108) 2, none, false⟩, ⟨some 110, .load 25 (.tmp 109), none, false⟩, ⟨some 111, .move (.tmp 5), none, false⟩, ⟨some 112, .call ⟨.value (.func 202), ⟨[.tmp 110, .tmp 111]⟩, ⟨[25, 3]⟩⟩, none, false⟩, ⟨some 105, .move (.tmp 112), none, false⟩, ⟨some 113, .extract (.tmp 105) 0, none, false⟩, ⟨some 114, .extract (.tmp 105) 1, none, false⟩, ⟨some 6, .assign (.tmp 113), none, false⟩, ⟨some 7, .assign (.tmp 114), none, true⟩]
noncomputable def zn188_37 : ZC := ZC.reg [⟨some 115, .move (.tmp 0), none, false⟩, ⟨some 116, .move (.tmp 6), none, false⟩, ⟨some 117, .nilCheck (.tmp 115), none, false⟩, ⟨some 118, .fieldAddr 131 (.tmp 117) 0, none, false⟩, ⟨some 119, .fieldAddr 39 (.tmp 118) 2, none, false⟩, ⟨none, .store 25 (.tmp 119) (.tmp 116), none, true⟩]
noncomputable def zn188_38 : ZC := ZC.reg [⟨some 120, .move (.tmp 0), none, false⟩, ⟨some 121, .fieldAddr 29 (.tmp 3) 1, none, false⟩, ⟨some 122, .load 3 (.tmp 121), none, false⟩, ⟨some 123, .move (.tmp 7), none, false⟩, ⟨some 124, .call ⟨.value (.func 183), ⟨[.tmp 120, .tmp 122, .tmp 123]⟩, ⟨[129, 3, 3]⟩⟩, none, true⟩]
noncomputable def zn188_36 : ZC := ZC.seq zn188_37 zn188_38
noncomputable def zn188_34 : ZC := ZC.seq zn188_35 zn188_36
noncomputable def zn188_32 : ZC := ZC.seq zn188_33 zn188_34
noncomputable def zn188_40 : ZC := ZC.draw 14 [] [⟨0, some 18, .move (.tmp 0), none, false, [], [], false⟩, ⟨1, some 19, .move (.tmp 0), none, false, [], [], false⟩, ⟨2, some 20, .nilCheck (.tmp 19), none, false, [], [], false⟩, ⟨3, some 21, .fieldAddr 131 (.tmp 20) 0, none, false, [], [], false⟩, ⟨4, some 22, .fieldAddr 39 (.tmp 21) 4, none, false, [], [], false⟩, ⟨5, some 23, .load 37 (.tmp 22), none, false, [], [], false⟩, ⟨6, some 24, .call ⟨.builtin .len, ⟨[.tmp 23]⟩, ⟨[37]⟩⟩, none, false, [], [], false⟩, ⟨7, some 25, .move (.tmp 0), none, true, [], [], false⟩, ⟨8, some 26, .nilCheck (.tmp 25), none, true, [], [], false⟩, ⟨9, some 27, .fieldAddr 131 (.tmp 26) 0, none, true, [], [], false⟩, ⟨10, some 28, .fieldAddr 39 (.tmp 27) 3, none, true, [], [], false⟩, ⟨11, some 29, .load 3 (.tmp 28), none, true, [], [], false⟩, ⟨12, some 30, .binOp .lss 3 (.tmp 24) (.tmp 29) 3, none, true, [], [], false⟩, ⟨13, some 31, .call ⟨.value (.func 150), ⟨[.tmp 18, .tmp 30, .const (.int .i64 7)]⟩, ⟨[129, 4, 3]⟩⟩, none, true, [], [], false⟩]
noncomputable def zn188_41 : ZC := ZC.draw 21 [] [⟨0, some 32, .move (.tmp 0), none, false, [], [], false⟩, ⟨1, some 33, .move (.tmp 0), none, false, [], [], false⟩, ⟨2, some 34, .nilCheck (.tmp 33), none, false, [], [], false⟩, ⟨3, some 35, .fieldAddr 131 (.tmp 34) 0, none, false, [], [], false⟩, ⟨4, some 36, .fieldAddr 39 (.tmp 35) 4, none, false, [], [], false⟩, ⟨5, some 37, .load 37 (.tmp 36), none, false, [], [], false⟩, ⟨6, some 38, .call ⟨.value (.func 148), ⟨[.tmp 37]⟩, ⟨[37]⟩⟩, none, false, [], [], true⟩, ⟨7, some 39, .move (.tmp 0), none, false, [], [], false⟩, ⟨8, some 40, .nilCheck (.tmp 39), none, false, [], [], false⟩, ⟨9, some 41, .fieldAddr 131 (.tmp 40) 0, none, false, [6], [], false⟩, ⟨10, some 42, .fieldAddr 39 (.tmp 41) 0, none, false, [6], [], false⟩, ⟨11, some 43, .load 34 (.tmp 42), none, false, [6], [], false⟩, ⟨12, some 44, .move (.tmp 4), none, false, [], [], false⟩, ⟨13, some 45, .move (.tmp 5), none, true, [], [], false⟩, ⟨14, some 46, .call ⟨.value (.func 203), ⟨[.tmp 43, .tmp 44, .tmp 45]⟩, ⟨[34, 3, 3]⟩⟩, none, true, [], [], false⟩, ⟨15, some 47, .buildSlice 37 1 ⟨[(0, .tmp 46)]⟩, none, true, [], [], false⟩, ⟨16, some 48, .call ⟨.builtin .append, ⟨[.tmp 38, .tmp 47]⟩, ⟨[37, 37]⟩⟩, none, true, [], [], false⟩, ⟨17, some 49, .nilCheck (.tmp 32), none, true, [], [], false⟩, ⟨18, some 50, .fieldAddr 131 (.tmp 49) 0, none, true, [], [], false⟩, ⟨19, some 51, .fieldAddr 39 (.tmp 50) 4, none, true, [], [], false⟩, ⟨20, none, .store 37 (.tmp 51) (.tmp 48), none, true, [], [], false⟩]
noncomputable def zn188_39 : ZC := ZC.seq zn188_40 zn188_41
noncomputable def zn188_31 : ZC := ZC.cond (.tmp 99) zn188_32 zn188_39
noncomputable def zn188_29 : ZC := ZC.seq zn188_30 zn188_31
noncomputable def zn188_25 : ZC := ZC.cond (.tmp 86) zn188_26 zn188_29
noncomputable def zn188_23 : ZC := ZC.seq zn188_24 zn188_25
noncomputable def zn188_21 : ZC := ZC.cond (.tmp 77) zn188_22 zn188_23
noncomputable def zn188_19 : ZC := ZC.seq zn188_20 zn188_21
noncomputable def zn188_17 : ZC := ZC.cond (.tmp 68) zn188_18 zn188_19
noncomputable def zn188_15 : ZC := ZC.seq zn188_16 zn188_17
noncomputable def zn188_13 : ZC := ZC.cond (.tmp 59) zn188_14 zn188_15
noncomputable def zn188_11 : ZC := ZC.seq zn188_12 zn188_13
noncomputable def zn188_9 : ZC := ZC.cond (.tmp 52) zn188_10 zn188_11
noncomputable def zn188_7 : ZC := ZC.seq zn188_8 zn188_9
noncomputable def zn188_6 : ZC := ZC.block 0 zn188_7
noncomputable def zn188_4 : ZC := ZC.seq zn188_5 zn188_6
noncomputable def zn188_2 : ZC := ZC.seq zn188_3 zn188_4
noncomputable def zn188_0 : ZC := ZC.seq zn188_1 zn188_2
noncomputable def zc188 : ZC := zn188_0
theorem zc188_ok : zcode (xfOf Try.f188).code = some zc188 := by kernel_rfl
set_option linter.defProp false in
def zw188 := And.intro (zunf C zc188.eq_1) <| And.intro (zunf C zn188_1.eq_1) <| And.intro (zunf C zn188_3.eq_1) <| And.intro (zunf C zn188_5.eq_1) <| And.intro (zunf C zn188_8.eq_1) <| And.intro (zunf C zn188_10.eq_1) <| And.intro (zunf C zn188_12.eq_1) <| And.intro (zunf C zn188_14.eq_1) <| And.intro (zunf C zn188_16.eq_1) <| And.intro (zunf C zn188_18.eq_1) <| And.intro (zunf C zn188_20.eq_1) <| And.intro (zunf C zn188_22.eq_1) <| And.intro (zunf C zn188_24.eq_1) <| And.intro (zunf C zn188_27.eq_1) <| And.intro (zunf C zn188_28.eq_1) <| And.intro (zunf C zn188_26.eq_1) <| And.intro (zunf C zn188_30.eq_1) <| And.intro (zunf C zn188_33.eq_1) <| And.intro (zunf C zn188_35.eq_1) <| And.intro (zunf C zn188_37.eq_1) <| And.intro (zunf C zn188_38.eq_1) <| And.intro (zunf C zn188_36.eq_1) <| And.intro (zunf C zn188_34.eq_1) <| And.intro (zunf C zn188_32.eq_1) <| And.intro (zunf C zn188_40.eq_1) <| And.intro (zunf C zn188_41.eq_1) <| And.intro (zunf C zn188_39.eq_1) <| And.intro (zunf C zn188_31.eq_1) <| And.intro (zunf C zn188_29.eq_1) <| And.intro (zunf C zn188_25.eq_1) <| And.intro (zunf C zn188_23.eq_1) <| And.intro (zunf C zn188_21.eq_1) <| And.intro (zunf C zn188_19.eq_1) <| And.intro (zunf C zn188_17.eq_1) <| And.intro (zunf C zn188_15.eq_1) <| And.intro (zunf C zn188_13.eq_1) <| And.intro (zunf C zn188_11.eq_1) <| And.intro (zunf C zn188_9.eq_1) <| And.intro (zunf C zn188_7.eq_1) <| And.intro (zunf C zn188_6.eq_1) <| And.intro (zunf C zn188_4.eq_1) <| And.intro (zunf C zn188_2.eq_1) <| (zunf C zn188_0.eq_1)
theorem rs188 : (xfOf Try.f188).rs = [] := by kernel_rfl
theorem xf188 : XFok C 188 (xfOf Try.f188) := ⟨Try.f188, by kernel_rfl, by kernel_rfl, by kernel_rfl, by kernel_rfl, by kernel_rfl, by kernel_rfl, by kernel_rfl⟩
noncomputable def zn202_1 : ZC := ZC.reg [⟨some 4, .assign (.const (.int .u64 0)), none, false⟩, ⟨some 5, .assign (.const (.int .i64 0)), none, true⟩]
noncomputable def zn202_4 : ZC := ZC.reg [⟨some 7, .move (.tmp 1), none, false⟩, ⟨some 8, .binOp .lss 3 (.tmp 7) (.const (.int .i64 1)) 3, none, true⟩]
noncomputable def zn202_7 : ZC := ZC.reg [⟨some 9, .move (.tmp 0), none, false⟩, ⟨some 4, .assign (.tmp 9), none, false⟩, ⟨some 5, .assign (.const (.int .i64 0)), none, true⟩]
noncomputable def zn202_6 : ZC := ZC.seq zn202_7 ZC.ret
noncomputable def zn202_5 : ZC := ZC.cond (.tmp 8) zn202_6 ZC.skip
noncomputable def zn202_3 : ZC := ZC.seq zn202_4 zn202_5
noncomputable def zn202_9 : ZC := ZC.reg [⟨some 11, .move (.tmp 0), none, false⟩, ⟨some 12, .call ⟨.value (.func 207), ⟨[.tmp 11]⟩, ⟨[25]⟩⟩, none, false⟩, ⟨some 10, .move (.tmp 12), none, false⟩, ⟨some 13, .extract (.tmp 10) 0, none, false⟩, ⟨some 14, .extract (.tmp 10) 1, none, false⟩, ⟨some 0, .assign (.tmp 13), none, false⟩, ⟨some 6, .assign (.tmp 14), none, true⟩]
noncomputable def zn202_11 : ZC := ZC.draw 6 [] [⟨0, some 15, .move (.tmp 0), none, false, [], [], false⟩, ⟨1, some 16, .move (.tmp 6), none, false, [], [], false⟩, ⟨2, some 17, .move (.tmp 1), none, false, [], [], false⟩, ⟨3, some 18, .binOp .rem 3 (.tmp 16) (.tmp 17) 3, none, false, [], [], false⟩, ⟨4, some 4, .assign (.tmp 15), none, true, [], [], false⟩, ⟨5, some 5, .assign (.tmp 18), none, true, [], [], false⟩]
noncomputable def zn202_10 : ZC := ZC.seq zn202_11 ZC.ret
noncomputable def zn202_8 : ZC := ZC.seq zn202_9 zn202_10
noncomputable def zn202_2 : ZC := ZC.seq zn202_3 zn202_8
noncomputable def zn202_0 : ZC := ZC.seq zn202_1 zn202_2
noncomputable def zc202 : ZC := zn202_0
theorem zc202_ok : zcode (xfOf Try.f202).code = some zc202 := by kernel_rfl
set_option linter.defProp false in
def zw202 := And.intro (zunf C zc202.eq_1) <| And.intro (zunf C zn202_1.eq_1) <| And.intro (zunf C zn202_4.eq_1) <| And.intro (zunf C zn202_7.eq_1) <| And.intro (zunf C zn202_6.eq_1) <| And.intro (zunf C zn202_5.eq_1) <| And.intro (zunf C zn202_3.eq_1) <| And.intro (zunf C zn202_9.eq_1) <| And.intro (zunf C zn202_11.eq_1) <| And.intro (zunf C zn202_10.eq_1) <| And.intro (zunf C zn202_8.eq_1) <| And.intro (zunf C zn202_2.eq_1) <| (zunf C zn202_0.eq_1)
theorem rs202 : (xfOf Try.f202).rs = [.tmp 4, .tmp 5] := by kernel_rfl
theorem xf202 : XFok C 202 (xfOf Try.f202) := ⟨Try.f202, by kernel_rfl, by kernel_rfl, by kernel_rfl, by kernel_rfl, by kernel_rfl, by kernel_rfl, by kernel_rfl⟩
noncomputable def zn207_1 : ZC := ZC.reg [⟨some 2, .assign (.const (.int .u64 0)), none, false⟩, ⟨some 3, .assign (.const (.int .i64 0)), none, true⟩]
noncomputable def zn207_3 : ZC := ZC.reg [⟨some 4, .move (.tmp 0), none, false⟩, ⟨some 5, .binOp .mul 25 (.tmp 4) (.const (.int .u64 6364136223846793005)) 25, none, false⟩, ⟨some 6, .binOp .add 25 (.tmp 5) (.const (.int .u64 1442695040888963407)) 25, none, false⟩, ⟨some 0, .assign (.tmp 6), none, true⟩]
noncomputable def zn207_5 : ZC := ZC.reg [⟨some 7, .move (.tmp 0), none, false⟩, ⟨some 8, .move (.tmp 0), none, false⟩, ⟨some 9, .binOp .shr 25 (.tmp 8) (.const (.int .u64 33)) 178, none, false⟩, ⟨some 10, .convert 25 3 (.tmp 9), none, false⟩, ⟨some 2, .assign (.tmp 7), none, false⟩, ⟨some 3, .assign (.tmp 10), none, true⟩]
noncomputable def zn207_4 : ZC := ZC.seq zn207_5 ZC.ret
noncomputable def zn207_2 : ZC := ZC.seq zn207_3 zn207_4
noncomputable def zn207_0 : ZC := ZC.seq zn207_1 zn207_2
noncomputable def zc207 : ZC := zn207_0
theorem zc207_ok : zcode (xfOf Try.f207).code = some zc207 := by kernel_rfl
set_option linter.defProp false in
def zw207 := And.intro (zunf C zc207.eq_1) <| And.intro (zunf C zn207_1.eq_1) <| And.intro (zunf C zn207_3.eq_1) <| And.intro (zunf C zn207_5.eq_1) <| And.intro (zunf C zn207_4.eq_1) <| And.intro (zunf C zn207_2.eq_1) <| (zunf C zn207_0.eq_1)
theorem rs207 : (xfOf Try.f207).rs = [.tmp 2, .tmp 3] := by kernel_rfl
theorem xf207 : XFok C 207 (xfOf Try.f207) := ⟨Try.f207, by kernel_rfl, by kernel_rfl, by kernel_rfl, by kernel_rfl, by kernel_rfl, by kernel_rfl, by kernel_rfl⟩
noncomputable def zn203_1 : ZC := ZC.reg [⟨some 3, .box 34 (.tmp 0), none, false⟩, ⟨some 6, .alloc 34, none, true⟩]
noncomputable def zn203_4 : ZC := ZC.reg [⟨some 7, .load 34 (.tmp 3), none, false⟩, ⟨some 8, .call ⟨.value (.func 24), ⟨[.tmp 7]⟩, ⟨[34]⟩⟩, none, false⟩, ⟨some 9, .unOp .not 4 (.tmp 8), none, false⟩, ⟨some 10, .move (.tmp 9), none, false⟩, ⟨some 11, .fieldAddr 34 (.tmp 3) 0, some (10, false), false⟩, ⟨some 12, .load 3 (.tmp 11), some (10, false), false⟩, ⟨some 13, .binOp .eql 3 (.tmp 12) (.const (.int .i64 0)) 3, some (10, false), false⟩, ⟨some 14, .pick (.tmp 10) (.const (.bool true)) (.tmp 13), none, true⟩]
noncomputable def zn203_7 : ZC := ZC.reg [⟨some 15, .build 34 ⟨[]⟩, none, false⟩, ⟨none, .store 34 (.tmp 6) (.tmp 15), none, true⟩]
noncomputable def zn203_6 : ZC := ZC.seq zn203_7 ZC.ret
noncomputable def zn203_5 : ZC := ZC.cond (.tmp 14) zn203_6 ZC.skip
noncomputable def zn203_3 : ZC := ZC.seq zn203_4 zn203_5
noncomputable def zn203_9 : ZC := ZC.draw 12 [] [⟨0, some 16, .fieldAddr 34 (.tmp 3) 1, none, false, [], [7, 9], false⟩, ⟨1, some 17, .load 3 (.tmp 16), none, false, [], [7, 9], false⟩, ⟨2, some 18, .fieldAddr 34 (.tmp 3) 2, none, false, [], [7, 9], false⟩, ⟨3, some 19, .load 3 (.tmp 18), none, false, [], [7, 9], false⟩, ⟨4, some 20, .fieldAddr 34 (.tmp 3) 3, none, false, [], [7, 9], false⟩, ⟨5, some 21, .load 3 (.tmp 20), none, false, [], [7, 9], false⟩, ⟨6, some 22, .move (.tmp 1), none, false, [], [], false⟩, ⟨7, some 23, .call ⟨.value (.func 140), ⟨[.tmp 22, .const (.int .i64 (-64)), .const (.int .i64 64)]⟩, ⟨[3, 3, 3]⟩⟩, none, false, [], [], false⟩, ⟨8, some 24, .move (.tmp 2), none, true, [], [], false⟩, ⟨9, some 25, .call ⟨.value (.func 140), ⟨[.tmp 24, .const (.int .i64 (-64)), .const (.int .i64 64)]⟩, ⟨[3, 3, 3]⟩⟩, none, true, [], [], false⟩, ⟨10, some 26, .build 34 ⟨[(0, .const (.int .i64 2)), (1, .tmp 17), (2, .tmp 19), (3, .tmp 21), (4, .tmp 23), (5, .tmp 25)]⟩, none, true, [], [], false⟩, ⟨11, none, .store 34 (.tmp 6) (.tmp 26), none, true, [], [], false⟩]
noncomputable def zn203_8 : ZC := ZC.seq zn203_9 ZC.ret
noncomputable def zn203_2 : ZC := ZC.seq zn203_3 zn203_8
noncomputable def zn203_0 : ZC := ZC.seq zn203_1 zn203_2
noncomputable def zc203 : ZC := zn203_0
theorem zc203_ok : zcode (xfOf Try.f203).code = some zc203 := by kernel_rfl
set_option linter.defProp false in
def zw203 := And.intro (zunf C zc203.eq_1) <| And.intro (zunf C zn203_1.eq_1) <| And.intro (zunf C zn203_4.eq_1) <| And.intro (zunf C zn203_7.eq_1) <| And.intro (zunf C zn203_6.eq_1) <| And.intro (zunf C zn203_5.eq_1) <| And.intro (zunf C zn203_3.eq_1) <| And.intro (zunf C zn203_9.eq_1) <| And.intro (zunf C zn203_8.eq_1) <| And.intro (zunf C zn203_2.eq_1) <| (zunf C zn203_0.eq_1)
theorem rs203 : (xfOf Try.f203).rs = [.cell 6 34] := by kernel_rfl
theorem xf203 : XFok C 203 (xfOf Try.f203) := ⟨Try.f203, by kernel_rfl, by kernel_rfl, by kernel_rfl, by kernel_rfl, by kernel_rfl, by kernel_rfl, by kernel_rfl⟩
noncomputable def zn25_1 : ZC := ZC.reg [⟨some 3, .box 39 (.tmp 1), none, false⟩, ⟨some 4, .alloc 39, none, false⟩, ⟨some 5, .alloc 44, none, false⟩, ⟨some 6, .assign (.const (.bool false)), none, true⟩]
noncomputable def zn25_4 : ZC := ZC.reg [⟨some 10, .fieldAddr 39 (.tmp 3) 0, none, false⟩, ⟨some 11, .load 34 (.tmp 10), none, false⟩, ⟨some 12, .call ⟨.value (.func 24), ⟨[.tmp 11]⟩, ⟨[34]⟩⟩, none, false⟩, ⟨some 13, .unOp .not 4 (.tmp 12), none, false⟩, ⟨some 14, .move (.tmp 13), none, false⟩, ⟨some 15, .fieldAddr 39 (.tmp 3) 0, some (14, false), false⟩, ⟨some 16, .fieldAddr 34 (.tmp 15) 0, some (14, false), false⟩, ⟨some 17, .load 3 (.tmp 16), some (14, false), false⟩, ⟨some 18, .binOp .eql 3 (.tmp 17) (.const (.int .i64 0)) 3, some (14, false), false⟩, ⟨some 19, .pick (.tmp 14) (.const (.bool true)) (.tmp 18), none, true⟩]
noncomputable def zn25_7 : ZC := ZC.reg [⟨some 20, .load 39 (.tmp 3), none, false⟩, ⟨some 21, .call ⟨.value (.func 72), ⟨[.tmp 20]⟩, ⟨[39]⟩⟩, none, false⟩, ⟨some 22, .build 44 ⟨[]⟩, none, false⟩, ⟨none, .store 39 (.tmp 4) (.tmp 21), none, false⟩, ⟨none, .store 44 (.tmp 5) (.tmp 22), none, false⟩, ⟨some 6, .assign (.const (.bool false)), none, true⟩]
noncomputable def zn25_6 : ZC := ZC.seq zn25_7 ZC.ret
noncomputable def zn25_5 : ZC := ZC.cond (.tmp 19) zn25_6 ZC.skip
noncomputable def zn25_3 : ZC := ZC.seq zn25_4 zn25_5
noncomputable def zn25_9 : ZC := ZC.reg [⟨some 23, .load 39 (.tmp 3), none, false⟩, ⟨some 24, .call ⟨.value (.func 72), ⟨[.tmp 23]⟩, ⟨[39]⟩⟩, none, false⟩, ⟨some 25, .move (.tmp 0), none, false⟩, ⟨some 26, .build 131 ⟨[(0, .tmp 24), (1, .tmp 25)]⟩, none, false⟩, ⟨some 27, .box 131 (.tmp 26), none, false⟩, ⟨some 7, .assign (.tmp 27), none, true⟩]
noncomputable def zn25_12 : ZC := ZC.reg [⟨some 29, .move (.tmp 7), none, false⟩, ⟨some 30, .makeFunc (.func 74) ⟨[.tmp 29]⟩ ⟨[]⟩, none, false⟩, ⟨some 31, .call ⟨.value (.func 73), ⟨[.tmp 30]⟩, ⟨[1]⟩⟩, none, false⟩, ⟨some 28, .move (.tmp 31), none, false⟩, ⟨some 32, .extract (.tmp 28) 0, none, false⟩, ⟨some 33, .extract (.tmp 28) 1, none, false⟩, ⟨some 8, .alloc 44, none, false⟩, ⟨none, .store 44 (.tmp 8) (.tmp 32), none, false⟩, ⟨some 9, .assign (.tmp 33), none, true⟩]
noncomputable def zn25_14 : ZC := ZC.reg [⟨some 34, .move (.tmp 9), none, true⟩]
noncomputable def zn25_17 : ZC := ZC.draw 6 [] [⟨0, some 35, .load 39 (.tmp 3), none, false, [], [], false⟩, ⟨1, some 36, .call ⟨.value (.func 72), ⟨[.tmp 35]⟩, ⟨[39]⟩⟩, none, false, [], [], true⟩, ⟨2, some 37, .load 44 (.tmp 8), none, false, [1], [3], false⟩, ⟨3, none, .store 39 (.tmp 4) (.tmp 36), none, true, [], [], false⟩, ⟨4, none, .store 44 (.tmp 5) (.tmp 37), none, true, [], [], false⟩, ⟨5, some 6, .assign (.const (.bool false)), none, true, [], [], false⟩]
noncomputable def zn25_16 : ZC := ZC.seq zn25_17 ZC.ret
noncomputable def zn25_15 : ZC := ZC.cond (.tmp 34) zn25_16 ZC.skip
noncomputable def zn25_13 : ZC := ZC.seq zn25_14 zn25_15
noncomputable def zn25_11 : ZC := ZC.seq zn25_12 zn25_13
noncomputable def zn25_19 : ZC := ZC.reg [⟨some 38, .move (.tmp 7), none, false⟩, ⟨some 39, .nilCheck (.tmp 38), none, false⟩, ⟨some 40, .fieldAddr 131 (.tmp 39) 0, none, false⟩, ⟨some 41, .load 39 (.tmp 40), none, false⟩, ⟨some 42, .build 44 ⟨[]⟩, none, false⟩, ⟨none, .store 39 (.tmp 4) (.tmp 41), none, false⟩, ⟨none, .store 44 (.tmp 5) (.tmp 42), none, false⟩, ⟨some 6, .assign (.const (.bool true)), none, true⟩]
noncomputable def zn25_18 : ZC := ZC.seq zn25_19 ZC.ret
noncomputable def zn25_10 : ZC := ZC.seq zn25_11 zn25_18
noncomputable def zn25_8 : ZC := ZC.seq zn25_9 zn25_10
noncomputable def zn25_2 : ZC := ZC.seq zn25_3 zn25_8
noncomputable def zn25_0 : ZC := ZC.seq zn25_1 zn25_2
noncomputable def zc25 : ZC := zn25_0
theorem zc25_ok : zcode (xfOf Try.f25).code = some zc25 := by kernel_rfl
set_option linter.defProp false in
def zw25 := And.intro (zunf C zc25.eq_1) <| And.intro (zunf C zn25_1.eq_1) <| And.intro (zunf C zn25_4.eq_1) <| And.intro (zunf C zn25_7.eq_1) <| And.intro (zunf C zn25_6.eq_1) <| And.intro (zunf C zn25_5.eq_1) <| And.intro (zunf C zn25_3.eq_1) <| And.intro (zunf C zn25_9.eq_1) <| And.intro (zunf C zn25_12.eq_1) <| And.intro (zunf C zn25_14.eq_1) <| And.intro (zunf C zn25_17.eq_1) <| And.intro (zunf C zn25_16.eq_1) <| And.intro (zunf C zn25_15.eq_1) <| And.intro (zunf C zn25_13.eq_1) <| And.intro (zunf C zn25_11.eq_1) <| And.intro (zunf C zn25_19.eq_1) <| And.intro (zunf C zn25_18.eq_1) <| And.intro (zunf C zn25_10.eq_1) <| And.intro (zunf C zn25_8.eq_1) <| And.intro (zunf C zn25_2.eq_1) <| (zunf C zn25_0.eq_1)
theorem rs25 : (xfOf Try.f25).rs = [.cell 4 39, .cell 5 44, .tmp 6] := by kernel_rfl
theorem xf25 : XFok C 25 (xfOf Try.f25) := ⟨Try.f25, by kernel_rfl, by kernel_rfl, by kernel_rfl, by kernel_rfl, by kernel_rfl, by kernel_rfl, by kernel_rfl⟩
noncomputable def zn72_1 : ZC := ZC.reg [⟨some 1, .box 39 (.tmp 0), none, false⟩, ⟨some 2, .alloc 39, none, true⟩]
noncomputable def zn72_3 : ZC := ZC.reg [⟨some 3, .fieldAddr 39 (.tmp 1) 4, none, false⟩, ⟨some 4, .load 37 (.tmp 3), none, false⟩, ⟨some 5, .call ⟨.value (.func 148), ⟨[.tmp 4]⟩, ⟨[37]⟩⟩, none, false⟩, ⟨some 6, .fieldAddr 39 (.tmp 1) 4, none, false⟩, ⟨none, .store 37 (.tmp 6) (.tmp 5), none, true⟩]
noncomputable def zn72_5 : ZC := ZC.reg [⟨some 7, .load 39 (.tmp 1), none, false⟩, ⟨none, .store 39 (.tmp 2) (.tmp 7), none, true⟩]
noncomputable def zn72_4 : ZC := ZC.seq zn72_5 ZC.ret
noncomputable def zn72_2 : ZC := ZC.seq zn72_3 zn72_4
noncomputable def zn72_0 : ZC := ZC.seq zn72_1 zn72_2
noncomputable def zc72 : ZC := zn72_0
theorem zc72_ok : zcode (xfOf Try.f72).code = some zc72 := by kernel_rfl
set_option linter.defProp false in
def zw72 := And.intro (zunf C zc72.eq_1) <| And.intro (zunf C zn72_1.eq_1) <| And.intro (zunf C zn72_3.eq_1) <| And.intro (zunf C zn72_5.eq_1) <| And.intro (zunf C zn72_4.eq_1) <| And.intro (zunf C zn72_2.eq_1) <| (zunf C zn72_0.eq_1)
theorem rs72 : (xfOf Try.f72).rs = [.cell 2 39] := by kernel_rfl
theorem xf72 : XFok C 72 (xfOf Try.f72) := ⟨Try.f72, by kernel_rfl, by kernel_rfl, by kernel_rfl, by kernel_rfl, by kernel_rfl, by kernel_rfl, by kernel_rfl⟩
noncomputable def zn74_1 : ZC := ZC.reg [⟨some 2, .assign (.const (.int .i64 0)), none, true⟩]
noncomputable def zn74_6 : ZC := ZC.draw 10 [] [⟨0, some 3, .move (.tmp 0), none, false, [], [], false⟩, ⟨1, some 4, .nilCheck (.tmp 3), none, false, [], [], false⟩, ⟨2, some 5, .fieldAddr 131 (.tmp 4) 2, none, false, [], [], false⟩, ⟨3, some 6, .load 3 (.tmp 5), none, false, [], [], false⟩, ⟨4, some 7, .move (.tmp 0), none, true, [], [], false⟩, ⟨5, some 8, .nilCheck (.tmp 7), none, true, [], [], false⟩, ⟨6, some 9, .fieldAddr 131 (.tmp 8) 1, none, true, [], [], false⟩, ⟨7, some 10, .load 23 (.tmp 9), none, true, [], [], false⟩, ⟨8, some 11, .call ⟨.builtin .len, ⟨[.tmp 10]⟩, ⟨[23]⟩⟩, none, true, [], [], false⟩, ⟨9, some 12, .binOp .lss 3 (.tmp 6) (.tmp 11) 3, none, true, [], [], false⟩]
noncomputable def zn74_7 : ZC := ZC.cond (.tmp 12) ZC.skip (ZC.exit 0)
noncomputable def zn74_5 : ZC := ZC.seq zn74_6 zn74_7
noncomputable def zn74_11 : ZC := ZC.reg [⟨some 15, .move (.tmp 0), none, false⟩, ⟨some 16, .move (.tmp 2), none, false⟩, ⟨some 17, .binOp .lss 3 (.tmp 16) (.const (.int .i64 64)) 3, none, false⟩, ⟨some 18, .call ⟨.value (.func 150), ⟨[.tmp 15, .tmp 17, .const (.int .i64 5)]⟩, ⟨[129, 4, 3]⟩⟩, none, true⟩]
noncomputable def zn74_12 : ZC := ZC.draw 16 [] [⟨0, some 19, .move (.tmp 0), none, false, [], [], false⟩, ⟨1, some 20, .move (.tmp 0), none, false, [], [], false⟩, ⟨2, some 21, .move (.tmp 0), none, false, [], [], false⟩, ⟨3, some 22, .nilCheck (.tmp 21), none, false, [], [], false⟩, ⟨4, some 23, .fieldAddr 131 (.tmp 22) 1, none, false, [], [], false⟩, ⟨5, some 24, .load 23 (.tmp 23), none, false, [], [], false⟩, ⟨6, some 25, .move (.tmp 0), none, true, [], [], false⟩, ⟨7, some 26, .nilCheck (.tmp 25), none, true, [], [], false⟩, ⟨8, some 27, .fieldAddr 131 (.tmp 26) 2, none, true, [], [], false⟩, ⟨9, some 28, .load 3 (.tmp 27), none, true, [], [], false⟩, ⟨10, some 29, .indexAddr 23 (.tmp 24) (.tmp 28), none, true, [], [], false⟩, ⟨11, some 30, .load 29 (.tmp 29), none, true, [], [], false⟩, ⟨12, some 31, .call ⟨.value (.func 151), ⟨[.tmp 20, .tmp 30]⟩, ⟨[129, 29]⟩⟩, none, true, [], [], false⟩, ⟨13, some 32, .nilCheck (.tmp 19), none, true, [], [], false⟩, ⟨14, some 33, .fieldAddr 131 (.tmp 32) 2, none, true, [], [], false⟩, ⟨15, none, .store 3 (.tmp 33) (.tmp 31), none, true, [], [], false⟩]
noncomputable def zn74_10 : ZC := ZC.seq zn74_11 zn74_12
noncomputable def zn74_9 : ZC := ZC.block 1 zn74_10
noncomputable def zn74_13 : ZC := ZC.reg [⟨some 13, .move (.tmp 2), none, false⟩, ⟨some 14, .binOp .add 3 (.tmp 13) (.const (.int .i64 1)) 3, none, false⟩, ⟨some 2, .assign (.tmp 14), none, true⟩]
noncomputable def zn74_8 : ZC := ZC.seq zn74_9 zn74_13
noncomputable def zn74_4 : ZC := ZC.seq zn74_5 zn74_8
noncomputable def zn74_3 : ZC := ZC.loop zn74_4
noncomputable def zn74_2 : ZC := ZC.block 0 zn74_3
noncomputable def zn74_0 : ZC := ZC.seq zn74_1 zn74_2
noncomputable def zc74 : ZC := zn74_0
theorem zc74_ok : zcode (xfOf Try.f74).code = some zc74 := by kernel_rfl
set_option linter.defProp false in
def zw74 := And.intro (zunf C zc74.eq_1) <| And.intro (zunf C zn74_1.eq_1) <| And.intro (zunf C zn74_6.eq_1) <| And.intro (zunf C zn74_7.eq_1) <| And.intro (zunf C zn74_5.eq_1) <| And.intro (zunf C zn74_11.eq_1) <| And.intro (zunf C zn74_12.eq_1) <| And.intro (zunf C zn74_10.eq_1) <| And.intro (zunf C zn74_9.eq_1) <| And.intro (zunf C zn74_13.eq_1) <| And.intro (zunf C zn74_8.eq_1) <| And.intro (zunf C zn74_4.eq_1) <| And.intro (zunf C zn74_2.eq_1) <| (zunf C zn74_0.eq_1)
theorem rs74 : (xfOf Try.f74).rs = [] := by kernel_rfl
theorem xf74 : XFok C 74 (xfOf Try.f74) := ⟨Try.f74, by kernel_rfl, by kernel_rfl, by kernel_rfl, by kernel_rfl, by kernel_rfl, by kernel_rfl, by kernel_rfl⟩
noncomputable def zn151_1 : ZC := ZC.reg [⟨some 3, .box 29 (.tmp 1), none, false⟩, ⟨some 4, .assign (.const (.int .i64 0)), none, true⟩]
noncomputable def zn151_3 : ZC := ZC.reg [⟨some 5, .move (.tmp 0), none, false⟩, ⟨some 6, .fieldAddr 29 (.tmp 3) 0, none, false⟩, ⟨some 7, .load 3 (.tmp 6), none, false⟩, ⟨some 8, .call ⟨.value (.func 84), ⟨[.tmp 7, .const (.int .i64 1), .const (.int .i64 13)]⟩, ⟨[3, 3, 3]⟩⟩, none, false⟩, ⟨some 9, .call ⟨.value (.func 150), ⟨[.tmp 5, .tmp 8, .const (.int .i64 4)]⟩, ⟨[129, 4, 3]⟩⟩, none, true⟩]
noncomputable def zn151_5 : ZC := ZC.reg [⟨some 10, .move (.tmp 0), none, false⟩, ⟨some 11, .load 29 (.tmp 3), none, false⟩, ⟨some 12, .call ⟨.value (.func 182), ⟨[.tmp 10, .tmp 11]⟩, ⟨[129, 29]⟩⟩, none, true⟩]
noncomputable def zn151_8 : ZC := ZC.reg [⟨some 13, .fieldAddr 29 (.tmp 3) 0, none, false⟩, ⟨some 14, .load 3 (.tmp 13), none, true⟩]
noncomputable def zn151_11 : ZC := ZC.reg [⟨some 19, .binOp .eql 3 (.tmp 14) (.const (.int .i64 1)) 3, none, false⟩, ⟨some 18, .assign (.tmp 19), none, true⟩]
noncomputable def zn151_13 : ZC := ZC.reg [⟨some 20, .move (.tmp 0), none, false⟩, ⟨some 21, .fieldAddr 29 (.tmp 3) 1, none, false⟩, ⟨some 22, .load 3 (.tmp 21), none, false⟩, ⟨some 23, .fieldAddr 29 (.tmp 3) 2, none, false⟩, ⟨some 24, .load 3 (.tmp 23), none, false⟩, ⟨some 25, .call ⟨.value (.func 183), ⟨[.tmp 20, .tmp 22, .tmp 24]⟩, ⟨[129, 3, 3]⟩⟩, none, true⟩]
noncomputable def zn151_15 : ZC := ZC.reg [⟨some 27, .binOp .eql 3 (.tmp 14) (.const (.int .i64 7)) 3, none, false⟩, ⟨some 26, .assign (.tmp 27), none, true⟩]
noncomputable def zn151_17 : ZC := ZC.draw 8 [] [⟨0, some 28, .move (.tmp 0), none, false, [], [], false⟩, ⟨1, some 29, .fieldAddr 29 (.tmp 3) 1, none, false, [], [6], false⟩, ⟨2, some 30, .load 3 (.tmp 29), none, false, [], [6], false⟩, ⟨3, some 31, .move (.tmp 0), none, false, [], [], false⟩, ⟨4, some 32, .fieldAddr 29 (.tmp 3) 2, none, true, [], [], false⟩, ⟨5, some 33, .load 3 (.tmp 32), none, true, [], [], false⟩, ⟨6, some 34, .call ⟨.value (.func 184), ⟨[.tmp 31, .tmp 33]⟩, ⟨[129, 3]⟩⟩, none, true, [], [], false⟩, ⟨7, some 35, .call ⟨.value (.func 183), ⟨[.tmp 28, .tmp 30, .tmp 34]⟩, ⟨[129, 3, 3]⟩⟩, none, true, [], [], false⟩]
noncomputable def zn151_19 : ZC := ZC.reg [⟨some 37, .binOp .eql 3 (.tmp 14) (.const (.int .i64 8)) 3, none, false⟩, ⟨some 36, .assign (.tmp 37), none, true⟩]
noncomputable def zn151_21 : ZC := ZC.draw 8 [] [⟨0, some 38, .move (.tmp 0), none, false, [], [], false⟩, ⟨1, some 39, .fieldAddr 29 (.tmp 3) 1, none, false, [], [6], false⟩, ⟨2, some 40, .load 3 (.tmp 39), none, false, [], [6], false⟩, ⟨3, some 41, .move (.tmp 0), none, false, [], [], false⟩, ⟨4, some 42, .fieldAddr 29 (.tmp 3) 2, none, true, [], [], false⟩, ⟨5, some 43, .load 3 (.tmp 42), none, true, [], [], false⟩, ⟨6, some 44, .call ⟨.value (.func 186), ⟨[.tmp 41, .tmp 43]⟩, ⟨[129, 3]⟩⟩, none, true, [], [], false⟩, ⟨7, some 45, .call ⟨.value (.func 185), ⟨[.tmp 38, .tmp 40, .tmp 44]⟩, ⟨[129, 3, 3]⟩⟩, none, true, [], [], false⟩]
noncomputable def zn151_23 : ZC := ZC.reg [⟨some 47, .binOp .eql 3 (.tmp 14) (.const (.int .i64 9)) 3, none, false⟩, ⟨some 46, .assign (.tmp 47), none, true⟩]
noncomputable def zn151_26 : ZC := ZC.reg [⟨some 48, .move (.tmp 0), none, false⟩, ⟨some 49, .fieldAddr 29 (.tmp 3) 1, none, false⟩, ⟨some 50, .load 3 (.tmp 49), none, false⟩, ⟨some 51, .call ⟨.value (.func 186), ⟨[.tmp 48, .tmp 50]⟩, ⟨[129, 3]⟩⟩, none, false⟩, ⟨some 52, .binOp .eql 3 (.tmp 51) (.const (.int .i64 0)) 3, none, true⟩]
noncomputable def zn151_29 : ZC := ZC.reg [⟨some 53, .move (.tmp 0), none, false⟩, ⟨some 54, .fieldAddr 29 (.tmp 3) 2, none, false⟩, ⟨some 55, .load 3 (.tmp 54), none, false⟩, ⟨some 56, .call ⟨.value (.func 187), ⟨[.tmp 53, .tmp 55]⟩, ⟨[129, 3]⟩⟩, none, false⟩, ⟨some 4, .assign (.tmp 56), none, true⟩]
noncomputable def zn151_28 : ZC := ZC.seq zn151_29 ZC.ret
noncomputable def zn151_27 : ZC := ZC.cond (.tmp 52) zn151_28 ZC.skip
noncomputable def zn151_25 : ZC := ZC.seq zn151_26 zn151_27
noncomputable def zn151_31 : ZC := ZC.reg [⟨some 58, .binOp .eql 3 (.tmp 14) (.const (.int .i64 10)) 3, none, false⟩, ⟨some 57, .assign (.tmp 58), none, true⟩]
noncomputable def zn151_34 : ZC := ZC.reg [⟨some 59, .move (.tmp 0), none, false⟩, ⟨some 60, .fieldAddr 29 (.tmp 3) 2, none, false⟩, ⟨some 61, .load 3 (.tmp 60), none, false⟩, ⟨some 62, .call ⟨.value (.func 187), ⟨[.tmp 59, .tmp 61]⟩, ⟨[129, 3]⟩⟩, none, false⟩, ⟨some 4, .assign (.tmp 62), none, true⟩]
noncomputable def zn151_33 : ZC := ZC.seq zn151_34 ZC.ret
noncomputable def zn151_36 : ZC := ZC.reg [⟨some 64, .binOp .eql 3 (.tmp 14) (.const (.int .i64 13)) 3, none, false⟩, ⟨some 63, .assign (.tmp 64), none, true⟩]
noncomputable def zn151_39 : ZC := ZC.reg [⟨some 65, .move (.tmp 0), none, false⟩, ⟨some 66, .nilCheck (.tmp 65), none, false⟩, ⟨some 67, .fieldAddr 131 (.tmp 66) 1, none, false⟩, ⟨some 68, .load 23 (.tmp 67), none, false⟩, ⟨some 69, .call ⟨.builtin .len, ⟨[.tmp 68]⟩, ⟨[23]⟩⟩, none, false⟩, ⟨some 4, .assign (.tmp 69), none, true⟩]
noncomputable def zn151_38 : ZC := ZC.seq zn151_39 ZC.ret
noncomputable def zn151_40 : ZC := ZC.reg [⟨some 15, .move (.tmp 0), none, false⟩, ⟨some 16, .load 29 (.tmp 3), none, false⟩, ⟨some 17, .call ⟨.value (.func 188), ⟨[.tmp 15, .tmp 16]⟩, ⟨[129, 29]⟩⟩, none, true⟩]
noncomputable def zn151_37 : ZC := ZC.cond (.tmp 63) zn151_38 zn151_40
noncomputable def zn151_35 : ZC := ZC.seq zn151_36 zn151_37
noncomputable def zn151_32 : ZC := ZC.cond (.tmp 57) zn151_33 zn151_35
noncomputable def zn151_30 : ZC := ZC.seq zn151_31 zn151_32
noncomputable def zn151_24 : ZC := ZC.cond (.tmp 46) zn151_25 zn151_30
noncomputable def zn151_22 : ZC := ZC.seq zn151_23 zn151_24
noncomputable def zn151_20 : ZC := ZC.cond (.tmp 36) zn151_21 zn151_22
noncomputable def zn151_18 : ZC := ZC.seq zn151_19 zn151_20
noncomputable def zn151_16 : ZC := ZC.cond (.tmp 26) zn151_17 zn151_18
noncomputable def zn151_14 : ZC := ZC.seq zn151_15 zn151_16
noncomputable def zn151_12 : ZC := ZC.cond (.tmp 18) zn151_13 zn151_14
noncomputable def zn151_10 : ZC := ZC.seq zn151_11 zn151_12
noncomputable def zn151_9 : ZC := ZC.block 0 zn151_10
noncomputable def zn151_7 : ZC := ZC.seq zn151_8 zn151_9
noncomputable def zn151_42 : ZC := ZC.reg [⟨some 70, .move (.tmp 0), none, false⟩, ⟨some 71, .nilCheck (.tmp 70), none, false⟩, ⟨some 72, .fieldAddr 131 (.tmp 71) 2, none, false⟩, ⟨some 73, .load 3 (.tmp 72), none, false⟩, ⟨some 74, .binOp .add 3 (.tmp 73) (.const (.int .i64 1)) 3, none, false⟩, ⟨some 4, .assign (.tmp 74), none, true⟩]
noncomputable def zn151_41 : ZC := ZC.seq zn151_42 ZC.ret
noncomputable def zn151_6 : ZC := ZC.seq zn151_7 zn151_41
noncomputable def zn151_4 : ZC := ZC.seq zn151_5 zn151_6
noncomputable def zn151_2 : ZC := ZC.seq zn151_3 zn151_4
noncomputable def zn151_0 : ZC := ZC.seq zn151_1 zn151_2
noncomputable def zc151 : ZC := zn151_0
theorem zc151_ok : zcode (xfOf Try.f151).code = some zc151 := by kernel_rfl
set_option linter.defProp false in
def zw151 := And.intro (zunf C zc151.eq_1) <| And.intro (zunf C zn151_1.eq_1) <| And.intro (zunf C zn151_3.eq_1) <| And.intro (zunf C zn151_5.eq_1) <| And.intro (zunf C zn151_8.eq_1) <| And.intro (zunf C zn151_11.eq_1) <| And.intro (zunf C zn151_13.eq_1) <| And.intro (zunf C zn151_15.eq_1) <| And.intro (zunf C zn151_17.eq_1) <| And.intro (zunf C zn151_19.eq_1) <| And.intro (zunf C zn151_21.eq_1) <| And.intro (zunf C zn151_23.eq_1) <| And.intro (zunf C zn151_26.eq_1) <| And.intro (zunf C zn151_29.eq_1) <| And.intro (zunf C zn151_28.eq_1) <| And.intro (zunf C zn151_27.eq_1) <| And.intro (zunf C zn151_25.eq_1) <| And.intro (zunf C zn151_31.eq_1) <| And.intro (zunf C zn151_34.eq_1) <| And.intro (zunf C zn151_33.eq_1) <| And.intro (zunf C zn151_36.eq_1) <| And.intro (zunf C zn151_39.eq_1) <| And.intro (zunf C zn151_38.eq_1) <| And.intro (zunf C zn151_40.eq_1) <| And.intro (zunf C zn151_37.eq_1) <| And.intro (zunf C zn151_35.eq_1) <| And.intro (zunf C zn151_32.eq_1) <| And.intro (zunf C zn151_30.eq_1) <| And.intro (zunf C zn151_24.eq_1) <| And.intro (zunf C zn151_22.eq_1) <| And.intro (zunf C zn151_20.eq_1) <| And.intro (zunf C zn151_18.eq_1) <| And.intro (zunf C zn151_16.eq_1) <| And.intro (zunf C zn151_14.eq_1) <| And.intro (zunf C zn151_12.eq_1) <| And.intro (zunf C zn151_10.eq_1) <| And.intro (zunf C zn151_9.eq_1) <| And.intro (zunf C zn151_7.eq_1) <| And.intro (zunf C zn151_42.eq_1) <| And.intro (zunf C zn151_41.eq_1) <| And.intro (zunf C zn151_6.eq_1) <| And.intro (zunf C zn151_4.eq_1) <| And.intro (zunf C zn151_2.eq_1) <| (zunf C zn151_0.eq_1)
theorem rs151 : (xfOf Try.f151).rs = [.tmp 4] := by kernel_rfl
theorem xf151 : XFok C 151 (xfOf Try.f151) := ⟨Try.f151, by kernel_rfl, by kernel_rfl, by kernel_rfl, by kernel_rfl, by kernel_rfl, by kernel_rfl, by kernel_rfl⟩
noncomputable def zn148_1 : ZC := ZC.reg [⟨some 2, .assign (.const (.slice none 0 0)), none, true⟩]
noncomputable def zn148_4 : ZC := ZC.reg [⟨some 3, .move (.tmp 0), none, false⟩, ⟨some 4, .binOp .eql 37 (.tmp 3) (.const (.slice none 0 0)) 37, none, true⟩]
noncomputable def zn148_7 : ZC := ZC.reg [⟨some 2, .assign (.const (.slice none 0 0)), none, true⟩]
noncomputable def zn148_6 : ZC := ZC.seq zn148_7 ZC.ret
noncomputable def zn148_5 : ZC := ZC.cond (.tmp 4) zn148_6 ZC.skip
noncomputable def zn148_3 : ZC := ZC.seq zn148_4 zn148_5
noncomputable def zn148_9 : ZC := ZC.reg [⟨some 5, .buildSlice 37 0 ⟨[]⟩, none, false⟩, ⟨some 6, .move (.tmp 0), none, false⟩, ⟨some 7, .call ⟨.builtin .append, ⟨[.tmp 5, .tmp 6]⟩, ⟨[37, 37]⟩⟩, none, false⟩, ⟨some 2, .assign (.tmp 7), none, true⟩]
noncomputable def zn148_8 : ZC := ZC.seq zn148_9 ZC.ret
noncomputable def zn148_2 : ZC := ZC.seq zn148_3 zn148_8
noncomputable def zn148_0 : ZC := ZC.seq zn148_1 zn148_2
noncomputable def zc148 : ZC := zn148_0
theorem zc148_ok : zcode (xfOf Try.f148).code = some zc148 := by kernel_rfl
set_option linter.defProp false in
def zw148 := And.intro (zunf C zc148.eq_1) <| And.intro (zunf C zn148_1.eq_1) <| And.intro (zunf C zn148_4.eq_1) <| And.intro (zunf C zn148_7.eq_1) <| And.intro (zunf C zn148_6.eq_1) <| And.intro (zunf C zn148_5.eq_1) <| And.intro (zunf C zn148_3.eq_1) <| And.intro (zunf C zn148_9.eq_1) <| And.intro (zunf C zn148_8.eq_1) <| And.intro (zunf C zn148_2.eq_1) <| (zunf C zn148_0.eq_1)
theorem rs148 : (xfOf Try.f148).rs = [.tmp 2] := by kernel_rfl
theorem xf148 : XFok C 148 (xfOf Try.f148) := ⟨Try.f148, by kernel_rfl, by kernel_rfl, by kernel_rfl, by kernel_rfl, by kernel_rfl, by kernel_rfl, by kernel_rfl⟩
noncomputable def zn28_1 : ZC := ZC.reg [⟨some 3, .box 51 (.tmp 1), none, false⟩, ⟨some 4, .alloc 51, none, false⟩, ⟨some 5, .assign (.const (.int .i64 0)), none, false⟩, ⟨some 6, .assign (.const (.int .i64 0)), none, false⟩, ⟨some 7, .assign (.const (.bool false)), none, true⟩]
noncomputable def zn28_3 : ZC := ZC.reg [⟨some 20, .load 51 (.tmp 3), none, false⟩, ⟨some 8, .alloc 51, none, false⟩, ⟨none, .store 51 (.tmp 8) (.tmp 20), none, true⟩]
noncomputable def zn28_5 : ZC := ZC.reg [⟨some 9, .assign (.const (.int .i64 0)), none, true⟩]
noncomputable def zn28_8 : ZC := ZC.reg [⟨some 21, .fieldAddr 51 (.tmp 3) 0, none, false⟩, ⟨some 22, .load 34 (.tmp 21), none, false⟩, ⟨some 23, .call ⟨.value (.func 75), ⟨[.tmp 22]⟩, ⟨[34]⟩⟩, none, false⟩, ⟨some 24, .unOp .not 4 (.tmp 23), none, false⟩, ⟨some 25, .move (.tmp 24), none, false⟩, ⟨some 26, .fieldAddr 51 (.tmp 3) 0, some (25, false), false⟩, ⟨some 27, .fieldAddr 34 (.tmp 26) 0, some (25, false), false⟩, ⟨some 28, .load 3 (.tmp 27), some (25, false), false⟩, ⟨some 29, .binOp .eql 3 (.tmp 28) (.const (.int .i64 0)) 3, some (25, false), false⟩, ⟨some 30, .pick (.tmp 25) (.const (.bool true)) (.tmp 29), none, true⟩]
noncomputable def zn28_11 : ZC := ZC.reg [⟨some 31, .load 51 (.tmp 8), none, false⟩, ⟨none, .store 51 (.tmp 4) (.tmp 31), none, false⟩, ⟨some 5, .assign (.const (.int .i64 0)), none, false⟩, ⟨some 6, .assign (.const (.int .i64 0)), none, false⟩, ⟨some 7, .assign (.const (.bool false)), none, true⟩]
noncomputable def zn28_10 : ZC := ZC.seq zn28_11 ZC.ret
noncomputable def zn28_9 : ZC := ZC.cond (.tmp 30) zn28_10 ZC.skip
noncomputable def zn28_7 : ZC := ZC.seq zn28_8 zn28_9
noncomputable def zn28_14 : ZC := ZC.reg [⟨some 10, .assign (.const (.int .i64 0)), none, true⟩]
noncomputable def zn28_19 : ZC := ZC.reg [⟨some 32, .move (.tmp 9), none, false⟩, ⟨some 33, .move (.tmp 0), none, false⟩, ⟨some 34, .call ⟨.builtin .len, ⟨[.tmp 33]⟩, ⟨[23]⟩⟩, none, false⟩, ⟨some 35, .binOp .lss 3 (.tmp 32) (.tmp 34) 3, none, true⟩]
noncomputable def zn28_20 : ZC := ZC.cond (.tmp 35) ZC.skip (ZC.exit 0)
noncomputable def zn28_18 : ZC := ZC.seq zn28_19 zn28_20
noncomputable def zn28_24 : ZC := ZC.reg [⟨some 38, .move (.tmp 0), none, false⟩, ⟨some 39, .move (.tmp 9), none, false⟩, ⟨some 40, .indexAddr 23 (.tmp 38) (.tmp 39), none, false⟩, ⟨some 41, .load 29 (.tmp 40), none, false⟩, ⟨some 11, .alloc 29, none, false⟩, ⟨none, .store 29 (.tmp 11) (.tmp 41), none, true⟩]
noncomputable def zn28_27 : ZC := ZC.reg [⟨some 42, .move (.tmp 10), none, false⟩, ⟨some 43, .binOp .geq 3 (.tmp 42) (.const (.int .i64 64)) 3, none, true⟩]
noncomputable def zn28_30 : ZC := ZC.reg [⟨some 44, .load 51 (.tmp 8), none, false⟩, ⟨some 45, .move (.tmp 9), none, false⟩, ⟨none, .store 51 (.tmp 4) (.tmp 44), none, false⟩, ⟨some 5, .assign (.const (.int .i64 5)), none, false⟩, ⟨some 6, .assign (.tmp 45), none, false⟩, ⟨some 7, .assign (.const (.bool false)), none, true⟩]
noncomputable def zn28_29 : ZC := ZC.seq zn28_30 ZC.ret
noncomputable def zn28_28 : ZC := ZC.cond (.tmp 43) zn28_29 ZC.skip
noncomputable def zn28_26 : ZC := ZC.seq zn28_27 zn28_28
noncomputable def zn28_33 : ZC := ZC.reg [⟨some 46, .load 29 (.tmp 11), none, false⟩, ⟨some 47, .load 51 (.tmp 3), none, false⟩, ⟨some 48, .move (.tmp 0), none, false⟩, ⟨some 49, .call ⟨.builtin .len, ⟨[.tmp 48]⟩, ⟨[23]⟩⟩, none, false⟩, ⟨some 50, .call ⟨.value (.func 76), ⟨[.tmp 46, .tmp 47, .tmp 49]⟩, ⟨[29, 51, 3]⟩⟩, none, false⟩, ⟨some 12, .assign (.tmp 50), none, true⟩]
noncomputable def zn28_35 : ZC := ZC.reg [⟨some 51, .move (.tmp 12), none, false⟩, ⟨some 52, .binOp .neq 3 (.tmp 51) (.const (.int .i64 0)) 3, none, true⟩]
noncomputable def zn28_38 : ZC := ZC.reg [⟨some 53, .load 51 (.tmp 8), none, false⟩, ⟨some 54, .move (.tmp 12), none, false⟩, ⟨some 55, .move (.tmp 9), none, false⟩, ⟨none, .store 51 (.tmp 4) (.tmp 53), none, false⟩, ⟨some 5, .assign (.tmp 54), none, false⟩, ⟨some 6, .assign (.tmp 55), none, false⟩, ⟨some 7, .assign (.const (.bool false)), none, true⟩]
noncomputable def zn28_37 : ZC := ZC.seq zn28_38 ZC.ret
noncomputable def zn28_36 : ZC := ZC.cond (.tmp 52) zn28_37 ZC.skip
noncomputable def zn28_34 : ZC := ZC.seq zn28_35 zn28_36
noncomputable def zn28_32 : ZC := ZC.seq zn28_33 zn28_34
noncomputable def zn28_40 : ZC := ZC.reg [⟨some 56, .fieldAddr 51 (.tmp 3) 0, none, false⟩, ⟨some 57, .fieldAddr 34 (.tmp 56) 7, none, false⟩, ⟨some 58, .load 32 (.tmp 57), none, false⟩, ⟨some 13, .alloc 32, none, false⟩, ⟨none, .store 32 (.tmp 13) (.tmp 58), none, true⟩]
noncomputable def zn28_42 : ZC := ZC.reg [⟨some 59, .move (.tmp 9), none, false⟩, ⟨some 60, .binOp .add 3 (.tmp 59) (.const (.int .i64 1)) 3, none, false⟩, ⟨some 14, .assign (.tmp 60), none, true⟩]
noncomputable def zn28_44 : ZC := ZC.reg [⟨some 15, .assign (.const (.int .i64 0)), none, true⟩]
noncomputable def zn28_46 : ZC := ZC.reg [⟨some 16, .assign (.const (.bool true)), none, true⟩]
noncomputable def zn28_49 : ZC := ZC.reg [⟨some 61, .fieldAddr 29 (.tmp 11) 0, none, false⟩, ⟨some 62, .load 3 (.tmp 61), none, true⟩]
noncomputable def zn28_52 : ZC := ZC.reg [⟨some 64, .binOp .eql 3 (.tmp 62) (.const (.int .i64 1)) 3, none, false⟩, ⟨some 63, .assign (.tmp 64), none, true⟩]
noncomputable def zn28_54 : ZC := ZC.reg [⟨some 65, .fieldAddr 29 (.tmp 11) 2, none, false⟩, ⟨some 66, .load 3 (.tmp 65), none, false⟩, ⟨some 15, .assign (.tmp 66), none, true⟩]
noncomputable def zn28_56 : ZC := ZC.reg [⟨some 68, .binOp .eql 3 (.tmp 62) (.const (.int .i64 2)) 3, none, false⟩, ⟨some 67, .assign (.tmp 68), none, true⟩]
noncomputable def zn28_58 : ZC := ZC.reg [⟨some 69, .fieldAddr 29 (.tmp 11) 2, none, false⟩, ⟨some 70, .load 3 (.tmp 69), none, false⟩, ⟨some 71, .indexAddr 32 (.tmp 13) (.tmp 70), none, false⟩, ⟨some 72, .load 3 (.tmp 71), none, false⟩, ⟨some 15, .assign (.tmp 72), none, true⟩]
noncomputable def zn28_60 : ZC := ZC.reg [⟨some 74, .binOp .eql 3 (.tmp 62) (.const (.int .i64 3)) 3, none, false⟩, ⟨some 73, .assign (.tmp 74), none, true⟩]
noncomputable def zn28_62 : ZC := ZC.draw 10 [] [⟨0, some 75, .fieldAddr 29 (.tmp 11) 1, none, false, [], [], false⟩, ⟨1, some 76, .load 3 (.tmp 75), none, false, [], [], false⟩, ⟨2, some 77, .indexAddr 32 (.tmp 13) (.tmp 76), none, false, [], [], false⟩, ⟨3, some 78, .load 3 (.tmp 77), none, false, [], [], false⟩, ⟨4, some 79, .fieldAddr 29 (.tmp 11) 2, none, true, [], [], false⟩, ⟨5, some 80, .load 3 (.tmp 79), none, true, [], [], false⟩, ⟨6, some 81, .indexAddr 32 (.tmp 13) (.tmp 80), none, true, [], [], false⟩, ⟨7, some 82, .load 3 (.tmp 81), none, true, [], [], false⟩, ⟨8, some 83, .binOp .add 3 (.tmp 78) (.tmp 82) 3, none, true, [], [], false⟩, ⟨9, some 15, .assign (.tmp 83), none, true, [], [], false⟩]
noncomputable def zn28_64 : ZC := ZC.reg [⟨some 85, .binOp .eql 3 (.tmp 62) (.const (.int .i64 4)) 3, none, false⟩, ⟨some 84, .assign (.tmp 85), none, true⟩]
noncomputable def zn28_66 : ZC := ZC.draw 10 [] [⟨0, some 86, .fieldAddr 29 (.tmp 11) 1, none, false, [], [], false⟩, ⟨1, some 87, .load 3 (.tmp 86), none, false, [], [], false⟩, ⟨2, some 88, .indexAddr 32 (.tmp 13) (.tmp 87), none, false, [], [], false⟩, ⟨3, some 89, .load 3 (.tmp 88), none, false, [], [], false⟩, ⟨4, some 90, .fieldAddr 29 (.tmp 11) 2, none, true, [], [], false⟩, ⟨5, some 91, .load 3 (.tmp 90), none, true, [], [], false⟩, ⟨6, some 92, .indexAddr 32 (.tmp 13) (.tmp 91), none, true, [], [], false⟩, ⟨7, some 93, .load 3 (.tmp 92), none, true, [], [], false⟩, ⟨8, some 94, .binOp .sub 3 (.tmp 89) (.tmp 93) 3, none, true, [], [], false⟩, ⟨9, some 15, .assign (.tmp 94), none, true, [], [], false⟩]
noncomputable def zn28_68 : ZC := ZC.reg [⟨some 96, .binOp .eql 3 (.tmp 62) (.const (.int .i64 5)) 3, none, false⟩, ⟨some 95, .assign (.tmp 96), none, true⟩]
noncomputable def zn28_70 : ZC := ZC.draw 10 [] [⟨0, some 97, .fieldAddr 29 (.tmp 11) 1, none, false, [], [], false⟩, ⟨1, some 98, .load 3 (.tmp 97), none, false, [], [], false⟩, ⟨2, some 99, .indexAddr 32 (.tmp 13) (.tmp 98), none, false, [], [], false⟩, ⟨3, some 100, .load 3 (.tmp 99), none, false, [], [], false⟩, ⟨4, some 101, .fieldAddr 29 (.tmp 11) 2, none, true, [], [], false⟩, ⟨5, some 102, .load 3 (.tmp 101), none, true, [], [], false⟩, ⟨6, some 103, .indexAddr 32 (.tmp 13) (.tmp 102), none, true, [], [], false⟩, ⟨7, some 104, .load 3 (.tmp 103), none, true, [], [], false⟩, ⟨8, some 105, .binOp .mul 3 (.tmp 100) (.tmp 104) 3, none, true, [], [], false⟩, ⟨9, some 15, .assign (.tmp 105), none, true, [], [], false⟩]
noncomputable def zn28_72 : ZC := ZC.reg [⟨some 107, .binOp .eql 3 (.tmp 62) (.const (.int .i64 6)) 3, none, false⟩, ⟨some 106, .assign (.tmp 107), none, true⟩]
noncomputable def zn28_74 : ZC := ZC.draw 10 [] [⟨0, some 108, .fieldAddr 29 (.tmp 11) 1, none, false, [], [], false⟩, ⟨1, some 109, .load 3 (.tmp 108), none, false, [], [], false⟩, ⟨2, some 110, .indexAddr 32 (.tmp 13) (.tmp 109), none, false, [], [], false⟩, ⟨3, some 111, .load 3 (.tmp 110), none, false, [], [], false⟩, ⟨4, some 112, .fieldAddr 29 (.tmp 11) 2, none, true, [], [], false⟩, ⟨5, some 113, .load 3 (.tmp 112), none, true, [], [], false⟩, ⟨6, some 114, .indexAddr 32 (.tmp 13) (.tmp 113), none, true, [], [], false⟩, ⟨7, some 115, .load 3 (.tmp 114), none, true, [], [], false⟩, ⟨8, some 116, .binOp .quo 3 (.tmp 111) (.tmp 115) 3, none, true, [], [], false⟩, ⟨9, some 15, .assign (.tmp 116), none, true, [], [], false⟩]
noncomputable def zn28_76 : ZC := ZC.reg [⟨some 118, .binOp .eql 3 (.tmp 62) (.const (.int .i64 7)) 3, none, false⟩, ⟨some 117, .assign (.tmp 118), none, true⟩]
noncomputable def zn28_78 : ZC := ZC.reg [⟨some 119, .load 51 (.tmp 3), none, false⟩, ⟨some 120, .fieldAddr 29 (.tmp 11) 2, none, false⟩, ⟨some 121, .load 3 (.tmp 120), none, false⟩, ⟨some 122, .call ⟨.value (.func 77), ⟨[.tmp 119, .tmp 121]⟩, ⟨[51, 3]⟩⟩, none, false⟩, ⟨some 15, .assign (.tmp 122), none, true⟩]
noncomputable def zn28_80 : ZC := ZC.reg [⟨some 124, .binOp .eql 3 (.tmp 62) (.const (.int .i64 11)) 3, none, false⟩, ⟨some 123, .assign (.tmp 124), none, true⟩]
noncomputable def zn28_83 : ZC := ZC.draw 11 [] [⟨0, some 126, .fieldAddr 51 (.tmp 3) 2, none, false, [], [4], false⟩, ⟨1, some 127, .load 25 (.tmp 126), none, false, [], [4], false⟩, ⟨2, some 128, .load 29 (.tmp 11), none, false, [], [], false⟩, ⟨3, some 129, .load 51 (.tmp 3), none, true, [], [], false⟩, ⟨4, some 130, .call ⟨.value (.func 79), ⟨[.tmp 128, .tmp 129]⟩, ⟨[29, 51]⟩⟩, none, true, [], [], false⟩, ⟨5, some 131, .call ⟨.value (.func 78), ⟨[.tmp 127, .tmp 130]⟩, ⟨[25, 3]⟩⟩, none, true, [], [], false⟩, ⟨6, some 125, .move (.tmp 131), none, true, [], [], false⟩, ⟨7, some 132, .extract (.tmp 125) 0, none, false, [], [], false⟩, ⟨8, some 133, .extract (.tmp 125) 1, none, false, [], [], false⟩, ⟨9, some 17, .assign (.tmp 132), none, true, [], [], false⟩, ⟨10, some 18, .assign (.tmp 133), none, true, [], [], false⟩]
noncomputable def zn28_85 : ZC := ZC.reg [⟨some 134, .move (.tmp 17), none, false⟩, ⟨some 135, .fieldAddr 51 (.tmp 3) 2, none, false⟩, ⟨none, .store 25 (.tmp 135) (.tmp 134), none, true⟩]
noncomputable def zn28_86 : ZC := ZC.reg [⟨some 136, .move (.tmp 18), none, false⟩, ⟨some 15, .assign (.tmp 136), none, true⟩]
noncomputable def zn28_84 : ZC := ZC.seq zn28_85 zn28_86
noncomputable def zn28_82 : ZC := ZC.seq zn28_83 zn28_84
noncomputable def zn28_87 : ZC := ZC.reg [⟨some 16, .assign (.const (.bool false)), none, true⟩]
noncomputable def zn28_81 : ZC := ZC.cond (.tmp 123) zn28_82 zn28_87
noncomputable def zn28_79 : ZC := ZC.seq zn28_80 zn28_81
noncomputable def zn28_77 : ZC := ZC.cond (.tmp 117) zn28_78 zn28_79
noncomputable def zn28_75 : ZC := ZC.seq zn28_76 zn28_77
noncomputable def zn28_73 : ZC := ZC.cond (.tmp 106) zn28_74 zn28_75
noncomputable def zn28_71 : ZC := ZC.seq zn28_72 zn28_73
noncomputable def zn28_69 : ZC := ZC.cond (.tmp 95) zn28_70 zn28_71
noncomputable def zn28_67 : ZC := ZC.seq zn28_68 zn28_69
noncomputable def zn28_65 : ZC := ZC.cond (.tmp 84) zn28_66 zn28_67
noncomputable def zn28_63 : ZC := ZC.seq zn28_64 zn28_65
noncomputable def zn28_61 : ZC := ZC.cond (.tmp 73) zn28_62 zn28_63
noncomputable def zn28_59 : ZC := ZC.seq zn28_60 zn28_61
noncomputable def zn28_57 : ZC := ZC.cond (.tmp 67) zn28_58 zn28_59
noncomputable def zn28_55 : ZC := ZC.seq zn28_56 zn28_57
noncomputable def zn28_53 : ZC := ZC.cond (.tmp 63) zn28_54 zn28_55
noncomputable def zn28_51 : ZC := ZC.seq zn28_52 zn28_53
noncomputable def zn28_50 : ZC := ZC.block 2 zn28_51
noncomputable def zn28_48 : ZC := ZC.seq zn28_49 zn28_50
noncomputable def zn28_90 : ZC := ZC.reg [⟨some 137, .move (.tmp 16), none, true⟩]
noncomputable def zn28_92 : ZC := ZC.draw 8 [] [⟨0, some 138, .fieldAddr 29 (.tmp 11) 1, none, false, [], [3], false⟩, ⟨1, some 139, .load 3 (.tmp 138), none, false, [], [3], false⟩, ⟨2, some 140, .move (.tmp 15), none, false, [], [], false⟩, ⟨3, some 141, .call ⟨.value (.func 80), ⟨[.tmp 140, .const (.int .i64 (-1000000)), .const (.int .i64 1000000)]⟩, ⟨[3, 3, 3]⟩⟩, none, false, [], [], true⟩, ⟨4, some 142, .fieldAddr 51 (.tmp 3) 0, none, true, [3], [], false⟩, ⟨5, some 143, .fieldAddr 34 (.tmp 142) 7, none, true, [3], [], false⟩, ⟨6, some 144, .indexAddr 32 (.tmp 143) (.tmp 139), none, true, [], [], false⟩, ⟨7, none, .store 3 (.tmp 144) (.tmp 141), none, true, [], [], false⟩]
noncomputable def zn28_91 : ZC := ZC.cond (.tmp 137) zn28_92 ZC.skip
noncomputable def zn28_89 : ZC := ZC.seq zn28_90 zn28_91
noncomputable def zn28_95 : ZC := ZC.reg [⟨some 145, .fieldAddr 29 (.tmp 11) 0, none, false⟩, ⟨some 146, .load 3 (.tmp 145), none, true⟩]
noncomputable def zn28_98 : ZC := ZC.reg [⟨some 148, .binOp .eql 3 (.tmp 146) (.const (.int .i64 8)) 3, none, false⟩, ⟨some 147, .assign (.tmp 148), none, true⟩]
noncomputable def zn28_101 : ZC := ZC.reg [⟨some 149, .fieldAddr 29 (.tmp 11) 2, none, false⟩, ⟨some 150, .load 3 (.tmp 149), none, false⟩, ⟨some 151, .indexAddr 32 (.tmp 13) (.tmp 150), none, false⟩, ⟨some 152, .load 3 (.tmp 151), none, false⟩, ⟨some 19, .assign (.tmp 152), none, true⟩]
noncomputable def zn28_103 : ZC := ZC.reg [⟨some 153, .fieldAddr 29 (.tmp 11) 1, none, false⟩, ⟨some 154, .load 3 (.tmp 153), none, true⟩]
noncomputable def zn28_106 : ZC := ZC.reg [⟨some 156, .binOp .eql 3 (.tmp 154) (.const (.int .i64 0)) 3, none, false⟩, ⟨some 155, .assign (.tmp 156), none, true⟩]
noncomputable def zn28_108 : ZC := ZC.reg [⟨some 157, .move (.tmp 19), none, false⟩, ⟨some 158, .call ⟨.value (.func 80), ⟨[.tmp 157, .const (.int .i64 0), .const (.int .i64 4095)]⟩, ⟨[3, 3, 3]⟩⟩, none, false⟩, ⟨some 159, .fieldAddr 51 (.tmp 3) 0, none, false⟩, ⟨some 160, .fieldAddr 34 (.tmp 159) 2, none, false⟩, ⟨none, .store 3 (.tmp 160) (.tmp 158), none, true⟩]
noncomputable def zn28_110 : ZC := ZC.reg [⟨some 162, .binOp .eql 3 (.tmp 154) (.const (.int .i64 1)) 3, none, false⟩, ⟨some 161, .assign (.tmp 162), none, true⟩]
noncomputable def zn28_112 : ZC := ZC.reg [⟨some 163, .move (.tmp 19), none, false⟩, ⟨some 164, .call ⟨.value (.func 80), ⟨[.tmp 163, .const (.int .i64 0), .const (.int .i64 4095)]⟩, ⟨[3, 3, 3]⟩⟩, none, false⟩, ⟨some 165, .fieldAddr 51 (.tmp 3) 0, none, false⟩, ⟨some 166, .fieldAddr 34 (.tmp 165) 3, none, false⟩, ⟨none, .store 3 (.tmp 166) (.tmp 164), none, true⟩]
noncomputable def zn28_114 : ZC := ZC.reg [⟨some 168, .binOp .eql 3 (.tmp 154) (.const (.int .i64 2)) 3, none, false⟩, ⟨some 167, .assign (.tmp 168), none, true⟩]
noncomputable def zn28_116 : ZC := ZC.reg [⟨some 169, .move (.tmp 19), none, false⟩, ⟨some 170, .call ⟨.value (.func 80), ⟨[.tmp 169, .const (.int .i64 (-64)), .const (.int .i64 64)]⟩, ⟨[3, 3, 3]⟩⟩, none, false⟩, ⟨some 171, .fieldAddr 51 (.tmp 3) 0, none, false⟩, ⟨some 172, .fieldAddr 34 (.tmp 171) 4, none, false⟩, ⟨none, .store 3 (.tmp 172) (.tmp 170), none, true⟩]
noncomputable def zn28_118 : ZC := ZC.reg [⟨some 174, .binOp .eql 3 (.tmp 154) (.const (.int .i64 3)) 3, none, false⟩, ⟨some 173, .assign (.tmp 174), none, true⟩]
noncomputable def zn28_120 : ZC := ZC.reg [⟨some 175, .move (.tmp 19), none, false⟩, ⟨some 176, .call ⟨.value (.func 80), ⟨[.tmp 175, .const (.int .i64 (-64)), .const (.int .i64 64)]⟩, ⟨[3, 3, 3]⟩⟩, none, false⟩, ⟨some 177, .fieldAddr 51 (.tmp 3) 0, none, false⟩, ⟨some 178, .fieldAddr 34 (.tmp 177) 5, none, false⟩, ⟨none, .store 3 (.tmp 178) (.tmp 176), none, true⟩]
noncomputable def zn28_119 : ZC := ZC.cond (.tmp 173) zn28_120 ZC.skip
noncomputable def zn28_117 : ZC := ZC.seq zn28_118 zn28_119
noncomputable def zn28_115 : ZC := ZC.cond (.tmp 167) zn28_116 zn28_117
noncomputable def zn28_113 : ZC := ZC.seq zn28_114 zn28_115
noncomputable def zn28_111 : ZC := ZC.cond (.tmp 161) zn28_112 zn28_113
noncomputable def zn28_109 : ZC := ZC.seq zn28_110 zn28_111
noncomputable def zn28_107 : ZC := ZC.cond (.tmp 155) zn28_108 zn28_109
noncomputable def zn28_105 : ZC := ZC.seq zn28_106 zn28_107
noncomputable def zn28_104 : ZC := ZC.block 4 zn28_105
noncomputable def zn28_102 : ZC := ZC.seq zn28_103 zn28_104
noncomputable def zn28_100 : ZC := ZC.seq zn28_101 zn28_102
noncomputable def zn28_122 : ZC := ZC.reg [⟨some 180, .binOp .eql 3 (.tmp 146) (.const (.int .i64 9)) 3, none, false⟩, ⟨some 179, .assign (.tmp 180), none, true⟩]
noncomputable def zn28_125 : ZC := ZC.reg [⟨some 181, .fieldAddr 29 (.tmp 11) 1, none, false⟩, ⟨some 182, .load 3 (.tmp 181), none, false⟩, ⟨some 183, .indexAddr 32 (.tmp 13) (.tmp 182), none, false⟩, ⟨some 184, .load 3 (.tmp 183), none, false⟩, ⟨some 185, .binOp .eql 3 (.tmp 184) (.const (.int .i64 0)) 3, none, true⟩]
noncomputable def zn28_127 : ZC := ZC.reg [⟨some 186, .fieldAddr 29 (.tmp 11) 2, none, false⟩, ⟨some 187, .load 3 (.tmp 186), none, false⟩, ⟨some 14, .assign (.tmp 187), none, true⟩]
noncomputable def zn28_126 : ZC := ZC.cond (.tmp 185) zn28_127 ZC.skip
noncomputable def zn28_124 : ZC := ZC.seq zn28_125 zn28_126
noncomputable def zn28_129 : ZC := ZC.reg [⟨some 189, .binOp .eql 3 (.tmp 146) (.const (.int .i64 10)) 3, none, false⟩, ⟨some 188, .assign (.tmp 189), none, true⟩]
noncomputable def zn28_131 : ZC := ZC.reg [⟨some 190, .fieldAddr 29 (.tmp 11) 2, none, false⟩, ⟨some 191, .load 3 (.tmp 190), none, false⟩, ⟨some 14, .assign (.tmp 191), none, true⟩]
noncomputable def zn28_133 : ZC := ZC.reg [⟨some 193, .binOp .eql 3 (.tmp 146) (.const (.int .i64 12)) 3, none, false⟩, ⟨some 192, .assign (.tmp 193), none, true⟩]
noncomputable def zn28_135 : ZC := ZC.draw 19 [] [⟨0, some 194, .buildSlice 37 0 ⟨[]⟩, none, false, [], [], false⟩, ⟨1, some 195, .fieldAddr 51 (.tmp 3) 4, none, false, [], [], false⟩, ⟨2, some 196, .load 37 (.tmp 195), none, false, [], [], false⟩, ⟨3, some 197, .call ⟨.builtin .append, ⟨[.tmp 194, .tmp 196]⟩, ⟨[37, 37]⟩⟩, none, false, [], [], true⟩, ⟨4, some 198, .fieldAddr 51 (.tmp 3) 0, none, false, [3], [], false⟩, ⟨5, some 199, .load 34 (.tmp 198), none, false, [3], [], false⟩, ⟨6, some 200, .fieldAddr 29 (.tmp 11) 1, none, false, [3], [], false⟩, ⟨7, some 201, .load 3 (.tmp 200), none, false, [3], [], false⟩, ⟨8, some 202, .indexAddr 32 (.tmp 13) (.tmp 201), none, false, [3], [], false⟩, ⟨9, some 203, .load 3 (.tmp 202), none, false, [3], [], false⟩, ⟨10, some 204, .fieldAddr 29 (.tmp 11) 2, none, true, [3], [], false⟩, ⟨11, some 205, .load 3 (.tmp 204), none, true, [3], [], false⟩, ⟨12, some 206, .indexAddr 32 (.tmp 13) (.tmp 205), none, true, [3], [], false⟩, ⟨13, some 207, .load 3 (.tmp 206), none, true, [3], [], false⟩, ⟨14, some 208, .call ⟨.value (.func 81), ⟨[.tmp 199, .tmp 203, .tmp 207]⟩, ⟨[34, 3, 3]⟩⟩, none, true, [], [], false⟩, ⟨15, some 209, .buildSlice 37 1 ⟨[(0, .tmp 208)]⟩, none, true, [], [], false⟩, ⟨16, some 210, .call ⟨.builtin .append, ⟨[.tmp 197, .tmp 209]⟩, ⟨[37, 37]⟩⟩, none, true, [], [], false⟩, ⟨17, some 211, .fieldAddr 51 (.tmp 3) 4, none, true, [], [], false⟩, ⟨18, none, .store 37 (.tmp 211) (.tmp 210), none, true, [], [], false⟩]
noncomputable def zn28_137 : ZC := ZC.reg [⟨some 213, .binOp .eql 3 (.tmp 146) (.const (.int .i64 13)) 3, none, false⟩, ⟨some 212, .assign (.tmp 213), none, true⟩]
noncomputable def zn28_139 : ZC := ZC.reg [⟨some 214, .move (.tmp 0), none, false⟩, ⟨some 215, .call ⟨.builtin .len, ⟨[.tmp 214]⟩, ⟨[23]⟩⟩, none, false⟩, ⟨some 14, .assign (.tmp 215), none, true⟩]
noncomputable def zn28_138 : ZC := ZC.cond (.tmp 212) zn28_139 ZC.skip
noncomputable def zn28_136 : ZC := ZC.seq zn28_137 zn28_138
noncomputable def zn28_134 : ZC := ZC.cond (.tmp 192) zn28_135 zn28_136
noncomputable def zn28_132 : ZC := ZC.seq zn28_133 zn28_134
noncomputable def zn28_130 : ZC := ZC.cond (.tmp 188) zn28_131 zn28_132
noncomputable def zn28_128 : ZC := ZC.seq zn28_129 zn28_130
noncomputable def zn28_123 : ZC := ZC.cond (.tmp 179) zn28_124 zn28_128
noncomputable def zn28_121 : ZC := ZC.seq zn28_122 zn28_123
noncomputable def zn28_99 : ZC := ZC.cond (.tmp 147) zn28_100 zn28_121
noncomputable def zn28_97 : ZC := ZC.seq zn28_98 zn28_99
noncomputable def zn28_96 : ZC := ZC.block 3 zn28_97
noncomputable def zn28_94 : ZC := ZC.seq zn28_95 zn28_96
noncomputable def zn28_140 : ZC := ZC.reg [⟨some 216, .move (.tmp 14), none, false⟩, ⟨some 9, .assign (.tmp 216), none, true⟩]
noncomputable def zn28_93 : ZC := ZC.seq zn28_94 zn28_140
noncomputable def zn28_88 : ZC := ZC.seq zn28_89 zn28_93
noncomputable def zn28_47 : ZC := ZC.seq zn28_48 zn28_88
noncomputable def zn28_45 : ZC := ZC.seq zn28_46 zn28_47
noncomputable def zn28_43 : ZC := ZC.seq zn28_44 zn28_45
noncomputable def zn28_41 : ZC := ZC.seq zn28_42 zn28_43
noncomputable def zn28_39 : ZC := ZC.seq zn28_40 zn28_41
noncomputable def zn28_31 : ZC := ZC.seq zn28_32 zn28_39
noncomputable def zn28_25 : ZC := ZC.seq zn28_26 zn28_31
noncomputable def zn28_23 : ZC := ZC.seq zn28_24 zn28_25
noncomputable def zn28_22 : ZC := ZC.block 1 zn28_23
noncomputable def zn28_141 : ZC := ZC.reg [⟨some 36, .move (.tmp 10), none, false⟩, ⟨some 37, .binOp .add 3 (.tmp 36) (.const (.int .i64 1)) 3, none, false⟩, ⟨some 10, .assign (.tmp 37), none, true⟩]
noncomputable def zn28_21 : ZC := ZC.seq zn28_22 zn28_141
noncomputable def zn28_17 : ZC := ZC.seq zn28_18 zn28_21
noncomputable def zn28_16 : ZC := ZC.loop zn28_17
noncomputable def zn28_15 : ZC := ZC.block 0 zn28_16
noncomputable def zn28_13 : ZC := ZC.seq zn28_14 zn28_15
noncomputable def zn28_143 : ZC := ZC.reg [⟨some 217, .load 51 (.tmp 3), none, false⟩, ⟨none, .store 51 (.tmp 4) (.tmp 217), none, false⟩, ⟨some 5, .assign (.const (.int .i64 0)), none, false⟩, ⟨some 6, .assign (.const (.int .i64 0)), none, false⟩, ⟨some 7, .assign (.const (.bool true)), none, true⟩]
noncomputable def zn28_142 : ZC := ZC.seq zn28_143 ZC.ret
noncomputable def zn28_12 : ZC := ZC.seq zn28_13 zn28_142
noncomputable def zn28_6 : ZC := ZC.seq zn28_7 zn28_12
noncomputable def zn28_4 : ZC := ZC.seq zn28_5 zn28_6
noncomputable def zn28_2 : ZC := ZC.seq zn28_3 zn28_4
noncomputable def zn28_0 : ZC := ZC.seq zn28_1 zn28_2
noncomputable def zc28 : ZC := zn28_0
theorem zc28_ok : zcode (xfOf Try.f28).code = some zc28 := by kernel_rfl
set_option linter.defProp false in
def zw28 := And.intro (zunf C zc28.eq_1) <| And.intro (zunf C zn28_1.eq_1) <| And.intro (zunf C zn28_3.eq_1) <| And.intro (zunf C zn28_5.eq_1) <| And.intro (zunf C zn28_8.eq_1) <| And.intro (zunf C zn28_11.eq_1) <| And.intro (zunf C zn28_10.eq_1) <| And.intro (zunf C zn28_9.eq_1) <| And.intro (zunf C zn28_7.eq_1) <| And.intro (zunf C zn28_14.eq_1) <| And.intro (zunf C zn28_19.eq_1) <| And.intro (zunf C zn28_20.eq_1) <| And.intro (zunf C zn28_18.eq_1) <| And.intro (zunf C zn28_24.eq_1) <| And.intro (zunf C zn28_27.eq_1) <| And.intro (zunf C zn28_30.eq_1) <| And.intro (zunf C zn28_29.eq_1) <| And.intro (zunf C zn28_28.eq_1) <| And.intro (zunf C zn28_26.eq_1) <| And.intro (zunf C zn28_33.eq_1) <| And.intro (zunf C zn28_35.eq_1) <| And.intro (zunf C zn28_38.eq_1) <| And.intro (zunf C zn28_37.eq_1) <| And.intro (zunf C zn28_36.eq_1) <| And.intro (zunf C zn28_34.eq_1) <| And.intro (zunf C zn28_32.eq_1) <| And.intro (zunf C zn28_40.eq_1) <| And.intro (zunf C zn28_42.eq_1) <| And.intro (zunf C zn28_44.eq_1) <| And.intro (zunf C zn28_46.eq_1) <| And.intro (zunf C zn28_49.eq_1) <| And.intro (zunf C zn28_52.eq_1) <| And.intro (zunf C zn28_54.eq_1) <| And.intro (zunf C zn28_56.eq_1) <| And.intro (zunf C zn28_58.eq_1) <| And.intro (zunf C zn28_60.eq_1) <| And.intro (zunf C zn28_62.eq_1) <| And.intro (zunf C zn28_64.eq_1) <| And.intro (zunf C zn28_66.eq_1) <| And.intro (zunf C zn28_68.eq_1) <| And.intro (zunf C zn28_70.eq_1) <| And.intro (zunf C zn28_72.eq_1) <| And.intro (zunf C zn28_74.eq_1) <| And.intro (zunf C zn28_76.eq_1) <| And.intro (zunf C zn28_78.eq_1) <| And.intro (zunf C zn28_80.eq_1) <| And.intro (zunf C zn28_83.eq_1) <| And.intro (zunf C zn28_85.eq_1) <| And.intro (zunf C zn28_86.eq_1) <| And.intro (zunf C zn28_84.eq_1) <| And.intro (zunf C zn28_82.eq_1) <| And.intro (zunf C zn28_87.eq_1) <| And.intro (zunf C zn28_81.eq_1) <| And.intro (zunf C zn28_79.eq_1) <| And.intro (zunf C zn28_77.eq_1) <| And.intro (zunf C zn28_75.eq_1) <| And.intro (zunf C zn28_73.eq_1) <| And.intro (zunf C zn28_71.eq_1) <| And.intro (zunf C zn28_69.eq_1) <| And.intro (zunf C zn28_67.eq_1) <| And.intro (zunf C zn28_65.eq_1) <| And.intro (zunf C zn28_63.eq_1) <| And.intro (zunf C zn28_61.eq_1) <| And.intro (zunf C zn28_59.eq_1) <| And.intro (zunf C zn28_57.eq_1) <| And.intro (zunf C zn28_55.eq_1) <| And.intro (zunf C zn28_53.eq_1) <| And.intro (zunf C zn28_51.eq_1) <| And.intro (zunf C zn28_50.eq_1) <| And.intro (zunf C zn28_48.eq_1) <| And.intro (zunf C zn28_90.eq_1) <| And.intro (zunf C zn28_92.eq_1) <| And.intro (zunf C zn28_91.eq_1) <| And.intro (zunf C zn28_89.eq_1) <| And.intro (zunf C zn28_95.eq_1) <| And.intro (zunf C zn28_98.eq_1) <| And.intro (zunf C zn28_101.eq_1) <| And.intro (zunf C zn28_103.eq_1) <| And.intro (zunf C zn28_106.eq_1) <| And.intro (zunf C zn28_108.eq_1) <| And.intro (zunf C zn28_110.eq_1) <| And.intro (zunf C zn28_112.eq_1) <| And.intro (zunf C zn28_114.eq_1) <| And.intro (zunf C zn28_116.eq_1) <| And.intro (zunf C zn28_118.eq_1) <| And.intro (zunf C zn28_120.eq_1) <| And.intro (zunf C zn28_119.eq_1) <| And.intro (zunf C zn28_117.eq_1) <| And.intro (zunf C zn28_115.eq_1) <| And.intro (zunf C zn28_113.eq_1) <| And.intro (zunf C zn28_111.eq_1) <| And.intro (zunf C zn28_109.eq_1) <| And.intro (zunf C zn28_107.eq_1) <| And.intro (zunf C zn28_105.eq_1) <| And.intro (zunf C zn28_104.eq_1) <| And.intro (zunf C zn28_102.eq_1) <| And.intro (zunf C zn28_100.eq_1) <| And.intro (zunf C zn28_122.eq_1) <| And.intro (zunf C zn28_125.eq_1) <| And.intro (zunf C zn28_127.eq_1) <| And.intro (zunf C zn28_126.eq_1) <| And.intro (zunf C zn28_124.eq_1) <| And.intro (zunf C zn28_129.eq_1) <| And.intro (zunf C zn28_131.eq_1) <| And.intro (zunf C zn28_133.eq_1) <| And.intro (zunf C zn28_135.eq_1) <| And.intro (zunf C zn28_137.eq_1) <| And.intro (zunf C zn28_139.eq_1) <| And.intro (zunf C zn28_138.eq_1) <| And.intro (zunf C zn28_136.eq_1) <| And.intro (zunf C zn28_134.eq_1) <| And.intro (zunf C zn28_132.eq_1) <| And.intro (zunf C zn28_130.eq_1) <| And.intro (zunf C zn28_128.eq_1) <| And.intro (zunf C zn28_123.eq_1) <| And.intro (zunf C zn28_121.eq_1) <| And.intro (zunf C zn28_99.eq_1) <| And.intro (zunf C zn28_97.eq_1) <| And.intro (zunf C zn28_96.eq_1) <| And.intro (zunf C zn28_94.eq_1) <| And.intro (zunf C zn28_140.eq_1) <| And.intro (zunf C zn28_93.eq_1) <| And.intro (zunf C zn28_88.eq_1) <| And.intro (zunf C zn28_47.eq_1) <| And.intro (zunf C zn28_45.eq_1) <| And.intro (zunf C zn28_43.eq_1) <| And.intro (zunf C zn28_41.eq_1) <| And.intro (zunf C zn28_39.eq_1) <| And.intro (zunf C zn28_31.eq_1) <| And.intro (zunf C zn28_25.eq_1) <| And.intro (zunf C zn28_23.eq_1) <| And.intro (zunf C zn28_22.eq_1) <| And.intro (zunf C zn28_141.eq_1) <| And.intro (zunf C zn28_21.eq_1) <| And.intro (zunf C zn28_17.eq_1) <| And.intro (zunf C zn28_15.eq_1) <| And.intro (zunf C zn28_13.eq_1) <| And.intro (zunf C zn28_143.eq_1) <| And.intro (zunf C zn28_142.eq_1) <| And.intro (zunf C zn28_12.eq_1) <| And.intro (zunf C zn28_6.eq_1) <| And.intro (zunf C zn28_4.eq_1) <| And.intro (zunf C zn28_2.eq_1) <| (zunf C zn28_0.eq_1)
theorem rs28 : (xfOf Try.f28).rs = [.cell 4 51, .tmp 5, .tmp 6, .tmp 7] := by kernel_rfl
theorem xf28 : XFok C 28 (xfOf Try.f28) := ⟨Try.f28, by kernel_rfl, by kernel_rfl, by kernel_rfl, by kernel_rfl, by kernel_rfl, by kernel_rfl, by kernel_rfl⟩
noncomputable def zn75_1 : ZC := ZC.reg [⟨some 1, .box 34 (.tmp 0), none, false⟩, ⟨some 2, .assign (.const (.bool false)), none, true⟩]
noncomputable def zn75_4 : ZC := ZC.reg [⟨some 4, .fieldAddr 34 (.tmp 1) 0, none, false⟩, ⟨some 5, .load 3 (.tmp 4), none, false⟩, ⟨some 6, .binOp .eql 3 (.tmp 5) (.const (.int .i64 0)) 3, none, true⟩]
noncomputable def zn75_7 : ZC := ZC.reg [⟨some 7, .load 34 (.tmp 1), none, false⟩, ⟨some 8, .build 34 ⟨[]⟩, none, false⟩, ⟨some 9, .binOp .eql 34 (.tmp 7) (.tmp 8) 34, none, false⟩, ⟨some 2, .assign (.tmp 9), none, true⟩]
noncomputable def zn75_6 : ZC := ZC.seq zn75_7 ZC.ret
noncomputable def zn75_5 : ZC := ZC.cond (.tmp 6) zn75_6 ZC.skip
noncomputable def zn75_3 : ZC := ZC.seq zn75_4 zn75_5
noncomputable def zn75_10 : ZC := ZC.reg [⟨some 3, .assign (.const (.int .i64 0)), none, true⟩]
noncomputable def zn75_15 : ZC := ZC.reg [⟨some 10, .move (.tmp 3), none, false⟩, ⟨some 11, .binOp .lss 3 (.tmp 10) (.const (.int .i64 4)) 3, none, true⟩]
noncomputable def zn75_16 : ZC := ZC.cond (.tmp 11) ZC.skip (ZC.exit 0)
noncomputable def zn75_14 : ZC := ZC.seq zn75_15 zn75_16
noncomputable def zn75_20 : ZC := ZC.reg [⟨some 14, .move (.tmp 3), none, false⟩, ⟨some 15, .fieldAddr 34 (.tmp 1) 7, none, false⟩, ⟨some 16, .indexAddr 32 (.tmp 15) (.tmp 14), none, false⟩, ⟨some 17, .load 3 (.tmp 16), none, false⟩, ⟨some 18, .call ⟨.value (.func 85), ⟨[.tmp 17, .const (.int .i64 (-1000000)), .const (.int .i64 1000000)]⟩, ⟨[3, 3, 3]⟩⟩, none, false⟩, ⟨some 19, .unOp .not 4 (.tmp 18), none, true⟩]
noncomputable def zn75_23 : ZC := ZC.reg [⟨some 2, .assign (.const (.bool false)), none, true⟩]
noncomputable def zn75_22 : ZC := ZC.seq zn75_23 ZC.ret
noncomputable def zn75_21 : ZC := ZC.cond (.tmp 19) zn75_22 ZC.skip
noncomputable def zn75_19 : ZC := ZC.seq zn75_20 zn75_21
noncomputable def zn75_18 : ZC := ZC.block 1 zn75_19
noncomputable def zn75_24 : ZC := ZC.reg [⟨some 12, .move (.tmp 3), none, false⟩, ⟨some 13, .binOp .add 3 (.tmp 12) (.const (.int .i64 1)) 3, none, false⟩, ⟨some 3, .assign (.tmp 13), none, true⟩]
noncomputable def zn75_17 : ZC := ZC.seq zn75_18 zn75_24
noncomputable def zn75_13 : ZC := ZC.seq zn75_14 zn75_17
noncomputable def zn75_12 : ZC := ZC.loop zn75_13
noncomputable def zn75_11 : ZC := ZC.block 0 zn75_12
noncomputable def zn75_9 : ZC := ZC.seq zn75_10 zn75_11
noncomputable def zn75_26 : ZC := ZC.reg [⟨some 20, .fieldAddr 34 (.tmp 1) 0, none, false⟩, ⟨some 21, .load 3 (.tmp 20), none, false⟩, ⟨some 22, .binOp .eql 3 (.tmp 21) (.const (.int .i64 1)) 3, none, false⟩, ⟨some 23, .move (.tmp 22), none, false⟩, ⟨some 24, .fieldAddr 34 (.tmp 1) 0, some (23, false), false⟩, ⟨some 25, .load 3 (.tmp 24), some (23, false), false⟩, ⟨some 26, .binOp .eql 3 (.tmp 25) (.const (.int .i64 2)) 3, some (23, false), false⟩, ⟨some 27, .pick (.tmp 23) (.const (.bool true)) (.tmp 26), none, false⟩, ⟨some 28, .move (.tmp 27), none, false⟩, ⟨some 29, .fieldAddr 34 (.tmp 1) 1, some (28, true), false⟩, ⟨some 30, .load 3 (.tmp 29), some (28, true), false⟩, ⟨some 31, .call ⟨.value (.func 85), ⟨[.tmp 30, .const (.int .i64 0), .const (.int .i64 7)]⟩, ⟨[3, 3, 3]⟩⟩, some (28, true), false⟩, ⟨some 32, .pick (.tmp 28) (.tmp 31) (.const (.bool false)), none, false⟩, ⟨some 33, .move (.tmp 32), none, false⟩, ⟨some 34, .fieldAddr 34 (.tmp 1) 2, some (33, true), false⟩, ⟨some 35, .load 3 (.tmp 34), some (33, true), false⟩, ⟨some 36, .call ⟨.value (.func 85), ⟨[.tmp 35, .const (.int .i64 0), .const (.int .i64 4095)]⟩, ⟨[3, 3, 3]⟩⟩, some (33, true), false⟩, ⟨some 37, .pick (.tmp 33) (.tmp 36) (.const (.bool false)), none, false⟩, ⟨some 38, .move (.tmp 37), none, false⟩, ⟨some 39, .fieldAddr 34 (.tmp 1) 3, some (38, true), false⟩, ⟨some 40, .load 3 (.tmp 39), some (38, true), false⟩, ⟨some 41, .call ⟨.value (.func 85), ⟨[.tmp 40, .const (.int .i64 0), .const (.int .i64 4095)]⟩, ⟨[3, 3, 3]⟩⟩, some (38, true), false⟩, ⟨some 42, .pick (.tmp 38) (.tmp 41) (.const (.bool false)), none, false⟩, ⟨some 43, .move (.tmp 42), none, false⟩, ⟨some 44, .fieldAddr 34 (.tmp 1) 4, some (43, true), false⟩, ⟨some 45, .load 3 (.tmp 44), some (43, true), false⟩, ⟨some 46, .call ⟨.value (.func 85), ⟨[.tmp 45, .const (.int .i64 (-64)), .const (.int .i64 64)]⟩, ⟨[3, 3, 3]⟩⟩, some (43, true), false⟩, ⟨some 47, .pick (.tmp 43) (.tmp 46) (.const (.bool false)), none, false⟩, ⟨some 48, .move (.tmp 47), none, false⟩, ⟨some 49, .fieldAddr 34 (.tmp 1) 5, some (48, true), false⟩, ⟨some 50, .load 3 (.tmp 49), some (48, true), false⟩, ⟨some 51, .call ⟨.value (.func 85), ⟨[.tmp 50, .const (.int .i64 (-64)), .const (.int .i64 64)]⟩, ⟨[3, 3, 3]⟩⟩, some (48, true), false⟩, ⟨some 52, .pick (.tmp 48) (.tmp 51) (.const (.bool false)), none, false⟩, ⟨some 53, .move (.tmp 52), none, false⟩, ⟨some 54, .fieldAddr 34 (.tmp 1) 6, some (53, true), false⟩, ⟨some 55, .load 3 (.tmp 54), some (53, true), false⟩, ⟨some 56, .call ⟨.value (.func 85), ⟨[.tmp 55, .const (.int .i64 0), .const (.int .i64 600)]⟩, ⟨[3, 3, 3]⟩⟩, some (53, true), false⟩, ⟨some 57, .pick (.tmp 53) (.tmp 56) (.const (.bool false)), none, false⟩, ⟨some 58, .move (.tmp 57), none, false⟩, ⟨some 59, .fieldAddr 34 (.tmp 1) 8, some (58, true), false⟩, ⟨some 60, .load 3 (.tmp 59), some (58, true), false⟩, ⟨some 61, .call ⟨.value (.func 85), ⟨[.tmp 60, .const (.int .i64 0), .const (.int .i64 65535)]⟩, ⟨[3, 3, 3]⟩⟩, some (58, true), false⟩, ⟨some 62, .pick (.tmp 58) (.tmp 61) (.const (.bool false)), none, false⟩, ⟨some 2, .assign (.tmp 62), none, true⟩]
noncomputable def zn75_25 : ZC := ZC.seq zn75_26 ZC.ret
noncomputable def zn75_8 : ZC := ZC.seq zn75_9 zn75_25
noncomputable def zn75_2 : ZC := ZC.seq zn75_3 zn75_8
noncomputable def zn75_0 : ZC := ZC.seq zn75_1 zn75_2
noncomputable def zc75 : ZC := zn75_0
theorem zc75_ok : zcode (xfOf Try.f75).code = some zc75 := by kernel_rfl
set_option linter.defProp false in
def zw75 := And.intro (zunf C zc75.eq_1) <| And.intro (zunf C zn75_1.eq_1) <| And.intro (zunf C zn75_4.eq_1) <| And.intro (zunf C zn75_7.eq_1) <| And.intro (zunf C zn75_6.eq_1) <| And.intro (zunf C zn75_5.eq_1) <| And.intro (zunf C zn75_3.eq_1) <| And.intro (zunf C zn75_10.eq_1) <| And.intro (zunf C zn75_15.eq_1) <| And.intro (zunf C zn75_16.eq_1) <| And.intro (zunf C zn75_14.eq_1) <| And.intro (zunf C zn75_20.eq_1) <| And.intro (zunf C zn75_23.eq_1) <| And.intro (zunf C zn75_22.eq_1) <| And.intro (zunf C zn75_21.eq_1) <| And.intro (zunf C zn75_19.eq_1) <| And.intro (zunf C zn75_18.eq_1) <| And.intro (zunf C zn75_24.eq_1) <| And.intro (zunf C zn75_17.eq_1) <| And.intro (zunf C zn75_13.eq_1) <| And.intro (zunf C zn75_11.eq_1) <| And.intro (zunf C zn75_9.eq_1) <| And.intro (zunf C zn75_26.eq_1) <| And.intro (zunf C zn75_25.eq_1) <| And.intro (zunf C zn75_8.eq_1) <| And.intro (zunf C zn75_2.eq_1) <| (zunf C zn75_0.eq_1)
theorem rs75 : (xfOf Try.f75).rs = [.tmp 2] := by kernel_rfl
theorem xf75 : XFok C 75 (xfOf Try.f75) := ⟨Try.f75, by kernel_rfl, by kernel_rfl, by kernel_rfl, by kernel_rfl, by kernel_rfl, by kernel_rfl, by kernel_rfl⟩
noncomputable def zn76_1 : ZC := ZC.reg [⟨some 3, .box 29 (.tmp 0), none, false⟩, ⟨some 4, .box 51 (.tmp 1), none, false⟩, ⟨some 6, .assign (.const (.int .i64 0)), none, true⟩]
noncomputable def zn76_3 : ZC := ZC.reg [⟨some 10, .fieldAddr 29 (.tmp 3) 0, none, false⟩, ⟨some 11, .load 3 (.tmp 10), none, false⟩, ⟨some 12, .call ⟨.value (.func 152), ⟨[.tmp 11]⟩, ⟨[3]⟩⟩, none, false⟩, ⟨some 9, .move (.tmp 12), none, false⟩, ⟨some 13, .extract (.tmp 9) 0, none, false⟩, ⟨some 14, .extract (.tmp 9) 1, none, false⟩, ⟨some 7, .assign (.tmp 13), none, false⟩, ⟨some 8, .assign (.tmp 14), none, true⟩]
noncomputable def zn76_7 : ZC := ZC.reg [⟨some 16, .fieldAddr 29 (.tmp 3) 0, none, false⟩, ⟨some 17, .load 3 (.tmp 16), none, false⟩, ⟨some 18, .call ⟨.value (.func 85), ⟨[.tmp 17, .const (.int .i64 1), .const (.int .i64 13)]⟩, ⟨[3, 3, 3]⟩⟩, none, false⟩, ⟨some 19, .unOp .not 4 (.tmp 18), none, false⟩, ⟨some 15, .assign (.tmp 19), none, true⟩]
noncomputable def zn76_10 : ZC := ZC.reg [⟨some 6, .assign (.const (.int .i64 4)), none, true⟩]
noncomputable def zn76_9 : ZC := ZC.seq zn76_10 ZC.ret
noncomputable def zn76_12 : ZC := ZC.reg [⟨some 21, .move (.tmp 7), none, false⟩, ⟨some 22, .move (.tmp 21), none, false⟩, ⟨some 23, .fieldAddr 29 (.tmp 3) 1, some (22, true), false⟩, ⟨some 24, .load 3 (.tmp 23), some (22, true), false⟩, ⟨some 25, .call ⟨.value (.func 153), ⟨[.tmp 24]⟩, ⟨[3]⟩⟩, some (22, true), false⟩, ⟨some 26, .unOp .not 4 (.tmp 25), some (22, true), false⟩, ⟨some 27, .pick (.tmp 22) (.tmp 26) (.const (.bool false)), none, false⟩, ⟨some 28, .move (.tmp 27), none, false⟩, ⟨some 29, .move (.tmp 8), some (28, false), false⟩, ⟨some 30, .move (.tmp 29), some (28, false), false⟩, ⟨some 31, .fieldAddr 29 (.tmp 3) 2, some (30, true), false⟩, ⟨some 32, .load 3 (.tmp 31), some (30, true), false⟩, ⟨some 33, .call ⟨.value (.func 153), ⟨[.tmp 32]⟩, ⟨[3]⟩⟩, some (30, true), false⟩, ⟨some 34, .unOp .not 4 (.tmp 33), some (30, true), false⟩, ⟨some 35, .pick (.tmp 30) (.tmp 34) (.const (.bool false)), some (28, false), false⟩, ⟨some 36, .pick (.tmp 28) (.const (.bool true)) (.tmp 35), none, false⟩, ⟨some 20, .assign (.tmp 36), none, true⟩]
noncomputable def zn76_15 : ZC := ZC.reg [⟨some 6, .assign (.const (.int .i64 2)), none, true⟩]
noncomputable def zn76_14 : ZC := ZC.seq zn76_15 ZC.ret
noncomputable def zn76_17 : ZC := ZC.reg [⟨some 38, .fieldAddr 29 (.tmp 3) 0, none, false⟩, ⟨some 39, .load 3 (.tmp 38), none, false⟩, ⟨some 40, .binOp .eql 3 (.tmp 39) (.const (.int .i64 7)) 3, none, false⟩, ⟨some 41, .move (.tmp 40), none, false⟩, ⟨some 42, .fieldAddr 29 (.tmp 3) 2, some (41, true), false⟩, ⟨some 43, .load 3 (.tmp 42), some (41, true), false⟩, ⟨some 44, .call ⟨.value (.func 85), ⟨[.tmp 43, .const (.int .i64 0), .const (.int .i64 7)]⟩, ⟨[3, 3, 3]⟩⟩, some (41, true), false⟩, ⟨some 45, .unOp .not 4 (.tmp 44), some (41, true), false⟩, ⟨some 46, .pick (.tmp 41) (.tmp 45) (.const (.bool false)), none, false⟩, ⟨some 47, .move (.tmp 46), none, false⟩, ⟨some 48, .fieldAddr 29 (.tmp 3) 0, some (47, false), false⟩, ⟨some 49, .load 3 (.tmp 48), some (47, false), false⟩, ⟨some 50, .binOp .eql 3 (.tmp 49) (.const (.int .i64 8)) 3, some (47, false), false⟩, ⟨some 51, .move (.tmp 50), some (47, false), false⟩, ⟨some 52, .fieldAddr 29 (.tmp 3) 1, some (51, true), false⟩, ⟨some 53, .load 3 (.tmp 52), some (51, true), false⟩, ⟨some 54, .call ⟨.value (.func 85), ⟨[.tmp 53, .const (.int .i64 0), .const (.int .i64 3)]⟩, ⟨[3, 3, 3]⟩⟩, some (51, true), false⟩, ⟨some 55, .unOp .not 4 (.tmp 54), some (51, true), false⟩, ⟨some 56, .pick (.tmp 51) (.tmp 55) (.const (.bool false)), some (47, false), false⟩, ⟨some 57, .pick (.tmp 47) (.const (.bool true)) (.tmp 56), none, false⟩, ⟨some 37, .assign (.tmp 57), none, true⟩]
noncomputable def zn76_20 : ZC := ZC.reg [⟨some 6, .assign (.const (.int .i64 3)), none, true⟩]
noncomputable def zn76_19 : ZC := ZC.seq zn76_20 ZC.ret
noncomputable def zn76_22 : ZC := ZC.reg [⟨some 59, .fieldAddr 29 (.tmp 3) 0, none, false⟩, ⟨some 60, .load 3 (.tmp 59), none, false⟩, ⟨some 61, .binOp .eql 3 (.tmp 60) (.const (.int .i64 6)) 3, none, false⟩, ⟨some 62, .move (.tmp 61), none, false⟩, ⟨some 63, .fieldAddr 29 (.tmp 3) 2, some (62, true), false⟩, ⟨some 64, .load 3 (.tmp 63), some (62, true), false⟩, ⟨some 65, .fieldAddr 51 (.tmp 4) 0, some (62, true), false⟩, ⟨some 66, .fieldAddr 34 (.tmp 65) 7, some (62, true), false⟩, ⟨some 67, .indexAddr 32 (.tmp 66) (.tmp 64), some (62, true), false⟩, ⟨some 68, .load 3 (.tmp 67), some (62, true), false⟩, ⟨some 69, .binOp .eql 3 (.tmp 68) (.const (.int .i64 0)) 3, some (62, true), false⟩, ⟨some 70, .pick (.tmp 62) (.tmp 69) (.const (.bool false)), none, false⟩, ⟨some 58, .assign (.tmp 70), none, true⟩]
noncomputable def zn76_25 : ZC := ZC.reg [⟨some 6, .assign (.const (.int .i64 1)), none, true⟩]
noncomputable def zn76_24 : ZC := ZC.seq zn76_25 ZC.ret
noncomputable def zn76_27 : ZC := ZC.reg [⟨some 72, .fieldAddr 29 (.tmp 3) 0, none, false⟩, ⟨some 73, .load 3 (.tmp 72), none, false⟩, ⟨some 74, .binOp .eql 3 (.tmp 73) (.const (.int .i64 11)) 3, none, false⟩, ⟨some 75, .move (.tmp 74), none, false⟩, ⟨some 76, .load 29 (.tmp 3), some (75, true), false⟩, ⟨some 77, .load 51 (.tmp 4), some (75, true), false⟩, ⟨some 78, .call ⟨.value (.func 79), ⟨[.tmp 76, .tmp 77]⟩, ⟨[29, 51]⟩⟩, some (75, true), false⟩, ⟨some 79, .binOp .lss 3 (.tmp 78) (.const (.int .i64 1)) 3, some (75, true), false⟩, ⟨some 80, .pick (.tmp 75) (.tmp 79) (.const (.bool false)), none, false⟩, ⟨some 71, .assign (.tmp 80), none, true⟩]
noncomputable def zn76_30 : ZC := ZC.reg [⟨some 6, .assign (.const (.int .i64 6)), none, true⟩]
noncomputable def zn76_29 : ZC := ZC.seq zn76_30 ZC.ret
noncomputable def zn76_32 : ZC := ZC.reg [⟨some 82, .fieldAddr 29 (.tmp 3) 0, none, false⟩, ⟨some 83, .load 3 (.tmp 82), none, false⟩, ⟨some 84, .binOp .eql 3 (.tmp 83) (.const (.int .i64 12)) 3, none, false⟩, ⟨some 85, .move (.tmp 84), none, false⟩, ⟨some 86, .fieldAddr 51 (.tmp 4) 4, some (85, true), false⟩, ⟨some 87, .load 37 (.tmp 86), some (85, true), false⟩, ⟨some 88, .call ⟨.builtin .len, ⟨[.tmp 87]⟩, ⟨[37]⟩⟩, some (85, true), false⟩, ⟨some 89, .fieldAddr 51 (.tmp 4) 3, some (85, true), false⟩, ⟨some 90, .load 3 (.tmp 89), some (85, true), false⟩, ⟨some 91, .binOp .geq 3 (.tmp 88) (.tmp 90) 3, some (85, true), false⟩, ⟨some 92, .pick (.tmp 85) (.tmp 91) (.const (.bool false)), none, false⟩, ⟨some 81, .assign (.tmp 92), none, true⟩]
noncomputable def zn76_35 : ZC := ZC.reg [⟨some 6, .assign (.const (.int .i64 7)), none, true⟩]
noncomputable def zn76_34 : ZC := ZC.seq zn76_35 ZC.ret
noncomputable def zn76_38 : ZC := ZC.reg [⟨some 94, .fieldAddr 29 (.tmp 3) 0, none, false⟩, ⟨some 95, .load 3 (.tmp 94), none, false⟩, ⟨some 96, .binOp .eql 3 (.tmp 95) (.const (.int .i64 10)) 3, none, false⟩, ⟨some 97, .move (.tmp 96), none, false⟩, ⟨some 98, .fieldAddr 29 (.tmp 3) 2, some (97, true), false⟩, ⟨some 99, .load 3 (.tmp 98), some (97, true), false⟩, ⟨some 100, .move (.tmp 2), some (97, true), false⟩, ⟨some 101, .call ⟨.value (.func 85), ⟨[.tmp 99, .const (.int .i64 0), .tmp 100]⟩, ⟨[3, 3, 3]⟩⟩, some (97, true), false⟩, ⟨some 102, .unOp .not 4 (.tmp 101), some (97, true), false⟩, ⟨some 103, .pick (.tmp 97) (.tmp 102) (.const (.bool false)), none, false⟩, ⟨some 93, .assign (.tmp 103), none, true⟩]
noncomputable def zn76_40 : ZC := ZC.reg [⟨some 104, .fieldAddr 29 (.tmp 3) 0, none, false⟩, ⟨some 105, .load 3 (.tmp 104), none, false⟩, ⟨some 106, .binOp .eql 3 (.tmp 105) (.const (.int .i64 9)) 3, none, false⟩, ⟨some 107, .move (.tmp 106), none, false⟩, ⟨some 108, .fieldAddr 29 (.tmp 3) 1, some (107, true), false⟩, ⟨some 109, .load 3 (.tmp 108), some (107, true), false⟩, ⟨some 110, .fieldAddr 51 (.tmp 4) 0, some (107, true), false⟩, ⟨some 111, .fieldAddr 34 (.tmp 110) 7, some (107, true), false⟩, ⟨some 112, .indexAddr 32 (.tmp 111) (.tmp 109), some (107, true), false⟩, ⟨some 113, .load 3 (.tmp 112), some (107, true), false⟩, ⟨some 114, .binOp .eql 3 (.tmp 113) (.const (.int .i64 0)) 3, some (107, true), false⟩, ⟨some 115, .pick (.tmp 107) (.tmp 114) (.const (.bool false)), none, false⟩, ⟨some 116, .move (.tmp 115), none, false⟩, ⟨some 117, .fieldAddr 29 (.tmp 3) 2, some (116, true), false⟩, ⟨some 118, .load 3 (.tmp 117), some (116, true), false⟩, ⟨some 119, .move (.tmp 2), some (116, true), false⟩, ⟨some 120, .call ⟨.value (.func 85), ⟨[.tmp 118, .const (.int .i64 0), .tmp 119]⟩, ⟨[3, 3, 3]⟩⟩, some (116, true), false⟩, ⟨some 121, .unOp .not 4 (.tmp 120), some (116, true), false⟩, ⟨some 122, .pick (.tmp 116) (.tmp 121) (.const (.bool false)), none, false⟩, ⟨some 93, .assign (.tmp 122), none, true⟩]
noncomputable def zn76_39 : ZC := ZC.cond (.tmp 93) ZC.skip zn76_40
noncomputable def zn76_37 : ZC := ZC.seq zn76_38 zn76_39
noncomputable def zn76_43 : ZC := ZC.reg [⟨some 6, .assign (.const (.int .i64 4)), none, true⟩]
noncomputable def zn76_42 : ZC := ZC.seq zn76_43 ZC.ret
noncomputable def zn76_41 : ZC := ZC.cond (.tmp 93) zn76_42 ZC.skip
noncomputable def zn76_36 : ZC := ZC.seq zn76_37 zn76_41
noncomputable def zn76_33 : ZC := ZC.cond (.tmp 81) zn76_34 zn76_36
noncomputable def zn76_31 : ZC := ZC.seq zn76_32 zn76_33
noncomputable def zn76_28 : ZC := ZC.cond (.tmp 71) zn76_29 zn76_31
noncomputable def zn76_26 : ZC := ZC.seq zn76_27 zn76_28
noncomputable def zn76_23 : ZC := ZC.cond (.tmp 58) zn76_24 zn76_26
noncomputable def zn76_21 : ZC := ZC.seq zn76_22 zn76_23
noncomputable def zn76_18 : ZC := ZC.cond (.tmp 37) zn76_19 zn76_21
noncomputable def zn76_16 : ZC := ZC.seq zn76_17 zn76_18
noncomputable def zn76_13 : ZC := ZC.cond (.tmp 20) zn76_14 zn76_16
noncomputable def zn76_11 : ZC := ZC.seq zn76_12 zn76_13
noncomputable def zn76_8 : ZC := ZC.cond (.tmp 15) zn76_9 zn76_11
noncomputable def zn76_6 : ZC := ZC.seq zn76_7 zn76_8
noncomputable def zn76_5 : ZC := ZC.block 0 zn76_6
noncomputable def zn76_45 : ZC := ZC.reg [⟨some 6, .assign (.const (.int .i64 0)), none, true⟩]
noncomputable def zn76_44 : ZC := ZC.seq zn76_45 ZC.ret
noncomputable def zn76_4 : ZC := ZC.seq zn76_5 zn76_44
noncomputable def zn76_2 : ZC := ZC.seq zn76_3 zn76_4
noncomputable def zn76_0 : ZC := ZC.seq zn76_1 zn76_2
noncomputable def zc76 : ZC := zn76_0
theorem zc76_ok : zcode (xfOf Try.f76).code = some zc76 := by kernel_rfl
set_option linter.defProp false in
def zw76 := And.intro (zunf C zc76.eq_1) <| And.intro (zunf C zn76_1.eq_1) <| And.intro (zunf C zn76_3.eq_1) <| And.intro (zunf C zn76_7.eq_1) <| And.intro (zunf C zn76_10.eq_1) <| And.intro (zunf C zn76_9.eq_1) <| And.intro (zunf C zn76_12.eq_1) <| And.intro (zunf C zn76_15.eq_1) <| And.intro (zunf C zn76_14.eq_1) <| And.intro (zunf C zn76_17.eq_1) <| And.intro (zunf C zn76_20.eq_1) <| And.intro (zunf C zn76_19.eq_1) <| And.intro (zunf C zn76_22.eq_1) <| And.intro (zunf C zn76_25.eq_1) <| And.intro (zunf C zn76_24.eq_1) <| And.intro (zunf C zn76_27.eq_1) <| And.intro (zunf C zn76_30.eq_1) <| And.intro (zunf C zn76_29.eq_1) <| And.intro (zunf C zn76_32.eq_1) <| And.intro (zunf C zn76_35.eq_1) <| And.intro (zunf C zn76_34.eq_1) <| And.intro (zunf C zn76_38.eq_1) <| And.intro (zunf C zn76_40.eq_1) <| And.intro (zunf C zn76_39.eq_1) <| And.intro (zunf C zn76_37.eq_1) <| And.intro (zunf C zn76_43.eq_1) <| And.intro (zunf C zn76_42.eq_1) <| And.intro (zunf C zn76_41.eq_1) <| And.intro (zunf C zn76_36.eq_1) <| And.intro (zunf C zn76_33.eq_1) <| And.intro (zunf C zn76_31.eq_1) <| And.intro (zunf C zn76_28.eq_1) <| And.intro (zunf C zn76_26.eq_1) <| And.intro (zunf C zn76_23.eq_1) <| And.intro (zunf C zn76_21.eq_1) <| And.intro (zunf C zn76_18.eq_1) <| And.intro (zunf C zn76_16.eq_1) <| And.intro (zunf C zn76_13.eq_1) <| And.intro (zunf C zn76_11.eq_1) <| And.intro (zunf C zn76_8.eq_1) <| And.intro (zunf C zn76_6.eq_1) <| And.intro (zunf C zn76_5.eq_1) <| And.intro (zunf C zn76_45.eq_1) <| And.intro (zunf C zn76_44.eq_1) <| And.intro (zunf C zn76_4.eq_1) <| And.intro (zunf C zn76_2.eq_1) <| (zunf C zn76_0.eq_1)
theorem rs76 : (xfOf Try.f76).rs = [.tmp 6] := by kernel_rfl
theorem xf76 : XFok C 76 (xfOf Try.f76) := ⟨Try.f76, by kernel_rfl, by kernel_rfl, by kernel_rfl, by kernel_rfl, by kernel_rfl, by kernel_rfl, by kernel_rfl⟩
noncomputable def zn77_1 : ZC := ZC.reg [⟨some 2, .box 51 (.tmp 0), none, false⟩, ⟨some 4, .assign (.const (.int .i64 0)), none, true⟩]
noncomputable def zn77_3 : ZC := ZC.reg [⟨some 6, .fieldAddr 51 (.tmp 2) 0, none, false⟩, ⟨some 7, .load 34 (.tmp 6), none, false⟩, ⟨some 5, .alloc 34, none, false⟩, ⟨none, .store 34 (.tmp 5) (.tmp 7), none, true⟩]
noncomputable def zn77_5 : ZC := ZC.reg [⟨some 8, .fieldAddr 34 (.tmp 5) 2, none, false⟩, ⟨some 9, .load 3 (.tmp 8), none, false⟩, ⟨some 10, .fieldAddr 34 (.tmp 5) 3, none, false⟩, ⟨some 11, .load 3 (.tmp 10), none, false⟩, ⟨some 12, .fieldAddr 34 (.tmp 5) 4, none, false⟩, ⟨some 13, .load 3 (.tmp 12), none, false⟩, ⟨some 14, .fieldAddr 34 (.tmp 5) 5, none, false⟩, ⟨some 15, .load 3 (.tmp 14), none, false⟩, ⟨some 16, .fieldAddr 34 (.tmp 5) 6, none, false⟩, ⟨some 17, .load 3 (.tmp 16), none, false⟩, ⟨some 18, .fieldAddr 51 (.tmp 2) 1, none, false⟩, ⟨some 19, .fieldAddr 36 (.tmp 18) 0, none, false⟩, ⟨some 20, .load 3 (.tmp 19), none, false⟩, ⟨some 21, .fieldAddr 51 (.tmp 2) 1, none, false⟩, ⟨some 22, .fieldAddr 36 (.tmp 21) 1, none, false⟩, ⟨some 23, .load 3 (.tmp 22), none, false⟩, ⟨some 24, .fieldAddr 51 (.tmp 2) 1, none, false⟩, ⟨some 25, .fieldAddr 36 (.tmp 24) 2, none, false⟩, ⟨some 26, .load 3 (.tmp 25), none, false⟩, ⟨some 27, .build 64 ⟨[(0, .tmp 9), (1, .tmp 11), (2, .tmp 13), (3, .tmp 15), (4, .tmp 17), (5, .tmp 20), (6, .tmp 23), (7, .tmp 26)]⟩, none, false⟩, ⟨some 28, .move (.tmp 1), none, false⟩, ⟨some 29, .index 64 (.tmp 27) (.tmp 28), none, false⟩, ⟨some 4, .assign (.tmp 29), none, true⟩]
noncomputable def zn77_4 : ZC := ZC.seq zn77_5 ZC.ret
noncomputable def zn77_2 : ZC := ZC.seq zn77_3 zn77_4
noncomputable def zn77_0 : ZC := ZC.seq zn77_1 zn77_2
noncomputable def zc77 : ZC := zn77_0
theorem zc77_ok : zcode (xfOf Try.f77).code = some zc77 := by kernel_rfl
set_option linter.defProp false in
def zw77 := And.intro (zunf C zc77.eq_1) <| And.intro (zunf C zn77_1.eq_1) <| And.intro (zunf C zn77_3.eq_1) <| And.intro (zunf C zn77_5.eq_1) <| And.intro (zunf C zn77_4.eq_1) <| And.intro (zunf C zn77_2.eq_1) <| (zunf C zn77_0.eq_1)
theorem rs77 : (xfOf Try.f77).rs = [.tmp 4] := by kernel_rfl
theorem xf77 : XFok C 77 (xfOf Try.f77) := ⟨Try.f77, by kernel_rfl, by kernel_rfl, by kernel_rfl, by kernel_rfl, by kernel_rfl, by kernel_rfl, by kernel_rfl⟩
noncomputable def zn78_1 : ZC := ZC.reg [⟨some 4, .assign (.const (.int .u64 0)), none, false⟩, ⟨some 5, .assign (.const (.int .i64 0)), none, true⟩]
noncomputable def zn78_4 : ZC := ZC.reg [⟨some 8, .move (.tmp 1), none, false⟩, ⟨some 9, .binOp .lss 3 (.tmp 8) (.const (.int .i64 1)) 3, none, true⟩]
noncomputable def zn78_7 : ZC := ZC.reg [⟨some 10, .move (.tmp 0), none, false⟩, ⟨some 4, .assign (.tmp 10), none, false⟩, ⟨some 5, .assign (.const (.int .i64 0)), none, true⟩]
noncomputable def zn78_6 : ZC := ZC.seq zn78_7 ZC.ret
noncomputable def zn78_5 : ZC := ZC.cond (.tmp 9) zn78_6 ZC.skip
noncomputable def zn78_3 : ZC := ZC.seq zn78_4 zn78_5
noncomputable def zn78_9 : ZC := ZC.reg [⟨some 12, .move (.tmp 0), none, false⟩, ⟨some 13, .call ⟨.value (.func 154), ⟨[.tmp 12]⟩, ⟨[25]⟩⟩, none, false⟩, ⟨some 11, .move (.tmp 13), none, false⟩, ⟨some 14, .extract (.tmp 11) 0, none, false⟩, ⟨some 15, .extract (.tmp 11) 1, none, false⟩, ⟨some 6, .assign (.tmp 14), none, false⟩, ⟨some 7, .assign (.tmp 15), none, true⟩]
noncomputable def zn78_11 : ZC := ZC.draw 6 [] [⟨0, some 16, .move (.tmp 6), none, false, [], [], false⟩, ⟨1, some 17, .move (.tmp 7), none, false, [], [], false⟩, ⟨2, some 18, .move (.tmp 1), none, false, [], [], false⟩, ⟨3, some 19, .binOp .rem 3 (.tmp 17) (.tmp 18) 3, none, false, [], [], false⟩, ⟨4, some 4, .assign (.tmp 16), none, true, [], [], false⟩, ⟨5, some 5, .assign (.tmp 19), none, true, [], [], false⟩]
noncomputable def zn78_10 : ZC := ZC.seq zn78_11 ZC.ret
noncomputable def zn78_8 : ZC := ZC.seq zn78_9 zn78_10
noncomputable def zn78_2 : ZC := ZC.seq zn78_3 zn78_8
noncomputable def zn78_0 : ZC := ZC.seq zn78_1 zn78_2
noncomputable def zc78 : ZC := zn78_0
theorem zc78_ok : zcode (xfOf Try.f78).code = some zc78 := by kernel_rfl
set_option linter.defProp false in
def zw78 := And.intro (zunf C zc78.eq_1) <| And.intro (zunf C zn78_1.eq_1) <| And.intro (zunf C zn78_4.eq_1) <| And.intro (zunf C zn78_7.eq_1) <| And.intro (zunf C zn78_6.eq_1) <| And.intro (zunf C zn78_5.eq_1) <| And.intro (zunf C zn78_3.eq_1) <| And.intro (zunf C zn78_9.eq_1) <| And.intro (zunf C zn78_11.eq_1) <| And.intro (zunf C zn78_10.eq_1) <| And.intro (zunf C zn78_8.eq_1) <| And.intro (zunf C zn78_2.eq_1) <| (zunf C zn78_0.eq_1)
theorem rs78 : (xfOf Try.f78).rs = [.tmp 4, .tmp 5] := by kernel_rfl
theorem xf78 : XFok C 78 (xfOf Try.f78) := ⟨Try.f78, by kernel_rfl, by kernel_rfl, by kernel_rfl, by kernel_rfl, by kernel_rfl, by kernel_rfl, by kernel_rfl⟩
noncomputable def zn79_1 : ZC := ZC.reg [⟨some 2, .box 29 (.tmp 0), none, false⟩, ⟨some 3, .box 51 (.tmp 1), none, false⟩, ⟨some 4, .assign (.const (.int .i64 0)), none, true⟩]
noncomputable def zn79_3 : ZC := ZC.reg [⟨some 5, .fieldAddr 29 (.tmp 2) 2, none, false⟩, ⟨some 6, .load 3 (.tmp 5), none, false⟩, ⟨some 7, .fieldAddr 51 (.tmp 3) 0, none, false⟩, ⟨some 8, .fieldAddr 34 (.tmp 7) 7, none, false⟩, ⟨some 9, .indexAddr 32 (.tmp 8) (.tmp 6), none, false⟩, ⟨some 10, .load 3 (.tmp 9), none, false⟩, ⟨some 4, .assign (.tmp 10), none, true⟩]
noncomputable def zn79_2 : ZC := ZC.seq zn79_3 ZC.ret
noncomputable def zn79_0 : ZC := ZC.seq zn79_1 zn79_2
noncomputable def zc79 : ZC := zn79_0
theorem zc79_ok : zcode (xfOf Try.f79).code = some zc79 := by kernel_rfl
set_option linter.defProp false in
def zw79 := And.intro (zunf C zc79.eq_1) <| And.intro (zunf C zn79_1.eq_1) <| And.intro (zunf C zn79_3.eq_1) <| And.intro (zunf C zn79_2.eq_1) <| (zunf C zn79_0.eq_1)
theorem rs79 : (xfOf Try.f79).rs = [.tmp 4] := by kernel_rfl
theorem xf79 : XFok C 79 (xfOf Try.f79) := ⟨Try.f79, by kernel_rfl, by kernel_rfl, by kernel_rfl, by kernel_rfl, by kernel_rfl, by kernel_rfl, by kernel_rfl⟩
noncomputable def zn80_1 : ZC := ZC.reg [⟨some 6, .assign (.const (.int .i64 0)), none, true⟩]
noncomputable def zn80_3 : ZC := ZC.reg [⟨some 7, .move (.tmp 1), none, false⟩, ⟨some 8, .move (.tmp 2), none, false⟩, ⟨some 9, .move (.tmp 0), none, false⟩, ⟨some 10, .call ⟨.builtin .min, ⟨[.tmp 8, .tmp 9]⟩, ⟨[3, 3]⟩⟩, none, false⟩, ⟨some 11, .call ⟨.builtin .max, ⟨[.tmp 7, .tmp 10]⟩, ⟨[3, 3]⟩⟩, none, false⟩, ⟨some 6, .assign (.tmp 11), none, true⟩]
noncomputable def zn80_2 : ZC := ZC.seq zn80_3 ZC.ret
noncomputable def zn80_0 : ZC := ZC.seq zn80_1 zn80_2
noncomputable def zc80 : ZC := zn80_0
theorem zc80_ok : zcode (xfOf Try.f80).code = some zc80 := by kernel_rfl
set_option linter.defProp false in
def zw80 := And.intro (zunf C zc80.eq_1) <| And.intro (zunf C zn80_1.eq_1) <| And.intro (zunf C zn80_3.eq_1) <| And.intro (zunf C zn80_2.eq_1) <| (zunf C zn80_0.eq_1)
theorem rs80 : (xfOf Try.f80).rs = [.tmp 6] := by kernel_rfl
theorem xf80 : XFok C 80 (xfOf Try.f80) := ⟨Try.f80, by kernel_rfl, by kernel_rfl, by kernel_rfl, by kernel_rfl, by kernel_rfl, by kernel_rfl, by kernel_rfl⟩
noncomputable def zn81_1 : ZC := ZC.reg [⟨some 3, .box 34 (.tmp 0), none, false⟩, ⟨some 6, .alloc 34, none, true⟩]
noncomputable def zn81_4 : ZC := ZC.reg [⟨some 7, .load 34 (.tmp 3), none, false⟩, ⟨some 8, .call ⟨.value (.func 75), ⟨[.tmp 7]⟩, ⟨[34]⟩⟩, none, false⟩, ⟨some 9, .unOp .not 4 (.tmp 8), none, false⟩, ⟨some 10, .move (.tmp 9), none, false⟩, ⟨some 11, .fieldAddr 34 (.tmp 3) 0, some (10, false), false⟩, ⟨some 12, .load 3 (.tmp 11), some (10, false), false⟩, ⟨some 13, .binOp .eql 3 (.tmp 12) (.const (.int .i64 0)) 3, some (10, false), false⟩, ⟨some 14, .pick (.tmp 10) (.const (.bool true)) (.tmp 13), none, true⟩]
noncomputable def zn81_7 : ZC := ZC.reg [⟨some 15, .build 34 ⟨[]⟩, none, false⟩, ⟨none, .store 34 (.tmp 6) (.tmp 15), none, true⟩]
noncomputable def zn81_6 : ZC := ZC.seq zn81_7 ZC.ret
noncomputable def zn81_5 : ZC := ZC.cond (.tmp 14) zn81_6 ZC.skip
noncomputable def zn81_3 : ZC := ZC.seq zn81_4 zn81_5
noncomputable def zn81_9 : ZC := ZC.draw 12 [] [⟨0, some 16, .fieldAddr 34 (.tmp 3) 1, none, false, [], [7, 9], false⟩, ⟨1, some 17, .load 3 (.tmp 16), none, false, [], [7, 9], false⟩, ⟨2, some 18, .fieldAddr 34 (.tmp 3) 2, none, false, [], [7, 9], false⟩, ⟨3, some 19, .load 3 (.tmp 18), none, false, [], [7, 9], false⟩, ⟨4, some 20, .fieldAddr 34 (.tmp 3) 3, none, false, [], [7, 9], false⟩, ⟨5, some 21, .load 3 (.tmp 20), none, false, [], [7, 9], false⟩, ⟨6, some 22, .move (.tmp 1), none, false, [], [], false⟩, ⟨7, some 23, .call ⟨.value (.func 80), ⟨[.tmp 22, .const (.int .i64 (-64)), .const (.int .i64 64)]⟩, ⟨[3, 3, 3]⟩⟩, none, false, [], [], false⟩, ⟨8, some 24, .move (.tmp 2), none, true, [], [], false⟩, ⟨9, some 25, .call ⟨.value (.func 80), ⟨[.tmp 24, .const (.int .i64 (-64)), .const (.int .i64 64)]⟩, ⟨[3, 3, 3]⟩⟩, none, true, [], [], false⟩, ⟨10, some 26, .build 34 ⟨[(0, .const (.int .i64 2)), (1, .tmp 17), (2, .tmp 19), (3, .tmp 21), (4, .tmp 23), (5, .tmp 25)]⟩, none, true, [], [], false⟩, ⟨11, none, .store 34 (.tmp 6) (.tmp 26), none, true, [], [], false⟩]
noncomputable def zn81_8 : ZC := ZC.seq zn81_9 ZC.ret
noncomputable def zn81_2 : ZC := ZC.seq zn81_3 zn81_8
noncomputable def zn81_0 : ZC := ZC.seq zn81_1 zn81_2
noncomputable def zc81 : ZC := zn81_0
theorem zc81_ok : zcode (xfOf Try.f81).code = some zc81 := by kernel_rfl
set_option linter.defProp false in
def zw81 := And.intro (zunf C zc81.eq_1) <| And.intro (zunf C zn81_1.eq_1) <| And.intro (zunf C zn81_4.eq_1) <| And.intro (zunf C zn81_7.eq_1) <| And.intro (zunf C zn81_6.eq_1) <| And.intro (zunf C zn81_5.eq_1) <| And.intro (zunf C zn81_3.eq_1) <| And.intro (zunf C zn81_9.eq_1) <| And.intro (zunf C zn81_8.eq_1) <| And.intro (zunf C zn81_2.eq_1) <| (zunf C zn81_0.eq_1)
theorem rs81 : (xfOf Try.f81).rs = [.cell 6 34] := by kernel_rfl
theorem xf81 : XFok C 81 (xfOf Try.f81) := ⟨Try.f81, by kernel_rfl, by kernel_rfl, by kernel_rfl, by kernel_rfl, by kernel_rfl, by kernel_rfl, by kernel_rfl⟩
noncomputable def zn85_1 : ZC := ZC.reg [⟨some 6, .assign (.const (.bool false)), none, true⟩]
noncomputable def zn85_3 : ZC := ZC.reg [⟨some 7, .move (.tmp 0), none, false⟩, ⟨some 8, .move (.tmp 1), none, false⟩, ⟨some 9, .binOp .geq 3 (.tmp 7) (.tmp 8) 3, none, false⟩, ⟨some 10, .move (.tmp 9), none, false⟩, ⟨some 11, .move (.tmp 0), some (10, true), false⟩, ⟨some 12, .move (.tmp 2), some (10, true), false⟩, ⟨some 13, .binOp .leq 3 (.tmp 11) (.tmp 12) 3, some (10, true), false⟩, ⟨some 14, .pick (.tmp 10) (.tmp 13) (.const (.bool false)), none, false⟩, ⟨some 6, .assign (.tmp 14), none, true⟩]
noncomputable def zn85_2 : ZC := ZC.seq zn85_3 ZC.ret
noncomputable def zn85_0 : ZC := ZC.seq zn85_1 zn85_2
noncomputable def zc85 : ZC := zn85_0
theorem zc85_ok : zcode (xfOf Try.f85).code = some zc85 := by kernel_rfl
set_option linter.defProp false in
def zw85 := And.intro (zunf C zc85.eq_1) <| And.intro (zunf C zn85_1.eq_1) <| And.intro (zunf C zn85_3.eq_1) <| And.intro (zunf C zn85_2.eq_1) <| (zunf C zn85_0.eq_1)
theorem rs85 : (xfOf Try.f85).rs = [.tmp 6] := by kernel_rfl
theorem xf85 : XFok C 85 (xfOf Try.f85) := ⟨Try.f85, by kernel_rfl, by kernel_rfl, by kernel_rfl, by kernel_rfl, by kernel_rfl, by kernel_rfl, by kernel_rfl⟩
noncomputable def zn152_1 : ZC := ZC.reg [⟨some 2, .assign (.const (.bool false)), none, false⟩, ⟨some 3, .assign (.const (.bool false)), none, true⟩]
noncomputable def zn152_4 : ZC := ZC.reg [⟨some 4, .move (.tmp 0), none, true⟩]
noncomputable def zn152_8 : ZC := ZC.reg [⟨some 6, .binOp .eql 3 (.tmp 4) (.const (.int .i64 1)) 3, none, false⟩, ⟨some 5, .assign (.tmp 6), none, true⟩]
noncomputable def zn152_11 : ZC := ZC.reg [⟨some 7, .binOp .eql 3 (.tmp 4) (.const (.int .i64 7)) 3, none, false⟩, ⟨some 5, .assign (.tmp 7), none, true⟩]
noncomputable def zn152_13 : ZC := ZC.reg [⟨some 8, .binOp .eql 3 (.tmp 4) (.const (.int .i64 9)) 3, none, false⟩, ⟨some 5, .assign (.tmp 8), none, true⟩]
noncomputable def zn152_12 : ZC := ZC.cond (.tmp 5) ZC.skip zn152_13
noncomputable def zn152_10 : ZC := ZC.seq zn152_11 zn152_12
noncomputable def zn152_9 : ZC := ZC.cond (.tmp 5) ZC.skip zn152_10
noncomputable def zn152_7 : ZC := ZC.seq zn152_8 zn152_9
noncomputable def zn152_16 : ZC := ZC.reg [⟨some 2, .assign (.const (.bool true)), none, false⟩, ⟨some 3, .assign (.const (.bool false)), none, true⟩]
noncomputable def zn152_15 : ZC := ZC.seq zn152_16 ZC.ret
noncomputable def zn152_19 : ZC := ZC.reg [⟨some 10, .binOp .eql 3 (.tmp 4) (.const (.int .i64 2)) 3, none, false⟩, ⟨some 9, .assign (.tmp 10), none, true⟩]
noncomputable def zn152_22 : ZC := ZC.reg [⟨some 11, .binOp .eql 3 (.tmp 4) (.const (.int .i64 3)) 3, none, false⟩, ⟨some 9, .assign (.tmp 11), none, true⟩]
noncomputable def zn152_25 : ZC := ZC.reg [⟨some 12, .binOp .eql 3 (.tmp 4) (.const (.int .i64 4)) 3, none, false⟩, ⟨some 9, .assign (.tmp 12), none, true⟩]
noncomputable def zn152_28 : ZC := ZC.reg [⟨some 13, .binOp .eql 3 (.tmp 4) (.const (.int .i64 5)) 3, none, false⟩, ⟨some 9, .assign (.tmp 13), none, true⟩]
noncomputable def zn152_31 : ZC := ZC.reg [⟨some 14, .binOp .eql 3 (.tmp 4) (.const (.int .i64 6)) 3, none, false⟩, ⟨some 9, .assign (.tmp 14), none, true⟩]
noncomputable def zn152_34 : ZC := ZC.reg [⟨some 15, .binOp .eql 3 (.tmp 4) (.const (.int .i64 11)) 3, none, false⟩, ⟨some 9, .assign (.tmp 15), none, true⟩]
noncomputable def zn152_36 : ZC := ZC.reg [⟨some 16, .binOp .eql 3 (.tmp 4) (.const (.int .i64 12)) 3, none, false⟩, ⟨some 9, .assign (.tmp 16), none, true⟩]
noncomputable def zn152_35 : ZC := ZC.cond (.tmp 9) ZC.skip zn152_36
noncomputable def zn152_33 : ZC := ZC.seq zn152_34 zn152_35
noncomputable def zn152_32 : ZC := ZC.cond (.tmp 9) ZC.skip zn152_33
noncomputable def zn152_30 : ZC := ZC.seq zn152_31 zn152_32
noncomputable def zn152_29 : ZC := ZC.cond (.tmp 9) ZC.skip zn152_30
noncomputable def zn152_27 : ZC := ZC.seq zn152_28 zn152_29
noncomputable def zn152_26 : ZC := ZC.cond (.tmp 9) ZC.skip zn152_27
noncomputable def zn152_24 : ZC := ZC.seq zn152_25 zn152_26
noncomputable def zn152_23 : ZC := ZC.cond (.tmp 9) ZC.skip zn152_24
noncomputable def zn152_21 : ZC := ZC.seq zn152_22 zn152_23
noncomputable def zn152_20 : ZC := ZC.cond (.tmp 9) ZC.skip zn152_21
noncomputable def zn152_18 : ZC := ZC.seq zn152_19 zn152_20
noncomputable def zn152_39 : ZC := ZC.reg [⟨some 2, .assign (.const (.bool true)), none, false⟩, ⟨some 3, .assign (.const (.bool true)), none, true⟩]
noncomputable def zn152_38 : ZC := ZC.seq zn152_39 ZC.ret
noncomputable def zn152_41 : ZC := ZC.reg [⟨some 18, .binOp .eql 3 (.tmp 4) (.const (.int .i64 8)) 3, none, false⟩, ⟨some 17, .assign (.tmp 18), none, true⟩]
noncomputable def zn152_44 : ZC := ZC.reg [⟨some 2, .assign (.const (.bool false)), none, false⟩, ⟨some 3, .assign (.const (.bool true)), none, true⟩]
noncomputable def zn152_43 : ZC := ZC.seq zn152_44 ZC.ret
noncomputable def zn152_42 : ZC := ZC.cond (.tmp 17) zn152_43 ZC.skip
noncomputable def zn152_40 : ZC := ZC.seq zn152_41 zn152_42
noncomputable def zn152_37 : ZC := ZC.cond (.tmp 9) zn152_38 zn152_40
noncomputable def zn152_17 : ZC := ZC.seq zn152_18 zn152_37
noncomputable def zn152_14 : ZC := ZC.cond (.tmp 5) zn152_15 zn152_17
noncomputable def zn152_6 : ZC := ZC.seq zn152_7 zn152_14
noncomputable def zn152_5 : ZC := ZC.block 0 zn152_6
noncomputable def zn152_3 : ZC := ZC.seq zn152_4 zn152_5
noncomputable def zn152_46 : ZC := ZC.reg [⟨some 2, .assign (.const (.bool false)), none, false⟩, ⟨some 3, .assign (.const (.bool false)), none, true⟩]
noncomputable def zn152_45 : ZC := ZC.seq zn152_46 ZC.ret
noncomputable def zn152_2 : ZC := ZC.seq zn152_3 zn152_45
noncomputable def zn152_0 : ZC := ZC.seq zn152_1 zn152_2
noncomputable def zc152 : ZC := zn152_0
theorem zc152_ok : zcode (xfOf Try.f152).code = some zc152 := by kernel_rfl
set_option linter.defProp false in
def zw152 := And.intro (zunf C zc152.eq_1) <| And.intro (zunf C zn152_1.eq_1) <| And.intro (zunf C zn152_4.eq_1) <| And.intro (zunf C zn152_8.eq_1) <| And.intro (zunf C zn152_11.eq_1) <| And.intro (zunf C zn152_13.eq_1) <| And.intro (zunf C zn152_12.eq_1) <| And.intro (zunf C zn152_10.eq_1) <| And.intro (zunf C zn152_9.eq_1) <| And.intro (zunf C zn152_7.eq_1) <| And.intro (zunf C zn152_16.eq_1) <| And.intro (zunf C zn152_15.eq_1) <| And.intro (zunf C zn152_19.eq_1) <| And.intro (zunf C zn152_22.eq_1) <| And.intro (zunf C zn152_25.eq_1) <| And.intro (zunf C zn152_28.eq_1) <| And.intro (zunf C zn152_31.eq_1) <| And.intro (zunf C zn152_34.eq_1) <| And.intro (zunf C zn152_36.eq_1) <| And.intro (zunf C zn152_35.eq_1) <| And.intro (zunf C zn152_33.eq_1) <| And.intro (zunf C zn152_32.eq_1) <| And.intro (zunf C zn152_30.eq_1) <| And.intro (zunf C zn152_29.eq_1) <| And.intro (zunf C zn152_27.eq_1) <| And.intro (zunf C zn152_26.eq_1) <| And.intro (zunf C zn152_24.eq_1) <| And.intro (zunf C zn152_23.eq_1) <| And.intro (zunf C zn152_21.eq_1) <| And.intro (zunf C zn152_20.eq_1) <| And.intro (zunf C zn152_18.eq_1) <| And.intro (zunf C zn152_39.eq_1) <| And.intro (zunf C zn152_38.eq_1) <| And.intro (zunf C zn152_41.eq_1) <| And.intro (zunf C zn152_44.eq_1) <| And.intro (zunf C zn152_43.eq_1) <| And.intro (zunf C zn152_42.eq_1) <| And.intro (zunf C zn152_40.eq_1) <| And.intro (zunf C zn152_37.eq_1) <| And.intro (zunf C zn152_17.eq_1) <| And.intro (zunf C zn152_14.eq_1) <| And.intro (zunf C zn152_6.eq_1) <| And.intro (zunf C zn152_5.eq_1) <| And.intro (zunf C zn152_3.eq_1) <| And.intro (zunf C zn152_46.eq_1) <| And.intro (zunf C zn152_45.eq_1) <| And.intro (zunf C zn152_2.eq_1) <| (zunf C zn152_0.eq_1)
theorem rs152 : (xfOf Try.f152).rs = [.tmp 2, .tmp 3] := by kernel_rfl
theorem xf152 : XFok C 152 (xfOf Try.f152) := ⟨Try.f152, by kernel_rfl, by kernel_rfl, by kernel_rfl, by kernel_rfl, by kernel_rfl, by kernel_rfl, by kernel_rfl⟩
noncomputable def zn153_1 : ZC := ZC.reg [⟨some 2, .assign (.const (.bool false)), none, true⟩]
noncomputable def zn153_3 : ZC := ZC.reg [⟨some 3, .move (.tmp 0), none, false⟩, ⟨some 4, .call ⟨.value (.func 85), ⟨[.tmp 3, .const (.int .i64 0), .const (.int .i64 3)]⟩, ⟨[3, 3, 3]⟩⟩, none, false⟩, ⟨some 2, .assign (.tmp 4), none, true⟩]
noncomputable def zn153_2 : ZC := ZC.seq zn153_3 ZC.ret
noncomputable def zn153_0 : ZC := ZC.seq zn153_1 zn153_2
noncomputable def zc153 : ZC := zn153_0
theorem zc153_ok : zcode (xfOf Try.f153).code = some zc153 := by kernel_rfl
set_option linter.defProp false in
def zw153 := And.intro (zunf C zc153.eq_1) <| And.intro (zunf C zn153_1.eq_1) <| And.intro (zunf C zn153_3.eq_1) <| And.intro (zunf C zn153_2.eq_1) <| (zunf C zn153_0.eq_1)
theorem rs153 : (xfOf Try.f153).rs = [.tmp 2] := by kernel_rfl
theorem xf153 : XFok C 153 (xfOf Try.f153) := ⟨Try.f153, by kernel_rfl, by kernel_rfl, by kernel_rfl, by kernel_rfl, by kernel_rfl, by kernel_rfl, by kernel_rfl⟩
noncomputable def zn154_1 : ZC := ZC.reg [⟨some 2, .assign (.const (.int .u64 0)), none, false⟩, ⟨some 3, .assign (.const (.int .i64 0)), none, true⟩]
noncomputable def zn154_3 : ZC := ZC.reg [⟨some 4, .move (.tmp 0), none, false⟩, ⟨some 5, .binOp .mul 25 (.tmp 4) (.const (.int .u64 6364136223846793005)) 25, none, false⟩, ⟨some 6, .binOp .add 25 (.tmp 5) (.const (.int .u64 1442695040888963407)) 25, none, false⟩, ⟨some 0, .assign (.tmp 6), none, true⟩]
noncomputable def zn154_5 : ZC := ZC.reg [⟨some 7, .move (.tmp 0), none, false⟩, ⟨some 8, .move (.tmp 0), none, false⟩, ⟨some 9, .binOp .shr 25 (.tmp 8) (.const (.int .u64 33)) 178, none, false⟩, ⟨some 10, .convert 25 3 (.tmp 9), none, false⟩, ⟨some 2, .assign (.tmp 7), none, false⟩, ⟨some 3, .assign (.tmp 10), none, true⟩]
noncomputable def zn154_4 : ZC := ZC.seq zn154_5 ZC.ret
noncomputable def zn154_2 : ZC := ZC.seq zn154_3 zn154_4
noncomputable def zn154_0 : ZC := ZC.seq zn154_1 zn154_2
noncomputable def zc154 : ZC := zn154_0
theorem zc154_ok : zcode (xfOf Try.f154).code = some zc154 := by kernel_rfl
set_option linter.defProp false in
def zw154 := And.intro (zunf C zc154.eq_1) <| And.intro (zunf C zn154_1.eq_1) <| And.intro (zunf C zn154_3.eq_1) <| And.intro (zunf C zn154_5.eq_1) <| And.intro (zunf C zn154_4.eq_1) <| And.intro (zunf C zn154_2.eq_1) <| (zunf C zn154_0.eq_1)
theorem rs154 : (xfOf Try.f154).rs = [.tmp 2, .tmp 3] := by kernel_rfl
theorem xf154 : XFok C 154 (xfOf Try.f154) := ⟨Try.f154, by kernel_rfl, by kernel_rfl, by kernel_rfl, by kernel_rfl, by kernel_rfl, by kernel_rfl, by kernel_rfl⟩
noncomputable def zn22_1 : ZC := ZC.reg [⟨some 1, .box 27 (.tmp 0), none, false⟩, ⟨some 2, .alloc 39, none, true⟩]
noncomputable def zn22_3 : ZC := ZC.draw 17 [(15, .alloc 39)] [⟨0, some 5, .fieldAddr 27 (.tmp 1) 0, none, false, [], [], false⟩, ⟨1, some 6, .load 3 (.tmp 5), none, false, [], [], false⟩, ⟨2, some 7, .call ⟨.value (.func 37), ⟨[.tmp 6, .const (.int .i64 4)]⟩, ⟨[3, 3]⟩⟩, none, false, [], [], true⟩, ⟨3, some 8, .call ⟨.value (.func 64), ⟨[.tmp 7, .const (.int .i64 4)]⟩, ⟨[3, 3]⟩⟩, none, false, [], [], true⟩, ⟨4, some 9, .fieldAddr 27 (.tmp 1) 3, none, false, [2, 3], [], false⟩, ⟨5, some 10, .load 3 (.tmp 9), none, false, [2, 3], [], false⟩, ⟨6, some 11, .fieldAddr 27 (.tmp 1) 4, none, false, [2, 3], [], false⟩, ⟨7, some 12, .load 3 (.tmp 11), none, false, [2, 3], [], false⟩, ⟨8, some 13, .call ⟨.value (.func 69), ⟨[.tmp 10, .tmp 12]⟩, ⟨[3, 3]⟩⟩, none, false, [], [], true⟩, ⟨9, some 14, .fieldAddr 27 (.tmp 1) 7, none, false, [2, 3, 8], [13], false⟩, ⟨10, some 15, .load 25 (.tmp 14), none, false, [2, 3, 8], [13], false⟩, ⟨11, some 16, .fieldAddr 27 (.tmp 1) 5, none, false, [2, 3, 8], [], false⟩, ⟨12, some 17, .load 3 (.tmp 16), none, false, [2, 3, 8], [], false⟩, ⟨13, some 18, .call ⟨.value (.func 37), ⟨[.tmp 17, .const (.int .i64 8)]⟩, ⟨[3, 3]⟩⟩, none, false, [], [], true⟩, ⟨14, some 19, .build 39 ⟨[(0, .tmp 8), (1, .tmp 13), (2, .tmp 15), (3, .tmp 18)]⟩, none, false, [], [], false⟩, ⟨15, some 3, .alloc 39, none, true, [2, 3, 8, 13], [], false⟩, ⟨16, none, .store 39 (.tmp 3) (.tmp 19), none, true, [], [], false⟩]
noncomputable def zn22_5 : ZC := ZC.reg [⟨some 20, .fieldAddr 27 (.tmp 1) 0, none, false⟩, ⟨some 21, .load 3 (.tmp 20), none, false⟩, ⟨some 22, .call ⟨.value (.func 37), ⟨[.tmp 21, .const (.int .i64 4096)]⟩, ⟨[3, 3]⟩⟩, none, false⟩, ⟨some 23, .fieldAddr 39 (.tmp 3) 0, none, false⟩, ⟨some 24, .fieldAddr 34 (.tmp 23) 2, none, false⟩, ⟨none, .store 3 (.tmp 24) (.tmp 22), none, true⟩]
noncomputable def zn22_7 : ZC := ZC.reg [⟨some 25, .fieldAddr 27 (.tmp 1) 1, none, false⟩, ⟨some 26, .load 3 (.tmp 25), none, false⟩, ⟨some 27, .call ⟨.value (.func 37), ⟨[.tmp 26, .const (.int .i64 4096)]⟩, ⟨[3, 3]⟩⟩, none, false⟩, ⟨some 28, .fieldAddr 39 (.tmp 3) 0, none, false⟩, ⟨some 29, .fieldAddr 34 (.tmp 28) 3, none, false⟩, ⟨none, .store 3 (.tmp 29) (.tmp 27), none, true⟩]
noncomputable def zn22_9 : ZC := ZC.reg [⟨some 30, .fieldAddr 27 (.tmp 1) 2, none, false⟩, ⟨some 31, .load 3 (.tmp 30), none, false⟩, ⟨some 32, .call ⟨.value (.func 37), ⟨[.tmp 31, .const (.int .i64 129)]⟩, ⟨[3, 3]⟩⟩, none, false⟩, ⟨some 33, .binOp .sub 3 (.tmp 32) (.const (.int .i64 64)) 3, none, false⟩, ⟨some 34, .fieldAddr 39 (.tmp 3) 0, none, false⟩, ⟨some 35, .fieldAddr 34 (.tmp 34) 4, none, false⟩, ⟨none, .store 3 (.tmp 35) (.tmp 33), none, true⟩]
noncomputable def zn22_12 : ZC := ZC.reg [⟨some 4, .assign (.const (.int .i64 0)), none, true⟩]
noncomputable def zn22_17 : ZC := ZC.reg [⟨some 36, .move (.tmp 4), none, false⟩, ⟨some 37, .fieldAddr 27 (.tmp 1) 6, none, false⟩, ⟨some 38, .load 24 (.tmp 37), none, false⟩, ⟨some 39, .call ⟨.builtin .len, ⟨[.tmp 38]⟩, ⟨[24]⟩⟩, none, false⟩, ⟨some 40, .binOp .lss 3 (.tmp 36) (.tmp 39) 3, none, false⟩, ⟨some 41, .move (.tmp 40), none, false⟩, ⟨some 42, .move (.tmp 4), some (41, true), false⟩, ⟨some 43, .binOp .lss 3 (.tmp 42) (.const (.int .i64 4)) 3, some (41, true), false⟩, ⟨some 44, .pick (.tmp 41) (.tmp 43) (.const (.bool false)), none, true⟩]
noncomputable def zn22_18 : ZC := ZC.cond (.tmp 44) ZC.skip (ZC.exit 0)
noncomputable def zn22_16 : ZC := ZC.seq zn22_17 zn22_18
noncomputable def zn22_22 : ZC := ZC.reg [⟨some 47, .move (.tmp 4), none, false⟩, ⟨some 48, .fieldAddr 27 (.tmp 1) 6, none, false⟩, ⟨some 49, .load 24 (.tmp 48), none, false⟩, ⟨some 50, .move (.tmp 4), none, false⟩, ⟨some 51, .indexAddr 24 (.tmp 49) (.tmp 50), none, false⟩, ⟨some 52, .load 3 (.tmp 51), none, false⟩, ⟨some 53, .call ⟨.value (.func 37), ⟨[.tmp 52, .const (.int .i64 41)]⟩, ⟨[3, 3]⟩⟩, none, false⟩, ⟨some 54, .binOp .sub 3 (.tmp 53) (.const (.int .i64 20)) 3, none, false⟩, ⟨some 55, .fieldAddr 39 (.tmp 3) 0, none, false⟩, ⟨some 56, .fieldAddr 34 (.tmp 55) 7, none, false⟩, ⟨some 57, .indexAddr 32 (.tmp 56) (.tmp 47), none, false⟩, ⟨none, .store 3 (.tmp 57) (.tmp 54), none, true⟩]
noncomputable def zn22_24 : ZC := ZC.reg [⟨some 58, .fieldAddr 27 (.tmp 1) 6, none, false⟩, ⟨some 59, .load 24 (.tmp 58), none, false⟩, ⟨some 60, .move (.tmp 4), none, false⟩, ⟨some 61, .indexAddr 24 (.tmp 59) (.tmp 60), none, false⟩, ⟨some 62, .load 3 (.tmp 61), none, false⟩, ⟨some 63, .binOp .rem 3 (.tmp 62) (.const (.int .i64 9)) 3, none, false⟩, ⟨some 64, .binOp .eql 3 (.tmp 63) (.const (.int .i64 8)) 3, none, true⟩]
noncomputable def zn22_26 : ZC := ZC.reg [⟨some 65, .move (.tmp 4), none, false⟩, ⟨some 66, .fieldAddr 27 (.tmp 1) 6, none, false⟩, ⟨some 67, .load 24 (.tmp 66), none, false⟩, ⟨some 68, .move (.tmp 4), none, false⟩, ⟨some 69, .indexAddr 24 (.tmp 67) (.tmp 68), none, false⟩, ⟨some 70, .load 3 (.tmp 69), none, false⟩, ⟨some 71, .call ⟨.value (.func 37), ⟨[.tmp 70, .const (.int .i64 2000001)]⟩, ⟨[3, 3]⟩⟩, none, false⟩, ⟨some 72, .binOp .sub 3 (.tmp 71) (.const (.int .i64 1000000)) 3, none, false⟩, ⟨some 73, .fieldAddr 39 (.tmp 3) 0, none, false⟩, ⟨some 74, .fieldAddr 34 (.tmp 73) 7, none, false⟩, ⟨some 75, .indexAddr 32 (.tmp 74) (.tmp 65), none, false⟩, ⟨none, .store 3 (.tmp 75) (.tmp 72), none, true⟩]
noncomputable def zn22_25 : ZC := ZC.cond (.tmp 64) zn22_26 ZC.skip
noncomputable def zn22_23 : ZC := ZC.seq zn22_24 zn22_25
noncomputable def zn22_21 : ZC := ZC.seq zn22_22 zn22_23
noncomputable def zn22_20 : ZC := ZC.block 1 zn22_21
noncomputable def zn22_27 : ZC := ZC.reg [⟨some 45, .move (.tmp 4), none, false⟩, ⟨some 46, .binOp .add 3 (.tmp 45) (.const (.int .i64 1)) 3, none, false⟩, ⟨some 4, .assign (.tmp 46), none, true⟩]
noncomputable def zn22_19 : ZC := ZC.seq zn22_20 zn22_27
noncomputable def zn22_15 : ZC := ZC.seq zn22_16 zn22_19
noncomputable def zn22_14 : ZC := ZC.loop zn22_15
noncomputable def zn22_13 : ZC := ZC.block 0 zn22_14
noncomputable def zn22_11 : ZC := ZC.seq zn22_12 zn22_13
noncomputable def zn22_30 : ZC := ZC.reg [⟨some 76, .fieldAddr 27 (.tmp 1) 8, none, false⟩, ⟨some 77, .load 3 (.tmp 76), none, false⟩, ⟨some 78, .binOp .rem 3 (.tmp 77) (.const (.int .i64 23)) 3, none, false⟩, ⟨some 79, .binOp .eql 3 (.tmp 78) (.const (.int .i64 22)) 3, none, true⟩]
noncomputable def zn22_32 : ZC := ZC.reg [⟨some 80, .fieldAddr 27 (.tmp 1) 1, none, false⟩, ⟨some 81, .load 3 (.tmp 80), none, false⟩, ⟨some 82, .fieldAddr 39 (.tmp 3) 0, none, false⟩, ⟨some 83, .fieldAddr 34 (.tmp 82) 3, none, false⟩, ⟨none, .store 3 (.tmp 83) (.tmp 81), none, true⟩]
noncomputable def zn22_31 : ZC := ZC.cond (.tmp 79) zn22_32 ZC.skip
noncomputable def zn22_29 : ZC := ZC.seq zn22_30 zn22_31
noncomputable def zn22_34 : ZC := ZC.reg [⟨some 84, .load 39 (.tmp 3), none, false⟩, ⟨none, .store 39 (.tmp 2) (.tmp 84), none, true⟩]
noncomputable def zn22_33 : ZC := ZC.seq zn22_34 ZC.ret
noncomputable def zn22_28 : ZC := ZC.seq zn22_29 zn22_33
noncomputable def zn22_10 : ZC := ZC.seq zn22_11 zn22_28
noncomputable def zn22_8 : ZC := ZC.seq zn22_9 zn22_10
noncomputable def zn22_6 : ZC := ZC.seq zn22_7 zn22_8
noncomputable def zn22_4 : ZC := ZC.seq zn22_5 zn22_6
noncomputable def zn22_2 : ZC := ZC.seq zn22_3 zn22_4
noncomputable def zn22_0 : ZC := ZC.seq zn22_1 zn22_2
noncomputable def zc22 : ZC := zn22_0
theorem zc22_ok : zcode (xfOf Try.f22).code = some zc22 := by kernel_rfl
set_option linter.defProp false in
def zw22 := And.intro (zunf C zc22.eq_1) <| And.intro (zunf C zn22_1.eq_1) <| And.intro (zunf C zn22_3.eq_1) <| And.intro (zunf C zn22_5.eq_1) <| And.intro (zunf C zn22_7.eq_1) <| And.intro (zunf C zn22_9.eq_1) <| And.intro (zunf C zn22_12.eq_1) <| And.intro (zunf C zn22_17.eq_1) <| And.intro (zunf C zn22_18.eq_1) <| And.intro (zunf C zn22_16.eq_1) <| And.intro (zunf C zn22_22.eq_1) <| And.intro (zunf C zn22_24.eq_1) <| And.intro (zunf C zn22_26.eq_1) <| And.intro (zunf C zn22_25.eq_1) <| And.intro (zunf C zn22_23.eq_1) <| And.intro (zunf C zn22_21.eq_1) <| And.intro (zunf C zn22_20.eq_1) <| And.intro (zunf C zn22_27.eq_1) <| And.intro (zunf C zn22_19.eq_1) <| And.intro (zunf C zn22_15.eq_1) <| And.intro (zunf C zn22_13.eq_1) <| And.intro (zunf C zn22_11.eq_1) <| And.intro (zunf C zn22_30.eq_1) <| And.intro (zunf C zn22_32.eq_1) <| And.intro (zunf C zn22_31.eq_1) <| And.intro (zunf C zn22_29.eq_1) <| And.intro (zunf C zn22_34.eq_1) <| And.intro (zunf C zn22_33.eq_1) <| And.intro (zunf C zn22_28.eq_1) <| And.intro (zunf C zn22_10.eq_1) <| And.intro (zunf C zn22_8.eq_1) <| And.intro (zunf C zn22_6.eq_1) <| And.intro (zunf C zn22_4.eq_1) <| And.intro (zunf C zn22_2.eq_1) <| (zunf C zn22_0.eq_1)
theorem rs22 : (xfOf Try.f22).rs = [.cell 2 39] := by kernel_rfl
theorem xf22 : XFok C 22 (xfOf Try.f22) := ⟨Try.f22, by kernel_rfl, by kernel_rfl, by kernel_rfl, by kernel_rfl, by kernel_rfl, by kernel_rfl, by kernel_rfl⟩
noncomputable def zn37_1 : ZC := ZC.reg [⟨some 4, .assign (.const (.int .i64 0)), none, true⟩]
noncomputable def zn37_3 : ZC := ZC.reg [⟨some 5, .move (.tmp 0), none, false⟩, ⟨some 6, .move (.tmp 1), none, false⟩, ⟨some 7, .binOp .rem 3 (.tmp 5) (.tmp 6) 3, none, false⟩, ⟨some 0, .assign (.tmp 7), none, true⟩]
noncomputable def zn37_6 : ZC := ZC.reg [⟨some 8, .move (.tmp 0), none, false⟩, ⟨some 9, .binOp .lss 3 (.tmp 8) (.const (.int .i64 0)) 3, none, true⟩]
noncomputable def zn37_8 : ZC := ZC.reg [⟨some 10, .move (.tmp 0), none, false⟩, ⟨some 11, .move (.tmp 1), none, false⟩, ⟨some 12, .binOp .add 3 (.tmp 10) (.tmp 11) 3, none, false⟩, ⟨some 0, .assign (.tmp 12), none, true⟩]
noncomputable def zn37_7 : ZC := ZC.cond (.tmp 9) zn37_8 ZC.skip
noncomputable def zn37_5 : ZC := ZC.seq zn37_6 zn37_7
noncomputable def zn37_10 : ZC := ZC.reg [⟨some 13, .move (.tmp 0), none, false⟩, ⟨some 4, .assign (.tmp 13), none, true⟩]
noncomputable def zn37_9 : ZC := ZC.seq zn37_10 ZC.ret
noncomputable def zn37_4 : ZC := ZC.seq zn37_5 zn37_9
noncomputable def zn37_2 : ZC := ZC.seq zn37_3 zn37_4
noncomputable def zn37_0 : ZC := ZC.seq zn37_1 zn37_2
noncomputable def zc37 : ZC := zn37_0
theorem zc37_ok : zcode (xfOf Try.f37).code = some zc37 := by kernel_rfl
set_option linter.defProp false in
def zw37 := And.intro (zunf C zc37.eq_1) <| And.intro (zunf C zn37_1.eq_1) <| And.intro (zunf C zn37_3.eq_1) <| And.intro (zunf C zn37_6.eq_1) <| And.intro (zunf C zn37_8.eq_1) <| And.intro (zunf C zn37_7.eq_1) <| And.intro (zunf C zn37_5.eq_1) <| And.intro (zunf C zn37_10.eq_1) <| And.intro (zunf C zn37_9.eq_1) <| And.intro (zunf C zn37_4.eq_1) <| And.intro (zunf C zn37_2.eq_1) <| (zunf C zn37_0.eq_1)
theorem rs37 : (xfOf Try.f37).rs = [.tmp 4] := by kernel_rfl
theorem xf37 : XFok C 37 (xfOf Try.f37) := ⟨Try.f37, by kernel_rfl, by kernel_rfl, by kernel_rfl, by kernel_rfl, by kernel_rfl, by kernel_rfl, by kernel_rfl⟩
noncomputable def zn64_1 : ZC := ZC.reg [⟨some 4, .alloc 34, none, true⟩]
noncomputable def zn64_3 : ZC := ZC.reg [⟨some 5, .move (.tmp 1), none, false⟩, ⟨some 6, .call ⟨.value (.func 140), ⟨[.tmp 5, .const (.int .i64 1), .const (.int .i64 8)]⟩, ⟨[3, 3, 3]⟩⟩, none, false⟩, ⟨some 1, .assign (.tmp 6), none, true⟩]
noncomputable def zn64_5 : ZC := ZC.reg [⟨some 7, .move (.tmp 0), none, false⟩, ⟨some 8, .move (.tmp 1), none, false⟩, ⟨some 9, .binOp .sub 3 (.tmp 8) (.const (.int .i64 1)) 3, none, false⟩, ⟨some 10, .call ⟨.value (.func 140), ⟨[.tmp 7, .const (.int .i64 0), .tmp 9]⟩, ⟨[3, 3, 3]⟩⟩, none, false⟩, ⟨some 0, .assign (.tmp 10), none, true⟩]
noncomputable def zn64_7 : ZC := ZC.reg [⟨some 11, .move (.tmp 0), none, false⟩, ⟨some 12, .move (.tmp 0), none, false⟩, ⟨some 13, .binOp .mul 3 (.const (.int .i64 2)) (.tmp 12) 3, none, false⟩, ⟨some 14, .binOp .add 3 (.tmp 13) (.const (.int .i64 1)) 3, none, false⟩, ⟨some 15, .binOp .mul 3 (.tmp 14) (.const (.int .i64 4096)) 3, none, false⟩, ⟨some 16, .move (.tmp 1), none, false⟩, ⟨some 17, .binOp .mul 3 (.const (.int .i64 2)) (.tmp 16) 3, none, false⟩, ⟨some 18, .binOp .quo 3 (.tmp 15) (.tmp 17) 3, none, false⟩, ⟨some 19, .build 34 ⟨[(0, .const (.int .i64 1)), (1, .tmp 11), (2, .tmp 18), (3, .const (.int .i64 2048))]⟩, none, false⟩, ⟨none, .store 34 (.tmp 4) (.tmp 19), none, true⟩]
noncomputable def zn64_6 : ZC := ZC.seq zn64_7 ZC.ret
noncomputable def zn64_4 : ZC := ZC.seq zn64_5 zn64_6
noncomputable def zn64_2 : ZC := ZC.seq zn64_3 zn64_4
noncomputable def zn64_0 : ZC := ZC.seq zn64_1 zn64_2
noncomputable def zc64 : ZC := zn64_0
theorem zc64_ok : zcode (xfOf Try.f64).code = some zc64 := by kernel_rfl
set_option linter.defProp false in
def zw64 := And.intro (zunf C zc64.eq_1) <| And.intro (zunf C zn64_1.eq_1) <| And.intro (zunf C zn64_3.eq_1) <| And.intro (zunf C zn64_5.eq_1) <| And.intro (zunf C zn64_7.eq_1) <| And.intro (zunf C zn64_6.eq_1) <| And.intro (zunf C zn64_4.eq_1) <| And.intro (zunf C zn64_2.eq_1) <| (zunf C zn64_0.eq_1)
theorem rs64 : (xfOf Try.f64).rs = [.cell 4 34] := by kernel_rfl
theorem xf64 : XFok C 64 (xfOf Try.f64) := ⟨Try.f64, by kernel_rfl, by kernel_rfl, by kernel_rfl, by kernel_rfl, by kernel_rfl, by kernel_rfl, by kernel_rfl⟩
noncomputable def zn69_1 : ZC := ZC.reg [⟨some 4, .alloc 36, none, true⟩]
noncomputable def zn69_3 : ZC := ZC.reg [⟨some 5, .move (.tmp 0), none, false⟩, ⟨some 6, .call ⟨.value (.func 37), ⟨[.tmp 5, .const (.int .i64 256)]⟩, ⟨[3, 3]⟩⟩, none, false⟩, ⟨some 7, .move (.tmp 1), none, false⟩, ⟨some 8, .call ⟨.value (.func 37), ⟨[.tmp 7, .const (.int .i64 129)]⟩, ⟨[3, 3]⟩⟩, none, false⟩, ⟨some 9, .binOp .sub 3 (.tmp 8) (.const (.int .i64 64)) 3, none, false⟩, ⟨some 10, .move (.tmp 1), none, false⟩, ⟨some 11, .binOp .quo 3 (.tmp 10) (.const (.int .i64 129)) 3, none, false⟩, ⟨some 12, .call ⟨.value (.func 37), ⟨[.tmp 11, .const (.int .i64 129)]⟩, ⟨[3, 3]⟩⟩, none, false⟩, ⟨some 13, .binOp .sub 3 (.tmp 12) (.const (.int .i64 64)) 3, none, false⟩, ⟨some 14, .build 36 ⟨[(0, .tmp 6), (1, .tmp 9), (2, .tmp 13)]⟩, none, false⟩, ⟨none, .store 36 (.tmp 4) (.tmp 14), none, true⟩]
noncomputable def zn69_2 : ZC := ZC.seq zn69_3 ZC.ret
noncomputable def zn69_0 : ZC := ZC.seq zn69_1 zn69_2
noncomputable def zc69 : ZC := zn69_0
theorem zc69_ok : zcode (xfOf Try.f69).code = some zc69 := by kernel_rfl
set_option linter.defProp false in
def zw69 := And.intro (zunf C zc69.eq_1) <| And.intro (zunf C zn69_1.eq_1) <| And.intro (zunf C zn69_3.eq_1) <| And.intro (zunf C zn69_2.eq_1) <| (zunf C zn69_0.eq_1)
theorem rs69 : (xfOf Try.f69).rs = [.cell 4 36] := by kernel_rfl
theorem xf69 : XFok C 69 (xfOf Try.f69) := ⟨Try.f69, by kernel_rfl, by kernel_rfl, by kernel_rfl, by kernel_rfl, by kernel_rfl, by kernel_rfl, by kernel_rfl⟩
noncomputable def zn21_1 : ZC := ZC.reg [⟨some 1, .box 31 (.tmp 0), none, false⟩, ⟨some 2, .alloc 29, none, true⟩]
noncomputable def zn21_3 : ZC := ZC.draw 13 [(11, .alloc 29)] [⟨0, some 4, .fieldAddr 31 (.tmp 1) 0, none, false, [], [], false⟩, ⟨1, some 5, .load 3 (.tmp 4), none, false, [], [], false⟩, ⟨2, some 6, .call ⟨.value (.func 37), ⟨[.tmp 5, .const (.int .i64 13)]⟩, ⟨[3, 3]⟩⟩, none, false, [], [], true⟩, ⟨3, some 7, .binOp .add 3 (.const (.int .i64 1)) (.tmp 6) 3, none, false, [], [], false⟩, ⟨4, some 8, .fieldAddr 31 (.tmp 1) 1, none, false, [2], [], false⟩, ⟨5, some 9, .load 3 (.tmp 8), none, false, [2], [], false⟩, ⟨6, some 10, .call ⟨.value (.func 37), ⟨[.tmp 9, .const (.int .i64 4)]⟩, ⟨[3, 3]⟩⟩, none, false, [], [], true⟩, ⟨7, some 11, .fieldAddr 31 (.tmp 1) 2, none, false, [2, 6], [], false⟩, ⟨8, some 12, .load 3 (.tmp 11), none, false, [2, 6], [], false⟩, ⟨9, some 13, .call ⟨.value (.func 37), ⟨[.tmp 12, .const (.int .i64 4)]⟩, ⟨[3, 3]⟩⟩, none, false, [], [], true⟩, ⟨10, some 14, .build 29 ⟨[(0, .tmp 7), (1, .tmp 10), (2, .tmp 13)]⟩, none, false, [], [], false⟩, ⟨11, some 3, .alloc 29, none, true, [2, 6, 9], [], false⟩, ⟨12, none, .store 29 (.tmp 3) (.tmp 14), none, true, [], [], false⟩]
noncomputable def zn21_6 : ZC := ZC.reg [⟨some 15, .fieldAddr 29 (.tmp 3) 0, none, false⟩, ⟨some 16, .load 3 (.tmp 15), none, true⟩]
noncomputable def zn21_9 : ZC := ZC.reg [⟨some 18, .binOp .eql 3 (.tmp 16) (.const (.int .i64 1)) 3, none, false⟩, ⟨some 17, .assign (.tmp 18), none, true⟩]
noncomputable def zn21_11 : ZC := ZC.reg [⟨some 19, .fieldAddr 31 (.tmp 1) 2, none, false⟩, ⟨some 20, .load 3 (.tmp 19), none, false⟩, ⟨some 21, .call ⟨.value (.func 37), ⟨[.tmp 20, .const (.int .i64 90)]⟩, ⟨[3, 3]⟩⟩, none, false⟩, ⟨some 22, .binOp .sub 3 (.tmp 21) (.const (.int .i64 30)) 3, none, false⟩, ⟨some 23, .fieldAddr 29 (.tmp 3) 2, none, false⟩, ⟨none, .store 3 (.tmp 23) (.tmp 22), none, true⟩]
noncomputable def zn21_13 : ZC := ZC.reg [⟨some 25, .binOp .eql 3 (.tmp 16) (.const (.int .i64 7)) 3, none, false⟩, ⟨some 24, .assign (.tmp 25), none, true⟩]
noncomputable def zn21_15 : ZC := ZC.reg [⟨some 26, .fieldAddr 31 (.tmp 1) 2, none, false⟩, ⟨some 27, .load 3 (.tmp 26), none, false⟩, ⟨some 28, .call ⟨.value (.func 37), ⟨[.tmp 27, .const (.int .i64 8)]⟩, ⟨[3, 3]⟩⟩, none, false⟩, ⟨some 29, .fieldAddr 29 (.tmp 3) 2, none, false⟩, ⟨none, .store 3 (.tmp 29) (.tmp 28), none, true⟩]
noncomputable def zn21_18 : ZC := ZC.reg [⟨some 31, .binOp .eql 3 (.tmp 16) (.const (.int .i64 9)) 3, none, false⟩, ⟨some 30, .assign (.tmp 31), none, true⟩]
noncomputable def zn21_20 : ZC := ZC.reg [⟨some 32, .binOp .eql 3 (.tmp 16) (.const (.int .i64 10)) 3, none, false⟩, ⟨some 30, .assign (.tmp 32), none, true⟩]
noncomputable def zn21_19 : ZC := ZC.cond (.tmp 30) ZC.skip zn21_20
noncomputable def zn21_17 : ZC := ZC.seq zn21_18 zn21_19
noncomputable def zn21_22 : ZC := ZC.reg [⟨some 33, .fieldAddr 31 (.tmp 1) 2, none, false⟩, ⟨some 34, .load 3 (.tmp 33), none, false⟩, ⟨some 35, .call ⟨.value (.func 37), ⟨[.tmp 34, .const (.int .i64 9)]⟩, ⟨[3, 3]⟩⟩, none, false⟩, ⟨some 36, .fieldAddr 29 (.tmp 3) 2, none, false⟩, ⟨none, .store 3 (.tmp 36) (.tmp 35), none, true⟩]
noncomputable def zn21_21 : ZC := ZC.cond (.tmp 30) zn21_22 ZC.skip
noncomputable def zn21_16 : ZC := ZC.seq zn21_17 zn21_21
noncomputable def zn21_14 : ZC := ZC.cond (.tmp 24) zn21_15 zn21_16
noncomputable def zn21_12 : ZC := ZC.seq zn21_13 zn21_14
noncomputable def zn21_10 : ZC := ZC.cond (.tmp 17) zn21_11 zn21_12
noncomputable def zn21_8 : ZC := ZC.seq zn21_9 zn21_10
noncomputable def zn21_7 : ZC := ZC.block 0 zn21_8
noncomputable def zn21_5 : ZC := ZC.seq zn21_6 zn21_7
noncomputable def zn21_25 : ZC := ZC.reg [⟨some 37, .fieldAddr 31 (.tmp 1) 0, none, false⟩, ⟨some 38, .load 3 (.tmp 37), none, false⟩, ⟨some 39, .call ⟨.value (.func 37), ⟨[.tmp 38, .const (.int .i64 101)]⟩, ⟨[3, 3]⟩⟩, none, true⟩]
noncomputable def zn21_28 : ZC := ZC.reg [⟨some 41, .binOp .eql 3 (.tmp 39) (.const (.int .i64 97)) 3, none, false⟩, ⟨some 40, .assign (.tmp 41), none, true⟩]
noncomputable def zn21_30 : ZC := ZC.reg [⟨some 42, .fieldAddr 31 (.tmp 1) 1, none, false⟩, ⟨some 43, .load 3 (.tmp 42), none, false⟩, ⟨some 44, .fieldAddr 29 (.tmp 3) 1, none, false⟩, ⟨none, .store 3 (.tmp 44) (.tmp 43), none, true⟩]
noncomputable def zn21_32 : ZC := ZC.reg [⟨some 46, .binOp .eql 3 (.tmp 39) (.const (.int .i64 98)) 3, none, false⟩, ⟨some 45, .assign (.tmp 46), none, true⟩]
noncomputable def zn21_34 : ZC := ZC.reg [⟨some 47, .fieldAddr 31 (.tmp 1) 2, none, false⟩, ⟨some 48, .load 3 (.tmp 47), none, false⟩, ⟨some 49, .fieldAddr 29 (.tmp 3) 2, none, false⟩, ⟨none, .store 3 (.tmp 49) (.tmp 48), none, true⟩]
noncomputable def zn21_36 : ZC := ZC.reg [⟨some 51, .binOp .eql 3 (.tmp 39) (.const (.int .i64 99)) 3, none, false⟩, ⟨some 50, .assign (.tmp 51), none, true⟩]
noncomputable def zn21_38 : ZC := ZC.reg [⟨some 52, .fieldAddr 31 (.tmp 1) 2, none, false⟩, ⟨some 53, .load 3 (.tmp 52), none, false⟩, ⟨some 54, .fieldAddr 29 (.tmp 3) 0, none, false⟩, ⟨none, .store 3 (.tmp 54) (.tmp 53), none, true⟩]
noncomputable def zn21_40 : ZC := ZC.reg [⟨some 56, .binOp .eql 3 (.tmp 39) (.const (.int .i64 100)) 3, none, false⟩, ⟨some 55, .assign (.tmp 56), none, true⟩]
noncomputable def zn21_42 : ZC := ZC.reg [⟨some 57, .fieldAddr 31 (.tmp 1) 1, none, false⟩, ⟨some 58, .load 3 (.tmp 57), none, false⟩, ⟨some 59, .call ⟨.value (.func 37), ⟨[.tmp 58, .const (.int .i64 9)]⟩, ⟨[3, 3]⟩⟩, none, false⟩, ⟨some 60, .fieldAddr 29 (.tmp 3) 1, none, false⟩, ⟨none, .store 3 (.tmp 60) (.tmp 59), none, true⟩]
noncomputable def zn21_41 : ZC := ZC.cond (.tmp 55) zn21_42 ZC.skip
noncomputable def zn21_39 : ZC := ZC.seq zn21_40 zn21_41
noncomputable def zn21_37 : ZC := ZC.cond (.tmp 50) zn21_38 zn21_39
noncomputable def zn21_35 : ZC := ZC.seq zn21_36 zn21_37
noncomputable def zn21_33 : ZC := ZC.cond (.tmp 45) zn21_34 zn21_35
noncomputable def zn21_31 : ZC := ZC.seq zn21_32 zn21_33
noncomputable def zn21_29 : ZC := ZC.cond (.tmp 40) zn21_30 zn21_31
noncomputable def zn21_27 : ZC := ZC.seq zn21_28 zn21_29
noncomputable def zn21_26 : ZC := ZC.block 1 zn21_27
noncomputable def zn21_24 : ZC := ZC.seq zn21_25 zn21_26
noncomputable def zn21_44 : ZC := ZC.reg [⟨some 61, .load 29 (.tmp 3), none, false⟩, ⟨none, .store 29 (.tmp 2) (.tmp 61), none, true⟩]
noncomputable def zn21_43 : ZC := ZC.seq zn21_44 ZC.ret
noncomputable def zn21_23 : ZC := ZC.seq zn21_24 zn21_43
noncomputable def zn21_4 : ZC := ZC.seq zn21_5 zn21_23
noncomputable def zn21_2 : ZC := ZC.seq zn21_3 zn21_4
noncomputable def zn21_0 : ZC := ZC.seq zn21_1 zn21_2
noncomputable def zc21 : ZC := zn21_0
theorem zc21_ok : zcode (xfOf Try.f21).code = some zc21 := by kernel_rfl
set_option linter.defProp false in
def zw21 := And.intro (zunf C zc21.eq_1) <| And.intro (zunf C zn21_1.eq_1) <| And.intro (zunf C zn21_3.eq_1) <| And.intro (zunf C zn21_6.eq_1) <| And.intro (zunf C zn21_9.eq_1) <| And.intro (zunf C zn21_11.eq_1) <| And.intro (zunf C zn21_13.eq_1) <| And.intro (zunf C zn21_15.eq_1) <| And.intro (zunf C zn21_18.eq_1) <| And.intro (zunf C zn21_20.eq_1) <| And.intro (zunf C zn21_19.eq_1) <| And.intro (zunf C zn21_17.eq_1) <| And.intro (zunf C zn21_22.eq_1) <| And.intro (zunf C zn21_21.eq_1) <| And.intro (zunf C zn21_16.eq_1) <| And.intro (zunf C zn21_14.eq_1) <| And.intro (zunf C zn21_12.eq_1) <| And.intro (zunf C zn21_10.eq_1) <| And.intro (zunf C zn21_8.eq_1) <| And.intro (zunf C zn21_7.eq_1) <| And.intro (zunf C zn21_5.eq_1) <| And.intro (zunf C zn21_25.eq_1) <| And.intro (zunf C zn21_28.eq_1) <| And.intro (zunf C zn21_30.eq_1) <| And.intro (zunf C zn21_32.eq_1) <| And.intro (zunf C zn21_34.eq_1) <| And.intro (zunf C zn21_36.eq_1) <| And.intro (zunf C zn21_38.eq_1) <| And.intro (zunf C zn21_40.eq_1) <| And.intro (zunf C zn21_42.eq_1) <| And.intro (zunf C zn21_41.eq_1) <| And.intro (zunf C zn21_39.eq_1) <| And.intro (zunf C zn21_37.eq_1) <| And.intro (zunf C zn21_35.eq_1) <| And.intro (zunf C zn21_33.eq_1) <| And.intro (zunf C zn21_31.eq_1) <| And.intro (zunf C zn21_29.eq_1) <| And.intro (zunf C zn21_27.eq_1) <| And.intro (zunf C zn21_26.eq_1) <| And.intro (zunf C zn21_24.eq_1) <| And.intro (zunf C zn21_44.eq_1) <| And.intro (zunf C zn21_43.eq_1) <| And.intro (zunf C zn21_23.eq_1) <| And.intro (zunf C zn21_4.eq_1) <| And.intro (zunf C zn21_2.eq_1) <| (zunf C zn21_0.eq_1)
theorem rs21 : (xfOf Try.f21).rs = [.cell 2 29] := by kernel_rfl
theorem xf21 : XFok C 21 (xfOf Try.f21) := ⟨Try.f21, by kernel_rfl, by kernel_rfl, by kernel_rfl, by kernel_rfl, by kernel_rfl, by kernel_rfl, by kernel_rfl⟩
noncomputable def zn26_1 : ZC := ZC.reg [⟨some 2, .box 39 (.tmp 0), none, false⟩, ⟨some 3, .box 39 (.tmp 1), none, false⟩, ⟨some 4, .assign (.const (.bool false)), none, true⟩]
noncomputable def zn26_4 : ZC := ZC.reg [⟨some 6, .fieldAddr 39 (.tmp 2) 0, none, false⟩, ⟨some 7, .load 34 (.tmp 6), none, false⟩, ⟨some 8, .fieldAddr 39 (.tmp 3) 0, none, false⟩, ⟨some 9, .load 34 (.tmp 8), none, false⟩, ⟨some 10, .binOp .neq 34 (.tmp 7) (.tmp 9) 34, none, false⟩, ⟨some 11, .move (.tmp 10), none, false⟩, ⟨some 12, .fieldAddr 39 (.tmp 2) 1, some (11, false), false⟩, ⟨some 13, .load 36 (.tmp 12), some (11, false), false⟩, ⟨some 14, .fieldAddr 39 (.tmp 3) 1, some (11, false), false⟩, ⟨some 15, .load 36 (.tmp 14), some (11, false), false⟩, ⟨some 16, .binOp .neq 36 (.tmp 13) (.tmp 15) 36, some (11, false), false⟩, ⟨some 17, .pick (.tmp 11) (.const (.bool true)) (.tmp 16), none, false⟩, ⟨some 18, .move (.tmp 17), none, false⟩, ⟨some 19, .fieldAddr 39 (.tmp 2) 2, some (18, false), false⟩, ⟨some 20, .load 25 (.tmp 19), some (18, false), false⟩, ⟨some 21, .fieldAddr 39 (.tmp 3) 2, some (18, false), false⟩, ⟨some 22, .load 25 (.tmp 21), some (18, false), false⟩, ⟨some 23, .binOp .neq 25 (.tmp 20) (.tmp 22) 25, some (18, false), false⟩, ⟨some 24, .pick (.tmp 18) (.const (.bool true)) (.tmp 23), none, false⟩, ⟨some 25, .move (.tmp 24), none, false⟩, ⟨some 26, .fieldAddr 39 (.tmp 2) 3, some (25, false), false⟩, ⟨some 27, .load 3 (.tmp 26), some (25, false), false⟩, ⟨some 28, .fieldAddr 39 (.tmp 3) 3, some (25, false), false⟩, ⟨some 29, .load 3 (.tmp 28), some (25, false), false⟩, ⟨some 30, .binOp .neq 3 (.tmp 27) (.tmp 29) 3, some (25, false), false⟩, ⟨some 31, .pick (.tmp 25) (.const (.bool true)) (.tmp 30), none, false⟩, ⟨some 32, .move (.tmp 31), none, false⟩, ⟨some 33, .fieldAddr 39 (.tmp 2) 4, some (32, false), false⟩, ⟨some 34, .load 37 (.tmp 33), some (32, false), false⟩, ⟨some 35, .call ⟨.builtin .len, ⟨[.tmp 34]⟩, ⟨[37]⟩⟩, some (32, false), false⟩, ⟨some 36, .fieldAddr 39 (.tmp 3) 4, some (32, false), false⟩, ⟨some 37, .load 37 (.tmp 36), some (32, false), false⟩, ⟨some 38, .call ⟨.builtin .len, ⟨[.tmp 37]⟩, ⟨[37]⟩⟩, some (32, false), false⟩, ⟨some 39, .binOp .neq 3 (.tmp 35) (.tmp 38) 3, some (32, false), false⟩, ⟨some 40, .pick (.tmp 32) (.const (.bool true)) (.tmp 39), none, true⟩]
noncomputable def zn26_7 : ZC := ZC.reg [⟨some 4, .assign (.const (.bool false)), none, true⟩]
noncomputable def zn26_6 : ZC := ZC.seq zn26_7 ZC.ret
noncomputable def zn26_5 : ZC := ZC.cond (.tmp 40) zn26_6 ZC.skip
noncomputable def zn26_3 : ZC := ZC.seq zn26_4 zn26_5
noncomputable def zn26_10 : ZC := ZC.reg [⟨some 41, .fieldAddr 39 (.tmp 2) 4, none, false⟩, ⟨some 42, .load 37 (.tmp 41), none, false⟩, ⟨some 43, .call ⟨.builtin .len, ⟨[.tmp 42]⟩, ⟨[37]⟩⟩, none, false⟩, ⟨some 44, .move (.const (.int .i64 0)), none, true⟩]
noncomputable def zn26_14 : ZC := ZC.reg [⟨some 45, .binOp .lss 3 (.tmp 44) (.tmp 43) 3, none, true⟩]
noncomputable def zn26_16 : ZC := ZC.cond (.tmp 45) ZC.skip (ZC.exit 0)
noncomputable def zn26_20 : ZC := ZC.reg [⟨some 46, .move (.tmp 44), none, false⟩, ⟨some 5, .assign (.tmp 46), none, true⟩]
noncomputable def zn26_22 : ZC := ZC.draw 11 [] [⟨0, some 47, .fieldAddr 39 (.tmp 2) 4, none, false, [], [], false⟩, ⟨1, some 48, .load 37 (.tmp 47), none, false, [], [], false⟩, ⟨2, some 49, .move (.tmp 5), none, false, [], [], false⟩, ⟨3, some 50, .indexAddr 37 (.tmp 48) (.tmp 49), none, false, [], [], false⟩, ⟨4, some 51, .load 34 (.tmp 50), none, false, [], [], false⟩, ⟨5, some 52, .fieldAddr 39 (.tmp 3) 4, none, false, [], [], false⟩, ⟨6, some 53, .load 37 (.tmp 52), none, false, [], [], false⟩, ⟨7, some 54, .move (.tmp 5), none, true, [], [], false⟩, ⟨8, some 55, .indexAddr 37 (.tmp 53) (.tmp 54), none, true, [], [], false⟩, ⟨9, some 56, .load 34 (.tmp 55), none, true, [], [], false⟩, ⟨10, some 57, .binOp .neq 34 (.tmp 51) (.tmp 56) 34, none, true, [], [], false⟩]
noncomputable def zn26_25 : ZC := ZC.reg [⟨some 4, .assign (.const (.bool false)), none, true⟩]
noncomputable def zn26_24 : ZC := ZC.seq zn26_25 ZC.ret
noncomputable def zn26_23 : ZC := ZC.cond (.tmp 57) zn26_24 ZC.skip
noncomputable def zn26_21 : ZC := ZC.seq zn26_22 zn26_23
noncomputable def zn26_19 : ZC := ZC.seq zn26_20 zn26_21
noncomputable def zn26_18 : ZC := ZC.block 1 zn26_19
noncomputable def zn26_26 : ZC := ZC.reg [⟨some 58, .binOp .add 3 (.tmp 44) (.const (.int .i64 1)) 3, none, false⟩, ⟨some 44, .move (.tmp 58), none, true⟩]
noncomputable def zn26_17 : ZC := ZC.seq zn26_18 zn26_26
noncomputable def zn26_15 : ZC := ZC.seq zn26_16 zn26_17
noncomputable def zn26_13 : ZC := ZC.seq zn26_14 zn26_15
noncomputable def zn26_12 : ZC := ZC.loop zn26_13
noncomputable def zn26_11 : ZC := ZC.block 0 zn26_12
noncomputable def zn26_9 : ZC := ZC.seq zn26_10 zn26_11
noncomputable def zn26_28 : ZC := ZC.reg [⟨some 4, .assign (.const (.bool true)), none, true⟩]
noncomputable def zn26_27 : ZC := ZC.seq zn26_28 ZC.ret
noncomputable def zn26_8 : ZC := ZC.seq zn26_9 zn26_27
noncomputable def zn26_2 : ZC := ZC.seq zn26_3 zn26_8
noncomputable def zn26_0 : ZC := ZC.seq zn26_1 zn26_2
noncomputable def zc26 : ZC := zn26_0
theorem zc26_ok : zcode (xfOf Try.f26).code = some zc26 := by kernel_rfl
set_option linter.defProp false in
def zw26 := And.intro (zunf C zc26.eq_1) <| And.intro (zunf C zn26_1.eq_1) <| And.intro (zunf C zn26_4.eq_1) <| And.intro (zunf C zn26_7.eq_1) <| And.intro (zunf C zn26_6.eq_1) <| And.intro (zunf C zn26_5.eq_1) <| And.intro (zunf C zn26_3.eq_1) <| And.intro (zunf C zn26_10.eq_1) <| And.intro (zunf C zn26_14.eq_1) <| And.intro (zunf C zn26_16.eq_1) <| And.intro (zunf C zn26_20.eq_1) <| And.intro (zunf C zn26_22.eq_1) <| And.intro (zunf C zn26_25.eq_1) <| And.intro (zunf C zn26_24.eq_1) <| And.intro (zunf C zn26_23.eq_1) <| And.intro (zunf C zn26_21.eq_1) <| And.intro (zunf C zn26_19.eq_1) <| And.intro (zunf C zn26_18.eq_1) <| And.intro (zunf C zn26_26.eq_1) <| And.intro (zunf C zn26_17.eq_1) <| And.intro (zunf C zn26_15.eq_1) <| And.intro (zunf C zn26_13.eq_1) <| And.intro (zunf C zn26_11.eq_1) <| And.intro (zunf C zn26_9.eq_1) <| And.intro (zunf C zn26_28.eq_1) <| And.intro (zunf C zn26_27.eq_1) <| And.intro (zunf C zn26_8.eq_1) <| And.intro (zunf C zn26_2.eq_1) <| (zunf C zn26_0.eq_1)
theorem rs26 : (xfOf Try.f26).rs = [.tmp 4] := by kernel_rfl
theorem xf26 : XFok C 26 (xfOf Try.f26) := ⟨Try.f26, by kernel_rfl, by kernel_rfl, by kernel_rfl, by kernel_rfl, by kernel_rfl, by kernel_rfl, by kernel_rfl⟩
noncomputable def zn29_1 : ZC := ZC.reg [⟨some 2, .assign (.const (.bool false)), none, true⟩]
noncomputable def zn29_3 : ZC := ZC.reg [⟨some 4, .move (.tmp 0), none, false⟩, ⟨some 5, .call ⟨.value (.func 82), ⟨[.tmp 4, .func 83]⟩, ⟨[23, 142]⟩⟩, none, false⟩, ⟨some 3, .assign (.tmp 5), none, true⟩]
noncomputable def zn29_5 : ZC := ZC.reg [⟨some 6, .move (.tmp 0), none, false⟩, ⟨some 7, .call ⟨.builtin .len, ⟨[.tmp 6]⟩, ⟨[23]⟩⟩, none, false⟩, ⟨some 8, .binOp .leq 3 (.tmp 7) (.const (.int .i64 16)) 3, none, false⟩, ⟨some 9, .move (.tmp 8), none, false⟩, ⟨some 10, .move (.tmp 3), some (9, true), false⟩, ⟨some 11, .unOp .not 4 (.tmp 10), some (9, true), false⟩, ⟨some 12, .pick (.tmp 9) (.tmp 11) (.const (.bool false)), none, false⟩, ⟨some 2, .assign (.tmp 12), none, true⟩]
noncomputable def zn29_4 : ZC := ZC.seq zn29_5 ZC.ret
noncomputable def zn29_2 : ZC := ZC.seq zn29_3 zn29_4
noncomputable def zn29_0 : ZC := ZC.seq zn29_1 zn29_2
noncomputable def zc29 : ZC := zn29_0
theorem zc29_ok : zcode (xfOf Try.f29).code = some zc29 := by kernel_rfl
set_option linter.defProp false in
def zw29 := And.intro (zunf C zc29.eq_1) <| And.intro (zunf C zn29_1.eq_1) <| And.intro (zunf C zn29_3.eq_1) <| And.intro (zunf C zn29_5.eq_1) <| And.intro (zunf C zn29_4.eq_1) <| And.intro (zunf C zn29_2.eq_1) <| (zunf C zn29_0.eq_1)
theorem rs29 : (xfOf Try.f29).rs = [.tmp 2] := by kernel_rfl
theorem xf29 : XFok C 29 (xfOf Try.f29) := ⟨Try.f29, by kernel_rfl, by kernel_rfl, by kernel_rfl, by kernel_rfl, by kernel_rfl, by kernel_rfl, by kernel_rfl⟩
noncomputable def zn30_1 : ZC := ZC.reg [⟨some 2, .assign (.const (.bool false)), none, true⟩]
noncomputable def zn30_4 : ZC := ZC.reg [⟨some 3, .assign (.const (.int .i64 0)), none, true⟩]
noncomputable def zn30_9 : ZC := ZC.reg [⟨some 4, .move (.tmp 3), none, false⟩, ⟨some 5, .move (.tmp 0), none, false⟩, ⟨some 6, .call ⟨.builtin .len, ⟨[.tmp 5]⟩, ⟨[23]⟩⟩, none, false⟩, ⟨some 7, .binOp .lss 3 (.tmp 4) (.tmp 6) 3, none, true⟩]
noncomputable def zn30_10 : ZC := ZC.cond (.tmp 7) ZC.skip (ZC.exit 0)
noncomputable def zn30_8 : ZC := ZC.seq zn30_9 zn30_10
noncomputable def zn30_14 : ZC := ZC.reg [⟨some 10, .move (.tmp 0), none, false⟩, ⟨some 11, .move (.tmp 3), none, false⟩, ⟨some 12, .indexAddr 23 (.tmp 10) (.tmp 11), none, false⟩, ⟨some 13, .fieldAddr 29 (.tmp 12) 0, none, false⟩, ⟨some 14, .load 3 (.tmp 13), none, false⟩, ⟨some 15, .call ⟨.value (.func 85), ⟨[.tmp 14, .const (.int .i64 1), .const (.int .i64 13)]⟩, ⟨[3, 3, 3]⟩⟩, none, false⟩, ⟨some 16, .unOp .not 4 (.tmp 15), none, false⟩, ⟨some 17, .move (.tmp 16), none, false⟩, ⟨some 18, .move (.tmp 0), some (17, false), false⟩, ⟨some 19, .move (.tmp 3), some (17, false), false⟩, ⟨some 20, .indexAddr 23 (.tmp 18) (.tmp 19), some (17, false), false⟩, ⟨some 21, .fieldAddr 29 (.tmp 20) 1, some (17, false), false⟩, ⟨some 22, .load 3 (.tmp 21), some (17, false), false⟩, ⟨some 23, .call ⟨.value (.func 85), ⟨[.tmp 22, .const (.int .i64 (-1000000)), .const (.int .i64 1000000)]⟩, ⟨[3, 3, 3]⟩⟩, some (17, false), false⟩, ⟨some 24, .unOp .not 4 (.tmp 23), some (17, false), false⟩, ⟨some 25, .pick (.tmp 17) (.const (.bool true)) (.tmp 24), none, false⟩, ⟨some 26, .move (.tmp 25), none, false⟩, ⟨some 27, .move (.tmp 0), some (26, false), false⟩, ⟨some 28, .move (.tmp 3), some (26, false), false⟩, ⟨some 29, .indexAddr 23 (.tmp 27) (.tmp 28), some (26, false), false⟩, ⟨some 30, .fieldAddr 29 (.tmp 29) 2, some (26, false), false⟩, ⟨some 31, .load 3 (.tmp 30), some (26, false), false⟩, ⟨some 32, .call ⟨.value (.func 85), ⟨[.tmp 31, .const (.int .i64 (-1000000)), .const (.int .i64 1000000)]⟩, ⟨[3, 3, 3]⟩⟩, some (26, false), false⟩, ⟨some 33, .unOp .not 4 (.tmp 32), some (26, false), false⟩, ⟨some 34, .pick (.tmp 26) (.const (.bool true)) (.tmp 33), none, true⟩]
noncomputable def zn30_17 : ZC := ZC.reg [⟨some 2, .assign (.const (.bool false)), none, true⟩]
noncomputable def zn30_16 : ZC := ZC.seq zn30_17 ZC.ret
noncomputable def zn30_15 : ZC := ZC.cond (.tmp 34) zn30_16 ZC.skip
noncomputable def zn30_13 : ZC := ZC.seq zn30_14 zn30_15
noncomputable def zn30_12 : ZC := ZC.block 1 zn30_13
noncomputable def zn30_18 : ZC := ZC.reg [⟨some 8, .move (.tmp 3), none, false⟩, ⟨some 9, .binOp .add 3 (.tmp 8) (.const (.int .i64 1)) 3, none, false⟩, ⟨some 3, .assign (.tmp 9), none, true⟩]
noncomputable def zn30_11 : ZC := ZC.seq zn30_12 zn30_18
noncomputable def zn30_7 : ZC := ZC.seq zn30_8 zn30_11
noncomputable def zn30_6 : ZC := ZC.loop zn30_7
noncomputable def zn30_5 : ZC := ZC.block 0 zn30_6
noncomputable def zn30_3 : ZC := ZC.seq zn30_4 zn30_5
noncomputable def zn30_20 : ZC := ZC.reg [⟨some 35, .move (.tmp 0), none, false⟩, ⟨some 36, .call ⟨.builtin .len, ⟨[.tmp 35]⟩, ⟨[23]⟩⟩, none, false⟩, ⟨some 37, .binOp .leq 3 (.tmp 36) (.const (.int .i64 16)) 3, none, false⟩, ⟨some 2, .assign (.tmp 37), none, true⟩]
noncomputable def zn30_19 : ZC := ZC.seq zn30_20 ZC.ret
noncomputable def zn30_2 : ZC := ZC.seq zn30_3 zn30_19
noncomputable def zn30_0 : ZC := ZC.seq zn30_1 zn30_2
noncomputable def zc30 : ZC := zn30_0
theorem zc30_ok : zcode (xfOf Try.f30).code = some zc30 := by kernel_rfl
set_option linter.defProp false in
def zw30 := And.intro (zunf C zc30.eq_1) <| And.intro (zunf C zn30_1.eq_1) <| And.intro (zunf C zn30_4.eq_1) <| And.intro (zunf C zn30_9.eq_1) <| And.intro (zunf C zn30_10.eq_1) <| And.intro (zunf C zn30_8.eq_1) <| And.intro (zunf C zn30_14.eq_1) <| And.intro (zunf C zn30_17.eq_1) <| And.intro (zunf C zn30_16.eq_1) <| And.intro (zunf C zn30_15.eq_1) <| And.intro (zunf C zn30_13.eq_1) <| And.intro (zunf C zn30_12.eq_1) <| And.intro (zunf C zn30_18.eq_1) <| And.intro (zunf C zn30_11.eq_1) <| And.intro (zunf C zn30_7.eq_1) <| And.intro (zunf C zn30_5.eq_1) <| And.intro (zunf C zn30_3.eq_1) <| And.intro (zunf C zn30_20.eq_1) <| And.intro (zunf C zn30_19.eq_1) <| And.intro (zunf C zn30_2.eq_1) <| (zunf C zn30_0.eq_1)
theorem rs30 : (xfOf Try.f30).rs = [.tmp 2] := by kernel_rfl
theorem xf30 : XFok C 30 (xfOf Try.f30) := ⟨Try.f30, by kernel_rfl, by kernel_rfl, by kernel_rfl, by kernel_rfl, by kernel_rfl, by kernel_rfl, by kernel_rfl⟩
noncomputable def zn82_1 : ZC := ZC.reg [⟨some 4, .assign (.const (.bool false)), none, true⟩]
noncomputable def zn82_3 : ZC := ZC.reg [⟨some 5, .move (.tmp 0), none, false⟩, ⟨some 6, .move (.tmp 1), none, false⟩, ⟨some 7, .call ⟨.value (.func 155), ⟨[.tmp 5, .tmp 6]⟩, ⟨[23, 142]⟩⟩, none, false⟩, ⟨some 8, .binOp .geq 3 (.tmp 7) (.const (.int .i64 0)) 3, none, false⟩, ⟨some 4, .assign (.tmp 8), none, true⟩]
noncomputable def zn82_2 : ZC := ZC.seq zn82_3 ZC.ret
noncomputable def zn82_0 : ZC := ZC.seq zn82_1 zn82_2
noncomputable def zc82 : ZC := zn82_0
theorem zc82_ok : zcode (xfOf Try.f82).code = some zc82 := by kernel_rfl
set_option linter.defProp false in
def zw82 := And.intro (zunf C zc82.eq_1) <| And.intro (zunf C zn82_1.eq_1) <| And.intro (zunf C zn82_3.eq_1) <| And.intro (zunf C zn82_2.eq_1) <| (zunf C zn82_0.eq_1)
theorem rs82 : (xfOf Try.f82).rs = [.tmp 4] := by kernel_rfl
theorem xf82 : XFok C 82 (xfOf Try.f82) := ⟨Try.f82, by kernel_rfl, by kernel_rfl, by kernel_rfl, by kernel_rfl, by kernel_rfl, by kernel_rfl, by kernel_rfl⟩
noncomputable def zn83_1 : ZC := ZC.reg [⟨some 1, .box 29 (.tmp 0), none, false⟩, ⟨some 2, .assign (.const (.bool false)), none, true⟩]
noncomputable def zn83_3 : ZC := ZC.reg [⟨some 3, .fieldAddr 29 (.tmp 1) 0, none, false⟩, ⟨some 4, .load 3 (.tmp 3), none, false⟩, ⟨some 5, .call ⟨.value (.func 84), ⟨[.tmp 4, .const (.int .i64 1), .const (.int .i64 13)]⟩, ⟨[3, 3, 3]⟩⟩, none, false⟩, ⟨some 6, .unOp .not 4 (.tmp 5), none, false⟩, ⟨some 7, .move (.tmp 6), none, false⟩, ⟨some 8, .fieldAddr 29 (.tmp 1) 1, some (7, false), false⟩, ⟨some 9, .load 3 (.tmp 8), some (7, false), false⟩, ⟨some 10, .call ⟨.value (.func 84), ⟨[.tmp 9, .const (.int .i64 (-1000000)), .const (.int .i64 1000000)]⟩, ⟨[3, 3, 3]⟩⟩, some (7, false), false⟩, ⟨some 11, .unOp .not 4 (.tmp 10), some (7, false), false⟩, ⟨some 12, .pick (.tmp 7) (.const (.bool true)) (.tmp 11), none, false⟩, ⟨some 13, .move (.tmp 12), none, false⟩, ⟨some 14, .fieldAddr 29 (.tmp 1) 2, some (13, false), false⟩, ⟨some 15, .load 3 (.tmp 14), some (13, false), false⟩, ⟨some 16, .call ⟨.value (.func 84), ⟨[.tmp 15, .const (.int .i64 (-1000000)), .const (.int .i64 1000000)]⟩, ⟨[3, 3, 3]⟩⟩, some (13, false), false⟩, ⟨some 17, .unOp .not 4 (.tmp 16), some (13, false), false⟩, ⟨some 18, .pick (.tmp 13) (.const (.bool true)) (.tmp 17), none, false⟩, ⟨some 2, .assign (.tmp 18), none, true⟩]
noncomputable def zn83_2 : ZC := ZC.seq zn83_3 ZC.ret
noncomputable def zn83_0 : ZC := ZC.seq zn83_1 zn83_2
noncomputable def zc83 : ZC := zn83_0
theorem zc83_ok : zcode (xfOf Try.f83).code = some zc83 := by kernel_rfl
set_option linter.defProp false in
def zw83 := And.intro (zunf C zc83.eq_1) <| And.intro (zunf C zn83_1.eq_1) <| And.intro (zunf C zn83_3.eq_1) <| And.intro (zunf C zn83_2.eq_1) <| (zunf C zn83_0.eq_1)
theorem rs83 : (xfOf Try.f83).rs = [.tmp 2] := by kernel_rfl
theorem xf83 : XFok C 83 (xfOf Try.f83) := ⟨Try.f83, by kernel_rfl, by kernel_rfl, by kernel_rfl, by kernel_rfl, by kernel_rfl, by kernel_rfl, by kernel_rfl⟩
noncomputable def zn155_1 : ZC := ZC.reg [⟨some 4, .assign (.const (.int .i64 0)), none, true⟩]
noncomputable def zn155_4 : ZC := ZC.reg [⟨some 6, .move (.tmp 0), none, false⟩, ⟨some 7, .call ⟨.builtin .len, ⟨[.tmp 6]⟩, ⟨[23]⟩⟩, none, false⟩, ⟨some 8, .move (.const (.int .i64 0)), none, true⟩]
noncomputable def zn155_8 : ZC := ZC.reg [⟨some 9, .binOp .lss 3 (.tmp 8) (.tmp 7) 3, none, true⟩]
noncomputable def zn155_10 : ZC := ZC.cond (.tmp 9) ZC.skip (ZC.exit 0)
noncomputable def zn155_14 : ZC := ZC.reg [⟨some 10, .move (.tmp 8), none, false⟩, ⟨some 5, .assign (.tmp 10), none, true⟩]
noncomputable def zn155_16 : ZC := ZC.reg [⟨some 11, .move (.tmp 1), none, false⟩, ⟨some 12, .move (.tmp 0), none, false⟩, ⟨some 13, .move (.tmp 5), none, false⟩, ⟨some 14, .indexAddr 23 (.tmp 12) (.tmp 13), none, false⟩, ⟨some 15, .load 29 (.tmp 14), none, false⟩, ⟨some 16, .call ⟨.value (.tmp 11), ⟨[.tmp 15]⟩, ⟨[29]⟩⟩, none, true⟩]
noncomputable def zn155_19 : ZC := ZC.reg [⟨some 17, .move (.tmp 5), none, false⟩, ⟨some 4, .assign (.tmp 17), none, true⟩]
noncomputable def zn155_18 : ZC := ZC.seq zn155_19 ZC.ret
noncomputable def zn155_17 : ZC := ZC.cond (.tmp 16) zn155_18 ZC.skip
noncomputable def zn155_15 : ZC := ZC.seq zn155_16 zn155_17
noncomputable def zn155_13 : ZC := ZC.seq zn155_14 zn155_15
noncomputable def zn155_12 : ZC := ZC.block 1 zn155_13
noncomputable def zn155_20 : ZC := ZC.reg [⟨some 18, .binOp .add 3 (.tmp 8) (.const (.int .i64 1)) 3, none, false⟩, ⟨some 8, .move (.tmp 18), none, true⟩]
noncomputable def zn155_11 : ZC := ZC.seq zn155_12 zn155_20
noncomputable def zn155_9 : ZC := ZC.seq zn155_10 zn155_11
noncomputable def zn155_7 : ZC := ZC.seq zn155_8 zn155_9
noncomputable def zn155_6 : ZC := ZC.loop zn155_7
noncomputable def zn155_5 : ZC := ZC.block 0 zn155_6
noncomputable def zn155_3 : ZC := ZC.seq zn155_4 zn155_5
noncomputable def zn155_22 : ZC := ZC.reg [⟨some 4, .assign (.const (.int .i64 (-1))), none, true⟩]
noncomputable def zn155_21 : ZC := ZC.seq zn155_22 ZC.ret
noncomputable def zn155_2 : ZC := ZC.seq zn155_3 zn155_21
noncomputable def zn155_0 : ZC := ZC.seq zn155_1 zn155_2
noncomputable def zc155 : ZC := zn155_0
theorem zc155_ok : zcode (xfOf Try.f155).code = some zc155 := by kernel_rfl
set_option linter.defProp false in
def zw155 := And.intro (zunf C zc155.eq_1) <| And.intro (zunf C zn155_1.eq_1) <| And.intro (zunf C zn155_4.eq_1) <| And.intro (zunf C zn155_8.eq_1) <| And.intro (zunf C zn155_10.eq_1) <| And.intro (zunf C zn155_14.eq_1) <| And.intro (zunf C zn155_16.eq_1) <| And.intro (zunf C zn155_19.eq_1) <| And.intro (zunf C zn155_18.eq_1) <| And.intro (zunf C zn155_17.eq_1) <| And.intro (zunf C zn155_15.eq_1) <| And.intro (zunf C zn155_13.eq_1) <| And.intro (zunf C zn155_12.eq_1) <| And.intro (zunf C zn155_20.eq_1) <| And.intro (zunf C zn155_11.eq_1) <| And.intro (zunf C zn155_9.eq_1) <| And.intro (zunf C zn155_7.eq_1) <| And.intro (zunf C zn155_5.eq_1) <| And.intro (zunf C zn155_3.eq_1) <| And.intro (zunf C zn155_22.eq_1) <| And.intro (zunf C zn155_21.eq_1) <| And.intro (zunf C zn155_2.eq_1) <| (zunf C zn155_0.eq_1)
theorem rs155 : (xfOf Try.f155).rs = [.tmp 4] := by kernel_rfl
theorem xf155 : XFok C 155 (xfOf Try.f155) := ⟨Try.f155, by kernel_rfl, by kernel_rfl, by kernel_rfl, by kernel_rfl, by kernel_rfl, by kernel_rfl, by kernel_rfl⟩
noncomputable def zn5_1 : ZC := ZC.reg [⟨some 3, .box 27 (.tmp 1), none, false⟩, ⟨some 4, .assign (.const (.bool false)), none, true⟩]
noncomputable def zn5_3 : ZC := ZC.reg [⟨some 5, .assign (.const (.slice none 0 0)), none, true⟩]
noncomputable def zn5_6 : ZC := ZC.reg [⟨some 6, .assign (.const (.int .i64 0)), none, true⟩]
noncomputable def zn5_11 : ZC := ZC.reg [⟨some 15, .move (.tmp 6), none, false⟩, ⟨some 16, .move (.tmp 0), none, false⟩, ⟨some 17, .call ⟨.builtin .len, ⟨[.tmp 16]⟩, ⟨[22]⟩⟩, none, false⟩, ⟨some 18, .binOp .lss 3 (.tmp 15) (.tmp 17) 3, none, false⟩, ⟨some 19, .move (.tmp 18), none, false⟩, ⟨some 20, .move (.tmp 6), some (19, true), false⟩, ⟨some 21, .binOp .lss 3 (.tmp 20) (.const (.int .i64 20)) 3, some (19, true), false⟩, ⟨some 22, .pick (.tmp 19) (.tmp 21) (.const (.bool false)), none, true⟩]
noncomputable def zn5_12 : ZC := ZC.cond (.tmp 22) ZC.skip (ZC.exit 0)
noncomputable def zn5_10 : ZC := ZC.seq zn5_11 zn5_12
noncomputable def zn5_15 : ZC := ZC.reg [⟨some 25, .move (.tmp 5), none, false⟩, ⟨some 26, .move (.tmp 0), none, false⟩, ⟨some 27, .move (.tmp 6), none, false⟩, ⟨some 28, .indexAddr 22 (.tmp 26) (.tmp 27), none, false⟩, ⟨some 29, .load 31 (.tmp 28), none, false⟩, ⟨some 30, .call ⟨.value (.func 21), ⟨[.tmp 29]⟩, ⟨[31]⟩⟩, none, false⟩, ⟨some 31, .buildSlice 23 1 ⟨[(0, .tmp 30)]⟩, none, false⟩, ⟨some 32, .call ⟨.builtin .append, ⟨[.tmp 25, .tmp 31]⟩, ⟨[23, 23]⟩⟩, none, false⟩, ⟨some 5, .assign (.tmp 32), none, true⟩]
noncomputable def zn5_14 : ZC := ZC.block 1 zn5_15
noncomputable def zn5_16 : ZC := ZC.reg [⟨some 23, .move (.tmp 6), none, false⟩, ⟨some 24, .binOp .add 3 (.tmp 23) (.const (.int .i64 1)) 3, none, false⟩, ⟨some 6, .assign (.tmp 24), none, true⟩]
noncomputable def zn5_13 : ZC := ZC.seq zn5_14 zn5_16
noncomputable def zn5_9 : ZC := ZC.seq zn5_10 zn5_13
noncomputable def zn5_8 : ZC := ZC.loop zn5_9
noncomputable def zn5_7 : ZC := ZC.block 0 zn5_8
noncomputable def zn5_5 : ZC := ZC.seq zn5_6 zn5_7
noncomputable def zn5_18 : ZC := ZC.reg [⟨some 33, .load 27 (.tmp 3), none, false⟩, ⟨some 34, .call ⟨.value (.func 22), ⟨[.tmp 33]⟩, ⟨[27]⟩⟩, none, false⟩, ⟨some 7, .alloc 39, none, false⟩, ⟨none, .store 39 (.tmp 7) (.tmp 34), none, true⟩]
noncomputable def zn5_20 : ZC := ZC.reg [⟨some 36, .move (.tmp 5), none, false⟩, ⟨some 37, .load 39 (.tmp 7), none, false⟩, ⟨some 38, .call ⟨.value (.func 25), ⟨[.tmp 36, .tmp 37]⟩, ⟨[23, 39]⟩⟩, none, false⟩, ⟨some 35, .move (.tmp 38), none, false⟩, ⟨some 39, .extract (.tmp 35) 0, none, false⟩, ⟨some 40, .extract (.tmp 35) 1, none, false⟩, ⟨some 41, .extract (.tmp 35) 2, none, false⟩, ⟨some 8, .alloc 39, none, false⟩, ⟨some 9, .alloc 44, none, false⟩, ⟨none, .store 39 (.tmp 8) (.tmp 39), none, false⟩, ⟨none, .store 44 (.tmp 9) (.tmp 40), none, false⟩, ⟨some 10, .assign (.tmp 41), none, true⟩]
noncomputable def zn5_22 : ZC := ZC.reg [⟨some 43, .move (.tmp 5), none, false⟩, ⟨some 44, .fieldAddr 39 (.tmp 7) 0, none, false⟩, ⟨some 45, .load 34 (.tmp 44), none, false⟩, ⟨some 46, .fieldAddr 39 (.tmp 7) 1, none, false⟩, ⟨some 47, .load 36 (.tmp 46), none, false⟩, ⟨some 48, .fieldAddr 39 (.tmp 7) 2, none, false⟩, ⟨some 49, .load 25 (.tmp 48), none, false⟩, ⟨some 50, .fieldAddr 39 (.tmp 7) 3, none, false⟩, ⟨some 51, .load 3 (.tmp 50), none, false⟩, ⟨some 52, .build 51 ⟨[(0, .tmp 45), (1, .tmp 47), (2, .tmp 49), (3, .tmp 51)]⟩, none, false⟩, ⟨some 53, .call ⟨.value (.func 28), ⟨[.tmp 43, .tmp 52]⟩, ⟨[23, 51]⟩⟩, none, false⟩, ⟨some 42, .move (.tmp 53), none, false⟩, ⟨some 54, .extract (.tmp 42) 0, none, false⟩, ⟨some 55, .extract (.tmp 42) 1, none, false⟩, ⟨some 56, .extract (.tmp 42) 2, none, false⟩, ⟨some 57, .extract (.tmp 42) 3, none, false⟩, ⟨some 11, .alloc 51, none, false⟩, ⟨none, .store 51 (.tmp 11) (.tmp 54), none, false⟩, ⟨some 12, .assign (.tmp 55), none, false⟩, ⟨some 13, .assign (.tmp 56), none, false⟩, ⟨some 14, .assign (.tmp 57), none, true⟩]
noncomputable def zn5_24 : ZC := ZC.reg [⟨some 58, .call ⟨.value (.func 23), ⟨[]⟩, ⟨[]⟩⟩, none, false⟩, ⟨some 59, .move (.tmp 58), none, false⟩, ⟨some 60, .move (.tmp 10), some (59, true), false⟩, ⟨some 61, .move (.tmp 14), some (59, true), false⟩, ⟨some 62, .binOp .eql 4 (.tmp 60) (.tmp 61) 4, some (59, true), false⟩, ⟨some 63, .pick (.tmp 59) (.tmp 62) (.const (.bool false)), none, false⟩, ⟨some 64, .move (.tmp 63), none, false⟩, ⟨some 65, .fieldAddr 44 (.tmp 9) 0, some (64, true), false⟩, ⟨some 66, .load 3 (.tmp 65), some (64, true), false⟩, ⟨some 67, .move (.tmp 12), some (64, true), false⟩, ⟨some 68, .binOp .eql 3 (.tmp 66) (.tmp 67) 3, some (64, true), false⟩, ⟨some 69, .pick (.tmp 64) (.tmp 68) (.const (.bool false)), none, false⟩, ⟨some 70, .move (.tmp 69), none, false⟩, ⟨some 71, .fieldAddr 44 (.tmp 9) 1, some (70, true), false⟩, ⟨some 72, .load 3 (.tmp 71), some (70, true), false⟩, ⟨some 73, .move (.tmp 13), some (70, true), false⟩, ⟨some 74, .binOp .eql 3 (.tmp 72) (.tmp 73) 3, some (70, true), false⟩, ⟨some 75, .pick (.tmp 70) (.tmp 74) (.const (.bool false)), none, false⟩, ⟨some 76, .move (.tmp 75), none, false⟩, ⟨some 77, .load 39 (.tmp 8), some (76, true), false⟩, ⟨some 78, .fieldAddr 51 (.tmp 11) 0, some (76, true), false⟩, ⟨some 79, .load 34 (.tmp 78), some (76, true), false⟩, ⟨some 80, .fieldAddr 51 (.tmp 11) 1, some (76, true), false⟩, ⟨some 81, .load 36 (.tmp 80), some (76, true), false⟩, ⟨some 82, .fieldAddr 51 (.tmp 11) 2, some (76, true), false⟩, ⟨some 83, .load 25 (.tmp 82), some (76, true), false⟩, ⟨some 84, .fieldAddr 51 (.tmp 11) 3, some (76, true), false⟩, ⟨some 85, .load 3 (.tmp 84), some (76, true), false⟩, ⟨some 86, .fieldAddr 51 (.tmp 11) 4, some (76, true), false⟩, ⟨some 87, .load 37 (.tmp 86), some (76, true), false⟩, ⟨some 88, .build 39 ⟨[(0, .tmp 79), (1, .tmp 81), (2, .tmp 83), (3, .tmp 85), (4, .tmp 87)]⟩, some (76, true), false⟩, ⟨some 89, .call ⟨.value (.func 26), ⟨[.tmp 77, .tmp 88]⟩, ⟨[39, 39]⟩⟩, some (76, true), false⟩, ⟨some 90, .pick (.tmp 76) (.tmp 89) (.const (.bool false)), none, false⟩, ⟨some 91, .move (.tmp 90), none, false⟩, ⟨some 92, .move (.tmp 5), some (91, true), false⟩, ⟨some 93, .call ⟨.value (.func 29), ⟨[.tmp 92]⟩, ⟨[23]⟩⟩, some (91, true), false⟩, ⟨some 94, .move (.tmp 5), some (91, true), false⟩, ⟨some 95, .call ⟨.value (.func 30), ⟨[.tmp 94]⟩, ⟨[23]⟩⟩, some (91, true), false⟩, ⟨some 96, .binOp .eql 4 (.tmp 93) (.tmp 95) 4, some (91, true), false⟩, ⟨some 97, .pick (.tmp 91) (.tmp 96) (.const (.bool false)), none, false⟩, ⟨some 4, .assign (.tmp 97), none, true⟩]
noncomputable def zn5_23 : ZC := ZC.seq zn5_24 ZC.ret
noncomputable def zn5_21 : ZC := ZC.seq zn5_22 zn5_23
noncomputable def zn5_19 : ZC := ZC.seq zn5_20 zn5_21
noncomputable def zn5_17 : ZC := ZC.seq zn5_18 zn5_19
noncomputable def zn5_4 : ZC := ZC.seq zn5_5 zn5_17
noncomputable def zn5_2 : ZC := ZC.seq zn5_3 zn5_4
noncomputable def zn5_0 : ZC := ZC.seq zn5_1 zn5_2
noncomputable def zc5 : ZC := zn5_0
theorem zc5_ok : zcode (xfOf Try.f5).code = some zc5 := by kernel_rfl
set_option linter.defProp false in
def zw5 := And.intro (zunf C zc5.eq_1) <| And.intro (zunf C zn5_1.eq_1) <| And.intro (zunf C zn5_3.eq_1) <| And.intro (zunf C zn5_6.eq_1) <| And.intro (zunf C zn5_11.eq_1) <| And.intro (zunf C zn5_12.eq_1) <| And.intro (zunf C zn5_10.eq_1) <| And.intro (zunf C zn5_15.eq_1) <| And.intro (zunf C zn5_14.eq_1) <| And.intro (zunf C zn5_16.eq_1) <| And.intro (zunf C zn5_13.eq_1) <| And.intro (zunf C zn5_9.eq_1) <| And.intro (zunf C zn5_7.eq_1) <| And.intro (zunf C zn5_5.eq_1) <| And.intro (zunf C zn5_18.eq_1) <| And.intro (zunf C zn5_20.eq_1) <| And.intro (zunf C zn5_22.eq_1) <| And.intro (zunf C zn5_24.eq_1) <| And.intro (zunf C zn5_23.eq_1) <| And.intro (zunf C zn5_21.eq_1) <| And.intro (zunf C zn5_19.eq_1) <| And.intro (zunf C zn5_17.eq_1) <| And.intro (zunf C zn5_4.eq_1) <| And.intro (zunf C zn5_2.eq_1) <| (zunf C zn5_0.eq_1)
theorem rs5 : (xfOf Try.f5).rs = [.tmp 4] := by kernel_rfl
theorem xf5 : XFok C 5 (xfOf Try.f5) := ⟨Try.f5, by kernel_rfl, by kernel_rfl, by kernel_rfl, by kernel_rfl, by kernel_rfl, by kernel_rfl, by kernel_rfl⟩
end Go.Proofs.Ytpchcfkebljopaa
end
