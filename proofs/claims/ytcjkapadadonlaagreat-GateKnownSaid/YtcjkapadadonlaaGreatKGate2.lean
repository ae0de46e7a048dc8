/- GateKnown: parts of its run. Printed by tools/xcut.py. -/
import Derived.Test.YtcjkapadadonlaaGreatKGate1
set_option linter.unusedSimpArgs false
set_option linter.unusedVariables false
namespace Go.Proofs.YtcjkapadadonlaaGreat
open Go.Cl Go Go.ChangeShapes Go.WideShapes Go.ChangeAt Go.RowKit
set_option maxRecDepth 1000000
-- A call of doubletake/doubletakeref15.Lay: what it is handed, what it leaves.
noncomputable def a8 : List CV := [.n_ .i64 7, .agg [.n_ .i64 5, .n_ .i64 0, .n_ .i64 5, .n_ .i64 0, .b_ false, .n_ .u64 0, .n_ .i64 0, .n_ .i64 0, .lst .nil [], .n_ .i64 0, .lst .nil [], .n_ .i64 0, .n_ .i64 0]]
noncomputable def o23 : XObj := (v_ (.n [.s, .n [.s, .s, .s, .s, .s, .s]]) (.agg [.lst (.own 14) [.ptr 9 [], .ptr 13 []], .agg (ints .i64 [1, 1, 2, 1, 0, 1])]))
noncomputable def o24 : XObj := (v_ (.n [.s, .s, .s, .s]) (.agg [.f_ .f64 0, .f_ .f64 4613937818241073152, .f_ .f64 4607182418800017408, .n_ .i64 0]))
noncomputable def o25 : XObj := (v_ (.n [.s, .s, .s, .s, .s, .s, .s, .s, .s, .s, .s, .s, .s, .s, .s, .s, .s]) (.agg (ints .u8 [160, 0, 20, 0, 0, 0, 0, 0, 0, 0, 0, 0, 0, 59, 13, 211, 109])))
noncomputable def p8 : List (Nat × XObj) := [(6, o23), (7, o24), (8, o20), (9, o21), (11, o1), (12, o2), (13, o4), (14, .tail 2), (5212, o11), (5229, o8), (5339, o12), (5356, o8), (5466, o13), (5614, o8), (5724, o15), (10650, o8), (10760, o17), (15703, o22), (15813, o17), (20770, o8)]
noncomputable def v8 : CV := .tup [.slc 20880 [] 0 17, .b_ true]
noncomputable def q8 : List (Nat × XObj) := [(6, o23), (7, o24), (8, o20), (9, o21), (11, o1), (12, o2), (13, o4), (14, .tail 2), (5212, o11), (5229, o8), (5339, o12), (5356, o8), (5466, o13), (5614, o8), (5724, o15), (10650, o8), (10760, o17), (15703, o22), (15813, o17), (20770, o8), (20880, o25)]
theorem k8 : Is C 12 a8 20771 p8 (resOf true v8 20881 q8) := is_of C xp_ok xp_name (fuel := 100000) (noCall_ok C) (by kernel_rfl)
-- A call of doubletake/packet.Open: what it is handed, what it leaves.
noncomputable def a9 : List CV := [.n_ .i64 7, .slc 20880 [] 0 17]
noncomputable def p9 : List (Nat × XObj) := [(6, o23), (7, o24), (8, o20), (9, o21), (11, o1), (12, o2), (13, o4), (14, .tail 2), (5212, o11), (5229, o8), (5339, o12), (5356, o8), (5466, o13), (5614, o8), (5724, o15), (10650, o8), (10760, o17), (15703, o22), (15813, o17), (20770, o8), (20880, o25), (20881, o8), (20882, o8), (20883, o8)]
noncomputable def v9 : CV := .tup [.agg [.n_ .i64 5, .n_ .i64 0, .n_ .i64 5, .n_ .i64 0, .b_ false, .n_ .u64 0, .n_ .i64 0, .n_ .i64 0, .lst .nil [], .n_ .i64 0, .lst .nil [], .n_ .i64 0, .n_ .i64 0], .n_ .i64 0]
noncomputable def q9 : List (Nat × XObj) := [(6, o23), (7, o24), (8, o20), (9, o21), (11, o1), (12, o2), (13, o4), (14, .tail 2), (5212, o11), (5229, o8), (5339, o12), (5356, o8), (5466, o13), (5614, o8), (5724, o15), (10650, o8), (10760, o17), (15703, o22), (15813, o17), (20770, o8), (20880, o25), (20881, o8), (20882, o8), (20883, o8)]
theorem k9 : Is C 143 a9 20884 p9 (resOf true v9 25792 q9) := is_of C xp_ok xp_name (fuel := 100000) (noCall_ok C) (by kernel_rfl)
-- A call of doubletake/doubletakelaw17.hello: what it is handed, what it leaves.
noncomputable def a10 : List CV := (ints .i64 [0, 6, 7])
noncomputable def o26 : XObj := (v_ (.n [.s, .n [.s, .s, .s, .s, .s, .s]]) (.agg [.lst (.own 14) [.ptr 9 [], .ptr 13 []], .agg (ints .i64 [2, 1, 2, 1, 0, 1])]))
noncomputable def o27 : XObj := (v_ (.n [.s, .s, .s, .s]) (.agg [.f_ .f64 0, .f_ .f64 4613937818241073152, .f_ .f64 0, .n_ .i64 0]))
noncomputable def o28 : XObj := (v_ (.n [.s, .s, .n [.s, .s, .s], .n [.s, .s, .s]]) (.agg [.n_ .i64 0, .lst .nil [], .agg [.b_ true, .n_ .i64 5, .n_ .u64 1], .agg [.n_ .i64 0, .f_ .f64 0, .f_ .f64 0]]))
noncomputable def o29 : XObj := (v_ (.n [.s, .s, .s, .s, .s]) (.agg [.n_ .i64 7, .ptr 8 [], .ptr 7 [], .b_ false, .n_ .i64 3]))
noncomputable def o30 : XObj := (v_ (.n [.s, .s, .s, .s, .s, .s, .s, .s, .s, .s, .s, .s, .s]) (.agg [.n_ .i64 5, .n_ .i64 0, .n_ .i64 5, .n_ .i64 0, .b_ false, .n_ .u64 0, .n_ .i64 0, .n_ .i64 0, .lst .nil [], .n_ .i64 0, .lst .nil [], .n_ .i64 0, .n_ .i64 0]))
noncomputable def o31 : XObj := (v_ (.n [.s, .s, .s, .s, .s, .s, .s, .s, .s, .s, .s, .s, .s, .s, .s, .s, .s]) (.agg (ints .u8 [32, 0, 24, 0, 0, 0, 0, 0, 0, 0, 0, 0, 0, 28, 142, 172, 24])))
noncomputable def p10 : List (Nat × XObj) := [(6, o26), (7, o27), (8, o28), (9, o29), (11, o1), (12, o2), (13, o4), (14, .tail 2), (5212, o11), (5229, o8), (5339, o12), (5356, o8), (5466, o13), (5614, o8), (5724, o15), (10650, o8), (10760, o17), (15703, o22), (15813, o17), (20770, o8), (20880, o25), (25836, o30)]
noncomputable def v10 : CV := .slc 25946 [] 0 17
noncomputable def q10 : List (Nat × XObj) := [(6, o26), (7, o27), (8, o28), (9, o29), (11, o1), (12, o2), (13, o4), (14, .tail 2), (5212, o11), (5229, o8), (5339, o12), (5356, o8), (5466, o13), (5614, o8), (5724, o15), (10650, o8), (10760, o17), (15703, o22), (15813, o17), (20770, o8), (20880, o25), (25836, o30), (25946, o31)]
theorem k10 : Is C 10 a10 25837 p10 (resOf true v10 25947 q10) := is_of C xp_ok xp_name (fuel := 100000) (noCall_ok C) (by kernel_rfl)
-- A call of doubletake/packet.Open: what it is handed, what it leaves.
noncomputable def a11 : List CV := [.n_ .i64 7, .slc 25946 [] 0 17]
noncomputable def p11 : List (Nat × XObj) := [(6, o26), (7, o27), (8, o28), (9, o29), (11, o1), (12, o2), (13, o4), (14, .tail 2), (5212, o11), (5229, o8), (5339, o12), (5356, o8), (5466, o13), (5614, o8), (5724, o15), (10650, o8), (10760, o17), (15703, o22), (15813, o17), (20770, o8), (20880, o25), (25836, o30), (25946, o31), (25947, o8), (25948, o8), (25949, o8)]
noncomputable def v11 : CV := .tup [.agg [.n_ .i64 1, .n_ .i64 0, .n_ .i64 6, .n_ .i64 0, .b_ false, .n_ .u64 0, .n_ .i64 0, .n_ .i64 0, .lst .nil [], .n_ .i64 0, .lst .nil [], .n_ .i64 0, .n_ .i64 0], .n_ .i64 0]
noncomputable def q11 : List (Nat × XObj) := [(6, o26), (7, o27), (8, o28), (9, o29), (11, o1), (12, o2), (13, o4), (14, .tail 2), (5212, o11), (5229, o8), (5339, o12), (5356, o8), (5466, o13), (5614, o8), (5724, o15), (10650, o8), (10760, o17), (15703, o22), (15813, o17), (20770, o8), (20880, o25), (25836, o30), (25946, o31), (25947, o8), (25948, o8), (25949, o8)]
theorem k11 : Is C 143 a11 25950 p11 (resOf true v11 30858 q11) := is_of C xp_ok xp_name (fuel := 100000) (noCall_ok C) (by kernel_rfl)
-- A call of (*doubletake/gate.Gate).Send: what it is handed, what it leaves.
noncomputable def a12 : List CV := [.ptr 6 [], .n_ .i64 0, .agg [.n_ .i64 6, .n_ .i64 5, .n_ .i64 0, .n_ .i64 0, .b_ false, .n_ .u64 0, .n_ .i64 0, .n_ .i64 0, .lst .nil [], .n_ .i64 0, .lst .nil [], .n_ .i64 0, .n_ .i64 0], .n_ .i64 4]
noncomputable def o32 : XObj := (v_ (.n [.s, .n [.s, .s, .s, .s, .s, .s]]) (.agg [.lst (.own 14) [.ptr 9 [], .ptr 13 []], .agg (ints .i64 [2, 1, 2, 1, 1, 1])]))
noncomputable def o33 : XObj := (v_ (.n [.s, .s, .n [.s, .s, .s], .n [.s, .s, .s]]) (.agg [.n_ .i64 1, .lst (.own 30995) [.agg (ints .i64 [0, 4])], .agg [.b_ true, .n_ .i64 5, .n_ .u64 1], .agg [.n_ .i64 0, .f_ .f64 0, .f_ .f64 0]]))
noncomputable def p12 : List (Nat × XObj) := [(6, o32), (7, o27), (8, o28), (9, o29), (11, o1), (12, o2), (13, o4), (14, .tail 2), (5212, o11), (5229, o8), (5339, o12), (5356, o8), (5466, o13), (5614, o8), (5724, o15), (10650, o8), (10760, o17), (15703, o22), (15813, o17), (20770, o8), (20880, o25), (25836, o30), (25946, o31), (30872, o8)]
noncomputable def v12 : CV := .tup [.lst (.own 33424) (ints .u8 [192, 0, 0, 0, 22, 0, 0, 0, 0, 0, 0, 0, 2, 62, 247, 174, 246]), .b_ true]
noncomputable def q12 : List (Nat × XObj) := [(6, o32), (7, o27), (8, o33), (9, o29), (11, o1), (12, o2), (13, o4), (14, .tail 2), (5212, o11), (5229, o8), (5339, o12), (5356, o8), (5466, o13), (5614, o8), (5724, o15), (10650, o8), (10760, o17), (15703, o22), (15813, o17), (20770, o8), (20880, o25), (25836, o30), (25946, o31), (30872, o8), (30995, .tail 1), (33424, .tail 17)]
theorem k12 : Is C 14 a12 30873 p12 (resOf true v12 33425 q12) := is_of C xp_ok xp_name (fuel := 100000) (noCall_ok C) (by kernel_rfl)
-- A call of doubletake/doubletakeref15.Open: what it is handed, what it leaves.
noncomputable def a13 : List CV := [.n_ .i64 7, .lst (.own 33424) (ints .u8 [192, 0, 0, 0, 22, 0, 0, 0, 0, 0, 0, 0, 2, 62, 247, 174, 246])]
noncomputable def p13 : List (Nat × XObj) := [(6, o32), (7, o27), (8, o33), (9, o29), (11, o1), (12, o2), (13, o4), (14, .tail 2), (5212, o11), (5229, o8), (5339, o12), (5356, o8), (5466, o13), (5614, o8), (5724, o15), (10650, o8), (10760, o17), (15703, o22), (15813, o17), (20770, o8), (20880, o25), (25836, o30), (25946, o31), (30872, o8), (30995, .tail 1), (33424, .tail 17)]
noncomputable def v13 : CV := .tup [.agg [.n_ .i64 6, .n_ .i64 0, .n_ .i64 0, .n_ .i64 5, .b_ true, .n_ .u64 1, .n_ .i64 0, .n_ .i64 0, .lst .nil [], .n_ .i64 0, .lst .nil [], .n_ .i64 0, .n_ .i64 0], .n_ .i64 0]
noncomputable def q13 : List (Nat × XObj) := [(6, o32), (7, o27), (8, o33), (9, o29), (11, o1), (12, o2), (13, o4), (14, .tail 2), (5212, o11), (5229, o8), (5339, o12), (5356, o8), (5466, o13), (5614, o8), (5724, o15), (10650, o8), (10760, o17), (15703, o22), (15813, o17), (20770, o8), (20880, o25), (25836, o30), (25946, o31), (30872, o8), (30995, .tail 1), (33424, .tail 17)]
theorem k13 : Is C 15 a13 33463 p13 (resOf true v13 36281 q13) := is_of C xp_ok xp_name (fuel := 100000) (noCall_ok C) (by kernel_rfl)
end Go.Proofs.YtcjkapadadonlaaGreat
