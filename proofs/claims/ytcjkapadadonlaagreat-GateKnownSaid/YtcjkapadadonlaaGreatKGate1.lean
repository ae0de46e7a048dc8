/- GateKnown: parts of its run. Printed by tools/xcut.py. -/
import Derived.Test.YtcjkapadadonlaaGreatKGateP
set_option linter.unusedSimpArgs false
set_option linter.unusedVariables false
namespace Go.Proofs.YtcjkapadadonlaaGreat
open Go.Cl Go Go.ChangeShapes Go.WideShapes Go.ChangeAt Go.RowKit
set_option maxRecDepth 1000000
-- A call of doubletake/packet.Open: what it is handed, what it leaves.
noncomputable def a0 : List CV := [.n_ .i64 8, .slc 158 [] 0 17]
noncomputable def o0 : XObj := (v_ (.n [.s, .n [.s, .s, .s, .s, .s, .s]]) (.agg [.lst (.own 14) [.ptr 9 [], .ptr 13 []], .agg (ints .i64 [0, 0, 0, 0, 0, 0])]))
noncomputable def o1 : XObj := (v_ (.n [.s, .s, .s, .s]) (.agg [.f_ .f64 0, .f_ .f64 4613937818241073152, .f_ .f64 4613937818241073152, .n_ .i64 0]))
noncomputable def o2 : XObj := (v_ (.n [.s, .s, .n [.s, .s, .s], .n [.s, .s, .s]]) (.agg [.n_ .i64 0, .lst .nil [], .agg [.b_ false, .n_ .i64 0, .n_ .u64 0], .agg [.n_ .i64 0, .f_ .f64 0, .f_ .f64 0]]))
noncomputable def o3 : XObj := (v_ (.n [.s, .s, .s, .s, .s]) (.agg [.n_ .i64 7, .ptr 8 [], .ptr 7 [], .b_ false, .n_ .i64 0]))
noncomputable def o4 : XObj := (v_ (.n [.s, .s, .s, .s, .s]) (.agg [.n_ .i64 8, .ptr 12 [], .ptr 11 [], .b_ false, .n_ .i64 0]))
noncomputable def o5 : XObj := (v_ (.n [.s, .n [.s, .s, .s, .s, .s, .s]]) (.agg [.lst (.own 31) [.ptr 26 [], .ptr 30 []], .agg (ints .i64 [0, 0, 1, 0, 0, 0])]))
noncomputable def o6 : XObj := (v_ (.n [.s, .s, .s, .s, .s]) (.agg [.n_ .i64 7, .ptr 25 [], .ptr 24 [], .b_ false, .n_ .i64 0]))
noncomputable def o7 : XObj := (v_ (.n [.s, .s, .s, .s, .s]) (.agg [.n_ .i64 8, .ptr 29 [], .ptr 28 [], .b_ false, .n_ .i64 0]))
noncomputable def o8 : XObj := (v_ (.n [.s, .s, .s, .s, .s, .s, .s, .s, .s, .s, .s, .s, .s]) (.agg [.n_ .i64 0, .n_ .i64 0, .n_ .i64 0, .n_ .i64 0, .b_ false, .n_ .u64 0, .n_ .i64 0, .n_ .i64 0, .lst .nil [], .n_ .i64 0, .lst .nil [], .n_ .i64 0, .n_ .i64 0]))
noncomputable def o9 : XObj := (v_ (.n [.s, .s, .s, .s, .s, .s, .s, .s, .s, .s, .s, .s, .s, .s, .s, .s, .s]) (.agg (ints .u8 [36, 0, 0, 0, 0, 0, 0, 0, 0, 0, 0, 0, 0, 18, 212, 203, 125])))
noncomputable def p0 : List (Nat × XObj) := [(6, o0), (7, o1), (8, o2), (9, o3), (11, o1), (12, o2), (13, o4), (14, .tail 2), (23, o5), (24, o1), (25, o2), (26, o6), (28, o1), (29, o2), (30, o7), (31, .tail 2), (48, o8), (158, o9), (159, o8), (160, o8), (161, o8)]
noncomputable def v0 : CV := .tup [.agg [.n_ .i64 1, .n_ .i64 1, .n_ .i64 0, .n_ .i64 0, .b_ false, .n_ .u64 0, .n_ .i64 0, .n_ .i64 0, .lst .nil [], .n_ .i64 0, .lst .nil [], .n_ .i64 0, .n_ .i64 0], .n_ .i64 0]
noncomputable def q0 : List (Nat × XObj) := [(6, o0), (7, o1), (8, o2), (9, o3), (11, o1), (12, o2), (13, o4), (14, .tail 2), (23, o5), (24, o1), (25, o2), (26, o6), (28, o1), (29, o2), (30, o7), (31, .tail 2), (48, o8), (158, o9), (159, o8), (160, o8), (161, o8)]
theorem k0 : Is C 143 a0 162 p0 (resOf true v0 5070 q0) := is_of C xp_ok xp_name (fuel := 100000) (noCall_ok C) (by kernel_rfl)
-- A call of doubletake/doubletakelaw17.hello: what it is handed, what it leaves.
noncomputable def a1 : List CV := (ints .i64 [1, 0, 7])
noncomputable def o10 : XObj := (v_ (.n [.s, .n [.s, .s, .s, .s, .s, .s]]) (.agg [.lst (.own 14) [.ptr 9 [], .ptr 13 []], .agg (ints .i64 [0, 1, 1, 0, 0, 0])]))
noncomputable def o11 : XObj := (v_ (.n [.s, .s, .s, .s, .s, .s, .s, .s, .s, .s, .s, .s, .s, .s, .s, .s, .s, .s, .s, .s, .s, .s, .s, .s, .s, .s, .s, .s, .s, .s, .s, .s, .s, .s, .s, .s, .s, .s, .s, .s, .s, .s, .s, .s, .s, .s, .s, .s, .s, .s, .s, .s, .s, .s, .s, .s, .s, .s, .s, .s, .s, .s, .s, .s, .s, .s, .s, .s, .s, .s, .s, .s, .s, .s, .s, .s, .s, .s, .s, .s, .s, .s, .s, .s, .s, .s, .s, .s, .s, .s, .s, .s, .s, .s, .s, .s, .s, .s, .s, .s, .s, .s, .s, .s, .s, .s, .s, .s, .s, .s, .s, .s, .s, .s, .s, .s, .s, .s, .s, .s, .s, .s, .s, .s, .s, .s, .s, .s, .s, .s, .s, .s, .s, .s, .s, .s, .s, .s, .s, .s, .s, .s, .s, .s, .s, .s, .s, .s, .s, .s, .s, .s, .s, .s, .s, .s, .s, .s, .s, .s, .s, .s, .s, .s, .s, .s, .s, .s, .s, .s, .s, .s, .s, .s, .s, .s, .s, .s, .s, .s, .s, .s, .s, .s, .s, .s, .s, .s, .s, .s, .s, .s, .s, .s, .s, .s, .s, .s, .s, .s, .s, .s, .s, .s, .s, .s, .s, .s, .s, .s, .s, .s, .s, .s, .s, .s, .s, .s, .s, .s, .s, .s, .s, .s, .s, .s, .s, .s, .s, .s, .s, .s, .s, .s, .s, .s, .s, .s, .s, .s, .s, .s, .s, .s, .s, .s, .s, .s, .s, .s, .s, .s, .s, .s, .s, .s, .s, .s, .s, .s, .s, .s, .s, .s, .s, .s, .s, .s, .s, .s, .s, .s, .s, .s, .s, .s, .s, .s, .s, .s, .s, .s, .s, .s, .s, .s, .s, .s, .s, .s, .s, .s, .s, .s, .s, .s, .s, .s, .s, .s, .s, .s, .s, .s, .s, .s, .s, .s, .s, .s, .s, .s, .s, .s, .s, .s, .s, .s, .s, .s, .s, .s, .s, .s, .s, .s, .s, .s, .s, .s, .s, .s, .s, .s, .s, .s, .s, .s, .s, .s, .s, .s, .s, .s, .s, .s, .s, .s, .s, .s, .s, .s, .s, .s, .s, .s, .s, .s, .s, .s, .s, .s, .s, .s, .s, .s, .s, .s, .s, .s, .s, .s, .s, .s, .s, .s, .s, .s, .s, .s, .s, .s, .s, .s, .s, .s, .s, .s, .s, .s, .s, .s, .s, .s, .s, .s, .s, .s, .s, .s, .s, .s, .s, .s, .s, .s, .s, .s, .s, .s, .s, .s, .s, .s, .s, .s, .s]) (.agg (ints .u8 [32, 0, 0, 0, 0, 0, 0, 0, 0, 0, 0, 0, 0, 48, 98, 131, 124, 0, 0, 0, 0, 0, 0, 0, 0, 0, 0, 0, 0, 0, 0, 0, 0, 0, 0, 0, 0, 0, 0, 0, 0, 0, 0, 0, 0, 0, 0, 0, 0, 0, 0, 0, 0, 0, 0, 0, 0, 0, 0, 0, 0, 0, 0, 0, 0, 0, 0, 0, 0, 0, 0, 0, 0, 0, 0, 0, 0, 0, 0, 0, 0, 0, 0, 0, 0, 0, 0, 0, 0, 0, 0, 0, 0, 0, 0, 0, 0, 0, 0, 0, 0, 0, 0, 0, 0, 0, 0, 0, 0, 0, 0, 0, 0, 0, 0, 0, 0, 0, 0, 0, 0, 0, 0, 0, 0, 0, 0, 0, 0, 0, 0, 0, 0, 0, 0, 0, 0, 0, 0, 0, 0, 0, 0, 0, 0, 0, 0, 0, 0, 0, 0, 0, 0, 0, 0, 0, 0, 0, 0, 0, 0, 0, 0, 0, 0, 0, 0, 0, 0, 0, 0, 0, 0, 0, 0, 0, 0, 0, 0, 0, 0, 0, 0, 0, 0, 0, 0, 0, 0, 0, 0, 0, 0, 0, 0, 0, 0, 0, 0, 0, 0, 0, 0, 0, 0, 0, 0, 0, 0, 0, 0, 0, 0, 0, 0, 0, 0, 0, 0, 0, 0, 0, 0, 0, 0, 0, 0, 0, 0, 0, 0, 0, 0, 0, 0, 0, 0, 0, 0, 0, 0, 0, 0, 0, 0, 0, 0, 0, 0, 0, 0, 0, 0, 0, 0, 0, 0, 0, 0, 0, 0, 0, 0, 0, 0, 0, 0, 0, 0, 0, 0, 0, 0, 0, 0, 0, 0, 0, 0, 0, 0, 0, 0, 0, 0, 0, 0, 0, 0, 0, 0, 0, 0, 0, 0, 0, 0, 0, 0, 0, 0, 0, 0, 0, 0, 0, 0, 0, 0, 0, 0, 0, 0, 0, 0, 0, 0, 0, 0, 0, 0, 0, 0, 0, 0, 0, 0, 0, 0, 0, 0, 0, 0, 0, 0, 0, 0, 0, 0, 0, 0, 0, 0, 0, 0, 0, 0, 0, 0, 0, 0, 0, 0, 0, 0, 0, 0, 0, 0, 0, 0, 0, 0, 0, 0, 0, 0, 0, 0, 0, 0, 0, 0, 0, 0, 0, 0, 0, 0, 0, 0, 0, 0, 0, 0, 0, 0, 0, 0, 0, 0, 0, 0, 0, 0, 0, 0, 0, 0, 0, 0, 0, 0, 0, 0, 0, 0, 0, 0, 0, 0, 0, 0, 0, 0, 0, 0])))
noncomputable def o12 : XObj := (v_ (.n [.s, .s, .s, .s, .s, .s, .s, .s, .s, .s, .s, .s, .s, .s, .s, .s, .s]) (.agg (ints .u8 [40, 0, 0, 0, 0, 0, 0, 0, 0, 0, 0, 0, 0, 84, 192, 65, 8])))
noncomputable def o13 : XObj := (v_ (.n [.s, .s, .s, .s, .s, .s, .s, .s, .s, .s, .s, .s, .s, .s, .s, .s, .s]) (.agg (ints .u8 [36, 0, 0, 0, 0, 0, 0, 0, 0, 0, 0, 0, 0, 66, 145, 98, 66])))
noncomputable def p1 : List (Nat × XObj) := [(6, o10), (7, o1), (8, o2), (9, o3), (11, o1), (12, o2), (13, o4), (14, .tail 2), (5212, o11), (5229, o8), (5339, o12), (5356, o8)]
noncomputable def v1 : CV := .slc 5466 [] 0 17
noncomputable def q1 : List (Nat × XObj) := [(6, o10), (7, o1), (8, o2), (9, o3), (11, o1), (12, o2), (13, o4), (14, .tail 2), (5212, o11), (5229, o8), (5339, o12), (5356, o8), (5466, o13)]
theorem k1 : Is C 10 a1 5357 p1 (resOf true v1 5467 q1) := is_of C xp_ok xp_name (fuel := 100000) (noCall_ok C) (by kernel_rfl)
-- A call of doubletake/doubletakeref15.Lay: what it is handed, what it leaves.
noncomputable def a2 : List CV := [.n_ .i64 7, .agg [.n_ .i64 6, .n_ .i64 0, .n_ .i64 0, .n_ .i64 0, .b_ false, .n_ .u64 0, .n_ .i64 0, .n_ .i64 0, .lst .nil [], .n_ .i64 0, .lst .nil [], .n_ .i64 0, .n_ .i64 0]]
noncomputable def o14 : XObj := (v_ (.n [.s, .n [.s, .s, .s, .s, .s, .s]]) (.agg [.lst (.own 14) [.ptr 9 [], .ptr 13 []], .agg (ints .i64 [0, 1, 1, 1, 0, 0])]))
noncomputable def o15 : XObj := (v_ (.n [.s, .s, .s, .s, .s, .s, .s, .s, .s, .s, .s, .s, .s, .s, .s, .s, .s]) (.agg (ints .u8 [192, 0, 0, 0, 0, 0, 0, 0, 0, 0, 0, 0, 0, 7, 181, 82, 114])))
noncomputable def p2 : List (Nat × XObj) := [(6, o14), (7, o1), (8, o2), (9, o3), (11, o1), (12, o2), (13, o4), (14, .tail 2), (5212, o11), (5229, o8), (5339, o12), (5356, o8), (5466, o13), (5614, o8)]
noncomputable def v2 : CV := .tup [.slc 5724 [] 0 17, .b_ true]
noncomputable def q2 : List (Nat × XObj) := [(6, o14), (7, o1), (8, o2), (9, o3), (11, o1), (12, o2), (13, o4), (14, .tail 2), (5212, o11), (5229, o8), (5339, o12), (5356, o8), (5466, o13), (5614, o8), (5724, o15)]
theorem k2 : Is C 12 a2 5615 p2 (resOf true v2 5725 q2) := is_of C xp_ok xp_name (fuel := 100000) (noCall_ok C) (by kernel_rfl)
-- A call of doubletake/packet.Open: what it is handed, what it leaves.
noncomputable def a3 : List CV := [.n_ .i64 7, .slc 5724 [] 0 17]
noncomputable def p3 : List (Nat × XObj) := [(6, o14), (7, o1), (8, o2), (9, o3), (11, o1), (12, o2), (13, o4), (14, .tail 2), (5212, o11), (5229, o8), (5339, o12), (5356, o8), (5466, o13), (5614, o8), (5724, o15), (5725, o8), (5726, o8), (5727, o8)]
noncomputable def v3 : CV := .tup [.agg [.n_ .i64 6, .n_ .i64 0, .n_ .i64 0, .n_ .i64 0, .b_ false, .n_ .u64 0, .n_ .i64 0, .n_ .i64 0, .lst .nil [], .n_ .i64 0, .lst .nil [], .n_ .i64 0, .n_ .i64 0], .n_ .i64 0]
noncomputable def q3 : List (Nat × XObj) := [(6, o14), (7, o1), (8, o2), (9, o3), (11, o1), (12, o2), (13, o4), (14, .tail 2), (5212, o11), (5229, o8), (5339, o12), (5356, o8), (5466, o13), (5614, o8), (5724, o15), (5725, o8), (5726, o8), (5727, o8)]
theorem k3 : Is C 143 a3 5728 p3 (resOf true v3 10636 q3) := is_of C xp_ok xp_name (fuel := 100000) (noCall_ok C) (by kernel_rfl)
-- A call of doubletake/doubletakelaw17.hello: what it is handed, what it leaves.
noncomputable def a4 : List CV := (ints .i64 [0, 4, 7])
noncomputable def o16 : XObj := (v_ (.n [.s, .n [.s, .s, .s, .s, .s, .s]]) (.agg [.lst (.own 14) [.ptr 9 [], .ptr 13 []], .agg (ints .i64 [0, 1, 2, 1, 0, 0])]))
noncomputable def o17 : XObj := (v_ (.n [.s, .s, .s, .s, .s, .s, .s, .s, .s, .s, .s, .s, .s, .s, .s, .s, .s]) (.agg (ints .u8 [32, 0, 16, 0, 0, 0, 0, 0, 0, 0, 0, 0, 0, 77, 213, 73, 57])))
noncomputable def p4 : List (Nat × XObj) := [(6, o16), (7, o1), (8, o2), (9, o3), (11, o1), (12, o2), (13, o4), (14, .tail 2), (5212, o11), (5229, o8), (5339, o12), (5356, o8), (5466, o13), (5614, o8), (5724, o15), (10650, o8)]
noncomputable def v4 : CV := .slc 10760 [] 0 17
noncomputable def q4 : List (Nat × XObj) := [(6, o16), (7, o1), (8, o2), (9, o3), (11, o1), (12, o2), (13, o4), (14, .tail 2), (5212, o11), (5229, o8), (5339, o12), (5356, o8), (5466, o13), (5614, o8), (5724, o15), (10650, o8), (10760, o17)]
theorem k4 : Is C 10 a4 10651 p4 (resOf true v4 10761 q4) := is_of C xp_ok xp_name (fuel := 100000) (noCall_ok C) (by kernel_rfl)
-- A call of doubletake/packet.Open: what it is handed, what it leaves.
noncomputable def a5 : List CV := [.n_ .i64 7, .slc 10760 [] 0 17]
noncomputable def p5 : List (Nat × XObj) := [(6, o16), (7, o1), (8, o2), (9, o3), (11, o1), (12, o2), (13, o4), (14, .tail 2), (5212, o11), (5229, o8), (5339, o12), (5356, o8), (5466, o13), (5614, o8), (5724, o15), (10650, o8), (10760, o17), (10761, o8), (10762, o8), (10763, o8)]
noncomputable def v5 : CV := .tup [.agg [.n_ .i64 1, .n_ .i64 0, .n_ .i64 4, .n_ .i64 0, .b_ false, .n_ .u64 0, .n_ .i64 0, .n_ .i64 0, .lst .nil [], .n_ .i64 0, .lst .nil [], .n_ .i64 0, .n_ .i64 0], .n_ .i64 0]
noncomputable def q5 : List (Nat × XObj) := [(6, o16), (7, o1), (8, o2), (9, o3), (11, o1), (12, o2), (13, o4), (14, .tail 2), (5212, o11), (5229, o8), (5339, o12), (5356, o8), (5466, o13), (5614, o8), (5724, o15), (10650, o8), (10760, o17), (10761, o8), (10762, o8), (10763, o8)]
theorem k5 : Is C 143 a5 10764 p5 (resOf true v5 15672 q5) := is_of C xp_ok xp_name (fuel := 100000) (noCall_ok C) (by kernel_rfl)
-- A call of doubletake/doubletakelaw17.hello: what it is handed, what it leaves.
noncomputable def a6 : List CV := (ints .i64 [0, 4, 7])
noncomputable def o18 : XObj := (v_ (.n [.s, .n [.s, .s, .s, .s, .s, .s]]) (.agg [.lst (.own 14) [.ptr 9 [], .ptr 13 []], .agg (ints .i64 [1, 1, 2, 1, 0, 0])]))
noncomputable def o19 : XObj := (v_ (.n [.s, .s, .s, .s]) (.agg [.f_ .f64 0, .f_ .f64 4613937818241073152, .f_ .f64 4611686018427387904, .n_ .i64 0]))
noncomputable def o20 : XObj := (v_ (.n [.s, .s, .n [.s, .s, .s], .n [.s, .s, .s]]) (.agg [.n_ .i64 0, .lst .nil [], .agg [.b_ true, .n_ .i64 4, .n_ .u64 0], .agg [.n_ .i64 0, .f_ .f64 0, .f_ .f64 0]]))
noncomputable def o21 : XObj := (v_ (.n [.s, .s, .s, .s, .s]) (.agg [.n_ .i64 7, .ptr 8 [], .ptr 7 [], .b_ true, .n_ .i64 1]))
noncomputable def o22 : XObj := (v_ (.n [.s, .s, .s, .s, .s, .s, .s, .s, .s, .s, .s, .s, .s]) (.agg [.n_ .i64 1, .n_ .i64 0, .n_ .i64 4, .n_ .i64 0, .b_ false, .n_ .u64 0, .n_ .i64 0, .n_ .i64 0, .lst .nil [], .n_ .i64 0, .lst .nil [], .n_ .i64 0, .n_ .i64 0]))
noncomputable def p6 : List (Nat × XObj) := [(6, o18), (7, o19), (8, o20), (9, o21), (11, o1), (12, o2), (13, o4), (14, .tail 2), (5212, o11), (5229, o8), (5339, o12), (5356, o8), (5466, o13), (5614, o8), (5724, o15), (10650, o8), (10760, o17), (15703, o22)]
noncomputable def v6 : CV := .slc 15813 [] 0 17
noncomputable def q6 : List (Nat × XObj) := [(6, o18), (7, o19), (8, o20), (9, o21), (11, o1), (12, o2), (13, o4), (14, .tail 2), (5212, o11), (5229, o8), (5339, o12), (5356, o8), (5466, o13), (5614, o8), (5724, o15), (10650, o8), (10760, o17), (15703, o22), (15813, o17)]
theorem k6 : Is C 10 a6 15704 p6 (resOf true v6 15814 q6) := is_of C xp_ok xp_name (fuel := 100000) (noCall_ok C) (by kernel_rfl)
-- A call of doubletake/packet.Open: what it is handed, what it leaves.
noncomputable def a7 : List CV := [.n_ .i64 7, .slc 15813 [] 0 17]
noncomputable def p7 : List (Nat × XObj) := [(6, o18), (7, o19), (8, o20), (9, o21), (11, o1), (12, o2), (13, o4), (14, .tail 2), (5212, o11), (5229, o8), (5339, o12), (5356, o8), (5466, o13), (5614, o8), (5724, o15), (10650, o8), (10760, o17), (15703, o22), (15813, o17), (15814, o8), (15815, o8), (15816, o8)]
noncomputable def v7 : CV := .tup [.agg [.n_ .i64 1, .n_ .i64 0, .n_ .i64 4, .n_ .i64 0, .b_ false, .n_ .u64 0, .n_ .i64 0, .n_ .i64 0, .lst .nil [], .n_ .i64 0, .lst .nil [], .n_ .i64 0, .n_ .i64 0], .n_ .i64 0]
noncomputable def q7 : List (Nat × XObj) := [(6, o18), (7, o19), (8, o20), (9, o21), (11, o1), (12, o2), (13, o4), (14, .tail 2), (5212, o11), (5229, o8), (5339, o12), (5356, o8), (5466, o13), (5614, o8), (5724, o15), (10650, o8), (10760, o17), (15703, o22), (15813, o17), (15814, o8), (15815, o8), (15816, o8)]
theorem k7 : Is C 143 a7 15817 p7 (resOf true v7 20725 q7) := is_of C xp_ok xp_name (fuel := 100000) (noCall_ok C) (by kernel_rfl)
end Go.Proofs.YtcjkapadadonlaaGreat
