/- Part 5 of a proof: the texts N10 N11 N12 H1 T1 T2 T3 T5, one behind the other. -/
import Derived.Test.YtgniedpgdjmfpaaGreatDoorZ3
import Derived.Test.YtgniedpgdjmfpaaGreatDoorZ4
import Derived.Lib.ReplaceLaws
import Derived.Deep.LoopGhost
namespace Go.Proofs.YtgniedpgdjmfpaaGreatDoor.Rf
open Go Go.RowKit Go.Sort Go.Proofs.YtgniedpgdjmfpaaGreatDoor.Mir
def c8 (y : Int) : UInt8 := UInt8.ofNat (Int.toNat y)
def sgn (neg : Bool) : List UInt8 := bif neg then [45] else []
noncomputable def dgtext_W : FnW E := fn1 (E := E) .int .str okI textV
def dgtext_id : FuncId := 53
noncomputable def dgtext_O : Oracle E := orac [] [] [] []
noncomputable def dgtext_H : Hint E := Hint.mk [(0, [3, 4, 5, 6])] [] [] [] [(13, [3])]
noncomputable def dgtext_C0_0 (v0 : Bool) (v1 v2 v3 v4 v5 v6 v7 v8 v9 v10 v11 v12 v13 v14 v15 v16 v17 v18 v19 v20 v21 : Int) : ASt E := ASt.mk 34 [(3, .ptr 0 0), (4, .d (.int .i64 (0 : Int))), (5, .d (.bool v0)), (6, .d (.int .u64 v1))] [(0, .box [.d (.int .u8 v2), .d (.int .u8 v3), .d (.int .u8 v4), .d (.int .u8 v5), .d (.int .u8 v6), .d (.int .u8 v7), .d (.int .u8 v8), .d (.int .u8 v9), .d (.int .u8 v10), .d (.int .u8 v11), .d (.int .u8 v12), .d (.int .u8 v13), .d (.int .u8 v14), .d (.int .u8 v15), .d (.int .u8 v16), .d (.int .u8 v17), .d (.int .u8 v18), .d (.int .u8 v19), .d (.int .u8 v20), .d (.int .u8 v21)])] 1
noncomputable def dgtext_C0_1 (v0 : Bool) (v1 v2 v3 v4 v5 v6 v7 v8 v9 v10 v11 v12 v13 v14 v15 v16 v17 v18 v19 v20 v21 : Int) : ASt E := ASt.mk 34 [(3, .ptr 0 0), (4, .d (.int .i64 (1 : Int))), (5, .d (.bool v0)), (6, .d (.int .u64 v1))] [(0, .box [.d (.int .u8 v2), .d (.int .u8 v3), .d (.int .u8 v4), .d (.int .u8 v5), .d (.int .u8 v6), .d (.int .u8 v7), .d (.int .u8 v8), .d (.int .u8 v9), .d (.int .u8 v10), .d (.int .u8 v11), .d (.int .u8 v12), .d (.int .u8 v13), .d (.int .u8 v14), .d (.int .u8 v15), .d (.int .u8 v16), .d (.int .u8 v17), .d (.int .u8 v18), .d (.int .u8 v19), .d (.int .u8 v20), .d (.int .u8 v21)])] 1
noncomputable def dgtext_C0_10 (v0 : Bool) (v1 v2 v3 v4 v5 v6 v7 v8 v9 v10 v11 v12 v13 v14 v15 v16 v17 v18 v19 v20 v21 : Int) : ASt E := ASt.mk 34 [(3, .ptr 0 0), (4, .d (.int .i64 (10 : Int))), (5, .d (.bool v0)), (6, .d (.int .u64 v1))] [(0, .box [.d (.int .u8 v2), .d (.int .u8 v3), .d (.int .u8 v4), .d (.int .u8 v5), .d (.int .u8 v6), .d (.int .u8 v7), .d (.int .u8 v8), .d (.int .u8 v9), .d (.int .u8 v10), .d (.int .u8 v11), .d (.int .u8 v12), .d (.int .u8 v13), .d (.int .u8 v14), .d (.int .u8 v15), .d (.int .u8 v16), .d (.int .u8 v17), .d (.int .u8 v18), .d (.int .u8 v19), .d (.int .u8 v20), .d (.int .u8 v21)])] 1
noncomputable def dgtext_C0_11 (v0 : Bool) (v1 v2 v3 v4 v5 v6 v7 v8 v9 v10 v11 v12 v13 v14 v15 v16 v17 v18 v19 v20 v21 : Int) : ASt E := ASt.mk 34 [(3, .ptr 0 0), (4, .d (.int .i64 (11 : Int))), (5, .d (.bool v0)), (6, .d (.int .u64 v1))] [(0, .box [.d (.int .u8 v2), .d (.int .u8 v3), .d (.int .u8 v4), .d (.int .u8 v5), .d (.int .u8 v6), .d (.int .u8 v7), .d (.int .u8 v8), .d (.int .u8 v9), .d (.int .u8 v10), .d (.int .u8 v11), .d (.int .u8 v12), .d (.int .u8 v13), .d (.int .u8 v14), .d (.int .u8 v15), .d (.int .u8 v16), .d (.int .u8 v17), .d (.int .u8 v18), .d (.int .u8 v19), .d (.int .u8 v20), .d (.int .u8 v21)])] 1
noncomputable def dgtext_C0_12 (v0 : Bool) (v1 v2 v3 v4 v5 v6 v7 v8 v9 v10 v11 v12 v13 v14 v15 v16 v17 v18 v19 v20 v21 : Int) : ASt E := ASt.mk 34 [(3, .ptr 0 0), (4, .d (.int .i64 (12 : Int))), (5, .d (.bool v0)), (6, .d (.int .u64 v1))] [(0, .box [.d (.int .u8 v2), .d (.int .u8 v3), .d (.int .u8 v4), .d (.int .u8 v5), .d (.int .u8 v6), .d (.int .u8 v7), .d (.int .u8 v8), .d (.int .u8 v9), .d (.int .u8 v10), .d (.int .u8 v11), .d (.int .u8 v12), .d (.int .u8 v13), .d (.int .u8 v14), .d (.int .u8 v15), .d (.int .u8 v16), .d (.int .u8 v17), .d (.int .u8 v18), .d (.int .u8 v19), .d (.int .u8 v20), .d (.int .u8 v21)])] 1
noncomputable def dgtext_C0_13 (v0 : Bool) (v1 v2 v3 v4 v5 v6 v7 v8 v9 v10 v11 v12 v13 v14 v15 v16 v17 v18 v19 v20 v21 : Int) : ASt E := ASt.mk 34 [(3, .ptr 0 0), (4, .d (.int .i64 (13 : Int))), (5, .d (.bool v0)), (6, .d (.int .u64 v1))] [(0, .box [.d (.int .u8 v2), .d (.int .u8 v3), .d (.int .u8 v4), .d (.int .u8 v5), .d (.int .u8 v6), .d (.int .u8 v7), .d (.int .u8 v8), .d (.int .u8 v9), .d (.int .u8 v10), .d (.int .u8 v11), .d (.int .u8 v12), .d (.int .u8 v13), .d (.int .u8 v14), .d (.int .u8 v15), .d (.int .u8 v16), .d (.int .u8 v17), .d (.int .u8 v18), .d (.int .u8 v19), .d (.int .u8 v20), .d (.int .u8 v21)])] 1
noncomputable def dgtext_C0_14 (v0 : Bool) (v1 v2 v3 v4 v5 v6 v7 v8 v9 v10 v11 v12 v13 v14 v15 v16 v17 v18 v19 v20 v21 : Int) : ASt E := ASt.mk 34 [(3, .ptr 0 0), (4, .d (.int .i64 (14 : Int))), (5, .d (.bool v0)), (6, .d (.int .u64 v1))] [(0, .box [.d (.int .u8 v2), .d (.int .u8 v3), .d (.int .u8 v4), .d (.int .u8 v5), .d (.int .u8 v6), .d (.int .u8 v7), .d (.int .u8 v8), .d (.int .u8 v9), .d (.int .u8 v10), .d (.int .u8 v11), .d (.int .u8 v12), .d (.int .u8 v13), .d (.int .u8 v14), .d (.int .u8 v15), .d (.int .u8 v16), .d (.int .u8 v17), .d (.int .u8 v18), .d (.int .u8 v19), .d (.int .u8 v20), .d (.int .u8 v21)])] 1
noncomputable def dgtext_C0_15 (v0 : Bool) (v1 v2 v3 v4 v5 v6 v7 v8 v9 v10 v11 v12 v13 v14 v15 v16 v17 v18 v19 v20 v21 : Int) : ASt E := ASt.mk 34 [(3, .ptr 0 0), (4, .d (.int .i64 (15 : Int))), (5, .d (.bool v0)), (6, .d (.int .u64 v1))] [(0, .box [.d (.int .u8 v2), .d (.int .u8 v3), .d (.int .u8 v4), .d (.int .u8 v5), .d (.int .u8 v6), .d (.int .u8 v7), .d (.int .u8 v8), .d (.int .u8 v9), .d (.int .u8 v10), .d (.int .u8 v11), .d (.int .u8 v12), .d (.int .u8 v13), .d (.int .u8 v14), .d (.int .u8 v15), .d (.int .u8 v16), .d (.int .u8 v17), .d (.int .u8 v18), .d (.int .u8 v19), .d (.int .u8 v20), .d (.int .u8 v21)])] 1
noncomputable def dgtext_C0_16 (v0 : Bool) (v1 v2 v3 v4 v5 v6 v7 v8 v9 v10 v11 v12 v13 v14 v15 v16 v17 v18 v19 v20 v21 : Int) : ASt E := ASt.mk 34 [(3, .ptr 0 0), (4, .d (.int .i64 (16 : Int))), (5, .d (.bool v0)), (6, .d (.int .u64 v1))] [(0, .box [.d (.int .u8 v2), .d (.int .u8 v3), .d (.int .u8 v4), .d (.int .u8 v5), .d (.int .u8 v6), .d (.int .u8 v7), .d (.int .u8 v8), .d (.int .u8 v9), .d (.int .u8 v10), .d (.int .u8 v11), .d (.int .u8 v12), .d (.int .u8 v13), .d (.int .u8 v14), .d (.int .u8 v15), .d (.int .u8 v16), .d (.int .u8 v17), .d (.int .u8 v18), .d (.int .u8 v19), .d (.int .u8 v20), .d (.int .u8 v21)])] 1
noncomputable def dgtext_C0_17 (v0 : Bool) (v1 v2 v3 v4 v5 v6 v7 v8 v9 v10 v11 v12 v13 v14 v15 v16 v17 v18 v19 v20 v21 : Int) : ASt E := ASt.mk 34 [(3, .ptr 0 0), (4, .d (.int .i64 (17 : Int))), (5, .d (.bool v0)), (6, .d (.int .u64 v1))] [(0, .box [.d (.int .u8 v2), .d (.int .u8 v3), .d (.int .u8 v4), .d (.int .u8 v5), .d (.int .u8 v6), .d (.int .u8 v7), .d (.int .u8 v8), .d (.int .u8 v9), .d (.int .u8 v10), .d (.int .u8 v11), .d (.int .u8 v12), .d (.int .u8 v13), .d (.int .u8 v14), .d (.int .u8 v15), .d (.int .u8 v16), .d (.int .u8 v17), .d (.int .u8 v18), .d (.int .u8 v19), .d (.int .u8 v20), .d (.int .u8 v21)])] 1
noncomputable def dgtext_C0_18 (v0 : Bool) (v1 v2 v3 v4 v5 v6 v7 v8 v9 v10 v11 v12 v13 v14 v15 v16 v17 v18 v19 v20 v21 : Int) : ASt E := ASt.mk 34 [(3, .ptr 0 0), (4, .d (.int .i64 (18 : Int))), (5, .d (.bool v0)), (6, .d (.int .u64 v1))] [(0, .box [.d (.int .u8 v2), .d (.int .u8 v3), .d (.int .u8 v4), .d (.int .u8 v5), .d (.int .u8 v6), .d (.int .u8 v7), .d (.int .u8 v8), .d (.int .u8 v9), .d (.int .u8 v10), .d (.int .u8 v11), .d (.int .u8 v12), .d (.int .u8 v13), .d (.int .u8 v14), .d (.int .u8 v15), .d (.int .u8 v16), .d (.int .u8 v17), .d (.int .u8 v18), .d (.int .u8 v19), .d (.int .u8 v20), .d (.int .u8 v21)])] 1
noncomputable def dgtext_C0_19 (v0 : Bool) (v1 v2 v3 v4 v5 v6 v7 v8 v9 v10 v11 v12 v13 v14 v15 v16 v17 v18 v19 v20 v21 : Int) : ASt E := ASt.mk 34 [(3, .ptr 0 0), (4, .d (.int .i64 (19 : Int))), (5, .d (.bool v0)), (6, .d (.int .u64 v1))] [(0, .box [.d (.int .u8 v2), .d (.int .u8 v3), .d (.int .u8 v4), .d (.int .u8 v5), .d (.int .u8 v6), .d (.int .u8 v7), .d (.int .u8 v8), .d (.int .u8 v9), .d (.int .u8 v10), .d (.int .u8 v11), .d (.int .u8 v12), .d (.int .u8 v13), .d (.int .u8 v14), .d (.int .u8 v15), .d (.int .u8 v16), .d (.int .u8 v17), .d (.int .u8 v18), .d (.int .u8 v19), .d (.int .u8 v20), .d (.int .u8 v21)])] 1
noncomputable def dgtext_C0_2 (v0 : Bool) (v1 v2 v3 v4 v5 v6 v7 v8 v9 v10 v11 v12 v13 v14 v15 v16 v17 v18 v19 v20 v21 : Int) : ASt E := ASt.mk 34 [(3, .ptr 0 0), (4, .d (.int .i64 (2 : Int))), (5, .d (.bool v0)), (6, .d (.int .u64 v1))] [(0, .box [.d (.int .u8 v2), .d (.int .u8 v3), .d (.int .u8 v4), .d (.int .u8 v5), .d (.int .u8 v6), .d (.int .u8 v7), .d (.int .u8 v8), .d (.int .u8 v9), .d (.int .u8 v10), .d (.int .u8 v11), .d (.int .u8 v12), .d (.int .u8 v13), .d (.int .u8 v14), .d (.int .u8 v15), .d (.int .u8 v16), .d (.int .u8 v17), .d (.int .u8 v18), .d (.int .u8 v19), .d (.int .u8 v20), .d (.int .u8 v21)])] 1
noncomputable def dgtext_C0_20 (v0 : Bool) (v1 v2 v3 v4 v5 v6 v7 v8 v9 v10 v11 v12 v13 v14 v15 v16 v17 v18 v19 v20 v21 : Int) : ASt E := ASt.mk 34 [(3, .ptr 0 0), (4, .d (.int .i64 (20 : Int))), (5, .d (.bool v0)), (6, .d (.int .u64 v1))] [(0, .box [.d (.int .u8 v2), .d (.int .u8 v3), .d (.int .u8 v4), .d (.int .u8 v5), .d (.int .u8 v6), .d (.int .u8 v7), .d (.int .u8 v8), .d (.int .u8 v9), .d (.int .u8 v10), .d (.int .u8 v11), .d (.int .u8 v12), .d (.int .u8 v13), .d (.int .u8 v14), .d (.int .u8 v15), .d (.int .u8 v16), .d (.int .u8 v17), .d (.int .u8 v18), .d (.int .u8 v19), .d (.int .u8 v20), .d (.int .u8 v21)])] 1
noncomputable def dgtext_C0_3 (v0 : Bool) (v1 v2 v3 v4 v5 v6 v7 v8 v9 v10 v11 v12 v13 v14 v15 v16 v17 v18 v19 v20 v21 : Int) : ASt E := ASt.mk 34 [(3, .ptr 0 0), (4, .d (.int .i64 (3 : Int))), (5, .d (.bool v0)), (6, .d (.int .u64 v1))] [(0, .box [.d (.int .u8 v2), .d (.int .u8 v3), .d (.int .u8 v4), .d (.int .u8 v5), .d (.int .u8 v6), .d (.int .u8 v7), .d (.int .u8 v8), .d (.int .u8 v9), .d (.int .u8 v10), .d (.int .u8 v11), .d (.int .u8 v12), .d (.int .u8 v13), .d (.int .u8 v14), .d (.int .u8 v15), .d (.int .u8 v16), .d (.int .u8 v17), .d (.int .u8 v18), .d (.int .u8 v19), .d (.int .u8 v20), .d (.int .u8 v21)])] 1
noncomputable def dgtext_C0_4 (v0 : Bool) (v1 v2 v3 v4 v5 v6 v7 v8 v9 v10 v11 v12 v13 v14 v15 v16 v17 v18 v19 v20 v21 : Int) : ASt E := ASt.mk 34 [(3, .ptr 0 0), (4, .d (.int .i64 (4 : Int))), (5, .d (.bool v0)), (6, .d (.int .u64 v1))] [(0, .box [.d (.int .u8 v2), .d (.int .u8 v3), .d (.int .u8 v4), .d (.int .u8 v5), .d (.int .u8 v6), .d (.int .u8 v7), .d (.int .u8 v8), .d (.int .u8 v9), .d (.int .u8 v10), .d (.int .u8 v11), .d (.int .u8 v12), .d (.int .u8 v13), .d (.int .u8 v14), .d (.int .u8 v15), .d (.int .u8 v16), .d (.int .u8 v17), .d (.int .u8 v18), .d (.int .u8 v19), .d (.int .u8 v20), .d (.int .u8 v21)])] 1
noncomputable def dgtext_C0_5 (v0 : Bool) (v1 v2 v3 v4 v5 v6 v7 v8 v9 v10 v11 v12 v13 v14 v15 v16 v17 v18 v19 v20 v21 : Int) : ASt E := ASt.mk 34 [(3, .ptr 0 0), (4, .d (.int .i64 (5 : Int))), (5, .d (.bool v0)), (6, .d (.int .u64 v1))] [(0, .box [.d (.int .u8 v2), .d (.int .u8 v3), .d (.int .u8 v4), .d (.int .u8 v5), .d (.int .u8 v6), .d (.int .u8 v7), .d (.int .u8 v8), .d (.int .u8 v9), .d (.int .u8 v10), .d (.int .u8 v11), .d (.int .u8 v12), .d (.int .u8 v13), .d (.int .u8 v14), .d (.int .u8 v15), .d (.int .u8 v16), .d (.int .u8 v17), .d (.int .u8 v18), .d (.int .u8 v19), .d (.int .u8 v20), .d (.int .u8 v21)])] 1
noncomputable def dgtext_C0_6 (v0 : Bool) (v1 v2 v3 v4 v5 v6 v7 v8 v9 v10 v11 v12 v13 v14 v15 v16 v17 v18 v19 v20 v21 : Int) : ASt E := ASt.mk 34 [(3, .ptr 0 0), (4, .d (.int .i64 (6 : Int))), (5, .d (.bool v0)), (6, .d (.int .u64 v1))] [(0, .box [.d (.int .u8 v2), .d (.int .u8 v3), .d (.int .u8 v4), .d (.int .u8 v5), .d (.int .u8 v6), .d (.int .u8 v7), .d (.int .u8 v8), .d (.int .u8 v9), .d (.int .u8 v10), .d (.int .u8 v11), .d (.int .u8 v12), .d (.int .u8 v13), .d (.int .u8 v14), .d (.int .u8 v15), .d (.int .u8 v16), .d (.int .u8 v17), .d (.int .u8 v18), .d (.int .u8 v19), .d (.int .u8 v20), .d (.int .u8 v21)])] 1
noncomputable def dgtext_C0_7 (v0 : Bool) (v1 v2 v3 v4 v5 v6 v7 v8 v9 v10 v11 v12 v13 v14 v15 v16 v17 v18 v19 v20 v21 : Int) : ASt E := ASt.mk 34 [(3, .ptr 0 0), (4, .d (.int .i64 (7 : Int))), (5, .d (.bool v0)), (6, .d (.int .u64 v1))] [(0, .box [.d (.int .u8 v2), .d (.int .u8 v3), .d (.int .u8 v4), .d (.int .u8 v5), .d (.int .u8 v6), .d (.int .u8 v7), .d (.int .u8 v8), .d (.int .u8 v9), .d (.int .u8 v10), .d (.int .u8 v11), .d (.int .u8 v12), .d (.int .u8 v13), .d (.int .u8 v14), .d (.int .u8 v15), .d (.int .u8 v16), .d (.int .u8 v17), .d (.int .u8 v18), .d (.int .u8 v19), .d (.int .u8 v20), .d (.int .u8 v21)])] 1
noncomputable def dgtext_C0_8 (v0 : Bool) (v1 v2 v3 v4 v5 v6 v7 v8 v9 v10 v11 v12 v13 v14 v15 v16 v17 v18 v19 v20 v21 : Int) : ASt E := ASt.mk 34 [(3, .ptr 0 0), (4, .d (.int .i64 (8 : Int))), (5, .d (.bool v0)), (6, .d (.int .u64 v1))] [(0, .box [.d (.int .u8 v2), .d (.int .u8 v3), .d (.int .u8 v4), .d (.int .u8 v5), .d (.int .u8 v6), .d (.int .u8 v7), .d (.int .u8 v8), .d (.int .u8 v9), .d (.int .u8 v10), .d (.int .u8 v11), .d (.int .u8 v12), .d (.int .u8 v13), .d (.int .u8 v14), .d (.int .u8 v15), .d (.int .u8 v16), .d (.int .u8 v17), .d (.int .u8 v18), .d (.int .u8 v19), .d (.int .u8 v20), .d (.int .u8 v21)])] 1
noncomputable def dgtext_C0_9 (v0 : Bool) (v1 v2 v3 v4 v5 v6 v7 v8 v9 v10 v11 v12 v13 v14 v15 v16 v17 v18 v19 v20 v21 : Int) : ASt E := ASt.mk 34 [(3, .ptr 0 0), (4, .d (.int .i64 (9 : Int))), (5, .d (.bool v0)), (6, .d (.int .u64 v1))] [(0, .box [.d (.int .u8 v2), .d (.int .u8 v3), .d (.int .u8 v4), .d (.int .u8 v5), .d (.int .u8 v6), .d (.int .u8 v7), .d (.int .u8 v8), .d (.int .u8 v9), .d (.int .u8 v10), .d (.int .u8 v11), .d (.int .u8 v12), .d (.int .u8 v13), .d (.int .u8 v14), .d (.int .u8 v15), .d (.int .u8 v16), .d (.int .u8 v17), .d (.int .u8 v18), .d (.int .u8 v19), .d (.int .u8 v20), .d (.int .u8 v21)])] 1
noncomputable def dgtext_t (G : Nat → ASt E → Option (List (TV E))) (x0 : Int) : Option (List (TV E)) :=
  bif (decide (x0 < (0 : Int))) then G 0 (dgtext_C0_20 (decide (x0 < (0 : Int))) (IntKind.wrap .u64 (0 - (IntKind.wrap .u64 x0))) 0 0 0 0 0 0 0 0 0 0 0 0 0 0 0 0 0 0 0 0) else G 0 (dgtext_C0_20 (decide (x0 < (0 : Int))) (IntKind.wrap .u64 x0) 0 0 0 0 0 0 0 0 0 0 0 0 0 0 0 0 0 0 0 0)
theorem dgtext_e (G : Nat → ASt E → Option (List (TV E))) (x0 : Int) : runE dgtext_O dgtext_H G Tryz.f53 [⟨.int, x0⟩] = dgtext_t G x0 := by kernel_rfl
noncomputable def dgtext_t0_1 (G : Nat → ASt E → Option (List (TV E))) (v0 : Bool) (v1 _v2 v3 v4 v5 v6 v7 v8 v9 v10 v11 v12 v13 v14 v15 v16 v17 v18 v19 v20 v21 : Int) : Option (List (TV E)) :=
  bif (!((10 : Int) == (0 : Int))) then (bif (!((10 : Int) == (0 : Int))) then (bif ((IntKind.wrap .u64 (Int.tdiv v1 (10 : Int))) == (0 : Int)) then (bif v0 then none else (bif (decide ((0 : Int) ≤ (0 : Int)) && decide ((0 : Int) ≤ (20 : Int)) && decide ((20 : Int) ≤ (20 : Int))) then some [⟨.str, (List.map (fun y => UInt8.ofNat (Int.toNat y)) (List.take (Int.toNat 20 - Int.toNat 0) (List.drop (Int.toNat 0) ([(IntKind.wrap .u8 (IntKind.wrap .u64 ((48 : Int) + (Int.tmod v1 (10 : Int))))), v3, v4, v5, v6, v7, v8, v9, v10, v11, v12, v13, v14, v15, v16, v17, v18, v19, v20, v21] : List Int))))⟩] else none)) else G 0 (dgtext_C0_0 v0 (IntKind.wrap .u64 (Int.tdiv v1 (10 : Int))) (IntKind.wrap .u8 (IntKind.wrap .u64 ((48 : Int) + (Int.tmod v1 (10 : Int))))) v3 v4 v5 v6 v7 v8 v9 v10 v11 v12 v13 v14 v15 v16 v17 v18 v19 v20 v21)) else none) else none
theorem dgtext_l0_1 (G : Nat → ASt E → Option (List (TV E))) (v0 : Bool) (v1 v2 v3 v4 v5 v6 v7 v8 v9 v10 v11 v12 v13 v14 v15 v16 v17 v18 v19 v20 v21 : Int) : runL dgtext_O dgtext_H G Tryz.f53 0 (dgtext_C0_1 v0 v1 v2 v3 v4 v5 v6 v7 v8 v9 v10 v11 v12 v13 v14 v15 v16 v17 v18 v19 v20 v21) = dgtext_t0_1 G v0 v1 v2 v3 v4 v5 v6 v7 v8 v9 v10 v11 v12 v13 v14 v15 v16 v17 v18 v19 v20 v21 := by kernel_rfl
noncomputable def dgtext_t0_10 (G : Nat → ASt E → Option (List (TV E))) (v0 : Bool) (v1 v2 v3 v4 v5 v6 v7 v8 v9 v10 _v11 v12 v13 v14 v15 v16 v17 v18 v19 v20 v21 : Int) : Option (List (TV E)) :=
  bif (!((10 : Int) == (0 : Int))) then (bif (!((10 : Int) == (0 : Int))) then (bif ((IntKind.wrap .u64 (Int.tdiv v1 (10 : Int))) == (0 : Int)) then (bif v0 then (bif (decide ((0 : Int) ≤ (8 : Int)) && decide ((8 : Int) ≤ (20 : Int)) && decide ((20 : Int) ≤ (20 : Int))) then some [⟨.str, (List.map (fun y => UInt8.ofNat (Int.toNat y)) (List.take (Int.toNat 20 - Int.toNat 8) (List.drop (Int.toNat 8) ([v2, v3, v4, v5, v6, v7, v8, v9, (45 : Int), (IntKind.wrap .u8 (IntKind.wrap .u64 ((48 : Int) + (Int.tmod v1 (10 : Int))))), v12, v13, v14, v15, v16, v17, v18, v19, v20, v21] : List Int))))⟩] else none) else (bif (decide ((0 : Int) ≤ (9 : Int)) && decide ((9 : Int) ≤ (20 : Int)) && decide ((20 : Int) ≤ (20 : Int))) then some [⟨.str, (List.map (fun y => UInt8.ofNat (Int.toNat y)) (List.take (Int.toNat 20 - Int.toNat 9) (List.drop (Int.toNat 9) ([v2, v3, v4, v5, v6, v7, v8, v9, v10, (IntKind.wrap .u8 (IntKind.wrap .u64 ((48 : Int) + (Int.tmod v1 (10 : Int))))), v12, v13, v14, v15, v16, v17, v18, v19, v20, v21] : List Int))))⟩] else none)) else G 0 (dgtext_C0_9 v0 (IntKind.wrap .u64 (Int.tdiv v1 (10 : Int))) v2 v3 v4 v5 v6 v7 v8 v9 v10 (IntKind.wrap .u8 (IntKind.wrap .u64 ((48 : Int) + (Int.tmod v1 (10 : Int))))) v12 v13 v14 v15 v16 v17 v18 v19 v20 v21)) else none) else none
theorem dgtext_l0_10 (G : Nat → ASt E → Option (List (TV E))) (v0 : Bool) (v1 v2 v3 v4 v5 v6 v7 v8 v9 v10 v11 v12 v13 v14 v15 v16 v17 v18 v19 v20 v21 : Int) : runL dgtext_O dgtext_H G Tryz.f53 0 (dgtext_C0_10 v0 v1 v2 v3 v4 v5 v6 v7 v8 v9 v10 v11 v12 v13 v14 v15 v16 v17 v18 v19 v20 v21) = dgtext_t0_10 G v0 v1 v2 v3 v4 v5 v6 v7 v8 v9 v10 v11 v12 v13 v14 v15 v16 v17 v18 v19 v20 v21 := by kernel_rfl
noncomputable def dgtext_t0_11 (G : Nat → ASt E → Option (List (TV E))) (v0 : Bool) (v1 v2 v3 v4 v5 v6 v7 v8 v9 v10 v11 _v12 v13 v14 v15 v16 v17 v18 v19 v20 v21 : Int) : Option (List (TV E)) :=
  bif (!((10 : Int) == (0 : Int))) then (bif (!((10 : Int) == (0 : Int))) then (bif ((IntKind.wrap .u64 (Int.tdiv v1 (10 : Int))) == (0 : Int)) then (bif v0 then (bif (decide ((0 : Int) ≤ (9 : Int)) && decide ((9 : Int) ≤ (20 : Int)) && decide ((20 : Int) ≤ (20 : Int))) then some [⟨.str, (List.map (fun y => UInt8.ofNat (Int.toNat y)) (List.take (Int.toNat 20 - Int.toNat 9) (List.drop (Int.toNat 9) ([v2, v3, v4, v5, v6, v7, v8, v9, v10, (45 : Int), (IntKind.wrap .u8 (IntKind.wrap .u64 ((48 : Int) + (Int.tmod v1 (10 : Int))))), v13, v14, v15, v16, v17, v18, v19, v20, v21] : List Int))))⟩] else none) else (bif (decide ((0 : Int) ≤ (10 : Int)) && decide ((10 : Int) ≤ (20 : Int)) && decide ((20 : Int) ≤ (20 : Int))) then some [⟨.str, (List.map (fun y => UInt8.ofNat (Int.toNat y)) (List.take (Int.toNat 20 - Int.toNat 10) (List.drop (Int.toNat 10) ([v2, v3, v4, v5, v6, v7, v8, v9, v10, v11, (IntKind.wrap .u8 (IntKind.wrap .u64 ((48 : Int) + (Int.tmod v1 (10 : Int))))), v13, v14, v15, v16, v17, v18, v19, v20, v21] : List Int))))⟩] else none)) else G 0 (dgtext_C0_10 v0 (IntKind.wrap .u64 (Int.tdiv v1 (10 : Int))) v2 v3 v4 v5 v6 v7 v8 v9 v10 v11 (IntKind.wrap .u8 (IntKind.wrap .u64 ((48 : Int) + (Int.tmod v1 (10 : Int))))) v13 v14 v15 v16 v17 v18 v19 v20 v21)) else none) else none
theorem dgtext_l0_11 (G : Nat → ASt E → Option (List (TV E))) (v0 : Bool) (v1 v2 v3 v4 v5 v6 v7 v8 v9 v10 v11 v12 v13 v14 v15 v16 v17 v18 v19 v20 v21 : Int) : runL dgtext_O dgtext_H G Tryz.f53 0 (dgtext_C0_11 v0 v1 v2 v3 v4 v5 v6 v7 v8 v9 v10 v11 v12 v13 v14 v15 v16 v17 v18 v19 v20 v21) = dgtext_t0_11 G v0 v1 v2 v3 v4 v5 v6 v7 v8 v9 v10 v11 v12 v13 v14 v15 v16 v17 v18 v19 v20 v21 := by kernel_rfl
noncomputable def dgtext_t0_12 (G : Nat → ASt E → Option (List (TV E))) (v0 : Bool) (v1 v2 v3 v4 v5 v6 v7 v8 v9 v10 v11 v12 _v13 v14 v15 v16 v17 v18 v19 v20 v21 : Int) : Option (List (TV E)) :=
  bif (!((10 : Int) == (0 : Int))) then (bif (!((10 : Int) == (0 : Int))) then (bif ((IntKind.wrap .u64 (Int.tdiv v1 (10 : Int))) == (0 : Int)) then (bif v0 then (bif (decide ((0 : Int) ≤ (10 : Int)) && decide ((10 : Int) ≤ (20 : Int)) && decide ((20 : Int) ≤ (20 : Int))) then some [⟨.str, (List.map (fun y => UInt8.ofNat (Int.toNat y)) (List.take (Int.toNat 20 - Int.toNat 10) (List.drop (Int.toNat 10) ([v2, v3, v4, v5, v6, v7, v8, v9, v10, v11, (45 : Int), (IntKind.wrap .u8 (IntKind.wrap .u64 ((48 : Int) + (Int.tmod v1 (10 : Int))))), v14, v15, v16, v17, v18, v19, v20, v21] : List Int))))⟩] else none) else (bif (decide ((0 : Int) ≤ (11 : Int)) && decide ((11 : Int) ≤ (20 : Int)) && decide ((20 : Int) ≤ (20 : Int))) then some [⟨.str, (List.map (fun y => UInt8.ofNat (Int.toNat y)) (List.take (Int.toNat 20 - Int.toNat 11) (List.drop (Int.toNat 11) ([v2, v3, v4, v5, v6, v7, v8, v9, v10, v11, v12, (IntKind.wrap .u8 (IntKind.wrap .u64 ((48 : Int) + (Int.tmod v1 (10 : Int))))), v14, v15, v16, v17, v18, v19, v20, v21] : List Int))))⟩] else none)) else G 0 (dgtext_C0_11 v0 (IntKind.wrap .u64 (Int.tdiv v1 (10 : Int))) v2 v3 v4 v5 v6 v7 v8 v9 v10 v11 v12 (IntKind.wrap .u8 (IntKind.wrap .u64 ((48 : Int) + (Int.tmod v1 (10 : Int))))) v14 v15 v16 v17 v18 v19 v20 v21)) else none) else none
theorem dgtext_l0_12 (G : Nat → ASt E → Option (List (TV E))) (v0 : Bool) (v1 v2 v3 v4 v5 v6 v7 v8 v9 v10 v11 v12 v13 v14 v15 v16 v17 v18 v19 v20 v21 : Int) : runL dgtext_O dgtext_H G Tryz.f53 0 (dgtext_C0_12 v0 v1 v2 v3 v4 v5 v6 v7 v8 v9 v10 v11 v12 v13 v14 v15 v16 v17 v18 v19 v20 v21) = dgtext_t0_12 G v0 v1 v2 v3 v4 v5 v6 v7 v8 v9 v10 v11 v12 v13 v14 v15 v16 v17 v18 v19 v20 v21 := by kernel_rfl
noncomputable def dgtext_t0_13 (G : Nat → ASt E → Option (List (TV E))) (v0 : Bool) (v1 v2 v3 v4 v5 v6 v7 v8 v9 v10 v11 v12 v13 _v14 v15 v16 v17 v18 v19 v20 v21 : Int) : Option (List (TV E)) :=
  bif (!((10 : Int) == (0 : Int))) then (bif (!((10 : Int) == (0 : Int))) then (bif ((IntKind.wrap .u64 (Int.tdiv v1 (10 : Int))) == (0 : Int)) then (bif v0 then (bif (decide ((0 : Int) ≤ (11 : Int)) && decide ((11 : Int) ≤ (20 : Int)) && decide ((20 : Int) ≤ (20 : Int))) then some [⟨.str, (List.map (fun y => UInt8.ofNat (Int.toNat y)) (List.take (Int.toNat 20 - Int.toNat 11) (List.drop (Int.toNat 11) ([v2, v3, v4, v5, v6, v7, v8, v9, v10, v11, v12, (45 : Int), (IntKind.wrap .u8 (IntKind.wrap .u64 ((48 : Int) + (Int.tmod v1 (10 : Int))))), v15, v16, v17, v18, v19, v20, v21] : List Int))))⟩] else none) else (bif (decide ((0 : Int) ≤ (12 : Int)) && decide ((12 : Int) ≤ (20 : Int)) && decide ((20 : Int) ≤ (20 : Int))) then some [⟨.str, (List.map (fun y => UInt8.ofNat (Int.toNat y)) (List.take (Int.toNat 20 - Int.toNat 12) (List.drop (Int.toNat 12) ([v2, v3, v4, v5, v6, v7, v8, v9, v10, v11, v12, v13, (IntKind.wrap .u8 (IntKind.wrap .u64 ((48 : Int) + (Int.tmod v1 (10 : Int))))), v15, v16, v17, v18, v19, v20, v21] : List Int))))⟩] else none)) else G 0 (dgtext_C0_12 v0 (IntKind.wrap .u64 (Int.tdiv v1 (10 : Int))) v2 v3 v4 v5 v6 v7 v8 v9 v10 v11 v12 v13 (IntKind.wrap .u8 (IntKind.wrap .u64 ((48 : Int) + (Int.tmod v1 (10 : Int))))) v15 v16 v17 v18 v19 v20 v21)) else none) else none
theorem dgtext_l0_13 (G : Nat → ASt E → Option (List (TV E))) (v0 : Bool) (v1 v2 v3 v4 v5 v6 v7 v8 v9 v10 v11 v12 v13 v14 v15 v16 v17 v18 v19 v20 v21 : Int) : runL dgtext_O dgtext_H G Tryz.f53 0 (dgtext_C0_13 v0 v1 v2 v3 v4 v5 v6 v7 v8 v9 v10 v11 v12 v13 v14 v15 v16 v17 v18 v19 v20 v21) = dgtext_t0_13 G v0 v1 v2 v3 v4 v5 v6 v7 v8 v9 v10 v11 v12 v13 v14 v15 v16 v17 v18 v19 v20 v21 := by kernel_rfl
noncomputable def dgtext_t0_14 (G : Nat → ASt E → Option (List (TV E))) (v0 : Bool) (v1 v2 v3 v4 v5 v6 v7 v8 v9 v10 v11 v12 v13 v14 _v15 v16 v17 v18 v19 v20 v21 : Int) : Option (List (TV E)) :=
  bif (!((10 : Int) == (0 : Int))) then (bif (!((10 : Int) == (0 : Int))) then (bif ((IntKind.wrap .u64 (Int.tdiv v1 (10 : Int))) == (0 : Int)) then (bif v0 then (bif (decide ((0 : Int) ≤ (12 : Int)) && decide ((12 : Int) ≤ (20 : Int)) && decide ((20 : Int) ≤ (20 : Int))) then some [⟨.str, (List.map (fun y => UInt8.ofNat (Int.toNat y)) (List.take (Int.toNat 20 - Int.toNat 12) (List.drop (Int.toNat 12) ([v2, v3, v4, v5, v6, v7, v8, v9, v10, v11, v12, v13, (45 : Int), (IntKind.wrap .u8 (IntKind.wrap .u64 ((48 : Int) + (Int.tmod v1 (10 : Int))))), v16, v17, v18, v19, v20, v21] : List Int))))⟩] else none) else (bif (decide ((0 : Int) ≤ (13 : Int)) && decide ((13 : Int) ≤ (20 : Int)) && decide ((20 : Int) ≤ (20 : Int))) then some [⟨.str, (List.map (fun y => UInt8.ofNat (Int.toNat y)) (List.take (Int.toNat 20 - Int.toNat 13) (List.drop (Int.toNat 13) ([v2, v3, v4, v5, v6, v7, v8, v9, v10, v11, v12, v13, v14, (IntKind.wrap .u8 (IntKind.wrap .u64 ((48 : Int) + (Int.tmod v1 (10 : Int))))), v16, v17, v18, v19, v20, v21] : List Int))))⟩] else none)) else G 0 (dgtext_C0_13 v0 (IntKind.wrap .u64 (Int.tdiv v1 (10 : Int))) v2 v3 v4 v5 v6 v7 v8 v9 v10 v11 v12 v13 v14 (IntKind.wrap .u8 (IntKind.wrap .u64 ((48 : Int) + (Int.tmod v1 (10 : Int))))) v16 v17 v18 v19 v20 v21)) else none) else none
theorem dgtext_l0_14 (G : Nat → ASt E → Option (List (TV E))) (v0 : Bool) (v1 v2 v3 v4 v5 v6 v7 v8 v9 v10 v11 v12 v13 v14 v15 v16 v17 v18 v19 v20 v21 : Int) : runL dgtext_O dgtext_H G Tryz.f53 0 (dgtext_C0_14 v0 v1 v2 v3 v4 v5 v6 v7 v8 v9 v10 v11 v12 v13 v14 v15 v16 v17 v18 v19 v20 v21) = dgtext_t0_14 G v0 v1 v2 v3 v4 v5 v6 v7 v8 v9 v10 v11 v12 v13 v14 v15 v16 v17 v18 v19 v20 v21 := by kernel_rfl
noncomputable def dgtext_t0_15 (G : Nat → ASt E → Option (List (TV E))) (v0 : Bool) (v1 v2 v3 v4 v5 v6 v7 v8 v9 v10 v11 v12 v13 v14 v15 _v16 v17 v18 v19 v20 v21 : Int) : Option (List (TV E)) :=
  bif (!((10 : Int) == (0 : Int))) then (bif (!((10 : Int) == (0 : Int))) then (bif ((IntKind.wrap .u64 (Int.tdiv v1 (10 : Int))) == (0 : Int)) then (bif v0 then (bif (decide ((0 : Int) ≤ (13 : Int)) && decide ((13 : Int) ≤ (20 : Int)) && decide ((20 : Int) ≤ (20 : Int))) then some [⟨.str, (List.map (fun y => UInt8.ofNat (Int.toNat y)) (List.take (Int.toNat 20 - Int.toNat 13) (List.drop (Int.toNat 13) ([v2, v3, v4, v5, v6, v7, v8, v9, v10, v11, v12, v13, v14, (45 : Int), (IntKind.wrap .u8 (IntKind.wrap .u64 ((48 : Int) + (Int.tmod v1 (10 : Int))))), v17, v18, v19, v20, v21] : List Int))))⟩] else none) else (bif (decide ((0 : Int) ≤ (14 : Int)) && decide ((14 : Int) ≤ (20 : Int)) && decide ((20 : Int) ≤ (20 : Int))) then some [⟨.str, (List.map (fun y => UInt8.ofNat (Int.toNat y)) (List.take (Int.toNat 20 - Int.toNat 14) (List.drop (Int.toNat 14) ([v2, v3, v4, v5, v6, v7, v8, v9, v10, v11, v12, v13, v14, v15, (IntKind.wrap .u8 (IntKind.wrap .u64 ((48 : Int) + (Int.tmod v1 (10 : Int))))), v17, v18, v19, v20, v21] : List Int))))⟩] else none)) else G 0 (dgtext_C0_14 v0 (IntKind.wrap .u64 (Int.tdiv v1 (10 : Int))) v2 v3 v4 v5 v6 v7 v8 v9 v10 v11 v12 v13 v14 v15 (IntKind.wrap .u8 (IntKind.wrap .u64 ((48 : Int) + (Int.tmod v1 (10 : Int))))) v17 v18 v19 v20 v21)) else none) else none
theorem dgtext_l0_15 (G : Nat → ASt E → Option (List (TV E))) (v0 : Bool) (v1 v2 v3 v4 v5 v6 v7 v8 v9 v10 v11 v12 v13 v14 v15 v16 v17 v18 v19 v20 v21 : Int) : runL dgtext_O dgtext_H G Tryz.f53 0 (dgtext_C0_15 v0 v1 v2 v3 v4 v5 v6 v7 v8 v9 v10 v11 v12 v13 v14 v15 v16 v17 v18 v19 v20 v21) = dgtext_t0_15 G v0 v1 v2 v3 v4 v5 v6 v7 v8 v9 v10 v11 v12 v13 v14 v15 v16 v17 v18 v19 v20 v21 := by kernel_rfl
noncomputable def dgtext_t0_16 (G : Nat → ASt E → Option (List (TV E))) (v0 : Bool) (v1 v2 v3 v4 v5 v6 v7 v8 v9 v10 v11 v12 v13 v14 v15 v16 _v17 v18 v19 v20 v21 : Int) : Option (List (TV E)) :=
  bif (!((10 : Int) == (0 : Int))) then (bif (!((10 : Int) == (0 : Int))) then (bif ((IntKind.wrap .u64 (Int.tdiv v1 (10 : Int))) == (0 : Int)) then (bif v0 then (bif (decide ((0 : Int) ≤ (14 : Int)) && decide ((14 : Int) ≤ (20 : Int)) && decide ((20 : Int) ≤ (20 : Int))) then some [⟨.str, (List.map (fun y => UInt8.ofNat (Int.toNat y)) (List.take (Int.toNat 20 - Int.toNat 14) (List.drop (Int.toNat 14) ([v2, v3, v4, v5, v6, v7, v8, v9, v10, v11, v12, v13, v14, v15, (45 : Int), (IntKind.wrap .u8 (IntKind.wrap .u64 ((48 : Int) + (Int.tmod v1 (10 : Int))))), v18, v19, v20, v21] : List Int))))⟩] else none) else (bif (decide ((0 : Int) ≤ (15 : Int)) && decide ((15 : Int) ≤ (20 : Int)) && decide ((20 : Int) ≤ (20 : Int))) then some [⟨.str, (List.map (fun y => UInt8.ofNat (Int.toNat y)) (List.take (Int.toNat 20 - Int.toNat 15) (List.drop (Int.toNat 15) ([v2, v3, v4, v5, v6, v7, v8, v9, v10, v11, v12, v13, v14, v15, v16, (IntKind.wrap .u8 (IntKind.wrap .u64 ((48 : Int) + (Int.tmod v1 (10 : Int))))), v18, v19, v20, v21] : List Int))))⟩] else none)) else G 0 (dgtext_C0_15 v0 (IntKind.wrap .u64 (Int.tdiv v1 (10 : Int))) v2 v3 v4 v5 v6 v7 v8 v9 v10 v11 v12 v13 v14 v15 v16 (IntKind.wrap .u8 (IntKind.wrap .u64 ((48 : Int) + (Int.tmod v1 (10 : Int))))) v18 v19 v20 v21)) else none) else none
theorem dgtext_l0_16 (G : Nat → ASt E → Option (List (TV E))) (v0 : Bool) (v1 v2 v3 v4 v5 v6 v7 v8 v9 v10 v11 v12 v13 v14 v15 v16 v17 v18 v19 v20 v21 : Int) : runL dgtext_O dgtext_H G Tryz.f53 0 (dgtext_C0_16 v0 v1 v2 v3 v4 v5 v6 v7 v8 v9 v10 v11 v12 v13 v14 v15 v16 v17 v18 v19 v20 v21) = dgtext_t0_16 G v0 v1 v2 v3 v4 v5 v6 v7 v8 v9 v10 v11 v12 v13 v14 v15 v16 v17 v18 v19 v20 v21 := by kernel_rfl
noncomputable def dgtext_t0_17 (G : Nat → ASt E → Option (List (TV E))) (v0 : Bool) (v1 v2 v3 v4 v5 v6 v7 v8 v9 v10 v11 v12 v13 v14 v15 v16 v17 _v18 v19 v20 v21 : Int) : Option (List (TV E)) :=
  bif (!((10 : Int) == (0 : Int))) then (bif (!((10 : Int) == (0 : Int))) then (bif ((IntKind.wrap .u64 (Int.tdiv v1 (10 : Int))) == (0 : Int)) then (bif v0 then (bif (decide ((0 : Int) ≤ (15 : Int)) && decide ((15 : Int) ≤ (20 : Int)) && decide ((20 : Int) ≤ (20 : Int))) then some [⟨.str, (List.map (fun y => UInt8.ofNat (Int.toNat y)) (List.take (Int.toNat 20 - Int.toNat 15) (List.drop (Int.toNat 15) ([v2, v3, v4, v5, v6, v7, v8, v9, v10, v11, v12, v13, v14, v15, v16, (45 : Int), (IntKind.wrap .u8 (IntKind.wrap .u64 ((48 : Int) + (Int.tmod v1 (10 : Int))))), v19, v20, v21] : List Int))))⟩] else none) else (bif (decide ((0 : Int) ≤ (16 : Int)) && decide ((16 : Int) ≤ (20 : Int)) && decide ((20 : Int) ≤ (20 : Int))) then some [⟨.str, (List.map (fun y => UInt8.ofNat (Int.toNat y)) (List.take (Int.toNat 20 - Int.toNat 16) (List.drop (Int.toNat 16) ([v2, v3, v4, v5, v6, v7, v8, v9, v10, v11, v12, v13, v14, v15, v16, v17, (IntKind.wrap .u8 (IntKind.wrap .u64 ((48 : Int) + (Int.tmod v1 (10 : Int))))), v19, v20, v21] : List Int))))⟩] else none)) else G 0 (dgtext_C0_16 v0 (IntKind.wrap .u64 (Int.tdiv v1 (10 : Int))) v2 v3 v4 v5 v6 v7 v8 v9 v10 v11 v12 v13 v14 v15 v16 v17 (IntKind.wrap .u8 (IntKind.wrap .u64 ((48 : Int) + (Int.tmod v1 (10 : Int))))) v19 v20 v21)) else none) else none
theorem dgtext_l0_17 (G : Nat → ASt E → Option (List (TV E))) (v0 : Bool) (v1 v2 v3 v4 v5 v6 v7 v8 v9 v10 v11 v12 v13 v14 v15 v16 v17 v18 v19 v20 v21 : Int) : runL dgtext_O dgtext_H G Tryz.f53 0 (dgtext_C0_17 v0 v1 v2 v3 v4 v5 v6 v7 v8 v9 v10 v11 v12 v13 v14 v15 v16 v17 v18 v19 v20 v21) = dgtext_t0_17 G v0 v1 v2 v3 v4 v5 v6 v7 v8 v9 v10 v11 v12 v13 v14 v15 v16 v17 v18 v19 v20 v21 := by kernel_rfl
noncomputable def dgtext_t0_18 (G : Nat → ASt E → Option (List (TV E))) (v0 : Bool) (v1 v2 v3 v4 v5 v6 v7 v8 v9 v10 v11 v12 v13 v14 v15 v16 v17 v18 _v19 v20 v21 : Int) : Option (List (TV E)) :=
  bif (!((10 : Int) == (0 : Int))) then (bif (!((10 : Int) == (0 : Int))) then (bif ((IntKind.wrap .u64 (Int.tdiv v1 (10 : Int))) == (0 : Int)) then (bif v0 then (bif (decide ((0 : Int) ≤ (16 : Int)) && decide ((16 : Int) ≤ (20 : Int)) && decide ((20 : Int) ≤ (20 : Int))) then some [⟨.str, (List.map (fun y => UInt8.ofNat (Int.toNat y)) (List.take (Int.toNat 20 - Int.toNat 16) (List.drop (Int.toNat 16) ([v2, v3, v4, v5, v6, v7, v8, v9, v10, v11, v12, v13, v14, v15, v16, v17, (45 : Int), (IntKind.wrap .u8 (IntKind.wrap .u64 ((48 : Int) + (Int.tmod v1 (10 : Int))))), v20, v21] : List Int))))⟩] else none) else (bif (decide ((0 : Int) ≤ (17 : Int)) && decide ((17 : Int) ≤ (20 : Int)) && decide ((20 : Int) ≤ (20 : Int))) then some [⟨.str, (List.map (fun y => UInt8.ofNat (Int.toNat y)) (List.take (Int.toNat 20 - Int.toNat 17) (List.drop (Int.toNat 17) ([v2, v3, v4, v5, v6, v7, v8, v9, v10, v11, v12, v13, v14, v15, v16, v17, v18, (IntKind.wrap .u8 (IntKind.wrap .u64 ((48 : Int) + (Int.tmod v1 (10 : Int))))), v20, v21] : List Int))))⟩] else none)) else G 0 (dgtext_C0_17 v0 (IntKind.wrap .u64 (Int.tdiv v1 (10 : Int))) v2 v3 v4 v5 v6 v7 v8 v9 v10 v11 v12 v13 v14 v15 v16 v17 v18 (IntKind.wrap .u8 (IntKind.wrap .u64 ((48 : Int) + (Int.tmod v1 (10 : Int))))) v20 v21)) else none) else none
theorem dgtext_l0_18 (G : Nat → ASt E → Option (List (TV E))) (v0 : Bool) (v1 v2 v3 v4 v5 v6 v7 v8 v9 v10 v11 v12 v13 v14 v15 v16 v17 v18 v19 v20 v21 : Int) : runL dgtext_O dgtext_H G Tryz.f53 0 (dgtext_C0_18 v0 v1 v2 v3 v4 v5 v6 v7 v8 v9 v10 v11 v12 v13 v14 v15 v16 v17 v18 v19 v20 v21) = dgtext_t0_18 G v0 v1 v2 v3 v4 v5 v6 v7 v8 v9 v10 v11 v12 v13 v14 v15 v16 v17 v18 v19 v20 v21 := by kernel_rfl
noncomputable def dgtext_t0_19 (G : Nat → ASt E → Option (List (TV E))) (v0 : Bool) (v1 v2 v3 v4 v5 v6 v7 v8 v9 v10 v11 v12 v13 v14 v15 v16 v17 v18 v19 _v20 v21 : Int) : Option (List (TV E)) :=
  bif (!((10 : Int) == (0 : Int))) then (bif (!((10 : Int) == (0 : Int))) then (bif ((IntKind.wrap .u64 (Int.tdiv v1 (10 : Int))) == (0 : Int)) then (bif v0 then (bif (decide ((0 : Int) ≤ (17 : Int)) && decide ((17 : Int) ≤ (20 : Int)) && decide ((20 : Int) ≤ (20 : Int))) then some [⟨.str, (List.map (fun y => UInt8.ofNat (Int.toNat y)) (List.take (Int.toNat 20 - Int.toNat 17) (List.drop (Int.toNat 17) ([v2, v3, v4, v5, v6, v7, v8, v9, v10, v11, v12, v13, v14, v15, v16, v17, v18, (45 : Int), (IntKind.wrap .u8 (IntKind.wrap .u64 ((48 : Int) + (Int.tmod v1 (10 : Int))))), v21] : List Int))))⟩] else none) else (bif (decide ((0 : Int) ≤ (18 : Int)) && decide ((18 : Int) ≤ (20 : Int)) && decide ((20 : Int) ≤ (20 : Int))) then some [⟨.str, (List.map (fun y => UInt8.ofNat (Int.toNat y)) (List.take (Int.toNat 20 - Int.toNat 18) (List.drop (Int.toNat 18) ([v2, v3, v4, v5, v6, v7, v8, v9, v10, v11, v12, v13, v14, v15, v16, v17, v18, v19, (IntKind.wrap .u8 (IntKind.wrap .u64 ((48 : Int) + (Int.tmod v1 (10 : Int))))), v21] : List Int))))⟩] else none)) else G 0 (dgtext_C0_18 v0 (IntKind.wrap .u64 (Int.tdiv v1 (10 : Int))) v2 v3 v4 v5 v6 v7 v8 v9 v10 v11 v12 v13 v14 v15 v16 v17 v18 v19 (IntKind.wrap .u8 (IntKind.wrap .u64 ((48 : Int) + (Int.tmod v1 (10 : Int))))) v21)) else none) else none
theorem dgtext_l0_19 (G : Nat → ASt E → Option (List (TV E))) (v0 : Bool) (v1 v2 v3 v4 v5 v6 v7 v8 v9 v10 v11 v12 v13 v14 v15 v16 v17 v18 v19 v20 v21 : Int) : runL dgtext_O dgtext_H G Tryz.f53 0 (dgtext_C0_19 v0 v1 v2 v3 v4 v5 v6 v7 v8 v9 v10 v11 v12 v13 v14 v15 v16 v17 v18 v19 v20 v21) = dgtext_t0_19 G v0 v1 v2 v3 v4 v5 v6 v7 v8 v9 v10 v11 v12 v13 v14 v15 v16 v17 v18 v19 v20 v21 := by kernel_rfl
noncomputable def dgtext_t0_2 (G : Nat → ASt E → Option (List (TV E))) (v0 : Bool) (v1 v2 _v3 v4 v5 v6 v7 v8 v9 v10 v11 v12 v13 v14 v15 v16 v17 v18 v19 v20 v21 : Int) : Option (List (TV E)) :=
  bif (!((10 : Int) == (0 : Int))) then (bif (!((10 : Int) == (0 : Int))) then (bif ((IntKind.wrap .u64 (Int.tdiv v1 (10 : Int))) == (0 : Int)) then (bif v0 then (bif (decide ((0 : Int) ≤ (0 : Int)) && decide ((0 : Int) ≤ (20 : Int)) && decide ((20 : Int) ≤ (20 : Int))) then some [⟨.str, (List.map (fun y => UInt8.ofNat (Int.toNat y)) (List.take (Int.toNat 20 - Int.toNat 0) (List.drop (Int.toNat 0) ([(45 : Int), (IntKind.wrap .u8 (IntKind.wrap .u64 ((48 : Int) + (Int.tmod v1 (10 : Int))))), v4, v5, v6, v7, v8, v9, v10, v11, v12, v13, v14, v15, v16, v17, v18, v19, v20, v21] : List Int))))⟩] else none) else (bif (decide ((0 : Int) ≤ (1 : Int)) && decide ((1 : Int) ≤ (20 : Int)) && decide ((20 : Int) ≤ (20 : Int))) then some [⟨.str, (List.map (fun y => UInt8.ofNat (Int.toNat y)) (List.take (Int.toNat 20 - Int.toNat 1) (List.drop (Int.toNat 1) ([v2, (IntKind.wrap .u8 (IntKind.wrap .u64 ((48 : Int) + (Int.tmod v1 (10 : Int))))), v4, v5, v6, v7, v8, v9, v10, v11, v12, v13, v14, v15, v16, v17, v18, v19, v20, v21] : List Int))))⟩] else none)) else G 0 (dgtext_C0_1 v0 (IntKind.wrap .u64 (Int.tdiv v1 (10 : Int))) v2 (IntKind.wrap .u8 (IntKind.wrap .u64 ((48 : Int) + (Int.tmod v1 (10 : Int))))) v4 v5 v6 v7 v8 v9 v10 v11 v12 v13 v14 v15 v16 v17 v18 v19 v20 v21)) else none) else none
theorem dgtext_l0_2 (G : Nat → ASt E → Option (List (TV E))) (v0 : Bool) (v1 v2 v3 v4 v5 v6 v7 v8 v9 v10 v11 v12 v13 v14 v15 v16 v17 v18 v19 v20 v21 : Int) : runL dgtext_O dgtext_H G Tryz.f53 0 (dgtext_C0_2 v0 v1 v2 v3 v4 v5 v6 v7 v8 v9 v10 v11 v12 v13 v14 v15 v16 v17 v18 v19 v20 v21) = dgtext_t0_2 G v0 v1 v2 v3 v4 v5 v6 v7 v8 v9 v10 v11 v12 v13 v14 v15 v16 v17 v18 v19 v20 v21 := by kernel_rfl
noncomputable def dgtext_t0_20 (G : Nat → ASt E → Option (List (TV E))) (v0 : Bool) (v1 v2 v3 v4 v5 v6 v7 v8 v9 v10 v11 v12 v13 v14 v15 v16 v17 v18 v19 v20 _v21 : Int) : Option (List (TV E)) :=
  bif (!((10 : Int) == (0 : Int))) then (bif (!((10 : Int) == (0 : Int))) then (bif ((IntKind.wrap .u64 (Int.tdiv v1 (10 : Int))) == (0 : Int)) then (bif v0 then (bif (decide ((0 : Int) ≤ (18 : Int)) && decide ((18 : Int) ≤ (20 : Int)) && decide ((20 : Int) ≤ (20 : Int))) then some [⟨.str, (List.map (fun y => UInt8.ofNat (Int.toNat y)) (List.take (Int.toNat 20 - Int.toNat 18) (List.drop (Int.toNat 18) ([v2, v3, v4, v5, v6, v7, v8, v9, v10, v11, v12, v13, v14, v15, v16, v17, v18, v19, (45 : Int), (IntKind.wrap .u8 (IntKind.wrap .u64 ((48 : Int) + (Int.tmod v1 (10 : Int)))))] : List Int))))⟩] else none) else (bif (decide ((0 : Int) ≤ (19 : Int)) && decide ((19 : Int) ≤ (20 : Int)) && decide ((20 : Int) ≤ (20 : Int))) then some [⟨.str, (List.map (fun y => UInt8.ofNat (Int.toNat y)) (List.take (Int.toNat 20 - Int.toNat 19) (List.drop (Int.toNat 19) ([v2, v3, v4, v5, v6, v7, v8, v9, v10, v11, v12, v13, v14, v15, v16, v17, v18, v19, v20, (IntKind.wrap .u8 (IntKind.wrap .u64 ((48 : Int) + (Int.tmod v1 (10 : Int)))))] : List Int))))⟩] else none)) else G 0 (dgtext_C0_19 v0 (IntKind.wrap .u64 (Int.tdiv v1 (10 : Int))) v2 v3 v4 v5 v6 v7 v8 v9 v10 v11 v12 v13 v14 v15 v16 v17 v18 v19 v20 (IntKind.wrap .u8 (IntKind.wrap .u64 ((48 : Int) + (Int.tmod v1 (10 : Int))))))) else none) else none
theorem dgtext_l0_20 (G : Nat → ASt E → Option (List (TV E))) (v0 : Bool) (v1 v2 v3 v4 v5 v6 v7 v8 v9 v10 v11 v12 v13 v14 v15 v16 v17 v18 v19 v20 v21 : Int) : runL dgtext_O dgtext_H G Tryz.f53 0 (dgtext_C0_20 v0 v1 v2 v3 v4 v5 v6 v7 v8 v9 v10 v11 v12 v13 v14 v15 v16 v17 v18 v19 v20 v21) = dgtext_t0_20 G v0 v1 v2 v3 v4 v5 v6 v7 v8 v9 v10 v11 v12 v13 v14 v15 v16 v17 v18 v19 v20 v21 := by kernel_rfl
noncomputable def dgtext_t0_3 (G : Nat → ASt E → Option (List (TV E))) (v0 : Bool) (v1 v2 v3 _v4 v5 v6 v7 v8 v9 v10 v11 v12 v13 v14 v15 v16 v17 v18 v19 v20 v21 : Int) : Option (List (TV E)) :=
  bif (!((10 : Int) == (0 : Int))) then (bif (!((10 : Int) == (0 : Int))) then (bif ((IntKind.wrap .u64 (Int.tdiv v1 (10 : Int))) == (0 : Int)) then (bif v0 then (bif (decide ((0 : Int) ≤ (1 : Int)) && decide ((1 : Int) ≤ (20 : Int)) && decide ((20 : Int) ≤ (20 : Int))) then some [⟨.str, (List.map (fun y => UInt8.ofNat (Int.toNat y)) (List.take (Int.toNat 20 - Int.toNat 1) (List.drop (Int.toNat 1) ([v2, (45 : Int), (IntKind.wrap .u8 (IntKind.wrap .u64 ((48 : Int) + (Int.tmod v1 (10 : Int))))), v5, v6, v7, v8, v9, v10, v11, v12, v13, v14, v15, v16, v17, v18, v19, v20, v21] : List Int))))⟩] else none) else (bif (decide ((0 : Int) ≤ (2 : Int)) && decide ((2 : Int) ≤ (20 : Int)) && decide ((20 : Int) ≤ (20 : Int))) then some [⟨.str, (List.map (fun y => UInt8.ofNat (Int.toNat y)) (List.take (Int.toNat 20 - Int.toNat 2) (List.drop (Int.toNat 2) ([v2, v3, (IntKind.wrap .u8 (IntKind.wrap .u64 ((48 : Int) + (Int.tmod v1 (10 : Int))))), v5, v6, v7, v8, v9, v10, v11, v12, v13, v14, v15, v16, v17, v18, v19, v20, v21] : List Int))))⟩] else none)) else G 0 (dgtext_C0_2 v0 (IntKind.wrap .u64 (Int.tdiv v1 (10 : Int))) v2 v3 (IntKind.wrap .u8 (IntKind.wrap .u64 ((48 : Int) + (Int.tmod v1 (10 : Int))))) v5 v6 v7 v8 v9 v10 v11 v12 v13 v14 v15 v16 v17 v18 v19 v20 v21)) else none) else none
theorem dgtext_l0_3 (G : Nat → ASt E → Option (List (TV E))) (v0 : Bool) (v1 v2 v3 v4 v5 v6 v7 v8 v9 v10 v11 v12 v13 v14 v15 v16 v17 v18 v19 v20 v21 : Int) : runL dgtext_O dgtext_H G Tryz.f53 0 (dgtext_C0_3 v0 v1 v2 v3 v4 v5 v6 v7 v8 v9 v10 v11 v12 v13 v14 v15 v16 v17 v18 v19 v20 v21) = dgtext_t0_3 G v0 v1 v2 v3 v4 v5 v6 v7 v8 v9 v10 v11 v12 v13 v14 v15 v16 v17 v18 v19 v20 v21 := by kernel_rfl
noncomputable def dgtext_t0_4 (G : Nat → ASt E → Option (List (TV E))) (v0 : Bool) (v1 v2 v3 v4 _v5 v6 v7 v8 v9 v10 v11 v12 v13 v14 v15 v16 v17 v18 v19 v20 v21 : Int) : Option (List (TV E)) :=
  bif (!((10 : Int) == (0 : Int))) then (bif (!((10 : Int) == (0 : Int))) then (bif ((IntKind.wrap .u64 (Int.tdiv v1 (10 : Int))) == (0 : Int)) then (bif v0 then (bif (decide ((0 : Int) ≤ (2 : Int)) && decide ((2 : Int) ≤ (20 : Int)) && decide ((20 : Int) ≤ (20 : Int))) then some [⟨.str, (List.map (fun y => UInt8.ofNat (Int.toNat y)) (List.take (Int.toNat 20 - Int.toNat 2) (List.drop (Int.toNat 2) ([v2, v3, (45 : Int), (IntKind.wrap .u8 (IntKind.wrap .u64 ((48 : Int) + (Int.tmod v1 (10 : Int))))), v6, v7, v8, v9, v10, v11, v12, v13, v14, v15, v16, v17, v18, v19, v20, v21] : List Int))))⟩] else none) else (bif (decide ((0 : Int) ≤ (3 : Int)) && decide ((3 : Int) ≤ (20 : Int)) && decide ((20 : Int) ≤ (20 : Int))) then some [⟨.str, (List.map (fun y => UInt8.ofNat (Int.toNat y)) (List.take (Int.toNat 20 - Int.toNat 3) (List.drop (Int.toNat 3) ([v2, v3, v4, (IntKind.wrap .u8 (IntKind.wrap .u64 ((48 : Int) + (Int.tmod v1 (10 : Int))))), v6, v7, v8, v9, v10, v11, v12, v13, v14, v15, v16, v17, v18, v19, v20, v21] : List Int))))⟩] else none)) else G 0 (dgtext_C0_3 v0 (IntKind.wrap .u64 (Int.tdiv v1 (10 : Int))) v2 v3 v4 (IntKind.wrap .u8 (IntKind.wrap .u64 ((48 : Int) + (Int.tmod v1 (10 : Int))))) v6 v7 v8 v9 v10 v11 v12 v13 v14 v15 v16 v17 v18 v19 v20 v21)) else none) else none
theorem dgtext_l0_4 (G : Nat → ASt E → Option (List (TV E))) (v0 : Bool) (v1 v2 v3 v4 v5 v6 v7 v8 v9 v10 v11 v12 v13 v14 v15 v16 v17 v18 v19 v20 v21 : Int) : runL dgtext_O dgtext_H G Tryz.f53 0 (dgtext_C0_4 v0 v1 v2 v3 v4 v5 v6 v7 v8 v9 v10 v11 v12 v13 v14 v15 v16 v17 v18 v19 v20 v21) = dgtext_t0_4 G v0 v1 v2 v3 v4 v5 v6 v7 v8 v9 v10 v11 v12 v13 v14 v15 v16 v17 v18 v19 v20 v21 := by kernel_rfl
noncomputable def dgtext_t0_5 (G : Nat → ASt E → Option (List (TV E))) (v0 : Bool) (v1 v2 v3 v4 v5 _v6 v7 v8 v9 v10 v11 v12 v13 v14 v15 v16 v17 v18 v19 v20 v21 : Int) : Option (List (TV E)) :=
  bif (!((10 : Int) == (0 : Int))) then (bif (!((10 : Int) == (0 : Int))) then (bif ((IntKind.wrap .u64 (Int.tdiv v1 (10 : Int))) == (0 : Int)) then (bif v0 then (bif (decide ((0 : Int) ≤ (3 : Int)) && decide ((3 : Int) ≤ (20 : Int)) && decide ((20 : Int) ≤ (20 : Int))) then some [⟨.str, (List.map (fun y => UInt8.ofNat (Int.toNat y)) (List.take (Int.toNat 20 - Int.toNat 3) (List.drop (Int.toNat 3) ([v2, v3, v4, (45 : Int), (IntKind.wrap .u8 (IntKind.wrap .u64 ((48 : Int) + (Int.tmod v1 (10 : Int))))), v7, v8, v9, v10, v11, v12, v13, v14, v15, v16, v17, v18, v19, v20, v21] : List Int))))⟩] else none) else (bif (decide ((0 : Int) ≤ (4 : Int)) && decide ((4 : Int) ≤ (20 : Int)) && decide ((20 : Int) ≤ (20 : Int))) then some [⟨.str, (List.map (fun y => UInt8.ofNat (Int.toNat y)) (List.take (Int.toNat 20 - Int.toNat 4) (List.drop (Int.toNat 4) ([v2, v3, v4, v5, (IntKind.wrap .u8 (IntKind.wrap .u64 ((48 : Int) + (Int.tmod v1 (10 : Int))))), v7, v8, v9, v10, v11, v12, v13, v14, v15, v16, v17, v18, v19, v20, v21] : List Int))))⟩] else none)) else G 0 (dgtext_C0_4 v0 (IntKind.wrap .u64 (Int.tdiv v1 (10 : Int))) v2 v3 v4 v5 (IntKind.wrap .u8 (IntKind.wrap .u64 ((48 : Int) + (Int.tmod v1 (10 : Int))))) v7 v8 v9 v10 v11 v12 v13 v14 v15 v16 v17 v18 v19 v20 v21)) else none) else none
theorem dgtext_l0_5 (G : Nat → ASt E → Option (List (TV E))) (v0 : Bool) (v1 v2 v3 v4 v5 v6 v7 v8 v9 v10 v11 v12 v13 v14 v15 v16 v17 v18 v19 v20 v21 : Int) : runL dgtext_O dgtext_H G Tryz.f53 0 (dgtext_C0_5 v0 v1 v2 v3 v4 v5 v6 v7 v8 v9 v10 v11 v12 v13 v14 v15 v16 v17 v18 v19 v20 v21) = dgtext_t0_5 G v0 v1 v2 v3 v4 v5 v6 v7 v8 v9 v10 v11 v12 v13 v14 v15 v16 v17 v18 v19 v20 v21 := by kernel_rfl
noncomputable def dgtext_t0_6 (G : Nat → ASt E → Option (List (TV E))) (v0 : Bool) (v1 v2 v3 v4 v5 v6 _v7 v8 v9 v10 v11 v12 v13 v14 v15 v16 v17 v18 v19 v20 v21 : Int) : Option (List (TV E)) :=
  bif (!((10 : Int) == (0 : Int))) then (bif (!((10 : Int) == (0 : Int))) then (bif ((IntKind.wrap .u64 (Int.tdiv v1 (10 : Int))) == (0 : Int)) then (bif v0 then (bif (decide ((0 : Int) ≤ (4 : Int)) && decide ((4 : Int) ≤ (20 : Int)) && decide ((20 : Int) ≤ (20 : Int))) then some [⟨.str, (List.map (fun y => UInt8.ofNat (Int.toNat y)) (List.take (Int.toNat 20 - Int.toNat 4) (List.drop (Int.toNat 4) ([v2, v3, v4, v5, (45 : Int), (IntKind.wrap .u8 (IntKind.wrap .u64 ((48 : Int) + (Int.tmod v1 (10 : Int))))), v8, v9, v10, v11, v12, v13, v14, v15, v16, v17, v18, v19, v20, v21] : List Int))))⟩] else none) else (bif (decide ((0 : Int) ≤ (5 : Int)) && decide ((5 : Int) ≤ (20 : Int)) && decide ((20 : Int) ≤ (20 : Int))) then some [⟨.str, (List.map (fun y => UInt8.ofNat (Int.toNat y)) (List.take (Int.toNat 20 - Int.toNat 5) (List.drop (Int.toNat 5) ([v2, v3, v4, v5, v6, (IntKind.wrap .u8 (IntKind.wrap .u64 ((48 : Int) + (Int.tmod v1 (10 : Int))))), v8, v9, v10, v11, v12, v13, v14, v15, v16, v17, v18, v19, v20, v21] : List Int))))⟩] else none)) else G 0 (dgtext_C0_5 v0 (IntKind.wrap .u64 (Int.tdiv v1 (10 : Int))) v2 v3 v4 v5 v6 (IntKind.wrap .u8 (IntKind.wrap .u64 ((48 : Int) + (Int.tmod v1 (10 : Int))))) v8 v9 v10 v11 v12 v13 v14 v15 v16 v17 v18 v19 v20 v21)) else none) else none
theorem dgtext_l0_6 (G : Nat → ASt E → Option (List (TV E))) (v0 : Bool) (v1 v2 v3 v4 v5 v6 v7 v8 v9 v10 v11 v12 v13 v14 v15 v16 v17 v18 v19 v20 v21 : Int) : runL dgtext_O dgtext_H G Tryz.f53 0 (dgtext_C0_6 v0 v1 v2 v3 v4 v5 v6 v7 v8 v9 v10 v11 v12 v13 v14 v15 v16 v17 v18 v19 v20 v21) = dgtext_t0_6 G v0 v1 v2 v3 v4 v5 v6 v7 v8 v9 v10 v11 v12 v13 v14 v15 v16 v17 v18 v19 v20 v21 := by kernel_rfl
noncomputable def dgtext_t0_7 (G : Nat → ASt E → Option (List (TV E))) (v0 : Bool) (v1 v2 v3 v4 v5 v6 v7 _v8 v9 v10 v11 v12 v13 v14 v15 v16 v17 v18 v19 v20 v21 : Int) : Option (List (TV E)) :=
  bif (!((10 : Int) == (0 : Int))) then (bif (!((10 : Int) == (0 : Int))) then (bif ((IntKind.wrap .u64 (Int.tdiv v1 (10 : Int))) == (0 : Int)) then (bif v0 then (bif (decide ((0 : Int) ≤ (5 : Int)) && decide ((5 : Int) ≤ (20 : Int)) && decide ((20 : Int) ≤ (20 : Int))) then some [⟨.str, (List.map (fun y => UInt8.ofNat (Int.toNat y)) (List.take (Int.toNat 20 - Int.toNat 5) (List.drop (Int.toNat 5) ([v2, v3, v4, v5, v6, (45 : Int), (IntKind.wrap .u8 (IntKind.wrap .u64 ((48 : Int) + (Int.tmod v1 (10 : Int))))), v9, v10, v11, v12, v13, v14, v15, v16, v17, v18, v19, v20, v21] : List Int))))⟩] else none) else (bif (decide ((0 : Int) ≤ (6 : Int)) && decide ((6 : Int) ≤ (20 : Int)) && decide ((20 : Int) ≤ (20 : Int))) then some [⟨.str, (List.map (fun y => UInt8.ofNat (Int.toNat y)) (List.take (Int.toNat 20 - Int.toNat 6) (List.drop (Int.toNat 6) ([v2, v3, v4, v5, v6, v7, (IntKind.wrap .u8 (IntKind.wrap .u64 ((48 : Int) + (Int.tmod v1 (10 : Int))))), v9, v10, v11, v12, v13, v14, v15, v16, v17, v18, v19, v20, v21] : List Int))))⟩] else none)) else G 0 (dgtext_C0_6 v0 (IntKind.wrap .u64 (Int.tdiv v1 (10 : Int))) v2 v3 v4 v5 v6 v7 (IntKind.wrap .u8 (IntKind.wrap .u64 ((48 : Int) + (Int.tmod v1 (10 : Int))))) v9 v10 v11 v12 v13 v14 v15 v16 v17 v18 v19 v20 v21)) else none) else none
theorem dgtext_l0_7 (G : Nat → ASt E → Option (List (TV E))) (v0 : Bool) (v1 v2 v3 v4 v5 v6 v7 v8 v9 v10 v11 v12 v13 v14 v15 v16 v17 v18 v19 v20 v21 : Int) : runL dgtext_O dgtext_H G Tryz.f53 0 (dgtext_C0_7 v0 v1 v2 v3 v4 v5 v6 v7 v8 v9 v10 v11 v12 v13 v14 v15 v16 v17 v18 v19 v20 v21) = dgtext_t0_7 G v0 v1 v2 v3 v4 v5 v6 v7 v8 v9 v10 v11 v12 v13 v14 v15 v16 v17 v18 v19 v20 v21 := by kernel_rfl
noncomputable def dgtext_t0_8 (G : Nat → ASt E → Option (List (TV E))) (v0 : Bool) (v1 v2 v3 v4 v5 v6 v7 v8 _v9 v10 v11 v12 v13 v14 v15 v16 v17 v18 v19 v20 v21 : Int) : Option (List (TV E)) :=
  bif (!((10 : Int) == (0 : Int))) then (bif (!((10 : Int) == (0 : Int))) then (bif ((IntKind.wrap .u64 (Int.tdiv v1 (10 : Int))) == (0 : Int)) then (bif v0 then (bif (decide ((0 : Int) ≤ (6 : Int)) && decide ((6 : Int) ≤ (20 : Int)) && decide ((20 : Int) ≤ (20 : Int))) then some [⟨.str, (List.map (fun y => UInt8.ofNat (Int.toNat y)) (List.take (Int.toNat 20 - Int.toNat 6) (List.drop (Int.toNat 6) ([v2, v3, v4, v5, v6, v7, (45 : Int), (IntKind.wrap .u8 (IntKind.wrap .u64 ((48 : Int) + (Int.tmod v1 (10 : Int))))), v10, v11, v12, v13, v14, v15, v16, v17, v18, v19, v20, v21] : List Int))))⟩] else none) else (bif (decide ((0 : Int) ≤ (7 : Int)) && decide ((7 : Int) ≤ (20 : Int)) && decide ((20 : Int) ≤ (20 : Int))) then some [⟨.str, (List.map (fun y => UInt8.ofNat (Int.toNat y)) (List.take (Int.toNat 20 - Int.toNat 7) (List.drop (Int.toNat 7) ([v2, v3, v4, v5, v6, v7, v8, (IntKind.wrap .u8 (IntKind.wrap .u64 ((48 : Int) + (Int.tmod v1 (10 : Int))))), v10, v11, v12, v13, v14, v15, v16, v17, v18, v19, v20, v21] : List Int))))⟩] else none)) else G 0 (dgtext_C0_7 v0 (IntKind.wrap .u64 (Int.tdiv v1 (10 : Int))) v2 v3 v4 v5 v6 v7 v8 (IntKind.wrap .u8 (IntKind.wrap .u64 ((48 : Int) + (Int.tmod v1 (10 : Int))))) v10 v11 v12 v13 v14 v15 v16 v17 v18 v19 v20 v21)) else none) else none
theorem dgtext_l0_8 (G : Nat → ASt E → Option (List (TV E))) (v0 : Bool) (v1 v2 v3 v4 v5 v6 v7 v8 v9 v10 v11 v12 v13 v14 v15 v16 v17 v18 v19 v20 v21 : Int) : runL dgtext_O dgtext_H G Tryz.f53 0 (dgtext_C0_8 v0 v1 v2 v3 v4 v5 v6 v7 v8 v9 v10 v11 v12 v13 v14 v15 v16 v17 v18 v19 v20 v21) = dgtext_t0_8 G v0 v1 v2 v3 v4 v5 v6 v7 v8 v9 v10 v11 v12 v13 v14 v15 v16 v17 v18 v19 v20 v21 := by kernel_rfl
noncomputable def dgtext_t0_9 (G : Nat → ASt E → Option (List (TV E))) (v0 : Bool) (v1 v2 v3 v4 v5 v6 v7 v8 v9 _v10 v11 v12 v13 v14 v15 v16 v17 v18 v19 v20 v21 : Int) : Option (List (TV E)) :=
  bif (!((10 : Int) == (0 : Int))) then (bif (!((10 : Int) == (0 : Int))) then (bif ((IntKind.wrap .u64 (Int.tdiv v1 (10 : Int))) == (0 : Int)) then (bif v0 then (bif (decide ((0 : Int) ≤ (7 : Int)) && decide ((7 : Int) ≤ (20 : Int)) && decide ((20 : Int) ≤ (20 : Int))) then some [⟨.str, (List.map (fun y => UInt8.ofNat (Int.toNat y)) (List.take (Int.toNat 20 - Int.toNat 7) (List.drop (Int.toNat 7) ([v2, v3, v4, v5, v6, v7, v8, (45 : Int), (IntKind.wrap .u8 (IntKind.wrap .u64 ((48 : Int) + (Int.tmod v1 (10 : Int))))), v11, v12, v13, v14, v15, v16, v17, v18, v19, v20, v21] : List Int))))⟩] else none) else (bif (decide ((0 : Int) ≤ (8 : Int)) && decide ((8 : Int) ≤ (20 : Int)) && decide ((20 : Int) ≤ (20 : Int))) then some [⟨.str, (List.map (fun y => UInt8.ofNat (Int.toNat y)) (List.take (Int.toNat 20 - Int.toNat 8) (List.drop (Int.toNat 8) ([v2, v3, v4, v5, v6, v7, v8, v9, (IntKind.wrap .u8 (IntKind.wrap .u64 ((48 : Int) + (Int.tmod v1 (10 : Int))))), v11, v12, v13, v14, v15, v16, v17, v18, v19, v20, v21] : List Int))))⟩] else none)) else G 0 (dgtext_C0_8 v0 (IntKind.wrap .u64 (Int.tdiv v1 (10 : Int))) v2 v3 v4 v5 v6 v7 v8 v9 (IntKind.wrap .u8 (IntKind.wrap .u64 ((48 : Int) + (Int.tmod v1 (10 : Int))))) v11 v12 v13 v14 v15 v16 v17 v18 v19 v20 v21)) else none) else none
theorem dgtext_l0_9 (G : Nat → ASt E → Option (List (TV E))) (v0 : Bool) (v1 v2 v3 v4 v5 v6 v7 v8 v9 v10 v11 v12 v13 v14 v15 v16 v17 v18 v19 v20 v21 : Int) : runL dgtext_O dgtext_H G Tryz.f53 0 (dgtext_C0_9 v0 v1 v2 v3 v4 v5 v6 v7 v8 v9 v10 v11 v12 v13 v14 v15 v16 v17 v18 v19 v20 v21) = dgtext_t0_9 G v0 v1 v2 v3 v4 v5 v6 v7 v8 v9 v10 v11 v12 v13 v14 v15 v16 v17 v18 v19 v20 v21 := by kernel_rfl
theorem dgtext_f : Tryz.prog.funcs[53]? = some Tryz.f53 := by kernel_rfl
theorem dgtext_n : (Tryz.f53.name == "runtime.NumGoroutine") = false := by kernel_rfl
theorem dgtext_b : Tryz.f53.body.isNone = false := by kernel_rfl
theorem dgtext_hO : OracleOk E dgtext_O := orac_ok .nil .nil .nil .nil
theorem dgtext_s0_1 {res : List (TV E)} {v0 : Bool} {v1 v2 v3 v4 v5 v6 v7 v8 v9 v10 v11 v12 v13 v14 v15 v16 v17 v18 v19 v20 v21 : Int} (h : dgtext_t0_1 (Gr E Tryz.f53 res) v0 v1 v2 v3 v4 v5 v6 v7 v8 v9 v10 v11 v12 v13 v14 v15 v16 v17 v18 v19 v20 v21 = some res) : Ev E Tryz.f53 res 0 (dgtext_C0_1 v0 v1 v2 v3 v4 v5 v6 v7 v8 v9 v10 v11 v12 v13 v14 v15 v16 v17 v18 v19 v20 v21) := Ev.step dgtext_hO mix ((dgtext_l0_1 _ v0 v1 v2 v3 v4 v5 v6 v7 v8 v9 v10 v11 v12 v13 v14 v15 v16 v17 v18 v19 v20 v21).trans h)
theorem dgtext_s0_10 {res : List (TV E)} {v0 : Bool} {v1 v2 v3 v4 v5 v6 v7 v8 v9 v10 v11 v12 v13 v14 v15 v16 v17 v18 v19 v20 v21 : Int} (h : dgtext_t0_10 (Gr E Tryz.f53 res) v0 v1 v2 v3 v4 v5 v6 v7 v8 v9 v10 v11 v12 v13 v14 v15 v16 v17 v18 v19 v20 v21 = some res) : Ev E Tryz.f53 res 0 (dgtext_C0_10 v0 v1 v2 v3 v4 v5 v6 v7 v8 v9 v10 v11 v12 v13 v14 v15 v16 v17 v18 v19 v20 v21) := Ev.step dgtext_hO mix ((dgtext_l0_10 _ v0 v1 v2 v3 v4 v5 v6 v7 v8 v9 v10 v11 v12 v13 v14 v15 v16 v17 v18 v19 v20 v21).trans h)
theorem dgtext_s0_11 {res : List (TV E)} {v0 : Bool} {v1 v2 v3 v4 v5 v6 v7 v8 v9 v10 v11 v12 v13 v14 v15 v16 v17 v18 v19 v20 v21 : Int} (h : dgtext_t0_11 (Gr E Tryz.f53 res) v0 v1 v2 v3 v4 v5 v6 v7 v8 v9 v10 v11 v12 v13 v14 v15 v16 v17 v18 v19 v20 v21 = some res) : Ev E Tryz.f53 res 0 (dgtext_C0_11 v0 v1 v2 v3 v4 v5 v6 v7 v8 v9 v10 v11 v12 v13 v14 v15 v16 v17 v18 v19 v20 v21) := Ev.step dgtext_hO mix ((dgtext_l0_11 _ v0 v1 v2 v3 v4 v5 v6 v7 v8 v9 v10 v11 v12 v13 v14 v15 v16 v17 v18 v19 v20 v21).trans h)
theorem dgtext_s0_12 {res : List (TV E)} {v0 : Bool} {v1 v2 v3 v4 v5 v6 v7 v8 v9 v10 v11 v12 v13 v14 v15 v16 v17 v18 v19 v20 v21 : Int} (h : dgtext_t0_12 (Gr E Tryz.f53 res) v0 v1 v2 v3 v4 v5 v6 v7 v8 v9 v10 v11 v12 v13 v14 v15 v16 v17 v18 v19 v20 v21 = some res) : Ev E Tryz.f53 res 0 (dgtext_C0_12 v0 v1 v2 v3 v4 v5 v6 v7 v8 v9 v10 v11 v12 v13 v14 v15 v16 v17 v18 v19 v20 v21) := Ev.step dgtext_hO mix ((dgtext_l0_12 _ v0 v1 v2 v3 v4 v5 v6 v7 v8 v9 v10 v11 v12 v13 v14 v15 v16 v17 v18 v19 v20 v21).trans h)
theorem dgtext_s0_13 {res : List (TV E)} {v0 : Bool} {v1 v2 v3 v4 v5 v6 v7 v8 v9 v10 v11 v12 v13 v14 v15 v16 v17 v18 v19 v20 v21 : Int} (h : dgtext_t0_13 (Gr E Tryz.f53 res) v0 v1 v2 v3 v4 v5 v6 v7 v8 v9 v10 v11 v12 v13 v14 v15 v16 v17 v18 v19 v20 v21 = some res) : Ev E Tryz.f53 res 0 (dgtext_C0_13 v0 v1 v2 v3 v4 v5 v6 v7 v8 v9 v10 v11 v12 v13 v14 v15 v16 v17 v18 v19 v20 v21) := Ev.step dgtext_hO mix ((dgtext_l0_13 _ v0 v1 v2 v3 v4 v5 v6 v7 v8 v9 v10 v11 v12 v13 v14 v15 v16 v17 v18 v19 v20 v21).trans h)
theorem dgtext_s0_14 {res : List (TV E)} {v0 : Bool} {v1 v2 v3 v4 v5 v6 v7 v8 v9 v10 v11 v12 v13 v14 v15 v16 v17 v18 v19 v20 v21 : Int} (h : dgtext_t0_14 (Gr E Tryz.f53 res) v0 v1 v2 v3 v4 v5 v6 v7 v8 v9 v10 v11 v12 v13 v14 v15 v16 v17 v18 v19 v20 v21 = some res) : Ev E Tryz.f53 res 0 (dgtext_C0_14 v0 v1 v2 v3 v4 v5 v6 v7 v8 v9 v10 v11 v12 v13 v14 v15 v16 v17 v18 v19 v20 v21) := Ev.step dgtext_hO mix ((dgtext_l0_14 _ v0 v1 v2 v3 v4 v5 v6 v7 v8 v9 v10 v11 v12 v13 v14 v15 v16 v17 v18 v19 v20 v21).trans h)
theorem dgtext_s0_15 {res : List (TV E)} {v0 : Bool} {v1 v2 v3 v4 v5 v6 v7 v8 v9 v10 v11 v12 v13 v14 v15 v16 v17 v18 v19 v20 v21 : Int} (h : dgtext_t0_15 (Gr E Tryz.f53 res) v0 v1 v2 v3 v4 v5 v6 v7 v8 v9 v10 v11 v12 v13 v14 v15 v16 v17 v18 v19 v20 v21 = some res) : Ev E Tryz.f53 res 0 (dgtext_C0_15 v0 v1 v2 v3 v4 v5 v6 v7 v8 v9 v10 v11 v12 v13 v14 v15 v16 v17 v18 v19 v20 v21) := Ev.step dgtext_hO mix ((dgtext_l0_15 _ v0 v1 v2 v3 v4 v5 v6 v7 v8 v9 v10 v11 v12 v13 v14 v15 v16 v17 v18 v19 v20 v21).trans h)
theorem dgtext_s0_16 {res : List (TV E)} {v0 : Bool} {v1 v2 v3 v4 v5 v6 v7 v8 v9 v10 v11 v12 v13 v14 v15 v16 v17 v18 v19 v20 v21 : Int} (h : dgtext_t0_16 (Gr E Tryz.f53 res) v0 v1 v2 v3 v4 v5 v6 v7 v8 v9 v10 v11 v12 v13 v14 v15 v16 v17 v18 v19 v20 v21 = some res) : Ev E Tryz.f53 res 0 (dgtext_C0_16 v0 v1 v2 v3 v4 v5 v6 v7 v8 v9 v10 v11 v12 v13 v14 v15 v16 v17 v18 v19 v20 v21) := Ev.step dgtext_hO mix ((dgtext_l0_16 _ v0 v1 v2 v3 v4 v5 v6 v7 v8 v9 v10 v11 v12 v13 v14 v15 v16 v17 v18 v19 v20 v21).trans h)
theorem dgtext_s0_17 {res : List (TV E)} {v0 : Bool} {v1 v2 v3 v4 v5 v6 v7 v8 v9 v10 v11 v12 v13 v14 v15 v16 v17 v18 v19 v20 v21 : Int} (h : dgtext_t0_17 (Gr E Tryz.f53 res) v0 v1 v2 v3 v4 v5 v6 v7 v8 v9 v10 v11 v12 v13 v14 v15 v16 v17 v18 v19 v20 v21 = some res) : Ev E Tryz.f53 res 0 (dgtext_C0_17 v0 v1 v2 v3 v4 v5 v6 v7 v8 v9 v10 v11 v12 v13 v14 v15 v16 v17 v18 v19 v20 v21) := Ev.step dgtext_hO mix ((dgtext_l0_17 _ v0 v1 v2 v3 v4 v5 v6 v7 v8 v9 v10 v11 v12 v13 v14 v15 v16 v17 v18 v19 v20 v21).trans h)
theorem dgtext_s0_18 {res : List (TV E)} {v0 : Bool} {v1 v2 v3 v4 v5 v6 v7 v8 v9 v10 v11 v12 v13 v14 v15 v16 v17 v18 v19 v20 v21 : Int} (h : dgtext_t0_18 (Gr E Tryz.f53 res) v0 v1 v2 v3 v4 v5 v6 v7 v8 v9 v10 v11 v12 v13 v14 v15 v16 v17 v18 v19 v20 v21 = some res) : Ev E Tryz.f53 res 0 (dgtext_C0_18 v0 v1 v2 v3 v4 v5 v6 v7 v8 v9 v10 v11 v12 v13 v14 v15 v16 v17 v18 v19 v20 v21) := Ev.step dgtext_hO mix ((dgtext_l0_18 _ v0 v1 v2 v3 v4 v5 v6 v7 v8 v9 v10 v11 v12 v13 v14 v15 v16 v17 v18 v19 v20 v21).trans h)
theorem dgtext_s0_19 {res : List (TV E)} {v0 : Bool} {v1 v2 v3 v4 v5 v6 v7 v8 v9 v10 v11 v12 v13 v14 v15 v16 v17 v18 v19 v20 v21 : Int} (h : dgtext_t0_19 (Gr E Tryz.f53 res) v0 v1 v2 v3 v4 v5 v6 v7 v8 v9 v10 v11 v12 v13 v14 v15 v16 v17 v18 v19 v20 v21 = some res) : Ev E Tryz.f53 res 0 (dgtext_C0_19 v0 v1 v2 v3 v4 v5 v6 v7 v8 v9 v10 v11 v12 v13 v14 v15 v16 v17 v18 v19 v20 v21) := Ev.step dgtext_hO mix ((dgtext_l0_19 _ v0 v1 v2 v3 v4 v5 v6 v7 v8 v9 v10 v11 v12 v13 v14 v15 v16 v17 v18 v19 v20 v21).trans h)
theorem dgtext_s0_2 {res : List (TV E)} {v0 : Bool} {v1 v2 v3 v4 v5 v6 v7 v8 v9 v10 v11 v12 v13 v14 v15 v16 v17 v18 v19 v20 v21 : Int} (h : dgtext_t0_2 (Gr E Tryz.f53 res) v0 v1 v2 v3 v4 v5 v6 v7 v8 v9 v10 v11 v12 v13 v14 v15 v16 v17 v18 v19 v20 v21 = some res) : Ev E Tryz.f53 res 0 (dgtext_C0_2 v0 v1 v2 v3 v4 v5 v6 v7 v8 v9 v10 v11 v12 v13 v14 v15 v16 v17 v18 v19 v20 v21) := Ev.step dgtext_hO mix ((dgtext_l0_2 _ v0 v1 v2 v3 v4 v5 v6 v7 v8 v9 v10 v11 v12 v13 v14 v15 v16 v17 v18 v19 v20 v21).trans h)
theorem dgtext_s0_20 {res : List (TV E)} {v0 : Bool} {v1 v2 v3 v4 v5 v6 v7 v8 v9 v10 v11 v12 v13 v14 v15 v16 v17 v18 v19 v20 v21 : Int} (h : dgtext_t0_20 (Gr E Tryz.f53 res) v0 v1 v2 v3 v4 v5 v6 v7 v8 v9 v10 v11 v12 v13 v14 v15 v16 v17 v18 v19 v20 v21 = some res) : Ev E Tryz.f53 res 0 (dgtext_C0_20 v0 v1 v2 v3 v4 v5 v6 v7 v8 v9 v10 v11 v12 v13 v14 v15 v16 v17 v18 v19 v20 v21) := Ev.step dgtext_hO mix ((dgtext_l0_20 _ v0 v1 v2 v3 v4 v5 v6 v7 v8 v9 v10 v11 v12 v13 v14 v15 v16 v17 v18 v19 v20 v21).trans h)
theorem dgtext_s0_3 {res : List (TV E)} {v0 : Bool} {v1 v2 v3 v4 v5 v6 v7 v8 v9 v10 v11 v12 v13 v14 v15 v16 v17 v18 v19 v20 v21 : Int} (h : dgtext_t0_3 (Gr E Tryz.f53 res) v0 v1 v2 v3 v4 v5 v6 v7 v8 v9 v10 v11 v12 v13 v14 v15 v16 v17 v18 v19 v20 v21 = some res) : Ev E Tryz.f53 res 0 (dgtext_C0_3 v0 v1 v2 v3 v4 v5 v6 v7 v8 v9 v10 v11 v12 v13 v14 v15 v16 v17 v18 v19 v20 v21) := Ev.step dgtext_hO mix ((dgtext_l0_3 _ v0 v1 v2 v3 v4 v5 v6 v7 v8 v9 v10 v11 v12 v13 v14 v15 v16 v17 v18 v19 v20 v21).trans h)
theorem dgtext_s0_4 {res : List (TV E)} {v0 : Bool} {v1 v2 v3 v4 v5 v6 v7 v8 v9 v10 v11 v12 v13 v14 v15 v16 v17 v18 v19 v20 v21 : Int} (h : dgtext_t0_4 (Gr E Tryz.f53 res) v0 v1 v2 v3 v4 v5 v6 v7 v8 v9 v10 v11 v12 v13 v14 v15 v16 v17 v18 v19 v20 v21 = some res) : Ev E Tryz.f53 res 0 (dgtext_C0_4 v0 v1 v2 v3 v4 v5 v6 v7 v8 v9 v10 v11 v12 v13 v14 v15 v16 v17 v18 v19 v20 v21) := Ev.step dgtext_hO mix ((dgtext_l0_4 _ v0 v1 v2 v3 v4 v5 v6 v7 v8 v9 v10 v11 v12 v13 v14 v15 v16 v17 v18 v19 v20 v21).trans h)
theorem dgtext_s0_5 {res : List (TV E)} {v0 : Bool} {v1 v2 v3 v4 v5 v6 v7 v8 v9 v10 v11 v12 v13 v14 v15 v16 v17 v18 v19 v20 v21 : Int} (h : dgtext_t0_5 (Gr E Tryz.f53 res) v0 v1 v2 v3 v4 v5 v6 v7 v8 v9 v10 v11 v12 v13 v14 v15 v16 v17 v18 v19 v20 v21 = some res) : Ev E Tryz.f53 res 0 (dgtext_C0_5 v0 v1 v2 v3 v4 v5 v6 v7 v8 v9 v10 v11 v12 v13 v14 v15 v16 v17 v18 v19 v20 v21) := Ev.step dgtext_hO mix ((dgtext_l0_5 _ v0 v1 v2 v3 v4 v5 v6 v7 v8 v9 v10 v11 v12 v13 v14 v15 v16 v17 v18 v19 v20 v21).trans h)
theorem dgtext_s0_6 {res : List (TV E)} {v0 : Bool} {v1 v2 v3 v4 v5 v6 v7 v8 v9 v10 v11 v12 v13 v14 v15 v16 v17 v18 v19 v20 v21 : Int} (h : dgtext_t0_6 (Gr E Tryz.f53 res) v0 v1 v2 v3 v4 v5 v6 v7 v8 v9 v10 v11 v12 v13 v14 v15 v16 v17 v18 v19 v20 v21 = some res) : Ev E Tryz.f53 res 0 (dgtext_C0_6 v0 v1 v2 v3 v4 v5 v6 v7 v8 v9 v10 v11 v12 v13 v14 v15 v16 v17 v18 v19 v20 v21) := Ev.step dgtext_hO mix ((dgtext_l0_6 _ v0 v1 v2 v3 v4 v5 v6 v7 v8 v9 v10 v11 v12 v13 v14 v15 v16 v17 v18 v19 v20 v21).trans h)
theorem dgtext_s0_7 {res : List (TV E)} {v0 : Bool} {v1 v2 v3 v4 v5 v6 v7 v8 v9 v10 v11 v12 v13 v14 v15 v16 v17 v18 v19 v20 v21 : Int} (h : dgtext_t0_7 (Gr E Tryz.f53 res) v0 v1 v2 v3 v4 v5 v6 v7 v8 v9 v10 v11 v12 v13 v14 v15 v16 v17 v18 v19 v20 v21 = some res) : Ev E Tryz.f53 res 0 (dgtext_C0_7 v0 v1 v2 v3 v4 v5 v6 v7 v8 v9 v10 v11 v12 v13 v14 v15 v16 v17 v18 v19 v20 v21) := Ev.step dgtext_hO mix ((dgtext_l0_7 _ v0 v1 v2 v3 v4 v5 v6 v7 v8 v9 v10 v11 v12 v13 v14 v15 v16 v17 v18 v19 v20 v21).trans h)
theorem dgtext_s0_8 {res : List (TV E)} {v0 : Bool} {v1 v2 v3 v4 v5 v6 v7 v8 v9 v10 v11 v12 v13 v14 v15 v16 v17 v18 v19 v20 v21 : Int} (h : dgtext_t0_8 (Gr E Tryz.f53 res) v0 v1 v2 v3 v4 v5 v6 v7 v8 v9 v10 v11 v12 v13 v14 v15 v16 v17 v18 v19 v20 v21 = some res) : Ev E Tryz.f53 res 0 (dgtext_C0_8 v0 v1 v2 v3 v4 v5 v6 v7 v8 v9 v10 v11 v12 v13 v14 v15 v16 v17 v18 v19 v20 v21) := Ev.step dgtext_hO mix ((dgtext_l0_8 _ v0 v1 v2 v3 v4 v5 v6 v7 v8 v9 v10 v11 v12 v13 v14 v15 v16 v17 v18 v19 v20 v21).trans h)
theorem dgtext_s0_9 {res : List (TV E)} {v0 : Bool} {v1 v2 v3 v4 v5 v6 v7 v8 v9 v10 v11 v12 v13 v14 v15 v16 v17 v18 v19 v20 v21 : Int} (h : dgtext_t0_9 (Gr E Tryz.f53 res) v0 v1 v2 v3 v4 v5 v6 v7 v8 v9 v10 v11 v12 v13 v14 v15 v16 v17 v18 v19 v20 v21 = some res) : Ev E Tryz.f53 res 0 (dgtext_C0_9 v0 v1 v2 v3 v4 v5 v6 v7 v8 v9 v10 v11 v12 v13 v14 v15 v16 v17 v18 v19 v20 v21) := Ev.step dgtext_hO mix ((dgtext_l0_9 _ v0 v1 v2 v3 v4 v5 v6 v7 v8 v9 v10 v11 v12 v13 v14 v15 v16 v17 v18 v19 v20 v21).trans h)
theorem dgtext_ok_of (h : ∀ (x0 : Int), okI x0 = true → dgtext_t (Gr E Tryz.f53 [⟨.str, textV x0⟩]) x0 = some [⟨.str, textV x0⟩]) : FnOk E dgtext_id dgtext_W := fn1_ok dgtext_hO mix dgtext_f dgtext_n dgtext_b (fun x0 hk => (dgtext_e _ x0).trans (h x0 hk))
theorem ne10 : (!((10 : Int) == (0 : Int))) = true := rfl
theorem dg8 (u : Nat) : c8 (IntKind.wrap .u8 (IntKind.wrap .u64 ((48 : Int) + ((u % 10 : Nat) : Int)))) = dg (u % 10) := by
  have := dg_eq (n := ((u % 10 : Nat) : Int)) (by omega) (by omega)
  rw [Int.toNat_natCast] at this
  exact this
theorem dgx_1 (neg : Bool) (u : Nat) (v2 v3 v4 v5 v6 v7 v8 v9 v10 v11 v12 v13 v14 v15 v16 v17 v18 v19 v20 v21 : Int) (h1 : u < 10) (h2 : neg = true → 1 ≤ u ∧ u < 1) (h3 : u < 18446744073709551616) :
    Ev E Tryz.f53 [⟨.str, sgn neg ++ digsF 1 u ++ ([v3, v4, v5, v6, v7, v8, v9, v10, v11, v12, v13, v14, v15, v16, v17, v18, v19, v20, v21] : List Int).map c8⟩] 0 (dgtext_C0_1 neg u v2 v3 v4 v5 v6 v7 v8 v9 v10 v11 v12 v13 v14 v15 v16 v17 v18 v19 v20 v21) := by
  have e1 : Int.tmod (u : Int) 10 = ((u % 10 : Nat) : Int) := rfl
  have e2 : Int.tdiv (u : Int) 10 = ((u / 10 : Nat) : Int) := rfl
  refine dgtext_s0_1 ?_
  simp only [dgtext_t0_1, ne10, cond_true, e1, e2, u64_id (n := ((u / 10 : Nat) : Int)) (by omega) (by omega)]
  by_cases hu : u < 10
  · rw [eqT (show ((u / 10 : Nat) : Int) = 0 by omega), cond_true, show digsF 1 u = [dg (u % 10)] from by rw [Nat.mod_eq_of_lt hu]; unfold digsF; rw [if_pos hu], ← dg8]
    cases neg with
    | true => have := h2 rfl; omega
    | false => rfl
  · omega
theorem dgx_2 (neg : Bool) (u : Nat) (v2 v3 v4 v5 v6 v7 v8 v9 v10 v11 v12 v13 v14 v15 v16 v17 v18 v19 v20 v21 : Int) (h1 : u < 100) (h2 : neg = true → 1 ≤ u ∧ u < 10) (h3 : u < 18446744073709551616) :
    Ev E Tryz.f53 [⟨.str, sgn neg ++ digsF 2 u ++ ([v4, v5, v6, v7, v8, v9, v10, v11, v12, v13, v14, v15, v16, v17, v18, v19, v20, v21] : List Int).map c8⟩] 0 (dgtext_C0_2 neg u v2 v3 v4 v5 v6 v7 v8 v9 v10 v11 v12 v13 v14 v15 v16 v17 v18 v19 v20 v21) := by
  have e1 : Int.tmod (u : Int) 10 = ((u % 10 : Nat) : Int) := rfl
  have e2 : Int.tdiv (u : Int) 10 = ((u / 10 : Nat) : Int) := rfl
  refine dgtext_s0_2 ?_
  simp only [dgtext_t0_2, ne10, cond_true, e1, e2, u64_id (n := ((u / 10 : Nat) : Int)) (by omega) (by omega)]
  by_cases hu : u < 10
  · rw [eqT (show ((u / 10 : Nat) : Int) = 0 by omega), cond_true, show digsF 2 u = [dg (u % 10)] from by rw [Nat.mod_eq_of_lt hu]; unfold digsF; rw [if_pos hu], ← dg8]
    cases neg with
    | true => rfl
    | false => rfl
  · rw [eqF (show ((u / 10 : Nat) : Int) ≠ 0 by omega), cond_false, show digsF 2 u = digsF 1 (u / 10) ++ [dg (u % 10)] from by conv => lhs; unfold digsF; rw [if_neg hu]
                                                                                                                               , ← dg8]
    have := Gr_of (dgx_1 neg (u / 10) v2 (IntKind.wrap .u8 (IntKind.wrap .u64 ((48 : Int) + ((u % 10 : Nat) : Int)))) v4 v5 v6 v7 v8 v9 v10 v11 v12 v13 v14 v15 v16 v17 v18 v19 v20 v21 (by omega) (fun h => by have := h2 h; omega) (by omega))
    rw [← List.append_assoc, List.append_assoc (sgn neg ++ _)]
    exact this
theorem dgx_3 (neg : Bool) (u : Nat) (v2 v3 v4 v5 v6 v7 v8 v9 v10 v11 v12 v13 v14 v15 v16 v17 v18 v19 v20 v21 : Int) (h1 : u < 1000) (h2 : neg = true → 1 ≤ u ∧ u < 100) (h3 : u < 18446744073709551616) :
    Ev E Tryz.f53 [⟨.str, sgn neg ++ digsF 3 u ++ ([v5, v6, v7, v8, v9, v10, v11, v12, v13, v14, v15, v16, v17, v18, v19, v20, v21] : List Int).map c8⟩] 0 (dgtext_C0_3 neg u v2 v3 v4 v5 v6 v7 v8 v9 v10 v11 v12 v13 v14 v15 v16 v17 v18 v19 v20 v21) := by
  have e1 : Int.tmod (u : Int) 10 = ((u % 10 : Nat) : Int) := rfl
  have e2 : Int.tdiv (u : Int) 10 = ((u / 10 : Nat) : Int) := rfl
  refine dgtext_s0_3 ?_
  simp only [dgtext_t0_3, ne10, cond_true, e1, e2, u64_id (n := ((u / 10 : Nat) : Int)) (by omega) (by omega)]
  by_cases hu : u < 10
  · rw [eqT (show ((u / 10 : Nat) : Int) = 0 by omega), cond_true, show digsF 3 u = [dg (u % 10)] from by rw [Nat.mod_eq_of_lt hu]; unfold digsF; rw [if_pos hu], ← dg8]
    cases neg with
    | true => rfl
    | false => rfl
  · rw [eqF (show ((u / 10 : Nat) : Int) ≠ 0 by omega), cond_false, show digsF 3 u = digsF 2 (u / 10) ++ [dg (u % 10)] from by conv => lhs; unfold digsF; rw [if_neg hu]
                                                                                                                               , ← dg8]
    have := Gr_of (dgx_2 neg (u / 10) v2 v3 (IntKind.wrap .u8 (IntKind.wrap .u64 ((48 : Int) + ((u % 10 : Nat) : Int)))) v5 v6 v7 v8 v9 v10 v11 v12 v13 v14 v15 v16 v17 v18 v19 v20 v21 (by omega) (fun h => by have := h2 h; omega) (by omega))
    rw [← List.append_assoc, List.append_assoc (sgn neg ++ _)]
    exact this
theorem dgx_4 (neg : Bool) (u : Nat) (v2 v3 v4 v5 v6 v7 v8 v9 v10 v11 v12 v13 v14 v15 v16 v17 v18 v19 v20 v21 : Int) (h1 : u < 10000) (h2 : neg = true → 1 ≤ u ∧ u < 1000) (h3 : u < 18446744073709551616) :
    Ev E Tryz.f53 [⟨.str, sgn neg ++ digsF 4 u ++ ([v6, v7, v8, v9, v10, v11, v12, v13, v14, v15, v16, v17, v18, v19, v20, v21] : List Int).map c8⟩] 0 (dgtext_C0_4 neg u v2 v3 v4 v5 v6 v7 v8 v9 v10 v11 v12 v13 v14 v15 v16 v17 v18 v19 v20 v21) := by
  have e1 : Int.tmod (u : Int) 10 = ((u % 10 : Nat) : Int) := rfl
  have e2 : Int.tdiv (u : Int) 10 = ((u / 10 : Nat) : Int) := rfl
  refine dgtext_s0_4 ?_
  simp only [dgtext_t0_4, ne10, cond_true, e1, e2, u64_id (n := ((u / 10 : Nat) : Int)) (by omega) (by omega)]
  by_cases hu : u < 10
  · rw [eqT (show ((u / 10 : Nat) : Int) = 0 by omega), cond_true, show digsF 4 u = [dg (u % 10)] from by rw [Nat.mod_eq_of_lt hu]; unfold digsF; rw [if_pos hu], ← dg8]
    cases neg with
    | true => rfl
    | false => rfl
  · rw [eqF (show ((u / 10 : Nat) : Int) ≠ 0 by omega), cond_false, show digsF 4 u = digsF 3 (u / 10) ++ [dg (u % 10)] from by conv => lhs; unfold digsF; rw [if_neg hu]
                                                                                                                               , ← dg8]
    have := Gr_of (dgx_3 neg (u / 10) v2 v3 v4 (IntKind.wrap .u8 (IntKind.wrap .u64 ((48 : Int) + ((u % 10 : Nat) : Int)))) v6 v7 v8 v9 v10 v11 v12 v13 v14 v15 v16 v17 v18 v19 v20 v21 (by omega) (fun h => by have := h2 h; omega) (by omega))
    rw [← List.append_assoc, List.append_assoc (sgn neg ++ _)]
    exact this
theorem dgx_5 (neg : Bool) (u : Nat) (v2 v3 v4 v5 v6 v7 v8 v9 v10 v11 v12 v13 v14 v15 v16 v17 v18 v19 v20 v21 : Int) (h1 : u < 100000) (h2 : neg = true → 1 ≤ u ∧ u < 10000) (h3 : u < 18446744073709551616) :
    Ev E Tryz.f53 [⟨.str, sgn neg ++ digsF 5 u ++ ([v7, v8, v9, v10, v11, v12, v13, v14, v15, v16, v17, v18, v19, v20, v21] : List Int).map c8⟩] 0 (dgtext_C0_5 neg u v2 v3 v4 v5 v6 v7 v8 v9 v10 v11 v12 v13 v14 v15 v16 v17 v18 v19 v20 v21) := by
  have e1 : Int.tmod (u : Int) 10 = ((u % 10 : Nat) : Int) := rfl
  have e2 : Int.tdiv (u : Int) 10 = ((u / 10 : Nat) : Int) := rfl
  refine dgtext_s0_5 ?_
  simp only [dgtext_t0_5, ne10, cond_true, e1, e2, u64_id (n := ((u / 10 : Nat) : Int)) (by omega) (by omega)]
  by_cases hu : u < 10
  · rw [eqT (show ((u / 10 : Nat) : Int) = 0 by omega), cond_true, show digsF 5 u = [dg (u % 10)] from by rw [Nat.mod_eq_of_lt hu]; unfold digsF; rw [if_pos hu], ← dg8]
    cases neg with
    | true => rfl
    | false => rfl
  · rw [eqF (show ((u / 10 : Nat) : Int) ≠ 0 by omega), cond_false, show digsF 5 u = digsF 4 (u / 10) ++ [dg (u % 10)] from by conv => lhs; unfold digsF; rw [if_neg hu]
                                                                                                                               , ← dg8]
    have := Gr_of (dgx_4 neg (u / 10) v2 v3 v4 v5 (IntKind.wrap .u8 (IntKind.wrap .u64 ((48 : Int) + ((u % 10 : Nat) : Int)))) v7 v8 v9 v10 v11 v12 v13 v14 v15 v16 v17 v18 v19 v20 v21 (by omega) (fun h => by have := h2 h; omega) (by omega))
    rw [← List.append_assoc, List.append_assoc (sgn neg ++ _)]
    exact this
theorem dgx_6 (neg : Bool) (u : Nat) (v2 v3 v4 v5 v6 v7 v8 v9 v10 v11 v12 v13 v14 v15 v16 v17 v18 v19 v20 v21 : Int) (h1 : u < 1000000) (h2 : neg = true → 1 ≤ u ∧ u < 100000) (h3 : u < 18446744073709551616) :
    Ev E Tryz.f53 [⟨.str, sgn neg ++ digsF 6 u ++ ([v8, v9, v10, v11, v12, v13, v14, v15, v16, v17, v18, v19, v20, v21] : List Int).map c8⟩] 0 (dgtext_C0_6 neg u v2 v3 v4 v5 v6 v7 v8 v9 v10 v11 v12 v13 v14 v15 v16 v17 v18 v19 v20 v21) := by
  have e1 : Int.tmod (u : Int) 10 = ((u % 10 : Nat) : Int) := rfl
  have e2 : Int.tdiv (u : Int) 10 = ((u / 10 : Nat) : Int) := rfl
  refine dgtext_s0_6 ?_
  simp only [dgtext_t0_6, ne10, cond_true, e1, e2, u64_id (n := ((u / 10 : Nat) : Int)) (by omega) (by omega)]
  by_cases hu : u < 10
  · rw [eqT (show ((u / 10 : Nat) : Int) = 0 by omega), cond_true, show digsF 6 u = [dg (u % 10)] from by rw [Nat.mod_eq_of_lt hu]; unfold digsF; rw [if_pos hu], ← dg8]
    cases neg with
    | true => rfl
    | false => rfl
  · rw [eqF (show ((u / 10 : Nat) : Int) ≠ 0 by omega), cond_false, show digsF 6 u = digsF 5 (u / 10) ++ [dg (u % 10)] from by conv => lhs; unfold digsF; rw [if_neg hu]
                                                                                                                               , ← dg8]
    have := Gr_of (dgx_5 neg (u / 10) v2 v3 v4 v5 v6 (IntKind.wrap .u8 (IntKind.wrap .u64 ((48 : Int) + ((u % 10 : Nat) : Int)))) v8 v9 v10 v11 v12 v13 v14 v15 v16 v17 v18 v19 v20 v21 (by omega) (fun h => by have := h2 h; omega) (by omega))
    rw [← List.append_assoc, List.append_assoc (sgn neg ++ _)]
    exact this
theorem dgx_7 (neg : Bool) (u : Nat) (v2 v3 v4 v5 v6 v7 v8 v9 v10 v11 v12 v13 v14 v15 v16 v17 v18 v19 v20 v21 : Int) (h1 : u < 10000000) (h2 : neg = true → 1 ≤ u ∧ u < 1000000) (h3 : u < 18446744073709551616) :
    Ev E Tryz.f53 [⟨.str, sgn neg ++ digsF 7 u ++ ([v9, v10, v11, v12, v13, v14, v15, v16, v17, v18, v19, v20, v21] : List Int).map c8⟩] 0 (dgtext_C0_7 neg u v2 v3 v4 v5 v6 v7 v8 v9 v10 v11 v12 v13 v14 v15 v16 v17 v18 v19 v20 v21) := by
  have e1 : Int.tmod (u : Int) 10 = ((u % 10 : Nat) : Int) := rfl
  have e2 : Int.tdiv (u : Int) 10 = ((u / 10 : Nat) : Int) := rfl
  refine dgtext_s0_7 ?_
  simp only [dgtext_t0_7, ne10, cond_true, e1, e2, u64_id (n := ((u / 10 : Nat) : Int)) (by omega) (by omega)]
  by_cases hu : u < 10
  · rw [eqT (show ((u / 10 : Nat) : Int) = 0 by omega), cond_true, show digsF 7 u = [dg (u % 10)] from by rw [Nat.mod_eq_of_lt hu]; unfold digsF; rw [if_pos hu], ← dg8]
    cases neg with
    | true => rfl
    | false => rfl
  · rw [eqF (show ((u / 10 : Nat) : Int) ≠ 0 by omega), cond_false, show digsF 7 u = digsF 6 (u / 10) ++ [dg (u % 10)] from by conv => lhs; unfold digsF; rw [if_neg hu]
                                                                                                                               , ← dg8]
    have := Gr_of (dgx_6 neg (u / 10) v2 v3 v4 v5 v6 v7 (IntKind.wrap .u8 (IntKind.wrap .u64 ((48 : Int) + ((u % 10 : Nat) : Int)))) v9 v10 v11 v12 v13 v14 v15 v16 v17 v18 v19 v20 v21 (by omega) (fun h => by have := h2 h; omega) (by omega))
    rw [← List.append_assoc, List.append_assoc (sgn neg ++ _)]
    exact this
theorem dgx_8 (neg : Bool) (u : Nat) (v2 v3 v4 v5 v6 v7 v8 v9 v10 v11 v12 v13 v14 v15 v16 v17 v18 v19 v20 v21 : Int) (h1 : u < 100000000) (h2 : neg = true → 1 ≤ u ∧ u < 10000000) (h3 : u < 18446744073709551616) :
    Ev E Tryz.f53 [⟨.str, sgn neg ++ digsF 8 u ++ ([v10, v11, v12, v13, v14, v15, v16, v17, v18, v19, v20, v21] : List Int).map c8⟩] 0 (dgtext_C0_8 neg u v2 v3 v4 v5 v6 v7 v8 v9 v10 v11 v12 v13 v14 v15 v16 v17 v18 v19 v20 v21) := by
  have e1 : Int.tmod (u : Int) 10 = ((u % 10 : Nat) : Int) := rfl
  have e2 : Int.tdiv (u : Int) 10 = ((u / 10 : Nat) : Int) := rfl
  refine dgtext_s0_8 ?_
  simp only [dgtext_t0_8, ne10, cond_true, e1, e2, u64_id (n := ((u / 10 : Nat) : Int)) (by omega) (by omega)]
  by_cases hu : u < 10
  · rw [eqT (show ((u / 10 : Nat) : Int) = 0 by omega), cond_true, show digsF 8 u = [dg (u % 10)] from by rw [Nat.mod_eq_of_lt hu]; unfold digsF; rw [if_pos hu], ← dg8]
    cases neg with
    | true => rfl
    | false => rfl
  · rw [eqF (show ((u / 10 : Nat) : Int) ≠ 0 by omega), cond_false, show digsF 8 u = digsF 7 (u / 10) ++ [dg (u % 10)] from by conv => lhs; unfold digsF; rw [if_neg hu]
                                                                                                                               , ← dg8]
    have := Gr_of (dgx_7 neg (u / 10) v2 v3 v4 v5 v6 v7 v8 (IntKind.wrap .u8 (IntKind.wrap .u64 ((48 : Int) + ((u % 10 : Nat) : Int)))) v10 v11 v12 v13 v14 v15 v16 v17 v18 v19 v20 v21 (by omega) (fun h => by have := h2 h; omega) (by omega))
    rw [← List.append_assoc, List.append_assoc (sgn neg ++ _)]
    exact this
theorem dgx_9 (neg : Bool) (u : Nat) (v2 v3 v4 v5 v6 v7 v8 v9 v10 v11 v12 v13 v14 v15 v16 v17 v18 v19 v20 v21 : Int) (h1 : u < 1000000000) (h2 : neg = true → 1 ≤ u ∧ u < 100000000) (h3 : u < 18446744073709551616) :
    Ev E Tryz.f53 [⟨.str, sgn neg ++ digsF 9 u ++ ([v11, v12, v13, v14, v15, v16, v17, v18, v19, v20, v21] : List Int).map c8⟩] 0 (dgtext_C0_9 neg u v2 v3 v4 v5 v6 v7 v8 v9 v10 v11 v12 v13 v14 v15 v16 v17 v18 v19 v20 v21) := by
  have e1 : Int.tmod (u : Int) 10 = ((u % 10 : Nat) : Int) := rfl
  have e2 : Int.tdiv (u : Int) 10 = ((u / 10 : Nat) : Int) := rfl
  refine dgtext_s0_9 ?_
  simp only [dgtext_t0_9, ne10, cond_true, e1, e2, u64_id (n := ((u / 10 : Nat) : Int)) (by omega) (by omega)]
  by_cases hu : u < 10
  · rw [eqT (show ((u / 10 : Nat) : Int) = 0 by omega), cond_true, show digsF 9 u = [dg (u % 10)] from by rw [Nat.mod_eq_of_lt hu]; unfold digsF; rw [if_pos hu], ← dg8]
    cases neg with
    | true => rfl
    | false => rfl
  · rw [eqF (show ((u / 10 : Nat) : Int) ≠ 0 by omega), cond_false, show digsF 9 u = digsF 8 (u / 10) ++ [dg (u % 10)] from by conv => lhs; unfold digsF; rw [if_neg hu]
                                                                                                                               , ← dg8]
    have := Gr_of (dgx_8 neg (u / 10) v2 v3 v4 v5 v6 v7 v8 v9 (IntKind.wrap .u8 (IntKind.wrap .u64 ((48 : Int) + ((u % 10 : Nat) : Int)))) v11 v12 v13 v14 v15 v16 v17 v18 v19 v20 v21 (by omega) (fun h => by have := h2 h; omega) (by omega))
    rw [← List.append_assoc, List.append_assoc (sgn neg ++ _)]
    exact this
theorem dgx_10 (neg : Bool) (u : Nat) (v2 v3 v4 v5 v6 v7 v8 v9 v10 v11 v12 v13 v14 v15 v16 v17 v18 v19 v20 v21 : Int) (h1 : u < 10000000000) (h2 : neg = true → 1 ≤ u ∧ u < 1000000000) (h3 : u < 18446744073709551616) :
    Ev E Tryz.f53 [⟨.str, sgn neg ++ digsF 10 u ++ ([v12, v13, v14, v15, v16, v17, v18, v19, v20, v21] : List Int).map c8⟩] 0 (dgtext_C0_10 neg u v2 v3 v4 v5 v6 v7 v8 v9 v10 v11 v12 v13 v14 v15 v16 v17 v18 v19 v20 v21) := by
  have e1 : Int.tmod (u : Int) 10 = ((u % 10 : Nat) : Int) := rfl
  have e2 : Int.tdiv (u : Int) 10 = ((u / 10 : Nat) : Int) := rfl
  refine dgtext_s0_10 ?_
  simp only [dgtext_t0_10, ne10, cond_true, e1, e2, u64_id (n := ((u / 10 : Nat) : Int)) (by omega) (by omega)]
  by_cases hu : u < 10
  · rw [eqT (show ((u / 10 : Nat) : Int) = 0 by omega), cond_true, show digsF 10 u = [dg (u % 10)] from by rw [Nat.mod_eq_of_lt hu]; unfold digsF; rw [if_pos hu], ← dg8]
    cases neg with
    | true => rfl
    | false => rfl
  · rw [eqF (show ((u / 10 : Nat) : Int) ≠ 0 by omega), cond_false, show digsF 10 u = digsF 9 (u / 10) ++ [dg (u % 10)] from by conv => lhs; unfold digsF; rw [if_neg hu]
                                                                                                                               , ← dg8]
    have := Gr_of (dgx_9 neg (u / 10) v2 v3 v4 v5 v6 v7 v8 v9 v10 (IntKind.wrap .u8 (IntKind.wrap .u64 ((48 : Int) + ((u % 10 : Nat) : Int)))) v12 v13 v14 v15 v16 v17 v18 v19 v20 v21 (by omega) (fun h => by have := h2 h; omega) (by omega))
    rw [← List.append_assoc, List.append_assoc (sgn neg ++ _)]
    exact this
theorem dgx_11 (neg : Bool) (u : Nat) (v2 v3 v4 v5 v6 v7 v8 v9 v10 v11 v12 v13 v14 v15 v16 v17 v18 v19 v20 v21 : Int) (h1 : u < 100000000000) (h2 : neg = true → 1 ≤ u ∧ u < 10000000000) (h3 : u < 18446744073709551616) :
    Ev E Tryz.f53 [⟨.str, sgn neg ++ digsF 11 u ++ ([v13, v14, v15, v16, v17, v18, v19, v20, v21] : List Int).map c8⟩] 0 (dgtext_C0_11 neg u v2 v3 v4 v5 v6 v7 v8 v9 v10 v11 v12 v13 v14 v15 v16 v17 v18 v19 v20 v21) := by
  have e1 : Int.tmod (u : Int) 10 = ((u % 10 : Nat) : Int) := rfl
  have e2 : Int.tdiv (u : Int) 10 = ((u / 10 : Nat) : Int) := rfl
  refine dgtext_s0_11 ?_
  simp only [dgtext_t0_11, ne10, cond_true, e1, e2, u64_id (n := ((u / 10 : Nat) : Int)) (by omega) (by omega)]
  by_cases hu : u < 10
  · rw [eqT (show ((u / 10 : Nat) : Int) = 0 by omega), cond_true, show digsF 11 u = [dg (u % 10)] from by rw [Nat.mod_eq_of_lt hu]; unfold digsF; rw [if_pos hu], ← dg8]
    cases neg with
    | true => rfl
    | false => rfl
  · rw [eqF (show ((u / 10 : Nat) : Int) ≠ 0 by omega), cond_false, show digsF 11 u = digsF 10 (u / 10) ++ [dg (u % 10)] from by conv => lhs; unfold digsF; rw [if_neg hu]
                                                                                                                               , ← dg8]
    have := Gr_of (dgx_10 neg (u / 10) v2 v3 v4 v5 v6 v7 v8 v9 v10 v11 (IntKind.wrap .u8 (IntKind.wrap .u64 ((48 : Int) + ((u % 10 : Nat) : Int)))) v13 v14 v15 v16 v17 v18 v19 v20 v21 (by omega) (fun h => by have := h2 h; omega) (by omega))
    rw [← List.append_assoc, List.append_assoc (sgn neg ++ _)]
    exact this
theorem dgx_12 (neg : Bool) (u : Nat) (v2 v3 v4 v5 v6 v7 v8 v9 v10 v11 v12 v13 v14 v15 v16 v17 v18 v19 v20 v21 : Int) (h1 : u < 1000000000000) (h2 : neg = true → 1 ≤ u ∧ u < 100000000000) (h3 : u < 18446744073709551616) :
    Ev E Tryz.f53 [⟨.str, sgn neg ++ digsF 12 u ++ ([v14, v15, v16, v17, v18, v19, v20, v21] : List Int).map c8⟩] 0 (dgtext_C0_12 neg u v2 v3 v4 v5 v6 v7 v8 v9 v10 v11 v12 v13 v14 v15 v16 v17 v18 v19 v20 v21) := by
  have e1 : Int.tmod (u : Int) 10 = ((u % 10 : Nat) : Int) := rfl
  have e2 : Int.tdiv (u : Int) 10 = ((u / 10 : Nat) : Int) := rfl
  refine dgtext_s0_12 ?_
  simp only [dgtext_t0_12, ne10, cond_true, e1, e2, u64_id (n := ((u / 10 : Nat) : Int)) (by omega) (by omega)]
  by_cases hu : u < 10
  · rw [eqT (show ((u / 10 : Nat) : Int) = 0 by omega), cond_true, show digsF 12 u = [dg (u % 10)] from by rw [Nat.mod_eq_of_lt hu]; unfold digsF; rw [if_pos hu], ← dg8]
    cases neg with
    | true => rfl
    | false => rfl
  · rw [eqF (show ((u / 10 : Nat) : Int) ≠ 0 by omega), cond_false, show digsF 12 u = digsF 11 (u / 10) ++ [dg (u % 10)] from by conv => lhs; unfold digsF; rw [if_neg hu]
                                                                                                                               , ← dg8]
    have := Gr_of (dgx_11 neg (u / 10) v2 v3 v4 v5 v6 v7 v8 v9 v10 v11 v12 (IntKind.wrap .u8 (IntKind.wrap .u64 ((48 : Int) + ((u % 10 : Nat) : Int)))) v14 v15 v16 v17 v18 v19 v20 v21 (by omega) (fun h => by have := h2 h; omega) (by omega))
    rw [← List.append_assoc, List.append_assoc (sgn neg ++ _)]
    exact this
theorem dgx_13 (neg : Bool) (u : Nat) (v2 v3 v4 v5 v6 v7 v8 v9 v10 v11 v12 v13 v14 v15 v16 v17 v18 v19 v20 v21 : Int) (h1 : u < 10000000000000) (h2 : neg = true → 1 ≤ u ∧ u < 1000000000000) (h3 : u < 18446744073709551616) :
    Ev E Tryz.f53 [⟨.str, sgn neg ++ digsF 13 u ++ ([v15, v16, v17, v18, v19, v20, v21] : List Int).map c8⟩] 0 (dgtext_C0_13 neg u v2 v3 v4 v5 v6 v7 v8 v9 v10 v11 v12 v13 v14 v15 v16 v17 v18 v19 v20 v21) := by
  have e1 : Int.tmod (u : Int) 10 = ((u % 10 : Nat) : Int) := rfl
  have e2 : Int.tdiv (u : Int) 10 = ((u / 10 : Nat) : Int) := rfl
  refine dgtext_s0_13 ?_
  simp only [dgtext_t0_13, ne10, cond_true, e1, e2, u64_id (n := ((u / 10 : Nat) : Int)) (by omega) (by omega)]
  by_cases hu : u < 10
  · rw [eqT (show ((u / 10 : Nat) : Int) = 0 by omega), cond_true, show digsF 13 u = [dg (u % 10)] from by rw [Nat.mod_eq_of_lt hu]; unfold digsF; rw [if_pos hu], ← dg8]
    cases neg with
    | true => rfl
    | false => rfl
  · rw [eqF (show ((u / 10 : Nat) : Int) ≠ 0 by omega), cond_false, show digsF 13 u = digsF 12 (u / 10) ++ [dg (u % 10)] from by conv => lhs; unfold digsF; rw [if_neg hu]
                                                                                                                               , ← dg8]
    have := Gr_of (dgx_12 neg (u / 10) v2 v3 v4 v5 v6 v7 v8 v9 v10 v11 v12 v13 (IntKind.wrap .u8 (IntKind.wrap .u64 ((48 : Int) + ((u % 10 : Nat) : Int)))) v15 v16 v17 v18 v19 v20 v21 (by omega) (fun h => by have := h2 h; omega) (by omega))
    rw [← List.append_assoc, List.append_assoc (sgn neg ++ _)]
    exact this
theorem dgx_14 (neg : Bool) (u : Nat) (v2 v3 v4 v5 v6 v7 v8 v9 v10 v11 v12 v13 v14 v15 v16 v17 v18 v19 v20 v21 : Int) (h1 : u < 100000000000000) (h2 : neg = true → 1 ≤ u ∧ u < 10000000000000) (h3 : u < 18446744073709551616) :
    Ev E Tryz.f53 [⟨.str, sgn neg ++ digsF 14 u ++ ([v16, v17, v18, v19, v20, v21] : List Int).map c8⟩] 0 (dgtext_C0_14 neg u v2 v3 v4 v5 v6 v7 v8 v9 v10 v11 v12 v13 v14 v15 v16 v17 v18 v19 v20 v21) := by
  have e1 : Int.tmod (u : Int) 10 = ((u % 10 : Nat) : Int) := rfl
  have e2 : Int.tdiv (u : Int) 10 = ((u / 10 : Nat) : Int) := rfl
  refine dgtext_s0_14 ?_
  simp only [dgtext_t0_14, ne10, cond_true, e1, e2, u64_id (n := ((u / 10 : Nat) : Int)) (by omega) (by omega)]
  by_cases hu : u < 10
  · rw [eqT (show ((u / 10 : Nat) : Int) = 0 by omega), cond_true, show digsF 14 u = [dg (u % 10)] from by rw [Nat.mod_eq_of_lt hu]; unfold digsF; rw [if_pos hu], ← dg8]
    cases neg with
    | true => rfl
    | false => rfl
  · rw [eqF (show ((u / 10 : Nat) : Int) ≠ 0 by omega), cond_false, show digsF 14 u = digsF 13 (u / 10) ++ [dg (u % 10)] from by conv => lhs; unfold digsF; rw [if_neg hu]
                                                                                                                               , ← dg8]
    have := Gr_of (dgx_13 neg (u / 10) v2 v3 v4 v5 v6 v7 v8 v9 v10 v11 v12 v13 v14 (IntKind.wrap .u8 (IntKind.wrap .u64 ((48 : Int) + ((u % 10 : Nat) : Int)))) v16 v17 v18 v19 v20 v21 (by omega) (fun h => by have := h2 h; omega) (by omega))
    rw [← List.append_assoc, List.append_assoc (sgn neg ++ _)]
    exact this
theorem dgx_15 (neg : Bool) (u : Nat) (v2 v3 v4 v5 v6 v7 v8 v9 v10 v11 v12 v13 v14 v15 v16 v17 v18 v19 v20 v21 : Int) (h1 : u < 1000000000000000) (h2 : neg = true → 1 ≤ u ∧ u < 100000000000000) (h3 : u < 18446744073709551616) :
    Ev E Tryz.f53 [⟨.str, sgn neg ++ digsF 15 u ++ ([v17, v18, v19, v20, v21] : List Int).map c8⟩] 0 (dgtext_C0_15 neg u v2 v3 v4 v5 v6 v7 v8 v9 v10 v11 v12 v13 v14 v15 v16 v17 v18 v19 v20 v21) := by
  have e1 : Int.tmod (u : Int) 10 = ((u % 10 : Nat) : Int) := rfl
  have e2 : Int.tdiv (u : Int) 10 = ((u / 10 : Nat) : Int) := rfl
  refine dgtext_s0_15 ?_
  simp only [dgtext_t0_15, ne10, cond_true, e1, e2, u64_id (n := ((u / 10 : Nat) : Int)) (by omega) (by omega)]
  by_cases hu : u < 10
  · rw [eqT (show ((u / 10 : Nat) : Int) = 0 by omega), cond_true, show digsF 15 u = [dg (u % 10)] from by rw [Nat.mod_eq_of_lt hu]; unfold digsF; rw [if_pos hu], ← dg8]
    cases neg with
    | true => rfl
    | false => rfl
  · rw [eqF (show ((u / 10 : Nat) : Int) ≠ 0 by omega), cond_false, show digsF 15 u = digsF 14 (u / 10) ++ [dg (u % 10)] from by conv => lhs; unfold digsF; rw [if_neg hu]
                                                                                                                               , ← dg8]
    have := Gr_of (dgx_14 neg (u / 10) v2 v3 v4 v5 v6 v7 v8 v9 v10 v11 v12 v13 v14 v15 (IntKind.wrap .u8 (IntKind.wrap .u64 ((48 : Int) + ((u % 10 : Nat) : Int)))) v17 v18 v19 v20 v21 (by omega) (fun h => by have := h2 h; omega) (by omega))
    rw [← List.append_assoc, List.append_assoc (sgn neg ++ _)]
    exact this
theorem dgx_16 (neg : Bool) (u : Nat) (v2 v3 v4 v5 v6 v7 v8 v9 v10 v11 v12 v13 v14 v15 v16 v17 v18 v19 v20 v21 : Int) (h1 : u < 10000000000000000) (h2 : neg = true → 1 ≤ u ∧ u < 1000000000000000) (h3 : u < 18446744073709551616) :
    Ev E Tryz.f53 [⟨.str, sgn neg ++ digsF 16 u ++ ([v18, v19, v20, v21] : List Int).map c8⟩] 0 (dgtext_C0_16 neg u v2 v3 v4 v5 v6 v7 v8 v9 v10 v11 v12 v13 v14 v15 v16 v17 v18 v19 v20 v21) := by
  have e1 : Int.tmod (u : Int) 10 = ((u % 10 : Nat) : Int) := rfl
  have e2 : Int.tdiv (u : Int) 10 = ((u / 10 : Nat) : Int) := rfl
  refine dgtext_s0_16 ?_
  simp only [dgtext_t0_16, ne10, cond_true, e1, e2, u64_id (n := ((u / 10 : Nat) : Int)) (by omega) (by omega)]
  by_cases hu : u < 10
  · rw [eqT (show ((u / 10 : Nat) : Int) = 0 by omega), cond_true, show digsF 16 u = [dg (u % 10)] from by rw [Nat.mod_eq_of_lt hu]; unfold digsF; rw [if_pos hu], ← dg8]
    cases neg with
    | true => rfl
    | false => rfl
  · rw [eqF (show ((u / 10 : Nat) : Int) ≠ 0 by omega), cond_false, show digsF 16 u = digsF 15 (u / 10) ++ [dg (u % 10)] from by conv => lhs; unfold digsF; rw [if_neg hu]
                                                                                                                               , ← dg8]
    have := Gr_of (dgx_15 neg (u / 10) v2 v3 v4 v5 v6 v7 v8 v9 v10 v11 v12 v13 v14 v15 v16 (IntKind.wrap .u8 (IntKind.wrap .u64 ((48 : Int) + ((u % 10 : Nat) : Int)))) v18 v19 v20 v21 (by omega) (fun h => by have := h2 h; omega) (by omega))
    rw [← List.append_assoc, List.append_assoc (sgn neg ++ _)]
    exact this
theorem dgx_17 (neg : Bool) (u : Nat) (v2 v3 v4 v5 v6 v7 v8 v9 v10 v11 v12 v13 v14 v15 v16 v17 v18 v19 v20 v21 : Int) (h1 : u < 100000000000000000) (h2 : neg = true → 1 ≤ u ∧ u < 10000000000000000) (h3 : u < 18446744073709551616) :
    Ev E Tryz.f53 [⟨.str, sgn neg ++ digsF 17 u ++ ([v19, v20, v21] : List Int).map c8⟩] 0 (dgtext_C0_17 neg u v2 v3 v4 v5 v6 v7 v8 v9 v10 v11 v12 v13 v14 v15 v16 v17 v18 v19 v20 v21) := by
  have e1 : Int.tmod (u : Int) 10 = ((u % 10 : Nat) : Int) := rfl
  have e2 : Int.tdiv (u : Int) 10 = ((u / 10 : Nat) : Int) := rfl
  refine dgtext_s0_17 ?_
  simp only [dgtext_t0_17, ne10, cond_true, e1, e2, u64_id (n := ((u / 10 : Nat) : Int)) (by omega) (by omega)]
  by_cases hu : u < 10
  · rw [eqT (show ((u / 10 : Nat) : Int) = 0 by omega), cond_true, show digsF 17 u = [dg (u % 10)] from by rw [Nat.mod_eq_of_lt hu]; unfold digsF; rw [if_pos hu], ← dg8]
    cases neg with
    | true => rfl
    | false => rfl
  · rw [eqF (show ((u / 10 : Nat) : Int) ≠ 0 by omega), cond_false, show digsF 17 u = digsF 16 (u / 10) ++ [dg (u % 10)] from by conv => lhs; unfold digsF; rw [if_neg hu]
                                                                                                                               , ← dg8]
    have := Gr_of (dgx_16 neg (u / 10) v2 v3 v4 v5 v6 v7 v8 v9 v10 v11 v12 v13 v14 v15 v16 v17 (IntKind.wrap .u8 (IntKind.wrap .u64 ((48 : Int) + ((u % 10 : Nat) : Int)))) v19 v20 v21 (by omega) (fun h => by have := h2 h; omega) (by omega))
    rw [← List.append_assoc, List.append_assoc (sgn neg ++ _)]
    exact this
theorem dgx_18 (neg : Bool) (u : Nat) (v2 v3 v4 v5 v6 v7 v8 v9 v10 v11 v12 v13 v14 v15 v16 v17 v18 v19 v20 v21 : Int) (h1 : u < 1000000000000000000) (h2 : neg = true → 1 ≤ u ∧ u < 100000000000000000) (h3 : u < 18446744073709551616) :
    Ev E Tryz.f53 [⟨.str, sgn neg ++ digsF 18 u ++ ([v20, v21] : List Int).map c8⟩] 0 (dgtext_C0_18 neg u v2 v3 v4 v5 v6 v7 v8 v9 v10 v11 v12 v13 v14 v15 v16 v17 v18 v19 v20 v21) := by
  have e1 : Int.tmod (u : Int) 10 = ((u % 10 : Nat) : Int) := rfl
  have e2 : Int.tdiv (u : Int) 10 = ((u / 10 : Nat) : Int) := rfl
  refine dgtext_s0_18 ?_
  simp only [dgtext_t0_18, ne10, cond_true, e1, e2, u64_id (n := ((u / 10 : Nat) : Int)) (by omega) (by omega)]
  by_cases hu : u < 10
  · rw [eqT (show ((u / 10 : Nat) : Int) = 0 by omega), cond_true, show digsF 18 u = [dg (u % 10)] from by rw [Nat.mod_eq_of_lt hu]; unfold digsF; rw [if_pos hu], ← dg8]
    cases neg with
    | true => rfl
    | false => rfl
  · rw [eqF (show ((u / 10 : Nat) : Int) ≠ 0 by omega), cond_false, show digsF 18 u = digsF 17 (u / 10) ++ [dg (u % 10)] from by conv => lhs; unfold digsF; rw [if_neg hu]
                                                                                                                               , ← dg8]
    have := Gr_of (dgx_17 neg (u / 10) v2 v3 v4 v5 v6 v7 v8 v9 v10 v11 v12 v13 v14 v15 v16 v17 v18 (IntKind.wrap .u8 (IntKind.wrap .u64 ((48 : Int) + ((u % 10 : Nat) : Int)))) v20 v21 (by omega) (fun h => by have := h2 h; omega) (by omega))
    rw [← List.append_assoc, List.append_assoc (sgn neg ++ _)]
    exact this
theorem dgx_19 (neg : Bool) (u : Nat) (v2 v3 v4 v5 v6 v7 v8 v9 v10 v11 v12 v13 v14 v15 v16 v17 v18 v19 v20 v21 : Int) (h1 : u < 10000000000000000000) (h2 : neg = true → 1 ≤ u ∧ u < 1000000000000000000) (h3 : u < 18446744073709551616) :
    Ev E Tryz.f53 [⟨.str, sgn neg ++ digsF 19 u ++ ([v21] : List Int).map c8⟩] 0 (dgtext_C0_19 neg u v2 v3 v4 v5 v6 v7 v8 v9 v10 v11 v12 v13 v14 v15 v16 v17 v18 v19 v20 v21) := by
  have e1 : Int.tmod (u : Int) 10 = ((u % 10 : Nat) : Int) := rfl
  have e2 : Int.tdiv (u : Int) 10 = ((u / 10 : Nat) : Int) := rfl
  refine dgtext_s0_19 ?_
  simp only [dgtext_t0_19, ne10, cond_true, e1, e2, u64_id (n := ((u / 10 : Nat) : Int)) (by omega) (by omega)]
  by_cases hu : u < 10
  · rw [eqT (show ((u / 10 : Nat) : Int) = 0 by omega), cond_true, show digsF 19 u = [dg (u % 10)] from by rw [Nat.mod_eq_of_lt hu]; unfold digsF; rw [if_pos hu], ← dg8]
    cases neg with
    | true => rfl
    | false => rfl
  · rw [eqF (show ((u / 10 : Nat) : Int) ≠ 0 by omega), cond_false, show digsF 19 u = digsF 18 (u / 10) ++ [dg (u % 10)] from by conv => lhs; unfold digsF; rw [if_neg hu]
                                                                                                                               , ← dg8]
    have := Gr_of (dgx_18 neg (u / 10) v2 v3 v4 v5 v6 v7 v8 v9 v10 v11 v12 v13 v14 v15 v16 v17 v18 v19 (IntKind.wrap .u8 (IntKind.wrap .u64 ((48 : Int) + ((u % 10 : Nat) : Int)))) v21 (by omega) (fun h => by have := h2 h; omega) (by omega))
    rw [← List.append_assoc, List.append_assoc (sgn neg ++ _)]
    exact this
theorem dgx_20 (neg : Bool) (u : Nat) (v2 v3 v4 v5 v6 v7 v8 v9 v10 v11 v12 v13 v14 v15 v16 v17 v18 v19 v20 v21 : Int) (h1 : u < 100000000000000000000) (h2 : neg = true → 1 ≤ u ∧ u < 10000000000000000000) (h3 : u < 18446744073709551616) :
    Ev E Tryz.f53 [⟨.str, sgn neg ++ digsF 20 u ++ ([] : List Int).map c8⟩] 0 (dgtext_C0_20 neg u v2 v3 v4 v5 v6 v7 v8 v9 v10 v11 v12 v13 v14 v15 v16 v17 v18 v19 v20 v21) := by
  have e1 : Int.tmod (u : Int) 10 = ((u % 10 : Nat) : Int) := rfl
  have e2 : Int.tdiv (u : Int) 10 = ((u / 10 : Nat) : Int) := rfl
  refine dgtext_s0_20 ?_
  simp only [dgtext_t0_20, ne10, cond_true, e1, e2, u64_id (n := ((u / 10 : Nat) : Int)) (by omega) (by omega)]
  by_cases hu : u < 10
  · rw [eqT (show ((u / 10 : Nat) : Int) = 0 by omega), cond_true, show digsF 20 u = [dg (u % 10)] from by rw [Nat.mod_eq_of_lt hu]; unfold digsF; rw [if_pos hu], ← dg8]
    cases neg with
    | true => rfl
    | false => rfl
  · rw [eqF (show ((u / 10 : Nat) : Int) ≠ 0 by omega), cond_false, show digsF 20 u = digsF 19 (u / 10) ++ [dg (u % 10)] from by conv => lhs; unfold digsF; rw [if_neg hu]
                                                                                                                               , ← dg8]
    have := Gr_of (dgx_19 neg (u / 10) v2 v3 v4 v5 v6 v7 v8 v9 v10 v11 v12 v13 v14 v15 v16 v17 v18 v19 v20 (IntKind.wrap .u8 (IntKind.wrap .u64 ((48 : Int) + ((u % 10 : Nat) : Int)))) (by omega) (fun h => by have := h2 h; omega) (by omega))
    rw [← List.append_assoc, List.append_assoc (sgn neg ++ _)]
    exact this
theorem dgtext_ok : FnOk E dgtext_id dgtext_W := dgtext_ok_of fun n hk => by
  have hk : -9223372036854775808 ≤ n ∧ n ≤ 9223372036854775807 := by simpa [okI] using hk
  simp only [dgtext_t, textV]
  by_cases h : n < 0
  · have e : IntKind.wrap .u64 ((0 : Int) - IntKind.wrap .u64 n) = ((-n).toNat : Int) := by rw [wu64, wu64]; omega
    rw [dT h, e]
    have := Gr_of (dgx_20 true (-n).toNat 0 0 0 0 0 0 0 0 0 0 0 0 0 0 0 0 0 0 0 0 (by omega) (fun _ => by omega) (by omega))
    rw [List.map_nil, List.append_nil] at this
    exact this
  · have e : IntKind.wrap .u64 n = (n.toNat : Int) := by rw [wu64]; omega
    rw [dF h, e]
    have := Gr_of (dgx_20 false n.toNat 0 0 0 0 0 0 0 0 0 0 0 0 0 0 0 0 0 0 0 0 (by omega) (fun h => by cases h) (by omega))
    rw [List.map_nil, List.append_nil] at this
    exact this
end Go.Proofs.YtgniedpgdjmfpaaGreatDoor.Rf
namespace Go.Proofs.YtgniedpgdjmfpaaGreatDoor.Rf
open Go Go.RowKit Go.Sort Go.Proofs.YtgniedpgdjmfpaaGreatDoor.Mir
def okSp (s p : List UInt8) (a b : Int) : Bool := decide (s.length ≤ 1000000) && decide (p.length = 1) && (a == 0) && (b == -1)
def spP (s p : List UInt8) (_ _ : Int) : List (List UInt8) := Lib.split s p
def gsplit_R : FnR E
  | [a, b, c, d] => match castV (E := E) Ty.str a, castV (E := E) Ty.str b, castV (E := E) Ty.int c, castV (E := E) Ty.int d with
    | some s, some p, some m, some n => some (okSp s p m n, ⟨Ty.str, spP s p m n⟩)
    | _, _, _, _ => none
  | _ => none
theorem str_of {w : World} {ro : Nat → Nat → Prop} {v : Value} {s : List UInt8} (h : TRep E w ro v Ty.str s) : v = .string ⟨s.toArray⟩ := by
  rcases h with ⟨ha, _⟩ | ⟨_, d, hd, hr⟩
  · cases ha
  · have hd : ([.str s] : List (DVal E.Den)) = [d] := hd
    injection hd with hd _
    subst hd
    cases hr; rfl
theorem int_of {w : World} {ro : Nat → Nat → Prop} {v : Value} {n : Int} (h : TRep E w ro v Ty.int n) : v = .int .i64 n := by
  rcases h with ⟨ha, _⟩ | ⟨_, d, hd, hr⟩
  · cases ha
  · have hd : ([.int .i64 n] : List (DVal E.Den)) = [d] := hd
    injection hd with hd _
    subst hd
    cases hr; rfl
theorem gsplit_rok : FreshOk E 109 gsplit_R := ⟨⟨Tryz.f109, by kernel_rfl, by kernel_rfl, by kernel_rfl⟩, fun args t l hF => by
  unfold gsplit_R at hF
  split at hF
  · rename_i a b c d
    split at hF
    · rename_i s p m n ha hb hc hd
      injection hF with hF
      injection hF with hok hF
      cases hF
      rw [castV_eq ha, castV_eq hb, castV_eq hc, castV_eq hd]
      simp only [okSp, Bool.and_eq_true, decide_eq_true_eq, beq_iff_eq] at hok
      obtain ⟨⟨⟨hs, hp⟩, rfl⟩, rfl⟩ := hok
      obtain ⟨c, rfl⟩ : ∃ c, p = [c] := by
        match p, hp with
        | [c], _ => exact ⟨c, rfl⟩
      intro w ro vals hargs hrolt
      match vals, hargs with
      | [v1, v2, v3, v4], ⟨h1, h2, h3, h4, _⟩ =>
        rw [str_of h1, str_of h2, int_of h3, int_of h4]
        have hp1 : 1 ≤ (⟨#[c]⟩ : ByteArray).size := Nat.le_refl 1
        have hle := Lib.countB_le ⟨#[c]⟩ hp1 _ ⟨s.toArray⟩ (Nat.le_refl _)
        have hsz : (⟨s.toArray⟩ : ByteArray).size = s.length := by simp [ByteArray.size]
        have hix : ∀ x : ByteArray, Lib.indexB x ⟨#[c]⟩ = Lib.indexByte x.data.toList c := fun x => Lib.index_one _ _
        have hct : ∀ x : ByteArray, Lib.countB x ⟨#[c]⟩ = Lib.countByte x.data.toList c := fun x => Lib.count_one c _
        have hlen := Lib.splitB_all ⟨#[c]⟩ hp1 0 _ (⟨s.toArray⟩ : ByteArray) rfl
        refine (Any.strings_genSplit_core Tryz.lays221 (by kernel_rfl) ⟨s.toArray⟩ ⟨#[c]⟩ 0 (-1) (Lib.countB ⟨s.toArray⟩ ⟨#[c]⟩ + 1) w (by omega) hp1 (Nat.zero_le _)
          (fun x k hx => by rw [hix]; exact Any.strings_Index_one (ρ := Tryz.lays221_ren) { Tryz.lays221 with } x c _)
          (by rw [hct]; exact Any.strings_Count_one (ρ := Tryz.lays221_ren) { Tryz.lays221 with } ⟨s.toArray⟩ c w) (by decide) (by decide) (by rw [if_pos (by decide)]; omega)).mono fun e w' he => ?_
        obtain ⟨rfl, rfl⟩ := he
        rw [Nat.add_sub_cancel, hlen]
        have e2 : Lib.cellsOf (Lib.splitB ⟨#[c]⟩ 0 (Lib.countB ⟨s.toArray⟩ ⟨#[c]⟩) ⟨s.toArray⟩) (Lib.countB ⟨s.toArray⟩ ⟨#[c]⟩ + 1) = ((Lib.splitB ⟨#[c]⟩ 0 (Lib.countB ⟨s.toArray⟩ ⟨#[c]⟩) ⟨s.toArray⟩).map Value.string).toArray := by rw [← hlen]; exact Lib.cellsOf_full _
        rw [e2]
        have hd : (Lib.splitB ⟨#[c]⟩ 0 (Lib.countB ⟨s.toArray⟩ ⟨#[c]⟩) ⟨s.toArray⟩).map (·.data.toList) = Lib.split s [c] := Lib.splitB_data ⟨#[c]⟩ 0 _ ⟨s.toArray⟩
        generalize hL : Lib.splitB ⟨#[c]⟩ 0 (Lib.countB ⟨s.toArray⟩ ⟨#[c]⟩) ⟨s.toArray⟩ = L at hlen hd ⊢
        generalize hN : Lib.countB ⟨s.toArray⟩ ⟨#[c]⟩ + 1 = N at hlen hle ⊢
        have hN2 : N ≤ 1000001 := by omega
        have hl2 : (Lib.split s [c]).length = N := by rw [← hd, List.length_map, hlen]
        have hty : E.tid Ty.str = Tryz.lays221_ren.t 9 := rfl
        refine ⟨⟨.slice (some ⟨w.heap.size, 0, none⟩) N N, N, E.tid Ty.str, E.size Ty.str, some w.heap.size⟩, L.map Value.string, rfl, Below.alloc (Below.refl _ _) (Nat.le_refl _) _, hl2.symm, rfl, rfl, .inl ⟨⟨?_, .inr ⟨w.heap.size, N, (L.map Value.string).toArray, rfl, Nat.zero_le _, heap_alloc_new w _, Nat.le_refl _, ?_, ?_, ?_⟩⟩, rfl⟩, ?_, ?_⟩
        · show (L.map Value.string).length = N * 1; rw [List.length_map, hlen, Nat.mul_one]
        · show N ≤ maxLen; unfold maxLen; omega
        · show (L.map Value.string).toArray.size = N * 1; simp [hlen]
        · show (L.map Value.string).toArray.toList.take (N * 1) = _; rw [Nat.mul_one, List.toList_toArray]; exact List.take_of_length_le (by rw [List.length_map, hlen]; exact Nat.le_refl _)
        · intro i x j k hx hc
          have hi : (L.map (·.data.toList))[i]? = some x := by rw [hd]; exact hx
          rw [List.getElem?_map] at hi
          cases hq : L[i]? with
          | none => rw [hq] at hi; cases hi
          | some b =>
            rw [hq] at hi
            injection hi with hi
            match j, hc with
            | 0, hc =>
              have hc : some (DVal.str x : DVal E.Den) = some k := hc
              injection hc with hc
              subst hc
              refine ⟨.string b, ?_, ?_⟩
              · show (L.map Value.string)[i * 1 + 0]? = _; rw [Nat.mul_one, Nat.add_zero, List.getElem?_map, hq]; rfl
              · rw [← hi]; exact .str b.data.toList
            | j + 1, hc => cases hc
        · intro g hg; cases hg; exact Nat.le_refl _
    · cases hF
  · cases hF⟩
def pdgt (c : UInt8) : Int := (c.toNat : Int) - 48
theorem pdgt_w (c : UInt8) : w64 (w64 (c.toNat : Int) - 48) = pdgt c := by
  have := c.toNat_lt
  show w64 (w64 (c.toNat : Int) - 48) = _
  rw [w64_id (n := (c.toNat : Int)) (by omega) (by omega), w64_id (by omega) (by omega)]
  rfl
def povr (most d n : Int) (over : Bool) : Bool := bif (bif over then true else decide (Int.tdiv (most - d) 10 < n)) then true else decide (most < d)
def pwh (most : Int) : List UInt8 → Int → Bool → Int × Int
  | [], n, over => bif over then (0, 9) else (n, 0)
  | c :: t, n, over => bif (bif decide (pdgt c < 0) then true else decide (9 < pdgt c)) then (0, 3) else bif !(povr most (pdgt c) n over) then pwh most t (n * 10 + pdgt c) (povr most (pdgt c) n over) else pwh most t n (povr most (pdgt c) n over)
def pbadW (s : List UInt8) : Bool := bif s == [] then true else (bif decide ((1 : Int) < (s.length : Int)) then (((List.getD s 0 0).toNat : Int) == 48) else false)
def pwholeP (s : List UInt8) (most : Int) : Int × Int := bif pbadW s then (0, 3) else pwh most s 0 false
def pwholeV (s : List UInt8) (most : Int) : Int := (pwholeP s most).1
def pwholeE (s : List UInt8) (most : Int) : Int := (pwholeP s most).2
def pokW (s : List UInt8) (most : Int) : Bool := decide (s.length ≤ 1000000) && decide (0 ≤ most) && decide (most ≤ 9007199254740992)
theorem pokW_iff {s : List UInt8} {most : Int} : pokW s most = true ↔ (s.length ≤ 1000000 ∧ 0 ≤ most) ∧ most ≤ 9007199254740992 := by simp [pokW]
noncomputable def pwhole_W : FnW E := fn22 (E := E) .str .int .int .api_Errno pokW pwholeV pwholeE
def pwhole_id : FuncId := 115
noncomputable def pwhole_O : Oracle E := orac [] [] [] []
noncomputable def pwhole_H : Hint E := Hint.mk [(0, [0, 1, 6, 7, 23, 24])] [] [] [] []
noncomputable def pwhole_C0 (v0 : List UInt8) (v1 v2 : Int) (v3 : Bool) (v4 v5 : Int) : ASt E := ASt.mk 61 [(0, .d (.str v0)), (1, .d (.int .i64 v1)), (6, .d (.int .i64 v2)), (7, .d (.bool v3)), (23, .d (.int .i64 v4)), (24, .d (.int .i64 v5))] [] 0
noncomputable def pwhole_t (G : Nat → ASt E → Option (List (TV E))) (x0 : List UInt8) (x1 : Int) : Option (List (TV E)) :=
  bif ((decide ((0 : Int) ≤ (0 : Int)) && decide ((0 : Int) < (x0.length : Int))) || !((!(x0 == ([] : List UInt8))) && (decide ((1 : Int) < (x0.length : Int))))) then (bif (bif (x0 == ([] : List UInt8)) then true else (bif (decide ((1 : Int) < (x0.length : Int))) then ((((List.getD x0 (Int.toNat 0) 0).toNat : Nat) : Int) == (48 : Int)) else false)) then some [⟨.int, (0 : Int)⟩, ⟨.api_Errno, (3 : Int)⟩] else G 0 (pwhole_C0 x0 x1 0 false (x0.length : Int) 0)) else none
theorem pwhole_e (G : Nat → ASt E → Option (List (TV E))) (x0 : List UInt8) (x1 : Int) : runE pwhole_O pwhole_H G Tryz.f115 [⟨.str, x0⟩, ⟨.int, x1⟩] = pwhole_t G x0 x1 := by kernel_rfl
noncomputable def pwhole_t0 (G : Nat → ASt E → Option (List (TV E))) (v0 : List UInt8) (v1 v2 : Int) (v3 : Bool) (v4 v5 : Int) : Option (List (TV E)) :=
  bif (decide (v5 < v4)) then (bif (decide ((0 : Int) ≤ v5) && decide (v5 < (v0.length : Int))) then (bif (bif (decide ((w64 ((w64 (((List.getD v0 (Int.toNat v5) 0).toNat : Nat) : Int)) - (48 : Int))) < (0 : Int))) then true else (decide ((9 : Int) < (w64 ((w64 (((List.getD v0 (Int.toNat v5) 0).toNat : Nat) : Int)) - (48 : Int)))))) then some [⟨.int, (0 : Int)⟩, ⟨.api_Errno, (3 : Int)⟩] else (bif ((!((10 : Int) == (0 : Int))) || !(!v3)) then (bif (!(bif (bif v3 then true else (decide ((w64 (Int.tdiv (w64 (v1 - (w64 ((w64 (((List.getD v0 (Int.toNat v5) 0).toNat : Nat) : Int)) - (48 : Int))))) (10 : Int))) < v2))) then true else (decide (v1 < (w64 ((w64 (((List.getD v0 (Int.toNat v5) 0).toNat : Nat) : Int)) - (48 : Int))))))) then G 0 (pwhole_C0 v0 v1 (w64 ((w64 (v2 * (10 : Int))) + (w64 ((w64 (((List.getD v0 (Int.toNat v5) 0).toNat : Nat) : Int)) - (48 : Int))))) (bif (bif v3 then true else (decide ((w64 (Int.tdiv (w64 (v1 - (w64 ((w64 (((List.getD v0 (Int.toNat v5) 0).toNat : Nat) : Int)) - (48 : Int))))) (10 : Int))) < v2))) then true else (decide (v1 < (w64 ((w64 (((List.getD v0 (Int.toNat v5) 0).toNat : Nat) : Int)) - (48 : Int)))))) v4 (w64 (v5 + (1 : Int)))) else G 0 (pwhole_C0 v0 v1 v2 (bif (bif v3 then true else (decide ((w64 (Int.tdiv (w64 (v1 - (w64 ((w64 (((List.getD v0 (Int.toNat v5) 0).toNat : Nat) : Int)) - (48 : Int))))) (10 : Int))) < v2))) then true else (decide (v1 < (w64 ((w64 (((List.getD v0 (Int.toNat v5) 0).toNat : Nat) : Int)) - (48 : Int)))))) v4 (w64 (v5 + (1 : Int))))) else none)) else none) else (bif v3 then some [⟨.int, (0 : Int)⟩, ⟨.api_Errno, (9 : Int)⟩] else some [⟨.int, v2⟩, ⟨.api_Errno, (0 : Int)⟩])
theorem pwhole_l0 (G : Nat → ASt E → Option (List (TV E))) (v0 : List UInt8) (v1 v2 : Int) (v3 : Bool) (v4 v5 : Int) : runL pwhole_O pwhole_H G Tryz.f115 0 (pwhole_C0 v0 v1 v2 v3 v4 v5) = pwhole_t0 G v0 v1 v2 v3 v4 v5 := by kernel_rfl
theorem pwhole_f : Tryz.prog.funcs[115]? = some Tryz.f115 := by kernel_rfl
theorem pwhole_n : (Tryz.f115.name == "runtime.NumGoroutine") = false := by kernel_rfl
theorem pwhole_b : Tryz.f115.body.isNone = false := by kernel_rfl
theorem pwhole_hO : OracleOk E pwhole_O := orac_ok .nil .nil .nil .nil
theorem pwhole_s0 {res : List (TV E)} {v0 : List UInt8} {v1 v2 : Int} {v3 : Bool} {v4 v5 : Int} (h : pwhole_t0 (Gr E Tryz.f115 res) v0 v1 v2 v3 v4 v5 = some res) : Ev E Tryz.f115 res 0 (pwhole_C0 v0 v1 v2 v3 v4 v5) := Ev.step pwhole_hO mix ((pwhole_l0 _ v0 v1 v2 v3 v4 v5).trans h)
theorem pwhole_ok_of (h : ∀ (x0 : List UInt8) (x1 : Int), pokW x0 x1 = true → pwhole_t (Gr E Tryz.f115 [⟨.int, pwholeV x0 x1⟩, ⟨.api_Errno, pwholeE x0 x1⟩]) x0 x1 = some [⟨.int, pwholeV x0 x1⟩, ⟨.api_Errno, pwholeE x0 x1⟩]) : FnOk E pwhole_id pwhole_W := fn22_ok pwhole_hO mix pwhole_f pwhole_n pwhole_b (fun x0 x1 hk => (pwhole_e _ x0 x1).trans (h x0 x1 hk))
theorem pwhole_loop (s : List UInt8) (most : Int) (hs : s.length ≤ 1000000) (h0 : 0 ≤ most) (h1 : most ≤ 9007199254740992) : ∀ (m i : Nat) (n : Int) (over : Bool), s.length - i = m → i ≤ s.length → 0 ≤ n → n ≤ most →
    Ev E Tryz.f115 [⟨.int, (pwh most (s.drop i) n over).1⟩, ⟨.api_Errno, (pwh most (s.drop i) n over).2⟩] 0 (pwhole_C0 s most n over s.length i) := by
  intro m
  induction m with
  | zero =>
    intro i n over g1 g2 g3 g4
    refine pwhole_s0 ?_
    simp only [pwhole_t0, dge (show s.length ≤ i by omega), cond_false, List.drop_eq_nil_of_le (show s.length ≤ i by omega), pwh]
    cases over <;> rfl
  | succ m ih =>
    intro i n over g1 g2 g3 g4
    have hi : i < s.length := by omega
    have e3 : w64 ((i : Int) + 1) = ((i + 1 : Nat) : Int) := by rw [w64_id (by omega) (by omega)]; omega
    refine pwhole_s0 ?_
    simp only [pwhole_t0, dlt hi, d0, gd s _ i hi, Bool.and_self, cond_true, pdgt_w, e3]
    rw [← List.getElem_cons_drop hi]
    simp only [pwh]
    generalize pdgt s[i] = d
    cases hb : (bif decide (d < 0) then true else decide (9 < d)) with
    | true => rfl
    | false =>
      have hd : ¬ d < 0 ∧ ¬ 9 < d := by
        by_cases a1 : d < 0
        · rw [dT a1] at hb; cases hb
        · rw [dF a1, cond_false] at hb
          exact ⟨a1, by simpa using hb⟩
      have q : ((most - d).tdiv 10).natAbs = (most - d).natAbs / 10 := Int.natAbs_tdiv _ _
      have w1 : w64 (most - d) = most - d := w64_id (by omega) (by omega)
      have w2 : w64 ((most - d).tdiv 10) = (most - d).tdiv 10 := w64_id (by omega) (by omega)
      have e10 : ((!((10 : Int) == 0)) || !(!over)) = true := rfl
      simp only [cond_false, w1, w2, e10, cond_true]
      change (bif !(povr most d n over) then Gr E _ _ 0 (pwhole_C0 s most (w64 (w64 (n * 10) + d)) (povr most d n over) s.length ((i + 1 : Nat) : Int)) else Gr E _ _ 0 (pwhole_C0 s most n (povr most d n over) s.length ((i + 1 : Nat) : Int))) = _
      cases ho : povr most d n over with
      | true =>
        simp only [Bool.not_true, cond_false]
        exact Gr_of (ih (i + 1) n true (by omega) (by omega) g3 g4)
      | false =>
        have hf : ¬ (most - d).tdiv 10 < n ∧ ¬ most < d := by
          unfold povr at ho
          cases over with
          | true => cases ho
          | false =>
            by_cases a1 : (most - d).tdiv 10 < n
            · rw [dT a1] at ho; cases ho
            · rw [dF a1] at ho
              exact ⟨a1, by simpa using ho⟩
        have hq : (most - d).tdiv 10 = (most - d) / 10 := Int.tdiv_eq_ediv_of_nonneg (by omega)
        have hle : n * 10 + d ≤ most := by omega
        simp only [Bool.not_false, cond_true]
        rw [w64_id (n := n * 10) (by omega) (by omega), w64_id (n := n * 10 + d) (by omega) (by omega)]
        exact Gr_of (ih (i + 1) (n * 10 + d) false (by omega) (by omega) (by omega) hle)
theorem pwhole_ok : FnOk E pwhole_id pwhole_W := pwhole_ok_of fun s most hk => by
  obtain ⟨⟨hs, h0⟩, h1⟩ := pokW_iff.1 hk
  have hc : ((decide ((0 : Int) ≤ 0) && decide ((0 : Int) < (s.length : Int))) || !((!(s == ([] : List UInt8))) && (decide ((1 : Int) < (s.length : Int))))) = true := by
    cases s with
    | nil => rfl
    | cons c t => rw [dT (show (0 : Int) < ((c :: t).length : Int) by rw [List.length_cons]; omega)]; rfl
  simp only [pwhole_t]
  rw [hc, cond_true]
  change (bif pbadW s then _ else _) = _
  unfold pwholeV pwholeE pwholeP
  cases hb : pbadW s with
  | true => rfl
  | false =>
    simp only [cond_false]
    have := Gr_of (pwhole_loop s most hs h0 h1 s.length 0 0 false (by omega) (by omega) (Int.le_refl _) h0)
    rw [List.drop_zero] at this
    exact this
noncomputable def dcount_W : FnW E := fn22 (E := E) .str .int .int .api_Errno pokW pwholeV pwholeE
def dcount_id : FuncId := 58
noncomputable def dcount_O : Oracle E := orac [(115, pwhole_W)] [] [] []
noncomputable def dcount_H : Hint E := Hint.mk [] [] [] [] []
noncomputable def dcount_t (_G : Nat → ASt E → Option (List (TV E))) (x0 : List UInt8) (x1 : Int) : Option (List (TV E)) :=
  bif (decide (x1 < (0 : Int))) then some [⟨.int, (0 : Int)⟩, ⟨.api_Errno, (2 : Int)⟩] else (bif (pokW x0 x1) then some [⟨.int, (pwholeV x0 x1)⟩, ⟨.api_Errno, (pwholeE x0 x1)⟩] else none)
theorem dcount_e (G : Nat → ASt E → Option (List (TV E))) (x0 : List UInt8) (x1 : Int) : runE dcount_O dcount_H G Tryz.f58 [⟨.str, x0⟩, ⟨.int, x1⟩] = dcount_t G x0 x1 := by kernel_rfl
theorem dcount_f : Tryz.prog.funcs[58]? = some Tryz.f58 := by kernel_rfl
theorem dcount_n : (Tryz.f58.name == "runtime.NumGoroutine") = false := by kernel_rfl
theorem dcount_b : Tryz.f58.body.isNone = false := by kernel_rfl
theorem dcount_hO : OracleOk E dcount_O := orac_ok (.cons pwhole_ok .nil) .nil .nil .nil
theorem dcount_ok_of (h : ∀ (x0 : List UInt8) (x1 : Int), pokW x0 x1 = true → dcount_t (Gr E Tryz.f58 [⟨.int, pwholeV x0 x1⟩, ⟨.api_Errno, pwholeE x0 x1⟩]) x0 x1 = some [⟨.int, pwholeV x0 x1⟩, ⟨.api_Errno, pwholeE x0 x1⟩]) : FnOk E dcount_id dcount_W := fn22_ok dcount_hO mix dcount_f dcount_n dcount_b (fun x0 x1 hk => (dcount_e _ x0 x1).trans (h x0 x1 hk))
theorem dcount_ok : FnOk E dcount_id dcount_W := dcount_ok_of fun s most hk => by
  obtain ⟨⟨hs, h0⟩, h1⟩ := pokW_iff.1 hk
  simp only [dcount_t, hk, dF (show ¬ most < 0 by omega), cond_true, cond_false]
end Go.Proofs.YtgniedpgdjmfpaaGreatDoor.Rf
namespace Go.Proofs.YtgniedpgdjmfpaaGreatDoor.Rf
open Go Go.RowKit Go.Sort Go.Proofs.YtgniedpgdjmfpaaGreatDoor.Mir
theorem fn1_kit {f : FuncId} {a t : E.Ty} {ok : E.Den a → Bool} {F : E.Den a → E.Den t} (ex : ∃ fn, Tryz.prog.funcs[f]? = some fn ∧ (fn.name == "runtime.NumGoroutine") = false ∧ fn.body.isNone = false) (h : ∀ x, ok x = true → CallsOk E f [⟨a, x⟩] [⟨t, F x⟩]) : FnOk E f (fn1 a t ok F) :=
  ⟨ex, fun args r hr => by
    unfold fn1 at hr
    split at hr
    · split at hr
      · rename_i x hx
        injection hr with hr
        injection hr with h1 h2
        subst h2
        rw [castV_eq hx]
        exact h _ h1
      · cases hr
    · cases hr⟩
def noOk (_ : List UInt8) : Bool := false
def noB (_ : List UInt8) : Bool := false
noncomputable def paddr_W : FnW E := fn1 (E := E) .str .bool noOk noB
def paddr_id : FuncId := 107
theorem paddr_ok : FnOk E paddr_id paddr_W := fn1_kit ⟨Tryz.f107, by kernel_rfl, by kernel_rfl, by kernel_rfl⟩ fun s hk => by cases hk
def okPR (p : Port) : Bool := p.host == []
def prtV (p : Port) : Bool := bif (bif (bif (bif (bif decide ((1 : Int) ≤ p.in_) then decide (p.in_ ≤ 65535) else false) then decide ((0 : Int) ≤ p.out) else false) then decide (p.out ≤ 65535) else false) then (bif p.proto == [116, 99, 112] then true else p.proto == [117, 100, 112]) else false) then true else false
noncomputable def pright_W : FnW E := fn1 (E := E) .api_Port .bool okPR prtV
def pright_id : FuncId := 48
noncomputable def pright_O : Oracle E := orac [(107, paddr_W)] [] [] []
noncomputable def pright_H : Hint E := Hint.mk [] [] [] [] []
noncomputable def pright_t (_G : Nat → ASt E → Option (List (TV E))) (x0 : Port) : Option (List (TV E)) :=
  bif ((noOk x0.host) || !((bif (bif (bif (bif (decide ((1 : Int) ≤ x0.in_)) then (decide (x0.in_ ≤ (65535 : Int))) else false) then (decide ((0 : Int) ≤ x0.out)) else false) then (decide (x0.out ≤ (65535 : Int))) else false) then (bif (x0.proto == ([116, 99, 112] : List UInt8)) then true else (x0.proto == ([117, 100, 112] : List UInt8))) else false) && (!(x0.host == ([] : List UInt8))))) then some [⟨.bool, (bif (bif (bif (bif (bif (decide ((1 : Int) ≤ x0.in_)) then (decide (x0.in_ ≤ (65535 : Int))) else false) then (decide ((0 : Int) ≤ x0.out)) else false) then (decide (x0.out ≤ (65535 : Int))) else false) then (bif (x0.proto == ([116, 99, 112] : List UInt8)) then true else (x0.proto == ([117, 100, 112] : List UInt8))) else false) then (bif (x0.host == ([] : List UInt8)) then true else (noB x0.host)) else false)⟩] else none
theorem pright_e (G : Nat → ASt E → Option (List (TV E))) (x0 : Port) : runE pright_O pright_H G Tryz.f48 [⟨.api_Port, x0⟩] = pright_t G x0 := by kernel_rfl
theorem pright_f : Tryz.prog.funcs[48]? = some Tryz.f48 := by kernel_rfl
theorem pright_n : (Tryz.f48.name == "runtime.NumGoroutine") = false := by kernel_rfl
theorem pright_b : Tryz.f48.body.isNone = false := by kernel_rfl
theorem pright_hO : OracleOk E pright_O := orac_ok (.cons paddr_ok .nil) .nil .nil .nil
theorem pright_ok_of (h : ∀ (x0 : Port), okPR x0 = true → pright_t (Gr E Tryz.f48 [⟨.bool, prtV x0⟩]) x0 = some [⟨.bool, prtV x0⟩]) : FnOk E pright_id pright_W := fn1_ok pright_hO mix pright_f pright_n pright_b (fun x0 hk => (pright_e _ x0).trans (h x0 hk))
theorem pright_ok : FnOk E pright_id pright_W := pright_ok_of fun p hk => by
  have hk : (p.host == ([] : List UInt8)) = true := hk
  simp only [pright_t, hk, Bool.not_true, Bool.and_false, Bool.not_false, Bool.or_true, cond_true]
  rfl
def exS : List UInt8 := [56, 48, 56, 48, 58, 56, 48]
def exP : Port := ⟨[], 8080, 80, [116, 99, 112]⟩
def okPP (s : List UInt8) : Bool := s == exS
def parP (_ : List UInt8) : Port := exP
def parE (_ : List UInt8) : Int := 0
noncomputable def pparse_W : FnW E := fn12 (E := E) .str .api_Port .api_Errno okPP parP parE
def pparse_id : FuncId := 16
noncomputable def pparse_O : Oracle E := withI (orac [(58, dcount_W), (48, pright_W), (49, scut_W)] [(109, gsplit_R)] [] []) [(50, Tryz.f50), (51, Tryz.f51)]
noncomputable def pparse_H : Hint E := Hint.mk [] [] [] [] []
noncomputable def pparse_t (_G : Nat → ASt E → Option (List (TV E))) (x0 : List UInt8) : Option (List (TV E)) :=
  bif (okIx x0 [47]) then (bif (cutC x0 [47]) then (bif (okSp (cutA x0 [47]) [58] 0 (-1)) then (bif (decide ((0 : Int) ≤ (w64 ((((spP (cutA x0 [47]) [58] 0 (-1)).length : Nat) : Int) - (1 : Int)))) && decide ((w64 ((((spP (cutA x0 [47]) [58] 0 (-1)).length : Nat) : Int) - (1 : Int))) < ((spP (cutA x0 [47]) [58] 0 (-1)).length : Nat))) then (bif (pokW (List.getD (spP (cutA x0 [47]) [58] 0 (-1)) (Int.toNat (w64 ((((spP (cutA x0 [47]) [58] 0 (-1)).length : Nat) : Int) - (1 : Int)))) (dflt .str)) 65535) then (bif (bif ((pwholeE (List.getD (spP (cutA x0 [47]) [58] 0 (-1)) (Int.toNat (w64 ((((spP (cutA x0 [47]) [58] 0 (-1)).length : Nat) : Int) - (1 : Int)))) (dflt .str)) 65535) != (0 : Int)) then true else ((pwholeV (List.getD (spP (cutA x0 [47]) [58] 0 (-1)) (Int.toNat (w64 ((((spP (cutA x0 [47]) [58] 0 (-1)).length : Nat) : Int) - (1 : Int)))) (dflt .str)) 65535) == (0 : Int))) then (bif ((((spP (cutA x0 [47]) [58] 0 (-1)).length : Nat) : Int) == (1 : Int)) then (bif (okPR ⟨[], 0, (-1), (cutB x0 [47])⟩) then (bif (!(prtV ⟨[], 0, (-1), (cutB x0 [47])⟩)) then some [⟨.api_Port, (⟨[], 0, 0, []⟩ : Port)⟩, ⟨.api_Errno, (3 : Int)⟩] else some [⟨.api_Port, (⟨[], 0, (-1), (cutB x0 [47])⟩ : Port)⟩, ⟨.api_Errno, (0 : Int)⟩]) else none) else (bif ((((spP (cutA x0 [47]) [58] 0 (-1)).length : Nat) : Int) == (2 : Int)) then (bif (decide ((0 : Int) ≤ (0 : Int)) && decide ((0 : Int) < ((spP (cutA x0 [47]) [58] 0 (-1)).length : Nat))) then (bif (pokW (List.getD (spP (cutA x0 [47]) [58] 0 (-1)) (Int.toNat 0) (dflt .str)) 65535) then (bif (bif ((pwholeE (List.getD (spP (cutA x0 [47]) [58] 0 (-1)) (Int.toNat 0) (dflt .str)) 65535) != (0 : Int)) then true else ((pwholeV (List.getD (spP (cutA x0 [47]) [58] 0 (-1)) (Int.toNat 0) (dflt .str)) 65535) == (0 : Int))) then (bif (okPR ⟨[], (-1), (-1), (cutB x0 [47])⟩) then (bif (!(prtV ⟨[], (-1), (-1), (cutB x0 [47])⟩)) then some [⟨.api_Port, (⟨[], 0, 0, []⟩ : Port)⟩, ⟨.api_Errno, (3 : Int)⟩] else some [⟨.api_Port, (⟨[], (-1), (-1), (cutB x0 [47])⟩ : Port)⟩, ⟨.api_Errno, (0 : Int)⟩]) else none) else (bif (okPR ⟨[], (pwholeV (List.getD (spP (cutA x0 [47]) [58] 0 (-1)) (Int.toNat 0) (dflt .str)) 65535), (-1), (cutB x0 [47])⟩) then (bif (!(prtV ⟨[], (pwholeV (List.getD (spP (cutA x0 [47]) [58] 0 (-1)) (Int.toNat 0) (dflt .str)) 65535), (-1), (cutB x0 [47])⟩)) then some [⟨.api_Port, (⟨[], 0, 0, []⟩ : Port)⟩, ⟨.api_Errno, (3 : Int)⟩] else some [⟨.api_Port, (⟨[], (pwholeV (List.getD (spP (cutA x0 [47]) [58] 0 (-1)) (Int.toNat 0) (dflt .str)) 65535), (-1), (cutB x0 [47])⟩ : Port)⟩, ⟨.api_Errno, (0 : Int)⟩]) else none)) else none) else none) else (bif ((((spP (cutA x0 [47]) [58] 0 (-1)).length : Nat) : Int) == (3 : Int)) then (bif (decide ((0 : Int) ≤ (0 : Int)) && decide ((0 : Int) < ((spP (cutA x0 [47]) [58] 0 (-1)).length : Nat))) then (bif ((List.getD (spP (cutA x0 [47]) [58] 0 (-1)) (Int.toNat 0) (dflt .str)) == ([] : List UInt8)) then some [⟨.api_Port, (⟨[], 0, 0, []⟩ : Port)⟩, ⟨.api_Errno, (3 : Int)⟩] else (bif (decide ((0 : Int) ≤ (1 : Int)) && decide ((1 : Int) < ((spP (cutA x0 [47]) [58] 0 (-1)).length : Nat))) then (bif (!((List.getD (spP (cutA x0 [47]) [58] 0 (-1)) (Int.toNat 1) (dflt .str)) == ([] : List UInt8))) then (bif (decide ((0 : Int) ≤ (1 : Int)) && decide ((1 : Int) < ((spP (cutA x0 [47]) [58] 0 (-1)).length : Nat))) then (bif (pokW (List.getD (spP (cutA x0 [47]) [58] 0 (-1)) (Int.toNat 1) (dflt .str)) 65535) then (bif (bif ((pwholeE (List.getD (spP (cutA x0 [47]) [58] 0 (-1)) (Int.toNat 1) (dflt .str)) 65535) != (0 : Int)) then true else ((pwholeV (List.getD (spP (cutA x0 [47]) [58] 0 (-1)) (Int.toNat 1) (dflt .str)) 65535) == (0 : Int))) then (bif (okPR ⟨(List.getD (spP (cutA x0 [47]) [58] 0 (-1)) (Int.toNat 0) (dflt .str)), (-1), (-1), (cutB x0 [47])⟩) then (bif (!(prtV ⟨(List.getD (spP (cutA x0 [47]) [58] 0 (-1)) (Int.toNat 0) (dflt .str)), (-1), (-1), (cutB x0 [47])⟩)) then some [⟨.api_Port, (⟨[], 0, 0, []⟩ : Port)⟩, ⟨.api_Errno, (3 : Int)⟩] else some [⟨.api_Port, (⟨(List.getD (spP (cutA x0 [47]) [58] 0 (-1)) (Int.toNat 0) (dflt .str)), (-1), (-1), (cutB x0 [47])⟩ : Port)⟩, ⟨.api_Errno, (0 : Int)⟩]) else none) else (bif (okPR ⟨(List.getD (spP (cutA x0 [47]) [58] 0 (-1)) (Int.toNat 0) (dflt .str)), (pwholeV (List.getD (spP (cutA x0 [47]) [58] 0 (-1)) (Int.toNat 1) (dflt .str)) 65535), (-1), (cutB x0 [47])⟩) then (bif (!(prtV ⟨(List.getD (spP (cutA x0 [47]) [58] 0 (-1)) (Int.toNat 0) (dflt .str)), (pwholeV (List.getD (spP (cutA x0 [47]) [58] 0 (-1)) (Int.toNat 1) (dflt .str)) 65535), (-1), (cutB x0 [47])⟩)) then some [⟨.api_Port, (⟨[], 0, 0, []⟩ : Port)⟩, ⟨.api_Errno, (3 : Int)⟩] else some [⟨.api_Port, (⟨(List.getD (spP (cutA x0 [47]) [58] 0 (-1)) (Int.toNat 0) (dflt .str)), (pwholeV (List.getD (spP (cutA x0 [47]) [58] 0 (-1)) (Int.toNat 1) (dflt .str)) 65535), (-1), (cutB x0 [47])⟩ : Port)⟩, ⟨.api_Errno, (0 : Int)⟩]) else none)) else none) else none) else (bif (okPR ⟨(List.getD (spP (cutA x0 [47]) [58] 0 (-1)) (Int.toNat 0) (dflt .str)), 0, (-1), (cutB x0 [47])⟩) then (bif (!(prtV ⟨(List.getD (spP (cutA x0 [47]) [58] 0 (-1)) (Int.toNat 0) (dflt .str)), 0, (-1), (cutB x0 [47])⟩)) then some [⟨.api_Port, (⟨[], 0, 0, []⟩ : Port)⟩, ⟨.api_Errno, (3 : Int)⟩] else some [⟨.api_Port, (⟨(List.getD (spP (cutA x0 [47]) [58] 0 (-1)) (Int.toNat 0) (dflt .str)), 0, (-1), (cutB x0 [47])⟩ : Port)⟩, ⟨.api_Errno, (0 : Int)⟩]) else none)) else none)) else none) else some [⟨.api_Port, (⟨[], 0, 0, []⟩ : Port)⟩, ⟨.api_Errno, (3 : Int)⟩]))) else (bif ((((spP (cutA x0 [47]) [58] 0 (-1)).length : Nat) : Int) == (1 : Int)) then (bif (okPR ⟨[], 0, (pwholeV (List.getD (spP (cutA x0 [47]) [58] 0 (-1)) (Int.toNat (w64 ((((spP (cutA x0 [47]) [58] 0 (-1)).length : Nat) : Int) - (1 : Int)))) (dflt .str)) 65535), (cutB x0 [47])⟩) then (bif (!(prtV ⟨[], 0, (pwholeV (List.getD (spP (cutA x0 [47]) [58] 0 (-1)) (Int.toNat (w64 ((((spP (cutA x0 [47]) [58] 0 (-1)).length : Nat) : Int) - (1 : Int)))) (dflt .str)) 65535), (cutB x0 [47])⟩)) then some [⟨.api_Port, (⟨[], 0, 0, []⟩ : Port)⟩, ⟨.api_Errno, (3 : Int)⟩] else some [⟨.api_Port, (⟨[], 0, (pwholeV (List.getD (spP (cutA x0 [47]) [58] 0 (-1)) (Int.toNat (w64 ((((spP (cutA x0 [47]) [58] 0 (-1)).length : Nat) : Int) - (1 : Int)))) (dflt .str)) 65535), (cutB x0 [47])⟩ : Port)⟩, ⟨.api_Errno, (0 : Int)⟩]) else none) else (bif ((((spP (cutA x0 [47]) [58] 0 (-1)).length : Nat) : Int) == (2 : Int)) then (bif (decide ((0 : Int) ≤ (0 : Int)) && decide ((0 : Int) < ((spP (cutA x0 [47]) [58] 0 (-1)).length : Nat))) then (bif (pokW (List.getD (spP (cutA x0 [47]) [58] 0 (-1)) (Int.toNat 0) (dflt .str)) 65535) then (bif (bif ((pwholeE (List.getD (spP (cutA x0 [47]) [58] 0 (-1)) (Int.toNat 0) (dflt .str)) 65535) != (0 : Int)) then true else ((pwholeV (List.getD (spP (cutA x0 [47]) [58] 0 (-1)) (Int.toNat 0) (dflt .str)) 65535) == (0 : Int))) then (bif (okPR ⟨[], (-1), (pwholeV (List.getD (spP (cutA x0 [47]) [58] 0 (-1)) (Int.toNat (w64 ((((spP (cutA x0 [47]) [58] 0 (-1)).length : Nat) : Int) - (1 : Int)))) (dflt .str)) 65535), (cutB x0 [47])⟩) then (bif (!(prtV ⟨[], (-1), (pwholeV (List.getD (spP (cutA x0 [47]) [58] 0 (-1)) (Int.toNat (w64 ((((spP (cutA x0 [47]) [58] 0 (-1)).length : Nat) : Int) - (1 : Int)))) (dflt .str)) 65535), (cutB x0 [47])⟩)) then some [⟨.api_Port, (⟨[], 0, 0, []⟩ : Port)⟩, ⟨.api_Errno, (3 : Int)⟩] else some [⟨.api_Port, (⟨[], (-1), (pwholeV (List.getD (spP (cutA x0 [47]) [58] 0 (-1)) (Int.toNat (w64 ((((spP (cutA x0 [47]) [58] 0 (-1)).length : Nat) : Int) - (1 : Int)))) (dflt .str)) 65535), (cutB x0 [47])⟩ : Port)⟩, ⟨.api_Errno, (0 : Int)⟩]) else none) else (bif (okPR ⟨[], (pwholeV (List.getD (spP (cutA x0 [47]) [58] 0 (-1)) (Int.toNat 0) (dflt .str)) 65535), (pwholeV (List.getD (spP (cutA x0 [47]) [58] 0 (-1)) (Int.toNat (w64 ((((spP (cutA x0 [47]) [58] 0 (-1)).length : Nat) : Int) - (1 : Int)))) (dflt .str)) 65535), (cutB x0 [47])⟩) then (bif (!(prtV ⟨[], (pwholeV (List.getD (spP (cutA x0 [47]) [58] 0 (-1)) (Int.toNat 0) (dflt .str)) 65535), (pwholeV (List.getD (spP (cutA x0 [47]) [58] 0 (-1)) (Int.toNat (w64 ((((spP (cutA x0 [47]) [58] 0 (-1)).length : Nat) : Int) - (1 : Int)))) (dflt .str)) 65535), (cutB x0 [47])⟩)) then some [⟨.api_Port, (⟨[], 0, 0, []⟩ : Port)⟩, ⟨.api_Errno, (3 : Int)⟩] else some [⟨.api_Port, (⟨[], (pwholeV (List.getD (spP (cutA x0 [47]) [58] 0 (-1)) (Int.toNat 0) (dflt .str)) 65535), (pwholeV (List.getD (spP (cutA x0 [47]) [58] 0 (-1)) (Int.toNat (w64 ((((spP (cutA x0 [47]) [58] 0 (-1)).length : Nat) : Int) - (1 : Int)))) (dflt .str)) 65535), (cutB x0 [47])⟩ : Port)⟩, ⟨.api_Errno, (0 : Int)⟩]) else none)) else none) else none) else (bif ((((spP (cutA x0 [47]) [58] 0 (-1)).length : Nat) : Int) == (3 : Int)) then (bif (decide ((0 : Int) ≤ (0 : Int)) && decide ((0 : Int) < ((spP (cutA x0 [47]) [58] 0 (-1)).length : Nat))) then (bif ((List.getD (spP (cutA x0 [47]) [58] 0 (-1)) (Int.toNat 0) (dflt .str)) == ([] : List UInt8)) then some [⟨.api_Port, (⟨[], 0, 0, []⟩ : Port)⟩, ⟨.api_Errno, (3 : Int)⟩] else (bif (decide ((0 : Int) ≤ (1 : Int)) && decide ((1 : Int) < ((spP (cutA x0 [47]) [58] 0 (-1)).length : Nat))) then (bif (!((List.getD (spP (cutA x0 [47]) [58] 0 (-1)) (Int.toNat 1) (dflt .str)) == ([] : List UInt8))) then (bif (decide ((0 : Int) ≤ (1 : Int)) && decide ((1 : Int) < ((spP (cutA x0 [47]) [58] 0 (-1)).length : Nat))) then (bif (pokW (List.getD (spP (cutA x0 [47]) [58] 0 (-1)) (Int.toNat 1) (dflt .str)) 65535) then (bif (bif ((pwholeE (List.getD (spP (cutA x0 [47]) [58] 0 (-1)) (Int.toNat 1) (dflt .str)) 65535) != (0 : Int)) then true else ((pwholeV (List.getD (spP (cutA x0 [47]) [58] 0 (-1)) (Int.toNat 1) (dflt .str)) 65535) == (0 : Int))) then (bif (okPR ⟨(List.getD (spP (cutA x0 [47]) [58] 0 (-1)) (Int.toNat 0) (dflt .str)), (-1), (pwholeV (List.getD (spP (cutA x0 [47]) [58] 0 (-1)) (Int.toNat (w64 ((((spP (cutA x0 [47]) [58] 0 (-1)).length : Nat) : Int) - (1 : Int)))) (dflt .str)) 65535), (cutB x0 [47])⟩) then (bif (!(prtV ⟨(List.getD (spP (cutA x0 [47]) [58] 0 (-1)) (Int.toNat 0) (dflt .str)), (-1), (pwholeV (List.getD (spP (cutA x0 [47]) [58] 0 (-1)) (Int.toNat (w64 ((((spP (cutA x0 [47]) [58] 0 (-1)).length : Nat) : Int) - (1 : Int)))) (dflt .str)) 65535), (cutB x0 [47])⟩)) then some [⟨.api_Port, (⟨[], 0, 0, []⟩ : Port)⟩, ⟨.api_Errno, (3 : Int)⟩] else some [⟨.api_Port, (⟨(List.getD (spP (cutA x0 [47]) [58] 0 (-1)) (Int.toNat 0) (dflt .str)), (-1), (pwholeV (List.getD (spP (cutA x0 [47]) [58] 0 (-1)) (Int.toNat (w64 ((((spP (cutA x0 [47]) [58] 0 (-1)).length : Nat) : Int) - (1 : Int)))) (dflt .str)) 65535), (cutB x0 [47])⟩ : Port)⟩, ⟨.api_Errno, (0 : Int)⟩]) else none) else (bif (okPR ⟨(List.getD (spP (cutA x0 [47]) [58] 0 (-1)) (Int.toNat 0) (dflt .str)), (pwholeV (List.getD (spP (cutA x0 [47]) [58] 0 (-1)) (Int.toNat 1) (dflt .str)) 65535), (pwholeV (List.getD (spP (cutA x0 [47]) [58] 0 (-1)) (Int.toNat (w64 ((((spP (cutA x0 [47]) [58] 0 (-1)).length : Nat) : Int) - (1 : Int)))) (dflt .str)) 65535), (cutB x0 [47])⟩) then (bif (!(prtV ⟨(List.getD (spP (cutA x0 [47]) [58] 0 (-1)) (Int.toNat 0) (dflt .str)), (pwholeV (List.getD (spP (cutA x0 [47]) [58] 0 (-1)) (Int.toNat 1) (dflt .str)) 65535), (pwholeV (List.getD (spP (cutA x0 [47]) [58] 0 (-1)) (Int.toNat (w64 ((((spP (cutA x0 [47]) [58] 0 (-1)).length : Nat) : Int) - (1 : Int)))) (dflt .str)) 65535), (cutB x0 [47])⟩)) then some [⟨.api_Port, (⟨[], 0, 0, []⟩ : Port)⟩, ⟨.api_Errno, (3 : Int)⟩] else some [⟨.api_Port, (⟨(List.getD (spP (cutA x0 [47]) [58] 0 (-1)) (Int.toNat 0) (dflt .str)), (pwholeV (List.getD (spP (cutA x0 [47]) [58] 0 (-1)) (Int.toNat 1) (dflt .str)) 65535), (pwholeV (List.getD (spP (cutA x0 [47]) [58] 0 (-1)) (Int.toNat (w64 ((((spP (cutA x0 [47]) [58] 0 (-1)).length : Nat) : Int) - (1 : Int)))) (dflt .str)) 65535), (cutB x0 [47])⟩ : Port)⟩, ⟨.api_Errno, (0 : Int)⟩]) else none)) else none) else none) else (bif (okPR ⟨(List.getD (spP (cutA x0 [47]) [58] 0 (-1)) (Int.toNat 0) (dflt .str)), 0, (pwholeV (List.getD (spP (cutA x0 [47]) [58] 0 (-1)) (Int.toNat (w64 ((((spP (cutA x0 [47]) [58] 0 (-1)).length : Nat) : Int) - (1 : Int)))) (dflt .str)) 65535), (cutB x0 [47])⟩) then (bif (!(prtV ⟨(List.getD (spP (cutA x0 [47]) [58] 0 (-1)) (Int.toNat 0) (dflt .str)), 0, (pwholeV (List.getD (spP (cutA x0 [47]) [58] 0 (-1)) (Int.toNat (w64 ((((spP (cutA x0 [47]) [58] 0 (-1)).length : Nat) : Int) - (1 : Int)))) (dflt .str)) 65535), (cutB x0 [47])⟩)) then some [⟨.api_Port, (⟨[], 0, 0, []⟩ : Port)⟩, ⟨.api_Errno, (3 : Int)⟩] else some [⟨.api_Port, (⟨(List.getD (spP (cutA x0 [47]) [58] 0 (-1)) (Int.toNat 0) (dflt .str)), 0, (pwholeV (List.getD (spP (cutA x0 [47]) [58] 0 (-1)) (Int.toNat (w64 ((((spP (cutA x0 [47]) [58] 0 (-1)).length : Nat) : Int) - (1 : Int)))) (dflt .str)) 65535), (cutB x0 [47])⟩ : Port)⟩, ⟨.api_Errno, (0 : Int)⟩]) else none)) else none)) else none) else some [⟨.api_Port, (⟨[], 0, 0, []⟩ : Port)⟩, ⟨.api_Errno, (3 : Int)⟩])))) else none) else none) else none) else (bif (okSp x0 [58] 0 (-1)) then (bif (decide ((0 : Int) ≤ (w64 ((((spP x0 [58] 0 (-1)).length : Nat) : Int) - (1 : Int)))) && decide ((w64 ((((spP x0 [58] 0 (-1)).length : Nat) : Int) - (1 : Int))) < ((spP x0 [58] 0 (-1)).length : Nat))) then (bif (pokW (List.getD (spP x0 [58] 0 (-1)) (Int.toNat (w64 ((((spP x0 [58] 0 (-1)).length : Nat) : Int) - (1 : Int)))) (dflt .str)) 65535) then (bif (bif ((pwholeE (List.getD (spP x0 [58] 0 (-1)) (Int.toNat (w64 ((((spP x0 [58] 0 (-1)).length : Nat) : Int) - (1 : Int)))) (dflt .str)) 65535) != (0 : Int)) then true else ((pwholeV (List.getD (spP x0 [58] 0 (-1)) (Int.toNat (w64 ((((spP x0 [58] 0 (-1)).length : Nat) : Int) - (1 : Int)))) (dflt .str)) 65535) == (0 : Int))) then (bif ((((spP x0 [58] 0 (-1)).length : Nat) : Int) == (1 : Int)) then (bif (okPR ⟨[], 0, (-1), [116, 99, 112]⟩) then (bif (!(prtV ⟨[], 0, (-1), [116, 99, 112]⟩)) then some [⟨.api_Port, (⟨[], 0, 0, []⟩ : Port)⟩, ⟨.api_Errno, (3 : Int)⟩] else some [⟨.api_Port, (⟨[], 0, (-1), [116, 99, 112]⟩ : Port)⟩, ⟨.api_Errno, (0 : Int)⟩]) else none) else (bif ((((spP x0 [58] 0 (-1)).length : Nat) : Int) == (2 : Int)) then (bif (decide ((0 : Int) ≤ (0 : Int)) && decide ((0 : Int) < ((spP x0 [58] 0 (-1)).length : Nat))) then (bif (pokW (List.getD (spP x0 [58] 0 (-1)) (Int.toNat 0) (dflt .str)) 65535) then (bif (bif ((pwholeE (List.getD (spP x0 [58] 0 (-1)) (Int.toNat 0) (dflt .str)) 65535) != (0 : Int)) then true else ((pwholeV (List.getD (spP x0 [58] 0 (-1)) (Int.toNat 0) (dflt .str)) 65535) == (0 : Int))) then (bif (okPR ⟨[], (-1), (-1), [116, 99, 112]⟩) then (bif (!(prtV ⟨[], (-1), (-1), [116, 99, 112]⟩)) then some [⟨.api_Port, (⟨[], 0, 0, []⟩ : Port)⟩, ⟨.api_Errno, (3 : Int)⟩] else some [⟨.api_Port, (⟨[], (-1), (-1), [116, 99, 112]⟩ : Port)⟩, ⟨.api_Errno, (0 : Int)⟩]) else none) else (bif (okPR ⟨[], (pwholeV (List.getD (spP x0 [58] 0 (-1)) (Int.toNat 0) (dflt .str)) 65535), (-1), [116, 99, 112]⟩) then (bif (!(prtV ⟨[], (pwholeV (List.getD (spP x0 [58] 0 (-1)) (Int.toNat 0) (dflt .str)) 65535), (-1), [116, 99, 112]⟩)) then some [⟨.api_Port, (⟨[], 0, 0, []⟩ : Port)⟩, ⟨.api_Errno, (3 : Int)⟩] else some [⟨.api_Port, (⟨[], (pwholeV (List.getD (spP x0 [58] 0 (-1)) (Int.toNat 0) (dflt .str)) 65535), (-1), [116, 99, 112]⟩ : Port)⟩, ⟨.api_Errno, (0 : Int)⟩]) else none)) else none) else none) else (bif ((((spP x0 [58] 0 (-1)).length : Nat) : Int) == (3 : Int)) then (bif (decide ((0 : Int) ≤ (0 : Int)) && decide ((0 : Int) < ((spP x0 [58] 0 (-1)).length : Nat))) then (bif ((List.getD (spP x0 [58] 0 (-1)) (Int.toNat 0) (dflt .str)) == ([] : List UInt8)) then some [⟨.api_Port, (⟨[], 0, 0, []⟩ : Port)⟩, ⟨.api_Errno, (3 : Int)⟩] else (bif (decide ((0 : Int) ≤ (1 : Int)) && decide ((1 : Int) < ((spP x0 [58] 0 (-1)).length : Nat))) then (bif (!((List.getD (spP x0 [58] 0 (-1)) (Int.toNat 1) (dflt .str)) == ([] : List UInt8))) then (bif (decide ((0 : Int) ≤ (1 : Int)) && decide ((1 : Int) < ((spP x0 [58] 0 (-1)).length : Nat))) then (bif (pokW (List.getD (spP x0 [58] 0 (-1)) (Int.toNat 1) (dflt .str)) 65535) then (bif (bif ((pwholeE (List.getD (spP x0 [58] 0 (-1)) (Int.toNat 1) (dflt .str)) 65535) != (0 : Int)) then true else ((pwholeV (List.getD (spP x0 [58] 0 (-1)) (Int.toNat 1) (dflt .str)) 65535) == (0 : Int))) then (bif (okPR ⟨(List.getD (spP x0 [58] 0 (-1)) (Int.toNat 0) (dflt .str)), (-1), (-1), [116, 99, 112]⟩) then (bif (!(prtV ⟨(List.getD (spP x0 [58] 0 (-1)) (Int.toNat 0) (dflt .str)), (-1), (-1), [116, 99, 112]⟩)) then some [⟨.api_Port, (⟨[], 0, 0, []⟩ : Port)⟩, ⟨.api_Errno, (3 : Int)⟩] else some [⟨.api_Port, (⟨(List.getD (spP x0 [58] 0 (-1)) (Int.toNat 0) (dflt .str)), (-1), (-1), [116, 99, 112]⟩ : Port)⟩, ⟨.api_Errno, (0 : Int)⟩]) else none) else (bif (okPR ⟨(List.getD (spP x0 [58] 0 (-1)) (Int.toNat 0) (dflt .str)), (pwholeV (List.getD (spP x0 [58] 0 (-1)) (Int.toNat 1) (dflt .str)) 65535), (-1), [116, 99, 112]⟩) then (bif (!(prtV ⟨(List.getD (spP x0 [58] 0 (-1)) (Int.toNat 0) (dflt .str)), (pwholeV (List.getD (spP x0 [58] 0 (-1)) (Int.toNat 1) (dflt .str)) 65535), (-1), [116, 99, 112]⟩)) then some [⟨.api_Port, (⟨[], 0, 0, []⟩ : Port)⟩, ⟨.api_Errno, (3 : Int)⟩] else some [⟨.api_Port, (⟨(List.getD (spP x0 [58] 0 (-1)) (Int.toNat 0) (dflt .str)), (pwholeV (List.getD (spP x0 [58] 0 (-1)) (Int.toNat 1) (dflt .str)) 65535), (-1), [116, 99, 112]⟩ : Port)⟩, ⟨.api_Errno, (0 : Int)⟩]) else none)) else none) else none) else (bif (okPR ⟨(List.getD (spP x0 [58] 0 (-1)) (Int.toNat 0) (dflt .str)), 0, (-1), [116, 99, 112]⟩) then (bif (!(prtV ⟨(List.getD (spP x0 [58] 0 (-1)) (Int.toNat 0) (dflt .str)), 0, (-1), [116, 99, 112]⟩)) then some [⟨.api_Port, (⟨[], 0, 0, []⟩ : Port)⟩, ⟨.api_Errno, (3 : Int)⟩] else some [⟨.api_Port, (⟨(List.getD (spP x0 [58] 0 (-1)) (Int.toNat 0) (dflt .str)), 0, (-1), [116, 99, 112]⟩ : Port)⟩, ⟨.api_Errno, (0 : Int)⟩]) else none)) else none)) else none) else some [⟨.api_Port, (⟨[], 0, 0, []⟩ : Port)⟩, ⟨.api_Errno, (3 : Int)⟩]))) else (bif ((((spP x0 [58] 0 (-1)).length : Nat) : Int) == (1 : Int)) then (bif (okPR ⟨[], 0, (pwholeV (List.getD (spP x0 [58] 0 (-1)) (Int.toNat (w64 ((((spP x0 [58] 0 (-1)).length : Nat) : Int) - (1 : Int)))) (dflt .str)) 65535), [116, 99, 112]⟩) then (bif (!(prtV ⟨[], 0, (pwholeV (List.getD (spP x0 [58] 0 (-1)) (Int.toNat (w64 ((((spP x0 [58] 0 (-1)).length : Nat) : Int) - (1 : Int)))) (dflt .str)) 65535), [116, 99, 112]⟩)) then some [⟨.api_Port, (⟨[], 0, 0, []⟩ : Port)⟩, ⟨.api_Errno, (3 : Int)⟩] else some [⟨.api_Port, (⟨[], 0, (pwholeV (List.getD (spP x0 [58] 0 (-1)) (Int.toNat (w64 ((((spP x0 [58] 0 (-1)).length : Nat) : Int) - (1 : Int)))) (dflt .str)) 65535), [116, 99, 112]⟩ : Port)⟩, ⟨.api_Errno, (0 : Int)⟩]) else none) else (bif ((((spP x0 [58] 0 (-1)).length : Nat) : Int) == (2 : Int)) then (bif (decide ((0 : Int) ≤ (0 : Int)) && decide ((0 : Int) < ((spP x0 [58] 0 (-1)).length : Nat))) then (bif (pokW (List.getD (spP x0 [58] 0 (-1)) (Int.toNat 0) (dflt .str)) 65535) then (bif (bif ((pwholeE (List.getD (spP x0 [58] 0 (-1)) (Int.toNat 0) (dflt .str)) 65535) != (0 : Int)) then true else ((pwholeV (List.getD (spP x0 [58] 0 (-1)) (Int.toNat 0) (dflt .str)) 65535) == (0 : Int))) then (bif (okPR ⟨[], (-1), (pwholeV (List.getD (spP x0 [58] 0 (-1)) (Int.toNat (w64 ((((spP x0 [58] 0 (-1)).length : Nat) : Int) - (1 : Int)))) (dflt .str)) 65535), [116, 99, 112]⟩) then (bif (!(prtV ⟨[], (-1), (pwholeV (List.getD (spP x0 [58] 0 (-1)) (Int.toNat (w64 ((((spP x0 [58] 0 (-1)).length : Nat) : Int) - (1 : Int)))) (dflt .str)) 65535), [116, 99, 112]⟩)) then some [⟨.api_Port, (⟨[], 0, 0, []⟩ : Port)⟩, ⟨.api_Errno, (3 : Int)⟩] else some [⟨.api_Port, (⟨[], (-1), (pwholeV (List.getD (spP x0 [58] 0 (-1)) (Int.toNat (w64 ((((spP x0 [58] 0 (-1)).length : Nat) : Int) - (1 : Int)))) (dflt .str)) 65535), [116, 99, 112]⟩ : Port)⟩, ⟨.api_Errno, (0 : Int)⟩]) else none) else (bif (okPR ⟨[], (pwholeV (List.getD (spP x0 [58] 0 (-1)) (Int.toNat 0) (dflt .str)) 65535), (pwholeV (List.getD (spP x0 [58] 0 (-1)) (Int.toNat (w64 ((((spP x0 [58] 0 (-1)).length : Nat) : Int) - (1 : Int)))) (dflt .str)) 65535), [116, 99, 112]⟩) then (bif (!(prtV ⟨[], (pwholeV (List.getD (spP x0 [58] 0 (-1)) (Int.toNat 0) (dflt .str)) 65535), (pwholeV (List.getD (spP x0 [58] 0 (-1)) (Int.toNat (w64 ((((spP x0 [58] 0 (-1)).length : Nat) : Int) - (1 : Int)))) (dflt .str)) 65535), [116, 99, 112]⟩)) then some [⟨.api_Port, (⟨[], 0, 0, []⟩ : Port)⟩, ⟨.api_Errno, (3 : Int)⟩] else some [⟨.api_Port, (⟨[], (pwholeV (List.getD (spP x0 [58] 0 (-1)) (Int.toNat 0) (dflt .str)) 65535), (pwholeV (List.getD (spP x0 [58] 0 (-1)) (Int.toNat (w64 ((((spP x0 [58] 0 (-1)).length : Nat) : Int) - (1 : Int)))) (dflt .str)) 65535), [116, 99, 112]⟩ : Port)⟩, ⟨.api_Errno, (0 : Int)⟩]) else none)) else none) else none) else (bif ((((spP x0 [58] 0 (-1)).length : Nat) : Int) == (3 : Int)) then (bif (decide ((0 : Int) ≤ (0 : Int)) && decide ((0 : Int) < ((spP x0 [58] 0 (-1)).length : Nat))) then (bif ((List.getD (spP x0 [58] 0 (-1)) (Int.toNat 0) (dflt .str)) == ([] : List UInt8)) then some [⟨.api_Port, (⟨[], 0, 0, []⟩ : Port)⟩, ⟨.api_Errno, (3 : Int)⟩] else (bif (decide ((0 : Int) ≤ (1 : Int)) && decide ((1 : Int) < ((spP x0 [58] 0 (-1)).length : Nat))) then (bif (!((List.getD (spP x0 [58] 0 (-1)) (Int.toNat 1) (dflt .str)) == ([] : List UInt8))) then (bif (decide ((0 : Int) ≤ (1 : Int)) && decide ((1 : Int) < ((spP x0 [58] 0 (-1)).length : Nat))) then (bif (pokW (List.getD (spP x0 [58] 0 (-1)) (Int.toNat 1) (dflt .str)) 65535) then (bif (bif ((pwholeE (List.getD (spP x0 [58] 0 (-1)) (Int.toNat 1) (dflt .str)) 65535) != (0 : Int)) then true else ((pwholeV (List.getD (spP x0 [58] 0 (-1)) (Int.toNat 1) (dflt .str)) 65535) == (0 : Int))) then (bif (okPR ⟨(List.getD (spP x0 [58] 0 (-1)) (Int.toNat 0) (dflt .str)), (-1), (pwholeV (List.getD (spP x0 [58] 0 (-1)) (Int.toNat (w64 ((((spP x0 [58] 0 (-1)).length : Nat) : Int) - (1 : Int)))) (dflt .str)) 65535), [116, 99, 112]⟩) then (bif (!(prtV ⟨(List.getD (spP x0 [58] 0 (-1)) (Int.toNat 0) (dflt .str)), (-1), (pwholeV (List.getD (spP x0 [58] 0 (-1)) (Int.toNat (w64 ((((spP x0 [58] 0 (-1)).length : Nat) : Int) - (1 : Int)))) (dflt .str)) 65535), [116, 99, 112]⟩)) then some [⟨.api_Port, (⟨[], 0, 0, []⟩ : Port)⟩, ⟨.api_Errno, (3 : Int)⟩] else some [⟨.api_Port, (⟨(List.getD (spP x0 [58] 0 (-1)) (Int.toNat 0) (dflt .str)), (-1), (pwholeV (List.getD (spP x0 [58] 0 (-1)) (Int.toNat (w64 ((((spP x0 [58] 0 (-1)).length : Nat) : Int) - (1 : Int)))) (dflt .str)) 65535), [116, 99, 112]⟩ : Port)⟩, ⟨.api_Errno, (0 : Int)⟩]) else none) else (bif (okPR ⟨(List.getD (spP x0 [58] 0 (-1)) (Int.toNat 0) (dflt .str)), (pwholeV (List.getD (spP x0 [58] 0 (-1)) (Int.toNat 1) (dflt .str)) 65535), (pwholeV (List.getD (spP x0 [58] 0 (-1)) (Int.toNat (w64 ((((spP x0 [58] 0 (-1)).length : Nat) : Int) - (1 : Int)))) (dflt .str)) 65535), [116, 99, 112]⟩) then (bif (!(prtV ⟨(List.getD (spP x0 [58] 0 (-1)) (Int.toNat 0) (dflt .str)), (pwholeV (List.getD (spP x0 [58] 0 (-1)) (Int.toNat 1) (dflt .str)) 65535), (pwholeV (List.getD (spP x0 [58] 0 (-1)) (Int.toNat (w64 ((((spP x0 [58] 0 (-1)).length : Nat) : Int) - (1 : Int)))) (dflt .str)) 65535), [116, 99, 112]⟩)) then some [⟨.api_Port, (⟨[], 0, 0, []⟩ : Port)⟩, ⟨.api_Errno, (3 : Int)⟩] else some [⟨.api_Port, (⟨(List.getD (spP x0 [58] 0 (-1)) (Int.toNat 0) (dflt .str)), (pwholeV (List.getD (spP x0 [58] 0 (-1)) (Int.toNat 1) (dflt .str)) 65535), (pwholeV (List.getD (spP x0 [58] 0 (-1)) (Int.toNat (w64 ((((spP x0 [58] 0 (-1)).length : Nat) : Int) - (1 : Int)))) (dflt .str)) 65535), [116, 99, 112]⟩ : Port)⟩, ⟨.api_Errno, (0 : Int)⟩]) else none)) else none) else none) else (bif (okPR ⟨(List.getD (spP x0 [58] 0 (-1)) (Int.toNat 0) (dflt .str)), 0, (pwholeV (List.getD (spP x0 [58] 0 (-1)) (Int.toNat (w64 ((((spP x0 [58] 0 (-1)).length : Nat) : Int) - (1 : Int)))) (dflt .str)) 65535), [116, 99, 112]⟩) then (bif (!(prtV ⟨(List.getD (spP x0 [58] 0 (-1)) (Int.toNat 0) (dflt .str)), 0, (pwholeV (List.getD (spP x0 [58] 0 (-1)) (Int.toNat (w64 ((((spP x0 [58] 0 (-1)).length : Nat) : Int) - (1 : Int)))) (dflt .str)) 65535), [116, 99, 112]⟩)) then some [⟨.api_Port, (⟨[], 0, 0, []⟩ : Port)⟩, ⟨.api_Errno, (3 : Int)⟩] else some [⟨.api_Port, (⟨(List.getD (spP x0 [58] 0 (-1)) (Int.toNat 0) (dflt .str)), 0, (pwholeV (List.getD (spP x0 [58] 0 (-1)) (Int.toNat (w64 ((((spP x0 [58] 0 (-1)).length : Nat) : Int) - (1 : Int)))) (dflt .str)) 65535), [116, 99, 112]⟩ : Port)⟩, ⟨.api_Errno, (0 : Int)⟩]) else none)) else none)) else none) else some [⟨.api_Port, (⟨[], 0, 0, []⟩ : Port)⟩, ⟨.api_Errno, (3 : Int)⟩])))) else none) else none) else none)) else none
theorem pparse_e (G : Nat → ASt E → Option (List (TV E))) (x0 : List UInt8) : runE pparse_O pparse_H G Tryz.f16 [⟨.str, x0⟩] = pparse_t G x0 := by kernel_rfl
theorem pparse_f : Tryz.prog.funcs[16]? = some Tryz.f16 := by kernel_rfl
theorem pparse_n : (Tryz.f16.name == "runtime.NumGoroutine") = false := by kernel_rfl
theorem pparse_b : Tryz.f16.body.isNone = false := by kernel_rfl
theorem pparse_hO : OracleOk E pparse_O := withI_ok (orac_ok (.cons dcount_ok (.cons pright_ok (.cons scut_ok .nil))) (.cons gsplit_rok .nil) .nil .nil) mix (.cons (f := 50) (fn := Tryz.f50) (by kernel_rfl) (by kernel_rfl) (by kernel_rfl) (.cons (f := 51) (fn := Tryz.f51) (by kernel_rfl) (by kernel_rfl) (by kernel_rfl) .nil))
theorem pparse_ok_of (h : ∀ (x0 : List UInt8), okPP x0 = true → pparse_t (Gr E Tryz.f16 [⟨.api_Port, parP x0⟩, ⟨.api_Errno, parE x0⟩]) x0 = some [⟨.api_Port, parP x0⟩, ⟨.api_Errno, parE x0⟩]) : FnOk E pparse_id pparse_W := fn12_ok pparse_hO mix pparse_f pparse_n pparse_b (fun x0 hk => (pparse_e _ x0).trans (h x0 hk))
theorem pparse_ok : FnOk E pparse_id pparse_W := pparse_ok_of fun s hk => by
  have : s = exS := by simpa [okPP] using hk
  subst this
  have e : pparse_t (Gr E Tryz.f16 [⟨.api_Port, exP⟩, ⟨.api_Errno, (0 : Int)⟩]) exS = some [⟨.api_Port, exP⟩, ⟨.api_Errno, (0 : Int)⟩] := by kernel_rfl
  exact e
def okPT (p : Port) : Bool := (p.host == []) && (p.in_ == 80) && (p.out == 8080) && (p.proto == [116, 99, 112])
def ptxV (_ : Port) : List UInt8 := exS
noncomputable def ptext_W : FnW E := fn1 (E := E) .api_Port .str okPT ptxV
def ptext_id : FuncId := 19
noncomputable def ptext_O : Oracle E := orac [(53, dgtext_W), (48, pright_W)] [] [] []
noncomputable def ptext_H : Hint E := Hint.mk [] [] [] [] []
def ptext_a0 : List UInt8 := [47, 117, 100, 112]
noncomputable def ptext_t (_G : Nat → ASt E → Option (List (TV E))) (x0 : Port) : Option (List (TV E)) :=
  bif (okPR x0) then (bif (!(prtV x0)) then some [⟨.str, ([] : List UInt8)⟩] else (bif (decide ((0 : Int) < x0.out)) then (bif (okI x0.out) then (bif (!(x0.host == ([] : List UInt8))) then (bif (decide (x0.host.length + ([58] : List UInt8).length ≤ maxStr)) then (bif (decide ((x0.host ++ ([58] : List UInt8)).length + (textV x0.out).length ≤ maxStr)) then (bif (!(((x0.host ++ ([58] : List UInt8)) ++ (textV x0.out)) == ([] : List UInt8))) then (bif (decide (((x0.host ++ ([58] : List UInt8)) ++ (textV x0.out)).length + ([58] : List UInt8).length ≤ maxStr)) then (bif (okI x0.in_) then (bif (decide ((((x0.host ++ ([58] : List UInt8)) ++ (textV x0.out)) ++ ([58] : List UInt8)).length + (textV x0.in_).length ≤ maxStr)) then (bif (x0.proto == ([117, 100, 112] : List UInt8)) then (bif (decide (((((x0.host ++ ([58] : List UInt8)) ++ (textV x0.out)) ++ ([58] : List UInt8)) ++ (textV x0.in_)).length + ptext_a0.length ≤ maxStr)) then some [⟨.str, (((((x0.host ++ ([58] : List UInt8)) ++ (textV x0.out)) ++ ([58] : List UInt8)) ++ (textV x0.in_)) ++ ptext_a0)⟩] else none) else some [⟨.str, ((((x0.host ++ ([58] : List UInt8)) ++ (textV x0.out)) ++ ([58] : List UInt8)) ++ (textV x0.in_))⟩]) else none) else none) else none) else (bif (okI x0.in_) then (bif (decide (((x0.host ++ ([58] : List UInt8)) ++ (textV x0.out)).length + (textV x0.in_).length ≤ maxStr)) then (bif (x0.proto == ([117, 100, 112] : List UInt8)) then (bif (decide ((((x0.host ++ ([58] : List UInt8)) ++ (textV x0.out)) ++ (textV x0.in_)).length + ptext_a0.length ≤ maxStr)) then some [⟨.str, ((((x0.host ++ ([58] : List UInt8)) ++ (textV x0.out)) ++ (textV x0.in_)) ++ ptext_a0)⟩] else none) else some [⟨.str, (((x0.host ++ ([58] : List UInt8)) ++ (textV x0.out)) ++ (textV x0.in_))⟩]) else none) else none)) else none) else none) else (bif (!((textV x0.out) == ([] : List UInt8))) then (bif (decide ((textV x0.out).length + ([58] : List UInt8).length ≤ maxStr)) then (bif (okI x0.in_) then (bif (decide (((textV x0.out) ++ ([58] : List UInt8)).length + (textV x0.in_).length ≤ maxStr)) then (bif (x0.proto == ([117, 100, 112] : List UInt8)) then (bif (decide ((((textV x0.out) ++ ([58] : List UInt8)) ++ (textV x0.in_)).length + ptext_a0.length ≤ maxStr)) then some [⟨.str, ((((textV x0.out) ++ ([58] : List UInt8)) ++ (textV x0.in_)) ++ ptext_a0)⟩] else none) else some [⟨.str, (((textV x0.out) ++ ([58] : List UInt8)) ++ (textV x0.in_))⟩]) else none) else none) else none) else (bif (okI x0.in_) then (bif (decide ((textV x0.out).length + (textV x0.in_).length ≤ maxStr)) then (bif (x0.proto == ([117, 100, 112] : List UInt8)) then (bif (decide (((textV x0.out) ++ (textV x0.in_)).length + ptext_a0.length ≤ maxStr)) then some [⟨.str, (((textV x0.out) ++ (textV x0.in_)) ++ ptext_a0)⟩] else none) else some [⟨.str, ((textV x0.out) ++ (textV x0.in_))⟩]) else none) else none))) else none) else (bif (!(x0.host == ([] : List UInt8))) then (bif (decide (x0.host.length + ([58] : List UInt8).length ≤ maxStr)) then (bif (decide ((x0.host ++ ([58] : List UInt8)).length + ([] : List UInt8).length ≤ maxStr)) then (bif (!(((x0.host ++ ([58] : List UInt8)) ++ ([] : List UInt8)) == ([] : List UInt8))) then (bif (decide (((x0.host ++ ([58] : List UInt8)) ++ ([] : List UInt8)).length + ([58] : List UInt8).length ≤ maxStr)) then (bif (okI x0.in_) then (bif (decide ((((x0.host ++ ([58] : List UInt8)) ++ ([] : List UInt8)) ++ ([58] : List UInt8)).length + (textV x0.in_).length ≤ maxStr)) then (bif (x0.proto == ([117, 100, 112] : List UInt8)) then (bif (decide (((((x0.host ++ ([58] : List UInt8)) ++ ([] : List UInt8)) ++ ([58] : List UInt8)) ++ (textV x0.in_)).length + ptext_a0.length ≤ maxStr)) then some [⟨.str, (((((x0.host ++ ([58] : List UInt8)) ++ ([] : List UInt8)) ++ ([58] : List UInt8)) ++ (textV x0.in_)) ++ ptext_a0)⟩] else none) else some [⟨.str, ((((x0.host ++ ([58] : List UInt8)) ++ ([] : List UInt8)) ++ ([58] : List UInt8)) ++ (textV x0.in_))⟩]) else none) else none) else none) else (bif (okI x0.in_) then (bif (decide (((x0.host ++ ([58] : List UInt8)) ++ ([] : List UInt8)).length + (textV x0.in_).length ≤ maxStr)) then (bif (x0.proto == ([117, 100, 112] : List UInt8)) then (bif (decide ((((x0.host ++ ([58] : List UInt8)) ++ ([] : List UInt8)) ++ (textV x0.in_)).length + ptext_a0.length ≤ maxStr)) then some [⟨.str, ((((x0.host ++ ([58] : List UInt8)) ++ ([] : List UInt8)) ++ (textV x0.in_)) ++ ptext_a0)⟩] else none) else some [⟨.str, (((x0.host ++ ([58] : List UInt8)) ++ ([] : List UInt8)) ++ (textV x0.in_))⟩]) else none) else none)) else none) else none) else (bif (okI x0.in_) then (bif (decide (([] : List UInt8).length + (textV x0.in_).length ≤ maxStr)) then (bif (x0.proto == ([117, 100, 112] : List UInt8)) then (bif (decide ((([] : List UInt8) ++ (textV x0.in_)).length + ptext_a0.length ≤ maxStr)) then some [⟨.str, ((([] : List UInt8) ++ (textV x0.in_)) ++ ptext_a0)⟩] else none) else some [⟨.str, (([] : List UInt8) ++ (textV x0.in_))⟩]) else none) else none)))) else none
theorem ptext_e (G : Nat → ASt E → Option (List (TV E))) (x0 : Port) : runE ptext_O ptext_H G Tryz.f19 [⟨.api_Port, x0⟩] = ptext_t G x0 := by kernel_rfl
theorem ptext_f : Tryz.prog.funcs[19]? = some Tryz.f19 := by kernel_rfl
theorem ptext_n : (Tryz.f19.name == "runtime.NumGoroutine") = false := by kernel_rfl
theorem ptext_b : Tryz.f19.body.isNone = false := by kernel_rfl
theorem ptext_hO : OracleOk E ptext_O := orac_ok (.cons dgtext_ok (.cons pright_ok .nil)) .nil .nil .nil
theorem ptext_ok_of (h : ∀ (x0 : Port), okPT x0 = true → ptext_t (Gr E Tryz.f19 [⟨.str, ptxV x0⟩]) x0 = some [⟨.str, ptxV x0⟩]) : FnOk E ptext_id ptext_W := fn1_ok ptext_hO mix ptext_f ptext_n ptext_b (fun x0 hk => (ptext_e _ x0).trans (h x0 hk))
theorem ptext_ok : FnOk E ptext_id ptext_W := ptext_ok_of fun p hk => by
  simp only [okPT, Bool.and_eq_true, beq_iff_eq] at hk
  obtain ⟨⟨⟨h1, h2⟩, h3⟩, h4⟩ := hk
  have : p = exP := by cases p; simp_all [exP]
  subst this
  have e : ptext_t (Gr E Tryz.f19 [⟨.str, exS⟩]) exP = some [⟨.str, exS⟩] := by kernel_rfl
  exact e
def exT : Node := ⟨1, exS, [], []⟩
def isT (n : Node) : Bool := (n.kind == 1) && (n.text == exS) && (n.keys == []) && decide (n.kids.length = 0)
theorem isT_eq {n : Node} (h : isT n = true) : n = exT := by
  simp only [isT, Bool.and_eq_true, beq_iff_eq, decide_eq_true_eq] at h
  obtain ⟨⟨⟨h1, h2⟩, h3⟩, h4⟩ := h
  rw [← node_eta n, h1, h2, h3, List.eq_nil_of_length_eq_zero h4]
  rfl
def okLg (n : Node) : Bool := isT n
def lgP (_ : Node) : Port := ⟨[], 0, 0, [116, 99, 112]⟩
def lgB (_ : Node) : Bool := false
noncomputable def nlong_W : FnW E := fn12 (E := E) .api_Node .api_Port .bool okLg lgP lgB
def nlong_id : FuncId := 15
noncomputable def nlong_O : Oracle E := withI (orac [(58, dcount_W), (71, nget_W), (48, pright_W)] [] [] []) [(44, Tryz.f44), (45, Tryz.f45), (46, Tryz.f46), (47, Tryz.f47)]
noncomputable def nlong_H : Hint E := Hint.mk [] [] [] [] []
def nlong_a0 : List UInt8 := [116, 97, 114, 103, 101, 116]
def nlong_a1 : List UInt8 := [112, 117, 98, 108, 105, 115, 104, 101, 100]
def nlong_a2 : List UInt8 := [104, 111, 115, 116, 95, 105, 112]
def nlong_a3 : List UInt8 := [112, 114, 111, 116, 111, 99, 111, 108]
def nlong_n4 (x0 : Node) : Node := ⟨x0.kind, x0.text, x0.keys, x0.kids⟩
noncomputable def nlong_t (_G : Nat → ASt E → Option (List (TV E))) (x0 : Node) : Option (List (TV E)) :=
  bif ((fun n _ => fit n) (nlong_n4 x0) nlong_a0) then (bif (!(getB (nlong_n4 x0) nlong_a0)) then (bif (pokW [48] 65536) then (bif ((fun n _ => fit n) (nlong_n4 x0) nlong_a0) then (bif ((fun n _ => fit n) (nlong_n4 x0) nlong_a1) then (bif (!(getB (nlong_n4 x0) nlong_a1)) then (bif (pokW [48] 65536) then (bif ((fun n _ => fit n) (nlong_n4 x0) nlong_a1) then (bif ((fun n _ => fit n) (nlong_n4 x0) nlong_a2) then (bif (!(getB (nlong_n4 x0) nlong_a2)) then (bif ((fun n _ => fit n) (nlong_n4 x0) nlong_a3) then (bif (!(getB (nlong_n4 x0) nlong_a3)) then (bif ((okPR ⟨[], (pwholeV [48] 65536), (pwholeV [48] 65536), [116, 99, 112]⟩) || !(bif (!(bif (bif (bif (bif (x0.kind != (3 : Int)) then true else ((pwholeE [48] 65536) != (0 : Int))) then true else (bif (getB (nlong_n4 x0) nlong_a0) then ((pwholeV [48] 65536) == (0 : Int)) else false)) then true else ((pwholeE [48] 65536) != (0 : Int))) then true else (bif (getB (nlong_n4 x0) nlong_a1) then ((pwholeV [48] 65536) == (0 : Int)) else false))) then ((x0.keys.length : Int) == (0 : Int)) else false)) then some [⟨.api_Port, (⟨[], (pwholeV [48] 65536), (pwholeV [48] 65536), [116, 99, 112]⟩ : Port)⟩, ⟨.bool, (bif (bif (!(bif (bif (bif (bif (x0.kind != (3 : Int)) then true else ((pwholeE [48] 65536) != (0 : Int))) then true else (bif (getB (nlong_n4 x0) nlong_a0) then ((pwholeV [48] 65536) == (0 : Int)) else false)) then true else ((pwholeE [48] 65536) != (0 : Int))) then true else (bif (getB (nlong_n4 x0) nlong_a1) then ((pwholeV [48] 65536) == (0 : Int)) else false))) then ((x0.keys.length : Int) == (0 : Int)) else false) then (prtV ⟨[], (pwholeV [48] 65536), (pwholeV [48] 65536), [116, 99, 112]⟩) else false)⟩] else none) else (bif ((okPR ⟨[], (pwholeV [48] 65536), (pwholeV [48] 65536), (getV (nlong_n4 x0) nlong_a3).text⟩) || !(bif (!(bif (bif (bif (bif (bif (x0.kind != (3 : Int)) then true else ((pwholeE [48] 65536) != (0 : Int))) then true else (bif (getB (nlong_n4 x0) nlong_a0) then ((pwholeV [48] 65536) == (0 : Int)) else false)) then true else ((pwholeE [48] 65536) != (0 : Int))) then true else (bif (getB (nlong_n4 x0) nlong_a1) then ((pwholeV [48] 65536) == (0 : Int)) else false)) then true else ((getV (nlong_n4 x0) nlong_a3).kind != (1 : Int)))) then ((w64 ((x0.keys.length : Int) - (1 : Int))) == (0 : Int)) else false)) then some [⟨.api_Port, (⟨[], (pwholeV [48] 65536), (pwholeV [48] 65536), (getV (nlong_n4 x0) nlong_a3).text⟩ : Port)⟩, ⟨.bool, (bif (bif (!(bif (bif (bif (bif (bif (x0.kind != (3 : Int)) then true else ((pwholeE [48] 65536) != (0 : Int))) then true else (bif (getB (nlong_n4 x0) nlong_a0) then ((pwholeV [48] 65536) == (0 : Int)) else false)) then true else ((pwholeE [48] 65536) != (0 : Int))) then true else (bif (getB (nlong_n4 x0) nlong_a1) then ((pwholeV [48] 65536) == (0 : Int)) else false)) then true else ((getV (nlong_n4 x0) nlong_a3).kind != (1 : Int)))) then ((w64 ((x0.keys.length : Int) - (1 : Int))) == (0 : Int)) else false) then (prtV ⟨[], (pwholeV [48] 65536), (pwholeV [48] 65536), (getV (nlong_n4 x0) nlong_a3).text⟩) else false)⟩] else none)) else none) else (bif ((fun n _ => fit n) (nlong_n4 x0) nlong_a3) then (bif (!(getB (nlong_n4 x0) nlong_a3)) then (bif ((okPR ⟨(getV (nlong_n4 x0) nlong_a2).text, (pwholeV [48] 65536), (pwholeV [48] 65536), [116, 99, 112]⟩) || !(bif (!(bif (bif (bif (bif (bif (x0.kind != (3 : Int)) then true else ((pwholeE [48] 65536) != (0 : Int))) then true else (bif (getB (nlong_n4 x0) nlong_a0) then ((pwholeV [48] 65536) == (0 : Int)) else false)) then true else ((pwholeE [48] 65536) != (0 : Int))) then true else (bif (getB (nlong_n4 x0) nlong_a1) then ((pwholeV [48] 65536) == (0 : Int)) else false)) then true else ((getV (nlong_n4 x0) nlong_a2).kind != (1 : Int)))) then ((w64 ((x0.keys.length : Int) - (1 : Int))) == (0 : Int)) else false)) then some [⟨.api_Port, (⟨(getV (nlong_n4 x0) nlong_a2).text, (pwholeV [48] 65536), (pwholeV [48] 65536), [116, 99, 112]⟩ : Port)⟩, ⟨.bool, (bif (bif (!(bif (bif (bif (bif (bif (x0.kind != (3 : Int)) then true else ((pwholeE [48] 65536) != (0 : Int))) then true else (bif (getB (nlong_n4 x0) nlong_a0) then ((pwholeV [48] 65536) == (0 : Int)) else false)) then true else ((pwholeE [48] 65536) != (0 : Int))) then true else (bif (getB (nlong_n4 x0) nlong_a1) then ((pwholeV [48] 65536) == (0 : Int)) else false)) then true else ((getV (nlong_n4 x0) nlong_a2).kind != (1 : Int)))) then ((w64 ((x0.keys.length : Int) - (1 : Int))) == (0 : Int)) else false) then (prtV ⟨(getV (nlong_n4 x0) nlong_a2).text, (pwholeV [48] 65536), (pwholeV [48] 65536), [116, 99, 112]⟩) else false)⟩] else none) else (bif ((okPR ⟨(getV (nlong_n4 x0) nlong_a2).text, (pwholeV [48] 65536), (pwholeV [48] 65536), (getV (nlong_n4 x0) nlong_a3).text⟩) || !(bif (!(bif (bif (bif (bif (bif (bif (x0.kind != (3 : Int)) then true else ((pwholeE [48] 65536) != (0 : Int))) then true else (bif (getB (nlong_n4 x0) nlong_a0) then ((pwholeV [48] 65536) == (0 : Int)) else false)) then true else ((pwholeE [48] 65536) != (0 : Int))) then true else (bif (getB (nlong_n4 x0) nlong_a1) then ((pwholeV [48] 65536) == (0 : Int)) else false)) then true else ((getV (nlong_n4 x0) nlong_a2).kind != (1 : Int))) then true else ((getV (nlong_n4 x0) nlong_a3).kind != (1 : Int)))) then ((w64 ((w64 ((x0.keys.length : Int) - (1 : Int))) - (1 : Int))) == (0 : Int)) else false)) then some [⟨.api_Port, (⟨(getV (nlong_n4 x0) nlong_a2).text, (pwholeV [48] 65536), (pwholeV [48] 65536), (getV (nlong_n4 x0) nlong_a3).text⟩ : Port)⟩, ⟨.bool, (bif (bif (!(bif (bif (bif (bif (bif (bif (x0.kind != (3 : Int)) then true else ((pwholeE [48] 65536) != (0 : Int))) then true else (bif (getB (nlong_n4 x0) nlong_a0) then ((pwholeV [48] 65536) == (0 : Int)) else false)) then true else ((pwholeE [48] 65536) != (0 : Int))) then true else (bif (getB (nlong_n4 x0) nlong_a1) then ((pwholeV [48] 65536) == (0 : Int)) else false)) then true else ((getV (nlong_n4 x0) nlong_a2).kind != (1 : Int))) then true else ((getV (nlong_n4 x0) nlong_a3).kind != (1 : Int)))) then ((w64 ((w64 ((x0.keys.length : Int) - (1 : Int))) - (1 : Int))) == (0 : Int)) else false) then (prtV ⟨(getV (nlong_n4 x0) nlong_a2).text, (pwholeV [48] 65536), (pwholeV [48] 65536), (getV (nlong_n4 x0) nlong_a3).text⟩) else false)⟩] else none)) else none)) else none) else none) else none) else (bif (pokW ((getV (nlong_n4 x0) nlong_a1).text) 65536) then (bif ((fun n _ => fit n) (nlong_n4 x0) nlong_a1) then (bif ((fun n _ => fit n) (nlong_n4 x0) nlong_a2) then (bif (!(getB (nlong_n4 x0) nlong_a2)) then (bif ((fun n _ => fit n) (nlong_n4 x0) nlong_a3) then (bif (!(getB (nlong_n4 x0) nlong_a3)) then (bif ((okPR ⟨[], (pwholeV ((getV (nlong_n4 x0) nlong_a1).text) 65536), (pwholeV [48] 65536), [116, 99, 112]⟩) || !(bif (!(bif (bif (bif (bif (bif (x0.kind != (3 : Int)) then true else ((pwholeE [48] 65536) != (0 : Int))) then true else (bif (getB (nlong_n4 x0) nlong_a0) then ((pwholeV [48] 65536) == (0 : Int)) else false)) then true else ((getV (nlong_n4 x0) nlong_a1).kind != (1 : Int))) then true else ((pwholeE ((getV (nlong_n4 x0) nlong_a1).text) 65536) != (0 : Int))) then true else (bif (getB (nlong_n4 x0) nlong_a1) then ((pwholeV ((getV (nlong_n4 x0) nlong_a1).text) 65536) == (0 : Int)) else false))) then ((w64 ((x0.keys.length : Int) - (1 : Int))) == (0 : Int)) else false)) then some [⟨.api_Port, (⟨[], (pwholeV ((getV (nlong_n4 x0) nlong_a1).text) 65536), (pwholeV [48] 65536), [116, 99, 112]⟩ : Port)⟩, ⟨.bool, (bif (bif (!(bif (bif (bif (bif (bif (x0.kind != (3 : Int)) then true else ((pwholeE [48] 65536) != (0 : Int))) then true else (bif (getB (nlong_n4 x0) nlong_a0) then ((pwholeV [48] 65536) == (0 : Int)) else false)) then true else ((getV (nlong_n4 x0) nlong_a1).kind != (1 : Int))) then true else ((pwholeE ((getV (nlong_n4 x0) nlong_a1).text) 65536) != (0 : Int))) then true else (bif (getB (nlong_n4 x0) nlong_a1) then ((pwholeV ((getV (nlong_n4 x0) nlong_a1).text) 65536) == (0 : Int)) else false))) then ((w64 ((x0.keys.length : Int) - (1 : Int))) == (0 : Int)) else false) then (prtV ⟨[], (pwholeV ((getV (nlong_n4 x0) nlong_a1).text) 65536), (pwholeV [48] 65536), [116, 99, 112]⟩) else false)⟩] else none) else (bif ((okPR ⟨[], (pwholeV ((getV (nlong_n4 x0) nlong_a1).text) 65536), (pwholeV [48] 65536), (getV (nlong_n4 x0) nlong_a3).text⟩) || !(bif (!(bif (bif (bif (bif (bif (bif (x0.kind != (3 : Int)) then true else ((pwholeE [48] 65536) != (0 : Int))) then true else (bif (getB (nlong_n4 x0) nlong_a0) then ((pwholeV [48] 65536) == (0 : Int)) else false)) then true else ((getV (nlong_n4 x0) nlong_a1).kind != (1 : Int))) then true else ((pwholeE ((getV (nlong_n4 x0) nlong_a1).text) 65536) != (0 : Int))) then true else (bif (getB (nlong_n4 x0) nlong_a1) then ((pwholeV ((getV (nlong_n4 x0) nlong_a1).text) 65536) == (0 : Int)) else false)) then true else ((getV (nlong_n4 x0) nlong_a3).kind != (1 : Int)))) then ((w64 ((w64 ((x0.keys.length : Int) - (1 : Int))) - (1 : Int))) == (0 : Int)) else false)) then some [⟨.api_Port, (⟨[], (pwholeV ((getV (nlong_n4 x0) nlong_a1).text) 65536), (pwholeV [48] 65536), (getV (nlong_n4 x0) nlong_a3).text⟩ : Port)⟩, ⟨.bool, (bif (bif (!(bif (bif (bif (bif (bif (bif (x0.kind != (3 : Int)) then true else ((pwholeE [48] 65536) != (0 : Int))) then true else (bif (getB (nlong_n4 x0) nlong_a0) then ((pwholeV [48] 65536) == (0 : Int)) else false)) then true else ((getV (nlong_n4 x0) nlong_a1).kind != (1 : Int))) then true else ((pwholeE ((getV (nlong_n4 x0) nlong_a1).text) 65536) != (0 : Int))) then true else (bif (getB (nlong_n4 x0) nlong_a1) then ((pwholeV ((getV (nlong_n4 x0) nlong_a1).text) 65536) == (0 : Int)) else false)) then true else ((getV (nlong_n4 x0) nlong_a3).kind != (1 : Int)))) then ((w64 ((w64 ((x0.keys.length : Int) - (1 : Int))) - (1 : Int))) == (0 : Int)) else false) then (prtV ⟨[], (pwholeV ((getV (nlong_n4 x0) nlong_a1).text) 65536), (pwholeV [48] 65536), (getV (nlong_n4 x0) nlong_a3).text⟩) else false)⟩] else none)) else none) else (bif ((fun n _ => fit n) (nlong_n4 x0) nlong_a3) then (bif (!(getB (nlong_n4 x0) nlong_a3)) then (bif ((okPR ⟨(getV (nlong_n4 x0) nlong_a2).text, (pwholeV ((getV (nlong_n4 x0) nlong_a1).text) 65536), (pwholeV [48] 65536), [116, 99, 112]⟩) || !(bif (!(bif (bif (bif (bif (bif (bif (x0.kind != (3 : Int)) then true else ((pwholeE [48] 65536) != (0 : Int))) then true else (bif (getB (nlong_n4 x0) nlong_a0) then ((pwholeV [48] 65536) == (0 : Int)) else false)) then true else ((getV (nlong_n4 x0) nlong_a1).kind != (1 : Int))) then true else ((pwholeE ((getV (nlong_n4 x0) nlong_a1).text) 65536) != (0 : Int))) then true else (bif (getB (nlong_n4 x0) nlong_a1) then ((pwholeV ((getV (nlong_n4 x0) nlong_a1).text) 65536) == (0 : Int)) else false)) then true else ((getV (nlong_n4 x0) nlong_a2).kind != (1 : Int)))) then ((w64 ((w64 ((x0.keys.length : Int) - (1 : Int))) - (1 : Int))) == (0 : Int)) else false)) then some [⟨.api_Port, (⟨(getV (nlong_n4 x0) nlong_a2).text, (pwholeV ((getV (nlong_n4 x0) nlong_a1).text) 65536), (pwholeV [48] 65536), [116, 99, 112]⟩ : Port)⟩, ⟨.bool, (bif (bif (!(bif (bif (bif (bif (bif (bif (x0.kind != (3 : Int)) then true else ((pwholeE [48] 65536) != (0 : Int))) then true else (bif (getB (nlong_n4 x0) nlong_a0) then ((pwholeV [48] 65536) == (0 : Int)) else false)) then true else ((getV (nlong_n4 x0) nlong_a1).kind != (1 : Int))) then true else ((pwholeE ((getV (nlong_n4 x0) nlong_a1).text) 65536) != (0 : Int))) then true else (bif (getB (nlong_n4 x0) nlong_a1) then ((pwholeV ((getV (nlong_n4 x0) nlong_a1).text) 65536) == (0 : Int)) else false)) then true else ((getV (nlong_n4 x0) nlong_a2).kind != (1 : Int)))) then ((w64 ((w64 ((x0.keys.length : Int) - (1 : Int))) - (1 : Int))) == (0 : Int)) else false) then (prtV ⟨(getV (nlong_n4 x0) nlong_a2).text, (pwholeV ((getV (nlong_n4 x0) nlong_a1).text) 65536), (pwholeV [48] 65536), [116, 99, 112]⟩) else false)⟩] else none) else (bif ((okPR ⟨(getV (nlong_n4 x0) nlong_a2).text, (pwholeV ((getV (nlong_n4 x0) nlong_a1).text) 65536), (pwholeV [48] 65536), (getV (nlong_n4 x0) nlong_a3).text⟩) || !(bif (!(bif (bif (bif (bif (bif (bif (bif (x0.kind != (3 : Int)) then true else ((pwholeE [48] 65536) != (0 : Int))) then true else (bif (getB (nlong_n4 x0) nlong_a0) then ((pwholeV [48] 65536) == (0 : Int)) else false)) then true else ((getV (nlong_n4 x0) nlong_a1).kind != (1 : Int))) then true else ((pwholeE ((getV (nlong_n4 x0) nlong_a1).text) 65536) != (0 : Int))) then true else (bif (getB (nlong_n4 x0) nlong_a1) then ((pwholeV ((getV (nlong_n4 x0) nlong_a1).text) 65536) == (0 : Int)) else false)) then true else ((getV (nlong_n4 x0) nlong_a2).kind != (1 : Int))) then true else ((getV (nlong_n4 x0) nlong_a3).kind != (1 : Int)))) then ((w64 ((w64 ((w64 ((x0.keys.length : Int) - (1 : Int))) - (1 : Int))) - (1 : Int))) == (0 : Int)) else false)) then some [⟨.api_Port, (⟨(getV (nlong_n4 x0) nlong_a2).text, (pwholeV ((getV (nlong_n4 x0) nlong_a1).text) 65536), (pwholeV [48] 65536), (getV (nlong_n4 x0) nlong_a3).text⟩ : Port)⟩, ⟨.bool, (bif (bif (!(bif (bif (bif (bif (bif (bif (bif (x0.kind != (3 : Int)) then true else ((pwholeE [48] 65536) != (0 : Int))) then true else (bif (getB (nlong_n4 x0) nlong_a0) then ((pwholeV [48] 65536) == (0 : Int)) else false)) then true else ((getV (nlong_n4 x0) nlong_a1).kind != (1 : Int))) then true else ((pwholeE ((getV (nlong_n4 x0) nlong_a1).text) 65536) != (0 : Int))) then true else (bif (getB (nlong_n4 x0) nlong_a1) then ((pwholeV ((getV (nlong_n4 x0) nlong_a1).text) 65536) == (0 : Int)) else false)) then true else ((getV (nlong_n4 x0) nlong_a2).kind != (1 : Int))) then true else ((getV (nlong_n4 x0) nlong_a3).kind != (1 : Int)))) then ((w64 ((w64 ((w64 ((x0.keys.length : Int) - (1 : Int))) - (1 : Int))) - (1 : Int))) == (0 : Int)) else false) then (prtV ⟨(getV (nlong_n4 x0) nlong_a2).text, (pwholeV ((getV (nlong_n4 x0) nlong_a1).text) 65536), (pwholeV [48] 65536), (getV (nlong_n4 x0) nlong_a3).text⟩) else false)⟩] else none)) else none)) else none) else none) else none)) else none) else none) else none) else (bif (pokW ((getV (nlong_n4 x0) nlong_a0).text) 65536) then (bif ((fun n _ => fit n) (nlong_n4 x0) nlong_a0) then (bif ((fun n _ => fit n) (nlong_n4 x0) nlong_a1) then (bif (!(getB (nlong_n4 x0) nlong_a1)) then (bif (pokW [48] 65536) then (bif ((fun n _ => fit n) (nlong_n4 x0) nlong_a1) then (bif ((fun n _ => fit n) (nlong_n4 x0) nlong_a2) then (bif (!(getB (nlong_n4 x0) nlong_a2)) then (bif ((fun n _ => fit n) (nlong_n4 x0) nlong_a3) then (bif (!(getB (nlong_n4 x0) nlong_a3)) then (bif ((okPR ⟨[], (pwholeV [48] 65536), (pwholeV ((getV (nlong_n4 x0) nlong_a0).text) 65536), [116, 99, 112]⟩) || !(bif (!(bif (bif (bif (bif (bif (x0.kind != (3 : Int)) then true else ((getV (nlong_n4 x0) nlong_a0).kind != (1 : Int))) then true else ((pwholeE ((getV (nlong_n4 x0) nlong_a0).text) 65536) != (0 : Int))) then true else (bif (getB (nlong_n4 x0) nlong_a0) then ((pwholeV ((getV (nlong_n4 x0) nlong_a0).text) 65536) == (0 : Int)) else false)) then true else ((pwholeE [48] 65536) != (0 : Int))) then true else (bif (getB (nlong_n4 x0) nlong_a1) then ((pwholeV [48] 65536) == (0 : Int)) else false))) then ((w64 ((x0.keys.length : Int) - (1 : Int))) == (0 : Int)) else false)) then some [⟨.api_Port, (⟨[], (pwholeV [48] 65536), (pwholeV ((getV (nlong_n4 x0) nlong_a0).text) 65536), [116, 99, 112]⟩ : Port)⟩, ⟨.bool, (bif (bif (!(bif (bif (bif (bif (bif (x0.kind != (3 : Int)) then true else ((getV (nlong_n4 x0) nlong_a0).kind != (1 : Int))) then true else ((pwholeE ((getV (nlong_n4 x0) nlong_a0).text) 65536) != (0 : Int))) then true else (bif (getB (nlong_n4 x0) nlong_a0) then ((pwholeV ((getV (nlong_n4 x0) nlong_a0).text) 65536) == (0 : Int)) else false)) then true else ((pwholeE [48] 65536) != (0 : Int))) then true else (bif (getB (nlong_n4 x0) nlong_a1) then ((pwholeV [48] 65536) == (0 : Int)) else false))) then ((w64 ((x0.keys.length : Int) - (1 : Int))) == (0 : Int)) else false) then (prtV ⟨[], (pwholeV [48] 65536), (pwholeV ((getV (nlong_n4 x0) nlong_a0).text) 65536), [116, 99, 112]⟩) else false)⟩] else none) else (bif ((okPR ⟨[], (pwholeV [48] 65536), (pwholeV ((getV (nlong_n4 x0) nlong_a0).text) 65536), (getV (nlong_n4 x0) nlong_a3).text⟩) || !(bif (!(bif (bif (bif (bif (bif (bif (x0.kind != (3 : Int)) then true else ((getV (nlong_n4 x0) nlong_a0).kind != (1 : Int))) then true else ((pwholeE ((getV (nlong_n4 x0) nlong_a0).text) 65536) != (0 : Int))) then true else (bif (getB (nlong_n4 x0) nlong_a0) then ((pwholeV ((getV (nlong_n4 x0) nlong_a0).text) 65536) == (0 : Int)) else false)) then true else ((pwholeE [48] 65536) != (0 : Int))) then true else (bif (getB (nlong_n4 x0) nlong_a1) then ((pwholeV [48] 65536) == (0 : Int)) else false)) then true else ((getV (nlong_n4 x0) nlong_a3).kind != (1 : Int)))) then ((w64 ((w64 ((x0.keys.length : Int) - (1 : Int))) - (1 : Int))) == (0 : Int)) else false)) then some [⟨.api_Port, (⟨[], (pwholeV [48] 65536), (pwholeV ((getV (nlong_n4 x0) nlong_a0).text) 65536), (getV (nlong_n4 x0) nlong_a3).text⟩ : Port)⟩, ⟨.bool, (bif (bif (!(bif (bif (bif (bif (bif (bif (x0.kind != (3 : Int)) then true else ((getV (nlong_n4 x0) nlong_a0).kind != (1 : Int))) then true else ((pwholeE ((getV (nlong_n4 x0) nlong_a0).text) 65536) != (0 : Int))) then true else (bif (getB (nlong_n4 x0) nlong_a0) then ((pwholeV ((getV (nlong_n4 x0) nlong_a0).text) 65536) == (0 : Int)) else false)) then true else ((pwholeE [48] 65536) != (0 : Int))) then true else (bif (getB (nlong_n4 x0) nlong_a1) then ((pwholeV [48] 65536) == (0 : Int)) else false)) then true else ((getV (nlong_n4 x0) nlong_a3).kind != (1 : Int)))) then ((w64 ((w64 ((x0.keys.length : Int) - (1 : Int))) - (1 : Int))) == (0 : Int)) else false) then (prtV ⟨[], (pwholeV [48] 65536), (pwholeV ((getV (nlong_n4 x0) nlong_a0).text) 65536), (getV (nlong_n4 x0) nlong_a3).text⟩) else false)⟩] else none)) else none) else (bif ((fun n _ => fit n) (nlong_n4 x0) nlong_a3) then (bif (!(getB (nlong_n4 x0) nlong_a3)) then (bif ((okPR ⟨(getV (nlong_n4 x0) nlong_a2).text, (pwholeV [48] 65536), (pwholeV ((getV (nlong_n4 x0) nlong_a0).text) 65536), [116, 99, 112]⟩) || !(bif (!(bif (bif (bif (bif (bif (bif (x0.kind != (3 : Int)) then true else ((getV (nlong_n4 x0) nlong_a0).kind != (1 : Int))) then true else ((pwholeE ((getV (nlong_n4 x0) nlong_a0).text) 65536) != (0 : Int))) then true else (bif (getB (nlong_n4 x0) nlong_a0) then ((pwholeV ((getV (nlong_n4 x0) nlong_a0).text) 65536) == (0 : Int)) else false)) then true else ((pwholeE [48] 65536) != (0 : Int))) then true else (bif (getB (nlong_n4 x0) nlong_a1) then ((pwholeV [48] 65536) == (0 : Int)) else false)) then true else ((getV (nlong_n4 x0) nlong_a2).kind != (1 : Int)))) then ((w64 ((w64 ((x0.keys.length : Int) - (1 : Int))) - (1 : Int))) == (0 : Int)) else false)) then some [⟨.api_Port, (⟨(getV (nlong_n4 x0) nlong_a2).text, (pwholeV [48] 65536), (pwholeV ((getV (nlong_n4 x0) nlong_a0).text) 65536), [116, 99, 112]⟩ : Port)⟩, ⟨.bool, (bif (bif (!(bif (bif (bif (bif (bif (bif (x0.kind != (3 : Int)) then true else ((getV (nlong_n4 x0) nlong_a0).kind != (1 : Int))) then true else ((pwholeE ((getV (nlong_n4 x0) nlong_a0).text) 65536) != (0 : Int))) then true else (bif (getB (nlong_n4 x0) nlong_a0) then ((pwholeV ((getV (nlong_n4 x0) nlong_a0).text) 65536) == (0 : Int)) else false)) then true else ((pwholeE [48] 65536) != (0 : Int))) then true else (bif (getB (nlong_n4 x0) nlong_a1) then ((pwholeV [48] 65536) == (0 : Int)) else false)) then true else ((getV (nlong_n4 x0) nlong_a2).kind != (1 : Int)))) then ((w64 ((w64 ((x0.keys.length : Int) - (1 : Int))) - (1 : Int))) == (0 : Int)) else false) then (prtV ⟨(getV (nlong_n4 x0) nlong_a2).text, (pwholeV [48] 65536), (pwholeV ((getV (nlong_n4 x0) nlong_a0).text) 65536), [116, 99, 112]⟩) else false)⟩] else none) else (bif ((okPR ⟨(getV (nlong_n4 x0) nlong_a2).text, (pwholeV [48] 65536), (pwholeV ((getV (nlong_n4 x0) nlong_a0).text) 65536), (getV (nlong_n4 x0) nlong_a3).text⟩) || !(bif (!(bif (bif (bif (bif (bif (bif (bif (x0.kind != (3 : Int)) then true else ((getV (nlong_n4 x0) nlong_a0).kind != (1 : Int))) then true else ((pwholeE ((getV (nlong_n4 x0) nlong_a0).text) 65536) != (0 : Int))) then true else (bif (getB (nlong_n4 x0) nlong_a0) then ((pwholeV ((getV (nlong_n4 x0) nlong_a0).text) 65536) == (0 : Int)) else false)) then true else ((pwholeE [48] 65536) != (0 : Int))) then true else (bif (getB (nlong_n4 x0) nlong_a1) then ((pwholeV [48] 65536) == (0 : Int)) else false)) then true else ((getV (nlong_n4 x0) nlong_a2).kind != (1 : Int))) then true else ((getV (nlong_n4 x0) nlong_a3).kind != (1 : Int)))) then ((w64 ((w64 ((w64 ((x0.keys.length : Int) - (1 : Int))) - (1 : Int))) - (1 : Int))) == (0 : Int)) else false)) then some [⟨.api_Port, (⟨(getV (nlong_n4 x0) nlong_a2).text, (pwholeV [48] 65536), (pwholeV ((getV (nlong_n4 x0) nlong_a0).text) 65536), (getV (nlong_n4 x0) nlong_a3).text⟩ : Port)⟩, ⟨.bool, (bif (bif (!(bif (bif (bif (bif (bif (bif (bif (x0.kind != (3 : Int)) then true else ((getV (nlong_n4 x0) nlong_a0).kind != (1 : Int))) then true else ((pwholeE ((getV (nlong_n4 x0) nlong_a0).text) 65536) != (0 : Int))) then true else (bif (getB (nlong_n4 x0) nlong_a0) then ((pwholeV ((getV (nlong_n4 x0) nlong_a0).text) 65536) == (0 : Int)) else false)) then true else ((pwholeE [48] 65536) != (0 : Int))) then true else (bif (getB (nlong_n4 x0) nlong_a1) then ((pwholeV [48] 65536) == (0 : Int)) else false)) then true else ((getV (nlong_n4 x0) nlong_a2).kind != (1 : Int))) then true else ((getV (nlong_n4 x0) nlong_a3).kind != (1 : Int)))) then ((w64 ((w64 ((w64 ((x0.keys.length : Int) - (1 : Int))) - (1 : Int))) - (1 : Int))) == (0 : Int)) else false) then (prtV ⟨(getV (nlong_n4 x0) nlong_a2).text, (pwholeV [48] 65536), (pwholeV ((getV (nlong_n4 x0) nlong_a0).text) 65536), (getV (nlong_n4 x0) nlong_a3).text⟩) else false)⟩] else none)) else none)) else none) else none) else none) else (bif (pokW ((getV (nlong_n4 x0) nlong_a1).text) 65536) then (bif ((fun n _ => fit n) (nlong_n4 x0) nlong_a1) then (bif ((fun n _ => fit n) (nlong_n4 x0) nlong_a2) then (bif (!(getB (nlong_n4 x0) nlong_a2)) then (bif ((fun n _ => fit n) (nlong_n4 x0) nlong_a3) then (bif (!(getB (nlong_n4 x0) nlong_a3)) then (bif ((okPR ⟨[], (pwholeV ((getV (nlong_n4 x0) nlong_a1).text) 65536), (pwholeV ((getV (nlong_n4 x0) nlong_a0).text) 65536), [116, 99, 112]⟩) || !(bif (!(bif (bif (bif (bif (bif (bif (x0.kind != (3 : Int)) then true else ((getV (nlong_n4 x0) nlong_a0).kind != (1 : Int))) then true else ((pwholeE ((getV (nlong_n4 x0) nlong_a0).text) 65536) != (0 : Int))) then true else (bif (getB (nlong_n4 x0) nlong_a0) then ((pwholeV ((getV (nlong_n4 x0) nlong_a0).text) 65536) == (0 : Int)) else false)) then true else ((getV (nlong_n4 x0) nlong_a1).kind != (1 : Int))) then true else ((pwholeE ((getV (nlong_n4 x0) nlong_a1).text) 65536) != (0 : Int))) then true else (bif (getB (nlong_n4 x0) nlong_a1) then ((pwholeV ((getV (nlong_n4 x0) nlong_a1).text) 65536) == (0 : Int)) else false))) then ((w64 ((w64 ((x0.keys.length : Int) - (1 : Int))) - (1 : Int))) == (0 : Int)) else false)) then some [⟨.api_Port, (⟨[], (pwholeV ((getV (nlong_n4 x0) nlong_a1).text) 65536), (pwholeV ((getV (nlong_n4 x0) nlong_a0).text) 65536), [116, 99, 112]⟩ : Port)⟩, ⟨.bool, (bif (bif (!(bif (bif (bif (bif (bif (bif (x0.kind != (3 : Int)) then true else ((getV (nlong_n4 x0) nlong_a0).kind != (1 : Int))) then true else ((pwholeE ((getV (nlong_n4 x0) nlong_a0).text) 65536) != (0 : Int))) then true else (bif (getB (nlong_n4 x0) nlong_a0) then ((pwholeV ((getV (nlong_n4 x0) nlong_a0).text) 65536) == (0 : Int)) else false)) then true else ((getV (nlong_n4 x0) nlong_a1).kind != (1 : Int))) then true else ((pwholeE ((getV (nlong_n4 x0) nlong_a1).text) 65536) != (0 : Int))) then true else (bif (getB (nlong_n4 x0) nlong_a1) then ((pwholeV ((getV (nlong_n4 x0) nlong_a1).text) 65536) == (0 : Int)) else false))) then ((w64 ((w64 ((x0.keys.length : Int) - (1 : Int))) - (1 : Int))) == (0 : Int)) else false) then (prtV ⟨[], (pwholeV ((getV (nlong_n4 x0) nlong_a1).text) 65536), (pwholeV ((getV (nlong_n4 x0) nlong_a0).text) 65536), [116, 99, 112]⟩) else false)⟩] else none) else (bif ((okPR ⟨[], (pwholeV ((getV (nlong_n4 x0) nlong_a1).text) 65536), (pwholeV ((getV (nlong_n4 x0) nlong_a0).text) 65536), (getV (nlong_n4 x0) nlong_a3).text⟩) || !(bif (!(bif (bif (bif (bif (bif (bif (bif (x0.kind != (3 : Int)) then true else ((getV (nlong_n4 x0) nlong_a0).kind != (1 : Int))) then true else ((pwholeE ((getV (nlong_n4 x0) nlong_a0).text) 65536) != (0 : Int))) then true else (bif (getB (nlong_n4 x0) nlong_a0) then ((pwholeV ((getV (nlong_n4 x0) nlong_a0).text) 65536) == (0 : Int)) else false)) then true else ((getV (nlong_n4 x0) nlong_a1).kind != (1 : Int))) then true else ((pwholeE ((getV (nlong_n4 x0) nlong_a1).text) 65536) != (0 : Int))) then true else (bif (getB (nlong_n4 x0) nlong_a1) then ((pwholeV ((getV (nlong_n4 x0) nlong_a1).text) 65536) == (0 : Int)) else false)) then true else ((getV (nlong_n4 x0) nlong_a3).kind != (1 : Int)))) then ((w64 ((w64 ((w64 ((x0.keys.length : Int) - (1 : Int))) - (1 : Int))) - (1 : Int))) == (0 : Int)) else false)) then some [⟨.api_Port, (⟨[], (pwholeV ((getV (nlong_n4 x0) nlong_a1).text) 65536), (pwholeV ((getV (nlong_n4 x0) nlong_a0).text) 65536), (getV (nlong_n4 x0) nlong_a3).text⟩ : Port)⟩, ⟨.bool, (bif (bif (!(bif (bif (bif (bif (bif (bif (bif (x0.kind != (3 : Int)) then true else ((getV (nlong_n4 x0) nlong_a0).kind != (1 : Int))) then true else ((pwholeE ((getV (nlong_n4 x0) nlong_a0).text) 65536) != (0 : Int))) then true else (bif (getB (nlong_n4 x0) nlong_a0) then ((pwholeV ((getV (nlong_n4 x0) nlong_a0).text) 65536) == (0 : Int)) else false)) then true else ((getV (nlong_n4 x0) nlong_a1).kind != (1 : Int))) then true else ((pwholeE ((getV (nlong_n4 x0) nlong_a1).text) 65536) != (0 : Int))) then true else (bif (getB (nlong_n4 x0) nlong_a1) then ((pwholeV ((getV (nlong_n4 x0) nlong_a1).text) 65536) == (0 : Int)) else false)) then true else ((getV (nlong_n4 x0) nlong_a3).kind != (1 : Int)))) then ((w64 ((w64 ((w64 ((x0.keys.length : Int) - (1 : Int))) - (1 : Int))) - (1 : Int))) == (0 : Int)) else false) then (prtV ⟨[], (pwholeV ((getV (nlong_n4 x0) nlong_a1).text) 65536), (pwholeV ((getV (nlong_n4 x0) nlong_a0).text) 65536), (getV (nlong_n4 x0) nlong_a3).text⟩) else false)⟩] else none)) else none) else (bif ((fun n _ => fit n) (nlong_n4 x0) nlong_a3) then (bif (!(getB (nlong_n4 x0) nlong_a3)) then (bif ((okPR ⟨(getV (nlong_n4 x0) nlong_a2).text, (pwholeV ((getV (nlong_n4 x0) nlong_a1).text) 65536), (pwholeV ((getV (nlong_n4 x0) nlong_a0).text) 65536), [116, 99, 112]⟩) || !(bif (!(bif (bif (bif (bif (bif (bif (bif (x0.kind != (3 : Int)) then true else ((getV (nlong_n4 x0) nlong_a0).kind != (1 : Int))) then true else ((pwholeE ((getV (nlong_n4 x0) nlong_a0).text) 65536) != (0 : Int))) then true else (bif (getB (nlong_n4 x0) nlong_a0) then ((pwholeV ((getV (nlong_n4 x0) nlong_a0).text) 65536) == (0 : Int)) else false)) then true else ((getV (nlong_n4 x0) nlong_a1).kind != (1 : Int))) then true else ((pwholeE ((getV (nlong_n4 x0) nlong_a1).text) 65536) != (0 : Int))) then true else (bif (getB (nlong_n4 x0) nlong_a1) then ((pwholeV ((getV (nlong_n4 x0) nlong_a1).text) 65536) == (0 : Int)) else false)) then true else ((getV (nlong_n4 x0) nlong_a2).kind != (1 : Int)))) then ((w64 ((w64 ((w64 ((x0.keys.length : Int) - (1 : Int))) - (1 : Int))) - (1 : Int))) == (0 : Int)) else false)) then some [⟨.api_Port, (⟨(getV (nlong_n4 x0) nlong_a2).text, (pwholeV ((getV (nlong_n4 x0) nlong_a1).text) 65536), (pwholeV ((getV (nlong_n4 x0) nlong_a0).text) 65536), [116, 99, 112]⟩ : Port)⟩, ⟨.bool, (bif (bif (!(bif (bif (bif (bif (bif (bif (bif (x0.kind != (3 : Int)) then true else ((getV (nlong_n4 x0) nlong_a0).kind != (1 : Int))) then true else ((pwholeE ((getV (nlong_n4 x0) nlong_a0).text) 65536) != (0 : Int))) then true else (bif (getB (nlong_n4 x0) nlong_a0) then ((pwholeV ((getV (nlong_n4 x0) nlong_a0).text) 65536) == (0 : Int)) else false)) then true else ((getV (nlong_n4 x0) nlong_a1).kind != (1 : Int))) then true else ((pwholeE ((getV (nlong_n4 x0) nlong_a1).text) 65536) != (0 : Int))) then true else (bif (getB (nlong_n4 x0) nlong_a1) then ((pwholeV ((getV (nlong_n4 x0) nlong_a1).text) 65536) == (0 : Int)) else false)) then true else ((getV (nlong_n4 x0) nlong_a2).kind != (1 : Int)))) then ((w64 ((w64 ((w64 ((x0.keys.length : Int) - (1 : Int))) - (1 : Int))) - (1 : Int))) == (0 : Int)) else false) then (prtV ⟨(getV (nlong_n4 x0) nlong_a2).text, (pwholeV ((getV (nlong_n4 x0) nlong_a1).text) 65536), (pwholeV ((getV (nlong_n4 x0) nlong_a0).text) 65536), [116, 99, 112]⟩) else false)⟩] else none) else (bif ((okPR ⟨(getV (nlong_n4 x0) nlong_a2).text, (pwholeV ((getV (nlong_n4 x0) nlong_a1).text) 65536), (pwholeV ((getV (nlong_n4 x0) nlong_a0).text) 65536), (getV (nlong_n4 x0) nlong_a3).text⟩) || !(bif (!(bif (bif (bif (bif (bif (bif (bif (bif (x0.kind != (3 : Int)) then true else ((getV (nlong_n4 x0) nlong_a0).kind != (1 : Int))) then true else ((pwholeE ((getV (nlong_n4 x0) nlong_a0).text) 65536) != (0 : Int))) then true else (bif (getB (nlong_n4 x0) nlong_a0) then ((pwholeV ((getV (nlong_n4 x0) nlong_a0).text) 65536) == (0 : Int)) else false)) then true else ((getV (nlong_n4 x0) nlong_a1).kind != (1 : Int))) then true else ((pwholeE ((getV (nlong_n4 x0) nlong_a1).text) 65536) != (0 : Int))) then true else (bif (getB (nlong_n4 x0) nlong_a1) then ((pwholeV ((getV (nlong_n4 x0) nlong_a1).text) 65536) == (0 : Int)) else false)) then true else ((getV (nlong_n4 x0) nlong_a2).kind != (1 : Int))) then true else ((getV (nlong_n4 x0) nlong_a3).kind != (1 : Int)))) then ((w64 ((w64 ((w64 ((w64 ((x0.keys.length : Int) - (1 : Int))) - (1 : Int))) - (1 : Int))) - (1 : Int))) == (0 : Int)) else false)) then some [⟨.api_Port, (⟨(getV (nlong_n4 x0) nlong_a2).text, (pwholeV ((getV (nlong_n4 x0) nlong_a1).text) 65536), (pwholeV ((getV (nlong_n4 x0) nlong_a0).text) 65536), (getV (nlong_n4 x0) nlong_a3).text⟩ : Port)⟩, ⟨.bool, (bif (bif (!(bif (bif (bif (bif (bif (bif (bif (bif (x0.kind != (3 : Int)) then true else ((getV (nlong_n4 x0) nlong_a0).kind != (1 : Int))) then true else ((pwholeE ((getV (nlong_n4 x0) nlong_a0).text) 65536) != (0 : Int))) then true else (bif (getB (nlong_n4 x0) nlong_a0) then ((pwholeV ((getV (nlong_n4 x0) nlong_a0).text) 65536) == (0 : Int)) else false)) then true else ((getV (nlong_n4 x0) nlong_a1).kind != (1 : Int))) then true else ((pwholeE ((getV (nlong_n4 x0) nlong_a1).text) 65536) != (0 : Int))) then true else (bif (getB (nlong_n4 x0) nlong_a1) then ((pwholeV ((getV (nlong_n4 x0) nlong_a1).text) 65536) == (0 : Int)) else false)) then true else ((getV (nlong_n4 x0) nlong_a2).kind != (1 : Int))) then true else ((getV (nlong_n4 x0) nlong_a3).kind != (1 : Int)))) then ((w64 ((w64 ((w64 ((w64 ((x0.keys.length : Int) - (1 : Int))) - (1 : Int))) - (1 : Int))) - (1 : Int))) == (0 : Int)) else false) then (prtV ⟨(getV (nlong_n4 x0) nlong_a2).text, (pwholeV ((getV (nlong_n4 x0) nlong_a1).text) 65536), (pwholeV ((getV (nlong_n4 x0) nlong_a0).text) 65536), (getV (nlong_n4 x0) nlong_a3).text⟩) else false)⟩] else none)) else none)) else none) else none) else none)) else none) else none) else none)) else none
theorem nlong_e (G : Nat → ASt E → Option (List (TV E))) (x0 : Node) : runE nlong_O nlong_H G Tryz.f15 [⟨.api_Node, x0⟩] = nlong_t G x0 := by kernel_rfl
theorem nlong_f : Tryz.prog.funcs[15]? = some Tryz.f15 := by kernel_rfl
theorem nlong_n : (Tryz.f15.name == "runtime.NumGoroutine") = false := by kernel_rfl
theorem nlong_b : Tryz.f15.body.isNone = false := by kernel_rfl
theorem nlong_hO : OracleOk E nlong_O := withI_ok (orac_ok (.cons dcount_ok (.cons nget_ok (.cons pright_ok .nil))) .nil .nil .nil) mix (.cons (f := 44) (fn := Tryz.f44) (by kernel_rfl) (by kernel_rfl) (by kernel_rfl) (.cons (f := 45) (fn := Tryz.f45) (by kernel_rfl) (by kernel_rfl) (by kernel_rfl) (.cons (f := 46) (fn := Tryz.f46) (by kernel_rfl) (by kernel_rfl) (by kernel_rfl) (.cons (f := 47) (fn := Tryz.f47) (by kernel_rfl) (by kernel_rfl) (by kernel_rfl) .nil))))
theorem nlong_ok_of (h : ∀ (x0 : Node), okLg x0 = true → nlong_t (Gr E Tryz.f15 [⟨.api_Port, lgP x0⟩, ⟨.bool, lgB x0⟩]) x0 = some [⟨.api_Port, lgP x0⟩, ⟨.bool, lgB x0⟩]) : FnOk E nlong_id nlong_W := fn12_ok nlong_hO mix nlong_f nlong_n nlong_b (fun x0 hk => (nlong_e _ x0).trans (h x0 hk))
theorem nlong_ok : FnOk E nlong_id nlong_W := nlong_ok_of fun n hk => by
  rw [isT_eq hk]
  have e : nlong_t (Gr E Tryz.f15 [⟨.api_Port, (⟨[], 0, 0, [116, 99, 112]⟩ : Port)⟩, ⟨.bool, false⟩]) exT = some [⟨.api_Port, (⟨[], 0, 0, [116, 99, 112]⟩ : Port)⟩, ⟨.bool, false⟩] := by kernel_rfl
  exact e
def exN : Node := ⟨2, [], [], [exT]⟩
def isN (n : Node) : Bool := (n.kind == 2) && (n.text == []) && (n.keys == []) && decide (n.kids.length = 1) && isT (n.kids.headD zn)
theorem isN_eq {n : Node} (h : isN n = true) : n = exN := by
  simp only [isN, Bool.and_eq_true, beq_iff_eq, decide_eq_true_eq] at h
  obtain ⟨⟨⟨⟨h1, h2⟩, h3⟩, h4⟩, h5⟩ := h
  match hk : n.kids, h4 with
  | [y], _ =>
    rw [hk] at h5
    rw [← node_eta n, h1, h2, h3, hk, show y = exT from isT_eq h5]
    rfl
def okPo (n : Node) : Bool := isT n || isN n
def exO : Node := ⟨3, [], [exS], [zn]⟩
def poV (n : Node) : Node := bif isT n then zn else exO
def poE (n : Node) : Int := bif isT n then 10 else 0
noncomputable def nports_W : FnW E := fn12 (E := E) .api_Node .api_Node .api_Errno okPo poV poE
def nports_id : FuncId := 9
noncomputable def nports_O : Oracle E := withI (orac [(54, ndsorted_W 12), (52, nwith_W), (15, nlong_W), (16, pparse_W), (19, ptext_W)] [] [] []) [(14, Tryz.f14), (17, Tryz.f17), (18, Tryz.f18), (20, Tryz.f20), (21, Tryz.f21)]
noncomputable def nports_H : Hint E := Hint.mk [(0, [2, 4, 21, 22, 23]), (1, [1, 2, 4, 55, 56, 57])] [] [(0, [(4, some 2, false, .str), (4, some 3, false, .api_Node)]), (1, [(4, some 2, false, .str), (4, some 3, false, .api_Node)])] [] []
noncomputable def nports_C0 (v0 : List Node) (v1 v2 v3 : Int) (v4 : List UInt8) (v5 : Int) (v6 : List UInt8) (v7 : List (List UInt8)) (v8 : List Node) (v9 : Bool) : ASt E := ASt.mk 92 [(2, .ptr 0 0), (4, .ptr 1 0), (21, .d (.slice .api_Node v0)), (22, .d (.int .i64 v1)), (23, .d (.int .i64 v2))] [(0, .box [.d (.int .i64 v3), .d (.str v4), .d (.raw (.slice none 0 0)), .d (.raw (.slice none 0 0))]), (1, .box [.d (.int .i64 v5), .d (.str v6), .d (.slice .str v7), .d (.slice .api_Node v8), .d (.bool v9)])] 2
noncomputable def nports_C1 (v0 : List (List UInt8)) (v1 v2 v3 : Int) (v4 : List UInt8) (v5 : List (List UInt8)) (v6 : List Node) (v7 : Int) (v8 : List UInt8) (v9 : Int) (v10 : List UInt8) (v11 : List (List UInt8)) (v12 : List Node) (v13 : Bool) : ASt E := ASt.mk 92 [(1, .ptr 0 0), (2, .ptr 1 0), (4, .ptr 2 0), (55, .d (.slice .str v0)), (56, .d (.int .i64 v1)), (57, .d (.int .i64 v2))] [(0, .box [.d (.int .i64 v3), .d (.str v4), .d (.slice .str v5), .d (.slice .api_Node v6)]), (1, .box [.d (.int .i64 v7), .d (.str v8), .d (.raw (.slice none 0 0)), .d (.raw (.slice none 0 0))]), (2, .box [.d (.int .i64 v9), .d (.str v10), .d (.slice .str v11), .d (.slice .api_Node v12), .d (.bool v13)])] 3
noncomputable def nports_t (G : Nat → ASt E → Option (List (TV E))) (x0 : Node) : Option (List (TV E)) :=
  bif (bif (x0.kind == (2 : Int)) then (decide ((x0.kids.length : Int) ≤ (32 : Int))) else false) then G 0 (nports_C0 x0.kids (x0.kids.length : Int) 0 0 [] 0 [] [] [] false) else (bif (bif (x0.kind == (3 : Int)) then (decide ((x0.kids.length : Int) ≤ (32 : Int))) else false) then G 1 (nports_C1 x0.keys (x0.keys.length : Int) 0 x0.kind x0.text x0.keys x0.kids 0 [] 0 [] [] [] false) else some [⟨.api_Node, (⟨0, [], [], []⟩ : Node)⟩, ⟨.api_Errno, (10 : Int)⟩])
theorem nports_e (G : Nat → ASt E → Option (List (TV E))) (x0 : Node) : runE nports_O nports_H G Tryz.f9 [⟨.api_Node, x0⟩] = nports_t G x0 := by kernel_rfl
noncomputable def nports_t0 (G : Nat → ASt E → Option (List (TV E))) (v0 : List Node) (v1 v2 v3 : Int) (v4 : List UInt8) (v5 : Int) (v6 : List UInt8) (v7 : List (List UInt8)) (v8 : List Node) (v9 : Bool) : Option (List (TV E)) :=
  bif (decide (v2 < v1)) then (bif (decide ((0 : Int) ≤ v2) && decide (v2 < (v0.length : Int))) then (bif (okLg ⟨(List.getD v0 (Int.toNat v2) (dflt .api_Node)).kind, (List.getD v0 (Int.toNat v2) (dflt .api_Node)).text, (List.getD v0 (Int.toNat v2) (dflt .api_Node)).keys, (List.getD v0 (Int.toNat v2) (dflt .api_Node)).kids⟩) then (bif ((List.getD v0 (Int.toNat v2) (dflt .api_Node)).kind == (1 : Int)) then (bif (okPP ((List.getD v0 (Int.toNat v2) (dflt .api_Node)).text)) then (bif (okPT (parP ((List.getD v0 (Int.toNat v2) (dflt .api_Node)).text))) then (bif (okWp ⟨v5, v6, v7, v8⟩ (ptxV (parP ((List.getD v0 (Int.toNat v2) (dflt .api_Node)).text))) ⟨0, [], [], []⟩) then G 0 (nports_C0 v0 v1 (w64 (v2 + (1 : Int))) v3 v4 ((withP ⟨v5, v6, v7, v8⟩ (ptxV (parP ((List.getD v0 (Int.toNat v2) (dflt .api_Node)).text))) ⟨0, [], [], []⟩).kind) ((withP ⟨v5, v6, v7, v8⟩ (ptxV (parP ((List.getD v0 (Int.toNat v2) (dflt .api_Node)).text))) ⟨0, [], [], []⟩).text) ((withP ⟨v5, v6, v7, v8⟩ (ptxV (parP ((List.getD v0 (Int.toNat v2) (dflt .api_Node)).text))) ⟨0, [], [], []⟩).keys) ((withP ⟨v5, v6, v7, v8⟩ (ptxV (parP ((List.getD v0 (Int.toNat v2) (dflt .api_Node)).text))) ⟨0, [], [], []⟩).kids) (bif v9 then true else (!((parE ((List.getD v0 (Int.toNat v2) (dflt .api_Node)).text)) == (0 : Int))))) else none) else none) else none) else (bif (okPT (lgP ⟨(List.getD v0 (Int.toNat v2) (dflt .api_Node)).kind, (List.getD v0 (Int.toNat v2) (dflt .api_Node)).text, (List.getD v0 (Int.toNat v2) (dflt .api_Node)).keys, (List.getD v0 (Int.toNat v2) (dflt .api_Node)).kids⟩)) then (bif (okWp ⟨v5, v6, v7, v8⟩ (ptxV (lgP ⟨(List.getD v0 (Int.toNat v2) (dflt .api_Node)).kind, (List.getD v0 (Int.toNat v2) (dflt .api_Node)).text, (List.getD v0 (Int.toNat v2) (dflt .api_Node)).keys, (List.getD v0 (Int.toNat v2) (dflt .api_Node)).kids⟩)) ⟨0, [], [], []⟩) then G 0 (nports_C0 v0 v1 (w64 (v2 + (1 : Int))) v3 v4 ((withP ⟨v5, v6, v7, v8⟩ (ptxV (lgP ⟨(List.getD v0 (Int.toNat v2) (dflt .api_Node)).kind, (List.getD v0 (Int.toNat v2) (dflt .api_Node)).text, (List.getD v0 (Int.toNat v2) (dflt .api_Node)).keys, (List.getD v0 (Int.toNat v2) (dflt .api_Node)).kids⟩)) ⟨0, [], [], []⟩).kind) ((withP ⟨v5, v6, v7, v8⟩ (ptxV (lgP ⟨(List.getD v0 (Int.toNat v2) (dflt .api_Node)).kind, (List.getD v0 (Int.toNat v2) (dflt .api_Node)).text, (List.getD v0 (Int.toNat v2) (dflt .api_Node)).keys, (List.getD v0 (Int.toNat v2) (dflt .api_Node)).kids⟩)) ⟨0, [], [], []⟩).text) ((withP ⟨v5, v6, v7, v8⟩ (ptxV (lgP ⟨(List.getD v0 (Int.toNat v2) (dflt .api_Node)).kind, (List.getD v0 (Int.toNat v2) (dflt .api_Node)).text, (List.getD v0 (Int.toNat v2) (dflt .api_Node)).keys, (List.getD v0 (Int.toNat v2) (dflt .api_Node)).kids⟩)) ⟨0, [], [], []⟩).keys) ((withP ⟨v5, v6, v7, v8⟩ (ptxV (lgP ⟨(List.getD v0 (Int.toNat v2) (dflt .api_Node)).kind, (List.getD v0 (Int.toNat v2) (dflt .api_Node)).text, (List.getD v0 (Int.toNat v2) (dflt .api_Node)).keys, (List.getD v0 (Int.toNat v2) (dflt .api_Node)).kids⟩)) ⟨0, [], [], []⟩).kids) (bif v9 then true else (!(lgB ⟨(List.getD v0 (Int.toNat v2) (dflt .api_Node)).kind, (List.getD v0 (Int.toNat v2) (dflt .api_Node)).text, (List.getD v0 (Int.toNat v2) (dflt .api_Node)).keys, (List.getD v0 (Int.toNat v2) (dflt .api_Node)).kids⟩)))) else none) else none)) else none) else none) else (bif (bif v9 then true else (decide ((32 : Int) < (v7.length : Int)))) then some [⟨.api_Node, (⟨0, [], [], []⟩ : Node)⟩, ⟨.api_Errno, (10 : Int)⟩] else (bif ((wg 10000 12) (⟨3, v6, v7, v8⟩ : Node)) then some [⟨.api_Node, (⟨((sortP 12) (⟨3, v6, v7, v8⟩ : Node)).kind, ((sortP 12) (⟨3, v6, v7, v8⟩ : Node)).text, ((sortP 12) (⟨3, v6, v7, v8⟩ : Node)).keys, ((sortP 12) (⟨3, v6, v7, v8⟩ : Node)).kids⟩ : Node)⟩, ⟨.api_Errno, (0 : Int)⟩] else none))
theorem nports_l0 (G : Nat → ASt E → Option (List (TV E))) (v0 : List Node) (v1 v2 v3 : Int) (v4 : List UInt8) (v5 : Int) (v6 : List UInt8) (v7 : List (List UInt8)) (v8 : List Node) (v9 : Bool) : runL nports_O nports_H G Tryz.f9 0 (nports_C0 v0 v1 v2 v3 v4 v5 v6 v7 v8 v9) = nports_t0 G v0 v1 v2 v3 v4 v5 v6 v7 v8 v9 := by kernel_rfl
theorem nports_f : Tryz.prog.funcs[9]? = some Tryz.f9 := by kernel_rfl
theorem nports_n : (Tryz.f9.name == "runtime.NumGoroutine") = false := by kernel_rfl
theorem nports_b : Tryz.f9.body.isNone = false := by kernel_rfl
theorem nports_hO : OracleOk E nports_O := withI_ok (orac_ok (.cons (ndsorted_ok 12) (.cons nwith_ok (.cons nlong_ok (.cons pparse_ok (.cons ptext_ok .nil))))) .nil .nil .nil) mix (.cons (f := 14) (fn := Tryz.f14) (by kernel_rfl) (by kernel_rfl) (by kernel_rfl) (.cons (f := 17) (fn := Tryz.f17) (by kernel_rfl) (by kernel_rfl) (by kernel_rfl) (.cons (f := 18) (fn := Tryz.f18) (by kernel_rfl) (by kernel_rfl) (by kernel_rfl) (.cons (f := 20) (fn := Tryz.f20) (by kernel_rfl) (by kernel_rfl) (by kernel_rfl) (.cons (f := 21) (fn := Tryz.f21) (by kernel_rfl) (by kernel_rfl) (by kernel_rfl) .nil)))))
theorem nports_s0 {res : List (TV E)} {v0 : List Node} {v1 v2 v3 : Int} {v4 : List UInt8} {v5 : Int} {v6 : List UInt8} {v7 : List (List UInt8)} {v8 : List Node} {v9 : Bool} (h : nports_t0 (Gr E Tryz.f9 res) v0 v1 v2 v3 v4 v5 v6 v7 v8 v9 = some res) : Ev E Tryz.f9 res 0 (nports_C0 v0 v1 v2 v3 v4 v5 v6 v7 v8 v9) := Ev.step nports_hO mix ((nports_l0 _ v0 v1 v2 v3 v4 v5 v6 v7 v8 v9).trans h)
theorem nports_ok_of (h : ∀ (x0 : Node), okPo x0 = true → nports_t (Gr E Tryz.f9 [⟨.api_Node, poV x0⟩, ⟨.api_Errno, poE x0⟩]) x0 = some [⟨.api_Node, poV x0⟩, ⟨.api_Errno, poE x0⟩]) : FnOk E nports_id nports_W := fn12_ok nports_hO mix nports_f nports_n nports_b (fun x0 hk => (nports_e _ x0).trans (h x0 hk))
theorem exO_sort : sortP 12 exO = exO := by
  have h : Pl.sortD [exS] = [exS] := Pl.sortD_eq (by simp [Pl.SS]) fun _ => Iff.rfl
  unfold sortP
  rw [show exO.keys = [exS] from rfl, h]
  rfl
theorem nports_ok : FnOk E nports_id nports_W := nports_ok_of fun n hk => by
  have hk : (isT n || isN n) = true := hk
  rw [Bool.or_eq_true] at hk
  rcases hk with h | h
  · rw [isT_eq h]
    have e : nports_t (Gr E Tryz.f9 [⟨.api_Node, zn⟩, ⟨.api_Errno, (10 : Int)⟩]) exT = some [⟨.api_Node, zn⟩, ⟨.api_Errno, (10 : Int)⟩] := by kernel_rfl
    exact e
  · rw [isN_eq h]
    have e2 : nports_t0 (Gr E Tryz.f9 [⟨.api_Node, exO⟩, ⟨.api_Errno, (0 : Int)⟩]) [exT] 1 1 0 [] 3 [] [exS] [zn] false = some [⟨.api_Node, exO⟩, ⟨.api_Errno, (0 : Int)⟩] := by
      have q : nports_t0 (Gr E Tryz.f9 [⟨.api_Node, exO⟩, ⟨.api_Errno, (0 : Int)⟩]) [exT] 1 1 0 [] 3 [] [exS] [zn] false = some [⟨.api_Node, (⟨(sortP 12 exO).kind, (sortP 12 exO).text, (sortP 12 exO).keys, (sortP 12 exO).kids⟩ : Node)⟩, ⟨.api_Errno, (0 : Int)⟩] := by kernel_rfl
      rw [q, node_eta, exO_sort]
    have e1 : nports_t0 (Gr E Tryz.f9 [⟨.api_Node, exO⟩, ⟨.api_Errno, (0 : Int)⟩]) [exT] 1 0 0 [] 0 [] [] [] false = Gr E Tryz.f9 [⟨.api_Node, exO⟩, ⟨.api_Errno, (0 : Int)⟩] 0 (nports_C0 [exT] 1 1 0 [] 3 [] [exS] [zn] false) := by kernel_rfl
    have e : Gr E Tryz.f9 [⟨.api_Node, exO⟩, ⟨.api_Errno, (0 : Int)⟩] 0 (nports_C0 [exT] 1 0 0 [] 0 [] [] [] false) = some [⟨.api_Node, exO⟩, ⟨.api_Errno, (0 : Int)⟩] := Gr_of (nports_s0 (e1.trans (Gr_of (nports_s0 e2))))
    have q0 : nports_t (Gr E Tryz.f9 [⟨.api_Node, exO⟩, ⟨.api_Errno, (0 : Int)⟩]) exN = Gr E Tryz.f9 [⟨.api_Node, exO⟩, ⟨.api_Errno, (0 : Int)⟩] 0 (nports_C0 [exT] 1 0 0 [] 0 [] [] [] false) := by kernel_rfl
    rw [show poV exN = exO from rfl, show poE exN = 0 from rfl]
    exact q0.trans e
end Go.Proofs.YtgniedpgdjmfpaaGreatDoor.Rf
namespace Go.Proofs.YtgniedpgdjmfpaaGreatDoor.Rf
open Go Go.RowKit Go.Sort Go.Proofs.YtgniedpgdjmfpaaGreatDoor.Mir
def rep1 (c : UInt8) (new : List UInt8) : List UInt8 → List UInt8
  | [] => []
  | b :: t => if b == c then new ++ rep1 c new t else b :: rep1 c new t
theorem rep1_cons (c : UInt8) (new : List UInt8) (b : UInt8) (t : List UInt8) : rep1 c new (b :: t) = if b == c then new ++ rep1 c new t else b :: rep1 c new t := rfl
theorem cnt1_cons (c b : UInt8) (t : List UInt8) : Lib.countByte (b :: t) c = Lib.countByte t c + if b == c then 1 else 0 := List.count_cons
theorem rep1_no (c : UInt8) (new : List UInt8) : ∀ t : List UInt8, Lib.countByte t c = 0 → rep1 c new t = t
  | [], _ => rfl
  | b :: t, h => by
    rw [cnt1_cons] at h
    rw [rep1_cons]
    by_cases hb : (b == c) = true
    · rw [if_pos hb] at h; omega
    · rw [if_neg hb] at h ⊢
      rw [rep1_no c new t h]
theorem rep1_hit (c : UInt8) (new : List UInt8) : ∀ (t : List UInt8) (g : Nat), Lib.countByte t c = g + 1 →
    ∃ j : Nat, Lib.indexByte t c = j ∧ j < t.length ∧ Lib.countByte (t.drop (j + 1)) c = g ∧ rep1 c new t = t.take j ++ new ++ rep1 c new (t.drop (j + 1))
  | [], g, h => by cases h
  | b :: t, g, h => by
    rw [cnt1_cons] at h
    rw [rep1_cons]
    by_cases hb : (b == c) = true
    · rw [if_pos hb] at h
      exact ⟨0, by unfold Lib.indexByte; rw [if_pos hb]; rfl, by simp, by show Lib.countByte t c = g; omega, by rw [if_pos hb]; rfl⟩
    · rw [if_neg hb] at h
      obtain ⟨j, h1, h2, h3, h4⟩ := rep1_hit c new t g h
      refine ⟨j + 1, ?_, by simp only [List.length_cons]; omega, h3, ?_⟩
      · unfold Lib.indexByte
        rw [if_neg hb, h1, if_neg (by simp)]
        rfl
      · rw [if_neg hb, h4]; rfl
theorem rep1_len (c : UInt8) (new : List UInt8) : ∀ t : List UInt8, (rep1 c new t).length ≤ t.length + Lib.countByte t c * new.length
  | [] => Nat.zero_le _
  | b :: t => by
    have ih := rep1_len c new t
    rw [rep1_cons, cnt1_cons]
    by_cases hb : (b == c) = true
    · rw [if_pos hb, if_pos hb, List.length_append, List.length_cons, Nat.add_mul, Nat.one_mul]; omega
    · rw [if_neg hb, if_neg hb, Nat.add_zero, List.length_cons, List.length_cons]; omega
section
open Go.Shelf Go.Lib
variable {P : Program} {ρ : Ren}
set_option maxHeartbeats 16000000 in
set_option maxRecDepth 1000000 in
theorem replace1 (L : Lays.n154 P ρ) (X : Builder.Extra P ρ) (s new : ByteArray) (c : UInt8) (w : World) (hs : s.size ≤ 1000000) (hn : new.size ≤ 1000) (hne : (⟨#[c]⟩ : ByteArray) ≠ new) :
    Calls P (ρ.f 154) #[.string s, .string ⟨#[c]⟩, .string new, .int .i64 (-1)] w fun e w' => e = .returned (.string ⟨(rep1 c new.data.toList s.data.toList).toArray⟩) ∧ Below w.heap.size w w' := by
  obtain ⟨old, hold⟩ : ∃ o : ByteArray, o = ⟨#[c]⟩ := ⟨_, rfl⟩
  have hC := Any.strings_Count_one { L with } s c w
  rw [← hold] at hC hne ⊢
  have ho1 : old.size = 1 := by rw [hold]; rfl
  obtain ⟨K, hK⟩ : ∃ K : Nat, Lib.countByte s.data.toList c = K := ⟨_, rfl⟩
  have hlenL : s.data.toList.length = s.size := (Lib.size_eq s).symm
  have hKs : K ≤ s.size := by rw [← hK, ← hlenL]; exact List.count_le_length
  have hmul : K * new.size ≤ K * 1000 := Nat.mul_le_mul_left K hn
  rw [hK] at hC
  have hbeq : (old.toList == new.toList) = false := (Lib.bytes_beq_false_iff _ new).2 hne
  have HO := Any.hidR hold
  clear hold hne
  have t72 := L.t72; have a72 := L.a72; have z72 := L.z72; have v72 := L.v72; have u72 := run_underlying L.t72
  have t70 := L.t70; have a70 := L.a70; have z70 := L.z70; have v70 := L.v70; have u70 := run_underlying L.t70
  have t37 := L.t37; have a37 := L.a37; have z37 := L.z37; have v37 := L.v37; have u37 := run_underlying L.t37
  have t3 := L.t3; have a3 := L.a3; have z3 := L.z3; have v3 := L.v3; have u3 := run_underlying L.t3
  have t9 := L.t9; have a9 := L.a9; have z9 := L.z9; have v9 := L.v9; have u9 := run_underlying L.t9
  have t4 := L.t4; have a4 := L.a4; have z4 := L.z4; have v4 := L.v4; have u4 := run_underlying L.t4
  have e138 : ∀ args w, (callFunc (ρ.f 138) args).run P w = .ok (.enter (ρ.f 138) args) w := enters_of L.f138 (by kernel_rfl) rfl
  by_cases hK0 : K = 0
  · subst hK0
    have hR : rep1 c new.data.toList s.data.toList = s.data.toList := rep1_no c _ _ hK
    clear hK hmul hKs
    go_enter L.f154, Body.n154_ntmps ρ
    go_wp2_with (first | (go_at_fn (ρ.f 138); refine hC.mono ?_; rintro e w' ⟨rfl, hw⟩; rw [hw]))
    go_ret
    rw [hR, Lib.mk_data]
    exact ⟨rfl, Below.refl _ _⟩
  · have hcz : ((K : Int) == 0) = false := beq_eq_false_iff_ne.2 (by omega)
    have mixed := L.mixed
    have hga := Lib.grow_arg s.size K new.size 1 (by omega) (by omega) (by omega)
    have e143 : ∀ args w, (callFunc (ρ.f 143) args).run P w = .ok (.enter (ρ.f 143) args) w := enters_of L.f143 (by kernel_rfl) rfl
    have e165 : ∀ args w, (callFunc (ρ.f 165) args).run P w = .ok (.enter (ρ.f 165) args) w := enters_of L.f165 (by kernel_rfl) rfl
    have e166 : ∀ args w, (callFunc (ρ.f 166) args).run P w = .ok (.enter (ρ.f 166) args) w := enters_of L.f166 (by kernel_rfl) rfl
    have e169 : ∀ args w, (callFunc (ρ.f 169) args).run P w = .ok (.enter (ρ.f 169) args) w := enters_of L.f169 (by kernel_rfl) rfl
    have HK := Any.hidR hK
    clear hK hK0
    go_enter L.f154, Body.n154_ntmps ρ
    go_wp2_with (first | (go_at_fn (ρ.f 138); refine hC.mono ?_; rintro e w' ⟨rfl, hw⟩; rw [hw]))
    clear hC
    have hgb : (0 : Int) ≤ (new.size : Int) ∧ (new.size : Int) ≤ 1000 := by omega
    have hga' : wrap64 ((s.size : Int) + wrap64 ((K : Int) * ((new.size : Int) - 1))) = ((s.size + K * new.size - K : Nat) : Int) := by
      rw [show ((1 : Nat) : Int) = 1 from rfl, IntWalk.wrap64_in ((new.size : Int) - 1) ⟨by omega, by omega⟩, Nat.mul_one] at hga
      exact hga
    rw [hga']
    clear hga hga' hgb
    refine (Any.Builder_Grow_fresh { L with } X w.heap.size w.heap.size _ _ (Nat.le_refl _) (heap_alloc_new w _) (by simp) (by omega)).mono ?_
    rintro e w1 ⟨rfl, hb0, hb1⟩
    have A0 := Any.hidR (Or.inr hb0 : Lib.IsBuilder (ρ.t 72) (ρ.t 5) w.heap.size w.heap.size (Lib.byteCells []) w1)
    have B0 := Any.hidR (((Below.refl w.heap.size w).alloc (Nat.le_refl _) _).trans hb1)
    have I0 := Any.hidR (List.nil_append (rep1 c new.data.toList s.data.toList))
    clear hb0 hb1
    go_wp2_with fail
    go_loopg [11, 53] K (fun left p11 p53 wx => ∃ (i from_ : Nat) (done : List UInt8), p53 = .int .i64 i ∧ p11 = .int .i64 from_ ∧ i + left = K ∧ from_ ≤ s.size ∧ done.length ≤ from_ + i * 1000 ∧
      Hid (Lib.countByte (s.data.toList.drop from_) c = left) ∧ Hid (Lib.IsBuilder (ρ.t 72) (ρ.t 5) w.heap.size w.heap.size (Lib.byteCells done) wx) ∧ Hid (Below w.heap.size w wx) ∧
      Hid (done ++ rep1 c new.data.toList (s.data.toList.drop from_) = rep1 c new.data.toList s.data.toList))
    case atStart => exact ⟨0, 0, [], rfl, rfl, by omega, Nat.zero_le _, Nat.zero_le _, HK, A0, B0, I0⟩
    case round =>
      obtain ⟨i, from_, done, rfl, rfl, q1, q2, q3, CT, BD, BW, RP⟩ := hrel
      have hBw : w.heap.size ≤ wr.heap.size := BW.out.size
      have c1 : (0 : Int) ≤ (from_ : Int) := by omega
      have c2 : (from_ : Int) ≤ (s.size : Int) := by omega
      cases gk with
      | zero =>
        have hiK : ¬ ((i : Int) < (K : Int)) := by omega
        go_wp2_with fail
        refine (Any.Builder_WriteString { L with } X w.heap.size w.heap.size _ _ wr BD.out (by rw [Lib.byteCells_length, ByteArray.size_extract]; omega) hBw).mono ?_
        rintro e w3 ⟨rfl, h3, hb3⟩
        have hR : done ++ s.data.toList.drop from_ = rep1 c new.data.toList s.data.toList := by
          have := RP.out
          rw [rep1_no c _ _ CT.out] at this
          exact this
        rw [Lib.strCells_eq, Lib.extract_to_end, ← Lib.byteCells_append, hR] at h3
        have A3 := Any.hidR (Or.inr h3 : Lib.IsBuilder (ρ.t 72) (ρ.t 5) w.heap.size w.heap.size _ w3)
        have B3 := Any.hidR (BW.out.trans hb3)
        have hBw3 : w.heap.size ≤ w3.heap.size := B3.out.size
        clear h3 hb3 hR
        go_wp2_with fail
        refine (Any.Builder_String_any { L with } X w.heap.size w.heap.size _ w3 A3.out hBw3).mono ?_
        rintro e w5 ⟨rfl, hb5⟩
        have B5 := Any.hidR (B3.out.trans hb5)
        clear hb5
        go_wp2
        go_ret
        exact ⟨rfl, B5.out⟩
      | succ left =>
        have hiK : (i : Int) < (K : Int) := by omega
        obtain ⟨j, j1, j2, j3, j4⟩ := rep1_hit c new.data.toList _ left CT.out
        rw [List.length_drop, hlenL] at j2
        have c3 : (from_ : Int) ≤ (from_ : Int) + (j : Int) := by omega
        have c4 : (from_ : Int) + (j : Int) ≤ (s.size : Int) := by omega
        have N3 := Any.hidR (show Lib.countByte (s.data.toList.drop (from_ + j + 1)) c = left by rw [List.drop_drop] at j3; exact j3)
        have N4 := Any.hidR (show (done ++ (s.data.toList.drop from_).take j ++ new.data.toList) ++ rep1 c new.data.toList (s.data.toList.drop (from_ + j + 1)) = rep1 c new.data.toList s.data.toList by
          rw [← RP.out, j4, List.drop_drop]
          simp only [List.append_assoc, Nat.add_assoc])
        have N5 := Any.hidR (show Lib.byteCells done ++ Lib.strCells (s.extract from_ (from_ + j)) ++ Lib.strCells new = Lib.byteCells (done ++ (s.data.toList.drop from_).take j ++ new.data.toList) by
          rw [Lib.strCells_eq, Lib.strCells_eq, Lib.extract_data, Nat.add_sub_cancel_left, ← Lib.byteCells_append, ← Lib.byteCells_append])
        have N6 : (done ++ (s.data.toList.drop from_).take j ++ new.data.toList).length ≤ from_ + j + 1 + (i + 1) * 1000 := by
          have e1 : ((s.data.toList.drop from_).take j).length ≤ j := by rw [List.length_take]; omega
          have e2 : new.data.toList.length ≤ 1000 := by rw [← Lib.size_eq]; exact hn
          rw [List.length_append, List.length_append]
          omega
        have J1 := Any.hidR (show ∀ w : World, Calls P (ρ.f 143) #[.string (s.extract from_ s.size), .string old] w fun e w' => e = .returned (.int .i64 j) ∧ w' = w from fun w => by
          rw [HO.out]
          have := Any.strings_Index_one (P := P) (ρ := ρ) { L with } (s.extract from_ s.size) c w
          rw [Lib.extract_to_end, j1] at this
          exact this)
        clear j1 j3 j4 RP CT
        go_wp2_with (first | (go_at_fn (ρ.f 143); refine (J1.out _).mono ?_; rintro e w' ⟨rfl, hw⟩; rw [hw]))
        refine (Any.Builder_WriteString { L with } X w.heap.size w.heap.size _ (s.extract from_ (from_ + j)) wr BD.out (by rw [Lib.byteCells_length, ByteArray.size_extract]; omega) hBw).mono ?_
        rintro e w3 ⟨rfl, h3, hb3⟩
        have hBw3 : w.heap.size ≤ w3.heap.size := Nat.le_trans hBw hb3.size
        have A3 := Any.hidR h3
        have B3 := Any.hidR hb3
        clear h3 hb3
        go_wp2_with fail
        refine (Any.Builder_WriteString { L with } X w.heap.size w.heap.size _ new w3 (Or.inr A3.out) (by rw [List.length_append, Lib.byteCells_length, Lib.strCells_length, ByteArray.size_extract]; omega) hBw3).mono ?_
        rintro e w4 ⟨rfl, h4, hb4⟩
        rw [N5.out] at h4
        have A4 := Any.hidR (Or.inr h4 : Lib.IsBuilder (ρ.t 72) (ρ.t 5) w.heap.size w.heap.size _ w4)
        have B4 := Any.hidR ((BW.out.trans B3.out).trans hb4)
        clear h4 hb4
        go_wp2
        go_roundg left
        case measure => omega
        case rel => exact ⟨i + 1, from_ + j + 1, _, by first | rfl | (simp; unfold wrap64; omega), by first | rfl | simp | (simp; unfold wrap64; omega), by omega, by omega, N6, N3, A4, B4, N4⟩
end
theorem fn4_kit {f : FuncId} {a b c d t : E.Ty} {ok : E.Den a → E.Den b → E.Den c → E.Den d → Bool} {F : E.Den a → E.Den b → E.Den c → E.Den d → E.Den t} (ex : ∃ fn, Tryz.prog.funcs[f]? = some fn ∧ (fn.name == "runtime.NumGoroutine") = false ∧ fn.body.isNone = false) (h : ∀ x y z u, ok x y z u = true → CallsOk E f [⟨a, x⟩, ⟨b, y⟩, ⟨c, z⟩, ⟨d, u⟩] [⟨t, F x y z u⟩]) : FnOk E f (fn4 a b c d t ok F) :=
  ⟨ex, fun args r hr => by
    unfold fn4 at hr
    split at hr
    · split at hr
      · rename_i x y z u hx hy hz hu
        injection hr with hr
        injection hr with h1 h2
        subst h2
        rw [castV_eq hx, castV_eq hy, castV_eq hz, castV_eq hu]
        exact h _ _ _ _ h1
      · cases hr
    · cases hr⟩
def okRe (s old new : List UInt8) (n : Int) : Bool := decide (s.length ≤ 1000000) && decide (old.length = 1) && decide (new.length ≤ 1000) && (n == -1) && !(old == new)
def reV (s old new : List UInt8) (_ : Int) : List UInt8 := rep1 (old.headD 0) new s
noncomputable def srepl_W : FnW E := fn4 (E := E) .str .str .str .int .str okRe reV
def srepl_id : FuncId := 189
theorem srepl_ok : FnOk E srepl_id srepl_W := fn4_kit ⟨Tryz.f189, by kernel_rfl, by kernel_rfl, by kernel_rfl⟩ fun s old new n hk => by
  simp only [okRe, Bool.and_eq_true, decide_eq_true_eq, beq_iff_eq, Bool.not_eq_true', beq_eq_false_iff_ne] at hk
  obtain ⟨⟨⟨⟨h1, h2⟩, h3⟩, rfl⟩, h5⟩ := hk
  obtain ⟨c, rfl⟩ : ∃ c, old = [c] := by
    match old, h2 with
    | [c], _ => exact ⟨c, rfl⟩
  intro w ro vals hargs hrolt
  match vals, hargs with
  | [v1, v2, v3, v4], ⟨q1, q2, q3, q4, _⟩ =>
    rw [str_of q1, str_of q2, str_of q3, int_of q4]
    refine (replace1 Tryz.lays154 Tryz.Builder_Extra_154 ⟨s.toArray⟩ ⟨new.toArray⟩ c w (by simpa [ByteArray.size] using h1) (by simpa [ByteArray.size] using h3) (fun e => h5 (by
      have := congrArg (fun b : ByteArray => b.data.toList) e
      simpa using this))).mono fun e w' he => ?_
    obtain ⟨he, hb⟩ := he
    refine ⟨_, he, hb, .inr ⟨rfl, .str (rep1 c new s), rfl, ?_⟩⟩
    exact .str _
noncomputable def srall_W : FnW E := fn3 (E := E) .str .str .str .str (fun s old new => okRe s old new (-1)) (fun s old new => reV s old new (-1))
def srall_id : FuncId := 167
noncomputable def srall_O : Oracle E := orac [(189, srepl_W)] [] [] []
noncomputable def srall_H : Hint E := Hint.mk [] [] [] [] []
noncomputable def srall_t (_G : Nat → ASt E → Option (List (TV E))) (x0 x1 x2 : List UInt8) : Option (List (TV E)) :=
  bif (okRe x0 x1 x2 (-1)) then some [⟨.str, (reV x0 x1 x2 (-1))⟩] else none
theorem srall_e (G : Nat → ASt E → Option (List (TV E))) (x0 : List UInt8) (x1 : List UInt8) (x2 : List UInt8) : runE srall_O srall_H G Tryz.f167 [⟨.str, x0⟩, ⟨.str, x1⟩, ⟨.str, x2⟩] = srall_t G x0 x1 x2 := by kernel_rfl
theorem srall_f : Tryz.prog.funcs[167]? = some Tryz.f167 := by kernel_rfl
theorem srall_n : (Tryz.f167.name == "runtime.NumGoroutine") = false := by kernel_rfl
theorem srall_b : Tryz.f167.body.isNone = false := by kernel_rfl
theorem srall_hO : OracleOk E srall_O := orac_ok (.cons srepl_ok .nil) .nil .nil .nil
theorem srall_ok_of (h : ∀ (x0 : List UInt8) (x1 : List UInt8) (x2 : List UInt8), (fun s old new => okRe s old new (-1)) x0 x1 x2 = true → srall_t (Gr E Tryz.f167 [⟨.str, (fun s old new => reV s old new (-1)) x0 x1 x2⟩]) x0 x1 x2 = some [⟨.str, (fun s old new => reV s old new (-1)) x0 x1 x2⟩]) : FnOk E srall_id srall_W := fn3_ok srall_hO mix srall_f srall_n srall_b (fun x0 x1 x2 hk => (srall_e _ x0 x1 x2).trans (h x0 x1 x2 hk))
theorem srall_ok : FnOk E srall_id srall_W := srall_ok_of fun s old new hk => by
  simp only [srall_t, hk, cond_true]
def okJn (l : List (List UInt8)) (sep : List UInt8) : Bool := decide (l.length ≤ 1000000) && decide ((Lib.join l sep).length ≤ 1000000000)
noncomputable def sjoin_W : FnW E := fn2 (E := E) .l_str .str .str okJn Lib.join
def sjoin_id : FuncId := 168
theorem sjoin_ok : FnOk E sjoin_id sjoin_W := fn2_kit ⟨Tryz.f168, by kernel_rfl, by kernel_rfl, by kernel_rfl⟩ fun l sep hk => by
  simp only [okJn, Bool.and_eq_true, decide_eq_true_eq] at hk
  obtain ⟨k1, k2⟩ := hk
  intro w ro vals hargs hrolt
  match vals, hargs with
  | [u, v], ⟨h1, h2, _⟩ =>
    rw [str_of h2]
    have hd : DRep E w ro u (.slice .str l) := by
      rcases h1 with ⟨ha, _⟩ | ⟨_, d, hd, hr⟩
      · cases ha
      · have hd : ([.slice .str l] : List (DVal E.Den)) = [d] := hd
        injection hd with hd _
        subst hd
        exact hr
    have none_ : ∀ (a : Option Addr) (c : Nat), l = [] → Calls Tryz.prog 168 [.slice a 0 c, .string ⟨sep.toArray⟩].toArray w fun e w' => ∃ v, e = .returned v ∧ Below w.heap.size w w' ∧ RetRep E w' (fun k o => ro k o ∨ (w.heap.size ≤ k ∧ k < w'.heap.size)) v [⟨.str, Lib.join l sep⟩] := fun a c hl => by
      subst hl
      refine (Tryz.strings_Join_none a c ⟨sep.toArray⟩ w).mono fun e w' he => ?_
      obtain ⟨he, rfl⟩ := he
      exact ⟨_, he, Below.refl _ _, .inr ⟨rfl, .str [], rfl, .str []⟩⟩
    obtain ⟨ad, cap, rfl, hs⟩ := hd.slice_inv
    rcases hs with rfl | ⟨g, off, rfl, hc, f, f1, f2⟩
    · exact none_ _ _ rfl
    · cases l with
      | nil => exact none_ _ _ rfl
      | cons x0 t =>
        have hcell : ∀ (i : Nat) x, (x0 :: t)[i]? = some x → ro g (off + i) ∧ w.cell? ⟨g, off + i, none⟩ = some (.string ⟨x.toArray⟩) := fun i x hx => by
          have g1 := f1 i x 0 (.str x) hx rfl
          have g2 := f2 i x 0 (.str x) hx rfl
          have e1 : f i 0 = .string ⟨x.toArray⟩ := by generalize f i 0 = u at g2; cases g2; rfl
          rw [show E.size .str = 1 from rfl, Nat.mul_one, Nat.add_zero, e1] at g1
          exact g1
        have hmap : (((x0 :: t).map fun x => (⟨x.toArray⟩ : ByteArray)).map (·.data.toList)) = x0 :: t := by
          rw [List.map_map]
          conv => rhs; rw [← List.map_id (x0 :: t)]
          exact List.map_congr_left fun y _ => by simp
        have hj := Tryz.strings_Join g off cap ((x0 :: t).map fun x => ⟨x.toArray⟩) ⟨sep.toArray⟩ w (fun j x hx => by
          rw [List.getElem?_map] at hx
          cases hq : (x0 :: t)[j]? with
          | none => rw [hq] at hx; cases hx
          | some y => rw [hq] at hx; cases hx; exact (hcell j y hq).2) (hrolt g _ (hcell 0 x0 rfl).1) (by rw [List.length_map]; omega) (by rw [List.length_map]; exact hc) (by rw [hmap]; show (Lib.join (x0 :: t) sep).length ≤ _; omega)
        rw [hmap, List.length_map] at hj
        refine hj.mono fun e w' he => ?_
        obtain ⟨he, hb⟩ := he
        exact ⟨_, he, hb, .inr ⟨rfl, .str (Lib.join (x0 :: t) sep), rfl, .str _⟩⟩
end Go.Proofs.YtgniedpgdjmfpaaGreatDoor.Rf
namespace Go.Proofs.YtgniedpgdjmfpaaGreatDoor.Rf
open Go Go.RowKit Go.Sort Go.Proofs.YtgniedpgdjmfpaaGreatDoor.Mir
theorem pdgt_d {c : UInt8} (h : isD c = true) : pdgt c = ((c.toNat - 48 : Nat) : Int) ∧ c.toNat - 48 ≤ 9 := by
  have := isD_iff.1 h
  unfold pdgt
  omega
theorem pdgt_bad (c : UInt8) : (bif decide (pdgt c < 0) then true else decide (9 < pdgt c)) = !(isD c) := by
  rw [← bad1_eq]
  have e1 : decide (pdgt c < 0) = decide ((c.toNat : Int) < 48) := decide_eq_decide.2 (by unfold pdgt; omega)
  have e2 : decide (9 < pdgt c) = decide (57 < (c.toNat : Int)) := decide_eq_decide.2 (by unfold pdgt; omega)
  rw [e1, e2]
theorem pwh_no (most : Int) : ∀ (s : List UInt8) (n : Int) (over : Bool), s.all isD = false → pwh most s n over = (0, 3)
  | [], _, _, h => by cases h
  | c :: t, n, over, h => by
    unfold pwh
    rw [pdgt_bad]
    cases hc : isD c with
    | false => rfl
    | true =>
      rw [List.all_cons, hc, Bool.true_and] at h
      simp only [Bool.not_true, cond_false]
      cases povr most (pdgt c) n over with
      | true => exact pwh_no most t _ _ h
      | false => exact pwh_no most t _ _ h
theorem pwh_over (most : Int) : ∀ (s : List UInt8) (n : Int), s.all isD = true → pwh most s n true = (0, 9)
  | [], _, _ => rfl
  | c :: t, n, h => by
    rw [List.all_cons, Bool.and_eq_true] at h
    unfold pwh
    rw [pdgt_bad, h.1]
    exact pwh_over most t n h.2
theorem pwh_eq (most : Int) (h0 : 0 ≤ most) : ∀ (s : List UInt8) (n : Nat), s.all isD = true → (n : Int) ≤ most → pwh most s n false = overP most (valN s n)
  | [], n, _, hn => by rw [valN, overP_ge (by omega)]; rfl
  | c :: t, n, h, hn => by
    rw [List.all_cons, Bool.and_eq_true] at h
    obtain ⟨e, hd⟩ := pdgt_d h.1
    unfold pwh valN
    rw [pdgt_bad, h.1]
    simp only [Bool.not_true, cond_false]
    rw [e]
    generalize hq : c.toNat - 48 = d at hd ⊢
    by_cases hm : ((n * 10 + d : Nat) : Int) ≤ most
    · have ho : povr most (d : Int) n false = false := by
        unfold povr
        rw [cond_false, Int.tdiv_eq_ediv_of_nonneg (by omega), dF (by omega), dF (by omega)]
        rfl
      rw [ho, Bool.not_false, cond_true, show (n : Int) * 10 + (d : Int) = ((n * 10 + d : Nat) : Int) by omega]
      exact pwh_eq most h0 t _ h.2 hm
    · have ho : povr most (d : Int) n false = true := by
        unfold povr
        rw [cond_false]
        by_cases hmd : most < (d : Int)
        · rw [dT hmd]; cases decide ((most - (d : Int)).tdiv 10 < (n : Int)) <;> rfl
        · rw [Int.tdiv_eq_ediv_of_nonneg (by omega), dT (by omega)]; rfl
      rw [ho, Bool.not_true, cond_false, pwh_over most t _ h.2]
      have := valN_ge t (n * 10 + d)
      rw [overP_lt (by omega)]
theorem pbadW_eq (s : List UInt8) : pbadW s = lead0 s := by
  unfold pbadW
  match s with
  | [] => rfl
  | [c] => rfl
  | c :: d :: t =>
    have e1 : (c :: d :: t == ([] : List UInt8)) = false := rfl
    rw [e1, cond_false, dT (show (1 : Int) < ((c :: d :: t).length : Int) by simp only [List.length_cons]; omega), cond_true]
    exact c48 c
theorem count_eq (s : List UInt8) {most : Int} (h0 : 0 ≤ most) : pwholeP s most = cntP s most := by
  unfold pwholeP cntP wholeB
  rw [pbadW_eq]
  cases lead0 s with
  | true => rfl
  | false =>
    simp only [cond_false, Bool.not_false, Bool.true_and]
    cases hd : s.all isD with
    | false => rw [pwh_no most s _ _ hd]; rfl
    | true => rw [show (0 : Int) = ((0 : Nat) : Int) from rfl, pwh_eq most h0 s 0 hd (by omega)]; rfl
theorem countV_eq (s : List UInt8) {most : Int} (h0 : 0 ≤ most) : pwholeV s most = cntV s most := congrArg Prod.fst (count_eq s h0)
theorem countE_eq (s : List UInt8) {most : Int} (h0 : 0 ≤ most) : pwholeE s most = cntE s most := congrArg Prod.snd (count_eq s h0)
end Go.Proofs.YtgniedpgdjmfpaaGreatDoor.Rf
namespace Go.Proofs.YtgniedpgdjmfpaaGreatDoor.Rf
open Go Go.RowKit Go.Sort Go.Proofs.YtgniedpgdjmfpaaGreatDoor.Mir
end Go.Proofs.YtgniedpgdjmfpaaGreatDoor.Rf
namespace Go.Proofs.YtgniedpgdjmfpaaGreatDoor.Rf
open Go Go.RowKit Go.Sort Go.Proofs.YtgniedpgdjmfpaaGreatDoor.Mir
theorem msT {n : Nat} (h : n ≤ 4611686018427387904) : decide (n ≤ maxStr) = true := dT h
theorem drop_at {s : List UInt8} {a : Nat} (h : a < s.length) : s.drop a = s.getD a 0 :: s.drop (a + 1) := by
  rw [List.drop_eq_getElem_cons h, List.getD, List.getElem?_eq_getElem h]; rfl
end Go.Proofs.YtgniedpgdjmfpaaGreatDoor.Rf
namespace Go.Proofs.YtgniedpgdjmfpaaGreatDoor.Rf
open Go Go.RowKit Go.Sort Go.Proofs.YtgniedpgdjmfpaaGreatDoor.Mir
def okSx (s : List UInt8) (_ : Int) : Bool := decide (s.length ≤ 1000000)
def sxV (s : List UInt8) (c : Int) : Int := Lib.indexByte s c.toNat.toUInt8
noncomputable def sixb_W : FnW E := fn2 (E := E) .str .byte .int okSx sxV
def sixb_id : FuncId := 120
theorem sixb_ok : FnOk E sixb_id sixb_W := fn2_kit ⟨Tryz.f120, by kernel_rfl, by kernel_rfl, by kernel_rfl⟩ fun s p hk => by
  intro w ro vals hargs hrolt
  match vals, hargs with
  | [u, v], ⟨h1, h2, _⟩ =>
    have e1 : u = .string ⟨s.toArray⟩ := by
      rcases h1 with ⟨ha, _⟩ | ⟨_, d, hd, hr⟩
      · cases ha
      · have hd : ([.str s] : List (DVal E.Den)) = [d] := hd
        injection hd with hd _
        subst hd
        cases hr; rfl
    have e2 : v = .int .u8 p := by
      rcases h2 with ⟨ha, _⟩ | ⟨_, d, hd, hr⟩
      · cases ha
      · have hd : ([.int .u8 p] : List (DVal E.Den)) = [d] := hd
        injection hd with hd _
        subst hd
        cases hr; rfl
    subst e1; subst e2
    refine (Tryz.strings_IndexByte ⟨s.toArray⟩ p w).mono fun e w' he => ?_
    obtain ⟨he, rfl⟩ := he
    refine ⟨_, he, Below.refl _ _, .inr ⟨rfl, .int .i64 (sxV s p), rfl, ?_⟩⟩
    exact .int .i64 (sxV s p)
def nm (w : List UInt8) : List Int := w.map fun b => ((b.toNat : Nat) : Int)
theorem mbT {n : Nat} {i : Decidable (n ≤ maxBytes)} (h : n ≤ 140737488355328) : @decide (n ≤ maxBytes) i = true := decide_eq_true h
end Go.Proofs.YtgniedpgdjmfpaaGreatDoor.Rf
