/- What the machine asks of the program's types. Printed by a program (facts.py). -/
import Derived.Test.YtcdgdiheoejjgaaVUse
import Derived.Test.YtcdgdiheoejjgaaProg
import Derived.KernelRfl
namespace Go.Proofs.Ytcdgdiheoejjgaa
theorem cellsOf_1 : Program.cellsOf Try.prog 1 = 1 := by kernel_rfl
theorem bytesOf_1 : Program.bytesOf Try.prog 1 = 8 := by kernel_rfl
theorem elemT_1 : VM.elemT Try.prog 1 = none := by kernel_rfl
theorem strT_1 : VM.strT Try.prog 1 = false := by kernel_rfl
theorem boolT_1 : VM.boolT Try.prog 1 = false := by kernel_rfl
theorem intT_1 : VM.intT Try.prog 1 = none := by kernel_rfl
theorem hasT_1 : VM.hasT Try.prog 1 = true := by kernel_rfl
theorem aggT_1 : VM.aggT Try.prog 1 = some false := by kernel_rfl
theorem cellsOf_2 : Program.cellsOf Try.prog 2 = 1 := by kernel_rfl
theorem bytesOf_2 : Program.bytesOf Try.prog 2 = 8 := by kernel_rfl
theorem elemT_2 : VM.elemT Try.prog 2 = none := by kernel_rfl
theorem strT_2 : VM.strT Try.prog 2 = false := by kernel_rfl
theorem boolT_2 : VM.boolT Try.prog 2 = false := by kernel_rfl
theorem intT_2 : VM.intT Try.prog 2 = some .i64 := by kernel_rfl
theorem hasT_2 : VM.hasT Try.prog 2 = true := by kernel_rfl
theorem aggT_2 : VM.aggT Try.prog 2 = some false := by kernel_rfl
theorem zeroT_2 : VM.zeroT Try.prog 2 = some [.int .i64 0] := by kernel_rfl
theorem cellsOf_3 : Program.cellsOf Try.prog 3 = 1 := by kernel_rfl
theorem bytesOf_3 : Program.bytesOf Try.prog 3 = 8 := by kernel_rfl
theorem elemT_3 : VM.elemT Try.prog 3 = none := by kernel_rfl
theorem strT_3 : VM.strT Try.prog 3 = false := by kernel_rfl
theorem boolT_3 : VM.boolT Try.prog 3 = false := by kernel_rfl
theorem intT_3 : VM.intT Try.prog 3 = some .i64 := by kernel_rfl
theorem hasT_3 : VM.hasT Try.prog 3 = true := by kernel_rfl
theorem aggT_3 : VM.aggT Try.prog 3 = some false := by kernel_rfl
theorem zeroT_3 : VM.zeroT Try.prog 3 = some [.int .i64 0] := by kernel_rfl
theorem cellsOf_4 : Program.cellsOf Try.prog 4 = 1 := by kernel_rfl
theorem bytesOf_4 : Program.bytesOf Try.prog 4 = 1 := by kernel_rfl
theorem elemT_4 : VM.elemT Try.prog 4 = none := by kernel_rfl
theorem strT_4 : VM.strT Try.prog 4 = false := by kernel_rfl
theorem boolT_4 : VM.boolT Try.prog 4 = true := by kernel_rfl
theorem intT_4 : VM.intT Try.prog 4 = none := by kernel_rfl
theorem hasT_4 : VM.hasT Try.prog 4 = true := by kernel_rfl
theorem aggT_4 : VM.aggT Try.prog 4 = some false := by kernel_rfl
theorem zeroT_4 : VM.zeroT Try.prog 4 = some [.bool false] := by kernel_rfl
theorem cellsOf_5 : Program.cellsOf Try.prog 5 = 1 := by kernel_rfl
theorem bytesOf_5 : Program.bytesOf Try.prog 5 = 1 := by kernel_rfl
theorem elemT_5 : VM.elemT Try.prog 5 = none := by kernel_rfl
theorem strT_5 : VM.strT Try.prog 5 = false := by kernel_rfl
theorem boolT_5 : VM.boolT Try.prog 5 = false := by kernel_rfl
theorem intT_5 : VM.intT Try.prog 5 = some .u8 := by kernel_rfl
theorem hasT_5 : VM.hasT Try.prog 5 = true := by kernel_rfl
theorem aggT_5 : VM.aggT Try.prog 5 = some false := by kernel_rfl
theorem zeroT_5 : VM.zeroT Try.prog 5 = some [.int .u8 0] := by kernel_rfl
theorem cellsOf_6 : Program.cellsOf Try.prog 6 = 1 := by kernel_rfl
theorem bytesOf_6 : Program.bytesOf Try.prog 6 = 1 := by kernel_rfl
theorem elemT_6 : VM.elemT Try.prog 6 = none := by kernel_rfl
theorem strT_6 : VM.strT Try.prog 6 = false := by kernel_rfl
theorem boolT_6 : VM.boolT Try.prog 6 = false := by kernel_rfl
theorem intT_6 : VM.intT Try.prog 6 = some .u8 := by kernel_rfl
theorem hasT_6 : VM.hasT Try.prog 6 = true := by kernel_rfl
theorem aggT_6 : VM.aggT Try.prog 6 = some false := by kernel_rfl
theorem zeroT_6 : VM.zeroT Try.prog 6 = some [.int .u8 0] := by kernel_rfl
theorem cellsOf_7 : Program.cellsOf Try.prog 7 = 4 := by kernel_rfl
theorem bytesOf_7 : Program.bytesOf Try.prog 7 = 24 := by kernel_rfl
theorem elemT_7 : VM.elemT Try.prog 7 = none := by kernel_rfl
theorem strT_7 : VM.strT Try.prog 7 = false := by kernel_rfl
theorem boolT_7 : VM.boolT Try.prog 7 = false := by kernel_rfl
theorem intT_7 : VM.intT Try.prog 7 = none := by kernel_rfl
theorem hasT_7 : VM.hasT Try.prog 7 = true := by kernel_rfl
theorem aggT_7 : VM.aggT Try.prog 7 = some true := by kernel_rfl
theorem zeroT_7 : VM.zeroT Try.prog 7 = some [.int .i64 0, .int .i64 0, .bool false, .int .u8 0] := by kernel_rfl
theorem fieldT_7_0 : VM.fieldT Try.prog 7 0 = some (0, 2) := by kernel_rfl
theorem fieldT_7_1 : VM.fieldT Try.prog 7 1 = some (1, 3) := by kernel_rfl
theorem fieldT_7_2 : VM.fieldT Try.prog 7 2 = some (2, 4) := by kernel_rfl
theorem fieldT_7_3 : VM.fieldT Try.prog 7 3 = some (3, 6) := by kernel_rfl
theorem placesT_7 : VM.placesT Try.prog 7 = some [(0, 1, 2), (1, 1, 3), (2, 1, 4), (3, 1, 6)] := by kernel_rfl
theorem flatT_7 : VM.flatT Try.prog 7 = some [.int .i64, .int .i64, .bool, .int .u8] := by kernel_rfl
theorem cellsOf_8 : Program.cellsOf Try.prog 8 = 4 := by kernel_rfl
theorem bytesOf_8 : Program.bytesOf Try.prog 8 = 24 := by kernel_rfl
theorem elemT_8 : VM.elemT Try.prog 8 = none := by kernel_rfl
theorem strT_8 : VM.strT Try.prog 8 = false := by kernel_rfl
theorem boolT_8 : VM.boolT Try.prog 8 = false := by kernel_rfl
theorem intT_8 : VM.intT Try.prog 8 = none := by kernel_rfl
theorem hasT_8 : VM.hasT Try.prog 8 = true := by kernel_rfl
theorem aggT_8 : VM.aggT Try.prog 8 = some true := by kernel_rfl
theorem zeroT_8 : VM.zeroT Try.prog 8 = some [.int .i64 0, .int .i64 0, .bool false, .int .u8 0] := by kernel_rfl
theorem fieldT_8_0 : VM.fieldT Try.prog 8 0 = some (0, 2) := by kernel_rfl
theorem fieldT_8_1 : VM.fieldT Try.prog 8 1 = some (1, 3) := by kernel_rfl
theorem fieldT_8_2 : VM.fieldT Try.prog 8 2 = some (2, 4) := by kernel_rfl
theorem fieldT_8_3 : VM.fieldT Try.prog 8 3 = some (3, 6) := by kernel_rfl
theorem placesT_8 : VM.placesT Try.prog 8 = some [(0, 1, 2), (1, 1, 3), (2, 1, 4), (3, 1, 6)] := by kernel_rfl
theorem flatT_8 : VM.flatT Try.prog 8 = some [.int .i64, .int .i64, .bool, .int .u8] := by kernel_rfl
theorem cellsOf_9 : Program.cellsOf Try.prog 9 = 1 := by kernel_rfl
theorem bytesOf_9 : Program.bytesOf Try.prog 9 = 16 := by kernel_rfl
theorem elemT_9 : VM.elemT Try.prog 9 = none := by kernel_rfl
theorem strT_9 : VM.strT Try.prog 9 = true := by kernel_rfl
theorem boolT_9 : VM.boolT Try.prog 9 = false := by kernel_rfl
theorem intT_9 : VM.intT Try.prog 9 = none := by kernel_rfl
theorem hasT_9 : VM.hasT Try.prog 9 = true := by kernel_rfl
theorem aggT_9 : VM.aggT Try.prog 9 = some false := by kernel_rfl
theorem zeroT_9 : VM.zeroT Try.prog 9 = some [.str ⟨#[]⟩] := by kernel_rfl
theorem cellsOf_10 : Program.cellsOf Try.prog 10 = 1 := by kernel_rfl
theorem bytesOf_10 : Program.bytesOf Try.prog 10 = 16 := by kernel_rfl
theorem elemT_10 : VM.elemT Try.prog 10 = none := by kernel_rfl
theorem strT_10 : VM.strT Try.prog 10 = true := by kernel_rfl
theorem boolT_10 : VM.boolT Try.prog 10 = false := by kernel_rfl
theorem intT_10 : VM.intT Try.prog 10 = none := by kernel_rfl
theorem hasT_10 : VM.hasT Try.prog 10 = true := by kernel_rfl
theorem aggT_10 : VM.aggT Try.prog 10 = some false := by kernel_rfl
theorem zeroT_10 : VM.zeroT Try.prog 10 = some [.str ⟨#[]⟩] := by kernel_rfl
theorem cellsOf_11 : Program.cellsOf Try.prog 11 = 1 := by kernel_rfl
theorem bytesOf_11 : Program.bytesOf Try.prog 11 = 16 := by kernel_rfl
theorem elemT_11 : VM.elemT Try.prog 11 = none := by kernel_rfl
theorem strT_11 : VM.strT Try.prog 11 = true := by kernel_rfl
theorem boolT_11 : VM.boolT Try.prog 11 = false := by kernel_rfl
theorem intT_11 : VM.intT Try.prog 11 = none := by kernel_rfl
theorem hasT_11 : VM.hasT Try.prog 11 = true := by kernel_rfl
theorem aggT_11 : VM.aggT Try.prog 11 = some false := by kernel_rfl
theorem zeroT_11 : VM.zeroT Try.prog 11 = some [.str ⟨#[]⟩] := by kernel_rfl
theorem cellsOf_12 : Program.cellsOf Try.prog 12 = 1 := by kernel_rfl
theorem bytesOf_12 : Program.bytesOf Try.prog 12 = 8 := by kernel_rfl
theorem elemT_12 : VM.elemT Try.prog 12 = none := by kernel_rfl
theorem strT_12 : VM.strT Try.prog 12 = false := by kernel_rfl
theorem boolT_12 : VM.boolT Try.prog 12 = false := by kernel_rfl
theorem intT_12 : VM.intT Try.prog 12 = some .u64 := by kernel_rfl
theorem hasT_12 : VM.hasT Try.prog 12 = true := by kernel_rfl
theorem aggT_12 : VM.aggT Try.prog 12 = some false := by kernel_rfl
theorem zeroT_12 : VM.zeroT Try.prog 12 = some [.int .u64 0] := by kernel_rfl
theorem cellsOf_18 : Program.cellsOf Try.prog 18 = 1 := by kernel_rfl
theorem bytesOf_18 : Program.bytesOf Try.prog 18 = 8 := by kernel_rfl
theorem elemT_18 : VM.elemT Try.prog 18 = none := by kernel_rfl
theorem strT_18 : VM.strT Try.prog 18 = false := by kernel_rfl
theorem boolT_18 : VM.boolT Try.prog 18 = false := by kernel_rfl
theorem intT_18 : VM.intT Try.prog 18 = none := by kernel_rfl
theorem hasT_18 : VM.hasT Try.prog 18 = true := by kernel_rfl
theorem aggT_18 : VM.aggT Try.prog 18 = some true := by kernel_rfl
theorem fieldT_18_0 : VM.fieldT Try.prog 18 0 = some (0, 17) := by kernel_rfl
theorem placesT_18 : VM.placesT Try.prog 18 = some [(0, 1, 17)] := by kernel_rfl
theorem cellsOf_19 : Program.cellsOf Try.prog 19 = 1 := by kernel_rfl
theorem bytesOf_19 : Program.bytesOf Try.prog 19 = 8 := by kernel_rfl
theorem elemT_19 : VM.elemT Try.prog 19 = none := by kernel_rfl
theorem strT_19 : VM.strT Try.prog 19 = false := by kernel_rfl
theorem boolT_19 : VM.boolT Try.prog 19 = false := by kernel_rfl
theorem intT_19 : VM.intT Try.prog 19 = none := by kernel_rfl
theorem hasT_19 : VM.hasT Try.prog 19 = true := by kernel_rfl
theorem aggT_19 : VM.aggT Try.prog 19 = some true := by kernel_rfl
theorem fieldT_19_0 : VM.fieldT Try.prog 19 0 = some (0, 17) := by kernel_rfl
theorem placesT_19 : VM.placesT Try.prog 19 = some [(0, 1, 17)] := by kernel_rfl
theorem cellsOf_21 : Program.cellsOf Try.prog 21 = 1 := by kernel_rfl
theorem bytesOf_21 : Program.bytesOf Try.prog 21 = 4 := by kernel_rfl
theorem elemT_21 : VM.elemT Try.prog 21 = none := by kernel_rfl
theorem strT_21 : VM.strT Try.prog 21 = false := by kernel_rfl
theorem boolT_21 : VM.boolT Try.prog 21 = false := by kernel_rfl
theorem intT_21 : VM.intT Try.prog 21 = some .i32 := by kernel_rfl
theorem hasT_21 : VM.hasT Try.prog 21 = true := by kernel_rfl
theorem aggT_21 : VM.aggT Try.prog 21 = some false := by kernel_rfl
theorem zeroT_21 : VM.zeroT Try.prog 21 = some [.int .i32 0] := by kernel_rfl
theorem cellsOf_22 : Program.cellsOf Try.prog 22 = 1 := by kernel_rfl
theorem bytesOf_22 : Program.bytesOf Try.prog 22 = 8 := by kernel_rfl
theorem elemT_22 : VM.elemT Try.prog 22 = none := by kernel_rfl
theorem strT_22 : VM.strT Try.prog 22 = false := by kernel_rfl
theorem boolT_22 : VM.boolT Try.prog 22 = false := by kernel_rfl
theorem intT_22 : VM.intT Try.prog 22 = none := by kernel_rfl
theorem hasT_22 : VM.hasT Try.prog 22 = true := by kernel_rfl
theorem aggT_22 : VM.aggT Try.prog 22 = some false := by kernel_rfl
theorem cellsOf_23 : Program.cellsOf Try.prog 23 = 1 := by kernel_rfl
theorem bytesOf_23 : Program.bytesOf Try.prog 23 = 8 := by kernel_rfl
theorem elemT_23 : VM.elemT Try.prog 23 = none := by kernel_rfl
theorem strT_23 : VM.strT Try.prog 23 = false := by kernel_rfl
theorem boolT_23 : VM.boolT Try.prog 23 = false := by kernel_rfl
theorem intT_23 : VM.intT Try.prog 23 = none := by kernel_rfl
theorem hasT_23 : VM.hasT Try.prog 23 = true := by kernel_rfl
theorem aggT_23 : VM.aggT Try.prog 23 = some false := by kernel_rfl
theorem cellsOf_24 : Program.cellsOf Try.prog 24 = 1 := by kernel_rfl
theorem bytesOf_24 : Program.bytesOf Try.prog 24 = 24 := by kernel_rfl
theorem elemT_24 : VM.elemT Try.prog 24 = some 100 := by kernel_rfl
theorem strT_24 : VM.strT Try.prog 24 = false := by kernel_rfl
theorem boolT_24 : VM.boolT Try.prog 24 = false := by kernel_rfl
theorem intT_24 : VM.intT Try.prog 24 = none := by kernel_rfl
theorem hasT_24 : VM.hasT Try.prog 24 = true := by kernel_rfl
theorem aggT_24 : VM.aggT Try.prog 24 = some false := by kernel_rfl
theorem zeroT_24 : VM.zeroT Try.prog 24 = some [.list true 3 []] := by kernel_rfl
theorem cellsOf_25 : Program.cellsOf Try.prog 25 = 1 := by kernel_rfl
theorem bytesOf_25 : Program.bytesOf Try.prog 25 = 8 := by kernel_rfl
theorem elemT_25 : VM.elemT Try.prog 25 = none := by kernel_rfl
theorem strT_25 : VM.strT Try.prog 25 = false := by kernel_rfl
theorem boolT_25 : VM.boolT Try.prog 25 = false := by kernel_rfl
theorem intT_25 : VM.intT Try.prog 25 = none := by kernel_rfl
theorem hasT_25 : VM.hasT Try.prog 25 = true := by kernel_rfl
theorem aggT_25 : VM.aggT Try.prog 25 = some false := by kernel_rfl
theorem cellsOf_26 : Program.cellsOf Try.prog 26 = 1 := by kernel_rfl
theorem bytesOf_26 : Program.bytesOf Try.prog 26 = 8 := by kernel_rfl
theorem elemT_26 : VM.elemT Try.prog 26 = none := by kernel_rfl
theorem strT_26 : VM.strT Try.prog 26 = false := by kernel_rfl
theorem boolT_26 : VM.boolT Try.prog 26 = false := by kernel_rfl
theorem intT_26 : VM.intT Try.prog 26 = none := by kernel_rfl
theorem hasT_26 : VM.hasT Try.prog 26 = true := by kernel_rfl
theorem aggT_26 : VM.aggT Try.prog 26 = some false := by kernel_rfl
theorem cellsOf_27 : Program.cellsOf Try.prog 27 = 1 := by kernel_rfl
theorem bytesOf_27 : Program.bytesOf Try.prog 27 = 24 := by kernel_rfl
theorem elemT_27 : VM.elemT Try.prog 27 = some 101 := by kernel_rfl
theorem strT_27 : VM.strT Try.prog 27 = false := by kernel_rfl
theorem boolT_27 : VM.boolT Try.prog 27 = false := by kernel_rfl
theorem intT_27 : VM.intT Try.prog 27 = none := by kernel_rfl
theorem hasT_27 : VM.hasT Try.prog 27 = true := by kernel_rfl
theorem aggT_27 : VM.aggT Try.prog 27 = some false := by kernel_rfl
theorem zeroT_27 : VM.zeroT Try.prog 27 = some [.list true 3 []] := by kernel_rfl
theorem cellsOf_28 : Program.cellsOf Try.prog 28 = 1 := by kernel_rfl
theorem bytesOf_28 : Program.bytesOf Try.prog 28 = 8 := by kernel_rfl
theorem elemT_28 : VM.elemT Try.prog 28 = none := by kernel_rfl
theorem strT_28 : VM.strT Try.prog 28 = false := by kernel_rfl
theorem boolT_28 : VM.boolT Try.prog 28 = false := by kernel_rfl
theorem intT_28 : VM.intT Try.prog 28 = none := by kernel_rfl
theorem hasT_28 : VM.hasT Try.prog 28 = true := by kernel_rfl
theorem aggT_28 : VM.aggT Try.prog 28 = some false := by kernel_rfl
theorem cellsOf_29 : Program.cellsOf Try.prog 29 = 1 := by kernel_rfl
theorem bytesOf_29 : Program.bytesOf Try.prog 29 = 8 := by kernel_rfl
theorem elemT_29 : VM.elemT Try.prog 29 = none := by kernel_rfl
theorem strT_29 : VM.strT Try.prog 29 = false := by kernel_rfl
theorem boolT_29 : VM.boolT Try.prog 29 = false := by kernel_rfl
theorem intT_29 : VM.intT Try.prog 29 = none := by kernel_rfl
theorem hasT_29 : VM.hasT Try.prog 29 = true := by kernel_rfl
theorem aggT_29 : VM.aggT Try.prog 29 = some false := by kernel_rfl
theorem cellsOf_30 : Program.cellsOf Try.prog 30 = 1 := by kernel_rfl
theorem bytesOf_30 : Program.bytesOf Try.prog 30 = 8 := by kernel_rfl
theorem elemT_30 : VM.elemT Try.prog 30 = none := by kernel_rfl
theorem strT_30 : VM.strT Try.prog 30 = false := by kernel_rfl
theorem boolT_30 : VM.boolT Try.prog 30 = false := by kernel_rfl
theorem intT_30 : VM.intT Try.prog 30 = none := by kernel_rfl
theorem hasT_30 : VM.hasT Try.prog 30 = true := by kernel_rfl
theorem aggT_30 : VM.aggT Try.prog 30 = some false := by kernel_rfl
theorem cellsOf_31 : Program.cellsOf Try.prog 31 = 1 := by kernel_rfl
theorem bytesOf_31 : Program.bytesOf Try.prog 31 = 8 := by kernel_rfl
theorem elemT_31 : VM.elemT Try.prog 31 = none := by kernel_rfl
theorem strT_31 : VM.strT Try.prog 31 = false := by kernel_rfl
theorem boolT_31 : VM.boolT Try.prog 31 = false := by kernel_rfl
theorem intT_31 : VM.intT Try.prog 31 = none := by kernel_rfl
theorem hasT_31 : VM.hasT Try.prog 31 = true := by kernel_rfl
theorem aggT_31 : VM.aggT Try.prog 31 = some false := by kernel_rfl
theorem cellsOf_32 : Program.cellsOf Try.prog 32 = 1 := by kernel_rfl
theorem bytesOf_32 : Program.bytesOf Try.prog 32 = 8 := by kernel_rfl
theorem elemT_32 : VM.elemT Try.prog 32 = none := by kernel_rfl
theorem strT_32 : VM.strT Try.prog 32 = false := by kernel_rfl
theorem boolT_32 : VM.boolT Try.prog 32 = false := by kernel_rfl
theorem intT_32 : VM.intT Try.prog 32 = none := by kernel_rfl
theorem hasT_32 : VM.hasT Try.prog 32 = true := by kernel_rfl
theorem aggT_32 : VM.aggT Try.prog 32 = some false := by kernel_rfl
theorem cellsOf_33 : Program.cellsOf Try.prog 33 = 1 := by kernel_rfl
theorem bytesOf_33 : Program.bytesOf Try.prog 33 = 8 := by kernel_rfl
theorem elemT_33 : VM.elemT Try.prog 33 = none := by kernel_rfl
theorem strT_33 : VM.strT Try.prog 33 = false := by kernel_rfl
theorem boolT_33 : VM.boolT Try.prog 33 = false := by kernel_rfl
theorem intT_33 : VM.intT Try.prog 33 = none := by kernel_rfl
theorem hasT_33 : VM.hasT Try.prog 33 = true := by kernel_rfl
theorem aggT_33 : VM.aggT Try.prog 33 = some false := by kernel_rfl
theorem cellsOf_34 : Program.cellsOf Try.prog 34 = 1 := by kernel_rfl
theorem bytesOf_34 : Program.bytesOf Try.prog 34 = 24 := by kernel_rfl
theorem elemT_34 : VM.elemT Try.prog 34 = some 110 := by kernel_rfl
theorem strT_34 : VM.strT Try.prog 34 = false := by kernel_rfl
theorem boolT_34 : VM.boolT Try.prog 34 = false := by kernel_rfl
theorem intT_34 : VM.intT Try.prog 34 = none := by kernel_rfl
theorem hasT_34 : VM.hasT Try.prog 34 = true := by kernel_rfl
theorem aggT_34 : VM.aggT Try.prog 34 = some false := by kernel_rfl
theorem zeroT_34 : VM.zeroT Try.prog 34 = some [.list true 6 []] := by kernel_rfl
theorem cellsOf_35 : Program.cellsOf Try.prog 35 = 1 := by kernel_rfl
theorem bytesOf_35 : Program.bytesOf Try.prog 35 = 8 := by kernel_rfl
theorem elemT_35 : VM.elemT Try.prog 35 = none := by kernel_rfl
theorem strT_35 : VM.strT Try.prog 35 = false := by kernel_rfl
theorem boolT_35 : VM.boolT Try.prog 35 = false := by kernel_rfl
theorem intT_35 : VM.intT Try.prog 35 = none := by kernel_rfl
theorem hasT_35 : VM.hasT Try.prog 35 = true := by kernel_rfl
theorem aggT_35 : VM.aggT Try.prog 35 = some false := by kernel_rfl
theorem cellsOf_36 : Program.cellsOf Try.prog 36 = 1 := by kernel_rfl
theorem bytesOf_36 : Program.bytesOf Try.prog 36 = 8 := by kernel_rfl
theorem elemT_36 : VM.elemT Try.prog 36 = none := by kernel_rfl
theorem strT_36 : VM.strT Try.prog 36 = false := by kernel_rfl
theorem boolT_36 : VM.boolT Try.prog 36 = false := by kernel_rfl
theorem intT_36 : VM.intT Try.prog 36 = none := by kernel_rfl
theorem hasT_36 : VM.hasT Try.prog 36 = true := by kernel_rfl
theorem aggT_36 : VM.aggT Try.prog 36 = some false := by kernel_rfl
theorem cellsOf_37 : Program.cellsOf Try.prog 37 = 1 := by kernel_rfl
theorem bytesOf_37 : Program.bytesOf Try.prog 37 = 24 := by kernel_rfl
theorem elemT_37 : VM.elemT Try.prog 37 = some 112 := by kernel_rfl
theorem strT_37 : VM.strT Try.prog 37 = false := by kernel_rfl
theorem boolT_37 : VM.boolT Try.prog 37 = false := by kernel_rfl
theorem intT_37 : VM.intT Try.prog 37 = none := by kernel_rfl
theorem hasT_37 : VM.hasT Try.prog 37 = true := by kernel_rfl
theorem aggT_37 : VM.aggT Try.prog 37 = some false := by kernel_rfl
theorem zeroT_37 : VM.zeroT Try.prog 37 = some [.list true 6 []] := by kernel_rfl
theorem cellsOf_38 : Program.cellsOf Try.prog 38 = 1 := by kernel_rfl
theorem bytesOf_38 : Program.bytesOf Try.prog 38 = 8 := by kernel_rfl
theorem elemT_38 : VM.elemT Try.prog 38 = none := by kernel_rfl
theorem strT_38 : VM.strT Try.prog 38 = false := by kernel_rfl
theorem boolT_38 : VM.boolT Try.prog 38 = false := by kernel_rfl
theorem intT_38 : VM.intT Try.prog 38 = none := by kernel_rfl
theorem hasT_38 : VM.hasT Try.prog 38 = true := by kernel_rfl
theorem aggT_38 : VM.aggT Try.prog 38 = some false := by kernel_rfl
theorem cellsOf_39 : Program.cellsOf Try.prog 39 = 1 := by kernel_rfl
theorem bytesOf_39 : Program.bytesOf Try.prog 39 = 8 := by kernel_rfl
theorem elemT_39 : VM.elemT Try.prog 39 = none := by kernel_rfl
theorem strT_39 : VM.strT Try.prog 39 = false := by kernel_rfl
theorem boolT_39 : VM.boolT Try.prog 39 = false := by kernel_rfl
theorem intT_39 : VM.intT Try.prog 39 = none := by kernel_rfl
theorem hasT_39 : VM.hasT Try.prog 39 = true := by kernel_rfl
theorem aggT_39 : VM.aggT Try.prog 39 = some false := by kernel_rfl
theorem cellsOf_40 : Program.cellsOf Try.prog 40 = 1 := by kernel_rfl
theorem bytesOf_40 : Program.bytesOf Try.prog 40 = 8 := by kernel_rfl
theorem elemT_40 : VM.elemT Try.prog 40 = none := by kernel_rfl
theorem strT_40 : VM.strT Try.prog 40 = false := by kernel_rfl
theorem boolT_40 : VM.boolT Try.prog 40 = false := by kernel_rfl
theorem intT_40 : VM.intT Try.prog 40 = none := by kernel_rfl
theorem hasT_40 : VM.hasT Try.prog 40 = true := by kernel_rfl
theorem aggT_40 : VM.aggT Try.prog 40 = some false := by kernel_rfl
theorem cellsOf_41 : Program.cellsOf Try.prog 41 = 1 := by kernel_rfl
theorem bytesOf_41 : Program.bytesOf Try.prog 41 = 24 := by kernel_rfl
theorem elemT_41 : VM.elemT Try.prog 41 = some 9 := by kernel_rfl
theorem strT_41 : VM.strT Try.prog 41 = false := by kernel_rfl
theorem boolT_41 : VM.boolT Try.prog 41 = false := by kernel_rfl
theorem intT_41 : VM.intT Try.prog 41 = none := by kernel_rfl
theorem hasT_41 : VM.hasT Try.prog 41 = true := by kernel_rfl
theorem aggT_41 : VM.aggT Try.prog 41 = some false := by kernel_rfl
theorem zeroT_41 : VM.zeroT Try.prog 41 = some [.list true 1 []] := by kernel_rfl
theorem cellsOf_42 : Program.cellsOf Try.prog 42 = 1 := by kernel_rfl
theorem bytesOf_42 : Program.bytesOf Try.prog 42 = 24 := by kernel_rfl
theorem elemT_42 : VM.elemT Try.prog 42 = some 120 := by kernel_rfl
theorem strT_42 : VM.strT Try.prog 42 = false := by kernel_rfl
theorem boolT_42 : VM.boolT Try.prog 42 = false := by kernel_rfl
theorem intT_42 : VM.intT Try.prog 42 = none := by kernel_rfl
theorem hasT_42 : VM.hasT Try.prog 42 = true := by kernel_rfl
theorem aggT_42 : VM.aggT Try.prog 42 = some false := by kernel_rfl
theorem zeroT_42 : VM.zeroT Try.prog 42 = some [.list true 2 []] := by kernel_rfl
theorem cellsOf_43 : Program.cellsOf Try.prog 43 = 1 := by kernel_rfl
theorem bytesOf_43 : Program.bytesOf Try.prog 43 = 8 := by kernel_rfl
theorem elemT_43 : VM.elemT Try.prog 43 = none := by kernel_rfl
theorem strT_43 : VM.strT Try.prog 43 = false := by kernel_rfl
theorem boolT_43 : VM.boolT Try.prog 43 = false := by kernel_rfl
theorem intT_43 : VM.intT Try.prog 43 = none := by kernel_rfl
theorem hasT_43 : VM.hasT Try.prog 43 = true := by kernel_rfl
theorem aggT_43 : VM.aggT Try.prog 43 = some false := by kernel_rfl
theorem cellsOf_44 : Program.cellsOf Try.prog 44 = 1 := by kernel_rfl
theorem bytesOf_44 : Program.bytesOf Try.prog 44 = 8 := by kernel_rfl
theorem elemT_44 : VM.elemT Try.prog 44 = none := by kernel_rfl
theorem strT_44 : VM.strT Try.prog 44 = false := by kernel_rfl
theorem boolT_44 : VM.boolT Try.prog 44 = false := by kernel_rfl
theorem intT_44 : VM.intT Try.prog 44 = none := by kernel_rfl
theorem hasT_44 : VM.hasT Try.prog 44 = true := by kernel_rfl
theorem aggT_44 : VM.aggT Try.prog 44 = some false := by kernel_rfl
theorem cellsOf_45 : Program.cellsOf Try.prog 45 = 1 := by kernel_rfl
theorem bytesOf_45 : Program.bytesOf Try.prog 45 = 8 := by kernel_rfl
theorem elemT_45 : VM.elemT Try.prog 45 = none := by kernel_rfl
theorem strT_45 : VM.strT Try.prog 45 = false := by kernel_rfl
theorem boolT_45 : VM.boolT Try.prog 45 = false := by kernel_rfl
theorem intT_45 : VM.intT Try.prog 45 = none := by kernel_rfl
theorem hasT_45 : VM.hasT Try.prog 45 = true := by kernel_rfl
theorem aggT_45 : VM.aggT Try.prog 45 = some false := by kernel_rfl
theorem cellsOf_46 : Program.cellsOf Try.prog 46 = 1 := by kernel_rfl
theorem bytesOf_46 : Program.bytesOf Try.prog 46 = 8 := by kernel_rfl
theorem elemT_46 : VM.elemT Try.prog 46 = none := by kernel_rfl
theorem strT_46 : VM.strT Try.prog 46 = false := by kernel_rfl
theorem boolT_46 : VM.boolT Try.prog 46 = false := by kernel_rfl
theorem intT_46 : VM.intT Try.prog 46 = none := by kernel_rfl
theorem hasT_46 : VM.hasT Try.prog 46 = true := by kernel_rfl
theorem aggT_46 : VM.aggT Try.prog 46 = some false := by kernel_rfl
theorem cellsOf_47 : Program.cellsOf Try.prog 47 = 1 := by kernel_rfl
theorem bytesOf_47 : Program.bytesOf Try.prog 47 = 24 := by kernel_rfl
theorem elemT_47 : VM.elemT Try.prog 47 = some 121 := by kernel_rfl
theorem strT_47 : VM.strT Try.prog 47 = false := by kernel_rfl
theorem boolT_47 : VM.boolT Try.prog 47 = false := by kernel_rfl
theorem intT_47 : VM.intT Try.prog 47 = none := by kernel_rfl
theorem hasT_47 : VM.hasT Try.prog 47 = true := by kernel_rfl
theorem aggT_47 : VM.aggT Try.prog 47 = some false := by kernel_rfl
theorem zeroT_47 : VM.zeroT Try.prog 47 = some [.list true 2 []] := by kernel_rfl
theorem cellsOf_48 : Program.cellsOf Try.prog 48 = 1 := by kernel_rfl
theorem bytesOf_48 : Program.bytesOf Try.prog 48 = 8 := by kernel_rfl
theorem elemT_48 : VM.elemT Try.prog 48 = none := by kernel_rfl
theorem strT_48 : VM.strT Try.prog 48 = false := by kernel_rfl
theorem boolT_48 : VM.boolT Try.prog 48 = false := by kernel_rfl
theorem intT_48 : VM.intT Try.prog 48 = none := by kernel_rfl
theorem hasT_48 : VM.hasT Try.prog 48 = true := by kernel_rfl
theorem aggT_48 : VM.aggT Try.prog 48 = some false := by kernel_rfl
theorem cellsOf_49 : Program.cellsOf Try.prog 49 = 1 := by kernel_rfl
theorem bytesOf_49 : Program.bytesOf Try.prog 49 = 8 := by kernel_rfl
theorem elemT_49 : VM.elemT Try.prog 49 = none := by kernel_rfl
theorem strT_49 : VM.strT Try.prog 49 = false := by kernel_rfl
theorem boolT_49 : VM.boolT Try.prog 49 = false := by kernel_rfl
theorem intT_49 : VM.intT Try.prog 49 = none := by kernel_rfl
theorem hasT_49 : VM.hasT Try.prog 49 = true := by kernel_rfl
theorem aggT_49 : VM.aggT Try.prog 49 = some false := by kernel_rfl
theorem cellsOf_50 : Program.cellsOf Try.prog 50 = 1 := by kernel_rfl
theorem bytesOf_50 : Program.bytesOf Try.prog 50 = 8 := by kernel_rfl
theorem elemT_50 : VM.elemT Try.prog 50 = none := by kernel_rfl
theorem strT_50 : VM.strT Try.prog 50 = false := by kernel_rfl
theorem boolT_50 : VM.boolT Try.prog 50 = false := by kernel_rfl
theorem intT_50 : VM.intT Try.prog 50 = none := by kernel_rfl
theorem hasT_50 : VM.hasT Try.prog 50 = true := by kernel_rfl
theorem aggT_50 : VM.aggT Try.prog 50 = some false := by kernel_rfl
theorem cellsOf_51 : Program.cellsOf Try.prog 51 = 1 := by kernel_rfl
theorem bytesOf_51 : Program.bytesOf Try.prog 51 = 8 := by kernel_rfl
theorem elemT_51 : VM.elemT Try.prog 51 = none := by kernel_rfl
theorem strT_51 : VM.strT Try.prog 51 = false := by kernel_rfl
theorem boolT_51 : VM.boolT Try.prog 51 = false := by kernel_rfl
theorem intT_51 : VM.intT Try.prog 51 = none := by kernel_rfl
theorem hasT_51 : VM.hasT Try.prog 51 = true := by kernel_rfl
theorem aggT_51 : VM.aggT Try.prog 51 = some false := by kernel_rfl
theorem cellsOf_52 : Program.cellsOf Try.prog 52 = 1 := by kernel_rfl
theorem bytesOf_52 : Program.bytesOf Try.prog 52 = 8 := by kernel_rfl
theorem elemT_52 : VM.elemT Try.prog 52 = none := by kernel_rfl
theorem strT_52 : VM.strT Try.prog 52 = false := by kernel_rfl
theorem boolT_52 : VM.boolT Try.prog 52 = false := by kernel_rfl
theorem intT_52 : VM.intT Try.prog 52 = none := by kernel_rfl
theorem hasT_52 : VM.hasT Try.prog 52 = true := by kernel_rfl
theorem aggT_52 : VM.aggT Try.prog 52 = some false := by kernel_rfl
theorem cellsOf_53 : Program.cellsOf Try.prog 53 = 1 := by kernel_rfl
theorem bytesOf_53 : Program.bytesOf Try.prog 53 = 24 := by kernel_rfl
theorem elemT_53 : VM.elemT Try.prog 53 = some 82 := by kernel_rfl
theorem strT_53 : VM.strT Try.prog 53 = false := by kernel_rfl
theorem boolT_53 : VM.boolT Try.prog 53 = false := by kernel_rfl
theorem intT_53 : VM.intT Try.prog 53 = none := by kernel_rfl
theorem hasT_53 : VM.hasT Try.prog 53 = true := by kernel_rfl
theorem aggT_53 : VM.aggT Try.prog 53 = some false := by kernel_rfl
theorem zeroT_53 : VM.zeroT Try.prog 53 = some [.list true 4 []] := by kernel_rfl
theorem cellsOf_54 : Program.cellsOf Try.prog 54 = 1 := by kernel_rfl
theorem bytesOf_54 : Program.bytesOf Try.prog 54 = 24 := by kernel_rfl
theorem elemT_54 : VM.elemT Try.prog 54 = some 92 := by kernel_rfl
theorem strT_54 : VM.strT Try.prog 54 = false := by kernel_rfl
theorem boolT_54 : VM.boolT Try.prog 54 = false := by kernel_rfl
theorem intT_54 : VM.intT Try.prog 54 = none := by kernel_rfl
theorem hasT_54 : VM.hasT Try.prog 54 = true := by kernel_rfl
theorem aggT_54 : VM.aggT Try.prog 54 = some false := by kernel_rfl
theorem zeroT_54 : VM.zeroT Try.prog 54 = some [.list true 2 []] := by kernel_rfl
theorem cellsOf_55 : Program.cellsOf Try.prog 55 = 2 := by kernel_rfl
theorem bytesOf_55 : Program.bytesOf Try.prog 55 = 48 := by kernel_rfl
theorem elemT_55 : VM.elemT Try.prog 55 = none := by kernel_rfl
theorem strT_55 : VM.strT Try.prog 55 = false := by kernel_rfl
theorem boolT_55 : VM.boolT Try.prog 55 = false := by kernel_rfl
theorem intT_55 : VM.intT Try.prog 55 = none := by kernel_rfl
theorem hasT_55 : VM.hasT Try.prog 55 = true := by kernel_rfl
theorem aggT_55 : VM.aggT Try.prog 55 = some true := by kernel_rfl
theorem zeroT_55 : VM.zeroT Try.prog 55 = some [.list true 4 [], .list true 2 []] := by kernel_rfl
theorem fieldT_55_0 : VM.fieldT Try.prog 55 0 = some (0, 53) := by kernel_rfl
theorem fieldT_55_1 : VM.fieldT Try.prog 55 1 = some (1, 54) := by kernel_rfl
theorem placesT_55 : VM.placesT Try.prog 55 = some [(0, 1, 53), (1, 1, 54)] := by kernel_rfl
theorem cellsOf_56 : Program.cellsOf Try.prog 56 = 2 := by kernel_rfl
theorem bytesOf_56 : Program.bytesOf Try.prog 56 = 48 := by kernel_rfl
theorem elemT_56 : VM.elemT Try.prog 56 = none := by kernel_rfl
theorem strT_56 : VM.strT Try.prog 56 = false := by kernel_rfl
theorem boolT_56 : VM.boolT Try.prog 56 = false := by kernel_rfl
theorem intT_56 : VM.intT Try.prog 56 = none := by kernel_rfl
theorem hasT_56 : VM.hasT Try.prog 56 = true := by kernel_rfl
theorem aggT_56 : VM.aggT Try.prog 56 = some true := by kernel_rfl
theorem zeroT_56 : VM.zeroT Try.prog 56 = some [.list true 4 [], .list true 2 []] := by kernel_rfl
theorem fieldT_56_0 : VM.fieldT Try.prog 56 0 = some (0, 53) := by kernel_rfl
theorem fieldT_56_1 : VM.fieldT Try.prog 56 1 = some (1, 54) := by kernel_rfl
theorem placesT_56 : VM.placesT Try.prog 56 = some [(0, 1, 53), (1, 1, 54)] := by kernel_rfl
theorem cellsOf_57 : Program.cellsOf Try.prog 57 = 1 := by kernel_rfl
theorem bytesOf_57 : Program.bytesOf Try.prog 57 = 8 := by kernel_rfl
theorem elemT_57 : VM.elemT Try.prog 57 = none := by kernel_rfl
theorem strT_57 : VM.strT Try.prog 57 = false := by kernel_rfl
theorem boolT_57 : VM.boolT Try.prog 57 = false := by kernel_rfl
theorem intT_57 : VM.intT Try.prog 57 = none := by kernel_rfl
theorem hasT_57 : VM.hasT Try.prog 57 = true := by kernel_rfl
theorem aggT_57 : VM.aggT Try.prog 57 = some false := by kernel_rfl
theorem cellsOf_58 : Program.cellsOf Try.prog 58 = 1 := by kernel_rfl
theorem bytesOf_58 : Program.bytesOf Try.prog 58 = 8 := by kernel_rfl
theorem elemT_58 : VM.elemT Try.prog 58 = none := by kernel_rfl
theorem strT_58 : VM.strT Try.prog 58 = false := by kernel_rfl
theorem boolT_58 : VM.boolT Try.prog 58 = false := by kernel_rfl
theorem intT_58 : VM.intT Try.prog 58 = none := by kernel_rfl
theorem hasT_58 : VM.hasT Try.prog 58 = true := by kernel_rfl
theorem aggT_58 : VM.aggT Try.prog 58 = some false := by kernel_rfl
theorem cellsOf_59 : Program.cellsOf Try.prog 59 = 1 := by kernel_rfl
theorem bytesOf_59 : Program.bytesOf Try.prog 59 = 24 := by kernel_rfl
theorem elemT_59 : VM.elemT Try.prog 59 = some 86 := by kernel_rfl
theorem strT_59 : VM.strT Try.prog 59 = false := by kernel_rfl
theorem boolT_59 : VM.boolT Try.prog 59 = false := by kernel_rfl
theorem intT_59 : VM.intT Try.prog 59 = none := by kernel_rfl
theorem hasT_59 : VM.hasT Try.prog 59 = true := by kernel_rfl
theorem aggT_59 : VM.aggT Try.prog 59 = some false := by kernel_rfl
theorem zeroT_59 : VM.zeroT Try.prog 59 = some [.list true 4 []] := by kernel_rfl
theorem cellsOf_60 : Program.cellsOf Try.prog 60 = 1 := by kernel_rfl
theorem bytesOf_60 : Program.bytesOf Try.prog 60 = 24 := by kernel_rfl
theorem elemT_60 : VM.elemT Try.prog 60 = some 76 := by kernel_rfl
theorem strT_60 : VM.strT Try.prog 60 = false := by kernel_rfl
theorem boolT_60 : VM.boolT Try.prog 60 = false := by kernel_rfl
theorem intT_60 : VM.intT Try.prog 60 = none := by kernel_rfl
theorem hasT_60 : VM.hasT Try.prog 60 = true := by kernel_rfl
theorem aggT_60 : VM.aggT Try.prog 60 = some false := by kernel_rfl
theorem zeroT_60 : VM.zeroT Try.prog 60 = some [.list true 2 []] := by kernel_rfl
theorem cellsOf_61 : Program.cellsOf Try.prog 61 = 2 := by kernel_rfl
theorem bytesOf_61 : Program.bytesOf Try.prog 61 = 48 := by kernel_rfl
theorem elemT_61 : VM.elemT Try.prog 61 = none := by kernel_rfl
theorem strT_61 : VM.strT Try.prog 61 = false := by kernel_rfl
theorem boolT_61 : VM.boolT Try.prog 61 = false := by kernel_rfl
theorem intT_61 : VM.intT Try.prog 61 = none := by kernel_rfl
theorem hasT_61 : VM.hasT Try.prog 61 = true := by kernel_rfl
theorem aggT_61 : VM.aggT Try.prog 61 = some true := by kernel_rfl
theorem zeroT_61 : VM.zeroT Try.prog 61 = some [.list true 4 [], .list true 2 []] := by kernel_rfl
theorem fieldT_61_0 : VM.fieldT Try.prog 61 0 = some (0, 59) := by kernel_rfl
theorem fieldT_61_1 : VM.fieldT Try.prog 61 1 = some (1, 60) := by kernel_rfl
theorem placesT_61 : VM.placesT Try.prog 61 = some [(0, 1, 59), (1, 1, 60)] := by kernel_rfl
theorem cellsOf_62 : Program.cellsOf Try.prog 62 = 2 := by kernel_rfl
theorem bytesOf_62 : Program.bytesOf Try.prog 62 = 48 := by kernel_rfl
theorem elemT_62 : VM.elemT Try.prog 62 = none := by kernel_rfl
theorem strT_62 : VM.strT Try.prog 62 = false := by kernel_rfl
theorem boolT_62 : VM.boolT Try.prog 62 = false := by kernel_rfl
theorem intT_62 : VM.intT Try.prog 62 = none := by kernel_rfl
theorem hasT_62 : VM.hasT Try.prog 62 = true := by kernel_rfl
theorem aggT_62 : VM.aggT Try.prog 62 = some true := by kernel_rfl
theorem zeroT_62 : VM.zeroT Try.prog 62 = some [.list true 4 [], .list true 2 []] := by kernel_rfl
theorem fieldT_62_0 : VM.fieldT Try.prog 62 0 = some (0, 59) := by kernel_rfl
theorem fieldT_62_1 : VM.fieldT Try.prog 62 1 = some (1, 60) := by kernel_rfl
theorem placesT_62 : VM.placesT Try.prog 62 = some [(0, 1, 59), (1, 1, 60)] := by kernel_rfl
theorem cellsOf_63 : Program.cellsOf Try.prog 63 = 1 := by kernel_rfl
theorem bytesOf_63 : Program.bytesOf Try.prog 63 = 8 := by kernel_rfl
theorem elemT_63 : VM.elemT Try.prog 63 = none := by kernel_rfl
theorem strT_63 : VM.strT Try.prog 63 = false := by kernel_rfl
theorem boolT_63 : VM.boolT Try.prog 63 = false := by kernel_rfl
theorem intT_63 : VM.intT Try.prog 63 = none := by kernel_rfl
theorem hasT_63 : VM.hasT Try.prog 63 = true := by kernel_rfl
theorem aggT_63 : VM.aggT Try.prog 63 = some false := by kernel_rfl
theorem cellsOf_64 : Program.cellsOf Try.prog 64 = 1 := by kernel_rfl
theorem bytesOf_64 : Program.bytesOf Try.prog 64 = 8 := by kernel_rfl
theorem elemT_64 : VM.elemT Try.prog 64 = none := by kernel_rfl
theorem strT_64 : VM.strT Try.prog 64 = false := by kernel_rfl
theorem boolT_64 : VM.boolT Try.prog 64 = false := by kernel_rfl
theorem intT_64 : VM.intT Try.prog 64 = none := by kernel_rfl
theorem hasT_64 : VM.hasT Try.prog 64 = true := by kernel_rfl
theorem aggT_64 : VM.aggT Try.prog 64 = some false := by kernel_rfl
theorem cellsOf_65 : Program.cellsOf Try.prog 65 = 1 := by kernel_rfl
theorem bytesOf_65 : Program.bytesOf Try.prog 65 = 8 := by kernel_rfl
theorem elemT_65 : VM.elemT Try.prog 65 = none := by kernel_rfl
theorem strT_65 : VM.strT Try.prog 65 = false := by kernel_rfl
theorem boolT_65 : VM.boolT Try.prog 65 = false := by kernel_rfl
theorem intT_65 : VM.intT Try.prog 65 = none := by kernel_rfl
theorem hasT_65 : VM.hasT Try.prog 65 = true := by kernel_rfl
theorem aggT_65 : VM.aggT Try.prog 65 = some false := by kernel_rfl
theorem cellsOf_66 : Program.cellsOf Try.prog 66 = 4 := by kernel_rfl
theorem bytesOf_66 : Program.bytesOf Try.prog 66 = 64 := by kernel_rfl
theorem elemT_66 : VM.elemT Try.prog 66 = none := by kernel_rfl
theorem strT_66 : VM.strT Try.prog 66 = false := by kernel_rfl
theorem boolT_66 : VM.boolT Try.prog 66 = false := by kernel_rfl
theorem intT_66 : VM.intT Try.prog 66 = none := by kernel_rfl
theorem hasT_66 : VM.hasT Try.prog 66 = true := by kernel_rfl
theorem aggT_66 : VM.aggT Try.prog 66 = some true := by kernel_rfl
theorem zeroT_66 : VM.zeroT Try.prog 66 = some [.list true 6 [], .int .i64 0, .list true 2 [], .bool false] := by kernel_rfl
theorem fieldT_66_0 : VM.fieldT Try.prog 66 0 = some (0, 34) := by kernel_rfl
theorem fieldT_66_1 : VM.fieldT Try.prog 66 1 = some (1, 3) := by kernel_rfl
theorem fieldT_66_2 : VM.fieldT Try.prog 66 2 = some (2, 54) := by kernel_rfl
theorem fieldT_66_3 : VM.fieldT Try.prog 66 3 = some (3, 4) := by kernel_rfl
theorem placesT_66 : VM.placesT Try.prog 66 = some [(0, 1, 34), (1, 1, 3), (2, 1, 54), (3, 1, 4)] := by kernel_rfl
theorem cellsOf_67 : Program.cellsOf Try.prog 67 = 4 := by kernel_rfl
theorem bytesOf_67 : Program.bytesOf Try.prog 67 = 64 := by kernel_rfl
theorem elemT_67 : VM.elemT Try.prog 67 = none := by kernel_rfl
theorem strT_67 : VM.strT Try.prog 67 = false := by kernel_rfl
theorem boolT_67 : VM.boolT Try.prog 67 = false := by kernel_rfl
theorem intT_67 : VM.intT Try.prog 67 = none := by kernel_rfl
theorem hasT_67 : VM.hasT Try.prog 67 = true := by kernel_rfl
theorem aggT_67 : VM.aggT Try.prog 67 = some true := by kernel_rfl
theorem zeroT_67 : VM.zeroT Try.prog 67 = some [.list true 6 [], .int .i64 0, .list true 2 [], .bool false] := by kernel_rfl
theorem fieldT_67_0 : VM.fieldT Try.prog 67 0 = some (0, 34) := by kernel_rfl
theorem fieldT_67_1 : VM.fieldT Try.prog 67 1 = some (1, 3) := by kernel_rfl
theorem fieldT_67_2 : VM.fieldT Try.prog 67 2 = some (2, 54) := by kernel_rfl
theorem fieldT_67_3 : VM.fieldT Try.prog 67 3 = some (3, 4) := by kernel_rfl
theorem placesT_67 : VM.placesT Try.prog 67 = some [(0, 1, 34), (1, 1, 3), (2, 1, 54), (3, 1, 4)] := by kernel_rfl
theorem cellsOf_68 : Program.cellsOf Try.prog 68 = 1 := by kernel_rfl
theorem bytesOf_68 : Program.bytesOf Try.prog 68 = 8 := by kernel_rfl
theorem elemT_68 : VM.elemT Try.prog 68 = none := by kernel_rfl
theorem strT_68 : VM.strT Try.prog 68 = false := by kernel_rfl
theorem boolT_68 : VM.boolT Try.prog 68 = false := by kernel_rfl
theorem intT_68 : VM.intT Try.prog 68 = none := by kernel_rfl
theorem hasT_68 : VM.hasT Try.prog 68 = true := by kernel_rfl
theorem aggT_68 : VM.aggT Try.prog 68 = some false := by kernel_rfl
theorem cellsOf_69 : Program.cellsOf Try.prog 69 = 1 := by kernel_rfl
theorem bytesOf_69 : Program.bytesOf Try.prog 69 = 8 := by kernel_rfl
theorem elemT_69 : VM.elemT Try.prog 69 = none := by kernel_rfl
theorem strT_69 : VM.strT Try.prog 69 = false := by kernel_rfl
theorem boolT_69 : VM.boolT Try.prog 69 = false := by kernel_rfl
theorem intT_69 : VM.intT Try.prog 69 = none := by kernel_rfl
theorem hasT_69 : VM.hasT Try.prog 69 = true := by kernel_rfl
theorem aggT_69 : VM.aggT Try.prog 69 = some false := by kernel_rfl
theorem cellsOf_70 : Program.cellsOf Try.prog 70 = 4 := by kernel_rfl
theorem bytesOf_70 : Program.bytesOf Try.prog 70 = 64 := by kernel_rfl
theorem elemT_70 : VM.elemT Try.prog 70 = none := by kernel_rfl
theorem strT_70 : VM.strT Try.prog 70 = false := by kernel_rfl
theorem boolT_70 : VM.boolT Try.prog 70 = false := by kernel_rfl
theorem intT_70 : VM.intT Try.prog 70 = none := by kernel_rfl
theorem hasT_70 : VM.hasT Try.prog 70 = true := by kernel_rfl
theorem aggT_70 : VM.aggT Try.prog 70 = some true := by kernel_rfl
theorem zeroT_70 : VM.zeroT Try.prog 70 = some [.list true 6 [], .int .i64 0, .list true 2 [], .bool false] := by kernel_rfl
theorem fieldT_70_0 : VM.fieldT Try.prog 70 0 = some (0, 37) := by kernel_rfl
theorem fieldT_70_1 : VM.fieldT Try.prog 70 1 = some (1, 3) := by kernel_rfl
theorem fieldT_70_2 : VM.fieldT Try.prog 70 2 = some (2, 60) := by kernel_rfl
theorem fieldT_70_3 : VM.fieldT Try.prog 70 3 = some (3, 4) := by kernel_rfl
theorem placesT_70 : VM.placesT Try.prog 70 = some [(0, 1, 37), (1, 1, 3), (2, 1, 60), (3, 1, 4)] := by kernel_rfl
theorem cellsOf_71 : Program.cellsOf Try.prog 71 = 4 := by kernel_rfl
theorem bytesOf_71 : Program.bytesOf Try.prog 71 = 64 := by kernel_rfl
theorem elemT_71 : VM.elemT Try.prog 71 = none := by kernel_rfl
theorem strT_71 : VM.strT Try.prog 71 = false := by kernel_rfl
theorem boolT_71 : VM.boolT Try.prog 71 = false := by kernel_rfl
theorem intT_71 : VM.intT Try.prog 71 = none := by kernel_rfl
theorem hasT_71 : VM.hasT Try.prog 71 = true := by kernel_rfl
theorem aggT_71 : VM.aggT Try.prog 71 = some true := by kernel_rfl
theorem zeroT_71 : VM.zeroT Try.prog 71 = some [.list true 6 [], .int .i64 0, .list true 2 [], .bool false] := by kernel_rfl
theorem fieldT_71_0 : VM.fieldT Try.prog 71 0 = some (0, 37) := by kernel_rfl
theorem fieldT_71_1 : VM.fieldT Try.prog 71 1 = some (1, 3) := by kernel_rfl
theorem fieldT_71_2 : VM.fieldT Try.prog 71 2 = some (2, 60) := by kernel_rfl
theorem fieldT_71_3 : VM.fieldT Try.prog 71 3 = some (3, 4) := by kernel_rfl
theorem placesT_71 : VM.placesT Try.prog 71 = some [(0, 1, 37), (1, 1, 3), (2, 1, 60), (3, 1, 4)] := by kernel_rfl
theorem cellsOf_72 : Program.cellsOf Try.prog 72 = 1 := by kernel_rfl
theorem bytesOf_72 : Program.bytesOf Try.prog 72 = 8 := by kernel_rfl
theorem elemT_72 : VM.elemT Try.prog 72 = none := by kernel_rfl
theorem strT_72 : VM.strT Try.prog 72 = false := by kernel_rfl
theorem boolT_72 : VM.boolT Try.prog 72 = false := by kernel_rfl
theorem intT_72 : VM.intT Try.prog 72 = none := by kernel_rfl
theorem hasT_72 : VM.hasT Try.prog 72 = true := by kernel_rfl
theorem aggT_72 : VM.aggT Try.prog 72 = some false := by kernel_rfl
theorem cellsOf_73 : Program.cellsOf Try.prog 73 = 1 := by kernel_rfl
theorem bytesOf_73 : Program.bytesOf Try.prog 73 = 8 := by kernel_rfl
theorem elemT_73 : VM.elemT Try.prog 73 = none := by kernel_rfl
theorem strT_73 : VM.strT Try.prog 73 = false := by kernel_rfl
theorem boolT_73 : VM.boolT Try.prog 73 = false := by kernel_rfl
theorem intT_73 : VM.intT Try.prog 73 = none := by kernel_rfl
theorem hasT_73 : VM.hasT Try.prog 73 = true := by kernel_rfl
theorem aggT_73 : VM.aggT Try.prog 73 = some false := by kernel_rfl
theorem cellsOf_74 : Program.cellsOf Try.prog 74 = 1 := by kernel_rfl
theorem bytesOf_74 : Program.bytesOf Try.prog 74 = 8 := by kernel_rfl
theorem elemT_74 : VM.elemT Try.prog 74 = none := by kernel_rfl
theorem strT_74 : VM.strT Try.prog 74 = false := by kernel_rfl
theorem boolT_74 : VM.boolT Try.prog 74 = false := by kernel_rfl
theorem intT_74 : VM.intT Try.prog 74 = none := by kernel_rfl
theorem hasT_74 : VM.hasT Try.prog 74 = true := by kernel_rfl
theorem aggT_74 : VM.aggT Try.prog 74 = some false := by kernel_rfl
theorem cellsOf_75 : Program.cellsOf Try.prog 75 = 2 := by kernel_rfl
theorem bytesOf_75 : Program.bytesOf Try.prog 75 = 24 := by kernel_rfl
theorem elemT_75 : VM.elemT Try.prog 75 = none := by kernel_rfl
theorem strT_75 : VM.strT Try.prog 75 = false := by kernel_rfl
theorem boolT_75 : VM.boolT Try.prog 75 = false := by kernel_rfl
theorem intT_75 : VM.intT Try.prog 75 = none := by kernel_rfl
theorem hasT_75 : VM.hasT Try.prog 75 = true := by kernel_rfl
theorem aggT_75 : VM.aggT Try.prog 75 = some true := by kernel_rfl
theorem zeroT_75 : VM.zeroT Try.prog 75 = some [.int .i64 0, .str ⟨#[]⟩] := by kernel_rfl
theorem fieldT_75_0 : VM.fieldT Try.prog 75 0 = some (0, 3) := by kernel_rfl
theorem fieldT_75_1 : VM.fieldT Try.prog 75 1 = some (1, 9) := by kernel_rfl
theorem placesT_75 : VM.placesT Try.prog 75 = some [(0, 1, 3), (1, 1, 9)] := by kernel_rfl
theorem flatT_75 : VM.flatT Try.prog 75 = some [.int .i64, .string] := by kernel_rfl
theorem cellsOf_76 : Program.cellsOf Try.prog 76 = 2 := by kernel_rfl
theorem bytesOf_76 : Program.bytesOf Try.prog 76 = 24 := by kernel_rfl
theorem elemT_76 : VM.elemT Try.prog 76 = none := by kernel_rfl
theorem strT_76 : VM.strT Try.prog 76 = false := by kernel_rfl
theorem boolT_76 : VM.boolT Try.prog 76 = false := by kernel_rfl
theorem intT_76 : VM.intT Try.prog 76 = none := by kernel_rfl
theorem hasT_76 : VM.hasT Try.prog 76 = true := by kernel_rfl
theorem aggT_76 : VM.aggT Try.prog 76 = some true := by kernel_rfl
theorem zeroT_76 : VM.zeroT Try.prog 76 = some [.int .i64 0, .str ⟨#[]⟩] := by kernel_rfl
theorem fieldT_76_0 : VM.fieldT Try.prog 76 0 = some (0, 3) := by kernel_rfl
theorem fieldT_76_1 : VM.fieldT Try.prog 76 1 = some (1, 9) := by kernel_rfl
theorem placesT_76 : VM.placesT Try.prog 76 = some [(0, 1, 3), (1, 1, 9)] := by kernel_rfl
theorem flatT_76 : VM.flatT Try.prog 76 = some [.int .i64, .string] := by kernel_rfl
theorem cellsOf_78 : Program.cellsOf Try.prog 78 = 1 := by kernel_rfl
theorem bytesOf_78 : Program.bytesOf Try.prog 78 = 8 := by kernel_rfl
theorem elemT_78 : VM.elemT Try.prog 78 = none := by kernel_rfl
theorem strT_78 : VM.strT Try.prog 78 = false := by kernel_rfl
theorem boolT_78 : VM.boolT Try.prog 78 = false := by kernel_rfl
theorem intT_78 : VM.intT Try.prog 78 = none := by kernel_rfl
theorem hasT_78 : VM.hasT Try.prog 78 = true := by kernel_rfl
theorem aggT_78 : VM.aggT Try.prog 78 = some false := by kernel_rfl
theorem cellsOf_79 : Program.cellsOf Try.prog 79 = 1 := by kernel_rfl
theorem bytesOf_79 : Program.bytesOf Try.prog 79 = 8 := by kernel_rfl
theorem elemT_79 : VM.elemT Try.prog 79 = none := by kernel_rfl
theorem strT_79 : VM.strT Try.prog 79 = false := by kernel_rfl
theorem boolT_79 : VM.boolT Try.prog 79 = false := by kernel_rfl
theorem intT_79 : VM.intT Try.prog 79 = none := by kernel_rfl
theorem hasT_79 : VM.hasT Try.prog 79 = true := by kernel_rfl
theorem aggT_79 : VM.aggT Try.prog 79 = some false := by kernel_rfl
theorem cellsOf_80 : Program.cellsOf Try.prog 80 = 1 := by kernel_rfl
theorem bytesOf_80 : Program.bytesOf Try.prog 80 = 8 := by kernel_rfl
theorem elemT_80 : VM.elemT Try.prog 80 = none := by kernel_rfl
theorem strT_80 : VM.strT Try.prog 80 = false := by kernel_rfl
theorem boolT_80 : VM.boolT Try.prog 80 = false := by kernel_rfl
theorem intT_80 : VM.intT Try.prog 80 = none := by kernel_rfl
theorem hasT_80 : VM.hasT Try.prog 80 = true := by kernel_rfl
theorem aggT_80 : VM.aggT Try.prog 80 = some false := by kernel_rfl
theorem cellsOf_81 : Program.cellsOf Try.prog 81 = 4 := by kernel_rfl
theorem bytesOf_81 : Program.bytesOf Try.prog 81 = 56 := by kernel_rfl
theorem elemT_81 : VM.elemT Try.prog 81 = none := by kernel_rfl
theorem strT_81 : VM.strT Try.prog 81 = false := by kernel_rfl
theorem boolT_81 : VM.boolT Try.prog 81 = false := by kernel_rfl
theorem intT_81 : VM.intT Try.prog 81 = none := by kernel_rfl
theorem hasT_81 : VM.hasT Try.prog 81 = true := by kernel_rfl
theorem aggT_81 : VM.aggT Try.prog 81 = some true := by kernel_rfl
theorem zeroT_81 : VM.zeroT Try.prog 81 = some [.int .i64 0, .str ⟨#[]⟩, .str ⟨#[]⟩, .str ⟨#[]⟩] := by kernel_rfl
theorem fieldT_81_0 : VM.fieldT Try.prog 81 0 = some (0, 3) := by kernel_rfl
theorem fieldT_81_1 : VM.fieldT Try.prog 81 1 = some (1, 9) := by kernel_rfl
theorem fieldT_81_2 : VM.fieldT Try.prog 81 2 = some (2, 9) := by kernel_rfl
theorem fieldT_81_3 : VM.fieldT Try.prog 81 3 = some (3, 9) := by kernel_rfl
theorem placesT_81 : VM.placesT Try.prog 81 = some [(0, 1, 3), (1, 1, 9), (2, 1, 9), (3, 1, 9)] := by kernel_rfl
theorem flatT_81 : VM.flatT Try.prog 81 = some [.int .i64, .string, .string, .string] := by kernel_rfl
theorem cellsOf_82 : Program.cellsOf Try.prog 82 = 4 := by kernel_rfl
theorem bytesOf_82 : Program.bytesOf Try.prog 82 = 56 := by kernel_rfl
theorem elemT_82 : VM.elemT Try.prog 82 = none := by kernel_rfl
theorem strT_82 : VM.strT Try.prog 82 = false := by kernel_rfl
theorem boolT_82 : VM.boolT Try.prog 82 = false := by kernel_rfl
theorem intT_82 : VM.intT Try.prog 82 = none := by kernel_rfl
theorem hasT_82 : VM.hasT Try.prog 82 = true := by kernel_rfl
theorem aggT_82 : VM.aggT Try.prog 82 = some true := by kernel_rfl
theorem zeroT_82 : VM.zeroT Try.prog 82 = some [.int .i64 0, .str ⟨#[]⟩, .str ⟨#[]⟩, .str ⟨#[]⟩] := by kernel_rfl
theorem fieldT_82_0 : VM.fieldT Try.prog 82 0 = some (0, 3) := by kernel_rfl
theorem fieldT_82_1 : VM.fieldT Try.prog 82 1 = some (1, 9) := by kernel_rfl
theorem fieldT_82_2 : VM.fieldT Try.prog 82 2 = some (2, 9) := by kernel_rfl
theorem fieldT_82_3 : VM.fieldT Try.prog 82 3 = some (3, 9) := by kernel_rfl
theorem placesT_82 : VM.placesT Try.prog 82 = some [(0, 1, 3), (1, 1, 9), (2, 1, 9), (3, 1, 9)] := by kernel_rfl
theorem flatT_82 : VM.flatT Try.prog 82 = some [.int .i64, .string, .string, .string] := by kernel_rfl
theorem cellsOf_83 : Program.cellsOf Try.prog 83 = 1 := by kernel_rfl
theorem bytesOf_83 : Program.bytesOf Try.prog 83 = 8 := by kernel_rfl
theorem elemT_83 : VM.elemT Try.prog 83 = none := by kernel_rfl
theorem strT_83 : VM.strT Try.prog 83 = false := by kernel_rfl
theorem boolT_83 : VM.boolT Try.prog 83 = false := by kernel_rfl
theorem intT_83 : VM.intT Try.prog 83 = none := by kernel_rfl
theorem hasT_83 : VM.hasT Try.prog 83 = true := by kernel_rfl
theorem aggT_83 : VM.aggT Try.prog 83 = some false := by kernel_rfl
theorem cellsOf_85 : Program.cellsOf Try.prog 85 = 1 := by kernel_rfl
theorem bytesOf_85 : Program.bytesOf Try.prog 85 = 8 := by kernel_rfl
theorem elemT_85 : VM.elemT Try.prog 85 = none := by kernel_rfl
theorem strT_85 : VM.strT Try.prog 85 = false := by kernel_rfl
theorem boolT_85 : VM.boolT Try.prog 85 = false := by kernel_rfl
theorem intT_85 : VM.intT Try.prog 85 = none := by kernel_rfl
theorem hasT_85 : VM.hasT Try.prog 85 = true := by kernel_rfl
theorem aggT_85 : VM.aggT Try.prog 85 = some false := by kernel_rfl
theorem cellsOf_86 : Program.cellsOf Try.prog 86 = 4 := by kernel_rfl
theorem bytesOf_86 : Program.bytesOf Try.prog 86 = 56 := by kernel_rfl
theorem elemT_86 : VM.elemT Try.prog 86 = none := by kernel_rfl
theorem strT_86 : VM.strT Try.prog 86 = false := by kernel_rfl
theorem boolT_86 : VM.boolT Try.prog 86 = false := by kernel_rfl
theorem intT_86 : VM.intT Try.prog 86 = none := by kernel_rfl
theorem hasT_86 : VM.hasT Try.prog 86 = true := by kernel_rfl
theorem aggT_86 : VM.aggT Try.prog 86 = some true := by kernel_rfl
theorem zeroT_86 : VM.zeroT Try.prog 86 = some [.int .i64 0, .str ⟨#[]⟩, .str ⟨#[]⟩, .str ⟨#[]⟩] := by kernel_rfl
theorem fieldT_86_0 : VM.fieldT Try.prog 86 0 = some (0, 3) := by kernel_rfl
theorem fieldT_86_1 : VM.fieldT Try.prog 86 1 = some (1, 9) := by kernel_rfl
theorem fieldT_86_2 : VM.fieldT Try.prog 86 2 = some (2, 9) := by kernel_rfl
theorem fieldT_86_3 : VM.fieldT Try.prog 86 3 = some (3, 9) := by kernel_rfl
theorem placesT_86 : VM.placesT Try.prog 86 = some [(0, 1, 3), (1, 1, 9), (2, 1, 9), (3, 1, 9)] := by kernel_rfl
theorem flatT_86 : VM.flatT Try.prog 86 = some [.int .i64, .string, .string, .string] := by kernel_rfl
theorem cellsOf_87 : Program.cellsOf Try.prog 87 = 1 := by kernel_rfl
theorem bytesOf_87 : Program.bytesOf Try.prog 87 = 8 := by kernel_rfl
theorem elemT_87 : VM.elemT Try.prog 87 = none := by kernel_rfl
theorem strT_87 : VM.strT Try.prog 87 = false := by kernel_rfl
theorem boolT_87 : VM.boolT Try.prog 87 = false := by kernel_rfl
theorem intT_87 : VM.intT Try.prog 87 = none := by kernel_rfl
theorem hasT_87 : VM.hasT Try.prog 87 = true := by kernel_rfl
theorem aggT_87 : VM.aggT Try.prog 87 = some false := by kernel_rfl
theorem cellsOf_88 : Program.cellsOf Try.prog 88 = 1 := by kernel_rfl
theorem bytesOf_88 : Program.bytesOf Try.prog 88 = 8 := by kernel_rfl
theorem elemT_88 : VM.elemT Try.prog 88 = none := by kernel_rfl
theorem strT_88 : VM.strT Try.prog 88 = false := by kernel_rfl
theorem boolT_88 : VM.boolT Try.prog 88 = false := by kernel_rfl
theorem intT_88 : VM.intT Try.prog 88 = none := by kernel_rfl
theorem hasT_88 : VM.hasT Try.prog 88 = true := by kernel_rfl
theorem aggT_88 : VM.aggT Try.prog 88 = some false := by kernel_rfl
theorem cellsOf_90 : Program.cellsOf Try.prog 90 = 1 := by kernel_rfl
theorem bytesOf_90 : Program.bytesOf Try.prog 90 = 8 := by kernel_rfl
theorem elemT_90 : VM.elemT Try.prog 90 = none := by kernel_rfl
theorem strT_90 : VM.strT Try.prog 90 = false := by kernel_rfl
theorem boolT_90 : VM.boolT Try.prog 90 = false := by kernel_rfl
theorem intT_90 : VM.intT Try.prog 90 = none := by kernel_rfl
theorem hasT_90 : VM.hasT Try.prog 90 = true := by kernel_rfl
theorem aggT_90 : VM.aggT Try.prog 90 = some false := by kernel_rfl
theorem cellsOf_91 : Program.cellsOf Try.prog 91 = 1 := by kernel_rfl
theorem bytesOf_91 : Program.bytesOf Try.prog 91 = 8 := by kernel_rfl
theorem elemT_91 : VM.elemT Try.prog 91 = none := by kernel_rfl
theorem strT_91 : VM.strT Try.prog 91 = false := by kernel_rfl
theorem boolT_91 : VM.boolT Try.prog 91 = false := by kernel_rfl
theorem intT_91 : VM.intT Try.prog 91 = none := by kernel_rfl
theorem hasT_91 : VM.hasT Try.prog 91 = true := by kernel_rfl
theorem aggT_91 : VM.aggT Try.prog 91 = some false := by kernel_rfl
theorem cellsOf_92 : Program.cellsOf Try.prog 92 = 2 := by kernel_rfl
theorem bytesOf_92 : Program.bytesOf Try.prog 92 = 24 := by kernel_rfl
theorem elemT_92 : VM.elemT Try.prog 92 = none := by kernel_rfl
theorem strT_92 : VM.strT Try.prog 92 = false := by kernel_rfl
theorem boolT_92 : VM.boolT Try.prog 92 = false := by kernel_rfl
theorem intT_92 : VM.intT Try.prog 92 = none := by kernel_rfl
theorem hasT_92 : VM.hasT Try.prog 92 = true := by kernel_rfl
theorem aggT_92 : VM.aggT Try.prog 92 = some true := by kernel_rfl
theorem zeroT_92 : VM.zeroT Try.prog 92 = some [.int .i64 0, .str ⟨#[]⟩] := by kernel_rfl
theorem fieldT_92_0 : VM.fieldT Try.prog 92 0 = some (0, 3) := by kernel_rfl
theorem fieldT_92_1 : VM.fieldT Try.prog 92 1 = some (1, 9) := by kernel_rfl
theorem placesT_92 : VM.placesT Try.prog 92 = some [(0, 1, 3), (1, 1, 9)] := by kernel_rfl
theorem flatT_92 : VM.flatT Try.prog 92 = some [.int .i64, .string] := by kernel_rfl
theorem cellsOf_93 : Program.cellsOf Try.prog 93 = 1 := by kernel_rfl
theorem bytesOf_93 : Program.bytesOf Try.prog 93 = 8 := by kernel_rfl
theorem elemT_93 : VM.elemT Try.prog 93 = none := by kernel_rfl
theorem strT_93 : VM.strT Try.prog 93 = false := by kernel_rfl
theorem boolT_93 : VM.boolT Try.prog 93 = false := by kernel_rfl
theorem intT_93 : VM.intT Try.prog 93 = none := by kernel_rfl
theorem hasT_93 : VM.hasT Try.prog 93 = true := by kernel_rfl
theorem aggT_93 : VM.aggT Try.prog 93 = some false := by kernel_rfl
theorem cellsOf_94 : Program.cellsOf Try.prog 94 = 1 := by kernel_rfl
theorem bytesOf_94 : Program.bytesOf Try.prog 94 = 8 := by kernel_rfl
theorem elemT_94 : VM.elemT Try.prog 94 = none := by kernel_rfl
theorem strT_94 : VM.strT Try.prog 94 = false := by kernel_rfl
theorem boolT_94 : VM.boolT Try.prog 94 = false := by kernel_rfl
theorem intT_94 : VM.intT Try.prog 94 = none := by kernel_rfl
theorem hasT_94 : VM.hasT Try.prog 94 = true := by kernel_rfl
theorem aggT_94 : VM.aggT Try.prog 94 = some false := by kernel_rfl
theorem cellsOf_95 : Program.cellsOf Try.prog 95 = 1 := by kernel_rfl
theorem bytesOf_95 : Program.bytesOf Try.prog 95 = 8 := by kernel_rfl
theorem elemT_95 : VM.elemT Try.prog 95 = none := by kernel_rfl
theorem strT_95 : VM.strT Try.prog 95 = false := by kernel_rfl
theorem boolT_95 : VM.boolT Try.prog 95 = false := by kernel_rfl
theorem intT_95 : VM.intT Try.prog 95 = none := by kernel_rfl
theorem hasT_95 : VM.hasT Try.prog 95 = true := by kernel_rfl
theorem aggT_95 : VM.aggT Try.prog 95 = some false := by kernel_rfl
theorem cellsOf_96 : Program.cellsOf Try.prog 96 = 1 := by kernel_rfl
theorem bytesOf_96 : Program.bytesOf Try.prog 96 = 8 := by kernel_rfl
theorem elemT_96 : VM.elemT Try.prog 96 = none := by kernel_rfl
theorem strT_96 : VM.strT Try.prog 96 = false := by kernel_rfl
theorem boolT_96 : VM.boolT Try.prog 96 = false := by kernel_rfl
theorem intT_96 : VM.intT Try.prog 96 = none := by kernel_rfl
theorem hasT_96 : VM.hasT Try.prog 96 = true := by kernel_rfl
theorem aggT_96 : VM.aggT Try.prog 96 = some false := by kernel_rfl
theorem cellsOf_97 : Program.cellsOf Try.prog 97 = 1 := by kernel_rfl
theorem bytesOf_97 : Program.bytesOf Try.prog 97 = 8 := by kernel_rfl
theorem elemT_97 : VM.elemT Try.prog 97 = none := by kernel_rfl
theorem strT_97 : VM.strT Try.prog 97 = false := by kernel_rfl
theorem boolT_97 : VM.boolT Try.prog 97 = false := by kernel_rfl
theorem intT_97 : VM.intT Try.prog 97 = none := by kernel_rfl
theorem hasT_97 : VM.hasT Try.prog 97 = true := by kernel_rfl
theorem aggT_97 : VM.aggT Try.prog 97 = some false := by kernel_rfl
theorem cellsOf_98 : Program.cellsOf Try.prog 98 = 1 := by kernel_rfl
theorem bytesOf_98 : Program.bytesOf Try.prog 98 = 8 := by kernel_rfl
theorem elemT_98 : VM.elemT Try.prog 98 = none := by kernel_rfl
theorem strT_98 : VM.strT Try.prog 98 = false := by kernel_rfl
theorem boolT_98 : VM.boolT Try.prog 98 = false := by kernel_rfl
theorem intT_98 : VM.intT Try.prog 98 = none := by kernel_rfl
theorem hasT_98 : VM.hasT Try.prog 98 = true := by kernel_rfl
theorem aggT_98 : VM.aggT Try.prog 98 = some false := by kernel_rfl
theorem cellsOf_99 : Program.cellsOf Try.prog 99 = 3 := by kernel_rfl
theorem bytesOf_99 : Program.bytesOf Try.prog 99 = 40 := by kernel_rfl
theorem elemT_99 : VM.elemT Try.prog 99 = none := by kernel_rfl
theorem strT_99 : VM.strT Try.prog 99 = false := by kernel_rfl
theorem boolT_99 : VM.boolT Try.prog 99 = false := by kernel_rfl
theorem intT_99 : VM.intT Try.prog 99 = none := by kernel_rfl
theorem hasT_99 : VM.hasT Try.prog 99 = true := by kernel_rfl
theorem aggT_99 : VM.aggT Try.prog 99 = some true := by kernel_rfl
theorem zeroT_99 : VM.zeroT Try.prog 99 = some [.str ⟨#[]⟩, .bool false, .str ⟨#[]⟩] := by kernel_rfl
theorem fieldT_99_0 : VM.fieldT Try.prog 99 0 = some (0, 9) := by kernel_rfl
theorem fieldT_99_1 : VM.fieldT Try.prog 99 1 = some (1, 4) := by kernel_rfl
theorem fieldT_99_2 : VM.fieldT Try.prog 99 2 = some (2, 9) := by kernel_rfl
theorem placesT_99 : VM.placesT Try.prog 99 = some [(0, 1, 9), (1, 1, 4), (2, 1, 9)] := by kernel_rfl
theorem flatT_99 : VM.flatT Try.prog 99 = some [.string, .bool, .string] := by kernel_rfl
theorem cellsOf_100 : Program.cellsOf Try.prog 100 = 3 := by kernel_rfl
theorem bytesOf_100 : Program.bytesOf Try.prog 100 = 40 := by kernel_rfl
theorem elemT_100 : VM.elemT Try.prog 100 = none := by kernel_rfl
theorem strT_100 : VM.strT Try.prog 100 = false := by kernel_rfl
theorem boolT_100 : VM.boolT Try.prog 100 = false := by kernel_rfl
theorem intT_100 : VM.intT Try.prog 100 = none := by kernel_rfl
theorem hasT_100 : VM.hasT Try.prog 100 = true := by kernel_rfl
theorem aggT_100 : VM.aggT Try.prog 100 = some true := by kernel_rfl
theorem zeroT_100 : VM.zeroT Try.prog 100 = some [.str ⟨#[]⟩, .bool false, .str ⟨#[]⟩] := by kernel_rfl
theorem fieldT_100_0 : VM.fieldT Try.prog 100 0 = some (0, 9) := by kernel_rfl
theorem fieldT_100_1 : VM.fieldT Try.prog 100 1 = some (1, 4) := by kernel_rfl
theorem fieldT_100_2 : VM.fieldT Try.prog 100 2 = some (2, 9) := by kernel_rfl
theorem placesT_100 : VM.placesT Try.prog 100 = some [(0, 1, 9), (1, 1, 4), (2, 1, 9)] := by kernel_rfl
theorem flatT_100 : VM.flatT Try.prog 100 = some [.string, .bool, .string] := by kernel_rfl
theorem cellsOf_101 : Program.cellsOf Try.prog 101 = 3 := by kernel_rfl
theorem bytesOf_101 : Program.bytesOf Try.prog 101 = 40 := by kernel_rfl
theorem elemT_101 : VM.elemT Try.prog 101 = none := by kernel_rfl
theorem strT_101 : VM.strT Try.prog 101 = false := by kernel_rfl
theorem boolT_101 : VM.boolT Try.prog 101 = false := by kernel_rfl
theorem intT_101 : VM.intT Try.prog 101 = none := by kernel_rfl
theorem hasT_101 : VM.hasT Try.prog 101 = true := by kernel_rfl
theorem aggT_101 : VM.aggT Try.prog 101 = some true := by kernel_rfl
theorem zeroT_101 : VM.zeroT Try.prog 101 = some [.str ⟨#[]⟩, .bool false, .str ⟨#[]⟩] := by kernel_rfl
theorem fieldT_101_0 : VM.fieldT Try.prog 101 0 = some (0, 9) := by kernel_rfl
theorem fieldT_101_1 : VM.fieldT Try.prog 101 1 = some (1, 4) := by kernel_rfl
theorem fieldT_101_2 : VM.fieldT Try.prog 101 2 = some (2, 9) := by kernel_rfl
theorem placesT_101 : VM.placesT Try.prog 101 = some [(0, 1, 9), (1, 1, 4), (2, 1, 9)] := by kernel_rfl
theorem flatT_101 : VM.flatT Try.prog 101 = some [.string, .bool, .string] := by kernel_rfl
theorem cellsOf_102 : Program.cellsOf Try.prog 102 = 1 := by kernel_rfl
theorem bytesOf_102 : Program.bytesOf Try.prog 102 = 8 := by kernel_rfl
theorem elemT_102 : VM.elemT Try.prog 102 = none := by kernel_rfl
theorem strT_102 : VM.strT Try.prog 102 = false := by kernel_rfl
theorem boolT_102 : VM.boolT Try.prog 102 = false := by kernel_rfl
theorem intT_102 : VM.intT Try.prog 102 = none := by kernel_rfl
theorem hasT_102 : VM.hasT Try.prog 102 = true := by kernel_rfl
theorem aggT_102 : VM.aggT Try.prog 102 = some false := by kernel_rfl
theorem cellsOf_103 : Program.cellsOf Try.prog 103 = 1 := by kernel_rfl
theorem bytesOf_103 : Program.bytesOf Try.prog 103 = 8 := by kernel_rfl
theorem elemT_103 : VM.elemT Try.prog 103 = none := by kernel_rfl
theorem strT_103 : VM.strT Try.prog 103 = false := by kernel_rfl
theorem boolT_103 : VM.boolT Try.prog 103 = false := by kernel_rfl
theorem intT_103 : VM.intT Try.prog 103 = none := by kernel_rfl
theorem hasT_103 : VM.hasT Try.prog 103 = true := by kernel_rfl
theorem aggT_103 : VM.aggT Try.prog 103 = some false := by kernel_rfl
theorem cellsOf_104 : Program.cellsOf Try.prog 104 = 1 := by kernel_rfl
theorem bytesOf_104 : Program.bytesOf Try.prog 104 = 8 := by kernel_rfl
theorem elemT_104 : VM.elemT Try.prog 104 = none := by kernel_rfl
theorem strT_104 : VM.strT Try.prog 104 = false := by kernel_rfl
theorem boolT_104 : VM.boolT Try.prog 104 = false := by kernel_rfl
theorem intT_104 : VM.intT Try.prog 104 = none := by kernel_rfl
theorem hasT_104 : VM.hasT Try.prog 104 = true := by kernel_rfl
theorem aggT_104 : VM.aggT Try.prog 104 = some false := by kernel_rfl
theorem cellsOf_105 : Program.cellsOf Try.prog 105 = 1 := by kernel_rfl
theorem bytesOf_105 : Program.bytesOf Try.prog 105 = 8 := by kernel_rfl
theorem elemT_105 : VM.elemT Try.prog 105 = none := by kernel_rfl
theorem strT_105 : VM.strT Try.prog 105 = false := by kernel_rfl
theorem boolT_105 : VM.boolT Try.prog 105 = false := by kernel_rfl
theorem intT_105 : VM.intT Try.prog 105 = none := by kernel_rfl
theorem hasT_105 : VM.hasT Try.prog 105 = true := by kernel_rfl
theorem aggT_105 : VM.aggT Try.prog 105 = some false := by kernel_rfl
theorem cellsOf_106 : Program.cellsOf Try.prog 106 = 1 := by kernel_rfl
theorem bytesOf_106 : Program.bytesOf Try.prog 106 = 8 := by kernel_rfl
theorem elemT_106 : VM.elemT Try.prog 106 = none := by kernel_rfl
theorem strT_106 : VM.strT Try.prog 106 = false := by kernel_rfl
theorem boolT_106 : VM.boolT Try.prog 106 = false := by kernel_rfl
theorem intT_106 : VM.intT Try.prog 106 = none := by kernel_rfl
theorem hasT_106 : VM.hasT Try.prog 106 = true := by kernel_rfl
theorem aggT_106 : VM.aggT Try.prog 106 = some false := by kernel_rfl
theorem cellsOf_107 : Program.cellsOf Try.prog 107 = 1 := by kernel_rfl
theorem bytesOf_107 : Program.bytesOf Try.prog 107 = 8 := by kernel_rfl
theorem elemT_107 : VM.elemT Try.prog 107 = none := by kernel_rfl
theorem strT_107 : VM.strT Try.prog 107 = false := by kernel_rfl
theorem boolT_107 : VM.boolT Try.prog 107 = false := by kernel_rfl
theorem intT_107 : VM.intT Try.prog 107 = none := by kernel_rfl
theorem hasT_107 : VM.hasT Try.prog 107 = true := by kernel_rfl
theorem aggT_107 : VM.aggT Try.prog 107 = some false := by kernel_rfl
theorem cellsOf_108 : Program.cellsOf Try.prog 108 = 1 := by kernel_rfl
theorem bytesOf_108 : Program.bytesOf Try.prog 108 = 8 := by kernel_rfl
theorem elemT_108 : VM.elemT Try.prog 108 = none := by kernel_rfl
theorem strT_108 : VM.strT Try.prog 108 = false := by kernel_rfl
theorem boolT_108 : VM.boolT Try.prog 108 = false := by kernel_rfl
theorem intT_108 : VM.intT Try.prog 108 = none := by kernel_rfl
theorem hasT_108 : VM.hasT Try.prog 108 = true := by kernel_rfl
theorem aggT_108 : VM.aggT Try.prog 108 = some false := by kernel_rfl
theorem cellsOf_109 : Program.cellsOf Try.prog 109 = 6 := by kernel_rfl
theorem bytesOf_109 : Program.bytesOf Try.prog 109 = 72 := by kernel_rfl
theorem elemT_109 : VM.elemT Try.prog 109 = none := by kernel_rfl
theorem strT_109 : VM.strT Try.prog 109 = false := by kernel_rfl
theorem boolT_109 : VM.boolT Try.prog 109 = false := by kernel_rfl
theorem intT_109 : VM.intT Try.prog 109 = none := by kernel_rfl
theorem hasT_109 : VM.hasT Try.prog 109 = true := by kernel_rfl
theorem aggT_109 : VM.aggT Try.prog 109 = some true := by kernel_rfl
theorem zeroT_109 : VM.zeroT Try.prog 109 = some [.int .i64 0, .int .i64 0, .str ⟨#[]⟩, .str ⟨#[]⟩, .str ⟨#[]⟩, .int .i64 0] := by kernel_rfl
theorem fieldT_109_0 : VM.fieldT Try.prog 109 0 = some (0, 3) := by kernel_rfl
theorem fieldT_109_1 : VM.fieldT Try.prog 109 1 = some (1, 82) := by kernel_rfl
theorem fieldT_109_2 : VM.fieldT Try.prog 109 2 = some (5, 3) := by kernel_rfl
theorem placesT_109 : VM.placesT Try.prog 109 = some [(0, 1, 3), (1, 4, 82), (5, 1, 3)] := by kernel_rfl
theorem cellsOf_110 : Program.cellsOf Try.prog 110 = 6 := by kernel_rfl
theorem bytesOf_110 : Program.bytesOf Try.prog 110 = 72 := by kernel_rfl
theorem elemT_110 : VM.elemT Try.prog 110 = none := by kernel_rfl
theorem strT_110 : VM.strT Try.prog 110 = false := by kernel_rfl
theorem boolT_110 : VM.boolT Try.prog 110 = false := by kernel_rfl
theorem intT_110 : VM.intT Try.prog 110 = none := by kernel_rfl
theorem hasT_110 : VM.hasT Try.prog 110 = true := by kernel_rfl
theorem aggT_110 : VM.aggT Try.prog 110 = some true := by kernel_rfl
theorem zeroT_110 : VM.zeroT Try.prog 110 = some [.int .i64 0, .int .i64 0, .str ⟨#[]⟩, .str ⟨#[]⟩, .str ⟨#[]⟩, .int .i64 0] := by kernel_rfl
theorem fieldT_110_0 : VM.fieldT Try.prog 110 0 = some (0, 3) := by kernel_rfl
theorem fieldT_110_1 : VM.fieldT Try.prog 110 1 = some (1, 82) := by kernel_rfl
theorem fieldT_110_2 : VM.fieldT Try.prog 110 2 = some (5, 3) := by kernel_rfl
theorem placesT_110 : VM.placesT Try.prog 110 = some [(0, 1, 3), (1, 4, 82), (5, 1, 3)] := by kernel_rfl
theorem cellsOf_111 : Program.cellsOf Try.prog 111 = 6 := by kernel_rfl
theorem bytesOf_111 : Program.bytesOf Try.prog 111 = 72 := by kernel_rfl
theorem elemT_111 : VM.elemT Try.prog 111 = none := by kernel_rfl
theorem strT_111 : VM.strT Try.prog 111 = false := by kernel_rfl
theorem boolT_111 : VM.boolT Try.prog 111 = false := by kernel_rfl
theorem intT_111 : VM.intT Try.prog 111 = none := by kernel_rfl
theorem hasT_111 : VM.hasT Try.prog 111 = true := by kernel_rfl
theorem aggT_111 : VM.aggT Try.prog 111 = some true := by kernel_rfl
theorem zeroT_111 : VM.zeroT Try.prog 111 = some [.int .i64 0, .int .i64 0, .str ⟨#[]⟩, .str ⟨#[]⟩, .str ⟨#[]⟩, .int .i64 0] := by kernel_rfl
theorem fieldT_111_0 : VM.fieldT Try.prog 111 0 = some (0, 3) := by kernel_rfl
theorem fieldT_111_1 : VM.fieldT Try.prog 111 1 = some (1, 86) := by kernel_rfl
theorem fieldT_111_2 : VM.fieldT Try.prog 111 2 = some (5, 3) := by kernel_rfl
theorem placesT_111 : VM.placesT Try.prog 111 = some [(0, 1, 3), (1, 4, 86), (5, 1, 3)] := by kernel_rfl
theorem cellsOf_112 : Program.cellsOf Try.prog 112 = 6 := by kernel_rfl
theorem bytesOf_112 : Program.bytesOf Try.prog 112 = 72 := by kernel_rfl
theorem elemT_112 : VM.elemT Try.prog 112 = none := by kernel_rfl
theorem strT_112 : VM.strT Try.prog 112 = false := by kernel_rfl
theorem boolT_112 : VM.boolT Try.prog 112 = false := by kernel_rfl
theorem intT_112 : VM.intT Try.prog 112 = none := by kernel_rfl
theorem hasT_112 : VM.hasT Try.prog 112 = true := by kernel_rfl
theorem aggT_112 : VM.aggT Try.prog 112 = some true := by kernel_rfl
theorem zeroT_112 : VM.zeroT Try.prog 112 = some [.int .i64 0, .int .i64 0, .str ⟨#[]⟩, .str ⟨#[]⟩, .str ⟨#[]⟩, .int .i64 0] := by kernel_rfl
theorem fieldT_112_0 : VM.fieldT Try.prog 112 0 = some (0, 3) := by kernel_rfl
theorem fieldT_112_1 : VM.fieldT Try.prog 112 1 = some (1, 86) := by kernel_rfl
theorem fieldT_112_2 : VM.fieldT Try.prog 112 2 = some (5, 3) := by kernel_rfl
theorem placesT_112 : VM.placesT Try.prog 112 = some [(0, 1, 3), (1, 4, 86), (5, 1, 3)] := by kernel_rfl
theorem cellsOf_113 : Program.cellsOf Try.prog 113 = 1 := by kernel_rfl
theorem bytesOf_113 : Program.bytesOf Try.prog 113 = 8 := by kernel_rfl
theorem elemT_113 : VM.elemT Try.prog 113 = none := by kernel_rfl
theorem strT_113 : VM.strT Try.prog 113 = false := by kernel_rfl
theorem boolT_113 : VM.boolT Try.prog 113 = false := by kernel_rfl
theorem intT_113 : VM.intT Try.prog 113 = none := by kernel_rfl
theorem hasT_113 : VM.hasT Try.prog 113 = true := by kernel_rfl
theorem aggT_113 : VM.aggT Try.prog 113 = some false := by kernel_rfl
theorem cellsOf_114 : Program.cellsOf Try.prog 114 = 1 := by kernel_rfl
theorem bytesOf_114 : Program.bytesOf Try.prog 114 = 8 := by kernel_rfl
theorem elemT_114 : VM.elemT Try.prog 114 = none := by kernel_rfl
theorem strT_114 : VM.strT Try.prog 114 = false := by kernel_rfl
theorem boolT_114 : VM.boolT Try.prog 114 = false := by kernel_rfl
theorem intT_114 : VM.intT Try.prog 114 = none := by kernel_rfl
theorem hasT_114 : VM.hasT Try.prog 114 = true := by kernel_rfl
theorem aggT_114 : VM.aggT Try.prog 114 = some false := by kernel_rfl
theorem cellsOf_115 : Program.cellsOf Try.prog 115 = 1 := by kernel_rfl
theorem bytesOf_115 : Program.bytesOf Try.prog 115 = 8 := by kernel_rfl
theorem elemT_115 : VM.elemT Try.prog 115 = none := by kernel_rfl
theorem strT_115 : VM.strT Try.prog 115 = false := by kernel_rfl
theorem boolT_115 : VM.boolT Try.prog 115 = false := by kernel_rfl
theorem intT_115 : VM.intT Try.prog 115 = none := by kernel_rfl
theorem hasT_115 : VM.hasT Try.prog 115 = true := by kernel_rfl
theorem aggT_115 : VM.aggT Try.prog 115 = some false := by kernel_rfl
theorem cellsOf_116 : Program.cellsOf Try.prog 116 = 1 := by kernel_rfl
theorem bytesOf_116 : Program.bytesOf Try.prog 116 = 8 := by kernel_rfl
theorem elemT_116 : VM.elemT Try.prog 116 = none := by kernel_rfl
theorem strT_116 : VM.strT Try.prog 116 = false := by kernel_rfl
theorem boolT_116 : VM.boolT Try.prog 116 = false := by kernel_rfl
theorem intT_116 : VM.intT Try.prog 116 = none := by kernel_rfl
theorem hasT_116 : VM.hasT Try.prog 116 = true := by kernel_rfl
theorem aggT_116 : VM.aggT Try.prog 116 = some false := by kernel_rfl
theorem cellsOf_117 : Program.cellsOf Try.prog 117 = 1 := by kernel_rfl
theorem bytesOf_117 : Program.bytesOf Try.prog 117 = 8 := by kernel_rfl
theorem elemT_117 : VM.elemT Try.prog 117 = none := by kernel_rfl
theorem strT_117 : VM.strT Try.prog 117 = false := by kernel_rfl
theorem boolT_117 : VM.boolT Try.prog 117 = false := by kernel_rfl
theorem intT_117 : VM.intT Try.prog 117 = none := by kernel_rfl
theorem hasT_117 : VM.hasT Try.prog 117 = true := by kernel_rfl
theorem aggT_117 : VM.aggT Try.prog 117 = some false := by kernel_rfl
theorem cellsOf_118 : Program.cellsOf Try.prog 118 = 1 := by kernel_rfl
theorem bytesOf_118 : Program.bytesOf Try.prog 118 = 8 := by kernel_rfl
theorem elemT_118 : VM.elemT Try.prog 118 = none := by kernel_rfl
theorem strT_118 : VM.strT Try.prog 118 = false := by kernel_rfl
theorem boolT_118 : VM.boolT Try.prog 118 = false := by kernel_rfl
theorem intT_118 : VM.intT Try.prog 118 = none := by kernel_rfl
theorem hasT_118 : VM.hasT Try.prog 118 = true := by kernel_rfl
theorem aggT_118 : VM.aggT Try.prog 118 = some false := by kernel_rfl
theorem cellsOf_119 : Program.cellsOf Try.prog 119 = 2 := by kernel_rfl
theorem bytesOf_119 : Program.bytesOf Try.prog 119 = 24 := by kernel_rfl
theorem elemT_119 : VM.elemT Try.prog 119 = none := by kernel_rfl
theorem strT_119 : VM.strT Try.prog 119 = false := by kernel_rfl
theorem boolT_119 : VM.boolT Try.prog 119 = false := by kernel_rfl
theorem intT_119 : VM.intT Try.prog 119 = none := by kernel_rfl
theorem hasT_119 : VM.hasT Try.prog 119 = true := by kernel_rfl
theorem aggT_119 : VM.aggT Try.prog 119 = some true := by kernel_rfl
theorem zeroT_119 : VM.zeroT Try.prog 119 = some [.int .i64 0, .str ⟨#[]⟩] := by kernel_rfl
theorem fieldT_119_0 : VM.fieldT Try.prog 119 0 = some (0, 3) := by kernel_rfl
theorem fieldT_119_1 : VM.fieldT Try.prog 119 1 = some (1, 9) := by kernel_rfl
theorem placesT_119 : VM.placesT Try.prog 119 = some [(0, 1, 3), (1, 1, 9)] := by kernel_rfl
theorem flatT_119 : VM.flatT Try.prog 119 = some [.int .i64, .string] := by kernel_rfl
theorem cellsOf_120 : Program.cellsOf Try.prog 120 = 2 := by kernel_rfl
theorem bytesOf_120 : Program.bytesOf Try.prog 120 = 24 := by kernel_rfl
theorem elemT_120 : VM.elemT Try.prog 120 = none := by kernel_rfl
theorem strT_120 : VM.strT Try.prog 120 = false := by kernel_rfl
theorem boolT_120 : VM.boolT Try.prog 120 = false := by kernel_rfl
theorem intT_120 : VM.intT Try.prog 120 = none := by kernel_rfl
theorem hasT_120 : VM.hasT Try.prog 120 = true := by kernel_rfl
theorem aggT_120 : VM.aggT Try.prog 120 = some true := by kernel_rfl
theorem zeroT_120 : VM.zeroT Try.prog 120 = some [.int .i64 0, .str ⟨#[]⟩] := by kernel_rfl
theorem fieldT_120_0 : VM.fieldT Try.prog 120 0 = some (0, 3) := by kernel_rfl
theorem fieldT_120_1 : VM.fieldT Try.prog 120 1 = some (1, 9) := by kernel_rfl
theorem placesT_120 : VM.placesT Try.prog 120 = some [(0, 1, 3), (1, 1, 9)] := by kernel_rfl
theorem flatT_120 : VM.flatT Try.prog 120 = some [.int .i64, .string] := by kernel_rfl
theorem cellsOf_121 : Program.cellsOf Try.prog 121 = 2 := by kernel_rfl
theorem bytesOf_121 : Program.bytesOf Try.prog 121 = 24 := by kernel_rfl
theorem elemT_121 : VM.elemT Try.prog 121 = none := by kernel_rfl
theorem strT_121 : VM.strT Try.prog 121 = false := by kernel_rfl
theorem boolT_121 : VM.boolT Try.prog 121 = false := by kernel_rfl
theorem intT_121 : VM.intT Try.prog 121 = none := by kernel_rfl
theorem hasT_121 : VM.hasT Try.prog 121 = true := by kernel_rfl
theorem aggT_121 : VM.aggT Try.prog 121 = some true := by kernel_rfl
theorem zeroT_121 : VM.zeroT Try.prog 121 = some [.int .i64 0, .str ⟨#[]⟩] := by kernel_rfl
theorem fieldT_121_0 : VM.fieldT Try.prog 121 0 = some (0, 3) := by kernel_rfl
theorem fieldT_121_1 : VM.fieldT Try.prog 121 1 = some (1, 9) := by kernel_rfl
theorem placesT_121 : VM.placesT Try.prog 121 = some [(0, 1, 3), (1, 1, 9)] := by kernel_rfl
theorem flatT_121 : VM.flatT Try.prog 121 = some [.int .i64, .string] := by kernel_rfl
theorem cellsOf_122 : Program.cellsOf Try.prog 122 = 1 := by kernel_rfl
theorem bytesOf_122 : Program.bytesOf Try.prog 122 = 8 := by kernel_rfl
theorem elemT_122 : VM.elemT Try.prog 122 = none := by kernel_rfl
theorem strT_122 : VM.strT Try.prog 122 = false := by kernel_rfl
theorem boolT_122 : VM.boolT Try.prog 122 = false := by kernel_rfl
theorem intT_122 : VM.intT Try.prog 122 = none := by kernel_rfl
theorem hasT_122 : VM.hasT Try.prog 122 = true := by kernel_rfl
theorem aggT_122 : VM.aggT Try.prog 122 = some false := by kernel_rfl
theorem cellsOf_123 : Program.cellsOf Try.prog 123 = 1 := by kernel_rfl
theorem bytesOf_123 : Program.bytesOf Try.prog 123 = 8 := by kernel_rfl
theorem elemT_123 : VM.elemT Try.prog 123 = none := by kernel_rfl
theorem strT_123 : VM.strT Try.prog 123 = false := by kernel_rfl
theorem boolT_123 : VM.boolT Try.prog 123 = false := by kernel_rfl
theorem intT_123 : VM.intT Try.prog 123 = none := by kernel_rfl
theorem hasT_123 : VM.hasT Try.prog 123 = true := by kernel_rfl
theorem aggT_123 : VM.aggT Try.prog 123 = some false := by kernel_rfl
theorem cellsOf_124 : Program.cellsOf Try.prog 124 = 1 := by kernel_rfl
theorem bytesOf_124 : Program.bytesOf Try.prog 124 = 8 := by kernel_rfl
theorem elemT_124 : VM.elemT Try.prog 124 = none := by kernel_rfl
theorem strT_124 : VM.strT Try.prog 124 = false := by kernel_rfl
theorem boolT_124 : VM.boolT Try.prog 124 = false := by kernel_rfl
theorem intT_124 : VM.intT Try.prog 124 = none := by kernel_rfl
theorem hasT_124 : VM.hasT Try.prog 124 = true := by kernel_rfl
theorem aggT_124 : VM.aggT Try.prog 124 = some false := by kernel_rfl
theorem cellsOf_125 : Program.cellsOf Try.prog 125 = 1 := by kernel_rfl
theorem bytesOf_125 : Program.bytesOf Try.prog 125 = 8 := by kernel_rfl
theorem elemT_125 : VM.elemT Try.prog 125 = none := by kernel_rfl
theorem strT_125 : VM.strT Try.prog 125 = false := by kernel_rfl
theorem boolT_125 : VM.boolT Try.prog 125 = false := by kernel_rfl
theorem intT_125 : VM.intT Try.prog 125 = none := by kernel_rfl
theorem hasT_125 : VM.hasT Try.prog 125 = true := by kernel_rfl
theorem aggT_125 : VM.aggT Try.prog 125 = some false := by kernel_rfl
theorem cellsOf_126 : Program.cellsOf Try.prog 126 = 1 := by kernel_rfl
theorem bytesOf_126 : Program.bytesOf Try.prog 126 = 8 := by kernel_rfl
theorem elemT_126 : VM.elemT Try.prog 126 = none := by kernel_rfl
theorem strT_126 : VM.strT Try.prog 126 = false := by kernel_rfl
theorem boolT_126 : VM.boolT Try.prog 126 = false := by kernel_rfl
theorem intT_126 : VM.intT Try.prog 126 = none := by kernel_rfl
theorem hasT_126 : VM.hasT Try.prog 126 = true := by kernel_rfl
theorem aggT_126 : VM.aggT Try.prog 126 = some false := by kernel_rfl
theorem cellsOf_127 : Program.cellsOf Try.prog 127 = 1 := by kernel_rfl
theorem bytesOf_127 : Program.bytesOf Try.prog 127 = 8 := by kernel_rfl
theorem elemT_127 : VM.elemT Try.prog 127 = none := by kernel_rfl
theorem strT_127 : VM.strT Try.prog 127 = false := by kernel_rfl
theorem boolT_127 : VM.boolT Try.prog 127 = false := by kernel_rfl
theorem intT_127 : VM.intT Try.prog 127 = none := by kernel_rfl
theorem hasT_127 : VM.hasT Try.prog 127 = true := by kernel_rfl
theorem aggT_127 : VM.aggT Try.prog 127 = some false := by kernel_rfl
theorem cellsOf_128 : Program.cellsOf Try.prog 128 = 1 := by kernel_rfl
theorem bytesOf_128 : Program.bytesOf Try.prog 128 = 8 := by kernel_rfl
theorem elemT_128 : VM.elemT Try.prog 128 = none := by kernel_rfl
theorem strT_128 : VM.strT Try.prog 128 = false := by kernel_rfl
theorem boolT_128 : VM.boolT Try.prog 128 = false := by kernel_rfl
theorem intT_128 : VM.intT Try.prog 128 = none := by kernel_rfl
theorem hasT_128 : VM.hasT Try.prog 128 = true := by kernel_rfl
theorem aggT_128 : VM.aggT Try.prog 128 = some false := by kernel_rfl
theorem cellsOf_129 : Program.cellsOf Try.prog 129 = 1 := by kernel_rfl
theorem bytesOf_129 : Program.bytesOf Try.prog 129 = 8 := by kernel_rfl
theorem elemT_129 : VM.elemT Try.prog 129 = none := by kernel_rfl
theorem strT_129 : VM.strT Try.prog 129 = false := by kernel_rfl
theorem boolT_129 : VM.boolT Try.prog 129 = false := by kernel_rfl
theorem intT_129 : VM.intT Try.prog 129 = none := by kernel_rfl
theorem hasT_129 : VM.hasT Try.prog 129 = true := by kernel_rfl
theorem aggT_129 : VM.aggT Try.prog 129 = some false := by kernel_rfl
theorem cellsOf_130 : Program.cellsOf Try.prog 130 = 1 := by kernel_rfl
theorem bytesOf_130 : Program.bytesOf Try.prog 130 = 8 := by kernel_rfl
theorem elemT_130 : VM.elemT Try.prog 130 = none := by kernel_rfl
theorem strT_130 : VM.strT Try.prog 130 = false := by kernel_rfl
theorem boolT_130 : VM.boolT Try.prog 130 = false := by kernel_rfl
theorem intT_130 : VM.intT Try.prog 130 = none := by kernel_rfl
theorem hasT_130 : VM.hasT Try.prog 130 = true := by kernel_rfl
theorem aggT_130 : VM.aggT Try.prog 130 = some false := by kernel_rfl
theorem cellsOf_131 : Program.cellsOf Try.prog 131 = 1 := by kernel_rfl
theorem bytesOf_131 : Program.bytesOf Try.prog 131 = 8 := by kernel_rfl
theorem elemT_131 : VM.elemT Try.prog 131 = none := by kernel_rfl
theorem strT_131 : VM.strT Try.prog 131 = false := by kernel_rfl
theorem boolT_131 : VM.boolT Try.prog 131 = false := by kernel_rfl
theorem intT_131 : VM.intT Try.prog 131 = none := by kernel_rfl
theorem hasT_131 : VM.hasT Try.prog 131 = true := by kernel_rfl
theorem aggT_131 : VM.aggT Try.prog 131 = some false := by kernel_rfl
theorem cellsOf_132 : Program.cellsOf Try.prog 132 = 1 := by kernel_rfl
theorem bytesOf_132 : Program.bytesOf Try.prog 132 = 8 := by kernel_rfl
theorem elemT_132 : VM.elemT Try.prog 132 = none := by kernel_rfl
theorem strT_132 : VM.strT Try.prog 132 = false := by kernel_rfl
theorem boolT_132 : VM.boolT Try.prog 132 = false := by kernel_rfl
theorem intT_132 : VM.intT Try.prog 132 = none := by kernel_rfl
theorem hasT_132 : VM.hasT Try.prog 132 = true := by kernel_rfl
theorem aggT_132 : VM.aggT Try.prog 132 = some false := by kernel_rfl
theorem cellsOf_133 : Program.cellsOf Try.prog 133 = 1 := by kernel_rfl
theorem bytesOf_133 : Program.bytesOf Try.prog 133 = 8 := by kernel_rfl
theorem elemT_133 : VM.elemT Try.prog 133 = none := by kernel_rfl
theorem strT_133 : VM.strT Try.prog 133 = false := by kernel_rfl
theorem boolT_133 : VM.boolT Try.prog 133 = false := by kernel_rfl
theorem intT_133 : VM.intT Try.prog 133 = none := by kernel_rfl
theorem hasT_133 : VM.hasT Try.prog 133 = true := by kernel_rfl
theorem aggT_133 : VM.aggT Try.prog 133 = some false := by kernel_rfl
theorem cellsOf_134 : Program.cellsOf Try.prog 134 = 1 := by kernel_rfl
theorem bytesOf_134 : Program.bytesOf Try.prog 134 = 8 := by kernel_rfl
theorem elemT_134 : VM.elemT Try.prog 134 = none := by kernel_rfl
theorem strT_134 : VM.strT Try.prog 134 = false := by kernel_rfl
theorem boolT_134 : VM.boolT Try.prog 134 = false := by kernel_rfl
theorem intT_134 : VM.intT Try.prog 134 = none := by kernel_rfl
theorem hasT_134 : VM.hasT Try.prog 134 = true := by kernel_rfl
theorem aggT_134 : VM.aggT Try.prog 134 = some false := by kernel_rfl
theorem cellsOf_135 : Program.cellsOf Try.prog 135 = 1 := by kernel_rfl
theorem bytesOf_135 : Program.bytesOf Try.prog 135 = 24 := by kernel_rfl
theorem elemT_135 : VM.elemT Try.prog 135 = some 5 := by kernel_rfl
theorem strT_135 : VM.strT Try.prog 135 = false := by kernel_rfl
theorem boolT_135 : VM.boolT Try.prog 135 = false := by kernel_rfl
theorem intT_135 : VM.intT Try.prog 135 = none := by kernel_rfl
theorem hasT_135 : VM.hasT Try.prog 135 = true := by kernel_rfl
theorem aggT_135 : VM.aggT Try.prog 135 = some false := by kernel_rfl
theorem zeroT_135 : VM.zeroT Try.prog 135 = some [.list true 1 []] := by kernel_rfl
theorem cellsOf_136 : Program.cellsOf Try.prog 136 = 1 := by kernel_rfl
theorem bytesOf_136 : Program.bytesOf Try.prog 136 = 8 := by kernel_rfl
theorem elemT_136 : VM.elemT Try.prog 136 = none := by kernel_rfl
theorem strT_136 : VM.strT Try.prog 136 = false := by kernel_rfl
theorem boolT_136 : VM.boolT Try.prog 136 = false := by kernel_rfl
theorem intT_136 : VM.intT Try.prog 136 = none := by kernel_rfl
theorem hasT_136 : VM.hasT Try.prog 136 = true := by kernel_rfl
theorem aggT_136 : VM.aggT Try.prog 136 = some false := by kernel_rfl
theorem cellsOf_137 : Program.cellsOf Try.prog 137 = 1 := by kernel_rfl
theorem bytesOf_137 : Program.bytesOf Try.prog 137 = 8 := by kernel_rfl
theorem elemT_137 : VM.elemT Try.prog 137 = none := by kernel_rfl
theorem strT_137 : VM.strT Try.prog 137 = false := by kernel_rfl
theorem boolT_137 : VM.boolT Try.prog 137 = false := by kernel_rfl
theorem intT_137 : VM.intT Try.prog 137 = none := by kernel_rfl
theorem hasT_137 : VM.hasT Try.prog 137 = true := by kernel_rfl
theorem aggT_137 : VM.aggT Try.prog 137 = some false := by kernel_rfl
theorem cellsOf_138 : Program.cellsOf Try.prog 138 = 1 := by kernel_rfl
theorem bytesOf_138 : Program.bytesOf Try.prog 138 = 8 := by kernel_rfl
theorem elemT_138 : VM.elemT Try.prog 138 = none := by kernel_rfl
theorem strT_138 : VM.strT Try.prog 138 = false := by kernel_rfl
theorem boolT_138 : VM.boolT Try.prog 138 = false := by kernel_rfl
theorem intT_138 : VM.intT Try.prog 138 = none := by kernel_rfl
theorem hasT_138 : VM.hasT Try.prog 138 = true := by kernel_rfl
theorem aggT_138 : VM.aggT Try.prog 138 = some false := by kernel_rfl
theorem cellsOf_139 : Program.cellsOf Try.prog 139 = 4 := by kernel_rfl
theorem bytesOf_139 : Program.bytesOf Try.prog 139 = 40 := by kernel_rfl
theorem elemT_139 : VM.elemT Try.prog 139 = none := by kernel_rfl
theorem strT_139 : VM.strT Try.prog 139 = false := by kernel_rfl
theorem boolT_139 : VM.boolT Try.prog 139 = false := by kernel_rfl
theorem intT_139 : VM.intT Try.prog 139 = none := by kernel_rfl
theorem hasT_139 : VM.hasT Try.prog 139 = true := by kernel_rfl
theorem aggT_139 : VM.aggT Try.prog 139 = some true := by kernel_rfl
theorem fieldT_139_0 : VM.fieldT Try.prog 139 0 = some (0, 17) := by kernel_rfl
theorem fieldT_139_1 : VM.fieldT Try.prog 139 1 = some (1, 17) := by kernel_rfl
theorem fieldT_139_2 : VM.fieldT Try.prog 139 2 = some (2, 17) := by kernel_rfl
theorem fieldT_139_3 : VM.fieldT Try.prog 139 3 = some (3, 9) := by kernel_rfl
theorem placesT_139 : VM.placesT Try.prog 139 = some [(0, 1, 17), (1, 1, 17), (2, 1, 17), (3, 1, 9)] := by kernel_rfl
theorem cellsOf_140 : Program.cellsOf Try.prog 140 = 4 := by kernel_rfl
theorem bytesOf_140 : Program.bytesOf Try.prog 140 = 40 := by kernel_rfl
theorem elemT_140 : VM.elemT Try.prog 140 = none := by kernel_rfl
theorem strT_140 : VM.strT Try.prog 140 = false := by kernel_rfl
theorem boolT_140 : VM.boolT Try.prog 140 = false := by kernel_rfl
theorem intT_140 : VM.intT Try.prog 140 = none := by kernel_rfl
theorem hasT_140 : VM.hasT Try.prog 140 = true := by kernel_rfl
theorem aggT_140 : VM.aggT Try.prog 140 = some true := by kernel_rfl
theorem fieldT_140_0 : VM.fieldT Try.prog 140 0 = some (0, 17) := by kernel_rfl
theorem fieldT_140_1 : VM.fieldT Try.prog 140 1 = some (1, 17) := by kernel_rfl
theorem fieldT_140_2 : VM.fieldT Try.prog 140 2 = some (2, 17) := by kernel_rfl
theorem fieldT_140_3 : VM.fieldT Try.prog 140 3 = some (3, 9) := by kernel_rfl
theorem placesT_140 : VM.placesT Try.prog 140 = some [(0, 1, 17), (1, 1, 17), (2, 1, 17), (3, 1, 9)] := by kernel_rfl
theorem cellsOf_144 : Program.cellsOf Try.prog 144 = 1 := by kernel_rfl
theorem bytesOf_144 : Program.bytesOf Try.prog 144 = 8 := by kernel_rfl
theorem elemT_144 : VM.elemT Try.prog 144 = none := by kernel_rfl
theorem strT_144 : VM.strT Try.prog 144 = false := by kernel_rfl
theorem boolT_144 : VM.boolT Try.prog 144 = false := by kernel_rfl
theorem intT_144 : VM.intT Try.prog 144 = none := by kernel_rfl
theorem hasT_144 : VM.hasT Try.prog 144 = true := by kernel_rfl
theorem aggT_144 : VM.aggT Try.prog 144 = some false := by kernel_rfl
theorem cellsOf_145 : Program.cellsOf Try.prog 145 = 1 := by kernel_rfl
theorem bytesOf_145 : Program.bytesOf Try.prog 145 = 4 := by kernel_rfl
theorem elemT_145 : VM.elemT Try.prog 145 = none := by kernel_rfl
theorem strT_145 : VM.strT Try.prog 145 = false := by kernel_rfl
theorem boolT_145 : VM.boolT Try.prog 145 = false := by kernel_rfl
theorem intT_145 : VM.intT Try.prog 145 = some .u32 := by kernel_rfl
theorem hasT_145 : VM.hasT Try.prog 145 = true := by kernel_rfl
theorem aggT_145 : VM.aggT Try.prog 145 = some false := by kernel_rfl
theorem zeroT_145 : VM.zeroT Try.prog 145 = some [.int .u32 0] := by kernel_rfl
theorem cellsOf_146 : Program.cellsOf Try.prog 146 = 1 := by kernel_rfl
theorem bytesOf_146 : Program.bytesOf Try.prog 146 = 1 := by kernel_rfl
theorem elemT_146 : VM.elemT Try.prog 146 = none := by kernel_rfl
theorem strT_146 : VM.strT Try.prog 146 = false := by kernel_rfl
theorem boolT_146 : VM.boolT Try.prog 146 = false := by kernel_rfl
theorem intT_146 : VM.intT Try.prog 146 = some .u8 := by kernel_rfl
theorem hasT_146 : VM.hasT Try.prog 146 = true := by kernel_rfl
theorem aggT_146 : VM.aggT Try.prog 146 = some false := by kernel_rfl
theorem zeroT_146 : VM.zeroT Try.prog 146 = some [.int .u8 0] := by kernel_rfl
theorem cellsOf_147 : Program.cellsOf Try.prog 147 = 1 := by kernel_rfl
theorem bytesOf_147 : Program.bytesOf Try.prog 147 = 1 := by kernel_rfl
theorem elemT_147 : VM.elemT Try.prog 147 = none := by kernel_rfl
theorem strT_147 : VM.strT Try.prog 147 = false := by kernel_rfl
theorem boolT_147 : VM.boolT Try.prog 147 = false := by kernel_rfl
theorem intT_147 : VM.intT Try.prog 147 = some .u8 := by kernel_rfl
theorem hasT_147 : VM.hasT Try.prog 147 = true := by kernel_rfl
theorem aggT_147 : VM.aggT Try.prog 147 = some false := by kernel_rfl
theorem zeroT_147 : VM.zeroT Try.prog 147 = some [.int .u8 0] := by kernel_rfl
theorem cellsOf_148 : Program.cellsOf Try.prog 148 = 1 := by kernel_rfl
theorem bytesOf_148 : Program.bytesOf Try.prog 148 = 8 := by kernel_rfl
theorem elemT_148 : VM.elemT Try.prog 148 = none := by kernel_rfl
theorem strT_148 : VM.strT Try.prog 148 = false := by kernel_rfl
theorem boolT_148 : VM.boolT Try.prog 148 = false := by kernel_rfl
theorem intT_148 : VM.intT Try.prog 148 = none := by kernel_rfl
theorem hasT_148 : VM.hasT Try.prog 148 = true := by kernel_rfl
theorem aggT_148 : VM.aggT Try.prog 148 = some false := by kernel_rfl
theorem cellsOf_150 : Program.cellsOf Try.prog 150 = 1 := by kernel_rfl
theorem bytesOf_150 : Program.bytesOf Try.prog 150 = 4 := by kernel_rfl
theorem elemT_150 : VM.elemT Try.prog 150 = none := by kernel_rfl
theorem strT_150 : VM.strT Try.prog 150 = false := by kernel_rfl
theorem boolT_150 : VM.boolT Try.prog 150 = false := by kernel_rfl
theorem intT_150 : VM.intT Try.prog 150 = some .i32 := by kernel_rfl
theorem hasT_150 : VM.hasT Try.prog 150 = true := by kernel_rfl
theorem aggT_150 : VM.aggT Try.prog 150 = some false := by kernel_rfl
theorem zeroT_150 : VM.zeroT Try.prog 150 = some [.int .i32 0] := by kernel_rfl
theorem cellsOf_151 : Program.cellsOf Try.prog 151 = 1 := by kernel_rfl
theorem bytesOf_151 : Program.bytesOf Try.prog 151 = 4 := by kernel_rfl
theorem elemT_151 : VM.elemT Try.prog 151 = none := by kernel_rfl
theorem strT_151 : VM.strT Try.prog 151 = false := by kernel_rfl
theorem boolT_151 : VM.boolT Try.prog 151 = false := by kernel_rfl
theorem intT_151 : VM.intT Try.prog 151 = some .i32 := by kernel_rfl
theorem hasT_151 : VM.hasT Try.prog 151 = true := by kernel_rfl
theorem aggT_151 : VM.aggT Try.prog 151 = some false := by kernel_rfl
theorem zeroT_151 : VM.zeroT Try.prog 151 = some [.int .i32 0] := by kernel_rfl
theorem cellsOf_152 : Program.cellsOf Try.prog 152 = 11 := by kernel_rfl
theorem bytesOf_152 : Program.bytesOf Try.prog 152 = 48 := by kernel_rfl
theorem elemT_152 : VM.elemT Try.prog 152 = none := by kernel_rfl
theorem strT_152 : VM.strT Try.prog 152 = false := by kernel_rfl
theorem boolT_152 : VM.boolT Try.prog 152 = false := by kernel_rfl
theorem intT_152 : VM.intT Try.prog 152 = none := by kernel_rfl
theorem hasT_152 : VM.hasT Try.prog 152 = true := by kernel_rfl
theorem aggT_152 : VM.aggT Try.prog 152 = some true := by kernel_rfl
theorem fieldT_152_0 : VM.fieldT Try.prog 152 0 = some (0, 12) := by kernel_rfl
theorem fieldT_152_1 : VM.fieldT Try.prog 152 1 = some (1, 12) := by kernel_rfl
theorem fieldT_152_2 : VM.fieldT Try.prog 152 2 = some (2, 145) := by kernel_rfl
theorem fieldT_152_3 : VM.fieldT Try.prog 152 3 = some (3, 146) := by kernel_rfl
theorem fieldT_152_4 : VM.fieldT Try.prog 152 4 = some (4, 5) := by kernel_rfl
theorem fieldT_152_5 : VM.fieldT Try.prog 152 5 = some (5, 5) := by kernel_rfl
theorem fieldT_152_6 : VM.fieldT Try.prog 152 6 = some (6, 147) := by kernel_rfl
theorem fieldT_152_7 : VM.fieldT Try.prog 152 7 = some (7, 148) := by kernel_rfl
theorem fieldT_152_8 : VM.fieldT Try.prog 152 8 = some (8, 149) := by kernel_rfl
theorem fieldT_152_9 : VM.fieldT Try.prog 152 9 = some (9, 150) := by kernel_rfl
theorem fieldT_152_10 : VM.fieldT Try.prog 152 10 = some (10, 151) := by kernel_rfl
theorem placesT_152 : VM.placesT Try.prog 152 = some [(0, 1, 12), (1, 1, 12), (2, 1, 145), (3, 1, 146), (4, 1, 5), (5, 1, 5), (6, 1, 147), (7, 1, 148), (8, 1, 149), (9, 1, 150), (10, 1, 151)] := by kernel_rfl
theorem cellsOf_153 : Program.cellsOf Try.prog 153 = 11 := by kernel_rfl
theorem bytesOf_153 : Program.bytesOf Try.prog 153 = 48 := by kernel_rfl
theorem elemT_153 : VM.elemT Try.prog 153 = none := by kernel_rfl
theorem strT_153 : VM.strT Try.prog 153 = false := by kernel_rfl
theorem boolT_153 : VM.boolT Try.prog 153 = false := by kernel_rfl
theorem intT_153 : VM.intT Try.prog 153 = none := by kernel_rfl
theorem hasT_153 : VM.hasT Try.prog 153 = true := by kernel_rfl
theorem aggT_153 : VM.aggT Try.prog 153 = some true := by kernel_rfl
theorem fieldT_153_0 : VM.fieldT Try.prog 153 0 = some (0, 12) := by kernel_rfl
theorem fieldT_153_1 : VM.fieldT Try.prog 153 1 = some (1, 12) := by kernel_rfl
theorem fieldT_153_2 : VM.fieldT Try.prog 153 2 = some (2, 145) := by kernel_rfl
theorem fieldT_153_3 : VM.fieldT Try.prog 153 3 = some (3, 146) := by kernel_rfl
theorem fieldT_153_4 : VM.fieldT Try.prog 153 4 = some (4, 5) := by kernel_rfl
theorem fieldT_153_5 : VM.fieldT Try.prog 153 5 = some (5, 5) := by kernel_rfl
theorem fieldT_153_6 : VM.fieldT Try.prog 153 6 = some (6, 147) := by kernel_rfl
theorem fieldT_153_7 : VM.fieldT Try.prog 153 7 = some (7, 148) := by kernel_rfl
theorem fieldT_153_8 : VM.fieldT Try.prog 153 8 = some (8, 149) := by kernel_rfl
theorem fieldT_153_9 : VM.fieldT Try.prog 153 9 = some (9, 150) := by kernel_rfl
theorem fieldT_153_10 : VM.fieldT Try.prog 153 10 = some (10, 151) := by kernel_rfl
theorem placesT_153 : VM.placesT Try.prog 153 = some [(0, 1, 12), (1, 1, 12), (2, 1, 145), (3, 1, 146), (4, 1, 5), (5, 1, 5), (6, 1, 147), (7, 1, 148), (8, 1, 149), (9, 1, 150), (10, 1, 151)] := by kernel_rfl
attribute [go_sem] cellsOf_1 bytesOf_1 elemT_1 strT_1 boolT_1 intT_1 hasT_1 aggT_1 cellsOf_2 bytesOf_2 elemT_2 strT_2 boolT_2 intT_2 hasT_2 aggT_2 zeroT_2 cellsOf_3 bytesOf_3 elemT_3 strT_3 boolT_3 intT_3 hasT_3 aggT_3 zeroT_3 cellsOf_4 bytesOf_4 elemT_4 strT_4 boolT_4 intT_4 hasT_4 aggT_4 zeroT_4 cellsOf_5 bytesOf_5 elemT_5 strT_5 boolT_5 intT_5 hasT_5 aggT_5 zeroT_5 cellsOf_6 bytesOf_6 elemT_6 strT_6 boolT_6 intT_6 hasT_6 aggT_6 zeroT_6 cellsOf_7 bytesOf_7 elemT_7 strT_7 boolT_7 intT_7 hasT_7 aggT_7 zeroT_7 fieldT_7_0 fieldT_7_1 fieldT_7_2 fieldT_7_3 placesT_7 flatT_7 cellsOf_8 bytesOf_8 elemT_8 strT_8 boolT_8 intT_8 hasT_8 aggT_8 zeroT_8 fieldT_8_0 fieldT_8_1 fieldT_8_2 fieldT_8_3 placesT_8 flatT_8 cellsOf_9 bytesOf_9 elemT_9 strT_9 boolT_9 intT_9 hasT_9 aggT_9 zeroT_9 cellsOf_10 bytesOf_10 elemT_10 strT_10 boolT_10 intT_10 hasT_10 aggT_10 zeroT_10 cellsOf_11 bytesOf_11 elemT_11 strT_11 boolT_11 intT_11 hasT_11 aggT_11 zeroT_11 cellsOf_12 bytesOf_12 elemT_12 strT_12 boolT_12 intT_12 hasT_12 aggT_12 zeroT_12 cellsOf_18 bytesOf_18 elemT_18 strT_18 boolT_18 intT_18 hasT_18 aggT_18 fieldT_18_0 placesT_18 cellsOf_19 bytesOf_19 elemT_19 strT_19 boolT_19 intT_19 hasT_19 aggT_19 fieldT_19_0 placesT_19 cellsOf_21 bytesOf_21 elemT_21 strT_21 boolT_21 intT_21 hasT_21 aggT_21 zeroT_21 cellsOf_22 bytesOf_22 elemT_22 strT_22 boolT_22 intT_22 hasT_22 aggT_22 cellsOf_23 bytesOf_23 elemT_23 strT_23 boolT_23 intT_23 hasT_23 aggT_23 cellsOf_24 bytesOf_24 elemT_24 strT_24 boolT_24 intT_24 hasT_24 aggT_24 zeroT_24 cellsOf_25 bytesOf_25 elemT_25 strT_25 boolT_25 intT_25 hasT_25 aggT_25 cellsOf_26 bytesOf_26 elemT_26 strT_26 boolT_26 intT_26 hasT_26 aggT_26 cellsOf_27 bytesOf_27 elemT_27 strT_27 boolT_27 intT_27 hasT_27 aggT_27 zeroT_27 cellsOf_28 bytesOf_28 elemT_28 strT_28 boolT_28 intT_28 hasT_28 aggT_28 cellsOf_29 bytesOf_29 elemT_29 strT_29 boolT_29 intT_29 hasT_29 aggT_29 cellsOf_30 bytesOf_30 elemT_30 strT_30 boolT_30 intT_30 hasT_30 aggT_30 cellsOf_31 bytesOf_31 elemT_31 strT_31 boolT_31 intT_31 hasT_31 aggT_31 cellsOf_32 bytesOf_32 elemT_32 strT_32 boolT_32 intT_32 hasT_32 aggT_32 cellsOf_33 bytesOf_33 elemT_33 strT_33 boolT_33 intT_33 hasT_33 aggT_33 cellsOf_34 bytesOf_34 elemT_34 strT_34 boolT_34 intT_34 hasT_34 aggT_34 zeroT_34 cellsOf_35 bytesOf_35 elemT_35 strT_35 boolT_35 intT_35 hasT_35 aggT_35 cellsOf_36 bytesOf_36 elemT_36 strT_36 boolT_36 intT_36 hasT_36 aggT_36 cellsOf_37 bytesOf_37 elemT_37 strT_37 boolT_37 intT_37 hasT_37 aggT_37 zeroT_37 cellsOf_38 bytesOf_38 elemT_38 strT_38 boolT_38 intT_38 hasT_38 aggT_38 cellsOf_39 bytesOf_39 elemT_39 strT_39 boolT_39 intT_39 hasT_39 aggT_39 cellsOf_40 bytesOf_40 elemT_40 strT_40 boolT_40 intT_40 hasT_40 aggT_40 cellsOf_41 bytesOf_41 elemT_41 strT_41 boolT_41 intT_41 hasT_41 aggT_41 zeroT_41 cellsOf_42 bytesOf_42 elemT_42 strT_42 boolT_42 intT_42 hasT_42 aggT_42 zeroT_42 cellsOf_43 bytesOf_43 elemT_43 strT_43 boolT_43 intT_43 hasT_43 aggT_43 cellsOf_44 bytesOf_44 elemT_44 strT_44 boolT_44 intT_44 hasT_44 aggT_44 cellsOf_45 bytesOf_45 elemT_45 strT_45 boolT_45 intT_45 hasT_45 aggT_45 cellsOf_46 bytesOf_46 elemT_46 strT_46 boolT_46 intT_46 hasT_46 aggT_46 cellsOf_47 bytesOf_47 elemT_47 strT_47 boolT_47 intT_47 hasT_47 aggT_47 zeroT_47 cellsOf_48 bytesOf_48 elemT_48 strT_48 boolT_48 intT_48 hasT_48 aggT_48 cellsOf_49 bytesOf_49 elemT_49 strT_49 boolT_49 intT_49 hasT_49 aggT_49 cellsOf_50 bytesOf_50 elemT_50 strT_50 boolT_50 intT_50 hasT_50 aggT_50 cellsOf_51 bytesOf_51 elemT_51 strT_51 boolT_51 intT_51 hasT_51 aggT_51 cellsOf_52 bytesOf_52 elemT_52 strT_52 boolT_52 intT_52 hasT_52 aggT_52 cellsOf_53 bytesOf_53 elemT_53 strT_53 boolT_53 intT_53 hasT_53 aggT_53 zeroT_53 cellsOf_54 bytesOf_54 elemT_54 strT_54 boolT_54 intT_54 hasT_54 aggT_54 zeroT_54 cellsOf_55 bytesOf_55 elemT_55 strT_55 boolT_55 intT_55 hasT_55 aggT_55 zeroT_55 fieldT_55_0 fieldT_55_1 placesT_55 cellsOf_56 bytesOf_56 elemT_56 strT_56 boolT_56 intT_56 hasT_56 aggT_56 zeroT_56 fieldT_56_0 fieldT_56_1 placesT_56 cellsOf_57 bytesOf_57 elemT_57 strT_57 boolT_57 intT_57 hasT_57 aggT_57 cellsOf_58 bytesOf_58 elemT_58 strT_58 boolT_58 intT_58 hasT_58 aggT_58 cellsOf_59 bytesOf_59 elemT_59 strT_59 boolT_59 intT_59 hasT_59 aggT_59 zeroT_59 cellsOf_60 bytesOf_60 elemT_60 strT_60 boolT_60 intT_60 hasT_60 aggT_60 zeroT_60 cellsOf_61 bytesOf_61 elemT_61 strT_61 boolT_61 intT_61 hasT_61 aggT_61 zeroT_61 fieldT_61_0 fieldT_61_1 placesT_61 cellsOf_62 bytesOf_62 elemT_62 strT_62 boolT_62 intT_62 hasT_62 aggT_62 zeroT_62 fieldT_62_0 fieldT_62_1 placesT_62 cellsOf_63 bytesOf_63 elemT_63 strT_63 boolT_63 intT_63 hasT_63 aggT_63 cellsOf_64 bytesOf_64 elemT_64 strT_64 boolT_64 intT_64 hasT_64 aggT_64 cellsOf_65 bytesOf_65 elemT_65 strT_65 boolT_65 intT_65 hasT_65 aggT_65 cellsOf_66 bytesOf_66 elemT_66 strT_66 boolT_66 intT_66 hasT_66 aggT_66 zeroT_66 fieldT_66_0 fieldT_66_1 fieldT_66_2 fieldT_66_3 placesT_66 cellsOf_67 bytesOf_67 elemT_67 strT_67 boolT_67 intT_67 hasT_67 aggT_67 zeroT_67 fieldT_67_0 fieldT_67_1 fieldT_67_2 fieldT_67_3 placesT_67 cellsOf_68 bytesOf_68 elemT_68 strT_68 boolT_68 intT_68 hasT_68 aggT_68 cellsOf_69 bytesOf_69 elemT_69 strT_69 boolT_69 intT_69 hasT_69 aggT_69 cellsOf_70 bytesOf_70 elemT_70 strT_70 boolT_70 intT_70 hasT_70 aggT_70 zeroT_70 fieldT_70_0 fieldT_70_1 fieldT_70_2 fieldT_70_3 placesT_70 cellsOf_71 bytesOf_71 elemT_71 strT_71 boolT_71 intT_71 hasT_71 aggT_71 zeroT_71 fieldT_71_0 fieldT_71_1 fieldT_71_2 fieldT_71_3 placesT_71 cellsOf_72 bytesOf_72 elemT_72 strT_72 boolT_72 intT_72 hasT_72 aggT_72 cellsOf_73 bytesOf_73 elemT_73 strT_73 boolT_73 intT_73 hasT_73 aggT_73 cellsOf_74 bytesOf_74 elemT_74 strT_74 boolT_74 intT_74 hasT_74 aggT_74 cellsOf_75 bytesOf_75 elemT_75 strT_75 boolT_75 intT_75 hasT_75 aggT_75 zeroT_75 fieldT_75_0 fieldT_75_1 placesT_75 flatT_75 cellsOf_76 bytesOf_76 elemT_76 strT_76 boolT_76 intT_76 hasT_76 aggT_76 zeroT_76 fieldT_76_0 fieldT_76_1 placesT_76 flatT_76 cellsOf_78 bytesOf_78 elemT_78 strT_78 boolT_78 intT_78 hasT_78 aggT_78 cellsOf_79 bytesOf_79 elemT_79 strT_79 boolT_79 intT_79 hasT_79 aggT_79 cellsOf_80 bytesOf_80 elemT_80 strT_80 boolT_80 intT_80 hasT_80 aggT_80 cellsOf_81 bytesOf_81 elemT_81 strT_81 boolT_81 intT_81 hasT_81 aggT_81 zeroT_81 fieldT_81_0 fieldT_81_1 fieldT_81_2 fieldT_81_3 placesT_81 flatT_81 cellsOf_82 bytesOf_82 elemT_82 strT_82 boolT_82 intT_82 hasT_82 aggT_82 zeroT_82 fieldT_82_0 fieldT_82_1 fieldT_82_2 fieldT_82_3 placesT_82 flatT_82 cellsOf_83 bytesOf_83 elemT_83 strT_83 boolT_83 intT_83 hasT_83 aggT_83 cellsOf_85 bytesOf_85 elemT_85 strT_85 boolT_85 intT_85 hasT_85 aggT_85 cellsOf_86 bytesOf_86 elemT_86 strT_86 boolT_86 intT_86 hasT_86 aggT_86 zeroT_86 fieldT_86_0 fieldT_86_1 fieldT_86_2 fieldT_86_3 placesT_86 flatT_86 cellsOf_87 bytesOf_87 elemT_87 strT_87 boolT_87 intT_87 hasT_87 aggT_87 cellsOf_88 bytesOf_88 elemT_88 strT_88 boolT_88 intT_88 hasT_88 aggT_88 cellsOf_90 bytesOf_90 elemT_90 strT_90 boolT_90 intT_90 hasT_90 aggT_90 cellsOf_91 bytesOf_91 elemT_91 strT_91 boolT_91 intT_91 hasT_91 aggT_91 cellsOf_92 bytesOf_92 elemT_92 strT_92 boolT_92 intT_92 hasT_92 aggT_92 zeroT_92 fieldT_92_0 fieldT_92_1 placesT_92 flatT_92 cellsOf_93 bytesOf_93 elemT_93 strT_93 boolT_93 intT_93 hasT_93 aggT_93 cellsOf_94 bytesOf_94 elemT_94 strT_94 boolT_94 intT_94 hasT_94 aggT_94 cellsOf_95 bytesOf_95 elemT_95 strT_95 boolT_95 intT_95 hasT_95 aggT_95 cellsOf_96 bytesOf_96 elemT_96 strT_96 boolT_96 intT_96 hasT_96 aggT_96 cellsOf_97 bytesOf_97 elemT_97 strT_97 boolT_97 intT_97 hasT_97 aggT_97 cellsOf_98 bytesOf_98 elemT_98 strT_98 boolT_98 intT_98 hasT_98 aggT_98 cellsOf_99 bytesOf_99 elemT_99 strT_99 boolT_99 intT_99 hasT_99 aggT_99 zeroT_99 fieldT_99_0 fieldT_99_1 fieldT_99_2 placesT_99 flatT_99 cellsOf_100 bytesOf_100 elemT_100 strT_100 boolT_100 intT_100 hasT_100 aggT_100 zeroT_100 fieldT_100_0 fieldT_100_1 fieldT_100_2 placesT_100 flatT_100 cellsOf_101 bytesOf_101 elemT_101 strT_101 boolT_101 intT_101 hasT_101 aggT_101 zeroT_101 fieldT_101_0 fieldT_101_1 fieldT_101_2 placesT_101 flatT_101 cellsOf_102 bytesOf_102 elemT_102 strT_102 boolT_102 intT_102 hasT_102 aggT_102 cellsOf_103 bytesOf_103 elemT_103 strT_103 boolT_103 intT_103 hasT_103 aggT_103 cellsOf_104 bytesOf_104 elemT_104 strT_104 boolT_104 intT_104 hasT_104 aggT_104 cellsOf_105 bytesOf_105 elemT_105 strT_105 boolT_105 intT_105 hasT_105 aggT_105 cellsOf_106 bytesOf_106 elemT_106 strT_106 boolT_106 intT_106 hasT_106 aggT_106 cellsOf_107 bytesOf_107 elemT_107 strT_107 boolT_107 intT_107 hasT_107 aggT_107 cellsOf_108 bytesOf_108 elemT_108 strT_108 boolT_108 intT_108 hasT_108 aggT_108 cellsOf_109 bytesOf_109 elemT_109 strT_109 boolT_109 intT_109 hasT_109 aggT_109 zeroT_109 fieldT_109_0 fieldT_109_1 fieldT_109_2 placesT_109 cellsOf_110 bytesOf_110 elemT_110 strT_110 boolT_110 intT_110 hasT_110 aggT_110 zeroT_110 fieldT_110_0 fieldT_110_1 fieldT_110_2 placesT_110 cellsOf_111 bytesOf_111 elemT_111 strT_111 boolT_111 intT_111 hasT_111 aggT_111 zeroT_111 fieldT_111_0 fieldT_111_1 fieldT_111_2 placesT_111 cellsOf_112 bytesOf_112 elemT_112 strT_112 boolT_112 intT_112 hasT_112 aggT_112 zeroT_112 fieldT_112_0 fieldT_112_1 fieldT_112_2 placesT_112 cellsOf_113 bytesOf_113 elemT_113 strT_113 boolT_113 intT_113 hasT_113 aggT_113 cellsOf_114 bytesOf_114 elemT_114 strT_114 boolT_114 intT_114 hasT_114 aggT_114 cellsOf_115 bytesOf_115 elemT_115 strT_115 boolT_115 intT_115 hasT_115 aggT_115 cellsOf_116 bytesOf_116 elemT_116 strT_116 boolT_116 intT_116 hasT_116 aggT_116 cellsOf_117 bytesOf_117 elemT_117 strT_117 boolT_117 intT_117 hasT_117 aggT_117 cellsOf_118 bytesOf_118 elemT_118 strT_118 boolT_118 intT_118 hasT_118 aggT_118 cellsOf_119 bytesOf_119 elemT_119 strT_119 boolT_119 intT_119 hasT_119 aggT_119 zeroT_119 fieldT_119_0 fieldT_119_1 placesT_119 flatT_119 cellsOf_120 bytesOf_120 elemT_120 strT_120 boolT_120 intT_120 hasT_120 aggT_120 zeroT_120 fieldT_120_0 fieldT_120_1 placesT_120 flatT_120 cellsOf_121 bytesOf_121 elemT_121 strT_121 boolT_121 intT_121 hasT_121 aggT_121 zeroT_121 fieldT_121_0 fieldT_121_1 placesT_121 flatT_121 cellsOf_122 bytesOf_122 elemT_122 strT_122 boolT_122 intT_122 hasT_122 aggT_122 cellsOf_123 bytesOf_123 elemT_123 strT_123 boolT_123 intT_123 hasT_123 aggT_123 cellsOf_124 bytesOf_124 elemT_124 strT_124 boolT_124 intT_124 hasT_124 aggT_124 cellsOf_125 bytesOf_125 elemT_125 strT_125 boolT_125 intT_125 hasT_125 aggT_125 cellsOf_126 bytesOf_126 elemT_126 strT_126 boolT_126 intT_126 hasT_126 aggT_126 cellsOf_127 bytesOf_127 elemT_127 strT_127 boolT_127 intT_127 hasT_127 aggT_127 cellsOf_128 bytesOf_128 elemT_128 strT_128 boolT_128 intT_128 hasT_128 aggT_128 cellsOf_129 bytesOf_129 elemT_129 strT_129 boolT_129 intT_129 hasT_129 aggT_129 cellsOf_130 bytesOf_130 elemT_130 strT_130 boolT_130 intT_130 hasT_130 aggT_130 cellsOf_131 bytesOf_131 elemT_131 strT_131 boolT_131 intT_131 hasT_131 aggT_131 cellsOf_132 bytesOf_132 elemT_132 strT_132 boolT_132 intT_132 hasT_132 aggT_132 cellsOf_133 bytesOf_133 elemT_133 strT_133 boolT_133 intT_133 hasT_133 aggT_133 cellsOf_134 bytesOf_134 elemT_134 strT_134 boolT_134 intT_134 hasT_134 aggT_134 cellsOf_135 bytesOf_135 elemT_135 strT_135 boolT_135 intT_135 hasT_135 aggT_135 zeroT_135 cellsOf_136 bytesOf_136 elemT_136 strT_136 boolT_136 intT_136 hasT_136 aggT_136 cellsOf_137 bytesOf_137 elemT_137 strT_137 boolT_137 intT_137 hasT_137 aggT_137 cellsOf_138 bytesOf_138 elemT_138 strT_138 boolT_138 intT_138 hasT_138 aggT_138 cellsOf_139 bytesOf_139 elemT_139 strT_139 boolT_139 intT_139 hasT_139 aggT_139 fieldT_139_0 fieldT_139_1 fieldT_139_2 fieldT_139_3 placesT_139 cellsOf_140 bytesOf_140 elemT_140 strT_140 boolT_140 intT_140 hasT_140 aggT_140 fieldT_140_0 fieldT_140_1 fieldT_140_2 fieldT_140_3 placesT_140 cellsOf_144 bytesOf_144 elemT_144 strT_144 boolT_144 intT_144 hasT_144 aggT_144 cellsOf_145 bytesOf_145 elemT_145 strT_145 boolT_145 intT_145 hasT_145 aggT_145 zeroT_145 cellsOf_146 bytesOf_146 elemT_146 strT_146 boolT_146 intT_146 hasT_146 aggT_146 zeroT_146 cellsOf_147 bytesOf_147 elemT_147 strT_147 boolT_147 intT_147 hasT_147 aggT_147 zeroT_147 cellsOf_148 bytesOf_148 elemT_148 strT_148 boolT_148 intT_148 hasT_148 aggT_148 cellsOf_150 bytesOf_150 elemT_150 strT_150 boolT_150 intT_150 hasT_150 aggT_150 zeroT_150 cellsOf_151 bytesOf_151 elemT_151 strT_151 boolT_151 intT_151 hasT_151 aggT_151 zeroT_151 cellsOf_152 bytesOf_152 elemT_152 strT_152 boolT_152 intT_152 hasT_152 aggT_152 fieldT_152_0 fieldT_152_1 fieldT_152_2 fieldT_152_3 fieldT_152_4 fieldT_152_5 fieldT_152_6 fieldT_152_7 fieldT_152_8 fieldT_152_9 fieldT_152_10 placesT_152 cellsOf_153 bytesOf_153 elemT_153 strT_153 boolT_153 intT_153 hasT_153 aggT_153 fieldT_153_0 fieldT_153_1 fieldT_153_2 fieldT_153_3 fieldT_153_4 fieldT_153_5 fieldT_153_6 fieldT_153_7 fieldT_153_8 fieldT_153_9 fieldT_153_10 placesT_153
end Go.Proofs.Ytcdgdiheoejjgaa
