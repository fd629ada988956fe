/- What the machine asks of the program's types. Printed by a program (facts.py). -/
import Derived.Test.YtcdgdiheoejjgaaVSym
import Derived.Test.YtcdgdiheoejjgaaProg
import Derived.KernelRfl
namespace Go.Proofs.Ytcdgdiheoejjgaa
theorem cellsOf_1 : Program.cellsOf Try.prog 1 = 1 := by kernel_rfl
theorem bytesOf_1 : Program.bytesOf Try.prog 1 = 8 := by kernel_rfl
theorem elemT_1 : VM.elemT Try.prog 1 = none := by kernel_rfl
theorem strT_1 : VM.strT Try.prog 1 = false := by kernel_rfl
theorem boolT_1 : VM.boolT Try.prog 1 = false := by kernel_rfl
theorem intT_1 : VM.intT Try.prog 1 = none := by kernel_rfl
theorem hasT_1 : VM.hasT Try.prog 1 = true := by kernel_rfl
theorem aggT_1 : VM.aggT Try.prog 1 = some false := by kernel_rfl
theorem cellsOf_2 : Program.cellsOf Try.prog 2 = 1 := by kernel_rfl
theorem bytesOf_2 : Program.bytesOf Try.prog 2 = 8 := by kernel_rfl
theorem elemT_2 : VM.elemT Try.prog 2 = none := by kernel_rfl
theorem strT_2 : VM.strT Try.prog 2 = false := by kernel_rfl
theorem boolT_2 : VM.boolT Try.prog 2 = false := by kernel_rfl
theorem intT_2 : VM.intT Try.prog 2 = some .i64 := by kernel_rfl
theorem hasT_2 : VM.hasT Try.prog 2 = true := by kernel_rfl
theorem aggT_2 : VM.aggT Try.prog 2 = some false := by kernel_rfl
theorem zeroT_2 : VM.zeroT Try.prog 2 = some [.int .i64 0] := by kernel_rfl
theorem cellsOf_3 : Program.cellsOf Try.prog 3 = 1 := by kernel_rfl
theorem bytesOf_3 : Program.bytesOf Try.prog 3 = 8 := by kernel_rfl
theorem elemT_3 : VM.elemT Try.prog 3 = none := by kernel_rfl
theorem strT_3 : VM.strT Try.prog 3 = false := by kernel_rfl
theorem boolT_3 : VM.boolT Try.prog 3 = false := by kernel_rfl
theorem intT_3 : VM.intT Try.prog 3 = some .i64 := by kernel_rfl
theorem hasT_3 : VM.hasT Try.prog 3 = true := by kernel_rfl
theorem aggT_3 : VM.aggT Try.prog 3 = some false := by kernel_rfl
theorem zeroT_3 : VM.zeroT Try.prog 3 = some [.int .i64 0] := by kernel_rfl
theorem cellsOf_4 : Program.cellsOf Try.prog 4 = 1 := by kernel_rfl
theorem bytesOf_4 : Program.bytesOf Try.prog 4 = 1 := by kernel_rfl
theorem elemT_4 : VM.elemT Try.prog 4 = none := by kernel_rfl
theorem strT_4 : VM.strT Try.prog 4 = false := by kernel_rfl
theorem boolT_4 : VM.boolT Try.prog 4 = true := by kernel_rfl
theorem intT_4 : VM.intT Try.prog 4 = none := by kernel_rfl
theorem hasT_4 : VM.hasT Try.prog 4 = true := by kernel_rfl
theorem aggT_4 : VM.aggT Try.prog 4 = some false := by kernel_rfl
theorem zeroT_4 : VM.zeroT Try.prog 4 = some [.bool false] := by kernel_rfl
theorem cellsOf_5 : Program.cellsOf Try.prog 5 = 1 := by kernel_rfl
theorem bytesOf_5 : Program.bytesOf Try.prog 5 = 1 := by kernel_rfl
theorem elemT_5 : VM.elemT Try.prog 5 = none := by kernel_rfl
theorem strT_5 : VM.strT Try.prog 5 = false := by kernel_rfl
theorem boolT_5 : VM.boolT Try.prog 5 = false := by kernel_rfl
theorem intT_5 : VM.intT Try.prog 5 = some .u8 := by kernel_rfl
theorem hasT_5 : VM.hasT Try.prog 5 = true := by kernel_rfl
theorem aggT_5 : VM.aggT Try.prog 5 = some false := by kernel_rfl
theorem zeroT_5 : VM.zeroT Try.prog 5 = some [.int .u8 0] := by kernel_rfl
theorem cellsOf_6 : Program.cellsOf Try.prog 6 = 1 := by kernel_rfl
theorem bytesOf_6 : Program.bytesOf Try.prog 6 = 1 := by kernel_rfl
theorem elemT_6 : VM.elemT Try.prog 6 = none := by kernel_rfl
theorem strT_6 : VM.strT Try.prog 6 = false := by kernel_rfl
theorem boolT_6 : VM.boolT Try.prog 6 = false := by kernel_rfl
theorem intT_6 : VM.intT Try.prog 6 = some .u8 := by kernel_rfl
theorem hasT_6 : VM.hasT Try.prog 6 = true := by kernel_rfl
theorem aggT_6 : VM.aggT Try.prog 6 = some false := by kernel_rfl
theorem zeroT_6 : VM.zeroT Try.prog 6 = some [.int .u8 0] := by kernel_rfl
theorem cellsOf_7 : Program.cellsOf Try.prog 7 = 4 := by kernel_rfl
theorem bytesOf_7 : Program.bytesOf Try.prog 7 = 24 := by kernel_rfl
theorem elemT_7 : VM.elemT Try.prog 7 = none := by kernel_rfl
theorem strT_7 : VM.strT Try.prog 7 = false := by kernel_rfl
theorem boolT_7 : VM.boolT Try.prog 7 = false := by kernel_rfl
theorem intT_7 : VM.intT Try.prog 7 = none := by kernel_rfl
theorem hasT_7 : VM.hasT Try.prog 7 = true := by kernel_rfl
theorem aggT_7 : VM.aggT Try.prog 7 = some true := by kernel_rfl
theorem zeroT_7 : VM.zeroT Try.prog 7 = some [.int .i64 0, .int .i64 0, .bool false, .int .u8 0] := by kernel_rfl
theorem fieldT_7_0 : VM.fieldT Try.prog 7 0 = some (0, 2) := by kernel_rfl
theorem fieldT_7_1 : VM.fieldT Try.prog 7 1 = some (1, 3) := by kernel_rfl
theorem fieldT_7_2 : VM.fieldT Try.prog 7 2 = some (2, 4) := by kernel_rfl
theorem fieldT_7_3 : VM.fieldT Try.prog 7 3 = some (3, 6) := by kernel_rfl
theorem placesT_7 : VM.placesT Try.prog 7 = some [(0, 1, 2), (1, 1, 3), (2, 1, 4), (3, 1, 6)] := by kernel_rfl
theorem flatT_7 : VM.flatT Try.prog 7 = some [.int .i64, .int .i64, .bool, .int .u8] := by kernel_rfl
theorem cellsOf_8 : Program.cellsOf Try.prog 8 = 4 := by kernel_rfl
theorem bytesOf_8 : Program.bytesOf Try.prog 8 = 24 := by kernel_rfl
theorem elemT_8 : VM.elemT Try.prog 8 = none := by kernel_rfl
theorem strT_8 : VM.strT Try.prog 8 = false := by kernel_rfl
theorem boolT_8 : VM.boolT Try.prog 8 = false := by kernel_rfl
theorem intT_8 : VM.intT Try.prog 8 = none := by kernel_rfl
theorem hasT_8 : VM.hasT Try.prog 8 = true := by kernel_rfl
theorem aggT_8 : VM.aggT Try.prog 8 = some true := by kernel_rfl
theorem zeroT_8 : VM.zeroT Try.prog 8 = some [.int .i64 0, .int .i64 0, .bool false, .int .u8 0] := by kernel_rfl
theorem fieldT_8_0 : VM.fieldT Try.prog 8 0 = some (0, 2) := by kernel_rfl
theorem fieldT_8_1 : VM.fieldT Try.prog 8 1 = some (1, 3) := by kernel_rfl
theorem fieldT_8_2 : VM.fieldT Try.prog 8 2 = some (2, 4) := by kernel_rfl
theorem fieldT_8_3 : VM.fieldT Try.prog 8 3 = some (3, 6) := by kernel_rfl
theorem placesT_8 : VM.placesT Try.prog 8 = some [(0, 1, 2), (1, 1, 3), (2, 1, 4), (3, 1, 6)] := by kernel_rfl
theorem flatT_8 : VM.flatT Try.prog 8 = some [.int .i64, .int .i64, .bool, .int .u8] := by kernel_rfl
theorem cellsOf_9 : Program.cellsOf Try.prog 9 = 1 := by kernel_rfl
theorem bytesOf_9 : Program.bytesOf Try.prog 9 = 16 := by kernel_rfl
theorem elemT_9 : VM.elemT Try.prog 9 = none := by kernel_rfl
theorem strT_9 : VM.strT Try.prog 9 = true := by kernel_rfl
theorem boolT_9 : VM.boolT Try.prog 9 = false := by kernel_rfl
theorem intT_9 : VM.intT Try.prog 9 = none := by kernel_rfl
theorem hasT_9 : VM.hasT Try.prog 9 = true := by kernel_rfl
theorem aggT_9 : VM.aggT Try.prog 9 = some false := by kernel_rfl
theorem zeroT_9 : VM.zeroT Try.prog 9 = some [.str ⟨#[]⟩] := by kernel_rfl
theorem cellsOf_10 : Program.cellsOf Try.prog 10 = 1 := by kernel_rfl
theorem bytesOf_10 : Program.bytesOf Try.prog 10 = 16 := by kernel_rfl
theorem elemT_10 : VM.elemT Try.prog 10 = none := by kernel_rfl
theorem strT_10 : VM.strT Try.prog 10 = true := by kernel_rfl
theorem boolT_10 : VM.boolT Try.prog 10 = false := by kernel_rfl
theorem intT_10 : VM.intT Try.prog 10 = none := by kernel_rfl
theorem hasT_10 : VM.hasT Try.prog 10 = true := by kernel_rfl
theorem aggT_10 : VM.aggT Try.prog 10 = some false := by kernel_rfl
theorem zeroT_10 : VM.zeroT Try.prog 10 = some [.str ⟨#[]⟩] := by kernel_rfl
theorem cellsOf_11 : Program.cellsOf Try.prog 11 = 1 := by kernel_rfl
theorem bytesOf_11 : Program.bytesOf Try.prog 11 = 16 := by kernel_rfl
theorem elemT_11 : VM.elemT Try.prog 11 = none := by kernel_rfl
theorem strT_11 : VM.strT Try.prog 11 = true := by kernel_rfl
theorem boolT_11 : VM.boolT Try.prog 11 = false := by kernel_rfl
theorem intT_11 : VM.intT Try.prog 11 = none := by kernel_rfl
theorem hasT_11 : VM.hasT Try.prog 11 = true := by kernel_rfl
theorem aggT_11 : VM.aggT Try.prog 11 = some false := by kernel_rfl
theorem zeroT_11 : VM.zeroT Try.prog 11 = some [.str ⟨#[]⟩] := by kernel_rfl
theorem cellsOf_12 : Program.cellsOf Try.prog 12 = 1 := by kernel_rfl
theorem bytesOf_12 : Program.bytesOf Try.prog 12 = 8 := by kernel_rfl
theorem elemT_12 : VM.elemT Try.prog 12 = none := by kernel_rfl
theorem strT_12 : VM.strT Try.prog 12 = false := by kernel_rfl
theorem boolT_12 : VM.boolT Try.prog 12 = false := by kernel_rfl
theorem intT_12 : VM.intT Try.prog 12 = some .u64 := by kernel_rfl
theorem hasT_12 : VM.hasT Try.prog 12 = true := by kernel_rfl
theorem aggT_12 : VM.aggT Try.prog 12 = some false := by kernel_rfl
theorem zeroT_12 : VM.zeroT Try.prog 12 = some [.int .u64 0] := by kernel_rfl
theorem cellsOf_18 : Program.cellsOf Try.prog 18 = 1 := by kernel_rfl
theorem bytesOf_18 : Program.bytesOf Try.prog 18 = 8 := by kernel_rfl
theorem elemT_18 : VM.elemT Try.prog 18 = none := by kernel_rfl
theorem strT_18 : VM.strT Try.prog 18 = false := by kernel_rfl
theorem boolT_18 : VM.boolT Try.prog 18 = false := by kernel_rfl
theorem intT_18 : VM.intT Try.prog 18 = none := by kernel_rfl
theorem hasT_18 : VM.hasT Try.prog 18 = true := by kernel_rfl
theorem aggT_18 : VM.aggT Try.prog 18 = some true := by kernel_rfl
theorem fieldT_18_0 : VM.fieldT Try.prog 18 0 = some (0, 17) := by kernel_rfl
theorem placesT_18 : VM.placesT Try.prog 18 = some [(0, 1, 17)] := by kernel_rfl
theorem cellsOf_19 : Program.cellsOf Try.prog 19 = 1 := by kernel_rfl
theorem bytesOf_19 : Program.bytesOf Try.prog 19 = 8 := by kernel_rfl
theorem elemT_19 : VM.elemT Try.prog 19 = none := by kernel_rfl
theorem strT_19 : VM.strT Try.prog 19 = false := by kernel_rfl
theorem boolT_19 : VM.boolT Try.prog 19 = false := by kernel_rfl
theorem intT_19 : VM.intT Try.prog 19 = none := by kernel_rfl
theorem hasT_19 : VM.hasT Try.prog 19 = true := by kernel_rfl
theorem aggT_19 : VM.aggT Try.prog 19 = some true := by kernel_rfl
theorem fieldT_19_0 : VM.fieldT Try.prog 19 0 = some (0, 17) := by kernel_rfl
theorem placesT_19 : VM.placesT Try.prog 19 = some [(0, 1, 17)] := by kernel_rfl
theorem cellsOf_21 : Program.cellsOf Try.prog 21 = 1 := by kernel_rfl
theorem bytesOf_21 : Program.bytesOf Try.prog 21 = 4 := by kernel_rfl
theorem elemT_21 : VM.elemT Try.prog 21 = none := by kernel_rfl
theorem strT_21 : VM.strT Try.prog 21 = false := by kernel_rfl
theorem boolT_21 : VM.boolT Try.prog 21 = false := by kernel_rfl
theorem intT_21 : VM.intT Try.prog 21 = some .i32 := by kernel_rfl
theorem hasT_21 : VM.hasT Try.prog 21 = true := by kernel_rfl
theorem aggT_21 : VM.aggT Try.prog 21 = some false := by kernel_rfl
theorem zeroT_21 : VM.zeroT Try.prog 21 = some [.int .i32 0] := by kernel_rfl
theorem cellsOf_22 : Program.cellsOf Try.prog 22 = 1 := by kernel_rfl
theorem bytesOf_22 : Program.bytesOf Try.prog 22 = 8 := by kernel_rfl
theorem elemT_22 : VM.elemT Try.prog 22 = none := by kernel_rfl
theorem strT_22 : VM.strT Try.prog 22 = false := by kernel_rfl
theorem boolT_22 : VM.boolT Try.prog 22 = false := by kernel_rfl
theorem intT_22 : VM.intT Try.prog 22 = none := by kernel_rfl
theorem hasT_22 : VM.hasT Try.prog 22 = true := by kernel_rfl
theorem aggT_22 : VM.aggT Try.prog 22 = some false := by kernel_rfl
theorem cellsOf_23 : Program.cellsOf Try.prog 23 = 1 := by kernel_rfl
theorem bytesOf_23 : Program.bytesOf Try.prog 23 = 8 := by kernel_rfl
theorem elemT_23 : VM.elemT Try.prog 23 = none := by kernel_rfl
theorem strT_23 : VM.strT Try.prog 23 = false := by kernel_rfl
theorem boolT_23 : VM.boolT Try.prog 23 = false := by kernel_rfl
theorem intT_23 : VM.intT Try.prog 23 = none := by kernel_rfl
theorem hasT_23 : VM.hasT Try.prog 23 = true := by kernel_rfl
theorem aggT_23 : VM.aggT Try.prog 23 = some false := by kernel_rfl
theorem cellsOf_24 : Program.cellsOf Try.prog 24 = 1 := by kernel_rfl
theorem bytesOf_24 : Program.bytesOf Try.prog 24 = 24 := by kernel_rfl
theorem elemT_24 : VM.elemT Try.prog 24 = some 100 := by kernel_rfl
theorem strT_24 : VM.strT Try.prog 24 = false := by kernel_rfl
theorem boolT_24 : VM.boolT Try.prog 24 = false := by kernel_rfl
theorem intT_24 : VM.intT Try.prog 24 = none := by kernel_rfl
theorem hasT_24 : VM.hasT Try.prog 24 = true := by kernel_rfl
theorem aggT_24 : VM.aggT Try.prog 24 = some false := by kernel_rfl
theorem zeroT_24 : VM.zeroT Try.prog 24 = some [.list true 3 []] := by kernel_rfl
theorem cellsOf_25 : Program.cellsOf Try.prog 25 = 1 := by kernel_rfl
theorem bytesOf_25 : Program.bytesOf Try.prog 25 = 8 := by kernel_rfl
theorem elemT_25 : VM.elemT Try.prog 25 = none := by kernel_rfl
theorem strT_25 : VM.strT Try.prog 25 = false := by kernel_rfl
theorem boolT_25 : VM.boolT Try.prog 25 = false := by kernel_rfl
theorem intT_25 : VM.intT Try.prog 25 = none := by kernel_rfl
theorem hasT_25 : VM.hasT Try.prog 25 = true := by kernel_rfl
theorem aggT_25 : VM.aggT Try.prog 25 = some false := by kernel_rfl
theorem cellsOf_26 : Program.cellsOf Try.prog 26 = 1 := by kernel_rfl
theorem bytesOf_26 : Program.bytesOf Try.prog 26 = 8 := by kernel_rfl
theorem elemT_26 : VM.elemT Try.prog 26 = none := by kernel_rfl
theorem strT_26 : VM.strT Try.prog 26 = false := by kernel_rfl
theorem boolT_26 : VM.boolT Try.prog 26 = false := by kernel_rfl
theorem intT_26 : VM.intT Try.prog 26 = none := by kernel_rfl
theorem hasT_26 : VM.hasT Try.prog 26 = true := by kernel_rfl
theorem aggT_26 : VM.aggT Try.prog 26 = some false := by kernel_rfl
theorem cellsOf_27 : Program.cellsOf Try.prog 27 = 1 := by kernel_rfl
theorem bytesOf_27 : Program.bytesOf Try.prog 27 = 24 := by kernel_rfl
theorem elemT_27 : VM.elemT Try.prog 27 = some 101 := by kernel_rfl
theorem strT_27 : VM.strT Try.prog 27 = false := by kernel_rfl
theorem boolT_27 : VM.boolT Try.prog 27 = false := by kernel_rfl
theorem intT_27 : VM.intT Try.prog 27 = none := by kernel_rfl
theorem hasT_27 : VM.hasT Try.prog 27 = true := by kernel_rfl
theorem aggT_27 : VM.aggT Try.prog 27 = some false := by kernel_rfl
theorem zeroT_27 : VM.zeroT Try.prog 27 = some [.list true 3 []] := by kernel_rfl
theorem cellsOf_28 : Program.cellsOf Try.prog 28 = 1 := by kernel_rfl
theorem bytesOf_28 : Program.bytesOf Try.prog 28 = 8 := by kernel_rfl
theorem elemT_28 : VM.elemT Try.prog 28 = none := by kernel_rfl
theorem strT_28 : VM.strT Try.prog 28 = false := by kernel_rfl
theorem boolT_28 : VM.boolT Try.prog 28 = false := by kernel_rfl
theorem intT_28 : VM.intT Try.prog 28 = none := by kernel_rfl
theorem hasT_28 : VM.hasT Try.prog 28 = true := by kernel_rfl
theorem aggT_28 : VM.aggT Try.prog 28 = some false := by kernel_rfl
theorem cellsOf_29 : Program.cellsOf Try.prog 29 = 1 := by kernel_rfl
theorem bytesOf_29 : Program.bytesOf Try.prog 29 = 8 := by kernel_rfl
theorem elemT_29 : VM.elemT Try.prog 29 = none := by kernel_rfl
theorem strT_29 : VM.strT Try.prog 29 = false := by kernel_rfl
theorem boolT_29 : VM.boolT Try.prog 29 = false := by kernel_rfl
theorem intT_29 : VM.intT Try.prog 29 = none := by kernel_rfl
theorem hasT_29 : VM.hasT Try.prog 29 = true := by kernel_rfl
theorem aggT_29 : VM.aggT Try.prog 29 = some false := by kernel_rfl
theorem cellsOf_30 : Program.cellsOf Try.prog 30 = 1 := by kernel_rfl
theorem bytesOf_30 : Program.bytesOf Try.prog 30 = 8 := by kernel_rfl
theorem elemT_30 : VM.elemT Try.prog 30 = none := by kernel_rfl
theorem strT_30 : VM.strT Try.prog 30 = false := by kernel_rfl
theorem boolT_30 : VM.boolT Try.prog 30 = false := by kernel_rfl
theorem intT_30 : VM.intT Try.prog 30 = none := by kernel_rfl
theorem hasT_30 : VM.hasT Try.prog 30 = true := by kernel_rfl
theorem aggT_30 : VM.aggT Try.prog 30 = some false := by kernel_rfl
theorem cellsOf_31 : Program.cellsOf Try.prog 31 = 1 := by kernel_rfl
theorem bytesOf_31 : Program.bytesOf Try.prog 31 = 8 := by kernel_rfl
theorem elemT_31 : VM.elemT Try.prog 31 = none := by kernel_rfl
theorem strT_31 : VM.strT Try.prog 31 = false := by kernel_rfl
theorem boolT_31 : VM.boolT Try.prog 31 = false := by kernel_rfl
theorem intT_31 : VM.intT Try.prog 31 = none := by kernel_rfl
theorem hasT_31 : VM.hasT Try.prog 31 = true := by kernel_rfl
theorem aggT_31 : VM.aggT Try.prog 31 = some false := by kernel_rfl
theorem cellsOf_32 : Program.cellsOf Try.prog 32 = 1 := by kernel_rfl
theorem bytesOf_32 : Program.bytesOf Try.prog 32 = 8 := by kernel_rfl
theorem elemT_32 : VM.elemT Try.prog 32 = none := by kernel_rfl
theorem strT_32 : VM.strT Try.prog 32 = false := by kernel_rfl
theorem boolT_32 : VM.boolT Try.prog 32 = false := by kernel_rfl
theorem intT_32 : VM.intT Try.prog 32 = none := by kernel_rfl
theorem hasT_32 : VM.hasT Try.prog 32 = true := by kernel_rfl
theorem aggT_32 : VM.aggT Try.prog 32 = some false := by kernel_rfl
theorem cellsOf_33 : Program.cellsOf Try.prog 33 = 1 := by kernel_rfl
theorem bytesOf_33 : Program.bytesOf Try.prog 33 = 8 := by kernel_rfl
theorem elemT_33 : VM.elemT Try.prog 33 = none := by kernel_rfl
theorem strT_33 : VM.strT Try.prog 33 = false := by kernel_rfl
theorem boolT_33 : VM.boolT Try.prog 33 = false := by kernel_rfl
theorem intT_33 : VM.intT Try.prog 33 = none := by kernel_rfl
theorem hasT_33 : VM.hasT Try.prog 33 = true := by kernel_rfl
theorem aggT_33 : VM.aggT Try.prog 33 = some false := by kernel_rfl
theorem cellsOf_34 : Program.cellsOf Try.prog 34 = 1 := by kernel_rfl
theorem bytesOf_34 : Program.bytesOf Try.prog 34 = 24 := by kernel_rfl
theorem elemT_34 : VM.elemT Try.prog 34 = some 110 := by kernel_rfl
theorem strT_34 : VM.strT Try.prog 34 = false := by kernel_rfl
theorem boolT_34 : VM.boolT Try.prog 34 = false := by kernel_rfl
theorem intT_34 : VM.intT Try.prog 34 = none := by kernel_rfl
theorem hasT_34 : VM.hasT Try.prog 34 = true := by kernel_rfl
theorem aggT_34 : VM.aggT Try.prog 34 = some false := by kernel_rfl
theorem zeroT_34 : VM.zeroT Try.prog 34 = some [.list true 6 []] := by kernel_rfl
theorem cellsOf_35 : Program.cellsOf Try.prog 35 = 1 := by kernel_rfl
theorem bytesOf_35 : Program.bytesOf Try.prog 35 = 8 := by kernel_rfl
theorem elemT_35 : VM.elemT Try.prog 35 = none := by kernel_rfl
theorem strT_35 : VM.strT Try.prog 35 = false := by kernel_rfl
theorem boolT_35 : VM.boolT Try.prog 35 = false := by kernel_rfl
theorem intT_35 : VM.intT Try.prog 35 = none := by kernel_rfl
theorem hasT_35 : VM.hasT Try.prog 35 = true := by kernel_rfl
theorem aggT_35 : VM.aggT Try.prog 35 = some false := by kernel_rfl
theorem cellsOf_36 : Program.cellsOf Try.prog 36 = 1 := by kernel_rfl
theorem bytesOf_36 : Program.bytesOf Try.prog 36 = 8 := by kernel_rfl
theorem elemT_36 : VM.elemT Try.prog 36 = none := by kernel_rfl
theorem strT_36 : VM.strT Try.prog 36 = false := by kernel_rfl
theorem boolT_36 : VM.boolT Try.prog 36 = false := by kernel_rfl
theorem intT_36 : VM.intT Try.prog 36 = none := by kernel_rfl
theorem hasT_36 : VM.hasT Try.prog 36 = true := by kernel_rfl
theorem aggT_36 : VM.aggT Try.prog 36 = some false := by kernel_rfl
theorem cellsOf_37 : Program.cellsOf Try.prog 37 = 1 := by kernel_rfl
theorem bytesOf_37 : Program.bytesOf Try.prog 37 = 24 := by kernel_rfl
theorem elemT_37 : VM.elemT Try.prog 37 = some 112 := by kernel_rfl
theorem strT_37 : VM.strT Try.prog 37 = false := by kernel_rfl
theorem boolT_37 : VM.boolT Try.prog 37 = false := by kernel_rfl
theorem intT_37 : VM.intT Try.prog 37 = none := by kernel_rfl
theorem hasT_37 : VM.hasT Try.prog 37 = true := by kernel_rfl
theorem aggT_37 : VM.aggT Try.prog 37 = some false := by kernel_rfl
theorem zeroT_37 : VM.zeroT Try.prog 37 = some [.list true 6 []] := by kernel_rfl
theorem cellsOf_38 : Program.cellsOf Try.prog 38 = 1 := by kernel_rfl
theorem bytesOf_38 : Program.bytesOf Try.prog 38 = 8 := by kernel_rfl
theorem elemT_38 : VM.elemT Try.prog 38 = none := by kernel_rfl
theorem strT_38 : VM.strT Try.prog 38 = false := by kernel_rfl
theorem boolT_38 : VM.boolT Try.prog 38 = false := by kernel_rfl
theorem intT_38 : VM.intT Try.prog 38 = none := by kernel_rfl
theorem hasT_38 : VM.hasT Try.prog 38 = true := by kernel_rfl
theorem aggT_38 : VM.aggT Try.prog 38 = some false := by kernel_rfl
theorem cellsOf_39 : Program.cellsOf Try.prog 39 = 1 := by kernel_rfl
theorem bytesOf_39 : Program.bytesOf Try.prog 39 = 8 := by kernel_rfl
theorem elemT_39 : VM.elemT Try.prog 39 = none := by kernel_rfl
theorem strT_39 : VM.strT Try.prog 39 = false := by kernel_rfl
theorem boolT_39 : VM.boolT Try.prog 39 = false := by kernel_rfl
theorem intT_39 : VM.intT Try.prog 39 = none := by kernel_rfl
theorem hasT_39 : VM.hasT Try.prog 39 = true := by kernel_rfl
theorem aggT_39 : VM.aggT Try.prog 39 = some false := by kernel_rfl
theorem cellsOf_40 : Program.cellsOf Try.prog 40 = 1 := by kernel_rfl
theorem bytesOf_40 : Program.bytesOf Try.prog 40 = 8 := by kernel_rfl
theorem elemT_40 : VM.elemT Try.prog 40 = none := by kernel_rfl
theorem strT_40 : VM.strT Try.prog 40 = false := by kernel_rfl
theorem boolT_40 : VM.boolT Try.prog 40 = false := by kernel_rfl
theorem intT_40 : VM.intT Try.prog 40 = none := by kernel_rfl
theorem hasT_40 : VM.hasT Try.prog 40 = true := by kernel_rfl
theorem aggT_40 : VM.aggT Try.prog 40 = some false := by kernel_rfl
theorem cellsOf_41 : Program.cellsOf Try.prog 41 = 1 := by kernel_rfl
theorem bytesOf_41 : Program.bytesOf Try.prog 41 = 24 := by kernel_rfl
theorem elemT_41 : VM.elemT Try.prog 41 = some 9 := by kernel_rfl
theorem strT_41 : VM.strT Try.prog 41 = false := by kernel_rfl
theorem boolT_41 : VM.boolT Try.prog 41 = false := by kernel_rfl
theorem intT_41 : VM.intT Try.prog 41 = none := by kernel_rfl
theorem hasT_41 : VM.hasT Try.prog 41 = true := by kernel_rfl
theorem aggT_41 : VM.aggT Try.prog 41 = some false := by kernel_rfl
theorem zeroT_41 : VM.zeroT Try.prog 41 = some [.list true 1 []] := by kernel_rfl
theorem cellsOf_42 : Program.cellsOf Try.prog 42 = 1 := by kernel_rfl
theorem bytesOf_42 : Program.bytesOf Try.prog 42 = 24 := by kernel_rfl
theorem elemT_42 : VM.elemT Try.prog 42 = some 120 := by kernel_rfl
theorem strT_42 : VM.strT Try.prog 42 = false := by kernel_rfl
theorem boolT_42 : VM.boolT Try.prog 42 = false := by kernel_rfl
theorem intT_42 : VM.intT Try.prog 42 = none := by kernel_rfl
theorem hasT_42 : VM.hasT Try.prog 42 = true := by kernel_rfl
theorem aggT_42 : VM.aggT Try.prog 42 = some false := by kernel_rfl
theorem zeroT_42 : VM.zeroT Try.prog 42 = some [.list true 2 []] := by kernel_rfl
theorem cellsOf_43 : Program.cellsOf Try.prog 43 = 1 := by kernel_rfl
theorem bytesOf_43 : Program.bytesOf Try.prog 43 = 8 := by kernel_rfl
theorem elemT_43 : VM.elemT Try.prog 43 = none := by kernel_rfl
theorem strT_43 : VM.strT Try.prog 43 = false := by kernel_rfl
theorem boolT_43 : VM.boolT Try.prog 43 = false := by kernel_rfl
theorem intT_43 : VM.intT Try.prog 43 = none := by kernel_rfl
theorem hasT_43 : VM.hasT Try.prog 43 = true := by kernel_rfl
theorem aggT_43 : VM.aggT Try.prog 43 = some false := by kernel_rfl
theorem cellsOf_44 : Program.cellsOf Try.prog 44 = 1 := by kernel_rfl
theorem bytesOf_44 : Program.bytesOf Try.prog 44 = 8 := by kernel_rfl
theorem elemT_44 : VM.elemT Try.prog 44 = none := by kernel_rfl
theorem strT_44 : VM.strT Try.prog 44 = false := by kernel_rfl
theorem boolT_44 : VM.boolT Try.prog 44 = false := by kernel_rfl
theorem intT_44 : VM.intT Try.prog 44 = none := by kernel_rfl
theorem hasT_44 : VM.hasT Try.prog 44 = true := by kernel_rfl
theorem aggT_44 : VM.aggT Try.prog 44 = some false := by kernel_rfl
theorem cellsOf_45 : Program.cellsOf Try.prog 45 = 1 := by kernel_rfl
theorem bytesOf_45 : Program.bytesOf Try.prog 45 = 8 := by kernel_rfl
theorem elemT_45 : VM.elemT Try.prog 45 = none := by kernel_rfl
theorem strT_45 : VM.strT Try.prog 45 = false := by kernel_rfl
theorem boolT_45 : VM.boolT Try.prog 45 = false := by kernel_rfl
theorem intT_45 : VM.intT Try.prog 45 = none := by kernel_rfl
theorem hasT_45 : VM.hasT Try.prog 45 = true := by kernel_rfl
theorem aggT_45 : VM.aggT Try.prog 45 = some false := by kernel_rfl
theorem cellsOf_46 : Program.cellsOf Try.prog 46 = 1 := by kernel_rfl
theorem bytesOf_46 : Program.bytesOf Try.prog 46 = 8 := by kernel_rfl
theorem elemT_46 : VM.elemT Try.prog 46 = none := by kernel_rfl
theorem strT_46 : VM.strT Try.prog 46 = false := by kernel_rfl
theorem boolT_46 : VM.boolT Try.prog 46 = false := by kernel_rfl
theorem intT_46 : VM.intT Try.prog 46 = none := by kernel_rfl
theorem hasT_46 : VM.hasT Try.prog 46 = true := by kernel_rfl
theorem aggT_46 : VM.aggT Try.prog 46 = some false := by kernel_rfl
theorem cellsOf_47 : Program.cellsOf Try.prog 47 = 1 := by kernel_rfl
theorem bytesOf_47 : Program.bytesOf Try.prog 47 = 24 := by kernel_rfl
theorem elemT_47 : VM.elemT Try.prog 47 = some 121 := by kernel_rfl
theorem strT_47 : VM.strT Try.prog 47 = false := by kernel_rfl
theorem boolT_47 : VM.boolT Try.prog 47 = false := by kernel_rfl
theorem intT_47 : VM.intT Try.prog 47 = none := by kernel_rfl
theorem hasT_47 : VM.hasT Try.prog 47 = true := by kernel_rfl
theorem aggT_47 : VM.aggT Try.prog 47 = some false := by kernel_rfl
theorem zeroT_47 : VM.zeroT Try.prog 47 = some [.list true 2 []] := by kernel_rfl
theorem cellsOf_48 : Program.cellsOf Try.prog 48 = 1 := by kernel_rfl
theorem bytesOf_48 : Program.bytesOf Try.prog 48 = 8 := by kernel_rfl
theorem elemT_48 : VM.elemT Try.prog 48 = none := by kernel_rfl
theorem strT_48 : VM.strT Try.prog 48 = false := by kernel_rfl
theorem boolT_48 : VM.boolT Try.prog 48 = false := by kernel_rfl
theorem intT_48 : VM.intT Try.prog 48 = none := by kernel_rfl
theorem hasT_48 : VM.hasT Try.prog 48 = true := by kernel_rfl
theorem aggT_48 : VM.aggT Try.prog 48 = some false := by kernel_rfl
theorem cellsOf_49 : Program.cellsOf Try.prog 49 = 1 := by kernel_rfl
theorem bytesOf_49 : Program.bytesOf Try.prog 49 = 8 := by kernel_rfl
theorem elemT_49 : VM.elemT Try.prog 49 = none := by kernel_rfl
theorem strT_49 : VM.strT Try.prog 49 = false := by kernel_rfl
theorem boolT_49 : VM.boolT Try.prog 49 = false := by kernel_rfl
theorem intT_49 : VM.intT Try.prog 49 = none := by kernel_rfl
theorem hasT_49 : VM.hasT Try.prog 49 = true := by kernel_rfl
theorem aggT_49 : VM.aggT Try.prog 49 = some false := by kernel_rfl
theorem cellsOf_50 : Program.cellsOf Try.prog 50 = 1 := by kernel_rfl
theorem bytesOf_50 : Program.bytesOf Try.prog 50 = 8 := by kernel_rfl
theorem elemT_50 : VM.elemT Try.prog 50 = none := by kernel_rfl
theorem strT_50 : VM.strT Try.prog 50 = false := by kernel_rfl
theorem boolT_50 : VM.boolT Try.prog 50 = false := by kernel_rfl
theorem intT_50 : VM.intT Try.prog 50 = none := by kernel_rfl
theorem hasT_50 : VM.hasT Try.prog 50 = true := by kernel_rfl
theorem aggT_50 : VM.aggT Try.prog 50 = some false := by kernel_rfl
theorem cellsOf_51 : Program.cellsOf Try.prog 51 = 1 := by kernel_rfl
theorem bytesOf_51 : Program.bytesOf Try.prog 51 = 8 := by kernel_rfl
theorem elemT_51 : VM.elemT Try.prog 51 = none := by kernel_rfl
theorem strT_51 : VM.strT Try.prog 51 = false := by kernel_rfl
theorem boolT_51 : VM.boolT Try.prog 51 = false := by kernel_rfl
theorem intT_51 : VM.intT Try.prog 51 = none := by kernel_rfl
theorem hasT_51 : VM.hasT Try.prog 51 = true := by kernel_rfl
theorem aggT_51 : VM.aggT Try.prog 51 = some false := by kernel_rfl
theorem cellsOf_52 : Program.cellsOf Try.prog 52 = 1 := by kernel_rfl
theorem bytesOf_52 : Program.bytesOf Try.prog 52 = 8 := by kernel_rfl
theorem elemT_52 : VM.elemT Try.prog 52 = none := by kernel_rfl
theorem strT_52 : VM.strT Try.prog 52 = false := by kernel_rfl
theorem boolT_52 : VM.boolT Try.prog 52 = false := by kernel_rfl
theorem intT_52 : VM.intT Try.prog 52 = none := by kernel_rfl
theorem hasT_52 : VM.hasT Try.prog 52 = true := by kernel_rfl
theorem aggT_52 : VM.aggT Try.prog 52 = some false := by kernel_rfl
theorem cellsOf_53 : Program.cellsOf Try.prog 53 = 1 := by kernel_rfl
theorem bytesOf_53 : Program.bytesOf Try.prog 53 = 24 := by kernel_rfl
theorem elemT_53 : VM.elemT Try.prog 53 = some 82 := by kernel_rfl
theorem strT_53 : VM.strT Try.prog 53 = false := by kernel_rfl
theorem boolT_53 : VM.boolT Try.prog 53 = false := by kernel_rfl
theorem intT_53 : VM.intT Try.prog 53 = none := by kernel_rfl
theorem hasT_53 : VM.hasT Try.prog 53 = true := by kernel_rfl
theorem aggT_53 : VM.aggT Try.prog 53 = some false := by kernel_rfl
theorem zeroT_53 : VM.zeroT Try.prog 53 = some [.list true 4 []] := by kernel_rfl
theorem cellsOf_54 : Program.cellsOf Try.prog 54 = 1 := by kernel_rfl
theorem bytesOf_54 : Program.bytesOf Try.prog 54 = 24 := by kernel_rfl
theorem elemT_54 : VM.elemT Try.prog 54 = some 92 := by kernel_rfl
theorem strT_54 : VM.strT Try.prog 54 = false := by kernel_rfl
theorem boolT_54 : VM.boolT Try.prog 54 = false := by kernel_rfl
theorem intT_54 : VM.intT Try.prog 54 = none := by kernel_rfl
theorem hasT_54 : VM.hasT Try.prog 54 = true := by kernel_rfl
theorem aggT_54 : VM.aggT Try.prog 54 = some false := by kernel_rfl
theorem zeroT_54 : VM.zeroT Try.prog 54 = some [.list true 2 []] := by kernel_rfl
theorem cellsOf_55 : Program.cellsOf Try.prog 55 = 2 := by kernel_rfl
theorem bytesOf_55 : Program.bytesOf Try.prog 55 = 48 := by kernel_rfl
theorem elemT_55 : VM.elemT Try.prog 55 = none := by kernel_rfl
theorem strT_55 : VM.strT Try.prog 55 = false := by kernel_rfl
theorem boolT_55 : VM.boolT Try.prog 55 = false := by kernel_rfl
theorem intT_55 : VM.intT Try.prog 55 = none := by kernel_rfl
theorem hasT_55 : VM.hasT Try.prog 55 = true := by kernel_rfl
theorem aggT_55 : VM.aggT Try.prog 55 = some true := by kernel_rfl
theorem zeroT_55 : VM.zeroT Try.prog 55 = some [.list true 4 [], .list true 2 []] := by kernel_rfl
theorem fieldT_55_0 : VM.fieldT Try.prog 55 0 = some (0, 53) := by kernel_rfl
theorem fieldT_55_1 : VM.fieldT Try.prog 55 1 = some (1, 54) := by kernel_rfl
theorem placesT_55 : VM.placesT Try.prog 55 = some [(0, 1, 53), (1, 1, 54)] := by kernel_rfl
theorem cellsOf_56 : Program.cellsOf Try.prog 56 = 2 := by kernel_rfl
theorem bytesOf_56 : Program.bytesOf Try.prog 56 = 48 := by kernel_rfl
theorem elemT_56 : VM.elemT Try.prog 56 = none := by kernel_rfl
theorem strT_56 : VM.strT Try.prog 56 = false := by kernel_rfl
theorem boolT_56 : VM.boolT Try.prog 56 = false := by kernel_rfl
theorem intT_56 : VM.intT Try.prog 56 = none := by kernel_rfl
theorem hasT_56 : VM.hasT Try.prog 56 = true := by kernel_rfl
theorem aggT_56 : VM.aggT Try.prog 56 = some true := by kernel_rfl
theorem zeroT_56 : VM.zeroT Try.prog 56 = some [.list true 4 [], .list true 2 []] := by kernel_rfl
theorem fieldT_56_0 : VM.fieldT Try.prog 56 0 = some (0, 53) := by kernel_rfl
theorem fieldT_56_1 : VM.fieldT Try.prog 56 1 = some (1, 54) := by kernel_rfl
theorem placesT_56 : VM.placesT Try.prog 56 = some [(0, 1, 53), (1, 1, 54)] := by kernel_rfl
theorem cellsOf_57 : Program.cellsOf Try.prog 57 = 1 := by kernel_rfl
theorem bytesOf_57 : Program.bytesOf Try.prog 57 = 8 := by kernel_rfl
theorem elemT_57 : VM.elemT Try.prog 57 = none := by kernel_rfl
theorem strT_57 : VM.strT Try.prog 57 = false := by kernel_rfl
theorem boolT_57 : VM.boolT Try.prog 57 = false := by kernel_rfl
theorem intT_57 : VM.intT Try.prog 57 = none := by kernel_rfl
theorem hasT_57 : VM.hasT Try.prog 57 = true := by kernel_rfl
theorem aggT_57 : VM.aggT Try.prog 57 = some false := by kernel_rfl
theorem cellsOf_58 : Program.cellsOf Try.prog 58 = 1 := by kernel_rfl
theorem bytesOf_58 : Program.bytesOf Try.prog 58 = 8 := by kernel_rfl
theorem elemT_58 : VM.elemT Try.prog 58 = none := by kernel_rfl
theorem strT_58 : VM.strT Try.prog 58 = false := by kernel_rfl
theorem boolT_58 : VM.boolT Try.prog 58 = false := by kernel_rfl
theorem intT_58 : VM.intT Try.prog 58 = none := by kernel_rfl
theorem hasT_58 : VM.hasT Try.prog 58 = true := by kernel_rfl
theorem aggT_58 : VM.aggT Try.prog 58 = some false := by kernel_rfl
theorem cellsOf_59 : Program.cellsOf Try.prog 59 = 1 := by kernel_rfl
theorem bytesOf_59 : Program.bytesOf Try.prog 59 = 24 := by kernel_rfl
theorem elemT_59 : VM.elemT Try.prog 59 = some 86 := by kernel_rfl
theorem strT_59 : VM.strT Try.prog 59 = false := by kernel_rfl
theorem boolT_59 : VM.boolT Try.prog 59 = false := by kernel_rfl
theorem intT_59 : VM.intT Try.prog 59 = none := by kernel_rfl
theorem hasT_59 : VM.hasT Try.prog 59 = true := by kernel_rfl
theorem aggT_59 : VM.aggT Try.prog 59 = some false := by kernel_rfl
theorem zeroT_59 : VM.zeroT Try.prog 59 = some [.list true 4 []] := by kernel_rfl
theorem cellsOf_60 : Program.cellsOf Try.prog 60 = 1 := by kernel_rfl
theorem bytesOf_60 : Program.bytesOf Try.prog 60 = 24 := by kernel_rfl
theorem elemT_60 : VM.elemT Try.prog 60 = some 76 := by kernel_rfl
theorem strT_60 : VM.strT Try.prog 60 = false := by kernel_rfl
theorem boolT_60 : VM.boolT Try.prog 60 = false := by kernel_rfl
theorem intT_60 : VM.intT Try.prog 60 = none := by kernel_rfl
theorem hasT_60 : VM.hasT Try.prog 60 = true := by kernel_rfl
theorem aggT_60 : VM.aggT Try.prog 60 = some false := by kernel_rfl
theorem zeroT_60 : VM.zeroT Try.prog 60 = some [.list true 2 []] := by kernel_rfl
theorem cellsOf_61 : Program.cellsOf Try.prog 61 = 2 := by kernel_rfl
theorem bytesOf_61 : Program.bytesOf Try.prog 61 = 48 := by kernel_rfl
theorem elemT_61 : VM.elemT Try.prog 61 = none := by kernel_rfl
theorem strT_61 : VM.strT Try.prog 61 = false := by kernel_rfl
theorem boolT_61 : VM.boolT Try.prog 61 = false := by kernel_rfl
theorem intT_61 : VM.intT Try.prog 61 = none := by kernel_rfl
theorem hasT_61 : VM.hasT Try.prog 61 = true := by kernel_rfl
theorem aggT_61 : VM.aggT Try.prog 61 = some true := by kernel_rfl
theorem zeroT_61 : VM.zeroT Try.prog 61 = some [.list true 4 [], .list true 2 []] := by kernel_rfl
theorem fieldT_61_0 : VM.fieldT Try.prog 61 0 = some (0, 59) := by kernel_rfl
theorem fieldT_61_1 : VM.fieldT Try.prog 61 1 = some (1, 60) := by kernel_rfl
theorem placesT_61 : VM.placesT Try.prog 61 = some [(0, 1, 59), (1, 1, 60)] := by kernel_rfl
theorem cellsOf_62 : Program.cellsOf Try.prog 62 = 2 := by kernel_rfl
theorem bytesOf_62 : Program.bytesOf Try.prog 62 = 48 := by kernel_rfl
theorem elemT_62 : VM.elemT Try.prog 62 = none := by kernel_rfl
theorem strT_62 : VM.strT Try.prog 62 = false := by kernel_rfl
theorem boolT_62 : VM.boolT Try.prog 62 = false := by kernel_rfl
theorem intT_62 : VM.intT Try.prog 62 = none := by kernel_rfl
theorem hasT_62 : VM.hasT Try.prog 62 = true := by kernel_rfl
theorem aggT_62 : VM.aggT Try.prog 62 = some true := by kernel_rfl
theorem zeroT_62 : VM.zeroT Try.prog 62 = some [.list true 4 [], .list true 2 []] := by kernel_rfl
theorem fieldT_62_0 : VM.fieldT Try.prog 62 0 = some (0, 59) := by kernel_rfl
theorem fieldT_62_1 : VM.fieldT Try.prog 62 1 = some (1, 60) := by kernel_rfl
theorem placesT_62 : VM.placesT Try.prog 62 = some [(0, 1, 59), (1, 1, 60)] := by kernel_rfl
theorem cellsOf_63 : Program.cellsOf Try.prog 63 = 1 := by kernel_rfl
theorem bytesOf_63 : Program.bytesOf Try.prog 63 = 8 := by kernel_rfl
theorem elemT_63 : VM.elemT Try.prog 63 = none := by kernel_rfl
theorem strT_63 : VM.strT Try.prog 63 = false := by kernel_rfl
theorem boolT_63 : VM.boolT Try.prog 63 = false := by kernel_rfl
theorem intT_63 : VM.intT Try.prog 63 = none := by kernel_rfl
theorem hasT_63 : VM.hasT Try.prog 63 = true := by kernel_rfl
theorem aggT_63 : VM.aggT Try.prog 63 = some false := by kernel_rfl
theorem cellsOf_64 : Program.cellsOf Try.prog 64 = 1 := by kernel_rfl
theorem bytesOf_64 : Program.bytesOf Try.prog 64 = 8 := by kernel_rfl
theorem elemT_64 : VM.elemT Try.prog 64 = none := by kernel_rfl
theorem strT_64 : VM.strT Try.prog 64 = false := by kernel_rfl
theorem boolT_64 : VM.boolT Try.prog 64 = false := by kernel_rfl
theorem intT_64 : VM.intT Try.prog 64 = none := by kernel_rfl
theorem hasT_64 : VM.hasT Try.prog 64 = true := by kernel_rfl
theorem aggT_64 : VM.aggT Try.prog 64 = some false := by kernel_rfl
theorem cellsOf_65 : Program.cellsOf Try.prog 65 = 1 := by kernel_rfl
theorem bytesOf_65 : Program.bytesOf Try.prog 65 = 8 := by kernel_rfl
theorem elemT_65 : VM.elemT Try.prog 65 = none := by kernel_rfl
theorem strT_65 : VM.strT Try.prog 65 = false := by kernel_rfl
theorem boolT_65 : VM.boolT Try.prog 65 = false := by kernel_rfl
theorem intT_65 : VM.intT Try.prog 65 = none := by kernel_rfl
theorem hasT_65 : VM.hasT Try.prog 65 = true := by kernel_rfl
theorem aggT_65 : VM.aggT Try.prog 65 = some false := by kernel_rfl
theorem cellsOf_66 : Program.cellsOf Try.prog 66 = 4 := by kernel_rfl
theorem bytesOf_66 : Program.bytesOf Try.prog 66 = 64 := by kernel_rfl
theorem elemT_66 : VM.elemT Try.prog 66 = none := by kernel_rfl
theorem strT_66 : VM.strT Try.prog 66 = false := by kernel_rfl
theorem boolT_66 : VM.boolT Try.prog 66 = false := by kernel_rfl
theorem intT_66 : VM.intT Try.prog 66 = none := by kernel_rfl
theorem hasT_66 : VM.hasT Try.prog 66 = true := by kernel_rfl
theorem aggT_66 : VM.aggT Try.prog 66 = some true := by kernel_rfl
theorem zeroT_66 : VM.zeroT Try.prog 66 = some [.list true 6 [], .int .i64 0, .list true 2 [], .bool false] := by kernel_rfl
theorem fieldT_66_0 : VM.fieldT Try.prog 66 0 = some (0, 34) := by kernel_rfl
theorem fieldT_66_1 : VM.fieldT Try.prog 66 1 = some (1, 3) := by kernel_rfl
theorem fieldT_66_2 : VM.fieldT Try.prog 66 2 = some (2, 54) := by kernel_rfl
theorem fieldT_66_3 : VM.fieldT Try.prog 66 3 = some (3, 4) := by kernel_rfl
theorem placesT_66 : VM.placesT Try.prog 66 = some [(0, 1, 34), (1, 1, 3), (2, 1, 54), (3, 1, 4)] := by kernel_rfl
theorem cellsOf_67 : Program.cellsOf Try.prog 67 = 4 := by kernel_rfl
theorem bytesOf_67 : Program.bytesOf Try.prog 67 = 64 := by kernel_rfl
theorem elemT_67 : VM.elemT Try.prog 67 = none := by kernel_rfl
theorem strT_67 : VM.strT Try.prog 67 = false := by kernel_rfl
theorem boolT_67 : VM.boolT Try.prog 67 = false := by kernel_rfl
theorem intT_67 : VM.intT Try.prog 67 = none := by kernel_rfl
theorem hasT_67 : VM.hasT Try.prog 67 = true := by kernel_rfl
theorem aggT_67 : VM.aggT Try.prog 67 = some true := by kernel_rfl
theorem zeroT_67 : VM.zeroT Try.prog 67 = some [.list true 6 [], .int .i64 0, .list true 2 [], .bool false] := by kernel_rfl
theorem fieldT_67_0 : VM.fieldT Try.prog 67 0 = some (0, 34) := by kernel_rfl
theorem fieldT_67_1 : VM.fieldT Try.prog 67 1 = some (1, 3) := by kernel_rfl
theorem fieldT_67_2 : VM.fieldT Try.prog 67 2 = some (2, 54) := by kernel_rfl
theorem fieldT_67_3 : VM.fieldT Try.prog 67 3 = some (3, 4) := by kernel_rfl
theorem placesT_67 : VM.placesT Try.prog 67 = some [(0, 1, 34), (1, 1, 3), (2, 1, 54), (3, 1, 4)] := by kernel_rfl
theorem cellsOf_68 : Program.cellsOf Try.prog 68 = 1 := by kernel_rfl
theorem bytesOf_68 : Program.bytesOf Try.prog 68 = 8 := by kernel_rfl
theorem elemT_68 : VM.elemT Try.prog 68 = none := by kernel_rfl
theorem strT_68 : VM.strT Try.prog 68 = false := by kernel_rfl
theorem boolT_68 : VM.boolT Try.prog 68 = false := by kernel_rfl
theorem intT_68 : VM.intT Try.prog 68 = none := by kernel_rfl
theorem hasT_68 : VM.hasT Try.prog 68 = true := by kernel_rfl
theorem aggT_68 : VM.aggT Try.prog 68 = some false := by kernel_rfl
theorem cellsOf_69 : Program.cellsOf Try.prog 69 = 1 := by kernel_rfl
theorem bytesOf_69 : Program.bytesOf Try.prog 69 = 8 := by kernel_rfl
theorem elemT_69 : VM.elemT Try.prog 69 = none := by kernel_rfl
theorem strT_69 : VM.strT Try.prog 69 = false := by kernel_rfl
theorem boolT_69 : VM.boolT Try.prog 69 = false := by kernel_rfl
theorem intT_69 : VM.intT Try.prog 69 = none := by kernel_rfl
theorem hasT_69 : VM.hasT Try.prog 69 = true := by kernel_rfl
theorem aggT_69 : VM.aggT Try.prog 69 = some false := by kernel_rfl
theorem cellsOf_70 : Program.cellsOf Try.prog 70 = 4 := by kernel_rfl
theorem bytesOf_70 : Program.bytesOf Try.prog 70 = 64 := by kernel_rfl
theorem elemT_70 : VM.elemT Try.prog 70 = none := by kernel_rfl
theorem strT_70 : VM.strT Try.prog 70 = false := by kernel_rfl
theorem boolT_70 : VM.boolT Try.prog 70 = false := by kernel_rfl
theorem intT_70 : VM.intT Try.prog 70 = none := by kernel_rfl
theorem hasT_70 : VM.hasT Try.prog 70 = true := by kernel_rfl
theorem aggT_70 : VM.aggT Try.prog 70 = some true := by kernel_rfl
theorem zeroT_70 : VM.zeroT Try.prog 70 = some [.list true 6 [], .int .i64 0, .list true 2 [], .bool false] := by kernel_rfl
theorem fieldT_70_0 : VM.fieldT Try.prog 70 0 = some (0, 37) := by kernel_rfl
theorem fieldT_70_1 : VM.fieldT Try.prog 70 1 = some (1, 3) := by kernel_rfl
theorem fieldT_70_2 : VM.fieldT Try.prog 70 2 = some (2, 60) := by kernel_rfl
theorem fieldT_70_3 : VM.fieldT Try.prog 70 3 = some (3, 4) := by kernel_rfl
theorem placesT_70 : VM.placesT Try.prog 70 = some [(0, 1, 37), (1, 1, 3), (2, 1, 60), (3, 1, 4)] := by kernel_rfl
theorem cellsOf_71 : Program.cellsOf Try.prog 71 = 4 := by kernel_rfl
theorem bytesOf_71 : Program.bytesOf Try.prog 71 = 64 := by kernel_rfl
theorem elemT_71 : VM.elemT Try.prog 71 = none := by kernel_rfl
theorem strT_71 : VM.strT Try.prog 71 = false := by kernel_rfl
theorem boolT_71 : VM.boolT Try.prog 71 = false := by kernel_rfl
theorem intT_71 : VM.intT Try.prog 71 = none := by kernel_rfl
theorem hasT_71 : VM.hasT Try.prog 71 = true := by kernel_rfl
theorem aggT_71 : VM.aggT Try.prog 71 = some true := by kernel_rfl
theorem zeroT_71 : VM.zeroT Try.prog 71 = some [.list true 6 [], .int .i64 0, .list true 2 [], .bool false] := by kernel_rfl
theorem fieldT_71_0 : VM.fieldT Try.prog 71 0 = some (0, 37) := by kernel_rfl
theorem fieldT_71_1 : VM.fieldT Try.prog 71 1 = some (1, 3) := by kernel_rfl
theorem fieldT_71_2 : VM.fieldT Try.prog 71 2 = some (2, 60) := by kernel_rfl
theorem fieldT_71_3 : VM.fieldT Try.prog 71 3 = some (3, 4) := by kernel_rfl
theorem placesT_71 : VM.placesT Try.prog 71 = some [(0, 1, 37), (1, 1, 3), (2, 1, 60), (3, 1, 4)] := by kernel_rfl
theorem cellsOf_72 : Program.cellsOf Try.prog 72 = 1 := by kernel_rfl
theorem bytesOf_72 : Program.bytesOf Try.prog 72 = 8 := by kernel_rfl
theorem elemT_72 : VM.elemT Try.prog 72 = none := by kernel_rfl
theorem strT_72 : VM.strT Try.prog 72 = false := by kernel_rfl
theorem boolT_72 : VM.boolT Try.prog 72 = false := by kernel_rfl
theorem intT_72 : VM.intT Try.prog 72 = none := by kernel_rfl
theorem hasT_72 : VM.hasT Try.prog 72 = true := by kernel_rfl
theorem aggT_72 : VM.aggT Try.prog 72 = some false := by kernel_rfl
theorem cellsOf_73 : Program.cellsOf Try.prog 73 = 1 := by kernel_rfl
theorem bytesOf_73 : Program.bytesOf Try.prog 73 = 8 := by kernel_rfl
theorem elemT_73 : VM.elemT Try.prog 73 = none := by kernel_rfl
theorem strT_73 : VM.strT Try.prog 73 = false := by kernel_rfl
theorem boolT_73 : VM.boolT Try.prog 73 = false := by kernel_rfl
theorem intT_73 : VM.intT Try.prog 73 = none := by kernel_rfl
theorem hasT_73 : VM.hasT Try.prog 73 = true := by kernel_rfl
theorem aggT_73 : VM.aggT Try.prog 73 = some false := by kernel_rfl
theorem cellsOf_74 : Program.cellsOf Try.prog 74 = 1 := by kernel_rfl
theorem bytesOf_74 : Program.bytesOf Try.prog 74 = 8 := by kernel_rfl
theorem elemT_74 : VM.elemT Try.prog 74 = none := by kernel_rfl
theorem strT_74 : VM.strT Try.prog 74 = false := by kernel_rfl
theorem boolT_74 : VM.boolT Try.prog 74 = false := by kernel_rfl
theorem intT_74 : VM.intT Try.prog 74 = none := by kernel_rfl
theorem hasT_74 : VM.hasT Try.prog 74 = true := by kernel_rfl
theorem aggT_74 : VM.aggT Try.prog 74 = some false := by kernel_rfl
theorem cellsOf_75 : Program.cellsOf Try.prog 75 = 2 := by kernel_rfl
theorem bytesOf_75 : Program.bytesOf Try.prog 75 = 24 := by kernel_rfl
theorem elemT_75 : VM.elemT Try.prog 75 = none := by kernel_rfl
theorem strT_75 : VM.strT Try.prog 75 = false := by kernel_rfl
theorem boolT_75 : VM.boolT Try.prog 75 = false := by kernel_rfl
theorem intT_75 : VM.intT Try.prog 75 = none := by kernel_rfl
theorem hasT_75 : VM.hasT Try.prog 75 = true := by kernel_rfl
theorem aggT_75 : VM.aggT Try.prog 75 = some true := by kernel_rfl
theorem zeroT_75 : VM.zeroT Try.prog 75 = some [.int .i64 0, .str ⟨#[]⟩] := by kernel_rfl
theorem fieldT_75_0 : VM.fieldT Try.prog 75 0 = some (0, 3) := by kernel_rfl
theorem fieldT_75_1 : VM.fieldT Try.prog 75 1 = some (1, 9) := by kernel_rfl
theorem placesT_75 : VM.placesT Try.prog 75 = some [(0, 1, 3), (1, 1, 9)] := by kernel_rfl
theorem flatT_75 : VM.flatT Try.prog 75 = some [.int .i64, .string] := by kernel_rfl
theorem cellsOf_76 : Program.cellsOf Try.prog 76 = 2 := by kernel_rfl
theorem bytesOf_76 : Program.bytesOf Try.prog 76 = 24 := by kernel_rfl
theorem elemT_76 : VM.elemT Try.prog 76 = none := by kernel_rfl
theorem strT_76 : VM.strT Try.prog 76 = false := by kernel_rfl
theorem boolT_76 : VM.boolT Try.prog 76 = false := by kernel_rfl
theorem intT_76 : VM.intT Try.prog 76 = none := by kernel_rfl
theorem hasT_76 : VM.hasT Try.prog 76 = true := by kernel_rfl
theorem aggT_76 : VM.aggT Try.prog 76 = some true := by kernel_rfl
theorem zeroT_76 : VM.zeroT Try.prog 76 = some [.int .i64 0, .str ⟨#[]⟩] := by kernel_rfl
theorem fieldT_76_0 : VM.fieldT Try.prog 76 0 = some (0, 3) := by kernel_rfl
theorem fieldT_76_1 : VM.fieldT Try.prog 76 1 = some (1, 9) := by kernel_rfl
theorem placesT_76 : VM.placesT Try.prog 76 = some [(0, 1, 3), (1, 1, 9)] := by kernel_rfl
theorem flatT_76 : VM.flatT Try.prog 76 = some [.int .i64, .string] := by kernel_rfl
theorem cellsOf_78 : Program.cellsOf Try.prog 78 = 1 := by kernel_rfl
theorem bytesOf_78 : Program.bytesOf Try.prog 78 = 8 := by kernel_rfl
theorem elemT_78 : VM.elemT Try.prog 78 = none := by kernel_rfl
theorem strT_78 : VM.strT Try.prog 78 = false := by kernel_rfl
theorem boolT_78 : VM.boolT Try.prog 78 = false := by kernel_rfl
theorem intT_78 : VM.intT Try.prog 78 = none := by kernel_rfl
theorem hasT_78 : VM.hasT Try.prog 78 = true := by kernel_rfl
theorem aggT_78 : VM.aggT Try.prog 78 = some false := by kernel_rfl
theorem cellsOf_79 : Program.cellsOf Try.prog 79 = 1 := by kernel_rfl
theorem bytesOf_79 : Program.bytesOf Try.prog 79 = 8 := by kernel_rfl
theorem elemT_79 : VM.elemT Try.prog 79 = none := by kernel_rfl
theorem strT_79 : VM.strT Try.prog 79 = false := by kernel_rfl
theorem boolT_79 : VM.boolT Try.prog 79 = false := by kernel_rfl
theorem intT_79 : VM.intT Try.prog 79 = none := by kernel_rfl
theorem hasT_79 : VM.hasT Try.prog 79 = true := by kernel_rfl
theorem aggT_79 : VM.aggT Try.prog 79 = some false := by kernel_rfl
theorem cellsOf_80 : Program.cellsOf Try.prog 80 = 1 := by kernel_rfl
theorem bytesOf_80 : Program.bytesOf Try.prog 80 = 8 := by kernel_rfl
theorem elemT_80 : VM.elemT Try.prog 80 = none := by kernel_rfl
theorem strT_80 : VM.strT Try.prog 80 = false := by kernel_rfl
theorem boolT_80 : VM.boolT Try.prog 80 = false := by kernel_rfl
theorem intT_80 : VM.intT Try.prog 80 = none := by kernel_rfl
theorem hasT_80 : VM.hasT Try.prog 80 = true := by kernel_rfl
theorem aggT_80 : VM.aggT Try.prog 80 = some false := by kernel_rfl
theorem cellsOf_81 : Program.cellsOf Try.prog 81 = 4 := by kernel_rfl
theorem bytesOf_81 : Program.bytesOf Try.prog 81 = 56 := by kernel_rfl
theorem elemT_81 : VM.elemT Try.prog 81 = none := by kernel_rfl
theorem strT_81 : VM.strT Try.prog 81 = false := by kernel_rfl
theorem boolT_81 : VM.boolT Try.prog 81 = false := by kernel_rfl
theorem intT_81 : VM.intT Try.prog 81 = none := by kernel_rfl
theorem hasT_81 : VM.hasT Try.prog 81 = true := by kernel_rfl
theorem aggT_81 : VM.aggT Try.prog 81 = some true := by kernel_rfl
theorem zeroT_81 : VM.zeroT Try.prog 81 = some [.int .i64 0, .str ⟨#[]⟩, .str ⟨#[]⟩, .str ⟨#[]⟩] := by kernel_rfl
theorem fieldT_81_0 : VM.fieldT Try.prog 81 0 = some (0, 3) := by kernel_rfl
theorem fieldT_81_1 : VM.fieldT Try.prog 81 1 = some (1, 9) := by kernel_rfl
theorem fieldT_81_2 : VM.fieldT Try.prog 81 2 = some (2, 9) := by kernel_rfl
theorem fieldT_81_3 : VM.fieldT Try.prog 81 3 = some (3, 9) := by kernel_rfl
theorem placesT_81 : VM.placesT Try.prog 81 = some [(0, 1, 3), (1, 1, 9), (2, 1, 9), (3, 1, 9)] := by kernel_rfl
theorem flatT_81 : VM.flatT Try.prog 81 = some [.int .i64, .string, .string, .string] := by kernel_rfl
theorem cellsOf_82 : Program.cellsOf Try.prog 82 = 4 := by kernel_rfl
theorem bytesOf_82 : Program.bytesOf Try.prog 82 = 56 := by kernel_rfl
theorem elemT_82 : VM.elemT Try.prog 82 = none := by kernel_rfl
theorem strT_82 : VM.strT Try.prog 82 = false := by kernel_rfl
theorem boolT_82 : VM.boolT Try.prog 82 = false := by kernel_rfl
theorem intT_82 : VM.intT Try.prog 82 = none := by kernel_rfl
theorem hasT_82 : VM.hasT Try.prog 82 = true := by kernel_rfl
theorem aggT_82 : VM.aggT Try.prog 82 = some true := by kernel_rfl
theorem zeroT_82 : VM.zeroT Try.prog 82 = some [.int .i64 0, .str ⟨#[]⟩, .str ⟨#[]⟩, .str ⟨#[]⟩] := by kernel_rfl
theorem fieldT_82_0 : VM.fieldT Try.prog 82 0 = some (0, 3) := by kernel_rfl
theorem fieldT_82_1 : VM.fieldT Try.prog 82 1 = some (1, 9) := by kernel_rfl
theorem fieldT_82_2 : VM.fieldT Try.prog 82 2 = some (2, 9) := by kernel_rfl
theorem fieldT_82_3 : VM.fieldT Try.prog 82 3 = some (3, 9) := by kernel_rfl
theorem placesT_82 : VM.placesT Try.prog 82 = some [(0, 1, 3), (1, 1, 9), (2, 1, 9), (3, 1, 9)] := by kernel_rfl
theorem flatT_82 : VM.flatT Try.prog 82 = some [.int .i64, .string, .string, .string] := by kernel_rfl
theorem cellsOf_83 : Program.cellsOf Try.prog 83 = 1 := by kernel_rfl
theorem bytesOf_83 : Program.bytesOf Try.prog 83 = 8 := by kernel_rfl
theorem elemT_83 : VM.elemT Try.prog 83 = none := by kernel_rfl
theorem strT_83 : VM.strT Try.prog 83 = false := by kernel_rfl
theorem boolT_83 : VM.boolT Try.prog 83 = false := by kernel_rfl
theorem intT_83 : VM.intT Try.prog 83 = none := by kernel_rfl
theorem hasT_83 : VM.hasT Try.prog 83 = true := by kernel_rfl
theorem aggT_83 : VM.aggT Try.prog 83 = some false := by kernel_rfl
theorem cellsOf_85 : Program.cellsOf Try.prog 85 = 1 := by kernel_rfl
theorem bytesOf_85 : Program.bytesOf Try.prog 85 = 8 := by kernel_rfl
theorem elemT_85 : VM.elemT Try.prog 85 = none := by kernel_rfl
theorem strT_85 : VM.strT Try.prog 85 = false := by kernel_rfl
theorem boolT_85 : VM.boolT Try.prog 85 = false := by kernel_rfl
theorem intT_85 : VM.intT Try.prog 85 = none := by kernel_rfl
theorem hasT_85 : VM.hasT Try.prog 85 = true := by kernel_rfl
theorem aggT_85 : VM.aggT Try.prog 85 = some false := by kernel_rfl
theorem cellsOf_86 : Program.cellsOf Try.prog 86 = 4 := by kernel_rfl
theorem bytesOf_86 : Program.bytesOf Try.prog 86 = 56 := by kernel_rfl
theorem elemT_86 : VM.elemT Try.prog 86 = none := by kernel_rfl
theorem strT_86 : VM.strT Try.prog 86 = false := by kernel_rfl
theorem boolT_86 : VM.boolT Try.prog 86 = false := by kernel_rfl
theorem intT_86 : VM.intT Try.prog 86 = none := by kernel_rfl
theorem hasT_86 : VM.hasT Try.prog 86 = true := by kernel_rfl
theorem aggT_86 : VM.aggT Try.prog 86 = some true := by kernel_rfl
theorem zeroT_86 : VM.zeroT Try.prog 86 = some [.int .i64 0, .str ⟨#[]⟩, .str ⟨#[]⟩, .str ⟨#[]⟩] := by kernel_rfl
theorem fieldT_86_0 : VM.fieldT Try.prog 86 0 = some (0, 3) := by kernel_rfl
theorem fieldT_86_1 : VM.fieldT Try.prog 86 1 = some (1, 9) := by kernel_rfl
theorem fieldT_86_2 : VM.fieldT Try.prog 86 2 = some (2, 9) := by kernel_rfl
theorem fieldT_86_3 : VM.fieldT Try.prog 86 3 = some (3, 9) := by kernel_rfl
theorem placesT_86 : VM.placesT Try.prog 86 = some [(0, 1, 3), (1, 1, 9), (2, 1, 9), (3, 1, 9)] := by kernel_rfl
theorem flatT_86 : VM.flatT Try.prog 86 = some [.int .i64, .string, .string, .string] := by kernel_rfl
theorem cellsOf_87 : Program.cellsOf Try.prog 87 = 1 := by kernel_rfl
theorem bytesOf_87 : Program.bytesOf Try.prog 87 = 8 := by kernel_rfl
theorem elemT_87 : VM.elemT Try.prog 87 = none := by kernel_rfl
theorem strT_87 : VM.strT Try.prog 87 = false := by kernel_rfl
theorem boolT_87 : VM.boolT Try.prog 87 = false := by kernel_rfl
theorem intT_87 : VM.intT Try.prog 87 = none := by kernel_rfl
theorem hasT_87 : VM.hasT Try.prog 87 = true := by kernel_rfl
theorem aggT_87 : VM.aggT Try.prog 87 = some false := by kernel_rfl
theorem cellsOf_88 : Program.cellsOf Try.prog 88 = 1 := by kernel_rfl
theorem bytesOf_88 : Program.bytesOf Try.prog 88 = 8 := by kernel_rfl
theorem elemT_88 : VM.elemT Try.prog 88 = none := by kernel_rfl
theorem strT_88 : VM.strT Try.prog 88 = false := by kernel_rfl
theorem boolT_88 : VM.boolT Try.prog 88 = false := by kernel_rfl
theorem intT_88 : VM.intT Try.prog 88 = none := by kernel_rfl
theorem hasT_88 : VM.hasT Try.prog 88 = true := by kernel_rfl
theorem aggT_88 : VM.aggT Try.prog 88 = some false := by kernel_rfl
theorem cellsOf_90 : Program.cellsOf Try.prog 90 = 1 := by kernel_rfl
theorem bytesOf_90 : Program.bytesOf Try.prog 90 = 8 := by kernel_rfl
theorem elemT_90 : VM.elemT Try.prog 90 = none := by kernel_rfl
theorem strT_90 : VM.strT Try.prog 90 = false := by kernel_rfl
theorem boolT_90 : VM.boolT Try.prog 90 = false := by kernel_rfl
theorem intT_90 : VM.intT Try.prog 90 = none := by kernel_rfl
theorem hasT_90 : VM.hasT Try.prog 90 = true := by kernel_rfl
theorem aggT_90 : VM.aggT Try.prog 90 = some false := by kernel_rfl
theorem cellsOf_91 : Program.cellsOf Try.prog 91 = 1 := by kernel_rfl
theorem bytesOf_91 : Program.bytesOf Try.prog 91 = 8 := by kernel_rfl
theorem elemT_91 : VM.elemT Try.prog 91 = none := by kernel_rfl
theorem strT_91 : VM.strT Try.prog 91 = false := by kernel_rfl
theorem boolT_91 : VM.boolT Try.prog 91 = false := by kernel_rfl
theorem intT_91 : VM.intT Try.prog 91 = none := by kernel_rfl
theorem hasT_91 : VM.hasT Try.prog 91 = true := by kernel_rfl
theorem aggT_91 : VM.aggT Try.prog 91 = some false := by kernel_rfl
theorem cellsOf_92 : Program.cellsOf Try.prog 92 = 2 := by kernel_rfl
theorem bytesOf_92 : Program.bytesOf Try.prog 92 = 24 := by kernel_rfl
theorem elemT_92 : VM.elemT Try.prog 92 = none := by kernel_rfl
theorem strT_92 : VM.strT Try.prog 92 = false := by kernel_rfl
theorem boolT_92 : VM.boolT Try.prog 92 = false := by kernel_rfl
theorem intT_92 : VM.intT Try.prog 92 = none := by kernel_rfl
theorem hasT_92 : VM.hasT Try.prog 92 = true := by kernel_rfl
theorem aggT_92 : VM.aggT Try.prog 92 = some true := by kernel_rfl
theorem zeroT_92 : VM.zeroT Try.prog 92 = some [.int .i64 0, .str ⟨#[]⟩] := by kernel_rfl
theorem fieldT_92_0 : VM.fieldT Try.prog 92 0 = some (0, 3) := by kernel_rfl
theorem fieldT_92_1 : VM.fieldT Try.prog 92 1 = some (1, 9) := by kernel_rfl
theorem placesT_92 : VM.placesT Try.prog 92 = some [(0, 1, 3), (1, 1, 9)] := by kernel_rfl
theorem flatT_92 : VM.flatT Try.prog 92 = some [.int .i64, .string] := by kernel_rfl
theorem cellsOf_93 : Program.cellsOf Try.prog 93 = 1 := by kernel_rfl
theorem bytesOf_93 : Program.bytesOf Try.prog 93 = 8 := by kernel_rfl
theorem elemT_93 : VM.elemT Try.prog 93 = none := by kernel_rfl
theorem strT_93 : VM.strT Try.prog 93 = false := by kernel_rfl
theorem boolT_93 : VM.boolT Try.prog 93 = false := by kernel_rfl
theorem intT_93 : VM.intT Try.prog 93 = none := by kernel_rfl
theorem hasT_93 : VM.hasT Try.prog 93 = true := by kernel_rfl
theorem aggT_93 : VM.aggT Try.prog 93 = some false := by kernel_rfl
theorem cellsOf_94 : Program.cellsOf Try.prog 94 = 1 := by kernel_rfl
theorem bytesOf_94 : Program.bytesOf Try.prog 94 = 8 := by kernel_rfl
theorem elemT_94 : VM.elemT Try.prog 94 = none := by kernel_rfl
theorem strT_94 : VM.strT Try.prog 94 = false := by kernel_rfl
theorem boolT_94 : VM.boolT Try.prog 94 = false := by kernel_rfl
theorem intT_94 : VM.intT Try.prog 94 = none := by kernel_rfl
theorem hasT_94 : VM.hasT Try.prog 94 = true := by kernel_rfl
theorem aggT_94 : VM.aggT Try.prog 94 = some false := by kernel_rfl
theorem cellsOf_95 : Program.cellsOf Try.prog 95 = 1 := by kernel_rfl
theorem bytesOf_95 : Program.bytesOf Try.prog 95 = 8 := by kernel_rfl
theorem elemT_95 : VM.elemT Try.prog 95 = none := by kernel_rfl
theorem strT_95 : VM.strT Try.prog 95 = false := by kernel_rfl
theorem boolT_95 : VM.boolT Try.prog 95 = false := by kernel_rfl
theorem intT_95 : VM.intT Try.prog 95 = none := by kernel_rfl
theorem hasT_95 : VM.hasT Try.prog 95 = true := by kernel_rfl
theorem aggT_95 : VM.aggT Try.prog 95 = some false := by kernel_rfl
theorem cellsOf_96 : Program.cellsOf Try.prog 96 = 1 := by kernel_rfl
theorem bytesOf_96 : Program.bytesOf Try.prog 96 = 8 := by kernel_rfl
theorem elemT_96 : VM.elemT Try.prog 96 = none := by kernel_rfl
theorem strT_96 : VM.strT Try.prog 96 = false := by kernel_rfl
theorem boolT_96 : VM.boolT Try.prog 96 = false := by kernel_rfl
theorem intT_96 : VM.intT Try.prog 96 = none := by kernel_rfl
theorem hasT_96 : VM.hasT Try.prog 96 = true := by kernel_rfl
theorem aggT_96 : VM.aggT Try.prog 96 = some false := by kernel_rfl
theorem cellsOf_97 : Program.cellsOf Try.prog 97 = 1 := by kernel_rfl
theorem bytesOf_97 : Program.bytesOf Try.prog 97 = 8 := by kernel_rfl
theorem elemT_97 : VM.elemT Try.prog 97 = none := by kernel_rfl
theorem strT_97 : VM.strT Try.prog 97 = false := by kernel_rfl
theorem boolT_97 : VM.boolT Try.prog 97 = false := by kernel_rfl
theorem intT_97 : VM.intT Try.prog 97 = none := by kernel_rfl
theorem hasT_97 : VM.hasT Try.prog 97 = true := by kernel_rfl
theorem aggT_97 : VM.aggT Try.prog 97 = some false := by kernel_rfl
theorem cellsOf_98 : Program.cellsOf Try.prog 98 = 1 := by kernel_rfl
theorem bytesOf_98 : Program.bytesOf Try.prog 98 = 8 := by kernel_rfl
theorem elemT_98 : VM.elemT Try.prog 98 = none := by kernel_rfl
theorem strT_98 : VM.strT Try.prog 98 = false := by kernel_rfl
theorem boolT_98 : VM.boolT Try.prog 98 = false := by kernel_rfl
theorem intT_98 : VM.intT Try.prog 98 = none := by kernel_rfl
theorem hasT_98 : VM.hasT Try.prog 98 = true := by kernel_rfl
theorem aggT_98 : VM.aggT Try.prog 98 = some false := by kernel_rfl
theorem cellsOf_99 : Program.cellsOf Try.prog 99 = 3 := by kernel_rfl
theorem bytesOf_99 : Program.bytesOf Try.prog 99 = 40 := by kernel_rfl
theorem elemT_99 : VM.elemT Try.prog 99 = none := by kernel_rfl
theorem strT_99 : VM.strT Try.prog 99 = false := by kernel_rfl
theorem boolT_99 : VM.boolT Try.prog 99 = false := by kernel_rfl
theorem intT_99 : VM.intT Try.prog 99 = none := by kernel_rfl
theorem hasT_99 : VM.hasT Try.prog 99 = true := by kernel_rfl
theorem aggT_99 : VM.aggT Try.prog 99 = some true := by kernel_rfl
theorem zeroT_99 : VM.zeroT Try.prog 99 = some [.str ⟨#[]⟩, .bool false, .str ⟨#[]⟩] := by kernel_rfl
theorem fieldT_99_0 : VM.fieldT Try.prog 99 0 = some (0, 9) := by kernel_rfl
theorem fieldT_99_1 : VM.fieldT Try.prog 99 1 = some (1, 4) := by kernel_rfl
theorem fieldT_99_2 : VM.fieldT Try.prog 99 2 = some (2, 9) := by kernel_rfl
theorem placesT_99 : VM.placesT Try.prog 99 = some [(0, 1, 9), (1, 1, 4), (2, 1, 9)] := by kernel_rfl
theorem flatT_99 : VM.flatT Try.prog 99 = some [.string, .bool, .string] := by kernel_rfl
theorem cellsOf_100 : Program.cellsOf Try.prog 100 = 3 := by kernel_rfl
theorem bytesOf_100 : Program.bytesOf Try.prog 100 = 40 := by kernel_rfl
theorem elemT_100 : VM.elemT Try.prog 100 = none := by kernel_rfl
theorem strT_100 : VM.strT Try.prog 100 = false := by kernel_rfl
theorem boolT_100 : VM.boolT Try.prog 100 = false := by kernel_rfl
theorem intT_100 : VM.intT Try.prog 100 = none := by kernel_rfl
theorem hasT_100 : VM.hasT Try.prog 100 = true := by kernel_rfl
theorem aggT_100 : VM.aggT Try.prog 100 = some true := by kernel_rfl
theorem zeroT_100 : VM.zeroT Try.prog 100 = some [.str ⟨#[]⟩, .bool false, .str ⟨#[]⟩] := by kernel_rfl
theorem fieldT_100_0 : VM.fieldT Try.prog 100 0 = some (0, 9) := by kernel_rfl
theorem fieldT_100_1 : VM.fieldT Try.prog 100 1 = some (1, 4) := by kernel_rfl
theorem fieldT_100_2 : VM.fieldT Try.prog 100 2 = some (2, 9) := by kernel_rfl
theorem placesT_100 : VM.placesT Try.prog 100 = some [(0, 1, 9), (1, 1, 4), (2, 1, 9)] := by kernel_rfl
theorem flatT_100 : VM.flatT Try.prog 100 = some [.string, .bool, .string] := by kernel_rfl
theorem cellsOf_101 : Program.cellsOf Try.prog 101 = 3 := by kernel_rfl
theorem bytesOf_101 : Program.bytesOf Try.prog 101 = 40 := by kernel_rfl
theorem elemT_101 : VM.elemT Try.prog 101 = none := by kernel_rfl
theorem strT_101 : VM.strT Try.prog 101 = false := by kernel_rfl
theorem boolT_101 : VM.boolT Try.prog 101 = false := by kernel_rfl
theorem intT_101 : VM.intT Try.prog 101 = none := by kernel_rfl
theorem hasT_101 : VM.hasT Try.prog 101 = true := by kernel_rfl
theorem aggT_101 : VM.aggT Try.prog 101 = some true := by kernel_rfl
theorem zeroT_101 : VM.zeroT Try.prog 101 = some [.str ⟨#[]⟩, .bool false, .str ⟨#[]⟩] := by kernel_rfl
theorem fieldT_101_0 : VM.fieldT Try.prog 101 0 = some (0, 9) := by kernel_rfl
theorem fieldT_101_1 : VM.fieldT Try.prog 101 1 = some (1, 4) := by kernel_rfl
theorem fieldT_101_2 : VM.fieldT Try.prog 101 2 = some (2, 9) := by kernel_rfl
theorem placesT_101 : VM.placesT Try.prog 101 = some [(0, 1, 9), (1, 1, 4), (2, 1, 9)] := by kernel_rfl
theorem flatT_101 : VM.flatT Try.prog 101 = some [.string, .bool, .string] := by kernel_rfl
theorem cellsOf_102 : Program.cellsOf Try.prog 102 = 1 := by kernel_rfl
theorem bytesOf_102 : Program.bytesOf Try.prog 102 = 8 := by kernel_rfl
theorem elemT_102 : VM.elemT Try.prog 102 = none := by kernel_rfl
theorem strT_102 : VM.strT Try.prog 102 = false := by kernel_rfl
theorem boolT_102 : VM.boolT Try.prog 102 = false := by kernel_rfl
theorem intT_102 : VM.intT Try.prog 102 = none := by kernel_rfl
theorem hasT_102 : VM.hasT Try.prog 102 = true := by kernel_rfl
theorem aggT_102 : VM.aggT Try.prog 102 = some false := by kernel_rfl
theorem cellsOf_103 : Program.cellsOf Try.prog 103 = 1 := by kernel_rfl
theorem bytesOf_103 : Program.bytesOf Try.prog 103 = 8 := by kernel_rfl
theorem elemT_103 : VM.elemT Try.prog 103 = none := by kernel_rfl
theorem strT_103 : VM.strT Try.prog 103 = false := by kernel_rfl
theorem boolT_103 : VM.boolT Try.prog 103 = false := by kernel_rfl
theorem intT_103 : VM.intT Try.prog 103 = none := by kernel_rfl
theorem hasT_103 : VM.hasT Try.prog 103 = true := by kernel_rfl
theorem aggT_103 : VM.aggT Try.prog 103 = some false := by kernel_rfl
theorem cellsOf_104 : Program.cellsOf Try.prog 104 = 1 := by kernel_rfl
theorem bytesOf_104 : Program.bytesOf Try.prog 104 = 8 := by kernel_rfl
theorem elemT_104 : VM.elemT Try.prog 104 = none := by kernel_rfl
theorem strT_104 : VM.strT Try.prog 104 = false := by kernel_rfl
theorem boolT_104 : VM.boolT Try.prog 104 = false := by kernel_rfl
theorem intT_104 : VM.intT Try.prog 104 = none := by kernel_rfl
theorem hasT_104 : VM.hasT Try.prog 104 = true := by kernel_rfl
theorem aggT_104 : VM.aggT Try.prog 104 = some false := by kernel_rfl
theorem cellsOf_105 : Program.cellsOf Try.prog 105 = 1 := by kernel_rfl
theorem bytesOf_105 : Program.bytesOf Try.prog 105 = 8 := by kernel_rfl
theorem elemT_105 : VM.elemT Try.prog 105 = none := by kernel_rfl
theorem strT_105 : VM.strT Try.prog 105 = false := by kernel_rfl
theorem boolT_105 : VM.boolT Try.prog 105 = false := by kernel_rfl
theorem intT_105 : VM.intT Try.prog 105 = none := by kernel_rfl
theorem hasT_105 : VM.hasT Try.prog 105 = true := by kernel_rfl
theorem aggT_105 : VM.aggT Try.prog 105 = some false := by kernel_rfl
theorem cellsOf_106 : Program.cellsOf Try.prog 106 = 1 := by kernel_rfl
theorem bytesOf_106 : Program.bytesOf Try.prog 106 = 8 := by kernel_rfl
theorem elemT_106 : VM.elemT Try.prog 106 = none := by kernel_rfl
theorem strT_106 : VM.strT Try.prog 106 = false := by kernel_rfl
theorem boolT_106 : VM.boolT Try.prog 106 = false := by kernel_rfl
theorem intT_106 : VM.intT Try.prog 106 = none := by kernel_rfl
theorem hasT_106 : VM.hasT Try.prog 106 = true := by kernel_rfl
theorem aggT_106 : VM.aggT Try.prog 106 = some false := by kernel_rfl
theorem cellsOf_107 : Program.cellsOf Try.prog 107 = 1 := by kernel_rfl
theorem bytesOf_107 : Program.bytesOf Try.prog 107 = 8 := by kernel_rfl
theorem elemT_107 : VM.elemT Try.prog 107 = none := by kernel_rfl
theorem strT_107 : VM.strT Try.prog 107 = false := by kernel_rfl
theorem boolT_107 : VM.boolT Try.prog 107 = false := by kernel_rfl
theorem intT_107 : VM.intT Try.prog 107 = none := by kernel_rfl
theorem hasT_107 : VM.hasT Try.prog 107 = true := by kernel_rfl
theorem aggT_107 : VM.aggT Try.prog 107 = some false := by kernel_rfl
theorem cellsOf_108 : Program.cellsOf Try.prog 108 = 1 := by kernel_rfl
theorem bytesOf_108 : Program.bytesOf Try.prog 108 = 8 := by kernel_rfl
theorem elemT_108 : VM.elemT Try.prog 108 = none := by kernel_rfl
theorem strT_108 : VM.strT Try.prog 108 = false := by kernel_rfl
theorem boolT_108 : VM.boolT Try.prog 108 = false := by kernel_rfl
theorem intT_108 : VM.intT Try.prog 108 = none := by kernel_rfl
theorem hasT_108 : VM.hasT Try.prog 108 = true := by kernel_rfl
theorem aggT_108 : VM.aggT Try.prog 108 = some false := by kernel_rfl
theorem cellsOf_109 : Program.cellsOf Try.prog 109 = 6 := by kernel_rfl
theorem bytesOf_109 : Program.bytesOf Try.prog 109 = 72 := by kernel_rfl
theorem elemT_109 : VM.elemT Try.prog 109 = none := by kernel_rfl
theorem strT_109 : VM.strT Try.prog 109 = false := by kernel_rfl
theorem boolT_109 : VM.boolT Try.prog 109 = false := by kernel_rfl
theorem intT_109 : VM.intT Try.prog 109 = none := by kernel_rfl
theorem hasT_109 : VM.hasT Try.prog 109 = true := by kernel_rfl
theorem aggT_109 : VM.aggT Try.prog 109 = some true := by kernel_rfl
theorem zeroT_109 : VM.zeroT Try.prog 109 = some [.int .i64 0, .int .i64 0, .str ⟨#[]⟩, .str ⟨#[]⟩, .str ⟨#[]⟩, .int .i64 0] := by kernel_rfl
theorem fieldT_109_0 : VM.fieldT Try.prog 109 0 = some (0, 3) := by kernel_rfl
theorem fieldT_109_1 : VM.fieldT Try.prog 109 1 = some (1, 82) := by kernel_rfl
theorem fieldT_109_2 : VM.fieldT Try.prog 109 2 = some (5, 3) := by kernel_rfl
theorem placesT_109 : VM.placesT Try.prog 109 = some [(0, 1, 3), (1, 4, 82), (5, 1, 3)] := by kernel_rfl
theorem cellsOf_110 : Program.cellsOf Try.prog 110 = 6 := by kernel_rfl
theorem bytesOf_110 : Program.bytesOf Try.prog 110 = 72 := by kernel_rfl
theorem elemT_110 : VM.elemT Try.prog 110 = none := by kernel_rfl
theorem strT_110 : VM.strT Try.prog 110 = false := by kernel_rfl
theorem boolT_110 : VM.boolT Try.prog 110 = false := by kernel_rfl
theorem intT_110 : VM.intT Try.prog 110 = none := by kernel_rfl
theorem hasT_110 : VM.hasT Try.prog 110 = true := by kernel_rfl
theorem aggT_110 : VM.aggT Try.prog 110 = some true := by kernel_rfl
theorem zeroT_110 : VM.zeroT Try.prog 110 = some [.int .i64 0, .int .i64 0, .str ⟨#[]⟩, .str ⟨#[]⟩, .str ⟨#[]⟩, .int .i64 0] := by kernel_rfl
theorem fieldT_110_0 : VM.fieldT Try.prog 110 0 = some (0, 3) := by kernel_rfl
theorem fieldT_110_1 : VM.fieldT Try.prog 110 1 = some (1, 82) := by kernel_rfl
theorem fieldT_110_2 : VM.fieldT Try.prog 110 2 = some (5, 3) := by kernel_rfl
theorem placesT_110 : VM.placesT Try.prog 110 = some [(0, 1, 3), (1, 4, 82), (5, 1, 3)] := by kernel_rfl
theorem cellsOf_111 : Program.cellsOf Try.prog 111 = 6 := by kernel_rfl
theorem bytesOf_111 : Program.bytesOf Try.prog 111 = 72 := by kernel_rfl
theorem elemT_111 : VM.elemT Try.prog 111 = none := by kernel_rfl
theorem strT_111 : VM.strT Try.prog 111 = false := by kernel_rfl
theorem boolT_111 : VM.boolT Try.prog 111 = false := by kernel_rfl
theorem intT_111 : VM.intT Try.prog 111 = none := by kernel_rfl
theorem hasT_111 : VM.hasT Try.prog 111 = true := by kernel_rfl
theorem aggT_111 : VM.aggT Try.prog 111 = some true := by kernel_rfl
theorem zeroT_111 : VM.zeroT Try.prog 111 = some [.int .i64 0, .int .i64 0, .str ⟨#[]⟩, .str ⟨#[]⟩, .str ⟨#[]⟩, .int .i64 0] := by kernel_rfl
theorem fieldT_111_0 : VM.fieldT Try.prog 111 0 = some (0, 3) := by kernel_rfl
theorem fieldT_111_1 : VM.fieldT Try.prog 111 1 = some (1, 86) := by kernel_rfl
theorem fieldT_111_2 : VM.fieldT Try.prog 111 2 = some (5, 3) := by kernel_rfl
theorem placesT_111 : VM.placesT Try.prog 111 = some [(0, 1, 3), (1, 4, 86), (5, 1, 3)] := by kernel_rfl
theorem cellsOf_112 : Program.cellsOf Try.prog 112 = 6 := by kernel_rfl
theorem bytesOf_112 : Program.bytesOf Try.prog 112 = 72 := by kernel_rfl
theorem elemT_112 : VM.elemT Try.prog 112 = none := by kernel_rfl
theorem strT_112 : VM.strT Try.prog 112 = false := by kernel_rfl
theorem boolT_112 : VM.boolT Try.prog 112 = false := by kernel_rfl
theorem intT_112 : VM.intT Try.prog 112 = none := by kernel_rfl
theorem hasT_112 : VM.hasT Try.prog 112 = true := by kernel_rfl
theorem aggT_112 : VM.aggT Try.prog 112 = some true := by kernel_rfl
theorem zeroT_112 : VM.zeroT Try.prog 112 = some [.int .i64 0, .int .i64 0, .str ⟨#[]⟩, .str ⟨#[]⟩, .str ⟨#[]⟩, .int .i64 0] := by kernel_rfl
theorem fieldT_112_0 : VM.fieldT Try.prog 112 0 = some (0, 3) := by kernel_rfl
theorem fieldT_112_1 : VM.fieldT Try.prog 112 1 = some (1, 86) := by kernel_rfl
theorem fieldT_112_2 : VM.fieldT Try.prog 112 2 = some (5, 3) := by kernel_rfl
theorem placesT_112 : VM.placesT Try.prog 112 = some [(0, 1, 3), (1, 4, 86), (5, 1, 3)] := by kernel_rfl
theorem cellsOf_113 : Program.cellsOf Try.prog 113 = 1 := by kernel_rfl
theorem bytesOf_113 : Program.bytesOf Try.prog 113 = 8 := by kernel_rfl
theorem elemT_113 : VM.elemT Try.prog 113 = none := by kernel_rfl
theorem strT_113 : VM.strT Try.prog 113 = false := by kernel_rfl
theorem boolT_113 : VM.boolT Try.prog 113 = false := by kernel_rfl
theorem intT_113 : VM.intT Try.prog 113 = none := by kernel_rfl
theorem hasT_113 : VM.hasT Try.prog 113 = true := by kernel_rfl
theorem aggT_113 : VM.aggT Try.prog 113 = some false := by kernel_rfl
theorem cellsOf_114 : Program.cellsOf Try.prog 114 = 1 := by kernel_rfl
theorem bytesOf_114 : Program.bytesOf Try.prog 114 = 8 := by kernel_rfl
theorem elemT_114 : VM.elemT Try.prog 114 = none := by kernel_rfl
theorem strT_114 : VM.strT Try.prog 114 = false := by kernel_rfl
theorem boolT_114 : VM.boolT Try.prog 114 = false := by kernel_rfl
theorem intT_114 : VM.intT Try.prog 114 = none := by kernel_rfl
theorem hasT_114 : VM.hasT Try.prog 114 = true := by kernel_rfl
theorem aggT_114 : VM.aggT Try.prog 114 = some false := by kernel_rfl
theorem cellsOf_115 : Program.cellsOf Try.prog 115 = 1 := by kernel_rfl
theorem bytesOf_115 : Program.bytesOf Try.prog 115 = 8 := by kernel_rfl
theorem elemT_115 : VM.elemT Try.prog 115 = none := by kernel_rfl
theorem strT_115 : VM.strT Try.prog 115 = false := by kernel_rfl
theorem boolT_115 : VM.boolT Try.prog 115 = false := by kernel_rfl
theorem intT_115 : VM.intT Try.prog 115 = none := by kernel_rfl
theorem hasT_115 : VM.hasT Try.prog 115 = true := by kernel_rfl
theorem aggT_115 : VM.aggT Try.prog 115 = some false := by kernel_rfl
theorem cellsOf_116 : Program.cellsOf Try.prog 116 = 1 := by kernel_rfl
theorem bytesOf_116 : Program.bytesOf Try.prog 116 = 8 := by kernel_rfl
theorem elemT_116 : VM.elemT Try.prog 116 = none := by kernel_rfl
theorem strT_116 : VM.strT Try.prog 116 = false := by kernel_rfl
theorem boolT_116 : VM.boolT Try.prog 116 = false := by kernel_rfl
theorem intT_116 : VM.intT Try.prog 116 = none := by kernel_rfl
theorem hasT_116 : VM.hasT Try.prog 116 = true := by kernel_rfl
theorem aggT_116 : VM.aggT Try.prog 116 = some false := by kernel_rfl
theorem cellsOf_117 : Program.cellsOf Try.prog 117 = 1 := by kernel_rfl
theorem bytesOf_117 : Program.bytesOf Try.prog 117 = 8 := by kernel_rfl
theorem elemT_117 : VM.elemT Try.prog 117 = none := by kernel_rfl
theorem strT_117 : VM.strT Try.prog 117 = false := by kernel_rfl
theorem boolT_117 : VM.boolT Try.prog 117 = false := by kernel_rfl
theorem intT_117 : VM.intT Try.prog 117 = none := by kernel_rfl
theorem hasT_117 : VM.hasT Try.prog 117 = true := by kernel_rfl
theorem aggT_117 : VM.aggT Try.prog 117 = some false := by kernel_rfl
theorem cellsOf_118 : Program.cellsOf Try.prog 118 = 1 := by kernel_rfl
theorem bytesOf_118 : Program.bytesOf Try.prog 118 = 8 := by kernel_rfl
theorem elemT_118 : VM.elemT Try.prog 118 = none := by kernel_rfl
theorem strT_118 : VM.strT Try.prog 118 = false := by kernel_rfl
theorem boolT_118 : VM.boolT Try.prog 118 = false := by kernel_rfl
theorem intT_118 : VM.intT Try.prog 118 = none := by kernel_rfl
theorem hasT_118 : VM.hasT Try.prog 118 = true := by kernel_rfl
theorem aggT_118 : VM.aggT Try.prog 118 = some false := by kernel_rfl
theorem cellsOf_119 : Program.cellsOf Try.prog 119 = 2 := by kernel_rfl
theorem bytesOf_119 : Program.bytesOf Try.prog 119 = 24 := by kernel_rfl
theorem elemT_119 : VM.elemT Try.prog 119 = none := by kernel_rfl
theorem strT_119 : VM.strT Try.prog 119 = false := by kernel_rfl
theorem boolT_119 : VM.boolT Try.prog 119 = false := by kernel_rfl
theorem intT_119 : VM.intT Try.prog 119 = none := by kernel_rfl
theorem hasT_119 : VM.hasT Try.prog 119 = true := by kernel_rfl
theorem aggT_119 : VM.aggT Try.prog 119 = some true := by kernel_rfl
theorem zeroT_119 : VM.zeroT Try.prog 119 = some [.int .i64 0, .str ⟨#[]⟩] := by kernel_rfl
theorem fieldT_119_0 : VM.fieldT Try.prog 119 0 = some (0, 3) := by kernel_rfl
theorem fieldT_119_1 : VM.fieldT Try.prog 119 1 = some (1, 9) := by kernel_rfl
theorem placesT_119 : VM.placesT Try.prog 119 = some [(0, 1, 3), (1, 1, 9)] := by kernel_rfl
theorem flatT_119 : VM.flatT Try.prog 119 = some [.int .i64, .string] := by kernel_rfl
theorem cellsOf_120 : Program.cellsOf Try.prog 120 = 2 := by kernel_rfl
theorem bytesOf_120 : Program.bytesOf Try.prog 120 = 24 := by kernel_rfl
theorem elemT_120 : VM.elemT Try.prog 120 = none := by kernel_rfl
theorem strT_120 : VM.strT Try.prog 120 = false := by kernel_rfl
theorem boolT_120 : VM.boolT Try.prog 120 = false := by kernel_rfl
theorem intT_120 : VM.intT Try.prog 120 = none := by kernel_rfl
theorem hasT_120 : VM.hasT Try.prog 120 = true := by kernel_rfl
theorem aggT_120 : VM.aggT Try.prog 120 = some true := by kernel_rfl
theorem zeroT_120 : VM.zeroT Try.prog 120 = some [.int .i64 0, .str ⟨#[]⟩] := by kernel_rfl
theorem fieldT_120_0 : VM.fieldT Try.prog 120 0 = some (0, 3) := by kernel_rfl
theorem fieldT_120_1 : VM.fieldT Try.prog 120 1 = some (1, 9) := by kernel_rfl
theorem placesT_120 : VM.placesT Try.prog 120 = some [(0, 1, 3), (1, 1, 9)] := by kernel_rfl
theorem flatT_120 : VM.flatT Try.prog 120 = some [.int .i64, .string] := by kernel_rfl
theorem cellsOf_121 : Program.cellsOf Try.prog 121 = 2 := by kernel_rfl
theorem bytesOf_121 : Program.bytesOf Try.prog 121 = 24 := by kernel_rfl
theorem elemT_121 : VM.elemT Try.prog 121 = none := by kernel_rfl
theorem strT_121 : VM.strT Try.prog 121 = false := by kernel_rfl
theorem boolT_121 : VM.boolT Try.prog 121 = false := by kernel_rfl
theorem intT_121 : VM.intT Try.prog 121 = none := by kernel_rfl
theorem hasT_121 : VM.hasT Try.prog 121 = true := by kernel_rfl
theorem aggT_121 : VM.aggT Try.prog 121 = some true := by kernel_rfl
theorem zeroT_121 : VM.zeroT Try.prog 121 = some [.int .i64 0, .str ⟨#[]⟩] := by kernel_rfl
theorem fieldT_121_0 : VM.fieldT Try.prog 121 0 = some (0, 3) := by kernel_rfl
theorem fieldT_121_1 : VM.fieldT Try.prog 121 1 = some (1, 9) := by kernel_rfl
theorem placesT_121 : VM.placesT Try.prog 121 = some [(0, 1, 3), (1, 1, 9)] := by kernel_rfl
theorem flatT_121 : VM.flatT Try.prog 121 = some [.int .i64, .string] := by kernel_rfl
theorem cellsOf_122 : Program.cellsOf Try.prog 122 = 1 := by kernel_rfl
theorem bytesOf_122 : Program.bytesOf Try.prog 122 = 8 := by kernel_rfl
theorem elemT_122 : VM.elemT Try.prog 122 = none := by kernel_rfl
theorem strT_122 : VM.strT Try.prog 122 = false := by kernel_rfl
theorem boolT_122 : VM.boolT Try.prog 122 = false := by kernel_rfl
theorem intT_122 : VM.intT Try.prog 122 = none := by kernel_rfl
theorem hasT_122 : VM.hasT Try.prog 122 = true := by kernel_rfl
theorem aggT_122 : VM.aggT Try.prog 122 = some false := by kernel_rfl
theorem cellsOf_123 : Program.cellsOf Try.prog 123 = 1 := by kernel_rfl
theorem bytesOf_123 : Program.bytesOf Try.prog 123 = 8 := by kernel_rfl
theorem elemT_123 : VM.elemT Try.prog 123 = none := by kernel_rfl
theorem strT_123 : VM.strT Try.prog 123 = false := by kernel_rfl
theorem boolT_123 : VM.boolT Try.prog 123 = false := by kernel_rfl
theorem intT_123 : VM.intT Try.prog 123 = none := by kernel_rfl
theorem hasT_123 : VM.hasT Try.prog 123 = true := by kernel_rfl
theorem aggT_123 : VM.aggT Try.prog 123 = some false := by kernel_rfl
theorem cellsOf_124 : Program.cellsOf Try.prog 124 = 1 := by kernel_rfl
theorem bytesOf_124 : Program.bytesOf Try.prog 124 = 8 := by kernel_rfl
theorem elemT_124 : VM.elemT Try.prog 124 = none := by kernel_rfl
theorem strT_124 : VM.strT Try.prog 124 = false := by kernel_rfl
theorem boolT_124 : VM.boolT Try.prog 124 = false := by kernel_rfl
theorem intT_124 : VM.intT Try.prog 124 = none := by kernel_rfl
theorem hasT_124 : VM.hasT Try.prog 124 = true := by kernel_rfl
theorem aggT_124 : VM.aggT Try.prog 124 = some false := by kernel_rfl
theorem cellsOf_125 : Program.cellsOf Try.prog 125 = 1 := by kernel_rfl
theorem bytesOf_125 : Program.bytesOf Try.prog 125 = 8 := by kernel_rfl
theorem elemT_125 : VM.elemT Try.prog 125 = none := by kernel_rfl
theorem strT_125 : VM.strT Try.prog 125 = false := by kernel_rfl
theorem boolT_125 : VM.boolT Try.prog 125 = false := by kernel_rfl
theorem intT_125 : VM.intT Try.prog 125 = none := by kernel_rfl
theorem hasT_125 : VM.hasT Try.prog 125 = true := by kernel_rfl
theorem aggT_125 : VM.aggT Try.prog 125 = some false := by kernel_rfl
theorem cellsOf_126 : Program.cellsOf Try.prog 126 = 1 := by kernel_rfl
theorem bytesOf_126 : Program.bytesOf Try.prog 126 = 8 := by kernel_rfl
theorem elemT_126 : VM.elemT Try.prog 126 = none := by kernel_rfl
theorem strT_126 : VM.strT Try.prog 126 = false := by kernel_rfl
theorem boolT_126 : VM.boolT Try.prog 126 = false := by kernel_rfl
theorem intT_126 : VM.intT Try.prog 126 = none := by kernel_rfl
theorem hasT_126 : VM.hasT Try.prog 126 = true := by kernel_rfl
theorem aggT_126 : VM.aggT Try.prog 126 = some false := by kernel_rfl
theorem cellsOf_127 : Program.cellsOf Try.prog 127 = 1 := by kernel_rfl
theorem bytesOf_127 : Program.bytesOf Try.prog 127 = 8 := by kernel_rfl
theorem elemT_127 : VM.elemT Try.prog 127 = none := by kernel_rfl
theorem strT_127 : VM.strT Try.prog 127 = false := by kernel_rfl
theorem boolT_127 : VM.boolT Try.prog 127 = false := by kernel_rfl
theorem intT_127 : VM.intT Try.prog 127 = none := by kernel_rfl
theorem hasT_127 : VM.hasT Try.prog 127 = true := by kernel_rfl
theorem aggT_127 : VM.aggT Try.prog 127 = some false := by kernel_rfl
theorem cellsOf_128 : Program.cellsOf Try.prog 128 = 1 := by kernel_rfl
theorem bytesOf_128 : Program.bytesOf Try.prog 128 = 8 := by kernel_rfl
theorem elemT_128 : VM.elemT Try.prog 128 = none := by kernel_rfl
theorem strT_128 : VM.strT Try.prog 128 = false := by kernel_rfl
theorem boolT_128 : VM.boolT Try.prog 128 = false := by kernel_rfl
theorem intT_128 : VM.intT Try.prog 128 = none := by kernel_rfl
theorem hasT_128 : VM.hasT Try.prog 128 = true := by kernel_rfl
theorem aggT_128 : VM.aggT Try.prog 128 = some false := by kernel_rfl
theorem cellsOf_129 : Program.cellsOf Try.prog 129 = 1 := by kernel_rfl
theorem bytesOf_129 : Program.bytesOf Try.prog 129 = 8 := by kernel_rfl
theorem elemT_129 : VM.elemT Try.prog 129 = none := by kernel_rfl
theorem strT_129 : VM.strT Try.prog 129 = false := by kernel_rfl
theorem boolT_129 : VM.boolT Try.prog 129 = false := by kernel_rfl
theorem intT_129 : VM.intT Try.prog 129 = none := by kernel_rfl
theorem hasT_129 : VM.hasT Try.prog 129 = true := by kernel_rfl
theorem aggT_129 : VM.aggT Try.prog 129 = some false := by kernel_rfl
theorem cellsOf_130 : Program.cellsOf Try.prog 130 = 1 := by kernel_rfl
theorem bytesOf_130 : Program.bytesOf Try.prog 130 = 8 := by kernel_rfl
theorem elemT_130 : VM.elemT Try.prog 130 = none := by kernel_rfl
theorem strT_130 : VM.strT Try.prog 130 = false := by kernel_rfl
theorem boolT_130 : VM.boolT Try.prog 130 = false := by kernel_rfl
theorem intT_130 : VM.intT Try.prog 130 = none := by kernel_rfl
theorem hasT_130 : VM.hasT Try.prog 130 = true := by kernel_rfl
theorem aggT_130 : VM.aggT Try.prog 130 = some false := by kernel_rfl
theorem cellsOf_131 : Program.cellsOf Try.prog 131 = 1 := by kernel_rfl
theorem bytesOf_131 : Program.bytesOf Try.prog 131 = 8 := by kernel_rfl
theorem elemT_131 : VM.elemT Try.prog 131 = none := by kernel_rfl
theorem strT_131 : VM.strT Try.prog 131 = false := by kernel_rfl
theorem boolT_131 : VM.boolT Try.prog 131 = false := by kernel_rfl
theorem intT_131 : VM.intT Try.prog 131 = none := by kernel_rfl
theorem hasT_131 : VM.hasT Try.prog 131 = true := by kernel_rfl
theorem aggT_131 : VM.aggT Try.prog 131 = some false := by kernel_rfl
theorem cellsOf_132 : Program.cellsOf Try.prog 132 = 1 := by kernel_rfl
theorem bytesOf_132 : Program.bytesOf Try.prog 132 = 8 := by kernel_rfl
theorem elemT_132 : VM.elemT Try.prog 132 = none := by kernel_rfl
theorem strT_132 : VM.strT Try.prog 132 = false := by kernel_rfl
theorem boolT_132 : VM.boolT Try.prog 132 = false := by kernel_rfl
theorem intT_132 : VM.intT Try.prog 132 = none := by kernel_rfl
theorem hasT_132 : VM.hasT Try.prog 132 = true := by kernel_rfl
theorem aggT_132 : VM.aggT Try.prog 132 = some false := by kernel_rfl
theorem cellsOf_133 : Program.cellsOf Try.prog 133 = 1 := by kernel_rfl
theorem bytesOf_133 : Program.bytesOf Try.prog 133 = 8 := by kernel_rfl
theorem elemT_133 : VM.elemT Try.prog 133 = none := by kernel_rfl
theorem strT_133 : VM.strT Try.prog 133 = false := by kernel_rfl
theorem boolT_133 : VM.boolT Try.prog 133 = false := by kernel_rfl
theorem intT_133 : VM.intT Try.prog 133 = none := by kernel_rfl
theorem hasT_133 : VM.hasT Try.prog 133 = true := by kernel_rfl
theorem aggT_133 : VM.aggT Try.prog 133 = some false := by kernel_rfl
theorem cellsOf_134 : Program.cellsOf Try.prog 134 = 1 := by kernel_rfl
theorem bytesOf_134 : Program.bytesOf Try.prog 134 = 8 := by kernel_rfl
theorem elemT_134 : VM.elemT Try.prog 134 = none := by kernel_rfl
theorem strT_134 : VM.strT Try.prog 134 = false := by kernel_rfl
theorem boolT_134 : VM.boolT Try.prog 134 = false := by kernel_rfl
theorem intT_134 : VM.intT Try.prog 134 = none := by kernel_rfl
theorem hasT_134 : VM.hasT Try.prog 134 = true := by kernel_rfl
theorem aggT_134 : VM.aggT Try.prog 134 = some false := by kernel_rfl
theorem cellsOf_135 : Program.cellsOf Try.prog 135 = 1 := by kernel_rfl
theorem bytesOf_135 : Program.bytesOf Try.prog 135 = 24 := by kernel_rfl
theorem elemT_135 : VM.elemT Try.prog 135 = some 5 := by kernel_rfl
theorem strT_135 : VM.strT Try.prog 135 = false := by kernel_rfl
theorem boolT_135 : VM.boolT Try.prog 135 = false := by kernel_rfl
theorem intT_135 : VM.intT Try.prog 135 = none := by kernel_rfl
theorem hasT_135 : VM.hasT Try.prog 135 = true := by kernel_rfl
theorem aggT_135 : VM.aggT Try.prog 135 = some false := by kernel_rfl
theorem zeroT_135 : VM.zeroT Try.prog 135 = some [.list true 1 []] := by kernel_rfl
theorem cellsOf_136 : Program.cellsOf Try.prog 136 = 1 := by kernel_rfl
theorem bytesOf_136 : Program.bytesOf Try.prog 136 = 8 := by kernel_rfl
theorem elemT_136 : VM.elemT Try.prog 136 = none := by kernel_rfl
theorem strT_136 : VM.strT Try.prog 136 = false := by kernel_rfl
theorem boolT_136 : VM.boolT Try.prog 136 = false := by kernel_rfl
theorem intT_136 : VM.intT Try.prog 136 = none := by kernel_rfl
theorem hasT_136 : VM.hasT Try.prog 136 = true := by kernel_rfl
theorem aggT_136 : VM.aggT Try.prog 136 = some false := by kernel_rfl
theorem cellsOf_137 : Program.cellsOf Try.prog 137 = 1 := by kernel_rfl
theorem bytesOf_137 : Program.bytesOf Try.prog 137 = 8 := by kernel_rfl
theorem elemT_137 : VM.elemT Try.prog 137 = none := by kernel_rfl
theorem strT_137 : VM.strT Try.prog 137 = false := by kernel_rfl
theorem boolT_137 : VM.boolT Try.prog 137 = false := by kernel_rfl
theorem intT_137 : VM.intT Try.prog 137 = none := by kernel_rfl
theorem hasT_137 : VM.hasT Try.prog 137 = true := by kernel_rfl
theorem aggT_137 : VM.aggT Try.prog 137 = some false := by kernel_rfl
theorem cellsOf_138 : Program.cellsOf Try.prog 138 = 1 := by kernel_rfl
theorem bytesOf_138 : Program.bytesOf Try.prog 138 = 8 := by kernel_rfl
theorem elemT_138 : VM.elemT Try.prog 138 = none := by kernel_rfl
theorem strT_138 : VM.strT Try.prog 138 = false := by kernel_rfl
theorem boolT_138 : VM.boolT Try.prog 138 = false := by kernel_rfl
theorem intT_138 : VM.intT Try.prog 138 = none := by kernel_rfl
theorem hasT_138 : VM.hasT Try.prog 138 = true := by kernel_rfl
theorem aggT_138 : VM.aggT Try.prog 138 = some false := by kernel_rfl
theorem cellsOf_139 : Program.cellsOf Try.prog 139 = 4 := by kernel_rfl
theorem bytesOf_139 : Program.bytesOf Try.prog 139 = 40 := by kernel_rfl
theorem elemT_139 : VM.elemT Try.prog 139 = none := by kernel_rfl
theorem strT_139 : VM.strT Try.prog 139 = false := by kernel_rfl
theorem boolT_139 : VM.boolT Try.prog 139 = false := by kernel_rfl
theorem intT_139 : VM.intT Try.prog 139 = none := by kernel_rfl
theorem hasT_139 : VM.hasT Try.prog 139 = true := by kernel_rfl
theorem aggT_139 : VM.aggT Try.prog 139 = some true := by kernel_rfl
theorem fieldT_139_0 : VM.fieldT Try.prog 139 0 = some (0, 17) := by kernel_rfl
theorem fieldT_139_1 : VM.fieldT Try.prog 139 1 = some (1, 17) := by kernel_rfl
theorem fieldT_139_2 : VM.fieldT Try.prog 139 2 = some (2, 17) := by kernel_rfl
theorem fieldT_139_3 : VM.fieldT Try.prog 139 3 = some (3, 9) := by kernel_rfl
theorem placesT_139 : VM.placesT Try.prog 139 = some [(0, 1, 17), (1, 1, 17), (2, 1, 17), (3, 1, 9)] := by kernel_rfl
theorem cellsOf_140 : Program.cellsOf Try.prog 140 = 4 := by kernel_rfl
theorem bytesOf_140 : Program.bytesOf Try.prog 140 = 40 := by kernel_rfl
theorem elemT_140 : VM.elemT Try.prog 140 = none := by kernel_rfl
theorem strT_140 : VM.strT Try.prog 140 = false := by kernel_rfl
theorem boolT_140 : VM.boolT Try.prog 140 = false := by kernel_rfl
theorem intT_140 : VM.intT Try.prog 140 = none := by kernel_rfl
theorem hasT_140 : VM.hasT Try.prog 140 = true := by kernel_rfl
theorem aggT_140 : VM.aggT Try.prog 140 = some true := by kernel_rfl
theorem fieldT_140_0 : VM.fieldT Try.prog 140 0 = some (0, 17) := by kernel_rfl
theorem fieldT_140_1 : VM.fieldT Try.prog 140 1 = some (1, 17) := by kernel_rfl
theorem fieldT_140_2 : VM.fieldT Try.prog 140 2 = some (2, 17) := by kernel_rfl
theorem fieldT_140_3 : VM.fieldT Try.prog 140 3 = some (3, 9) := by kernel_rfl
theorem placesT_140 : VM.placesT Try.prog 140 = some [(0, 1, 17), (1, 1, 17), (2, 1, 17), (3, 1, 9)] := by kernel_rfl
theorem cellsOf_144 : Program.cellsOf Try.prog 144 = 1 := by kernel_rfl
theorem bytesOf_144 : Program.bytesOf Try.prog 144 = 8 := by kernel_rfl
theorem elemT_144 : VM.elemT Try.prog 144 = none := by kernel_rfl
theorem strT_144 : VM.strT Try.prog 144 = false := by kernel_rfl
theorem boolT_144 : VM.boolT Try.prog 144 = false := by kernel_rfl
theorem intT_144 : VM.intT Try.prog 144 = none := by kernel_rfl
theorem hasT_144 : VM.hasT Try.prog 144 = true := by kernel_rfl
theorem aggT_144 : VM.aggT Try.prog 144 = some false := by kernel_rfl
theorem cellsOf_145 : Program.cellsOf Try.prog 145 = 1 := by kernel_rfl
theorem bytesOf_145 : Program.bytesOf Try.prog 145 = 4 := by kernel_rfl
theorem elemT_145 : VM.elemT Try.prog 145 = none := by kernel_rfl
theorem strT_145 : VM.strT Try.prog 145 = false := by kernel_rfl
theorem boolT_145 : VM.boolT Try.prog 145 = false := by kernel_rfl
theorem intT_145 : VM.intT Try.prog 145 = some .u32 := by kernel_rfl
theorem hasT_145 : VM.hasT Try.prog 145 = true := by kernel_rfl
theorem aggT_145 : VM.aggT Try.prog 145 = some false := by kernel_rfl
theorem zeroT_145 : VM.zeroT Try.prog 145 = some [.int .u32 0] := by kernel_rfl
theorem cellsOf_146 : Program.cellsOf Try.prog 146 = 1 := by kernel_rfl
theorem bytesOf_146 : Program.bytesOf Try.prog 146 = 1 := by kernel_rfl
theorem elemT_146 : VM.elemT Try.prog 146 = none := by kernel_rfl
theorem strT_146 : VM.strT Try.prog 146 = false := by kernel_rfl
theorem boolT_146 : VM.boolT Try.prog 146 = false := by kernel_rfl
theorem intT_146 : VM.intT Try.prog 146 = some .u8 := by kernel_rfl
theorem hasT_146 : VM.hasT Try.prog 146 = true := by kernel_rfl
theorem aggT_146 : VM.aggT Try.prog 146 = some false := by kernel_rfl
theorem zeroT_146 : VM.zeroT Try.prog 146 = some [.int .u8 0] := by kernel_rfl
theorem cellsOf_147 : Program.cellsOf Try.prog 147 = 1 := by kernel_rfl
theorem bytesOf_147 : Program.bytesOf Try.prog 147 = 1 := by kernel_rfl
theorem elemT_147 : VM.elemT Try.prog 147 = none := by kernel_rfl
theorem strT_147 : VM.strT Try.prog 147 = false := by kernel_rfl
theorem boolT_147 : VM.boolT Try.prog 147 = false := by kernel_rfl
theorem intT_147 : VM.intT Try.prog 147 = some .u8 := by kernel_rfl
theorem hasT_147 : VM.hasT Try.prog 147 = true := by kernel_rfl
theorem aggT_147 : VM.aggT Try.prog 147 = some false := by kernel_rfl
theorem zeroT_147 : VM.zeroT Try.prog 147 = some [.int .u8 0] := by kernel_rfl
theorem cellsOf_148 : Program.cellsOf Try.prog 148 = 1 := by kernel_rfl
theorem bytesOf_148 : Program.bytesOf Try.prog 148 = 8 := by kernel_rfl
theorem elemT_148 : VM.elemT Try.prog 148 = none := by kernel_rfl
theorem strT_148 : VM.strT Try.prog 148 = false := by kernel_rfl
theorem boolT_148 : VM.boolT Try.prog 148 = false := by kernel_rfl
theorem intT_148 : VM.intT Try.prog 148 = none := by kernel_rfl
theorem hasT_148 : VM.hasT Try.prog 148 = true := by kernel_rfl
theorem aggT_148 : VM.aggT Try.prog 148 = some false := by kernel_rfl
theorem cellsOf_150 : Program.cellsOf Try.prog 150 = 1 := by kernel_rfl
theorem bytesOf_150 : Program.bytesOf Try.prog 150 = 4 := by kernel_rfl
theorem elemT_150 : VM.elemT Try.prog 150 = none := by kernel_rfl
theorem strT_150 : VM.strT Try.prog 150 = false := by kernel_rfl
theorem boolT_150 : VM.boolT Try.prog 150 = false := by kernel_rfl
theorem intT_150 : VM.intT Try.prog 150 = some .i32 := by kernel_rfl
theorem hasT_150 : VM.hasT Try.prog 150 = true := by kernel_rfl
theorem aggT_150 : VM.aggT Try.prog 150 = some false := by kernel_rfl
theorem zeroT_150 : VM.zeroT Try.prog 150 = some [.int .i32 0] := by kernel_rfl
theorem cellsOf_151 : Program.cellsOf Try.prog 151 = 1 := by kernel_rfl
theorem bytesOf_151 : Program.bytesOf Try.prog 151 = 4 := by kernel_rfl
theorem elemT_151 : VM.elemT Try.prog 151 = none := by kernel_rfl
theorem strT_151 : VM.strT Try.prog 151 = false := by kernel_rfl
theorem boolT_151 : VM.boolT Try.prog 151 = false := by kernel_rfl
theorem intT_151 : VM.intT Try.prog 151 = some .i32 := by kernel_rfl
theorem hasT_151 : VM.hasT Try.prog 151 = true := by kernel_rfl
theorem aggT_151 : VM.aggT Try.prog 151 = some false := by kernel_rfl
theorem zeroT_151 : VM.zeroT Try.prog 151 = some [.int .i32 0] := by kernel_rfl
theorem cellsOf_152 : Program.cellsOf Try.prog 152 = 11 := by kernel_rfl
theorem bytesOf_152 : Program.bytesOf Try.prog 152 = 48 := by kernel_rfl
theorem elemT_152 : VM.elemT Try.prog 152 = none := by kernel_rfl
theorem strT_152 : VM.strT Try.prog 152 = false := by kernel_rfl
theorem boolT_152 : VM.boolT Try.prog 152 = false := by kernel_rfl
theorem intT_152 : VM.intT Try.prog 152 = none := by kernel_rfl
theorem hasT_152 : VM.hasT Try.prog 152 = true := by kernel_rfl
theorem aggT_152 : VM.aggT Try.prog 152 = some true := by kernel_rfl
theorem fieldT_152_0 : VM.fieldT Try.prog 152 0 = some (0, 12) := by kernel_rfl
theorem fieldT_152_1 : VM.fieldT Try.prog 152 1 = some (1, 12) := by kernel_rfl
theorem fieldT_152_2 : VM.fieldT Try.prog 152 2 = some (2, 145) := by kernel_rfl
theorem fieldT_152_3 : VM.fieldT Try.prog 152 3 = some (3, 146) := by kernel_rfl
theorem fieldT_152_4 : VM.fieldT Try.prog 152 4 = some (4, 5) := by kernel_rfl
theorem fieldT_152_5 : VM.fieldT Try.prog 152 5 = some (5, 5) := by kernel_rfl
theorem fieldT_152_6 : VM.fieldT Try.prog 152 6 = some (6, 147) := by kernel_rfl
theorem fieldT_152_7 : VM.fieldT Try.prog 152 7 = some (7, 148) := by kernel_rfl
theorem fieldT_152_8 : VM.fieldT Try.prog 152 8 = some (8, 149) := by kernel_rfl
theorem fieldT_152_9 : VM.fieldT Try.prog 152 9 = some (9, 150) := by kernel_rfl
theorem fieldT_152_10 : VM.fieldT Try.prog 152 10 = some (10, 151) := by kernel_rfl
theorem placesT_152 : VM.placesT Try.prog 152 = some [(0, 1, 12), (1, 1, 12), (2, 1, 145), (3, 1, 146), (4, 1, 5), (5, 1, 5), (6, 1, 147), (7, 1, 148), (8, 1, 149), (9, 1, 150), (10, 1, 151)] := by kernel_rfl
theorem cellsOf_153 : Program.cellsOf Try.prog 153 = 11 := by kernel_rfl
theorem bytesOf_153 : Program.bytesOf Try.prog 153 = 48 := by kernel_rfl
theorem elemT_153 : VM.elemT Try.prog 153 = none := by kernel_rfl
theorem strT_153 : VM.strT Try.prog 153 = false := by kernel_rfl
theorem boolT_153 : VM.boolT Try.prog 153 = false := by kernel_rfl
theorem intT_153 : VM.intT Try.prog 153 = none := by kernel_rfl
theorem hasT_153 : VM.hasT Try.prog 153 = true := by kernel_rfl
theorem aggT_153 : VM.aggT Try.prog 153 = some true := by kernel_rfl
theorem fieldT_153_0 : VM.fieldT Try.prog 153 0 = some (0, 12) := by kernel_rfl
theorem fieldT_153_1 : VM.fieldT Try.prog 153 1 = some (1, 12) := by kernel_rfl
theorem fieldT_153_2 : VM.fieldT Try.prog 153 2 = some (2, 145) := by kernel_rfl
theorem fieldT_153_3 : VM.fieldT Try.prog 153 3 = some (3, 146) := by kernel_rfl
theorem fieldT_153_4 : VM.fieldT Try.prog 153 4 = some (4, 5) := by kernel_rfl
theorem fieldT_153_5 : VM.fieldT Try.prog 153 5 = some (5, 5) := by kernel_rfl
theorem fieldT_153_6 : VM.fieldT Try.prog 153 6 = some (6, 147) := by kernel_rfl
theorem fieldT_153_7 : VM.fieldT Try.prog 153 7 = some (7, 148) := by kernel_rfl
theorem fieldT_153_8 : VM.fieldT Try.prog 153 8 = some (8, 149) := by kernel_rfl
theorem fieldT_153_9 : VM.fieldT Try.prog 153 9 = some (9, 150) := by kernel_rfl
theorem fieldT_153_10 : VM.fieldT Try.prog 153 10 = some (10, 151) := by kernel_rfl
theorem placesT_153 : VM.placesT Try.prog 153 = some [(0, 1, 12), (1, 1, 12), (2, 1, 145), (3, 1, 146), (4, 1, 5), (5, 1, 5), (6, 1, 147), (7, 1, 148), (8, 1, 149), (9, 1, 150), (10, 1, 151)] := by kernel_rfl
end Go.Proofs.Ytcdgdiheoejjgaa
