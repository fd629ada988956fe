/- What the machine asks of the program's types. Printed by a program (facts.py). -/
import Derived.Test.YtkijdbljnefeaaaGreatDoorPVUse
import Derived.Test.YtkijdbljnefeaaaGreatDoorProg
import Derived.KernelRfl
namespace Go.Proofs.YtkijdbljnefeaaaGreatDoor
theorem cellsOf_3 : Program.cellsOf Tryz.prog 3 = 1 := by kernel_rfl
theorem bytesOf_3 : Program.bytesOf Tryz.prog 3 = 8 := by kernel_rfl
theorem elemT_3 : VM.elemT Tryz.prog 3 = none := by kernel_rfl
theorem strT_3 : VM.strT Tryz.prog 3 = false := by kernel_rfl
theorem boolT_3 : VM.boolT Tryz.prog 3 = false := by kernel_rfl
theorem intT_3 : VM.intT Tryz.prog 3 = some .i64 := by kernel_rfl
theorem hasT_3 : VM.hasT Tryz.prog 3 = true := by kernel_rfl
theorem aggT_3 : VM.aggT Tryz.prog 3 = some false := by kernel_rfl
theorem zeroT_3 : VM.zeroT Tryz.prog 3 = some [.int .i64 0] := by kernel_rfl
theorem cellsOf_4 : Program.cellsOf Tryz.prog 4 = 1 := by kernel_rfl
theorem bytesOf_4 : Program.bytesOf Tryz.prog 4 = 1 := by kernel_rfl
theorem elemT_4 : VM.elemT Tryz.prog 4 = none := by kernel_rfl
theorem strT_4 : VM.strT Tryz.prog 4 = false := by kernel_rfl
theorem boolT_4 : VM.boolT Tryz.prog 4 = true := by kernel_rfl
theorem intT_4 : VM.intT Tryz.prog 4 = none := by kernel_rfl
theorem hasT_4 : VM.hasT Tryz.prog 4 = true := by kernel_rfl
theorem aggT_4 : VM.aggT Tryz.prog 4 = some false := by kernel_rfl
theorem zeroT_4 : VM.zeroT Tryz.prog 4 = some [.bool false] := by kernel_rfl
theorem cellsOf_5 : Program.cellsOf Tryz.prog 5 = 1 := by kernel_rfl
theorem bytesOf_5 : Program.bytesOf Tryz.prog 5 = 1 := by kernel_rfl
theorem elemT_5 : VM.elemT Tryz.prog 5 = none := by kernel_rfl
theorem strT_5 : VM.strT Tryz.prog 5 = false := by kernel_rfl
theorem boolT_5 : VM.boolT Tryz.prog 5 = false := by kernel_rfl
theorem intT_5 : VM.intT Tryz.prog 5 = some .u8 := by kernel_rfl
theorem hasT_5 : VM.hasT Tryz.prog 5 = true := by kernel_rfl
theorem aggT_5 : VM.aggT Tryz.prog 5 = some false := by kernel_rfl
theorem zeroT_5 : VM.zeroT Tryz.prog 5 = some [.int .u8 0] := by kernel_rfl
theorem cellsOf_9 : Program.cellsOf Tryz.prog 9 = 1 := by kernel_rfl
theorem bytesOf_9 : Program.bytesOf Tryz.prog 9 = 16 := by kernel_rfl
theorem elemT_9 : VM.elemT Tryz.prog 9 = none := by kernel_rfl
theorem strT_9 : VM.strT Tryz.prog 9 = true := by kernel_rfl
theorem boolT_9 : VM.boolT Tryz.prog 9 = false := by kernel_rfl
theorem intT_9 : VM.intT Tryz.prog 9 = none := by kernel_rfl
theorem hasT_9 : VM.hasT Tryz.prog 9 = true := by kernel_rfl
theorem aggT_9 : VM.aggT Tryz.prog 9 = some false := by kernel_rfl
theorem zeroT_9 : VM.zeroT Tryz.prog 9 = some [.str ⟨#[]⟩] := by kernel_rfl
theorem cellsOf_21 : Program.cellsOf Tryz.prog 21 = 1 := by kernel_rfl
theorem bytesOf_21 : Program.bytesOf Tryz.prog 21 = 4 := by kernel_rfl
theorem elemT_21 : VM.elemT Tryz.prog 21 = none := by kernel_rfl
theorem strT_21 : VM.strT Tryz.prog 21 = false := by kernel_rfl
theorem boolT_21 : VM.boolT Tryz.prog 21 = false := by kernel_rfl
theorem intT_21 : VM.intT Tryz.prog 21 = some .i32 := by kernel_rfl
theorem hasT_21 : VM.hasT Tryz.prog 21 = true := by kernel_rfl
theorem aggT_21 : VM.aggT Tryz.prog 21 = some false := by kernel_rfl
theorem zeroT_21 : VM.zeroT Tryz.prog 21 = some [.int .i32 0] := by kernel_rfl
theorem cellsOf_22 : Program.cellsOf Tryz.prog 22 = 1 := by kernel_rfl
theorem bytesOf_22 : Program.bytesOf Tryz.prog 22 = 24 := by kernel_rfl
theorem elemT_22 : VM.elemT Tryz.prog 22 = some 5 := by kernel_rfl
theorem strT_22 : VM.strT Tryz.prog 22 = false := by kernel_rfl
theorem boolT_22 : VM.boolT Tryz.prog 22 = false := by kernel_rfl
theorem intT_22 : VM.intT Tryz.prog 22 = none := by kernel_rfl
theorem hasT_22 : VM.hasT Tryz.prog 22 = true := by kernel_rfl
theorem aggT_22 : VM.aggT Tryz.prog 22 = some false := by kernel_rfl
theorem zeroT_22 : VM.zeroT Tryz.prog 22 = some [.list true 1 []] := by kernel_rfl
theorem cellsOf_24 : Program.cellsOf Tryz.prog 24 = 1 := by kernel_rfl
theorem bytesOf_24 : Program.bytesOf Tryz.prog 24 = 24 := by kernel_rfl
theorem elemT_24 : VM.elemT Tryz.prog 24 = some 49 := by kernel_rfl
theorem strT_24 : VM.strT Tryz.prog 24 = false := by kernel_rfl
theorem boolT_24 : VM.boolT Tryz.prog 24 = false := by kernel_rfl
theorem intT_24 : VM.intT Tryz.prog 24 = none := by kernel_rfl
theorem hasT_24 : VM.hasT Tryz.prog 24 = true := by kernel_rfl
theorem aggT_24 : VM.aggT Tryz.prog 24 = some false := by kernel_rfl
theorem zeroT_24 : VM.zeroT Tryz.prog 24 = some [.list true 3 []] := by kernel_rfl
theorem cellsOf_26 : Program.cellsOf Tryz.prog 26 = 1 := by kernel_rfl
theorem bytesOf_26 : Program.bytesOf Tryz.prog 26 = 24 := by kernel_rfl
theorem elemT_26 : VM.elemT Tryz.prog 26 = some 9 := by kernel_rfl
theorem strT_26 : VM.strT Tryz.prog 26 = false := by kernel_rfl
theorem boolT_26 : VM.boolT Tryz.prog 26 = false := by kernel_rfl
theorem intT_26 : VM.intT Tryz.prog 26 = none := by kernel_rfl
theorem hasT_26 : VM.hasT Tryz.prog 26 = true := by kernel_rfl
theorem aggT_26 : VM.aggT Tryz.prog 26 = some false := by kernel_rfl
theorem zeroT_26 : VM.zeroT Tryz.prog 26 = some [.list true 1 []] := by kernel_rfl
theorem cellsOf_27 : Program.cellsOf Tryz.prog 27 = 1 := by kernel_rfl
theorem bytesOf_27 : Program.bytesOf Tryz.prog 27 = 24 := by kernel_rfl
theorem elemT_27 : VM.elemT Tryz.prog 27 = some 3 := by kernel_rfl
theorem strT_27 : VM.strT Tryz.prog 27 = false := by kernel_rfl
theorem boolT_27 : VM.boolT Tryz.prog 27 = false := by kernel_rfl
theorem intT_27 : VM.intT Tryz.prog 27 = none := by kernel_rfl
theorem hasT_27 : VM.hasT Tryz.prog 27 = true := by kernel_rfl
theorem aggT_27 : VM.aggT Tryz.prog 27 = some false := by kernel_rfl
theorem zeroT_27 : VM.zeroT Tryz.prog 27 = some [.list true 1 []] := by kernel_rfl
theorem cellsOf_28 : Program.cellsOf Tryz.prog 28 = 2 := by kernel_rfl
theorem bytesOf_28 : Program.bytesOf Tryz.prog 28 = 48 := by kernel_rfl
theorem elemT_28 : VM.elemT Tryz.prog 28 = none := by kernel_rfl
theorem strT_28 : VM.strT Tryz.prog 28 = false := by kernel_rfl
theorem boolT_28 : VM.boolT Tryz.prog 28 = false := by kernel_rfl
theorem intT_28 : VM.intT Tryz.prog 28 = none := by kernel_rfl
theorem hasT_28 : VM.hasT Tryz.prog 28 = true := by kernel_rfl
theorem aggT_28 : VM.aggT Tryz.prog 28 = some true := by kernel_rfl
theorem zeroT_28 : VM.zeroT Tryz.prog 28 = some [.list true 1 [], .list true 1 []] := by kernel_rfl
theorem fieldT_28_0 : VM.fieldT Tryz.prog 28 0 = some (0, 26) := by kernel_rfl
theorem fieldT_28_1 : VM.fieldT Tryz.prog 28 1 = some (1, 27) := by kernel_rfl
theorem placesT_28 : VM.placesT Tryz.prog 28 = some [(0, 1, 26), (1, 1, 27)] := by kernel_rfl
theorem cellsOf_29 : Program.cellsOf Tryz.prog 29 = 2 := by kernel_rfl
theorem bytesOf_29 : Program.bytesOf Tryz.prog 29 = 48 := by kernel_rfl
theorem elemT_29 : VM.elemT Tryz.prog 29 = none := by kernel_rfl
theorem strT_29 : VM.strT Tryz.prog 29 = false := by kernel_rfl
theorem boolT_29 : VM.boolT Tryz.prog 29 = false := by kernel_rfl
theorem intT_29 : VM.intT Tryz.prog 29 = none := by kernel_rfl
theorem hasT_29 : VM.hasT Tryz.prog 29 = true := by kernel_rfl
theorem aggT_29 : VM.aggT Tryz.prog 29 = some true := by kernel_rfl
theorem zeroT_29 : VM.zeroT Tryz.prog 29 = some [.list true 1 [], .list true 1 []] := by kernel_rfl
theorem fieldT_29_0 : VM.fieldT Tryz.prog 29 0 = some (0, 26) := by kernel_rfl
theorem fieldT_29_1 : VM.fieldT Tryz.prog 29 1 = some (1, 27) := by kernel_rfl
theorem placesT_29 : VM.placesT Tryz.prog 29 = some [(0, 1, 26), (1, 1, 27)] := by kernel_rfl
theorem cellsOf_30 : Program.cellsOf Tryz.prog 30 = 4 := by kernel_rfl
theorem bytesOf_30 : Program.bytesOf Tryz.prog 30 = 80 := by kernel_rfl
theorem elemT_30 : VM.elemT Tryz.prog 30 = none := by kernel_rfl
theorem strT_30 : VM.strT Tryz.prog 30 = false := by kernel_rfl
theorem boolT_30 : VM.boolT Tryz.prog 30 = false := by kernel_rfl
theorem intT_30 : VM.intT Tryz.prog 30 = none := by kernel_rfl
theorem hasT_30 : VM.hasT Tryz.prog 30 = true := by kernel_rfl
theorem aggT_30 : VM.aggT Tryz.prog 30 = some true := by kernel_rfl
theorem zeroT_30 : VM.zeroT Tryz.prog 30 = some [.list true 1 [], .list true 1 [], .list true 1 [], .int .i64 0] := by kernel_rfl
theorem fieldT_30_0 : VM.fieldT Tryz.prog 30 0 = some (0, 29) := by kernel_rfl
theorem fieldT_30_1 : VM.fieldT Tryz.prog 30 1 = some (2, 27) := by kernel_rfl
theorem fieldT_30_2 : VM.fieldT Tryz.prog 30 2 = some (3, 3) := by kernel_rfl
theorem placesT_30 : VM.placesT Tryz.prog 30 = some [(0, 2, 29), (2, 1, 27), (3, 1, 3)] := by kernel_rfl
theorem cellsOf_31 : Program.cellsOf Tryz.prog 31 = 4 := by kernel_rfl
theorem bytesOf_31 : Program.bytesOf Tryz.prog 31 = 80 := by kernel_rfl
theorem elemT_31 : VM.elemT Tryz.prog 31 = none := by kernel_rfl
theorem strT_31 : VM.strT Tryz.prog 31 = false := by kernel_rfl
theorem boolT_31 : VM.boolT Tryz.prog 31 = false := by kernel_rfl
theorem intT_31 : VM.intT Tryz.prog 31 = none := by kernel_rfl
theorem hasT_31 : VM.hasT Tryz.prog 31 = true := by kernel_rfl
theorem aggT_31 : VM.aggT Tryz.prog 31 = some true := by kernel_rfl
theorem zeroT_31 : VM.zeroT Tryz.prog 31 = some [.list true 1 [], .list true 1 [], .list true 1 [], .int .i64 0] := by kernel_rfl
theorem fieldT_31_0 : VM.fieldT Tryz.prog 31 0 = some (0, 29) := by kernel_rfl
theorem fieldT_31_1 : VM.fieldT Tryz.prog 31 1 = some (2, 27) := by kernel_rfl
theorem fieldT_31_2 : VM.fieldT Tryz.prog 31 2 = some (3, 3) := by kernel_rfl
theorem placesT_31 : VM.placesT Tryz.prog 31 = some [(0, 2, 29), (2, 1, 27), (3, 1, 3)] := by kernel_rfl
theorem cellsOf_38 : Program.cellsOf Tryz.prog 38 = 4 := by kernel_rfl
theorem bytesOf_38 : Program.bytesOf Tryz.prog 38 = 56 := by kernel_rfl
theorem elemT_38 : VM.elemT Tryz.prog 38 = none := by kernel_rfl
theorem strT_38 : VM.strT Tryz.prog 38 = false := by kernel_rfl
theorem boolT_38 : VM.boolT Tryz.prog 38 = false := by kernel_rfl
theorem intT_38 : VM.intT Tryz.prog 38 = none := by kernel_rfl
theorem hasT_38 : VM.hasT Tryz.prog 38 = true := by kernel_rfl
theorem aggT_38 : VM.aggT Tryz.prog 38 = some true := by kernel_rfl
theorem zeroT_38 : VM.zeroT Tryz.prog 38 = some [.int .i64 0, .str ⟨#[]⟩, .str ⟨#[]⟩, .str ⟨#[]⟩] := by kernel_rfl
theorem fieldT_38_0 : VM.fieldT Tryz.prog 38 0 = some (0, 3) := by kernel_rfl
theorem fieldT_38_1 : VM.fieldT Tryz.prog 38 1 = some (1, 9) := by kernel_rfl
theorem fieldT_38_2 : VM.fieldT Tryz.prog 38 2 = some (2, 9) := by kernel_rfl
theorem fieldT_38_3 : VM.fieldT Tryz.prog 38 3 = some (3, 9) := by kernel_rfl
theorem placesT_38 : VM.placesT Tryz.prog 38 = some [(0, 1, 3), (1, 1, 9), (2, 1, 9), (3, 1, 9)] := by kernel_rfl
theorem flatT_38 : VM.flatT Tryz.prog 38 = some [.int .i64, .string, .string, .string] := by kernel_rfl
theorem cellsOf_39 : Program.cellsOf Tryz.prog 39 = 4 := by kernel_rfl
theorem bytesOf_39 : Program.bytesOf Tryz.prog 39 = 56 := by kernel_rfl
theorem elemT_39 : VM.elemT Tryz.prog 39 = none := by kernel_rfl
theorem strT_39 : VM.strT Tryz.prog 39 = false := by kernel_rfl
theorem boolT_39 : VM.boolT Tryz.prog 39 = false := by kernel_rfl
theorem intT_39 : VM.intT Tryz.prog 39 = none := by kernel_rfl
theorem hasT_39 : VM.hasT Tryz.prog 39 = true := by kernel_rfl
theorem aggT_39 : VM.aggT Tryz.prog 39 = some true := by kernel_rfl
theorem zeroT_39 : VM.zeroT Tryz.prog 39 = some [.int .i64 0, .str ⟨#[]⟩, .str ⟨#[]⟩, .str ⟨#[]⟩] := by kernel_rfl
theorem fieldT_39_0 : VM.fieldT Tryz.prog 39 0 = some (0, 3) := by kernel_rfl
theorem fieldT_39_1 : VM.fieldT Tryz.prog 39 1 = some (1, 9) := by kernel_rfl
theorem fieldT_39_2 : VM.fieldT Tryz.prog 39 2 = some (2, 9) := by kernel_rfl
theorem fieldT_39_3 : VM.fieldT Tryz.prog 39 3 = some (3, 9) := by kernel_rfl
theorem placesT_39 : VM.placesT Tryz.prog 39 = some [(0, 1, 3), (1, 1, 9), (2, 1, 9), (3, 1, 9)] := by kernel_rfl
theorem flatT_39 : VM.flatT Tryz.prog 39 = some [.int .i64, .string, .string, .string] := by kernel_rfl
theorem cellsOf_42 : Program.cellsOf Tryz.prog 42 = 1 := by kernel_rfl
theorem bytesOf_42 : Program.bytesOf Tryz.prog 42 = 8 := by kernel_rfl
theorem elemT_42 : VM.elemT Tryz.prog 42 = none := by kernel_rfl
theorem strT_42 : VM.strT Tryz.prog 42 = false := by kernel_rfl
theorem boolT_42 : VM.boolT Tryz.prog 42 = false := by kernel_rfl
theorem intT_42 : VM.intT Tryz.prog 42 = none := by kernel_rfl
theorem hasT_42 : VM.hasT Tryz.prog 42 = true := by kernel_rfl
theorem aggT_42 : VM.aggT Tryz.prog 42 = some false := by kernel_rfl
theorem cellsOf_48 : Program.cellsOf Tryz.prog 48 = 3 := by kernel_rfl
theorem bytesOf_48 : Program.bytesOf Tryz.prog 48 = 40 := by kernel_rfl
theorem elemT_48 : VM.elemT Tryz.prog 48 = none := by kernel_rfl
theorem strT_48 : VM.strT Tryz.prog 48 = false := by kernel_rfl
theorem boolT_48 : VM.boolT Tryz.prog 48 = false := by kernel_rfl
theorem intT_48 : VM.intT Tryz.prog 48 = none := by kernel_rfl
theorem hasT_48 : VM.hasT Tryz.prog 48 = true := by kernel_rfl
theorem aggT_48 : VM.aggT Tryz.prog 48 = some true := by kernel_rfl
theorem zeroT_48 : VM.zeroT Tryz.prog 48 = some [.str ⟨#[]⟩, .bool false, .str ⟨#[]⟩] := by kernel_rfl
theorem fieldT_48_0 : VM.fieldT Tryz.prog 48 0 = some (0, 9) := by kernel_rfl
theorem fieldT_48_1 : VM.fieldT Tryz.prog 48 1 = some (1, 4) := by kernel_rfl
theorem fieldT_48_2 : VM.fieldT Tryz.prog 48 2 = some (2, 9) := by kernel_rfl
theorem placesT_48 : VM.placesT Tryz.prog 48 = some [(0, 1, 9), (1, 1, 4), (2, 1, 9)] := by kernel_rfl
theorem flatT_48 : VM.flatT Tryz.prog 48 = some [.string, .bool, .string] := by kernel_rfl
theorem cellsOf_49 : Program.cellsOf Tryz.prog 49 = 3 := by kernel_rfl
theorem bytesOf_49 : Program.bytesOf Tryz.prog 49 = 40 := by kernel_rfl
theorem elemT_49 : VM.elemT Tryz.prog 49 = none := by kernel_rfl
theorem strT_49 : VM.strT Tryz.prog 49 = false := by kernel_rfl
theorem boolT_49 : VM.boolT Tryz.prog 49 = false := by kernel_rfl
theorem intT_49 : VM.intT Tryz.prog 49 = none := by kernel_rfl
theorem hasT_49 : VM.hasT Tryz.prog 49 = true := by kernel_rfl
theorem aggT_49 : VM.aggT Tryz.prog 49 = some true := by kernel_rfl
theorem zeroT_49 : VM.zeroT Tryz.prog 49 = some [.str ⟨#[]⟩, .bool false, .str ⟨#[]⟩] := by kernel_rfl
theorem fieldT_49_0 : VM.fieldT Tryz.prog 49 0 = some (0, 9) := by kernel_rfl
theorem fieldT_49_1 : VM.fieldT Tryz.prog 49 1 = some (1, 4) := by kernel_rfl
theorem fieldT_49_2 : VM.fieldT Tryz.prog 49 2 = some (2, 9) := by kernel_rfl
theorem placesT_49 : VM.placesT Tryz.prog 49 = some [(0, 1, 9), (1, 1, 4), (2, 1, 9)] := by kernel_rfl
theorem flatT_49 : VM.flatT Tryz.prog 49 = some [.string, .bool, .string] := by kernel_rfl
theorem cellsOf_66 : Program.cellsOf Tryz.prog 66 = 3 := by kernel_rfl
theorem bytesOf_66 : Program.bytesOf Tryz.prog 66 = 40 := by kernel_rfl
theorem elemT_66 : VM.elemT Tryz.prog 66 = none := by kernel_rfl
theorem strT_66 : VM.strT Tryz.prog 66 = false := by kernel_rfl
theorem boolT_66 : VM.boolT Tryz.prog 66 = false := by kernel_rfl
theorem intT_66 : VM.intT Tryz.prog 66 = none := by kernel_rfl
theorem hasT_66 : VM.hasT Tryz.prog 66 = true := by kernel_rfl
theorem aggT_66 : VM.aggT Tryz.prog 66 = some true := by kernel_rfl
theorem zeroT_66 : VM.zeroT Tryz.prog 66 = some [.list true 1 [], .int .i64 0, .int .i64 0] := by kernel_rfl
theorem fieldT_66_0 : VM.fieldT Tryz.prog 66 0 = some (0, 22) := by kernel_rfl
theorem fieldT_66_1 : VM.fieldT Tryz.prog 66 1 = some (1, 3) := by kernel_rfl
theorem fieldT_66_2 : VM.fieldT Tryz.prog 66 2 = some (2, 3) := by kernel_rfl
theorem placesT_66 : VM.placesT Tryz.prog 66 = some [(0, 1, 22), (1, 1, 3), (2, 1, 3)] := by kernel_rfl
theorem cellsOf_67 : Program.cellsOf Tryz.prog 67 = 3 := by kernel_rfl
theorem bytesOf_67 : Program.bytesOf Tryz.prog 67 = 40 := by kernel_rfl
theorem elemT_67 : VM.elemT Tryz.prog 67 = none := by kernel_rfl
theorem strT_67 : VM.strT Tryz.prog 67 = false := by kernel_rfl
theorem boolT_67 : VM.boolT Tryz.prog 67 = false := by kernel_rfl
theorem intT_67 : VM.intT Tryz.prog 67 = none := by kernel_rfl
theorem hasT_67 : VM.hasT Tryz.prog 67 = true := by kernel_rfl
theorem aggT_67 : VM.aggT Tryz.prog 67 = some true := by kernel_rfl
theorem zeroT_67 : VM.zeroT Tryz.prog 67 = some [.list true 1 [], .int .i64 0, .int .i64 0] := by kernel_rfl
theorem fieldT_67_0 : VM.fieldT Tryz.prog 67 0 = some (0, 22) := by kernel_rfl
theorem fieldT_67_1 : VM.fieldT Tryz.prog 67 1 = some (1, 3) := by kernel_rfl
theorem fieldT_67_2 : VM.fieldT Tryz.prog 67 2 = some (2, 3) := by kernel_rfl
theorem placesT_67 : VM.placesT Tryz.prog 67 = some [(0, 1, 22), (1, 1, 3), (2, 1, 3)] := by kernel_rfl
theorem cellsOf_85 : Program.cellsOf Tryz.prog 85 = 1 := by kernel_rfl
theorem bytesOf_85 : Program.bytesOf Tryz.prog 85 = 24 := by kernel_rfl
theorem elemT_85 : VM.elemT Tryz.prog 85 = some 122 := by kernel_rfl
theorem strT_85 : VM.strT Tryz.prog 85 = false := by kernel_rfl
theorem boolT_85 : VM.boolT Tryz.prog 85 = false := by kernel_rfl
theorem intT_85 : VM.intT Tryz.prog 85 = none := by kernel_rfl
theorem hasT_85 : VM.hasT Tryz.prog 85 = true := by kernel_rfl
theorem aggT_85 : VM.aggT Tryz.prog 85 = some false := by kernel_rfl
theorem zeroT_85 : VM.zeroT Tryz.prog 85 = some [.list true 3 []] := by kernel_rfl
theorem cellsOf_89 : Program.cellsOf Tryz.prog 89 = 1 := by kernel_rfl
theorem bytesOf_89 : Program.bytesOf Tryz.prog 89 = 8 := by kernel_rfl
theorem elemT_89 : VM.elemT Tryz.prog 89 = none := by kernel_rfl
theorem strT_89 : VM.strT Tryz.prog 89 = false := by kernel_rfl
theorem boolT_89 : VM.boolT Tryz.prog 89 = false := by kernel_rfl
theorem intT_89 : VM.intT Tryz.prog 89 = some .u64 := by kernel_rfl
theorem hasT_89 : VM.hasT Tryz.prog 89 = true := by kernel_rfl
theorem aggT_89 : VM.aggT Tryz.prog 89 = some false := by kernel_rfl
theorem zeroT_89 : VM.zeroT Tryz.prog 89 = some [.int .u64 0] := by kernel_rfl
theorem cellsOf_91 : Program.cellsOf Tryz.prog 91 = 1 := by kernel_rfl
theorem bytesOf_91 : Program.bytesOf Tryz.prog 91 = 8 := by kernel_rfl
theorem elemT_91 : VM.elemT Tryz.prog 91 = none := by kernel_rfl
theorem strT_91 : VM.strT Tryz.prog 91 = false := by kernel_rfl
theorem boolT_91 : VM.boolT Tryz.prog 91 = false := by kernel_rfl
theorem intT_91 : VM.intT Tryz.prog 91 = none := by kernel_rfl
theorem hasT_91 : VM.hasT Tryz.prog 91 = true := by kernel_rfl
theorem aggT_91 : VM.aggT Tryz.prog 91 = some false := by kernel_rfl
theorem cellsOf_94 : Program.cellsOf Tryz.prog 94 = 3 := by kernel_rfl
theorem bytesOf_94 : Program.bytesOf Tryz.prog 94 = 32 := by kernel_rfl
theorem elemT_94 : VM.elemT Tryz.prog 94 = none := by kernel_rfl
theorem strT_94 : VM.strT Tryz.prog 94 = false := by kernel_rfl
theorem boolT_94 : VM.boolT Tryz.prog 94 = false := by kernel_rfl
theorem intT_94 : VM.intT Tryz.prog 94 = none := by kernel_rfl
theorem hasT_94 : VM.hasT Tryz.prog 94 = true := by kernel_rfl
theorem aggT_94 : VM.aggT Tryz.prog 94 = some true := by kernel_rfl
theorem zeroT_94 : VM.zeroT Tryz.prog 94 = some [.int .i64 0, .int .i64 0, .str ⟨#[]⟩] := by kernel_rfl
theorem fieldT_94_0 : VM.fieldT Tryz.prog 94 0 = some (0, 3) := by kernel_rfl
theorem fieldT_94_1 : VM.fieldT Tryz.prog 94 1 = some (1, 3) := by kernel_rfl
theorem fieldT_94_2 : VM.fieldT Tryz.prog 94 2 = some (2, 9) := by kernel_rfl
theorem placesT_94 : VM.placesT Tryz.prog 94 = some [(0, 1, 3), (1, 1, 3), (2, 1, 9)] := by kernel_rfl
theorem flatT_94 : VM.flatT Tryz.prog 94 = some [.int .i64, .int .i64, .string] := by kernel_rfl
theorem cellsOf_95 : Program.cellsOf Tryz.prog 95 = 3 := by kernel_rfl
theorem bytesOf_95 : Program.bytesOf Tryz.prog 95 = 32 := by kernel_rfl
theorem elemT_95 : VM.elemT Tryz.prog 95 = none := by kernel_rfl
theorem strT_95 : VM.strT Tryz.prog 95 = false := by kernel_rfl
theorem boolT_95 : VM.boolT Tryz.prog 95 = false := by kernel_rfl
theorem intT_95 : VM.intT Tryz.prog 95 = none := by kernel_rfl
theorem hasT_95 : VM.hasT Tryz.prog 95 = true := by kernel_rfl
theorem aggT_95 : VM.aggT Tryz.prog 95 = some true := by kernel_rfl
theorem zeroT_95 : VM.zeroT Tryz.prog 95 = some [.int .i64 0, .int .i64 0, .str ⟨#[]⟩] := by kernel_rfl
theorem fieldT_95_0 : VM.fieldT Tryz.prog 95 0 = some (0, 3) := by kernel_rfl
theorem fieldT_95_1 : VM.fieldT Tryz.prog 95 1 = some (1, 3) := by kernel_rfl
theorem fieldT_95_2 : VM.fieldT Tryz.prog 95 2 = some (2, 9) := by kernel_rfl
theorem placesT_95 : VM.placesT Tryz.prog 95 = some [(0, 1, 3), (1, 1, 3), (2, 1, 9)] := by kernel_rfl
theorem flatT_95 : VM.flatT Tryz.prog 95 = some [.int .i64, .int .i64, .string] := by kernel_rfl
theorem cellsOf_101 : Program.cellsOf Tryz.prog 101 = 4 := by kernel_rfl
theorem bytesOf_101 : Program.bytesOf Tryz.prog 101 = 72 := by kernel_rfl
theorem elemT_101 : VM.elemT Tryz.prog 101 = none := by kernel_rfl
theorem strT_101 : VM.strT Tryz.prog 101 = false := by kernel_rfl
theorem boolT_101 : VM.boolT Tryz.prog 101 = false := by kernel_rfl
theorem intT_101 : VM.intT Tryz.prog 101 = none := by kernel_rfl
theorem hasT_101 : VM.hasT Tryz.prog 101 = true := by kernel_rfl
theorem aggT_101 : VM.aggT Tryz.prog 101 = some true := by kernel_rfl
theorem zeroT_101 : VM.zeroT Tryz.prog 101 = some [.bool false, .list true 1 [], .list true 1 [], .str ⟨#[]⟩] := by kernel_rfl
theorem fieldT_101_0 : VM.fieldT Tryz.prog 101 0 = some (0, 4) := by kernel_rfl
theorem fieldT_101_1 : VM.fieldT Tryz.prog 101 1 = some (1, 26) := by kernel_rfl
theorem fieldT_101_2 : VM.fieldT Tryz.prog 101 2 = some (2, 27) := by kernel_rfl
theorem fieldT_101_3 : VM.fieldT Tryz.prog 101 3 = some (3, 9) := by kernel_rfl
theorem placesT_101 : VM.placesT Tryz.prog 101 = some [(0, 1, 4), (1, 1, 26), (2, 1, 27), (3, 1, 9)] := by kernel_rfl
theorem cellsOf_102 : Program.cellsOf Tryz.prog 102 = 4 := by kernel_rfl
theorem bytesOf_102 : Program.bytesOf Tryz.prog 102 = 72 := by kernel_rfl
theorem elemT_102 : VM.elemT Tryz.prog 102 = none := by kernel_rfl
theorem strT_102 : VM.strT Tryz.prog 102 = false := by kernel_rfl
theorem boolT_102 : VM.boolT Tryz.prog 102 = false := by kernel_rfl
theorem intT_102 : VM.intT Tryz.prog 102 = none := by kernel_rfl
theorem hasT_102 : VM.hasT Tryz.prog 102 = true := by kernel_rfl
theorem aggT_102 : VM.aggT Tryz.prog 102 = some true := by kernel_rfl
theorem zeroT_102 : VM.zeroT Tryz.prog 102 = some [.bool false, .list true 1 [], .list true 1 [], .str ⟨#[]⟩] := by kernel_rfl
theorem fieldT_102_0 : VM.fieldT Tryz.prog 102 0 = some (0, 4) := by kernel_rfl
theorem fieldT_102_1 : VM.fieldT Tryz.prog 102 1 = some (1, 26) := by kernel_rfl
theorem fieldT_102_2 : VM.fieldT Tryz.prog 102 2 = some (2, 27) := by kernel_rfl
theorem fieldT_102_3 : VM.fieldT Tryz.prog 102 3 = some (3, 9) := by kernel_rfl
theorem placesT_102 : VM.placesT Tryz.prog 102 = some [(0, 1, 4), (1, 1, 26), (2, 1, 27), (3, 1, 9)] := by kernel_rfl
theorem cellsOf_105 : Program.cellsOf Tryz.prog 105 = 1 := by kernel_rfl
theorem bytesOf_105 : Program.bytesOf Tryz.prog 105 = 24 := by kernel_rfl
theorem elemT_105 : VM.elemT Tryz.prog 105 = some 4 := by kernel_rfl
theorem strT_105 : VM.strT Tryz.prog 105 = false := by kernel_rfl
theorem boolT_105 : VM.boolT Tryz.prog 105 = false := by kernel_rfl
theorem intT_105 : VM.intT Tryz.prog 105 = none := by kernel_rfl
theorem hasT_105 : VM.hasT Tryz.prog 105 = true := by kernel_rfl
theorem aggT_105 : VM.aggT Tryz.prog 105 = some false := by kernel_rfl
theorem zeroT_105 : VM.zeroT Tryz.prog 105 = some [.list true 1 []] := by kernel_rfl
theorem cellsOf_107 : Program.cellsOf Tryz.prog 107 = 1 := by kernel_rfl
theorem bytesOf_107 : Program.bytesOf Tryz.prog 107 = 24 := by kernel_rfl
theorem elemT_107 : VM.elemT Tryz.prog 107 = some 150 := by kernel_rfl
theorem strT_107 : VM.strT Tryz.prog 107 = false := by kernel_rfl
theorem boolT_107 : VM.boolT Tryz.prog 107 = false := by kernel_rfl
theorem intT_107 : VM.intT Tryz.prog 107 = none := by kernel_rfl
theorem hasT_107 : VM.hasT Tryz.prog 107 = true := by kernel_rfl
theorem aggT_107 : VM.aggT Tryz.prog 107 = some false := by kernel_rfl
theorem zeroT_107 : VM.zeroT Tryz.prog 107 = some [.list true 2 []] := by kernel_rfl
theorem cellsOf_114 : Program.cellsOf Tryz.prog 114 = 6 := by kernel_rfl
theorem bytesOf_114 : Program.bytesOf Tryz.prog 114 = 112 := by kernel_rfl
theorem elemT_114 : VM.elemT Tryz.prog 114 = none := by kernel_rfl
theorem strT_114 : VM.strT Tryz.prog 114 = false := by kernel_rfl
theorem boolT_114 : VM.boolT Tryz.prog 114 = false := by kernel_rfl
theorem intT_114 : VM.intT Tryz.prog 114 = none := by kernel_rfl
theorem hasT_114 : VM.hasT Tryz.prog 114 = true := by kernel_rfl
theorem aggT_114 : VM.aggT Tryz.prog 114 = some true := by kernel_rfl
theorem zeroT_114 : VM.zeroT Tryz.prog 114 = some [.list true 1 [], .list true 1 [], .list true 1 [], .int .i64 0, .list true 3 [], .bool false] := by kernel_rfl
theorem fieldT_114_0 : VM.fieldT Tryz.prog 114 0 = some (0, 31) := by kernel_rfl
theorem fieldT_114_1 : VM.fieldT Tryz.prog 114 1 = some (4, 85) := by kernel_rfl
theorem fieldT_114_2 : VM.fieldT Tryz.prog 114 2 = some (5, 4) := by kernel_rfl
theorem placesT_114 : VM.placesT Tryz.prog 114 = some [(0, 4, 31), (4, 1, 85), (5, 1, 4)] := by kernel_rfl
theorem cellsOf_115 : Program.cellsOf Tryz.prog 115 = 6 := by kernel_rfl
theorem bytesOf_115 : Program.bytesOf Tryz.prog 115 = 112 := by kernel_rfl
theorem elemT_115 : VM.elemT Tryz.prog 115 = none := by kernel_rfl
theorem strT_115 : VM.strT Tryz.prog 115 = false := by kernel_rfl
theorem boolT_115 : VM.boolT Tryz.prog 115 = false := by kernel_rfl
theorem intT_115 : VM.intT Tryz.prog 115 = none := by kernel_rfl
theorem hasT_115 : VM.hasT Tryz.prog 115 = true := by kernel_rfl
theorem aggT_115 : VM.aggT Tryz.prog 115 = some true := by kernel_rfl
theorem zeroT_115 : VM.zeroT Tryz.prog 115 = some [.list true 1 [], .list true 1 [], .list true 1 [], .int .i64 0, .list true 3 [], .bool false] := by kernel_rfl
theorem fieldT_115_0 : VM.fieldT Tryz.prog 115 0 = some (0, 31) := by kernel_rfl
theorem fieldT_115_1 : VM.fieldT Tryz.prog 115 1 = some (4, 85) := by kernel_rfl
theorem fieldT_115_2 : VM.fieldT Tryz.prog 115 2 = some (5, 4) := by kernel_rfl
theorem placesT_115 : VM.placesT Tryz.prog 115 = some [(0, 4, 31), (4, 1, 85), (5, 1, 4)] := by kernel_rfl
theorem cellsOf_121 : Program.cellsOf Tryz.prog 121 = 3 := by kernel_rfl
theorem bytesOf_121 : Program.bytesOf Tryz.prog 121 = 32 := by kernel_rfl
theorem elemT_121 : VM.elemT Tryz.prog 121 = none := by kernel_rfl
theorem strT_121 : VM.strT Tryz.prog 121 = false := by kernel_rfl
theorem boolT_121 : VM.boolT Tryz.prog 121 = false := by kernel_rfl
theorem intT_121 : VM.intT Tryz.prog 121 = none := by kernel_rfl
theorem hasT_121 : VM.hasT Tryz.prog 121 = true := by kernel_rfl
theorem aggT_121 : VM.aggT Tryz.prog 121 = some true := by kernel_rfl
theorem zeroT_121 : VM.zeroT Tryz.prog 121 = some [.int .i64 0, .int .i64 0, .str ⟨#[]⟩] := by kernel_rfl
theorem fieldT_121_0 : VM.fieldT Tryz.prog 121 0 = some (0, 3) := by kernel_rfl
theorem fieldT_121_1 : VM.fieldT Tryz.prog 121 1 = some (1, 3) := by kernel_rfl
theorem fieldT_121_2 : VM.fieldT Tryz.prog 121 2 = some (2, 9) := by kernel_rfl
theorem placesT_121 : VM.placesT Tryz.prog 121 = some [(0, 1, 3), (1, 1, 3), (2, 1, 9)] := by kernel_rfl
theorem flatT_121 : VM.flatT Tryz.prog 121 = some [.int .i64, .int .i64, .string] := by kernel_rfl
theorem cellsOf_122 : Program.cellsOf Tryz.prog 122 = 3 := by kernel_rfl
theorem bytesOf_122 : Program.bytesOf Tryz.prog 122 = 32 := by kernel_rfl
theorem elemT_122 : VM.elemT Tryz.prog 122 = none := by kernel_rfl
theorem strT_122 : VM.strT Tryz.prog 122 = false := by kernel_rfl
theorem boolT_122 : VM.boolT Tryz.prog 122 = false := by kernel_rfl
theorem intT_122 : VM.intT Tryz.prog 122 = none := by kernel_rfl
theorem hasT_122 : VM.hasT Tryz.prog 122 = true := by kernel_rfl
theorem aggT_122 : VM.aggT Tryz.prog 122 = some true := by kernel_rfl
theorem zeroT_122 : VM.zeroT Tryz.prog 122 = some [.int .i64 0, .int .i64 0, .str ⟨#[]⟩] := by kernel_rfl
theorem fieldT_122_0 : VM.fieldT Tryz.prog 122 0 = some (0, 3) := by kernel_rfl
theorem fieldT_122_1 : VM.fieldT Tryz.prog 122 1 = some (1, 3) := by kernel_rfl
theorem fieldT_122_2 : VM.fieldT Tryz.prog 122 2 = some (2, 9) := by kernel_rfl
theorem placesT_122 : VM.placesT Tryz.prog 122 = some [(0, 1, 3), (1, 1, 3), (2, 1, 9)] := by kernel_rfl
theorem flatT_122 : VM.flatT Tryz.prog 122 = some [.int .i64, .int .i64, .string] := by kernel_rfl
theorem cellsOf_149 : Program.cellsOf Tryz.prog 149 = 2 := by kernel_rfl
theorem bytesOf_149 : Program.bytesOf Tryz.prog 149 = 24 := by kernel_rfl
theorem elemT_149 : VM.elemT Tryz.prog 149 = none := by kernel_rfl
theorem strT_149 : VM.strT Tryz.prog 149 = false := by kernel_rfl
theorem boolT_149 : VM.boolT Tryz.prog 149 = false := by kernel_rfl
theorem intT_149 : VM.intT Tryz.prog 149 = none := by kernel_rfl
theorem hasT_149 : VM.hasT Tryz.prog 149 = true := by kernel_rfl
theorem aggT_149 : VM.aggT Tryz.prog 149 = some true := by kernel_rfl
theorem zeroT_149 : VM.zeroT Tryz.prog 149 = some [.int .i64 0, .str ⟨#[]⟩] := by kernel_rfl
theorem fieldT_149_0 : VM.fieldT Tryz.prog 149 0 = some (0, 3) := by kernel_rfl
theorem fieldT_149_1 : VM.fieldT Tryz.prog 149 1 = some (1, 9) := by kernel_rfl
theorem placesT_149 : VM.placesT Tryz.prog 149 = some [(0, 1, 3), (1, 1, 9)] := by kernel_rfl
theorem flatT_149 : VM.flatT Tryz.prog 149 = some [.int .i64, .string] := by kernel_rfl
theorem cellsOf_150 : Program.cellsOf Tryz.prog 150 = 2 := by kernel_rfl
theorem bytesOf_150 : Program.bytesOf Tryz.prog 150 = 24 := by kernel_rfl
theorem elemT_150 : VM.elemT Tryz.prog 150 = none := by kernel_rfl
theorem strT_150 : VM.strT Tryz.prog 150 = false := by kernel_rfl
theorem boolT_150 : VM.boolT Tryz.prog 150 = false := by kernel_rfl
theorem intT_150 : VM.intT Tryz.prog 150 = none := by kernel_rfl
theorem hasT_150 : VM.hasT Tryz.prog 150 = true := by kernel_rfl
theorem aggT_150 : VM.aggT Tryz.prog 150 = some true := by kernel_rfl
theorem zeroT_150 : VM.zeroT Tryz.prog 150 = some [.int .i64 0, .str ⟨#[]⟩] := by kernel_rfl
theorem fieldT_150_0 : VM.fieldT Tryz.prog 150 0 = some (0, 3) := by kernel_rfl
theorem fieldT_150_1 : VM.fieldT Tryz.prog 150 1 = some (1, 9) := by kernel_rfl
theorem placesT_150 : VM.placesT Tryz.prog 150 = some [(0, 1, 3), (1, 1, 9)] := by kernel_rfl
theorem flatT_150 : VM.flatT Tryz.prog 150 = some [.int .i64, .string] := by kernel_rfl
theorem cellsOf_160 : Program.cellsOf Tryz.prog 160 = 1 := by kernel_rfl
theorem bytesOf_160 : Program.bytesOf Tryz.prog 160 = 4 := by kernel_rfl
theorem elemT_160 : VM.elemT Tryz.prog 160 = none := by kernel_rfl
theorem strT_160 : VM.strT Tryz.prog 160 = false := by kernel_rfl
theorem boolT_160 : VM.boolT Tryz.prog 160 = false := by kernel_rfl
theorem intT_160 : VM.intT Tryz.prog 160 = some .u32 := by kernel_rfl
theorem hasT_160 : VM.hasT Tryz.prog 160 = true := by kernel_rfl
theorem aggT_160 : VM.aggT Tryz.prog 160 = some false := by kernel_rfl
theorem zeroT_160 : VM.zeroT Tryz.prog 160 = some [.int .u32 0] := by kernel_rfl
theorem cellsOf_163 : Program.cellsOf Tryz.prog 163 = 1 := by kernel_rfl
theorem bytesOf_163 : Program.bytesOf Tryz.prog 163 = 8 := by kernel_rfl
theorem elemT_163 : VM.elemT Tryz.prog 163 = none := by kernel_rfl
theorem strT_163 : VM.strT Tryz.prog 163 = false := by kernel_rfl
theorem boolT_163 : VM.boolT Tryz.prog 163 = false := by kernel_rfl
theorem intT_163 : VM.intT Tryz.prog 163 = some .u64 := by kernel_rfl
theorem hasT_163 : VM.hasT Tryz.prog 163 = true := by kernel_rfl
theorem aggT_163 : VM.aggT Tryz.prog 163 = some false := by kernel_rfl
theorem zeroT_163 : VM.zeroT Tryz.prog 163 = some [.int .u64 0] := by kernel_rfl
theorem cellsOf_166 : Program.cellsOf Tryz.prog 166 = 3 := by kernel_rfl
theorem bytesOf_166 : Program.bytesOf Tryz.prog 166 = 40 := by kernel_rfl
theorem elemT_166 : VM.elemT Tryz.prog 166 = none := by kernel_rfl
theorem strT_166 : VM.strT Tryz.prog 166 = false := by kernel_rfl
theorem boolT_166 : VM.boolT Tryz.prog 166 = false := by kernel_rfl
theorem intT_166 : VM.intT Tryz.prog 166 = none := by kernel_rfl
theorem hasT_166 : VM.hasT Tryz.prog 166 = true := by kernel_rfl
theorem aggT_166 : VM.aggT Tryz.prog 166 = some true := by kernel_rfl
theorem zeroT_166 : VM.zeroT Tryz.prog 166 = some [.list true 1 [], .int .i64 0, .bool false] := by kernel_rfl
theorem fieldT_166_0 : VM.fieldT Tryz.prog 166 0 = some (0, 22) := by kernel_rfl
theorem fieldT_166_1 : VM.fieldT Tryz.prog 166 1 = some (1, 3) := by kernel_rfl
theorem fieldT_166_2 : VM.fieldT Tryz.prog 166 2 = some (2, 4) := by kernel_rfl
theorem placesT_166 : VM.placesT Tryz.prog 166 = some [(0, 1, 22), (1, 1, 3), (2, 1, 4)] := by kernel_rfl
theorem cellsOf_167 : Program.cellsOf Tryz.prog 167 = 3 := by kernel_rfl
theorem bytesOf_167 : Program.bytesOf Tryz.prog 167 = 40 := by kernel_rfl
theorem elemT_167 : VM.elemT Tryz.prog 167 = none := by kernel_rfl
theorem strT_167 : VM.strT Tryz.prog 167 = false := by kernel_rfl
theorem boolT_167 : VM.boolT Tryz.prog 167 = false := by kernel_rfl
theorem intT_167 : VM.intT Tryz.prog 167 = none := by kernel_rfl
theorem hasT_167 : VM.hasT Tryz.prog 167 = true := by kernel_rfl
theorem aggT_167 : VM.aggT Tryz.prog 167 = some true := by kernel_rfl
theorem zeroT_167 : VM.zeroT Tryz.prog 167 = some [.list true 1 [], .int .i64 0, .bool false] := by kernel_rfl
theorem fieldT_167_0 : VM.fieldT Tryz.prog 167 0 = some (0, 22) := by kernel_rfl
theorem fieldT_167_1 : VM.fieldT Tryz.prog 167 1 = some (1, 3) := by kernel_rfl
theorem fieldT_167_2 : VM.fieldT Tryz.prog 167 2 = some (2, 4) := by kernel_rfl
theorem placesT_167 : VM.placesT Tryz.prog 167 = some [(0, 1, 22), (1, 1, 3), (2, 1, 4)] := by kernel_rfl
theorem cellsOf_185 : Program.cellsOf Tryz.prog 185 = 2 := by kernel_rfl
theorem bytesOf_185 : Program.bytesOf Tryz.prog 185 = 2 := by kernel_rfl
theorem elemT_185 : VM.elemT Tryz.prog 185 = none := by kernel_rfl
theorem strT_185 : VM.strT Tryz.prog 185 = false := by kernel_rfl
theorem boolT_185 : VM.boolT Tryz.prog 185 = false := by kernel_rfl
theorem intT_185 : VM.intT Tryz.prog 185 = none := by kernel_rfl
theorem hasT_185 : VM.hasT Tryz.prog 185 = true := by kernel_rfl
theorem aggT_185 : VM.aggT Tryz.prog 185 = some true := by kernel_rfl
theorem zeroT_185 : VM.zeroT Tryz.prog 185 = some [.int .u8 0, .int .u8 0] := by kernel_rfl
theorem fieldT_185_0 : VM.fieldT Tryz.prog 185 0 = some (0, 5) := by kernel_rfl
theorem fieldT_185_1 : VM.fieldT Tryz.prog 185 1 = some (1, 5) := by kernel_rfl
theorem placesT_185 : VM.placesT Tryz.prog 185 = some [(0, 1, 5), (1, 1, 5)] := by kernel_rfl
theorem flatT_185 : VM.flatT Tryz.prog 185 = some [.int .u8, .int .u8] := by kernel_rfl
theorem cellsOf_186 : Program.cellsOf Tryz.prog 186 = 2 := by kernel_rfl
theorem bytesOf_186 : Program.bytesOf Tryz.prog 186 = 2 := by kernel_rfl
theorem elemT_186 : VM.elemT Tryz.prog 186 = none := by kernel_rfl
theorem strT_186 : VM.strT Tryz.prog 186 = false := by kernel_rfl
theorem boolT_186 : VM.boolT Tryz.prog 186 = false := by kernel_rfl
theorem intT_186 : VM.intT Tryz.prog 186 = none := by kernel_rfl
theorem hasT_186 : VM.hasT Tryz.prog 186 = true := by kernel_rfl
theorem aggT_186 : VM.aggT Tryz.prog 186 = some true := by kernel_rfl
theorem zeroT_186 : VM.zeroT Tryz.prog 186 = some [.int .u8 0, .int .u8 0] := by kernel_rfl
theorem fieldT_186_0 : VM.fieldT Tryz.prog 186 0 = some (0, 5) := by kernel_rfl
theorem fieldT_186_1 : VM.fieldT Tryz.prog 186 1 = some (1, 5) := by kernel_rfl
theorem placesT_186 : VM.placesT Tryz.prog 186 = some [(0, 1, 5), (1, 1, 5)] := by kernel_rfl
theorem flatT_186 : VM.flatT Tryz.prog 186 = some [.int .u8, .int .u8] := by kernel_rfl
attribute [go_sem] cellsOf_3 bytesOf_3 elemT_3 strT_3 boolT_3 intT_3 hasT_3 aggT_3 zeroT_3 cellsOf_4 bytesOf_4 elemT_4 strT_4 boolT_4 intT_4 hasT_4 aggT_4 zeroT_4 cellsOf_5 bytesOf_5 elemT_5 strT_5 boolT_5 intT_5 hasT_5 aggT_5 zeroT_5 cellsOf_9 bytesOf_9 elemT_9 strT_9 boolT_9 intT_9 hasT_9 aggT_9 zeroT_9 cellsOf_21 bytesOf_21 elemT_21 strT_21 boolT_21 intT_21 hasT_21 aggT_21 zeroT_21 cellsOf_22 bytesOf_22 elemT_22 strT_22 boolT_22 intT_22 hasT_22 aggT_22 zeroT_22 cellsOf_24 bytesOf_24 elemT_24 strT_24 boolT_24 intT_24 hasT_24 aggT_24 zeroT_24 cellsOf_26 bytesOf_26 elemT_26 strT_26 boolT_26 intT_26 hasT_26 aggT_26 zeroT_26 cellsOf_27 bytesOf_27 elemT_27 strT_27 boolT_27 intT_27 hasT_27 aggT_27 zeroT_27 cellsOf_28 bytesOf_28 elemT_28 strT_28 boolT_28 intT_28 hasT_28 aggT_28 zeroT_28 fieldT_28_0 fieldT_28_1 placesT_28 cellsOf_29 bytesOf_29 elemT_29 strT_29 boolT_29 intT_29 hasT_29 aggT_29 zeroT_29 fieldT_29_0 fieldT_29_1 placesT_29 cellsOf_30 bytesOf_30 elemT_30 strT_30 boolT_30 intT_30 hasT_30 aggT_30 zeroT_30 fieldT_30_0 fieldT_30_1 fieldT_30_2 placesT_30 cellsOf_31 bytesOf_31 elemT_31 strT_31 boolT_31 intT_31 hasT_31 aggT_31 zeroT_31 fieldT_31_0 fieldT_31_1 fieldT_31_2 placesT_31 cellsOf_38 bytesOf_38 elemT_38 strT_38 boolT_38 intT_38 hasT_38 aggT_38 zeroT_38 fieldT_38_0 fieldT_38_1 fieldT_38_2 fieldT_38_3 placesT_38 flatT_38 cellsOf_39 bytesOf_39 elemT_39 strT_39 boolT_39 intT_39 hasT_39 aggT_39 zeroT_39 fieldT_39_0 fieldT_39_1 fieldT_39_2 fieldT_39_3 placesT_39 flatT_39 cellsOf_42 bytesOf_42 elemT_42 strT_42 boolT_42 intT_42 hasT_42 aggT_42 cellsOf_48 bytesOf_48 elemT_48 strT_48 boolT_48 intT_48 hasT_48 aggT_48 zeroT_48 fieldT_48_0 fieldT_48_1 fieldT_48_2 placesT_48 flatT_48 cellsOf_49 bytesOf_49 elemT_49 strT_49 boolT_49 intT_49 hasT_49 aggT_49 zeroT_49 fieldT_49_0 fieldT_49_1 fieldT_49_2 placesT_49 flatT_49 cellsOf_66 bytesOf_66 elemT_66 strT_66 boolT_66 intT_66 hasT_66 aggT_66 zeroT_66 fieldT_66_0 fieldT_66_1 fieldT_66_2 placesT_66 cellsOf_67 bytesOf_67 elemT_67 strT_67 boolT_67 intT_67 hasT_67 aggT_67 zeroT_67 fieldT_67_0 fieldT_67_1 fieldT_67_2 placesT_67 cellsOf_85 bytesOf_85 elemT_85 strT_85 boolT_85 intT_85 hasT_85 aggT_85 zeroT_85 cellsOf_89 bytesOf_89 elemT_89 strT_89 boolT_89 intT_89 hasT_89 aggT_89 zeroT_89 cellsOf_91 bytesOf_91 elemT_91 strT_91 boolT_91 intT_91 hasT_91 aggT_91 cellsOf_94 bytesOf_94 elemT_94 strT_94 boolT_94 intT_94 hasT_94 aggT_94 zeroT_94 fieldT_94_0 fieldT_94_1 fieldT_94_2 placesT_94 flatT_94 cellsOf_95 bytesOf_95 elemT_95 strT_95 boolT_95 intT_95 hasT_95 aggT_95 zeroT_95 fieldT_95_0 fieldT_95_1 fieldT_95_2 placesT_95 flatT_95 cellsOf_101 bytesOf_101 elemT_101 strT_101 boolT_101 intT_101 hasT_101 aggT_101 zeroT_101 fieldT_101_0 fieldT_101_1 fieldT_101_2 fieldT_101_3 placesT_101 cellsOf_102 bytesOf_102 elemT_102 strT_102 boolT_102 intT_102 hasT_102 aggT_102 zeroT_102 fieldT_102_0 fieldT_102_1 fieldT_102_2 fieldT_102_3 placesT_102 cellsOf_105 bytesOf_105 elemT_105 strT_105 boolT_105 intT_105 hasT_105 aggT_105 zeroT_105 cellsOf_107 bytesOf_107 elemT_107 strT_107 boolT_107 intT_107 hasT_107 aggT_107 zeroT_107 cellsOf_114 bytesOf_114 elemT_114 strT_114 boolT_114 intT_114 hasT_114 aggT_114 zeroT_114 fieldT_114_0 fieldT_114_1 fieldT_114_2 placesT_114 cellsOf_115 bytesOf_115 elemT_115 strT_115 boolT_115 intT_115 hasT_115 aggT_115 zeroT_115 fieldT_115_0 fieldT_115_1 fieldT_115_2 placesT_115 cellsOf_121 bytesOf_121 elemT_121 strT_121 boolT_121 intT_121 hasT_121 aggT_121 zeroT_121 fieldT_121_0 fieldT_121_1 fieldT_121_2 placesT_121 flatT_121 cellsOf_122 bytesOf_122 elemT_122 strT_122 boolT_122 intT_122 hasT_122 aggT_122 zeroT_122 fieldT_122_0 fieldT_122_1 fieldT_122_2 placesT_122 flatT_122 cellsOf_149 bytesOf_149 elemT_149 strT_149 boolT_149 intT_149 hasT_149 aggT_149 zeroT_149 fieldT_149_0 fieldT_149_1 placesT_149 flatT_149 cellsOf_150 bytesOf_150 elemT_150 strT_150 boolT_150 intT_150 hasT_150 aggT_150 zeroT_150 fieldT_150_0 fieldT_150_1 placesT_150 flatT_150 cellsOf_160 bytesOf_160 elemT_160 strT_160 boolT_160 intT_160 hasT_160 aggT_160 zeroT_160 cellsOf_163 bytesOf_163 elemT_163 strT_163 boolT_163 intT_163 hasT_163 aggT_163 zeroT_163 cellsOf_166 bytesOf_166 elemT_166 strT_166 boolT_166 intT_166 hasT_166 aggT_166 zeroT_166 fieldT_166_0 fieldT_166_1 fieldT_166_2 placesT_166 cellsOf_167 bytesOf_167 elemT_167 strT_167 boolT_167 intT_167 hasT_167 aggT_167 zeroT_167 fieldT_167_0 fieldT_167_1 fieldT_167_2 placesT_167 cellsOf_185 bytesOf_185 elemT_185 strT_185 boolT_185 intT_185 hasT_185 aggT_185 zeroT_185 fieldT_185_0 fieldT_185_1 placesT_185 flatT_185 cellsOf_186 bytesOf_186 elemT_186 strT_186 boolT_186 intT_186 hasT_186 aggT_186 zeroT_186 fieldT_186_0 fieldT_186_1 placesT_186 flatT_186
end Go.Proofs.YtkijdbljnefeaaaGreatDoor
