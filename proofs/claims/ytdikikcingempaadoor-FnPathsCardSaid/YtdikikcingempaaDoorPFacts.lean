/- What the machine asks of the program's types. Printed by a program (facts.py). -/
import Derived.Test.YtdikikcingempaaDoorPVUse
import Derived.Test.YtdikikcingempaaDoorProg
import Derived.KernelRfl
namespace Go.Proofs.YtdikikcingempaaDoor
theorem cellsOf_3 : Program.cellsOf Tryd.prog 3 = 1 := by kernel_rfl
theorem bytesOf_3 : Program.bytesOf Tryd.prog 3 = 8 := by kernel_rfl
theorem elemT_3 : VM.elemT Tryd.prog 3 = none := by kernel_rfl
theorem strT_3 : VM.strT Tryd.prog 3 = false := by kernel_rfl
theorem boolT_3 : VM.boolT Tryd.prog 3 = false := by kernel_rfl
theorem intT_3 : VM.intT Tryd.prog 3 = some .i64 := by kernel_rfl
theorem hasT_3 : VM.hasT Tryd.prog 3 = true := by kernel_rfl
theorem aggT_3 : VM.aggT Tryd.prog 3 = some false := by kernel_rfl
theorem zeroT_3 : VM.zeroT Tryd.prog 3 = some [.int .i64 0] := by kernel_rfl
theorem cellsOf_4 : Program.cellsOf Tryd.prog 4 = 1 := by kernel_rfl
theorem bytesOf_4 : Program.bytesOf Tryd.prog 4 = 1 := by kernel_rfl
theorem elemT_4 : VM.elemT Tryd.prog 4 = none := by kernel_rfl
theorem strT_4 : VM.strT Tryd.prog 4 = false := by kernel_rfl
theorem boolT_4 : VM.boolT Tryd.prog 4 = true := by kernel_rfl
theorem intT_4 : VM.intT Tryd.prog 4 = none := by kernel_rfl
theorem hasT_4 : VM.hasT Tryd.prog 4 = true := by kernel_rfl
theorem aggT_4 : VM.aggT Tryd.prog 4 = some false := by kernel_rfl
theorem zeroT_4 : VM.zeroT Tryd.prog 4 = some [.bool false] := by kernel_rfl
theorem cellsOf_5 : Program.cellsOf Tryd.prog 5 = 1 := by kernel_rfl
theorem bytesOf_5 : Program.bytesOf Tryd.prog 5 = 1 := by kernel_rfl
theorem elemT_5 : VM.elemT Tryd.prog 5 = none := by kernel_rfl
theorem strT_5 : VM.strT Tryd.prog 5 = false := by kernel_rfl
theorem boolT_5 : VM.boolT Tryd.prog 5 = false := by kernel_rfl
theorem intT_5 : VM.intT Tryd.prog 5 = some .u8 := by kernel_rfl
theorem hasT_5 : VM.hasT Tryd.prog 5 = true := by kernel_rfl
theorem aggT_5 : VM.aggT Tryd.prog 5 = some false := by kernel_rfl
theorem zeroT_5 : VM.zeroT Tryd.prog 5 = some [.int .u8 0] := by kernel_rfl
theorem cellsOf_9 : Program.cellsOf Tryd.prog 9 = 1 := by kernel_rfl
theorem bytesOf_9 : Program.bytesOf Tryd.prog 9 = 16 := by kernel_rfl
theorem elemT_9 : VM.elemT Tryd.prog 9 = none := by kernel_rfl
theorem strT_9 : VM.strT Tryd.prog 9 = true := by kernel_rfl
theorem boolT_9 : VM.boolT Tryd.prog 9 = false := by kernel_rfl
theorem intT_9 : VM.intT Tryd.prog 9 = none := by kernel_rfl
theorem hasT_9 : VM.hasT Tryd.prog 9 = true := by kernel_rfl
theorem aggT_9 : VM.aggT Tryd.prog 9 = some false := by kernel_rfl
theorem zeroT_9 : VM.zeroT Tryd.prog 9 = some [.str ⟨#[]⟩] := by kernel_rfl
theorem cellsOf_21 : Program.cellsOf Tryd.prog 21 = 1 := by kernel_rfl
theorem bytesOf_21 : Program.bytesOf Tryd.prog 21 = 4 := by kernel_rfl
theorem elemT_21 : VM.elemT Tryd.prog 21 = none := by kernel_rfl
theorem strT_21 : VM.strT Tryd.prog 21 = false := by kernel_rfl
theorem boolT_21 : VM.boolT Tryd.prog 21 = false := by kernel_rfl
theorem intT_21 : VM.intT Tryd.prog 21 = some .i32 := by kernel_rfl
theorem hasT_21 : VM.hasT Tryd.prog 21 = true := by kernel_rfl
theorem aggT_21 : VM.aggT Tryd.prog 21 = some false := by kernel_rfl
theorem zeroT_21 : VM.zeroT Tryd.prog 21 = some [.int .i32 0] := by kernel_rfl
theorem cellsOf_22 : Program.cellsOf Tryd.prog 22 = 1 := by kernel_rfl
theorem bytesOf_22 : Program.bytesOf Tryd.prog 22 = 24 := by kernel_rfl
theorem elemT_22 : VM.elemT Tryd.prog 22 = some 5 := by kernel_rfl
theorem strT_22 : VM.strT Tryd.prog 22 = false := by kernel_rfl
theorem boolT_22 : VM.boolT Tryd.prog 22 = false := by kernel_rfl
theorem intT_22 : VM.intT Tryd.prog 22 = none := by kernel_rfl
theorem hasT_22 : VM.hasT Tryd.prog 22 = true := by kernel_rfl
theorem aggT_22 : VM.aggT Tryd.prog 22 = some false := by kernel_rfl
theorem zeroT_22 : VM.zeroT Tryd.prog 22 = some [.list true 1 []] := by kernel_rfl
theorem cellsOf_25 : Program.cellsOf Tryd.prog 25 = 1 := by kernel_rfl
theorem bytesOf_25 : Program.bytesOf Tryd.prog 25 = 24 := by kernel_rfl
theorem elemT_25 : VM.elemT Tryd.prog 25 = some 9 := by kernel_rfl
theorem strT_25 : VM.strT Tryd.prog 25 = false := by kernel_rfl
theorem boolT_25 : VM.boolT Tryd.prog 25 = false := by kernel_rfl
theorem intT_25 : VM.intT Tryd.prog 25 = none := by kernel_rfl
theorem hasT_25 : VM.hasT Tryd.prog 25 = true := by kernel_rfl
theorem aggT_25 : VM.aggT Tryd.prog 25 = some false := by kernel_rfl
theorem zeroT_25 : VM.zeroT Tryd.prog 25 = some [.list true 1 []] := by kernel_rfl
theorem cellsOf_28 : Program.cellsOf Tryd.prog 28 = 1 := by kernel_rfl
theorem bytesOf_28 : Program.bytesOf Tryd.prog 28 = 8 := by kernel_rfl
theorem elemT_28 : VM.elemT Tryd.prog 28 = none := by kernel_rfl
theorem strT_28 : VM.strT Tryd.prog 28 = false := by kernel_rfl
theorem boolT_28 : VM.boolT Tryd.prog 28 = false := by kernel_rfl
theorem intT_28 : VM.intT Tryd.prog 28 = none := by kernel_rfl
theorem hasT_28 : VM.hasT Tryd.prog 28 = true := by kernel_rfl
theorem aggT_28 : VM.aggT Tryd.prog 28 = some false := by kernel_rfl
theorem cellsOf_38 : Program.cellsOf Tryd.prog 38 = 1 := by kernel_rfl
theorem bytesOf_38 : Program.bytesOf Tryd.prog 38 = 24 := by kernel_rfl
theorem elemT_38 : VM.elemT Tryd.prog 38 = some 3 := by kernel_rfl
theorem strT_38 : VM.strT Tryd.prog 38 = false := by kernel_rfl
theorem boolT_38 : VM.boolT Tryd.prog 38 = false := by kernel_rfl
theorem intT_38 : VM.intT Tryd.prog 38 = none := by kernel_rfl
theorem hasT_38 : VM.hasT Tryd.prog 38 = true := by kernel_rfl
theorem aggT_38 : VM.aggT Tryd.prog 38 = some false := by kernel_rfl
theorem zeroT_38 : VM.zeroT Tryd.prog 38 = some [.list true 1 []] := by kernel_rfl
theorem cellsOf_39 : Program.cellsOf Tryd.prog 39 = 4 := by kernel_rfl
theorem bytesOf_39 : Program.bytesOf Tryd.prog 39 = 72 := by kernel_rfl
theorem elemT_39 : VM.elemT Tryd.prog 39 = none := by kernel_rfl
theorem strT_39 : VM.strT Tryd.prog 39 = false := by kernel_rfl
theorem boolT_39 : VM.boolT Tryd.prog 39 = false := by kernel_rfl
theorem intT_39 : VM.intT Tryd.prog 39 = none := by kernel_rfl
theorem hasT_39 : VM.hasT Tryd.prog 39 = true := by kernel_rfl
theorem aggT_39 : VM.aggT Tryd.prog 39 = some true := by kernel_rfl
theorem zeroT_39 : VM.zeroT Tryd.prog 39 = some [.bool false, .list true 1 [], .list true 1 [], .str ⟨#[]⟩] := by kernel_rfl
theorem fieldT_39_0 : VM.fieldT Tryd.prog 39 0 = some (0, 4) := by kernel_rfl
theorem fieldT_39_1 : VM.fieldT Tryd.prog 39 1 = some (1, 25) := by kernel_rfl
theorem fieldT_39_2 : VM.fieldT Tryd.prog 39 2 = some (2, 38) := by kernel_rfl
theorem fieldT_39_3 : VM.fieldT Tryd.prog 39 3 = some (3, 9) := by kernel_rfl
theorem placesT_39 : VM.placesT Tryd.prog 39 = some [(0, 1, 4), (1, 1, 25), (2, 1, 38), (3, 1, 9)] := by kernel_rfl
theorem cellsOf_40 : Program.cellsOf Tryd.prog 40 = 4 := by kernel_rfl
theorem bytesOf_40 : Program.bytesOf Tryd.prog 40 = 72 := by kernel_rfl
theorem elemT_40 : VM.elemT Tryd.prog 40 = none := by kernel_rfl
theorem strT_40 : VM.strT Tryd.prog 40 = false := by kernel_rfl
theorem boolT_40 : VM.boolT Tryd.prog 40 = false := by kernel_rfl
theorem intT_40 : VM.intT Tryd.prog 40 = none := by kernel_rfl
theorem hasT_40 : VM.hasT Tryd.prog 40 = true := by kernel_rfl
theorem aggT_40 : VM.aggT Tryd.prog 40 = some true := by kernel_rfl
theorem zeroT_40 : VM.zeroT Tryd.prog 40 = some [.bool false, .list true 1 [], .list true 1 [], .str ⟨#[]⟩] := by kernel_rfl
theorem fieldT_40_0 : VM.fieldT Tryd.prog 40 0 = some (0, 4) := by kernel_rfl
theorem fieldT_40_1 : VM.fieldT Tryd.prog 40 1 = some (1, 25) := by kernel_rfl
theorem fieldT_40_2 : VM.fieldT Tryd.prog 40 2 = some (2, 38) := by kernel_rfl
theorem fieldT_40_3 : VM.fieldT Tryd.prog 40 3 = some (3, 9) := by kernel_rfl
theorem placesT_40 : VM.placesT Tryd.prog 40 = some [(0, 1, 4), (1, 1, 25), (2, 1, 38), (3, 1, 9)] := by kernel_rfl
theorem cellsOf_52 : Program.cellsOf Tryd.prog 52 = 1 := by kernel_rfl
theorem bytesOf_52 : Program.bytesOf Tryd.prog 52 = 24 := by kernel_rfl
theorem elemT_52 : VM.elemT Tryd.prog 52 = some 4 := by kernel_rfl
theorem strT_52 : VM.strT Tryd.prog 52 = false := by kernel_rfl
theorem boolT_52 : VM.boolT Tryd.prog 52 = false := by kernel_rfl
theorem intT_52 : VM.intT Tryd.prog 52 = none := by kernel_rfl
theorem hasT_52 : VM.hasT Tryd.prog 52 = true := by kernel_rfl
theorem aggT_52 : VM.aggT Tryd.prog 52 = some false := by kernel_rfl
theorem zeroT_52 : VM.zeroT Tryd.prog 52 = some [.list true 1 []] := by kernel_rfl
theorem cellsOf_58 : Program.cellsOf Tryd.prog 58 = 3 := by kernel_rfl
theorem bytesOf_58 : Program.bytesOf Tryd.prog 58 = 40 := by kernel_rfl
theorem elemT_58 : VM.elemT Tryd.prog 58 = none := by kernel_rfl
theorem strT_58 : VM.strT Tryd.prog 58 = false := by kernel_rfl
theorem boolT_58 : VM.boolT Tryd.prog 58 = false := by kernel_rfl
theorem intT_58 : VM.intT Tryd.prog 58 = none := by kernel_rfl
theorem hasT_58 : VM.hasT Tryd.prog 58 = true := by kernel_rfl
theorem aggT_58 : VM.aggT Tryd.prog 58 = some true := by kernel_rfl
theorem zeroT_58 : VM.zeroT Tryd.prog 58 = some [.list true 1 [], .int .i64 0, .int .i64 0] := by kernel_rfl
theorem fieldT_58_0 : VM.fieldT Tryd.prog 58 0 = some (0, 22) := by kernel_rfl
theorem fieldT_58_1 : VM.fieldT Tryd.prog 58 1 = some (1, 3) := by kernel_rfl
theorem fieldT_58_2 : VM.fieldT Tryd.prog 58 2 = some (2, 3) := by kernel_rfl
theorem placesT_58 : VM.placesT Tryd.prog 58 = some [(0, 1, 22), (1, 1, 3), (2, 1, 3)] := by kernel_rfl
theorem cellsOf_59 : Program.cellsOf Tryd.prog 59 = 3 := by kernel_rfl
theorem bytesOf_59 : Program.bytesOf Tryd.prog 59 = 40 := by kernel_rfl
theorem elemT_59 : VM.elemT Tryd.prog 59 = none := by kernel_rfl
theorem strT_59 : VM.strT Tryd.prog 59 = false := by kernel_rfl
theorem boolT_59 : VM.boolT Tryd.prog 59 = false := by kernel_rfl
theorem intT_59 : VM.intT Tryd.prog 59 = none := by kernel_rfl
theorem hasT_59 : VM.hasT Tryd.prog 59 = true := by kernel_rfl
theorem aggT_59 : VM.aggT Tryd.prog 59 = some true := by kernel_rfl
theorem zeroT_59 : VM.zeroT Tryd.prog 59 = some [.list true 1 [], .int .i64 0, .int .i64 0] := by kernel_rfl
theorem fieldT_59_0 : VM.fieldT Tryd.prog 59 0 = some (0, 22) := by kernel_rfl
theorem fieldT_59_1 : VM.fieldT Tryd.prog 59 1 = some (1, 3) := by kernel_rfl
theorem fieldT_59_2 : VM.fieldT Tryd.prog 59 2 = some (2, 3) := by kernel_rfl
theorem placesT_59 : VM.placesT Tryd.prog 59 = some [(0, 1, 22), (1, 1, 3), (2, 1, 3)] := by kernel_rfl
theorem cellsOf_64 : Program.cellsOf Tryd.prog 64 = 2 := by kernel_rfl
theorem bytesOf_64 : Program.bytesOf Tryd.prog 64 = 48 := by kernel_rfl
theorem elemT_64 : VM.elemT Tryd.prog 64 = none := by kernel_rfl
theorem strT_64 : VM.strT Tryd.prog 64 = false := by kernel_rfl
theorem boolT_64 : VM.boolT Tryd.prog 64 = false := by kernel_rfl
theorem intT_64 : VM.intT Tryd.prog 64 = none := by kernel_rfl
theorem hasT_64 : VM.hasT Tryd.prog 64 = true := by kernel_rfl
theorem aggT_64 : VM.aggT Tryd.prog 64 = some true := by kernel_rfl
theorem zeroT_64 : VM.zeroT Tryd.prog 64 = some [.list true 1 [], .list true 1 []] := by kernel_rfl
theorem fieldT_64_0 : VM.fieldT Tryd.prog 64 0 = some (0, 25) := by kernel_rfl
theorem fieldT_64_1 : VM.fieldT Tryd.prog 64 1 = some (1, 52) := by kernel_rfl
theorem placesT_64 : VM.placesT Tryd.prog 64 = some [(0, 1, 25), (1, 1, 52)] := by kernel_rfl
theorem cellsOf_65 : Program.cellsOf Tryd.prog 65 = 2 := by kernel_rfl
theorem bytesOf_65 : Program.bytesOf Tryd.prog 65 = 48 := by kernel_rfl
theorem elemT_65 : VM.elemT Tryd.prog 65 = none := by kernel_rfl
theorem strT_65 : VM.strT Tryd.prog 65 = false := by kernel_rfl
theorem boolT_65 : VM.boolT Tryd.prog 65 = false := by kernel_rfl
theorem intT_65 : VM.intT Tryd.prog 65 = none := by kernel_rfl
theorem hasT_65 : VM.hasT Tryd.prog 65 = true := by kernel_rfl
theorem aggT_65 : VM.aggT Tryd.prog 65 = some true := by kernel_rfl
theorem zeroT_65 : VM.zeroT Tryd.prog 65 = some [.list true 1 [], .list true 1 []] := by kernel_rfl
theorem fieldT_65_0 : VM.fieldT Tryd.prog 65 0 = some (0, 25) := by kernel_rfl
theorem fieldT_65_1 : VM.fieldT Tryd.prog 65 1 = some (1, 52) := by kernel_rfl
theorem placesT_65 : VM.placesT Tryd.prog 65 = some [(0, 1, 25), (1, 1, 52)] := by kernel_rfl
theorem cellsOf_75 : Program.cellsOf Tryd.prog 75 = 4 := by kernel_rfl
theorem bytesOf_75 : Program.bytesOf Tryd.prog 75 = 56 := by kernel_rfl
theorem elemT_75 : VM.elemT Tryd.prog 75 = none := by kernel_rfl
theorem strT_75 : VM.strT Tryd.prog 75 = false := by kernel_rfl
theorem boolT_75 : VM.boolT Tryd.prog 75 = false := by kernel_rfl
theorem intT_75 : VM.intT Tryd.prog 75 = none := by kernel_rfl
theorem hasT_75 : VM.hasT Tryd.prog 75 = true := by kernel_rfl
theorem aggT_75 : VM.aggT Tryd.prog 75 = some true := by kernel_rfl
theorem zeroT_75 : VM.zeroT Tryd.prog 75 = some [.int .i64 0, .str ⟨#[]⟩, .str ⟨#[]⟩, .str ⟨#[]⟩] := by kernel_rfl
theorem fieldT_75_0 : VM.fieldT Tryd.prog 75 0 = some (0, 3) := by kernel_rfl
theorem fieldT_75_1 : VM.fieldT Tryd.prog 75 1 = some (1, 9) := by kernel_rfl
theorem fieldT_75_2 : VM.fieldT Tryd.prog 75 2 = some (2, 9) := by kernel_rfl
theorem fieldT_75_3 : VM.fieldT Tryd.prog 75 3 = some (3, 9) := by kernel_rfl
theorem placesT_75 : VM.placesT Tryd.prog 75 = some [(0, 1, 3), (1, 1, 9), (2, 1, 9), (3, 1, 9)] := by kernel_rfl
theorem flatT_75 : VM.flatT Tryd.prog 75 = some [.int .i64, .string, .string, .string] := by kernel_rfl
theorem cellsOf_76 : Program.cellsOf Tryd.prog 76 = 4 := by kernel_rfl
theorem bytesOf_76 : Program.bytesOf Tryd.prog 76 = 56 := by kernel_rfl
theorem elemT_76 : VM.elemT Tryd.prog 76 = none := by kernel_rfl
theorem strT_76 : VM.strT Tryd.prog 76 = false := by kernel_rfl
theorem boolT_76 : VM.boolT Tryd.prog 76 = false := by kernel_rfl
theorem intT_76 : VM.intT Tryd.prog 76 = none := by kernel_rfl
theorem hasT_76 : VM.hasT Tryd.prog 76 = true := by kernel_rfl
theorem aggT_76 : VM.aggT Tryd.prog 76 = some true := by kernel_rfl
theorem zeroT_76 : VM.zeroT Tryd.prog 76 = some [.int .i64 0, .str ⟨#[]⟩, .str ⟨#[]⟩, .str ⟨#[]⟩] := by kernel_rfl
theorem fieldT_76_0 : VM.fieldT Tryd.prog 76 0 = some (0, 3) := by kernel_rfl
theorem fieldT_76_1 : VM.fieldT Tryd.prog 76 1 = some (1, 9) := by kernel_rfl
theorem fieldT_76_2 : VM.fieldT Tryd.prog 76 2 = some (2, 9) := by kernel_rfl
theorem fieldT_76_3 : VM.fieldT Tryd.prog 76 3 = some (3, 9) := by kernel_rfl
theorem placesT_76 : VM.placesT Tryd.prog 76 = some [(0, 1, 3), (1, 1, 9), (2, 1, 9), (3, 1, 9)] := by kernel_rfl
theorem flatT_76 : VM.flatT Tryd.prog 76 = some [.int .i64, .string, .string, .string] := by kernel_rfl
theorem cellsOf_83 : Program.cellsOf Tryd.prog 83 = 1 := by kernel_rfl
theorem bytesOf_83 : Program.bytesOf Tryd.prog 83 = 24 := by kernel_rfl
theorem elemT_83 : VM.elemT Tryd.prog 83 = some 97 := by kernel_rfl
theorem strT_83 : VM.strT Tryd.prog 83 = false := by kernel_rfl
theorem boolT_83 : VM.boolT Tryd.prog 83 = false := by kernel_rfl
theorem intT_83 : VM.intT Tryd.prog 83 = none := by kernel_rfl
theorem hasT_83 : VM.hasT Tryd.prog 83 = true := by kernel_rfl
theorem aggT_83 : VM.aggT Tryd.prog 83 = some false := by kernel_rfl
theorem zeroT_83 : VM.zeroT Tryd.prog 83 = some [.list true 2 []] := by kernel_rfl
theorem cellsOf_88 : Program.cellsOf Tryd.prog 88 = 1 := by kernel_rfl
theorem bytesOf_88 : Program.bytesOf Tryd.prog 88 = 8 := by kernel_rfl
theorem elemT_88 : VM.elemT Tryd.prog 88 = none := by kernel_rfl
theorem strT_88 : VM.strT Tryd.prog 88 = false := by kernel_rfl
theorem boolT_88 : VM.boolT Tryd.prog 88 = false := by kernel_rfl
theorem intT_88 : VM.intT Tryd.prog 88 = some .u64 := by kernel_rfl
theorem hasT_88 : VM.hasT Tryd.prog 88 = true := by kernel_rfl
theorem aggT_88 : VM.aggT Tryd.prog 88 = some false := by kernel_rfl
theorem zeroT_88 : VM.zeroT Tryd.prog 88 = some [.int .u64 0] := by kernel_rfl
theorem cellsOf_96 : Program.cellsOf Tryd.prog 96 = 2 := by kernel_rfl
theorem bytesOf_96 : Program.bytesOf Tryd.prog 96 = 24 := by kernel_rfl
theorem elemT_96 : VM.elemT Tryd.prog 96 = none := by kernel_rfl
theorem strT_96 : VM.strT Tryd.prog 96 = false := by kernel_rfl
theorem boolT_96 : VM.boolT Tryd.prog 96 = false := by kernel_rfl
theorem intT_96 : VM.intT Tryd.prog 96 = none := by kernel_rfl
theorem hasT_96 : VM.hasT Tryd.prog 96 = true := by kernel_rfl
theorem aggT_96 : VM.aggT Tryd.prog 96 = some true := by kernel_rfl
theorem zeroT_96 : VM.zeroT Tryd.prog 96 = some [.int .i64 0, .str ⟨#[]⟩] := by kernel_rfl
theorem fieldT_96_0 : VM.fieldT Tryd.prog 96 0 = some (0, 3) := by kernel_rfl
theorem fieldT_96_1 : VM.fieldT Tryd.prog 96 1 = some (1, 9) := by kernel_rfl
theorem placesT_96 : VM.placesT Tryd.prog 96 = some [(0, 1, 3), (1, 1, 9)] := by kernel_rfl
theorem flatT_96 : VM.flatT Tryd.prog 96 = some [.int .i64, .string] := by kernel_rfl
theorem cellsOf_97 : Program.cellsOf Tryd.prog 97 = 2 := by kernel_rfl
theorem bytesOf_97 : Program.bytesOf Tryd.prog 97 = 24 := by kernel_rfl
theorem elemT_97 : VM.elemT Tryd.prog 97 = none := by kernel_rfl
theorem strT_97 : VM.strT Tryd.prog 97 = false := by kernel_rfl
theorem boolT_97 : VM.boolT Tryd.prog 97 = false := by kernel_rfl
theorem intT_97 : VM.intT Tryd.prog 97 = none := by kernel_rfl
theorem hasT_97 : VM.hasT Tryd.prog 97 = true := by kernel_rfl
theorem aggT_97 : VM.aggT Tryd.prog 97 = some true := by kernel_rfl
theorem zeroT_97 : VM.zeroT Tryd.prog 97 = some [.int .i64 0, .str ⟨#[]⟩] := by kernel_rfl
theorem fieldT_97_0 : VM.fieldT Tryd.prog 97 0 = some (0, 3) := by kernel_rfl
theorem fieldT_97_1 : VM.fieldT Tryd.prog 97 1 = some (1, 9) := by kernel_rfl
theorem placesT_97 : VM.placesT Tryd.prog 97 = some [(0, 1, 3), (1, 1, 9)] := by kernel_rfl
theorem flatT_97 : VM.flatT Tryd.prog 97 = some [.int .i64, .string] := by kernel_rfl
theorem cellsOf_101 : Program.cellsOf Tryd.prog 101 = 2 := by kernel_rfl
theorem bytesOf_101 : Program.bytesOf Tryd.prog 101 = 2 := by kernel_rfl
theorem elemT_101 : VM.elemT Tryd.prog 101 = none := by kernel_rfl
theorem strT_101 : VM.strT Tryd.prog 101 = false := by kernel_rfl
theorem boolT_101 : VM.boolT Tryd.prog 101 = false := by kernel_rfl
theorem intT_101 : VM.intT Tryd.prog 101 = none := by kernel_rfl
theorem hasT_101 : VM.hasT Tryd.prog 101 = true := by kernel_rfl
theorem aggT_101 : VM.aggT Tryd.prog 101 = some true := by kernel_rfl
theorem zeroT_101 : VM.zeroT Tryd.prog 101 = some [.int .u8 0, .int .u8 0] := by kernel_rfl
theorem fieldT_101_0 : VM.fieldT Tryd.prog 101 0 = some (0, 5) := by kernel_rfl
theorem fieldT_101_1 : VM.fieldT Tryd.prog 101 1 = some (1, 5) := by kernel_rfl
theorem placesT_101 : VM.placesT Tryd.prog 101 = some [(0, 1, 5), (1, 1, 5)] := by kernel_rfl
theorem flatT_101 : VM.flatT Tryd.prog 101 = some [.int .u8, .int .u8] := by kernel_rfl
theorem cellsOf_102 : Program.cellsOf Tryd.prog 102 = 2 := by kernel_rfl
theorem bytesOf_102 : Program.bytesOf Tryd.prog 102 = 2 := by kernel_rfl
theorem elemT_102 : VM.elemT Tryd.prog 102 = none := by kernel_rfl
theorem strT_102 : VM.strT Tryd.prog 102 = false := by kernel_rfl
theorem boolT_102 : VM.boolT Tryd.prog 102 = false := by kernel_rfl
theorem intT_102 : VM.intT Tryd.prog 102 = none := by kernel_rfl
theorem hasT_102 : VM.hasT Tryd.prog 102 = true := by kernel_rfl
theorem aggT_102 : VM.aggT Tryd.prog 102 = some true := by kernel_rfl
theorem zeroT_102 : VM.zeroT Tryd.prog 102 = some [.int .u8 0, .int .u8 0] := by kernel_rfl
theorem fieldT_102_0 : VM.fieldT Tryd.prog 102 0 = some (0, 5) := by kernel_rfl
theorem fieldT_102_1 : VM.fieldT Tryd.prog 102 1 = some (1, 5) := by kernel_rfl
theorem placesT_102 : VM.placesT Tryd.prog 102 = some [(0, 1, 5), (1, 1, 5)] := by kernel_rfl
theorem flatT_102 : VM.flatT Tryd.prog 102 = some [.int .u8, .int .u8] := by kernel_rfl
theorem cellsOf_104 : Program.cellsOf Tryd.prog 104 = 1 := by kernel_rfl
theorem bytesOf_104 : Program.bytesOf Tryd.prog 104 = 4 := by kernel_rfl
theorem elemT_104 : VM.elemT Tryd.prog 104 = none := by kernel_rfl
theorem strT_104 : VM.strT Tryd.prog 104 = false := by kernel_rfl
theorem boolT_104 : VM.boolT Tryd.prog 104 = false := by kernel_rfl
theorem intT_104 : VM.intT Tryd.prog 104 = some .u32 := by kernel_rfl
theorem hasT_104 : VM.hasT Tryd.prog 104 = true := by kernel_rfl
theorem aggT_104 : VM.aggT Tryd.prog 104 = some false := by kernel_rfl
theorem zeroT_104 : VM.zeroT Tryd.prog 104 = some [.int .u32 0] := by kernel_rfl
attribute [go_sem] cellsOf_3 bytesOf_3 elemT_3 strT_3 boolT_3 intT_3 hasT_3 aggT_3 zeroT_3 cellsOf_4 bytesOf_4 elemT_4 strT_4 boolT_4 intT_4 hasT_4 aggT_4 zeroT_4 cellsOf_5 bytesOf_5 elemT_5 strT_5 boolT_5 intT_5 hasT_5 aggT_5 zeroT_5 cellsOf_9 bytesOf_9 elemT_9 strT_9 boolT_9 intT_9 hasT_9 aggT_9 zeroT_9 cellsOf_21 bytesOf_21 elemT_21 strT_21 boolT_21 intT_21 hasT_21 aggT_21 zeroT_21 cellsOf_22 bytesOf_22 elemT_22 strT_22 boolT_22 intT_22 hasT_22 aggT_22 zeroT_22 cellsOf_25 bytesOf_25 elemT_25 strT_25 boolT_25 intT_25 hasT_25 aggT_25 zeroT_25 cellsOf_28 bytesOf_28 elemT_28 strT_28 boolT_28 intT_28 hasT_28 aggT_28 cellsOf_38 bytesOf_38 elemT_38 strT_38 boolT_38 intT_38 hasT_38 aggT_38 zeroT_38 cellsOf_39 bytesOf_39 elemT_39 strT_39 boolT_39 intT_39 hasT_39 aggT_39 zeroT_39 fieldT_39_0 fieldT_39_1 fieldT_39_2 fieldT_39_3 placesT_39 cellsOf_40 bytesOf_40 elemT_40 strT_40 boolT_40 intT_40 hasT_40 aggT_40 zeroT_40 fieldT_40_0 fieldT_40_1 fieldT_40_2 fieldT_40_3 placesT_40 cellsOf_52 bytesOf_52 elemT_52 strT_52 boolT_52 intT_52 hasT_52 aggT_52 zeroT_52 cellsOf_58 bytesOf_58 elemT_58 strT_58 boolT_58 intT_58 hasT_58 aggT_58 zeroT_58 fieldT_58_0 fieldT_58_1 fieldT_58_2 placesT_58 cellsOf_59 bytesOf_59 elemT_59 strT_59 boolT_59 intT_59 hasT_59 aggT_59 zeroT_59 fieldT_59_0 fieldT_59_1 fieldT_59_2 placesT_59 cellsOf_64 bytesOf_64 elemT_64 strT_64 boolT_64 intT_64 hasT_64 aggT_64 zeroT_64 fieldT_64_0 fieldT_64_1 placesT_64 cellsOf_65 bytesOf_65 elemT_65 strT_65 boolT_65 intT_65 hasT_65 aggT_65 zeroT_65 fieldT_65_0 fieldT_65_1 placesT_65 cellsOf_75 bytesOf_75 elemT_75 strT_75 boolT_75 intT_75 hasT_75 aggT_75 zeroT_75 fieldT_75_0 fieldT_75_1 fieldT_75_2 fieldT_75_3 placesT_75 flatT_75 cellsOf_76 bytesOf_76 elemT_76 strT_76 boolT_76 intT_76 hasT_76 aggT_76 zeroT_76 fieldT_76_0 fieldT_76_1 fieldT_76_2 fieldT_76_3 placesT_76 flatT_76 cellsOf_83 bytesOf_83 elemT_83 strT_83 boolT_83 intT_83 hasT_83 aggT_83 zeroT_83 cellsOf_88 bytesOf_88 elemT_88 strT_88 boolT_88 intT_88 hasT_88 aggT_88 zeroT_88 cellsOf_96 bytesOf_96 elemT_96 strT_96 boolT_96 intT_96 hasT_96 aggT_96 zeroT_96 fieldT_96_0 fieldT_96_1 placesT_96 flatT_96 cellsOf_97 bytesOf_97 elemT_97 strT_97 boolT_97 intT_97 hasT_97 aggT_97 zeroT_97 fieldT_97_0 fieldT_97_1 placesT_97 flatT_97 cellsOf_101 bytesOf_101 elemT_101 strT_101 boolT_101 intT_101 hasT_101 aggT_101 zeroT_101 fieldT_101_0 fieldT_101_1 placesT_101 flatT_101 cellsOf_102 bytesOf_102 elemT_102 strT_102 boolT_102 intT_102 hasT_102 aggT_102 zeroT_102 fieldT_102_0 fieldT_102_1 placesT_102 flatT_102 cellsOf_104 bytesOf_104 elemT_104 strT_104 boolT_104 intT_104 hasT_104 aggT_104 zeroT_104
end Go.Proofs.YtdikikcingempaaDoor
