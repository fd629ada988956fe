/- What the machine asks of the program's types. Printed by a program (facts.py). -/
import Derived.Test.YtoenfbbadfcfpaaGreatDoorPVUse
import Derived.Test.YtoenfbbadfcfpaaGreatDoorProg
import Derived.KernelRfl
namespace Go.Proofs.YtoenfbbadfcfpaaGreatDoor
theorem cellsOf_3 : Program.cellsOf Tryz.prog 3 = 1 := by kernel_rfl
theorem bytesOf_3 : Program.bytesOf Tryz.prog 3 = 8 := by kernel_rfl
theorem elemT_3 : VM.elemT Tryz.prog 3 = none := by kernel_rfl
theorem strT_3 : VM.strT Tryz.prog 3 = false := by kernel_rfl
theorem boolT_3 : VM.boolT Tryz.prog 3 = false := by kernel_rfl
theorem intT_3 : VM.intT Tryz.prog 3 = some .i64 := by kernel_rfl
theorem hasT_3 : VM.hasT Tryz.prog 3 = true := by kernel_rfl
theorem aggT_3 : VM.aggT Tryz.prog 3 = some false := by kernel_rfl
theorem zeroT_3 : VM.zeroT Tryz.prog 3 = some [.int .i64 0] := by kernel_rfl
theorem cellsOf_4 : Program.cellsOf Tryz.prog 4 = 1 := by kernel_rfl
theorem bytesOf_4 : Program.bytesOf Tryz.prog 4 = 1 := by kernel_rfl
theorem elemT_4 : VM.elemT Tryz.prog 4 = none := by kernel_rfl
theorem strT_4 : VM.strT Tryz.prog 4 = false := by kernel_rfl
theorem boolT_4 : VM.boolT Tryz.prog 4 = true := by kernel_rfl
theorem intT_4 : VM.intT Tryz.prog 4 = none := by kernel_rfl
theorem hasT_4 : VM.hasT Tryz.prog 4 = true := by kernel_rfl
theorem aggT_4 : VM.aggT Tryz.prog 4 = some false := by kernel_rfl
theorem zeroT_4 : VM.zeroT Tryz.prog 4 = some [.bool false] := by kernel_rfl
theorem cellsOf_5 : Program.cellsOf Tryz.prog 5 = 1 := by kernel_rfl
theorem bytesOf_5 : Program.bytesOf Tryz.prog 5 = 1 := by kernel_rfl
theorem elemT_5 : VM.elemT Tryz.prog 5 = none := by kernel_rfl
theorem strT_5 : VM.strT Tryz.prog 5 = false := by kernel_rfl
theorem boolT_5 : VM.boolT Tryz.prog 5 = false := by kernel_rfl
theorem intT_5 : VM.intT Tryz.prog 5 = some .u8 := by kernel_rfl
theorem hasT_5 : VM.hasT Tryz.prog 5 = true := by kernel_rfl
theorem aggT_5 : VM.aggT Tryz.prog 5 = some false := by kernel_rfl
theorem zeroT_5 : VM.zeroT Tryz.prog 5 = some [.int .u8 0] := by kernel_rfl
theorem cellsOf_9 : Program.cellsOf Tryz.prog 9 = 1 := by kernel_rfl
theorem bytesOf_9 : Program.bytesOf Tryz.prog 9 = 16 := by kernel_rfl
theorem elemT_9 : VM.elemT Tryz.prog 9 = none := by kernel_rfl
theorem strT_9 : VM.strT Tryz.prog 9 = true := by kernel_rfl
theorem boolT_9 : VM.boolT Tryz.prog 9 = false := by kernel_rfl
theorem intT_9 : VM.intT Tryz.prog 9 = none := by kernel_rfl
theorem hasT_9 : VM.hasT Tryz.prog 9 = true := by kernel_rfl
theorem aggT_9 : VM.aggT Tryz.prog 9 = some false := by kernel_rfl
theorem zeroT_9 : VM.zeroT Tryz.prog 9 = some [.str ⟨#[]⟩] := by kernel_rfl
theorem cellsOf_21 : Program.cellsOf Tryz.prog 21 = 1 := by kernel_rfl
theorem bytesOf_21 : Program.bytesOf Tryz.prog 21 = 4 := by kernel_rfl
theorem elemT_21 : VM.elemT Tryz.prog 21 = none := by kernel_rfl
theorem strT_21 : VM.strT Tryz.prog 21 = false := by kernel_rfl
theorem boolT_21 : VM.boolT Tryz.prog 21 = false := by kernel_rfl
theorem intT_21 : VM.intT Tryz.prog 21 = some .i32 := by kernel_rfl
theorem hasT_21 : VM.hasT Tryz.prog 21 = true := by kernel_rfl
theorem aggT_21 : VM.aggT Tryz.prog 21 = some false := by kernel_rfl
theorem zeroT_21 : VM.zeroT Tryz.prog 21 = some [.int .i32 0] := by kernel_rfl
theorem cellsOf_22 : Program.cellsOf Tryz.prog 22 = 1 := by kernel_rfl
theorem bytesOf_22 : Program.bytesOf Tryz.prog 22 = 24 := by kernel_rfl
theorem elemT_22 : VM.elemT Tryz.prog 22 = some 53 := by kernel_rfl
theorem strT_22 : VM.strT Tryz.prog 22 = false := by kernel_rfl
theorem boolT_22 : VM.boolT Tryz.prog 22 = false := by kernel_rfl
theorem intT_22 : VM.intT Tryz.prog 22 = none := by kernel_rfl
theorem hasT_22 : VM.hasT Tryz.prog 22 = true := by kernel_rfl
theorem aggT_22 : VM.aggT Tryz.prog 22 = some false := by kernel_rfl
theorem zeroT_22 : VM.zeroT Tryz.prog 22 = some [.list true 3 []] := by kernel_rfl
theorem cellsOf_23 : Program.cellsOf Tryz.prog 23 = 4 := by kernel_rfl
theorem bytesOf_23 : Program.bytesOf Tryz.prog 23 = 56 := by kernel_rfl
theorem elemT_23 : VM.elemT Tryz.prog 23 = none := by kernel_rfl
theorem strT_23 : VM.strT Tryz.prog 23 = false := by kernel_rfl
theorem boolT_23 : VM.boolT Tryz.prog 23 = false := by kernel_rfl
theorem intT_23 : VM.intT Tryz.prog 23 = none := by kernel_rfl
theorem hasT_23 : VM.hasT Tryz.prog 23 = true := by kernel_rfl
theorem aggT_23 : VM.aggT Tryz.prog 23 = some true := by kernel_rfl
theorem zeroT_23 : VM.zeroT Tryz.prog 23 = some [.int .i64 0, .str ⟨#[]⟩, .str ⟨#[]⟩, .str ⟨#[]⟩] := by kernel_rfl
theorem fieldT_23_0 : VM.fieldT Tryz.prog 23 0 = some (0, 3) := by kernel_rfl
theorem fieldT_23_1 : VM.fieldT Tryz.prog 23 1 = some (1, 9) := by kernel_rfl
theorem fieldT_23_2 : VM.fieldT Tryz.prog 23 2 = some (2, 9) := by kernel_rfl
theorem fieldT_23_3 : VM.fieldT Tryz.prog 23 3 = some (3, 9) := by kernel_rfl
theorem placesT_23 : VM.placesT Tryz.prog 23 = some [(0, 1, 3), (1, 1, 9), (2, 1, 9), (3, 1, 9)] := by kernel_rfl
theorem flatT_23 : VM.flatT Tryz.prog 23 = some [.int .i64, .string, .string, .string] := by kernel_rfl
theorem cellsOf_24 : Program.cellsOf Tryz.prog 24 = 4 := by kernel_rfl
theorem bytesOf_24 : Program.bytesOf Tryz.prog 24 = 56 := by kernel_rfl
theorem elemT_24 : VM.elemT Tryz.prog 24 = none := by kernel_rfl
theorem strT_24 : VM.strT Tryz.prog 24 = false := by kernel_rfl
theorem boolT_24 : VM.boolT Tryz.prog 24 = false := by kernel_rfl
theorem intT_24 : VM.intT Tryz.prog 24 = none := by kernel_rfl
theorem hasT_24 : VM.hasT Tryz.prog 24 = true := by kernel_rfl
theorem aggT_24 : VM.aggT Tryz.prog 24 = some true := by kernel_rfl
theorem zeroT_24 : VM.zeroT Tryz.prog 24 = some [.int .i64 0, .str ⟨#[]⟩, .str ⟨#[]⟩, .str ⟨#[]⟩] := by kernel_rfl
theorem fieldT_24_0 : VM.fieldT Tryz.prog 24 0 = some (0, 3) := by kernel_rfl
theorem fieldT_24_1 : VM.fieldT Tryz.prog 24 1 = some (1, 9) := by kernel_rfl
theorem fieldT_24_2 : VM.fieldT Tryz.prog 24 2 = some (2, 9) := by kernel_rfl
theorem fieldT_24_3 : VM.fieldT Tryz.prog 24 3 = some (3, 9) := by kernel_rfl
theorem placesT_24 : VM.placesT Tryz.prog 24 = some [(0, 1, 3), (1, 1, 9), (2, 1, 9), (3, 1, 9)] := by kernel_rfl
theorem flatT_24 : VM.flatT Tryz.prog 24 = some [.int .i64, .string, .string, .string] := by kernel_rfl
theorem cellsOf_27 : Program.cellsOf Tryz.prog 27 = 1 := by kernel_rfl
theorem bytesOf_27 : Program.bytesOf Tryz.prog 27 = 24 := by kernel_rfl
theorem elemT_27 : VM.elemT Tryz.prog 27 = some 51 := by kernel_rfl
theorem strT_27 : VM.strT Tryz.prog 27 = false := by kernel_rfl
theorem boolT_27 : VM.boolT Tryz.prog 27 = false := by kernel_rfl
theorem intT_27 : VM.intT Tryz.prog 27 = none := by kernel_rfl
theorem hasT_27 : VM.hasT Tryz.prog 27 = true := by kernel_rfl
theorem aggT_27 : VM.aggT Tryz.prog 27 = some false := by kernel_rfl
theorem zeroT_27 : VM.zeroT Tryz.prog 27 = some [.list true 3 []] := by kernel_rfl
theorem cellsOf_31 : Program.cellsOf Tryz.prog 31 = 4 := by kernel_rfl
theorem bytesOf_31 : Program.bytesOf Tryz.prog 31 = 56 := by kernel_rfl
theorem elemT_31 : VM.elemT Tryz.prog 31 = none := by kernel_rfl
theorem strT_31 : VM.strT Tryz.prog 31 = false := by kernel_rfl
theorem boolT_31 : VM.boolT Tryz.prog 31 = false := by kernel_rfl
theorem intT_31 : VM.intT Tryz.prog 31 = none := by kernel_rfl
theorem hasT_31 : VM.hasT Tryz.prog 31 = true := by kernel_rfl
theorem aggT_31 : VM.aggT Tryz.prog 31 = some true := by kernel_rfl
theorem zeroT_31 : VM.zeroT Tryz.prog 31 = some [.int .i64 0, .str ⟨#[]⟩, .str ⟨#[]⟩, .str ⟨#[]⟩] := by kernel_rfl
theorem fieldT_31_0 : VM.fieldT Tryz.prog 31 0 = some (0, 3) := by kernel_rfl
theorem fieldT_31_1 : VM.fieldT Tryz.prog 31 1 = some (1, 9) := by kernel_rfl
theorem fieldT_31_2 : VM.fieldT Tryz.prog 31 2 = some (2, 9) := by kernel_rfl
theorem fieldT_31_3 : VM.fieldT Tryz.prog 31 3 = some (3, 9) := by kernel_rfl
theorem placesT_31 : VM.placesT Tryz.prog 31 = some [(0, 1, 3), (1, 1, 9), (2, 1, 9), (3, 1, 9)] := by kernel_rfl
theorem flatT_31 : VM.flatT Tryz.prog 31 = some [.int .i64, .string, .string, .string] := by kernel_rfl
theorem cellsOf_36 : Program.cellsOf Tryz.prog 36 = 1 := by kernel_rfl
theorem bytesOf_36 : Program.bytesOf Tryz.prog 36 = 24 := by kernel_rfl
theorem elemT_36 : VM.elemT Tryz.prog 36 = some 5 := by kernel_rfl
theorem strT_36 : VM.strT Tryz.prog 36 = false := by kernel_rfl
theorem boolT_36 : VM.boolT Tryz.prog 36 = false := by kernel_rfl
theorem intT_36 : VM.intT Tryz.prog 36 = none := by kernel_rfl
theorem hasT_36 : VM.hasT Tryz.prog 36 = true := by kernel_rfl
theorem aggT_36 : VM.aggT Tryz.prog 36 = some false := by kernel_rfl
theorem zeroT_36 : VM.zeroT Tryz.prog 36 = some [.list true 1 []] := by kernel_rfl
theorem cellsOf_39 : Program.cellsOf Tryz.prog 39 = 1 := by kernel_rfl
theorem bytesOf_39 : Program.bytesOf Tryz.prog 39 = 24 := by kernel_rfl
theorem elemT_39 : VM.elemT Tryz.prog 39 = some 9 := by kernel_rfl
theorem strT_39 : VM.strT Tryz.prog 39 = false := by kernel_rfl
theorem boolT_39 : VM.boolT Tryz.prog 39 = false := by kernel_rfl
theorem intT_39 : VM.intT Tryz.prog 39 = none := by kernel_rfl
theorem hasT_39 : VM.hasT Tryz.prog 39 = true := by kernel_rfl
theorem aggT_39 : VM.aggT Tryz.prog 39 = some false := by kernel_rfl
theorem zeroT_39 : VM.zeroT Tryz.prog 39 = some [.list true 1 []] := by kernel_rfl
theorem cellsOf_50 : Program.cellsOf Tryz.prog 50 = 3 := by kernel_rfl
theorem bytesOf_50 : Program.bytesOf Tryz.prog 50 = 40 := by kernel_rfl
theorem elemT_50 : VM.elemT Tryz.prog 50 = none := by kernel_rfl
theorem strT_50 : VM.strT Tryz.prog 50 = false := by kernel_rfl
theorem boolT_50 : VM.boolT Tryz.prog 50 = false := by kernel_rfl
theorem intT_50 : VM.intT Tryz.prog 50 = none := by kernel_rfl
theorem hasT_50 : VM.hasT Tryz.prog 50 = true := by kernel_rfl
theorem aggT_50 : VM.aggT Tryz.prog 50 = some true := by kernel_rfl
theorem zeroT_50 : VM.zeroT Tryz.prog 50 = some [.str ⟨#[]⟩, .bool false, .str ⟨#[]⟩] := by kernel_rfl
theorem fieldT_50_0 : VM.fieldT Tryz.prog 50 0 = some (0, 9) := by kernel_rfl
theorem fieldT_50_1 : VM.fieldT Tryz.prog 50 1 = some (1, 4) := by kernel_rfl
theorem fieldT_50_2 : VM.fieldT Tryz.prog 50 2 = some (2, 9) := by kernel_rfl
theorem placesT_50 : VM.placesT Tryz.prog 50 = some [(0, 1, 9), (1, 1, 4), (2, 1, 9)] := by kernel_rfl
theorem flatT_50 : VM.flatT Tryz.prog 50 = some [.string, .bool, .string] := by kernel_rfl
theorem cellsOf_51 : Program.cellsOf Tryz.prog 51 = 3 := by kernel_rfl
theorem bytesOf_51 : Program.bytesOf Tryz.prog 51 = 40 := by kernel_rfl
theorem elemT_51 : VM.elemT Tryz.prog 51 = none := by kernel_rfl
theorem strT_51 : VM.strT Tryz.prog 51 = false := by kernel_rfl
theorem boolT_51 : VM.boolT Tryz.prog 51 = false := by kernel_rfl
theorem intT_51 : VM.intT Tryz.prog 51 = none := by kernel_rfl
theorem hasT_51 : VM.hasT Tryz.prog 51 = true := by kernel_rfl
theorem aggT_51 : VM.aggT Tryz.prog 51 = some true := by kernel_rfl
theorem zeroT_51 : VM.zeroT Tryz.prog 51 = some [.str ⟨#[]⟩, .bool false, .str ⟨#[]⟩] := by kernel_rfl
theorem fieldT_51_0 : VM.fieldT Tryz.prog 51 0 = some (0, 9) := by kernel_rfl
theorem fieldT_51_1 : VM.fieldT Tryz.prog 51 1 = some (1, 4) := by kernel_rfl
theorem fieldT_51_2 : VM.fieldT Tryz.prog 51 2 = some (2, 9) := by kernel_rfl
theorem placesT_51 : VM.placesT Tryz.prog 51 = some [(0, 1, 9), (1, 1, 4), (2, 1, 9)] := by kernel_rfl
theorem flatT_51 : VM.flatT Tryz.prog 51 = some [.string, .bool, .string] := by kernel_rfl
theorem cellsOf_53 : Program.cellsOf Tryz.prog 53 = 3 := by kernel_rfl
theorem bytesOf_53 : Program.bytesOf Tryz.prog 53 = 40 := by kernel_rfl
theorem elemT_53 : VM.elemT Tryz.prog 53 = none := by kernel_rfl
theorem strT_53 : VM.strT Tryz.prog 53 = false := by kernel_rfl
theorem boolT_53 : VM.boolT Tryz.prog 53 = false := by kernel_rfl
theorem intT_53 : VM.intT Tryz.prog 53 = none := by kernel_rfl
theorem hasT_53 : VM.hasT Tryz.prog 53 = true := by kernel_rfl
theorem aggT_53 : VM.aggT Tryz.prog 53 = some true := by kernel_rfl
theorem zeroT_53 : VM.zeroT Tryz.prog 53 = some [.str ⟨#[]⟩, .bool false, .str ⟨#[]⟩] := by kernel_rfl
theorem fieldT_53_0 : VM.fieldT Tryz.prog 53 0 = some (0, 9) := by kernel_rfl
theorem fieldT_53_1 : VM.fieldT Tryz.prog 53 1 = some (1, 4) := by kernel_rfl
theorem fieldT_53_2 : VM.fieldT Tryz.prog 53 2 = some (2, 9) := by kernel_rfl
theorem placesT_53 : VM.placesT Tryz.prog 53 = some [(0, 1, 9), (1, 1, 4), (2, 1, 9)] := by kernel_rfl
theorem flatT_53 : VM.flatT Tryz.prog 53 = some [.string, .bool, .string] := by kernel_rfl
theorem cellsOf_69 : Program.cellsOf Tryz.prog 69 = 1 := by kernel_rfl
theorem bytesOf_69 : Program.bytesOf Tryz.prog 69 = 8 := by kernel_rfl
theorem elemT_69 : VM.elemT Tryz.prog 69 = none := by kernel_rfl
theorem strT_69 : VM.strT Tryz.prog 69 = false := by kernel_rfl
theorem boolT_69 : VM.boolT Tryz.prog 69 = false := by kernel_rfl
theorem intT_69 : VM.intT Tryz.prog 69 = none := by kernel_rfl
theorem hasT_69 : VM.hasT Tryz.prog 69 = true := by kernel_rfl
theorem aggT_69 : VM.aggT Tryz.prog 69 = some false := by kernel_rfl
theorem cellsOf_79 : Program.cellsOf Tryz.prog 79 = 1 := by kernel_rfl
theorem bytesOf_79 : Program.bytesOf Tryz.prog 79 = 8 := by kernel_rfl
theorem elemT_79 : VM.elemT Tryz.prog 79 = none := by kernel_rfl
theorem strT_79 : VM.strT Tryz.prog 79 = false := by kernel_rfl
theorem boolT_79 : VM.boolT Tryz.prog 79 = false := by kernel_rfl
theorem intT_79 : VM.intT Tryz.prog 79 = none := by kernel_rfl
theorem hasT_79 : VM.hasT Tryz.prog 79 = true := by kernel_rfl
theorem aggT_79 : VM.aggT Tryz.prog 79 = some false := by kernel_rfl
theorem cellsOf_85 : Program.cellsOf Tryz.prog 85 = 1 := by kernel_rfl
theorem bytesOf_85 : Program.bytesOf Tryz.prog 85 = 24 := by kernel_rfl
theorem elemT_85 : VM.elemT Tryz.prog 85 = some 4 := by kernel_rfl
theorem strT_85 : VM.strT Tryz.prog 85 = false := by kernel_rfl
theorem boolT_85 : VM.boolT Tryz.prog 85 = false := by kernel_rfl
theorem intT_85 : VM.intT Tryz.prog 85 = none := by kernel_rfl
theorem hasT_85 : VM.hasT Tryz.prog 85 = true := by kernel_rfl
theorem aggT_85 : VM.aggT Tryz.prog 85 = some false := by kernel_rfl
theorem zeroT_85 : VM.zeroT Tryz.prog 85 = some [.list true 1 []] := by kernel_rfl
theorem cellsOf_86 : Program.cellsOf Tryz.prog 86 = 2 := by kernel_rfl
theorem bytesOf_86 : Program.bytesOf Tryz.prog 86 = 48 := by kernel_rfl
theorem elemT_86 : VM.elemT Tryz.prog 86 = none := by kernel_rfl
theorem strT_86 : VM.strT Tryz.prog 86 = false := by kernel_rfl
theorem boolT_86 : VM.boolT Tryz.prog 86 = false := by kernel_rfl
theorem intT_86 : VM.intT Tryz.prog 86 = none := by kernel_rfl
theorem hasT_86 : VM.hasT Tryz.prog 86 = true := by kernel_rfl
theorem aggT_86 : VM.aggT Tryz.prog 86 = some true := by kernel_rfl
theorem zeroT_86 : VM.zeroT Tryz.prog 86 = some [.list true 1 [], .list true 1 []] := by kernel_rfl
theorem fieldT_86_0 : VM.fieldT Tryz.prog 86 0 = some (0, 39) := by kernel_rfl
theorem fieldT_86_1 : VM.fieldT Tryz.prog 86 1 = some (1, 85) := by kernel_rfl
theorem placesT_86 : VM.placesT Tryz.prog 86 = some [(0, 1, 39), (1, 1, 85)] := by kernel_rfl
theorem cellsOf_87 : Program.cellsOf Tryz.prog 87 = 2 := by kernel_rfl
theorem bytesOf_87 : Program.bytesOf Tryz.prog 87 = 48 := by kernel_rfl
theorem elemT_87 : VM.elemT Tryz.prog 87 = none := by kernel_rfl
theorem strT_87 : VM.strT Tryz.prog 87 = false := by kernel_rfl
theorem boolT_87 : VM.boolT Tryz.prog 87 = false := by kernel_rfl
theorem intT_87 : VM.intT Tryz.prog 87 = none := by kernel_rfl
theorem hasT_87 : VM.hasT Tryz.prog 87 = true := by kernel_rfl
theorem aggT_87 : VM.aggT Tryz.prog 87 = some true := by kernel_rfl
theorem zeroT_87 : VM.zeroT Tryz.prog 87 = some [.list true 1 [], .list true 1 []] := by kernel_rfl
theorem fieldT_87_0 : VM.fieldT Tryz.prog 87 0 = some (0, 39) := by kernel_rfl
theorem fieldT_87_1 : VM.fieldT Tryz.prog 87 1 = some (1, 85) := by kernel_rfl
theorem placesT_87 : VM.placesT Tryz.prog 87 = some [(0, 1, 39), (1, 1, 85)] := by kernel_rfl
theorem cellsOf_89 : Program.cellsOf Tryz.prog 89 = 1 := by kernel_rfl
theorem bytesOf_89 : Program.bytesOf Tryz.prog 89 = 24 := by kernel_rfl
theorem elemT_89 : VM.elemT Tryz.prog 89 = some 3 := by kernel_rfl
theorem strT_89 : VM.strT Tryz.prog 89 = false := by kernel_rfl
theorem boolT_89 : VM.boolT Tryz.prog 89 = false := by kernel_rfl
theorem intT_89 : VM.intT Tryz.prog 89 = none := by kernel_rfl
theorem hasT_89 : VM.hasT Tryz.prog 89 = true := by kernel_rfl
theorem aggT_89 : VM.aggT Tryz.prog 89 = some false := by kernel_rfl
theorem zeroT_89 : VM.zeroT Tryz.prog 89 = some [.list true 1 []] := by kernel_rfl
theorem cellsOf_90 : Program.cellsOf Tryz.prog 90 = 4 := by kernel_rfl
theorem bytesOf_90 : Program.bytesOf Tryz.prog 90 = 72 := by kernel_rfl
theorem elemT_90 : VM.elemT Tryz.prog 90 = none := by kernel_rfl
theorem strT_90 : VM.strT Tryz.prog 90 = false := by kernel_rfl
theorem boolT_90 : VM.boolT Tryz.prog 90 = false := by kernel_rfl
theorem intT_90 : VM.intT Tryz.prog 90 = none := by kernel_rfl
theorem hasT_90 : VM.hasT Tryz.prog 90 = true := by kernel_rfl
theorem aggT_90 : VM.aggT Tryz.prog 90 = some true := by kernel_rfl
theorem zeroT_90 : VM.zeroT Tryz.prog 90 = some [.bool false, .list true 1 [], .list true 1 [], .str ⟨#[]⟩] := by kernel_rfl
theorem fieldT_90_0 : VM.fieldT Tryz.prog 90 0 = some (0, 4) := by kernel_rfl
theorem fieldT_90_1 : VM.fieldT Tryz.prog 90 1 = some (1, 39) := by kernel_rfl
theorem fieldT_90_2 : VM.fieldT Tryz.prog 90 2 = some (2, 89) := by kernel_rfl
theorem fieldT_90_3 : VM.fieldT Tryz.prog 90 3 = some (3, 9) := by kernel_rfl
theorem placesT_90 : VM.placesT Tryz.prog 90 = some [(0, 1, 4), (1, 1, 39), (2, 1, 89), (3, 1, 9)] := by kernel_rfl
theorem cellsOf_91 : Program.cellsOf Tryz.prog 91 = 4 := by kernel_rfl
theorem bytesOf_91 : Program.bytesOf Tryz.prog 91 = 72 := by kernel_rfl
theorem elemT_91 : VM.elemT Tryz.prog 91 = none := by kernel_rfl
theorem strT_91 : VM.strT Tryz.prog 91 = false := by kernel_rfl
theorem boolT_91 : VM.boolT Tryz.prog 91 = false := by kernel_rfl
theorem intT_91 : VM.intT Tryz.prog 91 = none := by kernel_rfl
theorem hasT_91 : VM.hasT Tryz.prog 91 = true := by kernel_rfl
theorem aggT_91 : VM.aggT Tryz.prog 91 = some true := by kernel_rfl
theorem zeroT_91 : VM.zeroT Tryz.prog 91 = some [.bool false, .list true 1 [], .list true 1 [], .str ⟨#[]⟩] := by kernel_rfl
theorem fieldT_91_0 : VM.fieldT Tryz.prog 91 0 = some (0, 4) := by kernel_rfl
theorem fieldT_91_1 : VM.fieldT Tryz.prog 91 1 = some (1, 39) := by kernel_rfl
theorem fieldT_91_2 : VM.fieldT Tryz.prog 91 2 = some (2, 89) := by kernel_rfl
theorem fieldT_91_3 : VM.fieldT Tryz.prog 91 3 = some (3, 9) := by kernel_rfl
theorem placesT_91 : VM.placesT Tryz.prog 91 = some [(0, 1, 4), (1, 1, 39), (2, 1, 89), (3, 1, 9)] := by kernel_rfl
theorem cellsOf_96 : Program.cellsOf Tryz.prog 96 = 3 := by kernel_rfl
theorem bytesOf_96 : Program.bytesOf Tryz.prog 96 = 40 := by kernel_rfl
theorem elemT_96 : VM.elemT Tryz.prog 96 = none := by kernel_rfl
theorem strT_96 : VM.strT Tryz.prog 96 = false := by kernel_rfl
theorem boolT_96 : VM.boolT Tryz.prog 96 = false := by kernel_rfl
theorem intT_96 : VM.intT Tryz.prog 96 = none := by kernel_rfl
theorem hasT_96 : VM.hasT Tryz.prog 96 = true := by kernel_rfl
theorem aggT_96 : VM.aggT Tryz.prog 96 = some true := by kernel_rfl
theorem zeroT_96 : VM.zeroT Tryz.prog 96 = some [.list true 1 [], .int .i64 0, .int .i64 0] := by kernel_rfl
theorem fieldT_96_0 : VM.fieldT Tryz.prog 96 0 = some (0, 36) := by kernel_rfl
theorem fieldT_96_1 : VM.fieldT Tryz.prog 96 1 = some (1, 3) := by kernel_rfl
theorem fieldT_96_2 : VM.fieldT Tryz.prog 96 2 = some (2, 3) := by kernel_rfl
theorem placesT_96 : VM.placesT Tryz.prog 96 = some [(0, 1, 36), (1, 1, 3), (2, 1, 3)] := by kernel_rfl
theorem cellsOf_97 : Program.cellsOf Tryz.prog 97 = 3 := by kernel_rfl
theorem bytesOf_97 : Program.bytesOf Tryz.prog 97 = 40 := by kernel_rfl
theorem elemT_97 : VM.elemT Tryz.prog 97 = none := by kernel_rfl
theorem strT_97 : VM.strT Tryz.prog 97 = false := by kernel_rfl
theorem boolT_97 : VM.boolT Tryz.prog 97 = false := by kernel_rfl
theorem intT_97 : VM.intT Tryz.prog 97 = none := by kernel_rfl
theorem hasT_97 : VM.hasT Tryz.prog 97 = true := by kernel_rfl
theorem aggT_97 : VM.aggT Tryz.prog 97 = some true := by kernel_rfl
theorem zeroT_97 : VM.zeroT Tryz.prog 97 = some [.list true 1 [], .int .i64 0, .int .i64 0] := by kernel_rfl
theorem fieldT_97_0 : VM.fieldT Tryz.prog 97 0 = some (0, 36) := by kernel_rfl
theorem fieldT_97_1 : VM.fieldT Tryz.prog 97 1 = some (1, 3) := by kernel_rfl
theorem fieldT_97_2 : VM.fieldT Tryz.prog 97 2 = some (2, 3) := by kernel_rfl
theorem placesT_97 : VM.placesT Tryz.prog 97 = some [(0, 1, 36), (1, 1, 3), (2, 1, 3)] := by kernel_rfl
theorem cellsOf_121 : Program.cellsOf Tryz.prog 121 = 1 := by kernel_rfl
theorem bytesOf_121 : Program.bytesOf Tryz.prog 121 = 8 := by kernel_rfl
theorem elemT_121 : VM.elemT Tryz.prog 121 = none := by kernel_rfl
theorem strT_121 : VM.strT Tryz.prog 121 = false := by kernel_rfl
theorem boolT_121 : VM.boolT Tryz.prog 121 = false := by kernel_rfl
theorem intT_121 : VM.intT Tryz.prog 121 = some .u64 := by kernel_rfl
theorem hasT_121 : VM.hasT Tryz.prog 121 = true := by kernel_rfl
theorem aggT_121 : VM.aggT Tryz.prog 121 = some false := by kernel_rfl
theorem zeroT_121 : VM.zeroT Tryz.prog 121 = some [.int .u64 0] := by kernel_rfl
theorem cellsOf_124 : Program.cellsOf Tryz.prog 124 = 2 := by kernel_rfl
theorem bytesOf_124 : Program.bytesOf Tryz.prog 124 = 32 := by kernel_rfl
theorem elemT_124 : VM.elemT Tryz.prog 124 = none := by kernel_rfl
theorem strT_124 : VM.strT Tryz.prog 124 = false := by kernel_rfl
theorem boolT_124 : VM.boolT Tryz.prog 124 = false := by kernel_rfl
theorem intT_124 : VM.intT Tryz.prog 124 = none := by kernel_rfl
theorem hasT_124 : VM.hasT Tryz.prog 124 = true := by kernel_rfl
theorem aggT_124 : VM.aggT Tryz.prog 124 = some true := by kernel_rfl
theorem fieldT_124_0 : VM.fieldT Tryz.prog 124 0 = some (0, 123) := by kernel_rfl
theorem fieldT_124_1 : VM.fieldT Tryz.prog 124 1 = some (1, 36) := by kernel_rfl
theorem placesT_124 : VM.placesT Tryz.prog 124 = some [(0, 1, 123), (1, 1, 36)] := by kernel_rfl
theorem cellsOf_125 : Program.cellsOf Tryz.prog 125 = 2 := by kernel_rfl
theorem bytesOf_125 : Program.bytesOf Tryz.prog 125 = 32 := by kernel_rfl
theorem elemT_125 : VM.elemT Tryz.prog 125 = none := by kernel_rfl
theorem strT_125 : VM.strT Tryz.prog 125 = false := by kernel_rfl
theorem boolT_125 : VM.boolT Tryz.prog 125 = false := by kernel_rfl
theorem intT_125 : VM.intT Tryz.prog 125 = none := by kernel_rfl
theorem hasT_125 : VM.hasT Tryz.prog 125 = true := by kernel_rfl
theorem aggT_125 : VM.aggT Tryz.prog 125 = some true := by kernel_rfl
theorem fieldT_125_0 : VM.fieldT Tryz.prog 125 0 = some (0, 123) := by kernel_rfl
theorem fieldT_125_1 : VM.fieldT Tryz.prog 125 1 = some (1, 36) := by kernel_rfl
theorem placesT_125 : VM.placesT Tryz.prog 125 = some [(0, 1, 123), (1, 1, 36)] := by kernel_rfl
theorem cellsOf_132 : Program.cellsOf Tryz.prog 132 = 1 := by kernel_rfl
theorem bytesOf_132 : Program.bytesOf Tryz.prog 132 = 24 := by kernel_rfl
theorem elemT_132 : VM.elemT Tryz.prog 132 = some 157 := by kernel_rfl
theorem strT_132 : VM.strT Tryz.prog 132 = false := by kernel_rfl
theorem boolT_132 : VM.boolT Tryz.prog 132 = false := by kernel_rfl
theorem intT_132 : VM.intT Tryz.prog 132 = none := by kernel_rfl
theorem hasT_132 : VM.hasT Tryz.prog 132 = true := by kernel_rfl
theorem aggT_132 : VM.aggT Tryz.prog 132 = some false := by kernel_rfl
theorem zeroT_132 : VM.zeroT Tryz.prog 132 = some [.list true 2 []] := by kernel_rfl
theorem cellsOf_141 : Program.cellsOf Tryz.prog 141 = 1 := by kernel_rfl
theorem bytesOf_141 : Program.bytesOf Tryz.prog 141 = 8 := by kernel_rfl
theorem elemT_141 : VM.elemT Tryz.prog 141 = none := by kernel_rfl
theorem strT_141 : VM.strT Tryz.prog 141 = false := by kernel_rfl
theorem boolT_141 : VM.boolT Tryz.prog 141 = false := by kernel_rfl
theorem intT_141 : VM.intT Tryz.prog 141 = some .i64 := by kernel_rfl
theorem hasT_141 : VM.hasT Tryz.prog 141 = true := by kernel_rfl
theorem aggT_141 : VM.aggT Tryz.prog 141 = some false := by kernel_rfl
theorem zeroT_141 : VM.zeroT Tryz.prog 141 = some [.int .i64 0] := by kernel_rfl
theorem cellsOf_149 : Program.cellsOf Tryz.prog 149 = 1 := by kernel_rfl
theorem bytesOf_149 : Program.bytesOf Tryz.prog 149 = 4 := by kernel_rfl
theorem elemT_149 : VM.elemT Tryz.prog 149 = none := by kernel_rfl
theorem strT_149 : VM.strT Tryz.prog 149 = false := by kernel_rfl
theorem boolT_149 : VM.boolT Tryz.prog 149 = false := by kernel_rfl
theorem intT_149 : VM.intT Tryz.prog 149 = some .u32 := by kernel_rfl
theorem hasT_149 : VM.hasT Tryz.prog 149 = true := by kernel_rfl
theorem aggT_149 : VM.aggT Tryz.prog 149 = some false := by kernel_rfl
theorem zeroT_149 : VM.zeroT Tryz.prog 149 = some [.int .u32 0] := by kernel_rfl
theorem cellsOf_151 : Program.cellsOf Tryz.prog 151 = 1 := by kernel_rfl
theorem bytesOf_151 : Program.bytesOf Tryz.prog 151 = 8 := by kernel_rfl
theorem elemT_151 : VM.elemT Tryz.prog 151 = none := by kernel_rfl
theorem strT_151 : VM.strT Tryz.prog 151 = false := by kernel_rfl
theorem boolT_151 : VM.boolT Tryz.prog 151 = false := by kernel_rfl
theorem intT_151 : VM.intT Tryz.prog 151 = some .u64 := by kernel_rfl
theorem hasT_151 : VM.hasT Tryz.prog 151 = true := by kernel_rfl
theorem aggT_151 : VM.aggT Tryz.prog 151 = some false := by kernel_rfl
theorem zeroT_151 : VM.zeroT Tryz.prog 151 = some [.int .u64 0] := by kernel_rfl
theorem cellsOf_156 : Program.cellsOf Tryz.prog 156 = 2 := by kernel_rfl
theorem bytesOf_156 : Program.bytesOf Tryz.prog 156 = 24 := by kernel_rfl
theorem elemT_156 : VM.elemT Tryz.prog 156 = none := by kernel_rfl
theorem strT_156 : VM.strT Tryz.prog 156 = false := by kernel_rfl
theorem boolT_156 : VM.boolT Tryz.prog 156 = false := by kernel_rfl
theorem intT_156 : VM.intT Tryz.prog 156 = none := by kernel_rfl
theorem hasT_156 : VM.hasT Tryz.prog 156 = true := by kernel_rfl
theorem aggT_156 : VM.aggT Tryz.prog 156 = some true := by kernel_rfl
theorem zeroT_156 : VM.zeroT Tryz.prog 156 = some [.int .i64 0, .str ⟨#[]⟩] := by kernel_rfl
theorem fieldT_156_0 : VM.fieldT Tryz.prog 156 0 = some (0, 3) := by kernel_rfl
theorem fieldT_156_1 : VM.fieldT Tryz.prog 156 1 = some (1, 9) := by kernel_rfl
theorem placesT_156 : VM.placesT Tryz.prog 156 = some [(0, 1, 3), (1, 1, 9)] := by kernel_rfl
theorem flatT_156 : VM.flatT Tryz.prog 156 = some [.int .i64, .string] := by kernel_rfl
theorem cellsOf_157 : Program.cellsOf Tryz.prog 157 = 2 := by kernel_rfl
theorem bytesOf_157 : Program.bytesOf Tryz.prog 157 = 24 := by kernel_rfl
theorem elemT_157 : VM.elemT Tryz.prog 157 = none := by kernel_rfl
theorem strT_157 : VM.strT Tryz.prog 157 = false := by kernel_rfl
theorem boolT_157 : VM.boolT Tryz.prog 157 = false := by kernel_rfl
theorem intT_157 : VM.intT Tryz.prog 157 = none := by kernel_rfl
theorem hasT_157 : VM.hasT Tryz.prog 157 = true := by kernel_rfl
theorem aggT_157 : VM.aggT Tryz.prog 157 = some true := by kernel_rfl
theorem zeroT_157 : VM.zeroT Tryz.prog 157 = some [.int .i64 0, .str ⟨#[]⟩] := by kernel_rfl
theorem fieldT_157_0 : VM.fieldT Tryz.prog 157 0 = some (0, 3) := by kernel_rfl
theorem fieldT_157_1 : VM.fieldT Tryz.prog 157 1 = some (1, 9) := by kernel_rfl
theorem placesT_157 : VM.placesT Tryz.prog 157 = some [(0, 1, 3), (1, 1, 9)] := by kernel_rfl
theorem flatT_157 : VM.flatT Tryz.prog 157 = some [.int .i64, .string] := by kernel_rfl
theorem cellsOf_164 : Program.cellsOf Tryz.prog 164 = 1 := by kernel_rfl
theorem bytesOf_164 : Program.bytesOf Tryz.prog 164 = 8 := by kernel_rfl
theorem elemT_164 : VM.elemT Tryz.prog 164 = none := by kernel_rfl
theorem strT_164 : VM.strT Tryz.prog 164 = false := by kernel_rfl
theorem boolT_164 : VM.boolT Tryz.prog 164 = false := by kernel_rfl
theorem intT_164 : VM.intT Tryz.prog 164 = some .u64 := by kernel_rfl
theorem hasT_164 : VM.hasT Tryz.prog 164 = true := by kernel_rfl
theorem aggT_164 : VM.aggT Tryz.prog 164 = some false := by kernel_rfl
theorem zeroT_164 : VM.zeroT Tryz.prog 164 = some [.int .u64 0] := by kernel_rfl
theorem cellsOf_185 : Program.cellsOf Tryz.prog 185 = 2 := by kernel_rfl
theorem bytesOf_185 : Program.bytesOf Tryz.prog 185 = 2 := by kernel_rfl
theorem elemT_185 : VM.elemT Tryz.prog 185 = none := by kernel_rfl
theorem strT_185 : VM.strT Tryz.prog 185 = false := by kernel_rfl
theorem boolT_185 : VM.boolT Tryz.prog 185 = false := by kernel_rfl
theorem intT_185 : VM.intT Tryz.prog 185 = none := by kernel_rfl
theorem hasT_185 : VM.hasT Tryz.prog 185 = true := by kernel_rfl
theorem aggT_185 : VM.aggT Tryz.prog 185 = some true := by kernel_rfl
theorem zeroT_185 : VM.zeroT Tryz.prog 185 = some [.int .u8 0, .int .u8 0] := by kernel_rfl
theorem fieldT_185_0 : VM.fieldT Tryz.prog 185 0 = some (0, 5) := by kernel_rfl
theorem fieldT_185_1 : VM.fieldT Tryz.prog 185 1 = some (1, 5) := by kernel_rfl
theorem placesT_185 : VM.placesT Tryz.prog 185 = some [(0, 1, 5), (1, 1, 5)] := by kernel_rfl
theorem flatT_185 : VM.flatT Tryz.prog 185 = some [.int .u8, .int .u8] := by kernel_rfl
theorem cellsOf_186 : Program.cellsOf Tryz.prog 186 = 2 := by kernel_rfl
theorem bytesOf_186 : Program.bytesOf Tryz.prog 186 = 2 := by kernel_rfl
theorem elemT_186 : VM.elemT Tryz.prog 186 = none := by kernel_rfl
theorem strT_186 : VM.strT Tryz.prog 186 = false := by kernel_rfl
theorem boolT_186 : VM.boolT Tryz.prog 186 = false := by kernel_rfl
theorem intT_186 : VM.intT Tryz.prog 186 = none := by kernel_rfl
theorem hasT_186 : VM.hasT Tryz.prog 186 = true := by kernel_rfl
theorem aggT_186 : VM.aggT Tryz.prog 186 = some true := by kernel_rfl
theorem zeroT_186 : VM.zeroT Tryz.prog 186 = some [.int .u8 0, .int .u8 0] := by kernel_rfl
theorem fieldT_186_0 : VM.fieldT Tryz.prog 186 0 = some (0, 5) := by kernel_rfl
theorem fieldT_186_1 : VM.fieldT Tryz.prog 186 1 = some (1, 5) := by kernel_rfl
theorem placesT_186 : VM.placesT Tryz.prog 186 = some [(0, 1, 5), (1, 1, 5)] := by kernel_rfl
theorem flatT_186 : VM.flatT Tryz.prog 186 = some [.int .u8, .int .u8] := by kernel_rfl
attribute [go_sem] cellsOf_3 bytesOf_3 elemT_3 strT_3 boolT_3 intT_3 hasT_3 aggT_3 zeroT_3 cellsOf_4 bytesOf_4 elemT_4 strT_4 boolT_4 intT_4 hasT_4 aggT_4 zeroT_4 cellsOf_5 bytesOf_5 elemT_5 strT_5 boolT_5 intT_5 hasT_5 aggT_5 zeroT_5 cellsOf_9 bytesOf_9 elemT_9 strT_9 boolT_9 intT_9 hasT_9 aggT_9 zeroT_9 cellsOf_21 bytesOf_21 elemT_21 strT_21 boolT_21 intT_21 hasT_21 aggT_21 zeroT_21 cellsOf_22 bytesOf_22 elemT_22 strT_22 boolT_22 intT_22 hasT_22 aggT_22 zeroT_22 cellsOf_23 bytesOf_23 elemT_23 strT_23 boolT_23 intT_23 hasT_23 aggT_23 zeroT_23 fieldT_23_0 fieldT_23_1 fieldT_23_2 fieldT_23_3 placesT_23 flatT_23 cellsOf_24 bytesOf_24 elemT_24 strT_24 boolT_24 intT_24 hasT_24 aggT_24 zeroT_24 fieldT_24_0 fieldT_24_1 fieldT_24_2 fieldT_24_3 placesT_24 flatT_24 cellsOf_27 bytesOf_27 elemT_27 strT_27 boolT_27 intT_27 hasT_27 aggT_27 zeroT_27 cellsOf_31 bytesOf_31 elemT_31 strT_31 boolT_31 intT_31 hasT_31 aggT_31 zeroT_31 fieldT_31_0 fieldT_31_1 fieldT_31_2 fieldT_31_3 placesT_31 flatT_31 cellsOf_36 bytesOf_36 elemT_36 strT_36 boolT_36 intT_36 hasT_36 aggT_36 zeroT_36 cellsOf_39 bytesOf_39 elemT_39 strT_39 boolT_39 intT_39 hasT_39 aggT_39 zeroT_39 cellsOf_50 bytesOf_50 elemT_50 strT_50 boolT_50 intT_50 hasT_50 aggT_50 zeroT_50 fieldT_50_0 fieldT_50_1 fieldT_50_2 placesT_50 flatT_50 cellsOf_51 bytesOf_51 elemT_51 strT_51 boolT_51 intT_51 hasT_51 aggT_51 zeroT_51 fieldT_51_0 fieldT_51_1 fieldT_51_2 placesT_51 flatT_51 cellsOf_53 bytesOf_53 elemT_53 strT_53 boolT_53 intT_53 hasT_53 aggT_53 zeroT_53 fieldT_53_0 fieldT_53_1 fieldT_53_2 placesT_53 flatT_53 cellsOf_69 bytesOf_69 elemT_69 strT_69 boolT_69 intT_69 hasT_69 aggT_69 cellsOf_79 bytesOf_79 elemT_79 strT_79 boolT_79 intT_79 hasT_79 aggT_79 cellsOf_85 bytesOf_85 elemT_85 strT_85 boolT_85 intT_85 hasT_85 aggT_85 zeroT_85 cellsOf_86 bytesOf_86 elemT_86 strT_86 boolT_86 intT_86 hasT_86 aggT_86 zeroT_86 fieldT_86_0 fieldT_86_1 placesT_86 cellsOf_87 bytesOf_87 elemT_87 strT_87 boolT_87 intT_87 hasT_87 aggT_87 zeroT_87 fieldT_87_0 fieldT_87_1 placesT_87 cellsOf_89 bytesOf_89 elemT_89 strT_89 boolT_89 intT_89 hasT_89 aggT_89 zeroT_89 cellsOf_90 bytesOf_90 elemT_90 strT_90 boolT_90 intT_90 hasT_90 aggT_90 zeroT_90 fieldT_90_0 fieldT_90_1 fieldT_90_2 fieldT_90_3 placesT_90 cellsOf_91 bytesOf_91 elemT_91 strT_91 boolT_91 intT_91 hasT_91 aggT_91 zeroT_91 fieldT_91_0 fieldT_91_1 fieldT_91_2 fieldT_91_3 placesT_91 cellsOf_96 bytesOf_96 elemT_96 strT_96 boolT_96 intT_96 hasT_96 aggT_96 zeroT_96 fieldT_96_0 fieldT_96_1 fieldT_96_2 placesT_96 cellsOf_97 bytesOf_97 elemT_97 strT_97 boolT_97 intT_97 hasT_97 aggT_97 zeroT_97 fieldT_97_0 fieldT_97_1 fieldT_97_2 placesT_97 cellsOf_121 bytesOf_121 elemT_121 strT_121 boolT_121 intT_121 hasT_121 aggT_121 zeroT_121 cellsOf_124 bytesOf_124 elemT_124 strT_124 boolT_124 intT_124 hasT_124 aggT_124 fieldT_124_0 fieldT_124_1 placesT_124 cellsOf_125 bytesOf_125 elemT_125 strT_125 boolT_125 intT_125 hasT_125 aggT_125 fieldT_125_0 fieldT_125_1 placesT_125 cellsOf_132 bytesOf_132 elemT_132 strT_132 boolT_132 intT_132 hasT_132 aggT_132 zeroT_132 cellsOf_141 bytesOf_141 elemT_141 strT_141 boolT_141 intT_141 hasT_141 aggT_141 zeroT_141 cellsOf_149 bytesOf_149 elemT_149 strT_149 boolT_149 intT_149 hasT_149 aggT_149 zeroT_149 cellsOf_151 bytesOf_151 elemT_151 strT_151 boolT_151 intT_151 hasT_151 aggT_151 zeroT_151 cellsOf_156 bytesOf_156 elemT_156 strT_156 boolT_156 intT_156 hasT_156 aggT_156 zeroT_156 fieldT_156_0 fieldT_156_1 placesT_156 flatT_156 cellsOf_157 bytesOf_157 elemT_157 strT_157 boolT_157 intT_157 hasT_157 aggT_157 zeroT_157 fieldT_157_0 fieldT_157_1 placesT_157 flatT_157 cellsOf_164 bytesOf_164 elemT_164 strT_164 boolT_164 intT_164 hasT_164 aggT_164 zeroT_164 cellsOf_185 bytesOf_185 elemT_185 strT_185 boolT_185 intT_185 hasT_185 aggT_185 zeroT_185 fieldT_185_0 fieldT_185_1 placesT_185 flatT_185 cellsOf_186 bytesOf_186 elemT_186 strT_186 boolT_186 intT_186 hasT_186 aggT_186 zeroT_186 fieldT_186_0 fieldT_186_1 placesT_186 flatT_186
end Go.Proofs.YtoenfbbadfcfpaaGreatDoor
