/- What the machine asks of the program's types. Printed by a program (facts.py). -/
import Derived.Test.YthaobdlenbbhoaaPVUse
import Derived.Test.YthaobdlenbbhoaaProg
import Derived.KernelRfl
namespace Go.Proofs.Ythaobdlenbbhoaa
theorem cellsOf_3 : Program.cellsOf Try.prog 3 = 1 := by kernel_rfl
theorem bytesOf_3 : Program.bytesOf Try.prog 3 = 8 := by kernel_rfl
theorem elemT_3 : VM.elemT Try.prog 3 = none := by kernel_rfl
theorem strT_3 : VM.strT Try.prog 3 = false := by kernel_rfl
theorem boolT_3 : VM.boolT Try.prog 3 = false := by kernel_rfl
theorem intT_3 : VM.intT Try.prog 3 = some .i64 := by kernel_rfl
theorem hasT_3 : VM.hasT Try.prog 3 = true := by kernel_rfl
theorem aggT_3 : VM.aggT Try.prog 3 = some false := by kernel_rfl
theorem zeroT_3 : VM.zeroT Try.prog 3 = some [.int .i64 0] := by kernel_rfl
theorem cellsOf_4 : Program.cellsOf Try.prog 4 = 1 := by kernel_rfl
theorem bytesOf_4 : Program.bytesOf Try.prog 4 = 1 := by kernel_rfl
theorem elemT_4 : VM.elemT Try.prog 4 = none := by kernel_rfl
theorem strT_4 : VM.strT Try.prog 4 = false := by kernel_rfl
theorem boolT_4 : VM.boolT Try.prog 4 = true := by kernel_rfl
theorem intT_4 : VM.intT Try.prog 4 = none := by kernel_rfl
theorem hasT_4 : VM.hasT Try.prog 4 = true := by kernel_rfl
theorem aggT_4 : VM.aggT Try.prog 4 = some false := by kernel_rfl
theorem zeroT_4 : VM.zeroT Try.prog 4 = some [.bool false] := by kernel_rfl
theorem cellsOf_5 : Program.cellsOf Try.prog 5 = 1 := by kernel_rfl
theorem bytesOf_5 : Program.bytesOf Try.prog 5 = 1 := by kernel_rfl
theorem elemT_5 : VM.elemT Try.prog 5 = none := by kernel_rfl
theorem strT_5 : VM.strT Try.prog 5 = false := by kernel_rfl
theorem boolT_5 : VM.boolT Try.prog 5 = false := by kernel_rfl
theorem intT_5 : VM.intT Try.prog 5 = some .u8 := by kernel_rfl
theorem hasT_5 : VM.hasT Try.prog 5 = true := by kernel_rfl
theorem aggT_5 : VM.aggT Try.prog 5 = some false := by kernel_rfl
theorem zeroT_5 : VM.zeroT Try.prog 5 = some [.int .u8 0] := by kernel_rfl
theorem cellsOf_9 : Program.cellsOf Try.prog 9 = 1 := by kernel_rfl
theorem bytesOf_9 : Program.bytesOf Try.prog 9 = 16 := by kernel_rfl
theorem elemT_9 : VM.elemT Try.prog 9 = none := by kernel_rfl
theorem strT_9 : VM.strT Try.prog 9 = true := by kernel_rfl
theorem boolT_9 : VM.boolT Try.prog 9 = false := by kernel_rfl
theorem intT_9 : VM.intT Try.prog 9 = none := by kernel_rfl
theorem hasT_9 : VM.hasT Try.prog 9 = true := by kernel_rfl
theorem aggT_9 : VM.aggT Try.prog 9 = some false := by kernel_rfl
theorem zeroT_9 : VM.zeroT Try.prog 9 = some [.str ⟨#[]⟩] := by kernel_rfl
theorem cellsOf_22 : Program.cellsOf Try.prog 22 = 1 := by kernel_rfl
theorem bytesOf_22 : Program.bytesOf Try.prog 22 = 24 := by kernel_rfl
theorem elemT_22 : VM.elemT Try.prog 22 = some 5 := by kernel_rfl
theorem strT_22 : VM.strT Try.prog 22 = false := by kernel_rfl
theorem boolT_22 : VM.boolT Try.prog 22 = false := by kernel_rfl
theorem intT_22 : VM.intT Try.prog 22 = none := by kernel_rfl
theorem hasT_22 : VM.hasT Try.prog 22 = true := by kernel_rfl
theorem aggT_22 : VM.aggT Try.prog 22 = some false := by kernel_rfl
theorem zeroT_22 : VM.zeroT Try.prog 22 = some [.list true 1 []] := by kernel_rfl
theorem cellsOf_24 : Program.cellsOf Try.prog 24 = 1 := by kernel_rfl
theorem bytesOf_24 : Program.bytesOf Try.prog 24 = 24 := by kernel_rfl
theorem elemT_24 : VM.elemT Try.prog 24 = some 9 := by kernel_rfl
theorem strT_24 : VM.strT Try.prog 24 = false := by kernel_rfl
theorem boolT_24 : VM.boolT Try.prog 24 = false := by kernel_rfl
theorem intT_24 : VM.intT Try.prog 24 = none := by kernel_rfl
theorem hasT_24 : VM.hasT Try.prog 24 = true := by kernel_rfl
theorem aggT_24 : VM.aggT Try.prog 24 = some false := by kernel_rfl
theorem zeroT_24 : VM.zeroT Try.prog 24 = some [.list true 1 []] := by kernel_rfl
theorem cellsOf_30 : Program.cellsOf Try.prog 30 = 1 := by kernel_rfl
theorem bytesOf_30 : Program.bytesOf Try.prog 30 = 24 := by kernel_rfl
theorem elemT_30 : VM.elemT Try.prog 30 = some 3 := by kernel_rfl
theorem strT_30 : VM.strT Try.prog 30 = false := by kernel_rfl
theorem boolT_30 : VM.boolT Try.prog 30 = false := by kernel_rfl
theorem intT_30 : VM.intT Try.prog 30 = none := by kernel_rfl
theorem hasT_30 : VM.hasT Try.prog 30 = true := by kernel_rfl
theorem aggT_30 : VM.aggT Try.prog 30 = some false := by kernel_rfl
theorem zeroT_30 : VM.zeroT Try.prog 30 = some [.list true 1 []] := by kernel_rfl
theorem cellsOf_31 : Program.cellsOf Try.prog 31 = 4 := by kernel_rfl
theorem bytesOf_31 : Program.bytesOf Try.prog 31 = 72 := by kernel_rfl
theorem elemT_31 : VM.elemT Try.prog 31 = none := by kernel_rfl
theorem strT_31 : VM.strT Try.prog 31 = false := by kernel_rfl
theorem boolT_31 : VM.boolT Try.prog 31 = false := by kernel_rfl
theorem intT_31 : VM.intT Try.prog 31 = none := by kernel_rfl
theorem hasT_31 : VM.hasT Try.prog 31 = true := by kernel_rfl
theorem aggT_31 : VM.aggT Try.prog 31 = some true := by kernel_rfl
theorem zeroT_31 : VM.zeroT Try.prog 31 = some [.bool false, .list true 1 [], .list true 1 [], .str ⟨#[]⟩] := by kernel_rfl
theorem fieldT_31_0 : VM.fieldT Try.prog 31 0 = some (0, 4) := by kernel_rfl
theorem fieldT_31_1 : VM.fieldT Try.prog 31 1 = some (1, 24) := by kernel_rfl
theorem fieldT_31_2 : VM.fieldT Try.prog 31 2 = some (2, 30) := by kernel_rfl
theorem fieldT_31_3 : VM.fieldT Try.prog 31 3 = some (3, 9) := by kernel_rfl
theorem placesT_31 : VM.placesT Try.prog 31 = some [(0, 1, 4), (1, 1, 24), (2, 1, 30), (3, 1, 9)] := by kernel_rfl
theorem cellsOf_32 : Program.cellsOf Try.prog 32 = 4 := by kernel_rfl
theorem bytesOf_32 : Program.bytesOf Try.prog 32 = 72 := by kernel_rfl
theorem elemT_32 : VM.elemT Try.prog 32 = none := by kernel_rfl
theorem strT_32 : VM.strT Try.prog 32 = false := by kernel_rfl
theorem boolT_32 : VM.boolT Try.prog 32 = false := by kernel_rfl
theorem intT_32 : VM.intT Try.prog 32 = none := by kernel_rfl
theorem hasT_32 : VM.hasT Try.prog 32 = true := by kernel_rfl
theorem aggT_32 : VM.aggT Try.prog 32 = some true := by kernel_rfl
theorem zeroT_32 : VM.zeroT Try.prog 32 = some [.bool false, .list true 1 [], .list true 1 [], .str ⟨#[]⟩] := by kernel_rfl
theorem fieldT_32_0 : VM.fieldT Try.prog 32 0 = some (0, 4) := by kernel_rfl
theorem fieldT_32_1 : VM.fieldT Try.prog 32 1 = some (1, 24) := by kernel_rfl
theorem fieldT_32_2 : VM.fieldT Try.prog 32 2 = some (2, 30) := by kernel_rfl
theorem fieldT_32_3 : VM.fieldT Try.prog 32 3 = some (3, 9) := by kernel_rfl
theorem placesT_32 : VM.placesT Try.prog 32 = some [(0, 1, 4), (1, 1, 24), (2, 1, 30), (3, 1, 9)] := by kernel_rfl
theorem cellsOf_37 : Program.cellsOf Try.prog 37 = 1 := by kernel_rfl
theorem bytesOf_37 : Program.bytesOf Try.prog 37 = 24 := by kernel_rfl
theorem elemT_37 : VM.elemT Try.prog 37 = some 61 := by kernel_rfl
theorem strT_37 : VM.strT Try.prog 37 = false := by kernel_rfl
theorem boolT_37 : VM.boolT Try.prog 37 = false := by kernel_rfl
theorem intT_37 : VM.intT Try.prog 37 = none := by kernel_rfl
theorem hasT_37 : VM.hasT Try.prog 37 = true := by kernel_rfl
theorem aggT_37 : VM.aggT Try.prog 37 = some false := by kernel_rfl
theorem zeroT_37 : VM.zeroT Try.prog 37 = some [.list true 3 []] := by kernel_rfl
theorem cellsOf_43 : Program.cellsOf Try.prog 43 = 1 := by kernel_rfl
theorem bytesOf_43 : Program.bytesOf Try.prog 43 = 24 := by kernel_rfl
theorem elemT_43 : VM.elemT Try.prog 43 = some 4 := by kernel_rfl
theorem strT_43 : VM.strT Try.prog 43 = false := by kernel_rfl
theorem boolT_43 : VM.boolT Try.prog 43 = false := by kernel_rfl
theorem intT_43 : VM.intT Try.prog 43 = none := by kernel_rfl
theorem hasT_43 : VM.hasT Try.prog 43 = true := by kernel_rfl
theorem aggT_43 : VM.aggT Try.prog 43 = some false := by kernel_rfl
theorem zeroT_43 : VM.zeroT Try.prog 43 = some [.list true 1 []] := by kernel_rfl
theorem cellsOf_44 : Program.cellsOf Try.prog 44 = 2 := by kernel_rfl
theorem bytesOf_44 : Program.bytesOf Try.prog 44 = 48 := by kernel_rfl
theorem elemT_44 : VM.elemT Try.prog 44 = none := by kernel_rfl
theorem strT_44 : VM.strT Try.prog 44 = false := by kernel_rfl
theorem boolT_44 : VM.boolT Try.prog 44 = false := by kernel_rfl
theorem intT_44 : VM.intT Try.prog 44 = none := by kernel_rfl
theorem hasT_44 : VM.hasT Try.prog 44 = true := by kernel_rfl
theorem aggT_44 : VM.aggT Try.prog 44 = some true := by kernel_rfl
theorem zeroT_44 : VM.zeroT Try.prog 44 = some [.list true 1 [], .list true 1 []] := by kernel_rfl
theorem fieldT_44_0 : VM.fieldT Try.prog 44 0 = some (0, 24) := by kernel_rfl
theorem fieldT_44_1 : VM.fieldT Try.prog 44 1 = some (1, 43) := by kernel_rfl
theorem placesT_44 : VM.placesT Try.prog 44 = some [(0, 1, 24), (1, 1, 43)] := by kernel_rfl
theorem cellsOf_45 : Program.cellsOf Try.prog 45 = 2 := by kernel_rfl
theorem bytesOf_45 : Program.bytesOf Try.prog 45 = 48 := by kernel_rfl
theorem elemT_45 : VM.elemT Try.prog 45 = none := by kernel_rfl
theorem strT_45 : VM.strT Try.prog 45 = false := by kernel_rfl
theorem boolT_45 : VM.boolT Try.prog 45 = false := by kernel_rfl
theorem intT_45 : VM.intT Try.prog 45 = none := by kernel_rfl
theorem hasT_45 : VM.hasT Try.prog 45 = true := by kernel_rfl
theorem aggT_45 : VM.aggT Try.prog 45 = some true := by kernel_rfl
theorem zeroT_45 : VM.zeroT Try.prog 45 = some [.list true 1 [], .list true 1 []] := by kernel_rfl
theorem fieldT_45_0 : VM.fieldT Try.prog 45 0 = some (0, 24) := by kernel_rfl
theorem fieldT_45_1 : VM.fieldT Try.prog 45 1 = some (1, 43) := by kernel_rfl
theorem placesT_45 : VM.placesT Try.prog 45 = some [(0, 1, 24), (1, 1, 43)] := by kernel_rfl
theorem cellsOf_54 : Program.cellsOf Try.prog 54 = 3 := by kernel_rfl
theorem bytesOf_54 : Program.bytesOf Try.prog 54 = 40 := by kernel_rfl
theorem elemT_54 : VM.elemT Try.prog 54 = none := by kernel_rfl
theorem strT_54 : VM.strT Try.prog 54 = false := by kernel_rfl
theorem boolT_54 : VM.boolT Try.prog 54 = false := by kernel_rfl
theorem intT_54 : VM.intT Try.prog 54 = none := by kernel_rfl
theorem hasT_54 : VM.hasT Try.prog 54 = true := by kernel_rfl
theorem aggT_54 : VM.aggT Try.prog 54 = some true := by kernel_rfl
theorem zeroT_54 : VM.zeroT Try.prog 54 = some [.list true 1 [], .int .i64 0, .int .i64 0] := by kernel_rfl
theorem fieldT_54_0 : VM.fieldT Try.prog 54 0 = some (0, 22) := by kernel_rfl
theorem fieldT_54_1 : VM.fieldT Try.prog 54 1 = some (1, 3) := by kernel_rfl
theorem fieldT_54_2 : VM.fieldT Try.prog 54 2 = some (2, 3) := by kernel_rfl
theorem placesT_54 : VM.placesT Try.prog 54 = some [(0, 1, 22), (1, 1, 3), (2, 1, 3)] := by kernel_rfl
theorem cellsOf_55 : Program.cellsOf Try.prog 55 = 3 := by kernel_rfl
theorem bytesOf_55 : Program.bytesOf Try.prog 55 = 40 := by kernel_rfl
theorem elemT_55 : VM.elemT Try.prog 55 = none := by kernel_rfl
theorem strT_55 : VM.strT Try.prog 55 = false := by kernel_rfl
theorem boolT_55 : VM.boolT Try.prog 55 = false := by kernel_rfl
theorem intT_55 : VM.intT Try.prog 55 = none := by kernel_rfl
theorem hasT_55 : VM.hasT Try.prog 55 = true := by kernel_rfl
theorem aggT_55 : VM.aggT Try.prog 55 = some true := by kernel_rfl
theorem zeroT_55 : VM.zeroT Try.prog 55 = some [.list true 1 [], .int .i64 0, .int .i64 0] := by kernel_rfl
theorem fieldT_55_0 : VM.fieldT Try.prog 55 0 = some (0, 22) := by kernel_rfl
theorem fieldT_55_1 : VM.fieldT Try.prog 55 1 = some (1, 3) := by kernel_rfl
theorem fieldT_55_2 : VM.fieldT Try.prog 55 2 = some (2, 3) := by kernel_rfl
theorem placesT_55 : VM.placesT Try.prog 55 = some [(0, 1, 22), (1, 1, 3), (2, 1, 3)] := by kernel_rfl
theorem cellsOf_60 : Program.cellsOf Try.prog 60 = 3 := by kernel_rfl
theorem bytesOf_60 : Program.bytesOf Try.prog 60 = 40 := by kernel_rfl
theorem elemT_60 : VM.elemT Try.prog 60 = none := by kernel_rfl
theorem strT_60 : VM.strT Try.prog 60 = false := by kernel_rfl
theorem boolT_60 : VM.boolT Try.prog 60 = false := by kernel_rfl
theorem intT_60 : VM.intT Try.prog 60 = none := by kernel_rfl
theorem hasT_60 : VM.hasT Try.prog 60 = true := by kernel_rfl
theorem aggT_60 : VM.aggT Try.prog 60 = some true := by kernel_rfl
theorem zeroT_60 : VM.zeroT Try.prog 60 = some [.str ⟨#[]⟩, .bool false, .str ⟨#[]⟩] := by kernel_rfl
theorem fieldT_60_0 : VM.fieldT Try.prog 60 0 = some (0, 9) := by kernel_rfl
theorem fieldT_60_1 : VM.fieldT Try.prog 60 1 = some (1, 4) := by kernel_rfl
theorem fieldT_60_2 : VM.fieldT Try.prog 60 2 = some (2, 9) := by kernel_rfl
theorem placesT_60 : VM.placesT Try.prog 60 = some [(0, 1, 9), (1, 1, 4), (2, 1, 9)] := by kernel_rfl
theorem flatT_60 : VM.flatT Try.prog 60 = some [.string, .bool, .string] := by kernel_rfl
theorem cellsOf_61 : Program.cellsOf Try.prog 61 = 3 := by kernel_rfl
theorem bytesOf_61 : Program.bytesOf Try.prog 61 = 40 := by kernel_rfl
theorem elemT_61 : VM.elemT Try.prog 61 = none := by kernel_rfl
theorem strT_61 : VM.strT Try.prog 61 = false := by kernel_rfl
theorem boolT_61 : VM.boolT Try.prog 61 = false := by kernel_rfl
theorem intT_61 : VM.intT Try.prog 61 = none := by kernel_rfl
theorem hasT_61 : VM.hasT Try.prog 61 = true := by kernel_rfl
theorem aggT_61 : VM.aggT Try.prog 61 = some true := by kernel_rfl
theorem zeroT_61 : VM.zeroT Try.prog 61 = some [.str ⟨#[]⟩, .bool false, .str ⟨#[]⟩] := by kernel_rfl
theorem fieldT_61_0 : VM.fieldT Try.prog 61 0 = some (0, 9) := by kernel_rfl
theorem fieldT_61_1 : VM.fieldT Try.prog 61 1 = some (1, 4) := by kernel_rfl
theorem fieldT_61_2 : VM.fieldT Try.prog 61 2 = some (2, 9) := by kernel_rfl
theorem placesT_61 : VM.placesT Try.prog 61 = some [(0, 1, 9), (1, 1, 4), (2, 1, 9)] := by kernel_rfl
theorem flatT_61 : VM.flatT Try.prog 61 = some [.string, .bool, .string] := by kernel_rfl
theorem cellsOf_64 : Program.cellsOf Try.prog 64 = 4 := by kernel_rfl
theorem bytesOf_64 : Program.bytesOf Try.prog 64 = 56 := by kernel_rfl
theorem elemT_64 : VM.elemT Try.prog 64 = none := by kernel_rfl
theorem strT_64 : VM.strT Try.prog 64 = false := by kernel_rfl
theorem boolT_64 : VM.boolT Try.prog 64 = false := by kernel_rfl
theorem intT_64 : VM.intT Try.prog 64 = none := by kernel_rfl
theorem hasT_64 : VM.hasT Try.prog 64 = true := by kernel_rfl
theorem aggT_64 : VM.aggT Try.prog 64 = some true := by kernel_rfl
theorem zeroT_64 : VM.zeroT Try.prog 64 = some [.int .i64 0, .str ⟨#[]⟩, .str ⟨#[]⟩, .str ⟨#[]⟩] := by kernel_rfl
theorem fieldT_64_0 : VM.fieldT Try.prog 64 0 = some (0, 3) := by kernel_rfl
theorem fieldT_64_1 : VM.fieldT Try.prog 64 1 = some (1, 9) := by kernel_rfl
theorem fieldT_64_2 : VM.fieldT Try.prog 64 2 = some (2, 9) := by kernel_rfl
theorem fieldT_64_3 : VM.fieldT Try.prog 64 3 = some (3, 9) := by kernel_rfl
theorem placesT_64 : VM.placesT Try.prog 64 = some [(0, 1, 3), (1, 1, 9), (2, 1, 9), (3, 1, 9)] := by kernel_rfl
theorem flatT_64 : VM.flatT Try.prog 64 = some [.int .i64, .string, .string, .string] := by kernel_rfl
theorem cellsOf_65 : Program.cellsOf Try.prog 65 = 4 := by kernel_rfl
theorem bytesOf_65 : Program.bytesOf Try.prog 65 = 56 := by kernel_rfl
theorem elemT_65 : VM.elemT Try.prog 65 = none := by kernel_rfl
theorem strT_65 : VM.strT Try.prog 65 = false := by kernel_rfl
theorem boolT_65 : VM.boolT Try.prog 65 = false := by kernel_rfl
theorem intT_65 : VM.intT Try.prog 65 = none := by kernel_rfl
theorem hasT_65 : VM.hasT Try.prog 65 = true := by kernel_rfl
theorem aggT_65 : VM.aggT Try.prog 65 = some true := by kernel_rfl
theorem zeroT_65 : VM.zeroT Try.prog 65 = some [.int .i64 0, .str ⟨#[]⟩, .str ⟨#[]⟩, .str ⟨#[]⟩] := by kernel_rfl
theorem fieldT_65_0 : VM.fieldT Try.prog 65 0 = some (0, 3) := by kernel_rfl
theorem fieldT_65_1 : VM.fieldT Try.prog 65 1 = some (1, 9) := by kernel_rfl
theorem fieldT_65_2 : VM.fieldT Try.prog 65 2 = some (2, 9) := by kernel_rfl
theorem fieldT_65_3 : VM.fieldT Try.prog 65 3 = some (3, 9) := by kernel_rfl
theorem placesT_65 : VM.placesT Try.prog 65 = some [(0, 1, 3), (1, 1, 9), (2, 1, 9), (3, 1, 9)] := by kernel_rfl
theorem flatT_65 : VM.flatT Try.prog 65 = some [.int .i64, .string, .string, .string] := by kernel_rfl
theorem cellsOf_67 : Program.cellsOf Try.prog 67 = 1 := by kernel_rfl
theorem bytesOf_67 : Program.bytesOf Try.prog 67 = 8 := by kernel_rfl
theorem elemT_67 : VM.elemT Try.prog 67 = none := by kernel_rfl
theorem strT_67 : VM.strT Try.prog 67 = false := by kernel_rfl
theorem boolT_67 : VM.boolT Try.prog 67 = false := by kernel_rfl
theorem intT_67 : VM.intT Try.prog 67 = some .u64 := by kernel_rfl
theorem hasT_67 : VM.hasT Try.prog 67 = true := by kernel_rfl
theorem aggT_67 : VM.aggT Try.prog 67 = some false := by kernel_rfl
theorem zeroT_67 : VM.zeroT Try.prog 67 = some [.int .u64 0] := by kernel_rfl
theorem cellsOf_68 : Program.cellsOf Try.prog 68 = 1 := by kernel_rfl
theorem bytesOf_68 : Program.bytesOf Try.prog 68 = 24 := by kernel_rfl
theorem elemT_68 : VM.elemT Try.prog 68 = some 80 := by kernel_rfl
theorem strT_68 : VM.strT Try.prog 68 = false := by kernel_rfl
theorem boolT_68 : VM.boolT Try.prog 68 = false := by kernel_rfl
theorem intT_68 : VM.intT Try.prog 68 = none := by kernel_rfl
theorem hasT_68 : VM.hasT Try.prog 68 = true := by kernel_rfl
theorem aggT_68 : VM.aggT Try.prog 68 = some false := by kernel_rfl
theorem zeroT_68 : VM.zeroT Try.prog 68 = some [.list true 2 []] := by kernel_rfl
theorem cellsOf_79 : Program.cellsOf Try.prog 79 = 2 := by kernel_rfl
theorem bytesOf_79 : Program.bytesOf Try.prog 79 = 24 := by kernel_rfl
theorem elemT_79 : VM.elemT Try.prog 79 = none := by kernel_rfl
theorem strT_79 : VM.strT Try.prog 79 = false := by kernel_rfl
theorem boolT_79 : VM.boolT Try.prog 79 = false := by kernel_rfl
theorem intT_79 : VM.intT Try.prog 79 = none := by kernel_rfl
theorem hasT_79 : VM.hasT Try.prog 79 = true := by kernel_rfl
theorem aggT_79 : VM.aggT Try.prog 79 = some true := by kernel_rfl
theorem zeroT_79 : VM.zeroT Try.prog 79 = some [.int .i64 0, .str ⟨#[]⟩] := by kernel_rfl
theorem fieldT_79_0 : VM.fieldT Try.prog 79 0 = some (0, 3) := by kernel_rfl
theorem fieldT_79_1 : VM.fieldT Try.prog 79 1 = some (1, 9) := by kernel_rfl
theorem placesT_79 : VM.placesT Try.prog 79 = some [(0, 1, 3), (1, 1, 9)] := by kernel_rfl
theorem flatT_79 : VM.flatT Try.prog 79 = some [.int .i64, .string] := by kernel_rfl
theorem cellsOf_80 : Program.cellsOf Try.prog 80 = 2 := by kernel_rfl
theorem bytesOf_80 : Program.bytesOf Try.prog 80 = 24 := by kernel_rfl
theorem elemT_80 : VM.elemT Try.prog 80 = none := by kernel_rfl
theorem strT_80 : VM.strT Try.prog 80 = false := by kernel_rfl
theorem boolT_80 : VM.boolT Try.prog 80 = false := by kernel_rfl
theorem intT_80 : VM.intT Try.prog 80 = none := by kernel_rfl
theorem hasT_80 : VM.hasT Try.prog 80 = true := by kernel_rfl
theorem aggT_80 : VM.aggT Try.prog 80 = some true := by kernel_rfl
theorem zeroT_80 : VM.zeroT Try.prog 80 = some [.int .i64 0, .str ⟨#[]⟩] := by kernel_rfl
theorem fieldT_80_0 : VM.fieldT Try.prog 80 0 = some (0, 3) := by kernel_rfl
theorem fieldT_80_1 : VM.fieldT Try.prog 80 1 = some (1, 9) := by kernel_rfl
theorem placesT_80 : VM.placesT Try.prog 80 = some [(0, 1, 3), (1, 1, 9)] := by kernel_rfl
theorem flatT_80 : VM.flatT Try.prog 80 = some [.int .i64, .string] := by kernel_rfl
attribute [go_sem] cellsOf_3 bytesOf_3 elemT_3 strT_3 boolT_3 intT_3 hasT_3 aggT_3 zeroT_3 cellsOf_4 bytesOf_4 elemT_4 strT_4 boolT_4 intT_4 hasT_4 aggT_4 zeroT_4 cellsOf_5 bytesOf_5 elemT_5 strT_5 boolT_5 intT_5 hasT_5 aggT_5 zeroT_5 cellsOf_9 bytesOf_9 elemT_9 strT_9 boolT_9 intT_9 hasT_9 aggT_9 zeroT_9 cellsOf_22 bytesOf_22 elemT_22 strT_22 boolT_22 intT_22 hasT_22 aggT_22 zeroT_22 cellsOf_24 bytesOf_24 elemT_24 strT_24 boolT_24 intT_24 hasT_24 aggT_24 zeroT_24 cellsOf_30 bytesOf_30 elemT_30 strT_30 boolT_30 intT_30 hasT_30 aggT_30 zeroT_30 cellsOf_31 bytesOf_31 elemT_31 strT_31 boolT_31 intT_31 hasT_31 aggT_31 zeroT_31 fieldT_31_0 fieldT_31_1 fieldT_31_2 fieldT_31_3 placesT_31 cellsOf_32 bytesOf_32 elemT_32 strT_32 boolT_32 intT_32 hasT_32 aggT_32 zeroT_32 fieldT_32_0 fieldT_32_1 fieldT_32_2 fieldT_32_3 placesT_32 cellsOf_37 bytesOf_37 elemT_37 strT_37 boolT_37 intT_37 hasT_37 aggT_37 zeroT_37 cellsOf_43 bytesOf_43 elemT_43 strT_43 boolT_43 intT_43 hasT_43 aggT_43 zeroT_43 cellsOf_44 bytesOf_44 elemT_44 strT_44 boolT_44 intT_44 hasT_44 aggT_44 zeroT_44 fieldT_44_0 fieldT_44_1 placesT_44 cellsOf_45 bytesOf_45 elemT_45 strT_45 boolT_45 intT_45 hasT_45 aggT_45 zeroT_45 fieldT_45_0 fieldT_45_1 placesT_45 cellsOf_54 bytesOf_54 elemT_54 strT_54 boolT_54 intT_54 hasT_54 aggT_54 zeroT_54 fieldT_54_0 fieldT_54_1 fieldT_54_2 placesT_54 cellsOf_55 bytesOf_55 elemT_55 strT_55 boolT_55 intT_55 hasT_55 aggT_55 zeroT_55 fieldT_55_0 fieldT_55_1 fieldT_55_2 placesT_55 cellsOf_60 bytesOf_60 elemT_60 strT_60 boolT_60 intT_60 hasT_60 aggT_60 zeroT_60 fieldT_60_0 fieldT_60_1 fieldT_60_2 placesT_60 flatT_60 cellsOf_61 bytesOf_61 elemT_61 strT_61 boolT_61 intT_61 hasT_61 aggT_61 zeroT_61 fieldT_61_0 fieldT_61_1 fieldT_61_2 placesT_61 flatT_61 cellsOf_64 bytesOf_64 elemT_64 strT_64 boolT_64 intT_64 hasT_64 aggT_64 zeroT_64 fieldT_64_0 fieldT_64_1 fieldT_64_2 fieldT_64_3 placesT_64 flatT_64 cellsOf_65 bytesOf_65 elemT_65 strT_65 boolT_65 intT_65 hasT_65 aggT_65 zeroT_65 fieldT_65_0 fieldT_65_1 fieldT_65_2 fieldT_65_3 placesT_65 flatT_65 cellsOf_67 bytesOf_67 elemT_67 strT_67 boolT_67 intT_67 hasT_67 aggT_67 zeroT_67 cellsOf_68 bytesOf_68 elemT_68 strT_68 boolT_68 intT_68 hasT_68 aggT_68 zeroT_68 cellsOf_79 bytesOf_79 elemT_79 strT_79 boolT_79 intT_79 hasT_79 aggT_79 zeroT_79 fieldT_79_0 fieldT_79_1 placesT_79 flatT_79 cellsOf_80 bytesOf_80 elemT_80 strT_80 boolT_80 intT_80 hasT_80 aggT_80 zeroT_80 fieldT_80_0 fieldT_80_1 placesT_80 flatT_80
end Go.Proofs.Ythaobdlenbbhoaa
