/- What the machine asks of the program's types. Printed by a program (facts.py). -/
import Derived.Test.YtkijdbljnefeaaaGreatPVUse
import Derived.Test.YtkijdbljnefeaaaGreatProg
import Derived.KernelRfl
namespace Go.Proofs.YtkijdbljnefeaaaGreat
theorem cellsOf_3 : Program.cellsOf Tryz.prog 3 = 1 := by kernel_rfl
theorem bytesOf_3 : Program.bytesOf Tryz.prog 3 = 8 := by kernel_rfl
theorem elemT_3 : VM.elemT Tryz.prog 3 = none := by kernel_rfl
theorem strT_3 : VM.strT Tryz.prog 3 = false := by kernel_rfl
theorem boolT_3 : VM.boolT Tryz.prog 3 = false := by kernel_rfl
theorem intT_3 : VM.intT Tryz.prog 3 = some .i64 := by kernel_rfl
theorem hasT_3 : VM.hasT Tryz.prog 3 = true := by kernel_rfl
theorem aggT_3 : VM.aggT Tryz.prog 3 = some false := by kernel_rfl
theorem zeroT_3 : VM.zeroT Tryz.prog 3 = some [.int .i64 0] := by kernel_rfl
theorem cellsOf_4 : Program.cellsOf Tryz.prog 4 = 1 := by kernel_rfl
theorem bytesOf_4 : Program.bytesOf Tryz.prog 4 = 1 := by kernel_rfl
theorem elemT_4 : VM.elemT Tryz.prog 4 = none := by kernel_rfl
theorem strT_4 : VM.strT Tryz.prog 4 = false := by kernel_rfl
theorem boolT_4 : VM.boolT Tryz.prog 4 = true := by kernel_rfl
theorem intT_4 : VM.intT Tryz.prog 4 = none := by kernel_rfl
theorem hasT_4 : VM.hasT Tryz.prog 4 = true := by kernel_rfl
theorem aggT_4 : VM.aggT Tryz.prog 4 = some false := by kernel_rfl
theorem zeroT_4 : VM.zeroT Tryz.prog 4 = some [.bool false] := by kernel_rfl
theorem cellsOf_5 : Program.cellsOf Tryz.prog 5 = 1 := by kernel_rfl
theorem bytesOf_5 : Program.bytesOf Tryz.prog 5 = 1 := by kernel_rfl
theorem elemT_5 : VM.elemT Tryz.prog 5 = none := by kernel_rfl
theorem strT_5 : VM.strT Tryz.prog 5 = false := by kernel_rfl
theorem boolT_5 : VM.boolT Tryz.prog 5 = false := by kernel_rfl
theorem intT_5 : VM.intT Tryz.prog 5 = some .u8 := by kernel_rfl
theorem hasT_5 : VM.hasT Tryz.prog 5 = true := by kernel_rfl
theorem aggT_5 : VM.aggT Tryz.prog 5 = some false := by kernel_rfl
theorem zeroT_5 : VM.zeroT Tryz.prog 5 = some [.int .u8 0] := by kernel_rfl
theorem cellsOf_9 : Program.cellsOf Tryz.prog 9 = 1 := by kernel_rfl
theorem bytesOf_9 : Program.bytesOf Tryz.prog 9 = 16 := by kernel_rfl
theorem elemT_9 : VM.elemT Tryz.prog 9 = none := by kernel_rfl
theorem strT_9 : VM.strT Tryz.prog 9 = true := by kernel_rfl
theorem boolT_9 : VM.boolT Tryz.prog 9 = false := by kernel_rfl
theorem intT_9 : VM.intT Tryz.prog 9 = none := by kernel_rfl
theorem hasT_9 : VM.hasT Tryz.prog 9 = true := by kernel_rfl
theorem aggT_9 : VM.aggT Tryz.prog 9 = some false := by kernel_rfl
theorem zeroT_9 : VM.zeroT Tryz.prog 9 = some [.str ⟨#[]⟩] := by kernel_rfl
theorem cellsOf_22 : Program.cellsOf Tryz.prog 22 = 1 := by kernel_rfl
theorem bytesOf_22 : Program.bytesOf Tryz.prog 22 = 24 := by kernel_rfl
theorem elemT_22 : VM.elemT Tryz.prog 22 = some 5 := by kernel_rfl
theorem strT_22 : VM.strT Tryz.prog 22 = false := by kernel_rfl
theorem boolT_22 : VM.boolT Tryz.prog 22 = false := by kernel_rfl
theorem intT_22 : VM.intT Tryz.prog 22 = none := by kernel_rfl
theorem hasT_22 : VM.hasT Tryz.prog 22 = true := by kernel_rfl
theorem aggT_22 : VM.aggT Tryz.prog 22 = some false := by kernel_rfl
theorem zeroT_22 : VM.zeroT Tryz.prog 22 = some [.list true 1 []] := by kernel_rfl
theorem cellsOf_24 : Program.cellsOf Tryz.prog 24 = 1 := by kernel_rfl
theorem bytesOf_24 : Program.bytesOf Tryz.prog 24 = 24 := by kernel_rfl
theorem elemT_24 : VM.elemT Tryz.prog 24 = some 9 := by kernel_rfl
theorem strT_24 : VM.strT Tryz.prog 24 = false := by kernel_rfl
theorem boolT_24 : VM.boolT Tryz.prog 24 = false := by kernel_rfl
theorem intT_24 : VM.intT Tryz.prog 24 = none := by kernel_rfl
theorem hasT_24 : VM.hasT Tryz.prog 24 = true := by kernel_rfl
theorem aggT_24 : VM.aggT Tryz.prog 24 = some false := by kernel_rfl
theorem zeroT_24 : VM.zeroT Tryz.prog 24 = some [.list true 1 []] := by kernel_rfl
theorem cellsOf_25 : Program.cellsOf Tryz.prog 25 = 1 := by kernel_rfl
theorem bytesOf_25 : Program.bytesOf Tryz.prog 25 = 24 := by kernel_rfl
theorem elemT_25 : VM.elemT Tryz.prog 25 = some 3 := by kernel_rfl
theorem strT_25 : VM.strT Tryz.prog 25 = false := by kernel_rfl
theorem boolT_25 : VM.boolT Tryz.prog 25 = false := by kernel_rfl
theorem intT_25 : VM.intT Tryz.prog 25 = none := by kernel_rfl
theorem hasT_25 : VM.hasT Tryz.prog 25 = true := by kernel_rfl
theorem aggT_25 : VM.aggT Tryz.prog 25 = some false := by kernel_rfl
theorem zeroT_25 : VM.zeroT Tryz.prog 25 = some [.list true 1 []] := by kernel_rfl
theorem cellsOf_26 : Program.cellsOf Tryz.prog 26 = 2 := by kernel_rfl
theorem bytesOf_26 : Program.bytesOf Tryz.prog 26 = 48 := by kernel_rfl
theorem elemT_26 : VM.elemT Tryz.prog 26 = none := by kernel_rfl
theorem strT_26 : VM.strT Tryz.prog 26 = false := by kernel_rfl
theorem boolT_26 : VM.boolT Tryz.prog 26 = false := by kernel_rfl
theorem intT_26 : VM.intT Tryz.prog 26 = none := by kernel_rfl
theorem hasT_26 : VM.hasT Tryz.prog 26 = true := by kernel_rfl
theorem aggT_26 : VM.aggT Tryz.prog 26 = some true := by kernel_rfl
theorem zeroT_26 : VM.zeroT Tryz.prog 26 = some [.list true 1 [], .list true 1 []] := by kernel_rfl
theorem fieldT_26_0 : VM.fieldT Tryz.prog 26 0 = some (0, 24) := by kernel_rfl
theorem fieldT_26_1 : VM.fieldT Tryz.prog 26 1 = some (1, 25) := by kernel_rfl
theorem placesT_26 : VM.placesT Tryz.prog 26 = some [(0, 1, 24), (1, 1, 25)] := by kernel_rfl
theorem cellsOf_27 : Program.cellsOf Tryz.prog 27 = 2 := by kernel_rfl
theorem bytesOf_27 : Program.bytesOf Tryz.prog 27 = 48 := by kernel_rfl
theorem elemT_27 : VM.elemT Tryz.prog 27 = none := by kernel_rfl
theorem strT_27 : VM.strT Tryz.prog 27 = false := by kernel_rfl
theorem boolT_27 : VM.boolT Tryz.prog 27 = false := by kernel_rfl
theorem intT_27 : VM.intT Tryz.prog 27 = none := by kernel_rfl
theorem hasT_27 : VM.hasT Tryz.prog 27 = true := by kernel_rfl
theorem aggT_27 : VM.aggT Tryz.prog 27 = some true := by kernel_rfl
theorem zeroT_27 : VM.zeroT Tryz.prog 27 = some [.list true 1 [], .list true 1 []] := by kernel_rfl
theorem fieldT_27_0 : VM.fieldT Tryz.prog 27 0 = some (0, 24) := by kernel_rfl
theorem fieldT_27_1 : VM.fieldT Tryz.prog 27 1 = some (1, 25) := by kernel_rfl
theorem placesT_27 : VM.placesT Tryz.prog 27 = some [(0, 1, 24), (1, 1, 25)] := by kernel_rfl
theorem cellsOf_32 : Program.cellsOf Tryz.prog 32 = 4 := by kernel_rfl
theorem bytesOf_32 : Program.bytesOf Tryz.prog 32 = 80 := by kernel_rfl
theorem elemT_32 : VM.elemT Tryz.prog 32 = none := by kernel_rfl
theorem strT_32 : VM.strT Tryz.prog 32 = false := by kernel_rfl
theorem boolT_32 : VM.boolT Tryz.prog 32 = false := by kernel_rfl
theorem intT_32 : VM.intT Tryz.prog 32 = none := by kernel_rfl
theorem hasT_32 : VM.hasT Tryz.prog 32 = true := by kernel_rfl
theorem aggT_32 : VM.aggT Tryz.prog 32 = some true := by kernel_rfl
theorem zeroT_32 : VM.zeroT Tryz.prog 32 = some [.list true 1 [], .list true 1 [], .list true 1 [], .int .i64 0] := by kernel_rfl
theorem fieldT_32_0 : VM.fieldT Tryz.prog 32 0 = some (0, 27) := by kernel_rfl
theorem fieldT_32_1 : VM.fieldT Tryz.prog 32 1 = some (2, 25) := by kernel_rfl
theorem fieldT_32_2 : VM.fieldT Tryz.prog 32 2 = some (3, 3) := by kernel_rfl
theorem placesT_32 : VM.placesT Tryz.prog 32 = some [(0, 2, 27), (2, 1, 25), (3, 1, 3)] := by kernel_rfl
theorem cellsOf_33 : Program.cellsOf Tryz.prog 33 = 4 := by kernel_rfl
theorem bytesOf_33 : Program.bytesOf Tryz.prog 33 = 80 := by kernel_rfl
theorem elemT_33 : VM.elemT Tryz.prog 33 = none := by kernel_rfl
theorem strT_33 : VM.strT Tryz.prog 33 = false := by kernel_rfl
theorem boolT_33 : VM.boolT Tryz.prog 33 = false := by kernel_rfl
theorem intT_33 : VM.intT Tryz.prog 33 = none := by kernel_rfl
theorem hasT_33 : VM.hasT Tryz.prog 33 = true := by kernel_rfl
theorem aggT_33 : VM.aggT Tryz.prog 33 = some true := by kernel_rfl
theorem zeroT_33 : VM.zeroT Tryz.prog 33 = some [.list true 1 [], .list true 1 [], .list true 1 [], .int .i64 0] := by kernel_rfl
theorem fieldT_33_0 : VM.fieldT Tryz.prog 33 0 = some (0, 27) := by kernel_rfl
theorem fieldT_33_1 : VM.fieldT Tryz.prog 33 1 = some (2, 25) := by kernel_rfl
theorem fieldT_33_2 : VM.fieldT Tryz.prog 33 2 = some (3, 3) := by kernel_rfl
theorem placesT_33 : VM.placesT Tryz.prog 33 = some [(0, 2, 27), (2, 1, 25), (3, 1, 3)] := by kernel_rfl
theorem cellsOf_53 : Program.cellsOf Tryz.prog 53 = 3 := by kernel_rfl
theorem bytesOf_53 : Program.bytesOf Tryz.prog 53 = 40 := by kernel_rfl
theorem elemT_53 : VM.elemT Tryz.prog 53 = none := by kernel_rfl
theorem strT_53 : VM.strT Tryz.prog 53 = false := by kernel_rfl
theorem boolT_53 : VM.boolT Tryz.prog 53 = false := by kernel_rfl
theorem intT_53 : VM.intT Tryz.prog 53 = none := by kernel_rfl
theorem hasT_53 : VM.hasT Tryz.prog 53 = true := by kernel_rfl
theorem aggT_53 : VM.aggT Tryz.prog 53 = some true := by kernel_rfl
theorem zeroT_53 : VM.zeroT Tryz.prog 53 = some [.list true 1 [], .int .i64 0, .int .i64 0] := by kernel_rfl
theorem fieldT_53_0 : VM.fieldT Tryz.prog 53 0 = some (0, 22) := by kernel_rfl
theorem fieldT_53_1 : VM.fieldT Tryz.prog 53 1 = some (1, 3) := by kernel_rfl
theorem fieldT_53_2 : VM.fieldT Tryz.prog 53 2 = some (2, 3) := by kernel_rfl
theorem placesT_53 : VM.placesT Tryz.prog 53 = some [(0, 1, 22), (1, 1, 3), (2, 1, 3)] := by kernel_rfl
theorem cellsOf_54 : Program.cellsOf Tryz.prog 54 = 3 := by kernel_rfl
theorem bytesOf_54 : Program.bytesOf Tryz.prog 54 = 40 := by kernel_rfl
theorem elemT_54 : VM.elemT Tryz.prog 54 = none := by kernel_rfl
theorem strT_54 : VM.strT Tryz.prog 54 = false := by kernel_rfl
theorem boolT_54 : VM.boolT Tryz.prog 54 = false := by kernel_rfl
theorem intT_54 : VM.intT Tryz.prog 54 = none := by kernel_rfl
theorem hasT_54 : VM.hasT Tryz.prog 54 = true := by kernel_rfl
theorem aggT_54 : VM.aggT Tryz.prog 54 = some true := by kernel_rfl
theorem zeroT_54 : VM.zeroT Tryz.prog 54 = some [.list true 1 [], .int .i64 0, .int .i64 0] := by kernel_rfl
theorem fieldT_54_0 : VM.fieldT Tryz.prog 54 0 = some (0, 22) := by kernel_rfl
theorem fieldT_54_1 : VM.fieldT Tryz.prog 54 1 = some (1, 3) := by kernel_rfl
theorem fieldT_54_2 : VM.fieldT Tryz.prog 54 2 = some (2, 3) := by kernel_rfl
theorem placesT_54 : VM.placesT Tryz.prog 54 = some [(0, 1, 22), (1, 1, 3), (2, 1, 3)] := by kernel_rfl
theorem cellsOf_56 : Program.cellsOf Tryz.prog 56 = 1 := by kernel_rfl
theorem bytesOf_56 : Program.bytesOf Tryz.prog 56 = 8 := by kernel_rfl
theorem elemT_56 : VM.elemT Tryz.prog 56 = none := by kernel_rfl
theorem strT_56 : VM.strT Tryz.prog 56 = false := by kernel_rfl
theorem boolT_56 : VM.boolT Tryz.prog 56 = false := by kernel_rfl
theorem intT_56 : VM.intT Tryz.prog 56 = none := by kernel_rfl
theorem hasT_56 : VM.hasT Tryz.prog 56 = true := by kernel_rfl
theorem aggT_56 : VM.aggT Tryz.prog 56 = some false := by kernel_rfl
theorem cellsOf_58 : Program.cellsOf Tryz.prog 58 = 1 := by kernel_rfl
theorem bytesOf_58 : Program.bytesOf Tryz.prog 58 = 8 := by kernel_rfl
theorem elemT_58 : VM.elemT Tryz.prog 58 = none := by kernel_rfl
theorem strT_58 : VM.strT Tryz.prog 58 = false := by kernel_rfl
theorem boolT_58 : VM.boolT Tryz.prog 58 = false := by kernel_rfl
theorem intT_58 : VM.intT Tryz.prog 58 = none := by kernel_rfl
theorem hasT_58 : VM.hasT Tryz.prog 58 = true := by kernel_rfl
theorem aggT_58 : VM.aggT Tryz.prog 58 = some false := by kernel_rfl
theorem cellsOf_63 : Program.cellsOf Tryz.prog 63 = 3 := by kernel_rfl
theorem bytesOf_63 : Program.bytesOf Tryz.prog 63 = 32 := by kernel_rfl
theorem elemT_63 : VM.elemT Tryz.prog 63 = none := by kernel_rfl
theorem strT_63 : VM.strT Tryz.prog 63 = false := by kernel_rfl
theorem boolT_63 : VM.boolT Tryz.prog 63 = false := by kernel_rfl
theorem intT_63 : VM.intT Tryz.prog 63 = none := by kernel_rfl
theorem hasT_63 : VM.hasT Tryz.prog 63 = true := by kernel_rfl
theorem aggT_63 : VM.aggT Tryz.prog 63 = some true := by kernel_rfl
theorem zeroT_63 : VM.zeroT Tryz.prog 63 = some [.int .i64 0, .int .i64 0, .str ⟨#[]⟩] := by kernel_rfl
theorem fieldT_63_0 : VM.fieldT Tryz.prog 63 0 = some (0, 3) := by kernel_rfl
theorem fieldT_63_1 : VM.fieldT Tryz.prog 63 1 = some (1, 3) := by kernel_rfl
theorem fieldT_63_2 : VM.fieldT Tryz.prog 63 2 = some (2, 9) := by kernel_rfl
theorem placesT_63 : VM.placesT Tryz.prog 63 = some [(0, 1, 3), (1, 1, 3), (2, 1, 9)] := by kernel_rfl
theorem flatT_63 : VM.flatT Tryz.prog 63 = some [.int .i64, .int .i64, .string] := by kernel_rfl
theorem cellsOf_64 : Program.cellsOf Tryz.prog 64 = 3 := by kernel_rfl
theorem bytesOf_64 : Program.bytesOf Tryz.prog 64 = 32 := by kernel_rfl
theorem elemT_64 : VM.elemT Tryz.prog 64 = none := by kernel_rfl
theorem strT_64 : VM.strT Tryz.prog 64 = false := by kernel_rfl
theorem boolT_64 : VM.boolT Tryz.prog 64 = false := by kernel_rfl
theorem intT_64 : VM.intT Tryz.prog 64 = none := by kernel_rfl
theorem hasT_64 : VM.hasT Tryz.prog 64 = true := by kernel_rfl
theorem aggT_64 : VM.aggT Tryz.prog 64 = some true := by kernel_rfl
theorem zeroT_64 : VM.zeroT Tryz.prog 64 = some [.int .i64 0, .int .i64 0, .str ⟨#[]⟩] := by kernel_rfl
theorem fieldT_64_0 : VM.fieldT Tryz.prog 64 0 = some (0, 3) := by kernel_rfl
theorem fieldT_64_1 : VM.fieldT Tryz.prog 64 1 = some (1, 3) := by kernel_rfl
theorem fieldT_64_2 : VM.fieldT Tryz.prog 64 2 = some (2, 9) := by kernel_rfl
theorem placesT_64 : VM.placesT Tryz.prog 64 = some [(0, 1, 3), (1, 1, 3), (2, 1, 9)] := by kernel_rfl
theorem flatT_64 : VM.flatT Tryz.prog 64 = some [.int .i64, .int .i64, .string] := by kernel_rfl
theorem cellsOf_73 : Program.cellsOf Tryz.prog 73 = 1 := by kernel_rfl
theorem bytesOf_73 : Program.bytesOf Tryz.prog 73 = 24 := by kernel_rfl
theorem elemT_73 : VM.elemT Tryz.prog 73 = some 104 := by kernel_rfl
theorem strT_73 : VM.strT Tryz.prog 73 = false := by kernel_rfl
theorem boolT_73 : VM.boolT Tryz.prog 73 = false := by kernel_rfl
theorem intT_73 : VM.intT Tryz.prog 73 = none := by kernel_rfl
theorem hasT_73 : VM.hasT Tryz.prog 73 = true := by kernel_rfl
theorem aggT_73 : VM.aggT Tryz.prog 73 = some false := by kernel_rfl
theorem zeroT_73 : VM.zeroT Tryz.prog 73 = some [.list true 3 []] := by kernel_rfl
theorem cellsOf_77 : Program.cellsOf Tryz.prog 77 = 1 := by kernel_rfl
theorem bytesOf_77 : Program.bytesOf Tryz.prog 77 = 8 := by kernel_rfl
theorem elemT_77 : VM.elemT Tryz.prog 77 = none := by kernel_rfl
theorem strT_77 : VM.strT Tryz.prog 77 = false := by kernel_rfl
theorem boolT_77 : VM.boolT Tryz.prog 77 = false := by kernel_rfl
theorem intT_77 : VM.intT Tryz.prog 77 = some .u64 := by kernel_rfl
theorem hasT_77 : VM.hasT Tryz.prog 77 = true := by kernel_rfl
theorem aggT_77 : VM.aggT Tryz.prog 77 = some false := by kernel_rfl
theorem zeroT_77 : VM.zeroT Tryz.prog 77 = some [.int .u64 0] := by kernel_rfl
theorem cellsOf_96 : Program.cellsOf Tryz.prog 96 = 6 := by kernel_rfl
theorem bytesOf_96 : Program.bytesOf Tryz.prog 96 = 112 := by kernel_rfl
theorem elemT_96 : VM.elemT Tryz.prog 96 = none := by kernel_rfl
theorem strT_96 : VM.strT Tryz.prog 96 = false := by kernel_rfl
theorem boolT_96 : VM.boolT Tryz.prog 96 = false := by kernel_rfl
theorem intT_96 : VM.intT Tryz.prog 96 = none := by kernel_rfl
theorem hasT_96 : VM.hasT Tryz.prog 96 = true := by kernel_rfl
theorem aggT_96 : VM.aggT Tryz.prog 96 = some true := by kernel_rfl
theorem zeroT_96 : VM.zeroT Tryz.prog 96 = some [.list true 1 [], .list true 1 [], .list true 1 [], .int .i64 0, .list true 3 [], .bool false] := by kernel_rfl
theorem fieldT_96_0 : VM.fieldT Tryz.prog 96 0 = some (0, 33) := by kernel_rfl
theorem fieldT_96_1 : VM.fieldT Tryz.prog 96 1 = some (4, 73) := by kernel_rfl
theorem fieldT_96_2 : VM.fieldT Tryz.prog 96 2 = some (5, 4) := by kernel_rfl
theorem placesT_96 : VM.placesT Tryz.prog 96 = some [(0, 4, 33), (4, 1, 73), (5, 1, 4)] := by kernel_rfl
theorem cellsOf_97 : Program.cellsOf Tryz.prog 97 = 6 := by kernel_rfl
theorem bytesOf_97 : Program.bytesOf Tryz.prog 97 = 112 := by kernel_rfl
theorem elemT_97 : VM.elemT Tryz.prog 97 = none := by kernel_rfl
theorem strT_97 : VM.strT Tryz.prog 97 = false := by kernel_rfl
theorem boolT_97 : VM.boolT Tryz.prog 97 = false := by kernel_rfl
theorem intT_97 : VM.intT Tryz.prog 97 = none := by kernel_rfl
theorem hasT_97 : VM.hasT Tryz.prog 97 = true := by kernel_rfl
theorem aggT_97 : VM.aggT Tryz.prog 97 = some true := by kernel_rfl
theorem zeroT_97 : VM.zeroT Tryz.prog 97 = some [.list true 1 [], .list true 1 [], .list true 1 [], .int .i64 0, .list true 3 [], .bool false] := by kernel_rfl
theorem fieldT_97_0 : VM.fieldT Tryz.prog 97 0 = some (0, 33) := by kernel_rfl
theorem fieldT_97_1 : VM.fieldT Tryz.prog 97 1 = some (4, 73) := by kernel_rfl
theorem fieldT_97_2 : VM.fieldT Tryz.prog 97 2 = some (5, 4) := by kernel_rfl
theorem placesT_97 : VM.placesT Tryz.prog 97 = some [(0, 4, 33), (4, 1, 73), (5, 1, 4)] := by kernel_rfl
theorem cellsOf_103 : Program.cellsOf Tryz.prog 103 = 3 := by kernel_rfl
theorem bytesOf_103 : Program.bytesOf Tryz.prog 103 = 32 := by kernel_rfl
theorem elemT_103 : VM.elemT Tryz.prog 103 = none := by kernel_rfl
theorem strT_103 : VM.strT Tryz.prog 103 = false := by kernel_rfl
theorem boolT_103 : VM.boolT Tryz.prog 103 = false := by kernel_rfl
theorem intT_103 : VM.intT Tryz.prog 103 = none := by kernel_rfl
theorem hasT_103 : VM.hasT Tryz.prog 103 = true := by kernel_rfl
theorem aggT_103 : VM.aggT Tryz.prog 103 = some true := by kernel_rfl
theorem zeroT_103 : VM.zeroT Tryz.prog 103 = some [.int .i64 0, .int .i64 0, .str ⟨#[]⟩] := by kernel_rfl
theorem fieldT_103_0 : VM.fieldT Tryz.prog 103 0 = some (0, 3) := by kernel_rfl
theorem fieldT_103_1 : VM.fieldT Tryz.prog 103 1 = some (1, 3) := by kernel_rfl
theorem fieldT_103_2 : VM.fieldT Tryz.prog 103 2 = some (2, 9) := by kernel_rfl
theorem placesT_103 : VM.placesT Tryz.prog 103 = some [(0, 1, 3), (1, 1, 3), (2, 1, 9)] := by kernel_rfl
theorem flatT_103 : VM.flatT Tryz.prog 103 = some [.int .i64, .int .i64, .string] := by kernel_rfl
theorem cellsOf_104 : Program.cellsOf Tryz.prog 104 = 3 := by kernel_rfl
theorem bytesOf_104 : Program.bytesOf Tryz.prog 104 = 32 := by kernel_rfl
theorem elemT_104 : VM.elemT Tryz.prog 104 = none := by kernel_rfl
theorem strT_104 : VM.strT Tryz.prog 104 = false := by kernel_rfl
theorem boolT_104 : VM.boolT Tryz.prog 104 = false := by kernel_rfl
theorem intT_104 : VM.intT Tryz.prog 104 = none := by kernel_rfl
theorem hasT_104 : VM.hasT Tryz.prog 104 = true := by kernel_rfl
theorem aggT_104 : VM.aggT Tryz.prog 104 = some true := by kernel_rfl
theorem zeroT_104 : VM.zeroT Tryz.prog 104 = some [.int .i64 0, .int .i64 0, .str ⟨#[]⟩] := by kernel_rfl
theorem fieldT_104_0 : VM.fieldT Tryz.prog 104 0 = some (0, 3) := by kernel_rfl
theorem fieldT_104_1 : VM.fieldT Tryz.prog 104 1 = some (1, 3) := by kernel_rfl
theorem fieldT_104_2 : VM.fieldT Tryz.prog 104 2 = some (2, 9) := by kernel_rfl
theorem placesT_104 : VM.placesT Tryz.prog 104 = some [(0, 1, 3), (1, 1, 3), (2, 1, 9)] := by kernel_rfl
theorem flatT_104 : VM.flatT Tryz.prog 104 = some [.int .i64, .int .i64, .string] := by kernel_rfl
theorem cellsOf_111 : Program.cellsOf Tryz.prog 111 = 1 := by kernel_rfl
theorem bytesOf_111 : Program.bytesOf Tryz.prog 111 = 8 := by kernel_rfl
theorem elemT_111 : VM.elemT Tryz.prog 111 = none := by kernel_rfl
theorem strT_111 : VM.strT Tryz.prog 111 = false := by kernel_rfl
theorem boolT_111 : VM.boolT Tryz.prog 111 = false := by kernel_rfl
theorem intT_111 : VM.intT Tryz.prog 111 = some .i64 := by kernel_rfl
theorem hasT_111 : VM.hasT Tryz.prog 111 = true := by kernel_rfl
theorem aggT_111 : VM.aggT Tryz.prog 111 = some false := by kernel_rfl
theorem zeroT_111 : VM.zeroT Tryz.prog 111 = some [.int .i64 0] := by kernel_rfl
theorem cellsOf_120 : Program.cellsOf Tryz.prog 120 = 1 := by kernel_rfl
theorem bytesOf_120 : Program.bytesOf Tryz.prog 120 = 4 := by kernel_rfl
theorem elemT_120 : VM.elemT Tryz.prog 120 = none := by kernel_rfl
theorem strT_120 : VM.strT Tryz.prog 120 = false := by kernel_rfl
theorem boolT_120 : VM.boolT Tryz.prog 120 = false := by kernel_rfl
theorem intT_120 : VM.intT Tryz.prog 120 = some .u32 := by kernel_rfl
theorem hasT_120 : VM.hasT Tryz.prog 120 = true := by kernel_rfl
theorem aggT_120 : VM.aggT Tryz.prog 120 = some false := by kernel_rfl
theorem zeroT_120 : VM.zeroT Tryz.prog 120 = some [.int .u32 0] := by kernel_rfl
theorem cellsOf_122 : Program.cellsOf Tryz.prog 122 = 1 := by kernel_rfl
theorem bytesOf_122 : Program.bytesOf Tryz.prog 122 = 8 := by kernel_rfl
theorem elemT_122 : VM.elemT Tryz.prog 122 = none := by kernel_rfl
theorem strT_122 : VM.strT Tryz.prog 122 = false := by kernel_rfl
theorem boolT_122 : VM.boolT Tryz.prog 122 = false := by kernel_rfl
theorem intT_122 : VM.intT Tryz.prog 122 = some .u64 := by kernel_rfl
theorem hasT_122 : VM.hasT Tryz.prog 122 = true := by kernel_rfl
theorem aggT_122 : VM.aggT Tryz.prog 122 = some false := by kernel_rfl
theorem zeroT_122 : VM.zeroT Tryz.prog 122 = some [.int .u64 0] := by kernel_rfl
theorem cellsOf_123 : Program.cellsOf Tryz.prog 123 = 3 := by kernel_rfl
theorem bytesOf_123 : Program.bytesOf Tryz.prog 123 = 40 := by kernel_rfl
theorem elemT_123 : VM.elemT Tryz.prog 123 = none := by kernel_rfl
theorem strT_123 : VM.strT Tryz.prog 123 = false := by kernel_rfl
theorem boolT_123 : VM.boolT Tryz.prog 123 = false := by kernel_rfl
theorem intT_123 : VM.intT Tryz.prog 123 = none := by kernel_rfl
theorem hasT_123 : VM.hasT Tryz.prog 123 = true := by kernel_rfl
theorem aggT_123 : VM.aggT Tryz.prog 123 = some true := by kernel_rfl
theorem zeroT_123 : VM.zeroT Tryz.prog 123 = some [.list true 1 [], .int .i64 0, .bool false] := by kernel_rfl
theorem fieldT_123_0 : VM.fieldT Tryz.prog 123 0 = some (0, 22) := by kernel_rfl
theorem fieldT_123_1 : VM.fieldT Tryz.prog 123 1 = some (1, 3) := by kernel_rfl
theorem fieldT_123_2 : VM.fieldT Tryz.prog 123 2 = some (2, 4) := by kernel_rfl
theorem placesT_123 : VM.placesT Tryz.prog 123 = some [(0, 1, 22), (1, 1, 3), (2, 1, 4)] := by kernel_rfl
theorem cellsOf_124 : Program.cellsOf Tryz.prog 124 = 3 := by kernel_rfl
theorem bytesOf_124 : Program.bytesOf Tryz.prog 124 = 40 := by kernel_rfl
theorem elemT_124 : VM.elemT Tryz.prog 124 = none := by kernel_rfl
theorem strT_124 : VM.strT Tryz.prog 124 = false := by kernel_rfl
theorem boolT_124 : VM.boolT Tryz.prog 124 = false := by kernel_rfl
theorem intT_124 : VM.intT Tryz.prog 124 = none := by kernel_rfl
theorem hasT_124 : VM.hasT Tryz.prog 124 = true := by kernel_rfl
theorem aggT_124 : VM.aggT Tryz.prog 124 = some true := by kernel_rfl
theorem zeroT_124 : VM.zeroT Tryz.prog 124 = some [.list true 1 [], .int .i64 0, .bool false] := by kernel_rfl
theorem fieldT_124_0 : VM.fieldT Tryz.prog 124 0 = some (0, 22) := by kernel_rfl
theorem fieldT_124_1 : VM.fieldT Tryz.prog 124 1 = some (1, 3) := by kernel_rfl
theorem fieldT_124_2 : VM.fieldT Tryz.prog 124 2 = some (2, 4) := by kernel_rfl
theorem placesT_124 : VM.placesT Tryz.prog 124 = some [(0, 1, 22), (1, 1, 3), (2, 1, 4)] := by kernel_rfl
theorem cellsOf_137 : Program.cellsOf Tryz.prog 137 = 1 := by kernel_rfl
theorem bytesOf_137 : Program.bytesOf Tryz.prog 137 = 8 := by kernel_rfl
theorem elemT_137 : VM.elemT Tryz.prog 137 = none := by kernel_rfl
theorem strT_137 : VM.strT Tryz.prog 137 = false := by kernel_rfl
theorem boolT_137 : VM.boolT Tryz.prog 137 = false := by kernel_rfl
theorem intT_137 : VM.intT Tryz.prog 137 = some .u64 := by kernel_rfl
theorem hasT_137 : VM.hasT Tryz.prog 137 = true := by kernel_rfl
theorem aggT_137 : VM.aggT Tryz.prog 137 = some false := by kernel_rfl
theorem zeroT_137 : VM.zeroT Tryz.prog 137 = some [.int .u64 0] := by kernel_rfl
attribute [go_sem] cellsOf_3 bytesOf_3 elemT_3 strT_3 boolT_3 intT_3 hasT_3 aggT_3 zeroT_3 cellsOf_4 bytesOf_4 elemT_4 strT_4 boolT_4 intT_4 hasT_4 aggT_4 zeroT_4 cellsOf_5 bytesOf_5 elemT_5 strT_5 boolT_5 intT_5 hasT_5 aggT_5 zeroT_5 cellsOf_9 bytesOf_9 elemT_9 strT_9 boolT_9 intT_9 hasT_9 aggT_9 zeroT_9 cellsOf_22 bytesOf_22 elemT_22 strT_22 boolT_22 intT_22 hasT_22 aggT_22 zeroT_22 cellsOf_24 bytesOf_24 elemT_24 strT_24 boolT_24 intT_24 hasT_24 aggT_24 zeroT_24 cellsOf_25 bytesOf_25 elemT_25 strT_25 boolT_25 intT_25 hasT_25 aggT_25 zeroT_25 cellsOf_26 bytesOf_26 elemT_26 strT_26 boolT_26 intT_26 hasT_26 aggT_26 zeroT_26 fieldT_26_0 fieldT_26_1 placesT_26 cellsOf_27 bytesOf_27 elemT_27 strT_27 boolT_27 intT_27 hasT_27 aggT_27 zeroT_27 fieldT_27_0 fieldT_27_1 placesT_27 cellsOf_32 bytesOf_32 elemT_32 strT_32 boolT_32 intT_32 hasT_32 aggT_32 zeroT_32 fieldT_32_0 fieldT_32_1 fieldT_32_2 placesT_32 cellsOf_33 bytesOf_33 elemT_33 strT_33 boolT_33 intT_33 hasT_33 aggT_33 zeroT_33 fieldT_33_0 fieldT_33_1 fieldT_33_2 placesT_33 cellsOf_53 bytesOf_53 elemT_53 strT_53 boolT_53 intT_53 hasT_53 aggT_53 zeroT_53 fieldT_53_0 fieldT_53_1 fieldT_53_2 placesT_53 cellsOf_54 bytesOf_54 elemT_54 strT_54 boolT_54 intT_54 hasT_54 aggT_54 zeroT_54 fieldT_54_0 fieldT_54_1 fieldT_54_2 placesT_54 cellsOf_56 bytesOf_56 elemT_56 strT_56 boolT_56 intT_56 hasT_56 aggT_56 cellsOf_58 bytesOf_58 elemT_58 strT_58 boolT_58 intT_58 hasT_58 aggT_58 cellsOf_63 bytesOf_63 elemT_63 strT_63 boolT_63 intT_63 hasT_63 aggT_63 zeroT_63 fieldT_63_0 fieldT_63_1 fieldT_63_2 placesT_63 flatT_63 cellsOf_64 bytesOf_64 elemT_64 strT_64 boolT_64 intT_64 hasT_64 aggT_64 zeroT_64 fieldT_64_0 fieldT_64_1 fieldT_64_2 placesT_64 flatT_64 cellsOf_73 bytesOf_73 elemT_73 strT_73 boolT_73 intT_73 hasT_73 aggT_73 zeroT_73 cellsOf_77 bytesOf_77 elemT_77 strT_77 boolT_77 intT_77 hasT_77 aggT_77 zeroT_77 cellsOf_96 bytesOf_96 elemT_96 strT_96 boolT_96 intT_96 hasT_96 aggT_96 zeroT_96 fieldT_96_0 fieldT_96_1 fieldT_96_2 placesT_96 cellsOf_97 bytesOf_97 elemT_97 strT_97 boolT_97 intT_97 hasT_97 aggT_97 zeroT_97 fieldT_97_0 fieldT_97_1 fieldT_97_2 placesT_97 cellsOf_103 bytesOf_103 elemT_103 strT_103 boolT_103 intT_103 hasT_103 aggT_103 zeroT_103 fieldT_103_0 fieldT_103_1 fieldT_103_2 placesT_103 flatT_103 cellsOf_104 bytesOf_104 elemT_104 strT_104 boolT_104 intT_104 hasT_104 aggT_104 zeroT_104 fieldT_104_0 fieldT_104_1 fieldT_104_2 placesT_104 flatT_104 cellsOf_111 bytesOf_111 elemT_111 strT_111 boolT_111 intT_111 hasT_111 aggT_111 zeroT_111 cellsOf_120 bytesOf_120 elemT_120 strT_120 boolT_120 intT_120 hasT_120 aggT_120 zeroT_120 cellsOf_122 bytesOf_122 elemT_122 strT_122 boolT_122 intT_122 hasT_122 aggT_122 zeroT_122 cellsOf_123 bytesOf_123 elemT_123 strT_123 boolT_123 intT_123 hasT_123 aggT_123 zeroT_123 fieldT_123_0 fieldT_123_1 fieldT_123_2 placesT_123 cellsOf_124 bytesOf_124 elemT_124 strT_124 boolT_124 intT_124 hasT_124 aggT_124 zeroT_124 fieldT_124_0 fieldT_124_1 fieldT_124_2 placesT_124 cellsOf_137 bytesOf_137 elemT_137 strT_137 boolT_137 intT_137 hasT_137 aggT_137 zeroT_137
end Go.Proofs.YtkijdbljnefeaaaGreat
