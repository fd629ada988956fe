/- What the machine asks of the program's types. Printed by a program (facts.py). -/
import Derived.Test.YtppbonbghmdhhaaPVUse
import Derived.Test.YtppbonbghmdhhaaProg
import Derived.KernelRfl
namespace Go.Proofs.Ytppbonbghmdhhaa
theorem cellsOf_3 : Program.cellsOf Try.prog 3 = 1 := by kernel_rfl
theorem bytesOf_3 : Program.bytesOf Try.prog 3 = 8 := by kernel_rfl
theorem elemT_3 : VM.elemT Try.prog 3 = none := by kernel_rfl
theorem strT_3 : VM.strT Try.prog 3 = false := by kernel_rfl
theorem boolT_3 : VM.boolT Try.prog 3 = false := by kernel_rfl
theorem intT_3 : VM.intT Try.prog 3 = some .i64 := by kernel_rfl
theorem hasT_3 : VM.hasT Try.prog 3 = true := by kernel_rfl
theorem aggT_3 : VM.aggT Try.prog 3 = some false := by kernel_rfl
theorem zeroT_3 : VM.zeroT Try.prog 3 = some [.int .i64 0] := by kernel_rfl
theorem cellsOf_4 : Program.cellsOf Try.prog 4 = 1 := by kernel_rfl
theorem bytesOf_4 : Program.bytesOf Try.prog 4 = 1 := by kernel_rfl
theorem elemT_4 : VM.elemT Try.prog 4 = none := by kernel_rfl
theorem strT_4 : VM.strT Try.prog 4 = false := by kernel_rfl
theorem boolT_4 : VM.boolT Try.prog 4 = true := by kernel_rfl
theorem intT_4 : VM.intT Try.prog 4 = none := by kernel_rfl
theorem hasT_4 : VM.hasT Try.prog 4 = true := by kernel_rfl
theorem aggT_4 : VM.aggT Try.prog 4 = some false := by kernel_rfl
theorem zeroT_4 : VM.zeroT Try.prog 4 = some [.bool false] := by kernel_rfl
theorem cellsOf_5 : Program.cellsOf Try.prog 5 = 1 := by kernel_rfl
theorem bytesOf_5 : Program.bytesOf Try.prog 5 = 1 := by kernel_rfl
theorem elemT_5 : VM.elemT Try.prog 5 = none := by kernel_rfl
theorem strT_5 : VM.strT Try.prog 5 = false := by kernel_rfl
theorem boolT_5 : VM.boolT Try.prog 5 = false := by kernel_rfl
theorem intT_5 : VM.intT Try.prog 5 = some .u8 := by kernel_rfl
theorem hasT_5 : VM.hasT Try.prog 5 = true := by kernel_rfl
theorem aggT_5 : VM.aggT Try.prog 5 = some false := by kernel_rfl
theorem zeroT_5 : VM.zeroT Try.prog 5 = some [.int .u8 0] := by kernel_rfl
theorem cellsOf_9 : Program.cellsOf Try.prog 9 = 1 := by kernel_rfl
theorem bytesOf_9 : Program.bytesOf Try.prog 9 = 16 := by kernel_rfl
theorem elemT_9 : VM.elemT Try.prog 9 = none := by kernel_rfl
theorem strT_9 : VM.strT Try.prog 9 = true := by kernel_rfl
theorem boolT_9 : VM.boolT Try.prog 9 = false := by kernel_rfl
theorem intT_9 : VM.intT Try.prog 9 = none := by kernel_rfl
theorem hasT_9 : VM.hasT Try.prog 9 = true := by kernel_rfl
theorem aggT_9 : VM.aggT Try.prog 9 = some false := by kernel_rfl
theorem zeroT_9 : VM.zeroT Try.prog 9 = some [.str ⟨#[]⟩] := by kernel_rfl
theorem cellsOf_22 : Program.cellsOf Try.prog 22 = 1 := by kernel_rfl
theorem bytesOf_22 : Program.bytesOf Try.prog 22 = 24 := by kernel_rfl
theorem elemT_22 : VM.elemT Try.prog 22 = some 9 := by kernel_rfl
theorem strT_22 : VM.strT Try.prog 22 = false := by kernel_rfl
theorem boolT_22 : VM.boolT Try.prog 22 = false := by kernel_rfl
theorem intT_22 : VM.intT Try.prog 22 = none := by kernel_rfl
theorem hasT_22 : VM.hasT Try.prog 22 = true := by kernel_rfl
theorem aggT_22 : VM.aggT Try.prog 22 = some false := by kernel_rfl
theorem zeroT_22 : VM.zeroT Try.prog 22 = some [.list true 1 []] := by kernel_rfl
theorem cellsOf_24 : Program.cellsOf Try.prog 24 = 1 := by kernel_rfl
theorem bytesOf_24 : Program.bytesOf Try.prog 24 = 24 := by kernel_rfl
theorem elemT_24 : VM.elemT Try.prog 24 = some 109 := by kernel_rfl
theorem strT_24 : VM.strT Try.prog 24 = false := by kernel_rfl
theorem boolT_24 : VM.boolT Try.prog 24 = false := by kernel_rfl
theorem intT_24 : VM.intT Try.prog 24 = none := by kernel_rfl
theorem hasT_24 : VM.hasT Try.prog 24 = true := by kernel_rfl
theorem aggT_24 : VM.aggT Try.prog 24 = some false := by kernel_rfl
theorem zeroT_24 : VM.zeroT Try.prog 24 = some [.list true 3 []] := by kernel_rfl
theorem cellsOf_31 : Program.cellsOf Try.prog 31 = 1 := by kernel_rfl
theorem bytesOf_31 : Program.bytesOf Try.prog 31 = 24 := by kernel_rfl
theorem elemT_31 : VM.elemT Try.prog 31 = some 3 := by kernel_rfl
theorem strT_31 : VM.strT Try.prog 31 = false := by kernel_rfl
theorem boolT_31 : VM.boolT Try.prog 31 = false := by kernel_rfl
theorem intT_31 : VM.intT Try.prog 31 = none := by kernel_rfl
theorem hasT_31 : VM.hasT Try.prog 31 = true := by kernel_rfl
theorem aggT_31 : VM.aggT Try.prog 31 = some false := by kernel_rfl
theorem zeroT_31 : VM.zeroT Try.prog 31 = some [.list true 1 []] := by kernel_rfl
theorem cellsOf_32 : Program.cellsOf Try.prog 32 = 2 := by kernel_rfl
theorem bytesOf_32 : Program.bytesOf Try.prog 32 = 48 := by kernel_rfl
theorem elemT_32 : VM.elemT Try.prog 32 = none := by kernel_rfl
theorem strT_32 : VM.strT Try.prog 32 = false := by kernel_rfl
theorem boolT_32 : VM.boolT Try.prog 32 = false := by kernel_rfl
theorem intT_32 : VM.intT Try.prog 32 = none := by kernel_rfl
theorem hasT_32 : VM.hasT Try.prog 32 = true := by kernel_rfl
theorem aggT_32 : VM.aggT Try.prog 32 = some true := by kernel_rfl
theorem zeroT_32 : VM.zeroT Try.prog 32 = some [.list true 1 [], .list true 1 []] := by kernel_rfl
theorem fieldT_32_0 : VM.fieldT Try.prog 32 0 = some (0, 22) := by kernel_rfl
theorem fieldT_32_1 : VM.fieldT Try.prog 32 1 = some (1, 31) := by kernel_rfl
theorem placesT_32 : VM.placesT Try.prog 32 = some [(0, 1, 22), (1, 1, 31)] := by kernel_rfl
theorem cellsOf_33 : Program.cellsOf Try.prog 33 = 2 := by kernel_rfl
theorem bytesOf_33 : Program.bytesOf Try.prog 33 = 48 := by kernel_rfl
theorem elemT_33 : VM.elemT Try.prog 33 = none := by kernel_rfl
theorem strT_33 : VM.strT Try.prog 33 = false := by kernel_rfl
theorem boolT_33 : VM.boolT Try.prog 33 = false := by kernel_rfl
theorem intT_33 : VM.intT Try.prog 33 = none := by kernel_rfl
theorem hasT_33 : VM.hasT Try.prog 33 = true := by kernel_rfl
theorem aggT_33 : VM.aggT Try.prog 33 = some true := by kernel_rfl
theorem zeroT_33 : VM.zeroT Try.prog 33 = some [.list true 1 [], .list true 1 []] := by kernel_rfl
theorem fieldT_33_0 : VM.fieldT Try.prog 33 0 = some (0, 22) := by kernel_rfl
theorem fieldT_33_1 : VM.fieldT Try.prog 33 1 = some (1, 31) := by kernel_rfl
theorem placesT_33 : VM.placesT Try.prog 33 = some [(0, 1, 22), (1, 1, 31)] := by kernel_rfl
theorem cellsOf_34 : Program.cellsOf Try.prog 34 = 4 := by kernel_rfl
theorem bytesOf_34 : Program.bytesOf Try.prog 34 = 80 := by kernel_rfl
theorem elemT_34 : VM.elemT Try.prog 34 = none := by kernel_rfl
theorem strT_34 : VM.strT Try.prog 34 = false := by kernel_rfl
theorem boolT_34 : VM.boolT Try.prog 34 = false := by kernel_rfl
theorem intT_34 : VM.intT Try.prog 34 = none := by kernel_rfl
theorem hasT_34 : VM.hasT Try.prog 34 = true := by kernel_rfl
theorem aggT_34 : VM.aggT Try.prog 34 = some true := by kernel_rfl
theorem zeroT_34 : VM.zeroT Try.prog 34 = some [.list true 1 [], .list true 1 [], .list true 1 [], .int .i64 0] := by kernel_rfl
theorem fieldT_34_0 : VM.fieldT Try.prog 34 0 = some (0, 33) := by kernel_rfl
theorem fieldT_34_1 : VM.fieldT Try.prog 34 1 = some (2, 31) := by kernel_rfl
theorem fieldT_34_2 : VM.fieldT Try.prog 34 2 = some (3, 3) := by kernel_rfl
theorem placesT_34 : VM.placesT Try.prog 34 = some [(0, 2, 33), (2, 1, 31), (3, 1, 3)] := by kernel_rfl
theorem cellsOf_35 : Program.cellsOf Try.prog 35 = 4 := by kernel_rfl
theorem bytesOf_35 : Program.bytesOf Try.prog 35 = 80 := by kernel_rfl
theorem elemT_35 : VM.elemT Try.prog 35 = none := by kernel_rfl
theorem strT_35 : VM.strT Try.prog 35 = false := by kernel_rfl
theorem boolT_35 : VM.boolT Try.prog 35 = false := by kernel_rfl
theorem intT_35 : VM.intT Try.prog 35 = none := by kernel_rfl
theorem hasT_35 : VM.hasT Try.prog 35 = true := by kernel_rfl
theorem aggT_35 : VM.aggT Try.prog 35 = some true := by kernel_rfl
theorem zeroT_35 : VM.zeroT Try.prog 35 = some [.list true 1 [], .list true 1 [], .list true 1 [], .int .i64 0] := by kernel_rfl
theorem fieldT_35_0 : VM.fieldT Try.prog 35 0 = some (0, 33) := by kernel_rfl
theorem fieldT_35_1 : VM.fieldT Try.prog 35 1 = some (2, 31) := by kernel_rfl
theorem fieldT_35_2 : VM.fieldT Try.prog 35 2 = some (3, 3) := by kernel_rfl
theorem placesT_35 : VM.placesT Try.prog 35 = some [(0, 2, 33), (2, 1, 31), (3, 1, 3)] := by kernel_rfl
theorem cellsOf_38 : Program.cellsOf Try.prog 38 = 2 := by kernel_rfl
theorem bytesOf_38 : Program.bytesOf Try.prog 38 = 48 := by kernel_rfl
theorem elemT_38 : VM.elemT Try.prog 38 = none := by kernel_rfl
theorem strT_38 : VM.strT Try.prog 38 = false := by kernel_rfl
theorem boolT_38 : VM.boolT Try.prog 38 = false := by kernel_rfl
theorem intT_38 : VM.intT Try.prog 38 = none := by kernel_rfl
theorem hasT_38 : VM.hasT Try.prog 38 = true := by kernel_rfl
theorem aggT_38 : VM.aggT Try.prog 38 = some true := by kernel_rfl
theorem zeroT_38 : VM.zeroT Try.prog 38 = some [.list true 1 [], .list true 1 []] := by kernel_rfl
theorem fieldT_38_0 : VM.fieldT Try.prog 38 0 = some (0, 22) := by kernel_rfl
theorem fieldT_38_1 : VM.fieldT Try.prog 38 1 = some (1, 31) := by kernel_rfl
theorem placesT_38 : VM.placesT Try.prog 38 = some [(0, 1, 22), (1, 1, 31)] := by kernel_rfl
theorem cellsOf_39 : Program.cellsOf Try.prog 39 = 4 := by kernel_rfl
theorem bytesOf_39 : Program.bytesOf Try.prog 39 = 80 := by kernel_rfl
theorem elemT_39 : VM.elemT Try.prog 39 = none := by kernel_rfl
theorem strT_39 : VM.strT Try.prog 39 = false := by kernel_rfl
theorem boolT_39 : VM.boolT Try.prog 39 = false := by kernel_rfl
theorem intT_39 : VM.intT Try.prog 39 = none := by kernel_rfl
theorem hasT_39 : VM.hasT Try.prog 39 = true := by kernel_rfl
theorem aggT_39 : VM.aggT Try.prog 39 = some true := by kernel_rfl
theorem zeroT_39 : VM.zeroT Try.prog 39 = some [.list true 1 [], .list true 1 [], .list true 1 [], .int .i64 0] := by kernel_rfl
theorem fieldT_39_0 : VM.fieldT Try.prog 39 0 = some (0, 38) := by kernel_rfl
theorem fieldT_39_1 : VM.fieldT Try.prog 39 1 = some (2, 31) := by kernel_rfl
theorem fieldT_39_2 : VM.fieldT Try.prog 39 2 = some (3, 3) := by kernel_rfl
theorem placesT_39 : VM.placesT Try.prog 39 = some [(0, 2, 38), (2, 1, 31), (3, 1, 3)] := by kernel_rfl
theorem cellsOf_40 : Program.cellsOf Try.prog 40 = 4 := by kernel_rfl
theorem bytesOf_40 : Program.bytesOf Try.prog 40 = 80 := by kernel_rfl
theorem elemT_40 : VM.elemT Try.prog 40 = none := by kernel_rfl
theorem strT_40 : VM.strT Try.prog 40 = false := by kernel_rfl
theorem boolT_40 : VM.boolT Try.prog 40 = false := by kernel_rfl
theorem intT_40 : VM.intT Try.prog 40 = none := by kernel_rfl
theorem hasT_40 : VM.hasT Try.prog 40 = true := by kernel_rfl
theorem aggT_40 : VM.aggT Try.prog 40 = some true := by kernel_rfl
theorem zeroT_40 : VM.zeroT Try.prog 40 = some [.list true 1 [], .list true 1 [], .list true 1 [], .int .i64 0] := by kernel_rfl
theorem fieldT_40_0 : VM.fieldT Try.prog 40 0 = some (0, 38) := by kernel_rfl
theorem fieldT_40_1 : VM.fieldT Try.prog 40 1 = some (2, 31) := by kernel_rfl
theorem fieldT_40_2 : VM.fieldT Try.prog 40 2 = some (3, 3) := by kernel_rfl
theorem placesT_40 : VM.placesT Try.prog 40 = some [(0, 2, 38), (2, 1, 31), (3, 1, 3)] := by kernel_rfl
theorem cellsOf_44 : Program.cellsOf Try.prog 44 = 1 := by kernel_rfl
theorem bytesOf_44 : Program.bytesOf Try.prog 44 = 24 := by kernel_rfl
theorem elemT_44 : VM.elemT Try.prog 44 = some 164 := by kernel_rfl
theorem strT_44 : VM.strT Try.prog 44 = false := by kernel_rfl
theorem boolT_44 : VM.boolT Try.prog 44 = false := by kernel_rfl
theorem intT_44 : VM.intT Try.prog 44 = none := by kernel_rfl
theorem hasT_44 : VM.hasT Try.prog 44 = true := by kernel_rfl
theorem aggT_44 : VM.aggT Try.prog 44 = some false := by kernel_rfl
theorem zeroT_44 : VM.zeroT Try.prog 44 = some [.list true 4 []] := by kernel_rfl
theorem cellsOf_45 : Program.cellsOf Try.prog 45 = 1 := by kernel_rfl
theorem bytesOf_45 : Program.bytesOf Try.prog 45 = 24 := by kernel_rfl
theorem elemT_45 : VM.elemT Try.prog 45 = some 168 := by kernel_rfl
theorem strT_45 : VM.strT Try.prog 45 = false := by kernel_rfl
theorem boolT_45 : VM.boolT Try.prog 45 = false := by kernel_rfl
theorem intT_45 : VM.intT Try.prog 45 = none := by kernel_rfl
theorem hasT_45 : VM.hasT Try.prog 45 = true := by kernel_rfl
theorem aggT_45 : VM.aggT Try.prog 45 = some false := by kernel_rfl
theorem zeroT_45 : VM.zeroT Try.prog 45 = some [.list true 2 []] := by kernel_rfl
theorem cellsOf_46 : Program.cellsOf Try.prog 46 = 7 := by kernel_rfl
theorem bytesOf_46 : Program.bytesOf Try.prog 46 = 136 := by kernel_rfl
theorem elemT_46 : VM.elemT Try.prog 46 = none := by kernel_rfl
theorem strT_46 : VM.strT Try.prog 46 = false := by kernel_rfl
theorem boolT_46 : VM.boolT Try.prog 46 = false := by kernel_rfl
theorem intT_46 : VM.intT Try.prog 46 = none := by kernel_rfl
theorem hasT_46 : VM.hasT Try.prog 46 = true := by kernel_rfl
theorem aggT_46 : VM.aggT Try.prog 46 = some true := by kernel_rfl
theorem zeroT_46 : VM.zeroT Try.prog 46 = some [.list true 1 [], .list true 1 [], .list true 1 [], .int .i64 0, .list true 4 [], .list true 2 [], .int .i64 0] := by kernel_rfl
theorem fieldT_46_0 : VM.fieldT Try.prog 46 0 = some (0, 35) := by kernel_rfl
theorem fieldT_46_1 : VM.fieldT Try.prog 46 1 = some (4, 44) := by kernel_rfl
theorem fieldT_46_2 : VM.fieldT Try.prog 46 2 = some (5, 45) := by kernel_rfl
theorem fieldT_46_3 : VM.fieldT Try.prog 46 3 = some (6, 3) := by kernel_rfl
theorem placesT_46 : VM.placesT Try.prog 46 = some [(0, 4, 35), (4, 1, 44), (5, 1, 45), (6, 1, 3)] := by kernel_rfl
theorem cellsOf_47 : Program.cellsOf Try.prog 47 = 7 := by kernel_rfl
theorem bytesOf_47 : Program.bytesOf Try.prog 47 = 136 := by kernel_rfl
theorem elemT_47 : VM.elemT Try.prog 47 = none := by kernel_rfl
theorem strT_47 : VM.strT Try.prog 47 = false := by kernel_rfl
theorem boolT_47 : VM.boolT Try.prog 47 = false := by kernel_rfl
theorem intT_47 : VM.intT Try.prog 47 = none := by kernel_rfl
theorem hasT_47 : VM.hasT Try.prog 47 = true := by kernel_rfl
theorem aggT_47 : VM.aggT Try.prog 47 = some true := by kernel_rfl
theorem zeroT_47 : VM.zeroT Try.prog 47 = some [.list true 1 [], .list true 1 [], .list true 1 [], .int .i64 0, .list true 4 [], .list true 2 [], .int .i64 0] := by kernel_rfl
theorem fieldT_47_0 : VM.fieldT Try.prog 47 0 = some (0, 35) := by kernel_rfl
theorem fieldT_47_1 : VM.fieldT Try.prog 47 1 = some (4, 44) := by kernel_rfl
theorem fieldT_47_2 : VM.fieldT Try.prog 47 2 = some (5, 45) := by kernel_rfl
theorem fieldT_47_3 : VM.fieldT Try.prog 47 3 = some (6, 3) := by kernel_rfl
theorem placesT_47 : VM.placesT Try.prog 47 = some [(0, 4, 35), (4, 1, 44), (5, 1, 45), (6, 1, 3)] := by kernel_rfl
theorem cellsOf_49 : Program.cellsOf Try.prog 49 = 1 := by kernel_rfl
theorem bytesOf_49 : Program.bytesOf Try.prog 49 = 24 := by kernel_rfl
theorem elemT_49 : VM.elemT Try.prog 49 = some 74 := by kernel_rfl
theorem strT_49 : VM.strT Try.prog 49 = false := by kernel_rfl
theorem boolT_49 : VM.boolT Try.prog 49 = false := by kernel_rfl
theorem intT_49 : VM.intT Try.prog 49 = none := by kernel_rfl
theorem hasT_49 : VM.hasT Try.prog 49 = true := by kernel_rfl
theorem aggT_49 : VM.aggT Try.prog 49 = some false := by kernel_rfl
theorem zeroT_49 : VM.zeroT Try.prog 49 = some [.list true 2 []] := by kernel_rfl
theorem cellsOf_51 : Program.cellsOf Try.prog 51 = 1 := by kernel_rfl
theorem bytesOf_51 : Program.bytesOf Try.prog 51 = 24 := by kernel_rfl
theorem elemT_51 : VM.elemT Try.prog 51 = some 86 := by kernel_rfl
theorem strT_51 : VM.strT Try.prog 51 = false := by kernel_rfl
theorem boolT_51 : VM.boolT Try.prog 51 = false := by kernel_rfl
theorem intT_51 : VM.intT Try.prog 51 = none := by kernel_rfl
theorem hasT_51 : VM.hasT Try.prog 51 = true := by kernel_rfl
theorem aggT_51 : VM.aggT Try.prog 51 = some false := by kernel_rfl
theorem zeroT_51 : VM.zeroT Try.prog 51 = some [.list true 4 []] := by kernel_rfl
theorem cellsOf_52 : Program.cellsOf Try.prog 52 = 1 := by kernel_rfl
theorem bytesOf_52 : Program.bytesOf Try.prog 52 = 24 := by kernel_rfl
theorem elemT_52 : VM.elemT Try.prog 52 = some 66 := by kernel_rfl
theorem strT_52 : VM.strT Try.prog 52 = false := by kernel_rfl
theorem boolT_52 : VM.boolT Try.prog 52 = false := by kernel_rfl
theorem intT_52 : VM.intT Try.prog 52 = none := by kernel_rfl
theorem hasT_52 : VM.hasT Try.prog 52 = true := by kernel_rfl
theorem aggT_52 : VM.aggT Try.prog 52 = some false := by kernel_rfl
theorem zeroT_52 : VM.zeroT Try.prog 52 = some [.list true 2 []] := by kernel_rfl
theorem cellsOf_53 : Program.cellsOf Try.prog 53 = 7 := by kernel_rfl
theorem bytesOf_53 : Program.bytesOf Try.prog 53 = 136 := by kernel_rfl
theorem elemT_53 : VM.elemT Try.prog 53 = none := by kernel_rfl
theorem strT_53 : VM.strT Try.prog 53 = false := by kernel_rfl
theorem boolT_53 : VM.boolT Try.prog 53 = false := by kernel_rfl
theorem intT_53 : VM.intT Try.prog 53 = none := by kernel_rfl
theorem hasT_53 : VM.hasT Try.prog 53 = true := by kernel_rfl
theorem aggT_53 : VM.aggT Try.prog 53 = some true := by kernel_rfl
theorem zeroT_53 : VM.zeroT Try.prog 53 = some [.list true 1 [], .list true 1 [], .list true 1 [], .int .i64 0, .list true 4 [], .list true 2 [], .int .i64 0] := by kernel_rfl
theorem fieldT_53_0 : VM.fieldT Try.prog 53 0 = some (0, 40) := by kernel_rfl
theorem fieldT_53_1 : VM.fieldT Try.prog 53 1 = some (4, 51) := by kernel_rfl
theorem fieldT_53_2 : VM.fieldT Try.prog 53 2 = some (5, 52) := by kernel_rfl
theorem fieldT_53_3 : VM.fieldT Try.prog 53 3 = some (6, 3) := by kernel_rfl
theorem placesT_53 : VM.placesT Try.prog 53 = some [(0, 4, 40), (4, 1, 51), (5, 1, 52), (6, 1, 3)] := by kernel_rfl
theorem cellsOf_54 : Program.cellsOf Try.prog 54 = 7 := by kernel_rfl
theorem bytesOf_54 : Program.bytesOf Try.prog 54 = 136 := by kernel_rfl
theorem elemT_54 : VM.elemT Try.prog 54 = none := by kernel_rfl
theorem strT_54 : VM.strT Try.prog 54 = false := by kernel_rfl
theorem boolT_54 : VM.boolT Try.prog 54 = false := by kernel_rfl
theorem intT_54 : VM.intT Try.prog 54 = none := by kernel_rfl
theorem hasT_54 : VM.hasT Try.prog 54 = true := by kernel_rfl
theorem aggT_54 : VM.aggT Try.prog 54 = some true := by kernel_rfl
theorem zeroT_54 : VM.zeroT Try.prog 54 = some [.list true 1 [], .list true 1 [], .list true 1 [], .int .i64 0, .list true 4 [], .list true 2 [], .int .i64 0] := by kernel_rfl
theorem fieldT_54_0 : VM.fieldT Try.prog 54 0 = some (0, 40) := by kernel_rfl
theorem fieldT_54_1 : VM.fieldT Try.prog 54 1 = some (4, 51) := by kernel_rfl
theorem fieldT_54_2 : VM.fieldT Try.prog 54 2 = some (5, 52) := by kernel_rfl
theorem fieldT_54_3 : VM.fieldT Try.prog 54 3 = some (6, 3) := by kernel_rfl
theorem placesT_54 : VM.placesT Try.prog 54 = some [(0, 4, 40), (4, 1, 51), (5, 1, 52), (6, 1, 3)] := by kernel_rfl
theorem cellsOf_62 : Program.cellsOf Try.prog 62 = 1 := by kernel_rfl
theorem bytesOf_62 : Program.bytesOf Try.prog 62 = 24 := by kernel_rfl
theorem elemT_62 : VM.elemT Try.prog 62 = some 5 := by kernel_rfl
theorem strT_62 : VM.strT Try.prog 62 = false := by kernel_rfl
theorem boolT_62 : VM.boolT Try.prog 62 = false := by kernel_rfl
theorem intT_62 : VM.intT Try.prog 62 = none := by kernel_rfl
theorem hasT_62 : VM.hasT Try.prog 62 = true := by kernel_rfl
theorem aggT_62 : VM.aggT Try.prog 62 = some false := by kernel_rfl
theorem zeroT_62 : VM.zeroT Try.prog 62 = some [.list true 1 []] := by kernel_rfl
theorem cellsOf_64 : Program.cellsOf Try.prog 64 = 1 := by kernel_rfl
theorem bytesOf_64 : Program.bytesOf Try.prog 64 = 24 := by kernel_rfl
theorem elemT_64 : VM.elemT Try.prog 64 = some 68 := by kernel_rfl
theorem strT_64 : VM.strT Try.prog 64 = false := by kernel_rfl
theorem boolT_64 : VM.boolT Try.prog 64 = false := by kernel_rfl
theorem intT_64 : VM.intT Try.prog 64 = none := by kernel_rfl
theorem hasT_64 : VM.hasT Try.prog 64 = true := by kernel_rfl
theorem aggT_64 : VM.aggT Try.prog 64 = some false := by kernel_rfl
theorem zeroT_64 : VM.zeroT Try.prog 64 = some [.list true 4 []] := by kernel_rfl
theorem cellsOf_65 : Program.cellsOf Try.prog 65 = 2 := by kernel_rfl
theorem bytesOf_65 : Program.bytesOf Try.prog 65 = 48 := by kernel_rfl
theorem elemT_65 : VM.elemT Try.prog 65 = none := by kernel_rfl
theorem strT_65 : VM.strT Try.prog 65 = false := by kernel_rfl
theorem boolT_65 : VM.boolT Try.prog 65 = false := by kernel_rfl
theorem intT_65 : VM.intT Try.prog 65 = none := by kernel_rfl
theorem hasT_65 : VM.hasT Try.prog 65 = true := by kernel_rfl
theorem aggT_65 : VM.aggT Try.prog 65 = some true := by kernel_rfl
theorem zeroT_65 : VM.zeroT Try.prog 65 = some [.list true 4 [], .list true 2 []] := by kernel_rfl
theorem fieldT_65_0 : VM.fieldT Try.prog 65 0 = some (0, 64) := by kernel_rfl
theorem fieldT_65_1 : VM.fieldT Try.prog 65 1 = some (1, 49) := by kernel_rfl
theorem placesT_65 : VM.placesT Try.prog 65 = some [(0, 1, 64), (1, 1, 49)] := by kernel_rfl
theorem cellsOf_66 : Program.cellsOf Try.prog 66 = 2 := by kernel_rfl
theorem bytesOf_66 : Program.bytesOf Try.prog 66 = 48 := by kernel_rfl
theorem elemT_66 : VM.elemT Try.prog 66 = none := by kernel_rfl
theorem strT_66 : VM.strT Try.prog 66 = false := by kernel_rfl
theorem boolT_66 : VM.boolT Try.prog 66 = false := by kernel_rfl
theorem intT_66 : VM.intT Try.prog 66 = none := by kernel_rfl
theorem hasT_66 : VM.hasT Try.prog 66 = true := by kernel_rfl
theorem aggT_66 : VM.aggT Try.prog 66 = some true := by kernel_rfl
theorem zeroT_66 : VM.zeroT Try.prog 66 = some [.list true 4 [], .list true 2 []] := by kernel_rfl
theorem fieldT_66_0 : VM.fieldT Try.prog 66 0 = some (0, 64) := by kernel_rfl
theorem fieldT_66_1 : VM.fieldT Try.prog 66 1 = some (1, 49) := by kernel_rfl
theorem placesT_66 : VM.placesT Try.prog 66 = some [(0, 1, 64), (1, 1, 49)] := by kernel_rfl
theorem cellsOf_67 : Program.cellsOf Try.prog 67 = 4 := by kernel_rfl
theorem bytesOf_67 : Program.bytesOf Try.prog 67 = 56 := by kernel_rfl
theorem elemT_67 : VM.elemT Try.prog 67 = none := by kernel_rfl
theorem strT_67 : VM.strT Try.prog 67 = false := by kernel_rfl
theorem boolT_67 : VM.boolT Try.prog 67 = false := by kernel_rfl
theorem intT_67 : VM.intT Try.prog 67 = none := by kernel_rfl
theorem hasT_67 : VM.hasT Try.prog 67 = true := by kernel_rfl
theorem aggT_67 : VM.aggT Try.prog 67 = some true := by kernel_rfl
theorem zeroT_67 : VM.zeroT Try.prog 67 = some [.int .i64 0, .str ⟨#[]⟩, .str ⟨#[]⟩, .str ⟨#[]⟩] := by kernel_rfl
theorem fieldT_67_0 : VM.fieldT Try.prog 67 0 = some (0, 3) := by kernel_rfl
theorem fieldT_67_1 : VM.fieldT Try.prog 67 1 = some (1, 9) := by kernel_rfl
theorem fieldT_67_2 : VM.fieldT Try.prog 67 2 = some (2, 9) := by kernel_rfl
theorem fieldT_67_3 : VM.fieldT Try.prog 67 3 = some (3, 9) := by kernel_rfl
theorem placesT_67 : VM.placesT Try.prog 67 = some [(0, 1, 3), (1, 1, 9), (2, 1, 9), (3, 1, 9)] := by kernel_rfl
theorem flatT_67 : VM.flatT Try.prog 67 = some [.int .i64, .string, .string, .string] := by kernel_rfl
theorem cellsOf_68 : Program.cellsOf Try.prog 68 = 4 := by kernel_rfl
theorem bytesOf_68 : Program.bytesOf Try.prog 68 = 56 := by kernel_rfl
theorem elemT_68 : VM.elemT Try.prog 68 = none := by kernel_rfl
theorem strT_68 : VM.strT Try.prog 68 = false := by kernel_rfl
theorem boolT_68 : VM.boolT Try.prog 68 = false := by kernel_rfl
theorem intT_68 : VM.intT Try.prog 68 = none := by kernel_rfl
theorem hasT_68 : VM.hasT Try.prog 68 = true := by kernel_rfl
theorem aggT_68 : VM.aggT Try.prog 68 = some true := by kernel_rfl
theorem zeroT_68 : VM.zeroT Try.prog 68 = some [.int .i64 0, .str ⟨#[]⟩, .str ⟨#[]⟩, .str ⟨#[]⟩] := by kernel_rfl
theorem fieldT_68_0 : VM.fieldT Try.prog 68 0 = some (0, 3) := by kernel_rfl
theorem fieldT_68_1 : VM.fieldT Try.prog 68 1 = some (1, 9) := by kernel_rfl
theorem fieldT_68_2 : VM.fieldT Try.prog 68 2 = some (2, 9) := by kernel_rfl
theorem fieldT_68_3 : VM.fieldT Try.prog 68 3 = some (3, 9) := by kernel_rfl
theorem placesT_68 : VM.placesT Try.prog 68 = some [(0, 1, 3), (1, 1, 9), (2, 1, 9), (3, 1, 9)] := by kernel_rfl
theorem flatT_68 : VM.flatT Try.prog 68 = some [.int .i64, .string, .string, .string] := by kernel_rfl
theorem cellsOf_73 : Program.cellsOf Try.prog 73 = 2 := by kernel_rfl
theorem bytesOf_73 : Program.bytesOf Try.prog 73 = 24 := by kernel_rfl
theorem elemT_73 : VM.elemT Try.prog 73 = none := by kernel_rfl
theorem strT_73 : VM.strT Try.prog 73 = false := by kernel_rfl
theorem boolT_73 : VM.boolT Try.prog 73 = false := by kernel_rfl
theorem intT_73 : VM.intT Try.prog 73 = none := by kernel_rfl
theorem hasT_73 : VM.hasT Try.prog 73 = true := by kernel_rfl
theorem aggT_73 : VM.aggT Try.prog 73 = some true := by kernel_rfl
theorem zeroT_73 : VM.zeroT Try.prog 73 = some [.int .i64 0, .str ⟨#[]⟩] := by kernel_rfl
theorem fieldT_73_0 : VM.fieldT Try.prog 73 0 = some (0, 3) := by kernel_rfl
theorem fieldT_73_1 : VM.fieldT Try.prog 73 1 = some (1, 9) := by kernel_rfl
theorem placesT_73 : VM.placesT Try.prog 73 = some [(0, 1, 3), (1, 1, 9)] := by kernel_rfl
theorem flatT_73 : VM.flatT Try.prog 73 = some [.int .i64, .string] := by kernel_rfl
theorem cellsOf_74 : Program.cellsOf Try.prog 74 = 2 := by kernel_rfl
theorem bytesOf_74 : Program.bytesOf Try.prog 74 = 24 := by kernel_rfl
theorem elemT_74 : VM.elemT Try.prog 74 = none := by kernel_rfl
theorem strT_74 : VM.strT Try.prog 74 = false := by kernel_rfl
theorem boolT_74 : VM.boolT Try.prog 74 = false := by kernel_rfl
theorem intT_74 : VM.intT Try.prog 74 = none := by kernel_rfl
theorem hasT_74 : VM.hasT Try.prog 74 = true := by kernel_rfl
theorem aggT_74 : VM.aggT Try.prog 74 = some true := by kernel_rfl
theorem zeroT_74 : VM.zeroT Try.prog 74 = some [.int .i64 0, .str ⟨#[]⟩] := by kernel_rfl
theorem fieldT_74_0 : VM.fieldT Try.prog 74 0 = some (0, 3) := by kernel_rfl
theorem fieldT_74_1 : VM.fieldT Try.prog 74 1 = some (1, 9) := by kernel_rfl
theorem placesT_74 : VM.placesT Try.prog 74 = some [(0, 1, 3), (1, 1, 9)] := by kernel_rfl
theorem flatT_74 : VM.flatT Try.prog 74 = some [.int .i64, .string] := by kernel_rfl
theorem cellsOf_84 : Program.cellsOf Try.prog 84 = 1 := by kernel_rfl
theorem bytesOf_84 : Program.bytesOf Try.prog 84 = 24 := by kernel_rfl
theorem elemT_84 : VM.elemT Try.prog 84 = some 142 := by kernel_rfl
theorem strT_84 : VM.strT Try.prog 84 = false := by kernel_rfl
theorem boolT_84 : VM.boolT Try.prog 84 = false := by kernel_rfl
theorem intT_84 : VM.intT Try.prog 84 = none := by kernel_rfl
theorem hasT_84 : VM.hasT Try.prog 84 = true := by kernel_rfl
theorem aggT_84 : VM.aggT Try.prog 84 = some false := by kernel_rfl
theorem zeroT_84 : VM.zeroT Try.prog 84 = some [.list true 6 []] := by kernel_rfl
theorem cellsOf_85 : Program.cellsOf Try.prog 85 = 4 := by kernel_rfl
theorem bytesOf_85 : Program.bytesOf Try.prog 85 = 64 := by kernel_rfl
theorem elemT_85 : VM.elemT Try.prog 85 = none := by kernel_rfl
theorem strT_85 : VM.strT Try.prog 85 = false := by kernel_rfl
theorem boolT_85 : VM.boolT Try.prog 85 = false := by kernel_rfl
theorem intT_85 : VM.intT Try.prog 85 = none := by kernel_rfl
theorem hasT_85 : VM.hasT Try.prog 85 = true := by kernel_rfl
theorem aggT_85 : VM.aggT Try.prog 85 = some true := by kernel_rfl
theorem zeroT_85 : VM.zeroT Try.prog 85 = some [.list true 6 [], .int .i64 0, .list true 2 [], .bool false] := by kernel_rfl
theorem fieldT_85_0 : VM.fieldT Try.prog 85 0 = some (0, 84) := by kernel_rfl
theorem fieldT_85_1 : VM.fieldT Try.prog 85 1 = some (1, 3) := by kernel_rfl
theorem fieldT_85_2 : VM.fieldT Try.prog 85 2 = some (2, 49) := by kernel_rfl
theorem fieldT_85_3 : VM.fieldT Try.prog 85 3 = some (3, 4) := by kernel_rfl
theorem placesT_85 : VM.placesT Try.prog 85 = some [(0, 1, 84), (1, 1, 3), (2, 1, 49), (3, 1, 4)] := by kernel_rfl
theorem cellsOf_86 : Program.cellsOf Try.prog 86 = 4 := by kernel_rfl
theorem bytesOf_86 : Program.bytesOf Try.prog 86 = 64 := by kernel_rfl
theorem elemT_86 : VM.elemT Try.prog 86 = none := by kernel_rfl
theorem strT_86 : VM.strT Try.prog 86 = false := by kernel_rfl
theorem boolT_86 : VM.boolT Try.prog 86 = false := by kernel_rfl
theorem intT_86 : VM.intT Try.prog 86 = none := by kernel_rfl
theorem hasT_86 : VM.hasT Try.prog 86 = true := by kernel_rfl
theorem aggT_86 : VM.aggT Try.prog 86 = some true := by kernel_rfl
theorem zeroT_86 : VM.zeroT Try.prog 86 = some [.list true 6 [], .int .i64 0, .list true 2 [], .bool false] := by kernel_rfl
theorem fieldT_86_0 : VM.fieldT Try.prog 86 0 = some (0, 84) := by kernel_rfl
theorem fieldT_86_1 : VM.fieldT Try.prog 86 1 = some (1, 3) := by kernel_rfl
theorem fieldT_86_2 : VM.fieldT Try.prog 86 2 = some (2, 49) := by kernel_rfl
theorem fieldT_86_3 : VM.fieldT Try.prog 86 3 = some (3, 4) := by kernel_rfl
theorem placesT_86 : VM.placesT Try.prog 86 = some [(0, 1, 84), (1, 1, 3), (2, 1, 49), (3, 1, 4)] := by kernel_rfl
theorem cellsOf_99 : Program.cellsOf Try.prog 99 = 4 := by kernel_rfl
theorem bytesOf_99 : Program.bytesOf Try.prog 99 = 72 := by kernel_rfl
theorem elemT_99 : VM.elemT Try.prog 99 = none := by kernel_rfl
theorem strT_99 : VM.strT Try.prog 99 = false := by kernel_rfl
theorem boolT_99 : VM.boolT Try.prog 99 = false := by kernel_rfl
theorem intT_99 : VM.intT Try.prog 99 = none := by kernel_rfl
theorem hasT_99 : VM.hasT Try.prog 99 = true := by kernel_rfl
theorem aggT_99 : VM.aggT Try.prog 99 = some true := by kernel_rfl
theorem zeroT_99 : VM.zeroT Try.prog 99 = some [.bool false, .list true 1 [], .list true 1 [], .str ⟨#[]⟩] := by kernel_rfl
theorem fieldT_99_0 : VM.fieldT Try.prog 99 0 = some (0, 4) := by kernel_rfl
theorem fieldT_99_1 : VM.fieldT Try.prog 99 1 = some (1, 22) := by kernel_rfl
theorem fieldT_99_2 : VM.fieldT Try.prog 99 2 = some (2, 31) := by kernel_rfl
theorem fieldT_99_3 : VM.fieldT Try.prog 99 3 = some (3, 9) := by kernel_rfl
theorem placesT_99 : VM.placesT Try.prog 99 = some [(0, 1, 4), (1, 1, 22), (2, 1, 31), (3, 1, 9)] := by kernel_rfl
theorem cellsOf_100 : Program.cellsOf Try.prog 100 = 4 := by kernel_rfl
theorem bytesOf_100 : Program.bytesOf Try.prog 100 = 72 := by kernel_rfl
theorem elemT_100 : VM.elemT Try.prog 100 = none := by kernel_rfl
theorem strT_100 : VM.strT Try.prog 100 = false := by kernel_rfl
theorem boolT_100 : VM.boolT Try.prog 100 = false := by kernel_rfl
theorem intT_100 : VM.intT Try.prog 100 = none := by kernel_rfl
theorem hasT_100 : VM.hasT Try.prog 100 = true := by kernel_rfl
theorem aggT_100 : VM.aggT Try.prog 100 = some true := by kernel_rfl
theorem zeroT_100 : VM.zeroT Try.prog 100 = some [.bool false, .list true 1 [], .list true 1 [], .str ⟨#[]⟩] := by kernel_rfl
theorem fieldT_100_0 : VM.fieldT Try.prog 100 0 = some (0, 4) := by kernel_rfl
theorem fieldT_100_1 : VM.fieldT Try.prog 100 1 = some (1, 22) := by kernel_rfl
theorem fieldT_100_2 : VM.fieldT Try.prog 100 2 = some (2, 31) := by kernel_rfl
theorem fieldT_100_3 : VM.fieldT Try.prog 100 3 = some (3, 9) := by kernel_rfl
theorem placesT_100 : VM.placesT Try.prog 100 = some [(0, 1, 4), (1, 1, 22), (2, 1, 31), (3, 1, 9)] := by kernel_rfl
theorem cellsOf_108 : Program.cellsOf Try.prog 108 = 3 := by kernel_rfl
theorem bytesOf_108 : Program.bytesOf Try.prog 108 = 40 := by kernel_rfl
theorem elemT_108 : VM.elemT Try.prog 108 = none := by kernel_rfl
theorem strT_108 : VM.strT Try.prog 108 = false := by kernel_rfl
theorem boolT_108 : VM.boolT Try.prog 108 = false := by kernel_rfl
theorem intT_108 : VM.intT Try.prog 108 = none := by kernel_rfl
theorem hasT_108 : VM.hasT Try.prog 108 = true := by kernel_rfl
theorem aggT_108 : VM.aggT Try.prog 108 = some true := by kernel_rfl
theorem zeroT_108 : VM.zeroT Try.prog 108 = some [.str ⟨#[]⟩, .bool false, .str ⟨#[]⟩] := by kernel_rfl
theorem fieldT_108_0 : VM.fieldT Try.prog 108 0 = some (0, 9) := by kernel_rfl
theorem fieldT_108_1 : VM.fieldT Try.prog 108 1 = some (1, 4) := by kernel_rfl
theorem fieldT_108_2 : VM.fieldT Try.prog 108 2 = some (2, 9) := by kernel_rfl
theorem placesT_108 : VM.placesT Try.prog 108 = some [(0, 1, 9), (1, 1, 4), (2, 1, 9)] := by kernel_rfl
theorem flatT_108 : VM.flatT Try.prog 108 = some [.string, .bool, .string] := by kernel_rfl
theorem cellsOf_109 : Program.cellsOf Try.prog 109 = 3 := by kernel_rfl
theorem bytesOf_109 : Program.bytesOf Try.prog 109 = 40 := by kernel_rfl
theorem elemT_109 : VM.elemT Try.prog 109 = none := by kernel_rfl
theorem strT_109 : VM.strT Try.prog 109 = false := by kernel_rfl
theorem boolT_109 : VM.boolT Try.prog 109 = false := by kernel_rfl
theorem intT_109 : VM.intT Try.prog 109 = none := by kernel_rfl
theorem hasT_109 : VM.hasT Try.prog 109 = true := by kernel_rfl
theorem aggT_109 : VM.aggT Try.prog 109 = some true := by kernel_rfl
theorem zeroT_109 : VM.zeroT Try.prog 109 = some [.str ⟨#[]⟩, .bool false, .str ⟨#[]⟩] := by kernel_rfl
theorem fieldT_109_0 : VM.fieldT Try.prog 109 0 = some (0, 9) := by kernel_rfl
theorem fieldT_109_1 : VM.fieldT Try.prog 109 1 = some (1, 4) := by kernel_rfl
theorem fieldT_109_2 : VM.fieldT Try.prog 109 2 = some (2, 9) := by kernel_rfl
theorem placesT_109 : VM.placesT Try.prog 109 = some [(0, 1, 9), (1, 1, 4), (2, 1, 9)] := by kernel_rfl
theorem flatT_109 : VM.flatT Try.prog 109 = some [.string, .bool, .string] := by kernel_rfl
theorem cellsOf_141 : Program.cellsOf Try.prog 141 = 6 := by kernel_rfl
theorem bytesOf_141 : Program.bytesOf Try.prog 141 = 72 := by kernel_rfl
theorem elemT_141 : VM.elemT Try.prog 141 = none := by kernel_rfl
theorem strT_141 : VM.strT Try.prog 141 = false := by kernel_rfl
theorem boolT_141 : VM.boolT Try.prog 141 = false := by kernel_rfl
theorem intT_141 : VM.intT Try.prog 141 = none := by kernel_rfl
theorem hasT_141 : VM.hasT Try.prog 141 = true := by kernel_rfl
theorem aggT_141 : VM.aggT Try.prog 141 = some true := by kernel_rfl
theorem zeroT_141 : VM.zeroT Try.prog 141 = some [.int .i64 0, .int .i64 0, .str ⟨#[]⟩, .str ⟨#[]⟩, .str ⟨#[]⟩, .int .i64 0] := by kernel_rfl
theorem fieldT_141_0 : VM.fieldT Try.prog 141 0 = some (0, 3) := by kernel_rfl
theorem fieldT_141_1 : VM.fieldT Try.prog 141 1 = some (1, 68) := by kernel_rfl
theorem fieldT_141_2 : VM.fieldT Try.prog 141 2 = some (5, 3) := by kernel_rfl
theorem placesT_141 : VM.placesT Try.prog 141 = some [(0, 1, 3), (1, 4, 68), (5, 1, 3)] := by kernel_rfl
theorem cellsOf_142 : Program.cellsOf Try.prog 142 = 6 := by kernel_rfl
theorem bytesOf_142 : Program.bytesOf Try.prog 142 = 72 := by kernel_rfl
theorem elemT_142 : VM.elemT Try.prog 142 = none := by kernel_rfl
theorem strT_142 : VM.strT Try.prog 142 = false := by kernel_rfl
theorem boolT_142 : VM.boolT Try.prog 142 = false := by kernel_rfl
theorem intT_142 : VM.intT Try.prog 142 = none := by kernel_rfl
theorem hasT_142 : VM.hasT Try.prog 142 = true := by kernel_rfl
theorem aggT_142 : VM.aggT Try.prog 142 = some true := by kernel_rfl
theorem zeroT_142 : VM.zeroT Try.prog 142 = some [.int .i64 0, .int .i64 0, .str ⟨#[]⟩, .str ⟨#[]⟩, .str ⟨#[]⟩, .int .i64 0] := by kernel_rfl
theorem fieldT_142_0 : VM.fieldT Try.prog 142 0 = some (0, 3) := by kernel_rfl
theorem fieldT_142_1 : VM.fieldT Try.prog 142 1 = some (1, 68) := by kernel_rfl
theorem fieldT_142_2 : VM.fieldT Try.prog 142 2 = some (5, 3) := by kernel_rfl
theorem placesT_142 : VM.placesT Try.prog 142 = some [(0, 1, 3), (1, 4, 68), (5, 1, 3)] := by kernel_rfl
theorem cellsOf_148 : Program.cellsOf Try.prog 148 = 1 := by kernel_rfl
theorem bytesOf_148 : Program.bytesOf Try.prog 148 = 8 := by kernel_rfl
theorem elemT_148 : VM.elemT Try.prog 148 = none := by kernel_rfl
theorem strT_148 : VM.strT Try.prog 148 = false := by kernel_rfl
theorem boolT_148 : VM.boolT Try.prog 148 = false := by kernel_rfl
theorem intT_148 : VM.intT Try.prog 148 = none := by kernel_rfl
theorem hasT_148 : VM.hasT Try.prog 148 = true := by kernel_rfl
theorem aggT_148 : VM.aggT Try.prog 148 = some false := by kernel_rfl
theorem cellsOf_151 : Program.cellsOf Try.prog 151 = 1 := by kernel_rfl
theorem bytesOf_151 : Program.bytesOf Try.prog 151 = 24 := by kernel_rfl
theorem elemT_151 : VM.elemT Try.prog 151 = some 4 := by kernel_rfl
theorem strT_151 : VM.strT Try.prog 151 = false := by kernel_rfl
theorem boolT_151 : VM.boolT Try.prog 151 = false := by kernel_rfl
theorem intT_151 : VM.intT Try.prog 151 = none := by kernel_rfl
theorem hasT_151 : VM.hasT Try.prog 151 = true := by kernel_rfl
theorem aggT_151 : VM.aggT Try.prog 151 = some false := by kernel_rfl
theorem zeroT_151 : VM.zeroT Try.prog 151 = some [.list true 1 []] := by kernel_rfl
theorem cellsOf_152 : Program.cellsOf Try.prog 152 = 2 := by kernel_rfl
theorem bytesOf_152 : Program.bytesOf Try.prog 152 = 48 := by kernel_rfl
theorem elemT_152 : VM.elemT Try.prog 152 = none := by kernel_rfl
theorem strT_152 : VM.strT Try.prog 152 = false := by kernel_rfl
theorem boolT_152 : VM.boolT Try.prog 152 = false := by kernel_rfl
theorem intT_152 : VM.intT Try.prog 152 = none := by kernel_rfl
theorem hasT_152 : VM.hasT Try.prog 152 = true := by kernel_rfl
theorem aggT_152 : VM.aggT Try.prog 152 = some true := by kernel_rfl
theorem zeroT_152 : VM.zeroT Try.prog 152 = some [.list true 1 [], .list true 1 []] := by kernel_rfl
theorem fieldT_152_0 : VM.fieldT Try.prog 152 0 = some (0, 22) := by kernel_rfl
theorem fieldT_152_1 : VM.fieldT Try.prog 152 1 = some (1, 151) := by kernel_rfl
theorem placesT_152 : VM.placesT Try.prog 152 = some [(0, 1, 22), (1, 1, 151)] := by kernel_rfl
theorem cellsOf_153 : Program.cellsOf Try.prog 153 = 2 := by kernel_rfl
theorem bytesOf_153 : Program.bytesOf Try.prog 153 = 48 := by kernel_rfl
theorem elemT_153 : VM.elemT Try.prog 153 = none := by kernel_rfl
theorem strT_153 : VM.strT Try.prog 153 = false := by kernel_rfl
theorem boolT_153 : VM.boolT Try.prog 153 = false := by kernel_rfl
theorem intT_153 : VM.intT Try.prog 153 = none := by kernel_rfl
theorem hasT_153 : VM.hasT Try.prog 153 = true := by kernel_rfl
theorem aggT_153 : VM.aggT Try.prog 153 = some true := by kernel_rfl
theorem zeroT_153 : VM.zeroT Try.prog 153 = some [.list true 1 [], .list true 1 []] := by kernel_rfl
theorem fieldT_153_0 : VM.fieldT Try.prog 153 0 = some (0, 22) := by kernel_rfl
theorem fieldT_153_1 : VM.fieldT Try.prog 153 1 = some (1, 151) := by kernel_rfl
theorem placesT_153 : VM.placesT Try.prog 153 = some [(0, 1, 22), (1, 1, 151)] := by kernel_rfl
theorem cellsOf_161 : Program.cellsOf Try.prog 161 = 1 := by kernel_rfl
theorem bytesOf_161 : Program.bytesOf Try.prog 161 = 24 := by kernel_rfl
theorem elemT_161 : VM.elemT Try.prog 161 = some 225 := by kernel_rfl
theorem strT_161 : VM.strT Try.prog 161 = false := by kernel_rfl
theorem boolT_161 : VM.boolT Try.prog 161 = false := by kernel_rfl
theorem intT_161 : VM.intT Try.prog 161 = none := by kernel_rfl
theorem hasT_161 : VM.hasT Try.prog 161 = true := by kernel_rfl
theorem aggT_161 : VM.aggT Try.prog 161 = some false := by kernel_rfl
theorem zeroT_161 : VM.zeroT Try.prog 161 = some [.list true 6 []] := by kernel_rfl
theorem cellsOf_162 : Program.cellsOf Try.prog 162 = 1 := by kernel_rfl
theorem bytesOf_162 : Program.bytesOf Try.prog 162 = 24 := by kernel_rfl
theorem elemT_162 : VM.elemT Try.prog 162 = some 227 := by kernel_rfl
theorem strT_162 : VM.strT Try.prog 162 = false := by kernel_rfl
theorem boolT_162 : VM.boolT Try.prog 162 = false := by kernel_rfl
theorem intT_162 : VM.intT Try.prog 162 = none := by kernel_rfl
theorem hasT_162 : VM.hasT Try.prog 162 = true := by kernel_rfl
theorem aggT_162 : VM.aggT Try.prog 162 = some false := by kernel_rfl
theorem zeroT_162 : VM.zeroT Try.prog 162 = some [.list true 2 []] := by kernel_rfl
theorem cellsOf_163 : Program.cellsOf Try.prog 163 = 4 := by kernel_rfl
theorem bytesOf_163 : Program.bytesOf Try.prog 163 = 64 := by kernel_rfl
theorem elemT_163 : VM.elemT Try.prog 163 = none := by kernel_rfl
theorem strT_163 : VM.strT Try.prog 163 = false := by kernel_rfl
theorem boolT_163 : VM.boolT Try.prog 163 = false := by kernel_rfl
theorem intT_163 : VM.intT Try.prog 163 = none := by kernel_rfl
theorem hasT_163 : VM.hasT Try.prog 163 = true := by kernel_rfl
theorem aggT_163 : VM.aggT Try.prog 163 = some true := by kernel_rfl
theorem zeroT_163 : VM.zeroT Try.prog 163 = some [.list true 6 [], .int .i64 0, .list true 2 [], .bool false] := by kernel_rfl
theorem fieldT_163_0 : VM.fieldT Try.prog 163 0 = some (0, 161) := by kernel_rfl
theorem fieldT_163_1 : VM.fieldT Try.prog 163 1 = some (1, 3) := by kernel_rfl
theorem fieldT_163_2 : VM.fieldT Try.prog 163 2 = some (2, 162) := by kernel_rfl
theorem fieldT_163_3 : VM.fieldT Try.prog 163 3 = some (3, 4) := by kernel_rfl
theorem placesT_163 : VM.placesT Try.prog 163 = some [(0, 1, 161), (1, 1, 3), (2, 1, 162), (3, 1, 4)] := by kernel_rfl
theorem cellsOf_164 : Program.cellsOf Try.prog 164 = 4 := by kernel_rfl
theorem bytesOf_164 : Program.bytesOf Try.prog 164 = 64 := by kernel_rfl
theorem elemT_164 : VM.elemT Try.prog 164 = none := by kernel_rfl
theorem strT_164 : VM.strT Try.prog 164 = false := by kernel_rfl
theorem boolT_164 : VM.boolT Try.prog 164 = false := by kernel_rfl
theorem intT_164 : VM.intT Try.prog 164 = none := by kernel_rfl
theorem hasT_164 : VM.hasT Try.prog 164 = true := by kernel_rfl
theorem aggT_164 : VM.aggT Try.prog 164 = some true := by kernel_rfl
theorem zeroT_164 : VM.zeroT Try.prog 164 = some [.list true 6 [], .int .i64 0, .list true 2 [], .bool false] := by kernel_rfl
theorem fieldT_164_0 : VM.fieldT Try.prog 164 0 = some (0, 161) := by kernel_rfl
theorem fieldT_164_1 : VM.fieldT Try.prog 164 1 = some (1, 3) := by kernel_rfl
theorem fieldT_164_2 : VM.fieldT Try.prog 164 2 = some (2, 162) := by kernel_rfl
theorem fieldT_164_3 : VM.fieldT Try.prog 164 3 = some (3, 4) := by kernel_rfl
theorem placesT_164 : VM.placesT Try.prog 164 = some [(0, 1, 161), (1, 1, 3), (2, 1, 162), (3, 1, 4)] := by kernel_rfl
theorem cellsOf_166 : Program.cellsOf Try.prog 166 = 1 := by kernel_rfl
theorem bytesOf_166 : Program.bytesOf Try.prog 166 = 24 := by kernel_rfl
theorem elemT_166 : VM.elemT Try.prog 166 = some 223 := by kernel_rfl
theorem strT_166 : VM.strT Try.prog 166 = false := by kernel_rfl
theorem boolT_166 : VM.boolT Try.prog 166 = false := by kernel_rfl
theorem intT_166 : VM.intT Try.prog 166 = none := by kernel_rfl
theorem hasT_166 : VM.hasT Try.prog 166 = true := by kernel_rfl
theorem aggT_166 : VM.aggT Try.prog 166 = some false := by kernel_rfl
theorem zeroT_166 : VM.zeroT Try.prog 166 = some [.list true 4 []] := by kernel_rfl
theorem cellsOf_167 : Program.cellsOf Try.prog 167 = 2 := by kernel_rfl
theorem bytesOf_167 : Program.bytesOf Try.prog 167 = 48 := by kernel_rfl
theorem elemT_167 : VM.elemT Try.prog 167 = none := by kernel_rfl
theorem strT_167 : VM.strT Try.prog 167 = false := by kernel_rfl
theorem boolT_167 : VM.boolT Try.prog 167 = false := by kernel_rfl
theorem intT_167 : VM.intT Try.prog 167 = none := by kernel_rfl
theorem hasT_167 : VM.hasT Try.prog 167 = true := by kernel_rfl
theorem aggT_167 : VM.aggT Try.prog 167 = some true := by kernel_rfl
theorem zeroT_167 : VM.zeroT Try.prog 167 = some [.list true 4 [], .list true 2 []] := by kernel_rfl
theorem fieldT_167_0 : VM.fieldT Try.prog 167 0 = some (0, 166) := by kernel_rfl
theorem fieldT_167_1 : VM.fieldT Try.prog 167 1 = some (1, 162) := by kernel_rfl
theorem placesT_167 : VM.placesT Try.prog 167 = some [(0, 1, 166), (1, 1, 162)] := by kernel_rfl
theorem cellsOf_168 : Program.cellsOf Try.prog 168 = 2 := by kernel_rfl
theorem bytesOf_168 : Program.bytesOf Try.prog 168 = 48 := by kernel_rfl
theorem elemT_168 : VM.elemT Try.prog 168 = none := by kernel_rfl
theorem strT_168 : VM.strT Try.prog 168 = false := by kernel_rfl
theorem boolT_168 : VM.boolT Try.prog 168 = false := by kernel_rfl
theorem intT_168 : VM.intT Try.prog 168 = none := by kernel_rfl
theorem hasT_168 : VM.hasT Try.prog 168 = true := by kernel_rfl
theorem aggT_168 : VM.aggT Try.prog 168 = some true := by kernel_rfl
theorem zeroT_168 : VM.zeroT Try.prog 168 = some [.list true 4 [], .list true 2 []] := by kernel_rfl
theorem fieldT_168_0 : VM.fieldT Try.prog 168 0 = some (0, 166) := by kernel_rfl
theorem fieldT_168_1 : VM.fieldT Try.prog 168 1 = some (1, 162) := by kernel_rfl
theorem placesT_168 : VM.placesT Try.prog 168 = some [(0, 1, 166), (1, 1, 162)] := by kernel_rfl
theorem cellsOf_176 : Program.cellsOf Try.prog 176 = 3 := by kernel_rfl
theorem bytesOf_176 : Program.bytesOf Try.prog 176 = 32 := by kernel_rfl
theorem elemT_176 : VM.elemT Try.prog 176 = none := by kernel_rfl
theorem strT_176 : VM.strT Try.prog 176 = false := by kernel_rfl
theorem boolT_176 : VM.boolT Try.prog 176 = false := by kernel_rfl
theorem intT_176 : VM.intT Try.prog 176 = none := by kernel_rfl
theorem hasT_176 : VM.hasT Try.prog 176 = true := by kernel_rfl
theorem aggT_176 : VM.aggT Try.prog 176 = some true := by kernel_rfl
theorem zeroT_176 : VM.zeroT Try.prog 176 = some [.int .i64 0, .int .i64 0, .str ⟨#[]⟩] := by kernel_rfl
theorem fieldT_176_0 : VM.fieldT Try.prog 176 0 = some (0, 3) := by kernel_rfl
theorem fieldT_176_1 : VM.fieldT Try.prog 176 1 = some (1, 3) := by kernel_rfl
theorem fieldT_176_2 : VM.fieldT Try.prog 176 2 = some (2, 9) := by kernel_rfl
theorem placesT_176 : VM.placesT Try.prog 176 = some [(0, 1, 3), (1, 1, 3), (2, 1, 9)] := by kernel_rfl
theorem flatT_176 : VM.flatT Try.prog 176 = some [.int .i64, .int .i64, .string] := by kernel_rfl
theorem cellsOf_177 : Program.cellsOf Try.prog 177 = 3 := by kernel_rfl
theorem bytesOf_177 : Program.bytesOf Try.prog 177 = 32 := by kernel_rfl
theorem elemT_177 : VM.elemT Try.prog 177 = none := by kernel_rfl
theorem strT_177 : VM.strT Try.prog 177 = false := by kernel_rfl
theorem boolT_177 : VM.boolT Try.prog 177 = false := by kernel_rfl
theorem intT_177 : VM.intT Try.prog 177 = none := by kernel_rfl
theorem hasT_177 : VM.hasT Try.prog 177 = true := by kernel_rfl
theorem aggT_177 : VM.aggT Try.prog 177 = some true := by kernel_rfl
theorem zeroT_177 : VM.zeroT Try.prog 177 = some [.int .i64 0, .int .i64 0, .str ⟨#[]⟩] := by kernel_rfl
theorem fieldT_177_0 : VM.fieldT Try.prog 177 0 = some (0, 3) := by kernel_rfl
theorem fieldT_177_1 : VM.fieldT Try.prog 177 1 = some (1, 3) := by kernel_rfl
theorem fieldT_177_2 : VM.fieldT Try.prog 177 2 = some (2, 9) := by kernel_rfl
theorem placesT_177 : VM.placesT Try.prog 177 = some [(0, 1, 3), (1, 1, 3), (2, 1, 9)] := by kernel_rfl
theorem flatT_177 : VM.flatT Try.prog 177 = some [.int .i64, .int .i64, .string] := by kernel_rfl
theorem cellsOf_180 : Program.cellsOf Try.prog 180 = 1 := by kernel_rfl
theorem bytesOf_180 : Program.bytesOf Try.prog 180 = 8 := by kernel_rfl
theorem elemT_180 : VM.elemT Try.prog 180 = none := by kernel_rfl
theorem strT_180 : VM.strT Try.prog 180 = false := by kernel_rfl
theorem boolT_180 : VM.boolT Try.prog 180 = false := by kernel_rfl
theorem intT_180 : VM.intT Try.prog 180 = none := by kernel_rfl
theorem hasT_180 : VM.hasT Try.prog 180 = true := by kernel_rfl
theorem aggT_180 : VM.aggT Try.prog 180 = some false := by kernel_rfl
theorem cellsOf_181 : Program.cellsOf Try.prog 181 = 3 := by kernel_rfl
theorem bytesOf_181 : Program.bytesOf Try.prog 181 = 40 := by kernel_rfl
theorem elemT_181 : VM.elemT Try.prog 181 = none := by kernel_rfl
theorem strT_181 : VM.strT Try.prog 181 = false := by kernel_rfl
theorem boolT_181 : VM.boolT Try.prog 181 = false := by kernel_rfl
theorem intT_181 : VM.intT Try.prog 181 = none := by kernel_rfl
theorem hasT_181 : VM.hasT Try.prog 181 = true := by kernel_rfl
theorem aggT_181 : VM.aggT Try.prog 181 = some true := by kernel_rfl
theorem zeroT_181 : VM.zeroT Try.prog 181 = some [.list true 1 [], .int .i64 0, .int .i64 0] := by kernel_rfl
theorem fieldT_181_0 : VM.fieldT Try.prog 181 0 = some (0, 62) := by kernel_rfl
theorem fieldT_181_1 : VM.fieldT Try.prog 181 1 = some (1, 3) := by kernel_rfl
theorem fieldT_181_2 : VM.fieldT Try.prog 181 2 = some (2, 3) := by kernel_rfl
theorem placesT_181 : VM.placesT Try.prog 181 = some [(0, 1, 62), (1, 1, 3), (2, 1, 3)] := by kernel_rfl
theorem cellsOf_182 : Program.cellsOf Try.prog 182 = 3 := by kernel_rfl
theorem bytesOf_182 : Program.bytesOf Try.prog 182 = 40 := by kernel_rfl
theorem elemT_182 : VM.elemT Try.prog 182 = none := by kernel_rfl
theorem strT_182 : VM.strT Try.prog 182 = false := by kernel_rfl
theorem boolT_182 : VM.boolT Try.prog 182 = false := by kernel_rfl
theorem intT_182 : VM.intT Try.prog 182 = none := by kernel_rfl
theorem hasT_182 : VM.hasT Try.prog 182 = true := by kernel_rfl
theorem aggT_182 : VM.aggT Try.prog 182 = some true := by kernel_rfl
theorem zeroT_182 : VM.zeroT Try.prog 182 = some [.list true 1 [], .int .i64 0, .int .i64 0] := by kernel_rfl
theorem fieldT_182_0 : VM.fieldT Try.prog 182 0 = some (0, 62) := by kernel_rfl
theorem fieldT_182_1 : VM.fieldT Try.prog 182 1 = some (1, 3) := by kernel_rfl
theorem fieldT_182_2 : VM.fieldT Try.prog 182 2 = some (2, 3) := by kernel_rfl
theorem placesT_182 : VM.placesT Try.prog 182 = some [(0, 1, 62), (1, 1, 3), (2, 1, 3)] := by kernel_rfl
theorem cellsOf_190 : Program.cellsOf Try.prog 190 = 1 := by kernel_rfl
theorem bytesOf_190 : Program.bytesOf Try.prog 190 = 8 := by kernel_rfl
theorem elemT_190 : VM.elemT Try.prog 190 = none := by kernel_rfl
theorem strT_190 : VM.strT Try.prog 190 = false := by kernel_rfl
theorem boolT_190 : VM.boolT Try.prog 190 = false := by kernel_rfl
theorem intT_190 : VM.intT Try.prog 190 = none := by kernel_rfl
theorem hasT_190 : VM.hasT Try.prog 190 = true := by kernel_rfl
theorem aggT_190 : VM.aggT Try.prog 190 = some false := by kernel_rfl
theorem cellsOf_215 : Program.cellsOf Try.prog 215 = 1 := by kernel_rfl
theorem bytesOf_215 : Program.bytesOf Try.prog 215 = 8 := by kernel_rfl
theorem elemT_215 : VM.elemT Try.prog 215 = none := by kernel_rfl
theorem strT_215 : VM.strT Try.prog 215 = false := by kernel_rfl
theorem boolT_215 : VM.boolT Try.prog 215 = false := by kernel_rfl
theorem intT_215 : VM.intT Try.prog 215 = some .u64 := by kernel_rfl
theorem hasT_215 : VM.hasT Try.prog 215 = true := by kernel_rfl
theorem aggT_215 : VM.aggT Try.prog 215 = some false := by kernel_rfl
theorem zeroT_215 : VM.zeroT Try.prog 215 = some [.int .u64 0] := by kernel_rfl
theorem cellsOf_223 : Program.cellsOf Try.prog 223 = 4 := by kernel_rfl
theorem bytesOf_223 : Program.bytesOf Try.prog 223 = 56 := by kernel_rfl
theorem elemT_223 : VM.elemT Try.prog 223 = none := by kernel_rfl
theorem strT_223 : VM.strT Try.prog 223 = false := by kernel_rfl
theorem boolT_223 : VM.boolT Try.prog 223 = false := by kernel_rfl
theorem intT_223 : VM.intT Try.prog 223 = none := by kernel_rfl
theorem hasT_223 : VM.hasT Try.prog 223 = true := by kernel_rfl
theorem aggT_223 : VM.aggT Try.prog 223 = some true := by kernel_rfl
theorem zeroT_223 : VM.zeroT Try.prog 223 = some [.int .i64 0, .str ⟨#[]⟩, .str ⟨#[]⟩, .str ⟨#[]⟩] := by kernel_rfl
theorem fieldT_223_0 : VM.fieldT Try.prog 223 0 = some (0, 3) := by kernel_rfl
theorem fieldT_223_1 : VM.fieldT Try.prog 223 1 = some (1, 9) := by kernel_rfl
theorem fieldT_223_2 : VM.fieldT Try.prog 223 2 = some (2, 9) := by kernel_rfl
theorem fieldT_223_3 : VM.fieldT Try.prog 223 3 = some (3, 9) := by kernel_rfl
theorem placesT_223 : VM.placesT Try.prog 223 = some [(0, 1, 3), (1, 1, 9), (2, 1, 9), (3, 1, 9)] := by kernel_rfl
theorem flatT_223 : VM.flatT Try.prog 223 = some [.int .i64, .string, .string, .string] := by kernel_rfl
theorem cellsOf_224 : Program.cellsOf Try.prog 224 = 6 := by kernel_rfl
theorem bytesOf_224 : Program.bytesOf Try.prog 224 = 72 := by kernel_rfl
theorem elemT_224 : VM.elemT Try.prog 224 = none := by kernel_rfl
theorem strT_224 : VM.strT Try.prog 224 = false := by kernel_rfl
theorem boolT_224 : VM.boolT Try.prog 224 = false := by kernel_rfl
theorem intT_224 : VM.intT Try.prog 224 = none := by kernel_rfl
theorem hasT_224 : VM.hasT Try.prog 224 = true := by kernel_rfl
theorem aggT_224 : VM.aggT Try.prog 224 = some true := by kernel_rfl
theorem zeroT_224 : VM.zeroT Try.prog 224 = some [.int .i64 0, .int .i64 0, .str ⟨#[]⟩, .str ⟨#[]⟩, .str ⟨#[]⟩, .int .i64 0] := by kernel_rfl
theorem fieldT_224_0 : VM.fieldT Try.prog 224 0 = some (0, 3) := by kernel_rfl
theorem fieldT_224_1 : VM.fieldT Try.prog 224 1 = some (1, 223) := by kernel_rfl
theorem fieldT_224_2 : VM.fieldT Try.prog 224 2 = some (5, 3) := by kernel_rfl
theorem placesT_224 : VM.placesT Try.prog 224 = some [(0, 1, 3), (1, 4, 223), (5, 1, 3)] := by kernel_rfl
theorem cellsOf_225 : Program.cellsOf Try.prog 225 = 6 := by kernel_rfl
theorem bytesOf_225 : Program.bytesOf Try.prog 225 = 72 := by kernel_rfl
theorem elemT_225 : VM.elemT Try.prog 225 = none := by kernel_rfl
theorem strT_225 : VM.strT Try.prog 225 = false := by kernel_rfl
theorem boolT_225 : VM.boolT Try.prog 225 = false := by kernel_rfl
theorem intT_225 : VM.intT Try.prog 225 = none := by kernel_rfl
theorem hasT_225 : VM.hasT Try.prog 225 = true := by kernel_rfl
theorem aggT_225 : VM.aggT Try.prog 225 = some true := by kernel_rfl
theorem zeroT_225 : VM.zeroT Try.prog 225 = some [.int .i64 0, .int .i64 0, .str ⟨#[]⟩, .str ⟨#[]⟩, .str ⟨#[]⟩, .int .i64 0] := by kernel_rfl
theorem fieldT_225_0 : VM.fieldT Try.prog 225 0 = some (0, 3) := by kernel_rfl
theorem fieldT_225_1 : VM.fieldT Try.prog 225 1 = some (1, 223) := by kernel_rfl
theorem fieldT_225_2 : VM.fieldT Try.prog 225 2 = some (5, 3) := by kernel_rfl
theorem placesT_225 : VM.placesT Try.prog 225 = some [(0, 1, 3), (1, 4, 223), (5, 1, 3)] := by kernel_rfl
theorem cellsOf_227 : Program.cellsOf Try.prog 227 = 2 := by kernel_rfl
theorem bytesOf_227 : Program.bytesOf Try.prog 227 = 24 := by kernel_rfl
theorem elemT_227 : VM.elemT Try.prog 227 = none := by kernel_rfl
theorem strT_227 : VM.strT Try.prog 227 = false := by kernel_rfl
theorem boolT_227 : VM.boolT Try.prog 227 = false := by kernel_rfl
theorem intT_227 : VM.intT Try.prog 227 = none := by kernel_rfl
theorem hasT_227 : VM.hasT Try.prog 227 = true := by kernel_rfl
theorem aggT_227 : VM.aggT Try.prog 227 = some true := by kernel_rfl
theorem zeroT_227 : VM.zeroT Try.prog 227 = some [.int .i64 0, .str ⟨#[]⟩] := by kernel_rfl
theorem fieldT_227_0 : VM.fieldT Try.prog 227 0 = some (0, 3) := by kernel_rfl
theorem fieldT_227_1 : VM.fieldT Try.prog 227 1 = some (1, 9) := by kernel_rfl
theorem placesT_227 : VM.placesT Try.prog 227 = some [(0, 1, 3), (1, 1, 9)] := by kernel_rfl
theorem flatT_227 : VM.flatT Try.prog 227 = some [.int .i64, .string] := by kernel_rfl
theorem cellsOf_237 : Program.cellsOf Try.prog 237 = 3 := by kernel_rfl
theorem bytesOf_237 : Program.bytesOf Try.prog 237 = 40 := by kernel_rfl
theorem elemT_237 : VM.elemT Try.prog 237 = none := by kernel_rfl
theorem strT_237 : VM.strT Try.prog 237 = false := by kernel_rfl
theorem boolT_237 : VM.boolT Try.prog 237 = false := by kernel_rfl
theorem intT_237 : VM.intT Try.prog 237 = none := by kernel_rfl
theorem hasT_237 : VM.hasT Try.prog 237 = true := by kernel_rfl
theorem aggT_237 : VM.aggT Try.prog 237 = some true := by kernel_rfl
theorem zeroT_237 : VM.zeroT Try.prog 237 = some [.list true 1 [], .int .i64 0, .bool false] := by kernel_rfl
theorem fieldT_237_0 : VM.fieldT Try.prog 237 0 = some (0, 62) := by kernel_rfl
theorem fieldT_237_1 : VM.fieldT Try.prog 237 1 = some (1, 3) := by kernel_rfl
theorem fieldT_237_2 : VM.fieldT Try.prog 237 2 = some (2, 4) := by kernel_rfl
theorem placesT_237 : VM.placesT Try.prog 237 = some [(0, 1, 62), (1, 1, 3), (2, 1, 4)] := by kernel_rfl
theorem cellsOf_238 : Program.cellsOf Try.prog 238 = 3 := by kernel_rfl
theorem bytesOf_238 : Program.bytesOf Try.prog 238 = 40 := by kernel_rfl
theorem elemT_238 : VM.elemT Try.prog 238 = none := by kernel_rfl
theorem strT_238 : VM.strT Try.prog 238 = false := by kernel_rfl
theorem boolT_238 : VM.boolT Try.prog 238 = false := by kernel_rfl
theorem intT_238 : VM.intT Try.prog 238 = none := by kernel_rfl
theorem hasT_238 : VM.hasT Try.prog 238 = true := by kernel_rfl
theorem aggT_238 : VM.aggT Try.prog 238 = some true := by kernel_rfl
theorem zeroT_238 : VM.zeroT Try.prog 238 = some [.list true 1 [], .int .i64 0, .bool false] := by kernel_rfl
theorem fieldT_238_0 : VM.fieldT Try.prog 238 0 = some (0, 62) := by kernel_rfl
theorem fieldT_238_1 : VM.fieldT Try.prog 238 1 = some (1, 3) := by kernel_rfl
theorem fieldT_238_2 : VM.fieldT Try.prog 238 2 = some (2, 4) := by kernel_rfl
theorem placesT_238 : VM.placesT Try.prog 238 = some [(0, 1, 62), (1, 1, 3), (2, 1, 4)] := by kernel_rfl
theorem cellsOf_239 : Program.cellsOf Try.prog 239 = 1 := by kernel_rfl
theorem bytesOf_239 : Program.bytesOf Try.prog 239 = 24 := by kernel_rfl
theorem elemT_239 : VM.elemT Try.prog 239 = some 255 := by kernel_rfl
theorem strT_239 : VM.strT Try.prog 239 = false := by kernel_rfl
theorem boolT_239 : VM.boolT Try.prog 239 = false := by kernel_rfl
theorem intT_239 : VM.intT Try.prog 239 = none := by kernel_rfl
theorem hasT_239 : VM.hasT Try.prog 239 = true := by kernel_rfl
theorem aggT_239 : VM.aggT Try.prog 239 = some false := by kernel_rfl
theorem zeroT_239 : VM.zeroT Try.prog 239 = some [.list true 2 []] := by kernel_rfl
theorem cellsOf_243 : Program.cellsOf Try.prog 243 = 1 := by kernel_rfl
theorem bytesOf_243 : Program.bytesOf Try.prog 243 = 4 := by kernel_rfl
theorem elemT_243 : VM.elemT Try.prog 243 = none := by kernel_rfl
theorem strT_243 : VM.strT Try.prog 243 = false := by kernel_rfl
theorem boolT_243 : VM.boolT Try.prog 243 = false := by kernel_rfl
theorem intT_243 : VM.intT Try.prog 243 = some .u32 := by kernel_rfl
theorem hasT_243 : VM.hasT Try.prog 243 = true := by kernel_rfl
theorem aggT_243 : VM.aggT Try.prog 243 = some false := by kernel_rfl
theorem zeroT_243 : VM.zeroT Try.prog 243 = some [.int .u32 0] := by kernel_rfl
theorem cellsOf_246 : Program.cellsOf Try.prog 246 = 1 := by kernel_rfl
theorem bytesOf_246 : Program.bytesOf Try.prog 246 = 8 := by kernel_rfl
theorem elemT_246 : VM.elemT Try.prog 246 = none := by kernel_rfl
theorem strT_246 : VM.strT Try.prog 246 = false := by kernel_rfl
theorem boolT_246 : VM.boolT Try.prog 246 = false := by kernel_rfl
theorem intT_246 : VM.intT Try.prog 246 = some .u64 := by kernel_rfl
theorem hasT_246 : VM.hasT Try.prog 246 = true := by kernel_rfl
theorem aggT_246 : VM.aggT Try.prog 246 = some false := by kernel_rfl
theorem zeroT_246 : VM.zeroT Try.prog 246 = some [.int .u64 0] := by kernel_rfl
theorem cellsOf_254 : Program.cellsOf Try.prog 254 = 2 := by kernel_rfl
theorem bytesOf_254 : Program.bytesOf Try.prog 254 = 24 := by kernel_rfl
theorem elemT_254 : VM.elemT Try.prog 254 = none := by kernel_rfl
theorem strT_254 : VM.strT Try.prog 254 = false := by kernel_rfl
theorem boolT_254 : VM.boolT Try.prog 254 = false := by kernel_rfl
theorem intT_254 : VM.intT Try.prog 254 = none := by kernel_rfl
theorem hasT_254 : VM.hasT Try.prog 254 = true := by kernel_rfl
theorem aggT_254 : VM.aggT Try.prog 254 = some true := by kernel_rfl
theorem zeroT_254 : VM.zeroT Try.prog 254 = some [.int .i64 0, .str ⟨#[]⟩] := by kernel_rfl
theorem fieldT_254_0 : VM.fieldT Try.prog 254 0 = some (0, 3) := by kernel_rfl
theorem fieldT_254_1 : VM.fieldT Try.prog 254 1 = some (1, 9) := by kernel_rfl
theorem placesT_254 : VM.placesT Try.prog 254 = some [(0, 1, 3), (1, 1, 9)] := by kernel_rfl
theorem flatT_254 : VM.flatT Try.prog 254 = some [.int .i64, .string] := by kernel_rfl
theorem cellsOf_255 : Program.cellsOf Try.prog 255 = 2 := by kernel_rfl
theorem bytesOf_255 : Program.bytesOf Try.prog 255 = 24 := by kernel_rfl
theorem elemT_255 : VM.elemT Try.prog 255 = none := by kernel_rfl
theorem strT_255 : VM.strT Try.prog 255 = false := by kernel_rfl
theorem boolT_255 : VM.boolT Try.prog 255 = false := by kernel_rfl
theorem intT_255 : VM.intT Try.prog 255 = none := by kernel_rfl
theorem hasT_255 : VM.hasT Try.prog 255 = true := by kernel_rfl
theorem aggT_255 : VM.aggT Try.prog 255 = some true := by kernel_rfl
theorem zeroT_255 : VM.zeroT Try.prog 255 = some [.int .i64 0, .str ⟨#[]⟩] := by kernel_rfl
theorem fieldT_255_0 : VM.fieldT Try.prog 255 0 = some (0, 3) := by kernel_rfl
theorem fieldT_255_1 : VM.fieldT Try.prog 255 1 = some (1, 9) := by kernel_rfl
theorem placesT_255 : VM.placesT Try.prog 255 = some [(0, 1, 3), (1, 1, 9)] := by kernel_rfl
theorem flatT_255 : VM.flatT Try.prog 255 = some [.int .i64, .string] := by kernel_rfl
attribute [go_sem] cellsOf_3 bytesOf_3 elemT_3 strT_3 boolT_3 intT_3 hasT_3 aggT_3 zeroT_3 cellsOf_4 bytesOf_4 elemT_4 strT_4 boolT_4 intT_4 hasT_4 aggT_4 zeroT_4 cellsOf_5 bytesOf_5 elemT_5 strT_5 boolT_5 intT_5 hasT_5 aggT_5 zeroT_5 cellsOf_9 bytesOf_9 elemT_9 strT_9 boolT_9 intT_9 hasT_9 aggT_9 zeroT_9 cellsOf_22 bytesOf_22 elemT_22 strT_22 boolT_22 intT_22 hasT_22 aggT_22 zeroT_22 cellsOf_24 bytesOf_24 elemT_24 strT_24 boolT_24 intT_24 hasT_24 aggT_24 zeroT_24 cellsOf_31 bytesOf_31 elemT_31 strT_31 boolT_31 intT_31 hasT_31 aggT_31 zeroT_31 cellsOf_32 bytesOf_32 elemT_32 strT_32 boolT_32 intT_32 hasT_32 aggT_32 zeroT_32 fieldT_32_0 fieldT_32_1 placesT_32 cellsOf_33 bytesOf_33 elemT_33 strT_33 boolT_33 intT_33 hasT_33 aggT_33 zeroT_33 fieldT_33_0 fieldT_33_1 placesT_33 cellsOf_34 bytesOf_34 elemT_34 strT_34 boolT_34 intT_34 hasT_34 aggT_34 zeroT_34 fieldT_34_0 fieldT_34_1 fieldT_34_2 placesT_34 cellsOf_35 bytesOf_35 elemT_35 strT_35 boolT_35 intT_35 hasT_35 aggT_35 zeroT_35 fieldT_35_0 fieldT_35_1 fieldT_35_2 placesT_35 cellsOf_38 bytesOf_38 elemT_38 strT_38 boolT_38 intT_38 hasT_38 aggT_38 zeroT_38 fieldT_38_0 fieldT_38_1 placesT_38 cellsOf_39 bytesOf_39 elemT_39 strT_39 boolT_39 intT_39 hasT_39 aggT_39 zeroT_39 fieldT_39_0 fieldT_39_1 fieldT_39_2 placesT_39 cellsOf_40 bytesOf_40 elemT_40 strT_40 boolT_40 intT_40 hasT_40 aggT_40 zeroT_40 fieldT_40_0 fieldT_40_1 fieldT_40_2 placesT_40 cellsOf_44 bytesOf_44 elemT_44 strT_44 boolT_44 intT_44 hasT_44 aggT_44 zeroT_44 cellsOf_45 bytesOf_45 elemT_45 strT_45 boolT_45 intT_45 hasT_45 aggT_45 zeroT_45 cellsOf_46 bytesOf_46 elemT_46 strT_46 boolT_46 intT_46 hasT_46 aggT_46 zeroT_46 fieldT_46_0 fieldT_46_1 fieldT_46_2 fieldT_46_3 placesT_46 cellsOf_47 bytesOf_47 elemT_47 strT_47 boolT_47 intT_47 hasT_47 aggT_47 zeroT_47 fieldT_47_0 fieldT_47_1 fieldT_47_2 fieldT_47_3 placesT_47 cellsOf_49 bytesOf_49 elemT_49 strT_49 boolT_49 intT_49 hasT_49 aggT_49 zeroT_49 cellsOf_51 bytesOf_51 elemT_51 strT_51 boolT_51 intT_51 hasT_51 aggT_51 zeroT_51 cellsOf_52 bytesOf_52 elemT_52 strT_52 boolT_52 intT_52 hasT_52 aggT_52 zeroT_52 cellsOf_53 bytesOf_53 elemT_53 strT_53 boolT_53 intT_53 hasT_53 aggT_53 zeroT_53 fieldT_53_0 fieldT_53_1 fieldT_53_2 fieldT_53_3 placesT_53 cellsOf_54 bytesOf_54 elemT_54 strT_54 boolT_54 intT_54 hasT_54 aggT_54 zeroT_54 fieldT_54_0 fieldT_54_1 fieldT_54_2 fieldT_54_3 placesT_54 cellsOf_62 bytesOf_62 elemT_62 strT_62 boolT_62 intT_62 hasT_62 aggT_62 zeroT_62 cellsOf_64 bytesOf_64 elemT_64 strT_64 boolT_64 intT_64 hasT_64 aggT_64 zeroT_64 cellsOf_65 bytesOf_65 elemT_65 strT_65 boolT_65 intT_65 hasT_65 aggT_65 zeroT_65 fieldT_65_0 fieldT_65_1 placesT_65 cellsOf_66 bytesOf_66 elemT_66 strT_66 boolT_66 intT_66 hasT_66 aggT_66 zeroT_66 fieldT_66_0 fieldT_66_1 placesT_66 cellsOf_67 bytesOf_67 elemT_67 strT_67 boolT_67 intT_67 hasT_67 aggT_67 zeroT_67 fieldT_67_0 fieldT_67_1 fieldT_67_2 fieldT_67_3 placesT_67 flatT_67 cellsOf_68 bytesOf_68 elemT_68 strT_68 boolT_68 intT_68 hasT_68 aggT_68 zeroT_68 fieldT_68_0 fieldT_68_1 fieldT_68_2 fieldT_68_3 placesT_68 flatT_68 cellsOf_73 bytesOf_73 elemT_73 strT_73 boolT_73 intT_73 hasT_73 aggT_73 zeroT_73 fieldT_73_0 fieldT_73_1 placesT_73 flatT_73 cellsOf_74 bytesOf_74 elemT_74 strT_74 boolT_74 intT_74 hasT_74 aggT_74 zeroT_74 fieldT_74_0 fieldT_74_1 placesT_74 flatT_74 cellsOf_84 bytesOf_84 elemT_84 strT_84 boolT_84 intT_84 hasT_84 aggT_84 zeroT_84 cellsOf_85 bytesOf_85 elemT_85 strT_85 boolT_85 intT_85 hasT_85 aggT_85 zeroT_85 fieldT_85_0 fieldT_85_1 fieldT_85_2 fieldT_85_3 placesT_85 cellsOf_86 bytesOf_86 elemT_86 strT_86 boolT_86 intT_86 hasT_86 aggT_86 zeroT_86 fieldT_86_0 fieldT_86_1 fieldT_86_2 fieldT_86_3 placesT_86 cellsOf_99 bytesOf_99 elemT_99 strT_99 boolT_99 intT_99 hasT_99 aggT_99 zeroT_99 fieldT_99_0 fieldT_99_1 fieldT_99_2 fieldT_99_3 placesT_99 cellsOf_100 bytesOf_100 elemT_100 strT_100 boolT_100 intT_100 hasT_100 aggT_100 zeroT_100 fieldT_100_0 fieldT_100_1 fieldT_100_2 fieldT_100_3 placesT_100 cellsOf_108 bytesOf_108 elemT_108 strT_108 boolT_108 intT_108 hasT_108 aggT_108 zeroT_108 fieldT_108_0 fieldT_108_1 fieldT_108_2 placesT_108 flatT_108 cellsOf_109 bytesOf_109 elemT_109 strT_109 boolT_109 intT_109 hasT_109 aggT_109 zeroT_109 fieldT_109_0 fieldT_109_1 fieldT_109_2 placesT_109 flatT_109 cellsOf_141 bytesOf_141 elemT_141 strT_141 boolT_141 intT_141 hasT_141 aggT_141 zeroT_141 fieldT_141_0 fieldT_141_1 fieldT_141_2 placesT_141 cellsOf_142 bytesOf_142 elemT_142 strT_142 boolT_142 intT_142 hasT_142 aggT_142 zeroT_142 fieldT_142_0 fieldT_142_1 fieldT_142_2 placesT_142 cellsOf_148 bytesOf_148 elemT_148 strT_148 boolT_148 intT_148 hasT_148 aggT_148 cellsOf_151 bytesOf_151 elemT_151 strT_151 boolT_151 intT_151 hasT_151 aggT_151 zeroT_151 cellsOf_152 bytesOf_152 elemT_152 strT_152 boolT_152 intT_152 hasT_152 aggT_152 zeroT_152 fieldT_152_0 fieldT_152_1 placesT_152 cellsOf_153 bytesOf_153 elemT_153 strT_153 boolT_153 intT_153 hasT_153 aggT_153 zeroT_153 fieldT_153_0 fieldT_153_1 placesT_153 cellsOf_161 bytesOf_161 elemT_161 strT_161 boolT_161 intT_161 hasT_161 aggT_161 zeroT_161 cellsOf_162 bytesOf_162 elemT_162 strT_162 boolT_162 intT_162 hasT_162 aggT_162 zeroT_162 cellsOf_163 bytesOf_163 elemT_163 strT_163 boolT_163 intT_163 hasT_163 aggT_163 zeroT_163 fieldT_163_0 fieldT_163_1 fieldT_163_2 fieldT_163_3 placesT_163 cellsOf_164 bytesOf_164 elemT_164 strT_164 boolT_164 intT_164 hasT_164 aggT_164 zeroT_164 fieldT_164_0 fieldT_164_1 fieldT_164_2 fieldT_164_3 placesT_164 cellsOf_166 bytesOf_166 elemT_166 strT_166 boolT_166 intT_166 hasT_166 aggT_166 zeroT_166 cellsOf_167 bytesOf_167 elemT_167 strT_167 boolT_167 intT_167 hasT_167 aggT_167 zeroT_167 fieldT_167_0 fieldT_167_1 placesT_167 cellsOf_168 bytesOf_168 elemT_168 strT_168 boolT_168 intT_168 hasT_168 aggT_168 zeroT_168 fieldT_168_0 fieldT_168_1 placesT_168 cellsOf_176 bytesOf_176 elemT_176 strT_176 boolT_176 intT_176 hasT_176 aggT_176 zeroT_176 fieldT_176_0 fieldT_176_1 fieldT_176_2 placesT_176 flatT_176 cellsOf_177 bytesOf_177 elemT_177 strT_177 boolT_177 intT_177 hasT_177 aggT_177 zeroT_177 fieldT_177_0 fieldT_177_1 fieldT_177_2 placesT_177 flatT_177 cellsOf_180 bytesOf_180 elemT_180 strT_180 boolT_180 intT_180 hasT_180 aggT_180 cellsOf_181 bytesOf_181 elemT_181 strT_181 boolT_181 intT_181 hasT_181 aggT_181 zeroT_181 fieldT_181_0 fieldT_181_1 fieldT_181_2 placesT_181 cellsOf_182 bytesOf_182 elemT_182 strT_182 boolT_182 intT_182 hasT_182 aggT_182 zeroT_182 fieldT_182_0 fieldT_182_1 fieldT_182_2 placesT_182 cellsOf_190 bytesOf_190 elemT_190 strT_190 boolT_190 intT_190 hasT_190 aggT_190 cellsOf_215 bytesOf_215 elemT_215 strT_215 boolT_215 intT_215 hasT_215 aggT_215 zeroT_215 cellsOf_223 bytesOf_223 elemT_223 strT_223 boolT_223 intT_223 hasT_223 aggT_223 zeroT_223 fieldT_223_0 fieldT_223_1 fieldT_223_2 fieldT_223_3 placesT_223 flatT_223 cellsOf_224 bytesOf_224 elemT_224 strT_224 boolT_224 intT_224 hasT_224 aggT_224 zeroT_224 fieldT_224_0 fieldT_224_1 fieldT_224_2 placesT_224 cellsOf_225 bytesOf_225 elemT_225 strT_225 boolT_225 intT_225 hasT_225 aggT_225 zeroT_225 fieldT_225_0 fieldT_225_1 fieldT_225_2 placesT_225 cellsOf_227 bytesOf_227 elemT_227 strT_227 boolT_227 intT_227 hasT_227 aggT_227 zeroT_227 fieldT_227_0 fieldT_227_1 placesT_227 flatT_227 cellsOf_237 bytesOf_237 elemT_237 strT_237 boolT_237 intT_237 hasT_237 aggT_237 zeroT_237 fieldT_237_0 fieldT_237_1 fieldT_237_2 placesT_237 cellsOf_238 bytesOf_238 elemT_238 strT_238 boolT_238 intT_238 hasT_238 aggT_238 zeroT_238 fieldT_238_0 fieldT_238_1 fieldT_238_2 placesT_238 cellsOf_239 bytesOf_239 elemT_239 strT_239 boolT_239 intT_239 hasT_239 aggT_239 zeroT_239 cellsOf_243 bytesOf_243 elemT_243 strT_243 boolT_243 intT_243 hasT_243 aggT_243 zeroT_243 cellsOf_246 bytesOf_246 elemT_246 strT_246 boolT_246 intT_246 hasT_246 aggT_246 zeroT_246 cellsOf_254 bytesOf_254 elemT_254 strT_254 boolT_254 intT_254 hasT_254 aggT_254 zeroT_254 fieldT_254_0 fieldT_254_1 placesT_254 flatT_254 cellsOf_255 bytesOf_255 elemT_255 strT_255 boolT_255 intT_255 hasT_255 aggT_255 zeroT_255 fieldT_255_0 fieldT_255_1 placesT_255 flatT_255
end Go.Proofs.Ytppbonbghmdhhaa
