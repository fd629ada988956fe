/- What the machine asks of the program's types. Printed by a program (facts.py). -/
import Derived.Test.YtplnflkabpcaaaaDoorVUse
import Derived.Test.YtplnflkabpcaaaaDoorProg
import Derived.KernelRfl
namespace Go.Proofs.YtplnflkabpcaaaaDoor
theorem cellsOf_3 : Program.cellsOf Tryd.prog 3 = 1 := by kernel_rfl
theorem bytesOf_3 : Program.bytesOf Tryd.prog 3 = 8 := by kernel_rfl
theorem elemT_3 : VM.elemT Tryd.prog 3 = none := by kernel_rfl
theorem strT_3 : VM.strT Tryd.prog 3 = false := by kernel_rfl
theorem boolT_3 : VM.boolT Tryd.prog 3 = false := by kernel_rfl
theorem intT_3 : VM.intT Tryd.prog 3 = some .i64 := by kernel_rfl
theorem hasT_3 : VM.hasT Tryd.prog 3 = true := by kernel_rfl
theorem aggT_3 : VM.aggT Tryd.prog 3 = some false := by kernel_rfl
theorem zeroT_3 : VM.zeroT Tryd.prog 3 = some [.int .i64 0] := by kernel_rfl
theorem cellsOf_4 : Program.cellsOf Tryd.prog 4 = 1 := by kernel_rfl
theorem bytesOf_4 : Program.bytesOf Tryd.prog 4 = 1 := by kernel_rfl
theorem elemT_4 : VM.elemT Tryd.prog 4 = none := by kernel_rfl
theorem strT_4 : VM.strT Tryd.prog 4 = false := by kernel_rfl
theorem boolT_4 : VM.boolT Tryd.prog 4 = true := by kernel_rfl
theorem intT_4 : VM.intT Tryd.prog 4 = none := by kernel_rfl
theorem hasT_4 : VM.hasT Tryd.prog 4 = true := by kernel_rfl
theorem aggT_4 : VM.aggT Tryd.prog 4 = some false := by kernel_rfl
theorem zeroT_4 : VM.zeroT Tryd.prog 4 = some [.bool false] := by kernel_rfl
theorem cellsOf_5 : Program.cellsOf Tryd.prog 5 = 1 := by kernel_rfl
theorem bytesOf_5 : Program.bytesOf Tryd.prog 5 = 1 := by kernel_rfl
theorem elemT_5 : VM.elemT Tryd.prog 5 = none := by kernel_rfl
theorem strT_5 : VM.strT Tryd.prog 5 = false := by kernel_rfl
theorem boolT_5 : VM.boolT Tryd.prog 5 = false := by kernel_rfl
theorem intT_5 : VM.intT Tryd.prog 5 = some .u8 := by kernel_rfl
theorem hasT_5 : VM.hasT Tryd.prog 5 = true := by kernel_rfl
theorem aggT_5 : VM.aggT Tryd.prog 5 = some false := by kernel_rfl
theorem zeroT_5 : VM.zeroT Tryd.prog 5 = some [.int .u8 0] := by kernel_rfl
theorem cellsOf_9 : Program.cellsOf Tryd.prog 9 = 1 := by kernel_rfl
theorem bytesOf_9 : Program.bytesOf Tryd.prog 9 = 16 := by kernel_rfl
theorem elemT_9 : VM.elemT Tryd.prog 9 = none := by kernel_rfl
theorem strT_9 : VM.strT Tryd.prog 9 = true := by kernel_rfl
theorem boolT_9 : VM.boolT Tryd.prog 9 = false := by kernel_rfl
theorem intT_9 : VM.intT Tryd.prog 9 = none := by kernel_rfl
theorem hasT_9 : VM.hasT Tryd.prog 9 = true := by kernel_rfl
theorem aggT_9 : VM.aggT Tryd.prog 9 = some false := by kernel_rfl
theorem zeroT_9 : VM.zeroT Tryd.prog 9 = some [.str ⟨#[]⟩] := by kernel_rfl
theorem cellsOf_21 : Program.cellsOf Tryd.prog 21 = 1 := by kernel_rfl
theorem bytesOf_21 : Program.bytesOf Tryd.prog 21 = 4 := by kernel_rfl
theorem elemT_21 : VM.elemT Tryd.prog 21 = none := by kernel_rfl
theorem strT_21 : VM.strT Tryd.prog 21 = false := by kernel_rfl
theorem boolT_21 : VM.boolT Tryd.prog 21 = false := by kernel_rfl
theorem intT_21 : VM.intT Tryd.prog 21 = some .i32 := by kernel_rfl
theorem hasT_21 : VM.hasT Tryd.prog 21 = true := by kernel_rfl
theorem aggT_21 : VM.aggT Tryd.prog 21 = some false := by kernel_rfl
theorem zeroT_21 : VM.zeroT Tryd.prog 21 = some [.int .i32 0] := by kernel_rfl
theorem cellsOf_22 : Program.cellsOf Tryd.prog 22 = 1 := by kernel_rfl
theorem bytesOf_22 : Program.bytesOf Tryd.prog 22 = 24 := by kernel_rfl
theorem elemT_22 : VM.elemT Tryd.prog 22 = some 9 := by kernel_rfl
theorem strT_22 : VM.strT Tryd.prog 22 = false := by kernel_rfl
theorem boolT_22 : VM.boolT Tryd.prog 22 = false := by kernel_rfl
theorem intT_22 : VM.intT Tryd.prog 22 = none := by kernel_rfl
theorem hasT_22 : VM.hasT Tryd.prog 22 = true := by kernel_rfl
theorem aggT_22 : VM.aggT Tryd.prog 22 = some false := by kernel_rfl
theorem zeroT_22 : VM.zeroT Tryd.prog 22 = some [.list true 1 []] := by kernel_rfl
theorem cellsOf_28 : Program.cellsOf Tryd.prog 28 = 1 := by kernel_rfl
theorem bytesOf_28 : Program.bytesOf Tryd.prog 28 = 8 := by kernel_rfl
theorem elemT_28 : VM.elemT Tryd.prog 28 = none := by kernel_rfl
theorem strT_28 : VM.strT Tryd.prog 28 = false := by kernel_rfl
theorem boolT_28 : VM.boolT Tryd.prog 28 = false := by kernel_rfl
theorem intT_28 : VM.intT Tryd.prog 28 = none := by kernel_rfl
theorem hasT_28 : VM.hasT Tryd.prog 28 = true := by kernel_rfl
theorem aggT_28 : VM.aggT Tryd.prog 28 = some false := by kernel_rfl
theorem cellsOf_31 : Program.cellsOf Tryd.prog 31 = 1 := by kernel_rfl
theorem bytesOf_31 : Program.bytesOf Tryd.prog 31 = 24 := by kernel_rfl
theorem elemT_31 : VM.elemT Tryd.prog 31 = some 3 := by kernel_rfl
theorem strT_31 : VM.strT Tryd.prog 31 = false := by kernel_rfl
theorem boolT_31 : VM.boolT Tryd.prog 31 = false := by kernel_rfl
theorem intT_31 : VM.intT Tryd.prog 31 = none := by kernel_rfl
theorem hasT_31 : VM.hasT Tryd.prog 31 = true := by kernel_rfl
theorem aggT_31 : VM.aggT Tryd.prog 31 = some false := by kernel_rfl
theorem zeroT_31 : VM.zeroT Tryd.prog 31 = some [.list true 1 []] := by kernel_rfl
theorem cellsOf_32 : Program.cellsOf Tryd.prog 32 = 4 := by kernel_rfl
theorem bytesOf_32 : Program.bytesOf Tryd.prog 32 = 72 := by kernel_rfl
theorem elemT_32 : VM.elemT Tryd.prog 32 = none := by kernel_rfl
theorem strT_32 : VM.strT Tryd.prog 32 = false := by kernel_rfl
theorem boolT_32 : VM.boolT Tryd.prog 32 = false := by kernel_rfl
theorem intT_32 : VM.intT Tryd.prog 32 = none := by kernel_rfl
theorem hasT_32 : VM.hasT Tryd.prog 32 = true := by kernel_rfl
theorem aggT_32 : VM.aggT Tryd.prog 32 = some true := by kernel_rfl
theorem zeroT_32 : VM.zeroT Tryd.prog 32 = some [.bool false, .list true 1 [], .list true 1 [], .str ⟨#[]⟩] := by kernel_rfl
theorem fieldT_32_0 : VM.fieldT Tryd.prog 32 0 = some (0, 4) := by kernel_rfl
theorem fieldT_32_1 : VM.fieldT Tryd.prog 32 1 = some (1, 22) := by kernel_rfl
theorem fieldT_32_2 : VM.fieldT Tryd.prog 32 2 = some (2, 31) := by kernel_rfl
theorem fieldT_32_3 : VM.fieldT Tryd.prog 32 3 = some (3, 9) := by kernel_rfl
theorem placesT_32 : VM.placesT Tryd.prog 32 = some [(0, 1, 4), (1, 1, 22), (2, 1, 31), (3, 1, 9)] := by kernel_rfl
theorem cellsOf_33 : Program.cellsOf Tryd.prog 33 = 4 := by kernel_rfl
theorem bytesOf_33 : Program.bytesOf Tryd.prog 33 = 72 := by kernel_rfl
theorem elemT_33 : VM.elemT Tryd.prog 33 = none := by kernel_rfl
theorem strT_33 : VM.strT Tryd.prog 33 = false := by kernel_rfl
theorem boolT_33 : VM.boolT Tryd.prog 33 = false := by kernel_rfl
theorem intT_33 : VM.intT Tryd.prog 33 = none := by kernel_rfl
theorem hasT_33 : VM.hasT Tryd.prog 33 = true := by kernel_rfl
theorem aggT_33 : VM.aggT Tryd.prog 33 = some true := by kernel_rfl
theorem zeroT_33 : VM.zeroT Tryd.prog 33 = some [.bool false, .list true 1 [], .list true 1 [], .str ⟨#[]⟩] := by kernel_rfl
theorem fieldT_33_0 : VM.fieldT Tryd.prog 33 0 = some (0, 4) := by kernel_rfl
theorem fieldT_33_1 : VM.fieldT Tryd.prog 33 1 = some (1, 22) := by kernel_rfl
theorem fieldT_33_2 : VM.fieldT Tryd.prog 33 2 = some (2, 31) := by kernel_rfl
theorem fieldT_33_3 : VM.fieldT Tryd.prog 33 3 = some (3, 9) := by kernel_rfl
theorem placesT_33 : VM.placesT Tryd.prog 33 = some [(0, 1, 4), (1, 1, 22), (2, 1, 31), (3, 1, 9)] := by kernel_rfl
theorem cellsOf_38 : Program.cellsOf Tryd.prog 38 = 1 := by kernel_rfl
theorem bytesOf_38 : Program.bytesOf Tryd.prog 38 = 24 := by kernel_rfl
theorem elemT_38 : VM.elemT Tryd.prog 38 = some 4 := by kernel_rfl
theorem strT_38 : VM.strT Tryd.prog 38 = false := by kernel_rfl
theorem boolT_38 : VM.boolT Tryd.prog 38 = false := by kernel_rfl
theorem intT_38 : VM.intT Tryd.prog 38 = none := by kernel_rfl
theorem hasT_38 : VM.hasT Tryd.prog 38 = true := by kernel_rfl
theorem aggT_38 : VM.aggT Tryd.prog 38 = some false := by kernel_rfl
theorem zeroT_38 : VM.zeroT Tryd.prog 38 = some [.list true 1 []] := by kernel_rfl
theorem cellsOf_43 : Program.cellsOf Tryd.prog 43 = 2 := by kernel_rfl
theorem bytesOf_43 : Program.bytesOf Tryd.prog 43 = 48 := by kernel_rfl
theorem elemT_43 : VM.elemT Tryd.prog 43 = none := by kernel_rfl
theorem strT_43 : VM.strT Tryd.prog 43 = false := by kernel_rfl
theorem boolT_43 : VM.boolT Tryd.prog 43 = false := by kernel_rfl
theorem intT_43 : VM.intT Tryd.prog 43 = none := by kernel_rfl
theorem hasT_43 : VM.hasT Tryd.prog 43 = true := by kernel_rfl
theorem aggT_43 : VM.aggT Tryd.prog 43 = some true := by kernel_rfl
theorem zeroT_43 : VM.zeroT Tryd.prog 43 = some [.list true 1 [], .list true 1 []] := by kernel_rfl
theorem fieldT_43_0 : VM.fieldT Tryd.prog 43 0 = some (0, 22) := by kernel_rfl
theorem fieldT_43_1 : VM.fieldT Tryd.prog 43 1 = some (1, 38) := by kernel_rfl
theorem placesT_43 : VM.placesT Tryd.prog 43 = some [(0, 1, 22), (1, 1, 38)] := by kernel_rfl
theorem cellsOf_44 : Program.cellsOf Tryd.prog 44 = 2 := by kernel_rfl
theorem bytesOf_44 : Program.bytesOf Tryd.prog 44 = 48 := by kernel_rfl
theorem elemT_44 : VM.elemT Tryd.prog 44 = none := by kernel_rfl
theorem strT_44 : VM.strT Tryd.prog 44 = false := by kernel_rfl
theorem boolT_44 : VM.boolT Tryd.prog 44 = false := by kernel_rfl
theorem intT_44 : VM.intT Tryd.prog 44 = none := by kernel_rfl
theorem hasT_44 : VM.hasT Tryd.prog 44 = true := by kernel_rfl
theorem aggT_44 : VM.aggT Tryd.prog 44 = some true := by kernel_rfl
theorem zeroT_44 : VM.zeroT Tryd.prog 44 = some [.list true 1 [], .list true 1 []] := by kernel_rfl
theorem fieldT_44_0 : VM.fieldT Tryd.prog 44 0 = some (0, 22) := by kernel_rfl
theorem fieldT_44_1 : VM.fieldT Tryd.prog 44 1 = some (1, 38) := by kernel_rfl
theorem placesT_44 : VM.placesT Tryd.prog 44 = some [(0, 1, 22), (1, 1, 38)] := by kernel_rfl
theorem cellsOf_53 : Program.cellsOf Tryd.prog 53 = 1 := by kernel_rfl
theorem bytesOf_53 : Program.bytesOf Tryd.prog 53 = 24 := by kernel_rfl
theorem elemT_53 : VM.elemT Tryd.prog 53 = some 5 := by kernel_rfl
theorem strT_53 : VM.strT Tryd.prog 53 = false := by kernel_rfl
theorem boolT_53 : VM.boolT Tryd.prog 53 = false := by kernel_rfl
theorem intT_53 : VM.intT Tryd.prog 53 = none := by kernel_rfl
theorem hasT_53 : VM.hasT Tryd.prog 53 = true := by kernel_rfl
theorem aggT_53 : VM.aggT Tryd.prog 53 = some false := by kernel_rfl
theorem zeroT_53 : VM.zeroT Tryd.prog 53 = some [.list true 1 []] := by kernel_rfl
theorem cellsOf_63 : Program.cellsOf Tryd.prog 63 = 1 := by kernel_rfl
theorem bytesOf_63 : Program.bytesOf Tryd.prog 63 = 8 := by kernel_rfl
theorem elemT_63 : VM.elemT Tryd.prog 63 = none := by kernel_rfl
theorem strT_63 : VM.strT Tryd.prog 63 = false := by kernel_rfl
theorem boolT_63 : VM.boolT Tryd.prog 63 = false := by kernel_rfl
theorem intT_63 : VM.intT Tryd.prog 63 = some .u64 := by kernel_rfl
theorem hasT_63 : VM.hasT Tryd.prog 63 = true := by kernel_rfl
theorem aggT_63 : VM.aggT Tryd.prog 63 = some false := by kernel_rfl
theorem zeroT_63 : VM.zeroT Tryd.prog 63 = some [.int .u64 0] := by kernel_rfl
theorem cellsOf_65 : Program.cellsOf Tryd.prog 65 = 2 := by kernel_rfl
theorem bytesOf_65 : Program.bytesOf Tryd.prog 65 = 2 := by kernel_rfl
theorem elemT_65 : VM.elemT Tryd.prog 65 = none := by kernel_rfl
theorem strT_65 : VM.strT Tryd.prog 65 = false := by kernel_rfl
theorem boolT_65 : VM.boolT Tryd.prog 65 = false := by kernel_rfl
theorem intT_65 : VM.intT Tryd.prog 65 = none := by kernel_rfl
theorem hasT_65 : VM.hasT Tryd.prog 65 = true := by kernel_rfl
theorem aggT_65 : VM.aggT Tryd.prog 65 = some true := by kernel_rfl
theorem zeroT_65 : VM.zeroT Tryd.prog 65 = some [.int .u8 0, .int .u8 0] := by kernel_rfl
theorem fieldT_65_0 : VM.fieldT Tryd.prog 65 0 = some (0, 5) := by kernel_rfl
theorem fieldT_65_1 : VM.fieldT Tryd.prog 65 1 = some (1, 5) := by kernel_rfl
theorem placesT_65 : VM.placesT Tryd.prog 65 = some [(0, 1, 5), (1, 1, 5)] := by kernel_rfl
theorem flatT_65 : VM.flatT Tryd.prog 65 = some [.int .u8, .int .u8] := by kernel_rfl
theorem cellsOf_66 : Program.cellsOf Tryd.prog 66 = 2 := by kernel_rfl
theorem bytesOf_66 : Program.bytesOf Tryd.prog 66 = 2 := by kernel_rfl
theorem elemT_66 : VM.elemT Tryd.prog 66 = none := by kernel_rfl
theorem strT_66 : VM.strT Tryd.prog 66 = false := by kernel_rfl
theorem boolT_66 : VM.boolT Tryd.prog 66 = false := by kernel_rfl
theorem intT_66 : VM.intT Tryd.prog 66 = none := by kernel_rfl
theorem hasT_66 : VM.hasT Tryd.prog 66 = true := by kernel_rfl
theorem aggT_66 : VM.aggT Tryd.prog 66 = some true := by kernel_rfl
theorem zeroT_66 : VM.zeroT Tryd.prog 66 = some [.int .u8 0, .int .u8 0] := by kernel_rfl
theorem fieldT_66_0 : VM.fieldT Tryd.prog 66 0 = some (0, 5) := by kernel_rfl
theorem fieldT_66_1 : VM.fieldT Tryd.prog 66 1 = some (1, 5) := by kernel_rfl
theorem placesT_66 : VM.placesT Tryd.prog 66 = some [(0, 1, 5), (1, 1, 5)] := by kernel_rfl
theorem flatT_66 : VM.flatT Tryd.prog 66 = some [.int .u8, .int .u8] := by kernel_rfl
theorem cellsOf_68 : Program.cellsOf Tryd.prog 68 = 1 := by kernel_rfl
theorem bytesOf_68 : Program.bytesOf Tryd.prog 68 = 4 := by kernel_rfl
theorem elemT_68 : VM.elemT Tryd.prog 68 = none := by kernel_rfl
theorem strT_68 : VM.strT Tryd.prog 68 = false := by kernel_rfl
theorem boolT_68 : VM.boolT Tryd.prog 68 = false := by kernel_rfl
theorem intT_68 : VM.intT Tryd.prog 68 = some .u32 := by kernel_rfl
theorem hasT_68 : VM.hasT Tryd.prog 68 = true := by kernel_rfl
theorem aggT_68 : VM.aggT Tryd.prog 68 = some false := by kernel_rfl
theorem zeroT_68 : VM.zeroT Tryd.prog 68 = some [.int .u32 0] := by kernel_rfl
attribute [go_sem] cellsOf_3 bytesOf_3 elemT_3 strT_3 boolT_3 intT_3 hasT_3 aggT_3 zeroT_3 cellsOf_4 bytesOf_4 elemT_4 strT_4 boolT_4 intT_4 hasT_4 aggT_4 zeroT_4 cellsOf_5 bytesOf_5 elemT_5 strT_5 boolT_5 intT_5 hasT_5 aggT_5 zeroT_5 cellsOf_9 bytesOf_9 elemT_9 strT_9 boolT_9 intT_9 hasT_9 aggT_9 zeroT_9 cellsOf_21 bytesOf_21 elemT_21 strT_21 boolT_21 intT_21 hasT_21 aggT_21 zeroT_21 cellsOf_22 bytesOf_22 elemT_22 strT_22 boolT_22 intT_22 hasT_22 aggT_22 zeroT_22 cellsOf_28 bytesOf_28 elemT_28 strT_28 boolT_28 intT_28 hasT_28 aggT_28 cellsOf_31 bytesOf_31 elemT_31 strT_31 boolT_31 intT_31 hasT_31 aggT_31 zeroT_31 cellsOf_32 bytesOf_32 elemT_32 strT_32 boolT_32 intT_32 hasT_32 aggT_32 zeroT_32 fieldT_32_0 fieldT_32_1 fieldT_32_2 fieldT_32_3 placesT_32 cellsOf_33 bytesOf_33 elemT_33 strT_33 boolT_33 intT_33 hasT_33 aggT_33 zeroT_33 fieldT_33_0 fieldT_33_1 fieldT_33_2 fieldT_33_3 placesT_33 cellsOf_38 bytesOf_38 elemT_38 strT_38 boolT_38 intT_38 hasT_38 aggT_38 zeroT_38 cellsOf_43 bytesOf_43 elemT_43 strT_43 boolT_43 intT_43 hasT_43 aggT_43 zeroT_43 fieldT_43_0 fieldT_43_1 placesT_43 cellsOf_44 bytesOf_44 elemT_44 strT_44 boolT_44 intT_44 hasT_44 aggT_44 zeroT_44 fieldT_44_0 fieldT_44_1 placesT_44 cellsOf_53 bytesOf_53 elemT_53 strT_53 boolT_53 intT_53 hasT_53 aggT_53 zeroT_53 cellsOf_63 bytesOf_63 elemT_63 strT_63 boolT_63 intT_63 hasT_63 aggT_63 zeroT_63 cellsOf_65 bytesOf_65 elemT_65 strT_65 boolT_65 intT_65 hasT_65 aggT_65 zeroT_65 fieldT_65_0 fieldT_65_1 placesT_65 flatT_65 cellsOf_66 bytesOf_66 elemT_66 strT_66 boolT_66 intT_66 hasT_66 aggT_66 zeroT_66 fieldT_66_0 fieldT_66_1 placesT_66 flatT_66 cellsOf_68 bytesOf_68 elemT_68 strT_68 boolT_68 intT_68 hasT_68 aggT_68 zeroT_68
end Go.Proofs.YtplnflkabpcaaaaDoor
