/- What the machine asks of the program's types. Printed by a program (facts.py). -/
import Derived.Test.YtalacohfhmdhjaaDoorVUse
import Derived.Test.YtalacohfhmdhjaaDoorProg
import Derived.KernelRfl
namespace Go.Proofs.YtalacohfhmdhjaaDoor
theorem cellsOf_3 : Program.cellsOf Tryd.prog 3 = 1 := by kernel_rfl
theorem bytesOf_3 : Program.bytesOf Tryd.prog 3 = 8 := by kernel_rfl
theorem elemT_3 : VM.elemT Tryd.prog 3 = none := by kernel_rfl
theorem strT_3 : VM.strT Tryd.prog 3 = false := by kernel_rfl
theorem boolT_3 : VM.boolT Tryd.prog 3 = false := by kernel_rfl
theorem intT_3 : VM.intT Tryd.prog 3 = some .i64 := by kernel_rfl
theorem hasT_3 : VM.hasT Tryd.prog 3 = true := by kernel_rfl
theorem aggT_3 : VM.aggT Tryd.prog 3 = some false := by kernel_rfl
theorem zeroT_3 : VM.zeroT Tryd.prog 3 = some [.int .i64 0] := by kernel_rfl
theorem cellsOf_4 : Program.cellsOf Tryd.prog 4 = 1 := by kernel_rfl
theorem bytesOf_4 : Program.bytesOf Tryd.prog 4 = 1 := by kernel_rfl
theorem elemT_4 : VM.elemT Tryd.prog 4 = none := by kernel_rfl
theorem strT_4 : VM.strT Tryd.prog 4 = false := by kernel_rfl
theorem boolT_4 : VM.boolT Tryd.prog 4 = true := by kernel_rfl
theorem intT_4 : VM.intT Tryd.prog 4 = none := by kernel_rfl
theorem hasT_4 : VM.hasT Tryd.prog 4 = true := by kernel_rfl
theorem aggT_4 : VM.aggT Tryd.prog 4 = some false := by kernel_rfl
theorem zeroT_4 : VM.zeroT Tryd.prog 4 = some [.bool false] := by kernel_rfl
theorem cellsOf_5 : Program.cellsOf Tryd.prog 5 = 1 := by kernel_rfl
theorem bytesOf_5 : Program.bytesOf Tryd.prog 5 = 1 := by kernel_rfl
theorem elemT_5 : VM.elemT Tryd.prog 5 = none := by kernel_rfl
theorem strT_5 : VM.strT Tryd.prog 5 = false := by kernel_rfl
theorem boolT_5 : VM.boolT Tryd.prog 5 = false := by kernel_rfl
theorem intT_5 : VM.intT Tryd.prog 5 = some .u8 := by kernel_rfl
theorem hasT_5 : VM.hasT Tryd.prog 5 = true := by kernel_rfl
theorem aggT_5 : VM.aggT Tryd.prog 5 = some false := by kernel_rfl
theorem zeroT_5 : VM.zeroT Tryd.prog 5 = some [.int .u8 0] := by kernel_rfl
theorem cellsOf_9 : Program.cellsOf Tryd.prog 9 = 1 := by kernel_rfl
theorem bytesOf_9 : Program.bytesOf Tryd.prog 9 = 16 := by kernel_rfl
theorem elemT_9 : VM.elemT Tryd.prog 9 = none := by kernel_rfl
theorem strT_9 : VM.strT Tryd.prog 9 = true := by kernel_rfl
theorem boolT_9 : VM.boolT Tryd.prog 9 = false := by kernel_rfl
theorem intT_9 : VM.intT Tryd.prog 9 = none := by kernel_rfl
theorem hasT_9 : VM.hasT Tryd.prog 9 = true := by kernel_rfl
theorem aggT_9 : VM.aggT Tryd.prog 9 = some false := by kernel_rfl
theorem zeroT_9 : VM.zeroT Tryd.prog 9 = some [.str ⟨#[]⟩] := by kernel_rfl
theorem cellsOf_22 : Program.cellsOf Tryd.prog 22 = 1 := by kernel_rfl
theorem bytesOf_22 : Program.bytesOf Tryd.prog 22 = 8 := by kernel_rfl
theorem elemT_22 : VM.elemT Tryd.prog 22 = none := by kernel_rfl
theorem strT_22 : VM.strT Tryd.prog 22 = false := by kernel_rfl
theorem boolT_22 : VM.boolT Tryd.prog 22 = false := by kernel_rfl
theorem intT_22 : VM.intT Tryd.prog 22 = none := by kernel_rfl
theorem hasT_22 : VM.hasT Tryd.prog 22 = true := by kernel_rfl
theorem aggT_22 : VM.aggT Tryd.prog 22 = some false := by kernel_rfl
theorem cellsOf_26 : Program.cellsOf Tryd.prog 26 = 1 := by kernel_rfl
theorem bytesOf_26 : Program.bytesOf Tryd.prog 26 = 24 := by kernel_rfl
theorem elemT_26 : VM.elemT Tryd.prog 26 = some 9 := by kernel_rfl
theorem strT_26 : VM.strT Tryd.prog 26 = false := by kernel_rfl
theorem boolT_26 : VM.boolT Tryd.prog 26 = false := by kernel_rfl
theorem intT_26 : VM.intT Tryd.prog 26 = none := by kernel_rfl
theorem hasT_26 : VM.hasT Tryd.prog 26 = true := by kernel_rfl
theorem aggT_26 : VM.aggT Tryd.prog 26 = some false := by kernel_rfl
theorem zeroT_26 : VM.zeroT Tryd.prog 26 = some [.list true 1 []] := by kernel_rfl
theorem cellsOf_31 : Program.cellsOf Tryd.prog 31 = 4 := by kernel_rfl
theorem bytesOf_31 : Program.bytesOf Tryd.prog 31 = 56 := by kernel_rfl
theorem elemT_31 : VM.elemT Tryd.prog 31 = none := by kernel_rfl
theorem strT_31 : VM.strT Tryd.prog 31 = false := by kernel_rfl
theorem boolT_31 : VM.boolT Tryd.prog 31 = false := by kernel_rfl
theorem intT_31 : VM.intT Tryd.prog 31 = none := by kernel_rfl
theorem hasT_31 : VM.hasT Tryd.prog 31 = true := by kernel_rfl
theorem aggT_31 : VM.aggT Tryd.prog 31 = some true := by kernel_rfl
theorem zeroT_31 : VM.zeroT Tryd.prog 31 = some [.int .i64 0, .str ⟨#[]⟩, .str ⟨#[]⟩, .str ⟨#[]⟩] := by kernel_rfl
theorem fieldT_31_0 : VM.fieldT Tryd.prog 31 0 = some (0, 3) := by kernel_rfl
theorem fieldT_31_1 : VM.fieldT Tryd.prog 31 1 = some (1, 9) := by kernel_rfl
theorem fieldT_31_2 : VM.fieldT Tryd.prog 31 2 = some (2, 9) := by kernel_rfl
theorem fieldT_31_3 : VM.fieldT Tryd.prog 31 3 = some (3, 9) := by kernel_rfl
theorem placesT_31 : VM.placesT Tryd.prog 31 = some [(0, 1, 3), (1, 1, 9), (2, 1, 9), (3, 1, 9)] := by kernel_rfl
theorem flatT_31 : VM.flatT Tryd.prog 31 = some [.int .i64, .string, .string, .string] := by kernel_rfl
theorem cellsOf_35 : Program.cellsOf Tryd.prog 35 = 1 := by kernel_rfl
theorem bytesOf_35 : Program.bytesOf Tryd.prog 35 = 24 := by kernel_rfl
theorem elemT_35 : VM.elemT Tryd.prog 35 = some 53 := by kernel_rfl
theorem strT_35 : VM.strT Tryd.prog 35 = false := by kernel_rfl
theorem boolT_35 : VM.boolT Tryd.prog 35 = false := by kernel_rfl
theorem intT_35 : VM.intT Tryd.prog 35 = none := by kernel_rfl
theorem hasT_35 : VM.hasT Tryd.prog 35 = true := by kernel_rfl
theorem aggT_35 : VM.aggT Tryd.prog 35 = some false := by kernel_rfl
theorem zeroT_35 : VM.zeroT Tryd.prog 35 = some [.list true 3 []] := by kernel_rfl
theorem cellsOf_38 : Program.cellsOf Tryd.prog 38 = 1 := by kernel_rfl
theorem bytesOf_38 : Program.bytesOf Tryd.prog 38 = 24 := by kernel_rfl
theorem elemT_38 : VM.elemT Tryd.prog 38 = some 54 := by kernel_rfl
theorem strT_38 : VM.strT Tryd.prog 38 = false := by kernel_rfl
theorem boolT_38 : VM.boolT Tryd.prog 38 = false := by kernel_rfl
theorem intT_38 : VM.intT Tryd.prog 38 = none := by kernel_rfl
theorem hasT_38 : VM.hasT Tryd.prog 38 = true := by kernel_rfl
theorem aggT_38 : VM.aggT Tryd.prog 38 = some false := by kernel_rfl
theorem zeroT_38 : VM.zeroT Tryd.prog 38 = some [.list true 3 []] := by kernel_rfl
theorem cellsOf_53 : Program.cellsOf Tryd.prog 53 = 3 := by kernel_rfl
theorem bytesOf_53 : Program.bytesOf Tryd.prog 53 = 40 := by kernel_rfl
theorem elemT_53 : VM.elemT Tryd.prog 53 = none := by kernel_rfl
theorem strT_53 : VM.strT Tryd.prog 53 = false := by kernel_rfl
theorem boolT_53 : VM.boolT Tryd.prog 53 = false := by kernel_rfl
theorem intT_53 : VM.intT Tryd.prog 53 = none := by kernel_rfl
theorem hasT_53 : VM.hasT Tryd.prog 53 = true := by kernel_rfl
theorem aggT_53 : VM.aggT Tryd.prog 53 = some true := by kernel_rfl
theorem zeroT_53 : VM.zeroT Tryd.prog 53 = some [.str ⟨#[]⟩, .bool false, .str ⟨#[]⟩] := by kernel_rfl
theorem fieldT_53_0 : VM.fieldT Tryd.prog 53 0 = some (0, 9) := by kernel_rfl
theorem fieldT_53_1 : VM.fieldT Tryd.prog 53 1 = some (1, 4) := by kernel_rfl
theorem fieldT_53_2 : VM.fieldT Tryd.prog 53 2 = some (2, 9) := by kernel_rfl
theorem placesT_53 : VM.placesT Tryd.prog 53 = some [(0, 1, 9), (1, 1, 4), (2, 1, 9)] := by kernel_rfl
theorem flatT_53 : VM.flatT Tryd.prog 53 = some [.string, .bool, .string] := by kernel_rfl
theorem cellsOf_54 : Program.cellsOf Tryd.prog 54 = 3 := by kernel_rfl
theorem bytesOf_54 : Program.bytesOf Tryd.prog 54 = 40 := by kernel_rfl
theorem elemT_54 : VM.elemT Tryd.prog 54 = none := by kernel_rfl
theorem strT_54 : VM.strT Tryd.prog 54 = false := by kernel_rfl
theorem boolT_54 : VM.boolT Tryd.prog 54 = false := by kernel_rfl
theorem intT_54 : VM.intT Tryd.prog 54 = none := by kernel_rfl
theorem hasT_54 : VM.hasT Tryd.prog 54 = true := by kernel_rfl
theorem aggT_54 : VM.aggT Tryd.prog 54 = some true := by kernel_rfl
theorem zeroT_54 : VM.zeroT Tryd.prog 54 = some [.str ⟨#[]⟩, .bool false, .str ⟨#[]⟩] := by kernel_rfl
theorem fieldT_54_0 : VM.fieldT Tryd.prog 54 0 = some (0, 9) := by kernel_rfl
theorem fieldT_54_1 : VM.fieldT Tryd.prog 54 1 = some (1, 4) := by kernel_rfl
theorem fieldT_54_2 : VM.fieldT Tryd.prog 54 2 = some (2, 9) := by kernel_rfl
theorem placesT_54 : VM.placesT Tryd.prog 54 = some [(0, 1, 9), (1, 1, 4), (2, 1, 9)] := by kernel_rfl
theorem flatT_54 : VM.flatT Tryd.prog 54 = some [.string, .bool, .string] := by kernel_rfl
theorem cellsOf_62 : Program.cellsOf Tryd.prog 62 = 1 := by kernel_rfl
theorem bytesOf_62 : Program.bytesOf Tryd.prog 62 = 24 := by kernel_rfl
theorem elemT_62 : VM.elemT Tryd.prog 62 = some 5 := by kernel_rfl
theorem strT_62 : VM.strT Tryd.prog 62 = false := by kernel_rfl
theorem boolT_62 : VM.boolT Tryd.prog 62 = false := by kernel_rfl
theorem intT_62 : VM.intT Tryd.prog 62 = none := by kernel_rfl
theorem hasT_62 : VM.hasT Tryd.prog 62 = true := by kernel_rfl
theorem aggT_62 : VM.aggT Tryd.prog 62 = some false := by kernel_rfl
theorem zeroT_62 : VM.zeroT Tryd.prog 62 = some [.list true 1 []] := by kernel_rfl
theorem cellsOf_65 : Program.cellsOf Tryd.prog 65 = 1 := by kernel_rfl
theorem bytesOf_65 : Program.bytesOf Tryd.prog 65 = 8 := by kernel_rfl
theorem elemT_65 : VM.elemT Tryd.prog 65 = none := by kernel_rfl
theorem strT_65 : VM.strT Tryd.prog 65 = false := by kernel_rfl
theorem boolT_65 : VM.boolT Tryd.prog 65 = false := by kernel_rfl
theorem intT_65 : VM.intT Tryd.prog 65 = none := by kernel_rfl
theorem hasT_65 : VM.hasT Tryd.prog 65 = true := by kernel_rfl
theorem aggT_65 : VM.aggT Tryd.prog 65 = some false := by kernel_rfl
attribute [go_sem] cellsOf_3 bytesOf_3 elemT_3 strT_3 boolT_3 intT_3 hasT_3 aggT_3 zeroT_3 cellsOf_4 bytesOf_4 elemT_4 strT_4 boolT_4 intT_4 hasT_4 aggT_4 zeroT_4 cellsOf_5 bytesOf_5 elemT_5 strT_5 boolT_5 intT_5 hasT_5 aggT_5 zeroT_5 cellsOf_9 bytesOf_9 elemT_9 strT_9 boolT_9 intT_9 hasT_9 aggT_9 zeroT_9 cellsOf_22 bytesOf_22 elemT_22 strT_22 boolT_22 intT_22 hasT_22 aggT_22 cellsOf_26 bytesOf_26 elemT_26 strT_26 boolT_26 intT_26 hasT_26 aggT_26 zeroT_26 cellsOf_31 bytesOf_31 elemT_31 strT_31 boolT_31 intT_31 hasT_31 aggT_31 zeroT_31 fieldT_31_0 fieldT_31_1 fieldT_31_2 fieldT_31_3 placesT_31 flatT_31 cellsOf_35 bytesOf_35 elemT_35 strT_35 boolT_35 intT_35 hasT_35 aggT_35 zeroT_35 cellsOf_38 bytesOf_38 elemT_38 strT_38 boolT_38 intT_38 hasT_38 aggT_38 zeroT_38 cellsOf_53 bytesOf_53 elemT_53 strT_53 boolT_53 intT_53 hasT_53 aggT_53 zeroT_53 fieldT_53_0 fieldT_53_1 fieldT_53_2 placesT_53 flatT_53 cellsOf_54 bytesOf_54 elemT_54 strT_54 boolT_54 intT_54 hasT_54 aggT_54 zeroT_54 fieldT_54_0 fieldT_54_1 fieldT_54_2 placesT_54 flatT_54 cellsOf_62 bytesOf_62 elemT_62 strT_62 boolT_62 intT_62 hasT_62 aggT_62 zeroT_62 cellsOf_65 bytesOf_65 elemT_65 strT_65 boolT_65 intT_65 hasT_65 aggT_65
end Go.Proofs.YtalacohfhmdhjaaDoor
