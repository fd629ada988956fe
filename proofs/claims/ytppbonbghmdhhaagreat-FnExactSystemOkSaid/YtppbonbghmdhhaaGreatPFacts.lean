/- What the machine asks of the program's types. Printed by a program (facts.py). -/
import Derived.Test.YtppbonbghmdhhaaGreatPVUse
import Derived.Test.YtppbonbghmdhhaaGreatProg
import Derived.KernelRfl
namespace Go.Proofs.YtppbonbghmdhhaaGreat
theorem cellsOf_3 : Program.cellsOf Tryz.prog 3 = 1 := by kernel_rfl
theorem bytesOf_3 : Program.bytesOf Tryz.prog 3 = 8 := by kernel_rfl
theorem elemT_3 : VM.elemT Tryz.prog 3 = none := by kernel_rfl
theorem strT_3 : VM.strT Tryz.prog 3 = false := by kernel_rfl
theorem boolT_3 : VM.boolT Tryz.prog 3 = false := by kernel_rfl
theorem intT_3 : VM.intT Tryz.prog 3 = some .i64 := by kernel_rfl
theorem hasT_3 : VM.hasT Tryz.prog 3 = true := by kernel_rfl
theorem aggT_3 : VM.aggT Tryz.prog 3 = some false := by kernel_rfl
theorem zeroT_3 : VM.zeroT Tryz.prog 3 = some [.int .i64 0] := by kernel_rfl
theorem cellsOf_4 : Program.cellsOf Tryz.prog 4 = 1 := by kernel_rfl
theorem bytesOf_4 : Program.bytesOf Tryz.prog 4 = 1 := by kernel_rfl
theorem elemT_4 : VM.elemT Tryz.prog 4 = none := by kernel_rfl
theorem strT_4 : VM.strT Tryz.prog 4 = false := by kernel_rfl
theorem boolT_4 : VM.boolT Tryz.prog 4 = true := by kernel_rfl
theorem intT_4 : VM.intT Tryz.prog 4 = none := by kernel_rfl
theorem hasT_4 : VM.hasT Tryz.prog 4 = true := by kernel_rfl
theorem aggT_4 : VM.aggT Tryz.prog 4 = some false := by kernel_rfl
theorem zeroT_4 : VM.zeroT Tryz.prog 4 = some [.bool false] := by kernel_rfl
theorem cellsOf_5 : Program.cellsOf Tryz.prog 5 = 1 := by kernel_rfl
theorem bytesOf_5 : Program.bytesOf Tryz.prog 5 = 1 := by kernel_rfl
theorem elemT_5 : VM.elemT Tryz.prog 5 = none := by kernel_rfl
theorem strT_5 : VM.strT Tryz.prog 5 = false := by kernel_rfl
theorem boolT_5 : VM.boolT Tryz.prog 5 = false := by kernel_rfl
theorem intT_5 : VM.intT Tryz.prog 5 = some .u8 := by kernel_rfl
theorem hasT_5 : VM.hasT Tryz.prog 5 = true := by kernel_rfl
theorem aggT_5 : VM.aggT Tryz.prog 5 = some false := by kernel_rfl
theorem zeroT_5 : VM.zeroT Tryz.prog 5 = some [.int .u8 0] := by kernel_rfl
theorem cellsOf_9 : Program.cellsOf Tryz.prog 9 = 1 := by kernel_rfl
theorem bytesOf_9 : Program.bytesOf Tryz.prog 9 = 16 := by kernel_rfl
theorem elemT_9 : VM.elemT Tryz.prog 9 = none := by kernel_rfl
theorem strT_9 : VM.strT Tryz.prog 9 = true := by kernel_rfl
theorem boolT_9 : VM.boolT Tryz.prog 9 = false := by kernel_rfl
theorem intT_9 : VM.intT Tryz.prog 9 = none := by kernel_rfl
theorem hasT_9 : VM.hasT Tryz.prog 9 = true := by kernel_rfl
theorem aggT_9 : VM.aggT Tryz.prog 9 = some false := by kernel_rfl
theorem zeroT_9 : VM.zeroT Tryz.prog 9 = some [.str ⟨#[]⟩] := by kernel_rfl
theorem cellsOf_22 : Program.cellsOf Tryz.prog 22 = 1 := by kernel_rfl
theorem bytesOf_22 : Program.bytesOf Tryz.prog 22 = 24 := by kernel_rfl
theorem elemT_22 : VM.elemT Tryz.prog 22 = some 9 := by kernel_rfl
theorem strT_22 : VM.strT Tryz.prog 22 = false := by kernel_rfl
theorem boolT_22 : VM.boolT Tryz.prog 22 = false := by kernel_rfl
theorem intT_22 : VM.intT Tryz.prog 22 = none := by kernel_rfl
theorem hasT_22 : VM.hasT Tryz.prog 22 = true := by kernel_rfl
theorem aggT_22 : VM.aggT Tryz.prog 22 = some false := by kernel_rfl
theorem zeroT_22 : VM.zeroT Tryz.prog 22 = some [.list true 1 []] := by kernel_rfl
theorem cellsOf_23 : Program.cellsOf Tryz.prog 23 = 1 := by kernel_rfl
theorem bytesOf_23 : Program.bytesOf Tryz.prog 23 = 24 := by kernel_rfl
theorem elemT_23 : VM.elemT Tryz.prog 23 = some 3 := by kernel_rfl
theorem strT_23 : VM.strT Tryz.prog 23 = false := by kernel_rfl
theorem boolT_23 : VM.boolT Tryz.prog 23 = false := by kernel_rfl
theorem intT_23 : VM.intT Tryz.prog 23 = none := by kernel_rfl
theorem hasT_23 : VM.hasT Tryz.prog 23 = true := by kernel_rfl
theorem aggT_23 : VM.aggT Tryz.prog 23 = some false := by kernel_rfl
theorem zeroT_23 : VM.zeroT Tryz.prog 23 = some [.list true 1 []] := by kernel_rfl
theorem cellsOf_24 : Program.cellsOf Tryz.prog 24 = 2 := by kernel_rfl
theorem bytesOf_24 : Program.bytesOf Tryz.prog 24 = 48 := by kernel_rfl
theorem elemT_24 : VM.elemT Tryz.prog 24 = none := by kernel_rfl
theorem strT_24 : VM.strT Tryz.prog 24 = false := by kernel_rfl
theorem boolT_24 : VM.boolT Tryz.prog 24 = false := by kernel_rfl
theorem intT_24 : VM.intT Tryz.prog 24 = none := by kernel_rfl
theorem hasT_24 : VM.hasT Tryz.prog 24 = true := by kernel_rfl
theorem aggT_24 : VM.aggT Tryz.prog 24 = some true := by kernel_rfl
theorem zeroT_24 : VM.zeroT Tryz.prog 24 = some [.list true 1 [], .list true 1 []] := by kernel_rfl
theorem fieldT_24_0 : VM.fieldT Tryz.prog 24 0 = some (0, 22) := by kernel_rfl
theorem fieldT_24_1 : VM.fieldT Tryz.prog 24 1 = some (1, 23) := by kernel_rfl
theorem placesT_24 : VM.placesT Tryz.prog 24 = some [(0, 1, 22), (1, 1, 23)] := by kernel_rfl
theorem cellsOf_25 : Program.cellsOf Tryz.prog 25 = 2 := by kernel_rfl
theorem bytesOf_25 : Program.bytesOf Tryz.prog 25 = 48 := by kernel_rfl
theorem elemT_25 : VM.elemT Tryz.prog 25 = none := by kernel_rfl
theorem strT_25 : VM.strT Tryz.prog 25 = false := by kernel_rfl
theorem boolT_25 : VM.boolT Tryz.prog 25 = false := by kernel_rfl
theorem intT_25 : VM.intT Tryz.prog 25 = none := by kernel_rfl
theorem hasT_25 : VM.hasT Tryz.prog 25 = true := by kernel_rfl
theorem aggT_25 : VM.aggT Tryz.prog 25 = some true := by kernel_rfl
theorem zeroT_25 : VM.zeroT Tryz.prog 25 = some [.list true 1 [], .list true 1 []] := by kernel_rfl
theorem fieldT_25_0 : VM.fieldT Tryz.prog 25 0 = some (0, 22) := by kernel_rfl
theorem fieldT_25_1 : VM.fieldT Tryz.prog 25 1 = some (1, 23) := by kernel_rfl
theorem placesT_25 : VM.placesT Tryz.prog 25 = some [(0, 1, 22), (1, 1, 23)] := by kernel_rfl
theorem cellsOf_26 : Program.cellsOf Tryz.prog 26 = 4 := by kernel_rfl
theorem bytesOf_26 : Program.bytesOf Tryz.prog 26 = 80 := by kernel_rfl
theorem elemT_26 : VM.elemT Tryz.prog 26 = none := by kernel_rfl
theorem strT_26 : VM.strT Tryz.prog 26 = false := by kernel_rfl
theorem boolT_26 : VM.boolT Tryz.prog 26 = false := by kernel_rfl
theorem intT_26 : VM.intT Tryz.prog 26 = none := by kernel_rfl
theorem hasT_26 : VM.hasT Tryz.prog 26 = true := by kernel_rfl
theorem aggT_26 : VM.aggT Tryz.prog 26 = some true := by kernel_rfl
theorem zeroT_26 : VM.zeroT Tryz.prog 26 = some [.list true 1 [], .list true 1 [], .list true 1 [], .int .i64 0] := by kernel_rfl
theorem fieldT_26_0 : VM.fieldT Tryz.prog 26 0 = some (0, 25) := by kernel_rfl
theorem fieldT_26_1 : VM.fieldT Tryz.prog 26 1 = some (2, 23) := by kernel_rfl
theorem fieldT_26_2 : VM.fieldT Tryz.prog 26 2 = some (3, 3) := by kernel_rfl
theorem placesT_26 : VM.placesT Tryz.prog 26 = some [(0, 2, 25), (2, 1, 23), (3, 1, 3)] := by kernel_rfl
theorem cellsOf_27 : Program.cellsOf Tryz.prog 27 = 4 := by kernel_rfl
theorem bytesOf_27 : Program.bytesOf Tryz.prog 27 = 80 := by kernel_rfl
theorem elemT_27 : VM.elemT Tryz.prog 27 = none := by kernel_rfl
theorem strT_27 : VM.strT Tryz.prog 27 = false := by kernel_rfl
theorem boolT_27 : VM.boolT Tryz.prog 27 = false := by kernel_rfl
theorem intT_27 : VM.intT Tryz.prog 27 = none := by kernel_rfl
theorem hasT_27 : VM.hasT Tryz.prog 27 = true := by kernel_rfl
theorem aggT_27 : VM.aggT Tryz.prog 27 = some true := by kernel_rfl
theorem zeroT_27 : VM.zeroT Tryz.prog 27 = some [.list true 1 [], .list true 1 [], .list true 1 [], .int .i64 0] := by kernel_rfl
theorem fieldT_27_0 : VM.fieldT Tryz.prog 27 0 = some (0, 25) := by kernel_rfl
theorem fieldT_27_1 : VM.fieldT Tryz.prog 27 1 = some (2, 23) := by kernel_rfl
theorem fieldT_27_2 : VM.fieldT Tryz.prog 27 2 = some (3, 3) := by kernel_rfl
theorem placesT_27 : VM.placesT Tryz.prog 27 = some [(0, 2, 25), (2, 1, 23), (3, 1, 3)] := by kernel_rfl
theorem cellsOf_28 : Program.cellsOf Tryz.prog 28 = 1 := by kernel_rfl
theorem bytesOf_28 : Program.bytesOf Tryz.prog 28 = 24 := by kernel_rfl
theorem elemT_28 : VM.elemT Tryz.prog 28 = some 120 := by kernel_rfl
theorem strT_28 : VM.strT Tryz.prog 28 = false := by kernel_rfl
theorem boolT_28 : VM.boolT Tryz.prog 28 = false := by kernel_rfl
theorem intT_28 : VM.intT Tryz.prog 28 = none := by kernel_rfl
theorem hasT_28 : VM.hasT Tryz.prog 28 = true := by kernel_rfl
theorem aggT_28 : VM.aggT Tryz.prog 28 = some false := by kernel_rfl
theorem zeroT_28 : VM.zeroT Tryz.prog 28 = some [.list true 4 []] := by kernel_rfl
theorem cellsOf_29 : Program.cellsOf Tryz.prog 29 = 1 := by kernel_rfl
theorem bytesOf_29 : Program.bytesOf Tryz.prog 29 = 24 := by kernel_rfl
theorem elemT_29 : VM.elemT Tryz.prog 29 = some 124 := by kernel_rfl
theorem strT_29 : VM.strT Tryz.prog 29 = false := by kernel_rfl
theorem boolT_29 : VM.boolT Tryz.prog 29 = false := by kernel_rfl
theorem intT_29 : VM.intT Tryz.prog 29 = none := by kernel_rfl
theorem hasT_29 : VM.hasT Tryz.prog 29 = true := by kernel_rfl
theorem aggT_29 : VM.aggT Tryz.prog 29 = some false := by kernel_rfl
theorem zeroT_29 : VM.zeroT Tryz.prog 29 = some [.list true 2 []] := by kernel_rfl
theorem cellsOf_30 : Program.cellsOf Tryz.prog 30 = 7 := by kernel_rfl
theorem bytesOf_30 : Program.bytesOf Tryz.prog 30 = 136 := by kernel_rfl
theorem elemT_30 : VM.elemT Tryz.prog 30 = none := by kernel_rfl
theorem strT_30 : VM.strT Tryz.prog 30 = false := by kernel_rfl
theorem boolT_30 : VM.boolT Tryz.prog 30 = false := by kernel_rfl
theorem intT_30 : VM.intT Tryz.prog 30 = none := by kernel_rfl
theorem hasT_30 : VM.hasT Tryz.prog 30 = true := by kernel_rfl
theorem aggT_30 : VM.aggT Tryz.prog 30 = some true := by kernel_rfl
theorem zeroT_30 : VM.zeroT Tryz.prog 30 = some [.list true 1 [], .list true 1 [], .list true 1 [], .int .i64 0, .list true 4 [], .list true 2 [], .int .i64 0] := by kernel_rfl
theorem fieldT_30_0 : VM.fieldT Tryz.prog 30 0 = some (0, 27) := by kernel_rfl
theorem fieldT_30_1 : VM.fieldT Tryz.prog 30 1 = some (4, 28) := by kernel_rfl
theorem fieldT_30_2 : VM.fieldT Tryz.prog 30 2 = some (5, 29) := by kernel_rfl
theorem fieldT_30_3 : VM.fieldT Tryz.prog 30 3 = some (6, 3) := by kernel_rfl
theorem placesT_30 : VM.placesT Tryz.prog 30 = some [(0, 4, 27), (4, 1, 28), (5, 1, 29), (6, 1, 3)] := by kernel_rfl
theorem cellsOf_31 : Program.cellsOf Tryz.prog 31 = 7 := by kernel_rfl
theorem bytesOf_31 : Program.bytesOf Tryz.prog 31 = 136 := by kernel_rfl
theorem elemT_31 : VM.elemT Tryz.prog 31 = none := by kernel_rfl
theorem strT_31 : VM.strT Tryz.prog 31 = false := by kernel_rfl
theorem boolT_31 : VM.boolT Tryz.prog 31 = false := by kernel_rfl
theorem intT_31 : VM.intT Tryz.prog 31 = none := by kernel_rfl
theorem hasT_31 : VM.hasT Tryz.prog 31 = true := by kernel_rfl
theorem aggT_31 : VM.aggT Tryz.prog 31 = some true := by kernel_rfl
theorem zeroT_31 : VM.zeroT Tryz.prog 31 = some [.list true 1 [], .list true 1 [], .list true 1 [], .int .i64 0, .list true 4 [], .list true 2 [], .int .i64 0] := by kernel_rfl
theorem fieldT_31_0 : VM.fieldT Tryz.prog 31 0 = some (0, 27) := by kernel_rfl
theorem fieldT_31_1 : VM.fieldT Tryz.prog 31 1 = some (4, 28) := by kernel_rfl
theorem fieldT_31_2 : VM.fieldT Tryz.prog 31 2 = some (5, 29) := by kernel_rfl
theorem fieldT_31_3 : VM.fieldT Tryz.prog 31 3 = some (6, 3) := by kernel_rfl
theorem placesT_31 : VM.placesT Tryz.prog 31 = some [(0, 4, 27), (4, 1, 28), (5, 1, 29), (6, 1, 3)] := by kernel_rfl
theorem cellsOf_34 : Program.cellsOf Tryz.prog 34 = 2 := by kernel_rfl
theorem bytesOf_34 : Program.bytesOf Tryz.prog 34 = 48 := by kernel_rfl
theorem elemT_34 : VM.elemT Tryz.prog 34 = none := by kernel_rfl
theorem strT_34 : VM.strT Tryz.prog 34 = false := by kernel_rfl
theorem boolT_34 : VM.boolT Tryz.prog 34 = false := by kernel_rfl
theorem intT_34 : VM.intT Tryz.prog 34 = none := by kernel_rfl
theorem hasT_34 : VM.hasT Tryz.prog 34 = true := by kernel_rfl
theorem aggT_34 : VM.aggT Tryz.prog 34 = some true := by kernel_rfl
theorem zeroT_34 : VM.zeroT Tryz.prog 34 = some [.list true 1 [], .list true 1 []] := by kernel_rfl
theorem fieldT_34_0 : VM.fieldT Tryz.prog 34 0 = some (0, 22) := by kernel_rfl
theorem fieldT_34_1 : VM.fieldT Tryz.prog 34 1 = some (1, 23) := by kernel_rfl
theorem placesT_34 : VM.placesT Tryz.prog 34 = some [(0, 1, 22), (1, 1, 23)] := by kernel_rfl
theorem cellsOf_35 : Program.cellsOf Tryz.prog 35 = 4 := by kernel_rfl
theorem bytesOf_35 : Program.bytesOf Tryz.prog 35 = 80 := by kernel_rfl
theorem elemT_35 : VM.elemT Tryz.prog 35 = none := by kernel_rfl
theorem strT_35 : VM.strT Tryz.prog 35 = false := by kernel_rfl
theorem boolT_35 : VM.boolT Tryz.prog 35 = false := by kernel_rfl
theorem intT_35 : VM.intT Tryz.prog 35 = none := by kernel_rfl
theorem hasT_35 : VM.hasT Tryz.prog 35 = true := by kernel_rfl
theorem aggT_35 : VM.aggT Tryz.prog 35 = some true := by kernel_rfl
theorem zeroT_35 : VM.zeroT Tryz.prog 35 = some [.list true 1 [], .list true 1 [], .list true 1 [], .int .i64 0] := by kernel_rfl
theorem fieldT_35_0 : VM.fieldT Tryz.prog 35 0 = some (0, 34) := by kernel_rfl
theorem fieldT_35_1 : VM.fieldT Tryz.prog 35 1 = some (2, 23) := by kernel_rfl
theorem fieldT_35_2 : VM.fieldT Tryz.prog 35 2 = some (3, 3) := by kernel_rfl
theorem placesT_35 : VM.placesT Tryz.prog 35 = some [(0, 2, 34), (2, 1, 23), (3, 1, 3)] := by kernel_rfl
theorem cellsOf_36 : Program.cellsOf Tryz.prog 36 = 4 := by kernel_rfl
theorem bytesOf_36 : Program.bytesOf Tryz.prog 36 = 80 := by kernel_rfl
theorem elemT_36 : VM.elemT Tryz.prog 36 = none := by kernel_rfl
theorem strT_36 : VM.strT Tryz.prog 36 = false := by kernel_rfl
theorem boolT_36 : VM.boolT Tryz.prog 36 = false := by kernel_rfl
theorem intT_36 : VM.intT Tryz.prog 36 = none := by kernel_rfl
theorem hasT_36 : VM.hasT Tryz.prog 36 = true := by kernel_rfl
theorem aggT_36 : VM.aggT Tryz.prog 36 = some true := by kernel_rfl
theorem zeroT_36 : VM.zeroT Tryz.prog 36 = some [.list true 1 [], .list true 1 [], .list true 1 [], .int .i64 0] := by kernel_rfl
theorem fieldT_36_0 : VM.fieldT Tryz.prog 36 0 = some (0, 34) := by kernel_rfl
theorem fieldT_36_1 : VM.fieldT Tryz.prog 36 1 = some (2, 23) := by kernel_rfl
theorem fieldT_36_2 : VM.fieldT Tryz.prog 36 2 = some (3, 3) := by kernel_rfl
theorem placesT_36 : VM.placesT Tryz.prog 36 = some [(0, 2, 34), (2, 1, 23), (3, 1, 3)] := by kernel_rfl
theorem cellsOf_37 : Program.cellsOf Tryz.prog 37 = 1 := by kernel_rfl
theorem bytesOf_37 : Program.bytesOf Tryz.prog 37 = 24 := by kernel_rfl
theorem elemT_37 : VM.elemT Tryz.prog 37 = some 73 := by kernel_rfl
theorem strT_37 : VM.strT Tryz.prog 37 = false := by kernel_rfl
theorem boolT_37 : VM.boolT Tryz.prog 37 = false := by kernel_rfl
theorem intT_37 : VM.intT Tryz.prog 37 = none := by kernel_rfl
theorem hasT_37 : VM.hasT Tryz.prog 37 = true := by kernel_rfl
theorem aggT_37 : VM.aggT Tryz.prog 37 = some false := by kernel_rfl
theorem zeroT_37 : VM.zeroT Tryz.prog 37 = some [.list true 4 []] := by kernel_rfl
theorem cellsOf_38 : Program.cellsOf Tryz.prog 38 = 1 := by kernel_rfl
theorem bytesOf_38 : Program.bytesOf Tryz.prog 38 = 24 := by kernel_rfl
theorem elemT_38 : VM.elemT Tryz.prog 38 = some 77 := by kernel_rfl
theorem strT_38 : VM.strT Tryz.prog 38 = false := by kernel_rfl
theorem boolT_38 : VM.boolT Tryz.prog 38 = false := by kernel_rfl
theorem intT_38 : VM.intT Tryz.prog 38 = none := by kernel_rfl
theorem hasT_38 : VM.hasT Tryz.prog 38 = true := by kernel_rfl
theorem aggT_38 : VM.aggT Tryz.prog 38 = some false := by kernel_rfl
theorem zeroT_38 : VM.zeroT Tryz.prog 38 = some [.list true 2 []] := by kernel_rfl
theorem cellsOf_39 : Program.cellsOf Tryz.prog 39 = 7 := by kernel_rfl
theorem bytesOf_39 : Program.bytesOf Tryz.prog 39 = 136 := by kernel_rfl
theorem elemT_39 : VM.elemT Tryz.prog 39 = none := by kernel_rfl
theorem strT_39 : VM.strT Tryz.prog 39 = false := by kernel_rfl
theorem boolT_39 : VM.boolT Tryz.prog 39 = false := by kernel_rfl
theorem intT_39 : VM.intT Tryz.prog 39 = none := by kernel_rfl
theorem hasT_39 : VM.hasT Tryz.prog 39 = true := by kernel_rfl
theorem aggT_39 : VM.aggT Tryz.prog 39 = some true := by kernel_rfl
theorem zeroT_39 : VM.zeroT Tryz.prog 39 = some [.list true 1 [], .list true 1 [], .list true 1 [], .int .i64 0, .list true 4 [], .list true 2 [], .int .i64 0] := by kernel_rfl
theorem fieldT_39_0 : VM.fieldT Tryz.prog 39 0 = some (0, 36) := by kernel_rfl
theorem fieldT_39_1 : VM.fieldT Tryz.prog 39 1 = some (4, 37) := by kernel_rfl
theorem fieldT_39_2 : VM.fieldT Tryz.prog 39 2 = some (5, 38) := by kernel_rfl
theorem fieldT_39_3 : VM.fieldT Tryz.prog 39 3 = some (6, 3) := by kernel_rfl
theorem placesT_39 : VM.placesT Tryz.prog 39 = some [(0, 4, 36), (4, 1, 37), (5, 1, 38), (6, 1, 3)] := by kernel_rfl
theorem cellsOf_40 : Program.cellsOf Tryz.prog 40 = 7 := by kernel_rfl
theorem bytesOf_40 : Program.bytesOf Tryz.prog 40 = 136 := by kernel_rfl
theorem elemT_40 : VM.elemT Tryz.prog 40 = none := by kernel_rfl
theorem strT_40 : VM.strT Tryz.prog 40 = false := by kernel_rfl
theorem boolT_40 : VM.boolT Tryz.prog 40 = false := by kernel_rfl
theorem intT_40 : VM.intT Tryz.prog 40 = none := by kernel_rfl
theorem hasT_40 : VM.hasT Tryz.prog 40 = true := by kernel_rfl
theorem aggT_40 : VM.aggT Tryz.prog 40 = some true := by kernel_rfl
theorem zeroT_40 : VM.zeroT Tryz.prog 40 = some [.list true 1 [], .list true 1 [], .list true 1 [], .int .i64 0, .list true 4 [], .list true 2 [], .int .i64 0] := by kernel_rfl
theorem fieldT_40_0 : VM.fieldT Tryz.prog 40 0 = some (0, 36) := by kernel_rfl
theorem fieldT_40_1 : VM.fieldT Tryz.prog 40 1 = some (4, 37) := by kernel_rfl
theorem fieldT_40_2 : VM.fieldT Tryz.prog 40 2 = some (5, 38) := by kernel_rfl
theorem fieldT_40_3 : VM.fieldT Tryz.prog 40 3 = some (6, 3) := by kernel_rfl
theorem placesT_40 : VM.placesT Tryz.prog 40 = some [(0, 4, 36), (4, 1, 37), (5, 1, 38), (6, 1, 3)] := by kernel_rfl
theorem cellsOf_44 : Program.cellsOf Tryz.prog 44 = 1 := by kernel_rfl
theorem bytesOf_44 : Program.bytesOf Tryz.prog 44 = 24 := by kernel_rfl
theorem elemT_44 : VM.elemT Tryz.prog 44 = some 90 := by kernel_rfl
theorem strT_44 : VM.strT Tryz.prog 44 = false := by kernel_rfl
theorem boolT_44 : VM.boolT Tryz.prog 44 = false := by kernel_rfl
theorem intT_44 : VM.intT Tryz.prog 44 = none := by kernel_rfl
theorem hasT_44 : VM.hasT Tryz.prog 44 = true := by kernel_rfl
theorem aggT_44 : VM.aggT Tryz.prog 44 = some false := by kernel_rfl
theorem zeroT_44 : VM.zeroT Tryz.prog 44 = some [.list true 6 []] := by kernel_rfl
theorem cellsOf_48 : Program.cellsOf Tryz.prog 48 = 1 := by kernel_rfl
theorem bytesOf_48 : Program.bytesOf Tryz.prog 48 = 24 := by kernel_rfl
theorem elemT_48 : VM.elemT Tryz.prog 48 = some 97 := by kernel_rfl
theorem strT_48 : VM.strT Tryz.prog 48 = false := by kernel_rfl
theorem boolT_48 : VM.boolT Tryz.prog 48 = false := by kernel_rfl
theorem intT_48 : VM.intT Tryz.prog 48 = none := by kernel_rfl
theorem hasT_48 : VM.hasT Tryz.prog 48 = true := by kernel_rfl
theorem aggT_48 : VM.aggT Tryz.prog 48 = some false := by kernel_rfl
theorem zeroT_48 : VM.zeroT Tryz.prog 48 = some [.list true 6 []] := by kernel_rfl
theorem cellsOf_54 : Program.cellsOf Tryz.prog 54 = 1 := by kernel_rfl
theorem bytesOf_54 : Program.bytesOf Tryz.prog 54 = 24 := by kernel_rfl
theorem elemT_54 : VM.elemT Tryz.prog 54 = some 5 := by kernel_rfl
theorem strT_54 : VM.strT Tryz.prog 54 = false := by kernel_rfl
theorem boolT_54 : VM.boolT Tryz.prog 54 = false := by kernel_rfl
theorem intT_54 : VM.intT Tryz.prog 54 = none := by kernel_rfl
theorem hasT_54 : VM.hasT Tryz.prog 54 = true := by kernel_rfl
theorem aggT_54 : VM.aggT Tryz.prog 54 = some false := by kernel_rfl
theorem zeroT_54 : VM.zeroT Tryz.prog 54 = some [.list true 1 []] := by kernel_rfl
theorem cellsOf_70 : Program.cellsOf Tryz.prog 70 = 1 := by kernel_rfl
theorem bytesOf_70 : Program.bytesOf Tryz.prog 70 = 8 := by kernel_rfl
theorem elemT_70 : VM.elemT Tryz.prog 70 = none := by kernel_rfl
theorem strT_70 : VM.strT Tryz.prog 70 = false := by kernel_rfl
theorem boolT_70 : VM.boolT Tryz.prog 70 = false := by kernel_rfl
theorem intT_70 : VM.intT Tryz.prog 70 = none := by kernel_rfl
theorem hasT_70 : VM.hasT Tryz.prog 70 = true := by kernel_rfl
theorem aggT_70 : VM.aggT Tryz.prog 70 = some false := by kernel_rfl
theorem cellsOf_71 : Program.cellsOf Tryz.prog 71 = 1 := by kernel_rfl
theorem bytesOf_71 : Program.bytesOf Tryz.prog 71 = 24 := by kernel_rfl
theorem elemT_71 : VM.elemT Tryz.prog 71 = some 201 := by kernel_rfl
theorem strT_71 : VM.strT Tryz.prog 71 = false := by kernel_rfl
theorem boolT_71 : VM.boolT Tryz.prog 71 = false := by kernel_rfl
theorem intT_71 : VM.intT Tryz.prog 71 = none := by kernel_rfl
theorem hasT_71 : VM.hasT Tryz.prog 71 = true := by kernel_rfl
theorem aggT_71 : VM.aggT Tryz.prog 71 = some false := by kernel_rfl
theorem zeroT_71 : VM.zeroT Tryz.prog 71 = some [.list true 2 []] := by kernel_rfl
theorem cellsOf_72 : Program.cellsOf Tryz.prog 72 = 4 := by kernel_rfl
theorem bytesOf_72 : Program.bytesOf Tryz.prog 72 = 64 := by kernel_rfl
theorem elemT_72 : VM.elemT Tryz.prog 72 = none := by kernel_rfl
theorem strT_72 : VM.strT Tryz.prog 72 = false := by kernel_rfl
theorem boolT_72 : VM.boolT Tryz.prog 72 = false := by kernel_rfl
theorem intT_72 : VM.intT Tryz.prog 72 = none := by kernel_rfl
theorem hasT_72 : VM.hasT Tryz.prog 72 = true := by kernel_rfl
theorem aggT_72 : VM.aggT Tryz.prog 72 = some true := by kernel_rfl
theorem zeroT_72 : VM.zeroT Tryz.prog 72 = some [.list true 6 [], .int .i64 0, .list true 2 [], .bool false] := by kernel_rfl
theorem fieldT_72_0 : VM.fieldT Tryz.prog 72 0 = some (0, 48) := by kernel_rfl
theorem fieldT_72_1 : VM.fieldT Tryz.prog 72 1 = some (1, 3) := by kernel_rfl
theorem fieldT_72_2 : VM.fieldT Tryz.prog 72 2 = some (2, 71) := by kernel_rfl
theorem fieldT_72_3 : VM.fieldT Tryz.prog 72 3 = some (3, 4) := by kernel_rfl
theorem placesT_72 : VM.placesT Tryz.prog 72 = some [(0, 1, 48), (1, 1, 3), (2, 1, 71), (3, 1, 4)] := by kernel_rfl
theorem cellsOf_73 : Program.cellsOf Tryz.prog 73 = 4 := by kernel_rfl
theorem bytesOf_73 : Program.bytesOf Tryz.prog 73 = 64 := by kernel_rfl
theorem elemT_73 : VM.elemT Tryz.prog 73 = none := by kernel_rfl
theorem strT_73 : VM.strT Tryz.prog 73 = false := by kernel_rfl
theorem boolT_73 : VM.boolT Tryz.prog 73 = false := by kernel_rfl
theorem intT_73 : VM.intT Tryz.prog 73 = none := by kernel_rfl
theorem hasT_73 : VM.hasT Tryz.prog 73 = true := by kernel_rfl
theorem aggT_73 : VM.aggT Tryz.prog 73 = some true := by kernel_rfl
theorem zeroT_73 : VM.zeroT Tryz.prog 73 = some [.list true 6 [], .int .i64 0, .list true 2 [], .bool false] := by kernel_rfl
theorem fieldT_73_0 : VM.fieldT Tryz.prog 73 0 = some (0, 48) := by kernel_rfl
theorem fieldT_73_1 : VM.fieldT Tryz.prog 73 1 = some (1, 3) := by kernel_rfl
theorem fieldT_73_2 : VM.fieldT Tryz.prog 73 2 = some (2, 71) := by kernel_rfl
theorem fieldT_73_3 : VM.fieldT Tryz.prog 73 3 = some (3, 4) := by kernel_rfl
theorem placesT_73 : VM.placesT Tryz.prog 73 = some [(0, 1, 48), (1, 1, 3), (2, 1, 71), (3, 1, 4)] := by kernel_rfl
theorem cellsOf_74 : Program.cellsOf Tryz.prog 74 = 1 := by kernel_rfl
theorem bytesOf_74 : Program.bytesOf Tryz.prog 74 = 8 := by kernel_rfl
theorem elemT_74 : VM.elemT Tryz.prog 74 = none := by kernel_rfl
theorem strT_74 : VM.strT Tryz.prog 74 = false := by kernel_rfl
theorem boolT_74 : VM.boolT Tryz.prog 74 = false := by kernel_rfl
theorem intT_74 : VM.intT Tryz.prog 74 = none := by kernel_rfl
theorem hasT_74 : VM.hasT Tryz.prog 74 = true := by kernel_rfl
theorem aggT_74 : VM.aggT Tryz.prog 74 = some false := by kernel_rfl
theorem cellsOf_75 : Program.cellsOf Tryz.prog 75 = 1 := by kernel_rfl
theorem bytesOf_75 : Program.bytesOf Tryz.prog 75 = 24 := by kernel_rfl
theorem elemT_75 : VM.elemT Tryz.prog 75 = some 95 := by kernel_rfl
theorem strT_75 : VM.strT Tryz.prog 75 = false := by kernel_rfl
theorem boolT_75 : VM.boolT Tryz.prog 75 = false := by kernel_rfl
theorem intT_75 : VM.intT Tryz.prog 75 = none := by kernel_rfl
theorem hasT_75 : VM.hasT Tryz.prog 75 = true := by kernel_rfl
theorem aggT_75 : VM.aggT Tryz.prog 75 = some false := by kernel_rfl
theorem zeroT_75 : VM.zeroT Tryz.prog 75 = some [.list true 4 []] := by kernel_rfl
theorem cellsOf_76 : Program.cellsOf Tryz.prog 76 = 2 := by kernel_rfl
theorem bytesOf_76 : Program.bytesOf Tryz.prog 76 = 48 := by kernel_rfl
theorem elemT_76 : VM.elemT Tryz.prog 76 = none := by kernel_rfl
theorem strT_76 : VM.strT Tryz.prog 76 = false := by kernel_rfl
theorem boolT_76 : VM.boolT Tryz.prog 76 = false := by kernel_rfl
theorem intT_76 : VM.intT Tryz.prog 76 = none := by kernel_rfl
theorem hasT_76 : VM.hasT Tryz.prog 76 = true := by kernel_rfl
theorem aggT_76 : VM.aggT Tryz.prog 76 = some true := by kernel_rfl
theorem zeroT_76 : VM.zeroT Tryz.prog 76 = some [.list true 4 [], .list true 2 []] := by kernel_rfl
theorem fieldT_76_0 : VM.fieldT Tryz.prog 76 0 = some (0, 75) := by kernel_rfl
theorem fieldT_76_1 : VM.fieldT Tryz.prog 76 1 = some (1, 71) := by kernel_rfl
theorem placesT_76 : VM.placesT Tryz.prog 76 = some [(0, 1, 75), (1, 1, 71)] := by kernel_rfl
theorem cellsOf_77 : Program.cellsOf Tryz.prog 77 = 2 := by kernel_rfl
theorem bytesOf_77 : Program.bytesOf Tryz.prog 77 = 48 := by kernel_rfl
theorem elemT_77 : VM.elemT Tryz.prog 77 = none := by kernel_rfl
theorem strT_77 : VM.strT Tryz.prog 77 = false := by kernel_rfl
theorem boolT_77 : VM.boolT Tryz.prog 77 = false := by kernel_rfl
theorem intT_77 : VM.intT Tryz.prog 77 = none := by kernel_rfl
theorem hasT_77 : VM.hasT Tryz.prog 77 = true := by kernel_rfl
theorem aggT_77 : VM.aggT Tryz.prog 77 = some true := by kernel_rfl
theorem zeroT_77 : VM.zeroT Tryz.prog 77 = some [.list true 4 [], .list true 2 []] := by kernel_rfl
theorem fieldT_77_0 : VM.fieldT Tryz.prog 77 0 = some (0, 75) := by kernel_rfl
theorem fieldT_77_1 : VM.fieldT Tryz.prog 77 1 = some (1, 71) := by kernel_rfl
theorem placesT_77 : VM.placesT Tryz.prog 77 = some [(0, 1, 75), (1, 1, 71)] := by kernel_rfl
theorem cellsOf_87 : Program.cellsOf Tryz.prog 87 = 4 := by kernel_rfl
theorem bytesOf_87 : Program.bytesOf Tryz.prog 87 = 56 := by kernel_rfl
theorem elemT_87 : VM.elemT Tryz.prog 87 = none := by kernel_rfl
theorem strT_87 : VM.strT Tryz.prog 87 = false := by kernel_rfl
theorem boolT_87 : VM.boolT Tryz.prog 87 = false := by kernel_rfl
theorem intT_87 : VM.intT Tryz.prog 87 = none := by kernel_rfl
theorem hasT_87 : VM.hasT Tryz.prog 87 = true := by kernel_rfl
theorem aggT_87 : VM.aggT Tryz.prog 87 = some true := by kernel_rfl
theorem zeroT_87 : VM.zeroT Tryz.prog 87 = some [.int .i64 0, .str ⟨#[]⟩, .str ⟨#[]⟩, .str ⟨#[]⟩] := by kernel_rfl
theorem fieldT_87_0 : VM.fieldT Tryz.prog 87 0 = some (0, 3) := by kernel_rfl
theorem fieldT_87_1 : VM.fieldT Tryz.prog 87 1 = some (1, 9) := by kernel_rfl
theorem fieldT_87_2 : VM.fieldT Tryz.prog 87 2 = some (2, 9) := by kernel_rfl
theorem fieldT_87_3 : VM.fieldT Tryz.prog 87 3 = some (3, 9) := by kernel_rfl
theorem placesT_87 : VM.placesT Tryz.prog 87 = some [(0, 1, 3), (1, 1, 9), (2, 1, 9), (3, 1, 9)] := by kernel_rfl
theorem flatT_87 : VM.flatT Tryz.prog 87 = some [.int .i64, .string, .string, .string] := by kernel_rfl
theorem cellsOf_88 : Program.cellsOf Tryz.prog 88 = 4 := by kernel_rfl
theorem bytesOf_88 : Program.bytesOf Tryz.prog 88 = 56 := by kernel_rfl
theorem elemT_88 : VM.elemT Tryz.prog 88 = none := by kernel_rfl
theorem strT_88 : VM.strT Tryz.prog 88 = false := by kernel_rfl
theorem boolT_88 : VM.boolT Tryz.prog 88 = false := by kernel_rfl
theorem intT_88 : VM.intT Tryz.prog 88 = none := by kernel_rfl
theorem hasT_88 : VM.hasT Tryz.prog 88 = true := by kernel_rfl
theorem aggT_88 : VM.aggT Tryz.prog 88 = some true := by kernel_rfl
theorem zeroT_88 : VM.zeroT Tryz.prog 88 = some [.int .i64 0, .str ⟨#[]⟩, .str ⟨#[]⟩, .str ⟨#[]⟩] := by kernel_rfl
theorem fieldT_88_0 : VM.fieldT Tryz.prog 88 0 = some (0, 3) := by kernel_rfl
theorem fieldT_88_1 : VM.fieldT Tryz.prog 88 1 = some (1, 9) := by kernel_rfl
theorem fieldT_88_2 : VM.fieldT Tryz.prog 88 2 = some (2, 9) := by kernel_rfl
theorem fieldT_88_3 : VM.fieldT Tryz.prog 88 3 = some (3, 9) := by kernel_rfl
theorem placesT_88 : VM.placesT Tryz.prog 88 = some [(0, 1, 3), (1, 1, 9), (2, 1, 9), (3, 1, 9)] := by kernel_rfl
theorem flatT_88 : VM.flatT Tryz.prog 88 = some [.int .i64, .string, .string, .string] := by kernel_rfl
theorem cellsOf_89 : Program.cellsOf Tryz.prog 89 = 6 := by kernel_rfl
theorem bytesOf_89 : Program.bytesOf Tryz.prog 89 = 72 := by kernel_rfl
theorem elemT_89 : VM.elemT Tryz.prog 89 = none := by kernel_rfl
theorem strT_89 : VM.strT Tryz.prog 89 = false := by kernel_rfl
theorem boolT_89 : VM.boolT Tryz.prog 89 = false := by kernel_rfl
theorem intT_89 : VM.intT Tryz.prog 89 = none := by kernel_rfl
theorem hasT_89 : VM.hasT Tryz.prog 89 = true := by kernel_rfl
theorem aggT_89 : VM.aggT Tryz.prog 89 = some true := by kernel_rfl
theorem zeroT_89 : VM.zeroT Tryz.prog 89 = some [.int .i64 0, .int .i64 0, .str ⟨#[]⟩, .str ⟨#[]⟩, .str ⟨#[]⟩, .int .i64 0] := by kernel_rfl
theorem fieldT_89_0 : VM.fieldT Tryz.prog 89 0 = some (0, 3) := by kernel_rfl
theorem fieldT_89_1 : VM.fieldT Tryz.prog 89 1 = some (1, 88) := by kernel_rfl
theorem fieldT_89_2 : VM.fieldT Tryz.prog 89 2 = some (5, 3) := by kernel_rfl
theorem placesT_89 : VM.placesT Tryz.prog 89 = some [(0, 1, 3), (1, 4, 88), (5, 1, 3)] := by kernel_rfl
theorem cellsOf_90 : Program.cellsOf Tryz.prog 90 = 6 := by kernel_rfl
theorem bytesOf_90 : Program.bytesOf Tryz.prog 90 = 72 := by kernel_rfl
theorem elemT_90 : VM.elemT Tryz.prog 90 = none := by kernel_rfl
theorem strT_90 : VM.strT Tryz.prog 90 = false := by kernel_rfl
theorem boolT_90 : VM.boolT Tryz.prog 90 = false := by kernel_rfl
theorem intT_90 : VM.intT Tryz.prog 90 = none := by kernel_rfl
theorem hasT_90 : VM.hasT Tryz.prog 90 = true := by kernel_rfl
theorem aggT_90 : VM.aggT Tryz.prog 90 = some true := by kernel_rfl
theorem zeroT_90 : VM.zeroT Tryz.prog 90 = some [.int .i64 0, .int .i64 0, .str ⟨#[]⟩, .str ⟨#[]⟩, .str ⟨#[]⟩, .int .i64 0] := by kernel_rfl
theorem fieldT_90_0 : VM.fieldT Tryz.prog 90 0 = some (0, 3) := by kernel_rfl
theorem fieldT_90_1 : VM.fieldT Tryz.prog 90 1 = some (1, 88) := by kernel_rfl
theorem fieldT_90_2 : VM.fieldT Tryz.prog 90 2 = some (5, 3) := by kernel_rfl
theorem placesT_90 : VM.placesT Tryz.prog 90 = some [(0, 1, 3), (1, 4, 88), (5, 1, 3)] := by kernel_rfl
theorem cellsOf_95 : Program.cellsOf Tryz.prog 95 = 4 := by kernel_rfl
theorem bytesOf_95 : Program.bytesOf Tryz.prog 95 = 56 := by kernel_rfl
theorem elemT_95 : VM.elemT Tryz.prog 95 = none := by kernel_rfl
theorem strT_95 : VM.strT Tryz.prog 95 = false := by kernel_rfl
theorem boolT_95 : VM.boolT Tryz.prog 95 = false := by kernel_rfl
theorem intT_95 : VM.intT Tryz.prog 95 = none := by kernel_rfl
theorem hasT_95 : VM.hasT Tryz.prog 95 = true := by kernel_rfl
theorem aggT_95 : VM.aggT Tryz.prog 95 = some true := by kernel_rfl
theorem zeroT_95 : VM.zeroT Tryz.prog 95 = some [.int .i64 0, .str ⟨#[]⟩, .str ⟨#[]⟩, .str ⟨#[]⟩] := by kernel_rfl
theorem fieldT_95_0 : VM.fieldT Tryz.prog 95 0 = some (0, 3) := by kernel_rfl
theorem fieldT_95_1 : VM.fieldT Tryz.prog 95 1 = some (1, 9) := by kernel_rfl
theorem fieldT_95_2 : VM.fieldT Tryz.prog 95 2 = some (2, 9) := by kernel_rfl
theorem fieldT_95_3 : VM.fieldT Tryz.prog 95 3 = some (3, 9) := by kernel_rfl
theorem placesT_95 : VM.placesT Tryz.prog 95 = some [(0, 1, 3), (1, 1, 9), (2, 1, 9), (3, 1, 9)] := by kernel_rfl
theorem flatT_95 : VM.flatT Tryz.prog 95 = some [.int .i64, .string, .string, .string] := by kernel_rfl
theorem cellsOf_96 : Program.cellsOf Tryz.prog 96 = 6 := by kernel_rfl
theorem bytesOf_96 : Program.bytesOf Tryz.prog 96 = 72 := by kernel_rfl
theorem elemT_96 : VM.elemT Tryz.prog 96 = none := by kernel_rfl
theorem strT_96 : VM.strT Tryz.prog 96 = false := by kernel_rfl
theorem boolT_96 : VM.boolT Tryz.prog 96 = false := by kernel_rfl
theorem intT_96 : VM.intT Tryz.prog 96 = none := by kernel_rfl
theorem hasT_96 : VM.hasT Tryz.prog 96 = true := by kernel_rfl
theorem aggT_96 : VM.aggT Tryz.prog 96 = some true := by kernel_rfl
theorem zeroT_96 : VM.zeroT Tryz.prog 96 = some [.int .i64 0, .int .i64 0, .str ⟨#[]⟩, .str ⟨#[]⟩, .str ⟨#[]⟩, .int .i64 0] := by kernel_rfl
theorem fieldT_96_0 : VM.fieldT Tryz.prog 96 0 = some (0, 3) := by kernel_rfl
theorem fieldT_96_1 : VM.fieldT Tryz.prog 96 1 = some (1, 95) := by kernel_rfl
theorem fieldT_96_2 : VM.fieldT Tryz.prog 96 2 = some (5, 3) := by kernel_rfl
theorem placesT_96 : VM.placesT Tryz.prog 96 = some [(0, 1, 3), (1, 4, 95), (5, 1, 3)] := by kernel_rfl
theorem cellsOf_97 : Program.cellsOf Tryz.prog 97 = 6 := by kernel_rfl
theorem bytesOf_97 : Program.bytesOf Tryz.prog 97 = 72 := by kernel_rfl
theorem elemT_97 : VM.elemT Tryz.prog 97 = none := by kernel_rfl
theorem strT_97 : VM.strT Tryz.prog 97 = false := by kernel_rfl
theorem boolT_97 : VM.boolT Tryz.prog 97 = false := by kernel_rfl
theorem intT_97 : VM.intT Tryz.prog 97 = none := by kernel_rfl
theorem hasT_97 : VM.hasT Tryz.prog 97 = true := by kernel_rfl
theorem aggT_97 : VM.aggT Tryz.prog 97 = some true := by kernel_rfl
theorem zeroT_97 : VM.zeroT Tryz.prog 97 = some [.int .i64 0, .int .i64 0, .str ⟨#[]⟩, .str ⟨#[]⟩, .str ⟨#[]⟩, .int .i64 0] := by kernel_rfl
theorem fieldT_97_0 : VM.fieldT Tryz.prog 97 0 = some (0, 3) := by kernel_rfl
theorem fieldT_97_1 : VM.fieldT Tryz.prog 97 1 = some (1, 95) := by kernel_rfl
theorem fieldT_97_2 : VM.fieldT Tryz.prog 97 2 = some (5, 3) := by kernel_rfl
theorem placesT_97 : VM.placesT Tryz.prog 97 = some [(0, 1, 3), (1, 4, 95), (5, 1, 3)] := by kernel_rfl
theorem cellsOf_118 : Program.cellsOf Tryz.prog 118 = 1 := by kernel_rfl
theorem bytesOf_118 : Program.bytesOf Tryz.prog 118 = 24 := by kernel_rfl
theorem elemT_118 : VM.elemT Tryz.prog 118 = some 222 := by kernel_rfl
theorem strT_118 : VM.strT Tryz.prog 118 = false := by kernel_rfl
theorem boolT_118 : VM.boolT Tryz.prog 118 = false := by kernel_rfl
theorem intT_118 : VM.intT Tryz.prog 118 = none := by kernel_rfl
theorem hasT_118 : VM.hasT Tryz.prog 118 = true := by kernel_rfl
theorem aggT_118 : VM.aggT Tryz.prog 118 = some false := by kernel_rfl
theorem zeroT_118 : VM.zeroT Tryz.prog 118 = some [.list true 2 []] := by kernel_rfl
theorem cellsOf_119 : Program.cellsOf Tryz.prog 119 = 4 := by kernel_rfl
theorem bytesOf_119 : Program.bytesOf Tryz.prog 119 = 64 := by kernel_rfl
theorem elemT_119 : VM.elemT Tryz.prog 119 = none := by kernel_rfl
theorem strT_119 : VM.strT Tryz.prog 119 = false := by kernel_rfl
theorem boolT_119 : VM.boolT Tryz.prog 119 = false := by kernel_rfl
theorem intT_119 : VM.intT Tryz.prog 119 = none := by kernel_rfl
theorem hasT_119 : VM.hasT Tryz.prog 119 = true := by kernel_rfl
theorem aggT_119 : VM.aggT Tryz.prog 119 = some true := by kernel_rfl
theorem zeroT_119 : VM.zeroT Tryz.prog 119 = some [.list true 6 [], .int .i64 0, .list true 2 [], .bool false] := by kernel_rfl
theorem fieldT_119_0 : VM.fieldT Tryz.prog 119 0 = some (0, 44) := by kernel_rfl
theorem fieldT_119_1 : VM.fieldT Tryz.prog 119 1 = some (1, 3) := by kernel_rfl
theorem fieldT_119_2 : VM.fieldT Tryz.prog 119 2 = some (2, 118) := by kernel_rfl
theorem fieldT_119_3 : VM.fieldT Tryz.prog 119 3 = some (3, 4) := by kernel_rfl
theorem placesT_119 : VM.placesT Tryz.prog 119 = some [(0, 1, 44), (1, 1, 3), (2, 1, 118), (3, 1, 4)] := by kernel_rfl
theorem cellsOf_120 : Program.cellsOf Tryz.prog 120 = 4 := by kernel_rfl
theorem bytesOf_120 : Program.bytesOf Tryz.prog 120 = 64 := by kernel_rfl
theorem elemT_120 : VM.elemT Tryz.prog 120 = none := by kernel_rfl
theorem strT_120 : VM.strT Tryz.prog 120 = false := by kernel_rfl
theorem boolT_120 : VM.boolT Tryz.prog 120 = false := by kernel_rfl
theorem intT_120 : VM.intT Tryz.prog 120 = none := by kernel_rfl
theorem hasT_120 : VM.hasT Tryz.prog 120 = true := by kernel_rfl
theorem aggT_120 : VM.aggT Tryz.prog 120 = some true := by kernel_rfl
theorem zeroT_120 : VM.zeroT Tryz.prog 120 = some [.list true 6 [], .int .i64 0, .list true 2 [], .bool false] := by kernel_rfl
theorem fieldT_120_0 : VM.fieldT Tryz.prog 120 0 = some (0, 44) := by kernel_rfl
theorem fieldT_120_1 : VM.fieldT Tryz.prog 120 1 = some (1, 3) := by kernel_rfl
theorem fieldT_120_2 : VM.fieldT Tryz.prog 120 2 = some (2, 118) := by kernel_rfl
theorem fieldT_120_3 : VM.fieldT Tryz.prog 120 3 = some (3, 4) := by kernel_rfl
theorem placesT_120 : VM.placesT Tryz.prog 120 = some [(0, 1, 44), (1, 1, 3), (2, 1, 118), (3, 1, 4)] := by kernel_rfl
theorem cellsOf_122 : Program.cellsOf Tryz.prog 122 = 1 := by kernel_rfl
theorem bytesOf_122 : Program.bytesOf Tryz.prog 122 = 24 := by kernel_rfl
theorem elemT_122 : VM.elemT Tryz.prog 122 = some 88 := by kernel_rfl
theorem strT_122 : VM.strT Tryz.prog 122 = false := by kernel_rfl
theorem boolT_122 : VM.boolT Tryz.prog 122 = false := by kernel_rfl
theorem intT_122 : VM.intT Tryz.prog 122 = none := by kernel_rfl
theorem hasT_122 : VM.hasT Tryz.prog 122 = true := by kernel_rfl
theorem aggT_122 : VM.aggT Tryz.prog 122 = some false := by kernel_rfl
theorem zeroT_122 : VM.zeroT Tryz.prog 122 = some [.list true 4 []] := by kernel_rfl
theorem cellsOf_123 : Program.cellsOf Tryz.prog 123 = 2 := by kernel_rfl
theorem bytesOf_123 : Program.bytesOf Tryz.prog 123 = 48 := by kernel_rfl
theorem elemT_123 : VM.elemT Tryz.prog 123 = none := by kernel_rfl
theorem strT_123 : VM.strT Tryz.prog 123 = false := by kernel_rfl
theorem boolT_123 : VM.boolT Tryz.prog 123 = false := by kernel_rfl
theorem intT_123 : VM.intT Tryz.prog 123 = none := by kernel_rfl
theorem hasT_123 : VM.hasT Tryz.prog 123 = true := by kernel_rfl
theorem aggT_123 : VM.aggT Tryz.prog 123 = some true := by kernel_rfl
theorem zeroT_123 : VM.zeroT Tryz.prog 123 = some [.list true 4 [], .list true 2 []] := by kernel_rfl
theorem fieldT_123_0 : VM.fieldT Tryz.prog 123 0 = some (0, 122) := by kernel_rfl
theorem fieldT_123_1 : VM.fieldT Tryz.prog 123 1 = some (1, 118) := by kernel_rfl
theorem placesT_123 : VM.placesT Tryz.prog 123 = some [(0, 1, 122), (1, 1, 118)] := by kernel_rfl
theorem cellsOf_124 : Program.cellsOf Tryz.prog 124 = 2 := by kernel_rfl
theorem bytesOf_124 : Program.bytesOf Tryz.prog 124 = 48 := by kernel_rfl
theorem elemT_124 : VM.elemT Tryz.prog 124 = none := by kernel_rfl
theorem strT_124 : VM.strT Tryz.prog 124 = false := by kernel_rfl
theorem boolT_124 : VM.boolT Tryz.prog 124 = false := by kernel_rfl
theorem intT_124 : VM.intT Tryz.prog 124 = none := by kernel_rfl
theorem hasT_124 : VM.hasT Tryz.prog 124 = true := by kernel_rfl
theorem aggT_124 : VM.aggT Tryz.prog 124 = some true := by kernel_rfl
theorem zeroT_124 : VM.zeroT Tryz.prog 124 = some [.list true 4 [], .list true 2 []] := by kernel_rfl
theorem fieldT_124_0 : VM.fieldT Tryz.prog 124 0 = some (0, 122) := by kernel_rfl
theorem fieldT_124_1 : VM.fieldT Tryz.prog 124 1 = some (1, 118) := by kernel_rfl
theorem placesT_124 : VM.placesT Tryz.prog 124 = some [(0, 1, 122), (1, 1, 118)] := by kernel_rfl
theorem cellsOf_138 : Program.cellsOf Tryz.prog 138 = 1 := by kernel_rfl
theorem bytesOf_138 : Program.bytesOf Tryz.prog 138 = 24 := by kernel_rfl
theorem elemT_138 : VM.elemT Tryz.prog 138 = some 229 := by kernel_rfl
theorem strT_138 : VM.strT Tryz.prog 138 = false := by kernel_rfl
theorem boolT_138 : VM.boolT Tryz.prog 138 = false := by kernel_rfl
theorem intT_138 : VM.intT Tryz.prog 138 = none := by kernel_rfl
theorem hasT_138 : VM.hasT Tryz.prog 138 = true := by kernel_rfl
theorem aggT_138 : VM.aggT Tryz.prog 138 = some false := by kernel_rfl
theorem zeroT_138 : VM.zeroT Tryz.prog 138 = some [.list true 3 []] := by kernel_rfl
theorem cellsOf_148 : Program.cellsOf Tryz.prog 148 = 3 := by kernel_rfl
theorem bytesOf_148 : Program.bytesOf Tryz.prog 148 = 40 := by kernel_rfl
theorem elemT_148 : VM.elemT Tryz.prog 148 = none := by kernel_rfl
theorem strT_148 : VM.strT Tryz.prog 148 = false := by kernel_rfl
theorem boolT_148 : VM.boolT Tryz.prog 148 = false := by kernel_rfl
theorem intT_148 : VM.intT Tryz.prog 148 = none := by kernel_rfl
theorem hasT_148 : VM.hasT Tryz.prog 148 = true := by kernel_rfl
theorem aggT_148 : VM.aggT Tryz.prog 148 = some true := by kernel_rfl
theorem zeroT_148 : VM.zeroT Tryz.prog 148 = some [.list true 1 [], .int .i64 0, .int .i64 0] := by kernel_rfl
theorem fieldT_148_0 : VM.fieldT Tryz.prog 148 0 = some (0, 54) := by kernel_rfl
theorem fieldT_148_1 : VM.fieldT Tryz.prog 148 1 = some (1, 3) := by kernel_rfl
theorem fieldT_148_2 : VM.fieldT Tryz.prog 148 2 = some (2, 3) := by kernel_rfl
theorem placesT_148 : VM.placesT Tryz.prog 148 = some [(0, 1, 54), (1, 1, 3), (2, 1, 3)] := by kernel_rfl
theorem cellsOf_149 : Program.cellsOf Tryz.prog 149 = 3 := by kernel_rfl
theorem bytesOf_149 : Program.bytesOf Tryz.prog 149 = 40 := by kernel_rfl
theorem elemT_149 : VM.elemT Tryz.prog 149 = none := by kernel_rfl
theorem strT_149 : VM.strT Tryz.prog 149 = false := by kernel_rfl
theorem boolT_149 : VM.boolT Tryz.prog 149 = false := by kernel_rfl
theorem intT_149 : VM.intT Tryz.prog 149 = none := by kernel_rfl
theorem hasT_149 : VM.hasT Tryz.prog 149 = true := by kernel_rfl
theorem aggT_149 : VM.aggT Tryz.prog 149 = some true := by kernel_rfl
theorem zeroT_149 : VM.zeroT Tryz.prog 149 = some [.list true 1 [], .int .i64 0, .int .i64 0] := by kernel_rfl
theorem fieldT_149_0 : VM.fieldT Tryz.prog 149 0 = some (0, 54) := by kernel_rfl
theorem fieldT_149_1 : VM.fieldT Tryz.prog 149 1 = some (1, 3) := by kernel_rfl
theorem fieldT_149_2 : VM.fieldT Tryz.prog 149 2 = some (2, 3) := by kernel_rfl
theorem placesT_149 : VM.placesT Tryz.prog 149 = some [(0, 1, 54), (1, 1, 3), (2, 1, 3)] := by kernel_rfl
theorem cellsOf_151 : Program.cellsOf Tryz.prog 151 = 1 := by kernel_rfl
theorem bytesOf_151 : Program.bytesOf Tryz.prog 151 = 8 := by kernel_rfl
theorem elemT_151 : VM.elemT Tryz.prog 151 = none := by kernel_rfl
theorem strT_151 : VM.strT Tryz.prog 151 = false := by kernel_rfl
theorem boolT_151 : VM.boolT Tryz.prog 151 = false := by kernel_rfl
theorem intT_151 : VM.intT Tryz.prog 151 = none := by kernel_rfl
theorem hasT_151 : VM.hasT Tryz.prog 151 = true := by kernel_rfl
theorem aggT_151 : VM.aggT Tryz.prog 151 = some false := by kernel_rfl
theorem cellsOf_153 : Program.cellsOf Tryz.prog 153 = 1 := by kernel_rfl
theorem bytesOf_153 : Program.bytesOf Tryz.prog 153 = 8 := by kernel_rfl
theorem elemT_153 : VM.elemT Tryz.prog 153 = none := by kernel_rfl
theorem strT_153 : VM.strT Tryz.prog 153 = false := by kernel_rfl
theorem boolT_153 : VM.boolT Tryz.prog 153 = false := by kernel_rfl
theorem intT_153 : VM.intT Tryz.prog 153 = none := by kernel_rfl
theorem hasT_153 : VM.hasT Tryz.prog 153 = true := by kernel_rfl
theorem aggT_153 : VM.aggT Tryz.prog 153 = some false := by kernel_rfl
theorem cellsOf_157 : Program.cellsOf Tryz.prog 157 = 3 := by kernel_rfl
theorem bytesOf_157 : Program.bytesOf Tryz.prog 157 = 32 := by kernel_rfl
theorem elemT_157 : VM.elemT Tryz.prog 157 = none := by kernel_rfl
theorem strT_157 : VM.strT Tryz.prog 157 = false := by kernel_rfl
theorem boolT_157 : VM.boolT Tryz.prog 157 = false := by kernel_rfl
theorem intT_157 : VM.intT Tryz.prog 157 = none := by kernel_rfl
theorem hasT_157 : VM.hasT Tryz.prog 157 = true := by kernel_rfl
theorem aggT_157 : VM.aggT Tryz.prog 157 = some true := by kernel_rfl
theorem zeroT_157 : VM.zeroT Tryz.prog 157 = some [.int .i64 0, .int .i64 0, .str ⟨#[]⟩] := by kernel_rfl
theorem fieldT_157_0 : VM.fieldT Tryz.prog 157 0 = some (0, 3) := by kernel_rfl
theorem fieldT_157_1 : VM.fieldT Tryz.prog 157 1 = some (1, 3) := by kernel_rfl
theorem fieldT_157_2 : VM.fieldT Tryz.prog 157 2 = some (2, 9) := by kernel_rfl
theorem placesT_157 : VM.placesT Tryz.prog 157 = some [(0, 1, 3), (1, 1, 3), (2, 1, 9)] := by kernel_rfl
theorem flatT_157 : VM.flatT Tryz.prog 157 = some [.int .i64, .int .i64, .string] := by kernel_rfl
theorem cellsOf_158 : Program.cellsOf Tryz.prog 158 = 3 := by kernel_rfl
theorem bytesOf_158 : Program.bytesOf Tryz.prog 158 = 32 := by kernel_rfl
theorem elemT_158 : VM.elemT Tryz.prog 158 = none := by kernel_rfl
theorem strT_158 : VM.strT Tryz.prog 158 = false := by kernel_rfl
theorem boolT_158 : VM.boolT Tryz.prog 158 = false := by kernel_rfl
theorem intT_158 : VM.intT Tryz.prog 158 = none := by kernel_rfl
theorem hasT_158 : VM.hasT Tryz.prog 158 = true := by kernel_rfl
theorem aggT_158 : VM.aggT Tryz.prog 158 = some true := by kernel_rfl
theorem zeroT_158 : VM.zeroT Tryz.prog 158 = some [.int .i64 0, .int .i64 0, .str ⟨#[]⟩] := by kernel_rfl
theorem fieldT_158_0 : VM.fieldT Tryz.prog 158 0 = some (0, 3) := by kernel_rfl
theorem fieldT_158_1 : VM.fieldT Tryz.prog 158 1 = some (1, 3) := by kernel_rfl
theorem fieldT_158_2 : VM.fieldT Tryz.prog 158 2 = some (2, 9) := by kernel_rfl
theorem placesT_158 : VM.placesT Tryz.prog 158 = some [(0, 1, 3), (1, 1, 3), (2, 1, 9)] := by kernel_rfl
theorem flatT_158 : VM.flatT Tryz.prog 158 = some [.int .i64, .int .i64, .string] := by kernel_rfl
theorem cellsOf_164 : Program.cellsOf Tryz.prog 164 = 4 := by kernel_rfl
theorem bytesOf_164 : Program.bytesOf Tryz.prog 164 = 72 := by kernel_rfl
theorem elemT_164 : VM.elemT Tryz.prog 164 = none := by kernel_rfl
theorem strT_164 : VM.strT Tryz.prog 164 = false := by kernel_rfl
theorem boolT_164 : VM.boolT Tryz.prog 164 = false := by kernel_rfl
theorem intT_164 : VM.intT Tryz.prog 164 = none := by kernel_rfl
theorem hasT_164 : VM.hasT Tryz.prog 164 = true := by kernel_rfl
theorem aggT_164 : VM.aggT Tryz.prog 164 = some true := by kernel_rfl
theorem zeroT_164 : VM.zeroT Tryz.prog 164 = some [.bool false, .list true 1 [], .list true 1 [], .str ⟨#[]⟩] := by kernel_rfl
theorem fieldT_164_0 : VM.fieldT Tryz.prog 164 0 = some (0, 4) := by kernel_rfl
theorem fieldT_164_1 : VM.fieldT Tryz.prog 164 1 = some (1, 22) := by kernel_rfl
theorem fieldT_164_2 : VM.fieldT Tryz.prog 164 2 = some (2, 23) := by kernel_rfl
theorem fieldT_164_3 : VM.fieldT Tryz.prog 164 3 = some (3, 9) := by kernel_rfl
theorem placesT_164 : VM.placesT Tryz.prog 164 = some [(0, 1, 4), (1, 1, 22), (2, 1, 23), (3, 1, 9)] := by kernel_rfl
theorem cellsOf_165 : Program.cellsOf Tryz.prog 165 = 4 := by kernel_rfl
theorem bytesOf_165 : Program.bytesOf Tryz.prog 165 = 72 := by kernel_rfl
theorem elemT_165 : VM.elemT Tryz.prog 165 = none := by kernel_rfl
theorem strT_165 : VM.strT Tryz.prog 165 = false := by kernel_rfl
theorem boolT_165 : VM.boolT Tryz.prog 165 = false := by kernel_rfl
theorem intT_165 : VM.intT Tryz.prog 165 = none := by kernel_rfl
theorem hasT_165 : VM.hasT Tryz.prog 165 = true := by kernel_rfl
theorem aggT_165 : VM.aggT Tryz.prog 165 = some true := by kernel_rfl
theorem zeroT_165 : VM.zeroT Tryz.prog 165 = some [.bool false, .list true 1 [], .list true 1 [], .str ⟨#[]⟩] := by kernel_rfl
theorem fieldT_165_0 : VM.fieldT Tryz.prog 165 0 = some (0, 4) := by kernel_rfl
theorem fieldT_165_1 : VM.fieldT Tryz.prog 165 1 = some (1, 22) := by kernel_rfl
theorem fieldT_165_2 : VM.fieldT Tryz.prog 165 2 = some (2, 23) := by kernel_rfl
theorem fieldT_165_3 : VM.fieldT Tryz.prog 165 3 = some (3, 9) := by kernel_rfl
theorem placesT_165 : VM.placesT Tryz.prog 165 = some [(0, 1, 4), (1, 1, 22), (2, 1, 23), (3, 1, 9)] := by kernel_rfl
theorem cellsOf_168 : Program.cellsOf Tryz.prog 168 = 1 := by kernel_rfl
theorem bytesOf_168 : Program.bytesOf Tryz.prog 168 = 24 := by kernel_rfl
theorem elemT_168 : VM.elemT Tryz.prog 168 = some 4 := by kernel_rfl
theorem strT_168 : VM.strT Tryz.prog 168 = false := by kernel_rfl
theorem boolT_168 : VM.boolT Tryz.prog 168 = false := by kernel_rfl
theorem intT_168 : VM.intT Tryz.prog 168 = none := by kernel_rfl
theorem hasT_168 : VM.hasT Tryz.prog 168 = true := by kernel_rfl
theorem aggT_168 : VM.aggT Tryz.prog 168 = some false := by kernel_rfl
theorem zeroT_168 : VM.zeroT Tryz.prog 168 = some [.list true 1 []] := by kernel_rfl
theorem cellsOf_174 : Program.cellsOf Tryz.prog 174 = 2 := by kernel_rfl
theorem bytesOf_174 : Program.bytesOf Tryz.prog 174 = 48 := by kernel_rfl
theorem elemT_174 : VM.elemT Tryz.prog 174 = none := by kernel_rfl
theorem strT_174 : VM.strT Tryz.prog 174 = false := by kernel_rfl
theorem boolT_174 : VM.boolT Tryz.prog 174 = false := by kernel_rfl
theorem intT_174 : VM.intT Tryz.prog 174 = none := by kernel_rfl
theorem hasT_174 : VM.hasT Tryz.prog 174 = true := by kernel_rfl
theorem aggT_174 : VM.aggT Tryz.prog 174 = some true := by kernel_rfl
theorem zeroT_174 : VM.zeroT Tryz.prog 174 = some [.list true 1 [], .list true 1 []] := by kernel_rfl
theorem fieldT_174_0 : VM.fieldT Tryz.prog 174 0 = some (0, 22) := by kernel_rfl
theorem fieldT_174_1 : VM.fieldT Tryz.prog 174 1 = some (1, 168) := by kernel_rfl
theorem placesT_174 : VM.placesT Tryz.prog 174 = some [(0, 1, 22), (1, 1, 168)] := by kernel_rfl
theorem cellsOf_175 : Program.cellsOf Tryz.prog 175 = 2 := by kernel_rfl
theorem bytesOf_175 : Program.bytesOf Tryz.prog 175 = 48 := by kernel_rfl
theorem elemT_175 : VM.elemT Tryz.prog 175 = none := by kernel_rfl
theorem strT_175 : VM.strT Tryz.prog 175 = false := by kernel_rfl
theorem boolT_175 : VM.boolT Tryz.prog 175 = false := by kernel_rfl
theorem intT_175 : VM.intT Tryz.prog 175 = none := by kernel_rfl
theorem hasT_175 : VM.hasT Tryz.prog 175 = true := by kernel_rfl
theorem aggT_175 : VM.aggT Tryz.prog 175 = some true := by kernel_rfl
theorem zeroT_175 : VM.zeroT Tryz.prog 175 = some [.list true 1 [], .list true 1 []] := by kernel_rfl
theorem fieldT_175_0 : VM.fieldT Tryz.prog 175 0 = some (0, 22) := by kernel_rfl
theorem fieldT_175_1 : VM.fieldT Tryz.prog 175 1 = some (1, 168) := by kernel_rfl
theorem placesT_175 : VM.placesT Tryz.prog 175 = some [(0, 1, 22), (1, 1, 168)] := by kernel_rfl
theorem cellsOf_179 : Program.cellsOf Tryz.prog 179 = 1 := by kernel_rfl
theorem bytesOf_179 : Program.bytesOf Tryz.prog 179 = 8 := by kernel_rfl
theorem elemT_179 : VM.elemT Tryz.prog 179 = none := by kernel_rfl
theorem strT_179 : VM.strT Tryz.prog 179 = false := by kernel_rfl
theorem boolT_179 : VM.boolT Tryz.prog 179 = false := by kernel_rfl
theorem intT_179 : VM.intT Tryz.prog 179 = none := by kernel_rfl
theorem hasT_179 : VM.hasT Tryz.prog 179 = true := by kernel_rfl
theorem aggT_179 : VM.aggT Tryz.prog 179 = some false := by kernel_rfl
theorem cellsOf_188 : Program.cellsOf Tryz.prog 188 = 6 := by kernel_rfl
theorem bytesOf_188 : Program.bytesOf Tryz.prog 188 = 112 := by kernel_rfl
theorem elemT_188 : VM.elemT Tryz.prog 188 = none := by kernel_rfl
theorem strT_188 : VM.strT Tryz.prog 188 = false := by kernel_rfl
theorem boolT_188 : VM.boolT Tryz.prog 188 = false := by kernel_rfl
theorem intT_188 : VM.intT Tryz.prog 188 = none := by kernel_rfl
theorem hasT_188 : VM.hasT Tryz.prog 188 = true := by kernel_rfl
theorem aggT_188 : VM.aggT Tryz.prog 188 = some true := by kernel_rfl
theorem zeroT_188 : VM.zeroT Tryz.prog 188 = some [.list true 1 [], .list true 1 [], .list true 1 [], .int .i64 0, .list true 3 [], .bool false] := by kernel_rfl
theorem fieldT_188_0 : VM.fieldT Tryz.prog 188 0 = some (0, 36) := by kernel_rfl
theorem fieldT_188_1 : VM.fieldT Tryz.prog 188 1 = some (4, 138) := by kernel_rfl
theorem fieldT_188_2 : VM.fieldT Tryz.prog 188 2 = some (5, 4) := by kernel_rfl
theorem placesT_188 : VM.placesT Tryz.prog 188 = some [(0, 4, 36), (4, 1, 138), (5, 1, 4)] := by kernel_rfl
theorem cellsOf_189 : Program.cellsOf Tryz.prog 189 = 6 := by kernel_rfl
theorem bytesOf_189 : Program.bytesOf Tryz.prog 189 = 112 := by kernel_rfl
theorem elemT_189 : VM.elemT Tryz.prog 189 = none := by kernel_rfl
theorem strT_189 : VM.strT Tryz.prog 189 = false := by kernel_rfl
theorem boolT_189 : VM.boolT Tryz.prog 189 = false := by kernel_rfl
theorem intT_189 : VM.intT Tryz.prog 189 = none := by kernel_rfl
theorem hasT_189 : VM.hasT Tryz.prog 189 = true := by kernel_rfl
theorem aggT_189 : VM.aggT Tryz.prog 189 = some true := by kernel_rfl
theorem zeroT_189 : VM.zeroT Tryz.prog 189 = some [.list true 1 [], .list true 1 [], .list true 1 [], .int .i64 0, .list true 3 [], .bool false] := by kernel_rfl
theorem fieldT_189_0 : VM.fieldT Tryz.prog 189 0 = some (0, 36) := by kernel_rfl
theorem fieldT_189_1 : VM.fieldT Tryz.prog 189 1 = some (4, 138) := by kernel_rfl
theorem fieldT_189_2 : VM.fieldT Tryz.prog 189 2 = some (5, 4) := by kernel_rfl
theorem placesT_189 : VM.placesT Tryz.prog 189 = some [(0, 4, 36), (4, 1, 138), (5, 1, 4)] := by kernel_rfl
theorem cellsOf_196 : Program.cellsOf Tryz.prog 196 = 6 := by kernel_rfl
theorem bytesOf_196 : Program.bytesOf Tryz.prog 196 = 112 := by kernel_rfl
theorem elemT_196 : VM.elemT Tryz.prog 196 = none := by kernel_rfl
theorem strT_196 : VM.strT Tryz.prog 196 = false := by kernel_rfl
theorem boolT_196 : VM.boolT Tryz.prog 196 = false := by kernel_rfl
theorem intT_196 : VM.intT Tryz.prog 196 = none := by kernel_rfl
theorem hasT_196 : VM.hasT Tryz.prog 196 = true := by kernel_rfl
theorem aggT_196 : VM.aggT Tryz.prog 196 = some true := by kernel_rfl
theorem zeroT_196 : VM.zeroT Tryz.prog 196 = some [.list true 1 [], .list true 1 [], .list true 1 [], .int .i64 0, .list true 3 [], .bool false] := by kernel_rfl
theorem fieldT_196_0 : VM.fieldT Tryz.prog 196 0 = some (0, 36) := by kernel_rfl
theorem fieldT_196_1 : VM.fieldT Tryz.prog 196 1 = some (4, 138) := by kernel_rfl
theorem fieldT_196_2 : VM.fieldT Tryz.prog 196 2 = some (5, 4) := by kernel_rfl
theorem placesT_196 : VM.placesT Tryz.prog 196 = some [(0, 4, 36), (4, 1, 138), (5, 1, 4)] := by kernel_rfl
theorem cellsOf_197 : Program.cellsOf Tryz.prog 197 = 6 := by kernel_rfl
theorem bytesOf_197 : Program.bytesOf Tryz.prog 197 = 112 := by kernel_rfl
theorem elemT_197 : VM.elemT Tryz.prog 197 = none := by kernel_rfl
theorem strT_197 : VM.strT Tryz.prog 197 = false := by kernel_rfl
theorem boolT_197 : VM.boolT Tryz.prog 197 = false := by kernel_rfl
theorem intT_197 : VM.intT Tryz.prog 197 = none := by kernel_rfl
theorem hasT_197 : VM.hasT Tryz.prog 197 = true := by kernel_rfl
theorem aggT_197 : VM.aggT Tryz.prog 197 = some true := by kernel_rfl
theorem zeroT_197 : VM.zeroT Tryz.prog 197 = some [.list true 1 [], .list true 1 [], .list true 1 [], .int .i64 0, .list true 3 [], .bool false] := by kernel_rfl
theorem fieldT_197_0 : VM.fieldT Tryz.prog 197 0 = some (0, 36) := by kernel_rfl
theorem fieldT_197_1 : VM.fieldT Tryz.prog 197 1 = some (4, 138) := by kernel_rfl
theorem fieldT_197_2 : VM.fieldT Tryz.prog 197 2 = some (5, 4) := by kernel_rfl
theorem placesT_197 : VM.placesT Tryz.prog 197 = some [(0, 4, 36), (4, 1, 138), (5, 1, 4)] := by kernel_rfl
theorem cellsOf_200 : Program.cellsOf Tryz.prog 200 = 2 := by kernel_rfl
theorem bytesOf_200 : Program.bytesOf Tryz.prog 200 = 24 := by kernel_rfl
theorem elemT_200 : VM.elemT Tryz.prog 200 = none := by kernel_rfl
theorem strT_200 : VM.strT Tryz.prog 200 = false := by kernel_rfl
theorem boolT_200 : VM.boolT Tryz.prog 200 = false := by kernel_rfl
theorem intT_200 : VM.intT Tryz.prog 200 = none := by kernel_rfl
theorem hasT_200 : VM.hasT Tryz.prog 200 = true := by kernel_rfl
theorem aggT_200 : VM.aggT Tryz.prog 200 = some true := by kernel_rfl
theorem zeroT_200 : VM.zeroT Tryz.prog 200 = some [.int .i64 0, .str ⟨#[]⟩] := by kernel_rfl
theorem fieldT_200_0 : VM.fieldT Tryz.prog 200 0 = some (0, 3) := by kernel_rfl
theorem fieldT_200_1 : VM.fieldT Tryz.prog 200 1 = some (1, 9) := by kernel_rfl
theorem placesT_200 : VM.placesT Tryz.prog 200 = some [(0, 1, 3), (1, 1, 9)] := by kernel_rfl
theorem flatT_200 : VM.flatT Tryz.prog 200 = some [.int .i64, .string] := by kernel_rfl
theorem cellsOf_201 : Program.cellsOf Tryz.prog 201 = 2 := by kernel_rfl
theorem bytesOf_201 : Program.bytesOf Tryz.prog 201 = 24 := by kernel_rfl
theorem elemT_201 : VM.elemT Tryz.prog 201 = none := by kernel_rfl
theorem strT_201 : VM.strT Tryz.prog 201 = false := by kernel_rfl
theorem boolT_201 : VM.boolT Tryz.prog 201 = false := by kernel_rfl
theorem intT_201 : VM.intT Tryz.prog 201 = none := by kernel_rfl
theorem hasT_201 : VM.hasT Tryz.prog 201 = true := by kernel_rfl
theorem aggT_201 : VM.aggT Tryz.prog 201 = some true := by kernel_rfl
theorem zeroT_201 : VM.zeroT Tryz.prog 201 = some [.int .i64 0, .str ⟨#[]⟩] := by kernel_rfl
theorem fieldT_201_0 : VM.fieldT Tryz.prog 201 0 = some (0, 3) := by kernel_rfl
theorem fieldT_201_1 : VM.fieldT Tryz.prog 201 1 = some (1, 9) := by kernel_rfl
theorem placesT_201 : VM.placesT Tryz.prog 201 = some [(0, 1, 3), (1, 1, 9)] := by kernel_rfl
theorem flatT_201 : VM.flatT Tryz.prog 201 = some [.int .i64, .string] := by kernel_rfl
theorem cellsOf_208 : Program.cellsOf Tryz.prog 208 = 1 := by kernel_rfl
theorem bytesOf_208 : Program.bytesOf Tryz.prog 208 = 8 := by kernel_rfl
theorem elemT_208 : VM.elemT Tryz.prog 208 = none := by kernel_rfl
theorem strT_208 : VM.strT Tryz.prog 208 = false := by kernel_rfl
theorem boolT_208 : VM.boolT Tryz.prog 208 = false := by kernel_rfl
theorem intT_208 : VM.intT Tryz.prog 208 = some .u64 := by kernel_rfl
theorem hasT_208 : VM.hasT Tryz.prog 208 = true := by kernel_rfl
theorem aggT_208 : VM.aggT Tryz.prog 208 = some false := by kernel_rfl
theorem zeroT_208 : VM.zeroT Tryz.prog 208 = some [.int .u64 0] := by kernel_rfl
theorem cellsOf_222 : Program.cellsOf Tryz.prog 222 = 2 := by kernel_rfl
theorem bytesOf_222 : Program.bytesOf Tryz.prog 222 = 24 := by kernel_rfl
theorem elemT_222 : VM.elemT Tryz.prog 222 = none := by kernel_rfl
theorem strT_222 : VM.strT Tryz.prog 222 = false := by kernel_rfl
theorem boolT_222 : VM.boolT Tryz.prog 222 = false := by kernel_rfl
theorem intT_222 : VM.intT Tryz.prog 222 = none := by kernel_rfl
theorem hasT_222 : VM.hasT Tryz.prog 222 = true := by kernel_rfl
theorem aggT_222 : VM.aggT Tryz.prog 222 = some true := by kernel_rfl
theorem zeroT_222 : VM.zeroT Tryz.prog 222 = some [.int .i64 0, .str ⟨#[]⟩] := by kernel_rfl
theorem fieldT_222_0 : VM.fieldT Tryz.prog 222 0 = some (0, 3) := by kernel_rfl
theorem fieldT_222_1 : VM.fieldT Tryz.prog 222 1 = some (1, 9) := by kernel_rfl
theorem placesT_222 : VM.placesT Tryz.prog 222 = some [(0, 1, 3), (1, 1, 9)] := by kernel_rfl
theorem flatT_222 : VM.flatT Tryz.prog 222 = some [.int .i64, .string] := by kernel_rfl
theorem cellsOf_228 : Program.cellsOf Tryz.prog 228 = 3 := by kernel_rfl
theorem bytesOf_228 : Program.bytesOf Tryz.prog 228 = 32 := by kernel_rfl
theorem elemT_228 : VM.elemT Tryz.prog 228 = none := by kernel_rfl
theorem strT_228 : VM.strT Tryz.prog 228 = false := by kernel_rfl
theorem boolT_228 : VM.boolT Tryz.prog 228 = false := by kernel_rfl
theorem intT_228 : VM.intT Tryz.prog 228 = none := by kernel_rfl
theorem hasT_228 : VM.hasT Tryz.prog 228 = true := by kernel_rfl
theorem aggT_228 : VM.aggT Tryz.prog 228 = some true := by kernel_rfl
theorem zeroT_228 : VM.zeroT Tryz.prog 228 = some [.int .i64 0, .int .i64 0, .str ⟨#[]⟩] := by kernel_rfl
theorem fieldT_228_0 : VM.fieldT Tryz.prog 228 0 = some (0, 3) := by kernel_rfl
theorem fieldT_228_1 : VM.fieldT Tryz.prog 228 1 = some (1, 3) := by kernel_rfl
theorem fieldT_228_2 : VM.fieldT Tryz.prog 228 2 = some (2, 9) := by kernel_rfl
theorem placesT_228 : VM.placesT Tryz.prog 228 = some [(0, 1, 3), (1, 1, 3), (2, 1, 9)] := by kernel_rfl
theorem flatT_228 : VM.flatT Tryz.prog 228 = some [.int .i64, .int .i64, .string] := by kernel_rfl
theorem cellsOf_229 : Program.cellsOf Tryz.prog 229 = 3 := by kernel_rfl
theorem bytesOf_229 : Program.bytesOf Tryz.prog 229 = 32 := by kernel_rfl
theorem elemT_229 : VM.elemT Tryz.prog 229 = none := by kernel_rfl
theorem strT_229 : VM.strT Tryz.prog 229 = false := by kernel_rfl
theorem boolT_229 : VM.boolT Tryz.prog 229 = false := by kernel_rfl
theorem intT_229 : VM.intT Tryz.prog 229 = none := by kernel_rfl
theorem hasT_229 : VM.hasT Tryz.prog 229 = true := by kernel_rfl
theorem aggT_229 : VM.aggT Tryz.prog 229 = some true := by kernel_rfl
theorem zeroT_229 : VM.zeroT Tryz.prog 229 = some [.int .i64 0, .int .i64 0, .str ⟨#[]⟩] := by kernel_rfl
theorem fieldT_229_0 : VM.fieldT Tryz.prog 229 0 = some (0, 3) := by kernel_rfl
theorem fieldT_229_1 : VM.fieldT Tryz.prog 229 1 = some (1, 3) := by kernel_rfl
theorem fieldT_229_2 : VM.fieldT Tryz.prog 229 2 = some (2, 9) := by kernel_rfl
theorem placesT_229 : VM.placesT Tryz.prog 229 = some [(0, 1, 3), (1, 1, 3), (2, 1, 9)] := by kernel_rfl
theorem flatT_229 : VM.flatT Tryz.prog 229 = some [.int .i64, .int .i64, .string] := by kernel_rfl
theorem cellsOf_240 : Program.cellsOf Tryz.prog 240 = 1 := by kernel_rfl
theorem bytesOf_240 : Program.bytesOf Tryz.prog 240 = 8 := by kernel_rfl
theorem elemT_240 : VM.elemT Tryz.prog 240 = none := by kernel_rfl
theorem strT_240 : VM.strT Tryz.prog 240 = false := by kernel_rfl
theorem boolT_240 : VM.boolT Tryz.prog 240 = false := by kernel_rfl
theorem intT_240 : VM.intT Tryz.prog 240 = some .i64 := by kernel_rfl
theorem hasT_240 : VM.hasT Tryz.prog 240 = true := by kernel_rfl
theorem aggT_240 : VM.aggT Tryz.prog 240 = some false := by kernel_rfl
theorem zeroT_240 : VM.zeroT Tryz.prog 240 = some [.int .i64 0] := by kernel_rfl
theorem cellsOf_248 : Program.cellsOf Tryz.prog 248 = 1 := by kernel_rfl
theorem bytesOf_248 : Program.bytesOf Tryz.prog 248 = 4 := by kernel_rfl
theorem elemT_248 : VM.elemT Tryz.prog 248 = none := by kernel_rfl
theorem strT_248 : VM.strT Tryz.prog 248 = false := by kernel_rfl
theorem boolT_248 : VM.boolT Tryz.prog 248 = false := by kernel_rfl
theorem intT_248 : VM.intT Tryz.prog 248 = some .u32 := by kernel_rfl
theorem hasT_248 : VM.hasT Tryz.prog 248 = true := by kernel_rfl
theorem aggT_248 : VM.aggT Tryz.prog 248 = some false := by kernel_rfl
theorem zeroT_248 : VM.zeroT Tryz.prog 248 = some [.int .u32 0] := by kernel_rfl
theorem cellsOf_250 : Program.cellsOf Tryz.prog 250 = 1 := by kernel_rfl
theorem bytesOf_250 : Program.bytesOf Tryz.prog 250 = 8 := by kernel_rfl
theorem elemT_250 : VM.elemT Tryz.prog 250 = none := by kernel_rfl
theorem strT_250 : VM.strT Tryz.prog 250 = false := by kernel_rfl
theorem boolT_250 : VM.boolT Tryz.prog 250 = false := by kernel_rfl
theorem intT_250 : VM.intT Tryz.prog 250 = some .u64 := by kernel_rfl
theorem hasT_250 : VM.hasT Tryz.prog 250 = true := by kernel_rfl
theorem aggT_250 : VM.aggT Tryz.prog 250 = some false := by kernel_rfl
theorem zeroT_250 : VM.zeroT Tryz.prog 250 = some [.int .u64 0] := by kernel_rfl
theorem cellsOf_251 : Program.cellsOf Tryz.prog 251 = 3 := by kernel_rfl
theorem bytesOf_251 : Program.bytesOf Tryz.prog 251 = 40 := by kernel_rfl
theorem elemT_251 : VM.elemT Tryz.prog 251 = none := by kernel_rfl
theorem strT_251 : VM.strT Tryz.prog 251 = false := by kernel_rfl
theorem boolT_251 : VM.boolT Tryz.prog 251 = false := by kernel_rfl
theorem intT_251 : VM.intT Tryz.prog 251 = none := by kernel_rfl
theorem hasT_251 : VM.hasT Tryz.prog 251 = true := by kernel_rfl
theorem aggT_251 : VM.aggT Tryz.prog 251 = some true := by kernel_rfl
theorem zeroT_251 : VM.zeroT Tryz.prog 251 = some [.list true 1 [], .int .i64 0, .bool false] := by kernel_rfl
theorem fieldT_251_0 : VM.fieldT Tryz.prog 251 0 = some (0, 54) := by kernel_rfl
theorem fieldT_251_1 : VM.fieldT Tryz.prog 251 1 = some (1, 3) := by kernel_rfl
theorem fieldT_251_2 : VM.fieldT Tryz.prog 251 2 = some (2, 4) := by kernel_rfl
theorem placesT_251 : VM.placesT Tryz.prog 251 = some [(0, 1, 54), (1, 1, 3), (2, 1, 4)] := by kernel_rfl
theorem cellsOf_252 : Program.cellsOf Tryz.prog 252 = 3 := by kernel_rfl
theorem bytesOf_252 : Program.bytesOf Tryz.prog 252 = 40 := by kernel_rfl
theorem elemT_252 : VM.elemT Tryz.prog 252 = none := by kernel_rfl
theorem strT_252 : VM.strT Tryz.prog 252 = false := by kernel_rfl
theorem boolT_252 : VM.boolT Tryz.prog 252 = false := by kernel_rfl
theorem intT_252 : VM.intT Tryz.prog 252 = none := by kernel_rfl
theorem hasT_252 : VM.hasT Tryz.prog 252 = true := by kernel_rfl
theorem aggT_252 : VM.aggT Tryz.prog 252 = some true := by kernel_rfl
theorem zeroT_252 : VM.zeroT Tryz.prog 252 = some [.list true 1 [], .int .i64 0, .bool false] := by kernel_rfl
theorem fieldT_252_0 : VM.fieldT Tryz.prog 252 0 = some (0, 54) := by kernel_rfl
theorem fieldT_252_1 : VM.fieldT Tryz.prog 252 1 = some (1, 3) := by kernel_rfl
theorem fieldT_252_2 : VM.fieldT Tryz.prog 252 2 = some (2, 4) := by kernel_rfl
theorem placesT_252 : VM.placesT Tryz.prog 252 = some [(0, 1, 54), (1, 1, 3), (2, 1, 4)] := by kernel_rfl
theorem cellsOf_264 : Program.cellsOf Tryz.prog 264 = 1 := by kernel_rfl
theorem bytesOf_264 : Program.bytesOf Tryz.prog 264 = 8 := by kernel_rfl
theorem elemT_264 : VM.elemT Tryz.prog 264 = none := by kernel_rfl
theorem strT_264 : VM.strT Tryz.prog 264 = false := by kernel_rfl
theorem boolT_264 : VM.boolT Tryz.prog 264 = false := by kernel_rfl
theorem intT_264 : VM.intT Tryz.prog 264 = some .u64 := by kernel_rfl
theorem hasT_264 : VM.hasT Tryz.prog 264 = true := by kernel_rfl
theorem aggT_264 : VM.aggT Tryz.prog 264 = some false := by kernel_rfl
theorem zeroT_264 : VM.zeroT Tryz.prog 264 = some [.int .u64 0] := by kernel_rfl
theorem cellsOf_275 : Program.cellsOf Tryz.prog 275 = 1 := by kernel_rfl
theorem bytesOf_275 : Program.bytesOf Tryz.prog 275 = 24 := by kernel_rfl
theorem elemT_275 : VM.elemT Tryz.prog 275 = some 54 := by kernel_rfl
theorem strT_275 : VM.strT Tryz.prog 275 = false := by kernel_rfl
theorem boolT_275 : VM.boolT Tryz.prog 275 = false := by kernel_rfl
theorem intT_275 : VM.intT Tryz.prog 275 = none := by kernel_rfl
theorem hasT_275 : VM.hasT Tryz.prog 275 = true := by kernel_rfl
theorem aggT_275 : VM.aggT Tryz.prog 275 = some false := by kernel_rfl
theorem zeroT_275 : VM.zeroT Tryz.prog 275 = some [.list true 1 []] := by kernel_rfl
attribute [go_sem] cellsOf_3 bytesOf_3 elemT_3 strT_3 boolT_3 intT_3 hasT_3 aggT_3 zeroT_3 cellsOf_4 bytesOf_4 elemT_4 strT_4 boolT_4 intT_4 hasT_4 aggT_4 zeroT_4 cellsOf_5 bytesOf_5 elemT_5 strT_5 boolT_5 intT_5 hasT_5 aggT_5 zeroT_5 cellsOf_9 bytesOf_9 elemT_9 strT_9 boolT_9 intT_9 hasT_9 aggT_9 zeroT_9 cellsOf_22 bytesOf_22 elemT_22 strT_22 boolT_22 intT_22 hasT_22 aggT_22 zeroT_22 cellsOf_23 bytesOf_23 elemT_23 strT_23 boolT_23 intT_23 hasT_23 aggT_23 zeroT_23 cellsOf_24 bytesOf_24 elemT_24 strT_24 boolT_24 intT_24 hasT_24 aggT_24 zeroT_24 fieldT_24_0 fieldT_24_1 placesT_24 cellsOf_25 bytesOf_25 elemT_25 strT_25 boolT_25 intT_25 hasT_25 aggT_25 zeroT_25 fieldT_25_0 fieldT_25_1 placesT_25 cellsOf_26 bytesOf_26 elemT_26 strT_26 boolT_26 intT_26 hasT_26 aggT_26 zeroT_26 fieldT_26_0 fieldT_26_1 fieldT_26_2 placesT_26 cellsOf_27 bytesOf_27 elemT_27 strT_27 boolT_27 intT_27 hasT_27 aggT_27 zeroT_27 fieldT_27_0 fieldT_27_1 fieldT_27_2 placesT_27 cellsOf_28 bytesOf_28 elemT_28 strT_28 boolT_28 intT_28 hasT_28 aggT_28 zeroT_28 cellsOf_29 bytesOf_29 elemT_29 strT_29 boolT_29 intT_29 hasT_29 aggT_29 zeroT_29 cellsOf_30 bytesOf_30 elemT_30 strT_30 boolT_30 intT_30 hasT_30 aggT_30 zeroT_30 fieldT_30_0 fieldT_30_1 fieldT_30_2 fieldT_30_3 placesT_30 cellsOf_31 bytesOf_31 elemT_31 strT_31 boolT_31 intT_31 hasT_31 aggT_31 zeroT_31 fieldT_31_0 fieldT_31_1 fieldT_31_2 fieldT_31_3 placesT_31 cellsOf_34 bytesOf_34 elemT_34 strT_34 boolT_34 intT_34 hasT_34 aggT_34 zeroT_34 fieldT_34_0 fieldT_34_1 placesT_34 cellsOf_35 bytesOf_35 elemT_35 strT_35 boolT_35 intT_35 hasT_35 aggT_35 zeroT_35 fieldT_35_0 fieldT_35_1 fieldT_35_2 placesT_35 cellsOf_36 bytesOf_36 elemT_36 strT_36 boolT_36 intT_36 hasT_36 aggT_36 zeroT_36 fieldT_36_0 fieldT_36_1 fieldT_36_2 placesT_36 cellsOf_37 bytesOf_37 elemT_37 strT_37 boolT_37 intT_37 hasT_37 aggT_37 zeroT_37 cellsOf_38 bytesOf_38 elemT_38 strT_38 boolT_38 intT_38 hasT_38 aggT_38 zeroT_38 cellsOf_39 bytesOf_39 elemT_39 strT_39 boolT_39 intT_39 hasT_39 aggT_39 zeroT_39 fieldT_39_0 fieldT_39_1 fieldT_39_2 fieldT_39_3 placesT_39 cellsOf_40 bytesOf_40 elemT_40 strT_40 boolT_40 intT_40 hasT_40 aggT_40 zeroT_40 fieldT_40_0 fieldT_40_1 fieldT_40_2 fieldT_40_3 placesT_40 cellsOf_44 bytesOf_44 elemT_44 strT_44 boolT_44 intT_44 hasT_44 aggT_44 zeroT_44 cellsOf_48 bytesOf_48 elemT_48 strT_48 boolT_48 intT_48 hasT_48 aggT_48 zeroT_48 cellsOf_54 bytesOf_54 elemT_54 strT_54 boolT_54 intT_54 hasT_54 aggT_54 zeroT_54 cellsOf_70 bytesOf_70 elemT_70 strT_70 boolT_70 intT_70 hasT_70 aggT_70 cellsOf_71 bytesOf_71 elemT_71 strT_71 boolT_71 intT_71 hasT_71 aggT_71 zeroT_71 cellsOf_72 bytesOf_72 elemT_72 strT_72 boolT_72 intT_72 hasT_72 aggT_72 zeroT_72 fieldT_72_0 fieldT_72_1 fieldT_72_2 fieldT_72_3 placesT_72 cellsOf_73 bytesOf_73 elemT_73 strT_73 boolT_73 intT_73 hasT_73 aggT_73 zeroT_73 fieldT_73_0 fieldT_73_1 fieldT_73_2 fieldT_73_3 placesT_73 cellsOf_74 bytesOf_74 elemT_74 strT_74 boolT_74 intT_74 hasT_74 aggT_74 cellsOf_75 bytesOf_75 elemT_75 strT_75 boolT_75 intT_75 hasT_75 aggT_75 zeroT_75 cellsOf_76 bytesOf_76 elemT_76 strT_76 boolT_76 intT_76 hasT_76 aggT_76 zeroT_76 fieldT_76_0 fieldT_76_1 placesT_76 cellsOf_77 bytesOf_77 elemT_77 strT_77 boolT_77 intT_77 hasT_77 aggT_77 zeroT_77 fieldT_77_0 fieldT_77_1 placesT_77 cellsOf_87 bytesOf_87 elemT_87 strT_87 boolT_87 intT_87 hasT_87 aggT_87 zeroT_87 fieldT_87_0 fieldT_87_1 fieldT_87_2 fieldT_87_3 placesT_87 flatT_87 cellsOf_88 bytesOf_88 elemT_88 strT_88 boolT_88 intT_88 hasT_88 aggT_88 zeroT_88 fieldT_88_0 fieldT_88_1 fieldT_88_2 fieldT_88_3 placesT_88 flatT_88 cellsOf_89 bytesOf_89 elemT_89 strT_89 boolT_89 intT_89 hasT_89 aggT_89 zeroT_89 fieldT_89_0 fieldT_89_1 fieldT_89_2 placesT_89 cellsOf_90 bytesOf_90 elemT_90 strT_90 boolT_90 intT_90 hasT_90 aggT_90 zeroT_90 fieldT_90_0 fieldT_90_1 fieldT_90_2 placesT_90 cellsOf_95 bytesOf_95 elemT_95 strT_95 boolT_95 intT_95 hasT_95 aggT_95 zeroT_95 fieldT_95_0 fieldT_95_1 fieldT_95_2 fieldT_95_3 placesT_95 flatT_95 cellsOf_96 bytesOf_96 elemT_96 strT_96 boolT_96 intT_96 hasT_96 aggT_96 zeroT_96 fieldT_96_0 fieldT_96_1 fieldT_96_2 placesT_96 cellsOf_97 bytesOf_97 elemT_97 strT_97 boolT_97 intT_97 hasT_97 aggT_97 zeroT_97 fieldT_97_0 fieldT_97_1 fieldT_97_2 placesT_97 cellsOf_118 bytesOf_118 elemT_118 strT_118 boolT_118 intT_118 hasT_118 aggT_118 zeroT_118 cellsOf_119 bytesOf_119 elemT_119 strT_119 boolT_119 intT_119 hasT_119 aggT_119 zeroT_119 fieldT_119_0 fieldT_119_1 fieldT_119_2 fieldT_119_3 placesT_119 cellsOf_120 bytesOf_120 elemT_120 strT_120 boolT_120 intT_120 hasT_120 aggT_120 zeroT_120 fieldT_120_0 fieldT_120_1 fieldT_120_2 fieldT_120_3 placesT_120 cellsOf_122 bytesOf_122 elemT_122 strT_122 boolT_122 intT_122 hasT_122 aggT_122 zeroT_122 cellsOf_123 bytesOf_123 elemT_123 strT_123 boolT_123 intT_123 hasT_123 aggT_123 zeroT_123 fieldT_123_0 fieldT_123_1 placesT_123 cellsOf_124 bytesOf_124 elemT_124 strT_124 boolT_124 intT_124 hasT_124 aggT_124 zeroT_124 fieldT_124_0 fieldT_124_1 placesT_124 cellsOf_138 bytesOf_138 elemT_138 strT_138 boolT_138 intT_138 hasT_138 aggT_138 zeroT_138 cellsOf_148 bytesOf_148 elemT_148 strT_148 boolT_148 intT_148 hasT_148 aggT_148 zeroT_148 fieldT_148_0 fieldT_148_1 fieldT_148_2 placesT_148 cellsOf_149 bytesOf_149 elemT_149 strT_149 boolT_149 intT_149 hasT_149 aggT_149 zeroT_149 fieldT_149_0 fieldT_149_1 fieldT_149_2 placesT_149 cellsOf_151 bytesOf_151 elemT_151 strT_151 boolT_151 intT_151 hasT_151 aggT_151 cellsOf_153 bytesOf_153 elemT_153 strT_153 boolT_153 intT_153 hasT_153 aggT_153 cellsOf_157 bytesOf_157 elemT_157 strT_157 boolT_157 intT_157 hasT_157 aggT_157 zeroT_157 fieldT_157_0 fieldT_157_1 fieldT_157_2 placesT_157 flatT_157 cellsOf_158 bytesOf_158 elemT_158 strT_158 boolT_158 intT_158 hasT_158 aggT_158 zeroT_158 fieldT_158_0 fieldT_158_1 fieldT_158_2 placesT_158 flatT_158 cellsOf_164 bytesOf_164 elemT_164 strT_164 boolT_164 intT_164 hasT_164 aggT_164 zeroT_164 fieldT_164_0 fieldT_164_1 fieldT_164_2 fieldT_164_3 placesT_164 cellsOf_165 bytesOf_165 elemT_165 strT_165 boolT_165 intT_165 hasT_165 aggT_165 zeroT_165 fieldT_165_0 fieldT_165_1 fieldT_165_2 fieldT_165_3 placesT_165 cellsOf_168 bytesOf_168 elemT_168 strT_168 boolT_168 intT_168 hasT_168 aggT_168 zeroT_168 cellsOf_174 bytesOf_174 elemT_174 strT_174 boolT_174 intT_174 hasT_174 aggT_174 zeroT_174 fieldT_174_0 fieldT_174_1 placesT_174 cellsOf_175 bytesOf_175 elemT_175 strT_175 boolT_175 intT_175 hasT_175 aggT_175 zeroT_175 fieldT_175_0 fieldT_175_1 placesT_175 cellsOf_179 bytesOf_179 elemT_179 strT_179 boolT_179 intT_179 hasT_179 aggT_179 cellsOf_188 bytesOf_188 elemT_188 strT_188 boolT_188 intT_188 hasT_188 aggT_188 zeroT_188 fieldT_188_0 fieldT_188_1 fieldT_188_2 placesT_188 cellsOf_189 bytesOf_189 elemT_189 strT_189 boolT_189 intT_189 hasT_189 aggT_189 zeroT_189 fieldT_189_0 fieldT_189_1 fieldT_189_2 placesT_189 cellsOf_196 bytesOf_196 elemT_196 strT_196 boolT_196 intT_196 hasT_196 aggT_196 zeroT_196 fieldT_196_0 fieldT_196_1 fieldT_196_2 placesT_196 cellsOf_197 bytesOf_197 elemT_197 strT_197 boolT_197 intT_197 hasT_197 aggT_197 zeroT_197 fieldT_197_0 fieldT_197_1 fieldT_197_2 placesT_197 cellsOf_200 bytesOf_200 elemT_200 strT_200 boolT_200 intT_200 hasT_200 aggT_200 zeroT_200 fieldT_200_0 fieldT_200_1 placesT_200 flatT_200 cellsOf_201 bytesOf_201 elemT_201 strT_201 boolT_201 intT_201 hasT_201 aggT_201 zeroT_201 fieldT_201_0 fieldT_201_1 placesT_201 flatT_201 cellsOf_208 bytesOf_208 elemT_208 strT_208 boolT_208 intT_208 hasT_208 aggT_208 zeroT_208 cellsOf_222 bytesOf_222 elemT_222 strT_222 boolT_222 intT_222 hasT_222 aggT_222 zeroT_222 fieldT_222_0 fieldT_222_1 placesT_222 flatT_222 cellsOf_228 bytesOf_228 elemT_228 strT_228 boolT_228 intT_228 hasT_228 aggT_228 zeroT_228 fieldT_228_0 fieldT_228_1 fieldT_228_2 placesT_228 flatT_228 cellsOf_229 bytesOf_229 elemT_229 strT_229 boolT_229 intT_229 hasT_229 aggT_229 zeroT_229 fieldT_229_0 fieldT_229_1 fieldT_229_2 placesT_229 flatT_229 cellsOf_240 bytesOf_240 elemT_240 strT_240 boolT_240 intT_240 hasT_240 aggT_240 zeroT_240 cellsOf_248 bytesOf_248 elemT_248 strT_248 boolT_248 intT_248 hasT_248 aggT_248 zeroT_248 cellsOf_250 bytesOf_250 elemT_250 strT_250 boolT_250 intT_250 hasT_250 aggT_250 zeroT_250 cellsOf_251 bytesOf_251 elemT_251 strT_251 boolT_251 intT_251 hasT_251 aggT_251 zeroT_251 fieldT_251_0 fieldT_251_1 fieldT_251_2 placesT_251 cellsOf_252 bytesOf_252 elemT_252 strT_252 boolT_252 intT_252 hasT_252 aggT_252 zeroT_252 fieldT_252_0 fieldT_252_1 fieldT_252_2 placesT_252 cellsOf_264 bytesOf_264 elemT_264 strT_264 boolT_264 intT_264 hasT_264 aggT_264 zeroT_264 cellsOf_275 bytesOf_275 elemT_275 strT_275 boolT_275 intT_275 hasT_275 aggT_275 zeroT_275
end Go.Proofs.YtppbonbghmdhhaaGreat
