/- What the machine asks of the program's types. Printed by a program (facts.py). -/
import Derived.Test.YtimfbpnnjdpcbaaVUse
import Derived.Test.YtimfbpnnjdpcbaaProg
import Derived.KernelRfl
namespace Go.Proofs.Ytimfbpnnjdpcbaa
theorem cellsOf_3 : Program.cellsOf Try.prog 3 = 1 := by kernel_rfl
theorem bytesOf_3 : Program.bytesOf Try.prog 3 = 8 := by kernel_rfl
theorem elemT_3 : VM.elemT Try.prog 3 = none := by kernel_rfl
theorem strT_3 : VM.strT Try.prog 3 = false := by kernel_rfl
theorem boolT_3 : VM.boolT Try.prog 3 = false := by kernel_rfl
theorem intT_3 : VM.intT Try.prog 3 = some .i64 := by kernel_rfl
theorem hasT_3 : VM.hasT Try.prog 3 = true := by kernel_rfl
theorem aggT_3 : VM.aggT Try.prog 3 = some false := by kernel_rfl
theorem zeroT_3 : VM.zeroT Try.prog 3 = some [.int .i64 0] := by kernel_rfl
theorem cellsOf_4 : Program.cellsOf Try.prog 4 = 1 := by kernel_rfl
theorem bytesOf_4 : Program.bytesOf Try.prog 4 = 1 := by kernel_rfl
theorem elemT_4 : VM.elemT Try.prog 4 = none := by kernel_rfl
theorem strT_4 : VM.strT Try.prog 4 = false := by kernel_rfl
theorem boolT_4 : VM.boolT Try.prog 4 = true := by kernel_rfl
theorem intT_4 : VM.intT Try.prog 4 = none := by kernel_rfl
theorem hasT_4 : VM.hasT Try.prog 4 = true := by kernel_rfl
theorem aggT_4 : VM.aggT Try.prog 4 = some false := by kernel_rfl
theorem zeroT_4 : VM.zeroT Try.prog 4 = some [.bool false] := by kernel_rfl
theorem cellsOf_5 : Program.cellsOf Try.prog 5 = 1 := by kernel_rfl
theorem bytesOf_5 : Program.bytesOf Try.prog 5 = 1 := by kernel_rfl
theorem elemT_5 : VM.elemT Try.prog 5 = none := by kernel_rfl
theorem strT_5 : VM.strT Try.prog 5 = false := by kernel_rfl
theorem boolT_5 : VM.boolT Try.prog 5 = false := by kernel_rfl
theorem intT_5 : VM.intT Try.prog 5 = some .u8 := by kernel_rfl
theorem hasT_5 : VM.hasT Try.prog 5 = true := by kernel_rfl
theorem aggT_5 : VM.aggT Try.prog 5 = some false := by kernel_rfl
theorem zeroT_5 : VM.zeroT Try.prog 5 = some [.int .u8 0] := by kernel_rfl
theorem cellsOf_9 : Program.cellsOf Try.prog 9 = 1 := by kernel_rfl
theorem bytesOf_9 : Program.bytesOf Try.prog 9 = 16 := by kernel_rfl
theorem elemT_9 : VM.elemT Try.prog 9 = none := by kernel_rfl
theorem strT_9 : VM.strT Try.prog 9 = true := by kernel_rfl
theorem boolT_9 : VM.boolT Try.prog 9 = false := by kernel_rfl
theorem intT_9 : VM.intT Try.prog 9 = none := by kernel_rfl
theorem hasT_9 : VM.hasT Try.prog 9 = true := by kernel_rfl
theorem aggT_9 : VM.aggT Try.prog 9 = some false := by kernel_rfl
theorem zeroT_9 : VM.zeroT Try.prog 9 = some [.str ⟨#[]⟩] := by kernel_rfl
theorem cellsOf_22 : Program.cellsOf Try.prog 22 = 1 := by kernel_rfl
theorem bytesOf_22 : Program.bytesOf Try.prog 22 = 24 := by kernel_rfl
theorem elemT_22 : VM.elemT Try.prog 22 = some 77 := by kernel_rfl
theorem strT_22 : VM.strT Try.prog 22 = false := by kernel_rfl
theorem boolT_22 : VM.boolT Try.prog 22 = false := by kernel_rfl
theorem intT_22 : VM.intT Try.prog 22 = none := by kernel_rfl
theorem hasT_22 : VM.hasT Try.prog 22 = true := by kernel_rfl
theorem aggT_22 : VM.aggT Try.prog 22 = some false := by kernel_rfl
theorem zeroT_22 : VM.zeroT Try.prog 22 = some [.list true 6 []] := by kernel_rfl
theorem cellsOf_23 : Program.cellsOf Try.prog 23 = 1 := by kernel_rfl
theorem bytesOf_23 : Program.bytesOf Try.prog 23 = 24 := by kernel_rfl
theorem elemT_23 : VM.elemT Try.prog 23 = some 79 := by kernel_rfl
theorem strT_23 : VM.strT Try.prog 23 = false := by kernel_rfl
theorem boolT_23 : VM.boolT Try.prog 23 = false := by kernel_rfl
theorem intT_23 : VM.intT Try.prog 23 = none := by kernel_rfl
theorem hasT_23 : VM.hasT Try.prog 23 = true := by kernel_rfl
theorem aggT_23 : VM.aggT Try.prog 23 = some false := by kernel_rfl
theorem zeroT_23 : VM.zeroT Try.prog 23 = some [.list true 2 []] := by kernel_rfl
theorem cellsOf_24 : Program.cellsOf Try.prog 24 = 4 := by kernel_rfl
theorem bytesOf_24 : Program.bytesOf Try.prog 24 = 64 := by kernel_rfl
theorem elemT_24 : VM.elemT Try.prog 24 = none := by kernel_rfl
theorem strT_24 : VM.strT Try.prog 24 = false := by kernel_rfl
theorem boolT_24 : VM.boolT Try.prog 24 = false := by kernel_rfl
theorem intT_24 : VM.intT Try.prog 24 = none := by kernel_rfl
theorem hasT_24 : VM.hasT Try.prog 24 = true := by kernel_rfl
theorem aggT_24 : VM.aggT Try.prog 24 = some true := by kernel_rfl
theorem zeroT_24 : VM.zeroT Try.prog 24 = some [.list true 6 [], .int .i64 0, .list true 2 [], .bool false] := by kernel_rfl
theorem fieldT_24_0 : VM.fieldT Try.prog 24 0 = some (0, 22) := by kernel_rfl
theorem fieldT_24_1 : VM.fieldT Try.prog 24 1 = some (1, 3) := by kernel_rfl
theorem fieldT_24_2 : VM.fieldT Try.prog 24 2 = some (2, 23) := by kernel_rfl
theorem fieldT_24_3 : VM.fieldT Try.prog 24 3 = some (3, 4) := by kernel_rfl
theorem placesT_24 : VM.placesT Try.prog 24 = some [(0, 1, 22), (1, 1, 3), (2, 1, 23), (3, 1, 4)] := by kernel_rfl
theorem cellsOf_25 : Program.cellsOf Try.prog 25 = 4 := by kernel_rfl
theorem bytesOf_25 : Program.bytesOf Try.prog 25 = 64 := by kernel_rfl
theorem elemT_25 : VM.elemT Try.prog 25 = none := by kernel_rfl
theorem strT_25 : VM.strT Try.prog 25 = false := by kernel_rfl
theorem boolT_25 : VM.boolT Try.prog 25 = false := by kernel_rfl
theorem intT_25 : VM.intT Try.prog 25 = none := by kernel_rfl
theorem hasT_25 : VM.hasT Try.prog 25 = true := by kernel_rfl
theorem aggT_25 : VM.aggT Try.prog 25 = some true := by kernel_rfl
theorem zeroT_25 : VM.zeroT Try.prog 25 = some [.list true 6 [], .int .i64 0, .list true 2 [], .bool false] := by kernel_rfl
theorem fieldT_25_0 : VM.fieldT Try.prog 25 0 = some (0, 22) := by kernel_rfl
theorem fieldT_25_1 : VM.fieldT Try.prog 25 1 = some (1, 3) := by kernel_rfl
theorem fieldT_25_2 : VM.fieldT Try.prog 25 2 = some (2, 23) := by kernel_rfl
theorem fieldT_25_3 : VM.fieldT Try.prog 25 3 = some (3, 4) := by kernel_rfl
theorem placesT_25 : VM.placesT Try.prog 25 = some [(0, 1, 22), (1, 1, 3), (2, 1, 23), (3, 1, 4)] := by kernel_rfl
theorem cellsOf_26 : Program.cellsOf Try.prog 26 = 1 := by kernel_rfl
theorem bytesOf_26 : Program.bytesOf Try.prog 26 = 24 := by kernel_rfl
theorem elemT_26 : VM.elemT Try.prog 26 = some 75 := by kernel_rfl
theorem strT_26 : VM.strT Try.prog 26 = false := by kernel_rfl
theorem boolT_26 : VM.boolT Try.prog 26 = false := by kernel_rfl
theorem intT_26 : VM.intT Try.prog 26 = none := by kernel_rfl
theorem hasT_26 : VM.hasT Try.prog 26 = true := by kernel_rfl
theorem aggT_26 : VM.aggT Try.prog 26 = some false := by kernel_rfl
theorem zeroT_26 : VM.zeroT Try.prog 26 = some [.list true 4 []] := by kernel_rfl
theorem cellsOf_27 : Program.cellsOf Try.prog 27 = 2 := by kernel_rfl
theorem bytesOf_27 : Program.bytesOf Try.prog 27 = 48 := by kernel_rfl
theorem elemT_27 : VM.elemT Try.prog 27 = none := by kernel_rfl
theorem strT_27 : VM.strT Try.prog 27 = false := by kernel_rfl
theorem boolT_27 : VM.boolT Try.prog 27 = false := by kernel_rfl
theorem intT_27 : VM.intT Try.prog 27 = none := by kernel_rfl
theorem hasT_27 : VM.hasT Try.prog 27 = true := by kernel_rfl
theorem aggT_27 : VM.aggT Try.prog 27 = some true := by kernel_rfl
theorem zeroT_27 : VM.zeroT Try.prog 27 = some [.list true 4 [], .list true 2 []] := by kernel_rfl
theorem fieldT_27_0 : VM.fieldT Try.prog 27 0 = some (0, 26) := by kernel_rfl
theorem fieldT_27_1 : VM.fieldT Try.prog 27 1 = some (1, 23) := by kernel_rfl
theorem placesT_27 : VM.placesT Try.prog 27 = some [(0, 1, 26), (1, 1, 23)] := by kernel_rfl
theorem cellsOf_28 : Program.cellsOf Try.prog 28 = 2 := by kernel_rfl
theorem bytesOf_28 : Program.bytesOf Try.prog 28 = 48 := by kernel_rfl
theorem elemT_28 : VM.elemT Try.prog 28 = none := by kernel_rfl
theorem strT_28 : VM.strT Try.prog 28 = false := by kernel_rfl
theorem boolT_28 : VM.boolT Try.prog 28 = false := by kernel_rfl
theorem intT_28 : VM.intT Try.prog 28 = none := by kernel_rfl
theorem hasT_28 : VM.hasT Try.prog 28 = true := by kernel_rfl
theorem aggT_28 : VM.aggT Try.prog 28 = some true := by kernel_rfl
theorem zeroT_28 : VM.zeroT Try.prog 28 = some [.list true 4 [], .list true 2 []] := by kernel_rfl
theorem fieldT_28_0 : VM.fieldT Try.prog 28 0 = some (0, 26) := by kernel_rfl
theorem fieldT_28_1 : VM.fieldT Try.prog 28 1 = some (1, 23) := by kernel_rfl
theorem placesT_28 : VM.placesT Try.prog 28 = some [(0, 1, 26), (1, 1, 23)] := by kernel_rfl
theorem cellsOf_29 : Program.cellsOf Try.prog 29 = 1 := by kernel_rfl
theorem bytesOf_29 : Program.bytesOf Try.prog 29 = 8 := by kernel_rfl
theorem elemT_29 : VM.elemT Try.prog 29 = none := by kernel_rfl
theorem strT_29 : VM.strT Try.prog 29 = false := by kernel_rfl
theorem boolT_29 : VM.boolT Try.prog 29 = false := by kernel_rfl
theorem intT_29 : VM.intT Try.prog 29 = none := by kernel_rfl
theorem hasT_29 : VM.hasT Try.prog 29 = true := by kernel_rfl
theorem aggT_29 : VM.aggT Try.prog 29 = some false := by kernel_rfl
theorem cellsOf_30 : Program.cellsOf Try.prog 30 = 1 := by kernel_rfl
theorem bytesOf_30 : Program.bytesOf Try.prog 30 = 8 := by kernel_rfl
theorem elemT_30 : VM.elemT Try.prog 30 = none := by kernel_rfl
theorem strT_30 : VM.strT Try.prog 30 = false := by kernel_rfl
theorem boolT_30 : VM.boolT Try.prog 30 = false := by kernel_rfl
theorem intT_30 : VM.intT Try.prog 30 = none := by kernel_rfl
theorem hasT_30 : VM.hasT Try.prog 30 = true := by kernel_rfl
theorem aggT_30 : VM.aggT Try.prog 30 = some false := by kernel_rfl
theorem cellsOf_31 : Program.cellsOf Try.prog 31 = 1 := by kernel_rfl
theorem bytesOf_31 : Program.bytesOf Try.prog 31 = 24 := by kernel_rfl
theorem elemT_31 : VM.elemT Try.prog 31 = some 57 := by kernel_rfl
theorem strT_31 : VM.strT Try.prog 31 = false := by kernel_rfl
theorem boolT_31 : VM.boolT Try.prog 31 = false := by kernel_rfl
theorem intT_31 : VM.intT Try.prog 31 = none := by kernel_rfl
theorem hasT_31 : VM.hasT Try.prog 31 = true := by kernel_rfl
theorem aggT_31 : VM.aggT Try.prog 31 = some false := by kernel_rfl
theorem zeroT_31 : VM.zeroT Try.prog 31 = some [.list true 6 []] := by kernel_rfl
theorem cellsOf_32 : Program.cellsOf Try.prog 32 = 1 := by kernel_rfl
theorem bytesOf_32 : Program.bytesOf Try.prog 32 = 24 := by kernel_rfl
theorem elemT_32 : VM.elemT Try.prog 32 = some 62 := by kernel_rfl
theorem strT_32 : VM.strT Try.prog 32 = false := by kernel_rfl
theorem boolT_32 : VM.boolT Try.prog 32 = false := by kernel_rfl
theorem intT_32 : VM.intT Try.prog 32 = none := by kernel_rfl
theorem hasT_32 : VM.hasT Try.prog 32 = true := by kernel_rfl
theorem aggT_32 : VM.aggT Try.prog 32 = some false := by kernel_rfl
theorem zeroT_32 : VM.zeroT Try.prog 32 = some [.list true 2 []] := by kernel_rfl
theorem cellsOf_33 : Program.cellsOf Try.prog 33 = 4 := by kernel_rfl
theorem bytesOf_33 : Program.bytesOf Try.prog 33 = 64 := by kernel_rfl
theorem elemT_33 : VM.elemT Try.prog 33 = none := by kernel_rfl
theorem strT_33 : VM.strT Try.prog 33 = false := by kernel_rfl
theorem boolT_33 : VM.boolT Try.prog 33 = false := by kernel_rfl
theorem intT_33 : VM.intT Try.prog 33 = none := by kernel_rfl
theorem hasT_33 : VM.hasT Try.prog 33 = true := by kernel_rfl
theorem aggT_33 : VM.aggT Try.prog 33 = some true := by kernel_rfl
theorem zeroT_33 : VM.zeroT Try.prog 33 = some [.list true 6 [], .int .i64 0, .list true 2 [], .bool false] := by kernel_rfl
theorem fieldT_33_0 : VM.fieldT Try.prog 33 0 = some (0, 31) := by kernel_rfl
theorem fieldT_33_1 : VM.fieldT Try.prog 33 1 = some (1, 3) := by kernel_rfl
theorem fieldT_33_2 : VM.fieldT Try.prog 33 2 = some (2, 32) := by kernel_rfl
theorem fieldT_33_3 : VM.fieldT Try.prog 33 3 = some (3, 4) := by kernel_rfl
theorem placesT_33 : VM.placesT Try.prog 33 = some [(0, 1, 31), (1, 1, 3), (2, 1, 32), (3, 1, 4)] := by kernel_rfl
theorem cellsOf_34 : Program.cellsOf Try.prog 34 = 4 := by kernel_rfl
theorem bytesOf_34 : Program.bytesOf Try.prog 34 = 64 := by kernel_rfl
theorem elemT_34 : VM.elemT Try.prog 34 = none := by kernel_rfl
theorem strT_34 : VM.strT Try.prog 34 = false := by kernel_rfl
theorem boolT_34 : VM.boolT Try.prog 34 = false := by kernel_rfl
theorem intT_34 : VM.intT Try.prog 34 = none := by kernel_rfl
theorem hasT_34 : VM.hasT Try.prog 34 = true := by kernel_rfl
theorem aggT_34 : VM.aggT Try.prog 34 = some true := by kernel_rfl
theorem zeroT_34 : VM.zeroT Try.prog 34 = some [.list true 6 [], .int .i64 0, .list true 2 [], .bool false] := by kernel_rfl
theorem fieldT_34_0 : VM.fieldT Try.prog 34 0 = some (0, 31) := by kernel_rfl
theorem fieldT_34_1 : VM.fieldT Try.prog 34 1 = some (1, 3) := by kernel_rfl
theorem fieldT_34_2 : VM.fieldT Try.prog 34 2 = some (2, 32) := by kernel_rfl
theorem fieldT_34_3 : VM.fieldT Try.prog 34 3 = some (3, 4) := by kernel_rfl
theorem placesT_34 : VM.placesT Try.prog 34 = some [(0, 1, 31), (1, 1, 3), (2, 1, 32), (3, 1, 4)] := by kernel_rfl
theorem cellsOf_35 : Program.cellsOf Try.prog 35 = 1 := by kernel_rfl
theorem bytesOf_35 : Program.bytesOf Try.prog 35 = 24 := by kernel_rfl
theorem elemT_35 : VM.elemT Try.prog 35 = some 55 := by kernel_rfl
theorem strT_35 : VM.strT Try.prog 35 = false := by kernel_rfl
theorem boolT_35 : VM.boolT Try.prog 35 = false := by kernel_rfl
theorem intT_35 : VM.intT Try.prog 35 = none := by kernel_rfl
theorem hasT_35 : VM.hasT Try.prog 35 = true := by kernel_rfl
theorem aggT_35 : VM.aggT Try.prog 35 = some false := by kernel_rfl
theorem zeroT_35 : VM.zeroT Try.prog 35 = some [.list true 4 []] := by kernel_rfl
theorem cellsOf_36 : Program.cellsOf Try.prog 36 = 2 := by kernel_rfl
theorem bytesOf_36 : Program.bytesOf Try.prog 36 = 48 := by kernel_rfl
theorem elemT_36 : VM.elemT Try.prog 36 = none := by kernel_rfl
theorem strT_36 : VM.strT Try.prog 36 = false := by kernel_rfl
theorem boolT_36 : VM.boolT Try.prog 36 = false := by kernel_rfl
theorem intT_36 : VM.intT Try.prog 36 = none := by kernel_rfl
theorem hasT_36 : VM.hasT Try.prog 36 = true := by kernel_rfl
theorem aggT_36 : VM.aggT Try.prog 36 = some true := by kernel_rfl
theorem zeroT_36 : VM.zeroT Try.prog 36 = some [.list true 4 [], .list true 2 []] := by kernel_rfl
theorem fieldT_36_0 : VM.fieldT Try.prog 36 0 = some (0, 35) := by kernel_rfl
theorem fieldT_36_1 : VM.fieldT Try.prog 36 1 = some (1, 32) := by kernel_rfl
theorem placesT_36 : VM.placesT Try.prog 36 = some [(0, 1, 35), (1, 1, 32)] := by kernel_rfl
theorem cellsOf_37 : Program.cellsOf Try.prog 37 = 2 := by kernel_rfl
theorem bytesOf_37 : Program.bytesOf Try.prog 37 = 48 := by kernel_rfl
theorem elemT_37 : VM.elemT Try.prog 37 = none := by kernel_rfl
theorem strT_37 : VM.strT Try.prog 37 = false := by kernel_rfl
theorem boolT_37 : VM.boolT Try.prog 37 = false := by kernel_rfl
theorem intT_37 : VM.intT Try.prog 37 = none := by kernel_rfl
theorem hasT_37 : VM.hasT Try.prog 37 = true := by kernel_rfl
theorem aggT_37 : VM.aggT Try.prog 37 = some true := by kernel_rfl
theorem zeroT_37 : VM.zeroT Try.prog 37 = some [.list true 4 [], .list true 2 []] := by kernel_rfl
theorem fieldT_37_0 : VM.fieldT Try.prog 37 0 = some (0, 35) := by kernel_rfl
theorem fieldT_37_1 : VM.fieldT Try.prog 37 1 = some (1, 32) := by kernel_rfl
theorem placesT_37 : VM.placesT Try.prog 37 = some [(0, 1, 35), (1, 1, 32)] := by kernel_rfl
theorem cellsOf_39 : Program.cellsOf Try.prog 39 = 1 := by kernel_rfl
theorem bytesOf_39 : Program.bytesOf Try.prog 39 = 8 := by kernel_rfl
theorem elemT_39 : VM.elemT Try.prog 39 = none := by kernel_rfl
theorem strT_39 : VM.strT Try.prog 39 = false := by kernel_rfl
theorem boolT_39 : VM.boolT Try.prog 39 = false := by kernel_rfl
theorem intT_39 : VM.intT Try.prog 39 = none := by kernel_rfl
theorem hasT_39 : VM.hasT Try.prog 39 = true := by kernel_rfl
theorem aggT_39 : VM.aggT Try.prog 39 = some false := by kernel_rfl
theorem cellsOf_40 : Program.cellsOf Try.prog 40 = 1 := by kernel_rfl
theorem bytesOf_40 : Program.bytesOf Try.prog 40 = 8 := by kernel_rfl
theorem elemT_40 : VM.elemT Try.prog 40 = none := by kernel_rfl
theorem strT_40 : VM.strT Try.prog 40 = false := by kernel_rfl
theorem boolT_40 : VM.boolT Try.prog 40 = false := by kernel_rfl
theorem intT_40 : VM.intT Try.prog 40 = none := by kernel_rfl
theorem hasT_40 : VM.hasT Try.prog 40 = true := by kernel_rfl
theorem aggT_40 : VM.aggT Try.prog 40 = some false := by kernel_rfl
theorem cellsOf_41 : Program.cellsOf Try.prog 41 = 1 := by kernel_rfl
theorem bytesOf_41 : Program.bytesOf Try.prog 41 = 8 := by kernel_rfl
theorem elemT_41 : VM.elemT Try.prog 41 = none := by kernel_rfl
theorem strT_41 : VM.strT Try.prog 41 = false := by kernel_rfl
theorem boolT_41 : VM.boolT Try.prog 41 = false := by kernel_rfl
theorem intT_41 : VM.intT Try.prog 41 = none := by kernel_rfl
theorem hasT_41 : VM.hasT Try.prog 41 = true := by kernel_rfl
theorem aggT_41 : VM.aggT Try.prog 41 = some false := by kernel_rfl
theorem cellsOf_42 : Program.cellsOf Try.prog 42 = 1 := by kernel_rfl
theorem bytesOf_42 : Program.bytesOf Try.prog 42 = 8 := by kernel_rfl
theorem elemT_42 : VM.elemT Try.prog 42 = none := by kernel_rfl
theorem strT_42 : VM.strT Try.prog 42 = false := by kernel_rfl
theorem boolT_42 : VM.boolT Try.prog 42 = false := by kernel_rfl
theorem intT_42 : VM.intT Try.prog 42 = none := by kernel_rfl
theorem hasT_42 : VM.hasT Try.prog 42 = true := by kernel_rfl
theorem aggT_42 : VM.aggT Try.prog 42 = some false := by kernel_rfl
theorem cellsOf_43 : Program.cellsOf Try.prog 43 = 1 := by kernel_rfl
theorem bytesOf_43 : Program.bytesOf Try.prog 43 = 8 := by kernel_rfl
theorem elemT_43 : VM.elemT Try.prog 43 = none := by kernel_rfl
theorem strT_43 : VM.strT Try.prog 43 = false := by kernel_rfl
theorem boolT_43 : VM.boolT Try.prog 43 = false := by kernel_rfl
theorem intT_43 : VM.intT Try.prog 43 = none := by kernel_rfl
theorem hasT_43 : VM.hasT Try.prog 43 = true := by kernel_rfl
theorem aggT_43 : VM.aggT Try.prog 43 = some false := by kernel_rfl
theorem cellsOf_44 : Program.cellsOf Try.prog 44 = 1 := by kernel_rfl
theorem bytesOf_44 : Program.bytesOf Try.prog 44 = 8 := by kernel_rfl
theorem elemT_44 : VM.elemT Try.prog 44 = none := by kernel_rfl
theorem strT_44 : VM.strT Try.prog 44 = false := by kernel_rfl
theorem boolT_44 : VM.boolT Try.prog 44 = false := by kernel_rfl
theorem intT_44 : VM.intT Try.prog 44 = none := by kernel_rfl
theorem hasT_44 : VM.hasT Try.prog 44 = true := by kernel_rfl
theorem aggT_44 : VM.aggT Try.prog 44 = some false := by kernel_rfl
theorem cellsOf_45 : Program.cellsOf Try.prog 45 = 1 := by kernel_rfl
theorem bytesOf_45 : Program.bytesOf Try.prog 45 = 8 := by kernel_rfl
theorem elemT_45 : VM.elemT Try.prog 45 = none := by kernel_rfl
theorem strT_45 : VM.strT Try.prog 45 = false := by kernel_rfl
theorem boolT_45 : VM.boolT Try.prog 45 = false := by kernel_rfl
theorem intT_45 : VM.intT Try.prog 45 = none := by kernel_rfl
theorem hasT_45 : VM.hasT Try.prog 45 = true := by kernel_rfl
theorem aggT_45 : VM.aggT Try.prog 45 = some false := by kernel_rfl
theorem cellsOf_46 : Program.cellsOf Try.prog 46 = 1 := by kernel_rfl
theorem bytesOf_46 : Program.bytesOf Try.prog 46 = 8 := by kernel_rfl
theorem elemT_46 : VM.elemT Try.prog 46 = none := by kernel_rfl
theorem strT_46 : VM.strT Try.prog 46 = false := by kernel_rfl
theorem boolT_46 : VM.boolT Try.prog 46 = false := by kernel_rfl
theorem intT_46 : VM.intT Try.prog 46 = none := by kernel_rfl
theorem hasT_46 : VM.hasT Try.prog 46 = true := by kernel_rfl
theorem aggT_46 : VM.aggT Try.prog 46 = some false := by kernel_rfl
theorem cellsOf_47 : Program.cellsOf Try.prog 47 = 1 := by kernel_rfl
theorem bytesOf_47 : Program.bytesOf Try.prog 47 = 8 := by kernel_rfl
theorem elemT_47 : VM.elemT Try.prog 47 = none := by kernel_rfl
theorem strT_47 : VM.strT Try.prog 47 = false := by kernel_rfl
theorem boolT_47 : VM.boolT Try.prog 47 = false := by kernel_rfl
theorem intT_47 : VM.intT Try.prog 47 = none := by kernel_rfl
theorem hasT_47 : VM.hasT Try.prog 47 = true := by kernel_rfl
theorem aggT_47 : VM.aggT Try.prog 47 = some false := by kernel_rfl
theorem cellsOf_48 : Program.cellsOf Try.prog 48 = 1 := by kernel_rfl
theorem bytesOf_48 : Program.bytesOf Try.prog 48 = 8 := by kernel_rfl
theorem elemT_48 : VM.elemT Try.prog 48 = none := by kernel_rfl
theorem strT_48 : VM.strT Try.prog 48 = false := by kernel_rfl
theorem boolT_48 : VM.boolT Try.prog 48 = false := by kernel_rfl
theorem intT_48 : VM.intT Try.prog 48 = none := by kernel_rfl
theorem hasT_48 : VM.hasT Try.prog 48 = true := by kernel_rfl
theorem aggT_48 : VM.aggT Try.prog 48 = some false := by kernel_rfl
theorem cellsOf_49 : Program.cellsOf Try.prog 49 = 1 := by kernel_rfl
theorem bytesOf_49 : Program.bytesOf Try.prog 49 = 8 := by kernel_rfl
theorem elemT_49 : VM.elemT Try.prog 49 = none := by kernel_rfl
theorem strT_49 : VM.strT Try.prog 49 = false := by kernel_rfl
theorem boolT_49 : VM.boolT Try.prog 49 = false := by kernel_rfl
theorem intT_49 : VM.intT Try.prog 49 = none := by kernel_rfl
theorem hasT_49 : VM.hasT Try.prog 49 = true := by kernel_rfl
theorem aggT_49 : VM.aggT Try.prog 49 = some false := by kernel_rfl
theorem cellsOf_50 : Program.cellsOf Try.prog 50 = 1 := by kernel_rfl
theorem bytesOf_50 : Program.bytesOf Try.prog 50 = 8 := by kernel_rfl
theorem elemT_50 : VM.elemT Try.prog 50 = none := by kernel_rfl
theorem strT_50 : VM.strT Try.prog 50 = false := by kernel_rfl
theorem boolT_50 : VM.boolT Try.prog 50 = false := by kernel_rfl
theorem intT_50 : VM.intT Try.prog 50 = none := by kernel_rfl
theorem hasT_50 : VM.hasT Try.prog 50 = true := by kernel_rfl
theorem aggT_50 : VM.aggT Try.prog 50 = some false := by kernel_rfl
theorem cellsOf_51 : Program.cellsOf Try.prog 51 = 1 := by kernel_rfl
theorem bytesOf_51 : Program.bytesOf Try.prog 51 = 8 := by kernel_rfl
theorem elemT_51 : VM.elemT Try.prog 51 = none := by kernel_rfl
theorem strT_51 : VM.strT Try.prog 51 = false := by kernel_rfl
theorem boolT_51 : VM.boolT Try.prog 51 = false := by kernel_rfl
theorem intT_51 : VM.intT Try.prog 51 = none := by kernel_rfl
theorem hasT_51 : VM.hasT Try.prog 51 = true := by kernel_rfl
theorem aggT_51 : VM.aggT Try.prog 51 = some false := by kernel_rfl
theorem cellsOf_52 : Program.cellsOf Try.prog 52 = 1 := by kernel_rfl
theorem bytesOf_52 : Program.bytesOf Try.prog 52 = 8 := by kernel_rfl
theorem elemT_52 : VM.elemT Try.prog 52 = none := by kernel_rfl
theorem strT_52 : VM.strT Try.prog 52 = false := by kernel_rfl
theorem boolT_52 : VM.boolT Try.prog 52 = false := by kernel_rfl
theorem intT_52 : VM.intT Try.prog 52 = none := by kernel_rfl
theorem hasT_52 : VM.hasT Try.prog 52 = true := by kernel_rfl
theorem aggT_52 : VM.aggT Try.prog 52 = some false := by kernel_rfl
theorem cellsOf_53 : Program.cellsOf Try.prog 53 = 1 := by kernel_rfl
theorem bytesOf_53 : Program.bytesOf Try.prog 53 = 8 := by kernel_rfl
theorem elemT_53 : VM.elemT Try.prog 53 = none := by kernel_rfl
theorem strT_53 : VM.strT Try.prog 53 = false := by kernel_rfl
theorem boolT_53 : VM.boolT Try.prog 53 = false := by kernel_rfl
theorem intT_53 : VM.intT Try.prog 53 = none := by kernel_rfl
theorem hasT_53 : VM.hasT Try.prog 53 = true := by kernel_rfl
theorem aggT_53 : VM.aggT Try.prog 53 = some false := by kernel_rfl
theorem cellsOf_55 : Program.cellsOf Try.prog 55 = 4 := by kernel_rfl
theorem bytesOf_55 : Program.bytesOf Try.prog 55 = 56 := by kernel_rfl
theorem elemT_55 : VM.elemT Try.prog 55 = none := by kernel_rfl
theorem strT_55 : VM.strT Try.prog 55 = false := by kernel_rfl
theorem boolT_55 : VM.boolT Try.prog 55 = false := by kernel_rfl
theorem intT_55 : VM.intT Try.prog 55 = none := by kernel_rfl
theorem hasT_55 : VM.hasT Try.prog 55 = true := by kernel_rfl
theorem aggT_55 : VM.aggT Try.prog 55 = some true := by kernel_rfl
theorem zeroT_55 : VM.zeroT Try.prog 55 = some [.int .i64 0, .str ⟨#[]⟩, .str ⟨#[]⟩, .str ⟨#[]⟩] := by kernel_rfl
theorem fieldT_55_0 : VM.fieldT Try.prog 55 0 = some (0, 3) := by kernel_rfl
theorem fieldT_55_1 : VM.fieldT Try.prog 55 1 = some (1, 9) := by kernel_rfl
theorem fieldT_55_2 : VM.fieldT Try.prog 55 2 = some (2, 9) := by kernel_rfl
theorem fieldT_55_3 : VM.fieldT Try.prog 55 3 = some (3, 9) := by kernel_rfl
theorem placesT_55 : VM.placesT Try.prog 55 = some [(0, 1, 3), (1, 1, 9), (2, 1, 9), (3, 1, 9)] := by kernel_rfl
theorem flatT_55 : VM.flatT Try.prog 55 = some [.int .i64, .string, .string, .string] := by kernel_rfl
theorem cellsOf_56 : Program.cellsOf Try.prog 56 = 6 := by kernel_rfl
theorem bytesOf_56 : Program.bytesOf Try.prog 56 = 72 := by kernel_rfl
theorem elemT_56 : VM.elemT Try.prog 56 = none := by kernel_rfl
theorem strT_56 : VM.strT Try.prog 56 = false := by kernel_rfl
theorem boolT_56 : VM.boolT Try.prog 56 = false := by kernel_rfl
theorem intT_56 : VM.intT Try.prog 56 = none := by kernel_rfl
theorem hasT_56 : VM.hasT Try.prog 56 = true := by kernel_rfl
theorem aggT_56 : VM.aggT Try.prog 56 = some true := by kernel_rfl
theorem zeroT_56 : VM.zeroT Try.prog 56 = some [.int .i64 0, .int .i64 0, .str ⟨#[]⟩, .str ⟨#[]⟩, .str ⟨#[]⟩, .int .i64 0] := by kernel_rfl
theorem fieldT_56_0 : VM.fieldT Try.prog 56 0 = some (0, 3) := by kernel_rfl
theorem fieldT_56_1 : VM.fieldT Try.prog 56 1 = some (1, 55) := by kernel_rfl
theorem fieldT_56_2 : VM.fieldT Try.prog 56 2 = some (5, 3) := by kernel_rfl
theorem placesT_56 : VM.placesT Try.prog 56 = some [(0, 1, 3), (1, 4, 55), (5, 1, 3)] := by kernel_rfl
theorem cellsOf_57 : Program.cellsOf Try.prog 57 = 6 := by kernel_rfl
theorem bytesOf_57 : Program.bytesOf Try.prog 57 = 72 := by kernel_rfl
theorem elemT_57 : VM.elemT Try.prog 57 = none := by kernel_rfl
theorem strT_57 : VM.strT Try.prog 57 = false := by kernel_rfl
theorem boolT_57 : VM.boolT Try.prog 57 = false := by kernel_rfl
theorem intT_57 : VM.intT Try.prog 57 = none := by kernel_rfl
theorem hasT_57 : VM.hasT Try.prog 57 = true := by kernel_rfl
theorem aggT_57 : VM.aggT Try.prog 57 = some true := by kernel_rfl
theorem zeroT_57 : VM.zeroT Try.prog 57 = some [.int .i64 0, .int .i64 0, .str ⟨#[]⟩, .str ⟨#[]⟩, .str ⟨#[]⟩, .int .i64 0] := by kernel_rfl
theorem fieldT_57_0 : VM.fieldT Try.prog 57 0 = some (0, 3) := by kernel_rfl
theorem fieldT_57_1 : VM.fieldT Try.prog 57 1 = some (1, 55) := by kernel_rfl
theorem fieldT_57_2 : VM.fieldT Try.prog 57 2 = some (5, 3) := by kernel_rfl
theorem placesT_57 : VM.placesT Try.prog 57 = some [(0, 1, 3), (1, 4, 55), (5, 1, 3)] := by kernel_rfl
theorem cellsOf_59 : Program.cellsOf Try.prog 59 = 1 := by kernel_rfl
theorem bytesOf_59 : Program.bytesOf Try.prog 59 = 8 := by kernel_rfl
theorem elemT_59 : VM.elemT Try.prog 59 = none := by kernel_rfl
theorem strT_59 : VM.strT Try.prog 59 = false := by kernel_rfl
theorem boolT_59 : VM.boolT Try.prog 59 = false := by kernel_rfl
theorem intT_59 : VM.intT Try.prog 59 = none := by kernel_rfl
theorem hasT_59 : VM.hasT Try.prog 59 = true := by kernel_rfl
theorem aggT_59 : VM.aggT Try.prog 59 = some false := by kernel_rfl
theorem cellsOf_60 : Program.cellsOf Try.prog 60 = 1 := by kernel_rfl
theorem bytesOf_60 : Program.bytesOf Try.prog 60 = 8 := by kernel_rfl
theorem elemT_60 : VM.elemT Try.prog 60 = none := by kernel_rfl
theorem strT_60 : VM.strT Try.prog 60 = false := by kernel_rfl
theorem boolT_60 : VM.boolT Try.prog 60 = false := by kernel_rfl
theorem intT_60 : VM.intT Try.prog 60 = none := by kernel_rfl
theorem hasT_60 : VM.hasT Try.prog 60 = true := by kernel_rfl
theorem aggT_60 : VM.aggT Try.prog 60 = some false := by kernel_rfl
theorem cellsOf_62 : Program.cellsOf Try.prog 62 = 2 := by kernel_rfl
theorem bytesOf_62 : Program.bytesOf Try.prog 62 = 24 := by kernel_rfl
theorem elemT_62 : VM.elemT Try.prog 62 = none := by kernel_rfl
theorem strT_62 : VM.strT Try.prog 62 = false := by kernel_rfl
theorem boolT_62 : VM.boolT Try.prog 62 = false := by kernel_rfl
theorem intT_62 : VM.intT Try.prog 62 = none := by kernel_rfl
theorem hasT_62 : VM.hasT Try.prog 62 = true := by kernel_rfl
theorem aggT_62 : VM.aggT Try.prog 62 = some true := by kernel_rfl
theorem zeroT_62 : VM.zeroT Try.prog 62 = some [.int .i64 0, .str ⟨#[]⟩] := by kernel_rfl
theorem fieldT_62_0 : VM.fieldT Try.prog 62 0 = some (0, 3) := by kernel_rfl
theorem fieldT_62_1 : VM.fieldT Try.prog 62 1 = some (1, 9) := by kernel_rfl
theorem placesT_62 : VM.placesT Try.prog 62 = some [(0, 1, 3), (1, 1, 9)] := by kernel_rfl
theorem flatT_62 : VM.flatT Try.prog 62 = some [.int .i64, .string] := by kernel_rfl
theorem cellsOf_64 : Program.cellsOf Try.prog 64 = 1 := by kernel_rfl
theorem bytesOf_64 : Program.bytesOf Try.prog 64 = 8 := by kernel_rfl
theorem elemT_64 : VM.elemT Try.prog 64 = none := by kernel_rfl
theorem strT_64 : VM.strT Try.prog 64 = false := by kernel_rfl
theorem boolT_64 : VM.boolT Try.prog 64 = false := by kernel_rfl
theorem intT_64 : VM.intT Try.prog 64 = none := by kernel_rfl
theorem hasT_64 : VM.hasT Try.prog 64 = true := by kernel_rfl
theorem aggT_64 : VM.aggT Try.prog 64 = some false := by kernel_rfl
theorem cellsOf_65 : Program.cellsOf Try.prog 65 = 1 := by kernel_rfl
theorem bytesOf_65 : Program.bytesOf Try.prog 65 = 8 := by kernel_rfl
theorem elemT_65 : VM.elemT Try.prog 65 = none := by kernel_rfl
theorem strT_65 : VM.strT Try.prog 65 = false := by kernel_rfl
theorem boolT_65 : VM.boolT Try.prog 65 = false := by kernel_rfl
theorem intT_65 : VM.intT Try.prog 65 = none := by kernel_rfl
theorem hasT_65 : VM.hasT Try.prog 65 = true := by kernel_rfl
theorem aggT_65 : VM.aggT Try.prog 65 = some false := by kernel_rfl
theorem cellsOf_66 : Program.cellsOf Try.prog 66 = 1 := by kernel_rfl
theorem bytesOf_66 : Program.bytesOf Try.prog 66 = 8 := by kernel_rfl
theorem elemT_66 : VM.elemT Try.prog 66 = none := by kernel_rfl
theorem strT_66 : VM.strT Try.prog 66 = false := by kernel_rfl
theorem boolT_66 : VM.boolT Try.prog 66 = false := by kernel_rfl
theorem intT_66 : VM.intT Try.prog 66 = none := by kernel_rfl
theorem hasT_66 : VM.hasT Try.prog 66 = true := by kernel_rfl
theorem aggT_66 : VM.aggT Try.prog 66 = some false := by kernel_rfl
theorem cellsOf_67 : Program.cellsOf Try.prog 67 = 1 := by kernel_rfl
theorem bytesOf_67 : Program.bytesOf Try.prog 67 = 8 := by kernel_rfl
theorem elemT_67 : VM.elemT Try.prog 67 = none := by kernel_rfl
theorem strT_67 : VM.strT Try.prog 67 = false := by kernel_rfl
theorem boolT_67 : VM.boolT Try.prog 67 = false := by kernel_rfl
theorem intT_67 : VM.intT Try.prog 67 = none := by kernel_rfl
theorem hasT_67 : VM.hasT Try.prog 67 = true := by kernel_rfl
theorem aggT_67 : VM.aggT Try.prog 67 = some false := by kernel_rfl
theorem cellsOf_68 : Program.cellsOf Try.prog 68 = 1 := by kernel_rfl
theorem bytesOf_68 : Program.bytesOf Try.prog 68 = 8 := by kernel_rfl
theorem elemT_68 : VM.elemT Try.prog 68 = none := by kernel_rfl
theorem strT_68 : VM.strT Try.prog 68 = false := by kernel_rfl
theorem boolT_68 : VM.boolT Try.prog 68 = false := by kernel_rfl
theorem intT_68 : VM.intT Try.prog 68 = none := by kernel_rfl
theorem hasT_68 : VM.hasT Try.prog 68 = true := by kernel_rfl
theorem aggT_68 : VM.aggT Try.prog 68 = some false := by kernel_rfl
theorem cellsOf_69 : Program.cellsOf Try.prog 69 = 1 := by kernel_rfl
theorem bytesOf_69 : Program.bytesOf Try.prog 69 = 8 := by kernel_rfl
theorem elemT_69 : VM.elemT Try.prog 69 = none := by kernel_rfl
theorem strT_69 : VM.strT Try.prog 69 = false := by kernel_rfl
theorem boolT_69 : VM.boolT Try.prog 69 = false := by kernel_rfl
theorem intT_69 : VM.intT Try.prog 69 = none := by kernel_rfl
theorem hasT_69 : VM.hasT Try.prog 69 = true := by kernel_rfl
theorem aggT_69 : VM.aggT Try.prog 69 = some false := by kernel_rfl
theorem cellsOf_70 : Program.cellsOf Try.prog 70 = 1 := by kernel_rfl
theorem bytesOf_70 : Program.bytesOf Try.prog 70 = 8 := by kernel_rfl
theorem elemT_70 : VM.elemT Try.prog 70 = none := by kernel_rfl
theorem strT_70 : VM.strT Try.prog 70 = false := by kernel_rfl
theorem boolT_70 : VM.boolT Try.prog 70 = false := by kernel_rfl
theorem intT_70 : VM.intT Try.prog 70 = none := by kernel_rfl
theorem hasT_70 : VM.hasT Try.prog 70 = true := by kernel_rfl
theorem aggT_70 : VM.aggT Try.prog 70 = some false := by kernel_rfl
theorem cellsOf_71 : Program.cellsOf Try.prog 71 = 1 := by kernel_rfl
theorem bytesOf_71 : Program.bytesOf Try.prog 71 = 8 := by kernel_rfl
theorem elemT_71 : VM.elemT Try.prog 71 = none := by kernel_rfl
theorem strT_71 : VM.strT Try.prog 71 = false := by kernel_rfl
theorem boolT_71 : VM.boolT Try.prog 71 = false := by kernel_rfl
theorem intT_71 : VM.intT Try.prog 71 = none := by kernel_rfl
theorem hasT_71 : VM.hasT Try.prog 71 = true := by kernel_rfl
theorem aggT_71 : VM.aggT Try.prog 71 = some false := by kernel_rfl
theorem cellsOf_72 : Program.cellsOf Try.prog 72 = 1 := by kernel_rfl
theorem bytesOf_72 : Program.bytesOf Try.prog 72 = 8 := by kernel_rfl
theorem elemT_72 : VM.elemT Try.prog 72 = none := by kernel_rfl
theorem strT_72 : VM.strT Try.prog 72 = false := by kernel_rfl
theorem boolT_72 : VM.boolT Try.prog 72 = false := by kernel_rfl
theorem intT_72 : VM.intT Try.prog 72 = none := by kernel_rfl
theorem hasT_72 : VM.hasT Try.prog 72 = true := by kernel_rfl
theorem aggT_72 : VM.aggT Try.prog 72 = some false := by kernel_rfl
theorem cellsOf_73 : Program.cellsOf Try.prog 73 = 1 := by kernel_rfl
theorem bytesOf_73 : Program.bytesOf Try.prog 73 = 8 := by kernel_rfl
theorem elemT_73 : VM.elemT Try.prog 73 = none := by kernel_rfl
theorem strT_73 : VM.strT Try.prog 73 = false := by kernel_rfl
theorem boolT_73 : VM.boolT Try.prog 73 = false := by kernel_rfl
theorem intT_73 : VM.intT Try.prog 73 = none := by kernel_rfl
theorem hasT_73 : VM.hasT Try.prog 73 = true := by kernel_rfl
theorem aggT_73 : VM.aggT Try.prog 73 = some false := by kernel_rfl
theorem cellsOf_74 : Program.cellsOf Try.prog 74 = 1 := by kernel_rfl
theorem bytesOf_74 : Program.bytesOf Try.prog 74 = 8 := by kernel_rfl
theorem elemT_74 : VM.elemT Try.prog 74 = none := by kernel_rfl
theorem strT_74 : VM.strT Try.prog 74 = false := by kernel_rfl
theorem boolT_74 : VM.boolT Try.prog 74 = false := by kernel_rfl
theorem intT_74 : VM.intT Try.prog 74 = none := by kernel_rfl
theorem hasT_74 : VM.hasT Try.prog 74 = true := by kernel_rfl
theorem aggT_74 : VM.aggT Try.prog 74 = some false := by kernel_rfl
theorem cellsOf_75 : Program.cellsOf Try.prog 75 = 4 := by kernel_rfl
theorem bytesOf_75 : Program.bytesOf Try.prog 75 = 56 := by kernel_rfl
theorem elemT_75 : VM.elemT Try.prog 75 = none := by kernel_rfl
theorem strT_75 : VM.strT Try.prog 75 = false := by kernel_rfl
theorem boolT_75 : VM.boolT Try.prog 75 = false := by kernel_rfl
theorem intT_75 : VM.intT Try.prog 75 = none := by kernel_rfl
theorem hasT_75 : VM.hasT Try.prog 75 = true := by kernel_rfl
theorem aggT_75 : VM.aggT Try.prog 75 = some true := by kernel_rfl
theorem zeroT_75 : VM.zeroT Try.prog 75 = some [.int .i64 0, .str ⟨#[]⟩, .str ⟨#[]⟩, .str ⟨#[]⟩] := by kernel_rfl
theorem fieldT_75_0 : VM.fieldT Try.prog 75 0 = some (0, 3) := by kernel_rfl
theorem fieldT_75_1 : VM.fieldT Try.prog 75 1 = some (1, 9) := by kernel_rfl
theorem fieldT_75_2 : VM.fieldT Try.prog 75 2 = some (2, 9) := by kernel_rfl
theorem fieldT_75_3 : VM.fieldT Try.prog 75 3 = some (3, 9) := by kernel_rfl
theorem placesT_75 : VM.placesT Try.prog 75 = some [(0, 1, 3), (1, 1, 9), (2, 1, 9), (3, 1, 9)] := by kernel_rfl
theorem flatT_75 : VM.flatT Try.prog 75 = some [.int .i64, .string, .string, .string] := by kernel_rfl
theorem cellsOf_76 : Program.cellsOf Try.prog 76 = 6 := by kernel_rfl
theorem bytesOf_76 : Program.bytesOf Try.prog 76 = 72 := by kernel_rfl
theorem elemT_76 : VM.elemT Try.prog 76 = none := by kernel_rfl
theorem strT_76 : VM.strT Try.prog 76 = false := by kernel_rfl
theorem boolT_76 : VM.boolT Try.prog 76 = false := by kernel_rfl
theorem intT_76 : VM.intT Try.prog 76 = none := by kernel_rfl
theorem hasT_76 : VM.hasT Try.prog 76 = true := by kernel_rfl
theorem aggT_76 : VM.aggT Try.prog 76 = some true := by kernel_rfl
theorem zeroT_76 : VM.zeroT Try.prog 76 = some [.int .i64 0, .int .i64 0, .str ⟨#[]⟩, .str ⟨#[]⟩, .str ⟨#[]⟩, .int .i64 0] := by kernel_rfl
theorem fieldT_76_0 : VM.fieldT Try.prog 76 0 = some (0, 3) := by kernel_rfl
theorem fieldT_76_1 : VM.fieldT Try.prog 76 1 = some (1, 75) := by kernel_rfl
theorem fieldT_76_2 : VM.fieldT Try.prog 76 2 = some (5, 3) := by kernel_rfl
theorem placesT_76 : VM.placesT Try.prog 76 = some [(0, 1, 3), (1, 4, 75), (5, 1, 3)] := by kernel_rfl
theorem cellsOf_77 : Program.cellsOf Try.prog 77 = 6 := by kernel_rfl
theorem bytesOf_77 : Program.bytesOf Try.prog 77 = 72 := by kernel_rfl
theorem elemT_77 : VM.elemT Try.prog 77 = none := by kernel_rfl
theorem strT_77 : VM.strT Try.prog 77 = false := by kernel_rfl
theorem boolT_77 : VM.boolT Try.prog 77 = false := by kernel_rfl
theorem intT_77 : VM.intT Try.prog 77 = none := by kernel_rfl
theorem hasT_77 : VM.hasT Try.prog 77 = true := by kernel_rfl
theorem aggT_77 : VM.aggT Try.prog 77 = some true := by kernel_rfl
theorem zeroT_77 : VM.zeroT Try.prog 77 = some [.int .i64 0, .int .i64 0, .str ⟨#[]⟩, .str ⟨#[]⟩, .str ⟨#[]⟩, .int .i64 0] := by kernel_rfl
theorem fieldT_77_0 : VM.fieldT Try.prog 77 0 = some (0, 3) := by kernel_rfl
theorem fieldT_77_1 : VM.fieldT Try.prog 77 1 = some (1, 75) := by kernel_rfl
theorem fieldT_77_2 : VM.fieldT Try.prog 77 2 = some (5, 3) := by kernel_rfl
theorem placesT_77 : VM.placesT Try.prog 77 = some [(0, 1, 3), (1, 4, 75), (5, 1, 3)] := by kernel_rfl
theorem cellsOf_78 : Program.cellsOf Try.prog 78 = 1 := by kernel_rfl
theorem bytesOf_78 : Program.bytesOf Try.prog 78 = 8 := by kernel_rfl
theorem elemT_78 : VM.elemT Try.prog 78 = none := by kernel_rfl
theorem strT_78 : VM.strT Try.prog 78 = false := by kernel_rfl
theorem boolT_78 : VM.boolT Try.prog 78 = false := by kernel_rfl
theorem intT_78 : VM.intT Try.prog 78 = none := by kernel_rfl
theorem hasT_78 : VM.hasT Try.prog 78 = true := by kernel_rfl
theorem aggT_78 : VM.aggT Try.prog 78 = some false := by kernel_rfl
theorem cellsOf_79 : Program.cellsOf Try.prog 79 = 2 := by kernel_rfl
theorem bytesOf_79 : Program.bytesOf Try.prog 79 = 24 := by kernel_rfl
theorem elemT_79 : VM.elemT Try.prog 79 = none := by kernel_rfl
theorem strT_79 : VM.strT Try.prog 79 = false := by kernel_rfl
theorem boolT_79 : VM.boolT Try.prog 79 = false := by kernel_rfl
theorem intT_79 : VM.intT Try.prog 79 = none := by kernel_rfl
theorem hasT_79 : VM.hasT Try.prog 79 = true := by kernel_rfl
theorem aggT_79 : VM.aggT Try.prog 79 = some true := by kernel_rfl
theorem zeroT_79 : VM.zeroT Try.prog 79 = some [.int .i64 0, .str ⟨#[]⟩] := by kernel_rfl
theorem fieldT_79_0 : VM.fieldT Try.prog 79 0 = some (0, 3) := by kernel_rfl
theorem fieldT_79_1 : VM.fieldT Try.prog 79 1 = some (1, 9) := by kernel_rfl
theorem placesT_79 : VM.placesT Try.prog 79 = some [(0, 1, 3), (1, 1, 9)] := by kernel_rfl
theorem flatT_79 : VM.flatT Try.prog 79 = some [.int .i64, .string] := by kernel_rfl
theorem cellsOf_80 : Program.cellsOf Try.prog 80 = 1 := by kernel_rfl
theorem bytesOf_80 : Program.bytesOf Try.prog 80 = 8 := by kernel_rfl
theorem elemT_80 : VM.elemT Try.prog 80 = none := by kernel_rfl
theorem strT_80 : VM.strT Try.prog 80 = false := by kernel_rfl
theorem boolT_80 : VM.boolT Try.prog 80 = false := by kernel_rfl
theorem intT_80 : VM.intT Try.prog 80 = none := by kernel_rfl
theorem hasT_80 : VM.hasT Try.prog 80 = true := by kernel_rfl
theorem aggT_80 : VM.aggT Try.prog 80 = some false := by kernel_rfl
theorem cellsOf_81 : Program.cellsOf Try.prog 81 = 1 := by kernel_rfl
theorem bytesOf_81 : Program.bytesOf Try.prog 81 = 8 := by kernel_rfl
theorem elemT_81 : VM.elemT Try.prog 81 = none := by kernel_rfl
theorem strT_81 : VM.strT Try.prog 81 = false := by kernel_rfl
theorem boolT_81 : VM.boolT Try.prog 81 = false := by kernel_rfl
theorem intT_81 : VM.intT Try.prog 81 = none := by kernel_rfl
theorem hasT_81 : VM.hasT Try.prog 81 = true := by kernel_rfl
theorem aggT_81 : VM.aggT Try.prog 81 = some false := by kernel_rfl
theorem cellsOf_83 : Program.cellsOf Try.prog 83 = 1 := by kernel_rfl
theorem bytesOf_83 : Program.bytesOf Try.prog 83 = 8 := by kernel_rfl
theorem elemT_83 : VM.elemT Try.prog 83 = none := by kernel_rfl
theorem strT_83 : VM.strT Try.prog 83 = false := by kernel_rfl
theorem boolT_83 : VM.boolT Try.prog 83 = false := by kernel_rfl
theorem intT_83 : VM.intT Try.prog 83 = none := by kernel_rfl
theorem hasT_83 : VM.hasT Try.prog 83 = true := by kernel_rfl
theorem aggT_83 : VM.aggT Try.prog 83 = some false := by kernel_rfl
theorem cellsOf_84 : Program.cellsOf Try.prog 84 = 1 := by kernel_rfl
theorem bytesOf_84 : Program.bytesOf Try.prog 84 = 8 := by kernel_rfl
theorem elemT_84 : VM.elemT Try.prog 84 = none := by kernel_rfl
theorem strT_84 : VM.strT Try.prog 84 = false := by kernel_rfl
theorem boolT_84 : VM.boolT Try.prog 84 = false := by kernel_rfl
theorem intT_84 : VM.intT Try.prog 84 = none := by kernel_rfl
theorem hasT_84 : VM.hasT Try.prog 84 = true := by kernel_rfl
theorem aggT_84 : VM.aggT Try.prog 84 = some false := by kernel_rfl
theorem cellsOf_85 : Program.cellsOf Try.prog 85 = 1 := by kernel_rfl
theorem bytesOf_85 : Program.bytesOf Try.prog 85 = 8 := by kernel_rfl
theorem elemT_85 : VM.elemT Try.prog 85 = none := by kernel_rfl
theorem strT_85 : VM.strT Try.prog 85 = false := by kernel_rfl
theorem boolT_85 : VM.boolT Try.prog 85 = false := by kernel_rfl
theorem intT_85 : VM.intT Try.prog 85 = none := by kernel_rfl
theorem hasT_85 : VM.hasT Try.prog 85 = true := by kernel_rfl
theorem aggT_85 : VM.aggT Try.prog 85 = some false := by kernel_rfl
theorem cellsOf_86 : Program.cellsOf Try.prog 86 = 1 := by kernel_rfl
theorem bytesOf_86 : Program.bytesOf Try.prog 86 = 8 := by kernel_rfl
theorem elemT_86 : VM.elemT Try.prog 86 = none := by kernel_rfl
theorem strT_86 : VM.strT Try.prog 86 = false := by kernel_rfl
theorem boolT_86 : VM.boolT Try.prog 86 = false := by kernel_rfl
theorem intT_86 : VM.intT Try.prog 86 = none := by kernel_rfl
theorem hasT_86 : VM.hasT Try.prog 86 = true := by kernel_rfl
theorem aggT_86 : VM.aggT Try.prog 86 = some false := by kernel_rfl
theorem cellsOf_87 : Program.cellsOf Try.prog 87 = 1 := by kernel_rfl
theorem bytesOf_87 : Program.bytesOf Try.prog 87 = 8 := by kernel_rfl
theorem elemT_87 : VM.elemT Try.prog 87 = none := by kernel_rfl
theorem strT_87 : VM.strT Try.prog 87 = false := by kernel_rfl
theorem boolT_87 : VM.boolT Try.prog 87 = false := by kernel_rfl
theorem intT_87 : VM.intT Try.prog 87 = none := by kernel_rfl
theorem hasT_87 : VM.hasT Try.prog 87 = true := by kernel_rfl
theorem aggT_87 : VM.aggT Try.prog 87 = some false := by kernel_rfl
theorem cellsOf_88 : Program.cellsOf Try.prog 88 = 1 := by kernel_rfl
theorem bytesOf_88 : Program.bytesOf Try.prog 88 = 8 := by kernel_rfl
theorem elemT_88 : VM.elemT Try.prog 88 = none := by kernel_rfl
theorem strT_88 : VM.strT Try.prog 88 = false := by kernel_rfl
theorem boolT_88 : VM.boolT Try.prog 88 = false := by kernel_rfl
theorem intT_88 : VM.intT Try.prog 88 = none := by kernel_rfl
theorem hasT_88 : VM.hasT Try.prog 88 = true := by kernel_rfl
theorem aggT_88 : VM.aggT Try.prog 88 = some false := by kernel_rfl
theorem cellsOf_89 : Program.cellsOf Try.prog 89 = 1 := by kernel_rfl
theorem bytesOf_89 : Program.bytesOf Try.prog 89 = 8 := by kernel_rfl
theorem elemT_89 : VM.elemT Try.prog 89 = none := by kernel_rfl
theorem strT_89 : VM.strT Try.prog 89 = false := by kernel_rfl
theorem boolT_89 : VM.boolT Try.prog 89 = false := by kernel_rfl
theorem intT_89 : VM.intT Try.prog 89 = none := by kernel_rfl
theorem hasT_89 : VM.hasT Try.prog 89 = true := by kernel_rfl
theorem aggT_89 : VM.aggT Try.prog 89 = some false := by kernel_rfl
theorem cellsOf_90 : Program.cellsOf Try.prog 90 = 1 := by kernel_rfl
theorem bytesOf_90 : Program.bytesOf Try.prog 90 = 8 := by kernel_rfl
theorem elemT_90 : VM.elemT Try.prog 90 = none := by kernel_rfl
theorem strT_90 : VM.strT Try.prog 90 = false := by kernel_rfl
theorem boolT_90 : VM.boolT Try.prog 90 = false := by kernel_rfl
theorem intT_90 : VM.intT Try.prog 90 = none := by kernel_rfl
theorem hasT_90 : VM.hasT Try.prog 90 = true := by kernel_rfl
theorem aggT_90 : VM.aggT Try.prog 90 = some false := by kernel_rfl
theorem cellsOf_91 : Program.cellsOf Try.prog 91 = 1 := by kernel_rfl
theorem bytesOf_91 : Program.bytesOf Try.prog 91 = 8 := by kernel_rfl
theorem elemT_91 : VM.elemT Try.prog 91 = none := by kernel_rfl
theorem strT_91 : VM.strT Try.prog 91 = false := by kernel_rfl
theorem boolT_91 : VM.boolT Try.prog 91 = false := by kernel_rfl
theorem intT_91 : VM.intT Try.prog 91 = none := by kernel_rfl
theorem hasT_91 : VM.hasT Try.prog 91 = true := by kernel_rfl
theorem aggT_91 : VM.aggT Try.prog 91 = some false := by kernel_rfl
theorem cellsOf_93 : Program.cellsOf Try.prog 93 = 1 := by kernel_rfl
theorem bytesOf_93 : Program.bytesOf Try.prog 93 = 8 := by kernel_rfl
theorem elemT_93 : VM.elemT Try.prog 93 = none := by kernel_rfl
theorem strT_93 : VM.strT Try.prog 93 = false := by kernel_rfl
theorem boolT_93 : VM.boolT Try.prog 93 = false := by kernel_rfl
theorem intT_93 : VM.intT Try.prog 93 = none := by kernel_rfl
theorem hasT_93 : VM.hasT Try.prog 93 = true := by kernel_rfl
theorem aggT_93 : VM.aggT Try.prog 93 = some false := by kernel_rfl
theorem cellsOf_94 : Program.cellsOf Try.prog 94 = 1 := by kernel_rfl
theorem bytesOf_94 : Program.bytesOf Try.prog 94 = 8 := by kernel_rfl
theorem elemT_94 : VM.elemT Try.prog 94 = none := by kernel_rfl
theorem strT_94 : VM.strT Try.prog 94 = false := by kernel_rfl
theorem boolT_94 : VM.boolT Try.prog 94 = false := by kernel_rfl
theorem intT_94 : VM.intT Try.prog 94 = none := by kernel_rfl
theorem hasT_94 : VM.hasT Try.prog 94 = true := by kernel_rfl
theorem aggT_94 : VM.aggT Try.prog 94 = some false := by kernel_rfl
theorem cellsOf_95 : Program.cellsOf Try.prog 95 = 1 := by kernel_rfl
theorem bytesOf_95 : Program.bytesOf Try.prog 95 = 8 := by kernel_rfl
theorem elemT_95 : VM.elemT Try.prog 95 = none := by kernel_rfl
theorem strT_95 : VM.strT Try.prog 95 = false := by kernel_rfl
theorem boolT_95 : VM.boolT Try.prog 95 = false := by kernel_rfl
theorem intT_95 : VM.intT Try.prog 95 = none := by kernel_rfl
theorem hasT_95 : VM.hasT Try.prog 95 = true := by kernel_rfl
theorem aggT_95 : VM.aggT Try.prog 95 = some false := by kernel_rfl
theorem cellsOf_96 : Program.cellsOf Try.prog 96 = 1 := by kernel_rfl
theorem bytesOf_96 : Program.bytesOf Try.prog 96 = 24 := by kernel_rfl
theorem elemT_96 : VM.elemT Try.prog 96 = some 5 := by kernel_rfl
theorem strT_96 : VM.strT Try.prog 96 = false := by kernel_rfl
theorem boolT_96 : VM.boolT Try.prog 96 = false := by kernel_rfl
theorem intT_96 : VM.intT Try.prog 96 = none := by kernel_rfl
theorem hasT_96 : VM.hasT Try.prog 96 = true := by kernel_rfl
theorem aggT_96 : VM.aggT Try.prog 96 = some false := by kernel_rfl
theorem zeroT_96 : VM.zeroT Try.prog 96 = some [.list true 1 []] := by kernel_rfl
theorem cellsOf_97 : Program.cellsOf Try.prog 97 = 1 := by kernel_rfl
theorem bytesOf_97 : Program.bytesOf Try.prog 97 = 8 := by kernel_rfl
theorem elemT_97 : VM.elemT Try.prog 97 = none := by kernel_rfl
theorem strT_97 : VM.strT Try.prog 97 = false := by kernel_rfl
theorem boolT_97 : VM.boolT Try.prog 97 = false := by kernel_rfl
theorem intT_97 : VM.intT Try.prog 97 = none := by kernel_rfl
theorem hasT_97 : VM.hasT Try.prog 97 = true := by kernel_rfl
theorem aggT_97 : VM.aggT Try.prog 97 = some false := by kernel_rfl
attribute [go_sem] cellsOf_3 bytesOf_3 elemT_3 strT_3 boolT_3 intT_3 hasT_3 aggT_3 zeroT_3 cellsOf_4 bytesOf_4 elemT_4 strT_4 boolT_4 intT_4 hasT_4 aggT_4 zeroT_4 cellsOf_5 bytesOf_5 elemT_5 strT_5 boolT_5 intT_5 hasT_5 aggT_5 zeroT_5 cellsOf_9 bytesOf_9 elemT_9 strT_9 boolT_9 intT_9 hasT_9 aggT_9 zeroT_9 cellsOf_22 bytesOf_22 elemT_22 strT_22 boolT_22 intT_22 hasT_22 aggT_22 zeroT_22 cellsOf_23 bytesOf_23 elemT_23 strT_23 boolT_23 intT_23 hasT_23 aggT_23 zeroT_23 cellsOf_24 bytesOf_24 elemT_24 strT_24 boolT_24 intT_24 hasT_24 aggT_24 zeroT_24 fieldT_24_0 fieldT_24_1 fieldT_24_2 fieldT_24_3 placesT_24 cellsOf_25 bytesOf_25 elemT_25 strT_25 boolT_25 intT_25 hasT_25 aggT_25 zeroT_25 fieldT_25_0 fieldT_25_1 fieldT_25_2 fieldT_25_3 placesT_25 cellsOf_26 bytesOf_26 elemT_26 strT_26 boolT_26 intT_26 hasT_26 aggT_26 zeroT_26 cellsOf_27 bytesOf_27 elemT_27 strT_27 boolT_27 intT_27 hasT_27 aggT_27 zeroT_27 fieldT_27_0 fieldT_27_1 placesT_27 cellsOf_28 bytesOf_28 elemT_28 strT_28 boolT_28 intT_28 hasT_28 aggT_28 zeroT_28 fieldT_28_0 fieldT_28_1 placesT_28 cellsOf_29 bytesOf_29 elemT_29 strT_29 boolT_29 intT_29 hasT_29 aggT_29 cellsOf_30 bytesOf_30 elemT_30 strT_30 boolT_30 intT_30 hasT_30 aggT_30 cellsOf_31 bytesOf_31 elemT_31 strT_31 boolT_31 intT_31 hasT_31 aggT_31 zeroT_31 cellsOf_32 bytesOf_32 elemT_32 strT_32 boolT_32 intT_32 hasT_32 aggT_32 zeroT_32 cellsOf_33 bytesOf_33 elemT_33 strT_33 boolT_33 intT_33 hasT_33 aggT_33 zeroT_33 fieldT_33_0 fieldT_33_1 fieldT_33_2 fieldT_33_3 placesT_33 cellsOf_34 bytesOf_34 elemT_34 strT_34 boolT_34 intT_34 hasT_34 aggT_34 zeroT_34 fieldT_34_0 fieldT_34_1 fieldT_34_2 fieldT_34_3 placesT_34 cellsOf_35 bytesOf_35 elemT_35 strT_35 boolT_35 intT_35 hasT_35 aggT_35 zeroT_35 cellsOf_36 bytesOf_36 elemT_36 strT_36 boolT_36 intT_36 hasT_36 aggT_36 zeroT_36 fieldT_36_0 fieldT_36_1 placesT_36 cellsOf_37 bytesOf_37 elemT_37 strT_37 boolT_37 intT_37 hasT_37 aggT_37 zeroT_37 fieldT_37_0 fieldT_37_1 placesT_37 cellsOf_39 bytesOf_39 elemT_39 strT_39 boolT_39 intT_39 hasT_39 aggT_39 cellsOf_40 bytesOf_40 elemT_40 strT_40 boolT_40 intT_40 hasT_40 aggT_40 cellsOf_41 bytesOf_41 elemT_41 strT_41 boolT_41 intT_41 hasT_41 aggT_41 cellsOf_42 bytesOf_42 elemT_42 strT_42 boolT_42 intT_42 hasT_42 aggT_42 cellsOf_43 bytesOf_43 elemT_43 strT_43 boolT_43 intT_43 hasT_43 aggT_43 cellsOf_44 bytesOf_44 elemT_44 strT_44 boolT_44 intT_44 hasT_44 aggT_44 cellsOf_45 bytesOf_45 elemT_45 strT_45 boolT_45 intT_45 hasT_45 aggT_45 cellsOf_46 bytesOf_46 elemT_46 strT_46 boolT_46 intT_46 hasT_46 aggT_46 cellsOf_47 bytesOf_47 elemT_47 strT_47 boolT_47 intT_47 hasT_47 aggT_47 cellsOf_48 bytesOf_48 elemT_48 strT_48 boolT_48 intT_48 hasT_48 aggT_48 cellsOf_49 bytesOf_49 elemT_49 strT_49 boolT_49 intT_49 hasT_49 aggT_49 cellsOf_50 bytesOf_50 elemT_50 strT_50 boolT_50 intT_50 hasT_50 aggT_50 cellsOf_51 bytesOf_51 elemT_51 strT_51 boolT_51 intT_51 hasT_51 aggT_51 cellsOf_52 bytesOf_52 elemT_52 strT_52 boolT_52 intT_52 hasT_52 aggT_52 cellsOf_53 bytesOf_53 elemT_53 strT_53 boolT_53 intT_53 hasT_53 aggT_53 cellsOf_55 bytesOf_55 elemT_55 strT_55 boolT_55 intT_55 hasT_55 aggT_55 zeroT_55 fieldT_55_0 fieldT_55_1 fieldT_55_2 fieldT_55_3 placesT_55 flatT_55 cellsOf_56 bytesOf_56 elemT_56 strT_56 boolT_56 intT_56 hasT_56 aggT_56 zeroT_56 fieldT_56_0 fieldT_56_1 fieldT_56_2 placesT_56 cellsOf_57 bytesOf_57 elemT_57 strT_57 boolT_57 intT_57 hasT_57 aggT_57 zeroT_57 fieldT_57_0 fieldT_57_1 fieldT_57_2 placesT_57 cellsOf_59 bytesOf_59 elemT_59 strT_59 boolT_59 intT_59 hasT_59 aggT_59 cellsOf_60 bytesOf_60 elemT_60 strT_60 boolT_60 intT_60 hasT_60 aggT_60 cellsOf_62 bytesOf_62 elemT_62 strT_62 boolT_62 intT_62 hasT_62 aggT_62 zeroT_62 fieldT_62_0 fieldT_62_1 placesT_62 flatT_62 cellsOf_64 bytesOf_64 elemT_64 strT_64 boolT_64 intT_64 hasT_64 aggT_64 cellsOf_65 bytesOf_65 elemT_65 strT_65 boolT_65 intT_65 hasT_65 aggT_65 cellsOf_66 bytesOf_66 elemT_66 strT_66 boolT_66 intT_66 hasT_66 aggT_66 cellsOf_67 bytesOf_67 elemT_67 strT_67 boolT_67 intT_67 hasT_67 aggT_67 cellsOf_68 bytesOf_68 elemT_68 strT_68 boolT_68 intT_68 hasT_68 aggT_68 cellsOf_69 bytesOf_69 elemT_69 strT_69 boolT_69 intT_69 hasT_69 aggT_69 cellsOf_70 bytesOf_70 elemT_70 strT_70 boolT_70 intT_70 hasT_70 aggT_70 cellsOf_71 bytesOf_71 elemT_71 strT_71 boolT_71 intT_71 hasT_71 aggT_71 cellsOf_72 bytesOf_72 elemT_72 strT_72 boolT_72 intT_72 hasT_72 aggT_72 cellsOf_73 bytesOf_73 elemT_73 strT_73 boolT_73 intT_73 hasT_73 aggT_73 cellsOf_74 bytesOf_74 elemT_74 strT_74 boolT_74 intT_74 hasT_74 aggT_74 cellsOf_75 bytesOf_75 elemT_75 strT_75 boolT_75 intT_75 hasT_75 aggT_75 zeroT_75 fieldT_75_0 fieldT_75_1 fieldT_75_2 fieldT_75_3 placesT_75 flatT_75 cellsOf_76 bytesOf_76 elemT_76 strT_76 boolT_76 intT_76 hasT_76 aggT_76 zeroT_76 fieldT_76_0 fieldT_76_1 fieldT_76_2 placesT_76 cellsOf_77 bytesOf_77 elemT_77 strT_77 boolT_77 intT_77 hasT_77 aggT_77 zeroT_77 fieldT_77_0 fieldT_77_1 fieldT_77_2 placesT_77 cellsOf_78 bytesOf_78 elemT_78 strT_78 boolT_78 intT_78 hasT_78 aggT_78 cellsOf_79 bytesOf_79 elemT_79 strT_79 boolT_79 intT_79 hasT_79 aggT_79 zeroT_79 fieldT_79_0 fieldT_79_1 placesT_79 flatT_79 cellsOf_80 bytesOf_80 elemT_80 strT_80 boolT_80 intT_80 hasT_80 aggT_80 cellsOf_81 bytesOf_81 elemT_81 strT_81 boolT_81 intT_81 hasT_81 aggT_81 cellsOf_83 bytesOf_83 elemT_83 strT_83 boolT_83 intT_83 hasT_83 aggT_83 cellsOf_84 bytesOf_84 elemT_84 strT_84 boolT_84 intT_84 hasT_84 aggT_84 cellsOf_85 bytesOf_85 elemT_85 strT_85 boolT_85 intT_85 hasT_85 aggT_85 cellsOf_86 bytesOf_86 elemT_86 strT_86 boolT_86 intT_86 hasT_86 aggT_86 cellsOf_87 bytesOf_87 elemT_87 strT_87 boolT_87 intT_87 hasT_87 aggT_87 cellsOf_88 bytesOf_88 elemT_88 strT_88 boolT_88 intT_88 hasT_88 aggT_88 cellsOf_89 bytesOf_89 elemT_89 strT_89 boolT_89 intT_89 hasT_89 aggT_89 cellsOf_90 bytesOf_90 elemT_90 strT_90 boolT_90 intT_90 hasT_90 aggT_90 cellsOf_91 bytesOf_91 elemT_91 strT_91 boolT_91 intT_91 hasT_91 aggT_91 cellsOf_93 bytesOf_93 elemT_93 strT_93 boolT_93 intT_93 hasT_93 aggT_93 cellsOf_94 bytesOf_94 elemT_94 strT_94 boolT_94 intT_94 hasT_94 aggT_94 cellsOf_95 bytesOf_95 elemT_95 strT_95 boolT_95 intT_95 hasT_95 aggT_95 cellsOf_96 bytesOf_96 elemT_96 strT_96 boolT_96 intT_96 hasT_96 aggT_96 zeroT_96 cellsOf_97 bytesOf_97 elemT_97 strT_97 boolT_97 intT_97 hasT_97 aggT_97
end Go.Proofs.Ytimfbpnnjdpcbaa
