/-
  No cell of these rows narrows 'for every input' (looked for: loops, veiled, ifaces, maps, wideKeys, modest, calm, conditions, laid).
  DERIVED. THE GIVEN ROWS OF THIS SEAT. 12 by the template 'for every input the law returns true; each argument reads behind the call as it read before'; 0 by the template 'total and deterministic' (their statements: YtcdgdiheoejjgaaTotals.lean).
  GIVEN WITH THE SEED: the statements are not yours to turn. If you find one false, say at which input.
  Laid BY PROGRAM, IN A SANDBOX (cutbox-rows.mjs): the forced cells as the released guide's own fill.sh prints them over the translation c514dd8d2695fb6f… (all of the seat's roots in one cut). By AI agents, Wed Nov 11 2026. No macro, syntax, notation, axiom, sorry.
-/
import Derived.Test.YtcdgdiheoejjgaaChecked
import GoSem.Claim
import GoSem.ClaimJoined
import GoSem.ClaimMapViews
import Derived.JoinedTies
import Derived.KernelRfl
namespace Go.Proofs.Ytcdgdiheoejjgaa
/- THE CELL 'sum', in the pinned program and in every row, IS THE sha256 OF THE DUMP (.gsa) THAT YtcdgdiheoejjgaaProg.lean LOADS. Nothing in Lean hashes anything: it is a label: what it is worth is what the hold of that sum in a sandbox is worth. -/
noncomputable def Try.pinned : Pinned := { name := "ytcdgdiheoejjgaa", sum := "c514dd8d2695fb6f978cd12d00c5ca6e8c127e49f3db8881f4549c44cb2c0f59", checked := Try.checked }
namespace Rows
def none {H : Type} : Left H := { results := [], args := [] }

/-- 'laws.FnExactCodeText': WHATEVER THE INPUT: true; the input reads as it did. -/
def fnExactCodeTextSpec : ChangeSpec := { name := "fnExactCodeText", fn := fun _ => fun
  | [d] => { results := [.lit (.bool true)], args := [d] }
  | _ => none }
def fnExactCodeTextRow : OpenClaim := { program := "ytcdgdiheoejjgaa", sum := "c514dd8d2695fb6f978cd12d00c5ca6e8c127e49f3db8881f4549c44cb2c0f59", func := "loop.example/g00246/laws.FnExactCodeText", spec := "fnExactCodeText", apart := false }
def FnExactCodeTextSaid : Prop := fnExactCodeTextRow.holds Try.pinned (OpenSpec.ofChange fnExactCodeTextSpec)

/-- ITS FALSE NEIGHBOUR: 'it returns false'. Refute it at one input. -/
def fnExactCodeTextWrong : ChangeSpec := { name := "fnExactCodeText", fn := fun _ => fun
  | [d] => { results := [.lit (.bool false)], args := [d] }
  | _ => none }
def FnExactCodeTextWrongFalsely : Prop := fnExactCodeTextRow.holds Try.pinned (OpenSpec.ofChange fnExactCodeTextWrong)

/-- 'laws.FnExactFind': WHATEVER THE INPUT: true; the input reads as it did. -/
def fnExactFindSpec : ChangeSpec := { name := "fnExactFind", fn := fun _ => fun
  | [d1, d2] => { results := [.lit (.bool true)], args := [d1, d2] }
  | _ => none }
def fnExactFindRow : OpenClaim := { program := "ytcdgdiheoejjgaa", sum := "c514dd8d2695fb6f978cd12d00c5ca6e8c127e49f3db8881f4549c44cb2c0f59", func := "loop.example/g00246/laws.FnExactFind", spec := "fnExactFind", unfollowed := true, recurses := true, apart := false }
def FnExactFindSaid : Prop := fnExactFindRow.holds Try.pinned (OpenSpec.ofChange fnExactFindSpec)

/-- ITS FALSE NEIGHBOUR: 'it returns false'. Refute it at one input. -/
def fnExactFindWrong : ChangeSpec := { name := "fnExactFind", fn := fun _ => fun
  | [d1, d2] => { results := [.lit (.bool false)], args := [d1, d2] }
  | _ => none }
def FnExactFindWrongFalsely : Prop := fnExactFindRow.holds Try.pinned (OpenSpec.ofChange fnExactFindWrong)

/-- 'laws.FnExactItemsText': WHATEVER THE INPUT: true; the input reads as it did. -/
def fnExactItemsTextSpec : ChangeSpec := { name := "fnExactItemsText", fn := fun _ => fun
  | [d] => { results := [.lit (.bool true)], args := [d] }
  | _ => none }
def fnExactItemsTextRow : OpenClaim := { program := "ytcdgdiheoejjgaa", sum := "c514dd8d2695fb6f978cd12d00c5ca6e8c127e49f3db8881f4549c44cb2c0f59", func := "loop.example/g00246/laws.FnExactItemsText", spec := "fnExactItemsText", apart := false }
def FnExactItemsTextSaid : Prop := fnExactItemsTextRow.holds Try.pinned (OpenSpec.ofChange fnExactItemsTextSpec)

/-- ITS FALSE NEIGHBOUR: 'it returns false'. Refute it at one input. -/
def fnExactItemsTextWrong : ChangeSpec := { name := "fnExactItemsText", fn := fun _ => fun
  | [d] => { results := [.lit (.bool false)], args := [d] }
  | _ => none }
def FnExactItemsTextWrongFalsely : Prop := fnExactItemsTextRow.holds Try.pinned (OpenSpec.ofChange fnExactItemsTextWrong)

/-- 'laws.FnExactSameItems': WHATEVER THE INPUT: true; the input reads as it did. -/
def fnExactSameItemsSpec : ChangeSpec := { name := "fnExactSameItems", fn := fun _ => fun
  | [d1, d2] => { results := [.lit (.bool true)], args := [d1, d2] }
  | _ => none }
def fnExactSameItemsRow : OpenClaim := { program := "ytcdgdiheoejjgaa", sum := "c514dd8d2695fb6f978cd12d00c5ca6e8c127e49f3db8881f4549c44cb2c0f59", func := "loop.example/g00246/laws.FnExactSameItems", spec := "fnExactSameItems", unfollowed := true, recurses := true, apart := false }
def FnExactSameItemsSaid : Prop := fnExactSameItemsRow.holds Try.pinned (OpenSpec.ofChange fnExactSameItemsSpec)

/-- ITS FALSE NEIGHBOUR: 'it returns false'. Refute it at one input. -/
def fnExactSameItemsWrong : ChangeSpec := { name := "fnExactSameItems", fn := fun _ => fun
  | [d1, d2] => { results := [.lit (.bool false)], args := [d1, d2] }
  | _ => none }
def FnExactSameItemsWrongFalsely : Prop := fnExactSameItemsRow.holds Try.pinned (OpenSpec.ofChange fnExactSameItemsWrong)

/-- 'laws.FnExactCodeOk': WHATEVER THE INPUT: true; the input reads as it did. -/
def fnExactCodeOkSpec : ChangeSpec := { name := "fnExactCodeOk", fn := fun _ => fun
  | [d] => { results := [.lit (.bool true)], args := [d] }
  | _ => none }
def fnExactCodeOkRow : OpenClaim := { program := "ytcdgdiheoejjgaa", sum := "c514dd8d2695fb6f978cd12d00c5ca6e8c127e49f3db8881f4549c44cb2c0f59", func := "loop.example/g00246/laws.FnExactCodeOk", spec := "fnExactCodeOk", unfollowed := true, recurses := true, apart := false }
def FnExactCodeOkSaid : Prop := fnExactCodeOkRow.holds Try.pinned (OpenSpec.ofChange fnExactCodeOkSpec)

/-- ITS FALSE NEIGHBOUR: 'it returns false'. Refute it at one input. -/
def fnExactCodeOkWrong : ChangeSpec := { name := "fnExactCodeOk", fn := fun _ => fun
  | [d] => { results := [.lit (.bool false)], args := [d] }
  | _ => none }
def FnExactCodeOkWrongFalsely : Prop := fnExactCodeOkRow.holds Try.pinned (OpenSpec.ofChange fnExactCodeOkWrong)

/-- 'laws.FnExactDone': WHATEVER THE INPUT: true; the input reads as it did. -/
def fnExactDoneSpec : ChangeSpec := { name := "fnExactDone", fn := fun _ => fun
  | [d1, d2] => { results := [.lit (.bool true)], args := [d1, d2] }
  | _ => none }
def fnExactDoneRow : OpenClaim := { program := "ytcdgdiheoejjgaa", sum := "c514dd8d2695fb6f978cd12d00c5ca6e8c127e49f3db8881f4549c44cb2c0f59", func := "loop.example/g00246/laws.FnExactDone", spec := "fnExactDone", apart := false }
def FnExactDoneSaid : Prop := fnExactDoneRow.holds Try.pinned (OpenSpec.ofChange fnExactDoneSpec)

/-- ITS FALSE NEIGHBOUR: 'it returns false'. Refute it at one input. -/
def fnExactDoneWrong : ChangeSpec := { name := "fnExactDone", fn := fun _ => fun
  | [d1, d2] => { results := [.lit (.bool false)], args := [d1, d2] }
  | _ => none }
def FnExactDoneWrongFalsely : Prop := fnExactDoneRow.holds Try.pinned (OpenSpec.ofChange fnExactDoneWrong)

/-- 'laws.FnExactPortOk': WHATEVER THE INPUT: true; the input reads as it did. -/
def fnExactPortOkSpec : ChangeSpec := { name := "fnExactPortOk", fn := fun _ => fun
  | [d] => { results := [.lit (.bool true)], args := [d] }
  | _ => none }
def fnExactPortOkRow : OpenClaim := { program := "ytcdgdiheoejjgaa", sum := "c514dd8d2695fb6f978cd12d00c5ca6e8c127e49f3db8881f4549c44cb2c0f59", func := "loop.example/g00246/laws.FnExactPortOk", spec := "fnExactPortOk", apart := false }
def FnExactPortOkSaid : Prop := fnExactPortOkRow.holds Try.pinned (OpenSpec.ofChange fnExactPortOkSpec)

/-- ITS FALSE NEIGHBOUR: 'it returns false'. Refute it at one input. -/
def fnExactPortOkWrong : ChangeSpec := { name := "fnExactPortOk", fn := fun _ => fun
  | [d] => { results := [.lit (.bool false)], args := [d] }
  | _ => none }
def FnExactPortOkWrongFalsely : Prop := fnExactPortOkRow.holds Try.pinned (OpenSpec.ofChange fnExactPortOkWrong)

/-- 'laws.FnExactPartOk': WHATEVER THE INPUT: true; the input reads as it did. -/
def fnExactPartOkSpec : ChangeSpec := { name := "fnExactPartOk", fn := fun _ => fun
  | [d] => { results := [.lit (.bool true)], args := [d] }
  | _ => none }
def fnExactPartOkRow : OpenClaim := { program := "ytcdgdiheoejjgaa", sum := "c514dd8d2695fb6f978cd12d00c5ca6e8c127e49f3db8881f4549c44cb2c0f59", func := "loop.example/g00246/laws.FnExactPartOk", spec := "fnExactPartOk", unfollowed := true, recurses := true, apart := false }
def FnExactPartOkSaid : Prop := fnExactPartOkRow.holds Try.pinned (OpenSpec.ofChange fnExactPartOkSpec)

/-- ITS FALSE NEIGHBOUR: 'it returns false'. Refute it at one input. -/
def fnExactPartOkWrong : ChangeSpec := { name := "fnExactPartOk", fn := fun _ => fun
  | [d] => { results := [.lit (.bool false)], args := [d] }
  | _ => none }
def FnExactPartOkWrongFalsely : Prop := fnExactPartOkRow.holds Try.pinned (OpenSpec.ofChange fnExactPartOkWrong)

/-- 'laws.FnExactHear': WHATEVER THE INPUT: true; the input reads as it did. -/
def fnExactHearSpec : ChangeSpec := { name := "fnExactHear", fn := fun _ => fun
  | [d] => { results := [.lit (.bool true)], args := [d] }
  | _ => none }
def fnExactHearRow : OpenClaim := { program := "ytcdgdiheoejjgaa", sum := "c514dd8d2695fb6f978cd12d00c5ca6e8c127e49f3db8881f4549c44cb2c0f59", func := "loop.example/g00246/laws.FnExactHear", spec := "fnExactHear", apart := false }
def FnExactHearSaid : Prop := fnExactHearRow.holds Try.pinned (OpenSpec.ofChange fnExactHearSpec)

/-- ITS FALSE NEIGHBOUR: 'it returns false'. Refute it at one input. -/
def fnExactHearWrong : ChangeSpec := { name := "fnExactHear", fn := fun _ => fun
  | [d] => { results := [.lit (.bool false)], args := [d] }
  | _ => none }
def FnExactHearWrongFalsely : Prop := fnExactHearRow.holds Try.pinned (OpenSpec.ofChange fnExactHearWrong)

/-- 'laws.FnExactSend': WHATEVER THE INPUT: true; the input reads as it did. -/
def fnExactSendSpec : ChangeSpec := { name := "fnExactSend", fn := fun _ => fun
  | [d1, d2] => { results := [.lit (.bool true)], args := [d1, d2] }
  | _ => none }
def fnExactSendRow : OpenClaim := { program := "ytcdgdiheoejjgaa", sum := "c514dd8d2695fb6f978cd12d00c5ca6e8c127e49f3db8881f4549c44cb2c0f59", func := "loop.example/g00246/laws.FnExactSend", spec := "fnExactSend", apart := false }
def FnExactSendSaid : Prop := fnExactSendRow.holds Try.pinned (OpenSpec.ofChange fnExactSendSpec)

/-- ITS FALSE NEIGHBOUR: 'it returns false'. Refute it at one input. -/
def fnExactSendWrong : ChangeSpec := { name := "fnExactSend", fn := fun _ => fun
  | [d1, d2] => { results := [.lit (.bool false)], args := [d1, d2] }
  | _ => none }
def FnExactSendWrongFalsely : Prop := fnExactSendRow.holds Try.pinned (OpenSpec.ofChange fnExactSendWrong)

/-- 'laws.FnExactTake': WHATEVER THE INPUT: true; the input reads as it did. -/
def fnExactTakeSpec : ChangeSpec := { name := "fnExactTake", fn := fun _ => fun
  | [d] => { results := [.lit (.bool true)], args := [d] }
  | _ => none }
def fnExactTakeRow : OpenClaim := { program := "ytcdgdiheoejjgaa", sum := "c514dd8d2695fb6f978cd12d00c5ca6e8c127e49f3db8881f4549c44cb2c0f59", func := "loop.example/g00246/laws.FnExactTake", spec := "fnExactTake", apart := false }
def FnExactTakeSaid : Prop := fnExactTakeRow.holds Try.pinned (OpenSpec.ofChange fnExactTakeSpec)

/-- ITS FALSE NEIGHBOUR: 'it returns false'. Refute it at one input. -/
def fnExactTakeWrong : ChangeSpec := { name := "fnExactTake", fn := fun _ => fun
  | [d] => { results := [.lit (.bool false)], args := [d] }
  | _ => none }
def FnExactTakeWrongFalsely : Prop := fnExactTakeRow.holds Try.pinned (OpenSpec.ofChange fnExactTakeWrong)

/-- 'laws.FnExactTold': WHATEVER THE INPUT: true; the input reads as it did. -/
def fnExactToldSpec : ChangeSpec := { name := "fnExactTold", fn := fun _ => fun
  | [d1, d2] => { results := [.lit (.bool true)], args := [d1, d2] }
  | _ => none }
def fnExactToldRow : OpenClaim := { program := "ytcdgdiheoejjgaa", sum := "c514dd8d2695fb6f978cd12d00c5ca6e8c127e49f3db8881f4549c44cb2c0f59", func := "loop.example/g00246/laws.FnExactTold", spec := "fnExactTold", apart := false }
def FnExactToldSaid : Prop := fnExactToldRow.holds Try.pinned (OpenSpec.ofChange fnExactToldSpec)

/-- ITS FALSE NEIGHBOUR: 'it returns false'. Refute it at one input. -/
def fnExactToldWrong : ChangeSpec := { name := "fnExactTold", fn := fun _ => fun
  | [d1, d2] => { results := [.lit (.bool false)], args := [d1, d2] }
  | _ => none }
def FnExactToldWrongFalsely : Prop := fnExactToldRow.holds Try.pinned (OpenSpec.ofChange fnExactToldWrong)

/- THE SECOND FORM. 'bulk': how many values and letters a reading holds, each counted each time it is reached (what is shared counts as often as it is met; a slice's spare places count too). A statement '..UptoSaid' is the law's where the arguments, and the package variables that the reading takes, are together of bulk at most 1048576: NARROWER than '..Said'. Prove '..Said' where nothing that the law and all that it calls make is longer than what came in: it says more and counts as full. Else prove '..UptoSaid'. A law counts once. -/
mutual
def uptoBulk {H : Type} : DataW H → Nat
  | .lit (.string bytes) => bytes.length + 1
  | .lit _ => 1
  | .nil => 1
  | .ptr d => uptoBulk d + 1
  | .slice elems spare => uptoBulkAll elems + uptoBulkAll spare + 1
  | .agg parts => uptoBulkAll parts + 1
  | .iface _ d => uptoBulk d + 1
  | .map entries => uptoBulkEntries entries + 1
  | .held _ => 1
def uptoBulkAll {H : Type} : List (DataW H) → Nat
  | [] => 0
  | d :: r => uptoBulk d + uptoBulkAll r
def uptoBulkEntries {H : Type} : List (Lit × DataW H) → Nat
  | [] => 0
  | x :: r => uptoBulkEntry x + uptoBulkEntries r
def uptoBulkEntry {H : Type} : Lit × DataW H → Nat
  | (.string bytes, d) => bytes.length + uptoBulk d + 1
  | (_, d) => uptoBulk d + 1
 end
def uptoSmall : (H : Type) → List (DataW H) → Bool := fun _ ds => decide (uptoBulkAll ds ≤ 1048576)
def OpenSpec.upto (s : _root_.Go.ChangeSpec) : _root_.Go.OpenSpec := { _root_.Go.OpenSpec.ofChange s with cond := some uptoSmall }

/-- 'laws.FnExactCodeText', WHERE WHAT IT READS IS OF BULK AT MOST 1048576: true; the input reads as it did. -/
def fnExactCodeTextUptoRow : OpenClaim := { program := "ytcdgdiheoejjgaa", sum := "c514dd8d2695fb6f978cd12d00c5ca6e8c127e49f3db8881f4549c44cb2c0f59", func := "loop.example/g00246/laws.FnExactCodeText", spec := "fnExactCodeText", apart := false, narrowed := true }
def FnExactCodeTextUptoSaid : Prop := fnExactCodeTextUptoRow.holds Try.pinned (OpenSpec.upto fnExactCodeTextSpec)

/-- 'laws.FnExactFind', WHERE WHAT IT READS IS OF BULK AT MOST 1048576: true; the input reads as it did. -/
def fnExactFindUptoRow : OpenClaim := { program := "ytcdgdiheoejjgaa", sum := "c514dd8d2695fb6f978cd12d00c5ca6e8c127e49f3db8881f4549c44cb2c0f59", func := "loop.example/g00246/laws.FnExactFind", spec := "fnExactFind", unfollowed := true, recurses := true, apart := false, narrowed := true }
def FnExactFindUptoSaid : Prop := fnExactFindUptoRow.holds Try.pinned (OpenSpec.upto fnExactFindSpec)

/-- 'laws.FnExactItemsText', WHERE WHAT IT READS IS OF BULK AT MOST 1048576: true; the input reads as it did. -/
def fnExactItemsTextUptoRow : OpenClaim := { program := "ytcdgdiheoejjgaa", sum := "c514dd8d2695fb6f978cd12d00c5ca6e8c127e49f3db8881f4549c44cb2c0f59", func := "loop.example/g00246/laws.FnExactItemsText", spec := "fnExactItemsText", apart := false, narrowed := true }
def FnExactItemsTextUptoSaid : Prop := fnExactItemsTextUptoRow.holds Try.pinned (OpenSpec.upto fnExactItemsTextSpec)

/-- 'laws.FnExactSameItems', WHERE WHAT IT READS IS OF BULK AT MOST 1048576: true; the input reads as it did. -/
def fnExactSameItemsUptoRow : OpenClaim := { program := "ytcdgdiheoejjgaa", sum := "c514dd8d2695fb6f978cd12d00c5ca6e8c127e49f3db8881f4549c44cb2c0f59", func := "loop.example/g00246/laws.FnExactSameItems", spec := "fnExactSameItems", unfollowed := true, recurses := true, apart := false, narrowed := true }
def FnExactSameItemsUptoSaid : Prop := fnExactSameItemsUptoRow.holds Try.pinned (OpenSpec.upto fnExactSameItemsSpec)

/-- 'laws.FnExactCodeOk', WHERE WHAT IT READS IS OF BULK AT MOST 1048576: true; the input reads as it did. -/
def fnExactCodeOkUptoRow : OpenClaim := { program := "ytcdgdiheoejjgaa", sum := "c514dd8d2695fb6f978cd12d00c5ca6e8c127e49f3db8881f4549c44cb2c0f59", func := "loop.example/g00246/laws.FnExactCodeOk", spec := "fnExactCodeOk", unfollowed := true, recurses := true, apart := false, narrowed := true }
def FnExactCodeOkUptoSaid : Prop := fnExactCodeOkUptoRow.holds Try.pinned (OpenSpec.upto fnExactCodeOkSpec)

/-- 'laws.FnExactDone', WHERE WHAT IT READS IS OF BULK AT MOST 1048576: true; the input reads as it did. -/
def fnExactDoneUptoRow : OpenClaim := { program := "ytcdgdiheoejjgaa", sum := "c514dd8d2695fb6f978cd12d00c5ca6e8c127e49f3db8881f4549c44cb2c0f59", func := "loop.example/g00246/laws.FnExactDone", spec := "fnExactDone", apart := false, narrowed := true }
def FnExactDoneUptoSaid : Prop := fnExactDoneUptoRow.holds Try.pinned (OpenSpec.upto fnExactDoneSpec)

/-- 'laws.FnExactPortOk', WHERE WHAT IT READS IS OF BULK AT MOST 1048576: true; the input reads as it did. -/
def fnExactPortOkUptoRow : OpenClaim := { program := "ytcdgdiheoejjgaa", sum := "c514dd8d2695fb6f978cd12d00c5ca6e8c127e49f3db8881f4549c44cb2c0f59", func := "loop.example/g00246/laws.FnExactPortOk", spec := "fnExactPortOk", apart := false, narrowed := true }
def FnExactPortOkUptoSaid : Prop := fnExactPortOkUptoRow.holds Try.pinned (OpenSpec.upto fnExactPortOkSpec)

/-- 'laws.FnExactPartOk', WHERE WHAT IT READS IS OF BULK AT MOST 1048576: true; the input reads as it did. -/
def fnExactPartOkUptoRow : OpenClaim := { program := "ytcdgdiheoejjgaa", sum := "c514dd8d2695fb6f978cd12d00c5ca6e8c127e49f3db8881f4549c44cb2c0f59", func := "loop.example/g00246/laws.FnExactPartOk", spec := "fnExactPartOk", unfollowed := true, recurses := true, apart := false, narrowed := true }
def FnExactPartOkUptoSaid : Prop := fnExactPartOkUptoRow.holds Try.pinned (OpenSpec.upto fnExactPartOkSpec)

/-- 'laws.FnExactHear', WHERE WHAT IT READS IS OF BULK AT MOST 1048576: true; the input reads as it did. -/
def fnExactHearUptoRow : OpenClaim := { program := "ytcdgdiheoejjgaa", sum := "c514dd8d2695fb6f978cd12d00c5ca6e8c127e49f3db8881f4549c44cb2c0f59", func := "loop.example/g00246/laws.FnExactHear", spec := "fnExactHear", apart := false, narrowed := true }
def FnExactHearUptoSaid : Prop := fnExactHearUptoRow.holds Try.pinned (OpenSpec.upto fnExactHearSpec)

/-- 'laws.FnExactSend', WHERE WHAT IT READS IS OF BULK AT MOST 1048576: true; the input reads as it did. -/
def fnExactSendUptoRow : OpenClaim := { program := "ytcdgdiheoejjgaa", sum := "c514dd8d2695fb6f978cd12d00c5ca6e8c127e49f3db8881f4549c44cb2c0f59", func := "loop.example/g00246/laws.FnExactSend", spec := "fnExactSend", apart := false, narrowed := true }
def FnExactSendUptoSaid : Prop := fnExactSendUptoRow.holds Try.pinned (OpenSpec.upto fnExactSendSpec)

/-- 'laws.FnExactTake', WHERE WHAT IT READS IS OF BULK AT MOST 1048576: true; the input reads as it did. -/
def fnExactTakeUptoRow : OpenClaim := { program := "ytcdgdiheoejjgaa", sum := "c514dd8d2695fb6f978cd12d00c5ca6e8c127e49f3db8881f4549c44cb2c0f59", func := "loop.example/g00246/laws.FnExactTake", spec := "fnExactTake", apart := false, narrowed := true }
def FnExactTakeUptoSaid : Prop := fnExactTakeUptoRow.holds Try.pinned (OpenSpec.upto fnExactTakeSpec)

/-- 'laws.FnExactTold', WHERE WHAT IT READS IS OF BULK AT MOST 1048576: true; the input reads as it did. -/
def fnExactToldUptoRow : OpenClaim := { program := "ytcdgdiheoejjgaa", sum := "c514dd8d2695fb6f978cd12d00c5ca6e8c127e49f3db8881f4549c44cb2c0f59", func := "loop.example/g00246/laws.FnExactTold", spec := "fnExactTold", apart := false, narrowed := true }
def FnExactToldUptoSaid : Prop := fnExactToldUptoRow.holds Try.pinned (OpenSpec.upto fnExactToldSpec)

end Rows
end Go.Proofs.Ytcdgdiheoejjgaa
