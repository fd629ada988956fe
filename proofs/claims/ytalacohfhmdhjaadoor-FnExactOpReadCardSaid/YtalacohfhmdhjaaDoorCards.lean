/-
  DERIVED. GIVEN WITH THE SEED: THE CARDS: each row of YtalacohfhmdhjaaDoorRows.lean that lists a variable, with what it lists TIED to the program's text (the seventh form; the later family's looks); each row that meets fmt, with fmt's text TOLD by the authors' own Lean function (tested against real Go, not proved from fmt's source: count such statements apart). THE CARD IS WHAT COUNTS. Prove the row's statement (the work); the ties are given (YtalacohfhmdhjaaDoorTie.lean); close each card by the builder's one call (the guide's Derived/Test/ToyasCard.lean, 'card_holds'). Laid BY PROGRAM, IN A SANDBOX (cutbox-door.mjs). By AI agents, Wed Nov 11 2026. No macro, syntax, notation, axiom, sorry.
-/
import Derived.Test.YtalacohfhmdhjaaDoorRows
import GoSem.ClaimSeven
namespace Go.Proofs.YtalacohfhmdhjaaDoor
namespace Rows

/-- THE TIED CARD OF 'laws.FnExactPathOk'. -/
def fnExactPathOkCard : Claim7 := { stood := { row := fnExactPathOkRow, standIns := [], harness := (true, "da4c4519950ac0e584b43100c5e482cb50ce65a702d6aaacbdba1841436b158c"), looks := false }, kinds := [], alts := [], laidByText := true, laidKinds := [.data, .pinned], laidTests := true, laidLooks := .later }
def FnExactPathOkCardSaid : Prop := Claim7.holds Tryd.pinned (.plain (OpenSpec.ofChange fnExactPathOkSpec)) fnExactPathOkCard

/-- THE TIED CARD OF 'laws.FnExactUnder'. -/
def fnExactUnderCard : Claim7 := { stood := { row := fnExactUnderRow, standIns := [], harness := (true, "da4c4519950ac0e584b43100c5e482cb50ce65a702d6aaacbdba1841436b158c"), looks := false }, kinds := [], alts := [], laidByText := true, laidKinds := [.data, .pinned], laidTests := true, laidLooks := .later }
def FnExactUnderCardSaid : Prop := Claim7.holds Tryd.pinned (.plain (OpenSpec.ofChange fnExactUnderSpec)) fnExactUnderCard

/-- THE TIED CARD OF 'laws.FnExactSplit'. -/
def fnExactSplitCard : Claim7 := { stood := { row := fnExactSplitRow, standIns := [], harness := (true, "da4c4519950ac0e584b43100c5e482cb50ce65a702d6aaacbdba1841436b158c"), looks := false }, kinds := [], alts := [], laidByText := true, laidKinds := [.data, .pinned], laidTests := true, laidLooks := .later }
def FnExactSplitCardSaid : Prop := Claim7.holds Tryd.pinned (.plain (OpenSpec.ofChange fnExactSplitSpec)) fnExactSplitCard

/-- THE TIED CARD OF 'laws.FnExactSteps'. -/
def fnExactStepsCard : Claim7 := { stood := { row := fnExactStepsRow, standIns := [], harness := (true, "da4c4519950ac0e584b43100c5e482cb50ce65a702d6aaacbdba1841436b158c"), looks := false }, kinds := [], alts := [], laidByText := true, laidKinds := [.data, .pinned], laidTests := true, laidLooks := .later }
def FnExactStepsCardSaid : Prop := Claim7.holds Tryd.pinned (.plain (OpenSpec.ofChange fnExactStepsSpec)) fnExactStepsCard

/-- THE TIED CARD OF 'laws.FnExactOpRead'. -/
def fnExactOpReadCard : Claim7 := { stood := { row := fnExactOpReadRow, standIns := [], harness := (true, "da4c4519950ac0e584b43100c5e482cb50ce65a702d6aaacbdba1841436b158c"), looks := false }, kinds := [], alts := [], laidByText := true, laidKinds := [.data, .pinned], laidTests := true, laidLooks := .later }
def FnExactOpReadCardSaid : Prop := Claim7.holds Tryd.pinned (.plain (OpenSpec.ofChange fnExactOpReadSpec)) fnExactOpReadCard

/-- THE TIED CARD OF 'laws.FnExactItemsOk'. -/
def fnExactItemsOkCard : Claim7 := { stood := { row := fnExactItemsOkRow, standIns := [], harness := (true, "da4c4519950ac0e584b43100c5e482cb50ce65a702d6aaacbdba1841436b158c"), looks := false }, kinds := [], alts := [], laidByText := true, laidKinds := [.data, .pinned], laidTests := true, laidLooks := .later }
def FnExactItemsOkCardSaid : Prop := Claim7.holds Tryd.pinned (.plain (OpenSpec.ofChange fnExactItemsOkSpec)) fnExactItemsOkCard

/-- THE SECOND FORM's CARD OF 'laws.FnExactPathOk'. -/
def fnExactPathOkUptoCard : Claim7 := { stood := { row := fnExactPathOkUptoRow, standIns := [], harness := (true, "da4c4519950ac0e584b43100c5e482cb50ce65a702d6aaacbdba1841436b158c"), looks := false }, kinds := [], alts := [], laidByText := true, laidKinds := [.data, .pinned], laidTests := true, laidLooks := .later }
def FnExactPathOkUptoCardSaid : Prop := Claim7.holds Tryd.pinned (.plain (OpenSpec.upto fnExactPathOkSpec)) fnExactPathOkUptoCard

/-- THE SECOND FORM's CARD OF 'laws.FnExactUnder'. -/
def fnExactUnderUptoCard : Claim7 := { stood := { row := fnExactUnderUptoRow, standIns := [], harness := (true, "da4c4519950ac0e584b43100c5e482cb50ce65a702d6aaacbdba1841436b158c"), looks := false }, kinds := [], alts := [], laidByText := true, laidKinds := [.data, .pinned], laidTests := true, laidLooks := .later }
def FnExactUnderUptoCardSaid : Prop := Claim7.holds Tryd.pinned (.plain (OpenSpec.upto fnExactUnderSpec)) fnExactUnderUptoCard

/-- THE SECOND FORM's CARD OF 'laws.FnExactSplit'. -/
def fnExactSplitUptoCard : Claim7 := { stood := { row := fnExactSplitUptoRow, standIns := [], harness := (true, "da4c4519950ac0e584b43100c5e482cb50ce65a702d6aaacbdba1841436b158c"), looks := false }, kinds := [], alts := [], laidByText := true, laidKinds := [.data, .pinned], laidTests := true, laidLooks := .later }
def FnExactSplitUptoCardSaid : Prop := Claim7.holds Tryd.pinned (.plain (OpenSpec.upto fnExactSplitSpec)) fnExactSplitUptoCard

/-- THE SECOND FORM's CARD OF 'laws.FnExactSteps'. -/
def fnExactStepsUptoCard : Claim7 := { stood := { row := fnExactStepsUptoRow, standIns := [], harness := (true, "da4c4519950ac0e584b43100c5e482cb50ce65a702d6aaacbdba1841436b158c"), looks := false }, kinds := [], alts := [], laidByText := true, laidKinds := [.data, .pinned], laidTests := true, laidLooks := .later }
def FnExactStepsUptoCardSaid : Prop := Claim7.holds Tryd.pinned (.plain (OpenSpec.upto fnExactStepsSpec)) fnExactStepsUptoCard

/-- THE SECOND FORM's CARD OF 'laws.FnExactOpRead'. -/
def fnExactOpReadUptoCard : Claim7 := { stood := { row := fnExactOpReadUptoRow, standIns := [], harness := (true, "da4c4519950ac0e584b43100c5e482cb50ce65a702d6aaacbdba1841436b158c"), looks := false }, kinds := [], alts := [], laidByText := true, laidKinds := [.data, .pinned], laidTests := true, laidLooks := .later }
def FnExactOpReadUptoCardSaid : Prop := Claim7.holds Tryd.pinned (.plain (OpenSpec.upto fnExactOpReadSpec)) fnExactOpReadUptoCard

/-- THE SECOND FORM's CARD OF 'laws.FnExactItemsOk'. -/
def fnExactItemsOkUptoCard : Claim7 := { stood := { row := fnExactItemsOkUptoRow, standIns := [], harness := (true, "da4c4519950ac0e584b43100c5e482cb50ce65a702d6aaacbdba1841436b158c"), looks := false }, kinds := [], alts := [], laidByText := true, laidKinds := [.data, .pinned], laidTests := true, laidLooks := .later }
def FnExactItemsOkUptoCardSaid : Prop := Claim7.holds Tryd.pinned (.plain (OpenSpec.upto fnExactItemsOkSpec)) fnExactItemsOkUptoCard
end Rows
end Go.Proofs.YtalacohfhmdhjaaDoor
