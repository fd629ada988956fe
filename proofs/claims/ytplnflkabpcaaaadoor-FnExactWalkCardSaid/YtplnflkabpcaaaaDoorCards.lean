/-
  DERIVED. GIVEN WITH THE SEED: THE CARDS: each row of YtplnflkabpcaaaaDoorRows.lean that lists a variable, with what it lists TIED to the program's text (the seventh form; the later family's looks); each row that meets fmt, with fmt's text TOLD by the authors' own Lean function (tested against real Go, not proved from fmt's source: count such statements apart). THE CARD IS WHAT COUNTS. Prove the row's statement (the work); the ties are given (YtplnflkabpcaaaaDoorTie.lean); close each card by the builder's one call (the guide's Derived/Test/ToyasCard.lean, 'card_holds'). Laid BY PROGRAM, IN A SANDBOX (cutbox-door.mjs). By AI agents, Wed Nov 11 2026. No macro, syntax, notation, axiom, sorry.
-/
import Derived.Test.YtplnflkabpcaaaaDoorRows
import GoSem.ClaimSeven
namespace Go.Proofs.YtplnflkabpcaaaaDoor
namespace Rows

/-- THE TIED CARD OF 'laws.FnExactWalk'. -/
def fnExactWalkCard : Claim7 := { stood := { row := fnExactWalkRow, standIns := [], harness := (true, "645c58edf5e9be92e5f849f69c154409d41e0bf1743150dde286742d3d6f6060"), looks := false }, kinds := [], alts := [], laidByText := true, laidKinds := [.data, .pinned], laidTests := true, laidLooks := .later }
def FnExactWalkCardSaid : Prop := Claim7.holds Tryd.pinned (.plain (OpenSpec.ofChange fnExactWalkSpec)) fnExactWalkCard

/-- THE SECOND FORM's CARD OF 'laws.FnExactWalk'. -/
def fnExactWalkUptoCard : Claim7 := { stood := { row := fnExactWalkUptoRow, standIns := [], harness := (true, "645c58edf5e9be92e5f849f69c154409d41e0bf1743150dde286742d3d6f6060"), looks := false }, kinds := [], alts := [], laidByText := true, laidKinds := [.data, .pinned], laidTests := true, laidLooks := .later }
def FnExactWalkUptoCardSaid : Prop := Claim7.holds Tryd.pinned (.plain (OpenSpec.upto fnExactWalkSpec)) fnExactWalkUptoCard
end Rows
end Go.Proofs.YtplnflkabpcaaaaDoor
