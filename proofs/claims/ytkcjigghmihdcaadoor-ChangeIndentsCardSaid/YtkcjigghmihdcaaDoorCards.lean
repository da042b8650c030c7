/-
  DERIVED. GIVEN WITH THE SEED: THE CARDS: each row of YtkcjigghmihdcaaDoorRows.lean that lists a variable, with what it lists TIED to the program's text (the seventh form; the later family's looks); each row that meets fmt, with fmt's text TOLD by the authors' own Lean function (tested against real Go, not proved from fmt's source: count such statements apart). THE CARD IS WHAT COUNTS. Prove the row's statement (the work); the ties are given (YtkcjigghmihdcaaDoorTie.lean); close each card by the builder's one call (the guide's Derived/Test/ToyasCard.lean, 'card_holds'). Laid BY PROGRAM, IN A SANDBOX (cutbox-door.mjs). By AI agents, Wed Nov 11 2026. No macro, syntax, notation, axiom, sorry.
-/
import Derived.Test.YtkcjigghmihdcaaDoorRows
import GoSem.ClaimSeven
namespace Go.Proofs.YtkcjigghmihdcaaDoor
namespace Rows

/-- THE TIED CARD OF 'smockinglaw16.ChangeIndents'. -/
def changeIndentsCard : Claim7 := { stood := { row := changeIndentsRow, standIns := [], harness := (true, "57de0b9fe4947fb07e969f9eba2cdef4aa3739dc1b9bd2ccaec73ac0fa2acd94"), looks := false }, kinds := [], alts := [], laidByText := true, laidKinds := [.data, .pinned], laidTests := true, laidLooks := .later }
def ChangeIndentsCardSaid : Prop := Claim7.holds Tryd.pinned (.plain (OpenSpec.ofChange changeIndentsSpec)) changeIndentsCard

/-- THE SECOND FORM's CARD OF 'smockinglaw16.ChangeIndents'. -/
def changeIndentsUptoCard : Claim7 := { stood := { row := changeIndentsUptoRow, standIns := [], harness := (true, "57de0b9fe4947fb07e969f9eba2cdef4aa3739dc1b9bd2ccaec73ac0fa2acd94"), looks := false }, kinds := [], alts := [], laidByText := true, laidKinds := [.data, .pinned], laidTests := true, laidLooks := .later }
def ChangeIndentsUptoCardSaid : Prop := Claim7.holds Tryd.pinned (.plain (OpenSpec.upto changeIndentsSpec)) changeIndentsUptoCard
end Rows
end Go.Proofs.YtkcjigghmihdcaaDoor
