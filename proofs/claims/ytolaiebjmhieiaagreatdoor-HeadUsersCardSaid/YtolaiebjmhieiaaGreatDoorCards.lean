/-
  DERIVED. GIVEN WITH THE SEED: THE CARDS: each row of YtolaiebjmhieiaaGreatDoorRows.lean that lists a variable, with what it lists TIED to the program's text (the seventh form; the later family's looks); each row that meets fmt, with fmt's text TOLD by the authors' own Lean function (tested against real Go, not proved from fmt's source: count such statements apart). THE CARD IS WHAT COUNTS. Prove the row's statement (the work); the ties are given (YtolaiebjmhieiaaGreatDoorTie.lean); close each card by the builder's one call (the guide's Derived/Test/ToyasCard.lean, 'card_holds'). Laid BY PROGRAM, IN A SANDBOX (cutbox-door.mjs). By AI agents, Wed Nov 11 2026. No macro, syntax, notation, axiom, sorry.
-/
import Derived.Test.YtolaiebjmhieiaaGreatDoorRows
import GoSem.ClaimSeven
namespace Go.Proofs.YtolaiebjmhieiaaGreatDoor
namespace Rows

/-- THE TIED CARD OF 'smockinglaw21.HeadUses'. -/
def headUsesCard : Claim7 := { stood := { row := headUsesRow, standIns := [], harness := (true, "29cd241963597705bbc2eeaad55a27c12d8cca8f78cd12c656f53c4c15ce92ba"), looks := false }, kinds := [], alts := [], laidByText := true, laidKinds := [.data, .listed, .data, .pinned], laidTests := true, laidLooks := .later }
def HeadUsesCardSaid : Prop := Claim7.holds Tryz.pinned (.plain (OpenSpec.ofChange headUsesSpec)) headUsesCard

/-- THE TIED CARD OF 'smockinglaw21.HeadUsers'. -/
def headUsersCard : Claim7 := { stood := { row := headUsersRow, standIns := [], harness := (true, "29cd241963597705bbc2eeaad55a27c12d8cca8f78cd12c656f53c4c15ce92ba"), looks := false }, kinds := [], alts := [], laidByText := true, laidKinds := [.data, .listed, .data, .pinned], laidTests := true, laidLooks := .later }
def HeadUsersCardSaid : Prop := Claim7.holds Tryz.pinned (.plain (OpenSpec.ofChange headUsersSpec)) headUsersCard

/-- THE TIED CARD OF 'smockinglaw21.HeadOnce'. -/
def headOnceCard : Claim7 := { stood := { row := headOnceRow, standIns := [], harness := (true, "29cd241963597705bbc2eeaad55a27c12d8cca8f78cd12c656f53c4c15ce92ba"), looks := false }, kinds := [], alts := [], laidByText := true, laidKinds := [.data, .listed, .data, .pinned], laidTests := true, laidLooks := .later }
def HeadOnceCardSaid : Prop := Claim7.holds Tryz.pinned (.plain (OpenSpec.ofChange headOnceSpec)) headOnceCard

/-- THE SECOND FORM's CARD OF 'smockinglaw21.HeadUses'. -/
def headUsesUptoCard : Claim7 := { stood := { row := headUsesUptoRow, standIns := [], harness := (true, "29cd241963597705bbc2eeaad55a27c12d8cca8f78cd12c656f53c4c15ce92ba"), looks := false }, kinds := [], alts := [], laidByText := true, laidKinds := [.data, .listed, .data, .pinned], laidTests := true, laidLooks := .later }
def HeadUsesUptoCardSaid : Prop := Claim7.holds Tryz.pinned (.plain (OpenSpec.upto headUsesSpec)) headUsesUptoCard

/-- THE SECOND FORM's CARD OF 'smockinglaw21.HeadUsers'. -/
def headUsersUptoCard : Claim7 := { stood := { row := headUsersUptoRow, standIns := [], harness := (true, "29cd241963597705bbc2eeaad55a27c12d8cca8f78cd12c656f53c4c15ce92ba"), looks := false }, kinds := [], alts := [], laidByText := true, laidKinds := [.data, .listed, .data, .pinned], laidTests := true, laidLooks := .later }
def HeadUsersUptoCardSaid : Prop := Claim7.holds Tryz.pinned (.plain (OpenSpec.upto headUsersSpec)) headUsersUptoCard

/-- THE SECOND FORM's CARD OF 'smockinglaw21.HeadOnce'. -/
def headOnceUptoCard : Claim7 := { stood := { row := headOnceUptoRow, standIns := [], harness := (true, "29cd241963597705bbc2eeaad55a27c12d8cca8f78cd12c656f53c4c15ce92ba"), looks := false }, kinds := [], alts := [], laidByText := true, laidKinds := [.data, .listed, .data, .pinned], laidTests := true, laidLooks := .later }
def HeadOnceUptoCardSaid : Prop := Claim7.holds Tryz.pinned (.plain (OpenSpec.upto headOnceSpec)) headOnceUptoCard
end Rows
end Go.Proofs.YtolaiebjmhieiaaGreatDoor
