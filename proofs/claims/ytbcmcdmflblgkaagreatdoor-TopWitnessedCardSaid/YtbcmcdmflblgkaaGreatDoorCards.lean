/-
  DERIVED. GIVEN WITH THE SEED: THE CARDS: each row of YtbcmcdmflblgkaaGreatDoorRows.lean that lists a variable, with what it lists TIED to the program's text (the seventh form; the later family's looks); each row that meets fmt, with fmt's text TOLD by the authors' own Lean function (tested against real Go, not proved from fmt's source: count such statements apart). THE CARD IS WHAT COUNTS. Prove the row's statement (the work); the ties are given (YtbcmcdmflblgkaaGreatDoorTie.lean); close each card by the builder's one call (the guide's Derived/Test/ToyasCard.lean, 'card_holds'). Laid BY PROGRAM, IN A SANDBOX (cutbox-door.mjs). By AI agents, Wed Nov 11 2026. No macro, syntax, notation, axiom, sorry.
-/
import Derived.Test.YtbcmcdmflblgkaaGreatDoorRows
import GoSem.ClaimSeven
namespace Go.Proofs.YtbcmcdmflblgkaaGreatDoor
namespace Rows

/-- THE TIED CARD OF 'casematetop.TopSpares'. -/
def topSparesCard : Claim7 := { stood := { row := topSparesRow, standIns := [], harness := (true, "458d52c3995487b5cf543ddd3b85d086a18e2039decaf11ec38743a9f0011bbf"), looks := true }, kinds := [], alts := [], laidByText := true, laidKinds := [.data, .pinned], laidTests := true, laidLooks := .later }
def TopSparesCardSaid : Prop := Claim7.holds Tryz.pinned (.plain (OpenSpec.ofChange topSparesSpec)) topSparesCard

/-- THE TIED CARD OF 'casematetop.TopSame'. -/
def topSameCard : Claim7 := { stood := { row := topSameRow, standIns := [], harness := (true, "458d52c3995487b5cf543ddd3b85d086a18e2039decaf11ec38743a9f0011bbf"), looks := true }, kinds := [], alts := [], laidByText := true, laidKinds := [.data, .pinned], laidTests := true, laidLooks := .later }
def TopSameCardSaid : Prop := Claim7.holds Tryz.pinned (.plain (OpenSpec.ofChange topSameSpec)) topSameCard

/-- THE TIED CARD OF 'casematetop.TopWitnessed'. -/
def topWitnessedCard : Claim7 := { stood := { row := topWitnessedRow, standIns := [], harness := (true, "458d52c3995487b5cf543ddd3b85d086a18e2039decaf11ec38743a9f0011bbf"), looks := true }, kinds := [], alts := [], laidByText := true, laidKinds := [.data, .pinned], laidTests := true, laidLooks := .later }
def TopWitnessedCardSaid : Prop := Claim7.holds Tryz.pinned (.plain (OpenSpec.ofChange topWitnessedSpec)) topWitnessedCard

/-- THE SECOND FORM's CARD OF 'casematetop.TopSpares'. -/
def topSparesUptoCard : Claim7 := { stood := { row := topSparesUptoRow, standIns := [], harness := (true, "458d52c3995487b5cf543ddd3b85d086a18e2039decaf11ec38743a9f0011bbf"), looks := true }, kinds := [], alts := [], laidByText := true, laidKinds := [.data, .pinned], laidTests := true, laidLooks := .later }
def TopSparesUptoCardSaid : Prop := Claim7.holds Tryz.pinned (.plain (OpenSpec.upto topSparesSpec)) topSparesUptoCard

/-- THE SECOND FORM's CARD OF 'casematetop.TopSame'. -/
def topSameUptoCard : Claim7 := { stood := { row := topSameUptoRow, standIns := [], harness := (true, "458d52c3995487b5cf543ddd3b85d086a18e2039decaf11ec38743a9f0011bbf"), looks := true }, kinds := [], alts := [], laidByText := true, laidKinds := [.data, .pinned], laidTests := true, laidLooks := .later }
def TopSameUptoCardSaid : Prop := Claim7.holds Tryz.pinned (.plain (OpenSpec.upto topSameSpec)) topSameUptoCard

/-- THE SECOND FORM's CARD OF 'casematetop.TopWitnessed'. -/
def topWitnessedUptoCard : Claim7 := { stood := { row := topWitnessedUptoRow, standIns := [], harness := (true, "458d52c3995487b5cf543ddd3b85d086a18e2039decaf11ec38743a9f0011bbf"), looks := true }, kinds := [], alts := [], laidByText := true, laidKinds := [.data, .pinned], laidTests := true, laidLooks := .later }
def TopWitnessedUptoCardSaid : Prop := Claim7.holds Tryz.pinned (.plain (OpenSpec.upto topWitnessedSpec)) topWitnessedUptoCard
end Rows
end Go.Proofs.YtbcmcdmflblgkaaGreatDoor
