/-
  DERIVED. GIVEN WITH THE SEED: THE CARDS: each row of YtnjmpjdampdmmaaGreatDoorRows.lean that lists a variable, with what it lists TIED to the program's text (the seventh form; the later family's looks); each row that meets fmt, with fmt's text TOLD by the authors' own Lean function (tested against real Go, not proved from fmt's source: count such statements apart). THE CARD IS WHAT COUNTS. Prove the row's statement (the work); the ties are given (YtnjmpjdampdmmaaGreatDoorTie.lean); close each card by the builder's one call (the guide's Derived/Test/ToyasCard.lean, 'card_holds'). Laid BY PROGRAM, IN A SANDBOX (cutbox-door.mjs). By AI agents, Wed Nov 11 2026. No macro, syntax, notation, axiom, sorry.
-/
import Derived.Test.YtnjmpjdampdmmaaGreatDoorRows
import GoSem.ClaimSeven
namespace Go.Proofs.YtnjmpjdampdmmaaGreatDoor
namespace Rows

/-- THE TIED CARD OF 'commodatumlaw04.PolyAdds'. -/
def polyAddsCard : Claim7 := { stood := { row := polyAddsRow, standIns := [], harness := (true, "1642f369fac490e0499efd55de15b2bfb7ebed3de6d6e09996a2d745619b6743"), looks := false }, kinds := [], alts := [], laidByText := true, laidKinds := [.data, .data, .data], laidTests := true, laidLooks := .later }
def PolyAddsCardSaid : Prop := Claim7.holds Tryz.pinned (.plain (OpenSpec.ofChange polyAddsSpec)) polyAddsCard

/-- THE TIED CARD OF 'commodatumlaw04.PolySubstitutes'. -/
def polySubstitutesCard : Claim7 := { stood := { row := polySubstitutesRow, standIns := [], harness := (true, "1642f369fac490e0499efd55de15b2bfb7ebed3de6d6e09996a2d745619b6743"), looks := false }, kinds := [], alts := [], laidByText := true, laidKinds := [.data, .data, .data], laidTests := true, laidLooks := .later }
def PolySubstitutesCardSaid : Prop := Claim7.holds Tryz.pinned (.plain (OpenSpec.ofChange polySubstitutesSpec)) polySubstitutesCard

/-- THE TIED CARD OF 'commodatumlaw04.PolyOwn'. -/
def polyOwnCard : Claim7 := { stood := { row := polyOwnRow, standIns := [], harness := (true, "1642f369fac490e0499efd55de15b2bfb7ebed3de6d6e09996a2d745619b6743"), looks := false }, kinds := [], alts := [], laidByText := true, laidKinds := [.data, .data, .data], laidTests := true, laidLooks := .later }
def PolyOwnCardSaid : Prop := Claim7.holds Tryz.pinned (.plain (OpenSpec.ofChange polyOwnSpec)) polyOwnCard

/-- THE SECOND FORM's CARD OF 'commodatumlaw04.PolyAdds'. -/
def polyAddsUptoCard : Claim7 := { stood := { row := polyAddsUptoRow, standIns := [], harness := (true, "1642f369fac490e0499efd55de15b2bfb7ebed3de6d6e09996a2d745619b6743"), looks := false }, kinds := [], alts := [], laidByText := true, laidKinds := [.data, .data, .data], laidTests := true, laidLooks := .later }
def PolyAddsUptoCardSaid : Prop := Claim7.holds Tryz.pinned (.plain (OpenSpec.upto polyAddsSpec)) polyAddsUptoCard

/-- THE SECOND FORM's CARD OF 'commodatumlaw04.PolySubstitutes'. -/
def polySubstitutesUptoCard : Claim7 := { stood := { row := polySubstitutesUptoRow, standIns := [], harness := (true, "1642f369fac490e0499efd55de15b2bfb7ebed3de6d6e09996a2d745619b6743"), looks := false }, kinds := [], alts := [], laidByText := true, laidKinds := [.data, .data, .data], laidTests := true, laidLooks := .later }
def PolySubstitutesUptoCardSaid : Prop := Claim7.holds Tryz.pinned (.plain (OpenSpec.upto polySubstitutesSpec)) polySubstitutesUptoCard

/-- THE SECOND FORM's CARD OF 'commodatumlaw04.PolyOwn'. -/
def polyOwnUptoCard : Claim7 := { stood := { row := polyOwnUptoRow, standIns := [], harness := (true, "1642f369fac490e0499efd55de15b2bfb7ebed3de6d6e09996a2d745619b6743"), looks := false }, kinds := [], alts := [], laidByText := true, laidKinds := [.data, .data, .data], laidTests := true, laidLooks := .later }
def PolyOwnUptoCardSaid : Prop := Claim7.holds Tryz.pinned (.plain (OpenSpec.upto polyOwnSpec)) polyOwnUptoCard
end Rows
end Go.Proofs.YtnjmpjdampdmmaaGreatDoor
