/-
  DERIVED. GIVEN WITH THE SEED: THE CARDS: each row of YtnjmpjdampdmmaaDoorRows.lean that lists a variable, with what it lists TIED to the program's text (the seventh form; the later family's looks); each row that meets fmt, with fmt's text TOLD by the authors' own Lean function (tested against real Go, not proved from fmt's source: count such statements apart). THE CARD IS WHAT COUNTS. Prove the row's statement (the work); the ties are given (YtnjmpjdampdmmaaDoorTie.lean); close each card by the builder's one call (the guide's Derived/Test/ToyasCard.lean, 'card_holds'). Laid BY PROGRAM, IN A SANDBOX (cutbox-door.mjs). By AI agents, Wed Nov 11 2026. No macro, syntax, notation, axiom, sorry.
-/
import Derived.Test.YtnjmpjdampdmmaaDoorRows
import GoSem.ClaimSeven
namespace Go.Proofs.YtnjmpjdampdmmaaDoor
namespace Rows

/-- THE TIED CARD OF 'commodatumlaw04.PolyReduces'. -/
def polyReducesCard : Claim7 := { stood := { row := polyReducesRow, standIns := [], harness := (true, "07d9923afb9f4e0a6de53375e3050e4549b0083bf314c77c927cd40d6ecfe835"), looks := false }, kinds := [], alts := [], laidByText := true, laidKinds := [.data, .data, .data], laidTests := true, laidLooks := .later }
def PolyReducesCardSaid : Prop := Claim7.holds Tryd.pinned (.plain (OpenSpec.ofChange polyReducesSpec)) polyReducesCard

/-- THE TIED CARD OF 'commodatumlaw04.PolyMultilinears'. -/
def polyMultilinearsCard : Claim7 := { stood := { row := polyMultilinearsRow, standIns := [], harness := (true, "07d9923afb9f4e0a6de53375e3050e4549b0083bf314c77c927cd40d6ecfe835"), looks := false }, kinds := [], alts := [], laidByText := true, laidKinds := [.data, .data, .data], laidTests := true, laidLooks := .later }
def PolyMultilinearsCardSaid : Prop := Claim7.holds Tryd.pinned (.plain (OpenSpec.ofChange polyMultilinearsSpec)) polyMultilinearsCard

/-- THE TIED CARD OF 'commodatumlaw04.PolyValid'. -/
def polyValidCard : Claim7 := { stood := { row := polyValidRow, standIns := [], harness := (true, "07d9923afb9f4e0a6de53375e3050e4549b0083bf314c77c927cd40d6ecfe835"), looks := false }, kinds := [], alts := [], laidByText := true, laidKinds := [.data, .data, .data], laidTests := true, laidLooks := .later }
def PolyValidCardSaid : Prop := Claim7.holds Tryd.pinned (.plain (OpenSpec.ofChange polyValidSpec)) polyValidCard

/-- THE TIED CARD OF 'commodatumlaw04.PolyMuls'. -/
def polyMulsCard : Claim7 := { stood := { row := polyMulsRow, standIns := [], harness := (true, "07d9923afb9f4e0a6de53375e3050e4549b0083bf314c77c927cd40d6ecfe835"), looks := false }, kinds := [], alts := [], laidByText := true, laidKinds := [.data, .data, .data], laidTests := true, laidLooks := .later }
def PolyMulsCardSaid : Prop := Claim7.holds Tryd.pinned (.plain (OpenSpec.ofChange polyMulsSpec)) polyMulsCard

/-- THE TIED CARD OF 'commodatumlaw04.PolyEvals'. -/
def polyEvalsCard : Claim7 := { stood := { row := polyEvalsRow, standIns := [], harness := (true, "07d9923afb9f4e0a6de53375e3050e4549b0083bf314c77c927cd40d6ecfe835"), looks := false }, kinds := [], alts := [], laidByText := true, laidKinds := [.data, .data, .data], laidTests := true, laidLooks := .later }
def PolyEvalsCardSaid : Prop := Claim7.holds Tryd.pinned (.plain (OpenSpec.ofChange polyEvalsSpec)) polyEvalsCard

/-- THE TIED CARD OF 'commodatumlaw04.PolyFunctions'. -/
def polyFunctionsCard : Claim7 := { stood := { row := polyFunctionsRow, standIns := [], harness := (true, "07d9923afb9f4e0a6de53375e3050e4549b0083bf314c77c927cd40d6ecfe835"), looks := false }, kinds := [], alts := [], laidByText := true, laidKinds := [.data, .data, .data], laidTests := true, laidLooks := .later }
def PolyFunctionsCardSaid : Prop := Claim7.holds Tryd.pinned (.plain (OpenSpec.ofChange polyFunctionsSpec)) polyFunctionsCard

/-- THE TIED CARD OF 'commodatumlaw04.PolyTables'. -/
def polyTablesCard : Claim7 := { stood := { row := polyTablesRow, standIns := [], harness := (true, "07d9923afb9f4e0a6de53375e3050e4549b0083bf314c77c927cd40d6ecfe835"), looks := false }, kinds := [], alts := [], laidByText := true, laidKinds := [.data, .data, .data], laidTests := true, laidLooks := .later }
def PolyTablesCardSaid : Prop := Claim7.holds Tryd.pinned (.plain (OpenSpec.ofChange polyTablesSpec)) polyTablesCard

/-- THE TIED CARD OF 'commodatumlaw04.PolyRing'. -/
def polyRingCard : Claim7 := { stood := { row := polyRingRow, standIns := [], harness := (true, "07d9923afb9f4e0a6de53375e3050e4549b0083bf314c77c927cd40d6ecfe835"), looks := false }, kinds := [], alts := [], laidByText := true, laidKinds := [.data, .data, .data], laidTests := true, laidLooks := .later }
def PolyRingCardSaid : Prop := Claim7.holds Tryd.pinned (.plain (OpenSpec.ofChange polyRingSpec)) polyRingCard

/-- THE TIED CARD OF 'commodatumlaw04.PolyValues'. -/
def polyValuesCard : Claim7 := { stood := { row := polyValuesRow, standIns := [], harness := (true, "07d9923afb9f4e0a6de53375e3050e4549b0083bf314c77c927cd40d6ecfe835"), looks := false }, kinds := [], alts := [], laidByText := true, laidKinds := [.data, .data, .data], laidTests := true, laidLooks := .later }
def PolyValuesCardSaid : Prop := Claim7.holds Tryd.pinned (.plain (OpenSpec.ofChange polyValuesSpec)) polyValuesCard

/-- THE SECOND FORM's CARD OF 'commodatumlaw04.PolyReduces'. -/
def polyReducesUptoCard : Claim7 := { stood := { row := polyReducesUptoRow, standIns := [], harness := (true, "07d9923afb9f4e0a6de53375e3050e4549b0083bf314c77c927cd40d6ecfe835"), looks := false }, kinds := [], alts := [], laidByText := true, laidKinds := [.data, .data, .data], laidTests := true, laidLooks := .later }
def PolyReducesUptoCardSaid : Prop := Claim7.holds Tryd.pinned (.plain (OpenSpec.upto polyReducesSpec)) polyReducesUptoCard

/-- THE SECOND FORM's CARD OF 'commodatumlaw04.PolyMultilinears'. -/
def polyMultilinearsUptoCard : Claim7 := { stood := { row := polyMultilinearsUptoRow, standIns := [], harness := (true, "07d9923afb9f4e0a6de53375e3050e4549b0083bf314c77c927cd40d6ecfe835"), looks := false }, kinds := [], alts := [], laidByText := true, laidKinds := [.data, .data, .data], laidTests := true, laidLooks := .later }
def PolyMultilinearsUptoCardSaid : Prop := Claim7.holds Tryd.pinned (.plain (OpenSpec.upto polyMultilinearsSpec)) polyMultilinearsUptoCard

/-- THE SECOND FORM's CARD OF 'commodatumlaw04.PolyValid'. -/
def polyValidUptoCard : Claim7 := { stood := { row := polyValidUptoRow, standIns := [], harness := (true, "07d9923afb9f4e0a6de53375e3050e4549b0083bf314c77c927cd40d6ecfe835"), looks := false }, kinds := [], alts := [], laidByText := true, laidKinds := [.data, .data, .data], laidTests := true, laidLooks := .later }
def PolyValidUptoCardSaid : Prop := Claim7.holds Tryd.pinned (.plain (OpenSpec.upto polyValidSpec)) polyValidUptoCard

/-- THE SECOND FORM's CARD OF 'commodatumlaw04.PolyMuls'. -/
def polyMulsUptoCard : Claim7 := { stood := { row := polyMulsUptoRow, standIns := [], harness := (true, "07d9923afb9f4e0a6de53375e3050e4549b0083bf314c77c927cd40d6ecfe835"), looks := false }, kinds := [], alts := [], laidByText := true, laidKinds := [.data, .data, .data], laidTests := true, laidLooks := .later }
def PolyMulsUptoCardSaid : Prop := Claim7.holds Tryd.pinned (.plain (OpenSpec.upto polyMulsSpec)) polyMulsUptoCard

/-- THE SECOND FORM's CARD OF 'commodatumlaw04.PolyEvals'. -/
def polyEvalsUptoCard : Claim7 := { stood := { row := polyEvalsUptoRow, standIns := [], harness := (true, "07d9923afb9f4e0a6de53375e3050e4549b0083bf314c77c927cd40d6ecfe835"), looks := false }, kinds := [], alts := [], laidByText := true, laidKinds := [.data, .data, .data], laidTests := true, laidLooks := .later }
def PolyEvalsUptoCardSaid : Prop := Claim7.holds Tryd.pinned (.plain (OpenSpec.upto polyEvalsSpec)) polyEvalsUptoCard

/-- THE SECOND FORM's CARD OF 'commodatumlaw04.PolyFunctions'. -/
def polyFunctionsUptoCard : Claim7 := { stood := { row := polyFunctionsUptoRow, standIns := [], harness := (true, "07d9923afb9f4e0a6de53375e3050e4549b0083bf314c77c927cd40d6ecfe835"), looks := false }, kinds := [], alts := [], laidByText := true, laidKinds := [.data, .data, .data], laidTests := true, laidLooks := .later }
def PolyFunctionsUptoCardSaid : Prop := Claim7.holds Tryd.pinned (.plain (OpenSpec.upto polyFunctionsSpec)) polyFunctionsUptoCard

/-- THE SECOND FORM's CARD OF 'commodatumlaw04.PolyTables'. -/
def polyTablesUptoCard : Claim7 := { stood := { row := polyTablesUptoRow, standIns := [], harness := (true, "07d9923afb9f4e0a6de53375e3050e4549b0083bf314c77c927cd40d6ecfe835"), looks := false }, kinds := [], alts := [], laidByText := true, laidKinds := [.data, .data, .data], laidTests := true, laidLooks := .later }
def PolyTablesUptoCardSaid : Prop := Claim7.holds Tryd.pinned (.plain (OpenSpec.upto polyTablesSpec)) polyTablesUptoCard

/-- THE SECOND FORM's CARD OF 'commodatumlaw04.PolyRing'. -/
def polyRingUptoCard : Claim7 := { stood := { row := polyRingUptoRow, standIns := [], harness := (true, "07d9923afb9f4e0a6de53375e3050e4549b0083bf314c77c927cd40d6ecfe835"), looks := false }, kinds := [], alts := [], laidByText := true, laidKinds := [.data, .data, .data], laidTests := true, laidLooks := .later }
def PolyRingUptoCardSaid : Prop := Claim7.holds Tryd.pinned (.plain (OpenSpec.upto polyRingSpec)) polyRingUptoCard

/-- THE SECOND FORM's CARD OF 'commodatumlaw04.PolyValues'. -/
def polyValuesUptoCard : Claim7 := { stood := { row := polyValuesUptoRow, standIns := [], harness := (true, "07d9923afb9f4e0a6de53375e3050e4549b0083bf314c77c927cd40d6ecfe835"), looks := false }, kinds := [], alts := [], laidByText := true, laidKinds := [.data, .data, .data], laidTests := true, laidLooks := .later }
def PolyValuesUptoCardSaid : Prop := Claim7.holds Tryd.pinned (.plain (OpenSpec.upto polyValuesSpec)) polyValuesUptoCard
end Rows
end Go.Proofs.YtnjmpjdampdmmaaDoor
