/-
  DERIVED. GIVEN WITH THE SEED: THE CARDS: each row of YtikfeemmjfoffaaGreatDoorRows.lean that lists a variable, with what it lists TIED to the program's text (the seventh form; the later family's looks); each row that meets fmt, with fmt's text TOLD by the authors' own Lean function (tested against real Go, not proved from fmt's source: count such statements apart). THE CARD IS WHAT COUNTS. Prove the row's statement (the work); the ties are given (YtikfeemmjfoffaaGreatDoorTie.lean); close each card by the builder's one call (the guide's Derived/Test/ToyasCard.lean, 'card_holds'). Laid BY PROGRAM, IN A SANDBOX (cutbox-door.mjs). By AI agents, Wed Nov 11 2026. No macro, syntax, notation, axiom, sorry.
-/
import Derived.Test.YtikfeemmjfoffaaGreatDoorRows
import GoSem.ClaimSeven
namespace Go.Proofs.YtikfeemmjfoffaaGreatDoor
namespace Rows

/-- THE TIED CARD OF 'commodatumlaw18.TreeTables'. -/
def treeTablesCard : Claim7 := { stood := { row := treeTablesRow, standIns := [], harness := (true, "2442566c0aaa8d5c731c5ae9481999769866bb7ff8dcb68a506209afab74620f"), looks := true }, kinds := [], alts := [], laidByText := true, laidKinds := [.data, .data, .data, .data, .sentinel, .sentinel, .pinned], laidTests := true, laidLooks := .later }
def TreeTablesCardSaid : Prop := Claim7.holds Tryz.pinned (.plain (OpenSpec.ofChange treeTablesSpec)) treeTablesCard

/-- THE TIED CARD OF 'commodatumlaw18.TreeRecursion'. -/
def treeRecursionCard : Claim7 := { stood := { row := treeRecursionRow, standIns := [], harness := (true, "2442566c0aaa8d5c731c5ae9481999769866bb7ff8dcb68a506209afab74620f"), looks := true }, kinds := [], alts := [], laidByText := true, laidKinds := [.data, .data, .data, .data, .sentinel, .sentinel, .pinned], laidTests := true, laidLooks := .later }
def TreeRecursionCardSaid : Prop := Claim7.holds Tryz.pinned (.plain (OpenSpec.ofChange treeRecursionSpec)) treeRecursionCard

/-- THE TIED CARD OF 'commodatumlaw18.TreeOwn'. -/
def treeOwnCard : Claim7 := { stood := { row := treeOwnRow, standIns := [], harness := (true, "2442566c0aaa8d5c731c5ae9481999769866bb7ff8dcb68a506209afab74620f"), looks := true }, kinds := [], alts := [], laidByText := true, laidKinds := [.data, .data, .data, .data, .sentinel, .sentinel, .pinned], laidTests := true, laidLooks := .later }
def TreeOwnCardSaid : Prop := Claim7.holds Tryz.pinned (.plain (OpenSpec.ofChange treeOwnSpec)) treeOwnCard

/-- THE SECOND FORM's CARD OF 'commodatumlaw18.TreeTables'. -/
def treeTablesUptoCard : Claim7 := { stood := { row := treeTablesUptoRow, standIns := [], harness := (true, "2442566c0aaa8d5c731c5ae9481999769866bb7ff8dcb68a506209afab74620f"), looks := true }, kinds := [], alts := [], laidByText := true, laidKinds := [.data, .data, .data, .data, .sentinel, .sentinel, .pinned], laidTests := true, laidLooks := .later }
def TreeTablesUptoCardSaid : Prop := Claim7.holds Tryz.pinned (.plain (OpenSpec.upto treeTablesSpec)) treeTablesUptoCard

/-- THE SECOND FORM's CARD OF 'commodatumlaw18.TreeRecursion'. -/
def treeRecursionUptoCard : Claim7 := { stood := { row := treeRecursionUptoRow, standIns := [], harness := (true, "2442566c0aaa8d5c731c5ae9481999769866bb7ff8dcb68a506209afab74620f"), looks := true }, kinds := [], alts := [], laidByText := true, laidKinds := [.data, .data, .data, .data, .sentinel, .sentinel, .pinned], laidTests := true, laidLooks := .later }
def TreeRecursionUptoCardSaid : Prop := Claim7.holds Tryz.pinned (.plain (OpenSpec.upto treeRecursionSpec)) treeRecursionUptoCard

/-- THE SECOND FORM's CARD OF 'commodatumlaw18.TreeOwn'. -/
def treeOwnUptoCard : Claim7 := { stood := { row := treeOwnUptoRow, standIns := [], harness := (true, "2442566c0aaa8d5c731c5ae9481999769866bb7ff8dcb68a506209afab74620f"), looks := true }, kinds := [], alts := [], laidByText := true, laidKinds := [.data, .data, .data, .data, .sentinel, .sentinel, .pinned], laidTests := true, laidLooks := .later }
def TreeOwnUptoCardSaid : Prop := Claim7.holds Tryz.pinned (.plain (OpenSpec.upto treeOwnSpec)) treeOwnUptoCard
end Rows
end Go.Proofs.YtikfeemmjfoffaaGreatDoor
