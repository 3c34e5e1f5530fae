/-
  DERIVED. GIVEN WITH THE SEED: THE CARDS: each row of YtikfeemmjfoffaaDoorRows.lean that lists a variable, with what it lists TIED to the program's text (the seventh form; the later family's looks); each row that meets fmt, with fmt's text TOLD by the authors' own Lean function (tested against real Go, not proved from fmt's source: count such statements apart). THE CARD IS WHAT COUNTS. Prove the row's statement (the work); the ties are given (YtikfeemmjfoffaaDoorTie.lean); close each card by the builder's one call (the guide's Derived/Test/ToyasCard.lean, 'card_holds'). Laid BY PROGRAM, IN A SANDBOX (cutbox-door.mjs). By AI agents, Wed Nov 11 2026. No macro, syntax, notation, axiom, sorry.
-/
import Derived.Test.YtikfeemmjfoffaaDoorRows
import GoSem.ClaimSeven
namespace Go.Proofs.YtikfeemmjfoffaaDoor
namespace Rows

/-- THE TIED CARD OF 'commodatumlaw18.TreeTexts'. -/
def treeTextsCard : Claim7 := { stood := { row := treeTextsRow, standIns := [], harness := (true, "09f3c50981de0122059a062b48f15ba841cd723ff5ac8f238d01a673994cee9e"), looks := true }, kinds := [], alts := [], laidByText := true, laidKinds := [.data, .data, .data, .data, .sentinel, .sentinel, .pinned], laidTests := true, laidLooks := .later }
def TreeTextsCardSaid : Prop := Claim7.holds Tryd.pinned (.plain (OpenSpec.ofChange treeTextsSpec)) treeTextsCard

/-- THE TIED CARD OF 'commodatumlaw18.TreeValues'. -/
def treeValuesCard : Claim7 := { stood := { row := treeValuesRow, standIns := [], harness := (true, "09f3c50981de0122059a062b48f15ba841cd723ff5ac8f238d01a673994cee9e"), looks := true }, kinds := [], alts := [], laidByText := true, laidKinds := [.data, .data, .data, .data, .sentinel, .sentinel, .pinned], laidTests := true, laidLooks := .later }
def TreeValuesCardSaid : Prop := Claim7.holds Tryd.pinned (.plain (OpenSpec.ofChange treeValuesSpec)) treeValuesCard

/-- THE TIED CARD OF 'commodatumlaw18.TreeFrom'. -/
def treeFromCard : Claim7 := { stood := { row := treeFromRow, standIns := [], harness := (true, "09f3c50981de0122059a062b48f15ba841cd723ff5ac8f238d01a673994cee9e"), looks := true }, kinds := [], alts := [], laidByText := true, laidKinds := [.data, .data, .data, .data, .sentinel, .sentinel, .pinned], laidTests := true, laidLooks := .later }
def TreeFromCardSaid : Prop := Claim7.holds Tryd.pinned (.plain (OpenSpec.ofChange treeFromSpec)) treeFromCard

/-- THE TIED CARD OF 'commodatumlaw18.TreeBack'. -/
def treeBackCard : Claim7 := { stood := { row := treeBackRow, standIns := [], harness := (true, "09f3c50981de0122059a062b48f15ba841cd723ff5ac8f238d01a673994cee9e"), looks := true }, kinds := [], alts := [], laidByText := true, laidKinds := [.data, .data, .data, .data, .sentinel, .sentinel, .pinned], laidTests := true, laidLooks := .later }
def TreeBackCardSaid : Prop := Claim7.holds Tryd.pinned (.plain (OpenSpec.ofChange treeBackSpec)) treeBackCard

/-- THE SECOND FORM's CARD OF 'commodatumlaw18.TreeTexts'. -/
def treeTextsUptoCard : Claim7 := { stood := { row := treeTextsUptoRow, standIns := [], harness := (true, "09f3c50981de0122059a062b48f15ba841cd723ff5ac8f238d01a673994cee9e"), looks := true }, kinds := [], alts := [], laidByText := true, laidKinds := [.data, .data, .data, .data, .sentinel, .sentinel, .pinned], laidTests := true, laidLooks := .later }
def TreeTextsUptoCardSaid : Prop := Claim7.holds Tryd.pinned (.plain (OpenSpec.upto treeTextsSpec)) treeTextsUptoCard

/-- THE SECOND FORM's CARD OF 'commodatumlaw18.TreeValues'. -/
def treeValuesUptoCard : Claim7 := { stood := { row := treeValuesUptoRow, standIns := [], harness := (true, "09f3c50981de0122059a062b48f15ba841cd723ff5ac8f238d01a673994cee9e"), looks := true }, kinds := [], alts := [], laidByText := true, laidKinds := [.data, .data, .data, .data, .sentinel, .sentinel, .pinned], laidTests := true, laidLooks := .later }
def TreeValuesUptoCardSaid : Prop := Claim7.holds Tryd.pinned (.plain (OpenSpec.upto treeValuesSpec)) treeValuesUptoCard

/-- THE SECOND FORM's CARD OF 'commodatumlaw18.TreeFrom'. -/
def treeFromUptoCard : Claim7 := { stood := { row := treeFromUptoRow, standIns := [], harness := (true, "09f3c50981de0122059a062b48f15ba841cd723ff5ac8f238d01a673994cee9e"), looks := true }, kinds := [], alts := [], laidByText := true, laidKinds := [.data, .data, .data, .data, .sentinel, .sentinel, .pinned], laidTests := true, laidLooks := .later }
def TreeFromUptoCardSaid : Prop := Claim7.holds Tryd.pinned (.plain (OpenSpec.upto treeFromSpec)) treeFromUptoCard

/-- THE SECOND FORM's CARD OF 'commodatumlaw18.TreeBack'. -/
def treeBackUptoCard : Claim7 := { stood := { row := treeBackUptoRow, standIns := [], harness := (true, "09f3c50981de0122059a062b48f15ba841cd723ff5ac8f238d01a673994cee9e"), looks := true }, kinds := [], alts := [], laidByText := true, laidKinds := [.data, .data, .data, .data, .sentinel, .sentinel, .pinned], laidTests := true, laidLooks := .later }
def TreeBackUptoCardSaid : Prop := Claim7.holds Tryd.pinned (.plain (OpenSpec.upto treeBackSpec)) treeBackUptoCard
end Rows
end Go.Proofs.YtikfeemmjfoffaaDoor
