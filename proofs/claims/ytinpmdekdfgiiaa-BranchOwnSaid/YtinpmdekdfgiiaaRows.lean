/-
  NARROWER THAN 'FOR EVERY INPUT', by the rows' own cells (each row's printed sentence says how): BranchFrom: loops · BranchBelow: loops · BranchOwn: loops.
  DERIVED. THE GIVEN ROWS OF THIS SEAT. 10 by the template 'for every input the law returns true; each argument reads behind the call as it read before'; 0 by the template 'total and deterministic' (their statements: YtinpmdekdfgiiaaTotals.lean).
  GIVEN WITH THE SEED: the statements are not yours to turn. If you find one false, say at which input.
  Laid BY PROGRAM, IN A SANDBOX (cutbox-rows.mjs): the forced cells as the released guide's own fill.sh prints them over the translation 678553f8cbcd3efb… (all of the seat's roots in one cut). By AI agents, Wed Nov 11 2026. No macro, syntax, notation, axiom, sorry.
-/
import Derived.Test.YtinpmdekdfgiiaaChecked
import GoSem.Claim
import GoSem.ClaimJoined
import GoSem.ClaimMapViews
import Derived.JoinedTies
import Derived.KernelRfl
namespace Go.Proofs.Ytinpmdekdfgiiaa
/- THE CELL 'sum', in the pinned program and in every row, IS THE sha256 OF THE DUMP (.gsa) THAT YtinpmdekdfgiiaaProg.lean LOADS. Nothing in Lean hashes anything: it is a label: what it is worth is what the hold of that sum in a sandbox is worth. -/
noncomputable def Try.pinned : Pinned := { name := "ytinpmdekdfgiiaa", sum := "678553f8cbcd3efb5c1aab9be8ff2cacbe4f14a1ed9f2bb4e8c5b0c1764e32d3", checked := Try.checked }
namespace Rows
def none {H : Type} : Left H := { results := [], args := [] }

/-- 'commodatumlaw08.BranchValid': WHATEVER THE INPUT: true; the input reads as it did. -/
def branchValidSpec : ChangeSpec := { name := "branchValid", fn := fun _ => fun
  | [d] => { results := [.lit (.bool true)], args := [d] }
  | _ => none }
def branchValidRow : OpenClaim := { program := "ytinpmdekdfgiiaa", sum := "678553f8cbcd3efb5c1aab9be8ff2cacbe4f14a1ed9f2bb4e8c5b0c1764e32d3", func := "commodatum/commodatumlaw08.BranchValid", spec := "branchValid", unfollowed := true, recurses := true, plainKeys := false, apart := false }
def BranchValidSaid : Prop := branchValidRow.holds Try.pinned (OpenSpec.ofChange branchValidSpec)

/-- ITS FALSE NEIGHBOUR: 'it returns false'. Refute it at one input. -/
def branchValidWrong : ChangeSpec := { name := "branchValid", fn := fun _ => fun
  | [d] => { results := [.lit (.bool false)], args := [d] }
  | _ => none }
def BranchValidWrongFalsely : Prop := branchValidRow.holds Try.pinned (OpenSpec.ofChange branchValidWrong)

/-- 'commodatumlaw08.BranchLeast': WHATEVER THE INPUT: true; the input reads as it did. -/
def branchLeastSpec : ChangeSpec := { name := "branchLeast", fn := fun _ => fun
  | [d] => { results := [.lit (.bool true)], args := [d] }
  | _ => none }
def branchLeastRow : OpenClaim := { program := "ytinpmdekdfgiiaa", sum := "678553f8cbcd3efb5c1aab9be8ff2cacbe4f14a1ed9f2bb4e8c5b0c1764e32d3", func := "commodatum/commodatumlaw08.BranchLeast", spec := "branchLeast", unfollowed := true, recurses := true, plainKeys := false, apart := false }
def BranchLeastSaid : Prop := branchLeastRow.holds Try.pinned (OpenSpec.ofChange branchLeastSpec)

/-- ITS FALSE NEIGHBOUR: 'it returns false'. Refute it at one input. -/
def branchLeastWrong : ChangeSpec := { name := "branchLeast", fn := fun _ => fun
  | [d] => { results := [.lit (.bool false)], args := [d] }
  | _ => none }
def BranchLeastWrongFalsely : Prop := branchLeastRow.holds Try.pinned (OpenSpec.ofChange branchLeastWrong)

/-- 'commodatumlaw08.BranchRuns': WHATEVER THE INPUT: true; the input reads as it did. -/
def branchRunsSpec : ChangeSpec := { name := "branchRuns", fn := fun _ => fun
  | [d1, d2] => { results := [.lit (.bool true)], args := [d1, d2] }
  | _ => none }
def branchRunsRow : OpenClaim := { program := "ytinpmdekdfgiiaa", sum := "678553f8cbcd3efb5c1aab9be8ff2cacbe4f14a1ed9f2bb4e8c5b0c1764e32d3", func := "commodatum/commodatumlaw08.BranchRuns", spec := "branchRuns", unfollowed := true, recurses := true, plainKeys := false, apart := false }
def BranchRunsSaid : Prop := branchRunsRow.holds Try.pinned (OpenSpec.ofChange branchRunsSpec)

/-- ITS FALSE NEIGHBOUR: 'it returns false'. Refute it at one input. -/
def branchRunsWrong : ChangeSpec := { name := "branchRuns", fn := fun _ => fun
  | [d1, d2] => { results := [.lit (.bool false)], args := [d1, d2] }
  | _ => none }
def BranchRunsWrongFalsely : Prop := branchRunsRow.holds Try.pinned (OpenSpec.ofChange branchRunsWrong)

/-- 'commodatumlaw08.BranchPaths': WHATEVER THE INPUT: true; the input reads as it did. -/
def branchPathsSpec : ChangeSpec := { name := "branchPaths", fn := fun _ => fun
  | [d1, d2] => { results := [.lit (.bool true)], args := [d1, d2] }
  | _ => none }
def branchPathsRow : OpenClaim := { program := "ytinpmdekdfgiiaa", sum := "678553f8cbcd3efb5c1aab9be8ff2cacbe4f14a1ed9f2bb4e8c5b0c1764e32d3", func := "commodatum/commodatumlaw08.BranchPaths", spec := "branchPaths", unfollowed := true, recurses := true, plainKeys := false, apart := false }
def BranchPathsSaid : Prop := branchPathsRow.holds Try.pinned (OpenSpec.ofChange branchPathsSpec)

/-- ITS FALSE NEIGHBOUR: 'it returns false'. Refute it at one input. -/
def branchPathsWrong : ChangeSpec := { name := "branchPaths", fn := fun _ => fun
  | [d1, d2] => { results := [.lit (.bool false)], args := [d1, d2] }
  | _ => none }
def BranchPathsWrongFalsely : Prop := branchPathsRow.holds Try.pinned (OpenSpec.ofChange branchPathsWrong)

/-- 'commodatumlaw08.BranchFormula': WHATEVER THE INPUT: true; the input reads as it did. -/
def branchFormulaSpec : ChangeSpec := { name := "branchFormula", fn := fun _ => fun
  | [d1, d2] => { results := [.lit (.bool true)], args := [d1, d2] }
  | _ => none }
def branchFormulaRow : OpenClaim := { program := "ytinpmdekdfgiiaa", sum := "678553f8cbcd3efb5c1aab9be8ff2cacbe4f14a1ed9f2bb4e8c5b0c1764e32d3", func := "commodatum/commodatumlaw08.BranchFormula", spec := "branchFormula", unfollowed := true, recurses := true, plainKeys := false, apart := false }
def BranchFormulaSaid : Prop := branchFormulaRow.holds Try.pinned (OpenSpec.ofChange branchFormulaSpec)

/-- ITS FALSE NEIGHBOUR: 'it returns false'. Refute it at one input. -/
def branchFormulaWrong : ChangeSpec := { name := "branchFormula", fn := fun _ => fun
  | [d1, d2] => { results := [.lit (.bool false)], args := [d1, d2] }
  | _ => none }
def BranchFormulaWrongFalsely : Prop := branchFormulaRow.holds Try.pinned (OpenSpec.ofChange branchFormulaWrong)

/-- 'commodatumlaw08.BranchSlim': WHATEVER THE INPUT: true; the input reads as it did. -/
def branchSlimSpec : ChangeSpec := { name := "branchSlim", fn := fun _ => fun
  | [d1, d2] => { results := [.lit (.bool true)], args := [d1, d2] }
  | _ => none }
def branchSlimRow : OpenClaim := { program := "ytinpmdekdfgiiaa", sum := "678553f8cbcd3efb5c1aab9be8ff2cacbe4f14a1ed9f2bb4e8c5b0c1764e32d3", func := "commodatum/commodatumlaw08.BranchSlim", spec := "branchSlim", unfollowed := true, recurses := true, plainKeys := false, apart := false }
def BranchSlimSaid : Prop := branchSlimRow.holds Try.pinned (OpenSpec.ofChange branchSlimSpec)

/-- ITS FALSE NEIGHBOUR: 'it returns false'. Refute it at one input. -/
def branchSlimWrong : ChangeSpec := { name := "branchSlim", fn := fun _ => fun
  | [d1, d2] => { results := [.lit (.bool false)], args := [d1, d2] }
  | _ => none }
def BranchSlimWrongFalsely : Prop := branchSlimRow.holds Try.pinned (OpenSpec.ofChange branchSlimWrong)

/-- 'commodatumlaw08.BranchFrom': WHATEVER THE INPUT: true; the input reads as it did. -/
def branchFromSpec : ChangeSpec := { name := "branchFrom", fn := fun _ => fun
  | [d1, d2, d3] => { results := [.lit (.bool true)], args := [d1, d2, d3] }
  | _ => none }
def branchFromRow : OpenClaim := { program := "ytinpmdekdfgiiaa", sum := "678553f8cbcd3efb5c1aab9be8ff2cacbe4f14a1ed9f2bb4e8c5b0c1764e32d3", func := "commodatum/commodatumlaw08.BranchFrom", spec := "branchFrom", unfollowed := true, recurses := true, loops := true, plainKeys := false, apart := false }
def BranchFromSaid : Prop := branchFromRow.holds Try.pinned (OpenSpec.ofChange branchFromSpec)

/-- ITS FALSE NEIGHBOUR: 'it returns false'. Refute it at one input. -/
def branchFromWrong : ChangeSpec := { name := "branchFrom", fn := fun _ => fun
  | [d1, d2, d3] => { results := [.lit (.bool false)], args := [d1, d2, d3] }
  | _ => none }
def BranchFromWrongFalsely : Prop := branchFromRow.holds Try.pinned (OpenSpec.ofChange branchFromWrong)

/-- 'commodatumlaw08.BranchBelow': WHATEVER THE INPUT: true; the input reads as it did. -/
def branchBelowSpec : ChangeSpec := { name := "branchBelow", fn := fun _ => fun
  | [d1, d2] => { results := [.lit (.bool true)], args := [d1, d2] }
  | _ => none }
def branchBelowRow : OpenClaim := { program := "ytinpmdekdfgiiaa", sum := "678553f8cbcd3efb5c1aab9be8ff2cacbe4f14a1ed9f2bb4e8c5b0c1764e32d3", func := "commodatum/commodatumlaw08.BranchBelow", spec := "branchBelow", unfollowed := true, recurses := true, loops := true, plainKeys := false, apart := false }
def BranchBelowSaid : Prop := branchBelowRow.holds Try.pinned (OpenSpec.ofChange branchBelowSpec)

/-- ITS FALSE NEIGHBOUR: 'it returns false'. Refute it at one input. -/
def branchBelowWrong : ChangeSpec := { name := "branchBelow", fn := fun _ => fun
  | [d1, d2] => { results := [.lit (.bool false)], args := [d1, d2] }
  | _ => none }
def BranchBelowWrongFalsely : Prop := branchBelowRow.holds Try.pinned (OpenSpec.ofChange branchBelowWrong)

/-- 'commodatumlaw08.BranchLayers': WHATEVER THE INPUT: true; the input reads as it did. -/
def branchLayersSpec : ChangeSpec := { name := "branchLayers", fn := fun _ => fun
  | [d1, d2] => { results := [.lit (.bool true)], args := [d1, d2] }
  | _ => none }
def branchLayersRow : OpenClaim := { program := "ytinpmdekdfgiiaa", sum := "678553f8cbcd3efb5c1aab9be8ff2cacbe4f14a1ed9f2bb4e8c5b0c1764e32d3", func := "commodatum/commodatumlaw08.BranchLayers", spec := "branchLayers", unfollowed := true, recurses := true, plainKeys := false, apart := false }
def BranchLayersSaid : Prop := branchLayersRow.holds Try.pinned (OpenSpec.ofChange branchLayersSpec)

/-- ITS FALSE NEIGHBOUR: 'it returns false'. Refute it at one input. -/
def branchLayersWrong : ChangeSpec := { name := "branchLayers", fn := fun _ => fun
  | [d1, d2] => { results := [.lit (.bool false)], args := [d1, d2] }
  | _ => none }
def BranchLayersWrongFalsely : Prop := branchLayersRow.holds Try.pinned (OpenSpec.ofChange branchLayersWrong)

/-- 'commodatumlaw08.BranchOwn': WHATEVER THE INPUT: true; the input reads as it did. -/
def branchOwnSpec : ChangeSpec := { name := "branchOwn", fn := fun _ => fun
  | [d1, d2, d3] => { results := [.lit (.bool true)], args := [d1, d2, d3] }
  | _ => none }
def branchOwnRow : OpenClaim := { program := "ytinpmdekdfgiiaa", sum := "678553f8cbcd3efb5c1aab9be8ff2cacbe4f14a1ed9f2bb4e8c5b0c1764e32d3", func := "commodatum/commodatumlaw08.BranchOwn", spec := "branchOwn", unfollowed := true, recurses := true, loops := true, plainKeys := false, apart := false }
def BranchOwnSaid : Prop := branchOwnRow.holds Try.pinned (OpenSpec.ofChange branchOwnSpec)

/-- ITS FALSE NEIGHBOUR: 'it returns false'. Refute it at one input. -/
def branchOwnWrong : ChangeSpec := { name := "branchOwn", fn := fun _ => fun
  | [d1, d2, d3] => { results := [.lit (.bool false)], args := [d1, d2, d3] }
  | _ => none }
def BranchOwnWrongFalsely : Prop := branchOwnRow.holds Try.pinned (OpenSpec.ofChange branchOwnWrong)

/- THE SECOND FORM. 'bulk': how many values and letters a reading holds, each counted each time it is reached (what is shared counts as often as it is met; a slice's spare places count too). A statement '..UptoSaid' is the law's where the arguments, and the package variables that the reading takes, are together of bulk at most 1048576: NARROWER than '..Said'. Prove '..Said' where nothing that the law and all that it calls make is longer than what came in: it says more and counts as full. Else prove '..UptoSaid'. A law counts once. -/
mutual
def uptoBulk {H : Type} : DataW H → Nat
  | .lit (.string bytes) => bytes.length + 1
  | .lit _ => 1
  | .nil => 1
  | .ptr d => uptoBulk d + 1
  | .slice elems spare => uptoBulkAll elems + uptoBulkAll spare + 1
  | .agg parts => uptoBulkAll parts + 1
  | .iface _ d => uptoBulk d + 1
  | .map entries => uptoBulkEntries entries + 1
  | .held _ => 1
def uptoBulkAll {H : Type} : List (DataW H) → Nat
  | [] => 0
  | d :: r => uptoBulk d + uptoBulkAll r
def uptoBulkEntries {H : Type} : List (Lit × DataW H) → Nat
  | [] => 0
  | x :: r => uptoBulkEntry x + uptoBulkEntries r
def uptoBulkEntry {H : Type} : Lit × DataW H → Nat
  | (.string bytes, d) => bytes.length + uptoBulk d + 1
  | (_, d) => uptoBulk d + 1
 end
def uptoSmall : (H : Type) → List (DataW H) → Bool := fun _ ds => decide (uptoBulkAll ds ≤ 1048576)
def OpenSpec.upto (s : _root_.Go.ChangeSpec) : _root_.Go.OpenSpec := { _root_.Go.OpenSpec.ofChange s with cond := some uptoSmall }

/-- 'commodatumlaw08.BranchValid', WHERE WHAT IT READS IS OF BULK AT MOST 1048576: true; the input reads as it did. -/
def branchValidUptoRow : OpenClaim := { program := "ytinpmdekdfgiiaa", sum := "678553f8cbcd3efb5c1aab9be8ff2cacbe4f14a1ed9f2bb4e8c5b0c1764e32d3", func := "commodatum/commodatumlaw08.BranchValid", spec := "branchValid", unfollowed := true, recurses := true, plainKeys := false, apart := false, narrowed := true }
def BranchValidUptoSaid : Prop := branchValidUptoRow.holds Try.pinned (OpenSpec.upto branchValidSpec)

/-- 'commodatumlaw08.BranchLeast', WHERE WHAT IT READS IS OF BULK AT MOST 1048576: true; the input reads as it did. -/
def branchLeastUptoRow : OpenClaim := { program := "ytinpmdekdfgiiaa", sum := "678553f8cbcd3efb5c1aab9be8ff2cacbe4f14a1ed9f2bb4e8c5b0c1764e32d3", func := "commodatum/commodatumlaw08.BranchLeast", spec := "branchLeast", unfollowed := true, recurses := true, plainKeys := false, apart := false, narrowed := true }
def BranchLeastUptoSaid : Prop := branchLeastUptoRow.holds Try.pinned (OpenSpec.upto branchLeastSpec)

/-- 'commodatumlaw08.BranchRuns', WHERE WHAT IT READS IS OF BULK AT MOST 1048576: true; the input reads as it did. -/
def branchRunsUptoRow : OpenClaim := { program := "ytinpmdekdfgiiaa", sum := "678553f8cbcd3efb5c1aab9be8ff2cacbe4f14a1ed9f2bb4e8c5b0c1764e32d3", func := "commodatum/commodatumlaw08.BranchRuns", spec := "branchRuns", unfollowed := true, recurses := true, plainKeys := false, apart := false, narrowed := true }
def BranchRunsUptoSaid : Prop := branchRunsUptoRow.holds Try.pinned (OpenSpec.upto branchRunsSpec)

/-- 'commodatumlaw08.BranchPaths', WHERE WHAT IT READS IS OF BULK AT MOST 1048576: true; the input reads as it did. -/
def branchPathsUptoRow : OpenClaim := { program := "ytinpmdekdfgiiaa", sum := "678553f8cbcd3efb5c1aab9be8ff2cacbe4f14a1ed9f2bb4e8c5b0c1764e32d3", func := "commodatum/commodatumlaw08.BranchPaths", spec := "branchPaths", unfollowed := true, recurses := true, plainKeys := false, apart := false, narrowed := true }
def BranchPathsUptoSaid : Prop := branchPathsUptoRow.holds Try.pinned (OpenSpec.upto branchPathsSpec)

/-- 'commodatumlaw08.BranchFormula', WHERE WHAT IT READS IS OF BULK AT MOST 1048576: true; the input reads as it did. -/
def branchFormulaUptoRow : OpenClaim := { program := "ytinpmdekdfgiiaa", sum := "678553f8cbcd3efb5c1aab9be8ff2cacbe4f14a1ed9f2bb4e8c5b0c1764e32d3", func := "commodatum/commodatumlaw08.BranchFormula", spec := "branchFormula", unfollowed := true, recurses := true, plainKeys := false, apart := false, narrowed := true }
def BranchFormulaUptoSaid : Prop := branchFormulaUptoRow.holds Try.pinned (OpenSpec.upto branchFormulaSpec)

/-- 'commodatumlaw08.BranchSlim', WHERE WHAT IT READS IS OF BULK AT MOST 1048576: true; the input reads as it did. -/
def branchSlimUptoRow : OpenClaim := { program := "ytinpmdekdfgiiaa", sum := "678553f8cbcd3efb5c1aab9be8ff2cacbe4f14a1ed9f2bb4e8c5b0c1764e32d3", func := "commodatum/commodatumlaw08.BranchSlim", spec := "branchSlim", unfollowed := true, recurses := true, plainKeys := false, apart := false, narrowed := true }
def BranchSlimUptoSaid : Prop := branchSlimUptoRow.holds Try.pinned (OpenSpec.upto branchSlimSpec)

/-- 'commodatumlaw08.BranchFrom', WHERE WHAT IT READS IS OF BULK AT MOST 1048576: true; the input reads as it did. -/
def branchFromUptoRow : OpenClaim := { program := "ytinpmdekdfgiiaa", sum := "678553f8cbcd3efb5c1aab9be8ff2cacbe4f14a1ed9f2bb4e8c5b0c1764e32d3", func := "commodatum/commodatumlaw08.BranchFrom", spec := "branchFrom", unfollowed := true, recurses := true, loops := true, plainKeys := false, apart := false, narrowed := true }
def BranchFromUptoSaid : Prop := branchFromUptoRow.holds Try.pinned (OpenSpec.upto branchFromSpec)

/-- 'commodatumlaw08.BranchBelow', WHERE WHAT IT READS IS OF BULK AT MOST 1048576: true; the input reads as it did. -/
def branchBelowUptoRow : OpenClaim := { program := "ytinpmdekdfgiiaa", sum := "678553f8cbcd3efb5c1aab9be8ff2cacbe4f14a1ed9f2bb4e8c5b0c1764e32d3", func := "commodatum/commodatumlaw08.BranchBelow", spec := "branchBelow", unfollowed := true, recurses := true, loops := true, plainKeys := false, apart := false, narrowed := true }
def BranchBelowUptoSaid : Prop := branchBelowUptoRow.holds Try.pinned (OpenSpec.upto branchBelowSpec)

/-- 'commodatumlaw08.BranchLayers', WHERE WHAT IT READS IS OF BULK AT MOST 1048576: true; the input reads as it did. -/
def branchLayersUptoRow : OpenClaim := { program := "ytinpmdekdfgiiaa", sum := "678553f8cbcd3efb5c1aab9be8ff2cacbe4f14a1ed9f2bb4e8c5b0c1764e32d3", func := "commodatum/commodatumlaw08.BranchLayers", spec := "branchLayers", unfollowed := true, recurses := true, plainKeys := false, apart := false, narrowed := true }
def BranchLayersUptoSaid : Prop := branchLayersUptoRow.holds Try.pinned (OpenSpec.upto branchLayersSpec)

/-- 'commodatumlaw08.BranchOwn', WHERE WHAT IT READS IS OF BULK AT MOST 1048576: true; the input reads as it did. -/
def branchOwnUptoRow : OpenClaim := { program := "ytinpmdekdfgiiaa", sum := "678553f8cbcd3efb5c1aab9be8ff2cacbe4f14a1ed9f2bb4e8c5b0c1764e32d3", func := "commodatum/commodatumlaw08.BranchOwn", spec := "branchOwn", unfollowed := true, recurses := true, loops := true, plainKeys := false, apart := false, narrowed := true }
def BranchOwnUptoSaid : Prop := branchOwnUptoRow.holds Try.pinned (OpenSpec.upto branchOwnSpec)

end Rows
end Go.Proofs.Ytinpmdekdfgiiaa
