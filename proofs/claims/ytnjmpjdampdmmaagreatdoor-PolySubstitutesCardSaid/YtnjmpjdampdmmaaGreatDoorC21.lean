/- Polynomials: the chapter's examples, reckoned. -/
import Derived.Test.YtnjmpjdampdmmaaGreatDoorC17
set_option linter.unusedVariables false
set_option linter.unusedSimpArgs false
namespace Go.Proofs.YtnjmpjdampdmmaaGreatDoor

def exT : List Bool := [false, true, true, true]
def exP : List Tm := [⟨1, [0, 1]⟩, ⟨1, [1, 0]⟩, ⟨1, [1, 1]⟩]
theorem ok21 : okF 2 1 = true := by decide +kernel
theorem ord21 : ordF 2 1 = 2 := by decide +kernel
theorem ex_multi : totalT (addF 2 1) (mlTerms 2 (mlAll 2 1 (exT.map bitI) 2) 4).length ((mlTerms 2 (mlAll 2 1 (exT.map bitI) 2) 4).map fun t => [t]) = exP := by decide +kernel
theorem ex_valid : vld (ordF 2 1) 2 exP = true := by decide +kernel
theorem ex_valid2 : vld (ordF 2 1) 1 [⟨1, [3]⟩] = true := by decide +kernel
theorem ex_reduce : totalT (addF 2 1) 1 (([⟨1, [3]⟩] : List Tm).map (redT (ordF 2 1)) |>.map fun t => [t]) = [⟨1, [1]⟩] := by decide +kernel
theorem dec0 : Lib.itoa 0 = [48] := by simp [Lib.itoa, Lib.decDigits]
theorem dec1 : Lib.itoa 1 = [49] := by simp [Lib.itoa, Lib.decDigits]
theorem ex_text : textTo exP 3 = [49, 42, 120, 49, 32, 43, 32, 49, 42, 120, 48, 32, 43, 32, 49, 42, 120, 48, 42, 120, 49] := by
  simp [textTo, termW, wordTo, expW, exP, tmv, ia, List.range_succ, dec0, dec1]
end Go.Proofs.YtnjmpjdampdmmaaGreatDoor
