/- The pieces of a text that is split are no longer than the text. -/
import Derived.Test.YtikfeemmjfoffaaDoorP5
set_option linter.unusedVariables false
set_option linter.unusedSimpArgs false
namespace Go.Proofs.YtikfeemmjfoffaaDoor
open Go.Lib
theorem splitK_small (sep : List UInt8) : ∀ (k : Nat) (s : List UInt8), ∀ x ∈ splitK sep 0 k s, x.length ≤ s.length
  | 0, s, x, h => by simp [splitK] at h; subst h; exact Nat.le_refl _
  | k + 1, s, x, h => by
    unfold splitK at h
    split at h
    · simp at h; subst h; exact Nat.le_refl _
    · rcases List.mem_cons.1 h with rfl | h
      · simp; omega
      · have := splitK_small sep k _ x h
        simp at this
        omega
theorem split_small {s : List UInt8} : ∀ x ∈ split s [32], x.length ≤ s.length := splitK_small _ _ _
end Go.Proofs.YtikfeemmjfoffaaDoor
