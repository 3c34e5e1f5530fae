/- Rows that lie apart. -/
import Derived.Test.YtnjmpjdampdmmaaGreatDoorC17
set_option linter.unusedVariables false
set_option linter.unusedSimpArgs false
namespace Go.Proofs.YtnjmpjdampdmmaaGreatDoor
open Go.RowKit Go.Shelf
theorem rows_apart {w : World} {B B' sz sz' n n' : Nat} {e e' : TypeId} {v v' : Value} {cs cs' : List Value} (h : w.ownsRow B e sz v n cs) (h' : w.ownsRow B' e' sz' v' n' cs') (ne : e ≠ e') : v.ownBlock = none ∨ v.ownBlock ≠ v'.ownBlock := by
  rcases h.2 with ⟨rfl, _⟩ | ⟨g, cap, cur, rfl, _, hg, _⟩
  · exact .inl rfl
  · refine .inr fun e0 => ?_
    rcases h'.2 with ⟨rfl, _⟩ | ⟨g', cap', cur', rfl, _, hg', _⟩
    · simp [Value.ownBlock] at e0
    · simp only [Value.ownBlock, Option.some.injEq] at e0
      have e1 : g = g' := by simpa using e0
      subst e1
      rw [hg] at hg'
      injection hg' with hg'
      injection hg' with _ h2
      exact ne h2
theorem row_cap {w : World} {B sz n cap : Nat} {e : TypeId} {A : Option Addr} {cs : List Value} (h : w.ownsRow B e sz (.slice A n cap) n cs) : n ≤ cap ∧ cap ≤ 9223372036854775807 := by
  rcases h.2 with ⟨e0, h0⟩ | ⟨g, cap', cur, e0, _, _, h1, h2, _⟩
  · injection e0 with _ _ e3
    omega
  · injection e0 with _ _ e3
    subst e3
    simp only [maxLen] at h2
    omega
theorem info25 : (Tryz.prog.info? 25).map (fun i => (i.zero, i.size, i.bytes)) = some (some (.slice none 0 0), 1, 24) := by kernel_rfl
end Go.Proofs.YtnjmpjdampdmmaaGreatDoor
