/- Polynomials: the law PolyReduces, walked. -/
import Derived.Test.YtnjmpjdampdmmaaGreatDoorC22
set_option linter.unusedVariables false
set_option linter.unusedSimpArgs false
namespace Go.Proofs.YtnjmpjdampdmmaaGreatDoor
open Go.RowKit

theorem rpp_one {w : World} {A : Option Addr} {c : Nat} {p : List Tm} (h : RP w A p) (hl : p.length ≤ 140737488355328) : RPP (w.alloc (.cells #[.slice A p.length c] 25)) (some ⟨w.heap.size, 0, none⟩) [p] := fun j hj => by
  obtain rfl : j = 0 := by simp at hj; omega
  exact ⟨w.heap.size, 0, A, c, rfl, (Own.new w 25 [.slice A p.length c]).cell (j := 0) rfl, h.kept (kept_alloc (kept_refl w) _), hl⟩
theorem rvalid15_all (P M n : Int) (p : List Tm) (A : Option Addr) (c : Nat) (w : World) (hP : RP w A p) (hl : p.length ≤ 140737488355328) :
    Calls Tryz.prog 10 #[fV P M, .int .i64 n, .slice A p.length c] w fun e w' => e = .returned (.bool (vld (ordF P M) n p)) ∧ Kept w w' := by
  by_cases h : 0 ≤ n ∧ n ≤ 80 ∧ p.length ≤ 20000
  · exact rvalid15_main P M n p A c w hP h.1 h.2.1 h.2.2
  · exact rvalid15_pre P M n p A c w hl h
theorem sumLen_one (f : Tm → Tm) : ∀ p : List Tm, sumLen ((p.map f).map fun t => [t]) = p.length
  | [] => rfl
  | t :: p => by
    have ih := sumLen_one f p
    unfold sumLen at ih ⊢
    simp only [List.map_cons, List.sum_cons, List.length_cons, List.length_nil, ih]
    omega
end Go.Proofs.YtnjmpjdampdmmaaGreatDoor
