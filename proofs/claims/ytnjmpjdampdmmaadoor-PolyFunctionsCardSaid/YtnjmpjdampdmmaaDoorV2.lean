/- Polynomials: reading an argument of two polynomials and a number. -/
import Derived.Test.YtnjmpjdampdmmaaDoorV1
set_option linter.unusedVariables false
set_option linter.unusedSimpArgs false
namespace Go.Proofs.YtnjmpjdampdmmaaDoor
open Go.RowKit Go.ChangeShapes Go.WideShapes Go.ChangeAt

set_option maxRecDepth 100000 in
theorem read_two {H : Type} {enc : TypeId × Value → H} {w : World} {base : Nat} {spare : Nat → Bool} {held : Bool} {b0 : Nat} {r : Reach} {v : Value} {d : DataW H} {p : List MemPlace} {ts : List TypeId} {ds : List (DataW H)} {j : Nat}
    (hv : Value.okWide Tryd.prog w r b0 51 v) (h : DataW.Trod enc Tryd.prog w base spare held 51 v d p) (hsz : (DataW.weightsEach Tryd.prog ts ds).all (· ≤ reachBytes) = true) (ht : ts[j]? = some 51) (hd : ds[j]? = some d) :
    ∃ (p : List Tm) (A : Option Addr) (c : Nat) (q : List Tm) (B : Option Addr) (e : Nat) (z : Int), v = .agg #[.slice A p.length c, .slice B q.length e, .int .i64 z] ∧ RP w A p ∧ p.length ≤ 140737488355328 ∧ RP w B q ∧ q.length ≤ 140737488355328 := by
  obtain ⟨c0, c1, c2, y0, y1, y2, n, rfl, rfl, rfl, hy0, hy1, hy2⟩ := Joins.open_agg3 Tryd.underlying51 (by kernel_rfl) (by kernel_rfl) hv h
  obtain ⟨x2, e2, hx2, _⟩ := DataW.trod_int Tryd.underlying3 hy2
  have hmem : ∀ k, k ∈ y0.1.weights Tryd.prog 25 ∨ k ∈ y1.1.weights Tryd.prog 25 → k ∈ DataW.weightsEach Tryd.prog ts ds := fun k hk => by
    refine DataW.weights_mem_each ht hd k ?_
    simp only [DataW.weights, DataW.weightsEach, Tryd.underlying51, List.map_cons, List.map_nil, List.mem_append, List.nil_append]
    rcases hk with hk | hk
    · exact .inl hk
    · exact .inr (.inl hk)
  obtain ⟨A, c, p1, rfl, h1, h2⟩ := read_cells hy0 hsz (fun k hk => hmem k (.inl hk))
  obtain ⟨B, e, p2, rfl, h3, h4⟩ := read_cells hy1 hsz (fun k hk => hmem k (.inr hk))
  simp at e2
  subst e2
  exact ⟨p1, A, c, p2, B, e, x2, rfl, h1, h2, h3, h4⟩
end Go.Proofs.YtnjmpjdampdmmaaDoor
