/- Polynomials: reading an argument of three polynomials. -/
import Derived.Test.YtnjmpjdampdmmaaDoorV1
import Derived.Laws.IdiomArrays
import Derived.Lib.SmallJoins
set_option linter.unusedVariables false
set_option linter.unusedSimpArgs false
namespace Go.Proofs.YtnjmpjdampdmmaaDoor
open Go.RowKit Go.ChangeShapes Go.WideShapes Go.ChangeAt

theorem cells25 : Tryd.prog.cellsOf 25 = 1 := by kernel_rfl
theorem cells68 : Tryd.prog.cellsOf 68 = 3 := by kernel_rfl
set_option maxRecDepth 100000 in
theorem read_three {H : Type} {enc : TypeId × Value → H} {w : World} {base : Nat} {spare : Nat → Bool} {held : Bool} {b0 : Nat} {r : Reach} {v : Value} {d : DataW H} {p : List MemPlace} {ts : List TypeId} {ds : List (DataW H)} {j : Nat}
    (hv : Value.okWide Tryd.prog w r b0 68 v) (h : DataW.Trod enc Tryd.prog w base spare held 68 v d p) (hsz : (DataW.weightsEach Tryd.prog ts ds).all (· ≤ reachBytes) = true) (ht : ts[j]? = some 68) (hd : ds[j]? = some d) :
    ∃ (p : List Tm) (A : Option Addr) (c : Nat) (q : List Tm) (B : Option Addr) (e : Nat) (s : List Tm) (C : Option Addr) (f : Nat), v = .agg #[.slice A p.length c, .slice B q.length e, .slice C s.length f] ∧ RP w A p ∧ p.length ≤ 140737488355328 ∧ RP w B q ∧ q.length ≤ 140737488355328 ∧ RP w C s ∧ s.length ≤ 140737488355328 := by
  have hv' := hv
  unfold Value.okWide at hv'
  simp only [Tryd.underlying68] at hv'
  obtain ⟨cs, rfl, hcs, _⟩ := hv'
  obtain ⟨c0, c1, c2, rfl⟩ := Joins.array3 (hcs.trans cells68)
  obtain ⟨fuel, hf⟩ := h
  obtain ⟨y0, y1, y2, n, hx, hy0, hy1, hy2⟩ := trod_array3 Tryd.underlying68 cells25 hf
  simp only [Prod.mk.injEq] at hx
  obtain ⟨rfl, rfl⟩ := hx
  have hmem : ∀ k, k ∈ y0.1.weights Tryd.prog 25 ∨ k ∈ y1.1.weights Tryd.prog 25 ∨ k ∈ y2.1.weights Tryd.prog 25 → k ∈ DataW.weightsEach Tryd.prog ts ds := fun k hk => by
    refine DataW.weights_mem_each ht hd k ?_
    simp only [DataW.weights, DataW.weightsAll, Tryd.underlying68, List.mem_append, List.append_nil]
    rcases hk with hk | hk | hk
    · exact .inl hk
    · exact .inr (.inl hk)
    · exact .inr (.inr hk)
  obtain ⟨A, c, p1, rfl, h1, h2⟩ := read_cells hy0 hsz (fun k hk => hmem k (.inl hk))
  obtain ⟨B, e, p2, rfl, h3, h4⟩ := read_cells hy1 hsz (fun k hk => hmem k (.inr (.inl hk)))
  obtain ⟨C, f, p3, rfl, h5, h6⟩ := read_cells hy2 hsz (fun k hk => hmem k (.inr (.inr hk)))
  exact ⟨p1, A, c, p2, B, e, p3, C, f, rfl, h1, h2, h3, h4, h5, h6⟩
end Go.Proofs.YtnjmpjdampdmmaaDoor
