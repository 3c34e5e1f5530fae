/- Trees: reading a tree, a field, a number. -/
import Derived.Test.YtikfeemmjfoffaaGreatDoorV0
import Derived.Test.YtikfeemmjfoffaaGreatDoorB1
import Derived.Lib.SmallJoins
set_option linter.unusedVariables false
set_option linter.unusedSimpArgs false
namespace Go.Proofs.YtikfeemmjfoffaaGreatDoor
open Go.RowKit Go.ChangeShapes Go.WideShapes Go.ChangeAt

set_option maxRecDepth 100000 in
theorem read_treeJ {H : Type} {enc : TypeId × Value → H} {w : World} {base : Nat} {spare : Nat → Bool} {held : Bool} {b0 : Nat} {r : Reach} {v : Value} {d : DataW H} {p : List MemPlace} {ts : List TypeId} {ds : List (DataW H)} {j : Nat}
    (hv : Value.okWide Tryz.prog w r b0 27 v) (h : DataW.Trod enc Tryz.prog w base spare held 27 v d p) (hsz : (DataW.weightsEach Tryz.prog ts ds).all (· ≤ reachBytes) = true) (ht : ts[j]? = some 27) (hd0 : ds[j]? = some d) :
    ∃ (t : Tr) (A : Option Addr) (c : Nat) (T : Option Addr) (m : Nat), v = .agg #[.int .i64 t.h, .int .i64 t.b, .slice A t.lv.length c, .slice T t.tb.length m] ∧ Rd w A (ints t.lv) ∧ RT w T t.tb ∧ t.lv.length ≤ 140737488355328 ∧ t.tb.length ≤ 140737488355328 := by
  have hc : Tryz.prog.cellsOf 27 = 4 := by kernel_rfl
  obtain ⟨c0, c1, c2, c3, y0, y1, y2, y3, n, rfl, rfl, rfl, hy0, hy1, hy2, hy3⟩ := Joins.open_agg4 Tryz.underlying27 (by kernel_rfl) hc hv h
  obtain ⟨x0, e0, rfl, _⟩ := DataW.trod_int Tryz.underlying3 hy0
  obtain ⟨x1, e1, rfl, _⟩ := DataW.trod_int Tryz.underlying3 hy1
  have hmem : ∀ k, k ∈ y2.1.weights Tryz.prog 24 ∨ k ∈ y3.1.weights Tryz.prog 25 → k ∈ DataW.weightsEach Tryz.prog ts ds := fun k hk => by
    refine DataW.weights_mem_each ht hd0 k ?_
    simp only [DataW.weights, DataW.weightsEach, Tryz.underlying27, List.map_cons, List.map_nil, List.mem_append, List.nil_append]
    rcases hk with hk | hk
    · exact .inl hk
    · exact .inr (.inl hk)
  obtain ⟨A, c, lv, rfl, hA, hs⟩ := read_ints hy2
  obtain ⟨T, m, tb, rfl, hT, hl⟩ := read_rows hy3 hsz (fun k hk => hmem k (.inr hk))
  simp at e0 e1
  subst e0 e1
  refine ⟨⟨x0, x1, lv, tb⟩, A, c, T, m, rfl, hA, hT, ?_, hl⟩
  rcases hs with h0 | ⟨E, S, hd, hE⟩
  · show lv.length ≤ _; omega
  · exact rows_bound hsz (fun k hk => hmem k (.inl (by rw [hd]; exact hk))) hE
set_option maxRecDepth 100000 in
theorem read_field {H : Type} {enc : TypeId × Value → H} {w : World} {base : Nat} {spare : Nat → Bool} {held : Bool} {b0 : Nat} {r : Reach} {v : Value} {d : DataW H} {p : List MemPlace}
    (hv : Value.okWide Tryz.prog w r b0 23 v) (h : DataW.Trod enc Tryz.prog w base spare held 23 v d p) : ∃ P M : Int, v = fV P M := by
  obtain ⟨c0, c1, y0, y1, n, rfl, rfl, rfl, hy0, hy1⟩ := Joins.open_agg2 Tryz.underlying23 (by kernel_rfl) (by kernel_rfl) hv h
  obtain ⟨x0, e0, rfl, _⟩ := DataW.trod_int Tryz.underlying3 hy0
  obtain ⟨x1, e1, rfl, _⟩ := DataW.trod_int Tryz.underlying3 hy1
  simp at e0 e1
  subst e0 e1
  exact ⟨x0, x1, rfl⟩
set_option maxRecDepth 100000 in
theorem read_int {H : Type} {enc : TypeId × Value → H} {w : World} {base : Nat} {spare : Nat → Bool} {held : Bool} {b0 : Nat} {r : Reach} {v : Value} {d : DataW H} {p : List MemPlace}
    (hv : Value.okWide Tryz.prog w r b0 3 v) (h : DataW.Trod enc Tryz.prog w base spare held 3 v d p) : ∃ z : Int, v = .int .i64 z := by
  obtain ⟨x, rfl, _⟩ := open_int Tryz.underlying3 hv h
  exact ⟨x, rfl⟩
end Go.Proofs.YtikfeemmjfoffaaGreatDoor
