/- Polynomials: reading arguments: fields, polynomials, lists of numbers and of bools. -/
import Derived.Test.YtnjmpjdampdmmaaGreatDoorV0
import Derived.ShutString
import Derived.ChangeOld
import Derived.Deep.Slices
import Derived.Deep.SlicePairs
import Derived.Lib.SmallJoins
import Derived.SizedLaws
set_option linter.unusedVariables false
set_option linter.unusedSimpArgs false
namespace Go.Proofs.YtnjmpjdampdmmaaGreatDoor
open Go.RowKit Go.ChangeShapes Go.WideShapes Go.ChangeAt

theorem own : ownKnob Tryz.prog.godebug = none := by kernel_rfl
theorem laidOut : laidOutB Tryz.prog = true := by kernel_rfl
def intOfV : Value → Int | .int _ n => n | _ => 0
def boolOf : Value → Bool | .bool b => b | _ => false
theorem cells3 : Tryz.prog.cellsOf 3 = 1 := by kernel_rfl
theorem cells56 : Tryz.prog.cellsOf 53 = 1 := by kernel_rfl
theorem bytes3 : Tryz.prog.bytesOf 3 = 8 := by kernel_rfl
theorem cells67 : Tryz.prog.cellsOf 64 = 2 := by kernel_rfl
theorem bytes67 : Tryz.prog.bytesOf 64 = 32 := by kernel_rfl

theorem read_ints {H : Type} {enc : TypeId × Value → H} {w : World} {base : Nat} {spare : Nat → Bool} {held : Bool} {fuel : Nat} {v : Value} {x : DataW H × List MemPlace}
    (h : DataW.trod enc Tryz.prog w base spare held fuel 53 [v] = some x) :
    ∃ (A : Option Addr) (c : Nat) (l : List Int), v = .slice A l.length c ∧ Rd w A (ints l) ∧ (l.length = 0 ∨ ∃ E S, x.1 = .slice E S ∧ E.length = l.length) := by
  rcases Deep.open_slice1 Tryz.underlying53 cells3 h with ⟨hcs, _⟩ | ⟨a, n, cap, m, n', V, D, Pl, hcs, _, hlc, _, hm, hx, hV⟩
  · simp at hcs
    subst hcs
    exact ⟨none, 0, [], rfl, Rd.nil _ _, Or.inl rfl⟩
  · simp at hcs
    subst hcs
    have hml : n ≤ m := by rw [hm]; split <;> omega
    refine ⟨some a, cap, (List.range n).map fun i => intOfV (V i), by simp, ⟨fun hne => ?_⟩, Or.inr ⟨_, _, congrArg Prod.fst hx, by simp⟩⟩
    have hn : 0 < n := by
      rcases Nat.eq_zero_or_pos n with h0 | h0
      · subst h0; exact absurd rfl hne
      · exact h0
    obtain ⟨b, off, spot⟩ := a
    have hspot : spot = none := by simpa [Addr.add] using World.cell?_spot (hV 0 (by omega)).1
    subst hspot
    refine ⟨b, off, rfl, fun j v hj => ?_⟩
    have hjn : j < n := by
      rcases Nat.lt_or_ge j n with h0 | h0
      · exact h0
      · rw [List.getElem?_eq_none (by simpa using h0)] at hj; cases hj
    obtain ⟨h1, h2⟩ := hV j (by omega)
    obtain ⟨bb, e1, _⟩ := DataW.trod_int Tryz.underlying3 h2
    rw [add_at] at h1
    rw [h1]
    simp [ints, hjn] at hj
    rw [← hj]
    injection e1 with e1 _
    rw [e1]
    rfl
theorem read_bools {H : Type} {enc : TypeId × Value → H} {P : Program} {w : World} {base : Nat} {spare : Nat → Bool} {held : Bool} {t e : TypeId} {fuel : Nat} {A : Option Addr} {n c : Nat} {x : DataW H × List MemPlace}
    (ht : P.underlying t = some (.slice e)) (he : P.underlying e = some .bool) (hc : P.cellsOf e = 1) (h : DataW.trod enc P w base spare held fuel t (Value.slice A n c).cells.toList = some x) :
    ∃ l : List Bool, n = l.length ∧ Rd w A (bools l) ∧ (n = 0 ∨ ∃ E S, x.1 = .slice E S ∧ E.length = n) := by
  rcases Deep.open_slice1 ht hc h with ⟨hcs, _⟩ | ⟨a, len, cap, m, n', V, D, Pl, hcs, _, hlc, _, hm, hx, hV⟩
  · simp [Value.cells] at hcs
    obtain ⟨rfl, rfl, rfl⟩ := hcs
    exact ⟨[], rfl, Rd.nil _ _, Or.inl rfl⟩
  · simp [Value.cells] at hcs
    obtain ⟨rfl, rfl, rfl⟩ := hcs
    have hml : n ≤ m := by rw [hm]; split <;> omega
    refine ⟨(List.range n).map fun i => boolOf (V i), by simp, ⟨fun hne => ?_⟩, Or.inr ⟨_, _, congrArg Prod.fst hx, by simp⟩⟩
    have hn : 0 < n := by
      rcases Nat.eq_zero_or_pos n with h0 | h0
      · subst h0; exact absurd rfl hne
      · exact h0
    obtain ⟨b, off, spot⟩ := a
    have hspot : spot = none := by simpa [Addr.add] using World.cell?_spot (hV 0 (by omega)).1
    subst hspot
    refine ⟨b, off, rfl, fun j v hj => ?_⟩
    have hjn : j < n := by
      rcases Nat.lt_or_ge j n with h0 | h0
      · exact h0
      · rw [List.getElem?_eq_none (by simpa using h0)] at hj; cases hj
    obtain ⟨h1, h2⟩ := hV j (by omega)
    obtain ⟨bb, e1, _⟩ := DataW.trod_bool he h2
    rw [add_at] at h1
    rw [h1]
    simp [bools, hjn] at hj
    rw [← hj]
    injection e1 with e1 _
    rw [e1]
    rfl
theorem weights_all {H : Type} {P : Program} {e : TypeId} {n : Nat} : ∀ {l : List (DataW H)} {d : DataW H}, d ∈ l → n ∈ d.weights P e → n ∈ DataW.weightsAll P e l
  | x :: l, d, hd, hn => by
    rw [DataW.weightsAll, List.mem_append]
    rcases List.mem_cons.1 hd with rfl | hd
    · exact .inl hn
    · exact .inr (weights_all hd hn)
theorem reach_all {ws : List Nat} (h : ws.all (· ≤ reachBytes) = true) {n : Nat} (hn : n ∈ ws) : n ≤ 140737488351232 := by
  have := of_decide_eq_true (List.all_eq_true.1 h n hn)
  simpa only [reachBytes] using this
theorem rows_bound {H : Type} {E S : List (DataW H)} {l : List Int} {ws : List Nat} (h : ws.all (· ≤ reachBytes) = true) (hw : ∀ n ∈ (DataW.slice E S : DataW H).weights Tryz.prog 53, n ∈ ws) (hE : E.length = l.length) : l.length ≤ 140737488355328 := by
  have := reach_all h (hw ((E.length + S.length) * Tryz.prog.bytesOf 3) (by simp [DataW.weights, Tryz.underlying53]))
  rw [bytes3] at this
  omega

instance : Inhabited Tm := ⟨⟨0, []⟩⟩
/-- A polynomial that is read by type 25. -/
theorem read_cells {H : Type} {enc : TypeId × Value → H} {w : World} {base : Nat} {spare : Nat → Bool} {held : Bool} {fuel : Nat} {v : Value} {x : DataW H × List MemPlace} {ws : List Nat}
    (h : DataW.trod enc Tryz.prog w base spare held fuel 25 [v] = some x) (hws : ws.all (· ≤ reachBytes) = true) (hw : ∀ n ∈ x.1.weights Tryz.prog 25, n ∈ ws) :
    ∃ (A : Option Addr) (c : Nat) (p : List Tm), v = .slice A p.length c ∧ RP w A p ∧ p.length ≤ 140737488355328 := by
  rcases Deep.open_slice_pairs Tryz.underlying25 Tryz.underlying64 cells67 rfl rfl cells3 cells56 h with ⟨hcs, _⟩ | ⟨a, n, cap, m, n', V0, V1, D0, D1, P0, P1, hcs, _, hlc, _, hm, hx, hV⟩
  · simp at hcs
    subst hcs
    exact ⟨none, 0, [], rfl, RP.nil _ _, by simp⟩
  · simp at hcs
    subst hcs
    have hml : n ≤ m := by rw [hm]; split <;> omega
    have hx1 := congrArg Prod.fst hx
    dsimp only at hx1
    rw [hx1] at hw
    have hb := reach_all hws (hw ((((List.range n).map fun i => DataW.agg [D0 i, D1 i]).length + ((List.range (m - n)).map fun j => DataW.agg [D0 (n + j), D1 (n + j)]).length) * Tryz.prog.bytesOf 64) (by simp [DataW.weights, Tryz.underlying25]))
    rw [bytes67, List.length_map, List.length_range] at hb
    obtain ⟨L, hL⟩ := Deep.choose_lt (n := n) (p := fun i (t : Tm) => V0 i = .int .i64 t.c ∧ ∃ A c, V1 i = .slice A t.e.length c ∧ Rd w A (ints t.e) ∧ t.e.length ≤ 140737488355328) (fun i hi => by
      obtain ⟨h1, h2, h3, h4⟩ := hV i (by omega)
      obtain ⟨z, e1, _⟩ := DataW.trod_int Tryz.underlying3 h3
      simp at e1
      obtain ⟨A, c, l, e2, hR, hs⟩ := read_ints h4
      refine ⟨⟨z, l⟩, e1, A, c, e2, hR, ?_⟩
      rcases hs with h0 | ⟨E, S, hd, hE⟩
      · show l.length ≤ _; omega
      · refine rows_bound (S := S) hws (fun k hk => hw k ?_) hE
        have hk' : k ∈ (D1 i).weights Tryz.prog 53 := by rw [show D1 i = .slice E S from hd]; exact hk
        have h5 : k ∈ (DataW.agg [D0 i, D1 i] : DataW H).weights Tryz.prog 64 := by
          simp only [DataW.weights, DataW.weightsEach, Tryz.underlying64, List.map_cons, List.map_nil, List.mem_append, List.nil_append]
          exact .inr (.inl hk')
        have := weights_all (e := 64) (List.mem_map_of_mem (f := fun i => DataW.agg [D0 i, D1 i]) (List.mem_range.2 hi)) h5
        simp only [DataW.weights, Tryz.underlying25, List.mem_cons, List.mem_append]
        exact .inr (.inl this))
    refine ⟨some a, cap, (List.range n).map L, by simp, fun j hj => ?_, by simp; omega⟩
    have hjn : j < n := by simpa using hj
    obtain ⟨b, off, spot⟩ := a
    have hspot : spot = none := by simpa [Addr.add] using World.cell?_spot (hV 0 (by omega)).1
    subst hspot
    obtain ⟨h1, h2, _, _⟩ := hV j (by omega)
    obtain ⟨e0, A, c, e1, hR, hl⟩ := hL j hjn
    have eL : tmv ((List.range n).map L) j = L j := by simp [tmv, List.getD_eq_getElem?_getD, hjn]
    rw [add_at, e0] at h1
    rw [add_at, e1] at h2
    rw [eL]
    exact ⟨b, off, A, c, rfl, h1, by rw [Nat.add_assoc]; exact h2, hR, hl⟩

set_option maxRecDepth 100000 in
theorem read_poly {H : Type} {enc : TypeId × Value → H} {w : World} {base : Nat} {spare : Nat → Bool} {held : Bool} {b0 : Nat} {r : Reach} {v : Value} {d : DataW H} {p : List MemPlace} {ts : List TypeId} {ds : List (DataW H)} {j : Nat}
    (hv : Value.okWide Tryz.prog w r b0 25 v) (h : DataW.Trod enc Tryz.prog w base spare held 25 v d p) (hsz : (DataW.weightsEach Tryz.prog ts ds).all (· ≤ reachBytes) = true) (ht : ts[j]? = some 25) (hd : ds[j]? = some d) :
    ∃ (p : List Tm) (A : Option Addr) (c : Nat), v = .slice A p.length c ∧ RP w A p ∧ p.length ≤ 140737488355328 := by
  obtain ⟨a, len, cap, rfl⟩ := okWide_slice Tryz.underlying25 hv
  obtain ⟨fuel, hf⟩ := h
  obtain ⟨A, c, q, e, h1, h2⟩ := read_cells (ws := DataW.weightsEach Tryz.prog ts ds) hf hsz (fun n hn => DataW.weights_mem_each ht hd n hn)
  exact ⟨q, A, c, e, h1, h2⟩
set_option maxRecDepth 100000 in
theorem read_field {H : Type} {enc : TypeId × Value → H} {w : World} {base : Nat} {spare : Nat → Bool} {held : Bool} {b0 : Nat} {r : Reach} {v : Value} {d : DataW H} {p : List MemPlace}
    (hv : Value.okWide Tryz.prog w r b0 23 v) (h : DataW.Trod enc Tryz.prog w base spare held 23 v d p) : ∃ P M : Int, v = fV P M := by
  obtain ⟨c0, c1, y0, y1, n, rfl, rfl, rfl, hy0, hy1⟩ := Joins.open_agg2 Tryz.underlying23 (by kernel_rfl) (by kernel_rfl) hv h
  obtain ⟨x0, e0, rfl, _⟩ := DataW.trod_int Tryz.underlying3 hy0
  obtain ⟨x1, e1, rfl, _⟩ := DataW.trod_int Tryz.underlying3 hy1
  simp at e0 e1
  subst e0 e1
  exact ⟨x0, x1, rfl⟩
set_option maxRecDepth 100000 in
theorem read_int {H : Type} {enc : TypeId × Value → H} {w : World} {base : Nat} {spare : Nat → Bool} {held : Bool} {b0 : Nat} {r : Reach} {v : Value} {d : DataW H} {p : List MemPlace}
    (hv : Value.okWide Tryz.prog w r b0 3 v) (h : DataW.Trod enc Tryz.prog w base spare held 3 v d p) : ∃ z : Int, v = .int .i64 z := by
  obtain ⟨x, rfl, _⟩ := open_int Tryz.underlying3 hv h
  exact ⟨x, rfl⟩
set_option maxRecDepth 100000 in
theorem read_list {H : Type} {enc : TypeId × Value → H} {w : World} {base : Nat} {spare : Nat → Bool} {held : Bool} {b0 : Nat} {r : Reach} {v : Value} {d : DataW H} {p : List MemPlace} {ts : List TypeId} {ds : List (DataW H)} {j : Nat}
    (hv : Value.okWide Tryz.prog w r b0 53 v) (h : DataW.Trod enc Tryz.prog w base spare held 53 v d p) (hsz : (DataW.weightsEach Tryz.prog ts ds).all (· ≤ reachBytes) = true) (ht : ts[j]? = some 53) (hd : ds[j]? = some d) :
    ∃ (l : List Int) (A : Option Addr) (c : Nat), v = .slice A l.length c ∧ Rd w A (ints l) ∧ l.length ≤ 140737488355328 := by
  obtain ⟨a, len, cap, rfl⟩ := okWide_slice Tryz.underlying53 hv
  obtain ⟨fuel, hf⟩ := h
  obtain ⟨A, c, q, e, h1, hs⟩ := read_ints hf
  refine ⟨q, A, c, e, h1, ?_⟩
  rcases hs with h0 | ⟨E, S, hd', hE⟩
  · omega
  · exact rows_bound (S := S) hsz (fun k hk => DataW.weights_mem_each ht hd k (by rw [show d = .slice E S from hd']; exact hk)) hE
theorem cells4 : Tryz.prog.cellsOf 4 = 1 := by kernel_rfl
theorem bytes4 : Tryz.prog.bytesOf 4 = 1 := by kernel_rfl
set_option maxRecDepth 100000 in
theorem read_boolL {H : Type} {enc : TypeId × Value → H} {w : World} {base : Nat} {spare : Nat → Bool} {held : Bool} {b0 : Nat} {r : Reach} {v : Value} {d : DataW H} {p : List MemPlace} {ts : List TypeId} {ds : List (DataW H)} {j : Nat}
    (hv : Value.okWide Tryz.prog w r b0 66 v) (h : DataW.Trod enc Tryz.prog w base spare held 66 v d p) (hsz : (DataW.weightsEach Tryz.prog ts ds).all (· ≤ reachBytes) = true) (ht : ts[j]? = some 66) (hd : ds[j]? = some d) :
    ∃ (l : List Bool) (A : Option Addr) (c : Nat), v = .slice A l.length c ∧ Rd w A (bools l) ∧ l.length ≤ 140737488355328 := by
  obtain ⟨a, len, cap, rfl⟩ := okWide_slice Tryz.underlying66 hv
  obtain ⟨fuel, hf⟩ := h
  obtain ⟨l, hn, hR, hs⟩ := read_bools Tryz.underlying66 Tryz.underlying4 cells4 hf
  subst hn
  refine ⟨l, a, cap, rfl, hR, ?_⟩
  rcases hs with h0 | ⟨E, S, hd', hE⟩
  · omega
  · have := reach_all hsz (DataW.weights_mem_each ht hd ((E.length + S.length) * Tryz.prog.bytesOf 4) (by rw [show d = .slice E S from hd']; simp [DataW.weights, Tryz.underlying66]))
    rw [bytes4] at this
    omega
end Go.Proofs.YtnjmpjdampdmmaaGreatDoor
