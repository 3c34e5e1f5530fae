/- Trees: reading an argument that is a tree; what the listed variables give. -/
import Derived.Test.YtikfeemmjfoffaaGreatDoorU1
import Derived.ShutString
import Derived.ChangeOld
import Derived.Deep.Slices
import Derived.Lib.SmallJoins
import Derived.SizedLaws
set_option linter.unusedVariables false
set_option linter.unusedSimpArgs false
namespace Go.Proofs.YtikfeemmjfoffaaGreatDoor
open Go.RowKit Go.ChangeShapes Go.WideShapes Go.ChangeAt

theorem own : ownKnob Tryz.prog.godebug = none := by kernel_rfl
theorem laidOut : laidOutB Tryz.prog = true := by kernel_rfl
def intOfV : Value → Int | .int _ n => n | _ => 0
theorem cells3 : Tryz.prog.cellsOf 3 = 1 := by kernel_rfl
theorem cells22 : Tryz.prog.cellsOf 24 = 1 := by kernel_rfl
theorem bytes3 : Tryz.prog.bytesOf 3 = 8 := by kernel_rfl
theorem bytes22 : Tryz.prog.bytesOf 24 = 24 := by kernel_rfl

theorem read_ints {H : Type} {enc : TypeId × Value → H} {w : World} {base : Nat} {spare : Nat → Bool} {held : Bool} {fuel : Nat} {v : Value} {x : DataW H × List MemPlace}
    (h : DataW.trod enc Tryz.prog w base spare held fuel 24 [v] = some x) :
    ∃ (A : Option Addr) (c : Nat) (l : List Int), v = .slice A l.length c ∧ Rd w A (ints l) ∧ (l.length = 0 ∨ ∃ E S, x.1 = .slice E S ∧ E.length = l.length) := by
  rcases Deep.open_slice1 Tryz.underlying24 cells3 h with ⟨hcs, _⟩ | ⟨a, n, cap, m, n', V, D, Pl, hcs, _, hlc, _, hm, hx, hV⟩
  · simp at hcs
    subst hcs
    exact ⟨none, 0, [], rfl, Rd.nil _ _, Or.inl rfl⟩
  · simp at hcs
    subst hcs
    have hml : n ≤ m := by rw [hm]; split <;> omega
    refine ⟨some a, cap, (List.range n).map fun i => intOfV (V i), by simp, ⟨fun hne => ?_⟩, Or.inr ⟨_, _, congrArg Prod.fst hx, by simp⟩⟩
    have hn : 0 < n := by
      rcases Nat.eq_zero_or_pos n with h0 | h0
      · subst h0; exact absurd rfl hne
      · exact h0
    obtain ⟨b, off, spot⟩ := a
    have hspot : spot = none := by simpa [Addr.add] using World.cell?_spot (hV 0 (by omega)).1
    subst hspot
    refine ⟨b, off, rfl, fun j v hj => ?_⟩
    have hjn : j < n := by
      rcases Nat.lt_or_ge j n with h0 | h0
      · exact h0
      · rw [List.getElem?_eq_none (by simpa using h0)] at hj; cases hj
    obtain ⟨h1, h2⟩ := hV j (by omega)
    obtain ⟨bb, e1, _⟩ := DataW.trod_int Tryz.underlying3 h2
    rw [add_at] at h1
    rw [h1]
    simp [ints, hjn] at hj
    rw [← hj]
    injection e1 with e1 _
    rw [e1]
    rfl
theorem weights_all {H : Type} {P : Program} {e : TypeId} {n : Nat} : ∀ {l : List (DataW H)} {d : DataW H}, d ∈ l → n ∈ d.weights P e → n ∈ DataW.weightsAll P e l
  | x :: l, d, hd, hn => by
    rw [DataW.weightsAll, List.mem_append]
    rcases List.mem_cons.1 hd with rfl | hd
    · exact .inl hn
    · exact .inr (weights_all hd hn)
theorem reach_all {ws : List Nat} (h : ws.all (· ≤ reachBytes) = true) {n : Nat} (hn : n ∈ ws) : n ≤ 140737488351232 := by
  have := of_decide_eq_true (List.all_eq_true.1 h n hn)
  simpa only [reachBytes] using this
theorem rows_bound {H : Type} {E S : List (DataW H)} {l : List Int} {ws : List Nat} (h : ws.all (· ≤ reachBytes) = true) (hw : ∀ n ∈ (DataW.slice E S : DataW H).weights Tryz.prog 24, n ∈ ws) (hE : E.length = l.length) : l.length ≤ 140737488355328 := by
  have := reach_all h (hw ((E.length + S.length) * Tryz.prog.bytesOf 3) (by simp [DataW.weights, Tryz.underlying24]))
  rw [bytes3] at this
  omega

theorem read_rows {H : Type} {enc : TypeId × Value → H} {w : World} {base : Nat} {spare : Nat → Bool} {held : Bool} {fuel : Nat} {v : Value} {x : DataW H × List MemPlace} {ws : List Nat}
    (h : DataW.trod enc Tryz.prog w base spare held fuel 25 [v] = some x) (hws : ws.all (· ≤ reachBytes) = true) (hw : ∀ n ∈ x.1.weights Tryz.prog 25, n ∈ ws) :
    ∃ (T : Option Addr) (c : Nat) (tb : List (List Int)), v = .slice T tb.length c ∧ RT w T tb ∧ tb.length ≤ 140737488355328 := by
  rcases Deep.open_slice1 Tryz.underlying25 cells22 h with ⟨hcs, _⟩ | ⟨a, n, cap, m, n', V, D, Pl, hcs, _, hlc, _, hm, hx, hV⟩
  · simp at hcs
    subst hcs
    exact ⟨none, 0, [], rfl, fun j hj => absurd hj (by simp), by simp⟩
  · simp at hcs
    subst hcs
    have hml : n ≤ m := by rw [hm]; split <;> omega
    have hx1 := congrArg Prod.fst hx
    dsimp only at hx1
    rw [hx1] at hw
    have hb := reach_all hws (hw ((((List.range n).map D).length + ((List.range (m - n)).map fun j => D (n + j)).length) * Tryz.prog.bytesOf 24) (by simp [DataW.weights, Tryz.underlying25]))
    rw [bytes22, List.length_map, List.length_range] at hb
    obtain ⟨L, hL⟩ := Deep.choose_lt (n := n) (p := fun i (l : List Int) => ∃ A c, V i = .slice A l.length c ∧ Rd w A (ints l) ∧ l.length ≤ 140737488355328) (fun i hi => by
      obtain ⟨h1, h2⟩ := hV i (by omega)
      obtain ⟨A, c, l, e1, hR, hs⟩ := read_ints h2
      refine ⟨l, A, c, e1, hR, ?_⟩
      rcases hs with h0 | ⟨E, S, hd, hE⟩
      · omega
      · refine rows_bound (S := S) hws (fun k hk => hw k ?_) hE
        have hk' : k ∈ (D i).weights Tryz.prog 24 := by rw [show D i = .slice E S from hd]; exact hk
        have := weights_all (e := 24) (List.mem_map_of_mem (f := D) (List.mem_range.2 hi)) hk'
        simp only [DataW.weights, Tryz.underlying25, List.mem_cons, List.mem_append]
        exact .inr (.inl this))
    refine ⟨some a, cap, (List.range n).map L, by simp, fun j hj => ?_, by simp; omega⟩
    have hjn : j < n := by simpa using hj
    obtain ⟨b, off, spot⟩ := a
    have hspot : spot = none := by simpa [Addr.add] using World.cell?_spot (hV 0 (by omega)).1
    subst hspot
    obtain ⟨h1, _⟩ := hV j (by omega)
    obtain ⟨A, c, e1, hR, hl⟩ := hL j hjn
    have eL : ((List.range n).map L).getD j [] = L j := by simp [List.getD_eq_getElem?_getD, hjn]
    rw [add_at, e1] at h1
    exact ⟨b, off, A, c, rfl, by rw [eL]; exact h1, by rw [eL]; exact hR, by rw [eL]; exact hl⟩

set_option maxRecDepth 100000 in
theorem read_tree {H : Type} {enc : TypeId × Value → H} {w : World} {base : Nat} {spare : Nat → Bool} {held : Bool} {b0 : Nat} {r : Reach} {v : Value} {d : DataW H} {p : List MemPlace} {ts : List TypeId} {ds : List (DataW H)}
    (hv : Value.okWide Tryz.prog w r b0 27 v) (h : DataW.Trod enc Tryz.prog w base spare held 27 v d p) (hsz : (DataW.weightsEach Tryz.prog (27 :: ts) (d :: ds)).all (· ≤ reachBytes) = true) :
    ∃ (t : Tr) (A : Option Addr) (c : Nat) (T : Option Addr) (m : Nat), v = .agg #[.int .i64 t.h, .int .i64 t.b, .slice A t.lv.length c, .slice T t.tb.length m] ∧ Rd w A (ints t.lv) ∧ RT w T t.tb ∧ t.lv.length ≤ 140737488355328 ∧ t.tb.length ≤ 140737488355328 := by
  have hc : Tryz.prog.cellsOf 27 = 4 := by kernel_rfl
  obtain ⟨c0, c1, c2, c3, y0, y1, y2, y3, n, rfl, rfl, rfl, hy0, hy1, hy2, hy3⟩ := Joins.open_agg4 Tryz.underlying27 (by kernel_rfl) hc hv h
  obtain ⟨x0, e0, rfl, _⟩ := DataW.trod_int Tryz.underlying3 hy0
  obtain ⟨x1, e1, rfl, _⟩ := DataW.trod_int Tryz.underlying3 hy1
  have hmem : ∀ k, k ∈ y2.1.weights Tryz.prog 24 ∨ k ∈ y3.1.weights Tryz.prog 25 → k ∈ DataW.weightsEach Tryz.prog (27 :: ts) ((DataW.agg [DataW.lit (.int .i64 x0), DataW.lit (.int .i64 x1), y2.1, y3.1] : DataW H) :: ds) := fun k hk => by
    refine DataW.weights_mem_each (j := 0) rfl rfl k ?_
    simp only [DataW.weights, DataW.weightsEach, Tryz.underlying27, List.map_cons, List.map_nil, List.mem_append, List.nil_append]
    rcases hk with hk | hk
    · exact .inl hk
    · exact .inr (.inl hk)
  obtain ⟨A, c, lv, rfl, hA, hs⟩ := read_ints hy2
  obtain ⟨T, m, tb, rfl, hT, hl⟩ := read_rows hy3 hsz (fun k hk => hmem k (.inr hk))
  simp at e0 e1
  subst e0 e1
  refine ⟨⟨x0, x1, lv, tb⟩, A, c, T, m, rfl, hA, hT, ?_, hl⟩
  rcases hs with h0 | ⟨E, S, hd, hE⟩
  · show lv.length ≤ _; omega
  · exact rows_bound hsz (fun k hk => hmem k (.inl (by rw [hd]; exact hk))) hE
end Go.Proofs.YtikfeemmjfoffaaGreatDoor
