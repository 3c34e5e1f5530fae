/- Joined: C1, C2, C4. -/
import Derived.Test.YtinpmdekdfgiiaaJ4
import Derived.ShutString
import Derived.ChangeOld
import Derived.Deep.Slices
import Derived.Lib.SmallJoins
import Derived.Deep.Strs
/- The law BranchLeast: the walk. -/
set_option linter.unusedVariables false
set_option linter.unusedSimpArgs false
namespace Go.Proofs.Ytinpmdekdfgiiaa
open Go.RowKit

end Go.Proofs.Ytinpmdekdfgiiaa

/- For every slice of truth values the law BranchLeast returns true and changes nothing. -/
set_option linter.unusedVariables false
set_option linter.unusedSimpArgs false
namespace Go.Proofs.Ytinpmdekdfgiiaa
open Go.RowKit Go.ChangeShapes Go.WideShapes Go.ChangeAt

theorem own : ownKnob Try.prog.godebug = none := by kernel_rfl
theorem laidOut : laidOutB Try.prog = true := by kernel_rfl

/-- The truth value in a cell. -/
def boolOf : Value → Bool | .bool b => b | _ => false

theorem read_bools {H : Type} {enc : TypeId × Value → H} {P : Program} {w : World} {base : Nat} {spare : Nat → Bool} {held : Bool} {t e : TypeId} {fuel : Nat} {A : Option Addr} {n c : Nat} {x : DataW H × List MemPlace}
    (ht : P.underlying t = some (.slice e)) (he : P.underlying e = some .bool) (hc : P.cellsOf e = 1) (h : DataW.trod enc P w base spare held fuel t (Value.slice A n c).cells.toList = some x) :
    ∃ l : List Bool, n = l.length ∧ Rd w A (bools l) ∧ (n = 0 ∨ ∃ E S, x.1 = .slice E S ∧ E.length = n) := by
  rcases Deep.open_slice1 ht hc h with ⟨hcs, _⟩ | ⟨a, len, cap, m, n', V, D, Pl, hcs, _, hlc, _, hm, hx, hV⟩
  · simp [Value.cells] at hcs
    obtain ⟨rfl, rfl, rfl⟩ := hcs
    exact ⟨[], rfl, Rd.nil _ _, Or.inl rfl⟩
  · simp [Value.cells] at hcs
    obtain ⟨rfl, rfl, rfl⟩ := hcs
    have hml : n ≤ m := by rw [hm]; split <;> omega
    refine ⟨(List.range n).map fun i => boolOf (V i), by simp, ⟨fun hne => ?_⟩, Or.inr ⟨_, _, congrArg Prod.fst hx, by simp⟩⟩
    have hn : 0 < n := by
      rcases Nat.eq_zero_or_pos n with h0 | h0
      · subst h0; exact absurd rfl hne
      · exact h0
    obtain ⟨b, off, spot⟩ := a
    have hspot : spot = none := by simpa [Addr.add] using World.cell?_spot (hV 0 (by omega)).1
    subst hspot
    refine ⟨b, off, rfl, fun j v hj => ?_⟩
    have hjn : j < n := by
      rcases Nat.lt_or_ge j n with h0 | h0
      · exact h0
      · rw [List.getElem?_eq_none (by simpa using h0)] at hj; cases hj
    obtain ⟨h1, h2⟩ := hV j (by omega)
    obtain ⟨bb, e1, _⟩ := DataW.trod_bool he h2
    rw [add_at] at h1
    rw [h1]
    simp [bools, hjn] at hj
    rw [← hj]
    injection e1 with e1 _
    rw [e1]
    rfl

end Go.Proofs.Ytinpmdekdfgiiaa

/- Reading an argument that is a branching program: its two numbers and its nodes. -/
set_option linter.unusedVariables false
set_option linter.unusedSimpArgs false
namespace Go.Proofs.Ytinpmdekdfgiiaa
open Go.RowKit Go.ChangeShapes Go.WideShapes Go.ChangeAt

theorem read_node {H : Type} {enc : TypeId × Value → H} {w : World} {base : Nat} {spare : Nat → Bool} {held : Bool} {fuel : Nat} {cs : List Value} {x : DataW H × List MemPlace}
    (h : DataW.trod enc Try.prog w base spare held fuel 48 cs = some x) : ∃ n : Nd, cs = [.int .i64 n.v, .int .i64 n.z, .int .i64 n.o] := by
  obtain ⟨y0, y1, y2, n, _, hl, h0, h1, h2⟩ := Deep.trod_struct3 Try.underlying48 h
  rw [show Try.prog.cellsOf 48 = 3 by kernel_rfl] at hl
  rw [show Try.prog.cellsOf 3 = 1 by kernel_rfl] at h0 h1 h2
  match cs, hl with
  | [a, b, c], _ =>
    obtain ⟨x0, e0, _⟩ := DataW.trod_int Try.underlying3 h0
    obtain ⟨x1, e1, _⟩ := DataW.trod_int Try.underlying3 h1
    obtain ⟨x2, e2, _⟩ := DataW.trod_int Try.underlying3 h2
    simp at e0 e1 e2
    subst e0 e1 e2
    exact ⟨⟨x0, x1, x2⟩, rfl⟩

theorem cells_map (n : Nat) (N : Nat → Nd) {j : Nat} (h : j < n * 3) : (ndCells ((List.range n).map N))[j]? = [Value.int .i64 (N (j / 3)).v, .int .i64 (N (j / 3)).z, .int .i64 (N (j / 3)).o][j % 3]? := by
  have hk : j / 3 < ((List.range n).map N).length := by simp; omega
  obtain ⟨h0, h1, h2⟩ := ndCells_get ((List.range n).map N) (j / 3) hk
  have hd : ((List.range n).map N).getD (j / 3) ⟨0, 0, 0⟩ = N (j / 3) := by
    have hk' : j / 3 < n := by omega
    simp [List.getD, hk']
  unfold nv at h0
  unfold nz at h1
  unfold no at h2
  rw [hd] at h0 h1 h2
  have hm : j % 3 = 0 ∨ j % 3 = 1 ∨ j % 3 = 2 := by omega
  rcases hm with hm | hm | hm
  · rw [hm, show j = j / 3 * 3 by omega, h0, ← show j = j / 3 * 3 by omega]; rfl
  · rw [hm, show j = j / 3 * 3 + 1 by omega, h1, ← show j = j / 3 * 3 + 1 by omega]; rfl
  · rw [hm, show j = j / 3 * 3 + 2 by omega, h2, ← show j = j / 3 * 3 + 2 by omega]; rfl

theorem read_nodes {H : Type} {enc : TypeId × Value → H} {w : World} {base : Nat} {spare : Nat → Bool} {held : Bool} {t : TypeId} {fuel : Nat} {v : Value} {x : DataW H × List MemPlace}
    (ht : Try.prog.underlying t = some (.slice 48)) (h : DataW.trod enc Try.prog w base spare held fuel t [v] = some x) :
    ∃ (A : Option Addr) (c : Nat) (l : List Nd), v = .slice A l.length c ∧ RN w A l ∧ (l.length = 0 ∨ ∃ E S, x.1 = .slice E S ∧ E.length = l.length) := by
  rcases Deep.open_slice ht h with ⟨hcs, _⟩ | ⟨a, n, c, m, n', D, Pl, hcs, _, _, _, hm, hx, hV⟩
  · simp at hcs
    subst hcs
    exact ⟨none, 0, [], rfl, Rd.nil _ _, Or.inl rfl⟩
  · simp at hcs
    subst hcs
    have hml : n ≤ m := by rw [hm]; split <;> omega
    rw [show Try.prog.cellsOf 48 = 3 by kernel_rfl] at hV
    obtain ⟨N, hN⟩ := Deep.choose_lt (n := n) (p := fun i (d : Nd) => w.cells? base (a.add (i * 3)) 3 = some [.int .i64 d.v, .int .i64 d.z, .int .i64 d.o]) (fun i hi => by
      obtain ⟨cs', h1, h2⟩ := hV i (by omega)
      obtain ⟨d, rfl⟩ := read_node h2
      exact ⟨d, h1⟩)
    refine ⟨some a, c, (List.range n).map N, by simp, ⟨fun hne => ?_⟩, Or.inr ⟨_, _, congrArg Prod.fst hx, by simp⟩⟩
    have hn : 0 < n := by
      rcases Nat.eq_zero_or_pos n with h0 | h0
      · subst h0; exact absurd rfl hne
      · exact h0
    obtain ⟨b, off, spot⟩ := a
    have hspot : spot = none := by
      have := (World.cells?_some (hN 0 hn)).2.2 0 (by omega)
      simpa [Addr.add] using World.cell?_spot this
    subst hspot
    refine ⟨b, off, rfl, fun j u hj => ?_⟩
    have hjn : j < n * 3 := by
      rcases Nat.lt_or_ge j (n * 3) with h0 | h0
      · exact h0
      · rw [List.getElem?_eq_none (by rw [ndCells_length]; simpa using h0)] at hj; cases hj
    rw [cells_map n N hjn] at hj
    have h1 := (World.cells?_some (hN (j / 3) (by omega))).2.2 (j % 3) (by omega)
    rw [hj, add_at, add_at, show off + j / 3 * 3 + j % 3 = off + j by omega] at h1
    exact h1
end Go.Proofs.Ytinpmdekdfgiiaa
