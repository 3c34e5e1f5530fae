/- Slim: the map of nodes that have been met. -/
import Derived.Test.YtinpmdekdfgiiaaE3
import Derived.Test.YtinpmdekdfgiiaaLib6
import Derived.Maps.OwnSet
import Derived.Maps.OwnOps
import Derived.DeepKeys4
import Derived.MapViews
import Derived.Lib.SmallJoins
set_option linter.unusedVariables false
set_option linter.unusedSimpArgs false
namespace Go.Proofs.Ytinpmdekdfgiiaa
open Go.RowKit Go.Maps Go.ChangeShapes

theorem laid8 : laidOutB Try.prog = true := by kernel_rfl
theorem nodeLaw : Keyed Try.prog 48 := Keyed.of_law (deep_law_laid laid8 (m := 2) (by omega) (of_decide_eq_true (by kernel_rfl)) (by kernel_rfl) (by rw [Try.underlying48]))
theorem keyType48 : Try.prog.keyType 48 = true := by kernel_rfl
theorem cells48 : Try.prog.cellsOf 48 = 3 := by kernel_rfl
def nodeV (n : Nd) : Value := .agg #[.int .i64 n.v, .int .i64 n.z, .int .i64 n.o]
def nodeLit (n : Nd) : Lit := (DataW.agg (H := Unit) [.lit (.int .i64 n.v), .lit (.int .i64 n.z), .lit (.int .i64 n.o)]).asKey
def i64In (x : Int) : Prop := -9223372036854775808 ≤ x ∧ x ≤ 9223372036854775807
def ndIn (n : Nd) : Prop := i64In n.v ∧ i64In n.z ∧ i64In n.o
theorem i64_wf {x : Int} (h : i64In x) : (Lit.int .i64 x).wf = true := by
  unfold i64In at h
  exact WalkArith.wf_i64 (by omega)
theorem int_trod {x : Int} (h : i64In x) : ∃ n, DataW.trod (fun _ => ()) Try.prog default 0 (fun _ => true) true n 3 [.int .i64 x] = some ((.lit (.int .i64 x) : DataW Unit), []) := by
  obtain ⟨n, hn⟩ := shut_int (H := Unit) (enc := fun _ => ()) (P := Try.prog) (w := default) (base := 0) (spare := fun _ => true) (held := true) Try.underlying3 (i64_wf h)
  exact ⟨n, by simpa [Value.cells] using hn⟩
theorem node_key {n : Nd} (h : ndIn n) : keyOf Try.prog 48 (nodeV n) = some (nodeLit n) :=
  (keyOf_asKey keyType48 (by rw [Try.underlying48]) (by simp [Value.formed, Try.underlying48, cells48])
    (Joins.shut_agg3 Try.underlying48 (by kernel_rfl) cells48 (int_trod h.1) (int_trod h.2.1) (int_trod h.2.2))).1
theorem node_inj {n m : Nd} (hn : ndIn n) (hm : ndIn m) (h : nodeLit n = nodeLit m) : n = m := by
  have := nodeLaw.inj (node_key hn) (by rw [h]; exact node_key hm)
  unfold nodeV at this
  cases n; cases m
  simp at this
  simp [this]
/-- The map holds the places of the nodes. -/
def MapIs (D : DataW Unit) (ns : List Nd) : Prop :=
  ∀ n, ndIn n → has D (nodeLit n) = (idx ns n).isSome ∧ ∀ k, idx ns n = some k → D.atKey (nodeLit n) (.lit (.int .i64 0)) = .lit (.int .i64 k)
theorem mapIs_nil : MapIs (.map []) [] := fun n _ => ⟨by simp [has, idx], fun k h => by simp [idx] at h⟩
theorem mapIs_put {D : DataW Unit} {ns : List Nd} (h : MapIs D ns) (hD : IsMap D) {n : Nd} (hn : ndIn n) (hi : idx ns n = none) : MapIs (D.put (nodeLit n) (.lit (.int .i64 ns.length))) (ns ++ [n]) := by
  intro m hm
  rw [idx_snoc hi]
  by_cases e : m = n
  · subst e
    rw [if_pos rfl]
    refine ⟨by rw [has_put_same hD (nodeLaw.key (node_key hm))]; rfl, fun k hk => ?_⟩
    cases hk
    exact atKey_put_same hD (nodeLaw.key (node_key hm)) _ _
  · rw [if_neg e]
    have hne : nodeLit m ≠ nodeLit n := fun h => e (node_inj hm hn h)
    rw [has_put_other hne, atKey_put_other hne]
    exact h m hm
end Go.Proofs.Ytinpmdekdfgiiaa
