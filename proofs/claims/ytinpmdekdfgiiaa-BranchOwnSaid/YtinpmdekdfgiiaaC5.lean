/- For every branching program the law BranchValid returns true and changes nothing. -/
import Derived.Test.YtinpmdekdfgiiaaC3
import Derived.Test.YtinpmdekdfgiiaaJ5
set_option linter.unusedVariables false
set_option linter.unusedSimpArgs false
namespace Go.Proofs.Ytinpmdekdfgiiaa
open Go.RowKit Go.ChangeShapes Go.WideShapes Go.ChangeAt

set_option maxRecDepth 100000 in
theorem read_branching {H : Type} {enc : TypeId × Value → H} {w : World} {base : Nat} {spare : Nat → Bool} {held : Bool} {b0 : Nat} {r : Reach} {v : Value} {d : DataW H} {p : List MemPlace} {ts : List TypeId} {ds : List (DataW H)}
    (hv : Value.okWide Try.prog w r b0 24 v) (h : DataW.Trod enc Try.prog w base spare held 24 v d p) (hsz : (DataW.weightsEach Try.prog (24 :: ts) (d :: ds)).all (· ≤ reachBytes) = true) :
    ∃ (i s : Int) (A : Option Addr) (c : Nat) (l : List Nd), v = .agg #[.int .i64 i, .int .i64 s, .slice A l.length c] ∧ RN w A l ∧ l.length ≤ 140737488355328 := by
  have hc : Try.prog.cellsOf 24 = 3 := by kernel_rfl
  obtain ⟨c0, c1, c2, y0, y1, y2, m, rfl, rfl, rfl, hy0, hy1, hy2⟩ := Joins.open_agg3 Try.underlying24 (by kernel_rfl) hc hv h
  obtain ⟨x0, e0, rfl, _⟩ := DataW.trod_int Try.underlying3 hy0
  obtain ⟨x1, e1, rfl, _⟩ := DataW.trod_int Try.underlying3 hy1
  obtain ⟨A, c, l, rfl, hR, hs⟩ := read_nodes Try.underlying22 hy2
  simp at e0 e1
  subst e0 e1
  refine ⟨x0, x1, A, c, l, rfl, hR, ?_⟩
  rcases hs with h0 | ⟨E, S, hd, hE⟩
  · omega
  · have hw := List.all_eq_true.1 hsz ((E.length + S.length) * Try.prog.bytesOf 48) (DataW.weights_mem_each (j := 0) rfl rfl _ (by simp [DataW.weights, DataW.weightsEach, Try.underlying24, Try.underlying22, hd]))
    rw [show Try.prog.bytesOf 48 = 24 by kernel_rfl] at hw
    replace hw := of_decide_eq_true hw
    simp only [reachBytes] at hw
    omega

set_option maxRecDepth 100000 in
theorem valid_lifted (os : Os) (started : os.Started) (H : Type) (enc : TypeId × Value → H) :
    ReturnsInHanded {} Try.checked os 3 .any (Rows.branchValidSpec.pre6 enc Try.prog Try.f3 Rows.branchValidRow.domain false) (Rows.branchValidSpec.post enc Try.prog Try.f3 false true false false) := by
  refine returnsInHanded_of_change_sized (C := Try.checked) own started (by kernel_rfl) Try.func3
    (ChangeSpec.witness6 (enc := enc) (C := Try.checked) false ⟨#[], #[.agg #[.int .i64 0, .int .i64 0, .slice none 0 0]], []⟩ 8 (by kernel_rfl) (by kernel_rfl) (by kernel_rfl) (by kernel_rfl)) ?_
  intro W base args ds gs before hval0 hW hcnd hsz0 _
  have hsz : (DataW.weightsEach Try.prog (Try.f3.params.toList ++ Rows.branchValidSpec.plain.varTypes Try.prog) (ds ++ gs)).all (· ≤ reachBytes) = true := hsz0
  clear hsz0
  have hval : ∀ (j : Nat) t v, Try.f3.params[j]? = some t → args[j]? = some v → Value.okWide Try.prog W .any base t v := hval0
  have hW' := hW
  obtain ⟨p, q, hA0, hV, rfl, hfz, hnd⟩ := hW
  have hA : DataW.TrodAll enc Try.prog W 0 (fun _ => true) true Try.f3.params.toList args.toList ds p := hA0
  rw [Try.params3] at hA hval hsz
  obtain ⟨v0, d0, rfl, rfl, h0⟩ := trodAll_one hA
  obtain ⟨rfl, rfl⟩ := trodVars_none hV
  have k0 := h0
  have lt0 : ∀ x ∈ p, x.block < W.heap.size := by obtain ⟨m, hm⟩ := k0; exact DataW.trod_lt m _ _ _ hm
  obtain ⟨i, s, A, c, l, rfl, hR, hlen⟩ := read_branching (hval 0 24 v0 rfl rfl) h0 hsz
  clear hA0 hval0
  refine (law_valid i s A c l W hlen hR).mono fun e W' ⟨he, bel⟩ => ?_
  subst he
  exact ⟨_, rfl, _, _, _, [], _, [], hW', trodAll_mk1 (shut_bool Try.underlying4 _), trodAll_mk1 (Below.trod laidOut (by kernel_rfl) (of_decide_eq_true (by kernel_rfl)) k0 bel lt0), rfl, bel.frame _, fun h => by cases h⟩

theorem valid_holds : Rows.BranchValidSaid :=
  OpenClaim.holds_of_wide 3 Try.f3 rfl rfl rfl rfl rfl rfl rfl ⟨rfl, rfl, rfl, rfl, rfl⟩ rfl rfl rfl rfl rfl (by kernel_rfl) Try.func3 (by kernel_rfl)
    (of_decide_eq_true (by kernel_rfl)) (by unfold Func.isWrapper; first | (rw [if_pos (by decide +kernel)]; kernel_rfl) | (rw [if_neg (by decide +kernel)]; exact ⟨rfl, rfl⟩))
    (fun os started H enc _ => valid_lifted os started H enc)
#print axioms valid_holds
end Go.Proofs.Ytinpmdekdfgiiaa
