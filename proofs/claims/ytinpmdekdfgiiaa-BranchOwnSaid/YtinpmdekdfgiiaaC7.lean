/- For every branching program and list of truth values the law BranchRuns returns true and changes nothing. -/
import Derived.Test.YtinpmdekdfgiiaaC5
import Derived.Test.YtinpmdekdfgiiaaC6
set_option linter.unusedVariables false
set_option linter.unusedSimpArgs false
namespace Go.Proofs.Ytinpmdekdfgiiaa
open Go.RowKit Go.ChangeShapes Go.WideShapes Go.ChangeAt

theorem bools_bound {H : Type} {t : List Bool} {d : DataW H} {ts : List TypeId} {ds : List (DataW H)} {j : Nat}
    (hts : ts[j]? = some 29) (hds : ds[j]? = some d) (hsz : (DataW.weightsEach Try.prog ts ds).all (· ≤ reachBytes) = true) (hshape : t.length = 0 ∨ ∃ E S, d = .slice E S ∧ E.length = t.length) : t.length ≤ 140737488355328 := by
  rcases hshape with h0 | ⟨E, S, hd, hE⟩
  · omega
  · subst hd
    have := sized_slice hsz (j := j) (t := 29) (e := 4) hts hds Try.underlying29
    rw [show Try.prog.bytesOf 4 = 1 by kernel_rfl] at this
    simp only [reachBytes] at this
    omega

set_option maxRecDepth 100000 in
theorem runs_lifted (os : Os) (started : os.Started) (H : Type) (enc : TypeId × Value → H) :
    ReturnsInHanded {} Try.checked os 5 .any (Rows.branchRunsSpec.pre6 enc Try.prog Try.f5 Rows.branchRunsRow.domain false) (Rows.branchRunsSpec.post enc Try.prog Try.f5 false true false false) := by
  refine returnsInHanded_of_change_sized (C := Try.checked) own started (by kernel_rfl) Try.func5
    (ChangeSpec.witness6 (enc := enc) (C := Try.checked) false ⟨#[], #[.agg #[.int .i64 0, .int .i64 0, .slice none 0 0], .slice none 0 0], []⟩ 8 (by kernel_rfl) (by kernel_rfl) (by kernel_rfl) (by kernel_rfl)) ?_
  intro W base args ds gs before hval0 hW hcnd hsz0 _
  have hsz : (DataW.weightsEach Try.prog (Try.f5.params.toList ++ Rows.branchRunsSpec.plain.varTypes Try.prog) (ds ++ gs)).all (· ≤ reachBytes) = true := hsz0
  clear hsz0
  have hval : ∀ (j : Nat) t v, Try.f5.params[j]? = some t → args[j]? = some v → Value.okWide Try.prog W .any base t v := hval0
  have hW' := hW
  obtain ⟨p, q, hA0, hV, rfl, hfz, hnd⟩ := hW
  have hA : DataW.TrodAll enc Try.prog W 0 (fun _ => true) true Try.f5.params.toList args.toList ds p := hA0
  rw [Try.params5] at hA hval hsz
  obtain ⟨v0, v1, d0, d1, p0, p1, rfl, rfl, rfl, h0, h1⟩ := trodAll_two hA
  obtain ⟨rfl, rfl⟩ := trodVars_none hV
  obtain ⟨a1, len1, cap1, rfl⟩ := okWide_slice Try.underlying29 (hval 1 29 v1 rfl rfl)
  have k0 := h0
  have k1 := h1
  have lt0 : ∀ x ∈ p0, x.block < W.heap.size := by obtain ⟨m, hm⟩ := k0; exact DataW.trod_lt m _ _ _ hm
  have lt1 : ∀ x ∈ p1, x.block < W.heap.size := by obtain ⟨m, hm⟩ := k1; exact DataW.trod_lt m _ _ _ hm
  obtain ⟨i, s, A, c, l, rfl, hR, hlen⟩ := read_branching (hval 0 24 v0 rfl rfl) h0 hsz
  obtain ⟨fuel, hf⟩ := h1
  obtain ⟨t, hn, hT, hshape⟩ := read_bools Try.underlying29 Try.underlying4 (by kernel_rfl) hf
  subst hn
  have hreach : t.length ≤ 140737488355328 := bools_bound (j := 1) rfl rfl hsz hshape
  clear hA0 hval0
  refine (law_runs i s A c l a1 cap1 t W hlen hR hreach hT).mono fun e W' ⟨he, bel⟩ => ?_
  subst he
  exact ⟨_, rfl, _, _, _, [], _, [], hW', trodAll_mk1 (shut_bool Try.underlying4 _), trodAll_mk2 (Below.trod laidOut (by kernel_rfl) (of_decide_eq_true (by kernel_rfl)) k0 bel lt0) (Below.trod laidOut (by kernel_rfl) (of_decide_eq_true (by kernel_rfl)) k1 bel lt1), rfl, bel.frame _, fun h => by cases h⟩

theorem runs_holds : Rows.BranchRunsSaid :=
  OpenClaim.holds_of_wide 5 Try.f5 rfl rfl rfl rfl rfl rfl rfl ⟨rfl, rfl, rfl, rfl, rfl⟩ rfl rfl rfl rfl rfl (by kernel_rfl) Try.func5 (by kernel_rfl)
    (of_decide_eq_true (by kernel_rfl)) (by unfold Func.isWrapper; first | (rw [if_pos (by decide +kernel)]; kernel_rfl) | (rw [if_neg (by decide +kernel)]; exact ⟨rfl, rfl⟩))
    (fun os started H enc _ => runs_lifted os started H enc)
#print axioms runs_holds
end Go.Proofs.Ytinpmdekdfgiiaa
