/- The polynomial of a table is valid. -/
import Derived.Test.YtikfeemmjfoffaaGreatDoorA4
set_option linter.unusedVariables false
set_option linter.unusedSimpArgs false
namespace Go.Proofs.YtikfeemmjfoffaaGreatDoor
open Go.RowKit

section
variable (add : Int → Int → Int)
theorem mergeT_len : ∀ (k : Nat) (p r : List Tm), (mergeT add k p r).length ≤ p.length + r.length
  | 0, p, r => by simp [mergeT]
  | k + 1, [], r => by simp [mergeT]
  | k + 1, t :: p, [] => by simp [mergeT]
  | k + 1, t :: p, u :: r => by
    have h1 := mergeT_len k p (u :: r)
    have h2 := mergeT_len k (t :: p) r
    have h3 := mergeT_len k p r
    simp only [List.length_cons] at h1 h2
    unfold mergeT
    split
    · simp; omega
    · split
      · simp; omega
      · split <;> simp <;> omega
def sumLen (l : List (List Tm)) : Nat := (l.map List.length).sum
theorem sumLen_split (l : List (List Tm)) (k : Nat) : sumLen (l.take k) + sumLen (l.drop k) = sumLen l := by
  unfold sumLen
  rw [← List.sum_append, ← List.map_append, List.take_append_drop]
theorem totalT_len : ∀ (k : Nat) (l : List (List Tm)), (totalT add k l).length ≤ sumLen l
  | 0, l => by simp [totalT]
  | k + 1, l => by
    unfold totalT
    by_cases h0 : l.length = 0
    · rw [if_pos h0]; simp
    · rw [if_neg h0]
      by_cases h1 : l.length = 1
      · rw [if_pos h1]
        match l, h1 with
        | [p], _ => simp [sumLen]
      · rw [if_neg h1]
        have h2 := totalT_len k (l.take (l.length / 2))
        have h3 := totalT_len k (l.drop (l.length / 2))
        have h4 := sumLen_split l (l.length / 2)
        have h5 := mergeT_len add ((totalT add k (l.take (l.length / 2))).length + (totalT add k (l.drop (l.length / 2))).length) (totalT add k (l.take (l.length / 2))) (totalT add k (l.drop (l.length / 2)))
        omega
end
theorem sumLen_oneB (f : Tm → Tm) : ∀ l : List Tm, sumLen ((l.map f).map fun t => [t]) = l.length
  | [] => rfl
  | t :: l => by
    have := sumLen_oneB f l
    unfold sumLen at this ⊢
    simp only [List.map_cons, List.sum_cons, List.length_cons, List.length_nil] at this ⊢
    omega
theorem canon_vld {q : Int} {n : Nat} {p : List Tm} (hq : q ≠ 0) (hn : n ≤ 80) (hl : p.length ≤ 20000) (hc : Canon q n p) (he : ∀ t ∈ p, ∀ x ∈ t.e, 0 ≤ x ∧ x ≤ 65535) : vld q n p = true := by
  refine vld_good (by omega) (by omega) hl hq fun j hj => ?_
  have hm := tmv_mem hj
  refine tok_parts.2 ⟨(hc.c _ hm).1, (hc.c _ hm).2, by rw [hc.len _ hm], ?_, ?_⟩
  · rcases Nat.eq_zero_or_pos j with h | h
    · exact .inl h
    · right
      have := List.pairwise_iff_getElem.1 hc.rise (j - 1) j (by omega) hj (by omega)
      rw [show tmv p (j - 1) = p[j - 1] by simp [tmv, show j - 1 < p.length by omega], show tmv p j = p[j] by simp [tmv, hj]]
      exact this
  · rw [List.all_eq_true]
    intro x hx
    have := he _ hm x hx
    simp [eOk, this.1, this.2]
theorem ml_canon {P M : Int} (ok : okF P M = true) {t : List Bool} {n : Nat} (hl : t.length = 2 ^ n) : Canon (ordF P M) n (mlT P M t n) ∧ (mlT P M t n).length ≤ t.length := by
  have hin := mlAll_in ok (bitsT_in ok t) n
  have hlen : (mlAll P M (t.map bitI) n).length = t.length := by rw [mlAll_len, List.length_map]
  refine ⟨(totalT_spec (n := n) (addF_ok ok) (mlTerms n (mlAll P M (t.map bitI) n) t.length).length (l := (mlTerms n (mlAll P M (t.map bitI) n) t.length).map fun t => [t]) (by simp) (fun p hp => by
    obtain ⟨u, hu, rfl⟩ := List.mem_map.1 hp
    obtain ⟨j, hj, h0, rfl⟩ := mlTerms_mem hu
    have h := hin.ia (i := j) (by omega)
    exact ⟨List.pairwise_singleton _ _, fun x hx => by rw [List.mem_singleton.1 hx]; exact bitsL_len n j, fun x hx => by rw [List.mem_singleton.1 hx]; exact ⟨by have := h.1; dsimp only; omega, h.2⟩⟩)).1, ?_⟩
  have h5 := totalT_len (addF P M) (mlTerms n (mlAll P M (t.map bitI) n) t.length).length ((mlTerms n (mlAll P M (t.map bitI) n) t.length).map fun t => [t])
  have h6 : sumLen ((mlTerms n (mlAll P M (t.map bitI) n) t.length).map fun t => [t]) = (mlTerms n (mlAll P M (t.map bitI) n) t.length).length := by
    have := sumLen_oneB id (mlTerms n (mlAll P M (t.map bitI) n) t.length)
    rwa [List.map_id] at this
  have h7 := mlTerms_len n (mlAll P M (t.map bitI) n) t.length
  unfold mlT
  omega
end Go.Proofs.YtikfeemmjfoffaaGreatDoor
