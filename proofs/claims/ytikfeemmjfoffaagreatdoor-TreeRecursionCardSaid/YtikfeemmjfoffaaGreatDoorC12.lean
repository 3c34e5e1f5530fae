/- Polynomials: the program's Reduce. -/
import Derived.Test.YtikfeemmjfoffaaGreatDoorC11
set_option linter.unusedVariables false
set_option linter.unusedSimpArgs false
namespace Go.Proofs.YtikfeemmjfoffaaGreatDoor
open Go.RowKit Go.Maps Go.Shelf

/-! ### A sum under way -/
theorem mput_len (add : Int → Int → Int) : ∀ (M : List Tm) (t : Tm), (mput add M t).length ≤ M.length + 1
  | [], t => by simp [mput]
  | u :: M, t => by
    unfold mput
    split
    · simp
    · have := mput_len add M t
      simp only [List.length_cons]
      omega
theorem mputs_len (add : Int → Int → Int) : ∀ (l M : List Tm), (l.foldl (mput add) M).length ≤ M.length + l.length
  | [], M => by simp
  | t :: l, M => by
    have h1 := mputs_len add l (mput add M t)
    have h2 := mput_len add M t
    simp only [List.foldl_cons, List.length_cons]
    omega
/-- A sum to which the terms of l have been put. -/
structure SumOf (P M : Int) (n g b : Nat) (l : List Tm) (w : World) : Prop where
  at_ : ∃ T k, SumAt P M n g b k T w ∧ k ≤ l.length ∧ (T.map Te.t).Perm (l.foldl (mput (addF P M)) [])
theorem SumOf.kept {P M : Int} {n g b : Nat} {l : List Tm} {w w' : World} (h : SumOf P M n g b l w) (k : Kept w w') : SumOf P M n g b l w' := by
  obtain ⟨T, kk, h1, h2, h3⟩ := h.at_
  exact ⟨T, kk, h1.kept k, h2, h3⟩
theorem SumOf.start {P M : Int} {n g b : Nat} {w : World} (h : SumAt P M n g b 0 [] w) : SumOf P M n g b [] w := ⟨[], 0, h, by simp, .refl _⟩
/-- (*sum).put upon a sum under way. -/
theorem put_of (P M : Int) (n g b : Nat) (l : List Tm) (c : Int) (e : List Int) (A : Option Addr) (cA : Nat) (w : World) (ok : okF P M = true) (hs : SumOf P M n g b l w) (hge : GoodE n e) (hc : inF P M c) (hA : Rd w A (ints e)) (hn : n ≤ 80) (hl : l.length ≤ 1000000000) :
    Calls Tryz.prog 67 #[.pointer (some ⟨g, 0, none⟩), .int .i64 c, .slice A e.length cA] w fun en w' => en = .returned (.tuple #[]) ∧ SumOf P M n g b (l ++ [⟨c, e⟩]) w' ∧ KG b w w' := by
  obtain ⟨T, k, h1, h2, h3⟩ := hs.at_
  refine (put46_any P M n g b k T c e A cA w ok h1 hge hc hA hn (by omega)).mono ?_
  rintro en w' ⟨rfl, x, rfl, hxc, hs', kg⟩
  refine ⟨rfl, ⟨putTe x T, k + 1, hs', by simp; omega, ?_⟩, kg⟩
  rw [List.foldl_append]
  exact put_same h1.ok h3 x c hxc
/-- (*sum).poly of a sum under way. -/
def PolyOf (q : Int) (add : Int → Int → Int) (b : Nat) (l : List Tm) (w : World) (e : Ending) (w' : World) : Prop := ∃ (A : Option Addr) (c : Nat) (p : List Tm),
  e = .returned (.tuple #[.slice A p.length c, .int .i64 0]) ∧ p = totalT add l.length (l.map fun t => [t]) ∧ RP w' A p ∧ KG b w w'
theorem poly_of (P M : Int) (n g b : Nat) (l : List Tm) (w : World) (ok : okF P M = true) (hs : SumOf P M n g b l w) (hl : ∀ t ∈ l, t.e.length = n ∧ 1 ≤ t.c ∧ t.c < ordF P M) (hn : n ≤ 80) (hm : l.length ≤ 20000) :
    Calls Tryz.prog 68 #[.pointer (some ⟨g, 0, none⟩)] w (PolyOf (ordF P M) (addF P M) b l w) := by
  obtain ⟨T, k, h1, h2, h3⟩ := hs.at_
  have hT : T.length ≤ 20000 := by
    have := h3.length_eq
    have := mputs_len (addF P M) l []
    simp at *
    omega
  refine (poly47_any P M n g b k T w h1 hn hT).mono ?_
  rintro e w' ⟨A, c, p, rfl, hp, hs, hrp, kg⟩
  exact ⟨A, c, p, rfl, table_out (addF_ok ok) hl (hp.trans (h3.filter _)) hs, hrp, kg⟩

theorem take_tm {p : List Tm} {k : Nat} (h : k < p.length) : p.take (k + 1) = p.take k ++ [tmv p k] := by
  rw [List.take_succ_eq_append_getElem h]
  simp [tmv, h]

/-! ### Reduced exponents -/
def redE (q x : Int) : Int := if q ≤ x then 1 + (x - 1).tmod (q - 1) else x
def redT (q : Int) (t : Tm) : Tm := ⟨t.c, t.e.map (redE q)⟩
theorem redE_range {q x : Int} (hq : 2 ≤ q) (h0 : 0 ≤ x) (h1 : x ≤ 65535) : 0 ≤ redE q x ∧ redE q x ≤ 65535 := by
  unfold redE
  split
  · have e : (x - 1).tmod (q - 1) = (x - 1) % (q - 1) := Int.tmod_eq_emod_of_nonneg (by omega)
    have h2 := Int.emod_nonneg (x - 1) (show q - 1 ≠ 0 by omega)
    have h3 := Int.emod_lt_of_pos (x - 1) (show 0 < q - 1 by omega)
    omega
  · exact ⟨h0, h1⟩
/-- Turned below k. -/
def turnTo (f : Int → Int) (l : List Int) (k : Nat) : List Int := (l.take k).map f ++ l.drop k
theorem turnTo_len (f : Int → Int) (l : List Int) (k : Nat) : (turnTo f l k).length = l.length := by simp [turnTo]; omega
theorem turnTo_zero (f : Int → Int) (l : List Int) : turnTo f l 0 = l := by simp [turnTo]
theorem turnTo_all (f : Int → Int) (l : List Int) : turnTo f l l.length = l.map f := by simp [turnTo]
theorem turnTo_at {f : Int → Int} {l : List Int} {k : Nat} (h : k < l.length) : ia (turnTo f l k) k = ia l k := by
  unfold turnTo ia
  rw [List.getD_eq_getElem?_getD, List.getD_eq_getElem?_getD, List.getElem?_append_right (by simp; omega)]
  simp [Nat.min_eq_left (Nat.le_of_lt h)]
theorem turnTo_set {f : Int → Int} {l : List Int} {k : Nat} (h : k < l.length) : (turnTo f l k).set k (f (ia l k)) = turnTo f l (k + 1) := by
  apply List.ext_getElem?
  intro j
  rw [List.getElem?_set]
  unfold turnTo
  rw [List.getElem?_append, List.getElem?_append]
  simp only [List.length_map, List.length_take, List.getElem?_map, List.getElem?_take, List.getElem?_drop]
  by_cases h1 : k = j
  · subst h1
    rw [if_pos rfl, if_pos (by simp; omega), if_pos (by omega), if_pos (by omega)]
    simp [ia, h]
  · rw [if_neg h1]
    by_cases h2 : j < k
    · rw [if_pos (by omega), if_pos (by omega), if_pos (by omega), if_pos (by omega)]
    · rw [if_neg (by omega), if_neg (by omega), show k + (j - min k l.length) = j by omega, show k + 1 + (j - min (k + 1) l.length) = j by omega]
theorem turnTo_same {f : Int → Int} {l : List Int} {k : Nat} (h : k < l.length) (hf : f (ia l k) = ia l k) : turnTo f l k = turnTo f l (k + 1) := by
  rw [← turnTo_set h, hf]
  apply List.ext_getElem?
  intro j
  rw [List.getElem?_set]
  split
  · rename_i e; subst e
    split
    · rw [← turnTo_at (f := f) h]
      have : k < (turnTo f l k).length := by rw [turnTo_len]; exact h
      simp [ia, this]
    · rename_i h2; exact absurd (by rw [turnTo_len]; exact h) h2
  · rfl
/-- A store into a row of numbers of one's own. -/
theorem row_setInt {w : World} {B m c : Nat} {A : Option Addr} {l : List Int} (h : w.ownsRow B 3 1 (.slice A m c) m (ints l)) {i : Nat} (hi : i < l.length) : ∃ g, A = some ⟨g, 0, none⟩ ∧ B ≤ g ∧ g < w.heap.size ∧ w.cell? ⟨g, i, none⟩ = some (.int .i64 (ia l i)) ∧ w.frozen? ⟨g, i, none⟩ = false ∧ ∀ v, (w.setCell ⟨g, i, none⟩ (.int .i64 v)).ownsRow B 3 1 (.slice A m c) m (ints (l.set i v)) := by
  have hr := row_rd h
  obtain ⟨b, off, e, hc⟩ := hr.int (k := i) hi
  rcases h.2 with ⟨e0, hm⟩ | ⟨g, cap, cur, e0, hb, hg, hn, hm, hs, ht⟩
  · injection e0 with e1 _ _
    rw [e] at e1; cases e1
  · injection e0 with e1 _ e3
    subst e1; subst e3
    injection e with e
    injection e with e4 e5 _
    subst e4; subst e5
    have hlt : g < w.heap.size := (Array.getElem?_eq_some_iff.1 hg).1
    have hml : l.length = m := by have := h.1; simpa using this
    refine ⟨g, rfl, hb, hlt, by have := hc i hi; simpa using this, by simp [World.frozen?, hg], fun v => ⟨by rw [ints_length]; simpa using hml, .inr ⟨g, c, cur.set! i (.int .i64 v), rfl, hb, ?_, hn, hm, by simpa using hs, ?_⟩⟩⟩
    · unfold World.setCell
      simp only [Array.getElem?_modify, if_true, hg, Option.map_some]
      rfl
    · rw [← ints_set, ← ht]
      simp [List.take_set]

end Go.Proofs.YtikfeemmjfoffaaGreatDoor
