/- Polynomials: the degree, the program's and the reference's. -/
import Derived.Test.YtnjmpjdampdmmaaDoorL3
set_option linter.unusedVariables false
set_option linter.unusedSimpArgs false
namespace Go.Proofs.YtnjmpjdampdmmaaDoor
open Go.RowKit

/-- The sum of the first k exponents, and of all. -/
def sumTk (e : List Int) (k : Nat) : Int := (e.take k).sum
def degT (t : Tm) : Int := t.e.sum
/-- The greatest sum of exponents of the first k terms, or -1. -/
def degTo (p : List Tm) (k : Nat) : Int := (p.take k).foldl (fun d t => max d (degT t)) (-1)
def degP (p : List Tm) : Int := degTo p p.length
theorem sumTk_zero (e : List Int) : sumTk e 0 = 0 := rfl
theorem sumTk_succ {e : List Int} {k : Nat} (h : k < e.length) : sumTk e (k + 1) = sumTk e k + ia e k := by
  unfold sumTk
  rw [List.take_succ_eq_append_getElem h, List.sum_append]
  simp [ia, h]
theorem sumTk_all (e : List Int) : sumTk e e.length = e.sum := by simp [sumTk]
theorem sumTk_range {e : List Int} (h : ∀ x ∈ e, 0 ≤ x ∧ x ≤ 65535) : ∀ {k : Nat}, k ≤ e.length → 0 ≤ sumTk e k ∧ sumTk e k ≤ 65535 * k
  | 0, _ => by simp [sumTk]
  | k + 1, hk => by
    have ih := sumTk_range h (k := k) (by omega)
    have h1 := h (ia e k) (ia_mem (by omega))
    rw [sumTk_succ (by omega)]
    omega
theorem degTo_zero (p : List Tm) : degTo p 0 = -1 := rfl
theorem degTo_succ {p : List Tm} {k : Nat} (h : k < p.length) : degTo p (k + 1) = max (degTo p k) (degT (tmv p k)) := by
  unfold degTo
  rw [take_tm h, List.foldl_append]
  rfl
set_option maxRecDepth 100000 in
set_option maxHeartbeats 1000000 in
theorem degree23_bad (P M n : Int) (p : List Tm) (A : Option Addr) (c : Nat) (w : World) (hP : RP w A p) (hl : p.length ≤ 140737488355328) (hv : vld (ordF P M) n p = false) :
    Calls Tryd.prog 23 #[fV P M, .int .i64 n, .slice A p.length c] w fun e w' => e = .returned (.tuple #[.int .i64 0, .int .i64 1]) ∧ Kept w w' := by
  have C25 := Lib.hid fun w' (k : Kept w w') => valid25_any P M n p A c w' (hP.kept k) hl
  rw [hv] at C25
  unfold fV at *
  have K0 := kept_alloc (kept_refl w) (.cells #[.int .i64 P, .int .i64 M] 23)
  obtain ⟨l, hl'⟩ : ∃ l, l = p.length := ⟨_, rfl⟩
  rw [← hl'] at C25 ⊢
  clear hP hv hl hl'
  go_enter Tryd.func23, Tryd.ntmps23
  go_wp2_with (go_at_call 25; ((with_reducible refine (C25.out _ K0).mono ?_); rintro e w1 ⟨rfl, k1⟩))
  go_ret2
  exact ⟨rfl, kept_trans K0 k1⟩
/-- What a valid polynomial's terms are. -/
theorem vld_terms {q n : Int} {p : List Tm} (hv : vld q n p = true) : (0 ≤ n ∧ n ≤ 80) ∧ p.length ≤ 20000 ∧ ∀ k, k < p.length → (tmv p k).e.length = n.toNat ∧ 1 ≤ (tmv p k).c ∧ (tmv p k).c < q ∧ ∀ x ∈ (tmv p k).e, 0 ≤ x ∧ x ≤ 65535 := by
  have hvp := hv
  simp only [vld, Bool.and_eq_true, decide_eq_true_eq, allN_true] at hvp
  obtain ⟨⟨⟨⟨hn0, hn⟩, hl⟩, hq0⟩, hT⟩ := hvp
  refine ⟨⟨hn0, hn⟩, hl, fun k hk => ?_⟩
  have h := tok_parts.1 (hT k hk)
  refine ⟨by omega, h.1, h.2.1, fun x hx => ?_⟩
  have := List.all_eq_true.1 h.2.2.2.2 x hx
  simpa [eOk] using this
theorem vld_ok {P M n : Int} {p : List Tm} (hv : vld (ordF P M) n p = true) : okF P M = true := by
  have hvp := hv
  simp only [vld, Bool.and_eq_true, decide_eq_true_eq, allN_true] at hvp
  cases h : okF P M with
  | true => rfl
  | false => exact absurd (ord_bad h) hvp.1.2
set_option maxRecDepth 100000 in
set_option maxHeartbeats 1000000 in
theorem degree23_any (P M n : Int) (p : List Tm) (A : Option Addr) (c : Nat) (w : World) (hP : RP w A p) (hv : vld (ordF P M) n p = true) :
    Calls Tryd.prog 23 #[fV P M, .int .i64 n, .slice A p.length c] w fun e w' => e = .returned (.tuple #[.int .i64 (degP p), .int .i64 0]) ∧ Kept w w' := by
  obtain ⟨hn, hl, tl⟩ := vld_terms hv
  have TL := Lib.hid tl
  have C25 := Lib.hid fun w' (k : Kept w w') => valid25_any P M n p A c w' (hP.kept k) (by omega)
  rw [hv] at C25
  have HP := Lib.hid hP
  unfold fV at *
  have K0 := kept_alloc (kept_refl w) (.cells #[.int .i64 P, .int .i64 M] 23)
  obtain ⟨D, hD⟩ : ∃ D, D = degP p := ⟨_, rfl⟩
  rw [← hD]
  have HD := Lib.hid hD
  clear hv tl hP hD
  go_enter Tryd.func23, Tryd.ntmps23
  go_wp2_with (go_at_call 25; ((with_reducible refine (C25.out _ K0).mono ?_); rintro e w1 ⟨rfl, k1⟩; replace K0 := kept_trans K0 k1))
  go_loopg [8, 10, 11, 13, 21] p.length (fun G s8 s10 s11 s13 s21 wr => ∃ (k : Nat) (d : Int) (v10 v11 v13 : Value), k ≤ p.length ∧ G = p.length - k ∧ s8 = .int .i64 d ∧ s10 = v10 ∧ s11 = v11 ∧ s13 = v13 ∧ s21 = .int .i64 k ∧ d = degTo p k ∧ Kept w1 wr)
  case atStart => exact ⟨0, _, _, _, _, by omega, rfl, rfl, rfl, rfl, rfl, rfl, rfl, kept_refl _⟩
  case round =>
    obtain ⟨k, d, v10, v11, v13, hk, rfl, rfl, rfl, rfl, rfl, rfl, hd, K1⟩ := hrel
    have HDT := Lib.hid hd
    clear hd
    by_cases hlt : k < p.length
    · obtain ⟨ba, off, E, ce, rfl, h0, h1, hE, hlE⟩ := (HP.out.kept K0) k hlt
      replace h0 := kept_cell K1 h0
      replace h1 := kept_cell K1 h1
      have TK := Lib.hid (TL.out k hlt)
      obtain ⟨x, hx⟩ : ∃ x, x = (tmv p k).c := ⟨_, rfl⟩
      obtain ⟨el, hel⟩ : ∃ el, el = (tmv p k).e := ⟨_, rfl⟩
      have HEL := Lib.hid hel
      rw [← hx, ← hel] at TK
      rw [← hx] at h0
      rw [← hel] at h1 hE hlE
      have hl80 : el.length ≤ 80 := by have := TK.out.1; omega
      have HE := Lib.hid hE
      have KA : Kept wr (wr.alloc (.cells #[.int .i64 x, .slice E el.length ce] 67)) := kept_alloc (kept_refl _) _
      have o10 := Own.new wr 67 [.int .i64 x, .slice E el.length ce]
      have z1 := o10.cell (j := 1) rfl
      clear hx hel hE
      go_wp2_with fail
      obtain ⟨W, hW⟩ : ∃ W, W = wr.alloc (.cells #[.int .i64 x, .slice E el.length ce] 67) := ⟨_, rfl⟩
      rw [← hW]
      rw [← hW] at KA
      clear o10 z1 h0 h1 hW
      go_loopg [11, 13, 28] el.length (fun G s11 s13 s28 wx => ∃ (j : Nat) (s : Int) (v13 : Value), j ≤ el.length ∧ G = el.length - j ∧ s11 = .int .i64 s ∧ s13 = v13 ∧ s28 = .int .i64 j ∧ s = sumTk el j ∧ wx = W)
      case atStart => exact ⟨0, _, _, by omega, rfl, rfl, rfl, rfl, rfl, rfl⟩
      case round =>
        obtain ⟨j, s, v13, hj, rfl, rfl, rfl, rfl, hs, rfl⟩ := hrel
        have HS := Lib.hid hs
        have hsr := sumTk_range TK.out.2.2.2 hj
        rw [← hs] at hsr
        clear hs
        by_cases hjt : j < el.length
        · obtain ⟨b1, o1, rfl, h1⟩ := ((HE.out.kept K1).kept KA).int hjt
          have x0 := h1 j hjt
          have bx := TK.out.2.2.2 (ia el j) (ia_mem hjt)
          obtain ⟨xi, hxi⟩ : ∃ xi, xi = ia el j := ⟨_, rfl⟩
          rw [← hxi] at x0 bx
          have HXI := Lib.hid hxi
          have ew : IntKind.i64.wrap (s + xi) = s + xi := IntWalk.i64_in _ (by omega)
          have ew2 : wrap64 (s + xi) = s + xi := IntWalk.wrap64_in _ (by omega)
          clear h1 hxi
          go_wp2_with fail
          go_roundg (el.length - (j + 1))
          case rel => exact ⟨j + 1, s + xi, _, by omega, rfl, by go_num, rfl, by go_num, by rw [sumTk_succ hjt, ← HS.out, HXI.out], rfl⟩
          case measure => omega
        · obtain rfl : j = el.length := by omega
          have hsr2 : 0 ≤ s ∧ s ≤ 5242800 := by omega
          have HS2 := Lib.hid (show s = degT (tmv p k) by rw [HS.out, sumTk_all, HEL.out]; rfl)
          go_wp2_with fail
          go_roundg (p.length - (k + 1))
          case rel => exact ⟨k + 1, max d s, _, _, _, by omega, rfl, by first | rfl | (rw [ite_max]) | (simp [ite_max]), rfl, rfl, rfl, by go_num, by rw [degTo_succ hlt, ← HDT.out, HS2.out], kept_trans K1 KA⟩
          case measure => omega
    · obtain rfl : k = p.length := by omega
      go_wp2_with fail
      go_ret2
      exact ⟨show Ending.returned (.tuple #[.int .i64 d, .int .i64 0]) = .returned (.tuple #[.int .i64 D, .int .i64 0]) from (by rw [HD.out, HDT.out]; rfl), kept_trans K0 K1⟩
set_option maxRecDepth 100000 in
set_option maxHeartbeats 1000000 in
theorem rdegree28_any (p : List Tm) (A : Option Addr) (c : Nat) (w : World) (hP : RP w A p) (hl : p.length ≤ 20000) (hT : ∀ k, k < p.length → (tmv p k).e.length ≤ 80 ∧ ∀ x ∈ (tmv p k).e, 0 ≤ x ∧ x ≤ 65535) :
    Calls Tryd.prog 28 #[.slice A p.length c] w fun e w' => e = .returned (.int .i64 (degP p)) ∧ Kept w w' := by
  have TL := Lib.hid hT
  have HP := Lib.hid hP
  obtain ⟨D, hD⟩ : ∃ D, D = degP p := ⟨_, rfl⟩
  rw [← hD]
  have HD := Lib.hid hD
  clear hT hP hD
  go_enter Tryd.func28, Tryd.ntmps28
  go_wp2_with fail
  go_loopg [3, 4, 5, 6] p.length (fun G s3 s4 s5 s6 wr => ∃ (k : Nat) (d : Int) (v5 v6 : Value), k ≤ p.length ∧ G = p.length - k ∧ s3 = .int .i64 d ∧ s4 = .int .i64 k ∧ s5 = v5 ∧ s6 = v6 ∧ d = degTo p k ∧ Kept w wr)
  case atStart => exact ⟨0, _, _, _, by omega, rfl, rfl, rfl, rfl, rfl, rfl, kept_refl _⟩
  case round =>
    obtain ⟨k, d, v5, v6, hk, rfl, rfl, rfl, rfl, rfl, hd, K1⟩ := hrel
    have HDT := Lib.hid hd
    clear hd
    by_cases hlt : k < p.length
    · obtain ⟨ba, off, E, ce, rfl, h0, h1, hE, hlE⟩ := HP.out k hlt
      have H1 := Lib.hid h1
      have TK := Lib.hid (TL.out k hlt)
      obtain ⟨el, hel⟩ : ∃ el, el = (tmv p k).e := ⟨_, rfl⟩
      have HEL := Lib.hid hel
      rw [← hel] at TK hE hlE H1
      have hl80 : el.length ≤ 80 := TK.out.1
      have HE := Lib.hid hE
      clear hel hE h0 h1
      go_wp2_with fail
      obtain ⟨W, rfl⟩ : ∃ x, x = wr := ⟨_, rfl⟩
      go_loopg [5, 6] el.length (fun G s5 s6 wx => ∃ (j : Nat) (s : Int), j ≤ el.length ∧ G = el.length - j ∧ s5 = .int .i64 s ∧ s6 = .int .i64 j ∧ s = sumTk el j ∧ Kept W wx)
      case atStart => exact ⟨0, _, by omega, rfl, rfl, rfl, rfl, kept_refl _⟩
      case round =>
        obtain ⟨j, s, hj, rfl, rfl, rfl, hs, K2⟩ := hrel
        have HS := Lib.hid hs
        have hsr := sumTk_range TK.out.2 hj
        rw [← hs] at hsr
        clear hs
        have h1 := kept_cell (kept_trans K1 K2) H1.out
        by_cases hjt : j < el.length
        · obtain ⟨b1, o1, rfl, h2⟩ := (HE.out.kept (kept_trans K1 K2)).int hjt
          have x0 := h2 j hjt
          have bx := TK.out.2 (ia el j) (ia_mem hjt)
          obtain ⟨xi, hxi⟩ : ∃ xi, xi = ia el j := ⟨_, rfl⟩
          rw [← hxi] at x0 bx
          have HXI := Lib.hid hxi
          have ew : IntKind.i64.wrap (s + xi) = s + xi := IntWalk.i64_in _ (by omega)
          have ew2 : wrap64 (s + xi) = s + xi := IntWalk.wrap64_in _ (by omega)
          clear h2 hxi
          go_wp2_with fail
          go_roundg (el.length - (j + 1))
          case rel => exact ⟨j + 1, s + xi, by omega, rfl, by go_num, by go_num, by rw [sumTk_succ hjt, ← HS.out, HXI.out], K2⟩
          case measure => omega
        · obtain rfl : j = el.length := by omega
          have HS2 := Lib.hid (show s = degT (tmv p k) by rw [HS.out, sumTk_all, HEL.out]; rfl)
          go_wp2_with fail
          go_roundg (p.length - (k + 1))
          case rel => exact ⟨k + 1, max d s, _, _, by omega, rfl, by first | rfl | (rw [ite_max]) | (simp [ite_max]), by go_num, rfl, rfl, by rw [degTo_succ hlt, ← HDT.out, HS2.out], kept_trans K1 K2⟩
          case measure => omega
    · obtain rfl : k = p.length := by omega
      go_wp2_with fail
      go_ret
      exact ⟨ret_int (by rw [HD.out, HDT.out]; rfl), K1⟩
end Go.Proofs.YtnjmpjdampdmmaaDoor
