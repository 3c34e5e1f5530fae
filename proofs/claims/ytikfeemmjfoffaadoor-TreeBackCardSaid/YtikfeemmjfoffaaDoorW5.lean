/- Trees: the reference's Value and Values; lists compared. -/
import Derived.Test.YtikfeemmjfoffaaDoorW4
set_option linter.unusedVariables false
set_option linter.unusedSimpArgs false
namespace Go.Proofs.YtikfeemmjfoffaaDoor
open Go.RowKit

/-- A tree as the call's argument. -/
abbrev trV (t : Tr) (A : Option Addr) (c : Nat) (T : Option Addr) (d : Nat) : Value := .agg #[.int .i64 t.h, .int .i64 t.b, .slice A t.lv.length c, .slice T t.tb.length d]

theorem Good.tb64 {t : Tr} (g : Good t) : t.tb.length ≤ 63 := by
  have := pw_le (b := t.h) g.h6; have := g.tl; omega
theorem Good.lv64 {t : Tr} (g : Good t) : t.lv.length ≤ 64 := by
  have := pw_le (b := t.h) g.h6; have := g.ll; omega
theorem Good.tab {t : Tr} (g : Good t) {n : Nat} (h : n < t.tb.length) : (t.tb.getD n []).length = pw (2 * t.b) := g.tw _ (getD_mem h)

theorem value19_any (t : Tr) (g : Good t) (A : Option Addr) (c : Nat) (T : Option Addr) (d : Nat) : ∀ (k n : Nat) (w : World), 2 * t.tb.length - n ≤ k → n ≤ 2 * t.tb.length → Rd w A (ints t.lv) → RT w T t.tb →
    Calls Tryd.prog 19 #[trV t A c T d, .int .i64 n] w fun e w' => e = .returned (.int .i64 (valW t n)) ∧ Kept w w' := by
  have h63 := g.tb64
  have leaf : ∀ (n : Nat) (w : World), t.tb.length ≤ n → n ≤ 2 * t.tb.length → Rd w A (ints t.lv) → Calls Tryd.prog 19 #[trV t A c T d, .int .i64 n] w fun e w' => e = .returned (.int .i64 (valW t n)) ∧ Kept w w' := by
    intro n w h1 h2 hA
    have hll : t.lv.length = t.tb.length + 1 := by have := g.ll; have := g.tl; have := pw_pos t.h; omega
    exact value19_leaf t.h t.b A c t.lv T d t.tb n w hA h1 (by omega) (by omega)
  intro k
  induction k with
  | zero =>
    intro n w hk hn hA hT
    exact leaf n w (by omega) hn hA
  | succ k ih =>
    intro n w hk hn hA hT
    by_cases hlt : n < t.tb.length
    · obtain ⟨bn, hb⟩ : ∃ bn : Nat, t.b = bn := ⟨t.b.toNat, by have := g.b1; omega⟩
      have hb6 : bn ≤ 6 := by have := g.b6; omega
      have r1 := g.range' (n := 2 * n + 1) (by omega)
      have r2 := g.range' (n := 2 * n + 2) (by omega)
      have hp := pw_le (b := t.b) g.b6
      obtain ⟨x1, e1⟩ : ∃ x : Nat, valW t (2 * n + 1) = x := ⟨(valW t (2 * n + 1)).toNat, by omega⟩
      obtain ⟨x2, e2⟩ : ∃ x : Nat, valW t (2 * n + 2) = x := ⟨(valW t (2 * n + 2)).toNat, by omega⟩
      have hat := at_lt (b := t.b) (by omega) r1 r2
      rw [e1, e2] at hat
      have epw : pw t.b = 2 ^ bn := by rw [hb]; rfl
      obtain ⟨y, hy⟩ : ∃ y : Nat, y = x1 * 2 ^ bn := ⟨_, rfl⟩
      have ey : (x1 : Int) * (pw t.b : Int) = (y : Int) := by rw [epw, hy]; simp
      have hw := valW_node hlt
      rw [e1, e2, ey, show ((y : Int) + (x2 : Int)).toNat = y + x2 by omega] at hw
      rw [ey] at hat
      have hp2 : pw (2 * t.b) ≤ 4096 := by
        unfold pw
        exact Nat.pow_le_pow_right (n := 2) (by omega) (by omega : (2 * t.b).toNat ≤ 12)
      obtain ⟨tb1, toff, A1, c1, h1, h2, h3, h4⟩ := hT n hlt
      have hlen : y + x2 < (t.tb.getD n []).length := by rw [g.tab hlt]; omega
      have hz : ia (t.tb.getD n []) (y + x2) = valW t n := hw.symm
      have C1 : ∀ w', Kept w w' → Calls Tryd.prog 19 #[trV t A c T d, .int .i64 ((2 * n + 1 : Nat) : Int)] w' fun e w'' => e = .returned (.int .i64 x1) ∧ Kept w' w'' := fun w' kk => by
        rw [← e1]; exact ih (2 * n + 1) w' (by omega) (by omega) (hA.kept kk) (hT.kept kk)
      have C2 : ∀ w', Kept w w' → Calls Tryd.prog 19 #[trV t A c T d, .int .i64 ((2 * n + 2 : Nat) : Int)] w' fun e w'' => e = .returned (.int .i64 x2) ∧ Kept w' w'' := fun w' kk => by
        rw [← e2]; exact ih (2 * n + 2) w' (by omega) (by omega) (hA.kept kk) (hT.kept kk)
      rw [← hz]
      unfold trV at C1 C2 ⊢
      rw [hb] at C1 C2 ⊢
      exact value19_node t.h bn A c t.lv.length T d t.tb.length n (2 * n) (2 * n + 1) (2 * n + 2) x1 x2 y (y + x2) (t.tb.getD n []) w ⟨tb1, toff, A1, c1, h1, h2, h3⟩ hlt
        (shl_mul hy (by omega)).2 (w_add rfl (by omega)).2 (w_two rfl (by omega)).2 (w_one rfl (by omega)).2 (w_two' rfl (by omega)).2 hlen hb6 C1 C2
    · exact leaf n w (by omega) hn hA

theorem info3 : (Tryd.prog.info? 3).map (fun i => (i.zero, i.size, i.bytes)) = some (some (.int .i64 0), 1, 8) := by kernel_rfl
theorem list_eq_ia {x y : List Int} (h : x.length = y.length) (he : ∀ j, j < x.length → ia x j = ia y j) : x = y := by
  apply List.ext_getElem h
  intro j h1 h2
  have := he j h1
  simpa [ia, List.getD_eq_getElem?_getD, h1, h2] using this

def valsW (t : Tr) (k : Nat) : List Int := (List.range k).map (valW t)
theorem valsW_succ (t : Tr) (k : Nat) : valsW t (k + 1) = valsW t k ++ [valW t k] := by simp [valsW, List.range_succ]
@[simp] theorem valsW_length (t : Tr) (k : Nat) : (valsW t k).length = k := by simp [valsW]

set_option maxRecDepth 100000 in
set_option maxHeartbeats 1000000 in
theorem sameints_any (A B : Option Addr) (n m c d : Nat) (x y : List Int) (w : World) (hA : Rd w A (ints x)) (hB : Rd w B (ints y)) (hn : n = x.length) (hm : m = y.length) (hn1 : n ≤ 140737488355328) :
    Calls Tryd.prog 20 #[.slice A n c, .slice B m d] w fun e w' => e = .returned (.bool (decide (x = y))) ∧ Kept w w' := by
  subst hn
  subst hm
  by_cases hl : x.length = y.length
  · have b1 : (x.length == y.length) = true := by simp [hl]
    have b2 : (x.length != y.length) = false := by simp [hl]
    have HL := Lib.hid hl; clear hl
    go_enter Tryd.func20, Tryd.ntmps20
    go_wp2_with fail
    go_loopg [5] x.length (fun g s5 wr => ∃ k : Nat, k ≤ x.length ∧ (∀ j, j < k → ia x j = ia y j) ∧ g = x.length - k ∧ s5 = .int .i64 k ∧ Kept w wr)
    case atStart => exact ⟨0, by omega, by omega, rfl, rfl, kept_refl _⟩
    case round =>
      obtain ⟨k, hk, hj, rfl, rfl, k1⟩ := hrel
      have HJ := Lib.hid hj; clear hj
      by_cases hlt : k < x.length
      · obtain ⟨ba1, of1, rfl, h1⟩ := hA.int hlt
        have a0 := kept_cell k1 (h1 k hlt)
        have hlt2 : k < y.length := by have := HL.out; omega
        obtain ⟨ba2, of2, rfl, h2⟩ := hB.int hlt2
        have a1 := kept_cell k1 (h2 k hlt2)
        clear h1 h2
        by_cases he : ia x k = ia y k
        · have e1 : (ia x k == ia y k) = true := by simp [he]
          have e2 : (ia x k != ia y k) = false := by simp [he]
          have HE := Lib.hid he; clear he
          go_wp2_with fail
          go_quiet (fail)
          go_wp2_with fail
          go_roundg (x.length - (k + 1))
          case rel => exact ⟨k + 1, by omega, fun j h => by rcases Nat.lt_succ_iff_lt_or_eq.1 h with h | rfl; exact HJ.out j h; exact HE.out, rfl, by go_num, below_drewN k1 _⟩
          case measure => omega
        · have e1 : (ia x k == ia y k) = false := by simp [he]
          have e2 : (ia x k != ia y k) = true := by simp [he]
          have HE := Lib.hid he; clear he
          go_wp2_with fail
          go_quiet (fail)
          go_wp2_with fail
          go_ret
          exact ⟨ret_bool (by symm; apply decide_eq_false; intro h; subst h; exact HE.out rfl), below_drewN k1 _⟩
      · have : k = x.length := by omega
        subst this
        go_wp2_with fail
        go_ret
        exact ⟨ret_bool (by symm; exact decide_eq_true (list_eq_ia HL.out HJ.out)), k1⟩
  · have b1 : (x.length == y.length) = false := by simp [hl]
    have b2 : (x.length != y.length) = true := by simp [hl]
    have HL := Lib.hid hl; clear hl
    go_enter Tryd.func20, Tryd.ntmps20
    go_wp2_with fail
    go_ret
    exact ⟨ret_bool (by symm; apply decide_eq_false; intro h; subst h; exact HL.out rfl), kept_refl _⟩
end Go.Proofs.YtikfeemmjfoffaaDoor
