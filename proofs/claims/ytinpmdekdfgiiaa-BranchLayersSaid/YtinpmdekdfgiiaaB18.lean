/- The program's Least: its function literals for bits, and the search. -/
import Derived.Test.YtinpmdekdfgiiaaB17
import Derived.Test.YtinpmdekdfgiiaaLib3
set_option linter.unusedVariables false
set_option linter.unusedSimpArgs false
namespace Go.Proofs.Ytinpmdekdfgiiaa
open Go.RowKit

set_option maxHeartbeats 400000 in
theorem lit61_any (w : World) (g b off n c : Nat) (xs : List Bool) (hx : ∀ j, j < xs.length → w.cell? ⟨b, off + j, none⟩ = some (.bool (ba xs j))) (hn : xs.length = n) (hm : n ≤ 140737488355328) (i : Int) (h0 : 0 ≤ i) (h1 : i < n)
    (hg : w.cell? ⟨g, 0, none⟩ = some (.slice (some ⟨b, off, none⟩) n c)) :
    Calls Try.prog 61 #[.int .i64 i, .pointer (some ⟨g, 0, none⟩)] w fun e w' => e = .returned (.bool (ba xs i.toNat)) ∧ w = w' := by
  have hc := hx i.toNat (by omega)
  clear hx
  go_enter Try.func61, Try.ntmps61
  go_wp2
  go_ret
  exact ⟨rfl, rfl⟩
theorem asks61 {w : World} {g n c : Nat} {X : Option Addr} {x : List Bool} (hX : Rd w X (bools x)) (hn : x.length = n) (hm : n ≤ 140737488355328)
    (hg : w.cell? ⟨g, 0, none⟩ = some (.slice X n c)) : Asks w (.func (.func 61) #[] #[.pointer (some ⟨g, 0, none⟩)]) n (ba x) :=
  ⟨61, _, rfl, enters_of Try.func61 (by kernel_rfl) rfl, fun i w' h0 h1 k => by
    obtain ⟨b, off, rfl, hx⟩ := hX.bool (k := 0) (by omega)
    exact lit61_any w' g b off n c x (fun j hj => kept_cell k (hx j hj)) hn hm i h0 h1 (kept_cell k hg)⟩

set_option maxHeartbeats 400000 in
theorem lit62_any (w : World) (g k : Nat) (hk : k < 16) (i : Int) (h0 : 0 ≤ i) (h1 : i < 1000000) (hg : w.cell? ⟨g, 0, none⟩ = some (.int .i64 k)) :
    Calls Try.prog 62 #[.int .i64 i, .pointer (some ⟨g, 0, none⟩)] w fun e w' => e = .returned (.bool (i.toNat.testBit k)) ∧ w = w' := by
  go_enter Try.func62, Try.ntmps62
  go_wp2
  go_ret
  exact ⟨ret_bool (bit_and h0 h1 _), rfl⟩
theorem asks62 {w : World} {g k : Nat} (hk : k < 16) {n : Nat} (hn : n ≤ 1000) (hg : w.cell? ⟨g, 0, none⟩ = some (.int .i64 k)) : Asks w (.func (.func 62) #[] #[.pointer (some ⟨g, 0, none⟩)]) n (fun i => i.testBit k) :=
  ⟨62, _, rfl, enters_of Try.func62 (by kernel_rfl) rfl, fun i w' h0 h1 kk => lit62_any w' g k hk i h0 (by omega) (kept_cell kk hg)⟩

set_option maxHeartbeats 400000 in
theorem lit63_any (w : World) (i : Int) : Calls Try.prog 63 #[.int .i64 i] w fun e w' => e = .returned (.bool true) ∧ w = w' := by
  go_enter Try.func63, Try.ntmps63
  go_wp2
  go_ret
  exact ⟨rfl, rfl⟩
theorem asks63 (w : World) (n : Int) : Asks w (.func (.func 63) #[] #[]) n (fun _ => true) :=
  ⟨63, _, rfl, enters_of Try.func63 (by kernel_rfl) rfl, fun i w' _ _ _ => lit63_any w' i⟩

set_option maxRecDepth 100000 in
set_option maxHeartbeats 1000000 in
theorem bitsof_any (w : World) (g n c : Nat) (X : Option Addr) (fv : Value) (x : Nat → Bool) (hn : n ≤ 62) (hA : Asks w fv n x) (hg : w.cell? ⟨g, 0, none⟩ = some (.slice X n c)) :
    Calls Try.prog 60 #[fv, .pointer (some ⟨g, 0, none⟩)] w fun e w' => e = .returned (.int .i64 (bo x n : Nat)) ∧ w = w' := by
  obtain ⟨f, cap, rfl, hE, hf⟩ := hA.gives
  have HF := Lib.hid hf; clear hf hA
  go_enter Try.func60, Try.ntmps60
  go_wp2_with fail
  go_loopg [4, 8] n (fun g s4 s8 wr => ∃ k : Nat, k ≤ n ∧ g = n - k ∧ s8 = .int .i64 k ∧ s4 = .int .i64 (bo x k : Nat) ∧ w = wr)
  case atStart => exact ⟨0, by omega, rfl, rfl, rfl, rfl⟩
  case round =>
    obtain ⟨k, hk, rfl, rfl, rfl, rfl⟩ := hrel
    by_cases hlt : k < n
    · have hor := shl_bit (k := k) (by omega) (bo_62 x (k := k) (by omega))
      have hEn := fun W => hE (#[.int .i64 (k : Int)] ++ cap) W
      have hc := HF.out k w (by omega) (by omega) (kept_refl w)
      rw [Int.toNat_natCast] at hc
      have HC := Lib.hid hc; clear hc
      cases ht : x k
      all_goals
        have HT := Lib.hid ht; clear ht
        go_wp2_with fail
        refine HC.out.mono ?_
        rintro e w1 ⟨rfl, rfl⟩
        rw [HT.out]
        go_wp2_with fail
        go_roundg (n - (k + 1))
        case rel => exact ⟨k + 1, by omega, rfl, by go_num, by rw [bo, HT.out]; rfl, rfl⟩
        case measure => omega
    · have : k = n := by omega
      subst this
      go_wp2_with fail
      go_ret
      exact ⟨rfl, rfl⟩
end Go.Proofs.Ytinpmdekdfgiiaa
