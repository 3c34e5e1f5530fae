/- Lists compared (SameBools, SameInts), the inputs of an index (Point), the tables (Truth, Table). -/
import Derived.Test.YtinpmdekdfgiiaaB10
import Derived.Deep.RegionHeld3
set_option linter.unusedVariables false
set_option linter.unusedSimpArgs false
namespace Go.Proofs.Ytinpmdekdfgiiaa
open Go.RowKit

theorem info4 : (Try.prog.info? 4).map (fun i => (i.zero, i.size, i.bytes)) = some (some (.bool false), 1, 1) := by kernel_rfl

theorem make_bools (n : Nat) (hn : n ≤ 35184372088832) (W : World) :
    (Instr.makeSlice 29 (.int .i64 (n : Int)) (.int .i64 (n : Int))).run Try.prog W = .ok (.slice (some ⟨W.heap.size, 0, none⟩) n n) (W.alloc (.cells (bools (List.replicate n false)).toArray 4)) := by
  have h := run_make_row' (P := Try.prog) 29 4 (.bool false) 1 Try.underlying29 info4 rfl .i64 .i64 n (by omega) (by omega) W
  rw [made_list] at h
  simpa [bools] using h

theorem list_eq_ba {x y : List Bool} (h : x.length = y.length) (he : ∀ j, j < x.length → ba x j = ba y j) : x = y := by
  apply List.ext_getElem h
  intro j h1 h2
  have := he j h1
  simpa [ba, List.getD_eq_getElem?_getD, h1, h2] using this
theorem list_eq_ia {x y : List Int} (h : x.length = y.length) (he : ∀ j, j < x.length → ia x j = ia y j) : x = y := by
  apply List.ext_getElem h
  intro j h1 h2
  have := he j h1
  simpa [ia, List.getD_eq_getElem?_getD, h1, h2] using this

set_option maxRecDepth 100000 in
set_option maxHeartbeats 1000000 in
theorem samebools_any (A B : Option Addr) (n m c d : Nat) (x y : List Bool) (w : World) (hA : Rd w A (bools x)) (hB : Rd w B (bools y)) (hn : n = x.length) (hm : m = y.length) (hn1 : n ≤ 140737488355328) :
    Calls Try.prog 30 #[.slice A n c, .slice B m d] w fun e w' => e = .returned (.bool (decide (x = y))) ∧ Kept w w' := by
  subst hn
  subst hm
  by_cases hl : x.length = y.length
  · have b1 : (x.length == y.length) = true := by simp [hl]
    have b2 : (x.length != y.length) = false := by simp [hl]
    have HL := Lib.hid hl; clear hl
    go_enter Try.func30, Try.ntmps30
    go_wp2_with fail
    go_loopg [5] x.length (fun g s5 wr => ∃ k : Nat, k ≤ x.length ∧ (∀ j, j < k → ba x j = ba y j) ∧ g = x.length - k ∧ s5 = .int .i64 k ∧ Kept w wr)
    case atStart => exact ⟨0, by omega, by omega, rfl, rfl, kept_refl _⟩
    case round =>
      obtain ⟨k, hk, hj, rfl, rfl, k1⟩ := hrel
      have HJ := Lib.hid hj; clear hj
      by_cases hlt : k < x.length
      · obtain ⟨ba1, of1, rfl, h1⟩ := hA.bool hlt
        have a0 := kept_cell k1 (h1 k hlt)
        have hlt2 : k < y.length := by have := HL.out; omega
        obtain ⟨ba2, of2, rfl, h2⟩ := hB.bool hlt2
        have a1 := kept_cell k1 (h2 k hlt2)
        clear h1 h2
        by_cases he : ba x k = ba y k
        · have e1 : (ba x k == ba y k) = true := by simp [he]
          have e2 : (ba x k != ba y k) = false := by simp [he]
          have HE := Lib.hid he; clear he
          go_wp2_with fail
          go_quiet (fail)
          go_wp2_with fail
          go_roundg (x.length - (k + 1))
          case rel => exact ⟨k + 1, by omega, fun j h => by rcases Nat.lt_succ_iff_lt_or_eq.1 h with h | rfl; exact HJ.out j h; exact HE.out, rfl, by go_num, below_drewN k1 _⟩
          case measure => omega
        · have e1 : (ba x k == ba y k) = false := by simp [he]
          have e2 : (ba x k != ba y k) = true := by simp [he]
          have HE := Lib.hid he; clear he
          go_wp2_with fail
          go_quiet (fail)
          go_wp2_with fail
          go_ret
          exact ⟨ret_bool (by symm; apply decide_eq_false; intro h; subst h; exact HE.out rfl), below_drewN k1 _⟩
      · have : k = x.length := by omega
        subst this
        go_wp2_with fail
        go_ret
        exact ⟨ret_bool (by symm; exact decide_eq_true (list_eq_ba HL.out HJ.out)), k1⟩
  · have b1 : (x.length == y.length) = false := by simp [hl]
    have b2 : (x.length != y.length) = true := by simp [hl]
    have HL := Lib.hid hl; clear hl
    go_enter Try.func30, Try.ntmps30
    go_wp2_with fail
    go_ret
    exact ⟨ret_bool (by symm; apply decide_eq_false; intro h; subst h; exact HL.out rfl), kept_refl _⟩

set_option maxRecDepth 100000 in
set_option maxHeartbeats 1000000 in
theorem sameints_any (A B : Option Addr) (n m c d : Nat) (x y : List Int) (w : World) (hA : Rd w A (ints x)) (hB : Rd w B (ints y)) (hn : n = x.length) (hm : m = y.length) (hn1 : n ≤ 140737488355328) :
    Calls Try.prog 29 #[.slice A n c, .slice B m d] w fun e w' => e = .returned (.bool (decide (x = y))) ∧ Kept w w' := by
  subst hn
  subst hm
  by_cases hl : x.length = y.length
  · have b1 : (x.length == y.length) = true := by simp [hl]
    have b2 : (x.length != y.length) = false := by simp [hl]
    have HL := Lib.hid hl; clear hl
    go_enter Try.func29, Try.ntmps29
    go_wp2_with fail
    go_loopg [5] x.length (fun g s5 wr => ∃ k : Nat, k ≤ x.length ∧ (∀ j, j < k → ia x j = ia y j) ∧ g = x.length - k ∧ s5 = .int .i64 k ∧ Kept w wr)
    case atStart => exact ⟨0, by omega, by omega, rfl, rfl, kept_refl _⟩
    case round =>
      obtain ⟨k, hk, hj, rfl, rfl, k1⟩ := hrel
      have HJ := Lib.hid hj; clear hj
      by_cases hlt : k < x.length
      · obtain ⟨ba1, of1, rfl, h1⟩ := hA.int hlt
        have a0 := kept_cell k1 (h1 k hlt)
        have hlt2 : k < y.length := by have := HL.out; omega
        obtain ⟨ba2, of2, rfl, h2⟩ := hB.int hlt2
        have a1 := kept_cell k1 (h2 k hlt2)
        clear h1 h2
        by_cases he : ia x k = ia y k
        · have e1 : (ia x k == ia y k) = true := by simp [he]
          have e2 : (ia x k != ia y k) = false := by simp [he]
          have HE := Lib.hid he; clear he
          go_wp2_with fail
          go_quiet (fail)
          go_wp2_with fail
          go_roundg (x.length - (k + 1))
          case rel => exact ⟨k + 1, by omega, fun j h => by rcases Nat.lt_succ_iff_lt_or_eq.1 h with h | rfl; exact HJ.out j h; exact HE.out, rfl, by go_num, below_drewN k1 _⟩
          case measure => omega
        · have e1 : (ia x k == ia y k) = false := by simp [he]
          have e2 : (ia x k != ia y k) = true := by simp [he]
          have HE := Lib.hid he; clear he
          go_wp2_with fail
          go_quiet (fail)
          go_wp2_with fail
          go_ret
          exact ⟨ret_bool (by symm; apply decide_eq_false; intro h; subst h; exact HE.out rfl), below_drewN k1 _⟩
      · have : k = x.length := by omega
        subst this
        go_wp2_with fail
        go_ret
        exact ⟨ret_bool (by symm; exact decide_eq_true (list_eq_ia HL.out HJ.out)), k1⟩
  · have b1 : (x.length == y.length) = false := by simp [hl]
    have b2 : (x.length != y.length) = true := by simp [hl]
    have HL := Lib.hid hl; clear hl
    go_enter Try.func29, Try.ntmps29
    go_wp2_with fail
    go_ret
    exact ⟨ret_bool (by symm; apply decide_eq_false; intro h; subst h; exact HL.out rfl), kept_refl _⟩

/-- The inputs of index a: the first k of n. -/
def ptTo (n a k : Nat) : List Bool := (List.range k).map a.testBit ++ List.replicate (n - k) false
def ptB (n a : Nat) : List Bool := (List.range n).map a.testBit
@[simp] theorem ptB_length (n a : Nat) : (ptB n a).length = n := by simp [ptB]
@[simp] theorem ptTo_length {n a k : Nat} (h : k ≤ n) : (ptTo n a k).length = n := by simp [ptTo]; omega
theorem ptTo_set {n a k : Nat} (h : k < n) : (ptTo n a k).set k (a.testBit k) = ptTo n a (k + 1) := by
  unfold ptTo
  rw [show n - k = (n - (k + 1)) + 1 by omega, List.replicate_succ, List.set_append_right _ _ (by simp)]
  simp [List.range_succ]
theorem ptTo_all (n a : Nat) : ptTo n a n = ptB n a := by simp [ptTo, ptB]
theorem ptB_ba {n a k : Nat} (h : k < n) : ba (ptB n a) k = a.testBit k := by simp [ptB, ba, List.getD_eq_getElem?_getD, h]

set_option maxRecDepth 100000 in
set_option maxHeartbeats 1000000 in
theorem point_any (n a : Nat) (w : World) (hn : n ≤ 16) (ha : a < 1000000) :
    Calls Try.prog 38 #[.int .i64 n, .int .i64 a] w fun e w' => e = .returned (.slice (some ⟨w.heap.size, 0, none⟩) n n) ∧ Own w' w.heap.size 4 (bools (ptB n a)) ∧ Kept w w' := by
  have hmk := make_bools n (by omega)
  go_enter Try.func38, Try.ntmps38
  go_wp2_with fail
  clear hmk
  go_loopg [6] n (fun g s6 wr => ∃ k : Nat, k ≤ n ∧ g = n - k ∧ s6 = .int .i64 k ∧ Kept w wr ∧ Own wr w.heap.size 4 (bools (ptTo n a k)))
  case atStart => exact ⟨0, by omega, rfl, rfl, kept_alloc (kept_refl _) _, by simpa [ptTo] using Own.new w 4 (bools (List.replicate n false))⟩
  case round =>
    obtain ⟨k, hk, rfl, rfl, k1, ho⟩ := hrel
    by_cases hlt : k < n
    · have hc := ho.bool (j := k) (by rw [ptTo_length (by omega)]; exact hlt)
      have hf := ho.frozen k
      go_wp2_with fail
      have hb := bit_and (a := (a : Int)) (by omega) (by omega) k
      rw [Int.toNat_natCast] at hb
      go_roundg (n - (k + 1))
      case rel => exact ⟨k + 1, by omega, rfl, by go_num, kept_set k1 (Nat.le_refl _) _, by rw [← ptTo_set hlt, ← hb]; exact ho.setBool _ _⟩
      case measure => omega
    · have : k = n := by omega
      subst this
      rw [ptTo_all] at ho
      go_wp2_with fail
      go_ret
      exact ⟨rfl, ho, k1⟩
end Go.Proofs.Ytinpmdekdfgiiaa
