/- Branching programs: the levels, in the program. -/
import Derived.Test.YtinpmdekdfgiiaaSp
import Derived.RegionTactic
import Derived.ChangeAlike
import Derived.Deep.OwnRows
set_option linter.unusedVariables false
set_option linter.unusedSimpArgs false
namespace Go.Proofs.Ytinpmdekdfgiiaa
open Go.RowKit

theorem info3 : (Try.prog.info? 3).map (fun i => (i.zero, i.size, i.bytes)) = some (some (.int .i64 0), 1, 8) := by kernel_rfl

theorem make_ints (n : Nat) (hn : n ≤ 35184372088832) (W : World) :
    (Instr.makeSlice 36 (.int .i64 (n : Int)) (.int .i64 (n : Int))).run Try.prog W = .ok (.slice (some ⟨W.heap.size, 0, none⟩) n n) (W.alloc (.cells (ints (List.replicate n 0)).toArray 3)) := by
  have h := run_make_row' (P := Try.prog) 36 3 (.int .i64 0) 8 Try.underlying36 info3 rfl .i64 .i64 n (by omega) (by omega) W
  rw [made_list] at h
  simpa [ints] using h

def fillTo (n k : Nat) : List Int := List.replicate k (-1) ++ List.replicate (n - k) 0
@[simp] theorem fillTo_length {n k : Nat} (h : k ≤ n) : (fillTo n k).length = n := by simp [fillTo]; omega
theorem fillTo_set {n k : Nat} (h : k < n) : (fillTo n k).set k (-1) = fillTo n (k + 1) := by
  unfold fillTo
  rw [show n - k = (n - (k + 1)) + 1 by omega, List.replicate_succ, List.set_append_right _ _ (by simp)]
  simp [List.replicate_succ']
theorem fillTo_zero (n : Nat) : fillTo n 0 = List.replicate n 0 := by simp [fillTo]
theorem fillTo_all (n : Nat) : fillTo n n = List.replicate n (-1) := by simp [fillTo]

set_option maxRecDepth 100000 in
set_option maxHeartbeats 1000000 in
theorem levels_any (i s : Int) (A : Option Addr) (c : Nat) (l : List Nd) (w : World) (hr : RN w A l) (hv : validB i s l = true) :
    Calls Try.prog 58 #[.agg #[.int .i64 i, .int .i64 s, .slice A l.length c]] w fun e w' => ∃ g, e = .returned (.slice (some ⟨g, 0, none⟩) l.length l.length) ∧ w.heap.size ≤ g ∧ Own w' g 3 (ints (lv s l)) ∧ Kept w w' := by
  obtain ⟨hi0, hi1, hln, hs⟩ := valid_start hv
  have hmk := make_ints l.length (by omega)
  go_enter Try.func58, Try.ntmps58
  go_wp2_with fail
  clear hmk
  go_loopw [15] (fun v wr => ∃ k : Nat, k ≤ l.length ∧ v = .int .i64 k ∧ Kept w wr ∧ Own wr w.heap.size 24 [.int .i64 i, .int .i64 s, .slice A l.length c] ∧ Own wr (w.heap.size + 1) 3 (ints (fillTo l.length k))) (fun v _ => l.length - (intOf v).toNat)
  case atStart => exact ⟨0, Nat.zero_le _, rfl, kept_alloc (kept_alloc (kept_refl _) _) _, (Own.new _ _ _).alloc _, by rw [fillTo_zero]; simpa using Own.new (w.alloc (.cells #[.int .i64 i, .int .i64 s, .slice A l.length c] 24)) 3 (ints (List.replicate l.length 0))⟩
  case round =>
    obtain ⟨k, hk, rfl, hb, ho, hL⟩ := hrel
    by_cases hlt : k < l.length
    · have hf := hL.frozen k
      have hc := hL.int (j := k) (by rw [fillTo_length (by omega)]; exact hlt)
      go_wp2_with fail
      go_roundw
      case rel => exact ⟨k + 1, by omega, by go_num, kept_set hb (by omega) _, ho.other (by simp) _, by rw [← fillTo_set hlt]; exact hL.setInt k (-1)⟩
      case measure => simp [intOf]; omega
    · have : k = l.length := by omega
      subst this
      rw [fillTo_all] at hL
      have o0 := ho.cell (j := 0) rfl
      have o1 := ho.cell (j := 1) rfl
      have o2 := ho.cell (j := 2) rfl
      have hf := hL.frozen s.toNat
      have lt1 := hL.lt
      by_cases hs0 : 0 ≤ s
      case' pos =>
        have hc := hL.int (j := s.toNat) (by simp; omega)
        have A0 := kept_set (j := s.toNat) hb (by omega : w.heap.size ≤ w.heap.size + 1) (.int .i64 0)
        have A1 := ho.other (a := ⟨w.heap.size + 1, s.toNat, none⟩) (by simp) (.int .i64 0)
        have A2 := hL.setInt s.toNat 0
        rw [show (List.replicate l.length (-1)).set s.toNat 0 = lvTo s l 0 from by simp [lvTo, lv0, hs0]] at A2
      case' neg =>
        have A0 := hb
        have A1 := ho
        have A2 := hL
        rw [show List.replicate l.length (-1) = lvTo s l 0 from by simp [lvTo, lv0, hs0]] at A2
      all_goals
        go_wp2_with fail
        clear hf o0 o1 o2 hL ho hb
        go_loopw [32] (fun v wr => ∃ k : Nat, k ≤ l.length ∧ v = .int .i64 k ∧ Kept w wr ∧ Own wr w.heap.size 24 [.int .i64 i, .int .i64 s, .slice A l.length c] ∧ Own wr (w.heap.size + 1) 3 (ints (lvTo s l k))) (fun v _ => l.length - (intOf v).toNat)
        case atStart => exact ⟨0, Nat.zero_le _, rfl, A0, A1, A2⟩
        case round =>
          clear A0 A1 A2
          obtain ⟨wo, rfl⟩ : ∃ x, x = wr := ⟨_, rfl⟩
          obtain ⟨k, hk, rfl, hb, ho, hL⟩ := hrel
          by_cases hlt : k < l.length
          · obtain ⟨b, off, rfl, hcs⟩ := hr.at_ hlt
            obtain ⟨d0, d1, d2⟩ := hcs k hlt
            clear hcs
            replace d0 := kept_cell hb d0
            replace d1 := kept_cell hb d1
            replace d2 := kept_cell hb d2
            have lt1 := hL.lt
            have lk := hL.int (j := k) (by simpa using hlt)
            by_cases hneg : ia (lvTo s l k) k < 0
            · go_wp2_with fail
              go_roundw
              case rel => exact ⟨k + 1, by omega, by go_num, kept_alloc hb _, ho.alloc _, by rw [show lvTo s l (k + 1) = lvTo s l k from lvStep_no hneg]; exact hL.alloc _⟩
              case measure => simp [intOf]; omega
            · go_wp2_with fail
              have B0 := kept_alloc (kept_alloc hb (.cells #[.int .i64 (nv l k), .int .i64 (nz l k), .int .i64 (no l k)] 48)) (.cells (ints [nz l k, no l k]).toArray 3)
              have B1 := (ho.alloc (.cells #[.int .i64 (nv l k), .int .i64 (nz l k), .int .i64 (no l k)] 48)).alloc (.cells (ints [nz l k, no l k]).toArray 3)
              have B2 := (hL.alloc (.cells #[.int .i64 (nv l k), .int .i64 (nz l k), .int .i64 (no l k)] 48)).alloc (.cells (ints [nz l k, no l k]).toArray 3)
              have B3 := Own.new (wo.alloc (.cells #[.int .i64 (nv l k), .int .i64 (nz l k), .int .i64 (no l k)] 48)) 3 (ints [nz l k, no l k])
              clear d0 d1 d2 hb lk ho hL
              go_loopw [48] (fun v w2 => ∃ j : Nat, j ≤ 2 ∧ v = .int .i64 j ∧ Kept w w2 ∧ Own w2 w.heap.size 24 [.int .i64 i, .int .i64 s, .slice (some ⟨b, off, none⟩) l.length c] ∧ Own w2 (w.heap.size + 1) 3 (ints (upk (lvTo s l k) l k j)) ∧ Own w2 (wo.heap.size + 1) 3 (ints [nz l k, no l k])) (fun v _ => 2 - (intOf v).toNat)
              case atStart => exact ⟨0, Nat.zero_le _, rfl, B0, B1, B2, by simpa [ints] using B3⟩
              case round =>
                clear B0 B1 B2 B3
                obtain ⟨j, hj, rfl, hb, ho, hL, hx⟩ := hrel
                by_cases hjt : j < 2
                · have ok := xk_ok hv hlt hjt
                  have sm := upk_small (L := lvTo s l k) (l := l) (k := k) (j := j) (lvTo_small s l k) (by omega)
                  have sk := sm.1 k
                  have c0 : wr.cell? ⟨wo.heap.size + 1, j, none⟩ = some (.int .i64 (xk l k j)) := Own.int hx (by simpa using hjt)
                  have ck := hL.int (j := k) (by simpa using hlt)
                  by_cases hX : 0 ≤ xk l k j
                  · have cx := hL.int (j := (xk l k j).toNat) (by simp; omega)
                    have cf := hL.frozen (xk l k j).toNat
                    go_wp2_with fail
                    go_region
                    all_goals
                      simp only [ite_max]
                      go_wp2_with fail
                      go_roundw
                      case rel => exact ⟨j + 1, by omega, by go_num, kept_drew (kept_set hb (by omega) _), (ho.other (by simp) _).drew, by rw [show upk (lvTo s l k) l k (j + 1) = (upk (lvTo s l k) l k j).set (xk l k j).toNat (max (ia (upk (lvTo s l k) l k j) (xk l k j).toNat) (ia (upk (lvTo s l k) l k j) k + 1)) from by rw [upk, up, if_pos hX]]; exact (hL.setInt _ _).drew, (hx.other (by simp; omega) _).drew⟩
                      case measure => simp [intOf]; omega
                  · go_wp2_with fail
                    go_roundw
                    case rel => exact ⟨j + 1, by omega, by go_num, hb, ho, by rw [show upk (lvTo s l k) l k (j + 1) = upk (lvTo s l k) l k j from by rw [upk, up, if_neg hX]]; exact hL, hx⟩
                    case measure => simp [intOf]; omega
                · have : j = 2 := by omega
                  subst this
                  go_wp2_with fail
                  go_roundw
                  case rel => exact ⟨k + 1, by omega, by go_num, hb, ho, by rw [show lvTo s l (k + 1) = upk (lvTo s l k) l k 2 from lvStep_yes (by omega)]; exact hL⟩
                  case measure => simp [intOf]; omega
          · have : k = l.length := by omega
            subst this
            go_wp2_with fail
            go_ret
            exact ⟨w.heap.size + 1, rfl, by omega, hL, hb⟩
end Go.Proofs.Ytinpmdekdfgiiaa
