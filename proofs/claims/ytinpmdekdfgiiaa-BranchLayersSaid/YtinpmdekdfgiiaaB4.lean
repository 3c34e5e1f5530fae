/- Branching programs: the levels, in the reference. -/
import Derived.Test.YtinpmdekdfgiiaaB3
import Derived.Deep.LoopGhost
import Derived.Deep.DeepCutAuto
set_option linter.unusedVariables false
set_option linter.unusedSimpArgs false
namespace Go.Proofs.Ytinpmdekdfgiiaa
open Go.RowKit

set_option maxRecDepth 100000 in
set_option maxHeartbeats 1000000 in
theorem rlevels_any (i s : Int) (A : Option Addr) (c : Nat) (l : List Nd) (w : World) (hr : RN w A l) (hv : validB i s l = true) :
    Calls Try.prog 59 #[.agg #[.int .i64 i, .int .i64 s, .slice A l.length c]] w fun e w' => ∃ g, e = .returned (.slice (some ⟨g, 0, none⟩) l.length l.length) ∧ w.heap.size ≤ g ∧ Own w' g 3 (ints (lv s l)) ∧ Kept w w' := by
  obtain ⟨hi0, hi1, hln, hs⟩ := valid_start hv
  have hmk := make_ints l.length (by omega)
  go_enter Try.func59, Try.ntmps59
  go_wp2_with fail
  clear hmk
  go_loopg [4] l.length (fun g v wr => ∃ k : Nat, k ≤ l.length ∧ g = l.length - k ∧ v = .int .i64 k ∧ Kept w wr ∧ Own wr w.heap.size 24 [.int .i64 i, .int .i64 s, .slice A l.length c] ∧ Own wr (w.heap.size + 1) 3 (ints (fillTo l.length k)))
  case atStart => exact ⟨0, Nat.zero_le _, rfl, rfl, kept_alloc (kept_alloc (kept_refl _) _) _, (Own.new _ _ _).alloc _, by rw [fillTo_zero]; simpa using Own.new (w.alloc (.cells #[.int .i64 i, .int .i64 s, .slice A l.length c] 24)) 3 (ints (List.replicate l.length 0))⟩
  case round =>
    obtain ⟨k, hk, rfl, rfl, hb, ho, hL⟩ := hrel
    by_cases hlt : k < l.length
    · have hf := hL.frozen k
      have hc := hL.int (j := k) (by rw [fillTo_length (by omega)]; exact hlt)
      go_wp2_with fail
      go_roundg (l.length - (k + 1))
      case rel => exact ⟨k + 1, by omega, rfl, by go_num, kept_set hb (by omega) _, ho.other (by simp) _, by rw [← fillTo_set hlt]; exact hL.setInt k (-1)⟩
      case measure => omega
    · have : k = l.length := by omega
      subst this
      rw [fillTo_all] at hL
      have o0 := ho.cell (j := 0) rfl
      have o1 := ho.cell (j := 1) rfl
      have o2 := ho.cell (j := 2) rfl
      have hf := hL.frozen s.toNat
      have lt1 := hL.lt
      go_upto_if 22 with fail
      go_cut [] (fun wx => Kept w wx ∧ Own wx w.heap.size 24 [.int .i64 i, .int .i64 s, .slice A l.length c] ∧ Own wx (w.heap.size + 1) 3 (ints (lvTo s l 0)))
      case first =>
        by_cases hs0 : 0 ≤ s
        · have hc := hL.int (j := s.toNat) (by simp; omega)
          go_wp2_with fail
          go_meet
          exact ⟨kept_set hb (by omega) _, ho.other (by simp) _, by rw [lv0_yes l hs0]; exact hL.setInt s.toNat 0⟩
        · go_wp2_with fail
          go_meet
          exact ⟨hb, ho, by rw [lv0_no l (by omega)]; exact hL⟩
      case rest =>
        clear hf o0 o1 o2 hL ho hb
        obtain ⟨A0, A1, A2⟩ := hcut
        go_wp2_with fail
        go_loopg [5] l.length (fun g v wr => ∃ k : Nat, k ≤ l.length ∧ g = l.length - k ∧ v = .int .i64 k ∧ Kept w wr ∧ Own wr w.heap.size 24 [.int .i64 i, .int .i64 s, .slice A l.length c] ∧ Own wr (w.heap.size + 1) 3 (ints (lvTo s l k)))
        case atStart => exact ⟨0, Nat.zero_le _, rfl, rfl, A0, A1, A2⟩
        case round =>
          clear A0 A1 A2
          obtain ⟨k, hk, rfl, rfl, hb, ho, hL⟩ := hrel
          by_cases hlt : k < l.length
          · obtain ⟨b, off, rfl, hcs⟩ := hr.at_ hlt
            obtain ⟨d0, d1, d2⟩ := hcs k hlt
            clear hcs
            replace d0 := kept_cell hb d0
            replace d1 := kept_cell hb d1
            replace d2 := kept_cell hb d2
            have o2 := ho.cell (j := 2) rfl
            have lt1 := hL.lt
            have lk := hL.int (j := k) (by simpa using hlt)
            by_cases hneg : ia (lvTo s l k) k < 0
            · go_wp2_with fail
              go_roundg (l.length - (k + 1))
              case rel => exact ⟨k + 1, by omega, rfl, by go_num, hb, ho, by rw [show lvTo s l (k + 1) = lvTo s l k from lvStep_no hneg]; exact hL⟩
              case measure => omega
            · have sm := lvTo_small s l k k
              have okz := valid_node hv hlt
              go_upto_if 45 with fail
              clear d0 d1 d2
              have Z0 := kept_alloc hb (.cells #[.int .i64 (nv l k), .int .i64 (nz l k), .int .i64 (no l k)] 48)
              have Z1 := ho.alloc (.cells #[.int .i64 (nv l k), .int .i64 (nz l k), .int .i64 (no l k)] 48)
              have Z2 := hL.alloc (.cells #[.int .i64 (nv l k), .int .i64 (nz l k), .int .i64 (no l k)] 48)
              have Z3 := Own.new wr 48 [.int .i64 (nv l k), .int .i64 (nz l k), .int .i64 (no l k)]
              go_cut [] (fun wx => Kept w wx ∧ Own wx w.heap.size 24 [.int .i64 i, .int .i64 s, .slice (some ⟨b, off, none⟩) l.length c] ∧ Own wx (w.heap.size + 1) 3 (ints (upk (lvTo s l k) l k 1)) ∧ Own wx wr.heap.size 48 [.int .i64 (nv l k), .int .i64 (nz l k), .int .i64 (no l k)])
              case first =>
                by_cases hX : 0 ≤ nz l k
                · have cx := hL.int (j := (nz l k).toNat) (by simp; omega)
                  have cf := hL.frozen (nz l k).toNat
                  go_wp2_with fail
                  go_region
                  all_goals
                    simp only [ite_max]
                    go_wp2_with fail
                    go_meet
                    exact ⟨(by repeat (first | assumption | refine kept_drew ?_ | refine kept_alloc ?_ _ | refine kept_set ?_ (by omega) _)), (by repeat (first | assumption | refine Own.drew ?_ | refine Own.alloc ?_ _ | refine Own.other ?_ (by dsimp only; omega) _)), by rw [upk1, up_yes hX]; exact ((hL.setInt _ _).alloc _).drew, Own.drew (by simpa using Own.new (wr.setCell ⟨w.heap.size + 1, (nz l k).toNat, none⟩ (.int .i64 (max (ia (lvTo s l k) (nz l k).toNat) (ia (lvTo s l k) k + 1)))) 48 [.int .i64 (nv l k), .int .i64 (nz l k), .int .i64 (no l k)])⟩
                · go_wp2_with fail
                  go_meet
                  exact ⟨Z0, Z1, by rw [upk1, up_no (by omega)]; exact Z2, Z3⟩
              case rest =>
                have us := upk_small (L := lvTo s l k) (l := l) (k := k) (j := 1) (lvTo_small s l k) (by omega)
                have us2 := us.1 k
                have lt2 := Own.lt Z3
                clear sm lk o2 Z0 Z1 Z2 Z3 hb ho hL
                obtain ⟨Z0, Z1, Z2, Z3⟩ := hcut
                have e2 := Z3.cell (j := 2) rfl
                have lk := Z2.int (j := k) (by simpa using hlt)
                by_cases hX : 0 ≤ no l k
                · have cx := Z2.int (j := (no l k).toNat) (by simp; omega)
                  have cf := Z2.frozen (no l k).toNat
                  go_wp2_with fail
                  go_region
                  all_goals
                    simp only [ite_max]
                    go_wp2_with fail
                    go_roundg (l.length - (k + 1))
                    case rel => exact ⟨k + 1, by omega, rfl, by go_num, kept_drew (kept_set Z0 (by omega) _), Z1.other (by simp) _, by rw [show lvTo s l (k + 1) = upk (lvTo s l k) l k 2 from lvStep_yes (by omega), upk2, up_yes hX]; exact Z2.setInt _ _⟩
                    case measure => omega
                · go_wp2_with fail
                  go_roundg (l.length - (k + 1))
                  case rel => exact ⟨k + 1, by omega, rfl, by go_num, Z0, Z1, by rw [show lvTo s l (k + 1) = upk (lvTo s l k) l k 2 from lvStep_yes (by omega), upk2, up_no (by omega)]; exact Z2⟩
                  case measure => omega
          · have : k = l.length := by omega
            subst this
            go_wp2_with fail
            go_ret
            exact ⟨w.heap.size + 1, rfl, by omega, hL, hb⟩
end Go.Proofs.Ytinpmdekdfgiiaa
