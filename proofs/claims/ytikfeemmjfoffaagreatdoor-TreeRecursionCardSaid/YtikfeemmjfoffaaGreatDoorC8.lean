/- Polynomials: terms with coefficient 0 are struck from a table (maps.DeleteFunc at this element type). -/
import Derived.Test.YtikfeemmjfoffaaGreatDoorC7
import Derived.Maps.Ext
import Derived.Laws.IdiomRangeMap
set_option linter.unusedVariables false
set_option linter.unusedSimpArgs false
namespace Go.Proofs.YtikfeemmjfoffaaGreatDoor
open Go.RowKit Go.Maps

set_option maxRecDepth 100000 in
set_option maxHeartbeats 1000000 in
theorem zero78_any (key : Value) (c : Int) (E : Option Addr) (n cap : Nat) (w : World) :
    Calls Tryz.prog 90 #[key, .agg #[.int .i64 c, .slice E n cap]] w fun e w' => e = .returned (.bool (c == 0)) ∧ w.grownBy w' none := by
  go_enter Tryz.func90, Tryz.ntmps90
  go_wp2_with fail
  go_ret
  exact ⟨rfl, rfl, rfl, rfl, by simp, fun i hi _ => Below.heap_alloc w _ i hi⟩
set_option maxRecDepth 100000 in
set_option maxHeartbeats 1000000 in
theorem deleteFunc77_any (b n : Nat) (D : DataW Value) (w : World) (hown : w.ownsMap Tryz.prog 9 termR b n D) :
    Calls Tryz.prog 89 #[.map (some b), .func (.func 90) #[] #[]] w fun e w' => e = .returned (.tuple #[]) ∧ w'.ownsMap Tryz.prog 9 termR b n (Lib.deleteFuncD pdTe D) ∧ w.grownBy w' (some b) := by
  have K := string_keyed Tryz.underlying9
  obtain ⟨es0, rfl, hap, hkeys⟩ := hown.entries K
  go_enter Tryz.func89, Tryz.ntmps89
  go_wp2_with (first
    | (at_range; refine wpList_range_own _ rfl _ 129 rfl 9 78 K Tryz.underlying129 termR b n _ rfl hown ?_; intro w0 hrg0 hg0 hs0)
    | fail)
  go_frame
  go_loopw [8] (fun _ wr => ∃ (left : Lit → Bool) (cnt : Nat), wr.ranges Tryz.prog 9 termR b w.heap.size n (Fk pdTe es0 left) left cnt ∧ w.grownBy wr (some b))
    (fun _ wr => wr.rangeLeft b w.heap.size)
  case atStart => exact ⟨_, _, by rw [Fk_start hkeys]; exact hrg0, hg0.but _⟩
  case round =>
    obtain ⟨left, cnt, hrg, hgw⟩ := hrel
    go_wp2_with (first
      | (at_next; refine wpList_next_ranges _ rfl _ rfl 9 K termR id id (fun key _ _ => ⟨key, rfl⟩) (fun v _ _ => ⟨v, rfl⟩) b w.heap.size n _ _ _ rfl hrg ?_ ?_)
      | fail)
    · -- nothing is left
      intro _ hl0
      go_wp2_with fail
      go_end0
      exact ⟨rfl, by rw [← Fk_end hl0]; exact hrg.owns, hgw⟩
    · -- an entry has come
      intro x c kl yd yp w1 cnt1 hkey hlx hv hat hrg1 hlt hg1 hs1 hen
      have hgw1 := hgw.andThen hg1 (fun j hj => by cases hj; exact Or.inl (Nat.le_refl _))
      obtain ⟨cc, E, nn, cap, rfl, hz⟩ := termR_inv hv
      obtain ⟨rfl, rfl⟩ := Prod.mk.inj hz
      have hp : pdTe kl (.held (.agg #[.int .i64 cc, .slice E nn cap])) = (cc == 0) := rfl
      have HV := Lib.hid hv
      clear hz hv
      have C78 := Lib.hid fun w' => zero78_any x cc E nn cap w'
      have hbl := hrg1.owns.lt
      have hrl := hrg1.lt
      have hga : w1.grownBy (w1.alloc (.cells #[.int .i64 cc, .slice E nn cap] 78)) none := ⟨rfl, rfl, rfl, by simp, fun i hi _ => Below.heap_alloc w1 _ i hi⟩
      have hrgA := hrg1.kept hga (by simp) (by simp)
      have hgwA := hgw1.andThen hga (fun j hj => by cases hj)
      have HP := Lib.hid hp
      clear hp
      cases hc0 : (cc == 0)
      · -- it stays
        rw [hc0] at C78 HP
        clear hc0
        go_wp2_with (go_at_call 90; ((with_reducible refine (C78.out _).mono ?_); rintro e w2 ⟨rfl, hg2⟩))
        have hrg2 := hrgA.kept hg2 (by simp) (by simp)
        go_roundw
        case rel => exact ⟨_, cnt1, by rw [← Fk_stays hap (K.key hkey) hlx HP.out hat]; exact hrg2, hgwA.andThen hg2 (fun j hj => by cases hj)⟩
        case measure => rw [hrg2.left_eq, hrg.left_eq]; exact hlt
      · -- it is struck
        rw [hc0] at C78 HP
        clear hc0
        go_wp2_with (first
          | (go_at_call 90; ((with_reducible refine (C78.out _).mono ?_); rintro e w2 ⟨rfl, hg2⟩; have hrg2 := hrgA.kept hg2 (by simp) (by simp)))
          | (at_delete; refine wpList_delete_ranges _ rfl _ _ 129 9 rfl 78 K Tryz.underlying129 termR b w.heap.size n _ _ _ rfl hrg2 _ _ rfl hkey ?_; intro w3 cnt3 hrg3 hle hturn; go_frame)
          | fail)
        rw [strike_twice] at hrg3
        go_roundw
        case rel => exact ⟨_, cnt3, by rw [← Fk_struck hap (K.key hkey) hlx HP.out hat]; exact hrg3, (hgwA.andThen hg2 (fun j hj => by cases hj)).andThen hturn.grown (fun j hj => by cases hj; exact Or.inr rfl)⟩
        case measure => rw [hrg3.left_eq, hrg.left_eq]; omega
end Go.Proofs.YtikfeemmjfoffaaGreatDoor
