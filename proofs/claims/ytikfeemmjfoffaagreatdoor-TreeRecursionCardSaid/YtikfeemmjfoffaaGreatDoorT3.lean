/- Trees: check, Table and Poly; equal lists of Booleans. -/
import Derived.Test.YtikfeemmjfoffaaGreatDoorT2
import Derived.Test.YtikfeemmjfoffaaGreatDoorL4
set_option linter.unusedVariables false
set_option linter.unusedSimpArgs false
namespace Go.Proofs.YtikfeemmjfoffaaGreatDoor
open Go.RowKit Go.Shelf

set_option maxRecDepth 100000 in
set_option maxHeartbeats 1000000 in
theorem samebools13_same (A B : Option Addr) (c d : Nat) (l : List Bool) (w : World) (hA : Rd w A (bools l)) (hB : Rd w B (bools l)) (hl : l.length ≤ 140737488355328) :
    Calls Tryz.prog 13 #[.slice A l.length c, .slice B l.length d] w fun e w' => e = .returned (.bool true) ∧ Kept w w' := by
  have HA := Lib.hid hA
  have HB := Lib.hid hB
  clear hA hB
  go_enter Tryz.func13, Tryz.ntmps13
  go_wp2_with fail
  go_loopg [5] l.length (fun g s5 wr => ∃ k : Nat, k ≤ l.length ∧ g = l.length - k ∧ s5 = .int .i64 k ∧ Kept w wr)
  case atStart => exact ⟨0, by omega, rfl, rfl, kept_refl _⟩
  case round =>
    obtain ⟨k, hk, rfl, rfl, k1⟩ := hrel
    by_cases hlt : k < l.length
    · obtain ⟨ba1, of1, rfl, h1⟩ := HA.out.bool hlt
      obtain ⟨ba2, of2, rfl, h2⟩ := HB.out.bool hlt
      have a0 := kept_cell k1 (h1 k hlt)
      have a1 := kept_cell k1 (h2 k hlt)
      obtain ⟨b, hb⟩ : ∃ b, b = ba l k := ⟨_, rfl⟩
      rw [← hb] at a0 a1
      have e2 : (b != b) = false := by cases b <;> rfl
      clear h1 h2 hb
      go_wp2_with fail
      go_quiet (fail)
      go_wp2_with fail
      go_roundg (l.length - (k + 1))
      case rel => exact ⟨k + 1, by omega, rfl, by go_num, below_drewN k1 _⟩
      case measure => omega
    · obtain rfl : k = l.length := by omega
      go_wp2_with fail
      go_ret
      exact ⟨rfl, k1⟩
/-- The node and the bit are there. -/
def inB (t : Tr) (n k : Int) : Bool := decide (0 ≤ n) && decide (n < t.tb.length) && decide (0 ≤ k) && decide (k < t.b)
def chkE (t : Tr) (n k : Int) : Int := if validT t = true then (if inB t n k = true then 0 else 2) else 1
theorem chk_range (t : Tr) (n k : Int) : (chkE t n k = 1 ∧ validT t = false) ∨ (chkE t n k = 2 ∧ validT t = true ∧ inB t n k = false) ∨ (chkE t n k = 0 ∧ validT t = true ∧ inB t n k = true) := by
  unfold chkE
  cases validT t <;> cases inB t n k <;> simp
theorem inB_iff {t : Tr} {n k : Int} : inB t n k = true ↔ 0 ≤ n ∧ n < t.tb.length ∧ 0 ≤ k ∧ k < t.b := by
  unfold inB
  simp [and_assoc]
set_option maxRecDepth 100000 in
set_option maxHeartbeats 1000000 in
theorem check33_any (t : Tr) (n k : Int) (A : Option Addr) (c : Nat) (T : Option Addr) (d : Nat) (w : World) (hA : Rd w A (ints t.lv)) (hT : RT w T t.tb) (hl : t.lv.length ≤ 140737488355328) (ht : t.tb.length ≤ 140737488355328) :
    Calls Tryz.prog 33 #[trV t A c T d, .int .i64 n, .int .i64 k] w fun e w' => e = .returned (.int .i64 (chkE t n k)) ∧ Kept w w' := by
  have C44 := Lib.hid fun (w' : World) (kk : Kept w w') => valid18_any t.h t.b A c t.lv T d t.tb w' (hA.kept kk) (hT.kept kk) hl ht
  rw [show (⟨t.h, t.b, t.lv, t.tb⟩ : Tr) = t from rfl] at C44
  unfold trV
  have K0 := kept_alloc (kept_refl w) (.cells #[.int .i64 t.h, .int .i64 t.b, .slice A t.lv.length c, .slice T t.tb.length d] 27)
  have o0 := Own.new w 27 [.int .i64 t.h, .int .i64 t.b, .slice A t.lv.length c, .slice T t.tb.length d]
  obtain ⟨W0, hW0⟩ : ∃ W0, W0 = w.alloc (.cells #[.int .i64 t.h, .int .i64 t.b, .slice A t.lv.length c, .slice T t.tb.length d] 27) := ⟨_, rfl⟩
  rw [← hW0] at K0 o0
  have HW0 := Lib.hid hW0
  have q0 := o0.cell (j := 0) rfl; have q1 := o0.cell (j := 1) rfl; have q2 := o0.cell (j := 2) rfl; have q3 := o0.cell (j := 3) rfl
  obtain ⟨E, hE⟩ : ∃ E, E = chkE t n k := ⟨_, rfl⟩
  have HE := Lib.hid hE
  rw [← hE]
  clear hA hT hW0 hE
  cases hv : validT t with
  | false =>
    rw [hv] at C44
    have e1 : E = 1 := by rw [HE.out]; unfold chkE; rw [hv]; rfl
    subst e1
    clear hv
    go_enter Tryz.func33, Tryz.ntmps33
    go_upto_region 1 with fail
    rw [← HW0.out]
    go_wp2_with (go_at_call 44; ((with_reducible refine (C44.out _ K0).mono ?_); rintro e w1 ⟨rfl, k1⟩))
    go_ret
    exact ⟨rfl, kept_trans K0 k1⟩
  | true =>
    rw [hv] at C44
    have HI := Lib.hid (show E = if inB t n k = true then 0 else 2 by rw [HE.out]; unfold chkE; rw [hv]; rfl)
    have hno : inB t n k = false → E = 2 := fun h => by rw [HI.out, h]; rfl
    have HNO := Lib.hid hno
    clear hv hno
    have q1k := q1
    by_cases a1 : n < 0
    · obtain rfl : E = 2 := HNO.out (by rw [Bool.eq_false_iff]; intro h; have := inB_iff.1 h; omega)
      have d1 : decide (n < 0) = true := decide_eq_true a1
      clear a1
      go_enter Tryz.func33, Tryz.ntmps33
      go_upto_region 1 with fail
      rw [← HW0.out]
      go_wp2_with (go_at_call 44; ((with_reducible refine (C44.out _ K0).mono ?_); rintro e w1 ⟨rfl, k1⟩; replace q1 := kept_cell k1 q1; replace q3 := kept_cell k1 q3))
      go_ret
      exact ⟨rfl, kept_trans K0 k1⟩
    · have d1 : decide (n < 0) = false := decide_eq_false a1
      by_cases a2 : (t.tb.length : Int) ≤ n
      · obtain rfl : E = 2 := HNO.out (by rw [Bool.eq_false_iff]; intro h; have := inB_iff.1 h; omega)
        have d2 : decide ((t.tb.length : Int) ≤ n) = true := decide_eq_true a2
        clear a1 a2
        go_enter Tryz.func33, Tryz.ntmps33
        go_upto_region 1 with fail
        rw [← HW0.out]
        go_wp2_with (go_at_call 44; ((with_reducible refine (C44.out _ K0).mono ?_); rintro e w1 ⟨rfl, k1⟩; replace q1 := kept_cell k1 q1; replace q3 := kept_cell k1 q3))
        go_ret
        exact ⟨rfl, kept_trans K0 k1⟩
      · have d2 : decide ((t.tb.length : Int) ≤ n) = false := decide_eq_false a2
        by_cases a3 : k < 0
        · obtain rfl : E = 2 := HNO.out (by rw [Bool.eq_false_iff]; intro h; have := inB_iff.1 h; omega)
          have d3 : decide (k < 0) = true := decide_eq_true a3
          clear a1 a2 a3
          go_enter Tryz.func33, Tryz.ntmps33
          go_upto_region 1 with fail
          rw [← HW0.out]
          go_wp2_with (go_at_call 44; ((with_reducible refine (C44.out _ K0).mono ?_); rintro e w1 ⟨rfl, k1⟩; replace q1 := kept_cell k1 q1; replace q3 := kept_cell k1 q3))
          go_ret
          exact ⟨rfl, kept_trans K0 k1⟩
        · have d3 : decide (k < 0) = false := decide_eq_false a3
          by_cases a4 : t.b ≤ k
          · obtain rfl : E = 2 := HNO.out (by rw [Bool.eq_false_iff]; intro h; have := inB_iff.1 h; omega)
            have d4 : decide (t.b ≤ k) = true := decide_eq_true a4
            clear a1 a2 a3 a4
            go_enter Tryz.func33, Tryz.ntmps33
            go_upto_region 1 with fail
            rw [← HW0.out]
            go_wp2_with (go_at_call 44; ((with_reducible refine (C44.out _ K0).mono ?_); rintro e w1 ⟨rfl, k1⟩; replace q1 := kept_cell k1 q1; replace q3 := kept_cell k1 q3))
            go_ret
            exact ⟨rfl, kept_trans K0 k1⟩
          · have d4 : decide (t.b ≤ k) = false := decide_eq_false a4
            obtain rfl : E = 0 := by rw [HI.out, if_pos (inB_iff.2 ⟨by omega, by omega, by omega, by omega⟩)]
            clear a1 a2 a3 a4
            go_enter Tryz.func33, Tryz.ntmps33
            go_upto_region 1 with fail
            rw [← HW0.out]
            go_wp2_with (go_at_call 44; ((with_reducible refine (C44.out _ K0).mono ?_); rintro e w1 ⟨rfl, k1⟩; replace q1 := kept_cell k1 q1; replace q3 := kept_cell k1 q3))
            go_ret
            exact ⟨rfl, kept_trans K0 k1⟩
def tabO (t : Tr) (n k : Int) : List Bool := if chkE t n k = 0 then tabB t n.toNat k.toNat else []
def Table8Post (l : List Bool) (x : Int) (w : World) (e : Ending) (w' : World) : Prop := ∃ (A' : Option Addr) (c' : Nat), e = .returned (.tuple #[.slice A' l.length c', .int .i64 x]) ∧ Rd w' A' (bools l) ∧ Kept w w'
set_option maxRecDepth 100000 in
set_option maxHeartbeats 1000000 in
theorem table8_any (t : Tr) (n k : Int) (A : Option Addr) (c : Nat) (T : Option Addr) (d : Nat) (w : World) (hA : Rd w A (ints t.lv)) (hT : RT w T t.tb) (hl : t.lv.length ≤ 140737488355328) (ht : t.tb.length ≤ 140737488355328) :
    Calls Tryz.prog 8 #[trV t A c T d, .int .i64 n, .int .i64 k] w (Table8Post (tabO t n k) (chkE t n k) w) := by
  have C33 := Lib.hid fun (w' : World) (kk : Kept w w') => check33_any t n k A c T d w' (hA.kept kk) (hT.kept kk) hl ht
  have C34 := Lib.hid fun (hv : validT t = true) (hi : inB t n k = true) (w' : World) (kk : Kept w w') => table34_any t (good_of hv) n.toNat k.toNat (by have := inB_iff.1 hi; omega) (by have := inB_iff.1 hi; have := (good_of hv).b6; omega) A c T d w' (hT.kept kk)
  unfold trV at *
  have K0 := kept_alloc (kept_refl w) (.cells #[.int .i64 t.h, .int .i64 t.b, .slice A t.lv.length c, .slice T t.tb.length d] 27)
  have o0 := Own.new w 27 [.int .i64 t.h, .int .i64 t.b, .slice A t.lv.length c, .slice T t.tb.length d]
  obtain ⟨W0, hW0⟩ : ∃ W0, W0 = w.alloc (.cells #[.int .i64 t.h, .int .i64 t.b, .slice A t.lv.length c, .slice T t.tb.length d] 27) := ⟨_, rfl⟩
  rw [← hW0] at K0 o0
  have HW0 := Lib.hid hW0
  have q0 := o0.cell (j := 0) rfl; have q1 := o0.cell (j := 1) rfl; have q2 := o0.cell (j := 2) rfl; have q3 := o0.cell (j := 3) rfl
  clear hA hT hW0 hl ht
  rcases chk_range t n k with ⟨e, hv⟩ | ⟨e, hv, hi⟩ | ⟨e, hv, hi⟩
  · have e2 : tabO t n k = [] := by unfold tabO; rw [e]; rfl
    rw [e] at C33
    rw [e, e2]
    clear C34 hv e e2
    go_enter Tryz.func8, Tryz.ntmps8
    go_upto_region 1 with fail
    rw [← HW0.out]
    go_wp2_with (go_at_call 33; ((with_reducible refine (C33.out _ K0).mono ?_); rintro e w1 ⟨rfl, k1⟩))
    go_ret2
    exact ⟨none, 0, rfl, Rd.nil _ _, kept_trans K0 k1⟩
  · have e2 : tabO t n k = [] := by unfold tabO; rw [e]; rfl
    rw [e] at C33
    rw [e, e2]
    clear C34 hv e e2 hi
    go_enter Tryz.func8, Tryz.ntmps8
    go_upto_region 1 with fail
    rw [← HW0.out]
    go_wp2_with (go_at_call 33; ((with_reducible refine (C33.out _ K0).mono ?_); rintro e w1 ⟨rfl, k1⟩))
    go_ret2
    exact ⟨none, 0, rfl, Rd.nil _ _, kept_trans K0 k1⟩
  · have e2 : tabO t n k = tabB t n.toNat k.toNat := by unfold tabO; rw [e]; rfl
    rw [e] at C33
    rw [e, e2]
    have h5 := inB_iff.1 hi
    have en : ((n.toNat : Nat) : Int) = n := by omega
    have ek : ((k.toNat : Nat) : Int) = k := by omega
    have C34' := Lib.hid (C34.out hv hi)
    rw [en, ek] at C34'
    obtain ⟨L, hL⟩ : ∃ L, L = tabB t n.toNat k.toNat := ⟨_, rfl⟩
    rw [← hL] at C34' ⊢
    unfold TabPost at C34'
    clear C34 hv e e2 hi h5 en ek hL
    go_enter Tryz.func8, Tryz.ntmps8
    go_upto_region 1 with fail
    rw [← HW0.out]
    go_wp2_with (first
      | (go_at_call 33; ((with_reducible refine (C33.out _ K0).mono ?_); rintro e w1 ⟨rfl, k1⟩; replace K0 := kept_trans K0 k1; replace q0 := kept_cell k1 q0; replace q1 := kept_cell k1 q1; replace q2 := kept_cell k1 q2; replace q3 := kept_cell k1 q3))
      | (go_at_call 34; ((with_reducible refine (C34'.out _ K0).mono ?_); rintro e w2 ⟨A2, c2, rfl, hr2, k2⟩)))
    go_ret2
    exact ⟨A2, c2, rfl, hr2, kept_trans K0 k2⟩
def polE (P M : Int) (t : Tr) (n k : Int) : Int := if okF P M = true then chkE t n k else 1
def polO (P M : Int) (t : Tr) (n k : Int) : List Tm := if polE P M t n k = 0 then mlT P M (tabB t n.toNat k.toNat) (2 * t.b).toNat else []
def Poly9Post (l : List Tm) (x : Int) (w : World) (e : Ending) (w' : World) : Prop := ∃ (A' : Option Addr) (c' : Nat), e = .returned (.tuple #[.slice A' l.length c', .int .i64 x]) ∧ RP w' A' l ∧ Kept w w'
theorem rpn {w : World} {A : Option Addr} : RP w A [] := fun j hj => by simp at hj
set_option maxRecDepth 100000 in
set_option maxHeartbeats 1000000 in
theorem poly9_any (P M : Int) (t : Tr) (n k : Int) (A : Option Addr) (c : Nat) (T : Option Addr) (d : Nat) (w : World) (hA : Rd w A (ints t.lv)) (hT : RT w T t.tb) (hl : t.lv.length ≤ 140737488355328) (ht : t.tb.length ≤ 140737488355328) :
    Calls Tryz.prog 9 #[fV P M, trV t A c T d, .int .i64 n, .int .i64 k] w (Poly9Post (polO P M t n k) (polE P M t n k) w) := by
  have C35 := Lib.hid fun w' => valid51_any P M w'
  have C33 := Lib.hid fun (w' : World) (kk : Kept w w') => check33_any t n k A c T d w' (hA.kept kk) (hT.kept kk) hl ht
  have C34 := Lib.hid fun (hv : validT t = true) (hi : inB t n k = true) (w' : World) (kk : Kept w w') => table34_any t (good_of hv) n.toNat k.toNat (by have := inB_iff.1 hi; omega) (by have := inB_iff.1 hi; have := (good_of hv).b6; omega) A c T d w' (hT.kept kk)
  have C36 := Lib.hid fun (ok : okF P M = true) (hv : validT t = true) (w' : World) (B : Option Addr) (e : Nat) (hB : Rd w' B (bools (tabB t n.toNat k.toNat))) => multi20_yes P M (2 * t.b).toNat (tabB t n.toNat k.toNat) B e w' ok hB (by rw [tabB_len]; have g := good_of hv; have := pw_le (b := t.b) g.b6; rw [pw_two (by have := g.b1; omega)]; exact Nat.le_trans (Nat.mul_le_mul this this) (by decide)) (by have := (good_of hv).b6; omega) (by rw [tabB_len]; rfl)
  unfold trV fV at *
  have K0 := kept_alloc (kept_alloc (kept_refl w) (.cells #[.int .i64 P, .int .i64 M] 23)) (.cells #[.int .i64 t.h, .int .i64 t.b, .slice A t.lv.length c, .slice T t.tb.length d] 27)
  have p0 := (Own.new w 23 [.int .i64 P, .int .i64 M]).alloc (.cells #[.int .i64 t.h, .int .i64 t.b, .slice A t.lv.length c, .slice T t.tb.length d] 27)
  have o0 := Own.new (w.alloc (.cells #[.int .i64 P, .int .i64 M] 23)) 27 [.int .i64 t.h, .int .i64 t.b, .slice A t.lv.length c, .slice T t.tb.length d]
  rw [show (w.alloc (.cells #[.int .i64 P, .int .i64 M] 23)).heap.size = w.heap.size + 1 by simp] at o0
  obtain ⟨W0, hW0⟩ : ∃ W0, W0 = (w.alloc (.cells #[.int .i64 P, .int .i64 M] 23)).alloc (.cells #[.int .i64 t.h, .int .i64 t.b, .slice A t.lv.length c, .slice T t.tb.length d] 27) := ⟨_, rfl⟩
  have o0' : Own W0 (w.heap.size + 1) 27 [.int .i64 t.h, .int .i64 t.b, .slice A t.lv.length c, .slice T t.tb.length d] := by rw [hW0]; exact o0
  rw [← hW0] at K0 p0
  have HW0 := Lib.hid hW0
  have y0 := p0.cell (j := 0) rfl; have y1 := p0.cell (j := 1) rfl
  have q0 := o0'.cell (j := 0) rfl; have q1 := o0'.cell (j := 1) rfl; have q2 := o0'.cell (j := 2) rfl; have q3 := o0'.cell (j := 3) rfl
  clear hA hT hW0 hl ht o0
  cases ok : okF P M with
  | false =>
    have e1 : polE P M t n k = 1 := by unfold polE; rw [ok]; rfl
    have e2 : polO P M t n k = [] := by unfold polO; rw [e1]; rfl
    rw [e1, e2]
    rw [ok] at C35
    clear C34 C36 C33 e1 e2 ok
    go_enter Tryz.func9, Tryz.ntmps9
    go_upto_region 1 with fail
    rw [← HW0.out]
    go_wp2_with (go_at_call 35; ((with_reducible refine (C35.out _).mono ?_); rintro e w1 ⟨rfl, k1⟩))
    go_ret2
    exact ⟨none, 0, rfl, rpn, kept_trans K0 k1⟩
  | true =>
    have e0 : polE P M t n k = chkE t n k := by unfold polE; rw [ok]; rfl
    rw [ok] at C35
    rcases chk_range t n k with ⟨e, hv⟩ | ⟨e, hv, hi⟩ | ⟨e, hv, hi⟩
    · have e2 : polO P M t n k = [] := by unfold polO; rw [e0, e]; rfl
      rw [e] at C33
      rw [e0, e, e2]
      clear C34 C36 hv e e2 e0 ok
      go_enter Tryz.func9, Tryz.ntmps9
      go_upto_region 1 with fail
      rw [← HW0.out]
      go_wp2_with (first
        | (go_at_call 35; ((with_reducible refine (C35.out _).mono ?_); rintro e w1 ⟨rfl, k1⟩; replace K0 := kept_trans K0 k1; replace q0 := kept_cell k1 q0; replace q1 := kept_cell k1 q1; replace q2 := kept_cell k1 q2; replace q3 := kept_cell k1 q3))
        | (go_at_call 33; ((with_reducible refine (C33.out _ K0).mono ?_); rintro e w2 ⟨rfl, k2⟩)))
      go_ret2
      exact ⟨none, 0, rfl, rpn, kept_trans K0 k2⟩
    · have e2 : polO P M t n k = [] := by unfold polO; rw [e0, e]; rfl
      rw [e] at C33
      rw [e0, e, e2]
      clear C34 C36 hv e e2 e0 ok hi
      go_enter Tryz.func9, Tryz.ntmps9
      go_upto_region 1 with fail
      rw [← HW0.out]
      go_wp2_with (first
        | (go_at_call 35; ((with_reducible refine (C35.out _).mono ?_); rintro e w1 ⟨rfl, k1⟩; replace K0 := kept_trans K0 k1; replace q0 := kept_cell k1 q0; replace q1 := kept_cell k1 q1; replace q2 := kept_cell k1 q2; replace q3 := kept_cell k1 q3))
        | (go_at_call 33; ((with_reducible refine (C33.out _ K0).mono ?_); rintro e w2 ⟨rfl, k2⟩)))
      go_ret2
      exact ⟨none, 0, rfl, rpn, kept_trans K0 k2⟩
    · have e2 : polO P M t n k = mlT P M (tabB t n.toNat k.toNat) (2 * t.b).toNat := by unfold polO; rw [e0, e]; rfl
      rw [e] at C33
      rw [e0, e, e2]
      have h5 := inB_iff.1 hi
      have en : ((n.toNat : Nat) : Int) = n := by omega
      have ek : ((k.toNat : Nat) : Int) = k := by omega
      have C34' := Lib.hid (C34.out hv hi)
      have C36' := Lib.hid (C36.out ok hv)
      rw [en, ek] at C34'
      obtain ⟨R, hR⟩ : ∃ R, R = mlT P M (tabB t n.toNat k.toNat) (2 * t.b).toNat := ⟨_, rfl⟩
      rw [← hR] at C36' ⊢
      obtain ⟨L, hL⟩ : ∃ L, L = tabB t n.toNat k.toNat := ⟨_, rfl⟩
      rw [← hL] at C34' C36'
      unfold TabPost at C34'
      clear C34 C36 hv e e2 e0 ok hi h5 en ek hL hR
      go_enter Tryz.func9, Tryz.ntmps9
      go_upto_region 1 with fail
      rw [← HW0.out]
      go_upto_region 6 with (first
        | (go_at_call 35; ((with_reducible refine (C35.out _).mono ?_); rintro e w1 ⟨rfl, k1⟩; replace K0 := kept_trans K0 k1; replace y0 := kept_cell k1 y0; replace y1 := kept_cell k1 y1; replace q0 := kept_cell k1 q0; replace q1 := kept_cell k1 q1; replace q2 := kept_cell k1 q2; replace q3 := kept_cell k1 q3))
        | (go_at_call 33; ((with_reducible refine (C33.out _ K0).mono ?_); rintro e w2 ⟨rfl, k2⟩; replace K0 := kept_trans K0 k2; replace y0 := kept_cell k2 y0; replace y1 := kept_cell k2 y1; replace q0 := kept_cell k2 q0; replace q1 := kept_cell k2 q1; replace q2 := kept_cell k2 q2; replace q3 := kept_cell k2 q3)))
      refine region_x (fun w' => Kept w2 w') [] (by kernel_rfl) (kept_drew (kept_refl _)) (fun hHeld => ?_)
      refine x_take (i := 0) (oi := { dst := some 21, op := Op.load 23 (Operand.tmp 4), type := 23, pos := "tree.go:97", after := #[], guard := none }) (v := ?_) rfl (by kernel_rfl) (by kernel_rfl) (by kernel_rfl) (by kernel_rfl) (by kernel_rfl) (fun _ _ _ h => h) (Or.inl ⟨rfl, ?_⟩) (by assumption) ?_
      rotate_left
      · (intro w' hSw; replace y0 := kept_cell hSw y0; replace y1 := kept_cell hSw y1; replace q0 := kept_cell hSw q0; replace q1 := kept_cell hSw q1; replace q2 := kept_cell hSw q2; replace q3 := kept_cell hSw q3; go_simp; try with_reducible rfl)
      try simp only [Act.put, List.setIfInBounds_toArray, List.set_cons_zero, List.set_cons_succ]
      refine x_take (i := 1) (oi := { dst := some 22, op := Op.load 27 (Operand.tmp 5), type := 27, pos := "tree.go:97", after := #[], guard := none }) (v := ?_) rfl (by kernel_rfl) (by kernel_rfl) (by kernel_rfl) (by kernel_rfl) (by kernel_rfl) (fun _ _ _ h => h) (Or.inl ⟨rfl, ?_⟩) (by assumption) ?_
      rotate_left
      · (intro w' hSw; replace y0 := kept_cell hSw y0; replace y1 := kept_cell hSw y1; replace q0 := kept_cell hSw q0; replace q1 := kept_cell hSw q1; replace q2 := kept_cell hSw q2; replace q3 := kept_cell hSw q3; go_simp; try with_reducible rfl)
      try simp only [Act.put, List.setIfInBounds_toArray, List.set_cons_zero, List.set_cons_succ]
      refine x_take (i := 2) (oi := { dst := some 23, op := Op.move (Operand.tmp 2), type := 3, pos := "tree.go:97", after := #[], guard := none }) (v := ?_) rfl (by kernel_rfl) (by kernel_rfl) (by kernel_rfl) (by kernel_rfl) (by kernel_rfl) (fun _ _ _ h => h) (Or.inl ⟨rfl, ?_⟩) (by assumption) ?_
      rotate_left
      · (intro w' hSw; replace y0 := kept_cell hSw y0; replace y1 := kept_cell hSw y1; replace q0 := kept_cell hSw q0; replace q1 := kept_cell hSw q1; replace q2 := kept_cell hSw q2; replace q3 := kept_cell hSw q3; go_simp; try with_reducible rfl)
      try simp only [Act.put, List.setIfInBounds_toArray, List.set_cons_zero, List.set_cons_succ]
      refine x_take (i := 3) (oi := { dst := some 24, op := Op.move (Operand.tmp 3), type := 3, pos := "tree.go:97", after := #[], guard := none }) (v := ?_) rfl (by kernel_rfl) (by kernel_rfl) (by kernel_rfl) (by kernel_rfl) (by kernel_rfl) (fun _ _ _ h => h) (Or.inl ⟨rfl, ?_⟩) (by assumption) ?_
      rotate_left
      · (intro w' hSw; replace y0 := kept_cell hSw y0; replace y1 := kept_cell hSw y1; replace q0 := kept_cell hSw q0; replace q1 := kept_cell hSw q1; replace q2 := kept_cell hSw q2; replace q3 := kept_cell hSw q3; go_simp; try with_reducible rfl)
      try simp only [Act.put, List.setIfInBounds_toArray, List.set_cons_zero, List.set_cons_succ]
      refine x_one (i := 4) (o := { dst := some 25, op := Op.call { callee := Callee.value (Operand.func 34), args := #[Operand.tmp 22, Operand.tmp 23, Operand.tmp 24], argTypes := #[27, 3, 3] }, type := 30, pos := "tree.go:97", after := #[{ on := 1, ground := Ground.data }, { on := 2, ground := Ground.data }, { on := 3, ground := Ground.data }], guard := none }) (by kernel_rfl) rfl (fun K hK => ?_)
      (go_simp; go_at_call 34; (with_reducible refine (C34'.out _ (kept_trans K0 hHeld)).mono ?_); rintro e w4 ⟨A4, c4, rfl, hr4, k4⟩; have G4 := kept_trans hHeld k4; try dsimp only)
      refine hK.out _ _ ?_ (fun hHeld => ?_)
      · (try dsimp only); repeat (first | assumption | exact kept_refl _ | refine kept_drew ?_ | refine kept_alloc ?_ _ | refine kept_set ?_ (by omega) _)
      clear hK K
      try simp only [Act.put, List.setIfInBounds_toArray, List.set_cons_zero, List.set_cons_succ]
      refine x_one (i := 5) (o := { dst := some 26, op := Op.call { callee := Callee.value (Operand.func 36), args := #[Operand.tmp 21, Operand.tmp 25], argTypes := #[23, 30] }, type := 36, pos := "tree.go:97", after := #[{ on := 0, ground := Ground.data }, { on := 4, ground := Ground.data }, { on := 4, ground := Ground.chain }], guard := none }) (by kernel_rfl) rfl (fun K hK => ?_)
      (go_simp; go_at_call 36; (with_reducible refine (C36'.out _ A4 c4 hr4).mono ?_); rintro e w5 ⟨A5, c5, r5, rfl, er5, hr5, k5⟩; have G5 := kept_trans hHeld k5; try dsimp only)
      refine hK.out _ _ ?_ (fun hHeld => ?_)
      · (try dsimp only); repeat (first | assumption | exact kept_refl _ | refine kept_drew ?_ | refine kept_alloc ?_ _ | refine kept_set ?_ (by omega) _)
      clear hK K
      try simp only [Act.put, List.setIfInBounds_toArray, List.set_cons_zero, List.set_cons_succ]
      refine x_take (i := 6) (oi := { dst := some 27, op := Op.extract (Operand.tmp 26) 0, type := 35, pos := "tree.go:97", after := #[{ on := 5, ground := Ground.data }], guard := none }) (v := ?_) rfl (by kernel_rfl) (by kernel_rfl) (by kernel_rfl) (by kernel_rfl) (by kernel_rfl) (fun _ _ _ h => h) (Or.inl ⟨rfl, ?_⟩) (by assumption) ?_
      rotate_left
      · (intro w' hSw; replace y0 := kept_cell hSw y0; replace y1 := kept_cell hSw y1; replace q0 := kept_cell hSw q0; replace q1 := kept_cell hSw q1; replace q2 := kept_cell hSw q2; replace q3 := kept_cell hSw q3; go_simp; try with_reducible rfl)
      try simp only [Act.put, List.setIfInBounds_toArray, List.set_cons_zero, List.set_cons_succ]
      refine x_take (i := 7) (oi := { dst := some 28, op := Op.extract (Operand.tmp 26) 1, type := 31, pos := "tree.go:97", after := #[{ on := 5, ground := Ground.data }], guard := none }) (v := ?_) rfl (by kernel_rfl) (by kernel_rfl) (by kernel_rfl) (by kernel_rfl) (by kernel_rfl) (fun _ _ _ h => h) (Or.inl ⟨rfl, ?_⟩) (by assumption) ?_
      rotate_left
      · (intro w' hSw; replace y0 := kept_cell hSw y0; replace y1 := kept_cell hSw y1; replace q0 := kept_cell hSw q0; replace q1 := kept_cell hSw q1; replace q2 := kept_cell hSw q2; replace q3 := kept_cell hSw q3; go_simp; try with_reducible rfl)
      try simp only [Act.put, List.setIfInBounds_toArray, List.set_cons_zero, List.set_cons_succ]
      refine x_take (i := 8) (oi := { dst := some 8, op := Op.assign (Operand.tmp 27), type := 35, pos := "tree.go:97", after := #[{ on := 6, ground := Ground.data }, { on := 5, ground := Ground.chain }, { on := 0, ground := Ground.phase }, { on := 1, ground := Ground.phase }, { on := 2, ground := Ground.phase }, { on := 3, ground := Ground.phase }, { on := 4, ground := Ground.phase }, { on := 5, ground := Ground.phase }, { on := 6, ground := Ground.phase }, { on := 7, ground := Ground.phase }], guard := none }) (v := ?_) rfl (by kernel_rfl) (by kernel_rfl) (by kernel_rfl) (by kernel_rfl) (by kernel_rfl) (fun _ _ _ h => h) (Or.inl ⟨rfl, ?_⟩) (by assumption) ?_
      rotate_left
      · (intro w' hSw; replace y0 := kept_cell hSw y0; replace y1 := kept_cell hSw y1; replace q0 := kept_cell hSw q0; replace q1 := kept_cell hSw q1; replace q2 := kept_cell hSw q2; replace q3 := kept_cell hSw q3; go_simp; try with_reducible rfl)
      try simp only [Act.put, List.setIfInBounds_toArray, List.set_cons_zero, List.set_cons_succ]
      refine x_take (i := 9) (oi := { dst := some 9, op := Op.assign (Operand.tmp 28), type := 31, pos := "tree.go:97", after := #[{ on := 7, ground := Ground.data }, { on := 8, ground := Ground.chain }, { on := 0, ground := Ground.phase }, { on := 1, ground := Ground.phase }, { on := 2, ground := Ground.phase }, { on := 3, ground := Ground.phase }, { on := 4, ground := Ground.phase }, { on := 5, ground := Ground.phase }, { on := 6, ground := Ground.phase }, { on := 7, ground := Ground.phase }, { on := 8, ground := Ground.phase }], guard := none }) (v := ?_) rfl (by kernel_rfl) (by kernel_rfl) (by kernel_rfl) (by kernel_rfl) (by kernel_rfl) (fun _ _ _ h => h) (Or.inl ⟨rfl, ?_⟩) (by assumption) ?_
      rotate_left
      · (intro w' hSw; replace y0 := kept_cell hSw y0; replace y1 := kept_cell hSw y1; replace q0 := kept_cell hSw q0; replace q1 := kept_cell hSw q1; replace q2 := kept_cell hSw q2; replace q3 := kept_cell hSw q3; go_simp; try with_reducible rfl)
      try simp only [Act.put, List.setIfInBounds_toArray, List.set_cons_zero, List.set_cons_succ]
      refine x_done (by kernel_rfl) ?_ _
      subst er5
      go_wp2_with fail
      go_ret2
      exact ⟨A5, c5, rfl, hr5, kept_trans K0 G5⟩
end Go.Proofs.YtikfeemmjfoffaaGreatDoor
