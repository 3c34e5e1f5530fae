/- Trees: the law TreeRecursion, walked. (printed by genT9.py) -/
import Derived.Test.YtikfeemmjfoffaaGreatDoorT8
import Derived.Test.YtikfeemmjfoffaaGreatDoorT7
import Derived.Test.YtikfeemmjfoffaaGreatDoorU4
set_option linter.unusedVariables false
set_option linter.unusedSimpArgs false
namespace Go.Proofs.YtikfeemmjfoffaaGreatDoor
open Go.RowKit Go.Shelf

set_option maxRecDepth 100000 in
set_option maxHeartbeats 1000000 in
theorem law4_few (P M : Int) (t : Tr) (A : Option Addr) (c : Nat) (T : Option Addr) (d : Nat) (n : Int) (w : World) (hlib : LibOk w) (hA : Rd w A (ints t.lv)) (hT : RT w T t.tb) (hl : t.lv.length ≤ 140737488355328) (ht : t.tb.length ≤ 140737488355328) (hf : fewBW 10000 t = false) :
    Calls Tryz.prog 4 #[fV P M, trV t A c T d, .int .i64 n] w fun e w' => e = .returned (.bool true) ∧ Kept w w' := by
  have C6 := Lib.hid fun (w' : World) (kk : Kept w w') => few7_any 10000 (by omega) (by omega) t A c T d w' (hT.kept kk) hl ht
  have C7 := Lib.hid fun (w' : World) (kk : Kept w w') => alive8 w' (hlib.kept kk)
  unfold trV fV at *
  have K2 := kept_alloc (kept_alloc (kept_refl w) (.cells #[.int .i64 P, .int .i64 M] 23)) (.cells #[.int .i64 t.h, .int .i64 t.b, .slice A t.lv.length c, .slice T t.tb.length d] 27)
  have p0 := (Own.new w 23 [.int .i64 P, .int .i64 M]).alloc (.cells #[.int .i64 t.h, .int .i64 t.b, .slice A t.lv.length c, .slice T t.tb.length d] 27)
  have o0 := Own.new (w.alloc (.cells #[.int .i64 P, .int .i64 M] 23)) 27 [.int .i64 t.h, .int .i64 t.b, .slice A t.lv.length c, .slice T t.tb.length d]
  rw [show (w.alloc (.cells #[.int .i64 P, .int .i64 M] 23)).heap.size = w.heap.size + 1 by simp] at o0
  obtain ⟨W0, hW0⟩ : ∃ W0, W0 = (w.alloc (.cells #[.int .i64 P, .int .i64 M] 23)).alloc (.cells #[.int .i64 t.h, .int .i64 t.b, .slice A t.lv.length c, .slice T t.tb.length d] 27) := ⟨_, rfl⟩
  have o0' : Own W0 (w.heap.size + 1) 27 [.int .i64 t.h, .int .i64 t.b, .slice A t.lv.length c, .slice T t.tb.length d] := by rw [hW0]; exact o0
  rw [← hW0] at K2 p0
  have HW0 := Lib.hid hW0
  have y0 := p0.cell (j := 0) rfl; have y1 := p0.cell (j := 1) rfl
  have q0 := o0'.cell (j := 0) rfl; have q1 := o0'.cell (j := 1) rfl; have q2 := o0'.cell (j := 2) rfl; have q3 := o0'.cell (j := 3) rfl
  clear hW0 o0
  rw [hf] at C6
  clear hA hT hlib hf
  go_enter Tryz.func4, Tryz.ntmps4
  go_upto_region 1 with fail
  rw [← HW0.out]
  go_wp2_with (first
    | (go_at_call 6; ((with_reducible refine (C6.out _ K2).mono ?_); rintro e w1 ⟨rfl, k1⟩; replace K2 := kept_trans K2 k1; replace y0 := kept_cell k1 y0; replace y1 := kept_cell k1 y1; replace q0 := kept_cell k1 q0; replace q1 := kept_cell k1 q1; replace q2 := kept_cell k1 q2; replace q3 := kept_cell k1 q3))
    | (go_at_call 7; ((with_reducible refine (C7.out _ K2).mono ?_); rintro e w9 ⟨rfl, k9⟩; replace K2 := kept_trans K2 k9)))
  go_ret
  exact ⟨rfl, K2⟩
set_option maxRecDepth 100000 in
set_option maxHeartbeats 1000000 in
theorem law4_wide (P M : Int) (t : Tr) (A : Option Addr) (c : Nat) (T : Option Addr) (d : Nat) (n : Int) (w : World) (hlib : LibOk w) (hA : Rd w A (ints t.lv)) (hT : RT w T t.tb) (hl : t.lv.length ≤ 140737488355328) (ht : t.tb.length ≤ 140737488355328) (hf : fewBW 10000 t = true) (h3 : 3 < t.b) :
    Calls Tryz.prog 4 #[fV P M, trV t A c T d, .int .i64 n] w fun e w' => e = .returned (.bool true) ∧ Kept w w' := by
  have C6 := Lib.hid fun (w' : World) (kk : Kept w w') => few7_any 10000 (by omega) (by omega) t A c T d w' (hT.kept kk) hl ht
  have C7 := Lib.hid fun (w' : World) (kk : Kept w w') => alive8 w' (hlib.kept kk)
  unfold trV fV at *
  have K2 := kept_alloc (kept_alloc (kept_refl w) (.cells #[.int .i64 P, .int .i64 M] 23)) (.cells #[.int .i64 t.h, .int .i64 t.b, .slice A t.lv.length c, .slice T t.tb.length d] 27)
  have p0 := (Own.new w 23 [.int .i64 P, .int .i64 M]).alloc (.cells #[.int .i64 t.h, .int .i64 t.b, .slice A t.lv.length c, .slice T t.tb.length d] 27)
  have o0 := Own.new (w.alloc (.cells #[.int .i64 P, .int .i64 M] 23)) 27 [.int .i64 t.h, .int .i64 t.b, .slice A t.lv.length c, .slice T t.tb.length d]
  rw [show (w.alloc (.cells #[.int .i64 P, .int .i64 M] 23)).heap.size = w.heap.size + 1 by simp] at o0
  obtain ⟨W0, hW0⟩ : ∃ W0, W0 = (w.alloc (.cells #[.int .i64 P, .int .i64 M] 23)).alloc (.cells #[.int .i64 t.h, .int .i64 t.b, .slice A t.lv.length c, .slice T t.tb.length d] 27) := ⟨_, rfl⟩
  have o0' : Own W0 (w.heap.size + 1) 27 [.int .i64 t.h, .int .i64 t.b, .slice A t.lv.length c, .slice T t.tb.length d] := by rw [hW0]; exact o0
  rw [← hW0] at K2 p0
  have HW0 := Lib.hid hW0
  have y0 := p0.cell (j := 0) rfl; have y1 := p0.cell (j := 1) rfl
  have q0 := o0'.cell (j := 0) rfl; have q1 := o0'.cell (j := 1) rfl; have q2 := o0'.cell (j := 2) rfl; have q3 := o0'.cell (j := 3) rfl
  clear hW0 o0
  rw [hf] at C6
  have d3 : decide (3 < t.b) = true := decide_eq_true h3
  clear hA hT hlib hf
  go_enter Tryz.func4, Tryz.ntmps4
  go_upto_region 1 with fail
  rw [← HW0.out]
  go_wp2_with (first
    | (go_at_call 6; ((with_reducible refine (C6.out _ K2).mono ?_); rintro e w1 ⟨rfl, k1⟩; replace K2 := kept_trans K2 k1; replace y0 := kept_cell k1 y0; replace y1 := kept_cell k1 y1; replace q0 := kept_cell k1 q0; replace q1 := kept_cell k1 q1; replace q2 := kept_cell k1 q2; replace q3 := kept_cell k1 q3))
    | (go_at_call 7; ((with_reducible refine (C7.out _ K2).mono ?_); rintro e w9 ⟨rfl, k9⟩; replace K2 := kept_trans K2 k9)))
  go_ret
  exact ⟨rfl, K2⟩
set_option maxRecDepth 100000 in
set_option maxHeartbeats 1000000 in
theorem law4_bad (P M : Int) (t : Tr) (A : Option Addr) (c : Nat) (T : Option Addr) (d : Nat) (n : Int) (w : World) (hlib : LibOk w) (hA : Rd w A (ints t.lv)) (hT : RT w T t.tb) (hl : t.lv.length ≤ 140737488355328) (ht : t.tb.length ≤ 140737488355328) (hf : fewBW 10000 t = true) (h3 : ¬ 3 < t.b) (hv : validT t = false) :
    Calls Tryz.prog 4 #[fV P M, trV t A c T d, .int .i64 n] w fun e w' => e = .returned (.bool true) ∧ Kept w w' := by
  have C17 := Lib.hid fun (w' : World) (k : Kept w w') => values17_no t hv A c T d w' (hA.kept k) (hT.kept k) hl ht
  have C18 := Lib.hid fun (w' : World) (k : Kept w w') => eval16_no t hv A c T d w' (hA.kept k) (hT.kept k) hl ht
  have C6 := Lib.hid fun (w' : World) (kk : Kept w w') => few7_any 10000 (by omega) (by omega) t A c T d w' (hT.kept kk) hl ht
  have C7 := Lib.hid fun (w' : World) (kk : Kept w w') => alive8 w' (hlib.kept kk)
  unfold trV fV at *
  have K2 := kept_alloc (kept_alloc (kept_refl w) (.cells #[.int .i64 P, .int .i64 M] 23)) (.cells #[.int .i64 t.h, .int .i64 t.b, .slice A t.lv.length c, .slice T t.tb.length d] 27)
  have p0 := (Own.new w 23 [.int .i64 P, .int .i64 M]).alloc (.cells #[.int .i64 t.h, .int .i64 t.b, .slice A t.lv.length c, .slice T t.tb.length d] 27)
  have o0 := Own.new (w.alloc (.cells #[.int .i64 P, .int .i64 M] 23)) 27 [.int .i64 t.h, .int .i64 t.b, .slice A t.lv.length c, .slice T t.tb.length d]
  rw [show (w.alloc (.cells #[.int .i64 P, .int .i64 M] 23)).heap.size = w.heap.size + 1 by simp] at o0
  obtain ⟨W0, hW0⟩ : ∃ W0, W0 = (w.alloc (.cells #[.int .i64 P, .int .i64 M] 23)).alloc (.cells #[.int .i64 t.h, .int .i64 t.b, .slice A t.lv.length c, .slice T t.tb.length d] 27) := ⟨_, rfl⟩
  have o0' : Own W0 (w.heap.size + 1) 27 [.int .i64 t.h, .int .i64 t.b, .slice A t.lv.length c, .slice T t.tb.length d] := by rw [hW0]; exact o0
  rw [← hW0] at K2 p0
  have HW0 := Lib.hid hW0
  have y0 := p0.cell (j := 0) rfl; have y1 := p0.cell (j := 1) rfl
  have q0 := o0'.cell (j := 0) rfl; have q1 := o0'.cell (j := 1) rfl; have q2 := o0'.cell (j := 2) rfl; have q3 := o0'.cell (j := 3) rfl
  clear hW0 o0
  rw [hf] at C6
  have d3 : decide (3 < t.b) = false := decide_eq_false h3
  clear hA hT hlib hf hv
  go_enter Tryz.func4, Tryz.ntmps4
  go_upto_region 1 with fail
  rw [← HW0.out]
  go_wp2_with (first
    | (go_at_call 6; ((with_reducible refine (C6.out _ K2).mono ?_); rintro e w1 ⟨rfl, k1⟩; replace K2 := kept_trans K2 k1; replace y0 := kept_cell k1 y0; replace y1 := kept_cell k1 y1; replace q0 := kept_cell k1 q0; replace q1 := kept_cell k1 q1; replace q2 := kept_cell k1 q2; replace q3 := kept_cell k1 q3))
    | (go_at_call 17; ((with_reducible refine (C17.out _ K2).mono ?_); rintro e w2 ⟨rfl, k2⟩; replace K2 := kept_trans K2 k2; replace y0 := kept_cell k2 y0; replace y1 := kept_cell k2 y1; replace q0 := kept_cell k2 q0; replace q1 := kept_cell k2 q1; replace q2 := kept_cell k2 q2; replace q3 := kept_cell k2 q3))
    | (go_at_call 18; ((with_reducible refine (C18.out _ K2).mono ?_); rintro e w3 ⟨rfl, k3⟩; replace K2 := kept_trans K2 k3; replace y0 := kept_cell k3 y0; replace y1 := kept_cell k3 y1; replace q0 := kept_cell k3 q0; replace q1 := kept_cell k3 q1; replace q2 := kept_cell k3 q2; replace q3 := kept_cell k3 q3))
    | (go_at_call 7; ((with_reducible refine (C7.out _ K2).mono ?_); rintro e w9 ⟨rfl, k9⟩; replace K2 := kept_trans K2 k9)))
  go_ret
  exact ⟨rfl, K2⟩
set_option maxRecDepth 100000 in
set_option maxHeartbeats 1000000 in
theorem law4_main (P M : Int) (t : Tr) (A : Option Addr) (c : Nat) (T : Option Addr) (d : Nat) (n : Int) (w : World) (hlib : LibOk w) (hA : Rd w A (ints t.lv)) (hT : RT w T t.tb) (hl : t.lv.length ≤ 140737488355328) (ht : t.tb.length ≤ 140737488355328) (hf : fewBW 10000 t = true) (h3 : ¬ 3 < t.b) (hv : validT t = true) :
    Calls Tryz.prog 4 #[fV P M, trV t A c T d, .int .i64 n] w fun e w' => e = .returned (.bool true) ∧ Kept w w' := by
  have g := good_of hv
  have h63 := g.tb64
  have h64 := g.lv64
  have hb1 := g.b1
  obtain ⟨bn, hb⟩ : ∃ bn : Nat, t.b = bn := ⟨t.b.toNat, by omega⟩
  obtain ⟨m, N, MM, F⟩ := powTab (bn := bn) (by omega)
  obtain ⟨K, hK⟩ : ∃ K, K = t.tb.length + t.lv.length := ⟨_, rfl⟩
  have hlvp : 0 < t.lv.length := by rw [g.ll]; exact pw_pos _
  have hlt : t.lv.length = t.tb.length + 1 := by have := g.tl; have := g.ll; have := pw_pos t.h; omega
  have HLT := Lib.hid hlt
  obtain ⟨L, hL⟩ : ∃ L, L = valsW t (t.tb.length + t.lv.length) := ⟨_, rfl⟩
  have hLl : L.length = K := by rw [hL, valsW_length, hK]
  have HLL := Lib.hid hLl
  have GET := Lib.hid (show ∀ i, i < K → ia L i = valW t i from fun i hi => by rw [hL]; unfold valsW ia; rw [List.getD_eq_getElem?_getD, List.getElem?_map, List.getElem?_range (by omega)]; rfl)
  have RNG := Lib.hid (show ∀ i, i < K → ∃ v : Nat, valW t i = v ∧ v < N from fun i hi => by
    have := g.range' (n := i) (by omega)
    have e : pw t.b = N := by rw [hb, F.hN]; rfl
    rw [e] at this
    exact ⟨(valW t i).toNat, by omega, by omega⟩)
  have C17 := Lib.hid fun (w' : World) (k : Kept w w') => values17_yes t hv A c T d w' (hA.kept k) (hT.kept k)
  have C18 := Lib.hid fun (w' : World) (k : Kept w w') => eval16_yes t hv A c T d w' (hA.kept k) (hT.kept k)
  have C10 := Lib.hid fun (w' : World) (kk : Kept w w') => rvalid9_any t.h t.b A c t.lv T d t.tb w' (hA.kept kk) (hT.kept kk) hl ht
  rw [show (⟨t.h, t.b, t.lv, t.tb⟩ : Tr) = t from rfl, hv] at C10
  have C19 := Lib.hid fun (nn : Nat) (hn : nn < t.tb.length + t.lv.length) (w' : World) (k : Kept w w') => rbelow19_any t g nn hn A c T d w' (hA.kept k) (hT.kept k)
  have C18b := Lib.hid fun (u : Tr) (gu : Good u) (A' : Option Addr) (c' : Nat) (T' : Option Addr) (d' : Nat) (w' : World) (h1 : Rd w' A' (ints u.lv)) (h2 : RT w' T' u.tb) => eval16_yes u gu.valid A' c' T' d' w' h1 h2
  have C9 := Lib.hid fun (k : Int) (w' : World) (kk : Kept w w') => poly9_any P M t n k A c T d w' (hA.kept kk) (hT.kept kk) hl ht
  have C11 := Lib.hid fun w' => rvalid21_any P M w'
  have C20 := Lib.hid fun (k : Nat) (ok : okF P M = true) (at' : List Int) (hat : at'.length = 2 * bn) (hin : ∀ x ∈ at', x = 0 ∨ x = 1) (w' : World) (A' B' : Option Addr) (c' d' : Nat) (h1 : RP w' A' (mlT P M (tabB t n.toNat k) (2 * bn))) (h2 : Rd w' B' (ints at')) => by
    have ep2 : (tabB t n.toNat k).length = 2 ^ (2 * bn) := by rw [tabB_len, hb]; unfold pw; congr 1
    obtain ⟨cn, ln⟩ := ml_canon ok ep2
    have hq := ord_ok ok
    have hM4 : 2 ^ (2 * bn) ≤ 4096 := (Nat.pow_le_pow_right (by decide) (by omega) : 2 ^ (2 * bn) ≤ 2 ^ 12)
    have hvl : vld (ordF P M) ((2 * bn : Nat) : Int) (mlT P M (tabB t n.toNat k) (2 * bn)) = true := canon_vld (by omega) (by omega) (by omega) cn (fun z hz x hx => by have := (ml_exp ok ep2 z hz).2 x hx; omega)
    exact eval32_any P M ((2 * bn : Nat) : Int) (mlT P M (tabB t n.toNat k) (2 * bn)) at' A' B' c' d' w' h1 hvl h2 (by rw [hat]) (allQ_iff.2 fun x hx => by rcases hin x hx with rfl | rfl <;> omega)
  unfold ValuesPost at C17
  rw [← hL] at C17
  rw [hLl] at C17
  have HG := Lib.hid g
  have HT := Lib.hid hT
  have HN := Lib.hid F
  have HB := Lib.hid hb
  have HK := Lib.hid hK
  have e1 := F.e1; have f1 := F.w2; have f1' := F.w2'; have p1 := F.p1; have v1 := F.v1
  have hwK : IntKind.i64.wrap ((t.tb.length : Int) + (t.lv.length : Int)) = (K : Int) := (IntWalk.i64_in _ (by omega)).trans (by omega)
  have hk0 : 0 < L.length := by omega
  have hkp : 0 < K := by omega
  have hk127 : K ≤ 127 := by omega
  have hl0 := GET.out 0 (by omega)
  clear hlt
  obtain ⟨v0, hv0⟩ : ∃ v, v = valW t 0 := ⟨_, rfl⟩
  rw [← hv0] at hl0 C18
  have C6 := Lib.hid fun (w' : World) (kk : Kept w w') => few7_any 10000 (by omega) (by omega) t A c T d w' (hT.kept kk) hl ht
  have C7 := Lib.hid fun (w' : World) (kk : Kept w w') => alive8 w' (hlib.kept kk)
  unfold trV fV at *
  rw [hb] at C6 C17 C18 C10 C19 C9 ⊢
  have K2 := kept_alloc (kept_alloc (kept_refl w) (.cells #[.int .i64 P, .int .i64 M] 23)) (.cells #[.int .i64 t.h, .int .i64 (bn : Int), .slice A t.lv.length c, .slice T t.tb.length d] 27)
  have p0 := (Own.new w 23 [.int .i64 P, .int .i64 M]).alloc (.cells #[.int .i64 t.h, .int .i64 (bn : Int), .slice A t.lv.length c, .slice T t.tb.length d] 27)
  have o0 := Own.new (w.alloc (.cells #[.int .i64 P, .int .i64 M] 23)) 27 [.int .i64 t.h, .int .i64 (bn : Int), .slice A t.lv.length c, .slice T t.tb.length d]
  rw [show (w.alloc (.cells #[.int .i64 P, .int .i64 M] 23)).heap.size = w.heap.size + 1 by simp] at o0
  obtain ⟨W0, hW0⟩ : ∃ W0, W0 = (w.alloc (.cells #[.int .i64 P, .int .i64 M] 23)).alloc (.cells #[.int .i64 t.h, .int .i64 (bn : Int), .slice A t.lv.length c, .slice T t.tb.length d] 27) := ⟨_, rfl⟩
  have o0' : Own W0 (w.heap.size + 1) 27 [.int .i64 t.h, .int .i64 (bn : Int), .slice A t.lv.length c, .slice T t.tb.length d] := by rw [hW0]; exact o0
  rw [← hW0] at K2 p0
  have HW0 := Lib.hid hW0
  have y0 := p0.cell (j := 0) rfl; have y1 := p0.cell (j := 1) rfl
  have q0 := o0'.cell (j := 0) rfl; have q1 := o0'.cell (j := 1) rfl; have q2 := o0'.cell (j := 2) rfl; have q3 := o0'.cell (j := 3) rfl
  clear hW0 o0
  obtain ⟨bA, oA, rfl, hdA⟩ := hA.int (k := 0) hlvp
  have HDA := Lib.hid hdA
  rw [hf] at C6
  have d3 : decide (3 < (bn : Int)) = false := decide_eq_false (by omega)
  have d3' : decide (3 < bn) = false := decide_eq_false (by omega)
  clear hA hT hlib hf hv F hK hdA g hL hv0 hb hLl
  go_enter Tryz.func4, Tryz.ntmps4
  go_upto_region 1 with fail
  rw [← HW0.out]
  go_upto_region 9 with (first
    | (go_at_call 6; ((with_reducible refine (C6.out _ K2).mono ?_); rintro e w1 ⟨rfl, k1⟩; replace K2 := kept_trans K2 k1; replace y0 := kept_cell k1 y0; replace y1 := kept_cell k1 y1; replace q0 := kept_cell k1 q0; replace q1 := kept_cell k1 q1; replace q2 := kept_cell k1 q2; replace q3 := kept_cell k1 q3))
    | (go_at_call 17; ((with_reducible refine (C17.out _ K2).mono ?_); rintro e w2 ⟨x5, rfl, hr5, k2⟩; obtain ⟨A5, c5, rfl, hr5'⟩ := row_form hr5; obtain ⟨b5, o5, rfl, hd5⟩ := (row_rd hr5').int (k := 0) hk0; have z0 := hd5 0 hk0; rw [hl0, Nat.add_zero] at z0; have R5 := row_rd hr5'; replace K2 := kept_trans K2 k2; replace y0 := kept_cell k2 y0; replace y1 := kept_cell k2 y1; replace q0 := kept_cell k2 q0; replace q1 := kept_cell k2 q1; replace q2 := kept_cell k2 q2; replace q3 := kept_cell k2 q3))
    | (go_at_call 18; ((with_reducible refine (C18.out _ K2).mono ?_); rintro e w3 ⟨rfl, k3⟩; replace K2 := kept_trans K2 k3; replace y0 := kept_cell k3 y0; replace y1 := kept_cell k3 y1; replace q0 := kept_cell k3 q0; replace q1 := kept_cell k3 q1; replace q2 := kept_cell k3 q2; replace q3 := kept_cell k3 q3; replace z0 := kept_cell k3 z0; replace R5 := R5.kept k3))
    | (go_at_call 10; ((with_reducible refine (C10.out _ K2).mono ?_); rintro e w4 ⟨rfl, k4⟩; replace K2 := kept_trans K2 k4; replace y0 := kept_cell k4 y0; replace y1 := kept_cell k4 y1; replace q0 := kept_cell k4 q0; replace q1 := kept_cell k4 q1; replace q2 := kept_cell k4 q2; replace q3 := kept_cell k4 q3; replace z0 := kept_cell k4 z0; replace R5 := R5.kept k4)))
  have hb5 : b5 < w4.heap.size := kept_lt z0
  have hgt : w.heap.size + 1 < w4.heap.size := kept_lt q1
  have LC := Lib.hid (show ∀ i, i < K → ∃ v : Nat, valW t i = v ∧ v < N ∧ w4.cell? ⟨b5, o5 + i, none⟩ = some (.int .i64 (v : Int)) from fun i hi => by
    obtain ⟨v, h1, h2⟩ := RNG.out i hi
    obtain ⟨b6, o6, e6, hd6⟩ := R5.int (k := i) (by have := HLL.out; omega)
    cases e6
    have h3 := hd6 i (by have := HLL.out; omega)
    rw [GET.out i hi, h1] at h3
    exact ⟨v, h1, h2, h3⟩)
  have Y0 := Lib.hid y0; have Y1 := Lib.hid y1; have Q0 := Lib.hid q0; have Q1 := Lib.hid q1; have Q2 := Lib.hid q2; have Q3 := Lib.hid q3
  have KL := K2
  obtain ⟨wl, rfl⟩ : ∃ x, x = w4 := ⟨_, rfl⟩
  clear y0 y1 q0 q1 q2 q3 K2 z0 R5 hd5 hr5 hr5' C17 C10 d3 d3'
  go_wp2_with fail

  go_loopg [11] K (fun G s11 wr => ∃ i : Nat, i ≤ K ∧ G = K - i ∧ s11 = .int .i64 i ∧ Kept wl wr)
  case atStart => exact ⟨0, by omega, rfl, rfl, kept_refl _⟩
  case round =>
    obtain ⟨i, hi, rfl, rfl, KR⟩ := hrel
    by_cases hit : i < K
    · have c1 : decide ((i : Int) < (K : Int)) = true := decide_eq_true (by omega)
      have c2 : decide (i < K) = true := decide_eq_true hit
      obtain ⟨v, _, hvN, hcv⟩ := LC.out i hit
      have zi := kept_cell KR hcv
      have q1 := kept_cell KR Q1.out
      have c3 : decide ((v : Int) < 0) = false := decide_eq_false (by omega)
      have c4 : decide ((N : Int) ≤ (v : Int)) = false := decide_eq_false (by omega)
      have c5 : decide (N ≤ v) = false := decide_eq_false (by omega)
      have HIT := Lib.hid hit
      go_upto_region 12 with fail
      refine region_x (fun w' => Kept wr w') [] (by kernel_rfl) (kept_drew (kept_refl _)) (fun hHeld => ?_)
      refine x_take (i := 0) (oi := { dst := some 82, op := Op.move (Operand.tmp 7), type := 24, pos := "law.go:141", after := #[], guard := none }) (v := ?_) rfl (by kernel_rfl) (by kernel_rfl) (by kernel_rfl) (by kernel_rfl) (by kernel_rfl) (fun _ _ _ h => h) (Or.inl ⟨rfl, ?_⟩) (by assumption) ?_
      rotate_left
      · (intro w' hSw; replace zi := kept_cell hSw zi; replace q1 := kept_cell hSw q1; go_simp; try with_reducible rfl)
      try simp only [Act.put, List.setIfInBounds_toArray, List.set_cons_zero, List.set_cons_succ]
      refine x_take (i := 1) (oi := { dst := some 83, op := Op.move (Operand.tmp 11), type := 3, pos := "law.go:141", after := #[], guard := none }) (v := ?_) rfl (by kernel_rfl) (by kernel_rfl) (by kernel_rfl) (by kernel_rfl) (by kernel_rfl) (fun _ _ _ h => h) (Or.inl ⟨rfl, ?_⟩) (by assumption) ?_
      rotate_left
      · (intro w' hSw; replace zi := kept_cell hSw zi; replace q1 := kept_cell hSw q1; go_simp; try with_reducible rfl)
      try simp only [Act.put, List.setIfInBounds_toArray, List.set_cons_zero, List.set_cons_succ]
      refine x_take (i := 2) (oi := { dst := some 84, op := Op.indexAddr 24 (Operand.tmp 82) (Operand.tmp 83), type := 0, pos := "law.go:141", after := #[{ on := 0, ground := Ground.data }, { on := 1, ground := Ground.data }], guard := none }) (v := ?_) rfl (by kernel_rfl) (by kernel_rfl) (by kernel_rfl) (by kernel_rfl) (by kernel_rfl) (fun _ _ _ h => h) (Or.inl ⟨rfl, ?_⟩) (by assumption) ?_
      rotate_left
      · (intro w' hSw; replace zi := kept_cell hSw zi; replace q1 := kept_cell hSw q1; go_simp; try with_reducible rfl)
      try simp only [Act.put, List.setIfInBounds_toArray, List.set_cons_zero, List.set_cons_succ]
      refine x_take (i := 3) (oi := { dst := some 85, op := Op.load 3 (Operand.tmp 84), type := 3, pos := "law.go:141", after := #[{ on := 2, ground := Ground.data }], guard := none }) (v := ?_) rfl (by kernel_rfl) (by kernel_rfl) (by kernel_rfl) (by kernel_rfl) (by kernel_rfl) (fun _ _ _ h => h) (Or.inl ⟨rfl, ?_⟩) (by assumption) ?_
      rotate_left
      · (intro w' hSw; replace zi := kept_cell hSw zi; replace q1 := kept_cell hSw q1; go_simp; try with_reducible rfl)
      try simp only [Act.put, List.setIfInBounds_toArray, List.set_cons_zero, List.set_cons_succ]
      refine x_take (i := 4) (oi := { dst := some 86, op := Op.binOp BinOp.lss 3 (Operand.tmp 85) (Operand.const (Value.int IntKind.i64 0)) 3, type := 4, pos := "law.go:141", after := #[{ on := 3, ground := Ground.data }], guard := none }) (v := ?_) rfl (by kernel_rfl) (by kernel_rfl) (by kernel_rfl) (by kernel_rfl) (by kernel_rfl) (fun _ _ _ h => h) (Or.inl ⟨rfl, ?_⟩) (by assumption) ?_
      rotate_left
      · (intro w' hSw; replace zi := kept_cell hSw zi; replace q1 := kept_cell hSw q1; go_simp; try with_reducible rfl)
      try simp only [Act.put, List.setIfInBounds_toArray, List.set_cons_zero, List.set_cons_succ]
      refine x_take (i := 5) (oi := { dst := some 87, op := Op.move (Operand.tmp 86), type := 4, pos := "law.go:141", after := #[{ on := 4, ground := Ground.data }], guard := none }) (v := ?_) rfl (by kernel_rfl) (by kernel_rfl) (by kernel_rfl) (by kernel_rfl) (by kernel_rfl) (fun _ _ _ h => h) (Or.inl ⟨rfl, ?_⟩) (by assumption) ?_
      rotate_left
      · (intro w' hSw; replace zi := kept_cell hSw zi; replace q1 := kept_cell hSw q1; go_simp; try with_reducible rfl)
      try simp only [Act.put, List.setIfInBounds_toArray, List.set_cons_zero, List.set_cons_succ]
      refine x_take (i := 6) (oi := { dst := some 88, op := Op.move (Operand.tmp 7), type := 24, pos := "law.go:141", after := #[{ on := 5, ground := Ground.guard }], guard := some (5, false) }) (v := ?_) rfl (by kernel_rfl) (by kernel_rfl) (by kernel_rfl) (by kernel_rfl) (by kernel_rfl) (fun _ _ _ h => h) (Or.inl ⟨rfl, ?_⟩) (by assumption) ?_
      rotate_left
      · (intro w' hSw; replace zi := kept_cell hSw zi; replace q1 := kept_cell hSw q1; go_simp; try with_reducible rfl)
      try simp only [Act.put, List.setIfInBounds_toArray, List.set_cons_zero, List.set_cons_succ]
      refine x_take (i := 7) (oi := { dst := some 89, op := Op.move (Operand.tmp 11), type := 3, pos := "law.go:141", after := #[{ on := 5, ground := Ground.guard }], guard := some (5, false) }) (v := ?_) rfl (by kernel_rfl) (by kernel_rfl) (by kernel_rfl) (by kernel_rfl) (by kernel_rfl) (fun _ _ _ h => h) (Or.inl ⟨rfl, ?_⟩) (by assumption) ?_
      rotate_left
      · (intro w' hSw; replace zi := kept_cell hSw zi; replace q1 := kept_cell hSw q1; go_simp; try with_reducible rfl)
      try simp only [Act.put, List.setIfInBounds_toArray, List.set_cons_zero, List.set_cons_succ]
      refine x_take (i := 8) (oi := { dst := some 90, op := Op.indexAddr 24 (Operand.tmp 88) (Operand.tmp 89), type := 0, pos := "law.go:141", after := #[{ on := 6, ground := Ground.data }, { on := 7, ground := Ground.data }, { on := 5, ground := Ground.guard }], guard := some (5, false) }) (v := ?_) rfl (by kernel_rfl) (by kernel_rfl) (by kernel_rfl) (by kernel_rfl) (by kernel_rfl) (fun _ _ _ h => h) (Or.inl ⟨rfl, ?_⟩) (by assumption) ?_
      rotate_left
      · (intro w' hSw; replace zi := kept_cell hSw zi; replace q1 := kept_cell hSw q1; go_simp; try with_reducible rfl)
      try simp only [Act.put, List.setIfInBounds_toArray, List.set_cons_zero, List.set_cons_succ]
      refine x_take (i := 9) (oi := { dst := some 91, op := Op.load 3 (Operand.tmp 90), type := 3, pos := "law.go:141", after := #[{ on := 8, ground := Ground.data }, { on := 5, ground := Ground.guard }], guard := some (5, false) }) (v := ?_) rfl (by kernel_rfl) (by kernel_rfl) (by kernel_rfl) (by kernel_rfl) (by kernel_rfl) (fun _ _ _ h => h) (Or.inl ⟨rfl, ?_⟩) (by assumption) ?_
      rotate_left
      · (intro w' hSw; replace zi := kept_cell hSw zi; replace q1 := kept_cell hSw q1; go_simp; try with_reducible rfl)
      try simp only [Act.put, List.setIfInBounds_toArray, List.set_cons_zero, List.set_cons_succ]
      refine x_take (i := 10) (oi := { dst := some 92, op := Op.fieldAddr 27 (Operand.tmp 4) 1, type := 0, pos := "law.go:141", after := #[{ on := 5, ground := Ground.guard }], guard := some (5, false) }) (v := ?_) rfl (by kernel_rfl) (by kernel_rfl) (by kernel_rfl) (by kernel_rfl) (by kernel_rfl) (fun _ _ _ h => h) (Or.inl ⟨rfl, ?_⟩) (by assumption) ?_
      rotate_left
      · (intro w' hSw; replace zi := kept_cell hSw zi; replace q1 := kept_cell hSw q1; go_simp; try with_reducible rfl)
      try simp only [Act.put, List.setIfInBounds_toArray, List.set_cons_zero, List.set_cons_succ]
      refine x_take (i := 11) (oi := { dst := some 93, op := Op.load 3 (Operand.tmp 92), type := 3, pos := "law.go:141", after := #[{ on := 10, ground := Ground.data }, { on := 5, ground := Ground.guard }], guard := some (5, false) }) (v := ?_) rfl (by kernel_rfl) (by kernel_rfl) (by kernel_rfl) (by kernel_rfl) (by kernel_rfl) (fun _ _ _ h => h) (Or.inl ⟨rfl, ?_⟩) (by assumption) ?_
      rotate_left
      · (intro w' hSw; replace zi := kept_cell hSw zi; replace q1 := kept_cell hSw q1; go_simp; try with_reducible rfl)
      try simp only [Act.put, List.setIfInBounds_toArray, List.set_cons_zero, List.set_cons_succ]
      refine x_take (i := 12) (oi := { dst := some 94, op := Op.binOp BinOp.shl 3 (Operand.const (Value.int IntKind.i64 1)) (Operand.tmp 93) 3, type := 3, pos := "law.go:141", after := #[{ on := 11, ground := Ground.data }, { on := 5, ground := Ground.guard }], guard := some (5, false) }) (v := ?_) rfl (by kernel_rfl) (by kernel_rfl) (by kernel_rfl) (by kernel_rfl) (by kernel_rfl) (fun _ _ _ h => h) (Or.inl ⟨rfl, ?_⟩) (by assumption) ?_
      rotate_left
      · (intro w' hSw; replace zi := kept_cell hSw zi; replace q1 := kept_cell hSw q1; go_simp; try with_reducible rfl)
      try simp only [Act.put, List.setIfInBounds_toArray, List.set_cons_zero, List.set_cons_succ]
      refine x_take (i := 13) (oi := { dst := some 95, op := Op.binOp BinOp.geq 3 (Operand.tmp 91) (Operand.tmp 94) 3, type := 4, pos := "law.go:141", after := #[{ on := 9, ground := Ground.data }, { on := 12, ground := Ground.data }, { on := 5, ground := Ground.guard }], guard := some (5, false) }) (v := ?_) rfl (by kernel_rfl) (by kernel_rfl) (by kernel_rfl) (by kernel_rfl) (by kernel_rfl) (fun _ _ _ h => h) (Or.inl ⟨rfl, ?_⟩) (by assumption) ?_
      rotate_left
      · (intro w' hSw; replace zi := kept_cell hSw zi; replace q1 := kept_cell hSw q1; go_simp; try with_reducible rfl)
      try simp only [Act.put, List.setIfInBounds_toArray, List.set_cons_zero, List.set_cons_succ]
      refine x_take (i := 14) (oi := { dst := some 96, op := Op.pick (Operand.tmp 87) (Operand.const (Value.bool true)) (Operand.tmp 95), type := 4, pos := "law.go:141", after := #[{ on := 5, ground := Ground.data }, { on := 13, ground := Ground.data }], guard := none }) (v := ?_) rfl (by kernel_rfl) (by kernel_rfl) (by kernel_rfl) (by kernel_rfl) (by kernel_rfl) (fun _ _ _ h => h) (Or.inl ⟨rfl, ?_⟩) (by assumption) ?_
      rotate_left
      · (intro w' hSw; replace zi := kept_cell hSw zi; replace q1 := kept_cell hSw q1; go_simp; try with_reducible rfl)
      try simp only [Act.put, List.setIfInBounds_toArray, List.set_cons_zero, List.set_cons_succ]
      refine x_done (by kernel_rfl) ?_ _
      go_wp2_with fail
      go_roundg (K - (i + 1))
      case rel => exact ⟨i + 1, by have := HIT.out; omega, rfl, by go_num, kept_trans KR hHeld⟩
      case measure => have := HIT.out; omega
    · obtain rfl : K = i := by omega
      have c1 : decide ((K : Int) < (K : Int)) = false := decide_eq_false (by omega)
      have c2 : decide (K < K) = false := decide_eq_false (by omega)
      go_wp2_with fail
      go_loopg [12] t.tb.length (fun G s12 wr => ∃ j : Nat, j ≤ t.tb.length ∧ G = t.tb.length - j ∧ s12 = .int .i64 j ∧ Kept wl wr)
      case atStart => exact ⟨0, by omega, rfl, rfl, KR⟩
      case round =>
        clear KR c1 c2
        obtain ⟨j, hj, rfl, rfl, KR⟩ := hrel
        have q3 := kept_cell KR Q3.out
        by_cases hjt : j < t.tb.length
        · have c1 : decide ((j : Int) < (t.tb.length : Int)) = true := decide_eq_true (by omega)
          have c2 : decide (j < t.tb.length) = true := decide_eq_true hjt
          obtain ⟨x1, x2, y, z, v, SV⟩ := stepV HG.out hjt HB.out
          have hKK := HK.out
          have hlt := HLT.out
          obtain ⟨vj, ej, _, hcj⟩ := LC.out j (by omega)
          obtain ⟨va, ea, _, hca⟩ := LC.out (2 * j + 1) (by omega)
          obtain ⟨vb, eb, _, hcb⟩ := LC.out (2 * j + 2) (by omega)
          obtain rfl : v = vj := by have := SV.ev; omega
          obtain rfl : x1 = va := by have := SV.e1; omega
          obtain rfl : x2 = vb := by have := SV.e2; omega
          obtain ⟨bT, oT, A1, c1', rfl, hcT, r1, l1⟩ := HT.out j hjt
          obtain ⟨lx, hlx⟩ : ∃ l, l = t.tb.getD j [] := ⟨_, rfl⟩
          have hz := SV.hz
          have hv := SV.hv
          rw [← hlx] at hcT r1 hz hv l1
          obtain ⟨b7, o7, rfl, hd7⟩ := r1.int (k := z) hz
          have hc7 := hd7 z hz
          rw [hv] at hc7
          have zj := kept_cell KR hcj
          have za := kept_cell KR hca
          have zb := kept_cell KR hcb
          have t0 := kept_cell (kept_trans KL KR) hcT
          have x0 := kept_cell (kept_trans KL KR) hc7
          have q1 := kept_cell KR Q1.out
          obtain ⟨ja, hja⟩ : ∃ y, y = 2 * j + 1 := ⟨_, rfl⟩
          obtain ⟨jb, hjb⟩ : ∃ y, y = 2 * j + 2 := ⟨_, rfl⟩
          obtain ⟨j2, hj2⟩ : ∃ y, y = 2 * j := ⟨_, rfl⟩
          have w1 : IntKind.i64.wrap (2 * (j : Int)) = (j2 : Int) := (IntWalk.i64_in _ (by omega)).trans (by omega)
          have w2 : IntKind.i64.wrap ((j2 : Int) + 1) = (ja : Int) := (IntWalk.i64_in _ (by omega)).trans (by omega)
          have w3 : IntKind.i64.wrap ((j2 : Int) + 2) = (jb : Int) := (IntWalk.i64_in _ (by omega)).trans (by omega)
          have hlja : ja < K := by omega
          have hljb : jb < K := by omega
          have hlj : j < K := by omega
          rw [← hja] at za
          rw [← hjb] at zb
          have m1 := SV.m1; have m2 := SV.m2; have m3 := SV.m3
          rw [← HN.out.hN] at m2
          have nv : ((v : Int) != (v : Int)) = false := by simp
          have nv2 : (v != v) = false := by simp
          have HJT := Lib.hid hjt
          clear SV hcj hca hcb hcT hc7 hd7 hlx hja hjb hj2 ea eb ej r1 hv hKK hlt
          go_upto_region 17 with fail
          refine region_x (fun w' => Kept wr w') [] (by kernel_rfl) (kept_drew (kept_refl _)) (fun hHeld => ?_)
          refine x_take (i := 0) (oi := { dst := some 104, op := Op.move (Operand.tmp 7), type := 24, pos := "law.go:146", after := #[], guard := none }) (v := ?_) rfl (by kernel_rfl) (by kernel_rfl) (by kernel_rfl) (by kernel_rfl) (by kernel_rfl) (fun _ _ _ h => h) (Or.inl ⟨rfl, ?_⟩) (by assumption) ?_
          rotate_left
          · (intro w' hSw; replace zj := kept_cell hSw zj; replace za := kept_cell hSw za; replace zb := kept_cell hSw zb; replace t0 := kept_cell hSw t0; replace x0 := kept_cell hSw x0; replace q1 := kept_cell hSw q1; replace q3 := kept_cell hSw q3; go_simp; try with_reducible rfl)
          try simp only [Act.put, List.setIfInBounds_toArray, List.set_cons_zero, List.set_cons_succ]
          refine x_take (i := 1) (oi := { dst := some 105, op := Op.move (Operand.tmp 12), type := 3, pos := "law.go:146", after := #[], guard := none }) (v := ?_) rfl (by kernel_rfl) (by kernel_rfl) (by kernel_rfl) (by kernel_rfl) (by kernel_rfl) (fun _ _ _ h => h) (Or.inl ⟨rfl, ?_⟩) (by assumption) ?_
          rotate_left
          · (intro w' hSw; replace zj := kept_cell hSw zj; replace za := kept_cell hSw za; replace zb := kept_cell hSw zb; replace t0 := kept_cell hSw t0; replace x0 := kept_cell hSw x0; replace q1 := kept_cell hSw q1; replace q3 := kept_cell hSw q3; go_simp; try with_reducible rfl)
          try simp only [Act.put, List.setIfInBounds_toArray, List.set_cons_zero, List.set_cons_succ]
          refine x_take (i := 2) (oi := { dst := some 106, op := Op.indexAddr 24 (Operand.tmp 104) (Operand.tmp 105), type := 0, pos := "law.go:146", after := #[{ on := 0, ground := Ground.data }, { on := 1, ground := Ground.data }], guard := none }) (v := ?_) rfl (by kernel_rfl) (by kernel_rfl) (by kernel_rfl) (by kernel_rfl) (by kernel_rfl) (fun _ _ _ h => h) (Or.inl ⟨rfl, ?_⟩) (by assumption) ?_
          rotate_left
          · (intro w' hSw; replace zj := kept_cell hSw zj; replace za := kept_cell hSw za; replace zb := kept_cell hSw zb; replace t0 := kept_cell hSw t0; replace x0 := kept_cell hSw x0; replace q1 := kept_cell hSw q1; replace q3 := kept_cell hSw q3; go_simp; try with_reducible rfl)
          try simp only [Act.put, List.setIfInBounds_toArray, List.set_cons_zero, List.set_cons_succ]
          refine x_take (i := 3) (oi := { dst := some 107, op := Op.load 3 (Operand.tmp 106), type := 3, pos := "law.go:146", after := #[{ on := 2, ground := Ground.data }], guard := none }) (v := ?_) rfl (by kernel_rfl) (by kernel_rfl) (by kernel_rfl) (by kernel_rfl) (by kernel_rfl) (fun _ _ _ h => h) (Or.inl ⟨rfl, ?_⟩) (by assumption) ?_
          rotate_left
          · (intro w' hSw; replace zj := kept_cell hSw zj; replace za := kept_cell hSw za; replace zb := kept_cell hSw zb; replace t0 := kept_cell hSw t0; replace x0 := kept_cell hSw x0; replace q1 := kept_cell hSw q1; replace q3 := kept_cell hSw q3; go_simp; try with_reducible rfl)
          try simp only [Act.put, List.setIfInBounds_toArray, List.set_cons_zero, List.set_cons_succ]
          refine x_take (i := 4) (oi := { dst := some 108, op := Op.fieldAddr 27 (Operand.tmp 4) 3, type := 0, pos := "law.go:146", after := #[], guard := none }) (v := ?_) rfl (by kernel_rfl) (by kernel_rfl) (by kernel_rfl) (by kernel_rfl) (by kernel_rfl) (fun _ _ _ h => h) (Or.inl ⟨rfl, ?_⟩) (by assumption) ?_
          rotate_left
          · (intro w' hSw; replace zj := kept_cell hSw zj; replace za := kept_cell hSw za; replace zb := kept_cell hSw zb; replace t0 := kept_cell hSw t0; replace x0 := kept_cell hSw x0; replace q1 := kept_cell hSw q1; replace q3 := kept_cell hSw q3; go_simp; try with_reducible rfl)
          try simp only [Act.put, List.setIfInBounds_toArray, List.set_cons_zero, List.set_cons_succ]
          refine x_take (i := 5) (oi := { dst := some 109, op := Op.load 25 (Operand.tmp 108), type := 25, pos := "law.go:146", after := #[{ on := 4, ground := Ground.data }], guard := none }) (v := ?_) rfl (by kernel_rfl) (by kernel_rfl) (by kernel_rfl) (by kernel_rfl) (by kernel_rfl) (fun _ _ _ h => h) (Or.inl ⟨rfl, ?_⟩) (by assumption) ?_
          rotate_left
          · (intro w' hSw; replace zj := kept_cell hSw zj; replace za := kept_cell hSw za; replace zb := kept_cell hSw zb; replace t0 := kept_cell hSw t0; replace x0 := kept_cell hSw x0; replace q1 := kept_cell hSw q1; replace q3 := kept_cell hSw q3; go_simp; try with_reducible rfl)
          try simp only [Act.put, List.setIfInBounds_toArray, List.set_cons_zero, List.set_cons_succ]
          refine x_take (i := 6) (oi := { dst := some 110, op := Op.move (Operand.tmp 12), type := 3, pos := "law.go:146", after := #[], guard := none }) (v := ?_) rfl (by kernel_rfl) (by kernel_rfl) (by kernel_rfl) (by kernel_rfl) (by kernel_rfl) (fun _ _ _ h => h) (Or.inl ⟨rfl, ?_⟩) (by assumption) ?_
          rotate_left
          · (intro w' hSw; replace zj := kept_cell hSw zj; replace za := kept_cell hSw za; replace zb := kept_cell hSw zb; replace t0 := kept_cell hSw t0; replace x0 := kept_cell hSw x0; replace q1 := kept_cell hSw q1; replace q3 := kept_cell hSw q3; go_simp; try with_reducible rfl)
          try simp only [Act.put, List.setIfInBounds_toArray, List.set_cons_zero, List.set_cons_succ]
          refine x_take (i := 7) (oi := { dst := some 111, op := Op.indexAddr 25 (Operand.tmp 109) (Operand.tmp 110), type := 0, pos := "law.go:146", after := #[{ on := 5, ground := Ground.data }, { on := 6, ground := Ground.data }], guard := none }) (v := ?_) rfl (by kernel_rfl) (by kernel_rfl) (by kernel_rfl) (by kernel_rfl) (by kernel_rfl) (fun _ _ _ h => h) (Or.inl ⟨rfl, ?_⟩) (by assumption) ?_
          rotate_left
          · (intro w' hSw; replace zj := kept_cell hSw zj; replace za := kept_cell hSw za; replace zb := kept_cell hSw zb; replace t0 := kept_cell hSw t0; replace x0 := kept_cell hSw x0; replace q1 := kept_cell hSw q1; replace q3 := kept_cell hSw q3; go_simp; try with_reducible rfl)
          try simp only [Act.put, List.setIfInBounds_toArray, List.set_cons_zero, List.set_cons_succ]
          refine x_take (i := 8) (oi := { dst := some 112, op := Op.load 24 (Operand.tmp 111), type := 24, pos := "law.go:146", after := #[{ on := 7, ground := Ground.data }], guard := none }) (v := ?_) rfl (by kernel_rfl) (by kernel_rfl) (by kernel_rfl) (by kernel_rfl) (by kernel_rfl) (fun _ _ _ h => h) (Or.inl ⟨rfl, ?_⟩) (by assumption) ?_
          rotate_left
          · (intro w' hSw; replace zj := kept_cell hSw zj; replace za := kept_cell hSw za; replace zb := kept_cell hSw zb; replace t0 := kept_cell hSw t0; replace x0 := kept_cell hSw x0; replace q1 := kept_cell hSw q1; replace q3 := kept_cell hSw q3; go_simp; try with_reducible rfl)
          try simp only [Act.put, List.setIfInBounds_toArray, List.set_cons_zero, List.set_cons_succ]
          refine x_take (i := 9) (oi := { dst := some 113, op := Op.move (Operand.tmp 7), type := 24, pos := "law.go:146", after := #[], guard := none }) (v := ?_) rfl (by kernel_rfl) (by kernel_rfl) (by kernel_rfl) (by kernel_rfl) (by kernel_rfl) (fun _ _ _ h => h) (Or.inl ⟨rfl, ?_⟩) (by assumption) ?_
          rotate_left
          · (intro w' hSw; replace zj := kept_cell hSw zj; replace za := kept_cell hSw za; replace zb := kept_cell hSw zb; replace t0 := kept_cell hSw t0; replace x0 := kept_cell hSw x0; replace q1 := kept_cell hSw q1; replace q3 := kept_cell hSw q3; go_simp; try with_reducible rfl)
          try simp only [Act.put, List.setIfInBounds_toArray, List.set_cons_zero, List.set_cons_succ]
          refine x_take (i := 10) (oi := { dst := some 114, op := Op.move (Operand.tmp 12), type := 3, pos := "law.go:146", after := #[], guard := none }) (v := ?_) rfl (by kernel_rfl) (by kernel_rfl) (by kernel_rfl) (by kernel_rfl) (by kernel_rfl) (fun _ _ _ h => h) (Or.inl ⟨rfl, ?_⟩) (by assumption) ?_
          rotate_left
          · (intro w' hSw; replace zj := kept_cell hSw zj; replace za := kept_cell hSw za; replace zb := kept_cell hSw zb; replace t0 := kept_cell hSw t0; replace x0 := kept_cell hSw x0; replace q1 := kept_cell hSw q1; replace q3 := kept_cell hSw q3; go_simp; try with_reducible rfl)
          try simp only [Act.put, List.setIfInBounds_toArray, List.set_cons_zero, List.set_cons_succ]
          refine x_take (i := 11) (oi := { dst := some 115, op := Op.binOp BinOp.mul 3 (Operand.const (Value.int IntKind.i64 2)) (Operand.tmp 114) 3, type := 3, pos := "law.go:146", after := #[{ on := 10, ground := Ground.data }], guard := none }) (v := ?_) rfl (by kernel_rfl) (by kernel_rfl) (by kernel_rfl) (by kernel_rfl) (by kernel_rfl) (fun _ _ _ h => h) (Or.inl ⟨rfl, ?_⟩) (by assumption) ?_
          rotate_left
          · (intro w' hSw; replace zj := kept_cell hSw zj; replace za := kept_cell hSw za; replace zb := kept_cell hSw zb; replace t0 := kept_cell hSw t0; replace x0 := kept_cell hSw x0; replace q1 := kept_cell hSw q1; replace q3 := kept_cell hSw q3; go_simp; try with_reducible rfl)
          try simp only [Act.put, List.setIfInBounds_toArray, List.set_cons_zero, List.set_cons_succ]
          refine x_take (i := 12) (oi := { dst := some 116, op := Op.binOp BinOp.add 3 (Operand.tmp 115) (Operand.const (Value.int IntKind.i64 1)) 3, type := 3, pos := "law.go:146", after := #[{ on := 11, ground := Ground.data }], guard := none }) (v := ?_) rfl (by kernel_rfl) (by kernel_rfl) (by kernel_rfl) (by kernel_rfl) (by kernel_rfl) (fun _ _ _ h => h) (Or.inl ⟨rfl, ?_⟩) (by assumption) ?_
          rotate_left
          · (intro w' hSw; replace zj := kept_cell hSw zj; replace za := kept_cell hSw za; replace zb := kept_cell hSw zb; replace t0 := kept_cell hSw t0; replace x0 := kept_cell hSw x0; replace q1 := kept_cell hSw q1; replace q3 := kept_cell hSw q3; go_simp; try with_reducible rfl)
          try simp only [Act.put, List.setIfInBounds_toArray, List.set_cons_zero, List.set_cons_succ]
          refine x_take (i := 13) (oi := { dst := some 117, op := Op.indexAddr 24 (Operand.tmp 113) (Operand.tmp 116), type := 0, pos := "law.go:146", after := #[{ on := 9, ground := Ground.data }, { on := 12, ground := Ground.data }], guard := none }) (v := ?_) rfl (by kernel_rfl) (by kernel_rfl) (by kernel_rfl) (by kernel_rfl) (by kernel_rfl) (fun _ _ _ h => h) (Or.inl ⟨rfl, ?_⟩) (by assumption) ?_
          rotate_left
          · (intro w' hSw; replace zj := kept_cell hSw zj; replace za := kept_cell hSw za; replace zb := kept_cell hSw zb; replace t0 := kept_cell hSw t0; replace x0 := kept_cell hSw x0; replace q1 := kept_cell hSw q1; replace q3 := kept_cell hSw q3; go_simp; try with_reducible rfl)
          try simp only [Act.put, List.setIfInBounds_toArray, List.set_cons_zero, List.set_cons_succ]
          refine x_take (i := 14) (oi := { dst := some 118, op := Op.load 3 (Operand.tmp 117), type := 3, pos := "law.go:146", after := #[{ on := 13, ground := Ground.data }], guard := none }) (v := ?_) rfl (by kernel_rfl) (by kernel_rfl) (by kernel_rfl) (by kernel_rfl) (by kernel_rfl) (fun _ _ _ h => h) (Or.inl ⟨rfl, ?_⟩) (by assumption) ?_
          rotate_left
          · (intro w' hSw; replace zj := kept_cell hSw zj; replace za := kept_cell hSw za; replace zb := kept_cell hSw zb; replace t0 := kept_cell hSw t0; replace x0 := kept_cell hSw x0; replace q1 := kept_cell hSw q1; replace q3 := kept_cell hSw q3; go_simp; try with_reducible rfl)
          try simp only [Act.put, List.setIfInBounds_toArray, List.set_cons_zero, List.set_cons_succ]
          refine x_take (i := 15) (oi := { dst := some 119, op := Op.fieldAddr 27 (Operand.tmp 4) 1, type := 0, pos := "law.go:146", after := #[], guard := none }) (v := ?_) rfl (by kernel_rfl) (by kernel_rfl) (by kernel_rfl) (by kernel_rfl) (by kernel_rfl) (fun _ _ _ h => h) (Or.inl ⟨rfl, ?_⟩) (by assumption) ?_
          rotate_left
          · (intro w' hSw; replace zj := kept_cell hSw zj; replace za := kept_cell hSw za; replace zb := kept_cell hSw zb; replace t0 := kept_cell hSw t0; replace x0 := kept_cell hSw x0; replace q1 := kept_cell hSw q1; replace q3 := kept_cell hSw q3; go_simp; try with_reducible rfl)
          try simp only [Act.put, List.setIfInBounds_toArray, List.set_cons_zero, List.set_cons_succ]
          refine x_take (i := 16) (oi := { dst := some 120, op := Op.load 3 (Operand.tmp 119), type := 3, pos := "law.go:146", after := #[{ on := 15, ground := Ground.data }], guard := none }) (v := ?_) rfl (by kernel_rfl) (by kernel_rfl) (by kernel_rfl) (by kernel_rfl) (by kernel_rfl) (fun _ _ _ h => h) (Or.inl ⟨rfl, ?_⟩) (by assumption) ?_
          rotate_left
          · (intro w' hSw; replace zj := kept_cell hSw zj; replace za := kept_cell hSw za; replace zb := kept_cell hSw zb; replace t0 := kept_cell hSw t0; replace x0 := kept_cell hSw x0; replace q1 := kept_cell hSw q1; replace q3 := kept_cell hSw q3; go_simp; try with_reducible rfl)
          try simp only [Act.put, List.setIfInBounds_toArray, List.set_cons_zero, List.set_cons_succ]
          refine x_take (i := 17) (oi := { dst := some 121, op := Op.binOp BinOp.shl 3 (Operand.tmp 118) (Operand.tmp 120) 3, type := 3, pos := "law.go:146", after := #[{ on := 14, ground := Ground.data }, { on := 16, ground := Ground.data }], guard := none }) (v := ?_) rfl (by kernel_rfl) (by kernel_rfl) (by kernel_rfl) (by kernel_rfl) (by kernel_rfl) (fun _ _ _ h => h) (Or.inl ⟨rfl, ?_⟩) (by assumption) ?_
          rotate_left
          · (intro w' hSw; replace zj := kept_cell hSw zj; replace za := kept_cell hSw za; replace zb := kept_cell hSw zb; replace t0 := kept_cell hSw t0; replace x0 := kept_cell hSw x0; replace q1 := kept_cell hSw q1; replace q3 := kept_cell hSw q3; go_simp; try with_reducible rfl)
          try simp only [Act.put, List.setIfInBounds_toArray, List.set_cons_zero, List.set_cons_succ]
          refine x_take (i := 18) (oi := { dst := some 122, op := Op.move (Operand.tmp 7), type := 24, pos := "law.go:146", after := #[], guard := none }) (v := ?_) rfl (by kernel_rfl) (by kernel_rfl) (by kernel_rfl) (by kernel_rfl) (by kernel_rfl) (fun _ _ _ h => h) (Or.inl ⟨rfl, ?_⟩) (by assumption) ?_
          rotate_left
          · (intro w' hSw; replace zj := kept_cell hSw zj; replace za := kept_cell hSw za; replace zb := kept_cell hSw zb; replace t0 := kept_cell hSw t0; replace x0 := kept_cell hSw x0; replace q1 := kept_cell hSw q1; replace q3 := kept_cell hSw q3; go_simp; try with_reducible rfl)
          try simp only [Act.put, List.setIfInBounds_toArray, List.set_cons_zero, List.set_cons_succ]
          refine x_take (i := 19) (oi := { dst := some 123, op := Op.move (Operand.tmp 12), type := 3, pos := "law.go:146", after := #[], guard := none }) (v := ?_) rfl (by kernel_rfl) (by kernel_rfl) (by kernel_rfl) (by kernel_rfl) (by kernel_rfl) (fun _ _ _ h => h) (Or.inl ⟨rfl, ?_⟩) (by assumption) ?_
          rotate_left
          · (intro w' hSw; replace zj := kept_cell hSw zj; replace za := kept_cell hSw za; replace zb := kept_cell hSw zb; replace t0 := kept_cell hSw t0; replace x0 := kept_cell hSw x0; replace q1 := kept_cell hSw q1; replace q3 := kept_cell hSw q3; go_simp; try with_reducible rfl)
          try simp only [Act.put, List.setIfInBounds_toArray, List.set_cons_zero, List.set_cons_succ]
          refine x_take (i := 20) (oi := { dst := some 124, op := Op.binOp BinOp.mul 3 (Operand.const (Value.int IntKind.i64 2)) (Operand.tmp 123) 3, type := 3, pos := "law.go:146", after := #[{ on := 19, ground := Ground.data }], guard := none }) (v := ?_) rfl (by kernel_rfl) (by kernel_rfl) (by kernel_rfl) (by kernel_rfl) (by kernel_rfl) (fun _ _ _ h => h) (Or.inl ⟨rfl, ?_⟩) (by assumption) ?_
          rotate_left
          · (intro w' hSw; replace zj := kept_cell hSw zj; replace za := kept_cell hSw za; replace zb := kept_cell hSw zb; replace t0 := kept_cell hSw t0; replace x0 := kept_cell hSw x0; replace q1 := kept_cell hSw q1; replace q3 := kept_cell hSw q3; go_simp; try with_reducible rfl)
          try simp only [Act.put, List.setIfInBounds_toArray, List.set_cons_zero, List.set_cons_succ]
          refine x_take (i := 21) (oi := { dst := some 125, op := Op.binOp BinOp.add 3 (Operand.tmp 124) (Operand.const (Value.int IntKind.i64 2)) 3, type := 3, pos := "law.go:146", after := #[{ on := 20, ground := Ground.data }], guard := none }) (v := ?_) rfl (by kernel_rfl) (by kernel_rfl) (by kernel_rfl) (by kernel_rfl) (by kernel_rfl) (fun _ _ _ h => h) (Or.inl ⟨rfl, ?_⟩) (by assumption) ?_
          rotate_left
          · (intro w' hSw; replace zj := kept_cell hSw zj; replace za := kept_cell hSw za; replace zb := kept_cell hSw zb; replace t0 := kept_cell hSw t0; replace x0 := kept_cell hSw x0; replace q1 := kept_cell hSw q1; replace q3 := kept_cell hSw q3; go_simp; try with_reducible rfl)
          try simp only [Act.put, List.setIfInBounds_toArray, List.set_cons_zero, List.set_cons_succ]
          refine x_take (i := 22) (oi := { dst := some 126, op := Op.indexAddr 24 (Operand.tmp 122) (Operand.tmp 125), type := 0, pos := "law.go:146", after := #[{ on := 18, ground := Ground.data }, { on := 21, ground := Ground.data }], guard := none }) (v := ?_) rfl (by kernel_rfl) (by kernel_rfl) (by kernel_rfl) (by kernel_rfl) (by kernel_rfl) (fun _ _ _ h => h) (Or.inl ⟨rfl, ?_⟩) (by assumption) ?_
          rotate_left
          · (intro w' hSw; replace zj := kept_cell hSw zj; replace za := kept_cell hSw za; replace zb := kept_cell hSw zb; replace t0 := kept_cell hSw t0; replace x0 := kept_cell hSw x0; replace q1 := kept_cell hSw q1; replace q3 := kept_cell hSw q3; go_simp; try with_reducible rfl)
          try simp only [Act.put, List.setIfInBounds_toArray, List.set_cons_zero, List.set_cons_succ]
          refine x_take (i := 23) (oi := { dst := some 127, op := Op.load 3 (Operand.tmp 126), type := 3, pos := "law.go:146", after := #[{ on := 22, ground := Ground.data }], guard := none }) (v := ?_) rfl (by kernel_rfl) (by kernel_rfl) (by kernel_rfl) (by kernel_rfl) (by kernel_rfl) (fun _ _ _ h => h) (Or.inl ⟨rfl, ?_⟩) (by assumption) ?_
          rotate_left
          · (intro w' hSw; replace zj := kept_cell hSw zj; replace za := kept_cell hSw za; replace zb := kept_cell hSw zb; replace t0 := kept_cell hSw t0; replace x0 := kept_cell hSw x0; replace q1 := kept_cell hSw q1; replace q3 := kept_cell hSw q3; go_simp; try with_reducible rfl)
          try simp only [Act.put, List.setIfInBounds_toArray, List.set_cons_zero, List.set_cons_succ]
          refine x_take (i := 24) (oi := { dst := some 128, op := Op.binOp BinOp.add 3 (Operand.tmp 121) (Operand.tmp 127) 3, type := 3, pos := "law.go:146", after := #[{ on := 17, ground := Ground.data }, { on := 23, ground := Ground.data }], guard := none }) (v := ?_) rfl (by kernel_rfl) (by kernel_rfl) (by kernel_rfl) (by kernel_rfl) (by kernel_rfl) (fun _ _ _ h => h) (Or.inl ⟨rfl, ?_⟩) (by assumption) ?_
          rotate_left
          · (intro w' hSw; replace zj := kept_cell hSw zj; replace za := kept_cell hSw za; replace zb := kept_cell hSw zb; replace t0 := kept_cell hSw t0; replace x0 := kept_cell hSw x0; replace q1 := kept_cell hSw q1; replace q3 := kept_cell hSw q3; go_simp; try with_reducible rfl)
          try simp only [Act.put, List.setIfInBounds_toArray, List.set_cons_zero, List.set_cons_succ]
          refine x_take (i := 25) (oi := { dst := some 129, op := Op.indexAddr 24 (Operand.tmp 112) (Operand.tmp 128), type := 0, pos := "law.go:146", after := #[{ on := 8, ground := Ground.data }, { on := 24, ground := Ground.data }], guard := none }) (v := ?_) rfl (by kernel_rfl) (by kernel_rfl) (by kernel_rfl) (by kernel_rfl) (by kernel_rfl) (fun _ _ _ h => h) (Or.inl ⟨rfl, ?_⟩) (by assumption) ?_
          rotate_left
          · (intro w' hSw; replace zj := kept_cell hSw zj; replace za := kept_cell hSw za; replace zb := kept_cell hSw zb; replace t0 := kept_cell hSw t0; replace x0 := kept_cell hSw x0; replace q1 := kept_cell hSw q1; replace q3 := kept_cell hSw q3; go_simp; try with_reducible rfl)
          try simp only [Act.put, List.setIfInBounds_toArray, List.set_cons_zero, List.set_cons_succ]
          refine x_take (i := 26) (oi := { dst := some 130, op := Op.load 3 (Operand.tmp 129), type := 3, pos := "law.go:146", after := #[{ on := 25, ground := Ground.data }], guard := none }) (v := ?_) rfl (by kernel_rfl) (by kernel_rfl) (by kernel_rfl) (by kernel_rfl) (by kernel_rfl) (fun _ _ _ h => h) (Or.inl ⟨rfl, ?_⟩) (by assumption) ?_
          rotate_left
          · (intro w' hSw; replace zj := kept_cell hSw zj; replace za := kept_cell hSw za; replace zb := kept_cell hSw zb; replace t0 := kept_cell hSw t0; replace x0 := kept_cell hSw x0; replace q1 := kept_cell hSw q1; replace q3 := kept_cell hSw q3; go_simp; try with_reducible rfl)
          try simp only [Act.put, List.setIfInBounds_toArray, List.set_cons_zero, List.set_cons_succ]
          refine x_take (i := 27) (oi := { dst := some 131, op := Op.binOp BinOp.neq 3 (Operand.tmp 107) (Operand.tmp 130) 3, type := 4, pos := "law.go:146", after := #[{ on := 3, ground := Ground.data }, { on := 26, ground := Ground.data }], guard := none }) (v := ?_) rfl (by kernel_rfl) (by kernel_rfl) (by kernel_rfl) (by kernel_rfl) (by kernel_rfl) (fun _ _ _ h => h) (Or.inl ⟨rfl, ?_⟩) (by assumption) ?_
          rotate_left
          · (intro w' hSw; replace zj := kept_cell hSw zj; replace za := kept_cell hSw za; replace zb := kept_cell hSw zb; replace t0 := kept_cell hSw t0; replace x0 := kept_cell hSw x0; replace q1 := kept_cell hSw q1; replace q3 := kept_cell hSw q3; go_simp; try with_reducible rfl)
          try simp only [Act.put, List.setIfInBounds_toArray, List.set_cons_zero, List.set_cons_succ]
          refine x_done (by kernel_rfl) ?_ _
          go_wp2_with fail
          go_roundg (t.tb.length - (j + 1))
          case rel => exact ⟨j + 1, by have := HJT.out; omega, rfl, by go_num, kept_trans KR hHeld⟩
          case measure => have := HJT.out; omega
        · obtain rfl : t.tb.length = j := by omega
          have c1 : decide ((t.tb.length : Int) < (t.tb.length : Int)) = false := decide_eq_false (by omega)
          have c2 : decide (t.tb.length < t.tb.length) = false := decide_eq_false (by omega)
          go_wp2_with fail
          go_loopg [13] t.lv.length (fun G s13 wr => ∃ j : Nat, j ≤ t.lv.length ∧ G = t.lv.length - j ∧ s13 = .int .i64 j ∧ Kept wl wr)
          case atStart => exact ⟨0, by omega, rfl, rfl, KR⟩
          case round =>
            clear KR c1 c2 q3
            obtain ⟨j, hj, rfl, rfl, KR⟩ := hrel
            have q2 := kept_cell KR Q2.out
            have q3 := kept_cell KR Q3.out
            by_cases hjt : j < t.lv.length
            · have c1 : decide ((j : Int) < (t.lv.length : Int)) = true := decide_eq_true (by omega)
              have c2 : decide (j < t.lv.length) = true := decide_eq_true hjt
              have hKK := HK.out
              obtain ⟨v, ev, _, hcv⟩ := LC.out (t.tb.length + j) (by omega)
              have hle : ia t.lv j = (v : Int) := by
                rw [← ev, valW_leaf (by omega), show t.tb.length + j - t.tb.length = j by omega]
                rfl
              have hcl := HDA.out j hjt
              rw [hle] at hcl
              have zc := kept_cell KR hcv
              have x0 := kept_cell (kept_trans KL KR) hcl
              obtain ⟨jj, hjj⟩ : ∃ y, y = t.tb.length + j := ⟨_, rfl⟩
              have w1 : IntKind.i64.wrap ((t.tb.length : Int) + (j : Int)) = (jj : Int) := (IntWalk.i64_in _ (by omega)).trans (by omega)
              rw [← hjj] at zc
              have hljj : jj < K := by omega
              have nv : ((v : Int) != (v : Int)) = false := by simp
              have nv2 : (v != v) = false := by simp
              have HJT := Lib.hid hjt
              clear hcv hcl hle ev hjj hKK
              go_upto_region 22 with fail
              refine region_x (fun w' => Kept wr w') [] (by kernel_rfl) (kept_drew (kept_refl _)) (fun hHeld => ?_)
              refine x_take (i := 0) (oi := { dst := some 139, op := Op.move (Operand.tmp 7), type := 24, pos := "law.go:151", after := #[], guard := none }) (v := ?_) rfl (by kernel_rfl) (by kernel_rfl) (by kernel_rfl) (by kernel_rfl) (by kernel_rfl) (fun _ _ _ h => h) (Or.inl ⟨rfl, ?_⟩) (by assumption) ?_
              rotate_left
              · (intro w' hSw; replace zc := kept_cell hSw zc; replace x0 := kept_cell hSw x0; replace q2 := kept_cell hSw q2; replace q3 := kept_cell hSw q3; go_simp; try with_reducible rfl)
              try simp only [Act.put, List.setIfInBounds_toArray, List.set_cons_zero, List.set_cons_succ]
              refine x_take (i := 1) (oi := { dst := some 140, op := Op.fieldAddr 27 (Operand.tmp 4) 3, type := 0, pos := "law.go:151", after := #[], guard := none }) (v := ?_) rfl (by kernel_rfl) (by kernel_rfl) (by kernel_rfl) (by kernel_rfl) (by kernel_rfl) (fun _ _ _ h => h) (Or.inl ⟨rfl, ?_⟩) (by assumption) ?_
              rotate_left
              · (intro w' hSw; replace zc := kept_cell hSw zc; replace x0 := kept_cell hSw x0; replace q2 := kept_cell hSw q2; replace q3 := kept_cell hSw q3; go_simp; try with_reducible rfl)
              try simp only [Act.put, List.setIfInBounds_toArray, List.set_cons_zero, List.set_cons_succ]
              refine x_take (i := 2) (oi := { dst := some 141, op := Op.load 25 (Operand.tmp 140), type := 25, pos := "law.go:151", after := #[{ on := 1, ground := Ground.data }], guard := none }) (v := ?_) rfl (by kernel_rfl) (by kernel_rfl) (by kernel_rfl) (by kernel_rfl) (by kernel_rfl) (fun _ _ _ h => h) (Or.inl ⟨rfl, ?_⟩) (by assumption) ?_
              rotate_left
              · (intro w' hSw; replace zc := kept_cell hSw zc; replace x0 := kept_cell hSw x0; replace q2 := kept_cell hSw q2; replace q3 := kept_cell hSw q3; go_simp; try with_reducible rfl)
              try simp only [Act.put, List.setIfInBounds_toArray, List.set_cons_zero, List.set_cons_succ]
              refine x_take (i := 3) (oi := { dst := some 142, op := Op.call { callee := Callee.builtin Builtin.len, args := #[Operand.tmp 141], argTypes := #[25] }, type := 3, pos := "law.go:151", after := #[{ on := 2, ground := Ground.data }], guard := none }) (v := ?_) rfl (by kernel_rfl) (by kernel_rfl) (by kernel_rfl) (by kernel_rfl) (by kernel_rfl) (fun _ _ _ h => h) (Or.inl ⟨rfl, ?_⟩) (by assumption) ?_
              rotate_left
              · (intro w' hSw; replace zc := kept_cell hSw zc; replace x0 := kept_cell hSw x0; replace q2 := kept_cell hSw q2; replace q3 := kept_cell hSw q3; go_simp; try with_reducible rfl)
              try simp only [Act.put, List.setIfInBounds_toArray, List.set_cons_zero, List.set_cons_succ]
              refine x_take (i := 4) (oi := { dst := some 143, op := Op.move (Operand.tmp 13), type := 3, pos := "law.go:151", after := #[], guard := none }) (v := ?_) rfl (by kernel_rfl) (by kernel_rfl) (by kernel_rfl) (by kernel_rfl) (by kernel_rfl) (fun _ _ _ h => h) (Or.inl ⟨rfl, ?_⟩) (by assumption) ?_
              rotate_left
              · (intro w' hSw; replace zc := kept_cell hSw zc; replace x0 := kept_cell hSw x0; replace q2 := kept_cell hSw q2; replace q3 := kept_cell hSw q3; go_simp; try with_reducible rfl)
              try simp only [Act.put, List.setIfInBounds_toArray, List.set_cons_zero, List.set_cons_succ]
              refine x_take (i := 5) (oi := { dst := some 144, op := Op.binOp BinOp.add 3 (Operand.tmp 142) (Operand.tmp 143) 3, type := 3, pos := "law.go:151", after := #[{ on := 3, ground := Ground.data }, { on := 4, ground := Ground.data }], guard := none }) (v := ?_) rfl (by kernel_rfl) (by kernel_rfl) (by kernel_rfl) (by kernel_rfl) (by kernel_rfl) (fun _ _ _ h => h) (Or.inl ⟨rfl, ?_⟩) (by assumption) ?_
              rotate_left
              · (intro w' hSw; replace zc := kept_cell hSw zc; replace x0 := kept_cell hSw x0; replace q2 := kept_cell hSw q2; replace q3 := kept_cell hSw q3; go_simp; try with_reducible rfl)
              try simp only [Act.put, List.setIfInBounds_toArray, List.set_cons_zero, List.set_cons_succ]
              refine x_take (i := 6) (oi := { dst := some 145, op := Op.indexAddr 24 (Operand.tmp 139) (Operand.tmp 144), type := 0, pos := "law.go:151", after := #[{ on := 0, ground := Ground.data }, { on := 5, ground := Ground.data }], guard := none }) (v := ?_) rfl (by kernel_rfl) (by kernel_rfl) (by kernel_rfl) (by kernel_rfl) (by kernel_rfl) (fun _ _ _ h => h) (Or.inl ⟨rfl, ?_⟩) (by assumption) ?_
              rotate_left
              · (intro w' hSw; replace zc := kept_cell hSw zc; replace x0 := kept_cell hSw x0; replace q2 := kept_cell hSw q2; replace q3 := kept_cell hSw q3; go_simp; try with_reducible rfl)
              try simp only [Act.put, List.setIfInBounds_toArray, List.set_cons_zero, List.set_cons_succ]
              refine x_take (i := 7) (oi := { dst := some 146, op := Op.load 3 (Operand.tmp 145), type := 3, pos := "law.go:151", after := #[{ on := 6, ground := Ground.data }], guard := none }) (v := ?_) rfl (by kernel_rfl) (by kernel_rfl) (by kernel_rfl) (by kernel_rfl) (by kernel_rfl) (fun _ _ _ h => h) (Or.inl ⟨rfl, ?_⟩) (by assumption) ?_
              rotate_left
              · (intro w' hSw; replace zc := kept_cell hSw zc; replace x0 := kept_cell hSw x0; replace q2 := kept_cell hSw q2; replace q3 := kept_cell hSw q3; go_simp; try with_reducible rfl)
              try simp only [Act.put, List.setIfInBounds_toArray, List.set_cons_zero, List.set_cons_succ]
              refine x_take (i := 8) (oi := { dst := some 147, op := Op.fieldAddr 27 (Operand.tmp 4) 2, type := 0, pos := "law.go:151", after := #[], guard := none }) (v := ?_) rfl (by kernel_rfl) (by kernel_rfl) (by kernel_rfl) (by kernel_rfl) (by kernel_rfl) (fun _ _ _ h => h) (Or.inl ⟨rfl, ?_⟩) (by assumption) ?_
              rotate_left
              · (intro w' hSw; replace zc := kept_cell hSw zc; replace x0 := kept_cell hSw x0; replace q2 := kept_cell hSw q2; replace q3 := kept_cell hSw q3; go_simp; try with_reducible rfl)
              try simp only [Act.put, List.setIfInBounds_toArray, List.set_cons_zero, List.set_cons_succ]
              refine x_take (i := 9) (oi := { dst := some 148, op := Op.load 24 (Operand.tmp 147), type := 24, pos := "law.go:151", after := #[{ on := 8, ground := Ground.data }], guard := none }) (v := ?_) rfl (by kernel_rfl) (by kernel_rfl) (by kernel_rfl) (by kernel_rfl) (by kernel_rfl) (fun _ _ _ h => h) (Or.inl ⟨rfl, ?_⟩) (by assumption) ?_
              rotate_left
              · (intro w' hSw; replace zc := kept_cell hSw zc; replace x0 := kept_cell hSw x0; replace q2 := kept_cell hSw q2; replace q3 := kept_cell hSw q3; go_simp; try with_reducible rfl)
              try simp only [Act.put, List.setIfInBounds_toArray, List.set_cons_zero, List.set_cons_succ]
              refine x_take (i := 10) (oi := { dst := some 149, op := Op.move (Operand.tmp 13), type := 3, pos := "law.go:151", after := #[], guard := none }) (v := ?_) rfl (by kernel_rfl) (by kernel_rfl) (by kernel_rfl) (by kernel_rfl) (by kernel_rfl) (fun _ _ _ h => h) (Or.inl ⟨rfl, ?_⟩) (by assumption) ?_
              rotate_left
              · (intro w' hSw; replace zc := kept_cell hSw zc; replace x0 := kept_cell hSw x0; replace q2 := kept_cell hSw q2; replace q3 := kept_cell hSw q3; go_simp; try with_reducible rfl)
              try simp only [Act.put, List.setIfInBounds_toArray, List.set_cons_zero, List.set_cons_succ]
              refine x_take (i := 11) (oi := { dst := some 150, op := Op.indexAddr 24 (Operand.tmp 148) (Operand.tmp 149), type := 0, pos := "law.go:151", after := #[{ on := 9, ground := Ground.data }, { on := 10, ground := Ground.data }], guard := none }) (v := ?_) rfl (by kernel_rfl) (by kernel_rfl) (by kernel_rfl) (by kernel_rfl) (by kernel_rfl) (fun _ _ _ h => h) (Or.inl ⟨rfl, ?_⟩) (by assumption) ?_
              rotate_left
              · (intro w' hSw; replace zc := kept_cell hSw zc; replace x0 := kept_cell hSw x0; replace q2 := kept_cell hSw q2; replace q3 := kept_cell hSw q3; go_simp; try with_reducible rfl)
              try simp only [Act.put, List.setIfInBounds_toArray, List.set_cons_zero, List.set_cons_succ]
              refine x_take (i := 12) (oi := { dst := some 151, op := Op.load 3 (Operand.tmp 150), type := 3, pos := "law.go:151", after := #[{ on := 11, ground := Ground.data }], guard := none }) (v := ?_) rfl (by kernel_rfl) (by kernel_rfl) (by kernel_rfl) (by kernel_rfl) (by kernel_rfl) (fun _ _ _ h => h) (Or.inl ⟨rfl, ?_⟩) (by assumption) ?_
              rotate_left
              · (intro w' hSw; replace zc := kept_cell hSw zc; replace x0 := kept_cell hSw x0; replace q2 := kept_cell hSw q2; replace q3 := kept_cell hSw q3; go_simp; try with_reducible rfl)
              try simp only [Act.put, List.setIfInBounds_toArray, List.set_cons_zero, List.set_cons_succ]
              refine x_take (i := 13) (oi := { dst := some 152, op := Op.binOp BinOp.neq 3 (Operand.tmp 146) (Operand.tmp 151) 3, type := 4, pos := "law.go:151", after := #[{ on := 7, ground := Ground.data }, { on := 12, ground := Ground.data }], guard := none }) (v := ?_) rfl (by kernel_rfl) (by kernel_rfl) (by kernel_rfl) (by kernel_rfl) (by kernel_rfl) (fun _ _ _ h => h) (Or.inl ⟨rfl, ?_⟩) (by assumption) ?_
              rotate_left
              · (intro w' hSw; replace zc := kept_cell hSw zc; replace x0 := kept_cell hSw x0; replace q2 := kept_cell hSw q2; replace q3 := kept_cell hSw q3; go_simp; try with_reducible rfl)
              try simp only [Act.put, List.setIfInBounds_toArray, List.set_cons_zero, List.set_cons_succ]
              refine x_done (by kernel_rfl) ?_ _
              go_wp2_with fail
              go_roundg (t.lv.length - (j + 1))
              case rel => exact ⟨j + 1, by have := HJT.out; omega, rfl, by go_num, kept_trans KR hHeld⟩
              case measure => have := HJT.out; omega
            · obtain rfl : t.lv.length = j := by omega
              have c1 : decide ((t.lv.length : Int) < (t.lv.length : Int)) = false := decide_eq_false (by omega)
              have c2 : decide (t.lv.length < t.lv.length) = false := decide_eq_false (by omega)
              have K2 := kept_trans KL KR
              have y0 := kept_cell KR Y0.out; have y1 := kept_cell KR Y1.out; have q0 := kept_cell KR Q0.out; have q1 := kept_cell KR Q1.out
              by_cases a1 : n < 0
              · have d1 : decide (n < 0) = true := decide_eq_true a1
                clear a1
                go_wp2_with (go_at_call 7; ((with_reducible refine (C7.out _ K2).mono ?_); rintro e w9 ⟨rfl, k9⟩; replace K2 := kept_trans K2 k9))
                go_ret
                exact ⟨rfl, K2⟩
              · obtain ⟨nn, rfl⟩ : ∃ nn : Nat, n = nn := ⟨n.toNat, by omega⟩
                have d1 : decide ((nn : Int) < 0) = false := decide_eq_false a1
                by_cases a2 : K ≤ nn
                · have d2 : decide ((K : Int) ≤ (nn : Int)) = true := decide_eq_true (by omega)
                  have d2' : decide (K ≤ nn) = true := decide_eq_true a2
                  clear a1 a2
                  go_wp2_with (go_at_call 7; ((with_reducible refine (C7.out _ K2).mono ?_); rintro e w9 ⟨rfl, k9⟩; replace K2 := kept_trans K2 k9))
                  go_ret
                  exact ⟨rfl, K2⟩
                · have d2 : decide ((K : Int) ≤ (nn : Int)) = false := decide_eq_false (by omega)
                  have d2' : decide (K ≤ nn) = false := decide_eq_false a2
                  have hnK : nn < K := by omega
                  obtain ⟨v, ev, _, hcv⟩ := LC.out nn hnK
                  have zn := kept_cell KR hcv
                  have C19' := Lib.hid (C19.out nn (by have := HK.out; omega))
                  unfold BelowPost trV at C19'
                  have nv : ((v : Int) != (v : Int)) = false := by simp
                  have nv2 : (v != v) = false := by simp
                  by_cases a3 : t.tb.length ≤ nn
                  · have d3 : decide ((t.tb.length : Int) ≤ (nn : Int)) = true := decide_eq_true (by omega)
                    have d3' : decide (t.tb.length ≤ nn) = true := decide_eq_true a3
                    clear a1 a2 a3 hcv
                    go_wp2_with (first
                      | (go_at_call 19; ((with_reducible refine (C19'.out _ K2).mono ?_); rintro e w5 ⟨u, A6, c6, T6, d6, rfl, gu, vu, hAu, hTu, k6⟩; replace KR := kept_trans KR k6; replace K2 := kept_trans K2 k6; replace y0 := kept_cell k6 y0; replace y1 := kept_cell k6 y1; replace q0 := kept_cell k6 q0; replace q1 := kept_cell k6 q1; replace q2 := kept_cell k6 q2; replace q3 := kept_cell k6 q3; replace zn := kept_cell k6 zn; have C18u := Lib.hid (C18b.out u gu A6 c6 T6 d6); rw [vu, ev] at C18u))
                      | (go_at_call 18; ((with_reducible refine (C18u.out _ hAu hTu).mono ?_); rintro e w6 ⟨rfl, k7⟩; replace KR := kept_trans KR k7; replace K2 := kept_trans K2 k7; replace y0 := kept_cell k7 y0; replace y1 := kept_cell k7 y1; replace q0 := kept_cell k7 q0; replace q1 := kept_cell k7 q1; replace q2 := kept_cell k7 q2; replace q3 := kept_cell k7 q3; replace zn := kept_cell k7 zn))
                      | (go_at_call 7; ((with_reducible refine (C7.out _ K2).mono ?_); rintro e w9 ⟨rfl, k9⟩; replace K2 := kept_trans K2 k9)))
                    go_ret
                    exact ⟨rfl, K2⟩
                  · have d3 : decide ((t.tb.length : Int) ≤ (nn : Int)) = false := decide_eq_false (by omega)
                    have d3' : decide (t.tb.length ≤ nn) = false := decide_eq_false a3
                    have hnt : nn < t.tb.length := by omega
                    obtain ⟨x1, x2, y, z, v', SV⟩ := stepV HG.out hnt HB.out
                    have hKK := HK.out
                    have hlt := HLT.out
                    obtain rfl : v = v' := by have := SV.ev; omega
                    obtain ⟨va, ea, _, hca⟩ := LC.out (2 * nn + 1) (by omega)
                    obtain ⟨vb, eb, _, hcb⟩ := LC.out (2 * nn + 2) (by omega)
                    obtain rfl : x1 = va := by have := SV.e1; omega
                    obtain rfl : x2 = vb := by have := SV.e2; omega
                    have HSV := Lib.hid SV
                    have HNT := Lib.hid hnt
                    have h1N := SV.l1
                    have h2N := SV.l2
                    rw [← HN.out.hN] at h1N h2N
                    have hN64 := HN.out.N64
                    have hv64 := SV.lv
                    obtain ⟨na, hna⟩ : ∃ y, y = 2 * nn + 1 := ⟨_, rfl⟩
                    obtain ⟨nb, hnb⟩ : ∃ y, y = 2 * nn + 2 := ⟨_, rfl⟩
                    obtain ⟨n2, hn2⟩ : ∃ y, y = 2 * nn := ⟨_, rfl⟩
                    have w1 : IntKind.i64.wrap (2 * (nn : Int)) = (n2 : Int) := (IntWalk.i64_in _ (by omega)).trans (by omega)
                    have w2 : IntKind.i64.wrap ((n2 : Int) + 1) = (na : Int) := (IntWalk.i64_in _ (by omega)).trans (by omega)
                    have w3 : IntKind.i64.wrap ((n2 : Int) + 2) = (nb : Int) := (IntWalk.i64_in _ (by omega)).trans (by omega)
                    have hlna : na < K := by omega
                    have hlnb : nb < K := by omega
                    rw [← hna] at hca
                    rw [← hnb] at hcb
                    have HCA := Lib.hid hca
                    have HCB := Lib.hid hcb
                    have hm2 := HN.out.hm
                    have hm6 : m ≤ 12 := by have := HN.out.b6; omega
                    have HM := Lib.hid hm2
                    have hmk := make_intsW m (by omega)
                    clear a1 a2 a3 hcv SV hnt ea eb hca hcb hna hnb hn2 hKK hlt hm2
                    go_upto_region 31 with (first
                      | (go_at_call 19; ((with_reducible refine (C19'.out _ K2).mono ?_); rintro e w5 ⟨u, A6, c6, T6, d6, rfl, gu, vu, hAu, hTu, k6⟩; replace KR := kept_trans KR k6; replace K2 := kept_trans K2 k6; replace y0 := kept_cell k6 y0; replace y1 := kept_cell k6 y1; replace q0 := kept_cell k6 q0; replace q1 := kept_cell k6 q1; replace q2 := kept_cell k6 q2; replace q3 := kept_cell k6 q3; replace zn := kept_cell k6 zn; have C18u := Lib.hid (C18b.out u gu A6 c6 T6 d6); rw [vu, ev] at C18u))
                      | (go_at_call 18; ((with_reducible refine (C18u.out _ hAu hTu).mono ?_); rintro e w6 ⟨rfl, k7⟩; replace KR := kept_trans KR k7; replace K2 := kept_trans K2 k7; replace y0 := kept_cell k7 y0; replace y1 := kept_cell k7 y1; replace q0 := kept_cell k7 q0; replace q1 := kept_cell k7 q1; replace q2 := kept_cell k7 q2; replace q3 := kept_cell k7 q3; replace zn := kept_cell k7 zn)))
                    obtain ⟨wm, rfl⟩ : ∃ x, x = w6 := ⟨_, rfl⟩
                    have oe := Own.new wm 3 (ints (List.replicate m 0))
                    have hbm : b5 < wm.heap.size := by have := KR.size; omega
                    have hgm : w.heap.size + 1 < wm.heap.size := by have := KR.size; omega
                    go_wp2_with fail
                    clear hmk
                    go_loopg [17] bn (fun G s17 wr => ∃ k : Nat, k ≤ bn ∧ G = bn - k ∧ s17 = .int .i64 k ∧ Own wr wm.heap.size 3 (ints (atTo bn x1 x2 k)) ∧ Kept wm wr)
                    case atStart => exact ⟨0, by omega, rfl, rfl, by rw [atTo_zero, ← HM.out]; exact oe, kept_alloc (kept_refl _) _⟩
                    case round =>
                      clear oe y0 y1 q0 q1 q2 q3 zn
                      obtain ⟨k, hk, rfl, rfl, oe, K4⟩ := hrel
                      have KW := kept_trans KR K4
                      have q1 := kept_cell KW Q1.out
                      by_cases hkb : k < bn
                      · have c1 : decide ((k : Int) < (bn : Int)) = true := decide_eq_true (by omega)
                        have c2 : decide (k < bn) = true := decide_eq_true hkb
                        have za := kept_cell KW HCA.out
                        have zb := kept_cell KW HCB.out
                        have m5 := b_and2 (b := x1) (by omega) k
                        have m6 := b_and2 (b := x2) (by omega) k
                        obtain ⟨s1, hs1⟩ : ∃ y, y = bitI (x1.testBit k) := ⟨_, rfl⟩
                        obtain ⟨s2, hs2⟩ : ∃ y, y = bitI (x2.testBit k) := ⟨_, rfl⟩
                        have HST := Lib.hid (show ((atTo bn x1 x2 k).set k s1).set (bn + k) s2 = atTo bn x1 x2 (k + 1) by rw [hs1, hs2]; exact atTo_step hkb)
                        rw [← hs1] at m5
                        rw [← hs2] at m6
                        obtain ⟨kb, hkbe⟩ : ∃ y, y = bn + k := ⟨_, rfl⟩
                        have w5 : IntKind.i64.wrap ((bn : Int) + (k : Int)) = (kb : Int) := (IntWalk.i64_in _ (by omega)).trans (by omega)
                        have hkm : k < m := by have := HM.out; omega
                        have hkbm : kb < m := by have := HM.out; omega
                        have len1 : k < (atTo bn x1 x2 k).length := by rw [atTo_len]; omega
                        have len2 : kb < ((atTo bn x1 x2 k).set k s1).length := by rw [List.length_set, atTo_len]; omega
                        have ne1 : wm.heap.size ≠ b5 := by omega
                        have ne2 : wm.heap.size ≠ w.heap.size + 1 := by omega
                        have HKB := Lib.hid hkb
                        have HKE := Lib.hid hkbe
                        have oe1 := oe.setInt k s1
                        have u1 : (wr.setCell ⟨wm.heap.size, k, none⟩ (.int .i64 s1)).cell? ⟨b5, o5 + na, none⟩ = some (.int .i64 (x1 : Int)) := by rw [World.cell?_setCell_far _ _ _ _ ne1]; exact za
                        have u2 : (wr.setCell ⟨wm.heap.size, k, none⟩ (.int .i64 s1)).cell? ⟨b5, o5 + nb, none⟩ = some (.int .i64 (x2 : Int)) := by rw [World.cell?_setCell_far _ _ _ _ ne1]; exact zb
                        have u3 : (wr.setCell ⟨wm.heap.size, k, none⟩ (.int .i64 s1)).cell? ⟨w.heap.size + 1, 1, none⟩ = some (.int .i64 (bn : Int)) := by rw [World.cell?_setCell_far _ _ _ _ ne2]; exact q1
                        have f1 := oe.drew.frozen k
                        have g1 := oe.drew.int (j := k) len1
                        have f2 := oe1.drew.frozen kb
                        have g2 := oe1.drew.int (j := kb) len2
                        clear hs1 hs2 hkbe
                        go_upto_region 35 with fail
                        refine region_x (fun w' => w'.cell? ⟨b5, o5 + na, none⟩ = some (.int .i64 (x1 : Int)) ∧ w'.cell? ⟨b5, o5 + nb, none⟩ = some (.int .i64 (x2 : Int)) ∧ w'.cell? ⟨w.heap.size + 1, 1, none⟩ = some (.int .i64 (bn : Int))) [28] (by kernel_rfl) ?_ (fun hHeld => ?_)
                        · exact ⟨cell_drew za, cell_drew zb, cell_drew q1⟩
                        refine x_take (i := 0) (oi := { dst := some 195, op := Op.move (Operand.tmp 16), type := 24, pos := "law.go:167", after := #[], guard := none }) (v := ?_) rfl (by kernel_rfl) (by kernel_rfl) (by kernel_rfl) (by kernel_rfl) (by kernel_rfl) (fun _ _ _ h => h) (Or.inl ⟨rfl, ?_⟩) (by assumption) ?_
                        rotate_left
                        · (intro w hSw; (try dsimp only at hSw); (try obtain ⟨hSa, hSb⟩ := hSw); (try obtain ⟨hSb, hSc⟩ := hSb); (try obtain ⟨hSc, hSd⟩ := hSc); (try obtain ⟨hSd, hSe⟩ := hSd); (try obtain ⟨hSe, hSf⟩ := hSe); go_simp; try with_reducible rfl)
                        try simp only [Act.put, List.setIfInBounds_toArray, List.set_cons_zero, List.set_cons_succ]
                        refine x_take (i := 1) (oi := { dst := some 196, op := Op.move (Operand.tmp 17), type := 3, pos := "law.go:167", after := #[], guard := none }) (v := ?_) rfl (by kernel_rfl) (by kernel_rfl) (by kernel_rfl) (by kernel_rfl) (by kernel_rfl) (fun _ _ _ h => h) (Or.inl ⟨rfl, ?_⟩) (by assumption) ?_
                        rotate_left
                        · (intro w hSw; (try dsimp only at hSw); (try obtain ⟨hSa, hSb⟩ := hSw); (try obtain ⟨hSb, hSc⟩ := hSb); (try obtain ⟨hSc, hSd⟩ := hSc); (try obtain ⟨hSd, hSe⟩ := hSd); (try obtain ⟨hSe, hSf⟩ := hSe); go_simp; try with_reducible rfl)
                        try simp only [Act.put, List.setIfInBounds_toArray, List.set_cons_zero, List.set_cons_succ]
                        refine x_take (i := 2) (oi := { dst := some 197, op := Op.move (Operand.tmp 16), type := 24, pos := "law.go:167", after := #[{ on := 26, ground := Ground.gcOnly Departure.lateStores }], guard := none }) (v := ?_) rfl (by kernel_rfl) (by kernel_rfl) (by kernel_rfl) (by kernel_rfl) (by kernel_rfl) (fun _ _ _ h => h) (Or.inl ⟨rfl, ?_⟩) (by assumption) ?_
                        rotate_left
                        · (intro w hSw; (try dsimp only at hSw); (try obtain ⟨hSa, hSb⟩ := hSw); (try obtain ⟨hSb, hSc⟩ := hSb); (try obtain ⟨hSc, hSd⟩ := hSc); (try obtain ⟨hSd, hSe⟩ := hSd); (try obtain ⟨hSe, hSf⟩ := hSe); go_simp; try with_reducible rfl)
                        try simp only [Act.put, List.setIfInBounds_toArray, List.set_cons_zero, List.set_cons_succ]
                        refine x_take (i := 3) (oi := { dst := some 198, op := Op.fieldAddr 27 (Operand.tmp 4) 1, type := 0, pos := "law.go:167", after := #[{ on := 26, ground := Ground.gcOnly Departure.lateStores }], guard := none }) (v := ?_) rfl (by kernel_rfl) (by kernel_rfl) (by kernel_rfl) (by kernel_rfl) (by kernel_rfl) (fun _ _ _ h => h) (Or.inl ⟨rfl, ?_⟩) (by assumption) ?_
                        rotate_left
                        · (intro w hSw; (try dsimp only at hSw); (try obtain ⟨hSa, hSb⟩ := hSw); (try obtain ⟨hSb, hSc⟩ := hSb); (try obtain ⟨hSc, hSd⟩ := hSc); (try obtain ⟨hSd, hSe⟩ := hSd); (try obtain ⟨hSe, hSf⟩ := hSe); go_simp; try with_reducible rfl)
                        try simp only [Act.put, List.setIfInBounds_toArray, List.set_cons_zero, List.set_cons_succ]
                        refine x_take (i := 4) (oi := { dst := some 199, op := Op.load 3 (Operand.tmp 198), type := 3, pos := "law.go:167", after := #[{ on := 3, ground := Ground.data }, { on := 26, ground := Ground.gcOnly Departure.lateStores }], guard := none }) (v := ?_) rfl (by kernel_rfl) (by kernel_rfl) (by kernel_rfl) (by kernel_rfl) (by kernel_rfl) (fun _ _ _ h => h) (Or.inl ⟨rfl, ?_⟩) (by assumption) ?_
                        rotate_left
                        · (intro w hSw; (try dsimp only at hSw); (try obtain ⟨hSa, hSb⟩ := hSw); (try obtain ⟨hSb, hSc⟩ := hSb); (try obtain ⟨hSc, hSd⟩ := hSc); (try obtain ⟨hSd, hSe⟩ := hSd); (try obtain ⟨hSe, hSf⟩ := hSe); go_simp; try with_reducible rfl)
                        try simp only [Act.put, List.setIfInBounds_toArray, List.set_cons_zero, List.set_cons_succ]
                        refine x_take (i := 5) (oi := { dst := some 200, op := Op.move (Operand.tmp 17), type := 3, pos := "law.go:167", after := #[{ on := 26, ground := Ground.gcOnly Departure.lateStores }], guard := none }) (v := ?_) rfl (by kernel_rfl) (by kernel_rfl) (by kernel_rfl) (by kernel_rfl) (by kernel_rfl) (fun _ _ _ h => h) (Or.inl ⟨rfl, ?_⟩) (by assumption) ?_
                        rotate_left
                        · (intro w hSw; (try dsimp only at hSw); (try obtain ⟨hSa, hSb⟩ := hSw); (try obtain ⟨hSb, hSc⟩ := hSb); (try obtain ⟨hSc, hSd⟩ := hSc); (try obtain ⟨hSd, hSe⟩ := hSd); (try obtain ⟨hSe, hSf⟩ := hSe); go_simp; try with_reducible rfl)
                        try simp only [Act.put, List.setIfInBounds_toArray, List.set_cons_zero, List.set_cons_succ]
                        refine x_take (i := 6) (oi := { dst := some 201, op := Op.binOp BinOp.add 3 (Operand.tmp 199) (Operand.tmp 200) 3, type := 3, pos := "law.go:167", after := #[{ on := 4, ground := Ground.data }, { on := 5, ground := Ground.data }, { on := 26, ground := Ground.gcOnly Departure.lateStores }], guard := none }) (v := ?_) rfl (by kernel_rfl) (by kernel_rfl) (by kernel_rfl) (by kernel_rfl) (by kernel_rfl) (fun _ _ _ h => h) (Or.inl ⟨rfl, ?_⟩) (by assumption) ?_
                        rotate_left
                        · (intro w hSw; (try dsimp only at hSw); (try obtain ⟨hSa, hSb⟩ := hSw); (try obtain ⟨hSb, hSc⟩ := hSb); (try obtain ⟨hSc, hSd⟩ := hSc); (try obtain ⟨hSd, hSe⟩ := hSd); (try obtain ⟨hSe, hSf⟩ := hSe); go_simp; try with_reducible rfl)
                        try simp only [Act.put, List.setIfInBounds_toArray, List.set_cons_zero, List.set_cons_succ]
                        refine x_take (i := 7) (oi := { dst := some 202, op := Op.move (Operand.tmp 7), type := 24, pos := "law.go:167", after := #[], guard := none }) (v := ?_) rfl (by kernel_rfl) (by kernel_rfl) (by kernel_rfl) (by kernel_rfl) (by kernel_rfl) (fun _ _ _ h => h) (Or.inl ⟨rfl, ?_⟩) (by assumption) ?_
                        rotate_left
                        · (intro w hSw; (try dsimp only at hSw); (try obtain ⟨hSa, hSb⟩ := hSw); (try obtain ⟨hSb, hSc⟩ := hSb); (try obtain ⟨hSc, hSd⟩ := hSc); (try obtain ⟨hSd, hSe⟩ := hSd); (try obtain ⟨hSe, hSf⟩ := hSe); go_simp; try with_reducible rfl)
                        try simp only [Act.put, List.setIfInBounds_toArray, List.set_cons_zero, List.set_cons_succ]
                        refine x_take (i := 8) (oi := { dst := some 203, op := Op.move (Operand.tmp 2), type := 3, pos := "law.go:167", after := #[], guard := none }) (v := ?_) rfl (by kernel_rfl) (by kernel_rfl) (by kernel_rfl) (by kernel_rfl) (by kernel_rfl) (fun _ _ _ h => h) (Or.inl ⟨rfl, ?_⟩) (by assumption) ?_
                        rotate_left
                        · (intro w hSw; (try dsimp only at hSw); (try obtain ⟨hSa, hSb⟩ := hSw); (try obtain ⟨hSb, hSc⟩ := hSb); (try obtain ⟨hSc, hSd⟩ := hSc); (try obtain ⟨hSd, hSe⟩ := hSd); (try obtain ⟨hSe, hSf⟩ := hSe); go_simp; try with_reducible rfl)
                        try simp only [Act.put, List.setIfInBounds_toArray, List.set_cons_zero, List.set_cons_succ]
                        refine x_take (i := 9) (oi := { dst := some 204, op := Op.binOp BinOp.mul 3 (Operand.const (Value.int IntKind.i64 2)) (Operand.tmp 203) 3, type := 3, pos := "law.go:167", after := #[{ on := 8, ground := Ground.data }], guard := none }) (v := ?_) rfl (by kernel_rfl) (by kernel_rfl) (by kernel_rfl) (by kernel_rfl) (by kernel_rfl) (fun _ _ _ h => h) (Or.inl ⟨rfl, ?_⟩) (by assumption) ?_
                        rotate_left
                        · (intro w hSw; (try dsimp only at hSw); (try obtain ⟨hSa, hSb⟩ := hSw); (try obtain ⟨hSb, hSc⟩ := hSb); (try obtain ⟨hSc, hSd⟩ := hSc); (try obtain ⟨hSd, hSe⟩ := hSd); (try obtain ⟨hSe, hSf⟩ := hSe); go_simp; try with_reducible rfl)
                        try simp only [Act.put, List.setIfInBounds_toArray, List.set_cons_zero, List.set_cons_succ]
                        refine x_take (i := 10) (oi := { dst := some 205, op := Op.binOp BinOp.add 3 (Operand.tmp 204) (Operand.const (Value.int IntKind.i64 1)) 3, type := 3, pos := "law.go:167", after := #[{ on := 9, ground := Ground.data }], guard := none }) (v := ?_) rfl (by kernel_rfl) (by kernel_rfl) (by kernel_rfl) (by kernel_rfl) (by kernel_rfl) (fun _ _ _ h => h) (Or.inl ⟨rfl, ?_⟩) (by assumption) ?_
                        rotate_left
                        · (intro w hSw; (try dsimp only at hSw); (try obtain ⟨hSa, hSb⟩ := hSw); (try obtain ⟨hSb, hSc⟩ := hSb); (try obtain ⟨hSc, hSd⟩ := hSc); (try obtain ⟨hSd, hSe⟩ := hSd); (try obtain ⟨hSe, hSf⟩ := hSe); go_simp; try with_reducible rfl)
                        try simp only [Act.put, List.setIfInBounds_toArray, List.set_cons_zero, List.set_cons_succ]
                        refine x_take (i := 11) (oi := { dst := some 206, op := Op.indexAddr 24 (Operand.tmp 202) (Operand.tmp 205), type := 0, pos := "law.go:167", after := #[{ on := 7, ground := Ground.data }, { on := 10, ground := Ground.data }], guard := none }) (v := ?_) rfl (by kernel_rfl) (by kernel_rfl) (by kernel_rfl) (by kernel_rfl) (by kernel_rfl) (fun _ _ _ h => h) (Or.inl ⟨rfl, ?_⟩) (by assumption) ?_
                        rotate_left
                        · (intro w hSw; (try dsimp only at hSw); (try obtain ⟨hSa, hSb⟩ := hSw); (try obtain ⟨hSb, hSc⟩ := hSb); (try obtain ⟨hSc, hSd⟩ := hSc); (try obtain ⟨hSd, hSe⟩ := hSd); (try obtain ⟨hSe, hSf⟩ := hSe); go_simp; try with_reducible rfl)
                        try simp only [Act.put, List.setIfInBounds_toArray, List.set_cons_zero, List.set_cons_succ]
                        refine x_take (i := 12) (oi := { dst := some 207, op := Op.load 3 (Operand.tmp 206), type := 3, pos := "law.go:167", after := #[{ on := 11, ground := Ground.data }], guard := none }) (v := ?_) rfl (by kernel_rfl) (by kernel_rfl) (by kernel_rfl) (by kernel_rfl) (by kernel_rfl) (fun _ _ _ h => h) (Or.inl ⟨rfl, ?_⟩) (by assumption) ?_
                        rotate_left
                        · (intro w hSw; (try dsimp only at hSw); (try obtain ⟨hSa, hSb⟩ := hSw); (try obtain ⟨hSb, hSc⟩ := hSb); (try obtain ⟨hSc, hSd⟩ := hSc); (try obtain ⟨hSd, hSe⟩ := hSd); (try obtain ⟨hSe, hSf⟩ := hSe); go_simp; try with_reducible rfl)
                        try simp only [Act.put, List.setIfInBounds_toArray, List.set_cons_zero, List.set_cons_succ]
                        refine x_take (i := 13) (oi := { dst := some 208, op := Op.move (Operand.tmp 17), type := 3, pos := "law.go:167", after := #[], guard := none }) (v := ?_) rfl (by kernel_rfl) (by kernel_rfl) (by kernel_rfl) (by kernel_rfl) (by kernel_rfl) (fun _ _ _ h => h) (Or.inl ⟨rfl, ?_⟩) (by assumption) ?_
                        rotate_left
                        · (intro w hSw; (try dsimp only at hSw); (try obtain ⟨hSa, hSb⟩ := hSw); (try obtain ⟨hSb, hSc⟩ := hSb); (try obtain ⟨hSc, hSd⟩ := hSc); (try obtain ⟨hSd, hSe⟩ := hSd); (try obtain ⟨hSe, hSf⟩ := hSe); go_simp; try with_reducible rfl)
                        try simp only [Act.put, List.setIfInBounds_toArray, List.set_cons_zero, List.set_cons_succ]
                        refine x_take (i := 14) (oi := { dst := some 209, op := Op.binOp BinOp.shr 3 (Operand.tmp 207) (Operand.tmp 208) 3, type := 3, pos := "law.go:167", after := #[{ on := 12, ground := Ground.data }, { on := 13, ground := Ground.data }], guard := none }) (v := ?_) rfl (by kernel_rfl) (by kernel_rfl) (by kernel_rfl) (by kernel_rfl) (by kernel_rfl) (fun _ _ _ h => h) (Or.inl ⟨rfl, ?_⟩) (by assumption) ?_
                        rotate_left
                        · (intro w hSw; (try dsimp only at hSw); (try obtain ⟨hSa, hSb⟩ := hSw); (try obtain ⟨hSb, hSc⟩ := hSb); (try obtain ⟨hSc, hSd⟩ := hSc); (try obtain ⟨hSd, hSe⟩ := hSd); (try obtain ⟨hSe, hSf⟩ := hSe); go_simp; try with_reducible rfl)
                        try simp only [Act.put, List.setIfInBounds_toArray, List.set_cons_zero, List.set_cons_succ]
                        refine x_take (i := 15) (oi := { dst := some 210, op := Op.binOp BinOp.and 3 (Operand.tmp 209) (Operand.const (Value.int IntKind.i64 1)) 3, type := 3, pos := "law.go:167", after := #[{ on := 14, ground := Ground.data }], guard := none }) (v := ?_) rfl (by kernel_rfl) (by kernel_rfl) (by kernel_rfl) (by kernel_rfl) (by kernel_rfl) (fun _ _ _ h => h) (Or.inl ⟨rfl, ?_⟩) (by assumption) ?_
                        rotate_left
                        · (intro w hSw; (try dsimp only at hSw); (try obtain ⟨hSa, hSb⟩ := hSw); (try obtain ⟨hSb, hSc⟩ := hSb); (try obtain ⟨hSc, hSd⟩ := hSc); (try obtain ⟨hSd, hSe⟩ := hSd); (try obtain ⟨hSe, hSf⟩ := hSe); go_simp; try with_reducible rfl)
                        try simp only [Act.put, List.setIfInBounds_toArray, List.set_cons_zero, List.set_cons_succ]
                        refine x_take (i := 16) (oi := { dst := some 211, op := Op.move (Operand.tmp 7), type := 24, pos := "law.go:167", after := #[], guard := none }) (v := ?_) rfl (by kernel_rfl) (by kernel_rfl) (by kernel_rfl) (by kernel_rfl) (by kernel_rfl) (fun _ _ _ h => h) (Or.inl ⟨rfl, ?_⟩) (by assumption) ?_
                        rotate_left
                        · (intro w hSw; (try dsimp only at hSw); (try obtain ⟨hSa, hSb⟩ := hSw); (try obtain ⟨hSb, hSc⟩ := hSb); (try obtain ⟨hSc, hSd⟩ := hSc); (try obtain ⟨hSd, hSe⟩ := hSd); (try obtain ⟨hSe, hSf⟩ := hSe); go_simp; try with_reducible rfl)
                        try simp only [Act.put, List.setIfInBounds_toArray, List.set_cons_zero, List.set_cons_succ]
                        refine x_take (i := 17) (oi := { dst := some 212, op := Op.move (Operand.tmp 2), type := 3, pos := "law.go:167", after := #[], guard := none }) (v := ?_) rfl (by kernel_rfl) (by kernel_rfl) (by kernel_rfl) (by kernel_rfl) (by kernel_rfl) (fun _ _ _ h => h) (Or.inl ⟨rfl, ?_⟩) (by assumption) ?_
                        rotate_left
                        · (intro w hSw; (try dsimp only at hSw); (try obtain ⟨hSa, hSb⟩ := hSw); (try obtain ⟨hSb, hSc⟩ := hSb); (try obtain ⟨hSc, hSd⟩ := hSc); (try obtain ⟨hSd, hSe⟩ := hSd); (try obtain ⟨hSe, hSf⟩ := hSe); go_simp; try with_reducible rfl)
                        try simp only [Act.put, List.setIfInBounds_toArray, List.set_cons_zero, List.set_cons_succ]
                        refine x_take (i := 18) (oi := { dst := some 213, op := Op.binOp BinOp.mul 3 (Operand.const (Value.int IntKind.i64 2)) (Operand.tmp 212) 3, type := 3, pos := "law.go:167", after := #[{ on := 17, ground := Ground.data }], guard := none }) (v := ?_) rfl (by kernel_rfl) (by kernel_rfl) (by kernel_rfl) (by kernel_rfl) (by kernel_rfl) (fun _ _ _ h => h) (Or.inl ⟨rfl, ?_⟩) (by assumption) ?_
                        rotate_left
                        · (intro w hSw; (try dsimp only at hSw); (try obtain ⟨hSa, hSb⟩ := hSw); (try obtain ⟨hSb, hSc⟩ := hSb); (try obtain ⟨hSc, hSd⟩ := hSc); (try obtain ⟨hSd, hSe⟩ := hSd); (try obtain ⟨hSe, hSf⟩ := hSe); go_simp; try with_reducible rfl)
                        try simp only [Act.put, List.setIfInBounds_toArray, List.set_cons_zero, List.set_cons_succ]
                        refine x_take (i := 19) (oi := { dst := some 214, op := Op.binOp BinOp.add 3 (Operand.tmp 213) (Operand.const (Value.int IntKind.i64 2)) 3, type := 3, pos := "law.go:167", after := #[{ on := 18, ground := Ground.data }], guard := none }) (v := ?_) rfl (by kernel_rfl) (by kernel_rfl) (by kernel_rfl) (by kernel_rfl) (by kernel_rfl) (fun _ _ _ h => h) (Or.inl ⟨rfl, ?_⟩) (by assumption) ?_
                        rotate_left
                        · (intro w hSw; (try dsimp only at hSw); (try obtain ⟨hSa, hSb⟩ := hSw); (try obtain ⟨hSb, hSc⟩ := hSb); (try obtain ⟨hSc, hSd⟩ := hSc); (try obtain ⟨hSd, hSe⟩ := hSd); (try obtain ⟨hSe, hSf⟩ := hSe); go_simp; try with_reducible rfl)
                        try simp only [Act.put, List.setIfInBounds_toArray, List.set_cons_zero, List.set_cons_succ]
                        refine x_take (i := 20) (oi := { dst := some 215, op := Op.indexAddr 24 (Operand.tmp 211) (Operand.tmp 214), type := 0, pos := "law.go:167", after := #[{ on := 16, ground := Ground.data }, { on := 19, ground := Ground.data }], guard := none }) (v := ?_) rfl (by kernel_rfl) (by kernel_rfl) (by kernel_rfl) (by kernel_rfl) (by kernel_rfl) (fun _ _ _ h => h) (Or.inl ⟨rfl, ?_⟩) (by assumption) ?_
                        rotate_left
                        · (intro w hSw; (try dsimp only at hSw); (try obtain ⟨hSa, hSb⟩ := hSw); (try obtain ⟨hSb, hSc⟩ := hSb); (try obtain ⟨hSc, hSd⟩ := hSc); (try obtain ⟨hSd, hSe⟩ := hSd); (try obtain ⟨hSe, hSf⟩ := hSe); go_simp; try with_reducible rfl)
                        try simp only [Act.put, List.setIfInBounds_toArray, List.set_cons_zero, List.set_cons_succ]
                        refine x_take (i := 21) (oi := { dst := some 216, op := Op.load 3 (Operand.tmp 215), type := 3, pos := "law.go:167", after := #[{ on := 20, ground := Ground.data }], guard := none }) (v := ?_) rfl (by kernel_rfl) (by kernel_rfl) (by kernel_rfl) (by kernel_rfl) (by kernel_rfl) (fun _ _ _ h => h) (Or.inl ⟨rfl, ?_⟩) (by assumption) ?_
                        rotate_left
                        · (intro w hSw; (try dsimp only at hSw); (try obtain ⟨hSa, hSb⟩ := hSw); (try obtain ⟨hSb, hSc⟩ := hSb); (try obtain ⟨hSc, hSd⟩ := hSc); (try obtain ⟨hSd, hSe⟩ := hSd); (try obtain ⟨hSe, hSf⟩ := hSe); go_simp; try with_reducible rfl)
                        try simp only [Act.put, List.setIfInBounds_toArray, List.set_cons_zero, List.set_cons_succ]
                        refine x_take (i := 22) (oi := { dst := some 217, op := Op.move (Operand.tmp 17), type := 3, pos := "law.go:167", after := #[], guard := none }) (v := ?_) rfl (by kernel_rfl) (by kernel_rfl) (by kernel_rfl) (by kernel_rfl) (by kernel_rfl) (fun _ _ _ h => h) (Or.inl ⟨rfl, ?_⟩) (by assumption) ?_
                        rotate_left
                        · (intro w hSw; (try dsimp only at hSw); (try obtain ⟨hSa, hSb⟩ := hSw); (try obtain ⟨hSb, hSc⟩ := hSb); (try obtain ⟨hSc, hSd⟩ := hSc); (try obtain ⟨hSd, hSe⟩ := hSd); (try obtain ⟨hSe, hSf⟩ := hSe); go_simp; try with_reducible rfl)
                        try simp only [Act.put, List.setIfInBounds_toArray, List.set_cons_zero, List.set_cons_succ]
                        refine x_take (i := 23) (oi := { dst := some 218, op := Op.binOp BinOp.shr 3 (Operand.tmp 216) (Operand.tmp 217) 3, type := 3, pos := "law.go:167", after := #[{ on := 21, ground := Ground.data }, { on := 22, ground := Ground.data }], guard := none }) (v := ?_) rfl (by kernel_rfl) (by kernel_rfl) (by kernel_rfl) (by kernel_rfl) (by kernel_rfl) (fun _ _ _ h => h) (Or.inl ⟨rfl, ?_⟩) (by assumption) ?_
                        rotate_left
                        · (intro w hSw; (try dsimp only at hSw); (try obtain ⟨hSa, hSb⟩ := hSw); (try obtain ⟨hSb, hSc⟩ := hSb); (try obtain ⟨hSc, hSd⟩ := hSc); (try obtain ⟨hSd, hSe⟩ := hSd); (try obtain ⟨hSe, hSf⟩ := hSe); go_simp; try with_reducible rfl)
                        try simp only [Act.put, List.setIfInBounds_toArray, List.set_cons_zero, List.set_cons_succ]
                        refine x_take (i := 24) (oi := { dst := some 219, op := Op.binOp BinOp.and 3 (Operand.tmp 218) (Operand.const (Value.int IntKind.i64 1)) 3, type := 3, pos := "law.go:167", after := #[{ on := 23, ground := Ground.data }], guard := none }) (v := ?_) rfl (by kernel_rfl) (by kernel_rfl) (by kernel_rfl) (by kernel_rfl) (by kernel_rfl) (fun _ _ _ h => h) (Or.inl ⟨rfl, ?_⟩) (by assumption) ?_
                        rotate_left
                        · (intro w hSw; (try dsimp only at hSw); (try obtain ⟨hSa, hSb⟩ := hSw); (try obtain ⟨hSb, hSc⟩ := hSb); (try obtain ⟨hSc, hSd⟩ := hSc); (try obtain ⟨hSd, hSe⟩ := hSd); (try obtain ⟨hSe, hSf⟩ := hSe); go_simp; try with_reducible rfl)
                        try simp only [Act.put, List.setIfInBounds_toArray, List.set_cons_zero, List.set_cons_succ]
                        refine x_take (i := 25) (oi := { dst := some 220, op := Op.indexAddr 24 (Operand.tmp 195) (Operand.tmp 196), type := 0, pos := "law.go:167", after := #[{ on := 0, ground := Ground.data }, { on := 1, ground := Ground.data }, { on := 0, ground := Ground.phase }, { on := 1, ground := Ground.phase }, { on := 2, ground := Ground.textOnly Departure.lateStores }, { on := 3, ground := Ground.textOnly Departure.lateStores }, { on := 4, ground := Ground.textOnly Departure.lateStores }, { on := 5, ground := Ground.textOnly Departure.lateStores }, { on := 6, ground := Ground.textOnly Departure.lateStores }, { on := 7, ground := Ground.phase }, { on := 8, ground := Ground.phase }, { on := 9, ground := Ground.phase }, { on := 10, ground := Ground.phase }, { on := 11, ground := Ground.phase }, { on := 12, ground := Ground.phase }, { on := 13, ground := Ground.phase }, { on := 14, ground := Ground.phase }, { on := 15, ground := Ground.phase }, { on := 16, ground := Ground.textOnly Departure.lateStores }, { on := 17, ground := Ground.textOnly Departure.lateStores }, { on := 18, ground := Ground.textOnly Departure.lateStores }, { on := 19, ground := Ground.textOnly Departure.lateStores }, { on := 20, ground := Ground.textOnly Departure.lateStoresUnsure }, { on := 21, ground := Ground.phase }, { on := 22, ground := Ground.textOnly Departure.lateStores }, { on := 23, ground := Ground.textOnly Departure.lateStoresUnsure }, { on := 24, ground := Ground.textOnly Departure.lateStoresUnsure }], guard := none }) (v := ?_) rfl (by kernel_rfl) (by kernel_rfl) (by kernel_rfl) (by kernel_rfl) (by kernel_rfl) (fun _ _ _ h => h) (Or.inl ⟨rfl, ?_⟩) (by assumption) ?_
                        rotate_left
                        · (intro w hSw; (try dsimp only at hSw); (try obtain ⟨hSa, hSb⟩ := hSw); (try obtain ⟨hSb, hSc⟩ := hSb); (try obtain ⟨hSc, hSd⟩ := hSc); (try obtain ⟨hSd, hSe⟩ := hSd); (try obtain ⟨hSe, hSf⟩ := hSe); go_simp; try with_reducible rfl)
                        try simp only [Act.put, List.setIfInBounds_toArray, List.set_cons_zero, List.set_cons_succ]
                        refine x_one (i := 26) (o := { dst := none, op := Op.store 3 (Operand.tmp 220) (Operand.tmp 210), type := 0, pos := "law.go:167", after := #[{ on := 25, ground := Ground.data }, { on := 15, ground := Ground.data }, { on := 0, ground := Ground.phase }, { on := 1, ground := Ground.phase }, { on := 2, ground := Ground.textOnly Departure.lateStores }, { on := 3, ground := Ground.textOnly Departure.lateStores }, { on := 4, ground := Ground.textOnly Departure.lateStores }, { on := 5, ground := Ground.textOnly Departure.lateStores }, { on := 6, ground := Ground.textOnly Departure.lateStores }, { on := 7, ground := Ground.phase }, { on := 8, ground := Ground.phase }, { on := 9, ground := Ground.phase }, { on := 10, ground := Ground.phase }, { on := 11, ground := Ground.phase }, { on := 12, ground := Ground.phase }, { on := 13, ground := Ground.phase }, { on := 14, ground := Ground.phase }, { on := 15, ground := Ground.phase }, { on := 16, ground := Ground.textOnly Departure.lateStores }, { on := 17, ground := Ground.textOnly Departure.lateStores }, { on := 18, ground := Ground.textOnly Departure.lateStores }, { on := 19, ground := Ground.textOnly Departure.lateStores }, { on := 20, ground := Ground.textOnly Departure.lateStoresUnsure }, { on := 21, ground := Ground.phase }, { on := 22, ground := Ground.textOnly Departure.lateStores }, { on := 23, ground := Ground.textOnly Departure.lateStoresUnsure }, { on := 24, ground := Ground.textOnly Departure.lateStoresUnsure }], guard := none }) (by kernel_rfl) rfl (fun K hK => ?_)
                        (go_simp)
                        refine hK.out _ _ ?_ (fun hHeld => ?_)
                        · (try dsimp only); first | exact ⟨cell_drew za, cell_drew zb, cell_drew q1⟩ | exact ⟨cell_drew u1, cell_drew u2, cell_drew u3⟩ | exact ⟨u1, u2, u3⟩
                        clear hK K
                        try simp only [Act.put, List.setIfInBounds_toArray, List.set_cons_zero, List.set_cons_succ]
                        refine x_take (i := 27) (oi := { dst := some 221, op := Op.indexAddr 24 (Operand.tmp 197) (Operand.tmp 201), type := 0, pos := "law.go:167", after := #[{ on := 2, ground := Ground.data }, { on := 6, ground := Ground.data }, { on := 0, ground := Ground.phase }, { on := 1, ground := Ground.phase }, { on := 2, ground := Ground.phase }, { on := 3, ground := Ground.phase }, { on := 4, ground := Ground.phase }, { on := 5, ground := Ground.phase }, { on := 6, ground := Ground.phase }, { on := 7, ground := Ground.phase }, { on := 8, ground := Ground.phase }, { on := 9, ground := Ground.phase }, { on := 10, ground := Ground.phase }, { on := 11, ground := Ground.phase }, { on := 12, ground := Ground.phase }, { on := 13, ground := Ground.phase }, { on := 14, ground := Ground.phase }, { on := 15, ground := Ground.phase }, { on := 16, ground := Ground.phase }, { on := 17, ground := Ground.phase }, { on := 18, ground := Ground.phase }, { on := 19, ground := Ground.phase }, { on := 20, ground := Ground.phase }, { on := 21, ground := Ground.phase }, { on := 22, ground := Ground.phase }, { on := 23, ground := Ground.phase }, { on := 24, ground := Ground.phase }, { on := 25, ground := Ground.phase }, { on := 26, ground := Ground.phase }], guard := none }) (v := ?_) rfl (by kernel_rfl) (by kernel_rfl) (by kernel_rfl) (by kernel_rfl) (by kernel_rfl) (fun _ _ _ h => h) (Or.inl ⟨rfl, ?_⟩) (by assumption) ?_
                        rotate_left
                        · (intro w hSw; (try dsimp only at hSw); (try obtain ⟨hSa, hSb⟩ := hSw); (try obtain ⟨hSb, hSc⟩ := hSb); (try obtain ⟨hSc, hSd⟩ := hSc); (try obtain ⟨hSd, hSe⟩ := hSd); (try obtain ⟨hSe, hSf⟩ := hSe); go_simp; try with_reducible rfl)
                        try simp only [Act.put, List.setIfInBounds_toArray, List.set_cons_zero, List.set_cons_succ]
                        refine x_last (i := 28) (o := { dst := none, op := Op.store 3 (Operand.tmp 221) (Operand.tmp 219), type := 0, pos := "law.go:167", after := #[{ on := 27, ground := Ground.data }, { on := 24, ground := Ground.data }, { on := 26, ground := Ground.chain }, { on := 0, ground := Ground.phase }, { on := 1, ground := Ground.phase }, { on := 2, ground := Ground.phase }, { on := 3, ground := Ground.phase }, { on := 4, ground := Ground.phase }, { on := 5, ground := Ground.phase }, { on := 6, ground := Ground.phase }, { on := 7, ground := Ground.phase }, { on := 8, ground := Ground.phase }, { on := 9, ground := Ground.phase }, { on := 10, ground := Ground.phase }, { on := 11, ground := Ground.phase }, { on := 12, ground := Ground.phase }, { on := 13, ground := Ground.phase }, { on := 14, ground := Ground.phase }, { on := 15, ground := Ground.phase }, { on := 16, ground := Ground.phase }, { on := 17, ground := Ground.phase }, { on := 18, ground := Ground.phase }, { on := 19, ground := Ground.phase }, { on := 20, ground := Ground.phase }, { on := 21, ground := Ground.phase }, { on := 22, ground := Ground.phase }, { on := 23, ground := Ground.phase }, { on := 24, ground := Ground.phase }, { on := 25, ground := Ground.phase }, { on := 26, ground := Ground.phase }], guard := none }) (by kernel_rfl) rfl (by simp) (fun K hK => ?_)
                        (go_simp)
                        refine hK.out _ _ ?_
                        clear hK K
                        try simp only [Act.put, List.setIfInBounds_toArray, List.set_cons_zero, List.set_cons_succ]
                        refine x_done (by kernel_rfl) ?_ _
                        go_wp2_with fail
                        go_roundg (bn - (k + 1))
                        case rel => exact ⟨k + 1, by have := HKB.out; omega, rfl, by go_num, (by rw [← HST.out, ← HKE.out]; exact (oe1.drew).setInt kb s2), kept_set (kept_drew (kept_set K4 (Nat.le_refl _) _)) (Nat.le_refl _) _⟩
                        case measure => have := HKB.out; omega
                      · obtain rfl : bn = k := by omega
                        obtain ⟨wq, rfl⟩ : ∃ x, x = wr := ⟨_, rfl⟩
                        have c1 : decide ((bn : Int) < (bn : Int)) = false := decide_eq_false (by omega)
                        have c2 : decide (bn < bn) = false := decide_eq_false (by omega)
                        have atr := oe.rd
                        have KWQ := kept_trans KL KW
                        clear oe
                        go_wp2_with fail
                        clear q1 c1 c2
                        go_loopg [18, 19, 20, 21, 22] bn (fun G s18 s19 s20 s21 s22 wr => ∃ (k : Nat) (v19 v20 v21 v22 : Value), k ≤ bn ∧ G = bn - k ∧ s18 = .int .i64 k ∧ s19 = v19 ∧ s20 = v20 ∧ s21 = v21 ∧ s22 = v22 ∧ Kept wq wr)
                        case atStart => exact ⟨0, _, _, _, _, by omega, rfl, rfl, rfl, rfl, rfl, rfl, kept_refl _⟩
                        case round =>
                          obtain ⟨k, v19, v20, v21, v22, hk, rfl, rfl, rfl, rfl, rfl, rfl, KR2⟩ := hrel
                          have K2 := kept_trans KWQ KR2
                          have KW2 := kept_trans KW KR2
                          have y0 := kept_cell KW2 Y0.out; have y1 := kept_cell KW2 Y1.out; have q0 := kept_cell KW2 Q0.out; have q1 := kept_cell KW2 Q1.out; have q2 := kept_cell KW2 Q2.out; have q3 := kept_cell KW2 Q3.out
                          by_cases hkb : k < bn
                          · have c1 : decide ((k : Int) < (bn : Int)) = true := decide_eq_true (by omega)
                            have c2 : decide (k < bn) = true := decide_eq_true hkb
                            have C9' := Lib.hid (C9.out (k : Int))
                            have hch : chkE t (nn : Int) (k : Int) = 0 := by
                              unfold chkE
                              rw [if_pos HG.out.valid, if_pos (inB_iff.2 ⟨by omega, by have := HNT.out; omega, by omega, by rw [HB.out]; omega⟩)]
                            have HKB := Lib.hid hkb
                            cases ok : okF P M with
                            | false =>
                              have e1 : polE P M t (nn : Int) (k : Int) = 1 := by unfold polE; rw [ok]; rfl
                              have e2 : polO P M t (nn : Int) (k : Int) = [] := by unfold polO; rw [e1]; rfl
                              rw [e1, e2] at C9'
                              unfold Poly9Post at C9'
                              have C11' := Lib.hid fun w' => C11.out w'
                              rw [ok] at C11'
                              clear e1 e2 ok hch hkb
                              go_wp2_with (first
                                | (go_at_call 9; ((with_reducible refine (C9'.out _ K2).mono ?_); rintro e w5 ⟨A9, c9, rfl, hr9, k9⟩; replace KR2 := kept_trans KR2 k9; replace K2 := kept_trans K2 k9; replace y0 := kept_cell k9 y0; replace y1 := kept_cell k9 y1; replace q0 := kept_cell k9 q0; replace q1 := kept_cell k9 q1; replace q2 := kept_cell k9 q2; replace q3 := kept_cell k9 q3))
                                | (go_at_call 11; ((with_reducible refine (C11'.out _).mono ?_); rintro e w7 ⟨rfl, k11⟩; replace K2 := kept_trans K2 k11))
                                | (go_at_call 7; ((with_reducible refine (C7.out _ K2).mono ?_); rintro e w9 ⟨rfl, k9⟩; replace K2 := kept_trans K2 k9)))
                              go_ret
                              exact ⟨rfl, K2⟩
                            | true =>
                              have e1 : polE P M t (nn : Int) (k : Int) = 0 := by unfold polE; rw [ok, if_pos rfl]; exact hch
                              have em : (2 * t.b).toNat = m := by rw [HB.out]; have := HM.out; omega
                              have e2 : polO P M t (nn : Int) (k : Int) = mlT P M (tabB t nn k) m := by unfold polO; rw [if_pos e1, em]; rfl
                              have hml := ml_node (k := k) ok HG.out HNT.out HB.out HSV.out
                              have C20' := Lib.hid (C20.out k ok (atTo bn x1 x2 bn) (atTo_len _ _ _ _) atTo_in)
                              rw [Int.toNat_natCast, hml, atTo_len, ← HM.out] at C20'
                              rw [e1, e2] at C9'
                              unfold Poly9Post at C9'
                              obtain ⟨R, hR⟩ : ∃ R, R = mlT P M (tabB t nn k) m := ⟨_, rfl⟩
                              rw [← hR] at C9' C20'
                              obtain ⟨bv, hbv⟩ : ∃ b, b = v.testBit k := ⟨_, rfl⟩
                              have m5 := b_and2 (b := v) (by omega) k
                              rw [← hbv] at C20' m5
                              have nbv : (bitI bv != bitI bv) = false := by simp
                              clear e1 e2 em hml ok hch hkb hR hbv
                              go_wp2_with (first
                                | (go_at_call 9; ((with_reducible refine (C9'.out _ K2).mono ?_); rintro e w5 ⟨A9, c9, rfl, hr9, k9⟩; replace KR2 := kept_trans KR2 k9; replace K2 := kept_trans K2 k9; replace y0 := kept_cell k9 y0; replace y1 := kept_cell k9 y1; replace q0 := kept_cell k9 q0; replace q1 := kept_cell k9 q1; replace q2 := kept_cell k9 q2; replace q3 := kept_cell k9 q3))
                                | (go_at_call 20; ((with_reducible refine (C20'.out _ _ _ _ _ hr9 (atr.kept KR2)).mono ?_); rintro e w6 ⟨rfl, k10⟩; replace KR2 := kept_trans KR2 k10; replace K2 := kept_trans K2 k10; replace y0 := kept_cell k10 y0; replace y1 := kept_cell k10 y1; replace q0 := kept_cell k10 q0; replace q1 := kept_cell k10 q1; replace q2 := kept_cell k10 q2; replace q3 := kept_cell k10 q3)))
                              go_roundg (bn - (k + 1))
                              case rel => exact ⟨k + 1, _, _, _, _, by have := HKB.out; omega, rfl, by go_num, rfl, rfl, rfl, rfl, KR2⟩
                              case measure => have := HKB.out; omega
                          · obtain rfl : bn = k := by omega
                            have c1 : decide ((bn : Int) < (bn : Int)) = false := decide_eq_false (by omega)
                            have c2 : decide (bn < bn) = false := decide_eq_false (by omega)
                            go_wp2_with (go_at_call 7; ((with_reducible refine (C7.out _ K2).mono ?_); rintro e w9 ⟨rfl, k9⟩; replace K2 := kept_trans K2 k9))
                            go_ret
                            exact ⟨rfl, K2⟩
theorem law4_any (P M : Int) (t : Tr) (A : Option Addr) (c : Nat) (T : Option Addr) (d : Nat) (n : Int) (w : World) (hlib : LibOk w) (hA : Rd w A (ints t.lv)) (hT : RT w T t.tb) (hl : t.lv.length ≤ 140737488355328) (ht : t.tb.length ≤ 140737488355328) :
    Calls Tryz.prog 4 #[fV P M, trV t A c T d, .int .i64 n] w fun e w' => e = .returned (.bool true) ∧ Kept w w' := by
  cases hf : fewBW 10000 t with
  | false => exact law4_few P M t A c T d n w hlib hA hT hl ht hf
  | true =>
    by_cases h3 : 3 < t.b
    · exact law4_wide P M t A c T d n w hlib hA hT hl ht hf h3
    · cases hv : validT t with
      | false => exact law4_bad P M t A c T d n w hlib hA hT hl ht hf h3 hv
      | true => exact law4_main P M t A c T d n w hlib hA hT hl ht hf h3 hv
end Go.Proofs.YtikfeemmjfoffaaGreatDoor
