/- Trees: the law TreeTexts. -/
import Derived.Test.YtikfeemmjfoffaaDoorW20
set_option linter.unusedVariables false
set_option linter.unusedSimpArgs false
namespace Go.Proofs.YtikfeemmjfoffaaDoor
open Go.RowKit Go.Shelf

def trZ : Tr := ⟨0, 0, [], []⟩
set_option maxRecDepth 100000 in
set_option maxHeartbeats 1000000 in
theorem none14 (w : World) : Calls Tryd.prog 14 #[.agg #[.int .i64 0, .int .i64 0, .slice none 0 0, .slice none 0 0]] w fun e w' => e = .returned (.bool true) ∧ Kept w w' := by
  have C := Lib.hid fun (w' : World) => show Calls Tryd.prog 15 #[.agg #[.int .i64 0, .int .i64 0, .slice none 0 0, .slice none 0 0], .agg #[.int .i64 0, .int .i64 0, .slice none 0 0, .slice none 0 0]] w' fun e w'' => e = .returned (.bool true) ∧ Kept w' w'' from by
    have := same15_any trZ trZ none 0 none 0 none 0 none 0 w' (Rd.nil _ _) (fun j hj => absurd hj (by simp [trZ])) (Rd.nil _ _) (fun j hj => absurd hj (by simp [trZ])) (by simp [trZ]) (by simp [trZ])
    rw [decide_eq_true rfl] at this
    exact this
  go_enter Tryd.func14, Tryd.ntmps14
  go_wp2_with (go_at_call 15; ((with_reducible refine (C.out _).mono ?_); rintro e w1 ⟨rfl, k1⟩))
  go_ret
  exact ⟨rfl, kept_trans (kept_alloc (kept_refl w) _) k1⟩
theorem same15_same (t : Tr) (A : Option Addr) (c : Nat) (T : Option Addr) (d : Nat) (A' : Option Addr) (c' : Nat) (T' : Option Addr) (d' : Nat) (w : World) (g : Good t) (hA : Rd w A (ints t.lv)) (hT : RT w T t.tb) (hA' : Rd w A' (ints t.lv)) (hT' : RT w T' t.tb) :
    Calls Tryd.prog 15 #[trV t A c T d, trV t A' c' T' d'] w fun e w' => e = .returned (.bool true) ∧ Kept w w' := by
  have h63 := g.tb64; have h64 := g.lv64
  have := same15_any t t A c T d A' c' T' d' w hA hT hA' hT' (by omega) (by omega)
  rw [decide_eq_true rfl] at this
  exact this
theorem parse_good {s : List UInt8} {t : Tr} (h : parseR s = some t) : Good t := good_of (parseR_iff.1 h).1

set_option maxRecDepth 100000 in
set_option maxHeartbeats 1000000 in
theorem law3_bad_none (t : Tr) (A : Option Addr) (c : Nat) (T : Option Addr) (d : Nat) (s : ByteArray) (w : World) (hlib : LibOk w) (hA : Rd w A (ints t.lv)) (hT : RT w T t.tb) (hl : t.lv.length ≤ 140737488355328) (ht : t.tb.length ≤ 140737488355328) (hf : fewB 30000 t = true) (hs : s.size ≤ 41000) (hv : validT t = false) (hp : parseR s.data.toList = none) :
    Calls Tryd.prog 3 #[trV t A c T d, .string s] w fun e w' => e = .returned (.bool true) ∧ Kept w w' := by
  have o0 := Own.new w 25 [.int .i64 t.h, .int .i64 t.b, .slice A t.lv.length c, .slice T t.tb.length d]
  have KK := kept_alloc (kept_refl w) (.cells #[.int .i64 t.h, .int .i64 t.b, .slice A t.lv.length c, .slice T t.tb.length d] 25)
  have q0 := o0.cell (j := 0) rfl; have q1 := o0.cell (j := 1) rfl; have q2 := o0.cell (j := 2) rfl; have q3 := o0.cell (j := 3) rfl
  have C8 := Lib.hid fun (w' : World) (k : Kept w w') => alive8 w' (hlib.kept k)
  have C7 := Lib.hid fun (w' : World) (k : Kept w w') => few7_any 30000 (by omega) (by omega) t A c T d w' (hT.kept k) hl ht
  have C9 := Lib.hid fun (w' : World) (k : Kept w w') => rvalid9_any t.h t.b A c t.lv T d t.tb w' (hA.kept k) (hT.kept k) hl ht
  rw [hf] at C7
  rw [show validT ⟨t.h, t.b, t.lv, t.tb⟩ = false from hv] at C9
  have C11 := Lib.hid fun (w' : World) (k : Kept w w') => show Calls Tryd.prog 11 #[trV t A c T d] w' fun e w'' => e = .returned (.tuple #[.string ⟨#[]⟩, .int .i64 1]) ∧ Kept w' w'' from by
    have := text11_any t A c T d w' (hA.kept k) (hT.kept k) hl ht
    unfold TextPost at this
    simp only [hv, Bool.false_eq_true, if_false] at this
    exact this
  have hpp : parseP s.data.toList = parseR s.data.toList := parse_same _
  have ds : decide ((41000 : Int) < (s.size : Int)) = false := decide_eq_false (by omega)
  have ds' : decide (41000 < s.size) = false := decide_eq_false (by omega)
  have C12 := Lib.hid fun (w' : World) (k : Kept w w') => show Calls Tryd.prog 12 #[.string s] w' fun e w'' => (∃ h b A n c T m d, e = .returned (.tuple #[.agg #[.int .i64 h, .int .i64 b, .slice A n c, .slice T m d], .bool false])) ∧ Kept w' w'' from by
    have := rparse12_any s hs w'
    unfold RParsePost at this
    rw [hp] at this
    exact this
  have C13 := Lib.hid fun (w' : World) (k : Kept w w') => show Calls Tryd.prog 13 #[.string s] w' fun e w'' => e = .returned (.tuple #[.agg #[.int .i64 0, .int .i64 0, .slice none 0 0, .slice none 0 0], .int .i64 3]) ∧ Kept w' w'' from by
    have := parse13_all s w' (hlib.kept k)
    unfold PParsePost at this
    rw [hpp, hp] at this
    exact this
  clear hA hT hlib hf hv hp hpp hs
  go_enter Tryd.func3, Tryd.ntmps3
  go_wp2_with (first | (go_at_call 7; ((with_reducible refine (C7.out _ KK).mono ?_); rintro e w1 ⟨rfl, k1⟩; replace KK := kept_trans KK k1; replace q0 := kept_cell k1 q0; replace q1 := kept_cell k1 q1; replace q2 := kept_cell k1 q2; replace q3 := kept_cell k1 q3; clear k1)) | (go_at_call 9; ((with_reducible refine (C9.out _ KK).mono ?_); rintro e w1 ⟨rfl, k1⟩; replace KK := kept_trans KK k1; replace q0 := kept_cell k1 q0; replace q1 := kept_cell k1 q1; replace q2 := kept_cell k1 q2; replace q3 := kept_cell k1 q3; clear k1)) | (go_at_call 11; ((with_reducible refine (C11.out _ KK).mono ?_); rintro e w1 ⟨rfl, k1⟩; replace KK := kept_trans KK k1; replace q0 := kept_cell k1 q0; replace q1 := kept_cell k1 q1; replace q2 := kept_cell k1 q2; replace q3 := kept_cell k1 q3; clear k1)) | (go_at_call 12; ((with_reducible refine (C12.out _ KK).mono ?_); rintro e w1 ⟨⟨h2, b2, A2, n2, c2, T2, m2, d2, rfl⟩, k1⟩; replace KK := kept_alloc (kept_trans KK k1) (.cells #[.int .i64 h2, .int .i64 b2, .slice A2 n2 c2, .slice T2 m2 d2] 25); clear q0 q1 q2 q3 k1)) | (go_at_call 13; ((with_reducible refine (C13.out _ KK).mono ?_); rintro e w1 ⟨rfl, k1⟩; replace KK := kept_alloc (kept_trans KK k1) (.cells #[.int .i64 0, .int .i64 0, .slice none 0 0, .slice none 0 0] 25); clear k1)) | (go_at_call 14; ((with_reducible refine (none14 _).mono ?_); rintro e w1 ⟨rfl, k1⟩; replace KK := kept_trans KK k1; clear k1)) | (go_at_call 8; ((with_reducible refine (C8.out _ KK).mono ?_); rintro e w1 ⟨rfl, k1⟩; replace KK := kept_trans KK k1; clear k1)))
  go_ret
  exact ⟨rfl, KK⟩

set_option maxRecDepth 100000 in
set_option maxHeartbeats 1000000 in
theorem law3_bad_some (t : Tr) (A : Option Addr) (c : Nat) (T : Option Addr) (d : Nat) (s : ByteArray) (w : World) (hlib : LibOk w) (hA : Rd w A (ints t.lv)) (hT : RT w T t.tb) (hl : t.lv.length ≤ 140737488355328) (ht : t.tb.length ≤ 140737488355328) (hf : fewB 30000 t = true) (hs : s.size ≤ 41000) (hv : validT t = false) (t2 : Tr) (hp : parseR s.data.toList = some t2) :
    Calls Tryd.prog 3 #[trV t A c T d, .string s] w fun e w' => e = .returned (.bool true) ∧ Kept w w' := by
  have o0 := Own.new w 25 [.int .i64 t.h, .int .i64 t.b, .slice A t.lv.length c, .slice T t.tb.length d]
  have KK := kept_alloc (kept_refl w) (.cells #[.int .i64 t.h, .int .i64 t.b, .slice A t.lv.length c, .slice T t.tb.length d] 25)
  have q0 := o0.cell (j := 0) rfl; have q1 := o0.cell (j := 1) rfl; have q2 := o0.cell (j := 2) rfl; have q3 := o0.cell (j := 3) rfl
  have C8 := Lib.hid fun (w' : World) (k : Kept w w') => alive8 w' (hlib.kept k)
  have C7 := Lib.hid fun (w' : World) (k : Kept w w') => few7_any 30000 (by omega) (by omega) t A c T d w' (hT.kept k) hl ht
  have C9 := Lib.hid fun (w' : World) (k : Kept w w') => rvalid9_any t.h t.b A c t.lv T d t.tb w' (hA.kept k) (hT.kept k) hl ht
  rw [hf] at C7
  rw [show validT ⟨t.h, t.b, t.lv, t.tb⟩ = false from hv] at C9
  have C11 := Lib.hid fun (w' : World) (k : Kept w w') => show Calls Tryd.prog 11 #[trV t A c T d] w' fun e w'' => e = .returned (.tuple #[.string ⟨#[]⟩, .int .i64 1]) ∧ Kept w' w'' from by
    have := text11_any t A c T d w' (hA.kept k) (hT.kept k) hl ht
    unfold TextPost at this
    simp only [hv, Bool.false_eq_true, if_false] at this
    exact this
  have hpp : parseP s.data.toList = parseR s.data.toList := parse_same _
  have ds : decide ((41000 : Int) < (s.size : Int)) = false := decide_eq_false (by omega)
  have ds' : decide (41000 < s.size) = false := decide_eq_false (by omega)
  have C12 := Lib.hid fun (w' : World) (k : Kept w w') => show Calls Tryd.prog 12 #[.string s] w' fun e w'' => ∃ A c T d, e = .returned (.tuple #[trV t2 A c T d, .bool true]) ∧ Rd w'' A (ints t2.lv) ∧ RT w'' T t2.tb ∧ Kept w' w'' from by
    have := rparse12_any s hs w'
    unfold RParsePost at this
    rw [hp] at this
    exact this
  have C13 := Lib.hid fun (w' : World) (k : Kept w w') => show Calls Tryd.prog 13 #[.string s] w' fun e w'' => ∃ A c T d, e = .returned (.tuple #[trV t2 A c T d, .int .i64 0]) ∧ Rd w'' A (ints t2.lv) ∧ RT w'' T t2.tb ∧ Kept w' w'' from by
    have := parse13_all s w' (hlib.kept k)
    unfold PParsePost at this
    rw [hpp, hp] at this
    exact this
  have g2 := parse_good hp
  have C15 := Lib.hid fun (A : Option Addr) (c : Nat) (T : Option Addr) (d : Nat) (A' : Option Addr) (c' : Nat) (T' : Option Addr) (d' : Nat) (w' : World) (h1 : Rd w' A (ints t2.lv)) (h2 : RT w' T t2.tb) (h3 : Rd w' A' (ints t2.lv)) (h4 : RT w' T' t2.tb) => same15_same t2 A c T d A' c' T' d' w' g2 h1 h2 h3 h4
  clear hA hT hlib hf hv hp hpp hs g2
  go_enter Tryd.func3, Tryd.ntmps3
  go_wp2_with (first | (go_at_call 7; ((with_reducible refine (C7.out _ KK).mono ?_); rintro e w1 ⟨rfl, k1⟩; replace KK := kept_trans KK k1; replace q0 := kept_cell k1 q0; replace q1 := kept_cell k1 q1; replace q2 := kept_cell k1 q2; replace q3 := kept_cell k1 q3; clear k1)) | (go_at_call 9; ((with_reducible refine (C9.out _ KK).mono ?_); rintro e w1 ⟨rfl, k1⟩; replace KK := kept_trans KK k1; replace q0 := kept_cell k1 q0; replace q1 := kept_cell k1 q1; replace q2 := kept_cell k1 q2; replace q3 := kept_cell k1 q3; clear k1)) | (go_at_call 11; ((with_reducible refine (C11.out _ KK).mono ?_); rintro e w1 ⟨rfl, k1⟩; replace KK := kept_trans KK k1; replace q0 := kept_cell k1 q0; replace q1 := kept_cell k1 q1; replace q2 := kept_cell k1 q2; replace q3 := kept_cell k1 q3; clear k1)) | (go_at_call 12; ((with_reducible refine (C12.out _ KK).mono ?_); rintro e w1 ⟨A2, c2, T2, d2, rfl, r2, rt2, k1⟩; replace KK := kept_alloc (kept_trans KK k1) (.cells #[.int .i64 t2.h, .int .i64 t2.b, .slice A2 t2.lv.length c2, .slice T2 t2.tb.length d2] 25); replace r2 := r2.kept (kept_alloc (kept_refl w1) (.cells #[.int .i64 t2.h, .int .i64 t2.b, .slice A2 t2.lv.length c2, .slice T2 t2.tb.length d2] 25)); replace rt2 := rt2.kept (kept_alloc (kept_refl w1) (.cells #[.int .i64 t2.h, .int .i64 t2.b, .slice A2 t2.lv.length c2, .slice T2 t2.tb.length d2] 25)); have od := Own.new w1 25 [.int .i64 t2.h, .int .i64 t2.b, .slice A2 t2.lv.length c2, .slice T2 t2.tb.length d2]; clear q0 q1 q2 q3 k1)) | (go_at_call 13; ((with_reducible refine (C13.out _ KK).mono ?_); rintro e w2 ⟨A3, c3, T3, d3, rfl, r3, rt3, k1⟩; replace KK := kept_alloc (kept_trans KK k1) (.cells #[.int .i64 t2.h, .int .i64 t2.b, .slice A3 t2.lv.length c3, .slice T3 t2.tb.length d3] 25); replace r2 := r2.kept (kept_alloc k1 (.cells #[.int .i64 t2.h, .int .i64 t2.b, .slice A3 t2.lv.length c3, .slice T3 t2.tb.length d3] 25)); replace rt2 := rt2.kept (kept_alloc k1 (.cells #[.int .i64 t2.h, .int .i64 t2.b, .slice A3 t2.lv.length c3, .slice T3 t2.tb.length d3] 25)); replace r3 := r3.kept (kept_alloc (kept_refl w2) (.cells #[.int .i64 t2.h, .int .i64 t2.b, .slice A3 t2.lv.length c3, .slice T3 t2.tb.length d3] 25)); replace rt3 := rt3.kept (kept_alloc (kept_refl w2) (.cells #[.int .i64 t2.h, .int .i64 t2.b, .slice A3 t2.lv.length c3, .slice T3 t2.tb.length d3] 25)); replace od := od.kept (kept_alloc k1 (.cells #[.int .i64 t2.h, .int .i64 t2.b, .slice A3 t2.lv.length c3, .slice T3 t2.tb.length d3] 25)); have z0 := od.cell (j := 0) rfl; have z1 := od.cell (j := 1) rfl; have z2 := od.cell (j := 2) rfl; have z3 := od.cell (j := 3) rfl; clear k1)) | (go_at_call 15; ((with_reducible refine (C15.out _ _ _ _ _ _ _ _ _ r3 rt3 r2 rt2).mono ?_); rintro e w1 ⟨rfl, k1⟩; replace KK := kept_trans KK k1; clear k1)) | (go_at_call 8; ((with_reducible refine (C8.out _ KK).mono ?_); rintro e w1 ⟨rfl, k1⟩; replace KK := kept_trans KK k1; clear k1)))
  go_ret
  exact ⟨rfl, KK⟩

set_option maxRecDepth 100000 in
set_option maxHeartbeats 1000000 in
theorem law3_big_none (t : Tr) (A : Option Addr) (c : Nat) (T : Option Addr) (d : Nat) (s : ByteArray) (w : World) (hlib : LibOk w) (hA : Rd w A (ints t.lv)) (hT : RT w T t.tb) (hl : t.lv.length ≤ 140737488355328) (ht : t.tb.length ≤ 140737488355328) (hf : fewB 30000 t = true) (hs : s.size ≤ 41000) (hv : validT t = true) (hb : ¬ (textT t).length ≤ 40000) (hp : parseR s.data.toList = none) :
    Calls Tryd.prog 3 #[trV t A c T d, .string s] w fun e w' => e = .returned (.bool true) ∧ Kept w w' := by
  have o0 := Own.new w 25 [.int .i64 t.h, .int .i64 t.b, .slice A t.lv.length c, .slice T t.tb.length d]
  have KK := kept_alloc (kept_refl w) (.cells #[.int .i64 t.h, .int .i64 t.b, .slice A t.lv.length c, .slice T t.tb.length d] 25)
  have q0 := o0.cell (j := 0) rfl; have q1 := o0.cell (j := 1) rfl; have q2 := o0.cell (j := 2) rfl; have q3 := o0.cell (j := 3) rfl
  have C8 := Lib.hid fun (w' : World) (k : Kept w w') => alive8 w' (hlib.kept k)
  have C7 := Lib.hid fun (w' : World) (k : Kept w w') => few7_any 30000 (by omega) (by omega) t A c T d w' (hT.kept k) hl ht
  have C9 := Lib.hid fun (w' : World) (k : Kept w w') => rvalid9_any t.h t.b A c t.lv T d t.tb w' (hA.kept k) (hT.kept k) hl ht
  rw [hf] at C7
  rw [show validT ⟨t.h, t.b, t.lv, t.tb⟩ = true from hv] at C9
  have g := good_of hv
  obtain ⟨S, hS⟩ : ∃ S : ByteArray, S = ⟨(textT t).toArray⟩ := ⟨_, rfl⟩
  have hSz : S.size = (textT t).length := by rw [hS]; rfl
  have C10 := Lib.hid fun (w' : World) (k : Kept w w') => show Calls Tryd.prog 10 #[trV t A c T d] w' fun e w'' => e = .returned (.string S) ∧ Kept w' w'' from by rw [hS]; exact rtext10_any t g A c T d w' (hA.kept k) (hT.kept k)
  have C11 := Lib.hid fun (w' : World) (k : Kept w w') => show Calls Tryd.prog 11 #[trV t A c T d] w' fun e w'' => e = .returned (.tuple #[.string ⟨#[]⟩, .int .i64 5]) ∧ Kept w' w'' from by
    have := text11_any t A c T d w' (hA.kept k) (hT.kept k) hl ht
    unfold TextPost at this
    simp only [hv, if_true, if_neg hb] at this
    exact this
  have dS : decide ((40000 : Int) < (S.size : Int)) = true := decide_eq_true (by rw [hSz]; omega)
  have dS' : decide (40000 < S.size) = true := decide_eq_true (by rw [hSz]; omega)
  clear hS hSz g hb
  have hpp : parseP s.data.toList = parseR s.data.toList := parse_same _
  have ds : decide ((41000 : Int) < (s.size : Int)) = false := decide_eq_false (by omega)
  have ds' : decide (41000 < s.size) = false := decide_eq_false (by omega)
  have C12 := Lib.hid fun (w' : World) (k : Kept w w') => show Calls Tryd.prog 12 #[.string s] w' fun e w'' => (∃ h b A n c T m d, e = .returned (.tuple #[.agg #[.int .i64 h, .int .i64 b, .slice A n c, .slice T m d], .bool false])) ∧ Kept w' w'' from by
    have := rparse12_any s hs w'
    unfold RParsePost at this
    rw [hp] at this
    exact this
  have C13 := Lib.hid fun (w' : World) (k : Kept w w') => show Calls Tryd.prog 13 #[.string s] w' fun e w'' => e = .returned (.tuple #[.agg #[.int .i64 0, .int .i64 0, .slice none 0 0, .slice none 0 0], .int .i64 3]) ∧ Kept w' w'' from by
    have := parse13_all s w' (hlib.kept k)
    unfold PParsePost at this
    rw [hpp, hp] at this
    exact this
  clear hA hT hlib hf hv hp hpp hs
  go_enter Tryd.func3, Tryd.ntmps3
  go_wp2_with (first | (go_at_call 7; ((with_reducible refine (C7.out _ KK).mono ?_); rintro e w1 ⟨rfl, k1⟩; replace KK := kept_trans KK k1; replace q0 := kept_cell k1 q0; replace q1 := kept_cell k1 q1; replace q2 := kept_cell k1 q2; replace q3 := kept_cell k1 q3; clear k1)) | (go_at_call 9; ((with_reducible refine (C9.out _ KK).mono ?_); rintro e w1 ⟨rfl, k1⟩; replace KK := kept_trans KK k1; replace q0 := kept_cell k1 q0; replace q1 := kept_cell k1 q1; replace q2 := kept_cell k1 q2; replace q3 := kept_cell k1 q3; clear k1)) | (go_at_call 10; ((with_reducible refine (C10.out _ KK).mono ?_); rintro e w1 ⟨rfl, k1⟩; replace KK := kept_trans KK k1; replace q0 := kept_cell k1 q0; replace q1 := kept_cell k1 q1; replace q2 := kept_cell k1 q2; replace q3 := kept_cell k1 q3; clear k1)) | (go_at_call 11; ((with_reducible refine (C11.out _ KK).mono ?_); rintro e w1 ⟨rfl, k1⟩; replace KK := kept_trans KK k1; replace q0 := kept_cell k1 q0; replace q1 := kept_cell k1 q1; replace q2 := kept_cell k1 q2; replace q3 := kept_cell k1 q3; clear k1)) | (go_at_call 12; ((with_reducible refine (C12.out _ KK).mono ?_); rintro e w1 ⟨⟨h2, b2, A2, n2, c2, T2, m2, d2, rfl⟩, k1⟩; replace KK := kept_alloc (kept_trans KK k1) (.cells #[.int .i64 h2, .int .i64 b2, .slice A2 n2 c2, .slice T2 m2 d2] 25); clear q0 q1 q2 q3 k1)) | (go_at_call 13; ((with_reducible refine (C13.out _ KK).mono ?_); rintro e w1 ⟨rfl, k1⟩; replace KK := kept_alloc (kept_trans KK k1) (.cells #[.int .i64 0, .int .i64 0, .slice none 0 0, .slice none 0 0] 25); clear k1)) | (go_at_call 14; ((with_reducible refine (none14 _).mono ?_); rintro e w1 ⟨rfl, k1⟩; replace KK := kept_trans KK k1; clear k1)) | (go_at_call 8; ((with_reducible refine (C8.out _ KK).mono ?_); rintro e w1 ⟨rfl, k1⟩; replace KK := kept_trans KK k1; clear k1)))
  go_ret
  exact ⟨rfl, KK⟩

set_option maxRecDepth 100000 in
set_option maxHeartbeats 1000000 in
theorem law3_big_some (t : Tr) (A : Option Addr) (c : Nat) (T : Option Addr) (d : Nat) (s : ByteArray) (w : World) (hlib : LibOk w) (hA : Rd w A (ints t.lv)) (hT : RT w T t.tb) (hl : t.lv.length ≤ 140737488355328) (ht : t.tb.length ≤ 140737488355328) (hf : fewB 30000 t = true) (hs : s.size ≤ 41000) (hv : validT t = true) (hb : ¬ (textT t).length ≤ 40000) (t2 : Tr) (hp : parseR s.data.toList = some t2) :
    Calls Tryd.prog 3 #[trV t A c T d, .string s] w fun e w' => e = .returned (.bool true) ∧ Kept w w' := by
  have o0 := Own.new w 25 [.int .i64 t.h, .int .i64 t.b, .slice A t.lv.length c, .slice T t.tb.length d]
  have KK := kept_alloc (kept_refl w) (.cells #[.int .i64 t.h, .int .i64 t.b, .slice A t.lv.length c, .slice T t.tb.length d] 25)
  have q0 := o0.cell (j := 0) rfl; have q1 := o0.cell (j := 1) rfl; have q2 := o0.cell (j := 2) rfl; have q3 := o0.cell (j := 3) rfl
  have C8 := Lib.hid fun (w' : World) (k : Kept w w') => alive8 w' (hlib.kept k)
  have C7 := Lib.hid fun (w' : World) (k : Kept w w') => few7_any 30000 (by omega) (by omega) t A c T d w' (hT.kept k) hl ht
  have C9 := Lib.hid fun (w' : World) (k : Kept w w') => rvalid9_any t.h t.b A c t.lv T d t.tb w' (hA.kept k) (hT.kept k) hl ht
  rw [hf] at C7
  rw [show validT ⟨t.h, t.b, t.lv, t.tb⟩ = true from hv] at C9
  have g := good_of hv
  obtain ⟨S, hS⟩ : ∃ S : ByteArray, S = ⟨(textT t).toArray⟩ := ⟨_, rfl⟩
  have hSz : S.size = (textT t).length := by rw [hS]; rfl
  have C10 := Lib.hid fun (w' : World) (k : Kept w w') => show Calls Tryd.prog 10 #[trV t A c T d] w' fun e w'' => e = .returned (.string S) ∧ Kept w' w'' from by rw [hS]; exact rtext10_any t g A c T d w' (hA.kept k) (hT.kept k)
  have C11 := Lib.hid fun (w' : World) (k : Kept w w') => show Calls Tryd.prog 11 #[trV t A c T d] w' fun e w'' => e = .returned (.tuple #[.string ⟨#[]⟩, .int .i64 5]) ∧ Kept w' w'' from by
    have := text11_any t A c T d w' (hA.kept k) (hT.kept k) hl ht
    unfold TextPost at this
    simp only [hv, if_true, if_neg hb] at this
    exact this
  have dS : decide ((40000 : Int) < (S.size : Int)) = true := decide_eq_true (by rw [hSz]; omega)
  have dS' : decide (40000 < S.size) = true := decide_eq_true (by rw [hSz]; omega)
  clear hS hSz g hb
  have hpp : parseP s.data.toList = parseR s.data.toList := parse_same _
  have ds : decide ((41000 : Int) < (s.size : Int)) = false := decide_eq_false (by omega)
  have ds' : decide (41000 < s.size) = false := decide_eq_false (by omega)
  have C12 := Lib.hid fun (w' : World) (k : Kept w w') => show Calls Tryd.prog 12 #[.string s] w' fun e w'' => ∃ A c T d, e = .returned (.tuple #[trV t2 A c T d, .bool true]) ∧ Rd w'' A (ints t2.lv) ∧ RT w'' T t2.tb ∧ Kept w' w'' from by
    have := rparse12_any s hs w'
    unfold RParsePost at this
    rw [hp] at this
    exact this
  have C13 := Lib.hid fun (w' : World) (k : Kept w w') => show Calls Tryd.prog 13 #[.string s] w' fun e w'' => ∃ A c T d, e = .returned (.tuple #[trV t2 A c T d, .int .i64 0]) ∧ Rd w'' A (ints t2.lv) ∧ RT w'' T t2.tb ∧ Kept w' w'' from by
    have := parse13_all s w' (hlib.kept k)
    unfold PParsePost at this
    rw [hpp, hp] at this
    exact this
  have g2 := parse_good hp
  have C15 := Lib.hid fun (A : Option Addr) (c : Nat) (T : Option Addr) (d : Nat) (A' : Option Addr) (c' : Nat) (T' : Option Addr) (d' : Nat) (w' : World) (h1 : Rd w' A (ints t2.lv)) (h2 : RT w' T t2.tb) (h3 : Rd w' A' (ints t2.lv)) (h4 : RT w' T' t2.tb) => same15_same t2 A c T d A' c' T' d' w' g2 h1 h2 h3 h4
  clear hA hT hlib hf hv hp hpp hs g2
  go_enter Tryd.func3, Tryd.ntmps3
  go_wp2_with (first | (go_at_call 7; ((with_reducible refine (C7.out _ KK).mono ?_); rintro e w1 ⟨rfl, k1⟩; replace KK := kept_trans KK k1; replace q0 := kept_cell k1 q0; replace q1 := kept_cell k1 q1; replace q2 := kept_cell k1 q2; replace q3 := kept_cell k1 q3; clear k1)) | (go_at_call 9; ((with_reducible refine (C9.out _ KK).mono ?_); rintro e w1 ⟨rfl, k1⟩; replace KK := kept_trans KK k1; replace q0 := kept_cell k1 q0; replace q1 := kept_cell k1 q1; replace q2 := kept_cell k1 q2; replace q3 := kept_cell k1 q3; clear k1)) | (go_at_call 10; ((with_reducible refine (C10.out _ KK).mono ?_); rintro e w1 ⟨rfl, k1⟩; replace KK := kept_trans KK k1; replace q0 := kept_cell k1 q0; replace q1 := kept_cell k1 q1; replace q2 := kept_cell k1 q2; replace q3 := kept_cell k1 q3; clear k1)) | (go_at_call 11; ((with_reducible refine (C11.out _ KK).mono ?_); rintro e w1 ⟨rfl, k1⟩; replace KK := kept_trans KK k1; replace q0 := kept_cell k1 q0; replace q1 := kept_cell k1 q1; replace q2 := kept_cell k1 q2; replace q3 := kept_cell k1 q3; clear k1)) | (go_at_call 12; ((with_reducible refine (C12.out _ KK).mono ?_); rintro e w1 ⟨A2, c2, T2, d2, rfl, r2, rt2, k1⟩; replace KK := kept_alloc (kept_trans KK k1) (.cells #[.int .i64 t2.h, .int .i64 t2.b, .slice A2 t2.lv.length c2, .slice T2 t2.tb.length d2] 25); replace r2 := r2.kept (kept_alloc (kept_refl w1) (.cells #[.int .i64 t2.h, .int .i64 t2.b, .slice A2 t2.lv.length c2, .slice T2 t2.tb.length d2] 25)); replace rt2 := rt2.kept (kept_alloc (kept_refl w1) (.cells #[.int .i64 t2.h, .int .i64 t2.b, .slice A2 t2.lv.length c2, .slice T2 t2.tb.length d2] 25)); have od := Own.new w1 25 [.int .i64 t2.h, .int .i64 t2.b, .slice A2 t2.lv.length c2, .slice T2 t2.tb.length d2]; clear q0 q1 q2 q3 k1)) | (go_at_call 13; ((with_reducible refine (C13.out _ KK).mono ?_); rintro e w2 ⟨A3, c3, T3, d3, rfl, r3, rt3, k1⟩; replace KK := kept_alloc (kept_trans KK k1) (.cells #[.int .i64 t2.h, .int .i64 t2.b, .slice A3 t2.lv.length c3, .slice T3 t2.tb.length d3] 25); replace r2 := r2.kept (kept_alloc k1 (.cells #[.int .i64 t2.h, .int .i64 t2.b, .slice A3 t2.lv.length c3, .slice T3 t2.tb.length d3] 25)); replace rt2 := rt2.kept (kept_alloc k1 (.cells #[.int .i64 t2.h, .int .i64 t2.b, .slice A3 t2.lv.length c3, .slice T3 t2.tb.length d3] 25)); replace r3 := r3.kept (kept_alloc (kept_refl w2) (.cells #[.int .i64 t2.h, .int .i64 t2.b, .slice A3 t2.lv.length c3, .slice T3 t2.tb.length d3] 25)); replace rt3 := rt3.kept (kept_alloc (kept_refl w2) (.cells #[.int .i64 t2.h, .int .i64 t2.b, .slice A3 t2.lv.length c3, .slice T3 t2.tb.length d3] 25)); replace od := od.kept (kept_alloc k1 (.cells #[.int .i64 t2.h, .int .i64 t2.b, .slice A3 t2.lv.length c3, .slice T3 t2.tb.length d3] 25)); have z0 := od.cell (j := 0) rfl; have z1 := od.cell (j := 1) rfl; have z2 := od.cell (j := 2) rfl; have z3 := od.cell (j := 3) rfl; clear k1)) | (go_at_call 15; ((with_reducible refine (C15.out _ _ _ _ _ _ _ _ _ r3 rt3 r2 rt2).mono ?_); rintro e w1 ⟨rfl, k1⟩; replace KK := kept_trans KK k1; clear k1)) | (go_at_call 8; ((with_reducible refine (C8.out _ KK).mono ?_); rintro e w1 ⟨rfl, k1⟩; replace KK := kept_trans KK k1; clear k1)))
  go_ret
  exact ⟨rfl, KK⟩

set_option maxRecDepth 100000 in
set_option maxHeartbeats 1000000 in
theorem law3_fit_none (t : Tr) (A : Option Addr) (c : Nat) (T : Option Addr) (d : Nat) (s : ByteArray) (w : World) (hlib : LibOk w) (hA : Rd w A (ints t.lv)) (hT : RT w T t.tb) (hl : t.lv.length ≤ 140737488355328) (ht : t.tb.length ≤ 140737488355328) (hf : fewB 30000 t = true) (hs : s.size ≤ 41000) (hv : validT t = true) (hb : (textT t).length ≤ 40000) (hp : parseR s.data.toList = none) :
    Calls Tryd.prog 3 #[trV t A c T d, .string s] w fun e w' => e = .returned (.bool true) ∧ Kept w w' := by
  have o0 := Own.new w 25 [.int .i64 t.h, .int .i64 t.b, .slice A t.lv.length c, .slice T t.tb.length d]
  have KK := kept_alloc (kept_refl w) (.cells #[.int .i64 t.h, .int .i64 t.b, .slice A t.lv.length c, .slice T t.tb.length d] 25)
  have q0 := o0.cell (j := 0) rfl; have q1 := o0.cell (j := 1) rfl; have q2 := o0.cell (j := 2) rfl; have q3 := o0.cell (j := 3) rfl
  have C8 := Lib.hid fun (w' : World) (k : Kept w w') => alive8 w' (hlib.kept k)
  have C7 := Lib.hid fun (w' : World) (k : Kept w w') => few7_any 30000 (by omega) (by omega) t A c T d w' (hT.kept k) hl ht
  have C9 := Lib.hid fun (w' : World) (k : Kept w w') => rvalid9_any t.h t.b A c t.lv T d t.tb w' (hA.kept k) (hT.kept k) hl ht
  rw [hf] at C7
  rw [show validT ⟨t.h, t.b, t.lv, t.tb⟩ = true from hv] at C9
  have g := good_of hv
  obtain ⟨S, hS⟩ : ∃ S : ByteArray, S = ⟨(textT t).toArray⟩ := ⟨_, rfl⟩
  have hSz : S.size = (textT t).length := by rw [hS]; rfl
  have C10 := Lib.hid fun (w' : World) (k : Kept w w') => show Calls Tryd.prog 10 #[trV t A c T d] w' fun e w'' => e = .returned (.string S) ∧ Kept w' w'' from by rw [hS]; exact rtext10_any t g A c T d w' (hA.kept k) (hT.kept k)
  have C11 := Lib.hid fun (w' : World) (k : Kept w w') => show Calls Tryd.prog 11 #[trV t A c T d] w' fun e w'' => e = .returned (.tuple #[.string S, .int .i64 0]) ∧ Kept w' w'' from by
    have := text11_any t A c T d w' (hA.kept k) (hT.kept k) hl ht
    unfold TextPost at this
    simp only [hv, if_true, if_pos hb] at this
    rw [hS]
    exact this
  have dS : decide ((40000 : Int) < (S.size : Int)) = false := decide_eq_false (by rw [hSz]; omega)
  have dS' : decide (40000 < S.size) = false := decide_eq_false (by rw [hSz]; omega)
  clear hS hSz g hb
  have hpp : parseP s.data.toList = parseR s.data.toList := parse_same _
  have ds : decide ((41000 : Int) < (s.size : Int)) = false := decide_eq_false (by omega)
  have ds' : decide (41000 < s.size) = false := decide_eq_false (by omega)
  have C12 := Lib.hid fun (w' : World) (k : Kept w w') => show Calls Tryd.prog 12 #[.string s] w' fun e w'' => (∃ h b A n c T m d, e = .returned (.tuple #[.agg #[.int .i64 h, .int .i64 b, .slice A n c, .slice T m d], .bool false])) ∧ Kept w' w'' from by
    have := rparse12_any s hs w'
    unfold RParsePost at this
    rw [hp] at this
    exact this
  have C13 := Lib.hid fun (w' : World) (k : Kept w w') => show Calls Tryd.prog 13 #[.string s] w' fun e w'' => e = .returned (.tuple #[.agg #[.int .i64 0, .int .i64 0, .slice none 0 0, .slice none 0 0], .int .i64 3]) ∧ Kept w' w'' from by
    have := parse13_all s w' (hlib.kept k)
    unfold PParsePost at this
    rw [hpp, hp] at this
    exact this
  clear hA hT hlib hf hv hp hpp hs
  go_enter Tryd.func3, Tryd.ntmps3
  go_wp2_with (first | (go_at_call 7; ((with_reducible refine (C7.out _ KK).mono ?_); rintro e w1 ⟨rfl, k1⟩; replace KK := kept_trans KK k1; replace q0 := kept_cell k1 q0; replace q1 := kept_cell k1 q1; replace q2 := kept_cell k1 q2; replace q3 := kept_cell k1 q3; clear k1)) | (go_at_call 9; ((with_reducible refine (C9.out _ KK).mono ?_); rintro e w1 ⟨rfl, k1⟩; replace KK := kept_trans KK k1; replace q0 := kept_cell k1 q0; replace q1 := kept_cell k1 q1; replace q2 := kept_cell k1 q2; replace q3 := kept_cell k1 q3; clear k1)) | (go_at_call 10; ((with_reducible refine (C10.out _ KK).mono ?_); rintro e w1 ⟨rfl, k1⟩; replace KK := kept_trans KK k1; replace q0 := kept_cell k1 q0; replace q1 := kept_cell k1 q1; replace q2 := kept_cell k1 q2; replace q3 := kept_cell k1 q3; clear k1)) | (go_at_call 11; ((with_reducible refine (C11.out _ KK).mono ?_); rintro e w1 ⟨rfl, k1⟩; replace KK := kept_trans KK k1; replace q0 := kept_cell k1 q0; replace q1 := kept_cell k1 q1; replace q2 := kept_cell k1 q2; replace q3 := kept_cell k1 q3; clear k1)) | (go_at_call 12; ((with_reducible refine (C12.out _ KK).mono ?_); rintro e w1 ⟨⟨h2, b2, A2, n2, c2, T2, m2, d2, rfl⟩, k1⟩; replace KK := kept_alloc (kept_trans KK k1) (.cells #[.int .i64 h2, .int .i64 b2, .slice A2 n2 c2, .slice T2 m2 d2] 25); clear q0 q1 q2 q3 k1)) | (go_at_call 13; ((with_reducible refine (C13.out _ KK).mono ?_); rintro e w1 ⟨rfl, k1⟩; replace KK := kept_alloc (kept_trans KK k1) (.cells #[.int .i64 0, .int .i64 0, .slice none 0 0, .slice none 0 0] 25); clear k1)) | (go_at_call 14; ((with_reducible refine (none14 _).mono ?_); rintro e w1 ⟨rfl, k1⟩; replace KK := kept_trans KK k1; clear k1)) | (go_at_call 8; ((with_reducible refine (C8.out _ KK).mono ?_); rintro e w1 ⟨rfl, k1⟩; replace KK := kept_trans KK k1; clear k1)))
  go_ret
  exact ⟨rfl, KK⟩

set_option maxRecDepth 100000 in
set_option maxHeartbeats 1000000 in
theorem law3_fit_some (t : Tr) (A : Option Addr) (c : Nat) (T : Option Addr) (d : Nat) (s : ByteArray) (w : World) (hlib : LibOk w) (hA : Rd w A (ints t.lv)) (hT : RT w T t.tb) (hl : t.lv.length ≤ 140737488355328) (ht : t.tb.length ≤ 140737488355328) (hf : fewB 30000 t = true) (hs : s.size ≤ 41000) (hv : validT t = true) (hb : (textT t).length ≤ 40000) (t2 : Tr) (hp : parseR s.data.toList = some t2) :
    Calls Tryd.prog 3 #[trV t A c T d, .string s] w fun e w' => e = .returned (.bool true) ∧ Kept w w' := by
  have o0 := Own.new w 25 [.int .i64 t.h, .int .i64 t.b, .slice A t.lv.length c, .slice T t.tb.length d]
  have KK := kept_alloc (kept_refl w) (.cells #[.int .i64 t.h, .int .i64 t.b, .slice A t.lv.length c, .slice T t.tb.length d] 25)
  have q0 := o0.cell (j := 0) rfl; have q1 := o0.cell (j := 1) rfl; have q2 := o0.cell (j := 2) rfl; have q3 := o0.cell (j := 3) rfl
  have C8 := Lib.hid fun (w' : World) (k : Kept w w') => alive8 w' (hlib.kept k)
  have C7 := Lib.hid fun (w' : World) (k : Kept w w') => few7_any 30000 (by omega) (by omega) t A c T d w' (hT.kept k) hl ht
  have C9 := Lib.hid fun (w' : World) (k : Kept w w') => rvalid9_any t.h t.b A c t.lv T d t.tb w' (hA.kept k) (hT.kept k) hl ht
  rw [hf] at C7
  rw [show validT ⟨t.h, t.b, t.lv, t.tb⟩ = true from hv] at C9
  have g := good_of hv
  obtain ⟨S, hS⟩ : ∃ S : ByteArray, S = ⟨(textT t).toArray⟩ := ⟨_, rfl⟩
  have hSz : S.size = (textT t).length := by rw [hS]; rfl
  have C10 := Lib.hid fun (w' : World) (k : Kept w w') => show Calls Tryd.prog 10 #[trV t A c T d] w' fun e w'' => e = .returned (.string S) ∧ Kept w' w'' from by rw [hS]; exact rtext10_any t g A c T d w' (hA.kept k) (hT.kept k)
  have C11 := Lib.hid fun (w' : World) (k : Kept w w') => show Calls Tryd.prog 11 #[trV t A c T d] w' fun e w'' => e = .returned (.tuple #[.string S, .int .i64 0]) ∧ Kept w' w'' from by
    have := text11_any t A c T d w' (hA.kept k) (hT.kept k) hl ht
    unfold TextPost at this
    simp only [hv, if_true, if_pos hb] at this
    rw [hS]
    exact this
  have dS : decide ((40000 : Int) < (S.size : Int)) = false := decide_eq_false (by rw [hSz]; omega)
  have dS' : decide (40000 < S.size) = false := decide_eq_false (by rw [hSz]; omega)
  clear hS hSz g hb
  have hpp : parseP s.data.toList = parseR s.data.toList := parse_same _
  have ds : decide ((41000 : Int) < (s.size : Int)) = false := decide_eq_false (by omega)
  have ds' : decide (41000 < s.size) = false := decide_eq_false (by omega)
  have C12 := Lib.hid fun (w' : World) (k : Kept w w') => show Calls Tryd.prog 12 #[.string s] w' fun e w'' => ∃ A c T d, e = .returned (.tuple #[trV t2 A c T d, .bool true]) ∧ Rd w'' A (ints t2.lv) ∧ RT w'' T t2.tb ∧ Kept w' w'' from by
    have := rparse12_any s hs w'
    unfold RParsePost at this
    rw [hp] at this
    exact this
  have C13 := Lib.hid fun (w' : World) (k : Kept w w') => show Calls Tryd.prog 13 #[.string s] w' fun e w'' => ∃ A c T d, e = .returned (.tuple #[trV t2 A c T d, .int .i64 0]) ∧ Rd w'' A (ints t2.lv) ∧ RT w'' T t2.tb ∧ Kept w' w'' from by
    have := parse13_all s w' (hlib.kept k)
    unfold PParsePost at this
    rw [hpp, hp] at this
    exact this
  have g2 := parse_good hp
  have C15 := Lib.hid fun (A : Option Addr) (c : Nat) (T : Option Addr) (d : Nat) (A' : Option Addr) (c' : Nat) (T' : Option Addr) (d' : Nat) (w' : World) (h1 : Rd w' A (ints t2.lv)) (h2 : RT w' T t2.tb) (h3 : Rd w' A' (ints t2.lv)) (h4 : RT w' T' t2.tb) => same15_same t2 A c T d A' c' T' d' w' g2 h1 h2 h3 h4
  clear hA hT hlib hf hv hp hpp hs g2
  go_enter Tryd.func3, Tryd.ntmps3
  go_wp2_with (first | (go_at_call 7; ((with_reducible refine (C7.out _ KK).mono ?_); rintro e w1 ⟨rfl, k1⟩; replace KK := kept_trans KK k1; replace q0 := kept_cell k1 q0; replace q1 := kept_cell k1 q1; replace q2 := kept_cell k1 q2; replace q3 := kept_cell k1 q3; clear k1)) | (go_at_call 9; ((with_reducible refine (C9.out _ KK).mono ?_); rintro e w1 ⟨rfl, k1⟩; replace KK := kept_trans KK k1; replace q0 := kept_cell k1 q0; replace q1 := kept_cell k1 q1; replace q2 := kept_cell k1 q2; replace q3 := kept_cell k1 q3; clear k1)) | (go_at_call 10; ((with_reducible refine (C10.out _ KK).mono ?_); rintro e w1 ⟨rfl, k1⟩; replace KK := kept_trans KK k1; replace q0 := kept_cell k1 q0; replace q1 := kept_cell k1 q1; replace q2 := kept_cell k1 q2; replace q3 := kept_cell k1 q3; clear k1)) | (go_at_call 11; ((with_reducible refine (C11.out _ KK).mono ?_); rintro e w1 ⟨rfl, k1⟩; replace KK := kept_trans KK k1; replace q0 := kept_cell k1 q0; replace q1 := kept_cell k1 q1; replace q2 := kept_cell k1 q2; replace q3 := kept_cell k1 q3; clear k1)) | (go_at_call 12; ((with_reducible refine (C12.out _ KK).mono ?_); rintro e w1 ⟨A2, c2, T2, d2, rfl, r2, rt2, k1⟩; replace KK := kept_alloc (kept_trans KK k1) (.cells #[.int .i64 t2.h, .int .i64 t2.b, .slice A2 t2.lv.length c2, .slice T2 t2.tb.length d2] 25); replace r2 := r2.kept (kept_alloc (kept_refl w1) (.cells #[.int .i64 t2.h, .int .i64 t2.b, .slice A2 t2.lv.length c2, .slice T2 t2.tb.length d2] 25)); replace rt2 := rt2.kept (kept_alloc (kept_refl w1) (.cells #[.int .i64 t2.h, .int .i64 t2.b, .slice A2 t2.lv.length c2, .slice T2 t2.tb.length d2] 25)); have od := Own.new w1 25 [.int .i64 t2.h, .int .i64 t2.b, .slice A2 t2.lv.length c2, .slice T2 t2.tb.length d2]; clear q0 q1 q2 q3 k1)) | (go_at_call 13; ((with_reducible refine (C13.out _ KK).mono ?_); rintro e w2 ⟨A3, c3, T3, d3, rfl, r3, rt3, k1⟩; replace KK := kept_alloc (kept_trans KK k1) (.cells #[.int .i64 t2.h, .int .i64 t2.b, .slice A3 t2.lv.length c3, .slice T3 t2.tb.length d3] 25); replace r2 := r2.kept (kept_alloc k1 (.cells #[.int .i64 t2.h, .int .i64 t2.b, .slice A3 t2.lv.length c3, .slice T3 t2.tb.length d3] 25)); replace rt2 := rt2.kept (kept_alloc k1 (.cells #[.int .i64 t2.h, .int .i64 t2.b, .slice A3 t2.lv.length c3, .slice T3 t2.tb.length d3] 25)); replace r3 := r3.kept (kept_alloc (kept_refl w2) (.cells #[.int .i64 t2.h, .int .i64 t2.b, .slice A3 t2.lv.length c3, .slice T3 t2.tb.length d3] 25)); replace rt3 := rt3.kept (kept_alloc (kept_refl w2) (.cells #[.int .i64 t2.h, .int .i64 t2.b, .slice A3 t2.lv.length c3, .slice T3 t2.tb.length d3] 25)); replace od := od.kept (kept_alloc k1 (.cells #[.int .i64 t2.h, .int .i64 t2.b, .slice A3 t2.lv.length c3, .slice T3 t2.tb.length d3] 25)); have z0 := od.cell (j := 0) rfl; have z1 := od.cell (j := 1) rfl; have z2 := od.cell (j := 2) rfl; have z3 := od.cell (j := 3) rfl; clear k1)) | (go_at_call 15; ((with_reducible refine (C15.out _ _ _ _ _ _ _ _ _ r3 rt3 r2 rt2).mono ?_); rintro e w1 ⟨rfl, k1⟩; replace KK := kept_trans KK k1; clear k1)) | (go_at_call 8; ((with_reducible refine (C8.out _ KK).mono ?_); rintro e w1 ⟨rfl, k1⟩; replace KK := kept_trans KK k1; clear k1)))
  go_ret
  exact ⟨rfl, KK⟩

set_option maxRecDepth 100000 in
set_option maxHeartbeats 1000000 in
theorem law3_any (t : Tr) (A : Option Addr) (c : Nat) (T : Option Addr) (d : Nat) (s : ByteArray) (w : World) (hlib : LibOk w) (hA : Rd w A (ints t.lv)) (hT : RT w T t.tb) (hl : t.lv.length ≤ 140737488355328) (ht : t.tb.length ≤ 140737488355328) (hs : s.size ≤ 9223372036854775807) :
    Calls Tryd.prog 3 #[trV t A c T d, .string s] w fun e w' => e = .returned (.bool true) ∧ Kept w w' := by
  have o0 := Own.new w 25 [.int .i64 t.h, .int .i64 t.b, .slice A t.lv.length c, .slice T t.tb.length d]
  have KK := kept_alloc (kept_refl w) (.cells #[.int .i64 t.h, .int .i64 t.b, .slice A t.lv.length c, .slice T t.tb.length d] 25)
  have q0 := o0.cell (j := 0) rfl; have q1 := o0.cell (j := 1) rfl; have q2 := o0.cell (j := 2) rfl; have q3 := o0.cell (j := 3) rfl
  have C8 := Lib.hid fun (w' : World) (k : Kept w w') => alive8 w' (hlib.kept k)
  have C7 := Lib.hid fun (w' : World) (k : Kept w w') => few7_any 30000 (by omega) (by omega) t A c T d w' (hT.kept k) hl ht
  cases hf : fewB 30000 t with
  | false =>
    rw [hf] at C7
    clear hA hT hlib hf
    go_enter Tryd.func3, Tryd.ntmps3
    go_wp2_with (first | (go_at_call 7; ((with_reducible refine (C7.out _ KK).mono ?_); rintro e w1 ⟨rfl, k1⟩; replace KK := kept_trans KK k1; replace q0 := kept_cell k1 q0; replace q1 := kept_cell k1 q1; replace q2 := kept_cell k1 q2; replace q3 := kept_cell k1 q3; clear k1)) | (go_at_call 8; ((with_reducible refine (C8.out _ KK).mono ?_); rintro e w1 ⟨rfl, k1⟩; replace KK := kept_trans KK k1; replace q0 := kept_cell k1 q0; replace q1 := kept_cell k1 q1; replace q2 := kept_cell k1 q2; replace q3 := kept_cell k1 q3; clear k1)))
    go_ret
    exact ⟨rfl, KK⟩
  | true =>
    by_cases hz : s.size ≤ 41000
    · clear C7 C8 q0 q1 q2 q3 KK o0
      cases hv : validT t with
      | false =>
        cases hp : parseR s.data.toList with
        | none => exact law3_bad_none t A c T d s w hlib hA hT hl ht hf hz hv hp
        | some t2 => exact law3_bad_some t A c T d s w hlib hA hT hl ht hf hz hv t2 hp
      | true =>
        by_cases hb : (textT t).length ≤ 40000
        · cases hp : parseR s.data.toList with
          | none => exact law3_fit_none t A c T d s w hlib hA hT hl ht hf hz hv hb hp
          | some t2 => exact law3_fit_some t A c T d s w hlib hA hT hl ht hf hz hv hb t2 hp
        · cases hp : parseR s.data.toList with
          | none => exact law3_big_none t A c T d s w hlib hA hT hl ht hf hz hv hb hp
          | some t2 => exact law3_big_some t A c T d s w hlib hA hT hl ht hf hz hv hb t2 hp
    · rw [hf] at C7
      have ds : decide ((41000 : Int) < (s.size : Int)) = true := decide_eq_true (by omega)
      have ds' : decide (41000 < s.size) = true := decide_eq_true (by omega)
      clear hA hT hlib hf hz
      go_enter Tryd.func3, Tryd.ntmps3
      go_wp2_with (first | (go_at_call 7; ((with_reducible refine (C7.out _ KK).mono ?_); rintro e w1 ⟨rfl, k1⟩; replace KK := kept_trans KK k1; replace q0 := kept_cell k1 q0; replace q1 := kept_cell k1 q1; replace q2 := kept_cell k1 q2; replace q3 := kept_cell k1 q3; clear k1)) | (go_at_call 8; ((with_reducible refine (C8.out _ KK).mono ?_); rintro e w1 ⟨rfl, k1⟩; replace KK := kept_trans KK k1; replace q0 := kept_cell k1 q0; replace q1 := kept_cell k1 q1; replace q2 := kept_cell k1 q2; replace q3 := kept_cell k1 q3; clear k1)))
      go_ret
      exact ⟨rfl, KK⟩
end Go.Proofs.YtikfeemmjfoffaaDoor
