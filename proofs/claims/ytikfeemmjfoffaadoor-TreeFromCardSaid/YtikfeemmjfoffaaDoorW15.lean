/- Trees: Parse (the reference). -/
import Derived.Test.YtikfeemmjfoffaaDoorW14
import Derived.Test.YtikfeemmjfoffaaDoorLib8
set_option linter.unusedVariables false
set_option linter.unusedSimpArgs false
namespace Go.Proofs.YtikfeemmjfoffaaDoor
open Go.RowKit Go.Shelf

def RParsePost (s : ByteArray) (w : World) (e : Ending) (w' : World) : Prop :=
  match parseR s.data.toList with
  | none => (∃ h b A n c T m d, e = .returned (.tuple #[.agg #[.int .i64 h, .int .i64 b, .slice A n c, .slice T m d], .bool false])) ∧ Kept w w'
  | some t => ∃ A c T d, e = .returned (.tuple #[trV t A c T d, .bool true]) ∧ Rd w' A (ints t.lv) ∧ RT w' T t.tb ∧ Kept w w'
theorem rp_none {s : ByteArray} {w w' : World} {e : Ending} {h b : Int} {A T : Option Addr} {n c m d : Nat} (hp : parseR s.data.toList = none) (he : e = .returned (.tuple #[.agg #[.int .i64 h, .int .i64 b, .slice A n c, .slice T m d], .bool false])) (k : Kept w w') : RParsePost s w e w' := by
  unfold RParsePost; rw [hp]; exact ⟨⟨h, b, A, n, c, T, m, d, he⟩, k⟩
theorem rp_some {s : ByteArray} {w w' : World} {e : Ending} {t : Tr} {A T : Option Addr} {c d : Nat} (hp : parseR s.data.toList = some t) (he : e = .returned (.tuple #[trV t A c T d, .bool true])) (h1 : Rd w' A (ints t.lv)) (h2 : RT w' T t.tb) (k : Kept w w') : RParsePost s w e w' := by
  unfold RParsePost; rw [hp]; exact ⟨A, c, T, d, he, h1, h2, k⟩

set_option maxRecDepth 100000 in
set_option maxHeartbeats 1000000 in
theorem rparse12_none (s : ByteArray) (hs : s.size ≤ 41000) (w : World) (h : readN s.data.toList 0 0 = none) : Calls Tryd.prog 12 #[.string s] w (RParsePost s w) := by
  have hp : parseR s.data.toList = none := by unfold parseR; rw [h]
  have C := fun w' => numbers33_any s hs w'
  unfold NumPost at C
  rw [h] at C
  have HC := Lib.hid C
  have HP := Lib.hid hp
  have K0 := kept_alloc (kept_refl w) (.cells #[.int .i64 0, .int .i64 0, .slice none 0 0, .slice none 0 0] 25)
  have O0 := Own.new w 25 [.int .i64 0, .int .i64 0, .slice none 0 0, .slice none 0 0]
  clear C hp h
  by_cases hb : 40000 < s.size
  · have d1 : decide (40000 < s.size) = true := decide_eq_true hb
    have d2 : decide ((40000 : Int) < (s.size : Int)) = true := decide_eq_true (by omega)
    clear hb
    go_enter Tryd.func12, Tryd.ntmps12
    go_wp2_with (go_at_call 33; ((with_reducible refine (HC.out _).mono ?_); rintro e w1 ⟨rfl, k1⟩; have a1 := O0.kept k1; have e0 := a1.cell (j := 0) rfl; have e1 := a1.cell (j := 1) rfl; have e2 := a1.cell (j := 2) rfl; have e3 := a1.cell (j := 3) rfl; have f0 := a1.frozen 0; have f1 := a1.frozen 1; have f2 := a1.frozen 2; have f3 := a1.frozen 3))
    have o3 := own_set4 a1 (.int .i64 0) (.int .i64 0) (.slice none 0 0) (.slice none 0 0)
    have pk := kept_set4 (kept_trans K0 k1) (Nat.le_refl _) (.int .i64 0) (.int .i64 0) (.slice none 0 0) (.slice none 0 0)
    unfold set4 at o3 pk
    obtain ⟨W2, hW2⟩ : ∃ W2, W2 = (((w1.setCell ⟨w.heap.size, 0, none⟩ (.int .i64 0)).setCell ⟨w.heap.size, 1, none⟩ (.int .i64 0)).setCell ⟨w.heap.size, 2, none⟩ (.slice none 0 0)).setCell ⟨w.heap.size, 3, none⟩ (.slice none 0 0) := ⟨_, rfl⟩
    rw [← hW2] at pk o3 ⊢
    clear hW2 e0 e1 e2 e3
    have q0 := o3.cell (j := 0) rfl; have q1 := o3.cell (j := 1) rfl; have q2 := o3.cell (j := 2) rfl; have q3 := o3.cell (j := 3) rfl
    exact bodyPost_ret (v := .tuple #[.agg #[.int .i64 0, .int .i64 0, .slice none 0 0, .slice none 0 0], .bool false]) (by simp [results, Tryd.results12, go_sem, q0, q1, q2, q3]) rfl (rp_none HP.out rfl pk)
  · have d1 : decide (40000 < s.size) = false := decide_eq_false hb
    have d2 : decide ((40000 : Int) < (s.size : Int)) = false := decide_eq_false (by omega)
    clear hb
    go_enter Tryd.func12, Tryd.ntmps12
    go_wp2_with (go_at_call 33; ((with_reducible refine (HC.out _).mono ?_); rintro e w1 ⟨rfl, k1⟩; have a1 := O0.kept k1; have e0 := a1.cell (j := 0) rfl; have e1 := a1.cell (j := 1) rfl; have e2 := a1.cell (j := 2) rfl; have e3 := a1.cell (j := 3) rfl; have f0 := a1.frozen 0; have f1 := a1.frozen 1; have f2 := a1.frozen 2; have f3 := a1.frozen 3))
    have o3 := own_set4 a1 (.int .i64 0) (.int .i64 0) (.slice none 0 0) (.slice none 0 0)
    have pk := kept_set4 (kept_trans K0 k1) (Nat.le_refl _) (.int .i64 0) (.int .i64 0) (.slice none 0 0) (.slice none 0 0)
    unfold set4 at o3 pk
    obtain ⟨W2, hW2⟩ : ∃ W2, W2 = (((w1.setCell ⟨w.heap.size, 0, none⟩ (.int .i64 0)).setCell ⟨w.heap.size, 1, none⟩ (.int .i64 0)).setCell ⟨w.heap.size, 2, none⟩ (.slice none 0 0)).setCell ⟨w.heap.size, 3, none⟩ (.slice none 0 0) := ⟨_, rfl⟩
    rw [← hW2] at pk o3 ⊢
    clear hW2 e0 e1 e2 e3
    have q0 := o3.cell (j := 0) rfl; have q1 := o3.cell (j := 1) rfl; have q2 := o3.cell (j := 2) rfl; have q3 := o3.cell (j := 3) rfl
    exact bodyPost_ret (v := .tuple #[.agg #[.int .i64 0, .int .i64 0, .slice none 0 0, .slice none 0 0], .bool false]) (by simp [results, Tryd.results12, go_sem, q0, q1, q2, q3]) rfl (rp_none HP.out rfl pk)

theorem parseR_out {s : List UInt8} {out : List Nat} (h : readN s 0 0 = some out) : parseR s = (if 40000 < s.length ∨ (natI out).length < 2 ∨ 6 < (natI out).getD 0 0 ∨ (natI out).getD 1 0 < 1 ∨ 6 < (natI out).getD 1 0 then none
    else if (natI out).length ≠ 2 + pw ((natI out).getD 0 0) + (pw ((natI out).getD 0 0) - 1) * pw (2 * (natI out).getD 1 0) then none
    else if validT (ofNums (natI out)) = true then some (ofNums (natI out)) else none) := by
  unfold parseR; rw [h]; rfl

set_option maxRecDepth 100000 in
set_option maxHeartbeats 1000000 in
theorem rparse12_bad (s : ByteArray) (hs : s.size ≤ 41000) (w : World) (out : List Nat) (h : readN s.data.toList 0 0 = some out) (hl : out.length ≤ 41001) (hb : 40000 < s.size ∨ out.length < 2 ∨ 6 < ia (natI out) 0 ∨ ia (natI out) 1 < 1 ∨ 6 < ia (natI out) 1) : Calls Tryd.prog 12 #[.string s] w (RParsePost s w) := by
  have hsz : s.data.toList.length = s.size := by simp
  have hp : parseR s.data.toList = none := by
    rw [parseR_out h, if_pos (by rw [natI_length, hsz]; exact hb)]
  have C := fun w' => numbers33_any s hs w'
  unfold NumPost at C
  have h1 := (readN_iff.1 h).1
  have hne : 0 < out.length := List.length_pos_iff.2 h1
  rw [h] at C
  obtain ⟨l, hll⟩ : ∃ l, l = natI out := ⟨_, rfl⟩
  obtain ⟨n, hn⟩ : ∃ n, n = out.length := ⟨_, rfl⟩
  simp only [← hll, ← hn] at C hb hne
  have hln : l.length = n := by rw [hll, hn]; simp
  have HC := Lib.hid C
  have HP := Lib.hid hp
  have HN := Lib.hid hln
  have K0 := kept_alloc (kept_refl w) (.cells #[.int .i64 0, .int .i64 0, .slice none 0 0, .slice none 0 0] 25)
  have O0 := Own.new w 25 [.int .i64 0, .int .i64 0, .slice none 0 0, .slice none 0 0]
  rw [← hn] at hl
  clear C hp h h1 hll hn hln hsz
  by_cases b1 : 40000 < s.size
  · have d1 : decide (40000 < s.size) = true := decide_eq_true b1
    have d2 : decide ((40000 : Int) < (s.size : Int)) = true := decide_eq_true (by omega)
    clear b1 hb
    go_enter Tryd.func12, Tryd.ntmps12
    go_wp2_with (go_at_call 33; ((with_reducible refine (HC.out _).mono ?_); rintro e w1 ⟨v, rfl, hr, k1⟩; have a1 := O0.kept k1; have e0 := a1.cell (j := 0) rfl; have e1 := a1.cell (j := 1) rfl; have e2 := a1.cell (j := 2) rfl; have e3 := a1.cell (j := 3) rfl; have f0 := a1.frozen 0; have f1 := a1.frozen 1; have f2 := a1.frozen 2; have f3 := a1.frozen 3))
    have o3 := own_set4 a1 (.int .i64 0) (.int .i64 0) (.slice none 0 0) (.slice none 0 0)
    have pk := kept_set4 (kept_trans K0 k1) (Nat.le_refl _) (.int .i64 0) (.int .i64 0) (.slice none 0 0) (.slice none 0 0)
    unfold set4 at o3 pk
    obtain ⟨W2, hW2⟩ : ∃ W2, W2 = (((w1.setCell ⟨w.heap.size, 0, none⟩ (.int .i64 0)).setCell ⟨w.heap.size, 1, none⟩ (.int .i64 0)).setCell ⟨w.heap.size, 2, none⟩ (.slice none 0 0)).setCell ⟨w.heap.size, 3, none⟩ (.slice none 0 0) := ⟨_, rfl⟩
    rw [← hW2] at pk o3 ⊢
    clear hW2 e0 e1 e2 e3
    have q0 := o3.cell (j := 0) rfl; have q1 := o3.cell (j := 1) rfl; have q2 := o3.cell (j := 2) rfl; have q3 := o3.cell (j := 3) rfl
    exact bodyPost_ret (v := .tuple #[.agg #[.int .i64 0, .int .i64 0, .slice none 0 0, .slice none 0 0], .bool false]) (by simp [results, Tryd.results12, go_sem, q0, q1, q2, q3]) rfl (rp_none HP.out rfl pk)
  have d1 : decide (40000 < s.size) = false := decide_eq_false b1
  have d2 : decide ((40000 : Int) < (s.size : Int)) = false := decide_eq_false (by omega)
  by_cases b2 : n < 2
  · have d3 : decide (n < 2) = true := decide_eq_true b2
    have d4 : decide ((n : Int) < 2) = true := decide_eq_true (by omega)
    clear b1 b2 hb
    go_enter Tryd.func12, Tryd.ntmps12
    go_wp2_with (go_at_call 33; ((with_reducible refine (HC.out _).mono ?_); rintro e w1 ⟨v, rfl, hr, k1⟩; obtain ⟨g, cap, rest, rfl, hg, og, hc1, hc2, hc3, hc4⟩ := row_own hr (by omega); have a1 := O0.kept k1; have e0 := a1.cell (j := 0) rfl; have e1 := a1.cell (j := 1) rfl; have e2 := a1.cell (j := 2) rfl; have e3 := a1.cell (j := 3) rfl; have f0 := a1.frozen 0; have f1 := a1.frozen 1; have f2 := a1.frozen 2; have f3 := a1.frozen 3))
    have o3 := own_set4 a1 (.int .i64 0) (.int .i64 0) (.slice none 0 0) (.slice none 0 0)
    have pk := kept_set4 (kept_trans K0 k1) (Nat.le_refl _) (.int .i64 0) (.int .i64 0) (.slice none 0 0) (.slice none 0 0)
    unfold set4 at o3 pk
    obtain ⟨W2, hW2⟩ : ∃ W2, W2 = (((w1.setCell ⟨w.heap.size, 0, none⟩ (.int .i64 0)).setCell ⟨w.heap.size, 1, none⟩ (.int .i64 0)).setCell ⟨w.heap.size, 2, none⟩ (.slice none 0 0)).setCell ⟨w.heap.size, 3, none⟩ (.slice none 0 0) := ⟨_, rfl⟩
    rw [← hW2] at pk o3 ⊢
    clear hW2 e0 e1 e2 e3
    have q0 := o3.cell (j := 0) rfl; have q1 := o3.cell (j := 1) rfl; have q2 := o3.cell (j := 2) rfl; have q3 := o3.cell (j := 3) rfl
    exact bodyPost_ret (v := .tuple #[.agg #[.int .i64 0, .int .i64 0, .slice none 0 0, .slice none 0 0], .bool false]) (by simp [results, Tryd.results12, go_sem, q0, q1, q2, q3]) rfl (rp_none HP.out rfl pk)
  have d3 : decide (n < 2) = false := decide_eq_false b2
  have d4 : decide ((n : Int) < 2) = false := decide_eq_false (by omega)
  have i0 : 0 < n := by omega
  have i1 : 1 < n := by omega
  have i1' : (1 : Int) < (n : Int) := by omega
  by_cases b3 : 6 < ia l 0
  · have d3' : decide (6 < ia l 0) = true := decide_eq_true b3
    clear b1 b2 b3 hb
    go_enter Tryd.func12, Tryd.ntmps12
    go_wp2_with (go_at_call 33; ((with_reducible refine (HC.out _).mono ?_); rintro e w1 ⟨v, rfl, hr, k1⟩; obtain ⟨g, cap, rest, rfl, hg, og, hc1, hc2, hc3, hc4⟩ := row_own hr (by omega); have a1 := O0.kept k1; have e0 := a1.cell (j := 0) rfl; have e1 := a1.cell (j := 1) rfl; have e2 := a1.cell (j := 2) rfl; have e3 := a1.cell (j := 3) rfl; have f0 := a1.frozen 0; have f1 := a1.frozen 1; have f2 := a1.frozen 2; have f3 := a1.frozen 3; have y0 := og.pre (j := 0) (by rw [HN.out]; omega); have y1 := og.pre (j := 1) (by rw [HN.out]; omega)))
    have o3 := own_set4 a1 (.int .i64 0) (.int .i64 0) (.slice none 0 0) (.slice none 0 0)
    have pk := kept_set4 (kept_trans K0 k1) (Nat.le_refl _) (.int .i64 0) (.int .i64 0) (.slice none 0 0) (.slice none 0 0)
    unfold set4 at o3 pk
    obtain ⟨W2, hW2⟩ : ∃ W2, W2 = (((w1.setCell ⟨w.heap.size, 0, none⟩ (.int .i64 0)).setCell ⟨w.heap.size, 1, none⟩ (.int .i64 0)).setCell ⟨w.heap.size, 2, none⟩ (.slice none 0 0)).setCell ⟨w.heap.size, 3, none⟩ (.slice none 0 0) := ⟨_, rfl⟩
    rw [← hW2] at pk o3 ⊢
    clear hW2 e0 e1 e2 e3
    have q0 := o3.cell (j := 0) rfl; have q1 := o3.cell (j := 1) rfl; have q2 := o3.cell (j := 2) rfl; have q3 := o3.cell (j := 3) rfl
    exact bodyPost_ret (v := .tuple #[.agg #[.int .i64 0, .int .i64 0, .slice none 0 0, .slice none 0 0], .bool false]) (by simp [results, Tryd.results12, go_sem, q0, q1, q2, q3]) rfl (rp_none HP.out rfl pk)
  have d3' : decide (6 < ia l 0) = false := decide_eq_false b3
  by_cases b4 : ia l 1 < 1
  · have d4' : decide (ia l 1 < 1) = true := decide_eq_true b4
    clear b1 b2 b3 b4 hb
    go_enter Tryd.func12, Tryd.ntmps12
    go_wp2_with (go_at_call 33; ((with_reducible refine (HC.out _).mono ?_); rintro e w1 ⟨v, rfl, hr, k1⟩; obtain ⟨g, cap, rest, rfl, hg, og, hc1, hc2, hc3, hc4⟩ := row_own hr (by omega); have a1 := O0.kept k1; have e0 := a1.cell (j := 0) rfl; have e1 := a1.cell (j := 1) rfl; have e2 := a1.cell (j := 2) rfl; have e3 := a1.cell (j := 3) rfl; have f0 := a1.frozen 0; have f1 := a1.frozen 1; have f2 := a1.frozen 2; have f3 := a1.frozen 3; have y0 := og.pre (j := 0) (by rw [HN.out]; omega); have y1 := og.pre (j := 1) (by rw [HN.out]; omega)))
    have o3 := own_set4 a1 (.int .i64 0) (.int .i64 0) (.slice none 0 0) (.slice none 0 0)
    have pk := kept_set4 (kept_trans K0 k1) (Nat.le_refl _) (.int .i64 0) (.int .i64 0) (.slice none 0 0) (.slice none 0 0)
    unfold set4 at o3 pk
    obtain ⟨W2, hW2⟩ : ∃ W2, W2 = (((w1.setCell ⟨w.heap.size, 0, none⟩ (.int .i64 0)).setCell ⟨w.heap.size, 1, none⟩ (.int .i64 0)).setCell ⟨w.heap.size, 2, none⟩ (.slice none 0 0)).setCell ⟨w.heap.size, 3, none⟩ (.slice none 0 0) := ⟨_, rfl⟩
    rw [← hW2] at pk o3 ⊢
    clear hW2 e0 e1 e2 e3
    have q0 := o3.cell (j := 0) rfl; have q1 := o3.cell (j := 1) rfl; have q2 := o3.cell (j := 2) rfl; have q3 := o3.cell (j := 3) rfl
    exact bodyPost_ret (v := .tuple #[.agg #[.int .i64 0, .int .i64 0, .slice none 0 0, .slice none 0 0], .bool false]) (by simp [results, Tryd.results12, go_sem, q0, q1, q2, q3]) rfl (rp_none HP.out rfl pk)
  have d4' : decide (ia l 1 < 1) = false := decide_eq_false b4
  by_cases b5 : 6 < ia l 1
  · have d5' : decide (6 < ia l 1) = true := decide_eq_true b5
    clear b1 b2 b3 b4 b5 hb
    go_enter Tryd.func12, Tryd.ntmps12
    go_wp2_with (go_at_call 33; ((with_reducible refine (HC.out _).mono ?_); rintro e w1 ⟨v, rfl, hr, k1⟩; obtain ⟨g, cap, rest, rfl, hg, og, hc1, hc2, hc3, hc4⟩ := row_own hr (by omega); have a1 := O0.kept k1; have e0 := a1.cell (j := 0) rfl; have e1 := a1.cell (j := 1) rfl; have e2 := a1.cell (j := 2) rfl; have e3 := a1.cell (j := 3) rfl; have f0 := a1.frozen 0; have f1 := a1.frozen 1; have f2 := a1.frozen 2; have f3 := a1.frozen 3; have y0 := og.pre (j := 0) (by rw [HN.out]; omega); have y1 := og.pre (j := 1) (by rw [HN.out]; omega)))
    have o3 := own_set4 a1 (.int .i64 0) (.int .i64 0) (.slice none 0 0) (.slice none 0 0)
    have pk := kept_set4 (kept_trans K0 k1) (Nat.le_refl _) (.int .i64 0) (.int .i64 0) (.slice none 0 0) (.slice none 0 0)
    unfold set4 at o3 pk
    obtain ⟨W2, hW2⟩ : ∃ W2, W2 = (((w1.setCell ⟨w.heap.size, 0, none⟩ (.int .i64 0)).setCell ⟨w.heap.size, 1, none⟩ (.int .i64 0)).setCell ⟨w.heap.size, 2, none⟩ (.slice none 0 0)).setCell ⟨w.heap.size, 3, none⟩ (.slice none 0 0) := ⟨_, rfl⟩
    rw [← hW2] at pk o3 ⊢
    clear hW2 e0 e1 e2 e3
    have q0 := o3.cell (j := 0) rfl; have q1 := o3.cell (j := 1) rfl; have q2 := o3.cell (j := 2) rfl; have q3 := o3.cell (j := 3) rfl
    exact bodyPost_ret (v := .tuple #[.agg #[.int .i64 0, .int .i64 0, .slice none 0 0, .slice none 0 0], .bool false]) (by simp [results, Tryd.results12, go_sem, q0, q1, q2, q3]) rfl (rp_none HP.out rfl pk)
  have d5' : decide (6 < ia l 1) = false := decide_eq_false b5
  exfalso; omega
end Go.Proofs.YtikfeemmjfoffaaDoor
