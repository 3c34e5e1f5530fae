/- Trees: slices.Concat of rows of numbers; the numbers of the text. -/
import Derived.Test.YtikfeemmjfoffaaDoorW10
import Derived.Test.YtikfeemmjfoffaaDoorLib7
set_option linter.unusedVariables false
set_option linter.unusedSimpArgs false
namespace Go.Proofs.YtikfeemmjfoffaaDoor
open Go.RowKit Go.Shelf

theorem grow66 (n : Nat) (hn : n ≤ 1000000) (w : World) : Calls Tryd.prog 66 #[.slice none 0 0, .int .i64 n] w fun e w' => ∃ v, e = .returned v ∧ w'.ownsRow w.heap.size 3 1 v 0 [] ∧ Kept w w' := by
  by_cases h0 : n = 0
  · subst h0
    refine (Any8.slices_Grow_room Tryd.laysGrow none 0 0 0 w (by omega) (by omega) (by omega) (by omega)).mono fun e w' ⟨h1, h2⟩ => ?_
    subst h2
    exact ⟨_, h1, World.ownsRow_nil _ _ _ _, kept_refl _⟩
  · obtain ⟨i0, hi, hzz⟩ := Option.map_eq_some_iff.1 info3
    simp only [Prod.mk.injEq] at hzz
    obtain ⟨hz0, hz1, hz2⟩ := hzz
    refine (Any8.slices_Grow_grow Tryd.laysGrow i0 (.int .i64 0) hi hz0 (by omega) none 0 0 n [] w (by omega) (by omega) (by rw [hz2]; omega) (by omega) (by simp) (fun _ => rfl) (fun a h => by cases h)).mono fun e w' ⟨h1, h2⟩ => ?_
    subst h2
    refine ⟨_, h1, ?_, kept_alloc (kept_drew (kept_refl w)) _⟩
    have hge := grownCap_ge w (0 + n) 0 3
    have hle := grownCap_le_maxLen w (0 + n) 0 3 (by simp only [maxLen]; omega)
    have hge' := hge; simp only [Nat.zero_add] at hge'
    refine ⟨rfl, .inr ⟨w.heap.size, _, _, rfl, Nat.le_refl _, heap_alloc_new w.drew _, Nat.zero_le _, hle, ?_, by simp⟩⟩
    show (((#[] : Array Value) ++ Builtin.zeroCells (Value.int .i64 0).cells (0 + n - 0)) ++ Builtin.zeroCells (Value.int .i64 0).cells (grownCap w (0 + n) 0 3 - (0 + n))).size = grownCap w (0 + n) 0 3 * 1
    simp [Builtin.zeroCells, Value.cells]
    omega

theorem flatten_take {ls : List (List Int)} {k : Nat} (h : k < ls.length) : (ls.take (k + 1)).flatten = (ls.take k).flatten ++ ls.getD k [] := by
  rw [List.take_succ_eq_append_getElem h, List.flatten_append, List.getD_eq_getElem?_getD, List.getElem?_eq_getElem h]
  simp
theorem flatten_take_len (ls : List (List Int)) (k : Nat) : (ls.take k).flatten.length ≤ ls.flatten.length := by
  conv => rhs; rw [← List.take_append_drop k ls, List.flatten_append, List.length_append]
  omega

set_option maxRecDepth 100000 in
set_option maxHeartbeats 1000000 in
theorem concat52_any (T : Option Addr) (c : Nat) (ls : List (List Int)) (w : World) (hT : RT w T ls) (hn : ls.length ≤ 1000000) (hS : ls.flatten.length ≤ 1000000) :
    Calls Tryd.prog 52 #[.slice T ls.length c] w (RowPost ls.flatten w) := by
  obtain ⟨N, hN⟩ : ∃ N, N = ls.flatten.length := ⟨_, rfl⟩
  have HN := Lib.hid hN
  rw [← hN] at hS
  clear hN
  have HT := Lib.hid hT; clear hT
  have G := grow66 N hS
  have g0 : decide ((N : Int) < 0) = false := decide_eq_false (by omega)
  have HG := Lib.hid G; clear G
  go_enter Tryd.func52, Tryd.ntmps52
  go_wp2_with fail
  go_loopg [3, 11] ls.length (fun g' s3 s11 wr => ∃ (k n : Nat), k ≤ ls.length ∧ n = (ls.take k).flatten.length ∧ g' = ls.length - k ∧ s3 = .int .i64 n ∧ s11 = .int .i64 k ∧ Kept w wr)
  case atStart => exact ⟨0, 0, by omega, by simp, by omega, rfl, rfl, kept_refl _⟩
  case round =>
    obtain ⟨k, n, hk, hnk, rfl, rfl, rfl, k1⟩ := hrel
    have hle := flatten_take_len ls k
    have hn1 : n ≤ 1000000 := by have := HN.out; omega
    have HK := Lib.hid hnk; clear hnk hle
    by_cases hlt : k < ls.length
    · obtain ⟨tb1, toff, A1, c1, rfl, t0, r1, l1⟩ := (HT.out.kept k1) k hlt
      have hf := flatten_take hlt
      have hle := flatten_take_len ls (k + 1)
      obtain ⟨L, hL⟩ : ∃ L, L = ls.getD k [] := ⟨_, rfl⟩
      rw [← hL] at t0 r1 l1 hf
      have hsum : n + L.length ≤ 1000000 := by rw [hf, List.length_append] at hle; have := HK.out; have := HN.out; omega
      have HF := Lib.hid hf; clear hf hL r1 hle
      have d0 : decide ((n : Int) + (L.length : Int) < 0) = false := decide_eq_false (by omega)
      go_wp2_with fail
      go_roundg (ls.length - (k + 1))
      case rel => exact ⟨k + 1, n + L.length, by omega, by rw [HF.out, List.length_append, HK.out], rfl, by go_num, by go_num, k1⟩
      case measure => omega
    · have : k = ls.length := by omega
      subst this
      have : n = N := by have := HK.out; rw [List.take_length] at this; have := HN.out; omega
      subst this
      clear HK
      go_wp2_with (go_at_call 66; ((with_reducible refine (HG.out _).mono ?_); rintro e w2 ⟨v, rfl, hr, k2⟩))
      have kw := kept_trans k1 k2
      replace hr := hr.mono k1.size
      have sz := kw.size
      obtain ⟨wo, rfl⟩ : ∃ wo : World, wo = w2 := ⟨_, rfl⟩
      go_wp2_with fail
      go_loopg [6, 27] ls.length (fun g' s6 s27 wr => ∃ (k : Nat), k ≤ ls.length ∧ g' = ls.length - k ∧ wr.ownsRow w.heap.size 3 1 s6 (ls.take k).flatten.length (ints (ls.take k).flatten) ∧ s27 = .int .i64 k ∧ Kept w wr)
      case atStart => exact ⟨0, by omega, by omega, by simpa [ints] using hr, rfl, kw⟩
      case round =>
        clear hr kw sz
        obtain ⟨k, hk, rfl, hr, rfl, kw⟩ := hrel
        by_cases hlt : k < ls.length
        · obtain ⟨tb1, toff, A1, c1, rfl, t0, r1, l1⟩ := (HT.out.kept kw) k hlt
          have hf := flatten_take hlt
          have hle := flatten_take_len ls (k + 1)
          obtain ⟨L, hL⟩ : ∃ L, L = ls.getD k [] := ⟨_, rfl⟩
          rw [← hL] at t0 r1 l1 hf
          obtain ⟨F, hF⟩ : ∃ F, F = (ls.take k).flatten := ⟨_, rfl⟩
          rw [← hF] at hr hf
          have hsum : F.length + L.length ≤ 1000000 := by rw [hf, List.length_append] at hle; have := HN.out; omega
          have HF := Lib.hid hf; clear hf hL hF hle
          have sz := kw.size
          go_wp2_with (at_builtin; refine app_any w.heap.size rfl (.tmp 31) (.tmp 32) 22 3 (.int .i64 0) 1 8 rfl Tryd.underlying22 info3 rfl (by omega) (by omega) u6 F.length L.length c1 A1 (ints F) (ints L) rfl rfl (by simp) r1 (one_ints _) hr sz (by omega) ?_; intro v3 w3 hr3 hg3 hat3)
          have k3 : Kept w w3 := kept_grown kw hr (Nat.le_refl _) hg3
          clear hg3 hat3 hr
          go_wp2_with fail
          go_roundg (ls.length - (k + 1))
          case rel => exact ⟨k + 1, by omega, rfl, by rw [HF.out, List.length_append, ← ints_append]; exact hr3, by go_num, k3⟩
          case measure => omega
        · have : k = ls.length := by omega
          subst this
          go_wp2_with fail
          go_ret
          rw [List.take_length] at hr
          exact ⟨_, rfl, hr, kw⟩

/-- The values of rows of numbers. -/
def RV (w : World) (vals : List Value) (ls : List (List Int)) : Prop := vals.length = ls.length ∧ ∀ j, j < ls.length → ∃ A c, vals[j]? = some (.slice A (ls.getD j []).length c) ∧ Rd w A (ints (ls.getD j [])) ∧ (ls.getD j []).length ≤ 140737488355328
theorem RV.kept {w w' : World} {vals : List Value} {ls : List (List Int)} (h : RV w vals ls) (k : Kept w w') : RV w' vals ls := ⟨h.1, fun j hj => by
  obtain ⟨A, c, e, h1, h2⟩ := h.2 j hj
  exact ⟨A, c, e, h1.kept k, h2⟩⟩
theorem rt_of {w : World} {T : Option Addr} {vals : List Value} {ls : List (List Int)} (h : Rd w T vals) (hv : RV w vals ls) : RT w T ls := fun j hj => by
  obtain ⟨A, c, e, h1, h2⟩ := hv.2 j hj
  obtain ⟨b, off, hT, hc⟩ := h.at_ (ne_nil_of_lt (k := j) (by rw [hv.1]; exact hj))
  exact ⟨b, off, A, c, hT, hc j _ e, h1, h2⟩
theorem rv_of {w : World} : ∀ {ls : List (List Int)} {T : Option Addr}, RT w T ls → ∃ vals, Rd w T vals ∧ RV w vals ls
  | [], T, _ => ⟨[], Rd.nil _ _, rfl, fun j hj => absurd hj (by simp)⟩
  | l :: ls, T, h => by
    obtain ⟨b, off, A, c, rfl, h1, h2, h3⟩ := h 0 (by simp)
    have ht : RT w (some ⟨b, off + 1, none⟩) ls := fun j hj => by
      obtain ⟨b', off', A', c', e, q1, q2, q3⟩ := h (j + 1) (by simpa using hj)
      injection e with e
      injection e with e1 e2 _
      subst e1; subst e2
      exact ⟨b, off + 1, A', c', rfl, by rw [show off + 1 + j = off + (j + 1) by omega]; exact q1, q2, q3⟩
    obtain ⟨vals, r1, r2⟩ := rv_of ht
    refine ⟨.slice A l.length c :: vals, ⟨fun _ => ⟨b, off, rfl, fun j v hj => ?_⟩⟩, by simp [r2.1], fun j hj => ?_⟩
    · match j with
      | 0 => simp at hj; subst hj; exact h1
      | j + 1 =>
        simp at hj
        have := r1.at_some hj
        rwa [show off + 1 + j = off + (j + 1) by omega] at this
    · match j with
      | 0 => exact ⟨A, c, rfl, h2, h3⟩
      | j + 1 =>
        obtain ⟨A', c', e, q1, q2⟩ := r2.2 j (by simpa using hj)
        exact ⟨A', c', by simpa using e, by simpa using q1, by simpa using q2⟩
theorem RV.one {w : World} {vals : List Value} {ls : List (List Int)} (h : RV w vals ls) : ∀ u ∈ vals, u.oneCell' = true := by
  intro u hu
  obtain ⟨j, hj, e⟩ := List.mem_iff_getElem.1 hu
  obtain ⟨A, c, e2, _⟩ := h.2 j (by rw [← h.1]; exact hj)
  rw [List.getElem?_eq_getElem hj, e] at e2
  injection e2 with e2
  rw [e2]; rfl
theorem info22 : (Tryd.prog.info? 22).map (fun i => (i.zero, i.size, i.bytes)) = some (some (.slice none 0 0), 1, 24) := by kernel_rfl
theorem Good.len {t : Tr} (g : Good t) : (numsT t).length ≤ 270000 := by
  have h63 := g.tb64; have h64 := g.lv64
  have h1 : (numsT t).length = 2 + t.lv.length + t.tb.length * pw (2 * t.b) := by
    simp only [numsT, List.length_cons, List.length_append, flatten_len g.tw]; omega
  have h2 : pw (2 * t.b) ≤ 4096 := by
    have := g.b6
    unfold pw
    exact Nat.pow_le_pow_right (n := 2) (by omega) (by omega : (2 * t.b).toNat ≤ 12)
  have h3 : t.tb.length * pw (2 * t.b) ≤ 63 * 4096 := Nat.mul_le_mul h63 h2
  omega

set_option maxRecDepth 100000 in
set_option maxHeartbeats 1000000 in
theorem numbers31_any (t : Tr) (g : Good t) (A : Option Addr) (c : Nat) (T : Option Addr) (d : Nat) (w : World) (hA : Rd w A (ints t.lv)) (hT : RT w T t.tb) :
    Calls Tryd.prog 31 #[trV t A c T d] w (RowPost (numsT t) w) := by
  have h63 := g.tb64; have h64 := g.lv64
  have hlen := g.len
  obtain ⟨vals, rT, rV⟩ := rv_of hT
  have o0 := Own.new w 25 [.int .i64 t.h, .int .i64 t.b, .slice A t.lv.length c, .slice T t.tb.length d]
  have K0 := kept_alloc (kept_refl w) (.cells #[.int .i64 t.h, .int .i64 t.b, .slice A t.lv.length c, .slice T t.tb.length d] 25)
  have q0 := o0.cell (j := 0) rfl; have q1 := o0.cell (j := 1) rfl; have q2 := o0.cell (j := 2) rfl; have q3 := o0.cell (j := 3) rfl
  have hvl : vals.length = t.tb.length := rV.1
  have HV := Lib.hid hvl; clear hvl
  obtain ⟨W3, hW3⟩ : ∃ x, x = ((w.alloc (.cells #[.int .i64 t.h, .int .i64 t.b, .slice A t.lv.length c, .slice T t.tb.length d] 25)).alloc (.cells #[.int .i64 t.h, .int .i64 t.b] 3)).alloc (.cells #[.slice (some ⟨w.heap.size + 1, 0, none⟩) 2 2, .slice A t.lv.length c] 22) := ⟨_, rfl⟩
  have K3 : Kept w W3 := by rw [hW3]; exact kept_alloc (kept_alloc K0 _) _
  have O3 : Own W3 (w.heap.size + 2) 22 [.slice (some ⟨w.heap.size + 1, 0, none⟩) 2 2, .slice A t.lv.length c] := by
    rw [hW3]
    have := Own.new ((w.alloc (.cells #[.int .i64 t.h, .int .i64 t.b, .slice A t.lv.length c, .slice T t.tb.length d] 25)).alloc (.cells #[.int .i64 t.h, .int .i64 t.b] 3)) 22 [.slice (some ⟨w.heap.size + 1, 0, none⟩) 2 2, .slice A t.lv.length c]
    simpa using this
  have O2 : Own W3 (w.heap.size + 1) 3 (ints [t.h, t.b]) := by
    rw [hW3]
    refine Own.alloc ?_ _
    have := Own.new (w.alloc (.cells #[.int .i64 t.h, .int .i64 t.b, .slice A t.lv.length c, .slice T t.tb.length d] 25)) 3 (ints [t.h, t.b])
    simpa [ints] using this
  have R3 : W3.ownsRow (w.heap.size + 1) 22 1 (.slice (some ⟨w.heap.size + 2, 0, none⟩) 2 2) 2 [.slice (some ⟨w.heap.size + 1, 0, none⟩) 2 2, .slice A t.lv.length c] := O3.row (w.heap.size + 1) 1 2 (by omega) rfl (by omega)
  have S3 : w.heap.size + 1 ≤ W3.heap.size := by have := O3.lt; omega
  -- the rows that Concat is handed
  have FIN : ∀ (v4 : Value) (w4 : World), w4.ownsRow (w.heap.size + 1) 22 1 v4 (2 + t.tb.length) ([.slice (some ⟨w.heap.size + 1, 0, none⟩) 2 2, .slice A t.lv.length c] ++ vals) → W3.grownBy w4 (some (w.heap.size + 2)) → ∃ A4 c4, v4 = .slice A4 (2 + t.tb.length) c4 ∧ Kept w w4 ∧ Calls Tryd.prog 52 #[.slice A4 (2 + t.tb.length) c4] w4 (RowPost (numsT t) w4) := by
    intro v4 w4 hr hg
    obtain ⟨A4, c4, rfl, hr⟩ := row_form hr
    have k4 : Kept w w4 := ⟨hg.os.trans K3.os, hg.tape.trans K3.tape, hg.output.trans K3.output, Nat.le_trans K3.size hg.size, fun k hk => (hg.block k (by have := K3.size; omega) (by intro h; injection h; omega)).trans (K3.block k hk)⟩
    refine ⟨A4, c4, rfl, k4, ?_⟩
    have o2 := O2.grown hg (by intro h; injection h; omega)
    have rv : RV w4 ([.slice (some ⟨w.heap.size + 1, 0, none⟩) 2 2, .slice A t.lv.length c] ++ vals) ([t.h, t.b] :: t.lv :: t.tb) := by
      have rV4 := rV.kept k4
      refine ⟨by simp [rV4.1], fun j hj => ?_⟩
      match j with
      | 0 => exact ⟨_, _, rfl, o2.rd, by simp⟩
      | 1 => exact ⟨_, _, rfl, hA.kept k4, by simp; omega⟩
      | j + 2 =>
        obtain ⟨A', c', e, r1, r2⟩ := rV4.2 j (by simpa using hj)
        exact ⟨A', c', by simpa using e, by simpa using r1, by simpa using r2⟩
    have e1 : ([t.h, t.b] :: t.lv :: t.tb).length = 2 + t.tb.length := by simp; omega
    have e2 : ([t.h, t.b] :: t.lv :: t.tb).flatten = numsT t := by simp [numsT]
    have C := concat52_any A4 c4 ([t.h, t.b] :: t.lv :: t.tb) w4 (rt_of (row_rd hr) rv) (by rw [e1]; omega) (by rw [e2]; omega)
    rw [e1, e2] at C
    exact C
  have HF := Lib.hid FIN
  have HA := Lib.hid hA; have HT := Lib.hid (rT.kept K3); have HR := Lib.hid rV.one; have HL := Lib.hid hlen
  clear hA hT rT rV hlen g FIN
  have HW := Lib.hid hW3; clear hW3
  go_enter Tryd.func31, Tryd.ntmps31
  go_wp2_with (first | (at_builtin; rw [← HW.out]; refine app_any (w.heap.size + 1) rfl (.tmp 10) (.tmp 12) 23 22 (.slice none 0 0) 1 24 rfl Tryd.underlying23 info22 rfl (by omega) (by omega) (.slice (some ⟨w.heap.size + 2, 0, none⟩) 2 2) 2 t.tb.length d T _ vals rfl rfl (by rw [HV.out]; simp) HT.out HR.out R3 S3 (by omega) ?_; intro v4 w4 hr4 hg4 _; obtain ⟨A4, c4, rfl, k4, C⟩ := HF.out v4 w4 hr4 hg4) | (go_at_call 52; ((with_reducible refine C.mono ?_); rintro e w5 ⟨v, rfl, hr, k5⟩)))
  go_ret
  exact ⟨v, rfl, hr.mono k4.size, kept_trans k4 k5⟩
end Go.Proofs.YtikfeemmjfoffaaDoor
