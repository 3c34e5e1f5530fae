/- Joined: W11, W12, W13, W14, W15, W16, W17. -/
import Derived.Test.YtikfeemmjfoffaaGreatDoorU2
import Derived.Test.YtikfeemmjfoffaaGreatDoorG0
import Derived.Test.YtikfeemmjfoffaaGreatDoorPJ
import Derived.Lib.AppendStr
import Derived.Lib.SlBytesRow
/- Trees: slices.Concat of rows of numbers; the numbers of the text. -/
set_option linter.unusedVariables false
set_option linter.unusedSimpArgs false
namespace Go.Proofs.YtikfeemmjfoffaaGreatDoor
open Go.RowKit Go.Shelf

theorem grow66 (n : Nat) (hn : n ≤ 1000000) (w : World) : Calls Tryz.prog 122 #[.slice none 0 0, .int .i64 n] w fun e w' => ∃ v, e = .returned v ∧ w'.ownsRow w.heap.size 3 1 v 0 [] ∧ Kept w w' := by
  by_cases h0 : n = 0
  · subst h0
    refine (Any8.slices_Grow_room Tryz.laysGrow none 0 0 0 w (by omega) (by omega) (by omega) (by omega)).mono fun e w' ⟨h1, h2⟩ => ?_
    subst h2
    exact ⟨_, h1, World.ownsRow_nil _ _ _ _, kept_refl _⟩
  · obtain ⟨i0, hi, hzz⟩ := Option.map_eq_some_iff.1 info3W
    simp only [Prod.mk.injEq] at hzz
    obtain ⟨hz0, hz1, hz2⟩ := hzz
    refine (Any8.slices_Grow_grow Tryz.laysGrow i0 (.int .i64 0) hi hz0 (by omega) none 0 0 n [] w (by omega) (by omega) (by rw [hz2]; omega) (by omega) (by simp) (fun _ => rfl) (fun a h => by cases h)).mono fun e w' ⟨h1, h2⟩ => ?_
    subst h2
    refine ⟨_, h1, ?_, kept_alloc (kept_drew (kept_refl w)) _⟩
    have hge := grownCap_ge w (0 + n) 0 3
    have hle := grownCap_le_maxLen w (0 + n) 0 3 (by simp only [maxLen]; omega)
    have hge' := hge; simp only [Nat.zero_add] at hge'
    refine ⟨rfl, .inr ⟨w.heap.size, _, _, rfl, Nat.le_refl _, heap_alloc_new w.drew _, Nat.zero_le _, hle, ?_, by simp⟩⟩
    show (((#[] : Array Value) ++ Builtin.zeroCells (Value.int .i64 0).cells (0 + n - 0)) ++ Builtin.zeroCells (Value.int .i64 0).cells (grownCap w (0 + n) 0 3 - (0 + n))).size = grownCap w (0 + n) 0 3 * 1
    simp [Builtin.zeroCells, Value.cells]
    omega

theorem flatten_take {ls : List (List Int)} {k : Nat} (h : k < ls.length) : (ls.take (k + 1)).flatten = (ls.take k).flatten ++ ls.getD k [] := by
  rw [List.take_succ_eq_append_getElem h, List.flatten_append, List.getD_eq_getElem?_getD, List.getElem?_eq_getElem h]
  simp
theorem flatten_take_len (ls : List (List Int)) (k : Nat) : (ls.take k).flatten.length ≤ ls.flatten.length := by
  conv => rhs; rw [← List.take_append_drop k ls, List.flatten_append, List.length_append]
  omega

set_option maxRecDepth 100000 in
set_option maxHeartbeats 1000000 in
theorem concat52_any (T : Option Addr) (c : Nat) (ls : List (List Int)) (w : World) (hT : RT w T ls) (hn : ls.length ≤ 1000000) (hS : ls.flatten.length ≤ 1000000) :
    Calls Tryz.prog 105 #[.slice T ls.length c] w (RowPost ls.flatten w) := by
  obtain ⟨N, hN⟩ : ∃ N, N = ls.flatten.length := ⟨_, rfl⟩
  have HN := Lib.hid hN
  rw [← hN] at hS
  clear hN
  have HT := Lib.hid hT; clear hT
  have G := grow66 N hS
  have g0 : decide ((N : Int) < 0) = false := decide_eq_false (by omega)
  have HG := Lib.hid G; clear G
  go_enter Tryz.func105, Tryz.ntmps105
  go_wp2_with fail
  go_loopg [3, 11] ls.length (fun g' s3 s11 wr => ∃ (k n : Nat), k ≤ ls.length ∧ n = (ls.take k).flatten.length ∧ g' = ls.length - k ∧ s3 = .int .i64 n ∧ s11 = .int .i64 k ∧ Kept w wr)
  case atStart => exact ⟨0, 0, by omega, by simp, by omega, rfl, rfl, kept_refl _⟩
  case round =>
    obtain ⟨k, n, hk, hnk, rfl, rfl, rfl, k1⟩ := hrel
    have hle := flatten_take_len ls k
    have hn1 : n ≤ 1000000 := by have := HN.out; omega
    have HK := Lib.hid hnk; clear hnk hle
    by_cases hlt : k < ls.length
    · obtain ⟨tb1, toff, A1, c1, rfl, t0, r1, l1⟩ := (HT.out.kept k1) k hlt
      have hf := flatten_take hlt
      have hle := flatten_take_len ls (k + 1)
      obtain ⟨L, hL⟩ : ∃ L, L = ls.getD k [] := ⟨_, rfl⟩
      rw [← hL] at t0 r1 l1 hf
      have hsum : n + L.length ≤ 1000000 := by rw [hf, List.length_append] at hle; have := HK.out; have := HN.out; omega
      have HF := Lib.hid hf; clear hf hL r1 hle
      have d0 : decide ((n : Int) + (L.length : Int) < 0) = false := decide_eq_false (by omega)
      go_wp2_with fail
      go_roundg (ls.length - (k + 1))
      case rel => exact ⟨k + 1, n + L.length, by omega, by rw [HF.out, List.length_append, HK.out], rfl, by go_num, by go_num, k1⟩
      case measure => omega
    · have : k = ls.length := by omega
      subst this
      have : n = N := by have := HK.out; rw [List.take_length] at this; have := HN.out; omega
      subst this
      clear HK
      go_wp2_with (go_at_call 122; ((with_reducible refine (HG.out _).mono ?_); rintro e w2 ⟨v, rfl, hr, k2⟩))
      have kw := kept_trans k1 k2
      replace hr := hr.mono k1.size
      have sz := kw.size
      obtain ⟨wo, rfl⟩ : ∃ wo : World, wo = w2 := ⟨_, rfl⟩
      go_wp2_with fail
      go_loopg [6, 27] ls.length (fun g' s6 s27 wr => ∃ (k : Nat), k ≤ ls.length ∧ g' = ls.length - k ∧ wr.ownsRow w.heap.size 3 1 s6 (ls.take k).flatten.length (ints (ls.take k).flatten) ∧ s27 = .int .i64 k ∧ Kept w wr)
      case atStart => exact ⟨0, by omega, by omega, by simpa [ints] using hr, rfl, kw⟩
      case round =>
        clear hr kw sz
        obtain ⟨k, hk, rfl, hr, rfl, kw⟩ := hrel
        by_cases hlt : k < ls.length
        · obtain ⟨tb1, toff, A1, c1, rfl, t0, r1, l1⟩ := (HT.out.kept kw) k hlt
          have hf := flatten_take hlt
          have hle := flatten_take_len ls (k + 1)
          obtain ⟨L, hL⟩ : ∃ L, L = ls.getD k [] := ⟨_, rfl⟩
          rw [← hL] at t0 r1 l1 hf
          obtain ⟨F, hF⟩ : ∃ F, F = (ls.take k).flatten := ⟨_, rfl⟩
          rw [← hF] at hr hf
          have hsum : F.length + L.length ≤ 1000000 := by rw [hf, List.length_append] at hle; have := HN.out; omega
          have HF := Lib.hid hf; clear hf hL hF hle
          have sz := kw.size
          go_wp2_with (at_builtin; refine app_any w.heap.size rfl (.tmp 31) (.tmp 32) 24 3 (.int .i64 0) 1 8 rfl Tryz.underlying24 info3W rfl (by omega) (by omega) u6 F.length L.length c1 A1 (ints F) (ints L) rfl rfl (by simp) r1 (one_ints _) hr sz (by omega) ?_; intro v3 w3 hr3 hg3 hat3)
          have k3 : Kept w w3 := kept_grown kw hr (Nat.le_refl _) hg3
          clear hg3 hat3 hr
          go_wp2_with fail
          go_roundg (ls.length - (k + 1))
          case rel => exact ⟨k + 1, by omega, rfl, by rw [HF.out, List.length_append, ← ints_append]; exact hr3, by go_num, k3⟩
          case measure => omega
        · have : k = ls.length := by omega
          subst this
          go_wp2_with fail
          go_ret
          rw [List.take_length] at hr
          exact ⟨_, rfl, hr, kw⟩

/-- The values of rows of numbers. -/
def RV (w : World) (vals : List Value) (ls : List (List Int)) : Prop := vals.length = ls.length ∧ ∀ j, j < ls.length → ∃ A c, vals[j]? = some (.slice A (ls.getD j []).length c) ∧ Rd w A (ints (ls.getD j [])) ∧ (ls.getD j []).length ≤ 140737488355328
theorem RV.kept {w w' : World} {vals : List Value} {ls : List (List Int)} (h : RV w vals ls) (k : Kept w w') : RV w' vals ls := ⟨h.1, fun j hj => by
  obtain ⟨A, c, e, h1, h2⟩ := h.2 j hj
  exact ⟨A, c, e, h1.kept k, h2⟩⟩
theorem rt_of {w : World} {T : Option Addr} {vals : List Value} {ls : List (List Int)} (h : Rd w T vals) (hv : RV w vals ls) : RT w T ls := fun j hj => by
  obtain ⟨A, c, e, h1, h2⟩ := hv.2 j hj
  obtain ⟨b, off, hT, hc⟩ := h.at_ (ne_nil_of_lt (k := j) (by rw [hv.1]; exact hj))
  exact ⟨b, off, A, c, hT, hc j _ e, h1, h2⟩
theorem rv_of {w : World} : ∀ {ls : List (List Int)} {T : Option Addr}, RT w T ls → ∃ vals, Rd w T vals ∧ RV w vals ls
  | [], T, _ => ⟨[], Rd.nil _ _, rfl, fun j hj => absurd hj (by simp)⟩
  | l :: ls, T, h => by
    obtain ⟨b, off, A, c, rfl, h1, h2, h3⟩ := h 0 (by simp)
    have ht : RT w (some ⟨b, off + 1, none⟩) ls := fun j hj => by
      obtain ⟨b', off', A', c', e, q1, q2, q3⟩ := h (j + 1) (by simpa using hj)
      injection e with e
      injection e with e1 e2 _
      subst e1; subst e2
      exact ⟨b, off + 1, A', c', rfl, by rw [show off + 1 + j = off + (j + 1) by omega]; exact q1, q2, q3⟩
    obtain ⟨vals, r1, r2⟩ := rv_of ht
    refine ⟨.slice A l.length c :: vals, ⟨fun _ => ⟨b, off, rfl, fun j v hj => ?_⟩⟩, by simp [r2.1], fun j hj => ?_⟩
    · match j with
      | 0 => simp at hj; subst hj; exact h1
      | j + 1 =>
        simp at hj
        have := r1.at_some hj
        rwa [show off + 1 + j = off + (j + 1) by omega] at this
    · match j with
      | 0 => exact ⟨A, c, rfl, h2, h3⟩
      | j + 1 =>
        obtain ⟨A', c', e, q1, q2⟩ := r2.2 j (by simpa using hj)
        exact ⟨A', c', by simpa using e, by simpa using q1, by simpa using q2⟩
theorem RV.one {w : World} {vals : List Value} {ls : List (List Int)} (h : RV w vals ls) : ∀ u ∈ vals, u.oneCell' = true := by
  intro u hu
  obtain ⟨j, hj, e⟩ := List.mem_iff_getElem.1 hu
  obtain ⟨A, c, e2, _⟩ := h.2 j (by rw [← h.1]; exact hj)
  rw [List.getElem?_eq_getElem hj, e] at e2
  injection e2 with e2
  rw [e2]; rfl
theorem info22 : (Tryz.prog.info? 24).map (fun i => (i.zero, i.size, i.bytes)) = some (some (.slice none 0 0), 1, 24) := by kernel_rfl
theorem Good.len {t : Tr} (g : Good t) : (numsT t).length ≤ 270000 := by
  have h63 := g.tb64; have h64 := g.lv64
  have h1 : (numsT t).length = 2 + t.lv.length + t.tb.length * pw (2 * t.b) := by
    simp only [numsT, List.length_cons, List.length_append, flatten_len g.tw]; omega
  have h2 : pw (2 * t.b) ≤ 4096 := by
    have := g.b6
    unfold pw
    exact Nat.pow_le_pow_right (n := 2) (by omega) (by omega : (2 * t.b).toNat ≤ 12)
  have h3 : t.tb.length * pw (2 * t.b) ≤ 63 * 4096 := Nat.mul_le_mul h63 h2
  omega

set_option maxRecDepth 100000 in
set_option maxHeartbeats 1000000 in
theorem numbers31_any (t : Tr) (g : Good t) (A : Option Addr) (c : Nat) (T : Option Addr) (d : Nat) (w : World) (hA : Rd w A (ints t.lv)) (hT : RT w T t.tb) :
    Calls Tryz.prog 85 #[trV t A c T d] w (RowPost (numsT t) w) := by
  have h63 := g.tb64; have h64 := g.lv64
  have hlen := g.len
  obtain ⟨vals, rT, rV⟩ := rv_of hT
  have o0 := Own.new w 27 [.int .i64 t.h, .int .i64 t.b, .slice A t.lv.length c, .slice T t.tb.length d]
  have K0 := kept_alloc (kept_refl w) (.cells #[.int .i64 t.h, .int .i64 t.b, .slice A t.lv.length c, .slice T t.tb.length d] 27)
  have q0 := o0.cell (j := 0) rfl; have q1 := o0.cell (j := 1) rfl; have q2 := o0.cell (j := 2) rfl; have q3 := o0.cell (j := 3) rfl
  have hvl : vals.length = t.tb.length := rV.1
  have HV := Lib.hid hvl; clear hvl
  obtain ⟨W3, hW3⟩ : ∃ x, x = ((w.alloc (.cells #[.int .i64 t.h, .int .i64 t.b, .slice A t.lv.length c, .slice T t.tb.length d] 27)).alloc (.cells #[.int .i64 t.h, .int .i64 t.b] 3)).alloc (.cells #[.slice (some ⟨w.heap.size + 1, 0, none⟩) 2 2, .slice A t.lv.length c] 24) := ⟨_, rfl⟩
  have K3 : Kept w W3 := by rw [hW3]; exact kept_alloc (kept_alloc K0 _) _
  have O3 : Own W3 (w.heap.size + 2) 24 [.slice (some ⟨w.heap.size + 1, 0, none⟩) 2 2, .slice A t.lv.length c] := by
    rw [hW3]
    have := Own.new ((w.alloc (.cells #[.int .i64 t.h, .int .i64 t.b, .slice A t.lv.length c, .slice T t.tb.length d] 27)).alloc (.cells #[.int .i64 t.h, .int .i64 t.b] 3)) 24 [.slice (some ⟨w.heap.size + 1, 0, none⟩) 2 2, .slice A t.lv.length c]
    simpa using this
  have O2 : Own W3 (w.heap.size + 1) 3 (ints [t.h, t.b]) := by
    rw [hW3]
    refine Own.alloc ?_ _
    have := Own.new (w.alloc (.cells #[.int .i64 t.h, .int .i64 t.b, .slice A t.lv.length c, .slice T t.tb.length d] 27)) 3 (ints [t.h, t.b])
    simpa [ints] using this
  have R3 : W3.ownsRow (w.heap.size + 1) 24 1 (.slice (some ⟨w.heap.size + 2, 0, none⟩) 2 2) 2 [.slice (some ⟨w.heap.size + 1, 0, none⟩) 2 2, .slice A t.lv.length c] := O3.row (w.heap.size + 1) 1 2 (by omega) rfl (by omega)
  have S3 : w.heap.size + 1 ≤ W3.heap.size := by have := O3.lt; omega
  -- the rows that Concat is handed
  have FIN : ∀ (v4 : Value) (w4 : World), w4.ownsRow (w.heap.size + 1) 24 1 v4 (2 + t.tb.length) ([.slice (some ⟨w.heap.size + 1, 0, none⟩) 2 2, .slice A t.lv.length c] ++ vals) → W3.grownBy w4 (some (w.heap.size + 2)) → ∃ A4 c4, v4 = .slice A4 (2 + t.tb.length) c4 ∧ Kept w w4 ∧ Calls Tryz.prog 105 #[.slice A4 (2 + t.tb.length) c4] w4 (RowPost (numsT t) w4) := by
    intro v4 w4 hr hg
    obtain ⟨A4, c4, rfl, hr⟩ := row_form hr
    have k4 : Kept w w4 := ⟨hg.os.trans K3.os, hg.tape.trans K3.tape, hg.output.trans K3.output, Nat.le_trans K3.size hg.size, fun k hk => (hg.block k (by have := K3.size; omega) (by intro h; injection h; omega)).trans (K3.block k hk)⟩
    refine ⟨A4, c4, rfl, k4, ?_⟩
    have o2 := O2.grown hg (by intro h; injection h; omega)
    have rv : RV w4 ([.slice (some ⟨w.heap.size + 1, 0, none⟩) 2 2, .slice A t.lv.length c] ++ vals) ([t.h, t.b] :: t.lv :: t.tb) := by
      have rV4 := rV.kept k4
      refine ⟨by simp [rV4.1], fun j hj => ?_⟩
      match j with
      | 0 => exact ⟨_, _, rfl, o2.rd, by simp⟩
      | 1 => exact ⟨_, _, rfl, hA.kept k4, by simp; omega⟩
      | j + 2 =>
        obtain ⟨A', c', e, r1, r2⟩ := rV4.2 j (by simpa using hj)
        exact ⟨A', c', by simpa using e, by simpa using r1, by simpa using r2⟩
    have e1 : ([t.h, t.b] :: t.lv :: t.tb).length = 2 + t.tb.length := by simp; omega
    have e2 : ([t.h, t.b] :: t.lv :: t.tb).flatten = numsT t := by simp [numsT]
    have C := concat52_any A4 c4 ([t.h, t.b] :: t.lv :: t.tb) w4 (rt_of (row_rd hr) rv) (by rw [e1]; omega) (by rw [e2]; omega)
    rw [e1, e2] at C
    exact C
  have HF := Lib.hid FIN
  have HA := Lib.hid hA; have HT := Lib.hid (rT.kept K3); have HR := Lib.hid rV.one; have HL := Lib.hid hlen
  clear hA hT rT rV hlen g FIN
  have HW := Lib.hid hW3; clear hW3
  go_enter Tryz.func85, Tryz.ntmps85
  go_wp2_with (first | (at_builtin; rw [← HW.out]; refine app_any (w.heap.size + 1) rfl (.tmp 10) (.tmp 12) 25 24 (.slice none 0 0) 1 24 rfl Tryz.underlying25 info22 rfl (by omega) (by omega) (.slice (some ⟨w.heap.size + 2, 0, none⟩) 2 2) 2 t.tb.length d T _ vals rfl rfl (by rw [HV.out]; simp) HT.out HR.out R3 S3 (by omega) ?_; intro v4 w4 hr4 hg4 _; obtain ⟨A4, c4, rfl, k4, C⟩ := HF.out v4 w4 hr4 hg4) | (go_at_call 105; ((with_reducible refine C.mono ?_); rintro e w5 ⟨v, rfl, hr, k5⟩)))
  go_ret
  exact ⟨v, rfl, hr.mono k4.size, kept_trans k4 k5⟩
end Go.Proofs.YtikfeemmjfoffaaGreatDoor

/- Trees: Text (the program). -/
set_option linter.unusedVariables false
set_option linter.unusedSimpArgs false
namespace Go.Proofs.YtikfeemmjfoffaaGreatDoor
open Go.RowKit Go.Shelf

theorem info9 : (Tryz.prog.info? 9).map (fun i => (i.zero, i.size, i.bytes)) = some (some (.string ⟨#[]⟩), 1, 16) := by kernel_rfl
def strs (l : List (List UInt8)) : List Value := l.map fun b => .string ⟨b.toArray⟩
@[simp] theorem strs_length (l : List (List UInt8)) : (strs l).length = l.length := by simp [strs]
theorem strs_one (l : List (List UInt8)) : ∀ u ∈ strs l, u.oneCell' = true := by
  intro u hu
  obtain ⟨x, _, rfl⟩ := List.mem_map.1 hu
  rfl
/-- The words of the text. -/
def wordsT (t : Tr) : List (List UInt8) := ((numsT t).map Int.toNat).map dig2
@[simp] theorem wordsT_length (t : Tr) : (wordsT t).length = (numsT t).length := by simp [wordsT]
theorem wordsT_take {t : Tr} {k : Nat} (h : k < (numsT t).length) : strs ((wordsT t).take (k + 1)) = strs ((wordsT t).take k) ++ [.string ⟨(dig2 (ia (numsT t) k).toNat).toArray⟩] := by
  rw [List.take_succ_eq_append_getElem (by simpa using h)]
  simp only [strs, List.map_append, List.map_cons, List.map_nil]
  congr 3
  simp [wordsT, ia, List.getD_eq_getElem?_getD, List.getElem?_eq_getElem h]
theorem itoa30 {n : Nat} (h : n ≤ 99) (w : World) : Calls Tryz.prog 86 #[.int .i64 (n : Int)] w fun e w' => e = .returned (.string ⟨(dig2 n).toArray⟩) ∧ w = w' := by
  refine (Tryz.strconv_Itoa_small n (by omega) w).mono fun e w' ⟨h1, h2⟩ => ⟨?_, h2.symm⟩
  rw [h1, decDigits_dig2 h]
theorem joinT (t : Tr) (g : Good t) (gb cap : Nat) (rest : List Value) (w : World) (og : Own w gb 9 (strs (wordsT t) ++ rest)) (hc : (numsT t).length ≤ cap) :
    Calls Tryz.prog 87 #[.slice (some ⟨gb, 0, none⟩) (numsT t).length cap, .string ⟨#[32]⟩] w fun e w' => e = .returned (.string ⟨(textT t).toArray⟩) ∧ Kept w w' := by
  have e0 : ((wordsT t).map fun b => (⟨b.toArray⟩ : ByteArray)).map (·.data.toList) = wordsT t := by
    rw [List.map_map]; exact List.map_id'' (fun b => rfl) _
  have e1 : ((wordsT t).map fun b => (⟨b.toArray⟩ : ByteArray)).length = (numsT t).length := by simp
  have e2 : Lib.join (wordsT t) [32] = textT t := join_text _
  have hl := g.len
  have ht := textN_len ((numsT t).map Int.toNat)
  have := Tryz.strings_Join gb 0 cap ((wordsT t).map fun b => (⟨b.toArray⟩ : ByteArray)) ⟨#[32]⟩ w (fun j x hj => by
      rw [Nat.zero_add]
      refine og.cell ?_
      rw [List.getElem?_append_left (by have := (List.getElem?_eq_some_iff.1 hj).1; simpa using this)]
      simp only [List.getElem?_map] at hj
      simp only [strs, List.getElem?_map]
      obtain ⟨b, hb, rfl⟩ := Option.map_eq_some_iff.1 hj
      rw [hb]; rfl) og.lt (by rw [e1]; omega) (by rw [e1]; exact hc) (by
      rw [e0]
      show (Lib.join (wordsT t) [32]).length ≤ _
      rw [e2]; unfold textT
      simp only [List.length_map] at ht
      omega)
  rw [e0, e1] at this
  have e3 : Lib.join (wordsT t) (⟨#[32]⟩ : ByteArray).data.toList = textT t := e2
  rw [e3] at this
  exact this
def TextPost (t : Tr) (w : World) (e : Ending) (w' : World) : Prop :=
  e = .returned (.tuple (if validT t = true then (if (textT t).length ≤ 40000 then #[.string ⟨(textT t).toArray⟩, .int .i64 0] else #[.string ⟨#[]⟩, .int .i64 5]) else #[.string ⟨#[]⟩, .int .i64 1])) ∧ Kept w w'
set_option maxRecDepth 100000 in
set_option maxHeartbeats 1000000 in
theorem text11_yes (t : Tr) (hv : validT t = true) (A : Option Addr) (c : Nat) (T : Option Addr) (d : Nat) (w : World) (hA : Rd w A (ints t.lv)) (hT : RT w T t.tb) :
    Calls Tryz.prog 62 #[trV t A c T d] w (TextPost t w) := by
  have g := good_of hv
  have h63 := g.tb64; have h64 := g.lv64
  have hlen := g.len
  have hne : 2 ≤ (numsT t).length := by simp [numsT]
  obtain ⟨n, hn⟩ : ∃ n, n = (numsT t).length := ⟨_, rfl⟩
  have o0 := Own.new w 27 [.int .i64 t.h, .int .i64 t.b, .slice A t.lv.length c, .slice T t.tb.length d]
  have K0 := kept_alloc (kept_refl w) (.cells #[.int .i64 t.h, .int .i64 t.b, .slice A t.lv.length c, .slice T t.tb.length d] 27)
  have q0 := o0.cell (j := 0) rfl; have q1 := o0.cell (j := 1) rfl; have q2 := o0.cell (j := 2) rfl; have q3 := o0.cell (j := 3) rfl
  have C1 := valid18_any t.h t.b A c t.lv T d t.tb _ (hA.kept K0) (hT.kept K0) (by omega) (by omega)
  rw [show validT ⟨t.h, t.b, t.lv, t.tb⟩ = true from hv] at C1
  have C2 := Lib.hid fun (w' : World) (k : Kept w w') => numbers31_any t g A c T d w' (hA.kept k) (hT.kept k)
  have H99 := Lib.hid g.nums
  have CJ := Lib.hid (joinT t g)
  obtain ⟨s, hs⟩ : ∃ s : ByteArray, s = ⟨(textT t).toArray⟩ := ⟨_, rfl⟩
  have hsz : s.size = (textT t).length := by rw [hs]; rfl
  rw [← hs] at CJ
  have HP : ∀ w', Kept w w' → ((textT t).length ≤ 40000 → TextPost t w (.returned (.tuple #[.string s, .int .i64 0])) w') ∧ (¬ (textT t).length ≤ 40000 → TextPost t w (.returned (.tuple #[.string ⟨#[]⟩, .int .i64 5])) w') := fun w' k =>
    ⟨fun h => ⟨by rw [if_pos hv, if_pos h, hs], k⟩, fun h => ⟨by rw [if_pos hv, if_neg h], k⟩⟩
  have HPH := Lib.hid HP
  rw [← hn] at hlen hne CJ
  have HN := Lib.hid hn
  have HSZ := Lib.hid hsz
  clear hv g hA hT hn hsz hs HP
  go_enter Tryz.func62, Tryz.ntmps62
  go_wp2_with (first | (go_at_call 44; ((with_reducible refine C1.mono ?_); rintro e w1 ⟨rfl, k1⟩; replace q0 := kept_cell k1 q0; replace q1 := kept_cell k1 q1; replace q2 := kept_cell k1 q2; replace q3 := kept_cell k1 q3; have kk := kept_trans K0 k1)) | (go_at_call 85; ((with_reducible refine (C2.out _ kk).mono ?_); rintro e w2 ⟨v, rfl, hr0, k2⟩; obtain ⟨An, cn, rfl, hr1⟩ := row_form hr0; have rn := row_rd hr1; rw [← HN.out]; have kw := kept_trans kk k2)))
  clear q0 q1 q2 q3 o0 C1 k1 kk k2 hr0 hr1 K0
  have hw2 := kw.size
  go_loopg [4, 14] n (fun g' s4 s14 wr => ∃ (k : Nat), k ≤ n ∧ g' = n - k ∧ wr.ownsRow w2.heap.size 9 1 s4 k (strs ((wordsT t).take k)) ∧ s14 = .int .i64 k ∧ Kept w wr ∧ Kept w2 wr)
  case atStart => exact ⟨0, by omega, by omega, World.ownsRow_nil _ _ _ _, rfl, kw, kept_refl _⟩
  case round =>
    clear kw
    obtain ⟨k, hk, rfl, hr, rfl, kw, kw2⟩ := hrel
    have sz := kw2.size
    by_cases hlt : k < n
    · have hlt2 : k < (numsT t).length := by have := HN.out; omega
      obtain ⟨b1, f1, rfl, h1⟩ := rn.int hlt2
      have a0 := kept_cell kw2 (h1 k hlt2)
      have hx := H99.out (ia (numsT t) k) (ia_mem hlt2)
      have hW := wordsT_take hlt2
      obtain ⟨x, e1⟩ : ∃ x : Nat, ia (numsT t) k = x := ⟨(ia (numsT t) k).toNat, by omega⟩
      rw [e1] at a0 hx hW
      rw [Int.toNat_natCast] at hW
      have hW' := Lib.hid hW
      clear h1 e1 hW
      have CI := Lib.hid (itoa30 (n := x) (by omega))
      obtain ⟨dg, hdg⟩ : ∃ dg : ByteArray, dg = ⟨(dig2 x).toArray⟩ := ⟨_, rfl⟩
      rw [← hdg] at CI hW'
      clear hdg
      obtain ⟨F, hF⟩ : ∃ F, F = strs ((wordsT t).take k) := ⟨_, rfl⟩
      rw [← hF] at hr hW'
      clear hF
      go_wp2_with (first | (go_at_call 86; ((with_reducible refine (CI.out _).mono ?_); rintro e w3 ⟨rfl, rfl⟩)) | (at_builtin; refine app_law w2.heap.size rfl (.tmp 18) (.tmp 21) 95 9 (.string ⟨#[]⟩) 1 16 rfl Tryz.underlying95 info9 rfl (by omega) (by omega) u4 k 1 F [.string dg] rfl rfl rfl (by simp [Value.oneCell']) hr sz (by omega) ?_; intro v3 w3 hr3 hg3 hat3))
      have k3 : Kept w w3 := kept_grown kw hr hw2 hg3
      have k32 : Kept w2 w3 := kept_grown kw2 hr (Nat.le_refl _) hg3
      clear hg3 hat3 hr CI
      go_wp2_with fail
      go_roundg (n - (k + 1))
      case rel => exact ⟨k + 1, by omega, rfl, by rw [hW'.out]; exact hr3, by go_num, k3, k32⟩
      case measure => omega
    · have : k = n := by omega
      subst this
      have hlw : (wordsT t).length = k := by rw [wordsT_length, HN.out]
      rw [← hlw, List.take_length, hlw] at hr
      obtain ⟨gb, cap, rest, rfl, _, og, hc1, _⟩ := row_own hr (by omega)
      have C3 := Lib.hid (CJ.out gb cap rest wr og hc1)
      clear hr og CJ hlw
      by_cases hb : (textT t).length ≤ 40000
      · have d1 : decide ((40000 : Int) < (s.size : Int)) = false := decide_eq_false (by rw [HSZ.out]; omega)
        have d2 : decide (40000 < s.size) = false := decide_eq_false (by rw [HSZ.out]; omega)
        have HB := Lib.hid hb; clear hb
        go_wp2_with (go_at_call 87; ((with_reducible refine C3.out.mono ?_); rintro e w4 ⟨rfl, k4⟩))
        go_ret2
        exact (HPH.out _ (kept_trans kw k4)).1 HB.out
      · have d1 : decide ((40000 : Int) < (s.size : Int)) = true := decide_eq_true (by rw [HSZ.out]; omega)
        have d2 : decide (40000 < s.size) = true := decide_eq_true (by rw [HSZ.out]; omega)
        have HB := Lib.hid hb; clear hb
        go_wp2_with (go_at_call 87; ((with_reducible refine C3.out.mono ?_); rintro e w4 ⟨rfl, k4⟩))
        go_ret2
        exact (HPH.out _ (kept_trans kw k4)).2 HB.out
set_option maxRecDepth 100000 in
set_option maxHeartbeats 1000000 in
theorem text11_no (t : Tr) (hv : validT t = false) (A : Option Addr) (c : Nat) (T : Option Addr) (d : Nat) (w : World) (hA : Rd w A (ints t.lv)) (hT : RT w T t.tb) (hl : t.lv.length ≤ 140737488355328) (ht : t.tb.length ≤ 140737488355328) :
    Calls Tryz.prog 62 #[trV t A c T d] w (TextPost t w) := by
  have o0 := Own.new w 27 [.int .i64 t.h, .int .i64 t.b, .slice A t.lv.length c, .slice T t.tb.length d]
  have K0 := kept_alloc (kept_refl w) (.cells #[.int .i64 t.h, .int .i64 t.b, .slice A t.lv.length c, .slice T t.tb.length d] 27)
  have q0 := o0.cell (j := 0) rfl; have q1 := o0.cell (j := 1) rfl; have q2 := o0.cell (j := 2) rfl; have q3 := o0.cell (j := 3) rfl
  have C1 := valid18_any t.h t.b A c t.lv T d t.tb _ (hA.kept K0) (hT.kept K0) hl ht
  rw [show validT ⟨t.h, t.b, t.lv, t.tb⟩ = false from hv] at C1
  have HPH := Lib.hid (show ∀ w', Kept w w' → TextPost t w (.returned (.tuple #[.string ⟨#[]⟩, .int .i64 1])) w' from fun w' k => ⟨by rw [hv]; rfl, k⟩)
  clear hv hA hT
  go_enter Tryz.func62, Tryz.ntmps62
  go_wp2_with (go_at_call 44; ((with_reducible refine C1.mono ?_); rintro e w1 ⟨rfl, k1⟩; have kk := kept_trans K0 k1))
  go_ret2
  exact HPH.out _ kk
theorem text11_any (t : Tr) (A : Option Addr) (c : Nat) (T : Option Addr) (d : Nat) (w : World) (hA : Rd w A (ints t.lv)) (hT : RT w T t.tb) (hl : t.lv.length ≤ 140737488355328) (ht : t.tb.length ≤ 140737488355328) :
    Calls Tryz.prog 62 #[trV t A c T d] w (TextPost t w) := by
  cases hv : validT t with
  | true => exact text11_yes t hv A c T d w hA hT
  | false => exact text11_no t hv A c T d w hA hT hl ht
end Go.Proofs.YtikfeemmjfoffaaGreatDoor

/- Trees: Text (the reference). -/
set_option linter.unusedVariables false
set_option linter.unusedSimpArgs false
namespace Go.Proofs.YtikfeemmjfoffaaGreatDoor
open Go.RowKit Go.Shelf

theorem info5W : (Tryz.prog.info? 5).map (fun i => (i.zero, i.size, i.bytes)) = some (some (.int .u8 0), 1, 1) := by kernel_rfl
def bysW (l : List UInt8) : List Value := l.map fun b => .int .u8 b.toNat
@[simp] theorem bys_lengthW (l : List UInt8) : (bysW l).length = l.length := by simp [bysW]
theorem bys_appendW (l m : List UInt8) : bysW l ++ bysW m = bysW (l ++ m) := by simp [bysW]
theorem bys_str (l : List UInt8) : Lib.strCells ⟨l.toArray⟩ = bysW l := rfl
section
variable {P : Program} {ops : Array Oper} {rest : List Oper} {o : Oper} {a : Act} {Q : Exit → Act → World → Prop}
/-- append(b, s...) where s is a string. -/
theorem app_str {W : World} (B : Nat) (hgd : o.guard = none) (s x : Operand) (t u e : TypeId)
    (ho : o.op = .call { callee := .builtin .append, args := #[s, x], argTypes := #[t, u] })
    (ht : P.underlying t = some (.slice e)) (hu : P.underlying u = some .string) (hinfo : (P.info? e).map (fun i => (i.zero, i.size, i.bytes)) = some (some (.int .u8 0), 1, 1))
    (v : Value) (n : Nat) (xs ys : List UInt8) (hs : a.eval s = v) (hx : a.eval x = .string ⟨ys.toArray⟩)
    (HO : W.ownsRow B e 1 v n (bysW xs)) (hB : B ≤ W.heap.size) (hl : n + ys.length ≤ 140737488355328)
    (h : ∀ v1 w1, w1.ownsRow B e 1 v1 (n + ys.length) (bysW (xs ++ ys)) → W.grownBy w1 v.ownBlock → wpList P ops Q rest (a.put o.dst v1) w1) :
    wpList P ops Q (o :: rest) a W := by
  obtain ⟨i0, hi, hzz⟩ := Option.map_eq_some_iff.1 hinfo
  simp only [Prod.mk.injEq] at hzz
  obtain ⟨hz0, hz1, hz2⟩ := hzz
  refine Lib.wpList_append_own_string W hgd s x t u ho B e i0 ht hu hi hz0 hz1 hz2 v n (bysW xs) hs HO ⟨ys.toArray⟩ hx (by show n + ys.length ≤ maxLen; simp only [maxLen]; omega) hl hB ?_
  intro v1 w1 h1 h2 _
  refine h v1 w1 ?_ h2
  rw [bys_str, bys_appendW] at h1
  exact h1
end
/-- string(b) of bytes that are read. -/
theorem conv_str {w : World} {g cap : Nat} {l : List UInt8} {rest : List Value} (h : Own w g 5 (bysW l ++ rest)) : (convert 150 9 (.slice (some ⟨g, 0, none⟩) l.length cap)).run Tryz.prog w = .ok (.string ⟨l.toArray⟩) w := by
  have := Lib.run_convert_whole (P := Tryz.prog) w 150 5 9 Tryz.underlying150 Tryz.underlying5 Tryz.underlying9 g 0 ⟨l.toArray⟩ (fun i hi => by
    rw [Nat.zero_add]
    have hi' : i < l.length := hi
    refine h.cell ?_
    rw [List.getElem?_append_left (by simpa using hi')]
    simp only [bysW, List.getElem?_map, List.getElem?_eq_getElem hi', Option.map_some]
    rfl) cap
  exact this

def numsTo (t : Tr) (k : Nat) : List Int := t.h :: t.b :: (t.lv ++ (t.tb.take k).flatten)
theorem numsTo_succ {t : Tr} {k : Nat} (h : k < t.tb.length) : numsTo t (k + 1) = numsTo t k ++ t.tb.getD k [] := by
  unfold numsTo; rw [flatten_take h]; simp
theorem numsTo_all (t : Tr) : numsTo t t.tb.length = numsT t := by unfold numsTo; rw [List.take_length]; rfl
theorem numsTo_len (t : Tr) (k : Nat) : (numsTo t k).length ≤ (numsT t).length := by
  have := flatten_take_len t.tb k
  simp only [numsTo, numsT, List.length_cons, List.length_append]
  omega
/-- The text of the first k numbers. -/
def txt (t : Tr) (k : Nat) : List UInt8 := textN (((numsT t).take k).map Int.toNat)
theorem txt_succ {t : Tr} {k : Nat} (h : k < (numsT t).length) : txt t (k + 1) = txt t k ++ (if k = 0 then [] else [32]) ++ dig2 (ia (numsT t) k).toNat := by
  unfold txt
  rw [List.take_succ_eq_append_getElem h, List.map_append, List.map_cons, List.map_nil, textN_snoc]
  have e1 : ia (numsT t) k = (numsT t)[k] := by simp [ia, List.getD_eq_getElem?_getD, List.getElem?_eq_getElem h]
  rw [e1]
  congr 2
  by_cases h0 : k = 0
  · subst h0; simp
  · rw [if_neg h0, if_neg]
    intro h1
    have := congrArg List.length h1
    simp at this
    rcases this with h2 | h2
    · exact h0 h2
    · rw [h2] at h; simp at h
theorem txt_all (t : Tr) : txt t (numsT t).length = textT t := by unfold txt; rw [List.take_length]; rfl
theorem txt_len (t : Tr) (k : Nat) : (txt t k).length ≤ 3 * (numsT t).length := by
  have := textN_len (((numsT t).take k).map Int.toNat)
  unfold txt
  simp only [List.length_map, List.length_take] at this
  omega

end Go.Proofs.YtikfeemmjfoffaaGreatDoor

/- Trees: the numbers of a string (the reference). -/
set_option linter.unusedVariables false
set_option linter.unusedSimpArgs false
namespace Go.Proofs.YtikfeemmjfoffaaGreatDoor
open Go.RowKit Go.Shelf

def natI (l : List Nat) : List Int := l.map fun n : Nat => (n : Int)
@[simp] theorem natI_length (l : List Nat) : (natI l).length = l.length := by simp [natI]
theorem natI_snoc (l : List Nat) (n : Nat) : natI l ++ [(n : Int)] = natI (l ++ [n]) := by simp [natI]
/-- Behind the numbers out, at place i. -/
def Sta (l : List UInt8) (i n d : Nat) (out : List Nat) : Prop := (i ≤ l.length ∧ Reads l i n d out) ∨ (i = l.length + 1 ∧ readN l 0 0 = some out)
theorem endOk_true {n d : Nat} (h1 : d ≠ 0) (h2 : d ≤ 2) (h3 : d ≠ 2 ∨ 10 ≤ n) : endOk n d = true := by
  simp only [endOk, Bool.not_eq_true', Bool.or_eq_false_iff, Bool.and_eq_false_iff, beq_eq_false_iff_ne, decide_eq_false_iff_not]
  omega
theorem endOk_false {n d : Nat} (h : d = 0 ∨ 2 < d ∨ (d = 2 ∧ n < 10)) : endOk n d = false := by
  simp only [endOk, Bool.not_eq_false', Bool.or_eq_true, Bool.and_eq_true, beq_iff_eq, decide_eq_true_eq]
  omega
def NumPost (s : ByteArray) (w : World) (e : Ending) (w' : World) : Prop :=
  match readN s.data.toList 0 0 with
  | none => e = .returned (.tuple #[.slice none 0 0, .bool false]) ∧ Kept w w'
  | some out => ∃ v, e = .returned (.tuple #[v, .bool true]) ∧ w'.ownsRow w.heap.size 3 1 v out.length (ints (natI out)) ∧ Kept w w'
theorem num_none {s : ByteArray} {w w' : World} (h : readN s.data.toList 0 0 = none) (k : Kept w w') : NumPost s w (.returned (.tuple #[.slice none 0 0, .bool false])) w' := by
  unfold NumPost; rw [h]; exact ⟨rfl, k⟩
theorem num_some {s : ByteArray} {w w' : World} {out : List Nat} {v : Value} (h : readN s.data.toList 0 0 = some out) (hr : w'.ownsRow w.heap.size 3 1 v out.length (ints (natI out))) (k : Kept w w') : NumPost s w (.returned (.tuple #[v, .bool true])) w' := by
  unfold NumPost; rw [h]; exact ⟨v, rfl, hr, k⟩

theorem byte_get {s : ByteArray} {i : Nat} (h : i < s.size) : s.data.toList[i]'(by simpa using h) = s[i] := by
  simp [ByteArray.getElem_eq_getElem_data]
theorem c32 {s : ByteArray} {i : Nat} (h : i < s.size) (hA : ((i : Int) == (s.size : Int)) = true ∨ ((s[i].toNat : Int) == 32) = true) : s[i].toNat = 32 := by
  rcases hA with h1 | h1
  · simp at h1; omega
  · simp at h1; omega
theorem n32 {s : ByteArray} {i : Nat} (h : i < s.size) (hA : ((i : Int) == (s.size : Int)) = false ∧ ((s[i].toNat : Int) == 32) = false) : s[i].toNat ≠ 32 := by
  have := hA.2
  simp at this
  omega
theorem blank_bad {s : ByteArray} {i n d : Nat} {out : List Nat} (hR : Reads s.data.toList i n d out) (h : i < s.size) (hc : s[i].toNat = 32) (he : endOk n d = false) : readN s.data.toList 0 0 = none :=
  reads_none1 hR (by simpa using h) (by rw [byte_get h]; exact hc) he
theorem blank_ok {s : ByteArray} {i n d : Nat} {out : List Nat} (hR : Reads s.data.toList i n d out) (h : i < s.size) (hc : s[i].toNat = 32) (he : endOk n d = true) : Sta s.data.toList (i + 1) 0 0 (out ++ [n]) :=
  .inl ⟨by simp; omega, reads_blank hR (by simpa using h) (by rw [byte_get h]; exact hc) he⟩
theorem char_bad {s : ByteArray} {i n d : Nat} {out : List Nat} (hR : Reads s.data.toList i n d out) (h : i < s.size) (hc : s[i].toNat ≠ 32) (h1 : s[i].toNat < 48 ∨ 57 < s[i].toNat) : readN s.data.toList 0 0 = none :=
  reads_none2 hR (by simpa using h) (by rw [byte_get h]; exact hc) (by rw [byte_get h]; exact h1)
theorem digit_ok {s : ByteArray} {i n d : Nat} {out : List Nat} (hR : Reads s.data.toList i n d out) (h : i < s.size) (h1 : 48 ≤ s[i].toNat) (h2 : s[i].toNat ≤ 57) : Sta s.data.toList (i + 1) (min (10 * n + (s[i].toNat - 48)) 1000) (d + 1) out :=
  .inl ⟨by simp; omega, by
    have := reads_digit hR (by simpa using h) (by rw [byte_get h]; exact h1) (by rw [byte_get h]; exact h2)
    rwa [byte_get h] at this⟩
end Go.Proofs.YtikfeemmjfoffaaGreatDoor

/- Trees: Parse (the reference). -/
set_option linter.unusedVariables false
set_option linter.unusedSimpArgs false
namespace Go.Proofs.YtikfeemmjfoffaaGreatDoor
open Go.RowKit Go.Shelf

def RParsePost (s : ByteArray) (w : World) (e : Ending) (w' : World) : Prop :=
  match parseR s.data.toList with
  | none => (∃ h b A n c T m d, e = .returned (.tuple #[.agg #[.int .i64 h, .int .i64 b, .slice A n c, .slice T m d], .bool false])) ∧ Kept w w'
  | some t => ∃ A c T d, e = .returned (.tuple #[trV t A c T d, .bool true]) ∧ Rd w' A (ints t.lv) ∧ RT w' T t.tb ∧ Kept w w'
theorem rp_none {s : ByteArray} {w w' : World} {e : Ending} {h b : Int} {A T : Option Addr} {n c m d : Nat} (hp : parseR s.data.toList = none) (he : e = .returned (.tuple #[.agg #[.int .i64 h, .int .i64 b, .slice A n c, .slice T m d], .bool false])) (k : Kept w w') : RParsePost s w e w' := by
  unfold RParsePost; rw [hp]; exact ⟨⟨h, b, A, n, c, T, m, d, he⟩, k⟩
theorem rp_some {s : ByteArray} {w w' : World} {e : Ending} {t : Tr} {A T : Option Addr} {c d : Nat} (hp : parseR s.data.toList = some t) (he : e = .returned (.tuple #[trV t A c T d, .bool true])) (h1 : Rd w' A (ints t.lv)) (h2 : RT w' T t.tb) (k : Kept w w') : RParsePost s w e w' := by
  unfold RParsePost; rw [hp]; exact ⟨A, c, T, d, he, h1, h2, k⟩

theorem parseR_out {s : List UInt8} {out : List Nat} (h : readN s 0 0 = some out) : parseR s = (if 40000 < s.length ∨ (natI out).length < 2 ∨ 6 < (natI out).getD 0 0 ∨ (natI out).getD 1 0 < 1 ∨ 6 < (natI out).getD 1 0 then none
    else if (natI out).length ≠ 2 + pw ((natI out).getD 0 0) + (pw ((natI out).getD 0 0) - 1) * pw (2 * (natI out).getD 1 0) then none
    else if validT (ofNums (natI out)) = true then some (ofNums (natI out)) else none) := by
  unfold parseR; rw [h]; rfl

end Go.Proofs.YtikfeemmjfoffaaGreatDoor

/- Trees: Parse (the reference), where the numbers are in range. -/
set_option linter.unusedVariables false
set_option linter.unusedSimpArgs false
namespace Go.Proofs.YtikfeemmjfoffaaGreatDoor
open Go.RowKit Go.Shelf

theorem shl_one {b N : Nat} (h : N = 2 ^ b) (hl : N ≤ 1000000000) : wrap64 (2 ^ b) = (N : Int) ∧ IntKind.i64.wrap (2 ^ b) = (N : Int) := by
  have e : (2 : Int) ^ b = (N : Int) := by rw [h]; simp
  rw [e]
  exact ⟨w64_nat hl, iw_nat hl⟩
theorem size22 : ∀ w, (Go.sizeOf 3).run Tryz.prog w = .ok 1 w := fun w => by kernel_rfl
theorem slice_win (g n cap lo hi m : Nat) (h : lo < hi) (hc : hi ≤ cap) (hm : hi - lo = m) (W : World) :
    (Instr.slice 24 (.slice (some ⟨g, 0, none⟩) n cap) (some (.int .i64 (lo : Int))) (some (.int .i64 (hi : Int))) none).run Tryz.prog W = .ok (.slice (some ⟨g, lo, none⟩) m (cap - lo)) W := by
  have := Lib.run_slice_window (P := Tryz.prog) W 24 3 Tryz.underlying24 size22 g 0 n cap lo hi h hc
  rw [Nat.zero_add, hm] at this
  exact this
theorem natI_nonneg (l : List Nat) (k : Nat) : 0 ≤ ia (natI l) k := by
  unfold ia natI
  rw [List.getD_eq_getElem?_getD, List.getElem?_map]
  cases l[k]? <;> simp

theorem chop_get : ∀ (m k : Nat) (l : List Int) (j : Nat), j < k → (chop m k l).getD j [] = (l.drop (j * m)).take m
  | m, 0, l, j, h => by omega
  | m, k + 1, l, 0, h => by simp [chop]
  | m, k + 1, l, j + 1, h => by
    have ih := chop_get m k (l.drop m) j (by omega)
    rw [chop, List.getD_cons_succ, ih, List.drop_drop, Nat.add_mul, Nat.one_mul, Nat.add_comm]
theorem chop_length : ∀ (m k : Nat) (l : List Int), (chop m k l).length = k
  | _, 0, _ => rfl
  | m, k + 1, l => by rw [chop, List.length_cons, chop_length]
/-- The tree of a row of the right length, window by window. -/
theorem winT (l : List Int) (hn bn N M P n N2 : Nat) (e0 : ia l 0 = hn) (e1 : ia l 1 = bn) (hN : N = 2 ^ hn) (hM : M = 2 ^ (2 * bn)) (hP : P = (N - 1) * M) (hl : l.length = n) (h6 : n = 2 + N + P) (h2 : N2 = 2 + N) (hN1 : 1 ≤ N) :
    (ofNums l).h = hn ∧ (ofNums l).b = bn ∧ (ofNums l).lv = (l.drop 2).take N ∧ (ofNums l).lv.length = N ∧ (ofNums l).tb.length = N - 1 ∧
    ∀ j, j < N - 1 → (ofNums l).tb.getD j [] = (l.drop (N2 + j * M)).take M ∧ ((ofNums l).tb.getD j []).length = M ∧ N2 + j * M + M ≤ n := by
  have p1 : pw (hn : Int) = N := by rw [hN]; simp [pw]
  have p2 : pw (2 * (bn : Int)) = M := by rw [hM]; unfold pw; congr 1
  have g0 : l.getD 0 0 = (hn : Int) := e0
  have g1 : l.getD 1 0 = (bn : Int) := e1
  have hlv : (ofNums l).lv = (l.drop 2).take N := by show (l.drop 2).take (pw (l.getD 0 0)) = _; rw [g0, p1]
  have htb : (ofNums l).tb = chop M (N - 1) ((l.drop 2).drop N) := by show chop (pw (2 * l.getD 1 0)) (pw (l.getD 0 0) - 1) ((l.drop 2).drop (pw (l.getD 0 0))) = _; rw [g0, g1, p1, p2]
  refine ⟨g0, g1, hlv, by rw [hlv]; simp; omega, by rw [htb, chop_length], fun j hj => ?_⟩
  have e : (ofNums l).tb.getD j [] = (l.drop (N2 + j * M)).take M := by
    rw [htb, chop_get _ _ _ _ hj, List.drop_drop, List.drop_drop, h2]
    congr 2
    omega
  have hle : (j + 1) * M ≤ (N - 1) * M := Nat.mul_le_mul (by omega) (Nat.le_refl _)
  rw [Nat.add_mul, Nat.one_mul] at hle
  have hb : N2 + j * M + M ≤ n := by omega
  exact ⟨e, by rw [e]; simp; omega, hb⟩
/-- The tables as windows of the row. -/
def tv (g o M cap k : Nat) : List Value := (List.range k).map fun j => .slice (some ⟨g, o + j * M, none⟩) M (cap - (o + j * M))
theorem tv_succ (g o M cap k : Nat) : tv g o M cap (k + 1) = tv g o M cap k ++ [.slice (some ⟨g, o + k * M, none⟩) M (cap - (o + k * M))] := by simp [tv, List.range_succ]
@[simp] theorem tv_length (g o M cap k : Nat) : (tv g o M cap k).length = k := by simp [tv]
end Go.Proofs.YtikfeemmjfoffaaGreatDoor

/- Trees: the function literal of Parse that takes numbers from the front. -/
set_option linter.unusedVariables false
set_option linter.unusedSimpArgs false
namespace Go.Proofs.YtikfeemmjfoffaaGreatDoor
open Go.RowKit Go.Shelf

theorem clone37 (A : Option Addr) (c : Nat) (l : List Int) (w : World) (hA : Rd w A (ints l)) (hl : l.length ≤ 1000000) : Calls Tryz.prog 61 #[.slice A l.length c] w (RowPost l w) := by
  rcases A with _ | a
  · have h0 : l = [] := by
      rcases Classical.em (l = []) with h | h
      · exact h
      · obtain ⟨_, _, e0, _⟩ := hA.at_ (by simpa [ints] using h)
        cases e0
    subst h0
    exact (Tryz.slices_Clone_int_nil 0 c w).mono fun e w' ⟨h1, h2⟩ => ⟨_, h1, World.ownsRow_nil _ _ _ _, by rw [h2]; exact kept_refl _⟩
  · by_cases h0 : l = []
    · subst h0
      exact (Tryz.slices_Clone_int_zero a c w).mono fun e w' ⟨v, h1, h2, _, h4⟩ => ⟨v, h1, h2, h4⟩
    · obtain ⟨b, off, e, hc⟩ := hA.int (k := 0) (List.length_pos_iff.2 h0)
      rw [e]
      have := Tryz.slices_Clone_int b off l.length c l w (Nat.le_refl _) (by omega) (fun j hj => hc j hj)
      rw [List.take_length] at this
      exact this.mono fun e w' ⟨v, h1, h2, _, h4⟩ => ⟨v, h1, h2, h4⟩

/-- The numbers that are left, in the variable's cell. -/
def LS (w : World) (B : Nat) (l : List Int) : Prop := ∃ b off c, Own w B 24 [.slice (some ⟨b, off, none⟩) l.length c] ∧ (∃ cs, Own w b 3 cs) ∧ Rd w (some ⟨b, off, none⟩) (ints l) ∧ l.length ≤ c ∧ c ≤ maxLen
/-- Nothing old has changed but block B. -/
abbrev KB (B : Nat) (w w' : World) : Prop := w.grownBy w' (some B)
def TakePost (B : Nat) (l : List Int) (m : Nat) (w : World) (e : Ending) (w' : World) : Prop :=
  ∃ v : Value, e = .returned v ∧ w'.ownsRow w.heap.size 3 1 v (l.take m).length (ints (l.take m)) ∧ LS w' B (l.drop m) ∧ KB B w w'

theorem ints_take (l : List Int) (m : Nat) : ints (l.take m) = (ints l).take m := by simp [ints, List.map_take]
theorem Rd.take {w : World} {A : Option Addr} {l : List Int} (h : Rd w A (ints l)) (m : Nat) : Rd w A (ints (l.take m)) :=
  ⟨fun hn => by
    have hl : ints l ≠ [] := by intro h0; apply hn; rw [ints_take, h0]; simp
    obtain ⟨b, off, e, hc⟩ := h.at_ hl
    refine ⟨b, off, e, fun j v hj => hc j v ?_⟩
    rw [ints_take] at hj
    have := List.getElem?_take (l := ints l) (i := m) (j := j)
    rw [this] at hj
    split at hj
    · exact hj
    · cases hj⟩
theorem Rd.drop {w : World} {b off : Nat} {l : List Int} (h : Rd w (some ⟨b, off, none⟩) (ints l)) (m : Nat) : Rd w (some ⟨b, off + m, none⟩) (ints (l.drop m)) :=
  ⟨fun _ => ⟨b, off + m, rfl, fun j v hj => by
    have : (ints l)[m + j]? = some v := by
      rw [← hj]; simp only [ints, List.getElem?_map, List.getElem?_drop]
    have := h.at_some this
    rwa [show off + m + j = off + (m + j) by omega]⟩⟩
theorem rd_other {w : World} {b off : Nat} {cs : List Value} {a : Addr} (h : Rd w (some ⟨b, off, none⟩) cs) (ne : b ≠ a.block) (v : Value) : Rd (w.setCell a v) (some ⟨b, off, none⟩) cs :=
  ⟨fun _ => ⟨b, off, rfl, fun j u hj => by
    have := h.at_some hj
    rw [World.cell?_setCell_other w a ⟨b, off + j, none⟩ v (fun e => ne (by rw [e]))]
    exact this⟩⟩
theorem rd_kb {B : Nat} {w w' : World} {b off : Nat} {cs : List Value} (h : Rd w (some ⟨b, off, none⟩) cs) (k : KB B w w') (ne : b ≠ B) : Rd w' (some ⟨b, off, none⟩) cs :=
  ⟨fun _ => ⟨b, off, rfl, fun j u hj => by
    have hc := h.at_some hj
    have hlt := World.block_lt_of_cell? w _ hc
    have := k.block b hlt (by intro e; injection e with e; exact ne e)
    rw [World.cell?_of_block (a := ⟨b, off + j, none⟩) this]
    exact hc⟩⟩
theorem kb_of {B : Nat} {w w' : World} (k : Kept w w') : KB B w w' := ⟨k.os, k.tape, k.output, k.size, fun i hi _ => k.block i hi⟩
theorem kb_set {B : Nat} {w w' : World} (h : KB B w w') (j : Nat) (v : Value) : KB B w (w'.setCell ⟨B, j, none⟩ v) :=
  ⟨h.os, h.tape, h.output, by simpa using h.size, fun i hi hne => (Below.heap_setCell w' ⟨B, j, none⟩ v i (by intro e; exact hne (by rw [e]))).trans (h.block i hi hne)⟩

set_option maxRecDepth 100000 in
set_option maxHeartbeats 1000000 in
theorem take36_any (many : Nat) (hm : many ≤ 1000000) (B : Nat) (l : List Int) (hl : l.length ≤ 1000000) (w : World) (h : LS w B l) :
    Calls Tryz.prog 60 #[.int .i64 many, .pointer (some ⟨B, 0, none⟩)] w (TakePost B l many w) := by
  obtain ⟨b, off, c, o0, ⟨cs, ob⟩, hr, hc, hcm⟩ := h
  have nb : b ≠ B := by rintro rfl; exact absurd (o0.type ob) (by decide)
  have OB := Lib.hid ob; clear ob
  obtain ⟨n, hn⟩ : ∃ n, n = l.length := ⟨_, rfl⟩
  obtain ⟨m, hmm⟩ : ∃ m, m = min many n := ⟨_, rfl⟩
  have hmin : min (many : Int) (n : Int) = (m : Int) := by omega
  have e1 : l.take many = l.take m := by
    rw [hmm, hn]
    by_cases h1 : many ≤ l.length
    · rw [Nat.min_eq_left h1]
    · rw [Nat.min_eq_right (by omega), List.take_length, List.take_of_length_le (by omega)]
  have e2 : l.drop many = l.drop m := by
    rw [hmm, hn]
    by_cases h1 : many ≤ l.length
    · rw [Nat.min_eq_left h1]
    · rw [Nat.min_eq_right (by omega), List.drop_length, List.drop_of_length_le (by omega)]
  have hmn : m ≤ n := by omega
  have lt : (l.take m).length = m := by simp; omega
  have C := clone37 (some ⟨b, off, none⟩) c (l.take m) w (hr.take m) (by omega)
  rw [lt] at C
  have HC := Lib.hid C
  rw [← hn] at o0 hc
  have q0 := o0.cell (j := 0) rfl
  have HN := Lib.hid hn
  have HE := Lib.hid (And.intro e1 (And.intro e2 lt))
  have hmc : m ≤ c := by omega
  have hc63 : c ≤ 9223372036854775807 := by simp only [maxLen] at hcm; omega
  have hn6 : n ≤ 1000000 := by omega
  clear C hn hmm e1 e2 lt
  go_enter Tryz.func60, Tryz.ntmps60
  go_wp2_with (go_at_call 61; ((with_reducible refine HC.out.mono ?_); rintro e w1 ⟨v, rfl, hr1, k1⟩; have o1 := o0.kept k1; have p0 := o1.cell (j := 0) rfl; have f0 := o1.frozen 0))
  · go_ret
    refine ⟨v, rfl, by rw [HE.out.1]; exact ownsRow_setCell_below hr1 (a := ⟨B, 0, none⟩) o0.lt _, ⟨b, off, 0, ?_, ⟨cs, (OB.out.kept k1).other nb _⟩, ?_, ?_, by simp⟩, kb_set (kb_of k1) 0 _⟩
    · have := o1.set 0 (.slice (some ⟨b, off, none⟩) (n - m) 0)
      rw [HE.out.2.1, show (l.drop m).length = n - m by rw [List.length_drop, HN.out]]
      exact this
    · have : l.drop many = [] := by rw [HE.out.2.1]; exact List.drop_of_length_le (by rw [← HN.out]; omega)
      rw [this]; exact Rd.nil _ _
    · rw [HE.out.2.1, List.length_drop, ← HN.out]; omega
  · go_ret
    refine ⟨v, rfl, by rw [HE.out.1]; exact ownsRow_setCell_below hr1 (a := ⟨B, 0, none⟩) o0.lt _, ⟨b, off + m, c - m, ?_, ⟨cs, (OB.out.kept k1).other nb _⟩, ?_, ?_, by omega⟩, kb_set (kb_of k1) 0 _⟩
    · have := o1.set 0 (.slice (some ⟨b, off + m, none⟩) (n - m) (c - m))
      rw [HE.out.2.1, show (l.drop m).length = n - m by rw [List.length_drop, HN.out]]
      exact this
    · rw [HE.out.2.1]; exact rd_other ((hr.kept k1).drop m) (by exact nb) _
    · rw [HE.out.2.1, List.length_drop, ← HN.out]; omega
end Go.Proofs.YtikfeemmjfoffaaGreatDoor
