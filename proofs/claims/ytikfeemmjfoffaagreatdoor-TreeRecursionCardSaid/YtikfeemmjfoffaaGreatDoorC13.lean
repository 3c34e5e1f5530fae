/- Polynomials: the program's Multilinear. -/
import Derived.Test.YtikfeemmjfoffaaGreatDoorC12
set_option linter.unusedVariables false
set_option linter.unusedSimpArgs false
namespace Go.Proofs.YtikfeemmjfoffaaGreatDoor
open Go.RowKit Go.Maps Go.Shelf

theorem info3 : (Tryz.prog.info? 3).map (fun i => (i.zero, i.size, i.bytes)) = some (some (.int .i64 0), 1, 8) := by kernel_rfl
theorem make_ints (n : Nat) (hn : n ≤ 35184372088832) (W : World) :
    (Instr.makeSlice 24 (.int .i64 (n : Int)) (.int .i64 (n : Int))).run Tryz.prog W = .ok (.slice (some ⟨W.heap.size, 0, none⟩) n n) (W.alloc (.cells (ints (List.replicate n 0)).toArray 3)) := by
  have h := run_make_row' (P := Tryz.prog) 24 3 (.int .i64 0) 8 Tryz.underlying24 info3 rfl .i64 .i64 n (by omega) (by omega) W
  rw [made_list] at h
  simpa [ints] using h

/-! ### The coefficients of a table -/
def bitI (b : Bool) : Int := if b then 1 else 0
/-- One step of the transform: entry i at bit k. -/
def mlStep (P M : Int) (k : Nat) (c : List Int) (i : Nat) : List Int := if i.testBit k then c.set i (addF P M (ia c i) (negF P M (ia c (i - 2 ^ k)))) else c
def mlTo (P M : Int) (k : Nat) (c : List Int) (m : Nat) : List Int := (List.range m).foldl (mlStep P M k) c
def mlAll (P M : Int) (c : List Int) (n : Nat) : List Int := (List.range n).foldl (fun c k => mlTo P M k c c.length) c
def bitsL (n i : Nat) : List Int := (List.range n).map fun k => bitI (i.testBit k)
def mlTerms (n : Nat) (c : List Int) (m : Nat) : List Tm := (List.range m).flatMap fun i => if ia c i = 0 then [] else [⟨ia c i, bitsL n i⟩]
theorem mlStep_len (P M : Int) (k : Nat) (c : List Int) (i : Nat) : (mlStep P M k c i).length = c.length := by unfold mlStep; split <;> simp
theorem mlTo_succ (P M : Int) (k : Nat) (c : List Int) (m : Nat) : mlTo P M k c (m + 1) = mlStep P M k (mlTo P M k c m) m := by unfold mlTo; rw [List.range_succ, List.foldl_append]; rfl
theorem mlTo_len (P M : Int) (k : Nat) (c : List Int) : ∀ m, (mlTo P M k c m).length = c.length
  | 0 => rfl
  | m + 1 => by rw [mlTo_succ, mlStep_len, mlTo_len]
theorem mlAll_succ (P M : Int) (c : List Int) (n : Nat) : mlAll P M c (n + 1) = mlTo P M n (mlAll P M c n) (mlAll P M c n).length := by unfold mlAll; rw [List.range_succ, List.foldl_append]; rfl
theorem mlAll_len (P M : Int) (c : List Int) : ∀ n, (mlAll P M c n).length = c.length
  | 0 => rfl
  | n + 1 => by rw [mlAll_succ, mlTo_len, mlAll_len]
def AllIn (P M : Int) (c : List Int) : Prop := ∀ x ∈ c, inF P M x
theorem AllIn.ia {P M : Int} {c : List Int} (h : AllIn P M c) {i : Nat} (hi : i < c.length) : inF P M (ia c i) := by
  apply h
  unfold YtikfeemmjfoffaaGreatDoor.ia
  rw [List.getD_eq_getElem?_getD, List.getElem?_eq_getElem hi]
  exact List.getElem_mem hi
theorem allIn_set {P M : Int} {c : List Int} (h : AllIn P M c) (i : Nat) {v : Int} (hv : inF P M v) : AllIn P M (c.set i v) := fun x hx => by
  rcases List.mem_or_eq_of_mem_set hx with h1 | rfl
  · exact h x h1
  · exact hv
theorem mlStep_in {P M : Int} {k : Nat} {c : List Int} {i : Nat} (ok : okF P M = true) (h : AllIn P M c) (hi : i < c.length) : AllIn P M (mlStep P M k c i) := by
  unfold mlStep
  split
  · exact allIn_set h i (addF_in ok (h.ia hi) (negF_in ok (h.ia (Nat.lt_of_le_of_lt (Nat.sub_le _ _) hi))))
  · exact h
theorem mlTerms_succ (n : Nat) (c : List Int) (m : Nat) : mlTerms n c (m + 1) = mlTerms n c m ++ if ia c m = 0 then [] else [⟨ia c m, bitsL n m⟩] := by unfold mlTerms; rw [List.range_succ, List.flatMap_append]; simp
theorem bitsL_len (n i : Nat) : (bitsL n i).length = n := by simp [bitsL]

/-- Filled below i. -/
def tabI (f : Nat → Int) (l i : Nat) : List Int := (List.range l).map fun j => if j < i then f j else 0
theorem tabI_len (f : Nat → Int) (l i : Nat) : (tabI f l i).length = l := by simp [tabI]
theorem tabI_zero (f : Nat → Int) (l : Nat) : tabI f l 0 = List.replicate l 0 := by
  apply List.ext_getElem?
  intro j
  by_cases h : j < l <;> simp [tabI, h, List.getElem?_replicate]
theorem tabI_all (f : Nat → Int) (l : Nat) : tabI f l l = (List.range l).map f := by
  apply List.ext_getElem?
  intro j
  by_cases h : j < l <;> simp [tabI, h]
theorem tabI_set (f : Nat → Int) {l i : Nat} (h : i < l) : (tabI f l i).set i (f i) = tabI f l (i + 1) := by
  apply List.ext_getElem?
  intro j
  rw [List.getElem?_set, tabI_len]
  by_cases e : i = j
  · subst e; simp [tabI, h]
  · rw [if_neg e]
    by_cases hj : j < l
    · simp only [tabI, List.getElem?_map, List.getElem?_range hj, Option.map_some, Option.some.injEq]
      by_cases h2 : j < i
      · rw [if_pos h2, if_pos (by omega)]
      · rw [if_neg h2, if_neg (by omega)]
    · simp [tabI, hj]
theorem tabI_same (f : Nat → Int) {l i : Nat} (h : i < l) (h0 : f i = 0) : tabI f l i = tabI f l (i + 1) := by
  unfold tabI
  apply List.map_congr_left
  intro j hj
  by_cases e : j = i
  · subst e; simp [h0]
  · by_cases h2 : j < i
    · rw [if_pos h2, if_pos (by omega)]
    · rw [if_neg h2, if_neg (by omega)]
theorem tab_bits (t : List Bool) : (List.range t.length).map (fun j => bitI (ba t j)) = t.map bitI := by
  apply List.ext_getElem?
  intro j
  by_cases h : j < t.length <;> simp [ba, h]
theorem xor_sub {i k : Nat} (h : i.testBit k = true) : i ^^^ 2 ^ k = i - 2 ^ k := by
  have e : i = 2 ^ (k + 1) * (i / 2 ^ (k + 1)) + (2 ^ k * 1 + i % 2 ^ k) := by
    have h1 := Nat.div_add_mod i (2 ^ (k + 1))
    have h2 : i % 2 ^ (k + 1) = 2 ^ k * 1 + i % 2 ^ k := by
      rw [Nat.mod_pow_succ, Nat.add_comm]
      congr 2
      rw [Nat.testBit_eq_decide_div_mod_eq] at h
      simpa using h
    omega
  have hr : i % 2 ^ k < 2 ^ k := Nat.mod_lt _ (Nat.two_pow_pos k)
  generalize i / 2 ^ (k + 1) = a at e
  generalize i % 2 ^ k = r at e hr
  have hp : 2 ^ (k + 1) = 2 * 2 ^ k := by rw [Nat.pow_succ]; omega
  rw [e, show 2 ^ (k + 1) * a + (2 ^ k * 1 + r) - 2 ^ k = 2 ^ (k + 1) * a + r by omega]
  apply Nat.eq_of_testBit_eq
  intro j
  rw [Nat.testBit_xor, Nat.testBit_two_pow_mul_add a (show 2 ^ k * 1 + r < 2 ^ (k + 1) by omega) j, Nat.testBit_two_pow_mul_add a (show r < 2 ^ (k + 1) by omega) j, Nat.testBit_two_pow_mul_add 1 hr j, Nat.testBit_two_pow]
  by_cases h1 : j < k + 1
  · rw [if_pos h1, if_pos h1]
    by_cases h2 : j < k
    · rw [if_pos h2]
      have : k ≠ j := by omega
      simp [this]
    · obtain rfl : j = k := by omega
      rw [if_neg h2, Nat.testBit_lt_two_pow hr]
      simp
  · rw [if_neg h1, if_neg h1]
    have : k ≠ j := by omega
    simp [this]
theorem pow_wraps {k : Nat} (hk : k ≤ 14) : 2 ^ k ≤ 16384 ∧ wrap64 ((2 : Int) ^ k) = ((2 ^ k : Nat) : Int) ∧ IntKind.i64.wrap ((2 : Int) ^ k) = ((2 ^ k : Nat) : Int) := by
  have h : 2 ^ k ≤ 16384 := (Nat.pow_le_pow_right (by omega) hk : 2 ^ k ≤ 2 ^ 14)
  have e : ((2 : Int) ^ k) = ((2 ^ k : Nat) : Int) := by simp
  rw [e]
  generalize 2 ^ k = z at *
  exact ⟨h, IntWalk.wrap64_in (z : Int) (by omega), IntWalk.i64_in (z : Int) (by omega)⟩
theorem xor_down {i k : Nat} (hk : k ≤ 20) (h : i.testBit k = true) (hi : i < 1000000) : bits .xor .i64 (i : Int) ((2 ^ k : Nat) : Int) = ((i - 2 ^ k : Nat) : Int) := by
  have hp : 2 ^ k ≤ 2 ^ 20 := Nat.pow_le_pow_right (n := 2) (by omega) hk
  rw [b_xor (by omega) (by omega), xor_sub h]

theorem b_and2 {b : Nat} (h : b < 1000000) (k : Nat) : bits BinOp.and .i64 ((b : Int) / 2 ^ k) 1 = bitI (b.testBit k) := by
  rw [show ((b : Int) / 2 ^ k) = ((b / 2 ^ k : Nat) : Int) from by simp]
  have h1 : b / 2 ^ k ≤ b := Nat.div_le_self _ _
  rw [and_one (by omega), Nat.testBit, Nat.shiftRight_eq_div_pow]
  unfold bitI
  rcases Nat.mod_two_eq_zero_or_one (b / 2 ^ k) with e | e <;> simp [e, Nat.and_comm]
theorem bitsL_good (n i : Nat) : GoodE n (bitsL n i) := ⟨bitsL_len n i, fun x hx => by
  obtain ⟨k, _, rfl⟩ := List.mem_map.1 hx
  unfold bitI
  split <;> omega⟩
theorem mlTerms_len (n : Nat) (c : List Int) : ∀ m, (mlTerms n c m).length ≤ m
  | 0 => by simp [mlTerms]
  | m + 1 => by
    have := mlTerms_len n c m
    rw [mlTerms_succ, List.length_append]
    split <;> simp <;> omega
theorem mlTerms_mem {n : Nat} {c : List Int} {m : Nat} {t : Tm} (h : t ∈ mlTerms n c m) : ∃ i, i < m ∧ ia c i ≠ 0 ∧ t = ⟨ia c i, bitsL n i⟩ := by
  unfold mlTerms at h
  obtain ⟨i, hi, h⟩ := List.mem_flatMap.1 h
  split at h
  · cases h
  · rename_i h0
    exact ⟨i, List.mem_range.1 hi, h0, by simpa using h⟩

set_option maxRecDepth 100000 in
set_option maxHeartbeats 1000000 in
theorem multi20_bad (P M : Int) (t : List Bool) (A : Option Addr) (c : Nat) (w : World) (ok : okF P M = false) :
    Calls Tryz.prog 36 #[fV P M, .slice A t.length c] w fun e w' => e = .returned (.tuple #[.slice none 0 0, .int .i64 1]) ∧ Kept w w' := by
  have C51 := Lib.hid fun w' => valid51_any P M w'
  rw [ok] at C51
  unfold fV at *
  have K0 := kept_alloc (kept_refl w) (.cells #[.int .i64 P, .int .i64 M] 23)
  clear ok
  go_enter Tryz.func36, Tryz.ntmps36
  go_wp2_with (go_at_call 35; ((with_reducible refine (C51.out _).mono ?_); rintro e w1 ⟨rfl, k1⟩))
  go_ret2
  exact ⟨rfl, kept_trans K0 k1⟩
/-- What comes of Multilinear. -/
def MultiPost (P M : Int) (t : List Bool) (l : Nat) (w : World) (e : Ending) (w' : World) : Prop := Kept w w' ∧
  ((e = .returned (.tuple #[.slice none 0 0, .int .i64 2]) ∧ ∀ n, n ≤ 12 → l ≠ 2 ^ n) ∨
   (∃ (n : Nat) (A' : Option Addr) (c' : Nat) (r : List Tm), n ≤ 12 ∧ l = 2 ^ n ∧ e = .returned (.tuple #[.slice A' r.length c', .int .i64 0]) ∧ RP w' A' r ∧
    r = totalT (addF P M) (mlTerms n (mlAll P M (t.map bitI) n) l).length ((mlTerms n (mlAll P M (t.map bitI) n) l).map fun t => [t])))
theorem pow_not {n l : Nat} (hp : n = 0 ∨ 2 ^ (n - 1) < l) (h : l < 2 ^ n) : ∀ m, l ≠ 2 ^ m := fun m e => by
  subst e
  rcases hp with rfl | hp
  · have := Nat.two_pow_pos m
    simp at h
  · have h1 := (Nat.pow_lt_pow_iff_right (a := 2) (by omega)).1 hp
    have h2 := (Nat.pow_lt_pow_iff_right (a := 2) (by omega)).1 h
    omega
set_option maxRecDepth 100000 in
set_option maxHeartbeats 1000000 in
theorem multi20_any (P M : Int) (t : List Bool) (A : Option Addr) (c : Nat) (w : World) (ok : okF P M = true) (hA : Rd w A (bools t)) (hl : t.length ≤ 9000) :
    Calls Tryz.prog 36 #[fV P M, .slice A t.length c] w (MultiPost P M t t.length w) := by
  have C51 := Lib.hid fun w' => valid51_any P M w'
  rw [ok] at C51
  have C44 := Lib.hid fun w' n => newSum44_any P M n w'
  have C52 := Lib.hid fun w' a b ha hb => sub52_any P M a b w' ok ha hb
  unfold fV at *
  have K0 := kept_alloc (kept_refl w) (.cells #[.int .i64 P, .int .i64 M] 23)
  have o2 := Own.new w 23 [.int .i64 P, .int .i64 M]
  have HA := Lib.hid hA
  have OK := Lib.hid ok
  clear hA ok
  obtain ⟨l, hll⟩ : ∃ l, l = t.length := ⟨_, rfl⟩
  have HLL := Lib.hid hll
  rw [← hll] at hl ⊢
  clear hll
  go_enter Tryz.func36, Tryz.ntmps36
  go_wp2_with (go_at_call 35; ((with_reducible refine (C51.out _).mono ?_); rintro e w1 ⟨rfl, k1⟩; replace K0 := kept_trans K0 k1; replace o2 := o2.kept k1))
  go_loopg [6] 14 (fun G s6 wr => ∃ (n : Nat), n ≤ 14 ∧ G = 14 - n ∧ s6 = .int .i64 n ∧ (n = 0 ∨ 2 ^ (n - 1) < l) ∧ wr = w1)
  case atStart => exact ⟨0, by omega, rfl, rfl, .inl rfl, rfl⟩
  case round =>
    obtain ⟨n, hn, rfl, rfl, hp, rfl⟩ := hrel
    have HP := Lib.hid hp
    clear hp
    obtain ⟨hz16, s1, s2⟩ := pow_wraps (k := n) hn
    clear s2
    obtain ⟨z, hz⟩ : ∃ z, z = 2 ^ n := ⟨_, rfl⟩
    rw [← hz] at hz16 s1
    have HZ := Lib.hid hz
    clear hz
    by_cases hlt : z < l
    · have d1 : decide (z < l) = true := decide_eq_true hlt
      have ew : IntKind.i64.wrap ((n : Int) + 1) = (n : Int) + 1 := IntWalk.i64_in _ (by omega)
      have n13 : n ≤ 13 := by
        have h := hlt
        rw [HZ.out] at h
        have h2 : 2 ^ n < 2 ^ 14 := by omega
        have := (Nat.pow_lt_pow_iff_right (a := 2) (by omega)).1 h2
        omega
      go_wp2_with fail
      go_roundg (14 - (n + 1))
      case rel => exact ⟨n + 1, by omega, rfl, by go_num, .inr (by rw [Nat.add_sub_cancel, ← HZ.out]; exact hlt), rfl⟩
      case measure => omega
    · have d1 : decide (z < l) = false := decide_eq_false hlt
      by_cases hn12 : 12 < n
      · have d2 : decide ((12 : Int) < (n : Int)) = true := decide_eq_true (by omega)
        have HN := Lib.hid hn12
        clear hn12 hlt
        go_wp2_with fail
        go_ret2
        exact ⟨K0, .inl ⟨rfl, fun m hm e => by
          rcases HP.out with h | h
          · have := HN.out; omega
          · have h1 : 2 ^ m ≤ 2 ^ (n - 1) := Nat.pow_le_pow_right (n := 2) (by omega) (by have := HN.out; omega)
            omega⟩⟩
      · have d2 : decide ((12 : Int) < (n : Int)) = false := decide_eq_false (by omega)
        by_cases hez : l = z
        · have hmk := make_ints l (by omega)
          have d3 : ((l : Int) != (z : Int)) = false := by rw [hez]; simp
          have lz := Lib.hid (show l = 2 ^ n by rw [← HZ.out]; exact hez)
          have l0 : 1 ≤ l := by rw [lz.out]; exact Nat.two_pow_pos n
          have hz1 := HZ.out
          have oc := Own.new wr 3 (ints (List.replicate l 0))
          have o22 := o2.alloc (.cells (ints (List.replicate l 0)).toArray 3)
          have HAr := Lib.hid (HA.out.kept K0)
          clear hez hz1
          go_wp2_with fail
          clear hmk s1 d1 d2 d3 hlt
          obtain ⟨w1, rfl⟩ : ∃ x, x = wr := ⟨_, rfl⟩
          go_loopg [8, 9, 41] l (fun G s8 s9 s41 wr => ∃ (i : Nat) (v8 v9 : Value), i ≤ l ∧ G = l - i ∧ s8 = v8 ∧ s9 = v9 ∧ s41 = .int .i64 i ∧ Own wr w1.heap.size 3 (ints (tabI (fun j => bitI (ba t j)) l i)) ∧ Kept w1 wr)
          case atStart => exact ⟨0, _, _, by omega, rfl, rfl, rfl, rfl, by rw [tabI_zero]; exact oc, kept_alloc (kept_refl _) _⟩
          case round =>
            clear oc o22
            obtain ⟨i, v8, v9, hi, rfl, rfl, rfl, rfl, oc, K1⟩ := hrel
            by_cases hit : i < l
            · obtain ⟨bv, hbv⟩ : ∃ bv, bv = ba t i := ⟨_, rfl⟩
              obtain ⟨ab, ao, rfl, hcb⟩ := (HAr.out.kept K1).bool (k := i) (by rw [← HLL.out]; exact hit)
              replace hcb := hcb i (by rw [← HLL.out]; exact hit)
              rw [← hbv] at hcb
              have HB := Lib.hid hbv
              have OC := Lib.hid oc
              have f0 := oc.frozen i
              have c0 := oc.int (j := i) (by rw [tabI_len]; exact hit)
              clear hbv oc
              cases bv with
              | true =>
                go_wp2_with fail
                go_roundg (l - (i + 1))
                case rel => exact ⟨i + 1, _, _, by omega, rfl, rfl, rfl, by go_num, by
                  have h5 := OC.out.setInt i 1
                  have h6 : (tabI (fun j => bitI (ba t j)) l i).set i 1 = tabI (fun j => bitI (ba t j)) l (i + 1) := by
                    rw [← tabI_set (fun j => bitI (ba t j)) hit]
                    show _ = List.set _ i (bitI (ba t i))
                    rw [← HB.out]
                    rfl
                  rw [h6] at h5
                  exact h5, kept_set K1 (Nat.le_refl _) _⟩
                case measure => omega
              | false =>
                go_wp2_with fail
                go_roundg (l - (i + 1))
                case rel => exact ⟨i + 1, _, _, by omega, rfl, rfl, rfl, by go_num, by
                  rw [← tabI_same _ hit (by show bitI (ba t i) = 0; rw [← HB.out]; rfl)]
                  exact OC.out, K1⟩
                case measure => omega
            · obtain rfl : l = i := by omega
              rw [tabI_all, HLL.out, tab_bits] at oc
              obtain ⟨cT, hcT⟩ : ∃ cT, cT = t.map bitI := ⟨_, rfl⟩
              rw [← hcT] at oc
              have HCT := Lib.hid hcT
              have lT : cT.length = l := by rw [hcT, List.length_map, ← HLL.out]
              have inT : AllIn P M cT := fun x hx => by
                rw [hcT] at hx
                obtain ⟨b, _, rfl⟩ := List.mem_map.1 hx
                have := ord_ok OK.out
                cases b
                · exact ⟨by simp [bitI], by simp [bitI]; omega⟩
                · exact ⟨by simp [bitI], by simp [bitI]; omega⟩
              have LT := Lib.hid lT
              have INT := Lib.hid inT
              clear hcT lT inT
              have o2l := (o2.kept K1).lt
              go_wp2_with fail
              go_loopg [10, 11, 52] n (fun G s10 s11 s52 wr => ∃ (k : Nat) (v10 v11 : Value), k ≤ n ∧ G = n - k ∧ s10 = v10 ∧ s11 = v11 ∧ s52 = .int .i64 k ∧ Own wr w1.heap.size 3 (ints (mlAll P M cT k)) ∧ AllIn P M (mlAll P M cT k) ∧ Kept w1 wr)
              case atStart => exact ⟨0, _, _, by omega, rfl, rfl, rfl, rfl, oc, INT.out, K1⟩
              case round =>
                clear oc K1
                obtain ⟨k, v10, v11, hk, rfl, rfl, rfl, rfl, oc, hin, K1⟩ := hrel
                by_cases hkt : k < n
                · obtain ⟨cK, hcK⟩ : ∃ cK, cK = mlAll P M cT k := ⟨_, rfl⟩
                  rw [← hcK] at oc hin
                  have HCK := Lib.hid hcK
                  have LK := Lib.hid (show cK.length = l by rw [hcK, mlAll_len]; exact LT.out)
                  have HIN := Lib.hid hin
                  clear hcK hin
                  go_wp2_with fail
                  go_loopg [11, 57] l (fun G s11 s57 wr => ∃ (i : Nat) (v11 : Value), i ≤ l ∧ G = l - i ∧ s11 = v11 ∧ s57 = .int .i64 i ∧ Own wr w1.heap.size 3 (ints (mlTo P M k cK i)) ∧ AllIn P M (mlTo P M k cK i) ∧ Kept w1 wr)
                  case atStart => exact ⟨0, _, by omega, rfl, rfl, rfl, oc, HIN.out, K1⟩
                  case round =>
                    clear oc K1
                    obtain ⟨i, v11, hi, rfl, rfl, rfl, oc, hin, K1⟩ := hrel
                    by_cases hit : i < l
                    · obtain ⟨c, hc⟩ : ∃ c, c = mlTo P M k cK i := ⟨_, rfl⟩
                      rw [← hc] at oc hin
                      have lc : c.length = l := by rw [hc, mlTo_len]; exact LK.out
                      have eb := b_and1 (b := i) (by omega) k
                      obtain ⟨bv, hbv⟩ : ∃ bv, bv = i.testBit k := ⟨_, rfl⟩
                      rw [← hbv] at eb
                      have HC := Lib.hid hc
                      have HBV := Lib.hid hbv
                      have OC := Lib.hid oc
                      have IN := Lib.hid hin
                      have LC := Lib.hid lc
                      clear hc hbv hin lc
                      cases bv with
                      | true =>
                        have i13 : i < 1000000 := by omega
                        have ej := xor_down (k := k) (by omega) HBV.out.symm i13
                        obtain ⟨e1, s1, s2⟩ := pow_wraps (k := k) (by omega)
                        obtain ⟨z, hz⟩ : ∃ z, z = 2 ^ k := ⟨_, rfl⟩
                        rw [← hz] at e1 s1 s2
                        rw [← hz] at ej
                        obtain ⟨j, hj⟩ : ∃ j, j = i - z := ⟨_, rfl⟩
                        rw [← hj] at ej
                        have hjl : j < l := by omega
                        obtain ⟨x, hx⟩ : ∃ x, x = ia c i := ⟨_, rfl⟩
                        obtain ⟨y, hy⟩ : ∃ y, y = ia c j := ⟨_, rfl⟩
                        have c0 := oc.int (j := i) (by rw [LC.out]; exact hit)
                        have c1 := oc.int (j := j) (by rw [LC.out]; exact hjl)
                        rw [← hx] at c0
                        rw [← hy] at c1
                        have f0 := oc.frozen i
                        have q0 := o2.cell (j := 0) rfl
                        have q1 := o2.cell (j := 1) rfl
                        have hinx : inF P M x := by rw [hx]; exact IN.out.ia (by rw [LC.out]; exact hit)
                        have hiny : inF P M y := by rw [hy]; exact IN.out.ia (by rw [LC.out]; exact hjl)
                        have CX := Lib.hid fun w' => C52.out w' x y hinx hiny
                        obtain ⟨s, hs⟩ : ∃ s, s = addF P M x (negF P M y) := ⟨_, rfl⟩
                        rw [← hs] at CX
                        have HS := Lib.hid (show c.set i s = mlStep P M k c i by unfold mlStep; rw [if_pos HBV.out.symm, ← hz, ← hj, ← hx, ← hy, hs])
                        clear hs hx hy hz hj hinx hiny oc
                        go_upto_region 22 with fail
                        have hb1 : IntKind.i64.wrap ((i : Nat) : Int) = i := IntWalk.i64_in _ (by omega)
                        have hb2 : IntKind.i64.wrap ((j : Nat) : Int) = j := IntWalk.i64_in _ (by omega)
                        refine region_x (fun w' => Kept w1 w') [] (by kernel_rfl) (kept_drew (K1)) (fun hHeld => ?_)
                        refine x_take (i := 0) (oi := { dst := some 66, op := Op.move (Operand.tmp 7), type := 24, pos := "poly.go:263", after := #[], guard := none }) (v := ?_) rfl (by kernel_rfl) (by kernel_rfl) (by kernel_rfl) (by kernel_rfl) (by kernel_rfl) (fun _ _ _ h => h) (Or.inl ⟨rfl, ?_⟩) (by assumption) ?_
                        rotate_left
                        · (intro w' hSw; replace q0 := kept_cell hSw q0; replace q1 := kept_cell hSw q1; go_simp; try with_reducible rfl)
                        try simp only [Act.put, List.setIfInBounds_toArray, List.set_cons_zero, List.set_cons_succ]
                        refine x_take (i := 1) (oi := { dst := some 67, op := Op.move (Operand.tmp 11), type := 3, pos := "poly.go:263", after := #[], guard := none }) (v := ?_) rfl (by kernel_rfl) (by kernel_rfl) (by kernel_rfl) (by kernel_rfl) (by kernel_rfl) (fun _ _ _ h => h) (Or.inl ⟨rfl, ?_⟩) (by assumption) ?_
                        rotate_left
                        · (intro w' hSw; replace q0 := kept_cell hSw q0; replace q1 := kept_cell hSw q1; go_simp; try with_reducible rfl)
                        try simp only [Act.put, List.setIfInBounds_toArray, List.set_cons_zero, List.set_cons_succ]
                        refine x_take (i := 2) (oi := { dst := some 68, op := Op.load 23 (Operand.tmp 2), type := 23, pos := "poly.go:263", after := #[], guard := none }) (v := ?_) rfl (by kernel_rfl) (by kernel_rfl) (by kernel_rfl) (by kernel_rfl) (by kernel_rfl) (fun _ _ _ h => h) (Or.inl ⟨rfl, ?_⟩) (by assumption) ?_
                        rotate_left
                        · (intro w' hSw; replace q0 := kept_cell hSw q0; replace q1 := kept_cell hSw q1; go_simp; try with_reducible rfl)
                        try simp only [Act.put, List.setIfInBounds_toArray, List.set_cons_zero, List.set_cons_succ]
                        refine x_take (i := 3) (oi := { dst := some 69, op := Op.move (Operand.tmp 7), type := 24, pos := "poly.go:263", after := #[], guard := none }) (v := ?_) rfl (by kernel_rfl) (by kernel_rfl) (by kernel_rfl) (by kernel_rfl) (by kernel_rfl) (fun _ _ _ h => h) (Or.inl ⟨rfl, ?_⟩) (by assumption) ?_
                        rotate_left
                        · (intro w' hSw; replace q0 := kept_cell hSw q0; replace q1 := kept_cell hSw q1; go_simp; try with_reducible rfl)
                        try simp only [Act.put, List.setIfInBounds_toArray, List.set_cons_zero, List.set_cons_succ]
                        refine x_take (i := 4) (oi := { dst := some 70, op := Op.move (Operand.tmp 11), type := 3, pos := "poly.go:263", after := #[], guard := none }) (v := ?_) rfl (by kernel_rfl) (by kernel_rfl) (by kernel_rfl) (by kernel_rfl) (by kernel_rfl) (fun _ _ _ h => h) (Or.inl ⟨rfl, ?_⟩) (by assumption) ?_
                        rotate_left
                        · (intro w' hSw; replace q0 := kept_cell hSw q0; replace q1 := kept_cell hSw q1; go_simp; try with_reducible rfl)
                        try simp only [Act.put, List.setIfInBounds_toArray, List.set_cons_zero, List.set_cons_succ]
                        refine x_take (i := 5) (oi := { dst := some 71, op := Op.indexAddr 24 (Operand.tmp 69) (Operand.tmp 70), type := 0, pos := "poly.go:263", after := #[{ on := 3, ground := Ground.data }, { on := 4, ground := Ground.data }], guard := none }) (v := ?_) rfl (by kernel_rfl) (by kernel_rfl) (by kernel_rfl) (by kernel_rfl) (by kernel_rfl) (fun _ _ _ h => h) (Or.inl ⟨rfl, ?_⟩) (by assumption) ?_
                        rotate_left
                        · (intro w' hSw; replace q0 := kept_cell hSw q0; replace q1 := kept_cell hSw q1; go_simp; try with_reducible rfl)
                        try simp only [Act.put, List.setIfInBounds_toArray, List.set_cons_zero, List.set_cons_succ]
                        refine x_take (i := 7) (oi := { dst := some 73, op := Op.move (Operand.tmp 7), type := 24, pos := "poly.go:263", after := #[], guard := none }) (v := ?_) rfl (by kernel_rfl) (by kernel_rfl) (by kernel_rfl) (by kernel_rfl) (by kernel_rfl) (fun _ _ _ h => h) (Or.inl ⟨rfl, ?_⟩) (by assumption) ?_
                        rotate_left
                        · (intro w' hSw; replace q0 := kept_cell hSw q0; replace q1 := kept_cell hSw q1; go_simp; try with_reducible rfl)
                        try simp only [Act.put, List.setIfInBounds_toArray, List.set_cons_zero, List.set_cons_succ]
                        refine x_take (i := 8) (oi := { dst := some 74, op := Op.move (Operand.tmp 11), type := 3, pos := "poly.go:263", after := #[], guard := none }) (v := ?_) rfl (by kernel_rfl) (by kernel_rfl) (by kernel_rfl) (by kernel_rfl) (by kernel_rfl) (fun _ _ _ h => h) (Or.inl ⟨rfl, ?_⟩) (by assumption) ?_
                        rotate_left
                        · (intro w' hSw; replace q0 := kept_cell hSw q0; replace q1 := kept_cell hSw q1; go_simp; try with_reducible rfl)
                        try simp only [Act.put, List.setIfInBounds_toArray, List.set_cons_zero, List.set_cons_succ]
                        refine x_take (i := 9) (oi := { dst := some 75, op := Op.move (Operand.tmp 10), type := 3, pos := "poly.go:263", after := #[], guard := none }) (v := ?_) rfl (by kernel_rfl) (by kernel_rfl) (by kernel_rfl) (by kernel_rfl) (by kernel_rfl) (fun _ _ _ h => h) (Or.inl ⟨rfl, ?_⟩) (by assumption) ?_
                        rotate_left
                        · (intro w' hSw; replace q0 := kept_cell hSw q0; replace q1 := kept_cell hSw q1; go_simp; try with_reducible rfl)
                        try simp only [Act.put, List.setIfInBounds_toArray, List.set_cons_zero, List.set_cons_succ]
                        refine x_take (i := 10) (oi := { dst := some 76, op := Op.binOp BinOp.shl 3 (Operand.const (Value.int IntKind.i64 1)) (Operand.tmp 75) 3, type := 3, pos := "poly.go:263", after := #[{ on := 9, ground := Ground.data }], guard := none }) (v := ?_) rfl (by kernel_rfl) (by kernel_rfl) (by kernel_rfl) (by kernel_rfl) (by kernel_rfl) (fun _ _ _ h => h) (Or.inl ⟨rfl, ?_⟩) (by assumption) ?_
                        rotate_left
                        · (intro w' hSw; replace q0 := kept_cell hSw q0; replace q1 := kept_cell hSw q1; go_simp; try with_reducible rfl)
                        try simp only [Act.put, List.setIfInBounds_toArray, List.set_cons_zero, List.set_cons_succ]
                        refine x_take (i := 11) (oi := { dst := some 77, op := Op.binOp BinOp.xor 3 (Operand.tmp 74) (Operand.tmp 76) 3, type := 3, pos := "poly.go:263", after := #[{ on := 8, ground := Ground.data }, { on := 10, ground := Ground.data }], guard := none }) (v := ?_) rfl (by kernel_rfl) (by kernel_rfl) (by kernel_rfl) (by kernel_rfl) (by kernel_rfl) (fun _ _ _ h => h) (Or.inl ⟨rfl, ?_⟩) (by assumption) ?_
                        rotate_left
                        · (intro w' hSw; replace q0 := kept_cell hSw q0; replace q1 := kept_cell hSw q1; go_simp; try with_reducible rfl)
                        try simp only [Act.put, List.setIfInBounds_toArray, List.set_cons_zero, List.set_cons_succ]
                        refine x_take (i := 12) (oi := { dst := some 78, op := Op.indexAddr 24 (Operand.tmp 73) (Operand.tmp 77), type := 0, pos := "poly.go:263", after := #[{ on := 7, ground := Ground.data }, { on := 11, ground := Ground.data }], guard := none }) (v := ?_) rfl (by kernel_rfl) (by kernel_rfl) (by kernel_rfl) (by kernel_rfl) (by kernel_rfl) (fun _ _ _ h => h) (Or.inl ⟨rfl, ?_⟩) (by assumption) ?_
                        rotate_left
                        · (intro w' hSw; replace q0 := kept_cell hSw q0; replace q1 := kept_cell hSw q1; go_simp; try with_reducible rfl)
                        try simp only [Act.put, List.setIfInBounds_toArray, List.set_cons_zero, List.set_cons_succ]
                        refine x_two (i := 6) (j := 13) (oi := { dst := some 72, op := Op.load 3 (Operand.tmp 71), type := 3, pos := "poly.go:263", after := #[{ on := 5, ground := Ground.data }], guard := none }) (oj := { dst := some 79, op := Op.load 3 (Operand.tmp 78), type := 3, pos := "poly.go:263", after := #[{ on := 12, ground := Ground.data }], guard := none }) (by kernel_rfl) rfl rfl (fun K hK => ?_) (fun K hK => ?_)
                        · (go_simp)
                          refine hK.out _ _ ?_ (fun hHeld => ?_)
                          · (try dsimp only); repeat (first | assumption | exact kept_refl _ | refine kept_drew ?_ | refine kept_alloc ?_ _ | refine kept_set ?_ (by omega) _)
                          clear hK K
                          try simp only [Act.put, List.setIfInBounds_toArray, List.set_cons_zero, List.set_cons_succ]
                          refine x_one (i := 13) (o := { dst := some 79, op := Op.load 3 (Operand.tmp 78), type := 3, pos := "poly.go:263", after := #[{ on := 12, ground := Ground.data }], guard := none }) (by kernel_rfl) rfl (fun K hK => ?_)
                          (go_simp)
                          refine hK.out _ _ ?_ (fun hHeld => ?_)
                          · (try dsimp only); repeat (first | assumption | exact kept_refl _ | refine kept_drew ?_ | refine kept_alloc ?_ _ | refine kept_set ?_ (by omega) _)
                          clear hK K
                          try simp only [Act.put, List.setIfInBounds_toArray, List.set_cons_zero, List.set_cons_succ]
                          refine x_one (i := 14) (o := { dst := some 80, op := Op.call { callee := Callee.value (Operand.func 65), args := #[Operand.tmp 68, Operand.tmp 72, Operand.tmp 79], argTypes := #[23, 3, 3] }, type := 50, pos := "poly.go:263", after := #[{ on := 2, ground := Ground.data }, { on := 6, ground := Ground.data }, { on := 13, ground := Ground.data }], guard := none }) (by kernel_rfl) rfl (fun K hK => ?_)
                          (go_simp; go_at_call 65; (with_reducible refine (CX.out _).mono ?_); rintro e w4 ⟨rfl, k4⟩; have KK4 : Kept w1 w4 := kept_trans hHeld k4; have oc4 := (OC.out.drew).kept k4; try dsimp only)
                          refine hK.out _ _ ?_ (fun hHeld => ?_)
                          · (try dsimp only); repeat (first | assumption | exact kept_refl _ | refine kept_drew ?_ | refine kept_alloc ?_ _ | refine kept_set ?_ (by omega) _)
                          clear hK K
                          try simp only [Act.put, List.setIfInBounds_toArray, List.set_cons_zero, List.set_cons_succ]
                          refine x_take (i := 15) (oi := { dst := some 65, op := Op.move (Operand.tmp 80), type := 50, pos := "poly.go:263", after := #[{ on := 14, ground := Ground.data }], guard := none }) (v := ?_) rfl (by kernel_rfl) (by kernel_rfl) (by kernel_rfl) (by kernel_rfl) (by kernel_rfl) (fun _ _ _ h => h) (Or.inl ⟨rfl, ?_⟩) (by assumption) ?_
                          rotate_left
                          · (intro w' hSw; replace q0 := kept_cell hSw q0; replace q1 := kept_cell hSw q1; go_simp; try with_reducible rfl)
                          try simp only [Act.put, List.setIfInBounds_toArray, List.set_cons_zero, List.set_cons_succ]
                          refine x_take (i := 16) (oi := { dst := some 81, op := Op.extract (Operand.tmp 65) 0, type := 3, pos := "poly.go:263", after := #[{ on := 15, ground := Ground.data }], guard := none }) (v := ?_) rfl (by kernel_rfl) (by kernel_rfl) (by kernel_rfl) (by kernel_rfl) (by kernel_rfl) (fun _ _ _ h => h) (Or.inl ⟨rfl, ?_⟩) (by assumption) ?_
                          rotate_left
                          · (intro w' hSw; replace q0 := kept_cell hSw q0; replace q1 := kept_cell hSw q1; go_simp; try with_reducible rfl)
                          try simp only [Act.put, List.setIfInBounds_toArray, List.set_cons_zero, List.set_cons_succ]
                          refine x_take (i := 17) (oi := { dst := some 82, op := Op.extract (Operand.tmp 65) 1, type := 31, pos := "poly.go:263", after := #[{ on := 15, ground := Ground.data }, { on := 19, ground := Ground.gcOnly Departure.lateStores }], guard := none }) (v := ?_) rfl (by kernel_rfl) (by kernel_rfl) (by kernel_rfl) (by kernel_rfl) (by kernel_rfl) (fun _ _ _ h => h) (Or.inl ⟨rfl, ?_⟩) (by assumption) ?_
                          rotate_left
                          · (intro w' hSw; replace q0 := kept_cell hSw q0; replace q1 := kept_cell hSw q1; go_simp; try with_reducible rfl)
                          try simp only [Act.put, List.setIfInBounds_toArray, List.set_cons_zero, List.set_cons_succ]
                          refine x_take (i := 18) (oi := { dst := some 83, op := Op.indexAddr 24 (Operand.tmp 66) (Operand.tmp 67), type := 0, pos := "poly.go:263", after := #[{ on := 0, ground := Ground.data }, { on := 1, ground := Ground.data }, { on := 0, ground := Ground.phase }, { on := 1, ground := Ground.phase }, { on := 2, ground := Ground.phase }, { on := 3, ground := Ground.phase }, { on := 4, ground := Ground.phase }, { on := 5, ground := Ground.phase }, { on := 6, ground := Ground.phase }, { on := 7, ground := Ground.phase }, { on := 8, ground := Ground.phase }, { on := 9, ground := Ground.phase }, { on := 10, ground := Ground.phase }, { on := 11, ground := Ground.phase }, { on := 12, ground := Ground.phase }, { on := 13, ground := Ground.phase }, { on := 14, ground := Ground.phase }, { on := 15, ground := Ground.phase }, { on := 16, ground := Ground.phase }, { on := 17, ground := Ground.textOnly Departure.lateStores }], guard := none }) (v := ?_) rfl (by kernel_rfl) (by kernel_rfl) (by kernel_rfl) (by kernel_rfl) (by kernel_rfl) (fun _ _ _ h => h) (Or.inl ⟨rfl, ?_⟩) (by assumption) ?_
                          rotate_left
                          · (intro w' hSw; replace q0 := kept_cell hSw q0; replace q1 := kept_cell hSw q1; go_simp; try with_reducible rfl)
                          try simp only [Act.put, List.setIfInBounds_toArray, List.set_cons_zero, List.set_cons_succ]
                          refine x_one (i := 19) (o := { dst := none, op := Op.store 3 (Operand.tmp 83) (Operand.tmp 81), type := 0, pos := "poly.go:263", after := #[{ on := 18, ground := Ground.data }, { on := 16, ground := Ground.data }, { on := 14, ground := Ground.chain }, { on := 0, ground := Ground.phase }, { on := 1, ground := Ground.phase }, { on := 2, ground := Ground.phase }, { on := 3, ground := Ground.phase }, { on := 4, ground := Ground.phase }, { on := 5, ground := Ground.phase }, { on := 6, ground := Ground.phase }, { on := 7, ground := Ground.phase }, { on := 8, ground := Ground.phase }, { on := 9, ground := Ground.phase }, { on := 10, ground := Ground.phase }, { on := 11, ground := Ground.phase }, { on := 12, ground := Ground.phase }, { on := 13, ground := Ground.phase }, { on := 14, ground := Ground.phase }, { on := 15, ground := Ground.phase }, { on := 16, ground := Ground.phase }, { on := 17, ground := Ground.textOnly Departure.lateStores }], guard := none }) (by kernel_rfl) rfl (fun K hK => ?_)
                          (have f4 := oc4.frozen i; have y0 := oc4.int (j := i) (by rw [LC.out]; exact hit); go_simp)
                          refine hK.out _ _ ?_ (fun hHeld => ?_)
                          · (try dsimp only); repeat (first | assumption | exact kept_refl _ | refine kept_drew ?_ | refine kept_alloc ?_ _ | refine kept_set ?_ (by omega) _)
                          clear hK K
                          try simp only [Act.put, List.setIfInBounds_toArray, List.set_cons_zero, List.set_cons_succ]
                          refine x_done (by kernel_rfl) ?_ _
                          (clear q0 q1 c0 c1 f0 s1 s2 ej eb; go_wp2_with fail; go_roundg (l - (i + 1)); (case rel => exact ⟨i + 1, _, by omega, rfl, rfl, by go_num, by (rw [mlTo_succ, ← HC.out, ← HS.out]; exact oc4.setInt i s), by (rw [mlTo_succ, ← HC.out]; exact mlStep_in OK.out IN.out (by rw [LC.out]; exact hit)), kept_set KK4 (Nat.le_refl _) _⟩); (case measure => omega))
                        · (go_simp)
                          refine hK.out _ _ ?_ (fun hHeld => ?_)
                          · (try dsimp only); repeat (first | assumption | exact kept_refl _ | refine kept_drew ?_ | refine kept_alloc ?_ _ | refine kept_set ?_ (by omega) _)
                          clear hK K
                          try simp only [Act.put, List.setIfInBounds_toArray, List.set_cons_zero, List.set_cons_succ]
                          refine x_one (i := 6) (o := { dst := some 72, op := Op.load 3 (Operand.tmp 71), type := 3, pos := "poly.go:263", after := #[{ on := 5, ground := Ground.data }], guard := none }) (by kernel_rfl) rfl (fun K hK => ?_)
                          (go_simp)
                          refine hK.out _ _ ?_ (fun hHeld => ?_)
                          · (try dsimp only); repeat (first | assumption | exact kept_refl _ | refine kept_drew ?_ | refine kept_alloc ?_ _ | refine kept_set ?_ (by omega) _)
                          clear hK K
                          try simp only [Act.put, List.setIfInBounds_toArray, List.set_cons_zero, List.set_cons_succ]
                          refine x_one (i := 14) (o := { dst := some 80, op := Op.call { callee := Callee.value (Operand.func 65), args := #[Operand.tmp 68, Operand.tmp 72, Operand.tmp 79], argTypes := #[23, 3, 3] }, type := 50, pos := "poly.go:263", after := #[{ on := 2, ground := Ground.data }, { on := 6, ground := Ground.data }, { on := 13, ground := Ground.data }], guard := none }) (by kernel_rfl) rfl (fun K hK => ?_)
                          (go_simp; go_at_call 65; (with_reducible refine (CX.out _).mono ?_); rintro e w4 ⟨rfl, k4⟩; have KK4 : Kept w1 w4 := kept_trans hHeld k4; have oc4 := (OC.out.drew).kept k4; try dsimp only)
                          refine hK.out _ _ ?_ (fun hHeld => ?_)
                          · (try dsimp only); repeat (first | assumption | exact kept_refl _ | refine kept_drew ?_ | refine kept_alloc ?_ _ | refine kept_set ?_ (by omega) _)
                          clear hK K
                          try simp only [Act.put, List.setIfInBounds_toArray, List.set_cons_zero, List.set_cons_succ]
                          refine x_take (i := 15) (oi := { dst := some 65, op := Op.move (Operand.tmp 80), type := 50, pos := "poly.go:263", after := #[{ on := 14, ground := Ground.data }], guard := none }) (v := ?_) rfl (by kernel_rfl) (by kernel_rfl) (by kernel_rfl) (by kernel_rfl) (by kernel_rfl) (fun _ _ _ h => h) (Or.inl ⟨rfl, ?_⟩) (by assumption) ?_
                          rotate_left
                          · (intro w' hSw; replace q0 := kept_cell hSw q0; replace q1 := kept_cell hSw q1; go_simp; try with_reducible rfl)
                          try simp only [Act.put, List.setIfInBounds_toArray, List.set_cons_zero, List.set_cons_succ]
                          refine x_take (i := 16) (oi := { dst := some 81, op := Op.extract (Operand.tmp 65) 0, type := 3, pos := "poly.go:263", after := #[{ on := 15, ground := Ground.data }], guard := none }) (v := ?_) rfl (by kernel_rfl) (by kernel_rfl) (by kernel_rfl) (by kernel_rfl) (by kernel_rfl) (fun _ _ _ h => h) (Or.inl ⟨rfl, ?_⟩) (by assumption) ?_
                          rotate_left
                          · (intro w' hSw; replace q0 := kept_cell hSw q0; replace q1 := kept_cell hSw q1; go_simp; try with_reducible rfl)
                          try simp only [Act.put, List.setIfInBounds_toArray, List.set_cons_zero, List.set_cons_succ]
                          refine x_take (i := 17) (oi := { dst := some 82, op := Op.extract (Operand.tmp 65) 1, type := 31, pos := "poly.go:263", after := #[{ on := 15, ground := Ground.data }, { on := 19, ground := Ground.gcOnly Departure.lateStores }], guard := none }) (v := ?_) rfl (by kernel_rfl) (by kernel_rfl) (by kernel_rfl) (by kernel_rfl) (by kernel_rfl) (fun _ _ _ h => h) (Or.inl ⟨rfl, ?_⟩) (by assumption) ?_
                          rotate_left
                          · (intro w' hSw; replace q0 := kept_cell hSw q0; replace q1 := kept_cell hSw q1; go_simp; try with_reducible rfl)
                          try simp only [Act.put, List.setIfInBounds_toArray, List.set_cons_zero, List.set_cons_succ]
                          refine x_take (i := 18) (oi := { dst := some 83, op := Op.indexAddr 24 (Operand.tmp 66) (Operand.tmp 67), type := 0, pos := "poly.go:263", after := #[{ on := 0, ground := Ground.data }, { on := 1, ground := Ground.data }, { on := 0, ground := Ground.phase }, { on := 1, ground := Ground.phase }, { on := 2, ground := Ground.phase }, { on := 3, ground := Ground.phase }, { on := 4, ground := Ground.phase }, { on := 5, ground := Ground.phase }, { on := 6, ground := Ground.phase }, { on := 7, ground := Ground.phase }, { on := 8, ground := Ground.phase }, { on := 9, ground := Ground.phase }, { on := 10, ground := Ground.phase }, { on := 11, ground := Ground.phase }, { on := 12, ground := Ground.phase }, { on := 13, ground := Ground.phase }, { on := 14, ground := Ground.phase }, { on := 15, ground := Ground.phase }, { on := 16, ground := Ground.phase }, { on := 17, ground := Ground.textOnly Departure.lateStores }], guard := none }) (v := ?_) rfl (by kernel_rfl) (by kernel_rfl) (by kernel_rfl) (by kernel_rfl) (by kernel_rfl) (fun _ _ _ h => h) (Or.inl ⟨rfl, ?_⟩) (by assumption) ?_
                          rotate_left
                          · (intro w' hSw; replace q0 := kept_cell hSw q0; replace q1 := kept_cell hSw q1; go_simp; try with_reducible rfl)
                          try simp only [Act.put, List.setIfInBounds_toArray, List.set_cons_zero, List.set_cons_succ]
                          refine x_one (i := 19) (o := { dst := none, op := Op.store 3 (Operand.tmp 83) (Operand.tmp 81), type := 0, pos := "poly.go:263", after := #[{ on := 18, ground := Ground.data }, { on := 16, ground := Ground.data }, { on := 14, ground := Ground.chain }, { on := 0, ground := Ground.phase }, { on := 1, ground := Ground.phase }, { on := 2, ground := Ground.phase }, { on := 3, ground := Ground.phase }, { on := 4, ground := Ground.phase }, { on := 5, ground := Ground.phase }, { on := 6, ground := Ground.phase }, { on := 7, ground := Ground.phase }, { on := 8, ground := Ground.phase }, { on := 9, ground := Ground.phase }, { on := 10, ground := Ground.phase }, { on := 11, ground := Ground.phase }, { on := 12, ground := Ground.phase }, { on := 13, ground := Ground.phase }, { on := 14, ground := Ground.phase }, { on := 15, ground := Ground.phase }, { on := 16, ground := Ground.phase }, { on := 17, ground := Ground.textOnly Departure.lateStores }], guard := none }) (by kernel_rfl) rfl (fun K hK => ?_)
                          (have f4 := oc4.frozen i; have y0 := oc4.int (j := i) (by rw [LC.out]; exact hit); go_simp)
                          refine hK.out _ _ ?_ (fun hHeld => ?_)
                          · (try dsimp only); repeat (first | assumption | exact kept_refl _ | refine kept_drew ?_ | refine kept_alloc ?_ _ | refine kept_set ?_ (by omega) _)
                          clear hK K
                          try simp only [Act.put, List.setIfInBounds_toArray, List.set_cons_zero, List.set_cons_succ]
                          refine x_done (by kernel_rfl) ?_ _
                          (clear q0 q1 c0 c1 f0 s1 s2 ej eb; go_wp2_with fail; go_roundg (l - (i + 1)); (case rel => exact ⟨i + 1, _, by omega, rfl, rfl, by go_num, by (rw [mlTo_succ, ← HC.out, ← HS.out]; exact oc4.setInt i s), by (rw [mlTo_succ, ← HC.out]; exact mlStep_in OK.out IN.out (by rw [LC.out]; exact hit)), kept_set KK4 (Nat.le_refl _) _⟩); (case measure => omega))
                      | false =>
                        clear oc
                        go_wp2_with fail
                        go_roundg (l - (i + 1))
                        case rel => exact ⟨i + 1, _, by omega, rfl, rfl, by go_num, by
                          rw [mlTo_succ, ← HC.out]; unfold mlStep; rw [if_neg (by rw [← HBV.out]; decide)]; exact OC.out, by
                          rw [mlTo_succ, ← HC.out]; unfold mlStep; rw [if_neg (by rw [← HBV.out]; decide)]; exact IN.out, K1⟩
                        case measure => omega
                    · obtain rfl : l = i := by omega
                      have OC := Lib.hid oc
                      have IN := Lib.hid hin
                      clear oc hin
                      go_wp2_with fail
                      go_roundg (n - (k + 1))
                      case rel => exact ⟨k + 1, _, _, by omega, rfl, rfl, rfl, by go_num, by
                        rw [mlAll_succ, ← HCK.out, LK.out]; exact OC.out, by
                        rw [mlAll_succ, ← HCK.out, LK.out]; exact IN.out, K1⟩
                      case measure => omega
                · obtain rfl : n = k := by omega
                  obtain ⟨cF, hcF⟩ : ∃ cF, cF = mlAll P M cT n := ⟨_, rfl⟩
                  have LF := Lib.hid (show cF.length = l by rw [hcF, mlAll_len]; exact LT.out)
                  rw [← hcF] at oc hin
                  have HCF := Lib.hid hcF
                  have HIN := Lib.hid hin
                  have OC := Lib.hid oc
                  have q0 := (o2.kept K1).cell (j := 0) rfl
                  have q1 := (o2.kept K1).cell (j := 1) rfl
                  have hsz := K1.size
                  have gl := oc.lt
                  have HCT2 := HCT
                  clear hcF hin oc HCT INT LT
                  go_wp2_with (go_at_call 66; ((with_reducible refine (C44.out _ n).mono ?_); rintro e w3 ⟨rfl, hs, k3⟩))
                  obtain ⟨wz, rfl⟩ : ∃ x, x = wr := ⟨_, rfl⟩
                  obtain ⟨g, hg⟩ : ∃ g, g = wz.heap.size + 2 := ⟨_, rfl⟩
                  obtain ⟨b, hb⟩ : ∃ b, b = wz.heap.size + 1 := ⟨_, rfl⟩
                  rw [← hg, ← hb] at hs
                  rw [← hg]
                  have HS0 := Lib.hid (SumOf.start hs)
                  have hbw : wz.heap.size ≤ b := by omega
                  clear hs hg hb q0 q1
                  go_loopg [13, 14, 15, 16, 90] l (fun G s13 s14 s15 s16 s90 wr => ∃ (i : Nat) (v13 v14 v15 v16 : Value), i ≤ l ∧ G = l - i ∧ s13 = v13 ∧ s14 = v14 ∧ s15 = v15 ∧ s16 = v16 ∧ s90 = .int .i64 i ∧ SumOf P M n g b (mlTerms n cF i) wr ∧ Kept wz wr)
                  case atStart => exact ⟨0, _, _, _, _, by omega, rfl, rfl, rfl, rfl, rfl, rfl, HS0.out, k3⟩
                  case round =>
                    clear k3 HS0
                    obtain ⟨i, v13, v14, v15, v16, hi, rfl, rfl, rfl, rfl, rfl, rfl, hS, KZ⟩ := hrel
                    have HS := Lib.hid hS
                    clear hS
                    by_cases hit : i < l
                    · have c0 := (OC.out.kept KZ).int (j := i) (by rw [LF.out]; exact hit)
                      have inx := HIN.out.ia (i := i) (by rw [LF.out]; exact hit)
                      obtain ⟨x, hx⟩ : ∃ x, x = ia cF i := ⟨_, rfl⟩
                      rw [← hx] at c0 inx
                      have HX := Lib.hid hx
                      have INX := Lib.hid inx
                      clear hx inx
                      by_cases hx0 : x = 0
                      · have HX0 := Lib.hid hx0
                        have d0 : (x == 0) = true := by simpa using hx0
                        clear hx0
                        go_wp2_with fail
                        go_roundg (l - (i + 1))
                        case rel => exact ⟨i + 1, _, _, _, _, by omega, rfl, rfl, rfl, rfl, rfl, by go_num, by
                          rw [mlTerms_succ, ← HX.out, if_pos HX0.out, List.append_nil]; exact HS.out, KZ⟩
                        case measure => omega
                      · have HX0 := Lib.hid hx0
                        have d0 : (x == 0) = false := by simpa using hx0
                        have hmk := make_ints n (by omega)
                        have oe := Own.new wr 3 (ints (List.replicate n 0))
                        clear hx0
                        go_wp2_with fail
                        clear hmk d0 c0
                        obtain ⟨wy, rfl⟩ : ∃ x, x = wr := ⟨_, rfl⟩
                        go_loopg [16, 100] n (fun G s16 s100 wr => ∃ (k : Nat) (v16 : Value), k ≤ n ∧ G = n - k ∧ s16 = v16 ∧ s100 = .int .i64 k ∧ Own wr wy.heap.size 3 (ints (tabI (fun k => bitI (i.testBit k)) n k)) ∧ Kept wy wr)
                        case atStart => exact ⟨0, _, by omega, rfl, rfl, rfl, by rw [tabI_zero]; exact oe, kept_alloc (kept_refl _) _⟩
                        case round =>
                          clear oe
                          obtain ⟨k, v16, hk, rfl, rfl, rfl, oe, KY⟩ := hrel
                          by_cases hkt : k < n
                          · have ev := b_and2 (b := i) (by omega) k
                            obtain ⟨v, hv⟩ : ∃ v, v = bitI (i.testBit k) := ⟨_, rfl⟩
                            rw [← hv] at ev
                            have HV := Lib.hid hv
                            have OE := Lib.hid oe
                            have f0 := oe.frozen k
                            have e0 := oe.int (j := k) (by rw [tabI_len]; exact hkt)
                            clear hv oe
                            go_wp2_with fail
                            go_roundg (n - (k + 1))
                            case rel => exact ⟨k + 1, _, by omega, rfl, rfl, by go_num, by
                              have h5 := OE.out.setInt k v
                              have h6 : (tabI (fun k => bitI (i.testBit k)) n k).set k v = tabI (fun k => bitI (i.testBit k)) n (k + 1) := by
                                rw [← tabI_set (fun k => bitI (i.testBit k)) hkt, HV.out]
                              rw [h6] at h5
                              exact h5, kept_set KY (Nat.le_refl _) _⟩
                            case measure => omega
                          · obtain rfl : n = k := by omega
                            rw [tabI_all] at oe
                            change Own wr wy.heap.size 3 (ints (bitsL n i)) at oe
                            have C46 := Lib.hid (put_of P M n g b (mlTerms n cF i) x (bitsL n i) (some ⟨wy.heap.size, 0, none⟩) n wr OK.out (HS.out.kept KY) (bitsL_good n i) INX.out oe.rd (by omega) (by have := mlTerms_len n cF i; omega))
                            rw [bitsL_len] at C46
                            clear oe
                            go_wp2_with (go_at_call 67; ((with_reducible refine C46.out.mono ?_); rintro e w5 ⟨rfl, hs5, kg5⟩))
                            go_roundg (l - (i + 1))
                            case rel => exact ⟨i + 1, _, _, _, _, by omega, rfl, rfl, rfl, rfl, rfl, by go_num, by
                              rw [mlTerms_succ, ← HX.out, if_neg HX0.out]; exact hs5, kept_kg (kept_trans KZ KY) kg5 hbw⟩
                            case measure => omega
                    · obtain rfl : l = i := by omega
                      have C47 := Lib.hid (poly_of P M n g b (mlTerms n cF l) wr OK.out HS.out (fun t ht => by
                        obtain ⟨j, hj, h0, rfl⟩ := mlTerms_mem ht
                        have h := HIN.out.ia (i := j) (by rw [LF.out]; exact hj)
                        exact ⟨bitsL_len n j, by have := h.1; dsimp only; omega, h.2⟩) (by omega) (by have := mlTerms_len n cF l; omega))
                      go_wp2_with (go_at_call 68; ((with_reducible refine C47.out.mono ?_); rintro e w5 ⟨A5, c5, r, rfl, hr, hrp, kg5⟩; have HR := Lib.hid hr; clear hr))
                      go_ret2
                      refine ⟨kept_trans K0 (kept_trans K1 (kept_kg KZ kg5 hbw)), .inr ⟨n, A5, c5, r, by omega, lz.out, rfl, hrp, ?_⟩⟩
                      rw [HR.out, HCF.out, HCT2.out]
        · have d3 : ((l : Int) != (z : Int)) = true := by have : (l : Int) ≠ z := by omega
                                                          simpa using this
          have d4 : (l != z) = true := by simpa using hez
          have HN := Lib.hid (show l < 2 ^ n by rw [← HZ.out]; omega)
          clear hn12 hlt hez
          go_wp2_with fail
          go_ret2
          exact ⟨K0, .inl ⟨rfl, fun m _ => pow_not HP.out HN.out m⟩⟩
end Go.Proofs.YtikfeemmjfoffaaGreatDoor
