/- Polynomials: the law PolyTables, walked. -/
import Derived.Test.YtnjmpjdampdmmaaDoorA4
set_option linter.unusedVariables false
set_option linter.unusedSimpArgs false
namespace Go.Proofs.YtnjmpjdampdmmaaDoor
open Go.RowKit Go.Shelf

theorem pow_wraps48 {k : Nat} (hk : k ≤ 48) : 2 ^ k ≤ 281474976710656 ∧ wrap64 ((2 : Int) ^ k) = ((2 ^ k : Nat) : Int) ∧ IntKind.i64.wrap ((2 : Int) ^ k) = ((2 ^ k : Nat) : Int) := by
  have h : 2 ^ k ≤ 281474976710656 := (Nat.pow_le_pow_right (by omega) hk : 2 ^ k ≤ 2 ^ 48)
  have e : ((2 : Int) ^ k) = ((2 ^ k : Nat) : Int) := by simp
  rw [e]
  generalize 2 ^ k = z at *
  exact ⟨h, IntWalk.wrap64_in (z : Int) (by omega), IntWalk.i64_in (z : Int) (by omega)⟩
set_option maxRecDepth 100000 in
set_option maxHeartbeats 1000000 in
theorem multi20_big (P M : Int) (t : List Bool) (A : Option Addr) (c : Nat) (w : World) (ok : okF P M = true) (hl : 9000 < t.length) (hl2 : t.length ≤ 140737488355328) :
    Calls Tryd.prog 20 #[fV P M, .slice A t.length c] w fun e w' => e = .returned (.tuple #[.slice none 0 0, .int .i64 2]) ∧ Kept w w' := by
  have C51 := Lib.hid fun w' => valid51_any P M w'
  rw [ok] at C51
  unfold fV at *
  have K0 := kept_alloc (kept_refl w) (.cells #[.int .i64 P, .int .i64 M] 23)
  obtain ⟨l, hll⟩ : ∃ l, l = t.length := ⟨_, rfl⟩
  rw [← hll] at hl hl2 ⊢
  clear hll ok
  go_enter Tryd.func20, Tryd.ntmps20
  go_wp2_with (go_at_call 51; ((with_reducible refine (C51.out _).mono ?_); rintro e w1 ⟨rfl, k1⟩; replace K0 := kept_trans K0 k1))
  go_loopg [6] 48 (fun G s6 wr => ∃ (n : Nat), n ≤ 48 ∧ G = 48 - n ∧ s6 = .int .i64 n ∧ wr = w1)
  case atStart => exact ⟨0, by omega, rfl, rfl, rfl⟩
  case round =>
    obtain ⟨n, hn, rfl, rfl, rfl⟩ := hrel
    obtain ⟨hz16, s1, s2⟩ := pow_wraps48 (k := n) hn
    clear s2
    obtain ⟨z, hz⟩ : ∃ z, z = 2 ^ n := ⟨_, rfl⟩
    rw [← hz] at hz16 s1
    have HZ := Lib.hid hz
    clear hz
    by_cases hlt : z < l
    · have d1 : decide (z < l) = true := decide_eq_true hlt
      have ew : IntKind.i64.wrap ((n : Int) + 1) = (n : Int) + 1 := IntWalk.i64_in _ (by omega)
      have n47 : n ≤ 46 := by
        have h2 : 2 ^ n < 2 ^ 47 := by rw [← HZ.out]; omega
        have := (Nat.pow_lt_pow_iff_right (a := 2) (by omega)).1 h2
        omega
      go_wp2_with fail
      go_roundg (48 - (n + 1))
      case rel => exact ⟨n + 1, by omega, rfl, by go_num, rfl⟩
      case measure => omega
    · have d1 : decide (z < l) = false := decide_eq_false hlt
      have hn12 : 12 < n := by
        refine Nat.lt_of_not_le fun h => ?_
        have h2 : 2 ^ n ≤ 2 ^ 12 := Nat.pow_le_pow_right (by omega) h
        rw [← HZ.out] at h2
        omega
      have d2 : decide ((12 : Int) < (n : Int)) = true := decide_eq_true (by omega)
      clear hn12 hlt
      go_wp2_with fail
      go_ret2
      exact ⟨rfl, K0⟩
/-- Whatever the table: some polynomial, some error. -/
theorem multi20_some (P M : Int) (t : List Bool) (A : Option Addr) (c : Nat) (w : World) (hA : Rd w A (bools t)) (hl : t.length ≤ 140737488355328) :
    Calls Tryd.prog 20 #[fV P M, .slice A t.length c] w fun e w' => ∃ v z, e = .returned (.tuple #[v, .int .i64 z]) ∧ Kept w w' := by
  cases ok : okF P M with
  | false => exact (multi20_bad P M t A c w ok).mono fun e w' ⟨h, k⟩ => ⟨_, _, h, k⟩
  | true =>
    by_cases h9 : 9000 < t.length
    · exact (multi20_big P M t A c w ok h9 hl).mono fun e w' ⟨h, k⟩ => ⟨_, _, h, k⟩
    · refine (multi20_any P M t A c w ok hA (by omega)).mono fun e w' ⟨k, h⟩ => ?_
      rcases h with ⟨h, _⟩ | ⟨n, A', c', r, _, _, h, _⟩
      · exact ⟨_, _, h, k⟩
      · exact ⟨_, _, h, k⟩
theorem inputs19_six (l : Nat) (w : World) (h9 : l ≤ 140737488355328) (n : Nat) (hn : n ≤ 6) (hl : l = 2 ^ n) : Calls Tryd.prog 19 #[.int .i64 (l : Int), .int .i64 6] w fun e w' => e = .returned (.int .i64 (n : Int)) ∧ w = w' :=
  (rinputs19_any l 6 w (by decide) h9).mono fun e w' ⟨h, h'⟩ => by
    rcases h' with ⟨m, _, hm, rfl⟩ | ⟨hno, rfl⟩
    · obtain rfl : n = m := (Nat.pow_right_inj (by decide)).1 (hl.symm.trans hm)
      exact ⟨rfl, h⟩
    · exact absurd hl (hno n hn)
theorem inputs19_none (l : Nat) (w : World) (hl : ∀ n, n ≤ 6 → l ≠ 2 ^ n) (h9 : l ≤ 140737488355328) : Calls Tryd.prog 19 #[.int .i64 (l : Int), .int .i64 6] w fun e w' => e = .returned (.int .i64 (-1)) ∧ w = w' :=
  (rinputs19_any l 6 w (by decide) h9).mono fun e w' ⟨h, h'⟩ => by
    rcases h' with ⟨m, hm, e, rfl⟩ | ⟨hno, rfl⟩
    · exact absurd e (hl m hm)
    · exact ⟨rfl, h⟩
theorem canon_vld {q : Int} {n : Nat} {p : List Tm} (hq : q ≠ 0) (hn : n ≤ 80) (hl : p.length ≤ 20000) (hc : Canon q n p) (he : ∀ t ∈ p, ∀ x ∈ t.e, 0 ≤ x ∧ x ≤ 65535) : vld q n p = true := by
  refine vld_good (by omega) (by omega) hl hq fun j hj => ?_
  have hm := tmv_mem hj
  refine tok_parts.2 ⟨(hc.c _ hm).1, (hc.c _ hm).2, by rw [hc.len _ hm], ?_, ?_⟩
  · rcases Nat.eq_zero_or_pos j with h | h
    · exact .inl h
    · right
      have := List.pairwise_iff_getElem.1 hc.rise (j - 1) j (by omega) hj (by omega)
      rw [show tmv p (j - 1) = p[j - 1] by simp [tmv, show j - 1 < p.length by omega], show tmv p j = p[j] by simp [tmv, hj]]
      exact this
  · rw [List.all_eq_true]
    intro x hx
    have := he _ hm x hx
    simp [eOk, this.1, this.2]
theorem ml_canon {P M : Int} (ok : okF P M = true) {t : List Bool} {n : Nat} (hl : t.length = 2 ^ n) : Canon (ordF P M) n (mlT P M t n) ∧ (mlT P M t n).length ≤ t.length := by
  have hin := mlAll_in ok (bitsT_in ok t) n
  have hlen : (mlAll P M (t.map bitI) n).length = t.length := by rw [mlAll_len, List.length_map]
  refine ⟨(totalT_spec (n := n) (addF_ok ok) (mlTerms n (mlAll P M (t.map bitI) n) t.length).length (l := (mlTerms n (mlAll P M (t.map bitI) n) t.length).map fun t => [t]) (by simp) (fun p hp => by
    obtain ⟨u, hu, rfl⟩ := List.mem_map.1 hp
    obtain ⟨j, hj, h0, rfl⟩ := mlTerms_mem hu
    have h := hin.ia (i := j) (by omega)
    exact ⟨List.pairwise_singleton _ _, fun x hx => by rw [List.mem_singleton.1 hx]; exact bitsL_len n j, fun x hx => by rw [List.mem_singleton.1 hx]; exact ⟨by have := h.1; dsimp only; omega, h.2⟩⟩)).1, ?_⟩
  have h5 := totalT_len (addF P M) (mlTerms n (mlAll P M (t.map bitI) n) t.length).length ((mlTerms n (mlAll P M (t.map bitI) n) t.length).map fun t => [t])
  have h6 : sumLen ((mlTerms n (mlAll P M (t.map bitI) n) t.length).map fun t => [t]) = (mlTerms n (mlAll P M (t.map bitI) n) t.length).length := by
    have := sumLen_one id (mlTerms n (mlAll P M (t.map bitI) n) t.length)
    rwa [List.map_id] at this
  have h7 := mlTerms_len n (mlAll P M (t.map bitI) n) t.length
  unfold mlT
  omega
set_option maxRecDepth 100000 in
set_option maxHeartbeats 1000000 in
theorem law9_any (P M : Int) (t : List Bool) (A : Option Addr) (c : Nat) (w : World) (hp : PowOk w) (hA : Rd w A (bools t)) (hl : t.length ≤ 140737488355328) :
    Calls Tryd.prog 9 #[fV P M, .slice A t.length c] w fun e w' => e = .returned (.bool true) ∧ Kept w w' := by
  have K1 := kept_alloc (kept_refl w) (.cells #[.int .i64 P, .int .i64 M] 23)
  have o3 := Own.new w 23 [.int .i64 P, .int .i64 M]
  have y0 := o3.cell (j := 0) rfl; have y1 := o3.cell (j := 1) rfl
  have C13 := Lib.hid fun w' (k : Kept w w') => alive13_any w' (hp.kept k)
  by_cases hn : ∃ n, n ≤ 6 ∧ t.length = 2 ^ n
  · obtain ⟨n, hn6, hln⟩ := hn
    have C19 := Lib.hid fun w' => inputs19_six t.length w' hl n hn6 hln
    have d2 : decide ((n : Int) < 0) = false := decide_eq_false (by omega)
    have hl64 : t.length ≤ 64 := by rw [hln]; exact (Nat.pow_le_pow_right (by omega) hn6 : 2 ^ n ≤ 2 ^ 6)
    cases ok : okF P M with
    | false =>
      have C20 := Lib.hid fun w' => multi20_bad P M t A c w' ok
      unfold fV at *
      clear hA hp ok hln
      go_enter Tryd.func9, Tryd.ntmps9
      go_wp2_with (first
        | (go_at_call 19; ((with_reducible refine (C19.out _).mono ?_); rintro e w1 ⟨rfl, rfl⟩))
        | (go_at_call 20; ((with_reducible refine (C20.out _).mono ?_); rintro e w2 ⟨rfl, k2⟩; replace K1 := kept_trans K1 k2))
        | (go_at_call 13; ((with_reducible refine (C13.out _ K1).mono ?_); rintro e w5 ⟨rfl, k5⟩; replace K1 := kept_trans K1 k5)))
      go_ret
      exact ⟨rfl, K1⟩
    | true =>
      have C20 := Lib.hid fun w' (k : Kept w w') => multi20_yes P M n t A c w' ok (hA.kept k) (by omega) (by omega) hln
      obtain ⟨T, hT⟩ : ∃ T, T = mlT P M t n := ⟨_, rfl⟩
      obtain ⟨hcan, hTl⟩ := ml_canon ok hln
      have hexp := ml_exp ok hln
      have hq := ord_ok ok
      have hvT := canon_vld (q := ordF P M) (by omega) (by omega : n ≤ 80) (by omega : (mlT P M t n).length ≤ 20000) hcan (fun z hz x hx => by have := (hexp z hz).2 x hx; omega)
      have hval := fun i (hi : i < t.length) => ml_val (n := n) ok hln hi
      rw [← hT] at C20 hcan hTl hexp hvT hval
      have C32 := Lib.hid fun i B w' (h1 : RP w' B T) d B2 (h2 : Rd w' B2 (ints (bitsL n i))) c2 => eval32_any P M (n : Int) T (bitsL n i) B B2 d c2 w' h1 hvT h2 (by rw [bitsL_len]) (allQ_iff.2 fun x hx => bitsL_in ok x hx)
      have HVAL := Lib.hid hval
      have HEXP := Lib.hid (show ∀ k, k < T.length → (tmv T k).e.length = n ∧ ∀ x ∈ (tmv T k).e, 0 ≤ x ∧ x ≤ 1 from fun k hk => hexp _ (tmv_mem hk))
      have HA := Lib.hid hA
      obtain ⟨l, hll⟩ : ∃ l, l = t.length := ⟨_, rfl⟩
      have HLL := Lib.hid hll
      have HLN := Lib.hid hln
      rw [← hll] at C19 C20 hl64 hTl ⊢
      unfold fV at *
      clear hA hp ok hln hT hcan hexp hvT hval hll hl hq
      go_enter Tryd.func9, Tryd.ntmps9
      go_wp2_with (first
        | (go_at_call 19; ((with_reducible refine (C19.out _).mono ?_); rintro e w1 ⟨rfl, rfl⟩))
        | (go_at_call 20; ((with_reducible refine (C20.out _ K1).mono ?_); rintro e w2 ⟨A2, c2, r, rfl, hr, hrp, k2⟩; replace K1 := kept_trans K1 k2; replace o3 := o3.kept k2; subst hr)))
      have HRP := Lib.hid hrp
      clear y0 y1 hrp
      go_loopg [8, 9] r.length (fun G s8 s9 wr => ∃ (i : Nat) (v9 : Value), i ≤ r.length ∧ G = r.length - i ∧ s8 = .int .i64 i ∧ s9 = v9 ∧ Kept w2 wr)
      case atStart => exact ⟨0, _, by omega, rfl, rfl, rfl, kept_refl _⟩
      case round =>
        obtain ⟨i, v9, hi, rfl, rfl, rfl, K2⟩ := hrel
        by_cases hit : i < r.length
        · obtain ⟨ba, off, E, ce, rfl, h0, h1, hE, hlE⟩ := HRP.out i hit
          have H1 := Lib.hid h1
          have TK := Lib.hid (HEXP.out i hit)
          obtain ⟨el, hel⟩ : ∃ el, el = (tmv r i).e := ⟨_, rfl⟩
          rw [← hel] at TK hE H1
          have HE := Lib.hid hE
          have hl80 : el.length ≤ 80 := by have := TK.out.1; omega
          clear hel hE h0 h1 hlE
          go_wp2_with fail
          go_loopg [9] el.length (fun G s9 wx => ∃ (j : Nat), j ≤ el.length ∧ G = el.length - j ∧ s9 = .int .i64 j ∧ Kept w2 wx)
          case atStart => exact ⟨0, by omega, rfl, rfl, K2⟩
          case round =>
            clear K2
            obtain ⟨j, hj, rfl, rfl, K2⟩ := hrel
            have h1 := kept_cell K2 H1.out
            by_cases hjt : j < el.length
            · obtain ⟨b1, o1, rfl, h2⟩ := (HE.out.kept K2).int hjt
              have x0 := h2 j hjt
              have bx := TK.out.2 (ia el j) (ia_mem hjt)
              obtain ⟨xi, hxi⟩ : ∃ xi, xi = ia el j := ⟨_, rfl⟩
              rw [← hxi] at x0 bx
              have d1 : decide (1 < xi) = false := decide_eq_false (by omega)
              clear h2 hxi
              go_wp2_with fail
              go_roundg (el.length - (j + 1))
              case rel => exact ⟨j + 1, by omega, rfl, by go_num, K2⟩
              case measure => omega
            · obtain rfl : j = el.length := by omega
              go_wp2_with fail
              go_roundg (r.length - (i + 1))
              case rel => exact ⟨i + 1, _, by omega, rfl, by go_num, rfl, K2⟩
              case measure => omega
        · obtain rfl : i = r.length := by omega
          have K3 := kept_trans K1 K2
          have o4 := o3.kept K2
          have HRP2 := Lib.hid (HRP.out.kept K2)
          clear K1 K2
          go_wp2_with fail
          obtain ⟨w4, rfl⟩ : ∃ x, x = wr := ⟨_, rfl⟩
          go_loopg [10, 11, 12, 13, 14] l (fun G s10 s11 s12 s13 s14 wr => ∃ (i : Nat) (v11 v12 v13 v14 : Value), i ≤ l ∧ G = l - i ∧ s10 = .int .i64 i ∧ s11 = v11 ∧ s12 = v12 ∧ s13 = v13 ∧ s14 = v14 ∧ Kept w4 wr)
          case atStart => exact ⟨0, _, _, _, _, by omega, rfl, rfl, rfl, rfl, rfl, rfl, kept_refl _⟩
          case round =>
            obtain ⟨i, v11, v12, v13, v14, hi, rfl, rfl, rfl, rfl, rfl, rfl, K5⟩ := hrel
            by_cases hit : i < l
            · have hmk := make_ints n (by omega)
              have oe := Own.new wr 3 (ints (List.replicate n 0))
              go_wp2_with fail
              clear hmk
              obtain ⟨wy, rfl⟩ : ∃ x, x = wr := ⟨_, rfl⟩
              go_loopg [12] n (fun G s12 wr => ∃ (k : Nat), k ≤ n ∧ G = n - k ∧ s12 = .int .i64 k ∧ Own wr wy.heap.size 3 (ints (tabI (fun k => bitI (i.testBit k)) n k)) ∧ Kept wy wr)
              case atStart => exact ⟨0, by omega, rfl, rfl, by rw [tabI_zero]; exact oe, kept_alloc (kept_refl _) _⟩
              case round =>
                clear oe
                obtain ⟨k, hk, rfl, rfl, oe, KY⟩ := hrel
                by_cases hkt : k < n
                · have ev := b_and2 (b := i) (by omega) k
                  obtain ⟨v, hv⟩ : ∃ v, v = bitI (i.testBit k) := ⟨_, rfl⟩
                  rw [← hv] at ev
                  have HV := Lib.hid hv
                  have OE := Lib.hid oe
                  have f0 := oe.frozen k
                  have e0 := oe.int (j := k) (by rw [tabI_len]; exact hkt)
                  clear hv oe
                  go_wp2_with fail
                  go_roundg (n - (k + 1))
                  case rel => exact ⟨k + 1, by omega, rfl, by go_num, by
                    have h5 := OE.out.setInt k v
                    have h6 : (tabI (fun k => bitI (i.testBit k)) n k).set k v = tabI (fun k => bitI (i.testBit k)) n (k + 1) := by
                      rw [← tabI_set (fun k => bitI (i.testBit k)) hkt, HV.out]
                    rw [h6] at h5
                    exact h5, kept_set KY (Nat.le_refl _) _⟩
                  case measure => omega
                · obtain rfl : n = k := by omega
                  rw [tabI_all] at oe
                  change Own wr wy.heap.size 3 (ints (bitsL n i)) at oe
                  have K6 := kept_trans K5 KY
                  have CE := Lib.hid (C32.out i A2 wr (HRP2.out.kept K6) c2 (some ⟨wy.heap.size, 0, none⟩) oe.rd n)
                  rw [bitsL_len, HVAL.out i (by rw [← HLL.out]; exact hit)] at CE
                  have z0 := (o4.kept K6).cell (j := 0) rfl
                  have z1 := (o4.kept K6).cell (j := 1) rfl
                  obtain ⟨bv, hbv⟩ : ∃ bv, bv = ba t i := ⟨_, rfl⟩
                  have RB := Lib.hid ((HA.out.kept K3).kept K6)
                  have hit' : i < t.length := by rw [← HLL.out]; exact hit
                  obtain ⟨ab, ao, rfl, hcb⟩ := RB.out.bool (k := i) hit'
                  replace hcb := hcb i hit'
                  rw [← hbv] at hcb CE
                  clear oe hbv hit'
                  cases bv with
                  | true =>
                    rw [show bitI true = 1 from rfl] at CE
                    go_wp2_with (go_at_call 32; ((with_reducible refine CE.out.mono ?_); rintro e w7 ⟨rfl, k7⟩; replace hcb := kept_cell k7 hcb))
                    go_roundg (l - (i + 1))
                    case rel => exact ⟨i + 1, _, _, _, _, by omega, rfl, by go_num, rfl, rfl, rfl, rfl, kept_trans K6 k7⟩
                    case measure => omega
                  | false =>
                    rw [show bitI false = 0 from rfl] at CE
                    go_wp2_with (go_at_call 32; ((with_reducible refine CE.out.mono ?_); rintro e w7 ⟨rfl, k7⟩; replace hcb := kept_cell k7 hcb))
                    go_roundg (l - (i + 1))
                    case rel => exact ⟨i + 1, _, _, _, _, by omega, rfl, by go_num, rfl, rfl, rfl, rfl, kept_trans K6 k7⟩
                    case measure => omega
            · obtain rfl : i = l := by omega
              have K6 := kept_trans K3 K5
              go_wp2_with (go_at_call 13; ((with_reducible refine (C13.out _ K6).mono ?_); rintro e w8 ⟨rfl, k8⟩))
              go_ret
              exact ⟨rfl, kept_trans K6 k8⟩
  · have hno : ∀ n, n ≤ 6 → t.length ≠ 2 ^ n := fun n h e => hn ⟨n, h, e⟩
    have C19 := Lib.hid fun w' => inputs19_none t.length w' hno hl
    have C20 := Lib.hid fun w' (k : Kept w w') => multi20_some P M t A c w' (hA.kept k) hl
    unfold fV at *
    clear hA hp hn hno
    go_enter Tryd.func9, Tryd.ntmps9
    go_wp2_with (first
      | (go_at_call 19; ((with_reducible refine (C19.out _).mono ?_); rintro e w1 ⟨rfl, rfl⟩))
      | (go_at_call 20; ((with_reducible refine (C20.out _ K1).mono ?_); rintro e w2 ⟨v, z, rfl, k2⟩; replace K1 := kept_trans K1 k2))
      | (go_at_call 13; ((with_reducible refine (C13.out _ K1).mono ?_); rintro e w5 ⟨rfl, k5⟩; replace K1 := kept_trans K1 k5)))
    go_ret
    exact ⟨rfl, K1⟩
end Go.Proofs.YtnjmpjdampdmmaaDoor
