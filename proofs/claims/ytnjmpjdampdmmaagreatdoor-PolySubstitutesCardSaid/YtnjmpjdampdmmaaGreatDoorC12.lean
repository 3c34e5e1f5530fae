/- Polynomials: the program's Reduce. -/
import Derived.Test.YtnjmpjdampdmmaaGreatDoorC11
set_option linter.unusedVariables false
set_option linter.unusedSimpArgs false
namespace Go.Proofs.YtnjmpjdampdmmaaGreatDoor
open Go.RowKit Go.Maps Go.Shelf

/-! ### A sum under way -/
theorem mput_len (add : Int → Int → Int) : ∀ (M : List Tm) (t : Tm), (mput add M t).length ≤ M.length + 1
  | [], t => by simp [mput]
  | u :: M, t => by
    unfold mput
    split
    · simp
    · have := mput_len add M t
      simp only [List.length_cons]
      omega
theorem mputs_len (add : Int → Int → Int) : ∀ (l M : List Tm), (l.foldl (mput add) M).length ≤ M.length + l.length
  | [], M => by simp
  | t :: l, M => by
    have h1 := mputs_len add l (mput add M t)
    have h2 := mput_len add M t
    simp only [List.foldl_cons, List.length_cons]
    omega
/-- A sum to which the terms of l have been put. -/
structure SumOf (P M : Int) (n g b : Nat) (l : List Tm) (w : World) : Prop where
  at_ : ∃ T k, SumAt P M n g b k T w ∧ k ≤ l.length ∧ (T.map Te.t).Perm (l.foldl (mput (addF P M)) [])
theorem SumOf.kept {P M : Int} {n g b : Nat} {l : List Tm} {w w' : World} (h : SumOf P M n g b l w) (k : Kept w w') : SumOf P M n g b l w' := by
  obtain ⟨T, kk, h1, h2, h3⟩ := h.at_
  exact ⟨T, kk, h1.kept k, h2, h3⟩
theorem SumOf.start {P M : Int} {n g b : Nat} {w : World} (h : SumAt P M n g b 0 [] w) : SumOf P M n g b [] w := ⟨[], 0, h, by simp, .refl _⟩
/-- (*sum).put upon a sum under way. -/
theorem put_of (P M : Int) (n g b : Nat) (l : List Tm) (c : Int) (e : List Int) (A : Option Addr) (cA : Nat) (w : World) (ok : okF P M = true) (hs : SumOf P M n g b l w) (hge : GoodE n e) (hc : inF P M c) (hA : Rd w A (ints e)) (hn : n ≤ 80) (hl : l.length ≤ 1000000000) :
    Calls Tryz.prog 46 #[.pointer (some ⟨g, 0, none⟩), .int .i64 c, .slice A e.length cA] w fun en w' => en = .returned (.tuple #[]) ∧ SumOf P M n g b (l ++ [⟨c, e⟩]) w' ∧ KG b w w' := by
  obtain ⟨T, k, h1, h2, h3⟩ := hs.at_
  refine (put46_any P M n g b k T c e A cA w ok h1 hge hc hA hn (by omega)).mono ?_
  rintro en w' ⟨rfl, x, rfl, hxc, hs', kg⟩
  refine ⟨rfl, ⟨putTe x T, k + 1, hs', by simp; omega, ?_⟩, kg⟩
  rw [List.foldl_append]
  exact put_same h1.ok h3 x c hxc
/-- (*sum).poly of a sum under way. -/
def PolyOf (q : Int) (add : Int → Int → Int) (b : Nat) (l : List Tm) (w : World) (e : Ending) (w' : World) : Prop := ∃ (A : Option Addr) (c : Nat) (p : List Tm),
  e = .returned (.tuple #[.slice A p.length c, .int .i64 0]) ∧ p = totalT add l.length (l.map fun t => [t]) ∧ RP w' A p ∧ KG b w w'
theorem poly_of (P M : Int) (n g b : Nat) (l : List Tm) (w : World) (ok : okF P M = true) (hs : SumOf P M n g b l w) (hl : ∀ t ∈ l, t.e.length = n ∧ 1 ≤ t.c ∧ t.c < ordF P M) (hn : n ≤ 80) (hm : l.length ≤ 20000) :
    Calls Tryz.prog 47 #[.pointer (some ⟨g, 0, none⟩)] w (PolyOf (ordF P M) (addF P M) b l w) := by
  obtain ⟨T, k, h1, h2, h3⟩ := hs.at_
  have hT : T.length ≤ 20000 := by
    have := h3.length_eq
    have := mputs_len (addF P M) l []
    simp at *
    omega
  refine (poly47_any P M n g b k T w h1 hn hT).mono ?_
  rintro e w' ⟨A, c, p, rfl, hp, hs, hrp, kg⟩
  exact ⟨A, c, p, rfl, table_out (addF_ok ok) hl (hp.trans (h3.filter _)) hs, hrp, kg⟩

theorem take_tm {p : List Tm} {k : Nat} (h : k < p.length) : p.take (k + 1) = p.take k ++ [tmv p k] := by
  rw [List.take_succ_eq_append_getElem h]
  simp [tmv, h]

/-! ### Reduced exponents -/
def redE (q x : Int) : Int := if q ≤ x then 1 + (x - 1).tmod (q - 1) else x
def redT (q : Int) (t : Tm) : Tm := ⟨t.c, t.e.map (redE q)⟩
theorem redE_range {q x : Int} (hq : 2 ≤ q) (h0 : 0 ≤ x) (h1 : x ≤ 65535) : 0 ≤ redE q x ∧ redE q x ≤ 65535 := by
  unfold redE
  split
  · have e : (x - 1).tmod (q - 1) = (x - 1) % (q - 1) := Int.tmod_eq_emod_of_nonneg (by omega)
    have h2 := Int.emod_nonneg (x - 1) (show q - 1 ≠ 0 by omega)
    have h3 := Int.emod_lt_of_pos (x - 1) (show 0 < q - 1 by omega)
    omega
  · exact ⟨h0, h1⟩
/-- Turned below k. -/
def turnTo (f : Int → Int) (l : List Int) (k : Nat) : List Int := (l.take k).map f ++ l.drop k
theorem turnTo_len (f : Int → Int) (l : List Int) (k : Nat) : (turnTo f l k).length = l.length := by simp [turnTo]; omega
theorem turnTo_zero (f : Int → Int) (l : List Int) : turnTo f l 0 = l := by simp [turnTo]
theorem turnTo_all (f : Int → Int) (l : List Int) : turnTo f l l.length = l.map f := by simp [turnTo]
theorem turnTo_at {f : Int → Int} {l : List Int} {k : Nat} (h : k < l.length) : ia (turnTo f l k) k = ia l k := by
  unfold turnTo ia
  rw [List.getD_eq_getElem?_getD, List.getD_eq_getElem?_getD, List.getElem?_append_right (by simp; omega)]
  simp [Nat.min_eq_left (Nat.le_of_lt h)]
theorem turnTo_set {f : Int → Int} {l : List Int} {k : Nat} (h : k < l.length) : (turnTo f l k).set k (f (ia l k)) = turnTo f l (k + 1) := by
  apply List.ext_getElem?
  intro j
  rw [List.getElem?_set]
  unfold turnTo
  rw [List.getElem?_append, List.getElem?_append]
  simp only [List.length_map, List.length_take, List.getElem?_map, List.getElem?_take, List.getElem?_drop]
  by_cases h1 : k = j
  · subst h1
    rw [if_pos rfl, if_pos (by simp; omega), if_pos (by omega), if_pos (by omega)]
    simp [ia, h]
  · rw [if_neg h1]
    by_cases h2 : j < k
    · rw [if_pos (by omega), if_pos (by omega), if_pos (by omega), if_pos (by omega)]
    · rw [if_neg (by omega), if_neg (by omega), show k + (j - min k l.length) = j by omega, show k + 1 + (j - min (k + 1) l.length) = j by omega]
theorem turnTo_same {f : Int → Int} {l : List Int} {k : Nat} (h : k < l.length) (hf : f (ia l k) = ia l k) : turnTo f l k = turnTo f l (k + 1) := by
  rw [← turnTo_set h, hf]
  apply List.ext_getElem?
  intro j
  rw [List.getElem?_set]
  split
  · rename_i e; subst e
    split
    · rw [← turnTo_at (f := f) h]
      have : k < (turnTo f l k).length := by rw [turnTo_len]; exact h
      simp [ia, this]
    · rename_i h2; exact absurd (by rw [turnTo_len]; exact h) h2
  · rfl
/-- A store into a row of numbers of one's own. -/
theorem row_setInt {w : World} {B m c : Nat} {A : Option Addr} {l : List Int} (h : w.ownsRow B 3 1 (.slice A m c) m (ints l)) {i : Nat} (hi : i < l.length) : ∃ g, A = some ⟨g, 0, none⟩ ∧ B ≤ g ∧ g < w.heap.size ∧ w.cell? ⟨g, i, none⟩ = some (.int .i64 (ia l i)) ∧ w.frozen? ⟨g, i, none⟩ = false ∧ ∀ v, (w.setCell ⟨g, i, none⟩ (.int .i64 v)).ownsRow B 3 1 (.slice A m c) m (ints (l.set i v)) := by
  have hr := row_rd h
  obtain ⟨b, off, e, hc⟩ := hr.int (k := i) hi
  rcases h.2 with ⟨e0, hm⟩ | ⟨g, cap, cur, e0, hb, hg, hn, hm, hs, ht⟩
  · injection e0 with e1 _ _
    rw [e] at e1; cases e1
  · injection e0 with e1 _ e3
    subst e1; subst e3
    injection e with e
    injection e with e4 e5 _
    subst e4; subst e5
    have hlt : g < w.heap.size := (Array.getElem?_eq_some_iff.1 hg).1
    have hml : l.length = m := by have := h.1; simpa using this
    refine ⟨g, rfl, hb, hlt, by have := hc i hi; simpa using this, by simp [World.frozen?, hg], fun v => ⟨by rw [ints_length]; simpa using hml, .inr ⟨g, c, cur.set! i (.int .i64 v), rfl, hb, ?_, hn, hm, by simpa using hs, ?_⟩⟩⟩
    · unfold World.setCell
      simp only [Array.getElem?_modify, if_true, hg, Option.map_some]
      rfl
    · rw [← ints_set, ← ht]
      simp [List.take_set]

set_option maxRecDepth 100000 in
set_option maxHeartbeats 1000000 in
theorem reduce14_bad (P M n : Int) (p : List Tm) (A : Option Addr) (c : Nat) (w : World) (hP : RP w A p) (hl : p.length ≤ 140737488355328) (hv : vld (ordF P M) n p = false) :
    Calls Tryz.prog 22 #[fV P M, .int .i64 n, .slice A p.length c] w fun e w' => e = .returned (.tuple #[.slice none 0 0, .int .i64 1]) ∧ Kept w w' := by
  have C25 := Lib.hid fun w' (k : Kept w w') => valid25_any P M n p A c w' (hP.kept k) hl
  rw [hv] at C25
  unfold fV at *
  have K0 := kept_alloc (kept_refl w) (.cells #[.int .i64 P, .int .i64 M] 23)
  obtain ⟨l, hl'⟩ : ∃ l, l = p.length := ⟨_, rfl⟩
  rw [← hl'] at C25 ⊢
  clear hP hv hl hl'
  go_enter Tryz.func22, Tryz.ntmps22
  go_wp2_with (go_at_call 29; ((with_reducible refine (C25.out _ K0).mono ?_); rintro e w1 ⟨rfl, k1⟩))
  go_ret2
  exact ⟨rfl, kept_trans K0 k1⟩
set_option maxRecDepth 100000 in
set_option maxHeartbeats 1000000 in
theorem reduce14_any (P M n : Int) (p : List Tm) (A : Option Addr) (c : Nat) (w : World) (hP : RP w A p) (hv : vld (ordF P M) n p = true) :
    Calls Tryz.prog 22 #[fV P M, .int .i64 n, .slice A p.length c] w fun e w' => ∃ (A' : Option Addr) (c' : Nat) (r : List Tm), e = .returned (.tuple #[.slice A' r.length c', .int .i64 0]) ∧ r = totalT (addF P M) p.length ((p.map (redT (ordF P M))).map fun t => [t]) ∧ RP w' A' r ∧ Kept w w' := by
  have hvp := hv
  simp only [vld, Bool.and_eq_true, decide_eq_true_eq, allN_true] at hvp
  obtain ⟨⟨⟨⟨hn0, hn⟩, hl⟩, hq0⟩, hT⟩ := hvp
  have ok : okF P M = true := by
    cases h : okF P M with
    | true => rfl
    | false => exact absurd (ord_bad h) hq0
  have hq := ord_ok ok
  have C25 := Lib.hid fun w' (k : Kept w w') => valid25_any P M n p A c w' (hP.kept k) (by omega)
  rw [hv] at C25
  have C43 := Lib.hid fun w' => order43_any P M w'
  have C44 := Lib.hid fun w' => newSum44_any P M n.toNat w'
  unfold fV at *
  have K0 := kept_alloc (kept_refl w) (.cells #[.int .i64 P, .int .i64 M] 23)
  have o3 := Own.new w 23 [.int .i64 P, .int .i64 M]
  obtain ⟨q, hqq⟩ : ∃ q, q = ordF P M := ⟨_, rfl⟩
  rw [← hqq] at C43 hq hT ⊢
  have HQ := Lib.hid hqq
  have HP := Lib.hid hP
  have HT := Lib.hid hT
  have OK := Lib.hid ok
  have tl : ∀ k, k < p.length → (tmv p k).e.length = n.toNat ∧ 1 ≤ (tmv p k).c ∧ (tmv p k).c < q ∧ ∀ x ∈ (tmv p k).e, 0 ≤ x ∧ x ≤ 65535 := fun k hk => by
    have h := tok_parts.1 (hT k hk)
    refine ⟨by omega, h.1, h.2.1, fun x hx => ?_⟩
    have := List.all_eq_true.1 h.2.2.2.2 x hx
    simpa [eOk] using this
  have TL := Lib.hid tl
  have y0 := o3.cell (j := 0) rfl; have y1 := o3.cell (j := 1) rfl
  clear hP hv hqq hT hq0 ok tl
  go_enter Tryz.func22, Tryz.ntmps22
  go_wp2_with (first
    | (go_at_call 29; ((with_reducible refine (C25.out _ K0).mono ?_); rintro e w1 ⟨rfl, k1⟩; replace K0 := kept_trans K0 k1; replace y0 := kept_cell k1 y0; replace y1 := kept_cell k1 y1))
    | (go_at_call 31; ((with_reducible refine (C43.out _).mono ?_); rintro e w2 ⟨rfl, k2⟩; replace K0 := kept_trans K0 k2; have hw2 := K0.size; replace y0 := kept_cell k2 y0; replace y1 := kept_cell k2 y1))
    | (go_at_call 44; ((with_reducible refine (C44.out _).mono ?_); rintro e w3 ⟨rfl, hs, k3⟩; replace K0 := kept_trans K0 k3)))
  obtain ⟨g, hg⟩ : ∃ g, g = w2.heap.size + 2 := ⟨_, rfl⟩
  obtain ⟨b, hb⟩ : ∃ b, b = w2.heap.size + 1 := ⟨_, rfl⟩
  rw [← hg, ← hb] at hs
  rw [← hg]
  have HS0 := Lib.hid (SumOf.start hs)
  have hbw : w.heap.size ≤ b := by omega
  clear hs hg hb k3
  go_loopg [11, 12, 13, 14, 26] p.length (fun G s11 s12 s13 s14 s26 wr => ∃ (k : Nat) (v11 v12 v13 v14 : Value), k ≤ p.length ∧ G = p.length - k ∧ s11 = v11 ∧ s12 = v12 ∧ s13 = v13 ∧ s14 = v14 ∧ s26 = .int .i64 k ∧ SumOf P M n.toNat g b ((p.take k).map (redT q)) wr ∧ Kept w wr)
  case atStart => exact ⟨0, _, _, _, _, by omega, rfl, rfl, rfl, rfl, rfl, rfl, by simpa using HS0.out, K0⟩
  case round =>
    clear K0 HS0 y0 y1
    obtain ⟨k, v11, v12, v13, v14, hk, rfl, rfl, rfl, rfl, rfl, rfl, hS, K0⟩ := hrel
    have HS := Lib.hid hS
    clear hS
    by_cases hlt : k < p.length
    · obtain ⟨ba, off, E, ce, rfl, h0, h1, hE, hlE⟩ := (HP.out.kept K0) k hlt
      obtain ⟨x, hx⟩ : ∃ x, x = (tmv p k).c := ⟨_, rfl⟩
      obtain ⟨el, hel⟩ : ∃ el, el = (tmv p k).e := ⟨_, rfl⟩
      have TK := Lib.hid (TL.out k hlt)
      have HX := Lib.hid hx
      have HEL := Lib.hid hel
      rw [← hx, ← hel] at TK
      rw [← hx] at h0
      rw [← hel] at h1 hE hlE
      have K1 := kept_alloc K0 (.cells #[.int .i64 x, .slice E el.length ce] 64)
      obtain ⟨W1, hW1⟩ : ∃ W1, W1 = wr.alloc (.cells #[.int .i64 x, .slice E el.length ce] 64) := ⟨_, rfl⟩
      have o11 : Own W1 wr.heap.size 64 [.int .i64 x, .slice E el.length ce] := by rw [hW1]; exact Own.new wr 64 _
      have KW1 : Kept wr W1 := by rw [hW1]; exact kept_alloc (kept_refl wr) _
      have hl1 : el.length ≤ 80 := by have := TK.out.1; omega
      have C45 := Lib.hid (clone45_any el E ce W1 (hE.kept KW1) (by omega))
      have z0 := o11.cell (j := 0) rfl; have z1 := o11.cell (j := 1) rfl
      rw [← hW1] at K1
      have HW1 := Lib.hid hW1
      clear hx hel hE hW1
      go_wp2_with (first | (go_at_call 45; rw [← HW1.out]; ((with_reducible refine C45.out.mono ?_); rintro e w4 ⟨A4, c4, rfl, hrow, k4⟩)))
      go_loopg [13, 14, 35] el.length (fun G s13 s14 s35 wx => ∃ (i : Nat) (v13 v14 : Value), i ≤ el.length ∧ G = el.length - i ∧ s13 = v13 ∧ s14 = v14 ∧ s35 = .int .i64 i ∧ wx.ownsRow W1.heap.size 3 1 (.slice A4 el.length c4) el.length (ints (turnTo (redE q) el i)) ∧ Kept W1 wx)
      case atStart => exact ⟨0, _, _, by omega, rfl, rfl, rfl, rfl, by rw [turnTo_zero]; exact hrow, k4⟩
      case round =>
        clear hrow k4 h0 h1
        obtain ⟨i, u13, u14, hi, rfl, rfl, rfl, rfl, hrow, KX⟩ := hrel
        by_cases hit : i < el.length
        · obtain ⟨ge, rfl, hge1, hge2, hge3, hge4, hset⟩ := row_setInt hrow (i := i) (by rw [turnTo_len]; exact hit)
          rw [turnTo_at hit] at hge3
          have bx := TK.out.2.2.2 (ia el i) (by unfold ia; rw [List.getD_eq_getElem?_getD, List.getElem?_eq_getElem hit]; exact List.getElem_mem hit)
          obtain ⟨xi, hxi⟩ : ∃ xi, xi = ia el i := ⟨_, rfl⟩
          rw [← hxi] at hge3 bx
          have HSET := Lib.hid hset
          have HROW := Lib.hid hrow
          have HXI := Lib.hid hxi
          clear hset hrow hxi
          by_cases c1 : q ≤ xi
          · have d1 : decide (q ≤ xi) = true := decide_eq_true c1
            have e1 : IntKind.i64.wrap (xi - 1) = xi - 1 := IntWalk.i64_in _ (by omega)
            have e2 : IntKind.i64.wrap (q - 1) = q - 1 := IntWalk.i64_in _ (by omega)
            obtain ⟨r, hr⟩ : ∃ r, r = (xi - 1).tmod (q - 1) := ⟨_, rfl⟩
            have hr1 : 0 ≤ r ∧ r < q - 1 := by
              rw [hr, Int.tmod_eq_emod_of_nonneg (by omega)]
              exact ⟨Int.emod_nonneg _ (by omega), Int.emod_lt_of_pos _ (by omega)⟩
            have m3 : (xi - 1).tmod (q - 1) = r := hr.symm
            have m4 : IntKind.i64.wrap r = r := IntWalk.i64_in _ (by omega)
            have m5 : IntKind.i64.wrap (1 + r) = 1 + r := IntWalk.i64_in _ (by omega)
            have m6 : (q - 1 == 0) = false := by have : q - 1 ≠ 0 := by omega
                                                 simpa using this
            have HR := Lib.hid hr
            clear hr
            go_wp2_with fail
            go_roundg (el.length - (i + 1))
            case rel => exact ⟨i + 1, _, _, by omega, rfl, rfl, rfl, by go_num, by
              have h5 := HSET.out (1 + r)
              rw [show (turnTo (redE q) el i).set i (1 + r) = turnTo (redE q) el (i + 1) by rw [show (1 + r) = redE q (ia el i) by rw [← HXI.out, HR.out]; unfold redE; rw [if_pos (by omega)], turnTo_set hit]] at h5
              exact h5, kept_set KX hge1 _⟩
            case measure => omega
          · have d1 : decide (q ≤ xi) = false := decide_eq_false c1
            go_wp2_with fail
            go_roundg (el.length - (i + 1))
            case rel => exact ⟨i + 1, _, _, by omega, rfl, rfl, rfl, by go_num, by rw [← turnTo_same hit (by rw [← HXI.out]; unfold redE; rw [if_neg (by omega)])]; exact HROW.out, KX⟩
            case measure => omega
        · obtain rfl : i = el.length := by omega
          rw [turnTo_all] at hrow
          have hge : GoodE n.toNat (el.map (redE q)) := ⟨by rw [List.length_map]; exact TK.out.1, fun y hy => by
            obtain ⟨z, hz, rfl⟩ := List.mem_map.1 hy
            have := TK.out.2.2.2 z hz
            exact redE_range (by omega) this.1 this.2⟩
          have C46 := Lib.hid (put_of P M n.toNat g b ((p.take k).map (redT q)) x (el.map (redE q)) A4 c4 wr OK.out ((HS.out.kept KW1).kept KX) hge ⟨by have := TK.out.2.1; omega, by rw [← HQ.out]; exact TK.out.2.2.1⟩ (row_rd hrow) (by omega) (by simp; omega))
          rw [List.length_map] at C46
          replace z0 := kept_cell KX z0
          have K2 := kept_trans K1 KX
          clear hrow hge z1
          go_wp2_with (go_at_call 46; ((with_reducible refine C46.out.mono ?_); rintro e w5 ⟨rfl, hs5, kg5⟩))
          go_roundg (p.length - (k + 1))
          case rel => exact ⟨k + 1, _, _, _, _, by omega, rfl, rfl, rfl, rfl, rfl, by go_num, by
            rw [take_tm hlt, List.map_append]
            rw [HX.out, HEL.out] at hs5
            exact hs5, kept_kg K2 kg5 hbw⟩
          case measure => omega
    · obtain rfl : k = p.length := by omega
      rw [List.take_length] at HS
      have C47 := Lib.hid (poly_of P M n.toNat g b (p.map (redT q)) wr OK.out HS.out (fun t ht => by
        obtain ⟨u, hu, rfl⟩ := List.mem_map.1 ht
        obtain ⟨j, hj, rfl⟩ := List.getElem_of_mem hu
        have h := TL.out j hj
        rw [show tmv p j = p[j] by simp [tmv, hj]] at h
        exact ⟨by unfold redT; rw [List.length_map]; exact h.1, h.2.1, by rw [← HQ.out]; exact h.2.2.1⟩) (by omega) (by rw [List.length_map]; exact hl))
      go_wp2_with (go_at_call 47; ((with_reducible refine C47.out.mono ?_); rintro e w5 ⟨A5, c5, r, rfl, hr, hrp, kg5⟩; have HR := Lib.hid hr; clear hr))
      go_ret2
      exact ⟨A5, c5, r, rfl, by rw [HR.out, List.length_map], hrp, kept_kg K0 kg5 hbw⟩
end Go.Proofs.YtnjmpjdampdmmaaGreatDoor
