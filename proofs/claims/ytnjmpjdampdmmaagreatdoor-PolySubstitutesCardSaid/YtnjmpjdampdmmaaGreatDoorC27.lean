/- Polynomials: the product, the program's. -/
import Derived.Test.YtnjmpjdampdmmaaGreatDoorC26
import Derived.Test.YtnjmpjdampdmmaaGreatDoorA2
set_option linter.unusedVariables false
set_option linter.unusedSimpArgs false
namespace Go.Proofs.YtnjmpjdampdmmaaGreatDoor
open Go.RowKit Go.Shelf Go.Maps

/-- No sum of exponents is over the limit. -/
def eFit (e : List Int) : Bool := e.all fun x => decide (x ≤ 65535)
def noOv (p r : List Tm) : Bool := p.all fun t => r.all fun u => eFit (addE t.e u.e)
theorem noOv_iff {p r : List Tm} : noOv p r = true ↔ ∀ t ∈ p, ∀ u ∈ r, eFit (addE t.e u.e) = true := by simp [noOv]
theorem prodT_len (mul : Int → Int → Int) (r : List Tm) : ∀ p : List Tm, (prodT mul p r).length = p.length * r.length
  | [] => by simp [prodT]
  | t :: p => by
    have ih := prodT_len mul r p
    unfold prodT at ih ⊢
    rw [List.flatMap_cons, List.length_append, ih, List.length_map, List.length_cons, Nat.add_mul]
    omega
theorem prodT_take {mul : Int → Int → Int} {p r : List Tm} {i : Nat} (h : i < p.length) : prodT mul (p.take (i + 1)) r = prodT mul (p.take i) r ++ r.map (mulTm mul (tmv p i)) := by
  rw [take_tm h]
  simp [prodT]
/-- The first k exponents summed. -/
def addTo (e f : List Int) (k : Nat) : List Int := (addE e f).take k ++ e.drop k
theorem addTo_zero (e f : List Int) : addTo e f 0 = e := by simp [addTo]
theorem addTo_all {e f : List Int} (h : f.length = e.length) : addTo e f e.length = addE e f := by
  unfold addTo
  rw [List.drop_length, List.append_nil, List.take_of_length_le (by rw [addE_len (n := e.length) rfl h]; exact Nat.le_refl _)]
theorem addTo_len {e f : List Int} (h : f.length = e.length) (k : Nat) : (addTo e f k).length = e.length := by
  simp only [addTo, List.length_append, List.length_take, List.length_drop, addE_len (n := e.length) rfl h]
  omega
theorem ia_addE {e f : List Int} (h : f.length = e.length) {k : Nat} (hk : k < e.length) : ia (addE e f) k = ia e k + ia f k := by
  unfold ia addE
  simp [List.getD_eq_getElem?_getD, List.getElem?_zipWith, hk, h]
theorem addTo_at {e f : List Int} (h : f.length = e.length) {k : Nat} (hk : k < e.length) : ia (addTo e f k) k = ia e k := by
  unfold addTo ia
  rw [List.getD_eq_getElem?_getD, List.getElem?_append_right (by rw [List.length_take]; exact Nat.min_le_left _ _), List.length_take, addE_len (n := e.length) rfl h, Nat.min_eq_left (by omega), Nat.sub_self, List.getElem?_drop, Nat.add_zero, List.getD_eq_getElem?_getD]
theorem addTo_set {e f : List Int} (h : f.length = e.length) {k : Nat} (hk : k < e.length) : (addTo e f k).set k (ia e k + ia f k) = addTo e f (k + 1) := by
  have hl := addE_len (n := e.length) rfl h
  apply List.ext_getElem?
  intro j
  rw [List.getElem?_set, addTo_len h]
  by_cases hj : k = j
  · subst hj
    rw [if_pos rfl, if_pos hk]
    unfold addTo
    rw [List.getElem?_append_left (by rw [List.length_take, hl]; omega), List.getElem?_take_of_lt (by omega)]
    have h5 := ia_addE h hk
    unfold ia at h5
    rw [List.getD_eq_getElem?_getD, List.getElem?_eq_getElem (by rw [hl]; exact hk), Option.getD_some] at h5
    rw [List.getElem?_eq_getElem (by rw [hl]; exact hk), h5]
    rfl
  · rw [if_neg hj]
    unfold addTo
    by_cases h1 : j < k
    · rw [List.getElem?_append_left (by rw [List.length_take, hl]; omega), List.getElem?_append_left (by rw [List.length_take, hl]; omega), List.getElem?_take_of_lt h1, List.getElem?_take_of_lt (by omega)]
    · rw [List.getElem?_append_right (by rw [List.length_take, hl]; omega), List.getElem?_append_right (by rw [List.length_take, hl]; omega)]
      simp only [List.length_take, hl, List.getElem?_drop]
      congr 1
      omega
theorem eFit_of {e f : List Int} {n : Nat} (he : e.length = n) (hf : f.length = n) (h : ∀ k, k < n → ia e k + ia f k ≤ 65535) : eFit (addE e f) = true := by
  have hl := addE_len he hf
  unfold eFit
  rw [List.all_eq_true]
  intro x hx
  obtain ⟨k, hk, rfl⟩ := List.getElem_of_mem hx
  have h1 := ia_addE (e := e) (f := f) (by omega) (k := k) (by omega)
  unfold ia at h1
  rw [List.getD_eq_getElem?_getD, List.getElem?_eq_getElem hk, Option.getD_some] at h1
  have := h k (by omega)
  unfold ia at this
  simpa [h1] using this
theorem eFit_not {e f : List Int} {n k : Nat} (he : e.length = n) (hf : f.length = n) (hk : k < n) (h : 65535 < ia e k + ia f k) : eFit (addE e f) = false := by
  cases hh : eFit (addE e f) with
  | false => rfl
  | true =>
    have hl := addE_len he hf
    have h1 := ia_addE (e := e) (f := f) (by omega) (k := k) (by omega)
    have h2 := of_decide_eq_true (List.all_eq_true.1 hh _ (ia_mem (l := addE e f) (k := k) (by omega)))
    omega
/-- What comes of the product. -/
def MulPost (P M : Int) (p r : List Tm) (w : World) (e : Ending) (w' : World) : Prop :=
  (noOv p r = true ∧ ∃ (A' : Option Addr) (c' : Nat) (out : List Tm), e = .returned (.tuple #[.slice A' out.length c', .int .i64 0]) ∧ out = totalT (addF P M) (prodT (mulF P M) p r).length ((prodT (mulF P M) p r).map fun t => [t]) ∧ RP w' A' out ∧ Kept w w') ∨
  (noOv p r = false ∧ e = .returned (.tuple #[.slice none 0 0, .int .i64 5]) ∧ Kept w w')
/-- A polynomial's terms, for the walks. -/
def TmsOk (P M : Int) (n : Nat) (p : List Tm) : Prop := ∀ k, k < p.length → (tmv p k).e.length = n ∧ 1 ≤ (tmv p k).c ∧ (tmv p k).c < ordF P M ∧ ∀ x ∈ (tmv p k).e, 0 ≤ x ∧ x ≤ 65535
theorem TmsOk.mem {P M : Int} {n : Nat} {p : List Tm} (h : TmsOk P M n p) {t : Tm} (ht : t ∈ p) : t.e.length = n ∧ 1 ≤ t.c ∧ t.c < ordF P M ∧ ∀ x ∈ t.e, 0 ≤ x ∧ x ≤ 65535 := by
  obtain ⟨k, hk, rfl⟩ := List.getElem_of_mem ht
  have := h k hk
  rwa [show tmv p k = p[k] by simp [tmv, hk]] at this
theorem sumOf_lt {P M : Int} {n g b : Nat} {l : List Tm} {w : World} (h : SumOf P M n g b l w) : b < w.heap.size := by
  obtain ⟨T, k, h1, _⟩ := h.at_
  obtain ⟨D, hm, _⟩ := h1.tab
  obtain ⟨es, clock, hb, _⟩ := hm
  exact (Array.getElem?_eq_some_iff.1 hb).1
set_option maxRecDepth 100000 in
set_option maxHeartbeats 1000000 in
theorem mul64_any (P M : Int) (n : Nat) (p r : List Tm) (A B : Option Addr) (c d : Nat) (w : World) (ok : okF P M = true) (hP : RP w A p) (hR : RP w B r) (hn : n ≤ 80) (tp : TmsOk P M n p) (tr : TmsOk P M n r) (hp : p.length ≤ 20000) (hr : r.length ≤ 20000) (hpr : p.length * r.length ≤ 20000) :
    Calls Tryz.prog 41 #[fV P M, .slice A p.length c, .slice B r.length d] w (MulPost P M p r w) := by
  have C44 := Lib.hid fun w' => newSum44_any P M n w'
  have C68 := Lib.hid fun w' (a b : Int) (h1 : inF P M a) (h2 : inF P M b) => mul68_any P M a b w' ok h1 h2
  unfold fV at *
  have K0 := kept_alloc (kept_refl w) (.cells #[.int .i64 P, .int .i64 M] 23)
  have o3 := Own.new w 23 [.int .i64 P, .int .i64 M]
  have HP := Lib.hid hP
  have HR := Lib.hid hR
  have OK := Lib.hid ok
  have TP := Lib.hid tp
  have TR := Lib.hid tr
  have F := Lib.hid (fldF ok)
  obtain ⟨N, hN⟩ : ∃ N, N = p.length * r.length := ⟨_, rfl⟩
  have HNN := Lib.hid hN
  rw [← hN] at hpr
  have e1 : IntKind.i64.wrap ((p.length : Int) * (r.length : Int)) = (N : Int) := by rw [← Int.natCast_mul, ← hN]; exact IntWalk.i64_in _ (by omega)
  have e2 : wrap64 ((p.length : Int) * (r.length : Int)) = (N : Int) := by rw [← Int.natCast_mul, ← hN]; exact IntWalk.wrap64_in _ (by omega)
  have d1 : decide ((1000000 : Int) < (N : Int)) = false := decide_eq_false (by omega)
  have d2 : decide (1000000 < N) = false := decide_eq_false (by omega)
  have y0 := o3.cell (j := 0) rfl; have y1 := o3.cell (j := 1) rfl
  clear hP hR ok tp tr hN y0 y1
  go_enter Tryz.func41, Tryz.ntmps41
  go_upto_region 3 with fail
  obtain ⟨w0, hw0⟩ : ∃ w0, w0 = w.alloc (.cells #[.int .i64 P, .int .i64 M] 23) := ⟨_, rfl⟩
  rw [← hw0] at K0 o3 ⊢
  have y0 := o3.cell (j := 0) rfl; have y1 := o3.cell (j := 1) rfl
  clear hw0 e1 e2 d1 d2
  go_wp2_with (go_at_call 44; ((with_reducible refine (C44.out _).mono ?_); rintro e w3 ⟨rfl, hs, k3⟩))
  obtain ⟨g, hg⟩ : ∃ g, g = w0.heap.size + 2 := ⟨_, rfl⟩
  obtain ⟨b, hb⟩ : ∃ b, b = w0.heap.size + 1 := ⟨_, rfl⟩
  rw [← hg, ← hb] at hs
  rw [← hg]
  have HS0 := Lib.hid (SumOf.start hs)
  have hbw : w0.heap.size ≤ b := by omega
  clear hs hg hb y0 y1
  go_loopg [10, 12, 13, 14, 15, 16, 17, 28] p.length (fun G s10 s12 s13 s14 s15 s16 s17 s28 wr => ∃ (i : Nat) (v10 v12 v13 v14 v15 v16 v17 : Value), i ≤ p.length ∧ G = p.length - i ∧ s10 = v10 ∧ s12 = v12 ∧ s13 = v13 ∧ s14 = v14 ∧ s15 = v15 ∧ s16 = v16 ∧ s17 = v17 ∧ s28 = .int .i64 i ∧ SumOf P M n g b (prodT (mulF P M) (p.take i) r) wr ∧ Kept w0 wr ∧ Hid (∀ t ∈ p.take i, ∀ u ∈ r, eFit (addE t.e u.e) = true))
  case atStart => exact ⟨0, _, _, _, _, _, _, _, by omega, rfl, rfl, rfl, rfl, rfl, rfl, rfl, rfl, rfl, HS0.out, k3, Lib.hid (by simp)⟩
  case round =>
    clear k3 HS0
    obtain ⟨i, v10, v12, v13, v14, v15, v16, v17, hi, rfl, rfl, rfl, rfl, rfl, rfl, rfl, rfl, rfl, hS, K1, HF⟩ := hrel
    have HS := Lib.hid hS
    have hblt := sumOf_lt hS
    clear hS
    by_cases hit : i < p.length
    · obtain ⟨ba, off, E, ce, rfl, h0, h1, hE, hlE⟩ := (HP.out.kept K0) i hit
      replace h0 := kept_cell K1 h0
      replace h1 := kept_cell K1 h1
      obtain ⟨x, hx⟩ : ∃ x, x = (tmv p i).c := ⟨_, rfl⟩
      obtain ⟨el, hel⟩ : ∃ el, el = (tmv p i).e := ⟨_, rfl⟩
      have TK := Lib.hid (TP.out i hit)
      have HTM := Lib.hid (show tmv p i = ⟨x, el⟩ by rw [hx, hel])
      rw [← hx, ← hel] at TK
      rw [← hx] at h0
      rw [← hel] at h1 hE hlE
      have HE := Lib.hid hE
      have hl80 : el.length ≤ 80 := by have := TK.out.1; omega
      have KA : Kept wr (wr.alloc (.cells #[.int .i64 x, .slice E el.length ce] 64)) := kept_alloc (kept_refl _) _
      have o10 := Own.new wr 64 [.int .i64 x, .slice E el.length ce]
      clear hx hel hE
      go_wp2_with fail
      obtain ⟨W, hW⟩ : ∃ W, W = wr.alloc (.cells #[.int .i64 x, .slice E el.length ce] 64) := ⟨_, rfl⟩
      rw [← hW]
      rw [← hW] at KA o10
      have KB := kept_trans K1 KA
      have HSW := Lib.hid (HS.out.kept KA)
      have ne10 : wr.heap.size ≠ b := by omega
      obtain ⟨wo, rfl⟩ : ∃ x, x = wr := ⟨_, rfl⟩
      clear h0 h1 hW
      go_loopg [12, 13, 14, 15, 16, 17, 34] r.length (fun G s12 s13 s14 s15 s16 s17 s34 wx => ∃ (j : Nat) (v12 v13 v14 v15 v16 v17 : Value), j ≤ r.length ∧ G = r.length - j ∧ s12 = v12 ∧ s13 = v13 ∧ s14 = v14 ∧ s15 = v15 ∧ s16 = v16 ∧ s17 = v17 ∧ s34 = .int .i64 j ∧ SumOf P M n g b (prodT (mulF P M) (p.take i) r ++ (r.take j).map (mulTm (mulF P M) ⟨x, el⟩)) wx ∧ Kept w0 wx ∧ Own wx wo.heap.size 64 [.int .i64 x, .slice E el.length ce] ∧ Hid (∀ u ∈ r.take j, eFit (addE el u.e) = true))
      case atStart => exact ⟨0, _, _, _, _, _, _, by omega, rfl, rfl, rfl, rfl, rfl, rfl, rfl, rfl, by simpa using HSW.out, KB, o10, Lib.hid (by simp)⟩
      case round =>
        clear HSW KB o10
        obtain ⟨j, v12, v13, v14, v15, v16, v17, hj, rfl, rfl, rfl, rfl, rfl, rfl, rfl, rfl, hS, KX, o10, HFJ⟩ := hrel
        have HSX := Lib.hid hS
        clear hS
        by_cases hjt : j < r.length
        · obtain ⟨bb, off2, D, cd, rfl, h2, h3, hD, hlD⟩ := (HR.out.kept K0) j hjt
          replace h2 := kept_cell KX h2
          replace h3 := kept_cell KX h3
          obtain ⟨y, hy⟩ : ∃ y, y = (tmv r j).c := ⟨_, rfl⟩
          obtain ⟨fl, hfl⟩ : ∃ fl, fl = (tmv r j).e := ⟨_, rfl⟩
          have TJ := Lib.hid (TR.out j hjt)
          have HTJ := Lib.hid (show tmv r j = ⟨y, fl⟩ by rw [hy, hfl])
          rw [← hy, ← hfl] at TJ
          rw [← hy] at h2
          rw [← hfl] at h3 hD hlD
          have HD := Lib.hid hD
          have HFL := Lib.hid (show fl.length = el.length by rw [TJ.out.1, TK.out.1])
          clear hy hfl hD
          go_upto_region 10 with fail
          obtain ⟨W1, hW1⟩ : ∃ W1, W1 = wr.alloc (.cells #[.int .i64 y, .slice D fl.length cd] 64) := ⟨_, rfl⟩
          rw [← hW1]
          have o12 : Own W1 wr.heap.size 64 [.int .i64 y, .slice D fl.length cd] := by rw [hW1]; exact Own.new wr 64 _
          have KW1 : Kept wr W1 := by rw [hW1]; exact kept_alloc (kept_refl wr) _
          have z1 := (o10.kept KW1).cell (j := 1) rfl
          have C45 := Lib.hid (clone45_any el E ce W1 ((HE.out.kept KX).kept KW1) (by omega))
          obtain ⟨wm, rfl⟩ : ∃ x, x = wr := ⟨_, rfl⟩
          clear h2 h3 hW1
          go_wp2_with (go_at_call 45; ((with_reducible refine C45.out.mono ?_); rintro e w4 ⟨A4, c4, rfl, hrow, k4⟩; have u1 := (o12.kept k4).cell (j := 1) rfl))
          go_loopg [14, 15, 44] fl.length (fun G s14 s15 s44 wv => ∃ (k : Nat) (v14 v15 : Value), k ≤ fl.length ∧ G = fl.length - k ∧ s14 = v14 ∧ s15 = v15 ∧ s44 = .int .i64 k ∧ wv.ownsRow W1.heap.size 3 1 (.slice A4 el.length c4) el.length (ints (addTo el fl k)) ∧ Kept W1 wv ∧ Hid (∀ x, x < k → ia el x + ia fl x ≤ 65535))
          case atStart => exact ⟨0, _, _, by omega, rfl, rfl, rfl, rfl, by rw [addTo_zero]; exact hrow, k4, Lib.hid (fun x hx => by omega)⟩
          case round =>
            clear hrow k4 z1 u1
            obtain ⟨k, v14, v15, hk, rfl, rfl, rfl, rfl, hrow, KV, HFK⟩ := hrel
            have KXV := kept_trans KX (kept_trans KW1 KV)
            by_cases hkt : k < fl.length
            · have hke : k < el.length := by have := HFL.out; omega
              obtain ⟨b1, o1, rfl, hd1⟩ := (HD.out.kept KXV).int hkt
              have x0 := hd1 k hkt
              obtain ⟨ge, rfl, hge1, hge2, hge3, hge4, hset⟩ := row_setInt hrow (i := k) (by rw [addTo_len HFL.out]; exact hke)
              rw [addTo_at HFL.out hke] at hge3
              have bx := TK.out.2.2.2 (ia el k) (ia_mem hke)
              have by' := TJ.out.2.2.2 (ia fl k) (ia_mem hkt)
              have HAS := Lib.hid (addTo_set HFL.out hke)
              have HNO := Lib.hid (fun (h : 65535 < ia el k + ia fl k) => eFit_not TK.out.1 TJ.out.1 (k := k) (by have := TK.out.1; omega) h)
              obtain ⟨xa, hxa⟩ : ∃ xa, xa = ia el k := ⟨_, rfl⟩
              obtain ⟨xb, hxb⟩ : ∃ xb, xb = ia fl k := ⟨_, rfl⟩
              have HXA := Lib.hid hxa
              have HXB := Lib.hid hxb
              rw [← hxa] at hge3 bx
              rw [← hxb] at x0 by'
              rw [← hxa, ← hxb] at HAS HNO
              have HSET := Lib.hid hset
              have ew : IntKind.i64.wrap (xa + xb) = xa + xb := IntWalk.i64_in _ (by omega)
              have ew2 : wrap64 (xa + xb) = xa + xb := IntWalk.wrap64_in _ (by omega)
              clear hset hrow hxa hxb hd1
              by_cases c1 : 65535 < xa + xb
              · have dd : decide (65535 < xa + xb) = true := decide_eq_true c1
                have HC1 := Lib.hid c1
                clear c1
                go_wp2_with fail
                go_ret2
                refine .inr ⟨?_, rfl, kept_trans K0 (kept_trans KX (kept_trans KW1 (kept_set KV hge1 _)))⟩
                cases hno : noOv p r with
                | false => rfl
                | true =>
                  have h5 := noOv_iff.1 hno (tmv p i) (tmv_mem hit) (tmv r j) (tmv_mem hjt)
                  rw [HTM.out, HTJ.out] at h5
                  rw [HNO.out HC1.out] at h5
                  exact h5.symm
              · have dd : decide (65535 < xa + xb) = false := decide_eq_false c1
                have HC1 := Lib.hid (show xa + xb ≤ 65535 by omega)
                clear c1
                go_wp2_with fail
                go_roundg (fl.length - (k + 1))
                case rel => exact ⟨k + 1, _, _, by omega, rfl, rfl, rfl, by go_num, by
                  have h5 := HSET.out (xa + xb)
                  rw [HAS.out] at h5
                  exact h5, kept_set KV hge1 _, Lib.hid (fun x hx => by
                  rcases Nat.lt_succ_iff_lt_or_eq.1 hx with h | rfl
                  · exact HFK.out x h
                  · rw [← HXA.out, ← HXB.out]; exact HC1.out)⟩
                case measure => omega
            · obtain rfl : k = fl.length := by omega
              rw [HFL.out, addTo_all HFL.out] at hrow
              have HEF := Lib.hid (eFit_of TK.out.1 TJ.out.1 (fun x hx => HFK.out x (by rw [TJ.out.1]; exact hx)))
              have hge : GoodE n (addE el fl) := ⟨addE_len TK.out.1 TJ.out.1, fun z hz => by
                obtain ⟨m, hm, rfl⟩ := List.getElem_of_mem hz
                have hml : m < el.length := by rw [addE_len (n := el.length) rfl HFL.out] at hm; exact hm
                have h6 := ia_addE HFL.out hml
                have h7 := TK.out.2.2.2 (ia el m) (ia_mem hml)
                have h8 := TJ.out.2.2.2 (ia fl m) (ia_mem (by have := HFL.out; omega))
                have h9 := HFK.out m (by have := HFL.out; omega)
                unfold ia at h6
                rw [List.getD_eq_getElem?_getD, List.getElem?_eq_getElem hm, Option.getD_some] at h6
                rw [h6]
                unfold ia at h7 h8 h9
                omega⟩
              have inx : inF P M x := ⟨by have := TK.out.2.1; omega, TK.out.2.2.1⟩
              have iny : inF P M y := ⟨by have := TJ.out.2.1; omega, TJ.out.2.2.1⟩
              have CM := Lib.hid fun w' => C68.out w' x y inx iny
              have inm := mulF_in OK.out inx iny
              obtain ⟨m, hm⟩ : ∃ m, m = mulF P M x y := ⟨_, rfl⟩
              rw [← hm] at CM inm
              have HMT := Lib.hid (show (⟨m, addE el fl⟩ : Tm) = mulTm (mulF P M) ⟨x, el⟩ (tmv r j) by rw [HTJ.out, hm]; rfl)
              have hll : (prodT (mulF P M) (p.take i) r ++ (r.take j).map (mulTm (mulF P M) ⟨x, el⟩)).length ≤ 1000000000 := by
                rw [List.length_append, prodT_len, List.length_map, List.length_take, List.length_take]
                have h5 : min i p.length * r.length ≤ p.length * r.length := Nat.mul_le_mul_right _ (Nat.min_le_right _ _)
                have h6 := HNN.out
                omega
              have C46 := Lib.hid fun w' (kk : Kept wr w') => put_of P M n g b _ m (addE el fl) A4 c4 w' OK.out ((HSX.out.kept (kept_trans KW1 KV)).kept kk) hge inm ((row_rd hrow).kept kk) hn hll
              rw [hge.1.trans TK.out.1.symm] at C46
              have y0 := (o3.kept KXV).cell (j := 0) rfl
              have y1 := (o3.kept KXV).cell (j := 1) rfl
              have z0 := (o10.kept (kept_trans KW1 KV)).cell (j := 0) rfl
              have u0 := (o12.kept KV).cell (j := 0) rfl
              clear hrow hge hll hm
              go_wp2_with (first
                | (go_at_call 51; ((with_reducible refine (CM.out _).mono ?_); rintro e w6 ⟨rfl, k6⟩))
                | (go_at_call 46; ((with_reducible refine (C46.out _ k6).mono ?_); rintro e w7 ⟨rfl, hs7, kg7⟩)))
              go_roundg (r.length - (j + 1))
              case rel => exact ⟨j + 1, _, _, _, _, _, _, by omega, rfl, rfl, rfl, rfl, rfl, rfl, rfl, by go_num, by
                rw [take_tm hjt, List.map_append, ← List.append_assoc]
                rw [HMT.out] at hs7
                exact hs7, kept_kg (kept_trans KXV k6) kg7 hbw, (o10.kept (kept_trans (kept_trans KW1 KV) k6)).kg kg7 ne10, Lib.hid (fun u hu => by
                rw [take_tm hjt] at hu
                rcases List.mem_append.1 hu with hu | hu
                · exact HFJ.out u hu
                · rw [List.mem_singleton.1 hu, HTJ.out]; exact HEF.out)⟩
              case measure => omega
        · obtain rfl : j = r.length := by omega
          rw [List.take_length] at HFJ HSX
          have HSY := Lib.hid (show SumOf P M n g b (prodT (mulF P M) (p.take (i + 1)) r) wr by rw [prodT_take hit, HTM.out]; exact HSX.out)
          go_wp2_with fail
          go_roundg (p.length - (i + 1))
          case rel => exact ⟨i + 1, _, _, _, _, _, _, _, by omega, rfl, rfl, rfl, rfl, rfl, rfl, rfl, rfl, by go_num, HSY.out, KX, Lib.hid (fun t ht u hu => by
            rw [take_tm hit] at ht
            rcases List.mem_append.1 ht with ht | ht
            · exact HF.out t ht u hu
            · rw [List.mem_singleton.1 ht, HTM.out]; exact HFJ.out u hu)⟩
          case measure => omega
    · obtain rfl : i = p.length := by omega
      rw [List.take_length] at HF HS
      have C47 := Lib.hid (poly_of P M n g b (prodT (mulF P M) p r) wr OK.out HS.out (fun z hz => by
        obtain ⟨t, ht, u, hu, rfl⟩ := prodT_mem.1 hz
        have h5 := TP.out.mem ht
        have h6 := TR.out.mem hu
        exact ⟨addE_len h5.1 h6.1, mulTm_in F.out ⟨h5.2.1, h5.2.2.1⟩ ⟨h6.2.1, h6.2.2.1⟩⟩) hn (by rw [prodT_len, ← HNN.out]; exact hpr))
      go_wp2_with (go_at_call 47; ((with_reducible refine C47.out.mono ?_); rintro e w5 ⟨A5, c5, out, rfl, hr5, hrp, kg5⟩; have HO := Lib.hid hr5; clear hr5))
      go_ret2
      exact .inl ⟨noOv_iff.2 HF.out, A5, c5, out, rfl, HO.out, hrp, kept_trans K0 (kept_kg K1 kg5 hbw)⟩
end Go.Proofs.YtnjmpjdampdmmaaGreatDoor
