/- Polynomials: the value, the program's and the reference's. -/
import Derived.Test.YtikfeemmjfoffaaGreatDoorC24
import Derived.Test.YtikfeemmjfoffaaGreatDoorF3
set_option linter.unusedVariables false
set_option linter.unusedSimpArgs false
namespace Go.Proofs.YtikfeemmjfoffaaGreatDoor
open Go.RowKit Go.Shelf

def badQ (q x : Int) : Bool := decide (x < 0) || decide (q ≤ x)
/-- All are elements. -/
def allQ (q : Int) (l : List Int) : Bool := l.all fun x => decide (0 ≤ x) && decide (x < q)
theorem allQ_iff {q : Int} {l : List Int} : allQ q l = true ↔ ∀ x ∈ l, 0 ≤ x ∧ x < q := by simp [allQ]
set_option maxRecDepth 100000 in
set_option maxHeartbeats 1000000 in
theorem lit66_any (q : Int) (g : Nat) (w : World) (hc : w.cell? ⟨g, 0, none⟩ = some (.int .i64 q)) : PredAt Tryz.prog 49 #[.pointer (some ⟨g, 0, none⟩)] (Value.int .i64) (badQ q) w := fun W x hB => by
  show Calls Tryz.prog 49 #[.int .i64 x, .pointer (some ⟨g, 0, none⟩)] W _
  have y0 := kept_cell hB hc
  clear hB hc
  by_cases c1 : x < 0
  · rw [show badQ q x = true by simp [badQ, c1]]
    go_enter Tryz.func49, Tryz.ntmps49
    go_wp2_with fail
    go_ret
    exact ⟨rfl, 0, rfl⟩
  · by_cases c2 : q ≤ x
    · rw [show badQ q x = true by simp [badQ, c2]]
      go_enter Tryz.func49, Tryz.ntmps49
      go_wp2_with fail
      go_ret
      exact ⟨rfl, 0, rfl⟩
    · rw [show badQ q x = false by simp [badQ]; omega]
      have d2 : decide (q ≤ x) = false := decide_eq_false c2
      go_enter Tryz.func49, Tryz.ntmps49
      go_wp2_with fail
      go_ret
      exact ⟨rfl, 0, rfl⟩
theorem any_badQ (q : Int) (l : List Int) : l.any (badQ q) = !allQ q l := by
  unfold allQ
  rw [List.not_all_eq_any_not]
  congr 1
  funext x
  unfold badQ
  by_cases h1 : 0 ≤ x <;> by_cases h2 : x < q <;> simp [h1, h2] <;> omega
theorem enters66 : ∀ args w, (callFunc 49 args).run Tryz.prog w = .ok (.enter 49 args) w := enters_of Tryz.func49 (by kernel_rfl) rfl
theorem contains61_at (q : Int) (g : Nat) (l : List Int) (A : Option Addr) (c : Nat) (w : World) (hA : Rd w A (ints l)) (hl : l.length ≤ 140737488355328) (hc : w.cell? ⟨g, 0, none⟩ = some (.int .i64 q)) :
    Calls Tryz.prog 48 #[.slice A l.length c, .func (.func 49) #[] #[.pointer (some ⟨g, 0, none⟩)]] w fun e w' => e = .returned (.bool (!allQ q l)) ∧ Drw w w' := by
  by_cases h0 : l.length = 0
  · have e0 : l = [] := List.eq_nil_of_length_eq_zero h0
    subst e0
    exact (Tryz.slices_ContainsFunc_empty (α := Int) A c _ _).mono fun e w' ⟨h1, h2⟩ => ⟨h1, 0, h2⟩
  · obtain ⟨b1, f1, rfl, h1⟩ := hA.int (k := 0) (by omega)
    have := Tryz.slices_ContainsFunc (Value.int .i64) (badQ q) 49 #[.pointer (some ⟨g, 0, none⟩)] enters66 b1 f1 l.length c l w (lit66_any q g w hc) (Nat.le_refl _) (by omega)
      (fun j hj => by
        have h2 := h1 j hj
        rw [h2]
        unfold ia
        rw [getElem!_pos l j hj, List.getD_eq_getElem?_getD, List.getElem?_eq_getElem hj]
        rfl)
    rw [List.take_length, any_badQ] at this
    exact this

/-- The value of a term, factor by factor, and of a polynomial, term by term. -/
def monTo (P M c : Int) (e at' : List Int) : Nat → Int
  | 0 => c
  | k + 1 => mulF P M (monTo P M c e at' k) (pwF P M (ia at' k) (ia e k).toNat)
def monV (P M : Int) (t : Tm) (at' : List Int) : Int := monTo P M t.c t.e at' t.e.length
def evTo (P M : Int) (p : List Tm) (at' : List Int) : Nat → Int
  | 0 => 0
  | k + 1 => addF P M (evTo P M p at' k) (monV P M (tmv p k) at')
def evP (P M : Int) (p : List Tm) (at' : List Int) : Int := evTo P M p at' p.length
theorem ia_in {P M : Int} {l : List Int} {k : Nat} (h : ∀ x ∈ l, inF P M x) (hk : k < l.length) : inF P M (ia l k) := h _ (ia_mem hk)
theorem monTo_in {P M c : Int} {e at' : List Int} (ok : okF P M = true) (hc : inF P M c) (ha : ∀ x ∈ at', inF P M x) : ∀ k, k ≤ at'.length → inF P M (monTo P M c e at' k)
  | 0, _ => hc
  | k + 1, h => mulF_in ok (monTo_in ok hc ha k (by omega)) (pwF_in ok (ia_in ha (by omega)) _)
theorem monTo_skip {P M c : Int} {e at' : List Int} (ok : okF P M = true) (hc : inF P M c) (ha : ∀ x ∈ at', inF P M x) {k : Nat} (hk : k < at'.length) (h0 : ia e k = 0) : monTo P M c e at' (k + 1) = monTo P M c e at' k := by
  have h1 := monTo_in (e := e) ok hc ha k (by omega)
  have F := fldF ok
  have h2 := one_in ok
  show mulF P M _ (pwF P M _ (ia e k).toNat) = _
  rw [h0, show pwF P M (ia at' k) (0 : Int).toNat = 1 from powF_done _ _ _ _, F.mcomm _ _ h1.1 h1.2 h2.1 h2.2, F.one _ h1.1 h1.2]
theorem evTo_in {P M : Int} {p : List Tm} {at' : List Int} (ok : okF P M = true) (hp : ∀ k, k < p.length → inF P M (tmv p k).c ∧ (tmv p k).e.length = at'.length) (ha : ∀ x ∈ at', inF P M x) : ∀ k, k ≤ p.length → inF P M (evTo P M p at' k)
  | 0, _ => zero_in ok
  | k + 1, h => addF_in ok (evTo_in ok hp ha k (by omega)) (monTo_in ok (hp k (by omega)).1 ha _ (by rw [(hp k (by omega)).2]; exact Nat.le_refl _))

set_option maxRecDepth 100000 in
set_option maxHeartbeats 1000000 in
theorem eval32_bad (P M n : Int) (p : List Tm) (A B : Option Addr) (c m d : Nat) (w : World) (hP : RP w A p) (hl : p.length ≤ 140737488355328) (hv : vld (ordF P M) n p = false) :
    Calls Tryz.prog 20 #[fV P M, .int .i64 n, .slice A p.length c, .slice B m d] w fun e w' => e = .returned (.tuple #[.int .i64 0, .int .i64 1]) ∧ Kept w w' := by
  have C25 := Lib.hid fun w' (k : Kept w w') => valid25_any P M n p A c w' (hP.kept k) hl
  rw [hv] at C25
  unfold fV at *
  have K0 := kept_alloc (kept_refl w) (.cells #[.int .i64 P, .int .i64 M] 23)
  obtain ⟨l, hl'⟩ : ∃ l, l = p.length := ⟨_, rfl⟩
  rw [← hl'] at C25 ⊢
  clear hP hv hl hl'
  go_enter Tryz.func20, Tryz.ntmps20
  go_wp2_with (go_at_call 46; ((with_reducible refine (C25.out _ K0).mono ?_); rintro e w1 ⟨rfl, k1⟩))
  go_ret2
  exact ⟨rfl, kept_trans K0 k1⟩
set_option maxRecDepth 100000 in
set_option maxHeartbeats 1000000 in
theorem eval32_arg (P M n : Int) (p : List Tm) (at' : List Int) (A B : Option Addr) (c d : Nat) (w : World) (hP : RP w A p) (hv : vld (ordF P M) n p = true) (hB : Rd w B (ints at')) (hm : at'.length ≤ 140737488355328) (hbad : ¬ ((at'.length : Int) = n ∧ allQ (ordF P M) at' = true)) :
    Calls Tryz.prog 20 #[fV P M, .int .i64 n, .slice A p.length c, .slice B at'.length d] w fun e w' => e = .returned (.tuple #[.int .i64 0, .int .i64 2]) ∧ Kept w w' := by
  obtain ⟨hn, hl, _⟩ := vld_terms hv
  have C25 := Lib.hid fun w' (k : Kept w w') => valid25_any P M n p A c w' (hP.kept k) (by omega)
  have C43 := Lib.hid fun w' => order43_any P M w'
  have HB := Lib.hid hB
  rw [hv] at C25
  unfold fV at *
  have K0 := kept_alloc (kept_refl w) (.cells #[.int .i64 P, .int .i64 M] 23)
  have o2 := Own.new w 23 [.int .i64 P, .int .i64 M]
  obtain ⟨q, hq⟩ : ∃ q, q = ordF P M := ⟨_, rfl⟩
  rw [← hq] at hbad C43
  obtain ⟨l, hl'⟩ : ∃ l, l = p.length := ⟨_, rfl⟩
  rw [← hl'] at C25 ⊢
  by_cases hnn : (at'.length : Int) = n
  · have d1 : ((at'.length : Int) != n) = false := by simp [hnn]
    have CQ := Lib.hid fun w' g (k : Kept w w') hc => contains61_at q g at' B d w' (hB.kept k) hm hc
    rw [show allQ q at' = false from by
      cases h : allQ q at' with
      | false => rfl
      | true => exact absurd ⟨hnn, h⟩ hbad] at CQ
    have HNN := Lib.hid hnn
    clear hP hv hl hl' hq hB hbad hnn
    go_enter Tryz.func20, Tryz.ntmps20
    go_wp2_with (first
      | (go_at_call 46; ((with_reducible refine (C25.out _ K0).mono ?_); rintro e w1 ⟨rfl, k1⟩; replace K0 := kept_trans K0 k1; have y0 := (o2.kept k1).cell (j := 0) rfl; have y1 := (o2.kept k1).cell (j := 1) rfl))
      | (go_at_call 47; ((with_reducible refine (C43.out _).mono ?_); rintro e w2 ⟨rfl, k2⟩; replace K0 := kept_trans K0 k2; have KA := kept_alloc K0 (.cells #[.int .i64 q] 3); have oq := (Own.new w2 3 [.int .i64 q]).cell (j := 0) rfl))
      | (go_at_call 48; ((with_reducible refine (CQ.out _ _ KA oq).mono ?_); rintro e w3 ⟨rfl, k3⟩)))
    go_ret2
    exact ⟨rfl, kept_trans KA k3.kept⟩
  · have d1 : ((at'.length : Int) != n) = true := by simpa using hnn
    clear hP hv hl hl' hq hB hbad hnn
    go_enter Tryz.func20, Tryz.ntmps20
    go_wp2_with (first
      | (go_at_call 46; ((with_reducible refine (C25.out _ K0).mono ?_); rintro e w1 ⟨rfl, k1⟩; replace K0 := kept_trans K0 k1; have y0 := (o2.kept k1).cell (j := 0) rfl; have y1 := (o2.kept k1).cell (j := 1) rfl))
      | (go_at_call 47; ((with_reducible refine (C43.out _).mono ?_); rintro e w2 ⟨rfl, k2⟩; replace K0 := kept_trans K0 k2)))
    go_ret2
    exact ⟨rfl, kept_alloc K0 _⟩
set_option maxRecDepth 100000 in
set_option maxHeartbeats 1000000 in
theorem eval32_any (P M n : Int) (p : List Tm) (at' : List Int) (A B : Option Addr) (c d : Nat) (w : World) (hP : RP w A p) (hv : vld (ordF P M) n p = true) (hB : Rd w B (ints at')) (hnn : (at'.length : Int) = n) (hq : allQ (ordF P M) at' = true) :
    Calls Tryz.prog 20 #[fV P M, .int .i64 n, .slice A p.length c, .slice B at'.length d] w fun e w' => e = .returned (.tuple #[.int .i64 (evP P M p at'), .int .i64 0]) ∧ Kept w w' := by
  obtain ⟨hn, hl, tl⟩ := vld_terms hv
  have ok := vld_ok hv
  have C25 := Lib.hid fun w' (k : Kept w w') => valid25_any P M n p A c w' (hP.kept k) (by omega)
  have C43 := Lib.hid fun w' => order43_any P M w'
  have ha : ∀ x ∈ at', inF P M x := fun x hx => allQ_iff.1 hq x hx
  have C67 := Lib.hid fun w' (a : Int) (k : Nat) (h1 : inF P M a) (h2 : k < 2 ^ 62) => power67_any P M a k w' ok h1 h2
  have C68 := Lib.hid fun w' (a b : Int) (h1 : inF P M a) (h2 : inF P M b) => mul68_any P M a b w' ok h1 h2
  have C69 := Lib.hid fun w' (a b : Int) (h1 : inF P M a) (h2 : inF P M b) => add69_any P M a b w' ok h1 h2
  have HB := Lib.hid hB
  have HP := Lib.hid hP
  have HA := Lib.hid ha
  have OK := Lib.hid ok
  have TL := Lib.hid (show ∀ k, k < p.length → (tmv p k).e.length = at'.length ∧ inF P M (tmv p k).c ∧ ∀ x ∈ (tmv p k).e, 0 ≤ x ∧ x ≤ 65535 from fun k hk => by
    have h := tl k hk
    exact ⟨by omega, ⟨by omega, h.2.2.1⟩, h.2.2.2⟩)
  have EVI := Lib.hid (show ∀ k, k ≤ p.length → inF P M (evTo P M p at' k) from fun k hk => evTo_in ok (fun j hj => ⟨(TL.out j hj).2.1, (TL.out j hj).1⟩) ha k hk)
  have CQ := Lib.hid fun w' g (k : Kept w w') hc => contains61_at (ordF P M) g at' B d w' (hB.kept k) (by omega) hc
  rw [hq] at CQ
  rw [hv] at C25
  unfold fV at *
  have K0 := kept_alloc (kept_refl w) (.cells #[.int .i64 P, .int .i64 M] 23)
  have o2 := Own.new w 23 [.int .i64 P, .int .i64 M]
  obtain ⟨q, hqq⟩ : ∃ q, q = ordF P M := ⟨_, rfl⟩
  rw [← hqq] at C43 CQ
  obtain ⟨R, hR⟩ : ∃ R, R = evP P M p at' := ⟨_, rfl⟩
  rw [← hR]
  have HR := Lib.hid hR
  obtain ⟨la, hla⟩ : ∃ la, la = at'.length := ⟨_, rfl⟩
  have HLA := Lib.hid hla
  rw [← hla] at hnn CQ ⊢
  have hla80 : la ≤ 80 := by omega
  subst hnn
  have d1 : ((la : Int) != (la : Int)) = false := by simp
  have d1' : (la != la) = false := by simp
  clear hP hv hqq hB hq ha ok tl hR hla hn
  go_enter Tryz.func20, Tryz.ntmps20
  go_wp2_with (first
    | (go_at_call 46; ((with_reducible refine (C25.out _ K0).mono ?_); rintro e w1 ⟨rfl, k1⟩; replace K0 := kept_trans K0 k1; replace o2 := o2.kept k1; have y0 := o2.cell (j := 0) rfl; have y1 := o2.cell (j := 1) rfl))
    | (go_at_call 47; ((with_reducible refine (C43.out _).mono ?_); rintro e w2 ⟨rfl, k2⟩; replace K0 := kept_trans K0 k2; replace o2 := o2.kept k2; have KA := kept_alloc K0 (.cells #[.int .i64 q] 3); have oq := (Own.new w2 3 [.int .i64 q]).cell (j := 0) rfl))
    | (go_at_call 48; ((with_reducible refine (CQ.out _ _ KA oq).mono ?_); rintro e w3 ⟨rfl, k3⟩; have K3 := kept_trans KA k3.kept; have o3 := (o2.alloc (.cells #[.int .i64 q] 3)).kept k3.kept)))
  clear y0 y1 oq KA K0 o2
  go_loopg [11, 13, 14, 15, 16, 17, 18, 37] p.length (fun G s11 s13 s14 s15 s16 s17 s18 s37 wr => ∃ (k : Nat) (z : Int) (v13 v14 v15 v16 v17 v18 : Value), k ≤ p.length ∧ G = p.length - k ∧ s11 = .int .i64 z ∧ s13 = v13 ∧ s14 = v14 ∧ s15 = v15 ∧ s16 = v16 ∧ s17 = v17 ∧ s18 = v18 ∧ s37 = .int .i64 k ∧ z = evTo P M p at' k ∧ Kept w3 wr)
  case atStart => exact ⟨0, _, _, _, _, _, _, _, by omega, rfl, rfl, rfl, rfl, rfl, rfl, rfl, rfl, rfl, rfl, kept_refl _⟩
  case round =>
    obtain ⟨k, z, v13, v14, v15, v16, v17, v18, hk, rfl, rfl, rfl, rfl, rfl, rfl, rfl, rfl, rfl, hz, K1⟩ := hrel
    have HZ := Lib.hid hz
    clear hz
    by_cases hlt : k < p.length
    · obtain ⟨ba, off, E, ce, rfl, h0, h1, hE, hlE⟩ := (HP.out.kept K3) k hlt
      replace h0 := kept_cell K1 h0
      replace h1 := kept_cell K1 h1
      have TK := Lib.hid (TL.out k hlt)
      obtain ⟨x, hx⟩ : ∃ x, x = (tmv p k).c := ⟨_, rfl⟩
      obtain ⟨el, hel⟩ : ∃ el, el = (tmv p k).e := ⟨_, rfl⟩
      have HT := Lib.hid (show monV P M (tmv p k) at' = monTo P M x el at' el.length by rw [hx, hel]; rfl)
      rw [← hx, ← hel] at TK
      rw [← hx] at h0
      rw [← hel] at h1 hE hlE
      have HE := Lib.hid hE
      have HEL := Lib.hid (show el.length = la by rw [TK.out.1, HLA.out])
      have KA : Kept wr (wr.alloc (.cells #[.int .i64 x, .slice E el.length ce] 78)) := kept_alloc (kept_refl _) _
      have o10 := Own.new wr 78 [.int .i64 x, .slice E el.length ce]
      have z0 := o10.cell (j := 0) rfl
      have z1 := o10.cell (j := 1) rfl
      clear hx hel hE
      go_wp2_with fail
      obtain ⟨W, hW⟩ : ∃ W, W = wr.alloc (.cells #[.int .i64 x, .slice E el.length ce] 78) := ⟨_, rfl⟩
      rw [← hW]
      rw [← hW] at KA
      have KB := kept_trans K1 KA
      clear o10 z0 z1 h0 h1 hW
      go_loopg [14, 15, 16, 17, 18, 46] el.length (fun G s14 s15 s16 s17 s18 s46 wx => ∃ (j : Nat) (m : Int) (v15 v16 v17 v18 : Value), j ≤ el.length ∧ G = el.length - j ∧ s14 = .int .i64 m ∧ s15 = v15 ∧ s16 = v16 ∧ s17 = v17 ∧ s18 = v18 ∧ s46 = .int .i64 j ∧ m = monTo P M x el at' j ∧ Kept W wx)
      case atStart => exact ⟨0, _, _, _, _, _, by omega, rfl, rfl, rfl, rfl, rfl, rfl, rfl, rfl, kept_refl _⟩
      case round =>
        obtain ⟨j, m, v15, v16, v17, v18, hj, rfl, rfl, rfl, rfl, rfl, rfl, rfl, hm, K2⟩ := hrel
        have HM := Lib.hid hm
        have MIN := Lib.hid (show inF P M m by rw [hm]; exact monTo_in OK.out TK.out.2.1 HA.out j (by rw [← HLA.out, ← HEL.out]; exact hj))
        have KC := kept_trans KB K2
        clear hm
        by_cases hjt : j < el.length
        · obtain ⟨b1, o1, rfl, h1⟩ := (HE.out.kept KC).int hjt
          have x0 := h1 j hjt
          have bx := TK.out.2.2 (ia el j) (ia_mem hjt)
          obtain ⟨en, hen⟩ : ∃ en : Nat, ia el j = (en : Int) := ⟨(ia el j).toNat, by omega⟩
          rw [hen] at x0 bx
          have HEN := Lib.hid hen
          clear h1 hen
          by_cases hx0 : 0 < en
          · have d2 : decide ((0 : Int) < (en : Int)) = true := decide_eq_true (by omega)
            have d2' : decide (0 < en) = true := decide_eq_true hx0
            have hja : j < at'.length := by rw [← HLA.out, ← HEL.out]; exact hjt
            have hjla : j < la := by rw [← HEL.out]; exact hjt
            obtain ⟨b2, o2', rfl, h2⟩ := (HB.out.kept (kept_trans K3 KC)).int hja
            have x1 := h2 j hja
            have ain := ia_in HA.out hja
            obtain ⟨xa, hxa⟩ : ∃ xa, xa = ia at' j := ⟨_, rfl⟩
            rw [← hxa] at x1 ain
            obtain ⟨pw, hpw⟩ : ∃ pw, pw = pwF P M xa en := ⟨_, rfl⟩
            have CP := Lib.hid fun w' => C67.out w' xa en ain (by omega)
            have pin := pwF_in OK.out ain en
            rw [← hpw] at CP pin
            have CM := Lib.hid fun w' => C68.out w' m pw MIN.out pin
            obtain ⟨m2, hm2⟩ : ∃ m2, m2 = mulF P M m pw := ⟨_, rfl⟩
            rw [← hm2] at CM
            have HM2 := Lib.hid (show m2 = monTo P M x el at' (j + 1) by rw [hm2, hpw, hxa, HM.out]; show _ = mulF P M _ _; rw [HEN.out]; rfl)
            have y0 := (o3.kept KC).cell (j := 0) rfl
            have y1 := (o3.kept KC).cell (j := 1) rfl
            clear hxa hpw hm2 ain pin h2
            go_upto_region 15 with fail
            refine region_x (fun w' => Kept wr w') [] (by kernel_rfl) (kept_drew (kept_refl _)) (fun hHeld => ?_)
            refine x_take (i := 0) (oi := { dst := some 54, op := Op.load 23 (Operand.tmp 4), type := 23, pos := "poly.go:159", after := #[], guard := none }) (v := ?_) rfl (by kernel_rfl) (by kernel_rfl) (by kernel_rfl) (by kernel_rfl) (by kernel_rfl) (fun _ _ _ h => h) (Or.inl ⟨rfl, ?_⟩) (by assumption) ?_
            rotate_left
            · (intro w' hSw; replace y0 := kept_cell hSw y0; replace y1 := kept_cell hSw y1; replace x0 := kept_cell hSw x0; replace x1 := kept_cell hSw x1; go_simp; try with_reducible rfl)
            try simp only [Act.put, List.setIfInBounds_toArray, List.set_cons_zero, List.set_cons_succ]
            refine x_take (i := 1) (oi := { dst := some 55, op := Op.move (Operand.tmp 3), type := 24, pos := "poly.go:159", after := #[], guard := none }) (v := ?_) rfl (by kernel_rfl) (by kernel_rfl) (by kernel_rfl) (by kernel_rfl) (by kernel_rfl) (fun _ _ _ h => h) (Or.inl ⟨rfl, ?_⟩) (by assumption) ?_
            rotate_left
            · (intro w' hSw; replace y0 := kept_cell hSw y0; replace y1 := kept_cell hSw y1; replace x0 := kept_cell hSw x0; replace x1 := kept_cell hSw x1; go_simp; try with_reducible rfl)
            try simp only [Act.put, List.setIfInBounds_toArray, List.set_cons_zero, List.set_cons_succ]
            refine x_take (i := 2) (oi := { dst := some 56, op := Op.move (Operand.tmp 15), type := 3, pos := "poly.go:159", after := #[], guard := none }) (v := ?_) rfl (by kernel_rfl) (by kernel_rfl) (by kernel_rfl) (by kernel_rfl) (by kernel_rfl) (fun _ _ _ h => h) (Or.inl ⟨rfl, ?_⟩) (by assumption) ?_
            rotate_left
            · (intro w' hSw; replace y0 := kept_cell hSw y0; replace y1 := kept_cell hSw y1; replace x0 := kept_cell hSw x0; replace x1 := kept_cell hSw x1; go_simp; try with_reducible rfl)
            try simp only [Act.put, List.setIfInBounds_toArray, List.set_cons_zero, List.set_cons_succ]
            refine x_take (i := 3) (oi := { dst := some 57, op := Op.indexAddr 24 (Operand.tmp 55) (Operand.tmp 56), type := 0, pos := "poly.go:159", after := #[{ on := 1, ground := Ground.data }, { on := 2, ground := Ground.data }], guard := none }) (v := ?_) rfl (by kernel_rfl) (by kernel_rfl) (by kernel_rfl) (by kernel_rfl) (by kernel_rfl) (fun _ _ _ h => h) (Or.inl ⟨rfl, ?_⟩) (by assumption) ?_
            rotate_left
            · (intro w' hSw; replace y0 := kept_cell hSw y0; replace y1 := kept_cell hSw y1; replace x0 := kept_cell hSw x0; replace x1 := kept_cell hSw x1; go_simp; try with_reducible rfl)
            try simp only [Act.put, List.setIfInBounds_toArray, List.set_cons_zero, List.set_cons_succ]
            refine x_take (i := 4) (oi := { dst := some 58, op := Op.load 3 (Operand.tmp 57), type := 3, pos := "poly.go:159", after := #[{ on := 3, ground := Ground.data }], guard := none }) (v := ?_) rfl (by kernel_rfl) (by kernel_rfl) (by kernel_rfl) (by kernel_rfl) (by kernel_rfl) (fun _ _ _ h => h) (Or.inl ⟨rfl, ?_⟩) (by assumption) ?_
            rotate_left
            · (intro w' hSw; replace y0 := kept_cell hSw y0; replace y1 := kept_cell hSw y1; replace x0 := kept_cell hSw x0; replace x1 := kept_cell hSw x1; go_simp; try with_reducible rfl)
            try simp only [Act.put, List.setIfInBounds_toArray, List.set_cons_zero, List.set_cons_succ]
            refine x_take (i := 5) (oi := { dst := some 59, op := Op.move (Operand.tmp 16), type := 3, pos := "poly.go:159", after := #[], guard := none }) (v := ?_) rfl (by kernel_rfl) (by kernel_rfl) (by kernel_rfl) (by kernel_rfl) (by kernel_rfl) (fun _ _ _ h => h) (Or.inl ⟨rfl, ?_⟩) (by assumption) ?_
            rotate_left
            · (intro w' hSw; replace y0 := kept_cell hSw y0; replace y1 := kept_cell hSw y1; replace x0 := kept_cell hSw x0; replace x1 := kept_cell hSw x1; go_simp; try with_reducible rfl)
            try simp only [Act.put, List.setIfInBounds_toArray, List.set_cons_zero, List.set_cons_succ]
            refine x_one (i := 6) (o := { dst := some 60, op := Op.call { callee := Callee.value (Operand.func 50), args := #[Operand.tmp 54, Operand.tmp 58, Operand.tmp 59], argTypes := #[23, 3, 3] }, type := 50, pos := "poly.go:159", after := #[{ on := 0, ground := Ground.data }, { on := 4, ground := Ground.data }, { on := 5, ground := Ground.data }], guard := none }) (by kernel_rfl) rfl (fun K hK => ?_)
            (go_simp; go_at_call 50; (with_reducible refine (CP.out _).mono ?_); rintro e w5 ⟨rfl, k5⟩; have G5 := kept_trans hHeld k5; try dsimp only)
            refine hK.out _ _ ?_ (fun hHeld => ?_)
            · (try dsimp only); repeat (first | assumption | exact kept_refl _ | refine kept_drew ?_ | refine kept_alloc ?_ _ | refine kept_set ?_ (by omega) _)
            clear hK K
            try simp only [Act.put, List.setIfInBounds_toArray, List.set_cons_zero, List.set_cons_succ]
            refine x_take (i := 7) (oi := { dst := some 53, op := Op.move (Operand.tmp 60), type := 50, pos := "poly.go:159", after := #[{ on := 6, ground := Ground.data }], guard := none }) (v := ?_) rfl (by kernel_rfl) (by kernel_rfl) (by kernel_rfl) (by kernel_rfl) (by kernel_rfl) (fun _ _ _ h => h) (Or.inl ⟨rfl, ?_⟩) (by assumption) ?_
            rotate_left
            · (intro w' hSw; replace y0 := kept_cell hSw y0; replace y1 := kept_cell hSw y1; replace x0 := kept_cell hSw x0; replace x1 := kept_cell hSw x1; go_simp; try with_reducible rfl)
            try simp only [Act.put, List.setIfInBounds_toArray, List.set_cons_zero, List.set_cons_succ]
            refine x_take (i := 8) (oi := { dst := some 61, op := Op.extract (Operand.tmp 53) 0, type := 3, pos := "poly.go:159", after := #[{ on := 7, ground := Ground.data }], guard := none }) (v := ?_) rfl (by kernel_rfl) (by kernel_rfl) (by kernel_rfl) (by kernel_rfl) (by kernel_rfl) (fun _ _ _ h => h) (Or.inl ⟨rfl, ?_⟩) (by assumption) ?_
            rotate_left
            · (intro w' hSw; replace y0 := kept_cell hSw y0; replace y1 := kept_cell hSw y1; replace x0 := kept_cell hSw x0; replace x1 := kept_cell hSw x1; go_simp; try with_reducible rfl)
            try simp only [Act.put, List.setIfInBounds_toArray, List.set_cons_zero, List.set_cons_succ]
            refine x_take (i := 9) (oi := { dst := some 62, op := Op.extract (Operand.tmp 53) 1, type := 31, pos := "poly.go:159", after := #[{ on := 7, ground := Ground.data }, { on := 10, ground := Ground.gcOnly Departure.lateStores }], guard := none }) (v := ?_) rfl (by kernel_rfl) (by kernel_rfl) (by kernel_rfl) (by kernel_rfl) (by kernel_rfl) (fun _ _ _ h => h) (Or.inl ⟨rfl, ?_⟩) (by assumption) ?_
            rotate_left
            · (intro w' hSw; replace y0 := kept_cell hSw y0; replace y1 := kept_cell hSw y1; replace x0 := kept_cell hSw x0; replace x1 := kept_cell hSw x1; go_simp; try with_reducible rfl)
            try simp only [Act.put, List.setIfInBounds_toArray, List.set_cons_zero, List.set_cons_succ]
            refine x_take (i := 10) (oi := { dst := some 17, op := Op.assign (Operand.tmp 61), type := 3, pos := "poly.go:159", after := #[{ on := 8, ground := Ground.data }, { on := 6, ground := Ground.chain }, { on := 0, ground := Ground.phase }, { on := 1, ground := Ground.phase }, { on := 2, ground := Ground.phase }, { on := 3, ground := Ground.phase }, { on := 4, ground := Ground.phase }, { on := 5, ground := Ground.phase }, { on := 6, ground := Ground.phase }, { on := 7, ground := Ground.phase }, { on := 8, ground := Ground.phase }, { on := 9, ground := Ground.textOnly Departure.lateStores }], guard := none }) (v := ?_) rfl (by kernel_rfl) (by kernel_rfl) (by kernel_rfl) (by kernel_rfl) (by kernel_rfl) (fun _ _ _ h => h) (Or.inl ⟨rfl, ?_⟩) (by assumption) ?_
            rotate_left
            · (intro w' hSw; replace y0 := kept_cell hSw y0; replace y1 := kept_cell hSw y1; replace x0 := kept_cell hSw x0; replace x1 := kept_cell hSw x1; go_simp; try with_reducible rfl)
            try simp only [Act.put, List.setIfInBounds_toArray, List.set_cons_zero, List.set_cons_succ]
            refine x_take (i := 11) (oi := { dst := some 18, op := Op.assign (Operand.tmp 62), type := 31, pos := "poly.go:159", after := #[{ on := 9, ground := Ground.data }, { on := 10, ground := Ground.chain }, { on := 0, ground := Ground.phase }, { on := 1, ground := Ground.phase }, { on := 2, ground := Ground.phase }, { on := 3, ground := Ground.phase }, { on := 4, ground := Ground.phase }, { on := 5, ground := Ground.phase }, { on := 6, ground := Ground.phase }, { on := 7, ground := Ground.phase }, { on := 8, ground := Ground.phase }, { on := 9, ground := Ground.phase }, { on := 10, ground := Ground.phase }], guard := none }) (v := ?_) rfl (by kernel_rfl) (by kernel_rfl) (by kernel_rfl) (by kernel_rfl) (by kernel_rfl) (fun _ _ _ h => h) (Or.inl ⟨rfl, ?_⟩) (by assumption) ?_
            rotate_left
            · (intro w' hSw; replace y0 := kept_cell hSw y0; replace y1 := kept_cell hSw y1; replace x0 := kept_cell hSw x0; replace x1 := kept_cell hSw x1; go_simp; try with_reducible rfl)
            try simp only [Act.put, List.setIfInBounds_toArray, List.set_cons_zero, List.set_cons_succ]
            refine x_done (by kernel_rfl) ?_ _
            replace y0 := kept_cell G5 y0
            replace y1 := kept_cell G5 y1
            clear x0 x1
            go_wp2_with (go_at_call 51; ((with_reducible refine (CM.out _).mono ?_); rintro e w6 ⟨rfl, k6⟩; have G6 := kept_trans G5 k6))
            go_roundg (el.length - (j + 1))
            case rel => exact ⟨j + 1, m2, _, _, _, _, by omega, rfl, rfl, rfl, rfl, rfl, rfl, by go_num, HM2.out, kept_trans K2 G6⟩
            case measure => omega
          · obtain rfl : en = 0 := by omega
            have HM2 := Lib.hid (show m = monTo P M x el at' (j + 1) by rw [HM.out, monTo_skip OK.out TK.out.2.1 HA.out (by rw [← HLA.out, ← HEL.out]; exact hjt) (by rw [HEN.out]; rfl)])
            go_wp2_with fail
            go_roundg (el.length - (j + 1))
            case rel => exact ⟨j + 1, m, _, _, _, _, by omega, rfl, rfl, rfl, rfl, rfl, rfl, by go_num, HM2.out, K2⟩
            case measure => omega
        · obtain rfl : j = el.length := by omega
          have CS := Lib.hid fun w' => C69.out w' z m (by rw [HZ.out]; exact EVI.out k hk) MIN.out
          obtain ⟨z2, hz2⟩ : ∃ z2, z2 = addF P M z m := ⟨_, rfl⟩
          rw [← hz2] at CS
          have HZ2 := Lib.hid (show z2 = evTo P M p at' (k + 1) by rw [hz2, HM.out, HZ.out]; show _ = addF P M _ _; rw [HT.out])
          have y0 := (o3.kept KC).cell (j := 0) rfl
          have y1 := (o3.kept KC).cell (j := 1) rfl
          clear hz2
          go_wp2_with (go_at_call 52; ((with_reducible refine (CS.out _).mono ?_); rintro e w6 ⟨rfl, k6⟩))
          go_roundg (p.length - (k + 1))
          case rel => exact ⟨k + 1, z2, _, _, _, _, _, _, by omega, rfl, rfl, rfl, rfl, rfl, rfl, rfl, rfl, by go_num, HZ2.out, kept_trans KC k6⟩
          case measure => omega
    · obtain rfl : k = p.length := by omega
      go_wp2_with fail
      go_ret2
      exact ⟨show Ending.returned (.tuple #[.int .i64 z, .int .i64 0]) = .returned (.tuple #[.int .i64 R, .int .i64 0]) from (by rw [HR.out, HZ.out]; rfl), kept_trans K3 K1⟩
end Go.Proofs.YtikfeemmjfoffaaGreatDoor
