/- Polynomials: Substitute's errors; Few of any number of polynomials. -/
import Derived.Test.YtnjmpjdampdmmaaGreatDoorD2
import Derived.Test.YtnjmpjdampdmmaaGreatDoorA3
/- Polynomials: what Substitute calls: the list of polynomials checked, the constant. -/
set_option linter.unusedVariables false
set_option linter.unusedSimpArgs false
namespace Go.Proofs.YtnjmpjdampdmmaaGreatDoor
open Go.RowKit Go.Shelf

set_option maxRecDepth 100000 in
set_option maxHeartbeats 1000000 in
theorem lit73_any (P M m : Int) (g5 g8 : Nat) (p : List Tm) (A : Option Addr) (c : Nat) (w : World) (h0 : w.cell? ⟨g5, 0, none⟩ = some (.int .i64 P)) (h1 : w.cell? ⟨g5, 1, none⟩ = some (.int .i64 M)) (h2 : w.cell? ⟨g8, 0, none⟩ = some (.int .i64 m)) (hP : RP w A p) (hl : p.length ≤ 140737488355328) :
    Calls Tryz.prog 39 #[.slice A p.length c, .pointer (some ⟨g5, 0, none⟩), .pointer (some ⟨g8, 0, none⟩)] w fun e w' => e = .returned (.bool (!vld (ordF P M) m p)) ∧ Kept w w' := by
  have C := Lib.hid fun w' (k : Kept w w') => valid25_any P M m p A c w' (hP.kept k) hl
  unfold fV at C
  obtain ⟨b, hb⟩ : ∃ b, b = vld (ordF P M) m p := ⟨_, rfl⟩
  rw [← hb] at C ⊢
  clear hP hl hb
  cases b with
  | true =>
    go_enter Tryz.func39, Tryz.ntmps39
    go_wp2_with (go_at_call 29; ((with_reducible refine (C.out _ (kept_refl w)).mono ?_); rintro e w1 ⟨rfl, k1⟩))
    go_ret
    exact ⟨rfl, k1⟩
  | false =>
    go_enter Tryz.func39, Tryz.ntmps39
    go_wp2_with (go_at_call 29; ((with_reducible refine (C.out _ (kept_refl w)).mono ?_); rintro e w1 ⟨rfl, k1⟩))
    go_ret
    exact ⟨rfl, k1⟩
set_option maxRecDepth 100000 in
set_option maxHeartbeats 1000000 in
theorem index93_any (P M m : Int) (g5 g8 : Nat) (ls : List (List Tm)) (A : Option Addr) (c : Nat) (w : World) (h0 : w.cell? ⟨g5, 0, none⟩ = some (.int .i64 P)) (h1 : w.cell? ⟨g5, 1, none⟩ = some (.int .i64 M)) (h2 : w.cell? ⟨g8, 0, none⟩ = some (.int .i64 m)) (hA : RPP w A ls) (hl : ls.length ≤ 140737488355328) :
    Calls Tryz.prog 66 #[.slice A ls.length c, .func (.func 39) #[] #[.pointer (some ⟨g5, 0, none⟩), .pointer (some ⟨g8, 0, none⟩)]] w fun e w' => ∃ r : Int, e = .returned (.int .i64 r) ∧ Hid (decide (0 ≤ r) = ls.any fun p => !vld (ordF P M) m p) ∧ Kept w w' := by
  have C := Lib.hid fun w' p B d (k : Kept w w') (hB : RP w' B p) hl => lit73_any P M m g5 g8 p B d w' (kept_cell k h0) (kept_cell k h1) (kept_cell k h2) hB hl
  have HA := Lib.hid hA
  obtain ⟨V, hV⟩ : ∃ V : List Tm → Bool, V = fun p => !vld (ordF P M) m p := ⟨_, rfl⟩
  have HV := Lib.hid (show ∀ p, (!vld (ordF P M) m p) = V p from fun p => by rw [hV])
  rw [← hV]
  clear hA hV h0 h1 h2
  go_enter Tryz.func66, Tryz.ntmps66
  go_wp2_with fail
  go_loopg [5, 8] ls.length (fun G s5 s8 wr => ∃ (i : Nat) (v5 : Value), i ≤ ls.length ∧ G = ls.length - i ∧ s5 = v5 ∧ s8 = .int .i64 i ∧ Hid ((ls.take i).any V = false) ∧ Kept w wr)
  case atStart => exact ⟨0, _, by omega, rfl, rfl, rfl, Lib.hid (by simp), kept_refl _⟩
  case round =>
    obtain ⟨i, v5, hi, rfl, rfl, rfl, HF, K0⟩ := hrel
    by_cases hit : i < ls.length
    · obtain ⟨b, off, E, ce, rfl, hc, hE, hlE⟩ := HA.out i hit
      obtain ⟨p, hp⟩ : ∃ p, p = ls.getD i [] := ⟨_, rfl⟩
      rw [← hp] at hc hE hlE
      have hc' := kept_cell K0 hc
      have C1 := Lib.hid (C.out _ p E ce K0 (hE.kept K0) hlE)
      rw [HV.out p] at C1
      have HN := Lib.hid (show (ls.take (i + 1)).any V = V p by
        rw [List.take_add_one, List.any_append, HF.out, List.getElem?_eq_getElem hit, Bool.false_or]
        have e5 : ls[i] = p := by rw [hp, List.getD_eq_getElem?_getD, List.getElem?_eq_getElem hit]; rfl
        simp [e5])
      obtain ⟨bv, hbv⟩ : ∃ x, x = V p := ⟨_, rfl⟩
      rw [← hbv] at C1 HN
      clear hp hE hc hlE hbv
      cases bv with
      | true =>
        have HR := Lib.hid (show decide (0 ≤ (i : Int)) = ls.any V by
          rw [decide_eq_true (by omega)]
          have h5 := HN.out
          rw [List.any_eq_true] at h5
          obtain ⟨x, hx, hy⟩ := h5
          exact (List.any_eq_true.2 ⟨x, List.mem_of_mem_take hx, hy⟩).symm)
        go_wp2_with (go_at_call 39; ((with_reducible refine C1.out.mono ?_); rintro e w1 ⟨rfl, k1⟩))
        go_ret
        exact ⟨_, rfl, HR, kept_trans K0 k1⟩
      | false =>
        go_wp2_with (go_at_call 39; ((with_reducible refine C1.out.mono ?_); rintro e w1 ⟨rfl, k1⟩))
        go_roundg (ls.length - (i + 1))
        case rel => exact ⟨i + 1, _, by omega, rfl, rfl, by go_num, HN, kept_trans K0 k1⟩
        case measure => omega
    · obtain rfl : i = ls.length := by omega
      have HR := Lib.hid (show decide (0 ≤ (-1 : Int)) = ls.any V by
        have h5 := HF.out
        rw [List.take_length] at h5
        rw [h5]
        rfl)
      go_wp2_with fail
      go_ret
      exact ⟨_, rfl, HR, K0⟩
set_option maxRecDepth 100000 in
set_option maxHeartbeats 1000000 in
theorem contains72_any (P M m : Int) (g5 g8 : Nat) (ls : List (List Tm)) (A : Option Addr) (c : Nat) (w : World) (h0 : w.cell? ⟨g5, 0, none⟩ = some (.int .i64 P)) (h1 : w.cell? ⟨g5, 1, none⟩ = some (.int .i64 M)) (h2 : w.cell? ⟨g8, 0, none⟩ = some (.int .i64 m)) (hA : RPP w A ls) (hl : ls.length ≤ 140737488355328) :
    Calls Tryz.prog 38 #[.slice A ls.length c, .func (.func 39) #[] #[.pointer (some ⟨g5, 0, none⟩), .pointer (some ⟨g8, 0, none⟩)]] w fun e w' => e = .returned (.bool (ls.any fun p => !vld (ordF P M) m p)) ∧ Kept w w' := by
  have C := Lib.hid (index93_any P M m g5 g8 ls A c w h0 h1 h2 hA hl)
  obtain ⟨D, hD⟩ : ∃ D, D = ls.any fun p => !vld (ordF P M) m p := ⟨_, rfl⟩
  rw [← hD] at C ⊢
  clear h0 h1 h2 hA hl hD
  go_enter Tryz.func38, Tryz.ntmps38
  go_wp2_with (go_at_call 66; ((with_reducible refine C.out.mono ?_); rintro e w1 ⟨r, rfl, hr, k1⟩))
  go_ret
  rw [← hr.out]
  exact ⟨rfl, k1⟩
/-- The constant in m variables. -/
def cstT (m : Nat) (c : Int) : List Tm := if c = 0 then [] else [⟨c, List.replicate m 0⟩]
def RowP (out : List Tm) (w : World) (e : Ending) (w' : World) : Prop := ∃ (A' : Option Addr) (c' : Nat), e = .returned (.slice A' out.length c') ∧ RP w' A' out ∧ Kept w w'
theorem rp_one1 {w : World} {g : Nat} {c : Int} {E : Option Addr} {l : List Int} {n cap : Nat} (hn : n = l.length) (o : Own w g 64 [.int .i64 c, .slice E n cap]) (hE : Rd w E (ints l)) (hl : l.length ≤ 140737488355328) : RP w (some ⟨g, 0, none⟩) [⟨c, l⟩] := fun j hj => by
  obtain rfl : j = 0 := by simp at hj; omega
  subst hn
  exact ⟨g, 0, E, cap, rfl, by simpa [tmv] using o.cell (j := 0) rfl, by simpa [tmv] using o.cell (j := 1) rfl, hE, hl⟩
set_option maxRecDepth 100000 in
set_option maxHeartbeats 1000000 in
theorem constant74_any (m : Nat) (c : Int) (w : World) (hm : m ≤ 80) : Calls Tryz.prog 40 #[.int .i64 m, .int .i64 c] w (RowP (cstT m c) w) := by
  by_cases h0 : c = 0
  · have d1 : (c == 0) = true := by simpa using h0
    rw [show cstT m c = [] by simp [cstT, h0]]
    clear h0
    go_enter Tryz.func40, Tryz.ntmps40
    go_wp2_with fail
    go_ret
    exact ⟨none, 0, rfl, fun j hj => by simp at hj, kept_refl _⟩
  · have d1 : (c == 0) = false := by simpa using h0
    rw [show cstT m c = [⟨c, List.replicate m 0⟩] by simp [cstT, h0]]
    have hmk := make_ints m (by omega)
    have oe := Own.new w 3 (ints (List.replicate m 0))
    clear h0
    go_enter Tryz.func40, Tryz.ntmps40
    go_wp2_with fail
    go_ret
    have K1 : Kept w (w.alloc (.cells (ints (List.replicate m 0)).toArray 3)) := kept_alloc (kept_refl _) _
    have o2 := Own.new (w.alloc (.cells (ints (List.replicate m 0)).toArray 3)) 64 [.int .i64 c, .slice (some ⟨w.heap.size, 0, none⟩) m m]
    rw [show (w.alloc (.cells (ints (List.replicate m 0)).toArray 3)).heap.size = w.heap.size + 1 by simp] at o2
    refine ⟨_, 1, rfl, rp_one1 (n := m) (by simp) o2 ((oe.rd).kept (kept_alloc (kept_refl _) _)) (by simp; omega), kept_alloc K1 _⟩
end Go.Proofs.YtnjmpjdampdmmaaGreatDoor

/- Polynomials: Substitute, the program's. -/
set_option linter.unusedVariables false
set_option linter.unusedSimpArgs false
namespace Go.Proofs.YtnjmpjdampdmmaaGreatDoor
open Go.RowKit Go.Shelf

/-! ### What it reckons: none where a product is over the limit -/
def stepS (P M : Int) (l : List Tm) : Option (List Tm) → Option (List Tm)
  | none => none
  | some t => if noOv t l = true then some (prT P M t l) else none
def powS (P M : Int) (l : List Tm) : Nat → Option (List Tm) → Option (List Tm)
  | 0, s => s
  | j + 1, s => stepS P M l (powS P M l j s)
def tmTo (P M : Int) (m : Nat) (ls : List (List Tm)) (t : Tm) : Nat → Option (List Tm)
  | 0 => some (cstT m t.c)
  | k + 1 => powS P M (ls.getD k []) (ia t.e k).toNat (tmTo P M m ls t k)
def addS (P M : Int) : Option (List Tm) → Option (List Tm) → Option (List Tm)
  | some a, some u => some (adT P M a u)
  | _, _ => none
def sbTo (P M : Int) (m : Nat) (ls : List (List Tm)) (p : List Tm) : Nat → Option (List Tm)
  | 0 => some []
  | i + 1 => addS P M (sbTo P M m ls p i) (tmTo P M m ls (tmv p i) ls.length)
def errO : Option (List Tm) → Int
  | none => 5
  | some _ => 0
def tmO (s : Option (List Tm)) : List Tm := s.getD []
theorem prT_nil_l {P M : Int} (l : List Tm) : prT P M [] l = [] := rfl
theorem prT_nil_r {P M : Int} (t : List Tm) : prT P M t [] = [] := by
  have : prodT (mulF P M) t [] = [] := by simp [prodT]
  unfold prT
  rw [this]
  rfl
theorem step_empty {P M : Int} (l : List Tm) : stepS P M l (some []) = some [] := by
  show (if noOv [] l = true then some (prT P M [] l) else none) = _
  rw [if_pos (by simp [noOv]), prT_nil_l]
theorem step_to_empty {P M : Int} (t : List Tm) : stepS P M [] (some t) = some [] := by
  show (if noOv t [] = true then some (prT P M t []) else none) = _
  rw [if_pos (by simp [noOv]), prT_nil_r]
theorem powS_add {P M : Int} {l : List Tm} {s : Option (List Tm)} (d : Nat) (h : stepS P M l (powS P M l d s) = powS P M l d s) : ∀ j, powS P M l (d + j) s = powS P M l d s
  | 0 => rfl
  | j + 1 => by
    show stepS P M l (powS P M l (d + j) s) = _
    rw [powS_add d h j, h]
theorem powS_stay {P M : Int} {l : List Tm} {s s' : Option (List Tm)} {d e : Nat} (h1 : powS P M l d s = s') (h2 : stepS P M l s' = s') (hd : d ≤ e) : powS P M l e s = s' := by
  obtain ⟨j, rfl⟩ : ∃ j, e = d + j := ⟨e - d, by omega⟩
  rw [powS_add d (by rw [h1, h2]) j, h1]
theorem powS_nil {P M : Int} {e : Nat} {s : Option (List Tm)} (he : 0 < e) : powS P M [] e s = s.map fun _ => [] := by
  cases s with
  | none => exact powS_stay (d := 0) rfl rfl (by omega)
  | some t => exact powS_stay (d := 1) (step_to_empty t) (step_empty []) (by omega)
theorem sbTo_none {P M : Int} {m : Nat} {ls : List (List Tm)} {p : List Tm} {i : Nat} (h : sbTo P M m ls p i = none) : ∀ j, sbTo P M m ls p (i + j) = none
  | 0 => h
  | j + 1 => by
    show addS P M (sbTo P M m ls p (i + j)) _ = none
    rw [sbTo_none h j]
    rfl
/-- No list gets too long. -/
structure SubOk (P M : Int) (m : Nat) (ls : List (List Tm)) (p : List Tm) : Prop where
  mulB : ∀ i, i < p.length → ∀ k, k < ls.length → ∀ j, j < (ia (tmv p i).e k).toNat → ∀ t, powS P M (ls.getD k []) j (tmTo P M m ls (tmv p i) k) = some t → t.length * (ls.getD k []).length ≤ 20000
  addB : ∀ i, i < p.length → ∀ a u, sbTo P M m ls p i = some a → tmTo P M m ls (tmv p i) ls.length = some u → a.length + u.length ≤ 20000
def Vl (P M : Int) (m : Nat) (s : Option (List Tm)) : Prop := ∀ t, s = some t → vld (ordF P M) m t = true
theorem cst_vld {P M : Int} {m : Nat} {c : Int} (ok : okF P M = true) (hm : m ≤ 80) (hc : 0 ≤ c ∧ c < ordF P M) : vld (ordF P M) m (cstT m c) = true := by
  have hq := ord_ok ok
  unfold cstT
  split
  · exact canonVld (by omega) hm (by simp) (Canon.nil _ _) (by simp)
  · refine canonVld (by omega) hm (by simp) ⟨List.pairwise_singleton _ _, ?_, ?_⟩ ?_
    · intro t ht; rw [List.mem_singleton.1 ht]; simp
    · intro t ht; rw [List.mem_singleton.1 ht]; exact ⟨by show 1 ≤ c; omega, hc.2⟩
    · intro t ht x hx
      rw [List.mem_singleton.1 ht] at hx
      rw [List.eq_of_mem_replicate hx]
      omega
theorem step_vl {P M : Int} {m : Nat} {l : List Tm} {s : Option (List Tm)} (hs : Vl P M m s) (hl : vld (ordF P M) m l = true) (hb : ∀ t, s = some t → t.length * l.length ≤ 20000) : Vl P M m (stepS P M l s) := by
  cases s with
  | none => intro t h; cases h
  | some u =>
    intro t h
    have hu := hs u rfl
    change (if noOv u l = true then some (prT P M u l) else none) = some t at h
    split at h
    · rename_i hno
      obtain rfl := Option.some.inj h
      rw [prT_prd hu hl]
      exact pr_vld hu hl (hb u rfl) hno
    · cases h
theorem pow_vl {P M : Int} {m : Nat} {l : List Tm} {s : Option (List Tm)} {e : Nat} (hs : Vl P M m s) (hl : vld (ordF P M) m l = true) (hb : ∀ j, j < e → ∀ t, powS P M l j s = some t → t.length * l.length ≤ 20000) : ∀ j, j ≤ e → Vl P M m (powS P M l j s)
  | 0, _ => hs
  | j + 1, h => step_vl (pow_vl hs hl hb j (by omega)) hl (hb j (by omega))
theorem tm_vl {P M n : Int} {m : Nat} {ls : List (List Tm)} {p : List Tm} (S : SubOk P M m ls p) (hv : vld (ordF P M) n p = true) (hm : m ≤ 80) (hls : ∀ k, k < ls.length → vld (ordF P M) m (ls.getD k []) = true) {i : Nat} (hi : i < p.length) : ∀ k, k ≤ ls.length → Vl P M m (tmTo P M m ls (tmv p i) k)
  | 0, _ => fun t h => by
    obtain rfl := Option.some.inj h
    have := (vld_terms hv).2.2 i hi
    exact cst_vld (vld_ok hv) hm ⟨by omega, this.2.2.1⟩
  | k + 1, h => pow_vl (tm_vl S hv hm hls hi k (by omega)) (hls k (by omega)) (S.mulB i hi k (by omega)) _ (Nat.le_refl _)
theorem sb_vl {P M n : Int} {m : Nat} {ls : List (List Tm)} {p : List Tm} (S : SubOk P M m ls p) (hv : vld (ordF P M) n p = true) (hm : m ≤ 80) (hls : ∀ k, k < ls.length → vld (ordF P M) m (ls.getD k []) = true) : ∀ i, i ≤ p.length → Vl P M m (sbTo P M m ls p i)
  | 0, _ => fun t h => by
    obtain rfl := Option.some.inj h
    have hq := ord_ok (vld_ok hv)
    exact canonVld (by omega) hm (by simp) (Canon.nil _ _) (by simp)
  | i + 1, h => fun t ht => by
    have h1 := sb_vl S hv hm hls i (by omega)
    have h2 := tm_vl S hv hm hls (i := i) (by omega) ls.length (Nat.le_refl _)
    have h3 := S.addB i (by omega)
    change addS P M (sbTo P M m ls p i) (tmTo P M m ls (tmv p i) ls.length) = some t at ht
    cases ha : sbTo P M m ls p i with
    | none => rw [ha] at ht; cases ht
    | some a =>
      cases hu : tmTo P M m ls (tmv p i) ls.length with
      | none => rw [ha, hu] at ht; cases ht
      | some u =>
        rw [ha, hu] at ht
        obtain rfl := Option.some.inj ht
        exact ad_vld (h1 a ha) (h2 u hu) (h3 a u ha hu)
def SubPost (s : Option (List Tm)) (w : World) (e : Ending) (w' : World) : Prop := ∃ (A' : Option Addr) (c' : Nat), e = .returned (.tuple #[.slice A' (tmO s).length c', .int .i64 (errO s)]) ∧ RP w' A' (tmO s) ∧ Kept w w'
def NilErr (x : Int) (w : World) (e : Ending) (w' : World) : Prop := e = .returned (.tuple #[.slice none 0 0, .int .i64 x]) ∧ Kept w w'
end Go.Proofs.YtnjmpjdampdmmaaGreatDoor

/- Polynomials: Substitute, the program's, walked. -/
set_option linter.unusedVariables false
set_option linter.unusedSimpArgs false
namespace Go.Proofs.YtnjmpjdampdmmaaGreatDoor
open Go.RowKit Go.Shelf

theorem tmO_some (t : List Tm) : tmO (some t) = t := rfl
theorem errO_some (t : List Tm) : errO (some t) = 0 := rfl
theorem tmO_none : tmO none = [] := rfl
theorem errO_none : errO none = 5 := rfl
theorem rp_none {w : World} {A : Option Addr} : RP w A [] := fun j hj => by simp at hj
theorem prod_pos {a b : Nat} (h : ¬ a = 0) : decide ((0 : Int) < (a : Int)) = true := decide_eq_true (by omega)
set_option maxRecDepth 100000 in
set_option maxHeartbeats 1000000 in
theorem subst42_main (P M : Int) (m : Nat) (p : List Tm) (ls : List (List Tm)) (A B : Option Addr) (c d : Nat) (w : World) (hP : RP w A p) (hL : RPP w B ls) (hll : ls.length ≤ 140737488355328) (hv : vld (ordF P M) (ls.length : Int) p = true) (hm : m ≤ 80) (hls : ∀ k, k < ls.length → vld (ordF P M) m (ls.getD k []) = true) (S : SubOk P M m ls p) :
    Calls Tryz.prog 17 #[fV P M, .int .i64 ls.length, .slice A p.length c, .int .i64 m, .slice B ls.length d] w (SubPost (sbTo P M m ls p p.length) w) := by
  obtain ⟨hnr, hpl, tl⟩ := vld_terms hv
  have ok := vld_ok hv
  have hany : (ls.any fun p => !vld (ordF P M) m p) = false := by
    rw [List.any_eq_false]
    intro x hx
    obtain ⟨k, hk, rfl⟩ := List.getElem_of_mem hx
    have := hls k hk
    rw [List.getD_eq_getElem?_getD, List.getElem?_eq_getElem hk, Option.getD_some] at this
    simp [this]
  have C25 := Lib.hid fun w' (k : Kept w w') => valid25_any P M (ls.length : Int) p A c w' (hP.kept k) (by omega)
  rw [hv] at C25
  have C72 := Lib.hid fun w' (k : Kept w w') g5 g8 h0 h1 h2 => contains72_any P M (m : Int) g5 g8 ls B d w' h0 h1 h2 (hL.kept k) hll
  rw [hany] at C72
  have C74 := Lib.hid fun w' x => constant74_any m x w' hm
  unfold RowP at C74
  have CM := Lib.hid fun w' t l A c B d (hA : RP w' A t) (hB : RP w' B l) (ht : vld (ordF P M) m t = true) (hl : vld (ordF P M) m l = true) (hb : t.length * l.length ≤ 20000) => mul64_any P M m t l A B c d w' ok hA hB hm (vld_tms ht) (vld_tms hl) (vld_terms ht).2.1 (vld_terms hl).2.1 hb
  have CA := Lib.hid fun w' a u A c B d (hA : RP w' A a) (hB : RP w' B u) (ha : vld (ordF P M) m a = true) (hu : vld (ordF P M) m u = true) (hb : a.length + u.length ≤ 20000) => add75_any P M m a u A B c d w' ok hA hB hm (vld_tms ha) (vld_tms hu) hb
  unfold AddYes at CA
  have HP := Lib.hid hP
  have HL := Lib.hid hL
  have TL := Lib.hid tl
  have HS := Lib.hid S
  have HLS := Lib.hid hls
  have HTM := Lib.hid fun i (hi : i < p.length) k (hk : k ≤ ls.length) => tm_vl S hv hm hls hi k hk
  have HSB := Lib.hid fun i (hi : i ≤ p.length) => sb_vl S hv hm hls i hi
  have d1 : decide ((m : Int) < 0) = false := decide_eq_false (by omega)
  have d2 : decide ((80 : Int) < (m : Int)) = false := decide_eq_false (by omega)
  have d3 : decide (80 < m) = false := decide_eq_false (by omega)
  unfold fV at *
  have K0 := kept_alloc (kept_alloc (kept_refl w) (.cells #[.int .i64 P, .int .i64 M] 23)) (.cells #[.int .i64 m] 3)
  have o5 := (Own.new w 23 [.int .i64 P, .int .i64 M]).alloc (.cells #[.int .i64 m] 3)
  have o8 := Own.new (w.alloc (.cells #[.int .i64 P, .int .i64 M] 23)) 3 [.int .i64 m]
  rw [show (w.alloc (.cells #[.int .i64 P, .int .i64 M] 23)).heap.size = w.heap.size + 1 by simp] at o8
  obtain ⟨w0, hw0⟩ : ∃ w0, w0 = (w.alloc (.cells #[.int .i64 P, .int .i64 M] 23)).alloc (.cells #[.int .i64 m] 3) := ⟨_, rfl⟩
  rw [← hw0] at K0 o5
  have o8' : Own w0 (w.heap.size + 1) 3 [.int .i64 m] := by rw [hw0]; exact o8
  have HW0 := Lib.hid hw0
  clear o8 hw0 hP hL hv tl hls S hany ok hnr
  go_enter Tryz.func17, Tryz.ntmps17
  go_upto_region 1 with fail
  rw [← HW0.out]
  clear HW0
  have y0 := o5.cell (j := 0) rfl; have y1 := o5.cell (j := 1) rfl; have z0 := o8'.cell (j := 0) rfl
  go_wp2_with (first
    | (go_at_call 29; ((with_reducible refine (C25.out _ K0).mono ?_); rintro e w1 ⟨rfl, k1⟩; replace K0 := kept_trans K0 k1; replace o5 := o5.kept k1; replace o8' := o8'.kept k1; replace y0 := kept_cell k1 y0; replace y1 := kept_cell k1 y1; replace z0 := kept_cell k1 z0))
    | (go_at_call 38; ((with_reducible refine (C72.out _ K0 _ _ y0 y1 z0).mono ?_); rintro e w2 ⟨rfl, k2⟩; replace K0 := kept_trans K0 k2; replace o5 := o5.kept k2; replace o8' := o8'.kept k2)))
  clear y0 y1 z0 d1 d2 d3 C25 C72
  go_loopg [12, 14, 15, 16, 17, 18, 43] p.length (fun G s12 s14 s15 s16 s17 s18 s43 wr => ∃ (i : Nat) (A12 : Option Addr) (c12 : Nat) (acc : List Tm) (v14 v15 v16 v17 v18 : Value), i ≤ p.length ∧ G = p.length - i ∧ s12 = .slice A12 acc.length c12 ∧ s14 = v14 ∧ s15 = v15 ∧ s16 = v16 ∧ s17 = v17 ∧ s18 = v18 ∧ s43 = .int .i64 i ∧ RP wr A12 acc ∧ Hid (sbTo P M m ls p i = some acc) ∧ Kept w2 wr)
  case atStart => exact ⟨0, none, 0, [], _, _, _, _, _, by omega, rfl, rfl, rfl, rfl, rfl, rfl, rfl, rfl, fun j hj => by simp at hj, Lib.hid rfl, kept_refl _⟩
  case round =>
    obtain ⟨i, A12, c12, acc, v14, v15, v16, v17, v18, hi, rfl, rfl, rfl, rfl, rfl, rfl, rfl, rfl, hacc, HSI, K1⟩ := hrel
    have HACC := Lib.hid hacc
    clear hacc
    by_cases hit : i < p.length
    · obtain ⟨ba, off, E, ce, rfl, h0, h1, hE, hlE⟩ := (HP.out.kept K0) i hit
      replace h0 := kept_cell K1 h0
      replace h1 := kept_cell K1 h1
      obtain ⟨x, hx⟩ : ∃ x, x = (tmv p i).c := ⟨_, rfl⟩
      obtain ⟨el, hel⟩ : ∃ el, el = (tmv p i).e := ⟨_, rfl⟩
      have TK := Lib.hid (TL.out i hit)
      have HT := Lib.hid (show tmv p i = ⟨x, el⟩ by rw [hx, hel])
      rw [← hx, ← hel] at TK
      rw [← hx] at h0
      rw [← hel] at h1 hE hlE
      have HE := Lib.hid hE
      have HEN := Lib.hid (show el.length = ls.length by have := TK.out.1; omega)
      clear hx hel hE
      go_upto_region 9 with fail
      obtain ⟨W1, hW1⟩ : ∃ W1, W1 = wr.alloc (.cells #[.int .i64 x, .slice E el.length ce] 64) := ⟨_, rfl⟩
      rw [← hW1]
      have o14 : Own W1 wr.heap.size 64 [.int .i64 x, .slice E el.length ce] := by rw [hW1]; exact Own.new wr 64 _
      have KW1 : Kept wr W1 := by rw [hW1]; exact kept_alloc (kept_refl wr) _
      have K2 := kept_trans K1 KW1
      have z0 := (o8'.kept K2).cell (j := 0) rfl
      have z1 := o14.cell (j := 0) rfl
      clear h0 h1 hW1
      go_wp2_with (go_at_call 40; ((with_reducible refine (C74.out _ _).mono ?_); rintro e w4 ⟨A4, c4, rfl, hr4, k4⟩; have z2 := (o14.kept k4).cell (j := 1) rfl))
      have K4 := kept_trans K2 k4
      have HAC4 := Lib.hid (HACC.out.kept (kept_trans KW1 k4))
      clear z0 z1 z2
      go_loopg [15, 16, 17, 18, 54] el.length (fun G s15 s16 s17 s18 s54 wx => ∃ (k : Nat) (s : Option (List Tm)) (A15 : Option Addr) (c15 : Nat) (v17 v18 : Value), k ≤ el.length ∧ G = el.length - k ∧ s15 = .slice A15 (tmO s).length c15 ∧ s16 = .int .i64 (errO s) ∧ s17 = v17 ∧ s18 = v18 ∧ s54 = .int .i64 k ∧ RP wx A15 (tmO s) ∧ Hid (tmTo P M m ls ⟨x, el⟩ k = s) ∧ Kept w4 wx)
      case atStart => exact ⟨0, some (cstT m x), A4, c4, _, _, by omega, rfl, rfl, rfl, rfl, rfl, rfl, hr4, Lib.hid rfl, kept_refl _⟩
      case round =>
        clear hr4
        obtain ⟨k, s, A15, c15, v17, v18, hk, rfl, rfl, rfl, rfl, rfl, rfl, hs, HTO, K5⟩ := hrel
        have HSR := Lib.hid hs
        clear hs
        have K6 := kept_trans K4 K5
        by_cases hkt : k < el.length
        · have hkl : k < ls.length := by have := HEN.out; omega
          obtain ⟨b1, o1, rfl, hd1⟩ := (HE.out.kept (kept_trans K1 (kept_trans KW1 (kept_trans k4 K5)))).int hkt
          have x0 := hd1 k hkt
          have bx := TK.out.2.2.2 (ia el k) (ia_mem hkt)
          obtain ⟨ev, hev⟩ : ∃ ev : Nat, ia el k = (ev : Int) := ⟨(ia el k).toNat, by omega⟩
          rw [hev] at x0 bx
          obtain ⟨bl, ol, El, cl, rfl, hcl, hRl, hlen⟩ := (HL.out.kept K0) k hkl
          obtain ⟨l, hl⟩ : ∃ l, l = ls.getD k [] := ⟨_, rfl⟩
          rw [← hl] at hcl hRl hlen
          have HCL := Lib.hid hcl
          have HRL := Lib.hid hRl
          have HVL := Lib.hid (show vld (ordF P M) m l = true by rw [hl]; exact HLS.out k hkl)
          have HNX := Lib.hid (show tmTo P M m ls ⟨x, el⟩ (k + 1) = powS P M l ev s by
            show powS P M (ls.getD k []) (ia el k).toNat (tmTo P M m ls ⟨x, el⟩ k) = _
            rw [HTO.out, hev, ← hl]
            rfl)
          have HMB := Lib.hid (show ∀ j, j < ev → ∀ t, powS P M l j s = some t → t.length * l.length ≤ 20000 from fun j hj t ht => by
            have := HS.out.mulB i hit k hkl j (by rw [HT.out]; show j < (ia el k).toNat; rw [hev]; exact hj) t (by rw [HT.out, HTO.out, ← hl]; exact ht)
            rw [hl]
            exact this)
          have HVS := Lib.hid (show Vl P M m s by rw [← HTO.out, ← HT.out]; exact HTM.out i hit k (by omega))
          have g1 := kept_cell K6 hcl
          clear hev hl hd1 hcl hRl
          by_cases hl0 : l.length = 0
          · have e0 : l = [] := List.eq_nil_of_length_eq_zero hl0
            by_cases he0 : ev = 0
            · have HN2 := Lib.hid (show tmTo P M m ls ⟨x, el⟩ (k + 1) = s by rw [HNX.out, he0]; rfl)
              subst he0
              rw [hl0] at g1
              clear hl0 e0
              go_wp2_with fail
              go_loopg [15, 16, 18] 0 (fun G s15 s16 s18 wy => G = 0 ∧ s15 = .slice A15 (tmO s).length c15 ∧ s16 = .int .i64 (errO s) ∧ s18 = .int .i64 0 ∧ RP wy A15 (tmO s) ∧ Kept w4 wy)
              case atStart => exact ⟨rfl, rfl, rfl, rfl, HSR.out, K5⟩
              case round =>
                clear g1 HSR K5 K6
                obtain ⟨rfl, rfl, rfl, rfl, hsr, K5⟩ := hrel
                go_wp2_with fail
                go_roundg (el.length - (k + 1))
                case rel => exact ⟨k + 1, s, A15, c15, _, _, by omega, rfl, rfl, rfl, rfl, rfl, by go_num, hsr, HN2, K5⟩
                case measure => omega
            · have f1 : decide ((0 : Int) < (ev : Int)) = true := decide_eq_true (by omega)
              have f2 : decide (0 < ev) = true := decide_eq_true (by omega)
              have HN2 := Lib.hid (show tmTo P M m ls ⟨x, el⟩ (k + 1) = s.map fun _ => [] by rw [HNX.out, e0, powS_nil (by omega)])
              have e6 : errO (s.map fun _ => ([] : List Tm)) = errO s := by cases s <;> rfl
              have e7 : tmO (s.map fun _ => ([] : List Tm)) = [] := by cases s <;> rfl
              rw [hl0] at g1
              have HE6 := Lib.hid e6
              have HE7 := Lib.hid e7
              clear hl0 e0 e6 e7 he0
              go_wp2_with fail
              go_loopg [15, 16, 18] 0 (fun G s15 s16 s18 wy => G = 0 ∧ s15 = .slice none 0 0 ∧ s16 = .int .i64 (errO s) ∧ s18 = .int .i64 (ev : Int) ∧ Kept w4 wy)
              case atStart => exact ⟨rfl, rfl, rfl, rfl, K5⟩
              case round =>
                clear g1 HSR K5 K6
                obtain ⟨rfl, rfl, rfl, rfl, K5⟩ := hrel
                go_wp2_with fail
                go_roundg (el.length - (k + 1))
                case rel => exact ⟨k + 1, s.map fun _ => [], none, 0, _, _, by omega, rfl, by rw [HE7.out]; rfl, by rw [HE6.out], rfl, rfl, by go_num, by rw [HE7.out]; exact rp_none, HN2, K5⟩
                case measure => omega
          · have f0 : ((l.length : Int) == 0) = false := by simpa using hl0
            have f00 : (l.length == 0) = false := by simpa using hl0
            clear hl0
            go_wp2_with fail
            clear x0
            go_loopg [15, 16, 18] ev (fun G s15 s16 s18 wy => ∃ (dn : Nat) (s' : Option (List Tm)) (A' : Option Addr) (c' : Nat), dn ≤ ev ∧ G = ev - dn ∧ s15 = .slice A' (tmO s').length c' ∧ s16 = .int .i64 (errO s') ∧ s18 = .int .i64 ((ev - dn : Nat) : Int) ∧ RP wy A' (tmO s') ∧ Hid (powS P M l dn s = s') ∧ Kept w4 wy)
            case atStart => exact ⟨0, s, A15, c15, by omega, rfl, rfl, rfl, rfl, HSR.out, Lib.hid rfl, K5⟩
            case round =>
              clear g1 HSR K5 K6
              obtain ⟨dn, s', A', c', hdn, rfl, rfl, rfl, rfl, hs', HPW, K5⟩ := hrel
              have HSR := Lib.hid hs'
              obtain ⟨j, hj⟩ : ∃ j, j = ev - dn := ⟨_, rfl⟩
              have HJ := Lib.hid hj
              rw [← hj]
              clear hs' hj
              have K6 := kept_trans K4 K5
              cases s' with
              | none =>
                have HN2 := Lib.hid (show tmTo P M m ls ⟨x, el⟩ (k + 1) = none by rw [HNX.out]; exact powS_stay HPW.out rfl hdn)
                by_cases hj0 : 0 < j
                · have f1 : decide ((0 : Int) < (j : Int)) = true := decide_eq_true (by omega)
                  have f2 : decide (0 < j) = true := decide_eq_true hj0
                  clear hj0
                  rw [tmO_none, errO_none]
                  go_wp2_with fail
                  go_roundg (el.length - (k + 1))
                  case rel => exact ⟨k + 1, none, A', c', _, _, by omega, rfl, rfl, rfl, rfl, rfl, by go_num, HSR.out, HN2, K5⟩
                  case measure => omega
                · have f1 : decide ((0 : Int) < (j : Int)) = false := decide_eq_false (by omega)
                  have f2 : decide (0 < j) = false := decide_eq_false hj0
                  clear hj0
                  rw [tmO_none, errO_none]
                  go_wp2_with fail
                  go_roundg (el.length - (k + 1))
                  case rel => exact ⟨k + 1, none, A', c', _, _, by omega, rfl, rfl, rfl, rfl, rfl, by go_num, HSR.out, HN2, K5⟩
                  case measure => omega
              | some t =>
                change Hid (RP _ A' t) at HSR
                rw [tmO_some, errO_some]
                by_cases hj0 : 0 < j
                · have f1 : decide ((0 : Int) < (j : Int)) = true := decide_eq_true (by omega)
                  have f2 : decide (0 < j) = true := decide_eq_true hj0
                  by_cases ht0 : t.length = 0
                  · have HN2 := Lib.hid (show tmTo P M m ls ⟨x, el⟩ (k + 1) = some t by
                      rw [HNX.out]
                      exact powS_stay HPW.out (by rw [List.eq_nil_of_length_eq_zero ht0]; exact step_empty l) hdn)
                    have f3 : decide ((0 : Int) < (t.length : Int)) = false := decide_eq_false (by omega)
                    have f4 : decide (0 < t.length) = false := decide_eq_false (by omega)
                    clear hj0 ht0
                    go_wp2_with fail
                    go_roundg (el.length - (k + 1))
                    case rel => exact ⟨k + 1, some t, A', c', _, _, by omega, rfl, rfl, rfl, rfl, rfl, by go_num, HSR.out, HN2, K5⟩
                    case measure => omega
                  · have hvt := pow_vl HVS.out HVL.out HMB.out dn hdn t HPW.out
                    have hbt := HMB.out dn (by have := HJ.out; omega) t HPW.out
                    have f3 : decide ((0 : Int) < (t.length : Int)) = true := decide_eq_true (by omega)
                    have f4 : decide (0 < t.length) = true := decide_eq_true (by omega)
                    have ej : IntKind.i64.wrap ((j : Int) - 1) = ((ev - (dn + 1) : Nat) : Int) := by
                      have := HJ.out
                      rw [IntWalk.i64_in _ (by omega)]
                      omega
                    have hdn2 : dn + 1 ≤ ev := by have := HJ.out; omega
                    have HST := Lib.hid (show powS P M l (dn + 1) s = stepS P M l (some t) by show stepS P M l (powS P M l dn s) = _; rw [HPW.out])
                    have y0 := (o5.kept K6).cell (j := 0) rfl; have y1 := (o5.kept K6).cell (j := 1) rfl
                    have g1 := kept_cell K6 HCL.out
                    cases hno : noOv t l with
                    | true =>
                      have C1 := Lib.hid fun w' (kk : Kept wr w') => (CM.out w' t l A' c' El cl (HSR.out.kept kk) ((HRL.out.kept K6).kept kk) hvt HVL.out hbt).mono fun e w'' h => h.yes hno
                      unfold MulYes at C1
                      have HS2 := Lib.hid (show stepS P M l (some t) = some (prT P M t l) by show (if noOv t l = true then some (prT P M t l) else none) = _; rw [if_pos hno])
                      clear hvt hbt hno hj0 ht0
                      go_upto_region 17 with fail
                      refine region_x (fun w' => Kept wr w') [] (by kernel_rfl) (kept_drew (kept_refl _)) (fun hHeld => ?_)
                      refine x_take (i := 0) (oi := { dst := some 81, op := Op.load 23 (Operand.tmp 5), type := 23, pos := "poly.go:209", after := #[], guard := none }) (v := ?_) rfl (by kernel_rfl) (by kernel_rfl) (by kernel_rfl) (by kernel_rfl) (by kernel_rfl) (fun _ _ _ h => h) (Or.inl ⟨rfl, ?_⟩) (by assumption) ?_
                      rotate_left
                      · (intro w' hSw; replace y0 := kept_cell hSw y0; replace y1 := kept_cell hSw y1; replace g1 := kept_cell hSw g1; go_simp; try with_reducible rfl)
                      try simp only [Act.put, List.setIfInBounds_toArray, List.set_cons_zero, List.set_cons_succ]
                      refine x_take (i := 1) (oi := { dst := some 82, op := Op.move (Operand.tmp 15), type := 25, pos := "poly.go:209", after := #[], guard := none }) (v := ?_) rfl (by kernel_rfl) (by kernel_rfl) (by kernel_rfl) (by kernel_rfl) (by kernel_rfl) (fun _ _ _ h => h) (Or.inl ⟨rfl, ?_⟩) (by assumption) ?_
                      rotate_left
                      · (intro w' hSw; replace y0 := kept_cell hSw y0; replace y1 := kept_cell hSw y1; replace g1 := kept_cell hSw g1; go_simp; try with_reducible rfl)
                      try simp only [Act.put, List.setIfInBounds_toArray, List.set_cons_zero, List.set_cons_succ]
                      refine x_take (i := 2) (oi := { dst := some 83, op := Op.move (Operand.tmp 4), type := 43, pos := "poly.go:209", after := #[], guard := none }) (v := ?_) rfl (by kernel_rfl) (by kernel_rfl) (by kernel_rfl) (by kernel_rfl) (by kernel_rfl) (fun _ _ _ h => h) (Or.inl ⟨rfl, ?_⟩) (by assumption) ?_
                      rotate_left
                      · (intro w' hSw; replace y0 := kept_cell hSw y0; replace y1 := kept_cell hSw y1; replace g1 := kept_cell hSw g1; go_simp; try with_reducible rfl)
                      try simp only [Act.put, List.setIfInBounds_toArray, List.set_cons_zero, List.set_cons_succ]
                      refine x_take (i := 3) (oi := { dst := some 84, op := Op.move (Operand.tmp 17), type := 3, pos := "poly.go:209", after := #[], guard := none }) (v := ?_) rfl (by kernel_rfl) (by kernel_rfl) (by kernel_rfl) (by kernel_rfl) (by kernel_rfl) (fun _ _ _ h => h) (Or.inl ⟨rfl, ?_⟩) (by assumption) ?_
                      rotate_left
                      · (intro w' hSw; replace y0 := kept_cell hSw y0; replace y1 := kept_cell hSw y1; replace g1 := kept_cell hSw g1; go_simp; try with_reducible rfl)
                      try simp only [Act.put, List.setIfInBounds_toArray, List.set_cons_zero, List.set_cons_succ]
                      refine x_take (i := 4) (oi := { dst := some 85, op := Op.indexAddr 43 (Operand.tmp 83) (Operand.tmp 84), type := 0, pos := "poly.go:209", after := #[{ on := 2, ground := Ground.data }, { on := 3, ground := Ground.data }], guard := none }) (v := ?_) rfl (by kernel_rfl) (by kernel_rfl) (by kernel_rfl) (by kernel_rfl) (by kernel_rfl) (fun _ _ _ h => h) (Or.inl ⟨rfl, ?_⟩) (by assumption) ?_
                      rotate_left
                      · (intro w' hSw; replace y0 := kept_cell hSw y0; replace y1 := kept_cell hSw y1; replace g1 := kept_cell hSw g1; go_simp; try with_reducible rfl)
                      try simp only [Act.put, List.setIfInBounds_toArray, List.set_cons_zero, List.set_cons_succ]
                      refine x_take (i := 5) (oi := { dst := some 86, op := Op.load 25 (Operand.tmp 85), type := 25, pos := "poly.go:209", after := #[{ on := 4, ground := Ground.data }], guard := none }) (v := ?_) rfl (by kernel_rfl) (by kernel_rfl) (by kernel_rfl) (by kernel_rfl) (by kernel_rfl) (fun _ _ _ h => h) (Or.inl ⟨rfl, ?_⟩) (by assumption) ?_
                      rotate_left
                      · (intro w' hSw; replace y0 := kept_cell hSw y0; replace y1 := kept_cell hSw y1; replace g1 := kept_cell hSw g1; go_simp; try with_reducible rfl)
                      try simp only [Act.put, List.setIfInBounds_toArray, List.set_cons_zero, List.set_cons_succ]
                      refine x_one (i := 6) (o := { dst := some 87, op := Op.call { callee := Callee.value (Operand.func 41), args := #[Operand.tmp 81, Operand.tmp 82, Operand.tmp 86], argTypes := #[23, 25, 25] }, type := 31, pos := "poly.go:209", after := #[{ on := 0, ground := Ground.data }, { on := 1, ground := Ground.data }, { on := 5, ground := Ground.data }], guard := none }) (by kernel_rfl) rfl (fun K hK => ?_)
                      (go_simp; go_at_call 41; (with_reducible refine (C1.out _ hHeld).mono ?_); rintro e w6 ⟨A6, c6, out, rfl, ho, hrp, k6⟩; have G6 := kept_trans hHeld k6; try dsimp only)
                      refine hK.out _ _ ?_ (fun hHeld => ?_)
                      · (try dsimp only); repeat (first | assumption | exact kept_refl _ | refine kept_drew ?_ | refine kept_alloc ?_ _ | refine kept_set ?_ (by omega) _)
                      clear hK K
                      try simp only [Act.put, List.setIfInBounds_toArray, List.set_cons_zero, List.set_cons_succ]
                      refine x_take (i := 7) (oi := { dst := some 80, op := Op.move (Operand.tmp 87), type := 31, pos := "poly.go:209", after := #[{ on := 6, ground := Ground.data }], guard := none }) (v := ?_) rfl (by kernel_rfl) (by kernel_rfl) (by kernel_rfl) (by kernel_rfl) (by kernel_rfl) (fun _ _ _ h => h) (Or.inl ⟨rfl, ?_⟩) (by assumption) ?_
                      rotate_left
                      · (intro w' hSw; replace y0 := kept_cell hSw y0; replace y1 := kept_cell hSw y1; replace g1 := kept_cell hSw g1; go_simp; try with_reducible rfl)
                      try simp only [Act.put, List.setIfInBounds_toArray, List.set_cons_zero, List.set_cons_succ]
                      refine x_take (i := 8) (oi := { dst := some 88, op := Op.extract (Operand.tmp 80) 0, type := 25, pos := "poly.go:209", after := #[{ on := 7, ground := Ground.data }], guard := none }) (v := ?_) rfl (by kernel_rfl) (by kernel_rfl) (by kernel_rfl) (by kernel_rfl) (by kernel_rfl) (fun _ _ _ h => h) (Or.inl ⟨rfl, ?_⟩) (by assumption) ?_
                      rotate_left
                      · (intro w' hSw; replace y0 := kept_cell hSw y0; replace y1 := kept_cell hSw y1; replace g1 := kept_cell hSw g1; go_simp; try with_reducible rfl)
                      try simp only [Act.put, List.setIfInBounds_toArray, List.set_cons_zero, List.set_cons_succ]
                      refine x_take (i := 9) (oi := { dst := some 89, op := Op.extract (Operand.tmp 80) 1, type := 30, pos := "poly.go:209", after := #[{ on := 7, ground := Ground.data }, { on := 10, ground := Ground.gcOnly Departure.lateStores }], guard := none }) (v := ?_) rfl (by kernel_rfl) (by kernel_rfl) (by kernel_rfl) (by kernel_rfl) (by kernel_rfl) (fun _ _ _ h => h) (Or.inl ⟨rfl, ?_⟩) (by assumption) ?_
                      rotate_left
                      · (intro w' hSw; replace y0 := kept_cell hSw y0; replace y1 := kept_cell hSw y1; replace g1 := kept_cell hSw g1; go_simp; try with_reducible rfl)
                      try simp only [Act.put, List.setIfInBounds_toArray, List.set_cons_zero, List.set_cons_succ]
                      refine x_take (i := 10) (oi := { dst := some 15, op := Op.assign (Operand.tmp 88), type := 25, pos := "poly.go:209", after := #[{ on := 8, ground := Ground.data }, { on := 6, ground := Ground.chain }, { on := 0, ground := Ground.phase }, { on := 1, ground := Ground.phase }, { on := 2, ground := Ground.phase }, { on := 3, ground := Ground.phase }, { on := 4, ground := Ground.phase }, { on := 5, ground := Ground.phase }, { on := 6, ground := Ground.phase }, { on := 7, ground := Ground.phase }, { on := 8, ground := Ground.phase }, { on := 9, ground := Ground.textOnly Departure.lateStores }], guard := none }) (v := ?_) rfl (by kernel_rfl) (by kernel_rfl) (by kernel_rfl) (by kernel_rfl) (by kernel_rfl) (fun _ _ _ h => h) (Or.inl ⟨rfl, ?_⟩) (by assumption) ?_
                      rotate_left
                      · (intro w' hSw; replace y0 := kept_cell hSw y0; replace y1 := kept_cell hSw y1; replace g1 := kept_cell hSw g1; go_simp; try with_reducible rfl)
                      try simp only [Act.put, List.setIfInBounds_toArray, List.set_cons_zero, List.set_cons_succ]
                      refine x_take (i := 11) (oi := { dst := some 16, op := Op.assign (Operand.tmp 89), type := 30, pos := "poly.go:209", after := #[{ on := 9, ground := Ground.data }, { on := 10, ground := Ground.chain }, { on := 0, ground := Ground.phase }, { on := 1, ground := Ground.phase }, { on := 2, ground := Ground.phase }, { on := 3, ground := Ground.phase }, { on := 4, ground := Ground.phase }, { on := 5, ground := Ground.phase }, { on := 6, ground := Ground.phase }, { on := 7, ground := Ground.phase }, { on := 8, ground := Ground.phase }, { on := 9, ground := Ground.phase }, { on := 10, ground := Ground.phase }], guard := none }) (v := ?_) rfl (by kernel_rfl) (by kernel_rfl) (by kernel_rfl) (by kernel_rfl) (by kernel_rfl) (fun _ _ _ h => h) (Or.inl ⟨rfl, ?_⟩) (by assumption) ?_
                      rotate_left
                      · (intro w' hSw; replace y0 := kept_cell hSw y0; replace y1 := kept_cell hSw y1; replace g1 := kept_cell hSw g1; go_simp; try with_reducible rfl)
                      try simp only [Act.put, List.setIfInBounds_toArray, List.set_cons_zero, List.set_cons_succ]
                      refine x_done (by kernel_rfl) ?_ _
                      have HO := Lib.hid ho
                      clear y0 y1 g1 ho
                      go_wp2_with fail
                      go_roundg (ev - (dn + 1))
                      case rel => exact ⟨dn + 1, some out, A6, c6, hdn2, rfl, (by rw [HO.out]; rfl), rfl, rfl, hrp, Lib.hid (by rw [HST.out, HS2.out, HO.out]), kept_trans K5 G6⟩
                      case measure => omega
                    | false =>
                      have C1 := Lib.hid fun w' (kk : Kept wr w') => (CM.out w' t l A' c' El cl (HSR.out.kept kk) ((HRL.out.kept K6).kept kk) hvt HVL.out hbt).mono fun e w'' h => h.no hno
                      unfold MulNo at C1
                      have HS2 := Lib.hid (show stepS P M l (some t) = none by show (if noOv t l = true then some (prT P M t l) else none) = _; rw [if_neg (by rw [hno]; decide)])
                      clear hvt hbt hno hj0 ht0
                      go_upto_region 17 with fail
                      refine region_x (fun w' => Kept wr w') [] (by kernel_rfl) (kept_drew (kept_refl _)) (fun hHeld => ?_)
                      refine x_take (i := 0) (oi := { dst := some 81, op := Op.load 23 (Operand.tmp 5), type := 23, pos := "poly.go:209", after := #[], guard := none }) (v := ?_) rfl (by kernel_rfl) (by kernel_rfl) (by kernel_rfl) (by kernel_rfl) (by kernel_rfl) (fun _ _ _ h => h) (Or.inl ⟨rfl, ?_⟩) (by assumption) ?_
                      rotate_left
                      · (intro w' hSw; replace y0 := kept_cell hSw y0; replace y1 := kept_cell hSw y1; replace g1 := kept_cell hSw g1; go_simp; try with_reducible rfl)
                      try simp only [Act.put, List.setIfInBounds_toArray, List.set_cons_zero, List.set_cons_succ]
                      refine x_take (i := 1) (oi := { dst := some 82, op := Op.move (Operand.tmp 15), type := 25, pos := "poly.go:209", after := #[], guard := none }) (v := ?_) rfl (by kernel_rfl) (by kernel_rfl) (by kernel_rfl) (by kernel_rfl) (by kernel_rfl) (fun _ _ _ h => h) (Or.inl ⟨rfl, ?_⟩) (by assumption) ?_
                      rotate_left
                      · (intro w' hSw; replace y0 := kept_cell hSw y0; replace y1 := kept_cell hSw y1; replace g1 := kept_cell hSw g1; go_simp; try with_reducible rfl)
                      try simp only [Act.put, List.setIfInBounds_toArray, List.set_cons_zero, List.set_cons_succ]
                      refine x_take (i := 2) (oi := { dst := some 83, op := Op.move (Operand.tmp 4), type := 43, pos := "poly.go:209", after := #[], guard := none }) (v := ?_) rfl (by kernel_rfl) (by kernel_rfl) (by kernel_rfl) (by kernel_rfl) (by kernel_rfl) (fun _ _ _ h => h) (Or.inl ⟨rfl, ?_⟩) (by assumption) ?_
                      rotate_left
                      · (intro w' hSw; replace y0 := kept_cell hSw y0; replace y1 := kept_cell hSw y1; replace g1 := kept_cell hSw g1; go_simp; try with_reducible rfl)
                      try simp only [Act.put, List.setIfInBounds_toArray, List.set_cons_zero, List.set_cons_succ]
                      refine x_take (i := 3) (oi := { dst := some 84, op := Op.move (Operand.tmp 17), type := 3, pos := "poly.go:209", after := #[], guard := none }) (v := ?_) rfl (by kernel_rfl) (by kernel_rfl) (by kernel_rfl) (by kernel_rfl) (by kernel_rfl) (fun _ _ _ h => h) (Or.inl ⟨rfl, ?_⟩) (by assumption) ?_
                      rotate_left
                      · (intro w' hSw; replace y0 := kept_cell hSw y0; replace y1 := kept_cell hSw y1; replace g1 := kept_cell hSw g1; go_simp; try with_reducible rfl)
                      try simp only [Act.put, List.setIfInBounds_toArray, List.set_cons_zero, List.set_cons_succ]
                      refine x_take (i := 4) (oi := { dst := some 85, op := Op.indexAddr 43 (Operand.tmp 83) (Operand.tmp 84), type := 0, pos := "poly.go:209", after := #[{ on := 2, ground := Ground.data }, { on := 3, ground := Ground.data }], guard := none }) (v := ?_) rfl (by kernel_rfl) (by kernel_rfl) (by kernel_rfl) (by kernel_rfl) (by kernel_rfl) (fun _ _ _ h => h) (Or.inl ⟨rfl, ?_⟩) (by assumption) ?_
                      rotate_left
                      · (intro w' hSw; replace y0 := kept_cell hSw y0; replace y1 := kept_cell hSw y1; replace g1 := kept_cell hSw g1; go_simp; try with_reducible rfl)
                      try simp only [Act.put, List.setIfInBounds_toArray, List.set_cons_zero, List.set_cons_succ]
                      refine x_take (i := 5) (oi := { dst := some 86, op := Op.load 25 (Operand.tmp 85), type := 25, pos := "poly.go:209", after := #[{ on := 4, ground := Ground.data }], guard := none }) (v := ?_) rfl (by kernel_rfl) (by kernel_rfl) (by kernel_rfl) (by kernel_rfl) (by kernel_rfl) (fun _ _ _ h => h) (Or.inl ⟨rfl, ?_⟩) (by assumption) ?_
                      rotate_left
                      · (intro w' hSw; replace y0 := kept_cell hSw y0; replace y1 := kept_cell hSw y1; replace g1 := kept_cell hSw g1; go_simp; try with_reducible rfl)
                      try simp only [Act.put, List.setIfInBounds_toArray, List.set_cons_zero, List.set_cons_succ]
                      refine x_one (i := 6) (o := { dst := some 87, op := Op.call { callee := Callee.value (Operand.func 41), args := #[Operand.tmp 81, Operand.tmp 82, Operand.tmp 86], argTypes := #[23, 25, 25] }, type := 31, pos := "poly.go:209", after := #[{ on := 0, ground := Ground.data }, { on := 1, ground := Ground.data }, { on := 5, ground := Ground.data }], guard := none }) (by kernel_rfl) rfl (fun K hK => ?_)
                      (go_simp; go_at_call 41; (with_reducible refine (C1.out _ hHeld).mono ?_); rintro e w6 ⟨rfl, k6⟩; have G6 := kept_trans hHeld k6; try dsimp only)
                      refine hK.out _ _ ?_ (fun hHeld => ?_)
                      · (try dsimp only); repeat (first | assumption | exact kept_refl _ | refine kept_drew ?_ | refine kept_alloc ?_ _ | refine kept_set ?_ (by omega) _)
                      clear hK K
                      try simp only [Act.put, List.setIfInBounds_toArray, List.set_cons_zero, List.set_cons_succ]
                      refine x_take (i := 7) (oi := { dst := some 80, op := Op.move (Operand.tmp 87), type := 31, pos := "poly.go:209", after := #[{ on := 6, ground := Ground.data }], guard := none }) (v := ?_) rfl (by kernel_rfl) (by kernel_rfl) (by kernel_rfl) (by kernel_rfl) (by kernel_rfl) (fun _ _ _ h => h) (Or.inl ⟨rfl, ?_⟩) (by assumption) ?_
                      rotate_left
                      · (intro w' hSw; replace y0 := kept_cell hSw y0; replace y1 := kept_cell hSw y1; replace g1 := kept_cell hSw g1; go_simp; try with_reducible rfl)
                      try simp only [Act.put, List.setIfInBounds_toArray, List.set_cons_zero, List.set_cons_succ]
                      refine x_take (i := 8) (oi := { dst := some 88, op := Op.extract (Operand.tmp 80) 0, type := 25, pos := "poly.go:209", after := #[{ on := 7, ground := Ground.data }], guard := none }) (v := ?_) rfl (by kernel_rfl) (by kernel_rfl) (by kernel_rfl) (by kernel_rfl) (by kernel_rfl) (fun _ _ _ h => h) (Or.inl ⟨rfl, ?_⟩) (by assumption) ?_
                      rotate_left
                      · (intro w' hSw; replace y0 := kept_cell hSw y0; replace y1 := kept_cell hSw y1; replace g1 := kept_cell hSw g1; go_simp; try with_reducible rfl)
                      try simp only [Act.put, List.setIfInBounds_toArray, List.set_cons_zero, List.set_cons_succ]
                      refine x_take (i := 9) (oi := { dst := some 89, op := Op.extract (Operand.tmp 80) 1, type := 30, pos := "poly.go:209", after := #[{ on := 7, ground := Ground.data }, { on := 10, ground := Ground.gcOnly Departure.lateStores }], guard := none }) (v := ?_) rfl (by kernel_rfl) (by kernel_rfl) (by kernel_rfl) (by kernel_rfl) (by kernel_rfl) (fun _ _ _ h => h) (Or.inl ⟨rfl, ?_⟩) (by assumption) ?_
                      rotate_left
                      · (intro w' hSw; replace y0 := kept_cell hSw y0; replace y1 := kept_cell hSw y1; replace g1 := kept_cell hSw g1; go_simp; try with_reducible rfl)
                      try simp only [Act.put, List.setIfInBounds_toArray, List.set_cons_zero, List.set_cons_succ]
                      refine x_take (i := 10) (oi := { dst := some 15, op := Op.assign (Operand.tmp 88), type := 25, pos := "poly.go:209", after := #[{ on := 8, ground := Ground.data }, { on := 6, ground := Ground.chain }, { on := 0, ground := Ground.phase }, { on := 1, ground := Ground.phase }, { on := 2, ground := Ground.phase }, { on := 3, ground := Ground.phase }, { on := 4, ground := Ground.phase }, { on := 5, ground := Ground.phase }, { on := 6, ground := Ground.phase }, { on := 7, ground := Ground.phase }, { on := 8, ground := Ground.phase }, { on := 9, ground := Ground.textOnly Departure.lateStores }], guard := none }) (v := ?_) rfl (by kernel_rfl) (by kernel_rfl) (by kernel_rfl) (by kernel_rfl) (by kernel_rfl) (fun _ _ _ h => h) (Or.inl ⟨rfl, ?_⟩) (by assumption) ?_
                      rotate_left
                      · (intro w' hSw; replace y0 := kept_cell hSw y0; replace y1 := kept_cell hSw y1; replace g1 := kept_cell hSw g1; go_simp; try with_reducible rfl)
                      try simp only [Act.put, List.setIfInBounds_toArray, List.set_cons_zero, List.set_cons_succ]
                      refine x_take (i := 11) (oi := { dst := some 16, op := Op.assign (Operand.tmp 89), type := 30, pos := "poly.go:209", after := #[{ on := 9, ground := Ground.data }, { on := 10, ground := Ground.chain }, { on := 0, ground := Ground.phase }, { on := 1, ground := Ground.phase }, { on := 2, ground := Ground.phase }, { on := 3, ground := Ground.phase }, { on := 4, ground := Ground.phase }, { on := 5, ground := Ground.phase }, { on := 6, ground := Ground.phase }, { on := 7, ground := Ground.phase }, { on := 8, ground := Ground.phase }, { on := 9, ground := Ground.phase }, { on := 10, ground := Ground.phase }], guard := none }) (v := ?_) rfl (by kernel_rfl) (by kernel_rfl) (by kernel_rfl) (by kernel_rfl) (by kernel_rfl) (fun _ _ _ h => h) (Or.inl ⟨rfl, ?_⟩) (by assumption) ?_
                      rotate_left
                      · (intro w' hSw; replace y0 := kept_cell hSw y0; replace y1 := kept_cell hSw y1; replace g1 := kept_cell hSw g1; go_simp; try with_reducible rfl)
                      try simp only [Act.put, List.setIfInBounds_toArray, List.set_cons_zero, List.set_cons_succ]
                      refine x_done (by kernel_rfl) ?_ _
                      clear y0 y1 g1
                      go_wp2_with fail
                      go_roundg (ev - (dn + 1))
                      case rel => exact ⟨dn + 1, none, none, 0, hdn2, rfl, rfl, rfl, rfl, rp_none, Lib.hid (by rw [HST.out, HS2.out]), kept_trans K5 G6⟩
                      case measure => omega
                · have hde : dn = ev := by have := HJ.out; omega
                  have HN2 := Lib.hid (show tmTo P M m ls ⟨x, el⟩ (k + 1) = some t by rw [HNX.out, ← hde]; exact HPW.out)
                  have f1 : decide ((0 : Int) < (j : Int)) = false := decide_eq_false (by omega)
                  have f2 : decide (0 < j) = false := decide_eq_false hj0
                  clear hj0 hde
                  go_wp2_with fail
                  go_roundg (el.length - (k + 1))
                  case rel => exact ⟨k + 1, some t, A', c', _, _, by omega, rfl, rfl, rfl, rfl, rfl, by go_num, HSR.out, HN2, K5⟩
                  case measure => omega
        · obtain rfl : k = el.length := by omega
          have HTN := Lib.hid (show tmTo P M m ls (tmv p i) ls.length = s by rw [HT.out, ← HEN.out]; exact HTO.out)
          cases s with
          | none =>
            have HFIN := Lib.hid (show sbTo P M m ls p p.length = none by
              have h5 : sbTo P M m ls p (i + 1) = none := by
                show addS P M (sbTo P M m ls p i) (tmTo P M m ls (tmv p i) ls.length) = none
                rw [HSI.out, HTN.out]
                rfl
              have := sbTo_none h5 (p.length - (i + 1))
              rwa [show i + 1 + (p.length - (i + 1)) = p.length by omega] at this)
            rw [tmO_none, errO_none]
            go_wp2_with fail
            go_ret2
            exact ⟨none, 0, by rw [HFIN.out]; rfl, by rw [HFIN.out]; exact rp_none, kept_trans K0 K6⟩
          | some u =>
            change Hid (RP _ A15 u) at HSR
            have hva := HSB.out i hi acc HSI.out
            have hvu := HTM.out i hit ls.length (Nat.le_refl _) u HTN.out
            have hb := HS.out.addB i hit acc u HSI.out HTN.out
            have C1 := Lib.hid (CA.out wr acc u A12 c12 A15 c15 (HAC4.out.kept K5) HSR.out hva hvu hb)
            have y0 := (o5.kept K6).cell (j := 0) rfl; have y1 := (o5.kept K6).cell (j := 1) rfl
            have HN := Lib.hid (show sbTo P M m ls p (i + 1) = some (adT P M acc u) by
              show addS P M (sbTo P M m ls p i) (tmTo P M m ls (tmv p i) ls.length) = _
              rw [HSI.out, HTN.out]
              rfl)
            rw [tmO_some, errO_some]
            clear hva hvu hb
            go_wp2_with (go_at_call 30; ((with_reducible refine C1.out.mono ?_); rintro e w6 ⟨A6, c6, out, rfl, ho, hrp, k6⟩; have HO := Lib.hid ho; clear ho))
            go_roundg (p.length - (i + 1))
            case rel => exact ⟨i + 1, A6, c6, out, _, _, _, _, _, by omega, rfl, rfl, rfl, rfl, rfl, rfl, rfl, by go_num, hrp, Lib.hid (by rw [HN.out, HO.out]), kept_trans K6 k6⟩
            case measure => omega
    · obtain rfl : i = p.length := by omega
      go_wp2_with fail
      go_ret2
      exact ⟨A12, c12, by rw [HSI.out]; rfl, by rw [HSI.out]; exact HACC.out, kept_trans K0 K1⟩
end Go.Proofs.YtnjmpjdampdmmaaGreatDoor

/- The law's bound on the size of a substitution. -/
set_option linter.unusedVariables false
set_option linter.unusedSimpArgs false
namespace Go.Proofs.YtnjmpjdampdmmaaGreatDoor
open Go.RowKit Go.Shelf

def mx (l : List Tm) : Nat := max 1 l.length
/-- The product of the numbers of terms over the first k variables. -/
def nTo (ls : List (List Tm)) (t : Tm) : Nat → Nat
  | 0 => 1
  | k + 1 => nTo ls t k * mx (ls.getD k []) ^ (ia t.e k).toNat
def allTo (ls : List (List Tm)) (p : List Tm) : Nat → Nat
  | 0 => 0
  | i + 1 => allTo ls p i + min (nTo ls (tmv p i) ls.length) 10000
structure SmOk (ls : List (List Tm)) (p : List Tm) : Prop where
  le : allTo ls p p.length ≤ 3000
  e20 : ∀ i, i < p.length → ∀ k, k < ls.length → ia (tmv p i).e k ≤ 20
theorem min_step (a b : Nat) (hb : 1 ≤ b) : min (min a 10000 * b) 10000 = min (a * b) 10000 := by
  rcases Nat.lt_or_ge a 10000 with h | h
  · rw [show min a 10000 = a by omega]
  · rw [show min a 10000 = 10000 by omega]
    have h1 : 10000 * 1 ≤ 10000 * b := Nat.mul_le_mul_left _ hb
    have h2 : 10000 * b ≤ a * b := Nat.mul_le_mul_right _ h
    omega
set_option maxRecDepth 100000 in
set_option maxHeartbeats 1000000 in
theorem small41_any (q n : Int) (p : List Tm) (ls : List (List Tm)) (A B : Option Addr) (c d : Nat) (w : World) (hP : RP w A p) (hL : RPP w B ls) (hv : vld q n p = true) (hn : (ls.length : Int) = n) :
    Calls Tryz.prog 16 #[.slice A p.length c, .slice B ls.length d] w fun e w' => ∃ b, e = .returned (.bool b) ∧ Hid (b = true → SmOk ls p) ∧ Kept w w' := by
  obtain ⟨hnr, hpl, tl⟩ := vld_terms hv
  have hl80 : ls.length ≤ 80 := by omega
  have TL := Lib.hid (show ∀ k, k < p.length → (tmv p k).e.length = ls.length ∧ ∀ x ∈ (tmv p k).e, 0 ≤ x ∧ x ≤ 65535 from fun k hk => by have := tl k hk; exact ⟨by omega, this.2.2.2⟩)
  have HP := Lib.hid hP
  have HL := Lib.hid hL
  clear hP hL hv hn hnr tl
  go_enter Tryz.func16, Tryz.ntmps16
  go_wp2_with fail
  go_loopg [5, 6, 7, 8, 9, 10] p.length (fun G s5 s6 s7 s8 s9 s10 wr => ∃ (i a : Nat) (v7 v8 v9 v10 : Value), i ≤ p.length ∧ G = p.length - i ∧ s5 = .int .i64 a ∧ s6 = .int .i64 i ∧ s7 = v7 ∧ s8 = v8 ∧ s9 = v9 ∧ s10 = v10 ∧ a ≤ 3000 ∧ Hid (a = allTo ls p i) ∧ Hid (∀ i', i' < i → ∀ k, k < ls.length → ia (tmv p i').e k ≤ 20) ∧ Kept w wr)
  case atStart => exact ⟨0, 0, _, _, _, _, by omega, rfl, rfl, rfl, rfl, rfl, rfl, rfl, by omega, Lib.hid rfl, Lib.hid (fun i' h => by omega), kept_refl _⟩
  case round =>
    obtain ⟨i, a, v7, v8, v9, v10, hi, rfl, rfl, rfl, rfl, rfl, rfl, rfl, ha, HA, HE2, K0⟩ := hrel
    by_cases hit : i < p.length
    · obtain ⟨ba, off, E, ce, rfl, h0, h1, hE, hlE⟩ := HP.out i hit
      obtain ⟨t, ht⟩ : ∃ t, t = tmv p i := ⟨_, rfl⟩
      have HT := Lib.hid ht
      obtain ⟨el, hel⟩ : ∃ el, el = t.e := ⟨_, rfl⟩
      have HEL := Lib.hid hel
      have TK := Lib.hid (TL.out i hit)
      rw [← ht, ← hel] at TK h1 hE hlE
      have H1 := Lib.hid h1
      have HE := Lib.hid hE
      have hen := TK.out.1
      have HEN := Lib.hid hen
      have hel80 : el.length ≤ 80 := by omega
      clear ht hel h0 h1 hE hlE hen
      go_wp2_with fail
      go_loopg [7, 8, 9, 10] ls.length (fun G s7 s8 s9 s10 wx => ∃ (k nA many : Nat) (v10 : Value), k ≤ ls.length ∧ G = ls.length - k ∧ s7 = .int .i64 nA ∧ s8 = .int .i64 many ∧ s9 = .int .i64 k ∧ s10 = v10 ∧ nA ≤ 10000 ∧ many ≤ 20 * k ∧ Hid (nA = min (nTo ls t k) 10000) ∧ Hid (∀ k', k' < k → ia el k' ≤ 20) ∧ Kept w wx)
      case atStart => exact ⟨0, 1, 0, _, by omega, rfl, rfl, rfl, rfl, rfl, by omega, by omega, Lib.hid rfl, Lib.hid (fun k' h => by omega), K0⟩
      case round =>
        clear K0
        obtain ⟨k, nA, many, v10, hk, rfl, rfl, rfl, rfl, rfl, hnA, hmany, HN, HK2, K0⟩ := hrel
        have h1 := kept_cell K0 H1.out
        by_cases hkt : k < ls.length
        · have hke : k < el.length := by have := HEN.out; omega
          have f1 : decide ((k : Int) < (ls.length : Int)) = true := decide_eq_true (by omega)
          have f2 : decide (k < ls.length) = true := decide_eq_true hkt
          have f3 : decide ((k : Int) < (el.length : Int)) = true := decide_eq_true (by omega)
          have f4 : decide (k < el.length) = true := decide_eq_true hke
          obtain ⟨b1, o1, rfl, hd1⟩ := (HE.out.kept K0).int hke
          have x0 := hd1 k hke
          have X0 := Lib.hid ((HE.out).int hke)
          have bx := TK.out.2 (ia el k) (ia_mem hke)
          obtain ⟨ev, hev⟩ : ∃ ev : Nat, ia el k = (ev : Int) := ⟨(ia el k).toNat, by omega⟩
          have HEV := Lib.hid hev
          rw [hev] at x0 bx
          obtain ⟨bl, ol, El, cl, rfl, hcl, hRl, hlen⟩ := HL.out k hkt
          obtain ⟨l, hl⟩ : ∃ l, l = ls.getD k [] := ⟨_, rfl⟩
          rw [← hl] at hcl hlen
          have HCL := Lib.hid hcl
          have HLl := Lib.hid hl
          clear hev hl hd1 hcl hRl
          by_cases h20 : 20 < ev
          · have f5 : decide ((20 : Int) < (ev : Int)) = true := decide_eq_true (by omega)
            have f6 : decide (20 < ev) = true := decide_eq_true h20
            clear h20
            go_wp2_with fail
            go_ret
            exact ⟨false, rfl, Lib.hid (fun h => by cases h), K0⟩
          · have f5 : decide ((20 : Int) < (ev : Int)) = false := decide_eq_false (by omega)
            have f6 : decide (20 < ev) = false := decide_eq_false h20
            go_wp2_with fail
            clear x0 h1
            go_loopg [7, 8, 10] ev (fun G s7 s8 s10 wy => ∃ (j nB mB : Nat), j ≤ ev ∧ G = ev - j ∧ s7 = .int .i64 nB ∧ s8 = .int .i64 mB ∧ s10 = .int .i64 j ∧ nB ≤ 10000 ∧ mB ≤ 20 * k + j ∧ Hid (nB = min (nTo ls t k * mx l ^ j) 10000) ∧ Kept w wy)
            case atStart => exact ⟨0, nA, many, by omega, rfl, rfl, rfl, rfl, hnA, by omega, Lib.hid (by rw [HN.out]; simp), K0⟩
            case round =>
              clear K0
              obtain ⟨j, nB, mB, hj, rfl, rfl, rfl, rfl, hnB, hmB, HB, K0⟩ := hrel
              have h1 := kept_cell K0 H1.out
              obtain ⟨b2, o2, e2, hd2⟩ := (HE.out.kept K0).int hke
              have x0 := hd2 k hke
              cases e2
              rw [HEV.out] at x0
              have g1 := kept_cell K0 HCL.out
              clear hd2
              by_cases hjt : j < ev
              · have f7 : decide ((j : Int) < (ev : Int)) = true := decide_eq_true (by omega)
                have f8 : decide (j < ev) = true := decide_eq_true hjt
                have HW := Lib.hid (show wrap64 ((nB : Int) * max 1 (l.length : Int)) = ((nB * mx l : Nat) : Int) by
                  have e1 : max 1 (l.length : Int) = ((mx l : Nat) : Int) := by unfold mx; omega
                  have e2 : mx l ≤ 140737488355328 := by unfold mx; omega
                  have e3 : nB * mx l ≤ 10000 * 140737488355328 := Nat.mul_le_mul hnB e2
                  rw [e1, ← Int.natCast_mul]
                  exact IntWalk.wrap64_in _ (by omega))
                go_wp2_with fail
                go_roundg (ev - (j + 1))
                case rel => exact ⟨j + 1, min (nB * mx l) 10000, mB + 1, by omega, rfl, by rw [HW.out]; exact congrArg (Value.int .i64) (by omega), by go_num, by go_num, by omega, by omega, Lib.hid (by rw [HB.out, min_step _ _ (by unfold mx; omega), Nat.pow_succ, Nat.mul_assoc]), K0⟩
                case measure => omega
              · obtain rfl : j = ev := by omega
                have f7 : decide ((j : Int) < (j : Int)) = false := decide_eq_false (by omega)
                have f8 : decide (j < j) = false := decide_eq_false (by omega)
                have HN2 := Lib.hid (show nB = min (nTo ls t (k + 1)) 10000 by
                  rw [HB.out]
                  show _ = min (nTo ls t k * mx (ls.getD k []) ^ (ia t.e k).toNat) 10000
                  rw [← HEL.out, HEV.out, ← HLl.out]
                  rfl)
                have HK3 := Lib.hid (show ∀ k', k' < k + 1 → ia el k' ≤ 20 from fun k' h => by
                  rcases Nat.lt_succ_iff_lt_or_eq.1 h with h | rfl
                  · exact HK2.out k' h
                  · rw [HEV.out]; omega)
                go_wp2_with fail
                go_roundg (ls.length - (k + 1))
                case rel => exact ⟨k + 1, nB, mB, _, by omega, rfl, rfl, rfl, by go_num, rfl, hnB, by omega, HN2, HK3, K0⟩
                case measure => omega
        · obtain rfl : k = ls.length := by omega
          have f1 : decide ((ls.length : Int) < (ls.length : Int)) = false := decide_eq_false (by omega)
          have f2 : decide (ls.length < ls.length) = false := decide_eq_false (by omega)
          have HA2 := Lib.hid (show a + nA = allTo ls p (i + 1) by
            show _ = allTo ls p i + min (nTo ls (tmv p i) ls.length) 10000
            rw [← HA.out, ← HT.out, HN.out])
          have HE3 := Lib.hid (show ∀ i', i' < i + 1 → ∀ k, k < ls.length → ia (tmv p i').e k ≤ 20 from fun i' h k hk => by
            rcases Nat.lt_succ_iff_lt_or_eq.1 h with h | rfl
            · exact HE2.out i' h k hk
            · rw [← HT.out, ← HEL.out]; exact HK2.out k hk)
          by_cases h20 : 20 < many
          · have f5 : decide ((20 : Int) < (many : Int)) = true := decide_eq_true (by omega)
            have f6 : decide (20 < many) = true := decide_eq_true h20
            go_wp2_with fail
            go_ret
            exact ⟨false, rfl, Lib.hid (fun h => by cases h), K0⟩
          · have f5 : decide ((20 : Int) < (many : Int)) = false := decide_eq_false (by omega)
            have f6 : decide (20 < many) = false := decide_eq_false h20
            by_cases h3 : 3000 < a + nA
            · have f7 : decide ((3000 : Int) < (a : Int) + (nA : Int)) = true := decide_eq_true (by omega)
              have f8 : decide (3000 < a + nA) = true := decide_eq_true h3
              go_wp2_with fail
              go_ret
              exact ⟨false, rfl, Lib.hid (fun h => by cases h), K0⟩
            · have f7 : decide ((3000 : Int) < (a : Int) + (nA : Int)) = false := decide_eq_false (by omega)
              have f8 : decide (3000 < a + nA) = false := decide_eq_false h3
              go_wp2_with fail
              go_roundg (p.length - (i + 1))
              case rel => exact ⟨i + 1, a + nA, _, _, _, _, by omega, rfl, by go_num, by go_num, rfl, rfl, rfl, rfl, by omega, HA2, HE3, K0⟩
              case measure => omega
    · obtain rfl : i = p.length := by omega
      go_wp2_with fail
      go_ret
      exact ⟨true, rfl, Lib.hid (fun _ => ⟨by rw [← HA.out]; exact ha, HE2.out⟩), K0⟩
/-! ### What follows from it -/
theorem nTo_mono {ls : List (List Tm)} {t : Tm} : ∀ {k j : Nat}, k ≤ j → nTo ls t k ≤ nTo ls t j
  | k, 0, h => by rw [Nat.le_zero.1 h]; exact Nat.le_refl _
  | k, j + 1, h => by
    rcases Nat.eq_or_lt_of_le h with rfl | h
    · exact Nat.le_refl _
    · refine Nat.le_trans (nTo_mono (k := k) (j := j) (by omega)) ?_
      show _ ≤ nTo ls t j * mx (ls.getD j []) ^ _
      exact Nat.le_mul_of_pos_right _ (Nat.pow_pos (by unfold mx; omega))
theorem all_ge {ls : List (List Tm)} {p : List Tm} : ∀ {i j : Nat}, i < j → allTo ls p i + min (nTo ls (tmv p i) ls.length) 10000 ≤ allTo ls p j
  | i, 0, h => by omega
  | i, j + 1, h => by
    rcases Nat.lt_succ_iff_lt_or_eq.1 h with h | rfl
    · have := all_ge (ls := ls) (p := p) h
      show _ ≤ allTo ls p j + _
      omega
    · exact Nat.le_refl _
theorem SmOk.term {ls : List (List Tm)} {p : List Tm} (S : SmOk ls p) {i : Nat} (hi : i < p.length) : nTo ls (tmv p i) ls.length ≤ 3000 ∧ allTo ls p i + nTo ls (tmv p i) ls.length ≤ 3000 := by
  have h1 := all_ge (ls := ls) (p := p) hi
  have h2 := S.le
  omega
theorem step_len {P M : Int} {n : Int} {l : List Tm} {s : Option (List Tm)} {t : List Tm} (hs : ∀ u, s = some u → vld (ordF P M) n u = true) (hl : vld (ordF P M) n l = true) (h : stepS P M l s = some t) : ∃ u, s = some u ∧ t.length ≤ u.length * l.length := by
  cases s with
  | none => cases h
  | some u =>
    refine ⟨u, rfl, ?_⟩
    change (if noOv u l = true then some (prT P M u l) else none) = some t at h
    split at h
    · obtain rfl := Option.some.inj h
      rw [prT_prd (hs u rfl) hl]
      exact prd_len
    · cases h
end Go.Proofs.YtnjmpjdampdmmaaGreatDoor

/- What small gives, and the value of a substitution; plain. -/
set_option linter.unusedVariables false
set_option linter.unusedSimpArgs false
set_option linter.unusedSectionVars false
namespace Go.Proofs.YtnjmpjdampdmmaaGreatDoor
/-! ### The lengths -/
theorem pow_all {P M : Int} {m : Nat} {l : List Tm} {s : Option (List Tm)} {N e : Nat} (hs : Vl P M m s) (hl : vld (ordF P M) m l = true) (hN : ∀ u, s = some u → u.length ≤ N) (hb : N * mx l ^ e ≤ 20000) : ∀ j, j ≤ e → Vl P M m (powS P M l j s) ∧ ∀ u, powS P M l j s = some u → u.length ≤ N * mx l ^ j
  | 0, _ => ⟨hs, fun u h => by rw [Nat.pow_zero, Nat.mul_one]; exact hN u h⟩
  | j + 1, h => by
    obtain ⟨h1, h2⟩ := pow_all hs hl hN hb j (by omega)
    have hle : ∀ u, powS P M l j s = some u → u.length * l.length ≤ N * mx l ^ (j + 1) := fun u hu => by
      rw [Nat.pow_succ, ← Nat.mul_assoc]
      exact Nat.mul_le_mul (h2 u hu) (by unfold mx; omega)
    have hp : N * mx l ^ (j + 1) ≤ N * mx l ^ e := Nat.mul_le_mul_left _ (Nat.pow_le_pow_right (by unfold mx; omega) h)
    refine ⟨step_vl h1 hl (fun u hu => by have := hle u hu; omega), fun u hu => ?_⟩
    obtain ⟨v, hv, hlen⟩ := step_len (n := (m : Int)) h1 hl hu
    exact Nat.le_trans hlen (hle v hv)
theorem cst_len (m : Nat) (c : Int) : (cstT m c).length ≤ 1 := by unfold cstT; split <;> simp
theorem tm_all {P M : Int} {m : Nat} {ls : List (List Tm)} {t : Tm} (ok : okF P M = true) (hm : m ≤ 80) (hc : 0 ≤ t.c ∧ t.c < ordF P M) (hls : ∀ k, k < ls.length → vld (ordF P M) m (ls.getD k []) = true) (hb : nTo ls t ls.length ≤ 3000) : ∀ k, k ≤ ls.length → Vl P M m (tmTo P M m ls t k) ∧ ∀ u, tmTo P M m ls t k = some u → u.length ≤ nTo ls t k
  | 0, _ => ⟨fun u h => by obtain rfl := Option.some.inj h; exact cst_vld ok hm hc, fun u h => by obtain rfl := Option.some.inj h; exact cst_len _ _⟩
  | k + 1, h => by
    obtain ⟨h1, h2⟩ := tm_all ok hm hc hls hb k (by omega)
    have hk : nTo ls t (k + 1) ≤ nTo ls t ls.length := nTo_mono h
    exact pow_all h1 (hls k (by omega)) h2 (e := (ia t.e k).toNat) (by show nTo ls t (k + 1) ≤ 20000; omega) _ (Nat.le_refl _)
theorem sb_len {P M n : Int} {m : Nat} {ls : List (List Tm)} {p : List Tm} (S : SmOk ls p) (hv : vld (ordF P M) n p = true) (hm : m ≤ 80) (hls : ∀ k, k < ls.length → vld (ordF P M) m (ls.getD k []) = true) : ∀ i, i ≤ p.length → ∀ a, sbTo P M m ls p i = some a → a.length ≤ allTo ls p i
  | 0, _, a, h => by obtain rfl := Option.some.inj h; exact Nat.le_refl _
  | i + 1, hi, a, h => by
    change addS P M (sbTo P M m ls p i) (tmTo P M m ls (tmv p i) ls.length) = some a at h
    have hT := S.term (i := i) (by omega)
    have ht := (vld_terms hv).2.2 i (by omega)
    cases ha : sbTo P M m ls p i with
    | none => rw [ha] at h; cases h
    | some b =>
      cases hu : tmTo P M m ls (tmv p i) ls.length with
      | none => rw [ha, hu] at h; cases h
      | some u =>
        rw [ha, hu] at h
        obtain rfl := Option.some.inj h
        have h1 := sb_len S hv hm hls i (by omega) b ha
        have h2 := (tm_all (vld_ok hv) hm (t := tmv p i) ⟨by omega, ht.2.2.1⟩ hls hT.1 _ (Nat.le_refl _)).2 u hu
        have h3 := ad_len (P := P) (M := M) (p := b) (r := u)
        show _ ≤ allTo ls p i + min (nTo ls (tmv p i) ls.length) 10000
        omega
theorem sub_ok {P M n : Int} {m : Nat} {ls : List (List Tm)} {p : List Tm} (S : SmOk ls p) (hv : vld (ordF P M) n p = true) (hm : m ≤ 80) (hls : ∀ k, k < ls.length → vld (ordF P M) m (ls.getD k []) = true) : SubOk P M m ls p where
  mulB := fun i hi k hk j hj t ht => by
    have hT := S.term hi
    have hc := (vld_terms hv).2.2 i hi
    obtain ⟨h1, h2⟩ := tm_all (vld_ok hv) hm (t := tmv p i) ⟨by omega, hc.2.2.1⟩ hls hT.1 k (by omega)
    have hk2 : nTo ls (tmv p i) (k + 1) ≤ nTo ls (tmv p i) ls.length := nTo_mono hk
    have h3 := (pow_all h1 (hls k hk) h2 (e := (ia (tmv p i).e k).toNat) (by show nTo ls (tmv p i) (k + 1) ≤ 20000; omega) j (by omega)).2 t ht
    have h4 : t.length * (ls.getD k []).length ≤ nTo ls (tmv p i) k * mx (ls.getD k []) ^ (j + 1) := by
      rw [Nat.pow_succ, ← Nat.mul_assoc]
      exact Nat.mul_le_mul h3 (by unfold mx; omega)
    have h5 : nTo ls (tmv p i) k * mx (ls.getD k []) ^ (j + 1) ≤ nTo ls (tmv p i) (k + 1) := Nat.mul_le_mul_left _ (Nat.pow_le_pow_right (by unfold mx; omega) hj)
    omega
  addB := fun i hi a u ha hu => by
    have hT := S.term hi
    have hc := (vld_terms hv).2.2 i hi
    have h1 := sb_len S hv hm hls i (by omega) a ha
    have h2 := (tm_all (vld_ok hv) hm (t := tmv p i) ⟨by omega, hc.2.2.1⟩ hls hT.1 _ (Nat.le_refl _)).2 u hu
    omega
/-! ### The values -/
section
variable {P M : Int} (ok : okF P M = true)
include ok
theorem mon_mul {at' : List Int} (ha : ∀ x ∈ at', inF P M x) {c d : Int} (hc : inF P M c) (hd : inF P M d) {e f : List Int} (he : e.length = at'.length) (hf : f.length = at'.length) (re : ∀ x ∈ e, 0 ≤ x ∧ x ≤ 65535) (rf : ∀ x ∈ f, 0 ≤ x ∧ x ≤ 65535) : ∀ k, k ≤ at'.length → monTo P M (mulF P M c d) (addE e f) at' k = mulF P M (monTo P M c e at' k) (monTo P M d f at' k)
  | 0, _ => rfl
  | k + 1, h => by
    have ih := mon_mul ha hc hd he hf re rf k (by omega)
    have i1 := monTo_in ok hc ha (e := e) k (by omega)
    have i2 := monTo_in ok hd ha (e := f) k (by omega)
    have hx := ia_in ha (k := k) (by omega)
    have r1 := re (ia e k) (ia_mem (by omega))
    have r2 := rf (ia f k) (ia_mem (by omega))
    have p1 := pwF_in ok hx (ia e k).toNat
    have p2 := pwF_in ok hx (ia f k).toNat
    show mulF P M (monTo P M _ _ at' k) (pwF P M (ia at' k) (ia (addE e f) k).toNat) = mulF P M (mulF P M _ (pwF P M (ia at' k) (ia e k).toNat)) (mulF P M _ (pwF P M (ia at' k) (ia f k).toNat))
    rw [ih, ia_addE (by omega) (by omega), show (ia e k + ia f k).toNat = (ia e k).toNat + (ia f k).toNat by omega, pwF_eq ok hx (by omega), pwI_add ok hx, ← pwF_eq ok hx (by omega), ← pwF_eq ok hx (by omega)]
    generalize monTo P M c e at' k = a at *
    generalize monTo P M d f at' k = b at *
    generalize pwF P M (ia at' k) (ia e k).toNat = x at *
    generalize pwF P M (ia at' k) (ia f k).toNat = y at *
    rw [mA ok i1 i2 (mulF_in ok p1 p2), ← mA ok i2 p1 p2, mC ok i2 p1, mA ok p1 i2 p2, ← mA ok i1 p1 (mulF_in ok i2 p2)]
omit ok in
/-- Terms as they are in a valid polynomial. -/
def TmR (P M : Int) (n : Nat) (l : List Tm) : Prop := ∀ t ∈ l, inF P M t.c ∧ t.e.length = n ∧ ∀ x ∈ t.e, 0 ≤ x ∧ x ≤ 65535
omit ok in
theorem TmR.of {n : Nat} {l : List Tm} (hv : vld (ordF P M) n l = true) : TmR P M n l := fun t ht => by
  have := (vld_tms hv).mem ht
  exact ⟨⟨by omega, this.2.2.1⟩, this.1, this.2.2.2⟩
omit ok in
theorem TmR.ev {n : Nat} {l : List Tm} {at' : List Int} (h : TmR P M n l) (hn : at'.length = n) : EvOk P M at' l := fun t ht => ⟨(h t ht).1, by rw [(h t ht).2.1, hn]⟩
theorem monV_mul {at' : List Int} {n : Nat} (hn : at'.length = n) (ha : ∀ x ∈ at', inF P M x) {t u : Tm} (ht : inF P M t.c ∧ t.e.length = n ∧ ∀ x ∈ t.e, 0 ≤ x ∧ x ≤ 65535) (hu : inF P M u.c ∧ u.e.length = n ∧ ∀ x ∈ u.e, 0 ≤ x ∧ x ≤ 65535) : monV P M (mulTm (mulF P M) t u) at' = mulF P M (monV P M t at') (monV P M u at') := by
  unfold monV mulTm
  rw [addE_len ht.2.1 hu.2.1, ht.2.1, hu.2.1]
  exact mon_mul ok ha ht.1 hu.1 (by rw [ht.2.1, hn]) (by rw [hu.2.1, hn]) ht.2.2 hu.2.2 n (by omega)
theorem ev_row {at' : List Int} {n : Nat} (hn : at'.length = n) (ha : ∀ x ∈ at', inF P M x) {t : Tm} (ht : inF P M t.c ∧ t.e.length = n ∧ ∀ x ∈ t.e, 0 ≤ x ∧ x ≤ 65535) : ∀ {l : List Tm}, TmR P M n l → EvOk P M at' (l.map (mulTm (mulF P M) t)) ∧ evR P M at' (l.map (mulTm (mulF P M) t)) = mulF P M (monV P M t at') (evR P M at' l)
  | [], _ => ⟨fun x hx => by simp at hx, (m0r ok (monV_in ok ha ⟨ht.1, by rw [ht.2.1, hn]⟩)).symm⟩
  | u :: l, h => by
    have hu := h u (by simp)
    have hl : TmR P M n l := fun x hx => h x (by simp [hx])
    obtain ⟨h1, h2⟩ := ev_row hn ha ht hl
    have iT := monV_in ok ha (t := t) ⟨ht.1, by rw [ht.2.1, hn]⟩
    have iU := monV_in ok ha (t := u) ⟨hu.1, by rw [hu.2.1, hn]⟩
    have iL := evR_in ok ha (hl.ev hn)
    constructor
    · intro x hx
      rcases List.mem_cons.1 hx with rfl | hx
      · exact ⟨mulF_in ok ht.1 hu.1, by rw [show (mulTm (mulF P M) t u).e = addE t.e u.e from rfl, addE_len ht.2.1 hu.2.1, hn]⟩
      · exact h1 x hx
    · show addF P M (monV P M (mulTm (mulF P M) t u) at') (evR P M at' (l.map _)) = mulF P M _ (addF P M (monV P M u at') (evR P M at' l))
      rw [h2, monV_mul ok hn ha ht hu, mDl ok iU iL iT]
theorem ev_prodT {at' : List Int} {n : Nat} (hn : at'.length = n) (ha : ∀ x ∈ at', inF P M x) {l : List Tm} (hl : TmR P M n l) : ∀ {t : List Tm}, TmR P M n t → EvOk P M at' (prodT (mulF P M) t l) ∧ evR P M at' (prodT (mulF P M) t l) = mulF P M (evR P M at' t) (evR P M at' l)
  | [], _ => ⟨fun x hx => by simp [prodT] at hx, (m0 ok (evR_in ok ha (hl.ev hn))).symm⟩
  | u :: t, h => by
    have hu := h u (by simp)
    have ht : TmR P M n t := fun x hx => h x (by simp [hx])
    obtain ⟨h1, h2⟩ := ev_prodT hn ha hl ht
    obtain ⟨h3, h4⟩ := ev_row ok hn ha hu hl
    have e : prodT (mulF P M) (u :: t) l = l.map (mulTm (mulF P M) u) ++ prodT (mulF P M) t l := by simp [prodT]
    rw [e]
    refine ⟨fun x hx => (List.mem_append.1 hx).elim (h3 x) (h1 x), ?_⟩
    rw [evR_append ok ha h3 h1, h2, h4]
    exact (mD ok (monV_in ok ha ⟨hu.1, by rw [hu.2.1, hn]⟩) (evR_in ok ha (ht.ev hn)) (evR_in ok ha (hl.ev hn))).symm
theorem ev_prT {at' : List Int} {n : Nat} (hn : at'.length = n) (ha : ∀ x ∈ at', inF P M x) {t l : List Tm} (ht : TmR P M n t) (hl : TmR P M n l) : evR P M at' (prT P M t l) = mulF P M (evR P M at' t) (evR P M at' l) := by
  obtain ⟨h1, h2⟩ := ev_prodT ok hn ha hl ht
  rw [← h2]
  exact evR_singles ok ha h1
theorem ev_adT {at' : List Int} {n : Nat} (hn : at'.length = n) (ha : ∀ x ∈ at', inF P M x) {t l : List Tm} (ht : TmR P M n t) (hl : TmR P M n l) : evR P M at' (adT P M t l) = addF P M (evR P M at' t) (evR P M at' l) := by
  rw [← evR_append ok ha (ht.ev hn) (hl.ev hn)]
  exact evR_singles ok ha (fun x hx => (List.mem_append.1 hx).elim (ht.ev hn x) (hl.ev hn x))
theorem mon_cst {at' : List Int} (ha : ∀ x ∈ at', inF P M x) {c : Int} (hc : inF P M c) (m : Nat) : ∀ k, k ≤ at'.length → monTo P M c (List.replicate m 0) at' k = c
  | 0, _ => rfl
  | k + 1, h => by
    have hx := ia_in ha (k := k) (by omega)
    have e0 : ia (List.replicate m 0) k = 0 := by
      unfold ia
      rw [List.getD_eq_getElem?_getD, List.getElem?_replicate]
      split <;> rfl
    show mulF P M (monTo P M c _ at' k) (pwF P M (ia at' k) (ia (List.replicate m 0) k).toNat) = c
    rw [mon_cst ha hc m k (by omega), e0, pwF_eq ok hx (by decide)]
    exact m1r ok hc
theorem ev_cst {at' : List Int} {m : Nat} (hn : at'.length = m) (ha : ∀ x ∈ at', inF P M x) {c : Int} (hc : inF P M c) : evR P M at' (cstT m c) = c := by
  unfold cstT
  split
  · rename_i h; rw [h]; rfl
  · show addF P M (monTo P M c (List.replicate m 0) at' (List.replicate m (0 : Int)).length) 0 = c
    rw [mon_cst ok ha hc m _ (by simp [hn]), aZr ok hc]
theorem ev_pow {at' : List Int} {m : Nat} (hn : at'.length = m) (ha : ∀ x ∈ at', inF P M x) {l : List Tm} {s : Option (List Tm)} {N e : Nat} (hs : Vl P M m s) (hl : vld (ordF P M) m l = true) (hN : ∀ u, s = some u → u.length ≤ N) (hb : N * mx l ^ e ≤ 20000) {v : Int} (hv : inF P M v) (hsv : ∀ u, s = some u → evR P M at' u = v) : ∀ j, j ≤ e → ∀ u, powS P M l j s = some u → evR P M at' u = mulF P M v (pwI (mulF P M) (evR P M at' l) j)
  | 0, _, u, h => by
    rw [hsv u h]
    exact (m1r ok hv).symm
  | j + 1, h, u, hu => by
    have ih := ev_pow hn ha hs hl hN hb hv hsv j (by omega)
    obtain ⟨h1, _⟩ := pow_all hs hl hN hb j (by omega)
    change stepS P M l (powS P M l j s) = some u at hu
    cases hp : powS P M l j s with
    | none => rw [hp] at hu; cases hu
    | some t =>
      rw [hp] at hu
      change (if noOv t l = true then some (prT P M t l) else none) = some u at hu
      split at hu
      · obtain rfl := Option.some.inj hu
        have iL := evR_in ok ha ((TmR.of hl).ev hn)
        rw [ev_prT ok hn ha (TmR.of (h1 t hp)) (TmR.of hl), ih t hp, mA ok hv (pwI_in ok iL j) iL]
        rfl
      · cases hu
theorem ev_tm {at' : List Int} {m : Nat} (hn : at'.length = m) (ha : ∀ x ∈ at', inF P M x) {ls : List (List Tm)} {t : Tm} (hm : m ≤ 80) (hc : inF P M t.c) (hls : ∀ k, k < ls.length → vld (ordF P M) m (ls.getD k []) = true) (hb : nTo ls t ls.length ≤ 3000) (he : t.e.length = ls.length) (re : ∀ x ∈ t.e, 0 ≤ x ∧ x ≤ 65535) : ∀ k, k ≤ ls.length → ∀ u, tmTo P M m ls t k = some u → evR P M at' u = monTo P M t.c t.e (ls.map fun l => evR P M at' l) k
  | 0, _, u, h => by obtain rfl := Option.some.inj h; exact ev_cst ok hn ha hc
  | k + 1, h, u, hu => by
    obtain ⟨h1, h2⟩ := tm_all ok hm hc hls hb k (by omega)
    have hk : nTo ls t (k + 1) ≤ nTo ls t ls.length := nTo_mono h
    have hvals : ∀ x ∈ ls.map (fun l => evR P M at' l), inF P M x := fun x hx => by
      obtain ⟨l, hl, rfl⟩ := List.mem_map.1 hx
      obtain ⟨j, hj, rfl⟩ := List.getElem_of_mem hl
      have := hls j hj
      rw [List.getD_eq_getElem?_getD, List.getElem?_eq_getElem hj, Option.getD_some] at this
      exact evR_in ok ha ((TmR.of this).ev hn)
    have hmon := monTo_in ok hc hvals (e := t.e) k (by simp; omega)
    have ei : ia (ls.map fun l => evR P M at' l) k = evR P M at' (ls.getD k []) := by
      unfold ia
      rw [List.getD_eq_getElem?_getD, List.getElem?_map, List.getD_eq_getElem?_getD, List.getElem?_eq_getElem (by omega)]
      rfl
    have rk := re (ia t.e k) (ia_mem (by omega))
    have iv := evR_in ok ha ((TmR.of (hls k (by omega))).ev hn)
    have := ev_pow ok hn ha h1 (hls k (by omega)) h2 (e := (ia t.e k).toNat) (by show nTo ls t (k + 1) ≤ 20000; omega) hmon (fun u hu => ev_tm hn ha hm hc hls hb he re k (by omega) u hu) _ (Nat.le_refl _) u hu
    rw [this]
    show _ = mulF P M (monTo P M t.c t.e _ k) (pwF P M (ia _ k) (ia t.e k).toNat)
    rw [ei, pwF_eq ok iv (by omega)]
theorem ev_sb {at' : List Int} {m : Nat} (hn : at'.length = m) (ha : ∀ x ∈ at', inF P M x) {ls : List (List Tm)} {p : List Tm} (S : SmOk ls p) (hv : vld (ordF P M) (ls.length : Int) p = true) (hm : m ≤ 80) (hls : ∀ k, k < ls.length → vld (ordF P M) m (ls.getD k []) = true) : ∀ i, i ≤ p.length → ∀ a, sbTo P M m ls p i = some a → evR P M at' a = evTo P M p (ls.map fun l => evR P M at' l) i
  | 0, _, a, h => by obtain rfl := Option.some.inj h; rfl
  | i + 1, hi, a, h => by
    have SO := sub_ok S hv hm hls
    have ih := ev_sb hn ha S hv hm hls i (by omega)
    have hT := S.term (i := i) (by omega)
    have ht := (vld_terms hv).2.2 i (by omega)
    have hc : inF P M (tmv p i).c := ⟨by omega, ht.2.2.1⟩
    change addS P M (sbTo P M m ls p i) (tmTo P M m ls (tmv p i) ls.length) = some a at h
    cases hb : sbTo P M m ls p i with
    | none => rw [hb] at h; cases h
    | some b =>
      cases hu : tmTo P M m ls (tmv p i) ls.length with
      | none => rw [hb, hu] at h; cases h
      | some u =>
        rw [hb, hu] at h
        obtain rfl := Option.some.inj h
        have v1 := sb_vl SO hv hm hls i (by omega) b hb
        have v2 := tm_vl SO hv hm hls (i := i) (by omega) ls.length (Nat.le_refl _) u hu
        have hel : (tmv p i).e.length = ls.length := by omega
        rw [ev_adT ok hn ha (TmR.of v1) (TmR.of v2), ih b hb, ev_tm ok hn ha hm hc hls hT.1 hel ht.2.2.2 _ (Nat.le_refl _) u hu]
        show _ = addF P M _ (monTo P M (tmv p i).c (tmv p i).e _ (tmv p i).e.length)
        rw [hel]
/-- The value of a substitution is the value at the values. -/
theorem sub_val {at' : List Int} {m : Nat} (hn : at'.length = m) (ha : ∀ x ∈ at', inF P M x) {ls : List (List Tm)} {p : List Tm} (S : SmOk ls p) (hv : vld (ordF P M) (ls.length : Int) p = true) (hm : m ≤ 80) (hls : ∀ k, k < ls.length → vld (ordF P M) m (ls.getD k []) = true) {T : List Tm} (hT : sbTo P M m ls p p.length = some T) : vld (ordF P M) m T = true ∧ evP P M T at' = evP P M p (ls.map fun l => evP P M l at') := by
  have SO := sub_ok S hv hm hls
  have v1 := sb_vl SO hv hm hls p.length (Nat.le_refl _) T hT
  refine ⟨v1, ?_⟩
  have e : (ls.map fun l => evP P M l at') = ls.map fun l => evR P M at' l := List.map_congr_left fun l hl => by
    obtain ⟨j, hj, rfl⟩ := List.getElem_of_mem hl
    have := hls j hj
    rw [List.getD_eq_getElem?_getD, List.getElem?_eq_getElem hj, Option.getD_some] at this
    exact evP_R ok ha ((TmR.of this).ev hn)
  rw [e, evP_R ok ha ((TmR.of v1).ev hn), ev_sb ok hn ha S hv hm hls p.length (Nat.le_refl _) T hT]
  rfl
end
end Go.Proofs.YtnjmpjdampdmmaaGreatDoor


set_option linter.unusedVariables false
set_option linter.unusedSimpArgs false
namespace Go.Proofs.YtnjmpjdampdmmaaGreatDoor
open Go.RowKit Go.Shelf

/-- What Substitute asks of the form of its arguments. -/
def formB (q n m : Int) (p : List Tm) (ls : List (List Tm)) : Bool := (decide (0 ≤ m) && decide (m ≤ 80) && vld q n p) && !(ls.any fun l => !vld q m l)
set_option maxRecDepth 100000 in
set_option maxHeartbeats 1000000 in
theorem subst17_arg (P M n m : Int) (p : List Tm) (ls : List (List Tm)) (A B : Option Addr) (c d : Nat) (w : World) (hP : RP w A p) (hpl : p.length ≤ 140737488355328) (hL : RPP w B ls) (hll : ls.length ≤ 140737488355328) (hF : formB (ordF P M) n m p ls = true) (hn : (ls.length : Int) ≠ n) :
    Calls Tryz.prog 17 #[fV P M, .int .i64 n, .slice A p.length c, .int .i64 m, .slice B ls.length d] w (NilErr 2 w) := by
  unfold formB at hF
  simp only [Bool.and_eq_true, decide_eq_true_eq, Bool.not_eq_true'] at hF
  obtain ⟨⟨⟨h0, h80⟩, hv⟩, hany⟩ := hF
  have C25 := Lib.hid fun w' (k : Kept w w') => valid25_any P M n p A c w' (hP.kept k) hpl
  rw [hv] at C25
  have C72 := Lib.hid fun w' (k : Kept w w') g5 g8 h0 h1 h2 => contains72_any P M m g5 g8 ls B d w' h0 h1 h2 (hL.kept k) hll
  rw [hany] at C72
  have d1 : decide (m < 0) = false := decide_eq_false (by omega)
  have d2 : decide (80 < m) = false := decide_eq_false (by omega)
  have d3 : ((ls.length : Int) != n) = true := by simpa using hn
  unfold fV at *
  have K0 := kept_alloc (kept_alloc (kept_refl w) (.cells #[.int .i64 P, .int .i64 M] 23)) (.cells #[.int .i64 m] 3)
  have o5 := (Own.new w 23 [.int .i64 P, .int .i64 M]).alloc (.cells #[.int .i64 m] 3)
  have o8 := Own.new (w.alloc (.cells #[.int .i64 P, .int .i64 M] 23)) 3 [.int .i64 m]
  rw [show (w.alloc (.cells #[.int .i64 P, .int .i64 M] 23)).heap.size = w.heap.size + 1 by simp] at o8
  obtain ⟨w0, hw0⟩ : ∃ w0, w0 = (w.alloc (.cells #[.int .i64 P, .int .i64 M] 23)).alloc (.cells #[.int .i64 m] 3) := ⟨_, rfl⟩
  rw [← hw0] at K0 o5
  have o8' : Own w0 (w.heap.size + 1) 3 [.int .i64 m] := by rw [hw0]; exact o8
  have HW0 := Lib.hid hw0
  clear o8 hw0 hP hL hv hn hany h0 h80
  go_enter Tryz.func17, Tryz.ntmps17
  go_upto_region 1 with fail
  rw [← HW0.out]
  clear HW0
  have y0 := o5.cell (j := 0) rfl; have y1 := o5.cell (j := 1) rfl; have z0 := o8'.cell (j := 0) rfl
  go_wp2_with (first
    | (go_at_call 29; ((with_reducible refine (C25.out _ K0).mono ?_); rintro e w1 ⟨rfl, k1⟩; replace K0 := kept_trans K0 k1; replace y0 := kept_cell k1 y0; replace y1 := kept_cell k1 y1; replace z0 := kept_cell k1 z0))
    | (go_at_call 38; ((with_reducible refine (C72.out _ K0 _ _ y0 y1 z0).mono ?_); rintro e w2 ⟨rfl, k2⟩; replace K0 := kept_trans K0 k2)))
  go_ret2
  exact ⟨rfl, K0⟩
set_option maxRecDepth 100000 in
set_option maxHeartbeats 1000000 in
theorem subst17_form (P M n m : Int) (p : List Tm) (ls : List (List Tm)) (A B : Option Addr) (c d : Nat) (w : World) (hP : RP w A p) (hpl : p.length ≤ 140737488355328) (hL : RPP w B ls) (hll : ls.length ≤ 140737488355328) (hF : formB (ordF P M) n m p ls = false) :
    Calls Tryz.prog 17 #[fV P M, .int .i64 n, .slice A p.length c, .int .i64 m, .slice B ls.length d] w (NilErr 1 w) := by
  unfold formB at hF
  have C25 := Lib.hid fun w' (k : Kept w w') => valid25_any P M n p A c w' (hP.kept k) hpl
  have C72 := Lib.hid fun w' (k : Kept w w') g5 g8 h0 h1 h2 => contains72_any P M m g5 g8 ls B d w' h0 h1 h2 (hL.kept k) hll
  obtain ⟨V, hV⟩ : ∃ V, V = vld (ordF P M) n p := ⟨_, rfl⟩
  obtain ⟨Y, hY⟩ : ∃ Y, Y = ls.any fun l => !vld (ordF P M) m l := ⟨_, rfl⟩
  rw [← hV] at C25 hF
  rw [← hY] at C72 hF
  unfold fV at *
  have K0 := kept_alloc (kept_alloc (kept_refl w) (.cells #[.int .i64 P, .int .i64 M] 23)) (.cells #[.int .i64 m] 3)
  have o5 := (Own.new w 23 [.int .i64 P, .int .i64 M]).alloc (.cells #[.int .i64 m] 3)
  have o8 := Own.new (w.alloc (.cells #[.int .i64 P, .int .i64 M] 23)) 3 [.int .i64 m]
  rw [show (w.alloc (.cells #[.int .i64 P, .int .i64 M] 23)).heap.size = w.heap.size + 1 by simp] at o8
  obtain ⟨w0, hw0⟩ : ∃ w0, w0 = (w.alloc (.cells #[.int .i64 P, .int .i64 M] 23)).alloc (.cells #[.int .i64 m] 3) := ⟨_, rfl⟩
  rw [← hw0] at K0 o5
  have o8' : Own w0 (w.heap.size + 1) 3 [.int .i64 m] := by rw [hw0]; exact o8
  have HW0 := Lib.hid hw0
  clear o8 hw0 hP hL hV hY
  by_cases d1 : m < 0
  · have d1 : decide (m < 0) = true := decide_eq_true d1
    clear hF
    cases V <;>
    · go_enter Tryz.func17, Tryz.ntmps17
      go_upto_region 1 with fail
      rw [← HW0.out]
      have y0 := o5.cell (j := 0) rfl; have y1 := o5.cell (j := 1) rfl; have z0 := o8'.cell (j := 0) rfl
      go_wp2_with (go_at_call 29; ((with_reducible refine (C25.out _ K0).mono ?_); rintro e w1 ⟨rfl, k1⟩; replace K0 := kept_trans K0 k1; replace y0 := kept_cell k1 y0; replace y1 := kept_cell k1 y1; replace z0 := kept_cell k1 z0))
      go_ret2
      exact ⟨rfl, K0⟩
  · have d1' : decide (m < 0) = false := decide_eq_false d1
    by_cases d2 : 80 < m
    · have d2' : decide (80 < m) = true := decide_eq_true d2
      clear hF d1
      cases V <;>
      · go_enter Tryz.func17, Tryz.ntmps17
        go_upto_region 1 with fail
        rw [← HW0.out]
        have y0 := o5.cell (j := 0) rfl; have y1 := o5.cell (j := 1) rfl; have z0 := o8'.cell (j := 0) rfl
        go_wp2_with (go_at_call 29; ((with_reducible refine (C25.out _ K0).mono ?_); rintro e w1 ⟨rfl, k1⟩; replace K0 := kept_trans K0 k1; replace y0 := kept_cell k1 y0; replace y1 := kept_cell k1 y1; replace z0 := kept_cell k1 z0))
        go_ret2
        exact ⟨rfl, K0⟩
    · have d2' : decide (80 < m) = false := decide_eq_false d2
      rw [decide_eq_true (by omega : 0 ≤ m), decide_eq_true (by omega : m ≤ 80), Bool.true_and, Bool.true_and] at hF
      cases V with
      | false =>
        clear hF d1 d2
        go_enter Tryz.func17, Tryz.ntmps17
        go_upto_region 1 with fail
        rw [← HW0.out]
        have y0 := o5.cell (j := 0) rfl; have y1 := o5.cell (j := 1) rfl; have z0 := o8'.cell (j := 0) rfl
        go_wp2_with (go_at_call 29; ((with_reducible refine (C25.out _ K0).mono ?_); rintro e w1 ⟨rfl, k1⟩; replace K0 := kept_trans K0 k1; replace y0 := kept_cell k1 y0; replace y1 := kept_cell k1 y1; replace z0 := kept_cell k1 z0))
        go_ret2
        exact ⟨rfl, K0⟩
      | true =>
        obtain rfl : Y = true := by simpa using hF
        clear hF d1 d2
        go_enter Tryz.func17, Tryz.ntmps17
        go_upto_region 1 with fail
        rw [← HW0.out]
        have y0 := o5.cell (j := 0) rfl; have y1 := o5.cell (j := 1) rfl; have z0 := o8'.cell (j := 0) rfl
        go_wp2_with (first
          | (go_at_call 29; ((with_reducible refine (C25.out _ K0).mono ?_); rintro e w1 ⟨rfl, k1⟩; replace K0 := kept_trans K0 k1; replace y0 := kept_cell k1 y0; replace y1 := kept_cell k1 y1; replace z0 := kept_cell k1 z0))
          | (go_at_call 38; ((with_reducible refine (C72.out _ K0 _ _ y0 y1 z0).mono ?_); rintro e w2 ⟨rfl, k2⟩; replace K0 := kept_trans K0 k2)))
        go_ret2
        exact ⟨rfl, K0⟩
set_option maxRecDepth 100000 in
set_option maxHeartbeats 1000000 in
/-- Few answers, whatever the number of polynomials. -/
theorem few6_some (most : Int) (ps : List (List Tm)) (A : Option Addr) (c : Nat) (w : World) (hA : RPP w A ps) (hl : ps.length ≤ 140737488355328) :
    Calls Tryz.prog 6 #[.int .i64 most, .slice A ps.length c] w fun e w' => ∃ b, e = .returned (.bool b) ∧ w = w' := by
  have HA := Lib.hid hA
  clear hA
  go_enter Tryz.func6, Tryz.ntmps6
  go_wp2_with fail
  go_loopg [5, 6, 7] ps.length (fun g s5 s6 s7 wr => ∃ (i : Nat) (n : Int) (v : Value), i ≤ ps.length ∧ g = ps.length - i ∧ s5 = .int .i64 n ∧ s6 = .int .i64 i ∧ s7 = v ∧ w = wr)
  case atStart => exact ⟨0, 0, _, by omega, rfl, rfl, rfl, rfl, rfl⟩
  case round =>
    obtain ⟨i, n, v, hi, rfl, rfl, rfl, rfl, rfl⟩ := hrel
    by_cases hlt : i < ps.length
    · obtain ⟨b, off, E, c1, rfl, x0, hE, l1⟩ := HA.out i hlt
      obtain ⟨p, hp⟩ : ∃ p, p = ps.getD i [] := ⟨_, rfl⟩
      rw [← hp] at x0 hE l1
      have HE := Lib.hid hE
      clear hp hE
      go_wp2_with fail
      go_loopg [5, 7] p.length (fun g s5 s7 wr => ∃ (k : Nat) (m : Int), k ≤ p.length ∧ g = p.length - k ∧ s5 = .int .i64 m ∧ s7 = .int .i64 k ∧ w = wr)
      case atStart => exact ⟨0, _, by omega, rfl, rfl, rfl, rfl⟩
      case round =>
        obtain ⟨k, m, hk, rfl, rfl, rfl, rfl⟩ := hrel
        by_cases hk2 : k < p.length
        · obtain ⟨b2, o2, E2, c2, rfl, y0, y1, hE2, l2⟩ := HE.out k hk2
          clear hE2 y0
          by_cases hmm : m ≤ most
          · obtain ⟨el, hel⟩ : ∃ el, el = (tmv p k).e.length := ⟨_, rfl⟩
            rw [← hel] at y1 l2
            clear hel
            go_wp2_with fail
            go_roundg (p.length - (k + 1))
            case rel => exact ⟨k + 1, _, by omega, rfl, rfl, by go_num, rfl⟩
            case measure => omega
          · have d1 : decide (m ≤ most) = false := decide_eq_false hmm
            go_wp2_with fail
            go_roundg (ps.length - (i + 1))
            case rel => exact ⟨i + 1, m, _, by omega, rfl, rfl, by go_num, rfl, rfl⟩
            case measure => omega
        · obtain rfl : k = p.length := by omega
          go_wp2_with fail
          go_roundg (ps.length - (i + 1))
          case rel => exact ⟨i + 1, m, _, by omega, rfl, rfl, by go_num, rfl, rfl⟩
          case measure => omega
    · obtain rfl : i = ps.length := by omega
      go_wp2_with fail
      go_ret
      exact ⟨_, rfl, rfl⟩
end Go.Proofs.YtnjmpjdampdmmaaGreatDoor
