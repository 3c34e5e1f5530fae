/- Trees of formulas: what the program's function literal puts into the tree, and that the tree has the formula's value. -/
import Derived.Test.YtikfeemmjfoffaaDoorY6
import Derived.Test.YtikfeemmjfoffaaDoorP4
set_option linter.unusedVariables false
set_option linter.unusedSimpArgs false
namespace Go.Proofs.YtikfeemmjfoffaaDoor

/-- Node m lies below node n, or is it. -/
def Under (n m : Nat) : Prop := ∃ e, (m + 1) / 2 ^ e = n + 1
theorem under_refl (n : Nat) : Under n n := ⟨0, by simp⟩
theorem under_left {n m : Nat} (h : Under (2 * n + 1) m) : Under n m := by
  obtain ⟨e, h⟩ := h
  exact ⟨e + 1, by rw [Nat.pow_succ, ← Nat.div_div_eq_div_mul, h]; omega⟩
theorem under_right {n m : Nat} (h : Under (2 * n + 2) m) : Under n m := by
  obtain ⟨e, h⟩ := h
  exact ⟨e + 1, by rw [Nat.pow_succ, ← Nat.div_div_eq_div_mul, h]; omega⟩
theorem under_le {n m : Nat} (h : Under n m) : n ≤ m := by
  obtain ⟨e, h⟩ := h
  have := Nat.div_le_self (m + 1) (2 ^ e)
  omega
theorem under_apart {n m : Nat} (h : Under (2 * n + 1) m) (k : Under (2 * n + 2) m) : False := by
  obtain ⟨e, h⟩ := h
  obtain ⟨g, k⟩ := k
  rcases Nat.le_total e g with hl | hl
  · obtain ⟨d, rfl⟩ := Nat.exists_eq_add_of_le hl
    rw [Nat.pow_add, ← Nat.div_div_eq_div_mul, h] at k
    cases d with
    | zero => simp at k
    | succ d =>
      have h2 : (2 * n + 1 + 1) / 2 ^ (d + 1) ≤ (2 * n + 2) / 2 := by
        rw [Nat.pow_succ', ← Nat.div_div_eq_div_mul]; exact Nat.div_le_self _ _
      omega
  · obtain ⟨d, rfl⟩ := Nat.exists_eq_add_of_le hl
    rw [Nat.pow_add, ← Nat.div_div_eq_div_mul, k] at h
    cases d with
    | zero => simp at h
    | succ d =>
      have h2 : (2 * n + 2 + 1) / 2 ^ (d + 1) ≤ (2 * n + 2 + 1) / 2 := by
        rw [Nat.pow_succ', ← Nat.div_div_eq_div_mul]; exact Nat.div_le_self _ _
      omega

/-- A tree's leaves and tables. -/
abbrev LT := List Int × List (List Int)
def mkT (h : Int) (s : LT) : Tr := ⟨h, 1, s.1, s.2⟩
/-- The table of a kind. -/
def tabK (k : Int) : List Int := if k = 2 then [1, 1, 0, 0] else if k = 3 then [0, 0, 0, 1] else if k = 4 then [0, 1, 1, 1] else [0, 1, 1, 0]
def one1 (x : Nat → Bool) (f : Fm) : Bool := (f.k == 1 && f.n == 1) || (f.k == 0 && x f.n.toNat)
/-- What the function literal does to the leaves and the tables. -/
def putN (x : Nat → Bool) (I : Nat) : Nat → Fm → Nat → LT → LT
  | 0, _, _, s => s
  | k + 1, f, n, s =>
    if I ≤ n then (if one1 x f = true then (s.1.set (n - I) 1, s.2) else s)
    else if f.l.length = 0 then putN x I k f (2 * n + 1) s
    else (List.range f.l.length).foldl (fun s i => putN x I k (kd f.l i) (2 * n + 1 + i) s) (s.1, s.2.set n (tabK f.k))
/-- Behind the first j kids. -/
def putK (x : Nat → Bool) (I k : Nat) (f : Fm) (n j : Nat) (s : LT) : LT :=
  (List.range j).foldl (fun s i => putN x I k (kd f.l i) (2 * n + 1 + i) s) (s.1, s.2.set n (tabK f.k))
theorem putK_zero (x : Nat → Bool) (I k : Nat) (f : Fm) (n : Nat) (s : LT) : putK x I k f n 0 s = (s.1, s.2.set n (tabK f.k)) := rfl
theorem putK_succ (x : Nat → Bool) (I k : Nat) (f : Fm) (n j : Nat) (s : LT) : putK x I k f n (j + 1) s = putN x I k (kd f.l j) (2 * n + 1 + j) (putK x I k f n j s) := by
  unfold putK; rw [List.range_succ, List.foldl_append]; rfl
theorem putN_leaf {x : Nat → Bool} {I k : Nat} {f : Fm} {n : Nat} {s : LT} (h : I ≤ n) : putN x I (k + 1) f n s = if one1 x f = true then (s.1.set (n - I) 1, s.2) else s := by rw [putN, if_pos h]
theorem putN_down {x : Nat → Bool} {I k : Nat} {f : Fm} {n : Nat} {s : LT} (h : ¬ I ≤ n) (hl : f.l.length = 0) : putN x I (k + 1) f n s = putN x I k f (2 * n + 1) s := by rw [putN, if_neg h, if_pos hl]
theorem putN_node {x : Nat → Bool} {I k : Nat} {f : Fm} {n : Nat} {s : LT} (h : ¬ I ≤ n) (hl : f.l.length ≠ 0) : putN x I (k + 1) f n s = putK x I k f n f.l.length s := by rw [putN, if_neg h, if_neg hl]; rfl

/-- All numbers are bits, and all tables have four. -/
structure Bits (s : LT) : Prop where
  lv : ∀ v ∈ s.1, 0 ≤ v ∧ v < 2
  tw : ∀ l ∈ s.2, l.length = 4
  tv : ∀ l ∈ s.2, ∀ v ∈ l, 0 ≤ v ∧ v < 2
/-- What is not below n is as it was. -/
structure Away (I n : Nat) (s s' : LT) : Prop where
  l1 : s'.1.length = s.1.length
  l2 : s'.2.length = s.2.length
  tb : ∀ m, ¬ Under n m → s'.2.getD m [] = s.2.getD m []
  lv : ∀ m, ¬ Under n m → I ≤ m → s'.1.getD (m - I) 0 = s.1.getD (m - I) 0
theorem away_refl (I n : Nat) (s : LT) : Away I n s s := ⟨rfl, rfl, fun _ _ => rfl, fun _ _ _ => rfl⟩
theorem Away.trans {I n : Nat} {a b c : LT} (h : Away I n a b) (k : Away I n b c) : Away I n a c :=
  ⟨k.l1.trans h.l1, k.l2.trans h.l2, fun m hm => (k.tb m hm).trans (h.tb m hm), fun m hm hi => (k.lv m hm hi).trans (h.lv m hm hi)⟩
theorem Away.left {I n : Nat} {a b : LT} (h : Away I (2 * n + 1) a b) : Away I n a b :=
  ⟨h.l1, h.l2, fun m hm => h.tb m (fun u => hm (under_left u)), fun m hm hi => h.lv m (fun u => hm (under_left u)) hi⟩
theorem Away.right {I n : Nat} {a b : LT} (h : Away I (2 * n + 2) a b) : Away I n a b :=
  ⟨h.l1, h.l2, fun m hm => h.tb m (fun u => hm (under_right u)), fun m hm hi => h.lv m (fun u => hm (under_right u)) hi⟩
/-- Nothing has been put below n. -/
structure Fresh (I n : Nat) (s : LT) : Prop where
  tb : ∀ m, Under n m → m < I → s.2.getD m [] = [0, 0, 1, 1]
  lv : ∀ m, Under n m → I ≤ m → s.1.getD (m - I) 0 = 0
theorem Fresh.left {I n : Nat} {s : LT} (h : Fresh I n s) : Fresh I (2 * n + 1) s := ⟨fun m u hm => h.tb m (under_left u) hm, fun m u hm => h.lv m (under_left u) hm⟩
theorem Fresh.right {I n : Nat} {s : LT} (h : Fresh I n s) : Fresh I (2 * n + 2) s := ⟨fun m u hm => h.tb m (under_right u) hm, fun m u hm => h.lv m (under_right u) hm⟩
theorem Fresh.away {I n k : Nat} {s s' : LT} (h : Fresh I n s) (a : Away I k s s') (hk : ∀ m, Under n m → ¬ Under k m) : Fresh I n s' :=
  ⟨fun m u hm => (a.tb m (hk m u)).trans (h.tb m u hm), fun m u hm => (a.lv m (hk m u) hm).trans (h.lv m u hm)⟩

theorem val_away {h : Int} {n k : Nat} {s s' : LT} (a : Away s.2.length k s s') : ∀ (N n : Nat), 2 * s.2.length - n ≤ N → (∀ m, Under n m → ¬ Under k m) → valW (mkT h s') n = valW (mkT h s) n := by
  intro N
  induction N with
  | zero =>
    intro n hN hk
    by_cases hn : n < s.2.length
    · omega
    · rw [valW_leaf (by simp only [mkT]; rw [a.l2]; omega), valW_leaf (by simp only [mkT]; omega)]
      simp only [mkT]
      rw [a.l2]
      exact a.lv n (hk n (under_refl n)) (by omega)
  | succ N ih =>
    intro n hN hk
    by_cases hn : n < s.2.length
    · have e1 := ih (2 * n + 1) (by omega) (fun m u => hk m (under_left u))
      have e2 := ih (2 * n + 2) (by omega) (fun m u => hk m (under_right u))
      rw [valW_node (t := mkT h s') (by simp only [mkT]; rw [a.l2]; exact hn), valW_node (t := mkT h s) (by simp only [mkT]; exact hn), e1, e2]
      simp only [mkT]
      rw [a.tb n (hk n (under_refl n))]
    · rw [valW_leaf (by simp only [mkT]; rw [a.l2]; omega), valW_leaf (by simp only [mkT]; omega)]
      simp only [mkT]
      rw [a.l2]
      exact a.lv n (hk n (under_refl n)) (by omega)
theorem val_fresh {h : Int} {s : LT} : ∀ (N n : Nat), 2 * s.2.length - n ≤ N → Fresh s.2.length n s → valW (mkT h s) n = 0 := by
  intro N
  induction N with
  | zero =>
    intro n hN f
    by_cases hn : n < s.2.length
    · omega
    · rw [valW_leaf (by simp only [mkT]; omega)]
      exact f.lv n (under_refl n) (by omega)
  | succ N ih =>
    intro n hN f
    by_cases hn : n < s.2.length
    · have e1 := ih (2 * n + 1) (by omega) f.left
      have e2 := ih (2 * n + 2) (by omega) f.right
      rw [valW_node (t := mkT h s) (by simp only [mkT]; exact hn), e1, e2]
      simp only [mkT]
      rw [f.tb n (under_refl n) hn]
      rfl
    · rw [valW_leaf (by simp only [mkT]; omega)]
      exact f.lv n (under_refl n) (by omega)

/-- Node n has e levels below it. -/
def Lev (H e n : Nat) : Prop := e ≤ H ∧ 2 ^ (H - e) ≤ n + 1 ∧ n + 1 < 2 ^ (H - e + 1)
theorem lev_root (H : Nat) : Lev H H 0 := ⟨Nat.le_refl _, by simp, by simp⟩
theorem lev_zero {H e n : Nat} (h : Lev H e n) : 2 ^ H - 1 ≤ n ↔ e = 0 := by
  obtain ⟨h1, h2, h3⟩ := h
  constructor
  · intro h
    rcases Nat.eq_zero_or_pos e with h0 | h0
    · exact h0
    · have : 2 ^ (H - e + 1) ≤ 2 ^ H := Nat.pow_le_pow_right (by omega) (by omega)
      have := Nat.two_pow_pos H
      omega
  · rintro rfl
    simp at h2
    omega
theorem lev_kid {H e n i : Nat} (h : Lev H (e + 1) n) (hi : i ≤ 1) : Lev H e (2 * n + 1 + i) := by
  obtain ⟨h1, h2, h3⟩ := h
  have e1 : H - e = H - (e + 1) + 1 := by omega
  have e2 : 2 ^ (H - e) = 2 * 2 ^ (H - (e + 1)) := by rw [e1, Nat.pow_succ]; omega
  have e3 : 2 ^ (H - e + 1) = 2 * 2 ^ (H - (e + 1) + 1) := by rw [e1, Nat.pow_succ]; omega
  exact ⟨by omega, by omega, by omega⟩
theorem lev_lt {H e n : Nat} (h : Lev H e n) : n < 2 ^ (H + 1) - 1 := by
  obtain ⟨h1, h2, h3⟩ := h
  have : 2 ^ (H - e + 1) ≤ 2 ^ (H + 1) := Nat.pow_le_pow_right (by omega) (by omega)
  omega

def b01 (b : Bool) : Int := if b then 1 else 0
theorem tab_get (a b : Bool) : ∀ k : Int, (k = 3 ∨ k = 4 ∨ k = 5) → (tabK k).getD (b01 a * (2 : Int) + b01 b).toNat 0 = b01 (appB k a b) := by
  rintro k (rfl | rfl | rfl) <;> cases a <;> cases b <;> rfl
theorem tab_not (a : Bool) : (tabK 2).getD (b01 a * (2 : Int) + 0).toNat 0 = b01 (!a) := by cases a <;> rfl
theorem tab_left (a : Bool) : ([0, 0, 1, 1] : List Int).getD (b01 a * (2 : Int) + 0).toNat 0 = b01 a := by cases a <;> rfl
theorem tabK_len (k : Int) : (tabK k).length = 4 := by unfold tabK; split <;> (try split) <;> (try split) <;> rfl
theorem tabK_bit (k : Int) : ∀ v ∈ tabK k, 0 ≤ v ∧ v < 2 := by unfold tabK; split <;> (try split) <;> (try split) <;> simp
theorem bits_set {s : LT} (h : Bits s) (j : Nat) : Bits (s.1.set j 1, s.2) :=
  ⟨fun v hv => by
    rcases List.mem_or_eq_of_mem_set hv with h1 | rfl
    · exact h.lv v h1
    · omega, h.tw, h.tv⟩
theorem bits_tab {s : LT} (h : Bits s) (j : Nat) (k : Int) : Bits (s.1, s.2.set j (tabK k)) :=
  ⟨h.lv, fun l hl => by
    rcases List.mem_or_eq_of_mem_set hl with h1 | rfl
    · exact h.tw l h1
    · exact tabK_len k, fun l hl => by
    rcases List.mem_or_eq_of_mem_set hl with h1 | rfl
    · exact h.tv l h1
    · exact tabK_bit k⟩
theorem getD_set_ne' {α : Type} (l : List α) (i j : Nat) (v d : α) (h : i ≠ j) : (l.set i v).getD j d = l.getD j d := by
  simp [List.getD_eq_getElem?_getD, List.getElem?_set, h]
theorem getD_set_eq' {α : Type} (l : List α) (i : Nat) (v d : α) (h : i < l.length) : (l.set i v).getD i d = v := by
  simp [List.getD_eq_getElem?_getD, h]
theorem away_tab (I n : Nat) (s : LT) (k : Int) (hn : n < I) : Away I n s (s.1, s.2.set n (tabK k)) :=
  ⟨rfl, by simp, fun m hm => getD_set_ne' _ _ _ _ _ (fun e => hm (by rw [← e]; exact under_refl n)), fun _ _ _ => rfl⟩
theorem away_leaf (I n : Nat) (s : LT) (hn : I ≤ n) : Away I n s (s.1.set (n - I) 1, s.2) :=
  ⟨by simp, rfl, fun _ _ => rfl, fun m hm hi => getD_set_ne' _ _ _ _ _ (fun e => hm (by rw [show m = n by omega]; exact under_refl n))⟩

/-- What is known behind the function literal. -/
structure PutFact (x : Nat → Bool) (h : Int) (I n : Nat) (f : Fm) (s s' : LT) : Prop where
  bits : Bits s'
  away : Away I n s s'
  val : valW (mkT h s') n = b01 (evF x f)

theorem put_fact {x : Nat → Bool} {h : Int} {H : Nat} : ∀ (k e n : Nat) (f : Fm) (s : LT), e + 1 ≤ k → Lev H e n → depF f ≤ e + 1 → shpF f = true → s.2.length = 2 ^ H - 1 → s.1.length = 2 ^ H → Bits s → Fresh (2 ^ H - 1) n s →
    PutFact x h (2 ^ H - 1) n f s (putN x (2 ^ H - 1) k f n s) := by
  intro k
  induction k with
  | zero => intro e n f s hk; omega
  | succ k ih =>
    intro e n f s hk hL hd hs hl2 hl1 hB hF
    have hz := lev_zero hL
    by_cases hn : 2 ^ H - 1 ≤ n
    · have he := hz.1 hn
      subst he
      have hl0 : f.l = [] := by
        cases hfl : f.l with
        | nil => rfl
        | cons g gs => rw [depF_eq, hfl, depL] at hd; have := depF_pos g; omega
      have hlt := lev_lt hL
      have h2 : 2 ^ (H + 1) = 2 * 2 ^ H := by rw [Nat.pow_succ]; omega
      have hp := Nat.two_pow_pos H
      rw [putN_leaf hn]
      have ev : evF x f = one1 x f := by
        rcases fm_cases hs with ⟨m, rfl, _, _⟩ | (rfl | rfl) | ⟨g, rfl, _⟩ | ⟨k', g, g', _, rfl, _, _⟩
        · rw [ev_var x rfl]; unfold one1; simp [Fm.k, Fm.n]
        · rw [ev_const x rfl]; rfl
        · rw [ev_const x rfl]; rfl
        · cases hl0
        · cases hl0
      cases ho : one1 x f with
      | true =>
        rw [if_pos rfl]
        refine ⟨bits_set hB _, away_leaf _ _ _ hn, ?_⟩
        rw [valW_leaf (by simp only [mkT]; omega)]
        simp only [mkT, hl2]
        rw [getD_set_eq' _ _ _ _ (by omega), ev, ho]
        rfl
      | false =>
        rw [if_neg (by simp)]
        refine ⟨hB, away_refl _ _ _, ?_⟩
        rw [valW_leaf (by simp only [mkT]; omega)]
        simp only [mkT, hl2]
        rw [hF.lv n (under_refl n) hn, ev, ho]
        rfl
    · obtain ⟨e, rfl⟩ : ∃ e', e = e' + 1 := ⟨e - 1, by have : e ≠ 0 := fun h0 => hn (hz.2 h0); omega⟩
      by_cases hfl : f.l.length = 0
      · rw [putN_down hn hfl]
        have hd1 : depF f = 1 := by rw [depF_eq, List.eq_nil_of_length_eq_zero hfl, depL]
        have L0 := lev_kid (i := 0) hL (by omega)
        have P := ih e (2 * n + 1) f s (by omega) L0 (by omega) hs hl2 hl1 hB hF.left
        refine ⟨P.bits, P.away.left, ?_⟩
        have l2 := P.away.l2
        have nn : ¬ Under (2 * n + 1) n := fun u => by have := under_le u; omega
        have v2 : valW (mkT h (putN x (2 ^ H - 1) k f (2 * n + 1) s)) (2 * n + 2) = 0 := by
          refine val_fresh (s := putN x (2 ^ H - 1) k f (2 * n + 1) s) _ _ (Nat.le_refl _) ?_
          rw [l2, hl2]
          exact hF.right.away P.away (fun m u u' => under_apart u' u)
        rw [valW_node (by simp only [mkT]; omega), P.val, v2]
        simp only [mkT]
        rw [P.away.tb n nn, hF.tb n (under_refl n) (by omega)]
        exact tab_left _
      · rw [putN_node hn hfl]
        have hnI : n < 2 ^ H - 1 := by omega
        rcases fm_cases hs with ⟨m, rfl, _, _⟩ | (rfl | rfl) | ⟨g, rfl, sg⟩ | ⟨k', g, g', hk', rfl, sg, sg'⟩
        · exact absurd rfl hfl
        · exact absurd rfl hfl
        · exact absurd rfl hfl
        · have dg : depF g ≤ e + 1 := by rw [depF_eq] at hd; simp only [Fm.l, depL] at hd; omega
          have e0 : putK x (2 ^ H - 1) k (.mk 2 0 [g]) n (Fm.mk 2 0 [g]).l.length s = putN x (2 ^ H - 1) k g (2 * n + 1) (s.1, s.2.set n (tabK 2)) := by
            show putK x (2 ^ H - 1) k (.mk 2 0 [g]) n 1 s = _
            rw [putK_succ, putK_zero]; rfl
          rw [e0]
          have aT := away_tab (2 ^ H - 1) n s 2 hnI
          have F0 : Fresh (2 ^ H - 1) (2 * n + 1) (s.1, s.2.set n (tabK 2)) :=
            ⟨fun m u hm => by
              show (s.2.set n (tabK 2)).getD m [] = _
              rw [getD_set_ne' _ _ _ _ _ (fun h0 => by have := under_le u; omega)]; exact hF.tb m (under_left u) hm, fun m u hm => hF.lv m (under_left u) hm⟩
          have F1 : Fresh (2 ^ H - 1) (2 * n + 2) (s.1, s.2.set n (tabK 2)) :=
            ⟨fun m u hm => by
              show (s.2.set n (tabK 2)).getD m [] = _
              rw [getD_set_ne' _ _ _ _ _ (fun h0 => by have := under_le u; omega)]; exact hF.tb m (under_right u) hm, fun m u hm => hF.lv m (under_right u) hm⟩
          have P := ih e (2 * n + 1) g (s.1, s.2.set n (tabK 2)) (by omega) (lev_kid (i := 0) hL (by omega)) dg sg (by simpa using hl2) hl1 (bits_tab hB n 2) F0
          refine ⟨P.bits, aT.trans P.away.left, ?_⟩
          have l2 := P.away.l2
          have l2' : (putN x (2 ^ H - 1) k g (2 * n + 1) (s.1, s.2.set n (tabK 2))).2.length = 2 ^ H - 1 := by rw [l2]; simpa using hl2
          have nn : ¬ Under (2 * n + 1) n := fun u => by have := under_le u; omega
          have v2 : valW (mkT h (putN x (2 ^ H - 1) k g (2 * n + 1) (s.1, s.2.set n (tabK 2)))) (2 * n + 2) = 0 := by
            refine val_fresh (s := putN x (2 ^ H - 1) k g (2 * n + 1) (s.1, s.2.set n (tabK 2))) _ _ (Nat.le_refl _) ?_
            rw [l2']
            exact F1.away P.away (fun m u u' => under_apart u' u)
          rw [valW_node (by simp only [mkT]; omega), P.val, v2]
          simp only [mkT]
          rw [P.away.tb n nn]
          show ((s.2.set n (tabK 2)).getD n []).getD _ 0 = _
          rw [getD_set_eq' _ _ _ _ (by omega), ev_not x (f := .mk 2 0 [g]) rfl rfl]
          exact tab_not _
        · have dg : depF g ≤ e + 1 ∧ depF g' ≤ e + 1 := by rw [depF_eq] at hd; simp only [Fm.l, depL] at hd; omega
          have e0 : putK x (2 ^ H - 1) k (.mk k' 0 [g, g']) n (Fm.mk k' 0 [g, g']).l.length s = putN x (2 ^ H - 1) k g' (2 * n + 2) (putN x (2 ^ H - 1) k g (2 * n + 1) (s.1, s.2.set n (tabK k'))) := by
            show putK x (2 ^ H - 1) k (.mk k' 0 [g, g']) n 2 s = _
            rw [putK_succ, putK_succ, putK_zero]; rfl
          rw [e0]
          have aT := away_tab (2 ^ H - 1) n s k' hnI
          have F0 : Fresh (2 ^ H - 1) (2 * n + 1) (s.1, s.2.set n (tabK k')) :=
            ⟨fun m u hm => by
              show (s.2.set n (tabK k')).getD m [] = _
              rw [getD_set_ne' _ _ _ _ _ (fun h0 => by have := under_le u; omega)]; exact hF.tb m (under_left u) hm, fun m u hm => hF.lv m (under_left u) hm⟩
          have F1 : Fresh (2 ^ H - 1) (2 * n + 2) (s.1, s.2.set n (tabK k')) :=
            ⟨fun m u hm => by
              show (s.2.set n (tabK k')).getD m [] = _
              rw [getD_set_ne' _ _ _ _ _ (fun h0 => by have := under_le u; omega)]; exact hF.tb m (under_right u) hm, fun m u hm => hF.lv m (under_right u) hm⟩
          have P := ih e (2 * n + 1) g (s.1, s.2.set n (tabK k')) (by omega) (lev_kid (i := 0) hL (by omega)) dg.1 sg (by simpa using hl2) hl1 (bits_tab hB n k') F0
          obtain ⟨s1, hs1⟩ : ∃ s1, s1 = putN x (2 ^ H - 1) k g (2 * n + 1) (s.1, s.2.set n (tabK k')) := ⟨_, rfl⟩
          rw [← hs1] at P ⊢
          have l2 : s1.2.length = 2 ^ H - 1 := by rw [P.away.l2]; simpa using hl2
          have l1 : s1.1.length = 2 ^ H := by rw [P.away.l1]; exact hl1
          have P' := ih e (2 * n + 2) g' s1 (by omega) (lev_kid (i := 1) hL (by omega)) dg.2 sg' l2 l1 P.bits (F1.away P.away (fun m u u' => under_apart u' u))
          obtain ⟨s2, hs2⟩ : ∃ s2, s2 = putN x (2 ^ H - 1) k g' (2 * n + 2) s1 := ⟨_, rfl⟩
          rw [← hs2] at P' ⊢
          refine ⟨P'.bits, (aT.trans P.away.left).trans P'.away.right, ?_⟩
          have l2' : s2.2.length = 2 ^ H - 1 := by rw [P'.away.l2]; exact l2
          have nn : ¬ Under (2 * n + 1) n := fun u => by have := under_le u; omega
          have nn' : ¬ Under (2 * n + 2) n := fun u => by have := under_le u; omega
          have v1 : valW (mkT h s2) (2 * n + 1) = b01 (evF x g) := by
            rw [← P.val]
            have a' := P'.away
            rw [← l2] at a'
            exact val_away (n := n) a' _ _ (Nat.le_refl _) (fun m u u' => under_apart u u')
          rw [valW_node (by simp only [mkT]; omega), P'.val, v1]
          simp only [mkT]
          rw [P'.away.tb n nn', P.away.tb n nn]
          show ((s.2.set n (tabK k')).getD n []).getD _ 0 = _
          rw [getD_set_eq' _ _ _ _ (by omega)]
          have hev : evF x (.mk k' 0 [g, g']) = appB k' (evF x g) (evF x g') := by
            rw [evF_eq]; unfold evK; rw [if_neg (by simp only [Fm.k]; omega), if_neg (by simp only [Fm.k]; omega)]; rfl
          rw [hev]
          exact tab_get _ _ k' hk'
/-- The tree before anything is put. -/
def fresh0 (H : Nat) : LT := (List.replicate (2 ^ H) 0, List.replicate (2 ^ H - 1) [0, 0, 1, 1])
theorem fresh0_bits (H : Nat) : Bits (fresh0 H) :=
  ⟨fun v hv => by rw [List.eq_of_mem_replicate hv]; omega, fun l hl => by rw [List.eq_of_mem_replicate hl]; rfl, fun l hl => by rw [List.eq_of_mem_replicate hl]; simp⟩
theorem fresh0_fresh (H n : Nat) : Fresh (2 ^ H - 1) n (fresh0 H) :=
  ⟨fun m _ hm => by simp [fresh0, List.getD_eq_getElem?_getD, List.getElem?_replicate, hm], fun m _ hm => by
    simp only [fresh0, List.getD_eq_getElem?_getD, List.getElem?_replicate]; split <;> rfl⟩
theorem root_fact {x : Nat → Bool} {H k : Nat} {f : Fm} (hk : H + 1 ≤ k) (hd : depF f ≤ H + 1) (hs : shpF f = true) (hH : H ≤ 6) :
    Good (mkT H (putN x (2 ^ H - 1) k f 0 (fresh0 H))) ∧ valW (mkT H (putN x (2 ^ H - 1) k f 0 (fresh0 H))) 0 = b01 (evF x f) := by
  have P := put_fact (x := x) (h := H) k H 0 f (fresh0 H) hk (lev_root H) hd hs (by simp [fresh0]) (by simp [fresh0]) (fresh0_bits H) (fresh0_fresh H 0)
  have h1 := P.away.l1
  have h2 := P.away.l2
  refine ⟨⟨by simp [mkT], by simp only [mkT]; omega, by simp [mkT], by simp [mkT], ?_, ?_, ?_, ?_, ?_⟩, P.val⟩
  · simp only [mkT]; rw [h2]; simp [fresh0, pw]
  · intro l hl; rw [P.bits.tw l hl]; rfl
  · intro l hl v hv; have := P.bits.tv l hl v hv; simpa [mkT, pw] using this
  · simp only [mkT]; rw [h1]; simp [fresh0, pw]
  · intro v hv; have := P.bits.lv v hv; simpa [mkT, pw] using this
end Go.Proofs.YtikfeemmjfoffaaDoor
