/- Joined: F1, F2, F3, F4. -/
import Derived.Test.YtinpmdekdfgiiaaLib6
import Derived.Test.YtinpmdekdfgiiaaJ2
import Derived.Maps.OwnSet
import Derived.Maps.OwnOps
import Derived.Test.YtinpmdekdfgiiaaC5
/- Formulas: what they are, what they measure, and how they lie in memory. -/
set_option linter.unusedVariables false
set_option linter.unusedSimpArgs false
namespace Go.Proofs.Ytinpmdekdfgiiaa
open Go.RowKit

inductive Fm where
  | mk (k n : Int) (l : List Fm)
instance : Inhabited Fm := ⟨.mk 1 0 []⟩
def Fm.k : Fm → Int | .mk k _ _ => k
def Fm.n : Fm → Int | .mk _ n _ => n
def Fm.l : Fm → List Fm | .mk _ _ l => l
def kd (l : List Fm) (j : Nat) : Fm := l.getD j default
theorem kd_zero (f : Fm) (fs : List Fm) : kd (f :: fs) 0 = f := rfl
theorem kd_succ (f : Fm) (fs : List Fm) (j : Nat) : kd (f :: fs) (j + 1) = kd fs j := by simp [kd]

mutual
/-- The number of nodes. -/
def cntF : Fm → Nat
  | .mk _ _ l => 1 + cntL l
def cntL : List Fm → Nat
  | [] => 0
  | f :: fs => cntF f + cntL fs
end
mutual
/-- The nesting. -/
def depF : Fm → Nat
  | .mk _ _ l => depL l + 1
def depL : List Fm → Nat
  | [] => 0
  | f :: fs => max (depF f) (depL fs)
end
/-- A node is right by itself. -/
def nodeB (k n : Int) (m : Nat) : Bool :=
  if k = 0 then decide (0 ≤ n) && decide (n < 16) && decide (m = 0)
  else if k = 1 then (decide (n = 0) || decide (n = 1)) && decide (m = 0)
  else if k = 2 then decide (n = 0) && decide (m = 1)
  else if k = 3 ∨ k = 4 ∨ k = 5 then decide (n = 0) && decide (m = 2)
  else false
mutual
def shpF : Fm → Bool
  | .mk k n l => shpL l && nodeB k n l.length
def shpL : List Fm → Bool
  | [] => true
  | f :: fs => shpF f && shpL fs
end
mutual
/-- One more than the greatest input. -/
def inpF : Fm → Int
  | .mk k n l => max (if k = 0 then n + 1 else 0) (inpL l)
def inpL : List Fm → Int
  | [] => 0
  | f :: fs => max (inpF f) (inpL fs)
end
/-- The value of a node of two kids. -/
def appB (k : Int) (a b : Bool) : Bool := if k = 2 then !a else if k = 3 then a && b else if k = 4 then a || b else a != b
def evK (x : Nat → Bool) (k n : Int) (vs : List Bool) : Bool :=
  if k = 0 then x n.toNat else if k = 1 then n == 1 else appB k (vs.getD 0 false) (vs.getD 1 false)
mutual
def evF (x : Nat → Bool) : Fm → Bool
  | .mk k n l => evK x k n (evL x l)
def evL (x : Nat → Bool) : List Fm → List Bool
  | [] => []
  | f :: fs => evF x f :: evL x fs
end

theorem cntF_eq (f : Fm) : cntF f = 1 + cntL f.l := by cases f; rw [cntF]; rfl
theorem depF_eq (f : Fm) : depF f = depL f.l + 1 := by cases f; rw [depF]; rfl
theorem shpF_eq (f : Fm) : shpF f = (shpL f.l && nodeB f.k f.n f.l.length) := by cases f; rw [shpF]; rfl
theorem inpF_eq (f : Fm) : inpF f = max (if f.k = 0 then f.n + 1 else 0) (inpL f.l) := by cases f; rw [inpF]; rfl
theorem evF_eq (x : Nat → Bool) (f : Fm) : evF x f = evK x f.k f.n (evL x f.l) := by cases f; rw [evF]; rfl
theorem cntF_pos (f : Fm) : 0 < cntF f := by rw [cntF_eq]; omega
theorem cnt_kid {l : List Fm} : ∀ {j : Nat}, j < l.length → cntF (kd l j) ≤ cntL l := by
  induction l with
  | nil => intro j h; simp at h
  | cons f fs ih =>
    intro j h
    rw [cntL]
    cases j with
    | zero => rw [kd_zero]; omega
    | succ j => rw [kd_succ]; have := ih (j := j) (by simpa using h); omega
theorem dep_kid {l : List Fm} : ∀ {j : Nat}, j < l.length → depF (kd l j) ≤ depL l := by
  induction l with
  | nil => intro j h; simp at h
  | cons f fs ih =>
    intro j h
    rw [depL]
    cases j with
    | zero => rw [kd_zero]; omega
    | succ j => rw [kd_succ]; have := ih (j := j) (by simpa using h); omega
theorem cntL_take {l : List Fm} : ∀ {j : Nat}, j < l.length → cntL (l.take (j + 1)) = cntL (l.take j) + cntF (kd l j) := by
  induction l with
  | nil => intro j h; simp at h
  | cons f fs ih =>
    intro j h
    cases j with
    | zero => simp [cntL, kd_zero]
    | succ j => rw [kd_succ, List.take_succ_cons, List.take_succ_cons, cntL, cntL, ih (by simpa using h)]; omega
theorem cntL_take_le (l : List Fm) : ∀ j, cntL (l.take j) ≤ cntL l := by
  induction l with
  | nil => intro j; simp
  | cons f fs ih =>
    intro j
    cases j with
    | zero => simp [cntL]
    | succ j => rw [List.take_succ_cons, cntL, cntL]; have := ih j; omega
theorem dep_le_cnt_aux : ∀ (N : Nat) (l : List Fm), cntL l ≤ N → depL l ≤ cntL l := by
  intro N
  induction N with
  | zero =>
    intro l h
    cases l with
    | nil => simp [depL]
    | cons f fs => rw [cntL] at h; have := cntF_pos f; omega
  | succ N ih =>
    intro l h
    induction l with
    | nil => simp [depL]
    | cons f fs ih2 =>
      rw [cntL] at h ⊢
      rw [depL]
      have h1 := ih2 (by omega)
      have h2 := ih f.l (by rw [cntF_eq] at h; omega)
      rw [depF_eq, cntF_eq] at *
      omega
theorem dep_le_cnt (f : Fm) : depF f ≤ cntF f := by
  have := dep_le_cnt_aux _ f.l (Nat.le_refl _)
  rw [depF_eq, cntF_eq]; omega
theorem shpL_true {l : List Fm} : shpL l = true ↔ ∀ j, j < l.length → shpF (kd l j) = true := by
  induction l with
  | nil => simp [shpL]
  | cons f fs ih =>
    rw [shpL, Bool.and_eq_true, ih]
    constructor
    · rintro ⟨h1, h2⟩ j hj
      cases j with
      | zero => exact h1
      | succ j => rw [kd_succ]; exact h2 j (by simpa using hj)
    · intro h
      exact ⟨h 0 (by simp), fun j hj => by have := h (j + 1) (by simpa using hj); rwa [kd_succ] at this⟩
theorem shpL_false {l : List Fm} : shpL l = false ↔ ∃ j, j < l.length ∧ shpF (kd l j) = false := by
  rw [← Bool.not_eq_true, shpL_true]
  constructor
  · intro h
    apply Classical.byContradiction
    intro h2
    apply h
    intro j hj
    cases hh : shpF (kd l j)
    · exact absurd ⟨j, hj, hh⟩ h2
    · rfl
  · rintro ⟨j, hj, h⟩ h2
    rw [h2 j hj] at h
    cases h
theorem inpL_nonneg (l : List Fm) : 0 ≤ inpL l := by
  induction l with
  | nil => simp [inpL]
  | cons f fs ih => rw [inpL]; omega
theorem inpL_take {l : List Fm} : ∀ {j : Nat}, j < l.length → inpL (l.take (j + 1)) = max (inpL (l.take j)) (inpF (kd l j)) := by
  induction l with
  | nil => intro j h; simp at h
  | cons f fs ih =>
    intro j h
    cases j with
    | zero => simp [inpL, kd_zero]; omega
    | succ j => rw [kd_succ, List.take_succ_cons, List.take_succ_cons, inpL, inpL, ih (by simpa using h)]; omega
theorem inp_kid {l : List Fm} : ∀ {j : Nat}, j < l.length → inpF (kd l j) ≤ inpL l := by
  induction l with
  | nil => intro j h; simp at h
  | cons f fs ih =>
    intro j h
    rw [inpL]
    cases j with
    | zero => rw [kd_zero]; omega
    | succ j => rw [kd_succ]; have := ih (j := j) (by simpa using h); omega
theorem evL_get (x : Nat → Bool) {l : List Fm} : ∀ {j : Nat}, j < l.length → (evL x l).getD j false = evF x (kd l j) := by
  induction l with
  | nil => intro j h; simp at h
  | cons f fs ih =>
    intro j h
    cases j with
    | zero => simp [evL, kd_zero]
    | succ j => rw [kd_succ, ← ih (by simpa using h)]; simp [evL]

theorem ev_var (x : Nat → Bool) {f : Fm} (h : f.k = 0) : evF x f = x f.n.toNat := by rw [evF_eq]; unfold evK; rw [if_pos h]
theorem ev_const (x : Nat → Bool) {f : Fm} (h : f.k = 1) : evF x f = (f.n == 1) := by rw [evF_eq]; unfold evK; rw [if_neg (by omega), if_pos h]
theorem ev_not (x : Nat → Bool) {f : Fm} (h : f.k = 2) (hl : f.l.length = 1) : evF x f = !evF x (kd f.l 0) := by
  rw [evF_eq]; unfold evK appB; rw [if_neg (by omega), if_neg (by omega), if_pos h, evL_get x (by omega)]
theorem ev_and (x : Nat → Bool) {f : Fm} (h : f.k = 3) (hl : f.l.length = 2) : evF x f = (evF x (kd f.l 0) && evF x (kd f.l 1)) := by
  rw [evF_eq]; unfold evK appB; rw [if_neg (by omega), if_neg (by omega), if_neg (by omega), if_pos h, evL_get x (by omega), evL_get x (by omega)]
theorem ev_or (x : Nat → Bool) {f : Fm} (h : f.k = 4) (hl : f.l.length = 2) : evF x f = (evF x (kd f.l 0) || evF x (kd f.l 1)) := by
  rw [evF_eq]; unfold evK appB; rw [if_neg (by omega), if_neg (by omega), if_neg (by omega), if_neg (by omega), if_pos h, evL_get x (by omega), evL_get x (by omega)]
theorem ev_xor (x : Nat → Bool) {f : Fm} (h : f.k = 5) (hl : f.l.length = 2) : evF x f = (evF x (kd f.l 0) != evF x (kd f.l 1)) := by
  rw [evF_eq]; unfold evK appB; rw [if_neg (by omega), if_neg (by omega), if_neg (by omega), if_neg (by omega), if_neg (by omega), evL_get x (by omega), evL_get x (by omega)]

/-! ### In memory -/

/-- The kids that lie from an address on. -/
inductive RK (w : World) : Option Addr → List Fm → Prop
  | nil (A : Option Addr) : RK w A []
  | cons {b off : Nat} {A : Option Addr} {c : Nat} {f : Fm} {fs : List Fm} (h0 : w.cell? ⟨b, off, none⟩ = some (.int .i64 f.k)) (h1 : w.cell? ⟨b, off + 1, none⟩ = some (.int .i64 f.n))
      (h2 : w.cell? ⟨b, off + 2, none⟩ = some (.slice A f.l.length c)) (hl : f.l.length ≤ 9223372036854775807) (hk : RK w A f.l) (hs : RK w (some ⟨b, off + 3, none⟩) fs) : RK w (some ⟨b, off, none⟩) (f :: fs)
theorem RK.kept {w w' : World} {A : Option Addr} {l : List Fm} (h : RK w A l) (k : Kept w w') : RK w' A l := by
  induction h with
  | nil A => exact .nil A
  | cons h0 h1 h2 hl _ _ ih1 ih2 => exact .cons (kept_cell k h0) (kept_cell k h1) (kept_cell k h2) hl ih1 ih2
/-- What is known of one kid. -/
structure KidAt (w : World) (b o : Nat) (f : Fm) : Prop where
  c0 : w.cell? ⟨b, o, none⟩ = some (.int .i64 f.k)
  c1 : w.cell? ⟨b, o + 1, none⟩ = some (.int .i64 f.n)
  c2 : ∃ A c, w.cell? ⟨b, o + 2, none⟩ = some (.slice A f.l.length c) ∧ RK w A f.l
  len : f.l.length ≤ 9223372036854775807
theorem KidAt.kept {w w' : World} {b o : Nat} {f : Fm} (h : KidAt w b o f) (k : Kept w w') : KidAt w' b o f :=
  ⟨kept_cell k h.c0, kept_cell k h.c1, let ⟨A, c, h1, h2⟩ := h.c2; ⟨A, c, kept_cell k h1, h2.kept k⟩, h.len⟩
theorem RK.all {w : World} {A : Option Addr} {l : List Fm} (h : RK w A l) : ∀ b off, A = some ⟨b, off, none⟩ → ∀ j, j < l.length → KidAt w b (off + j * 3) (kd l j) := by
  induction h with
  | nil A => intro b off _ j hj; simp at hj
  | @cons b0 off0 A0 c0 f fs h0 h1 h2 hl hk hs _ ih2 =>
    intro b off e j hj
    injection e with e
    injection e with e1 e2
    subst e1 e2
    cases j with
    | zero => rw [kd_zero]; exact ⟨by simpa using h0, by simpa using h1, ⟨A0, c0, by simpa using h2, hk⟩, hl⟩
    | succ j =>
      rw [kd_succ]
      have := ih2 b0 (off0 + 3) rfl j (by simpa using hj)
      rwa [show off0 + 3 + j * 3 = off0 + (j + 1) * 3 from by omega] at this
theorem RK.at_ {w : World} {A : Option Addr} {l : List Fm} (h : RK w A l) (hl : 0 < l.length) : ∃ b off, A = some ⟨b, off, none⟩ ∧ ∀ j, j < l.length → KidAt w b (off + j * 3) (kd l j) := by
  cases h with
  | nil => simp at hl
  | cons h0 h1 h2 h3 h4 h5 => exact ⟨_, _, rfl, (RK.cons h0 h1 h2 h3 h4 h5).all _ _ rfl⟩
/-- A formula as a value. -/
def fmV (f : Fm) (A : Option Addr) (c : Nat) : Value := .agg #[.int .i64 f.k, .int .i64 f.n, .slice A f.l.length c]
end Go.Proofs.Ytinpmdekdfgiiaa

/- Formulas: the reference's functions, and Few. -/
set_option linter.unusedVariables false
set_option linter.unusedSimpArgs false
namespace Go.Proofs.Ytinpmdekdfgiiaa
open Go.RowKit

set_option maxRecDepth 100000 in
set_option maxHeartbeats 1000000 in
theorem weigh_any (most : Int) (hm0 : 0 ≤ most) (hm1 : most ≤ 1000000) : ∀ (N : Nat) (f : Fm) (A : Option Addr) (c : Nat) (n : Int) (w : World), cntF f ≤ N → f.l.length ≤ 9223372036854775807 → RK w A f.l → 0 ≤ n → n ≤ most →
    Calls Try.prog 74 #[fmV f A c, .int .i64 n, .int .i64 most] w fun e w' => e = .returned (.int .i64 (min (n + cntF f) (most + 1))) ∧ Kept w w' := by
  intro N
  induction N with
  | zero => intro f A c n w h; have := cntF_pos f; omega
  | succ N ih =>
    intro f A c n w hc hl hr hn0 hn1
    have IH := Lib.hid ih; clear ih
    have HR := Lib.hid hr; clear hr
    unfold fmV
    have o0 := Own.new w 52 [.int .i64 f.k, .int .i64 f.n, .slice A f.l.length c]
    have K0 : Kept w (w.alloc (.cells #[.int .i64 f.k, .int .i64 f.n, .slice A f.l.length c] 52)) := kept_alloc (kept_refl w) _
    have hcn := cntF_eq f
    have HC := Lib.hid hcn; clear hcn
    obtain ⟨l, hle⟩ : ∃ l, l = f.l := ⟨_, rfl⟩
    rw [← hle] at hl HR o0 K0 HC ⊢
    clear hle
    go_enter Try.func74, Try.ntmps74
    go_wp2_with fail
    go_loopg [1, 7] l.length (fun g' s1 s7 wr => ∃ j : Nat, j ≤ l.length ∧ g' = l.length - j ∧ s7 = .int .i64 j ∧ s1 = .int .i64 (min (n + 1 + cntL (l.take j)) (most + 1)) ∧ Own wr w.heap.size 52 [.int .i64 f.k, .int .i64 f.n, .slice A l.length c] ∧ Kept w wr)
    case atStart => exact ⟨0, by omega, rfl, rfl, congrArg (Value.int .i64) (by simp [cntL]; omega), o0, K0⟩
    case round =>
      clear o0 K0
      obtain ⟨j, hj, rfl, rfl, rfl, o0, K0⟩ := hrel
      have q0 := o0.cell (j := 0) rfl
      have q1 := o0.cell (j := 1) rfl
      have q2 := o0.cell (j := 2) rfl
      have hle := cntL_take_le l j
      obtain ⟨v, hv⟩ : ∃ v, v = min (n + 1 + cntL (l.take j)) (most + 1) := ⟨_, rfl⟩
      rw [← hv]
      have v0 : 0 ≤ v := by omega
      have v1 : v ≤ most + 1 := by omega
      by_cases hlt : j < l.length
      · have c1 : decide ((j : Int) < (l.length : Int)) = true := decide_eq_true (by omega)
        have c2 : decide (j < l.length) = true := decide_eq_true hlt
        by_cases hve : v ≤ most
        · have c3 : decide (v ≤ most) = true := decide_eq_true hve
          obtain ⟨b, off, rfl, hk⟩ := HR.out.at_ (by omega)
          obtain ⟨d0, d1, ⟨A', c', d2, rk⟩, dl⟩ := (hk j hlt).kept K0
          clear hk
          have g0 : (0 : Int) ≤ (j : Int) := by omega
          have g1 : (j : Int) < (l.length : Int) := by omega
          have hkc := cnt_kid hlt
          have C := IH.out (kd l j) A' c' v wr (by have := HC.out; omega) dl rk v0 hve
          unfold fmV at C
          have HCC := Lib.hid C; clear C
          have HV := Lib.hid hv; clear hv
          go_wp2_with fail
          refine HCC.out.mono ?_
          rintro e w1 ⟨rfl, k⟩
          replace K0 := kept_trans K0 k; replace o0 := o0.kept k
          have ht := cntL_take hlt
          go_wp2_with fail
          go_roundg (l.length - (j + 1))
          case rel => exact ⟨j + 1, by omega, rfl, by go_num, congrArg (Value.int .i64) (by have := HV.out; omega), o0, K0⟩
          case measure => omega
        · have c3 : decide (v ≤ most) = false := decide_eq_false hve
          have HV := Lib.hid hv; clear hv
          go_wp2_with fail
          go_ret
          exact ⟨ret_int (by have := HV.out; have := HC.out; omega), K0⟩
      · have : j = l.length := by omega
        subst this
        have c1 : decide ((l.length : Int) < (l.length : Int)) = false := decide_eq_false (by omega)
        have HV := Lib.hid hv; clear hv
        go_wp2_with fail
        go_ret
        exact ⟨ret_int (by have := HV.out; have := HC.out; rw [List.take_length] at *; omega), K0⟩
end Go.Proofs.Ytinpmdekdfgiiaa

/- Formulas: the program's walk over a formula. -/
set_option linter.unusedVariables false
set_option linter.unusedSimpArgs false
namespace Go.Proofs.Ytinpmdekdfgiiaa
open Go.RowKit Go.Maps

mutual
/-- The number of leaves. -/
def lvsF : Fm → Nat
  | .mk _ _ l => if l.isEmpty then 1 else lvsL l
def lvsL : List Fm → Nat
  | [] => 0
  | f :: fs => lvsF f + lvsL fs
end
/-- What a node of a kind adds to the depth. -/
def costK (k : Int) : Nat := if k = 3 ∨ k = 4 then 1 else if k = 5 then 2 else 0
mutual
/-- The depth. -/
def dpF : Fm → Nat
  | .mk k _ l => if l.isEmpty then 0 else dpL l + costK k
def dpL : List Fm → Nat
  | [] => 0
  | f :: fs => max (dpF f) (dpL fs)
end
theorem lvsF_eq (f : Fm) : lvsF f = if f.l.isEmpty then 1 else lvsL f.l := by cases f; rw [lvsF]; rfl
theorem dpF_eq (f : Fm) : dpF f = if f.l.isEmpty then 0 else dpL f.l + costK f.k := by cases f; rw [dpF]; rfl
theorem lvsL_take {l : List Fm} : ∀ {j : Nat}, j < l.length → lvsL (l.take (j + 1)) = lvsL (l.take j) + lvsF (kd l j) := by
  induction l with
  | nil => intro j h; simp at h
  | cons f fs ih =>
    intro j h
    cases j with
    | zero => simp [lvsL, kd_zero]
    | succ j => rw [kd_succ, List.take_succ_cons, List.take_succ_cons, lvsL, lvsL, ih (by simpa using h)]; omega
theorem dpL_take {l : List Fm} : ∀ {j : Nat}, j < l.length → dpL (l.take (j + 1)) = max (dpL (l.take j)) (dpF (kd l j)) := by
  induction l with
  | nil => intro j h; simp at h
  | cons f fs ih =>
    intro j h
    cases j with
    | zero => simp [dpL, kd_zero]
    | succ j => rw [kd_succ, List.take_succ_cons, List.take_succ_cons, dpL, dpL, ih (by simpa using h)]; omega
theorem lvs_le_cnt_aux : ∀ (N : Nat) (f : Fm), cntF f ≤ N → lvsF f ≤ cntF f ∧ dpF f ≤ 2 * cntF f := by
  intro N
  induction N with
  | zero => intro f h; have := cntF_pos f; omega
  | succ N ih =>
    intro f h
    have key : ∀ l : List Fm, cntL l ≤ N → lvsL l ≤ cntL l ∧ dpL l ≤ 2 * cntL l := by
      intro l
      induction l with
      | nil => intro _; simp [lvsL, cntL, dpL]
      | cons g gs ih2 =>
        intro h2
        rw [cntL] at h2
        rw [lvsL, cntL, dpL]
        have := ih g (by omega)
        have := ih2 (by omega)
        omega
    rw [cntF_eq] at h ⊢
    rw [lvsF_eq, dpF_eq]
    have := key f.l (by omega)
    unfold costK
    split <;> (try split) <;> (try split) <;> omega
theorem lvs_le_cnt (f : Fm) : lvsF f ≤ cntF f := (lvs_le_cnt_aux _ f (Nat.le_refl _)).1
theorem dp_le_cnt (f : Fm) : dpF f ≤ 2 * cntF f := (lvs_le_cnt_aux _ f (Nat.le_refl _)).2

set_option maxRecDepth 100000 in
set_option maxHeartbeats 1000000 in
theorem node_any (f : Fm) (A : Option Addr) (c : Nat) (w : World) :
    Calls Try.prog 111 #[fmV f A c] w fun e w' => e = .returned (.bool (nodeB f.k f.n f.l.length)) ∧ Kept w w' := by
  unfold fmV
  generalize f.k = k
  generalize f.n = n
  generalize f.l.length = m
  have K0 : Kept w (w.alloc (.cells #[.int .i64 k, .int .i64 n, .slice A m c] 52)) := kept_alloc (kept_refl w) _
  by_cases k0 : k = 0
  · subst k0
    go_enter Try.func111, Try.ntmps111
    go_wp2_with fail
    all_goals (go_ret; refine ⟨ret_bool ?_, kept_alloc (kept_refl _) _⟩; unfold nodeB; rw [Bool.eq_iff_iff]; simp; omega)
  · have b0 : (k == 0) = false := beq_eq_false_iff_ne.2 k0
    by_cases k1 : k = 1
    · subst k1
      go_enter Try.func111, Try.ntmps111
      go_wp2_with fail
      all_goals (go_ret; refine ⟨ret_bool ?_, kept_alloc (kept_refl _) _⟩; unfold nodeB; rw [Bool.eq_iff_iff]; simp; omega)
    · have b1 : (k == 1) = false := beq_eq_false_iff_ne.2 k1
      by_cases k2 : k = 2
      · subst k2
        go_enter Try.func111, Try.ntmps111
        go_wp2_with fail
        all_goals (go_ret; refine ⟨ret_bool ?_, kept_alloc (kept_refl _) _⟩; unfold nodeB; rw [Bool.eq_iff_iff]; simp; omega)
      · have b2 : (k == 2) = false := beq_eq_false_iff_ne.2 k2
        by_cases k3 : k = 3 ∨ k = 4 ∨ k = 5
        · rcases k3 with rfl | rfl | rfl
          all_goals
            go_enter Try.func111, Try.ntmps111
            go_wp2_with fail
            all_goals (go_ret; refine ⟨ret_bool ?_, kept_alloc (kept_refl _) _⟩; unfold nodeB; rw [Bool.eq_iff_iff]; simp; omega)
        · have b3 : (k == 3) = false := beq_eq_false_iff_ne.2 (by omega)
          have b4 : (k == 4) = false := beq_eq_false_iff_ne.2 (by omega)
          have b5 : (k == 5) = false := beq_eq_false_iff_ne.2 (by omega)
          have hn : nodeB k n m = false := by unfold nodeB; rw [if_neg k0, if_neg k1, if_neg k2, if_neg k3]
          have HN := Lib.hid hn
          clear k0 k1 k2 k3 hn
          go_enter Try.func111, Try.ntmps111
          go_wp2_with fail
          go_ret
          exact ⟨ret_bool HN.out.symm, K0⟩

/-! ### The walk -/

/-- All but block g is as it was. -/
abbrev KB (g : Nat) (w w' : World) : Prop := w.grownBy w' (some g)
theorem kb_of {g : Nat} {w w' : World} (k : Kept w w') : KB g w w' := ⟨k.os, k.tape, k.output, k.size, fun i hi _ => k.block i hi⟩
theorem kb_trans {g : Nat} {a b c : World} (h : KB g a b) (k : KB g b c) : KB g a c := World.grownBy.trans h k
theorem kb_set {g : Nat} {w w' : World} (h : KB g w w') (j : Nat) (v : Value) : KB g w (w'.setCell ⟨g, j, none⟩ v) :=
  kb_trans h ⟨rfl, rfl, rfl, by simp, fun i hi ne => Below.heap_setCell w' ⟨g, j, none⟩ v i (fun e => ne (by rw [e]))⟩
theorem kept_kb {g : Nat} {w0 w w' : World} (hK : Kept w0 w) (h : KB g w w') (hg : w0.heap.size ≤ g) : Kept w0 w' := hK.grown h hK.size (fun k e => by cases e; exact hg)
theorem Own.kb {g b : Nat} {e : TypeId} {cs : List Value} {w w' : World} (h : Own w b e cs) (k : KB g w w') (ne : b ≠ g) : Own w' b e cs := h.grown k (fun h => ne (by injection h))

/-- A shape: nodes, size, depth, inputs, nesting. -/
def shape5 (a b d i n : Int) : List Value := [.int .i64 a, .int .i64 b, .int .i64 d, .int .i64 i, .int .i64 n]
def WalkPost (f : Fm) (g : Nat) (a b d i n : Int) (w : World) (e : Ending) (w' : World) : Prop :=
  ∃ dd a' b' i' : Int, e = .returned (.tuple #[.int .i64 dd, .bool (shpF f)]) ∧ KB g w w' ∧ Own w' g 109 (shape5 a' b' d i' n) ∧
    (shpF f = true → a' = a + cntF f ∧ b' = b + lvsF f ∧ i' = max i (inpF f) ∧ dd = dpF f)

section
variable {P : Program} (w : World) {ops : Array Oper} {rest : List Oper} {o : Oper} {a : Act} {Q : Exit → Act → World → Prop}
/-- An entry of a map's literal. -/
theorem wpList_insert_own {H : Type} (hg : o.guard = none) (m x v : Operand) (t : TypeId) (hop : o.op = Op.insert t m x v)
    (k e : TypeId) (K : Keyed P k) (ht : P.underlying t = some (.map k e)) (R : Value → Option (DataW H × List MemPlace)) (b n : Nat) (D : DataW H)
    (hm : a.eval m = .map (some b)) (hown : w.ownsMap P k R b n D) (hn : n < maxLen) (key val : Value) (kl : Lit) (hx : a.eval x = key) (hv : a.eval v = val) (hkey : keyOf P k key = some kl)
    (d : DataW H) (ps : List MemPlace) (hval : R val = some (d, ps))
    (hK : ∀ w', w'.ownsMap P k R b (n + 1) (D.put kl d) → w.grownBy w' (some b) → wpList P ops Q rest (a.put o.dst undef) w') :
    wpList P ops Q (o :: rest) a w := by
  refine wpList_plain hg fun K' hK' => ?_
  obtain ⟨w', hrun, r1, r2⟩ := hown.update K ht hn hkey hval
  unfold Oper.wp
  simp [execOp, hop, hm, hx, hv, hrun, Result.andThen]
  exact hK' _ _ (hK w' r1 r2)
end
end Go.Proofs.Ytinpmdekdfgiiaa

/- Reading an argument that is a formula. -/
set_option linter.unusedVariables false
set_option linter.unusedSimpArgs false
namespace Go.Proofs.Ytinpmdekdfgiiaa
open Go.RowKit Go.ChangeShapes Go.WideShapes Go.ChangeAt

theorem rk_of {w : World} : ∀ (l : List Fm) (b off : Nat), (∀ j, j < l.length → KidAt w b (off + j * 3) (kd l j)) → RK w (some ⟨b, off, none⟩) l
  | [], b, off, _ => .nil _
  | f :: fs, b, off, h => by
    have h0 := h 0 (by simp)
    rw [kd_zero] at h0
    obtain ⟨A, c, e1, e2⟩ := h0.c2
    refine .cons (by simpa using h0.c0) (by simpa using h0.c1) (by simpa using e1) h0.len e2 (rk_of fs b (off + 3) fun j hj => ?_)
    have := h (j + 1) (by simpa using hj)
    rw [kd_succ] at this
    rwa [show off + (j + 1) * 3 = off + 3 + j * 3 from by omega] at this

set_option maxRecDepth 100000 in
theorem read_fm {H : Type} {enc : TypeId × Value → H} {w : World} {base : Nat} {spare : Nat → Bool} {held : Bool} : ∀ (fuel : Nat) (cs : List Value) (x : DataW H × List MemPlace), DataW.trod enc Try.prog w base spare held fuel 52 cs = some x →
    ∃ (f : Fm) (A : Option Addr) (c : Nat), cs = [.int .i64 f.k, .int .i64 f.n, .slice A f.l.length c] ∧ RK w A f.l ∧ f.l.length ≤ 9223372036854775807 := by
  intro fuel
  induction fuel using Nat.strongRecOn with
  | ind fuel ih =>
    intro cs x h
    obtain ⟨xs, n, hfu, rfl, hl, hlen, hf⟩ := DataW.trod_struct Try.underlying52 h
    match xs, hlen with
    | [y0, y1, y2], _ =>
      have h0 : DataW.trod enc Try.prog w base spare held n 3 ((cs.drop 0).take (Try.prog.cellsOf 3)) = some y0 := hf 0 _ rfl
      have h1 : DataW.trod enc Try.prog w base spare held n 3 ((cs.drop 1).take (Try.prog.cellsOf 3)) = some y1 := hf 1 _ rfl
      have h2 : DataW.trod enc Try.prog w base spare held n 50 ((cs.drop 2).take (Try.prog.cellsOf 50)) = some y2 := hf 2 _ rfl
      rw [show Try.prog.cellsOf 52 = 3 by kernel_rfl] at hl
      match cs, hl with
      | [a, b, c], _ =>
        rw [show Try.prog.cellsOf 3 = 1 by kernel_rfl] at h0 h1
        rw [show Try.prog.cellsOf 50 = 1 by kernel_rfl] at h2
        obtain ⟨x0, e0, _⟩ := DataW.trod_int Try.underlying3 h0
        obtain ⟨x1, e1, _⟩ := DataW.trod_int Try.underlying3 h1
        simp at e0 e1
        subst e0 e1
        rcases DataW.trod_slice Try.underlying50 h2 with ⟨hcs, _⟩ | ⟨ad, len, cap, elems, rest, m, hnm, hcs, hx, hb, hlc, hcm, hel, hE, _⟩
        · simp at hcs
          subst hcs
          exact ⟨.mk x0 x1 [], none, 0, rfl, .nil _, by simp [Fm.l]⟩
        · simp at hcs
          subst hcs
          rw [show Try.prog.cellsOf 52 = 3 by kernel_rfl] at hE
          obtain ⟨N, hN⟩ := Deep.choose_lt (n := len) (p := fun i (f : Fm) => ∃ A c, w.cells? base (ad.add (i * 3)) 3 = some [.int .i64 f.k, .int .i64 f.n, .slice A f.l.length c] ∧ RK w A f.l ∧ f.l.length ≤ 9223372036854775807) (fun i hi => by
            have := hE i hi
            rw [List.getElem?_eq_getElem (by omega)] at this
            obtain ⟨cs', h3, h4⟩ := Option.bind_eq_some_iff.1 this
            obtain ⟨f, A, c, rfl, h5, h6⟩ := ih m (by omega) cs' _ h4
            exact ⟨f, A, c, h3, h5, h6⟩)
          have hmx : maxLen = 9223372036854775807 := rfl
          refine ⟨.mk x0 x1 ((List.range len).map N), some ad, cap, by simp [Fm.k, Fm.n, Fm.l], ?_, by simp [Fm.l]; omega⟩
          show RK w (some ad) ((List.range len).map N)
          rcases Nat.eq_zero_or_pos len with hz | hz
          · subst hz; exact .nil _
          · obtain ⟨bk, off, spot⟩ := ad
            have hspot : spot = none := by
              obtain ⟨A, c, h3, _⟩ := hN 0 hz
              have := (World.cells?_some h3).2.2 0 (by omega)
              simpa [Addr.add] using World.cell?_spot this
            subst hspot
            refine rk_of _ bk off fun j hj => ?_
            have hj' : j < len := by simpa using hj
            obtain ⟨A, c, h3, h4, h5⟩ := hN j hj'
            have hk : kd ((List.range len).map N) j = N j := by simp [kd, hj']
            rw [hk]
            have hc := (World.cells?_some h3).2.2
            have c0 := hc 0 (by omega)
            have c1 := hc 1 (by omega)
            have c2 := hc 2 (by omega)
            rw [add_at, add_at] at c0 c1 c2
            exact ⟨by simpa using c0, by simpa using c1, ⟨A, c, by simpa using c2, h4⟩, h5⟩

set_option maxRecDepth 100000 in
theorem read_formula {H : Type} {enc : TypeId × Value → H} {w : World} {base : Nat} {spare : Nat → Bool} {held : Bool} {b0 : Nat} {r : Reach} {v : Value} {d : DataW H} {p : List MemPlace}
    (hv : Value.okWide Try.prog w r b0 52 v) (h : DataW.Trod enc Try.prog w base spare held 52 v d p) :
    ∃ (f : Fm) (A : Option Addr) (c : Nat), v = fmV f A c ∧ RK w A f.l ∧ f.l.length ≤ 9223372036854775807 := by
  have hc : Try.prog.cellsOf 52 = 3 := by kernel_rfl
  have h' := h
  obtain ⟨c0, c1, c2, y0, y1, y2, m, rfl, rfl, rfl, hy0, hy1, hy2⟩ := Joins.open_agg3 Try.underlying52 (by kernel_rfl) hc hv h
  obtain ⟨fuel, hf⟩ := h'
  obtain ⟨f, A, c, e, h1, h2⟩ := read_fm fuel _ _ hf
  have hcells : (Value.agg #[c0, c1, c2]).cells.toList = [c0, c1, c2] := by rfl
  rw [hcells] at e
  simp at e
  obtain ⟨rfl, rfl, rfl⟩ := e
  exact ⟨f, A, c, rfl, h1, h2⟩
end Go.Proofs.Ytinpmdekdfgiiaa
