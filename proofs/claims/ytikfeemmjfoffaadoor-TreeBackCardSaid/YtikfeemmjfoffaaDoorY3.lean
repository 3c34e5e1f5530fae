/- Formulas: the program's walk over a formula. -/
import Derived.Test.YtikfeemmjfoffaaDoorY2
import Derived.Maps.OwnSet
import Derived.Maps.OwnOps
set_option linter.unusedVariables false
set_option linter.unusedSimpArgs false
namespace Go.Proofs.YtikfeemmjfoffaaDoor
open Go.RowKit Go.Maps

mutual
/-- The number of leaves. -/
def lvsF : Fm → Nat
  | .mk _ _ l => if l.isEmpty then 1 else lvsL l
def lvsL : List Fm → Nat
  | [] => 0
  | f :: fs => lvsF f + lvsL fs
end
/-- What a node of a kind adds to the depth. -/
def costK (k : Int) : Nat := if k = 3 ∨ k = 4 then 1 else if k = 5 then 2 else 0
mutual
/-- The depth. -/
def dpF : Fm → Nat
  | .mk k _ l => if l.isEmpty then 0 else dpL l + costK k
def dpL : List Fm → Nat
  | [] => 0
  | f :: fs => max (dpF f) (dpL fs)
end
theorem lvsF_eq (f : Fm) : lvsF f = if f.l.isEmpty then 1 else lvsL f.l := by cases f; rw [lvsF]; rfl
theorem dpF_eq (f : Fm) : dpF f = if f.l.isEmpty then 0 else dpL f.l + costK f.k := by cases f; rw [dpF]; rfl
theorem lvsL_take {l : List Fm} : ∀ {j : Nat}, j < l.length → lvsL (l.take (j + 1)) = lvsL (l.take j) + lvsF (kd l j) := by
  induction l with
  | nil => intro j h; simp at h
  | cons f fs ih =>
    intro j h
    cases j with
    | zero => simp [lvsL, kd_zero]
    | succ j => rw [kd_succ, List.take_succ_cons, List.take_succ_cons, lvsL, lvsL, ih (by simpa using h)]; omega
theorem dpL_take {l : List Fm} : ∀ {j : Nat}, j < l.length → dpL (l.take (j + 1)) = max (dpL (l.take j)) (dpF (kd l j)) := by
  induction l with
  | nil => intro j h; simp at h
  | cons f fs ih =>
    intro j h
    cases j with
    | zero => simp [dpL, kd_zero]
    | succ j => rw [kd_succ, List.take_succ_cons, List.take_succ_cons, dpL, dpL, ih (by simpa using h)]; omega
theorem lvs_le_cnt_aux : ∀ (N : Nat) (f : Fm), cntF f ≤ N → lvsF f ≤ cntF f ∧ dpF f ≤ 2 * cntF f := by
  intro N
  induction N with
  | zero => intro f h; have := cntF_pos f; omega
  | succ N ih =>
    intro f h
    have key : ∀ l : List Fm, cntL l ≤ N → lvsL l ≤ cntL l ∧ dpL l ≤ 2 * cntL l := by
      intro l
      induction l with
      | nil => intro _; simp [lvsL, cntL, dpL]
      | cons g gs ih2 =>
        intro h2
        rw [cntL] at h2
        rw [lvsL, cntL, dpL]
        have := ih g (by omega)
        have := ih2 (by omega)
        omega
    rw [cntF_eq] at h ⊢
    rw [lvsF_eq, dpF_eq]
    have := key f.l (by omega)
    unfold costK
    split <;> (try split) <;> (try split) <;> omega
theorem lvs_le_cnt (f : Fm) : lvsF f ≤ cntF f := (lvs_le_cnt_aux _ f (Nat.le_refl _)).1
theorem dp_le_cnt (f : Fm) : dpF f ≤ 2 * cntF f := (lvs_le_cnt_aux _ f (Nat.le_refl _)).2

set_option maxRecDepth 100000 in
set_option maxHeartbeats 1000000 in
theorem node_any (f : Fm) (A : Option Addr) (c : Nat) (w : World) :
    Calls Tryd.prog 78 #[fmV f A c] w fun e w' => e = .returned (.bool (nodeB f.k f.n f.l.length)) ∧ Kept w w' := by
  unfold fmV
  generalize f.k = k
  generalize f.n = n
  generalize f.l.length = m
  have K0 : Kept w (w.alloc (.cells #[.int .i64 k, .int .i64 n, .slice A m c] 48)) := kept_alloc (kept_refl w) _
  by_cases k0 : k = 0
  · subst k0
    go_enter Tryd.func78, Tryd.ntmps78
    go_wp2_with fail
    all_goals (go_ret; refine ⟨ret_bool ?_, kept_alloc (kept_refl _) _⟩; unfold nodeB; rw [Bool.eq_iff_iff]; simp; omega)
  · have b0 : (k == 0) = false := beq_eq_false_iff_ne.2 k0
    by_cases k1 : k = 1
    · subst k1
      go_enter Tryd.func78, Tryd.ntmps78
      go_wp2_with fail
      all_goals (go_ret; refine ⟨ret_bool ?_, kept_alloc (kept_refl _) _⟩; unfold nodeB; rw [Bool.eq_iff_iff]; simp; omega)
    · have b1 : (k == 1) = false := beq_eq_false_iff_ne.2 k1
      by_cases k2 : k = 2
      · subst k2
        go_enter Tryd.func78, Tryd.ntmps78
        go_wp2_with fail
        all_goals (go_ret; refine ⟨ret_bool ?_, kept_alloc (kept_refl _) _⟩; unfold nodeB; rw [Bool.eq_iff_iff]; simp; omega)
      · have b2 : (k == 2) = false := beq_eq_false_iff_ne.2 k2
        by_cases k3 : k = 3 ∨ k = 4 ∨ k = 5
        · rcases k3 with rfl | rfl | rfl
          all_goals
            go_enter Tryd.func78, Tryd.ntmps78
            go_wp2_with fail
            all_goals (go_ret; refine ⟨ret_bool ?_, kept_alloc (kept_refl _) _⟩; unfold nodeB; rw [Bool.eq_iff_iff]; simp; omega)
        · have b3 : (k == 3) = false := beq_eq_false_iff_ne.2 (by omega)
          have b4 : (k == 4) = false := beq_eq_false_iff_ne.2 (by omega)
          have b5 : (k == 5) = false := beq_eq_false_iff_ne.2 (by omega)
          have hn : nodeB k n m = false := by unfold nodeB; rw [if_neg k0, if_neg k1, if_neg k2, if_neg k3]
          have HN := Lib.hid hn
          clear k0 k1 k2 k3 hn
          go_enter Tryd.func78, Tryd.ntmps78
          go_wp2_with fail
          go_ret
          exact ⟨ret_bool HN.out.symm, K0⟩

/-! ### The walk -/

/-- All but block g is as it was. -/
abbrev KG (g : Nat) (w w' : World) : Prop := w.grownBy w' (some g)
theorem kg_of {g : Nat} {w w' : World} (k : Kept w w') : KG g w w' := ⟨k.os, k.tape, k.output, k.size, fun i hi _ => k.block i hi⟩
theorem kg_trans {g : Nat} {a b c : World} (h : KG g a b) (k : KG g b c) : KG g a c := World.grownBy.trans h k
theorem kg_set {g : Nat} {w w' : World} (h : KG g w w') (j : Nat) (v : Value) : KG g w (w'.setCell ⟨g, j, none⟩ v) :=
  kg_trans h ⟨rfl, rfl, rfl, by simp, fun i hi ne => Below.heap_setCell w' ⟨g, j, none⟩ v i (fun e => ne (by rw [e]))⟩
theorem kept_kg {g : Nat} {w0 w w' : World} (hK : Kept w0 w) (h : KG g w w') (hg : w0.heap.size ≤ g) : Kept w0 w' := hK.grown h hK.size (fun k e => by cases e; exact hg)
theorem Own.kg {g b : Nat} {e : TypeId} {cs : List Value} {w w' : World} (h : Own w b e cs) (k : KG g w w') (ne : b ≠ g) : Own w' b e cs := h.grown k (fun h => ne (by injection h))

/-- A shape: nodes, size, depth, inputs, nesting. -/
def shape5 (a b d i n : Int) : List Value := [.int .i64 a, .int .i64 b, .int .i64 d, .int .i64 i, .int .i64 n]
def WalkPost (f : Fm) (g : Nat) (a b d i n : Int) (w : World) (e : Ending) (w' : World) : Prop :=
  ∃ dd a' b' i' : Int, e = .returned (.tuple #[.int .i64 dd, .bool (shpF f)]) ∧ KG g w w' ∧ Own w' g 81 (shape5 a' b' d i' n) ∧
    (shpF f = true → a' = a + cntF f ∧ b' = b + lvsF f ∧ i' = max i (inpF f) ∧ dd = dpF f)

section
variable {P : Program} (w : World) {ops : Array Oper} {rest : List Oper} {o : Oper} {a : Act} {Q : Exit → Act → World → Prop}
/-- An entry of a map's literal. -/
theorem wpList_insert_own {H : Type} (hg : o.guard = none) (m x v : Operand) (t : TypeId) (hop : o.op = Op.insert t m x v)
    (k e : TypeId) (K : Keyed P k) (ht : P.underlying t = some (.map k e)) (R : Value → Option (DataW H × List MemPlace)) (b n : Nat) (D : DataW H)
    (hm : a.eval m = .map (some b)) (hown : w.ownsMap P k R b n D) (hn : n < maxLen) (key val : Value) (kl : Lit) (hx : a.eval x = key) (hv : a.eval v = val) (hkey : keyOf P k key = some kl)
    (d : DataW H) (ps : List MemPlace) (hval : R val = some (d, ps))
    (hK : ∀ w', w'.ownsMap P k R b (n + 1) (D.put kl d) → w.grownBy w' (some b) → wpList P ops Q rest (a.put o.dst undef) w') :
    wpList P ops Q (o :: rest) a w := by
  refine wpList_plain hg fun K' hK' => ?_
  obtain ⟨w', hrun, r1, r2⟩ := hown.update K ht hn hkey hval
  unfold Oper.wp
  simp [execOp, hop, hm, hx, hv, hrun, Result.andThen]
  exact hK' _ _ (hK w' r1 r2)
end
end Go.Proofs.YtikfeemmjfoffaaDoor
