/- Formula of a valid program. -/
import Derived.Test.YtinpmdekdfgiiaaQ1
set_option linter.unusedVariables false
set_option linter.unusedSimpArgs false
namespace Go.Proofs.Ytinpmdekdfgiiaa
open Go.RowKit

abbrev mnL1 (l : List Nd) (j : Nat) : List Int := tl (fun k => (((mn l k).1 : Nat) : Int)) l.length j
abbrev mnL2 (l : List Nd) (j : Nat) : List Int := tl (fun k => (((mn l k).2 : Nat) : Int)) l.length j
/-- What holds while Formula counts. -/
structure FoEnv (w wr : World) (b1 b2 : Nat) (n s : Int) (A : Option Addr) (c : Nat) (l : List Nd) (L1 L2 : List Int) : Prop where
  o0 : Own wr w.heap.size 24 [.int .i64 n, .int .i64 s, .slice A l.length c]
  oR : Own wr (w.heap.size + 1) 52 [.int .i64 0, .int .i64 0, .slice none 0 0]
  m1 : Own wr b1 3 (ints L1)
  m2 : Own wr b2 3 (ints L2)
  K : Kept w wr
theorem FoEnv.kept {w wr wx : World} {b1 b2 : Nat} {n s : Int} {A : Option Addr} {c : Nat} {l : List Nd} {L1 L2 : List Int} (h : FoEnv w wr b1 b2 n s A c l L1 L2) (k : Kept wr wx) : FoEnv w wx b1 b2 n s A c l L1 L2 :=
  ⟨h.o0.kept k, h.oR.kept k, h.m1.kept k, h.m2.kept k, kept_trans h.K k⟩
theorem FoEnv.set1 {w wr : World} {b1 b2 : Nat} {n s : Int} {A : Option Addr} {c : Nat} {l : List Nd} {L1 L2 : List Int} (h : FoEnv w wr b1 b2 n s A c l L1 L2) (h1 : w.heap.size + 1 < b1) (h2 : b1 ≠ b2 ∧ w.heap.size + 1 < b2) (j : Nat) (v : Int) : FoEnv w (wr.setCell ⟨b1, j, none⟩ (.int .i64 v)) b1 b2 n s A c l (L1.set j v) L2 :=
  ⟨h.o0.other (by simp; omega) _, h.oR.other (by simp; omega) _, h.m1.setInt j v, h.m2.other (by simp; omega) _, kept_set h.K (by omega) _⟩
theorem FoEnv.set2 {w wr : World} {b1 b2 : Nat} {n s : Int} {A : Option Addr} {c : Nat} {l : List Nd} {L1 L2 : List Int} (h : FoEnv w wr b1 b2 n s A c l L1 L2) (h1 : w.heap.size + 1 < b1) (h2 : b1 ≠ b2 ∧ w.heap.size + 1 < b2) (j : Nat) (v : Int) : FoEnv w (wr.setCell ⟨b2, j, none⟩ (.int .i64 v)) b1 b2 n s A c l L1 (L2.set j v) :=
  ⟨h.o0.other (by simp; omega) _, h.oR.other (by simp; omega) _, h.m1.other (by simp; omega) _, h.m2.setInt j v, kept_set h.K (by omega) _⟩

theorem FoEnv.cast {w wr : World} {b1 b2 : Nat} {n s : Int} {A : Option Addr} {c : Nat} {l : List Nd} {L1 L2 L1' L2' : List Int} (h : FoEnv w wr b1 b2 n s A c l L1 L2) (e1 : L1 = L1') (e2 : L2 = L2') : FoEnv w wr b1 b2 n s A c l L1' L2' := e1 ▸ e2 ▸ h
theorem mb_le {l : List Nd} {m : Nat × Nat} {z o : Int} {r : Nat} (h : m = (6, 1) ∨ m = mnA z (mn l z.toNat) (6, 1)) : m.1 ≤ 40001 := by
  rcases h with rfl | rfl
  · simp
  · unfold mnA; split <;> (dsimp only; omega)
end Go.Proofs.Ytinpmdekdfgiiaa
