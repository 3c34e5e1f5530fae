/- Trees: the tree below a node, the reference's, walked. -/
import Derived.Test.YtikfeemmjfoffaaGreatDoorT5
import Derived.Test.YtikfeemmjfoffaaGreatDoorU2
import Derived.Test.YtikfeemmjfoffaaGreatDoorC13
set_option linter.unusedVariables false
set_option linter.unusedSimpArgs false
namespace Go.Proofs.YtikfeemmjfoffaaGreatDoor
open Go.RowKit Go.Shelf

theorem rows_apart {w : World} {B B' sz sz' n n' : Nat} {e e' : TypeId} {v v' : Value} {cs cs' : List Value} (h : w.ownsRow B e sz v n cs) (h' : w.ownsRow B' e' sz' v' n' cs') (ne : e ≠ e') : v.ownBlock = none ∨ v.ownBlock ≠ v'.ownBlock := by
  rcases h.2 with ⟨rfl, _⟩ | ⟨g, cap, cur, rfl, _, hg, _⟩
  · exact .inl rfl
  · refine .inr fun e0 => ?_
    rcases h'.2 with ⟨rfl, _⟩ | ⟨g', cap', cur', rfl, _, hg', _⟩
    · simp [Value.ownBlock] at e0
    · simp only [Value.ownBlock, Option.some.injEq] at e0
      have e1 : g = g' := by simpa using e0
      subst e1
      rw [hg] at hg'
      injection hg' with hg'
      injection hg' with _ h2
      exact ne h2
def Apt (u v : Value) : Prop := u.ownBlock = none ∨ u.ownBlock ≠ v.ownBlock
theorem Apt.symm {u v : Value} (h : Apt u v) : Apt v u := by
  rcases h with h | h
  · by_cases hv : v.ownBlock = none
    · exact .inl hv
    · exact .inr (by rw [h]; exact hv)
  · exact .inr (Ne.symm h)
theorem apt_new {w : World} {B e sz n : Nat} {u v v1 : Value} {cs : List Value} (hu : w.ownsRow B e sz u n cs) (h : Apt u v) (hn : v1.ownBlock = v.ownBlock ∨ v1.ownBlock = some w.heap.size) : Apt u v1 := by
  rcases hn with hn | hn
  · unfold Apt
    rw [hn]
    exact h
  · cases hb : u.ownBlock with
    | none => exact .inl hb
    | some b =>
      refine .inr ?_
      rw [hb, hn]
      intro e0
      injection e0 with e0
      have := (hu.lt b hb).2
      omega
theorem blk_ne {w : World} {B e sz n g : Nat} {v : Value} {cs : List Value} (h : w.ownsRow B e sz v n cs) (hg : g < B) : some g ≠ v.ownBlock := by
  intro e0
  have := (h.lt g e0.symm).1
  omega
def zero4 : List Value := [.int .i64 0, .int .i64 0, .slice none 0 0, .slice none 0 0]
/-- The memory of Below. -/
structure MemB (w : World) (g : Nat) (V : List Value) (H b : Int) (vL vT v7 v9 : Value) (lv : List Int) (tb : List Value) (r7 r9 : List Int) (wx : World) : Prop where
  o2 : Own wx g 27 V
  o4 : Own wx (g + 1) 27 zero4
  o5 : Own wx (g + 2) 27 [.int .i64 H, .int .i64 b, vL, vT]
  rL : wx.ownsRow (g + 3) 3 1 vL lv.length (ints lv)
  rT : wx.ownsRow (g + 3) 24 1 vT tb.length tb
  w7 : wx.ownsRow (g + 3) 3 1 v7 r7.length (ints r7)
  w9 : wx.ownsRow (g + 3) 3 1 v9 r9.length (ints r9)
  a1 : Apt vL v7
  a2 : Apt vL v9
  a3 : Apt v7 v9
  hg : w.heap.size ≤ g
  k : Kept w wx
section
variable {w W w1 wy : World} {g : Nat} {V : List Value} {H b : Int} {vL vT v7 v9 v : Value} {lv : List Int} {tb : List Value} {r7 r9 : List Int}
theorem MemB.step (h : MemB w g V H b vL vT v7 v9 lv tb r7 r9 W) (k : Kept W wy) : MemB w g V H b vL vT v7 v9 lv tb r7 r9 wy :=
  ⟨h.o2.kept k, h.o4.kept k, h.o5.kept k, row_kept h.rL k, row_kept h.rT k, row_kept h.w7 k, row_kept h.w9 k, h.a1, h.a2, h.a3, h.hg, kept_trans h.k k⟩
theorem MemB.app9 (h : MemB w g V H b vL vT v7 v9 lv tb r7 r9 W) {ys : List Int} (hr : w1.ownsRow (g + 3) 3 1 v (r9.length + ys.length) (ints r9 ++ ints ys)) (hg : W.grownBy w1 v9.ownBlock) (hn : v.ownBlock = v9.ownBlock ∨ v.ownBlock = some W.heap.size) : MemB w g V H b vL vT v7 v lv tb r7 (r9 ++ ys) w1 :=
  ⟨h.o2.grown hg (blk_ne h.w9 (by omega)), h.o4.grown hg (blk_ne h.w9 (by omega)), h.o5.grown hg (blk_ne h.w9 (by omega)), h.rL.kept hg h.a2, h.rT.kept hg (rows_apart h.rT h.w9 (by decide)), h.w7.kept hg h.a3, by rw [List.length_append, show ints (r9 ++ ys) = ints r9 ++ ints ys by simp [ints]]; exact hr, h.a1, apt_new h.rL h.a2 hn, apt_new h.w7 h.a3 hn, h.hg, kept_grown h.k h.w9 (by have := h.hg; omega) hg⟩
theorem MemB.appT (h : MemB w g V H b vL vT v7 v9 lv tb r7 r9 W) {y : Value} (hr : w1.ownsRow (g + 3) 24 1 v (tb.length + 1) (tb ++ [y])) (hg : W.grownBy w1 vT.ownBlock) : MemB w g V H b vL v v7 v9 lv (tb ++ [y]) r7 r9 (w1.setCell ⟨g + 2, 3, none⟩ v) :=
  ⟨(h.o2.grown hg (blk_ne h.rT (by omega))).other (by dsimp only; omega) _, (h.o4.grown hg (blk_ne h.rT (by omega))).other (by dsimp only; omega) _, (h.o5.grown hg (blk_ne h.rT (by omega))).set 3 v, ownsRow_setCell_below (h.rL.kept hg (rows_apart h.rL h.rT (by decide))) (a := ⟨g + 2, 3, none⟩) (by dsimp only; omega) _, ownsRow_setCell_below (by rw [List.length_append]; exact hr) (a := ⟨g + 2, 3, none⟩) (by dsimp only; omega) _, ownsRow_setCell_below (h.w7.kept hg (rows_apart h.w7 h.rT (by decide))) (a := ⟨g + 2, 3, none⟩) (by dsimp only; omega) _, ownsRow_setCell_below (h.w9.kept hg (rows_apart h.w9 h.rT (by decide))) (a := ⟨g + 2, 3, none⟩) (by dsimp only; omega) _, h.a1, h.a2, h.a3, h.hg, kept_set (kept_grown h.k h.rT (by have := h.hg; omega) hg) (by have := h.hg; omega) _⟩
theorem MemB.appL (h : MemB w g V H b vL vT v7 v9 lv tb r7 r9 W) {y : Int} (hr : w1.ownsRow (g + 3) 3 1 v (lv.length + 1) (ints lv ++ [.int .i64 y])) (hg : W.grownBy w1 vL.ownBlock) (hn : v.ownBlock = vL.ownBlock ∨ v.ownBlock = some W.heap.size) : MemB w g V H b v vT v7 v9 (lv ++ [y]) tb r7 r9 (w1.setCell ⟨g + 2, 2, none⟩ v) :=
  ⟨(h.o2.grown hg (blk_ne h.rL (by omega))).other (by dsimp only; omega) _, (h.o4.grown hg (blk_ne h.rL (by omega))).other (by dsimp only; omega) _, (h.o5.grown hg (blk_ne h.rL (by omega))).set 2 v, ownsRow_setCell_below (by rw [List.length_append, show ints (lv ++ [y]) = ints lv ++ [.int .i64 y] by simp [ints]]; exact hr) (a := ⟨g + 2, 2, none⟩) (by dsimp only; omega) _, ownsRow_setCell_below (h.rT.kept hg (rows_apart h.rT h.rL (by decide))) (a := ⟨g + 2, 2, none⟩) (by dsimp only; omega) _, ownsRow_setCell_below (h.w7.kept hg h.a1.symm) (a := ⟨g + 2, 2, none⟩) (by dsimp only; omega) _, ownsRow_setCell_below (h.w9.kept hg h.a2.symm) (a := ⟨g + 2, 2, none⟩) (by dsimp only; omega) _, (apt_new h.w7 h.a1.symm hn).symm, (apt_new h.w9 h.a2.symm hn).symm, h.a3, h.hg, kept_set (kept_grown h.k h.rL (by have := h.hg; omega) hg) (by have := h.hg; omega) _⟩
/-- The next row becomes the row. -/
theorem MemB.turn (h : MemB w g V H b vL vT v7 v9 lv tb r7 r9 W) : MemB w g V H b vL vT v9 (.slice none 0 0) lv tb r9 [] W :=
  ⟨h.o2, h.o4, h.o5, h.rL, h.rT, h.w9, World.ownsRow_nil _ _ _ _, h.a2, (show Apt (.slice none 0 0) vL from .inl rfl).symm, (show Apt (.slice none 0 0) v9 from .inl rfl).symm, h.hg, h.k⟩
theorem MemB.high (h : MemB w g V H b vL vT v7 v9 lv tb r7 r9 W) (x : Int) : MemB w g V x b vL vT v7 v9 lv tb r7 r9 (W.setCell ⟨g + 2, 0, none⟩ (.int .i64 x)) :=
  ⟨h.o2.other (by dsimp only; omega) _, h.o4.other (by dsimp only; omega) _, h.o5.set 0 _, ownsRow_setCell_below h.rL (a := ⟨g + 2, 0, none⟩) (by dsimp only; omega) _, ownsRow_setCell_below h.rT (a := ⟨g + 2, 0, none⟩) (by dsimp only; omega) _, ownsRow_setCell_below h.w7 (a := ⟨g + 2, 0, none⟩) (by dsimp only; omega) _, ownsRow_setCell_below h.w9 (a := ⟨g + 2, 0, none⟩) (by dsimp only; omega) _, h.a1, h.a2, h.a3, h.hg, kept_set h.k (by have := h.hg; omega) _⟩
theorem MemB.one (h : MemB w g V H b vL vT v7 v9 lv tb r7 [] W) (hl : vL = .slice none 0 0) (h9 : v9 = .slice none 0 0) (x : Int) : MemB w g V H b vL vT (.slice (some ⟨W.heap.size, 0, none⟩) 1 1) v9 lv tb [x] [] (W.alloc (.cells #[.int .i64 x] 3)) := by
  have h' := h.step (kept_alloc (kept_refl W) (.cells #[.int .i64 x] 3))
  have o := Own.new W 3 (ints [x])
  have := h.o5.lt
  exact ⟨h'.o2, h'.o4, h'.o5, h'.rL, h'.rT, o.row (g + 3) 1 1 (by omega) rfl (by omega), h'.w9, .inl (by rw [hl]; rfl), h'.a2, (show Apt v9 _ from .inl (by rw [h9]; rfl)).symm, h'.hg, h'.k⟩
end
def seqI (a m : Nat) : List Int := (List.range m).map fun i => ((a + i : Nat) : Int)
theorem seqI_len (a m : Nat) : (seqI a m).length = m := by simp [seqI]
theorem seqI_get {a m i : Nat} (h : i < m) : ia (seqI a m) i = ((a + i : Nat) : Int) := by simp [ia, seqI, h]
theorem seqI_two (a i : Nat) : seqI (2 * a + 1) (2 * (i + 1)) = seqI (2 * a + 1) (2 * i) ++ [((2 * (a + i) + 1 : Nat) : Int), ((2 * (a + i) + 2 : Nat) : Int)] := by
  unfold seqI
  rw [show 2 * (i + 1) = 2 * i + 1 + 1 by omega, List.range_succ, List.range_succ, List.map_append, List.map_append, List.append_assoc]
  simp
  omega
theorem seqI_next {n hh a : Nat} (ha : a = 2 ^ hh * (n + 1) - 1) : seqI (2 * a + 1) (2 * 2 ^ hh) = seqI (2 ^ (hh + 1) * (n + 1) - 1) (2 ^ (hh + 1)) := by
  have h1 := Nat.two_pow_pos hh
  have h2 : 1 ≤ 2 ^ hh * (n + 1) := Nat.mul_pos h1 (by omega)
  rw [show 2 ^ (hh + 1) = 2 * 2 ^ hh by rw [Nat.pow_succ, Nat.mul_comm], Nat.mul_assoc, ha]
  congr 1
  omega
theorem infoS : (Tryz.prog.info? 24).map (fun i => (i.zero, i.size, i.bytes)) = some (some (.slice none 0 0), 1, 24) := by kernel_rfl
def BelowPost (t : Tr) (n : Nat) (w : World) (e : Ending) (w' : World) : Prop := ∃ (u : Tr) (A' : Option Addr) (c' : Nat) (T' : Option Addr) (d' : Nat), e = .returned (trV u A' c' T' d') ∧ Good u ∧ valW u 0 = valW t n ∧ Rd w' A' (ints u.lv) ∧ RT w' T' u.tb ∧ Kept w w'
def tbsL (F : Nat → Value) (n k : Nat) : List Value := (List.range k).map fun j => F (mapN n j)
theorem tbsL_len (F : Nat → Value) (n k : Nat) : (tbsL F n k).length = k := by simp [tbsL]
theorem tbsL_succ (F : Nat → Value) (n k : Nat) : tbsL F n (k + 1) = tbsL F n k ++ [F (mapN n k)] := by simp [tbsL, List.range_succ]
def lvsL (t : Tr) (a i : Nat) : List Int := (List.range i).map fun j => t.lv.getD (a + j - t.tb.length) 0
theorem lvsL_len (t : Tr) (a i : Nat) : (lvsL t a i).length = i := by simp [lvsL]
theorem lvsL_succ (t : Tr) (a i : Nat) : lvsL t a (i + 1) = lvsL t a i ++ [t.lv.getD (a + i - t.tb.length) 0] := by simp [lvsL, List.range_succ]
theorem cells_choose {ls : List (List Int)} {w : World} {T : Option Addr} (hT : RT w T ls) : ∃ F : Nat → Value, ∀ x, x < ls.length → ∃ b off A c, T = some ⟨b, off, none⟩ ∧ w.cell? ⟨b, off + x, none⟩ = some (F x) ∧ F x = .slice A (ls.getD x []).length c ∧ Rd w A (ints (ls.getD x [])) ∧ (ls.getD x []).length ≤ 140737488355328 := by
  refine Classical.axiomOfChoice (r := fun (x : Nat) (v : Value) => x < ls.length → ∃ b off A c, T = some ⟨b, off, none⟩ ∧ w.cell? ⟨b, off + x, none⟩ = some v ∧ v = .slice A (ls.getD x []).length c ∧ Rd w A (ints (ls.getD x [])) ∧ (ls.getD x []).length ≤ 140737488355328) fun x => ?_
  by_cases hx : x < ls.length
  · obtain ⟨b, off, A, c, e, h1, h2, h3⟩ := hT x hx
    exact ⟨_, fun _ => ⟨b, off, A, c, e, h1, rfl, h2, h3⟩⟩
  · exact ⟨.bool false, fun h => absurd h hx⟩
end Go.Proofs.YtikfeemmjfoffaaGreatDoor
