/- Frames by ranges of blocks, and the functions that overwrite memory: SpoilInts, SpoilBools, spoil. -/
import Derived.Test.YtinpmdekdfgiiaaJ1
import Derived.Test.YtinpmdekdfgiiaaLib4
set_option linter.unusedVariables false
set_option linter.unusedSimpArgs false
namespace Go.Proofs.Ytinpmdekdfgiiaa
open Go.RowKit

/-- Of the old blocks only those of a range may have changed. -/
structure Chg (lo hi : Nat) (w w' : World) : Prop where
  os : w'.os = w.os
  tape : w'.tape = w.tape
  output : w'.output = w.output
  size : w.heap.size ≤ w'.heap.size
  block : ∀ k, k < w.heap.size → (k < lo ∨ hi ≤ k) → w'.heap[k]? = w.heap[k]?
theorem chg_refl (lo hi : Nat) (w : World) : Chg lo hi w w := ⟨rfl, rfl, rfl, Nat.le_refl _, fun _ _ _ => rfl⟩
theorem chg_kept {lo hi : Nat} {a b c : World} (h : Chg lo hi a b) (k : Kept b c) : Chg lo hi a c :=
  ⟨by rw [k.os, h.os], by rw [k.tape, h.tape], by rw [k.output, h.output], Nat.le_trans h.size k.size, fun i hi hn => (k.block i (Nat.lt_of_lt_of_le hi h.size)).trans (h.block i hi hn)⟩
theorem chg_trans {lo hi : Nat} {a b c : World} (h : Chg lo hi a b) (k : Chg lo hi b c) : Chg lo hi a c :=
  ⟨by rw [k.os, h.os], by rw [k.tape, h.tape], by rw [k.output, h.output], Nat.le_trans h.size k.size, fun i hi hn => (k.block i (Nat.lt_of_lt_of_le hi h.size) hn).trans (h.block i hi hn)⟩
theorem chg_set {lo hi : Nat} {a b : World} (h : Chg lo hi a b) {g : Nat} (hg : (lo ≤ g ∧ g < hi) ∨ a.heap.size ≤ g) (j : Nat) (v : Value) : Chg lo hi a (b.setCell ⟨g, j, none⟩ v) :=
  ⟨h.os, h.tape, h.output, by simpa using h.size, fun i hi hn => (Below.heap_setCell b ⟨g, j, none⟩ v i (by dsimp only; omega)).trans (h.block i hi hn)⟩
theorem chg_grown {lo hi : Nat} {a b c : World} (h : Chg lo hi a b) {r : Option Nat} (k : b.grownBy c r) (hr : ∀ g, r = some g → (lo ≤ g ∧ g < hi) ∨ a.heap.size ≤ g) : Chg lo hi a c :=
  ⟨by rw [k.os, h.os], by rw [k.tape, h.tape], by rw [k.output, h.output], Nat.le_trans h.size k.size, fun i hi hn => (k.block i (Nat.lt_of_lt_of_le hi h.size) (fun e => by have := hr i e.symm; omega)).trans (h.block i hi hn)⟩
theorem Own.chg {lo hi : Nat} {w w' : World} {g : Nat} {e : TypeId} {cs : List Value} (h : Own w g e cs) (k : Chg lo hi w w') (n : g < lo ∨ hi ≤ g) : Own w' g e cs := h.of_block (k.block g h.lt n)
theorem kept_chg {lo hi : Nat} {a b c : World} (h : Kept a b) (k : Chg lo hi b c) (hl : a.heap.size ≤ lo) : Kept a c :=
  ⟨by rw [k.os, h.os], by rw [k.tape, h.tape], by rw [k.output, h.output], Nat.le_trans h.size k.size, fun i hi => (k.block i (Nat.lt_of_lt_of_le hi h.size) (.inl (by omega))).trans (h.block i hi)⟩

theorem srow_at {w : World} {B e sz n g c : Nat} {xs : List Value} (h : w.ownsRow B e sz (.slice (some ⟨g, 0, none⟩) n c) n xs) {j : Nat} {u : Value} (hj : xs[j]? = some u) : w.cell? ⟨g, j, none⟩ = some u := by
  have := (row_rd h).at_ (by intro h0; rw [h0] at hj; simp at hj)
  obtain ⟨b, off, e, hc⟩ := this
  injection e with e
  injection e with e1 e2 _
  subst e1; subst e2
  simpa using hc j u hj
theorem srow_free {w : World} {B e sz n g c : Nat} {xs : List Value} (h : w.ownsRow B e sz (.slice (some ⟨g, 0, none⟩) n c) n xs) (j : Nat) : w.frozen? ⟨g, j, none⟩ = false := by
  rcases h.2 with ⟨e0, _⟩ | ⟨g', cap', cur, e0, hb, hg, _⟩
  · cases e0
  · injection e0 with e1 _ _
    injection e1 with e1
    injection e1 with e1
    subst e1
    simp [World.frozen?, hg]
theorem srow_set {w : World} {B e sz n g c : Nat} {xs : List Value} (h : w.ownsRow B e sz (.slice (some ⟨g, 0, none⟩) n c) n xs) (j : Nat) (u : Value) : (w.setCell ⟨g, j, none⟩ u).ownsRow B e sz (.slice (some ⟨g, 0, none⟩) n c) n (xs.set j u) := by
  rcases h.2 with ⟨e0, _⟩ | ⟨g', cap', cur, e0, hb, hg, hn, hm, hs, ht⟩
  · cases e0
  · injection e0 with e1 _ e3
    injection e1 with e1
    injection e1 with e1
    subst e1; subst e3
    refine ⟨by rw [List.length_set]; exact h.1, .inr ⟨g, c, cur.setIfInBounds j u, rfl, hb, ?_, hn, hm, by simpa using hs, ?_⟩⟩
    · have o : Own w g e cur.toList := by unfold Own; simpa using hg
      have := o.set j u
      unfold Own at this
      rw [this]
      congr 2
      apply Array.ext'
      simp
    · rw [Array.toList_setIfInBounds, ← ht, List.take_set]
theorem srow_some {w : World} {B e sz n c : Nat} {A : Option Addr} {xs : List Value} (h : w.ownsRow B e sz (.slice A n c) n xs) (hn : 0 < n) : ∃ g, A = some ⟨g, 0, none⟩ := by
  rcases h.2 with ⟨e0, h0⟩ | ⟨g', cap', cur, e0, _⟩
  · omega
  · injection e0 with e1 _ _
    exact ⟨g', e1⟩

def NoneIn (lo hi : Nat) (v : Value) : Prop := ∀ b, v.ownBlock = some b → lo ≤ b ∧ b < hi
def SpPost (lo hi : Nat) (w : World) (e : Ending) (w' : World) : Prop := e = .returned (.tuple #[]) ∧ Chg lo hi w w'

set_option maxRecDepth 100000 in
set_option maxHeartbeats 1000000 in
theorem spoilInts_any (lo hi B : Nat) (A : Option Addr) (c : Nat) (l : List Int) (w : World) (h : w.ownsRow B 3 1 (.slice A l.length c) l.length (ints l)) (hr : NoneIn lo hi (.slice A l.length c)) (hl : l.length ≤ 1000000) (hB : B ≤ w.heap.size) :
    Calls Try.prog 53 #[.slice A l.length c] w (SpPost lo hi w) := by
  obtain ⟨n, hn⟩ : ∃ n, n = l.length := ⟨_, rfl⟩
  rw [← hn] at h hr hl ⊢
  have HN := Lib.hid hn; clear hn
  go_enter Try.func53, Try.ntmps53
  go_wp2_with fail
  go_loopg [2] n (fun g' s2 wr => ∃ (i : Nat) (xs : List Int), i ≤ n ∧ g' = n - i ∧ s2 = .int .i64 i ∧ xs.length = n ∧ wr.ownsRow B 3 1 (.slice A n c) n (ints xs) ∧ Chg lo hi w wr)
  case atStart => exact ⟨0, l, by omega, rfl, rfl, HN.out.symm, h, chg_refl _ _ _⟩
  case round =>
    clear h
    obtain ⟨i, xs, hi', rfl, rfl, hx, h, K⟩ := hrel
    have HX := Lib.hid hx
    by_cases hlt : i < n
    · obtain ⟨g, rfl⟩ := srow_some h (by omega)
      have hg := hr g rfl
      have q := srow_at h (ints_get xs i (by omega))
      have f := srow_free h i
      have e0 : (0 : Int) ≤ (i : Int) := by omega
      have e1 : (i : Int) < (n : Int) := by omega
      clear hx
      go_wp2_with fail
      have h' := srow_set h i (.int .i64 (-7))
      rw [ints_set] at h'
      go_roundg (n - (i + 1))
      case rel => exact ⟨i + 1, xs.set i (-7), by omega, rfl, by go_num, by rw [List.length_set]; exact HX.out, h', chg_set K (.inl hg) _ _⟩
      case measure => omega
    · have : i = n := by omega
      subst this
      clear hx hlt
      have hBr : B ≤ wr.heap.size := Nat.le_trans hB K.size
      go_wp2_with (at_builtin; go_loud (refine app_int B rfl (.tmp 12) (.tmp 13) 36 3 rfl Try.underlying36 info3 (.slice A i c) i xs (-8) rfl rfl h hBr (by omega) ?_; intro v7 w7 hr7 hg7 hat7; obtain ⟨A9, c9, rfl, hr9⟩ := row_form hr7; obtain ⟨g9, rfl⟩ := srow_some hr9 (by omega); have q := srow_at hr9 (ints_get (xs ++ [-8]) 0 (by simp)); have f := srow_free hr9 0))
      have h9 : (lo ≤ g9 ∧ g9 < hi) ∨ w.heap.size ≤ g9 := by
        rcases hat7 with e | ⟨b, e, hb⟩
        · exact .inl (hr g9 e.symm)
        · right
          have : g9 = b := by injection e
          have := K.size
          omega
      go_end0
      exact ⟨rfl, chg_set (chg_grown K hg7 (fun g e => .inl (hr g e))) h9 _ _⟩
theorem infoS4 : (Try.prog.info? 4).map (fun i => (i.zero, i.size, i.bytes)) = some (some (.bool false), 1, 1) := by kernel_rfl
theorem infoS48 : (Try.prog.info? 48).map (fun i => (i.zero, i.size, i.bytes)) = some (some (.agg #[.int .i64 0, .int .i64 0, .int .i64 0]), 3, 24) := by kernel_rfl
set_option maxRecDepth 100000 in
set_option maxHeartbeats 1000000 in
theorem spoilBools_any (lo hi B : Nat) (A : Option Addr) (c : Nat) (l : List Bool) (w : World) (h : w.ownsRow B 4 1 (.slice A l.length c) l.length (bools l)) (hr : NoneIn lo hi (.slice A l.length c)) (hl : l.length ≤ 1000000) (hB : B ≤ w.heap.size) :
    Calls Try.prog 52 #[.slice A l.length c] w (SpPost lo hi w) := by
  obtain ⟨n, hn⟩ : ∃ n, n = l.length := ⟨_, rfl⟩
  rw [← hn] at h hr hl ⊢
  have HN := Lib.hid hn; clear hn
  go_enter Try.func52, Try.ntmps52
  go_wp2_with fail
  go_loopg [2] n (fun g' s2 wr => ∃ (i : Nat) (xs : List Bool), i ≤ n ∧ g' = n - i ∧ s2 = .int .i64 i ∧ xs.length = n ∧ wr.ownsRow B 4 1 (.slice A n c) n (bools xs) ∧ Chg lo hi w wr)
  case atStart => exact ⟨0, l, by omega, rfl, rfl, HN.out.symm, h, chg_refl _ _ _⟩
  case round =>
    clear h
    obtain ⟨i, xs, hi', rfl, rfl, hx, h, K⟩ := hrel
    have HX := Lib.hid hx
    by_cases hlt : i < n
    · obtain ⟨g, rfl⟩ := srow_some h (by omega)
      have hg := hr g rfl
      have q := srow_at h (bools_get xs i (by omega))
      have f := srow_free h i
      have e0 : (0 : Int) ≤ (i : Int) := by omega
      have e1 : (i : Int) < (n : Int) := by omega
      clear hx
      go_wp2_with fail
      have h' := srow_set h i (.bool (!ba xs i))
      rw [bools_set] at h'
      go_roundg (n - (i + 1))
      case rel => exact ⟨i + 1, xs.set i (!ba xs i), by omega, rfl, by go_num, by rw [List.length_set]; exact HX.out, h', chg_set K (.inl hg) _ _⟩
      case measure => omega
    · have : i = n := by omega
      subst this
      clear hx hlt
      have hBr : B ≤ wr.heap.size := Nat.le_trans hB K.size
      have m1 : IntKind.i64.wrap (((i + 1 : Nat) : Int) - 1) = (i : Int) := by rw [show ((i + 1 : Nat) : Int) - 1 = (i : Int) from by omega]; exact IntWalk.i64_in _ (by omega)
      have m2 : IntKind.i64.wrap ((i : Int) + 1 - 1) = (i : Int) := by rw [show (i : Int) + 1 - 1 = (i : Int) from by omega]; exact IntWalk.i64_in _ (by omega)
      go_wp2_with (at_builtin; go_loud (refine app_law B rfl (.tmp 17) (.tmp 18) 29 4 (.bool false) 1 1 rfl Try.underlying29 infoS4 rfl (by omega) (by omega) (.slice A i c) i 1 (bools xs) (bools [true]) rfl rfl rfl (one_bools _) h hBr (by omega) ?_; intro v7 w7 hr7 hg7 hat7; rw [bools_append] at hr7; obtain ⟨A9, c9, rfl, hr9⟩ := row_form hr7; obtain ⟨g9, rfl⟩ := srow_some hr9 (by omega); have q := srow_at hr9 (bools_get (xs ++ [true]) i (by have := HX.out; simp; omega)); have f := srow_free hr9 i))
      have h9 : (lo ≤ g9 ∧ g9 < hi) ∨ w.heap.size ≤ g9 := by
        rcases hat7 with e | ⟨b, e, hb⟩
        · exact .inl (hr g9 e.symm)
        · right
          have : g9 = b := by injection e
          have := K.size
          omega
      go_end0
      exact ⟨rfl, chg_set (chg_grown K hg7 (fun g e => .inl (hr g e))) h9 _ _⟩

theorem sget_some {cs : List Value} {m j : Nat} (hl : cs.length = m) (hj : j < m) : ∃ u, cs[j]? = some u := ⟨cs[j]'(by omega), List.getElem?_eq_getElem (by omega)⟩
set_option maxRecDepth 100000 in
set_option maxHeartbeats 1000000 in
theorem spoil54_any (lo hi B : Nat) (n s : Int) (A : Option Addr) (c m : Nat) (cs : List Value) (w : World) (h : w.ownsRow B 48 3 (.slice A m c) m cs) (hr : NoneIn lo hi (.slice A m c)) (hl : m ≤ 1000000) (hB : B ≤ w.heap.size) (hlo : hi ≤ w.heap.size) :
    Calls Try.prog 54 #[.agg #[.int .i64 n, .int .i64 s, .slice A m c]] w (SpPost lo hi w) := by
  have o0 := Own.new w 24 [.int .i64 n, .int .i64 s, .slice A m c]
  have K0 : Chg lo hi w (w.alloc (.cells #[.int .i64 n, .int .i64 s, .slice A m c] 24)) := chg_kept (chg_refl _ _ _) (kept_alloc (kept_refl w) _)
  replace h := row_alloc h (.cells #[.int .i64 n, .int .i64 s, .slice A m c] 24)
  go_enter Try.func54, Try.ntmps54
  go_wp2_with fail
  go_loopg [2] m (fun g' s2 wr => ∃ (i : Nat) (xs : List Value), i ≤ m ∧ g' = m - i ∧ s2 = .int .i64 i ∧ wr.ownsRow B 48 3 (.slice A m c) m xs ∧ Own wr w.heap.size 24 [.int .i64 n, .int .i64 s, .slice A m c] ∧ Chg lo hi w wr)
  case atStart => exact ⟨0, cs, by omega, rfl, rfl, h, o0, K0⟩
  case round =>
    clear h o0 K0
    obtain ⟨i, xs, hi', rfl, rfl, h, o0, K⟩ := hrel
    have q2 := o0.cell (j := 2) rfl
    by_cases hlt : i < m
    · obtain ⟨g, rfl⟩ := srow_some h (by omega)
      have hg := hr g rfl
      have hgl := (h.lt g rfl).2
      have hgz : g < w.heap.size := by omega
      obtain ⟨u0, d0⟩ := sget_some h.1 (show i * 3 < m * 3 by omega)
      obtain ⟨u1, d1⟩ := sget_some h.1 (show i * 3 + 1 < m * 3 by omega)
      obtain ⟨u2, d2⟩ := sget_some h.1 (show i * 3 + 2 < m * 3 by omega)
      replace d0 := srow_at h d0
      replace d1 := srow_at h d1
      replace d2 := srow_at h d2
      have f0 := srow_free h (i * 3)
      have f1 := srow_free h (i * 3 + 1)
      have f2 := srow_free h (i * 3 + 2)
      have e0 : (0 : Int) ≤ (i : Int) := by omega
      have e1 : (i : Int) < (m : Int) := by omega
      go_wp2_with fail
      have h' := srow_set (srow_set (srow_set h (i * 3) (.int .i64 (-7))) (i * 3 + 1) (.int .i64 0)) (i * 3 + 2) (.int .i64 0)
      go_roundg (m - (i + 1))
      case rel => exact ⟨i + 1, _, by omega, rfl, by go_num, h', ((o0.other (by dsimp only; omega) _).other (by dsimp only; omega) _).other (by dsimp only; omega) _, chg_set (chg_set (chg_set K (.inl hg) _ _) (.inl hg) _ _) (.inl hg) _ _⟩
      case measure => omega
    · have : i = m := by omega
      subst this
      clear hlt
      have hBr : B ≤ wr.heap.size := Nat.le_trans hB K.size
      go_wp2_with (at_builtin; go_loud (refine app_law B rfl (.tmp 17) (.tmp 19) 22 48 (.agg #[.int .i64 0, .int .i64 0, .int .i64 0]) 3 24 rfl Try.underlying22 infoS48 rfl (by omega) (by omega) (.slice A i c) i 1 xs [.int .i64 0, .int .i64 0, .int .i64 0] rfl rfl rfl (by intro u hu; simp at hu; subst hu; rfl) h hBr (by omega) ?_; intro v7 w7 hr7 hg7 hat7; obtain ⟨A9, c9, rfl, hr9⟩ := row_form hr7; obtain ⟨g9, rfl⟩ := srow_some hr9 (by omega); obtain ⟨u0, d0⟩ := sget_some hr9.1 (show 0 < (i + 1) * 3 by omega); obtain ⟨u1, d1⟩ := sget_some hr9.1 (show 1 < (i + 1) * 3 by omega); obtain ⟨u2, d2⟩ := sget_some hr9.1 (show 2 < (i + 1) * 3 by omega); replace d0 := srow_at hr9 d0; replace d1 := srow_at hr9 d1; replace d2 := srow_at hr9 d2; have f0 := srow_free hr9 0; have f1 := srow_free hr9 1; have f2 := srow_free hr9 2))
      have h9 : (lo ≤ g9 ∧ g9 < hi) ∨ w.heap.size ≤ g9 := by
        rcases hat7 with e | ⟨b, e, hb⟩
        · exact .inl (hr g9 e.symm)
        · right
          have : g9 = b := by injection e
          have := K.size
          omega
      go_end0
      exact ⟨rfl, chg_set (chg_set (chg_set (chg_grown K hg7 (fun g e => .inl (hr g e))) h9 _ _) h9 _ _) h9 _ _⟩
end Go.Proofs.Ytinpmdekdfgiiaa
