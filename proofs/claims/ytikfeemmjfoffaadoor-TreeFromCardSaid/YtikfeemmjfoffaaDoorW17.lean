/- Trees: the function literal of Parse that takes numbers from the front. -/
import Derived.Test.YtikfeemmjfoffaaDoorW12
import Derived.Test.YtikfeemmjfoffaaDoorLib8
set_option linter.unusedVariables false
set_option linter.unusedSimpArgs false
namespace Go.Proofs.YtikfeemmjfoffaaDoor
open Go.RowKit Go.Shelf

theorem clone37 (A : Option Addr) (c : Nat) (l : List Int) (w : World) (hA : Rd w A (ints l)) (hl : l.length ≤ 1000000) : Calls Tryd.prog 37 #[.slice A l.length c] w (RowPost l w) := by
  rcases A with _ | a
  · have h0 : l = [] := by
      rcases Classical.em (l = []) with h | h
      · exact h
      · obtain ⟨_, _, e0, _⟩ := hA.at_ (by simpa [ints] using h)
        cases e0
    subst h0
    exact (Tryd.slices_Clone_int_nil 0 c w).mono fun e w' ⟨h1, h2⟩ => ⟨_, h1, World.ownsRow_nil _ _ _ _, by rw [h2]; exact kept_refl _⟩
  · by_cases h0 : l = []
    · subst h0
      exact (Tryd.slices_Clone_int_zero a c w).mono fun e w' ⟨v, h1, h2, _, h4⟩ => ⟨v, h1, h2, h4⟩
    · obtain ⟨b, off, e, hc⟩ := hA.int (k := 0) (List.length_pos_iff.2 h0)
      rw [e]
      have := Tryd.slices_Clone_int b off l.length c l w (Nat.le_refl _) (by omega) (fun j hj => hc j hj)
      rw [List.take_length] at this
      exact this.mono fun e w' ⟨v, h1, h2, _, h4⟩ => ⟨v, h1, h2, h4⟩

/-- The numbers that are left, in the variable's cell. -/
def LS (w : World) (B : Nat) (l : List Int) : Prop := ∃ b off c, Own w B 22 [.slice (some ⟨b, off, none⟩) l.length c] ∧ (∃ cs, Own w b 3 cs) ∧ Rd w (some ⟨b, off, none⟩) (ints l) ∧ l.length ≤ c ∧ c ≤ maxLen
/-- Nothing old has changed but block B. -/
abbrev KB (B : Nat) (w w' : World) : Prop := w.grownBy w' (some B)
def TakePost (B : Nat) (l : List Int) (m : Nat) (w : World) (e : Ending) (w' : World) : Prop :=
  ∃ v : Value, e = .returned v ∧ w'.ownsRow w.heap.size 3 1 v (l.take m).length (ints (l.take m)) ∧ LS w' B (l.drop m) ∧ KB B w w'

theorem ints_take (l : List Int) (m : Nat) : ints (l.take m) = (ints l).take m := by simp [ints, List.map_take]
theorem Rd.take {w : World} {A : Option Addr} {l : List Int} (h : Rd w A (ints l)) (m : Nat) : Rd w A (ints (l.take m)) :=
  ⟨fun hn => by
    have hl : ints l ≠ [] := by intro h0; apply hn; rw [ints_take, h0]; simp
    obtain ⟨b, off, e, hc⟩ := h.at_ hl
    refine ⟨b, off, e, fun j v hj => hc j v ?_⟩
    rw [ints_take] at hj
    have := List.getElem?_take (l := ints l) (i := m) (j := j)
    rw [this] at hj
    split at hj
    · exact hj
    · cases hj⟩
theorem Rd.drop {w : World} {b off : Nat} {l : List Int} (h : Rd w (some ⟨b, off, none⟩) (ints l)) (m : Nat) : Rd w (some ⟨b, off + m, none⟩) (ints (l.drop m)) :=
  ⟨fun _ => ⟨b, off + m, rfl, fun j v hj => by
    have : (ints l)[m + j]? = some v := by
      rw [← hj]; simp only [ints, List.getElem?_map, List.getElem?_drop]
    have := h.at_some this
    rwa [show off + m + j = off + (m + j) by omega]⟩⟩
theorem rd_other {w : World} {b off : Nat} {cs : List Value} {a : Addr} (h : Rd w (some ⟨b, off, none⟩) cs) (ne : b ≠ a.block) (v : Value) : Rd (w.setCell a v) (some ⟨b, off, none⟩) cs :=
  ⟨fun _ => ⟨b, off, rfl, fun j u hj => by
    have := h.at_some hj
    rw [World.cell?_setCell_other w a ⟨b, off + j, none⟩ v (fun e => ne (by rw [e]))]
    exact this⟩⟩
theorem rd_kb {B : Nat} {w w' : World} {b off : Nat} {cs : List Value} (h : Rd w (some ⟨b, off, none⟩) cs) (k : KB B w w') (ne : b ≠ B) : Rd w' (some ⟨b, off, none⟩) cs :=
  ⟨fun _ => ⟨b, off, rfl, fun j u hj => by
    have hc := h.at_some hj
    have hlt := World.block_lt_of_cell? w _ hc
    have := k.block b hlt (by intro e; injection e with e; exact ne e)
    rw [World.cell?_of_block (a := ⟨b, off + j, none⟩) this]
    exact hc⟩⟩
theorem kb_of {B : Nat} {w w' : World} (k : Kept w w') : KB B w w' := ⟨k.os, k.tape, k.output, k.size, fun i hi _ => k.block i hi⟩
theorem kb_set {B : Nat} {w w' : World} (h : KB B w w') (j : Nat) (v : Value) : KB B w (w'.setCell ⟨B, j, none⟩ v) :=
  ⟨h.os, h.tape, h.output, by simpa using h.size, fun i hi hne => (Below.heap_setCell w' ⟨B, j, none⟩ v i (by intro e; exact hne (by rw [e]))).trans (h.block i hi hne)⟩

set_option maxRecDepth 100000 in
set_option maxHeartbeats 1000000 in
theorem take36_any (many : Nat) (hm : many ≤ 1000000) (B : Nat) (l : List Int) (hl : l.length ≤ 1000000) (w : World) (h : LS w B l) :
    Calls Tryd.prog 36 #[.int .i64 many, .pointer (some ⟨B, 0, none⟩)] w (TakePost B l many w) := by
  obtain ⟨b, off, c, o0, ⟨cs, ob⟩, hr, hc, hcm⟩ := h
  have nb : b ≠ B := by rintro rfl; exact absurd (o0.type ob) (by decide)
  have OB := Lib.hid ob; clear ob
  obtain ⟨n, hn⟩ : ∃ n, n = l.length := ⟨_, rfl⟩
  obtain ⟨m, hmm⟩ : ∃ m, m = min many n := ⟨_, rfl⟩
  have hmin : min (many : Int) (n : Int) = (m : Int) := by omega
  have e1 : l.take many = l.take m := by
    rw [hmm, hn]
    by_cases h1 : many ≤ l.length
    · rw [Nat.min_eq_left h1]
    · rw [Nat.min_eq_right (by omega), List.take_length, List.take_of_length_le (by omega)]
  have e2 : l.drop many = l.drop m := by
    rw [hmm, hn]
    by_cases h1 : many ≤ l.length
    · rw [Nat.min_eq_left h1]
    · rw [Nat.min_eq_right (by omega), List.drop_length, List.drop_of_length_le (by omega)]
  have hmn : m ≤ n := by omega
  have lt : (l.take m).length = m := by simp; omega
  have C := clone37 (some ⟨b, off, none⟩) c (l.take m) w (hr.take m) (by omega)
  rw [lt] at C
  have HC := Lib.hid C
  rw [← hn] at o0 hc
  have q0 := o0.cell (j := 0) rfl
  have HN := Lib.hid hn
  have HE := Lib.hid (And.intro e1 (And.intro e2 lt))
  have hmc : m ≤ c := by omega
  have hc63 : c ≤ 9223372036854775807 := by simp only [maxLen] at hcm; omega
  have hn6 : n ≤ 1000000 := by omega
  clear C hn hmm e1 e2 lt
  go_enter Tryd.func36, Tryd.ntmps36
  go_wp2_with (go_at_call 37; ((with_reducible refine HC.out.mono ?_); rintro e w1 ⟨v, rfl, hr1, k1⟩; have o1 := o0.kept k1; have p0 := o1.cell (j := 0) rfl; have f0 := o1.frozen 0))
  · go_ret
    refine ⟨v, rfl, by rw [HE.out.1]; exact ownsRow_setCell_below hr1 (a := ⟨B, 0, none⟩) o0.lt _, ⟨b, off, 0, ?_, ⟨cs, (OB.out.kept k1).other nb _⟩, ?_, ?_, by simp⟩, kb_set (kb_of k1) 0 _⟩
    · have := o1.set 0 (.slice (some ⟨b, off, none⟩) (n - m) 0)
      rw [HE.out.2.1, show (l.drop m).length = n - m by rw [List.length_drop, HN.out]]
      exact this
    · have : l.drop many = [] := by rw [HE.out.2.1]; exact List.drop_of_length_le (by rw [← HN.out]; omega)
      rw [this]; exact Rd.nil _ _
    · rw [HE.out.2.1, List.length_drop, ← HN.out]; omega
  · go_ret
    refine ⟨v, rfl, by rw [HE.out.1]; exact ownsRow_setCell_below hr1 (a := ⟨B, 0, none⟩) o0.lt _, ⟨b, off + m, c - m, ?_, ⟨cs, (OB.out.kept k1).other nb _⟩, ?_, ?_, by omega⟩, kb_set (kb_of k1) 0 _⟩
    · have := o1.set 0 (.slice (some ⟨b, off + m, none⟩) (n - m) (c - m))
      rw [HE.out.2.1, show (l.drop m).length = n - m by rw [List.length_drop, HN.out]]
      exact this
    · rw [HE.out.2.1]; exact rd_other ((hr.kept k1).drop m) (by exact nb) _
    · rw [HE.out.2.1, List.length_drop, ← HN.out]; omega
end Go.Proofs.YtikfeemmjfoffaaDoor
