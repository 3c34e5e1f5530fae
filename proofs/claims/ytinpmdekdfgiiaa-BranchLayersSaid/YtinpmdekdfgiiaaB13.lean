/- Branching programs: Table. -/
import Derived.Test.YtinpmdekdfgiiaaB12
set_option linter.unusedVariables false
set_option linter.unusedSimpArgs false
namespace Go.Proofs.Ytinpmdekdfgiiaa
open Go.RowKit

theorem cell_set_ne {w : World} {a b : Addr} {v : Value} (ne : a.block ≠ b.block) (h : w.cell? a = some v) (u : Value) : (w.setCell b u).cell? a = some v :=
  (World.cell?_of_block (Below.heap_setCell w b u a.block ne)).trans h

/-- The end of Table. -/
def TablePost (i s : Int) (l : List Nd) (w : World) (e : Ending) (w' : World) : Prop :=
  Kept w w' ∧ ((validB i s l = false ∧ e = .returned (.tuple #[.slice none 0 0, .int .i64 1])) ∨ (validB i s l = true ∧ 12 < i ∧ e = .returned (.tuple #[.slice none 0 0, .int .i64 5])) ∨
    (validB i s l = true ∧ i ≤ 12 ∧ ∃ g, e = .returned (.tuple #[.slice (some ⟨g, 0, none⟩) (2 ^ i.toNat) (2 ^ i.toNat), .int .i64 0]) ∧ w.heap.size ≤ g ∧ Own w' g 4 (bools (tabB i.toNat s l))))

theorem asks_table {w : World} {g : Nat} {a : Nat} (ha : a < 1000000) {n : Nat} (hn : n ≤ 16) (hg : w.cell? ⟨g, 0, none⟩ = some (.int .i64 a)) : Asks w (.func (.func 70) #[] #[.pointer (some ⟨g, 0, none⟩)]) n a.testBit :=
  ⟨70, _, rfl, enters_of Try.func70 (by kernel_rfl) rfl, fun i w' h0 h1 k => by
    have := tablelit_any w' g a (by omega) (by omega) i h0 (by omega) (kept_cell k hg)
    rwa [Int.toNat_natCast] at this⟩

set_option maxRecDepth 100000 in
set_option maxHeartbeats 1000000 in
theorem table_bad (i s : Int) (A : Option Addr) (c : Nat) (l : List Nd) (w : World) (hl : l.length ≤ 140737488355328) (hr : RN w A l) (hb : validB i s l = false ∨ 12 < i) :
    Calls Try.prog 27 #[.agg #[.int .i64 i, .int .i64 s, .slice A l.length c]] w (TablePost i s l w) := by
  have o0 := Own.new w 24 [.int .i64 i, .int .i64 s, .slice A l.length c]
  cases hv : validB i s l
  · clear hb
    go_enter Try.func27, Try.ntmps27
    go_wp2_with fail
    refine (valid_any _ _ _ _ _ _ hl (hr.kept (kept_alloc (kept_refl _) _))).mono ?_
    rintro e w1 ⟨rfl, k1⟩
    rw [hv]
    go_wp2_with fail
    go_ret2
    exact ⟨kept_trans (kept_alloc (kept_refl _) _) k1, .inl ⟨hv, rfl⟩⟩
  · have hi : 12 < i := by simpa [hv] using hb
    clear hb
    go_enter Try.func27, Try.ntmps27
    go_wp2_with fail
    refine (valid_any _ _ _ _ _ _ hl (hr.kept (kept_alloc (kept_refl _) _))).mono ?_
    rintro e w1 ⟨rfl, k1⟩
    rw [hv]
    have q0 := (o0.kept k1).cell (j := 0) rfl
    go_wp2_with fail
    go_ret2
    exact ⟨kept_trans (kept_alloc (kept_refl _) _) k1, .inr (.inl ⟨hv, hi, rfl⟩)⟩

set_option maxRecDepth 100000 in
set_option maxHeartbeats 1000000 in
theorem table_good (n : Nat) (s : Int) (A : Option Addr) (c : Nat) (l : List Nd) (w : World) (hr : RN w A l) (hv : validB n s l = true) (hi : n ≤ 12) :
    Calls Try.prog 27 #[.agg #[.int .i64 n, .int .i64 s, .slice A l.length c]] w (TablePost n s l w) := by
  obtain ⟨hi0, hi1, hln, hs⟩ := valid_start hv
  have o0 := Own.new w 24 [.int .i64 n, .int .i64 s, .slice A l.length c]
  have hmk := make_tab n (by omega)
  have hN : 2 ^ n ≤ 65536 := Nat.pow_le_pow_right (n := 2) (by omega) (show n ≤ 16 by omega)
  unfold TablePost
  rw [Int.toNat_natCast, ← tabTo_all]
  generalize 2 ^ n = N at *
  have key : ∀ (R : Ending → World → Prop), (∀ g w', w.heap.size ≤ g → Own w' g 4 (bools (tabTo s l N N)) → Kept w w' → R (.returned (.tuple #[.slice (some ⟨g, 0, none⟩) N N, .int .i64 0])) w') → Calls Try.prog 27 #[.agg #[.int .i64 n, .int .i64 s, .slice A l.length c]] w R := by
    intro R hR
    have HR := Lib.hid hR; clear hR
    go_enter Try.func27, Try.ntmps27
    go_wp2_with fail
    refine (valid_any _ _ _ _ _ _ (by omega) (hr.kept (kept_alloc (kept_refl _) _))).mono ?_
    rintro e w1 ⟨rfl, k1⟩
    rw [hv]
    replace o0 := o0.kept k1
    replace k1 := kept_trans (kept_alloc (kept_refl _) _) k1
    have q0 := o0.cell (j := 0) rfl
    have sz := o0.lt
    have o1 := Own.new w1 4 (bools (List.replicate N false))
    go_wp2_with fail
    clear hmk q0
    go_loopg [18] N (fun g s18 wr => ∃ k : Nat, k ≤ N ∧ g = N - k ∧ s18 = .int .i64 k ∧ Kept w wr ∧ Own wr w.heap.size 24 [.int .i64 n, .int .i64 s, .slice A l.length c] ∧ Own wr w1.heap.size 4 (bools (tabTo s l N k)))
    case atStart => exact ⟨0, by omega, rfl, rfl, kept_alloc k1 _, o0.alloc _, by simpa [tabTo] using o1⟩
    case round =>
      clear o0 o1 k1
      obtain ⟨k, hk, rfl, rfl, k1, o0, ho⟩ := hrel
      by_cases hlt : k < N
      · have k2 := kept_alloc k1 (.cells #[.int .i64 k] 3)
        have p0 := o0.alloc (.cells #[.int .i64 k] 3)
        have ho1 := ho.alloc (.cells #[.int .i64 k] 3)
        have oi := Own.new wr 3 [.int .i64 k]
        have q0 := o0.cell (j := 0) rfl
        have q1 := o0.cell (j := 1) rfl
        have q2 := o0.cell (j := 2) rfl
        have z0 := o0.lt
        have z1 := ho.lt
        have hlk : k < (tabTo s l N k).length := by rw [tabTo_length (by omega)]; exact hlt
        go_wp2_with fail
        have u0 := p0.cell (j := 0) rfl
        have u1 := p0.cell (j := 1) rfl
        have u2 := p0.cell (j := 2) rfl
        have u3 := oi.cell (j := 0) rfl
        have hA := asks_table (w := (wr.alloc (.cells #[.int .i64 k] 3)).drew) (g := wr.heap.size) (a := k) (by omega) (n := n) (by omega) (cell_drew u3)
        have hr2 := hr.kept (kept_drew k2)
        clear q0 q1 q2
        have ne0 : w.heap.size ≠ w1.heap.size := by omega
        have ne1 : wr.heap.size ≠ w1.heap.size := by omega
        go_region_held3 (fun w' => w'.cell? ⟨w.heap.size, 0, none⟩ = some (.int .i64 n) ∧ w'.cell? ⟨w.heap.size, 1, none⟩ = some (.int .i64 s) ∧ w'.cell? ⟨w.heap.size, 2, none⟩ = some (.slice A l.length c) ∧ w'.cell? ⟨wr.heap.size, 0, none⟩ = some (.int .i64 k))
          (first | exact ⟨u0, u1, u2, u3⟩ | exact ⟨t0, t1, t2, t3⟩ | exact ⟨cell_set_ne ne0 t0 _, cell_set_ne ne0 t1 _, cell_set_ne ne0 t2 _, cell_set_ne ne1 t3 _⟩ | go_keep)
          (first
            | (go_at_call 68; refine (run_any n s A c l _ (Nat.testBit k) _ hr2 hv hA).mono ?_; rintro e w2 ⟨v2, rfl, hrow, k3⟩; have t0 := kept_cell k3 u0; have t1 := kept_cell k3 u1; have t2 := kept_cell k3 u2; have t3 := kept_cell k3 u3; have ho2 := Own.kept (Own.drew ho1) k3; have cc := ho2.bool hlk; have cf := ho2.frozen k))
        all_goals
          have k4 := kept_trans (kept_drew k2) k3
          have oa := Own.kept (Own.drew p0) k3
          clear ‹_ ∧ _ ∧ _›
          go_wp2_with fail
          go_roundg (N - (k + 1))
          case rel => exact ⟨k + 1, by omega, rfl, by go_num, kept_set k4 (by omega) _, oa.other ne0 _, by rw [← tabTo_set hlt]; exact ho2.setBool _ _⟩
          case measure => omega
      · have : k = N := by omega
        subst this
        go_wp2_with fail
        exact HR.out _ _ (by omega) ho k1
  exact key _ fun g w' h1 h2 h3 => ⟨h3, .inr (.inr ⟨hv, by omega, g, rfl, h1, h2⟩)⟩
end Go.Proofs.Ytinpmdekdfgiiaa
