/- Polynomials: alive: the program computes the chapter's examples. -/
import Derived.Test.YtnjmpjdampdmmaaGreatDoorC21
set_option linter.unusedVariables false
set_option linter.unusedSimpArgs false
namespace Go.Proofs.YtnjmpjdampdmmaaGreatDoor
open Go.RowKit

theorem al_multi (A : Option Addr) (w : World) (hA : Rd w A (bools exT)) : Calls Tryz.prog 27 #[.agg #[.int .i64 2, .int .i64 1], .slice A 4 4] w fun e w' => ∃ A' c', e = .returned (.tuple #[.slice A' 3 c', .int .i64 0]) ∧ RP w' A' exP ∧ Kept w w' := by
  refine Calls.mono (R := _) (multi20_any 2 1 exT A 4 w ok21 hA (by decide)) ?_
  rintro e w' ⟨k, ⟨rfl, h⟩ | ⟨n, A', c', r, hn, h2, rfl, hr, hrr⟩⟩
  · exact absurd (show exT.length = 2 ^ 2 by decide) (h 2 (by omega))
  · have h3 : n = 2 := (show ∀ n, n < 13 → exT.length = 2 ^ n → n = 2 by decide) n (by omega) h2
    subst h3
    have e1 : r = exP := hrr.trans ex_multi
    subst e1
    exact ⟨A', c', rfl, hr, k⟩
def exW : ByteArray := ⟨#[49, 42, 120, 49, 32, 43, 32, 49, 42, 120, 48, 32, 43, 32, 49, 42, 120, 48, 42, 120, 49]⟩
theorem al_text (A : Option Addr) (c : Nat) (w : World) (hp : PowOk w) (hA : RP w A exP) : Calls Tryz.prog 28 #[.agg #[.int .i64 2, .int .i64 1], .int .i64 2, .slice A 3 c] w fun e w' => e = .returned (.tuple #[.string exW, .int .i64 0]) ∧ Kept w w' := by
  refine Calls.mono (R := _) (text24_any 2 1 2 exP A c w hp hA ex_valid) ?_
  rintro e w' ⟨rfl, k⟩
  refine ⟨?_, k⟩
  unfold textV
  rw [if_neg (by decide), show exP.length = 3 from rfl, ex_text, if_pos (by decide)]
  rfl
theorem al_reduce (A : Option Addr) (c : Nat) (w : World) (hA : RP w A [⟨1, [3]⟩]) : Calls Tryz.prog 22 #[.agg #[.int .i64 2, .int .i64 1], .int .i64 1, .slice A 1 c] w fun e w' => ∃ A' c', e = .returned (.tuple #[.slice A' 1 c', .int .i64 0]) ∧ RP w' A' [⟨1, [1]⟩] ∧ Kept w w' := by
  refine Calls.mono (R := _) (reduce14_any 2 1 1 [⟨1, [3]⟩] A c w hA ex_valid2) ?_
  rintro e w' ⟨A', c', r, rfl, hr, hrp, k⟩
  have e1 : r = [⟨1, [1]⟩] := hr.trans ex_reduce
  subst e1
  exact ⟨A', c', rfl, hrp, k⟩
theorem al_same (A B : Option Addr) (c d : Nat) (w : World) (hA : RP w A [⟨1, [1]⟩]) (hB : RP w B [⟨1, [1]⟩]) : Calls Tryz.prog 24 #[.slice A 1 c, .slice B 1 d] w fun e w' => e = .returned (.bool true) ∧ Kept w w' := by
  refine Calls.mono (R := _) (same38_any [⟨1, [1]⟩] [⟨1, [1]⟩] A B c d w hA hB (by decide) (by decide)) ?_
  rintro e w' ⟨rfl, k⟩
  exact ⟨rfl, k⟩
/-- A polynomial of one term in one variable, as the walk lays it. -/
theorem rp_lit (x : Int) (w : World) : RP ((w.alloc (.cells #[.int .i64 x] 3)).alloc (.cells #[.int .i64 1, .slice (some ⟨w.heap.size, 0, none⟩) 1 1] 64)) (some ⟨w.heap.size + 1, 0, none⟩) [⟨1, [x]⟩] := by
  have o1 := (Own.new w 3 [.int .i64 x]).alloc (.cells #[.int .i64 1, .slice (some ⟨w.heap.size, 0, none⟩) 1 1] 64)
  have o2 := Own.new (w.alloc (.cells #[.int .i64 x] 3)) 64 [.int .i64 1, .slice (some ⟨w.heap.size, 0, none⟩) 1 1]
  simp only [World.size_alloc] at o2
  intro j hj
  obtain rfl : j = 0 := by simp at hj; omega
  exact ⟨w.heap.size + 1, 0, _, 1, rfl, o2.cell (j := 0) rfl, o2.cell (j := 1) rfl, o1.rd, by simp [tmv]⟩
set_option maxRecDepth 100000 in
set_option maxHeartbeats 1000000 in
theorem alive13_any (w : World) (hp : PowOk w) : Calls Tryz.prog 7 #[] w fun e w' => e = .returned (.bool true) ∧ Kept w w' := by
  have K0 := kept_alloc (kept_refl w) (.cells #[.int .i64 2, .int .i64 1] 23)
  have o1 := Own.new w 23 [.int .i64 2, .int .i64 1]
  have K1 := kept_alloc K0 (.cells #[.bool false, .bool true, .bool true, .bool true] 4)
  have oB := Own.new (w.alloc (.cells #[.int .i64 2, .int .i64 1] 23)) 4 (bools exT)
  simp only [World.size_alloc] at oB
  have CM := Lib.hid (show Calls Tryz.prog 27 #[.agg #[.int .i64 2, .int .i64 1], .slice (some ⟨w.heap.size + 1, 0, none⟩) 4 4] ((w.alloc (.cells #[.int .i64 2, .int .i64 1] 23)).alloc (.cells #[.bool false, .bool true, .bool true, .bool true] 4)) _ from al_multi _ _ oB.rd)
  have HO := Lib.hid hp
  have hx : exW.toList = [49, 42, 120, 49, 32, 43, 32, 49, 42, 120, 48, 32, 43, 32, 49, 42, 120, 48, 42, 120, 49] := by decide +kernel
  clear hp oB
  go_enter Tryz.func7, Tryz.ntmps7
  go_wp2_with (first
    | (go_at_call 27; ((with_reducible refine CM.out.mono ?_); rintro e w1 ⟨A1, c1, rfl, hr1, k1⟩; replace K1 := kept_trans K1 k1; have o1' := (o1.alloc (.cells #[.bool false, .bool true, .bool true, .bool true] 4)).kept k1; have q0 := o1'.cell (j := 0) rfl; have q1 := o1'.cell (j := 1) rfl; have CT := Lib.hid (al_text A1 c1 w1 (HO.out.kept K1) hr1)))
    | (go_at_call 28; ((with_reducible refine CT.out.mono ?_); rintro e w2 ⟨rfl, k2⟩; replace K1 := kept_trans K1 k2; have p0 := (o1'.kept k2).cell (j := 0) rfl; have p1 := (o1'.kept k2).cell (j := 1) rfl; have CR := Lib.hid (al_reduce _ 1 _ (rp_lit 3 w2))))
    | (go_at_call 22; ((with_reducible refine CR.out.mono ?_); rintro e w3 ⟨A3, c3, rfl, hr3, k3⟩; replace K1 := kept_trans K1 (kept_trans (kept_alloc (kept_alloc (kept_refl w2) _) _) k3); have CS := Lib.hid (al_same A3 _ c3 1 _ (hr3.kept (kept_alloc (kept_alloc (kept_refl w3) _) _)) (rp_lit 1 w3))))
    | (go_at_call 24; ((with_reducible refine CS.out.mono ?_); rintro e w4 ⟨rfl, k4⟩)))
  go_ret
  exact ⟨rfl, kept_trans K1 (kept_trans (kept_alloc (kept_alloc (kept_refl w3) _) _) k4)⟩
end Go.Proofs.YtnjmpjdampdmmaaGreatDoor
