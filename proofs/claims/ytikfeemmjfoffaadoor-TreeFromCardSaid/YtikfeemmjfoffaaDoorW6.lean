/- Trees: the reference's Values. -/
import Derived.Test.YtikfeemmjfoffaaDoorW5
import Derived.Deep.Onto
import Derived.Deep.RegionWith
import Derived.StillTailTactics
import Derived.Shelf.Abstract
set_option linter.unusedVariables false
set_option linter.unusedSimpArgs false
namespace Go.Proofs.YtikfeemmjfoffaaDoor
open Go.RowKit

def RowPost (l : List Int) (w : World) (e : Ending) (w' : World) : Prop :=
  ∃ v : Value, e = .returned v ∧ w'.ownsRow w.heap.size 3 1 v l.length (ints l) ∧ Kept w w'

set_option maxRecDepth 100000 in
set_option maxHeartbeats 1000000 in
theorem rvalues21_any (t : Tr) (g : Good t) (A : Option Addr) (c : Nat) (T : Option Addr) (d : Nat) (w : World) (hA : Rd w A (ints t.lv)) (hT : RT w T t.tb) :
    Calls Tryd.prog 21 #[trV t A c T d] w (RowPost (valsW t (t.tb.length + t.lv.length)) w) := by
  have h63 := g.tb64; have h64 := g.lv64
  have hll : t.lv.length = t.tb.length + 1 := by have := g.ll; have := g.tl; have := pw_pos t.h; omega
  have HL := Lib.hid hll; clear hll
  have V := Lib.hid fun (n : Nat) (w' : World) (hn : n ≤ 2 * t.tb.length) (k : Kept w w') => value19_any t g A c T d _ n w' (Nat.le_refl _) hn (hA.kept k) (hT.kept k)
  have o0 := Own.new w 25 [.int .i64 t.h, .int .i64 t.b, .slice A t.lv.length c, .slice T t.tb.length d]
  obtain ⟨N, hN⟩ : ∃ N, N = t.tb.length + t.lv.length := ⟨_, rfl⟩
  have hN1 : N ≤ 127 := by omega
  rw [← hN]
  have HN := Lib.hid hN; clear hN
  clear hA hT g
  go_enter Tryd.func21, Tryd.ntmps21
  go_wp2_with fail
  go_loopg [3, 4] N (fun g' s3 s4 wr => ∃ k : Nat, k ≤ N ∧ g' = N - k ∧ s4 = .int .i64 k ∧ wr.ownsRow (w.heap.size + 1) 3 1 s3 k (ints (valsW t k)) ∧ Kept w wr ∧ Own wr w.heap.size 25 [.int .i64 t.h, .int .i64 t.b, .slice A t.lv.length c, .slice T t.tb.length d])
  case atStart => exact ⟨0, by omega, by omega, rfl, World.ownsRow_nil _ _ _ _, kept_alloc (kept_refl _) _, o0⟩
  case round =>
    clear o0
    obtain ⟨k, hk, rfl, rfl, hrow, k1, o0⟩ := hrel
    have q0 := o0.cell (j := 0) rfl; have q1 := o0.cell (j := 1) rfl; have q2 := o0.cell (j := 2) rfl; have q3 := o0.cell (j := 3) rfl
    have sz : w.heap.size + 1 ≤ wr.heap.size := o0.lt
    by_cases hlt : k < N
    · have C := V.out k wr (by have := HN.out; have := HL.out; omega) k1
      have d1 : decide ((k : Int) < (t.tb.length : Int) + (t.lv.length : Int)) = true := decide_eq_true (by have := HN.out; omega)
      go_wp2_with (first | (go_at_call 19; ((with_reducible refine C.mono ?_); rintro e w2 ⟨rfl, k2⟩)) | (at_builtin; refine app_int (w.heap.size + 1) rfl (.tmp 16) (.tmp 20) 22 3 rfl Tryd.underlying22 info3 u3 k (valsW t k) (valW t k) rfl rfl (row_kept hrow k2) (by have := k2.size; omega) (by omega) ?_; intro v3 w3 hr3 hg3 hat3))
      have k3 : Kept w w3 := kept_grown (kept_trans k1 k2) (row_kept hrow k2) (Nat.le_succ _) hg3
      have o3 := (o0.kept k2).grown hg3 (by intro h; have := (hrow.lt _ h.symm).1; omega)
      clear hg3 hat3 hrow
      go_wp2_with fail
      go_roundg (N - (k + 1))
      case rel => exact ⟨k + 1, by omega, rfl, by go_num, by rw [valsW_succ]; exact hr3, k3, o3⟩
      case measure => omega
    · have : k = N := by omega
      subst this
      have d1 : decide ((k : Int) < (t.tb.length : Int) + (t.lv.length : Int)) = false := decide_eq_false (by have := HN.out; omega)
      go_wp2_with fail
      go_ret
      exact ⟨u3, rfl, by rw [valsW_length]; exact hrow.mono (Nat.le_succ _), k1⟩
end Go.Proofs.YtikfeemmjfoffaaDoor
