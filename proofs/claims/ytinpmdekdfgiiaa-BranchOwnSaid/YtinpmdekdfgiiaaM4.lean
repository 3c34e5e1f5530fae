/- Joined: H2, J1, J2. -/
import Derived.Test.YtinpmdekdfgiiaaM3
import Derived.Test.YtinpmdekdfgiiaaE6
import Derived.Test.YtinpmdekdfgiiaaC6
import Derived.Test.YtinpmdekdfgiiaaE7
import Derived.Test.YtinpmdekdfgiiaaM2
/- From. -/
set_option linter.unusedVariables false
set_option linter.unusedSimpArgs false
namespace Go.Proofs.Ytinpmdekdfgiiaa
open Go.RowKit

set_option maxRecDepth 100000 in
set_option maxHeartbeats 1000000 in
theorem from_bad1 (f : Fm) (A : Option Addr) (c : Nat) (n : Int) (w : World) (hc : cntF f ≤ 20000) (hd : depF f ≤ 1000) (hl : f.l.length ≤ 9223372036854775807) (hr : RK w A f.l) (hs : shpF f = false) :
    Calls Try.prog 44 #[fmV f A c, .int .i64 n] w (BrBad 1 w) := by
  have a0 := (Own.new w 52 [.int .i64 f.k, .int .i64 f.n, .slice A f.l.length c]).alloc (.cells #[.int .i64 0, .int .i64 0, .slice none 0 0] 24)
  have a1 := Own.new (w.alloc (.cells #[.int .i64 f.k, .int .i64 f.n, .slice A f.l.length c] 52)) 24 [.int .i64 0, .int .i64 0, .slice none 0 0]
  have ka := kept_alloc (kept_alloc (kept_refl w) (.cells #[.int .i64 f.k, .int .i64 f.n, .slice A f.l.length c] 52)) (.cells #[.int .i64 0, .int .i64 0, .slice none 0 0] 24)
  simp only [World.size_alloc] at a1
  have C82 := Lib.hid fun (w' : World) (k : Kept w w') => valid82_any f A c w' hc hd hl (hr.kept k)
  unfold fmV at C82 ⊢
  clear hr
  go_enter Try.func44, Try.ntmps44
  go_wp2_with fail
  refine (C82.out _ ka).mono ?_
  rintro e w1 ⟨rfl, k1⟩
  rw [hs]
  replace a0 := a0.kept k1; replace a1 := a1.kept k1; replace ka := kept_trans ka k1
  clear k1
  have e0 := a1.cell (j := 0) rfl
  have e1 := a1.cell (j := 1) rfl
  have e2 := a1.cell (j := 2) rfl
  have f0 := a1.frozen 0
  have f1 := a1.frozen 1
  have f2 := a1.frozen 2
  go_wp2_with fail
  have o3 := ((a1.set 0 (.int .i64 0)).set 1 (.int .i64 0)).set 2 (.slice none 0 0)
  have pk := kept_set (g := w.heap.size + 1) (j := 2) (kept_set (g := w.heap.size + 1) (j := 1) (kept_set (g := w.heap.size + 1) (j := 0) ka (by omega) (.int .i64 0)) (by omega) (.int .i64 0)) (by omega) (.slice none 0 0)
  obtain ⟨W2, hW2⟩ : ∃ W2, W2 = ((w1.setCell ⟨w.heap.size + 1, 0, none⟩ (.int .i64 0)).setCell ⟨w.heap.size + 1, 1, none⟩ (.int .i64 0)).setCell ⟨w.heap.size + 1, 2, none⟩ (.slice none 0 0) := ⟨_, rfl⟩
  rw [← hW2] at pk o3 ⊢
  clear hW2 e0 e1 e2
  have q0 := o3.cell (j := 0) rfl
  have q1 := o3.cell (j := 1) rfl
  have q2 := o3.cell (j := 2) rfl
  exact bodyPost_ret (v := .tuple #[.agg #[.int .i64 0, .int .i64 0, .slice none 0 0], .int .i64 1]) (by simp [results, Try.results44, go_sem, q0, q1, q2]) rfl ⟨rfl, pk⟩

set_option maxRecDepth 100000 in
set_option maxHeartbeats 1000000 in
theorem from_big (f : Fm) (A : Option Addr) (c : Nat) (n : Int) (w : World) (hc : cntF f ≤ 20000) (hd : depF f ≤ 1000) (hl : f.l.length ≤ 9223372036854775807) (hr : RK w A f.l) (hs : shpF f = true) (hn : inpF f ≤ n ∧ n ≤ 16) (hbig : 20000 < (putF f (-1) (-2) []).2.length) :
    Calls Try.prog 44 #[fmV f A c, .int .i64 n] w (BrBad 5 w) := by
  have C83 := Lib.hid fun (w' : World) (k : Kept w w') => inputs83_any f A c w' hc hd hl (hr.kept k) hs
  unfold fmV at C83
  have hi16 := inp_bounds _ f (Nat.le_refl _) hs
  obtain ⟨i, hi⟩ : ∃ i, i = inpF f := ⟨_, rfl⟩
  rw [← hi] at C83 hn hi16
  have HI := Lib.hid hi; clear hi
  have b1 : decide (n < i) = false := decide_eq_false (by omega)
  have b2 : decide (16 < n) = false := decide_eq_false (by omega)
  have a0 := (Own.new w 52 [.int .i64 f.k, .int .i64 f.n, .slice A f.l.length c]).alloc (.cells #[.int .i64 0, .int .i64 0, .slice none 0 0] 24)
  have a1 := Own.new (w.alloc (.cells #[.int .i64 f.k, .int .i64 f.n, .slice A f.l.length c] 52)) 24 [.int .i64 0, .int .i64 0, .slice none 0 0]
  have ka := kept_alloc (kept_alloc (kept_refl w) (.cells #[.int .i64 f.k, .int .i64 f.n, .slice A f.l.length c] 52)) (.cells #[.int .i64 0, .int .i64 0, .slice none 0 0] 24)
  simp only [World.size_alloc] at a1
  have C82 := Lib.hid fun (w' : World) (k : Kept w w') => valid82_any f A c w' hc hd hl (hr.kept k)
  unfold fmV at C82 ⊢
  skip
  go_enter Try.func44, Try.ntmps44
  go_wp2_with fail
  refine (C82.out _ ka).mono ?_
  rintro e w1 ⟨rfl, k1⟩
  rw [hs]
  replace a0 := a0.kept k1; replace a1 := a1.kept k1; replace ka := kept_trans ka k1
  clear k1
  have q0 := a0.cell (j := 0) rfl
  have q1 := a0.cell (j := 1) rfl
  have q2 := a0.cell (j := 2) rfl
  go_wp2_with fail
  refine (C83.out _ ka).mono ?_
  rintro e w2 ⟨rfl, k2⟩
  replace a0 := a0.kept k2; replace a1 := a1.kept k2; replace ka := kept_trans ka k2
  clear k2 q0 q1 q2
  have zz : w.heap.size + 1 < w2.heap.size := a1.lt
  have q0 := a0.cell (j := 0) rfl
  have q1 := a0.cell (j := 1) rfl
  have q2 := a0.cell (j := 2) rfl
  have z0 : w.heap.size < w2.heap.size := by omega
  have z1 : w.heap.size < w2.heap.size + 1 := by omega
  have z2 : w.heap.size + 1 < w2.heap.size + 1 := by omega
  have bN := (Own.new w2 22 [.slice none 0 0]).alloc (.cells #[putV w2.heap.size (w2.heap.size + 1)] 90)
  have bP := Own.new (w2.alloc (.cells #[.slice none 0 0] 22)) 90 [putV w2.heap.size (w2.heap.size + 1)]
  simp only [World.size_alloc] at bP
  have b0 := (a0.alloc (.cells #[.slice none 0 0] 22)).alloc (.cells #[putV w2.heap.size (w2.heap.size + 1)] 90)
  have b3 := (a1.alloc (.cells #[.slice none 0 0] 22)).alloc (.cells #[putV w2.heap.size (w2.heap.size + 1)] 90)
  have kb := kept_alloc (kept_alloc ka (.cells #[.slice none 0 0] 22)) (.cells #[putV w2.heap.size (w2.heap.size + 1)] 90)
  have CP := put_any w2.heap.size (w2.heap.size + 1) (w2.heap.size + 2) (by omega) (by omega) (cntF f) f A c (-1) (-2) [] (.slice none 0 0) w _ (Nat.le_refl _) hs hr kb (by omega) (by simp) bN bP (World.ownsRow_nil _ _ _ _) (by simp)
  unfold fmV putV at CP
  unfold putV at b0 b3 kb
  obtain ⟨r, hrp⟩ : ∃ r, r = putF f (-1) (-2) [] := ⟨_, rfl⟩
  rw [← hrp] at CP hbig
  have HCP := Lib.hid CP
  have HRP := Lib.hid hrp
  clear CP hrp bN bP hr hs
  go_wp2_with fail
  refine HCP.out.mono ?_
  rintro e w3 ⟨v3, rfl, oN3, r3, T3, L3⟩
  have K3 : Kept w w3 := kept_trn kb T3 (by omega) (fun b hb => by simp [Value.ownBlock] at hb)
  have a3 := b3.trn T3 (by omega) (by simp [Value.ownBlock])
  obtain ⟨A3, c3, rfl, r3⟩ := row_form r3
  have cN := oN3.cell (j := 0) rfl
  clear q0 q1 q2 T3 L3 a0 a1 ka b0 b3 kb
  have e0 := a3.cell (j := 0) rfl
  have e1 := a3.cell (j := 1) rfl
  have e2 := a3.cell (j := 2) rfl
  have f0 := a3.frozen 0
  have f1 := a3.frozen 1
  have f2 := a3.frozen 2
  have b4 : decide ((20000 : Int) < (r.2.length : Int)) = true := decide_eq_true (by omega)
  have b5 : decide (20000 < r.2.length) = true := decide_eq_true hbig
  have ka := K3
  have a1 := a3
  go_wp2_with fail
  have o3 := ((a1.set 0 (.int .i64 0)).set 1 (.int .i64 0)).set 2 (.slice none 0 0)
  have pk := kept_set (g := w.heap.size + 1) (j := 2) (kept_set (g := w.heap.size + 1) (j := 1) (kept_set (g := w.heap.size + 1) (j := 0) ka (by omega) (.int .i64 0)) (by omega) (.int .i64 0)) (by omega) (.slice none 0 0)
  obtain ⟨W2, hW2⟩ : ∃ W2, W2 = ((w3.setCell ⟨w.heap.size + 1, 0, none⟩ (.int .i64 0)).setCell ⟨w.heap.size + 1, 1, none⟩ (.int .i64 0)).setCell ⟨w.heap.size + 1, 2, none⟩ (.slice none 0 0) := ⟨_, rfl⟩
  rw [← hW2] at pk o3 ⊢
  clear hW2 e0 e1 e2
  have q0 := o3.cell (j := 0) rfl
  have q1 := o3.cell (j := 1) rfl
  have q2 := o3.cell (j := 2) rfl
  exact bodyPost_ret (v := .tuple #[.agg #[.int .i64 0, .int .i64 0, .slice none 0 0], .int .i64 5]) (by simp [results, Try.results44, go_sem, q0, q1, q2]) rfl ⟨rfl, pk⟩

set_option maxRecDepth 100000 in
set_option maxHeartbeats 1000000 in
theorem from_good (f : Fm) (A : Option Addr) (c : Nat) (n : Int) (w : World) (hc : cntF f ≤ 20000) (hd : depF f ≤ 1000) (hl : f.l.length ≤ 9223372036854775807) (hr : RK w A f.l) (hs : shpF f = true) (hn : inpF f ≤ n ∧ n ≤ 16) (hsm : (putF f (-1) (-2) []).2.length ≤ 20000) :
    Calls Try.prog 44 #[fmV f A c, .int .i64 n] w fun e w' => ∃ v, e = .returned (.tuple #[v, .int .i64 0]) ∧ BrIs n (tn (putF f (-1) (-2) []).2.length (putF f (-1) (-2) []).1) (tnodes (putF f (-1) (-2) []).2) w v w' := by
  have hgood := put_ok (n := 16) (cntF f) f (Nat.le_refl _) hs (by omega) (-1) (-2) [] (fun k hk => by simp at hk) (.inl rfl) (.inr (.inl rfl))
  obtain ⟨r, hrp⟩ : ∃ r, r = putF f (-1) (-2) [] := ⟨_, rfl⟩
  rw [← hrp] at hsm hgood ⊢
  have HRP := Lib.hid hrp
  clear hrp
  have C83 := Lib.hid fun (w' : World) (k : Kept w w') => inputs83_any f A c w' hc hd hl (hr.kept k) hs
  unfold fmV at C83
  have hi16 := inp_bounds _ f (Nat.le_refl _) hs
  obtain ⟨i, hi⟩ : ∃ i, i = inpF f := ⟨_, rfl⟩
  rw [← hi] at C83 hn hi16
  have HI := Lib.hid hi; clear hi
  have b1 : decide (n < i) = false := decide_eq_false (by omega)
  have b2 : decide (16 < n) = false := decide_eq_false (by omega)
  have a0 := (Own.new w 52 [.int .i64 f.k, .int .i64 f.n, .slice A f.l.length c]).alloc (.cells #[.int .i64 0, .int .i64 0, .slice none 0 0] 24)
  have a1 := Own.new (w.alloc (.cells #[.int .i64 f.k, .int .i64 f.n, .slice A f.l.length c] 52)) 24 [.int .i64 0, .int .i64 0, .slice none 0 0]
  have ka := kept_alloc (kept_alloc (kept_refl w) (.cells #[.int .i64 f.k, .int .i64 f.n, .slice A f.l.length c] 52)) (.cells #[.int .i64 0, .int .i64 0, .slice none 0 0] 24)
  simp only [World.size_alloc] at a1
  have C82 := Lib.hid fun (w' : World) (k : Kept w w') => valid82_any f A c w' hc hd hl (hr.kept k)
  unfold fmV at C82 ⊢
  skip
  go_enter Try.func44, Try.ntmps44
  go_wp2_with fail
  refine (C82.out _ ka).mono ?_
  rintro e w1 ⟨rfl, k1⟩
  rw [hs]
  replace a0 := a0.kept k1; replace a1 := a1.kept k1; replace ka := kept_trans ka k1
  clear k1
  have q0 := a0.cell (j := 0) rfl
  have q1 := a0.cell (j := 1) rfl
  have q2 := a0.cell (j := 2) rfl
  go_wp2_with fail
  refine (C83.out _ ka).mono ?_
  rintro e w2 ⟨rfl, k2⟩
  replace a0 := a0.kept k2; replace a1 := a1.kept k2; replace ka := kept_trans ka k2
  clear k2 q0 q1 q2
  have zz : w.heap.size + 1 < w2.heap.size := a1.lt
  have q0 := a0.cell (j := 0) rfl
  have q1 := a0.cell (j := 1) rfl
  have q2 := a0.cell (j := 2) rfl
  have z0 : w.heap.size < w2.heap.size := by omega
  have z1 : w.heap.size < w2.heap.size + 1 := by omega
  have z2 : w.heap.size + 1 < w2.heap.size + 1 := by omega
  have bN := (Own.new w2 22 [.slice none 0 0]).alloc (.cells #[putV w2.heap.size (w2.heap.size + 1)] 90)
  have bP := Own.new (w2.alloc (.cells #[.slice none 0 0] 22)) 90 [putV w2.heap.size (w2.heap.size + 1)]
  simp only [World.size_alloc] at bP
  have b0 := (a0.alloc (.cells #[.slice none 0 0] 22)).alloc (.cells #[putV w2.heap.size (w2.heap.size + 1)] 90)
  have b3 := (a1.alloc (.cells #[.slice none 0 0] 22)).alloc (.cells #[putV w2.heap.size (w2.heap.size + 1)] 90)
  have kb := kept_alloc (kept_alloc ka (.cells #[.slice none 0 0] 22)) (.cells #[putV w2.heap.size (w2.heap.size + 1)] 90)
  have CP := put_any w2.heap.size (w2.heap.size + 1) (w2.heap.size + 2) (by omega) (by omega) (cntF f) f A c (-1) (-2) [] (.slice none 0 0) w _ (Nat.le_refl _) hs hr kb (by omega) (by simp) bN bP (World.ownsRow_nil _ _ _ _) (by simp)
  unfold fmV putV at CP
  unfold putV at b0 b3 kb
  rw [← HRP.out] at CP
  have HCP := Lib.hid CP
  clear CP bN bP hr hs
  go_wp2_with fail
  refine HCP.out.mono ?_
  rintro e w3 ⟨v3, rfl, oN3, r3, T3, L3⟩
  have K3 : Kept w w3 := kept_trn kb T3 (by omega) (fun b hb => by simp [Value.ownBlock] at hb)
  have a3 := b3.trn T3 (by omega) (by simp [Value.ownBlock])
  obtain ⟨A3, c3, rfl, r3⟩ := row_form r3
  have cN := oN3.cell (j := 0) rfl
  clear q0 q1 q2 T3 L3 a0 a1 ka b0 b3 kb
  have e0 := a3.cell (j := 0) rfl
  have e1 := a3.cell (j := 1) rfl
  have e2 := a3.cell (j := 2) rfl
  have f0 := a3.frozen 0
  have f1 := a3.frozen 1
  have f2 := a3.frozen 2
  have b4 : decide ((20000 : Int) < (r.2.length : Int)) = false := decide_eq_false (by omega)
  have b5 : decide (20000 < r.2.length) = false := decide_eq_false (by omega)
  have hg1 := hgood.good
  have hg2 := hgood.ref
  have C80 := turned_any n r.1 A3 r.2.length c3 r.2 w3 (row_rd r3) rfl hsm (refOk_lt hg2) (by unfold refOk at hg2; omega) (fun k hk => by
    have := hg1 k hk
    simp only [nd_z, nd_o, refOk] at this
    omega)
  have HC80 := Lib.hid C80
  clear C80 hg1 hg2 hgood
  go_wp2_with fail
  refine HC80.out.mono ?_
  rintro e w4 ⟨v4, rfl, A4, c4, rfl, r4, k4⟩
  simp only [tnodes_length] at r4 ⊢
  replace a3 := a3.kept k4
  clear e0 e1 e2 f0 f1 f2
  have e0 := a3.cell (j := 0) rfl
  have e1 := a3.cell (j := 1) rfl
  have e2 := a3.cell (j := 2) rfl
  have f0 := a3.frozen 0
  have f1 := a3.frozen 1
  have f2 := a3.frozen 2
  have K4 := kept_trans K3 k4
  have zw : w.heap.size + 2 ≤ w3.heap.size := by have := oN3.lt; omega
  go_wp2_with fail
  have o3 := ((a3.set 0 (.int .i64 n)).set 1 (.int .i64 (tn r.2.length r.1))).set 2 (.slice A4 r.2.length c4)
  have pr := ownsRow_setCell_below (ownsRow_setCell_below (ownsRow_setCell_below r4 (a := ⟨w.heap.size + 1, 0, none⟩) (by dsimp only; omega) (.int .i64 n)) (a := ⟨w.heap.size + 1, 1, none⟩) (by dsimp only; omega) (.int .i64 (tn r.2.length r.1))) (a := ⟨w.heap.size + 1, 2, none⟩) (by dsimp only; omega) (.slice A4 r.2.length c4)
  have pk := kept_set (g := w.heap.size + 1) (j := 2) (kept_set (g := w.heap.size + 1) (j := 1) (kept_set (g := w.heap.size + 1) (j := 0) K4 (by omega) (.int .i64 n)) (by omega) (.int .i64 (tn r.2.length r.1))) (by omega) (.slice A4 r.2.length c4)
  obtain ⟨W2, hW2⟩ : ∃ W2, W2 = ((w4.setCell ⟨w.heap.size + 1, 0, none⟩ (.int .i64 n)).setCell ⟨w.heap.size + 1, 1, none⟩ (.int .i64 (tn r.2.length r.1))).setCell ⟨w.heap.size + 1, 2, none⟩ (.slice A4 r.2.length c4) := ⟨_, rfl⟩
  rw [← hW2] at pr pk o3 ⊢
  clear hW2 e0 e1 e2
  have q0 := o3.cell (j := 0) rfl
  have q1 := o3.cell (j := 1) rfl
  have q2 := o3.cell (j := 2) rfl
  exact bodyPost_ret (v := .tuple #[.agg #[.int .i64 n, .int .i64 (tn r.2.length r.1), .slice A4 r.2.length c4], .int .i64 0]) (by simp [results, Try.results44, go_sem, q0, q1, q2]) rfl ⟨_, rfl, A4, c4, by rw [tnodes_length], by rw [tnodes_length]; exact pr.mono (by omega), pk⟩
end Go.Proofs.Ytinpmdekdfgiiaa

/- For BranchFrom: a formula in a new block, and its value at a point. -/
set_option linter.unusedVariables false
set_option linter.unusedSimpArgs false
namespace Go.Proofs.Ytinpmdekdfgiiaa
open Go.RowKit

theorem rk_new {f : Fm} {A : Option Addr} {c g : Nat} {w : World} (o : Own w g 52 [.int .i64 f.k, .int .i64 f.n, .slice A f.l.length c]) (hl : f.l.length ≤ 9223372036854775807) (hr : RK w A f.l) : RK w (some ⟨g, 0, none⟩) [f] :=
  .cons (o.cell (j := 0) rfl) (o.cell (j := 1) rfl) (o.cell (j := 2) rfl) hl hr (.nil _)

end Go.Proofs.Ytinpmdekdfgiiaa

/- The law BranchFrom: the walk. -/
set_option linter.unusedVariables false
set_option linter.unusedSimpArgs false
namespace Go.Proofs.Ytinpmdekdfgiiaa
open Go.RowKit

end Go.Proofs.Ytinpmdekdfgiiaa
