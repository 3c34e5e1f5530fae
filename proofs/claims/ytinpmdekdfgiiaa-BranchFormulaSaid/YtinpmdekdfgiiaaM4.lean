/- Joined: H2, J1, J2. -/
import Derived.Test.YtinpmdekdfgiiaaM3
import Derived.Test.YtinpmdekdfgiiaaE6
import Derived.Test.YtinpmdekdfgiiaaC6
import Derived.Test.YtinpmdekdfgiiaaE7
import Derived.Test.YtinpmdekdfgiiaaM2
/- From. -/
set_option linter.unusedVariables false
set_option linter.unusedSimpArgs false
namespace Go.Proofs.Ytinpmdekdfgiiaa
open Go.RowKit

set_option maxRecDepth 100000 in
set_option maxHeartbeats 1000000 in
theorem from_bad1 (f : Fm) (A : Option Addr) (c : Nat) (n : Int) (w : World) (hc : cntF f ≤ 20000) (hd : depF f ≤ 1000) (hl : f.l.length ≤ 9223372036854775807) (hr : RK w A f.l) (hs : shpF f = false) :
    Calls Try.prog 44 #[fmV f A c, .int .i64 n] w (BrBad 1 w) := by
  have a0 := (Own.new w 52 [.int .i64 f.k, .int .i64 f.n, .slice A f.l.length c]).alloc (.cells #[.int .i64 0, .int .i64 0, .slice none 0 0] 24)
  have a1 := Own.new (w.alloc (.cells #[.int .i64 f.k, .int .i64 f.n, .slice A f.l.length c] 52)) 24 [.int .i64 0, .int .i64 0, .slice none 0 0]
  have ka := kept_alloc (kept_alloc (kept_refl w) (.cells #[.int .i64 f.k, .int .i64 f.n, .slice A f.l.length c] 52)) (.cells #[.int .i64 0, .int .i64 0, .slice none 0 0] 24)
  simp only [World.size_alloc] at a1
  have C82 := Lib.hid fun (w' : World) (k : Kept w w') => valid82_any f A c w' hc hd hl (hr.kept k)
  unfold fmV at C82 ⊢
  clear hr
  go_enter Try.func44, Try.ntmps44
  go_wp2_with fail
  refine (C82.out _ ka).mono ?_
  rintro e w1 ⟨rfl, k1⟩
  rw [hs]
  replace a0 := a0.kept k1; replace a1 := a1.kept k1; replace ka := kept_trans ka k1
  clear k1
  have e0 := a1.cell (j := 0) rfl
  have e1 := a1.cell (j := 1) rfl
  have e2 := a1.cell (j := 2) rfl
  have f0 := a1.frozen 0
  have f1 := a1.frozen 1
  have f2 := a1.frozen 2
  go_wp2_with fail
  have o3 := ((a1.set 0 (.int .i64 0)).set 1 (.int .i64 0)).set 2 (.slice none 0 0)
  have pk := kept_set (g := w.heap.size + 1) (j := 2) (kept_set (g := w.heap.size + 1) (j := 1) (kept_set (g := w.heap.size + 1) (j := 0) ka (by omega) (.int .i64 0)) (by omega) (.int .i64 0)) (by omega) (.slice none 0 0)
  obtain ⟨W2, hW2⟩ : ∃ W2, W2 = ((w1.setCell ⟨w.heap.size + 1, 0, none⟩ (.int .i64 0)).setCell ⟨w.heap.size + 1, 1, none⟩ (.int .i64 0)).setCell ⟨w.heap.size + 1, 2, none⟩ (.slice none 0 0) := ⟨_, rfl⟩
  rw [← hW2] at pk o3 ⊢
  clear hW2 e0 e1 e2
  have q0 := o3.cell (j := 0) rfl
  have q1 := o3.cell (j := 1) rfl
  have q2 := o3.cell (j := 2) rfl
  exact bodyPost_ret (v := .tuple #[.agg #[.int .i64 0, .int .i64 0, .slice none 0 0], .int .i64 1]) (by simp [results, Try.results44, go_sem, q0, q1, q2]) rfl ⟨rfl, pk⟩

set_option maxRecDepth 100000 in
set_option maxHeartbeats 1000000 in
theorem from_bad2 (f : Fm) (A : Option Addr) (c : Nat) (n : Int) (w : World) (hc : cntF f ≤ 20000) (hd : depF f ≤ 1000) (hl : f.l.length ≤ 9223372036854775807) (hr : RK w A f.l) (hs : shpF f = true) (hn : n < inpF f ∨ 16 < n) :
    Calls Try.prog 44 #[fmV f A c, .int .i64 n] w (BrBad 2 w) := by
  have C83 := Lib.hid fun (w' : World) (k : Kept w w') => inputs83_any f A c w' hc hd hl (hr.kept k) hs
  unfold fmV at C83
  obtain ⟨i, hi⟩ : ∃ i, i = inpF f := ⟨_, rfl⟩
  rw [← hi] at C83 hn
  clear hi
  have a0 := (Own.new w 52 [.int .i64 f.k, .int .i64 f.n, .slice A f.l.length c]).alloc (.cells #[.int .i64 0, .int .i64 0, .slice none 0 0] 24)
  have a1 := Own.new (w.alloc (.cells #[.int .i64 f.k, .int .i64 f.n, .slice A f.l.length c] 52)) 24 [.int .i64 0, .int .i64 0, .slice none 0 0]
  have ka := kept_alloc (kept_alloc (kept_refl w) (.cells #[.int .i64 f.k, .int .i64 f.n, .slice A f.l.length c] 52)) (.cells #[.int .i64 0, .int .i64 0, .slice none 0 0] 24)
  simp only [World.size_alloc] at a1
  have C82 := Lib.hid fun (w' : World) (k : Kept w w') => valid82_any f A c w' hc hd hl (hr.kept k)
  unfold fmV at C82 ⊢
  clear hr
  go_enter Try.func44, Try.ntmps44
  go_wp2_with fail
  refine (C82.out _ ka).mono ?_
  rintro e w1 ⟨rfl, k1⟩
  rw [hs]
  replace a0 := a0.kept k1; replace a1 := a1.kept k1; replace ka := kept_trans ka k1
  clear k1
  have q0 := a0.cell (j := 0) rfl
  have q1 := a0.cell (j := 1) rfl
  have q2 := a0.cell (j := 2) rfl
  go_wp2_with fail
  refine (C83.out _ ka).mono ?_
  rintro e w2 ⟨rfl, k2⟩
  replace a0 := a0.kept k2; replace a1 := a1.kept k2; replace ka := kept_trans ka k2
  clear k2 q0 q1 q2
  by_cases hlt : n < i
  case' pos => have b1 : decide (n < i) = true := decide_eq_true hlt
  case' neg =>
    have b1 : decide (n < i) = false := decide_eq_false hlt
    have b2 : decide (16 < n) = true := decide_eq_true (hn.resolve_left hlt)
  all_goals
    clear hlt hn
    have e0 := a1.cell (j := 0) rfl
    have e1 := a1.cell (j := 1) rfl
    have e2 := a1.cell (j := 2) rfl
    have f0 := a1.frozen 0
    have f1 := a1.frozen 1
    have f2 := a1.frozen 2
    go_wp2_with fail
    have o3 := ((a1.set 0 (.int .i64 0)).set 1 (.int .i64 0)).set 2 (.slice none 0 0)
    have pk := kept_set (g := w.heap.size + 1) (j := 2) (kept_set (g := w.heap.size + 1) (j := 1) (kept_set (g := w.heap.size + 1) (j := 0) ka (by omega) (.int .i64 0)) (by omega) (.int .i64 0)) (by omega) (.slice none 0 0)
    obtain ⟨W2, hW2⟩ : ∃ W2, W2 = ((w2.setCell ⟨w.heap.size + 1, 0, none⟩ (.int .i64 0)).setCell ⟨w.heap.size + 1, 1, none⟩ (.int .i64 0)).setCell ⟨w.heap.size + 1, 2, none⟩ (.slice none 0 0) := ⟨_, rfl⟩
    rw [← hW2] at pk o3 ⊢
    clear hW2 e0 e1 e2
    have q0 := o3.cell (j := 0) rfl
    have q1 := o3.cell (j := 1) rfl
    have q2 := o3.cell (j := 2) rfl
    exact bodyPost_ret (v := .tuple #[.agg #[.int .i64 0, .int .i64 0, .slice none 0 0], .int .i64 2]) (by simp [results, Try.results44, go_sem, q0, q1, q2]) rfl ⟨rfl, pk⟩

set_option maxRecDepth 100000 in
set_option maxHeartbeats 1000000 in
theorem from_big (f : Fm) (A : Option Addr) (c : Nat) (n : Int) (w : World) (hc : cntF f ≤ 20000) (hd : depF f ≤ 1000) (hl : f.l.length ≤ 9223372036854775807) (hr : RK w A f.l) (hs : shpF f = true) (hn : inpF f ≤ n ∧ n ≤ 16) (hbig : 20000 < (putF f (-1) (-2) []).2.length) :
    Calls Try.prog 44 #[fmV f A c, .int .i64 n] w (BrBad 5 w) := by
  have C83 := Lib.hid fun (w' : World) (k : Kept w w') => inputs83_any f A c w' hc hd hl (hr.kept k) hs
  unfold fmV at C83
  have hi16 := inp_bounds _ f (Nat.le_refl _) hs
  obtain ⟨i, hi⟩ : ∃ i, i = inpF f := ⟨_, rfl⟩
  rw [← hi] at C83 hn hi16
  have HI := Lib.hid hi; clear hi
  have b1 : decide (n < i) = false := decide_eq_false (by omega)
  have b2 : decide (16 < n) = false := decide_eq_false (by omega)
  have a0 := (Own.new w 52 [.int .i64 f.k, .int .i64 f.n, .slice A f.l.length c]).alloc (.cells #[.int .i64 0, .int .i64 0, .slice none 0 0] 24)
  have a1 := Own.new (w.alloc (.cells #[.int .i64 f.k, .int .i64 f.n, .slice A f.l.length c] 52)) 24 [.int .i64 0, .int .i64 0, .slice none 0 0]
  have ka := kept_alloc (kept_alloc (kept_refl w) (.cells #[.int .i64 f.k, .int .i64 f.n, .slice A f.l.length c] 52)) (.cells #[.int .i64 0, .int .i64 0, .slice none 0 0] 24)
  simp only [World.size_alloc] at a1
  have C82 := Lib.hid fun (w' : World) (k : Kept w w') => valid82_any f A c w' hc hd hl (hr.kept k)
  unfold fmV at C82 ⊢
  skip
  go_enter Try.func44, Try.ntmps44
  go_wp2_with fail
  refine (C82.out _ ka).mono ?_
  rintro e w1 ⟨rfl, k1⟩
  rw [hs]
  replace a0 := a0.kept k1; replace a1 := a1.kept k1; replace ka := kept_trans ka k1
  clear k1
  have q0 := a0.cell (j := 0) rfl
  have q1 := a0.cell (j := 1) rfl
  have q2 := a0.cell (j := 2) rfl
  go_wp2_with fail
  refine (C83.out _ ka).mono ?_
  rintro e w2 ⟨rfl, k2⟩
  replace a0 := a0.kept k2; replace a1 := a1.kept k2; replace ka := kept_trans ka k2
  clear k2 q0 q1 q2
  have zz : w.heap.size + 1 < w2.heap.size := a1.lt
  have q0 := a0.cell (j := 0) rfl
  have q1 := a0.cell (j := 1) rfl
  have q2 := a0.cell (j := 2) rfl
  have z0 : w.heap.size < w2.heap.size := by omega
  have z1 : w.heap.size < w2.heap.size + 1 := by omega
  have z2 : w.heap.size + 1 < w2.heap.size + 1 := by omega
  have bN := (Own.new w2 22 [.slice none 0 0]).alloc (.cells #[putV w2.heap.size (w2.heap.size + 1)] 90)
  have bP := Own.new (w2.alloc (.cells #[.slice none 0 0] 22)) 90 [putV w2.heap.size (w2.heap.size + 1)]
  simp only [World.size_alloc] at bP
  have b0 := (a0.alloc (.cells #[.slice none 0 0] 22)).alloc (.cells #[putV w2.heap.size (w2.heap.size + 1)] 90)
  have b3 := (a1.alloc (.cells #[.slice none 0 0] 22)).alloc (.cells #[putV w2.heap.size (w2.heap.size + 1)] 90)
  have kb := kept_alloc (kept_alloc ka (.cells #[.slice none 0 0] 22)) (.cells #[putV w2.heap.size (w2.heap.size + 1)] 90)
  have CP := put_any w2.heap.size (w2.heap.size + 1) (w2.heap.size + 2) (by omega) (by omega) (cntF f) f A c (-1) (-2) [] (.slice none 0 0) w _ (Nat.le_refl _) hs hr kb (by omega) (by simp) bN bP (World.ownsRow_nil _ _ _ _) (by simp)
  unfold fmV putV at CP
  unfold putV at b0 b3 kb
  obtain ⟨r, hrp⟩ : ∃ r, r = putF f (-1) (-2) [] := ⟨_, rfl⟩
  rw [← hrp] at CP hbig
  have HCP := Lib.hid CP
  have HRP := Lib.hid hrp
  clear CP hrp bN bP hr hs
  go_wp2_with fail
  refine HCP.out.mono ?_
  rintro e w3 ⟨v3, rfl, oN3, r3, T3, L3⟩
  have K3 : Kept w w3 := kept_trn kb T3 (by omega) (fun b hb => by simp [Value.ownBlock] at hb)
  have a3 := b3.trn T3 (by omega) (by simp [Value.ownBlock])
  obtain ⟨A3, c3, rfl, r3⟩ := row_form r3
  have cN := oN3.cell (j := 0) rfl
  clear q0 q1 q2 T3 L3 a0 a1 ka b0 b3 kb
  have e0 := a3.cell (j := 0) rfl
  have e1 := a3.cell (j := 1) rfl
  have e2 := a3.cell (j := 2) rfl
  have f0 := a3.frozen 0
  have f1 := a3.frozen 1
  have f2 := a3.frozen 2
  have b4 : decide ((20000 : Int) < (r.2.length : Int)) = true := decide_eq_true (by omega)
  have b5 : decide (20000 < r.2.length) = true := decide_eq_true hbig
  have ka := K3
  have a1 := a3
  go_wp2_with fail
  have o3 := ((a1.set 0 (.int .i64 0)).set 1 (.int .i64 0)).set 2 (.slice none 0 0)
  have pk := kept_set (g := w.heap.size + 1) (j := 2) (kept_set (g := w.heap.size + 1) (j := 1) (kept_set (g := w.heap.size + 1) (j := 0) ka (by omega) (.int .i64 0)) (by omega) (.int .i64 0)) (by omega) (.slice none 0 0)
  obtain ⟨W2, hW2⟩ : ∃ W2, W2 = ((w3.setCell ⟨w.heap.size + 1, 0, none⟩ (.int .i64 0)).setCell ⟨w.heap.size + 1, 1, none⟩ (.int .i64 0)).setCell ⟨w.heap.size + 1, 2, none⟩ (.slice none 0 0) := ⟨_, rfl⟩
  rw [← hW2] at pk o3 ⊢
  clear hW2 e0 e1 e2
  have q0 := o3.cell (j := 0) rfl
  have q1 := o3.cell (j := 1) rfl
  have q2 := o3.cell (j := 2) rfl
  exact bodyPost_ret (v := .tuple #[.agg #[.int .i64 0, .int .i64 0, .slice none 0 0], .int .i64 5]) (by simp [results, Try.results44, go_sem, q0, q1, q2]) rfl ⟨rfl, pk⟩

set_option maxRecDepth 100000 in
set_option maxHeartbeats 1000000 in
theorem from_good (f : Fm) (A : Option Addr) (c : Nat) (n : Int) (w : World) (hc : cntF f ≤ 20000) (hd : depF f ≤ 1000) (hl : f.l.length ≤ 9223372036854775807) (hr : RK w A f.l) (hs : shpF f = true) (hn : inpF f ≤ n ∧ n ≤ 16) (hsm : (putF f (-1) (-2) []).2.length ≤ 20000) :
    Calls Try.prog 44 #[fmV f A c, .int .i64 n] w fun e w' => ∃ v, e = .returned (.tuple #[v, .int .i64 0]) ∧ BrIs n (tn (putF f (-1) (-2) []).2.length (putF f (-1) (-2) []).1) (tnodes (putF f (-1) (-2) []).2) w v w' := by
  have hgood := put_ok (n := 16) (cntF f) f (Nat.le_refl _) hs (by omega) (-1) (-2) [] (fun k hk => by simp at hk) (.inl rfl) (.inr (.inl rfl))
  obtain ⟨r, hrp⟩ : ∃ r, r = putF f (-1) (-2) [] := ⟨_, rfl⟩
  rw [← hrp] at hsm hgood ⊢
  have HRP := Lib.hid hrp
  clear hrp
  have C83 := Lib.hid fun (w' : World) (k : Kept w w') => inputs83_any f A c w' hc hd hl (hr.kept k) hs
  unfold fmV at C83
  have hi16 := inp_bounds _ f (Nat.le_refl _) hs
  obtain ⟨i, hi⟩ : ∃ i, i = inpF f := ⟨_, rfl⟩
  rw [← hi] at C83 hn hi16
  have HI := Lib.hid hi; clear hi
  have b1 : decide (n < i) = false := decide_eq_false (by omega)
  have b2 : decide (16 < n) = false := decide_eq_false (by omega)
  have a0 := (Own.new w 52 [.int .i64 f.k, .int .i64 f.n, .slice A f.l.length c]).alloc (.cells #[.int .i64 0, .int .i64 0, .slice none 0 0] 24)
  have a1 := Own.new (w.alloc (.cells #[.int .i64 f.k, .int .i64 f.n, .slice A f.l.length c] 52)) 24 [.int .i64 0, .int .i64 0, .slice none 0 0]
  have ka := kept_alloc (kept_alloc (kept_refl w) (.cells #[.int .i64 f.k, .int .i64 f.n, .slice A f.l.length c] 52)) (.cells #[.int .i64 0, .int .i64 0, .slice none 0 0] 24)
  simp only [World.size_alloc] at a1
  have C82 := Lib.hid fun (w' : World) (k : Kept w w') => valid82_any f A c w' hc hd hl (hr.kept k)
  unfold fmV at C82 ⊢
  skip
  go_enter Try.func44, Try.ntmps44
  go_wp2_with fail
  refine (C82.out _ ka).mono ?_
  rintro e w1 ⟨rfl, k1⟩
  rw [hs]
  replace a0 := a0.kept k1; replace a1 := a1.kept k1; replace ka := kept_trans ka k1
  clear k1
  have q0 := a0.cell (j := 0) rfl
  have q1 := a0.cell (j := 1) rfl
  have q2 := a0.cell (j := 2) rfl
  go_wp2_with fail
  refine (C83.out _ ka).mono ?_
  rintro e w2 ⟨rfl, k2⟩
  replace a0 := a0.kept k2; replace a1 := a1.kept k2; replace ka := kept_trans ka k2
  clear k2 q0 q1 q2
  have zz : w.heap.size + 1 < w2.heap.size := a1.lt
  have q0 := a0.cell (j := 0) rfl
  have q1 := a0.cell (j := 1) rfl
  have q2 := a0.cell (j := 2) rfl
  have z0 : w.heap.size < w2.heap.size := by omega
  have z1 : w.heap.size < w2.heap.size + 1 := by omega
  have z2 : w.heap.size + 1 < w2.heap.size + 1 := by omega
  have bN := (Own.new w2 22 [.slice none 0 0]).alloc (.cells #[putV w2.heap.size (w2.heap.size + 1)] 90)
  have bP := Own.new (w2.alloc (.cells #[.slice none 0 0] 22)) 90 [putV w2.heap.size (w2.heap.size + 1)]
  simp only [World.size_alloc] at bP
  have b0 := (a0.alloc (.cells #[.slice none 0 0] 22)).alloc (.cells #[putV w2.heap.size (w2.heap.size + 1)] 90)
  have b3 := (a1.alloc (.cells #[.slice none 0 0] 22)).alloc (.cells #[putV w2.heap.size (w2.heap.size + 1)] 90)
  have kb := kept_alloc (kept_alloc ka (.cells #[.slice none 0 0] 22)) (.cells #[putV w2.heap.size (w2.heap.size + 1)] 90)
  have CP := put_any w2.heap.size (w2.heap.size + 1) (w2.heap.size + 2) (by omega) (by omega) (cntF f) f A c (-1) (-2) [] (.slice none 0 0) w _ (Nat.le_refl _) hs hr kb (by omega) (by simp) bN bP (World.ownsRow_nil _ _ _ _) (by simp)
  unfold fmV putV at CP
  unfold putV at b0 b3 kb
  rw [← HRP.out] at CP
  have HCP := Lib.hid CP
  clear CP bN bP hr hs
  go_wp2_with fail
  refine HCP.out.mono ?_
  rintro e w3 ⟨v3, rfl, oN3, r3, T3, L3⟩
  have K3 : Kept w w3 := kept_trn kb T3 (by omega) (fun b hb => by simp [Value.ownBlock] at hb)
  have a3 := b3.trn T3 (by omega) (by simp [Value.ownBlock])
  obtain ⟨A3, c3, rfl, r3⟩ := row_form r3
  have cN := oN3.cell (j := 0) rfl
  clear q0 q1 q2 T3 L3 a0 a1 ka b0 b3 kb
  have e0 := a3.cell (j := 0) rfl
  have e1 := a3.cell (j := 1) rfl
  have e2 := a3.cell (j := 2) rfl
  have f0 := a3.frozen 0
  have f1 := a3.frozen 1
  have f2 := a3.frozen 2
  have b4 : decide ((20000 : Int) < (r.2.length : Int)) = false := decide_eq_false (by omega)
  have b5 : decide (20000 < r.2.length) = false := decide_eq_false (by omega)
  have hg1 := hgood.good
  have hg2 := hgood.ref
  have C80 := turned_any n r.1 A3 r.2.length c3 r.2 w3 (row_rd r3) rfl hsm (refOk_lt hg2) (by unfold refOk at hg2; omega) (fun k hk => by
    have := hg1 k hk
    simp only [nd_z, nd_o, refOk] at this
    omega)
  have HC80 := Lib.hid C80
  clear C80 hg1 hg2 hgood
  go_wp2_with fail
  refine HC80.out.mono ?_
  rintro e w4 ⟨v4, rfl, A4, c4, rfl, r4, k4⟩
  simp only [tnodes_length] at r4 ⊢
  replace a3 := a3.kept k4
  clear e0 e1 e2 f0 f1 f2
  have e0 := a3.cell (j := 0) rfl
  have e1 := a3.cell (j := 1) rfl
  have e2 := a3.cell (j := 2) rfl
  have f0 := a3.frozen 0
  have f1 := a3.frozen 1
  have f2 := a3.frozen 2
  have K4 := kept_trans K3 k4
  have zw : w.heap.size + 2 ≤ w3.heap.size := by have := oN3.lt; omega
  go_wp2_with fail
  have o3 := ((a3.set 0 (.int .i64 n)).set 1 (.int .i64 (tn r.2.length r.1))).set 2 (.slice A4 r.2.length c4)
  have pr := ownsRow_setCell_below (ownsRow_setCell_below (ownsRow_setCell_below r4 (a := ⟨w.heap.size + 1, 0, none⟩) (by dsimp only; omega) (.int .i64 n)) (a := ⟨w.heap.size + 1, 1, none⟩) (by dsimp only; omega) (.int .i64 (tn r.2.length r.1))) (a := ⟨w.heap.size + 1, 2, none⟩) (by dsimp only; omega) (.slice A4 r.2.length c4)
  have pk := kept_set (g := w.heap.size + 1) (j := 2) (kept_set (g := w.heap.size + 1) (j := 1) (kept_set (g := w.heap.size + 1) (j := 0) K4 (by omega) (.int .i64 n)) (by omega) (.int .i64 (tn r.2.length r.1))) (by omega) (.slice A4 r.2.length c4)
  obtain ⟨W2, hW2⟩ : ∃ W2, W2 = ((w4.setCell ⟨w.heap.size + 1, 0, none⟩ (.int .i64 n)).setCell ⟨w.heap.size + 1, 1, none⟩ (.int .i64 (tn r.2.length r.1))).setCell ⟨w.heap.size + 1, 2, none⟩ (.slice A4 r.2.length c4) := ⟨_, rfl⟩
  rw [← hW2] at pr pk o3 ⊢
  clear hW2 e0 e1 e2
  have q0 := o3.cell (j := 0) rfl
  have q1 := o3.cell (j := 1) rfl
  have q2 := o3.cell (j := 2) rfl
  exact bodyPost_ret (v := .tuple #[.agg #[.int .i64 n, .int .i64 (tn r.2.length r.1), .slice A4 r.2.length c4], .int .i64 0]) (by simp [results, Try.results44, go_sem, q0, q1, q2]) rfl ⟨_, rfl, A4, c4, by rw [tnodes_length], by rw [tnodes_length]; exact pr.mono (by omega), pk⟩
end Go.Proofs.Ytinpmdekdfgiiaa

/- For BranchFrom: a formula in a new block, and its value at a point. -/
set_option linter.unusedVariables false
set_option linter.unusedSimpArgs false
namespace Go.Proofs.Ytinpmdekdfgiiaa
open Go.RowKit

theorem rk_new {f : Fm} {A : Option Addr} {c g : Nat} {w : World} (o : Own w g 52 [.int .i64 f.k, .int .i64 f.n, .slice A f.l.length c]) (hl : f.l.length ≤ 9223372036854775807) (hr : RK w A f.l) : RK w (some ⟨g, 0, none⟩) [f] :=
  .cons (o.cell (j := 0) rfl) (o.cell (j := 1) rfl) (o.cell (j := 2) rfl) hl hr (.nil _)

theorem ev_congr {n : Nat} {x y : Nat → Bool} (hxy : ∀ k, k < n → x k = y k) : ∀ (N : Nat) (f : Fm), cntF f ≤ N → shpF f = true → inpF f ≤ n → evF x f = evF y f := by
  intro N
  induction N with
  | zero => intro f h; have := cntF_pos f; omega
  | succ N ih =>
    intro f hc hs hi
    rcases fm_cases hs with ⟨k, rfl, k0, k1⟩ | (rfl | rfl) | ⟨g, rfl, sg⟩ | ⟨k, g, h, hk, rfl, sg, sh⟩
    · have : k.toNat < n := by simp only [inpF, inpL] at hi; simp at hi; omega
      rw [ev_var x rfl, ev_var y rfl]
      exact hxy _ this
    · rw [ev_const x rfl, ev_const y rfl]
    · rw [ev_const x rfl, ev_const y rfl]
    · rw [ev_not x rfl rfl, ev_not y rfl rfl]
      simp only [Fm.l, kd_zero]
      have a := @inp_one 2 0 g
      have b := @cnt_one 2 0 g
      rw [ih g (by omega) sg (by omega)]
    · have a := @inp_two k 0 g h
      have b := @cnt_two k 0 g h
      have e1 := ih g (by omega) sg (by omega)
      have e2 := ih h (by omega) sh (by omega)
      rcases hk with rfl | rfl | rfl
      · rw [ev_and x rfl rfl, ev_and y rfl rfl]; simp only [Fm.l, kd_zero, kd_succ]; rw [e1, e2]
      · rw [ev_or x rfl rfl, ev_or y rfl rfl]; simp only [Fm.l, kd_zero, kd_succ]; rw [e1, e2]
      · rw [ev_xor x rfl rfl, ev_xor y rfl rfl]; simp only [Fm.l, kd_zero, kd_succ]; rw [e1, e2]

theorem reval_pt (n : Nat) (f : Fm) (A : Option Addr) (c g a : Nat) (w : World) (hs : shpF f = true) (hi : inpF f ≤ n ∧ n ≤ 16) (hr : RK w A f.l) (o : Own w g 4 (bools (ptB n a))) :
    Calls Try.prog 39 #[fmV f A c, .slice (some ⟨g, 0, none⟩) n n] w fun e w' => e = .returned (.bool (evF a.testBit f)) ∧ Kept w w' := by
  have h := reval39_any (some ⟨g, 0, none⟩) (ptB n a) n (by simp; omega) (cntF f) f A c w (Nat.le_refl _) hs (by simp; omega) hr o.rd
  rw [ev_congr (n := n) (x := xs (ptB n a)) (y := a.testBit) (fun k hk => ptB_ba hk) (cntF f) f (Nat.le_refl _) hs hi.1, ptB_length] at h
  exact h
end Go.Proofs.Ytinpmdekdfgiiaa

/- The law BranchFrom: the walk. -/
set_option linter.unusedVariables false
set_option linter.unusedSimpArgs false
namespace Go.Proofs.Ytinpmdekdfgiiaa
open Go.RowKit

set_option maxRecDepth 100000 in
set_option maxHeartbeats 1000000 in
theorem law_from (f : Fm) (A : Option Addr) (c : Nat) (n : Int) (more : Int) (w : World) (hr : RK w A f.l) (hl : f.l.length ≤ 9223372036854775807) (hb : -9223372036854775808 ≤ n ∧ n ≤ 9223372036854775807) (hm : 0 ≤ more ∧ more ≤ 65535) :
    Calls Try.prog 9 #[fmV f A c, .int .i64 n, .int .u16 more] w fun e w' => e = .returned (.bool true) ∧ Kept w w' := by
  have o0 := Own.new w 52 [.int .i64 f.k, .int .i64 f.n, .slice A f.l.length c]
  have q0 := o0.cell (j := 0) rfl
  have q1 := o0.cell (j := 1) rfl
  have q2 := o0.cell (j := 2) rfl
  have K0 : Kept w (w.alloc (.cells #[.int .i64 f.k, .int .i64 f.n, .slice A f.l.length c] 52)) := kept_alloc (kept_refl w) _
  have hf := fun (w' : World) (g : Nat) (k : Kept w w') (o : Own w' g 52 [.int .i64 f.k, .int .i64 f.n, .slice A f.l.length c]) => few35_any 100 f (some ⟨g, 0, none⟩) 1 w' (by omega) (by omega) (rk_new o hl (hr.kept k))
  by_cases hn : (cntF f : Int) ≤ 100
  case neg =>
    rw [decide_eq_false hn] at hf
    have F := Lib.hid hf; clear hf hn hr
    unfold fmV
    go_enter Try.func9, Try.ntmps9
    go_wp2_with fail
    have o1 := o0.alloc (.cells #[.int .i64 f.k, .int .i64 f.n, .slice A f.l.length c] 52)
    have oS := Own.new (w.alloc (.cells #[.int .i64 f.k, .int .i64 f.n, .slice A f.l.length c] 52)) 52 [.int .i64 f.k, .int .i64 f.n, .slice A f.l.length c]
    simp only [World.size_alloc] at oS
    replace K0 := kept_alloc K0 (.cells #[.int .i64 f.k, .int .i64 f.n, .slice A f.l.length c] 52)
    clear o0; have o0 := o1; clear o1
    refine (F.out _ _ K0 oS).mono ?_
    rintro e w1 ⟨rfl, k⟩
    replace K0 := kept_trans K0 k; replace o0 := o0.kept k
    clear q0 q1 q2 k
    have q0 := o0.cell (j := 0) rfl
    have q1 := o0.cell (j := 1) rfl
    have q2 := o0.cell (j := 2) rfl
    go_wp2_with fail
    refine (alive_any _).mono ?_
    rintro e w2 ⟨rfl, k⟩
    replace K0 := kept_trans K0 k; replace o0 := o0.kept k
    clear q0 q1 q2 k
    have q0 := o0.cell (j := 0) rfl
    have q1 := o0.cell (j := 1) rfl
    have q2 := o0.cell (j := 2) rfl
    go_wp2_with fail
    go_ret
    exact ⟨ret_bool (by simp), K0⟩
  case pos =>
    rw [decide_eq_true hn] at hf
    have F := Lib.hid hf; clear hf
    have hc : cntF f ≤ 20000 := by omega
    have hd : depF f ≤ 1000 := by have := dep_le_cnt f; omega
    have C36 := Lib.hid fun (w' : World) (k : Kept w w') => rvalid36_any f A c w' hc hd hl (hr.kept k)
    cases hs : shpF f
    · have C44 := Lib.hid fun (w' : World) (k : Kept w w') => from_bad1 f A c n w' hc hd hl (hr.kept k) hs
      rw [hs] at C36
      unfold fmV BrBad at *
      clear hs hr hc hd hn
      go_enter Try.func9, Try.ntmps9
      go_wp2_with fail
      have o1 := o0.alloc (.cells #[.int .i64 f.k, .int .i64 f.n, .slice A f.l.length c] 52)
      have oS := Own.new (w.alloc (.cells #[.int .i64 f.k, .int .i64 f.n, .slice A f.l.length c] 52)) 52 [.int .i64 f.k, .int .i64 f.n, .slice A f.l.length c]
      simp only [World.size_alloc] at oS
      replace K0 := kept_alloc K0 (.cells #[.int .i64 f.k, .int .i64 f.n, .slice A f.l.length c] 52)
      clear o0; have o0 := o1; clear o1
      refine (F.out _ _ K0 oS).mono ?_
      rintro e w3 ⟨rfl, k⟩
      replace K0 := kept_trans K0 k; replace o0 := o0.kept k
      clear q0 q1 q2 k
      have q0 := o0.cell (j := 0) rfl
      have q1 := o0.cell (j := 1) rfl
      have q2 := o0.cell (j := 2) rfl
      go_wp2_with fail
      refine (C44.out _ K0).mono ?_
      rintro e w4 ⟨rfl, k⟩
      have oC := Own.new w4 24 [.int .i64 0, .int .i64 0, .slice none 0 0]
      replace K0 := kept_trans K0 k; replace o0 := o0.kept k
      have zz := o0.lt
      replace K0 := kept_alloc K0 (.cells ([.int .i64 0, .int .i64 0, .slice none 0 0]).toArray 24); replace o0 := o0.alloc (.cells ([.int .i64 0, .int .i64 0, .slice none 0 0]).toArray 24)
      clear q0 q1 q2 k
      have q0 := o0.cell (j := 0) rfl
      have q1 := o0.cell (j := 1) rfl
      have q2 := o0.cell (j := 2) rfl
      have r0 := oC.cell (j := 0) rfl
      have r1 := oC.cell (j := 1) rfl
      have r2 := oC.cell (j := 2) rfl
      go_wp2_with fail
      refine (C36.out _ K0).mono ?_
      rintro e w5 ⟨rfl, k⟩
      replace K0 := kept_trans K0 k; replace o0 := o0.kept k; replace oC := oC.kept k
      clear q0 q1 q2 r0 r1 r2 k
      have q0 := o0.cell (j := 0) rfl
      have q1 := o0.cell (j := 1) rfl
      have q2 := o0.cell (j := 2) rfl
      have r0 := oC.cell (j := 0) rfl
      have r1 := oC.cell (j := 1) rfl
      have r2 := oC.cell (j := 2) rfl
      go_wp2_with fail
      refine (none_zero _).mono ?_
      rintro e w6 ⟨rfl, k⟩
      replace K0 := kept_trans K0 k; replace o0 := o0.kept k; replace oC := oC.kept k
      clear q0 q1 q2 r0 r1 r2 k
      have q0 := o0.cell (j := 0) rfl
      have q1 := o0.cell (j := 1) rfl
      have q2 := o0.cell (j := 2) rfl
      have r0 := oC.cell (j := 0) rfl
      have r1 := oC.cell (j := 1) rfl
      have r2 := oC.cell (j := 2) rfl
      go_wp2_with fail
      refine (alive_any _).mono ?_
      rintro e w7 ⟨rfl, k⟩
      replace K0 := kept_trans K0 k; replace o0 := o0.kept k; replace oC := oC.kept k
      clear q0 q1 q2 r0 r1 r2 k
      have q0 := o0.cell (j := 0) rfl
      have q1 := o0.cell (j := 1) rfl
      have q2 := o0.cell (j := 2) rfl
      have r0 := oC.cell (j := 0) rfl
      have r1 := oC.cell (j := 1) rfl
      have r2 := oC.cell (j := 2) rfl
      go_wp2_with fail
      go_ret
      exact ⟨ret_bool (by simp), K0⟩
    · have C37 := Lib.hid fun (w' : World) (k : Kept w w') => rinputs37_any (cntF f) f A c w' (Nat.le_refl _) hs hl (hr.kept k)
      have C45 := Lib.hid fun (w' : World) (k : Kept w w') => weight45_any (cntF f) f A c w' (Nat.le_refl _) hs (hr.kept k)
      have hib := inp_bounds _ f (Nat.le_refl _) hs
      by_cases hlo : n < inpF f
      · have C44 := Lib.hid fun (w' : World) (k : Kept w w') => from_bad2 f A c n w' hc hd hl (hr.kept k) hs (.inl hlo)
        rw [hs] at C36
        unfold fmV BrBad at *
        generalize inpF f = i at *
        have b1 : decide (n < i) = true := decide_eq_true hlo
        clear hs hr hc hd hn hlo hib
        go_enter Try.func9, Try.ntmps9
        go_wp2_with fail
        have o1 := o0.alloc (.cells #[.int .i64 f.k, .int .i64 f.n, .slice A f.l.length c] 52)
        have oS := Own.new (w.alloc (.cells #[.int .i64 f.k, .int .i64 f.n, .slice A f.l.length c] 52)) 52 [.int .i64 f.k, .int .i64 f.n, .slice A f.l.length c]
        simp only [World.size_alloc] at oS
        replace K0 := kept_alloc K0 (.cells #[.int .i64 f.k, .int .i64 f.n, .slice A f.l.length c] 52)
        clear o0; have o0 := o1; clear o1
        refine (F.out _ _ K0 oS).mono ?_
        rintro e w8 ⟨rfl, k⟩
        replace K0 := kept_trans K0 k; replace o0 := o0.kept k
        clear q0 q1 q2 k
        have q0 := o0.cell (j := 0) rfl
        have q1 := o0.cell (j := 1) rfl
        have q2 := o0.cell (j := 2) rfl
        go_wp2_with fail
        refine (C44.out _ K0).mono ?_
        rintro e w9 ⟨rfl, k⟩
        have oC := Own.new w9 24 [.int .i64 0, .int .i64 0, .slice none 0 0]
        replace K0 := kept_trans K0 k; replace o0 := o0.kept k
        have zz := o0.lt
        replace K0 := kept_alloc K0 (.cells ([.int .i64 0, .int .i64 0, .slice none 0 0]).toArray 24); replace o0 := o0.alloc (.cells ([.int .i64 0, .int .i64 0, .slice none 0 0]).toArray 24)
        clear q0 q1 q2 k
        have q0 := o0.cell (j := 0) rfl
        have q1 := o0.cell (j := 1) rfl
        have q2 := o0.cell (j := 2) rfl
        have r0 := oC.cell (j := 0) rfl
        have r1 := oC.cell (j := 1) rfl
        have r2 := oC.cell (j := 2) rfl
        go_wp2_with fail
        refine (C36.out _ K0).mono ?_
        rintro e w10 ⟨rfl, k⟩
        replace K0 := kept_trans K0 k; replace o0 := o0.kept k; replace oC := oC.kept k
        clear q0 q1 q2 r0 r1 r2 k
        have q0 := o0.cell (j := 0) rfl
        have q1 := o0.cell (j := 1) rfl
        have q2 := o0.cell (j := 2) rfl
        have r0 := oC.cell (j := 0) rfl
        have r1 := oC.cell (j := 1) rfl
        have r2 := oC.cell (j := 2) rfl
        go_wp2_with fail
        refine (C37.out _ K0).mono ?_
        rintro e w11 ⟨rfl, k⟩
        replace K0 := kept_trans K0 k; replace o0 := o0.kept k; replace oC := oC.kept k
        clear q0 q1 q2 r0 r1 r2 k
        have q0 := o0.cell (j := 0) rfl
        have q1 := o0.cell (j := 1) rfl
        have q2 := o0.cell (j := 2) rfl
        have r0 := oC.cell (j := 0) rfl
        have r1 := oC.cell (j := 1) rfl
        have r2 := oC.cell (j := 2) rfl
        go_wp2_with fail
        refine (none_zero _).mono ?_
        rintro e w12 ⟨rfl, k⟩
        replace K0 := kept_trans K0 k; replace o0 := o0.kept k; replace oC := oC.kept k
        clear q0 q1 q2 r0 r1 r2 k
        have q0 := o0.cell (j := 0) rfl
        have q1 := o0.cell (j := 1) rfl
        have q2 := o0.cell (j := 2) rfl
        have r0 := oC.cell (j := 0) rfl
        have r1 := oC.cell (j := 1) rfl
        have r2 := oC.cell (j := 2) rfl
        go_wp2_with fail
        refine (alive_any _).mono ?_
        rintro e w13 ⟨rfl, k⟩
        replace K0 := kept_trans K0 k; replace o0 := o0.kept k; replace oC := oC.kept k
        clear q0 q1 q2 r0 r1 r2 k
        have q0 := o0.cell (j := 0) rfl
        have q1 := o0.cell (j := 1) rfl
        have q2 := o0.cell (j := 2) rfl
        have r0 := oC.cell (j := 0) rfl
        have r1 := oC.cell (j := 1) rfl
        have r2 := oC.cell (j := 2) rfl
        go_wp2_with fail
        go_ret
        exact ⟨ret_bool (by simp), K0⟩
      by_cases hhi : 16 < n
      · have C44 := Lib.hid fun (w' : World) (k : Kept w w') => from_bad2 f A c n w' hc hd hl (hr.kept k) hs (.inr hhi)
        rw [hs] at C36
        unfold fmV BrBad at *
        generalize inpF f = i at *
        have b1 : decide (n < i) = false := decide_eq_false hlo
        have b2 : decide (16 < n) = true := decide_eq_true hhi
        clear hs hr hc hd hn hlo hhi hib
        go_enter Try.func9, Try.ntmps9
        go_wp2_with fail
        have o1 := o0.alloc (.cells #[.int .i64 f.k, .int .i64 f.n, .slice A f.l.length c] 52)
        have oS := Own.new (w.alloc (.cells #[.int .i64 f.k, .int .i64 f.n, .slice A f.l.length c] 52)) 52 [.int .i64 f.k, .int .i64 f.n, .slice A f.l.length c]
        simp only [World.size_alloc] at oS
        replace K0 := kept_alloc K0 (.cells #[.int .i64 f.k, .int .i64 f.n, .slice A f.l.length c] 52)
        clear o0; have o0 := o1; clear o1
        refine (F.out _ _ K0 oS).mono ?_
        rintro e w14 ⟨rfl, k⟩
        replace K0 := kept_trans K0 k; replace o0 := o0.kept k
        clear q0 q1 q2 k
        have q0 := o0.cell (j := 0) rfl
        have q1 := o0.cell (j := 1) rfl
        have q2 := o0.cell (j := 2) rfl
        go_wp2_with fail
        refine (C44.out _ K0).mono ?_
        rintro e w15 ⟨rfl, k⟩
        have oC := Own.new w15 24 [.int .i64 0, .int .i64 0, .slice none 0 0]
        replace K0 := kept_trans K0 k; replace o0 := o0.kept k
        have zz := o0.lt
        replace K0 := kept_alloc K0 (.cells ([.int .i64 0, .int .i64 0, .slice none 0 0]).toArray 24); replace o0 := o0.alloc (.cells ([.int .i64 0, .int .i64 0, .slice none 0 0]).toArray 24)
        clear q0 q1 q2 k
        have q0 := o0.cell (j := 0) rfl
        have q1 := o0.cell (j := 1) rfl
        have q2 := o0.cell (j := 2) rfl
        have r0 := oC.cell (j := 0) rfl
        have r1 := oC.cell (j := 1) rfl
        have r2 := oC.cell (j := 2) rfl
        go_wp2_with fail
        refine (C36.out _ K0).mono ?_
        rintro e w16 ⟨rfl, k⟩
        replace K0 := kept_trans K0 k; replace o0 := o0.kept k; replace oC := oC.kept k
        clear q0 q1 q2 r0 r1 r2 k
        have q0 := o0.cell (j := 0) rfl
        have q1 := o0.cell (j := 1) rfl
        have q2 := o0.cell (j := 2) rfl
        have r0 := oC.cell (j := 0) rfl
        have r1 := oC.cell (j := 1) rfl
        have r2 := oC.cell (j := 2) rfl
        go_wp2_with fail
        refine (C37.out _ K0).mono ?_
        rintro e w17 ⟨rfl, k⟩
        replace K0 := kept_trans K0 k; replace o0 := o0.kept k; replace oC := oC.kept k
        clear q0 q1 q2 r0 r1 r2 k
        have q0 := o0.cell (j := 0) rfl
        have q1 := o0.cell (j := 1) rfl
        have q2 := o0.cell (j := 2) rfl
        have r0 := oC.cell (j := 0) rfl
        have r1 := oC.cell (j := 1) rfl
        have r2 := oC.cell (j := 2) rfl
        go_wp2_with fail
        refine (none_zero _).mono ?_
        rintro e w18 ⟨rfl, k⟩
        replace K0 := kept_trans K0 k; replace o0 := o0.kept k; replace oC := oC.kept k
        clear q0 q1 q2 r0 r1 r2 k
        have q0 := o0.cell (j := 0) rfl
        have q1 := o0.cell (j := 1) rfl
        have q2 := o0.cell (j := 2) rfl
        have r0 := oC.cell (j := 0) rfl
        have r1 := oC.cell (j := 1) rfl
        have r2 := oC.cell (j := 2) rfl
        go_wp2_with fail
        refine (alive_any _).mono ?_
        rintro e w19 ⟨rfl, k⟩
        replace K0 := kept_trans K0 k; replace o0 := o0.kept k; replace oC := oC.kept k
        clear q0 q1 q2 r0 r1 r2 k
        have q0 := o0.cell (j := 0) rfl
        have q1 := o0.cell (j := 1) rfl
        have q2 := o0.cell (j := 2) rfl
        have r0 := oC.cell (j := 0) rfl
        have r1 := oC.cell (j := 1) rfl
        have r2 := oC.cell (j := 2) rfl
        go_wp2_with fail
        go_ret
        exact ⟨ret_bool (by simp), K0⟩
      have hgood := put_ok (n := n) (cntF f) f (Nat.le_refl _) hs (by omega) (-1) (-2) [] (fun k hk => by simp at hk) (.inl rfl) (.inr (.inl rfl))
      have hlen := hgood.len
      rw [List.length_nil, Nat.zero_add] at hlen
      by_cases hbig : 20000 < (putF f (-1) (-2) []).2.length
      · have C44 := Lib.hid fun (w' : World) (k : Kept w w') => from_big f A c n w' hc hd hl (hr.kept k) hs (by omega) hbig
        rw [hs] at C36
        have hwc : 20000 < wcF f := by unfold wcF; omega
        unfold fmV BrBad at *
        generalize inpF f = i at *
        have b1 : decide (n < i) = false := decide_eq_false hlo
        have b2 : decide (16 < n) = false := decide_eq_false hhi
        have b3 : decide (20000 < (wcF f : Int)) = true := decide_eq_true (by omega)
        have b4 : decide (20000 < wcF f) = true := decide_eq_true hwc
        clear hs hr hc hd hn hlo hhi hib hgood hlen hbig hwc
        go_enter Try.func9, Try.ntmps9
        go_wp2_with fail
        have o1 := o0.alloc (.cells #[.int .i64 f.k, .int .i64 f.n, .slice A f.l.length c] 52)
        have oS := Own.new (w.alloc (.cells #[.int .i64 f.k, .int .i64 f.n, .slice A f.l.length c] 52)) 52 [.int .i64 f.k, .int .i64 f.n, .slice A f.l.length c]
        simp only [World.size_alloc] at oS
        replace K0 := kept_alloc K0 (.cells #[.int .i64 f.k, .int .i64 f.n, .slice A f.l.length c] 52)
        clear o0; have o0 := o1; clear o1
        refine (F.out _ _ K0 oS).mono ?_
        rintro e w20 ⟨rfl, k⟩
        replace K0 := kept_trans K0 k; replace o0 := o0.kept k
        clear q0 q1 q2 k
        have q0 := o0.cell (j := 0) rfl
        have q1 := o0.cell (j := 1) rfl
        have q2 := o0.cell (j := 2) rfl
        go_wp2_with fail
        refine (C44.out _ K0).mono ?_
        rintro e w21 ⟨rfl, k⟩
        have oC := Own.new w21 24 [.int .i64 0, .int .i64 0, .slice none 0 0]
        replace K0 := kept_trans K0 k; replace o0 := o0.kept k
        have zz := o0.lt
        replace K0 := kept_alloc K0 (.cells ([.int .i64 0, .int .i64 0, .slice none 0 0]).toArray 24); replace o0 := o0.alloc (.cells ([.int .i64 0, .int .i64 0, .slice none 0 0]).toArray 24)
        clear q0 q1 q2 k
        have q0 := o0.cell (j := 0) rfl
        have q1 := o0.cell (j := 1) rfl
        have q2 := o0.cell (j := 2) rfl
        have r0 := oC.cell (j := 0) rfl
        have r1 := oC.cell (j := 1) rfl
        have r2 := oC.cell (j := 2) rfl
        go_wp2_with fail
        refine (C36.out _ K0).mono ?_
        rintro e w22 ⟨rfl, k⟩
        replace K0 := kept_trans K0 k; replace o0 := o0.kept k; replace oC := oC.kept k
        clear q0 q1 q2 r0 r1 r2 k
        have q0 := o0.cell (j := 0) rfl
        have q1 := o0.cell (j := 1) rfl
        have q2 := o0.cell (j := 2) rfl
        have r0 := oC.cell (j := 0) rfl
        have r1 := oC.cell (j := 1) rfl
        have r2 := oC.cell (j := 2) rfl
        go_wp2_with fail
        refine (C37.out _ K0).mono ?_
        rintro e w23 ⟨rfl, k⟩
        replace K0 := kept_trans K0 k; replace o0 := o0.kept k; replace oC := oC.kept k
        clear q0 q1 q2 r0 r1 r2 k
        have q0 := o0.cell (j := 0) rfl
        have q1 := o0.cell (j := 1) rfl
        have q2 := o0.cell (j := 2) rfl
        have r0 := oC.cell (j := 0) rfl
        have r1 := oC.cell (j := 1) rfl
        have r2 := oC.cell (j := 2) rfl
        go_wp2_with fail
        refine (C45.out _ K0).mono ?_
        rintro e w24 ⟨rfl, k⟩
        replace K0 := kept_trans K0 k; replace o0 := o0.kept k; replace oC := oC.kept k
        clear q0 q1 q2 r0 r1 r2 k
        have q0 := o0.cell (j := 0) rfl
        have q1 := o0.cell (j := 1) rfl
        have q2 := o0.cell (j := 2) rfl
        have r0 := oC.cell (j := 0) rfl
        have r1 := oC.cell (j := 1) rfl
        have r2 := oC.cell (j := 2) rfl
        go_wp2_with fail
        refine (none_zero _).mono ?_
        rintro e w25 ⟨rfl, k⟩
        replace K0 := kept_trans K0 k; replace o0 := o0.kept k; replace oC := oC.kept k
        clear q0 q1 q2 r0 r1 r2 k
        have q0 := o0.cell (j := 0) rfl
        have q1 := o0.cell (j := 1) rfl
        have q2 := o0.cell (j := 2) rfl
        have r0 := oC.cell (j := 0) rfl
        have r1 := oC.cell (j := 1) rfl
        have r2 := oC.cell (j := 2) rfl
        go_wp2_with fail
        refine (alive_any _).mono ?_
        rintro e w26 ⟨rfl, k⟩
        replace K0 := kept_trans K0 k; replace o0 := o0.kept k; replace oC := oC.kept k
        clear q0 q1 q2 r0 r1 r2 k
        have q0 := o0.cell (j := 0) rfl
        have q1 := o0.cell (j := 1) rfl
        have q2 := o0.cell (j := 2) rfl
        have r0 := oC.cell (j := 0) rfl
        have r1 := oC.cell (j := 1) rfl
        have r2 := oC.cell (j := 2) rfl
        go_wp2_with fail
        go_ret
        exact ⟨ret_bool (by simp), K0⟩
      obtain ⟨n, rfl⟩ : ∃ m : Nat, n = m := ⟨n.toNat, by omega⟩
      have hn16 : n ≤ 16 := by omega
      have hN : 2 ^ n ≤ 65536 := Nat.pow_le_pow_right (n := 2) (by omega) hn16
      have hw := shl_wrap n hn16
      have hsm : (putF f (-1) (-2) []).2.length ≤ 20000 := by omega
      have C44 := Lib.hid fun (w' : World) (k : Kept w w') => from_good f A c n w' hc hd hl (hr.kept k) hs (by omega) hsm
      obtain ⟨hv, hall⟩ := turned_gen (by omega) (by omega) hsm hgood.good hgood.ref
      have hval : ∀ x, runB (tn (putF f (-1) (-2) []).2.length (putF f (-1) (-2) []).1) (tnodes (putF f (-1) (-2) []).2) x = evF x f := by
        intro x
        rw [hall, hgood.val hsm x, vr_neg _ _ (by omega), vr_neg _ _ (by omega)]
        cases evF x f <;> rfl
      have hle : (tnodes (putF f (-1) (-2) []).2).length ≤ wcF f := by rw [tnodes_length]; unfold wcF; omega
      generalize tn (putF f (-1) (-2) []).2.length (putF f (-1) (-2) []).1 = rs at *
      generalize tnodes (putF f (-1) (-2) []).2 = rn at *
      have hln := (valid_start hv).2.2.1
      have D15 := fun (w' : World) (A' : Option Addr) (c' : Nat) (h : RN w' A' rn) => rvalid_any n rs A' c' rn w' (by omega) h
      rw [hv] at D15
      replace D15 := Lib.hid D15
      have R1 := fun (A' : Option Addr) (c' g a : Nat) (w' : World) (h : RN w' A' rn) (o : Own w' g 4 (bools (ptB n a))) => rrun_pt n rs A' c' rn g a w' h hv o
      simp only [hval] at R1
      replace R1 := Lib.hid R1
      have R2 := Lib.hid fun (g a : Nat) (w' : World) (k : Kept w w') (o : Own w' g 4 (bools (ptB n a))) => reval_pt n f A c g a w' hs (by omega) (hr.kept k) o
      have C38 := Lib.hid fun (a : Nat) (h : a < 1000000) (w' : World) => point_any n a w' hn16 h
      rw [hs] at C36
      unfold fmV BrIs at *
      generalize inpF f = i at *
      have b1 : decide ((n : Int) < i) = false := decide_eq_false hlo
      have b2 : decide (16 < (n : Int)) = false := decide_eq_false hhi
      have b2' : decide (16 < n) = false := decide_eq_false (by omega)
      have b3 : decide ((wcF f : Int) < (rn.length : Int)) = false := decide_eq_false (by omega)
      have b4 : decide (wcF f < rn.length) = false := decide_eq_false (by omega)
      clear hr hs hlo hhi hib hgood hlen hbig hv hall hval hle hln hsm hc hd hn
      obtain ⟨N, hNe⟩ : ∃ N, N = 2 ^ n := ⟨_, rfl⟩
      rw [← hNe] at hw hN
      have HNE := Lib.hid hNe; clear hNe
      go_enter Try.func9, Try.ntmps9
      go_wp2_with fail
      have o1 := o0.alloc (.cells #[.int .i64 f.k, .int .i64 f.n, .slice A f.l.length c] 52)
      have oS := Own.new (w.alloc (.cells #[.int .i64 f.k, .int .i64 f.n, .slice A f.l.length c] 52)) 52 [.int .i64 f.k, .int .i64 f.n, .slice A f.l.length c]
      simp only [World.size_alloc] at oS
      replace K0 := kept_alloc K0 (.cells #[.int .i64 f.k, .int .i64 f.n, .slice A f.l.length c] 52)
      clear o0; have o0 := o1; clear o1
      refine (F.out _ _ K0 oS).mono ?_
      rintro e w27 ⟨rfl, k⟩
      replace K0 := kept_trans K0 k; replace o0 := o0.kept k
      clear q0 q1 q2 k
      have q0 := o0.cell (j := 0) rfl
      have q1 := o0.cell (j := 1) rfl
      have q2 := o0.cell (j := 2) rfl
      go_wp2_with fail
      refine (C44.out _ K0).mono ?_
      rintro e w28 ⟨v, rfl, A1, c1, rfl, hrow, k⟩
      have oC := Own.new w28 24 [.int .i64 n, .int .i64 rs, .slice A1 rn.length c1]
      have hC : RN w28 A1 rn := row_rd hrow; clear hrow; replace hC := Rd.kept hC (kept_alloc (kept_refl _) (.cells ([.int .i64 n, .int .i64 rs, .slice A1 rn.length c1]).toArray 24))
      replace K0 := kept_trans K0 k; replace o0 := o0.kept k
      have zz := o0.lt
      replace K0 := kept_alloc K0 (.cells ([.int .i64 n, .int .i64 rs, .slice A1 rn.length c1]).toArray 24); replace o0 := o0.alloc (.cells ([.int .i64 n, .int .i64 rs, .slice A1 rn.length c1]).toArray 24)
      clear q0 q1 q2 k
      have q0 := o0.cell (j := 0) rfl
      have q1 := o0.cell (j := 1) rfl
      have q2 := o0.cell (j := 2) rfl
      have r0 := oC.cell (j := 0) rfl
      have r1 := oC.cell (j := 1) rfl
      have r2 := oC.cell (j := 2) rfl
      go_wp2_with fail
      refine (C36.out _ K0).mono ?_
      rintro e w29 ⟨rfl, k⟩
      replace K0 := kept_trans K0 k; replace o0 := o0.kept k; replace oC := oC.kept k; replace hC := hC.kept k
      clear q0 q1 q2 r0 r1 r2 k
      have q0 := o0.cell (j := 0) rfl
      have q1 := o0.cell (j := 1) rfl
      have q2 := o0.cell (j := 2) rfl
      have r0 := oC.cell (j := 0) rfl
      have r1 := oC.cell (j := 1) rfl
      have r2 := oC.cell (j := 2) rfl
      go_wp2_with fail
      refine (C37.out _ K0).mono ?_
      rintro e w30 ⟨rfl, k⟩
      replace K0 := kept_trans K0 k; replace o0 := o0.kept k; replace oC := oC.kept k; replace hC := hC.kept k
      clear q0 q1 q2 r0 r1 r2 k
      have q0 := o0.cell (j := 0) rfl
      have q1 := o0.cell (j := 1) rfl
      have q2 := o0.cell (j := 2) rfl
      have r0 := oC.cell (j := 0) rfl
      have r1 := oC.cell (j := 1) rfl
      have r2 := oC.cell (j := 2) rfl
      go_wp2_with fail
      refine region_x (fun w' => Kept w30 w') [] (by kernel_rfl) (kept_drew (kept_refl _)) (fun hHeld => ?_)
      refine x_take (i := 0) (oi := { dst := some 68, op := Op.move (Operand.tmp 8), type := 30, pos := "law.go:100", after := #[], guard := none }) (v := ?_) rfl (by kernel_rfl) (by kernel_rfl) (by kernel_rfl) (by kernel_rfl) (by kernel_rfl) (fun _ _ _ h => h) (Or.inl ⟨rfl, ?_⟩) (by assumption) ?_
      rotate_left
      · (intro w' hSw; replace q0 := kept_cell hSw q0; replace q1 := kept_cell hSw q1; replace q2 := kept_cell hSw q2; replace r0 := kept_cell hSw r0; replace r1 := kept_cell hSw r1; replace r2 := kept_cell hSw r2; go_simp; try with_reducible rfl)
      try simp only [Act.put, List.setIfInBounds_toArray, List.set_cons_zero, List.set_cons_succ]
      refine x_take (i := 1) (oi := { dst := some 69, op := Op.binOp BinOp.neq 30 (Operand.tmp 68) (Operand.const (Value.int IntKind.i64 0)) 30, type := 4, pos := "law.go:100", after := #[{ on := 0, ground := Ground.data }], guard := none }) (v := ?_) rfl (by kernel_rfl) (by kernel_rfl) (by kernel_rfl) (by kernel_rfl) (by kernel_rfl) (fun _ _ _ h => h) (Or.inl ⟨rfl, ?_⟩) (by assumption) ?_
      rotate_left
      · (intro w' hSw; replace q0 := kept_cell hSw q0; replace q1 := kept_cell hSw q1; replace q2 := kept_cell hSw q2; replace r0 := kept_cell hSw r0; replace r1 := kept_cell hSw r1; replace r2 := kept_cell hSw r2; go_simp; try with_reducible rfl)
      try simp only [Act.put, List.setIfInBounds_toArray, List.set_cons_zero, List.set_cons_succ]
      refine x_take (i := 2) (oi := { dst := some 70, op := Op.move (Operand.tmp 69), type := 4, pos := "law.go:100", after := #[{ on := 1, ground := Ground.data }], guard := none }) (v := ?_) rfl (by kernel_rfl) (by kernel_rfl) (by kernel_rfl) (by kernel_rfl) (by kernel_rfl) (fun _ _ _ h => h) (Or.inl ⟨rfl, ?_⟩) (by assumption) ?_
      rotate_left
      · (intro w' hSw; replace q0 := kept_cell hSw q0; replace q1 := kept_cell hSw q1; replace q2 := kept_cell hSw q2; replace r0 := kept_cell hSw r0; replace r1 := kept_cell hSw r1; replace r2 := kept_cell hSw r2; go_simp; try with_reducible rfl)
      try simp only [Act.put, List.setIfInBounds_toArray, List.set_cons_zero, List.set_cons_succ]
      refine x_take (i := 3) (oi := { dst := some 71, op := Op.load 24 (Operand.tmp 7), type := 24, pos := "law.go:100", after := #[{ on := 2, ground := Ground.guard }], guard := some (2, false) }) (v := ?_) rfl (by kernel_rfl) (by kernel_rfl) (by kernel_rfl) (by kernel_rfl) (by kernel_rfl) (fun _ _ _ h => h) (Or.inl ⟨rfl, ?_⟩) (by assumption) ?_
      rotate_left
      · (intro w' hSw; replace q0 := kept_cell hSw q0; replace q1 := kept_cell hSw q1; replace q2 := kept_cell hSw q2; replace r0 := kept_cell hSw r0; replace r1 := kept_cell hSw r1; replace r2 := kept_cell hSw r2; go_simp; try with_reducible rfl)
      try simp only [Act.put, List.setIfInBounds_toArray, List.set_cons_zero, List.set_cons_succ]
      refine x_one (i := 4) (o := { dst := some 72, op := Op.call { callee := Callee.value (Operand.func 15), args := #[Operand.tmp 71], argTypes := #[24] }, type := 4, pos := "law.go:100", after := #[{ on := 3, ground := Ground.data }, { on := 2, ground := Ground.chain }, { on := 2, ground := Ground.guard }], guard := some (2, false) }) (by kernel_rfl) rfl (fun K hK => ?_)
      (go_simp; go_at_call 15; refine (D15.out _ _ _ (hC.kept hHeld)).mono ?_; rintro e w71 ⟨rfl, k1⟩; have KK1 : Kept w30 w71 := kept_trans hHeld k1; try dsimp only)
      refine hK.out _ _ ?_ (fun hHeld => ?_)
      · (try dsimp only); repeat (first | assumption | exact kept_refl _ | refine kept_drew ?_ | refine kept_alloc ?_ _ | refine kept_set ?_ (by omega) _)
      clear hK K
      try simp only [Act.put, List.setIfInBounds_toArray, List.set_cons_zero, List.set_cons_succ]
      refine x_take (i := 5) (oi := { dst := some 73, op := Op.unOp UnOp.not 4 (Operand.tmp 72), type := 4, pos := "law.go:100", after := #[{ on := 4, ground := Ground.data }, { on := 2, ground := Ground.guard }], guard := some (2, false) }) (v := ?_) rfl (by kernel_rfl) (by kernel_rfl) (by kernel_rfl) (by kernel_rfl) (by kernel_rfl) (fun _ _ _ h => h) (Or.inl ⟨rfl, ?_⟩) (by assumption) ?_
      rotate_left
      · (intro w' hSw; replace q0 := kept_cell hSw q0; replace q1 := kept_cell hSw q1; replace q2 := kept_cell hSw q2; replace r0 := kept_cell hSw r0; replace r1 := kept_cell hSw r1; replace r2 := kept_cell hSw r2; go_simp; try with_reducible rfl)
      try simp only [Act.put, List.setIfInBounds_toArray, List.set_cons_zero, List.set_cons_succ]
      refine x_take (i := 6) (oi := { dst := some 74, op := Op.pick (Operand.tmp 70) (Operand.const (Value.bool true)) (Operand.tmp 73), type := 4, pos := "law.go:100", after := #[{ on := 2, ground := Ground.data }, { on := 5, ground := Ground.data }], guard := none }) (v := ?_) rfl (by kernel_rfl) (by kernel_rfl) (by kernel_rfl) (by kernel_rfl) (by kernel_rfl) (fun _ _ _ h => h) (Or.inl ⟨rfl, ?_⟩) (by assumption) ?_
      rotate_left
      · (intro w' hSw; replace q0 := kept_cell hSw q0; replace q1 := kept_cell hSw q1; replace q2 := kept_cell hSw q2; replace r0 := kept_cell hSw r0; replace r1 := kept_cell hSw r1; replace r2 := kept_cell hSw r2; go_simp; try with_reducible rfl)
      try simp only [Act.put, List.setIfInBounds_toArray, List.set_cons_zero, List.set_cons_succ]
      refine x_take (i := 7) (oi := { dst := some 75, op := Op.move (Operand.tmp 74), type := 4, pos := "law.go:100", after := #[{ on := 6, ground := Ground.data }, { on := 4, ground := Ground.chain }], guard := none }) (v := ?_) rfl (by kernel_rfl) (by kernel_rfl) (by kernel_rfl) (by kernel_rfl) (by kernel_rfl) (fun _ _ _ h => h) (Or.inl ⟨rfl, ?_⟩) (by assumption) ?_
      rotate_left
      · (intro w' hSw; replace q0 := kept_cell hSw q0; replace q1 := kept_cell hSw q1; replace q2 := kept_cell hSw q2; replace r0 := kept_cell hSw r0; replace r1 := kept_cell hSw r1; replace r2 := kept_cell hSw r2; go_simp; try with_reducible rfl)
      try simp only [Act.put, List.setIfInBounds_toArray, List.set_cons_zero, List.set_cons_succ]
      refine x_take (i := 8) (oi := { dst := some 76, op := Op.fieldAddr 24 (Operand.tmp 7) 0, type := 0, pos := "law.go:100", after := #[{ on := 7, ground := Ground.guard }], guard := some (7, false) }) (v := ?_) rfl (by kernel_rfl) (by kernel_rfl) (by kernel_rfl) (by kernel_rfl) (by kernel_rfl) (fun _ _ _ h => h) (Or.inl ⟨rfl, ?_⟩) (by assumption) ?_
      rotate_left
      · (intro w' hSw; replace q0 := kept_cell hSw q0; replace q1 := kept_cell hSw q1; replace q2 := kept_cell hSw q2; replace r0 := kept_cell hSw r0; replace r1 := kept_cell hSw r1; replace r2 := kept_cell hSw r2; go_simp; try with_reducible rfl)
      try simp only [Act.put, List.setIfInBounds_toArray, List.set_cons_zero, List.set_cons_succ]
      refine x_take (i := 9) (oi := { dst := some 77, op := Op.load 3 (Operand.tmp 76), type := 3, pos := "law.go:100", after := #[{ on := 8, ground := Ground.data }, { on := 7, ground := Ground.guard }], guard := some (7, false) }) (v := ?_) rfl (by kernel_rfl) (by kernel_rfl) (by kernel_rfl) (by kernel_rfl) (by kernel_rfl) (fun _ _ _ h => h) (Or.inl ⟨rfl, ?_⟩) (by assumption) ?_
      rotate_left
      · (intro w' hSw; replace q0 := kept_cell hSw q0; replace q1 := kept_cell hSw q1; replace q2 := kept_cell hSw q2; replace r0 := kept_cell hSw r0; replace r1 := kept_cell hSw r1; replace r2 := kept_cell hSw r2; go_simp; try with_reducible rfl)
      try simp only [Act.put, List.setIfInBounds_toArray, List.set_cons_zero, List.set_cons_succ]
      refine x_take (i := 10) (oi := { dst := some 78, op := Op.move (Operand.tmp 1), type := 3, pos := "law.go:100", after := #[{ on := 7, ground := Ground.guard }], guard := some (7, false) }) (v := ?_) rfl (by kernel_rfl) (by kernel_rfl) (by kernel_rfl) (by kernel_rfl) (by kernel_rfl) (fun _ _ _ h => h) (Or.inl ⟨rfl, ?_⟩) (by assumption) ?_
      rotate_left
      · (intro w' hSw; replace q0 := kept_cell hSw q0; replace q1 := kept_cell hSw q1; replace q2 := kept_cell hSw q2; replace r0 := kept_cell hSw r0; replace r1 := kept_cell hSw r1; replace r2 := kept_cell hSw r2; go_simp; try with_reducible rfl)
      try simp only [Act.put, List.setIfInBounds_toArray, List.set_cons_zero, List.set_cons_succ]
      refine x_take (i := 11) (oi := { dst := some 79, op := Op.binOp BinOp.neq 3 (Operand.tmp 77) (Operand.tmp 78) 3, type := 4, pos := "law.go:100", after := #[{ on := 9, ground := Ground.data }, { on := 10, ground := Ground.data }, { on := 7, ground := Ground.guard }], guard := some (7, false) }) (v := ?_) rfl (by kernel_rfl) (by kernel_rfl) (by kernel_rfl) (by kernel_rfl) (by kernel_rfl) (fun _ _ _ h => h) (Or.inl ⟨rfl, ?_⟩) (by assumption) ?_
      rotate_left
      · (intro w' hSw; replace q0 := kept_cell hSw q0; replace q1 := kept_cell hSw q1; replace q2 := kept_cell hSw q2; replace r0 := kept_cell hSw r0; replace r1 := kept_cell hSw r1; replace r2 := kept_cell hSw r2; go_simp; try with_reducible rfl)
      try simp only [Act.put, List.setIfInBounds_toArray, List.set_cons_zero, List.set_cons_succ]
      refine x_take (i := 12) (oi := { dst := some 80, op := Op.pick (Operand.tmp 75) (Operand.const (Value.bool true)) (Operand.tmp 79), type := 4, pos := "law.go:100", after := #[{ on := 7, ground := Ground.data }, { on := 11, ground := Ground.data }], guard := none }) (v := ?_) rfl (by kernel_rfl) (by kernel_rfl) (by kernel_rfl) (by kernel_rfl) (by kernel_rfl) (fun _ _ _ h => h) (Or.inl ⟨rfl, ?_⟩) (by assumption) ?_
      rotate_left
      · (intro w' hSw; replace q0 := kept_cell hSw q0; replace q1 := kept_cell hSw q1; replace q2 := kept_cell hSw q2; replace r0 := kept_cell hSw r0; replace r1 := kept_cell hSw r1; replace r2 := kept_cell hSw r2; go_simp; try with_reducible rfl)
      try simp only [Act.put, List.setIfInBounds_toArray, List.set_cons_zero, List.set_cons_succ]
      refine x_take (i := 13) (oi := { dst := some 81, op := Op.move (Operand.tmp 80), type := 4, pos := "law.go:100", after := #[{ on := 12, ground := Ground.data }, { on := 7, ground := Ground.chain }], guard := none }) (v := ?_) rfl (by kernel_rfl) (by kernel_rfl) (by kernel_rfl) (by kernel_rfl) (by kernel_rfl) (fun _ _ _ h => h) (Or.inl ⟨rfl, ?_⟩) (by assumption) ?_
      rotate_left
      · (intro w' hSw; replace q0 := kept_cell hSw q0; replace q1 := kept_cell hSw q1; replace q2 := kept_cell hSw q2; replace r0 := kept_cell hSw r0; replace r1 := kept_cell hSw r1; replace r2 := kept_cell hSw r2; go_simp; try with_reducible rfl)
      try simp only [Act.put, List.setIfInBounds_toArray, List.set_cons_zero, List.set_cons_succ]
      refine x_take (i := 14) (oi := { dst := some 82, op := Op.fieldAddr 24 (Operand.tmp 7) 2, type := 0, pos := "law.go:100", after := #[{ on := 13, ground := Ground.guard }], guard := some (13, false) }) (v := ?_) rfl (by kernel_rfl) (by kernel_rfl) (by kernel_rfl) (by kernel_rfl) (by kernel_rfl) (fun _ _ _ h => h) (Or.inl ⟨rfl, ?_⟩) (by assumption) ?_
      rotate_left
      · (intro w' hSw; replace q0 := kept_cell hSw q0; replace q1 := kept_cell hSw q1; replace q2 := kept_cell hSw q2; replace r0 := kept_cell hSw r0; replace r1 := kept_cell hSw r1; replace r2 := kept_cell hSw r2; go_simp; try with_reducible rfl)
      try simp only [Act.put, List.setIfInBounds_toArray, List.set_cons_zero, List.set_cons_succ]
      refine x_take (i := 15) (oi := { dst := some 83, op := Op.load 22 (Operand.tmp 82), type := 22, pos := "law.go:100", after := #[{ on := 14, ground := Ground.data }, { on := 13, ground := Ground.guard }], guard := some (13, false) }) (v := ?_) rfl (by kernel_rfl) (by kernel_rfl) (by kernel_rfl) (by kernel_rfl) (by kernel_rfl) (fun _ _ _ h => h) (Or.inl ⟨rfl, ?_⟩) (by assumption) ?_
      rotate_left
      · (intro w' hSw; replace q0 := kept_cell hSw q0; replace q1 := kept_cell hSw q1; replace q2 := kept_cell hSw q2; replace r0 := kept_cell hSw r0; replace r1 := kept_cell hSw r1; replace r2 := kept_cell hSw r2; go_simp; try with_reducible rfl)
      try simp only [Act.put, List.setIfInBounds_toArray, List.set_cons_zero, List.set_cons_succ]
      refine x_take (i := 16) (oi := { dst := some 84, op := Op.call { callee := Callee.builtin Builtin.len, args := #[Operand.tmp 83], argTypes := #[22] }, type := 3, pos := "law.go:100", after := #[{ on := 15, ground := Ground.data }, { on := 13, ground := Ground.guard }], guard := some (13, false) }) (v := ?_) rfl (by kernel_rfl) (by kernel_rfl) (by kernel_rfl) (by kernel_rfl) (by kernel_rfl) (fun _ _ _ h => h) (Or.inl ⟨rfl, ?_⟩) (by assumption) ?_
      rotate_left
      · (intro w' hSw; replace q0 := kept_cell hSw q0; replace q1 := kept_cell hSw q1; replace q2 := kept_cell hSw q2; replace r0 := kept_cell hSw r0; replace r1 := kept_cell hSw r1; replace r2 := kept_cell hSw r2; go_simp; try with_reducible rfl)
      try simp only [Act.put, List.setIfInBounds_toArray, List.set_cons_zero, List.set_cons_succ]
      refine x_take (i := 17) (oi := { dst := some 85, op := Op.load 52 (Operand.tmp 3), type := 52, pos := "law.go:100", after := #[{ on := 13, ground := Ground.guard }], guard := some (13, false) }) (v := ?_) rfl (by kernel_rfl) (by kernel_rfl) (by kernel_rfl) (by kernel_rfl) (by kernel_rfl) (fun _ _ _ h => h) (Or.inl ⟨rfl, ?_⟩) (by assumption) ?_
      rotate_left
      · (intro w' hSw; replace q0 := kept_cell hSw q0; replace q1 := kept_cell hSw q1; replace q2 := kept_cell hSw q2; replace r0 := kept_cell hSw r0; replace r1 := kept_cell hSw r1; replace r2 := kept_cell hSw r2; go_simp; try with_reducible rfl)
      try simp only [Act.put, List.setIfInBounds_toArray, List.set_cons_zero, List.set_cons_succ]
      refine x_one (i := 18) (o := { dst := some 86, op := Op.call { callee := Callee.value (Operand.func 45), args := #[Operand.tmp 85], argTypes := #[52] }, type := 3, pos := "law.go:100", after := #[{ on := 17, ground := Ground.data }, { on := 13, ground := Ground.chain }, { on := 13, ground := Ground.guard }], guard := some (13, false) }) (by kernel_rfl) rfl (fun K hK => ?_)
      (go_simp; go_at_call 45; refine (C45.out _ (kept_trans K0 hHeld)).mono ?_; rintro e w72 ⟨rfl, k2⟩; have KK2 : Kept w30 w72 := kept_trans KK1 k2; try dsimp only)
      refine hK.out _ _ ?_ (fun hHeld => ?_)
      · (try dsimp only); repeat (first | assumption | exact kept_refl _ | refine kept_drew ?_ | refine kept_alloc ?_ _ | refine kept_set ?_ (by omega) _)
      clear hK K
      try simp only [Act.put, List.setIfInBounds_toArray, List.set_cons_zero, List.set_cons_succ]
      refine x_take (i := 19) (oi := { dst := some 87, op := Op.binOp BinOp.gtr 3 (Operand.tmp 84) (Operand.tmp 86) 3, type := 4, pos := "law.go:100", after := #[{ on := 16, ground := Ground.data }, { on := 18, ground := Ground.data }, { on := 13, ground := Ground.guard }], guard := some (13, false) }) (v := ?_) rfl (by kernel_rfl) (by kernel_rfl) (by kernel_rfl) (by kernel_rfl) (by kernel_rfl) (fun _ _ _ h => h) (Or.inl ⟨rfl, ?_⟩) (by assumption) ?_
      rotate_left
      · (intro w' hSw; replace q0 := kept_cell hSw q0; replace q1 := kept_cell hSw q1; replace q2 := kept_cell hSw q2; replace r0 := kept_cell hSw r0; replace r1 := kept_cell hSw r1; replace r2 := kept_cell hSw r2; go_simp; try with_reducible rfl)
      try simp only [Act.put, List.setIfInBounds_toArray, List.set_cons_zero, List.set_cons_succ]
      refine x_take (i := 20) (oi := { dst := some 88, op := Op.pick (Operand.tmp 81) (Operand.const (Value.bool true)) (Operand.tmp 87), type := 4, pos := "law.go:100", after := #[{ on := 13, ground := Ground.data }, { on := 19, ground := Ground.data }], guard := none }) (v := ?_) rfl (by kernel_rfl) (by kernel_rfl) (by kernel_rfl) (by kernel_rfl) (by kernel_rfl) (fun _ _ _ h => h) (Or.inl ⟨rfl, ?_⟩) (by assumption) ?_
      rotate_left
      · (intro w' hSw; replace q0 := kept_cell hSw q0; replace q1 := kept_cell hSw q1; replace q2 := kept_cell hSw q2; replace r0 := kept_cell hSw r0; replace r1 := kept_cell hSw r1; replace r2 := kept_cell hSw r2; go_simp; try with_reducible rfl)
      try simp only [Act.put, List.setIfInBounds_toArray, List.set_cons_zero, List.set_cons_succ]
      refine x_done (by kernel_rfl) ?_ _
      replace K0 := kept_trans K0 KK2; replace o0 := o0.kept KK2; replace oC := oC.kept KK2; replace hC := hC.kept KK2
      go_wp2_with fail
      clear q0 q1 q2 r0 r1 r2
      go_loopg [9] N (fun g' s9 wr => ∃ i : Nat, i ≤ N ∧ g' = N - i ∧ s9 = .int .i64 i ∧ Own wr w.heap.size 52 [.int .i64 f.k, .int .i64 f.n, .slice A f.l.length c] ∧ Own wr w28.heap.size 24 [.int .i64 n, .int .i64 rs, .slice A1 rn.length c1] ∧ RN wr A1 rn ∧ Kept w wr)
      case atStart => exact ⟨0, by omega, rfl, rfl, o0, oC, hC, K0⟩
      case round =>
        clear o0 oC hC K0
        obtain ⟨i, hi, rfl, rfl, o0, oC, hC, K0⟩ := hrel
        have q0 := o0.cell (j := 0) rfl
        have q1 := o0.cell (j := 1) rfl
        have q2 := o0.cell (j := 2) rfl
        have r0 := oC.cell (j := 0) rfl
        have r1 := oC.cell (j := 1) rfl
        have r2 := oC.cell (j := 2) rfl
        have g0 : (0 : Int) ≤ (i : Int) := by omega
        have g1 : (i : Int) ≤ 65536 := by omega
        by_cases hlt : i < N ∧ (n ≤ 10 ∨ i < 64)
        · obtain ⟨hlt, hor⟩ := hlt
          have d1 : decide ((i : Int) < (N : Int)) = true := decide_eq_true (by omega)
          have d2 : decide (i < N) = true := decide_eq_true (by omega)
          by_cases h10 : n ≤ 10
          · have d3 : decide ((n : Int) ≤ 10) = true := decide_eq_true (by omega)
            have d4 : decide (n ≤ 10) = true := decide_eq_true (by omega)
            have d5 : decide (10 < (n : Int)) = false := decide_eq_false (by omega)
            have d6 : decide (10 < n) = false := decide_eq_false (by omega)
            clear hor
            go_wp2_with fail
            refine (C38.out i (by omega) _).mono ?_
            rintro e w31 ⟨rfl, oP, k⟩
            replace K0 := kept_trans K0 k; replace o0 := o0.kept k; replace oC := oC.kept k; replace hC := hC.kept k
            clear q0 q1 q2 r0 r1 r2 k
            have q0 := o0.cell (j := 0) rfl
            have q1 := o0.cell (j := 1) rfl
            have q2 := o0.cell (j := 2) rfl
            have r0 := oC.cell (j := 0) rfl
            have r1 := oC.cell (j := 1) rfl
            have r2 := oC.cell (j := 2) rfl
            go_wp2_with fail
            refine (R1.out _ _ _ (i) _ hC oP).mono ?_
            rintro e w32 ⟨v32, rfl, k⟩
            replace K0 := kept_trans K0 k; replace o0 := o0.kept k; replace oC := oC.kept k; replace hC := hC.kept k; replace oP := oP.kept k
            clear q0 q1 q2 r0 r1 r2 k
            have q0 := o0.cell (j := 0) rfl
            have q1 := o0.cell (j := 1) rfl
            have q2 := o0.cell (j := 2) rfl
            have r0 := oC.cell (j := 0) rfl
            have r1 := oC.cell (j := 1) rfl
            have r2 := oC.cell (j := 2) rfl
            go_wp2_with fail
            refine (R2.out _ (i) _ K0 oP).mono ?_
            rintro e w33 ⟨rfl, k⟩
            replace K0 := kept_trans K0 k; replace o0 := o0.kept k; replace oC := oC.kept k; replace hC := hC.kept k; replace oP := oP.kept k
            clear q0 q1 q2 r0 r1 r2 k
            have q0 := o0.cell (j := 0) rfl
            have q1 := o0.cell (j := 1) rfl
            have q2 := o0.cell (j := 2) rfl
            have r0 := oC.cell (j := 0) rfl
            have r1 := oC.cell (j := 1) rfl
            have r2 := oC.cell (j := 2) rfl
            go_wp2_with fail
            go_roundg (N - (i + 1))
            case rel => exact ⟨i + 1, by omega, rfl, by go_num, o0, oC, hC, K0⟩
            case measure => omega
          · have d3 : decide ((n : Int) ≤ 10) = false := decide_eq_false (by omega)
            have d4 : decide (n ≤ 10) = false := decide_eq_false (by omega)
            have d5 : decide (10 < (n : Int)) = true := decide_eq_true (by omega)
            have d6 : decide (10 < n) = true := decide_eq_true (by omega)
            have h64 : i < 64 := by omega
            have d7 : decide ((i : Int) < 64) = true := decide_eq_true (by omega)
            have d8 : decide (i < 64) = true := decide_eq_true (by omega)
            clear hor
            have hN0 : N ≠ 0 := by omega
            have m1 : IntKind.i64.wrap ((i : Int) * 2654435761) = (i : Int) * 2654435761 := IntWalk.i64_in _ (by omega)
            have m2 : IntKind.i64.wrap (2 ^ n) = (N : Int) := by
              have e : ((2 : Int) ^ n) = (N : Int) := by rw [HNE.out]; simp
              rw [e]
              exact IntWalk.i64_in _ (by omega)
            have hNi : ((N : Int) = 0) = False := eq_false (by omega)
            have m3 : ((i : Int) * 2654435761).tmod (N : Int) = ((i * 2654435761 % N : Nat) : Int) := by
              rw [Int.tmod_eq_emod_of_nonneg (by omega)]
              simp
            have ha : i * 2654435761 % N < 1000000 := Nat.lt_of_lt_of_le (Nat.mod_lt _ (by omega)) (by omega)
            obtain ⟨av, hav⟩ : ∃ a, a = i * 2654435761 % N := ⟨_, rfl⟩
            rw [← hav] at m3 ha
            clear hav
            go_wp2_with fail
            refine (C38.out i (by omega) _).mono ?_
            rintro e w34 ⟨rfl, oP0, k⟩
            replace K0 := kept_trans K0 k; replace o0 := o0.kept k; replace oC := oC.kept k; replace hC := hC.kept k
            clear q0 q1 q2 r0 r1 r2 k
            have q0 := o0.cell (j := 0) rfl
            have q1 := o0.cell (j := 1) rfl
            have q2 := o0.cell (j := 2) rfl
            have r0 := oC.cell (j := 0) rfl
            have r1 := oC.cell (j := 1) rfl
            have r2 := oC.cell (j := 2) rfl
            go_wp2_with fail
            refine (C38.out av ha _).mono ?_
            rintro e w35 ⟨rfl, oP, k⟩
            replace K0 := kept_trans K0 k; replace o0 := o0.kept k; replace oC := oC.kept k; replace hC := hC.kept k
            clear q0 q1 q2 r0 r1 r2 k
            have q0 := o0.cell (j := 0) rfl
            have q1 := o0.cell (j := 1) rfl
            have q2 := o0.cell (j := 2) rfl
            have r0 := oC.cell (j := 0) rfl
            have r1 := oC.cell (j := 1) rfl
            have r2 := oC.cell (j := 2) rfl
            go_wp2_with fail
            refine (R1.out _ _ _ (av) _ hC oP).mono ?_
            rintro e w36 ⟨v36, rfl, k⟩
            replace K0 := kept_trans K0 k; replace o0 := o0.kept k; replace oC := oC.kept k; replace hC := hC.kept k; replace oP := oP.kept k
            clear q0 q1 q2 r0 r1 r2 k
            have q0 := o0.cell (j := 0) rfl
            have q1 := o0.cell (j := 1) rfl
            have q2 := o0.cell (j := 2) rfl
            have r0 := oC.cell (j := 0) rfl
            have r1 := oC.cell (j := 1) rfl
            have r2 := oC.cell (j := 2) rfl
            go_wp2_with fail
            refine (R2.out _ (av) _ K0 oP).mono ?_
            rintro e w37 ⟨rfl, k⟩
            replace K0 := kept_trans K0 k; replace o0 := o0.kept k; replace oC := oC.kept k; replace hC := hC.kept k; replace oP := oP.kept k
            clear q0 q1 q2 r0 r1 r2 k
            have q0 := o0.cell (j := 0) rfl
            have q1 := o0.cell (j := 1) rfl
            have q2 := o0.cell (j := 2) rfl
            have r0 := oC.cell (j := 0) rfl
            have r1 := oC.cell (j := 1) rfl
            have r2 := oC.cell (j := 2) rfl
            go_wp2_with fail
            go_roundg (N - (i + 1))
            case rel => exact ⟨i + 1, by omega, rfl, by go_num, o0, oC, hC, K0⟩
            case measure => omega
        · have hN0 : N ≠ 0 := by have := HNE.out; have := Nat.pos_of_ne_zero (n := 2 ^ n) (by simp); omega
          have m2 : IntKind.i64.wrap (2 ^ n) = (N : Int) := by
            have e : ((2 : Int) ^ n) = (N : Int) := by rw [HNE.out]; simp
            rw [e]
            exact IntWalk.i64_in _ (by omega)
          have hNi : ((N : Int) = 0) = False := eq_false (by omega)
          obtain ⟨mo, hmo⟩ : ∃ m : Nat, more = m := ⟨more.toNat, by omega⟩
          subst hmo
          have m3 : (mo : Int).tmod (N : Int) = ((mo % N : Nat) : Int) := by
            rw [Int.tmod_eq_emod_of_nonneg (by omega)]
            simp
          have m4 : IntKind.i64.wrap (mo : Int) = (mo : Int) := IntWalk.i64_in _ (by omega)
          have ha : mo % N < 1000000 := Nat.lt_of_lt_of_le (Nat.mod_lt _ (by omega)) (by omega)
          obtain ⟨av, hav⟩ : ∃ a, a = mo % N := ⟨_, rfl⟩
          rw [← hav] at m3 ha
          clear hav
          by_cases hin : i < N
          case' pos =>
            have h10 : ¬ n ≤ 10 := fun h => hlt ⟨hin, .inl h⟩
            have h64 : ¬ i < 64 := fun h => hlt ⟨hin, .inr h⟩
            have d1 : decide ((i : Int) < (N : Int)) = true := decide_eq_true (by omega)
            have d2 : decide (i < N) = true := decide_eq_true (by omega)
            have d3 : decide ((n : Int) ≤ 10) = false := decide_eq_false (by omega)
            have d4 : decide (n ≤ 10) = false := decide_eq_false (by omega)
            have d5 : decide ((i : Int) < 64) = false := decide_eq_false (by omega)
            have d6 : decide (i < 64) = false := decide_eq_false (by omega)
            clear hin h10 h64
          case' neg =>
            have d1 : decide ((i : Int) < (N : Int)) = false := decide_eq_false (by omega)
            have d2 : decide (i < N) = false := decide_eq_false (by omega)
            clear hin
          all_goals
            clear hlt
            go_wp2_with fail
            refine (C38.out av ha _).mono ?_
            rintro e w38 ⟨rfl, oP, k⟩
            replace K0 := kept_trans K0 k; replace o0 := o0.kept k; replace oC := oC.kept k; replace hC := hC.kept k
            clear q0 q1 q2 r0 r1 r2 k
            have q0 := o0.cell (j := 0) rfl
            have q1 := o0.cell (j := 1) rfl
            have q2 := o0.cell (j := 2) rfl
            have r0 := oC.cell (j := 0) rfl
            have r1 := oC.cell (j := 1) rfl
            have r2 := oC.cell (j := 2) rfl
            go_wp2_with fail
            refine (R1.out _ _ _ (av) _ hC oP).mono ?_
            rintro e w39 ⟨v39, rfl, k⟩
            replace K0 := kept_trans K0 k; replace o0 := o0.kept k; replace oC := oC.kept k; replace hC := hC.kept k; replace oP := oP.kept k
            clear q0 q1 q2 r0 r1 r2 k
            have q0 := o0.cell (j := 0) rfl
            have q1 := o0.cell (j := 1) rfl
            have q2 := o0.cell (j := 2) rfl
            have r0 := oC.cell (j := 0) rfl
            have r1 := oC.cell (j := 1) rfl
            have r2 := oC.cell (j := 2) rfl
            go_wp2_with fail
            refine (R2.out _ (av) _ K0 oP).mono ?_
            rintro e w40 ⟨rfl, k⟩
            replace K0 := kept_trans K0 k; replace o0 := o0.kept k; replace oC := oC.kept k; replace hC := hC.kept k; replace oP := oP.kept k
            clear q0 q1 q2 r0 r1 r2 k
            have q0 := o0.cell (j := 0) rfl
            have q1 := o0.cell (j := 1) rfl
            have q2 := o0.cell (j := 2) rfl
            have r0 := oC.cell (j := 0) rfl
            have r1 := oC.cell (j := 1) rfl
            have r2 := oC.cell (j := 2) rfl
            go_wp2_with fail
            refine (alive_any _).mono ?_
            rintro e w41 ⟨rfl, k⟩
            replace K0 := kept_trans K0 k; replace o0 := o0.kept k; replace oC := oC.kept k
            clear q0 q1 q2 r0 r1 r2 k
            have q0 := o0.cell (j := 0) rfl
            have q1 := o0.cell (j := 1) rfl
            have q2 := o0.cell (j := 2) rfl
            have r0 := oC.cell (j := 0) rfl
            have r1 := oC.cell (j := 1) rfl
            have r2 := oC.cell (j := 2) rfl
            go_wp2_with fail
            go_ret
            exact ⟨ret_bool (by simp), K0⟩
end Go.Proofs.Ytinpmdekdfgiiaa
