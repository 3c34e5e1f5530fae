/- Trees: the law TreeFrom. -/
import Derived.Test.YtikfeemmjfoffaaDoorY14
import Derived.Test.YtikfeemmjfoffaaDoorW23
import Derived.IntWalk
set_option linter.unusedVariables false
set_option linter.unusedSimpArgs false
namespace Go.Proofs.YtikfeemmjfoffaaDoor
open Go.RowKit Go.Shelf

theorem rk_new {f : Fm} {A : Option Addr} {c g : Nat} {w : World} (o : Own w g 48 [.int .i64 f.k, .int .i64 f.n, .slice A f.l.length c]) (hl : f.l.length ≤ 9223372036854775807) (hr : RK w A f.l) : RK w (some ⟨g, 0, none⟩) [f] :=
  .cons (o.cell (j := 0) rfl) (o.cell (j := 1) rfl) (o.cell (j := 2) rfl) hl hr (.nil _)
theorem fewN_small {most : Int} : ∀ (ls : List (List Int)) (n : Int), n + (ls.map List.length).sum ≤ most → fewN most n ls ≤ most
  | [], n, h => by simpa [fewN] using h
  | l :: r, n, h => by
    simp only [List.map_cons, List.sum_cons] at h
    rw [fewN]
    split
    · exact fewN_small r _ (by omega)
    · omega
theorem sum_const {k : Nat} : ∀ (ls : List (List Int)), (∀ l ∈ ls, l.length = k) → (ls.map List.length).sum = ls.length * k
  | [], _ => by simp
  | l :: r, h => by
    simp only [List.map_cons, List.sum_cons, List.length_cons]
    rw [sum_const r (fun l hl => h l (List.mem_cons_of_mem _ hl)), h l List.mem_cons_self, Nat.succ_mul, Nat.add_comm]
theorem few_bit {t : Tr} (g : Good t) (hb : t.b = 1) : fewB 10000 t = true := by
  have h63 := g.tb64; have h64 := g.lv64
  refine decide_eq_true (fewN_small _ _ ?_)
  have e : pw (2 * t.b) = 4 := by rw [hb]; rfl
  rw [sum_const (k := 4) t.tb (fun l hl => by rw [g.tw l hl, e])]
  omega
/-- What From's tree is, but for its height. -/
def OK5 (D : Nat) (v : Bool) (lv : List Int) (tb : List (List Int)) : Prop := Good ⟨(D : Int) - 1, 1, lv, tb⟩ ∧ valW ⟨(D : Int) - 1, 1, lv, tb⟩ 0 = b01 v

set_option maxRecDepth 100000 in
set_option maxHeartbeats 1000000 in
theorem law5_many (f : Fm) (A : Option Addr) (c : Nat) (x : List Bool) (X : Option Addr) (cx : Nat) (w : World) (hlib : LibOk w) (hl : f.l.length ≤ 9223372036854775807) (hr : RK w A f.l) (hX : Rd w X (bools x)) (hc : ¬ cntF f ≤ 300) :
    Calls Tryd.prog 5 #[fmV f A c, .slice X x.length cx] w fun e w' => e = .returned (.bool true) ∧ Kept w w' := by
  unfold fmV
  have hd := dep_le_cnt f
  have o0 := Own.new w 48 [.int .i64 f.k, .int .i64 f.n, .slice A f.l.length c]
  have KK := kept_alloc (kept_refl w) (.cells #[.int .i64 f.k, .int .i64 f.n, .slice A f.l.length c] 48)
  have q0 := o0.cell (j := 0) rfl; have q1 := o0.cell (j := 1) rfl; have q2 := o0.cell (j := 2) rfl
  have C8 := Lib.hid fun (w' : World) (k : Kept w w') => alive8 w' (hlib.kept k)
  have C22 := Lib.hid fun (w' : World) (g : Nat) (k : Kept w w') (o : Own w' g 48 [.int .i64 f.k, .int .i64 f.n, .slice A f.l.length c]) => show Calls Tryd.prog 22 #[.int .i64 300, .slice (some ⟨g, 0, none⟩) 1 1] w' fun e w'' => e = .returned (.bool false) ∧ Kept w' w'' from by
    have := few35_any 300 f (some ⟨g, 0, none⟩) 1 w' (by omega) (by omega) (rk_new o hl (hr.kept k))
    rwa [decide_eq_false (show ¬ ((cntF f : Int) ≤ 300) by omega)] at this
  clear hr hX hlib hd hc hl
  go_enter Tryd.func5, Tryd.ntmps5
  go_wp2_with fail
  have o1 := o0.alloc (.cells #[.int .i64 f.k, .int .i64 f.n, .slice A f.l.length c] 48)
  have oS := Own.new (w.alloc (.cells #[.int .i64 f.k, .int .i64 f.n, .slice A f.l.length c] 48)) 48 [.int .i64 f.k, .int .i64 f.n, .slice A f.l.length c]
  simp only [World.size_alloc] at oS
  replace KK := kept_alloc KK (.cells #[.int .i64 f.k, .int .i64 f.n, .slice A f.l.length c] 48)
  clear o0; have o0 := o1; clear o1
  (refine (C22.out _ _ KK oS).mono ?_)
  rintro e w1 ⟨rfl, k1⟩
  clear oS
  replace KK := kept_trans KK k1; replace o0 := o0.kept k1; (try replace oT := oT.kept k1); (try replace r2 := r2.kept k1); (try replace rt2 := rt2.kept k1); clear q0 q1 q2; have q0 := o0.cell (j := 0) rfl; have q1 := o0.cell (j := 1) rfl; have q2 := o0.cell (j := 2) rfl; (try clear z0 z1 z2 z3); (try (have z0 := oT.cell (j := 0) rfl; have z1 := oT.cell (j := 1) rfl; have z2 := oT.cell (j := 2) rfl; have z3 := oT.cell (j := 3) rfl)); clear k1
  go_wp2_with (first | (go_at_call 8; ((with_reducible refine (C8.out _ KK).mono ?_); rintro e w1 ⟨rfl, k1⟩; replace KK := kept_trans KK k1; replace o0 := o0.kept k1; (try replace oT := oT.kept k1); (try replace r2 := r2.kept k1); (try replace rt2 := rt2.kept k1); clear q0 q1 q2; have q0 := o0.cell (j := 0) rfl; have q1 := o0.cell (j := 1) rfl; have q2 := o0.cell (j := 2) rfl; (try clear z0 z1 z2 z3); (try (have z0 := oT.cell (j := 0) rfl; have z1 := oT.cell (j := 1) rfl; have z2 := oT.cell (j := 2) rfl; have z3 := oT.cell (j := 3) rfl)); clear k1)))
  go_ret
  exact ⟨rfl, KK⟩

set_option maxRecDepth 100000 in
set_option maxHeartbeats 1000000 in
theorem law5_long (f : Fm) (A : Option Addr) (c : Nat) (x : List Bool) (X : Option Addr) (cx : Nat) (w : World) (hlib : LibOk w) (hl : f.l.length ≤ 9223372036854775807) (hr : RK w A f.l) (hX : Rd w X (bools x)) (hc : cntF f ≤ 300) (hx : ¬ x.length ≤ 100) :
    Calls Tryd.prog 5 #[fmV f A c, .slice X x.length cx] w fun e w' => e = .returned (.bool true) ∧ Kept w w' := by
  unfold fmV
  have hd := dep_le_cnt f
  have o0 := Own.new w 48 [.int .i64 f.k, .int .i64 f.n, .slice A f.l.length c]
  have KK := kept_alloc (kept_refl w) (.cells #[.int .i64 f.k, .int .i64 f.n, .slice A f.l.length c] 48)
  have q0 := o0.cell (j := 0) rfl; have q1 := o0.cell (j := 1) rfl; have q2 := o0.cell (j := 2) rfl
  have C8 := Lib.hid fun (w' : World) (k : Kept w w') => alive8 w' (hlib.kept k)
  have C22 := Lib.hid fun (w' : World) (g : Nat) (k : Kept w w') (o : Own w' g 48 [.int .i64 f.k, .int .i64 f.n, .slice A f.l.length c]) => show Calls Tryd.prog 22 #[.int .i64 300, .slice (some ⟨g, 0, none⟩) 1 1] w' fun e w'' => e = .returned (.bool true) ∧ Kept w' w'' from by
    have := few35_any 300 f (some ⟨g, 0, none⟩) 1 w' (by omega) (by omega) (rk_new o hl (hr.kept k))
    rwa [decide_eq_true (show (cntF f : Int) ≤ 300 by omega)] at this
  have dx : decide ((100 : Int) < (x.length : Int)) = true := decide_eq_true (by omega)
  have dx' : decide (100 < x.length) = true := decide_eq_true (by omega)
  clear hr hX hlib hd hc hl hx
  go_enter Tryd.func5, Tryd.ntmps5
  go_wp2_with fail
  have o1 := o0.alloc (.cells #[.int .i64 f.k, .int .i64 f.n, .slice A f.l.length c] 48)
  have oS := Own.new (w.alloc (.cells #[.int .i64 f.k, .int .i64 f.n, .slice A f.l.length c] 48)) 48 [.int .i64 f.k, .int .i64 f.n, .slice A f.l.length c]
  simp only [World.size_alloc] at oS
  replace KK := kept_alloc KK (.cells #[.int .i64 f.k, .int .i64 f.n, .slice A f.l.length c] 48)
  clear o0; have o0 := o1; clear o1
  (refine (C22.out _ _ KK oS).mono ?_)
  rintro e w1 ⟨rfl, k1⟩
  clear oS
  replace KK := kept_trans KK k1; replace o0 := o0.kept k1; (try replace oT := oT.kept k1); (try replace r2 := r2.kept k1); (try replace rt2 := rt2.kept k1); clear q0 q1 q2; have q0 := o0.cell (j := 0) rfl; have q1 := o0.cell (j := 1) rfl; have q2 := o0.cell (j := 2) rfl; (try clear z0 z1 z2 z3); (try (have z0 := oT.cell (j := 0) rfl; have z1 := oT.cell (j := 1) rfl; have z2 := oT.cell (j := 2) rfl; have z3 := oT.cell (j := 3) rfl)); clear k1
  go_wp2_with (first | (go_at_call 8; ((with_reducible refine (C8.out _ KK).mono ?_); rintro e w1 ⟨rfl, k1⟩; replace KK := kept_trans KK k1; replace o0 := o0.kept k1; (try replace oT := oT.kept k1); (try replace r2 := r2.kept k1); (try replace rt2 := rt2.kept k1); clear q0 q1 q2; have q0 := o0.cell (j := 0) rfl; have q1 := o0.cell (j := 1) rfl; have q2 := o0.cell (j := 2) rfl; (try clear z0 z1 z2 z3); (try (have z0 := oT.cell (j := 0) rfl; have z1 := oT.cell (j := 1) rfl; have z2 := oT.cell (j := 2) rfl; have z3 := oT.cell (j := 3) rfl)); clear k1)))
  go_ret
  exact ⟨rfl, KK⟩

set_option maxRecDepth 100000 in
set_option maxHeartbeats 1000000 in
theorem law5_form (f : Fm) (A : Option Addr) (c : Nat) (x : List Bool) (X : Option Addr) (cx : Nat) (w : World) (hlib : LibOk w) (hl : f.l.length ≤ 9223372036854775807) (hr : RK w A f.l) (hX : Rd w X (bools x)) (hc : cntF f ≤ 300) (hx : x.length ≤ 100) (hs : shpF f = false) :
    Calls Tryd.prog 5 #[fmV f A c, .slice X x.length cx] w fun e w' => e = .returned (.bool true) ∧ Kept w w' := by
  unfold fmV
  have hd := dep_le_cnt f
  have o0 := Own.new w 48 [.int .i64 f.k, .int .i64 f.n, .slice A f.l.length c]
  have KK := kept_alloc (kept_refl w) (.cells #[.int .i64 f.k, .int .i64 f.n, .slice A f.l.length c] 48)
  have q0 := o0.cell (j := 0) rfl; have q1 := o0.cell (j := 1) rfl; have q2 := o0.cell (j := 2) rfl
  have C8 := Lib.hid fun (w' : World) (k : Kept w w') => alive8 w' (hlib.kept k)
  have C22 := Lib.hid fun (w' : World) (g : Nat) (k : Kept w w') (o : Own w' g 48 [.int .i64 f.k, .int .i64 f.n, .slice A f.l.length c]) => show Calls Tryd.prog 22 #[.int .i64 300, .slice (some ⟨g, 0, none⟩) 1 1] w' fun e w'' => e = .returned (.bool true) ∧ Kept w' w'' from by
    have := few35_any 300 f (some ⟨g, 0, none⟩) 1 w' (by omega) (by omega) (rk_new o hl (hr.kept k))
    rwa [decide_eq_true (show (cntF f : Int) ≤ 300 by omega)] at this
  have dx : decide ((100 : Int) < (x.length : Int)) = false := decide_eq_false (by omega)
  have dx' : decide (100 < x.length) = false := decide_eq_false (by omega)
  have C24 := Lib.hid fun (w' : World) (k : Kept w w') => show Calls Tryd.prog 24 #[.agg #[.int .i64 f.k, .int .i64 f.n, .slice A f.l.length c]] w' fun e w'' => e = .returned (.bool false) ∧ Kept w' w'' from by
    have := rvalid36_any f A c w' (by omega) (by omega) hl (hr.kept k)
    rw [hs] at this
    exact this
  have C23 := Lib.hid fun (w' : World) (k : Kept w w') => show Calls Tryd.prog 23 #[.agg #[.int .i64 f.k, .int .i64 f.n, .slice A f.l.length c], .slice X x.length cx] w' fun e w'' => e = .returned (.tuple #[.agg #[.int .i64 0, .int .i64 0, .slice none 0 0, .slice none 0 0], .int .i64 1]) ∧ Kept w' w'' from by
    refine (from23_any f A c x X cx w' (by omega) (by omega) hl (hr.kept k) (hX.kept k) (by omega)).mono fun e w'' this => ?_
    unfold FromPost at this
    rw [if_pos hs] at this
    exact this
  clear hr hX hlib hd hc hl hx hs
  go_enter Tryd.func5, Tryd.ntmps5
  go_wp2_with fail
  have o1 := o0.alloc (.cells #[.int .i64 f.k, .int .i64 f.n, .slice A f.l.length c] 48)
  have oS := Own.new (w.alloc (.cells #[.int .i64 f.k, .int .i64 f.n, .slice A f.l.length c] 48)) 48 [.int .i64 f.k, .int .i64 f.n, .slice A f.l.length c]
  simp only [World.size_alloc] at oS
  replace KK := kept_alloc KK (.cells #[.int .i64 f.k, .int .i64 f.n, .slice A f.l.length c] 48)
  clear o0; have o0 := o1; clear o1
  (refine (C22.out _ _ KK oS).mono ?_)
  rintro e w1 ⟨rfl, k1⟩
  clear oS
  replace KK := kept_trans KK k1; replace o0 := o0.kept k1; (try replace oT := oT.kept k1); (try replace r2 := r2.kept k1); (try replace rt2 := rt2.kept k1); clear q0 q1 q2; have q0 := o0.cell (j := 0) rfl; have q1 := o0.cell (j := 1) rfl; have q2 := o0.cell (j := 2) rfl; (try clear z0 z1 z2 z3); (try (have z0 := oT.cell (j := 0) rfl; have z1 := oT.cell (j := 1) rfl; have z2 := oT.cell (j := 2) rfl; have z3 := oT.cell (j := 3) rfl)); clear k1
  go_wp2_with (first | (go_at_call 23; ((with_reducible refine (C23.out _ KK).mono ?_); rintro e w1 ⟨rfl, k1⟩; have oT := Own.new w1 25 [.int .i64 0, .int .i64 0, .slice none 0 0, .slice none 0 0]; replace KK := kept_alloc (kept_trans KK k1) (.cells #[.int .i64 0, .int .i64 0, .slice none 0 0, .slice none 0 0] 25); replace o0 := (o0.kept k1).alloc (.cells #[.int .i64 0, .int .i64 0, .slice none 0 0, .slice none 0 0] 25); (try replace r2 := r2.kept (kept_alloc (kept_refl w1) (.cells #[.int .i64 0, .int .i64 0, .slice none 0 0, .slice none 0 0] 25))); (try replace rt2 := rt2.kept (kept_alloc (kept_refl w1) (.cells #[.int .i64 0, .int .i64 0, .slice none 0 0, .slice none 0 0] 25))); clear q0 q1 q2; have q0 := o0.cell (j := 0) rfl; have q1 := o0.cell (j := 1) rfl; have q2 := o0.cell (j := 2) rfl; have z0 := oT.cell (j := 0) rfl; have z1 := oT.cell (j := 1) rfl; have z2 := oT.cell (j := 2) rfl; have z3 := oT.cell (j := 3) rfl; clear k1)) | (go_at_call 14; ((with_reducible refine (none14 _).mono ?_); rintro e w1 ⟨rfl, k1⟩; replace KK := kept_trans KK k1; replace o0 := o0.kept k1; (try replace oT := oT.kept k1); (try replace r2 := r2.kept k1); (try replace rt2 := rt2.kept k1); clear q0 q1 q2; have q0 := o0.cell (j := 0) rfl; have q1 := o0.cell (j := 1) rfl; have q2 := o0.cell (j := 2) rfl; (try clear z0 z1 z2 z3); (try (have z0 := oT.cell (j := 0) rfl; have z1 := oT.cell (j := 1) rfl; have z2 := oT.cell (j := 2) rfl; have z3 := oT.cell (j := 3) rfl)); clear k1)) | (go_at_call 24; ((with_reducible refine (C24.out _ KK).mono ?_); rintro e w1 ⟨rfl, k1⟩; replace KK := kept_trans KK k1; replace o0 := o0.kept k1; (try replace oT := oT.kept k1); (try replace r2 := r2.kept k1); (try replace rt2 := rt2.kept k1); clear q0 q1 q2; have q0 := o0.cell (j := 0) rfl; have q1 := o0.cell (j := 1) rfl; have q2 := o0.cell (j := 2) rfl; (try clear z0 z1 z2 z3); (try (have z0 := oT.cell (j := 0) rfl; have z1 := oT.cell (j := 1) rfl; have z2 := oT.cell (j := 2) rfl; have z3 := oT.cell (j := 3) rfl)); clear k1)) | (go_at_call 8; ((with_reducible refine (C8.out _ KK).mono ?_); rintro e w1 ⟨rfl, k1⟩; replace KK := kept_trans KK k1; replace o0 := o0.kept k1; (try replace oT := oT.kept k1); (try replace r2 := r2.kept k1); (try replace rt2 := rt2.kept k1); clear q0 q1 q2; have q0 := o0.cell (j := 0) rfl; have q1 := o0.cell (j := 1) rfl; have q2 := o0.cell (j := 2) rfl; (try clear z0 z1 z2 z3); (try (have z0 := oT.cell (j := 0) rfl; have z1 := oT.cell (j := 1) rfl; have z2 := oT.cell (j := 2) rfl; have z3 := oT.cell (j := 3) rfl)); clear k1)))
  go_ret
  exact ⟨rfl, KK⟩

set_option maxRecDepth 100000 in
set_option maxHeartbeats 1000000 in
theorem law5_arg (f : Fm) (A : Option Addr) (c : Nat) (x : List Bool) (X : Option Addr) (cx : Nat) (w : World) (hlib : LibOk w) (hl : f.l.length ≤ 9223372036854775807) (hr : RK w A f.l) (hX : Rd w X (bools x)) (hc : cntF f ≤ 300) (hx : x.length ≤ 100) (hs : shpF f = true) (hi : (x.length : Int) < inpF f) :
    Calls Tryd.prog 5 #[fmV f A c, .slice X x.length cx] w fun e w' => e = .returned (.bool true) ∧ Kept w w' := by
  unfold fmV
  have hd := dep_le_cnt f
  have o0 := Own.new w 48 [.int .i64 f.k, .int .i64 f.n, .slice A f.l.length c]
  have KK := kept_alloc (kept_refl w) (.cells #[.int .i64 f.k, .int .i64 f.n, .slice A f.l.length c] 48)
  have q0 := o0.cell (j := 0) rfl; have q1 := o0.cell (j := 1) rfl; have q2 := o0.cell (j := 2) rfl
  have C8 := Lib.hid fun (w' : World) (k : Kept w w') => alive8 w' (hlib.kept k)
  have C22 := Lib.hid fun (w' : World) (g : Nat) (k : Kept w w') (o : Own w' g 48 [.int .i64 f.k, .int .i64 f.n, .slice A f.l.length c]) => show Calls Tryd.prog 22 #[.int .i64 300, .slice (some ⟨g, 0, none⟩) 1 1] w' fun e w'' => e = .returned (.bool true) ∧ Kept w' w'' from by
    have := few35_any 300 f (some ⟨g, 0, none⟩) 1 w' (by omega) (by omega) (rk_new o hl (hr.kept k))
    rwa [decide_eq_true (show (cntF f : Int) ≤ 300 by omega)] at this
  have dx : decide ((100 : Int) < (x.length : Int)) = false := decide_eq_false (by omega)
  have dx' : decide (100 < x.length) = false := decide_eq_false (by omega)
  have C24 := Lib.hid fun (w' : World) (k : Kept w w') => show Calls Tryd.prog 24 #[.agg #[.int .i64 f.k, .int .i64 f.n, .slice A f.l.length c]] w' fun e w'' => e = .returned (.bool true) ∧ Kept w' w'' from by
    have := rvalid36_any f A c w' (by omega) (by omega) hl (hr.kept k)
    rw [hs] at this
    exact this
  have C23 := Lib.hid fun (w' : World) (k : Kept w w') => show Calls Tryd.prog 23 #[.agg #[.int .i64 f.k, .int .i64 f.n, .slice A f.l.length c], .slice X x.length cx] w' fun e w'' => e = .returned (.tuple #[.agg #[.int .i64 0, .int .i64 0, .slice none 0 0, .slice none 0 0], .int .i64 2]) ∧ Kept w' w'' from by
    refine (from23_any f A c x X cx w' (by omega) (by omega) hl (hr.kept k) (hX.kept k) (by omega)).mono fun e w'' this => ?_
    unfold FromPost at this
    rw [if_neg (by rw [hs]; simp), if_pos hi] at this
    exact this
  obtain ⟨I, hI⟩ : ∃ I, I = inpF f := ⟨_, rfl⟩
  have C25 := Lib.hid fun (w' : World) (k : Kept w w') => show Calls Tryd.prog 25 #[.agg #[.int .i64 f.k, .int .i64 f.n, .slice A f.l.length c]] w' fun e w'' => e = .returned (.int .i64 I) ∧ Kept w' w'' from by
    rw [hI]; exact rinputs37_any (cntF f) f A c w' (Nat.le_refl _) hs hl (hr.kept k)
  rw [← hI] at hi
  have di : decide ((x.length : Int) < I) = true := decide_eq_true hi
  clear hr hX hlib hd hc hl hx hs hi hI
  go_enter Tryd.func5, Tryd.ntmps5
  go_wp2_with fail
  have o1 := o0.alloc (.cells #[.int .i64 f.k, .int .i64 f.n, .slice A f.l.length c] 48)
  have oS := Own.new (w.alloc (.cells #[.int .i64 f.k, .int .i64 f.n, .slice A f.l.length c] 48)) 48 [.int .i64 f.k, .int .i64 f.n, .slice A f.l.length c]
  simp only [World.size_alloc] at oS
  replace KK := kept_alloc KK (.cells #[.int .i64 f.k, .int .i64 f.n, .slice A f.l.length c] 48)
  clear o0; have o0 := o1; clear o1
  (refine (C22.out _ _ KK oS).mono ?_)
  rintro e w1 ⟨rfl, k1⟩
  clear oS
  replace KK := kept_trans KK k1; replace o0 := o0.kept k1; (try replace oT := oT.kept k1); (try replace r2 := r2.kept k1); (try replace rt2 := rt2.kept k1); clear q0 q1 q2; have q0 := o0.cell (j := 0) rfl; have q1 := o0.cell (j := 1) rfl; have q2 := o0.cell (j := 2) rfl; (try clear z0 z1 z2 z3); (try (have z0 := oT.cell (j := 0) rfl; have z1 := oT.cell (j := 1) rfl; have z2 := oT.cell (j := 2) rfl; have z3 := oT.cell (j := 3) rfl)); clear k1
  go_wp2_with (first | (go_at_call 25; ((with_reducible refine (C25.out _ KK).mono ?_); rintro e w1 ⟨rfl, k1⟩; replace KK := kept_trans KK k1; replace o0 := o0.kept k1; (try replace oT := oT.kept k1); (try replace r2 := r2.kept k1); (try replace rt2 := rt2.kept k1); clear q0 q1 q2; have q0 := o0.cell (j := 0) rfl; have q1 := o0.cell (j := 1) rfl; have q2 := o0.cell (j := 2) rfl; (try clear z0 z1 z2 z3); (try (have z0 := oT.cell (j := 0) rfl; have z1 := oT.cell (j := 1) rfl; have z2 := oT.cell (j := 2) rfl; have z3 := oT.cell (j := 3) rfl)); clear k1)) | (go_at_call 23; ((with_reducible refine (C23.out _ KK).mono ?_); rintro e w1 ⟨rfl, k1⟩; have oT := Own.new w1 25 [.int .i64 0, .int .i64 0, .slice none 0 0, .slice none 0 0]; replace KK := kept_alloc (kept_trans KK k1) (.cells #[.int .i64 0, .int .i64 0, .slice none 0 0, .slice none 0 0] 25); replace o0 := (o0.kept k1).alloc (.cells #[.int .i64 0, .int .i64 0, .slice none 0 0, .slice none 0 0] 25); (try replace r2 := r2.kept (kept_alloc (kept_refl w1) (.cells #[.int .i64 0, .int .i64 0, .slice none 0 0, .slice none 0 0] 25))); (try replace rt2 := rt2.kept (kept_alloc (kept_refl w1) (.cells #[.int .i64 0, .int .i64 0, .slice none 0 0, .slice none 0 0] 25))); clear q0 q1 q2; have q0 := o0.cell (j := 0) rfl; have q1 := o0.cell (j := 1) rfl; have q2 := o0.cell (j := 2) rfl; have z0 := oT.cell (j := 0) rfl; have z1 := oT.cell (j := 1) rfl; have z2 := oT.cell (j := 2) rfl; have z3 := oT.cell (j := 3) rfl; clear k1)) | (go_at_call 14; ((with_reducible refine (none14 _).mono ?_); rintro e w1 ⟨rfl, k1⟩; replace KK := kept_trans KK k1; replace o0 := o0.kept k1; (try replace oT := oT.kept k1); (try replace r2 := r2.kept k1); (try replace rt2 := rt2.kept k1); clear q0 q1 q2; have q0 := o0.cell (j := 0) rfl; have q1 := o0.cell (j := 1) rfl; have q2 := o0.cell (j := 2) rfl; (try clear z0 z1 z2 z3); (try (have z0 := oT.cell (j := 0) rfl; have z1 := oT.cell (j := 1) rfl; have z2 := oT.cell (j := 2) rfl; have z3 := oT.cell (j := 3) rfl)); clear k1)) | (go_at_call 24; ((with_reducible refine (C24.out _ KK).mono ?_); rintro e w1 ⟨rfl, k1⟩; replace KK := kept_trans KK k1; replace o0 := o0.kept k1; (try replace oT := oT.kept k1); (try replace r2 := r2.kept k1); (try replace rt2 := rt2.kept k1); clear q0 q1 q2; have q0 := o0.cell (j := 0) rfl; have q1 := o0.cell (j := 1) rfl; have q2 := o0.cell (j := 2) rfl; (try clear z0 z1 z2 z3); (try (have z0 := oT.cell (j := 0) rfl; have z1 := oT.cell (j := 1) rfl; have z2 := oT.cell (j := 2) rfl; have z3 := oT.cell (j := 3) rfl)); clear k1)) | (go_at_call 8; ((with_reducible refine (C8.out _ KK).mono ?_); rintro e w1 ⟨rfl, k1⟩; replace KK := kept_trans KK k1; replace o0 := o0.kept k1; (try replace oT := oT.kept k1); (try replace r2 := r2.kept k1); (try replace rt2 := rt2.kept k1); clear q0 q1 q2; have q0 := o0.cell (j := 0) rfl; have q1 := o0.cell (j := 1) rfl; have q2 := o0.cell (j := 2) rfl; (try clear z0 z1 z2 z3); (try (have z0 := oT.cell (j := 0) rfl; have z1 := oT.cell (j := 1) rfl; have z2 := oT.cell (j := 2) rfl; have z3 := oT.cell (j := 3) rfl)); clear k1)))
  go_ret
  exact ⟨rfl, KK⟩

set_option maxRecDepth 100000 in
set_option maxHeartbeats 1000000 in
theorem law5_size (f : Fm) (A : Option Addr) (c : Nat) (x : List Bool) (X : Option Addr) (cx : Nat) (w : World) (hlib : LibOk w) (hl : f.l.length ≤ 9223372036854775807) (hr : RK w A f.l) (hX : Rd w X (bools x)) (hc : cntF f ≤ 300) (hx : x.length ≤ 100) (hs : shpF f = true) (hi : ¬ (x.length : Int) < inpF f) (hd7 : 7 < depF f) :
    Calls Tryd.prog 5 #[fmV f A c, .slice X x.length cx] w fun e w' => e = .returned (.bool true) ∧ Kept w w' := by
  unfold fmV
  have hd := dep_le_cnt f
  have o0 := Own.new w 48 [.int .i64 f.k, .int .i64 f.n, .slice A f.l.length c]
  have KK := kept_alloc (kept_refl w) (.cells #[.int .i64 f.k, .int .i64 f.n, .slice A f.l.length c] 48)
  have q0 := o0.cell (j := 0) rfl; have q1 := o0.cell (j := 1) rfl; have q2 := o0.cell (j := 2) rfl
  have C8 := Lib.hid fun (w' : World) (k : Kept w w') => alive8 w' (hlib.kept k)
  have C22 := Lib.hid fun (w' : World) (g : Nat) (k : Kept w w') (o : Own w' g 48 [.int .i64 f.k, .int .i64 f.n, .slice A f.l.length c]) => show Calls Tryd.prog 22 #[.int .i64 300, .slice (some ⟨g, 0, none⟩) 1 1] w' fun e w'' => e = .returned (.bool true) ∧ Kept w' w'' from by
    have := few35_any 300 f (some ⟨g, 0, none⟩) 1 w' (by omega) (by omega) (rk_new o hl (hr.kept k))
    rwa [decide_eq_true (show (cntF f : Int) ≤ 300 by omega)] at this
  have dx : decide ((100 : Int) < (x.length : Int)) = false := decide_eq_false (by omega)
  have dx' : decide (100 < x.length) = false := decide_eq_false (by omega)
  have C24 := Lib.hid fun (w' : World) (k : Kept w w') => show Calls Tryd.prog 24 #[.agg #[.int .i64 f.k, .int .i64 f.n, .slice A f.l.length c]] w' fun e w'' => e = .returned (.bool true) ∧ Kept w' w'' from by
    have := rvalid36_any f A c w' (by omega) (by omega) hl (hr.kept k)
    rw [hs] at this
    exact this
  have C23 := Lib.hid fun (w' : World) (k : Kept w w') => show Calls Tryd.prog 23 #[.agg #[.int .i64 f.k, .int .i64 f.n, .slice A f.l.length c], .slice X x.length cx] w' fun e w'' => e = .returned (.tuple #[.agg #[.int .i64 0, .int .i64 0, .slice none 0 0, .slice none 0 0], .int .i64 5]) ∧ Kept w' w'' from by
    refine (from23_any f A c x X cx w' (by omega) (by omega) hl (hr.kept k) (hX.kept k) (by omega)).mono fun e w'' this => ?_
    unfold FromPost at this
    rw [if_neg (by rw [hs]; simp), if_neg hi, if_pos hd7] at this
    exact this
  obtain ⟨I, hI⟩ : ∃ I, I = inpF f := ⟨_, rfl⟩
  have C25 := Lib.hid fun (w' : World) (k : Kept w w') => show Calls Tryd.prog 25 #[.agg #[.int .i64 f.k, .int .i64 f.n, .slice A f.l.length c]] w' fun e w'' => e = .returned (.int .i64 I) ∧ Kept w' w'' from by
    rw [hI]; exact rinputs37_any (cntF f) f A c w' (Nat.le_refl _) hs hl (hr.kept k)
  rw [← hI] at hi
  have di : decide ((x.length : Int) < I) = false := decide_eq_false hi
  have hpos := depF_pos f
  obtain ⟨D, hD⟩ : ∃ D : Nat, D = depF f := ⟨_, rfl⟩
  have C26 := Lib.hid fun (w' : World) (k : Kept w w') => show Calls Tryd.prog 26 #[.agg #[.int .i64 f.k, .int .i64 f.n, .slice A f.l.length c]] w' fun e w'' => e = .returned (.int .i64 (D : Int)) ∧ Kept w' w'' from by
    rw [hD]; exact nesting26_any f A c w' (by omega) (by omega) hl (hr.kept k)
  rw [← hD] at hd7 hpos
  have d7 : decide ((7 : Int) < (D : Int)) = true := decide_eq_true (by omega)
  have d7' : decide (7 < D) = true := decide_eq_true hd7
  clear hr hX hlib hd hc hl hx hs hi hI hd7 hD hpos
  go_enter Tryd.func5, Tryd.ntmps5
  go_wp2_with fail
  have o1 := o0.alloc (.cells #[.int .i64 f.k, .int .i64 f.n, .slice A f.l.length c] 48)
  have oS := Own.new (w.alloc (.cells #[.int .i64 f.k, .int .i64 f.n, .slice A f.l.length c] 48)) 48 [.int .i64 f.k, .int .i64 f.n, .slice A f.l.length c]
  simp only [World.size_alloc] at oS
  replace KK := kept_alloc KK (.cells #[.int .i64 f.k, .int .i64 f.n, .slice A f.l.length c] 48)
  clear o0; have o0 := o1; clear o1
  (refine (C22.out _ _ KK oS).mono ?_)
  rintro e w1 ⟨rfl, k1⟩
  clear oS
  replace KK := kept_trans KK k1; replace o0 := o0.kept k1; (try replace oT := oT.kept k1); (try replace r2 := r2.kept k1); (try replace rt2 := rt2.kept k1); clear q0 q1 q2; have q0 := o0.cell (j := 0) rfl; have q1 := o0.cell (j := 1) rfl; have q2 := o0.cell (j := 2) rfl; (try clear z0 z1 z2 z3); (try (have z0 := oT.cell (j := 0) rfl; have z1 := oT.cell (j := 1) rfl; have z2 := oT.cell (j := 2) rfl; have z3 := oT.cell (j := 3) rfl)); clear k1
  go_wp2_with (first | (go_at_call 26; ((with_reducible refine (C26.out _ KK).mono ?_); rintro e w1 ⟨rfl, k1⟩; replace KK := kept_trans KK k1; replace o0 := o0.kept k1; (try replace oT := oT.kept k1); (try replace r2 := r2.kept k1); (try replace rt2 := rt2.kept k1); clear q0 q1 q2; have q0 := o0.cell (j := 0) rfl; have q1 := o0.cell (j := 1) rfl; have q2 := o0.cell (j := 2) rfl; (try clear z0 z1 z2 z3); (try (have z0 := oT.cell (j := 0) rfl; have z1 := oT.cell (j := 1) rfl; have z2 := oT.cell (j := 2) rfl; have z3 := oT.cell (j := 3) rfl)); clear k1)) | (go_at_call 25; ((with_reducible refine (C25.out _ KK).mono ?_); rintro e w1 ⟨rfl, k1⟩; replace KK := kept_trans KK k1; replace o0 := o0.kept k1; (try replace oT := oT.kept k1); (try replace r2 := r2.kept k1); (try replace rt2 := rt2.kept k1); clear q0 q1 q2; have q0 := o0.cell (j := 0) rfl; have q1 := o0.cell (j := 1) rfl; have q2 := o0.cell (j := 2) rfl; (try clear z0 z1 z2 z3); (try (have z0 := oT.cell (j := 0) rfl; have z1 := oT.cell (j := 1) rfl; have z2 := oT.cell (j := 2) rfl; have z3 := oT.cell (j := 3) rfl)); clear k1)) | (go_at_call 23; ((with_reducible refine (C23.out _ KK).mono ?_); rintro e w1 ⟨rfl, k1⟩; have oT := Own.new w1 25 [.int .i64 0, .int .i64 0, .slice none 0 0, .slice none 0 0]; replace KK := kept_alloc (kept_trans KK k1) (.cells #[.int .i64 0, .int .i64 0, .slice none 0 0, .slice none 0 0] 25); replace o0 := (o0.kept k1).alloc (.cells #[.int .i64 0, .int .i64 0, .slice none 0 0, .slice none 0 0] 25); (try replace r2 := r2.kept (kept_alloc (kept_refl w1) (.cells #[.int .i64 0, .int .i64 0, .slice none 0 0, .slice none 0 0] 25))); (try replace rt2 := rt2.kept (kept_alloc (kept_refl w1) (.cells #[.int .i64 0, .int .i64 0, .slice none 0 0, .slice none 0 0] 25))); clear q0 q1 q2; have q0 := o0.cell (j := 0) rfl; have q1 := o0.cell (j := 1) rfl; have q2 := o0.cell (j := 2) rfl; have z0 := oT.cell (j := 0) rfl; have z1 := oT.cell (j := 1) rfl; have z2 := oT.cell (j := 2) rfl; have z3 := oT.cell (j := 3) rfl; clear k1)) | (go_at_call 14; ((with_reducible refine (none14 _).mono ?_); rintro e w1 ⟨rfl, k1⟩; replace KK := kept_trans KK k1; replace o0 := o0.kept k1; (try replace oT := oT.kept k1); (try replace r2 := r2.kept k1); (try replace rt2 := rt2.kept k1); clear q0 q1 q2; have q0 := o0.cell (j := 0) rfl; have q1 := o0.cell (j := 1) rfl; have q2 := o0.cell (j := 2) rfl; (try clear z0 z1 z2 z3); (try (have z0 := oT.cell (j := 0) rfl; have z1 := oT.cell (j := 1) rfl; have z2 := oT.cell (j := 2) rfl; have z3 := oT.cell (j := 3) rfl)); clear k1)) | (go_at_call 24; ((with_reducible refine (C24.out _ KK).mono ?_); rintro e w1 ⟨rfl, k1⟩; replace KK := kept_trans KK k1; replace o0 := o0.kept k1; (try replace oT := oT.kept k1); (try replace r2 := r2.kept k1); (try replace rt2 := rt2.kept k1); clear q0 q1 q2; have q0 := o0.cell (j := 0) rfl; have q1 := o0.cell (j := 1) rfl; have q2 := o0.cell (j := 2) rfl; (try clear z0 z1 z2 z3); (try (have z0 := oT.cell (j := 0) rfl; have z1 := oT.cell (j := 1) rfl; have z2 := oT.cell (j := 2) rfl; have z3 := oT.cell (j := 3) rfl)); clear k1)) | (go_at_call 8; ((with_reducible refine (C8.out _ KK).mono ?_); rintro e w1 ⟨rfl, k1⟩; replace KK := kept_trans KK k1; replace o0 := o0.kept k1; (try replace oT := oT.kept k1); (try replace r2 := r2.kept k1); (try replace rt2 := rt2.kept k1); clear q0 q1 q2; have q0 := o0.cell (j := 0) rfl; have q1 := o0.cell (j := 1) rfl; have q2 := o0.cell (j := 2) rfl; (try clear z0 z1 z2 z3); (try (have z0 := oT.cell (j := 0) rfl; have z1 := oT.cell (j := 1) rfl; have z2 := oT.cell (j := 2) rfl; have z3 := oT.cell (j := 3) rfl)); clear k1)))
  go_ret
  exact ⟨rfl, KK⟩

set_option maxRecDepth 100000 in
set_option maxHeartbeats 1000000 in
theorem law5_ok (f : Fm) (A : Option Addr) (c : Nat) (x : List Bool) (X : Option Addr) (cx : Nat) (w : World) (hlib : LibOk w) (hl : f.l.length ≤ 9223372036854775807) (hr : RK w A f.l) (hX : Rd w X (bools x)) (hc : cntF f ≤ 300) (hx : x.length ≤ 100) (hs : shpF f = true) (hi : ¬ (x.length : Int) < inpF f) (hd7 : ¬ 7 < depF f) (v : Bool) (hv : evF (xs x) f = v) :
    Calls Tryd.prog 5 #[fmV f A c, .slice X x.length cx] w fun e w' => e = .returned (.bool true) ∧ Kept w w' := by
  unfold fmV
  have hd := dep_le_cnt f
  have o0 := Own.new w 48 [.int .i64 f.k, .int .i64 f.n, .slice A f.l.length c]
  have KK := kept_alloc (kept_refl w) (.cells #[.int .i64 f.k, .int .i64 f.n, .slice A f.l.length c] 48)
  have q0 := o0.cell (j := 0) rfl; have q1 := o0.cell (j := 1) rfl; have q2 := o0.cell (j := 2) rfl
  have C8 := Lib.hid fun (w' : World) (k : Kept w w') => alive8 w' (hlib.kept k)
  have C22 := Lib.hid fun (w' : World) (g : Nat) (k : Kept w w') (o : Own w' g 48 [.int .i64 f.k, .int .i64 f.n, .slice A f.l.length c]) => show Calls Tryd.prog 22 #[.int .i64 300, .slice (some ⟨g, 0, none⟩) 1 1] w' fun e w'' => e = .returned (.bool true) ∧ Kept w' w'' from by
    have := few35_any 300 f (some ⟨g, 0, none⟩) 1 w' (by omega) (by omega) (rk_new o hl (hr.kept k))
    rwa [decide_eq_true (show (cntF f : Int) ≤ 300 by omega)] at this
  have dx : decide ((100 : Int) < (x.length : Int)) = false := decide_eq_false (by omega)
  have dx' : decide (100 < x.length) = false := decide_eq_false (by omega)
  have C24 := Lib.hid fun (w' : World) (k : Kept w w') => show Calls Tryd.prog 24 #[.agg #[.int .i64 f.k, .int .i64 f.n, .slice A f.l.length c]] w' fun e w'' => e = .returned (.bool true) ∧ Kept w' w'' from by
    have := rvalid36_any f A c w' (by omega) (by omega) hl (hr.kept k)
    rw [hs] at this
    exact this
  obtain ⟨I, hI⟩ : ∃ I, I = inpF f := ⟨_, rfl⟩
  have C25 := Lib.hid fun (w' : World) (k : Kept w w') => show Calls Tryd.prog 25 #[.agg #[.int .i64 f.k, .int .i64 f.n, .slice A f.l.length c]] w' fun e w'' => e = .returned (.int .i64 I) ∧ Kept w' w'' from by
    rw [hI]; exact rinputs37_any (cntF f) f A c w' (Nat.le_refl _) hs hl (hr.kept k)
  rw [← hI] at hi
  have C27 := Lib.hid fun (w' : World) (k : Kept w w') => show Calls Tryd.prog 27 #[.agg #[.int .i64 f.k, .int .i64 f.n, .slice A f.l.length c], .slice X x.length cx] w' fun e w'' => e = .returned (.bool v) ∧ Kept w' w'' from by
    have := reval39_any X x cx (by omega) (cntF f) f A c w' (Nat.le_refl _) hs (by omega) (hr.kept k) (hX.kept k)
    rw [hv] at this
    exact this
  have di : decide ((x.length : Int) < I) = false := decide_eq_false hi
  have hpos := depF_pos f
  obtain ⟨D, hD⟩ : ∃ D : Nat, D = depF f := ⟨_, rfl⟩
  have C26 := Lib.hid fun (w' : World) (k : Kept w w') => show Calls Tryd.prog 26 #[.agg #[.int .i64 f.k, .int .i64 f.n, .slice A f.l.length c]] w' fun e w'' => e = .returned (.int .i64 (D : Int)) ∧ Kept w' w'' from by
    rw [hD]; exact nesting26_any f A c w' (by omega) (by omega) hl (hr.kept k)
  have C23 := Lib.hid fun (w' : World) (k : Kept w w') => show Calls Tryd.prog 23 #[.agg #[.int .i64 f.k, .int .i64 f.n, .slice A f.l.length c], .slice X x.length cx] w' fun e w'' => ∃ (lv : List Int) (tb : List (List Int)) (A2 : Option Addr) (c2 : Nat) (T2 : Option Addr) (m2 : Nat), e = .returned (.tuple #[.agg #[.int .i64 ((D : Int) - 1), .int .i64 1, .slice A2 lv.length c2, .slice T2 tb.length m2], .int .i64 0]) ∧ Kept w' w'' ∧ Rd w'' A2 (ints lv) ∧ RT w'' T2 tb ∧ OK5 D v lv tb from by
    refine (from23_any f A c x X cx w' (by omega) (by omega) hl (hr.kept k) (hX.kept k) (by omega)).mono fun e w'' this => ?_
    unfold FromPost at this
    rw [if_neg (by rw [hs]; simp), if_neg (by rw [← hI]; exact hi), if_neg hd7] at this
    obtain ⟨t, A2, c2, T2, m2, he, k1, r2, rt2, hth, htb, g, hval⟩ := this
    obtain ⟨th, tb', lv, tb⟩ := t
    dsimp only at he r2 rt2 hth htb
    subst htb
    rw [← hD] at hth
    obtain rfl : th = (D : Int) - 1 := hth
    exact ⟨lv, tb, A2, c2, T2, m2, he, k1, r2, rt2, g, by rw [hval, hv]⟩
  rw [← hD] at hd7 hpos
  have d7 : decide ((7 : Int) < (D : Int)) = false := decide_eq_false (by omega)
  have d7' : decide (7 < D) = false := decide_eq_false hd7
  have C7 := Lib.hid fun (lv : List Int) (tb : List (List Int)) (A2 : Option Addr) (c2 : Nat) (T2 : Option Addr) (m2 : Nat) (w' : World) (ok : OK5 D v lv tb) (r : Rd w' A2 (ints lv)) (rt : RT w' T2 tb) => show Calls Tryd.prog 7 #[.agg #[.int .i64 ((D : Int) - 1), .int .i64 1, .slice A2 lv.length c2, .slice T2 tb.length m2], .int .i64 10000] w' fun e w'' => e = .returned (.bool true) ∧ Kept w' w'' from by
    have h63 : tb.length ≤ 63 := ok.1.tb64
    have h64 : lv.length ≤ 64 := ok.1.lv64
    have := few7_any 10000 (by omega) (by omega) ⟨(D : Int) - 1, 1, lv, tb⟩ A2 c2 T2 m2 w' rt (by dsimp only; omega) (by dsimp only; omega)
    rw [few_bit ok.1 rfl] at this
    exact this
  have C9 := Lib.hid fun (lv : List Int) (tb : List (List Int)) (A2 : Option Addr) (c2 : Nat) (T2 : Option Addr) (m2 : Nat) (w' : World) (ok : OK5 D v lv tb) (r : Rd w' A2 (ints lv)) (rt : RT w' T2 tb) => show Calls Tryd.prog 9 #[.agg #[.int .i64 ((D : Int) - 1), .int .i64 1, .slice A2 lv.length c2, .slice T2 tb.length m2]] w' fun e w'' => e = .returned (.bool true) ∧ Kept w' w'' from by
    have h63 : tb.length ≤ 63 := ok.1.tb64
    have h64 : lv.length ≤ 64 := ok.1.lv64
    have := rvalid9_any ((D : Int) - 1) 1 A2 c2 lv T2 m2 tb w' r rt (by omega) (by omega)
    rw [ok.1.valid] at this
    exact this
  have C19 := Lib.hid fun (lv : List Int) (tb : List (List Int)) (A2 : Option Addr) (c2 : Nat) (T2 : Option Addr) (m2 : Nat) (w' : World) (ok : OK5 D v lv tb) (r : Rd w' A2 (ints lv)) (rt : RT w' T2 tb) => show Calls Tryd.prog 19 #[.agg #[.int .i64 ((D : Int) - 1), .int .i64 1, .slice A2 lv.length c2, .slice T2 tb.length m2], .int .i64 0] w' fun e w'' => e = .returned (.int .i64 (b01 v)) ∧ Kept w' w'' from by
    have := value19_any ⟨(D : Int) - 1, 1, lv, tb⟩ ok.1 A2 c2 T2 m2 _ 0 w' (Nat.le_refl _) (by omega) r rt
    rw [ok.2] at this
    exact this
  have e1 : b01 true = 1 := rfl
  have e2 : b01 false = 0 := rfl
  have EW := Lib.hid (show IntKind.i64.wrap ((D : Int) - 1) = (D : Int) - 1 from IntWalk.i64_in _ (by omega))
  clear hr hX hlib hd hc hl hx hs hi hI hd7 hpos hD hv
  cases v with
  | false =>
    rw [e2] at C19; clear e1 e2
    go_enter Tryd.func5, Tryd.ntmps5
    go_wp2_with fail
    have o1 := o0.alloc (.cells #[.int .i64 f.k, .int .i64 f.n, .slice A f.l.length c] 48)
    have oS := Own.new (w.alloc (.cells #[.int .i64 f.k, .int .i64 f.n, .slice A f.l.length c] 48)) 48 [.int .i64 f.k, .int .i64 f.n, .slice A f.l.length c]
    simp only [World.size_alloc] at oS
    replace KK := kept_alloc KK (.cells #[.int .i64 f.k, .int .i64 f.n, .slice A f.l.length c] 48)
    clear o0; have o0 := o1; clear o1
    (refine (C22.out _ _ KK oS).mono ?_)
    rintro e w1 ⟨rfl, k1⟩
    clear oS
    replace KK := kept_trans KK k1; replace o0 := o0.kept k1; (try replace oT := oT.kept k1); (try replace r2 := r2.kept k1); (try replace rt2 := rt2.kept k1); clear q0 q1 q2; have q0 := o0.cell (j := 0) rfl; have q1 := o0.cell (j := 1) rfl; have q2 := o0.cell (j := 2) rfl; (try clear z0 z1 z2 z3); (try (have z0 := oT.cell (j := 0) rfl; have z1 := oT.cell (j := 1) rfl; have z2 := oT.cell (j := 2) rfl; have z3 := oT.cell (j := 3) rfl)); clear k1
    go_wp2_with (first | (go_at_call 23; ((with_reducible refine (C23.out _ KK).mono ?_); rintro e w1 ⟨lv, tb, A2, c2, T2, m2, rfl, k1, r2, rt2, ok⟩; replace ok := Lib.hid ok; have oT := Own.new w1 25 [.int .i64 ((D : Int) - 1), .int .i64 1, .slice A2 lv.length c2, .slice T2 tb.length m2]; replace KK := kept_alloc (kept_trans KK k1) (.cells #[.int .i64 ((D : Int) - 1), .int .i64 1, .slice A2 lv.length c2, .slice T2 tb.length m2] 25); replace o0 := (o0.kept k1).alloc (.cells #[.int .i64 ((D : Int) - 1), .int .i64 1, .slice A2 lv.length c2, .slice T2 tb.length m2] 25); (try replace r2 := r2.kept (kept_alloc (kept_refl w1) (.cells #[.int .i64 ((D : Int) - 1), .int .i64 1, .slice A2 lv.length c2, .slice T2 tb.length m2] 25))); (try replace rt2 := rt2.kept (kept_alloc (kept_refl w1) (.cells #[.int .i64 ((D : Int) - 1), .int .i64 1, .slice A2 lv.length c2, .slice T2 tb.length m2] 25))); clear q0 q1 q2; have q0 := o0.cell (j := 0) rfl; have q1 := o0.cell (j := 1) rfl; have q2 := o0.cell (j := 2) rfl; have z0 := oT.cell (j := 0) rfl; have z1 := oT.cell (j := 1) rfl; have z2 := oT.cell (j := 2) rfl; have z3 := oT.cell (j := 3) rfl; clear k1)) | (go_at_call 7; ((with_reducible refine (C7.out _ _ _ _ _ _ _ ok.out r2 rt2).mono ?_); rintro e w1 ⟨rfl, k1⟩; replace KK := kept_trans KK k1; replace o0 := o0.kept k1; (try replace oT := oT.kept k1); (try replace r2 := r2.kept k1); (try replace rt2 := rt2.kept k1); clear q0 q1 q2; have q0 := o0.cell (j := 0) rfl; have q1 := o0.cell (j := 1) rfl; have q2 := o0.cell (j := 2) rfl; (try clear z0 z1 z2 z3); (try (have z0 := oT.cell (j := 0) rfl; have z1 := oT.cell (j := 1) rfl; have z2 := oT.cell (j := 2) rfl; have z3 := oT.cell (j := 3) rfl)); clear k1)) | (go_at_call 9; ((with_reducible refine (C9.out _ _ _ _ _ _ _ ok.out r2 rt2).mono ?_); rintro e w1 ⟨rfl, k1⟩; replace KK := kept_trans KK k1; replace o0 := o0.kept k1; (try replace oT := oT.kept k1); (try replace r2 := r2.kept k1); (try replace rt2 := rt2.kept k1); clear q0 q1 q2; have q0 := o0.cell (j := 0) rfl; have q1 := o0.cell (j := 1) rfl; have q2 := o0.cell (j := 2) rfl; (try clear z0 z1 z2 z3); (try (have z0 := oT.cell (j := 0) rfl; have z1 := oT.cell (j := 1) rfl; have z2 := oT.cell (j := 2) rfl; have z3 := oT.cell (j := 3) rfl)); clear k1)) | (go_at_call 19; ((with_reducible refine (C19.out _ _ _ _ _ _ _ ok.out r2 rt2).mono ?_); rintro e w1 ⟨rfl, k1⟩; replace KK := kept_trans KK k1; replace o0 := o0.kept k1; (try replace oT := oT.kept k1); (try replace r2 := r2.kept k1); (try replace rt2 := rt2.kept k1); clear q0 q1 q2; have q0 := o0.cell (j := 0) rfl; have q1 := o0.cell (j := 1) rfl; have q2 := o0.cell (j := 2) rfl; (try clear z0 z1 z2 z3); (try (have z0 := oT.cell (j := 0) rfl; have z1 := oT.cell (j := 1) rfl; have z2 := oT.cell (j := 2) rfl; have z3 := oT.cell (j := 3) rfl)); clear k1)) | (go_at_call 26; ((with_reducible refine (C26.out _ KK).mono ?_); rintro e w1 ⟨rfl, k1⟩; replace KK := kept_trans KK k1; replace o0 := o0.kept k1; (try replace oT := oT.kept k1); (try replace r2 := r2.kept k1); (try replace rt2 := rt2.kept k1); clear q0 q1 q2; have q0 := o0.cell (j := 0) rfl; have q1 := o0.cell (j := 1) rfl; have q2 := o0.cell (j := 2) rfl; (try clear z0 z1 z2 z3); (try (have z0 := oT.cell (j := 0) rfl; have z1 := oT.cell (j := 1) rfl; have z2 := oT.cell (j := 2) rfl; have z3 := oT.cell (j := 3) rfl)); clear k1)) | (go_at_call 27; ((with_reducible refine (C27.out _ KK).mono ?_); rintro e w1 ⟨rfl, k1⟩; replace KK := kept_trans KK k1; replace o0 := o0.kept k1; (try replace oT := oT.kept k1); (try replace r2 := r2.kept k1); (try replace rt2 := rt2.kept k1); clear q0 q1 q2; have q0 := o0.cell (j := 0) rfl; have q1 := o0.cell (j := 1) rfl; have q2 := o0.cell (j := 2) rfl; (try clear z0 z1 z2 z3); (try (have z0 := oT.cell (j := 0) rfl; have z1 := oT.cell (j := 1) rfl; have z2 := oT.cell (j := 2) rfl; have z3 := oT.cell (j := 3) rfl)); clear k1)) | (go_at_call 25; ((with_reducible refine (C25.out _ KK).mono ?_); rintro e w1 ⟨rfl, k1⟩; replace KK := kept_trans KK k1; replace o0 := o0.kept k1; (try replace oT := oT.kept k1); (try replace r2 := r2.kept k1); (try replace rt2 := rt2.kept k1); clear q0 q1 q2; have q0 := o0.cell (j := 0) rfl; have q1 := o0.cell (j := 1) rfl; have q2 := o0.cell (j := 2) rfl; (try clear z0 z1 z2 z3); (try (have z0 := oT.cell (j := 0) rfl; have z1 := oT.cell (j := 1) rfl; have z2 := oT.cell (j := 2) rfl; have z3 := oT.cell (j := 3) rfl)); clear k1)) | (go_at_call 24; ((with_reducible refine (C24.out _ KK).mono ?_); rintro e w1 ⟨rfl, k1⟩; replace KK := kept_trans KK k1; replace o0 := o0.kept k1; (try replace oT := oT.kept k1); (try replace r2 := r2.kept k1); (try replace rt2 := rt2.kept k1); clear q0 q1 q2; have q0 := o0.cell (j := 0) rfl; have q1 := o0.cell (j := 1) rfl; have q2 := o0.cell (j := 2) rfl; (try clear z0 z1 z2 z3); (try (have z0 := oT.cell (j := 0) rfl; have z1 := oT.cell (j := 1) rfl; have z2 := oT.cell (j := 2) rfl; have z3 := oT.cell (j := 3) rfl)); clear k1)) | (go_at_call 8; ((with_reducible refine (C8.out _ KK).mono ?_); rintro e w1 ⟨rfl, k1⟩; replace KK := kept_trans KK k1; replace o0 := o0.kept k1; (try replace oT := oT.kept k1); (try replace r2 := r2.kept k1); (try replace rt2 := rt2.kept k1); clear q0 q1 q2; have q0 := o0.cell (j := 0) rfl; have q1 := o0.cell (j := 1) rfl; have q2 := o0.cell (j := 2) rfl; (try clear z0 z1 z2 z3); (try (have z0 := oT.cell (j := 0) rfl; have z1 := oT.cell (j := 1) rfl; have z2 := oT.cell (j := 2) rfl; have z3 := oT.cell (j := 3) rfl)); clear k1)))
    have ew := EW.out
    refine region_x (fun w' => Kept w1 w') [] (by kernel_rfl) (kept_drew (kept_refl _)) (fun hHeld => ?_)
    refine x_take (i := 0) (oi := { dst := some 63, op := Op.move (Operand.tmp 6), type := 28, pos := "law.go:124", after := #[], guard := none }) (v := ?_) rfl (by kernel_rfl) (by kernel_rfl) (by kernel_rfl) (by kernel_rfl) (by kernel_rfl) (fun _ _ _ h => h) (Or.inl ⟨rfl, ?_⟩) (by assumption) ?_
    rotate_left
    · (intro w' hSw; replace q0 := kept_cell hSw q0; replace q1 := kept_cell hSw q1; replace q2 := kept_cell hSw q2; replace z0 := kept_cell hSw z0; replace z1 := kept_cell hSw z1; replace z2 := kept_cell hSw z2; replace z3 := kept_cell hSw z3; go_simp; try with_reducible rfl)
    try simp only [Act.put, List.setIfInBounds_toArray, List.set_cons_zero, List.set_cons_succ]
    refine x_take (i := 1) (oi := { dst := some 64, op := Op.binOp BinOp.eql 28 (Operand.tmp 63) (Operand.const (Value.int IntKind.i64 0)) 28, type := 4, pos := "law.go:124", after := #[{ on := 0, ground := Ground.data }], guard := none }) (v := ?_) rfl (by kernel_rfl) (by kernel_rfl) (by kernel_rfl) (by kernel_rfl) (by kernel_rfl) (fun _ _ _ h => h) (Or.inl ⟨rfl, ?_⟩) (by assumption) ?_
    rotate_left
    · (intro w' hSw; replace q0 := kept_cell hSw q0; replace q1 := kept_cell hSw q1; replace q2 := kept_cell hSw q2; replace z0 := kept_cell hSw z0; replace z1 := kept_cell hSw z1; replace z2 := kept_cell hSw z2; replace z3 := kept_cell hSw z3; go_simp; try with_reducible rfl)
    try simp only [Act.put, List.setIfInBounds_toArray, List.set_cons_zero, List.set_cons_succ]
    refine x_take (i := 2) (oi := { dst := some 65, op := Op.move (Operand.tmp 64), type := 4, pos := "law.go:124", after := #[{ on := 1, ground := Ground.data }], guard := none }) (v := ?_) rfl (by kernel_rfl) (by kernel_rfl) (by kernel_rfl) (by kernel_rfl) (by kernel_rfl) (fun _ _ _ h => h) (Or.inl ⟨rfl, ?_⟩) (by assumption) ?_
    rotate_left
    · (intro w' hSw; replace q0 := kept_cell hSw q0; replace q1 := kept_cell hSw q1; replace q2 := kept_cell hSw q2; replace z0 := kept_cell hSw z0; replace z1 := kept_cell hSw z1; replace z2 := kept_cell hSw z2; replace z3 := kept_cell hSw z3; go_simp; try with_reducible rfl)
    try simp only [Act.put, List.setIfInBounds_toArray, List.set_cons_zero, List.set_cons_succ]
    refine x_take (i := 3) (oi := { dst := some 66, op := Op.load 25 (Operand.tmp 5), type := 25, pos := "law.go:124", after := #[{ on := 2, ground := Ground.guard }], guard := some (2, true) }) (v := ?_) rfl (by kernel_rfl) (by kernel_rfl) (by kernel_rfl) (by kernel_rfl) (by kernel_rfl) (fun _ _ _ h => h) (Or.inl ⟨rfl, ?_⟩) (by assumption) ?_
    rotate_left
    · (intro w' hSw; replace q0 := kept_cell hSw q0; replace q1 := kept_cell hSw q1; replace q2 := kept_cell hSw q2; replace z0 := kept_cell hSw z0; replace z1 := kept_cell hSw z1; replace z2 := kept_cell hSw z2; replace z3 := kept_cell hSw z3; go_simp; try with_reducible rfl)
    try simp only [Act.put, List.setIfInBounds_toArray, List.set_cons_zero, List.set_cons_succ]
    refine x_one (i := 4) (o := { dst := some 67, op := Op.call { callee := Callee.value (Operand.func 7), args := #[Operand.tmp 66, Operand.const (Value.int IntKind.i64 10000)], argTypes := #[25, 3] }, type := 4, pos := "law.go:124", after := #[{ on := 3, ground := Ground.data }, { on := 2, ground := Ground.chain }, { on := 2, ground := Ground.guard }], guard := some (2, true) }) (by kernel_rfl) rfl (fun K hK => ?_)
    (go_simp; go_at_call 7; refine (C7.out _ _ _ _ _ _ _ ok.out (r2.kept hHeld) (rt2.kept hHeld)).mono ?_; rintro e w3 ⟨rfl, k3⟩; have KK3 : Kept w1 w3 := kept_trans hHeld k3; try dsimp only)
    refine hK.out _ _ ?_ (fun hHeld => ?_)
    · (try dsimp only); repeat (first | assumption | exact kept_refl _ | refine kept_drew ?_ | refine kept_alloc ?_ _ | refine kept_set ?_ (by omega) _)
    clear hK K
    try simp only [Act.put, List.setIfInBounds_toArray, List.set_cons_zero, List.set_cons_succ]
    refine x_take (i := 5) (oi := { dst := some 68, op := Op.pick (Operand.tmp 65) (Operand.tmp 67) (Operand.const (Value.bool false)), type := 4, pos := "law.go:124", after := #[{ on := 2, ground := Ground.data }, { on := 4, ground := Ground.data }], guard := none }) (v := ?_) rfl (by kernel_rfl) (by kernel_rfl) (by kernel_rfl) (by kernel_rfl) (by kernel_rfl) (fun _ _ _ h => h) (Or.inl ⟨rfl, ?_⟩) (by assumption) ?_
    rotate_left
    · (intro w' hSw; replace q0 := kept_cell hSw q0; replace q1 := kept_cell hSw q1; replace q2 := kept_cell hSw q2; replace z0 := kept_cell hSw z0; replace z1 := kept_cell hSw z1; replace z2 := kept_cell hSw z2; replace z3 := kept_cell hSw z3; go_simp; try with_reducible rfl)
    try simp only [Act.put, List.setIfInBounds_toArray, List.set_cons_zero, List.set_cons_succ]
    refine x_take (i := 6) (oi := { dst := some 69, op := Op.move (Operand.tmp 68), type := 4, pos := "law.go:124", after := #[{ on := 5, ground := Ground.data }, { on := 4, ground := Ground.chain }], guard := none }) (v := ?_) rfl (by kernel_rfl) (by kernel_rfl) (by kernel_rfl) (by kernel_rfl) (by kernel_rfl) (fun _ _ _ h => h) (Or.inl ⟨rfl, ?_⟩) (by assumption) ?_
    rotate_left
    · (intro w' hSw; replace q0 := kept_cell hSw q0; replace q1 := kept_cell hSw q1; replace q2 := kept_cell hSw q2; replace z0 := kept_cell hSw z0; replace z1 := kept_cell hSw z1; replace z2 := kept_cell hSw z2; replace z3 := kept_cell hSw z3; go_simp; try with_reducible rfl)
    try simp only [Act.put, List.setIfInBounds_toArray, List.set_cons_zero, List.set_cons_succ]
    refine x_take (i := 7) (oi := { dst := some 70, op := Op.load 25 (Operand.tmp 5), type := 25, pos := "law.go:124", after := #[{ on := 6, ground := Ground.guard }], guard := some (6, true) }) (v := ?_) rfl (by kernel_rfl) (by kernel_rfl) (by kernel_rfl) (by kernel_rfl) (by kernel_rfl) (fun _ _ _ h => h) (Or.inl ⟨rfl, ?_⟩) (by assumption) ?_
    rotate_left
    · (intro w' hSw; replace q0 := kept_cell hSw q0; replace q1 := kept_cell hSw q1; replace q2 := kept_cell hSw q2; replace z0 := kept_cell hSw z0; replace z1 := kept_cell hSw z1; replace z2 := kept_cell hSw z2; replace z3 := kept_cell hSw z3; go_simp; try with_reducible rfl)
    try simp only [Act.put, List.setIfInBounds_toArray, List.set_cons_zero, List.set_cons_succ]
    refine x_one (i := 8) (o := { dst := some 71, op := Op.call { callee := Callee.value (Operand.func 9), args := #[Operand.tmp 70], argTypes := #[25] }, type := 4, pos := "law.go:124", after := #[{ on := 7, ground := Ground.data }, { on := 6, ground := Ground.chain }, { on := 6, ground := Ground.guard }], guard := some (6, true) }) (by kernel_rfl) rfl (fun K hK => ?_)
    (go_simp; go_at_call 9; refine (C9.out _ _ _ _ _ _ _ ok.out (r2.kept hHeld) (rt2.kept hHeld)).mono ?_; rintro e w4 ⟨rfl, k4⟩; have KK4 : Kept w1 w4 := kept_trans hHeld k4; try dsimp only)
    refine hK.out _ _ ?_ (fun hHeld => ?_)
    · (try dsimp only); repeat (first | assumption | exact kept_refl _ | refine kept_drew ?_ | refine kept_alloc ?_ _ | refine kept_set ?_ (by omega) _)
    clear hK K
    try simp only [Act.put, List.setIfInBounds_toArray, List.set_cons_zero, List.set_cons_succ]
    refine x_take (i := 9) (oi := { dst := some 72, op := Op.pick (Operand.tmp 69) (Operand.tmp 71) (Operand.const (Value.bool false)), type := 4, pos := "law.go:124", after := #[{ on := 6, ground := Ground.data }, { on := 8, ground := Ground.data }], guard := none }) (v := ?_) rfl (by kernel_rfl) (by kernel_rfl) (by kernel_rfl) (by kernel_rfl) (by kernel_rfl) (fun _ _ _ h => h) (Or.inl ⟨rfl, ?_⟩) (by assumption) ?_
    rotate_left
    · (intro w' hSw; replace q0 := kept_cell hSw q0; replace q1 := kept_cell hSw q1; replace q2 := kept_cell hSw q2; replace z0 := kept_cell hSw z0; replace z1 := kept_cell hSw z1; replace z2 := kept_cell hSw z2; replace z3 := kept_cell hSw z3; go_simp; try with_reducible rfl)
    try simp only [Act.put, List.setIfInBounds_toArray, List.set_cons_zero, List.set_cons_succ]
    refine x_take (i := 10) (oi := { dst := some 73, op := Op.move (Operand.tmp 72), type := 4, pos := "law.go:124", after := #[{ on := 9, ground := Ground.data }, { on := 8, ground := Ground.chain }], guard := none }) (v := ?_) rfl (by kernel_rfl) (by kernel_rfl) (by kernel_rfl) (by kernel_rfl) (by kernel_rfl) (fun _ _ _ h => h) (Or.inl ⟨rfl, ?_⟩) (by assumption) ?_
    rotate_left
    · (intro w' hSw; replace q0 := kept_cell hSw q0; replace q1 := kept_cell hSw q1; replace q2 := kept_cell hSw q2; replace z0 := kept_cell hSw z0; replace z1 := kept_cell hSw z1; replace z2 := kept_cell hSw z2; replace z3 := kept_cell hSw z3; go_simp; try with_reducible rfl)
    try simp only [Act.put, List.setIfInBounds_toArray, List.set_cons_zero, List.set_cons_succ]
    refine x_take (i := 11) (oi := { dst := some 74, op := Op.fieldAddr 25 (Operand.tmp 5) 1, type := 0, pos := "law.go:124", after := #[{ on := 10, ground := Ground.guard }], guard := some (10, true) }) (v := ?_) rfl (by kernel_rfl) (by kernel_rfl) (by kernel_rfl) (by kernel_rfl) (by kernel_rfl) (fun _ _ _ h => h) (Or.inl ⟨rfl, ?_⟩) (by assumption) ?_
    rotate_left
    · (intro w' hSw; replace q0 := kept_cell hSw q0; replace q1 := kept_cell hSw q1; replace q2 := kept_cell hSw q2; replace z0 := kept_cell hSw z0; replace z1 := kept_cell hSw z1; replace z2 := kept_cell hSw z2; replace z3 := kept_cell hSw z3; go_simp; try with_reducible rfl)
    try simp only [Act.put, List.setIfInBounds_toArray, List.set_cons_zero, List.set_cons_succ]
    refine x_take (i := 12) (oi := { dst := some 75, op := Op.load 3 (Operand.tmp 74), type := 3, pos := "law.go:124", after := #[{ on := 11, ground := Ground.data }, { on := 10, ground := Ground.guard }], guard := some (10, true) }) (v := ?_) rfl (by kernel_rfl) (by kernel_rfl) (by kernel_rfl) (by kernel_rfl) (by kernel_rfl) (fun _ _ _ h => h) (Or.inl ⟨rfl, ?_⟩) (by assumption) ?_
    rotate_left
    · (intro w' hSw; replace q0 := kept_cell hSw q0; replace q1 := kept_cell hSw q1; replace q2 := kept_cell hSw q2; replace z0 := kept_cell hSw z0; replace z1 := kept_cell hSw z1; replace z2 := kept_cell hSw z2; replace z3 := kept_cell hSw z3; go_simp; try with_reducible rfl)
    try simp only [Act.put, List.setIfInBounds_toArray, List.set_cons_zero, List.set_cons_succ]
    refine x_take (i := 13) (oi := { dst := some 76, op := Op.binOp BinOp.eql 3 (Operand.tmp 75) (Operand.const (Value.int IntKind.i64 1)) 3, type := 4, pos := "law.go:124", after := #[{ on := 12, ground := Ground.data }, { on := 10, ground := Ground.guard }], guard := some (10, true) }) (v := ?_) rfl (by kernel_rfl) (by kernel_rfl) (by kernel_rfl) (by kernel_rfl) (by kernel_rfl) (fun _ _ _ h => h) (Or.inl ⟨rfl, ?_⟩) (by assumption) ?_
    rotate_left
    · (intro w' hSw; replace q0 := kept_cell hSw q0; replace q1 := kept_cell hSw q1; replace q2 := kept_cell hSw q2; replace z0 := kept_cell hSw z0; replace z1 := kept_cell hSw z1; replace z2 := kept_cell hSw z2; replace z3 := kept_cell hSw z3; go_simp; try with_reducible rfl)
    try simp only [Act.put, List.setIfInBounds_toArray, List.set_cons_zero, List.set_cons_succ]
    refine x_take (i := 14) (oi := { dst := some 77, op := Op.pick (Operand.tmp 73) (Operand.tmp 76) (Operand.const (Value.bool false)), type := 4, pos := "law.go:124", after := #[{ on := 10, ground := Ground.data }, { on := 13, ground := Ground.data }], guard := none }) (v := ?_) rfl (by kernel_rfl) (by kernel_rfl) (by kernel_rfl) (by kernel_rfl) (by kernel_rfl) (fun _ _ _ h => h) (Or.inl ⟨rfl, ?_⟩) (by assumption) ?_
    rotate_left
    · (intro w' hSw; replace q0 := kept_cell hSw q0; replace q1 := kept_cell hSw q1; replace q2 := kept_cell hSw q2; replace z0 := kept_cell hSw z0; replace z1 := kept_cell hSw z1; replace z2 := kept_cell hSw z2; replace z3 := kept_cell hSw z3; go_simp; try with_reducible rfl)
    try simp only [Act.put, List.setIfInBounds_toArray, List.set_cons_zero, List.set_cons_succ]
    refine x_take (i := 15) (oi := { dst := some 78, op := Op.move (Operand.tmp 77), type := 4, pos := "law.go:124", after := #[{ on := 14, ground := Ground.data }, { on := 10, ground := Ground.chain }], guard := none }) (v := ?_) rfl (by kernel_rfl) (by kernel_rfl) (by kernel_rfl) (by kernel_rfl) (by kernel_rfl) (fun _ _ _ h => h) (Or.inl ⟨rfl, ?_⟩) (by assumption) ?_
    rotate_left
    · (intro w' hSw; replace q0 := kept_cell hSw q0; replace q1 := kept_cell hSw q1; replace q2 := kept_cell hSw q2; replace z0 := kept_cell hSw z0; replace z1 := kept_cell hSw z1; replace z2 := kept_cell hSw z2; replace z3 := kept_cell hSw z3; go_simp; try with_reducible rfl)
    try simp only [Act.put, List.setIfInBounds_toArray, List.set_cons_zero, List.set_cons_succ]
    refine x_take (i := 16) (oi := { dst := some 79, op := Op.fieldAddr 25 (Operand.tmp 5) 0, type := 0, pos := "law.go:124", after := #[{ on := 15, ground := Ground.guard }], guard := some (15, true) }) (v := ?_) rfl (by kernel_rfl) (by kernel_rfl) (by kernel_rfl) (by kernel_rfl) (by kernel_rfl) (fun _ _ _ h => h) (Or.inl ⟨rfl, ?_⟩) (by assumption) ?_
    rotate_left
    · (intro w' hSw; replace q0 := kept_cell hSw q0; replace q1 := kept_cell hSw q1; replace q2 := kept_cell hSw q2; replace z0 := kept_cell hSw z0; replace z1 := kept_cell hSw z1; replace z2 := kept_cell hSw z2; replace z3 := kept_cell hSw z3; go_simp; try with_reducible rfl)
    try simp only [Act.put, List.setIfInBounds_toArray, List.set_cons_zero, List.set_cons_succ]
    refine x_take (i := 17) (oi := { dst := some 80, op := Op.load 3 (Operand.tmp 79), type := 3, pos := "law.go:124", after := #[{ on := 16, ground := Ground.data }, { on := 15, ground := Ground.guard }], guard := some (15, true) }) (v := ?_) rfl (by kernel_rfl) (by kernel_rfl) (by kernel_rfl) (by kernel_rfl) (by kernel_rfl) (fun _ _ _ h => h) (Or.inl ⟨rfl, ?_⟩) (by assumption) ?_
    rotate_left
    · (intro w' hSw; replace q0 := kept_cell hSw q0; replace q1 := kept_cell hSw q1; replace q2 := kept_cell hSw q2; replace z0 := kept_cell hSw z0; replace z1 := kept_cell hSw z1; replace z2 := kept_cell hSw z2; replace z3 := kept_cell hSw z3; go_simp; try with_reducible rfl)
    try simp only [Act.put, List.setIfInBounds_toArray, List.set_cons_zero, List.set_cons_succ]
    refine x_take (i := 18) (oi := { dst := some 81, op := Op.move (Operand.tmp 7), type := 3, pos := "law.go:124", after := #[{ on := 15, ground := Ground.guard }], guard := some (15, true) }) (v := ?_) rfl (by kernel_rfl) (by kernel_rfl) (by kernel_rfl) (by kernel_rfl) (by kernel_rfl) (fun _ _ _ h => h) (Or.inl ⟨rfl, ?_⟩) (by assumption) ?_
    rotate_left
    · (intro w' hSw; replace q0 := kept_cell hSw q0; replace q1 := kept_cell hSw q1; replace q2 := kept_cell hSw q2; replace z0 := kept_cell hSw z0; replace z1 := kept_cell hSw z1; replace z2 := kept_cell hSw z2; replace z3 := kept_cell hSw z3; go_simp; try with_reducible rfl)
    try simp only [Act.put, List.setIfInBounds_toArray, List.set_cons_zero, List.set_cons_succ]
    refine x_take (i := 19) (oi := { dst := some 82, op := Op.binOp BinOp.sub 3 (Operand.tmp 81) (Operand.const (Value.int IntKind.i64 1)) 3, type := 3, pos := "law.go:124", after := #[{ on := 18, ground := Ground.data }, { on := 15, ground := Ground.guard }], guard := some (15, true) }) (v := ?_) rfl (by kernel_rfl) (by kernel_rfl) (by kernel_rfl) (by kernel_rfl) (by kernel_rfl) (fun _ _ _ h => h) (Or.inl ⟨rfl, ?_⟩) (by assumption) ?_
    rotate_left
    · (intro w' hSw; replace q0 := kept_cell hSw q0; replace q1 := kept_cell hSw q1; replace q2 := kept_cell hSw q2; replace z0 := kept_cell hSw z0; replace z1 := kept_cell hSw z1; replace z2 := kept_cell hSw z2; replace z3 := kept_cell hSw z3; go_simp; try with_reducible rfl)
    try simp only [Act.put, List.setIfInBounds_toArray, List.set_cons_zero, List.set_cons_succ]
    refine x_take (i := 20) (oi := { dst := some 83, op := Op.binOp BinOp.eql 3 (Operand.tmp 80) (Operand.tmp 82) 3, type := 4, pos := "law.go:124", after := #[{ on := 17, ground := Ground.data }, { on := 19, ground := Ground.data }, { on := 15, ground := Ground.guard }], guard := some (15, true) }) (v := ?_) rfl (by kernel_rfl) (by kernel_rfl) (by kernel_rfl) (by kernel_rfl) (by kernel_rfl) (fun _ _ _ h => h) (Or.inl ⟨rfl, ?_⟩) (by assumption) ?_
    rotate_left
    · (intro w' hSw; replace q0 := kept_cell hSw q0; replace q1 := kept_cell hSw q1; replace q2 := kept_cell hSw q2; replace z0 := kept_cell hSw z0; replace z1 := kept_cell hSw z1; replace z2 := kept_cell hSw z2; replace z3 := kept_cell hSw z3; go_simp; try with_reducible rfl)
    try simp only [Act.put, List.setIfInBounds_toArray, List.set_cons_zero, List.set_cons_succ]
    refine x_take (i := 21) (oi := { dst := some 84, op := Op.pick (Operand.tmp 78) (Operand.tmp 83) (Operand.const (Value.bool false)), type := 4, pos := "law.go:124", after := #[{ on := 15, ground := Ground.data }, { on := 20, ground := Ground.data }], guard := none }) (v := ?_) rfl (by kernel_rfl) (by kernel_rfl) (by kernel_rfl) (by kernel_rfl) (by kernel_rfl) (fun _ _ _ h => h) (Or.inl ⟨rfl, ?_⟩) (by assumption) ?_
    rotate_left
    · (intro w' hSw; replace q0 := kept_cell hSw q0; replace q1 := kept_cell hSw q1; replace q2 := kept_cell hSw q2; replace z0 := kept_cell hSw z0; replace z1 := kept_cell hSw z1; replace z2 := kept_cell hSw z2; replace z3 := kept_cell hSw z3; go_simp; try with_reducible rfl)
    try simp only [Act.put, List.setIfInBounds_toArray, List.set_cons_zero, List.set_cons_succ]
    refine x_take (i := 22) (oi := { dst := some 85, op := Op.move (Operand.tmp 84), type := 4, pos := "law.go:124", after := #[{ on := 21, ground := Ground.data }, { on := 15, ground := Ground.chain }], guard := none }) (v := ?_) rfl (by kernel_rfl) (by kernel_rfl) (by kernel_rfl) (by kernel_rfl) (by kernel_rfl) (fun _ _ _ h => h) (Or.inl ⟨rfl, ?_⟩) (by assumption) ?_
    rotate_left
    · (intro w' hSw; replace q0 := kept_cell hSw q0; replace q1 := kept_cell hSw q1; replace q2 := kept_cell hSw q2; replace z0 := kept_cell hSw z0; replace z1 := kept_cell hSw z1; replace z2 := kept_cell hSw z2; replace z3 := kept_cell hSw z3; go_simp; try with_reducible rfl)
    try simp only [Act.put, List.setIfInBounds_toArray, List.set_cons_zero, List.set_cons_succ]
    refine x_take (i := 23) (oi := { dst := some 86, op := Op.load 25 (Operand.tmp 5), type := 25, pos := "law.go:124", after := #[{ on := 22, ground := Ground.guard }], guard := some (22, true) }) (v := ?_) rfl (by kernel_rfl) (by kernel_rfl) (by kernel_rfl) (by kernel_rfl) (by kernel_rfl) (fun _ _ _ h => h) (Or.inl ⟨rfl, ?_⟩) (by assumption) ?_
    rotate_left
    · (intro w' hSw; replace q0 := kept_cell hSw q0; replace q1 := kept_cell hSw q1; replace q2 := kept_cell hSw q2; replace z0 := kept_cell hSw z0; replace z1 := kept_cell hSw z1; replace z2 := kept_cell hSw z2; replace z3 := kept_cell hSw z3; go_simp; try with_reducible rfl)
    try simp only [Act.put, List.setIfInBounds_toArray, List.set_cons_zero, List.set_cons_succ]
    refine x_take (i := 26) (oi := { dst := some 89, op := Op.load 48 (Operand.tmp 2), type := 48, pos := "law.go:124", after := #[{ on := 22, ground := Ground.guard }], guard := some (22, true) }) (v := ?_) rfl (by kernel_rfl) (by kernel_rfl) (by kernel_rfl) (by kernel_rfl) (by kernel_rfl) (fun _ _ _ h => h) (Or.inl ⟨rfl, ?_⟩) (by assumption) ?_
    rotate_left
    · (intro w' hSw; replace q0 := kept_cell hSw q0; replace q1 := kept_cell hSw q1; replace q2 := kept_cell hSw q2; replace z0 := kept_cell hSw z0; replace z1 := kept_cell hSw z1; replace z2 := kept_cell hSw z2; replace z3 := kept_cell hSw z3; go_simp; try with_reducible rfl)
    try simp only [Act.put, List.setIfInBounds_toArray, List.set_cons_zero, List.set_cons_succ]
    refine x_take (i := 27) (oi := { dst := some 90, op := Op.move (Operand.tmp 1), type := 49, pos := "law.go:124", after := #[{ on := 22, ground := Ground.guard }], guard := some (22, true) }) (v := ?_) rfl (by kernel_rfl) (by kernel_rfl) (by kernel_rfl) (by kernel_rfl) (by kernel_rfl) (fun _ _ _ h => h) (Or.inl ⟨rfl, ?_⟩) (by assumption) ?_
    rotate_left
    · (intro w' hSw; replace q0 := kept_cell hSw q0; replace q1 := kept_cell hSw q1; replace q2 := kept_cell hSw q2; replace z0 := kept_cell hSw z0; replace z1 := kept_cell hSw z1; replace z2 := kept_cell hSw z2; replace z3 := kept_cell hSw z3; go_simp; try with_reducible rfl)
    try simp only [Act.put, List.setIfInBounds_toArray, List.set_cons_zero, List.set_cons_succ]
    refine x_one (i := 24) (o := { dst := some 87, op := Op.call { callee := Callee.value (Operand.func 19), args := #[Operand.tmp 86, Operand.const (Value.int IntKind.i64 0)], argTypes := #[25, 3] }, type := 3, pos := "law.go:124", after := #[{ on := 23, ground := Ground.data }, { on := 22, ground := Ground.chain }, { on := 22, ground := Ground.guard }], guard := some (22, true) }) (by kernel_rfl) rfl (fun K hK => ?_)
    (go_simp; go_at_call 19; refine (C19.out _ _ _ _ _ _ _ ok.out (r2.kept hHeld) (rt2.kept hHeld)).mono ?_; rintro e w5 ⟨rfl, k5⟩; have KK5 : Kept w1 w5 := kept_trans hHeld k5; try dsimp only)
    refine hK.out _ _ ?_ (fun hHeld => ?_)
    · (try dsimp only); repeat (first | assumption | exact kept_refl _ | refine kept_drew ?_ | refine kept_alloc ?_ _ | refine kept_set ?_ (by omega) _)
    clear hK K
    try simp only [Act.put, List.setIfInBounds_toArray, List.set_cons_zero, List.set_cons_succ]
    refine x_take (i := 25) (oi := { dst := some 88, op := Op.binOp BinOp.eql 3 (Operand.tmp 87) (Operand.const (Value.int IntKind.i64 1)) 3, type := 4, pos := "law.go:124", after := #[{ on := 24, ground := Ground.data }, { on := 22, ground := Ground.guard }], guard := some (22, true) }) (v := ?_) rfl (by kernel_rfl) (by kernel_rfl) (by kernel_rfl) (by kernel_rfl) (by kernel_rfl) (fun _ _ _ h => h) (Or.inl ⟨rfl, ?_⟩) (by assumption) ?_
    rotate_left
    · (intro w' hSw; replace q0 := kept_cell hSw q0; replace q1 := kept_cell hSw q1; replace q2 := kept_cell hSw q2; replace z0 := kept_cell hSw z0; replace z1 := kept_cell hSw z1; replace z2 := kept_cell hSw z2; replace z3 := kept_cell hSw z3; go_simp; try with_reducible rfl)
    try simp only [Act.put, List.setIfInBounds_toArray, List.set_cons_zero, List.set_cons_succ]
    refine x_one (i := 28) (o := { dst := some 91, op := Op.call { callee := Callee.value (Operand.func 27), args := #[Operand.tmp 89, Operand.tmp 90], argTypes := #[48, 49] }, type := 4, pos := "law.go:124", after := #[{ on := 26, ground := Ground.data }, { on := 27, ground := Ground.data }, { on := 24, ground := Ground.chain }, { on := 22, ground := Ground.guard }], guard := some (22, true) }) (by kernel_rfl) rfl (fun K hK => ?_)
    (go_simp; go_at_call 27; refine (C27.out _ (kept_trans KK hHeld)).mono ?_; rintro e w6 ⟨rfl, k6⟩; have KK6 : Kept w1 w6 := kept_trans hHeld k6; try dsimp only)
    refine hK.out _ _ ?_ (fun hHeld => ?_)
    · (try dsimp only); repeat (first | assumption | exact kept_refl _ | refine kept_drew ?_ | refine kept_alloc ?_ _ | refine kept_set ?_ (by omega) _)
    clear hK K
    try simp only [Act.put, List.setIfInBounds_toArray, List.set_cons_zero, List.set_cons_succ]
    refine x_take (i := 29) (oi := { dst := some 92, op := Op.binOp BinOp.eql 4 (Operand.tmp 88) (Operand.tmp 91) 4, type := 4, pos := "law.go:124", after := #[{ on := 25, ground := Ground.data }, { on := 28, ground := Ground.data }, { on := 22, ground := Ground.guard }], guard := some (22, true) }) (v := ?_) rfl (by kernel_rfl) (by kernel_rfl) (by kernel_rfl) (by kernel_rfl) (by kernel_rfl) (fun _ _ _ h => h) (Or.inl ⟨rfl, ?_⟩) (by assumption) ?_
    rotate_left
    · (intro w' hSw; replace q0 := kept_cell hSw q0; replace q1 := kept_cell hSw q1; replace q2 := kept_cell hSw q2; replace z0 := kept_cell hSw z0; replace z1 := kept_cell hSw z1; replace z2 := kept_cell hSw z2; replace z3 := kept_cell hSw z3; go_simp; try with_reducible rfl)
    try simp only [Act.put, List.setIfInBounds_toArray, List.set_cons_zero, List.set_cons_succ]
    refine x_take (i := 30) (oi := { dst := some 93, op := Op.pick (Operand.tmp 85) (Operand.tmp 92) (Operand.const (Value.bool false)), type := 4, pos := "law.go:124", after := #[{ on := 22, ground := Ground.data }, { on := 29, ground := Ground.data }], guard := none }) (v := ?_) rfl (by kernel_rfl) (by kernel_rfl) (by kernel_rfl) (by kernel_rfl) (by kernel_rfl) (fun _ _ _ h => h) (Or.inl ⟨rfl, ?_⟩) (by assumption) ?_
    rotate_left
    · (intro w' hSw; replace q0 := kept_cell hSw q0; replace q1 := kept_cell hSw q1; replace q2 := kept_cell hSw q2; replace z0 := kept_cell hSw z0; replace z1 := kept_cell hSw z1; replace z2 := kept_cell hSw z2; replace z3 := kept_cell hSw z3; go_simp; try with_reducible rfl)
    try simp only [Act.put, List.setIfInBounds_toArray, List.set_cons_zero, List.set_cons_succ]
    refine x_take (i := 31) (oi := { dst := some 94, op := Op.move (Operand.tmp 93), type := 4, pos := "law.go:124", after := #[{ on := 30, ground := Ground.data }, { on := 28, ground := Ground.chain }], guard := none }) (v := ?_) rfl (by kernel_rfl) (by kernel_rfl) (by kernel_rfl) (by kernel_rfl) (by kernel_rfl) (fun _ _ _ h => h) (Or.inl ⟨rfl, ?_⟩) (by assumption) ?_
    rotate_left
    · (intro w' hSw; replace q0 := kept_cell hSw q0; replace q1 := kept_cell hSw q1; replace q2 := kept_cell hSw q2; replace z0 := kept_cell hSw z0; replace z1 := kept_cell hSw z1; replace z2 := kept_cell hSw z2; replace z3 := kept_cell hSw z3; go_simp; try with_reducible rfl)
    try simp only [Act.put, List.setIfInBounds_toArray, List.set_cons_zero, List.set_cons_succ]
    refine x_one (i := 32) (o := { dst := some 95, op := Op.call { callee := Callee.value (Operand.func 8), args := #[], argTypes := #[] }, type := 4, pos := "law.go:124", after := #[{ on := 31, ground := Ground.chain }, { on := 31, ground := Ground.guard }], guard := some (31, true) }) (by kernel_rfl) rfl (fun K hK => ?_)
    (go_simp; go_at_call 8; refine (C8.out _ (kept_trans KK hHeld)).mono ?_; rintro e w7 ⟨rfl, k7⟩; have KK7 : Kept w1 w7 := kept_trans hHeld k7; try dsimp only)
    refine hK.out _ _ ?_ (fun hHeld => ?_)
    · (try dsimp only); repeat (first | assumption | exact kept_refl _ | refine kept_drew ?_ | refine kept_alloc ?_ _ | refine kept_set ?_ (by omega) _)
    clear hK K
    try simp only [Act.put, List.setIfInBounds_toArray, List.set_cons_zero, List.set_cons_succ]
    refine x_take (i := 33) (oi := { dst := some 96, op := Op.pick (Operand.tmp 94) (Operand.tmp 95) (Operand.const (Value.bool false)), type := 4, pos := "law.go:124", after := #[{ on := 31, ground := Ground.data }, { on := 32, ground := Ground.data }], guard := none }) (v := ?_) rfl (by kernel_rfl) (by kernel_rfl) (by kernel_rfl) (by kernel_rfl) (by kernel_rfl) (fun _ _ _ h => h) (Or.inl ⟨rfl, ?_⟩) (by assumption) ?_
    rotate_left
    · (intro w' hSw; replace q0 := kept_cell hSw q0; replace q1 := kept_cell hSw q1; replace q2 := kept_cell hSw q2; replace z0 := kept_cell hSw z0; replace z1 := kept_cell hSw z1; replace z2 := kept_cell hSw z2; replace z3 := kept_cell hSw z3; go_simp; try with_reducible rfl)
    try simp only [Act.put, List.setIfInBounds_toArray, List.set_cons_zero, List.set_cons_succ]
    refine x_take (i := 34) (oi := { dst := some 4, op := Op.assign (Operand.tmp 96), type := 4, pos := "law.go:124", after := #[{ on := 33, ground := Ground.data }, { on := 32, ground := Ground.chain }, { on := 0, ground := Ground.phase }, { on := 1, ground := Ground.phase }, { on := 2, ground := Ground.phase }, { on := 3, ground := Ground.phase }, { on := 4, ground := Ground.phase }, { on := 5, ground := Ground.phase }, { on := 6, ground := Ground.phase }, { on := 7, ground := Ground.phase }, { on := 8, ground := Ground.phase }, { on := 9, ground := Ground.phase }, { on := 10, ground := Ground.phase }, { on := 11, ground := Ground.phase }, { on := 12, ground := Ground.phase }, { on := 13, ground := Ground.phase }, { on := 14, ground := Ground.phase }, { on := 15, ground := Ground.phase }, { on := 16, ground := Ground.phase }, { on := 17, ground := Ground.phase }, { on := 18, ground := Ground.phase }, { on := 19, ground := Ground.phase }, { on := 20, ground := Ground.phase }, { on := 21, ground := Ground.phase }, { on := 22, ground := Ground.phase }, { on := 23, ground := Ground.phase }, { on := 24, ground := Ground.phase }, { on := 25, ground := Ground.phase }, { on := 26, ground := Ground.phase }, { on := 27, ground := Ground.phase }, { on := 28, ground := Ground.phase }, { on := 29, ground := Ground.phase }, { on := 30, ground := Ground.phase }, { on := 31, ground := Ground.phase }, { on := 32, ground := Ground.phase }, { on := 33, ground := Ground.phase }], guard := none }) (v := ?_) rfl (by kernel_rfl) (by kernel_rfl) (by kernel_rfl) (by kernel_rfl) (by kernel_rfl) (fun _ _ _ h => h) (Or.inl ⟨rfl, ?_⟩) (by assumption) ?_
    rotate_left
    · (intro w' hSw; replace q0 := kept_cell hSw q0; replace q1 := kept_cell hSw q1; replace q2 := kept_cell hSw q2; replace z0 := kept_cell hSw z0; replace z1 := kept_cell hSw z1; replace z2 := kept_cell hSw z2; replace z3 := kept_cell hSw z3; go_simp; try with_reducible rfl)
    try simp only [Act.put, List.setIfInBounds_toArray, List.set_cons_zero, List.set_cons_succ]
    refine x_done (by kernel_rfl) ?_ _
    go_wp2_with fail
    go_ret
    exact ⟨rfl, kept_trans KK KK7⟩
  | true =>
    rw [e1] at C19; clear e1 e2
    go_enter Tryd.func5, Tryd.ntmps5
    go_wp2_with fail
    have o1 := o0.alloc (.cells #[.int .i64 f.k, .int .i64 f.n, .slice A f.l.length c] 48)
    have oS := Own.new (w.alloc (.cells #[.int .i64 f.k, .int .i64 f.n, .slice A f.l.length c] 48)) 48 [.int .i64 f.k, .int .i64 f.n, .slice A f.l.length c]
    simp only [World.size_alloc] at oS
    replace KK := kept_alloc KK (.cells #[.int .i64 f.k, .int .i64 f.n, .slice A f.l.length c] 48)
    clear o0; have o0 := o1; clear o1
    (refine (C22.out _ _ KK oS).mono ?_)
    rintro e w1 ⟨rfl, k1⟩
    clear oS
    replace KK := kept_trans KK k1; replace o0 := o0.kept k1; (try replace oT := oT.kept k1); (try replace r2 := r2.kept k1); (try replace rt2 := rt2.kept k1); clear q0 q1 q2; have q0 := o0.cell (j := 0) rfl; have q1 := o0.cell (j := 1) rfl; have q2 := o0.cell (j := 2) rfl; (try clear z0 z1 z2 z3); (try (have z0 := oT.cell (j := 0) rfl; have z1 := oT.cell (j := 1) rfl; have z2 := oT.cell (j := 2) rfl; have z3 := oT.cell (j := 3) rfl)); clear k1
    go_wp2_with (first | (go_at_call 23; ((with_reducible refine (C23.out _ KK).mono ?_); rintro e w1 ⟨lv, tb, A2, c2, T2, m2, rfl, k1, r2, rt2, ok⟩; replace ok := Lib.hid ok; have oT := Own.new w1 25 [.int .i64 ((D : Int) - 1), .int .i64 1, .slice A2 lv.length c2, .slice T2 tb.length m2]; replace KK := kept_alloc (kept_trans KK k1) (.cells #[.int .i64 ((D : Int) - 1), .int .i64 1, .slice A2 lv.length c2, .slice T2 tb.length m2] 25); replace o0 := (o0.kept k1).alloc (.cells #[.int .i64 ((D : Int) - 1), .int .i64 1, .slice A2 lv.length c2, .slice T2 tb.length m2] 25); (try replace r2 := r2.kept (kept_alloc (kept_refl w1) (.cells #[.int .i64 ((D : Int) - 1), .int .i64 1, .slice A2 lv.length c2, .slice T2 tb.length m2] 25))); (try replace rt2 := rt2.kept (kept_alloc (kept_refl w1) (.cells #[.int .i64 ((D : Int) - 1), .int .i64 1, .slice A2 lv.length c2, .slice T2 tb.length m2] 25))); clear q0 q1 q2; have q0 := o0.cell (j := 0) rfl; have q1 := o0.cell (j := 1) rfl; have q2 := o0.cell (j := 2) rfl; have z0 := oT.cell (j := 0) rfl; have z1 := oT.cell (j := 1) rfl; have z2 := oT.cell (j := 2) rfl; have z3 := oT.cell (j := 3) rfl; clear k1)) | (go_at_call 7; ((with_reducible refine (C7.out _ _ _ _ _ _ _ ok.out r2 rt2).mono ?_); rintro e w1 ⟨rfl, k1⟩; replace KK := kept_trans KK k1; replace o0 := o0.kept k1; (try replace oT := oT.kept k1); (try replace r2 := r2.kept k1); (try replace rt2 := rt2.kept k1); clear q0 q1 q2; have q0 := o0.cell (j := 0) rfl; have q1 := o0.cell (j := 1) rfl; have q2 := o0.cell (j := 2) rfl; (try clear z0 z1 z2 z3); (try (have z0 := oT.cell (j := 0) rfl; have z1 := oT.cell (j := 1) rfl; have z2 := oT.cell (j := 2) rfl; have z3 := oT.cell (j := 3) rfl)); clear k1)) | (go_at_call 9; ((with_reducible refine (C9.out _ _ _ _ _ _ _ ok.out r2 rt2).mono ?_); rintro e w1 ⟨rfl, k1⟩; replace KK := kept_trans KK k1; replace o0 := o0.kept k1; (try replace oT := oT.kept k1); (try replace r2 := r2.kept k1); (try replace rt2 := rt2.kept k1); clear q0 q1 q2; have q0 := o0.cell (j := 0) rfl; have q1 := o0.cell (j := 1) rfl; have q2 := o0.cell (j := 2) rfl; (try clear z0 z1 z2 z3); (try (have z0 := oT.cell (j := 0) rfl; have z1 := oT.cell (j := 1) rfl; have z2 := oT.cell (j := 2) rfl; have z3 := oT.cell (j := 3) rfl)); clear k1)) | (go_at_call 19; ((with_reducible refine (C19.out _ _ _ _ _ _ _ ok.out r2 rt2).mono ?_); rintro e w1 ⟨rfl, k1⟩; replace KK := kept_trans KK k1; replace o0 := o0.kept k1; (try replace oT := oT.kept k1); (try replace r2 := r2.kept k1); (try replace rt2 := rt2.kept k1); clear q0 q1 q2; have q0 := o0.cell (j := 0) rfl; have q1 := o0.cell (j := 1) rfl; have q2 := o0.cell (j := 2) rfl; (try clear z0 z1 z2 z3); (try (have z0 := oT.cell (j := 0) rfl; have z1 := oT.cell (j := 1) rfl; have z2 := oT.cell (j := 2) rfl; have z3 := oT.cell (j := 3) rfl)); clear k1)) | (go_at_call 26; ((with_reducible refine (C26.out _ KK).mono ?_); rintro e w1 ⟨rfl, k1⟩; replace KK := kept_trans KK k1; replace o0 := o0.kept k1; (try replace oT := oT.kept k1); (try replace r2 := r2.kept k1); (try replace rt2 := rt2.kept k1); clear q0 q1 q2; have q0 := o0.cell (j := 0) rfl; have q1 := o0.cell (j := 1) rfl; have q2 := o0.cell (j := 2) rfl; (try clear z0 z1 z2 z3); (try (have z0 := oT.cell (j := 0) rfl; have z1 := oT.cell (j := 1) rfl; have z2 := oT.cell (j := 2) rfl; have z3 := oT.cell (j := 3) rfl)); clear k1)) | (go_at_call 27; ((with_reducible refine (C27.out _ KK).mono ?_); rintro e w1 ⟨rfl, k1⟩; replace KK := kept_trans KK k1; replace o0 := o0.kept k1; (try replace oT := oT.kept k1); (try replace r2 := r2.kept k1); (try replace rt2 := rt2.kept k1); clear q0 q1 q2; have q0 := o0.cell (j := 0) rfl; have q1 := o0.cell (j := 1) rfl; have q2 := o0.cell (j := 2) rfl; (try clear z0 z1 z2 z3); (try (have z0 := oT.cell (j := 0) rfl; have z1 := oT.cell (j := 1) rfl; have z2 := oT.cell (j := 2) rfl; have z3 := oT.cell (j := 3) rfl)); clear k1)) | (go_at_call 25; ((with_reducible refine (C25.out _ KK).mono ?_); rintro e w1 ⟨rfl, k1⟩; replace KK := kept_trans KK k1; replace o0 := o0.kept k1; (try replace oT := oT.kept k1); (try replace r2 := r2.kept k1); (try replace rt2 := rt2.kept k1); clear q0 q1 q2; have q0 := o0.cell (j := 0) rfl; have q1 := o0.cell (j := 1) rfl; have q2 := o0.cell (j := 2) rfl; (try clear z0 z1 z2 z3); (try (have z0 := oT.cell (j := 0) rfl; have z1 := oT.cell (j := 1) rfl; have z2 := oT.cell (j := 2) rfl; have z3 := oT.cell (j := 3) rfl)); clear k1)) | (go_at_call 24; ((with_reducible refine (C24.out _ KK).mono ?_); rintro e w1 ⟨rfl, k1⟩; replace KK := kept_trans KK k1; replace o0 := o0.kept k1; (try replace oT := oT.kept k1); (try replace r2 := r2.kept k1); (try replace rt2 := rt2.kept k1); clear q0 q1 q2; have q0 := o0.cell (j := 0) rfl; have q1 := o0.cell (j := 1) rfl; have q2 := o0.cell (j := 2) rfl; (try clear z0 z1 z2 z3); (try (have z0 := oT.cell (j := 0) rfl; have z1 := oT.cell (j := 1) rfl; have z2 := oT.cell (j := 2) rfl; have z3 := oT.cell (j := 3) rfl)); clear k1)) | (go_at_call 8; ((with_reducible refine (C8.out _ KK).mono ?_); rintro e w1 ⟨rfl, k1⟩; replace KK := kept_trans KK k1; replace o0 := o0.kept k1; (try replace oT := oT.kept k1); (try replace r2 := r2.kept k1); (try replace rt2 := rt2.kept k1); clear q0 q1 q2; have q0 := o0.cell (j := 0) rfl; have q1 := o0.cell (j := 1) rfl; have q2 := o0.cell (j := 2) rfl; (try clear z0 z1 z2 z3); (try (have z0 := oT.cell (j := 0) rfl; have z1 := oT.cell (j := 1) rfl; have z2 := oT.cell (j := 2) rfl; have z3 := oT.cell (j := 3) rfl)); clear k1)))
    have ew := EW.out
    refine region_x (fun w' => Kept w1 w') [] (by kernel_rfl) (kept_drew (kept_refl _)) (fun hHeld => ?_)
    refine x_take (i := 0) (oi := { dst := some 63, op := Op.move (Operand.tmp 6), type := 28, pos := "law.go:124", after := #[], guard := none }) (v := ?_) rfl (by kernel_rfl) (by kernel_rfl) (by kernel_rfl) (by kernel_rfl) (by kernel_rfl) (fun _ _ _ h => h) (Or.inl ⟨rfl, ?_⟩) (by assumption) ?_
    rotate_left
    · (intro w' hSw; replace q0 := kept_cell hSw q0; replace q1 := kept_cell hSw q1; replace q2 := kept_cell hSw q2; replace z0 := kept_cell hSw z0; replace z1 := kept_cell hSw z1; replace z2 := kept_cell hSw z2; replace z3 := kept_cell hSw z3; go_simp; try with_reducible rfl)
    try simp only [Act.put, List.setIfInBounds_toArray, List.set_cons_zero, List.set_cons_succ]
    refine x_take (i := 1) (oi := { dst := some 64, op := Op.binOp BinOp.eql 28 (Operand.tmp 63) (Operand.const (Value.int IntKind.i64 0)) 28, type := 4, pos := "law.go:124", after := #[{ on := 0, ground := Ground.data }], guard := none }) (v := ?_) rfl (by kernel_rfl) (by kernel_rfl) (by kernel_rfl) (by kernel_rfl) (by kernel_rfl) (fun _ _ _ h => h) (Or.inl ⟨rfl, ?_⟩) (by assumption) ?_
    rotate_left
    · (intro w' hSw; replace q0 := kept_cell hSw q0; replace q1 := kept_cell hSw q1; replace q2 := kept_cell hSw q2; replace z0 := kept_cell hSw z0; replace z1 := kept_cell hSw z1; replace z2 := kept_cell hSw z2; replace z3 := kept_cell hSw z3; go_simp; try with_reducible rfl)
    try simp only [Act.put, List.setIfInBounds_toArray, List.set_cons_zero, List.set_cons_succ]
    refine x_take (i := 2) (oi := { dst := some 65, op := Op.move (Operand.tmp 64), type := 4, pos := "law.go:124", after := #[{ on := 1, ground := Ground.data }], guard := none }) (v := ?_) rfl (by kernel_rfl) (by kernel_rfl) (by kernel_rfl) (by kernel_rfl) (by kernel_rfl) (fun _ _ _ h => h) (Or.inl ⟨rfl, ?_⟩) (by assumption) ?_
    rotate_left
    · (intro w' hSw; replace q0 := kept_cell hSw q0; replace q1 := kept_cell hSw q1; replace q2 := kept_cell hSw q2; replace z0 := kept_cell hSw z0; replace z1 := kept_cell hSw z1; replace z2 := kept_cell hSw z2; replace z3 := kept_cell hSw z3; go_simp; try with_reducible rfl)
    try simp only [Act.put, List.setIfInBounds_toArray, List.set_cons_zero, List.set_cons_succ]
    refine x_take (i := 3) (oi := { dst := some 66, op := Op.load 25 (Operand.tmp 5), type := 25, pos := "law.go:124", after := #[{ on := 2, ground := Ground.guard }], guard := some (2, true) }) (v := ?_) rfl (by kernel_rfl) (by kernel_rfl) (by kernel_rfl) (by kernel_rfl) (by kernel_rfl) (fun _ _ _ h => h) (Or.inl ⟨rfl, ?_⟩) (by assumption) ?_
    rotate_left
    · (intro w' hSw; replace q0 := kept_cell hSw q0; replace q1 := kept_cell hSw q1; replace q2 := kept_cell hSw q2; replace z0 := kept_cell hSw z0; replace z1 := kept_cell hSw z1; replace z2 := kept_cell hSw z2; replace z3 := kept_cell hSw z3; go_simp; try with_reducible rfl)
    try simp only [Act.put, List.setIfInBounds_toArray, List.set_cons_zero, List.set_cons_succ]
    refine x_one (i := 4) (o := { dst := some 67, op := Op.call { callee := Callee.value (Operand.func 7), args := #[Operand.tmp 66, Operand.const (Value.int IntKind.i64 10000)], argTypes := #[25, 3] }, type := 4, pos := "law.go:124", after := #[{ on := 3, ground := Ground.data }, { on := 2, ground := Ground.chain }, { on := 2, ground := Ground.guard }], guard := some (2, true) }) (by kernel_rfl) rfl (fun K hK => ?_)
    (go_simp; go_at_call 7; refine (C7.out _ _ _ _ _ _ _ ok.out (r2.kept hHeld) (rt2.kept hHeld)).mono ?_; rintro e w3 ⟨rfl, k3⟩; have KK3 : Kept w1 w3 := kept_trans hHeld k3; try dsimp only)
    refine hK.out _ _ ?_ (fun hHeld => ?_)
    · (try dsimp only); repeat (first | assumption | exact kept_refl _ | refine kept_drew ?_ | refine kept_alloc ?_ _ | refine kept_set ?_ (by omega) _)
    clear hK K
    try simp only [Act.put, List.setIfInBounds_toArray, List.set_cons_zero, List.set_cons_succ]
    refine x_take (i := 5) (oi := { dst := some 68, op := Op.pick (Operand.tmp 65) (Operand.tmp 67) (Operand.const (Value.bool false)), type := 4, pos := "law.go:124", after := #[{ on := 2, ground := Ground.data }, { on := 4, ground := Ground.data }], guard := none }) (v := ?_) rfl (by kernel_rfl) (by kernel_rfl) (by kernel_rfl) (by kernel_rfl) (by kernel_rfl) (fun _ _ _ h => h) (Or.inl ⟨rfl, ?_⟩) (by assumption) ?_
    rotate_left
    · (intro w' hSw; replace q0 := kept_cell hSw q0; replace q1 := kept_cell hSw q1; replace q2 := kept_cell hSw q2; replace z0 := kept_cell hSw z0; replace z1 := kept_cell hSw z1; replace z2 := kept_cell hSw z2; replace z3 := kept_cell hSw z3; go_simp; try with_reducible rfl)
    try simp only [Act.put, List.setIfInBounds_toArray, List.set_cons_zero, List.set_cons_succ]
    refine x_take (i := 6) (oi := { dst := some 69, op := Op.move (Operand.tmp 68), type := 4, pos := "law.go:124", after := #[{ on := 5, ground := Ground.data }, { on := 4, ground := Ground.chain }], guard := none }) (v := ?_) rfl (by kernel_rfl) (by kernel_rfl) (by kernel_rfl) (by kernel_rfl) (by kernel_rfl) (fun _ _ _ h => h) (Or.inl ⟨rfl, ?_⟩) (by assumption) ?_
    rotate_left
    · (intro w' hSw; replace q0 := kept_cell hSw q0; replace q1 := kept_cell hSw q1; replace q2 := kept_cell hSw q2; replace z0 := kept_cell hSw z0; replace z1 := kept_cell hSw z1; replace z2 := kept_cell hSw z2; replace z3 := kept_cell hSw z3; go_simp; try with_reducible rfl)
    try simp only [Act.put, List.setIfInBounds_toArray, List.set_cons_zero, List.set_cons_succ]
    refine x_take (i := 7) (oi := { dst := some 70, op := Op.load 25 (Operand.tmp 5), type := 25, pos := "law.go:124", after := #[{ on := 6, ground := Ground.guard }], guard := some (6, true) }) (v := ?_) rfl (by kernel_rfl) (by kernel_rfl) (by kernel_rfl) (by kernel_rfl) (by kernel_rfl) (fun _ _ _ h => h) (Or.inl ⟨rfl, ?_⟩) (by assumption) ?_
    rotate_left
    · (intro w' hSw; replace q0 := kept_cell hSw q0; replace q1 := kept_cell hSw q1; replace q2 := kept_cell hSw q2; replace z0 := kept_cell hSw z0; replace z1 := kept_cell hSw z1; replace z2 := kept_cell hSw z2; replace z3 := kept_cell hSw z3; go_simp; try with_reducible rfl)
    try simp only [Act.put, List.setIfInBounds_toArray, List.set_cons_zero, List.set_cons_succ]
    refine x_one (i := 8) (o := { dst := some 71, op := Op.call { callee := Callee.value (Operand.func 9), args := #[Operand.tmp 70], argTypes := #[25] }, type := 4, pos := "law.go:124", after := #[{ on := 7, ground := Ground.data }, { on := 6, ground := Ground.chain }, { on := 6, ground := Ground.guard }], guard := some (6, true) }) (by kernel_rfl) rfl (fun K hK => ?_)
    (go_simp; go_at_call 9; refine (C9.out _ _ _ _ _ _ _ ok.out (r2.kept hHeld) (rt2.kept hHeld)).mono ?_; rintro e w4 ⟨rfl, k4⟩; have KK4 : Kept w1 w4 := kept_trans hHeld k4; try dsimp only)
    refine hK.out _ _ ?_ (fun hHeld => ?_)
    · (try dsimp only); repeat (first | assumption | exact kept_refl _ | refine kept_drew ?_ | refine kept_alloc ?_ _ | refine kept_set ?_ (by omega) _)
    clear hK K
    try simp only [Act.put, List.setIfInBounds_toArray, List.set_cons_zero, List.set_cons_succ]
    refine x_take (i := 9) (oi := { dst := some 72, op := Op.pick (Operand.tmp 69) (Operand.tmp 71) (Operand.const (Value.bool false)), type := 4, pos := "law.go:124", after := #[{ on := 6, ground := Ground.data }, { on := 8, ground := Ground.data }], guard := none }) (v := ?_) rfl (by kernel_rfl) (by kernel_rfl) (by kernel_rfl) (by kernel_rfl) (by kernel_rfl) (fun _ _ _ h => h) (Or.inl ⟨rfl, ?_⟩) (by assumption) ?_
    rotate_left
    · (intro w' hSw; replace q0 := kept_cell hSw q0; replace q1 := kept_cell hSw q1; replace q2 := kept_cell hSw q2; replace z0 := kept_cell hSw z0; replace z1 := kept_cell hSw z1; replace z2 := kept_cell hSw z2; replace z3 := kept_cell hSw z3; go_simp; try with_reducible rfl)
    try simp only [Act.put, List.setIfInBounds_toArray, List.set_cons_zero, List.set_cons_succ]
    refine x_take (i := 10) (oi := { dst := some 73, op := Op.move (Operand.tmp 72), type := 4, pos := "law.go:124", after := #[{ on := 9, ground := Ground.data }, { on := 8, ground := Ground.chain }], guard := none }) (v := ?_) rfl (by kernel_rfl) (by kernel_rfl) (by kernel_rfl) (by kernel_rfl) (by kernel_rfl) (fun _ _ _ h => h) (Or.inl ⟨rfl, ?_⟩) (by assumption) ?_
    rotate_left
    · (intro w' hSw; replace q0 := kept_cell hSw q0; replace q1 := kept_cell hSw q1; replace q2 := kept_cell hSw q2; replace z0 := kept_cell hSw z0; replace z1 := kept_cell hSw z1; replace z2 := kept_cell hSw z2; replace z3 := kept_cell hSw z3; go_simp; try with_reducible rfl)
    try simp only [Act.put, List.setIfInBounds_toArray, List.set_cons_zero, List.set_cons_succ]
    refine x_take (i := 11) (oi := { dst := some 74, op := Op.fieldAddr 25 (Operand.tmp 5) 1, type := 0, pos := "law.go:124", after := #[{ on := 10, ground := Ground.guard }], guard := some (10, true) }) (v := ?_) rfl (by kernel_rfl) (by kernel_rfl) (by kernel_rfl) (by kernel_rfl) (by kernel_rfl) (fun _ _ _ h => h) (Or.inl ⟨rfl, ?_⟩) (by assumption) ?_
    rotate_left
    · (intro w' hSw; replace q0 := kept_cell hSw q0; replace q1 := kept_cell hSw q1; replace q2 := kept_cell hSw q2; replace z0 := kept_cell hSw z0; replace z1 := kept_cell hSw z1; replace z2 := kept_cell hSw z2; replace z3 := kept_cell hSw z3; go_simp; try with_reducible rfl)
    try simp only [Act.put, List.setIfInBounds_toArray, List.set_cons_zero, List.set_cons_succ]
    refine x_take (i := 12) (oi := { dst := some 75, op := Op.load 3 (Operand.tmp 74), type := 3, pos := "law.go:124", after := #[{ on := 11, ground := Ground.data }, { on := 10, ground := Ground.guard }], guard := some (10, true) }) (v := ?_) rfl (by kernel_rfl) (by kernel_rfl) (by kernel_rfl) (by kernel_rfl) (by kernel_rfl) (fun _ _ _ h => h) (Or.inl ⟨rfl, ?_⟩) (by assumption) ?_
    rotate_left
    · (intro w' hSw; replace q0 := kept_cell hSw q0; replace q1 := kept_cell hSw q1; replace q2 := kept_cell hSw q2; replace z0 := kept_cell hSw z0; replace z1 := kept_cell hSw z1; replace z2 := kept_cell hSw z2; replace z3 := kept_cell hSw z3; go_simp; try with_reducible rfl)
    try simp only [Act.put, List.setIfInBounds_toArray, List.set_cons_zero, List.set_cons_succ]
    refine x_take (i := 13) (oi := { dst := some 76, op := Op.binOp BinOp.eql 3 (Operand.tmp 75) (Operand.const (Value.int IntKind.i64 1)) 3, type := 4, pos := "law.go:124", after := #[{ on := 12, ground := Ground.data }, { on := 10, ground := Ground.guard }], guard := some (10, true) }) (v := ?_) rfl (by kernel_rfl) (by kernel_rfl) (by kernel_rfl) (by kernel_rfl) (by kernel_rfl) (fun _ _ _ h => h) (Or.inl ⟨rfl, ?_⟩) (by assumption) ?_
    rotate_left
    · (intro w' hSw; replace q0 := kept_cell hSw q0; replace q1 := kept_cell hSw q1; replace q2 := kept_cell hSw q2; replace z0 := kept_cell hSw z0; replace z1 := kept_cell hSw z1; replace z2 := kept_cell hSw z2; replace z3 := kept_cell hSw z3; go_simp; try with_reducible rfl)
    try simp only [Act.put, List.setIfInBounds_toArray, List.set_cons_zero, List.set_cons_succ]
    refine x_take (i := 14) (oi := { dst := some 77, op := Op.pick (Operand.tmp 73) (Operand.tmp 76) (Operand.const (Value.bool false)), type := 4, pos := "law.go:124", after := #[{ on := 10, ground := Ground.data }, { on := 13, ground := Ground.data }], guard := none }) (v := ?_) rfl (by kernel_rfl) (by kernel_rfl) (by kernel_rfl) (by kernel_rfl) (by kernel_rfl) (fun _ _ _ h => h) (Or.inl ⟨rfl, ?_⟩) (by assumption) ?_
    rotate_left
    · (intro w' hSw; replace q0 := kept_cell hSw q0; replace q1 := kept_cell hSw q1; replace q2 := kept_cell hSw q2; replace z0 := kept_cell hSw z0; replace z1 := kept_cell hSw z1; replace z2 := kept_cell hSw z2; replace z3 := kept_cell hSw z3; go_simp; try with_reducible rfl)
    try simp only [Act.put, List.setIfInBounds_toArray, List.set_cons_zero, List.set_cons_succ]
    refine x_take (i := 15) (oi := { dst := some 78, op := Op.move (Operand.tmp 77), type := 4, pos := "law.go:124", after := #[{ on := 14, ground := Ground.data }, { on := 10, ground := Ground.chain }], guard := none }) (v := ?_) rfl (by kernel_rfl) (by kernel_rfl) (by kernel_rfl) (by kernel_rfl) (by kernel_rfl) (fun _ _ _ h => h) (Or.inl ⟨rfl, ?_⟩) (by assumption) ?_
    rotate_left
    · (intro w' hSw; replace q0 := kept_cell hSw q0; replace q1 := kept_cell hSw q1; replace q2 := kept_cell hSw q2; replace z0 := kept_cell hSw z0; replace z1 := kept_cell hSw z1; replace z2 := kept_cell hSw z2; replace z3 := kept_cell hSw z3; go_simp; try with_reducible rfl)
    try simp only [Act.put, List.setIfInBounds_toArray, List.set_cons_zero, List.set_cons_succ]
    refine x_take (i := 16) (oi := { dst := some 79, op := Op.fieldAddr 25 (Operand.tmp 5) 0, type := 0, pos := "law.go:124", after := #[{ on := 15, ground := Ground.guard }], guard := some (15, true) }) (v := ?_) rfl (by kernel_rfl) (by kernel_rfl) (by kernel_rfl) (by kernel_rfl) (by kernel_rfl) (fun _ _ _ h => h) (Or.inl ⟨rfl, ?_⟩) (by assumption) ?_
    rotate_left
    · (intro w' hSw; replace q0 := kept_cell hSw q0; replace q1 := kept_cell hSw q1; replace q2 := kept_cell hSw q2; replace z0 := kept_cell hSw z0; replace z1 := kept_cell hSw z1; replace z2 := kept_cell hSw z2; replace z3 := kept_cell hSw z3; go_simp; try with_reducible rfl)
    try simp only [Act.put, List.setIfInBounds_toArray, List.set_cons_zero, List.set_cons_succ]
    refine x_take (i := 17) (oi := { dst := some 80, op := Op.load 3 (Operand.tmp 79), type := 3, pos := "law.go:124", after := #[{ on := 16, ground := Ground.data }, { on := 15, ground := Ground.guard }], guard := some (15, true) }) (v := ?_) rfl (by kernel_rfl) (by kernel_rfl) (by kernel_rfl) (by kernel_rfl) (by kernel_rfl) (fun _ _ _ h => h) (Or.inl ⟨rfl, ?_⟩) (by assumption) ?_
    rotate_left
    · (intro w' hSw; replace q0 := kept_cell hSw q0; replace q1 := kept_cell hSw q1; replace q2 := kept_cell hSw q2; replace z0 := kept_cell hSw z0; replace z1 := kept_cell hSw z1; replace z2 := kept_cell hSw z2; replace z3 := kept_cell hSw z3; go_simp; try with_reducible rfl)
    try simp only [Act.put, List.setIfInBounds_toArray, List.set_cons_zero, List.set_cons_succ]
    refine x_take (i := 18) (oi := { dst := some 81, op := Op.move (Operand.tmp 7), type := 3, pos := "law.go:124", after := #[{ on := 15, ground := Ground.guard }], guard := some (15, true) }) (v := ?_) rfl (by kernel_rfl) (by kernel_rfl) (by kernel_rfl) (by kernel_rfl) (by kernel_rfl) (fun _ _ _ h => h) (Or.inl ⟨rfl, ?_⟩) (by assumption) ?_
    rotate_left
    · (intro w' hSw; replace q0 := kept_cell hSw q0; replace q1 := kept_cell hSw q1; replace q2 := kept_cell hSw q2; replace z0 := kept_cell hSw z0; replace z1 := kept_cell hSw z1; replace z2 := kept_cell hSw z2; replace z3 := kept_cell hSw z3; go_simp; try with_reducible rfl)
    try simp only [Act.put, List.setIfInBounds_toArray, List.set_cons_zero, List.set_cons_succ]
    refine x_take (i := 19) (oi := { dst := some 82, op := Op.binOp BinOp.sub 3 (Operand.tmp 81) (Operand.const (Value.int IntKind.i64 1)) 3, type := 3, pos := "law.go:124", after := #[{ on := 18, ground := Ground.data }, { on := 15, ground := Ground.guard }], guard := some (15, true) }) (v := ?_) rfl (by kernel_rfl) (by kernel_rfl) (by kernel_rfl) (by kernel_rfl) (by kernel_rfl) (fun _ _ _ h => h) (Or.inl ⟨rfl, ?_⟩) (by assumption) ?_
    rotate_left
    · (intro w' hSw; replace q0 := kept_cell hSw q0; replace q1 := kept_cell hSw q1; replace q2 := kept_cell hSw q2; replace z0 := kept_cell hSw z0; replace z1 := kept_cell hSw z1; replace z2 := kept_cell hSw z2; replace z3 := kept_cell hSw z3; go_simp; try with_reducible rfl)
    try simp only [Act.put, List.setIfInBounds_toArray, List.set_cons_zero, List.set_cons_succ]
    refine x_take (i := 20) (oi := { dst := some 83, op := Op.binOp BinOp.eql 3 (Operand.tmp 80) (Operand.tmp 82) 3, type := 4, pos := "law.go:124", after := #[{ on := 17, ground := Ground.data }, { on := 19, ground := Ground.data }, { on := 15, ground := Ground.guard }], guard := some (15, true) }) (v := ?_) rfl (by kernel_rfl) (by kernel_rfl) (by kernel_rfl) (by kernel_rfl) (by kernel_rfl) (fun _ _ _ h => h) (Or.inl ⟨rfl, ?_⟩) (by assumption) ?_
    rotate_left
    · (intro w' hSw; replace q0 := kept_cell hSw q0; replace q1 := kept_cell hSw q1; replace q2 := kept_cell hSw q2; replace z0 := kept_cell hSw z0; replace z1 := kept_cell hSw z1; replace z2 := kept_cell hSw z2; replace z3 := kept_cell hSw z3; go_simp; try with_reducible rfl)
    try simp only [Act.put, List.setIfInBounds_toArray, List.set_cons_zero, List.set_cons_succ]
    refine x_take (i := 21) (oi := { dst := some 84, op := Op.pick (Operand.tmp 78) (Operand.tmp 83) (Operand.const (Value.bool false)), type := 4, pos := "law.go:124", after := #[{ on := 15, ground := Ground.data }, { on := 20, ground := Ground.data }], guard := none }) (v := ?_) rfl (by kernel_rfl) (by kernel_rfl) (by kernel_rfl) (by kernel_rfl) (by kernel_rfl) (fun _ _ _ h => h) (Or.inl ⟨rfl, ?_⟩) (by assumption) ?_
    rotate_left
    · (intro w' hSw; replace q0 := kept_cell hSw q0; replace q1 := kept_cell hSw q1; replace q2 := kept_cell hSw q2; replace z0 := kept_cell hSw z0; replace z1 := kept_cell hSw z1; replace z2 := kept_cell hSw z2; replace z3 := kept_cell hSw z3; go_simp; try with_reducible rfl)
    try simp only [Act.put, List.setIfInBounds_toArray, List.set_cons_zero, List.set_cons_succ]
    refine x_take (i := 22) (oi := { dst := some 85, op := Op.move (Operand.tmp 84), type := 4, pos := "law.go:124", after := #[{ on := 21, ground := Ground.data }, { on := 15, ground := Ground.chain }], guard := none }) (v := ?_) rfl (by kernel_rfl) (by kernel_rfl) (by kernel_rfl) (by kernel_rfl) (by kernel_rfl) (fun _ _ _ h => h) (Or.inl ⟨rfl, ?_⟩) (by assumption) ?_
    rotate_left
    · (intro w' hSw; replace q0 := kept_cell hSw q0; replace q1 := kept_cell hSw q1; replace q2 := kept_cell hSw q2; replace z0 := kept_cell hSw z0; replace z1 := kept_cell hSw z1; replace z2 := kept_cell hSw z2; replace z3 := kept_cell hSw z3; go_simp; try with_reducible rfl)
    try simp only [Act.put, List.setIfInBounds_toArray, List.set_cons_zero, List.set_cons_succ]
    refine x_take (i := 23) (oi := { dst := some 86, op := Op.load 25 (Operand.tmp 5), type := 25, pos := "law.go:124", after := #[{ on := 22, ground := Ground.guard }], guard := some (22, true) }) (v := ?_) rfl (by kernel_rfl) (by kernel_rfl) (by kernel_rfl) (by kernel_rfl) (by kernel_rfl) (fun _ _ _ h => h) (Or.inl ⟨rfl, ?_⟩) (by assumption) ?_
    rotate_left
    · (intro w' hSw; replace q0 := kept_cell hSw q0; replace q1 := kept_cell hSw q1; replace q2 := kept_cell hSw q2; replace z0 := kept_cell hSw z0; replace z1 := kept_cell hSw z1; replace z2 := kept_cell hSw z2; replace z3 := kept_cell hSw z3; go_simp; try with_reducible rfl)
    try simp only [Act.put, List.setIfInBounds_toArray, List.set_cons_zero, List.set_cons_succ]
    refine x_take (i := 26) (oi := { dst := some 89, op := Op.load 48 (Operand.tmp 2), type := 48, pos := "law.go:124", after := #[{ on := 22, ground := Ground.guard }], guard := some (22, true) }) (v := ?_) rfl (by kernel_rfl) (by kernel_rfl) (by kernel_rfl) (by kernel_rfl) (by kernel_rfl) (fun _ _ _ h => h) (Or.inl ⟨rfl, ?_⟩) (by assumption) ?_
    rotate_left
    · (intro w' hSw; replace q0 := kept_cell hSw q0; replace q1 := kept_cell hSw q1; replace q2 := kept_cell hSw q2; replace z0 := kept_cell hSw z0; replace z1 := kept_cell hSw z1; replace z2 := kept_cell hSw z2; replace z3 := kept_cell hSw z3; go_simp; try with_reducible rfl)
    try simp only [Act.put, List.setIfInBounds_toArray, List.set_cons_zero, List.set_cons_succ]
    refine x_take (i := 27) (oi := { dst := some 90, op := Op.move (Operand.tmp 1), type := 49, pos := "law.go:124", after := #[{ on := 22, ground := Ground.guard }], guard := some (22, true) }) (v := ?_) rfl (by kernel_rfl) (by kernel_rfl) (by kernel_rfl) (by kernel_rfl) (by kernel_rfl) (fun _ _ _ h => h) (Or.inl ⟨rfl, ?_⟩) (by assumption) ?_
    rotate_left
    · (intro w' hSw; replace q0 := kept_cell hSw q0; replace q1 := kept_cell hSw q1; replace q2 := kept_cell hSw q2; replace z0 := kept_cell hSw z0; replace z1 := kept_cell hSw z1; replace z2 := kept_cell hSw z2; replace z3 := kept_cell hSw z3; go_simp; try with_reducible rfl)
    try simp only [Act.put, List.setIfInBounds_toArray, List.set_cons_zero, List.set_cons_succ]
    refine x_one (i := 24) (o := { dst := some 87, op := Op.call { callee := Callee.value (Operand.func 19), args := #[Operand.tmp 86, Operand.const (Value.int IntKind.i64 0)], argTypes := #[25, 3] }, type := 3, pos := "law.go:124", after := #[{ on := 23, ground := Ground.data }, { on := 22, ground := Ground.chain }, { on := 22, ground := Ground.guard }], guard := some (22, true) }) (by kernel_rfl) rfl (fun K hK => ?_)
    (go_simp; go_at_call 19; refine (C19.out _ _ _ _ _ _ _ ok.out (r2.kept hHeld) (rt2.kept hHeld)).mono ?_; rintro e w5 ⟨rfl, k5⟩; have KK5 : Kept w1 w5 := kept_trans hHeld k5; try dsimp only)
    refine hK.out _ _ ?_ (fun hHeld => ?_)
    · (try dsimp only); repeat (first | assumption | exact kept_refl _ | refine kept_drew ?_ | refine kept_alloc ?_ _ | refine kept_set ?_ (by omega) _)
    clear hK K
    try simp only [Act.put, List.setIfInBounds_toArray, List.set_cons_zero, List.set_cons_succ]
    refine x_take (i := 25) (oi := { dst := some 88, op := Op.binOp BinOp.eql 3 (Operand.tmp 87) (Operand.const (Value.int IntKind.i64 1)) 3, type := 4, pos := "law.go:124", after := #[{ on := 24, ground := Ground.data }, { on := 22, ground := Ground.guard }], guard := some (22, true) }) (v := ?_) rfl (by kernel_rfl) (by kernel_rfl) (by kernel_rfl) (by kernel_rfl) (by kernel_rfl) (fun _ _ _ h => h) (Or.inl ⟨rfl, ?_⟩) (by assumption) ?_
    rotate_left
    · (intro w' hSw; replace q0 := kept_cell hSw q0; replace q1 := kept_cell hSw q1; replace q2 := kept_cell hSw q2; replace z0 := kept_cell hSw z0; replace z1 := kept_cell hSw z1; replace z2 := kept_cell hSw z2; replace z3 := kept_cell hSw z3; go_simp; try with_reducible rfl)
    try simp only [Act.put, List.setIfInBounds_toArray, List.set_cons_zero, List.set_cons_succ]
    refine x_one (i := 28) (o := { dst := some 91, op := Op.call { callee := Callee.value (Operand.func 27), args := #[Operand.tmp 89, Operand.tmp 90], argTypes := #[48, 49] }, type := 4, pos := "law.go:124", after := #[{ on := 26, ground := Ground.data }, { on := 27, ground := Ground.data }, { on := 24, ground := Ground.chain }, { on := 22, ground := Ground.guard }], guard := some (22, true) }) (by kernel_rfl) rfl (fun K hK => ?_)
    (go_simp; go_at_call 27; refine (C27.out _ (kept_trans KK hHeld)).mono ?_; rintro e w6 ⟨rfl, k6⟩; have KK6 : Kept w1 w6 := kept_trans hHeld k6; try dsimp only)
    refine hK.out _ _ ?_ (fun hHeld => ?_)
    · (try dsimp only); repeat (first | assumption | exact kept_refl _ | refine kept_drew ?_ | refine kept_alloc ?_ _ | refine kept_set ?_ (by omega) _)
    clear hK K
    try simp only [Act.put, List.setIfInBounds_toArray, List.set_cons_zero, List.set_cons_succ]
    refine x_take (i := 29) (oi := { dst := some 92, op := Op.binOp BinOp.eql 4 (Operand.tmp 88) (Operand.tmp 91) 4, type := 4, pos := "law.go:124", after := #[{ on := 25, ground := Ground.data }, { on := 28, ground := Ground.data }, { on := 22, ground := Ground.guard }], guard := some (22, true) }) (v := ?_) rfl (by kernel_rfl) (by kernel_rfl) (by kernel_rfl) (by kernel_rfl) (by kernel_rfl) (fun _ _ _ h => h) (Or.inl ⟨rfl, ?_⟩) (by assumption) ?_
    rotate_left
    · (intro w' hSw; replace q0 := kept_cell hSw q0; replace q1 := kept_cell hSw q1; replace q2 := kept_cell hSw q2; replace z0 := kept_cell hSw z0; replace z1 := kept_cell hSw z1; replace z2 := kept_cell hSw z2; replace z3 := kept_cell hSw z3; go_simp; try with_reducible rfl)
    try simp only [Act.put, List.setIfInBounds_toArray, List.set_cons_zero, List.set_cons_succ]
    refine x_take (i := 30) (oi := { dst := some 93, op := Op.pick (Operand.tmp 85) (Operand.tmp 92) (Operand.const (Value.bool false)), type := 4, pos := "law.go:124", after := #[{ on := 22, ground := Ground.data }, { on := 29, ground := Ground.data }], guard := none }) (v := ?_) rfl (by kernel_rfl) (by kernel_rfl) (by kernel_rfl) (by kernel_rfl) (by kernel_rfl) (fun _ _ _ h => h) (Or.inl ⟨rfl, ?_⟩) (by assumption) ?_
    rotate_left
    · (intro w' hSw; replace q0 := kept_cell hSw q0; replace q1 := kept_cell hSw q1; replace q2 := kept_cell hSw q2; replace z0 := kept_cell hSw z0; replace z1 := kept_cell hSw z1; replace z2 := kept_cell hSw z2; replace z3 := kept_cell hSw z3; go_simp; try with_reducible rfl)
    try simp only [Act.put, List.setIfInBounds_toArray, List.set_cons_zero, List.set_cons_succ]
    refine x_take (i := 31) (oi := { dst := some 94, op := Op.move (Operand.tmp 93), type := 4, pos := "law.go:124", after := #[{ on := 30, ground := Ground.data }, { on := 28, ground := Ground.chain }], guard := none }) (v := ?_) rfl (by kernel_rfl) (by kernel_rfl) (by kernel_rfl) (by kernel_rfl) (by kernel_rfl) (fun _ _ _ h => h) (Or.inl ⟨rfl, ?_⟩) (by assumption) ?_
    rotate_left
    · (intro w' hSw; replace q0 := kept_cell hSw q0; replace q1 := kept_cell hSw q1; replace q2 := kept_cell hSw q2; replace z0 := kept_cell hSw z0; replace z1 := kept_cell hSw z1; replace z2 := kept_cell hSw z2; replace z3 := kept_cell hSw z3; go_simp; try with_reducible rfl)
    try simp only [Act.put, List.setIfInBounds_toArray, List.set_cons_zero, List.set_cons_succ]
    refine x_one (i := 32) (o := { dst := some 95, op := Op.call { callee := Callee.value (Operand.func 8), args := #[], argTypes := #[] }, type := 4, pos := "law.go:124", after := #[{ on := 31, ground := Ground.chain }, { on := 31, ground := Ground.guard }], guard := some (31, true) }) (by kernel_rfl) rfl (fun K hK => ?_)
    (go_simp; go_at_call 8; refine (C8.out _ (kept_trans KK hHeld)).mono ?_; rintro e w7 ⟨rfl, k7⟩; have KK7 : Kept w1 w7 := kept_trans hHeld k7; try dsimp only)
    refine hK.out _ _ ?_ (fun hHeld => ?_)
    · (try dsimp only); repeat (first | assumption | exact kept_refl _ | refine kept_drew ?_ | refine kept_alloc ?_ _ | refine kept_set ?_ (by omega) _)
    clear hK K
    try simp only [Act.put, List.setIfInBounds_toArray, List.set_cons_zero, List.set_cons_succ]
    refine x_take (i := 33) (oi := { dst := some 96, op := Op.pick (Operand.tmp 94) (Operand.tmp 95) (Operand.const (Value.bool false)), type := 4, pos := "law.go:124", after := #[{ on := 31, ground := Ground.data }, { on := 32, ground := Ground.data }], guard := none }) (v := ?_) rfl (by kernel_rfl) (by kernel_rfl) (by kernel_rfl) (by kernel_rfl) (by kernel_rfl) (fun _ _ _ h => h) (Or.inl ⟨rfl, ?_⟩) (by assumption) ?_
    rotate_left
    · (intro w' hSw; replace q0 := kept_cell hSw q0; replace q1 := kept_cell hSw q1; replace q2 := kept_cell hSw q2; replace z0 := kept_cell hSw z0; replace z1 := kept_cell hSw z1; replace z2 := kept_cell hSw z2; replace z3 := kept_cell hSw z3; go_simp; try with_reducible rfl)
    try simp only [Act.put, List.setIfInBounds_toArray, List.set_cons_zero, List.set_cons_succ]
    refine x_take (i := 34) (oi := { dst := some 4, op := Op.assign (Operand.tmp 96), type := 4, pos := "law.go:124", after := #[{ on := 33, ground := Ground.data }, { on := 32, ground := Ground.chain }, { on := 0, ground := Ground.phase }, { on := 1, ground := Ground.phase }, { on := 2, ground := Ground.phase }, { on := 3, ground := Ground.phase }, { on := 4, ground := Ground.phase }, { on := 5, ground := Ground.phase }, { on := 6, ground := Ground.phase }, { on := 7, ground := Ground.phase }, { on := 8, ground := Ground.phase }, { on := 9, ground := Ground.phase }, { on := 10, ground := Ground.phase }, { on := 11, ground := Ground.phase }, { on := 12, ground := Ground.phase }, { on := 13, ground := Ground.phase }, { on := 14, ground := Ground.phase }, { on := 15, ground := Ground.phase }, { on := 16, ground := Ground.phase }, { on := 17, ground := Ground.phase }, { on := 18, ground := Ground.phase }, { on := 19, ground := Ground.phase }, { on := 20, ground := Ground.phase }, { on := 21, ground := Ground.phase }, { on := 22, ground := Ground.phase }, { on := 23, ground := Ground.phase }, { on := 24, ground := Ground.phase }, { on := 25, ground := Ground.phase }, { on := 26, ground := Ground.phase }, { on := 27, ground := Ground.phase }, { on := 28, ground := Ground.phase }, { on := 29, ground := Ground.phase }, { on := 30, ground := Ground.phase }, { on := 31, ground := Ground.phase }, { on := 32, ground := Ground.phase }, { on := 33, ground := Ground.phase }], guard := none }) (v := ?_) rfl (by kernel_rfl) (by kernel_rfl) (by kernel_rfl) (by kernel_rfl) (by kernel_rfl) (fun _ _ _ h => h) (Or.inl ⟨rfl, ?_⟩) (by assumption) ?_
    rotate_left
    · (intro w' hSw; replace q0 := kept_cell hSw q0; replace q1 := kept_cell hSw q1; replace q2 := kept_cell hSw q2; replace z0 := kept_cell hSw z0; replace z1 := kept_cell hSw z1; replace z2 := kept_cell hSw z2; replace z3 := kept_cell hSw z3; go_simp; try with_reducible rfl)
    try simp only [Act.put, List.setIfInBounds_toArray, List.set_cons_zero, List.set_cons_succ]
    refine x_done (by kernel_rfl) ?_ _
    go_wp2_with fail
    go_ret
    exact ⟨rfl, kept_trans KK KK7⟩

theorem law5_any (f : Fm) (A : Option Addr) (c : Nat) (x : List Bool) (X : Option Addr) (cx : Nat) (w : World) (hlib : LibOk w) (hl : f.l.length ≤ 9223372036854775807) (hr : RK w A f.l) (hX : Rd w X (bools x)) :
    Calls Tryd.prog 5 #[fmV f A c, .slice X x.length cx] w fun e w' => e = .returned (.bool true) ∧ Kept w w' := by
  by_cases hc : cntF f ≤ 300
  · by_cases hx : x.length ≤ 100
    · cases hs : shpF f with
      | false => exact law5_form f A c x X cx w hlib hl hr hX hc hx hs
      | true =>
        by_cases hi : (x.length : Int) < inpF f
        · exact law5_arg f A c x X cx w hlib hl hr hX hc hx hs hi
        · by_cases hd7 : 7 < depF f
          · exact law5_size f A c x X cx w hlib hl hr hX hc hx hs hi hd7
          · exact law5_ok f A c x X cx w hlib hl hr hX hc hx hs hi hd7 _ rfl
    · exact law5_long f A c x X cx w hlib hl hr hX hc hx
  · exact law5_many f A c x X cx w hlib hl hr hX hc
end Go.Proofs.YtikfeemmjfoffaaDoor
