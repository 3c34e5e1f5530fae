/- The law BranchOwn: the walk. -/
import Derived.Test.YtinpmdekdfgiiaaU1
import Derived.Test.YtinpmdekdfgiiaaU2
import Derived.Test.YtinpmdekdfgiiaaS2
import Derived.Test.YtinpmdekdfgiiaaT4
set_option linter.unusedVariables false
set_option linter.unusedSimpArgs false
namespace Go.Proofs.Ytinpmdekdfgiiaa
open Go.RowKit

theorem own_few (f : Fm) (B : Option Addr) (d : Nat) (w : World) (b : Bool) (hb : decide ((cntF f : Int) ≤ 60) = b) (hf : RK w B f.l) (hfl : f.l.length ≤ 9223372036854775807) :
    ∀ (w' : World) (g : Nat), Kept w w' → Own w' g 52 [.int .i64 f.k, .int .i64 f.n, .slice B f.l.length d] → Calls Try.prog 35 #[.int .i64 60, .slice (some ⟨g, 0, none⟩) 1 1] w' fun e w'' => e = .returned (.bool b) ∧ Kept w' w'' :=
  fun w' g k o => by rw [← hb]; exact few35_any 60 f (some ⟨g, 0, none⟩) 1 w' (by omega) (by omega) (rk_new o hfl (hf.kept k))

set_option maxRecDepth 100000 in
set_option maxHeartbeats 1000000 in
theorem law_own_a (i s : Int) (A : Option Addr) (c : Nat) (l : List Nd) (f : Fm) (B : Option Addr) (d : Nat) (X : Option Addr) (cx : Nat) (x : List Bool) (w : World) (hm : l.length ≤ 140737488355328) (hr : RN w A l) (hf : RK w B f.l) (hfl : f.l.length ≤ 9223372036854775807) (hxl : x.length ≤ 140737488355328) (hx : Rd w X (bools x)) (hn : ¬ (l.length : Int) ≤ 100) :
    Calls Try.prog 12 #[.agg #[.int .i64 i, .int .i64 s, .slice A l.length c], .agg #[.int .i64 f.k, .int .i64 f.n, .slice B f.l.length d], .slice X x.length cx] w fun e w' => e = .returned (.bool true) ∧ Kept w w' := by
  have o0 := (Own.new w 24 [.int .i64 i, .int .i64 s, .slice A l.length c]).alloc (.cells #[.int .i64 f.k, .int .i64 f.n, .slice B f.l.length d] 52)
  have o1 := Own.new (w.alloc (.cells #[.int .i64 i, .int .i64 s, .slice A l.length c] 24)) 52 [.int .i64 f.k, .int .i64 f.n, .slice B f.l.length d]
  simp only [World.size_alloc] at o1
  have K0 : Kept w ((w.alloc (.cells #[.int .i64 i, .int .i64 s, .slice A l.length c] 24)).alloc (.cells #[.int .i64 f.k, .int .i64 f.n, .slice B f.l.length d] 52)) := kept_alloc (kept_alloc (kept_refl w) _) _
  have q0 := o0.cell (j := 0) rfl; have q1 := o0.cell (j := 1) rfl; have q2 := o0.cell (j := 2) rfl
  have r0 := o1.cell (j := 0) rfl; have r1 := o1.cell (j := 1) rfl; have r2 := o1.cell (j := 2) rfl
  have hF := fun (w' : World) => few_any i s A c l 100 w' hm
  rw [decide_eq_false hn] at hF
  have F13 := Lib.hid hF; clear hF hn hr hf hx
  go_enter Try.func12, Try.ntmps12
  go_wp2_with fail
  (with_reducible refine (F13.out _).mono ?_)
  rintro e w1 ⟨rfl, k⟩
  replace K0 := kept_trans K0 k; replace o0 := o0.kept k; replace o1 := o1.kept k
  clear q0 q1 q2 r0 r1 r2 k
  have q0 := o0.cell (j := 0) rfl; have q1 := o0.cell (j := 1) rfl; have q2 := o0.cell (j := 2) rfl; have r0 := o1.cell (j := 0) rfl; have r1 := o1.cell (j := 1) rfl; have r2 := o1.cell (j := 2) rfl
  go_wp2_with fail
  (with_reducible refine (alive_any _).mono ?_)
  rintro e w2 ⟨rfl, k⟩
  replace K0 := kept_trans K0 k; replace o0 := o0.kept k; replace o1 := o1.kept k
  clear q0 q1 q2 r0 r1 r2 k
  have q0 := o0.cell (j := 0) rfl; have q1 := o0.cell (j := 1) rfl; have q2 := o0.cell (j := 2) rfl; have r0 := o1.cell (j := 0) rfl; have r1 := o1.cell (j := 1) rfl; have r2 := o1.cell (j := 2) rfl
  go_wp2_with fail
  go_ret
  exact ⟨rfl, K0⟩

set_option maxRecDepth 100000 in
set_option maxHeartbeats 1000000 in
theorem law_own_b (i s : Int) (A : Option Addr) (c : Nat) (l : List Nd) (f : Fm) (B : Option Addr) (d : Nat) (X : Option Addr) (cx : Nat) (x : List Bool) (w : World) (hm : l.length ≤ 140737488355328) (hr : RN w A l) (hf : RK w B f.l) (hfl : f.l.length ≤ 9223372036854775807) (hxl : x.length ≤ 140737488355328) (hx : Rd w X (bools x)) (hn : (l.length : Int) ≤ 100) (h60 : ¬ (cntF f : Int) ≤ 60) :
    Calls Try.prog 12 #[.agg #[.int .i64 i, .int .i64 s, .slice A l.length c], .agg #[.int .i64 f.k, .int .i64 f.n, .slice B f.l.length d], .slice X x.length cx] w fun e w' => e = .returned (.bool true) ∧ Kept w w' := by
  have o0 := (Own.new w 24 [.int .i64 i, .int .i64 s, .slice A l.length c]).alloc (.cells #[.int .i64 f.k, .int .i64 f.n, .slice B f.l.length d] 52)
  have o1 := Own.new (w.alloc (.cells #[.int .i64 i, .int .i64 s, .slice A l.length c] 24)) 52 [.int .i64 f.k, .int .i64 f.n, .slice B f.l.length d]
  simp only [World.size_alloc] at o1
  have K0 : Kept w ((w.alloc (.cells #[.int .i64 i, .int .i64 s, .slice A l.length c] 24)).alloc (.cells #[.int .i64 f.k, .int .i64 f.n, .slice B f.l.length d] 52)) := kept_alloc (kept_alloc (kept_refl w) _) _
  have q0 := o0.cell (j := 0) rfl; have q1 := o0.cell (j := 1) rfl; have q2 := o0.cell (j := 2) rfl
  have r0 := o1.cell (j := 0) rfl; have r1 := o1.cell (j := 1) rfl; have r2 := o1.cell (j := 2) rfl
  have hF := fun (w' : World) => few_any i s A c l 100 w' hm
  rw [decide_eq_true hn] at hF
  have F13 := Lib.hid hF
  have F35 := Lib.hid (own_few f B d w false (decide_eq_false h60) hf hfl)
  clear hF hn hr hf hx h60
  go_enter Try.func12, Try.ntmps12
  go_wp2_with fail
  (with_reducible refine (F13.out _).mono ?_)
  rintro e w3 ⟨rfl, k⟩
  replace K0 := kept_trans K0 k; replace o0 := o0.kept k; replace o1 := o1.kept k
  clear q0 q1 q2 r0 r1 r2 k
  have q0 := o0.cell (j := 0) rfl; have q1 := o0.cell (j := 1) rfl; have q2 := o0.cell (j := 2) rfl; have r0 := o1.cell (j := 0) rfl; have r1 := o1.cell (j := 1) rfl; have r2 := o1.cell (j := 2) rfl
  go_wp2_with fail
  have oS := Own.new w3 52 [.int .i64 f.k, .int .i64 f.n, .slice B f.l.length d]
  replace K0 := kept_alloc K0 (.cells #[.int .i64 f.k, .int .i64 f.n, .slice B f.l.length d] 52); replace o0 := o0.alloc (.cells #[.int .i64 f.k, .int .i64 f.n, .slice B f.l.length d] 52); replace o1 := o1.alloc (.cells #[.int .i64 f.k, .int .i64 f.n, .slice B f.l.length d] 52)
  (with_reducible refine (F35.out _ _ K0 oS).mono ?_)
  rintro e w4 ⟨rfl, k⟩
  replace K0 := kept_trans K0 k; replace o0 := o0.kept k; replace o1 := o1.kept k
  clear q0 q1 q2 r0 r1 r2 k
  have q0 := o0.cell (j := 0) rfl; have q1 := o0.cell (j := 1) rfl; have q2 := o0.cell (j := 2) rfl; have r0 := o1.cell (j := 0) rfl; have r1 := o1.cell (j := 1) rfl; have r2 := o1.cell (j := 2) rfl
  go_wp2_with fail
  (with_reducible refine (alive_any _).mono ?_)
  rintro e w5 ⟨rfl, k⟩
  replace K0 := kept_trans K0 k; replace o0 := o0.kept k; replace o1 := o1.kept k
  clear q0 q1 q2 r0 r1 r2 k
  have q0 := o0.cell (j := 0) rfl; have q1 := o0.cell (j := 1) rfl; have q2 := o0.cell (j := 2) rfl; have r0 := o1.cell (j := 0) rfl; have r1 := o1.cell (j := 1) rfl; have r2 := o1.cell (j := 2) rfl
  go_wp2_with fail
  go_ret
  exact ⟨rfl, K0⟩

set_option maxRecDepth 100000 in
set_option maxHeartbeats 1000000 in
theorem law_own_c (i s : Int) (A : Option Addr) (c : Nat) (l : List Nd) (f : Fm) (B : Option Addr) (d : Nat) (X : Option Addr) (cx : Nat) (x : List Bool) (w : World) (hm : l.length ≤ 140737488355328) (hr : RN w A l) (hf : RK w B f.l) (hfl : f.l.length ≤ 9223372036854775807) (hxl : x.length ≤ 140737488355328) (hx : Rd w X (bools x)) (hn : (l.length : Int) ≤ 100) (h60 : (cntF f : Int) ≤ 60) (h100 : ¬ x.length ≤ 100) :
    Calls Try.prog 12 #[.agg #[.int .i64 i, .int .i64 s, .slice A l.length c], .agg #[.int .i64 f.k, .int .i64 f.n, .slice B f.l.length d], .slice X x.length cx] w fun e w' => e = .returned (.bool true) ∧ Kept w w' := by
  have o0 := (Own.new w 24 [.int .i64 i, .int .i64 s, .slice A l.length c]).alloc (.cells #[.int .i64 f.k, .int .i64 f.n, .slice B f.l.length d] 52)
  have o1 := Own.new (w.alloc (.cells #[.int .i64 i, .int .i64 s, .slice A l.length c] 24)) 52 [.int .i64 f.k, .int .i64 f.n, .slice B f.l.length d]
  simp only [World.size_alloc] at o1
  have K0 : Kept w ((w.alloc (.cells #[.int .i64 i, .int .i64 s, .slice A l.length c] 24)).alloc (.cells #[.int .i64 f.k, .int .i64 f.n, .slice B f.l.length d] 52)) := kept_alloc (kept_alloc (kept_refl w) _) _
  have q0 := o0.cell (j := 0) rfl; have q1 := o0.cell (j := 1) rfl; have q2 := o0.cell (j := 2) rfl
  have r0 := o1.cell (j := 0) rfl; have r1 := o1.cell (j := 1) rfl; have r2 := o1.cell (j := 2) rfl
  have hF := fun (w' : World) => few_any i s A c l 100 w' hm
  rw [decide_eq_true hn] at hF
  have F13 := Lib.hid hF
  have F35 := Lib.hid (own_few f B d w true (decide_eq_true h60) hf hfl)
  have b1 : decide ((100 : Int) < (x.length : Int)) = true := decide_eq_true (by omega)
  have b2 : decide (100 < x.length) = true := decide_eq_true (by omega)
  clear hF hn hr hf hx h60 h100
  go_enter Try.func12, Try.ntmps12
  go_wp2_with fail
  (with_reducible refine (F13.out _).mono ?_)
  rintro e w6 ⟨rfl, k⟩
  replace K0 := kept_trans K0 k; replace o0 := o0.kept k; replace o1 := o1.kept k
  clear q0 q1 q2 r0 r1 r2 k
  have q0 := o0.cell (j := 0) rfl; have q1 := o0.cell (j := 1) rfl; have q2 := o0.cell (j := 2) rfl; have r0 := o1.cell (j := 0) rfl; have r1 := o1.cell (j := 1) rfl; have r2 := o1.cell (j := 2) rfl
  go_wp2_with fail
  have oS := Own.new w6 52 [.int .i64 f.k, .int .i64 f.n, .slice B f.l.length d]
  replace K0 := kept_alloc K0 (.cells #[.int .i64 f.k, .int .i64 f.n, .slice B f.l.length d] 52); replace o0 := o0.alloc (.cells #[.int .i64 f.k, .int .i64 f.n, .slice B f.l.length d] 52); replace o1 := o1.alloc (.cells #[.int .i64 f.k, .int .i64 f.n, .slice B f.l.length d] 52)
  (with_reducible refine (F35.out _ _ K0 oS).mono ?_)
  rintro e w7 ⟨rfl, k⟩
  replace K0 := kept_trans K0 k; replace o0 := o0.kept k; replace o1 := o1.kept k
  clear q0 q1 q2 r0 r1 r2 k
  have q0 := o0.cell (j := 0) rfl; have q1 := o0.cell (j := 1) rfl; have q2 := o0.cell (j := 2) rfl; have r0 := o1.cell (j := 0) rfl; have r1 := o1.cell (j := 1) rfl; have r2 := o1.cell (j := 2) rfl
  go_wp2_with fail
  (with_reducible refine (alive_any _).mono ?_)
  rintro e w8 ⟨rfl, k⟩
  replace K0 := kept_trans K0 k; replace o0 := o0.kept k; replace o1 := o1.kept k
  clear q0 q1 q2 r0 r1 r2 k
  have q0 := o0.cell (j := 0) rfl; have q1 := o0.cell (j := 1) rfl; have q2 := o0.cell (j := 2) rfl; have r0 := o1.cell (j := 0) rfl; have r1 := o1.cell (j := 1) rfl; have r2 := o1.cell (j := 2) rfl
  go_wp2_with fail
  go_ret
  exact ⟨rfl, K0⟩

end Go.Proofs.Ytinpmdekdfgiiaa
