/- For all arguments the law PolyValues returns true and changes nothing. (Joined: V4, L11, K11.) -/
import Derived.Test.YtnjmpjdampdmmaaDoorV1
import Derived.Lib.SmallJoins
import Derived.Test.YtnjmpjdampdmmaaDoorE1
import Derived.Test.YtnjmpjdampdmmaaDoorC22
import Derived.Test.YtnjmpjdampdmmaaDoorL3
import Derived.Test.YtnjmpjdampdmmaaDoorCards
import Derived.Test.YtnjmpjdampdmmaaDoorTie
import Derived.SevenTiedAt
import Derived.ChangeMaps5
/- Polynomials: reading an argument of two numbers, a polynomial and a list of polynomials. -/
set_option linter.unusedVariables false
set_option linter.unusedSimpArgs false
namespace Go.Proofs.YtnjmpjdampdmmaaDoor
open Go.RowKit Go.ChangeShapes Go.WideShapes Go.ChangeAt

theorem cells25' : Tryd.prog.cellsOf 25 = 1 := by kernel_rfl
theorem bytes25' : Tryd.prog.bytesOf 25 = 24 := by kernel_rfl
/-- A list of polynomials that is read by type 72. -/
theorem read_polys {H : Type} {enc : TypeId × Value → H} {w : World} {base : Nat} {spare : Nat → Bool} {held : Bool} {fuel : Nat} {v : Value} {x : DataW H × List MemPlace} {ws : List Nat}
    (h : DataW.trod enc Tryd.prog w base spare held fuel 72 [v] = some x) (hws : ws.all (· ≤ reachBytes) = true) (hw : ∀ n ∈ x.1.weights Tryd.prog 72, n ∈ ws) :
    ∃ (A : Option Addr) (c : Nat) (ls : List (List Tm)), v = .slice A ls.length c ∧ RPP w A ls ∧ ls.length ≤ 140737488355328 := by
  rcases Deep.open_slice1 Tryd.underlying72 cells25' h with ⟨hcs, _⟩ | ⟨a, n, cap, m, n', V, D, Pl, hcs, _, hlc, _, hm, hx, hV⟩
  · simp at hcs
    subst hcs
    exact ⟨none, 0, [], rfl, fun j hj => by simp at hj, by simp⟩
  · simp at hcs
    subst hcs
    have hml : n ≤ m := by rw [hm]; split <;> omega
    have hx1 := congrArg Prod.fst hx
    dsimp only at hx1
    rw [hx1] at hw
    have hb := reach_all hws (hw ((((List.range n).map fun i => D i).length + ((List.range (m - n)).map fun j => D (n + j)).length) * Tryd.prog.bytesOf 25) (by simp [DataW.weights, Tryd.underlying72]))
    rw [bytes25', List.length_map, List.length_range] at hb
    obtain ⟨L, hL⟩ := Deep.choose_lt (n := n) (p := fun i (l : List Tm) => ∃ A c, V i = .slice A l.length c ∧ RP w A l ∧ l.length ≤ 140737488355328) (fun i hi => by
      obtain ⟨h1, h2⟩ := hV i (by omega)
      obtain ⟨A, c, p, e, hR, hl⟩ := read_cells (ws := ws) h2 hws (fun k hk => hw k (by
        have := weights_all (e := 25) (List.mem_map_of_mem (f := fun i => D i) (List.mem_range.2 hi)) hk
        simp only [DataW.weights, Tryd.underlying72, List.mem_cons, List.mem_append]
        exact .inr (.inl this)))
      exact ⟨p, A, c, e, hR, hl⟩)
    refine ⟨some a, cap, (List.range n).map L, by simp, fun j hj => ?_, by simp; omega⟩
    have hjn : j < n := by simpa using hj
    obtain ⟨b, off, spot⟩ := a
    have hspot : spot = none := by simpa [Addr.add] using World.cell?_spot (hV 0 (by omega)).1
    subst hspot
    obtain ⟨h1, h2⟩ := hV j (by omega)
    obtain ⟨A, c, e1, hR, hl⟩ := hL j hjn
    have eL : ((List.range n).map L).getD j [] = L j := by simp [List.getD_eq_getElem?_getD, hjn]
    rw [add_at, e1] at h1
    rw [eL]
    exact ⟨b, off, A, c, rfl, h1, hR, hl⟩
set_option maxRecDepth 100000 in
theorem read_task {H : Type} {enc : TypeId × Value → H} {w : World} {base : Nat} {spare : Nat → Bool} {held : Bool} {b0 : Nat} {r : Reach} {v : Value} {d : DataW H} {p : List MemPlace} {ts : List TypeId} {ds : List (DataW H)} {j : Nat}
    (hv : Value.okWide Tryd.prog w r b0 74 v) (h : DataW.Trod enc Tryd.prog w base spare held 74 v d p) (hsz : (DataW.weightsEach Tryd.prog ts ds).all (· ≤ reachBytes) = true) (ht : ts[j]? = some 74) (hd : ds[j]? = some d) :
    ∃ (N : Int) (p : List Tm) (A : Option Addr) (c : Nat) (M : Int) (ls : List (List Tm)) (B : Option Addr) (e : Nat), v = .agg #[.int .i64 N, .slice A p.length c, .int .i64 M, .slice B ls.length e] ∧ RP w A p ∧ p.length ≤ 140737488355328 ∧ RPP w B ls ∧ ls.length ≤ 140737488355328 := by
  obtain ⟨c0, c1, c2, c3, y0, y1, y2, y3, n, rfl, rfl, rfl, hy0, hy1, hy2, hy3⟩ := Joins.open_agg4 Tryd.underlying74 (by kernel_rfl) (by kernel_rfl) hv h
  obtain ⟨x0, e0, hx0, _⟩ := DataW.trod_int Tryd.underlying3 hy0
  obtain ⟨x2, e2, hx2, _⟩ := DataW.trod_int Tryd.underlying3 hy2
  have hmem : ∀ k, k ∈ y1.1.weights Tryd.prog 25 ∨ k ∈ y3.1.weights Tryd.prog 72 → k ∈ DataW.weightsEach Tryd.prog ts ds := fun k hk => by
    refine DataW.weights_mem_each ht hd k ?_
    simp only [DataW.weights, DataW.weightsEach, Tryd.underlying74, List.map_cons, List.map_nil, List.mem_append, List.nil_append]
    rcases hk with hk | hk
    · exact .inr (.inl hk)
    · exact .inr (.inr (.inr (.inl hk)))
  obtain ⟨A, c, p1, rfl, h1, h2⟩ := read_cells hy1 hsz (fun k hk => hmem k (.inl hk))
  obtain ⟨B, e, ls, rfl, h3, h4⟩ := read_polys hy3 hsz (fun k hk => hmem k (.inr hk))
  simp at e0 e2
  subst e0 e2
  exact ⟨x0, p1, A, c, x2, ls, B, e, rfl, h1, h2, h3, h4⟩
end Go.Proofs.YtnjmpjdampdmmaaDoor

/- Polynomials: the law PolyValues, walked. (printed by genL11.py) -/
set_option linter.unusedVariables false
set_option linter.unusedSimpArgs false
namespace Go.Proofs.YtnjmpjdampdmmaaDoor
open Go.RowKit Go.Shelf

set_option maxRecDepth 100000 in
set_option maxHeartbeats 1000000 in
theorem law11_few (P M N V : Int) (p : List Tm) (A : Option Addr) (c : Nat) (ls : List (List Tm)) (B : Option Addr) (d : Nat) (at' : List Int) (C : Option Addr) (e : Nat) (w : World) (hp : PowOk w) (hP : RP w A p) (hl : p.length ≤ 140737488355328) (hL : RPP w B ls) (hll : ls.length ≤ 140737488355328) (hC : Rd w C (ints at')) (hcl : at'.length ≤ 140737488355328) (hf : fewB 60 [p] = false) :
    Calls Tryd.prog 11 #[fV P M, .agg #[.int .i64 N, .slice A p.length c, .int .i64 V, .slice B ls.length d], .slice C at'.length e] w fun e w' => e = .returned (.bool true) ∧ Kept w w' := by
  have K0 := kept_alloc (kept_refl w) (.cells #[.int .i64 P, .int .i64 M] 23)
  have K1 := kept_alloc K0 (.cells #[.int .i64 N, .slice A p.length c, .int .i64 V, .slice B ls.length d] 74)
  have o3 := (Own.new w 23 [.int .i64 P, .int .i64 M]).alloc (.cells #[.int .i64 N, .slice A p.length c, .int .i64 V, .slice B ls.length d] 74)
  have o4 := Own.new (w.alloc (.cells #[.int .i64 P, .int .i64 M] 23)) 74 [.int .i64 N, .slice A p.length c, .int .i64 V, .slice B ls.length d]
  obtain ⟨w0, hw0⟩ : ∃ w0, w0 = (w.alloc (.cells #[.int .i64 P, .int .i64 M] 23)).alloc (.cells #[.int .i64 N, .slice A p.length c, .int .i64 V, .slice B ls.length d] 74) := ⟨_, rfl⟩
  rw [show (w.alloc (.cells #[.int .i64 P, .int .i64 M] 23)).heap.size = w.heap.size + 1 by simp] at o4
  have o4' : Own w0 (w.heap.size + 1) 74 [.int .i64 N, .slice A p.length c, .int .i64 V, .slice B ls.length d] := by rw [hw0]; exact o4
  rw [← hw0] at K1 o3
  have HW0 := Lib.hid hw0
  have C12a := Lib.hid (few12_any 60 [p] (some ⟨w0.heap.size, 0, none⟩) 1 (w0.alloc (.cells #[.slice A p.length c] 25)) (by decide) (by decide) (rpp_one (hP.kept K1) hl) (by simp))
  rw [show ([p] : List (List Tm)).length = 1 from rfl] at C12a
  have C13 := Lib.hid fun w' (k : Kept w w') => alive13_any w' (hp.kept k)
  have K2 := kept_alloc K1 (.cells #[.slice A p.length c] 25)
  have o3' := o3.alloc (.cells #[.slice A p.length c] 25)
  have o4'' := o4'.alloc (.cells #[.slice A p.length c] 25)
  clear o4 hw0
  rw [hf] at C12a
  unfold fV at *
  clear hP hp hL hC hf
  go_enter Tryd.func11, Tryd.ntmps11
  go_upto_region 1 with fail
  rw [← HW0.out]
  have x1 := o4'.cell (j := 1) rfl
  go_wp2_with (first
    | (go_at_call 12; ((with_reducible refine C12a.out.mono ?_); rintro e w1 ⟨rfl, rfl⟩))
    | (go_at_call 13; ((with_reducible refine (C13.out _ K2).mono ?_); rintro e w9 ⟨rfl, k9⟩; replace K2 := kept_trans K2 k9)))
  go_ret
  exact ⟨rfl, K2⟩
set_option maxRecDepth 100000 in
set_option maxHeartbeats 1000000 in
theorem law11_many_a (P M N V : Int) (p : List Tm) (A : Option Addr) (c : Nat) (ls : List (List Tm)) (B : Option Addr) (d : Nat) (at' : List Int) (C : Option Addr) (e : Nat) (w : World) (hp : PowOk w) (hP : RP w A p) (hl : p.length ≤ 140737488355328) (hL : RPP w B ls) (hll : ls.length ≤ 140737488355328) (hC : Rd w C (ints at')) (hcl : at'.length ≤ 140737488355328) (hf : fewB 60 [p] = true) (h200 : 200 < ls.length) (h100 : 100 < at'.length) :
    Calls Tryd.prog 11 #[fV P M, .agg #[.int .i64 N, .slice A p.length c, .int .i64 V, .slice B ls.length d], .slice C at'.length e] w fun e w' => e = .returned (.bool true) ∧ Kept w w' := by
  have K0 := kept_alloc (kept_refl w) (.cells #[.int .i64 P, .int .i64 M] 23)
  have K1 := kept_alloc K0 (.cells #[.int .i64 N, .slice A p.length c, .int .i64 V, .slice B ls.length d] 74)
  have o3 := (Own.new w 23 [.int .i64 P, .int .i64 M]).alloc (.cells #[.int .i64 N, .slice A p.length c, .int .i64 V, .slice B ls.length d] 74)
  have o4 := Own.new (w.alloc (.cells #[.int .i64 P, .int .i64 M] 23)) 74 [.int .i64 N, .slice A p.length c, .int .i64 V, .slice B ls.length d]
  obtain ⟨w0, hw0⟩ : ∃ w0, w0 = (w.alloc (.cells #[.int .i64 P, .int .i64 M] 23)).alloc (.cells #[.int .i64 N, .slice A p.length c, .int .i64 V, .slice B ls.length d] 74) := ⟨_, rfl⟩
  rw [show (w.alloc (.cells #[.int .i64 P, .int .i64 M] 23)).heap.size = w.heap.size + 1 by simp] at o4
  have o4' : Own w0 (w.heap.size + 1) 74 [.int .i64 N, .slice A p.length c, .int .i64 V, .slice B ls.length d] := by rw [hw0]; exact o4
  rw [← hw0] at K1 o3
  have HW0 := Lib.hid hw0
  have C12a := Lib.hid (few12_any 60 [p] (some ⟨w0.heap.size, 0, none⟩) 1 (w0.alloc (.cells #[.slice A p.length c] 25)) (by decide) (by decide) (rpp_one (hP.kept K1) hl) (by simp))
  rw [show ([p] : List (List Tm)).length = 1 from rfl] at C12a
  have C13 := Lib.hid fun w' (k : Kept w w') => alive13_any w' (hp.kept k)
  have K2 := kept_alloc K1 (.cells #[.slice A p.length c] 25)
  have o3' := o3.alloc (.cells #[.slice A p.length c] 25)
  have o4'' := o4'.alloc (.cells #[.slice A p.length c] 25)
  clear o4 hw0
  rw [hf] at C12a
  have C12b := Lib.hid (few12_some 60 ls B d (w0.alloc (.cells #[.slice A p.length c] 25)) (hL.kept K2) hll)
  have d1 : decide ((100 : Int) < (at'.length : Int)) = true := decide_eq_true (by omega)
  have d1' : decide (100 < at'.length) = true := decide_eq_true (by omega)
  have d2 : decide ((100 : Int) < (ls.length : Int)) = true := decide_eq_true (by omega)
  have d2' : decide (100 < ls.length) = true := decide_eq_true (by omega)
  unfold fV at *
  clear hP hp hL hC hf
  go_enter Tryd.func11, Tryd.ntmps11
  go_upto_region 1 with fail
  rw [← HW0.out]
  have x1 := o4'.cell (j := 1) rfl
  go_wp2_with (first
    | (go_at_call 12; ((with_reducible refine C12a.out.mono ?_); rintro e w1 ⟨rfl, rfl⟩; have y0 := o3'.cell (j := 0) rfl; have y1 := o3'.cell (j := 1) rfl; have v0 := o4''.cell (j := 0) rfl; have v1 := o4''.cell (j := 1) rfl; have v2 := o4''.cell (j := 2) rfl; have v3 := o4''.cell (j := 3) rfl))
    | (go_at_call 12; ((with_reducible refine C12b.out.mono ?_); rintro e w1 ⟨b, rfl, rfl⟩; cases b))
    | (go_at_call 13; ((with_reducible refine (C13.out _ K2).mono ?_); rintro e w9 ⟨rfl, k9⟩; replace K2 := kept_trans K2 k9)))
  all_goals (go_ret; exact ⟨rfl, K2⟩)
set_option maxRecDepth 100000 in
set_option maxHeartbeats 1000000 in
theorem law11_many_b (P M N V : Int) (p : List Tm) (A : Option Addr) (c : Nat) (ls : List (List Tm)) (B : Option Addr) (d : Nat) (at' : List Int) (C : Option Addr) (e : Nat) (w : World) (hp : PowOk w) (hP : RP w A p) (hl : p.length ≤ 140737488355328) (hL : RPP w B ls) (hll : ls.length ≤ 140737488355328) (hC : Rd w C (ints at')) (hcl : at'.length ≤ 140737488355328) (hf : fewB 60 [p] = true) (h200 : 200 < ls.length) (h100 : ¬ 100 < at'.length) :
    Calls Tryd.prog 11 #[fV P M, .agg #[.int .i64 N, .slice A p.length c, .int .i64 V, .slice B ls.length d], .slice C at'.length e] w fun e w' => e = .returned (.bool true) ∧ Kept w w' := by
  have K0 := kept_alloc (kept_refl w) (.cells #[.int .i64 P, .int .i64 M] 23)
  have K1 := kept_alloc K0 (.cells #[.int .i64 N, .slice A p.length c, .int .i64 V, .slice B ls.length d] 74)
  have o3 := (Own.new w 23 [.int .i64 P, .int .i64 M]).alloc (.cells #[.int .i64 N, .slice A p.length c, .int .i64 V, .slice B ls.length d] 74)
  have o4 := Own.new (w.alloc (.cells #[.int .i64 P, .int .i64 M] 23)) 74 [.int .i64 N, .slice A p.length c, .int .i64 V, .slice B ls.length d]
  obtain ⟨w0, hw0⟩ : ∃ w0, w0 = (w.alloc (.cells #[.int .i64 P, .int .i64 M] 23)).alloc (.cells #[.int .i64 N, .slice A p.length c, .int .i64 V, .slice B ls.length d] 74) := ⟨_, rfl⟩
  rw [show (w.alloc (.cells #[.int .i64 P, .int .i64 M] 23)).heap.size = w.heap.size + 1 by simp] at o4
  have o4' : Own w0 (w.heap.size + 1) 74 [.int .i64 N, .slice A p.length c, .int .i64 V, .slice B ls.length d] := by rw [hw0]; exact o4
  rw [← hw0] at K1 o3
  have HW0 := Lib.hid hw0
  have C12a := Lib.hid (few12_any 60 [p] (some ⟨w0.heap.size, 0, none⟩) 1 (w0.alloc (.cells #[.slice A p.length c] 25)) (by decide) (by decide) (rpp_one (hP.kept K1) hl) (by simp))
  rw [show ([p] : List (List Tm)).length = 1 from rfl] at C12a
  have C13 := Lib.hid fun w' (k : Kept w w') => alive13_any w' (hp.kept k)
  have K2 := kept_alloc K1 (.cells #[.slice A p.length c] 25)
  have o3' := o3.alloc (.cells #[.slice A p.length c] 25)
  have o4'' := o4'.alloc (.cells #[.slice A p.length c] 25)
  clear o4 hw0
  rw [hf] at C12a
  have C12b := Lib.hid (few12_some 60 ls B d (w0.alloc (.cells #[.slice A p.length c] 25)) (hL.kept K2) hll)
  have d1 : decide ((100 : Int) < (at'.length : Int)) = false := decide_eq_false (by omega)
  have d1' : decide (100 < at'.length) = false := decide_eq_false (by omega)
  have d2 : decide ((100 : Int) < (ls.length : Int)) = true := decide_eq_true (by omega)
  have d2' : decide (100 < ls.length) = true := decide_eq_true (by omega)
  unfold fV at *
  clear hP hp hL hC hf
  go_enter Tryd.func11, Tryd.ntmps11
  go_upto_region 1 with fail
  rw [← HW0.out]
  have x1 := o4'.cell (j := 1) rfl
  go_wp2_with (first
    | (go_at_call 12; ((with_reducible refine C12a.out.mono ?_); rintro e w1 ⟨rfl, rfl⟩; have y0 := o3'.cell (j := 0) rfl; have y1 := o3'.cell (j := 1) rfl; have v0 := o4''.cell (j := 0) rfl; have v1 := o4''.cell (j := 1) rfl; have v2 := o4''.cell (j := 2) rfl; have v3 := o4''.cell (j := 3) rfl))
    | (go_at_call 12; ((with_reducible refine C12b.out.mono ?_); rintro e w1 ⟨b, rfl, rfl⟩; cases b))
    | (go_at_call 13; ((with_reducible refine (C13.out _ K2).mono ?_); rintro e w9 ⟨rfl, k9⟩; replace K2 := kept_trans K2 k9)))
  all_goals (go_ret; exact ⟨rfl, K2⟩)
set_option maxRecDepth 100000 in
set_option maxHeartbeats 1000000 in
theorem law11_few2 (P M N V : Int) (p : List Tm) (A : Option Addr) (c : Nat) (ls : List (List Tm)) (B : Option Addr) (d : Nat) (at' : List Int) (C : Option Addr) (e : Nat) (w : World) (hp : PowOk w) (hP : RP w A p) (hl : p.length ≤ 140737488355328) (hL : RPP w B ls) (hll : ls.length ≤ 140737488355328) (hC : Rd w C (ints at')) (hcl : at'.length ≤ 140737488355328) (hf : fewB 60 [p] = true) (h200 : ls.length ≤ 200) (hf2 : fewB 60 ls = false) :
    Calls Tryd.prog 11 #[fV P M, .agg #[.int .i64 N, .slice A p.length c, .int .i64 V, .slice B ls.length d], .slice C at'.length e] w fun e w' => e = .returned (.bool true) ∧ Kept w w' := by
  have K0 := kept_alloc (kept_refl w) (.cells #[.int .i64 P, .int .i64 M] 23)
  have K1 := kept_alloc K0 (.cells #[.int .i64 N, .slice A p.length c, .int .i64 V, .slice B ls.length d] 74)
  have o3 := (Own.new w 23 [.int .i64 P, .int .i64 M]).alloc (.cells #[.int .i64 N, .slice A p.length c, .int .i64 V, .slice B ls.length d] 74)
  have o4 := Own.new (w.alloc (.cells #[.int .i64 P, .int .i64 M] 23)) 74 [.int .i64 N, .slice A p.length c, .int .i64 V, .slice B ls.length d]
  obtain ⟨w0, hw0⟩ : ∃ w0, w0 = (w.alloc (.cells #[.int .i64 P, .int .i64 M] 23)).alloc (.cells #[.int .i64 N, .slice A p.length c, .int .i64 V, .slice B ls.length d] 74) := ⟨_, rfl⟩
  rw [show (w.alloc (.cells #[.int .i64 P, .int .i64 M] 23)).heap.size = w.heap.size + 1 by simp] at o4
  have o4' : Own w0 (w.heap.size + 1) 74 [.int .i64 N, .slice A p.length c, .int .i64 V, .slice B ls.length d] := by rw [hw0]; exact o4
  rw [← hw0] at K1 o3
  have HW0 := Lib.hid hw0
  have C12a := Lib.hid (few12_any 60 [p] (some ⟨w0.heap.size, 0, none⟩) 1 (w0.alloc (.cells #[.slice A p.length c] 25)) (by decide) (by decide) (rpp_one (hP.kept K1) hl) (by simp))
  rw [show ([p] : List (List Tm)).length = 1 from rfl] at C12a
  have C13 := Lib.hid fun w' (k : Kept w w') => alive13_any w' (hp.kept k)
  have K2 := kept_alloc K1 (.cells #[.slice A p.length c] 25)
  have o3' := o3.alloc (.cells #[.slice A p.length c] 25)
  have o4'' := o4'.alloc (.cells #[.slice A p.length c] 25)
  clear o4 hw0
  rw [hf] at C12a
  have C12b := Lib.hid (few12_any 60 ls B d (w0.alloc (.cells #[.slice A p.length c] 25)) (by decide) (by decide) (hL.kept K2) h200)
  rw [hf2] at C12b
  unfold fV at *
  clear hP hp hL hC hf hf2
  go_enter Tryd.func11, Tryd.ntmps11
  go_upto_region 1 with fail
  rw [← HW0.out]
  have x1 := o4'.cell (j := 1) rfl
  go_wp2_with (first
    | (go_at_call 12; ((with_reducible refine C12a.out.mono ?_); rintro e w1 ⟨rfl, rfl⟩; have y0 := o3'.cell (j := 0) rfl; have y1 := o3'.cell (j := 1) rfl; have v0 := o4''.cell (j := 0) rfl; have v1 := o4''.cell (j := 1) rfl; have v2 := o4''.cell (j := 2) rfl; have v3 := o4''.cell (j := 3) rfl))
    | (go_at_call 12; ((with_reducible refine C12b.out.mono ?_); rintro e w1 ⟨rfl, rfl⟩))
    | (go_at_call 13; ((with_reducible refine (C13.out _ K2).mono ?_); rintro e w9 ⟨rfl, k9⟩; replace K2 := kept_trans K2 k9)))
  go_ret
  exact ⟨rfl, K2⟩
set_option maxRecDepth 100000 in
set_option maxHeartbeats 1000000 in
theorem law11_at (P M N V : Int) (p : List Tm) (A : Option Addr) (c : Nat) (ls : List (List Tm)) (B : Option Addr) (d : Nat) (at' : List Int) (C : Option Addr) (e : Nat) (w : World) (hp : PowOk w) (hP : RP w A p) (hl : p.length ≤ 140737488355328) (hL : RPP w B ls) (hll : ls.length ≤ 140737488355328) (hC : Rd w C (ints at')) (hcl : at'.length ≤ 140737488355328) (hf : fewB 60 [p] = true) (h200 : ls.length ≤ 200) (hf2 : fewB 60 ls = true) (h1 : 100 < at'.length) :
    Calls Tryd.prog 11 #[fV P M, .agg #[.int .i64 N, .slice A p.length c, .int .i64 V, .slice B ls.length d], .slice C at'.length e] w fun e w' => e = .returned (.bool true) ∧ Kept w w' := by
  have K0 := kept_alloc (kept_refl w) (.cells #[.int .i64 P, .int .i64 M] 23)
  have K1 := kept_alloc K0 (.cells #[.int .i64 N, .slice A p.length c, .int .i64 V, .slice B ls.length d] 74)
  have o3 := (Own.new w 23 [.int .i64 P, .int .i64 M]).alloc (.cells #[.int .i64 N, .slice A p.length c, .int .i64 V, .slice B ls.length d] 74)
  have o4 := Own.new (w.alloc (.cells #[.int .i64 P, .int .i64 M] 23)) 74 [.int .i64 N, .slice A p.length c, .int .i64 V, .slice B ls.length d]
  obtain ⟨w0, hw0⟩ : ∃ w0, w0 = (w.alloc (.cells #[.int .i64 P, .int .i64 M] 23)).alloc (.cells #[.int .i64 N, .slice A p.length c, .int .i64 V, .slice B ls.length d] 74) := ⟨_, rfl⟩
  rw [show (w.alloc (.cells #[.int .i64 P, .int .i64 M] 23)).heap.size = w.heap.size + 1 by simp] at o4
  have o4' : Own w0 (w.heap.size + 1) 74 [.int .i64 N, .slice A p.length c, .int .i64 V, .slice B ls.length d] := by rw [hw0]; exact o4
  rw [← hw0] at K1 o3
  have HW0 := Lib.hid hw0
  have C12a := Lib.hid (few12_any 60 [p] (some ⟨w0.heap.size, 0, none⟩) 1 (w0.alloc (.cells #[.slice A p.length c] 25)) (by decide) (by decide) (rpp_one (hP.kept K1) hl) (by simp))
  rw [show ([p] : List (List Tm)).length = 1 from rfl] at C12a
  have C13 := Lib.hid fun w' (k : Kept w w') => alive13_any w' (hp.kept k)
  have K2 := kept_alloc K1 (.cells #[.slice A p.length c] 25)
  have o3' := o3.alloc (.cells #[.slice A p.length c] 25)
  have o4'' := o4'.alloc (.cells #[.slice A p.length c] 25)
  clear o4 hw0
  rw [hf] at C12a
  have C12b := Lib.hid (few12_any 60 ls B d (w0.alloc (.cells #[.slice A p.length c] 25)) (by decide) (by decide) (hL.kept K2) h200)
  rw [hf2] at C12b
  have d1 : decide ((100 : Int) < (at'.length : Int)) = true := decide_eq_true (by omega)
  have d1' : decide (100 < at'.length) = true := decide_eq_true (by omega)
  unfold fV at *
  clear hP hp hL hC hf hf2
  go_enter Tryd.func11, Tryd.ntmps11
  go_upto_region 1 with fail
  rw [← HW0.out]
  have x1 := o4'.cell (j := 1) rfl
  go_wp2_with (first
    | (go_at_call 12; ((with_reducible refine C12a.out.mono ?_); rintro e w1 ⟨rfl, rfl⟩; have y0 := o3'.cell (j := 0) rfl; have y1 := o3'.cell (j := 1) rfl; have v0 := o4''.cell (j := 0) rfl; have v1 := o4''.cell (j := 1) rfl; have v2 := o4''.cell (j := 2) rfl; have v3 := o4''.cell (j := 3) rfl))
    | (go_at_call 12; ((with_reducible refine C12b.out.mono ?_); rintro e w1 ⟨rfl, rfl⟩))
    | (go_at_call 13; ((with_reducible refine (C13.out _ K2).mono ?_); rintro e w9 ⟨rfl, k9⟩; replace K2 := kept_trans K2 k9)))
  go_ret
  exact ⟨rfl, K2⟩
set_option maxRecDepth 100000 in
set_option maxHeartbeats 1000000 in
theorem law11_ls (P M N V : Int) (p : List Tm) (A : Option Addr) (c : Nat) (ls : List (List Tm)) (B : Option Addr) (d : Nat) (at' : List Int) (C : Option Addr) (e : Nat) (w : World) (hp : PowOk w) (hP : RP w A p) (hl : p.length ≤ 140737488355328) (hL : RPP w B ls) (hll : ls.length ≤ 140737488355328) (hC : Rd w C (ints at')) (hcl : at'.length ≤ 140737488355328) (hf : fewB 60 [p] = true) (h200 : ls.length ≤ 200) (hf2 : fewB 60 ls = true) (h1 : ¬ 100 < at'.length) (h2 : 100 < ls.length) :
    Calls Tryd.prog 11 #[fV P M, .agg #[.int .i64 N, .slice A p.length c, .int .i64 V, .slice B ls.length d], .slice C at'.length e] w fun e w' => e = .returned (.bool true) ∧ Kept w w' := by
  have K0 := kept_alloc (kept_refl w) (.cells #[.int .i64 P, .int .i64 M] 23)
  have K1 := kept_alloc K0 (.cells #[.int .i64 N, .slice A p.length c, .int .i64 V, .slice B ls.length d] 74)
  have o3 := (Own.new w 23 [.int .i64 P, .int .i64 M]).alloc (.cells #[.int .i64 N, .slice A p.length c, .int .i64 V, .slice B ls.length d] 74)
  have o4 := Own.new (w.alloc (.cells #[.int .i64 P, .int .i64 M] 23)) 74 [.int .i64 N, .slice A p.length c, .int .i64 V, .slice B ls.length d]
  obtain ⟨w0, hw0⟩ : ∃ w0, w0 = (w.alloc (.cells #[.int .i64 P, .int .i64 M] 23)).alloc (.cells #[.int .i64 N, .slice A p.length c, .int .i64 V, .slice B ls.length d] 74) := ⟨_, rfl⟩
  rw [show (w.alloc (.cells #[.int .i64 P, .int .i64 M] 23)).heap.size = w.heap.size + 1 by simp] at o4
  have o4' : Own w0 (w.heap.size + 1) 74 [.int .i64 N, .slice A p.length c, .int .i64 V, .slice B ls.length d] := by rw [hw0]; exact o4
  rw [← hw0] at K1 o3
  have HW0 := Lib.hid hw0
  have C12a := Lib.hid (few12_any 60 [p] (some ⟨w0.heap.size, 0, none⟩) 1 (w0.alloc (.cells #[.slice A p.length c] 25)) (by decide) (by decide) (rpp_one (hP.kept K1) hl) (by simp))
  rw [show ([p] : List (List Tm)).length = 1 from rfl] at C12a
  have C13 := Lib.hid fun w' (k : Kept w w') => alive13_any w' (hp.kept k)
  have K2 := kept_alloc K1 (.cells #[.slice A p.length c] 25)
  have o3' := o3.alloc (.cells #[.slice A p.length c] 25)
  have o4'' := o4'.alloc (.cells #[.slice A p.length c] 25)
  clear o4 hw0
  rw [hf] at C12a
  have C12b := Lib.hid (few12_any 60 ls B d (w0.alloc (.cells #[.slice A p.length c] 25)) (by decide) (by decide) (hL.kept K2) h200)
  rw [hf2] at C12b
  have d1 : decide ((100 : Int) < (at'.length : Int)) = false := decide_eq_false (by omega)
  have d1' : decide (100 < at'.length) = false := decide_eq_false (by omega)
  have d2 : decide ((100 : Int) < (ls.length : Int)) = true := decide_eq_true (by omega)
  have d2' : decide (100 < ls.length) = true := decide_eq_true (by omega)
  unfold fV at *
  clear hP hp hL hC hf hf2
  go_enter Tryd.func11, Tryd.ntmps11
  go_upto_region 1 with fail
  rw [← HW0.out]
  have x1 := o4'.cell (j := 1) rfl
  go_wp2_with (first
    | (go_at_call 12; ((with_reducible refine C12a.out.mono ?_); rintro e w1 ⟨rfl, rfl⟩; have y0 := o3'.cell (j := 0) rfl; have y1 := o3'.cell (j := 1) rfl; have v0 := o4''.cell (j := 0) rfl; have v1 := o4''.cell (j := 1) rfl; have v2 := o4''.cell (j := 2) rfl; have v3 := o4''.cell (j := 3) rfl))
    | (go_at_call 12; ((with_reducible refine C12b.out.mono ?_); rintro e w1 ⟨rfl, rfl⟩))
    | (go_at_call 13; ((with_reducible refine (C13.out _ K2).mono ?_); rintro e w9 ⟨rfl, k9⟩; replace K2 := kept_trans K2 k9)))
  go_ret
  exact ⟨rfl, K2⟩
set_option maxRecDepth 100000 in
set_option maxHeartbeats 1000000 in
theorem law11_n (P M N V : Int) (p : List Tm) (A : Option Addr) (c : Nat) (ls : List (List Tm)) (B : Option Addr) (d : Nat) (at' : List Int) (C : Option Addr) (e : Nat) (w : World) (hp : PowOk w) (hP : RP w A p) (hl : p.length ≤ 140737488355328) (hL : RPP w B ls) (hll : ls.length ≤ 140737488355328) (hC : Rd w C (ints at')) (hcl : at'.length ≤ 140737488355328) (hf : fewB 60 [p] = true) (h200 : ls.length ≤ 200) (hf2 : fewB 60 ls = true) (h1 : ¬ 100 < at'.length) (h2 : ¬ 100 < ls.length) (h3 : (ls.length : Int) ≠ N) :
    Calls Tryd.prog 11 #[fV P M, .agg #[.int .i64 N, .slice A p.length c, .int .i64 V, .slice B ls.length d], .slice C at'.length e] w fun e w' => e = .returned (.bool true) ∧ Kept w w' := by
  have K0 := kept_alloc (kept_refl w) (.cells #[.int .i64 P, .int .i64 M] 23)
  have K1 := kept_alloc K0 (.cells #[.int .i64 N, .slice A p.length c, .int .i64 V, .slice B ls.length d] 74)
  have o3 := (Own.new w 23 [.int .i64 P, .int .i64 M]).alloc (.cells #[.int .i64 N, .slice A p.length c, .int .i64 V, .slice B ls.length d] 74)
  have o4 := Own.new (w.alloc (.cells #[.int .i64 P, .int .i64 M] 23)) 74 [.int .i64 N, .slice A p.length c, .int .i64 V, .slice B ls.length d]
  obtain ⟨w0, hw0⟩ : ∃ w0, w0 = (w.alloc (.cells #[.int .i64 P, .int .i64 M] 23)).alloc (.cells #[.int .i64 N, .slice A p.length c, .int .i64 V, .slice B ls.length d] 74) := ⟨_, rfl⟩
  rw [show (w.alloc (.cells #[.int .i64 P, .int .i64 M] 23)).heap.size = w.heap.size + 1 by simp] at o4
  have o4' : Own w0 (w.heap.size + 1) 74 [.int .i64 N, .slice A p.length c, .int .i64 V, .slice B ls.length d] := by rw [hw0]; exact o4
  rw [← hw0] at K1 o3
  have HW0 := Lib.hid hw0
  have C12a := Lib.hid (few12_any 60 [p] (some ⟨w0.heap.size, 0, none⟩) 1 (w0.alloc (.cells #[.slice A p.length c] 25)) (by decide) (by decide) (rpp_one (hP.kept K1) hl) (by simp))
  rw [show ([p] : List (List Tm)).length = 1 from rfl] at C12a
  have C13 := Lib.hid fun w' (k : Kept w w') => alive13_any w' (hp.kept k)
  have K2 := kept_alloc K1 (.cells #[.slice A p.length c] 25)
  have o3' := o3.alloc (.cells #[.slice A p.length c] 25)
  have o4'' := o4'.alloc (.cells #[.slice A p.length c] 25)
  clear o4 hw0
  rw [hf] at C12a
  have C12b := Lib.hid (few12_any 60 ls B d (w0.alloc (.cells #[.slice A p.length c] 25)) (by decide) (by decide) (hL.kept K2) h200)
  rw [hf2] at C12b
  have d1 : decide ((100 : Int) < (at'.length : Int)) = false := decide_eq_false (by omega)
  have d1' : decide (100 < at'.length) = false := decide_eq_false (by omega)
  have d2 : decide ((100 : Int) < (ls.length : Int)) = false := decide_eq_false (by omega)
  have d2' : decide (100 < ls.length) = false := decide_eq_false (by omega)
  have d3 : ((ls.length : Int) != N) = true := by simpa using h3
  unfold fV at *
  clear hP hp hL hC hf hf2 h3
  go_enter Tryd.func11, Tryd.ntmps11
  go_upto_region 1 with fail
  rw [← HW0.out]
  have x1 := o4'.cell (j := 1) rfl
  go_wp2_with (first
    | (go_at_call 12; ((with_reducible refine C12a.out.mono ?_); rintro e w1 ⟨rfl, rfl⟩; have y0 := o3'.cell (j := 0) rfl; have y1 := o3'.cell (j := 1) rfl; have v0 := o4''.cell (j := 0) rfl; have v1 := o4''.cell (j := 1) rfl; have v2 := o4''.cell (j := 2) rfl; have v3 := o4''.cell (j := 3) rfl))
    | (go_at_call 12; ((with_reducible refine C12b.out.mono ?_); rintro e w1 ⟨rfl, rfl⟩))
    | (go_at_call 13; ((with_reducible refine (C13.out _ K2).mono ?_); rintro e w9 ⟨rfl, k9⟩; replace K2 := kept_trans K2 k9)))
  go_ret
  exact ⟨rfl, K2⟩
set_option maxRecDepth 100000 in
set_option maxHeartbeats 1000000 in
theorem law11_v (P M N V : Int) (p : List Tm) (A : Option Addr) (c : Nat) (ls : List (List Tm)) (B : Option Addr) (d : Nat) (at' : List Int) (C : Option Addr) (e : Nat) (w : World) (hp : PowOk w) (hP : RP w A p) (hl : p.length ≤ 140737488355328) (hL : RPP w B ls) (hll : ls.length ≤ 140737488355328) (hC : Rd w C (ints at')) (hcl : at'.length ≤ 140737488355328) (hf : fewB 60 [p] = true) (h200 : ls.length ≤ 200) (hf2 : fewB 60 ls = true) (h1 : ¬ 100 < at'.length) (h2 : ¬ 100 < ls.length) (h3 : (ls.length : Int) = N) (h4 : (at'.length : Int) ≠ V) :
    Calls Tryd.prog 11 #[fV P M, .agg #[.int .i64 N, .slice A p.length c, .int .i64 V, .slice B ls.length d], .slice C at'.length e] w fun e w' => e = .returned (.bool true) ∧ Kept w w' := by
  have K0 := kept_alloc (kept_refl w) (.cells #[.int .i64 P, .int .i64 M] 23)
  have K1 := kept_alloc K0 (.cells #[.int .i64 N, .slice A p.length c, .int .i64 V, .slice B ls.length d] 74)
  have o3 := (Own.new w 23 [.int .i64 P, .int .i64 M]).alloc (.cells #[.int .i64 N, .slice A p.length c, .int .i64 V, .slice B ls.length d] 74)
  have o4 := Own.new (w.alloc (.cells #[.int .i64 P, .int .i64 M] 23)) 74 [.int .i64 N, .slice A p.length c, .int .i64 V, .slice B ls.length d]
  obtain ⟨w0, hw0⟩ : ∃ w0, w0 = (w.alloc (.cells #[.int .i64 P, .int .i64 M] 23)).alloc (.cells #[.int .i64 N, .slice A p.length c, .int .i64 V, .slice B ls.length d] 74) := ⟨_, rfl⟩
  rw [show (w.alloc (.cells #[.int .i64 P, .int .i64 M] 23)).heap.size = w.heap.size + 1 by simp] at o4
  have o4' : Own w0 (w.heap.size + 1) 74 [.int .i64 N, .slice A p.length c, .int .i64 V, .slice B ls.length d] := by rw [hw0]; exact o4
  rw [← hw0] at K1 o3
  have HW0 := Lib.hid hw0
  have C12a := Lib.hid (few12_any 60 [p] (some ⟨w0.heap.size, 0, none⟩) 1 (w0.alloc (.cells #[.slice A p.length c] 25)) (by decide) (by decide) (rpp_one (hP.kept K1) hl) (by simp))
  rw [show ([p] : List (List Tm)).length = 1 from rfl] at C12a
  have C13 := Lib.hid fun w' (k : Kept w w') => alive13_any w' (hp.kept k)
  have K2 := kept_alloc K1 (.cells #[.slice A p.length c] 25)
  have o3' := o3.alloc (.cells #[.slice A p.length c] 25)
  have o4'' := o4'.alloc (.cells #[.slice A p.length c] 25)
  clear o4 hw0
  rw [hf] at C12a
  have C12b := Lib.hid (few12_any 60 ls B d (w0.alloc (.cells #[.slice A p.length c] 25)) (by decide) (by decide) (hL.kept K2) h200)
  rw [hf2] at C12b
  have d1 : decide ((100 : Int) < (at'.length : Int)) = false := decide_eq_false (by omega)
  have d1' : decide (100 < at'.length) = false := decide_eq_false (by omega)
  have d2 : decide ((100 : Int) < (ls.length : Int)) = false := decide_eq_false (by omega)
  have d2' : decide (100 < ls.length) = false := decide_eq_false (by omega)
  have d3 : ((ls.length : Int) != N) = false := by simpa using h3
  have d4 : ((at'.length : Int) != V) = true := by simpa using h4
  unfold fV at *
  clear hP hp hL hC hf hf2 h3 h4
  go_enter Tryd.func11, Tryd.ntmps11
  go_upto_region 1 with fail
  rw [← HW0.out]
  have x1 := o4'.cell (j := 1) rfl
  go_wp2_with (first
    | (go_at_call 12; ((with_reducible refine C12a.out.mono ?_); rintro e w1 ⟨rfl, rfl⟩; have y0 := o3'.cell (j := 0) rfl; have y1 := o3'.cell (j := 1) rfl; have v0 := o4''.cell (j := 0) rfl; have v1 := o4''.cell (j := 1) rfl; have v2 := o4''.cell (j := 2) rfl; have v3 := o4''.cell (j := 3) rfl))
    | (go_at_call 12; ((with_reducible refine C12b.out.mono ?_); rintro e w1 ⟨rfl, rfl⟩))
    | (go_at_call 13; ((with_reducible refine (C13.out _ K2).mono ?_); rintro e w9 ⟨rfl, k9⟩; replace K2 := kept_trans K2 k9)))
  go_ret
  exact ⟨rfl, K2⟩
set_option maxRecDepth 100000 in
set_option maxHeartbeats 1000000 in
theorem law11_p (P M N V : Int) (p : List Tm) (A : Option Addr) (c : Nat) (ls : List (List Tm)) (B : Option Addr) (d : Nat) (at' : List Int) (C : Option Addr) (e : Nat) (w : World) (hp : PowOk w) (hP : RP w A p) (hl : p.length ≤ 140737488355328) (hL : RPP w B ls) (hll : ls.length ≤ 140737488355328) (hC : Rd w C (ints at')) (hcl : at'.length ≤ 140737488355328) (hf : fewB 60 [p] = true) (h200 : ls.length ≤ 200) (hf2 : fewB 60 ls = true) (h1 : ¬ 100 < at'.length) (h2 : ¬ 100 < ls.length) (h3 : (ls.length : Int) = N) (h4 : (at'.length : Int) = V) (hv : vld (ordF P M) N p = false) :
    Calls Tryd.prog 11 #[fV P M, .agg #[.int .i64 N, .slice A p.length c, .int .i64 V, .slice B ls.length d], .slice C at'.length e] w fun e w' => e = .returned (.bool true) ∧ Kept w w' := by
  have K0 := kept_alloc (kept_refl w) (.cells #[.int .i64 P, .int .i64 M] 23)
  have K1 := kept_alloc K0 (.cells #[.int .i64 N, .slice A p.length c, .int .i64 V, .slice B ls.length d] 74)
  have o3 := (Own.new w 23 [.int .i64 P, .int .i64 M]).alloc (.cells #[.int .i64 N, .slice A p.length c, .int .i64 V, .slice B ls.length d] 74)
  have o4 := Own.new (w.alloc (.cells #[.int .i64 P, .int .i64 M] 23)) 74 [.int .i64 N, .slice A p.length c, .int .i64 V, .slice B ls.length d]
  obtain ⟨w0, hw0⟩ : ∃ w0, w0 = (w.alloc (.cells #[.int .i64 P, .int .i64 M] 23)).alloc (.cells #[.int .i64 N, .slice A p.length c, .int .i64 V, .slice B ls.length d] 74) := ⟨_, rfl⟩
  rw [show (w.alloc (.cells #[.int .i64 P, .int .i64 M] 23)).heap.size = w.heap.size + 1 by simp] at o4
  have o4' : Own w0 (w.heap.size + 1) 74 [.int .i64 N, .slice A p.length c, .int .i64 V, .slice B ls.length d] := by rw [hw0]; exact o4
  rw [← hw0] at K1 o3
  have HW0 := Lib.hid hw0
  have C12a := Lib.hid (few12_any 60 [p] (some ⟨w0.heap.size, 0, none⟩) 1 (w0.alloc (.cells #[.slice A p.length c] 25)) (by decide) (by decide) (rpp_one (hP.kept K1) hl) (by simp))
  rw [show ([p] : List (List Tm)).length = 1 from rfl] at C12a
  have C13 := Lib.hid fun w' (k : Kept w w') => alive13_any w' (hp.kept k)
  have K2 := kept_alloc K1 (.cells #[.slice A p.length c] 25)
  have o3' := o3.alloc (.cells #[.slice A p.length c] 25)
  have o4'' := o4'.alloc (.cells #[.slice A p.length c] 25)
  clear o4 hw0
  rw [hf] at C12a
  have C12b := Lib.hid (few12_any 60 ls B d (w0.alloc (.cells #[.slice A p.length c] 25)) (by decide) (by decide) (hL.kept K2) h200)
  rw [hf2] at C12b
  have d1 : decide ((100 : Int) < (at'.length : Int)) = false := decide_eq_false (by omega)
  have d1' : decide (100 < at'.length) = false := decide_eq_false (by omega)
  have d2 : decide ((100 : Int) < (ls.length : Int)) = false := decide_eq_false (by omega)
  have d2' : decide (100 < ls.length) = false := decide_eq_false (by omega)
  have d3 : ((ls.length : Int) != N) = false := by simpa using h3
  have d4 : ((at'.length : Int) != V) = false := by simpa using h4
  have C25 := Lib.hid fun w' (k : Kept w w') => valid25_any P M N p A c w' (hP.kept k) hl
  rw [hv] at C25
  unfold fV at *
  clear hP hp hL hC hf hf2 h3 h4 hv
  go_enter Tryd.func11, Tryd.ntmps11
  go_upto_region 1 with fail
  rw [← HW0.out]
  have x1 := o4'.cell (j := 1) rfl
  go_wp2_with (first
    | (go_at_call 12; ((with_reducible refine C12a.out.mono ?_); rintro e w1 ⟨rfl, rfl⟩; have y0 := o3'.cell (j := 0) rfl; have y1 := o3'.cell (j := 1) rfl; have v0 := o4''.cell (j := 0) rfl; have v1 := o4''.cell (j := 1) rfl; have v2 := o4''.cell (j := 2) rfl; have v3 := o4''.cell (j := 3) rfl))
    | (go_at_call 12; ((with_reducible refine C12b.out.mono ?_); rintro e w1 ⟨rfl, rfl⟩))
    | (go_at_call 25; ((with_reducible refine (C25.out _ K2).mono ?_); rintro e w2 ⟨rfl, k2⟩; replace K2 := kept_trans K2 k2; replace y0 := kept_cell k2 y0; replace y1 := kept_cell k2 y1; replace v0 := kept_cell k2 v0; replace v1 := kept_cell k2 v1; replace v2 := kept_cell k2 v2; replace v3 := kept_cell k2 v3))
    | (go_at_call 13; ((with_reducible refine (C13.out _ K2).mono ?_); rintro e w9 ⟨rfl, k9⟩; replace K2 := kept_trans K2 k9)))
  go_ret
  exact ⟨rfl, K2⟩
set_option maxRecDepth 100000 in
set_option maxHeartbeats 1000000 in
theorem law11_main (P M N V : Int) (p : List Tm) (A : Option Addr) (c : Nat) (ls : List (List Tm)) (B : Option Addr) (d : Nat) (at' : List Int) (C : Option Addr) (e : Nat) (w : World) (hp : PowOk w) (hP : RP w A p) (hl : p.length ≤ 140737488355328) (hL : RPP w B ls) (hll : ls.length ≤ 140737488355328) (hC : Rd w C (ints at')) (hcl : at'.length ≤ 140737488355328) (hf : fewB 60 [p] = true) (h200 : ls.length ≤ 200) (hf2 : fewB 60 ls = true) (h1 : ¬ 100 < at'.length) (h2 : ¬ 100 < ls.length) (h3 : (ls.length : Int) = N) (h4 : (at'.length : Int) = V) (hv : vld (ordF P M) N p = true) :
    Calls Tryd.prog 11 #[fV P M, .agg #[.int .i64 N, .slice A p.length c, .int .i64 V, .slice B ls.length d], .slice C at'.length e] w fun e w' => e = .returned (.bool true) ∧ Kept w w' := by
  subst h3 h4
  have h3 : (ls.length : Int) = (ls.length : Int) := rfl
  have h4 : (at'.length : Int) = (at'.length : Int) := rfl
  have K0 := kept_alloc (kept_refl w) (.cells #[.int .i64 P, .int .i64 M] 23)
  have K1 := kept_alloc K0 (.cells #[.int .i64 (ls.length : Int), .slice A p.length c, .int .i64 (at'.length : Int), .slice B ls.length d] 74)
  have o3 := (Own.new w 23 [.int .i64 P, .int .i64 M]).alloc (.cells #[.int .i64 (ls.length : Int), .slice A p.length c, .int .i64 (at'.length : Int), .slice B ls.length d] 74)
  have o4 := Own.new (w.alloc (.cells #[.int .i64 P, .int .i64 M] 23)) 74 [.int .i64 (ls.length : Int), .slice A p.length c, .int .i64 (at'.length : Int), .slice B ls.length d]
  obtain ⟨w0, hw0⟩ : ∃ w0, w0 = (w.alloc (.cells #[.int .i64 P, .int .i64 M] 23)).alloc (.cells #[.int .i64 (ls.length : Int), .slice A p.length c, .int .i64 (at'.length : Int), .slice B ls.length d] 74) := ⟨_, rfl⟩
  rw [show (w.alloc (.cells #[.int .i64 P, .int .i64 M] 23)).heap.size = w.heap.size + 1 by simp] at o4
  have o4' : Own w0 (w.heap.size + 1) 74 [.int .i64 (ls.length : Int), .slice A p.length c, .int .i64 (at'.length : Int), .slice B ls.length d] := by rw [hw0]; exact o4
  rw [← hw0] at K1 o3
  have HW0 := Lib.hid hw0
  have C12a := Lib.hid (few12_any 60 [p] (some ⟨w0.heap.size, 0, none⟩) 1 (w0.alloc (.cells #[.slice A p.length c] 25)) (by decide) (by decide) (rpp_one (hP.kept K1) hl) (by simp))
  rw [show ([p] : List (List Tm)).length = 1 from rfl] at C12a
  have C13 := Lib.hid fun w' (k : Kept w w') => alive13_any w' (hp.kept k)
  have K2 := kept_alloc K1 (.cells #[.slice A p.length c] 25)
  have o3' := o3.alloc (.cells #[.slice A p.length c] 25)
  have o4'' := o4'.alloc (.cells #[.slice A p.length c] 25)
  clear o4 hw0
  rw [hf] at C12a
  have C12b := Lib.hid (few12_any 60 ls B d (w0.alloc (.cells #[.slice A p.length c] 25)) (by decide) (by decide) (hL.kept K2) h200)
  rw [hf2] at C12b
  have d1 : decide ((100 : Int) < (at'.length : Int)) = false := decide_eq_false (by omega)
  have d1' : decide (100 < at'.length) = false := decide_eq_false (by omega)
  have d2 : decide ((100 : Int) < (ls.length : Int)) = false := decide_eq_false (by omega)
  have d2' : decide (100 < ls.length) = false := decide_eq_false (by omega)
  have C25 := Lib.hid fun w' (k : Kept w w') => valid25_any P M (ls.length : Int) p A c w' (hP.kept k) hl
  rw [hv] at C25
  have C41 := Lib.hid fun w' (k : Kept w w') => small41_any (ordF P M) (ls.length : Int) p ls A B c d w' (hP.kept k) (hL.kept k) hv rfl
  have HP := Lib.hid hP
  have HL := Lib.hid hL
  have HC := Lib.hid hC
  have HV := Lib.hid hv
  have OK := Lib.hid (vld_ok hv)
  unfold fV at *
  clear hP hp hL hC hf hf2 hv h3 h4
  go_enter Tryd.func11, Tryd.ntmps11
  go_upto_region 1 with fail
  rw [← HW0.out]
  have x1 := o4'.cell (j := 1) rfl
  go_wp2_with (first
    | (go_at_call 12; ((with_reducible refine C12a.out.mono ?_); rintro e w1 ⟨rfl, rfl⟩; have y0 := o3'.cell (j := 0) rfl; have y1 := o3'.cell (j := 1) rfl; have v0 := o4''.cell (j := 0) rfl; have v1 := o4''.cell (j := 1) rfl; have v2 := o4''.cell (j := 2) rfl; have v3 := o4''.cell (j := 3) rfl))
    | (go_at_call 12; ((with_reducible refine C12b.out.mono ?_); rintro e w1 ⟨rfl, rfl⟩))
    | (go_at_call 25; ((with_reducible refine (C25.out _ K2).mono ?_); rintro e w2 ⟨rfl, k2⟩; replace K2 := kept_trans K2 k2; replace y0 := kept_cell k2 y0; replace y1 := kept_cell k2 y1; replace v0 := kept_cell k2 v0; replace v1 := kept_cell k2 v1; replace v2 := kept_cell k2 v2; replace v3 := kept_cell k2 v3))
    | (go_at_call 41; ((with_reducible refine (C41.out _ K2).mono ?_); rintro e w3 ⟨b, rfl, hb, k3⟩; replace K2 := kept_trans K2 k3; replace y0 := kept_cell k3 y0; replace y1 := kept_cell k3 y1; replace v0 := kept_cell k3 v0; replace v1 := kept_cell k3 v1; replace v2 := kept_cell k3 v2; replace v3 := kept_cell k3 v3; cases b))
    | (go_at_call 13; ((with_reducible refine (C13.out _ K2).mono ?_); rintro e w9 ⟨rfl, k9⟩; replace K2 := kept_trans K2 k9)))
  · go_ret
    exact ⟨rfl, K2⟩
  · have HSM := Lib.hid (hb.out trivial)
    clear hb
    obtain ⟨wl, rfl⟩ : ∃ x, x = w3 := ⟨_, rfl⟩
    have Y0 := Lib.hid y0; have Y1 := Lib.hid y1; have V0 := Lib.hid v0; have V1 := Lib.hid v1; have V2 := Lib.hid v2; have V3 := Lib.hid v3
    have KL := K2
    clear y0 y1 v0 v1 v2 v3 K2
    obtain ⟨m, hm⟩ : ∃ m, m = at'.length := ⟨_, rfl⟩
    have HM := Lib.hid hm
    have C32a := Lib.hid fun w' l D f (k : Kept w w') (hD : RP w' D l) (hl : l.length ≤ 140737488355328) (hv : vld (ordF P M) (m : Int) l = false) => eval32_bad P M (m : Int) l D C f at'.length e w' hD hl hv
    have C32b := Lib.hid fun w' l D f (k : Kept w w') (hD : RP w' D l) (hv : vld (ordF P M) (m : Int) l = true) (hq : allQ (ordF P M) at' = false) => eval32_arg P M (m : Int) l at' D C f e w' hD hv (HC.out.kept k) hcl (fun h => by rw [hq] at h; cases h.2)
    have C32c := Lib.hid fun w' l D f (k : Kept w w') (hD : RP w' D l) (hv : vld (ordF P M) (m : Int) l = true) (hq : allQ (ordF P M) at' = true) => eval32_any P M (m : Int) l at' D C f e w' hD hv (HC.out.kept k) (by rw [hm]) hq
    have C32d := Lib.hid fun w' l D f (k : Kept w w') (hD : RP w' D l) (hv : vld (ordF P M) (m : Int) l = true) => eval32_some P M (m : Int) l at' D C f e w' hD hv (HC.out.kept k) hcl
    rw [← hm] at C32a C32b C32c C32d V2 ⊢
    unfold fV at C32a C32b C32c C32d
    clear hm
    go_wp2_with fail
    go_loopg [7, 8, 9, 10] ls.length (fun G s7 s8 s9 s10 wr => ∃ (i : Nat) (v9 v10 : Value), i ≤ ls.length ∧ G = ls.length - i ∧ s8 = .int .i64 i ∧ s9 = v9 ∧ s10 = v10 ∧ wr.ownsRow wl.heap.size 3 1 s7 i (ints ((ls.take i).map fun l => evP P M l at')) ∧ Hid (∀ k, k < i → vld (ordF P M) (m : Int) (ls.getD k []) = true) ∧ Hid (0 < i → allQ (ordF P M) at' = true) ∧ Kept wl wr)
    case atStart => exact ⟨0, _, _, by omega, rfl, rfl, rfl, rfl, World.ownsRow_nil _ _ _ _, Lib.hid (fun k h => by omega), Lib.hid (fun h => by omega), kept_refl _⟩
    case round =>
      obtain ⟨i, v9, v10, hi, rfl, rfl, rfl, rfl, h7, HVL, HQ, KR⟩ := hrel
      have KW := kept_trans KL KR
      have y0 := kept_cell KR Y0.out; have y1 := kept_cell KR Y1.out; have v0 := kept_cell KR V0.out; have v1 := kept_cell KR V1.out; have v2 := kept_cell KR V2.out; have v3 := kept_cell KR V3.out
      by_cases hit : i < ls.length
      · have g1 : decide ((i : Int) < (ls.length : Int)) = true := decide_eq_true (by omega)
        have g2 : decide (i < ls.length) = true := decide_eq_true hit
        obtain ⟨bl, ol, El, cl, rfl, hcc, hRl, hlen⟩ := (HL.out.kept KW) i hit
        obtain ⟨l, hlx⟩ : ∃ l, l = ls.getD i [] := ⟨_, rfl⟩
        have HLX := Lib.hid hlx
        rw [← hlx] at hcc hRl hlen
        have HRL := Lib.hid hRl
        clear hlx hRl
        cases hv1 : vld (ordF P M) (m : Int) l with
        | false =>
          have C1 := Lib.hid fun w' (k : Kept wr w') => C32a.out w' l El cl (kept_trans KW k) (HRL.out.kept k) hlen hv1
          clear hv1
          go_upto_region 7 with fail
          refine region_x (fun w' => Kept wr w') [] (by kernel_rfl) (kept_drew (kept_refl _)) (fun hHeld => ?_)
          refine x_take (i := 0) (oi := { dst := some 84, op := Op.load 23 (Operand.tmp 3), type := 23, pos := "law.go:263", after := #[], guard := none }) (v := ?_) rfl (by kernel_rfl) (by kernel_rfl) (by kernel_rfl) (by kernel_rfl) (by kernel_rfl) (fun _ _ _ h => h) (Or.inl ⟨rfl, ?_⟩) (by assumption) ?_
          rotate_left
          · (intro w' hSw; replace y0 := kept_cell hSw y0; replace y1 := kept_cell hSw y1; replace v0 := kept_cell hSw v0; replace v1 := kept_cell hSw v1; replace v2 := kept_cell hSw v2; replace v3 := kept_cell hSw v3; replace hcc := kept_cell hSw hcc; go_simp; try with_reducible rfl)
          try simp only [Act.put, List.setIfInBounds_toArray, List.set_cons_zero, List.set_cons_succ]
          refine x_take (i := 1) (oi := { dst := some 85, op := Op.fieldAddr 74 (Operand.tmp 4) 2, type := 0, pos := "law.go:263", after := #[], guard := none }) (v := ?_) rfl (by kernel_rfl) (by kernel_rfl) (by kernel_rfl) (by kernel_rfl) (by kernel_rfl) (fun _ _ _ h => h) (Or.inl ⟨rfl, ?_⟩) (by assumption) ?_
          rotate_left
          · (intro w' hSw; replace y0 := kept_cell hSw y0; replace y1 := kept_cell hSw y1; replace v0 := kept_cell hSw v0; replace v1 := kept_cell hSw v1; replace v2 := kept_cell hSw v2; replace v3 := kept_cell hSw v3; replace hcc := kept_cell hSw hcc; go_simp; try with_reducible rfl)
          try simp only [Act.put, List.setIfInBounds_toArray, List.set_cons_zero, List.set_cons_succ]
          refine x_take (i := 2) (oi := { dst := some 86, op := Op.load 3 (Operand.tmp 85), type := 3, pos := "law.go:263", after := #[{ on := 1, ground := Ground.data }], guard := none }) (v := ?_) rfl (by kernel_rfl) (by kernel_rfl) (by kernel_rfl) (by kernel_rfl) (by kernel_rfl) (fun _ _ _ h => h) (Or.inl ⟨rfl, ?_⟩) (by assumption) ?_
          rotate_left
          · (intro w' hSw; replace y0 := kept_cell hSw y0; replace y1 := kept_cell hSw y1; replace v0 := kept_cell hSw v0; replace v1 := kept_cell hSw v1; replace v2 := kept_cell hSw v2; replace v3 := kept_cell hSw v3; replace hcc := kept_cell hSw hcc; go_simp; try with_reducible rfl)
          try simp only [Act.put, List.setIfInBounds_toArray, List.set_cons_zero, List.set_cons_succ]
          refine x_take (i := 3) (oi := { dst := some 87, op := Op.fieldAddr 74 (Operand.tmp 4) 3, type := 0, pos := "law.go:263", after := #[], guard := none }) (v := ?_) rfl (by kernel_rfl) (by kernel_rfl) (by kernel_rfl) (by kernel_rfl) (by kernel_rfl) (fun _ _ _ h => h) (Or.inl ⟨rfl, ?_⟩) (by assumption) ?_
          rotate_left
          · (intro w' hSw; replace y0 := kept_cell hSw y0; replace y1 := kept_cell hSw y1; replace v0 := kept_cell hSw v0; replace v1 := kept_cell hSw v1; replace v2 := kept_cell hSw v2; replace v3 := kept_cell hSw v3; replace hcc := kept_cell hSw hcc; go_simp; try with_reducible rfl)
          try simp only [Act.put, List.setIfInBounds_toArray, List.set_cons_zero, List.set_cons_succ]
          refine x_take (i := 4) (oi := { dst := some 88, op := Op.load 72 (Operand.tmp 87), type := 72, pos := "law.go:263", after := #[{ on := 3, ground := Ground.data }], guard := none }) (v := ?_) rfl (by kernel_rfl) (by kernel_rfl) (by kernel_rfl) (by kernel_rfl) (by kernel_rfl) (fun _ _ _ h => h) (Or.inl ⟨rfl, ?_⟩) (by assumption) ?_
          rotate_left
          · (intro w' hSw; replace y0 := kept_cell hSw y0; replace y1 := kept_cell hSw y1; replace v0 := kept_cell hSw v0; replace v1 := kept_cell hSw v1; replace v2 := kept_cell hSw v2; replace v3 := kept_cell hSw v3; replace hcc := kept_cell hSw hcc; go_simp; try with_reducible rfl)
          try simp only [Act.put, List.setIfInBounds_toArray, List.set_cons_zero, List.set_cons_succ]
          refine x_take (i := 5) (oi := { dst := some 89, op := Op.move (Operand.tmp 8), type := 3, pos := "law.go:263", after := #[], guard := none }) (v := ?_) rfl (by kernel_rfl) (by kernel_rfl) (by kernel_rfl) (by kernel_rfl) (by kernel_rfl) (fun _ _ _ h => h) (Or.inl ⟨rfl, ?_⟩) (by assumption) ?_
          rotate_left
          · (intro w' hSw; replace y0 := kept_cell hSw y0; replace y1 := kept_cell hSw y1; replace v0 := kept_cell hSw v0; replace v1 := kept_cell hSw v1; replace v2 := kept_cell hSw v2; replace v3 := kept_cell hSw v3; replace hcc := kept_cell hSw hcc; go_simp; try with_reducible rfl)
          try simp only [Act.put, List.setIfInBounds_toArray, List.set_cons_zero, List.set_cons_succ]
          refine x_take (i := 6) (oi := { dst := some 90, op := Op.indexAddr 72 (Operand.tmp 88) (Operand.tmp 89), type := 0, pos := "law.go:263", after := #[{ on := 4, ground := Ground.data }, { on := 5, ground := Ground.data }], guard := none }) (v := ?_) rfl (by kernel_rfl) (by kernel_rfl) (by kernel_rfl) (by kernel_rfl) (by kernel_rfl) (fun _ _ _ h => h) (Or.inl ⟨rfl, ?_⟩) (by assumption) ?_
          rotate_left
          · (intro w' hSw; replace y0 := kept_cell hSw y0; replace y1 := kept_cell hSw y1; replace v0 := kept_cell hSw v0; replace v1 := kept_cell hSw v1; replace v2 := kept_cell hSw v2; replace v3 := kept_cell hSw v3; replace hcc := kept_cell hSw hcc; go_simp; try with_reducible rfl)
          try simp only [Act.put, List.setIfInBounds_toArray, List.set_cons_zero, List.set_cons_succ]
          refine x_take (i := 7) (oi := { dst := some 91, op := Op.load 25 (Operand.tmp 90), type := 25, pos := "law.go:263", after := #[{ on := 6, ground := Ground.data }], guard := none }) (v := ?_) rfl (by kernel_rfl) (by kernel_rfl) (by kernel_rfl) (by kernel_rfl) (by kernel_rfl) (fun _ _ _ h => h) (Or.inl ⟨rfl, ?_⟩) (by assumption) ?_
          rotate_left
          · (intro w' hSw; replace y0 := kept_cell hSw y0; replace y1 := kept_cell hSw y1; replace v0 := kept_cell hSw v0; replace v1 := kept_cell hSw v1; replace v2 := kept_cell hSw v2; replace v3 := kept_cell hSw v3; replace hcc := kept_cell hSw hcc; go_simp; try with_reducible rfl)
          try simp only [Act.put, List.setIfInBounds_toArray, List.set_cons_zero, List.set_cons_succ]
          refine x_take (i := 8) (oi := { dst := some 92, op := Op.move (Operand.tmp 2), type := 56, pos := "law.go:263", after := #[], guard := none }) (v := ?_) rfl (by kernel_rfl) (by kernel_rfl) (by kernel_rfl) (by kernel_rfl) (by kernel_rfl) (fun _ _ _ h => h) (Or.inl ⟨rfl, ?_⟩) (by assumption) ?_
          rotate_left
          · (intro w' hSw; replace y0 := kept_cell hSw y0; replace y1 := kept_cell hSw y1; replace v0 := kept_cell hSw v0; replace v1 := kept_cell hSw v1; replace v2 := kept_cell hSw v2; replace v3 := kept_cell hSw v3; replace hcc := kept_cell hSw hcc; go_simp; try with_reducible rfl)
          try simp only [Act.put, List.setIfInBounds_toArray, List.set_cons_zero, List.set_cons_succ]
          refine x_one (i := 9) (o := { dst := some 93, op := Op.call { callee := Callee.value (Operand.func 32), args := #[Operand.tmp 84, Operand.tmp 86, Operand.tmp 91, Operand.tmp 92], argTypes := #[23, 3, 25, 56] }, type := 43, pos := "law.go:263", after := #[{ on := 0, ground := Ground.data }, { on := 2, ground := Ground.data }, { on := 7, ground := Ground.data }, { on := 8, ground := Ground.data }], guard := none }) (by kernel_rfl) rfl (fun K hK => ?_)
          (go_simp; go_at_call 32; (with_reducible refine (C1.out _ hHeld).mono ?_); rintro e w7 ⟨rfl, k7⟩; have G7 := kept_trans hHeld k7; try dsimp only)
          refine hK.out _ _ ?_ (fun hHeld => ?_)
          · (try dsimp only); repeat (first | assumption | exact kept_refl _ | refine kept_drew ?_ | refine kept_alloc ?_ _ | refine kept_set ?_ (by omega) _)
          clear hK K
          try simp only [Act.put, List.setIfInBounds_toArray, List.set_cons_zero, List.set_cons_succ]
          refine x_take (i := 10) (oi := { dst := some 83, op := Op.move (Operand.tmp 93), type := 43, pos := "law.go:263", after := #[{ on := 9, ground := Ground.data }], guard := none }) (v := ?_) rfl (by kernel_rfl) (by kernel_rfl) (by kernel_rfl) (by kernel_rfl) (by kernel_rfl) (fun _ _ _ h => h) (Or.inl ⟨rfl, ?_⟩) (by assumption) ?_
          rotate_left
          · (intro w' hSw; replace y0 := kept_cell hSw y0; replace y1 := kept_cell hSw y1; replace v0 := kept_cell hSw v0; replace v1 := kept_cell hSw v1; replace v2 := kept_cell hSw v2; replace v3 := kept_cell hSw v3; replace hcc := kept_cell hSw hcc; go_simp; try with_reducible rfl)
          try simp only [Act.put, List.setIfInBounds_toArray, List.set_cons_zero, List.set_cons_succ]
          refine x_take (i := 11) (oi := { dst := some 94, op := Op.extract (Operand.tmp 83) 0, type := 3, pos := "law.go:263", after := #[{ on := 10, ground := Ground.data }], guard := none }) (v := ?_) rfl (by kernel_rfl) (by kernel_rfl) (by kernel_rfl) (by kernel_rfl) (by kernel_rfl) (fun _ _ _ h => h) (Or.inl ⟨rfl, ?_⟩) (by assumption) ?_
          rotate_left
          · (intro w' hSw; replace y0 := kept_cell hSw y0; replace y1 := kept_cell hSw y1; replace v0 := kept_cell hSw v0; replace v1 := kept_cell hSw v1; replace v2 := kept_cell hSw v2; replace v3 := kept_cell hSw v3; replace hcc := kept_cell hSw hcc; go_simp; try with_reducible rfl)
          try simp only [Act.put, List.setIfInBounds_toArray, List.set_cons_zero, List.set_cons_succ]
          refine x_take (i := 12) (oi := { dst := some 95, op := Op.extract (Operand.tmp 83) 1, type := 28, pos := "law.go:263", after := #[{ on := 10, ground := Ground.data }, { on := 13, ground := Ground.gcOnly Departure.lateStores }], guard := none }) (v := ?_) rfl (by kernel_rfl) (by kernel_rfl) (by kernel_rfl) (by kernel_rfl) (by kernel_rfl) (fun _ _ _ h => h) (Or.inl ⟨rfl, ?_⟩) (by assumption) ?_
          rotate_left
          · (intro w' hSw; replace y0 := kept_cell hSw y0; replace y1 := kept_cell hSw y1; replace v0 := kept_cell hSw v0; replace v1 := kept_cell hSw v1; replace v2 := kept_cell hSw v2; replace v3 := kept_cell hSw v3; replace hcc := kept_cell hSw hcc; go_simp; try with_reducible rfl)
          try simp only [Act.put, List.setIfInBounds_toArray, List.set_cons_zero, List.set_cons_succ]
          refine x_take (i := 13) (oi := { dst := some 9, op := Op.assign (Operand.tmp 94), type := 3, pos := "law.go:263", after := #[{ on := 11, ground := Ground.data }, { on := 9, ground := Ground.chain }, { on := 0, ground := Ground.phase }, { on := 1, ground := Ground.phase }, { on := 2, ground := Ground.phase }, { on := 3, ground := Ground.phase }, { on := 4, ground := Ground.phase }, { on := 5, ground := Ground.phase }, { on := 6, ground := Ground.phase }, { on := 7, ground := Ground.phase }, { on := 8, ground := Ground.phase }, { on := 9, ground := Ground.phase }, { on := 10, ground := Ground.phase }, { on := 11, ground := Ground.phase }, { on := 12, ground := Ground.textOnly Departure.lateStores }], guard := none }) (v := ?_) rfl (by kernel_rfl) (by kernel_rfl) (by kernel_rfl) (by kernel_rfl) (by kernel_rfl) (fun _ _ _ h => h) (Or.inl ⟨rfl, ?_⟩) (by assumption) ?_
          rotate_left
          · (intro w' hSw; replace y0 := kept_cell hSw y0; replace y1 := kept_cell hSw y1; replace v0 := kept_cell hSw v0; replace v1 := kept_cell hSw v1; replace v2 := kept_cell hSw v2; replace v3 := kept_cell hSw v3; replace hcc := kept_cell hSw hcc; go_simp; try with_reducible rfl)
          try simp only [Act.put, List.setIfInBounds_toArray, List.set_cons_zero, List.set_cons_succ]
          refine x_take (i := 14) (oi := { dst := some 10, op := Op.assign (Operand.tmp 95), type := 28, pos := "law.go:263", after := #[{ on := 12, ground := Ground.data }, { on := 13, ground := Ground.chain }, { on := 0, ground := Ground.phase }, { on := 1, ground := Ground.phase }, { on := 2, ground := Ground.phase }, { on := 3, ground := Ground.phase }, { on := 4, ground := Ground.phase }, { on := 5, ground := Ground.phase }, { on := 6, ground := Ground.phase }, { on := 7, ground := Ground.phase }, { on := 8, ground := Ground.phase }, { on := 9, ground := Ground.phase }, { on := 10, ground := Ground.phase }, { on := 11, ground := Ground.phase }, { on := 12, ground := Ground.phase }, { on := 13, ground := Ground.phase }], guard := none }) (v := ?_) rfl (by kernel_rfl) (by kernel_rfl) (by kernel_rfl) (by kernel_rfl) (by kernel_rfl) (fun _ _ _ h => h) (Or.inl ⟨rfl, ?_⟩) (by assumption) ?_
          rotate_left
          · (intro w' hSw; replace y0 := kept_cell hSw y0; replace y1 := kept_cell hSw y1; replace v0 := kept_cell hSw v0; replace v1 := kept_cell hSw v1; replace v2 := kept_cell hSw v2; replace v3 := kept_cell hSw v3; replace hcc := kept_cell hSw hcc; go_simp; try with_reducible rfl)
          try simp only [Act.put, List.setIfInBounds_toArray, List.set_cons_zero, List.set_cons_succ]
          refine x_done (by kernel_rfl) ?_ _
          have K2 := kept_trans KW G7
          go_wp2_with (go_at_call 13; ((with_reducible refine (C13.out _ K2).mono ?_); rintro e w9 ⟨rfl, k9⟩; replace K2 := kept_trans K2 k9))
          go_ret
          exact ⟨rfl, K2⟩
        | true =>
          cases hq1 : allQ (ordF P M) at' with
          | false =>
            have C1 := Lib.hid fun w' (k : Kept wr w') => C32b.out w' l El cl (kept_trans KW k) (HRL.out.kept k) hv1 hq1
            clear hv1 hq1
            go_upto_region 7 with fail
            refine region_x (fun w' => Kept wr w') [] (by kernel_rfl) (kept_drew (kept_refl _)) (fun hHeld => ?_)
            refine x_take (i := 0) (oi := { dst := some 84, op := Op.load 23 (Operand.tmp 3), type := 23, pos := "law.go:263", after := #[], guard := none }) (v := ?_) rfl (by kernel_rfl) (by kernel_rfl) (by kernel_rfl) (by kernel_rfl) (by kernel_rfl) (fun _ _ _ h => h) (Or.inl ⟨rfl, ?_⟩) (by assumption) ?_
            rotate_left
            · (intro w' hSw; replace y0 := kept_cell hSw y0; replace y1 := kept_cell hSw y1; replace v0 := kept_cell hSw v0; replace v1 := kept_cell hSw v1; replace v2 := kept_cell hSw v2; replace v3 := kept_cell hSw v3; replace hcc := kept_cell hSw hcc; go_simp; try with_reducible rfl)
            try simp only [Act.put, List.setIfInBounds_toArray, List.set_cons_zero, List.set_cons_succ]
            refine x_take (i := 1) (oi := { dst := some 85, op := Op.fieldAddr 74 (Operand.tmp 4) 2, type := 0, pos := "law.go:263", after := #[], guard := none }) (v := ?_) rfl (by kernel_rfl) (by kernel_rfl) (by kernel_rfl) (by kernel_rfl) (by kernel_rfl) (fun _ _ _ h => h) (Or.inl ⟨rfl, ?_⟩) (by assumption) ?_
            rotate_left
            · (intro w' hSw; replace y0 := kept_cell hSw y0; replace y1 := kept_cell hSw y1; replace v0 := kept_cell hSw v0; replace v1 := kept_cell hSw v1; replace v2 := kept_cell hSw v2; replace v3 := kept_cell hSw v3; replace hcc := kept_cell hSw hcc; go_simp; try with_reducible rfl)
            try simp only [Act.put, List.setIfInBounds_toArray, List.set_cons_zero, List.set_cons_succ]
            refine x_take (i := 2) (oi := { dst := some 86, op := Op.load 3 (Operand.tmp 85), type := 3, pos := "law.go:263", after := #[{ on := 1, ground := Ground.data }], guard := none }) (v := ?_) rfl (by kernel_rfl) (by kernel_rfl) (by kernel_rfl) (by kernel_rfl) (by kernel_rfl) (fun _ _ _ h => h) (Or.inl ⟨rfl, ?_⟩) (by assumption) ?_
            rotate_left
            · (intro w' hSw; replace y0 := kept_cell hSw y0; replace y1 := kept_cell hSw y1; replace v0 := kept_cell hSw v0; replace v1 := kept_cell hSw v1; replace v2 := kept_cell hSw v2; replace v3 := kept_cell hSw v3; replace hcc := kept_cell hSw hcc; go_simp; try with_reducible rfl)
            try simp only [Act.put, List.setIfInBounds_toArray, List.set_cons_zero, List.set_cons_succ]
            refine x_take (i := 3) (oi := { dst := some 87, op := Op.fieldAddr 74 (Operand.tmp 4) 3, type := 0, pos := "law.go:263", after := #[], guard := none }) (v := ?_) rfl (by kernel_rfl) (by kernel_rfl) (by kernel_rfl) (by kernel_rfl) (by kernel_rfl) (fun _ _ _ h => h) (Or.inl ⟨rfl, ?_⟩) (by assumption) ?_
            rotate_left
            · (intro w' hSw; replace y0 := kept_cell hSw y0; replace y1 := kept_cell hSw y1; replace v0 := kept_cell hSw v0; replace v1 := kept_cell hSw v1; replace v2 := kept_cell hSw v2; replace v3 := kept_cell hSw v3; replace hcc := kept_cell hSw hcc; go_simp; try with_reducible rfl)
            try simp only [Act.put, List.setIfInBounds_toArray, List.set_cons_zero, List.set_cons_succ]
            refine x_take (i := 4) (oi := { dst := some 88, op := Op.load 72 (Operand.tmp 87), type := 72, pos := "law.go:263", after := #[{ on := 3, ground := Ground.data }], guard := none }) (v := ?_) rfl (by kernel_rfl) (by kernel_rfl) (by kernel_rfl) (by kernel_rfl) (by kernel_rfl) (fun _ _ _ h => h) (Or.inl ⟨rfl, ?_⟩) (by assumption) ?_
            rotate_left
            · (intro w' hSw; replace y0 := kept_cell hSw y0; replace y1 := kept_cell hSw y1; replace v0 := kept_cell hSw v0; replace v1 := kept_cell hSw v1; replace v2 := kept_cell hSw v2; replace v3 := kept_cell hSw v3; replace hcc := kept_cell hSw hcc; go_simp; try with_reducible rfl)
            try simp only [Act.put, List.setIfInBounds_toArray, List.set_cons_zero, List.set_cons_succ]
            refine x_take (i := 5) (oi := { dst := some 89, op := Op.move (Operand.tmp 8), type := 3, pos := "law.go:263", after := #[], guard := none }) (v := ?_) rfl (by kernel_rfl) (by kernel_rfl) (by kernel_rfl) (by kernel_rfl) (by kernel_rfl) (fun _ _ _ h => h) (Or.inl ⟨rfl, ?_⟩) (by assumption) ?_
            rotate_left
            · (intro w' hSw; replace y0 := kept_cell hSw y0; replace y1 := kept_cell hSw y1; replace v0 := kept_cell hSw v0; replace v1 := kept_cell hSw v1; replace v2 := kept_cell hSw v2; replace v3 := kept_cell hSw v3; replace hcc := kept_cell hSw hcc; go_simp; try with_reducible rfl)
            try simp only [Act.put, List.setIfInBounds_toArray, List.set_cons_zero, List.set_cons_succ]
            refine x_take (i := 6) (oi := { dst := some 90, op := Op.indexAddr 72 (Operand.tmp 88) (Operand.tmp 89), type := 0, pos := "law.go:263", after := #[{ on := 4, ground := Ground.data }, { on := 5, ground := Ground.data }], guard := none }) (v := ?_) rfl (by kernel_rfl) (by kernel_rfl) (by kernel_rfl) (by kernel_rfl) (by kernel_rfl) (fun _ _ _ h => h) (Or.inl ⟨rfl, ?_⟩) (by assumption) ?_
            rotate_left
            · (intro w' hSw; replace y0 := kept_cell hSw y0; replace y1 := kept_cell hSw y1; replace v0 := kept_cell hSw v0; replace v1 := kept_cell hSw v1; replace v2 := kept_cell hSw v2; replace v3 := kept_cell hSw v3; replace hcc := kept_cell hSw hcc; go_simp; try with_reducible rfl)
            try simp only [Act.put, List.setIfInBounds_toArray, List.set_cons_zero, List.set_cons_succ]
            refine x_take (i := 7) (oi := { dst := some 91, op := Op.load 25 (Operand.tmp 90), type := 25, pos := "law.go:263", after := #[{ on := 6, ground := Ground.data }], guard := none }) (v := ?_) rfl (by kernel_rfl) (by kernel_rfl) (by kernel_rfl) (by kernel_rfl) (by kernel_rfl) (fun _ _ _ h => h) (Or.inl ⟨rfl, ?_⟩) (by assumption) ?_
            rotate_left
            · (intro w' hSw; replace y0 := kept_cell hSw y0; replace y1 := kept_cell hSw y1; replace v0 := kept_cell hSw v0; replace v1 := kept_cell hSw v1; replace v2 := kept_cell hSw v2; replace v3 := kept_cell hSw v3; replace hcc := kept_cell hSw hcc; go_simp; try with_reducible rfl)
            try simp only [Act.put, List.setIfInBounds_toArray, List.set_cons_zero, List.set_cons_succ]
            refine x_take (i := 8) (oi := { dst := some 92, op := Op.move (Operand.tmp 2), type := 56, pos := "law.go:263", after := #[], guard := none }) (v := ?_) rfl (by kernel_rfl) (by kernel_rfl) (by kernel_rfl) (by kernel_rfl) (by kernel_rfl) (fun _ _ _ h => h) (Or.inl ⟨rfl, ?_⟩) (by assumption) ?_
            rotate_left
            · (intro w' hSw; replace y0 := kept_cell hSw y0; replace y1 := kept_cell hSw y1; replace v0 := kept_cell hSw v0; replace v1 := kept_cell hSw v1; replace v2 := kept_cell hSw v2; replace v3 := kept_cell hSw v3; replace hcc := kept_cell hSw hcc; go_simp; try with_reducible rfl)
            try simp only [Act.put, List.setIfInBounds_toArray, List.set_cons_zero, List.set_cons_succ]
            refine x_one (i := 9) (o := { dst := some 93, op := Op.call { callee := Callee.value (Operand.func 32), args := #[Operand.tmp 84, Operand.tmp 86, Operand.tmp 91, Operand.tmp 92], argTypes := #[23, 3, 25, 56] }, type := 43, pos := "law.go:263", after := #[{ on := 0, ground := Ground.data }, { on := 2, ground := Ground.data }, { on := 7, ground := Ground.data }, { on := 8, ground := Ground.data }], guard := none }) (by kernel_rfl) rfl (fun K hK => ?_)
            (go_simp; go_at_call 32; (with_reducible refine (C1.out _ hHeld).mono ?_); rintro e w7 ⟨rfl, k7⟩; have G7 := kept_trans hHeld k7; try dsimp only)
            refine hK.out _ _ ?_ (fun hHeld => ?_)
            · (try dsimp only); repeat (first | assumption | exact kept_refl _ | refine kept_drew ?_ | refine kept_alloc ?_ _ | refine kept_set ?_ (by omega) _)
            clear hK K
            try simp only [Act.put, List.setIfInBounds_toArray, List.set_cons_zero, List.set_cons_succ]
            refine x_take (i := 10) (oi := { dst := some 83, op := Op.move (Operand.tmp 93), type := 43, pos := "law.go:263", after := #[{ on := 9, ground := Ground.data }], guard := none }) (v := ?_) rfl (by kernel_rfl) (by kernel_rfl) (by kernel_rfl) (by kernel_rfl) (by kernel_rfl) (fun _ _ _ h => h) (Or.inl ⟨rfl, ?_⟩) (by assumption) ?_
            rotate_left
            · (intro w' hSw; replace y0 := kept_cell hSw y0; replace y1 := kept_cell hSw y1; replace v0 := kept_cell hSw v0; replace v1 := kept_cell hSw v1; replace v2 := kept_cell hSw v2; replace v3 := kept_cell hSw v3; replace hcc := kept_cell hSw hcc; go_simp; try with_reducible rfl)
            try simp only [Act.put, List.setIfInBounds_toArray, List.set_cons_zero, List.set_cons_succ]
            refine x_take (i := 11) (oi := { dst := some 94, op := Op.extract (Operand.tmp 83) 0, type := 3, pos := "law.go:263", after := #[{ on := 10, ground := Ground.data }], guard := none }) (v := ?_) rfl (by kernel_rfl) (by kernel_rfl) (by kernel_rfl) (by kernel_rfl) (by kernel_rfl) (fun _ _ _ h => h) (Or.inl ⟨rfl, ?_⟩) (by assumption) ?_
            rotate_left
            · (intro w' hSw; replace y0 := kept_cell hSw y0; replace y1 := kept_cell hSw y1; replace v0 := kept_cell hSw v0; replace v1 := kept_cell hSw v1; replace v2 := kept_cell hSw v2; replace v3 := kept_cell hSw v3; replace hcc := kept_cell hSw hcc; go_simp; try with_reducible rfl)
            try simp only [Act.put, List.setIfInBounds_toArray, List.set_cons_zero, List.set_cons_succ]
            refine x_take (i := 12) (oi := { dst := some 95, op := Op.extract (Operand.tmp 83) 1, type := 28, pos := "law.go:263", after := #[{ on := 10, ground := Ground.data }, { on := 13, ground := Ground.gcOnly Departure.lateStores }], guard := none }) (v := ?_) rfl (by kernel_rfl) (by kernel_rfl) (by kernel_rfl) (by kernel_rfl) (by kernel_rfl) (fun _ _ _ h => h) (Or.inl ⟨rfl, ?_⟩) (by assumption) ?_
            rotate_left
            · (intro w' hSw; replace y0 := kept_cell hSw y0; replace y1 := kept_cell hSw y1; replace v0 := kept_cell hSw v0; replace v1 := kept_cell hSw v1; replace v2 := kept_cell hSw v2; replace v3 := kept_cell hSw v3; replace hcc := kept_cell hSw hcc; go_simp; try with_reducible rfl)
            try simp only [Act.put, List.setIfInBounds_toArray, List.set_cons_zero, List.set_cons_succ]
            refine x_take (i := 13) (oi := { dst := some 9, op := Op.assign (Operand.tmp 94), type := 3, pos := "law.go:263", after := #[{ on := 11, ground := Ground.data }, { on := 9, ground := Ground.chain }, { on := 0, ground := Ground.phase }, { on := 1, ground := Ground.phase }, { on := 2, ground := Ground.phase }, { on := 3, ground := Ground.phase }, { on := 4, ground := Ground.phase }, { on := 5, ground := Ground.phase }, { on := 6, ground := Ground.phase }, { on := 7, ground := Ground.phase }, { on := 8, ground := Ground.phase }, { on := 9, ground := Ground.phase }, { on := 10, ground := Ground.phase }, { on := 11, ground := Ground.phase }, { on := 12, ground := Ground.textOnly Departure.lateStores }], guard := none }) (v := ?_) rfl (by kernel_rfl) (by kernel_rfl) (by kernel_rfl) (by kernel_rfl) (by kernel_rfl) (fun _ _ _ h => h) (Or.inl ⟨rfl, ?_⟩) (by assumption) ?_
            rotate_left
            · (intro w' hSw; replace y0 := kept_cell hSw y0; replace y1 := kept_cell hSw y1; replace v0 := kept_cell hSw v0; replace v1 := kept_cell hSw v1; replace v2 := kept_cell hSw v2; replace v3 := kept_cell hSw v3; replace hcc := kept_cell hSw hcc; go_simp; try with_reducible rfl)
            try simp only [Act.put, List.setIfInBounds_toArray, List.set_cons_zero, List.set_cons_succ]
            refine x_take (i := 14) (oi := { dst := some 10, op := Op.assign (Operand.tmp 95), type := 28, pos := "law.go:263", after := #[{ on := 12, ground := Ground.data }, { on := 13, ground := Ground.chain }, { on := 0, ground := Ground.phase }, { on := 1, ground := Ground.phase }, { on := 2, ground := Ground.phase }, { on := 3, ground := Ground.phase }, { on := 4, ground := Ground.phase }, { on := 5, ground := Ground.phase }, { on := 6, ground := Ground.phase }, { on := 7, ground := Ground.phase }, { on := 8, ground := Ground.phase }, { on := 9, ground := Ground.phase }, { on := 10, ground := Ground.phase }, { on := 11, ground := Ground.phase }, { on := 12, ground := Ground.phase }, { on := 13, ground := Ground.phase }], guard := none }) (v := ?_) rfl (by kernel_rfl) (by kernel_rfl) (by kernel_rfl) (by kernel_rfl) (by kernel_rfl) (fun _ _ _ h => h) (Or.inl ⟨rfl, ?_⟩) (by assumption) ?_
            rotate_left
            · (intro w' hSw; replace y0 := kept_cell hSw y0; replace y1 := kept_cell hSw y1; replace v0 := kept_cell hSw v0; replace v1 := kept_cell hSw v1; replace v2 := kept_cell hSw v2; replace v3 := kept_cell hSw v3; replace hcc := kept_cell hSw hcc; go_simp; try with_reducible rfl)
            try simp only [Act.put, List.setIfInBounds_toArray, List.set_cons_zero, List.set_cons_succ]
            refine x_done (by kernel_rfl) ?_ _
            have K2 := kept_trans KW G7
            go_wp2_with (go_at_call 13; ((with_reducible refine (C13.out _ K2).mono ?_); rintro e w9 ⟨rfl, k9⟩; replace K2 := kept_trans K2 k9))
            go_ret
            exact ⟨rfl, K2⟩
          | true =>
            have C1 := Lib.hid fun w' (k : Kept wr w') => C32c.out w' l El cl (kept_trans KW k) (HRL.out.kept k) hv1 hq1
            have HV2 := Lib.hid (show ∀ k, k < i + 1 → vld (ordF P M) (m : Int) (ls.getD k []) = true from fun k h => by
              rcases Nat.lt_succ_iff_lt_or_eq.1 h with h | rfl
              · exact HVL.out k h
              · rw [← HLX.out]; exact hv1)
            have HQ2 := Lib.hid (show 0 < i + 1 → allQ (ordF P M) at' = true from fun _ => hq1)
            obtain ⟨va, hva⟩ : ∃ x, x = evP P M l at' := ⟨_, rfl⟩
            rw [← hva] at C1
            have HVA := Lib.hid (show (ls.take (i + 1)).map (fun l => evP P M l at') = (ls.take i).map (fun l => evP P M l at') ++ [va] by
              rw [List.take_add_one, List.map_append, List.getElem?_eq_getElem hit]
              have e5 : ls[i] = l := by rw [HLX.out, List.getD_eq_getElem?_getD, List.getElem?_eq_getElem hit]; rfl
              simp [e5, hva])
            obtain ⟨L7, hL7⟩ : ∃ L, L = (ls.take i).map (fun l => evP P M l at') := ⟨_, rfl⟩
            rw [← hL7] at h7 HVA
            clear hv1 hq1 hva hL7
            go_upto_region 7 with fail
            refine region_x (fun w' => Kept wr w') [] (by kernel_rfl) (kept_drew (kept_refl _)) (fun hHeld => ?_)
            refine x_take (i := 0) (oi := { dst := some 84, op := Op.load 23 (Operand.tmp 3), type := 23, pos := "law.go:263", after := #[], guard := none }) (v := ?_) rfl (by kernel_rfl) (by kernel_rfl) (by kernel_rfl) (by kernel_rfl) (by kernel_rfl) (fun _ _ _ h => h) (Or.inl ⟨rfl, ?_⟩) (by assumption) ?_
            rotate_left
            · (intro w' hSw; replace y0 := kept_cell hSw y0; replace y1 := kept_cell hSw y1; replace v0 := kept_cell hSw v0; replace v1 := kept_cell hSw v1; replace v2 := kept_cell hSw v2; replace v3 := kept_cell hSw v3; replace hcc := kept_cell hSw hcc; go_simp; try with_reducible rfl)
            try simp only [Act.put, List.setIfInBounds_toArray, List.set_cons_zero, List.set_cons_succ]
            refine x_take (i := 1) (oi := { dst := some 85, op := Op.fieldAddr 74 (Operand.tmp 4) 2, type := 0, pos := "law.go:263", after := #[], guard := none }) (v := ?_) rfl (by kernel_rfl) (by kernel_rfl) (by kernel_rfl) (by kernel_rfl) (by kernel_rfl) (fun _ _ _ h => h) (Or.inl ⟨rfl, ?_⟩) (by assumption) ?_
            rotate_left
            · (intro w' hSw; replace y0 := kept_cell hSw y0; replace y1 := kept_cell hSw y1; replace v0 := kept_cell hSw v0; replace v1 := kept_cell hSw v1; replace v2 := kept_cell hSw v2; replace v3 := kept_cell hSw v3; replace hcc := kept_cell hSw hcc; go_simp; try with_reducible rfl)
            try simp only [Act.put, List.setIfInBounds_toArray, List.set_cons_zero, List.set_cons_succ]
            refine x_take (i := 2) (oi := { dst := some 86, op := Op.load 3 (Operand.tmp 85), type := 3, pos := "law.go:263", after := #[{ on := 1, ground := Ground.data }], guard := none }) (v := ?_) rfl (by kernel_rfl) (by kernel_rfl) (by kernel_rfl) (by kernel_rfl) (by kernel_rfl) (fun _ _ _ h => h) (Or.inl ⟨rfl, ?_⟩) (by assumption) ?_
            rotate_left
            · (intro w' hSw; replace y0 := kept_cell hSw y0; replace y1 := kept_cell hSw y1; replace v0 := kept_cell hSw v0; replace v1 := kept_cell hSw v1; replace v2 := kept_cell hSw v2; replace v3 := kept_cell hSw v3; replace hcc := kept_cell hSw hcc; go_simp; try with_reducible rfl)
            try simp only [Act.put, List.setIfInBounds_toArray, List.set_cons_zero, List.set_cons_succ]
            refine x_take (i := 3) (oi := { dst := some 87, op := Op.fieldAddr 74 (Operand.tmp 4) 3, type := 0, pos := "law.go:263", after := #[], guard := none }) (v := ?_) rfl (by kernel_rfl) (by kernel_rfl) (by kernel_rfl) (by kernel_rfl) (by kernel_rfl) (fun _ _ _ h => h) (Or.inl ⟨rfl, ?_⟩) (by assumption) ?_
            rotate_left
            · (intro w' hSw; replace y0 := kept_cell hSw y0; replace y1 := kept_cell hSw y1; replace v0 := kept_cell hSw v0; replace v1 := kept_cell hSw v1; replace v2 := kept_cell hSw v2; replace v3 := kept_cell hSw v3; replace hcc := kept_cell hSw hcc; go_simp; try with_reducible rfl)
            try simp only [Act.put, List.setIfInBounds_toArray, List.set_cons_zero, List.set_cons_succ]
            refine x_take (i := 4) (oi := { dst := some 88, op := Op.load 72 (Operand.tmp 87), type := 72, pos := "law.go:263", after := #[{ on := 3, ground := Ground.data }], guard := none }) (v := ?_) rfl (by kernel_rfl) (by kernel_rfl) (by kernel_rfl) (by kernel_rfl) (by kernel_rfl) (fun _ _ _ h => h) (Or.inl ⟨rfl, ?_⟩) (by assumption) ?_
            rotate_left
            · (intro w' hSw; replace y0 := kept_cell hSw y0; replace y1 := kept_cell hSw y1; replace v0 := kept_cell hSw v0; replace v1 := kept_cell hSw v1; replace v2 := kept_cell hSw v2; replace v3 := kept_cell hSw v3; replace hcc := kept_cell hSw hcc; go_simp; try with_reducible rfl)
            try simp only [Act.put, List.setIfInBounds_toArray, List.set_cons_zero, List.set_cons_succ]
            refine x_take (i := 5) (oi := { dst := some 89, op := Op.move (Operand.tmp 8), type := 3, pos := "law.go:263", after := #[], guard := none }) (v := ?_) rfl (by kernel_rfl) (by kernel_rfl) (by kernel_rfl) (by kernel_rfl) (by kernel_rfl) (fun _ _ _ h => h) (Or.inl ⟨rfl, ?_⟩) (by assumption) ?_
            rotate_left
            · (intro w' hSw; replace y0 := kept_cell hSw y0; replace y1 := kept_cell hSw y1; replace v0 := kept_cell hSw v0; replace v1 := kept_cell hSw v1; replace v2 := kept_cell hSw v2; replace v3 := kept_cell hSw v3; replace hcc := kept_cell hSw hcc; go_simp; try with_reducible rfl)
            try simp only [Act.put, List.setIfInBounds_toArray, List.set_cons_zero, List.set_cons_succ]
            refine x_take (i := 6) (oi := { dst := some 90, op := Op.indexAddr 72 (Operand.tmp 88) (Operand.tmp 89), type := 0, pos := "law.go:263", after := #[{ on := 4, ground := Ground.data }, { on := 5, ground := Ground.data }], guard := none }) (v := ?_) rfl (by kernel_rfl) (by kernel_rfl) (by kernel_rfl) (by kernel_rfl) (by kernel_rfl) (fun _ _ _ h => h) (Or.inl ⟨rfl, ?_⟩) (by assumption) ?_
            rotate_left
            · (intro w' hSw; replace y0 := kept_cell hSw y0; replace y1 := kept_cell hSw y1; replace v0 := kept_cell hSw v0; replace v1 := kept_cell hSw v1; replace v2 := kept_cell hSw v2; replace v3 := kept_cell hSw v3; replace hcc := kept_cell hSw hcc; go_simp; try with_reducible rfl)
            try simp only [Act.put, List.setIfInBounds_toArray, List.set_cons_zero, List.set_cons_succ]
            refine x_take (i := 7) (oi := { dst := some 91, op := Op.load 25 (Operand.tmp 90), type := 25, pos := "law.go:263", after := #[{ on := 6, ground := Ground.data }], guard := none }) (v := ?_) rfl (by kernel_rfl) (by kernel_rfl) (by kernel_rfl) (by kernel_rfl) (by kernel_rfl) (fun _ _ _ h => h) (Or.inl ⟨rfl, ?_⟩) (by assumption) ?_
            rotate_left
            · (intro w' hSw; replace y0 := kept_cell hSw y0; replace y1 := kept_cell hSw y1; replace v0 := kept_cell hSw v0; replace v1 := kept_cell hSw v1; replace v2 := kept_cell hSw v2; replace v3 := kept_cell hSw v3; replace hcc := kept_cell hSw hcc; go_simp; try with_reducible rfl)
            try simp only [Act.put, List.setIfInBounds_toArray, List.set_cons_zero, List.set_cons_succ]
            refine x_take (i := 8) (oi := { dst := some 92, op := Op.move (Operand.tmp 2), type := 56, pos := "law.go:263", after := #[], guard := none }) (v := ?_) rfl (by kernel_rfl) (by kernel_rfl) (by kernel_rfl) (by kernel_rfl) (by kernel_rfl) (fun _ _ _ h => h) (Or.inl ⟨rfl, ?_⟩) (by assumption) ?_
            rotate_left
            · (intro w' hSw; replace y0 := kept_cell hSw y0; replace y1 := kept_cell hSw y1; replace v0 := kept_cell hSw v0; replace v1 := kept_cell hSw v1; replace v2 := kept_cell hSw v2; replace v3 := kept_cell hSw v3; replace hcc := kept_cell hSw hcc; go_simp; try with_reducible rfl)
            try simp only [Act.put, List.setIfInBounds_toArray, List.set_cons_zero, List.set_cons_succ]
            refine x_one (i := 9) (o := { dst := some 93, op := Op.call { callee := Callee.value (Operand.func 32), args := #[Operand.tmp 84, Operand.tmp 86, Operand.tmp 91, Operand.tmp 92], argTypes := #[23, 3, 25, 56] }, type := 43, pos := "law.go:263", after := #[{ on := 0, ground := Ground.data }, { on := 2, ground := Ground.data }, { on := 7, ground := Ground.data }, { on := 8, ground := Ground.data }], guard := none }) (by kernel_rfl) rfl (fun K hK => ?_)
            (go_simp; go_at_call 32; (with_reducible refine (C1.out _ hHeld).mono ?_); rintro e w7 ⟨rfl, k7⟩; have G7 := kept_trans hHeld k7; try dsimp only)
            refine hK.out _ _ ?_ (fun hHeld => ?_)
            · (try dsimp only); repeat (first | assumption | exact kept_refl _ | refine kept_drew ?_ | refine kept_alloc ?_ _ | refine kept_set ?_ (by omega) _)
            clear hK K
            try simp only [Act.put, List.setIfInBounds_toArray, List.set_cons_zero, List.set_cons_succ]
            refine x_take (i := 10) (oi := { dst := some 83, op := Op.move (Operand.tmp 93), type := 43, pos := "law.go:263", after := #[{ on := 9, ground := Ground.data }], guard := none }) (v := ?_) rfl (by kernel_rfl) (by kernel_rfl) (by kernel_rfl) (by kernel_rfl) (by kernel_rfl) (fun _ _ _ h => h) (Or.inl ⟨rfl, ?_⟩) (by assumption) ?_
            rotate_left
            · (intro w' hSw; replace y0 := kept_cell hSw y0; replace y1 := kept_cell hSw y1; replace v0 := kept_cell hSw v0; replace v1 := kept_cell hSw v1; replace v2 := kept_cell hSw v2; replace v3 := kept_cell hSw v3; replace hcc := kept_cell hSw hcc; go_simp; try with_reducible rfl)
            try simp only [Act.put, List.setIfInBounds_toArray, List.set_cons_zero, List.set_cons_succ]
            refine x_take (i := 11) (oi := { dst := some 94, op := Op.extract (Operand.tmp 83) 0, type := 3, pos := "law.go:263", after := #[{ on := 10, ground := Ground.data }], guard := none }) (v := ?_) rfl (by kernel_rfl) (by kernel_rfl) (by kernel_rfl) (by kernel_rfl) (by kernel_rfl) (fun _ _ _ h => h) (Or.inl ⟨rfl, ?_⟩) (by assumption) ?_
            rotate_left
            · (intro w' hSw; replace y0 := kept_cell hSw y0; replace y1 := kept_cell hSw y1; replace v0 := kept_cell hSw v0; replace v1 := kept_cell hSw v1; replace v2 := kept_cell hSw v2; replace v3 := kept_cell hSw v3; replace hcc := kept_cell hSw hcc; go_simp; try with_reducible rfl)
            try simp only [Act.put, List.setIfInBounds_toArray, List.set_cons_zero, List.set_cons_succ]
            refine x_take (i := 12) (oi := { dst := some 95, op := Op.extract (Operand.tmp 83) 1, type := 28, pos := "law.go:263", after := #[{ on := 10, ground := Ground.data }, { on := 13, ground := Ground.gcOnly Departure.lateStores }], guard := none }) (v := ?_) rfl (by kernel_rfl) (by kernel_rfl) (by kernel_rfl) (by kernel_rfl) (by kernel_rfl) (fun _ _ _ h => h) (Or.inl ⟨rfl, ?_⟩) (by assumption) ?_
            rotate_left
            · (intro w' hSw; replace y0 := kept_cell hSw y0; replace y1 := kept_cell hSw y1; replace v0 := kept_cell hSw v0; replace v1 := kept_cell hSw v1; replace v2 := kept_cell hSw v2; replace v3 := kept_cell hSw v3; replace hcc := kept_cell hSw hcc; go_simp; try with_reducible rfl)
            try simp only [Act.put, List.setIfInBounds_toArray, List.set_cons_zero, List.set_cons_succ]
            refine x_take (i := 13) (oi := { dst := some 9, op := Op.assign (Operand.tmp 94), type := 3, pos := "law.go:263", after := #[{ on := 11, ground := Ground.data }, { on := 9, ground := Ground.chain }, { on := 0, ground := Ground.phase }, { on := 1, ground := Ground.phase }, { on := 2, ground := Ground.phase }, { on := 3, ground := Ground.phase }, { on := 4, ground := Ground.phase }, { on := 5, ground := Ground.phase }, { on := 6, ground := Ground.phase }, { on := 7, ground := Ground.phase }, { on := 8, ground := Ground.phase }, { on := 9, ground := Ground.phase }, { on := 10, ground := Ground.phase }, { on := 11, ground := Ground.phase }, { on := 12, ground := Ground.textOnly Departure.lateStores }], guard := none }) (v := ?_) rfl (by kernel_rfl) (by kernel_rfl) (by kernel_rfl) (by kernel_rfl) (by kernel_rfl) (fun _ _ _ h => h) (Or.inl ⟨rfl, ?_⟩) (by assumption) ?_
            rotate_left
            · (intro w' hSw; replace y0 := kept_cell hSw y0; replace y1 := kept_cell hSw y1; replace v0 := kept_cell hSw v0; replace v1 := kept_cell hSw v1; replace v2 := kept_cell hSw v2; replace v3 := kept_cell hSw v3; replace hcc := kept_cell hSw hcc; go_simp; try with_reducible rfl)
            try simp only [Act.put, List.setIfInBounds_toArray, List.set_cons_zero, List.set_cons_succ]
            refine x_take (i := 14) (oi := { dst := some 10, op := Op.assign (Operand.tmp 95), type := 28, pos := "law.go:263", after := #[{ on := 12, ground := Ground.data }, { on := 13, ground := Ground.chain }, { on := 0, ground := Ground.phase }, { on := 1, ground := Ground.phase }, { on := 2, ground := Ground.phase }, { on := 3, ground := Ground.phase }, { on := 4, ground := Ground.phase }, { on := 5, ground := Ground.phase }, { on := 6, ground := Ground.phase }, { on := 7, ground := Ground.phase }, { on := 8, ground := Ground.phase }, { on := 9, ground := Ground.phase }, { on := 10, ground := Ground.phase }, { on := 11, ground := Ground.phase }, { on := 12, ground := Ground.phase }, { on := 13, ground := Ground.phase }], guard := none }) (v := ?_) rfl (by kernel_rfl) (by kernel_rfl) (by kernel_rfl) (by kernel_rfl) (by kernel_rfl) (fun _ _ _ h => h) (Or.inl ⟨rfl, ?_⟩) (by assumption) ?_
            rotate_left
            · (intro w' hSw; replace y0 := kept_cell hSw y0; replace y1 := kept_cell hSw y1; replace v0 := kept_cell hSw v0; replace v1 := kept_cell hSw v1; replace v2 := kept_cell hSw v2; replace v3 := kept_cell hSw v3; replace hcc := kept_cell hSw hcc; go_simp; try with_reducible rfl)
            try simp only [Act.put, List.setIfInBounds_toArray, List.set_cons_zero, List.set_cons_succ]
            refine x_done (by kernel_rfl) ?_ _
            have h77 := row_kept h7 G7
            have KR7 := kept_trans KR G7
            have hsz := KR7.size
            clear y0 y1 v0 v1 v2 v3 hcc
            go_wp2_with (at_builtin; go_loud (refine app_law wl.heap.size rfl (.tmp 99) (.tmp 101) 56 3 (.int .i64 0) 1 8 rfl Tryd.underlying56 info3 rfl (by omega) (by omega) u7 i 1 (ints L7) [.int .i64 va] rfl rfl rfl (by intro u hu; rw [List.mem_singleton.1 hu]; rfl) h77 hsz (by omega) ?_; intro v8 w8 hr8 hg8 _))
            go_roundg (ls.length - (i + 1))
            case rel => exact ⟨i + 1, _, _, by omega, rfl, by go_num, rfl, rfl, by (rw [HVA.out]; simpa [ints] using hr8), HV2, HQ2, kept_grown KR7 h77 (Nat.le_refl _) hg8⟩
            case measure => omega
      · obtain rfl : i = ls.length := by omega
        have g1 : decide ((ls.length : Int) < (ls.length : Int)) = false := decide_eq_false (by omega)
        have g2 : decide (ls.length < ls.length) = false := decide_eq_false (by omega)
        obtain ⟨A7, c7, rfl⟩ := row_val h7
        rw [List.take_length] at h7
        have K2 := KW
        have KX := kept_refl wr
        by_cases hm80 : 80 < m
        · have C42 := Lib.hid (subst42_over P M (ls.length : Int) (m : Int) p ls A B c d wr (HP.out.kept KW) HV.out (by omega))
          unfold NilErr fV at C42
          clear h7 hm80
          go_wp2_with (first
            | (go_at_call 42; ((with_reducible refine C42.out.mono ?_); rintro e w5 ⟨rfl, k5⟩; replace K2 := kept_trans K2 k5))
            | (go_at_call 13; ((with_reducible refine (C13.out _ K2).mono ?_); rintro e w9 ⟨rfl, k9⟩; replace K2 := kept_trans K2 k9)))
          go_ret
          exact ⟨rfl, K2⟩
        · have SO := sub_ok HSM.out HV.out (by omega : m ≤ 80) HVL.out
          have C42 := Lib.hid (subst42_main P M m p ls A B c d wr (HP.out.kept KW) (HL.out.kept KW) hll HV.out (by omega) HVL.out SO)
          unfold SubPost fV at C42
          have hsv := sb_vl SO HV.out (by omega : m ≤ 80) HVL.out p.length (Nat.le_refl _)
          cases hs : sbTo P M m ls p p.length with
          | none =>
            rw [hs, tmO_none, errO_none] at C42
            clear h7 hm80 SO hsv hs
            go_wp2_with (first
              | (go_at_call 42; ((with_reducible refine C42.out.mono ?_); rintro e w5 ⟨A5, c5, rfl, hr5, k5⟩; replace K2 := kept_trans K2 k5))
              | (go_at_call 13; ((with_reducible refine (C13.out _ K2).mono ?_); rintro e w9 ⟨rfl, k9⟩; replace K2 := kept_trans K2 k9)))
            go_ret
            exact ⟨rfl, K2⟩
          | some T =>
            have vT := hsv T hs
            rw [hs, tmO_some, errO_some] at C42
            have ok := OK.out
            have hat : ∀ x ∈ ls.map (fun l => evP P M l at'), inF P M x := fun x hx => by
              obtain ⟨l, hl, rfl⟩ := List.mem_map.1 hx
              have hq := allQ_iff.1 (HQ.out (List.length_pos_of_mem hl))
              obtain ⟨k, hk, rfl⟩ := List.getElem_of_mem hl
              have hvk := HVL.out k hk
              rw [List.getD_eq_getElem?_getD, List.getElem?_eq_getElem hk, Option.getD_some] at hvk
              rw [evP_R ok hq ((TmR.of hvk).ev HM.out.symm)]
              exact evR_in ok hq ((TmR.of hvk).ev HM.out.symm)
            obtain ⟨vals, hvals⟩ : ∃ x, x = ls.map (fun l => evP P M l at') := ⟨_, rfl⟩
            have hvl : vals.length = ls.length := by rw [hvals, List.length_map]
            rw [← hvals] at h7 hat
            have hqv : allQ (ordF P M) vals = true := allQ_iff.2 fun x hx => hat x hx
            have HR7 := Lib.hid (row_rd h7)
            have Cb := Lib.hid fun w' (k : Kept wr w') => eval32_any P M (ls.length : Int) p vals A A7 c c7 w' (HP.out.kept (kept_trans KW k)) HV.out (HR7.out.kept k) (by omega) hqv
            have Cc := Lib.hid fun w' D f (k : Kept wr w') (hD : RP w' D (redP P M p)) => eval32_any P M (ls.length : Int) (redP P M p) vals D A7 f c7 w' hD (red_vld HV.out) (HR7.out.kept k) (by omega) hqv
            have Cr := Lib.hid fun w' (k : Kept w w') => reduce14_any P M (ls.length : Int) p A c w' (HP.out.kept k) HV.out
            have tp := vld_tms HV.out
            have hcv : evP P M (redP P M p) vals = evP P M p vals := by
              rw [evP_R ok hat ((redP_canon ok (n := ls.length) (p := p) (fun t h => by have := tp.mem h; exact ⟨by omega, this.2⟩)).2.ev hvl), evP_R ok hat (fun t ht => by have := tp.mem ht; exact ⟨⟨by omega, this.2.2.1⟩, by omega⟩)]
              exact ev_red ok hat (fun t ht => by have := tp.mem ht; exact ⟨by omega, ⟨by omega, this.2.2.1⟩, this.2.2.2⟩)
            rw [hvl] at Cb Cc
            rw [hcv] at Cc
            obtain ⟨Rp, hRp⟩ : ∃ R, R = redP P M p := ⟨_, rfl⟩
            rw [← hRp] at Cc
            unfold redP at hRp
            rw [← hRp] at Cr
            by_cases h0 : ls.length = 0
            · have Ca := Lib.hid fun w' D f (k : Kept w w') (hD : RP w' D T) => C32d.out w' T D f k hD vT
              obtain ⟨val, hval⟩ : ∃ x, x = evP P M p vals := ⟨_, rfl⟩
              rw [← hval] at Cb Cc
              have n1 : decide ((0 : Int) < (ls.length : Int)) = false := decide_eq_false (by omega)
              have n2 : decide (0 < ls.length) = false := decide_eq_false (by omega)
              unfold fV at Cb Cc Cr
              clear h7 hm80 SO hsv hs hat hvals hvl hqv tp hcv hRp vT hval h0 ok
              go_wp2_with (first
                | (go_at_call 42; ((with_reducible refine C42.out.mono ?_); rintro e w5 ⟨A5, c5, rfl, hr5, k5⟩; replace K2 := kept_trans K2 k5; replace KX := kept_trans KX k5; replace y0 := kept_cell k5 y0; replace y1 := kept_cell k5 y1; replace v0 := kept_cell k5 v0; replace v1 := kept_cell k5 v1; replace v2 := kept_cell k5 v2; replace v3 := kept_cell k5 v3))
                | (go_at_call 32; ((with_reducible refine (Ca.out _ _ _ K2 hr5).mono ?_); rintro e w6 ⟨a6, x6, rfl, k6⟩; replace K2 := kept_trans K2 k6; replace KX := kept_trans KX k6; replace y0 := kept_cell k6 y0; replace y1 := kept_cell k6 y1; replace v0 := kept_cell k6 v0; replace v1 := kept_cell k6 v1; replace v2 := kept_cell k6 v2; replace v3 := kept_cell k6 v3))
                | (go_at_call 32; ((with_reducible refine (Cb.out _ KX).mono ?_); rintro e w7 ⟨rfl, k7⟩; replace K2 := kept_trans K2 k7; replace KX := kept_trans KX k7; replace y0 := kept_cell k7 y0; replace y1 := kept_cell k7 y1; replace v0 := kept_cell k7 v0; replace v1 := kept_cell k7 v1; replace v2 := kept_cell k7 v2; replace v3 := kept_cell k7 v3))
                | (go_at_call 14; ((with_reducible refine (Cr.out _ K2).mono ?_); rintro e w8 ⟨A8, c8, r8, rfl, er8, hr8, k8⟩; subst er8; replace K2 := kept_trans K2 k8; replace KX := kept_trans KX k8; replace y0 := kept_cell k8 y0; replace y1 := kept_cell k8 y1; replace v0 := kept_cell k8 v0; replace v1 := kept_cell k8 v1; replace v2 := kept_cell k8 v2; replace v3 := kept_cell k8 v3))
                | (go_at_call 32; ((with_reducible refine (Cc.out _ _ _ KX hr8).mono ?_); rintro e w10 ⟨rfl, k10⟩; replace K2 := kept_trans K2 k10; replace KX := kept_trans KX k10; replace y0 := kept_cell k10 y0; replace y1 := kept_cell k10 y1; replace v0 := kept_cell k10 v0; replace v1 := kept_cell k10 v1; replace v2 := kept_cell k10 v2; replace v3 := kept_cell k10 v3))
                | (go_at_call 13; ((with_reducible refine (C13.out _ K2).mono ?_); rintro e w9 ⟨rfl, k9⟩; replace K2 := kept_trans K2 k9)))
              go_ret
              exact ⟨rfl, K2⟩
            · have hq := HQ.out (by omega)
              have hav : evP P M T at' = evP P M p vals := by
                rw [hvals]
                exact (sub_val ok HM.out.symm (allQ_iff.1 hq) HSM.out HV.out (by omega : m ≤ 80) HVL.out hs).2
              have Ca := Lib.hid fun w' D f (k : Kept w w') (hD : RP w' D T) => C32c.out w' T D f k hD vT hq
              rw [hav] at Ca
              obtain ⟨val, hval⟩ : ∃ x, x = evP P M p vals := ⟨_, rfl⟩
              rw [← hval] at Ca Cb Cc
              have n1 : decide ((0 : Int) < (ls.length : Int)) = true := decide_eq_true (by omega)
              have n2 : decide (0 < ls.length) = true := decide_eq_true (by omega)
              have n3 : (val != val) = false := by simp
              unfold fV at Cb Cc Cr
              clear h7 hm80 SO hsv hs hat hvals hvl hqv tp hcv hRp vT hval h0 hq hav ok
              go_wp2_with (first
                | (go_at_call 42; ((with_reducible refine C42.out.mono ?_); rintro e w5 ⟨A5, c5, rfl, hr5, k5⟩; replace K2 := kept_trans K2 k5; replace KX := kept_trans KX k5; replace y0 := kept_cell k5 y0; replace y1 := kept_cell k5 y1; replace v0 := kept_cell k5 v0; replace v1 := kept_cell k5 v1; replace v2 := kept_cell k5 v2; replace v3 := kept_cell k5 v3))
                | (go_at_call 32; ((with_reducible refine (Ca.out _ _ _ K2 hr5).mono ?_); rintro e w6 ⟨rfl, k6⟩; replace K2 := kept_trans K2 k6; replace KX := kept_trans KX k6; replace y0 := kept_cell k6 y0; replace y1 := kept_cell k6 y1; replace v0 := kept_cell k6 v0; replace v1 := kept_cell k6 v1; replace v2 := kept_cell k6 v2; replace v3 := kept_cell k6 v3))
                | (go_at_call 32; ((with_reducible refine (Cb.out _ KX).mono ?_); rintro e w7 ⟨rfl, k7⟩; replace K2 := kept_trans K2 k7; replace KX := kept_trans KX k7; replace y0 := kept_cell k7 y0; replace y1 := kept_cell k7 y1; replace v0 := kept_cell k7 v0; replace v1 := kept_cell k7 v1; replace v2 := kept_cell k7 v2; replace v3 := kept_cell k7 v3))
                | (go_at_call 14; ((with_reducible refine (Cr.out _ K2).mono ?_); rintro e w8 ⟨A8, c8, r8, rfl, er8, hr8, k8⟩; subst er8; replace K2 := kept_trans K2 k8; replace KX := kept_trans KX k8; replace y0 := kept_cell k8 y0; replace y1 := kept_cell k8 y1; replace v0 := kept_cell k8 v0; replace v1 := kept_cell k8 v1; replace v2 := kept_cell k8 v2; replace v3 := kept_cell k8 v3))
                | (go_at_call 32; ((with_reducible refine (Cc.out _ _ _ KX hr8).mono ?_); rintro e w10 ⟨rfl, k10⟩; replace K2 := kept_trans K2 k10; replace KX := kept_trans KX k10; replace y0 := kept_cell k10 y0; replace y1 := kept_cell k10 y1; replace v0 := kept_cell k10 v0; replace v1 := kept_cell k10 v1; replace v2 := kept_cell k10 v2; replace v3 := kept_cell k10 v3))
                | (go_at_call 13; ((with_reducible refine (C13.out _ K2).mono ?_); rintro e w9 ⟨rfl, k9⟩; replace K2 := kept_trans K2 k9)))
              go_ret
              exact ⟨rfl, K2⟩
theorem law11_any (P M N V : Int) (p : List Tm) (A : Option Addr) (c : Nat) (ls : List (List Tm)) (B : Option Addr) (d : Nat) (at' : List Int) (C : Option Addr) (e : Nat) (w : World) (hp : PowOk w) (hP : RP w A p) (hl : p.length ≤ 140737488355328) (hL : RPP w B ls) (hll : ls.length ≤ 140737488355328) (hC : Rd w C (ints at')) (hcl : at'.length ≤ 140737488355328) :
    Calls Tryd.prog 11 #[fV P M, .agg #[.int .i64 N, .slice A p.length c, .int .i64 V, .slice B ls.length d], .slice C at'.length e] w fun e w' => e = .returned (.bool true) ∧ Kept w w' := by
  cases hf : fewB 60 [p] with
  | false => exact law11_few P M N V p A c ls B d at' C e w hp hP hl hL hll hC hcl hf
  | true =>
    by_cases h200 : 200 < ls.length
    · by_cases h100 : 100 < at'.length
      · exact law11_many_a P M N V p A c ls B d at' C e w hp hP hl hL hll hC hcl hf h200 h100
      · exact law11_many_b P M N V p A c ls B d at' C e w hp hP hl hL hll hC hcl hf h200 h100
    · have h2' : ls.length ≤ 200 := by omega
      cases hf2 : fewB 60 ls with
      | false => exact law11_few2 P M N V p A c ls B d at' C e w hp hP hl hL hll hC hcl hf h2' hf2
      | true =>
        by_cases h1 : 100 < at'.length
        · exact law11_at P M N V p A c ls B d at' C e w hp hP hl hL hll hC hcl hf h2' hf2 h1
        · by_cases h2 : 100 < ls.length
          · exact law11_ls P M N V p A c ls B d at' C e w hp hP hl hL hll hC hcl hf h2' hf2 h1 h2
          · by_cases h3 : (ls.length : Int) = N
            · by_cases h4 : (at'.length : Int) = V
              · cases hv : vld (ordF P M) N p with
                | false => exact law11_p P M N V p A c ls B d at' C e w hp hP hl hL hll hC hcl hf h2' hf2 h1 h2 h3 h4 hv
                | true => exact law11_main P M N V p A c ls B d at' C e w hp hP hl hL hll hC hcl hf h2' hf2 h1 h2 h3 h4 hv
              · exact law11_v P M N V p A c ls B d at' C e w hp hP hl hL hll hC hcl hf h2' hf2 h1 h2 h3 h4
            · exact law11_n P M N V p A c ls B d at' C e w hp hP hl hL hll hC hcl hf h2' hf2 h1 h2 h3
end Go.Proofs.YtnjmpjdampdmmaaDoor

/- For all arguments the law PolyValues returns true and changes nothing. -/
set_option linter.unusedVariables false
set_option linter.unusedSimpArgs false
namespace Go.Proofs.YtnjmpjdampdmmaaDoor
open Go.RowKit Go.ChangeShapes Go.WideShapes Go.ChangeAt

set_option maxRecDepth 100000 in
theorem values_lifted (os : Os) (started : os.Started) (H : Type) (enc : TypeId × Value → H) :
    ReturnsInHanded {} Tryd.checked os 11 .any (fun w args => (Rows.polyValuesSpec.pre enc Tryd.prog Tryd.f11 Rows.polyValuesRow.domain false w args ∧ laidMetH Tryd.prog theLaid w) ∧ sizedMet enc Tryd.prog Tryd.f11 (OpenSpec.ofChange Rows.polyValuesSpec) false w args)
      (Rows.polyValuesSpec.post enc Tryd.prog Tryd.f11 false true false false) := by
  refine handed_and_shaped (C := Tryd.checked) (X := fun w _ => laidMetH Tryd.prog theLaid w) (fun _ _ _ hh h => h.of_heap hh) own started (by kernel_rfl) Tryd.func11
    (ChangeSpec.witness_shaped (enc := enc) (C := Tryd.checked) (os := os) (X := fun w _ => laidMetH Tryd.prog theLaid w) false (World.laidAll Tryd.prog os theLaid) #[.agg #[.int .i64 0, .int .i64 0], .agg #[.int .i64 0, .slice none 0 0, .int .i64 0, .slice none 0 0], .slice none 0 0] 8 (World.laidAll_os _ _ _)
      (World.shaped_of_ZipB (by kernel_rfl) (by kernel_rfl)) (by kernel_rfl) (by kernel_rfl) (by kernel_rfl)
      (by rw [MakeChecks.laidMetH_plain _ _ _ (by kernel_rfl)]; exact laidMet_laidAll _ (by kernel_rfl) (by kernel_rfl))) ?_
  intro W base args ds gs before hval0 hW hcnd hsz0 hL hsh _
  have hsz : (DataW.weightsEach Tryd.prog (Tryd.f11.params.toList ++ Rows.polyValuesSpec.plain.varTypes Tryd.prog) (ds ++ gs)).all (· ≤ reachBytes) = true := hsz0
  clear hsz0
  have hval : ∀ (j : Nat) t v, Tryd.f11.params[j]? = some t → args[j]? = some v → Value.okWide Tryd.prog W .any base t v := hval0
  have hW' := hW
  obtain ⟨p, q, hA0, hV, rfl, hfz, hnd⟩ := hW
  have hA : DataW.TrodAll enc Tryd.prog W 0 (fun _ => true) true Tryd.f11.params.toList args.toList ds p := hA0
  rw [Tryd.params11] at hA hval hsz
  obtain ⟨v0, v1, v2, d0, d1, d2, p0, p1, p2, rfl, rfl, rfl, h0, h1, h2⟩ := trodAll_three hA
  obtain ⟨rfl, rfl⟩ := trodVars_none hV
  have k0 := h0
  have lt0 : ∀ x ∈ p0, x.block < W.heap.size := by obtain ⟨m, hm⟩ := k0; exact DataW.trod_lt m _ _ _ hm
  have k1 := h1
  have lt1 : ∀ x ∈ p1, x.block < W.heap.size := by obtain ⟨m, hm⟩ := k1; exact DataW.trod_lt m _ _ _ hm
  have k2 := h2
  have lt2 : ∀ x ∈ p2, x.block < W.heap.size := by obtain ⟨m, hm⟩ := k2; exact DataW.trod_lt m _ _ _ hm
  obtain ⟨P0, M0, rfl⟩ := read_field (hval 0 23 v0 rfl rfl) h0
  obtain ⟨N1, q1, A1, c1, V1, ls1, B1, e1, rfl, hR1, hl1, hS1, hm1⟩ := read_task (hval 1 74 v1 rfl rfl) h1 hsz (j := 1) rfl rfl
  obtain ⟨l2, A2, c2, rfl, hR2, hl2⟩ := read_list (hval 2 56 v2 rfl rfl) h2 hsz (j := 2) rfl rfl
  clear hA0 hval0
  refine (law11_any P0 M0 N1 V1 q1 A1 c1 ls1 B1 e1 l2 A2 c2 W (libOk_of hL hsh) hR1 hl1 hS1 hm1 hR2 hl2).mono fun e W' ⟨he, bel⟩ => ?_
  subst he
  exact ⟨_, rfl, _, _, _, [], _, [], hW', trodAll_mk1 (shut_bool Tryd.underlying4 _), trodAll_mk3 (Below.trod laidOut (by kernel_rfl) (of_decide_eq_true (by kernel_rfl)) k0 bel lt0) (Below.trod laidOut (by kernel_rfl) (of_decide_eq_true (by kernel_rfl)) k1 bel lt1) (Below.trod laidOut (by kernel_rfl) (of_decide_eq_true (by kernel_rfl)) k2 bel lt2), rfl, bel.frame _, fun h => by cases h⟩

theorem values_row : Rows.PolyValuesSaid :=
  OpenClaim.holds_of_wide 11 Tryd.f11 rfl rfl rfl rfl rfl rfl rfl ⟨rfl, rfl, rfl, rfl, rfl⟩ rfl rfl rfl rfl rfl (by kernel_rfl) Tryd.func11 (by kernel_rfl)
    (of_decide_eq_true (by kernel_rfl)) (by unfold Func.isWrapper; first | (rw [if_pos (by decide +kernel)]; kernel_rfl) | (rw [if_neg (by decide +kernel)]; exact ⟨rfl, rfl⟩))
    (fun os started H enc _ => values_lifted os started H enc)

theorem values_holds : Rows.PolyValuesCardSaid :=
  Claim7.holds_tied_plain_at .later [] [.data, .data, .data] true (true, "07d9923afb9f4e0a6de53375e3050e4549b0083bf314c77c927cd40d6ecfe835") false
    values_row (fun _ h => by cases h) (by kernel_rfl) (fun _ h => by cases h) polyValues_row_tie rfl ⟨rfl, rfl⟩ (by kernel_rfl) rfl
    (fun f fn hf hfn => by
      obtain rfl : f = 11 := Option.some.inj ((show Tryd.prog.funcNamed "commodatum/commodatumlaw04.PolyValues" = some 11 by kernel_rfl).symm.trans hf) |>.symm
      obtain rfl : fn = Tryd.f11 := (Option.some.inj (Tryd.func11.symm.trans hfn)).symm
      exact ⟨by kernel_rfl, fun j t ht => by
        rw [Tryd.params11] at ht
        have hm : t ∈ [23, 74, 56] := by simpa using Array.mem_of_getElem? ht
        have hall : ([23, 74, 56].all fun u => !Tryd.prog.wantsStandIn u) = true := by kernel_rfl
        exact (show Tryd.prog.wantsStandIn t = false by simpa using List.all_eq_true.1 hall t hm)⟩)
    (by kernel_rfl)
#print axioms values_holds
end Go.Proofs.YtnjmpjdampdmmaaDoor
