/- For all arguments the law PolySubstitutes returns true and changes nothing. -/
import Derived.Test.YtnjmpjdampdmmaaGreatDoorV1
import Derived.Lib.SmallJoins
import Derived.Test.YtnjmpjdampdmmaaGreatDoorE1
import Derived.Test.YtnjmpjdampdmmaaGreatDoorE2
import Derived.Test.YtnjmpjdampdmmaaGreatDoorL3
import Derived.Test.YtnjmpjdampdmmaaGreatDoorC22
import Derived.Test.YtnjmpjdampdmmaaGreatDoorCards
import Derived.Test.YtnjmpjdampdmmaaGreatDoorTie
import Derived.SevenTiedAt
import Derived.ChangeMaps5
/- Polynomials: reading an argument of two numbers, a polynomial and a list of polynomials. -/
set_option linter.unusedVariables false
set_option linter.unusedSimpArgs false
namespace Go.Proofs.YtnjmpjdampdmmaaGreatDoor
open Go.RowKit Go.ChangeShapes Go.WideShapes Go.ChangeAt

theorem cells25' : Tryz.prog.cellsOf 25 = 1 := by kernel_rfl
theorem bytes25' : Tryz.prog.bytesOf 25 = 24 := by kernel_rfl
/-- A list of polynomials that is read by type 72. -/
theorem read_polys {H : Type} {enc : TypeId × Value → H} {w : World} {base : Nat} {spare : Nat → Bool} {held : Bool} {fuel : Nat} {v : Value} {x : DataW H × List MemPlace} {ws : List Nat}
    (h : DataW.trod enc Tryz.prog w base spare held fuel 43 [v] = some x) (hws : ws.all (· ≤ reachBytes) = true) (hw : ∀ n ∈ x.1.weights Tryz.prog 43, n ∈ ws) :
    ∃ (A : Option Addr) (c : Nat) (ls : List (List Tm)), v = .slice A ls.length c ∧ RPP w A ls ∧ ls.length ≤ 140737488355328 := by
  rcases Deep.open_slice1 Tryz.underlying43 cells25' h with ⟨hcs, _⟩ | ⟨a, n, cap, m, n', V, D, Pl, hcs, _, hlc, _, hm, hx, hV⟩
  · simp at hcs
    subst hcs
    exact ⟨none, 0, [], rfl, fun j hj => by simp at hj, by simp⟩
  · simp at hcs
    subst hcs
    have hml : n ≤ m := by rw [hm]; split <;> omega
    have hx1 := congrArg Prod.fst hx
    dsimp only at hx1
    rw [hx1] at hw
    have hb := reach_all hws (hw ((((List.range n).map fun i => D i).length + ((List.range (m - n)).map fun j => D (n + j)).length) * Tryz.prog.bytesOf 25) (by simp [DataW.weights, Tryz.underlying43]))
    rw [bytes25', List.length_map, List.length_range] at hb
    obtain ⟨L, hL⟩ := Deep.choose_lt (n := n) (p := fun i (l : List Tm) => ∃ A c, V i = .slice A l.length c ∧ RP w A l ∧ l.length ≤ 140737488355328) (fun i hi => by
      obtain ⟨h1, h2⟩ := hV i (by omega)
      obtain ⟨A, c, p, e, hR, hl⟩ := read_cells (ws := ws) h2 hws (fun k hk => hw k (by
        have := weights_all (e := 25) (List.mem_map_of_mem (f := fun i => D i) (List.mem_range.2 hi)) hk
        simp only [DataW.weights, Tryz.underlying43, List.mem_cons, List.mem_append]
        exact .inr (.inl this)))
      exact ⟨p, A, c, e, hR, hl⟩)
    refine ⟨some a, cap, (List.range n).map L, by simp, fun j hj => ?_, by simp; omega⟩
    have hjn : j < n := by simpa using hj
    obtain ⟨b, off, spot⟩ := a
    have hspot : spot = none := by simpa [Addr.add] using World.cell?_spot (hV 0 (by omega)).1
    subst hspot
    obtain ⟨h1, h2⟩ := hV j (by omega)
    obtain ⟨A, c, e1, hR, hl⟩ := hL j hjn
    have eL : ((List.range n).map L).getD j [] = L j := by simp [List.getD_eq_getElem?_getD, hjn]
    rw [add_at, e1] at h1
    rw [eL]
    exact ⟨b, off, A, c, rfl, h1, hR, hl⟩
set_option maxRecDepth 100000 in
theorem read_task {H : Type} {enc : TypeId × Value → H} {w : World} {base : Nat} {spare : Nat → Bool} {held : Bool} {b0 : Nat} {r : Reach} {v : Value} {d : DataW H} {p : List MemPlace} {ts : List TypeId} {ds : List (DataW H)} {j : Nat}
    (hv : Value.okWide Tryz.prog w r b0 45 v) (h : DataW.Trod enc Tryz.prog w base spare held 45 v d p) (hsz : (DataW.weightsEach Tryz.prog ts ds).all (· ≤ reachBytes) = true) (ht : ts[j]? = some 45) (hd : ds[j]? = some d) :
    ∃ (N : Int) (p : List Tm) (A : Option Addr) (c : Nat) (M : Int) (ls : List (List Tm)) (B : Option Addr) (e : Nat), v = .agg #[.int .i64 N, .slice A p.length c, .int .i64 M, .slice B ls.length e] ∧ RP w A p ∧ p.length ≤ 140737488355328 ∧ RPP w B ls ∧ ls.length ≤ 140737488355328 := by
  obtain ⟨c0, c1, c2, c3, y0, y1, y2, y3, n, rfl, rfl, rfl, hy0, hy1, hy2, hy3⟩ := Joins.open_agg4 Tryz.underlying45 (by kernel_rfl) (by kernel_rfl) hv h
  obtain ⟨x0, e0, hx0, _⟩ := DataW.trod_int Tryz.underlying3 hy0
  obtain ⟨x2, e2, hx2, _⟩ := DataW.trod_int Tryz.underlying3 hy2
  have hmem : ∀ k, k ∈ y1.1.weights Tryz.prog 25 ∨ k ∈ y3.1.weights Tryz.prog 43 → k ∈ DataW.weightsEach Tryz.prog ts ds := fun k hk => by
    refine DataW.weights_mem_each ht hd k ?_
    simp only [DataW.weights, DataW.weightsEach, Tryz.underlying45, List.map_cons, List.map_nil, List.mem_append, List.nil_append]
    rcases hk with hk | hk
    · exact .inr (.inl hk)
    · exact .inr (.inr (.inr (.inl hk)))
  obtain ⟨A, c, p1, rfl, h1, h2⟩ := read_cells hy1 hsz (fun k hk => hmem k (.inl hk))
  obtain ⟨B, e, ls, rfl, h3, h4⟩ := read_polys hy3 hsz (fun k hk => hmem k (.inr hk))
  simp at e0 e2
  subst e0 e2
  exact ⟨x0, p1, A, c, x2, ls, B, e, rfl, h1, h2, h3, h4⟩
end Go.Proofs.YtnjmpjdampdmmaaGreatDoor

/- Polynomials: the law PolySubstitutes, walked. (printed by genL4.py) -/
set_option linter.unusedVariables false
set_option linter.unusedSimpArgs false
namespace Go.Proofs.YtnjmpjdampdmmaaGreatDoor
open Go.RowKit Go.Shelf

theorem vld_fits {P M n : Int} {p : List Tm} (hv : vld (ordF P M) n p = true) : fitsB p = true := by
  unfold fitsB
  rw [Bool.and_eq_true, List.all_eq_true]
  refine ⟨fun t ht => ?_, decide_eq_true (vld_terms hv).2.1⟩
  unfold eFit
  rw [List.all_eq_true]
  intro x hx
  exact decide_eq_true ((vld_exps hv t ht x hx).2)
theorem any_take {V : List Tm → Bool} {ls : List (List Tm)} {i : Nat} (h : i < ls.length) : (ls.take (i + 1)).any V = ((ls.take i).any V || V (ls.getD i [])) := by
  rw [List.take_add_one, List.any_append, List.getElem?_eq_getElem h]
  have e5 : ls[i] = ls.getD i [] := by rw [List.getD_eq_getElem?_getD, List.getElem?_eq_getElem h]; rfl
  simp [e5]
theorem form_parts {q n m : Int} {p : List Tm} {ls : List (List Tm)} (h : formB q n m p ls = true) : 0 ≤ m ∧ m ≤ 80 ∧ vld q n p = true ∧ ∀ k, k < ls.length → vld q m (ls.getD k []) = true := by
  unfold formB at h
  simp only [Bool.and_eq_true, decide_eq_true_eq, Bool.not_eq_true'] at h
  obtain ⟨⟨⟨h1, h2⟩, h3⟩, h4⟩ := h
  refine ⟨h1, h2, h3, fun k hk => ?_⟩
  rw [List.any_eq_false] at h4
  have := h4 (ls.getD k []) (by rw [List.getD_eq_getElem?_getD, List.getElem?_eq_getElem hk]; exact List.getElem_mem hk)
  simpa using this
set_option maxRecDepth 100000 in
set_option maxHeartbeats 1000000 in
theorem law4_few (P M N V : Int) (p : List Tm) (A : Option Addr) (c : Nat) (ls : List (List Tm)) (B : Option Addr) (d : Nat) (w : World) (hp : PowOk w) (hP : RP w A p) (hl : p.length ≤ 140737488355328) (hL : RPP w B ls) (hll : ls.length ≤ 140737488355328) (hf : fewB 400 [p] = false) :
    Calls Tryz.prog 4 #[fV P M, .agg #[.int .i64 N, .slice A p.length c, .int .i64 V, .slice B ls.length d]] w fun e w' => e = .returned (.bool true) ∧ Kept w w' := by
  have K0 := kept_alloc (kept_refl w) (.cells #[.int .i64 P, .int .i64 M] 23)
  have K1 := kept_alloc K0 (.cells #[.int .i64 N, .slice A p.length c, .int .i64 V, .slice B ls.length d] 45)
  have o3 := (Own.new w 23 [.int .i64 P, .int .i64 M]).alloc (.cells #[.int .i64 N, .slice A p.length c, .int .i64 V, .slice B ls.length d] 45)
  have o4 := Own.new (w.alloc (.cells #[.int .i64 P, .int .i64 M] 23)) 45 [.int .i64 N, .slice A p.length c, .int .i64 V, .slice B ls.length d]
  obtain ⟨w0, hw0⟩ : ∃ w0, w0 = (w.alloc (.cells #[.int .i64 P, .int .i64 M] 23)).alloc (.cells #[.int .i64 N, .slice A p.length c, .int .i64 V, .slice B ls.length d] 45) := ⟨_, rfl⟩
  rw [show (w.alloc (.cells #[.int .i64 P, .int .i64 M] 23)).heap.size = w.heap.size + 1 by simp] at o4
  have o4' : Own w0 (w.heap.size + 1) 45 [.int .i64 N, .slice A p.length c, .int .i64 V, .slice B ls.length d] := by rw [hw0]; exact o4
  rw [← hw0] at K1 o3
  have HW0 := Lib.hid hw0
  have C12a := Lib.hid (few12_any 400 [p] (some ⟨w0.heap.size, 0, none⟩) 1 (w0.alloc (.cells #[.slice A p.length c] 25)) (by decide) (by decide) (rpp_one (hP.kept K1) hl) (by simp))
  rw [show ([p] : List (List Tm)).length = 1 from rfl] at C12a
  have C13 := Lib.hid fun w' (k : Kept w w') => alive13_any w' (hp.kept k)
  have K2 := kept_alloc K1 (.cells #[.slice A p.length c] 25)
  have o3' := o3.alloc (.cells #[.slice A p.length c] 25)
  have o4'' := o4'.alloc (.cells #[.slice A p.length c] 25)
  clear o4 hw0
  rw [hf] at C12a
  unfold fV at *
  clear hP hp hL hf
  go_enter Tryz.func4, Tryz.ntmps4
  go_upto_region 1 with fail
  rw [← HW0.out]
  have x1 := o4'.cell (j := 1) rfl
  go_wp2_with (first
    | (go_at_call 6; ((with_reducible refine C12a.out.mono ?_); rintro e w1 ⟨rfl, rfl⟩))
    | (go_at_call 7; ((with_reducible refine (C13.out _ K2).mono ?_); rintro e w9 ⟨rfl, k9⟩; replace K2 := kept_trans K2 k9)))
  go_ret
  exact ⟨rfl, K2⟩
set_option maxRecDepth 100000 in
set_option maxHeartbeats 1000000 in
theorem law4_many (P M N V : Int) (p : List Tm) (A : Option Addr) (c : Nat) (ls : List (List Tm)) (B : Option Addr) (d : Nat) (w : World) (hp : PowOk w) (hP : RP w A p) (hl : p.length ≤ 140737488355328) (hL : RPP w B ls) (hll : ls.length ≤ 140737488355328) (hf : fewB 400 [p] = true) (h200 : 200 < ls.length) :
    Calls Tryz.prog 4 #[fV P M, .agg #[.int .i64 N, .slice A p.length c, .int .i64 V, .slice B ls.length d]] w fun e w' => e = .returned (.bool true) ∧ Kept w w' := by
  have K0 := kept_alloc (kept_refl w) (.cells #[.int .i64 P, .int .i64 M] 23)
  have K1 := kept_alloc K0 (.cells #[.int .i64 N, .slice A p.length c, .int .i64 V, .slice B ls.length d] 45)
  have o3 := (Own.new w 23 [.int .i64 P, .int .i64 M]).alloc (.cells #[.int .i64 N, .slice A p.length c, .int .i64 V, .slice B ls.length d] 45)
  have o4 := Own.new (w.alloc (.cells #[.int .i64 P, .int .i64 M] 23)) 45 [.int .i64 N, .slice A p.length c, .int .i64 V, .slice B ls.length d]
  obtain ⟨w0, hw0⟩ : ∃ w0, w0 = (w.alloc (.cells #[.int .i64 P, .int .i64 M] 23)).alloc (.cells #[.int .i64 N, .slice A p.length c, .int .i64 V, .slice B ls.length d] 45) := ⟨_, rfl⟩
  rw [show (w.alloc (.cells #[.int .i64 P, .int .i64 M] 23)).heap.size = w.heap.size + 1 by simp] at o4
  have o4' : Own w0 (w.heap.size + 1) 45 [.int .i64 N, .slice A p.length c, .int .i64 V, .slice B ls.length d] := by rw [hw0]; exact o4
  rw [← hw0] at K1 o3
  have HW0 := Lib.hid hw0
  have C12a := Lib.hid (few12_any 400 [p] (some ⟨w0.heap.size, 0, none⟩) 1 (w0.alloc (.cells #[.slice A p.length c] 25)) (by decide) (by decide) (rpp_one (hP.kept K1) hl) (by simp))
  rw [show ([p] : List (List Tm)).length = 1 from rfl] at C12a
  have C13 := Lib.hid fun w' (k : Kept w w') => alive13_any w' (hp.kept k)
  have K2 := kept_alloc K1 (.cells #[.slice A p.length c] 25)
  have o3' := o3.alloc (.cells #[.slice A p.length c] 25)
  have o4'' := o4'.alloc (.cells #[.slice A p.length c] 25)
  clear o4 hw0
  rw [hf] at C12a
  have C12b := Lib.hid (few6_some 400 ls B d (w0.alloc (.cells #[.slice A p.length c] 25)) (hL.kept K2) hll)
  have d2 : decide ((200 : Int) < (ls.length : Int)) = true := decide_eq_true (by omega)
  have d2' : decide (200 < ls.length) = true := decide_eq_true (by omega)
  unfold fV at *
  clear hP hp hL hf
  go_enter Tryz.func4, Tryz.ntmps4
  go_upto_region 1 with fail
  rw [← HW0.out]
  have x1 := o4'.cell (j := 1) rfl
  go_wp2_with (first
    | (go_at_call 6; ((with_reducible refine C12a.out.mono ?_); rintro e w1 ⟨rfl, rfl⟩; have y0 := o3'.cell (j := 0) rfl; have y1 := o3'.cell (j := 1) rfl; have v0 := o4''.cell (j := 0) rfl; have v1 := o4''.cell (j := 1) rfl; have v2 := o4''.cell (j := 2) rfl; have v3 := o4''.cell (j := 3) rfl))
    | (go_at_call 6; ((with_reducible refine C12b.out.mono ?_); rintro e w1 ⟨b, rfl, rfl⟩; cases b))
    | (go_at_call 7; ((with_reducible refine (C13.out _ K2).mono ?_); rintro e w9 ⟨rfl, k9⟩; replace K2 := kept_trans K2 k9)))
  all_goals (go_ret; exact ⟨rfl, K2⟩)
set_option maxRecDepth 100000 in
set_option maxHeartbeats 1000000 in
theorem law4_few2 (P M N V : Int) (p : List Tm) (A : Option Addr) (c : Nat) (ls : List (List Tm)) (B : Option Addr) (d : Nat) (w : World) (hp : PowOk w) (hP : RP w A p) (hl : p.length ≤ 140737488355328) (hL : RPP w B ls) (hll : ls.length ≤ 140737488355328) (hf : fewB 400 [p] = true) (h200 : ls.length ≤ 200) (hf2 : fewB 400 ls = false) :
    Calls Tryz.prog 4 #[fV P M, .agg #[.int .i64 N, .slice A p.length c, .int .i64 V, .slice B ls.length d]] w fun e w' => e = .returned (.bool true) ∧ Kept w w' := by
  have K0 := kept_alloc (kept_refl w) (.cells #[.int .i64 P, .int .i64 M] 23)
  have K1 := kept_alloc K0 (.cells #[.int .i64 N, .slice A p.length c, .int .i64 V, .slice B ls.length d] 45)
  have o3 := (Own.new w 23 [.int .i64 P, .int .i64 M]).alloc (.cells #[.int .i64 N, .slice A p.length c, .int .i64 V, .slice B ls.length d] 45)
  have o4 := Own.new (w.alloc (.cells #[.int .i64 P, .int .i64 M] 23)) 45 [.int .i64 N, .slice A p.length c, .int .i64 V, .slice B ls.length d]
  obtain ⟨w0, hw0⟩ : ∃ w0, w0 = (w.alloc (.cells #[.int .i64 P, .int .i64 M] 23)).alloc (.cells #[.int .i64 N, .slice A p.length c, .int .i64 V, .slice B ls.length d] 45) := ⟨_, rfl⟩
  rw [show (w.alloc (.cells #[.int .i64 P, .int .i64 M] 23)).heap.size = w.heap.size + 1 by simp] at o4
  have o4' : Own w0 (w.heap.size + 1) 45 [.int .i64 N, .slice A p.length c, .int .i64 V, .slice B ls.length d] := by rw [hw0]; exact o4
  rw [← hw0] at K1 o3
  have HW0 := Lib.hid hw0
  have C12a := Lib.hid (few12_any 400 [p] (some ⟨w0.heap.size, 0, none⟩) 1 (w0.alloc (.cells #[.slice A p.length c] 25)) (by decide) (by decide) (rpp_one (hP.kept K1) hl) (by simp))
  rw [show ([p] : List (List Tm)).length = 1 from rfl] at C12a
  have C13 := Lib.hid fun w' (k : Kept w w') => alive13_any w' (hp.kept k)
  have K2 := kept_alloc K1 (.cells #[.slice A p.length c] 25)
  have o3' := o3.alloc (.cells #[.slice A p.length c] 25)
  have o4'' := o4'.alloc (.cells #[.slice A p.length c] 25)
  clear o4 hw0
  rw [hf] at C12a
  have C12b := Lib.hid (few12_any 400 ls B d (w0.alloc (.cells #[.slice A p.length c] 25)) (by decide) (by decide) (hL.kept K2) h200)
  rw [hf2] at C12b
  unfold fV at *
  clear hP hp hL hf hf2
  go_enter Tryz.func4, Tryz.ntmps4
  go_upto_region 1 with fail
  rw [← HW0.out]
  have x1 := o4'.cell (j := 1) rfl
  go_wp2_with (first
    | (go_at_call 6; ((with_reducible refine C12a.out.mono ?_); rintro e w1 ⟨rfl, rfl⟩; have y0 := o3'.cell (j := 0) rfl; have y1 := o3'.cell (j := 1) rfl; have v0 := o4''.cell (j := 0) rfl; have v1 := o4''.cell (j := 1) rfl; have v2 := o4''.cell (j := 2) rfl; have v3 := o4''.cell (j := 3) rfl))
    | (go_at_call 6; ((with_reducible refine C12b.out.mono ?_); rintro e w1 ⟨rfl, rfl⟩))
    | (go_at_call 7; ((with_reducible refine (C13.out _ K2).mono ?_); rintro e w9 ⟨rfl, k9⟩; replace K2 := kept_trans K2 k9)))
  go_ret
  exact ⟨rfl, K2⟩
set_option maxRecDepth 100000 in
set_option maxHeartbeats 1000000 in
theorem law4_main (P M N V : Int) (p : List Tm) (A : Option Addr) (c : Nat) (ls : List (List Tm)) (B : Option Addr) (d : Nat) (w : World) (hp : PowOk w) (hP : RP w A p) (hl : p.length ≤ 140737488355328) (hL : RPP w B ls) (hll : ls.length ≤ 140737488355328) (hf : fewB 400 [p] = true) (h200 : ls.length ≤ 200) (hf2 : fewB 400 ls = true) :
    Calls Tryz.prog 4 #[fV P M, .agg #[.int .i64 N, .slice A p.length c, .int .i64 V, .slice B ls.length d]] w fun e w' => e = .returned (.bool true) ∧ Kept w w' := by
  have K0 := kept_alloc (kept_refl w) (.cells #[.int .i64 P, .int .i64 M] 23)
  have K1 := kept_alloc K0 (.cells #[.int .i64 N, .slice A p.length c, .int .i64 V, .slice B ls.length d] 45)
  have o3 := (Own.new w 23 [.int .i64 P, .int .i64 M]).alloc (.cells #[.int .i64 N, .slice A p.length c, .int .i64 V, .slice B ls.length d] 45)
  have o4 := Own.new (w.alloc (.cells #[.int .i64 P, .int .i64 M] 23)) 45 [.int .i64 N, .slice A p.length c, .int .i64 V, .slice B ls.length d]
  obtain ⟨w0, hw0⟩ : ∃ w0, w0 = (w.alloc (.cells #[.int .i64 P, .int .i64 M] 23)).alloc (.cells #[.int .i64 N, .slice A p.length c, .int .i64 V, .slice B ls.length d] 45) := ⟨_, rfl⟩
  rw [show (w.alloc (.cells #[.int .i64 P, .int .i64 M] 23)).heap.size = w.heap.size + 1 by simp] at o4
  have o4' : Own w0 (w.heap.size + 1) 45 [.int .i64 N, .slice A p.length c, .int .i64 V, .slice B ls.length d] := by rw [hw0]; exact o4
  rw [← hw0] at K1 o3
  have HW0 := Lib.hid hw0
  have C12a := Lib.hid (few12_any 400 [p] (some ⟨w0.heap.size, 0, none⟩) 1 (w0.alloc (.cells #[.slice A p.length c] 25)) (by decide) (by decide) (rpp_one (hP.kept K1) hl) (by simp))
  rw [show ([p] : List (List Tm)).length = 1 from rfl] at C12a
  have C13 := Lib.hid fun w' (k : Kept w w') => alive13_any w' (hp.kept k)
  have K2 := kept_alloc K1 (.cells #[.slice A p.length c] 25)
  have o3' := o3.alloc (.cells #[.slice A p.length c] 25)
  have o4'' := o4'.alloc (.cells #[.slice A p.length c] 25)
  clear o4 hw0
  rw [hf] at C12a
  have C12b := Lib.hid (few12_any 400 ls B d (w0.alloc (.cells #[.slice A p.length c] 25)) (by decide) (by decide) (hL.kept K2) h200)
  rw [hf2] at C12b
  have d2 : decide ((200 : Int) < (ls.length : Int)) = false := decide_eq_false (by omega)
  have d2' : decide (200 < ls.length) = false := decide_eq_false (by omega)
  have C10 := Lib.hid fun w' (k : Kept w w') => rvalid15_all P M N p A c w' (hP.kept k) hl
  have C10b := Lib.hid fun w' l D f (k : Kept w w') (hD : RP w' D l) hl => rvalid15_all P M V l D f w' hD hl
  have HN := Lib.hid (show vld (ordF P M) N p = true → 0 ≤ N from fun h => (vld_terms h).1.1)
  have HP := Lib.hid hP
  have HL := Lib.hid hL
  obtain ⟨bp, hbp⟩ : ∃ b, b = vld (ordF P M) N p := ⟨_, rfl⟩
  have HBP := Lib.hid hbp
  rw [← hbp] at C10 HN
  obtain ⟨G0, hG0⟩ : ∃ b, b = (decide (0 ≤ V) && decide (V ≤ 80) && bp) := ⟨_, rfl⟩
  have HG0 := Lib.hid hG0
  unfold fV at C10 C10b ⊢
  clear hP hp hL hf hf2 hbp hG0
  go_enter Tryz.func4, Tryz.ntmps4
  go_upto_region 1 with fail
  rw [← HW0.out]
  have x1 := o4'.cell (j := 1) rfl
  go_upto_region 3 with (first
    | (go_at_call 6; ((with_reducible refine C12a.out.mono ?_); rintro e w1 ⟨rfl, rfl⟩; have y0 := o3'.cell (j := 0) rfl; have y1 := o3'.cell (j := 1) rfl; have v0 := o4''.cell (j := 0) rfl; have v1 := o4''.cell (j := 1) rfl; have v2 := o4''.cell (j := 2) rfl; have v3 := o4''.cell (j := 3) rfl))
    | (go_at_call 6; ((with_reducible refine C12b.out.mono ?_); rintro e w1 ⟨rfl, rfl⟩)))
  clear x1 o3' o4'' C12a C12b
  obtain ⟨wa, hwa⟩ : ∃ x, x = (w0.alloc (.cells #[.slice A p.length c] 25)) := ⟨_, rfl⟩
  rw [← hwa] at y0 y1 v0 v1 v2 v3 K2 ⊢
  clear hwa
  have Y0 := Lib.hid y0; have Y1 := Lib.hid y1; have V0 := Lib.hid v0; have V1 := Lib.hid v1; have V2 := Lib.hid v2; have V3 := Lib.hid v3
  have KA := K2
  go_cut [5] (fun s5 wx => s5 = .bool G0 ∧ Kept wa wx)
  case first =>
    by_cases a1 : 0 ≤ N
    · have b1 : decide (0 ≤ N) = true := decide_eq_true a1
      by_cases a2 : 0 ≤ V
      · have b2 : decide (0 ≤ V) = true := decide_eq_true a2
        by_cases a3 : V ≤ 80
        · have b3 : decide (V ≤ 80) = true := decide_eq_true a3
          have h5 : G0 = bp := by rw [HG0.out, b2, b3]; rfl
          clear a1 a2 a3
          have H5 := Lib.hid h5
          clear h5
          go_wp2_with (go_at_call 10; ((with_reducible refine (C10.out _ K2).mono ?_); rintro e w2 ⟨rfl, k2⟩))
          go_meet
          exact ⟨by rw [H5.out], k2⟩
        · have b3 : decide (V ≤ 80) = false := decide_eq_false a3
          have h5 : G0 = false := by rw [HG0.out, b2, b3]; rfl
          have H5 := Lib.hid h5
          clear a1 a2 a3 h5
          go_wp2_with fail
          go_meet
          exact ⟨by rw [H5.out], kept_refl _⟩
      · have b2 : decide (0 ≤ V) = false := decide_eq_false a2
        have h5 : G0 = false := by rw [HG0.out, b2]; rfl
        have H5 := Lib.hid h5
        clear a1 a2 h5
        go_wp2_with fail
        go_meet
        exact ⟨by rw [H5.out], kept_refl _⟩
    · have b1 : decide (0 ≤ N) = false := decide_eq_false a1
      have h5 : G0 = false := by
        rw [HG0.out]
        cases bp with
        | true => exact absurd (HN.out rfl) a1
        | false => exact Bool.and_false _
      have H5 := Lib.hid h5
      clear a1 h5
      go_wp2_with fail
      go_meet
      exact ⟨by rw [H5.out], kept_refl _⟩
  case rest =>
    obtain ⟨rfl, KC⟩ := hcut
    obtain ⟨wb, rfl⟩ : ∃ x : World, x = wc := ⟨_, rfl⟩
    clear y0 y1 v0 v1 v2 v3 K2 C10
    go_wp2_with fail
    go_loopg [5, 6] ls.length (fun G s5 s6 wr => ∃ (i : Nat) (b : Bool), i ≤ ls.length ∧ G = ls.length - i ∧ s5 = .bool b ∧ s6 = .int .i64 i ∧ Hid (b = (G0 && !((ls.take i).any fun l => !vld (ordF P M) V l))) ∧ Kept wa wr)
    case atStart => exact ⟨0, _, by omega, rfl, rfl, rfl, Lib.hid (by simp), KC⟩
    case round =>
      obtain ⟨i, b, hi, rfl, rfl, rfl, HB, KR⟩ := hrel
      have KW := kept_trans KA KR
      have y0 := kept_cell KR Y0.out; have y1 := kept_cell KR Y1.out; have v0 := kept_cell KR V0.out; have v1 := kept_cell KR V1.out; have v2 := kept_cell KR V2.out; have v3 := kept_cell KR V3.out
      by_cases hit : i < ls.length
      · have g1 : decide ((i : Int) < (ls.length : Int)) = true := decide_eq_true (by omega)
        have g2 : decide (i < ls.length) = true := decide_eq_true hit
        obtain ⟨bl, ol, El, cl, rfl, hcc, hRl, hlen⟩ := (HL.out.kept KW) i hit
        obtain ⟨l, hlx⟩ : ∃ l, l = ls.getD i [] := ⟨_, rfl⟩
        have HLX := Lib.hid hlx
        rw [← hlx] at hcc hRl hlen
        have HRL := Lib.hid hRl
        have C1 := Lib.hid fun w' (k : Kept wr w') => C10b.out w' l El cl (kept_trans KW k) (HRL.out.kept k) hlen
        have HB2 := Lib.hid (show (b && vld (ordF P M) V l) = (G0 && !((ls.take (i + 1)).any fun l => !vld (ordF P M) V l)) by
          rw [any_take hit, HB.out, hlx, Bool.not_or, Bool.not_not, Bool.and_assoc])
        obtain ⟨vl, hvl⟩ : ∃ x, x = vld (ordF P M) V l := ⟨_, rfl⟩
        rw [← hvl] at C1 HB2
        clear hlx hRl hvl
        cases b with
        | true =>
          rw [Bool.true_and] at HB2
          go_upto_region 7 with fail
          refine region_x (fun w' => Kept wr w') [] (by kernel_rfl) (kept_drew (kept_refl _)) (fun hHeld => ?_)
          refine x_take (i := 0) (oi := { dst := some 56, op := Op.move (Operand.tmp 5), type := 4, pos := "law.go:164", after := #[], guard := none }) (v := ?_) rfl (by kernel_rfl) (by kernel_rfl) (by kernel_rfl) (by kernel_rfl) (by kernel_rfl) (fun _ _ _ h => h) (Or.inl ⟨rfl, ?_⟩) (by assumption) ?_
          rotate_left
          · (intro w' hSw; replace y0 := kept_cell hSw y0; replace y1 := kept_cell hSw y1; replace v2 := kept_cell hSw v2; replace v3 := kept_cell hSw v3; replace hcc := kept_cell hSw hcc; go_simp; try with_reducible rfl)
          try simp only [Act.put, List.setIfInBounds_toArray, List.set_cons_zero, List.set_cons_succ]
          refine x_take (i := 1) (oi := { dst := some 57, op := Op.move (Operand.tmp 56), type := 4, pos := "law.go:164", after := #[{ on := 0, ground := Ground.data }], guard := none }) (v := ?_) rfl (by kernel_rfl) (by kernel_rfl) (by kernel_rfl) (by kernel_rfl) (by kernel_rfl) (fun _ _ _ h => h) (Or.inl ⟨rfl, ?_⟩) (by assumption) ?_
          rotate_left
          · (intro w' hSw; replace y0 := kept_cell hSw y0; replace y1 := kept_cell hSw y1; replace v2 := kept_cell hSw v2; replace v3 := kept_cell hSw v3; replace hcc := kept_cell hSw hcc; go_simp; try with_reducible rfl)
          try simp only [Act.put, List.setIfInBounds_toArray, List.set_cons_zero, List.set_cons_succ]
          refine x_take (i := 2) (oi := { dst := some 58, op := Op.load 23 (Operand.tmp 2), type := 23, pos := "law.go:164", after := #[{ on := 1, ground := Ground.guard }], guard := some (1, true) }) (v := ?_) rfl (by kernel_rfl) (by kernel_rfl) (by kernel_rfl) (by kernel_rfl) (by kernel_rfl) (fun _ _ _ h => h) (Or.inl ⟨rfl, ?_⟩) (by assumption) ?_
          rotate_left
          · (intro w' hSw; replace y0 := kept_cell hSw y0; replace y1 := kept_cell hSw y1; replace v2 := kept_cell hSw v2; replace v3 := kept_cell hSw v3; replace hcc := kept_cell hSw hcc; go_simp; try with_reducible rfl)
          try simp only [Act.put, List.setIfInBounds_toArray, List.set_cons_zero, List.set_cons_succ]
          refine x_take (i := 3) (oi := { dst := some 59, op := Op.fieldAddr 45 (Operand.tmp 3) 2, type := 0, pos := "law.go:164", after := #[{ on := 1, ground := Ground.guard }], guard := some (1, true) }) (v := ?_) rfl (by kernel_rfl) (by kernel_rfl) (by kernel_rfl) (by kernel_rfl) (by kernel_rfl) (fun _ _ _ h => h) (Or.inl ⟨rfl, ?_⟩) (by assumption) ?_
          rotate_left
          · (intro w' hSw; replace y0 := kept_cell hSw y0; replace y1 := kept_cell hSw y1; replace v2 := kept_cell hSw v2; replace v3 := kept_cell hSw v3; replace hcc := kept_cell hSw hcc; go_simp; try with_reducible rfl)
          try simp only [Act.put, List.setIfInBounds_toArray, List.set_cons_zero, List.set_cons_succ]
          refine x_take (i := 4) (oi := { dst := some 60, op := Op.load 3 (Operand.tmp 59), type := 3, pos := "law.go:164", after := #[{ on := 3, ground := Ground.data }, { on := 1, ground := Ground.guard }], guard := some (1, true) }) (v := ?_) rfl (by kernel_rfl) (by kernel_rfl) (by kernel_rfl) (by kernel_rfl) (by kernel_rfl) (fun _ _ _ h => h) (Or.inl ⟨rfl, ?_⟩) (by assumption) ?_
          rotate_left
          · (intro w' hSw; replace y0 := kept_cell hSw y0; replace y1 := kept_cell hSw y1; replace v2 := kept_cell hSw v2; replace v3 := kept_cell hSw v3; replace hcc := kept_cell hSw hcc; go_simp; try with_reducible rfl)
          try simp only [Act.put, List.setIfInBounds_toArray, List.set_cons_zero, List.set_cons_succ]
          refine x_take (i := 5) (oi := { dst := some 61, op := Op.fieldAddr 45 (Operand.tmp 3) 3, type := 0, pos := "law.go:164", after := #[{ on := 1, ground := Ground.guard }], guard := some (1, true) }) (v := ?_) rfl (by kernel_rfl) (by kernel_rfl) (by kernel_rfl) (by kernel_rfl) (by kernel_rfl) (fun _ _ _ h => h) (Or.inl ⟨rfl, ?_⟩) (by assumption) ?_
          rotate_left
          · (intro w' hSw; replace y0 := kept_cell hSw y0; replace y1 := kept_cell hSw y1; replace v2 := kept_cell hSw v2; replace v3 := kept_cell hSw v3; replace hcc := kept_cell hSw hcc; go_simp; try with_reducible rfl)
          try simp only [Act.put, List.setIfInBounds_toArray, List.set_cons_zero, List.set_cons_succ]
          refine x_take (i := 6) (oi := { dst := some 62, op := Op.load 43 (Operand.tmp 61), type := 43, pos := "law.go:164", after := #[{ on := 5, ground := Ground.data }, { on := 1, ground := Ground.guard }], guard := some (1, true) }) (v := ?_) rfl (by kernel_rfl) (by kernel_rfl) (by kernel_rfl) (by kernel_rfl) (by kernel_rfl) (fun _ _ _ h => h) (Or.inl ⟨rfl, ?_⟩) (by assumption) ?_
          rotate_left
          · (intro w' hSw; replace y0 := kept_cell hSw y0; replace y1 := kept_cell hSw y1; replace v2 := kept_cell hSw v2; replace v3 := kept_cell hSw v3; replace hcc := kept_cell hSw hcc; go_simp; try with_reducible rfl)
          try simp only [Act.put, List.setIfInBounds_toArray, List.set_cons_zero, List.set_cons_succ]
          refine x_take (i := 7) (oi := { dst := some 63, op := Op.move (Operand.tmp 6), type := 3, pos := "law.go:164", after := #[{ on := 1, ground := Ground.guard }], guard := some (1, true) }) (v := ?_) rfl (by kernel_rfl) (by kernel_rfl) (by kernel_rfl) (by kernel_rfl) (by kernel_rfl) (fun _ _ _ h => h) (Or.inl ⟨rfl, ?_⟩) (by assumption) ?_
          rotate_left
          · (intro w' hSw; replace y0 := kept_cell hSw y0; replace y1 := kept_cell hSw y1; replace v2 := kept_cell hSw v2; replace v3 := kept_cell hSw v3; replace hcc := kept_cell hSw hcc; go_simp; try with_reducible rfl)
          try simp only [Act.put, List.setIfInBounds_toArray, List.set_cons_zero, List.set_cons_succ]
          refine x_take (i := 8) (oi := { dst := some 64, op := Op.indexAddr 43 (Operand.tmp 62) (Operand.tmp 63), type := 0, pos := "law.go:164", after := #[{ on := 6, ground := Ground.data }, { on := 7, ground := Ground.data }, { on := 1, ground := Ground.guard }], guard := some (1, true) }) (v := ?_) rfl (by kernel_rfl) (by kernel_rfl) (by kernel_rfl) (by kernel_rfl) (by kernel_rfl) (fun _ _ _ h => h) (Or.inl ⟨rfl, ?_⟩) (by assumption) ?_
          rotate_left
          · (intro w' hSw; replace y0 := kept_cell hSw y0; replace y1 := kept_cell hSw y1; replace v2 := kept_cell hSw v2; replace v3 := kept_cell hSw v3; replace hcc := kept_cell hSw hcc; go_simp; try with_reducible rfl)
          try simp only [Act.put, List.setIfInBounds_toArray, List.set_cons_zero, List.set_cons_succ]
          refine x_take (i := 9) (oi := { dst := some 65, op := Op.load 25 (Operand.tmp 64), type := 25, pos := "law.go:164", after := #[{ on := 8, ground := Ground.data }, { on := 1, ground := Ground.guard }], guard := some (1, true) }) (v := ?_) rfl (by kernel_rfl) (by kernel_rfl) (by kernel_rfl) (by kernel_rfl) (by kernel_rfl) (fun _ _ _ h => h) (Or.inl ⟨rfl, ?_⟩) (by assumption) ?_
          rotate_left
          · (intro w' hSw; replace y0 := kept_cell hSw y0; replace y1 := kept_cell hSw y1; replace v2 := kept_cell hSw v2; replace v3 := kept_cell hSw v3; replace hcc := kept_cell hSw hcc; go_simp; try with_reducible rfl)
          try simp only [Act.put, List.setIfInBounds_toArray, List.set_cons_zero, List.set_cons_succ]
          refine x_one (i := 10) (o := { dst := some 66, op := Op.call { callee := Callee.value (Operand.func 10), args := #[Operand.tmp 58, Operand.tmp 60, Operand.tmp 65], argTypes := #[23, 3, 25] }, type := 4, pos := "law.go:164", after := #[{ on := 2, ground := Ground.data }, { on := 4, ground := Ground.data }, { on := 9, ground := Ground.data }, { on := 1, ground := Ground.chain }, { on := 1, ground := Ground.guard }], guard := some (1, true) }) (by kernel_rfl) rfl (fun K hK => ?_)
          (go_simp; go_at_call 10; (with_reducible refine (C1.out _ hHeld).mono ?_); rintro e w4 ⟨rfl, k4⟩; have G4 := kept_trans hHeld k4; try dsimp only)
          refine hK.out _ _ ?_ (fun hHeld => ?_)
          · (try dsimp only); repeat (first | assumption | exact kept_refl _ | refine kept_drew ?_ | refine kept_alloc ?_ _ | refine kept_set ?_ (by omega) _)
          clear hK K
          try simp only [Act.put, List.setIfInBounds_toArray, List.set_cons_zero, List.set_cons_succ]
          refine x_take (i := 11) (oi := { dst := some 67, op := Op.pick (Operand.tmp 57) (Operand.tmp 66) (Operand.const (Value.bool false)), type := 4, pos := "law.go:164", after := #[{ on := 1, ground := Ground.data }, { on := 10, ground := Ground.data }], guard := none }) (v := ?_) rfl (by kernel_rfl) (by kernel_rfl) (by kernel_rfl) (by kernel_rfl) (by kernel_rfl) (fun _ _ _ h => h) (Or.inl ⟨rfl, ?_⟩) (by assumption) ?_
          rotate_left
          · (intro w' hSw; replace y0 := kept_cell hSw y0; replace y1 := kept_cell hSw y1; replace v2 := kept_cell hSw v2; replace v3 := kept_cell hSw v3; replace hcc := kept_cell hSw hcc; go_simp; try with_reducible rfl)
          try simp only [Act.put, List.setIfInBounds_toArray, List.set_cons_zero, List.set_cons_succ]
          refine x_take (i := 12) (oi := { dst := some 5, op := Op.assign (Operand.tmp 67), type := 4, pos := "law.go:164", after := #[{ on := 11, ground := Ground.data }, { on := 10, ground := Ground.chain }, { on := 0, ground := Ground.phase }, { on := 1, ground := Ground.phase }, { on := 2, ground := Ground.phase }, { on := 3, ground := Ground.phase }, { on := 4, ground := Ground.phase }, { on := 5, ground := Ground.phase }, { on := 6, ground := Ground.phase }, { on := 7, ground := Ground.phase }, { on := 8, ground := Ground.phase }, { on := 9, ground := Ground.phase }, { on := 10, ground := Ground.phase }, { on := 11, ground := Ground.phase }], guard := none }) (v := ?_) rfl (by kernel_rfl) (by kernel_rfl) (by kernel_rfl) (by kernel_rfl) (by kernel_rfl) (fun _ _ _ h => h) (Or.inl ⟨rfl, ?_⟩) (by assumption) ?_
          rotate_left
          · (intro w' hSw; replace y0 := kept_cell hSw y0; replace y1 := kept_cell hSw y1; replace v2 := kept_cell hSw v2; replace v3 := kept_cell hSw v3; replace hcc := kept_cell hSw hcc; go_simp; try with_reducible rfl)
          try simp only [Act.put, List.setIfInBounds_toArray, List.set_cons_zero, List.set_cons_succ]
          refine x_done (by kernel_rfl) ?_ _
          go_wp2_with fail
          go_roundg (ls.length - (i + 1))
          case rel => exact ⟨i + 1, vl, by omega, rfl, rfl, by go_num, HB2, kept_trans KR G4⟩
          case measure => omega
        | false =>
          rw [Bool.false_and] at HB2
          go_upto_region 7 with fail
          refine region_x (fun w' => Kept wr w') [] (by kernel_rfl) (kept_drew (kept_refl _)) (fun hHeld => ?_)
          refine x_take (i := 0) (oi := { dst := some 56, op := Op.move (Operand.tmp 5), type := 4, pos := "law.go:164", after := #[], guard := none }) (v := ?_) rfl (by kernel_rfl) (by kernel_rfl) (by kernel_rfl) (by kernel_rfl) (by kernel_rfl) (fun _ _ _ h => h) (Or.inl ⟨rfl, ?_⟩) (by assumption) ?_
          rotate_left
          · (intro w' hSw; replace y0 := kept_cell hSw y0; replace y1 := kept_cell hSw y1; replace v2 := kept_cell hSw v2; replace v3 := kept_cell hSw v3; replace hcc := kept_cell hSw hcc; go_simp; try with_reducible rfl)
          try simp only [Act.put, List.setIfInBounds_toArray, List.set_cons_zero, List.set_cons_succ]
          refine x_take (i := 1) (oi := { dst := some 57, op := Op.move (Operand.tmp 56), type := 4, pos := "law.go:164", after := #[{ on := 0, ground := Ground.data }], guard := none }) (v := ?_) rfl (by kernel_rfl) (by kernel_rfl) (by kernel_rfl) (by kernel_rfl) (by kernel_rfl) (fun _ _ _ h => h) (Or.inl ⟨rfl, ?_⟩) (by assumption) ?_
          rotate_left
          · (intro w' hSw; replace y0 := kept_cell hSw y0; replace y1 := kept_cell hSw y1; replace v2 := kept_cell hSw v2; replace v3 := kept_cell hSw v3; replace hcc := kept_cell hSw hcc; go_simp; try with_reducible rfl)
          try simp only [Act.put, List.setIfInBounds_toArray, List.set_cons_zero, List.set_cons_succ]
          refine x_take (i := 2) (oi := { dst := some 58, op := Op.load 23 (Operand.tmp 2), type := 23, pos := "law.go:164", after := #[{ on := 1, ground := Ground.guard }], guard := some (1, true) }) (v := undef) rfl (by kernel_rfl) (by kernel_rfl) (by kernel_rfl) (by kernel_rfl) (by kernel_rfl) (fun _ _ _ h => h) (Or.inr ⟨rfl, rfl⟩) (by assumption) ?_
          try simp only [Act.put, List.setIfInBounds_toArray, List.set_cons_zero, List.set_cons_succ]
          refine x_take (i := 3) (oi := { dst := some 59, op := Op.fieldAddr 45 (Operand.tmp 3) 2, type := 0, pos := "law.go:164", after := #[{ on := 1, ground := Ground.guard }], guard := some (1, true) }) (v := undef) rfl (by kernel_rfl) (by kernel_rfl) (by kernel_rfl) (by kernel_rfl) (by kernel_rfl) (fun _ _ _ h => h) (Or.inr ⟨rfl, rfl⟩) (by assumption) ?_
          try simp only [Act.put, List.setIfInBounds_toArray, List.set_cons_zero, List.set_cons_succ]
          refine x_take (i := 4) (oi := { dst := some 60, op := Op.load 3 (Operand.tmp 59), type := 3, pos := "law.go:164", after := #[{ on := 3, ground := Ground.data }, { on := 1, ground := Ground.guard }], guard := some (1, true) }) (v := undef) rfl (by kernel_rfl) (by kernel_rfl) (by kernel_rfl) (by kernel_rfl) (by kernel_rfl) (fun _ _ _ h => h) (Or.inr ⟨rfl, rfl⟩) (by assumption) ?_
          try simp only [Act.put, List.setIfInBounds_toArray, List.set_cons_zero, List.set_cons_succ]
          refine x_take (i := 5) (oi := { dst := some 61, op := Op.fieldAddr 45 (Operand.tmp 3) 3, type := 0, pos := "law.go:164", after := #[{ on := 1, ground := Ground.guard }], guard := some (1, true) }) (v := undef) rfl (by kernel_rfl) (by kernel_rfl) (by kernel_rfl) (by kernel_rfl) (by kernel_rfl) (fun _ _ _ h => h) (Or.inr ⟨rfl, rfl⟩) (by assumption) ?_
          try simp only [Act.put, List.setIfInBounds_toArray, List.set_cons_zero, List.set_cons_succ]
          refine x_take (i := 6) (oi := { dst := some 62, op := Op.load 43 (Operand.tmp 61), type := 43, pos := "law.go:164", after := #[{ on := 5, ground := Ground.data }, { on := 1, ground := Ground.guard }], guard := some (1, true) }) (v := undef) rfl (by kernel_rfl) (by kernel_rfl) (by kernel_rfl) (by kernel_rfl) (by kernel_rfl) (fun _ _ _ h => h) (Or.inr ⟨rfl, rfl⟩) (by assumption) ?_
          try simp only [Act.put, List.setIfInBounds_toArray, List.set_cons_zero, List.set_cons_succ]
          refine x_take (i := 7) (oi := { dst := some 63, op := Op.move (Operand.tmp 6), type := 3, pos := "law.go:164", after := #[{ on := 1, ground := Ground.guard }], guard := some (1, true) }) (v := undef) rfl (by kernel_rfl) (by kernel_rfl) (by kernel_rfl) (by kernel_rfl) (by kernel_rfl) (fun _ _ _ h => h) (Or.inr ⟨rfl, rfl⟩) (by assumption) ?_
          try simp only [Act.put, List.setIfInBounds_toArray, List.set_cons_zero, List.set_cons_succ]
          refine x_take (i := 8) (oi := { dst := some 64, op := Op.indexAddr 43 (Operand.tmp 62) (Operand.tmp 63), type := 0, pos := "law.go:164", after := #[{ on := 6, ground := Ground.data }, { on := 7, ground := Ground.data }, { on := 1, ground := Ground.guard }], guard := some (1, true) }) (v := undef) rfl (by kernel_rfl) (by kernel_rfl) (by kernel_rfl) (by kernel_rfl) (by kernel_rfl) (fun _ _ _ h => h) (Or.inr ⟨rfl, rfl⟩) (by assumption) ?_
          try simp only [Act.put, List.setIfInBounds_toArray, List.set_cons_zero, List.set_cons_succ]
          refine x_take (i := 9) (oi := { dst := some 65, op := Op.load 25 (Operand.tmp 64), type := 25, pos := "law.go:164", after := #[{ on := 8, ground := Ground.data }, { on := 1, ground := Ground.guard }], guard := some (1, true) }) (v := undef) rfl (by kernel_rfl) (by kernel_rfl) (by kernel_rfl) (by kernel_rfl) (by kernel_rfl) (fun _ _ _ h => h) (Or.inr ⟨rfl, rfl⟩) (by assumption) ?_
          try simp only [Act.put, List.setIfInBounds_toArray, List.set_cons_zero, List.set_cons_succ]
          refine x_take (i := 10) (oi := { dst := some 66, op := Op.call { callee := Callee.value (Operand.func 10), args := #[Operand.tmp 58, Operand.tmp 60, Operand.tmp 65], argTypes := #[23, 3, 25] }, type := 4, pos := "law.go:164", after := #[{ on := 2, ground := Ground.data }, { on := 4, ground := Ground.data }, { on := 9, ground := Ground.data }, { on := 1, ground := Ground.chain }, { on := 1, ground := Ground.guard }], guard := some (1, true) }) (v := undef) rfl (by kernel_rfl) (by kernel_rfl) (by kernel_rfl) (by kernel_rfl) (by kernel_rfl) (fun _ _ _ h => h) (Or.inr ⟨rfl, rfl⟩) (by assumption) ?_
          try simp only [Act.put, List.setIfInBounds_toArray, List.set_cons_zero, List.set_cons_succ]
          refine x_take (i := 11) (oi := { dst := some 67, op := Op.pick (Operand.tmp 57) (Operand.tmp 66) (Operand.const (Value.bool false)), type := 4, pos := "law.go:164", after := #[{ on := 1, ground := Ground.data }, { on := 10, ground := Ground.data }], guard := none }) (v := ?_) rfl (by kernel_rfl) (by kernel_rfl) (by kernel_rfl) (by kernel_rfl) (by kernel_rfl) (fun _ _ _ h => h) (Or.inl ⟨rfl, ?_⟩) (by assumption) ?_
          rotate_left
          · (intro w' hSw; replace y0 := kept_cell hSw y0; replace y1 := kept_cell hSw y1; replace v2 := kept_cell hSw v2; replace v3 := kept_cell hSw v3; replace hcc := kept_cell hSw hcc; go_simp; try with_reducible rfl)
          try simp only [Act.put, List.setIfInBounds_toArray, List.set_cons_zero, List.set_cons_succ]
          refine x_take (i := 12) (oi := { dst := some 5, op := Op.assign (Operand.tmp 67), type := 4, pos := "law.go:164", after := #[{ on := 11, ground := Ground.data }, { on := 10, ground := Ground.chain }, { on := 0, ground := Ground.phase }, { on := 1, ground := Ground.phase }, { on := 2, ground := Ground.phase }, { on := 3, ground := Ground.phase }, { on := 4, ground := Ground.phase }, { on := 5, ground := Ground.phase }, { on := 6, ground := Ground.phase }, { on := 7, ground := Ground.phase }, { on := 8, ground := Ground.phase }, { on := 9, ground := Ground.phase }, { on := 10, ground := Ground.phase }, { on := 11, ground := Ground.phase }], guard := none }) (v := ?_) rfl (by kernel_rfl) (by kernel_rfl) (by kernel_rfl) (by kernel_rfl) (by kernel_rfl) (fun _ _ _ h => h) (Or.inl ⟨rfl, ?_⟩) (by assumption) ?_
          rotate_left
          · (intro w' hSw; replace y0 := kept_cell hSw y0; replace y1 := kept_cell hSw y1; replace v2 := kept_cell hSw v2; replace v3 := kept_cell hSw v3; replace hcc := kept_cell hSw hcc; go_simp; try with_reducible rfl)
          try simp only [Act.put, List.setIfInBounds_toArray, List.set_cons_zero, List.set_cons_succ]
          refine x_done (by kernel_rfl) ?_ _
          go_wp2_with fail
          go_roundg (ls.length - (i + 1))
          case rel => exact ⟨i + 1, false, by omega, rfl, rfl, by go_num, HB2, kept_trans KR hHeld⟩
          case measure => omega
      · obtain rfl : i = ls.length := by omega
        have g1 : decide ((ls.length : Int) < (ls.length : Int)) = false := decide_eq_false (by omega)
        have g2 : decide (ls.length < ls.length) = false := decide_eq_false (by omega)
        have K2 := KW
        have HFB : b = formB (ordF P M) N V p ls := by
          rw [HB.out, List.take_length, HG0.out, HBP.out]
          rfl
        have e7 := is16_err
        cases b with
        | false =>
          have C17 := Lib.hid fun w' (k : Kept w w') => subst17_form P M N V p ls A B c d w' (HP.out.kept k) hl (HL.out.kept k) hll HFB.symm
          have C11 := Lib.hid fun w' => is16_err 1 none none 0 0 0 w' (by decide)
          unfold NilErr fV at C17
          clear HFB e7
          go_wp2_with (first
            | (go_at_call 17; ((with_reducible refine (C17.out _ K2).mono ?_); rintro e w5 ⟨rfl, k5⟩; replace K2 := kept_trans K2 k5))
            | (go_at_call 11; ((with_reducible refine (C11.out _).mono ?_); rintro e w6 ⟨rfl, k6⟩; replace K2 := kept_trans K2 k6))
            | (go_at_call 7; ((with_reducible refine (C13.out _ K2).mono ?_); rintro e w9 ⟨rfl, k9⟩; replace K2 := kept_trans K2 k9)))
          go_ret
          exact ⟨rfl, K2⟩
        | true =>
          have HF := Lib.hid HFB.symm
          clear HFB e7
          by_cases hn : (ls.length : Int) = N
          · subst hn
            have n1 : ((ls.length : Int) == (ls.length : Int)) = true := by simp
            have n2 : (ls.length == ls.length) = true := by simp
            have n3 : ((ls.length : Int) != (ls.length : Int)) = false := by simp
            obtain ⟨f1, f2, f3, f4⟩ := form_parts HF.out
            have HV0 := Lib.hid f1
            have HV8 := Lib.hid f2
            have HVP := Lib.hid f3
            have HVL := Lib.hid f4
            have C16 := Lib.hid fun w' (k : Kept w w') => small41_any (ordF P M) (ls.length : Int) p ls A B c d w' (HP.out.kept k) (HL.out.kept k) HVP.out rfl
            clear f1 f2 f3 f4
            go_upto_region 10 with (first
              | (go_at_call 16; ((with_reducible refine (C16.out _ K2).mono ?_); rintro e w5 ⟨b, rfl, hb, k5⟩; replace K2 := kept_trans K2 k5; replace y0 := kept_cell k5 y0; replace y1 := kept_cell k5 y1; replace v0 := kept_cell k5 v0; replace v1 := kept_cell k5 v1; replace v2 := kept_cell k5 v2; replace v3 := kept_cell k5 v3; cases b))
              | (go_at_call 7; ((with_reducible refine (C13.out _ K2).mono ?_); rintro e w9 ⟨rfl, k9⟩; replace K2 := kept_trans K2 k9)))
            · go_wp2_with (go_at_call 7; ((with_reducible refine (C13.out _ K2).mono ?_); rintro e w9 ⟨rfl, k9⟩; replace K2 := kept_trans K2 k9))
              go_ret
              exact ⟨rfl, K2⟩
            · have HSM := Lib.hid (hb.out trivial)
              have em : ((V.toNat : Nat) : Int) = V := by have := HV0.out; omega
              have hm80 : V.toNat ≤ 80 := by have := HV0.out; have := HV8.out; omega
              have hls : ∀ k, k < ls.length → vld (ordF P M) ((V.toNat : Nat) : Int) (ls.getD k []) = true := by rw [em]; exact HVL.out
              have SO := sub_ok HSM.out HVP.out hm80 hls
              have C17 := Lib.hid fun w' (k : Kept w w') => subst42_main P M V.toNat p ls A B c d w' (HP.out.kept k) (HL.out.kept k) hll HVP.out hm80 hls SO
              have C18 := Lib.hid fun w' (k : Kept w w') => rsubst18_main P M V.toNat p ls A B c d w' (HP.out.kept k) (HL.out.kept k) HVP.out hm80 hls HSM.out
              have C12 := Lib.hid fun w' => of18_any P M w' (vld_ok HVP.out)
              have hsv := sb_vl SO HVP.out hm80 hls p.length (Nat.le_refl _)
              unfold SubPost fV at C17
              unfold RSub kV at C18
              unfold fV kV at C12
              rw [em] at C17 C18
              obtain ⟨so, hso⟩ : ∃ s, s = sbTo P M V.toNat ls p p.length := ⟨_, rfl⟩
              obtain ⟨rs, hrs⟩ : ∃ s, s = sbR P M V.toNat ls p p.length := ⟨_, rfl⟩
              rw [← hso, ← hrs] at C18
              rw [← hso] at C17 hsv
              obtain ⟨q, hq⟩ : ∃ q, q = ordF P M := ⟨_, rfl⟩
              obtain ⟨km, hkm⟩ : ∃ km, km = kitM M := ⟨_, rfl⟩
              rw [← hq, ← hkm] at C12 C18
              have HSV := Lib.hid (show ∀ t, so = some t → fitsB t = true ∧ t.length ≤ 20000 from fun t ht => ⟨vld_fits (hsv t ht), (vld_terms (hsv t ht)).2.1⟩)
              clear hso hrs hq hkm hsv SO hls em hm80 hb C10b C16
              go_upto_region 15 with (go_at_call 17; ((with_reducible refine (C17.out _ K2).mono ?_); rintro e w7 ⟨A7, c7, rfl, hr7, k7⟩; replace K2 := kept_trans K2 k7; replace y0 := kept_cell k7 y0; replace y1 := kept_cell k7 y1; replace v0 := kept_cell k7 v0; replace v1 := kept_cell k7 v1; replace v2 := kept_cell k7 v2; replace v3 := kept_cell k7 v3))
              go_cut [9] (fun s9 wx => ∃ (g : Nat) (A8 : Option Addr) (c8 : Nat) (ov : Bool), s9 = .pointer (some ⟨g, 0, none⟩) ∧ Own wx g 49 [.slice A8 rs.length c8, .bool ov, .bool false] ∧ RP wx A8 rs ∧ Hid (Agr so rs ov) ∧ Kept w7 wx)
              case first =>
                refine region_x (fun w' => Kept w7 w') [] (by kernel_rfl) (kept_drew (kept_refl _)) (fun hHeld => ?_)
                refine x_take (i := 0) (oi := { dst := some 119, op := Op.load 23 (Operand.tmp 2), type := 23, pos := "law.go:176", after := #[], guard := none }) (v := ?_) rfl (by kernel_rfl) (by kernel_rfl) (by kernel_rfl) (by kernel_rfl) (by kernel_rfl) (fun _ _ _ h => h) (Or.inl ⟨rfl, ?_⟩) (by assumption) ?_
                rotate_left
                · (intro w' hSw; replace y0 := kept_cell hSw y0; replace y1 := kept_cell hSw y1; replace v1 := kept_cell hSw v1; replace v2 := kept_cell hSw v2; replace v3 := kept_cell hSw v3; go_simp; try with_reducible rfl)
                try simp only [Act.put, List.setIfInBounds_toArray, List.set_cons_zero, List.set_cons_succ]
                refine x_take (i := 2) (oi := { dst := some 121, op := Op.fieldAddr 45 (Operand.tmp 3) 1, type := 0, pos := "law.go:176", after := #[], guard := none }) (v := ?_) rfl (by kernel_rfl) (by kernel_rfl) (by kernel_rfl) (by kernel_rfl) (by kernel_rfl) (fun _ _ _ h => h) (Or.inl ⟨rfl, ?_⟩) (by assumption) ?_
                rotate_left
                · (intro w' hSw; replace y0 := kept_cell hSw y0; replace y1 := kept_cell hSw y1; replace v1 := kept_cell hSw v1; replace v2 := kept_cell hSw v2; replace v3 := kept_cell hSw v3; go_simp; try with_reducible rfl)
                try simp only [Act.put, List.setIfInBounds_toArray, List.set_cons_zero, List.set_cons_succ]
                refine x_take (i := 3) (oi := { dst := some 122, op := Op.load 25 (Operand.tmp 121), type := 25, pos := "law.go:176", after := #[{ on := 2, ground := Ground.data }], guard := none }) (v := ?_) rfl (by kernel_rfl) (by kernel_rfl) (by kernel_rfl) (by kernel_rfl) (by kernel_rfl) (fun _ _ _ h => h) (Or.inl ⟨rfl, ?_⟩) (by assumption) ?_
                rotate_left
                · (intro w' hSw; replace y0 := kept_cell hSw y0; replace y1 := kept_cell hSw y1; replace v1 := kept_cell hSw v1; replace v2 := kept_cell hSw v2; replace v3 := kept_cell hSw v3; go_simp; try with_reducible rfl)
                try simp only [Act.put, List.setIfInBounds_toArray, List.set_cons_zero, List.set_cons_succ]
                refine x_take (i := 4) (oi := { dst := some 123, op := Op.fieldAddr 45 (Operand.tmp 3) 2, type := 0, pos := "law.go:176", after := #[], guard := none }) (v := ?_) rfl (by kernel_rfl) (by kernel_rfl) (by kernel_rfl) (by kernel_rfl) (by kernel_rfl) (fun _ _ _ h => h) (Or.inl ⟨rfl, ?_⟩) (by assumption) ?_
                rotate_left
                · (intro w' hSw; replace y0 := kept_cell hSw y0; replace y1 := kept_cell hSw y1; replace v1 := kept_cell hSw v1; replace v2 := kept_cell hSw v2; replace v3 := kept_cell hSw v3; go_simp; try with_reducible rfl)
                try simp only [Act.put, List.setIfInBounds_toArray, List.set_cons_zero, List.set_cons_succ]
                refine x_take (i := 5) (oi := { dst := some 124, op := Op.load 3 (Operand.tmp 123), type := 3, pos := "law.go:176", after := #[{ on := 4, ground := Ground.data }], guard := none }) (v := ?_) rfl (by kernel_rfl) (by kernel_rfl) (by kernel_rfl) (by kernel_rfl) (by kernel_rfl) (fun _ _ _ h => h) (Or.inl ⟨rfl, ?_⟩) (by assumption) ?_
                rotate_left
                · (intro w' hSw; replace y0 := kept_cell hSw y0; replace y1 := kept_cell hSw y1; replace v1 := kept_cell hSw v1; replace v2 := kept_cell hSw v2; replace v3 := kept_cell hSw v3; go_simp; try with_reducible rfl)
                try simp only [Act.put, List.setIfInBounds_toArray, List.set_cons_zero, List.set_cons_succ]
                refine x_take (i := 6) (oi := { dst := some 125, op := Op.fieldAddr 45 (Operand.tmp 3) 3, type := 0, pos := "law.go:176", after := #[], guard := none }) (v := ?_) rfl (by kernel_rfl) (by kernel_rfl) (by kernel_rfl) (by kernel_rfl) (by kernel_rfl) (fun _ _ _ h => h) (Or.inl ⟨rfl, ?_⟩) (by assumption) ?_
                rotate_left
                · (intro w' hSw; replace y0 := kept_cell hSw y0; replace y1 := kept_cell hSw y1; replace v1 := kept_cell hSw v1; replace v2 := kept_cell hSw v2; replace v3 := kept_cell hSw v3; go_simp; try with_reducible rfl)
                try simp only [Act.put, List.setIfInBounds_toArray, List.set_cons_zero, List.set_cons_succ]
                refine x_take (i := 7) (oi := { dst := some 126, op := Op.load 43 (Operand.tmp 125), type := 43, pos := "law.go:176", after := #[{ on := 6, ground := Ground.data }], guard := none }) (v := ?_) rfl (by kernel_rfl) (by kernel_rfl) (by kernel_rfl) (by kernel_rfl) (by kernel_rfl) (fun _ _ _ h => h) (Or.inl ⟨rfl, ?_⟩) (by assumption) ?_
                rotate_left
                · (intro w' hSw; replace y0 := kept_cell hSw y0; replace y1 := kept_cell hSw y1; replace v1 := kept_cell hSw v1; replace v2 := kept_cell hSw v2; replace v3 := kept_cell hSw v3; go_simp; try with_reducible rfl)
                try simp only [Act.put, List.setIfInBounds_toArray, List.set_cons_zero, List.set_cons_succ]
                refine x_two (i := 1) (j := 9) (oi := { dst := some 120, op := Op.call { callee := Callee.value (Operand.func 12), args := #[Operand.tmp 119], argTypes := #[23] }, type := 37, pos := "law.go:176", after := #[{ on := 0, ground := Ground.data }], guard := none }) (oj := { dst := some 9, op := Op.alloc 49, type := 0, pos := "law.go:176", after := #[], guard := none }) (by kernel_rfl) rfl rfl (fun K hK => ?_) (fun K hK => ?_)
                · (go_simp; go_at_call 12; (with_reducible refine (C12.out _).mono ?_); rintro e w8 ⟨rfl, k8⟩; have KK8 : Kept w7 w8 := kept_trans hHeld k8; (try replace oA := oA.kept k8); try dsimp only)
                  refine hK.out _ _ ?_ (fun hHeld => ?_)
                  · (try dsimp only); repeat (first | assumption | exact kept_refl _ | refine kept_drew ?_ | refine kept_alloc ?_ _ | refine kept_set ?_ (by omega) _)
                  clear hK K
                  try simp only [Act.put, List.setIfInBounds_toArray, List.set_cons_zero, List.set_cons_succ]
                  refine x_two (i := 8) (j := 9) (oi := { dst := some 127, op := Op.call { callee := Callee.value (Operand.func 18), args := #[Operand.tmp 120, Operand.tmp 122, Operand.tmp 124, Operand.tmp 126], argTypes := #[37, 25, 3, 43] }, type := 49, pos := "law.go:176", after := #[{ on := 1, ground := Ground.data }, { on := 3, ground := Ground.data }, { on := 5, ground := Ground.data }, { on := 7, ground := Ground.data }, { on := 1, ground := Ground.chain }], guard := none }) (oj := { dst := some 9, op := Op.alloc 49, type := 0, pos := "law.go:176", after := #[], guard := none }) (by kernel_rfl) rfl rfl (fun K hK => ?_) (fun K hK => ?_)
                  · (go_simp; go_at_call 18; (with_reducible refine (C18.out _ (kept_trans K2 hHeld)).mono ?_); rintro e w9 ⟨A8, c8, ov, rfl, hr8, hA8, k9⟩; have KK9 : Kept w7 w9 := kept_trans hHeld k9; (try replace oA := oA.kept k9); try dsimp only)
                    refine hK.out _ _ ?_ (fun hHeld => ?_)
                    · (try dsimp only); repeat (first | assumption | exact kept_refl _ | refine kept_drew ?_ | refine kept_alloc ?_ _ | refine kept_set ?_ (by omega) _)
                    clear hK K
                    try simp only [Act.put, List.setIfInBounds_toArray, List.set_cons_zero, List.set_cons_succ]
                    refine x_one (i := 9) (o := { dst := some 9, op := Op.alloc 49, type := 0, pos := "law.go:176", after := #[], guard := none }) (by kernel_rfl) rfl (fun K hK => ?_)
                    ((first | have oA := Own.new w9 49 [.slice none 0 0, .bool false, .bool false] | have oA := Own.new w8 49 [.slice none 0 0, .bool false, .bool false] | have oA : Own (w7.drew.alloc (.cells #[.slice none 0 0, .bool false, .bool false] 49)) w7.heap.size 49 [.slice none 0 0, .bool false, .bool false] := Own.new w7.drew 49 [.slice none 0 0, .bool false, .bool false]); go_simp)
                    refine hK.out _ _ ?_ (fun hHeld => ?_)
                    · (try dsimp only); repeat (first | assumption | exact kept_refl _ | refine kept_drew ?_ | refine kept_alloc ?_ _ | refine kept_set ?_ (by omega) _)
                    clear hK K
                    try simp only [Act.put, List.setIfInBounds_toArray, List.set_cons_zero, List.set_cons_succ]
                    refine x_one (i := 10) (o := { dst := none, op := Op.store 49 (Operand.tmp 9) (Operand.tmp 127), type := 0, pos := "law.go:176", after := #[{ on := 9, ground := Ground.data }, { on := 8, ground := Ground.data }, { on := 8, ground := Ground.chain }, { on := 0, ground := Ground.phase }, { on := 1, ground := Ground.phase }, { on := 2, ground := Ground.phase }, { on := 3, ground := Ground.phase }, { on := 4, ground := Ground.phase }, { on := 5, ground := Ground.phase }, { on := 6, ground := Ground.phase }, { on := 7, ground := Ground.phase }, { on := 8, ground := Ground.phase }, { on := 9, ground := Ground.phase }], guard := none }) (by kernel_rfl) rfl (fun K hK => ?_)
                    (have z0 := oA.cell (j := 0) rfl; have z1 := oA.cell (j := 1) rfl; have z2 := oA.cell (j := 2) rfl; have f0 := oA.frozen 0; have f1 := oA.frozen 1; have f2 := oA.frozen 2; have s0 := oA.lt; have s1 := hHeld.size; (try have s2 := KK8.size); go_simp)
                    refine hK.out _ _ ?_ (fun hHeld => ?_)
                    · (try dsimp only); repeat (first | assumption | exact kept_refl _ | refine kept_drew ?_ | refine kept_alloc ?_ _ | refine kept_set ?_ (by omega) _)
                    clear hK K
                    try simp only [Act.put, List.setIfInBounds_toArray, List.set_cons_zero, List.set_cons_succ]
                    refine x_done (by kernel_rfl) ?_ _
                    (go_wp2_with fail; go_meet; first | exact ⟨_, _, _, ov, rfl, Own.new w9 49 _, hr8.kept (kept_alloc (kept_refl _) _), hA8, kept_alloc KK9 _⟩ | exact ⟨_, _, _, ov, rfl, ((oA.set 0 _).set 1 _).set 2 _, rp_far (rp_far (rp_far hr8 oA (noInt_sub _ _ _ _ _) _ _) (oA.set 0 _) (noInt_sub _ _ _ _ _) _ _) ((oA.set 0 _).set 1 _) (noInt_sub _ _ _ _ _) _ _, hA8, hHeld⟩)
                  · ((first | have oA := Own.new w9 49 [.slice none 0 0, .bool false, .bool false] | have oA := Own.new w8 49 [.slice none 0 0, .bool false, .bool false] | have oA : Own (w7.drew.alloc (.cells #[.slice none 0 0, .bool false, .bool false] 49)) w7.heap.size 49 [.slice none 0 0, .bool false, .bool false] := Own.new w7.drew 49 [.slice none 0 0, .bool false, .bool false]); go_simp)
                    refine hK.out _ _ ?_ (fun hHeld => ?_)
                    · (try dsimp only); repeat (first | assumption | exact kept_refl _ | refine kept_drew ?_ | refine kept_alloc ?_ _ | refine kept_set ?_ (by omega) _)
                    clear hK K
                    try simp only [Act.put, List.setIfInBounds_toArray, List.set_cons_zero, List.set_cons_succ]
                    refine x_one (i := 8) (o := { dst := some 127, op := Op.call { callee := Callee.value (Operand.func 18), args := #[Operand.tmp 120, Operand.tmp 122, Operand.tmp 124, Operand.tmp 126], argTypes := #[37, 25, 3, 43] }, type := 49, pos := "law.go:176", after := #[{ on := 1, ground := Ground.data }, { on := 3, ground := Ground.data }, { on := 5, ground := Ground.data }, { on := 7, ground := Ground.data }, { on := 1, ground := Ground.chain }], guard := none }) (by kernel_rfl) rfl (fun K hK => ?_)
                    (go_simp; go_at_call 18; (with_reducible refine (C18.out _ (kept_trans K2 hHeld)).mono ?_); rintro e w9 ⟨A8, c8, ov, rfl, hr8, hA8, k9⟩; have KK9 : Kept w7 w9 := kept_trans hHeld k9; (try replace oA := oA.kept k9); try dsimp only)
                    refine hK.out _ _ ?_ (fun hHeld => ?_)
                    · (try dsimp only); repeat (first | assumption | exact kept_refl _ | refine kept_drew ?_ | refine kept_alloc ?_ _ | refine kept_set ?_ (by omega) _)
                    clear hK K
                    try simp only [Act.put, List.setIfInBounds_toArray, List.set_cons_zero, List.set_cons_succ]
                    refine x_one (i := 10) (o := { dst := none, op := Op.store 49 (Operand.tmp 9) (Operand.tmp 127), type := 0, pos := "law.go:176", after := #[{ on := 9, ground := Ground.data }, { on := 8, ground := Ground.data }, { on := 8, ground := Ground.chain }, { on := 0, ground := Ground.phase }, { on := 1, ground := Ground.phase }, { on := 2, ground := Ground.phase }, { on := 3, ground := Ground.phase }, { on := 4, ground := Ground.phase }, { on := 5, ground := Ground.phase }, { on := 6, ground := Ground.phase }, { on := 7, ground := Ground.phase }, { on := 8, ground := Ground.phase }, { on := 9, ground := Ground.phase }], guard := none }) (by kernel_rfl) rfl (fun K hK => ?_)
                    (have z0 := oA.cell (j := 0) rfl; have z1 := oA.cell (j := 1) rfl; have z2 := oA.cell (j := 2) rfl; have f0 := oA.frozen 0; have f1 := oA.frozen 1; have f2 := oA.frozen 2; have s0 := oA.lt; have s1 := hHeld.size; (try have s2 := KK8.size); go_simp)
                    refine hK.out _ _ ?_ (fun hHeld => ?_)
                    · (try dsimp only); repeat (first | assumption | exact kept_refl _ | refine kept_drew ?_ | refine kept_alloc ?_ _ | refine kept_set ?_ (by omega) _)
                    clear hK K
                    try simp only [Act.put, List.setIfInBounds_toArray, List.set_cons_zero, List.set_cons_succ]
                    refine x_done (by kernel_rfl) ?_ _
                    (go_wp2_with fail; go_meet; first | exact ⟨_, _, _, ov, rfl, Own.new w9 49 _, hr8.kept (kept_alloc (kept_refl _) _), hA8, kept_alloc KK9 _⟩ | exact ⟨_, _, _, ov, rfl, ((oA.set 0 _).set 1 _).set 2 _, rp_far (rp_far (rp_far hr8 oA (noInt_sub _ _ _ _ _) _ _) (oA.set 0 _) (noInt_sub _ _ _ _ _) _ _) ((oA.set 0 _).set 1 _) (noInt_sub _ _ _ _ _) _ _, hA8, hHeld⟩)
                · ((first | have oA := Own.new w9 49 [.slice none 0 0, .bool false, .bool false] | have oA := Own.new w8 49 [.slice none 0 0, .bool false, .bool false] | have oA : Own (w7.drew.alloc (.cells #[.slice none 0 0, .bool false, .bool false] 49)) w7.heap.size 49 [.slice none 0 0, .bool false, .bool false] := Own.new w7.drew 49 [.slice none 0 0, .bool false, .bool false]); go_simp)
                  refine hK.out _ _ ?_ (fun hHeld => ?_)
                  · (try dsimp only); repeat (first | assumption | exact kept_refl _ | refine kept_drew ?_ | refine kept_alloc ?_ _ | refine kept_set ?_ (by omega) _)
                  clear hK K
                  try simp only [Act.put, List.setIfInBounds_toArray, List.set_cons_zero, List.set_cons_succ]
                  refine x_one (i := 1) (o := { dst := some 120, op := Op.call { callee := Callee.value (Operand.func 12), args := #[Operand.tmp 119], argTypes := #[23] }, type := 37, pos := "law.go:176", after := #[{ on := 0, ground := Ground.data }], guard := none }) (by kernel_rfl) rfl (fun K hK => ?_)
                  (go_simp; go_at_call 12; (with_reducible refine (C12.out _).mono ?_); rintro e w8 ⟨rfl, k8⟩; have KK8 : Kept w7 w8 := kept_trans hHeld k8; (try replace oA := oA.kept k8); try dsimp only)
                  refine hK.out _ _ ?_ (fun hHeld => ?_)
                  · (try dsimp only); repeat (first | assumption | exact kept_refl _ | refine kept_drew ?_ | refine kept_alloc ?_ _ | refine kept_set ?_ (by omega) _)
                  clear hK K
                  try simp only [Act.put, List.setIfInBounds_toArray, List.set_cons_zero, List.set_cons_succ]
                  refine x_one (i := 8) (o := { dst := some 127, op := Op.call { callee := Callee.value (Operand.func 18), args := #[Operand.tmp 120, Operand.tmp 122, Operand.tmp 124, Operand.tmp 126], argTypes := #[37, 25, 3, 43] }, type := 49, pos := "law.go:176", after := #[{ on := 1, ground := Ground.data }, { on := 3, ground := Ground.data }, { on := 5, ground := Ground.data }, { on := 7, ground := Ground.data }, { on := 1, ground := Ground.chain }], guard := none }) (by kernel_rfl) rfl (fun K hK => ?_)
                  (go_simp; go_at_call 18; (with_reducible refine (C18.out _ (kept_trans K2 hHeld)).mono ?_); rintro e w9 ⟨A8, c8, ov, rfl, hr8, hA8, k9⟩; have KK9 : Kept w7 w9 := kept_trans hHeld k9; (try replace oA := oA.kept k9); try dsimp only)
                  refine hK.out _ _ ?_ (fun hHeld => ?_)
                  · (try dsimp only); repeat (first | assumption | exact kept_refl _ | refine kept_drew ?_ | refine kept_alloc ?_ _ | refine kept_set ?_ (by omega) _)
                  clear hK K
                  try simp only [Act.put, List.setIfInBounds_toArray, List.set_cons_zero, List.set_cons_succ]
                  refine x_one (i := 10) (o := { dst := none, op := Op.store 49 (Operand.tmp 9) (Operand.tmp 127), type := 0, pos := "law.go:176", after := #[{ on := 9, ground := Ground.data }, { on := 8, ground := Ground.data }, { on := 8, ground := Ground.chain }, { on := 0, ground := Ground.phase }, { on := 1, ground := Ground.phase }, { on := 2, ground := Ground.phase }, { on := 3, ground := Ground.phase }, { on := 4, ground := Ground.phase }, { on := 5, ground := Ground.phase }, { on := 6, ground := Ground.phase }, { on := 7, ground := Ground.phase }, { on := 8, ground := Ground.phase }, { on := 9, ground := Ground.phase }], guard := none }) (by kernel_rfl) rfl (fun K hK => ?_)
                  (have z0 := oA.cell (j := 0) rfl; have z1 := oA.cell (j := 1) rfl; have z2 := oA.cell (j := 2) rfl; have f0 := oA.frozen 0; have f1 := oA.frozen 1; have f2 := oA.frozen 2; have s0 := oA.lt; have s1 := hHeld.size; (try have s2 := KK8.size); go_simp)
                  refine hK.out _ _ ?_ (fun hHeld => ?_)
                  · (try dsimp only); repeat (first | assumption | exact kept_refl _ | refine kept_drew ?_ | refine kept_alloc ?_ _ | refine kept_set ?_ (by omega) _)
                  clear hK K
                  try simp only [Act.put, List.setIfInBounds_toArray, List.set_cons_zero, List.set_cons_succ]
                  refine x_done (by kernel_rfl) ?_ _
                  (go_wp2_with fail; go_meet; first | exact ⟨_, _, _, ov, rfl, Own.new w9 49 _, hr8.kept (kept_alloc (kept_refl _) _), hA8, kept_alloc KK9 _⟩ | exact ⟨_, _, _, ov, rfl, ((oA.set 0 _).set 1 _).set 2 _, rp_far (rp_far (rp_far hr8 oA (noInt_sub _ _ _ _ _) _ _) (oA.set 0 _) (noInt_sub _ _ _ _ _) _ _) ((oA.set 0 _).set 1 _) (noInt_sub _ _ _ _ _) _ _, hA8, hHeld⟩)
              case rest =>
                obtain ⟨g, A8, c8, ov, rfl, o9, hr8, hA8, KX⟩ := hcut
                obtain ⟨wx, rfl⟩ : ∃ x : World, x = wc := ⟨_, rfl⟩
                have z0 := o9.cell (j := 0) rfl; have z1 := o9.cell (j := 1) rfl; have z2 := o9.cell (j := 2) rfl
                replace K2 := kept_trans K2 KX
                clear y0 y1 v0 v1 v2 v3 n1 n2 n3 C17 C18 C12
                cases so with
                | none =>
                  obtain rfl : ov = true := hA8.out.2 rfl
                  rw [tmO_none, errO_none]
                  go_wp2_with (go_at_call 7; ((with_reducible refine (C13.out _ K2).mono ?_); rintro e w9 ⟨rfl, k9⟩; replace K2 := kept_trans K2 k9))
                  go_ret
                  exact ⟨rfl, K2⟩
                | some T =>
                  obtain rfl : rs = T := hA8.out.1 T rfl
                  obtain ⟨hfit, hlen⟩ := HSV.out rs rfl
                  change RP _ A7 rs at hr7
                  have HR7 := Lib.hid (hr7.kept KX)
                  have HR8 := Lib.hid hr8
                  have C19 := Lib.hid (fits31_any rs A8 c8 wx hr8 (by omega))
                  rw [hfit] at C19
                  have C11 := Lib.hid fun w' (k : Kept wx w') => is16_ok rs rs A7 A8 c7 c8 w' (HR7.out.kept k) (HR8.out.kept k) (by omega) (by omega)
                  rw [show decide (rs = rs) = true by simp] at C11
                  rw [tmO_some, errO_some]
                  clear hfit hlen hr7 hr8 hA8 HSV
                  cases ov with
                  | true =>
                    go_wp2_with (first
                      | (go_at_call 19; ((with_reducible refine C19.out.mono ?_); rintro e w10 ⟨rfl, k10⟩; replace K2 := kept_trans K2 k10; replace z0 := kept_cell k10 z0))
                      | (go_at_call 11; ((with_reducible refine (C11.out _ k10).mono ?_); rintro e w11 ⟨rfl, k11⟩; replace K2 := kept_trans K2 k11))
                      | (go_at_call 7; ((with_reducible refine (C13.out _ K2).mono ?_); rintro e w9 ⟨rfl, k9⟩; replace K2 := kept_trans K2 k9)))
                    go_ret
                    exact ⟨rfl, K2⟩
                  | false =>
                    go_wp2_with (first
                      | (go_at_call 19; ((with_reducible refine C19.out.mono ?_); rintro e w10 ⟨rfl, k10⟩; replace K2 := kept_trans K2 k10; replace z0 := kept_cell k10 z0))
                      | (go_at_call 11; ((with_reducible refine (C11.out _ k10).mono ?_); rintro e w11 ⟨rfl, k11⟩; replace K2 := kept_trans K2 k11))
                      | (go_at_call 7; ((with_reducible refine (C13.out _ K2).mono ?_); rintro e w9 ⟨rfl, k9⟩; replace K2 := kept_trans K2 k9)))
                    go_ret
                    exact ⟨rfl, K2⟩
          · have C17 := Lib.hid fun w' (k : Kept w w') => subst17_arg P M N V p ls A B c d w' (HP.out.kept k) hl (HL.out.kept k) hll HF.out hn
            have C11 := Lib.hid fun w' => is16_err 2 none none 0 0 0 w' (by decide)
            have n1 : ((ls.length : Int) == N) = false := by simpa using hn
            have n2 : ((ls.length : Int) != N) = true := by simpa using hn
            unfold NilErr fV at C17
            clear hn
            go_wp2_with (first
              | (go_at_call 17; ((with_reducible refine (C17.out _ K2).mono ?_); rintro e w5 ⟨rfl, k5⟩; replace K2 := kept_trans K2 k5; replace y0 := kept_cell k5 y0; replace y1 := kept_cell k5 y1; replace v0 := kept_cell k5 v0; replace v1 := kept_cell k5 v1; replace v2 := kept_cell k5 v2; replace v3 := kept_cell k5 v3))
              | (go_at_call 11; ((with_reducible refine (C11.out _).mono ?_); rintro e w6 ⟨rfl, k6⟩; replace K2 := kept_trans K2 k6; replace y0 := kept_cell k6 y0; replace y1 := kept_cell k6 y1; replace v0 := kept_cell k6 v0; replace v1 := kept_cell k6 v1; replace v2 := kept_cell k6 v2; replace v3 := kept_cell k6 v3))
              | (go_at_call 7; ((with_reducible refine (C13.out _ K2).mono ?_); rintro e w9 ⟨rfl, k9⟩; replace K2 := kept_trans K2 k9)))
            go_ret
            exact ⟨rfl, K2⟩
theorem law4_any (P M N V : Int) (p : List Tm) (A : Option Addr) (c : Nat) (ls : List (List Tm)) (B : Option Addr) (d : Nat) (w : World) (hp : PowOk w) (hP : RP w A p) (hl : p.length ≤ 140737488355328) (hL : RPP w B ls) (hll : ls.length ≤ 140737488355328) :
    Calls Tryz.prog 4 #[fV P M, .agg #[.int .i64 N, .slice A p.length c, .int .i64 V, .slice B ls.length d]] w fun e w' => e = .returned (.bool true) ∧ Kept w w' := by
  cases hf : fewB 400 [p] with
  | false => exact law4_few P M N V p A c ls B d w hp hP hl hL hll hf
  | true =>
    by_cases h200 : 200 < ls.length
    · exact law4_many P M N V p A c ls B d w hp hP hl hL hll hf h200
    · have h2' : ls.length ≤ 200 := by omega
      cases hf2 : fewB 400 ls with
      | false => exact law4_few2 P M N V p A c ls B d w hp hP hl hL hll hf h2' hf2
      | true => exact law4_main P M N V p A c ls B d w hp hP hl hL hll hf h2' hf2
end Go.Proofs.YtnjmpjdampdmmaaGreatDoor


set_option linter.unusedVariables false
set_option linter.unusedSimpArgs false
namespace Go.Proofs.YtnjmpjdampdmmaaGreatDoor
open Go.RowKit Go.ChangeShapes Go.WideShapes Go.ChangeAt

set_option maxRecDepth 100000 in
theorem substitutes_lifted (os : Os) (started : os.Started) (H : Type) (enc : TypeId × Value → H) :
    ReturnsInHanded {} Tryz.checked os 4 .any (fun w args => (Rows.polySubstitutesSpec.pre enc Tryz.prog Tryz.f4 Rows.polySubstitutesRow.domain false w args ∧ laidMetH Tryz.prog theLaid w) ∧ sizedMet enc Tryz.prog Tryz.f4 (OpenSpec.ofChange Rows.polySubstitutesSpec) false w args)
      (Rows.polySubstitutesSpec.post enc Tryz.prog Tryz.f4 false true false false) := by
  refine handed_and_shaped (C := Tryz.checked) (X := fun w _ => laidMetH Tryz.prog theLaid w) (fun _ _ _ hh h => h.of_heap hh) own started (by kernel_rfl) Tryz.func4
    (ChangeSpec.witness_shaped (enc := enc) (C := Tryz.checked) (os := os) (X := fun w _ => laidMetH Tryz.prog theLaid w) false (World.laidAll Tryz.prog os theLaid) #[.agg #[.int .i64 0, .int .i64 0], .agg #[.int .i64 0, .slice none 0 0, .int .i64 0, .slice none 0 0]] 8 (World.laidAll_os _ _ _)
      (World.shaped_of_ZipB (by kernel_rfl) (by kernel_rfl)) (by kernel_rfl) (by kernel_rfl) (by kernel_rfl)
      (by rw [MakeChecks.laidMetH_plain _ _ _ (by kernel_rfl)]; exact laidMet_laidAll _ (by kernel_rfl) (by kernel_rfl))) ?_
  intro W base args ds gs before hval0 hW hcnd hsz0 hL hsh _
  have hsz : (DataW.weightsEach Tryz.prog (Tryz.f4.params.toList ++ Rows.polySubstitutesSpec.plain.varTypes Tryz.prog) (ds ++ gs)).all (· ≤ reachBytes) = true := hsz0
  clear hsz0
  have hval : ∀ (j : Nat) t v, Tryz.f4.params[j]? = some t → args[j]? = some v → Value.okWide Tryz.prog W .any base t v := hval0
  have hW' := hW
  obtain ⟨p, q, hA0, hV, rfl, hfz, hnd⟩ := hW
  have hA : DataW.TrodAll enc Tryz.prog W 0 (fun _ => true) true Tryz.f4.params.toList args.toList ds p := hA0
  rw [Tryz.params4] at hA hval hsz
  obtain ⟨v0, v1, d0, d1, p0, p1, rfl, rfl, rfl, h0, h1⟩ := trodAll_two hA
  obtain ⟨rfl, rfl⟩ := trodVars_none hV
  have k0 := h0
  have lt0 : ∀ x ∈ p0, x.block < W.heap.size := by obtain ⟨m, hm⟩ := k0; exact DataW.trod_lt m _ _ _ hm
  have k1 := h1
  have lt1 : ∀ x ∈ p1, x.block < W.heap.size := by obtain ⟨m, hm⟩ := k1; exact DataW.trod_lt m _ _ _ hm
  obtain ⟨P0, M0, rfl⟩ := read_field (hval 0 23 v0 rfl rfl) h0
  obtain ⟨N1, q1, A1, c1, V1, ls1, B1, e1, rfl, hR1, hl1, hS1, hm1⟩ := read_task (hval 1 45 v1 rfl rfl) h1 hsz (j := 1) rfl rfl
  clear hA0 hval0
  refine (law4_any P0 M0 N1 V1 q1 A1 c1 ls1 B1 e1 W (libOk_of hL hsh) hR1 hl1 hS1 hm1).mono fun e W' ⟨he, bel⟩ => ?_
  subst he
  exact ⟨_, rfl, _, _, _, [], _, [], hW', trodAll_mk1 (shut_bool Tryz.underlying4 _), trodAll_mk2 (Below.trod laidOut (by kernel_rfl) (of_decide_eq_true (by kernel_rfl)) k0 bel lt0) (Below.trod laidOut (by kernel_rfl) (of_decide_eq_true (by kernel_rfl)) k1 bel lt1), rfl, bel.frame _, fun h => by cases h⟩

theorem substitutes_row : Rows.PolySubstitutesSaid :=
  OpenClaim.holds_of_wide 4 Tryz.f4 rfl rfl rfl rfl rfl rfl rfl ⟨rfl, rfl, rfl, rfl, rfl⟩ rfl rfl rfl rfl rfl (by kernel_rfl) Tryz.func4 (by kernel_rfl)
    (of_decide_eq_true (by kernel_rfl)) (by unfold Func.isWrapper; first | (rw [if_pos (by decide +kernel)]; kernel_rfl) | (rw [if_neg (by decide +kernel)]; exact ⟨rfl, rfl⟩))
    (fun os started H enc _ => substitutes_lifted os started H enc)

theorem substitutes_holds : Rows.PolySubstitutesCardSaid :=
  Claim7.holds_tied_plain_at .later [] [.data, .data, .data] true (true, "1642f369fac490e0499efd55de15b2bfb7ebed3de6d6e09996a2d745619b6743") false
    substitutes_row (fun _ h => by cases h) (by kernel_rfl) (fun _ h => by cases h) polySubstitutes_row_tie rfl ⟨rfl, rfl⟩ (by kernel_rfl) rfl
    (fun f fn hf hfn => by
      obtain rfl : f = 4 := Option.some.inj ((show Tryz.prog.funcNamed "commodatum/commodatumlaw04.PolySubstitutes" = some 4 by kernel_rfl).symm.trans hf) |>.symm
      obtain rfl : fn = Tryz.f4 := (Option.some.inj (Tryz.func4.symm.trans hfn)).symm
      exact ⟨by kernel_rfl, fun j t ht => by
        rw [Tryz.params4] at ht
        have hm : t ∈ [23, 45] := by simpa using Array.mem_of_getElem? ht
        have hall : ([23, 45].all fun u => !Tryz.prog.wantsStandIn u) = true := by kernel_rfl
        exact (show Tryz.prog.wantsStandIn t = false by simpa using List.all_eq_true.1 hall t hm)⟩)
    (by kernel_rfl)
#print axioms substitutes_holds
end Go.Proofs.YtnjmpjdampdmmaaGreatDoor
