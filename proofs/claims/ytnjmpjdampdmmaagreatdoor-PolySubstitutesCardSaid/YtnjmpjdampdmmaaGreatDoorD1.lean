/- Polynomials: slices.Grow, slices.Concat; the sum of two polynomials. -/
import Derived.Test.YtnjmpjdampdmmaaGreatDoorC28
import Derived.Shelf.Spec.SlicesGrow
set_option linter.unusedVariables false
set_option linter.unusedSimpArgs false
namespace Go.Proofs.YtnjmpjdampdmmaaGreatDoor
open Go.RowKit Go.Shelf Go.Maps

def grow_ren : Go.Shelf.Ren := ⟨fun | 4 => 82 | n => n, fun | 22 => 25 | 25 => 64 | 3 => 3 | 4 => 4 | 9 => 9 | 20 => 20 | 0 => 0 | n => n, fun | n => n⟩
theorem laysGrow : Go.Proofs.Lays8.n4 Tryz.prog grow_ren := {
  mixed := by kernel_rfl
  f4 := ⟨Tryz.f82.name, by decide, Tryz.func82.trans (congrArg some (by kernel_rfl))⟩
  t0 := Tryz.underlying0
  a0 := Tryz.isAgg0
  z0 := Tryz.sizeOf0
  v0 := Tryz.zeroValue0
  t3 := Tryz.underlying3
  a3 := Tryz.isAgg3
  z3 := Tryz.sizeOf3
  v3 := Tryz.zeroValue3
  t4 := Tryz.underlying4
  a4 := Tryz.isAgg4
  z4 := Tryz.sizeOf4
  v4 := Tryz.zeroValue4
  t9 := Tryz.underlying9
  a9 := Tryz.isAgg9
  z9 := Tryz.sizeOf9
  v9 := Tryz.zeroValue9
  t20 := Tryz.underlying20
  a20 := Tryz.isAgg20
  z20 := Tryz.sizeOf20
  v20 := Tryz.zeroValue20
  t22 := Tryz.underlying25
  a22 := Tryz.isAgg25
  z22 := Tryz.sizeOf25
  v22 := Tryz.zeroValue25 }
theorem grow101 (n : Nat) (hn : n ≤ 1000000) (w : World) : Calls Tryz.prog 82 #[.slice none 0 0, .int .i64 n] w fun e w' => ∃ v, e = .returned v ∧ w'.ownsRow w.heap.size 64 2 v 0 [] ∧ Kept w w' := by
  by_cases h0 : n = 0
  · subst h0
    refine (Any8.slices_Grow_room laysGrow none 0 0 0 w (by omega) (by omega) (by omega) (by omega)).mono fun e w' ⟨h1, h2⟩ => ?_
    subst h2
    exact ⟨_, h1, World.ownsRow_nil _ _ _ _, kept_refl _⟩
  · obtain ⟨i0, hi, hzz⟩ := Option.map_eq_some_iff.1 info67
    simp only [Prod.mk.injEq] at hzz
    obtain ⟨hz0, hz1, hz2⟩ := hzz
    refine (Any8.slices_Grow_grow laysGrow i0 (.agg #[.int .i64 0, .slice none 0 0]) hi hz0 (by omega) none 0 0 n [] w (by omega) (by omega) (by rw [hz2]; omega) (by omega) (by simp) (fun _ => rfl) (fun a h => by cases h)).mono fun e w' ⟨h1, h2⟩ => ?_
    subst h2
    refine ⟨_, h1, ?_, kept_alloc (kept_drew (kept_refl w)) _⟩
    have hge := grownCap_ge w (0 + n) 0 64
    have hle := grownCap_le_maxLen w (0 + n) 0 64 (by simp only [maxLen]; omega)
    have hge' := hge; simp only [Nat.zero_add] at hge'
    refine ⟨rfl, .inr ⟨w.heap.size, _, _, rfl, Nat.le_refl _, heap_alloc_new w.drew _, Nat.zero_le _, hle, ?_, by simp⟩⟩
    show (((#[] : Array Value) ++ Builtin.zeroCells (Value.agg #[.int .i64 0, .slice none 0 0]).cells (0 + n - 0)) ++ Builtin.zeroCells (Value.agg #[.int .i64 0, .slice none 0 0]).cells (grownCap w (0 + n) 0 64 - (0 + n))).size = grownCap w (0 + n) 0 64 * 2
    simp [Builtin.zeroCells, Value.cells]
    omega
/-- A polynomial's terms with the places of their exponents. -/
theorem rp_te {w : World} {A : Option Addr} {p : List Tm} (h : RP w A p) : ∃ S : List Te, S.map Te.t = p ∧ S.length = p.length ∧ Rd w A (teCells S) ∧ ∀ x ∈ S, Rd w x.E (ints x.t.e) := by
  obtain ⟨f, hf⟩ := Deep.choose_lt (α := Option Addr × Nat) (n := p.length) (p := fun j y => ∃ b off, A = some ⟨b, off, none⟩ ∧ w.cell? ⟨b, off + j * 2, none⟩ = some (.int .i64 (tmv p j).c) ∧ w.cell? ⟨b, off + j * 2 + 1, none⟩ = some (.slice y.1 (tmv p j).e.length y.2) ∧ Rd w y.1 (ints (tmv p j).e)) (fun j hj => by
    obtain ⟨b, off, E, c, e, h0, h1, h2, _⟩ := h j hj
    exact ⟨(E, c), b, off, e, h0, h1, h2⟩)
  have hl : ((List.range p.length).map fun j => (⟨tmv p j, (f j).1, (f j).2⟩ : Te)).length = p.length := by simp
  have hget : ∀ j (hj : j < p.length), ((List.range p.length).map fun j => (⟨tmv p j, (f j).1, (f j).2⟩ : Te))[j]'(by simpa using hj) = ⟨tmv p j, (f j).1, (f j).2⟩ := fun j hj => by simp
  refine ⟨(List.range p.length).map fun j => ⟨tmv p j, (f j).1, (f j).2⟩, ?_, hl, ⟨fun hne => ?_⟩, fun x hx => ?_⟩
  · apply List.ext_getElem?
    intro j
    by_cases hj : j < p.length <;> simp [tmv, hj]
  · have h0 : 0 < p.length := Nat.pos_of_ne_zero fun h0 => hne (by rw [h0]; rfl)
    obtain ⟨b, off, e, _⟩ := hf 0 h0
    refine ⟨b, off, e, fun j v hj => ?_⟩
    have hj2 : j < p.length * 2 := by
      have := (List.getElem?_eq_some_iff.1 hj).1
      rwa [teCells_length, hl] at this
    rw [teCells_get _ j (by rw [hl]; exact hj2), hget (j / 2) (by omega)] at hj
    obtain ⟨b', off', e', h1, h2, _⟩ := hf (j / 2) (by omega)
    rw [e] at e'
    injection e' with e'
    injection e' with e1 e2 _
    subst e1; subst e2
    rcases Nat.mod_two_eq_zero_or_one j with hm | hm
    · rw [hm] at hj
      rw [show off + j = off + j / 2 * 2 by omega, h1]
      simpa [te2] using hj
    · rw [hm] at hj
      rw [show off + j = off + j / 2 * 2 + 1 by omega, h2]
      simpa [te2] using hj
  · obtain ⟨j, hj, rfl⟩ := List.mem_map.1 hx
    obtain ⟨_, _, _, _, _, h3⟩ := hf j (List.mem_range.1 hj)
    exact h3
/-- A list of lists of terms lies at A. -/
def RTE (w : World) (A : Option Addr) (ss : List (List Te)) : Prop := ∀ j, j < ss.length → ∃ b off E c, A = some ⟨b, off, none⟩ ∧ w.cell? ⟨b, off + j, none⟩ = some (.slice E (ss.getD j []).length c) ∧ Rd w E (teCells (ss.getD j [])) ∧ (ss.getD j []).length ≤ 140737488355328
theorem RTE.kept {w w1 : World} {A : Option Addr} {ss : List (List Te)} (h : RTE w A ss) (k : Kept w w1) : RTE w1 A ss := fun j hj => by
  obtain ⟨b, off, E, c, e, h0, h1, h2⟩ := h j hj
  exact ⟨b, off, E, c, e, kept_cell k h0, h1.kept k, h2⟩
theorem rte_pair {w : World} {A B : Option Addr} {c d : Nat} {p r : List Te} (hP : Rd w A (teCells p)) (hR : Rd w B (teCells r)) (hl : p.length ≤ 140737488355328) (hl2 : r.length ≤ 140737488355328) : RTE (w.alloc (.cells #[.slice A p.length c, .slice B r.length d] 25)) (some ⟨w.heap.size, 0, none⟩) [p, r] := fun j hj => by
  have o := Own.new w 25 [.slice A p.length c, .slice B r.length d]
  have k := kept_alloc (kept_refl w) (.cells #[.slice A p.length c, .slice B r.length d] 25)
  match j, hj with
  | 0, _ => exact ⟨w.heap.size, 0, A, c, rfl, o.cell (j := 0) rfl, hP.kept k, hl⟩
  | 1, _ => exact ⟨w.heap.size, 0, B, d, rfl, o.cell (j := 1) rfl, hR.kept k, hl2⟩
/-- What Concat leaves. -/
def CatPost (S : List Te) (w : World) (e : Ending) (w' : World) : Prop := ∃ v : Value, e = .returned v ∧ w'.ownsRow w.heap.size 64 2 v S.length (teCells S) ∧ Kept w w'
theorem flatP_take {ls : List (List Te)} {k : Nat} (h : k < ls.length) : (ls.take (k + 1)).flatten = (ls.take k).flatten ++ ls.getD k [] := by
  rw [List.take_succ_eq_append_getElem h, List.flatten_append, List.getD_eq_getElem?_getD, List.getElem?_eq_getElem h]
  simp
theorem flatP_take_len (ls : List (List Te)) (k : Nat) : (ls.take k).flatten.length ≤ ls.flatten.length := by
  conv => rhs; rw [← List.take_append_drop k ls, List.flatten_append, List.length_append]
  omega
theorem teCells_append (S T : List Te) : teCells (S ++ T) = teCells S ++ teCells T := by simp [teCells]
theorem one_tes (S : List Te) : ∀ u ∈ teCells S, u.oneCell' = true := fun u hu => by
  obtain ⟨x, _, hx⟩ := List.mem_flatMap.1 hu
  exact one_te _ _ _ _ u hx
set_option maxRecDepth 100000 in
set_option maxHeartbeats 1000000 in
theorem concat94_any (T : Option Addr) (c : Nat) (ls : List (List Te)) (w : World) (hT : RTE w T ls) (hn : ls.length ≤ 1000000) (hS : ls.flatten.length ≤ 1000000) :
    Calls Tryz.prog 63 #[.slice T ls.length c] w (CatPost ls.flatten w) := by
  obtain ⟨N, hN⟩ : ∃ N, N = ls.flatten.length := ⟨_, rfl⟩
  have HN := Lib.hid hN
  rw [← hN] at hS
  clear hN
  have HT := Lib.hid hT; clear hT
  have G := grow101 N hS
  have g0 : decide ((N : Int) < 0) = false := decide_eq_false (by omega)
  have HG := Lib.hid G; clear G
  go_enter Tryz.func63, Tryz.ntmps63
  go_wp2_with fail
  go_loopg [3, 11] ls.length (fun g' s3 s11 wr => ∃ (k n : Nat), k ≤ ls.length ∧ n = (ls.take k).flatten.length ∧ g' = ls.length - k ∧ s3 = .int .i64 n ∧ s11 = .int .i64 k ∧ Kept w wr)
  case atStart => exact ⟨0, 0, by omega, by simp, by omega, rfl, rfl, kept_refl _⟩
  case round =>
    obtain ⟨k, n, hk, hnk, rfl, rfl, rfl, k1⟩ := hrel
    have hle := flatP_take_len ls k
    have hn1 : n ≤ 1000000 := by have := HN.out; omega
    have HK := Lib.hid hnk; clear hnk hle
    by_cases hlt : k < ls.length
    · obtain ⟨tb1, toff, A1, c1, rfl, t0, r1, l1⟩ := (HT.out.kept k1) k hlt
      have hf := flatP_take hlt
      have hle := flatP_take_len ls (k + 1)
      obtain ⟨L, hL⟩ : ∃ L, L = ls.getD k [] := ⟨_, rfl⟩
      rw [← hL] at t0 r1 l1 hf
      have hsum : n + L.length ≤ 1000000 := by rw [hf, List.length_append] at hle; have := HK.out; have := HN.out; omega
      have HF := Lib.hid hf; clear hf hL r1 hle
      have d0 : decide ((n : Int) + (L.length : Int) < 0) = false := decide_eq_false (by omega)
      go_wp2_with fail
      go_roundg (ls.length - (k + 1))
      case rel => exact ⟨k + 1, n + L.length, by omega, by rw [HF.out, List.length_append, HK.out], rfl, by go_num, by go_num, k1⟩
      case measure => omega
    · have : k = ls.length := by omega
      subst this
      have : n = N := by have := HK.out; rw [List.take_length] at this; have := HN.out; omega
      subst this
      clear HK
      go_wp2_with (go_at_call 82; ((with_reducible refine (HG.out _).mono ?_); rintro e w2 ⟨v, rfl, hr, k2⟩))
      have kw := kept_trans k1 k2
      replace hr := hr.mono k1.size
      have sz := kw.size
      obtain ⟨wo, rfl⟩ : ∃ wo : World, wo = w2 := ⟨_, rfl⟩
      go_wp2_with fail
      go_loopg [6, 27] ls.length (fun g' s6 s27 wr => ∃ (k : Nat), k ≤ ls.length ∧ g' = ls.length - k ∧ wr.ownsRow w.heap.size 64 2 s6 (ls.take k).flatten.length (teCells (ls.take k).flatten) ∧ s27 = .int .i64 k ∧ Kept w wr)
      case atStart => exact ⟨0, by omega, by omega, by simpa [teCells] using hr, rfl, kw⟩
      case round =>
        clear hr kw sz
        obtain ⟨k, hk, rfl, hr, rfl, kw⟩ := hrel
        by_cases hlt : k < ls.length
        · obtain ⟨tb1, toff, A1, c1, rfl, t0, r1, l1⟩ := (HT.out.kept kw) k hlt
          have hf := flatP_take hlt
          have hle := flatP_take_len ls (k + 1)
          obtain ⟨L, hL⟩ : ∃ L, L = ls.getD k [] := ⟨_, rfl⟩
          rw [← hL] at t0 r1 l1 hf
          obtain ⟨F, hF⟩ : ∃ F, F = (ls.take k).flatten := ⟨_, rfl⟩
          rw [← hF] at hr hf
          have hsum : F.length + L.length ≤ 1000000 := by rw [hf, List.length_append] at hle; have := HN.out; omega
          have HF := Lib.hid hf
          have sz := kw.size
          have HE := Lib.hid r1
          have HLE := Lib.hid (show (teCells L).length = L.length * 2 from teCells_length L)
          clear hf hL hF hle r1
          go_wp2_with (at_builtin; refine app_any w.heap.size rfl (.tmp 31) (.tmp 32) 25 64 (.agg #[.int .i64 0, .slice none 0 0]) 2 32 rfl Tryz.underlying25 info67 rfl (by omega) (by omega) u6 F.length L.length c1 A1 (teCells F) (teCells L) rfl rfl HLE.out HE.out (one_tes _) hr sz (by omega) ?_; intro v3 w3 hr3 hg3 hat3)
          have k3 : Kept w w3 := kept_grown kw hr (Nat.le_refl _) hg3
          clear hg3 hat3 hr
          go_wp2_with fail
          go_roundg (ls.length - (k + 1))
          case rel => exact ⟨k + 1, by omega, rfl, by rw [HF.out, List.length_append, teCells_append]; exact hr3, by go_num, k3⟩
          case measure => omega
        · have : k = ls.length := by omega
          subst this
          go_wp2_with fail
          go_ret
          rw [List.take_length] at hr
          exact ⟨_, rfl, hr, kw⟩

/-- The sum of two polynomials, term by term. -/
def adT (P M : Int) (p r : List Tm) : List Tm := totalT (addF P M) (p ++ r).length ((p ++ r).map fun t => [t])
def AddYes (P M : Int) (p r : List Tm) (w : World) (e : Ending) (w' : World) : Prop := ∃ (A' : Option Addr) (c' : Nat) (out : List Tm), e = .returned (.tuple #[.slice A' out.length c', .int .i64 0]) ∧ out = adT P M p r ∧ RP w' A' out ∧ Kept w w'
theorem TmsOk.append {P M : Int} {n : Nat} {p r : List Tm} (hp : TmsOk P M n p) (hr : TmsOk P M n r) : TmsOk P M n (p ++ r) := fun k hk => by
  have hm := tmv_mem hk
  rcases List.mem_append.1 hm with h | h
  · exact hp.mem h
  · exact hr.mem h
set_option maxRecDepth 100000 in
set_option maxHeartbeats 1000000 in
theorem add75_any (P M : Int) (n : Nat) (p r : List Tm) (A B : Option Addr) (c d : Nat) (w : World) (ok : okF P M = true) (hP : RP w A p) (hR : RP w B r) (hn : n ≤ 80) (tp : TmsOk P M n p) (tr : TmsOk P M n r) (hl : p.length + r.length ≤ 20000) :
    Calls Tryz.prog 30 #[fV P M, .slice A p.length c, .slice B r.length d] w (AddYes P M p r w) := by
  have C44 := Lib.hid fun w' => newSum44_any P M n w'
  unfold fV at *
  have K0 := kept_alloc (kept_refl w) (.cells #[.int .i64 P, .int .i64 M] 23)
  have o3 := Own.new w 23 [.int .i64 P, .int .i64 M]
  have HP := Lib.hid hP
  have HR := Lib.hid hR
  have OK := Lib.hid ok
  obtain ⟨s, hs⟩ : ∃ s, s = p ++ r := ⟨_, rfl⟩
  have HSD := Lib.hid hs
  have hsl : s.length = p.length + r.length := by rw [hs, List.length_append]
  have TS := Lib.hid (show TmsOk P M n s by rw [hs]; exact tp.append tr)
  have hpl : p.length ≤ 20000 := by omega
  have hrl : r.length ≤ 20000 := by omega
  have hsl2 : s.length ≤ 20000 := by omega
  clear hP hR ok tp tr hs hsl
  go_enter Tryz.func30, Tryz.ntmps30
  go_upto_region 1 with fail
  obtain ⟨w0, hw0⟩ : ∃ w0, w0 = w.alloc (.cells #[.int .i64 P, .int .i64 M] 23) := ⟨_, rfl⟩
  rw [← hw0] at K0 o3 ⊢
  have y0 := o3.cell (j := 0) rfl; have y1 := o3.cell (j := 1) rfl
  clear hw0
  go_upto_region 2 with (go_at_call 44; ((with_reducible refine (C44.out _).mono ?_); rintro e w3 ⟨rfl, hs, k3⟩))
  obtain ⟨g, hg⟩ : ∃ g, g = w0.heap.size + 2 := ⟨_, rfl⟩
  obtain ⟨b, hb⟩ : ∃ b, b = w0.heap.size + 1 := ⟨_, rfl⟩
  rw [← hg, ← hb] at hs
  rw [← hg]
  have HS0 := Lib.hid (SumOf.start hs)
  have hbw : w0.heap.size ≤ b := by omega
  have hb3 := sumOf_lt HS0.out
  have KW3 := kept_trans K0 k3
  obtain ⟨Sp, p1, p2, p3, p4⟩ := rp_te HP.out
  obtain ⟨Sr, r1, r2, r3, r4⟩ := rp_te HR.out
  have D94 := Lib.hid (concat94_any (some ⟨w3.heap.size, 0, none⟩) 2 [Sp, Sr] (w3.alloc (.cells #[.slice A Sp.length c, .slice B Sr.length d] 25)) (rte_pair (p3.kept KW3) (r3.kept KW3) (by omega) (by omega)) (by simp) (by simp; omega))
  obtain ⟨S, hS⟩ : ∃ S, S = Sp ++ Sr := ⟨_, rfl⟩
  rw [show ([Sp, Sr] : List (List Te)).flatten = S by rw [hS]; simp, show ([Sp, Sr] : List (List Te)).length = 2 from rfl, p2, r2] at D94
  have hSt : S.map Te.t = s := by rw [hS, List.map_append, p1, r1, HSD.out]
  have hSl : S.length = s.length := by rw [← hSt, List.length_map]
  have HSL := Lib.hid hSl
  have HAT := Lib.hid (show ∀ i, i < s.length → ∃ x : Te, (teCells S)[i * 2]? = some (.int .i64 x.t.c) ∧ (teCells S)[i * 2 + 1]? = some (.slice x.E x.t.e.length x.cap) ∧ x.t = tmv s i ∧ Rd w x.E (ints x.t.e) from fun i hi => by
    have hi' : i < S.length := by omega
    refine ⟨S[i], ?_, ?_, ?_, ?_⟩
    · rw [teCells_get S (i * 2) (by omega)]
      simp [te2]
    · rw [teCells_get S (i * 2 + 1) (by omega)]
      have e1 : (i * 2 + 1) / 2 = i := by omega
      have e2 : (i * 2 + 1) % 2 = 1 := by omega
      simp [te2, e1, e2]
    · simp [tmv, ← hSt, hi']
    · have hm : S[i] ∈ Sp ++ Sr := by rw [← hS]; exact List.getElem_mem hi'
      rcases List.mem_append.1 hm with h | h
      · exact p4 _ h
      · exact r4 _ h)
  have KA : Kept w3 (w3.alloc (.cells #[.slice A p.length c, .slice B r.length d] 25)) := kept_alloc (kept_refl _) _
  clear hs hg hb y0 y1 hS p1 p2 p3 p4 r1 r2 r3 r4 hSt hSl
  go_wp2_with (go_at_call 63; ((with_reducible refine D94.out.mono ?_); rintro e w4 ⟨v, rfl, hrow, k4⟩; rw [HSL.out] at hrow; obtain ⟨A4, c4, rfl⟩ := row_val hrow))
  have KX := kept_trans k3 (kept_trans KA k4)
  have HS4 := Lib.hid (HS0.out.kept (kept_trans KA k4))
  have hbb : b < (w3.alloc (.cells #[.slice A p.length c, .slice B r.length d] 25)).heap.size := Nat.lt_of_lt_of_le hb3 KA.size
  obtain ⟨bs, hbs⟩ : ∃ bs, bs = (w3.alloc (.cells #[.slice A p.length c, .slice B r.length d] 25)).heap.size := ⟨_, rfl⟩
  rw [← hbs] at hrow hbb
  have hne : Value.ownBlock (.slice A4 s.length c4) ≠ some b := fun h => by have := own_from hrow h; omega
  have HROW := Lib.hid hrow
  clear D94 hbs hrow k4 KA k3
  go_loopg [10, 18] s.length (fun G s10 s18 wr => ∃ (i : Nat) (v10 : Value), i ≤ s.length ∧ G = s.length - i ∧ s10 = v10 ∧ s18 = .int .i64 i ∧ SumOf P M n g b (s.take i) wr ∧ Hid (wr.ownsRow bs 64 2 (.slice A4 s.length c4) s.length (teCells S)) ∧ Kept w0 wr)
  case atStart => exact ⟨0, _, by omega, rfl, rfl, rfl, by simpa using HS4.out, HROW, KX⟩
  case round =>
    clear HROW HS4 KX
    obtain ⟨i, v10, hi, rfl, rfl, rfl, hS, HROW, K1⟩ := hrel
    have HS := Lib.hid hS
    clear hS
    by_cases hit : i < s.length
    · obtain ⟨x, hx0, hx1, hxt, hxE⟩ := HAT.out i hit
      obtain ⟨ba, off, rfl, hc⟩ := (row_rd HROW.out).at_ (by intro h0; rw [h0] at hx0; simp at hx0)
      have h0 := hc _ _ hx0
      have h1 := hc _ _ hx1
      rw [← Nat.add_assoc] at h1
      have TK := Lib.hid (TS.out i hit)
      rw [← hxt] at TK
      have HXT := Lib.hid hxt
      have hge : GoodE n x.t.e := ⟨TK.out.1, TK.out.2.2.2⟩
      have inx : inF P M x.t.c := ⟨by have := TK.out.2.1; omega, TK.out.2.2.1⟩
      have KA : Kept wr (wr.alloc (.cells #[.int .i64 x.t.c, .slice x.E x.t.e.length x.cap] 64)) := kept_alloc (kept_refl _) _
      have C46 := Lib.hid (put_of P M n g b (s.take i) x.t.c x.t.e x.E x.cap _ OK.out (HS.out.kept KA) hge inx (((hxE.kept K0).kept K1).kept KA) hn (by rw [List.length_take]; omega))
      have o10 := Own.new wr 64 [.int .i64 x.t.c, .slice x.E x.t.e.length x.cap]
      have z0 := o10.cell (j := 0) rfl
      have z1 := o10.cell (j := 1) rfl
      have HR2 := Lib.hid (row_kept HROW.out KA)
      clear hx0 hx1 hxt hxE hc hge inx o10
      go_wp2_with (go_at_call 46; ((with_reducible refine C46.out.mono ?_); rintro e w7 ⟨rfl, hs7, kg7⟩))
      go_roundg (s.length - (i + 1))
      case rel => exact ⟨i + 1, _, by omega, rfl, rfl, by go_num, by
        rw [take_tm hit, ← HXT.out]
        exact hs7, Lib.hid (HR2.out.kept kg7 (.inr hne)), kept_kg (kept_trans K1 KA) kg7 hbw⟩
      case measure => omega
    · obtain rfl : i = s.length := by omega
      rw [List.take_length] at HS
      have C47 := Lib.hid (poly_of P M n g b s wr OK.out HS.out (fun z hz => by have := TS.out.mem hz; exact ⟨this.1, this.2.1, this.2.2.1⟩) hn hsl2)
      go_wp2_with (go_at_call 47; ((with_reducible refine C47.out.mono ?_); rintro e w5 ⟨A5, c5, out, rfl, hr5, hrp, kg5⟩; have HO := Lib.hid hr5; clear hr5))
      go_ret2
      exact ⟨A5, c5, out, rfl, by rw [HO.out, HSD.out]; rfl, hrp, kept_trans K0 (kept_kg K1 kg5 hbw)⟩
end Go.Proofs.YtnjmpjdampdmmaaGreatDoor
