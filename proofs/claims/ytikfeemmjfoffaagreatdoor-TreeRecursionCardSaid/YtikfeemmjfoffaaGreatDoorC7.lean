/- Polynomials: a term is put upon a sum. -/
import Derived.Test.YtikfeemmjfoffaaGreatDoorC6
import Derived.StillTailTactics
set_option linter.unusedVariables false
set_option linter.unusedSimpArgs false
namespace Go.Proofs.YtikfeemmjfoffaaGreatDoor
open Go.RowKit Go.Maps

theorem clone45_any (l : List Int) (A : Option Addr) (c : Nat) (w : World) (hA : Rd w A (ints l)) (hl : l.length ≤ 1000000) :
    Calls Tryz.prog 61 #[.slice A l.length c] w fun e w' => ∃ A' c', e = .returned (.slice A' l.length c') ∧ w'.ownsRow w.heap.size 3 1 (.slice A' l.length c') l.length (ints l) ∧ Kept w w' := by
  by_cases h0 : l.length = 0
  · have e0 : l = [] := List.eq_nil_of_length_eq_zero h0
    subst e0
    cases A with
    | none => 
      refine (Tryz.slices_Clone_int_nil 0 c w).mono fun e w' ⟨h1, h2⟩ => ?_
      subst h2
      exact ⟨none, 0, h1, World.ownsRow_nil _ _ _ _, kept_refl _⟩
    | some a =>
      refine (Tryz.slices_Clone_int_zero a c w).mono fun e w' ⟨v, h1, h2, h3, h4⟩ => ?_
      obtain ⟨A', c', rfl, h5⟩ := row_form h2
      exact ⟨A', c', h1, h5, h4⟩
  · obtain ⟨b1, f1, rfl, h1⟩ := hA.int (k := 0) (by omega)
    refine (Tryz.slices_Clone_int b1 f1 l.length c l w (Nat.le_refl _) (by omega) (fun j hj => h1 j hj)).mono fun e w' ⟨v, h1, h2, h3, h4⟩ => ?_
    rw [List.take_length] at h2
    obtain ⟨A', c', rfl, h5⟩ := row_form h2
    exact ⟨A', c', h1, h5, h4⟩
theorem row_rdx {w : World} {B n c av : Nat} {A : Option Addr} {l : List Int} (h : w.ownsRow B 3 1 (.slice A n c) n (ints l)) (hav : av < B) : RdX av w A (ints l) := fun hne => by
  rcases h.2 with ⟨e0, hn⟩ | ⟨g, cap, cur, e0, hb, hg, hn, hm, hs, ht⟩
  · exfalso
    have h1 := h.1
    rw [hn, Nat.zero_mul] at h1
    exact hne (List.eq_nil_of_length_eq_zero h1)
  · obtain ⟨b, off, e, hc⟩ := (row_rd h).at_ hne
    injection e0 with e1 _ _
    rw [e] at e1
    injection e1 with e1
    injection e1 with e1 e2 _
    subst e1; subst e2
    exact ⟨b, 0, e, by omega, hc⟩
theorem keyOf_key (e : List Int) (h : e.length ≤ 1000) : keyOf Tryz.prog 9 (.string ⟨(keyB e).toArray⟩) = some (keyL e) := by
  have hs : (⟨(keyB e).toArray⟩ : ByteArray).size ≤ maxLen := by
    show (keyB e).length ≤ maxLen
    rw [keyB_len]; unfold maxLen; omega
  simp [keyOf, mapKey, Tryz.underlying9, hs, keyL]
theorem zero67w (w : World) : (zeroValue 78).run Tryz.prog w = .ok (.agg #[.int .i64 0, .slice none 0 0]) w := by kernel_rfl
theorem termR_held {v u : Value} {ps : List MemPlace} (h : termR v = some (.held u, ps)) : v = u := by
  obtain ⟨c, E, n, cap, rfl, hz⟩ := termR_inv h
  injection hz with hz _
  injection hz with hz
  exact hz.symm
theorem put_close {P M : Int} {n g b k : Nat} {T : List Te} {w w5 w6 : World} {D : DataW Value} (hs : SumAt P M n g b k T w) (kk : Kept w w5) (htab : Tab D T) (x : Te) (hx : GoodE n x.t.e) (hin : inF P M x.t.c) (hex : RdX b w5 x.E (ints x.t.e))
    (hown6 : w6.ownsMap Tryz.prog 9 termR b (k + 1) (D.put (keyL x.t.e) (.held (valTe x)))) (hg6 : w5.grownBy w6 (some b)) : SumAt P M n g b (k + 1) (putTe x T) w6 ∧ KG b w w6 := by
  have hkg : KG b w w6 := kg_trans (kg_of kk) hg6
  refine ⟨⟨hs.o.kg hkg hs.ne, hs.ne, ⟨_, hown6, tab_put htab hs.ok x hx⟩, tabOk_put hs.ok x hx, fun y hy => ?_, fun y hy => ?_⟩, hkg⟩
  · rcases List.mem_cons.1 hy with rfl | hy
    · exact hin
    · exact hs.within y (List.mem_filter.1 hy).1
  · rcases List.mem_cons.1 hy with rfl | hy
    · exact hex.kg hg6
    · exact (hs.ex y (List.mem_filter.1 hy).1).kg hkg
/-- What put does. -/
def PutPost (P M : Int) (n g b k : Nat) (T : List Te) (c : Int) (e : List Int) (w : World) (en : Ending) (w' : World) : Prop :=
  en = .returned (.tuple #[]) ∧ ∃ x : Te, x.t.e = e ∧ x.t.c = addF P M (cf (T.map Te.t) e) c ∧ SumAt P M n g b (k + 1) (putTe x T) w' ∧ KG b w w'
theorem zero_in {P M : Int} (ok : okF P M = true) : inF P M 0 := by have := ord_ok ok; exact ⟨by omega, by omega⟩
set_option maxRecDepth 100000 in
set_option maxHeartbeats 1000000 in
theorem put46_met (P M : Int) (n g b k : Nat) (T : List Te) (c : Int) (x : Te) (A : Option Addr) (cA : Nat) (w : World) (ok : okF P M = true) (hs : SumAt P M n g b k T w) (hx : x ∈ T) (hc : inF P M c) (hA : Rd w A (ints x.t.e)) (hn : n ≤ 80) (hk : k ≤ 1000000000000) :
    Calls Tryz.prog 67 #[.pointer (some ⟨g, 0, none⟩), .int .i64 c, .slice A x.t.e.length cA] w (PutPost P M n g b k T c x.t.e w) := by
  have hge := hs.ok.good x hx
  have C76 := Lib.hid (key76_any x.t.e A cA w hA (by have := hge.1; omega) hge.2)
  have C69 := Lib.hid fun w' => add69_any P M x.t.c c w' ok (hs.within x hx) hc
  unfold fV at C69
  obtain ⟨s, hsd⟩ : ∃ s, s = addF P M x.t.c c := ⟨_, rfl⟩
  rw [← hsd] at C69
  have HS := Lib.hid hs
  have HSD := Lib.hid hsd
  have HX := Lib.hid hx
  have HC := Lib.hid hc
  have hkey := keyOf_key x.t.e (by have := hge.1; omega)
  obtain ⟨ky, hky⟩ : ∃ ky : ByteArray, ky = ⟨(keyB x.t.e).toArray⟩ := ⟨_, rfl⟩
  rw [← hky] at C76 hkey
  have HKEY := Lib.hid hkey
  have q0 := hs.o.cell (j := 0) rfl; have q1 := hs.o.cell (j := 1) rfl; have q2 := hs.o.cell (j := 2) rfl
  have hlt := hs.o.lt
  clear hs hsd hx hkey hky hc hA
  go_enter Tryz.func67, Tryz.ntmps67
  go_wp2_with (first | (go_at_call 88; ((with_reducible refine C76.out.mono ?_); rintro e w1 ⟨rfl, k1⟩; obtain ⟨D, hown, htab⟩ := (HS.out.kept k1).tab; have HT := Lib.hid htab; have ex := tab_at htab HS.out.ok HX.out (.held (.agg #[.int .i64 0, .slice none 0 0])); have hh := (tab_has htab HS.out.ok hge).2 ⟨x, HX.out, rfl⟩; have EX := Lib.hid ex; have HH := Lib.hid hh; clear htab ex hh; replace q0 := kept_cell k1 q0; replace q1 := kept_cell k1 q1; replace q2 := kept_cell k1 q2)) | (at_lookup; refine wpList_lookup_own_ok _ rfl _ _ 129 rfl 9 78 (string_keyed Tryz.underlying9) Tryz.underlying129 termR (zero67w _) (.held (.agg #[.int .i64 0, .slice none 0 0])) [] rfl b k D rfl hown _ (keyL x.t.e) rfl HKEY.out ?_; intro v ps hv; rw [EX.out] at hv; obtain rfl := termR_held hv; rw [HH.out]; unfold valTe; clear hv))
  obtain ⟨W2, hW2⟩ : ∃ W2, W2 = w1.alloc (.cells #[.int .i64 x.t.c, .slice x.E x.t.e.length x.cap] 78) := ⟨_, rfl⟩
  have K2 : Kept w1 W2 := by rw [hW2]; exact kept_alloc (kept_refl w1) _
  have oT : Own W2 w1.heap.size 78 [.int .i64 x.t.c, .slice x.E x.t.e.length x.cap] := by rw [hW2]; exact Own.new w1 78 _
  have gT : g < w1.heap.size := by have := k1.size; omega
  rw [← hW2]
  have z0 := oT.cell (j := 0) rfl
  have HOWN := Lib.hid hown
  clear hW2 hown
  refine region_x (fun w' => Kept w1 w') [] (by kernel_rfl) (kept_drew (K2)) (fun hHeld => ?_)
  refine x_take (i := 0) (oi := { dst := some 26, op := Op.move (Operand.tmp 0), type := 106, pos := "poly.go:60", after := #[], guard := none }) (v := ?_) rfl (by kernel_rfl) (by kernel_rfl) (by kernel_rfl) (by kernel_rfl) (by kernel_rfl) (fun _ _ _ h => h) (Or.inl ⟨rfl, ?_⟩) (by assumption) ?_
  rotate_left
  · (intro w' hSw; replace q0 := kept_cell hSw q0; replace q1 := kept_cell hSw q1; replace q2 := kept_cell hSw q2; go_simp; try with_reducible rfl)
  try simp only [Act.put, List.setIfInBounds_toArray, List.set_cons_zero, List.set_cons_succ]
  refine x_take (i := 1) (oi := { dst := some 27, op := Op.nilCheck (Operand.tmp 26), type := 0, pos := "poly.go:60", after := #[{ on := 0, ground := Ground.data }], guard := none }) (v := ?_) rfl (by kernel_rfl) (by kernel_rfl) (by kernel_rfl) (by kernel_rfl) (by kernel_rfl) (fun _ _ _ h => h) (Or.inl ⟨rfl, ?_⟩) (by assumption) ?_
  rotate_left
  · (intro w' hSw; replace q0 := kept_cell hSw q0; replace q1 := kept_cell hSw q1; replace q2 := kept_cell hSw q2; go_simp; try with_reducible rfl)
  try simp only [Act.put, List.setIfInBounds_toArray, List.set_cons_zero, List.set_cons_succ]
  refine x_take (i := 2) (oi := { dst := some 28, op := Op.fieldAddr 131 (Operand.tmp 27) 0, type := 0, pos := "poly.go:60", after := #[{ on := 1, ground := Ground.data }], guard := none }) (v := ?_) rfl (by kernel_rfl) (by kernel_rfl) (by kernel_rfl) (by kernel_rfl) (by kernel_rfl) (fun _ _ _ h => h) (Or.inl ⟨rfl, ?_⟩) (by assumption) ?_
  rotate_left
  · (intro w' hSw; replace q0 := kept_cell hSw q0; replace q1 := kept_cell hSw q1; replace q2 := kept_cell hSw q2; go_simp; try with_reducible rfl)
  try simp only [Act.put, List.setIfInBounds_toArray, List.set_cons_zero, List.set_cons_succ]
  refine x_take (i := 3) (oi := { dst := some 29, op := Op.load 23 (Operand.tmp 28), type := 23, pos := "poly.go:60", after := #[{ on := 2, ground := Ground.data }], guard := none }) (v := ?_) rfl (by kernel_rfl) (by kernel_rfl) (by kernel_rfl) (by kernel_rfl) (by kernel_rfl) (fun _ _ _ h => h) (Or.inl ⟨rfl, ?_⟩) (by assumption) ?_
  rotate_left
  · (intro w' hSw; replace q0 := kept_cell hSw q0; replace q1 := kept_cell hSw q1; replace q2 := kept_cell hSw q2; go_simp; try with_reducible rfl)
  try simp only [Act.put, List.setIfInBounds_toArray, List.set_cons_zero, List.set_cons_succ]
  refine x_take (i := 4) (oi := { dst := some 30, op := Op.fieldAddr 78 (Operand.tmp 7) 0, type := 0, pos := "poly.go:60", after := #[], guard := none }) (v := ?_) rfl (by kernel_rfl) (by kernel_rfl) (by kernel_rfl) (by kernel_rfl) (by kernel_rfl) (fun _ _ _ h => h) (Or.inl ⟨rfl, ?_⟩) (by assumption) ?_
  rotate_left
  · (intro w' hSw; replace q0 := kept_cell hSw q0; replace q1 := kept_cell hSw q1; replace q2 := kept_cell hSw q2; go_simp; try with_reducible rfl)
  try simp only [Act.put, List.setIfInBounds_toArray, List.set_cons_zero, List.set_cons_succ]
  refine x_take (i := 6) (oi := { dst := some 32, op := Op.move (Operand.tmp 1), type := 3, pos := "poly.go:60", after := #[], guard := none }) (v := ?_) rfl (by kernel_rfl) (by kernel_rfl) (by kernel_rfl) (by kernel_rfl) (by kernel_rfl) (fun _ _ _ h => h) (Or.inl ⟨rfl, ?_⟩) (by assumption) ?_
  rotate_left
  · (intro w' hSw; replace q0 := kept_cell hSw q0; replace q1 := kept_cell hSw q1; replace q2 := kept_cell hSw q2; go_simp; try with_reducible rfl)
  try simp only [Act.put, List.setIfInBounds_toArray, List.set_cons_zero, List.set_cons_succ]
  refine x_one (i := 5) (o := { dst := some 31, op := Op.load 3 (Operand.tmp 30), type := 3, pos := "poly.go:60", after := #[{ on := 4, ground := Ground.data }], guard := none }) (by kernel_rfl) rfl (fun K hK => ?_)
  (go_simp)
  refine hK.out _ _ ?_ (fun hHeld => ?_)
  · (try dsimp only); repeat (first | assumption | exact kept_refl _ | refine kept_drew ?_ | refine kept_alloc ?_ _ | refine kept_set ?_ (by omega) _)
  clear hK K
  try simp only [Act.put, List.setIfInBounds_toArray, List.set_cons_zero, List.set_cons_succ]
  refine x_one (i := 7) (o := { dst := some 33, op := Op.call { callee := Callee.value (Operand.func 52), args := #[Operand.tmp 29, Operand.tmp 31, Operand.tmp 32], argTypes := #[23, 3, 3] }, type := 50, pos := "poly.go:60", after := #[{ on := 3, ground := Ground.data }, { on := 5, ground := Ground.data }, { on := 6, ground := Ground.data }], guard := none }) (by kernel_rfl) rfl (fun K hK => ?_)
  (go_simp; go_at_call 52; (with_reducible refine (C69.out _).mono ?_); rintro e w4 ⟨rfl, k4⟩; have KK4 : Kept w1 w4 := kept_trans hHeld k4; have oT4 := (oT.drew).kept k4; try dsimp only)
  refine hK.out _ _ ?_ (fun hHeld => ?_)
  · (try dsimp only); repeat (first | assumption | exact kept_refl _ | refine kept_drew ?_ | refine kept_alloc ?_ _ | refine kept_set ?_ (by omega) _)
  clear hK K
  try simp only [Act.put, List.setIfInBounds_toArray, List.set_cons_zero, List.set_cons_succ]
  refine x_take (i := 8) (oi := { dst := some 25, op := Op.move (Operand.tmp 33), type := 50, pos := "poly.go:60", after := #[{ on := 7, ground := Ground.data }], guard := none }) (v := ?_) rfl (by kernel_rfl) (by kernel_rfl) (by kernel_rfl) (by kernel_rfl) (by kernel_rfl) (fun _ _ _ h => h) (Or.inl ⟨rfl, ?_⟩) (by assumption) ?_
  rotate_left
  · (intro w' hSw; replace q0 := kept_cell hSw q0; replace q1 := kept_cell hSw q1; replace q2 := kept_cell hSw q2; go_simp; try with_reducible rfl)
  try simp only [Act.put, List.setIfInBounds_toArray, List.set_cons_zero, List.set_cons_succ]
  refine x_take (i := 9) (oi := { dst := some 34, op := Op.extract (Operand.tmp 25) 0, type := 3, pos := "poly.go:60", after := #[{ on := 8, ground := Ground.data }], guard := none }) (v := ?_) rfl (by kernel_rfl) (by kernel_rfl) (by kernel_rfl) (by kernel_rfl) (by kernel_rfl) (fun _ _ _ h => h) (Or.inl ⟨rfl, ?_⟩) (by assumption) ?_
  rotate_left
  · (intro w' hSw; replace q0 := kept_cell hSw q0; replace q1 := kept_cell hSw q1; replace q2 := kept_cell hSw q2; go_simp; try with_reducible rfl)
  try simp only [Act.put, List.setIfInBounds_toArray, List.set_cons_zero, List.set_cons_succ]
  refine x_take (i := 10) (oi := { dst := some 35, op := Op.extract (Operand.tmp 25) 1, type := 31, pos := "poly.go:60", after := #[{ on := 8, ground := Ground.data }, { on := 12, ground := Ground.gcOnly Departure.lateStores }], guard := none }) (v := ?_) rfl (by kernel_rfl) (by kernel_rfl) (by kernel_rfl) (by kernel_rfl) (by kernel_rfl) (fun _ _ _ h => h) (Or.inl ⟨rfl, ?_⟩) (by assumption) ?_
  rotate_left
  · (intro w' hSw; replace q0 := kept_cell hSw q0; replace q1 := kept_cell hSw q1; replace q2 := kept_cell hSw q2; go_simp; try with_reducible rfl)
  try simp only [Act.put, List.setIfInBounds_toArray, List.set_cons_zero, List.set_cons_succ]
  refine x_take (i := 11) (oi := { dst := some 36, op := Op.fieldAddr 78 (Operand.tmp 7) 0, type := 0, pos := "poly.go:60", after := #[{ on := 0, ground := Ground.phase }, { on := 1, ground := Ground.phase }, { on := 2, ground := Ground.phase }, { on := 3, ground := Ground.phase }, { on := 4, ground := Ground.phase }, { on := 5, ground := Ground.phase }, { on := 6, ground := Ground.phase }, { on := 7, ground := Ground.phase }, { on := 8, ground := Ground.phase }, { on := 9, ground := Ground.phase }, { on := 10, ground := Ground.textOnly Departure.lateStores }], guard := none }) (v := ?_) rfl (by kernel_rfl) (by kernel_rfl) (by kernel_rfl) (by kernel_rfl) (by kernel_rfl) (fun _ _ _ h => h) (Or.inl ⟨rfl, ?_⟩) (by assumption) ?_
  rotate_left
  · (intro w' hSw; replace q0 := kept_cell hSw q0; replace q1 := kept_cell hSw q1; replace q2 := kept_cell hSw q2; go_simp; try with_reducible rfl)
  try simp only [Act.put, List.setIfInBounds_toArray, List.set_cons_zero, List.set_cons_succ]
  refine x_one (i := 12) (o := { dst := none, op := Op.store 3 (Operand.tmp 36) (Operand.tmp 34), type := 0, pos := "poly.go:60", after := #[{ on := 11, ground := Ground.data }, { on := 9, ground := Ground.data }, { on := 7, ground := Ground.chain }, { on := 0, ground := Ground.phase }, { on := 1, ground := Ground.phase }, { on := 2, ground := Ground.phase }, { on := 3, ground := Ground.phase }, { on := 4, ground := Ground.phase }, { on := 5, ground := Ground.phase }, { on := 6, ground := Ground.phase }, { on := 7, ground := Ground.phase }, { on := 8, ground := Ground.phase }, { on := 9, ground := Ground.phase }, { on := 10, ground := Ground.textOnly Departure.lateStores }], guard := none }) (by kernel_rfl) rfl (fun K hK => ?_)
  (have y0 := oT4.cell (j := 0) rfl; have f0 := oT4.frozen 0; go_simp)
  refine hK.out _ _ ?_ (fun hHeld => ?_)
  · (try dsimp only); repeat (first | assumption | exact kept_refl _ | refine kept_drew ?_ | refine kept_alloc ?_ _ | refine kept_set ?_ (by omega) _)
  clear hK K
  try simp only [Act.put, List.setIfInBounds_toArray, List.set_cons_zero, List.set_cons_succ]
  refine x_done (by kernel_rfl) ?_ _
  go_upto_region 5 with fail
  obtain ⟨W5, hW5⟩ : ∃ W5, W5 = w4.setCell ⟨w1.heap.size, 0, none⟩ (.int .i64 s) := ⟨_, rfl⟩
  have K5 : Kept w1 W5 := by rw [hW5]; exact hHeld
  have oT5 : Own W5 w1.heap.size 78 [.int .i64 s, .slice x.E x.t.e.length x.cap] := by rw [hW5]; exact oT4.set 0 _
  rw [← hW5]
  have hown := ownsMap_kept HOWN.out K5
  clear hW5 hHeld y0 f0 oT4 KK4 k4
  replace q0 := kept_cell K5 q0; replace q1 := kept_cell K5 q1; replace q2 := kept_cell K5 q2
  have y0 := oT5.cell (j := 0) rfl; have y1 := oT5.cell (j := 1) rfl
  refine wp_region_still_tail 6 (by kernel_rfl) (by kernel_rfl) ?_
  simp only [List.take_succ_cons, List.take_zero, List.drop_succ_cons, List.drop_zero]
  repeat still_step
  try refine wpStill_nil ?_
  change wpList _ _ _ _ _ W5.drew
  have hown' := ownsMap_kept hown (kept_drew (kept_refl W5))
  have K6 : Kept w W5.drew := kept_drew (kept_trans k1 K5)
  have hin : inF P M s := by rw [HSD.out]; exact addF_in ok (HS.out.within x HX.out) HC.out
  have HIN := Lib.hid hin
  clear hown hin
  go_wp2_with (refine wpList_mapUpdate_own _ rfl _ _ _ 129 rfl 9 78 (string_keyed Tryz.underlying9) Tryz.underlying129 termR b k D rfl hown' (by unfold maxLen; omega) _ _ _ rfl rfl HKEY.out (.held (.agg #[.int .i64 s, .slice x.E x.t.e.length x.cap])) [] (termR_mk _ _ _ _) ?_; intro w6 hown6 hg6)
  go_end0
  obtain ⟨h1, h2⟩ := put_close HS.out K6 HT.out ⟨⟨s, x.t.e⟩, x.E, x.cap⟩ hge HIN.out ((HS.out.ex x HX.out).kg (kg_of K6)) hown6 hg6
  exact ⟨rfl, ⟨⟨s, x.t.e⟩, x.E, x.cap⟩, rfl, by rw [cf_mem HS.out.ok.apart HX.out]; exact HSD.out, h1, h2⟩
set_option maxRecDepth 100000 in
set_option maxHeartbeats 1000000 in
theorem put46_new (P M : Int) (n g b k : Nat) (T : List Te) (c : Int) (e : List Int) (A : Option Addr) (cA : Nat) (w : World) (ok : okF P M = true) (hs : SumAt P M n g b k T w) (hx : ∀ y ∈ T, y.t.e ≠ e) (hge : GoodE n e) (hc : inF P M c) (hA : Rd w A (ints e)) (hn : n ≤ 80) (hk : k ≤ 1000000000000) :
    Calls Tryz.prog 67 #[.pointer (some ⟨g, 0, none⟩), .int .i64 c, .slice A e.length cA] w (PutPost P M n g b k T c e w) := by
  have C76 := Lib.hid (key76_any e A cA w hA (by have := hge.1; omega) hge.2)
  have C69 := Lib.hid fun w' => add69_any P M 0 c w' ok (zero_in ok) hc
  unfold fV at C69
  obtain ⟨s, hsd⟩ : ∃ s, s = addF P M 0 c := ⟨_, rfl⟩
  rw [← hsd] at C69
  have HS := Lib.hid hs
  have HSD := Lib.hid hsd
  have HX := Lib.hid hx
  have HC := Lib.hid hc
  have HA := Lib.hid hA
  have hkey := keyOf_key e (by have := hge.1; omega)
  obtain ⟨ky, hky⟩ : ∃ ky : ByteArray, ky = ⟨(keyB e).toArray⟩ := ⟨_, rfl⟩
  rw [← hky] at C76 hkey
  have HKEY := Lib.hid hkey
  have q0 := hs.o.cell (j := 0) rfl; have q1 := hs.o.cell (j := 1) rfl; have q2 := hs.o.cell (j := 2) rfl
  have hlt := hs.o.lt
  clear hs hsd hx hkey hky hc hA
  go_enter Tryz.func67, Tryz.ntmps67
  go_wp2_with (first | (go_at_call 88; ((with_reducible refine C76.out.mono ?_); rintro e w1 ⟨rfl, k1⟩; obtain ⟨D, hown, htab⟩ := (HS.out.kept k1).tab; have HT := Lib.hid htab;  have hh : has D (keyL e) = false := (by cases h : has D (keyL e) with | false => rfl | true => exact absurd ((tab_has htab HS.out.ok hge).1 h) (fun ⟨y, hy, he⟩ => HX.out y hy he)); have EX := Lib.hid (atKey_of_not_has hh (.held (.agg #[.int .i64 0, .slice none 0 0]))); have HH := Lib.hid hh; clear htab hh; replace q0 := kept_cell k1 q0; replace q1 := kept_cell k1 q1; replace q2 := kept_cell k1 q2)) | (at_lookup; refine wpList_lookup_own_ok _ rfl _ _ 129 rfl 9 78 (string_keyed Tryz.underlying9) Tryz.underlying129 termR (zero67w _) (.held (.agg #[.int .i64 0, .slice none 0 0])) [] rfl b k D rfl hown _ (keyL e) rfl HKEY.out ?_; intro v ps hv; rw [EX.out] at hv; obtain rfl := termR_held hv; rw [HH.out]; clear hv))
  have C45 := Lib.hid (clone45_any e A cA (w1.alloc (.cells #[.int .i64 0, .slice none 0 0] 78)) (HA.out.kept (kept_alloc k1 _)) (by have := hge.1; omega))
  have oT0 := Own.new w1 78 [.int .i64 0, .slice none 0 0]
  refine C45.out.mono ?_
  rintro e' w3 ⟨E, cap, rfl, hrow, k3⟩
  have ow3 := oT0.kept k3
  have y1 := ow3.cell (j := 1) rfl
  have f1 := ow3.frozen 1
  have hB : b < w1.heap.size + 1 := by obtain ⟨es, _, hb, _⟩ := hown; have := (Array.getElem?_eq_some_iff.1 hb).1; omega
  have hszT : (w1.alloc (.cells #[.int .i64 0, .slice none 0 0] 78)).heap.size = w1.heap.size + 1 := by simp
  rw [hszT] at hrow
  go_upto_region 4 with fail
  obtain ⟨W2, hW2⟩ : ∃ W2, W2 = w3.setCell ⟨w1.heap.size, 1, none⟩ (.slice E e.length cap) := ⟨_, rfl⟩
  have K2 : Kept w1 W2 := by rw [hW2]; exact kept_set (kept_trans (kept_alloc (kept_refl w1) _) k3) (Nat.le_refl _) _
  have oT : Own W2 w1.heap.size 78 [.int .i64 0, .slice E e.length cap] := by rw [hW2]; exact ow3.set 1 _
  have hrow2 : W2.ownsRow (w1.heap.size + 1) 3 1 (.slice E e.length cap) e.length (ints e) := by rw [hW2]; exact ownsRow_setCell_below hrow (a := ⟨w1.heap.size, 1, none⟩) (by dsimp only; omega) _
  have HROW2 := Lib.hid hrow2
  clear hrow hrow2 f1 y1 ow3 oT0 k3 hszT
  have gT : g < w1.heap.size := by have := k1.size; omega
  rw [← hW2]
  have z0 := oT.cell (j := 0) rfl
  have HOWN := Lib.hid hown
  clear hW2 hown
  refine region_x (fun w' => Kept w1 w') [] (by kernel_rfl) (kept_drew (K2)) (fun hHeld => ?_)
  refine x_take (i := 0) (oi := { dst := some 26, op := Op.move (Operand.tmp 0), type := 106, pos := "poly.go:60", after := #[], guard := none }) (v := ?_) rfl (by kernel_rfl) (by kernel_rfl) (by kernel_rfl) (by kernel_rfl) (by kernel_rfl) (fun _ _ _ h => h) (Or.inl ⟨rfl, ?_⟩) (by assumption) ?_
  rotate_left
  · (intro w' hSw; replace q0 := kept_cell hSw q0; replace q1 := kept_cell hSw q1; replace q2 := kept_cell hSw q2; go_simp; try with_reducible rfl)
  try simp only [Act.put, List.setIfInBounds_toArray, List.set_cons_zero, List.set_cons_succ]
  refine x_take (i := 1) (oi := { dst := some 27, op := Op.nilCheck (Operand.tmp 26), type := 0, pos := "poly.go:60", after := #[{ on := 0, ground := Ground.data }], guard := none }) (v := ?_) rfl (by kernel_rfl) (by kernel_rfl) (by kernel_rfl) (by kernel_rfl) (by kernel_rfl) (fun _ _ _ h => h) (Or.inl ⟨rfl, ?_⟩) (by assumption) ?_
  rotate_left
  · (intro w' hSw; replace q0 := kept_cell hSw q0; replace q1 := kept_cell hSw q1; replace q2 := kept_cell hSw q2; go_simp; try with_reducible rfl)
  try simp only [Act.put, List.setIfInBounds_toArray, List.set_cons_zero, List.set_cons_succ]
  refine x_take (i := 2) (oi := { dst := some 28, op := Op.fieldAddr 131 (Operand.tmp 27) 0, type := 0, pos := "poly.go:60", after := #[{ on := 1, ground := Ground.data }], guard := none }) (v := ?_) rfl (by kernel_rfl) (by kernel_rfl) (by kernel_rfl) (by kernel_rfl) (by kernel_rfl) (fun _ _ _ h => h) (Or.inl ⟨rfl, ?_⟩) (by assumption) ?_
  rotate_left
  · (intro w' hSw; replace q0 := kept_cell hSw q0; replace q1 := kept_cell hSw q1; replace q2 := kept_cell hSw q2; go_simp; try with_reducible rfl)
  try simp only [Act.put, List.setIfInBounds_toArray, List.set_cons_zero, List.set_cons_succ]
  refine x_take (i := 3) (oi := { dst := some 29, op := Op.load 23 (Operand.tmp 28), type := 23, pos := "poly.go:60", after := #[{ on := 2, ground := Ground.data }], guard := none }) (v := ?_) rfl (by kernel_rfl) (by kernel_rfl) (by kernel_rfl) (by kernel_rfl) (by kernel_rfl) (fun _ _ _ h => h) (Or.inl ⟨rfl, ?_⟩) (by assumption) ?_
  rotate_left
  · (intro w' hSw; replace q0 := kept_cell hSw q0; replace q1 := kept_cell hSw q1; replace q2 := kept_cell hSw q2; go_simp; try with_reducible rfl)
  try simp only [Act.put, List.setIfInBounds_toArray, List.set_cons_zero, List.set_cons_succ]
  refine x_take (i := 4) (oi := { dst := some 30, op := Op.fieldAddr 78 (Operand.tmp 7) 0, type := 0, pos := "poly.go:60", after := #[], guard := none }) (v := ?_) rfl (by kernel_rfl) (by kernel_rfl) (by kernel_rfl) (by kernel_rfl) (by kernel_rfl) (fun _ _ _ h => h) (Or.inl ⟨rfl, ?_⟩) (by assumption) ?_
  rotate_left
  · (intro w' hSw; replace q0 := kept_cell hSw q0; replace q1 := kept_cell hSw q1; replace q2 := kept_cell hSw q2; go_simp; try with_reducible rfl)
  try simp only [Act.put, List.setIfInBounds_toArray, List.set_cons_zero, List.set_cons_succ]
  refine x_take (i := 6) (oi := { dst := some 32, op := Op.move (Operand.tmp 1), type := 3, pos := "poly.go:60", after := #[], guard := none }) (v := ?_) rfl (by kernel_rfl) (by kernel_rfl) (by kernel_rfl) (by kernel_rfl) (by kernel_rfl) (fun _ _ _ h => h) (Or.inl ⟨rfl, ?_⟩) (by assumption) ?_
  rotate_left
  · (intro w' hSw; replace q0 := kept_cell hSw q0; replace q1 := kept_cell hSw q1; replace q2 := kept_cell hSw q2; go_simp; try with_reducible rfl)
  try simp only [Act.put, List.setIfInBounds_toArray, List.set_cons_zero, List.set_cons_succ]
  refine x_one (i := 5) (o := { dst := some 31, op := Op.load 3 (Operand.tmp 30), type := 3, pos := "poly.go:60", after := #[{ on := 4, ground := Ground.data }], guard := none }) (by kernel_rfl) rfl (fun K hK => ?_)
  (go_simp)
  refine hK.out _ _ ?_ (fun hHeld => ?_)
  · (try dsimp only); repeat (first | assumption | exact kept_refl _ | refine kept_drew ?_ | refine kept_alloc ?_ _ | refine kept_set ?_ (by omega) _)
  clear hK K
  try simp only [Act.put, List.setIfInBounds_toArray, List.set_cons_zero, List.set_cons_succ]
  refine x_one (i := 7) (o := { dst := some 33, op := Op.call { callee := Callee.value (Operand.func 52), args := #[Operand.tmp 29, Operand.tmp 31, Operand.tmp 32], argTypes := #[23, 3, 3] }, type := 50, pos := "poly.go:60", after := #[{ on := 3, ground := Ground.data }, { on := 5, ground := Ground.data }, { on := 6, ground := Ground.data }], guard := none }) (by kernel_rfl) rfl (fun K hK => ?_)
  (go_simp; go_at_call 52; (with_reducible refine (C69.out _).mono ?_); rintro e w4 ⟨rfl, k4⟩; have KK4 : Kept w1 w4 := kept_trans hHeld k4; have oT4 := (oT.drew).kept k4; have HROW4 := Lib.hid (row_kept HROW2.out (kept_trans (kept_drew (kept_refl W2)) k4)); try dsimp only)
  refine hK.out _ _ ?_ (fun hHeld => ?_)
  · (try dsimp only); repeat (first | assumption | exact kept_refl _ | refine kept_drew ?_ | refine kept_alloc ?_ _ | refine kept_set ?_ (by omega) _)
  clear hK K
  try simp only [Act.put, List.setIfInBounds_toArray, List.set_cons_zero, List.set_cons_succ]
  refine x_take (i := 8) (oi := { dst := some 25, op := Op.move (Operand.tmp 33), type := 50, pos := "poly.go:60", after := #[{ on := 7, ground := Ground.data }], guard := none }) (v := ?_) rfl (by kernel_rfl) (by kernel_rfl) (by kernel_rfl) (by kernel_rfl) (by kernel_rfl) (fun _ _ _ h => h) (Or.inl ⟨rfl, ?_⟩) (by assumption) ?_
  rotate_left
  · (intro w' hSw; replace q0 := kept_cell hSw q0; replace q1 := kept_cell hSw q1; replace q2 := kept_cell hSw q2; go_simp; try with_reducible rfl)
  try simp only [Act.put, List.setIfInBounds_toArray, List.set_cons_zero, List.set_cons_succ]
  refine x_take (i := 9) (oi := { dst := some 34, op := Op.extract (Operand.tmp 25) 0, type := 3, pos := "poly.go:60", after := #[{ on := 8, ground := Ground.data }], guard := none }) (v := ?_) rfl (by kernel_rfl) (by kernel_rfl) (by kernel_rfl) (by kernel_rfl) (by kernel_rfl) (fun _ _ _ h => h) (Or.inl ⟨rfl, ?_⟩) (by assumption) ?_
  rotate_left
  · (intro w' hSw; replace q0 := kept_cell hSw q0; replace q1 := kept_cell hSw q1; replace q2 := kept_cell hSw q2; go_simp; try with_reducible rfl)
  try simp only [Act.put, List.setIfInBounds_toArray, List.set_cons_zero, List.set_cons_succ]
  refine x_take (i := 10) (oi := { dst := some 35, op := Op.extract (Operand.tmp 25) 1, type := 31, pos := "poly.go:60", after := #[{ on := 8, ground := Ground.data }, { on := 12, ground := Ground.gcOnly Departure.lateStores }], guard := none }) (v := ?_) rfl (by kernel_rfl) (by kernel_rfl) (by kernel_rfl) (by kernel_rfl) (by kernel_rfl) (fun _ _ _ h => h) (Or.inl ⟨rfl, ?_⟩) (by assumption) ?_
  rotate_left
  · (intro w' hSw; replace q0 := kept_cell hSw q0; replace q1 := kept_cell hSw q1; replace q2 := kept_cell hSw q2; go_simp; try with_reducible rfl)
  try simp only [Act.put, List.setIfInBounds_toArray, List.set_cons_zero, List.set_cons_succ]
  refine x_take (i := 11) (oi := { dst := some 36, op := Op.fieldAddr 78 (Operand.tmp 7) 0, type := 0, pos := "poly.go:60", after := #[{ on := 0, ground := Ground.phase }, { on := 1, ground := Ground.phase }, { on := 2, ground := Ground.phase }, { on := 3, ground := Ground.phase }, { on := 4, ground := Ground.phase }, { on := 5, ground := Ground.phase }, { on := 6, ground := Ground.phase }, { on := 7, ground := Ground.phase }, { on := 8, ground := Ground.phase }, { on := 9, ground := Ground.phase }, { on := 10, ground := Ground.textOnly Departure.lateStores }], guard := none }) (v := ?_) rfl (by kernel_rfl) (by kernel_rfl) (by kernel_rfl) (by kernel_rfl) (by kernel_rfl) (fun _ _ _ h => h) (Or.inl ⟨rfl, ?_⟩) (by assumption) ?_
  rotate_left
  · (intro w' hSw; replace q0 := kept_cell hSw q0; replace q1 := kept_cell hSw q1; replace q2 := kept_cell hSw q2; go_simp; try with_reducible rfl)
  try simp only [Act.put, List.setIfInBounds_toArray, List.set_cons_zero, List.set_cons_succ]
  refine x_one (i := 12) (o := { dst := none, op := Op.store 3 (Operand.tmp 36) (Operand.tmp 34), type := 0, pos := "poly.go:60", after := #[{ on := 11, ground := Ground.data }, { on := 9, ground := Ground.data }, { on := 7, ground := Ground.chain }, { on := 0, ground := Ground.phase }, { on := 1, ground := Ground.phase }, { on := 2, ground := Ground.phase }, { on := 3, ground := Ground.phase }, { on := 4, ground := Ground.phase }, { on := 5, ground := Ground.phase }, { on := 6, ground := Ground.phase }, { on := 7, ground := Ground.phase }, { on := 8, ground := Ground.phase }, { on := 9, ground := Ground.phase }, { on := 10, ground := Ground.textOnly Departure.lateStores }], guard := none }) (by kernel_rfl) rfl (fun K hK => ?_)
  (have y0 := oT4.cell (j := 0) rfl; have f0 := oT4.frozen 0; go_simp)
  refine hK.out _ _ ?_ (fun hHeld => ?_)
  · (try dsimp only); repeat (first | assumption | exact kept_refl _ | refine kept_drew ?_ | refine kept_alloc ?_ _ | refine kept_set ?_ (by omega) _)
  clear hK K
  try simp only [Act.put, List.setIfInBounds_toArray, List.set_cons_zero, List.set_cons_succ]
  refine x_done (by kernel_rfl) ?_ _
  go_upto_region 5 with fail
  obtain ⟨W5, hW5⟩ : ∃ W5, W5 = w4.setCell ⟨w1.heap.size, 0, none⟩ (.int .i64 s) := ⟨_, rfl⟩
  have K5 : Kept w1 W5 := by rw [hW5]; exact hHeld
  have oT5 : Own W5 w1.heap.size 78 [.int .i64 s, .slice E e.length cap] := by rw [hW5]; exact oT4.set 0 _
  have HROW5 : Hid (W5.ownsRow (w1.heap.size + 1) 3 1 (.slice E e.length cap) e.length (ints e)) := Lib.hid (by rw [hW5]; exact ownsRow_setCell_below HROW4.out (a := ⟨w1.heap.size, 0, none⟩) (by dsimp only; omega) _)
  rw [← hW5]
  have hown := ownsMap_kept HOWN.out K5
  clear hW5 hHeld y0 f0 oT4 KK4 k4
  replace q0 := kept_cell K5 q0; replace q1 := kept_cell K5 q1; replace q2 := kept_cell K5 q2
  have y0 := oT5.cell (j := 0) rfl; have y1 := oT5.cell (j := 1) rfl
  refine wp_region_still_tail 6 (by kernel_rfl) (by kernel_rfl) ?_
  simp only [List.take_succ_cons, List.take_zero, List.drop_succ_cons, List.drop_zero]
  repeat still_step
  try refine wpStill_nil ?_
  change wpList _ _ _ _ _ W5.drew
  have hown' := ownsMap_kept hown (kept_drew (kept_refl W5))
  have K6 : Kept w W5.drew := kept_drew (kept_trans k1 K5)
  have hin : inF P M s := by rw [HSD.out]; exact addF_in ok (zero_in ok) HC.out
  have HIN := Lib.hid hin
  clear hown hin
  go_wp2_with (refine wpList_mapUpdate_own _ rfl _ _ _ 129 rfl 9 78 (string_keyed Tryz.underlying9) Tryz.underlying129 termR b k D rfl hown' (by unfold maxLen; omega) _ _ _ rfl rfl HKEY.out (.held (.agg #[.int .i64 s, .slice E e.length cap])) [] (termR_mk _ _ _ _) ?_; intro w6 hown6 hg6)
  go_end0
  obtain ⟨h1, h2⟩ := put_close HS.out K6 HT.out ⟨⟨s, e⟩, E, cap⟩ hge HIN.out ((row_rdx HROW5.out hB).kg (kg_of (kept_drew (kept_refl W5)))) hown6 hg6
  exact ⟨rfl, ⟨⟨s, e⟩, E, cap⟩, rfl, by rw [cf_none HX.out]; exact HSD.out, h1, h2⟩
theorem put46_any (P M : Int) (n g b k : Nat) (T : List Te) (c : Int) (e : List Int) (A : Option Addr) (cA : Nat) (w : World) (ok : okF P M = true) (hs : SumAt P M n g b k T w) (hge : GoodE n e) (hc : inF P M c) (hA : Rd w A (ints e)) (hn : n ≤ 80) (hk : k ≤ 1000000000000) :
    Calls Tryz.prog 67 #[.pointer (some ⟨g, 0, none⟩), .int .i64 c, .slice A e.length cA] w (PutPost P M n g b k T c e w) := by
  by_cases h : ∃ x ∈ T, x.t.e = e
  · obtain ⟨x, hx, rfl⟩ := h
    exact put46_met P M n g b k T c x A cA w ok hs hx hc hA hn hk
  · exact put46_new P M n g b k T c e A cA w ok hs (fun y hy he => h ⟨y, hy, he⟩) hge hc hA hn hk
end Go.Proofs.YtikfeemmjfoffaaGreatDoor
