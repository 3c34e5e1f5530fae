/- Trees of formulas: From. -/
import Derived.Test.YtikfeemmjfoffaaDoorY12
import Derived.Test.YtikfeemmjfoffaaDoorW6
import Derived.Test.YtikfeemmjfoffaaDoorLib8
import Derived.Test.YtikfeemmjfoffaaDoorW10
import Derived.BigRegion
import Derived.Laws.EntriesVeiled
/- Trees of formulas: From's function literal, all of it. -/
set_option linter.unusedVariables false
set_option linter.unusedSimpArgs false
namespace Go.Proofs.YtikfeemmjfoffaaDoor
open Go.RowKit

theorem put44_any {q : Pl} {w0 : World} {H : Nat} (hH : H ≤ 6) (hX : Rd w0 q.X (bools q.xs)) (hql : w0.heap.size ≤ q.l) (hqT : w0.heap.size ≤ q.T) :
    ∀ (k e n : Nat) (f : Fm) (A : Option Addr) (c : Nat) (s : LT) (w : World), e + 1 ≤ k → Lev H e n → depF f ≤ e + 1 → shpF f = true → inpF f ≤ q.xs.length → RK w0 A f.l → Kept w0 w → q.base ≤ w.heap.size → s.2.length = 2 ^ H - 1 → s.1.length = 2 ^ H → PS q s w →
      Calls Tryd.prog 44 #[fmV f A c, .int .i64 n, .pointer (some ⟨q.t, 0, none⟩), .pointer (some ⟨q.x, 0, none⟩), .pointer (some ⟨q.p, 0, none⟩)] w (PutPost q (putN (xs q.xs) s.2.length k f n s) w) := by
  intro k
  induction k with
  | zero => intro e n f A c s w hk; omega
  | succ k ih =>
    intro e n f A c s w hk hL hd hs hi hr kw hb hl2 hl1 ps
    have hz := lev_zero hL
    have hlt := lev_lt hL
    have h2 : 2 ^ (H + 1) = 2 * 2 ^ H := by rw [Nat.pow_succ]; omega
    have hp := Nat.two_pow_pos H
    have h64 : 2 ^ H ≤ 2 ^ 6 := Nat.pow_le_pow_right (by omega) hH
    have h64' : (2 : Nat) ^ 6 = 64 := rfl
    by_cases hn : s.2.length ≤ n
    · have he := hz.1 (by omega)
      subst he
      have hl0 : f.l = [] := by
        cases hfl : f.l with
        | nil => rfl
        | cons g gs => rw [depF_eq, hfl, depL] at hd; have := depF_pos g; omega
      rw [putN_leaf hn]
      refine put44_leaf (m := 0) k hX hn (by omega) (by omega) (by omega) ?_ kw ps
      rcases fm_cases hs with ⟨m, rfl, m0, m1⟩ | (rfl | rfl) | ⟨g, rfl, _⟩ | ⟨k', g, g', _, rfl, _, _⟩
      · refine .inl ⟨m.toNat, by rw [Int.toNat_of_nonneg m0], ?_⟩
        rw [inpF_eq] at hi
        simp only [Fm.k, Fm.n, Fm.l, if_pos, inpL] at hi
        omega
      · exact .inr (.inl rfl)
      · exact .inr (.inr rfl)
      · cases hl0
      · cases hl0
    · obtain ⟨e, rfl⟩ : ∃ e', e = e' + 1 := ⟨e - 1, by have : e ≠ 0 := fun h0 => hn (by have := hz.2 h0; omega); omega⟩
      by_cases hfl : f.l.length = 0
      · rw [putN_down hn hfl]
        have hd1 : depF f = 1 := by rw [depF_eq, List.eq_nil_of_length_eq_zero hfl, depL]
        refine put44_down (w0 := w0) (by omega) (by omega) (List.eq_nil_of_length_eq_zero hfl) kw ps fun w1 kw1 sz1 ps1 => ?_
        have C := ih e (2 * n + 1) f A c s w1 (by omega) (lev_kid (i := 0) hL (by omega)) (by omega) hs hi hr kw1 (Nat.le_trans hb sz1) hl2 hl1 ps1
        rwa [show ((2 * n + 1 : Nat) : Int) = 2 * (n : Int) + 1 by omega] at C
      · rw [putN_node hn hfl]
        have hdl : depL f.l ≤ e + 1 := by rw [depF_eq] at hd; omega
        have hsl : shpL f.l = true := by rw [shpF_eq, Bool.and_eq_true] at hs; exact hs.1
        have hil : inpL f.l ≤ q.xs.length := by rw [inpF_eq] at hi; omega
        have hkk : (f.k = 2 ∨ f.k = 3 ∨ f.k = 4 ∨ f.k = 5) ∧ f.l.length ≤ 2 := by
          rcases fm_cases hs with ⟨m, rfl, m0, m1⟩ | (rfl | rfl) | ⟨g, rfl, _⟩ | ⟨k', g, g', hk', rfl, _, _⟩
          · exact absurd rfl hfl
          · exact absurd rfl hfl
          · exact absurd rfl hfl
          · exact ⟨.inl rfl, by simp [Fm.l]⟩
          · exact ⟨.inr hk', by simp [Fm.l]⟩
        refine put44_node (by omega) (by omega) hkk.1 hfl hkk.2 hr kw hql hqT hb ps fun j A' c' s1 w1 hj kw1 hr1 hs1 ps1 hb1 => ?_
        have C := ih e (2 * n + 1 + j) (kd f.l j) A' c' s1 w1 (by omega) (lev_kid (i := j) hL (by omega)) (by have := dep_kid hj; omega) (shpL_true.1 hsl j hj) (by have := inp_kid hj; omega) hr1 kw1 hb1 (by rw [hs1.1]; exact hl2) (by rw [hs1.2]; exact hl1) ps1
        rw [hs1.1] at C
        rwa [show ((2 * n + 1 + j : Nat) : Int) = 2 * (n : Int) + 1 + (j : Int) by omega] at C
end Go.Proofs.YtikfeemmjfoffaaDoor


set_option linter.unusedVariables false
set_option linter.unusedSimpArgs false
namespace Go.Proofs.YtikfeemmjfoffaaDoor
open Go.RowKit

theorem info22' : (Tryd.prog.info? 22).map (fun i => (i.zero, i.size, i.bytes)) = some (some (.slice none 0 0), 1, 24) := by kernel_rfl
theorem make23 (n : Nat) (hn : n ≤ 1000000) (W : World) :
    (Instr.makeSlice 23 (.int .i64 (n : Int)) (.int .i64 (n : Int))).run Tryd.prog W = .ok (.slice (some ⟨W.heap.size, 0, none⟩) n n) (W.alloc (.cells (List.replicate n (.slice none 0 0)).toArray 22)) := by
  have h := run_make_row' (P := Tryd.prog) 23 22 (.slice none 0 0) 24 Tryd.underlying23 info22' rfl .i64 .i64 n (by omega) (by omega) W
  rw [made_list] at h
  simpa using h
theorem own_new_eq {W : World} {g : Nat} {e : TypeId} {cs : List Value} {ar : Array Value} (h : g = W.heap.size) (ha : ar = cs.toArray) : Own (W.alloc (.cells ar e)) g e cs := by
  subst h; subst ha; exact Own.new W e cs
theorem app_get {α : Type} (l : List α) (n : Nat) (v : α) (h : 0 < n) : (l ++ List.replicate n v)[l.length]? = some v := by
  rw [List.getElem?_append_right (Nat.le_refl _), Nat.sub_self]
  cases n with
  | zero => omega
  | succ n => rfl
theorem app_set {α : Type} (l : List α) (n : Nat) (v u : α) : (l ++ List.replicate (n + 1) v).set l.length u = (l ++ [u]) ++ List.replicate n v := by
  rw [List.set_append_right _ _ (Nat.le_refl _), Nat.sub_self, List.replicate_succ]; simp
theorem fill_step {wr : World} {TB M j : Nat} {bs : List Nat} (p3 : Own wr TB 22 (bs.map rowV ++ List.replicate (M - j) (.slice none 0 0))) (hbs : bs.length = j) (hlt : j < M) (o : Obj) :
    Own ((wr.setCell ⟨TB, j, none⟩ (rowV wr.heap.size)).alloc o) TB 22 ((bs ++ [wr.heap.size]).map rowV ++ List.replicate (M - (j + 1)) (.slice none 0 0)) := by
  have h := (p3.set j (rowV wr.heap.size)).alloc o
  have e : (bs.map rowV).length = j := by simpa using hbs
  have h2 := app_set (bs.map rowV) (M - (j + 1)) (.slice none 0 0) (rowV wr.heap.size)
  rw [e, show M - (j + 1) + 1 = M - j by omega] at h2
  rw [h2] at h
  simpa using h
theorem rows_step {wr : World} {TB B j : Nat} {bs : List Nat} {cs : List Value} {r : List Int} {v : Value} (hrows : ∀ i, i < j → B ≤ bs.getD i 0 ∧ Own wr (bs.getD i 0) 3 (ints r)) (hbs : bs.length = j) (hB : B ≤ wr.heap.size) (hT : Own wr TB 22 cs) :
    ∀ i, i < j + 1 → B ≤ (bs ++ [wr.heap.size]).getD i 0 ∧ Own ((wr.setCell ⟨TB, j, none⟩ v).alloc (.cells (ints r).toArray 3)) ((bs ++ [wr.heap.size]).getD i 0) 3 (ints r) := by
  intro i hi
  by_cases h : i < j
  · have e : (bs ++ [wr.heap.size]).getD i 0 = bs.getD i 0 := by simp [List.getD_eq_getElem?_getD, List.getElem?_append_left (show i < bs.length by omega)]
    rw [e]
    exact ⟨(hrows i h).1, ((hrows i h).2.other (own_ne (hrows i h).2 hT (by decide)) _).alloc _⟩
  · have hij : i = j := by omega
    subst hij
    have e : (bs ++ [wr.heap.size]).getD i 0 = wr.heap.size := by rw [← hbs]; simp [List.getD_eq_getElem?_getD]
    rw [e]
    exact ⟨hB, own_new_eq (by simp) rfl⟩
def zeroTreeV : Value := .agg #[.int .i64 0, .int .i64 0, .slice none 0 0, .slice none 0 0]
def FromPost (f : Fm) (x : List Bool) (w : World) (e : Ending) (w' : World) : Prop :=
  if shpF f = false then e = .returned (.tuple #[zeroTreeV, .int .i64 1]) ∧ Kept w w'
  else if (x.length : Int) < inpF f then e = .returned (.tuple #[zeroTreeV, .int .i64 2]) ∧ Kept w w'
  else if 7 < depF f then e = .returned (.tuple #[zeroTreeV, .int .i64 5]) ∧ Kept w w'
  else ∃ (t : Tr) (A : Option Addr) (c : Nat) (T : Option Addr) (m : Nat), e = .returned (.tuple #[.agg #[.int .i64 t.h, .int .i64 t.b, .slice A t.lv.length c, .slice T t.tb.length m], .int .i64 0]) ∧ Kept w w' ∧
    Rd w' A (ints t.lv) ∧ RT w' T t.tb ∧ t.h = depF f - 1 ∧ t.b = 1 ∧ Good t ∧ valW t 0 = b01 (evF (xs x) f)

set_option maxRecDepth 100000 in
set_option maxHeartbeats 1000000 in
theorem from23_any (f : Fm) (A : Option Addr) (c : Nat) (x : List Bool) (X : Option Addr) (cx : Nat) (w : World) (hc : cntF f ≤ 20000) (hd : depF f ≤ 1000) (hl : f.l.length ≤ 9223372036854775807) (hr : RK w A f.l) (hX : Rd w X (bools x)) (hx : x.length ≤ 140737488355328) :
    Calls Tryd.prog 23 #[fmV f A c, .slice X x.length cx] w (FromPost f x w) := by
  obtain ⟨ck, hck⟩ : ∃ ck, ck = f.k := ⟨_, rfl⟩
  obtain ⟨cn, hcn⟩ : ∃ cn, cn = f.n := ⟨_, rfl⟩
  obtain ⟨cl, hcl⟩ : ∃ cl, cl = f.l.length := ⟨_, rfl⟩
  obtain ⟨W, hW⟩ : ∃ W, W = ((w.alloc (.cells #[.int .i64 ck, .int .i64 cn, .slice A cl c] 48)).alloc (.cells #[.slice X x.length cx] 49)).alloc (.cells #[.int .i64 0, .int .i64 0, .slice none 0 0, .slice none 0 0] 25) := ⟨_, rfl⟩
  have of : Own W w.heap.size 48 [.int .i64 ck, .int .i64 cn, .slice A cl c] := by rw [hW]; exact ((Own.new w 48 _).alloc _).alloc _
  have ox : Own W (w.heap.size + 1) 49 [.slice X x.length cx] := by
    rw [hW]; have := (Own.new (w.alloc (.cells #[.int .i64 ck, .int .i64 cn, .slice A cl c] 48)) 49 [.slice X x.length cx]).alloc (.cells #[.int .i64 0, .int .i64 0, .slice none 0 0, .slice none 0 0] 25); simpa using this
  have ot : Own W (w.heap.size + 1 + 1) 25 [.int .i64 0, .int .i64 0, .slice none 0 0, .slice none 0 0] := by
    rw [hW]; have := Own.new ((w.alloc (.cells #[.int .i64 ck, .int .i64 cn, .slice A cl c] 48)).alloc (.cells #[.slice X x.length cx] 49)) 25 [.int .i64 0, .int .i64 0, .slice none 0 0, .slice none 0 0]; simpa using this
  have KW : Kept w W := by rw [hW]; exact kept_alloc (kept_alloc (kept_alloc (kept_refl w) _) _) _
  have CV := valid82_any f A c W hc hd hl (hr.kept KW)
  unfold fmV at CV ⊢
  rw [← hck, ← hcn, ← hcl] at CV ⊢
  have q0 := of.cell (j := 0) rfl; have q1 := of.cell (j := 1) rfl; have q2 := of.cell (j := 2) rfl
  have zW : w.heap.size + 1 + 1 < W.heap.size := ot.lt
  have zW : w.heap.size + 1 + 1 < W.heap.size := ot.lt
  cases hs : shpF f with
  | false =>
    rw [hs] at CV
    have HS := Lib.hid hs
    have HC := Lib.hid CV; have HW := Lib.hid hW; have HKW := Lib.hid KW
    clear hs CV hW KW hck hcn hcl hr hX
    go_enter Tryd.func23, Tryd.ntmps23
    go_upto_region 1 with fail
    rw [← HW.out]
    go_wp2_with (go_at_call 41; ((with_reducible refine HC.out.mono ?_); rintro e w3 ⟨rfl, k3⟩; have o3 := ot.kept k3; have e0 := o3.cell (j := 0) rfl; have e1 := o3.cell (j := 1) rfl; have e2 := o3.cell (j := 2) rfl; have e3 := o3.cell (j := 3) rfl; have f0 := o3.frozen 0; have f1 := o3.frozen 1; have f2 := o3.frozen 2; have f3 := o3.frozen 3))
    have o3' := own_set4 o3 (.int .i64 0) (.int .i64 0) (.slice none 0 0) (.slice none 0 0)
    have pk := kept_set4 (kept_trans HKW.out k3) (show w.heap.size ≤ w.heap.size + 1 + 1 by omega) (.int .i64 0) (.int .i64 0) (.slice none 0 0) (.slice none 0 0)
    unfold set4 at o3' pk
    have r0 := o3'.cell (j := 0) rfl; have r1 := o3'.cell (j := 1) rfl; have r2 := o3'.cell (j := 2) rfl; have r3 := o3'.cell (j := 3) rfl
    exact bodyPost_ret (v := .tuple #[.agg #[.int .i64 0, .int .i64 0, .slice none 0 0, .slice none 0 0], .int .i64 1]) (by simp [results, Tryd.results23, go_sem, r0, r1, r2, r3]) rfl (by unfold FromPost; rw [if_pos HS.out]; exact ⟨rfl, pk⟩)
  | true =>
    rw [hs] at CV
    have CI : ∀ w', Kept w w' → Calls Tryd.prog 42 #[.agg #[.int .i64 ck, .int .i64 cn, .slice A cl c]] w' fun e w'' => e = .returned (.int .i64 (inpF f)) ∧ Kept w' w'' := by
      intro w' k
      have := inputs83_any f A c w' hc hd hl (hr.kept k) hs
      unfold fmV at this
      rwa [← hck, ← hcn, ← hcl] at this
    have CN : ∀ w', Kept w w' → Calls Tryd.prog 43 #[.agg #[.int .i64 ck, .int .i64 cn, .slice A cl c], .int .i64 8] w' fun e w'' => e = .returned (.int .i64 (min (depF f : Int) (8 + 1))) ∧ Kept w' w'' := by
      intro w' k
      have := nesting43_any (cntF f) f A c 8 w' (Nat.le_refl _) hl (hr.kept k) (by omega) (by omega)
      unfold fmV at this
      rwa [← hck, ← hcn, ← hcl] at this
    obtain ⟨ip, hip⟩ : ∃ ip, ip = inpF f := ⟨_, rfl⟩
    obtain ⟨dp, hdp⟩ : ∃ dp, dp = min (depF f : Int) (8 + 1) := ⟨_, rfl⟩
    rw [← hip] at CI
    rw [← hdp] at CN
    have hd0 : 0 ≤ dp := by omega
    have hd9 : dp ≤ 9 := by omega
    have HS := Lib.hid hs
    have HC := Lib.hid CV; have HW := Lib.hid hW; have HKW := Lib.hid KW; have HI := Lib.hid CI; have HN := Lib.hid CN
    by_cases hlt : (x.length : Int) < inpF f
    · have c1 : decide ((x.length : Int) < ip) = true := decide_eq_true (by omega)
      have HLT := Lib.hid hlt
      clear hs CV hW KW hck hcn hcl hr hX CI CN hlt hip hdp
      go_enter Tryd.func23, Tryd.ntmps23
      go_upto_region 1 with fail
      rw [← HW.out]
      go_upto_region 3 with (go_at_call 41; ((with_reducible refine HC.out.mono ?_); rintro e w3 ⟨rfl, k3⟩; have of3 := of.kept k3; have ox3 := ox.kept k3; have q0 := of3.cell (j := 0) rfl; have q1 := of3.cell (j := 1) rfl; have q2 := of3.cell (j := 2) rfl; have x0 := ox3.cell (j := 0) rfl))
      have KW3 : Kept w w3 := kept_trans HKW.out k3
      obtain ⟨V, hV⟩ : ∃ V, V = w3 := ⟨_, rfl⟩
      rw [← hV] at KW3 of3 ox3 q0 q1 q2 x0 k3 ⊢
      clear hV
      refine region_x (fun w' => Kept V w') [] (by kernel_rfl) (kept_drew (kept_refl _)) (fun hHeld => ?_)
      refine x_take (i := 0) (oi := { dst := some 14, op := Op.load 49 (Operand.tmp 3), type := 49, pos := "tree.go:172", after := #[], guard := none }) (v := ?_) rfl (by kernel_rfl) (by kernel_rfl) (by kernel_rfl) (by kernel_rfl) (by kernel_rfl) (fun _ _ _ h => h) (Or.inl ⟨rfl, ?_⟩) (by assumption) ?_
      rotate_left
      · (intro w' hSw; replace q0 := kept_cell hSw q0; replace q1 := kept_cell hSw q1; replace q2 := kept_cell hSw q2; replace x0 := kept_cell hSw x0; go_simp; try with_reducible rfl)
      try simp only [Act.put, List.setIfInBounds_toArray, List.set_cons_zero, List.set_cons_succ]
      refine x_take (i := 1) (oi := { dst := some 15, op := Op.call { callee := Callee.builtin Builtin.len, args := #[Operand.tmp 14], argTypes := #[49] }, type := 3, pos := "tree.go:172", after := #[{ on := 0, ground := Ground.data }], guard := none }) (v := ?_) rfl (by kernel_rfl) (by kernel_rfl) (by kernel_rfl) (by kernel_rfl) (by kernel_rfl) (fun _ _ _ h => h) (Or.inl ⟨rfl, ?_⟩) (by assumption) ?_
      rotate_left
      · (intro w' hSw; replace q0 := kept_cell hSw q0; replace q1 := kept_cell hSw q1; replace q2 := kept_cell hSw q2; replace x0 := kept_cell hSw x0; go_simp; try with_reducible rfl)
      try simp only [Act.put, List.setIfInBounds_toArray, List.set_cons_zero, List.set_cons_succ]
      refine x_take (i := 2) (oi := { dst := some 16, op := Op.load 48 (Operand.tmp 2), type := 48, pos := "tree.go:172", after := #[], guard := none }) (v := ?_) rfl (by kernel_rfl) (by kernel_rfl) (by kernel_rfl) (by kernel_rfl) (by kernel_rfl) (fun _ _ _ h => h) (Or.inl ⟨rfl, ?_⟩) (by assumption) ?_
      rotate_left
      · (intro w' hSw; replace q0 := kept_cell hSw q0; replace q1 := kept_cell hSw q1; replace q2 := kept_cell hSw q2; replace x0 := kept_cell hSw x0; go_simp; try with_reducible rfl)
      try simp only [Act.put, List.setIfInBounds_toArray, List.set_cons_zero, List.set_cons_succ]
      refine x_one (i := 3) (o := { dst := some 17, op := Op.call { callee := Callee.value (Operand.func 42), args := #[Operand.tmp 16], argTypes := #[48] }, type := 3, pos := "tree.go:172", after := #[{ on := 2, ground := Ground.data }], guard := none }) (by kernel_rfl) rfl (fun K hK => ?_)
      (go_simp; go_at_call 42; (with_reducible refine (HI.out _ (kept_trans KW3 hHeld)).mono ?_); rintro e w5 ⟨rfl, k5⟩; have KK5 : Kept V w5 := kept_trans hHeld k5; try dsimp only)
      refine hK.out _ _ ?_ (fun hHeld => ?_)
      · (try dsimp only); repeat (first | assumption | exact kept_refl _ | refine kept_drew ?_ | refine kept_alloc ?_ _ | refine kept_set ?_ (by omega) _)
      clear hK K
      try simp only [Act.put, List.setIfInBounds_toArray, List.set_cons_zero, List.set_cons_succ]
      refine x_take (i := 4) (oi := { dst := some 18, op := Op.binOp BinOp.lss 3 (Operand.tmp 15) (Operand.tmp 17) 3, type := 4, pos := "tree.go:172", after := #[{ on := 1, ground := Ground.data }, { on := 3, ground := Ground.data }], guard := none }) (v := ?_) rfl (by kernel_rfl) (by kernel_rfl) (by kernel_rfl) (by kernel_rfl) (by kernel_rfl) (fun _ _ _ h => h) (Or.inl ⟨rfl, ?_⟩) (by assumption) ?_
      rotate_left
      · (intro w' hSw; replace q0 := kept_cell hSw q0; replace q1 := kept_cell hSw q1; replace q2 := kept_cell hSw q2; replace x0 := kept_cell hSw x0; go_simp; try with_reducible rfl)
      try simp only [Act.put, List.setIfInBounds_toArray, List.set_cons_zero, List.set_cons_succ]
      refine x_done (by kernel_rfl) ?_ _
      have o5 := (ot.kept k3).kept KK5
      have KW5 : Kept w w5 := kept_trans KW3 KK5
      have e0 := o5.cell (j := 0) rfl; have e1 := o5.cell (j := 1) rfl; have e2 := o5.cell (j := 2) rfl; have e3 := o5.cell (j := 3) rfl; have f0 := o5.frozen 0; have f1 := o5.frozen 1; have f2 := o5.frozen 2; have f3 := o5.frozen 3
      go_wp2_with fail
      have o3' := own_set4 o5 (.int .i64 0) (.int .i64 0) (.slice none 0 0) (.slice none 0 0)
      have pk := kept_set4 KW5 (show w.heap.size ≤ w.heap.size + 1 + 1 by omega) (.int .i64 0) (.int .i64 0) (.slice none 0 0) (.slice none 0 0)
      unfold set4 at o3' pk
      have r0 := o3'.cell (j := 0) rfl; have r1 := o3'.cell (j := 1) rfl; have r2 := o3'.cell (j := 2) rfl; have r3 := o3'.cell (j := 3) rfl
      exact bodyPost_ret (v := .tuple #[.agg #[.int .i64 0, .int .i64 0, .slice none 0 0, .slice none 0 0], .int .i64 2]) (by simp [results, Tryd.results23, go_sem, r0, r1, r2, r3]) rfl (by unfold FromPost; rw [if_neg (by rw [HS.out]; simp), if_pos HLT.out]; exact ⟨rfl, pk⟩)
    · have c1 : decide ((x.length : Int) < ip) = false := decide_eq_false (by omega)
      by_cases hdd : 7 < depF f
      · have c2 : decide ((6 : Int) < dp - 1) = true := decide_eq_true (by omega)
        have HD := Lib.hid hdd
        have HLT := Lib.hid hlt
        clear hs CV hW KW hck hcn hcl hr hX CI CN hlt hip hdp hdd
        go_enter Tryd.func23, Tryd.ntmps23
        go_upto_region 1 with fail
        rw [← HW.out]
        go_upto_region 3 with (go_at_call 41; ((with_reducible refine HC.out.mono ?_); rintro e w3 ⟨rfl, k3⟩; have of3 := of.kept k3; have ox3 := ox.kept k3; have q0 := of3.cell (j := 0) rfl; have q1 := of3.cell (j := 1) rfl; have q2 := of3.cell (j := 2) rfl; have x0 := ox3.cell (j := 0) rfl))
        have KW3 : Kept w w3 := kept_trans HKW.out k3
        obtain ⟨V, hV⟩ : ∃ V, V = w3 := ⟨_, rfl⟩
        rw [← hV] at KW3 of3 ox3 q0 q1 q2 x0 k3 ⊢
        clear hV
        refine region_x (fun w' => Kept V w') [] (by kernel_rfl) (kept_drew (kept_refl _)) (fun hHeld => ?_)
        refine x_take (i := 0) (oi := { dst := some 14, op := Op.load 49 (Operand.tmp 3), type := 49, pos := "tree.go:172", after := #[], guard := none }) (v := ?_) rfl (by kernel_rfl) (by kernel_rfl) (by kernel_rfl) (by kernel_rfl) (by kernel_rfl) (fun _ _ _ h => h) (Or.inl ⟨rfl, ?_⟩) (by assumption) ?_
        rotate_left
        · (intro w' hSw; replace q0 := kept_cell hSw q0; replace q1 := kept_cell hSw q1; replace q2 := kept_cell hSw q2; replace x0 := kept_cell hSw x0; go_simp; try with_reducible rfl)
        try simp only [Act.put, List.setIfInBounds_toArray, List.set_cons_zero, List.set_cons_succ]
        refine x_take (i := 1) (oi := { dst := some 15, op := Op.call { callee := Callee.builtin Builtin.len, args := #[Operand.tmp 14], argTypes := #[49] }, type := 3, pos := "tree.go:172", after := #[{ on := 0, ground := Ground.data }], guard := none }) (v := ?_) rfl (by kernel_rfl) (by kernel_rfl) (by kernel_rfl) (by kernel_rfl) (by kernel_rfl) (fun _ _ _ h => h) (Or.inl ⟨rfl, ?_⟩) (by assumption) ?_
        rotate_left
        · (intro w' hSw; replace q0 := kept_cell hSw q0; replace q1 := kept_cell hSw q1; replace q2 := kept_cell hSw q2; replace x0 := kept_cell hSw x0; go_simp; try with_reducible rfl)
        try simp only [Act.put, List.setIfInBounds_toArray, List.set_cons_zero, List.set_cons_succ]
        refine x_take (i := 2) (oi := { dst := some 16, op := Op.load 48 (Operand.tmp 2), type := 48, pos := "tree.go:172", after := #[], guard := none }) (v := ?_) rfl (by kernel_rfl) (by kernel_rfl) (by kernel_rfl) (by kernel_rfl) (by kernel_rfl) (fun _ _ _ h => h) (Or.inl ⟨rfl, ?_⟩) (by assumption) ?_
        rotate_left
        · (intro w' hSw; replace q0 := kept_cell hSw q0; replace q1 := kept_cell hSw q1; replace q2 := kept_cell hSw q2; replace x0 := kept_cell hSw x0; go_simp; try with_reducible rfl)
        try simp only [Act.put, List.setIfInBounds_toArray, List.set_cons_zero, List.set_cons_succ]
        refine x_one (i := 3) (o := { dst := some 17, op := Op.call { callee := Callee.value (Operand.func 42), args := #[Operand.tmp 16], argTypes := #[48] }, type := 3, pos := "tree.go:172", after := #[{ on := 2, ground := Ground.data }], guard := none }) (by kernel_rfl) rfl (fun K hK => ?_)
        (go_simp; go_at_call 42; (with_reducible refine (HI.out _ (kept_trans KW3 hHeld)).mono ?_); rintro e w5 ⟨rfl, k5⟩; have KK5 : Kept V w5 := kept_trans hHeld k5; try dsimp only)
        refine hK.out _ _ ?_ (fun hHeld => ?_)
        · (try dsimp only); repeat (first | assumption | exact kept_refl _ | refine kept_drew ?_ | refine kept_alloc ?_ _ | refine kept_set ?_ (by omega) _)
        clear hK K
        try simp only [Act.put, List.setIfInBounds_toArray, List.set_cons_zero, List.set_cons_succ]
        refine x_take (i := 4) (oi := { dst := some 18, op := Op.binOp BinOp.lss 3 (Operand.tmp 15) (Operand.tmp 17) 3, type := 4, pos := "tree.go:172", after := #[{ on := 1, ground := Ground.data }, { on := 3, ground := Ground.data }], guard := none }) (v := ?_) rfl (by kernel_rfl) (by kernel_rfl) (by kernel_rfl) (by kernel_rfl) (by kernel_rfl) (fun _ _ _ h => h) (Or.inl ⟨rfl, ?_⟩) (by assumption) ?_
        rotate_left
        · (intro w' hSw; replace q0 := kept_cell hSw q0; replace q1 := kept_cell hSw q1; replace q2 := kept_cell hSw q2; replace x0 := kept_cell hSw x0; go_simp; try with_reducible rfl)
        try simp only [Act.put, List.setIfInBounds_toArray, List.set_cons_zero, List.set_cons_succ]
        refine x_done (by kernel_rfl) ?_ _
        have o5 := (ot.kept k3).kept KK5
        have KW5 : Kept w w5 := kept_trans KW3 KK5
        have of5 := of3.kept KK5
        have q0 := of5.cell (j := 0) rfl; have q1 := of5.cell (j := 1) rfl; have q2 := of5.cell (j := 2) rfl
        go_wp2_with (go_at_call 43; ((with_reducible refine (HN.out _ KW5).mono ?_); rintro e w7 ⟨rfl, k7⟩; have o7 := o5.kept k7; have e0 := o7.cell (j := 0) rfl; have e1 := o7.cell (j := 1) rfl; have e2 := o7.cell (j := 2) rfl; have e3 := o7.cell (j := 3) rfl; have f0 := o7.frozen 0; have f1 := o7.frozen 1; have f2 := o7.frozen 2; have f3 := o7.frozen 3))
        have KW7 : Kept w w7 := kept_trans KW5 k7
        have o3' := own_set4 o7 (.int .i64 0) (.int .i64 0) (.slice none 0 0) (.slice none 0 0)
        have pk := kept_set4 KW7 (show w.heap.size ≤ w.heap.size + 1 + 1 by omega) (.int .i64 0) (.int .i64 0) (.slice none 0 0) (.slice none 0 0)
        unfold set4 at o3' pk
        have r0 := o3'.cell (j := 0) rfl; have r1 := o3'.cell (j := 1) rfl; have r2 := o3'.cell (j := 2) rfl; have r3 := o3'.cell (j := 3) rfl
        exact bodyPost_ret (v := .tuple #[.agg #[.int .i64 0, .int .i64 0, .slice none 0 0, .slice none 0 0], .int .i64 5]) (by simp [results, Tryd.results23, go_sem, r0, r1, r2, r3]) rfl (by unfold FromPost; rw [if_neg (by rw [HS.out]; simp), if_neg (by have := HLT.out; omega), if_pos HD.out]; exact ⟨rfl, pk⟩)
      · have hpos := depF_pos f
        obtain ⟨H, hH⟩ : ∃ H : Nat, H + 1 = depF f := ⟨depF f - 1, by omega⟩
        have hHd : dp = (H : Int) + 1 := by omega
        have hH6 : H ≤ 6 := by omega
        subst hHd
        have c2 : decide ((6 : Int) < (H : Int) + 1 - 1) = false := decide_eq_false (by omega)
        have c3 : decide (6 < H) = false := decide_eq_false (by omega)
        have HHd := Lib.hid hH
        have HD := Lib.hid hdd
        have HLT := Lib.hid hlt
        have HR := Lib.hid hr
        have HX := Lib.hid hX
        have HCK := Lib.hid (And.intro hck (And.intro hcn hcl))
        obtain ⟨N, hN⟩ : ∃ N : Nat, N = 2 ^ H := ⟨_, rfl⟩
        have hN1 : 1 ≤ N := by rw [hN]; exact Nat.two_pow_pos H
        have hN64 : N ≤ 64 := by rw [hN]; exact Nat.pow_le_pow_right (by omega) hH6
        have s1 : (2 : Int) ^ H = (N : Int) := by rw [hN]; simp
        have s2 : IntKind.i64.wrap (N : Int) = (N : Int) := IntWalk.i64_in _ (by omega)
        have s3 : min H 64 = H := by omega
        have s4 : IntKind.i64.wrap ((N : Int) - 1) = (N : Int) - 1 := IntWalk.i64_in _ (by omega)
        have HSH := Lib.hid (And.intro s1 (And.intro s2 (And.intro s3 s4)))
        have HNN := Lib.hid hN
        clear hs CV hW KW hck hcn hcl hr hX CI CN hlt hip hdp hdd hN s1 s2 s3 s4 hH hpos
        go_enter Tryd.func23, Tryd.ntmps23
        go_upto_region 1 with fail
        rw [← HW.out]
        go_upto_region 3 with (go_at_call 41; ((with_reducible refine HC.out.mono ?_); rintro e w3 ⟨rfl, k3⟩; have of3 := of.kept k3; have ox3 := ox.kept k3; have q0 := of3.cell (j := 0) rfl; have q1 := of3.cell (j := 1) rfl; have q2 := of3.cell (j := 2) rfl; have x0 := ox3.cell (j := 0) rfl))
        have KW3 : Kept w w3 := kept_trans HKW.out k3
        obtain ⟨V, hV⟩ : ∃ V, V = w3 := ⟨_, rfl⟩
        rw [← hV] at KW3 of3 ox3 q0 q1 q2 x0 k3 ⊢
        clear hV
        refine region_x (fun w' => Kept V w') [] (by kernel_rfl) (kept_drew (kept_refl _)) (fun hHeld => ?_)
        refine x_take (i := 0) (oi := { dst := some 14, op := Op.load 49 (Operand.tmp 3), type := 49, pos := "tree.go:172", after := #[], guard := none }) (v := ?_) rfl (by kernel_rfl) (by kernel_rfl) (by kernel_rfl) (by kernel_rfl) (by kernel_rfl) (fun _ _ _ h => h) (Or.inl ⟨rfl, ?_⟩) (by assumption) ?_
        rotate_left
        · (intro w' hSw; replace q0 := kept_cell hSw q0; replace q1 := kept_cell hSw q1; replace q2 := kept_cell hSw q2; replace x0 := kept_cell hSw x0; go_simp; try with_reducible rfl)
        try simp only [Act.put, List.setIfInBounds_toArray, List.set_cons_zero, List.set_cons_succ]
        refine x_take (i := 1) (oi := { dst := some 15, op := Op.call { callee := Callee.builtin Builtin.len, args := #[Operand.tmp 14], argTypes := #[49] }, type := 3, pos := "tree.go:172", after := #[{ on := 0, ground := Ground.data }], guard := none }) (v := ?_) rfl (by kernel_rfl) (by kernel_rfl) (by kernel_rfl) (by kernel_rfl) (by kernel_rfl) (fun _ _ _ h => h) (Or.inl ⟨rfl, ?_⟩) (by assumption) ?_
        rotate_left
        · (intro w' hSw; replace q0 := kept_cell hSw q0; replace q1 := kept_cell hSw q1; replace q2 := kept_cell hSw q2; replace x0 := kept_cell hSw x0; go_simp; try with_reducible rfl)
        try simp only [Act.put, List.setIfInBounds_toArray, List.set_cons_zero, List.set_cons_succ]
        refine x_take (i := 2) (oi := { dst := some 16, op := Op.load 48 (Operand.tmp 2), type := 48, pos := "tree.go:172", after := #[], guard := none }) (v := ?_) rfl (by kernel_rfl) (by kernel_rfl) (by kernel_rfl) (by kernel_rfl) (by kernel_rfl) (fun _ _ _ h => h) (Or.inl ⟨rfl, ?_⟩) (by assumption) ?_
        rotate_left
        · (intro w' hSw; replace q0 := kept_cell hSw q0; replace q1 := kept_cell hSw q1; replace q2 := kept_cell hSw q2; replace x0 := kept_cell hSw x0; go_simp; try with_reducible rfl)
        try simp only [Act.put, List.setIfInBounds_toArray, List.set_cons_zero, List.set_cons_succ]
        refine x_one (i := 3) (o := { dst := some 17, op := Op.call { callee := Callee.value (Operand.func 42), args := #[Operand.tmp 16], argTypes := #[48] }, type := 3, pos := "tree.go:172", after := #[{ on := 2, ground := Ground.data }], guard := none }) (by kernel_rfl) rfl (fun K hK => ?_)
        (go_simp; go_at_call 42; (with_reducible refine (HI.out _ (kept_trans KW3 hHeld)).mono ?_); rintro e w5 ⟨rfl, k5⟩; have KK5 : Kept V w5 := kept_trans hHeld k5; try dsimp only)
        refine hK.out _ _ ?_ (fun hHeld => ?_)
        · (try dsimp only); repeat (first | assumption | exact kept_refl _ | refine kept_drew ?_ | refine kept_alloc ?_ _ | refine kept_set ?_ (by omega) _)
        clear hK K
        try simp only [Act.put, List.setIfInBounds_toArray, List.set_cons_zero, List.set_cons_succ]
        refine x_take (i := 4) (oi := { dst := some 18, op := Op.binOp BinOp.lss 3 (Operand.tmp 15) (Operand.tmp 17) 3, type := 4, pos := "tree.go:172", after := #[{ on := 1, ground := Ground.data }, { on := 3, ground := Ground.data }], guard := none }) (v := ?_) rfl (by kernel_rfl) (by kernel_rfl) (by kernel_rfl) (by kernel_rfl) (by kernel_rfl) (fun _ _ _ h => h) (Or.inl ⟨rfl, ?_⟩) (by assumption) ?_
        rotate_left
        · (intro w' hSw; replace q0 := kept_cell hSw q0; replace q1 := kept_cell hSw q1; replace q2 := kept_cell hSw q2; replace x0 := kept_cell hSw x0; go_simp; try with_reducible rfl)
        try simp only [Act.put, List.setIfInBounds_toArray, List.set_cons_zero, List.set_cons_succ]
        refine x_done (by kernel_rfl) ?_ _
        have o5 := (ot.kept k3).kept KK5
        have KW5 : Kept w w5 := kept_trans KW3 KK5
        have of5 := of3.kept KK5
        have ox5 := ox3.kept KK5
        have q0 := of5.cell (j := 0) rfl; have q1 := of5.cell (j := 1) rfl; have q2 := of5.cell (j := 2) rfl
        go_upto_region 8 with (go_at_call 43; ((with_reducible refine (HN.out _ KW5).mono ?_); rintro e w7 ⟨rfl, k7⟩))
        obtain ⟨s1, s2, s3, s4⟩ := HSH.out
        have t1 := fun W => make_ints N (by omega) W
        have t2 := fun W => make23 (N - 1) (by omega) W
        rw [show (((N - 1 : Nat) : Int)) = (N : Int) - 1 by omega] at t2
        have kw7 : Kept w w7 := kept_trans KW5 k7
        have of7 := of5.kept k7; have ox7 := ox5.kept k7; have o7 := o5.kept k7
        go_cut [7] (fun s7 wx => ∃ tB lB TB : Nat, s7 = .pointer (some ⟨tB, 0, none⟩) ∧ w7.heap.size ≤ tB ∧ w7.heap.size ≤ lB ∧ w7.heap.size ≤ TB ∧ Own wx tB 25 [.int .i64 H, .int .i64 1, .slice (some ⟨lB, 0, none⟩) N N, .slice (some ⟨TB, 0, none⟩) (N - 1) (N - 1)] ∧ Own wx lB 3 (ints (List.replicate N 0)) ∧ Own wx TB 22 (List.replicate (N - 1) (.slice none 0 0)) ∧ Kept w7 wx)
        case first =>
          go_region
          all_goals
            go_wp2_with fail
            go_meet
            apply Exists.intro; apply Exists.intro; apply Exists.intro
            refine ⟨rfl, ?_, ?_, ?_, ?_, ?_, ?_, ?_⟩
            rotate_left 3
            · repeat (first | refine Own.drew ?_ | exact own_new_eq (by simp) rfl | refine Own.alloc ?_ _)
            · repeat (first | refine Own.drew ?_ | exact own_new_eq (by simp) rfl | refine Own.alloc ?_ _)
            · repeat (first | refine Own.drew ?_ | exact own_new_eq (by simp) (by simp) | refine Own.alloc ?_ _)
            · repeat (first | exact kept_refl _ | refine kept_drew ?_ | refine kept_alloc ?_ _)
            all_goals omega
        case rest =>
          obtain ⟨tB, lB, TB, rfl, z1, z2, z3, p1, p2, p3, pk⟩ := hcut
          obtain ⟨M, hM⟩ : ∃ M, M = N - 1 := ⟨_, rfl⟩
          rw [← hM] at p1 p3
          have hM63 : M ≤ 63 := by omega
          have oF := of7.kept pk; have oX := ox7.kept pk; have oR := o7.kept pk
          have KC : Kept w wc := kept_trans kw7 pk
          have HMM := Lib.hid hM
          have zc1 : tB < wc.heap.size := p1.lt
          have zc2 : lB < wc.heap.size := p2.lt
          have zc3 : TB < wc.heap.size := p3.lt
          have zw7 : w.heap.size ≤ w7.heap.size := kw7.size
          have e3 := p1.cell (j := 3) rfl
          clear t1 t2 s1 s2 s3 s4 q0 q1 q2 x0 of7 ox7 o7 of5 ox5 o5 KW5 KK5 k7 k5 k3 of3 ox3 KW3 of ox ot kw7 hM pk c2 c3
          go_wp2_with fail
          go_loopg [38] M (fun g' s38 wr => ∃ (j : Nat) (bs : List Nat), j ≤ M ∧ g' = M - j ∧ s38 = .int .i64 j ∧ bs.length = j ∧ Own wr TB 22 (bs.map rowV ++ List.replicate (M - j) (.slice none 0 0)) ∧ (∀ i, i < j → wc.heap.size ≤ bs.getD i 0 ∧ Own wr (bs.getD i 0) 3 (ints [0, 0, 1, 1])) ∧ Own wr tB 25 [.int .i64 H, .int .i64 1, .slice (some ⟨lB, 0, none⟩) N N, .slice (some ⟨TB, 0, none⟩) M M] ∧ Own wr lB 3 (ints (List.replicate N 0)) ∧ Own wr w.heap.size 48 [.int .i64 ck, .int .i64 cn, .slice A cl c] ∧ Own wr (w.heap.size + 1) 49 [.slice X x.length cx] ∧ Own wr (w.heap.size + 1 + 1) 25 [.int .i64 0, .int .i64 0, .slice none 0 0, .slice none 0 0] ∧ Kept w wr ∧ wc.heap.size ≤ wr.heap.size)
          case atStart => exact ⟨0, [], by omega, rfl, rfl, rfl, by simpa using p3, fun i hi => by omega, p1, p2, oF, oX, oR, KC, Nat.le_refl _⟩
          case round =>
            clear p1 p2 p3 oF oX oR KC e3
            obtain ⟨j, bs, hj, rfl, rfl, hbs, p3, hrows, p1, p2, oF, oX, oR, KC, zr⟩ := hrel
            have e3 := p1.cell (j := 3) rfl
            by_cases hlt : j < M
            · have g0 : (0 : Int) ≤ (j : Int) := by omega
              have g1 : (j : Int) < (M : Int) := by omega
              have p3a := p3.alloc (.cells #[.int .i64 0, .int .i64 0, .int .i64 1, .int .i64 1] 3)
              have x0 := p3a.cell (j := j) (v := .slice none 0 0) (by have := app_get (bs.map rowV) (M - j) (.slice none 0 0) (by omega); rwa [List.length_map, hbs] at this)
              have f0 := p3a.frozen j
              have z3' := p3.lt
              have HB := Lib.hid hbs
              have HROW := Lib.hid hrows
              clear hbs hrows
              go_wp2_with fail
              go_roundg (M - (j + 1))
              case rel => exact ⟨j + 1, bs ++ [wr.heap.size], by omega, rfl, by go_num, by simp [HB.out], fill_step p3 HB.out hlt _, rows_step HROW.out HB.out zr p3, (p1.other (own_ne p1 p3 (by decide)) _).alloc _, (p2.other (own_ne p2 p3 (by decide)) _).alloc _, (oF.other (own_ne oF p3 (by decide)) _).alloc _, (oX.other (own_ne oX p3 (by decide)) _).alloc _, (oR.other (own_ne oR p3 (by decide)) _).alloc _, kept_alloc (kept_set KC (by omega) _) _, by simp; omega⟩
              case measure => omega
            · have : j = M := by omega
              subst this
              rw [Nat.sub_self, List.replicate_zero, List.append_nil] at p3
              have zr2 : w.heap.size + 1 + 1 < wr.heap.size := oR.lt
              have hj2 : j = 2 ^ H - 1 := by rw [HMM.out, HNN.out]
              have hN2 := HNN.out
              obtain ⟨fnv, hfnv⟩ : ∃ fnv, fnv = Value.func (.func 44) #[] #[.pointer (some ⟨tB, 0, none⟩), .pointer (some ⟨w.heap.size + 1, 0, none⟩), .pointer (some ⟨wr.heap.size, 0, none⟩)] := ⟨_, rfl⟩
              have ka : Kept wr (wr.alloc (.cells #[fnv] 75)) := kept_alloc (kept_refl wr) _
              obtain ⟨q, hq⟩ : ∃ q : Pl, q = ⟨tB, lB, TB, wr.heap.size, w.heap.size + 1, wc.heap.size, H, X, x, cx⟩ := ⟨_, rfl⟩
              have ps : PS q (fresh0 H) (wr.alloc (.cells #[fnv] 75)) := by
                subst hq
                refine ⟨?_, ?_, ⟨bs, ?_, p3.kept ka, ?_⟩, ?_, oX.kept ka, zc2⟩
                · simp only [fresh0, List.length_replicate]; rw [← hN2, ← HMM.out]; exact p1.kept ka
                · simp only [fresh0]; rw [← hN2]; exact p2.kept ka
                · simp only [fresh0, List.length_replicate]; rw [hbs, hj2]
                · intro i hi
                  simp only [fresh0, List.length_replicate] at hi
                  have h1 := hrows i (by omega)
                  have e : (fresh0 H).2.getD i [] = [0, 0, 1, 1] := by simp [fresh0, List.getD_eq_getElem?_getD, List.getElem?_replicate, hi]
                  rw [e]
                  exact ⟨h1.1, rfl, h1.2.kept ka⟩
                · unfold Pl.fn; rw [← hfnv]; exact Own.new wr 75 [fnv]
              have CP := put44_any (q := q) (w0 := w) hH6 (by rw [hq]; exact HX.out) (by rw [hq]; dsimp only; omega) (by rw [hq]; dsimp only; omega) (H + 1) H 0 f A c (fresh0 H) (wr.alloc (.cells #[fnv] 75)) (Nat.le_refl _) (lev_root H) (by rw [← HHd.out]; exact Nat.le_refl _) HS.out (by rw [hq]; exact HLT.out) HR.out (kept_trans KC ka) (by rw [hq]; exact Nat.le_trans zr ka.size) (by simp [fresh0]) (by simp [fresh0]) ps
              unfold fmV at CP
              rw [← HCK.out.1, ← HCK.out.2.1, ← HCK.out.2.2] at CP
              have hqt : q.t = tB := by rw [hq]
              have hqx : q.x = w.heap.size + 1 := by rw [hq]
              have hqp : q.p = wr.heap.size := by rw [hq]
              have hql : w.heap.size ≤ q.l := by rw [hq]; dsimp only; omega
              have hqT : w.heap.size ≤ q.T := by rw [hq]; dsimp only; omega
              rw [hqt, hqx, hqp, show ((0 : Nat) : Int) = 0 from rfl] at CP
              have p0 := (Own.new wr 75 [fnv]).cell (j := 0) rfl
              have oFa := oF.kept ka
              have oRa := oR.kept ka
              have q0 := oFa.cell (j := 0) rfl; have q1 := oFa.cell (j := 1) rfl; have q2 := oFa.cell (j := 2) rfl
              have nl := own_ne oRa ps.l (by decide)
              have nT : w.heap.size + 1 + 1 ≠ q.T := by obtain ⟨_, _, hT', _⟩ := ps.T; exact own_ne oRa hT' (by decide)
              rw [hfnv] at CP p0 oFa oRa q0 q1 q2 ka
              have HCP := Lib.hid CP
              have HPS := Lib.hid ps
              have HQ := Lib.hid hq
              have HKA := Lib.hid ka
              clear CP ps hq ka hfnv hrows hbs p1 p2 p3 oF oX oR e3
              go_wp2_with (go_at_call 44; (with_reducible refine HCP.out.mono ?_); rintro e w9 ⟨rfl, ps9, kq9⟩; have T9 := ps9.t; rw [hqt] at T9; have t0 := T9.cell (j := 0) rfl; have t1 := T9.cell (j := 1) rfl; have t2 := T9.cell (j := 2) rfl; have t3 := T9.cell (j := 3) rfl; have oR9 := oRa.kq kq9 nl nT; have e0 := oR9.cell (j := 0) rfl; have e1 := oR9.cell (j := 1) rfl; have e2 := oR9.cell (j := 2) rfl; have e3 := oR9.cell (j := 3) rfl; have f0 := oR9.frozen 0; have f1 := oR9.frozen 1; have f2 := oR9.frozen 2; have f3 := oR9.frozen 3)
              obtain ⟨s', hs'⟩ : ∃ s', s' = putN (xs q.xs) (fresh0 H).2.length (H + 1) f 0 (fresh0 H) := ⟨_, rfl⟩
              rw [← hs'] at ps9 ⊢
              have hqh : q.h = (H : Int) := by rw [HQ.out]
              have hqs : q.xs = x := by rw [HQ.out]
              rw [hqh]
              have g := root_fact (x := xs x) (k := H + 1) (H := H) (f := f) (Nat.le_refl _) (by rw [← HHd.out]; exact Nat.le_refl _) HS.out hH6
              rw [show (2 ^ H - 1) = (fresh0 H).2.length by simp [fresh0], ← hqs, ← hs'] at g
              have o3' := own_set4 oR9 (.int .i64 H) (.int .i64 1) (.slice (some ⟨q.l, 0, none⟩) s'.1.length s'.1.length) (.slice (some ⟨q.T, 0, none⟩) s'.2.length s'.2.length)
              have KW9 : Kept w w9 := kept_kq (kept_trans KC HKA.out) kq9 hql hqT
              have pk := kept_set4 KW9 (show w.heap.size ≤ w.heap.size + 1 + 1 by omega) (.int .i64 H) (.int .i64 1) (.slice (some ⟨q.l, 0, none⟩) s'.1.length s'.1.length) (.slice (some ⟨q.T, 0, none⟩) s'.2.length s'.2.length)
              obtain ⟨bs9, b1, b2, b3⟩ := ps9.T
              have hl9 := (ps9.l.set4 (g := w.heap.size + 1 + 1) (own_ne ps9.l oR9 (by decide)) (.int .i64 H) (.int .i64 1) (.slice (some ⟨q.l, 0, none⟩) s'.1.length s'.1.length) (.slice (some ⟨q.T, 0, none⟩) s'.2.length s'.2.length)).rd
              have hT9 : RT (set4 w9 (w.heap.size + 1 + 1) (.int .i64 H) (.int .i64 1) (.slice (some ⟨q.l, 0, none⟩) s'.1.length s'.1.length) (.slice (some ⟨q.T, 0, none⟩) s'.2.length s'.2.length)) (some ⟨q.T, 0, none⟩) s'.2 := by
                intro j hj
                have h4 := (b3 j hj).2.1
                refine ⟨q.T, 0, some ⟨bs9.getD j 0, 0, none⟩, 4, rfl, ?_, ?_, by rw [h4]; omega⟩
                · rw [h4, Nat.zero_add]
                  exact (b2.set4 (g := w.heap.size + 1 + 1) (own_ne b2 oR9 (by decide)) _ _ _ _).cell (bs_get (by rw [b1]; exact hj))
                · exact ((b3 j hj).2.2.set4 (g := w.heap.size + 1 + 1) (own_ne (b3 j hj).2.2 oR9 (by decide)) _ _ _ _).rd
              unfold set4 at o3' pk hl9 hT9
              have r0 := o3'.cell (j := 0) rfl; have r1 := o3'.cell (j := 1) rfl; have r2 := o3'.cell (j := 2) rfl; have r3 := o3'.cell (j := 3) rfl
              exact bodyPost_ret (v := .tuple #[.agg #[.int .i64 H, .int .i64 1, .slice (some ⟨q.l, 0, none⟩) s'.1.length s'.1.length, .slice (some ⟨q.T, 0, none⟩) s'.2.length s'.2.length], .int .i64 0]) (by simp [results, Tryd.results23, go_sem, r0, r1, r2, r3]) rfl (by
                unfold FromPost
                rw [if_neg (by rw [HS.out]; simp), if_neg (by have := HLT.out; omega), if_neg HD.out]
                exact ⟨mkT H s', some ⟨q.l, 0, none⟩, s'.1.length, some ⟨q.T, 0, none⟩, s'.2.length, rfl, pk, hl9, hT9, by simp only [mkT]; have := HHd.out; omega, rfl, g.1, by rw [← hqs]; exact g.2⟩)
end Go.Proofs.YtikfeemmjfoffaaDoor
