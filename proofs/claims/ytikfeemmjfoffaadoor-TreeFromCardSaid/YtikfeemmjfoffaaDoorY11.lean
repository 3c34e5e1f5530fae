/- Trees of formulas: the walk of From's function literal (printed by genY11.py). -/
import Derived.Test.YtikfeemmjfoffaaDoorY10
set_option linter.unusedVariables false
set_option linter.unusedSimpArgs false
namespace Go.Proofs.YtikfeemmjfoffaaDoor
open Go.RowKit
open Go.Maps (Keyed)

def heldR (v : Value) : Option (DataW Value × List MemPlace) := some (.held v, [])
theorem held_inj {a b : Value} (h : (DataW.held a : DataW Value) = .held b) : b = a := by injection h with h; exact h.symm
theorem zero22w (w : World) : (zeroValue 22).run Tryd.prog w = .ok (.slice none 0 0) w := by kernel_rfl
theorem wpList_lookup_held {P : Program} (w : World) {ops : Array Oper} {rest : List Oper} {o : Oper} {a : Act} {Q : Exit → Act → World → Prop}
    (hg : o.guard = none) (m x : Operand) (t : TypeId) (hop : o.op = Op.lookup t m x false)
    (k e : TypeId) (K : Keyed P k) (ht : P.underlying t = some (.map k e)) {z : Value} (hz : (zeroValue e).run P w = .ok z w) (b n : Nat) (D : DataW Value)
    (hm : a.eval m = .map (some b)) (hown : w.ownsMap P k heldR b n D) (key : Value) (kl : Lit) (hx : a.eval x = key) (hkey : keyOf P k key = some kl)
    (hK : ∀ v : Value, D.atKey kl (.held z) = .held v → wpList P ops Q rest (a.put o.dst v) w) :
    wpList P ops Q (o :: rest) a w := by
  refine wpList_plain hg fun K' hK' => ?_
  obtain ⟨v, ps, hrun, hv⟩ := hown.lookup K ht hz (zd := .held z) (zp := []) rfl hkey
  unfold Oper.wp
  simp [execOp, hop, hm, hx, hrun, Result.andThen]
  refine hK' _ _ (hK v ?_)
  unfold heldR at hv
  injection hv with hv
  injection hv with hv _
  exact hv.symm

/-- Rows of numbers behind block M. -/
def RowsIn (M : Nat) (w : World) (l : List (Nat × List Int)) : Prop := ∀ p ∈ l, M < p.1 ∧ Own w p.1 3 (ints p.2)
theorem RowsIn.grown {M : Nat} {w w' : World} {l : List (Nat × List Int)} (h : RowsIn M w l) (k : w.grownBy w' (some M)) : RowsIn M w' l :=
  fun p hp => ⟨(h p hp).1, (h p hp).2.grown k (by intro e; injection e with e; have := (h p hp).1; omega)⟩
theorem RowsIn.new {M : Nat} {w : World} {l : List (Nat × List Int)} (h : RowsIn M w l) (hM : M < w.heap.size) (r : List Int) : RowsIn M (w.alloc (.cells (ints r).toArray 3)) ((w.heap.size, r) :: l) :=
  fun p hp => by
    rcases List.mem_cons.1 hp with rfl | hp
    · exact ⟨hM, Own.new w 3 (ints r)⟩
    · exact ⟨(h p hp).1, (h p hp).2.alloc _⟩
theorem kept_map {W a b : World} (hK : Kept W a) (h : a.grownBy b (some W.heap.size)) : Kept W b := hK.grown h hK.size (fun k e => by cases e; exact Nat.le_refl _)
def bK (k : Int) (b2 b3 b4 b5 : Nat) : Nat := if k = 2 then b2 else if k = 3 then b3 else if k = 4 then b4 else b5
theorem tab_at {k : Int} (h : k = 2 ∨ k = 3 ∨ k = 4 ∨ k = 5) {b2 b3 b4 b5 : Nat} {z : DataW Value} :
    (((((DataW.map [] : DataW Value).put (.int .i64 2) (.held (rowV b2))).put (.int .i64 3) (.held (rowV b3))).put (.int .i64 4) (.held (rowV b4))).put (.int .i64 5) (.held (rowV b5))).atKey (.int .i64 k) z = .held (.slice (some ⟨bK k b2 b3 b4 b5, 0, none⟩) 4 4) := by
  rcases h with rfl | rfl | rfl | rfl <;> rfl
theorem row_of {k : Int} (h : k = 2 ∨ k = 3 ∨ k = 4 ∨ k = 5) {b2 b3 b4 b5 M : Nat} {w : World} (hr : RowsIn M w [(b5, [0, 1, 1, 0]), (b4, [0, 1, 1, 1]), (b3, [0, 0, 0, 1]), (b2, [1, 1, 0, 0])]) :
    M < bK k b2 b3 b4 b5 ∧ Own w (bK k b2 b3 b4 b5) 3 (ints (tabK k)) := by
  rcases h with rfl | rfl | rfl | rfl
  · exact hr (b2, [1, 1, 0, 0]) (by simp)
  · exact hr (b3, [0, 0, 0, 1]) (by simp)
  · exact hr (b4, [0, 1, 1, 1]) (by simp)
  · exact hr (b5, [0, 1, 1, 0]) (by simp)
theorem bs_get {bs : List Nat} {n : Nat} (h : n < bs.length) : (bs.map rowV)[n]? = some (.slice (some ⟨bs.getD n 0, 0, none⟩) 4 4) := by
  simp [rowV, List.getD_eq_getElem?_getD, h]

def PutPost (q : Pl) (s' : LT) (w : World) (e : Ending) (w' : World) : Prop := e = .returned (.tuple #[]) ∧ PS q s' w' ∧ KQ q.l q.T w w'
def PutCall (q : Pl) (w0 : World) (H k : Nat) : Prop :=
  ∀ (e n : Nat) (f : Fm) (A : Option Addr) (c : Nat) (s : LT) (w : World), e + 1 ≤ k → Lev H e n → depF f ≤ e + 1 → shpF f = true → inpF f ≤ q.xs.length → RK w0 A f.l → Kept w0 w → s.2.length = 2 ^ H - 1 → s.1.length = 2 ^ H → PS q s w →
    Calls Tryd.prog 44 #[fmV f A c, .int .i64 n, .pointer (some ⟨q.t, 0, none⟩), .pointer (some ⟨q.x, 0, none⟩), .pointer (some ⟨q.p, 0, none⟩)] w (PutPost q (putN (xs q.xs) (2 ^ H - 1) k f n s) w)

/- At a leaf. -/
set_option maxRecDepth 100000 in
set_option maxHeartbeats 1000000 in
theorem put44_leaf {q : Pl} {w0 : World} {m n : Nat} {f : Fm} {A : Option Addr} {c : Nat} {s : LT} {w : World} (k : Nat) (hX : Rd w0 q.X (bools q.xs)) (hn0 : s.2.length ≤ n) (hn1 : n < s.2.length + s.1.length) (hm : s.2.length ≤ 200) (hm1 : s.1.length ≤ 200)
    (hf : (∃ v : Nat, f = .mk 0 v [] ∧ v < q.xs.length) ∨ f = .mk 1 0 [] ∨ f = .mk 1 1 []) (kw : Kept w0 w) (ps : PS q s w) :
    Calls Tryd.prog 44 #[fmV f A c, .int .i64 n, .pointer (some ⟨q.t, 0, none⟩), .pointer (some ⟨q.x, 0, none⟩), .pointer (some ⟨q.p, 0, none⟩)] w (PutPost q (if one1 (xs q.xs) f = true then (s.1.set (n - s.2.length) 1, s.2) else s) w) := by
  have hfl : f.l = [] := by rcases hf with ⟨v, rfl, _⟩ | rfl | rfl <;> rfl
  unfold fmV
  rw [hfl]
  obtain ⟨W, hW⟩ : ∃ W, W = w.alloc (.cells #[.int .i64 f.k, .int .i64 f.n, .slice A 0 c] 48) := ⟨_, rfl⟩
  have o0 : Own W w.heap.size 48 [.int .i64 f.k, .int .i64 f.n, .slice A 0 c] := by rw [hW]; exact Own.new w 48 _
  have KW : Kept w W := by rw [hW]; exact kept_alloc (kept_refl w) _
  replace ps := ps.kept KW
  have q0 := o0.cell (j := 0) rfl
  have q1 := o0.cell (j := 1) rfl
  have e2 := ps.t.cell (j := 2) rfl
  have e3 := ps.t.cell (j := 3) rfl
  have g0 := ps.x.cell (j := 0) rfl
  obtain ⟨m, hmm⟩ : ∃ m, m = s.2.length := ⟨_, rfl⟩
  obtain ⟨M, hMM⟩ : ∃ M, M = s.1.length := ⟨_, rfl⟩
  rw [← hmm] at e3 hn0 hn1 hm ⊢
  rw [← hMM] at e2 hn1 hm1
  have hlt : n - m < s.1.length := by omega
  have l0 : W.cell? ⟨q.l, n - m, none⟩ = some (.int .i64 (ia s.1 (n - m))) := ps.l.int hlt
  have f0 := ps.l.frozen (n - m)
  have c1 : decide ((m : Int) ≤ (n : Int)) = true := decide_eq_true (by omega)
  have c2 : decide (m ≤ n) = true := decide_eq_true hn0
  obtain ⟨d, hd⟩ : ∃ d, d = n - m := ⟨_, rfl⟩
  have hsub : (n : Int) - (m : Int) = (d : Int) := by omega
  have hd1 : (d : Int) < (M : Int) := by omega
  have hd0 : (0 : Int) ≤ (d : Int) := by omega
  rw [← hd] at l0 f0 ⊢
  have HH := Lib.hid (And.intro hmm (And.intro hMM hd))
  have HO := Lib.hid o0
  have HPS := Lib.hid ps
  have HW := Lib.hid hW
  have HKW := Lib.hid KW
  clear hmm hMM hd hlt o0 ps hW KW hfl
  rcases hf with ⟨v, rfl, hv⟩ | rfl | rfl
  · have hx := hX.kept (kept_trans kw HKW.out)
    obtain ⟨bx, ox, ex, hxc⟩ := hx.bool hv
    have x0 := hxc v hv
    rw [ex] at g0
    have hv1 : (v : Int) < (q.xs.length : Int) := by omega
    have hv0 : (0 : Int) ≤ (v : Int) := by omega
    have ho : one1 (xs q.xs) (.mk 0 v []) = ba q.xs v := by simp [one1, Fm.k, Fm.n, xs]
    rw [ho]
    try simp only [Fm.k, Fm.n] at q0 q1
    clear hx hxc ho hX
    cases hb : ba q.xs v with
    | true =>
      rw [hb] at x0
      go_enter Tryd.func44, Tryd.ntmps44
      go_upto_region 1 with fail
      rw [← HW.out]
      go_wp2_with fail
      go_end0
      refine ⟨rfl, ?_, kq_l (kq_of HKW.out) _ _⟩
      first | exact HPS.out.leaf d | (rw [if_pos rfl]; exact HPS.out.leaf d)
    | false =>
      rw [hb] at x0
      go_enter Tryd.func44, Tryd.ntmps44
      go_upto_region 1 with fail
      rw [← HW.out]
      go_wp2_with fail
      go_end0
      refine ⟨rfl, ?_, kq_of HKW.out⟩
      first | exact HPS.out | (rw [if_neg (by simp)]; exact HPS.out)
  · try simp only [Fm.k, Fm.n] at q0 q1
    go_enter Tryd.func44, Tryd.ntmps44
    go_upto_region 1 with fail
    rw [← HW.out]
    go_wp2_with fail
    go_end0
    refine ⟨rfl, ?_, kq_of HKW.out⟩
    first | exact HPS.out | (rw [if_neg (by simp [one1, Fm.k, Fm.n])]; exact HPS.out)
  · try simp only [Fm.k, Fm.n] at q0 q1
    go_enter Tryd.func44, Tryd.ntmps44
    go_upto_region 1 with fail
    rw [← HW.out]
    go_wp2_with fail
    go_end0
    refine ⟨rfl, ?_, kq_l (kq_of HKW.out) _ _⟩
    first | exact HPS.out.leaf d | (rw [if_pos (by simp [one1, Fm.k, Fm.n])]; exact HPS.out.leaf d)

/- A formula without kids, above the leaves. -/
set_option maxRecDepth 100000 in
set_option maxHeartbeats 1000000 in
theorem put44_down {q : Pl} {w0 : World} {n : Nat} {f : Fm} {A : Option Addr} {c : Nat} {s s' : LT} {w : World} (hn0 : n < s.2.length) (hm : s.2.length ≤ 200) (hf : f.l = []) (kw : Kept w0 w) (ps : PS q s w)
    (hC : ∀ w1, Kept w0 w1 → w.heap.size ≤ w1.heap.size → PS q s w1 → Calls Tryd.prog 44 #[fmV f A c, .int .i64 (2 * (n : Int) + 1), .pointer (some ⟨q.t, 0, none⟩), .pointer (some ⟨q.x, 0, none⟩), .pointer (some ⟨q.p, 0, none⟩)] w1 (PutPost q s' w1)) :
    Calls Tryd.prog 44 #[fmV f A c, .int .i64 n, .pointer (some ⟨q.t, 0, none⟩), .pointer (some ⟨q.x, 0, none⟩), .pointer (some ⟨q.p, 0, none⟩)] w (PutPost q s' w) := by
  unfold fmV at hC ⊢
  rw [hf] at hC ⊢
  simp only [List.length_nil] at hC ⊢
  obtain ⟨W, hW⟩ : ∃ W, W = w.alloc (.cells #[.int .i64 f.k, .int .i64 f.n, .slice A 0 c] 48) := ⟨_, rfl⟩
  have o0 : Own W w.heap.size 48 [.int .i64 f.k, .int .i64 f.n, .slice A 0 c] := by rw [hW]; exact Own.new w 48 _
  have KW : Kept w W := by rw [hW]; exact kept_alloc (kept_refl w) _
  replace ps := ps.kept KW
  have C := hC W (kept_trans kw KW) KW.size ps
  have q0 := o0.cell (j := 0) rfl
  have q1 := o0.cell (j := 1) rfl
  have q2 := o0.cell (j := 2) rfl
  have e3 := ps.t.cell (j := 3) rfl
  have p0 := ps.p.cell (j := 0) rfl
  unfold Pl.fn at p0
  obtain ⟨m, hmm⟩ : ∃ m, m = s.2.length := ⟨_, rfl⟩
  rw [← hmm] at e3 hn0 hm
  have c1 : decide ((m : Int) ≤ (n : Int)) = false := decide_eq_false (by omega)
  have c2 : decide (m ≤ n) = false := decide_eq_false (by omega)
  have HW := Lib.hid hW
  have HC := Lib.hid C
  have HKW := Lib.hid KW
  clear hmm hC C o0 ps hW KW hf
  go_enter Tryd.func44, Tryd.ntmps44
  go_upto_region 1 with fail
  rw [← HW.out]
  go_wp2_with (go_at_call 44; (with_reducible refine HC.out.mono ?_); rintro e w3 ⟨rfl, ps3, kq3⟩)
  go_end0
  exact ⟨rfl, ps3, kq_trans (kq_of HKW.out) kq3⟩
end Go.Proofs.YtikfeemmjfoffaaDoor
