/- Spoil of a formula: the walk. -/
import Derived.Test.YtinpmdekdfgiiaaT3
import Derived.Test.YtinpmdekdfgiiaaS3
set_option linter.unusedVariables false
set_option linter.unusedSimpArgs false
namespace Go.Proofs.Ytinpmdekdfgiiaa
open Go.RowKit

theorem SR.chg {w w' : World} {lo hi lo' hi' d : Nat} {A : Option Addr} {m : Nat} (h : SR w lo hi d A m) (k : Chg lo' hi' w w') (hd : hi ≤ lo' ∨ hi' ≤ lo) : SR w' lo hi d A m := by
  induction h with
  | nil d => exact .nil _
  | one hb o _ ih => exact .one hb (o.chg k (by omega)) ih
  | two hb o _ _ ih ih2 => exact .two hb (o.chg k (by omega)) ih ih2
theorem TR.rkp {w : World} {base : Nat} {A : Option Addr} {c : Nat} {l : List Fm} (h : TR w base A c l) : RKp w (fun b => base ≤ b ∧ b < w.heap.size) A l := by
  induction h with
  | nil => exact .nil _
  | one hb o hl _ ih => exact .cons ⟨hb, o.lt⟩ (o.cell (j := 0) rfl) (o.cell (j := 1) rfl) (o.cell (j := 2) rfl) hl ih (.nil _)
  | two hb o hl hl2 _ _ ih ih2 => exact .cons ⟨hb, o.lt⟩ (o.cell (j := 0) rfl) (o.cell (j := 1) rfl) (o.cell (j := 2) rfl) hl ih (.cons ⟨hb, o.lt⟩ (o.cell (j := 3) rfl) (o.cell (j := 4) rfl) (o.cell (j := 5) rfl) hl2 ih2 (.nil _))
theorem SR.kept {w w' : World} {lo hi d : Nat} {A : Option Addr} {m : Nat} (h : SR w lo hi d A m) (k : Kept w w') : SR w' lo hi d A m := h.spd (spd_kept k)
section
variable {w : World} {lo hi d b m : Nat}
theorem sr_hb (h : SR w lo hi d (some ⟨b, 0, none⟩) m) : lo ≤ b ∧ b < hi := by
  cases h with
  | one hb o h => exact hb
  | two hb o h h2 => exact hb
theorem sr_kid (h : SR w lo hi (d + 1) (some ⟨b, 0, none⟩) m) {i : Nat} (hi' : i < m) : ∃ k n A' m', w.cell? ⟨b, i * 3, none⟩ = some (.int .i64 k) ∧ w.cell? ⟨b, i * 3 + 1, none⟩ = some (.int .i64 n) ∧ w.cell? ⟨b, i * 3 + 2, none⟩ = some (.slice A' m' m') ∧ SR w lo hi d A' m' := by
  cases h with
  | one hb o h =>
    obtain rfl : i = 0 := by omega
    exact ⟨_, _, _, _, o.cell (j := 0) rfl, o.cell (j := 1) rfl, o.cell (j := 2) rfl, h⟩
  | two hb o h h2 =>
    rcases (show i = 0 ∨ i = 1 by omega) with rfl | rfl
    · exact ⟨_, _, _, _, o.cell (j := 0) rfl, o.cell (j := 1) rfl, o.cell (j := 2) rfl, h⟩
    · exact ⟨_, _, _, _, o.cell (j := 3) rfl, o.cell (j := 4) rfl, o.cell (j := 5) rfl, h2⟩
theorem sr_leaf (h : SR w lo hi (d + 1) (some ⟨b, 0, none⟩) m) {i : Nat} (hi' : i < m) : Spd lo hi w (leaf3 w b (i * 3)) := by
  cases h with
  | one hb o h =>
    obtain rfl : i = 0 := by omega
    exact spd_leaf1 o hb
  | two hb o h h2 =>
    rcases (show i = 0 ∨ i = 1 by omega) with rfl | rfl
    · exact (spd_leaf2 o hb).1
    · exact (spd_leaf2 o hb).2
theorem sr_free (h : SR w lo hi d (some ⟨b, 0, none⟩) m) (j : Nat) : w.frozen? ⟨b, j, none⟩ = false := by
  cases h with
  | one hb o h => exact o.frozen j
  | two hb o h h2 => exact o.frozen j
theorem sr_rd (h : SR w lo hi d (some ⟨b, 0, none⟩) m) : ∃ cs : List Value, cs.length = m * 3 ∧ Rd w (some ⟨b, 0, none⟩) cs := by
  cases h with
  | one hb o h => exact ⟨_, rfl, o.rd⟩
  | two hb o h h2 => exact ⟨_, rfl, o.rd⟩
theorem sr_pos (h : SR w lo hi d (some ⟨b, 0, none⟩) m) : 0 < m ∧ m ≤ 2 := by
  cases h with
  | one hb o h => omega
  | two hb o h h2 => omega
theorem sr_cases {A : Option Addr} (h : SR w lo hi d A m) : (A = none ∧ m = 0) ∨ ∃ b d', A = some ⟨b, 0, none⟩ ∧ d = d' + 1 := by
  cases h with
  | nil => exact .inl ⟨rfl, rfl⟩
  | one hb o h => exact .inr ⟨_, _, rfl, rfl⟩
  | two hb o h h2 => exact .inr ⟨_, _, rfl, rfl⟩
end
section
variable {P : Program} {ops : Array Oper} {rest : List Oper} {o : Oper} {a : Act} {Q : Exit → Act → World → Prop}
/-- append to a full slice. -/
theorem app_grow {w : World} (hw : Region.wanted o (yielded ops a.tmps) = true) (s x : Operand) (t : TypeId) (hop : o.op = Op.call { callee := Callee.builtin Builtin.append, args := #[s, x], argTypes := #[t, t] })
    (e : TypeId) (z : Value) (size bytes : Nat) (ht : P.underlying t = some (.slice e)) (hinfo : (P.info? e).map (fun i => (i.zero, i.size, i.bytes)) = some (some z, size, bytes)) (hz : z.cells.size = size) (hs0 : 0 < size)
    (b off n : Nat) (olds : List Value) (hs : a.eval s = .slice (some ⟨b, off, none⟩) n n) (hlo : olds.length = n * size) (hr : Rd w (some ⟨b, off, none⟩) olds)
    (ad : Addr) (m c : Nat) (news : List Value) (hx : a.eval x = .slice (some ad) m c) (hn : news.length = m * size) (hc : ∀ j u, news[j]? = some u → w.cell? (ad.add j) = some u) (h1c : ∀ u ∈ news, u.oneCell' = true)
    (hfull : 0 < m) (b1 : n + m ≤ 140737488355328) (b2 : (n + m) * bytes ≤ 140737488355328)
    (hK : ∀ v' w', w'.ownsRow w.heap.size e size v' (n + m) (olds ++ news) → Kept w w' → wpList P ops Q rest (a.put o.dst v') w') :
    wpList P ops Q (o :: rest) a w :=
  wpList_step fun K hK' => step_grow hw s x t hop e z size bytes ht hinfo hz hs0 b off n olds hs hlo hr ad m c news hx hn hc h1c hfull b1 b2 fun v' w' r k => hK' _ _ (hK v' w' r k)
end
theorem one_leaf : ∀ u ∈ c3 0 0 none 0, u.oneCell' = true := by
  intro u hu
  simp at hu
  rcases hu with rfl | rfl <;> rfl

def SoPost (lo hi : Nat) (w : World) (e : Ending) (w' : World) : Prop := e = .returned (.tuple #[]) ∧ Spd lo hi w w'
set_option maxRecDepth 100000 in
set_option maxHeartbeats 1000000 in
theorem spoil51_leaf (lo hi : Nat) (k n : Int) (w : World) : Calls Try.prog 51 #[.agg #[.int .i64 k, .int .i64 n, .slice none 0 0]] w (SoPost lo hi w) := by
  have K0 : Kept w (w.alloc (.cells #[.int .i64 k, .int .i64 n, .slice none 0 0] 52)) := kept_alloc (kept_refl w) _
  have o0 := Own.new w 52 [.int .i64 k, .int .i64 n, .slice none 0 0]
  go_enter Try.func51, Try.ntmps51
  go_wp2_with fail
  go_loopg [2] 0 (fun g v wr => v = .int .i64 0 ∧ Own wr w.heap.size 52 [.int .i64 k, .int .i64 n, .slice none 0 0] ∧ Kept w wr)
  case atStart => exact ⟨rfl, o0, K0⟩
  case round =>
    clear o0 K0
    obtain ⟨rfl, o0, K0⟩ := hrel
    have q2 := o0.cell (j := 2) rfl
    go_wp2_with (at_builtin; go_loud (refine app_law wr.heap.size rfl (.tmp 23) (.tmp 25) 50 52 (.agg #[.int .i64 0, .int .i64 0, .slice none 0 0]) 3 40 rfl Try.underlying50 info52 rfl (by omega) (by omega) (.slice none 0 0) 0 1 [] (c3 0 0 none 0) rfl rfl rfl one_leaf (World.ownsRow_nil _ _ _ _) (Nat.le_refl _) (by omega) ?_; intro v7 w7 hr7 hg7 hat7; obtain ⟨A9, c9, rfl, hr9⟩ := row_form hr7; obtain ⟨g9, rfl⟩ := srow_some hr9 (by omega); have d0 := srow_at hr9 (j := 0) (u := .int .i64 0) rfl; have d1 := srow_at hr9 (j := 1) (u := .int .i64 0) rfl; have d2 := srow_at hr9 (j := 2) (u := .slice none 0 0) rfl; have f0 := srow_free hr9 0; have f1 := srow_free hr9 1; have f2 := srow_free hr9 2))
    have hg9 := (hr9.lt g9 rfl).1
    have K7 : Kept wr w7 := ⟨hg7.os, hg7.tape, hg7.output, hg7.size, fun x hx => hg7.block x hx (fun e => by cases e)⟩
    have z := K0.size
    go_end0
    exact ⟨rfl, spd_kept (kept_set (kept_set (kept_set (kept_trans K0 K7) (by omega) _) (by omega) _) (by omega) _)⟩

set_option maxRecDepth 100000 in
set_option maxHeartbeats 2000000 in
theorem spoil51_any (lo hi : Nat) : ∀ (d : Nat) (k n : Int) (A : Option Addr) (m : Nat) (w : World), SR w lo hi d A m → hi ≤ w.heap.size → Calls Try.prog 51 #[.agg #[.int .i64 k, .int .i64 n, .slice A m m]] w (SoPost lo hi w) := by
  intro d
  induction d with
  | zero =>
    intro k n A m w h hz
    rcases sr_cases h with ⟨rfl, rfl⟩ | ⟨b, d', rfl, e⟩
    · exact spoil51_leaf lo hi k n w
    · cases e
  | succ d ih =>
    intro k n A m w h hz
    rcases sr_cases h with ⟨rfl, rfl⟩ | ⟨b, d', rfl, _⟩
    · exact spoil51_leaf lo hi k n w
    have IH := Lib.hid ih; clear ih
    have hm := sr_pos h
    have hb := sr_hb h
    have K0 : Kept w (w.alloc (.cells #[.int .i64 k, .int .i64 n, .slice (some ⟨b, 0, none⟩) m m] 52)) := kept_alloc (kept_refl w) _
    have o0 := Own.new w 52 [.int .i64 k, .int .i64 n, .slice (some ⟨b, 0, none⟩) m m]
    have G0 : Spd lo hi w (w.alloc (.cells #[.int .i64 k, .int .i64 n, .slice (some ⟨b, 0, none⟩) m m] 52)) := spd_kept K0
    have H := Lib.hid h; clear h K0
    go_enter Try.func51, Try.ntmps51
    go_wp2_with fail
    go_loopg [2] m (fun g' s2 wr => ∃ i : Nat, i ≤ m ∧ g' = m - i ∧ s2 = .int .i64 i ∧ Own wr w.heap.size 52 [.int .i64 k, .int .i64 n, .slice (some ⟨b, 0, none⟩) m m] ∧ Spd lo hi w wr)
    case atStart => exact ⟨0, by omega, rfl, rfl, o0, G0⟩
    case round =>
      clear o0 G0
      obtain ⟨i, hi', rfl, rfl, o0, G⟩ := hrel
      have q2 := o0.cell (j := 2) rfl
      have S := H.out.spd G
      have zr := G.chg.size
      by_cases hlt : i < m
      · obtain ⟨k1, n1, A1, m1, d0, d1, d2, S1⟩ := sr_kid S hlt
        have zb : b < wr.heap.size := kept_lt d0
        have e0 : (0 : Int) ≤ (i : Int) := by omega
        have e1 : (i : Int) < (m : Int) := by omega
        have HS := Lib.hid S; clear S
        go_wp2_with fail
        (with_reducible refine (IH.out k1 n1 A1 m1 wr S1 (by omega)).mono ?_)
        rintro e w5 ⟨rfl, G5⟩
        have GG := spd_trans G G5
        have S5 := H.out.spd GG
        have o5 := o0.chg G5.chg (.inr (by omega))
        obtain ⟨k2, n2, A2, m2, y0, y1, y2, _⟩ := sr_kid S5 hlt
        have f0 := sr_free S5 (i * 3)
        have f1 := sr_free S5 (i * 3 + 1)
        have f2 := sr_free S5 (i * 3 + 2)
        have GL := sr_leaf S5 hlt
        have p2 := o5.cell (j := 2) rfl
        clear d0 d1 d2 q2 S5
        go_wp2_with fail
        go_roundg (m - (i + 1))
        case rel => exact ⟨i + 1, by omega, rfl, by go_num, leaf3_own o5 (by omega), spd_trans GG GL⟩
        case measure => omega
      · have : i = m := by omega
        subst this
        obtain ⟨cs, hcl, hrd⟩ := sr_rd S
        have HRD := Lib.hid hrd; have HCL := Lib.hid hcl; clear hrd hcl S hlt
        have hcs : 0 < cs.length := by have := HCL.out; omega
        go_wp2_with (at_builtin; go_loud (refine app_grow rfl (.tmp 23) (.tmp 25) 50 rfl 52 (.agg #[.int .i64 0, .int .i64 0, .slice none 0 0]) 3 40 Try.underlying50 info52 rfl (by omega) b 0 i cs rfl HCL.out (HRD.out.kept (kept_alloc (kept_refl wr) _)) ⟨wr.heap.size, 0, none⟩ 1 1 (c3 0 0 none 0) rfl rfl (news_rd (Own.new wr 52 (c3 0 0 none 0)).rd) one_leaf (by omega) (by omega) (by omega) ?_; intro v7 w7 hr7 hk7; obtain ⟨A9, c9, rfl, hr9⟩ := row_form hr7; obtain ⟨g9, rfl⟩ := srow_some hr9 (by omega); obtain ⟨u0, d0⟩ := sget_some hr9.1 (show 0 < (i + 1) * 3 by omega); obtain ⟨u1, d1⟩ := sget_some hr9.1 (show 1 < (i + 1) * 3 by omega); obtain ⟨u2, d2⟩ := sget_some hr9.1 (show 2 < (i + 1) * 3 by omega); replace d0 := srow_at hr9 d0; replace d1 := srow_at hr9 d1; replace d2 := srow_at hr9 d2; have f0 := srow_free hr9 0; have f1 := srow_free hr9 1; have f2 := srow_free hr9 2))
        have hg9 := (hr9.lt g9 rfl).1
        simp only [World.size_alloc] at hg9
        have K7 : Kept wr w7 := kept_trans (kept_alloc (kept_refl wr) _) hk7
        go_end0
        exact ⟨rfl, spd_trans G (spd_kept (kept_set (kept_set (kept_set K7 (by omega) _) (by omega) _) (by omega) _))⟩
end Go.Proofs.Ytinpmdekdfgiiaa
