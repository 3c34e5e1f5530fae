/- Trees of formulas: From's function literal at a formula with kids, and all of it (printed by genY12.py). -/
import Derived.Test.YtikfeemmjfoffaaDoorY11
set_option linter.unusedVariables false
set_option linter.unusedSimpArgs false
namespace Go.Proofs.YtikfeemmjfoffaaDoor
open Go.RowKit Go.Maps

theorem putN_len {x : Nat → Bool} {I : Nat} : ∀ (k : Nat) (f : Fm) (n : Nat) (s : LT), (putN x I k f n s).2.length = s.2.length ∧ (putN x I k f n s).1.length = s.1.length := by
  intro k
  induction k with
  | zero => intro f n s; exact ⟨rfl, rfl⟩
  | succ k ih =>
    intro f n s
    by_cases h : I ≤ n
    · rw [putN_leaf h]; split <;> simp
    · by_cases hl : f.l.length = 0
      · rw [putN_down h hl]; exact ih _ _ _
      · rw [putN_node h hl]
        have : ∀ j, (putK x I k f n j s).2.length = s.2.length ∧ (putK x I k f n j s).1.length = s.1.length := by
          intro j
          induction j with
          | zero => rw [putK_zero]; simp
          | succ j ihj => rw [putK_succ]; exact ⟨(ih _ _ _).1.trans ihj.1, (ih _ _ _).2.trans ihj.2⟩
        exact this _

set_option maxRecDepth 100000 in
set_option maxHeartbeats 1000000 in
theorem put44_node {q : Pl} {w0 : World} {n k : Nat} {f : Fm} {A : Option Addr} {c : Nat} {s : LT} {w : World} (hn0 : n < s.2.length) (hm : s.2.length ≤ 200) (hk : f.k = 2 ∨ f.k = 3 ∨ f.k = 4 ∨ f.k = 5) (hl0 : f.l.length ≠ 0) (hl2 : f.l.length ≤ 2)
    (hr : RK w0 A f.l) (kw : Kept w0 w) (hql : w0.heap.size ≤ q.l) (hqT : w0.heap.size ≤ q.T) (hqb : q.base ≤ w.heap.size) (ps : PS q s w)
    (hC : ∀ (j : Nat) (A' : Option Addr) (c' : Nat) (s1 : LT) (w1 : World), j < f.l.length → Kept w0 w1 → RK w0 A' (kd f.l j).l → (s1.2.length = s.2.length ∧ s1.1.length = s.1.length) → PS q s1 w1 → q.base ≤ w1.heap.size →
      Calls Tryd.prog 44 #[fmV (kd f.l j) A' c', .int .i64 (2 * (n : Int) + 1 + (j : Int)), .pointer (some ⟨q.t, 0, none⟩), .pointer (some ⟨q.x, 0, none⟩), .pointer (some ⟨q.p, 0, none⟩)] w1 (PutPost q (putN (xs q.xs) s.2.length k (kd f.l j) (2 * n + 1 + j) s1) w1)) :
    Calls Tryd.prog 44 #[fmV f A c, .int .i64 n, .pointer (some ⟨q.t, 0, none⟩), .pointer (some ⟨q.x, 0, none⟩), .pointer (some ⟨q.p, 0, none⟩)] w (PutPost q (putK (xs q.xs) s.2.length k f n f.l.length s) w) := by
  obtain ⟨l, hl⟩ : ∃ l, l = f.l := ⟨_, rfl⟩
  unfold fmV
  rw [← hl] at hl0 hl2 hr hC ⊢
  obtain ⟨kk, hkk⟩ : ∃ kk, kk = f.k := ⟨_, rfl⟩
  obtain ⟨nn, hnn⟩ : ∃ nn, nn = f.n := ⟨_, rfl⟩
  rw [← hkk] at hk ⊢
  rw [← hnn]
  obtain ⟨W, hW⟩ : ∃ W, W = w.alloc (.cells #[.int .i64 kk, .int .i64 nn, .slice A l.length c] 48) := ⟨_, rfl⟩
  have o0 : Own W w.heap.size 48 [.int .i64 kk, .int .i64 nn, .slice A l.length c] := by rw [hW]; exact Own.new w 48 _
  have KW : Kept w W := by rw [hW]; exact kept_alloc (kept_refl w) _
  replace ps := ps.kept KW
  have q0 := o0.cell (j := 0) rfl
  have q1 := o0.cell (j := 1) rfl
  have q2 := o0.cell (j := 2) rfl
  have e3 := ps.t.cell (j := 3) rfl
  obtain ⟨m, hmm⟩ : ∃ m, m = s.2.length := ⟨_, rfl⟩
  rw [← hmm] at e3 hn0 hm hC ⊢
  have c1 : decide ((m : Int) ≤ (n : Int)) = false := decide_eq_false (by omega)
  have c2 : decide (m ≤ n) = false := decide_eq_false (by omega)
  have c3 : ((l.length : Int) == 0) = false := beq_eq_false_iff_ne.2 (by omega)
  have c4 : (l.length == 0) = false := beq_eq_false_iff_ne.2 hl0
  have n0 : (0 : Int) ≤ (n : Int) := by omega
  have n1 : (n : Int) < (m : Int) := by omega
  have hqbW : q.base ≤ W.heap.size := Nat.le_trans hqb KW.size
  have hP0 : ∀ s', s' = putK (xs q.xs) m k f n 0 s → s' = (s.1, s.2.set n (tabK kk)) := by rintro s' rfl; rw [putK_zero, ← hkk]
  have hPs : ∀ j s', s' = putK (xs q.xs) m k f n j s → putK (xs q.xs) m k f n (j + 1) s = putN (xs q.xs) m k (kd l j) (2 * n + 1 + j) s' := by rintro j s' rfl; rw [putK_succ, ← hl]
  have HP0 := Lib.hid hP0
  have HPs := Lib.hid hPs
  have HK := Lib.hid hk
  have HW := Lib.hid hW
  have HC := Lib.hid hC
  have HR := Lib.hid hr
  have HKW := Lib.hid KW
  have HM := Lib.hid hmm
  have hlm : l.length ≤ 2 := hl2
  have hm0 : ((W.alloc (.map #[] 0)).alloc (.cells #[.int .i64 1, .int .i64 1, .int .i64 0, .int .i64 0] 3)).ownsMap Tryd.prog 3 heldR W.heap.size 0 (.map []) := (World.ownsMap_made W Tryd.prog 3 heldR).alloc _
  have KM : Kept W ((W.alloc (.map #[] 0)).alloc (.cells #[.int .i64 1, .int .i64 1, .int .i64 0, .int .i64 0] 3)) := kept_alloc (kept_alloc (kept_refl W) _) _
  have hr0 : RowsIn W.heap.size ((W.alloc (.map #[] 0)).alloc (.cells #[.int .i64 1, .int .i64 1, .int .i64 0, .int .i64 0] 3)) [(W.heap.size + 1, [1, 1, 0, 0])] := by
    have := RowsIn.new (M := W.heap.size) (w := W.alloc (.map #[] 0)) (l := []) (fun p hp => by cases hp) (by simp) [1, 1, 0, 0]
    simpa [ints] using this
  have zM := hm0.lt
  have hO := Lib.hid o0
  have hKw := Lib.hid kw
  have hr := hr0
  have hm := hm0
  clear hr0 hm0 hP0 hPs hk hW hC hmm KW hl2 hl0 hl hkk hnn hqb o0 kw
  have hmk := @run_makeMap Tryd.prog
  go_enter Tryd.func44, Tryd.ntmps44
  go_upto_region 1 with fail
  rw [← HW.out]
  go_wp2_with (first | (refine wpList_insert_own (H := Value) _ rfl _ _ _ 76 rfl 3 22 (int_keyed Tryd.underlying3) Tryd.underlying76 heldR W.heap.size 0 _ rfl hm (by unfold maxLen; omega) (.int .i64 2) (rowV _) (.int .i64 2) rfl rfl (keyOf_int_mk Tryd.underlying3 (by decide)) (.held (rowV _)) [] rfl ?_; intro v2 hm' hg; replace KM := kept_map KM hg; replace hr := hr.grown hg; replace zM := hm'.lt; replace hm := hm'; clear hm' hg; replace hm := hm.alloc (.cells #[.int .i64 0, .int .i64 0, .int .i64 0, .int .i64 1] 3); replace KM := kept_alloc KM (.cells #[.int .i64 0, .int .i64 0, .int .i64 0, .int .i64 1] 3); replace hr := hr.new zM [0, 0, 0, 1]) | (refine wpList_insert_own (H := Value) _ rfl _ _ _ 76 rfl 3 22 (int_keyed Tryd.underlying3) Tryd.underlying76 heldR W.heap.size 1 _ rfl hm (by unfold maxLen; omega) (.int .i64 3) (rowV _) (.int .i64 3) rfl rfl (keyOf_int_mk Tryd.underlying3 (by decide)) (.held (rowV _)) [] rfl ?_; intro v3 hm' hg; replace KM := kept_map KM hg; replace hr := hr.grown hg; replace zM := hm'.lt; replace hm := hm'; clear hm' hg; replace hm := hm.alloc (.cells #[.int .i64 0, .int .i64 1, .int .i64 1, .int .i64 1] 3); replace KM := kept_alloc KM (.cells #[.int .i64 0, .int .i64 1, .int .i64 1, .int .i64 1] 3); replace hr := hr.new zM [0, 1, 1, 1]) | (refine wpList_insert_own (H := Value) _ rfl _ _ _ 76 rfl 3 22 (int_keyed Tryd.underlying3) Tryd.underlying76 heldR W.heap.size 2 _ rfl hm (by unfold maxLen; omega) (.int .i64 4) (rowV _) (.int .i64 4) rfl rfl (keyOf_int_mk Tryd.underlying3 (by decide)) (.held (rowV _)) [] rfl ?_; intro v4 hm' hg; replace KM := kept_map KM hg; replace hr := hr.grown hg; replace zM := hm'.lt; replace hm := hm'; clear hm' hg; replace hm := hm.alloc (.cells #[.int .i64 0, .int .i64 1, .int .i64 1, .int .i64 0] 3); replace KM := kept_alloc KM (.cells #[.int .i64 0, .int .i64 1, .int .i64 1, .int .i64 0] 3); replace hr := hr.new zM [0, 1, 1, 0]) | (refine wpList_insert_own (H := Value) _ rfl _ _ _ 76 rfl 3 22 (int_keyed Tryd.underlying3) Tryd.underlying76 heldR W.heap.size 3 _ rfl hm (by unfold maxLen; omega) (.int .i64 5) (rowV _) (.int .i64 5) rfl rfl (keyOf_int_mk Tryd.underlying3 (by decide)) (.held (rowV _)) [] rfl ?_; intro v5 hm' hg; replace KM := kept_map KM hg; replace hr := hr.grown hg; replace zM := hm'.lt; replace hm := hm'; clear hm' hg; have b0 := kept_cell KM q0) | (at_lookup; go_loud (refine wpList_lookup_held _ rfl _ _ 76 rfl 3 22 (int_keyed Tryd.underlying3) Tryd.underlying76 (zero22w _) W.heap.size _ _ rfl hm _ _ rfl (keyOf_int_mk Tryd.underlying3 (by rcases HK.out with rfl | rfl | rfl | rfl <;> decide)) ?_; intro v hat; rw [tab_at HK.out] at hat; obtain rfl := held_inj hat; replace ps := ps.kept KM; obtain ⟨bs, b1, b2, b3⟩ := ps.T; have x0 := b2.cell (j := n) (v := .slice (some ⟨bs.getD n 0, 0, none⟩) 4 4) (bs_get (by rw [b1, ← HM.out]; exact hn0)); have f0 := b2.frozen n; have hrow := row_of HK.out hr; have oB := hO.out.kept KM; have nT : w.heap.size ≠ q.T := own_ne oB b2 (by decide); have m2 := (oB.other (a := ⟨q.T, n, none⟩) nT (.slice (some ⟨bK kk (W.heap.size + 1) v2.heap.size v3.heap.size v4.heap.size, 0, none⟩) 4 4)).cell (j := 2) rfl)))
  obtain ⟨rb, hrb⟩ : ∃ rb, rb = bK kk (W.heap.size + 1) v2.heap.size v3.heap.size v4.heap.size := ⟨_, rfl⟩
  rw [← hrb] at hrow ⊢
  obtain ⟨w9, hw9⟩ : ∃ w9, w9 = v5.setCell ⟨q.T, n, none⟩ (.slice (some ⟨rb, 0, none⟩) 4 4) := ⟨_, rfl⟩
  rw [← hw9]
  have ps9 : PS q (putK (xs q.xs) m k f n 0 s) w9 := by
    rw [HP0.out _ rfl, hw9]
    exact ps.tab n (by rw [← HM.out]; exact hn0) rb (by have := hrow.1; omega) (tabK kk) (tabK_len kk) hrow.2
  have K9 : KQ q.l q.T W w9 := by rw [hw9]; exact kq_t (kq_of KM) n _
  have nl : w.heap.size ≠ q.l := own_ne (hO.out.kept KM) ps.l (by decide)
  replace oB := hO.out.kq K9 nl nT
  have l9 : (putK (xs q.xs) m k f n 0 s).2.length = m ∧ (putK (xs q.xs) m k f n 0 s).1.length = s.1.length := by rw [HP0.out _ rfl]; simp [HM.out]
  have z9 : q.base ≤ w9.heap.size := Nat.le_trans hqbW K9.size
  have kw9 : Kept w0 w9 := kept_kq (kept_trans hKw.out HKW.out) K9 hql hqT
  clear hr m2 hw9 hrow hrb hm zM KM b0 ps b2 b3 b1 x0 f0 hmk q0 q1 q2 e3 c1 c2 c3 c4
  have HZ := Lib.hid (And.intro hql (And.intro hqT hqbW))
  clear hql hqT hqbW
  go_loopg [70] l.length (fun g' s70 wr => ∃ j : Nat, j ≤ l.length ∧ g' = l.length - j ∧ s70 = .int .i64 j ∧ PS q (putK (xs q.xs) m k f n j s) wr ∧ ((putK (xs q.xs) m k f n j s).2.length = m ∧ (putK (xs q.xs) m k f n j s).1.length = s.1.length) ∧ KQ q.l q.T W wr ∧ Own wr w.heap.size 48 [.int .i64 kk, .int .i64 nn, .slice A l.length c])
  case atStart => exact ⟨0, by omega, rfl, rfl, ps9, l9, K9, oB⟩
  case round =>
    clear ps9 l9 K9 oB z9 kw9
    obtain ⟨j, hj, rfl, rfl, psj, lj, Kj, oj⟩ := hrel
    obtain ⟨sj, hsj⟩ : ∃ sj, sj = putK (xs q.xs) m k f n j s := ⟨_, rfl⟩
    rw [← hsj] at psj lj
    by_cases hlt : j < l.length
    · have g0 : (0 : Int) ≤ (j : Int) := by omega
      have g1 : (j : Int) < (l.length : Int) := by omega
      have kwj : Kept w0 wr := kept_kq (kept_trans hKw.out HKW.out) Kj HZ.out.1 HZ.out.2.1
      obtain ⟨b, off, rfl, hk⟩ := HR.out.at_ (by omega)
      obtain ⟨d0, d1, ⟨A', c', d2, rk⟩, dl⟩ := hk j hlt
      have d0 := kept_cell kwj d0; have d1 := kept_cell kwj d1; have d2 := kept_cell kwj d2
      clear hk dl
      obtain ⟨ck, hck⟩ : ∃ ck, ck = (kd l j).k := ⟨_, rfl⟩
      obtain ⟨cn, hcn⟩ : ∃ cn, cn = (kd l j).n := ⟨_, rfl⟩
      obtain ⟨cl, hcl⟩ : ∃ cl, cl = (kd l j).l.length := ⟨_, rfl⟩
      have ka : Kept wr (wr.alloc (.cells #[.int .i64 ck, .int .i64 cn, .slice A' cl c'] 48)) := kept_alloc (kept_refl wr) _
      have CC := HC.out j A' c' sj (wr.alloc (.cells #[.int .i64 ck, .int .i64 cn, .slice A' cl c'] 48)) hlt (kept_trans kwj ka) rk lj (psj.kept ka) (Nat.le_trans HZ.out.2.2 (Nat.le_trans Kj.size ka.size))
      unfold fmV at CC
      rw [← hck, ← hcn, ← hcl] at CC
      rw [← hck] at d0
      rw [← hcn] at d1
      rw [← hcl] at d2
      have p0 := (psj.kept ka).p.cell (j := 0) rfl
      have zp := psj.p.lt
      unfold Pl.fn at p0
      have HCC := Lib.hid CC
      have HSJ := Lib.hid hsj
      have HKA := Lib.hid ka
      have HKJ := Lib.hid Kj
      have HL := Lib.hid lj
      clear hck hcn hcl CC hsj ka kwj Kj rk lj psj
      go_wp2_with (go_at_call 44; (with_reducible refine HCC.out.mono ?_); rintro e w3 ⟨rfl, ps3, kq3⟩)
      go_roundg (l.length - (j + 1))
      case rel =>
        have nl' : w.heap.size ≠ q.l := nl
        exact ⟨j + 1, by omega, rfl, by go_num, by rw [HPs.out j _ HSJ.out]; exact ps3, by rw [HPs.out j _ HSJ.out, (putN_len _ _ _ _).1, (putN_len _ _ _ _).2]; exact HL.out, kq_trans (kq_trans HKJ.out (kq_of HKA.out)) kq3, (oj.kept HKA.out).kq kq3 nl nT⟩
      case measure => omega
    · have : j = l.length := by omega
      subst this
      go_wp2_with fail
      go_end0
      exact ⟨rfl, by rw [← hsj]; exact psj, kq_trans (kq_of HKW.out) Kj⟩

end Go.Proofs.YtikfeemmjfoffaaDoor
