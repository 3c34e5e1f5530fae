/- Joined: K1, K2, K3. -/
import Derived.Test.YtinpmdekdfgiiaaD1
import Derived.Test.YtinpmdekdfgiiaaLe
import Derived.Test.YtinpmdekdfgiiaaB18
import Derived.Test.YtinpmdekdfgiiaaB14
import Derived.Test.YtinpmdekdfgiiaaB15
import Derived.Test.YtinpmdekdfgiiaaC6
import Derived.Test.YtinpmdekdfgiiaaM4
/- Plain law: no valid program has fewer nodes than the least of its table. -/
set_option linter.unusedVariables false
set_option linter.unusedSimpArgs false
namespace Go.Proofs.Ytinpmdekdfgiiaa

theorem testBit_bo (p : Nat → Bool) : ∀ (k i : Nat), (bo p k).testBit i = (decide (i < k) && p i) := by
  intro k
  induction k with
  | zero => intro i; simp [bo]
  | succ k ih =>
    intro i
    have h : (bo p (k + 1)).testBit i = (decide (i < k) && p i || (p k && decide (k = i))) := by
      unfold bo
      split
      · next h => rw [Nat.testBit_or, ih, Nat.testBit_two_pow, h, Bool.true_and]
      · next h => rw [ih, Bool.eq_false_iff.2 h, Bool.false_and, Bool.or_false]
    rw [h]
    by_cases e : k = i
    · subst e; simp
    · rw [decide_eq_false e, Bool.and_false, Bool.or_false]
      congr 1
      rw [decide_eq_decide]
      omega
theorem bo_congr {p q : Nat → Bool} {k : Nat} (h : ∀ i, i < k → p i = q i) : bo p k = bo q k := by
  refine Nat.eq_of_testBit_eq fun i => ?_
  rw [testBit_bo, testBit_bo]
  by_cases hi : i < k
  · rw [h i hi]
  · rw [decide_eq_false hi, Bool.false_and, Bool.false_and]
theorem sel_bo {n : Nat} (hn : n ≤ 3) (v a c : Nat → Bool) : sel (allN' n) (bo v (2 ^ n)) (bo a (2 ^ n)) (bo c (2 ^ n)) = bo (fun i => if v i then a i else c i) (2 ^ n) := by
  refine Nat.eq_of_testBit_eq fun i => ?_
  rw [← bo_all n (by omega)]
  unfold sel
  simp only [Nat.testBit_or, Nat.testBit_and, Nat.testBit_xor, testBit_bo]
  by_cases hi : i < 2 ^ n
  · simp only [decide_eq_true hi, Bool.true_and]
    cases v i <;> cases a i <;> cases c i <;> rfl
  · simp only [decide_eq_false hi, Bool.false_and, Bool.and_false, Bool.or_false]
theorem bo_none (k : Nat) : bo (fun _ => false) k = 0 := Nat.eq_of_testBit_eq fun i => by rw [testBit_bo]; simp

/-- The table of a node as a number. -/
def Vn (n : Nat) (l : List Nd) (c : Int) : Nat := bo (fun i => valN l i.testBit c) (2 ^ n)
theorem Vn_zero (n : Nat) (l : List Nd) : Vn n l (-1) = 0 := by
  unfold Vn
  rw [← bo_none (2 ^ n)]
  exact bo_congr fun i _ => by rw [valN_neg _ _ (by omega)]; rfl
theorem Vn_one {n : Nat} (hn : n ≤ 3) (l : List Nd) : Vn n l (-2) = allN' n := by
  unfold Vn
  rw [← bo_all n (by omega)]
  exact bo_congr fun i _ => by rw [valN_neg _ _ (by omega)]; rfl
theorem vars_at {n : Nat} (hn : n ≤ 3) {v : Nat} (hv : v < n) : na (varsN n) v = bo (fun i => i.testBit v) (2 ^ n) := by
  rw [← cols_eq n (by omega)]
  simp [na, cols, List.getD_eq_getElem?_getD, hv]
theorem vars_mem {n : Nat} (hn : n ≤ 3) {v : Nat} (hv : v < n) : bo (fun i => i.testBit v) (2 ^ n) ∈ varsN n := by
  rw [← cols_eq n (by omega)]
  exact List.mem_map.2 ⟨v, by simpa using hv, rfl⟩
theorem Vn_node {n : Nat} {s : Int} {l : List Nd} (hn : n ≤ 3) (hv : validB n s l = true) {k : Nat} (hk : k < l.length) :
    Vn n l k = sel (allN' n) (bo (fun i => i.testBit (nv l k).toNat) (2 ^ n)) (Vn n l (no l k)) (Vn n l (nz l k)) := by
  unfold Vn
  rw [sel_bo hn]
  refine bo_congr fun i _ => ?_
  rw [valN_step hv i.testBit hk]
  unfold stepN pk
  rw [show ((k : Int)).toNat = k from by simp]
  split <;> rfl
theorem found_nodes {n : Nat} {s : Int} {l : List Nd} (hn : n ≤ 3) (hv : validB n s l = true) : ∀ (m : Nat), m ≤ l.length → ∀ (hv' : List Nat), 0 ∈ hv' → allN' n ∈ hv' → (∀ k, m ≤ k → k < l.length → Vn n l (k : Nat) ∈ hv') →
    foundS (varsN n) (allN' n) (Vn n l s) m hv' = true := by
  intro m
  induction m with
  | zero =>
    intro _ hv' h0 h1 h2
    refine found_mem ?_
    obtain ⟨_, _, _, hs⟩ := valid_start hv
    rcases hs with rfl | rfl | ⟨a, b⟩
    · rw [Vn_zero]; exact h0
    · rw [Vn_one hn]; exact h1
    · have := h2 s.toNat (by omega) (by omega)
      rwa [Int.toNat_of_nonneg a] at this
  | succ m ih =>
    intro hm hv' h0 h1 h2
    have hnd := valid_node hv (k := m) (by omega)
    have hmem : ∀ c : Int, (c = -1 ∨ c = -2 ∨ ((m : Int) < c ∧ c < l.length)) → Vn n l c ∈ hv' := by
      intro c hc
      rcases hc with rfl | rfl | ⟨a, b⟩
      · rw [Vn_zero]; exact h0
      · rw [Vn_one hn]; exact h1
      · have := h2 c.toNat (by omega) (by omega)
        rwa [Int.toNat_of_nonneg (by omega)] at this
    refine found_step (v := bo (fun i => i.testBit (nv l m).toNat) (2 ^ n)) (a := Vn n l (no l m)) (c := Vn n l (nz l m)) (vars_mem hn (by omega)) (hmem _ hnd.2.2.2) (hmem _ hnd.2.2.1) ?_
    rw [← Vn_node hn hv (k := m) (by omega)]
    refine ih (by omega) _ (List.mem_append.2 (.inl h0)) (List.mem_append.2 (.inl h1)) fun k h3 h4 => ?_
    by_cases e : k = m
    · subst e; exact List.mem_append.2 (.inr (List.mem_singleton.2 rfl))
    · exact List.mem_append.2 (.inl (h2 k (by omega) h4))
theorem firstK_le {p : Nat → Bool} {L : Nat} (hp : p L = true) : ∀ (f k : Nat), k ≤ L → firstK p f k ≤ L := by
  intro f
  induction f with
  | zero => intro k h; exact h
  | succ f ih =>
    intro k h
    unfold firstK
    split
    · exact h
    · next hk =>
      refine ih _ ?_
      rcases Nat.lt_or_ge k L with h' | h'
      · exact h'
      · obtain rfl : k = L := by omega
        exact absurd hp hk
theorem tab_Vn {n : Nat} {s : Int} {l : List Nd} : bo (ba (tabB n s l)) (2 ^ n) = Vn n l s := by
  unfold Vn
  refine bo_congr fun i hi => ?_
  rw [← runB_val s l]
  simp [tabB, ba, List.getD_eq_getElem?_getD, hi]
theorem least_le {n : Nat} {s : Int} {l : List Nd} (hn : n ≤ 3) (hv : validB n s l = true) : leastS n (bo (ba (tabB n s l)) (2 ^ n)) ≤ l.length := by
  rw [tab_Vn]
  exact firstK_le (p := fun k => foundS (varsN n) (allN' n) (Vn n l s) k [0, allN' n]) (found_nodes hn hv l.length (Nat.le_refl _) _ (by simp) (by simp) (fun k h1 h2 => by omega)) 5 0 (by omega)
theorem tab_same {n : Nat} {s s' : Int} {l l' : List Nd} (h : ∀ x, runB s' l' x = runB s l x) : tabB n s' l' = tabB n s l := by unfold tabB; exact List.map_congr_left fun a _ => h _
end Go.Proofs.Ytinpmdekdfgiiaa

/- below: a program and its Slim have at least as many nodes as the least of their table. -/
set_option linter.unusedVariables false
set_option linter.unusedSimpArgs false
namespace Go.Proofs.Ytinpmdekdfgiiaa
open Go.RowKit

theorem table_ok (n : Nat) (hn : n ≤ 3) (s : Int) (A : Option Addr) (c : Nat) (l : List Nd) (w : World) (hr : RN w A l) (hv : validB n s l = true) :
    Calls Try.prog 27 #[.agg #[.int .i64 n, .int .i64 s, .slice A l.length c]] w fun e w' => ∃ g, e = .returned (.tuple #[.slice (some ⟨g, 0, none⟩) (2 ^ n : Nat) (2 ^ n : Nat), .int .i64 0]) ∧ Own w' g 4 (bools (tabB n s l)) ∧ Kept w w' := by
  obtain ⟨_, _, hln, _⟩ := valid_start hv
  refine (table_good n s A c l w hr hv (by omega)).mono ?_
  rintro e w' ⟨k, h⟩
  rcases h with ⟨h, _⟩ | ⟨_, h, _⟩ | ⟨_, _, g, he, _, o⟩
  · rw [hv] at h; cases h
  · omega
  · exact ⟨g, he, o, k⟩
theorem inp_pow : ∀ n : Nat, n ≤ 3 → inpB (2 ^ n) = n
  | 0, _ => rfl
  | 1, _ => rfl
  | 2, _ => rfl
  | 3, _ => rfl
theorem least_ok (n : Nat) (hn : n ≤ 3) (g : Nat) (t : List Bool) (w : World) (ht : t.length = 2 ^ n) (o : Own w g 4 (bools t)) :
    Calls Try.prog 23 #[.slice (some ⟨g, 0, none⟩) (2 ^ n : Nat) (2 ^ n : Nat)] w fun e w' => e = .returned (.tuple #[.int .i64 (leastS n (bo (ba t) (2 ^ n)) : Nat), .int .i64 0]) ∧ Kept w w' := by
  have hl := least_good (some ⟨g, 0, none⟩) (2 ^ n) t w n hn ht o.rd
  rw [ht] at hl
  have hi := inp_pow n hn
  refine hl.mono ?_
  rintro e w' ⟨k, h⟩
  rw [ht] at h
  rcases h with ⟨h, _⟩ | ⟨n', _, _, h2, h3⟩
  · omega
  · obtain rfl : n' = n := by omega
    exact ⟨h3, k⟩

set_option maxRecDepth 100000 in
set_option maxHeartbeats 1000000 in
theorem below_any (n : Nat) (hn : n ≤ 3) (s : Int) (A : Option Addr) (c : Nat) (l : List Nd) (w : World) (hr : RN w A l) (hv : validB n s l = true) :
    Calls Try.prog 46 #[.agg #[.int .i64 n, .int .i64 s, .slice A l.length c]] w fun e w' => e = .returned (.bool true) ∧ Kept w w' := by
  obtain ⟨_, _, hln, _⟩ := valid_start hv
  obtain ⟨t1, t2, t3, t4⟩ := slim_ok hv
  have C27 := Lib.hid fun (w' : World) (k : Kept w w') => table_ok n hn s A c l w' (hr.kept k) hv
  have C40 := Lib.hid fun (w' : World) (k : Kept w w') => slim_good n s A c l w' (hr.kept k) hv
  unfold SlimPost at C40
  generalize rstart (slS s l) (slL s l) = rs at *
  generalize rnodes (slS s l) (slL s l) = rn at *
  have hts : tabB n rs rn = tabB n s l := tab_same t2
  have hle := least_le hn t1
  rw [hts] at hle
  have htl := tabB_length n s l
  have D27 := fun (w' : World) (A' : Option Addr) (c' : Nat) (h : RN w' A' rn) => table_ok n hn rs A' c' rn w' h t1
  rw [hts] at D27
  generalize tabB n s l = t at *
  have C23 := fun (w' : World) (g : Nat) (o : Own w' g 4 (bools t)) => least_ok n hn g t w' htl o
  have C30 := fun (w' : World) (g h : Nat) (o : Own w' g 4 (bools t)) (p : Own w' h 4 (bools t)) => samebools_any (some ⟨g, 0, none⟩) (some ⟨h, 0, none⟩) (2 ^ n) (2 ^ n) (2 ^ n) (2 ^ n) t t w' o.rd p.rd htl.symm htl.symm (by
    have := Nat.pow_le_pow_right (n := 2) (by omega) hn; omega)
  rw [decide_eq_true rfl] at C30
  generalize leastS n (bo (ba t) (2 ^ n)) = r at *
  have hN : 2 ^ n ≤ 8 := Nat.pow_le_pow_right (n := 2) (by omega) hn
  generalize 2 ^ n = N at *
  have hC27 := C27.out
  have D27 := Lib.hid D27; have C23 := Lib.hid C23; have C30 := Lib.hid C30
  clear hC27
  have b1 : decide ((r : Int) ≤ (rn.length : Int)) = true := decide_eq_true (by omega)
  have b2 : decide (r ≤ rn.length) = true := decide_eq_true hle
  have b3 : decide ((rn.length : Int) ≤ (l.length : Int)) = true := decide_eq_true (by omega)
  have b4 : decide (rn.length ≤ l.length) = true := decide_eq_true t3
  have g1 : rn.length ≤ 20000 := by omega
  clear hr hv t1 t2 t3 t4 hts hle htl
  have o0 := Own.new w 24 [.int .i64 n, .int .i64 s, .slice A l.length c]
  have q0 := o0.cell (j := 0) rfl
  have q1 := o0.cell (j := 1) rfl
  have q2 := o0.cell (j := 2) rfl
  have K0 : Kept w (w.alloc (.cells #[.int .i64 n, .int .i64 s, .slice A l.length c] 24)) := kept_alloc (kept_refl w) _
  go_enter Try.func46, Try.ntmps46
  go_wp2_with fail
  refine (C27.out _ K0).mono ?_
  rintro e w1 ⟨g1', rfl, oT, k⟩
  replace K0 := kept_trans K0 k; replace o0 := o0.kept k
  clear q0 q1 q2 k
  have q0 := o0.cell (j := 0) rfl
  have q1 := o0.cell (j := 1) rfl
  have q2 := o0.cell (j := 2) rfl
  go_wp2_with fail
  refine (C23.out _ _ oT).mono ?_
  rintro e w2 ⟨rfl, k⟩
  replace K0 := kept_trans K0 k; replace o0 := o0.kept k; replace oT := oT.kept k
  clear q0 q1 q2 k
  have q0 := o0.cell (j := 0) rfl
  have q1 := o0.cell (j := 1) rfl
  have q2 := o0.cell (j := 2) rfl
  go_wp2_with fail
  refine (C40.out _ K0).mono ?_
  rintro e w3 ⟨v, rfl, A1, c1, rfl, hrow, k⟩
  have oC := Own.new w3 24 [.int .i64 n, .int .i64 rs, .slice A1 rn.length c1]
  have hC : RN w3 A1 rn := row_rd hrow; clear hrow; replace hC := Rd.kept hC (kept_alloc (kept_refl _) (.cells ([.int .i64 n, .int .i64 rs, .slice A1 rn.length c1]).toArray 24))
  replace K0 := kept_trans K0 k; replace o0 := o0.kept k; replace oT := oT.kept k
  have zz := o0.lt
  replace K0 := kept_alloc K0 (.cells ([.int .i64 n, .int .i64 rs, .slice A1 rn.length c1]).toArray 24); replace o0 := o0.alloc (.cells ([.int .i64 n, .int .i64 rs, .slice A1 rn.length c1]).toArray 24); replace oT := oT.alloc (.cells ([.int .i64 n, .int .i64 rs, .slice A1 rn.length c1]).toArray 24)
  clear q0 q1 q2 k
  have q0 := o0.cell (j := 0) rfl
  have q1 := o0.cell (j := 1) rfl
  have q2 := o0.cell (j := 2) rfl
  have r0 := oC.cell (j := 0) rfl
  have r1 := oC.cell (j := 1) rfl
  have r2 := oC.cell (j := 2) rfl
  go_wp2_with fail
  refine (D27.out _ _ _ hC).mono ?_
  rintro e w4 ⟨g2', rfl, oU, k⟩
  replace K0 := kept_trans K0 k; replace o0 := o0.kept k; replace oC := oC.kept k; replace oT := oT.kept k; replace hC := hC.kept k
  clear q0 q1 q2 r0 r1 r2 k
  have q0 := o0.cell (j := 0) rfl
  have q1 := o0.cell (j := 1) rfl
  have q2 := o0.cell (j := 2) rfl
  have r0 := oC.cell (j := 0) rfl
  have r1 := oC.cell (j := 1) rfl
  have r2 := oC.cell (j := 2) rfl
  go_wp2_with fail
  refine (C30.out _ _ _ oT oU).mono ?_
  rintro e w5 ⟨rfl, k⟩
  replace K0 := kept_trans K0 k; replace o0 := o0.kept k; replace oC := oC.kept k
  clear q0 q1 q2 r0 r1 r2 k
  have q0 := o0.cell (j := 0) rfl
  have q1 := o0.cell (j := 1) rfl
  have q2 := o0.cell (j := 2) rfl
  have r0 := oC.cell (j := 0) rfl
  have r1 := oC.cell (j := 1) rfl
  have r2 := oC.cell (j := 2) rfl
  go_wp2_with fail
  go_ret
  exact ⟨ret_bool (by simp), K0⟩
end Go.Proofs.Ytinpmdekdfgiiaa

/- The law BranchBelow: the walk. -/
set_option linter.unusedVariables false
set_option linter.unusedSimpArgs false
namespace Go.Proofs.Ytinpmdekdfgiiaa
open Go.RowKit

/-- The last test: 0 more than 3 inputs, 1 not valid, 2 below. -/
def tests (i s : Int) (l : List Nd) : Nat := if 3 < i then 0 else if validB i s l = false then 1 else 2
def LawPost (w : World) (e : Ending) (w' : World) : Prop := e = .returned (.bool true) ∧ Kept w w'

set_option maxRecDepth 100000 in
set_option maxHeartbeats 1000000 in
theorem law_below (i s : Int) (A : Option Addr) (c : Nat) (l : List Nd) (f : Fm) (A' : Option Addr) (c' : Nat) (w : World) (hm : l.length ≤ 140737488355328) (hr : RN w A l) (hrf : RK w A' f.l) (hl : f.l.length ≤ 9223372036854775807) :
    Calls Try.prog 10 #[.agg #[.int .i64 i, .int .i64 s, .slice A l.length c], fmV f A' c'] w fun e w' => e = .returned (.bool true) ∧ Kept w w' := by
  have o0 := (Own.new w 24 [.int .i64 i, .int .i64 s, .slice A l.length c]).alloc (.cells #[.int .i64 f.k, .int .i64 f.n, .slice A' f.l.length c'] 52)
  have o1 := Own.new (w.alloc (.cells #[.int .i64 i, .int .i64 s, .slice A l.length c] 24)) 52 [.int .i64 f.k, .int .i64 f.n, .slice A' f.l.length c']
  simp only [World.size_alloc] at o1
  have q0 := o0.cell (j := 0) rfl
  have q1 := o0.cell (j := 1) rfl
  have q2 := o0.cell (j := 2) rfl
  have p0 := o1.cell (j := 0) rfl
  have p1 := o1.cell (j := 1) rfl
  have p2 := o1.cell (j := 2) rfl
  have K0 : Kept w ((w.alloc (.cells #[.int .i64 i, .int .i64 s, .slice A l.length c] 24)).alloc (.cells #[.int .i64 f.k, .int .i64 f.n, .slice A' f.l.length c'] 52)) := kept_alloc (kept_alloc (kept_refl w) _) _
  have hf := fun (w' : World) => few_any i s A c l 100 w' hm
  have hf2 := fun (w' : World) (g : Nat) (k : Kept w w') (o : Own w' g 52 [.int .i64 f.k, .int .i64 f.n, .slice A' f.l.length c']) => few35_any 60 f (some ⟨g, 0, none⟩) 1 w' (by omega) (by omega) (rk_new o hl (hrf.kept k))
  by_cases hn : (l.length : Int) ≤ 100
  case neg =>
    rw [decide_eq_false hn] at hf
    have F := Lib.hid hf; clear hf hf2 hn hr hrf
    unfold fmV
    go_enter Try.func10, Try.ntmps10
    go_wp2_with fail
    refine (F.out _).mono ?_
    rintro e w1 ⟨rfl, k⟩
    replace K0 := kept_trans K0 k; replace o0 := o0.kept k; replace o1 := o1.kept k
    clear q0 q1 q2 p0 p1 p2 k
    have q0 := o0.cell (j := 0) rfl
    have q1 := o0.cell (j := 1) rfl
    have q2 := o0.cell (j := 2) rfl
    have p0 := o1.cell (j := 0) rfl
    have p1 := o1.cell (j := 1) rfl
    have p2 := o1.cell (j := 2) rfl
    go_wp2_with fail
    refine (alive_any _).mono ?_
    rintro e w2 ⟨rfl, k⟩
    replace K0 := kept_trans K0 k; replace o0 := o0.kept k; replace o1 := o1.kept k
    clear q0 q1 q2 p0 p1 p2 k
    have q0 := o0.cell (j := 0) rfl
    have q1 := o0.cell (j := 1) rfl
    have q2 := o0.cell (j := 2) rfl
    have p0 := o1.cell (j := 0) rfl
    have p1 := o1.cell (j := 1) rfl
    have p2 := o1.cell (j := 2) rfl
    go_wp2_with fail
    go_ret
    exact ⟨ret_bool (by simp), K0⟩
  case pos =>
    rw [decide_eq_true hn] at hf
    have F := Lib.hid hf; clear hf
    by_cases hc : (cntF f : Int) ≤ 60
    case neg =>
      rw [decide_eq_false hc] at hf2
      have F2 := Lib.hid hf2; clear hf2 hn hr hrf hc
      unfold fmV
      go_enter Try.func10, Try.ntmps10
      go_wp2_with fail
      refine (F.out _).mono ?_
      rintro e w3 ⟨rfl, k⟩
      replace K0 := kept_trans K0 k; replace o0 := o0.kept k; replace o1 := o1.kept k
      clear q0 q1 q2 p0 p1 p2 k
      have q0 := o0.cell (j := 0) rfl
      have q1 := o0.cell (j := 1) rfl
      have q2 := o0.cell (j := 2) rfl
      have p0 := o1.cell (j := 0) rfl
      have p1 := o1.cell (j := 1) rfl
      have p2 := o1.cell (j := 2) rfl
      go_wp2_with fail
      have oS := Own.new w3 52 [.int .i64 f.k, .int .i64 f.n, .slice A' f.l.length c']
      have y0 := o0.lt; have y1 := o1.lt
      replace K0 := kept_alloc K0 (.cells #[.int .i64 f.k, .int .i64 f.n, .slice A' f.l.length c'] 52); replace o0 := o0.alloc (.cells #[.int .i64 f.k, .int .i64 f.n, .slice A' f.l.length c'] 52); replace o1 := o1.alloc (.cells #[.int .i64 f.k, .int .i64 f.n, .slice A' f.l.length c'] 52)
      clear q0 q1 q2 p0 p1 p2
      have q0 := o0.cell (j := 0) rfl
      have q1 := o0.cell (j := 1) rfl
      have q2 := o0.cell (j := 2) rfl
      have p0 := o1.cell (j := 0) rfl
      have p1 := o1.cell (j := 1) rfl
      have p2 := o1.cell (j := 2) rfl
      refine (F2.out _ _ K0 oS).mono ?_
      rintro e w4 ⟨rfl, k⟩
      replace K0 := kept_trans K0 k; replace o0 := o0.kept k; replace o1 := o1.kept k
      clear q0 q1 q2 p0 p1 p2 k
      have q0 := o0.cell (j := 0) rfl
      have q1 := o0.cell (j := 1) rfl
      have q2 := o0.cell (j := 2) rfl
      have p0 := o1.cell (j := 0) rfl
      have p1 := o1.cell (j := 1) rfl
      have p2 := o1.cell (j := 2) rfl
      go_wp2_with fail
      refine (alive_any _).mono ?_
      rintro e w5 ⟨rfl, k⟩
      replace K0 := kept_trans K0 k; replace o0 := o0.kept k; replace o1 := o1.kept k
      clear q0 q1 q2 p0 p1 p2 k
      have q0 := o0.cell (j := 0) rfl
      have q1 := o0.cell (j := 1) rfl
      have q2 := o0.cell (j := 2) rfl
      have p0 := o1.cell (j := 0) rfl
      have p1 := o1.cell (j := 1) rfl
      have p2 := o1.cell (j := 2) rfl
      go_wp2_with fail
      go_ret
      exact ⟨ret_bool (by simp), K0⟩
    case pos =>
      rw [decide_eq_true hc] at hf2
      have F2 := Lib.hid hf2; clear hf2
      have hc2 : cntF f ≤ 20000 := by omega
      have hd : depF f ≤ 1000 := by have := dep_le_cnt f; omega
      have C36 := Lib.hid fun (w' : World) (k : Kept w w') => rvalid36_any f A' c' w' hc2 hd hl (hrf.kept k)
      have V16 := fun (w' : World) (k : Kept w w') => valid_any i s A c l w' hm (hr.kept k)
      by_cases h3 : 3 < i
      case' pos =>
        have a1 : decide (3 < i) = true := decide_eq_true h3
        have C16 := Lib.hid V16; clear V16
      case' neg =>
        have a1 : decide (3 < i) = false := decide_eq_false h3
        cases hv : validB i s l
        case' false =>
          rw [hv] at V16
          have C16 := Lib.hid V16; clear V16
        case' true =>
          rw [hv] at V16
          have C16 := Lib.hid V16; clear V16
          have hi0 := (valid_start hv).1
          have C46 : ∀ (w' : World) (k : Kept w w'), Calls Try.prog 46 #[.agg #[.int .i64 i, .int .i64 s, .slice A l.length c]] w' fun e w'' => e = .returned (.bool true) ∧ Kept w' w'' := by
            intro w' k
            obtain ⟨n, rfl⟩ : ∃ n : Nat, i = n := ⟨i.toNat, by omega⟩
            exact below_any n (by omega) s A c l w' (hr.kept k) hv
          replace C46 := Lib.hid C46
          clear hv hi0
      · cases hs : shpF f
        · rw [hs] at C36
          clear hs hr hrf hc hc2 hd hn hm
          unfold fmV at *
          go_enter Try.func10, Try.ntmps10
          go_wp2_with fail
          refine (F.out _).mono ?_
          rintro e w6 ⟨rfl, k⟩
          replace K0 := kept_trans K0 k; replace o0 := o0.kept k; replace o1 := o1.kept k
          clear q0 q1 q2 p0 p1 p2 k
          have q0 := o0.cell (j := 0) rfl
          have q1 := o0.cell (j := 1) rfl
          have q2 := o0.cell (j := 2) rfl
          have p0 := o1.cell (j := 0) rfl
          have p1 := o1.cell (j := 1) rfl
          have p2 := o1.cell (j := 2) rfl
          go_wp2_with fail
          have oS := Own.new w6 52 [.int .i64 f.k, .int .i64 f.n, .slice A' f.l.length c']
          have y0 := o0.lt; have y1 := o1.lt
          replace K0 := kept_alloc K0 (.cells #[.int .i64 f.k, .int .i64 f.n, .slice A' f.l.length c'] 52); replace o0 := o0.alloc (.cells #[.int .i64 f.k, .int .i64 f.n, .slice A' f.l.length c'] 52); replace o1 := o1.alloc (.cells #[.int .i64 f.k, .int .i64 f.n, .slice A' f.l.length c'] 52)
          clear q0 q1 q2 p0 p1 p2
          have q0 := o0.cell (j := 0) rfl
          have q1 := o0.cell (j := 1) rfl
          have q2 := o0.cell (j := 2) rfl
          have p0 := o1.cell (j := 0) rfl
          have p1 := o1.cell (j := 1) rfl
          have p2 := o1.cell (j := 2) rfl
          refine (F2.out _ _ K0 oS).mono ?_
          rintro e w7 ⟨rfl, k⟩
          replace K0 := kept_trans K0 k; replace o0 := o0.kept k; replace o1 := o1.kept k
          clear q0 q1 q2 p0 p1 p2 k
          have q0 := o0.cell (j := 0) rfl
          have q1 := o0.cell (j := 1) rfl
          have q2 := o0.cell (j := 2) rfl
          have p0 := o1.cell (j := 0) rfl
          have p1 := o1.cell (j := 1) rfl
          have p2 := o1.cell (j := 2) rfl
          go_wp2_with fail
          refine (C36.out _ K0).mono ?_
          rintro e w8 ⟨rfl, k⟩
          replace K0 := kept_trans K0 k; replace o0 := o0.kept k; replace o1 := o1.kept k
          clear q0 q1 q2 p0 p1 p2 k
          have q0 := o0.cell (j := 0) rfl
          have q1 := o0.cell (j := 1) rfl
          have q2 := o0.cell (j := 2) rfl
          have p0 := o1.cell (j := 0) rfl
          have p1 := o1.cell (j := 1) rfl
          have p2 := o1.cell (j := 2) rfl
          go_wp2_with fail
          refine (C16.out _ K0).mono ?_
          rintro e w9 ⟨rfl, k⟩
          replace K0 := kept_trans K0 k; replace o0 := o0.kept k; replace o1 := o1.kept k
          clear q0 q1 q2 p0 p1 p2 k
          have q0 := o0.cell (j := 0) rfl
          have q1 := o0.cell (j := 1) rfl
          have q2 := o0.cell (j := 2) rfl
          have p0 := o1.cell (j := 0) rfl
          have p1 := o1.cell (j := 1) rfl
          have p2 := o1.cell (j := 2) rfl
          go_wp2_with fail
          refine (C46.out _ K0).mono ?_
          rintro e w10 ⟨rfl, k⟩
          replace K0 := kept_trans K0 k; replace o0 := o0.kept k; replace o1 := o1.kept k
          clear q0 q1 q2 p0 p1 p2 k
          have q0 := o0.cell (j := 0) rfl
          have q1 := o0.cell (j := 1) rfl
          have q2 := o0.cell (j := 2) rfl
          have p0 := o1.cell (j := 0) rfl
          have p1 := o1.cell (j := 1) rfl
          have p2 := o1.cell (j := 2) rfl
          go_wp2_with fail
          refine (alive_any _).mono ?_
          rintro e w11 ⟨rfl, k⟩
          replace K0 := kept_trans K0 k; replace o0 := o0.kept k; replace o1 := o1.kept k
          clear q0 q1 q2 p0 p1 p2 k
          have q0 := o0.cell (j := 0) rfl
          have q1 := o0.cell (j := 1) rfl
          have q2 := o0.cell (j := 2) rfl
          have p0 := o1.cell (j := 0) rfl
          have p1 := o1.cell (j := 1) rfl
          have p2 := o1.cell (j := 2) rfl
          go_wp2_with fail
          go_ret
          exact ⟨ret_bool (by simp), K0⟩
        · rw [hs] at C36
          have C37 := Lib.hid fun (w' : World) (k : Kept w w') => rinputs37_any (cntF f) f A' c' w' (Nat.le_refl _) hs hl (hrf.kept k)
          have hib := inp_bounds _ f (Nat.le_refl _) hs
          by_cases hin : inpF f ≤ 3
          case neg =>
            have d1 : decide (inpF f ≤ 3) = false := decide_eq_false hin
            unfold fmV at *
            generalize inpF f = ip at *
            clear hs hr hrf hc hc2 hd hn hib hin hm
            go_enter Try.func10, Try.ntmps10
            go_wp2_with fail
            refine (F.out _).mono ?_
            rintro e w12 ⟨rfl, k⟩
            replace K0 := kept_trans K0 k; replace o0 := o0.kept k; replace o1 := o1.kept k
            clear q0 q1 q2 p0 p1 p2 k
            have q0 := o0.cell (j := 0) rfl
            have q1 := o0.cell (j := 1) rfl
            have q2 := o0.cell (j := 2) rfl
            have p0 := o1.cell (j := 0) rfl
            have p1 := o1.cell (j := 1) rfl
            have p2 := o1.cell (j := 2) rfl
            go_wp2_with fail
            have oS := Own.new w12 52 [.int .i64 f.k, .int .i64 f.n, .slice A' f.l.length c']
            have y0 := o0.lt; have y1 := o1.lt
            replace K0 := kept_alloc K0 (.cells #[.int .i64 f.k, .int .i64 f.n, .slice A' f.l.length c'] 52); replace o0 := o0.alloc (.cells #[.int .i64 f.k, .int .i64 f.n, .slice A' f.l.length c'] 52); replace o1 := o1.alloc (.cells #[.int .i64 f.k, .int .i64 f.n, .slice A' f.l.length c'] 52)
            clear q0 q1 q2 p0 p1 p2
            have q0 := o0.cell (j := 0) rfl
            have q1 := o0.cell (j := 1) rfl
            have q2 := o0.cell (j := 2) rfl
            have p0 := o1.cell (j := 0) rfl
            have p1 := o1.cell (j := 1) rfl
            have p2 := o1.cell (j := 2) rfl
            refine (F2.out _ _ K0 oS).mono ?_
            rintro e w13 ⟨rfl, k⟩
            replace K0 := kept_trans K0 k; replace o0 := o0.kept k; replace o1 := o1.kept k
            clear q0 q1 q2 p0 p1 p2 k
            have q0 := o0.cell (j := 0) rfl
            have q1 := o0.cell (j := 1) rfl
            have q2 := o0.cell (j := 2) rfl
            have p0 := o1.cell (j := 0) rfl
            have p1 := o1.cell (j := 1) rfl
            have p2 := o1.cell (j := 2) rfl
            go_wp2_with fail
            refine (C36.out _ K0).mono ?_
            rintro e w14 ⟨rfl, k⟩
            replace K0 := kept_trans K0 k; replace o0 := o0.kept k; replace o1 := o1.kept k
            clear q0 q1 q2 p0 p1 p2 k
            have q0 := o0.cell (j := 0) rfl
            have q1 := o0.cell (j := 1) rfl
            have q2 := o0.cell (j := 2) rfl
            have p0 := o1.cell (j := 0) rfl
            have p1 := o1.cell (j := 1) rfl
            have p2 := o1.cell (j := 2) rfl
            go_wp2_with fail
            refine (C37.out _ K0).mono ?_
            rintro e w15 ⟨rfl, k⟩
            replace K0 := kept_trans K0 k; replace o0 := o0.kept k; replace o1 := o1.kept k
            clear q0 q1 q2 p0 p1 p2 k
            have q0 := o0.cell (j := 0) rfl
            have q1 := o0.cell (j := 1) rfl
            have q2 := o0.cell (j := 2) rfl
            have p0 := o1.cell (j := 0) rfl
            have p1 := o1.cell (j := 1) rfl
            have p2 := o1.cell (j := 2) rfl
            go_wp2_with fail
            refine (C16.out _ K0).mono ?_
            rintro e w16 ⟨rfl, k⟩
            replace K0 := kept_trans K0 k; replace o0 := o0.kept k; replace o1 := o1.kept k
            clear q0 q1 q2 p0 p1 p2 k
            have q0 := o0.cell (j := 0) rfl
            have q1 := o0.cell (j := 1) rfl
            have q2 := o0.cell (j := 2) rfl
            have p0 := o1.cell (j := 0) rfl
            have p1 := o1.cell (j := 1) rfl
            have p2 := o1.cell (j := 2) rfl
            go_wp2_with fail
            refine (C46.out _ K0).mono ?_
            rintro e w17 ⟨rfl, k⟩
            replace K0 := kept_trans K0 k; replace o0 := o0.kept k; replace o1 := o1.kept k
            clear q0 q1 q2 p0 p1 p2 k
            have q0 := o0.cell (j := 0) rfl
            have q1 := o0.cell (j := 1) rfl
            have q2 := o0.cell (j := 2) rfl
            have p0 := o1.cell (j := 0) rfl
            have p1 := o1.cell (j := 1) rfl
            have p2 := o1.cell (j := 2) rfl
            go_wp2_with fail
            refine (alive_any _).mono ?_
            rintro e w18 ⟨rfl, k⟩
            replace K0 := kept_trans K0 k; replace o0 := o0.kept k; replace o1 := o1.kept k
            clear q0 q1 q2 p0 p1 p2 k
            have q0 := o0.cell (j := 0) rfl
            have q1 := o0.cell (j := 1) rfl
            have q2 := o0.cell (j := 2) rfl
            have p0 := o1.cell (j := 0) rfl
            have p1 := o1.cell (j := 1) rfl
            have p2 := o1.cell (j := 2) rfl
            go_wp2_with fail
            go_ret
            exact ⟨ret_bool (by simp), K0⟩
          case pos =>
            have d1 : decide (inpF f ≤ 3) = true := decide_eq_true hin
            have hgood := put_ok (n := 3) (cntF f) f (Nat.le_refl _) hs hin (-1) (-2) [] (fun k hk => by simp at hk) (.inl rfl) (.inr (.inl rfl))
            by_cases hbig : 20000 < (putF f (-1) (-2) []).2.length
            case pos =>
              have C44 := Lib.hid fun (w' : World) (k : Kept w w') => from_big f A' c' 3 w' hc2 hd hl (hrf.kept k) hs ⟨hin, by omega⟩ hbig
              unfold fmV BrBad at *
              generalize inpF f = ip at *
              clear hs hr hrf hc hc2 hd hn hib hin hgood hbig hm
              go_enter Try.func10, Try.ntmps10
              go_wp2_with fail
              refine (F.out _).mono ?_
              rintro e w19 ⟨rfl, k⟩
              replace K0 := kept_trans K0 k; replace o0 := o0.kept k; replace o1 := o1.kept k
              clear q0 q1 q2 p0 p1 p2 k
              have q0 := o0.cell (j := 0) rfl
              have q1 := o0.cell (j := 1) rfl
              have q2 := o0.cell (j := 2) rfl
              have p0 := o1.cell (j := 0) rfl
              have p1 := o1.cell (j := 1) rfl
              have p2 := o1.cell (j := 2) rfl
              go_wp2_with fail
              have oS := Own.new w19 52 [.int .i64 f.k, .int .i64 f.n, .slice A' f.l.length c']
              have y0 := o0.lt; have y1 := o1.lt
              replace K0 := kept_alloc K0 (.cells #[.int .i64 f.k, .int .i64 f.n, .slice A' f.l.length c'] 52); replace o0 := o0.alloc (.cells #[.int .i64 f.k, .int .i64 f.n, .slice A' f.l.length c'] 52); replace o1 := o1.alloc (.cells #[.int .i64 f.k, .int .i64 f.n, .slice A' f.l.length c'] 52)
              clear q0 q1 q2 p0 p1 p2
              have q0 := o0.cell (j := 0) rfl
              have q1 := o0.cell (j := 1) rfl
              have q2 := o0.cell (j := 2) rfl
              have p0 := o1.cell (j := 0) rfl
              have p1 := o1.cell (j := 1) rfl
              have p2 := o1.cell (j := 2) rfl
              refine (F2.out _ _ K0 oS).mono ?_
              rintro e w20 ⟨rfl, k⟩
              replace K0 := kept_trans K0 k; replace o0 := o0.kept k; replace o1 := o1.kept k
              clear q0 q1 q2 p0 p1 p2 k
              have q0 := o0.cell (j := 0) rfl
              have q1 := o0.cell (j := 1) rfl
              have q2 := o0.cell (j := 2) rfl
              have p0 := o1.cell (j := 0) rfl
              have p1 := o1.cell (j := 1) rfl
              have p2 := o1.cell (j := 2) rfl
              go_wp2_with fail
              refine (C36.out _ K0).mono ?_
              rintro e w21 ⟨rfl, k⟩
              replace K0 := kept_trans K0 k; replace o0 := o0.kept k; replace o1 := o1.kept k
              clear q0 q1 q2 p0 p1 p2 k
              have q0 := o0.cell (j := 0) rfl
              have q1 := o0.cell (j := 1) rfl
              have q2 := o0.cell (j := 2) rfl
              have p0 := o1.cell (j := 0) rfl
              have p1 := o1.cell (j := 1) rfl
              have p2 := o1.cell (j := 2) rfl
              go_wp2_with fail
              refine (C37.out _ K0).mono ?_
              rintro e w22 ⟨rfl, k⟩
              replace K0 := kept_trans K0 k; replace o0 := o0.kept k; replace o1 := o1.kept k
              clear q0 q1 q2 p0 p1 p2 k
              have q0 := o0.cell (j := 0) rfl
              have q1 := o0.cell (j := 1) rfl
              have q2 := o0.cell (j := 2) rfl
              have p0 := o1.cell (j := 0) rfl
              have p1 := o1.cell (j := 1) rfl
              have p2 := o1.cell (j := 2) rfl
              go_wp2_with fail
              refine (C44.out _ K0).mono ?_
              rintro e w23 ⟨rfl, k⟩
              have oC := Own.new w23 24 [.int .i64 0, .int .i64 0, .slice none 0 0]
              replace K0 := kept_trans K0 k; replace o0 := o0.kept k; replace o1 := o1.kept k
              have zz := o0.lt; have z1 := o1.lt
              replace K0 := kept_alloc K0 (.cells ([.int .i64 0, .int .i64 0, .slice none 0 0]).toArray 24); replace o0 := o0.alloc (.cells ([.int .i64 0, .int .i64 0, .slice none 0 0]).toArray 24); replace o1 := o1.alloc (.cells ([.int .i64 0, .int .i64 0, .slice none 0 0]).toArray 24)
              clear q0 q1 q2 p0 p1 p2 k
              have q0 := o0.cell (j := 0) rfl
              have q1 := o0.cell (j := 1) rfl
              have q2 := o0.cell (j := 2) rfl
              have p0 := o1.cell (j := 0) rfl
              have p1 := o1.cell (j := 1) rfl
              have p2 := o1.cell (j := 2) rfl
              have r0 := oC.cell (j := 0) rfl
              have r1 := oC.cell (j := 1) rfl
              have r2 := oC.cell (j := 2) rfl
              go_wp2_with fail
              refine (C16.out _ K0).mono ?_
              rintro e w24 ⟨rfl, k⟩
              replace K0 := kept_trans K0 k; replace o0 := o0.kept k; replace o1 := o1.kept k; replace oC := oC.kept k
              clear q0 q1 q2 p0 p1 p2 r0 r1 r2 k
              have q0 := o0.cell (j := 0) rfl
              have q1 := o0.cell (j := 1) rfl
              have q2 := o0.cell (j := 2) rfl
              have p0 := o1.cell (j := 0) rfl
              have p1 := o1.cell (j := 1) rfl
              have p2 := o1.cell (j := 2) rfl
              have r0 := oC.cell (j := 0) rfl
              have r1 := oC.cell (j := 1) rfl
              have r2 := oC.cell (j := 2) rfl
              go_wp2_with fail
              refine (C46.out _ K0).mono ?_
              rintro e w25 ⟨rfl, k⟩
              replace K0 := kept_trans K0 k; replace o0 := o0.kept k; replace o1 := o1.kept k; replace oC := oC.kept k
              clear q0 q1 q2 p0 p1 p2 r0 r1 r2 k
              have q0 := o0.cell (j := 0) rfl
              have q1 := o0.cell (j := 1) rfl
              have q2 := o0.cell (j := 2) rfl
              have p0 := o1.cell (j := 0) rfl
              have p1 := o1.cell (j := 1) rfl
              have p2 := o1.cell (j := 2) rfl
              have r0 := oC.cell (j := 0) rfl
              have r1 := oC.cell (j := 1) rfl
              have r2 := oC.cell (j := 2) rfl
              go_wp2_with fail
              refine (alive_any _).mono ?_
              rintro e w26 ⟨rfl, k⟩
              replace K0 := kept_trans K0 k; replace o0 := o0.kept k; replace o1 := o1.kept k; replace oC := oC.kept k
              clear q0 q1 q2 p0 p1 p2 r0 r1 r2 k
              have q0 := o0.cell (j := 0) rfl
              have q1 := o0.cell (j := 1) rfl
              have q2 := o0.cell (j := 2) rfl
              have p0 := o1.cell (j := 0) rfl
              have p1 := o1.cell (j := 1) rfl
              have p2 := o1.cell (j := 2) rfl
              have r0 := oC.cell (j := 0) rfl
              have r1 := oC.cell (j := 1) rfl
              have r2 := oC.cell (j := 2) rfl
              go_wp2_with fail
              go_ret
              exact ⟨ret_bool (by simp), K0⟩
            case neg =>
              have hsm : (putF f (-1) (-2) []).2.length ≤ 20000 := by omega
              have C44 := Lib.hid fun (w' : World) (k : Kept w w') => from_good f A' c' ((3 : Nat) : Int) w' hc2 hd hl (hrf.kept k) hs ⟨hin, by omega⟩ hsm
              obtain ⟨ht, hall⟩ := turned_gen (n := ((3 : Nat) : Int)) (by omega) (by omega) hsm hgood.good hgood.ref
              have B46 := fun (w' : World) (A1 : Option Addr) (c1 : Nat) (h : RN w' A1 (tnodes (putF f (-1) (-2) []).2)) => below_any 3 (by omega) _ A1 c1 _ w' h ht
              generalize tn (putF f (-1) (-2) []).2.length (putF f (-1) (-2) []).1 = rs at *
              generalize tnodes (putF f (-1) (-2) []).2 = rn at *
              replace B46 := Lib.hid B46
              have hln := (valid_start ht).2.2.1
              unfold fmV BrIs at *
              generalize inpF f = ip at *
              clear hs hr hrf hc hc2 hd hn hib hin hgood hbig hsm ht hall hm
              go_enter Try.func10, Try.ntmps10
              go_wp2_with fail
              refine (F.out _).mono ?_
              rintro e w27 ⟨rfl, k⟩
              replace K0 := kept_trans K0 k; replace o0 := o0.kept k; replace o1 := o1.kept k
              clear q0 q1 q2 p0 p1 p2 k
              have q0 := o0.cell (j := 0) rfl
              have q1 := o0.cell (j := 1) rfl
              have q2 := o0.cell (j := 2) rfl
              have p0 := o1.cell (j := 0) rfl
              have p1 := o1.cell (j := 1) rfl
              have p2 := o1.cell (j := 2) rfl
              go_wp2_with fail
              have oS := Own.new w27 52 [.int .i64 f.k, .int .i64 f.n, .slice A' f.l.length c']
              have y0 := o0.lt; have y1 := o1.lt
              replace K0 := kept_alloc K0 (.cells #[.int .i64 f.k, .int .i64 f.n, .slice A' f.l.length c'] 52); replace o0 := o0.alloc (.cells #[.int .i64 f.k, .int .i64 f.n, .slice A' f.l.length c'] 52); replace o1 := o1.alloc (.cells #[.int .i64 f.k, .int .i64 f.n, .slice A' f.l.length c'] 52)
              clear q0 q1 q2 p0 p1 p2
              have q0 := o0.cell (j := 0) rfl
              have q1 := o0.cell (j := 1) rfl
              have q2 := o0.cell (j := 2) rfl
              have p0 := o1.cell (j := 0) rfl
              have p1 := o1.cell (j := 1) rfl
              have p2 := o1.cell (j := 2) rfl
              refine (F2.out _ _ K0 oS).mono ?_
              rintro e w28 ⟨rfl, k⟩
              replace K0 := kept_trans K0 k; replace o0 := o0.kept k; replace o1 := o1.kept k
              clear q0 q1 q2 p0 p1 p2 k
              have q0 := o0.cell (j := 0) rfl
              have q1 := o0.cell (j := 1) rfl
              have q2 := o0.cell (j := 2) rfl
              have p0 := o1.cell (j := 0) rfl
              have p1 := o1.cell (j := 1) rfl
              have p2 := o1.cell (j := 2) rfl
              go_wp2_with fail
              refine (C36.out _ K0).mono ?_
              rintro e w29 ⟨rfl, k⟩
              replace K0 := kept_trans K0 k; replace o0 := o0.kept k; replace o1 := o1.kept k
              clear q0 q1 q2 p0 p1 p2 k
              have q0 := o0.cell (j := 0) rfl
              have q1 := o0.cell (j := 1) rfl
              have q2 := o0.cell (j := 2) rfl
              have p0 := o1.cell (j := 0) rfl
              have p1 := o1.cell (j := 1) rfl
              have p2 := o1.cell (j := 2) rfl
              go_wp2_with fail
              refine (C37.out _ K0).mono ?_
              rintro e w30 ⟨rfl, k⟩
              replace K0 := kept_trans K0 k; replace o0 := o0.kept k; replace o1 := o1.kept k
              clear q0 q1 q2 p0 p1 p2 k
              have q0 := o0.cell (j := 0) rfl
              have q1 := o0.cell (j := 1) rfl
              have q2 := o0.cell (j := 2) rfl
              have p0 := o1.cell (j := 0) rfl
              have p1 := o1.cell (j := 1) rfl
              have p2 := o1.cell (j := 2) rfl
              go_wp2_with fail
              refine (C44.out _ K0).mono ?_
              rintro e w31 ⟨v, rfl, A1, c1, rfl, hrow, k⟩
              have oC := Own.new w31 24 [.int .i64 ((3 : Nat) : Int), .int .i64 rs, .slice A1 rn.length c1]
              have hC : RN w31 A1 rn := row_rd hrow; clear hrow; replace hC := Rd.kept hC (kept_alloc (kept_refl _) (.cells ([.int .i64 ((3 : Nat) : Int), .int .i64 rs, .slice A1 rn.length c1]).toArray 24))
              replace K0 := kept_trans K0 k; replace o0 := o0.kept k; replace o1 := o1.kept k
              have zz := o0.lt; have z1 := o1.lt
              replace K0 := kept_alloc K0 (.cells ([.int .i64 ((3 : Nat) : Int), .int .i64 rs, .slice A1 rn.length c1]).toArray 24); replace o0 := o0.alloc (.cells ([.int .i64 ((3 : Nat) : Int), .int .i64 rs, .slice A1 rn.length c1]).toArray 24); replace o1 := o1.alloc (.cells ([.int .i64 ((3 : Nat) : Int), .int .i64 rs, .slice A1 rn.length c1]).toArray 24)
              clear q0 q1 q2 p0 p1 p2 k
              have q0 := o0.cell (j := 0) rfl
              have q1 := o0.cell (j := 1) rfl
              have q2 := o0.cell (j := 2) rfl
              have p0 := o1.cell (j := 0) rfl
              have p1 := o1.cell (j := 1) rfl
              have p2 := o1.cell (j := 2) rfl
              have r0 := oC.cell (j := 0) rfl
              have r1 := oC.cell (j := 1) rfl
              have r2 := oC.cell (j := 2) rfl
              go_wp2_with fail
              refine (B46.out _ _ _ hC).mono ?_
              rintro e w32 ⟨rfl, k⟩
              replace K0 := kept_trans K0 k; replace o0 := o0.kept k; replace o1 := o1.kept k; replace oC := oC.kept k
              clear q0 q1 q2 p0 p1 p2 r0 r1 r2 k
              have q0 := o0.cell (j := 0) rfl
              have q1 := o0.cell (j := 1) rfl
              have q2 := o0.cell (j := 2) rfl
              have p0 := o1.cell (j := 0) rfl
              have p1 := o1.cell (j := 1) rfl
              have p2 := o1.cell (j := 2) rfl
              have r0 := oC.cell (j := 0) rfl
              have r1 := oC.cell (j := 1) rfl
              have r2 := oC.cell (j := 2) rfl
              go_wp2_with fail
              refine (C16.out _ K0).mono ?_
              rintro e w33 ⟨rfl, k⟩
              replace K0 := kept_trans K0 k; replace o0 := o0.kept k; replace o1 := o1.kept k; replace oC := oC.kept k
              clear q0 q1 q2 p0 p1 p2 r0 r1 r2 k
              have q0 := o0.cell (j := 0) rfl
              have q1 := o0.cell (j := 1) rfl
              have q2 := o0.cell (j := 2) rfl
              have p0 := o1.cell (j := 0) rfl
              have p1 := o1.cell (j := 1) rfl
              have p2 := o1.cell (j := 2) rfl
              have r0 := oC.cell (j := 0) rfl
              have r1 := oC.cell (j := 1) rfl
              have r2 := oC.cell (j := 2) rfl
              go_wp2_with fail
              refine (C46.out _ K0).mono ?_
              rintro e w34 ⟨rfl, k⟩
              replace K0 := kept_trans K0 k; replace o0 := o0.kept k; replace o1 := o1.kept k; replace oC := oC.kept k
              clear q0 q1 q2 p0 p1 p2 r0 r1 r2 k
              have q0 := o0.cell (j := 0) rfl
              have q1 := o0.cell (j := 1) rfl
              have q2 := o0.cell (j := 2) rfl
              have p0 := o1.cell (j := 0) rfl
              have p1 := o1.cell (j := 1) rfl
              have p2 := o1.cell (j := 2) rfl
              have r0 := oC.cell (j := 0) rfl
              have r1 := oC.cell (j := 1) rfl
              have r2 := oC.cell (j := 2) rfl
              go_wp2_with fail
              refine (alive_any _).mono ?_
              rintro e w35 ⟨rfl, k⟩
              replace K0 := kept_trans K0 k; replace o0 := o0.kept k; replace o1 := o1.kept k; replace oC := oC.kept k
              clear q0 q1 q2 p0 p1 p2 r0 r1 r2 k
              have q0 := o0.cell (j := 0) rfl
              have q1 := o0.cell (j := 1) rfl
              have q2 := o0.cell (j := 2) rfl
              have p0 := o1.cell (j := 0) rfl
              have p1 := o1.cell (j := 1) rfl
              have p2 := o1.cell (j := 2) rfl
              have r0 := oC.cell (j := 0) rfl
              have r1 := oC.cell (j := 1) rfl
              have r2 := oC.cell (j := 2) rfl
              go_wp2_with fail
              go_ret
              exact ⟨ret_bool (by simp), K0⟩
      · cases hs : shpF f
        · rw [hs] at C36
          clear hs hr hrf hc hc2 hd hn hm
          unfold fmV at *
          go_enter Try.func10, Try.ntmps10
          go_wp2_with fail
          refine (F.out _).mono ?_
          rintro e w36 ⟨rfl, k⟩
          replace K0 := kept_trans K0 k; replace o0 := o0.kept k; replace o1 := o1.kept k
          clear q0 q1 q2 p0 p1 p2 k
          have q0 := o0.cell (j := 0) rfl
          have q1 := o0.cell (j := 1) rfl
          have q2 := o0.cell (j := 2) rfl
          have p0 := o1.cell (j := 0) rfl
          have p1 := o1.cell (j := 1) rfl
          have p2 := o1.cell (j := 2) rfl
          go_wp2_with fail
          have oS := Own.new w36 52 [.int .i64 f.k, .int .i64 f.n, .slice A' f.l.length c']
          have y0 := o0.lt; have y1 := o1.lt
          replace K0 := kept_alloc K0 (.cells #[.int .i64 f.k, .int .i64 f.n, .slice A' f.l.length c'] 52); replace o0 := o0.alloc (.cells #[.int .i64 f.k, .int .i64 f.n, .slice A' f.l.length c'] 52); replace o1 := o1.alloc (.cells #[.int .i64 f.k, .int .i64 f.n, .slice A' f.l.length c'] 52)
          clear q0 q1 q2 p0 p1 p2
          have q0 := o0.cell (j := 0) rfl
          have q1 := o0.cell (j := 1) rfl
          have q2 := o0.cell (j := 2) rfl
          have p0 := o1.cell (j := 0) rfl
          have p1 := o1.cell (j := 1) rfl
          have p2 := o1.cell (j := 2) rfl
          refine (F2.out _ _ K0 oS).mono ?_
          rintro e w37 ⟨rfl, k⟩
          replace K0 := kept_trans K0 k; replace o0 := o0.kept k; replace o1 := o1.kept k
          clear q0 q1 q2 p0 p1 p2 k
          have q0 := o0.cell (j := 0) rfl
          have q1 := o0.cell (j := 1) rfl
          have q2 := o0.cell (j := 2) rfl
          have p0 := o1.cell (j := 0) rfl
          have p1 := o1.cell (j := 1) rfl
          have p2 := o1.cell (j := 2) rfl
          go_wp2_with fail
          refine (C36.out _ K0).mono ?_
          rintro e w38 ⟨rfl, k⟩
          replace K0 := kept_trans K0 k; replace o0 := o0.kept k; replace o1 := o1.kept k
          clear q0 q1 q2 p0 p1 p2 k
          have q0 := o0.cell (j := 0) rfl
          have q1 := o0.cell (j := 1) rfl
          have q2 := o0.cell (j := 2) rfl
          have p0 := o1.cell (j := 0) rfl
          have p1 := o1.cell (j := 1) rfl
          have p2 := o1.cell (j := 2) rfl
          go_wp2_with fail
          refine (C16.out _ K0).mono ?_
          rintro e w39 ⟨rfl, k⟩
          replace K0 := kept_trans K0 k; replace o0 := o0.kept k; replace o1 := o1.kept k
          clear q0 q1 q2 p0 p1 p2 k
          have q0 := o0.cell (j := 0) rfl
          have q1 := o0.cell (j := 1) rfl
          have q2 := o0.cell (j := 2) rfl
          have p0 := o1.cell (j := 0) rfl
          have p1 := o1.cell (j := 1) rfl
          have p2 := o1.cell (j := 2) rfl
          go_wp2_with fail
          refine (alive_any _).mono ?_
          rintro e w40 ⟨rfl, k⟩
          replace K0 := kept_trans K0 k; replace o0 := o0.kept k; replace o1 := o1.kept k
          clear q0 q1 q2 p0 p1 p2 k
          have q0 := o0.cell (j := 0) rfl
          have q1 := o0.cell (j := 1) rfl
          have q2 := o0.cell (j := 2) rfl
          have p0 := o1.cell (j := 0) rfl
          have p1 := o1.cell (j := 1) rfl
          have p2 := o1.cell (j := 2) rfl
          go_wp2_with fail
          go_ret
          exact ⟨ret_bool (by simp), K0⟩
        · rw [hs] at C36
          have C37 := Lib.hid fun (w' : World) (k : Kept w w') => rinputs37_any (cntF f) f A' c' w' (Nat.le_refl _) hs hl (hrf.kept k)
          have hib := inp_bounds _ f (Nat.le_refl _) hs
          by_cases hin : inpF f ≤ 3
          case neg =>
            have d1 : decide (inpF f ≤ 3) = false := decide_eq_false hin
            unfold fmV at *
            generalize inpF f = ip at *
            clear hs hr hrf hc hc2 hd hn hib hin hm
            go_enter Try.func10, Try.ntmps10
            go_wp2_with fail
            refine (F.out _).mono ?_
            rintro e w41 ⟨rfl, k⟩
            replace K0 := kept_trans K0 k; replace o0 := o0.kept k; replace o1 := o1.kept k
            clear q0 q1 q2 p0 p1 p2 k
            have q0 := o0.cell (j := 0) rfl
            have q1 := o0.cell (j := 1) rfl
            have q2 := o0.cell (j := 2) rfl
            have p0 := o1.cell (j := 0) rfl
            have p1 := o1.cell (j := 1) rfl
            have p2 := o1.cell (j := 2) rfl
            go_wp2_with fail
            have oS := Own.new w41 52 [.int .i64 f.k, .int .i64 f.n, .slice A' f.l.length c']
            have y0 := o0.lt; have y1 := o1.lt
            replace K0 := kept_alloc K0 (.cells #[.int .i64 f.k, .int .i64 f.n, .slice A' f.l.length c'] 52); replace o0 := o0.alloc (.cells #[.int .i64 f.k, .int .i64 f.n, .slice A' f.l.length c'] 52); replace o1 := o1.alloc (.cells #[.int .i64 f.k, .int .i64 f.n, .slice A' f.l.length c'] 52)
            clear q0 q1 q2 p0 p1 p2
            have q0 := o0.cell (j := 0) rfl
            have q1 := o0.cell (j := 1) rfl
            have q2 := o0.cell (j := 2) rfl
            have p0 := o1.cell (j := 0) rfl
            have p1 := o1.cell (j := 1) rfl
            have p2 := o1.cell (j := 2) rfl
            refine (F2.out _ _ K0 oS).mono ?_
            rintro e w42 ⟨rfl, k⟩
            replace K0 := kept_trans K0 k; replace o0 := o0.kept k; replace o1 := o1.kept k
            clear q0 q1 q2 p0 p1 p2 k
            have q0 := o0.cell (j := 0) rfl
            have q1 := o0.cell (j := 1) rfl
            have q2 := o0.cell (j := 2) rfl
            have p0 := o1.cell (j := 0) rfl
            have p1 := o1.cell (j := 1) rfl
            have p2 := o1.cell (j := 2) rfl
            go_wp2_with fail
            refine (C36.out _ K0).mono ?_
            rintro e w43 ⟨rfl, k⟩
            replace K0 := kept_trans K0 k; replace o0 := o0.kept k; replace o1 := o1.kept k
            clear q0 q1 q2 p0 p1 p2 k
            have q0 := o0.cell (j := 0) rfl
            have q1 := o0.cell (j := 1) rfl
            have q2 := o0.cell (j := 2) rfl
            have p0 := o1.cell (j := 0) rfl
            have p1 := o1.cell (j := 1) rfl
            have p2 := o1.cell (j := 2) rfl
            go_wp2_with fail
            refine (C37.out _ K0).mono ?_
            rintro e w44 ⟨rfl, k⟩
            replace K0 := kept_trans K0 k; replace o0 := o0.kept k; replace o1 := o1.kept k
            clear q0 q1 q2 p0 p1 p2 k
            have q0 := o0.cell (j := 0) rfl
            have q1 := o0.cell (j := 1) rfl
            have q2 := o0.cell (j := 2) rfl
            have p0 := o1.cell (j := 0) rfl
            have p1 := o1.cell (j := 1) rfl
            have p2 := o1.cell (j := 2) rfl
            go_wp2_with fail
            refine (C16.out _ K0).mono ?_
            rintro e w45 ⟨rfl, k⟩
            replace K0 := kept_trans K0 k; replace o0 := o0.kept k; replace o1 := o1.kept k
            clear q0 q1 q2 p0 p1 p2 k
            have q0 := o0.cell (j := 0) rfl
            have q1 := o0.cell (j := 1) rfl
            have q2 := o0.cell (j := 2) rfl
            have p0 := o1.cell (j := 0) rfl
            have p1 := o1.cell (j := 1) rfl
            have p2 := o1.cell (j := 2) rfl
            go_wp2_with fail
            refine (alive_any _).mono ?_
            rintro e w46 ⟨rfl, k⟩
            replace K0 := kept_trans K0 k; replace o0 := o0.kept k; replace o1 := o1.kept k
            clear q0 q1 q2 p0 p1 p2 k
            have q0 := o0.cell (j := 0) rfl
            have q1 := o0.cell (j := 1) rfl
            have q2 := o0.cell (j := 2) rfl
            have p0 := o1.cell (j := 0) rfl
            have p1 := o1.cell (j := 1) rfl
            have p2 := o1.cell (j := 2) rfl
            go_wp2_with fail
            go_ret
            exact ⟨ret_bool (by simp), K0⟩
          case pos =>
            have d1 : decide (inpF f ≤ 3) = true := decide_eq_true hin
            have hgood := put_ok (n := 3) (cntF f) f (Nat.le_refl _) hs hin (-1) (-2) [] (fun k hk => by simp at hk) (.inl rfl) (.inr (.inl rfl))
            by_cases hbig : 20000 < (putF f (-1) (-2) []).2.length
            case pos =>
              have C44 := Lib.hid fun (w' : World) (k : Kept w w') => from_big f A' c' 3 w' hc2 hd hl (hrf.kept k) hs ⟨hin, by omega⟩ hbig
              unfold fmV BrBad at *
              generalize inpF f = ip at *
              clear hs hr hrf hc hc2 hd hn hib hin hgood hbig hm
              go_enter Try.func10, Try.ntmps10
              go_wp2_with fail
              refine (F.out _).mono ?_
              rintro e w47 ⟨rfl, k⟩
              replace K0 := kept_trans K0 k; replace o0 := o0.kept k; replace o1 := o1.kept k
              clear q0 q1 q2 p0 p1 p2 k
              have q0 := o0.cell (j := 0) rfl
              have q1 := o0.cell (j := 1) rfl
              have q2 := o0.cell (j := 2) rfl
              have p0 := o1.cell (j := 0) rfl
              have p1 := o1.cell (j := 1) rfl
              have p2 := o1.cell (j := 2) rfl
              go_wp2_with fail
              have oS := Own.new w47 52 [.int .i64 f.k, .int .i64 f.n, .slice A' f.l.length c']
              have y0 := o0.lt; have y1 := o1.lt
              replace K0 := kept_alloc K0 (.cells #[.int .i64 f.k, .int .i64 f.n, .slice A' f.l.length c'] 52); replace o0 := o0.alloc (.cells #[.int .i64 f.k, .int .i64 f.n, .slice A' f.l.length c'] 52); replace o1 := o1.alloc (.cells #[.int .i64 f.k, .int .i64 f.n, .slice A' f.l.length c'] 52)
              clear q0 q1 q2 p0 p1 p2
              have q0 := o0.cell (j := 0) rfl
              have q1 := o0.cell (j := 1) rfl
              have q2 := o0.cell (j := 2) rfl
              have p0 := o1.cell (j := 0) rfl
              have p1 := o1.cell (j := 1) rfl
              have p2 := o1.cell (j := 2) rfl
              refine (F2.out _ _ K0 oS).mono ?_
              rintro e w48 ⟨rfl, k⟩
              replace K0 := kept_trans K0 k; replace o0 := o0.kept k; replace o1 := o1.kept k
              clear q0 q1 q2 p0 p1 p2 k
              have q0 := o0.cell (j := 0) rfl
              have q1 := o0.cell (j := 1) rfl
              have q2 := o0.cell (j := 2) rfl
              have p0 := o1.cell (j := 0) rfl
              have p1 := o1.cell (j := 1) rfl
              have p2 := o1.cell (j := 2) rfl
              go_wp2_with fail
              refine (C36.out _ K0).mono ?_
              rintro e w49 ⟨rfl, k⟩
              replace K0 := kept_trans K0 k; replace o0 := o0.kept k; replace o1 := o1.kept k
              clear q0 q1 q2 p0 p1 p2 k
              have q0 := o0.cell (j := 0) rfl
              have q1 := o0.cell (j := 1) rfl
              have q2 := o0.cell (j := 2) rfl
              have p0 := o1.cell (j := 0) rfl
              have p1 := o1.cell (j := 1) rfl
              have p2 := o1.cell (j := 2) rfl
              go_wp2_with fail
              refine (C37.out _ K0).mono ?_
              rintro e w50 ⟨rfl, k⟩
              replace K0 := kept_trans K0 k; replace o0 := o0.kept k; replace o1 := o1.kept k
              clear q0 q1 q2 p0 p1 p2 k
              have q0 := o0.cell (j := 0) rfl
              have q1 := o0.cell (j := 1) rfl
              have q2 := o0.cell (j := 2) rfl
              have p0 := o1.cell (j := 0) rfl
              have p1 := o1.cell (j := 1) rfl
              have p2 := o1.cell (j := 2) rfl
              go_wp2_with fail
              refine (C44.out _ K0).mono ?_
              rintro e w51 ⟨rfl, k⟩
              have oC := Own.new w51 24 [.int .i64 0, .int .i64 0, .slice none 0 0]
              replace K0 := kept_trans K0 k; replace o0 := o0.kept k; replace o1 := o1.kept k
              have zz := o0.lt; have z1 := o1.lt
              replace K0 := kept_alloc K0 (.cells ([.int .i64 0, .int .i64 0, .slice none 0 0]).toArray 24); replace o0 := o0.alloc (.cells ([.int .i64 0, .int .i64 0, .slice none 0 0]).toArray 24); replace o1 := o1.alloc (.cells ([.int .i64 0, .int .i64 0, .slice none 0 0]).toArray 24)
              clear q0 q1 q2 p0 p1 p2 k
              have q0 := o0.cell (j := 0) rfl
              have q1 := o0.cell (j := 1) rfl
              have q2 := o0.cell (j := 2) rfl
              have p0 := o1.cell (j := 0) rfl
              have p1 := o1.cell (j := 1) rfl
              have p2 := o1.cell (j := 2) rfl
              have r0 := oC.cell (j := 0) rfl
              have r1 := oC.cell (j := 1) rfl
              have r2 := oC.cell (j := 2) rfl
              go_wp2_with fail
              refine (C16.out _ K0).mono ?_
              rintro e w52 ⟨rfl, k⟩
              replace K0 := kept_trans K0 k; replace o0 := o0.kept k; replace o1 := o1.kept k; replace oC := oC.kept k
              clear q0 q1 q2 p0 p1 p2 r0 r1 r2 k
              have q0 := o0.cell (j := 0) rfl
              have q1 := o0.cell (j := 1) rfl
              have q2 := o0.cell (j := 2) rfl
              have p0 := o1.cell (j := 0) rfl
              have p1 := o1.cell (j := 1) rfl
              have p2 := o1.cell (j := 2) rfl
              have r0 := oC.cell (j := 0) rfl
              have r1 := oC.cell (j := 1) rfl
              have r2 := oC.cell (j := 2) rfl
              go_wp2_with fail
              refine (alive_any _).mono ?_
              rintro e w53 ⟨rfl, k⟩
              replace K0 := kept_trans K0 k; replace o0 := o0.kept k; replace o1 := o1.kept k; replace oC := oC.kept k
              clear q0 q1 q2 p0 p1 p2 r0 r1 r2 k
              have q0 := o0.cell (j := 0) rfl
              have q1 := o0.cell (j := 1) rfl
              have q2 := o0.cell (j := 2) rfl
              have p0 := o1.cell (j := 0) rfl
              have p1 := o1.cell (j := 1) rfl
              have p2 := o1.cell (j := 2) rfl
              have r0 := oC.cell (j := 0) rfl
              have r1 := oC.cell (j := 1) rfl
              have r2 := oC.cell (j := 2) rfl
              go_wp2_with fail
              go_ret
              exact ⟨ret_bool (by simp), K0⟩
            case neg =>
              have hsm : (putF f (-1) (-2) []).2.length ≤ 20000 := by omega
              have C44 := Lib.hid fun (w' : World) (k : Kept w w') => from_good f A' c' ((3 : Nat) : Int) w' hc2 hd hl (hrf.kept k) hs ⟨hin, by omega⟩ hsm
              obtain ⟨ht, hall⟩ := turned_gen (n := ((3 : Nat) : Int)) (by omega) (by omega) hsm hgood.good hgood.ref
              have B46 := fun (w' : World) (A1 : Option Addr) (c1 : Nat) (h : RN w' A1 (tnodes (putF f (-1) (-2) []).2)) => below_any 3 (by omega) _ A1 c1 _ w' h ht
              generalize tn (putF f (-1) (-2) []).2.length (putF f (-1) (-2) []).1 = rs at *
              generalize tnodes (putF f (-1) (-2) []).2 = rn at *
              replace B46 := Lib.hid B46
              have hln := (valid_start ht).2.2.1
              unfold fmV BrIs at *
              generalize inpF f = ip at *
              clear hs hr hrf hc hc2 hd hn hib hin hgood hbig hsm ht hall hm
              go_enter Try.func10, Try.ntmps10
              go_wp2_with fail
              refine (F.out _).mono ?_
              rintro e w54 ⟨rfl, k⟩
              replace K0 := kept_trans K0 k; replace o0 := o0.kept k; replace o1 := o1.kept k
              clear q0 q1 q2 p0 p1 p2 k
              have q0 := o0.cell (j := 0) rfl
              have q1 := o0.cell (j := 1) rfl
              have q2 := o0.cell (j := 2) rfl
              have p0 := o1.cell (j := 0) rfl
              have p1 := o1.cell (j := 1) rfl
              have p2 := o1.cell (j := 2) rfl
              go_wp2_with fail
              have oS := Own.new w54 52 [.int .i64 f.k, .int .i64 f.n, .slice A' f.l.length c']
              have y0 := o0.lt; have y1 := o1.lt
              replace K0 := kept_alloc K0 (.cells #[.int .i64 f.k, .int .i64 f.n, .slice A' f.l.length c'] 52); replace o0 := o0.alloc (.cells #[.int .i64 f.k, .int .i64 f.n, .slice A' f.l.length c'] 52); replace o1 := o1.alloc (.cells #[.int .i64 f.k, .int .i64 f.n, .slice A' f.l.length c'] 52)
              clear q0 q1 q2 p0 p1 p2
              have q0 := o0.cell (j := 0) rfl
              have q1 := o0.cell (j := 1) rfl
              have q2 := o0.cell (j := 2) rfl
              have p0 := o1.cell (j := 0) rfl
              have p1 := o1.cell (j := 1) rfl
              have p2 := o1.cell (j := 2) rfl
              refine (F2.out _ _ K0 oS).mono ?_
              rintro e w55 ⟨rfl, k⟩
              replace K0 := kept_trans K0 k; replace o0 := o0.kept k; replace o1 := o1.kept k
              clear q0 q1 q2 p0 p1 p2 k
              have q0 := o0.cell (j := 0) rfl
              have q1 := o0.cell (j := 1) rfl
              have q2 := o0.cell (j := 2) rfl
              have p0 := o1.cell (j := 0) rfl
              have p1 := o1.cell (j := 1) rfl
              have p2 := o1.cell (j := 2) rfl
              go_wp2_with fail
              refine (C36.out _ K0).mono ?_
              rintro e w56 ⟨rfl, k⟩
              replace K0 := kept_trans K0 k; replace o0 := o0.kept k; replace o1 := o1.kept k
              clear q0 q1 q2 p0 p1 p2 k
              have q0 := o0.cell (j := 0) rfl
              have q1 := o0.cell (j := 1) rfl
              have q2 := o0.cell (j := 2) rfl
              have p0 := o1.cell (j := 0) rfl
              have p1 := o1.cell (j := 1) rfl
              have p2 := o1.cell (j := 2) rfl
              go_wp2_with fail
              refine (C37.out _ K0).mono ?_
              rintro e w57 ⟨rfl, k⟩
              replace K0 := kept_trans K0 k; replace o0 := o0.kept k; replace o1 := o1.kept k
              clear q0 q1 q2 p0 p1 p2 k
              have q0 := o0.cell (j := 0) rfl
              have q1 := o0.cell (j := 1) rfl
              have q2 := o0.cell (j := 2) rfl
              have p0 := o1.cell (j := 0) rfl
              have p1 := o1.cell (j := 1) rfl
              have p2 := o1.cell (j := 2) rfl
              go_wp2_with fail
              refine (C44.out _ K0).mono ?_
              rintro e w58 ⟨v, rfl, A1, c1, rfl, hrow, k⟩
              have oC := Own.new w58 24 [.int .i64 ((3 : Nat) : Int), .int .i64 rs, .slice A1 rn.length c1]
              have hC : RN w58 A1 rn := row_rd hrow; clear hrow; replace hC := Rd.kept hC (kept_alloc (kept_refl _) (.cells ([.int .i64 ((3 : Nat) : Int), .int .i64 rs, .slice A1 rn.length c1]).toArray 24))
              replace K0 := kept_trans K0 k; replace o0 := o0.kept k; replace o1 := o1.kept k
              have zz := o0.lt; have z1 := o1.lt
              replace K0 := kept_alloc K0 (.cells ([.int .i64 ((3 : Nat) : Int), .int .i64 rs, .slice A1 rn.length c1]).toArray 24); replace o0 := o0.alloc (.cells ([.int .i64 ((3 : Nat) : Int), .int .i64 rs, .slice A1 rn.length c1]).toArray 24); replace o1 := o1.alloc (.cells ([.int .i64 ((3 : Nat) : Int), .int .i64 rs, .slice A1 rn.length c1]).toArray 24)
              clear q0 q1 q2 p0 p1 p2 k
              have q0 := o0.cell (j := 0) rfl
              have q1 := o0.cell (j := 1) rfl
              have q2 := o0.cell (j := 2) rfl
              have p0 := o1.cell (j := 0) rfl
              have p1 := o1.cell (j := 1) rfl
              have p2 := o1.cell (j := 2) rfl
              have r0 := oC.cell (j := 0) rfl
              have r1 := oC.cell (j := 1) rfl
              have r2 := oC.cell (j := 2) rfl
              go_wp2_with fail
              refine (B46.out _ _ _ hC).mono ?_
              rintro e w59 ⟨rfl, k⟩
              replace K0 := kept_trans K0 k; replace o0 := o0.kept k; replace o1 := o1.kept k; replace oC := oC.kept k
              clear q0 q1 q2 p0 p1 p2 r0 r1 r2 k
              have q0 := o0.cell (j := 0) rfl
              have q1 := o0.cell (j := 1) rfl
              have q2 := o0.cell (j := 2) rfl
              have p0 := o1.cell (j := 0) rfl
              have p1 := o1.cell (j := 1) rfl
              have p2 := o1.cell (j := 2) rfl
              have r0 := oC.cell (j := 0) rfl
              have r1 := oC.cell (j := 1) rfl
              have r2 := oC.cell (j := 2) rfl
              go_wp2_with fail
              refine (C16.out _ K0).mono ?_
              rintro e w60 ⟨rfl, k⟩
              replace K0 := kept_trans K0 k; replace o0 := o0.kept k; replace o1 := o1.kept k; replace oC := oC.kept k
              clear q0 q1 q2 p0 p1 p2 r0 r1 r2 k
              have q0 := o0.cell (j := 0) rfl
              have q1 := o0.cell (j := 1) rfl
              have q2 := o0.cell (j := 2) rfl
              have p0 := o1.cell (j := 0) rfl
              have p1 := o1.cell (j := 1) rfl
              have p2 := o1.cell (j := 2) rfl
              have r0 := oC.cell (j := 0) rfl
              have r1 := oC.cell (j := 1) rfl
              have r2 := oC.cell (j := 2) rfl
              go_wp2_with fail
              refine (alive_any _).mono ?_
              rintro e w61 ⟨rfl, k⟩
              replace K0 := kept_trans K0 k; replace o0 := o0.kept k; replace o1 := o1.kept k; replace oC := oC.kept k
              clear q0 q1 q2 p0 p1 p2 r0 r1 r2 k
              have q0 := o0.cell (j := 0) rfl
              have q1 := o0.cell (j := 1) rfl
              have q2 := o0.cell (j := 2) rfl
              have p0 := o1.cell (j := 0) rfl
              have p1 := o1.cell (j := 1) rfl
              have p2 := o1.cell (j := 2) rfl
              have r0 := oC.cell (j := 0) rfl
              have r1 := oC.cell (j := 1) rfl
              have r2 := oC.cell (j := 2) rfl
              go_wp2_with fail
              go_ret
              exact ⟨ret_bool (by simp), K0⟩
      · cases hs : shpF f
        · rw [hs] at C36
          clear hs hr hrf hc hc2 hd hn hm
          unfold fmV at *
          go_enter Try.func10, Try.ntmps10
          go_wp2_with fail
          refine (F.out _).mono ?_
          rintro e w62 ⟨rfl, k⟩
          replace K0 := kept_trans K0 k; replace o0 := o0.kept k; replace o1 := o1.kept k
          clear q0 q1 q2 p0 p1 p2 k
          have q0 := o0.cell (j := 0) rfl
          have q1 := o0.cell (j := 1) rfl
          have q2 := o0.cell (j := 2) rfl
          have p0 := o1.cell (j := 0) rfl
          have p1 := o1.cell (j := 1) rfl
          have p2 := o1.cell (j := 2) rfl
          go_wp2_with fail
          have oS := Own.new w62 52 [.int .i64 f.k, .int .i64 f.n, .slice A' f.l.length c']
          have y0 := o0.lt; have y1 := o1.lt
          replace K0 := kept_alloc K0 (.cells #[.int .i64 f.k, .int .i64 f.n, .slice A' f.l.length c'] 52); replace o0 := o0.alloc (.cells #[.int .i64 f.k, .int .i64 f.n, .slice A' f.l.length c'] 52); replace o1 := o1.alloc (.cells #[.int .i64 f.k, .int .i64 f.n, .slice A' f.l.length c'] 52)
          clear q0 q1 q2 p0 p1 p2
          have q0 := o0.cell (j := 0) rfl
          have q1 := o0.cell (j := 1) rfl
          have q2 := o0.cell (j := 2) rfl
          have p0 := o1.cell (j := 0) rfl
          have p1 := o1.cell (j := 1) rfl
          have p2 := o1.cell (j := 2) rfl
          refine (F2.out _ _ K0 oS).mono ?_
          rintro e w63 ⟨rfl, k⟩
          replace K0 := kept_trans K0 k; replace o0 := o0.kept k; replace o1 := o1.kept k
          clear q0 q1 q2 p0 p1 p2 k
          have q0 := o0.cell (j := 0) rfl
          have q1 := o0.cell (j := 1) rfl
          have q2 := o0.cell (j := 2) rfl
          have p0 := o1.cell (j := 0) rfl
          have p1 := o1.cell (j := 1) rfl
          have p2 := o1.cell (j := 2) rfl
          go_wp2_with fail
          refine (C36.out _ K0).mono ?_
          rintro e w64 ⟨rfl, k⟩
          replace K0 := kept_trans K0 k; replace o0 := o0.kept k; replace o1 := o1.kept k
          clear q0 q1 q2 p0 p1 p2 k
          have q0 := o0.cell (j := 0) rfl
          have q1 := o0.cell (j := 1) rfl
          have q2 := o0.cell (j := 2) rfl
          have p0 := o1.cell (j := 0) rfl
          have p1 := o1.cell (j := 1) rfl
          have p2 := o1.cell (j := 2) rfl
          go_wp2_with fail
          refine (alive_any _).mono ?_
          rintro e w65 ⟨rfl, k⟩
          replace K0 := kept_trans K0 k; replace o0 := o0.kept k; replace o1 := o1.kept k
          clear q0 q1 q2 p0 p1 p2 k
          have q0 := o0.cell (j := 0) rfl
          have q1 := o0.cell (j := 1) rfl
          have q2 := o0.cell (j := 2) rfl
          have p0 := o1.cell (j := 0) rfl
          have p1 := o1.cell (j := 1) rfl
          have p2 := o1.cell (j := 2) rfl
          go_wp2_with fail
          go_ret
          exact ⟨ret_bool (by simp), K0⟩
        · rw [hs] at C36
          have C37 := Lib.hid fun (w' : World) (k : Kept w w') => rinputs37_any (cntF f) f A' c' w' (Nat.le_refl _) hs hl (hrf.kept k)
          have hib := inp_bounds _ f (Nat.le_refl _) hs
          by_cases hin : inpF f ≤ 3
          case neg =>
            have d1 : decide (inpF f ≤ 3) = false := decide_eq_false hin
            unfold fmV at *
            generalize inpF f = ip at *
            clear hs hr hrf hc hc2 hd hn hib hin hm
            go_enter Try.func10, Try.ntmps10
            go_wp2_with fail
            refine (F.out _).mono ?_
            rintro e w66 ⟨rfl, k⟩
            replace K0 := kept_trans K0 k; replace o0 := o0.kept k; replace o1 := o1.kept k
            clear q0 q1 q2 p0 p1 p2 k
            have q0 := o0.cell (j := 0) rfl
            have q1 := o0.cell (j := 1) rfl
            have q2 := o0.cell (j := 2) rfl
            have p0 := o1.cell (j := 0) rfl
            have p1 := o1.cell (j := 1) rfl
            have p2 := o1.cell (j := 2) rfl
            go_wp2_with fail
            have oS := Own.new w66 52 [.int .i64 f.k, .int .i64 f.n, .slice A' f.l.length c']
            have y0 := o0.lt; have y1 := o1.lt
            replace K0 := kept_alloc K0 (.cells #[.int .i64 f.k, .int .i64 f.n, .slice A' f.l.length c'] 52); replace o0 := o0.alloc (.cells #[.int .i64 f.k, .int .i64 f.n, .slice A' f.l.length c'] 52); replace o1 := o1.alloc (.cells #[.int .i64 f.k, .int .i64 f.n, .slice A' f.l.length c'] 52)
            clear q0 q1 q2 p0 p1 p2
            have q0 := o0.cell (j := 0) rfl
            have q1 := o0.cell (j := 1) rfl
            have q2 := o0.cell (j := 2) rfl
            have p0 := o1.cell (j := 0) rfl
            have p1 := o1.cell (j := 1) rfl
            have p2 := o1.cell (j := 2) rfl
            refine (F2.out _ _ K0 oS).mono ?_
            rintro e w67 ⟨rfl, k⟩
            replace K0 := kept_trans K0 k; replace o0 := o0.kept k; replace o1 := o1.kept k
            clear q0 q1 q2 p0 p1 p2 k
            have q0 := o0.cell (j := 0) rfl
            have q1 := o0.cell (j := 1) rfl
            have q2 := o0.cell (j := 2) rfl
            have p0 := o1.cell (j := 0) rfl
            have p1 := o1.cell (j := 1) rfl
            have p2 := o1.cell (j := 2) rfl
            go_wp2_with fail
            refine (C36.out _ K0).mono ?_
            rintro e w68 ⟨rfl, k⟩
            replace K0 := kept_trans K0 k; replace o0 := o0.kept k; replace o1 := o1.kept k
            clear q0 q1 q2 p0 p1 p2 k
            have q0 := o0.cell (j := 0) rfl
            have q1 := o0.cell (j := 1) rfl
            have q2 := o0.cell (j := 2) rfl
            have p0 := o1.cell (j := 0) rfl
            have p1 := o1.cell (j := 1) rfl
            have p2 := o1.cell (j := 2) rfl
            go_wp2_with fail
            refine (C37.out _ K0).mono ?_
            rintro e w69 ⟨rfl, k⟩
            replace K0 := kept_trans K0 k; replace o0 := o0.kept k; replace o1 := o1.kept k
            clear q0 q1 q2 p0 p1 p2 k
            have q0 := o0.cell (j := 0) rfl
            have q1 := o0.cell (j := 1) rfl
            have q2 := o0.cell (j := 2) rfl
            have p0 := o1.cell (j := 0) rfl
            have p1 := o1.cell (j := 1) rfl
            have p2 := o1.cell (j := 2) rfl
            go_wp2_with fail
            refine (alive_any _).mono ?_
            rintro e w70 ⟨rfl, k⟩
            replace K0 := kept_trans K0 k; replace o0 := o0.kept k; replace o1 := o1.kept k
            clear q0 q1 q2 p0 p1 p2 k
            have q0 := o0.cell (j := 0) rfl
            have q1 := o0.cell (j := 1) rfl
            have q2 := o0.cell (j := 2) rfl
            have p0 := o1.cell (j := 0) rfl
            have p1 := o1.cell (j := 1) rfl
            have p2 := o1.cell (j := 2) rfl
            go_wp2_with fail
            go_ret
            exact ⟨ret_bool (by simp), K0⟩
          case pos =>
            have d1 : decide (inpF f ≤ 3) = true := decide_eq_true hin
            have hgood := put_ok (n := 3) (cntF f) f (Nat.le_refl _) hs hin (-1) (-2) [] (fun k hk => by simp at hk) (.inl rfl) (.inr (.inl rfl))
            by_cases hbig : 20000 < (putF f (-1) (-2) []).2.length
            case pos =>
              have C44 := Lib.hid fun (w' : World) (k : Kept w w') => from_big f A' c' 3 w' hc2 hd hl (hrf.kept k) hs ⟨hin, by omega⟩ hbig
              unfold fmV BrBad at *
              generalize inpF f = ip at *
              clear hs hr hrf hc hc2 hd hn hib hin hgood hbig hm
              go_enter Try.func10, Try.ntmps10
              go_wp2_with fail
              refine (F.out _).mono ?_
              rintro e w71 ⟨rfl, k⟩
              replace K0 := kept_trans K0 k; replace o0 := o0.kept k; replace o1 := o1.kept k
              clear q0 q1 q2 p0 p1 p2 k
              have q0 := o0.cell (j := 0) rfl
              have q1 := o0.cell (j := 1) rfl
              have q2 := o0.cell (j := 2) rfl
              have p0 := o1.cell (j := 0) rfl
              have p1 := o1.cell (j := 1) rfl
              have p2 := o1.cell (j := 2) rfl
              go_wp2_with fail
              have oS := Own.new w71 52 [.int .i64 f.k, .int .i64 f.n, .slice A' f.l.length c']
              have y0 := o0.lt; have y1 := o1.lt
              replace K0 := kept_alloc K0 (.cells #[.int .i64 f.k, .int .i64 f.n, .slice A' f.l.length c'] 52); replace o0 := o0.alloc (.cells #[.int .i64 f.k, .int .i64 f.n, .slice A' f.l.length c'] 52); replace o1 := o1.alloc (.cells #[.int .i64 f.k, .int .i64 f.n, .slice A' f.l.length c'] 52)
              clear q0 q1 q2 p0 p1 p2
              have q0 := o0.cell (j := 0) rfl
              have q1 := o0.cell (j := 1) rfl
              have q2 := o0.cell (j := 2) rfl
              have p0 := o1.cell (j := 0) rfl
              have p1 := o1.cell (j := 1) rfl
              have p2 := o1.cell (j := 2) rfl
              refine (F2.out _ _ K0 oS).mono ?_
              rintro e w72 ⟨rfl, k⟩
              replace K0 := kept_trans K0 k; replace o0 := o0.kept k; replace o1 := o1.kept k
              clear q0 q1 q2 p0 p1 p2 k
              have q0 := o0.cell (j := 0) rfl
              have q1 := o0.cell (j := 1) rfl
              have q2 := o0.cell (j := 2) rfl
              have p0 := o1.cell (j := 0) rfl
              have p1 := o1.cell (j := 1) rfl
              have p2 := o1.cell (j := 2) rfl
              go_wp2_with fail
              refine (C36.out _ K0).mono ?_
              rintro e w73 ⟨rfl, k⟩
              replace K0 := kept_trans K0 k; replace o0 := o0.kept k; replace o1 := o1.kept k
              clear q0 q1 q2 p0 p1 p2 k
              have q0 := o0.cell (j := 0) rfl
              have q1 := o0.cell (j := 1) rfl
              have q2 := o0.cell (j := 2) rfl
              have p0 := o1.cell (j := 0) rfl
              have p1 := o1.cell (j := 1) rfl
              have p2 := o1.cell (j := 2) rfl
              go_wp2_with fail
              refine (C37.out _ K0).mono ?_
              rintro e w74 ⟨rfl, k⟩
              replace K0 := kept_trans K0 k; replace o0 := o0.kept k; replace o1 := o1.kept k
              clear q0 q1 q2 p0 p1 p2 k
              have q0 := o0.cell (j := 0) rfl
              have q1 := o0.cell (j := 1) rfl
              have q2 := o0.cell (j := 2) rfl
              have p0 := o1.cell (j := 0) rfl
              have p1 := o1.cell (j := 1) rfl
              have p2 := o1.cell (j := 2) rfl
              go_wp2_with fail
              refine (C44.out _ K0).mono ?_
              rintro e w75 ⟨rfl, k⟩
              have oC := Own.new w75 24 [.int .i64 0, .int .i64 0, .slice none 0 0]
              replace K0 := kept_trans K0 k; replace o0 := o0.kept k; replace o1 := o1.kept k
              have zz := o0.lt; have z1 := o1.lt
              replace K0 := kept_alloc K0 (.cells ([.int .i64 0, .int .i64 0, .slice none 0 0]).toArray 24); replace o0 := o0.alloc (.cells ([.int .i64 0, .int .i64 0, .slice none 0 0]).toArray 24); replace o1 := o1.alloc (.cells ([.int .i64 0, .int .i64 0, .slice none 0 0]).toArray 24)
              clear q0 q1 q2 p0 p1 p2 k
              have q0 := o0.cell (j := 0) rfl
              have q1 := o0.cell (j := 1) rfl
              have q2 := o0.cell (j := 2) rfl
              have p0 := o1.cell (j := 0) rfl
              have p1 := o1.cell (j := 1) rfl
              have p2 := o1.cell (j := 2) rfl
              have r0 := oC.cell (j := 0) rfl
              have r1 := oC.cell (j := 1) rfl
              have r2 := oC.cell (j := 2) rfl
              go_wp2_with fail
              refine (alive_any _).mono ?_
              rintro e w76 ⟨rfl, k⟩
              replace K0 := kept_trans K0 k; replace o0 := o0.kept k; replace o1 := o1.kept k; replace oC := oC.kept k
              clear q0 q1 q2 p0 p1 p2 r0 r1 r2 k
              have q0 := o0.cell (j := 0) rfl
              have q1 := o0.cell (j := 1) rfl
              have q2 := o0.cell (j := 2) rfl
              have p0 := o1.cell (j := 0) rfl
              have p1 := o1.cell (j := 1) rfl
              have p2 := o1.cell (j := 2) rfl
              have r0 := oC.cell (j := 0) rfl
              have r1 := oC.cell (j := 1) rfl
              have r2 := oC.cell (j := 2) rfl
              go_wp2_with fail
              go_ret
              exact ⟨ret_bool (by simp), K0⟩
            case neg =>
              have hsm : (putF f (-1) (-2) []).2.length ≤ 20000 := by omega
              have C44 := Lib.hid fun (w' : World) (k : Kept w w') => from_good f A' c' ((3 : Nat) : Int) w' hc2 hd hl (hrf.kept k) hs ⟨hin, by omega⟩ hsm
              obtain ⟨ht, hall⟩ := turned_gen (n := ((3 : Nat) : Int)) (by omega) (by omega) hsm hgood.good hgood.ref
              have B46 := fun (w' : World) (A1 : Option Addr) (c1 : Nat) (h : RN w' A1 (tnodes (putF f (-1) (-2) []).2)) => below_any 3 (by omega) _ A1 c1 _ w' h ht
              generalize tn (putF f (-1) (-2) []).2.length (putF f (-1) (-2) []).1 = rs at *
              generalize tnodes (putF f (-1) (-2) []).2 = rn at *
              replace B46 := Lib.hid B46
              have hln := (valid_start ht).2.2.1
              unfold fmV BrIs at *
              generalize inpF f = ip at *
              clear hs hr hrf hc hc2 hd hn hib hin hgood hbig hsm ht hall hm
              go_enter Try.func10, Try.ntmps10
              go_wp2_with fail
              refine (F.out _).mono ?_
              rintro e w77 ⟨rfl, k⟩
              replace K0 := kept_trans K0 k; replace o0 := o0.kept k; replace o1 := o1.kept k
              clear q0 q1 q2 p0 p1 p2 k
              have q0 := o0.cell (j := 0) rfl
              have q1 := o0.cell (j := 1) rfl
              have q2 := o0.cell (j := 2) rfl
              have p0 := o1.cell (j := 0) rfl
              have p1 := o1.cell (j := 1) rfl
              have p2 := o1.cell (j := 2) rfl
              go_wp2_with fail
              have oS := Own.new w77 52 [.int .i64 f.k, .int .i64 f.n, .slice A' f.l.length c']
              have y0 := o0.lt; have y1 := o1.lt
              replace K0 := kept_alloc K0 (.cells #[.int .i64 f.k, .int .i64 f.n, .slice A' f.l.length c'] 52); replace o0 := o0.alloc (.cells #[.int .i64 f.k, .int .i64 f.n, .slice A' f.l.length c'] 52); replace o1 := o1.alloc (.cells #[.int .i64 f.k, .int .i64 f.n, .slice A' f.l.length c'] 52)
              clear q0 q1 q2 p0 p1 p2
              have q0 := o0.cell (j := 0) rfl
              have q1 := o0.cell (j := 1) rfl
              have q2 := o0.cell (j := 2) rfl
              have p0 := o1.cell (j := 0) rfl
              have p1 := o1.cell (j := 1) rfl
              have p2 := o1.cell (j := 2) rfl
              refine (F2.out _ _ K0 oS).mono ?_
              rintro e w78 ⟨rfl, k⟩
              replace K0 := kept_trans K0 k; replace o0 := o0.kept k; replace o1 := o1.kept k
              clear q0 q1 q2 p0 p1 p2 k
              have q0 := o0.cell (j := 0) rfl
              have q1 := o0.cell (j := 1) rfl
              have q2 := o0.cell (j := 2) rfl
              have p0 := o1.cell (j := 0) rfl
              have p1 := o1.cell (j := 1) rfl
              have p2 := o1.cell (j := 2) rfl
              go_wp2_with fail
              refine (C36.out _ K0).mono ?_
              rintro e w79 ⟨rfl, k⟩
              replace K0 := kept_trans K0 k; replace o0 := o0.kept k; replace o1 := o1.kept k
              clear q0 q1 q2 p0 p1 p2 k
              have q0 := o0.cell (j := 0) rfl
              have q1 := o0.cell (j := 1) rfl
              have q2 := o0.cell (j := 2) rfl
              have p0 := o1.cell (j := 0) rfl
              have p1 := o1.cell (j := 1) rfl
              have p2 := o1.cell (j := 2) rfl
              go_wp2_with fail
              refine (C37.out _ K0).mono ?_
              rintro e w80 ⟨rfl, k⟩
              replace K0 := kept_trans K0 k; replace o0 := o0.kept k; replace o1 := o1.kept k
              clear q0 q1 q2 p0 p1 p2 k
              have q0 := o0.cell (j := 0) rfl
              have q1 := o0.cell (j := 1) rfl
              have q2 := o0.cell (j := 2) rfl
              have p0 := o1.cell (j := 0) rfl
              have p1 := o1.cell (j := 1) rfl
              have p2 := o1.cell (j := 2) rfl
              go_wp2_with fail
              refine (C44.out _ K0).mono ?_
              rintro e w81 ⟨v, rfl, A1, c1, rfl, hrow, k⟩
              have oC := Own.new w81 24 [.int .i64 ((3 : Nat) : Int), .int .i64 rs, .slice A1 rn.length c1]
              have hC : RN w81 A1 rn := row_rd hrow; clear hrow; replace hC := Rd.kept hC (kept_alloc (kept_refl _) (.cells ([.int .i64 ((3 : Nat) : Int), .int .i64 rs, .slice A1 rn.length c1]).toArray 24))
              replace K0 := kept_trans K0 k; replace o0 := o0.kept k; replace o1 := o1.kept k
              have zz := o0.lt; have z1 := o1.lt
              replace K0 := kept_alloc K0 (.cells ([.int .i64 ((3 : Nat) : Int), .int .i64 rs, .slice A1 rn.length c1]).toArray 24); replace o0 := o0.alloc (.cells ([.int .i64 ((3 : Nat) : Int), .int .i64 rs, .slice A1 rn.length c1]).toArray 24); replace o1 := o1.alloc (.cells ([.int .i64 ((3 : Nat) : Int), .int .i64 rs, .slice A1 rn.length c1]).toArray 24)
              clear q0 q1 q2 p0 p1 p2 k
              have q0 := o0.cell (j := 0) rfl
              have q1 := o0.cell (j := 1) rfl
              have q2 := o0.cell (j := 2) rfl
              have p0 := o1.cell (j := 0) rfl
              have p1 := o1.cell (j := 1) rfl
              have p2 := o1.cell (j := 2) rfl
              have r0 := oC.cell (j := 0) rfl
              have r1 := oC.cell (j := 1) rfl
              have r2 := oC.cell (j := 2) rfl
              go_wp2_with fail
              refine (B46.out _ _ _ hC).mono ?_
              rintro e w82 ⟨rfl, k⟩
              replace K0 := kept_trans K0 k; replace o0 := o0.kept k; replace o1 := o1.kept k; replace oC := oC.kept k
              clear q0 q1 q2 p0 p1 p2 r0 r1 r2 k
              have q0 := o0.cell (j := 0) rfl
              have q1 := o0.cell (j := 1) rfl
              have q2 := o0.cell (j := 2) rfl
              have p0 := o1.cell (j := 0) rfl
              have p1 := o1.cell (j := 1) rfl
              have p2 := o1.cell (j := 2) rfl
              have r0 := oC.cell (j := 0) rfl
              have r1 := oC.cell (j := 1) rfl
              have r2 := oC.cell (j := 2) rfl
              go_wp2_with fail
              refine (alive_any _).mono ?_
              rintro e w83 ⟨rfl, k⟩
              replace K0 := kept_trans K0 k; replace o0 := o0.kept k; replace o1 := o1.kept k; replace oC := oC.kept k
              clear q0 q1 q2 p0 p1 p2 r0 r1 r2 k
              have q0 := o0.cell (j := 0) rfl
              have q1 := o0.cell (j := 1) rfl
              have q2 := o0.cell (j := 2) rfl
              have p0 := o1.cell (j := 0) rfl
              have p1 := o1.cell (j := 1) rfl
              have p2 := o1.cell (j := 2) rfl
              have r0 := oC.cell (j := 0) rfl
              have r1 := oC.cell (j := 1) rfl
              have r2 := oC.cell (j := 2) rfl
              go_wp2_with fail
              go_ret
              exact ⟨ret_bool (by simp), K0⟩
end Go.Proofs.Ytinpmdekdfgiiaa
