/- Branching programs: next, run over a function value, Run, Table and their function literals. -/
import Derived.Test.YtinpmdekdfgiiaaB8
import Derived.Deep.RegionWith
import Derived.StillTailTactics
import Derived.Deep.Onto
import Derived.Laws.BitsLemmas
import Derived.Shelf.Abstract
set_option linter.unusedVariables false
set_option linter.unusedSimpArgs false
namespace Go.Proofs.Ytinpmdekdfgiiaa
open Go.RowKit

/-- One of two. -/
def pk (b : Bool) (z o : Int) : Int := if b then o else z
/-- What follows the node c. -/
def stepN (l : List Nd) (x : Nat → Bool) (c : Int) : Int := pk (x (nv l c.toNat).toNat) (nz l c.toNat) (no l c.toNat)
/-- The end and the nodes of a run of at most f nodes. -/
def runF (l : List Nd) (x : Nat → Bool) : Nat → Int → Int × List Int
  | 0, c => (c, [])
  | f + 1, c => if c < 0 then (c, []) else ((runF l x f (stepN l x c)).1, c :: (runF l x f (stepN l x c)).2)
def runB (s : Int) (l : List Nd) (x : Nat → Bool) : Bool := (runF l x l.length s).1 == -2
def wayB (s : Int) (l : List Nd) (x : Nat → Bool) : List Int := (runF l x l.length s).2

theorem runF_neg (l : List Nd) (x : Nat → Bool) (f : Nat) {c : Int} (h : c < 0) : runF l x f c = (c, []) := by
  cases f with
  | zero => rfl
  | succ f => simp [runF, h]

/-- A function value that only reads and gives x. -/
structure Asks (w : World) (fv : Value) (dom : Int) (x : Nat → Bool) : Prop where
  gives : ∃ f cap, fv = .func (.func f) #[] cap ∧ (∀ (args : Array Value) (w : World), (callFunc f args).run Try.prog w = .ok (.enter f args) w) ∧ ∀ (i : Int) (w' : World), 0 ≤ i → i < dom → Kept w w' → Calls Try.prog f (#[.int .i64 i] ++ cap) w' fun e w'' => e = .returned (.bool (x i.toNat)) ∧ w' = w''

set_option maxHeartbeats 400000 in
theorem next_any (v z o : Int) (b : Bool) (w : World) :
    Calls Try.prog 91 #[.agg #[.int .i64 v, .int .i64 z, .int .i64 o], .bool b] w fun e w' => e = .returned (.int .i64 (pk b z o)) ∧ w.alloc (.cells #[.int .i64 v, .int .i64 z, .int .i64 o] 48) = w' := by
  cases b
  all_goals
    go_enter Try.func91, Try.ntmps91
    go_wp2
    go_ret
    exact ⟨rfl, rfl⟩

set_option maxHeartbeats 400000 in
theorem runlit_any (w : World) (g b off n c : Nat) (xs : List Bool) (hx : ∀ j, j < xs.length → w.cell? ⟨b, off + j, none⟩ = some (.bool (ba xs j))) (hn : xs.length = n) (hm : n ≤ 140737488355328) (i : Int) (h0 : 0 ≤ i) (h1 : i < n)
    (hg : w.cell? ⟨g, 0, none⟩ = some (.slice (some ⟨b, off, none⟩) n c)) :
    Calls Try.prog 69 #[.int .i64 i, .pointer (some ⟨g, 0, none⟩)] w fun e w' => e = .returned (.bool (ba xs i.toNat)) ∧ w = w' := by
  have hc := hx i.toNat (by omega)
  clear hx
  go_enter Try.func69, Try.ntmps69
  go_wp2
  go_ret
  exact ⟨rfl, rfl⟩

theorem and_one {n : Nat} (h : n < 2 ^ 62) : bits .and .i64 (n : Int) 1 = ((n % 2 : Nat) : Int) := by
  have := bits_mask .i64 62 (by decide) (fun m h0 h1 => IntWalk.i64_in m (by omega)) 1 (by omega) (n : Int) (by omega) (by exact_mod_cast h)
  simpa using this
theorem bit_and {a : Int} (ha : 0 ≤ a) (h : a < 1000000) (k : Nat) : (bits BinOp.and .i64 (a / 2 ^ k) 1 == 1) = a.toNat.testBit k := by
  obtain ⟨n, rfl⟩ := Int.eq_ofNat_of_zero_le ha
  rw [show ((n : Int) / 2 ^ k) = ((n / 2 ^ k : Nat) : Int) from by simp]
  have h1 : n / 2 ^ k ≤ n := Nat.div_le_self _ _
  rw [and_one (by omega), Int.toNat_natCast, Nat.testBit, Nat.shiftRight_eq_div_pow]
  rcases Nat.mod_two_eq_zero_or_one (n / 2 ^ k) with e | e <;> simp [e, Nat.and_comm]

set_option maxHeartbeats 400000 in
theorem tablelit_any (w : World) (g : Nat) (a : Int) (ha : 0 ≤ a) (ha1 : a < 1000000) (i : Int) (h0 : 0 ≤ i) (h1 : i < 16) (hg : w.cell? ⟨g, 0, none⟩ = some (.int .i64 a)) :
    Calls Try.prog 70 #[.int .i64 i, .pointer (some ⟨g, 0, none⟩)] w fun e w' => e = .returned (.bool (a.toNat.testBit i.toNat)) ∧ w = w' := by
  go_enter Try.func70, Try.ntmps70
  go_wp2
  go_ret
  refine ⟨ret_bool ?_, rfl⟩
  exact bit_and ha ha1 _

theorem step_ok {i s : Int} {l : List Nd} (x : Nat → Bool) (h : validB i s l = true) {c : Int} (h0 : 0 ≤ c) (h1 : c < l.length) :
    (stepN l x c < 0 → stepN l x c = -1 ∨ stepN l x c = -2) ∧ stepN l x c < l.length ∧ (0 ≤ stepN l x c → c < stepN l x c) := by
  have := valid_node h (k := c.toNat) (by omega)
  unfold stepN pk
  split <;> omega

set_option maxRecDepth 100000 in
set_option maxHeartbeats 1000000 in
theorem run_any (i s : Int) (A : Option Addr) (c : Nat) (l : List Nd) (fv : Value) (x : Nat → Bool) (w : World) (hr : RN w A l) (hv : validB i s l = true) (hx : Asks w fv i x) :
    Calls Try.prog 68 #[.agg #[.int .i64 i, .int .i64 s, .slice A l.length c], fv] w fun e w' => ∃ v, e = .returned (.tuple #[.bool (runB s l x), v]) ∧ w'.ownsRow w.heap.size 3 1 v (wayB s l x).length (ints (wayB s l x)) ∧ Kept w w' := by
  obtain ⟨hi0, hi1, hln, hs⟩ := valid_start hv
  obtain ⟨f, cap, rfl, hE, hf⟩ := hx.gives
  have HF := Lib.hid hf; clear hf
  have o0 := Own.new w 24 [.int .i64 i, .int .i64 s, .slice A l.length c]
  go_enter Try.func68, Try.ntmps68
  go_wp2_with fail
  go_loopg [6, 7] l.length (fun g s6 s7 wr => ∃ (p : List Int) (cu : Int), (cu < 0 → cu = -1 ∨ cu = -2) ∧ cu < l.length ∧ (0 ≤ cu → l.length ≤ g + cu.toNat) ∧ runF l x l.length s = ((runF l x g cu).1, p ++ (runF l x g cu).2) ∧ p.length + g = l.length ∧ s7 = .int .i64 cu ∧ wr.ownsRow (w.heap.size + 1) 3 1 s6 p.length (ints p) ∧ Kept w wr ∧ Own wr w.heap.size 24 [.int .i64 i, .int .i64 s, .slice A l.length c])
  case atStart => exact ⟨[], s, by omega, by omega, by omega, by simp, by simp, rfl, World.ownsRow_nil _ _ _ _, kept_alloc (kept_refl _) _, o0⟩
  case round =>
    clear o0
    obtain ⟨p, cu, hc1, hc2, hc3, hrun, hpl, rfl, hrow, k1, o0⟩ := hrel
    have HR := Lib.hid hrun; clear hrun
    by_cases hcu : 0 ≤ cu
    · obtain ⟨b, off, rfl, hcs⟩ := hr.at_ (k := cu.toNat) (by omega)
      obtain ⟨d0, d1, d2⟩ := hcs cu.toNat (by omega)
      clear hcs
      have ok := valid_node hv (k := cu.toNat) (by omega)
      have sz : w.heap.size + 1 ≤ wr.heap.size := o0.lt
      go_wp2_with (at_builtin; refine app_int (w.heap.size + 1) rfl (.tmp 12) (.tmp 14) 36 3 rfl Try.underlying36 info3 u6 p.length p cu rfl rfl hrow sz (by omega) ?_; intro v3 w3 hr3 hg3 hat3)
      have k3 : Kept w w3 := kept_grown k1 hrow (Nat.le_succ _) hg3
      have o3 := o0.grown hg3 (by intro h; have := (hrow.lt _ h.symm).1; omega)
      replace d0 := kept_cell k3 d0
      replace d1 := kept_cell k3 d1
      replace d2 := kept_cell k3 d2
      have e1 := o3.cell (j := 1) rfl
      have e2 := o3.cell (j := 2) rfl
      clear hrow hg3 hat3 o0 k1 sz
      have hcall := (HF.out (nv l cu.toNat) w3.drew (by omega) (by omega) (kept_drew k3)).mono (R' := fun e w' => e = .returned (.bool (x (nv l cu.toNat).toNat)) ∧ w' = w3.drew) (fun e w' h => ⟨h.1, h.2.symm⟩)
      have HC := Lib.hid hcall; clear hcall
      have hEn := fun W => hE (#[.int .i64 (nv l cu.toNat)] ++ cap) W
      have e4 : 0 ≤ cu := hcu
      have e5 : cu < (l.length : Int) := by omega
      refine wp_region_still_tail 13 (by kernel_rfl) (by kernel_rfl) ?_
      simp only [List.take_succ_cons, List.take_zero, List.drop_succ_cons, List.drop_zero]
      repeat (first | (still_call HC.out) | still_step)
      try refine wpStill_nil ?_
      change wpList _ _ _ _ _ w3.drew
      go_wp2_with (go_at_call 91; refine (next_any _ _ _ _ _).mono ?_; rintro e w' ⟨rfl, rfl⟩)
      have st := step_ok x hv hcu e5
      obtain ⟨f', rfl⟩ : ∃ f', gk = f' + 1 := ⟨gk - 1, by omega⟩
      have hst : runF l x (f' + 1) cu = ((runF l x f' (stepN l x cu)).1, cu :: (runF l x f' (stepN l x cu)).2) := by
        rw [runF, if_neg (by omega)]
      have hrun := HR.out
      rw [hst] at hrun
      have HR2 := Lib.hid hrun
      clear hrun hst HR
      go_roundg f'
      case rel => exact ⟨p ++ [cu], stepN l x cu, st.1, st.2.1, by omega, by rw [HR2.out]; simp, by simp; omega, rfl, by simpa using (row_alloc hr3 _).drew, kept_drew (kept_alloc k3 _), (o3.alloc _).drew⟩
      case measure => omega
    · have hneg : cu < 0 := by omega
      have hd : decide (0 ≤ cu) = false := decide_eq_false (by omega)
      have hrun := HR.out
      rw [runF_neg _ _ _ hneg] at hrun
      simp only [List.append_nil] at hrun
      have HR2 := Lib.hid hrun
      clear hrun HR
      have hb : runB s l x = (cu == -2) := by unfold runB; rw [HR2.out]
      have hw : wayB s l x = p := by unfold wayB; rw [HR2.out]
      have HB := Lib.hid hb; clear hb
      have HW := Lib.hid hw; clear hw
      go_wp2_with fail
      go_ret2
      refine ⟨u6, ?_, ?_, k1⟩
      · rw [HB.out]; rfl
      · rw [HW.out]; exact hrow.mono (Nat.le_succ _)
/-- What Run answers. -/
def xs (x : List Bool) (k : Nat) : Bool := ba x k

/-- The end of Run. -/
def RunPost (i s : Int) (n : Nat) (l : List Nd) (x : List Bool) (w : World) (e : Ending) (w' : World) : Prop :=
  ∃ (v : Value) (p : List Int),
    e = .returned (.tuple #[.bool (validB i s l && (decide ((n : Int) = i) && runB s l (xs x))), v, .int .i64 (if validB i s l then if (n : Int) = i then 0 else 2 else 1)]) ∧
    w'.ownsRow w.heap.size 3 1 v p.length (ints p) ∧ p = (if validB i s l = true ∧ (n : Int) = i then wayB s l (xs x) else []) ∧ Kept w w'

theorem asks_run {w : World} {g n c : Nat} {X : Option Addr} {x : List Bool} (hX : Rd w X (bools x)) (hn : x.length = n) (hm : n ≤ 140737488355328)
    (hg : w.cell? ⟨g, 0, none⟩ = some (.slice X n c)) : Asks w (.func (.func 69) #[] #[.pointer (some ⟨g, 0, none⟩)]) n (xs x) :=
  ⟨69, _, rfl, enters_of Try.func69 (by kernel_rfl) rfl, fun i w' h0 h1 k => by
    obtain ⟨b, off, rfl, hx⟩ := hX.bool (k := 0) (by omega)
    exact runlit_any w' g b off n c x (fun j hj => kept_cell k (hx j hj)) hn hm i h0 h1 (kept_cell k hg)⟩

set_option maxRecDepth 100000 in
set_option maxHeartbeats 1000000 in
theorem Run_any (i s : Int) (A : Option Addr) (c : Nat) (l : List Nd) (X : Option Addr) (n cx : Nat) (x : List Bool) (w : World) (hl : l.length ≤ 140737488355328) (hr : RN w A l) (hX : Rd w X (bools x)) (hn : x.length = n) (hm : n ≤ 140737488355328) :
    Calls Try.prog 26 #[.agg #[.int .i64 i, .int .i64 s, .slice A l.length c], .slice X n cx] w (RunPost i s n l x w) := by
  have o0 := Own.new w 24 [.int .i64 i, .int .i64 s, .slice A l.length c]
  have k0 : Kept w ((w.alloc (.cells #[.int .i64 i, .int .i64 s, .slice A l.length c] 24)).alloc (.cells #[.slice X n cx] 29)) := kept_alloc (kept_alloc (kept_refl _) _) _
  have o1 : Own ((w.alloc (.cells #[.int .i64 i, .int .i64 s, .slice A l.length c] 24)).alloc (.cells #[.slice X n cx] 29)) (w.heap.size + 1) 29 [.slice X n cx] := by
    simpa using Own.new (w.alloc (.cells #[.int .i64 i, .int .i64 s, .slice A l.length c] 24)) 29 [.slice X n cx]
  cases hv : validB i s l
  · go_enter Try.func26, Try.ntmps26
    go_wp2_with fail
    refine (valid_any _ _ _ _ _ _ hl (hr.kept k0)).mono ?_
    rintro e w1 ⟨rfl, k1⟩
    rw [hv]
    go_wp2_with fail
    go_ret3
    exact ⟨_, [], by rw [hv]; rfl, World.ownsRow_nil _ _ _ _, by simp [hv], kept_trans k0 k1⟩
  · obtain ⟨hi0, hi1, hln, hs⟩ := valid_start hv
    by_cases hni : (n : Int) = i
    · have b1 : ((n : Int) == i) = true := by simp [hni]
      have b2 : ((n : Int) != i) = false := by simp [hni]
      have HN := Lib.hid hni; clear hni
      go_enter Try.func26, Try.ntmps26
      go_wp2_with fail
      refine (valid_any _ _ _ _ _ _ hl (hr.kept k0)).mono ?_
      rintro e w1 ⟨rfl, k1⟩
      rw [hv]
      have p0 := (o0.alloc (.cells #[.slice X n cx] 29)).kept k1
      have p1 := o1.kept k1
      have k2 := kept_trans k0 k1
      have q0 := p0.cell (j := 0) rfl
      have q1 := p0.cell (j := 1) rfl
      have q2 := p0.cell (j := 2) rfl
      have q3 := p1.cell (j := 0) rfl
      clear o0 o1 k0 k1
      go_upto_region 5 with fail
      have hA := asks_run (hX.kept k2) hn hm q3
      rw [HN.out] at hA
      have hr2 := hr.kept k2
      go_wp2_with (go_at_call 68; refine (run_any _ _ _ _ _ _ _ _ hr2 hv hA).mono ?_; rintro e w4 ⟨v4, rfl, hrow, k4⟩)
      go_ret3
      exact ⟨v4, wayB s l (xs x), by rw [hv]; simp [HN.out], hrow.mono k2.size, by simp [hv, HN.out], kept_trans k2 k4⟩
    · have b1 : ((n : Int) == i) = false := by simp [hni]
      have b2 : ((n : Int) != i) = true := by simp [hni]
      go_enter Try.func26, Try.ntmps26
      go_wp2_with fail
      refine (valid_any _ _ _ _ _ _ hl (hr.kept k0)).mono ?_
      rintro e w1 ⟨rfl, k1⟩
      rw [hv]
      have p0 := (o0.alloc (.cells #[.slice X n cx] 29)).kept k1
      have p1 := o1.kept k1
      have k2 := kept_trans k0 k1
      have q0 := p0.cell (j := 0) rfl
      have q1 := p0.cell (j := 1) rfl
      have q2 := p0.cell (j := 2) rfl
      have q3 := p1.cell (j := 0) rfl
      clear o0 o1 k0 k1
      go_wp2_with fail
      go_ret3
      exact ⟨_, [], by rw [hv]; simp [hni], World.ownsRow_nil _ _ _ _, by simp [hni], k2⟩
end Go.Proofs.Ytinpmdekdfgiiaa
