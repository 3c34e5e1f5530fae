/- Joined: O1, O2, O3, O4, O5. -/
import Derived.Test.YtinpmdekdfgiiaaD4
import Derived.Test.YtinpmdekdfgiiaaM4
/- Plain law of Formula: the formula of a program, its size and nesting, and the number of sequences. -/
set_option linter.unusedVariables false
set_option linter.unusedSimpArgs false
namespace Go.Proofs.Ytinpmdekdfgiiaa

/-- One child's part. -/
def mnA (c : Int) (m : Nat × Nat) (a : Nat × Nat) : Nat × Nat := if c < 0 then (a.1 + 1, a.2) else (min (a.1 + m.1) 40000, max a.2 m.2)
def mnK (z o : Int) (mz mo : Nat × Nat) : Nat × Nat :=
  if z = o then (if z < 0 then (1, 1) else mz) else ((mnA o mo (mnA z mz (6, 1))).1, (mnA o mo (mnA z mz (6, 1))).2 + 3)
def mnF (l : List Nd) : Nat → Nat → Nat × Nat
  | 0, _ => (0, 0)
  | f + 1, k => mnK (nz l k) (no l k) (mnF l f (nz l k).toNat) (mnF l f (no l k).toNat)
/-- The number of nodes and the nesting of the formula of a node. -/
def mn (l : List Nd) (k : Nat) : Nat × Nat := mnF l l.length k
theorem mnK_congr {z o : Int} {a a' b b' : Nat × Nat} (h1 : 0 ≤ z → a = a') (h2 : 0 ≤ o → b = b') : mnK z o a b = mnK z o a' b' := by
  unfold mnK mnA
  by_cases hz : z < 0
  · by_cases ho : o < 0
    · simp only [if_pos hz, if_pos ho]
    · simp only [if_pos hz, if_neg ho]; rw [h2 (by omega)]
  · by_cases ho : o < 0
    · simp only [if_neg hz, if_pos ho]; rw [h1 (by omega)]
    · simp only [if_neg hz, if_neg ho]; rw [h1 (by omega), h2 (by omega)]
theorem mnF_stable {n s : Int} {l : List Nd} (hv : validB n s l = true) : ∀ (f g : Nat) (k : Nat), k < l.length → l.length - k ≤ f → l.length - k ≤ g → mnF l f k = mnF l g k := by
  intro f
  induction f with
  | zero => intro g k h1 h2; omega
  | succ f ih =>
    intro g k h1 h2 h3
    cases g with
    | zero => omega
    | succ g =>
      have h := valid_node hv h1
      unfold mnF
      exact mnK_congr (fun h0 => ih g _ (by omega) (by omega) (by omega)) (fun h0 => ih g _ (by omega) (by omega) (by omega))
theorem mn_eq {n s : Int} {l : List Nd} (hv : validB n s l = true) {k : Nat} (hk : k < l.length) : mn l k = mnK (nz l k) (no l k) (mn l (nz l k).toNat) (mn l (no l k).toNat) := by
  have h := valid_node hv hk
  have e : mn l k = mnF l (l.length - k - 1 + 1) k := mnF_stable hv _ _ _ hk (by omega) (by omega)
  rw [e]
  unfold mnF mn
  exact mnK_congr (fun h0 => mnF_stable hv _ _ _ (by omega) (by omega) (by omega)) (fun h0 => mnF_stable hv _ _ _ (by omega) (by omega) (by omega))

/-- The formula. -/
def tfK (v z o : Int) (fz fo : Fm) : Fm := if z = o then fz else .mk 4 0 [.mk 3 0 [.mk 0 v [], fo], .mk 3 0 [.mk 2 0 [.mk 0 v []], fz]]
def tfE (c : Int) : Fm := .mk 1 (if c = -2 then 1 else 0) []
def tfF (l : List Nd) : Nat → Int → Fm
  | 0, c => tfE c
  | f + 1, c => if c < 0 then tfE c else tfK (nv l c.toNat) (nz l c.toNat) (no l c.toNat) (tfF l f (nz l c.toNat)) (tfF l f (no l c.toNat))
def tf (l : List Nd) (c : Int) : Fm := tfF l l.length c
theorem tfF_neg (l : List Nd) (f : Nat) {c : Int} (h : c < 0) : tfF l f c = tfE c := by
  cases f with
  | zero => rfl
  | succ f => unfold tfF; rw [if_pos h]
theorem tf_neg (l : List Nd) {c : Int} (h : c < 0) : tf l c = tfE c := tfF_neg l _ h
theorem tfF_stable {n s : Int} {l : List Nd} (hv : validB n s l = true) : ∀ (f g : Nat) (k : Nat), k < l.length → l.length - k ≤ f → l.length - k ≤ g → tfF l f k = tfF l g k := by
  intro f
  induction f with
  | zero => intro g k h1 h2; omega
  | succ f ih =>
    intro g k h1 h2 h3
    cases g with
    | zero => omega
    | succ g =>
      have h := valid_node hv h1
      have hc : ∀ c : Int, (c = -1 ∨ c = -2 ∨ ((k : Int) < c ∧ c < l.length)) → tfF l f c = tfF l g c := by
        intro c hc
        by_cases h0 : c < 0
        · rw [tfF_neg _ _ h0, tfF_neg _ _ h0]
        · obtain ⟨c, rfl⟩ : ∃ m : Nat, c = m := ⟨c.toNat, by omega⟩
          exact ih g c (by omega) (by omega) (by omega)
      unfold tfF
      rw [if_neg (by omega), if_neg (by omega), show ((k : Int)).toNat = k from by simp, hc _ h.2.2.1, hc _ h.2.2.2]
theorem tf_eq {n s : Int} {l : List Nd} (hv : validB n s l = true) {k : Nat} (hk : k < l.length) : tf l (k : Nat) = tfK (nv l k) (nz l k) (no l k) (tf l (nz l k)) (tf l (no l k)) := by
  have h := valid_node hv hk
  have hc : ∀ c : Int, (c = -1 ∨ c = -2 ∨ ((k : Int) < c ∧ c < l.length)) → tfF l (l.length - k - 1) c = tf l c := by
    intro c hc
    by_cases h0 : c < 0
    · rw [tfF_neg _ _ h0, tf_neg _ h0]
    · obtain ⟨c, rfl⟩ : ∃ m : Nat, c = m := ⟨c.toNat, by omega⟩
      exact tfF_stable hv _ _ _ (by omega) (by omega) (by omega)
  have e : tf l (k : Nat) = tfF l (l.length - k - 1 + 1) (k : Nat) := tfF_stable hv _ _ _ hk (by omega) (by omega)
  rw [e]
  unfold tfF
  rw [if_neg (by omega), show ((k : Int)).toNat = k from by simp, hc _ h.2.2.1, hc _ h.2.2.2]

def TfOk (n : Int) (l : List Nd) (c : Int) : Prop := shpF (tf l c) = true ∧ inpF (tf l c) ≤ n ∧ (∀ x, evF x (tf l c) = valN l x c)
theorem tf_size {n s : Int} {l : List Nd} (hv : validB n s l = true) : ∀ (m : Nat) (k : Nat), k < l.length → l.length - k ≤ m →
    ((mn l k).1 ≤ 20000 → cntF (tf l (k : Nat)) ≤ (mn l k).1) ∧ depF (tf l (k : Nat)) ≤ (mn l k).2 := by
  intro m
  induction m with
  | zero => intro k h1 h2; omega
  | succ m ih =>
    intro k h1 h2
    have h := valid_node hv h1
    rw [tf_eq hv h1, mn_eq hv h1]
    have hc : ∀ c : Int, (c = -1 ∨ c = -2 ∨ ((k : Int) < c ∧ c < l.length)) → (c < 0 ∧ cntF (tf l c) = 1 ∧ depF (tf l c) = 1) ∨ (0 ≤ c ∧ ((mn l c.toNat).1 ≤ 20000 → cntF (tf l c) ≤ (mn l c.toNat).1) ∧ depF (tf l c) ≤ (mn l c.toNat).2) := by
      intro c hc
      by_cases h0 : c < 0
      · left
        rw [tf_neg _ h0]
        exact ⟨h0, by simp [tfE, cntF, cntL], by simp [tfE, depF, depL]⟩
      · right
        have := ih c.toNat (by omega) (by omega)
        rw [Int.toNat_of_nonneg (by omega)] at this
        exact ⟨by omega, this.1, this.2⟩
    have h1 := hc _ h.2.2.1
    have h2 := hc _ h.2.2.2
    generalize mn l (nz l k).toNat = mz at *
    generalize mn l (no l k).toNat = mo at *
    generalize tf l (nz l k) = fz at *
    generalize tf l (no l k) = fo at *
    unfold mnK tfK
    by_cases e : nz l k = no l k
    · rw [if_pos e, if_pos e]
      rcases h1 with ⟨a, b, c⟩ | ⟨a, b, c⟩
      · rw [if_pos a]; exact ⟨fun _ => by omega, by omega⟩
      · rw [if_neg (by omega)]; exact ⟨b, c⟩
    · rw [if_neg e, if_neg e]
      have ec : cntF (.mk 4 0 [.mk 3 0 [.mk 0 (nv l k) [], fo], .mk 3 0 [.mk 2 0 [.mk 0 (nv l k) []], fz]]) = 6 + cntF fo + cntF fz := by simp [cntF, cntL]; omega
      have ed : depF (.mk 4 0 [.mk 3 0 [.mk 0 (nv l k) [], fo], .mk 3 0 [.mk 2 0 [.mk 0 (nv l k) []], fz]]) ≤ 3 + max 1 (max (depF fz) (depF fo)) := by simp [depF, depL]; omega
      rw [ec]
      unfold mnA
      rcases h1 with ⟨a, b, c⟩ | ⟨a, b, c⟩ <;> rcases h2 with ⟨a', b', c'⟩ | ⟨a', b', c'⟩
      · simp only [if_pos a, if_pos a']; omega
      · simp only [if_pos a, if_neg (show ¬ no l k < 0 by omega)]; omega
      · simp only [if_neg (show ¬ nz l k < 0 by omega), if_pos a']; omega
      · simp only [if_neg (show ¬ nz l k < 0 by omega), if_neg (show ¬ no l k < 0 by omega)]; omega

/-! ### Sequences -/

def sqK (z o : Int) (mz mo : Nat) : Nat := min ((1 + if 0 ≤ z then mz else 0) + if 0 ≤ o ∧ o ≠ z then mo else 0) 20000
def sqF (l : List Nd) : Nat → Nat → Nat
  | 0, _ => 0
  | f + 1, k => sqK (nz l k) (no l k) (sqF l f (nz l k).toNat) (sqF l f (no l k).toNat)
def sq (l : List Nd) (k : Nat) : Nat := sqF l l.length k
theorem mn_le (l : List Nd) : ∀ (f k : Nat), (mnF l f k).1 ≤ 40001 ∧ (mnF l f k).2 ≤ 3 * f + 1 := by
  intro f
  induction f with
  | zero => intro k; simp [mnF]
  | succ f ih =>
    intro k
    have a := ih (nz l k).toNat
    have b := ih (no l k).toNat
    unfold mnF mnK mnA
    by_cases hz : nz l k < 0 <;> by_cases ho : no l k < 0 <;> by_cases e : nz l k = no l k <;> simp only [hz, ho, e, if_true, if_false] <;> (try simp only [← e, hz, if_true, if_false]) <;> omega
end Go.Proofs.Ytinpmdekdfgiiaa

/- Formula: its function literals. -/
set_option linter.unusedVariables false
set_option linter.unusedSimpArgs false
namespace Go.Proofs.Ytinpmdekdfgiiaa
open Go.RowKit

/-- The kids that lie from an address on, in blocks from base on. -/
inductive RKb (w : World) (base : Nat) : Option Addr → List Fm → Prop
  | nil (A : Option Addr) : RKb w base A []
  | cons {b off : Nat} {A : Option Addr} {c : Nat} {f : Fm} {fs : List Fm} (hb : base ≤ b) (h0 : w.cell? ⟨b, off, none⟩ = some (.int .i64 f.k)) (h1 : w.cell? ⟨b, off + 1, none⟩ = some (.int .i64 f.n))
      (h2 : w.cell? ⟨b, off + 2, none⟩ = some (.slice A f.l.length c)) (hl : f.l.length ≤ 9223372036854775807) (hk : RKb w base A f.l) (hs : RKb w base (some ⟨b, off + 3, none⟩) fs) : RKb w base (some ⟨b, off, none⟩) (f :: fs)
theorem RKb.rk {w : World} {base : Nat} {A : Option Addr} {l : List Fm} (h : RKb w base A l) : RK w A l := by
  induction h with
  | nil A => exact .nil A
  | cons hb h0 h1 h2 hl _ _ ih1 ih2 => exact .cons h0 h1 h2 hl ih1 ih2
theorem RKb.mono {w : World} {base base' : Nat} {A : Option Addr} {l : List Fm} (h : RKb w base A l) (hb' : base' ≤ base) : RKb w base' A l := by
  induction h with
  | nil A => exact .nil A
  | cons hb h0 h1 h2 hl _ _ ih1 ih2 => exact .cons (Nat.le_trans hb' hb) h0 h1 h2 hl ih1 ih2
theorem RKb.kept {w w' : World} {base : Nat} {A : Option Addr} {l : List Fm} (h : RKb w base A l) (k : Kept w w') : RKb w' base A l := by
  induction h with
  | nil A => exact .nil A
  | cons hb h0 h1 h2 hl _ _ ih1 ih2 => exact .cons hb (kept_cell k h0) (kept_cell k h1) (kept_cell k h2) hl ih1 ih2
theorem fm_set_ne {w : World} {g j b o : Nat} {u v : Value} (h : w.cell? ⟨b, o, none⟩ = some v) (n : b ≠ g) : (w.setCell ⟨g, j, none⟩ u).cell? ⟨b, o, none⟩ = some v :=
  (World.cell?_of_block (w := w) (a := ⟨b, o, none⟩) (Below.heap_setCell w ⟨g, j, none⟩ u b n)).trans h
theorem RKb.set {w : World} {base : Nat} {A : Option Addr} {l : List Fm} (h : RKb w base A l) {g : Nat} (hg : g < base) (j : Nat) (u : Value) : RKb (w.setCell ⟨g, j, none⟩ u) base A l := by
  induction h with
  | nil A => exact .nil A
  | cons hb h0 h1 h2 hl _ _ ih1 ih2 => exact .cons hb (fm_set_ne h0 (by omega)) (fm_set_ne h1 (by omega)) (fm_set_ne h2 (by omega)) hl ih1 ih2

/-- A formula was made. -/
def FmPost (base : Nat) (f : Fm) (w : World) (e : Ending) (w' : World) : Prop := ∃ A c, e = .returned (fmV f A c) ∧ RKb w' base A f.l ∧ Kept w w'

set_option maxRecDepth 100000 in
set_option maxHeartbeats 1000000 in
theorem var73_any (g1 g4 : Nat) (n s : Int) (A : Option Addr) (c : Nat) (l : List Nd) (k : Nat) (w : World) (o1 : Own w g1 24 [.int .i64 n, .int .i64 s, .slice A l.length c]) (hr : RN w A l) (hk : k < l.length) (hm : l.length ≤ 20000) (c4 : w.cell? ⟨g4, 0, none⟩ = some (.int .i64 k)) :
    Calls Try.prog 73 #[.pointer (some ⟨g1, 0, none⟩), .pointer (some ⟨g4, 0, none⟩)] w fun e w' => e = .returned (.agg #[.int .i64 0, .int .i64 (nv l k), .slice none 0 0]) ∧ Kept w w' := by
  obtain ⟨b, off, rfl, hc⟩ := RN.at_ hr hk
  obtain ⟨d0, d1, d2⟩ := hc k hk
  clear hc hr
  have z1 : g1 < w.heap.size := o1.lt
  have z4 : g4 < w.heap.size := kept_lt c4
  have zb : b < w.heap.size := kept_lt d0
  have oR := Own.new w 52 [.int .i64 0, .int .i64 (nv l k), .slice none 0 0]
  have r0 := oR.cell (j := 0) rfl
  have r1 := oR.cell (j := 1) rfl
  have r2 := oR.cell (j := 2) rfl
  have q2 := o1.cell (j := 2) rfl
  have h0 : (0 : Int) ≤ (k : Int) := by omega
  have h1 : (k : Int) < (l.length : Int) := by omega
  go_enter Try.func73, Try.ntmps73
  go_wp2_with fail
  exact bodyPost_ret (v := .agg #[.int .i64 0, .int .i64 (nv l k), .slice none 0 0]) (by simp [results, Try.results73, go_sem, r0, r1, r2]) rfl ⟨rfl, kept_alloc (kept_refl w) _⟩
end Go.Proofs.Ytinpmdekdfgiiaa

/- Formula: the closure that makes the formula of a node. -/
set_option linter.unusedVariables false
set_option linter.unusedSimpArgs false
namespace Go.Proofs.Ytinpmdekdfgiiaa
open Go.RowKit

theorem tf_kids (l : List Nd) (f : Nat) (c : Int) : (tfF l f c).l.length ≤ 9223372036854775807 := by
  induction f generalizing c with
  | zero => simp [tfF, tfE, Fm.l]
  | succ f ih =>
    unfold tfF
    split
    · simp [tfE, Fm.l]
    · unfold tfK
      split
      · exact ih _
      · simp [Fm.l]

end Go.Proofs.Ytinpmdekdfgiiaa

/- The reference's number of sequences. -/
set_option linter.unusedVariables false
set_option linter.unusedSimpArgs false
namespace Go.Proofs.Ytinpmdekdfgiiaa
open Go.RowKit

/-- A list that is filled from its end. -/
def tl (f : Nat → Int) (n j : Nat) : List Int := (List.range n).map (fun k => if j ≤ k then f k else 0)
@[simp] theorem tl_length (f : Nat → Int) (n j : Nat) : (tl f n j).length = n := by simp [tl]
theorem tl_at {f : Nat → Int} {n j k : Nat} (hk : k < n) : ia (tl f n j) k = if j ≤ k then f k else 0 := by simp [tl, ia, List.getD_eq_getElem?_getD, hk]
theorem tl_all (f : Nat → Int) (n : Nat) : tl f n n = List.replicate n 0 := by
  apply List.ext_getElem
  · simp
  · intro k h1 h2
    simp [tl]
    intro h
    simp at h1
    omega
theorem tl_set {f : Nat → Int} {n j : Nat} (hj : j < n) : (tl f n (j + 1)).set j (f j) = tl f n j := by
  apply List.ext_getElem
  · simp
  · intro k h1 h2
    simp only [tl, List.getElem_set, List.getElem_map, List.getElem_range]
    by_cases e : j = k
    · subst e; simp
    · rw [if_neg e]
      by_cases h : j + 1 ≤ k
      · rw [if_pos h, if_pos (by omega)]
      · rw [if_neg h, if_neg (by omega)]
theorem Own.cast {w : World} {g : Nat} {e : TypeId} {cs cs' : List Value} (h : Own w g e cs) (he : cs = cs') : Own w g e cs' := he ▸ h
/-- The number of sequences. -/
def sqB (s : Int) (l : List Nd) : Int := if s < 0 then 0 else (sq l s.toNat : Nat)

end Go.Proofs.Ytinpmdekdfgiiaa

/- Formula. -/
set_option linter.unusedVariables false
set_option linter.unusedSimpArgs false
namespace Go.Proofs.Ytinpmdekdfgiiaa
open Go.RowKit

def FmBad (g : Int) (w : World) (e : Ending) (w' : World) : Prop := e = .returned (.tuple #[.agg #[.int .i64 0, .int .i64 0, .slice none 0 0], .int .i64 g]) ∧ Kept w w'
def FmGood (f : Fm) (w : World) (e : Ending) (w' : World) : Prop := ∃ A c, e = .returned (.tuple #[fmV f A c, .int .i64 0]) ∧ RK w' A f.l ∧ Kept w w'

set_option maxRecDepth 100000 in
set_option maxHeartbeats 1000000 in
theorem formula32_bad (n s : Int) (A : Option Addr) (c : Nat) (l : List Nd) (w : World) (hm : l.length ≤ 140737488355328) (hr : RN w A l) (hv : validB n s l = false) :
    Calls Try.prog 32 #[.agg #[.int .i64 n, .int .i64 s, .slice A l.length c]] w (FmBad 1 w) := by
  have a0 := (Own.new w 24 [.int .i64 n, .int .i64 s, .slice A l.length c]).alloc (.cells #[.int .i64 0, .int .i64 0, .slice none 0 0] 52)
  have a1 := Own.new (w.alloc (.cells #[.int .i64 n, .int .i64 s, .slice A l.length c] 24)) 52 [.int .i64 0, .int .i64 0, .slice none 0 0]
  have ka := kept_alloc (kept_alloc (kept_refl w) (.cells #[.int .i64 n, .int .i64 s, .slice A l.length c] 24)) (.cells #[.int .i64 0, .int .i64 0, .slice none 0 0] 52)
  simp only [World.size_alloc] at a1
  have C16 := fun (w' : World) (k : Kept w w') => valid_any n s A c l w' hm (hr.kept k)
  rw [hv] at C16
  replace C16 := Lib.hid C16
  clear hr hv
  go_enter Try.func32, Try.ntmps32
  go_wp2_with fail
  refine (C16.out _ ka).mono ?_
  rintro e w1 ⟨rfl, k1⟩
  replace a0 := a0.kept k1; replace a1 := a1.kept k1; replace ka := kept_trans ka k1
  clear k1
  have e0 := a1.cell (j := 0) rfl
  have e1 := a1.cell (j := 1) rfl
  have e2 := a1.cell (j := 2) rfl
  have f0 := a1.frozen 0
  have f1 := a1.frozen 1
  have f2 := a1.frozen 2
  go_wp2_with fail
  have o3 := ((a1.set 0 (.int .i64 0)).set 1 (.int .i64 0)).set 2 (.slice none 0 0)
  have pk := kept_set (g := w.heap.size + 1) (j := 2) (kept_set (g := w.heap.size + 1) (j := 1) (kept_set (g := w.heap.size + 1) (j := 0) ka (by omega) (.int .i64 0)) (by omega) (.int .i64 0)) (by omega) (.slice none 0 0)
  obtain ⟨W2, hW2⟩ : ∃ W2, W2 = ((w1.setCell ⟨w.heap.size + 1, 0, none⟩ (.int .i64 0)).setCell ⟨w.heap.size + 1, 1, none⟩ (.int .i64 0)).setCell ⟨w.heap.size + 1, 2, none⟩ (.slice none 0 0) := ⟨_, rfl⟩
  rw [← hW2] at pk o3 ⊢
  clear hW2 e0 e1 e2
  have q0 := o3.cell (j := 0) rfl
  have q1 := o3.cell (j := 1) rfl
  have q2 := o3.cell (j := 2) rfl
  exact bodyPost_ret (v := .tuple #[.agg #[.int .i64 0, .int .i64 0, .slice none 0 0], .int .i64 1]) (by simp [results, Try.results32, go_sem, q0, q1, q2]) rfl ⟨rfl, pk⟩
end Go.Proofs.Ytinpmdekdfgiiaa
