/- Copy of a formula. -/
import Derived.Test.YtinpmdekdfgiiaaM2
import Derived.Test.YtinpmdekdfgiiaaLib6
import Derived.Test.YtinpmdekdfgiiaaS1
set_option linter.unusedVariables false
set_option linter.unusedSimpArgs false
namespace Go.Proofs.Ytinpmdekdfgiiaa
open Go.RowKit

/-- Kids in blocks that meet a condition. -/
inductive RKp (w : World) (P : Nat → Prop) : Option Addr → List Fm → Prop
  | nil (A : Option Addr) : RKp w P A []
  | cons {b off : Nat} {A : Option Addr} {c : Nat} {f : Fm} {fs : List Fm} (hb : P b) (h0 : w.cell? ⟨b, off, none⟩ = some (.int .i64 f.k)) (h1 : w.cell? ⟨b, off + 1, none⟩ = some (.int .i64 f.n))
      (h2 : w.cell? ⟨b, off + 2, none⟩ = some (.slice A f.l.length c)) (hl : f.l.length ≤ 9223372036854775807) (hk : RKp w P A f.l) (hs : RKp w P (some ⟨b, off + 3, none⟩) fs) : RKp w P (some ⟨b, off, none⟩) (f :: fs)
theorem RKp.rk {w : World} {P : Nat → Prop} {A : Option Addr} {l : List Fm} (h : RKp w P A l) : RK w A l := by
  induction h with
  | nil A => exact .nil A
  | cons hb h0 h1 h2 hl _ _ ih1 ih2 => exact .cons h0 h1 h2 hl ih1 ih2
theorem RKp.imp {w : World} {P Q : Nat → Prop} {A : Option Addr} {l : List Fm} (h : RKp w P A l) (hq : ∀ b, P b → b < w.heap.size → Q b) : RKp w Q A l := by
  induction h with
  | nil A => exact .nil A
  | cons hb h0 h1 h2 hl _ _ ih1 ih2 => exact .cons (hq _ hb (kept_lt h0)) h0 h1 h2 hl ih1 ih2
theorem RKp.frame {w w' : World} {P : Nat → Prop} {A : Option Addr} {l : List Fm} (h : RKp w P A l) (hf : ∀ b, P b → b < w.heap.size → w'.heap[b]? = w.heap[b]?) : RKp w' P A l := by
  induction h with
  | nil A => exact .nil A
  | cons hb h0 h1 h2 hl _ _ ih1 ih2 =>
    have e := hf _ hb (kept_lt h0)
    exact .cons hb ((World.cell?_of_block (w := w) (a := ⟨_, _, none⟩) e).trans h0) ((World.cell?_of_block (w := w) (a := ⟨_, _, none⟩) e).trans h1) ((World.cell?_of_block (w := w) (a := ⟨_, _, none⟩) e).trans h2) hl ih1 ih2
theorem RKp.kept {w w' : World} {P : Nat → Prop} {A : Option Addr} {l : List Fm} (h : RKp w P A l) (k : Kept w w') : RKp w' P A l := h.frame fun b _ hb => k.block b hb

/-- The cells of kids whose own kids lie at ks. -/
def kcs : List Fm → List (Option Addr × Nat) → List Value
  | f :: fs, a :: ks => .int .i64 f.k :: .int .i64 f.n :: .slice a.1 f.l.length a.2 :: kcs fs ks
  | _, _ => []
theorem kcs_snoc (f : Fm) (a : Option Addr × Nat) : ∀ (l : List Fm) (ks : List (Option Addr × Nat)), l.length = ks.length → kcs l ks ++ [.int .i64 f.k, .int .i64 f.n, .slice a.1 f.l.length a.2] = kcs (l ++ [f]) (ks ++ [a]) := by
  intro l
  induction l with
  | nil => intro ks h; cases ks with
    | nil => rfl
    | cons _ _ => simp at h
  | cons g l ih => intro ks h; cases ks with
    | nil => simp at h
    | cons b ks => simp only [kcs, List.cons_append]; rw [ih ks (by simpa using h)]
/-- The kids' own kids are there. -/
def KsOk (w : World) (P : Nat → Prop) : List Fm → List (Option Addr × Nat) → Prop
  | f :: fs, a :: ks => RKp w P a.1 f.l ∧ f.l.length ≤ 9223372036854775807 ∧ KsOk w P fs ks
  | _, _ => True
theorem KsOk.imp {w : World} {P Q : Nat → Prop} (hq : ∀ b, P b → b < w.heap.size → Q b) : ∀ (l : List Fm) (ks : List (Option Addr × Nat)), KsOk w P l ks → KsOk w Q l ks := by
  intro l
  induction l with
  | nil => intro ks _; cases ks <;> trivial
  | cons f l ih => intro ks h; cases ks with
    | nil => trivial
    | cons a ks => exact ⟨h.1.imp hq, h.2.1, ih ks h.2.2⟩
theorem KsOk.frame {w w' : World} {P : Nat → Prop} (hf : ∀ b, P b → b < w.heap.size → w'.heap[b]? = w.heap[b]?) : ∀ (l : List Fm) (ks : List (Option Addr × Nat)), KsOk w P l ks → KsOk w' P l ks := by
  intro l
  induction l with
  | nil => intro ks _; cases ks <;> trivial
  | cons f l ih => intro ks h; cases ks with
    | nil => trivial
    | cons a ks => exact ⟨h.1.frame hf, h.2.1, ih ks h.2.2⟩
theorem KsOk.snoc {w : World} {P : Nat → Prop} {f : Fm} {a : Option Addr × Nat} (h : RKp w P a.1 f.l) (hl : f.l.length ≤ 9223372036854775807) : ∀ (l : List Fm) (ks : List (Option Addr × Nat)), l.length = ks.length → KsOk w P l ks → KsOk w P (l ++ [f]) (ks ++ [a]) := by
  intro l
  induction l with
  | nil => intro ks hk _; cases ks with
    | nil => exact ⟨h, hl, trivial⟩
    | cons _ _ => simp at hk
  | cons g l ih => intro ks hk hh; cases ks with
    | nil => simp at hk
    | cons b ks => exact ⟨hh.1, hh.2.1, ih ks (by simpa using hk) hh.2.2⟩
theorem rkp_of {w : World} {P : Nat → Prop} {b : Nat} (hb : P b) : ∀ (l : List Fm) (ks : List (Option Addr × Nat)) (off : Nat), l.length = ks.length → (∀ j u, (kcs l ks)[j]? = some u → w.cell? ⟨b, off + j, none⟩ = some u) → KsOk w P l ks → RKp w P (some ⟨b, off, none⟩) l := by
  intro l
  induction l with
  | nil => intro ks off _ _ _; exact .nil _
  | cons f l ih =>
    intro ks off hk hc hh
    cases ks with
    | nil => simp at hk
    | cons a ks =>
      refine .cons hb (hc 0 _ rfl) (hc 1 _ rfl) (hc 2 _ rfl) hh.2.1 hh.1 (ih ks (off + 3) (by simpa using hk) (fun j u hj => ?_) hh.2.2)
      have := hc (3 + j) u (by rw [show 3 + j = j + 1 + 1 + 1 from by omega]; exact hj)
      rwa [← Nat.add_assoc] at this
theorem gr_kept {a b c : World} {r : Option Nat} (h : a.grownBy b r) (k : Kept b c) : a.grownBy c r :=
  ⟨by rw [k.os, h.os], by rw [k.tape, h.tape], by rw [k.output, h.output], Nat.le_trans h.size k.size, fun i hi hn => (k.block i (Nat.lt_of_lt_of_le hi h.size)).trans (h.block i hi hn)⟩
theorem gr_refl (a : World) (r : Option Nat) : a.grownBy a r := ⟨rfl, rfl, rfl, Nat.le_refl _, fun _ _ _ => rfl⟩
theorem gr_cell {a b : World} {r : Option Nat} {x o : Nat} {v : Value} (h : a.grownBy b r) (hc : a.cell? ⟨x, o, none⟩ = some v) (n : some x ≠ r) : b.cell? ⟨x, o, none⟩ = some v :=
  (World.cell?_of_block (w := a) (a := ⟨x, o, none⟩) (h.block x (kept_lt hc) n)).trans hc
theorem kept_gr {a b c : World} {r : Option Nat} (h : Kept a b) (k : b.grownBy c r) (hr : ∀ g, r = some g → a.heap.size ≤ g) : Kept a c :=
  ⟨by rw [k.os, h.os], by rw [k.tape, h.tape], by rw [k.output, h.output], Nat.le_trans h.size k.size, fun i hi => (k.block i (Nat.lt_of_lt_of_le hi h.size) (fun e => by have := hr i e.symm; omega)).trans (h.block i hi)⟩

theorem info52 : (Try.prog.info? 52).map (fun i => (i.zero, i.size, i.bytes)) = some (some (.agg #[.int .i64 0, .int .i64 0, .slice none 0 0]), 3, 40) := by kernel_rfl
theorem one_k3 (k n : Int) (A : Option Addr) (m c : Nat) : ∀ u ∈ [Value.int .i64 k, .int .i64 n, .slice A m c], u.oneCell' = true := by
  intro u hu
  simp at hu
  rcases hu with rfl | rfl | rfl <;> rfl
/-- A copy was made. -/
def CpPost (f : Fm) (w : World) (e : Ending) (w' : World) : Prop := ∃ A c, e = .returned (fmV f A c) ∧ RKp w' (fun b => w.heap.size ≤ b) A f.l ∧ Kept w w'

set_option maxRecDepth 100000 in
set_option maxHeartbeats 2000000 in
theorem copy49_any : ∀ (N : Nat) (f : Fm) (A : Option Addr) (c : Nat) (w : World), cntF f ≤ N → cntF f ≤ 1000000 → f.l.length ≤ 9223372036854775807 → RK w A f.l → Calls Try.prog 49 #[fmV f A c] w (CpPost f w) := by
  intro N
  induction N with
  | zero => intro f A c w h; have := cntF_pos f; omega
  | succ N ih =>
    intro f A c w hc hbig hl hr
    have IH := Lib.hid ih; clear ih
    have HR := Lib.hid hr; clear hr
    have hcn := cntF_eq f
    have hlc : f.l.length ≤ cntL f.l := by
      have : ∀ l : List Fm, l.length ≤ cntL l := by
        intro l
        induction l with
        | nil => simp
        | cons g l ih => have := cntF_pos g; simp only [cntL, List.length_cons]; omega
      exact this _
    have HC := Lib.hid hcn; clear hcn
    unfold CpPost fmV
    obtain ⟨l, hle⟩ : ∃ l, l = f.l := ⟨_, rfl⟩
    rw [← hle] at hl HR HC hlc ⊢
    clear hle
    have hlm : l.length ≤ 1000000 := by have := HC.out; omega
    have o0 := ((Own.new w 52 [.int .i64 f.k, .int .i64 f.n, .slice A l.length c]).alloc (.cells #[.int .i64 0, .int .i64 0, .slice none 0 0] 52)).alloc (.cells #[.int .i64 f.k, .int .i64 f.n, .slice none 0 0] 52)
    have o1 := (Own.new (w.alloc (.cells #[.int .i64 f.k, .int .i64 f.n, .slice A l.length c] 52)) 52 [.int .i64 0, .int .i64 0, .slice none 0 0]).alloc (.cells #[.int .i64 f.k, .int .i64 f.n, .slice none 0 0] 52)
    have o2 := Own.new ((w.alloc (.cells #[.int .i64 f.k, .int .i64 f.n, .slice A l.length c] 52)).alloc (.cells #[.int .i64 0, .int .i64 0, .slice none 0 0] 52)) 52 [.int .i64 f.k, .int .i64 f.n, .slice none 0 0]
    simp only [World.size_alloc] at o1 o2
    have K0 : Kept w (((w.alloc (.cells #[.int .i64 f.k, .int .i64 f.n, .slice A l.length c] 52)).alloc (.cells #[.int .i64 0, .int .i64 0, .slice none 0 0] 52)).alloc (.cells #[.int .i64 f.k, .int .i64 f.n, .slice none 0 0] 52)) := kept_alloc (kept_alloc (kept_alloc (kept_refl w) _) _) _
    obtain ⟨P, hP⟩ : ∃ P : Ending → World → Prop, P = (fun e w' => ∃ A c, e = .returned (.agg #[.int .i64 f.k, .int .i64 f.n, .slice A l.length c]) ∧ RKp w' (fun b => w.heap.size ≤ b) A l ∧ Kept w w') := ⟨_, rfl⟩
    rw [← hP]
    have HP := Lib.hid hP; clear hP
    go_enter Try.func49, Try.ntmps49
    go_wp2_with fail
    go_loopg [4] l.length (fun g' s4 wr => ∃ (j : Nat) (v : Value) (ks : List (Option Addr × Nat)), j ≤ l.length ∧ g' = l.length - j ∧ s4 = .int .i64 j ∧ ks.length = j ∧ Own wr w.heap.size 52 [.int .i64 f.k, .int .i64 f.n, .slice A l.length c] ∧ Own wr (w.heap.size + 1) 52 [.int .i64 0, .int .i64 0, .slice none 0 0] ∧ Own wr (w.heap.size + 1 + 1) 52 [.int .i64 f.k, .int .i64 f.n, v] ∧
      wr.ownsRow (w.heap.size + 3) 52 3 v j (kcs (l.take j) ks) ∧ KsOk wr (fun b => w.heap.size + 3 ≤ b ∧ some b ≠ v.ownBlock) (l.take j) ks ∧ Kept w wr)
    case atStart => exact ⟨0, .slice none 0 0, [], by omega, rfl, rfl, rfl, o0, o1, o2, by simpa [kcs] using World.ownsRow_nil _ _ _ _, by simp [KsOk], K0⟩
    case round =>
      clear o0 o1 o2 K0
      obtain ⟨j, v, ks, hj, rfl, rfl, hks, o0, o1, o2, hrow, hko, K0⟩ := hrel
      have q2 := o0.cell (j := 2) rfl
      have y2 := o2.cell (j := 2) rfl
      have HKS := Lib.hid hks; clear hks
      have hvb : ∀ b, v.ownBlock = some b → w.heap.size + 3 ≤ b ∧ b < wr.heap.size := fun b hb => hrow.lt b hb
      have HVB := Lib.hid hvb; clear hvb
      have zB : w.heap.size + 2 < wr.heap.size := o2.lt
      by_cases hlt : j < l.length
      · obtain ⟨b1, f1, hA, hk1⟩ := HR.out.at_ (by omega)
        subst hA
        have hkid := hk1 j hlt
        have zb1 : b1 < w.heap.size := kept_lt hkid.c0
        obtain ⟨d0, d1, ⟨A', c', d2, rk1⟩, dl⟩ := hkid.kept K0
        clear hk1
        have g0 : (0 : Int) ≤ (j : Int) := by omega
        have g1 : (j : Int) < (l.length : Int) := by omega
        have hkc := cnt_kid hlt
        have C := fun (w' : World) (k : wr.grownBy w' v.ownBlock) => IH.out (kd l j) A' c' w' (by have := HC.out; omega) (by have := HC.out; omega) dl (by
          obtain ⟨_, _, ⟨A2, c2, e2, rk2⟩, _⟩ := hkid
          have KK : Kept w w' := kept_gr K0 k (fun g hg => by have := (HVB.out g hg).1; omega)
          have e3 := kept_cell K0 e2
          rw [d2] at e3
          injection e3 with e3
          injection e3 with e4 _ _
          rw [e4]
          exact rk2.kept KK)
        unfold CpPost fmV at C
        have htk : l.take (j + 1) = l.take j ++ [kd l j] := by
          rw [List.take_succ_eq_append_getElem hlt]
          simp [kd, List.getD_eq_getElem?_getD, hlt]
        have HTK := Lib.hid htk; clear htk
        generalize kd l j = kj at *
        have HCC := Lib.hid C; clear C
        have n0 : some w.heap.size ≠ v.ownBlock := fun e => by have := HVB.out _ e.symm; omega
        have n2 : some (w.heap.size + 1 + 1) ≠ v.ownBlock := fun e => by have := HVB.out _ e.symm; omega
        have n3 : some b1 ≠ v.ownBlock := fun e => by have := HVB.out _ e.symm; omega
        go_wp2_with fail
        refine region_x (fun w' => wr.grownBy w' v.ownBlock) [11] (by kernel_rfl) ?_ (fun hHeld => ?_)
        · exact gr_kept (gr_refl _ _) (kept_drew (kept_refl _))
        refine x_take (i := 0) (oi := { dst := some 17, op := Op.fieldAddr 52 (Operand.tmp 3) 2, type := 0, pos := "law.go:340", after := #[], guard := none }) (v := ?_) rfl (by kernel_rfl) (by kernel_rfl) (by kernel_rfl) (by kernel_rfl) (by kernel_rfl) (fun _ _ _ h => h) (Or.inl ⟨rfl, ?_⟩) (by assumption) ?_
        rotate_left
        · (intro w' hSw; have h0 := gr_cell hSw q2 n0; have h1 := gr_cell hSw y2 n2; have h2 := gr_cell hSw d0 n3; have h3 := gr_cell hSw d1 n3; have h4 := gr_cell hSw d2 n3; go_simp; try with_reducible rfl)
        try simp only [Act.put, List.setIfInBounds_toArray, List.set_cons_zero, List.set_cons_succ]
        refine x_take (i := 1) (oi := { dst := some 18, op := Op.load 50 (Operand.tmp 17), type := 50, pos := "law.go:340", after := #[{ on := 0, ground := Ground.data }], guard := none }) (v := ?_) rfl (by kernel_rfl) (by kernel_rfl) (by kernel_rfl) (by kernel_rfl) (by kernel_rfl) (fun _ _ _ h => h) (Or.inl ⟨rfl, ?_⟩) (by assumption) ?_
        rotate_left
        · (intro w' hSw; have h0 := gr_cell hSw q2 n0; have h1 := gr_cell hSw y2 n2; have h2 := gr_cell hSw d0 n3; have h3 := gr_cell hSw d1 n3; have h4 := gr_cell hSw d2 n3; go_simp; try with_reducible rfl)
        try simp only [Act.put, List.setIfInBounds_toArray, List.set_cons_zero, List.set_cons_succ]
        refine x_take (i := 2) (oi := { dst := some 19, op := Op.fieldAddr 52 (Operand.tmp 1) 2, type := 0, pos := "law.go:340", after := #[], guard := none }) (v := ?_) rfl (by kernel_rfl) (by kernel_rfl) (by kernel_rfl) (by kernel_rfl) (by kernel_rfl) (fun _ _ _ h => h) (Or.inl ⟨rfl, ?_⟩) (by assumption) ?_
        rotate_left
        · (intro w' hSw; have h0 := gr_cell hSw q2 n0; have h1 := gr_cell hSw y2 n2; have h2 := gr_cell hSw d0 n3; have h3 := gr_cell hSw d1 n3; have h4 := gr_cell hSw d2 n3; go_simp; try with_reducible rfl)
        try simp only [Act.put, List.setIfInBounds_toArray, List.set_cons_zero, List.set_cons_succ]
        refine x_take (i := 3) (oi := { dst := some 20, op := Op.load 50 (Operand.tmp 19), type := 50, pos := "law.go:340", after := #[{ on := 2, ground := Ground.data }], guard := none }) (v := ?_) rfl (by kernel_rfl) (by kernel_rfl) (by kernel_rfl) (by kernel_rfl) (by kernel_rfl) (fun _ _ _ h => h) (Or.inl ⟨rfl, ?_⟩) (by assumption) ?_
        rotate_left
        · (intro w' hSw; have h0 := gr_cell hSw q2 n0; have h1 := gr_cell hSw y2 n2; have h2 := gr_cell hSw d0 n3; have h3 := gr_cell hSw d1 n3; have h4 := gr_cell hSw d2 n3; go_simp; try with_reducible rfl)
        try simp only [Act.put, List.setIfInBounds_toArray, List.set_cons_zero, List.set_cons_succ]
        refine x_take (i := 4) (oi := { dst := some 21, op := Op.move (Operand.tmp 4), type := 3, pos := "law.go:340", after := #[], guard := none }) (v := ?_) rfl (by kernel_rfl) (by kernel_rfl) (by kernel_rfl) (by kernel_rfl) (by kernel_rfl) (fun _ _ _ h => h) (Or.inl ⟨rfl, ?_⟩) (by assumption) ?_
        rotate_left
        · (intro w' hSw; have h0 := gr_cell hSw q2 n0; have h1 := gr_cell hSw y2 n2; have h2 := gr_cell hSw d0 n3; have h3 := gr_cell hSw d1 n3; have h4 := gr_cell hSw d2 n3; go_simp; try with_reducible rfl)
        try simp only [Act.put, List.setIfInBounds_toArray, List.set_cons_zero, List.set_cons_succ]
        refine x_take (i := 5) (oi := { dst := some 22, op := Op.indexAddr 50 (Operand.tmp 20) (Operand.tmp 21), type := 0, pos := "law.go:340", after := #[{ on := 3, ground := Ground.data }, { on := 4, ground := Ground.data }], guard := none }) (v := ?_) rfl (by kernel_rfl) (by kernel_rfl) (by kernel_rfl) (by kernel_rfl) (by kernel_rfl) (fun _ _ _ h => h) (Or.inl ⟨rfl, ?_⟩) (by assumption) ?_
        rotate_left
        · (intro w' hSw; have h0 := gr_cell hSw q2 n0; have h1 := gr_cell hSw y2 n2; have h2 := gr_cell hSw d0 n3; have h3 := gr_cell hSw d1 n3; have h4 := gr_cell hSw d2 n3; go_simp; try with_reducible rfl)
        try simp only [Act.put, List.setIfInBounds_toArray, List.set_cons_zero, List.set_cons_succ]
        refine x_take (i := 6) (oi := { dst := some 23, op := Op.load 52 (Operand.tmp 22), type := 52, pos := "law.go:340", after := #[{ on := 5, ground := Ground.data }], guard := none }) (v := ?_) rfl (by kernel_rfl) (by kernel_rfl) (by kernel_rfl) (by kernel_rfl) (by kernel_rfl) (fun _ _ _ h => h) (Or.inl ⟨rfl, ?_⟩) (by assumption) ?_
        rotate_left
        · (intro w' hSw; have h0 := gr_cell hSw q2 n0; have h1 := gr_cell hSw y2 n2; have h2 := gr_cell hSw d0 n3; have h3 := gr_cell hSw d1 n3; have h4 := gr_cell hSw d2 n3; go_simp; try with_reducible rfl)
        try simp only [Act.put, List.setIfInBounds_toArray, List.set_cons_zero, List.set_cons_succ]
        refine x_one (i := 7) (o := { dst := some 24, op := Op.call { callee := Callee.value (Operand.func 49), args := #[Operand.tmp 23], argTypes := #[52] }, type := 52, pos := "law.go:340", after := #[{ on := 6, ground := Ground.data }], guard := none }) (by kernel_rfl) rfl (fun K hK => ?_)
        (go_simp; go_at_call 49; (with_reducible refine (HCC.out _ hHeld).mono ?_); rintro e w5 ⟨A5, c5, rfl, rk5, k5⟩; have G1 := gr_kept hHeld k5; try dsimp only)
        refine hK.out _ _ ?_ (fun hHeld => ?_)
        · (try dsimp only); first | exact G3 | exact G2 | exact G1
        clear hK K
        try simp only [Act.put, List.setIfInBounds_toArray, List.set_cons_zero, List.set_cons_succ]
        refine x_one (i := 8) (o := { dst := some 25, op := Op.buildSlice 50 1 #[(0, Operand.tmp 24)], type := 50, pos := "law.go:340", after := #[{ on := 7, ground := Ground.data }], guard := none }) (by kernel_rfl) rfl (fun K hK => ?_)
        (go_simp; have G2 := gr_kept G1 (kept_alloc (kept_refl _) (.cells #[.int .i64 kj.k, .int .i64 kj.n, .slice A5 kj.l.length c5] 52)))
        refine hK.out _ _ ?_ (fun hHeld => ?_)
        · (try dsimp only); first | exact G3 | exact G2 | exact G1
        clear hK K
        try simp only [Act.put, List.setIfInBounds_toArray, List.set_cons_zero, List.set_cons_succ]
        refine x_one (i := 9) (o := { dst := some 26, op := Op.call { callee := Callee.builtin Builtin.append, args := #[Operand.tmp 18, Operand.tmp 25], argTypes := #[50, 50] }, type := 50, pos := "law.go:340", after := #[{ on := 1, ground := Ground.data }, { on := 8, ground := Ground.data }, { on := 7, ground := Ground.chain }], guard := none }) (by kernel_rfl) rfl (fun K hK => ?_)
        (refine step_own (w.heap.size + 3) rfl (.tmp 18) (.tmp 25) 50 52 (.agg #[.int .i64 0, .int .i64 0, .slice none 0 0]) 3 40 rfl Try.underlying50 info52 rfl (by omega) (by omega) v j 1 1 ⟨w5.heap.size, 0, none⟩ (kcs (l.take j) ks) [.int .i64 kj.k, .int .i64 kj.n, .slice A5 kj.l.length c5] rfl rfl rfl (news_rd (Own.new w5 52 [.int .i64 kj.k, .int .i64 kj.n, .slice A5 kj.l.length c5]).rd) (one_k3 _ _ _ _ _) (row_kept hrow (kept_trans (kept_drew (kept_refl wr)) (kept_alloc k5 _))) (by have := G2.size; omega) (by omega) ?_; intro v7 w7 hr7 hg7 hat7; have G3 := World.grownBy.trans G2 hg7; have p2 := o2.grown G3 n2; have t3 := p2.cell (j := 2) rfl; have t4 := p2.frozen 2; obtain ⟨A9, c9, rfl, hr9⟩ := row_form hr7)
        refine hK.out _ _ ?_ (fun hHeld => ?_)
        · (try dsimp only); first | exact G3 | exact G2 | exact G1
        clear hK K
        try simp only [Act.put, List.setIfInBounds_toArray, List.set_cons_zero, List.set_cons_succ]
        refine x_take (i := 10) (oi := { dst := some 27, op := Op.fieldAddr 52 (Operand.tmp 3) 2, type := 0, pos := "law.go:340", after := #[{ on := 0, ground := Ground.phase }, { on := 1, ground := Ground.phase }, { on := 2, ground := Ground.phase }, { on := 3, ground := Ground.phase }, { on := 4, ground := Ground.phase }, { on := 5, ground := Ground.phase }, { on := 6, ground := Ground.phase }, { on := 7, ground := Ground.phase }, { on := 8, ground := Ground.phase }, { on := 9, ground := Ground.phase }], guard := none }) (v := ?_) rfl (by kernel_rfl) (by kernel_rfl) (by kernel_rfl) (by kernel_rfl) (by kernel_rfl) (fun _ _ _ h => h) (Or.inl ⟨rfl, ?_⟩) (by assumption) ?_
        rotate_left
        · (intro w' hSw; have h0 := gr_cell hSw q2 n0; have h1 := gr_cell hSw y2 n2; have h2 := gr_cell hSw d0 n3; have h3 := gr_cell hSw d1 n3; have h4 := gr_cell hSw d2 n3; go_simp; try with_reducible rfl)
        try simp only [Act.put, List.setIfInBounds_toArray, List.set_cons_zero, List.set_cons_succ]
        refine x_last (i := 11) (o := { dst := none, op := Op.store 50 (Operand.tmp 27) (Operand.tmp 26), type := 0, pos := "law.go:340", after := #[{ on := 10, ground := Ground.data }, { on := 9, ground := Ground.data }, { on := 9, ground := Ground.chain }, { on := 0, ground := Ground.phase }, { on := 1, ground := Ground.phase }, { on := 2, ground := Ground.phase }, { on := 3, ground := Ground.phase }, { on := 4, ground := Ground.phase }, { on := 5, ground := Ground.phase }, { on := 6, ground := Ground.phase }, { on := 7, ground := Ground.phase }, { on := 8, ground := Ground.phase }, { on := 9, ground := Ground.phase }], guard := none }) (by kernel_rfl) rfl (by simp) (fun K hK => ?_)
        go_simp
        refine hK.out _ _ ?_
        clear hK K
        try simp only [Act.put, List.setIfInBounds_toArray, List.set_cons_zero, List.set_cons_succ]
        refine x_done (by kernel_rfl) ?_ _
        have HRK := Lib.hid rk5
        clear y2 t3 t4 hr7
        go_wp2_with fail
        have z5 : wr.heap.size ≤ w5.heap.size := by have := k5.size; exact this
        have n1 : some (w.heap.size + 1) ≠ v.ownBlock := fun e => by have := HVB.out _ e.symm; omega
        have hat9 : ∀ b, b < w5.heap.size → some b ≠ v.ownBlock → some b ≠ (Value.slice A9 (j + 1) c9).ownBlock := by
          intro b h1 h3
          rcases hat7 with e | e
          · rw [e]; exact h3
          · rw [e]; intro e; injection e with e; simp at e; omega
        have W7 : ∀ b, b < w5.heap.size → some b ≠ v.ownBlock → b ≠ w.heap.size + 1 + 1 → (w7.setCell ⟨w.heap.size + 1 + 1, 2, none⟩ (.slice A9 (j + 1) c9)).heap[b]? = w5.heap[b]? := by
          intro b h1 h2 h3
          rw [Below.heap_setCell w7 ⟨w.heap.size + 1 + 1, 2, none⟩ _ b (by dsimp only; omega), hg7.block b (by simp; omega) h2]
          exact (kept_alloc (kept_refl w5) _).block b h1
        have hko3 : KsOk (w7.setCell ⟨w.heap.size + 1 + 1, 2, none⟩ (.slice A9 (j + 1) c9)) (fun b => w.heap.size + 3 ≤ b ∧ some b ≠ (Value.slice A9 (j + 1) c9).ownBlock) (l.take j) ks := by
          have h1 : KsOk wr (fun b => (w.heap.size + 3 ≤ b ∧ some b ≠ v.ownBlock) ∧ b < wr.heap.size) (l.take j) ks := KsOk.imp (fun b hP hb => ⟨hP, hb⟩) _ _ hko
          have h2 := KsOk.frame (w' := w7.setCell ⟨w.heap.size + 1 + 1, 2, none⟩ (.slice A9 (j + 1) c9)) (fun b hP hb => (W7 b (by omega) hP.1.2 (by omega)).trans (G1.block b hb hP.1.2)) _ _ h1
          exact KsOk.imp (fun b hP _ => ⟨hP.1.1, hat9 b (by omega) hP.1.2⟩) _ _ h2
        have rk6 : RKp w5 (fun b => (w.heap.size + 3 ≤ b ∧ some b ≠ (Value.slice A9 (j + 1) c9).ownBlock) ∧ (b < w5.heap.size ∧ some b ≠ v.ownBlock ∧ b ≠ w.heap.size + 1 + 1)) A5 kj.l := HRK.out.imp (fun b hP hb => by
          have h1 : wr.heap.size ≤ b := hP
          have h2 : some b ≠ v.ownBlock := fun e => by have := (HVB.out _ e.symm).2; omega
          exact ⟨⟨by omega, hat9 b hb h2⟩, hb, h2, by omega⟩)
        have rk7 := (rk6.frame (w' := w7.setCell ⟨w.heap.size + 1 + 1, 2, none⟩ (.slice A9 (j + 1) c9)) (fun b hP hb => W7 b hP.2.1 hP.2.2.1 hP.2.2.2)).imp (Q := fun b => w.heap.size + 3 ≤ b ∧ some b ≠ (Value.slice A9 (j + 1) c9).ownBlock) (fun b hP _ => hP.1)
        have hlen : (l.take j).length = ks.length := by rw [List.length_take, HKS.out]; omega
        have hko4 := KsOk.snoc (a := (A5, c5)) rk7 dl _ _ hlen hko3
        rw [← HTK.out] at hko4
        have hr10 : w7.ownsRow (w.heap.size + 3) 52 3 (.slice A9 (j + 1) c9) (j + 1) (kcs (l.take (j + 1)) (ks ++ [(A5, c5)])) := by
          rw [HTK.out, ← kcs_snoc kj (A5, c5) _ _ hlen]; exact hr9
        go_roundg (l.length - (j + 1))
        case rel => exact ⟨j + 1, .slice A9 (j + 1) c9, ks ++ [(A5, c5)], by omega, rfl, by go_num, by rw [List.length_append, HKS.out]; rfl, (o0.grown G3 n0).other (by dsimp only; omega) _, (o1.grown G3 n1).other (by dsimp only; omega) _, by simpa using p2.set 2 (.slice A9 (j + 1) c9), ownsRow_setCell_below hr10 (by dsimp only; omega) _, hko4, kept_set (kept_gr K0 G3 (fun g hg => by have := (HVB.out g hg).1; omega)) (by omega) _⟩
        case measure => omega
      · have : j = l.length := by omega
        subst this
        rw [List.take_length] at hrow hko
        obtain ⟨A9, c9, rfl, hr9⟩ := row_form hrow
        have y0 := o2.cell (j := 0) rfl
        have y1 := o2.cell (j := 1) rfl
        have e0 := o1.cell (j := 0) rfl
        have e1 := o1.cell (j := 1) rfl
        have e2 := o1.cell (j := 2) rfl
        have f0 := o1.frozen 0
        have f1 := o1.frozen 1
        have f2 := o1.frozen 2
        go_wp2_with fail
        have o3 := ((o1.set 0 (.int .i64 f.k)).set 1 (.int .i64 f.n)).set 2 (.slice A9 l.length c9)
        have pk := kept_set (g := w.heap.size + 1) (j := 2) (kept_set (g := w.heap.size + 1) (j := 1) (kept_set (g := w.heap.size + 1) (j := 0) K0 (by omega) (.int .i64 f.k)) (by omega) (.int .i64 f.n)) (by omega) (.slice A9 l.length c9)
        have pr := ownsRow_setCell_below (ownsRow_setCell_below (ownsRow_setCell_below hr9 (a := ⟨w.heap.size + 1, 0, none⟩) (by dsimp only; omega) (.int .i64 f.k)) (a := ⟨w.heap.size + 1, 1, none⟩) (by dsimp only; omega) (.int .i64 f.n)) (a := ⟨w.heap.size + 1, 2, none⟩) (by dsimp only; omega) (.slice A9 l.length c9)
        have hk9 := KsOk.frame (w' := ((wr.setCell ⟨w.heap.size + 1, 0, none⟩ (.int .i64 f.k)).setCell ⟨w.heap.size + 1, 1, none⟩ (.int .i64 f.n)).setCell ⟨w.heap.size + 1, 2, none⟩ (.slice A9 l.length c9)) (fun b hP hb => by
          rw [Below.heap_setCell _ ⟨w.heap.size + 1, 2, none⟩ _ b (by dsimp only; omega), Below.heap_setCell _ ⟨w.heap.size + 1, 1, none⟩ _ b (by dsimp only; omega), Below.heap_setCell _ ⟨w.heap.size + 1, 0, none⟩ _ b (by dsimp only; omega)]) _ _ hko
        obtain ⟨W2, hW2⟩ : ∃ W2, W2 = ((wr.setCell ⟨w.heap.size + 1, 0, none⟩ (.int .i64 f.k)).setCell ⟨w.heap.size + 1, 1, none⟩ (.int .i64 f.n)).setCell ⟨w.heap.size + 1, 2, none⟩ (.slice A9 l.length c9) := ⟨_, rfl⟩
        rw [← hW2] at o3 pk pr hk9 ⊢
        clear hW2 y0 y1 y2 q2 e0 e1 e2
        have hres : RKp W2 (fun b => w.heap.size ≤ b) A9 l := by
          rcases Nat.eq_zero_or_pos l.length with h0 | h0
          · rw [List.eq_nil_of_length_eq_zero h0]; exact .nil _
          · obtain ⟨g, rfl⟩ := srow_some pr h0
            have hg := (pr.lt g rfl).1
            refine rkp_of (by omega) l ks 0 (by rw [HKS.out]) (fun i u hu => ?_) (KsOk.imp (fun b hP _ => by omega) _ _ hk9)
            rw [Nat.zero_add]
            exact srow_at pr hu
        have q0 := o3.cell (j := 0) rfl
        have q1 := o3.cell (j := 1) rfl
        have q2 := o3.cell (j := 2) rfl
        exact bodyPost_ret (v := .agg #[.int .i64 f.k, .int .i64 f.n, .slice A9 l.length c9]) (by simp [results, Try.results49, go_sem, q0, q1, q2]) rfl (by rw [HP.out]; exact ⟨A9, c9, rfl, hres, pk⟩)
end Go.Proofs.Ytinpmdekdfgiiaa
