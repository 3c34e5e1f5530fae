/- General words for walks: what a slice in memory reads as, and what a later world keeps. No program in sight. -/
import Derived.WalkKit
import Derived.ProofKit
import Derived.OpenShut
import Derived.Below
import Derived.Outline
import Derived.WalkSpells
import Derived.WalkLawsBesides
import Derived.Lib.Hide
import Derived.OwnWalk
import Derived.Handy
import Derived.Maps.AppendAt
import Derived.Deep.AppendLies
import Derived.Deep.OwnRows
import Derived.Deep.LoopGhost
import Derived.Deep.DeepCutAuto
import Derived.RegionTactic
import Derived.ChangeAlike
import Derived.Deep.QuietTactic
import Derived.BigQuiet
set_option linter.unusedVariables false
set_option linter.unusedSimpArgs false
namespace Go.Proofs.YtikfeemmjfoffaaDoor
open Go.RowKit

/-! ### Worlds -/

/-- The later world keeps every old block outside F. -/
structure Ext (F : Nat → Prop) (w w' : World) : Prop where
  os : w'.os = w.os
  tape : w'.tape = w.tape
  output : w'.output = w.output
  size : w.heap.size ≤ w'.heap.size
  block : ∀ k, k < w.heap.size → ¬ F k → w'.heap[k]? = w.heap[k]?

/-- Nothing old has changed. -/
abbrev Kept (w w' : World) : Prop := Below w.heap.size w w'

theorem kept_refl (w : World) : Kept w w := Below.refl _ _
theorem kept_trans {a b c : World} (h : Kept a b) (k : Kept b c) : Kept a c := h.trans (k.mono h.size)
theorem kept_alloc {a w : World} (h : Kept a w) (o : Obj) : Kept a (w.alloc o) := h.alloc h.size o
theorem kept_drew {a w : World} (h : Kept a w) : Kept a w.drew := h.drew
theorem below_drewN {B : Nat} {a w : World} (h : Below B a w) (n : Nat) : Below B a (w.drewN n) := ⟨h.os, h.tape, h.output, h.size, h.block⟩
theorem below_kept {B : Nat} {a b c : World} (h : Below B a b) (hB : B ≤ b.heap.size) (k : Kept b c) : Below B a c := h.trans (k.mono hB)

theorem kept_cell {w w1 : World} (h : Kept w w1) {a : Addr} {v : Value} (hc : w.cell? a = some v) : w1.cell? a = some v := (h.cell (World.block_lt_of_cell? w a hc)).trans hc
theorem kept_lt {w : World} {b o : Nat} {v : Value} (hc : w.cell? ⟨b, o, none⟩ = some v) : b < w.heap.size := World.block_lt_of_cell? w _ hc
theorem below_cell {B : Nat} {w w1 : World} (h : Below B w w1) {a : Addr} {v : Value} (hB : a.block < B) (hc : w.cell? a = some v) : w1.cell? a = some v := (h.cell hB).trans hc

theorem cell_alloc {w : World} {a : Addr} {v : Value} (h : w.cell? a = some v) (o : Obj) : (w.alloc o).cell? a = some v := kept_cell (kept_alloc (kept_refl w) o) h
theorem cell_drew {w : World} {a : Addr} {v : Value} (h : w.cell? a = some v) : w.drew.cell? a = some v := kept_cell (kept_drew (kept_refl w)) h

/-! ### What a slice reads as -/

/-- The cells from address A on are cs (of no interest where cs is empty). -/
structure Rd (w : World) (A : Option Addr) (cs : List Value) : Prop where
  at_ : cs ≠ [] → ∃ b off, A = some ⟨b, off, none⟩ ∧ ∀ j v, cs[j]? = some v → w.cell? ⟨b, off + j, none⟩ = some v

theorem Rd.kept {w w1 : World} {A : Option Addr} {cs : List Value} (h : Rd w A cs) (k : Kept w w1) : Rd w1 A cs :=
  ⟨fun hn => let ⟨b, off, e, hc⟩ := h.at_ hn; ⟨b, off, e, fun j v hv => kept_cell k (hc j v hv)⟩⟩

theorem Rd.nil (w : World) (A : Option Addr) : Rd w A [] := ⟨fun h => absurd rfl h⟩

def ints (l : List Int) : List Value := l.map (.int .i64)
def bools (l : List Bool) : List Value := l.map .bool

/-- Elements, for the walk: closed to simp. -/
def ia (l : List Int) (k : Nat) : Int := l.getD k 0
def ba (l : List Bool) (k : Nat) : Bool := l.getD k false

theorem ints_get (l : List Int) (k : Nat) (h : k < l.length) : (ints l)[k]? = some (.int .i64 (ia l k)) := by
  simp [ints, ia, List.getElem?_eq_getElem h, List.getD_eq_getElem?_getD]
theorem bools_get (l : List Bool) (k : Nat) (h : k < l.length) : (bools l)[k]? = some (.bool (ba l k)) := by
  simp [bools, ba, List.getElem?_eq_getElem h, List.getD_eq_getElem?_getD]
@[simp] theorem ints_length (l : List Int) : (ints l).length = l.length := by simp [ints]
@[simp] theorem bools_length (l : List Bool) : (bools l).length = l.length := by simp [bools]
theorem ne_nil_of_lt {α : Type} {l : List α} {k : Nat} (h : k < l.length) : l ≠ [] := by intro e; subst e; simp at h
theorem ints_ne {l : List Int} {k : Nat} (h : k < l.length) : ints l ≠ [] := ne_nil_of_lt (k := k) (by simpa using h)
theorem bools_ne {l : List Bool} {k : Nat} (h : k < l.length) : bools l ≠ [] := ne_nil_of_lt (k := k) (by simpa using h)

theorem Rd.int {w : World} {A : Option Addr} {l : List Int} (h : Rd w A (ints l)) {k : Nat} (hk : k < l.length) :
    ∃ b off, A = some ⟨b, off, none⟩ ∧ (∀ j, j < l.length → w.cell? ⟨b, off + j, none⟩ = some (.int .i64 (ia l j))) := by
  obtain ⟨b, off, e, hc⟩ := h.at_ (ints_ne hk)
  exact ⟨b, off, e, fun j hj => hc j _ (ints_get l j hj)⟩
theorem Rd.bool {w : World} {A : Option Addr} {l : List Bool} (h : Rd w A (bools l)) {k : Nat} (hk : k < l.length) :
    ∃ b off, A = some ⟨b, off, none⟩ ∧ (∀ j, j < l.length → w.cell? ⟨b, off + j, none⟩ = some (.bool (ba l j))) := by
  obtain ⟨b, off, e, hc⟩ := h.at_ (bools_ne hk)
  exact ⟨b, off, e, fun j hj => hc j _ (bools_get l j hj)⟩

/-! ### A block that is known whole -/

def Own (w : World) (g : Nat) (e : TypeId) (cs : List Value) : Prop := w.heap[g]? = some (.cells cs.toArray e (0, 0))

theorem Own.lt {w : World} {g : Nat} {e : TypeId} {cs : List Value} (h : Own w g e cs) : g < w.heap.size := (Array.getElem?_eq_some_iff.1 h).1
theorem Own.cell {w : World} {g : Nat} {e : TypeId} {cs : List Value} (h : Own w g e cs) {j : Nat} {v : Value} (hj : cs[j]? = some v) : w.cell? ⟨g, j, none⟩ = some v := by
  unfold Own at h
  simp [World.cell?, h, hj]
theorem Own.frozen {w : World} {g : Nat} {e : TypeId} {cs : List Value} (h : Own w g e cs) (j : Nat) : w.frozen? ⟨g, j, none⟩ = false := by
  unfold Own at h
  simp [World.frozen?, h]
theorem Own.of_block {w w' : World} {g : Nat} {e : TypeId} {cs : List Value} (h : Own w g e cs) (hb : w'.heap[g]? = w.heap[g]?) : Own w' g e cs := hb.trans h
theorem Own.kept {w w' : World} {g : Nat} {e : TypeId} {cs : List Value} (h : Own w g e cs) (k : Kept w w') : Own w' g e cs := h.of_block (k.block g h.lt)
theorem Own.below {B : Nat} {w w' : World} {g : Nat} {e : TypeId} {cs : List Value} (h : Own w g e cs) (k : Below B w w') (hB : g < B) : Own w' g e cs := h.of_block (k.block g hB)
theorem Own.alloc {w : World} {g : Nat} {e : TypeId} {cs : List Value} (h : Own w g e cs) (o : Obj) : Own (w.alloc o) g e cs := h.kept (kept_alloc (kept_refl w) o)
theorem Own.drew {w : World} {g : Nat} {e : TypeId} {cs : List Value} (h : Own w g e cs) : Own w.drew g e cs := h
theorem Own.drewN {w : World} {g : Nat} {e : TypeId} {cs : List Value} (h : Own w g e cs) (n : Nat) : Own (w.drewN n) g e cs := h
theorem Own.other {w : World} {g : Nat} {e : TypeId} {cs : List Value} (h : Own w g e cs) {a : Addr} (ne : g ≠ a.block) (v : Value) : Own (w.setCell a v) g e cs := h.of_block (Below.heap_setCell w a v g ne)
theorem Own.set {w : World} {g : Nat} {e : TypeId} {cs : List Value} (h : Own w g e cs) (j : Nat) (v : Value) : Own (w.setCell ⟨g, j, none⟩ v) g e (cs.set j v) := by
  have hl := h.lt
  unfold Own at h ⊢
  unfold World.setCell
  simp only [Array.getElem?_modify, if_true, h, Option.map_some]
  simp
theorem Own.new (w : World) (e : TypeId) (cs : List Value) : Own (w.alloc (.cells cs.toArray e)) w.heap.size e cs := heap_alloc_new w _
theorem Own.grown {w w' : World} {g : Nat} {e : TypeId} {cs : List Value} {row : Option Nat} (h : Own w g e cs) (k : w.grownBy w' row) (ne : some g ≠ row) : Own w' g e cs := h.of_block (k.block g h.lt ne)
theorem Own.rd {w : World} {g : Nat} {e : TypeId} {cs : List Value} (h : Own w g e cs) : Rd w (some ⟨g, 0, none⟩) cs :=
  ⟨fun _ => ⟨g, 0, rfl, fun j v hv => by rw [Nat.zero_add]; exact h.cell hv⟩⟩

theorem made_list (v : Value) (n : Nat) : madeCells #[v] n = (List.replicate n v).toArray := by
  apply Array.ext'
  apply List.ext_getElem
  · simp [madeCells]
  · intro i h1 h2
    simp [madeCells, Nat.mod_one]

theorem ints_set (l : List Int) (j : Nat) (v : Int) : (ints l).set j (.int .i64 v) = ints (l.set j v) := by simp [ints, List.map_set]
theorem bools_set (l : List Bool) (j : Nat) (v : Bool) : (bools l).set j (.bool v) = bools (l.set j v) := by simp [bools, List.map_set]
theorem Own.int {w : World} {g : Nat} {e : TypeId} {l : List Int} (h : Own w g e (ints l)) {j : Nat} (hj : j < l.length) : w.cell? ⟨g, j, none⟩ = some (.int .i64 (ia l j)) := h.cell (ints_get l j hj)
theorem Own.bool {w : World} {g : Nat} {e : TypeId} {l : List Bool} (h : Own w g e (bools l)) {j : Nat} (hj : j < l.length) : w.cell? ⟨g, j, none⟩ = some (.bool (ba l j)) := h.cell (bools_get l j hj)
theorem Own.setInt {w : World} {g : Nat} {e : TypeId} {l : List Int} (h : Own w g e (ints l)) (j : Nat) (v : Int) : Own (w.setCell ⟨g, j, none⟩ (.int .i64 v)) g e (ints (l.set j v)) := by
  have := h.set j (.int .i64 v)
  rwa [ints_set] at this
theorem Own.setBool {w : World} {g : Nat} {e : TypeId} {l : List Bool} (h : Own w g e (bools l)) (j : Nat) (v : Bool) : Own (w.setCell ⟨g, j, none⟩ (.bool v)) g e (bools (l.set j v)) := by
  have := h.set j (.bool v)
  rwa [bools_set] at this

theorem kept_set {a w : World} {g j : Nat} (h : Kept a w) (hg : a.heap.size ≤ g) (v : Value) : Kept a (w.setCell ⟨g, j, none⟩ v) := h.setCell (p := ⟨g, j, none⟩) hg v

/-! ### append -/

theorem Own.row {w : World} {g : Nat} {e : TypeId} {cs : List Value} (h : Own w g e cs) (B sz n : Nat) (hB : B ≤ g) (hn : cs.length = n * sz) (hm : n ≤ 140737488355328) : w.ownsRow B e sz (.slice (some ⟨g, 0, none⟩) n n) n cs :=
  ⟨hn, .inr ⟨g, n, cs.toArray, rfl, hB, h, Nat.le_refl _, by simp only [maxLen]; omega, by simpa using hn, by simp [← hn]⟩⟩
theorem row_rd {w : World} {B e sz n : Nat} {A : Option Addr} {m c : Nat} {cs : List Value} (h : w.ownsRow B e sz (.slice A m c) n cs) : Rd w A cs := by
  refine ⟨fun hne => ?_⟩
  rcases h.2 with ⟨hv, h0⟩ | ⟨g, cap, cur, hv, _⟩
  · have := h.1
    rw [h0, Nat.zero_mul] at this
    exact absurd (List.eq_nil_of_length_eq_zero this) hne
  · injection hv with h1 h2 h3
    subst h1
    refine ⟨g, 0, rfl, fun j v hj => ?_⟩
    have := h.cells (g := g) rfl j v hj
    rwa [show (⟨g, 0, none⟩ : Addr).add j = ⟨g, 0 + j, none⟩ from by unfold Addr.add; split <;> simp_all] at this
theorem row_form {w : World} {B e sz n : Nat} {v : Value} {cs : List Value} (h : w.ownsRow B e sz v n cs) : ∃ A c, v = .slice A n c ∧ w.ownsRow B e sz (.slice A n c) n cs := by
  rcases h.2 with ⟨hv, h0⟩ | ⟨g, cap, cur, hv, _⟩
  · subst h0; exact ⟨none, 0, hv, hv ▸ h⟩
  · exact ⟨_, cap, hv, hv ▸ h⟩
theorem row_kept {w w' : World} {B e sz n : Nat} {v : Value} {cs : List Value} (h : w.ownsRow B e sz v n cs) (k : Kept w w') : w'.ownsRow B e sz v n cs :=
  h.kept (row := none) ⟨k.os, k.tape, k.output, k.size, fun i hi _ => k.block i hi⟩ (by cases v.ownBlock <;> simp)
theorem row_alloc {w : World} {B e sz n : Nat} {v : Value} {cs : List Value} (h : w.ownsRow B e sz v n cs) (o : Obj) : (w.alloc o).ownsRow B e sz v n cs := h.alloc o
theorem row_max {w : World} {B e sz n : Nat} {v : Value} {cs : List Value} (h : w.ownsRow B e sz v n cs) : n ≤ 9223372036854775807 := by
  rcases h.2 with ⟨_, h0⟩ | ⟨g, cap, cur, _, _, _, h1, h2, _⟩
  · omega
  · simp only [maxLen] at h2; omega
theorem kept_grown {a w w' : World} {B e sz n : Nat} {v : Value} {cs : List Value} (k : Kept a w) (h : w.ownsRow B e sz v n cs) (hB : a.heap.size ≤ B) (hg : w.grownBy w' v.ownBlock) : Kept a w' :=
  k.grown hg k.size fun b hb => Nat.le_trans hB (h.lt b hb).1

section
variable {P : Program} {ops : Array Oper} {rest : List Oper} {o : Oper} {a : Act} {Q : Exit → Act → World → Prop}
/-- append(v, x..) where x is the block laid last. -/
theorem app_law {W : World} (B : Nat) (hgd : o.guard = none) (s x : Operand) (t e : TypeId) (z : Value) (size bytes : Nat)
    (ho : o.op = .call { callee := .builtin .append, args := #[s, x], argTypes := #[t, t] })
    (ht : P.underlying t = some (.slice e)) (hinfo : (P.info? e).map (fun i => (i.zero, i.size, i.bytes)) = some (some z, size, bytes)) (hz : z.cells.size = size) (hs0 : 0 < size) (hb0 : 0 < bytes)
    (v : Value) (n m : Nat) (xs ys : List Value) (hs : a.eval s = v) (hx : a.eval x = .slice (some ⟨W.heap.size, 0, none⟩) m m) (hys : ys.length = m * size) (h1 : ∀ u ∈ ys, u.oneCell' = true)
    (HO : W.ownsRow B e size v n xs) (hB : B ≤ W.heap.size) (hl : (n + m) * bytes ≤ 140737488355328)
    (h : ∀ v1 w1, w1.ownsRow B e size v1 (n + m) (xs ++ ys) → W.grownBy w1 v.ownBlock → (v1.ownBlock = v.ownBlock ∨ ∃ b, v1.ownBlock = some b ∧ W.heap.size ≤ b) → wpList P ops Q rest (a.put o.dst v1) w1) :
    wpList P ops Q (o :: rest) a (W.alloc (.cells ys.toArray e)) := by
  obtain ⟨i0, hi, hzz⟩ := Option.map_eq_some_iff.1 hinfo
  simp only [Prod.mk.injEq] at hzz
  obtain ⟨hz0, hz1, hz2⟩ := hzz
  have hlen : n + m ≤ 140737488355328 := Nat.le_trans (Nat.le_mul_of_pos_right _ hb0) hl
  refine wpList_append_own_at (W.alloc (.cells ys.toArray e)) hgd s x t ho B e i0 z size bytes ht hi hz0 hz1 hz2 hz hs0 v n xs hs (HO.alloc _) ⟨W.heap.size, 0, none⟩ m m ys hx hys
    (by simpa using World.news_of_block (cs := ys.toArray) (t := e) (fr := (0, 0)) (heap_alloc_new W _)) h1 (by simp only [maxLen]; omega) hl (by simp; omega) ?_
  intro v1 w1 hown hg _ hat
  refine h v1 w1 hown (World.grownBy.trans (World.grownBy_alloc W _ _) hg) ?_
  rcases hat with hat | hat
  · exact .inl hat
  · exact .inr ⟨_, hat, by simp⟩
end

theorem one_ints (l : List Int) : ∀ u ∈ ints l, u.oneCell' = true := by
  intro u hu
  obtain ⟨x, _, rfl⟩ := List.mem_map.1 hu
  rfl
theorem one_bools (l : List Bool) : ∀ u ∈ bools l, u.oneCell' = true := by
  intro u hu
  obtain ⟨x, _, rfl⟩ := List.mem_map.1 hu
  rfl
theorem ints_append (l m : List Int) : ints l ++ ints m = ints (l ++ m) := by simp [ints]
theorem bools_append (l m : List Bool) : bools l ++ bools m = bools (l ++ m) := by simp [bools]
section
variable {P : Program} {ops : Array Oper} {rest : List Oper} {o : Oper} {a : Act} {Q : Exit → Act → World → Prop}
/-- append(v, x) for ints: x the block of one number laid last. -/
theorem app_int {W : World} (B : Nat) (hgd : o.guard = none) (s x : Operand) (t e : TypeId)
    (ho : o.op = .call { callee := .builtin .append, args := #[s, x], argTypes := #[t, t] })
    (ht : P.underlying t = some (.slice e)) (hinfo : (P.info? e).map (fun i => (i.zero, i.size, i.bytes)) = some (some (.int .i64 0), 1, 8))
    (v : Value) (n : Nat) (xs : List Int) (y : Int) (hs : a.eval s = v) (hx : a.eval x = .slice (some ⟨W.heap.size, 0, none⟩) 1 1)
    (HO : W.ownsRow B e 1 v n (ints xs)) (hB : B ≤ W.heap.size) (hl : n ≤ 17592186044415)
    (h : ∀ v1 w1, w1.ownsRow B e 1 v1 (n + 1) (ints (xs ++ [y])) → W.grownBy w1 v.ownBlock → (v1.ownBlock = v.ownBlock ∨ ∃ b, v1.ownBlock = some b ∧ W.heap.size ≤ b) → wpList P ops Q rest (a.put o.dst v1) w1) :
    wpList P ops Q (o :: rest) a (W.alloc (.cells #[.int .i64 y] e)) :=
  app_law B hgd s x t e (.int .i64 0) 1 8 ho ht hinfo rfl (by omega) (by omega) v n 1 (ints xs) (ints [y]) hs hx rfl (one_ints _) HO hB (by omega)
    fun v1 w1 h1 h2 h3 => h v1 w1 (by rwa [ints_append] at h1) h2 h3
end

theorem ite_max (a b : Int) : (if a < b then b else a) = max a b := by
  rw [Int.max_def]; split <;> split <;> omega
theorem ite_min (a b : Int) : (if b < a then b else a) = min a b := by
  rw [Int.min_def]; split <;> split <;> omega

/-! ### Results -/
theorem ret_bool {a b : Bool} (h : a = b) : Ending.returned (.bool a) = .returned (.bool b) := by rw [h]
theorem ret_int {k : IntKind} {a b : Int} (h : a = b) : Ending.returned (.int k a) = .returned (.int k b) := by rw [h]

/-- An interval of Nat below n, all of which pass a test. -/
def allN (n : Nat) (p : Nat → Bool) : Bool := (List.range n).all p
theorem allN_true {n : Nat} {p : Nat → Bool} : allN n p = true ↔ ∀ j, j < n → p j = true := by simp [allN]
theorem allN_false {n : Nat} {p : Nat → Bool} : allN n p = false ↔ ∃ j, j < n ∧ p j = false := by
  simp [allN]
end Go.Proofs.YtikfeemmjfoffaaDoor
