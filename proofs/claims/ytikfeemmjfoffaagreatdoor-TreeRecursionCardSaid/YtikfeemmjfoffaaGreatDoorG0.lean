/- Joined: the general words Lib .. Lib8. -/
import Derived.WalkKit
import Derived.ProofKit
import Derived.OpenShut
import Derived.Below
import Derived.Outline
import Derived.WalkSpells
import Derived.WalkLawsBesides
import Derived.Lib.Hide
import Derived.OwnWalk
import Derived.Handy
import Derived.Maps.AppendAt
import Derived.Deep.AppendLies
import Derived.Deep.OwnRows
import Derived.Deep.LoopGhost
import Derived.Deep.DeepCutAuto
import Derived.RegionTactic
import Derived.ChangeAlike
import Derived.Deep.QuietTactic
import Derived.BigQuiet
import Derived.ArgAppend
import Derived.Deep.RegionHeld3
import Derived.Deep.Onto
import Derived.Lib.SlBytesRow
/- General words for walks: what a slice in memory reads as, and what a later world keeps. No program in sight. -/
set_option linter.unusedVariables false
set_option linter.unusedSimpArgs false
namespace Go.Proofs.YtikfeemmjfoffaaGreatDoor
open Go.RowKit

/-! ### Worlds -/

/-- The later world keeps every old block outside F. -/
structure Ext (F : Nat → Prop) (w w' : World) : Prop where
  os : w'.os = w.os
  tape : w'.tape = w.tape
  output : w'.output = w.output
  size : w.heap.size ≤ w'.heap.size
  block : ∀ k, k < w.heap.size → ¬ F k → w'.heap[k]? = w.heap[k]?

/-- Nothing old has changed. -/
abbrev Kept (w w' : World) : Prop := Below w.heap.size w w'

theorem kept_refl (w : World) : Kept w w := Below.refl _ _
theorem kept_trans {a b c : World} (h : Kept a b) (k : Kept b c) : Kept a c := h.trans (k.mono h.size)
theorem kept_alloc {a w : World} (h : Kept a w) (o : Obj) : Kept a (w.alloc o) := h.alloc h.size o
theorem kept_drew {a w : World} (h : Kept a w) : Kept a w.drew := h.drew
theorem below_drewN {B : Nat} {a w : World} (h : Below B a w) (n : Nat) : Below B a (w.drewN n) := ⟨h.os, h.tape, h.output, h.size, h.block⟩
theorem below_kept {B : Nat} {a b c : World} (h : Below B a b) (hB : B ≤ b.heap.size) (k : Kept b c) : Below B a c := h.trans (k.mono hB)

theorem kept_cell {w w1 : World} (h : Kept w w1) {a : Addr} {v : Value} (hc : w.cell? a = some v) : w1.cell? a = some v := (h.cell (World.block_lt_of_cell? w a hc)).trans hc
theorem kept_lt {w : World} {b o : Nat} {v : Value} (hc : w.cell? ⟨b, o, none⟩ = some v) : b < w.heap.size := World.block_lt_of_cell? w _ hc
theorem below_cell {B : Nat} {w w1 : World} (h : Below B w w1) {a : Addr} {v : Value} (hB : a.block < B) (hc : w.cell? a = some v) : w1.cell? a = some v := (h.cell hB).trans hc

theorem cell_alloc {w : World} {a : Addr} {v : Value} (h : w.cell? a = some v) (o : Obj) : (w.alloc o).cell? a = some v := kept_cell (kept_alloc (kept_refl w) o) h
theorem cell_drew {w : World} {a : Addr} {v : Value} (h : w.cell? a = some v) : w.drew.cell? a = some v := kept_cell (kept_drew (kept_refl w)) h

/-! ### What a slice reads as -/

/-- The cells from address A on are cs (of no interest where cs is empty). -/
structure Rd (w : World) (A : Option Addr) (cs : List Value) : Prop where
  at_ : cs ≠ [] → ∃ b off, A = some ⟨b, off, none⟩ ∧ ∀ j v, cs[j]? = some v → w.cell? ⟨b, off + j, none⟩ = some v

theorem Rd.kept {w w1 : World} {A : Option Addr} {cs : List Value} (h : Rd w A cs) (k : Kept w w1) : Rd w1 A cs :=
  ⟨fun hn => let ⟨b, off, e, hc⟩ := h.at_ hn; ⟨b, off, e, fun j v hv => kept_cell k (hc j v hv)⟩⟩

theorem Rd.nil (w : World) (A : Option Addr) : Rd w A [] := ⟨fun h => absurd rfl h⟩

def ints (l : List Int) : List Value := l.map (.int .i64)
def bools (l : List Bool) : List Value := l.map .bool

/-- Elements, for the walk: closed to simp. -/
def ia (l : List Int) (k : Nat) : Int := l.getD k 0
def ba (l : List Bool) (k : Nat) : Bool := l.getD k false

theorem ints_get (l : List Int) (k : Nat) (h : k < l.length) : (ints l)[k]? = some (.int .i64 (ia l k)) := by
  simp [ints, ia, List.getElem?_eq_getElem h, List.getD_eq_getElem?_getD]
theorem bools_get (l : List Bool) (k : Nat) (h : k < l.length) : (bools l)[k]? = some (.bool (ba l k)) := by
  simp [bools, ba, List.getElem?_eq_getElem h, List.getD_eq_getElem?_getD]
@[simp] theorem ints_length (l : List Int) : (ints l).length = l.length := by simp [ints]
@[simp] theorem bools_length (l : List Bool) : (bools l).length = l.length := by simp [bools]
theorem ne_nil_of_lt {α : Type} {l : List α} {k : Nat} (h : k < l.length) : l ≠ [] := by intro e; subst e; simp at h
theorem ints_ne {l : List Int} {k : Nat} (h : k < l.length) : ints l ≠ [] := ne_nil_of_lt (k := k) (by simpa using h)
theorem bools_ne {l : List Bool} {k : Nat} (h : k < l.length) : bools l ≠ [] := ne_nil_of_lt (k := k) (by simpa using h)

theorem Rd.int {w : World} {A : Option Addr} {l : List Int} (h : Rd w A (ints l)) {k : Nat} (hk : k < l.length) :
    ∃ b off, A = some ⟨b, off, none⟩ ∧ (∀ j, j < l.length → w.cell? ⟨b, off + j, none⟩ = some (.int .i64 (ia l j))) := by
  obtain ⟨b, off, e, hc⟩ := h.at_ (ints_ne hk)
  exact ⟨b, off, e, fun j hj => hc j _ (ints_get l j hj)⟩
theorem Rd.bool {w : World} {A : Option Addr} {l : List Bool} (h : Rd w A (bools l)) {k : Nat} (hk : k < l.length) :
    ∃ b off, A = some ⟨b, off, none⟩ ∧ (∀ j, j < l.length → w.cell? ⟨b, off + j, none⟩ = some (.bool (ba l j))) := by
  obtain ⟨b, off, e, hc⟩ := h.at_ (bools_ne hk)
  exact ⟨b, off, e, fun j hj => hc j _ (bools_get l j hj)⟩

/-! ### A block that is known whole -/

def Own (w : World) (g : Nat) (e : TypeId) (cs : List Value) : Prop := w.heap[g]? = some (.cells cs.toArray e (0, 0))

theorem Own.lt {w : World} {g : Nat} {e : TypeId} {cs : List Value} (h : Own w g e cs) : g < w.heap.size := (Array.getElem?_eq_some_iff.1 h).1
theorem Own.cell {w : World} {g : Nat} {e : TypeId} {cs : List Value} (h : Own w g e cs) {j : Nat} {v : Value} (hj : cs[j]? = some v) : w.cell? ⟨g, j, none⟩ = some v := by
  unfold Own at h
  simp [World.cell?, h, hj]
theorem Own.frozen {w : World} {g : Nat} {e : TypeId} {cs : List Value} (h : Own w g e cs) (j : Nat) : w.frozen? ⟨g, j, none⟩ = false := by
  unfold Own at h
  simp [World.frozen?, h]
theorem Own.of_block {w w' : World} {g : Nat} {e : TypeId} {cs : List Value} (h : Own w g e cs) (hb : w'.heap[g]? = w.heap[g]?) : Own w' g e cs := hb.trans h
theorem Own.kept {w w' : World} {g : Nat} {e : TypeId} {cs : List Value} (h : Own w g e cs) (k : Kept w w') : Own w' g e cs := h.of_block (k.block g h.lt)
theorem Own.below {B : Nat} {w w' : World} {g : Nat} {e : TypeId} {cs : List Value} (h : Own w g e cs) (k : Below B w w') (hB : g < B) : Own w' g e cs := h.of_block (k.block g hB)
theorem Own.alloc {w : World} {g : Nat} {e : TypeId} {cs : List Value} (h : Own w g e cs) (o : Obj) : Own (w.alloc o) g e cs := h.kept (kept_alloc (kept_refl w) o)
theorem Own.drew {w : World} {g : Nat} {e : TypeId} {cs : List Value} (h : Own w g e cs) : Own w.drew g e cs := h
theorem Own.drewN {w : World} {g : Nat} {e : TypeId} {cs : List Value} (h : Own w g e cs) (n : Nat) : Own (w.drewN n) g e cs := h
theorem Own.other {w : World} {g : Nat} {e : TypeId} {cs : List Value} (h : Own w g e cs) {a : Addr} (ne : g ≠ a.block) (v : Value) : Own (w.setCell a v) g e cs := h.of_block (Below.heap_setCell w a v g ne)
theorem Own.set {w : World} {g : Nat} {e : TypeId} {cs : List Value} (h : Own w g e cs) (j : Nat) (v : Value) : Own (w.setCell ⟨g, j, none⟩ v) g e (cs.set j v) := by
  have hl := h.lt
  unfold Own at h ⊢
  unfold World.setCell
  simp only [Array.getElem?_modify, if_true, h, Option.map_some]
  simp
theorem Own.new (w : World) (e : TypeId) (cs : List Value) : Own (w.alloc (.cells cs.toArray e)) w.heap.size e cs := heap_alloc_new w _
theorem Own.grown {w w' : World} {g : Nat} {e : TypeId} {cs : List Value} {row : Option Nat} (h : Own w g e cs) (k : w.grownBy w' row) (ne : some g ≠ row) : Own w' g e cs := h.of_block (k.block g h.lt ne)
theorem Own.rd {w : World} {g : Nat} {e : TypeId} {cs : List Value} (h : Own w g e cs) : Rd w (some ⟨g, 0, none⟩) cs :=
  ⟨fun _ => ⟨g, 0, rfl, fun j v hv => by rw [Nat.zero_add]; exact h.cell hv⟩⟩

theorem made_list (v : Value) (n : Nat) : madeCells #[v] n = (List.replicate n v).toArray := by
  apply Array.ext'
  apply List.ext_getElem
  · simp [madeCells]
  · intro i h1 h2
    simp [madeCells, Nat.mod_one]

theorem ints_set (l : List Int) (j : Nat) (v : Int) : (ints l).set j (.int .i64 v) = ints (l.set j v) := by simp [ints, List.map_set]
theorem bools_set (l : List Bool) (j : Nat) (v : Bool) : (bools l).set j (.bool v) = bools (l.set j v) := by simp [bools, List.map_set]
theorem Own.int {w : World} {g : Nat} {e : TypeId} {l : List Int} (h : Own w g e (ints l)) {j : Nat} (hj : j < l.length) : w.cell? ⟨g, j, none⟩ = some (.int .i64 (ia l j)) := h.cell (ints_get l j hj)
theorem Own.bool {w : World} {g : Nat} {e : TypeId} {l : List Bool} (h : Own w g e (bools l)) {j : Nat} (hj : j < l.length) : w.cell? ⟨g, j, none⟩ = some (.bool (ba l j)) := h.cell (bools_get l j hj)
theorem Own.setInt {w : World} {g : Nat} {e : TypeId} {l : List Int} (h : Own w g e (ints l)) (j : Nat) (v : Int) : Own (w.setCell ⟨g, j, none⟩ (.int .i64 v)) g e (ints (l.set j v)) := by
  have := h.set j (.int .i64 v)
  rwa [ints_set] at this
theorem Own.setBool {w : World} {g : Nat} {e : TypeId} {l : List Bool} (h : Own w g e (bools l)) (j : Nat) (v : Bool) : Own (w.setCell ⟨g, j, none⟩ (.bool v)) g e (bools (l.set j v)) := by
  have := h.set j (.bool v)
  rwa [bools_set] at this

theorem kept_set {a w : World} {g j : Nat} (h : Kept a w) (hg : a.heap.size ≤ g) (v : Value) : Kept a (w.setCell ⟨g, j, none⟩ v) := h.setCell (p := ⟨g, j, none⟩) hg v

/-! ### append -/

theorem Own.row {w : World} {g : Nat} {e : TypeId} {cs : List Value} (h : Own w g e cs) (B sz n : Nat) (hB : B ≤ g) (hn : cs.length = n * sz) (hm : n ≤ 140737488355328) : w.ownsRow B e sz (.slice (some ⟨g, 0, none⟩) n n) n cs :=
  ⟨hn, .inr ⟨g, n, cs.toArray, rfl, hB, h, Nat.le_refl _, by simp only [maxLen]; omega, by simpa using hn, by simp [← hn]⟩⟩
theorem row_rd {w : World} {B e sz n : Nat} {A : Option Addr} {m c : Nat} {cs : List Value} (h : w.ownsRow B e sz (.slice A m c) n cs) : Rd w A cs := by
  refine ⟨fun hne => ?_⟩
  rcases h.2 with ⟨hv, h0⟩ | ⟨g, cap, cur, hv, _⟩
  · have := h.1
    rw [h0, Nat.zero_mul] at this
    exact absurd (List.eq_nil_of_length_eq_zero this) hne
  · injection hv with h1 h2 h3
    subst h1
    refine ⟨g, 0, rfl, fun j v hj => ?_⟩
    have := h.cells (g := g) rfl j v hj
    rwa [show (⟨g, 0, none⟩ : Addr).add j = ⟨g, 0 + j, none⟩ from by unfold Addr.add; split <;> simp_all] at this
theorem row_form {w : World} {B e sz n : Nat} {v : Value} {cs : List Value} (h : w.ownsRow B e sz v n cs) : ∃ A c, v = .slice A n c ∧ w.ownsRow B e sz (.slice A n c) n cs := by
  rcases h.2 with ⟨hv, h0⟩ | ⟨g, cap, cur, hv, _⟩
  · subst h0; exact ⟨none, 0, hv, hv ▸ h⟩
  · exact ⟨_, cap, hv, hv ▸ h⟩
theorem row_kept {w w' : World} {B e sz n : Nat} {v : Value} {cs : List Value} (h : w.ownsRow B e sz v n cs) (k : Kept w w') : w'.ownsRow B e sz v n cs :=
  h.kept (row := none) ⟨k.os, k.tape, k.output, k.size, fun i hi _ => k.block i hi⟩ (by cases v.ownBlock <;> simp)
theorem row_alloc {w : World} {B e sz n : Nat} {v : Value} {cs : List Value} (h : w.ownsRow B e sz v n cs) (o : Obj) : (w.alloc o).ownsRow B e sz v n cs := h.alloc o
theorem row_max {w : World} {B e sz n : Nat} {v : Value} {cs : List Value} (h : w.ownsRow B e sz v n cs) : n ≤ 9223372036854775807 := by
  rcases h.2 with ⟨_, h0⟩ | ⟨g, cap, cur, _, _, _, h1, h2, _⟩
  · omega
  · simp only [maxLen] at h2; omega
theorem kept_grown {a w w' : World} {B e sz n : Nat} {v : Value} {cs : List Value} (k : Kept a w) (h : w.ownsRow B e sz v n cs) (hB : a.heap.size ≤ B) (hg : w.grownBy w' v.ownBlock) : Kept a w' :=
  k.grown hg k.size fun b hb => Nat.le_trans hB (h.lt b hb).1

section
variable {P : Program} {ops : Array Oper} {rest : List Oper} {o : Oper} {a : Act} {Q : Exit → Act → World → Prop}
/-- append(v, x..) where x is the block laid last. -/
theorem app_law {W : World} (B : Nat) (hgd : o.guard = none) (s x : Operand) (t e : TypeId) (z : Value) (size bytes : Nat)
    (ho : o.op = .call { callee := .builtin .append, args := #[s, x], argTypes := #[t, t] })
    (ht : P.underlying t = some (.slice e)) (hinfo : (P.info? e).map (fun i => (i.zero, i.size, i.bytes)) = some (some z, size, bytes)) (hz : z.cells.size = size) (hs0 : 0 < size) (hb0 : 0 < bytes)
    (v : Value) (n m : Nat) (xs ys : List Value) (hs : a.eval s = v) (hx : a.eval x = .slice (some ⟨W.heap.size, 0, none⟩) m m) (hys : ys.length = m * size) (h1 : ∀ u ∈ ys, u.oneCell' = true)
    (HO : W.ownsRow B e size v n xs) (hB : B ≤ W.heap.size) (hl : (n + m) * bytes ≤ 140737488355328)
    (h : ∀ v1 w1, w1.ownsRow B e size v1 (n + m) (xs ++ ys) → W.grownBy w1 v.ownBlock → (v1.ownBlock = v.ownBlock ∨ ∃ b, v1.ownBlock = some b ∧ W.heap.size ≤ b) → wpList P ops Q rest (a.put o.dst v1) w1) :
    wpList P ops Q (o :: rest) a (W.alloc (.cells ys.toArray e)) := by
  obtain ⟨i0, hi, hzz⟩ := Option.map_eq_some_iff.1 hinfo
  simp only [Prod.mk.injEq] at hzz
  obtain ⟨hz0, hz1, hz2⟩ := hzz
  have hlen : n + m ≤ 140737488355328 := Nat.le_trans (Nat.le_mul_of_pos_right _ hb0) hl
  refine wpList_append_own_at (W.alloc (.cells ys.toArray e)) hgd s x t ho B e i0 z size bytes ht hi hz0 hz1 hz2 hz hs0 v n xs hs (HO.alloc _) ⟨W.heap.size, 0, none⟩ m m ys hx hys
    (by simpa using World.news_of_block (cs := ys.toArray) (t := e) (fr := (0, 0)) (heap_alloc_new W _)) h1 (by simp only [maxLen]; omega) hl (by simp; omega) ?_
  intro v1 w1 hown hg _ hat
  refine h v1 w1 hown (World.grownBy.trans (World.grownBy_alloc W _ _) hg) ?_
  rcases hat with hat | hat
  · exact .inl hat
  · exact .inr ⟨_, hat, by simp⟩
end

theorem one_ints (l : List Int) : ∀ u ∈ ints l, u.oneCell' = true := by
  intro u hu
  obtain ⟨x, _, rfl⟩ := List.mem_map.1 hu
  rfl
theorem one_bools (l : List Bool) : ∀ u ∈ bools l, u.oneCell' = true := by
  intro u hu
  obtain ⟨x, _, rfl⟩ := List.mem_map.1 hu
  rfl
theorem ints_append (l m : List Int) : ints l ++ ints m = ints (l ++ m) := by simp [ints]
theorem bools_append (l m : List Bool) : bools l ++ bools m = bools (l ++ m) := by simp [bools]
section
variable {P : Program} {ops : Array Oper} {rest : List Oper} {o : Oper} {a : Act} {Q : Exit → Act → World → Prop}
/-- append(v, x) for ints: x the block of one number laid last. -/
theorem app_int {W : World} (B : Nat) (hgd : o.guard = none) (s x : Operand) (t e : TypeId)
    (ho : o.op = .call { callee := .builtin .append, args := #[s, x], argTypes := #[t, t] })
    (ht : P.underlying t = some (.slice e)) (hinfo : (P.info? e).map (fun i => (i.zero, i.size, i.bytes)) = some (some (.int .i64 0), 1, 8))
    (v : Value) (n : Nat) (xs : List Int) (y : Int) (hs : a.eval s = v) (hx : a.eval x = .slice (some ⟨W.heap.size, 0, none⟩) 1 1)
    (HO : W.ownsRow B e 1 v n (ints xs)) (hB : B ≤ W.heap.size) (hl : n ≤ 17592186044415)
    (h : ∀ v1 w1, w1.ownsRow B e 1 v1 (n + 1) (ints (xs ++ [y])) → W.grownBy w1 v.ownBlock → (v1.ownBlock = v.ownBlock ∨ ∃ b, v1.ownBlock = some b ∧ W.heap.size ≤ b) → wpList P ops Q rest (a.put o.dst v1) w1) :
    wpList P ops Q (o :: rest) a (W.alloc (.cells #[.int .i64 y] e)) :=
  app_law B hgd s x t e (.int .i64 0) 1 8 ho ht hinfo rfl (by omega) (by omega) v n 1 (ints xs) (ints [y]) hs hx rfl (one_ints _) HO hB (by omega)
    fun v1 w1 h1 h2 h3 => h v1 w1 (by rwa [ints_append] at h1) h2 h3
end

theorem ite_max (a b : Int) : (if a < b then b else a) = max a b := by
  rw [Int.max_def]; split <;> split <;> omega
theorem ite_min (a b : Int) : (if b < a then b else a) = min a b := by
  rw [Int.min_def]; split <;> split <;> omega

/-! ### Results -/
theorem ret_bool {a b : Bool} (h : a = b) : Ending.returned (.bool a) = .returned (.bool b) := by rw [h]
theorem ret_int {k : IntKind} {a b : Int} (h : a = b) : Ending.returned (.int k a) = .returned (.int k b) := by rw [h]

/-- An interval of Nat below n, all of which pass a test. -/
def allN (n : Nat) (p : Nat → Bool) : Bool := (List.range n).all p
theorem allN_true {n : Nat} {p : Nat → Bool} : allN n p = true ↔ ∀ j, j < n → p j = true := by simp [allN]
theorem allN_false {n : Nat} {p : Nat → Bool} : allN n p = false ↔ ∃ j, j < n ∧ p j = false := by
  simp [allN]
end Go.Proofs.YtikfeemmjfoffaaGreatDoor

/- General words, second part: append from whatever source, guarded or not. -/
set_option linter.unusedVariables false
set_option linter.unusedSimpArgs false
namespace Go.Proofs.YtikfeemmjfoffaaGreatDoor
open Go.RowKit

theorem add_at (b off j : Nat) : (⟨b, off, none⟩ : Addr).add j = ⟨b, off + j, none⟩ := by unfold Addr.add; split <;> simp_all
theorem news_rd {w : World} {b off : Nat} {cs : List Value} (h : Rd w (some ⟨b, off, none⟩) cs) : ∀ j u, cs[j]? = some u → w.cell? ((⟨b, off, none⟩ : Addr).add j) = some u := by
  intro j u hu
  obtain ⟨b', off', e, hc⟩ := h.at_ (by intro h0; rw [h0] at hu; simp at hu)
  obtain ⟨rfl, rfl⟩ : b = b' ∧ off = off' := by
    injection e with e
    injection e with e1 e2 e3
    exact ⟨e1, e2⟩
  rw [add_at]
  exact hc j u hu

section
variable {P : Program} {ops : Array Oper} {rest : List Oper} {o : Oper} {a : Act} {Q : Exit → Act → World → Prop}
/-- append(v, xs..): v a row of the call's own (or nil), xs read from anywhere. -/
theorem app_gen {W : World} (B : Nat) (hw : Region.wanted o (yielded ops a.tmps) = true) (s x : Operand) (t e : TypeId) (z : Value) (size bytes : Nat)
    (ho : o.op = .call { callee := .builtin .append, args := #[s, x], argTypes := #[t, t] })
    (ht : P.underlying t = some (.slice e)) (hinfo : (P.info? e).map (fun i => (i.zero, i.size, i.bytes)) = some (some z, size, bytes)) (hz : z.cells.size = size) (hs0 : 0 < size) (hb0 : 0 < bytes)
    (v : Value) (n m c : Nat) (ad : Addr) (xs ys : List Value) (hs : a.eval s = v) (hx : a.eval x = .slice (some ad) m c) (hys : ys.length = m * size) (hnews : ∀ j u, ys[j]? = some u → W.cell? (ad.add j) = some u) (h1 : ∀ u ∈ ys, u.oneCell' = true)
    (HO : W.ownsRow B e size v n xs) (hB : B ≤ W.heap.size) (hl : (n + m) * bytes ≤ 140737488355328)
    (h : ∀ v1 w1, w1.ownsRow B e size v1 (n + m) (xs ++ ys) → W.grownBy w1 v.ownBlock → (v1.ownBlock = v.ownBlock ∨ v1.ownBlock = some W.heap.size) → wpList P ops Q rest (a.put o.dst v1) w1) :
    wpList P ops Q (o :: rest) a W := by
  obtain ⟨i0, hi, hzz⟩ := Option.map_eq_some_iff.1 hinfo
  simp only [Prod.mk.injEq] at hzz
  obtain ⟨hz0, hz1, hz2⟩ := hzz
  have hlen : n + m ≤ 140737488355328 := Nat.le_trans (Nat.le_mul_of_pos_right _ hb0) hl
  obtain ⟨v', w', hr, h2, h3, h4, h5⟩ := run_append_own_at (P := P) W B t o.type e i0 z size bytes ht hi hz0 hz1 hz2 hz hs0 v n xs HO ad m c ys hys hnews h1 (by simp only [maxLen]; omega) hl hB
  refine wpList_step fun K hK => ?_
  rw [if_pos hw]
  unfold Oper.wp execOp
  simp only [ho, resolve, invoke, builtin, Sem.run_bind, Sem.run_pure, Result.andThen_ok, List.map_toArray, List.map_cons, List.map_nil, hs, hx, hr]
  exact hK _ _ (h v' w' h2 h3 h5)
end
end Go.Proofs.YtikfeemmjfoffaaGreatDoor

/- General words, third part: an append that must grow, as a step of a region, guarded or not. -/
set_option linter.unusedVariables false
set_option linter.unusedSimpArgs false
namespace Go.Proofs.YtikfeemmjfoffaaGreatDoor
open Go.RowKit

theorem step_grow {P : Program} {ops : Array Oper} {o : Oper} {a : Act} {w : World} {K : Act → World → Prop} {Q : Exit → Act → World → Prop} {E : Prop}
    (hw : Region.wanted o (yielded ops a.tmps) = true) (s x : Operand) (t : TypeId) (hop : o.op = Op.call { callee := Callee.builtin Builtin.append, args := #[s, x], argTypes := #[t, t] })
    (e : TypeId) (z : Value) (size bytes : Nat) (ht : P.underlying t = some (.slice e)) (hinfo : (P.info? e).map (fun i => (i.zero, i.size, i.bytes)) = some (some z, size, bytes)) (hz : z.cells.size = size) (hs0 : 0 < size)
    (b off n : Nat) (olds : List Value) (hs : a.eval s = .slice (some ⟨b, off, none⟩) n n) (hlo : olds.length = n * size) (hr : Rd w (some ⟨b, off, none⟩) olds)
    (ad : Addr) (m c : Nat) (news : List Value) (hx : a.eval x = .slice (some ad) m c) (hn : news.length = m * size) (hc : ∀ j u, news[j]? = some u → w.cell? (ad.add j) = some u) (h1c : ∀ u ∈ news, u.oneCell' = true)
    (hfull : 0 < m) (b1 : n + m ≤ 140737488355328) (b2 : (n + m) * bytes ≤ 140737488355328)
    (hK : ∀ v' w', w'.ownsRow w.heap.size e size v' (n + m) (olds ++ news) → Kept w w' → K (a.put o.dst v') w') :
    if Region.wanted o (yielded ops a.tmps) = true then Oper.wp P o a w K Q else E := by
  obtain ⟨i0, hi, hzz⟩ := Option.map_eq_some_iff.1 hinfo
  simp only [Prod.mk.injEq] at hzz
  obtain ⟨hz0, hz1, hz2⟩ := hzz
  rw [if_pos hw]
  obtain ⟨v', w', hrun, r1, r2⟩ := run_append_arg_grows (P := P) w t o.type e i0 z size bytes ht hi hz0 hz1 hz2 hz hs0 ⟨b, off, none⟩ n n olds hlo (news_rd hr) ad m c news hn hc (by omega) (by simp only [maxLen]; omega) b2
  unfold Oper.wp
  simp [execOp, hop, resolve, invoke, builtin, hs, hx, hrun, Result.andThen]
  exact hK v' w' r1 ⟨r2.os, r2.tape, r2.output, r2.size, fun k hk => r2.block k hk (by simp)⟩
end Go.Proofs.YtikfeemmjfoffaaGreatDoor

/- General words, fourth part: append to a row of the call's own, as a step of a region. -/
set_option linter.unusedVariables false
set_option linter.unusedSimpArgs false
namespace Go.Proofs.YtikfeemmjfoffaaGreatDoor
open Go.RowKit

theorem step_own {P : Program} {ops : Array Oper} {o : Oper} {a : Act} {W : World} {K : Act → World → Prop} {Q : Exit → Act → World → Prop} {E : Prop} (B : Nat)
    (hw : Region.wanted o (yielded ops a.tmps) = true) (s x : Operand) (t e : TypeId) (z : Value) (size bytes : Nat)
    (ho : o.op = .call { callee := .builtin .append, args := #[s, x], argTypes := #[t, t] })
    (ht : P.underlying t = some (.slice e)) (hinfo : (P.info? e).map (fun i => (i.zero, i.size, i.bytes)) = some (some z, size, bytes)) (hz : z.cells.size = size) (hs0 : 0 < size) (hb0 : 0 < bytes)
    (v : Value) (n m c : Nat) (ad : Addr) (xs ys : List Value) (hs : a.eval s = v) (hx : a.eval x = .slice (some ad) m c) (hys : ys.length = m * size) (hnews : ∀ j u, ys[j]? = some u → W.cell? (ad.add j) = some u) (h1 : ∀ u ∈ ys, u.oneCell' = true)
    (HO : W.ownsRow B e size v n xs) (hB : B ≤ W.heap.size) (hl : (n + m) * bytes ≤ 140737488355328)
    (h : ∀ v1 w1, w1.ownsRow B e size v1 (n + m) (xs ++ ys) → W.grownBy w1 v.ownBlock → (v1.ownBlock = v.ownBlock ∨ v1.ownBlock = some W.heap.size) → K (a.put o.dst v1) w1) :
    if Region.wanted o (yielded ops a.tmps) = true then Oper.wp P o a W K Q else E := by
  obtain ⟨i0, hi, hzz⟩ := Option.map_eq_some_iff.1 hinfo
  simp only [Prod.mk.injEq] at hzz
  obtain ⟨hz0, hz1, hz2⟩ := hzz
  have hlen : n + m ≤ 140737488355328 := Nat.le_trans (Nat.le_mul_of_pos_right _ hb0) hl
  obtain ⟨v', w', hr, h2, h3, h4, h5⟩ := run_append_own_at (P := P) W B t o.type e i0 z size bytes ht hi hz0 hz1 hz2 hz hs0 v n xs HO ad m c ys hys hnews h1 (by simp only [maxLen]; omega) hl hB
  rw [if_pos hw]
  unfold Oper.wp execOp
  simp only [ho, resolve, invoke, builtin, Sem.run_bind, Sem.run_pure, Result.andThen_ok, List.map_toArray, List.map_cons, List.map_nil, hs, hx, hr]
  exact h v' w' h2 h3 h5
end Go.Proofs.YtikfeemmjfoffaaGreatDoor

/- General words, fifth part: a drawn region whose last operations (which wait for all others) may break what the loads read. -/
set_option linter.unusedVariables false
set_option linter.unusedSimpArgs false
namespace Go.Proofs.YtikfeemmjfoffaaGreatDoor
open Go.RowKit

/-- Operation l waits for operation i, at once or through others. -/
def waits (md : Region.Mode) (ops : Array Oper) : Nat → Nat → Nat → Bool
  | 0, _, _ => false
  | n + 1, l, i => match ops[l]? with
    | none => false
    | some o => o.after.any fun e => Region.binds md e && (e.on == i || waits md ops n e.on i)
/-- Whatever has come up, what it waits for has come up before. -/
def Downs (md : Region.Mode) (ops : Array Oper) (listed : Array Bool) : Prop :=
  ∀ (j : Nat) (o : Oper), ops[j]? = some o → listed.getD j false = true → ∀ e ∈ o.after, Region.binds md e = true → listed.getD e.on false = true
def downsB (md : Region.Mode) (ops : Array Oper) (listed : Array Bool) : Bool :=
  (List.range ops.size).all fun j => !(listed.getD j false) || match ops[j]? with
    | none => true
    | some o => o.after.all fun e => !(Region.binds md e) || listed.getD e.on false
theorem downs_of {md : Region.Mode} {ops : Array Oper} {listed : Array Bool} (h : downsB md ops listed = true) : Downs md ops listed := by
  intro j o ho hj e he hb
  have hlt : j < ops.size := (Array.getElem?_eq_some_iff.1 ho).1
  have h1 := List.all_eq_true.1 h j (List.mem_range.2 hlt)
  simp only [hj, ho, Bool.not_true, Bool.false_or] at h1
  have h2 := (Array.all_eq_true_iff_forall_mem.1 h1) e he
  simpa [hb] using h2
theorem Downs.set {md : Region.Mode} {ops : Array Oper} {listed : Array Bool} (h : Downs md ops listed) {i : Nat} (hi : i ∈ Region.ready md ops listed) : Downs md ops (listed.setIfInBounds i true) := by
  intro j o ho hj e he hb
  by_cases e1 : i = j
  · subst e1
    obtain ⟨_, o', ho', hall⟩ := mem_ready.1 hi
    rw [ho] at ho'
    cases ho'
    exact getD_set_true (hall e he hb)
  · rw [getD_set_ne false e1] at hj
    exact getD_set_true (h j o ho hj e he hb)
theorem waits_spec {md : Region.Mode} {ops : Array Oper} {listed : Array Bool} (hd : Downs md ops listed) {i : Nat} : ∀ (n l : Nat), waits md ops n l i = true → (∀ o, ops[l]? = some o → ∀ e ∈ o.after, Region.binds md e = true → listed.getD e.on false = true) → listed.getD i false = true := by
  intro n
  induction n with
  | zero => intro l h; simp [waits] at h
  | succ n ih =>
    intro l h hl
    unfold waits at h
    split at h
    · cases h
    · rename_i o ho
      obtain ⟨e, he, hb⟩ := Array.any_eq_true'.1 h
      simp only [Bool.and_eq_true, Bool.or_eq_true, beq_iff_eq] at hb
      obtain ⟨hb1, hb2⟩ := hb
      have he1 := hl o ho e he hb1
      rcases hb2 with rfl | hb2
      · exact he1
      · exact ih e.on hb2 fun o' ho' e' he' hb' => hd e.on o' ho' he1 e' he' hb'

section
variable {P : Program} {ops : Array Oper} {Q : Exit → Act → World → Prop} {md : Region.Mode} {S : World → Prop} {L : List Nat}

/-- Whatever order is picked: S holds behind every operation that is carried out, but for those of L. -/
def wpAnyX (P : Program) (md : Region.Mode) (ops : Array Oper) (Q : Exit → Act → World → Prop) (S : World → Prop) (L : List Nat) : Nat → Array Bool → Act → World → Prop
  | 0, listed, a, w => Region.ready md ops listed = [] ∧ Q .normal a w
  | fuel + 1, listed, a, w =>
    (Region.ready md ops listed = [] → Q .normal a w) ∧
    ∀ i ∈ Region.ready md ops listed, wpOp P ops Q i (fun a' w' => (i ∈ L ∨ S w') ∧ wpAnyX P md ops Q S L fuel (listed.setIfInBounds i true) a' w') a w

theorem any_of_x : ∀ (fuel : Nat) (listed : Array Bool) (a : Act) (w : World), wpAnyX P md ops Q S L fuel listed a w → wpAny P md ops Q fuel listed a w
  | 0, _, _, _, h => h
  | fuel + 1, _, _, _, h => ⟨h.1, fun i hi => wpOp_mono (fun a' w' h' => any_of_x fuel _ a' w' h'.2) (h.2 i hi)⟩

theorem x_first {i : Nat} {oi : Oper} {v : Value} {n : Nat} (hi : ops[i]? = some oi) (hsel : ∀ (j : Nat) (o : Oper) cs b, ops[j]? = some o → o.op ≠ .select cs b)
    (hQ : ∀ c a w, Q (.panic c) (a.put oi.dst v) w → Q (.panic c) a w) (hL : ∀ l ∈ L, waits md ops n l i = true) :
    ∀ (fuel : Nat) (listed : Array Bool) (a : Act) (w : World), Downs md ops listed →
      (∀ j oj, ops[j]? = some oj → j ≠ i → listed.getD j true = false → (∀ e ∈ oj.after, Region.binds md e = true → e.on ≠ i) → oi.apart ops oj = true) →
      i ∈ Region.ready md ops listed → YieldsIf P ops S oi v a → S w →
      wpAnyX P md ops Q S L fuel (listed.setIfInBounds i true) (a.put oi.dst v) w → wpAnyX P md ops Q S L (fuel + 1) listed a w := by
  have never : ∀ listed, Downs md ops listed → i ∈ Region.ready md ops listed → ∀ l ∈ L, l ∉ Region.ready md ops listed := by
    intro listed hd hr l hl hlr
    obtain ⟨_, o, ho, hall⟩ := mem_ready.1 hlr
    have h1 := waits_spec hd n l (hL l hl) (fun o' ho' => by rw [ho] at ho'; cases ho'; exact hall)
    have h0 := (mem_ready.1 hr).1
    rcases Nat.lt_or_ge i listed.size with h' | h'
    · simp [h'] at h0 h1; rw [h0] at h1; cases h1
    · simp [Array.getElem?_eq_none h'] at h1
  intro fuel
  induction fuel with
  | zero =>
    intro listed a w hd _ hr hy hS H
    refine ⟨fun h => (by rw [h] at hr; cases hr), fun j hj => ?_⟩
    by_cases hji : j = i
    · subst hji; exact hy.wpOp hi hS ⟨.inr hS, H⟩
    · have := ready_mono hj hji
      rw [H.1] at this
      cases this
  | succ fuel ih =>
    intro listed a w hd hfree hr hy hS H
    refine ⟨fun h => (by rw [h] at hr; cases hr), fun j hj => ?_⟩
    by_cases hji : j = i
    · subst hji; exact hy.wpOp hi hS ⟨.inr hS, H⟩
    · have h1 := H.2 j (ready_mono hj hji)
      have hjL : j ∉ L := fun h => never listed hd hr j h hj
      obtain ⟨hjun, oj, hoj, hall⟩ := mem_ready.1 hj
      have hnot : ∀ e ∈ oj.after, Region.binds md e = true → e.on ≠ i := fun e he hb heq => by
        have h1 := hall e he hb
        have h0 := (mem_ready.1 hr).1
        rw [heq] at h1
        rcases Nat.lt_or_ge i listed.size with h' | h'
        · simp [h'] at h0 h1; rw [h0] at h1; cases h1
        · simp [Array.getElem?_eq_none h'] at h1
      have h2 := wpOp_putIf hoj (hfree j oj hoj hji hjun hnot) (fun cs b => hsel i oi cs b hi) (fun cs b => hsel j oj cs b hoj) hQ hy h1
      refine wpOp_mono (fun a' w' h3 => ?_) h2
      have hS' : S w' := h3.2.1.resolve_left hjL
      refine ⟨.inr hS', ih (listed.setIfInBounds j true) a' w' (hd.set hj) (fun k ok hk hki hun hno => ?_) (ready_mono hr (Ne.symm hji)) h3.1 hS' ?_⟩
      · refine hfree k ok hk hki ?_ hno
        by_cases hjk : j = k
        · subst hjk; exact hjun
        · rw [getD_set_ne true hjk] at hun; exact hun
      · rw [Array.setIfInBounds_comm _ _ hji]
        exact h3.2.2

theorem x_take {i : Nat} {oi : Oper} {v : Value} {fuel : Nat} {listed : Array Bool} {a : Act} {w : World} (hi : ops[i]? = some oi)
    (hs : Region.noSelect ops = true) (hf : Region.free md ops listed i = true) (hr : (Region.ready md ops listed).contains i = true) (hd : downsB md ops listed = true) (hL : (L.all fun l => waits md ops ops.size l i) = true)
    (hQ : ∀ c a w, Q (.panic c) (a.put oi.dst v) w → Q (.panic c) a w) (hy : YieldsIf P ops S oi v a) (hS : S w)
    (h : wpAnyX P md ops Q S L fuel (listed.setIfInBounds i true) (a.put oi.dst v) w) : wpAnyX P md ops Q S L (fuel + 1) listed a w :=
  x_first hi (Region.noSelect_spec hs) hQ (fun l hl => List.all_eq_true.1 hL l hl) fuel listed a w (downs_of hd) (Region.free_spec hi hf) (by simpa using hr) hy hS h

/-- Operation i comes up alone. -/
theorem x_one {i : Nat} {o : Oper} {fuel : Nat} {listed : Array Bool} {a : Act} {w : World} (hr : Region.ready md ops listed = [i]) (ho : ops[i]? = some o)
    (h : ∀ K' : Act → World → Prop, Shut (∀ a w, S w → (S w → wpAnyX P md ops Q S L fuel (listed.setIfInBounds i true) a w) → K' a w) → if Region.wanted o (yielded ops a.tmps) = true then Oper.wp P o a w K' Q else K' (a.put o.dst undef) w) :
    wpAnyX P md ops Q S L (fuel + 1) listed a w :=
  ⟨fun h0 => (by rw [hr] at h0; cases h0), fun j hj => by
    rw [hr] at hj
    obtain rfl := List.mem_singleton.1 hj
    exact wpOp_step ho (fun K' hK => h K' (fun a w hS hW => hK a w ⟨.inr hS, hW hS⟩))⟩
/-- The same for an operation of L: S need not hold behind it. -/
theorem x_last {i : Nat} {o : Oper} {fuel : Nat} {listed : Array Bool} {a : Act} {w : World} (hr : Region.ready md ops listed = [i]) (ho : ops[i]? = some o) (hL : i ∈ L)
    (h : ∀ K' : Act → World → Prop, Shut (∀ a w, wpAnyX P md ops Q S L fuel (listed.setIfInBounds i true) a w → K' a w) → if Region.wanted o (yielded ops a.tmps) = true then Oper.wp P o a w K' Q else K' (a.put o.dst undef) w) :
    wpAnyX P md ops Q S L (fuel + 1) listed a w :=
  ⟨fun h0 => (by rw [hr] at h0; cases h0), fun j hj => by
    rw [hr] at hj
    obtain rfl := List.mem_singleton.1 hj
    exact wpOp_step ho (fun K' hK => h K' (fun a w hW => hK a w ⟨.inl hL, hW⟩))⟩
theorem x_done {listed : Array Bool} {a : Act} {w : World} (hr : Region.ready md ops listed = []) (h : Q .normal a w) : ∀ fuel, wpAnyX P md ops Q S L fuel listed a w
  | 0 => ⟨hr, h⟩
  | _ + 1 => ⟨fun _ => h, by rw [hr]; simp⟩
theorem region_x (S : World → Prop) (L : List Nat) {id : Nat} {a : Act} {w : World} (hm : P.follows .mixedOrders = true) (hS : S w.drew)
    (h : S w.drew → wpAnyX P .any ops Q S L ops.size (Array.replicate ops.size false) a w.drew) : (Code.region id ops true).wp P Q a w :=
  wp_region_any hm (any_of_x _ _ _ _ (h hS))
end
end Go.Proofs.YtikfeemmjfoffaaGreatDoor

/- General words, sixth part: in a drawn region a call that changes nothing may be taken first, too. -/
set_option linter.unusedVariables false
set_option linter.unusedSimpArgs false
namespace Go.Proofs.YtikfeemmjfoffaaGreatDoor
open Go.RowKit

section
variable {P : Program} {ops : Array Oper} {Q : Exit → Act → World → Prop} {md : Region.Mode} {S : World → Prop} {L : List Nat}

/-- In state a, in every world that meets S, operation o leaves v in its temporary and does nothing else: by itself or by a call. -/
def YieldsC (P : Program) (ops : Array Oper) (S : World → Prop) (o : Oper) (v : Value) (a : Act) : Prop :=
  (Region.wanted o (yielded ops a.tmps) = true ∧ ∀ w, S w → (execOp a.eval o).run P w = .ok (.value v) w ∨
    ∃ f args, (execOp a.eval o).run P w = .ok (.enter f args) w ∧ Calls P f args w fun e w' => e = .returned v ∧ w = w') ∨
  (Region.wanted o (yielded ops a.tmps) = false ∧ v = undef)

theorem YieldsC.wpOp {i : Nat} {o : Oper} {v : Value} {a : Act} (hi : ops[i]? = some o) (hy : YieldsC P ops S o v a)
    {K : Act → World → Prop} {w : World} (hS : S w) (h : K (a.put o.dst v) w) : wpOp P ops Q i K a w := by
  unfold Go.wpOp
  simp only [hi]
  rcases hy with ⟨hw, hv⟩ | ⟨hw, rfl⟩
  · simp only [hw, if_true]
    refine .inl ?_
    rcases hv w hS with h1 | ⟨f, args, h1, h2⟩
    · unfold Oper.wp; rw [h1]; exact h
    · unfold Oper.wp
      rw [h1, Oper.upon_enter]
      refine h2.mono ?_
      rintro e w' ⟨rfl, rfl⟩
      exact h
  · simp only [hw, Bool.false_eq_true, if_false]; exact h
theorem YieldsC.of_same {o : Oper} {v : Value} {a a' : Act} (hy : YieldsC P ops S o v a) (he : execOp a'.eval o = execOp a.eval o)
    (hw : Region.wanted o (yielded ops a'.tmps) = Region.wanted o (yielded ops a.tmps)) : YieldsC P ops S o v a' := by
  unfold YieldsC at *
  rw [he, hw]
  exact hy
theorem wpOp_putC {j : Nat} {oi oj : Oper} {v : Value} (hj : ops[j]? = some oj) (hap : oi.apart ops oj = true)
    (hsi : ∀ cs b, oi.op ≠ .select cs b) (hsj : ∀ cs b, oj.op ≠ .select cs b)
    (hQ : ∀ c a w, Q (.panic c) (a.put oi.dst v) w → Q (.panic c) a w) {K : Act → World → Prop} {a : Act} {w : World}
    (hy : YieldsC P ops S oi v a) (h : wpOp P ops Q j K (a.put oi.dst v) w) :
    wpOp P ops Q j (fun a' w' => YieldsC P ops S oi v a' ∧ K (a'.put oi.dst v) w') a w := by
  obtain ⟨h1, h2, h3⟩ := Oper.apart_spec hap
  have keep : ∀ (a : Act), YieldsC P ops S oi v a → ∀ u, YieldsC P ops S oi v (a.put oj.dst u) := fun a hy u =>
    hy.of_same (execOp_put oi hsi a oj.dst u h3) (wanted_put oi a oj.dst u h3)
  have keepD : ∀ d, YieldsC P ops S oi v { a with defers := d :: a.defers } := fun d => hy.of_same rfl rfl
  unfold wpOp at *
  simp only [hj] at *
  rw [wanted_put oj a oi.dst v h1] at h
  split
  · rename_i hw
    simp only [hw, if_true] at h
    rcases h with h | ⟨hasks, hlets⟩
    case inr => exact .inr ⟨by unfold Oper.asks at *; rw [execOp_put oj hsj a oi.dst v h1] at hasks; exact hasks, hlets⟩
    refine .inl ?_
    unfold Oper.wp at *
    rw [execOp_put oj hsj a oi.dst v h1] at h
    generalize (execOp a.eval oj).run P w = r at *
    cases r with
    | ok n w' =>
      cases n <;> simp only [Oper.upon] at h ⊢
      case value u => exact ⟨keep a hy u, by rw [← Act.put_comm a v u h2]; exact h⟩
      case skip => exact ⟨keep a hy _, by rw [← Act.put_comm a v undef h2]; exact h⟩
      case defer d =>
        refine ⟨keep _ (keepD d) _, ?_⟩
        rw [← Act.put_comm _ v undef h2, ← Act.put_defers]
        exact h
      case enter f args =>
        refine Calls.mono h fun e w'' he => ?_
        cases e with
        | returned u => exact ⟨keep a hy u, by rw [← Act.put_comm a v u h2]; exact he⟩
        | panicked c => exact hQ _ _ _ he
        | outgrown => exact he
      case row row args => exact Rows.mono h fun u w'' he => ⟨keep a hy u, by rw [← Act.put_comm a v u h2]; exact he⟩
    | halt x w' =>
      cases x <;> simp only [Oper.upon] at h ⊢
      case panic u => exact hQ _ _ _ h
  · rename_i hw
    simp only [hw] at h
    exact ⟨keep a hy _, by rw [← Act.put_comm a v undef h2]; exact h⟩

theorem c_first {i : Nat} {oi : Oper} {v : Value} {n : Nat} (hi : ops[i]? = some oi) (hsel : ∀ (j : Nat) (o : Oper) cs b, ops[j]? = some o → o.op ≠ .select cs b)
    (hQ : ∀ c a w, Q (.panic c) (a.put oi.dst v) w → Q (.panic c) a w) (hL : ∀ l ∈ L, waits md ops n l i = true) :
    ∀ (fuel : Nat) (listed : Array Bool) (a : Act) (w : World), Downs md ops listed →
      (∀ j oj, ops[j]? = some oj → j ≠ i → listed.getD j true = false → (∀ e ∈ oj.after, Region.binds md e = true → e.on ≠ i) → oi.apart ops oj = true) →
      i ∈ Region.ready md ops listed → YieldsC P ops S oi v a → S w →
      wpAnyX P md ops Q S L fuel (listed.setIfInBounds i true) (a.put oi.dst v) w → wpAnyX P md ops Q S L (fuel + 1) listed a w := by
  have never : ∀ listed, Downs md ops listed → i ∈ Region.ready md ops listed → ∀ l ∈ L, l ∉ Region.ready md ops listed := by
    intro listed hd hr l hl hlr
    obtain ⟨_, o, ho, hall⟩ := mem_ready.1 hlr
    have h1 := waits_spec hd n l (hL l hl) (fun o' ho' => by rw [ho] at ho'; cases ho'; exact hall)
    have h0 := (mem_ready.1 hr).1
    rcases Nat.lt_or_ge i listed.size with h' | h'
    · simp [h'] at h0 h1; rw [h0] at h1; cases h1
    · simp [Array.getElem?_eq_none h'] at h1
  intro fuel
  induction fuel with
  | zero =>
    intro listed a w hd _ hr hy hS H
    refine ⟨fun h => (by rw [h] at hr; cases hr), fun j hj => ?_⟩
    by_cases hji : j = i
    · subst hji; exact hy.wpOp hi hS ⟨.inr hS, H⟩
    · have := ready_mono hj hji
      rw [H.1] at this
      cases this
  | succ fuel ih =>
    intro listed a w hd hfree hr hy hS H
    refine ⟨fun h => (by rw [h] at hr; cases hr), fun j hj => ?_⟩
    by_cases hji : j = i
    · subst hji; exact hy.wpOp hi hS ⟨.inr hS, H⟩
    · have h1 := H.2 j (ready_mono hj hji)
      have hjL : j ∉ L := fun h => never listed hd hr j h hj
      obtain ⟨hjun, oj, hoj, hall⟩ := mem_ready.1 hj
      have hnot : ∀ e ∈ oj.after, Region.binds md e = true → e.on ≠ i := fun e he hb heq => by
        have h1 := hall e he hb
        have h0 := (mem_ready.1 hr).1
        rw [heq] at h1
        rcases Nat.lt_or_ge i listed.size with h' | h'
        · simp [h'] at h0 h1; rw [h0] at h1; cases h1
        · simp [Array.getElem?_eq_none h'] at h1
      have h2 := wpOp_putC hoj (hfree j oj hoj hji hjun hnot) (fun cs b => hsel i oi cs b hi) (fun cs b => hsel j oj cs b hoj) hQ hy h1
      refine wpOp_mono (fun a' w' h3 => ?_) h2
      have hS' : S w' := h3.2.1.resolve_left hjL
      refine ⟨.inr hS', ih (listed.setIfInBounds j true) a' w' (hd.set hj) (fun k ok hk hki hun hno => ?_) (ready_mono hr (Ne.symm hji)) h3.1 hS' ?_⟩
      · refine hfree k ok hk hki ?_ hno
        by_cases hjk : j = k
        · subst hjk; exact hjun
        · rw [getD_set_ne true hjk] at hun; exact hun
      · rw [Array.setIfInBounds_comm _ _ hji]
        exact h3.2.2
/-- A quiet call is taken first. -/
theorem x_call {i : Nat} {oi : Oper} {v : Value} {fuel : Nat} {listed : Array Bool} {a : Act} {w : World} (hi : ops[i]? = some oi)
    (hs : Region.noSelect ops = true) (hf : Region.free md ops listed i = true) (hr : (Region.ready md ops listed).contains i = true) (hd : downsB md ops listed = true) (hL : (L.all fun l => waits md ops ops.size l i) = true)
    (hQ : ∀ c a w, Q (.panic c) (a.put oi.dst v) w → Q (.panic c) a w) (hwt : Region.wanted oi (yielded ops a.tmps) = true)
    (f : FuncId) (args : Array Value) (hen : ∀ w, S w → (execOp a.eval oi).run P w = .ok (.enter f args) w) (hc : ∀ w, S w → Calls P f args w fun e w' => e = .returned v ∧ w = w') (hS : S w)
    (h : wpAnyX P md ops Q S L fuel (listed.setIfInBounds i true) (a.put oi.dst v) w) : wpAnyX P md ops Q S L (fuel + 1) listed a w :=
  c_first hi (Region.noSelect_spec hs) hQ (fun l hl => List.all_eq_true.1 hL l hl) fuel listed a w (downs_of hd) (Region.free_spec hi hf) (by simpa using hr) (.inl ⟨hwt, fun w' h' => .inr ⟨f, args, hen w' h', hc w' h'⟩⟩) hS h
end
end Go.Proofs.YtikfeemmjfoffaaGreatDoor

/- General words, seventh part: append of whatever was read (nil, too) to a row of the call's own. -/
set_option linter.unusedVariables false
set_option linter.unusedSimpArgs false
namespace Go.Proofs.YtikfeemmjfoffaaGreatDoor
open Go.RowKit

theorem Rd.at_some {w : World} {b off : Nat} {cs : List Value} (h : Rd w (some ⟨b, off, none⟩) cs) {j : Nat} {v : Value} (hj : cs[j]? = some v) : w.cell? ⟨b, off + j, none⟩ = some v := by
  have := news_rd h j v hj
  rwa [add_at] at this

section
variable {P : Program} {ops : Array Oper} {rest : List Oper} {o : Oper} {a : Act} {Q : Exit → Act → World → Prop}
theorem run_app_any {W : World} (B : Nat) (t ty e : TypeId) (z : Value) (size bytes : Nat)
    (ht : P.underlying t = some (.slice e)) (hinfo : (P.info? e).map (fun i => (i.zero, i.size, i.bytes)) = some (some z, size, bytes)) (hz : z.cells.size = size) (hs0 : 0 < size) (hb0 : 0 < bytes)
    (v : Value) (n m c : Nat) (A : Option Addr) (xs ys : List Value) (hys : ys.length = m * size) (hr : Rd W A ys) (h1 : ∀ u ∈ ys, u.oneCell' = true)
    (HO : W.ownsRow B e size v n xs) (hB : B ≤ W.heap.size) (hl : (n + m) * bytes ≤ 140737488355328) :
    ∃ v' w', (Builtin.append_ #[t, t] ty #[v, .slice A m c]).run P W = .ok v' w' ∧ w'.ownsRow B e size v' (n + m) (xs ++ ys) ∧ W.grownBy w' v.ownBlock ∧ (v'.ownBlock = v.ownBlock ∨ v'.ownBlock = some W.heap.size) := by
  obtain ⟨i0, hi, hzz⟩ := Option.map_eq_some_iff.1 hinfo
  simp only [Prod.mk.injEq] at hzz
  obtain ⟨hz0, hz1, hz2⟩ := hzz
  have hlen : n + m ≤ 140737488355328 := Nat.le_trans (Nat.le_mul_of_pos_right _ hb0) hl
  rcases A with _ | ad
  · have hn : ys = [] := by
      rcases Classical.em (ys = []) with h | h
      · exact h
      · obtain ⟨_, _, e0, _⟩ := hr.at_ h
        cases e0
    subst hn
    have hm : m = 0 := by
      rcases Nat.eq_zero_or_pos m with h | h
      · exact h
      · have := Nat.mul_pos h hs0
        simp at hys
        omega
    subst hm
    refine ⟨v, W, ?_, by simpa using HO, World.grownBy.refl W _, .inl rfl⟩
    rcases HO.2 with ⟨rfl, rfl⟩ | ⟨g, cap, cur, rfl, _, _, hnc, _⟩
    · simp [Builtin.append_, run_underlying ht, sizeOf, typeInfo, hi, Builtin.lenOf, Builtin.firstCells]
    · simp [Builtin.append_, run_underlying ht, sizeOf, typeInfo, hi, Builtin.lenOf, Builtin.firstCells, hnc, storeCells]
  · have hcells : ∀ j u, ys[j]? = some u → W.cell? (ad.add j) = some u := by
      intro j u hu
      obtain ⟨b', off', e0, hc⟩ := hr.at_ (by intro h0; rw [h0] at hu; simp at hu)
      injection e0 with e0
      rw [e0, add_at]
      exact hc j u hu
    obtain ⟨v', w', hrun, h2, h3, _, h5⟩ := run_append_own_at (P := P) W B t ty e i0 z size bytes ht hi hz0 hz1 hz2 hz hs0 v n xs HO ad m c ys hys hcells h1 (by simp only [maxLen]; omega) hl hB
    exact ⟨v', w', hrun, h2, h3, h5⟩
theorem wp_app_any {W : World} {K : Act → World → Prop} (B : Nat) (s x : Operand) (t e : TypeId) (z : Value) (size bytes : Nat)
    (ho : o.op = .call { callee := .builtin .append, args := #[s, x], argTypes := #[t, t] })
    (ht : P.underlying t = some (.slice e)) (hinfo : (P.info? e).map (fun i => (i.zero, i.size, i.bytes)) = some (some z, size, bytes)) (hz : z.cells.size = size) (hs0 : 0 < size) (hb0 : 0 < bytes)
    (v : Value) (n m c : Nat) (A : Option Addr) (xs ys : List Value) (hs : a.eval s = v) (hx : a.eval x = .slice A m c) (hys : ys.length = m * size) (hr : Rd W A ys) (h1 : ∀ u ∈ ys, u.oneCell' = true)
    (HO : W.ownsRow B e size v n xs) (hB : B ≤ W.heap.size) (hl : (n + m) * bytes ≤ 140737488355328)
    (h : ∀ v1 w1, w1.ownsRow B e size v1 (n + m) (xs ++ ys) → W.grownBy w1 v.ownBlock → (v1.ownBlock = v.ownBlock ∨ v1.ownBlock = some W.heap.size) → K (a.put o.dst v1) w1) : o.wp P a W K Q := by
  obtain ⟨v', w', hrun, h2, h3, h5⟩ := run_app_any (P := P) (W := W) B t o.type e z size bytes ht hinfo hz hs0 hb0 v n m c A xs ys hys hr h1 HO hB hl
  unfold Oper.wp execOp
  simp only [ho, resolve, invoke, builtin, Sem.run_bind, Sem.run_pure, Result.andThen_ok, List.map_toArray, List.map_cons, List.map_nil, hs, hx, hrun]
  exact h v' w' h2 h3 h5
/-- append(v, xs..) in a plain region. -/
theorem app_any {W : World} (B : Nat) (hw : Region.wanted o (yielded ops a.tmps) = true) (s x : Operand) (t e : TypeId) (z : Value) (size bytes : Nat)
    (ho : o.op = .call { callee := .builtin .append, args := #[s, x], argTypes := #[t, t] })
    (ht : P.underlying t = some (.slice e)) (hinfo : (P.info? e).map (fun i => (i.zero, i.size, i.bytes)) = some (some z, size, bytes)) (hz : z.cells.size = size) (hs0 : 0 < size) (hb0 : 0 < bytes)
    (v : Value) (n m c : Nat) (A : Option Addr) (xs ys : List Value) (hs : a.eval s = v) (hx : a.eval x = .slice A m c) (hys : ys.length = m * size) (hr : Rd W A ys) (h1 : ∀ u ∈ ys, u.oneCell' = true)
    (HO : W.ownsRow B e size v n xs) (hB : B ≤ W.heap.size) (hl : (n + m) * bytes ≤ 140737488355328)
    (h : ∀ v1 w1, w1.ownsRow B e size v1 (n + m) (xs ++ ys) → W.grownBy w1 v.ownBlock → (v1.ownBlock = v.ownBlock ∨ v1.ownBlock = some W.heap.size) → wpList P ops Q rest (a.put o.dst v1) w1) :
    wpList P ops Q (o :: rest) a W := by
  refine wpList_step fun K hK => ?_
  rw [if_pos hw]
  exact wp_app_any B s x t e z size bytes ho ht hinfo hz hs0 hb0 v n m c A xs ys hs hx hys hr h1 HO hB hl fun v1 w1 a1 a2 a3 => hK _ _ (h v1 w1 a1 a2 a3)
/-- The same as a step of a drawn region. -/
theorem step_any {W : World} {K : Act → World → Prop} {E : Prop} (B : Nat) (hw : Region.wanted o (yielded ops a.tmps) = true) (s x : Operand) (t e : TypeId) (z : Value) (size bytes : Nat)
    (ho : o.op = .call { callee := .builtin .append, args := #[s, x], argTypes := #[t, t] })
    (ht : P.underlying t = some (.slice e)) (hinfo : (P.info? e).map (fun i => (i.zero, i.size, i.bytes)) = some (some z, size, bytes)) (hz : z.cells.size = size) (hs0 : 0 < size) (hb0 : 0 < bytes)
    (v : Value) (n m c : Nat) (A : Option Addr) (xs ys : List Value) (hs : a.eval s = v) (hx : a.eval x = .slice A m c) (hys : ys.length = m * size) (hr : Rd W A ys) (h1 : ∀ u ∈ ys, u.oneCell' = true)
    (HO : W.ownsRow B e size v n xs) (hB : B ≤ W.heap.size) (hl : (n + m) * bytes ≤ 140737488355328)
    (h : ∀ v1 w1, w1.ownsRow B e size v1 (n + m) (xs ++ ys) → W.grownBy w1 v.ownBlock → (v1.ownBlock = v.ownBlock ∨ v1.ownBlock = some W.heap.size) → K (a.put o.dst v1) w1) :
    if Region.wanted o (yielded ops a.tmps) = true then Oper.wp P o a W K Q else E := by
  rw [if_pos hw]
  exact wp_app_any B s x t e z size bytes ho ht hinfo hz hs0 hb0 v n m c A xs ys hs hx hys hr h1 HO hB hl h
end
/-- A row that grows keeps everything below its base. -/
theorem grown_own {w W w1 : World} {B e size n : Nat} {v : Value} {xs : List Value} (k : Kept w W) (h : W.ownsRow B e size v n xs) (hB : w.heap.size ≤ B) (hg : W.grownBy w1 v.ownBlock) : Kept w w1 := kept_grown k h hB hg
end Go.Proofs.YtikfeemmjfoffaaGreatDoor

/- General words, eighth part: a struct of four cells stored whole; windows of a row that is known. -/
set_option linter.unusedVariables false
set_option linter.unusedSimpArgs false
namespace Go.Proofs.YtikfeemmjfoffaaGreatDoor
open Go.RowKit

abbrev set4 (w : World) (g : Nat) (a b c d : Value) : World := (((w.setCell ⟨g, 0, none⟩ a).setCell ⟨g, 1, none⟩ b).setCell ⟨g, 2, none⟩ c).setCell ⟨g, 3, none⟩ d
theorem own_set4 {w : World} {g : Nat} {e : TypeId} {x0 x1 x2 x3 : Value} (h : Own w g e [x0, x1, x2, x3]) (a b c d : Value) : Own (set4 w g a b c d) g e [a, b, c, d] :=
  (((h.set 0 a).set 1 b).set 2 c).set 3 d
theorem Own.set4 {w : World} {g g' : Nat} {e : TypeId} {cs : List Value} (h : Own w g' e cs) (ne : g' ≠ g) (a b c d : Value) : Own (YtikfeemmjfoffaaGreatDoor.set4 w g a b c d) g' e cs :=
  (((h.other (a := ⟨g, 0, none⟩) ne a).other (a := ⟨g, 1, none⟩) ne b).other (a := ⟨g, 2, none⟩) ne c).other (a := ⟨g, 3, none⟩) ne d
theorem kept_set4 {w0 w : World} {g : Nat} (h : Kept w0 w) (hg : w0.heap.size ≤ g) (a b c d : Value) : Kept w0 (set4 w g a b c d) :=
  kept_set (kept_set (kept_set (kept_set h hg a) hg b) hg c) hg d
theorem row_set4 {w : World} {B g : Nat} {e : TypeId} {sz n : Nat} {v : Value} {xs : List Value} (h : w.ownsRow B e sz v n xs) (hg : g < B) (a b c d : Value) : (set4 w g a b c d).ownsRow B e sz v n xs :=
  ownsRow_setCell_below (ownsRow_setCell_below (ownsRow_setCell_below (ownsRow_setCell_below h (a := ⟨g, 0, none⟩) hg a) (a := ⟨g, 1, none⟩) hg b) (a := ⟨g, 2, none⟩) hg c) (a := ⟨g, 3, none⟩) hg d
/-- A window of a row that is known. -/
theorem Own.win {w : World} {g : Nat} {e : TypeId} {l : List Int} {rest : List Value} (h : Own w g e (ints l ++ rest)) (o m : Nat) (hm : o + m ≤ l.length) : Rd w (some ⟨g, o, none⟩) (ints ((l.drop o).take m)) :=
  ⟨fun _ => ⟨g, o, rfl, fun j v hj => by
    have hlt : j < ((l.drop o).take m).length := by have := (List.getElem?_eq_some_iff.1 hj).1; simpa [ints] using this
    have hl2 : o + j < l.length := by simp at hlt; omega
    refine h.cell ?_
    rw [List.getElem?_append_left (by simpa using hl2)]
    rw [← hj]
    simp only [ints, List.getElem?_map]
    rw [List.getElem?_take_of_lt (by simp at hlt; omega), List.getElem?_drop]⟩⟩
theorem Own.type {w : World} {g : Nat} {e e' : TypeId} {cs cs' : List Value} (h : Own w g e cs) (h' : Own w g e' cs') : e = e' := by
  unfold Own at h h'
  rw [h] at h'
  injection h' with h'
  injection h' with _ h2
end Go.Proofs.YtikfeemmjfoffaaGreatDoor
