/- Joined: P3, P4, P5. -/
import Derived.Test.YtinpmdekdfgiiaaE4
import Derived.Test.YtinpmdekdfgiiaaN1
import Derived.Test.YtinpmdekdfgiiaaE2
/- Layers: the map of places, the row of places, and what the visit holds. -/
set_option linter.unusedVariables false
set_option linter.unusedSimpArgs false
namespace Go.Proofs.Ytinpmdekdfgiiaa
open Go.RowKit Go.Maps Go.ChangeShapes

theorem info102 : (Try.prog.info? 102).map (fun i => (i.zero, i.size, i.bytes)) = some (some (.agg #[.int .i64 0, .int .i64 0]), 2, 16) := by kernel_rfl
theorem pzero3 (w : World) : (zeroValue 3).run Try.prog w = .ok (.int .i64 0) w := by kernel_rfl
theorem under98 : Try.prog.underlying 98 = some (.map 102 3) := Try.underlying98
theorem placeLaw : Keyed Try.prog 102 := Keyed.of_law (deep_law_laid laid8 (m := 2) (by omega) (of_decide_eq_true (by kernel_rfl)) (by kernel_rfl) (by rw [Try.underlying102]))
theorem keyType102 : Try.prog.keyType 102 = true := by kernel_rfl
theorem cells102 : Try.prog.cellsOf 102 = 2 := by kernel_rfl
def pcV (p : Pc) : Value := .agg #[.int .i64 p.x, .int .i64 p.j]
def pcLit (p : Pc) : Lit := (DataW.agg (H := Unit) [.lit (.int .i64 p.x), .lit (.int .i64 p.j)]).asKey
def pcIn (p : Pc) : Prop := i64In p.x ∧ i64In p.j
theorem pc_key {p : Pc} (h : pcIn p) : keyOf Try.prog 102 (pcV p) = some (pcLit p) :=
  (keyOf_asKey keyType102 (by rw [Try.underlying102]) (by simp [Value.formed, Try.underlying102, cells102])
    (Joins.shut_agg2 Try.underlying102 (by kernel_rfl) cells102 (int_trod h.1) (int_trod h.2))).1
theorem pc_inj {p q : Pc} (hp : pcIn p) (hq : pcIn q) (h : pcLit p = pcLit q) : p = q := by
  have := placeLaw.inj (pc_key hp) (by rw [h]; exact pc_key hq)
  unfold pcV at this
  cases p; cases q
  simp at this
  simp [this]
/-- The map holds the places of o; the first i of S with their number. -/
def PMapIs (D : DataW Unit) (o S : List Pc) (i : Nat) : Prop :=
  ∀ p, pcIn p → has D (pcLit p) = decide (p ∈ o) ∧ (p ∈ S → px S p < i → D.atKey (pcLit p) (.lit (.int .i64 0)) = .lit (.int .i64 (px S p)))
theorem pmap_nil : PMapIs (.map []) [] [] 0 := fun p _ => ⟨by simp [has], fun h => by simp at h⟩
theorem pmap_put {D : DataW Unit} {o : List Pc} (h : PMapIs D o [] 0) (hD : IsMap D) {p : Pc} (hp : pcIn p) : PMapIs (D.put (pcLit p) (.lit (.int .i64 0))) (o ++ [p]) [] 0 := by
  intro q hq
  refine ⟨?_, fun hm => by simp at hm⟩
  by_cases e : q = p
  · subst e
    rw [has_put_same hD (placeLaw.key (pc_key hq))]
    simp
  · have hne : pcLit q ≠ pcLit p := fun h => e (pc_inj hq hp h)
    rw [has_put_other hne, (h q hq).1]
    simp [e]
theorem pmap_number {D : DataW Unit} {o S : List Pc} {i : Nat} (h : PMapIs D o S i) (hD : IsMap D) {p : Pc} (hp : pcIn p) (ho : p ∈ o) (hi : px S p = i) (huniq : ∀ q, q ∈ S → px S q = i → q = p) : PMapIs (D.put (pcLit p) (.lit (.int .i64 i))) o S (i + 1) := by
  intro q hq
  by_cases e : q = p
  · subst e
    rw [has_put_same hD (placeLaw.key (pc_key hq)), decide_eq_true ho]
    refine ⟨rfl, fun _ _ => ?_⟩
    rw [atKey_put_same hD (placeLaw.key (pc_key hq)), hi]
  · have hne : pcLit q ≠ pcLit p := fun h => e (pc_inj hq hp h)
    rw [has_put_other hne, atKey_put_other hne]
    refine ⟨(h q hq).1, fun hm hl => (h q hq).2 hm ?_⟩
    rcases Nat.lt_or_ge (px S q) i with h1 | h1
    · exact h1
    · exact absurd (huniq q hm (by omega)) e

def pcCells (l : List Pc) : List Value := l.flatMap fun p => [.int .i64 p.x, .int .i64 p.j]
theorem pcCells_length (l : List Pc) : (pcCells l).length = l.length * 2 := by
  induction l with
  | nil => rfl
  | cons a l ih => simp only [pcCells, List.flatMap_cons, List.length_append, List.length_cons, List.length_nil] at ih ⊢; omega
theorem pcCells_get (l : List Pc) (k : Nat) (h : k < l.length) : (pcCells l)[k * 2]? = some (.int .i64 (pc l k).x) ∧ (pcCells l)[k * 2 + 1]? = some (.int .i64 (pc l k).j) := by
  induction l generalizing k with
  | nil => simp at h
  | cons a l ih =>
    cases k with
    | zero => simp [pcCells, pc]
    | succ k =>
      obtain ⟨h0, h1⟩ := ih k (by simpa using h)
      have e : pcCells (a :: l) = .int .i64 a.x :: .int .i64 a.j :: pcCells l := by simp [pcCells]
      have e0 : (k + 1) * 2 = k * 2 + 1 + 1 := by omega
      refine ⟨?_, ?_⟩
      · rw [e, e0]; simpa [pc] using h0
      · rw [e, e0]; simpa [pc] using h1
theorem pcCells_snoc (l : List Pc) (p : Pc) : pcCells l ++ [.int .i64 p.x, .int .i64 p.j] = pcCells (l ++ [p]) := by simp [pcCells]
theorem one_pcs (l : List Pc) : ∀ u ∈ pcCells l, u.oneCell' = true := by
  intro u hu
  obtain ⟨x, _, hx⟩ := List.mem_flatMap.1 hu
  simp at hx
  rcases hx with rfl | rfl <;> rfl

/-- Where a grown row lies. -/
def Whr (v v' : Value) (w : World) : Prop := v'.ownBlock = v.ownBlock ∨ ∃ b, v'.ownBlock = some b ∧ w.heap.size ≤ b
theorem whr_refl (v : Value) (w : World) : Whr v v w := .inl rfl
theorem whr_trans {v v' v'' : Value} {a b : World} (h : Whr v v' a) (k : Whr v' v'' b) (hs : a.heap.size ≤ b.heap.size) : Whr v v'' a := by
  rcases k with e | ⟨b, e, hb⟩
  · unfold Whr; rw [e]; exact h
  · exact .inr ⟨b, e, by omega⟩
theorem ne_whr {v v' : Value} {w : World} {b : Nat} (h : Whr v v' w) (hb : b < w.heap.size) (n : some b ≠ v.ownBlock) : some b ≠ v'.ownBlock := by
  rcases h with e | ⟨c, e, hc⟩
  · rw [e]; exact n
  · rw [e]; intro h; injection h with h; omega
/-- All is as it was but for two blocks and the row of v. -/
structure Frm (g m : Nat) (v : Value) (w w' : World) : Prop where
  size : w.heap.size ≤ w'.heap.size
  block : ∀ k, k < w.heap.size → k ≠ g → k ≠ m → some k ≠ v.ownBlock → w'.heap[k]? = w.heap[k]?
theorem frm_of {g m : Nat} {v : Value} {w w' : World} (k : Kept w w') : Frm g m v w w' := ⟨k.size, fun i hi _ _ _ => k.block i hi⟩
theorem frm_trans {g m : Nat} {v v' : Value} {a b c : World} (h : Frm g m v a b) (l : Whr v v' a) (k : Frm g m v' b c) : Frm g m v a c :=
  ⟨Nat.le_trans h.size k.size, fun i hi n1 n2 n3 => (k.block i (Nat.lt_of_lt_of_le hi h.size) n1 n2 (ne_whr l hi n3)).trans (h.block i hi n1 n2 n3)⟩
theorem frm_set {g m : Nat} {v : Value} {a b : World} (h : Frm g m v a b) (j : Nat) (u : Value) : Frm g m v a (b.setCell ⟨g, j, none⟩ u) :=
  ⟨by simpa using h.size, fun i hi n1 n2 n3 => (Below.heap_setCell b ⟨g, j, none⟩ u i n1).trans (h.block i hi n1 n2 n3)⟩
theorem frm_map {g m : Nat} {v : Value} {a b c : World} (h : Frm g m v a b) (k : b.grownBy c (some m)) : Frm g m v a c :=
  ⟨Nat.le_trans h.size k.size, fun i hi n1 n2 n3 => (k.block i (Nat.lt_of_lt_of_le hi h.size) (fun e => by injection e with e; exact n2 e)).trans (h.block i hi n1 n2 n3)⟩
theorem frm_row {g m : Nat} {v : Value} {a b c : World} (h : Frm g m v a b) (k : b.grownBy c v.ownBlock) : Frm g m v a c :=
  ⟨Nat.le_trans h.size k.size, fun i hi n1 n2 n3 => (k.block i (Nat.lt_of_lt_of_le hi h.size) n3).trans (h.block i hi n1 n2 n3)⟩
theorem Own.frm {g m b : Nat} {v : Value} {w w' : World} {e : TypeId} {cs : List Value} (h : Own w b e cs) (k : Frm g m v w w') (n1 : b ≠ g) (n2 : b ≠ m) (n3 : some b ≠ v.ownBlock) : Own w' b e cs := h.of_block (k.block b h.lt n1 n2 n3)

def mapV (m : Nat) : Value := .map (some m)
/-- What holds while Layers visits. -/
structure LaEnv (w wr : World) (k1 g : Nat) (n s : Int) (A : Option Addr) (c : Nat) (l : List Nd) (o S : List Pc) (i m : Nat) (v : Value) : Prop where
  o0 : Own wr w.heap.size 24 [.int .i64 n, .int .i64 s, .slice A l.length c]
  o1 : Own wr (w.heap.size + 1) 24 [.int .i64 0, .int .i64 0, .slice none 0 0]
  oL : Own wr g 3 (ints (lv s l))
  o4 : Own wr k1 36 [.slice (some ⟨g, 0, none⟩) l.length l.length]
  o5 : Own wr (k1 + 2) 98 [mapV (k1 + 1)]
  o6 : Own wr (k1 + 3) 99 [v]
  o7 : Own wr (k1 + 4) 100 [.func (.func 85) #[] #[.pointer (some ⟨k1 + 2, 0, none⟩), .pointer (some ⟨k1 + 3, 0, none⟩), .pointer (some ⟨k1, 0, none⟩), .pointer (some ⟨k1 + 4, 0, none⟩), .pointer (some ⟨w.heap.size, 0, none⟩)]]
  mp : ∃ D : DataW Unit, wr.ownsMap Try.prog 102 (plainElem Try.prog 3) (k1 + 1) m D ∧ PMapIs D o S i
  row : wr.ownsRow (k1 + 5) 102 2 v o.length (pcCells o)
  K : Kept w wr
theorem LaEnv.kept {w wr wr' : World} {k1 g : Nat} {n s : Int} {A : Option Addr} {c : Nat} {l : List Nd} {o S : List Pc} {i m : Nat} {v : Value} (h : LaEnv w wr k1 g n s A c l o S i m v) (k : Kept wr wr') : LaEnv w wr' k1 g n s A c l o S i m v :=
  ⟨h.o0.kept k, h.o1.kept k, h.oL.kept k, h.o4.kept k, h.o5.kept k, h.o6.kept k, h.o7.kept k, let ⟨D, h1, h2⟩ := h.mp; ⟨D, h1.kept (row := none) ⟨k.os, k.tape, k.output, k.size, fun i hi _ => k.block i hi⟩ (by simp), h2⟩, row_kept h.row k, kept_trans h.K k⟩
end Go.Proofs.Ytinpmdekdfgiiaa

/- Layers: the visit. -/
set_option linter.unusedVariables false
set_option linter.unusedSimpArgs false
namespace Go.Proofs.Ytinpmdekdfgiiaa
open Go.RowKit Go.Maps

theorem visF_stop {s : Int} {l : List Nd} {f : Nat} {p : Pc} {o : List Pc} (h : stops p o = true) : visF s l f p o = o := by
  cases f with
  | zero => rfl
  | succ f => unfold visF; rw [if_pos h]
theorem visF_go0 {s : Int} {l : List Nd} {f : Nat} {p : Pc} {o : List Pc} (h : stops p o = false) (hj : p.j < ia (lv s l) p.x.toNat) : visF s l (f + 1) p o = visF s l f ⟨p.x, p.j + 1⟩ (o ++ [p]) := by
  rw [visF, h, if_neg (by simp), if_pos hj]
theorem visF_go1 {s : Int} {l : List Nd} {f : Nat} {p : Pc} {o : List Pc} (h : stops p o = false) (hj : ¬ p.j < ia (lv s l) p.x.toNat) : visF s l (f + 1) p o = visF s l f ⟨no l p.x.toNat, p.j + 1⟩ (visF s l f ⟨nz l p.x.toNat, p.j + 1⟩ (o ++ [p])) := by
  rw [visF, h, if_neg (by simp), if_neg hj]

/-- A place is met for the first time. -/
theorem LaEnv.put {w W w5 w7 : World} {k1 g : Nat} {n s : Int} {A : Option Addr} {c : Nat} {l : List Nd} {o : List Pc} {v v7 : Value} {p : Pc} (h : LaEnv w W k1 g n s A c l o [] 0 o.length v) (h1 : w.heap.size + 1 < k1) (h2 : g < k1)
    (hm : ∃ D : DataW Unit, w5.ownsMap Try.prog 102 (plainElem Try.prog 3) (k1 + 1) (o.length + 1) D ∧ PMapIs D (o ++ [p]) [] 0) (hg5 : W.grownBy w5 (some (k1 + 1))) (hr7 : w7.ownsRow (k1 + 5) 102 2 v7 (o.length + 1) (pcCells (o ++ [p]))) (hg7 : w5.grownBy w7 v.ownBlock) :
    LaEnv w (w7.setCell ⟨k1 + 3, 0, none⟩ v7) k1 g n s A c l (o ++ [p]) [] 0 (o ++ [p]).length v7 := by
  have hv : ∀ b, v.ownBlock = some b → k1 + 5 ≤ b := fun b hb => (h.row.lt b hb).1
  have N : ∀ b, b ≠ k1 + 1 → some b ≠ some (k1 + 1) := fun b hb e => by injection e with e; exact hb e
  have M : ∀ b, b < k1 + 5 → some b ≠ v.ownBlock := fun b hb e => by have := hv b e.symm; omega
  obtain ⟨D, hD1, hD2⟩ := hm
  have T : ∀ {b : Nat} {e : TypeId} {cs : List Value}, Own W b e cs → b < k1 + 5 → b ≠ k1 + 1 → b ≠ k1 + 3 → Own (w7.setCell ⟨k1 + 3, 0, none⟩ v7) b e cs := fun hO a b c => ((hO.grown hg5 (N _ b)).grown hg7 (M _ a)).other (by dsimp only; omega) _
  refine ⟨T h.o0 (by omega) (by omega) (by omega), T h.o1 (by omega) (by omega) (by omega), T h.oL (by omega) (by omega) (by omega), T h.o4 (by omega) (by omega) (by omega), T h.o5 (by omega) (by omega) (by omega), ?_, T h.o7 (by omega) (by omega) (by omega), ⟨D, ?_, hD2⟩, ?_, ?_⟩
  · have := ((h.o6.grown hg5 (N _ (by omega))).grown hg7 (M _ (by omega))).set 0 v7
    simpa using this
  · rw [List.length_append]
    exact (hD1.kept hg7 (M _ (by omega))).setCell (by dsimp only; omega) _
  · rw [List.length_append]
    exact ownsRow_setCell_below hr7 (by dsimp only; omega) _
  · have k5 := h.K.grown hg5 h.K.size (fun b hb => by cases hb; omega)
    exact kept_set (k5.grown hg7 k5.size (fun b hb => by have := hv b hb; omega)) (by omega) _

/-- What the visit leaves. -/
def VisPost (w : World) (k1 g : Nat) (n s : Int) (A : Option Addr) (c : Nat) (l : List Nd) (o' : List Pc) (v : Value) (W : World) (e : Ending) (w' : World) : Prop :=
  ∃ v', e = .returned (.tuple #[]) ∧ LaEnv w w' k1 g n s A c l o' [] 0 o'.length v' ∧ Frm (k1 + 3) (k1 + 1) v W w' ∧ Whr v v' W

set_option maxRecDepth 100000 in
set_option maxHeartbeats 1000000 in
theorem visit_stop (w : World) (k1 g : Nat) (n s : Int) (A : Option Addr) (c : Nat) (l : List Nd) (h1 : w.heap.size + 1 < k1) (h2 : g < k1) (p : Pc) (o : List Pc) (v : Value) (W : World) (hp : pcIn p) (hs : stops p o = true) (E : LaEnv w W k1 g n s A c l o [] 0 o.length v) (hl : o.length ≤ 20001) :
    Calls Try.prog 85 #[.agg #[.int .i64 p.x, .int .i64 p.j], .pointer (some ⟨k1 + 2, 0, none⟩), .pointer (some ⟨k1 + 3, 0, none⟩), .pointer (some ⟨k1, 0, none⟩), .pointer (some ⟨k1 + 4, 0, none⟩), .pointer (some ⟨w.heap.size, 0, none⟩)] W (VisPost w k1 g n s A c l o v W) := by
  have K0 : Kept W (W.alloc (.cells #[.int .i64 p.x, .int .i64 p.j] 102)) := kept_alloc (kept_refl W) _
  have E1 := E.kept K0
  have oB := Own.new W 102 [.int .i64 p.x, .int .i64 p.j]
  obtain ⟨A8, c8, rfl, hrow⟩ := row_form E1.row
  have b0 := oB.cell (j := 0) rfl
  have b1 := oB.cell (j := 1) rfl
  have q5 := E1.o5.cell (j := 0) rfl
  unfold mapV at q5
  have q6 := E1.o6.cell (j := 0) rfl
  obtain ⟨D, hown, hmd⟩ := E1.mp
  have hh := (hmd p hp).1
  have z5 : k1 + 2 < W.heap.size := E.o5.lt
  have z6 : k1 + 3 < W.heap.size := E.o6.lt
  have HMD := Lib.hid hmd; clear hmd
  have HS := Lib.hid hs
  have F := frm_of (g := k1 + 3) (m := k1 + 1) (v := .slice A8 o.length c8) K0
  by_cases hmem : p ∈ o
  case' pos =>
    rw [decide_eq_true hmem] at hh
    clear hmem hs E
  case' neg =>
    rw [decide_eq_false hmem] at hh
    by_cases hx : p.x < 0
    case' pos =>
      have d1 : decide (p.x < 0) = true := decide_eq_true hx
      clear hmem hs E
    case' neg =>
      have d1 : decide (p.x < 0) = false := decide_eq_false hx
      have hl2 : 20000 < o.length := by rcases stops_true.1 hs with a | a | a; exact absurd a hmem; exact absurd a hx; exact a
      have d2 : decide ((20000 : Int) < (o.length : Int)) = true := decide_eq_true (by omega)
      have d3 : decide (20000 < o.length) = true := decide_eq_true hl2
      clear hmem hs E
  all_goals
    go_enter Try.func85, Try.ntmps85
    go_wp2_with (at_lookup; go_loud (refine wpList_lookup_own_ok_int _ rfl _ _ 98 rfl 102 3 .i64 placeLaw under98 Try.underlying3 (pzero3 _) (k1 + 1) o.length D rfl hown _ (pcLit p) rfl (pc_key hp) ?_; intro c0 hat hwc; clear hat hwc))
    go_end0
    exact ⟨_, rfl, E1, F, whr_refl _ _⟩
end Go.Proofs.Ytinpmdekdfgiiaa

/- Layers: the visit, of a place that is new. -/
set_option linter.unusedVariables false
set_option linter.unusedSimpArgs false
namespace Go.Proofs.Ytinpmdekdfgiiaa
open Go.RowKit Go.Maps

theorem frm_kept {g m : Nat} {v : Value} {a b c : World} (h : Frm g m v a b) (k : Kept b c) : Frm g m v a c :=
  ⟨Nat.le_trans h.size k.size, fun i hi n1 n2 n3 => (k.block i (Nat.lt_of_lt_of_le hi h.size)).trans (h.block i hi n1 n2 n3)⟩

set_option maxRecDepth 100000 in
set_option maxHeartbeats 2000000 in
theorem visit_any (w : World) (k1 g : Nat) (n s : Int) (A : Option Addr) (c : Nat) (l : List Nd) (h1 : w.heap.size + 1 < k1) (h2 : g < k1) (hr : RN w A l) (hv : validB n s l = true) : ∀ (f : Nat) (p : Pc) (o : List Pc) (v : Value) (W : World), Vis s l o → (0 ≤ p.x → okP s l p) → (p = ⟨s, 0⟩ ∨ ∃ q, q ∈ o ∧ (p = sc0 s l q ∨ p = sc1 s l q)) → lenB s l ≤ p.j + f →
    -2 ≤ p.x ∧ p.x ≤ 20000 ∧ 0 ≤ p.j ∧ p.j ≤ 50000 → LaEnv w W k1 g n s A c l o [] 0 o.length v →
    Calls Try.prog 85 #[.agg #[.int .i64 p.x, .int .i64 p.j], .pointer (some ⟨k1 + 2, 0, none⟩), .pointer (some ⟨k1 + 3, 0, none⟩), .pointer (some ⟨k1, 0, none⟩), .pointer (some ⟨k1 + 4, 0, none⟩), .pointer (some ⟨w.heap.size, 0, none⟩)] W (VisPost w k1 g n s A c l (visF s l f p o) v W) := by
  obtain ⟨hi0, hi1, hln, hst⟩ := valid_start hv
  intro f
  induction f with
  | zero =>
    intro p o v W hV hp hfr hf hb E
    have hx : p.x < 0 := by
      rcases Int.lt_or_le p.x 0 with h0 | h0
      · exact h0
      · have := okP_lt (hp h0); omega
    have hs : stops p o = true := stops_true.2 (.inr (.inl hx))
    rw [visF_stop hs]
    exact visit_stop w k1 g n s A c l h1 h2 p o v W ⟨by unfold i64In; omega, by unfold i64In; omega⟩ hs E hV.len
  | succ f ih =>
    intro p o v W hV hp hfr hf hb E
    have hpin : pcIn p := ⟨by unfold i64In; omega, by unfold i64In; omega⟩
    cases hs : stops p o
    case true =>
      rw [visF_stop hs]
      exact visit_stop w k1 g n s A c l h1 h2 p o v W hpin hs E hV.len
    obtain ⟨t1, t2, t3⟩ := stops_false.1 hs
    have hok := hp t2
    have hok0 := hok; obtain ⟨u0, u1, u2, u3, u4⟩ := hok0
    have hk : p.x.toNat < l.length := by omega
    have hnd := valid_node hv hk
    have hlv := lvTo_small s l l.length p.x.toNat
    have hlv2 : ia (lv s l) p.x.toNat ≤ 40000 := by have : ia (lv s l) p.x.toNat ≤ 2 * (l.length : Nat) := hlv.2; omega
    have hv1 := hV.snoc t1 hok t3 hfr
    have hsc := okP_sc hv hok
    have hm : p ∈ o ++ [p] := by simp
    have K0 : Kept W (W.alloc (.cells #[.int .i64 p.x, .int .i64 p.j] 102)) := kept_alloc (kept_refl W) _
    have E1 := E.kept K0
    have oB := Own.new W 102 [.int .i64 p.x, .int .i64 p.j]
    obtain ⟨A8, c8, rfl, hrow⟩ := row_form E1.row
    obtain ⟨b, off, hA, hcs⟩ := hr.at_ hk
    subst hA
    obtain ⟨d0, d1, d2⟩ := hcs p.x.toNat hk
    clear hcs
    have D0 := d0; have D1 := d1; have D2 := d2
    clear d0 d1 d2
    have b0 := oB.cell (j := 0) rfl
    have b1 := oB.cell (j := 1) rfl
    have q5 := E1.o5.cell (j := 0) rfl
    unfold mapV at q5
    have q6 := E1.o6.cell (j := 0) rfl
    obtain ⟨D, hown, hmd⟩ := E1.mp
    have hh := (hmd p hpin).1
    rw [decide_eq_false t1] at hh
    have z5 : k1 + 2 < W.heap.size := E.o5.lt
    have z6 : k1 + 3 < W.heap.size := E.o6.lt
    have z7 : k1 + 4 < W.heap.size := E.o7.lt
    have HMD := Lib.hid hmd; clear hmd
    have e1 : decide (p.x < 0) = false := decide_eq_false (by omega)
    have e2 : decide ((20000 : Int) < (o.length : Int)) = false := decide_eq_false (by omega)
    have e3 : decide (20000 < o.length) = false := decide_eq_false (by omega)
    have F0 := frm_of (g := k1 + 3) (m := k1 + 1) (v := .slice A8 o.length c8) K0
    have neB : some W.heap.size ≠ (Value.slice A8 o.length c8).ownBlock := fun e => by have := (E.row.lt _ e.symm).2; omega
    have hvb : ∀ b, (Value.slice A8 o.length c8).ownBlock = some b → k1 + 5 ≤ b := fun b hb => (E.row.lt b hb).1
    have HV := Lib.hid hv; have HVB := Lib.hid hvb
    have HSC := Lib.hid hsc
    have HS := Lib.hid hs
    have HO := Lib.hid hok
    have IH := Lib.hid ih
    have HV1 := Lib.hid hv1
    have HNB := Lib.hid neB
    clear hv hvb hsc hs hok ih hv1 hfr hp E hV neB hst t1
    go_enter Try.func85, Try.ntmps85
    go_wp2_with (first | (at_lookup; refine wpList_lookup_own_ok_int _ rfl _ _ 98 rfl 102 3 .i64 placeLaw under98 Try.underlying3 (pzero3 _) (k1 + 1) o.length D rfl hown _ (pcLit p) rfl (pc_key hpin) ?_; intro c0 hat hwc; clear hat hwc) | (at_mapUpdate; go_loud (refine wpList_mapUpdate_own _ rfl _ _ _ 98 rfl 102 3 placeLaw under98 (plainElem Try.prog 3) (k1 + 1) o.length D rfl hown (by unfold maxLen; omega) _ _ (pcLit p) rfl rfl (pc_key hpin) _ [] (plainElem_int Try.underlying3 (i64_wf (x := 0) (by unfold i64In; omega))) ?_; intro w5 hown5 hg5; have o5 := oB.grown hg5 (by intro e; injection e with e; omega); replace b0 := o5.cell (j := 0) rfl; replace b1 := o5.cell (j := 1) rfl; have y6 := E1.o6.grown hg5 (by intro e; injection e with e; omega); replace q6 := y6.cell (j := 0) rfl; have hrow5 := hrow.kept hg5 (.inr (by intro e; have := HVB.out _ e; omega)); have s5 : W.heap.size + 1 ≤ w5.heap.size := (by have := hg5.size; simp at this; omega); have s6 : k1 + 5 ≤ w5.heap.size := (by omega))) | (at_builtin; go_loud (refine app_law (k1 + 5) rfl (.tmp 28) (.tmp 30) 99 102 (.agg #[.int .i64 0, .int .i64 0]) 2 16 rfl Try.underlying99 info102 rfl (by omega) (by omega) (.slice A8 o.length c8) o.length 1 (pcCells o) [.int .i64 p.x, .int .i64 p.j] rfl rfl rfl (one_pcs [p]) hrow5 s6 (by omega) ?_; intro v7 w7 hr7 hg7 hat7; rw [pcCells_snoc] at hr7; obtain ⟨A9, c9, rfl, hr9⟩ := row_form hr7; have y7 := y6.grown hg7 (by intro e; have := HVB.out _ e.symm; omega); replace q6 := y7.cell (j := 0) rfl; have f6 := y7.frozen 0)))
    have E2 := E1.put (p := p) h1 h2 ⟨_, hown5, pmap_put HMD.out hown.isMap hpin⟩ hg5 hr9 hg7
    have F2 := frm_set (frm_row (frm_map F0 hg5) hg7) 0 (.slice A9 (o.length + 1) c9)
    have oB2 := (o5.grown hg7 (by intro e; exact HNB.out e)).other (a := ⟨k1 + 3, 0, none⟩) (by dsimp only; omega) (.slice A9 (o.length + 1) c9)
    have L2 : Whr (.slice A8 o.length c8) (.slice A9 (o.length + 1) c9) W := by
      rcases hat7 with e | ⟨b, e, hb⟩
      · exact .inl e
      · exact .inr ⟨b, e, by omega⟩
    have ne9 : some W.heap.size ≠ (Value.slice A9 (o.length + 1) c9).ownBlock := by
      rcases hat7 with e | ⟨b, e, hb⟩
      · rw [e]; exact HNB.out
      · rw [e]; intro e; injection e with e; omega
    obtain ⟨w8, hw8⟩ : ∃ x, x = w7.setCell ⟨k1 + 3, 0, none⟩ (.slice A9 (o.length + 1) c9) := ⟨_, rfl⟩
    rw [← hw8] at E2 F2 oB2 ⊢
    clear hw8 hown hown5 hg5 hr7 hr9 hg7 y6 y7 q5 q6 f6 hrow hrow5 hat7 b0 b1 o5 s5 s6 F0 E1 oB K0 hh HMD
    have NE9 := Lib.hid ne9; clear ne9
    have j0 : 0 ≤ p.j := u3
    have j1 : p.j ≤ 50000 := by omega
    have zE := lv_len (s := s) hk
    have m1 : IntKind.i64.wrap (p.j + 1) = p.j + 1 := IntWalk.i64_in _ (by omega)
    have b0 := oB2.cell (j := 0) rfl
    have b1 := oB2.cell (j := 1) rfl
    have q4 := E2.o4.cell (j := 0) rfl
    have qL := E2.oL.int (j := p.x.toNat) (by rw [lv_length]; exact hk)
    by_cases hj : p.j < ia (lv s l) p.x.toNat
    · have dj : decide (p.j < ia (lv s l) p.x.toNat) = true := decide_eq_true hj
      have e0 : sc0 s l p = ⟨p.x, p.j + 1⟩ := if_pos hj
      have HJ := Lib.hid hj; clear hj
      have hsc0 := HSC.out.1
      rw [e0] at hsc0
      have HC0 := Lib.hid hsc0; clear hsc0
      have HE0 := Lib.hid e0; clear e0
      have q7 := E2.o7.cell (j := 0) rfl
      go_quiet (fail)
      go_wp2_with fail
      obtain ⟨w9, hw9⟩ : ∃ x, x = w8.drewN nq := ⟨_, rfl⟩
      have K9 : Kept w8 w9 := by rw [hw9]; exact below_drewN (kept_refl _) nq
      rw [← hw9]
      clear hw9 b0 b1 q4 qL q7
      have E3 := E2.kept K9
      have F3 := frm_kept F2 K9
      with_reducible refine (IH.out ⟨p.x, p.j + 1⟩ (o ++ [p]) (.slice A9 (o.length + 1) c9) w9 HV1.out HC0.out (.inr ⟨p, hm, .inl HE0.out.symm⟩) (by dsimp only; omega) (by dsimp only; omega) E3).mono ?_
      rintro e w10 ⟨v10, rfl, E10, F10, L10⟩
      go_wp2_with fail
      go_end0
      have sz : W.heap.size ≤ w9.heap.size := F3.size
      exact ⟨v10, rfl, by rw [visF_go0 HS.out HJ.out]; exact E10, frm_trans F3 L2 F10, whr_trans L2 L10 sz⟩
    · have dj : decide (p.j < ia (lv s l) p.x.toNat) = false := decide_eq_false hj
      have e0 : sc0 s l p = ⟨nz l p.x.toNat, p.j + 1⟩ := if_neg hj
      have e1 : sc1 s l p = ⟨no l p.x.toNat, p.j + 1⟩ := if_neg hj
      have HJ := Lib.hid hj; clear hj
      have hsc := HSC.out
      rw [e0, e1] at hsc
      have HC := Lib.hid hsc; clear hsc
      have HE0 := Lib.hid e0; have HE1 := Lib.hid e1; clear e0 e1
      go_quiet (fail)
      go_wp2_with fail
      obtain ⟨w9, hw9⟩ : ∃ x, x = w8.drewN nq := ⟨_, rfl⟩
      have K9 : Kept w8 w9 := by rw [hw9]; exact below_drewN (kept_refl _) nq
      rw [← hw9]
      clear hw9 b0 b1 q4 qL
      have E3 := E2.kept K9
      have F3 := frm_kept F2 K9
      have oB3 := oB2.kept K9
      have b0 := oB3.cell (j := 0) rfl
      have b1 := oB3.cell (j := 1) rfl
      have q7 := E3.o7.cell (j := 0) rfl
      have q2 := E3.o0.cell (j := 2) rfl
      have d1 := kept_cell E3.K D1
      refine region_x (fun w' => Kept w9 w') [12] (by kernel_rfl) (kept_drew (kept_refl _)) (fun hHeld => ?_)
      refine x_take (i := 0) (oi := { dst := some 48, op := Op.load 100 (Operand.tmp 4), type := 100, pos := "branch.go:316", after := #[], guard := none }) (v := ?_) rfl (by kernel_rfl) (by kernel_rfl) (by kernel_rfl) (by kernel_rfl) (by kernel_rfl) (fun _ _ _ h => h) (Or.inl ⟨rfl, ?_⟩) (by assumption) ?_
      rotate_left
      · (intro w' hSw; replace b0 := kept_cell hSw b0; replace b1 := kept_cell hSw b1; replace q7 := kept_cell hSw q7; replace q2 := kept_cell hSw q2; replace d1 := kept_cell hSw d1; go_simp; try with_reducible rfl)
      try simp only [Act.put, List.setIfInBounds_toArray, List.set_cons_zero, List.set_cons_succ]
      refine x_take (i := 1) (oi := { dst := some 49, op := Op.fieldAddr 24 (Operand.tmp 5) 2, type := 0, pos := "branch.go:316", after := #[], guard := none }) (v := ?_) rfl (by kernel_rfl) (by kernel_rfl) (by kernel_rfl) (by kernel_rfl) (by kernel_rfl) (fun _ _ _ h => h) (Or.inl ⟨rfl, ?_⟩) (by assumption) ?_
      rotate_left
      · (intro w' hSw; replace b0 := kept_cell hSw b0; replace b1 := kept_cell hSw b1; replace q7 := kept_cell hSw q7; replace q2 := kept_cell hSw q2; replace d1 := kept_cell hSw d1; go_simp; try with_reducible rfl)
      try simp only [Act.put, List.setIfInBounds_toArray, List.set_cons_zero, List.set_cons_succ]
      refine x_take (i := 2) (oi := { dst := some 50, op := Op.load 22 (Operand.tmp 49), type := 22, pos := "branch.go:316", after := #[{ on := 1, ground := Ground.data }], guard := none }) (v := ?_) rfl (by kernel_rfl) (by kernel_rfl) (by kernel_rfl) (by kernel_rfl) (by kernel_rfl) (fun _ _ _ h => h) (Or.inl ⟨rfl, ?_⟩) (by assumption) ?_
      rotate_left
      · (intro w' hSw; replace b0 := kept_cell hSw b0; replace b1 := kept_cell hSw b1; replace q7 := kept_cell hSw q7; replace q2 := kept_cell hSw q2; replace d1 := kept_cell hSw d1; go_simp; try with_reducible rfl)
      try simp only [Act.put, List.setIfInBounds_toArray, List.set_cons_zero, List.set_cons_succ]
      refine x_take (i := 3) (oi := { dst := some 51, op := Op.fieldAddr 102 (Operand.tmp 6) 0, type := 0, pos := "branch.go:316", after := #[], guard := none }) (v := ?_) rfl (by kernel_rfl) (by kernel_rfl) (by kernel_rfl) (by kernel_rfl) (by kernel_rfl) (fun _ _ _ h => h) (Or.inl ⟨rfl, ?_⟩) (by assumption) ?_
      rotate_left
      · (intro w' hSw; replace b0 := kept_cell hSw b0; replace b1 := kept_cell hSw b1; replace q7 := kept_cell hSw q7; replace q2 := kept_cell hSw q2; replace d1 := kept_cell hSw d1; go_simp; try with_reducible rfl)
      try simp only [Act.put, List.setIfInBounds_toArray, List.set_cons_zero, List.set_cons_succ]
      refine x_take (i := 4) (oi := { dst := some 52, op := Op.load 3 (Operand.tmp 51), type := 3, pos := "branch.go:316", after := #[{ on := 3, ground := Ground.data }], guard := none }) (v := ?_) rfl (by kernel_rfl) (by kernel_rfl) (by kernel_rfl) (by kernel_rfl) (by kernel_rfl) (fun _ _ _ h => h) (Or.inl ⟨rfl, ?_⟩) (by assumption) ?_
      rotate_left
      · (intro w' hSw; replace b0 := kept_cell hSw b0; replace b1 := kept_cell hSw b1; replace q7 := kept_cell hSw q7; replace q2 := kept_cell hSw q2; replace d1 := kept_cell hSw d1; go_simp; try with_reducible rfl)
      try simp only [Act.put, List.setIfInBounds_toArray, List.set_cons_zero, List.set_cons_succ]
      refine x_take (i := 5) (oi := { dst := some 53, op := Op.indexAddr 22 (Operand.tmp 50) (Operand.tmp 52), type := 0, pos := "branch.go:316", after := #[{ on := 2, ground := Ground.data }, { on := 4, ground := Ground.data }], guard := none }) (v := ?_) rfl (by kernel_rfl) (by kernel_rfl) (by kernel_rfl) (by kernel_rfl) (by kernel_rfl) (fun _ _ _ h => h) (Or.inl ⟨rfl, ?_⟩) (by assumption) ?_
      rotate_left
      · (intro w' hSw; replace b0 := kept_cell hSw b0; replace b1 := kept_cell hSw b1; replace q7 := kept_cell hSw q7; replace q2 := kept_cell hSw q2; replace d1 := kept_cell hSw d1; go_simp; try with_reducible rfl)
      try simp only [Act.put, List.setIfInBounds_toArray, List.set_cons_zero, List.set_cons_succ]
      refine x_take (i := 6) (oi := { dst := some 54, op := Op.fieldAddr 48 (Operand.tmp 53) 1, type := 0, pos := "branch.go:316", after := #[{ on := 5, ground := Ground.data }], guard := none }) (v := ?_) rfl (by kernel_rfl) (by kernel_rfl) (by kernel_rfl) (by kernel_rfl) (by kernel_rfl) (fun _ _ _ h => h) (Or.inl ⟨rfl, ?_⟩) (by assumption) ?_
      rotate_left
      · (intro w' hSw; replace b0 := kept_cell hSw b0; replace b1 := kept_cell hSw b1; replace q7 := kept_cell hSw q7; replace q2 := kept_cell hSw q2; replace d1 := kept_cell hSw d1; go_simp; try with_reducible rfl)
      try simp only [Act.put, List.setIfInBounds_toArray, List.set_cons_zero, List.set_cons_succ]
      refine x_take (i := 7) (oi := { dst := some 55, op := Op.load 3 (Operand.tmp 54), type := 3, pos := "branch.go:316", after := #[{ on := 6, ground := Ground.data }], guard := none }) (v := ?_) rfl (by kernel_rfl) (by kernel_rfl) (by kernel_rfl) (by kernel_rfl) (by kernel_rfl) (fun _ _ _ h => h) (Or.inl ⟨rfl, ?_⟩) (by assumption) ?_
      rotate_left
      · (intro w' hSw; replace b0 := kept_cell hSw b0; replace b1 := kept_cell hSw b1; replace q7 := kept_cell hSw q7; replace q2 := kept_cell hSw q2; replace d1 := kept_cell hSw d1; go_simp; try with_reducible rfl)
      try simp only [Act.put, List.setIfInBounds_toArray, List.set_cons_zero, List.set_cons_succ]
      refine x_take (i := 8) (oi := { dst := some 56, op := Op.fieldAddr 102 (Operand.tmp 6) 1, type := 0, pos := "branch.go:316", after := #[], guard := none }) (v := ?_) rfl (by kernel_rfl) (by kernel_rfl) (by kernel_rfl) (by kernel_rfl) (by kernel_rfl) (fun _ _ _ h => h) (Or.inl ⟨rfl, ?_⟩) (by assumption) ?_
      rotate_left
      · (intro w' hSw; replace b0 := kept_cell hSw b0; replace b1 := kept_cell hSw b1; replace q7 := kept_cell hSw q7; replace q2 := kept_cell hSw q2; replace d1 := kept_cell hSw d1; go_simp; try with_reducible rfl)
      try simp only [Act.put, List.setIfInBounds_toArray, List.set_cons_zero, List.set_cons_succ]
      refine x_take (i := 9) (oi := { dst := some 57, op := Op.load 3 (Operand.tmp 56), type := 3, pos := "branch.go:316", after := #[{ on := 8, ground := Ground.data }], guard := none }) (v := ?_) rfl (by kernel_rfl) (by kernel_rfl) (by kernel_rfl) (by kernel_rfl) (by kernel_rfl) (fun _ _ _ h => h) (Or.inl ⟨rfl, ?_⟩) (by assumption) ?_
      rotate_left
      · (intro w' hSw; replace b0 := kept_cell hSw b0; replace b1 := kept_cell hSw b1; replace q7 := kept_cell hSw q7; replace q2 := kept_cell hSw q2; replace d1 := kept_cell hSw d1; go_simp; try with_reducible rfl)
      try simp only [Act.put, List.setIfInBounds_toArray, List.set_cons_zero, List.set_cons_succ]
      refine x_take (i := 10) (oi := { dst := some 58, op := Op.binOp BinOp.add 3 (Operand.tmp 57) (Operand.const (Value.int IntKind.i64 1)) 3, type := 3, pos := "branch.go:316", after := #[{ on := 9, ground := Ground.data }], guard := none }) (v := ?_) rfl (by kernel_rfl) (by kernel_rfl) (by kernel_rfl) (by kernel_rfl) (by kernel_rfl) (fun _ _ _ h => h) (Or.inl ⟨rfl, ?_⟩) (by assumption) ?_
      rotate_left
      · (intro w' hSw; replace b0 := kept_cell hSw b0; replace b1 := kept_cell hSw b1; replace q7 := kept_cell hSw q7; replace q2 := kept_cell hSw q2; replace d1 := kept_cell hSw d1; go_simp; try with_reducible rfl)
      try simp only [Act.put, List.setIfInBounds_toArray, List.set_cons_zero, List.set_cons_succ]
      refine x_take (i := 11) (oi := { dst := some 59, op := Op.build 102 #[(0, Operand.tmp 55), (1, Operand.tmp 58)], type := 102, pos := "branch.go:316", after := #[{ on := 7, ground := Ground.data }, { on := 10, ground := Ground.data }], guard := none }) (v := ?_) rfl (by kernel_rfl) (by kernel_rfl) (by kernel_rfl) (by kernel_rfl) (by kernel_rfl) (fun _ _ _ h => h) (Or.inl ⟨rfl, ?_⟩) (by assumption) ?_
      rotate_left
      · (intro w' hSw; replace b0 := kept_cell hSw b0; replace b1 := kept_cell hSw b1; replace q7 := kept_cell hSw q7; replace q2 := kept_cell hSw q2; replace d1 := kept_cell hSw d1; go_simp; try with_reducible rfl)
      try simp only [Act.put, List.setIfInBounds_toArray, List.set_cons_zero, List.set_cons_succ]
      refine x_last (i := 12) (o := { dst := some 60, op := Op.call { callee := Callee.value (Operand.tmp 48), args := #[Operand.tmp 59], argTypes := #[102] }, type := 0, pos := "branch.go:316", after := #[{ on := 0, ground := Ground.data }, { on := 11, ground := Ground.data }], guard := none }) (by kernel_rfl) rfl (by simp) (fun K hK => ?_)
      (go_simp; go_at_call 85; (with_reducible refine (IH.out ⟨nz l p.x.toNat, p.j + 1⟩ (o ++ [p]) (.slice A9 (o.length + 1) c9) _ HV1.out HC.out.1 (.inr ⟨p, hm, .inl HE0.out.symm⟩) (by dsimp only; omega) (by dsimp only; omega) (E3.kept hHeld)).mono ?_); rintro e w10 ⟨v10, rfl, E10, F10, L10⟩; try dsimp only)
      refine hK.out _ _ ?_
      clear hK K
      try simp only [Act.put, List.setIfInBounds_toArray, List.set_cons_zero, List.set_cons_succ]
      refine x_done (by kernel_rfl) ?_ _
      go_wp2_with fail
      have F4 := frm_trans (frm_kept F3 hHeld) L2 F10
      have sz : W.heap.size + 1 ≤ w9.drew.heap.size := oB3.lt
      have L4 := whr_trans L2 L10 (by omega)
      have oB4 := oB3.drew.frm F10 (by omega) (by omega) NE9.out
      clear b0 b1 q7 q2 d1
      have b0 := oB4.cell (j := 0) rfl
      have b1 := oB4.cell (j := 1) rfl
      have q7 := E10.o7.cell (j := 0) rfl
      have q2 := E10.o0.cell (j := 2) rfl
      have d2 := kept_cell E10.K D2
      have hi1 := visF_ok HV.out f ⟨nz l p.x.toNat, p.j + 1⟩ (o ++ [p]) HV1.out HC.out.1 (.inr ⟨p, hm, .inl HE0.out.symm⟩) (by dsimp only; omega)
      have hm2 : p ∈ visF s l f ⟨nz l p.x.toNat, p.j + 1⟩ (o ++ [p]) := by
        obtain ⟨t, ht⟩ := hi1.sub
        rw [ht]; simp
      have hv2 := hi1.vis
      have HV2 := Lib.hid hv2
      have hvis : visF s l (f + 1) p o = visF s l f ⟨no l p.x.toNat, p.j + 1⟩ (visF s l f ⟨nz l p.x.toNat, p.j + 1⟩ (o ++ [p])) := visF_go1 HS.out (by have := HJ.out; omega)
      have HVIS := Lib.hid hvis
      clear hvis hv2 hi1
      generalize visF s l f ⟨nz l p.x.toNat, p.j + 1⟩ (o ++ [p]) = o2 at *
      refine region_x (fun w' => Kept w10 w') [12] (by kernel_rfl) (kept_drew (kept_refl _)) (fun hHeld => ?_)
      refine x_take (i := 0) (oi := { dst := some 61, op := Op.load 100 (Operand.tmp 4), type := 100, pos := "branch.go:317", after := #[], guard := none }) (v := ?_) rfl (by kernel_rfl) (by kernel_rfl) (by kernel_rfl) (by kernel_rfl) (by kernel_rfl) (fun _ _ _ h => h) (Or.inl ⟨rfl, ?_⟩) (by assumption) ?_
      rotate_left
      · (intro w' hSw; replace b0 := kept_cell hSw b0; replace b1 := kept_cell hSw b1; replace q7 := kept_cell hSw q7; replace q2 := kept_cell hSw q2; replace d2 := kept_cell hSw d2; go_simp; try with_reducible rfl)
      try simp only [Act.put, List.setIfInBounds_toArray, List.set_cons_zero, List.set_cons_succ]
      refine x_take (i := 1) (oi := { dst := some 62, op := Op.fieldAddr 24 (Operand.tmp 5) 2, type := 0, pos := "branch.go:317", after := #[], guard := none }) (v := ?_) rfl (by kernel_rfl) (by kernel_rfl) (by kernel_rfl) (by kernel_rfl) (by kernel_rfl) (fun _ _ _ h => h) (Or.inl ⟨rfl, ?_⟩) (by assumption) ?_
      rotate_left
      · (intro w' hSw; replace b0 := kept_cell hSw b0; replace b1 := kept_cell hSw b1; replace q7 := kept_cell hSw q7; replace q2 := kept_cell hSw q2; replace d2 := kept_cell hSw d2; go_simp; try with_reducible rfl)
      try simp only [Act.put, List.setIfInBounds_toArray, List.set_cons_zero, List.set_cons_succ]
      refine x_take (i := 2) (oi := { dst := some 63, op := Op.load 22 (Operand.tmp 62), type := 22, pos := "branch.go:317", after := #[{ on := 1, ground := Ground.data }], guard := none }) (v := ?_) rfl (by kernel_rfl) (by kernel_rfl) (by kernel_rfl) (by kernel_rfl) (by kernel_rfl) (fun _ _ _ h => h) (Or.inl ⟨rfl, ?_⟩) (by assumption) ?_
      rotate_left
      · (intro w' hSw; replace b0 := kept_cell hSw b0; replace b1 := kept_cell hSw b1; replace q7 := kept_cell hSw q7; replace q2 := kept_cell hSw q2; replace d2 := kept_cell hSw d2; go_simp; try with_reducible rfl)
      try simp only [Act.put, List.setIfInBounds_toArray, List.set_cons_zero, List.set_cons_succ]
      refine x_take (i := 3) (oi := { dst := some 64, op := Op.fieldAddr 102 (Operand.tmp 6) 0, type := 0, pos := "branch.go:317", after := #[], guard := none }) (v := ?_) rfl (by kernel_rfl) (by kernel_rfl) (by kernel_rfl) (by kernel_rfl) (by kernel_rfl) (fun _ _ _ h => h) (Or.inl ⟨rfl, ?_⟩) (by assumption) ?_
      rotate_left
      · (intro w' hSw; replace b0 := kept_cell hSw b0; replace b1 := kept_cell hSw b1; replace q7 := kept_cell hSw q7; replace q2 := kept_cell hSw q2; replace d2 := kept_cell hSw d2; go_simp; try with_reducible rfl)
      try simp only [Act.put, List.setIfInBounds_toArray, List.set_cons_zero, List.set_cons_succ]
      refine x_take (i := 4) (oi := { dst := some 65, op := Op.load 3 (Operand.tmp 64), type := 3, pos := "branch.go:317", after := #[{ on := 3, ground := Ground.data }], guard := none }) (v := ?_) rfl (by kernel_rfl) (by kernel_rfl) (by kernel_rfl) (by kernel_rfl) (by kernel_rfl) (fun _ _ _ h => h) (Or.inl ⟨rfl, ?_⟩) (by assumption) ?_
      rotate_left
      · (intro w' hSw; replace b0 := kept_cell hSw b0; replace b1 := kept_cell hSw b1; replace q7 := kept_cell hSw q7; replace q2 := kept_cell hSw q2; replace d2 := kept_cell hSw d2; go_simp; try with_reducible rfl)
      try simp only [Act.put, List.setIfInBounds_toArray, List.set_cons_zero, List.set_cons_succ]
      refine x_take (i := 5) (oi := { dst := some 66, op := Op.indexAddr 22 (Operand.tmp 63) (Operand.tmp 65), type := 0, pos := "branch.go:317", after := #[{ on := 2, ground := Ground.data }, { on := 4, ground := Ground.data }], guard := none }) (v := ?_) rfl (by kernel_rfl) (by kernel_rfl) (by kernel_rfl) (by kernel_rfl) (by kernel_rfl) (fun _ _ _ h => h) (Or.inl ⟨rfl, ?_⟩) (by assumption) ?_
      rotate_left
      · (intro w' hSw; replace b0 := kept_cell hSw b0; replace b1 := kept_cell hSw b1; replace q7 := kept_cell hSw q7; replace q2 := kept_cell hSw q2; replace d2 := kept_cell hSw d2; go_simp; try with_reducible rfl)
      try simp only [Act.put, List.setIfInBounds_toArray, List.set_cons_zero, List.set_cons_succ]
      refine x_take (i := 6) (oi := { dst := some 67, op := Op.fieldAddr 48 (Operand.tmp 66) 2, type := 0, pos := "branch.go:317", after := #[{ on := 5, ground := Ground.data }], guard := none }) (v := ?_) rfl (by kernel_rfl) (by kernel_rfl) (by kernel_rfl) (by kernel_rfl) (by kernel_rfl) (fun _ _ _ h => h) (Or.inl ⟨rfl, ?_⟩) (by assumption) ?_
      rotate_left
      · (intro w' hSw; replace b0 := kept_cell hSw b0; replace b1 := kept_cell hSw b1; replace q7 := kept_cell hSw q7; replace q2 := kept_cell hSw q2; replace d2 := kept_cell hSw d2; go_simp; try with_reducible rfl)
      try simp only [Act.put, List.setIfInBounds_toArray, List.set_cons_zero, List.set_cons_succ]
      refine x_take (i := 7) (oi := { dst := some 68, op := Op.load 3 (Operand.tmp 67), type := 3, pos := "branch.go:317", after := #[{ on := 6, ground := Ground.data }], guard := none }) (v := ?_) rfl (by kernel_rfl) (by kernel_rfl) (by kernel_rfl) (by kernel_rfl) (by kernel_rfl) (fun _ _ _ h => h) (Or.inl ⟨rfl, ?_⟩) (by assumption) ?_
      rotate_left
      · (intro w' hSw; replace b0 := kept_cell hSw b0; replace b1 := kept_cell hSw b1; replace q7 := kept_cell hSw q7; replace q2 := kept_cell hSw q2; replace d2 := kept_cell hSw d2; go_simp; try with_reducible rfl)
      try simp only [Act.put, List.setIfInBounds_toArray, List.set_cons_zero, List.set_cons_succ]
      refine x_take (i := 8) (oi := { dst := some 69, op := Op.fieldAddr 102 (Operand.tmp 6) 1, type := 0, pos := "branch.go:317", after := #[], guard := none }) (v := ?_) rfl (by kernel_rfl) (by kernel_rfl) (by kernel_rfl) (by kernel_rfl) (by kernel_rfl) (fun _ _ _ h => h) (Or.inl ⟨rfl, ?_⟩) (by assumption) ?_
      rotate_left
      · (intro w' hSw; replace b0 := kept_cell hSw b0; replace b1 := kept_cell hSw b1; replace q7 := kept_cell hSw q7; replace q2 := kept_cell hSw q2; replace d2 := kept_cell hSw d2; go_simp; try with_reducible rfl)
      try simp only [Act.put, List.setIfInBounds_toArray, List.set_cons_zero, List.set_cons_succ]
      refine x_take (i := 9) (oi := { dst := some 70, op := Op.load 3 (Operand.tmp 69), type := 3, pos := "branch.go:317", after := #[{ on := 8, ground := Ground.data }], guard := none }) (v := ?_) rfl (by kernel_rfl) (by kernel_rfl) (by kernel_rfl) (by kernel_rfl) (by kernel_rfl) (fun _ _ _ h => h) (Or.inl ⟨rfl, ?_⟩) (by assumption) ?_
      rotate_left
      · (intro w' hSw; replace b0 := kept_cell hSw b0; replace b1 := kept_cell hSw b1; replace q7 := kept_cell hSw q7; replace q2 := kept_cell hSw q2; replace d2 := kept_cell hSw d2; go_simp; try with_reducible rfl)
      try simp only [Act.put, List.setIfInBounds_toArray, List.set_cons_zero, List.set_cons_succ]
      refine x_take (i := 10) (oi := { dst := some 71, op := Op.binOp BinOp.add 3 (Operand.tmp 70) (Operand.const (Value.int IntKind.i64 1)) 3, type := 3, pos := "branch.go:317", after := #[{ on := 9, ground := Ground.data }], guard := none }) (v := ?_) rfl (by kernel_rfl) (by kernel_rfl) (by kernel_rfl) (by kernel_rfl) (by kernel_rfl) (fun _ _ _ h => h) (Or.inl ⟨rfl, ?_⟩) (by assumption) ?_
      rotate_left
      · (intro w' hSw; replace b0 := kept_cell hSw b0; replace b1 := kept_cell hSw b1; replace q7 := kept_cell hSw q7; replace q2 := kept_cell hSw q2; replace d2 := kept_cell hSw d2; go_simp; try with_reducible rfl)
      try simp only [Act.put, List.setIfInBounds_toArray, List.set_cons_zero, List.set_cons_succ]
      refine x_take (i := 11) (oi := { dst := some 72, op := Op.build 102 #[(0, Operand.tmp 68), (1, Operand.tmp 71)], type := 102, pos := "branch.go:317", after := #[{ on := 7, ground := Ground.data }, { on := 10, ground := Ground.data }], guard := none }) (v := ?_) rfl (by kernel_rfl) (by kernel_rfl) (by kernel_rfl) (by kernel_rfl) (by kernel_rfl) (fun _ _ _ h => h) (Or.inl ⟨rfl, ?_⟩) (by assumption) ?_
      rotate_left
      · (intro w' hSw; replace b0 := kept_cell hSw b0; replace b1 := kept_cell hSw b1; replace q7 := kept_cell hSw q7; replace q2 := kept_cell hSw q2; replace d2 := kept_cell hSw d2; go_simp; try with_reducible rfl)
      try simp only [Act.put, List.setIfInBounds_toArray, List.set_cons_zero, List.set_cons_succ]
      refine x_last (i := 12) (o := { dst := some 73, op := Op.call { callee := Callee.value (Operand.tmp 61), args := #[Operand.tmp 72], argTypes := #[102] }, type := 0, pos := "branch.go:317", after := #[{ on := 0, ground := Ground.data }, { on := 11, ground := Ground.data }], guard := none }) (by kernel_rfl) rfl (by simp) (fun K hK => ?_)
      (go_simp; go_at_call 85; (with_reducible refine (IH.out ⟨no l p.x.toNat, p.j + 1⟩ o2 v10 _ HV2.out HC.out.2 (.inr ⟨p, hm2, .inr HE1.out.symm⟩) (by dsimp only; omega) (by dsimp only; omega) (E10.kept hHeld)).mono ?_); rintro e w11 ⟨v11, rfl, E11, F11, L11⟩; try dsimp only)
      refine hK.out _ _ ?_
      clear hK K
      try simp only [Act.put, List.setIfInBounds_toArray, List.set_cons_zero, List.set_cons_succ]
      refine x_done (by kernel_rfl) ?_ _
      go_wp2_with fail
      go_end0
      exact ⟨v11, rfl, by rw [HVIS.out]; exact E11, frm_trans (frm_kept F4 (kept_drew (kept_refl _))) L4 F11, whr_trans L4 L11 (by have := F4.size; exact this)⟩
end Go.Proofs.Ytinpmdekdfgiiaa
