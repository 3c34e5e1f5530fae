/- Trees: what Parse calls; rows of its own. -/
import Derived.Test.YtikfeemmjfoffaaDoorW17
import Derived.Test.YtikfeemmjfoffaaDoorW16
import Derived.Lib.AtoiErrMem
set_option linter.unusedVariables false
set_option linter.unusedSimpArgs false
namespace Go.Proofs.YtikfeemmjfoffaaDoor
open Go.RowKit Go.Shelf

/-- What the library's variables hold. -/
structure LibOk (w : World) : Prop where
  c0 : ∃ te pe, w.cell? ⟨0, 0, none⟩ = some (.iface te pe)
  c1 : ∃ te pe, w.cell? ⟨1, 0, none⟩ = some (.iface te pe)
  c3 : ∃ m, w.cell? ⟨3, 0, none⟩ = some (.int .i64 m)
theorem LibOk.kept {w w' : World} (h : LibOk w) (k : Kept w w') : LibOk w' :=
  ⟨let ⟨a, b, e⟩ := h.c0; ⟨a, b, kept_cell k e⟩, let ⟨a, b, e⟩ := h.c1; ⟨a, b, kept_cell k e⟩, let ⟨m, e⟩ := h.c3; ⟨m, kept_cell k e⟩⟩

def SplitPost (s : ByteArray) (w : World) (e : Ending) (w' : World) : Prop :=
  ∃ ws : List ByteArray, ws.map (·.data.toList) = Lib.split s.data.toList [32] ∧ e = .returned (.slice (some ⟨w.heap.size, 0, none⟩) ws.length ws.length) ∧ Own w' w.heap.size 9 (ws.map .string) ∧ Kept w w' ∧ ws ≠ [] ∧ ws.length ≤ s.size + 1
theorem split34 (s : ByteArray) (hs : s.size ≤ 41000) (w : World) (h : LibOk w) : Calls Tryd.prog 34 #[.string s, .string ⟨#[32]⟩] w (SplitPost s w) := by
  obtain ⟨m, hm⟩ := h.c3
  refine (Tryd.strings_Split s ⟨#[32]⟩ m w (by omega) hm (by show 1 ≤ 1; omega)).mono fun e w' ⟨h1, h2⟩ => ?_
  have hl := Lib.splitB_all ⟨#[32]⟩ (by show 1 ≤ 1; omega) 0 _ s rfl
  have hc := Lib.countB_le ⟨#[32]⟩ (by show 1 ≤ 1; omega) s.size s (Nat.le_refl _)
  refine ⟨Lib.splitB ⟨#[32]⟩ 0 (Lib.countB s ⟨#[32]⟩) s, ?_, ?_, ?_, by rw [h2]; exact kept_alloc (kept_refl w) _, ?_, by rw [hl]; omega⟩
  · rw [Lib.splitB_data]; rfl
  · rw [h1, hl]
  · rw [h2]; exact Own.new w 9 _
  · intro h0; rw [h0] at hl; simp at hl
def AtoiPost (x : ByteArray) (w : World) (e : Ending) (w' : World) : Prop :=
  match Lib.atoiAll x.data.toList with
  | .ok v => e = .returned (.tuple #[.int .i64 v, .nilIface]) ∧ Kept w w'
  | _ => ∃ (N : Nat) (v : Int), e = .returned (.tuple #[.int .i64 v, .iface 108 (.pointer (some ⟨N, 0, none⟩))]) ∧ Kept w w'
theorem atoi35 (x : ByteArray) (hx : x.size ≤ 100000) (w : World) (h : LibOk w) : Calls Tryd.prog 35 #[.string x] w (AtoiPost x w) := by
  unfold AtoiPost
  rcases e : Lib.atoiAll x.data.toList with v | _ | _
  · refine (Tryd.strconv_Atoi_ok x (by omega) v e w).mono fun e w' ⟨h1, h2⟩ => ⟨h1, ?_⟩
    rcases h2 with h2 | ⟨t, h2⟩
    · rw [h2]; exact kept_refl w
    · rw [h2]; exact Lib.bytesWorld_below w 5 t
  · obtain ⟨te, pe, hc⟩ := h.c0
    exact (Tryd.strconv_Atoi_syntax x (by omega) e _ w hc (.inr ⟨te, pe, rfl⟩)).mono fun e w' ⟨N, h1, _, _, h4⟩ => ⟨N, 0, h1, h4⟩
  · obtain ⟨te, pe, hc⟩ := h.c1
    exact (Tryd.strconv_Atoi_range x (by omega) e _ w hc (.inr ⟨te, pe, rfl⟩)).mono fun e w' ⟨N, h1, _, _, h4⟩ => ⟨N, _, h1, h4⟩

/-- Blocks whose elements are ints stay as they are. -/
def Keep3 (w w' : World) : Prop := ∀ g cs, Own w g 3 cs → w'.heap[g]? = w.heap[g]?
theorem keep3_trans {a b c : World} (h : Keep3 a b) (k : Keep3 b c) : Keep3 a c := fun g cs o => (k g cs (o.of_block (h g cs o))).trans (h g cs o)
theorem keep3_kept {w w' : World} (k : Kept w w') : Keep3 w w' := fun g cs o => k.block g o.lt
theorem keep3_grown {w w' : World} {row : Option Nat} (k : w.grownBy w' row) (h : ∀ g, row = some g → ∃ e cs, e ≠ 3 ∧ Own w g e cs) : Keep3 w w' := fun g cs o => k.block g o.lt (by
  intro e
  obtain ⟨e', cs', ne, o'⟩ := h g e.symm
  exact ne (o'.type o))
theorem keep3_set {w : World} {g : Nat} {e : TypeId} {cs : List Value} (h : Own w g e cs) (ne : e ≠ 3) (j : Nat) (v : Value) : Keep3 w (w.setCell ⟨g, j, none⟩ v) := fun g' cs' o => Below.heap_setCell w ⟨g, j, none⟩ v g' (by
  intro e2
  have e3 : g' = g := e2
  subst e3
  exact ne (h.type o))
theorem row_type {w : World} {B sz n : Nat} {e : TypeId} {v : Value} {xs : List Value} (h : w.ownsRow B e sz v n xs) (g : Nat) (hg : v.ownBlock = some g) : ∃ cs, Own w g e cs := by
  rcases h.2 with ⟨rfl, _⟩ | ⟨g', cap, cur, rfl, _, hh, _⟩
  · simp [Value.ownBlock] at hg
  · simp only [Value.ownBlock, Option.some.injEq] at hg
    subst hg
    exact ⟨cur.toList, hh⟩

theorem rd_blk {w w' : World} {b off : Nat} {cs : List Value} (h : Rd w (some ⟨b, off, none⟩) cs) (k : w'.heap[b]? = w.heap[b]?) : Rd w' (some ⟨b, off, none⟩) cs :=
  ⟨fun _ => ⟨b, off, rfl, fun j u hj => by rw [World.cell?_of_block (a := ⟨b, off + j, none⟩) k]; exact h.at_some hj⟩⟩
theorem LS.keep {w w' : World} {B : Nat} {l : List Int} (h : LS w B l) (k : Keep3 w w') (hB : w'.heap[B]? = w.heap[B]?) : LS w' B l := by
  obtain ⟨b, off, c, o0, ⟨cs, ob⟩, hr, hc, hcm⟩ := h
  exact ⟨b, off, c, o0.of_block hB, ⟨cs, ob.of_block (k b cs ob)⟩, rd_blk hr (k b cs ob), hc, hcm⟩
theorem LS.lt {w : World} {B : Nat} {l : List Int} (h : LS w B l) : B < w.heap.size := by
  obtain ⟨b, off, c, o0, _⟩ := h
  exact o0.lt
theorem LS.kept {w w' : World} {B : Nat} {l : List Int} (h : LS w B l) (k : Kept w w') : LS w' B l := h.keep (keep3_kept k) (k.block B h.lt)
theorem LS.own {w : World} {B : Nat} {l : List Int} (h : LS w B l) : ∃ cs, Own w B 22 cs := by
  obtain ⟨b, off, c, o0, _⟩ := h
  exact ⟨_, o0⟩
theorem keep3_kb {w w' : World} {B : Nat} {l : List Int} (h : LS w B l) (k : KB B w w') : Keep3 w w' := keep3_grown k (fun g e => by
  injection e with e
  obtain ⟨cs, o⟩ := h.own
  exact ⟨22, cs, by decide, by rw [← e]; exact o⟩)
/-- A block laid, a row of slices that grows, a store into a struct: the rest stays. -/
theorem step_blk {w8 w9 : World} {o : Obj} {row : Option Nat} (hg : (w8.alloc o).grownBy w9 row) {b G j : Nat} (v : Value) (hb : b < w8.heap.size) (h1 : some b ≠ row) (h2 : b ≠ G) : (w9.setCell ⟨G, j, none⟩ v).heap[b]? = w8.heap[b]? :=
  ((Below.heap_setCell w9 ⟨G, j, none⟩ v b h2).trans (hg.block b (by simp; omega) h1)).trans ((kept_alloc (kept_refl w8) o).block b hb)
theorem step_keep3 {w8 w9 : World} {o : Obj} {u : Value} {B sz n : Nat} {xs : List Value} (hr : (w8.alloc o).ownsRow B 22 sz u n xs) (hg : (w8.alloc o).grownBy w9 u.ownBlock) {G j : Nat} {cs : List Value} (oG : Own w9 G 25 cs) (v : Value) : Keep3 w8 (w9.setCell ⟨G, j, none⟩ v) :=
  keep3_trans (keep3_kept (kept_alloc (kept_refl w8) o)) (keep3_trans (keep3_grown hg (fun g e => by obtain ⟨cs, o⟩ := row_type hr g e; exact ⟨22, cs, by decide, o⟩)) (keep3_set oG (by decide) j v))
/-- A row of ints of the call's own. -/
def RO (w : World) (v : Value) (l : List Int) : Prop := ∃ A c, v = .slice A l.length c ∧ (l ≠ [] → ∃ g rest, A = some ⟨g, 0, none⟩ ∧ Own w g 3 (ints l ++ rest))
theorem ro_row {w : World} {B : Nat} {v : Value} {l : List Int} (h : w.ownsRow B 3 1 v l.length (ints l)) : RO w v l := by
  by_cases h0 : l = []
  · obtain ⟨A, c, rfl, _⟩ := row_form h
    exact ⟨A, c, rfl, fun hn => absurd h0 hn⟩
  · obtain ⟨g, cap, rest, rfl, _, og, _⟩ := row_own h (by intro h1; exact h0 (List.eq_nil_of_length_eq_zero h1))
    exact ⟨_, _, rfl, fun _ => ⟨g, rest, rfl, og⟩⟩
theorem RO.keep {w w' : World} {v : Value} {l : List Int} (h : RO w v l) (k : Keep3 w w') : RO w' v l := by
  obtain ⟨A, c, e, h1⟩ := h
  exact ⟨A, c, e, fun hn => let ⟨g, rest, e1, o⟩ := h1 hn; ⟨g, rest, e1, o.of_block (k g _ o)⟩⟩
theorem RO.rd {w : World} {A : Option Addr} {n c : Nat} {l : List Int} (h : RO w (.slice A n c) l) : Rd w A (ints l) ∧ n = l.length := by
  obtain ⟨A', c', e, h1⟩ := h
  injection e with e1 e2 e3
  subst e1
  refine ⟨⟨fun hn => ?_⟩, e2⟩
  obtain ⟨g, rest, e4, o⟩ := h1 (by intro h0; apply hn; rw [h0]; rfl)
  refine ⟨g, 0, e4, fun j v hj => ?_⟩
  rw [Nat.zero_add]
  refine o.cell ?_
  rw [List.getElem?_append_left (List.getElem?_eq_some_iff.1 hj).1]
  exact hj
/-- Rows of ints of the call's own, in a row. -/
def RVO (w : World) (vals : List Value) (ls : List (List Int)) : Prop := vals.length = ls.length ∧ ∀ j, j < ls.length → ∃ v, vals[j]? = some v ∧ RO w v (ls.getD j [])
theorem RVO.keep {w w' : World} {vals : List Value} {ls : List (List Int)} (h : RVO w vals ls) (k : Keep3 w w') : RVO w' vals ls := ⟨h.1, fun j hj => let ⟨v, e, r⟩ := h.2 j hj; ⟨v, e, r.keep k⟩⟩
theorem RVO.snoc {w : World} {vals : List Value} {ls : List (List Int)} {v : Value} {l : List Int} (h : RVO w vals ls) (r : RO w v l) : RVO w (vals ++ [v]) (ls ++ [l]) :=
  ⟨by simp [h.1], fun j hj => by
    by_cases hlt : j < ls.length
    · obtain ⟨u, e, ru⟩ := h.2 j hlt
      refine ⟨u, by rw [List.getElem?_append_left (by rw [h.1]; exact hlt)]; exact e, ?_⟩
      rw [List.getD_eq_getElem?_getD, List.getElem?_append_left hlt, ← List.getD_eq_getElem?_getD]
      exact ru
    · have : j = ls.length := by simp at hj; omega
      subst this
      exact ⟨v, by rw [← h.1]; simp, by simpa [List.getD_eq_getElem?_getD] using r⟩⟩
theorem RVO.rv {w : World} {vals : List Value} {ls : List (List Int)} (h : RVO w vals ls) (hl : ∀ l ∈ ls, l.length ≤ 140737488355328) : RV w vals ls := ⟨h.1, fun j hj => by
  obtain ⟨v, e, r⟩ := h.2 j hj
  have r' := r
  obtain ⟨A, c, ev, _⟩ := r
  subst ev
  exact ⟨A, c, e, (r'.rd).1, hl _ (getD_mem hj)⟩⟩
theorem chop_snoc : ∀ (m k : Nat) (l : List Int), chop m (k + 1) l = chop m k l ++ [(l.drop (k * m)).take m]
  | m, 0, l => by simp [chop]
  | m, k + 1, l => by
    rw [chop, chop_snoc m k (l.drop m), chop, List.drop_drop, Nat.add_mul, Nat.one_mul, Nat.add_comm m]
    rfl
theorem chop_small (m : Nat) : ∀ (k : Nat) (l : List Int), ∀ x ∈ chop m k l, x.length ≤ m
  | 0, _, x, h => by simp [chop] at h
  | k + 1, l, x, h => by
    rw [chop] at h
    rcases List.mem_cons.1 h with rfl | h
    · simp; omega
    · exact chop_small m k _ x h
end Go.Proofs.YtikfeemmjfoffaaDoor
