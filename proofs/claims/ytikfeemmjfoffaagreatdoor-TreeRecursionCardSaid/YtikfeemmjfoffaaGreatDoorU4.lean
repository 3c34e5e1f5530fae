/- Joined: W18, W19, W20. -/
import Derived.Test.YtikfeemmjfoffaaGreatDoorU3
import Derived.Lib.AtoiErrMem
import Derived.Test.YtikfeemmjfoffaaGreatDoorPJ
/- Trees: what Parse calls; rows of its own. -/
set_option linter.unusedVariables false
set_option linter.unusedSimpArgs false
namespace Go.Proofs.YtikfeemmjfoffaaGreatDoor
open Go.RowKit Go.Shelf

/-- What the library's variables hold. -/
structure LibOk (w : World) : Prop where
  c0 : ∃ te pe, w.cell? ⟨0, 0, none⟩ = some (.iface te pe)
  c1 : ∃ te pe, w.cell? ⟨1, 0, none⟩ = some (.iface te pe)
  c3 : ∃ m, w.cell? ⟨2, 0, none⟩ = some (.int .i64 m)
theorem LibOk.kept {w w' : World} (h : LibOk w) (k : Kept w w') : LibOk w' :=
  ⟨let ⟨a, b, e⟩ := h.c0; ⟨a, b, kept_cell k e⟩, let ⟨a, b, e⟩ := h.c1; ⟨a, b, kept_cell k e⟩, let ⟨m, e⟩ := h.c3; ⟨m, kept_cell k e⟩⟩

def SplitPost (s : ByteArray) (w : World) (e : Ending) (w' : World) : Prop :=
  ∃ ws : List ByteArray, ws.map (·.data.toList) = Lib.split s.data.toList [32] ∧ e = .returned (.slice (some ⟨w.heap.size, 0, none⟩) ws.length ws.length) ∧ Own w' w.heap.size 9 (ws.map .string) ∧ Kept w w' ∧ ws ≠ [] ∧ ws.length ≤ s.size + 1
theorem split34 (s : ByteArray) (hs : s.size ≤ 41000) (w : World) (h : LibOk w) : Calls Tryz.prog 58 #[.string s, .string ⟨#[32]⟩] w (SplitPost s w) := by
  obtain ⟨m, hm⟩ := h.c3
  refine (Tryz.strings_Split s ⟨#[32]⟩ m w (by omega) hm (by show 1 ≤ 1; omega)).mono fun e w' ⟨h1, h2⟩ => ?_
  have hl := Lib.splitB_all ⟨#[32]⟩ (by show 1 ≤ 1; omega) 0 _ s rfl
  have hc := Lib.countB_le ⟨#[32]⟩ (by show 1 ≤ 1; omega) s.size s (Nat.le_refl _)
  refine ⟨Lib.splitB ⟨#[32]⟩ 0 (Lib.countB s ⟨#[32]⟩) s, ?_, ?_, ?_, by rw [h2]; exact kept_alloc (kept_refl w) _, ?_, by rw [hl]; omega⟩
  · rw [Lib.splitB_data]; rfl
  · rw [h1, hl]
  · rw [h2]; exact Own.new w 9 _
  · intro h0; rw [h0] at hl; simp at hl
def AtoiPost (x : ByteArray) (w : World) (e : Ending) (w' : World) : Prop :=
  match Lib.atoiAll x.data.toList with
  | .ok v => e = .returned (.tuple #[.int .i64 v, .nilIface]) ∧ Kept w w'
  | _ => ∃ (N : Nat) (v : Int), e = .returned (.tuple #[.int .i64 v, .iface 153 (.pointer (some ⟨N, 0, none⟩))]) ∧ Kept w w'
theorem atoi35 (x : ByteArray) (hx : x.size ≤ 100000) (w : World) (h : LibOk w) : Calls Tryz.prog 59 #[.string x] w (AtoiPost x w) := by
  unfold AtoiPost
  rcases e : Lib.atoiAll x.data.toList with v | _ | _
  · refine (Tryz.strconv_Atoi_ok x (by omega) v e w).mono fun e w' ⟨h1, h2⟩ => ⟨h1, ?_⟩
    rcases h2 with h2 | ⟨t, h2⟩
    · rw [h2]; exact kept_refl w
    · rw [h2]; exact Lib.bytesWorld_below w 5 t
  · obtain ⟨te, pe, hc⟩ := h.c0
    exact (Tryz.strconv_Atoi_syntax x (by omega) e _ w hc (.inr ⟨te, pe, rfl⟩)).mono fun e w' ⟨N, h1, _, _, h4⟩ => ⟨N, 0, h1, h4⟩
  · obtain ⟨te, pe, hc⟩ := h.c1
    exact (Tryz.strconv_Atoi_range x (by omega) e _ w hc (.inr ⟨te, pe, rfl⟩)).mono fun e w' ⟨N, h1, _, _, h4⟩ => ⟨N, _, h1, h4⟩

/-- Blocks whose elements are ints stay as they are. -/
def Keep3 (w w' : World) : Prop := ∀ g cs, Own w g 3 cs → w'.heap[g]? = w.heap[g]?
theorem keep3_trans {a b c : World} (h : Keep3 a b) (k : Keep3 b c) : Keep3 a c := fun g cs o => (k g cs (o.of_block (h g cs o))).trans (h g cs o)
theorem keep3_kept {w w' : World} (k : Kept w w') : Keep3 w w' := fun g cs o => k.block g o.lt
theorem keep3_grown {w w' : World} {row : Option Nat} (k : w.grownBy w' row) (h : ∀ g, row = some g → ∃ e cs, e ≠ 3 ∧ Own w g e cs) : Keep3 w w' := fun g cs o => k.block g o.lt (by
  intro e
  obtain ⟨e', cs', ne, o'⟩ := h g e.symm
  exact ne (o'.type o))
theorem keep3_set {w : World} {g : Nat} {e : TypeId} {cs : List Value} (h : Own w g e cs) (ne : e ≠ 3) (j : Nat) (v : Value) : Keep3 w (w.setCell ⟨g, j, none⟩ v) := fun g' cs' o => Below.heap_setCell w ⟨g, j, none⟩ v g' (by
  intro e2
  have e3 : g' = g := e2
  subst e3
  exact ne (h.type o))
theorem row_type {w : World} {B sz n : Nat} {e : TypeId} {v : Value} {xs : List Value} (h : w.ownsRow B e sz v n xs) (g : Nat) (hg : v.ownBlock = some g) : ∃ cs, Own w g e cs := by
  rcases h.2 with ⟨rfl, _⟩ | ⟨g', cap, cur, rfl, _, hh, _⟩
  · simp [Value.ownBlock] at hg
  · simp only [Value.ownBlock, Option.some.injEq] at hg
    subst hg
    exact ⟨cur.toList, hh⟩

theorem rd_blk {w w' : World} {b off : Nat} {cs : List Value} (h : Rd w (some ⟨b, off, none⟩) cs) (k : w'.heap[b]? = w.heap[b]?) : Rd w' (some ⟨b, off, none⟩) cs :=
  ⟨fun _ => ⟨b, off, rfl, fun j u hj => by rw [World.cell?_of_block (a := ⟨b, off + j, none⟩) k]; exact h.at_some hj⟩⟩
theorem LS.keep {w w' : World} {B : Nat} {l : List Int} (h : LS w B l) (k : Keep3 w w') (hB : w'.heap[B]? = w.heap[B]?) : LS w' B l := by
  obtain ⟨b, off, c, o0, ⟨cs, ob⟩, hr, hc, hcm⟩ := h
  exact ⟨b, off, c, o0.of_block hB, ⟨cs, ob.of_block (k b cs ob)⟩, rd_blk hr (k b cs ob), hc, hcm⟩
theorem LS.lt {w : World} {B : Nat} {l : List Int} (h : LS w B l) : B < w.heap.size := by
  obtain ⟨b, off, c, o0, _⟩ := h
  exact o0.lt
theorem LS.kept {w w' : World} {B : Nat} {l : List Int} (h : LS w B l) (k : Kept w w') : LS w' B l := h.keep (keep3_kept k) (k.block B h.lt)
theorem LS.own {w : World} {B : Nat} {l : List Int} (h : LS w B l) : ∃ cs, Own w B 24 cs := by
  obtain ⟨b, off, c, o0, _⟩ := h
  exact ⟨_, o0⟩
theorem keep3_kb {w w' : World} {B : Nat} {l : List Int} (h : LS w B l) (k : KB B w w') : Keep3 w w' := keep3_grown k (fun g e => by
  injection e with e
  obtain ⟨cs, o⟩ := h.own
  exact ⟨24, cs, by decide, by rw [← e]; exact o⟩)
/-- A block laid, a row of slices that grows, a store into a struct: the rest stays. -/
theorem step_blk {w8 w9 : World} {o : Obj} {row : Option Nat} (hg : (w8.alloc o).grownBy w9 row) {b G j : Nat} (v : Value) (hb : b < w8.heap.size) (h1 : some b ≠ row) (h2 : b ≠ G) : (w9.setCell ⟨G, j, none⟩ v).heap[b]? = w8.heap[b]? :=
  ((Below.heap_setCell w9 ⟨G, j, none⟩ v b h2).trans (hg.block b (by simp; omega) h1)).trans ((kept_alloc (kept_refl w8) o).block b hb)
theorem step_keep3 {w8 w9 : World} {o : Obj} {u : Value} {B sz n : Nat} {xs : List Value} (hr : (w8.alloc o).ownsRow B 24 sz u n xs) (hg : (w8.alloc o).grownBy w9 u.ownBlock) {G j : Nat} {cs : List Value} (oG : Own w9 G 27 cs) (v : Value) : Keep3 w8 (w9.setCell ⟨G, j, none⟩ v) :=
  keep3_trans (keep3_kept (kept_alloc (kept_refl w8) o)) (keep3_trans (keep3_grown hg (fun g e => by obtain ⟨cs, o⟩ := row_type hr g e; exact ⟨24, cs, by decide, o⟩)) (keep3_set oG (by decide) j v))
/-- A row of ints of the call's own. -/
def RO (w : World) (v : Value) (l : List Int) : Prop := ∃ A c, v = .slice A l.length c ∧ (l ≠ [] → ∃ g rest, A = some ⟨g, 0, none⟩ ∧ Own w g 3 (ints l ++ rest))
theorem ro_row {w : World} {B : Nat} {v : Value} {l : List Int} (h : w.ownsRow B 3 1 v l.length (ints l)) : RO w v l := by
  by_cases h0 : l = []
  · obtain ⟨A, c, rfl, _⟩ := row_form h
    exact ⟨A, c, rfl, fun hn => absurd h0 hn⟩
  · obtain ⟨g, cap, rest, rfl, _, og, _⟩ := row_own h (by intro h1; exact h0 (List.eq_nil_of_length_eq_zero h1))
    exact ⟨_, _, rfl, fun _ => ⟨g, rest, rfl, og⟩⟩
theorem RO.keep {w w' : World} {v : Value} {l : List Int} (h : RO w v l) (k : Keep3 w w') : RO w' v l := by
  obtain ⟨A, c, e, h1⟩ := h
  exact ⟨A, c, e, fun hn => let ⟨g, rest, e1, o⟩ := h1 hn; ⟨g, rest, e1, o.of_block (k g _ o)⟩⟩
theorem RO.rd {w : World} {A : Option Addr} {n c : Nat} {l : List Int} (h : RO w (.slice A n c) l) : Rd w A (ints l) ∧ n = l.length := by
  obtain ⟨A', c', e, h1⟩ := h
  injection e with e1 e2 e3
  subst e1
  refine ⟨⟨fun hn => ?_⟩, e2⟩
  obtain ⟨g, rest, e4, o⟩ := h1 (by intro h0; apply hn; rw [h0]; rfl)
  refine ⟨g, 0, e4, fun j v hj => ?_⟩
  rw [Nat.zero_add]
  refine o.cell ?_
  rw [List.getElem?_append_left (List.getElem?_eq_some_iff.1 hj).1]
  exact hj
/-- Rows of ints of the call's own, in a row. -/
def RVO (w : World) (vals : List Value) (ls : List (List Int)) : Prop := vals.length = ls.length ∧ ∀ j, j < ls.length → ∃ v, vals[j]? = some v ∧ RO w v (ls.getD j [])
theorem RVO.keep {w w' : World} {vals : List Value} {ls : List (List Int)} (h : RVO w vals ls) (k : Keep3 w w') : RVO w' vals ls := ⟨h.1, fun j hj => let ⟨v, e, r⟩ := h.2 j hj; ⟨v, e, r.keep k⟩⟩
theorem RVO.snoc {w : World} {vals : List Value} {ls : List (List Int)} {v : Value} {l : List Int} (h : RVO w vals ls) (r : RO w v l) : RVO w (vals ++ [v]) (ls ++ [l]) :=
  ⟨by simp [h.1], fun j hj => by
    by_cases hlt : j < ls.length
    · obtain ⟨u, e, ru⟩ := h.2 j hlt
      refine ⟨u, by rw [List.getElem?_append_left (by rw [h.1]; exact hlt)]; exact e, ?_⟩
      rw [List.getD_eq_getElem?_getD, List.getElem?_append_left hlt, ← List.getD_eq_getElem?_getD]
      exact ru
    · have : j = ls.length := by simp at hj; omega
      subst this
      exact ⟨v, by rw [← h.1]; simp, by simpa [List.getD_eq_getElem?_getD] using r⟩⟩
theorem RVO.rv {w : World} {vals : List Value} {ls : List (List Int)} (h : RVO w vals ls) (hl : ∀ l ∈ ls, l.length ≤ 140737488355328) : RV w vals ls := ⟨h.1, fun j hj => by
  obtain ⟨v, e, r⟩ := h.2 j hj
  have r' := r
  obtain ⟨A, c, ev, _⟩ := r
  subst ev
  exact ⟨A, c, e, (r'.rd).1, hl _ (getD_mem hj)⟩⟩
theorem chop_snoc : ∀ (m k : Nat) (l : List Int), chop m (k + 1) l = chop m k l ++ [(l.drop (k * m)).take m]
  | m, 0, l => by simp [chop]
  | m, k + 1, l => by
    rw [chop, chop_snoc m k (l.drop m), chop, List.drop_drop, Nat.add_mul, Nat.one_mul, Nat.add_comm m]
    rfl
theorem chop_small (m : Nat) : ∀ (k : Nat) (l : List Int), ∀ x ∈ chop m k l, x.length ≤ m
  | 0, _, x, h => by simp [chop] at h
  | k + 1, l, x, h => by
    rw [chop] at h
    rcases List.mem_cons.1 h with rfl | h
    · simp; omega
    · exact chop_small m k _ x h
end Go.Proofs.YtikfeemmjfoffaaGreatDoor

/- Trees: Parse (the program). -/
set_option linter.unusedVariables false
set_option linter.unusedSimpArgs false
namespace Go.Proofs.YtikfeemmjfoffaaGreatDoor
open Go.RowKit Go.Shelf

def PParsePost (s : ByteArray) (w : World) (e : Ending) (w' : World) : Prop :=
  match parseP s.data.toList with
  | none => e = .returned (.tuple #[.agg #[.int .i64 0, .int .i64 0, .slice none 0 0, .slice none 0 0], .int .i64 3]) ∧ Kept w w'
  | some t => ∃ A c T d, e = .returned (.tuple #[trV t A c T d, .int .i64 0]) ∧ Rd w' A (ints t.lv) ∧ RT w' T t.tb ∧ Kept w w'
theorem pp_none {s : ByteArray} {w w' : World} (hp : parseP s.data.toList = none) (k : Kept w w') : PParsePost s w (.returned (.tuple #[.agg #[.int .i64 0, .int .i64 0, .slice none 0 0, .slice none 0 0], .int .i64 3])) w' := by
  unfold PParsePost; rw [hp]; exact ⟨rfl, k⟩
theorem pp_some {s : ByteArray} {w w' : World} {e : Ending} {t : Tr} {A T : Option Addr} {c d : Nat} (hp : parseP s.data.toList = some t) (he : e = .returned (.tuple #[trV t A c T d, .int .i64 0])) (h1 : Rd w' A (ints t.lv)) (h2 : RT w' T t.tb) (k : Kept w w') : PParsePost s w e w' := by
  unfold PParsePost; rw [hp]; exact ⟨A, c, T, d, he, h1, h2, k⟩
theorem parseP_long {s : List UInt8} (h : 40000 < s.length) : parseP s = none := by unfold parseP; rw [if_pos h]
theorem parseP_words {s : List UInt8} (h : wordsN (Lib.split s [32]) = none) : parseP s = none := by
  unfold parseP; rw [h]; split <;> rfl
theorem parseP_out {s : List UInt8} {l : List Int} (hs : ¬ 40000 < s.length) (h : wordsN (Lib.split s [32]) = some l) : parseP s =
    if l.length < 2 ∨ ia l 0 < 0 ∨ 6 < ia l 0 ∨ ia l 1 < 1 ∨ 6 < ia l 1 then none else if validT (ofNums l) = true ∧ (textT (ofNums l)).length ≤ 40000 ∧ textT (ofNums l) = s then some (ofNums l) else none := by
  unfold parseP; rw [if_neg hs, h]; rfl

set_option maxRecDepth 100000 in
set_option maxHeartbeats 1000000 in
theorem parse13_long (s : ByteArray) (hs : 40000 < s.size) (w : World) : Calls Tryz.prog 25 #[.string s] w (PParsePost s w) := by
  have K0 := kept_alloc (kept_refl w) (.cells #[.int .i64 0, .int .i64 0, .slice none 0 0, .slice none 0 0] 27)
  have O0 := Own.new w 27 [.int .i64 0, .int .i64 0, .slice none 0 0, .slice none 0 0]
  have d1 : decide (40000 < s.size) = true := decide_eq_true hs
  have d2 : decide ((40000 : Int) < (s.size : Int)) = true := decide_eq_true (by omega)
  have HP := Lib.hid (parseP_long (s := s.data.toList) (by simpa using hs))
  clear hs
  go_enter Tryz.func25, Tryz.ntmps25
  go_wp2_with fail
  exact bodyPost_ret (v := .tuple #[.agg #[.int .i64 0, .int .i64 0, .slice none 0 0, .slice none 0 0], .int .i64 3]) (by simp [results, Tryz.results13, go_sem]) rfl (pp_none HP.out K0)

theorem treeT (l : List Int) (hn bn m2 N M : Nat) (e0 : ia l 0 = hn) (e1 : ia l 1 = bn) (hN : N = 2 ^ hn) (hm2 : m2 = 2 * bn) (hM : M = 2 ^ m2) (hN1 : 1 ≤ N) :
    (ofNums l).h = hn ∧ (ofNums l).b = bn ∧ (ofNums l).lv = (l.drop 2).take N ∧ (ofNums l).tb = chop M (N - 1) ((l.drop 2).drop N) := by
  have p1 : pw (hn : Int) = N := by rw [hN]; simp [pw]
  have p2 : pw (2 * (bn : Int)) = M := by rw [hM, hm2]; unfold pw; congr 1
  have g0 : l.getD 0 0 = (hn : Int) := e0
  have g1 : l.getD 1 0 = (bn : Int) := e1
  refine ⟨g0, g1, ?_, ?_⟩
  · show (l.drop 2).take (pw (l.getD 0 0)) = _; rw [g0, p1]
  · show chop (pw (2 * l.getD 1 0)) (pw (l.getD 0 0) - 1) ((l.drop 2).drop (pw (l.getD 0 0))) = _; rw [g0, g1, p1, p2]
theorem chop_start {m : Nat} (l : List Int) : chop m 0 l = [] := rfl
theorem keep3_set4 {w : World} {g : Nat} {e : TypeId} {x0 x1 x2 x3 : Value} (h : Own w g e [x0, x1, x2, x3]) (ne : e ≠ 3) (a b c d : Value) : Keep3 w (set4 w g a b c d) :=
  keep3_trans (keep3_set h ne 0 a) (keep3_trans (keep3_set (h.set 0 a) ne 1 b) (keep3_trans (keep3_set ((h.set 0 a).set 1 b) ne 2 c) (keep3_set (((h.set 0 a).set 1 b).set 2 c) ne 3 d)))
theorem sfacts {hn bn m2 N M : Nat} (hN : N = 2 ^ hn) (hm2 : m2 = 2 * bn) (hM : M = 2 ^ m2) (h1 : N ≤ 1000000000) (h2 : m2 ≤ 1000000000) (h3 : M ≤ 1000000000) (h4 : hn ≤ 64) (h5 : m2 ≤ 64) :
    (2 : Int) ^ hn = (N : Int) ∧ IntKind.i64.wrap (N : Int) = (N : Int) ∧ min hn 64 = hn ∧ IntKind.i64.wrap (2 * (bn : Int)) = (m2 : Int) ∧ (2 : Int) ^ m2 = (M : Int) ∧ IntKind.i64.wrap (M : Int) = (M : Int) ∧ min m2 64 = m2 :=
  ⟨by rw [hN]; simp, iw_nat h1, Nat.min_eq_left h4, (w_two hm2.symm h2).2, by rw [hM]; simp, iw_nat h3, Nat.min_eq_left h5⟩
theorem kept_kb {B : Nat} {w0 w w' : World} (hK : Kept w0 w) (h : KB B w w') (hg : w0.heap.size ≤ B) : Kept w0 w' := hK.grown h hK.size (fun k e => by cases e; exact hg)
theorem ia_take {l : List Int} {m j : Nat} (h : j < m) : ia (l.take m) j = ia l j := by
  unfold ia
  rw [List.getD_eq_getElem?_getD, List.getD_eq_getElem?_getD, List.getElem?_take_of_lt h]
theorem wsz {s : ByteArray} {ws : List ByteArray} (hs : s.size ≤ 41000) (h : ws.map (·.data.toList) = Lib.split s.data.toList [32]) : ∀ x ∈ ws, x.size ≤ 100000 := by
  intro x hx
  have h1 : x.data.toList ∈ Lib.split s.data.toList [32] := by rw [← h]; exact List.mem_map_of_mem hx
  have h2 := split_small (s := s.data.toList) x.data.toList h1
  simp at h2
  omega
set_option maxRecDepth 100000 in
set_option maxHeartbeats 8000000 in
theorem parse13_any (s : ByteArray) (hs : s.size ≤ 40000) (w : World) (hlib : LibOk w) : Calls Tryz.prog 25 #[.string s] w (PParsePost s w) := by
  have d1 : decide (40000 < s.size) = false := decide_eq_false (by omega)
  have d2 : decide ((40000 : Int) < (s.size : Int)) = false := decide_eq_false (by omega)
  have O0 := (Own.new w 27 [.int .i64 0, .int .i64 0, .slice none 0 0, .slice none 0 0]).alloc (.cells #[.slice none 0 0] 24)
  obtain ⟨W0, hW0⟩ : ∃ x, x = (w.alloc (.cells #[.int .i64 0, .int .i64 0, .slice none 0 0, .slice none 0 0] 27)).alloc (.cells #[.slice none 0 0] 24) := ⟨_, rfl⟩
  have K0 : Kept w W0 := by rw [hW0]; exact kept_alloc (kept_alloc (kept_refl w) _) _
  have OB : Own W0 (w.heap.size + 1) 24 [.slice none 0 0] := by
    rw [hW0]
    have := Own.new (w.alloc (.cells #[.int .i64 0, .int .i64 0, .slice none 0 0, .slice none 0 0] 27)) 24 [.slice none 0 0]
    simpa using this
  rw [← hW0] at O0
  have HL := Lib.hid hlib
  have CS := Lib.hid (split34 s (by omega) W0 (hlib.kept K0))
  have HW := Lib.hid hW0
  clear hlib hW0
  go_enter Tryz.func25, Tryz.ntmps25
  go_wp2_with (go_at_call 58; rw [← HW.out]; ((with_reducible refine CS.out.mono ?_); rintro e w1 ⟨ws, hws, rfl, ow, k1, hne, hwl⟩))
  have kw := kept_trans K0 k1
  have oB := OB.kept k1
  have oR := O0.kept k1
  have zz : W0.heap.size = w.heap.size + 2 := by rw [HW.out]; simp
  rw [zz] at ow ⊢
  obtain ⟨n, hn⟩ : ∃ n, n = ws.length := ⟨_, rfl⟩
  rw [← hn] at hwl ⊢
  have hn1 : 1 ≤ n := by rw [hn]; exact List.length_pos_iff.2 hne
  have HWS := Lib.hid hws
  have HN := Lib.hid hn
  have HSZ := Lib.hid (wsz (by omega) hws)
  clear OB O0 K0 k1 hws hne hn zz
  go_loopg [21] n (fun g' s21 wr => ∃ (k : Nat) (v : Value) (l : List Int), k ≤ n ∧ g' = n - k ∧ s21 = .int .i64 k ∧ l.length = k ∧ Words (ws.map (·.data.toList)) k l ∧ Own wr (w.heap.size + 1) 24 [v] ∧ wr.ownsRow (w.heap.size + 3) 3 1 v k (ints l) ∧ Own wr (w.heap.size + 2) 9 (ws.map .string) ∧ Own wr w.heap.size 27 [.int .i64 0, .int .i64 0, .slice none 0 0, .slice none 0 0] ∧ Kept w wr)
  case atStart => exact ⟨0, _, [], by omega, by omega, rfl, rfl, words_start _, oB, World.ownsRow_nil _ _ _ _, ow, oR, kw⟩
  case round =>
    clear oB ow oR kw
    obtain ⟨k, v, l, hk, rfl, rfl, hlk, hW, oB, hr, ow, oR, kw⟩ := hrel
    have HWk := Lib.hid hW; clear hW
    by_cases hlt : k < n
    · have hlt2 : k < ws.length := by have := HN.out; omega
      have hlt3 : k < (ws.map (·.data.toList)).length := by simpa using hlt2
      obtain ⟨x, hx⟩ : ∃ x, x = ws[k] := ⟨_, rfl⟩
      have a0 : wr.cell? ⟨w.heap.size + 2, k, none⟩ = some (.string x) := ow.cell (by rw [List.getElem?_map, List.getElem?_eq_getElem hlt2, hx]; rfl)
      have hxl : (ws.map (·.data.toList))[k] = x.data.toList := by rw [hx]; simp
      have CA := fun w' kk => atoi35 x (by rw [hx]; exact HSZ.out _ (List.getElem_mem hlt2)) w' (HL.out.kept kk)
      have p0 := oB.cell (j := 0) rfl
      unfold AtoiPost at CA
      have HX := Lib.hid hxl
      clear hx hxl
      have sz : w.heap.size + 3 ≤ wr.heap.size := ow.lt
      rcases e : Lib.atoiAll x.data.toList with y | _ | _
      · simp only [e] at CA
        have hW2 := words_next HWk.out hlt3 (v := y) (by rw [HX.out]; exact e)
        have HW2 := Lib.hid hW2
        have HA := Lib.hid CA
        clear hW2 CA e
        go_wp2_with (first | (go_at_call 59; ((with_reducible refine (HA.out _ kw).mono ?_); rintro e w3 ⟨rfl, k3⟩; have oB3 := oB.kept k3; replace p0 := oB3.cell (j := 0) rfl; have hr3 := row_kept hr k3; have kw3 := kept_trans kw k3)) | (at_builtin; refine app_int (w.heap.size + 3) rfl (.tmp 33) (.tmp 35) 24 3 rfl Tryz.underlying24 info3W v k l y rfl rfl hr3 (by have := k3.size; omega) (by omega) ?_; intro v4 w4 hr4 hg4 hat4; have kw4 : Kept w w4 := kept_grown kw3 hr3 (by omega) hg4; have oB4 := oB3.grown hg4 (by intro h; have := (hr3.lt _ h.symm).1; omega); have p4 := oB4.cell (j := 0) rfl; have f4 := oB4.frozen 0; have ow4 := (ow.kept k3).grown hg4 (by intro h; have := (hr3.lt _ h.symm).1; omega); have oR4 := (oR.kept k3).grown hg4 (by intro h; have := (hr3.lt _ h.symm).1; omega); obtain ⟨A4, c4, rfl, hr5⟩ := row_form hr4; clear hr4 hg4 hat4 oB3 hr3 k3 p0))
        have oB5 := oB4.set 0 (.slice A4 (k + 1) c4)
        have hr6 := ownsRow_setCell_below hr5 (a := ⟨w.heap.size + 1, 0, none⟩) (by show w.heap.size + 1 < w.heap.size + 3; omega) (.slice A4 (k + 1) c4)
        have ow5 := ow4.other (a := ⟨w.heap.size + 1, 0, none⟩) (by show w.heap.size + 2 ≠ w.heap.size + 1; omega) (.slice A4 (k + 1) c4)
        have oR5 := oR4.other (a := ⟨w.heap.size + 1, 0, none⟩) (by show w.heap.size ≠ w.heap.size + 1; omega) (.slice A4 (k + 1) c4)
        have kw5 := kept_set (g := w.heap.size + 1) (j := 0) kw4 (by omega) (.slice A4 (k + 1) c4)
        clear oB4 hr5 ow4 oR4 kw4 p4 f4 oB hr ow oR
        go_wp2_with fail
        go_roundg (n - (k + 1))
        case rel => exact ⟨k + 1, _, l ++ [y], by omega, rfl, by go_num, by simp [hlk], HW2.out, oB5, hr6, ow5, oR5, kw5⟩
        case measure => omega
      · have hn1 := words_none HWk.out hlt3 (by rw [HX.out, e]; intro v h; cases h)
        rw [HWS.out] at hn1
        have HP := Lib.hid (parseP_words hn1)
        simp only [e] at CA
        have HA := Lib.hid CA
        clear CA e hn1
        go_wp2_with (go_at_call 59; ((with_reducible refine (HA.out _ kw).mono ?_); rintro e w3 ⟨N, y, rfl, k3⟩; have oR3 := oR.kept k3; have kw3 := kept_trans kw k3; have e0 := oR3.cell (j := 0) rfl; have e1 := oR3.cell (j := 1) rfl; have e2 := oR3.cell (j := 2) rfl; have e3 := oR3.cell (j := 3) rfl; have f0 := oR3.frozen 0; have f1 := oR3.frozen 1; have f2 := oR3.frozen 2; have f3 := oR3.frozen 3))
        have o3 := own_set4 oR3 (.int .i64 0) (.int .i64 0) (.slice none 0 0) (.slice none 0 0)
        have pk := kept_set4 kw3 (Nat.le_refl _) (.int .i64 0) (.int .i64 0) (.slice none 0 0) (.slice none 0 0)
        unfold set4 at o3 pk
        obtain ⟨W2, hW2⟩ : ∃ W2, W2 = (((w3.setCell ⟨w.heap.size, 0, none⟩ (.int .i64 0)).setCell ⟨w.heap.size, 1, none⟩ (.int .i64 0)).setCell ⟨w.heap.size, 2, none⟩ (.slice none 0 0)).setCell ⟨w.heap.size, 3, none⟩ (.slice none 0 0) := ⟨_, rfl⟩
        rw [← hW2] at pk o3 ⊢
        clear hW2 e0 e1 e2 e3
        have q0 := o3.cell (j := 0) rfl; have q1 := o3.cell (j := 1) rfl; have q2 := o3.cell (j := 2) rfl; have q3 := o3.cell (j := 3) rfl
        exact bodyPost_ret (v := .tuple #[.agg #[.int .i64 0, .int .i64 0, .slice none 0 0, .slice none 0 0], .int .i64 3]) (by simp [results, Tryz.results13, go_sem, q0, q1, q2, q3]) rfl (pp_none HP.out pk)
      · have hn1 := words_none HWk.out hlt3 (by rw [HX.out, e]; intro v h; cases h)
        rw [HWS.out] at hn1
        have HP := Lib.hid (parseP_words hn1)
        simp only [e] at CA
        have HA := Lib.hid CA
        clear CA e hn1
        go_wp2_with (go_at_call 59; ((with_reducible refine (HA.out _ kw).mono ?_); rintro e w3 ⟨N, y, rfl, k3⟩; have oR3 := oR.kept k3; have kw3 := kept_trans kw k3; have e0 := oR3.cell (j := 0) rfl; have e1 := oR3.cell (j := 1) rfl; have e2 := oR3.cell (j := 2) rfl; have e3 := oR3.cell (j := 3) rfl; have f0 := oR3.frozen 0; have f1 := oR3.frozen 1; have f2 := oR3.frozen 2; have f3 := oR3.frozen 3))
        have o3 := own_set4 oR3 (.int .i64 0) (.int .i64 0) (.slice none 0 0) (.slice none 0 0)
        have pk := kept_set4 kw3 (Nat.le_refl _) (.int .i64 0) (.int .i64 0) (.slice none 0 0) (.slice none 0 0)
        unfold set4 at o3 pk
        obtain ⟨W2, hW2⟩ : ∃ W2, W2 = (((w3.setCell ⟨w.heap.size, 0, none⟩ (.int .i64 0)).setCell ⟨w.heap.size, 1, none⟩ (.int .i64 0)).setCell ⟨w.heap.size, 2, none⟩ (.slice none 0 0)).setCell ⟨w.heap.size, 3, none⟩ (.slice none 0 0) := ⟨_, rfl⟩
        rw [← hW2] at pk o3 ⊢
        clear hW2 e0 e1 e2 e3
        have q0 := o3.cell (j := 0) rfl; have q1 := o3.cell (j := 1) rfl; have q2 := o3.cell (j := 2) rfl; have q3 := o3.cell (j := 3) rfl
        exact bodyPost_ret (v := .tuple #[.agg #[.int .i64 0, .int .i64 0, .slice none 0 0, .slice none 0 0], .int .i64 3]) (by simp [results, Tryz.results13, go_sem, q0, q1, q2, q3]) rfl (pp_none HP.out pk)
    · have : k = n := by omega
      subst this
      have hwe := HWk.out
      have hkl : k = (ws.map (·.data.toList)).length := by rw [List.length_map]; exact HN.out
      rw [hkl] at hwe
      have hwo := words_end hwe
      rw [HWS.out] at hwo
      have hpo := parseP_out (s := s.data.toList) (by simp; omega) hwo
      obtain ⟨g, cap, rest, rfl, hg, og, hc1, hc2, hc3, hc4⟩ := row_own hr (by omega)
      have ls : LS wr (w.heap.size + 1) l := ⟨g, 0, cap, by rw [hlk]; exact oB, ⟨_, og⟩, (by have := og.win 0 k (by omega); rwa [List.drop_zero, List.take_of_length_le (by omega)] at this), by omega, hc2⟩
      have HPO := Lib.hid hpo
      have CT := Lib.hid (show Calls Tryz.prog 60 #[.int .i64 2, .pointer (some ⟨w.heap.size + 1, 0, none⟩)] wr (TakePost (w.heap.size + 1) l 2 wr) from take36_any 2 (by omega) (w.heap.size + 1) l (by omega) wr ls)
      have hk4 : k ≤ 40001 := by omega
      clear hwe hkl hwo hpo ls HWk HN HSZ HWS ow og hc1 hc2 hc3 hc4 hr hlt hwl
      go_upto_region 14 with (go_at_call 60; ((with_reducible refine CT.out.mono ?_); rintro e w3 ⟨v3, rfl, hr3, ls3, kb3⟩))
      have oR3 := oR.grown kb3 (by intro h; injection h; omega)
      have kw3 := kept_kb kw kb3 (by omega)
      clear CT oB oR
      by_cases h2 : l.length < 2
      · obtain ⟨m, hm⟩ : ∃ m, m = (l.take 2).length := ⟨_, rfl⟩
        have hm2 : m < 2 := by rw [hm]; simp; omega
        have hp := HPO.out
        rw [if_pos (.inl h2)] at hp
        have HP := Lib.hid hp
        rw [← hm] at hr3
        obtain ⟨A3, c3, rfl, _⟩ := row_form hr3
        have d3 : decide (m < 2) = true := decide_eq_true hm2
        have d4 : decide ((m : Int) < 2) = true := decide_eq_true (by omega)
        clear hm2 hp h2 hm hr3
        have e0 := oR3.cell (j := 0) rfl; have e1 := oR3.cell (j := 1) rfl; have e2 := oR3.cell (j := 2) rfl; have e3 := oR3.cell (j := 3) rfl; have f0 := oR3.frozen 0; have f1 := oR3.frozen 1; have f2 := oR3.frozen 2; have f3 := oR3.frozen 3
        go_wp2_with fail
        have o3 := own_set4 oR3 (.int .i64 0) (.int .i64 0) (.slice none 0 0) (.slice none 0 0)
        have pk := kept_set4 kw3 (Nat.le_refl _) (.int .i64 0) (.int .i64 0) (.slice none 0 0) (.slice none 0 0)
        unfold set4 at o3 pk
        obtain ⟨W2, hW2⟩ : ∃ W2, W2 = (((w3.setCell ⟨w.heap.size, 0, none⟩ (.int .i64 0)).setCell ⟨w.heap.size, 1, none⟩ (.int .i64 0)).setCell ⟨w.heap.size, 2, none⟩ (.slice none 0 0)).setCell ⟨w.heap.size, 3, none⟩ (.slice none 0 0) := ⟨_, rfl⟩
        rw [← hW2] at pk o3 ⊢
        clear hW2 e0 e1 e2 e3
        have q0 := o3.cell (j := 0) rfl; have q1 := o3.cell (j := 1) rfl; have q2 := o3.cell (j := 2) rfl; have q3 := o3.cell (j := 3) rfl
        exact bodyPost_ret (v := .tuple #[.agg #[.int .i64 0, .int .i64 0, .slice none 0 0, .slice none 0 0], .int .i64 3]) (by simp [results, Tryz.results13, go_sem, q0, q1, q2, q3]) rfl (pp_none HP.out pk)
      have ht2 : (l.take 2).length = 2 := by simp; omega
      rw [ht2] at hr3
      obtain ⟨g3, cap3, rest3, rfl, hg3, og3, hd1, hd2, hd3, hd4⟩ := row_own hr3 (by omega)
      have y0 := og3.pre (j := 0) (by omega)
      have y1 := og3.pre (j := 1) (by omega)
      rw [ia_take (by omega)] at y0 y1
      clear hr3 og3 hd1 hd2 hd3 hd4 ht2
      have H2 := Lib.hid h2; clear h2
      by_cases b3 : ia l 0 < 0
      · have d3' : decide (ia l 0 < 0) = true := decide_eq_true b3
        have hp := HPO.out
        rw [if_pos (.inr (.inl b3))] at hp
        have HP := Lib.hid hp
        clear hp b3
        have e0 := oR3.cell (j := 0) rfl; have e1 := oR3.cell (j := 1) rfl; have e2 := oR3.cell (j := 2) rfl; have e3 := oR3.cell (j := 3) rfl; have f0 := oR3.frozen 0; have f1 := oR3.frozen 1; have f2 := oR3.frozen 2; have f3 := oR3.frozen 3
        go_wp2_with fail
        have o3 := own_set4 oR3 (.int .i64 0) (.int .i64 0) (.slice none 0 0) (.slice none 0 0)
        have pk := kept_set4 kw3 (Nat.le_refl _) (.int .i64 0) (.int .i64 0) (.slice none 0 0) (.slice none 0 0)
        unfold set4 at o3 pk
        obtain ⟨W2, hW2⟩ : ∃ W2, W2 = (((w3.setCell ⟨w.heap.size, 0, none⟩ (.int .i64 0)).setCell ⟨w.heap.size, 1, none⟩ (.int .i64 0)).setCell ⟨w.heap.size, 2, none⟩ (.slice none 0 0)).setCell ⟨w.heap.size, 3, none⟩ (.slice none 0 0) := ⟨_, rfl⟩
        rw [← hW2] at pk o3 ⊢
        clear hW2 e0 e1 e2 e3
        have q0 := o3.cell (j := 0) rfl; have q1 := o3.cell (j := 1) rfl; have q2 := o3.cell (j := 2) rfl; have q3 := o3.cell (j := 3) rfl
        exact bodyPost_ret (v := .tuple #[.agg #[.int .i64 0, .int .i64 0, .slice none 0 0, .slice none 0 0], .int .i64 3]) (by simp [results, Tryz.results13, go_sem, q0, q1, q2, q3]) rfl (pp_none HP.out pk)
      have d3' : decide (ia l 0 < 0) = false := decide_eq_false b3
      by_cases b4 : 6 < ia l 0
      · have d4' : decide (6 < ia l 0) = true := decide_eq_true b4
        have hp := HPO.out
        rw [if_pos (.inr (.inr (.inl b4)))] at hp
        have HP := Lib.hid hp
        clear hp b3 b4
        have e0 := oR3.cell (j := 0) rfl; have e1 := oR3.cell (j := 1) rfl; have e2 := oR3.cell (j := 2) rfl; have e3 := oR3.cell (j := 3) rfl; have f0 := oR3.frozen 0; have f1 := oR3.frozen 1; have f2 := oR3.frozen 2; have f3 := oR3.frozen 3
        go_wp2_with fail
        have o3 := own_set4 oR3 (.int .i64 0) (.int .i64 0) (.slice none 0 0) (.slice none 0 0)
        have pk := kept_set4 kw3 (Nat.le_refl _) (.int .i64 0) (.int .i64 0) (.slice none 0 0) (.slice none 0 0)
        unfold set4 at o3 pk
        obtain ⟨W2, hW2⟩ : ∃ W2, W2 = (((w3.setCell ⟨w.heap.size, 0, none⟩ (.int .i64 0)).setCell ⟨w.heap.size, 1, none⟩ (.int .i64 0)).setCell ⟨w.heap.size, 2, none⟩ (.slice none 0 0)).setCell ⟨w.heap.size, 3, none⟩ (.slice none 0 0) := ⟨_, rfl⟩
        rw [← hW2] at pk o3 ⊢
        clear hW2 e0 e1 e2 e3
        have q0 := o3.cell (j := 0) rfl; have q1 := o3.cell (j := 1) rfl; have q2 := o3.cell (j := 2) rfl; have q3 := o3.cell (j := 3) rfl
        exact bodyPost_ret (v := .tuple #[.agg #[.int .i64 0, .int .i64 0, .slice none 0 0, .slice none 0 0], .int .i64 3]) (by simp [results, Tryz.results13, go_sem, q0, q1, q2, q3]) rfl (pp_none HP.out pk)
      have d4' : decide (6 < ia l 0) = false := decide_eq_false b4
      by_cases b5 : ia l 1 < 1
      · have d5' : decide (ia l 1 < 1) = true := decide_eq_true b5
        have hp := HPO.out
        rw [if_pos (.inr (.inr (.inr (.inl b5))))] at hp
        have HP := Lib.hid hp
        clear hp b3 b4 b5
        have e0 := oR3.cell (j := 0) rfl; have e1 := oR3.cell (j := 1) rfl; have e2 := oR3.cell (j := 2) rfl; have e3 := oR3.cell (j := 3) rfl; have f0 := oR3.frozen 0; have f1 := oR3.frozen 1; have f2 := oR3.frozen 2; have f3 := oR3.frozen 3
        go_wp2_with fail
        have o3 := own_set4 oR3 (.int .i64 0) (.int .i64 0) (.slice none 0 0) (.slice none 0 0)
        have pk := kept_set4 kw3 (Nat.le_refl _) (.int .i64 0) (.int .i64 0) (.slice none 0 0) (.slice none 0 0)
        unfold set4 at o3 pk
        obtain ⟨W2, hW2⟩ : ∃ W2, W2 = (((w3.setCell ⟨w.heap.size, 0, none⟩ (.int .i64 0)).setCell ⟨w.heap.size, 1, none⟩ (.int .i64 0)).setCell ⟨w.heap.size, 2, none⟩ (.slice none 0 0)).setCell ⟨w.heap.size, 3, none⟩ (.slice none 0 0) := ⟨_, rfl⟩
        rw [← hW2] at pk o3 ⊢
        clear hW2 e0 e1 e2 e3
        have q0 := o3.cell (j := 0) rfl; have q1 := o3.cell (j := 1) rfl; have q2 := o3.cell (j := 2) rfl; have q3 := o3.cell (j := 3) rfl
        exact bodyPost_ret (v := .tuple #[.agg #[.int .i64 0, .int .i64 0, .slice none 0 0, .slice none 0 0], .int .i64 3]) (by simp [results, Tryz.results13, go_sem, q0, q1, q2, q3]) rfl (pp_none HP.out pk)
      have d5' : decide (ia l 1 < 1) = false := decide_eq_false b5
      by_cases b6 : 6 < ia l 1
      · have d6' : decide (6 < ia l 1) = true := decide_eq_true b6
        have hp := HPO.out
        rw [if_pos (.inr (.inr (.inr (.inr b6))))] at hp
        have HP := Lib.hid hp
        clear hp b3 b4 b5 b6
        have e0 := oR3.cell (j := 0) rfl; have e1 := oR3.cell (j := 1) rfl; have e2 := oR3.cell (j := 2) rfl; have e3 := oR3.cell (j := 3) rfl; have f0 := oR3.frozen 0; have f1 := oR3.frozen 1; have f2 := oR3.frozen 2; have f3 := oR3.frozen 3
        go_wp2_with fail
        have o3 := own_set4 oR3 (.int .i64 0) (.int .i64 0) (.slice none 0 0) (.slice none 0 0)
        have pk := kept_set4 kw3 (Nat.le_refl _) (.int .i64 0) (.int .i64 0) (.slice none 0 0) (.slice none 0 0)
        unfold set4 at o3 pk
        obtain ⟨W2, hW2⟩ : ∃ W2, W2 = (((w3.setCell ⟨w.heap.size, 0, none⟩ (.int .i64 0)).setCell ⟨w.heap.size, 1, none⟩ (.int .i64 0)).setCell ⟨w.heap.size, 2, none⟩ (.slice none 0 0)).setCell ⟨w.heap.size, 3, none⟩ (.slice none 0 0) := ⟨_, rfl⟩
        rw [← hW2] at pk o3 ⊢
        clear hW2 e0 e1 e2 e3
        have q0 := o3.cell (j := 0) rfl; have q1 := o3.cell (j := 1) rfl; have q2 := o3.cell (j := 2) rfl; have q3 := o3.cell (j := 3) rfl
        exact bodyPost_ret (v := .tuple #[.agg #[.int .i64 0, .int .i64 0, .slice none 0 0, .slice none 0 0], .int .i64 3]) (by simp [results, Tryz.results13, go_sem, q0, q1, q2, q3]) rfl (pp_none HP.out pk)
      have d6' : decide (6 < ia l 1) = false := decide_eq_false b6
      have hpo := HPO.out
      rw [if_neg (by have := H2.out; omega)] at hpo
      obtain ⟨hn', e0⟩ : ∃ m : Nat, ia l 0 = m := ⟨(ia l 0).toNat, by omega⟩
      obtain ⟨bn, e1⟩ : ∃ m : Nat, ia l 1 = m := ⟨(ia l 1).toNat, by omega⟩
      rw [e0] at y0 b3 b4 d3' d4'
      rw [e1] at y1 b5 b6 d5' d6'
      obtain ⟨N, hN⟩ : ∃ N, N = 2 ^ hn' := ⟨_, rfl⟩
      obtain ⟨m2, hm2⟩ : ∃ m, m = 2 * bn := ⟨_, rfl⟩
      obtain ⟨M, hM⟩ : ∃ M, M = 2 ^ m2 := ⟨_, rfl⟩
      have hh6 : hn' ≤ 6 := by omega
      have hb6 : bn ≤ 6 := by omega
      have hb1 : 1 ≤ bn := by omega
      have m6 : m2 ≤ 12 := by omega
      have hN1 : 1 ≤ N := by rw [hN]; exact Nat.two_pow_pos _
      have hN64 : N ≤ 64 := by rw [hN]; exact Nat.pow_le_pow_right (n := 2) (by omega) hh6
      have hM4 : M ≤ 4096 := by rw [hM]; exact Nat.pow_le_pow_right (n := 2) (by omega) m6
      have T := treeT l hn' bn m2 N M e0 e1 hN hm2 hM hN1
      obtain ⟨t, ht⟩ : ∃ t, t = ofNums l := ⟨_, rfl⟩
      rw [← ht] at T hpo
      obtain ⟨L2, hL2⟩ : ∃ L2, L2 = (l.drop 2).drop N := ⟨_, rfl⟩
      obtain ⟨lv, hlv⟩ : ∃ lv, lv = (l.drop 2).take N := ⟨_, rfl⟩
      have hlv64 : lv.length ≤ 64 := by rw [hlv]; simp; omega
      have hL2l : L2.length ≤ 40001 := by rw [hL2]; simp; omega
      rw [← hL2, ← hlv] at T
      have HT := Lib.hid T
      have HPP := Lib.hid hpo
      have HE := Lib.hid (And.intro hL2 hlv)
      clear hpo e0 e1 T ht hL2 hlv d3' d4' d5' d6' b3 b4 b5 b6 HPO H2
      have x0 : decide ((hn' : Int) < 0) = false := decide_eq_false (by omega)
      have x1 : decide ((6 : Int) < (hn' : Int)) = false := decide_eq_false (by omega)
      have x2 : decide ((bn : Int) < 1) = false := decide_eq_false (by omega)
      have x3 : decide ((6 : Int) < (bn : Int)) = false := decide_eq_false (by omega)
      have x1' : decide (6 < hn') = false := decide_eq_false (by omega)
      have x2' : decide (bn < 1) = false := decide_eq_false (by omega)
      have x3' : decide (6 < bn) = false := decide_eq_false (by omega)
      have x4 : bn ≠ 0 := by omega
      have WN := Lib.hid (show wrap64 ((N : Int) - 1) = (N : Int) - 1 by unfold wrap64; omega)
      have nb1 : N ≤ 1000000000 := by omega
      have nb2 : m2 ≤ 1000000000 := by omega
      have nb3 : M ≤ 1000000000 := by omega
      have nb4 : hn' ≤ 64 := by omega
      have nb5 : m2 ≤ 64 := by omega
      have SF := Lib.hid (sfacts hN hm2 hM nb1 nb2 nb3 nb4 nb5)
      clear hN hm2 hM nb1 nb2 nb3 nb4 nb5
      go_upto_region 16 with (fail)
      refine region_x (fun w' => Kept w3 w') [8] (by kernel_rfl) (kept_drew (kept_refl _)) (fun hHeld => ?_)
      refine x_take (i := 0) (oi := { dst := some 69, op := Op.move (Operand.tmp 10), type := 24, pos := "tree.go:145", after := #[], guard := none }) (v := ?_) rfl (by kernel_rfl) (by kernel_rfl) (by kernel_rfl) (by kernel_rfl) (by kernel_rfl) (fun _ _ _ h => h) (Or.inl ⟨rfl, ?_⟩) (by assumption) ?_
      rotate_left
      · (intro w' hSw; replace y0 := kept_cell hSw y0; replace y1 := kept_cell hSw y1; go_simp; try with_reducible rfl)
      try simp only [Act.put, List.setIfInBounds_toArray, List.set_cons_zero, List.set_cons_succ]
      refine x_take (i := 1) (oi := { dst := some 70, op := Op.indexAddr 24 (Operand.tmp 69) (Operand.const (Value.int IntKind.i64 0)), type := 0, pos := "tree.go:145", after := #[{ on := 0, ground := Ground.data }], guard := none }) (v := ?_) rfl (by kernel_rfl) (by kernel_rfl) (by kernel_rfl) (by kernel_rfl) (by kernel_rfl) (fun _ _ _ h => h) (Or.inl ⟨rfl, ?_⟩) (by assumption) ?_
      rotate_left
      · (intro w' hSw; replace y0 := kept_cell hSw y0; replace y1 := kept_cell hSw y1; go_simp; try with_reducible rfl)
      try simp only [Act.put, List.setIfInBounds_toArray, List.set_cons_zero, List.set_cons_succ]
      refine x_take (i := 2) (oi := { dst := some 71, op := Op.load 3 (Operand.tmp 70), type := 3, pos := "tree.go:145", after := #[{ on := 1, ground := Ground.data }], guard := none }) (v := ?_) rfl (by kernel_rfl) (by kernel_rfl) (by kernel_rfl) (by kernel_rfl) (by kernel_rfl) (fun _ _ _ h => h) (Or.inl ⟨rfl, ?_⟩) (by assumption) ?_
      rotate_left
      · (intro w' hSw; replace y0 := kept_cell hSw y0; replace y1 := kept_cell hSw y1; go_simp; try with_reducible rfl)
      try simp only [Act.put, List.setIfInBounds_toArray, List.set_cons_zero, List.set_cons_succ]
      refine x_take (i := 3) (oi := { dst := some 72, op := Op.move (Operand.tmp 10), type := 24, pos := "tree.go:145", after := #[], guard := none }) (v := ?_) rfl (by kernel_rfl) (by kernel_rfl) (by kernel_rfl) (by kernel_rfl) (by kernel_rfl) (fun _ _ _ h => h) (Or.inl ⟨rfl, ?_⟩) (by assumption) ?_
      rotate_left
      · (intro w' hSw; replace y0 := kept_cell hSw y0; replace y1 := kept_cell hSw y1; go_simp; try with_reducible rfl)
      try simp only [Act.put, List.setIfInBounds_toArray, List.set_cons_zero, List.set_cons_succ]
      refine x_take (i := 4) (oi := { dst := some 73, op := Op.indexAddr 24 (Operand.tmp 72) (Operand.const (Value.int IntKind.i64 1)), type := 0, pos := "tree.go:145", after := #[{ on := 3, ground := Ground.data }], guard := none }) (v := ?_) rfl (by kernel_rfl) (by kernel_rfl) (by kernel_rfl) (by kernel_rfl) (by kernel_rfl) (fun _ _ _ h => h) (Or.inl ⟨rfl, ?_⟩) (by assumption) ?_
      rotate_left
      · (intro w' hSw; replace y0 := kept_cell hSw y0; replace y1 := kept_cell hSw y1; go_simp; try with_reducible rfl)
      try simp only [Act.put, List.setIfInBounds_toArray, List.set_cons_zero, List.set_cons_succ]
      refine x_take (i := 5) (oi := { dst := some 74, op := Op.load 3 (Operand.tmp 73), type := 3, pos := "tree.go:145", after := #[{ on := 4, ground := Ground.data }], guard := none }) (v := ?_) rfl (by kernel_rfl) (by kernel_rfl) (by kernel_rfl) (by kernel_rfl) (by kernel_rfl) (fun _ _ _ h => h) (Or.inl ⟨rfl, ?_⟩) (by assumption) ?_
      rotate_left
      · (intro w' hSw; replace y0 := kept_cell hSw y0; replace y1 := kept_cell hSw y1; go_simp; try with_reducible rfl)
      try simp only [Act.put, List.setIfInBounds_toArray, List.set_cons_zero, List.set_cons_succ]
      refine x_take (i := 6) (oi := { dst := some 75, op := Op.build 27 #[(0, Operand.tmp 71), (1, Operand.tmp 74)], type := 27, pos := "tree.go:145", after := #[{ on := 2, ground := Ground.data }, { on := 5, ground := Ground.data }], guard := none }) (v := ?_) rfl (by kernel_rfl) (by kernel_rfl) (by kernel_rfl) (by kernel_rfl) (by kernel_rfl) (fun _ _ _ h => h) (Or.inl ⟨rfl, ?_⟩) (by assumption) ?_
      rotate_left
      · (intro w' hSw; replace y0 := kept_cell hSw y0; replace y1 := kept_cell hSw y1; go_simp; try with_reducible rfl)
      try simp only [Act.put, List.setIfInBounds_toArray, List.set_cons_zero, List.set_cons_succ]
      refine x_one (i := 7) (o := { dst := some 11, op := Op.alloc 27, type := 0, pos := "tree.go:145", after := #[], guard := none }) (by kernel_rfl) rfl (fun K hK => ?_)
      (go_simp)
      refine hK.out _ _ ?_ (fun hHeld => ?_)
      · (try dsimp only); repeat (first | assumption | exact kept_refl _ | refine kept_drew ?_ | refine kept_alloc ?_ _ | refine kept_set ?_ (by omega) _)
      clear hK K
      try simp only [Act.put, List.setIfInBounds_toArray, List.set_cons_zero, List.set_cons_succ]
      refine x_last (i := 8) (o := { dst := none, op := Op.store 27 (Operand.tmp 11) (Operand.tmp 75), type := 0, pos := "tree.go:145", after := #[{ on := 7, ground := Ground.data }, { on := 6, ground := Ground.data }, { on := 0, ground := Ground.phase }, { on := 1, ground := Ground.phase }, { on := 2, ground := Ground.phase }, { on := 3, ground := Ground.phase }, { on := 4, ground := Ground.phase }, { on := 5, ground := Ground.phase }, { on := 6, ground := Ground.phase }, { on := 7, ground := Ground.phase }], guard := none }) (by kernel_rfl) rfl (by simp) (fun K hK => ?_)
      (go_simp)
      refine hK.out _ _ ?_
      clear hK K
      try simp only [Act.put, List.setIfInBounds_toArray, List.set_cons_zero, List.set_cons_succ]
      refine x_done (by kernel_rfl) ?_ _
      obtain ⟨W5, hW5⟩ : ∃ x, x = (w3.alloc (.cells #[.int .i64 (hn' : Int), .int .i64 (bn : Int), .slice none 0 0, .slice none 0 0] 27)).drew := ⟨_, rfl⟩
      rw [← hW5]
      have k5 : Kept w3 W5 := by rw [hW5]; exact kept_drew (kept_alloc (kept_refl _) _)
      have o6 : Own W5 w3.heap.size 27 [.int .i64 (hn' : Int), .int .i64 (bn : Int), .slice none 0 0, .slice none 0 0] := by rw [hW5]; exact (Own.new w3 27 _).drew
      have ls5 := ls3.kept k5
      have oR5 := oR3.kept k5
      have kw5 := kept_trans kw3 k5
      have zB : w.heap.size + 1 < w3.heap.size := ls3.lt
      have q0 := o6.cell (j := 0) rfl; have q1 := o6.cell (j := 1) rfl; have q2 := o6.cell (j := 2) rfl; have q3 := o6.cell (j := 3) rfl
      have CT2 := Lib.hid (take36_any N (by omega) (w.heap.size + 1) (l.drop 2) (by rw [List.length_drop]; omega) W5 ls5)
      have zs : w.heap.size < w3.heap.size := by omega
      clear hW5 y0 y1 x0 x1 x2 x3 x1' x2' x3' ls3 oR3 kw3
      obtain ⟨s1, s1w, s1m, s2, s3, s3m, s3w⟩ := SF.out
      go_upto_region 18 with (go_at_call 60; ((with_reducible refine CT2.out.mono ?_); rintro e w6 ⟨v6, rfl, hr6, ls6, kb6⟩; have o7 := o6.grown kb6 (by intro h; injection h with h; rw [h] at zB; exact absurd zB (Nat.lt_irrefl _)); have q0 := o7.cell (j := 0) rfl; have q1 := o7.cell (j := 1) rfl; have q2 := o7.cell (j := 2) rfl; have q3 := o7.cell (j := 3) rfl; have f2 := o7.frozen 2; rw [← HE.out.2] at hr6; obtain ⟨A6, c6, rfl, hr7⟩ := row_form hr6))
      have zBG : w.heap.size + 1 ≠ w3.heap.size := by omega
      have zRG : w.heap.size ≠ w3.heap.size := by omega
      have K37 : Keep3 w6 (w6.setCell ⟨w3.heap.size, 2, none⟩ (.slice A6 lv.length c6)) := keep3_set o7 (by decide) 2 _
      have rl := (ro_row hr7).keep K37
      have ls7 := ls6.keep K37 (Below.heap_setCell w6 ⟨w3.heap.size, 2, none⟩ _ _ zBG)
      have o8 := o7.set 2 (.slice A6 lv.length c6)
      have oR7 := (oR5.grown kb6 (by intro h; injection h with h; omega)).other (a := ⟨w3.heap.size, 2, none⟩) zRG (.slice A6 lv.length c6)
      have kw7 := kept_set (g := w3.heap.size) (j := 2) (kept_kb kw5 kb6 (Nat.le_succ _)) (Nat.le_of_lt zs) (.slice A6 lv.length c6)
      rw [← HE.out.1] at ls7
      have kwG : w3.heap.size < w6.heap.size := o7.lt
      generalize w6.setCell ⟨w3.heap.size, 2, none⟩ (.slice A6 lv.length c6) = W7 at *
      clear q0 q1 q2 q3 f2 hr6 hr7 K37 ls6 o7 kb6 CT2 oR5 kw5 ls5 o6
      have q0 := o8.cell (j := 0) rfl; have q1 := o8.cell (j := 1) rfl; have q2 := o8.cell (j := 2) rfl; have q3 := o8.cell (j := 3) rfl
      have wN1 : wrap64 ((N : Int) - 1) = (N : Int) - 1 := WN.out
      go_wp2_with fail
      clear s1 s1w s1m s2 s3 s3m s3w q0 q1 q2 q3 wN1
      obtain ⟨sl, hsl⟩ : ∃ sl : Value, sl = .slice A6 lv.length c6 := ⟨_, rfl⟩
      rw [← hsl] at rl
      have o8' : Own W7 w3.heap.size 27 [.int .i64 (hn' : Int), .int .i64 (bn : Int), sl, .slice none 0 0] := by rw [hsl]; exact o8
      have HSL := Lib.hid hsl
      clear hsl o8
      go_loopg [86] (N - 1) (fun g' s86 wr => ∃ (k : Nat) (v : Value) (vals : List Value), k ≤ N - 1 ∧ g' = N - 1 - k ∧ s86 = .int .i64 k ∧ Own wr w3.heap.size 27 [.int .i64 (hn' : Int), .int .i64 (bn : Int), sl, v] ∧ wr.ownsRow (w3.heap.size + 1) 24 1 v k vals ∧ RVO wr vals (chop M k L2) ∧ RO wr sl lv ∧ LS wr (w.heap.size + 1) (L2.drop (k * M)) ∧ Own wr w.heap.size 27 [.int .i64 0, .int .i64 0, .slice none 0 0, .slice none 0 0] ∧ Kept w wr)
      case atStart => exact ⟨0, _, [], by omega, by omega, rfl, o8', World.ownsRow_nil _ _ _ _, ⟨by rw [chop]; rfl, fun j hj => by rw [chop] at hj; exact absurd hj (by simp)⟩, rl, by rw [Nat.zero_mul, List.drop_zero]; exact ls7, oR7, kw7⟩
      case round =>
        clear o8' rl ls7 oR7 kw7
        obtain ⟨k, v, vals, hk, rfl, rfl, o5, hr, rv, rl, ls, oR, kw⟩ := hrel
        have q0 := o5.cell (j := 0) rfl; have q1 := o5.cell (j := 1) rfl; have q2 := o5.cell (j := 2) rfl; have q3 := o5.cell (j := 3) rfl
        by_cases hlt : k < N - 1
        · have dk : decide ((k : Int) < (N : Int) - 1) = true := decide_eq_true (by omega)
          have CT3 := Lib.hid (take36_any M (by omega) (w.heap.size + 1) (L2.drop (k * M)) (by rw [List.length_drop]; omega) wr.drew (ls.kept (kept_drew (kept_refl _))))
          obtain ⟨PL, hPL⟩ : ∃ PL, PL = (L2.drop (k * M)).take M := ⟨_, rfl⟩
          have HPL := Lib.hid hPL; clear hPL
          have hbR : ∀ b, v.ownBlock = some b → w3.heap.size + 1 ≤ b ∧ b < wr.heap.size := fun b hb => hr.lt b hb
          have HB := Lib.hid hbR
          have sz : w3.heap.size < wr.heap.size := o5.lt
          clear hbR
          obtain ⟨s1, s1w, s1m, s2, s3, s3m, s3w⟩ := SF.out
          go_upto_region 20 with (fail)
          clear s1 s1w s1m dk
          refine region_x (fun w' => w'.cell? ⟨w3.heap.size, 1, none⟩ = some (.int .i64 (bn : Int)) ∧ w'.cell? ⟨w3.heap.size, 3, none⟩ = some v) [11] (by kernel_rfl) ?_ (fun hHeld => ?_)
          · exact ⟨cell_drew q1, cell_drew q3⟩
          refine x_take (i := 0) (oi := { dst := some 88, op := Op.fieldAddr 27 (Operand.tmp 11) 3, type := 0, pos := "tree.go:148", after := #[], guard := none }) (v := ?_) rfl (by kernel_rfl) (by kernel_rfl) (by kernel_rfl) (by kernel_rfl) (by kernel_rfl) (fun _ _ _ h => h) (Or.inl ⟨rfl, ?_⟩) (by assumption) ?_
          rotate_left
          · (intro w hSw; (try dsimp only at hSw); (try obtain ⟨hSa, hSb⟩ := hSw); (try obtain ⟨hSb, hSc⟩ := hSb); (try obtain ⟨hSc, hSd⟩ := hSc); (try obtain ⟨hSd, hSe⟩ := hSd); (try obtain ⟨hSe, hSf⟩ := hSe); go_simp; try with_reducible rfl)
          try simp only [Act.put, List.setIfInBounds_toArray, List.set_cons_zero, List.set_cons_succ]
          refine x_take (i := 1) (oi := { dst := some 89, op := Op.load 25 (Operand.tmp 88), type := 25, pos := "tree.go:148", after := #[{ on := 0, ground := Ground.data }], guard := none }) (v := ?_) rfl (by kernel_rfl) (by kernel_rfl) (by kernel_rfl) (by kernel_rfl) (by kernel_rfl) (fun _ _ _ h => h) (Or.inl ⟨rfl, ?_⟩) (by assumption) ?_
          rotate_left
          · (intro w hSw; (try dsimp only at hSw); (try obtain ⟨hSa, hSb⟩ := hSw); (try obtain ⟨hSb, hSc⟩ := hSb); (try obtain ⟨hSc, hSd⟩ := hSc); (try obtain ⟨hSd, hSe⟩ := hSd); (try obtain ⟨hSe, hSf⟩ := hSe); go_simp; try with_reducible rfl)
          try simp only [Act.put, List.setIfInBounds_toArray, List.set_cons_zero, List.set_cons_succ]
          refine x_take (i := 2) (oi := { dst := some 90, op := Op.move (Operand.tmp 9), type := 102, pos := "tree.go:148", after := #[], guard := none }) (v := ?_) rfl (by kernel_rfl) (by kernel_rfl) (by kernel_rfl) (by kernel_rfl) (by kernel_rfl) (fun _ _ _ h => h) (Or.inl ⟨rfl, ?_⟩) (by assumption) ?_
          rotate_left
          · (intro w hSw; (try dsimp only at hSw); (try obtain ⟨hSa, hSb⟩ := hSw); (try obtain ⟨hSb, hSc⟩ := hSb); (try obtain ⟨hSc, hSd⟩ := hSc); (try obtain ⟨hSd, hSe⟩ := hSd); (try obtain ⟨hSe, hSf⟩ := hSe); go_simp; try with_reducible rfl)
          try simp only [Act.put, List.setIfInBounds_toArray, List.set_cons_zero, List.set_cons_succ]
          refine x_take (i := 3) (oi := { dst := some 91, op := Op.fieldAddr 27 (Operand.tmp 11) 1, type := 0, pos := "tree.go:148", after := #[], guard := none }) (v := ?_) rfl (by kernel_rfl) (by kernel_rfl) (by kernel_rfl) (by kernel_rfl) (by kernel_rfl) (fun _ _ _ h => h) (Or.inl ⟨rfl, ?_⟩) (by assumption) ?_
          rotate_left
          · (intro w hSw; (try dsimp only at hSw); (try obtain ⟨hSa, hSb⟩ := hSw); (try obtain ⟨hSb, hSc⟩ := hSb); (try obtain ⟨hSc, hSd⟩ := hSc); (try obtain ⟨hSd, hSe⟩ := hSd); (try obtain ⟨hSe, hSf⟩ := hSe); go_simp; try with_reducible rfl)
          try simp only [Act.put, List.setIfInBounds_toArray, List.set_cons_zero, List.set_cons_succ]
          refine x_take (i := 4) (oi := { dst := some 92, op := Op.load 3 (Operand.tmp 91), type := 3, pos := "tree.go:148", after := #[{ on := 3, ground := Ground.data }], guard := none }) (v := ?_) rfl (by kernel_rfl) (by kernel_rfl) (by kernel_rfl) (by kernel_rfl) (by kernel_rfl) (fun _ _ _ h => h) (Or.inl ⟨rfl, ?_⟩) (by assumption) ?_
          rotate_left
          · (intro w hSw; (try dsimp only at hSw); (try obtain ⟨hSa, hSb⟩ := hSw); (try obtain ⟨hSb, hSc⟩ := hSb); (try obtain ⟨hSc, hSd⟩ := hSc); (try obtain ⟨hSd, hSe⟩ := hSd); (try obtain ⟨hSe, hSf⟩ := hSe); go_simp; try with_reducible rfl)
          try simp only [Act.put, List.setIfInBounds_toArray, List.set_cons_zero, List.set_cons_succ]
          refine x_take (i := 5) (oi := { dst := some 93, op := Op.binOp BinOp.mul 3 (Operand.const (Value.int IntKind.i64 2)) (Operand.tmp 92) 3, type := 3, pos := "tree.go:148", after := #[{ on := 4, ground := Ground.data }], guard := none }) (v := ?_) rfl (by kernel_rfl) (by kernel_rfl) (by kernel_rfl) (by kernel_rfl) (by kernel_rfl) (fun _ _ _ h => h) (Or.inl ⟨rfl, ?_⟩) (by assumption) ?_
          rotate_left
          · (intro w hSw; (try dsimp only at hSw); (try obtain ⟨hSa, hSb⟩ := hSw); (try obtain ⟨hSb, hSc⟩ := hSb); (try obtain ⟨hSc, hSd⟩ := hSc); (try obtain ⟨hSd, hSe⟩ := hSd); (try obtain ⟨hSe, hSf⟩ := hSe); go_simp; try with_reducible rfl)
          try simp only [Act.put, List.setIfInBounds_toArray, List.set_cons_zero, List.set_cons_succ]
          refine x_take (i := 6) (oi := { dst := some 94, op := Op.binOp BinOp.shl 3 (Operand.const (Value.int IntKind.i64 1)) (Operand.tmp 93) 3, type := 3, pos := "tree.go:148", after := #[{ on := 5, ground := Ground.data }], guard := none }) (v := ?_) rfl (by kernel_rfl) (by kernel_rfl) (by kernel_rfl) (by kernel_rfl) (by kernel_rfl) (fun _ _ _ h => h) (Or.inl ⟨rfl, ?_⟩) (by assumption) ?_
          rotate_left
          · (intro w hSw; (try dsimp only at hSw); (try obtain ⟨hSa, hSb⟩ := hSw); (try obtain ⟨hSb, hSc⟩ := hSb); (try obtain ⟨hSc, hSd⟩ := hSc); (try obtain ⟨hSd, hSe⟩ := hSd); (try obtain ⟨hSe, hSf⟩ := hSe); go_simp; try with_reducible rfl)
          try simp only [Act.put, List.setIfInBounds_toArray, List.set_cons_zero, List.set_cons_succ]
          refine x_one (i := 7) (o := { dst := some 95, op := Op.call { callee := Callee.value (Operand.tmp 90), args := #[Operand.tmp 94], argTypes := #[3] }, type := 24, pos := "tree.go:148", after := #[{ on := 2, ground := Ground.data }, { on := 6, ground := Ground.data }], guard := none }) (by kernel_rfl) rfl (fun K hK => ?_)
          (go_simp; go_at_call 60; (with_reducible refine CT3.out.mono ?_); rintro e w8 ⟨v8, rfl, hr8, ls8, kb8⟩; have p8 := o5.drew.grown kb8 (by intro h; injection h with h; exact zBG h.symm); have t1 := p8.cell (j := 1) rfl; have t3 := p8.cell (j := 3) rfl; rw [← HPL.out] at hr8; obtain ⟨A8, c8, rfl, hr8'⟩ := row_form hr8; try dsimp only)
          refine hK.out _ _ ?_ (fun hHeld => ?_)
          · (try dsimp only); first | exact ⟨cell_drew q1, cell_drew q3⟩ | exact ⟨t1, t3⟩ | exact ⟨cell_alloc t1 _, cell_alloc t3 _⟩ | exact ⟨u1, u3⟩
          clear hK K
          try simp only [Act.put, List.setIfInBounds_toArray, List.set_cons_zero, List.set_cons_succ]
          refine x_one (i := 8) (o := { dst := some 96, op := Op.buildSlice 25 1 #[(0, Operand.tmp 95)], type := 25, pos := "tree.go:148", after := #[{ on := 7, ground := Ground.data }], guard := none }) (by kernel_rfl) rfl (fun K hK => ?_)
          go_simp
          refine hK.out _ _ ?_ (fun hHeld => ?_)
          · (try dsimp only); first | exact ⟨cell_drew q1, cell_drew q3⟩ | exact ⟨t1, t3⟩ | exact ⟨cell_alloc t1 _, cell_alloc t3 _⟩ | exact ⟨u1, u3⟩
          clear hK K
          try simp only [Act.put, List.setIfInBounds_toArray, List.set_cons_zero, List.set_cons_succ]
          refine x_one (i := 9) (o := { dst := some 97, op := Op.call { callee := Callee.builtin Builtin.append, args := #[Operand.tmp 89, Operand.tmp 96], argTypes := #[25, 25] }, type := 25, pos := "tree.go:148", after := #[{ on := 1, ground := Ground.data }, { on := 8, ground := Ground.data }, { on := 7, ground := Ground.chain }], guard := none }) (by kernel_rfl) rfl (fun K hK => ?_)
          (clear s2 s3 s3m s3w; have hw8 : w8.ownsRow (w3.heap.size + 1) 24 1 v k vals := (row_kept hr (kept_drew (kept_refl wr))).kept kb8 (.inr (by intro h; have := (HB.out _ h).1; omega)); have sz8 : w3.heap.size + 1 ≤ w8.heap.size := p8.lt; refine step_own (w3.heap.size + 1) rfl (.tmp 89) (.tmp 96) 25 24 (.slice none 0 0) 1 24 rfl Tryz.underlying25 info22 rfl (by omega) (by omega) v k 1 1 ⟨w8.heap.size, 0, none⟩ vals [.slice A8 PL.length c8] rfl rfl rfl (news_rd (Own.new w8 24 [.slice A8 PL.length c8]).rd) (by simp [Value.oneCell']) (hw8.alloc _) (by simp; omega) (by omega) ?_; intro v9 w9 hr9 hg9 _; have p9 := (p8.alloc (.cells #[.slice A8 PL.length c8] 24)).grown hg9 (by intro h; have := (HB.out _ h.symm).1; omega); have u1 := p9.cell (j := 1) rfl; have u3 := p9.cell (j := 3) rfl; have f3 := p9.frozen 3; obtain ⟨A9, c9, rfl, hr9'⟩ := row_form hr9)
          refine hK.out _ _ ?_ (fun hHeld => ?_)
          · (try dsimp only); first | exact ⟨cell_drew q1, cell_drew q3⟩ | exact ⟨t1, t3⟩ | exact ⟨cell_alloc t1 _, cell_alloc t3 _⟩ | exact ⟨u1, u3⟩
          clear hK K
          try simp only [Act.put, List.setIfInBounds_toArray, List.set_cons_zero, List.set_cons_succ]
          refine x_take (i := 10) (oi := { dst := some 98, op := Op.fieldAddr 27 (Operand.tmp 11) 3, type := 0, pos := "tree.go:148", after := #[{ on := 0, ground := Ground.phase }, { on := 1, ground := Ground.phase }, { on := 2, ground := Ground.phase }, { on := 3, ground := Ground.phase }, { on := 4, ground := Ground.phase }, { on := 5, ground := Ground.phase }, { on := 6, ground := Ground.phase }, { on := 7, ground := Ground.phase }, { on := 8, ground := Ground.phase }, { on := 9, ground := Ground.phase }], guard := none }) (v := ?_) rfl (by kernel_rfl) (by kernel_rfl) (by kernel_rfl) (by kernel_rfl) (by kernel_rfl) (fun _ _ _ h => h) (Or.inl ⟨rfl, ?_⟩) (by assumption) ?_
          rotate_left
          · (intro w hSw; (try dsimp only at hSw); (try obtain ⟨hSa, hSb⟩ := hSw); (try obtain ⟨hSb, hSc⟩ := hSb); (try obtain ⟨hSc, hSd⟩ := hSc); (try obtain ⟨hSd, hSe⟩ := hSd); (try obtain ⟨hSe, hSf⟩ := hSe); go_simp; try with_reducible rfl)
          try simp only [Act.put, List.setIfInBounds_toArray, List.set_cons_zero, List.set_cons_succ]
          refine x_last (i := 11) (o := { dst := none, op := Op.store 25 (Operand.tmp 98) (Operand.tmp 97), type := 0, pos := "tree.go:148", after := #[{ on := 10, ground := Ground.data }, { on := 9, ground := Ground.data }, { on := 9, ground := Ground.chain }, { on := 0, ground := Ground.phase }, { on := 1, ground := Ground.phase }, { on := 2, ground := Ground.phase }, { on := 3, ground := Ground.phase }, { on := 4, ground := Ground.phase }, { on := 5, ground := Ground.phase }, { on := 6, ground := Ground.phase }, { on := 7, ground := Ground.phase }, { on := 8, ground := Ground.phase }, { on := 9, ground := Ground.phase }], guard := none }) (by kernel_rfl) rfl (by simp) (fun K hK => ?_)
          go_simp
          refine hK.out _ _ ?_
          clear hK K
          try simp only [Act.put, List.setIfInBounds_toArray, List.set_cons_zero, List.set_cons_succ]
          refine x_done (by kernel_rfl) ?_ _
          have pp := p9.set 3 (.slice A9 (k + 1) c9)
          have pr := ownsRow_setCell_below hr9' (a := ⟨w3.heap.size, 3, none⟩) (by dsimp only; omega) (.slice A9 (k + 1) c9)
          have lsd := ls.kept (kept_drew (kept_refl wr))
          have K1 : Keep3 wr w8 := keep3_trans (keep3_kept (kept_drew (kept_refl wr))) (keep3_kb lsd kb8)
          have K2 := step_keep3 (j := 3) (hw8.alloc (.cells #[.slice A8 PL.length c8] 24)) hg9 p9 (.slice A9 (k + 1) c9)
          have R2 : w8.heap.size = w8.heap.size := rfl
          have prv := ((rv.keep K1).snoc (ro_row hr8')).keep K2
          rw [show chop M k L2 ++ [PL] = chop M (k + 1) L2 by rw [HPL.out, ← chop_snoc]] at prv
          have prl := (rl.keep K1).keep K2
          have nB : some (w.heap.size + 1) ≠ v.ownBlock := by intro h; have := (HB.out _ h.symm).1; omega
          have nR : some w.heap.size ≠ v.ownBlock := by intro h; have := (HB.out _ h.symm).1; omega
          have pls := ls8.keep K2 (step_blk (j := 3) hg9 (.slice A9 (k + 1) c9) ls8.lt nB zBG)
          rw [List.drop_drop, show k * M + M = (k + 1) * M by rw [Nat.add_mul, Nat.one_mul]] at pls
          have oR8 := oR.drew.grown kb8 (by intro h; injection h with h; omega)
          have poR := oR8.of_block (step_blk (j := 3) hg9 (.slice A9 (k + 1) c9) oR8.lt nR zRG)
          have kw8 := kept_kb (kept_drew kw) kb8 (Nat.le_succ _)
          have kw9 := kept_grown (kept_alloc kw8 (.cells #[.slice A8 PL.length c8] 24)) (hw8.alloc (.cells #[.slice A8 PL.length c8] 24)) (by omega) hg9
          have pkw := kept_set (g := w3.heap.size) (j := 3) kw9 (Nat.le_of_lt zs) (.slice A9 (k + 1) c9)
          clear K1 K2 rv rl ls ls8 oR oR8 kw kw8 kw9 kb8 hg9 hr8 hr8' hr9 hr9' hw8 p8 p9 t1 t3 u1 u3 f3 lsd nB nR
          go_wp2_with fail
          go_roundg (N - 1 - (k + 1))
          case rel => exact ⟨k + 1, _, _, by omega, rfl, by go_num, pp, pr, prv, prl, pls, poR, pkw⟩
          case measure => omega
        · have : k = N - 1 := by omega
          subst this
          have dk : decide (((N - 1 : Nat) : Int) < (N : Int) - 1) = false := decide_eq_false (by omega)
          obtain ⟨A9, c9, rfl, hr9⟩ := row_form hr
          have hsl := HSL.out
          subst hsl
          clear HSL
          go_upto_region 22 with (fail)
          clear dk
          have hT := HT.out
          obtain ⟨t1, t2, t3, t4⟩ := hT
          have tl : t.tb.length = N - 1 := by rw [t4, chop_length]
          have hsm : ∀ x ∈ chop M (N - 1) L2, x.length ≤ 140737488355328 := fun x hx => Nat.le_trans (chop_small M (N - 1) L2 x hx) (by omega)
          have RTT : RT wr A9 t.tb := by rw [t4]; exact rt_of (row_rd hr9) (rv.rv hsm)
          have C11 : Calls Tryz.prog 62 #[.agg #[.int .i64 (hn' : Int), .int .i64 (bn : Int), .slice A6 lv.length c6, .slice A9 (N - 1) c9]] wr (TextPost t wr) := by
            have := text11_any t A6 c6 A9 c9 wr (by rw [t3]; exact rl.rd.1) RTT (by rw [t3]; omega) (by rw [tl]; omega)
            unfold trV at this
            rw [t1, t2, t3, tl] at this
            exact this
          unfold TextPost at C11
          have HSM := Lib.hid hsm
          clear RTT t1 t2 t3 t4 hsm
          cases hv : validT t with
          | false =>
            have hp := HPP.out
            rw [if_neg (by rw [hv]; rintro ⟨h, _⟩; cases h)] at hp
            simp only [hv, Bool.false_eq_true, if_false] at C11
            have HP := Lib.hid hp
            have HC := Lib.hid C11
            clear hp C11 hv
            go_wp2_with (go_at_call 62; ((with_reducible refine HC.out.mono ?_); rintro e w9 ⟨rfl, k9⟩; have oR9 := oR.kept k9; have kw9 := kept_trans kw k9; have e0 := oR9.cell (j := 0) rfl; have e1 := oR9.cell (j := 1) rfl; have e2 := oR9.cell (j := 2) rfl; have e3 := oR9.cell (j := 3) rfl; have f0 := oR9.frozen 0; have f1 := oR9.frozen 1; have f2 := oR9.frozen 2; have f3 := oR9.frozen 3))
            have o3 := own_set4 oR9 (.int .i64 0) (.int .i64 0) (.slice none 0 0) (.slice none 0 0)
            have pk := kept_set4 kw9 (Nat.le_refl _) (.int .i64 0) (.int .i64 0) (.slice none 0 0) (.slice none 0 0)
            unfold set4 at o3 pk
            obtain ⟨W2, hW2⟩ : ∃ W2, W2 = (((w9.setCell ⟨w.heap.size, 0, none⟩ (.int .i64 0)).setCell ⟨w.heap.size, 1, none⟩ (.int .i64 0)).setCell ⟨w.heap.size, 2, none⟩ (.slice none 0 0)).setCell ⟨w.heap.size, 3, none⟩ (.slice none 0 0) := ⟨_, rfl⟩
            rw [← hW2] at pk o3 ⊢
            clear hW2 e0 e1 e2 e3
            have q0 := o3.cell (j := 0) rfl; have q1 := o3.cell (j := 1) rfl; have q2 := o3.cell (j := 2) rfl; have q3 := o3.cell (j := 3) rfl
            exact bodyPost_ret (v := .tuple #[.agg #[.int .i64 0, .int .i64 0, .slice none 0 0, .slice none 0 0], .int .i64 3]) (by simp [results, Tryz.results13, go_sem, q0, q1, q2, q3]) rfl (pp_none HP.out pk)
          | true =>
            by_cases hb : (textT t).length ≤ 40000
            rotate_left
            · have hp := HPP.out
              rw [if_neg (by rintro ⟨_, h, _⟩; exact hb h)] at hp
              simp only [hv, if_true, if_neg hb] at C11
              have HP := Lib.hid hp
              have HC := Lib.hid C11
              clear hp C11 hv hb
              go_wp2_with (go_at_call 62; ((with_reducible refine HC.out.mono ?_); rintro e w9 ⟨rfl, k9⟩; have oR9 := oR.kept k9; have kw9 := kept_trans kw k9; have e0 := oR9.cell (j := 0) rfl; have e1 := oR9.cell (j := 1) rfl; have e2 := oR9.cell (j := 2) rfl; have e3 := oR9.cell (j := 3) rfl; have f0 := oR9.frozen 0; have f1 := oR9.frozen 1; have f2 := oR9.frozen 2; have f3 := oR9.frozen 3))
              have o3 := own_set4 oR9 (.int .i64 0) (.int .i64 0) (.slice none 0 0) (.slice none 0 0)
              have pk := kept_set4 kw9 (Nat.le_refl _) (.int .i64 0) (.int .i64 0) (.slice none 0 0) (.slice none 0 0)
              unfold set4 at o3 pk
              obtain ⟨W2, hW2⟩ : ∃ W2, W2 = (((w9.setCell ⟨w.heap.size, 0, none⟩ (.int .i64 0)).setCell ⟨w.heap.size, 1, none⟩ (.int .i64 0)).setCell ⟨w.heap.size, 2, none⟩ (.slice none 0 0)).setCell ⟨w.heap.size, 3, none⟩ (.slice none 0 0) := ⟨_, rfl⟩
              rw [← hW2] at pk o3 ⊢
              clear hW2 e0 e1 e2 e3
              have q0 := o3.cell (j := 0) rfl; have q1 := o3.cell (j := 1) rfl; have q2 := o3.cell (j := 2) rfl; have q3 := o3.cell (j := 3) rfl
              exact bodyPost_ret (v := .tuple #[.agg #[.int .i64 0, .int .i64 0, .slice none 0 0, .slice none 0 0], .int .i64 3]) (by simp [results, Tryz.results13, go_sem, q0, q1, q2, q3]) rfl (pp_none HP.out pk)
            simp only [hv, if_true, if_pos hb] at C11
            obtain ⟨S, hS⟩ : ∃ S : ByteArray, S = ⟨(textT t).toArray⟩ := ⟨_, rfl⟩
            rw [← hS] at C11
            have hSl : S.toList = textT t := by rw [ByteArray.toList_eq, hS]
            have hsl : s.toList = s.data.toList := ByteArray.toList_eq s
            have HC := Lib.hid C11
            by_cases hst : textT t = s.data.toList
            rotate_left
            · have hp := HPP.out
              rw [if_neg (by rintro ⟨_, _, h⟩; exact hst h)] at hp
              have ds : (S.toList == s.toList) = false := by rw [hSl, hsl]; simpa using hst
              have HP := Lib.hid hp
              clear hp C11 hv hb hst hSl hsl hS
              go_wp2_with (go_at_call 62; ((with_reducible refine HC.out.mono ?_); rintro e w9 ⟨rfl, k9⟩; have oR9 := oR.kept k9; have kw9 := kept_trans kw k9; have e0 := oR9.cell (j := 0) rfl; have e1 := oR9.cell (j := 1) rfl; have e2 := oR9.cell (j := 2) rfl; have e3 := oR9.cell (j := 3) rfl; have f0 := oR9.frozen 0; have f1 := oR9.frozen 1; have f2 := oR9.frozen 2; have f3 := oR9.frozen 3))
              have o3 := own_set4 oR9 (.int .i64 0) (.int .i64 0) (.slice none 0 0) (.slice none 0 0)
              have pk := kept_set4 kw9 (Nat.le_refl _) (.int .i64 0) (.int .i64 0) (.slice none 0 0) (.slice none 0 0)
              unfold set4 at o3 pk
              obtain ⟨W2, hW2⟩ : ∃ W2, W2 = (((w9.setCell ⟨w.heap.size, 0, none⟩ (.int .i64 0)).setCell ⟨w.heap.size, 1, none⟩ (.int .i64 0)).setCell ⟨w.heap.size, 2, none⟩ (.slice none 0 0)).setCell ⟨w.heap.size, 3, none⟩ (.slice none 0 0) := ⟨_, rfl⟩
              rw [← hW2] at pk o3 ⊢
              clear hW2 e0 e1 e2 e3
              have q0 := o3.cell (j := 0) rfl; have q1 := o3.cell (j := 1) rfl; have q2 := o3.cell (j := 2) rfl; have q3 := o3.cell (j := 3) rfl
              exact bodyPost_ret (v := .tuple #[.agg #[.int .i64 0, .int .i64 0, .slice none 0 0, .slice none 0 0], .int .i64 3]) (by simp [results, Tryz.results13, go_sem, q0, q1, q2, q3]) rfl (pp_none HP.out pk)
            have hp := HPP.out
            rw [if_pos ⟨hv, hb, hst⟩] at hp
            have ds : (S.toList == s.toList) = true := by rw [hSl, hsl]; simpa using hst
            have HP := Lib.hid hp
            clear hp C11 hv hb hst hSl hsl hS
            go_wp2_with (go_at_call 62; ((with_reducible refine HC.out.mono ?_); rintro e w9 ⟨rfl, k9⟩; have oR9 := oR.kept k9; have kw9 := kept_trans kw k9; have o9 := o5.kept k9; have q0 := o9.cell (j := 0) rfl; have q1 := o9.cell (j := 1) rfl; have q2 := o9.cell (j := 2) rfl; have q3 := o9.cell (j := 3) rfl; have e0 := oR9.cell (j := 0) rfl; have e1 := oR9.cell (j := 1) rfl; have e2 := oR9.cell (j := 2) rfl; have e3 := oR9.cell (j := 3) rfl; have f0 := oR9.frozen 0; have f1 := oR9.frozen 1; have f2 := oR9.frozen 2; have f3 := oR9.frozen 3))
            have o3 := own_set4 oR9 (.int .i64 (hn' : Int)) (.int .i64 (bn : Int)) (.slice A6 lv.length c6) (.slice A9 (N - 1) c9)
            have pk := kept_set4 kw9 (Nat.le_refl _) (.int .i64 (hn' : Int)) (.int .i64 (bn : Int)) (.slice A6 lv.length c6) (.slice A9 (N - 1) c9)
            have pr := row_set4 (row_kept hr9 k9) (g := w.heap.size) (by omega) (.int .i64 (hn' : Int)) (.int .i64 (bn : Int)) (.slice A6 lv.length c6) (.slice A9 (N - 1) c9)
            have K9 : Keep3 wr (set4 w9 w.heap.size (.int .i64 (hn' : Int)) (.int .i64 (bn : Int)) (.slice A6 lv.length c6) (.slice A9 (N - 1) c9)) := keep3_trans (keep3_kept k9) (keep3_set4 oR9 (by decide) _ _ _ _)
            have prl := rl.keep K9
            have prv := (rv.keep K9).rv HSM.out
            unfold set4 at o3 pk pr prl prv
            clear K9
            obtain ⟨W2, hW2⟩ : ∃ W2, W2 = (((w9.setCell ⟨w.heap.size, 0, none⟩ (.int .i64 (hn' : Int))).setCell ⟨w.heap.size, 1, none⟩ (.int .i64 (bn : Int))).setCell ⟨w.heap.size, 2, none⟩ (.slice A6 lv.length c6)).setCell ⟨w.heap.size, 3, none⟩ (.slice A9 (N - 1) c9) := ⟨_, rfl⟩
            rw [← hW2] at pk o3 pr prl prv ⊢
            clear hW2 e0 e1 e2 e3 q0 q1 q2 q3 f0 f1 f2 f3
            have q0 := o3.cell (j := 0) rfl; have q1 := o3.cell (j := 1) rfl; have q2 := o3.cell (j := 2) rfl; have q3 := o3.cell (j := 3) rfl
            obtain ⟨t1, t2, t3, t4⟩ := HT.out
            refine bodyPost_ret (v := .tuple #[.agg #[.int .i64 (hn' : Int), .int .i64 (bn : Int), .slice A6 lv.length c6, .slice A9 (N - 1) c9], .int .i64 0]) (by simp [results, Tryz.results13, go_sem, q0, q1, q2, q3]) rfl ?_
            exact pp_some (t := t) (A := A6) (c := c6) (T := A9) (d := c9) HP.out (by unfold trV; rw [t1, t2, t3, tl]) (by rw [t3]; exact prl.rd.1) (by rw [t4]; exact rt_of (row_rd pr) prv) pk
end Go.Proofs.YtikfeemmjfoffaaGreatDoor

/- Trees: the examples of the chapter; what both laws need. -/
set_option linter.unusedVariables false
set_option linter.unusedSimpArgs false
namespace Go.Proofs.YtikfeemmjfoffaaGreatDoor
open Go.RowKit Go.Shelf

abbrev exA : ByteArray := ⟨#[49, 32, 49, 32, 48, 32, 49, 32, 48, 32, 49, 32, 49, 32, 48]⟩
abbrev exB : ByteArray := ⟨#[48, 32, 50, 32, 51]⟩
def trA : Tr := ⟨1, 1, [0, 1], [[0, 1, 1, 0]]⟩
def trB : Tr := ⟨0, 2, [3], []⟩
theorem pA : parseP exA.data.toList = some trA := parseP_iff.2 ⟨by decide +kernel, by decide +kernel, by decide +kernel⟩
theorem pB : parseP exB.data.toList = some trB := parseP_iff.2 ⟨by decide +kernel, by decide +kernel, by decide +kernel⟩
theorem vA : valW trA 0 = 1 := by
  rw [valW_node (by decide), valW_leaf (t := trA) (n := 2 * 0 + 1) (by decide), valW_leaf (t := trA) (n := 2 * 0 + 2) (by decide)]
  decide +kernel
theorem vB : valW trB 0 = 3 := by
  rw [valW_leaf (t := trB) (n := 0) (by decide)]
  rfl
theorem gA : validT trA = true := by decide +kernel
theorem gB : validT trB = true := by decide +kernel

theorem parse13_all (s : ByteArray) (w : World) (hlib : LibOk w) : Calls Tryz.prog 25 #[.string s] w (PParsePost s w) := by
  by_cases h : s.size ≤ 40000
  · exact parse13_any s h w hlib
  · exact parse13_long s (by omega) w
def OkParse (t : Tr) (w : World) (e : Ending) (w' : World) : Prop := ∃ A c T d, e = .returned (.tuple #[trV t A c T d, .int .i64 0]) ∧ Rd w' A (ints t.lv) ∧ RT w' T t.tb ∧ Kept w w'
theorem parse13_ok (s : ByteArray) (t : Tr) (hp : parseP s.data.toList = some t) (w : World) (hlib : LibOk w) : Calls Tryz.prog 25 #[.string s] w (OkParse t w) := by
  have := parse13_all s w hlib
  unfold PParsePost at this
  rw [hp] at this
  exact this

set_option maxRecDepth 100000 in
set_option maxHeartbeats 1000000 in
theorem alive8 (w : World) (hlib : LibOk w) : Calls Tryz.prog 7 #[] w fun e w' => e = .returned (.bool true) ∧ Kept w w' := by
  have CA := Lib.hid fun (w' : World) (k : Kept w w') => parse13_ok exA trA pA w' (hlib.kept k)
  have CB := Lib.hid fun (w' : World) (k : Kept w w') => parse13_ok exB trB pB w' (hlib.kept k)
  have EA := Lib.hid fun (A : Option Addr) (c : Nat) (T : Option Addr) (d : Nat) (w' : World) (hA : Rd w' A (ints trA.lv)) (hT : RT w' T trA.tb) => show Calls Tryz.prog 18 #[.agg #[.int .i64 1, .int .i64 1, .slice A 2 c, .slice T 1 d]] w' fun e w'' => e = .returned (.tuple #[.int .i64 1, .int .i64 0]) ∧ Kept w' w'' from by
    have := eval16_yes trA gA A c T d w' hA hT
    rw [vA] at this
    exact this
  have EB := Lib.hid fun (A : Option Addr) (c : Nat) (T : Option Addr) (d : Nat) (w' : World) (hA : Rd w' A (ints trB.lv)) (hT : RT w' T trB.tb) => show Calls Tryz.prog 18 #[.agg #[.int .i64 0, .int .i64 2, .slice A 1 c, .slice T 0 d]] w' fun e w'' => e = .returned (.tuple #[.int .i64 3, .int .i64 0]) ∧ Kept w' w'' from by
    have := eval16_yes trB gB A c T d w' hA hT
    rw [vB] at this
    exact this
  clear hlib
  go_enter Tryz.func7, Tryz.ntmps7
  go_wp2_with (first
    | (go_at_call 25; ((with_reducible refine (CA.out _ (kept_refl w)).mono ?_); rintro e w1 ⟨A1, c1, T1, d1, rfl, r1, rt1, k1⟩; have ka1 := kept_alloc k1 (.cells #[.int .i64 1, .int .i64 1, .slice A1 2 c1, .slice T1 1 d1] 27); unfold trV trA; dsimp only [List.length_cons, List.length_nil]))
    | (go_at_call 18; ((with_reducible refine (EA.out _ _ _ _ _ (r1.kept (kept_alloc (kept_refl w1) _)) (rt1.kept (kept_alloc (kept_refl w1) _))).mono ?_); rintro e w2 ⟨rfl, k2⟩; have ka2 := kept_trans ka1 k2))
    | (go_at_call 25; ((with_reducible refine (CB.out _ ka2).mono ?_); rintro e w3 ⟨A3, c3, T3, d3, rfl, r3, rt3, k3⟩; have ka3 := kept_alloc (kept_trans ka2 k3) (.cells #[.int .i64 0, .int .i64 2, .slice A3 1 c3, .slice T3 0 d3] 27); have ob := Own.new w3 27 [.int .i64 0, .int .i64 2, .slice A3 1 c3, .slice T3 0 d3]; unfold trV trB; dsimp only [List.length_cons, List.length_nil]))
    | (go_at_call 18; ((with_reducible refine (EB.out _ _ _ _ _ (r3.kept (kept_alloc (kept_refl w3) _)) (rt3.kept (kept_alloc (kept_refl w3) _))).mono ?_); rintro e w4 ⟨rfl, k4⟩; have ka4 := kept_trans ka3 k4; have t3 := (ob.kept k4).cell (j := 3) rfl)))
  go_ret
  exact ⟨rfl, ka4⟩
end Go.Proofs.YtikfeemmjfoffaaGreatDoor
