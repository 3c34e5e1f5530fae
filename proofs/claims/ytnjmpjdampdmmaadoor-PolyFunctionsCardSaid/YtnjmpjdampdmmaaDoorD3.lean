/- The law's lists of points. -/
import Derived.Test.YtnjmpjdampdmmaaDoorC29
set_option linter.unusedVariables false
set_option linter.unusedSimpArgs false
namespace Go.Proofs.YtnjmpjdampdmmaaDoor
open Go.RowKit Go.Shelf

/-! ### Few points -/
def fwT (q : Int) : Nat → Int → Int
  | 0, a => a
  | k + 1, a => if a ≤ 256 then fwT q k (a * q) else a
def fewQ (q : Int) (n : Nat) : Bool := decide (0 < q) && decide (fwT q n 1 ≤ 256)
theorem fwT_over {q a : Int} (h : ¬ a ≤ 256) : ∀ k, fwT q k a = a
  | 0 => rfl
  | k + 1 => by rw [fwT, if_neg h]
theorem fwT_pow {q : Int} : ∀ (k : Nat) (a : Int), fwT q k a ≤ 256 → fwT q k a = a * q ^ k
  | 0, a, _ => by simp [fwT]
  | k + 1, a, h => by
    by_cases ha : a ≤ 256
    · rw [fwT, if_pos ha] at h ⊢
      rw [fwT_pow k _ h, Int.pow_succ, Int.mul_assoc, Int.mul_comm q]
    · rw [fwT_over ha] at h
      exact absurd h ha
set_option maxRecDepth 100000 in
set_option maxHeartbeats 1000000 in
theorem few35_any (q : Int) (n : Nat) (w : World) (h0 : 0 ≤ q) (hq : q ≤ 65536) (hn : n ≤ 8) : Calls Tryd.prog 35 #[.int .i64 q, .int .i64 n] w fun e w' => e = .returned (.bool (fewQ q n)) ∧ Kept w w' := by
  go_enter Tryd.func35, Tryd.ntmps35
  go_wp2_with fail
  go_loopg [5, 6] n (fun G s5 s6 wr => ∃ (k : Nat) (a : Int), k ≤ n ∧ G = n - k ∧ s5 = .int .i64 a ∧ s6 = .int .i64 k ∧ 0 ≤ a ∧ Hid (fwT q (n - k) a = fwT q n 1) ∧ Kept w wr)
  case atStart => exact ⟨0, 1, by omega, rfl, rfl, rfl, by omega, Lib.hid rfl, kept_refl _⟩
  case round =>
    obtain ⟨k, a, hk, rfl, rfl, rfl, ha, HF, K0⟩ := hrel
    by_cases hkn : k < n
    · have d1 : decide ((k : Int) < (n : Int)) = true := decide_eq_true (by omega)
      have d2 : decide (k < n) = true := decide_eq_true (by omega)
      by_cases hle : a ≤ 256
      · have e1 : decide (a ≤ 256) = true := decide_eq_true hle
        have hm0 : 0 ≤ a * q := Int.mul_nonneg ha h0
        have hm1 : a * q ≤ 256 * 65536 := Int.mul_le_mul hle hq h0 (by omega)
        obtain ⟨b, hb⟩ : ∃ b, b = a * q := ⟨_, rfl⟩
        rw [← hb] at hm0 hm1
        have ew : IntKind.i64.wrap (a * q) = b := by rw [← hb]; exact IntWalk.i64_in _ (by omega)
        have ew2 : wrap64 (a * q) = b := by rw [← hb]; exact IntWalk.wrap64_in _ (by omega)
        have ek : IntKind.i64.wrap ((k : Nat) : Int) = k := IntWalk.i64_in _ (by omega)
        have HB := Lib.hid (show fwT q (n - (k + 1)) b = fwT q n 1 by
          rw [← HF.out, show n - k = (n - (k + 1)) + 1 by omega, fwT, if_pos hle, hb])
        clear hb hle
        go_wp2_with fail
        go_roundg (n - (k + 1))
        case rel => exact ⟨k + 1, b, by omega, rfl, rfl, by go_num, hm0, HB, K0⟩
        case measure => omega
      · have e1 : decide (a ≤ 256) = false := decide_eq_false hle
        have HR := Lib.hid (show decide (a ≤ 256) = decide (fwT q n 1 ≤ 256) by rw [← HF.out, fwT_over hle])
        have HL := Lib.hid hle
        clear hle
        by_cases hq0 : 0 < q
        · have e2 : decide (0 < q) = true := decide_eq_true hq0
          have HQ := Lib.hid (show false = fewQ q n by unfold fewQ; rw [← HR.out, e1, Bool.and_false])
          go_wp2_with fail
          go_ret
          exact ⟨by rw [← HQ.out]; rfl, K0⟩
        · have e2 : decide (0 < q) = false := decide_eq_false hq0
          have HQ := Lib.hid (show false = fewQ q n by unfold fewQ; rw [← HR.out, e1, Bool.and_false])
          go_wp2_with fail
          go_ret
          exact ⟨by rw [← HQ.out]; rfl, K0⟩
    · obtain rfl : k = n := by omega
      have d1 : decide ((k : Int) < (k : Int)) = false := decide_eq_false (by omega)
      have HA := Lib.hid (show a = fwT q k 1 by have := HF.out; rw [Nat.sub_self] at this; exact this)
      have HQ := Lib.hid (show (decide (0 < q) && decide (a ≤ 256)) = fewQ q k by unfold fewQ; rw [← HA.out])
      cases hqb : decide (0 < q) with
      | true =>
        have e2 := hqb
        rw [hqb, Bool.true_and] at HQ
        go_wp2_with fail
        go_ret
        exact ⟨by rw [← HQ.out]; rfl, K0⟩
      | false =>
        rw [hqb, Bool.false_and] at HQ
        go_wp2_with fail
        go_ret
        exact ⟨by rw [← HQ.out]; rfl, K0⟩
/-! ### The points -/
def nxt (q : Nat) (l : List Int) : List (List Int) := (List.range q).map fun a : Nat => l ++ [(a : Int)]
def ptsT (q : Nat) : Nat → List (List Int)
  | 0 => [[]]
  | n + 1 => (ptsT q n).flatMap (nxt q)
theorem nxt_len (q : Nat) (l : List Int) : (nxt q l).length = q := by simp [nxt]
theorem flat_len (q : Nat) : ∀ L : List (List Int), (L.flatMap (nxt q)).length = L.length * q
  | [] => by simp
  | l :: L => by rw [List.flatMap_cons, List.length_append, nxt_len, flat_len q L, List.length_cons, Nat.add_mul]; omega
theorem ptsT_len (q : Nat) : ∀ n, (ptsT q n).length = q ^ n
  | 0 => rfl
  | n + 1 => by rw [ptsT, flat_len, ptsT_len q n, Nat.pow_succ]
theorem ptsT_mem {q : Nat} : ∀ {n : Nat} {l : List Int}, l ∈ ptsT q n ↔ l.length = n ∧ ∀ x ∈ l, 0 ≤ x ∧ x < (q : Int)
  | 0, l => by
    constructor
    · intro h
      rw [List.mem_singleton.1 h]
      exact ⟨rfl, by simp⟩
    · rintro ⟨h, _⟩
      rw [List.eq_nil_of_length_eq_zero h]
      exact List.mem_singleton.2 rfl
  | n + 1, l => by
    rw [ptsT, List.mem_flatMap]
    constructor
    · rintro ⟨u, hu, hl⟩
      obtain ⟨a, ha, rfl⟩ := List.mem_map.1 hl
      have h := ptsT_mem.1 hu
      have ha' := List.mem_range.1 ha
      refine ⟨by simp [h.1], fun x hx => ?_⟩
      rcases List.mem_append.1 hx with hx | hx
      · exact h.2 x hx
      · rw [List.mem_singleton.1 hx]; omega
    · rintro ⟨h, hx⟩
      have hne : l ≠ [] := fun e => by rw [e] at h; simp at h
      have hg := hx _ (List.getLast_mem hne)
      refine ⟨l.dropLast, ptsT_mem.2 ⟨by simp [h], fun x hx' => hx x (List.dropLast_subset l hx')⟩, ?_⟩
      refine List.mem_map.2 ⟨(l.getLast hne).toNat, List.mem_range.2 (by omega), ?_⟩
      rw [show ((l.getLast hne).toNat : Int) = l.getLast hne by omega]
      exact List.dropLast_concat_getLast hne
theorem pre_len {q k a : Nat} {L : List (List Int)} {l : List Int} (hk : k < L.length) (ha : a ≤ q) : ((L.take k).flatMap (nxt q) ++ (List.range a).map fun a : Nat => l ++ [(a : Int)]).length ≤ (L.flatMap (nxt q)).length := by
  rw [List.length_append, flat_len, flat_len, List.length_take, Nat.min_eq_left (by omega), List.length_map, List.length_range]
  have h1 : (k + 1) * q ≤ L.length * q := Nat.mul_le_mul_right q hk
  rw [Nat.add_mul, Nat.one_mul] at h1
  omega
/-- A list of numbers that lies in a row of its own. -/
structure Li where
  A : Option Addr
  cap : Nat
  l : List Int
def valLi (y : Li) : Value := .slice y.A y.l.length y.cap
def okLi (y : Li) (w : World) : Prop := w.ownsRow 0 3 1 (valLi y) y.l.length (ints y.l)
theorem okLi.kept {y : Li} {w w' : World} (h : okLi y w) (k : Kept w w') : okLi y w' := row_kept h k
theorem okLi.grow {y : Li} {w w' : World} {B sz n : Nat} {e : TypeId} {v : Value} {cs : List Value} (h : okLi y w) (hr : w.ownsRow B e sz v n cs) (ne : 3 ≠ e) (hg : w.grownBy w' v.ownBlock) : okLi y w' :=
  World.ownsRow.kept h hg (rows_apart h hr ne)
theorem one_lis (c : Value) (h : c.oneCell' = true) : ∀ u ∈ [c], u.oneCell' = true := fun u hu => by rw [List.mem_singleton.1 hu]; exact h
/-- Lists of numbers read through a list of slices. -/
def RLL (w : World) (A : Option Addr) (ls : List (List Int)) : Prop := ∀ j, j < ls.length → ∃ b off E c, A = some ⟨b, off, none⟩ ∧ w.cell? ⟨b, off + j, none⟩ = some (.slice E (ls.getD j []).length c) ∧ Rd w E (ints (ls.getD j []))
theorem RLL.kept {w w' : World} {A : Option Addr} {ls : List (List Int)} (h : RLL w A ls) (k : Kept w w') : RLL w' A ls := fun j hj => by
  obtain ⟨b, off, E, c, rfl, h1, h2⟩ := h j hj
  exact ⟨b, off, E, c, rfl, kept_cell k h1, h2.kept k⟩
theorem rll_of_row {w : World} {B cap : Nat} {A : Option Addr} {L : List Li} (h : w.ownsRow B 56 1 (.slice A L.length cap) L.length (L.map valLi)) (ex : ∀ y ∈ L, okLi y w) : RLL w A (L.map Li.l) := fun j hj => by
  have hj' : j < L.length := by simpa using hj
  have hr := row_rd h
  have e0 : (L.map valLi)[j]? = some (valLi (L[j]'hj')) := by simp [hj']
  obtain ⟨b, off, e, hc⟩ := hr.at_ (by intro h0; rw [h0] at e0; simp at e0)
  have et : (L.map Li.l).getD j [] = (L[j]'hj').l := by simp [List.getD_eq_getElem?_getD, hj']
  rw [et]
  exact ⟨b, off, (L[j]'hj').A, (L[j]'hj').cap, e, hc _ _ e0, row_rd (ex _ (List.getElem_mem hj'))⟩
theorem info56 : (Tryd.prog.info? 56).map (fun i => (i.zero, i.size, i.bytes)) = some (some (.slice none 0 0), 1, 24) := by kernel_rfl
set_option maxRecDepth 100000 in
set_option maxHeartbeats 1000000 in
theorem points37_any (q n : Nat) (w : World) (hn : n ≤ 8) (hq : q ≤ 65536) (hp : ∀ i, i ≤ n → q ^ i ≤ 256) : Calls Tryd.prog 37 #[.int .i64 q, .int .i64 n] w fun e w' => ∃ A' c', e = .returned (.slice A' (ptsT q n).length c') ∧ RLL w' A' (ptsT q n) ∧ Kept w w' := by
  have HP := Lib.hid hp
  clear hp
  go_enter Tryd.func37, Tryd.ntmps37
  go_wp2_with fail
  obtain ⟨w0, hw0⟩ : ∃ w0, w0 = (w.alloc (.cells #[] 3)).alloc (.cells #[.slice (some ⟨w.heap.size, 0, none⟩) 0 0] 56) := ⟨_, rfl⟩
  have K0 : Kept w w0 := by rw [hw0]; exact kept_alloc (kept_alloc (kept_refl w) _) _
  have hr0 : w0.ownsRow w.heap.size 56 1 (.slice (some ⟨w.heap.size + 1, 0, none⟩) 1 1) 1 ([(⟨some ⟨w.heap.size, 0, none⟩, 0, []⟩ : Li)].map valLi) := by
    have h5 := (Own.new (w.alloc (.cells #[] 3)) 56 [.slice (some ⟨w.heap.size, 0, none⟩) 0 0]).row w.heap.size 1 1 (by simp) rfl (by omega)
    rw [hw0]
    simpa [valLi] using h5
  have hl0 : okLi ⟨some ⟨w.heap.size, 0, none⟩, 0, []⟩ w0 := by
    have h5 := (Own.new w 3 []).row 0 1 0 (Nat.zero_le _) rfl (by omega)
    rw [hw0]
    exact row_kept h5 (kept_alloc (kept_refl _) _)
  (try rw [← hw0])
  clear hw0
  go_loopg [5, 6, 7, 8, 9] n (fun G s5 s6 s7 s8 s9 wr => ∃ (i : Nat) (L : List Li) (v7 v8 v9 : Value), i ≤ n ∧ G = n - i ∧ s6 = .int .i64 i ∧ s7 = v7 ∧ s8 = v8 ∧ s9 = v9 ∧ wr.ownsRow w.heap.size 56 1 s5 L.length (L.map valLi) ∧ Hid (L.map Li.l = ptsT q i) ∧ Hid (∀ y ∈ L, okLi y wr) ∧ Kept w wr)
  case atStart => exact ⟨0, [⟨some ⟨w.heap.size, 0, none⟩, 0, []⟩], _, _, _, by omega, rfl, rfl, rfl, rfl, rfl, hr0, Lib.hid rfl, Lib.hid (by intro y hy; rw [List.mem_singleton.1 hy]; exact hl0), K0⟩
  case round =>
    clear K0 hr0 hl0
    obtain ⟨i, L, v7, v8, v9, hi, rfl, rfl, rfl, rfl, rfl, h5, HL, HK, K1⟩ := hrel
    obtain ⟨A5, c5, rfl⟩ := row_val h5
    by_cases hit : i < n
    · have d1 : decide ((i : Int) < (n : Int)) = true := decide_eq_true (by omega)
      have d2 : decide (i < n) = true := decide_eq_true (by omega)
      have HN := Lib.hid (show ((L.map Li.l).flatMap (nxt q)).length ≤ 256 by
        rw [HL.out]
        have := ptsT_len q (i + 1)
        rw [ptsT] at this
        rw [this]
        exact HP.out (i + 1) (by omega))
      obtain ⟨wi, rfl⟩ : ∃ x, x = wr := ⟨_, rfl⟩
      have HRL := Lib.hid (rll_of_row h5 HK.out)
      obtain ⟨LL, hLL⟩ : ∃ LL, LL = L.map Li.l := ⟨_, rfl⟩
      have hlen : L.length = LL.length := by rw [hLL, List.length_map]
      rw [← hLL] at HL HN HRL
      rw [hlen] at h5 ⊢
      have hll : ∀ k, k < LL.length → (LL.getD k []).length ≤ 8 := fun k hk => by
        have := ptsT_mem.1 (show LL.getD k [] ∈ ptsT q i by rw [← HL.out, List.getD_eq_getElem?_getD, List.getElem?_eq_getElem hk]; exact List.getElem_mem hk)
        omega
      have HLL := Lib.hid hll
      have hLl : LL.length ≤ 256 := by
        rw [HL.out, ptsT_len]
        exact HP.out i (by omega)
      clear hLL hlen h5 HK hll
      go_wp2_with fail
      go_loopg [7, 8, 9] LL.length (fun G s7 s8 s9 wr => ∃ (k : Nat) (N : List Li) (v9 : Value), k ≤ LL.length ∧ G = LL.length - k ∧ s8 = .int .i64 k ∧ s9 = v9 ∧ wr.ownsRow wi.heap.size 56 1 s7 N.length (N.map valLi) ∧ Hid (N.map Li.l = (LL.take k).flatMap (nxt q)) ∧ Hid (∀ y ∈ N, okLi y wr) ∧ Kept wi wr)
      case atStart => exact ⟨0, [], _, by omega, rfl, rfl, rfl, World.ownsRow_nil _ _ _ _, Lib.hid (by simp), Lib.hid (by simp), kept_refl _⟩
      case round =>
        obtain ⟨k, N, v9, hk, rfl, rfl, rfl, h7, HN1, HK1, K2⟩ := hrel
        by_cases hkt : k < LL.length
        · have d3 : decide ((k : Int) < (LL.length : Int)) = true := decide_eq_true (by omega)
          have d4 : decide (k < LL.length) = true := decide_eq_true (by omega)
          obtain ⟨b, off, E, ce, rfl, hc, hE⟩ := HRL.out k hkt
          obtain ⟨el, hel⟩ : ∃ el, el = LL.getD k [] := ⟨_, rfl⟩
          have HEL := Lib.hid hel
          have hl8 : el.length ≤ 8 := by rw [hel]; exact HLL.out k hkt
          rw [← hel] at hc hE
          have HC := Lib.hid hc
          have HE := Lib.hid hE
          clear hel hc hE
          go_wp2_with fail
          go_loopg [7, 9] q (fun G s7 s9 wr => ∃ (a : Nat) (N : List Li), a ≤ q ∧ G = q - a ∧ s9 = .int .i64 a ∧ wr.ownsRow wi.heap.size 56 1 s7 N.length (N.map valLi) ∧ Hid (N.map Li.l = (LL.take k).flatMap (nxt q) ++ (List.range a).map fun a : Nat => el ++ [(a : Int)]) ∧ Hid (∀ y ∈ N, okLi y wr) ∧ Kept wi wr)
          case atStart => exact ⟨0, N, by omega, rfl, rfl, h7, Lib.hid (by rw [HN1.out]; simp), HK1, K2⟩
          case round =>
            clear h7 HN1 HK1 K2
            obtain ⟨a, N, ha, rfl, rfl, h7, HN1, HK1, K2⟩ := hrel
            have hN : N.length ≤ 256 := by
              have := pre_len (q := q) (l := el) hkt ha
              rw [← HN1.out, List.length_map] at this
              exact Nat.le_trans this HN.out
            by_cases hat : a < q
            · have d5 : decide ((a : Int) < (q : Int)) = true := decide_eq_true (by omega)
              have d6 : decide (a < q) = true := decide_eq_true (by omega)
              have KA : Kept wr (wr.alloc (.cells #[] 3)) := kept_alloc (kept_refl _) _
              have oA : (wr.alloc (.cells #[] 3)).ownsRow wr.heap.size 3 1 (.slice (some ⟨wr.heap.size, 0, none⟩) 0 0) 0 (ints []) := (Own.new wr 3 []).row wr.heap.size 1 0 (Nat.le_refl _) rfl (by omega)
              have HEA := Lib.hid ((HE.out.kept K2).kept KA)
              have g1 := kept_cell KA (kept_cell K2 HC.out)
              have ea : IntKind.i64.wrap ((a : Nat) : Int) = a := IntWalk.i64_in _ (by omega)
              go_wp2_with (first
                | (at_builtin; refine app_any wr.heap.size rfl (.tmp 29) (.tmp 33) 56 3 (.int .i64 0) 1 8 rfl Tryd.underlying56 info3 rfl (by omega) (by omega) (.slice (some ⟨wr.heap.size, 0, none⟩) 0 0) 0 el.length ce E (ints []) (ints el) rfl rfl (by simp) HEA.out (one_ints _) oA (by simp) (by omega) ?_; intro v1 w1 hr1 hg1 _; rw [Nat.zero_add, show ints [] ++ ints el = ints el from rfl] at hr1; have K3 := kept_grown KA oA (Nat.le_refl _) hg1)
                | (at_builtin; refine app_law wr.heap.size rfl (.tmp 34) (.tmp 36) 56 3 (.int .i64 0) 1 8 rfl Tryd.underlying56 info3 rfl (by omega) (by omega) v1 el.length 1 (ints el) [.int .i64 a] rfl rfl rfl (one_lis _ rfl) hr1 K3.size (by omega) ?_; intro v2 w2 hr2 hg2 _; have K4 := kept_grown K3 hr1 (Nat.le_refl _) hg2; obtain ⟨A2, c2, rfl⟩ := row_val hr2; have h72 := row_kept h7 K4; have K24 := kept_trans K2 K4)
                | (at_builtin; refine app_law wi.heap.size rfl (.tmp 28) (.tmp 38) 63 56 (.slice none 0 0) 1 24 rfl Tryd.underlying63 info56 rfl (by omega) (by omega) u7 N.length 1 (N.map valLi) [.slice A2 (el.length + 1) c2] rfl rfl rfl (one_lis _ rfl) h72 K24.size (by omega) ?_; intro v3 w3 hr3 hg3 _))
              have okN : okLi ⟨A2, c2, el ++ [(a : Int)]⟩ w2 := by
                have h9 := row_base hr2 (Nat.zero_le _)
                unfold okLi valLi
                simpa [ints] using h9
              go_roundg (q - (a + 1))
              case rel => exact ⟨a + 1, N ++ [⟨A2, c2, el ++ [(a : Int)]⟩], by omega, rfl, by go_num, by
                (rw [List.map_append, List.length_append]; simpa [valLi] using hr3), Lib.hid (by
                rw [List.map_append, HN1.out, List.range_succ, List.map_append, List.append_assoc]; rfl), Lib.hid (fun y hy => by
                rcases List.mem_append.1 hy with hy | hy
                · exact ((HK1.out y hy).kept K4).grow h72 (by decide) hg3
                · rw [List.mem_singleton.1 hy]
                  exact okN.grow h72 (by decide) hg3), kept_grown K24 h72 (Nat.le_refl _) hg3⟩
              case measure => omega
            · have d5 : decide ((a : Int) < (q : Int)) = false := decide_eq_false (by omega)
              have d6 : decide (a < q) = false := decide_eq_false (by omega)
              obtain rfl : a = q := by omega
              have ek : IntKind.i64.wrap ((k : Nat) : Int) = k := IntWalk.i64_in _ (by omega)
              have HN2 := Lib.hid (show N.map Li.l = (LL.take (k + 1)).flatMap (nxt a) by
                rw [HN1.out, HEL.out, List.take_add_one, List.getElem?_eq_getElem hkt, List.flatMap_append, List.getD_eq_getElem?_getD, List.getElem?_eq_getElem hkt]
                simp [nxt])
              go_wp2_with fail
              go_roundg (LL.length - (k + 1))
              case rel => exact ⟨k + 1, N, _, by omega, rfl, by go_num, rfl, h7, HN2, HK1, K2⟩
              case measure => omega
        · have d3 : decide ((k : Int) < (LL.length : Int)) = false := decide_eq_false (by omega)
          have d4 : decide (k < LL.length) = false := decide_eq_false (by omega)
          obtain rfl : k = LL.length := by omega
          have ei : IntKind.i64.wrap ((i : Nat) : Int) = i := IntWalk.i64_in _ (by omega)
          have HN2 := Lib.hid (show N.map Li.l = ptsT q (i + 1) by rw [HN1.out, List.take_length, HL.out]; rfl)
          have h77 := row_base h7 K1.size
          clear h7
          go_wp2_with fail
          go_roundg (n - (i + 1))
          case rel => exact ⟨i + 1, N, _, _, _, by omega, rfl, by go_num, rfl, rfl, rfl, h77, HN2, HK1, kept_trans K1 K2⟩
          case measure => omega
    · have d1 : decide ((i : Int) < (n : Int)) = false := decide_eq_false (by omega)
      have d2 : decide (i < n) = false := decide_eq_false (by omega)
      obtain rfl : i = n := by omega
      have HR := Lib.hid (rll_of_row h5 HK.out)
      have HE := Lib.hid (show L.length = (ptsT q i).length by rw [← HL.out, List.length_map])
      clear h5
      go_wp2_with fail
      go_ret
      refine ⟨A5, c5, ?_, by have := HR.out; rw [HL.out] at this; exact this, K1⟩
      rw [← HE.out]
      rfl
end Go.Proofs.YtnjmpjdampdmmaaDoor
