/- Polynomials: the values of a table come one by one (maps.Values at this element type), and are collected (slices.Collect). -/
import Derived.Test.YtikfeemmjfoffaaGreatDoorC8
import Derived.RangeFuncNested
import Derived.RangeFuncBound
import Derived.RangeFuncCalls
import Derived.RangeFuncLeaves
import Derived.RangeFuncBox
import Derived.Shelf.Abstract
import Derived.Shelf.RegionOpen
import Derived.OwnWalkIn
import Derived.TacticsInMore
import Derived.LoopNIn
import Derived.LoopIn
import Derived.Sort.MapsRangeIn
set_option linter.unusedVariables false
set_option linter.unusedSimpArgs false
namespace Go.Proofs.YtikfeemmjfoffaaGreatDoor
open Go.RowKit Go.Maps Go.Shelf
attribute [local go_sem] Oper.semAt_some

/-- A term's value, its exponents unread. -/
structure Tv where
  c : Int
  E : Option Addr
  n : Nat
  cap : Nat
def encTv (x : Tv) : Value := .agg #[.int .i64 x.c, .slice x.E x.n x.cap]
def tvOf (v : Value) : Tv := match v with
  | .agg l => match l.toList with
    | [.int .i64 c, .slice E n cap] => ⟨c, E, n, cap⟩
    | _ => ⟨0, none, 0, 0⟩
  | _ => ⟨0, none, 0, 0⟩
/-- All have come: the keys, each once, in some order, each with its value. -/
def AllV (D : DataW Value) (ps : List (List UInt8 × Tv)) : Prop := (ps.map (·.1)).Perm (strKeys D) ∧ ∀ p ∈ ps, ∀ z, D.atKey (.string p.1) z = .held (encTv p.2)

set_option maxRecDepth 100000 in
set_option maxHeartbeats 1000000 in
theorem values97_in (F : Fence) (n : Nat) (h97 : F.fn 112) (hro : F.round = none) (hn : 1 ≤ n) (l Bm b nn : Nat) (D0 : DataW Value) (J Jx : List Tv → World → Prop)
    (hY : ∀ pre x W, J pre W → pre.length < Maps.size D0 → YieldAt F (n - 1) Tryz.prog l #[encTv x] W fun e W' =>
      (e = .returned (.bool true) ∧ J (pre ++ [x]) W' ∧ KeepsWalks W W') ∨ (e = .returned (.bool false) ∧ Jx (pre ++ [x]) W'))
    (W : World) (hJ : AbidesFrom W.heap.size J) (hm : W.cell? ⟨Bm, 0, none⟩ = some (.map (some b))) (hown : W.ownsMap Tryz.prog 9 termR b nn D0) (h0 : J [] W) :
    CallsIn F n Tryz.prog 112 #[.func (.yield l) #[] #[], .pointer (some ⟨Bm, 0, none⟩)] W fun e W' => (∃ v, e = .returned v) ∧
      ((∃ xs, (∃ ps, AllV D0 ps ∧ xs = ps.map (·.2)) ∧ J xs W') ∨ (∃ pre, True ∧ Jx pre W')) := by
  have K := string_keyed Tryz.underlying9
  refine callsIn_of_wp Tryz.func112 rfl h97 ?_ hro
  simp only [Tryz.ntmps112, List.size_toArray, List.length_cons, List.length_nil, Nat.reduceAdd, Nat.reduceSub, Array.replicate_succ, Array.replicate_zero, List.push_toArray, List.append_toArray, List.nil_append, List.cons_append]
  gi_wp2_with (first
    | (gi_at_range; refine wpListIn_range_own _ rfl _ 129 rfl 9 78 K Tryz.underlying129 _ b nn _ rfl hown ?_; intro w0 hrg0 hg0 hs0)
    | gi_in)
  go_frame
  gi_loopw [7] (fun _ wr => ∃ (left : Lit → Bool) (cnt : Nat) (ps : List (List UInt8 × Tv)), wr.ranges Tryz.prog 9 termR b W.heap.size nn D0 left cnt ∧ ps.length + cnt ≤ Maps.size D0 ∧ Collected D0 left (ps.map (·.1)) ∧ (∀ p ∈ ps, ∀ z, D0.atKey (.string p.1) z = .held (encTv p.2)) ∧ J (ps.map (·.2)) wr)
    (fun _ wr => wr.rangeLeft b W.heap.size)
  case atStart =>
    exact ⟨_, _, [], hrg0, by simp, Collected.start D0, by simp, hJ [] W w0 none h0 hg0 (fun r e => by cases e)⟩
  case round =>
    obtain ⟨left, cnt, ps, hrg, hcs, hC, hV, hJs⟩ := hrel
    gi_wp2_with (first
      | (gi_at_next; refine wpListIn_next_ranges _ rfl _ rfl 9 K termR encStr (fun x : Tv => encTv x) (fun key kl hk => by obtain ⟨x, hx, _⟩ := Maps.keyOf_str Tryz.underlying9 hk; exact ⟨x, hx⟩) (fun v y hv => by obtain ⟨c, E, n, cap, rfl, _⟩ := termR_inv hv; exact ⟨⟨c, E, n, cap⟩, rfl⟩) b W.heap.size nn _ _ _ rfl hrg ?_ ?_)
      | gi_in)
    · -- nothing is left
      intro hc0 hl0
      gi_wp2
      go_end0
      exact ⟨⟨_, rfl⟩, .inl ⟨_, ⟨ps, ⟨hC.perm hown K Tryz.underlying9 hl0, hV⟩, rfl⟩, hJs⟩⟩
    · -- an entry has come
      intro x c kl yd yp w2 cnt2 hkey hlk hv hat hrg2 hlt hg2 hs2 hen
      obtain ⟨x', ex, rfl, _⟩ := Maps.keyOf_str Tryz.underlying9 hkey
      obtain rfl : x = x' := encStr_inj ex
      obtain ⟨c', E, n', cap, ec, ez⟩ := termR_inv hv
      obtain rfl : c = ⟨c', E, n', cap⟩ := by
        unfold encTv at ec
        injection ec with ec
        have e := congrArg Array.toList ec
        obtain ⟨c1, c2, c3, c4⟩ := c
        simp only [List.cons.injEq, Value.int.injEq, Value.slice.injEq, true_and, and_true] at e
        obtain ⟨rfl, rfl, rfl, rfl⟩ := e
        rfl
      obtain rfl : yd = .held (encTv ⟨c', E, n', cap⟩) := (Prod.mk.inj ez).1
      have hJ2 : J (ps.map (·.2)) w2 := hJ _ wr w2 (some W.heap.size) hJs hg2 (fun r e => by cases e; exact ⟨Nat.le_refl _, hrg.iter_walk⟩)
      clear hs2
      have hga : w2.grownBy (w2.alloc (.cells #[.int .i64 c', .slice E n' cap] 78)) none := ⟨rfl, rfl, rfl, by simp, fun i hi _ => Below.heap_alloc w2 _ i hi⟩
      have hrgA := hrg2.kept hga (by simp) (by simp)
      have hJA : J (ps.map (·.2)) (w2.alloc (.cells #[.int .i64 c', .slice E n' cap] 78)) := hJ _ w2 _ none hJ2 hga (fun r e => by cases e)
      obtain ⟨fn, tmps, assign, body, hy, hR⟩ := hY (ps.map (·.2)) ⟨c', E, n', cap⟩ _ hJA (by simp; omega)
      unfold encTv at hen hy
      dsimp only at hy hen
      gi_wp2
      refine hR.mono ?_
      have hC2 : Collected D0 (fun z => left z && !z.sameKey (.string x)) ((ps ++ [(x, (⟨c', E, n', cap⟩ : Tv))]).map (·.1)) := by simpa using hC.step hlk hat
      have hV2 : ∀ p ∈ ps ++ [(x, (⟨c', E, n', cap⟩ : Tv))], ∀ z, D0.atKey (.string p.1) z = .held (encTv p.2) := fun p hp => (List.mem_append.1 hp).elim (hV p) (fun e => by simp at e; subst e; exact hat)
      rintro e W3 (⟨rfl, hJ3, hk3⟩ | ⟨rfl, hJx3⟩)
      · gi_wp2
        have hrg3 := hrgA.of_walks hk3
        go_roundw
        case rel => exact ⟨_, cnt2, ps ++ [(x, ⟨c', E, n', cap⟩)], hrg3, by simp; omega, hC2, hV2, by simpa using hJ3⟩
        case measure => rw [hrg3.left_eq, hrg.left_eq]; exact hlt
      · gi_wp2
        refine bodyPost_ret (results_none rfl _ _ _) rfl ?_
        exact ⟨⟨_, rfl⟩, .inr ⟨_, trivial, hJx3⟩⟩
theorem values97_stops (F : Fence) (n : Nat) (h97 : F.fn 112) (hro : F.round = none) (hn : 1 ≤ n) (Bm b nn : Nat) (D0 : DataW Value) (w : World) (hBm : Bm < w.heap.size) (hm : w.cell? ⟨Bm, 0, none⟩ = some (.map (some b))) (hown : w.ownsMap Tryz.prog 9 termR b nn D0) :
    SeqStopsK F n Tryz.prog 112 #[.pointer (some ⟨Bm, 0, none⟩)] (fun x => #[encTv x]) KeepsWalks (fun xs => ∃ ps, AllV D0 ps ∧ xs = ps.map (·.2)) (fun _ => True) (Maps.size D0) w := fun l J Jx W hW hJ _ hY h0 => by
  have hown' : W.ownsMap Tryz.prog 9 termR b nn D0 := by
    have hbl := hown.lt
    obtain ⟨es, clock, hb, Ft, hs, hD⟩ := hown
    exact ⟨es, clock, (hW.block b hbl).trans hb, Ft, hs, hD⟩
  exact values97_in F n h97 hro hn l Bm b nn D0 J Jx hY W hJ ((hW.cell (p := ⟨Bm, 0, none⟩) hBm).trans hm) hown' h0
set_option maxRecDepth 100000 in
set_option maxHeartbeats 1000000 in
theorem values80_in (F : Fence) (n : Nat) (h80 : F.fn 92) (hro : F.round = none) (mb : Option Nat) (w : World) :
    CallsIn F n Tryz.prog 92 #[.map mb] w fun e w' => e = .returned (.func (.func 112) #[] #[.pointer (some ⟨w.heap.size, 0, none⟩)]) ∧ w' = w.alloc (.cells #[.map mb] 129) := by
  refine callsIn_of_wp Tryz.func92 rfl h80 ?_ hro
  simp only [Tryz.ntmps92, List.size_toArray, List.length_cons, List.length_nil, Nat.reduceAdd, Nat.reduceSub, Array.replicate_succ, Array.replicate_zero, List.push_toArray, List.append_toArray, List.nil_append, List.cons_append]
  gi_wp2
  go_ret
  exact ⟨rfl, rfl⟩

/-! ### slices.AppendSeq -/
theorem info67 : (Tryz.prog.info? 78).map (fun i => (i.zero, i.size, i.bytes)) = some (some (.agg #[.int .i64 0, .slice none 0 0]), 2, 32) := by kernel_rfl
def tvCells (l : List Tv) : List Value := l.flatMap fun x => [.int .i64 x.c, .slice x.E x.n x.cap]
theorem tvCells_snoc (l : List Tv) (x : Tv) : tvCells (l ++ [x]) = tvCells l ++ [.int .i64 x.c, .slice x.E x.n x.cap] := by simp [tvCells]
theorem own_own (B : Nat) (t : TypeId) (cs : List Value) : Go.Own (fun (_ : Unit) W => Own W B t cs) := fun s X Y row hs hg hrow =>
  hs.grown hg (fun e' => by obtain ⟨o, ho, hc⟩ := hrow B e'.symm; rw [show X.heap[B]? = _ from hs] at ho; cases ho; cases hc)
theorem cell_two_new (w : World) (x y : Value) (t : TypeId) : ∀ j u, [x, y][j]? = some u → (w.alloc (.cells #[x, y] t)).cell? ((⟨w.heap.size, 0, none⟩ : Addr).add j) = some u := by
  intro j u hj
  have h := (Own.new w t [x, y]).cell hj
  have e : (⟨w.heap.size, 0, none⟩ : Addr).add j = ⟨w.heap.size, j, none⟩ := by
    unfold Addr.add
    split <;> simp_all
  rw [e]; exact h
set_option maxRecDepth 100000 in
set_option maxHeartbeats 1000000 in
theorem appendSeq102_in (F : Fence) (n : Nat) (h102 : F.fn 126) (hro : F.round = none) (hn : 3 ≤ n) (gf : Nat) (lb : Array Value) (hFg : F.fn gf) (eg : ∀ args w, (callFunc gf args).run Tryz.prog w = .ok (.enter gf args) w)
    (S Sp : List Tv → Prop) (N : Nat) (hN : N ≤ 1000000000000) (w : World) (hseq : SeqStopsK F (n - 1) Tryz.prog gf lb (fun x => #[encTv x]) KeepsWalks S Sp N w) :
    CallsIn F n Tryz.prog 126 #[.slice none 0 0, .func (.func gf) #[] lb] w fun e w' => ∃ (v : Value) (xs : List Tv), e = .returned v ∧ S xs ∧ w'.ownsRow w.heap.size 78 2 v xs.length (tvCells xs) ∧ (v = .slice none 0 0 ↔ xs = []) ∧ Below w.heap.size w w' := by
  have h1 : 1 ≤ n := by omega
  obtain ⟨i0, hi, hzz⟩ := Option.map_eq_some_iff.1 info67
  simp only [Prod.mk.injEq] at hzz
  obtain ⟨hz0, hz1, hz2⟩ := hzz
  refine callsIn_of_wp_marks Tryz.func126 rfl h102 ?_ hro
  simp only [Tryz.ntmps126, List.size_toArray, List.length_cons, List.length_nil, Nat.reduceAdd, Nat.reduceSub, Array.replicate_succ, Array.replicate_zero, List.push_toArray, List.append_toArray, List.nil_append, List.cons_append]
  gi_wp2
  have bO := Boxed.new w 34 (.slice none 0 0)
  have hB0 : Below w.heap.size w (w.alloc (.cells #[.slice none 0 0] 34)) := (Below.refl _ w).alloc (Nat.le_refl _) _
  have hsz : (w.alloc (.cells #[.slice none 0 0] 34)).heap.size = w.heap.size + 1 := by simp
  obtain ⟨W0, hW0⟩ : ∃ W0, w.alloc (.cells #[.slice none 0 0] 34) = W0 := ⟨_, rfl⟩
  have hseq0 : Below w.heap.size w W0 := hW0 ▸ hB0
  rw [hW0] at bO hB0 hsz ⊢
  clear hW0
  refine wpIn_rangeFunc_ownH hro h1 (gf := gf) (lb := lb) rfl hFg eg hseq walksK_t walksK_b hseq0 (fun _ => rfl)
    (fun pre W => (∃ v, Boxed W w.heap.size 34 v ∧ W.ownsRow w.heap.size 78 2 v pre.length (tvCells pre) ∧ (v = .slice none 0 0 ↔ pre = [])) ∧ Below w.heap.size w W)
    (fun _ _ _ => False)
    (OwnFrom.and (Own.from (holdsRow_own w.heap.size w.heap.size 34 78 2 (fun pre : List Tv => pre.length) (fun pre => tvCells pre) (fun pre v => v = .slice none 0 0 ↔ pre = [])) _) (ownFrom_below (Nat.le_refl _) (by omega)))
    (fun _ _ _ _ _ hs _ _ => hs)
    ⟨⟨_, bO, World.ownsRow_nil _ _ _ _, by simp⟩, hB0⟩
    (fun x a' W => ∃ Bx, w.heap.size < Bx ∧ YtikfeemmjfoffaaGreatDoor.Own W Bx 78 [.int .i64 x.c, .slice x.E x.n x.cap] ∧ a' = { tmps := #[.slice none 0 0, .func (.func gf) #[] lb, .pointer (some ⟨w.heap.size, 0, none⟩), undef, .slice none 0 0, .pointer (some ⟨Bx, 0, none⟩), .func (.func gf) #[] lb, encTv x, undef, undef, undef, undef, undef], defers := [] })
    (fun x a' _ X Y row hs hg hr => by obtain ⟨Bx, h1, h2, h3⟩ := hs; exact ⟨Bx, h1, own_own Bx 78 _ () X Y row h2 hg (fun r e => (hr r e).2), h3⟩)
    ?assign ?body ?done ?stop
  case assign =>
    rintro l pre ⟨c, E, m, cap⟩ W K ⟨⟨v, bv, hrow, hnil⟩, hB1⟩ hK
    unfold encTv
    gi_wp2
    exact hK _ _ ((KeepsOthers.alloc _ _).from _) (KeepsOthers.alloc _ _).walks ⟨⟨v, bv.alloc _, hrow.alloc _, hnil⟩, hB1.alloc hB1.size _⟩ ⟨W.heap.size, bv.lt, Own.new W 78 _, rfl⟩
  case body =>
    rintro l pre ⟨c, E, m, cap⟩ a' W hl ⟨r, hr⟩ ⟨⟨v, bv, hrow, hnil⟩, hB1⟩ ⟨Bx, hBx, bX, rfl⟩ hlt
    have hc := bv.cell
    have x0 := bX.cell (j := 0) rfl
    have x1 := bX.cell (j := 1) rfl
    gi_wp2_with (gi_at_builtin; refine wpListIn_append_own _ rfl _ _ 34 rfl w.heap.size 78 i0 (.agg #[.int .i64 0, .slice none 0 0]) 2 32 Tryz.underlying34 hi hz0 hz1 hz2 rfl (by decide) _ _ _ rfl (hrow.alloc _) ⟨W.heap.size, 0, none⟩ 1 1 [.int .i64 c, .slice E m cap] rfl rfl (cell_two_new _ _ _ _) (by simp [Value.oneCell']) (by simp only [maxLen]; omega) (by omega) (by have := hB1.size; simp; omega) ?_; intro v' w1 hown' hgrow _; obtain ⟨g', cap', rfl⟩ := ownsRow_succ hown'; obtain ⟨hv1, hv2, hr2, hk2, hb2⟩ := bv.appended (by decide) hrow hB1.size (Nat.le_refl _) hown' hgrow; have hc1 := hv1.cell; have hf1 := hv1.frozen)
    exact ⟨hk2.from _, hk2.walks, ⟨⟨_, hv2, by rw [tvCells_snoc]; simpa using hr2, by simp⟩, hB1.trans hb2⟩⟩
  case done =>
    rintro D xs W hD hS ⟨⟨v, bv, hrow, hnil⟩, hB⟩ hK
    have hc := bv.cell
    gi_wp2
    refine ⟨by simp, .inl ⟨_, _, rfl, run_takeDeferred hK, ?_⟩⟩
    exact ⟨_, results_tmp rfl _ _ _, v, xs, rfl, hS, ownsRow_putObj hrow _ hK rfl, hnil, hB.trans (belowK_b (w := w) (Nat.le_refl _) W D _ _ (by omega) hK rfl rfl)⟩
  case stop =>
    rintro D c pre W _ _ h _
    exact h.elim
end Go.Proofs.YtikfeemmjfoffaaGreatDoor
